/- Package support: the variables of terms, and how many nodes they have. -/
import Derived.Test.YtofbadmjopefpaaSupS
namespace Go.Proofs.Ytofbadmjopefpaa
open Go.RowKit Go.Maps
set_option maxHeartbeats 3200000

/-- The variable that a key stands for. -/
def varK (L : List PNode) : Value → Option Int | .int _ j => varN L j.toNat | _ => none
/-- What a loop over the nodes has collected. -/
def outD (L : List PNode) (d : List (Value × Value)) : List Int := d.filterMap fun p => varK L p.1
theorem outD_add {L : List PNode} {d : List (Value × Value)} {j : Nat} {v : Value} {x : Int} (h : varN L j = some x) : outD L (d ++ [(.int .i64 (j : Int), v)]) = outD L d ++ [x] := by
  unfold outD; rw [List.filterMap_append]; simp [varK, h]
theorem outD_not {L : List PNode} {d : List (Value × Value)} {j : Nat} {v : Value} (h : varN L j = none) : outD L (d ++ [(.int .i64 (j : Int), v)]) = outD L d := by
  unfold outD; rw [List.filterMap_append]; simp [varK, h]
theorem outD_map (L : List PNode) (d : List (Value × Value)) : outD L d = (d.map (·.1)).filterMap (varK L) := by
  unfold outD; rw [List.filterMap_map]; rfl
theorem outD_end {L : List PNode} {S : Nat → Bool} {f : Int → Option Value} {m d : List (Value × Value)} (hf : NodeF L S f) (hn : (m.map (·.1)).Nodup) (h3 : ∀ p ∈ m, ∃ k v, p = (Value.int .i64 k, v) ∧ f k = some v) (h4 : ∀ k v, f k = some v → (Value.int .i64 k, v) ∈ m) (hd : d.Perm m) :
    (outD L d).Perm (varsS L S) := by
  have h1 : (outD L d).Perm (outD L m) := hd.filterMap _
  refine h1.trans ?_
  have h2 : varsS L S = (((List.range L.length).filter S).map fun j => Value.int .i64 ((j : Nat) : Int)).filterMap (varK L) := by
    unfold varsS; rw [List.filterMap_map]; rfl
  rw [outD_map, h2]
  refine List.Perm.filterMap _ ?_
  have hn2 : (((List.range L.length).filter S).map fun j => Value.int .i64 ((j : Nat) : Int)).Nodup := by
    refine List.Pairwise.map _ ?_ (List.nodup_range.sublist List.filter_sublist)
    intro x y hne e
    simp only [Value.int.injEq, true_and] at e
    omega
  refine (List.perm_ext_iff_of_nodup hn hn2).2 fun a => ⟨fun ha => ?_, fun ha => ?_⟩
  · obtain ⟨p, hp, rfl⟩ := List.mem_map.1 ha
    obtain ⟨k, v, rfl, hk⟩ := h3 p hp
    obtain ⟨j, rfl, hj⟩ := hf.only _ _ hk
    obtain ⟨n, -, -, -, hl, -⟩ := hf.has j hj
    exact List.mem_map.2 ⟨j, mem_range_filter.2 ⟨(List.getElem?_eq_some_iff.1 hl).1, hj⟩, rfl⟩
  · obtain ⟨j, hj, rfl⟩ := List.mem_map.1 ha
    obtain ⟨n, a', m', c', -, hl⟩ := hf.has j (mem_range_filter.1 hj).2
    exact List.mem_map.2 ⟨_, h4 _ _ hl, rfl⟩
theorem rngLeft_of {w : World} {mb r : Nat} {m d : List (Value × Value)} (h : MapRng w mb r m d) : rngLeft w mb r + d.length = m.length := by
  obtain ⟨es, clock, seen, h1, h2, h3, h4, h5⟩ := h
  have h6 := h5.length_eq
  unfold rngLeft
  rw [h1, h4]
  simp only [List.length_append, List.length_map, Array.length_toList] at h6
  simp only
  omega
theorem outD_len {L : List PNode} {d : List (Value × Value)} : (outD L d).length ≤ d.length := by
  unfold outD; exact List.length_filterMap_le _ _
section
variable {w0 wr w' : World} {ts : List Thing} {F I : List Nat} {gb W room : Nat} {L : List PNode}
set_option maxRecDepth 100000 in
theorem vars_nil (w : World) (v : Value) : Calls Try.prog 13 #[.pointer none, v] w fun e w' => e = .returned (.tuple #[.slice none 0 0, .int .i64 1]) ∧ w = w' := by
  go_enter Try.func13, Try.ntmps13
  go_wp2_with (go_at_call 32; refine (occur_nil _ _).mono ?_; rintro e w2 ⟨rfl, rfl⟩)
  go_ret2
  exact ⟨rfl, rfl⟩
set_option maxRecDepth 100000 in
theorem size_nil (w : World) (v : Value) : Calls Try.prog 14 #[.pointer none, v] w fun e w' => e = .returned (.tuple #[.int .i64 0, .int .i64 1]) ∧ w = w' := by
  have hl : ∀ w ty, (Builtin.len_ #[74] ty #[.map none]).run Try.prog w = .ok (.int .i64 0) w := fun w ty => by kernel_rfl
  go_enter Try.func14, Try.ntmps14
  go_wp2_with (go_at_call 32; refine (occur_nil _ _).mono ?_; rintro e w2 ⟨rfl, rfl⟩)
  go_ret2
  exact ⟨rfl, rfl⟩
/-- Size. -/
theorem Lab.sizeOf (h : Lab w0 wr (Thing.graph F I gb W room L :: ts)) (v : Value) (us : List Int) (hv : SliceOf wr .i64 v us) (hn : us.length ≤ 900000000) :
    Calls Try.prog 14 #[.pointer (some ⟨gb, 0, none⟩), v] wr fun e w' => (InL L us → e = .returned (.tuple #[.int .i64 (cntS L (occS L us)), .int .i64 0]) ∧ Lab w0 w' (Thing.graph F I gb W room L :: ts)) ∧ (¬ InL L us → e = .returned (.tuple #[.int .i64 0, .int .i64 3]) ∧ wr = w') := by
  have hocc := occur_any h v us hv hn
  have HO := Lib.hid hocc
  clear h hv hn hocc
  by_cases hin : InL L us
  · go_enter Try.func14, Try.ntmps14
    go_wp2_with fail
    go_at_call 32
    refine HO.out.mono ?_
    rintro e w2 ⟨h1, -⟩
    obtain ⟨mb, f, rfl, hf, hl⟩ := h1 hin
    have hlen := MapF.len (T := 74) hl.mapf Try.underlying74 3
    have HL := Lib.hid hl.drop
    clear hl hf h1
    go_wp2
    go_ret2
    exact ⟨fun _ => ⟨rfl, HL.out⟩, fun h => absurd hin h⟩
  · have hl : ∀ w ty, (Builtin.len_ #[74] ty #[.map none]).run Try.prog w = .ok (.int .i64 0) w := fun w ty => by kernel_rfl
    go_enter Try.func14, Try.ntmps14
    go_wp2_with fail
    go_at_call 32
    refine HO.out.mono ?_
    rintro e w2 ⟨-, h2⟩
    obtain ⟨rfl, rfl⟩ := h2 hin
    go_wp2
    go_ret2
    exact ⟨fun h => absurd h hin, fun _ => ⟨rfl, rfl⟩⟩
set_option maxRecDepth 100000 in
/-- Vars. -/
theorem Lab.vars (h : Lab w0 wr (Thing.graph F I gb W room L :: ts)) (hg : GoodL W L) (v : Value) (us : List Int) (hv : SliceOf wr .i64 v us) (hn : us.length ≤ 900000000) :
    Calls Try.prog 13 #[.pointer (some ⟨gb, 0, none⟩), v] wr fun e w' =>
      (InL L us → ∃ a c, e = .returned (.tuple #[.slice a (varsO L (occS L us)).length c, .int .i64 0]) ∧ Lab w0 w' (Thing.ints (.slice a (varsO L (occS L us)).length c) (varsO L (occS L us)) :: Thing.graph F I gb W room L :: ts)) ∧
      (¬ InL L us → e = .returned (.tuple #[.slice none 0 0, .int .i64 3]) ∧ wr = w') := by
  have hocc := occur_any h v us hv hn
  have hll : L.length ≤ 1048576 := by have := h.gr.len; have := h.gr.r2; omega
  have HO := Lib.hid hocc; have HG := Lib.hid hg
  clear h hv hn hocc hg
  by_cases hin : InL L us
  · go_enter Try.func13, Try.ntmps13
    go_wp2_with fail
    go_at_call 32
    refine HO.out.mono ?_
    rintro e w2 ⟨h1, -⟩
    obtain ⟨mb, f, rfl, hf, hl⟩ := h1 hin
    clear h1 HO
    have HF := Lib.hid hf; have HL := Lib.hid hl
    obtain ⟨mm, hm1, hm2, hm3, hm4⟩ := hl.mapf
    have hmn : (mm.map (·.1)).Nodup := by obtain ⟨_, _, _, _, _, h4, _⟩ := hm1; exact h4
    have hml : mm.length ≤ 1048576 := by rw [hm2]; exact Nat.le_trans cntS_le hll
    have HM1 := Lib.hid hm1; have HM3 := Lib.hid hm3; have HM4 := Lib.hid hm4; have HMN := Lib.hid hmn; have HML := Lib.hid hml
    clear hf hl hm1 hm2 hm3 hm4 hmn hml
    go_wp2_with (at_range; refine wpList_range_map rfl _ 74 54 rfl Try.underlying74 rfl HM1.out ?_; intro w5 hrg hb5 hs5)
    go_frame
    have hl5 := (HL.out.rng_start hrg hb5).nil_ints.swap
    obtain ⟨r, hr⟩ : ∃ r, w2.heap.size = r := ⟨_, rfl⟩
    rw [hr] at hl5 ⊢
    have HL5 := Lib.hid hl5
    clear hl5 hrg hb5 hs5 hr HM1 HL
    go_loopw [8] (fun v wx => ∃ d a c, v = .slice a (outD L d).length c ∧ Lab w0 wx (Thing.rng mb r mm d :: Thing.ints (.slice a (outD L d).length c) (outD L d) :: Thing.graph F I gb W room L :: ts)) (fun _ wx => rngLeft wx mb r)
    case atStart => exact ⟨[], none, 0, rfl, HL5.out⟩
    case round =>
      obtain ⟨d, a, c, rfl, hlab⟩ := hrel
      clear HL5
      have HLR := Lib.hid hlab
      have hrg := hlab.rng
      have HRG := Lib.hid hrg
      clear hlab hrg
      go_wp2_with (at_next; refine wpList_next_map rfl _ rfl rfl HRG.out ?_ ?_)
      · intro hperm
        have hpo := outD_end HF.out HMN.out HM3.out HM4.out hperm
        have hso : (outD L d).mergeSort leI = varsO L (occS L us) := sort_perm hpo
        have hln : (outD L d).length = (varsO L (occS L us)).length := by rw [← hso]; simp
        have hlo : (outD L d).length ≤ 1000000000 := by have := varsO_len (L := L) (S := occS L us); omega
        have hsort := sort_lab HLR.out.drop hlo
        rw [hso, hln] at hsort
        rw [hln]
        have HSORT := Lib.hid hsort
        clear hperm hpo hso hln hlo hsort HLR HRG
        go_wp2_with fail
        go_at_call 33
        refine HSORT.out.mono ?_
        rintro e w7 ⟨rfl, hl7⟩
        have HL7 := Lib.hid hl7
        clear hl7
        go_wp2
        go_ret2
        exact ⟨fun _ => ⟨_, _, rfl, HL7.out⟩, fun h => absurd hin h⟩
      · intro kk vv w6 l0 hmem hrg6 hlt6 hbut6 hen6
        obtain ⟨j, rfl, hj⟩ := rng_key HM3.out ⟨l0, hmem⟩
        obtain ⟨jn, rfl, hjs⟩ := HF.out.only _ _ hj
        obtain ⟨n, a', m', c', hln, hfj⟩ := HF.out.has jn hjs
        have hvv := hfj.symm.trans hj
        simp only [Option.some.injEq] at hvv
        subst hvv
        have hdl : d.length ≤ 1048576 := by have h1 := hmem.length_eq; have h2 := HML.out; simp only [List.length_append, List.length_cons] at h1; omega
        have hol := outD_len (L := L) (d := d)
        have hl6 := HLR.out.rng_next hrg6 hbut6
        obtain ⟨q, hq⟩ : ∃ q, w6.heap.size = q := ⟨_, rfl⟩
        have hl7 := hl6.alloc #[.int .u8 n.1, .int .u64 n.2.1, .slice a' m' c'] 54
        rw [hq] at hl7
        have HL7 := Lib.hid hl7; have HLN := Lib.hid hln
        clear hl6 hl7 hj hmem hrg6 hbut6 HRG hfj hjs hln hlt6
        go_upto_region 8 with fail
        clear hq hen6
        have hm0 := rngLeft_of HLR.out.rng
        have HM0 := Lib.hid hm0
        clear hm0 HLR
        refine wp_abs (fun w7 => Lab w0 w7 (Thing.box q 54 #[.int .u8 n.1, .int .u64 n.2.1, .slice a' m' c'] :: Thing.rng mb r mm (d ++ [(.int .i64 (jn : Int), .agg #[.int .u8 n.1, .int .u64 n.2.1, .slice a' m' c'])]) :: Thing.ints (.slice a (outD L d).length c) (outD L d) :: Thing.graph F I gb W room L :: ts)) HL7.out ?_
        clear HL7
        rintro w7 hl7
        obtain ⟨x0, x1, x2⟩ := cells3 hl7.box1
        have hgood := HG.out n (List.mem_of_getElem? HLN.out)
        by_cases h1 : n.1 = 1
        · have hb : (n.2.1 : Int) ≤ 4194303 := by unfold NodeGood at hgood; omega
          have h1' : ((n.1 : Int) == 1) = true := by rw [h1]; rfl
          have hadd := outD_add (d := d) (v := .agg #[.int .u8 n.1, .int .u64 n.2.1, .slice a' m' c']) (varN_some.2 ⟨n, HLN.out, h1, rfl⟩)
          have hl8 := (hl7.drop.swap.alloc #[.int .i64 (n.2.1 : Int)] 3).swap
          have hsrc := sliceOf_new w7 .i64 3 [(n.2.1 : Int)] 1
          have hlx : (outD L d).length + [(n.2.1 : Int)].length ≤ 1000000000 := by simp only [List.length_singleton]; omega
          have HL8 := Lib.hid hl8; have HADD := Lib.hid hadd; have HSRC := Lib.hid hsrc
          clear hl7 hl8 hadd hgood hsrc
          go_wp2_with (at_builtin; refine wpList_append_lab (.tmp 29) (.tmp 33) HL8.out HSRC.out rfl rfl rfl rfl hlx ?_; intro a9 c9 w9 hl9)
          have HL9 := Lib.hid (hl9.subl (ts' := Thing.ints (.slice a9 (outD L d ++ [(n.2.1 : Int)]).length c9) (outD L d ++ [(n.2.1 : Int)]) :: Thing.rng mb r mm (d ++ [(.int .i64 (jn : Int), .agg #[.int .u8 n.1, .int .u64 n.2.1, .slice a' m' c'])]) :: Thing.graph F I gb W room L :: ts) (.cons_cons _ (.cons _ (List.Sublist.refl _)))).swap
          clear hl9 HL8 HSRC x0 x1 x2
          go_roundw
          case rel => exact ⟨_, a9, c9, by rw [HADD.out, List.length_append]; rfl, by rw [HADD.out]; exact HL9.out⟩
          case measure =>
            have h2 := rngLeft_of HL9.out.rng
            have h3 := HM0.out
            rw [List.length_append] at h2
            simp only [List.length_singleton] at h2
            omega
        · have h1' : ((n.1 : Int) == 1) = false := by rw [beq_eq_false_iff_ne]; omega
          have hno : varN L jn = none := by
            cases e : varN L jn with
            | none => rfl
            | some x =>
              obtain ⟨n', e1, e2, -⟩ := varN_some.1 e
              rw [HLN.out] at e1
              cases e1
              exact absurd e2 h1
          have hadd := outD_not (d := d) (v := .agg #[.int .u8 n.1, .int .u64 n.2.1, .slice a' m' c']) hno
          have HL8 := Lib.hid hl7.drop; have HADD := Lib.hid hadd
          clear hl7 hadd hgood hno
          go_wp2
          go_roundw
          case rel => exact ⟨_, a, c, by rw [HADD.out], by rw [HADD.out]; exact HL8.out⟩
          case measure =>
            have h2 := rngLeft_of HL8.out.rng
            have h3 := HM0.out
            rw [List.length_append] at h2
            simp only [List.length_singleton] at h2
            omega
  · go_enter Try.func13, Try.ntmps13
    go_wp2_with fail
    go_at_call 32
    refine HO.out.mono ?_
    rintro e w2 ⟨-, h2⟩
    obtain ⟨rfl, rfl⟩ := h2 hin
    go_wp2
    go_ret2
    exact ⟨fun h => absurd h hin, fun _ => ⟨rfl, rfl⟩⟩
end
end Go.Proofs.Ytofbadmjopefpaa
