/- SupportMatches. -/
import Derived.Test.YtofbadmjopefpaaSupQ
namespace Go.Proofs.Ytofbadmjopefpaa
open Go.RowKit Go.Maps
set_option maxHeartbeats 12800000

section
variable {w0 wr w' : World} {ts : List Thing} {F I : List Nat} {gb W room : Nat} {L : List PNode}
theorem Lab.box4 {x y z : Thing} {b T : Nat} {arr : Array Value} (h : Lab w0 wr (x :: y :: z :: Thing.box b T arr :: ts)) : wr.heap[b]? = some (.cells arr T (0, 0)) := h.fourth
theorem Lab.box5 {x y z t : Thing} {b T : Nat} {arr : Array Value} (h : Lab w0 wr (x :: y :: z :: t :: Thing.box b T arr :: ts)) : wr.heap[b]? = some (.cells arr T (0, 0)) := h.fifth
/-- What Vars and Size answer of a list. -/
def AnsV (L : List PNode) (us : List Int) (X : List Int) (q E : Nat) : Prop :=
  (InL L us ∧ varsO L (occS L us) = X ∧ cntS L (occS L us) = q ∧ E = 0) ∨ (¬ InL L us ∧ X = [] ∧ q = 0 ∧ E = 3)
theorem ansV_some (L : List PNode) (us : List Int) : ∃ X q E, AnsV L us X q E ∧ X.length ≤ L.length := by
  by_cases h : InL L us
  · exact ⟨_, _, _, .inl ⟨h, rfl, rfl, rfl⟩, varsO_len⟩
  · exact ⟨[], 0, 3, .inr ⟨h, rfl, rfl, rfl⟩, by simp⟩
theorem Lab.vars_all (h : Lab w0 wr (Thing.graph F I gb W room L :: ts)) (hg : GoodL W L) (v : Value) (us : List Int) (hv : SliceOf wr .i64 v us) (hn : us.length + 3 * L.length ≤ 17592186044400) {X : List Int} {q E : Nat} (ha : AnsV L us X q E) :
    Calls Try.prog 13 #[.pointer (some ⟨gb, 0, none⟩), v] wr fun e w' => ∃ a c, e = .returned (.tuple #[.slice a X.length c, .int .i64 E]) ∧ Lab w0 w' (Thing.ints (.slice a X.length c) X :: Thing.graph F I gb W room L :: ts) := by
  refine (h.vars8 hg v us hv hn).mono ?_
  rintro e w2 ⟨h1, h2⟩
  rcases ha with ⟨hi, rfl, rfl, rfl⟩ | ⟨hi, rfl, rfl, rfl⟩
  · exact h1 hi
  · obtain ⟨rfl, rfl⟩ := h2 hi
    exact ⟨none, 0, rfl, h.nil_ints⟩
theorem Lab.size_all (h : Lab w0 wr (Thing.graph F I gb W room L :: ts)) (v : Value) (us : List Int) (hv : SliceOf wr .i64 v us) (hn : us.length + 3 * L.length ≤ 17592186044400) {X : List Int} {q E : Nat} (ha : AnsV L us X q E) :
    Calls Try.prog 14 #[.pointer (some ⟨gb, 0, none⟩), v] wr fun e w' => e = .returned (.tuple #[.int .i64 q, .int .i64 E]) ∧ Lab w0 w' (Thing.graph F I gb W room L :: ts) := by
  refine (h.sizeOf8 v us hv hn).mono ?_
  rintro e w2 ⟨h1, h2⟩
  rcases ha with ⟨hi, rfl, rfl, rfl⟩ | ⟨hi, rfl, rfl, rfl⟩
  · exact h1 hi
  · obtain ⟨rfl, rfl⟩ := h2 hi
    exact ⟨rfl, h⟩
theorem Lab.rvars_all (h : Lab w0 wr (Thing.rgraph F I gb W room L :: ts)) (hg : GoodL W L) (v : Value) (us : List Int) (hv : SliceOf w0 .i64 v us) (hn : us.length ≤ 9223372036854775807) {X : List Int} {q E : Nat} (ha : AnsV L us X q E) :
    Calls Try.prog 18 #[.pointer (some ⟨gb, 0, none⟩), v] wr fun e w' => ∃ a c, e = .returned (.tuple #[.slice a X.length c, .int .i64 E]) ∧ Lab w0 w' (Thing.ints (.slice a X.length c) X :: Thing.rgraph F I gb W room L :: ts) := by
  refine (h.rvars hg v us hv hn).mono ?_
  rintro e w2 ⟨h1, h2⟩
  rcases ha with ⟨hi, rfl, rfl, rfl⟩ | ⟨hi, rfl, rfl, rfl⟩
  · exact h1 hi
  · obtain ⟨rfl, hl⟩ := h2 hi
    exact ⟨none, 0, rfl, hl.nil_ints⟩
theorem Lab.rsize_all (h : Lab w0 wr (Thing.rgraph F I gb W room L :: ts)) (v : Value) (us : List Int) (hv : SliceOf w0 .i64 v us) (hn : us.length ≤ 9223372036854775807) {X : List Int} {q E : Nat} (ha : AnsV L us X q E) :
    Calls Try.prog 19 #[.pointer (some ⟨gb, 0, none⟩), v] wr fun e w' => e = .returned (.tuple #[.int .i64 q, .int .i64 E]) ∧ Lab w0 w' (Thing.rgraph F I gb W room L :: ts) := by
  refine (h.rsize v us hv hn).mono ?_
  rintro e w2 ⟨hl, h1, h2⟩
  rcases ha with ⟨hi, rfl, rfl, rfl⟩ | ⟨hi, rfl, rfl, rfl⟩
  · exact ⟨h1 hi, hl⟩
  · exact ⟨h2 hi, hl⟩
theorem doR_good {W room : Nat} {L : List PNode} (h : GoodL W L) (a : PAsk) : GoodL W (doR W room L a).1 := by
  unfold doR
  split
  · exact h.const room _
  · split
    · exact h.var room _
    · exact h.app room _ _
theorem doR_len (W room : Nat) (L : List PNode) (a : PAsk) : (doR W room L a).1.length ≤ L.length + 1 := by
  unfold doR
  split
  · exact (askP_len _ _ _).2
  · split
    · unfold varR; split
      · exact (askP_len _ _ _).2
      · exact Nat.le_succ _
    · unfold appR; split
      · split
        · exact (askP_len _ _ _).2
        · exact Nat.le_succ _
      · exact Nat.le_succ _
end
set_option maxRecDepth 100000 in
theorem supportMatches_bad {w : World} (Wi : Int) (v u : Value) (h : ¬ newOk Wi 0) (hv : ∃ a n c, v = .slice a n c) (hu : ∃ a n c, u = .slice a n c) :
    Calls Try.prog 4 #[.int .i64 Wi, v, u] w fun e w' => e = .returned (.bool true) ∧ Below w.heap.size w w' := by
  obtain ⟨a, n, c, rfl⟩ := hv
  obtain ⟨a2, n2, c2, rfl⟩ := hu
  have HM := Lib.hid (make_bad Wi 0 h w)
  clear h
  go_enter Try.func4, Try.ntmps4
  go_wp2_with fail
  go_at_call 16
  refine HM.out.mono ?_
  rintro e w1 ⟨rfl, hb1⟩
  have hl1 := Lab.nil hb1
  obtain ⟨pb, hpb⟩ : ∃ pb, w1.heap.size = pb := ⟨_, rfl⟩
  have hl2 := hl1.alloc #[.pointer none, .pointer none] 38
  rw [hpb] at hl2
  have HL2 := Lib.hid hl2
  clear hb1 hl1 hl2
  go_upto_region 4 with fail
  clear hpb
  refine wp_abs (fun w2 => Lab w w2 [Thing.box pb 38 #[.pointer none, .pointer none]]) HL2.out ?_
  rintro w2 hl
  have hbx := hl.box1
  have k1 : w2.cell? ⟨pb, 1, none⟩ = some (.pointer none) := by rw [cell_of_row w2 _ 1 _ _ _ hbx]; rfl
  have HAW := Lib.hid hl.awake14
  clear hl HL2 HM hbx
  go_wp2_with fail
  go_at_call 13
  refine (vars_nil _ _).mono ?_
  rintro e w3 ⟨rfl, rfl⟩
  go_wp2_with fail
  go_at_call 14
  refine (size_nil _ _).mono ?_
  rintro e w4 ⟨rfl, rfl⟩
  go_wp2_with fail
  go_at_call 15
  refine HAW.out.mono ?_
  rintro e w5 ⟨rfl, hb⟩
  go_wp2
  go_ret
  exact ⟨rfl, hb⟩
set_option maxRecDepth 100000 in
theorem supportMatches_ok {w : World} (Wi : Int) (v u : Value) (h : newOk Wi 0) (qs : List PAsk) (hv : AsksOf w v qs) (hq : qs.length ≤ 9223372036854775807) (ss : List (List Int)) (hu : ListsOf w u ss) (hn2 : ss.length ≤ 9223372036854775807) :
    Calls Try.prog 4 #[.int .i64 Wi, v, u] w fun e w' => e = .returned (.bool true) ∧ Below w.heap.size w w' := by
  obtain ⟨a2, n2, c2, rfl, hl2, hcell2⟩ := hu
  rw [hl2] at hn2
  obtain ⟨a, cap, rfl⟩ := hv.parts
  obtain ⟨n, hn⟩ : ∃ n, qs.length = n := ⟨_, rfl⟩
  rw [hn] at hv hq ⊢
  have HM := Lib.hid (make_any (Lab.nil (Below.refl w.heap.size w)) Wi 0 h); have HV := Lib.hid hv; have HU := Lib.hid hcell2
  clear h hv hn hl2 hcell2
  generalize Wi.toNat = W at *
  generalize roomOf 0 = room at *
  go_enter Try.func4, Try.ntmps4
  go_wp2_with fail
  go_at_call 16
  refine HM.out.mono ?_
  rintro e w1 ⟨gb, rb, F0, F0', rfl, hlab1⟩
  obtain ⟨pb, hpb⟩ : ∃ pb, w1.heap.size = pb := ⟨_, rfl⟩
  have hl2 := hlab1.alloc #[.pointer (some ⟨gb, 0, none⟩), .pointer (some ⟨rb, 0, none⟩)] 38
  rw [hpb] at hl2
  have HL2 := Lib.hid hl2.rot3'
  clear hlab1 hl2
  go_upto_region 4 with fail
  clear hpb
  refine wp_abs (fun w2 => Lab w w2 [Thing.graph F0 [] gb W room [], Thing.rgraph F0' [] rb W room [], Thing.box pb 38 #[.pointer (some ⟨gb, 0, none⟩), .pointer (some ⟨rb, 0, none⟩)]]) HL2.out ?_
  rintro w2 hl2
  have hbx := hl2.box3
  have k1 : w2.cell? ⟨pb, 1, none⟩ = some (.pointer (some ⟨rb, 0, none⟩)) := by rw [cell_of_row w2 _ 1 _ _ _ hbx]; rfl
  have HI := Lib.hid hl2
  clear hl2 HL2 HM hbx
  go_upto_block 0 with fail
  clear k1
  go_cut [13] (fun _ wx => ∃ F I F' I' L, L.length ≤ 100 ∧ GoodL W L ∧ Lab w wx [Thing.graph F I gb W room L, Thing.rgraph F' I' rb W room L, Thing.box pb 38 #[.pointer (some ⟨gb, 0, none⟩), .pointer (some ⟨rb, 0, none⟩)]])
  case first =>
    go_wp2
    go_loopw [13] (fun i wx => ∃ k : Nat, k ≤ n ∧ k ≤ 100 ∧ i = .int .i64 k ∧ ∃ F I F' I' L, L.length ≤ k ∧ GoodL W L ∧ Lab w wx [Thing.graph F I gb W room L, Thing.rgraph F' I' rb W room L, Thing.box pb 38 #[.pointer (some ⟨gb, 0, none⟩), .pointer (some ⟨rb, 0, none⟩)]]) (fun i _ => n - (intOf i).toNat)
    case atStart => exact ⟨0, by omega, by omega, rfl, _, _, _, _, [], by simp, GoodL.nil W, HI.out⟩
    case round =>
      clear HI
      obtain ⟨k, hk, hk2, rfl, F, I, F', I', L, hlen, hgood, hl⟩ := hrel
      by_cases hlt : k < n ∧ k < 100
      · have hlt1 : (k : Int) < (n : Int) := by omega
        have hlt2 : (k : Int) < 100 := by omega
        obtain ⟨b, off, x, va, rfl, hx, hok, hav, c0, c1, c2, c3, c4⟩ := HV.out.at hlt.1
        have hbc := hl.box3
        have k0 : wr.cell? ⟨pb, 0, none⟩ = some (.pointer (some ⟨gb, 0, none⟩)) := by rw [cell_of_row wr _ 0 _ _ _ hbc]; rfl
        have k1 : wr.cell? ⟨pb, 1, none⟩ = some (.pointer (some ⟨rb, 0, none⟩)) := by rw [cell_of_row wr _ 1 _ _ _ hbc]; rfl
        replace c0 := cell_later hl.below c0
        replace c1 := cell_later hl.below c1
        replace c2 := cell_later hl.below c2
        replace c3 := cell_later hl.below c3
        replace c4 := cell_later hl.below c4
        obtain ⟨av, mv, cv, rfl, -, -⟩ := hav.slice.parts
        have hld := hl.later (Below.refl _ _).drew
        have hdo := do_any hld x _ (hld.stays hav.slice) hok
        have hgd := doR_good (room := room) hgood x
        have hdl := doR_len W room L x
        obtain ⟨D, hD⟩ : ∃ D, doR W room L x = D := ⟨_, rfl⟩
        rw [hD] at hdo hgd hdl
        clear hD
        have HD := Lib.hid hdo; have HGD := Lib.hid hgd; have HDL := Lib.hid hdl
        clear hl hbc hld hdo hx hok hav hlt hgood hgd hdl
        go_wp2
        go_still_tail 5, (by kernel_rfl)
        simp only [World.drew_eq]
        go_wp2_with fail
        go_at_call 17
        refine HD.out.mono ?_
        rintro e w3 ⟨rfl, F2, I2, F2', I2', hl3⟩
        have HL3 := Lib.hid hl3
        clear hl3
        go_wp2
        go_roundw
        case rel => exact ⟨k + 1, by omega, by omega, by go_num, F2, I2, F2', I2', _, by have := HDL.out; omega, HGD.out, HL3.out⟩
        case measure => simp [intOf]; omega
      · have hq1 : ¬ (k : Int) < (n : Int) ∨ ((k : Int) < (n : Int) ∧ ¬ (k : Int) < 100) := by omega
        have HL3 := Lib.hid hl; have HG := Lib.hid hgood
        clear hl hlt hgood
        rcases hq1 with q | ⟨q, q'⟩
        · go_wp2
          go_meet
          exact ⟨F, I, F', I', L, by omega, HG.out, HL3.out⟩
        · go_wp2
          go_meet
          exact ⟨F, I, F', I', L, by omega, HG.out, HL3.out⟩
  case rest =>
    obtain ⟨F, I, F', I', L, hlen, hgood, hl⟩ := hcut
    have HG := Lib.hid hgood; have HL0 := Lib.hid hl
    clear hgood hl HI HV
    go_wp2
    go_loopw [14] (fun i wx => ∃ k : Nat, k ≤ n2 ∧ k ≤ 10 ∧ i = .int .i64 k ∧ Lab w wx [Thing.graph F I gb W room L, Thing.rgraph F' I' rb W room L, Thing.box pb 38 #[.pointer (some ⟨gb, 0, none⟩), .pointer (some ⟨rb, 0, none⟩)]]) (fun i _ => n2 - (intOf i).toNat)
    case atStart => exact ⟨0, by omega, by omega, rfl, HL0.out⟩
    case round =>
      clear HL0
      obtain ⟨k, hk, hk2, rfl, hl⟩ := hrel
      by_cases hlt : k < n2 ∧ k < 10
      · have hlt1 : (k : Int) < (n2 : Int) := by omega
        have hlt2 : (k : Int) < 10 := by omega
        have hk0 : (0 : Int) ≤ (k : Int) := by omega
        obtain ⟨b, off, us, va, rfl, -, hc, hs, hn9⟩ := HU.out k hlt.1
        obtain ⟨va, m1, cv1, rfl, -, -⟩ := hs.parts
        obtain ⟨X, q, E, hans, hxl⟩ := ansV_some L us
        have hbc := hl.box3
        have k0 : wr.cell? ⟨pb, 0, none⟩ = some (.pointer (some ⟨gb, 0, none⟩)) := by rw [cell_of_row wr _ 0 _ _ _ hbc]; rfl
        have e0 := cell_later hl.below hc
        have hld := hl.later (Below.refl _ _).drew
        have HC := Lib.hid hc; have HS := Lib.hid hs; have HANS := Lib.hid hans
        have HV1 := Lib.hid (hld.vars_all HG.out _ us (hs.below hld.below) (by omega) hans)
        clear hl hbc hld hc hs hans hlt
        go_upto_region 16 with fail
        go_region_held3 (fun w' => w'.cell? ⟨pb, 0, none⟩ = some (.pointer (some ⟨gb, 0, none⟩)) ∧ w'.cell? ⟨b, off + k, none⟩ = some (.slice va m1 cv1))
          (first | exact ⟨k0, e0⟩ | exact ⟨d0, e1⟩ | exact ⟨by assumption, by assumption⟩ | go_keep | trivial)
          ((go_at_call 13; refine HV1.out.mono ?_; rintro e w3 ⟨a3, c3, rfl, hln⟩; have hbcn := hln.box4; have d0 : w3.cell? ⟨pb, 0, none⟩ = some (.pointer (some ⟨gb, 0, none⟩)) := (by rw [cell_of_row w3 _ 0 _ _ _ hbcn]; rfl); have e1 := cell_later hln.below HC.out))
        have hbc := hln.box4
        have k0 : w3.cell? ⟨pb, 1, none⟩ = some (.pointer (some ⟨rb, 0, none⟩)) := by rw [cell_of_row w3 _ 1 _ _ _ hbc]; rfl
        have e0 := cell_later hln.below HC.out
        have HV2 := Lib.hid ((hln.later (Below.refl _ _).drew).rot3.rvars_all HG.out _ us HS.out (by omega) HANS.out)
        clear hln hbc hbcn HV1 d0 e1
        go_upto_region 17 with fail
        go_region_held3 (fun w' => w'.cell? ⟨pb, 1, none⟩ = some (.pointer (some ⟨rb, 0, none⟩)) ∧ w'.cell? ⟨b, off + k, none⟩ = some (.slice va m1 cv1))
          (first | exact ⟨k0, e0⟩ | exact ⟨d0, e1⟩ | exact ⟨by assumption, by assumption⟩ | go_keep | trivial)
          ((go_at_call 18; refine HV2.out.mono ?_; rintro e w4 ⟨a4, c4, rfl, hln⟩; have hbcn := hln.box5; have d0 : w4.cell? ⟨pb, 1, none⟩ = some (.pointer (some ⟨rb, 0, none⟩)) := (by rw [cell_of_row w4 _ 1 _ _ _ hbcn]; rfl); have e1 := cell_later hln.below HC.out))
        have hbc := hln.box5
        have k0 : w4.cell? ⟨pb, 0, none⟩ = some (.pointer (some ⟨gb, 0, none⟩)) := by rw [cell_of_row w4 _ 0 _ _ _ hbc]; rfl
        have e0 := cell_later hln.below HC.out
        have hld := (hln.later (Below.refl _ _).drew).rot4
        have HV3 := Lib.hid (hld.size_all _ us (HS.out.below hld.below) (by omega) HANS.out)
        clear hln hbc hbcn HV2 hld d0 e1
        go_upto_region 18 with fail
        go_region_held3 (fun w' => w'.cell? ⟨pb, 0, none⟩ = some (.pointer (some ⟨gb, 0, none⟩)) ∧ w'.cell? ⟨b, off + k, none⟩ = some (.slice va m1 cv1))
          (first | exact ⟨k0, e0⟩ | exact ⟨d0, e1⟩ | exact ⟨by assumption, by assumption⟩ | go_keep | trivial)
          ((go_at_call 14; refine HV3.out.mono ?_; rintro e w5 ⟨rfl, hln⟩; have hbcn := hln.box5; have d0 : w5.cell? ⟨pb, 0, none⟩ = some (.pointer (some ⟨gb, 0, none⟩)) := (by rw [cell_of_row w5 _ 0 _ _ _ hbcn]; rfl); have e1 := cell_later hln.below HC.out))
        have hbc := hln.box5
        have k0 : w5.cell? ⟨pb, 1, none⟩ = some (.pointer (some ⟨rb, 0, none⟩)) := by rw [cell_of_row w5 _ 1 _ _ _ hbc]; rfl
        have e0 := cell_later hln.below HC.out
        have HV4 := Lib.hid ((hln.later (Below.refl _ _).drew).rot3.rsize_all _ us HS.out (by omega) HANS.out)
        clear hln hbc hbcn HV3 d0 e1
        go_upto_region 19 with fail
        go_region_held3 (fun w' => w'.cell? ⟨pb, 1, none⟩ = some (.pointer (some ⟨rb, 0, none⟩)) ∧ w'.cell? ⟨b, off + k, none⟩ = some (.slice va m1 cv1))
          (first | exact ⟨k0, e0⟩ | exact ⟨d0, e1⟩ | exact ⟨by assumption, by assumption⟩ | go_keep | trivial)
          ((go_at_call 19; refine HV4.out.mono ?_; rintro e w6 ⟨rfl, hln⟩; have hbcn := hln.box5; have d0 : w6.cell? ⟨pb, 1, none⟩ = some (.pointer (some ⟨rb, 0, none⟩)) := (by rw [cell_of_row w6 _ 1 _ _ _ hbcn]; rfl); have e1 := cell_later hln.below HC.out))
        have heq := equalInts_any (w := w6) (.slice a3 X.length c3) (.slice a4 X.length c4) X X (OwnInts.slice hln.fourth) (OwnInts.slice hln.third) (by omega) (by omega)
        rw [decide_eq_true rfl] at heq
        have HEQ := Lib.hid heq; have HL6 := Lib.hid hln
        have q1 : ((E : Int) != (E : Int)) = false := by simp
        have q2 : ((q : Int) != (q : Int)) = false := by simp
        clear hln hbcn heq HV4 d0 e1
        go_wp2_with fail
        go_at_call 20
        refine HEQ.out.mono ?_
        rintro e w7 ⟨rfl, hb7⟩
        have HL7 := Lib.hid (HL6.out.later hb7)
        clear hb7
        go_wp2
        go_roundw
        case rel => exact ⟨k + 1, by omega, by omega, by go_num, (HL7.out.subl (.cons_cons _ (.cons_cons _ (.cons _ (.cons _ (.cons_cons _ (List.Sublist.refl _))))))).swap⟩
        case measure => simp [intOf]; omega
      · have hq1 : ¬ (k : Int) < (n2 : Int) ∨ ((k : Int) < (n2 : Int) ∧ ¬ (k : Int) < 10) := by omega
        have HAW := Lib.hid hl.awake14
        clear hl hlt
        rcases hq1 with q | ⟨q, q'⟩
        · go_wp2_with (go_at_call 15; refine HAW.out.mono ?_; rintro e w5 ⟨rfl, hb⟩)
          go_ret
          exact ⟨rfl, hb⟩
        · go_wp2_with (go_at_call 15; refine HAW.out.mono ?_; rintro e w5 ⟨rfl, hb⟩)
          go_ret
          exact ⟨rfl, hb⟩
theorem supportMatches_walk {w : World} (Wi : Int) (v u : Value) (qs : List PAsk) (hv : AsksOf w v qs) (hq : qs.length ≤ 9223372036854775807) (ss : List (List Int)) (hu : ListsOf w u ss) (hn2 : ss.length ≤ 9223372036854775807) :
    Calls Try.prog 4 #[.int .i64 Wi, v, u] w fun e w' => e = .returned (.bool true) ∧ Below w.heap.size w w' := by
  by_cases h : newOk Wi 0
  · exact supportMatches_ok Wi v u h qs hv hq ss hu hn2
  · obtain ⟨a, cap, rfl⟩ := hv.parts
    obtain ⟨a2, n2, c2, rfl, -, -⟩ := hu
    exact supportMatches_bad Wi _ _ h ⟨_, _, _, rfl⟩ ⟨_, _, _, rfl⟩
end Go.Proofs.Ytofbadmjopefpaa
