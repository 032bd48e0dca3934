/- TwAgW, MapD, RawT, RawG, TwAgV: joined by wip/bundle.py. -/
import Derived.Test.YteamnchoddegpaaGreatDoorB1
import Derived.Test.YteamnchoddegpaaGreatDoorB2
import Derived.Test.YteamnchoddegpaaGreatDoorB3
import Derived.Test.YteamnchoddegpaaGreatDoorB4
import Derived.Test.YteamnchoddegpaaGreatDoorB5
import Derived.Test.YteamnchoddegpaaGreatDoorB6
import Derived.Test.YteamnchoddegpaaGreatDoorB7
import Derived.Test.YteamnchoddegpaaGreatDoorB8
import Derived.Test.YteamnchoddegpaaGreatDoorB9
import Derived.Test.YteamnchoddegpaaGreatDoorB10
import Derived.Test.YteamnchoddegpaaGreatDoorB11
import Derived.Test.YteamnchoddegpaaGreatDoorB12
import Derived.Test.YteamnchoddegpaaGreatDoorB13
import Derived.Test.YteamnchoddegpaaGreatDoorB14
import Derived.Test.YteamnchoddegpaaGreatDoorB15
import Derived.Test.YteamnchoddegpaaGreatDoorB16
import Derived.Test.YteamnchoddegpaaGreatDoorB17
import Derived.Test.YteamnchoddegpaaGreatDoorB18
import Derived.Test.YteamnchoddegpaaGreatDoorB19
import Derived.Test.YteamnchoddegpaaGreatDoorB20
import Derived.Test.YteamnchoddegpaaGreatDoorB21
import Derived.Deep.RegionHeld3
import Derived.BigQuiet
namespace Go.Proofs.YteamnchoddegpaaGreatDoor
open Go.RowKit Go.Maps
set_option maxHeartbeats 3200000
theorem NumsOf.laterW {w w' : World} {k : IntKind} {v : Value} {xss : List (List Int)} (h : NumsOf w k v xss) (hw : Below w.heap.size w w') : NumsOf w' k v xss := by
  obtain ⟨a, n, cap, rfl, hl, hc⟩ := h
  refine ⟨a, n, cap, rfl, hl, fun i hi => ?_⟩
  obtain ⟨b, off, xs, va, rfl, hx, hc1, hs⟩ := hc i hi
  exact ⟨b, off, xs, va, rfl, hx, cell_later hw hc1, hs.later hw⟩
/-- A list of lists, at one of them. -/
theorem nums_atW {w : World} {k : IntKind} {a : Option Addr} {n cap : Nat} {xss : List (List Int)} (h : NumsOf w k (.slice a n cap) xss) {i : Nat} (hi : i < n) :
    ∃ b off xs a' c', a = some ⟨b, off, none⟩ ∧ xss[i]? = some xs ∧ w.cell? ⟨b, off + i, none⟩ = some (.slice a' xs.length c') ∧ SliceOf w k (.slice a' xs.length c') xs := by
  obtain ⟨a1, n1, c1, e, hl, hc⟩ := h
  simp only [Value.slice.injEq] at e
  obtain ⟨rfl, rfl, rfl⟩ := e
  obtain ⟨b, off, xs, va, rfl, hx, hcell, hs⟩ := hc i hi
  obtain ⟨a', n', c', rfl, hn, -⟩ := hs.parts
  subst hn
  exact ⟨b, off, xs, a', c', rfl, hx, hcell, hs⟩
section
variable {w0 wq wr w' : World} {ts : List Thing}
theorem Lab.numsW_set {k : IntKind} {E g c n : Nat} {xs : List Int} (hl : xs.length = n) (h : Lab wq wr (Thing.numsK k E (.slice (some ⟨g, 0, none⟩) n c) xs :: ts)) (j : Nat) (x : Int) : Lab wq (wr.setCell ⟨g, j, none⟩ (.int k x)) (Thing.numsK k E (.slice (some ⟨g, 0, none⟩) n c) (xs.set j x) :: ts) := by
  unfold Thing.numsK at h ⊢
  rw [hl] at h
  have := h.row_set j (.int k x)
  rw [List.length_set, hl, List.map_set]
  exact this
theorem Lab.numsW_cell {k : IntKind} {E g c n j : Nat} {xs : List Int} (hl : xs.length = n) (h : Lab wq wr (Thing.numsK k E (.slice (some ⟨g, 0, none⟩) n c) xs :: ts)) (hj : j < n) : ∃ x, wr.cell? ⟨g, j, none⟩ = some (.int k x) ∧ wr.frozen? ⟨g, j, none⟩ = false := by
  unfold Thing.numsK at h
  rw [hl] at h
  have := row_cellAt h.head hj
  rw [List.getElem?_map, List.getElem?_eq_getElem (by omega)] at this
  exact ⟨_, this⟩
theorem Lab.numsW_some {k : IntKind} {E c n : Nat} {a : Option Addr} {xs : List Int} (hl : xs.length = n) (h : Lab wq wr (Thing.numsK k E (.slice a n c) xs :: ts)) (h0 : 0 < n) : ∃ g, a = some ⟨g, 0, none⟩ := by
  unfold Thing.numsK at h
  rw [hl] at h
  exact row_some h.head h0
def lenW : Value → Nat
  | .slice _ n _ => n
  | _ => 0
end
section
variable {w : World} {N : Nat} {f : Nat → Nat → Int}
set_option maxRecDepth 100000 in
theorem pvals_any {a : Option Addr} {cap : Nat} (hB : NumsOf w .u64 (.slice a N cap) (full f 12 N)) (h1 : 1 ≤ N) (h6 : N ≤ 6) (hf : ∀ c k, 0 ≤ f c k ∧ f c k ≤ 18446744073709551615) :
    Calls Tryz.prog 23 #[.int .i64 N, .slice a N cap] w fun e w' => ∃ va out, e = .returned (.tuple #[va, .int .i64 0]) ∧ ValsInv N 12 f N 0 out ∧ Lab w w' [Thing.numsK .u64 43 va out] := by
  have HB := Lib.hid hB; have HF := Lib.hid hf
  have q1 : ¬ (N : Int) < 1 := by omega
  have q2 : ¬ (32 : Int) < (N : Int) := by omega
  have q3 : ¬ (N : Int) < (N : Int) := by omega
  have row : ∀ c, c < N → (full f 12 N)[c]? = some ((List.range 12).map (f c)) := fun c hc => by unfold full; rw [List.getElem?_map, List.getElem?_range hc]; rfl
  have HR := Lib.hid row
  clear hB hf row
  go_enter Tryz.func23, Tryz.ntmps23
  go_wp2
  go_loopw [28] (fun i wx => ∃ c : Nat, c ≤ N ∧ i = .int .i64 c ∧ w = wx) (fun i _ => N - (intOf i).toNat)
  case atStart => exact ⟨0, by omega, rfl, rfl⟩
  case round =>
    obtain ⟨c, hc, rfl, rfl⟩ := hrel
    by_cases hlt : c < N
    · have hlt' : (c : Int) < (N : Int) := by omega
      have c0 : (0 : Int) ≤ (c : Int) := by omega
      obtain ⟨b, off, xs, a', c', rfl, hx, hcell, -⟩ := nums_atW HB.out hlt
      rw [HR.out c hlt] at hx
      obtain rfl := Option.some.inj hx
      rw [show ((List.range 12).map (f c)).length = 12 by simp] at hcell
      clear hx
      go_wp2
      go_roundw
      case rel => exact ⟨c + 1, by omega, by go_num, by first | rfl | trivial⟩
      case measure => simp [intOf]; omega
    · obtain rfl : c = N := by omega
      have HL0 := Lib.hid (Lab.numsK_none (k := .u64) (E := 43) (Lab.nil (Below.refl w.heap.size w)))
      go_wp2
      go_loopw [8, 38] (fun o i wx => ∃ c2 : Nat, c2 ≤ c ∧ i = .int .i64 c2 ∧ ∃ out ao m co, o = .slice ao m co ∧ out.length = m ∧ ValsInv c 12 f c2 0 out ∧ Lab w wx [Thing.numsK .u64 43 (.slice ao m co) out]) (fun _ i _ => c - (intOf i).toNat)
      case atStart => exact ⟨0, by omega, rfl, [], none, 0, 0, rfl, rfl, ValsInv.start, HL0.out⟩
      case round =>
        clear HL0
        obtain ⟨c2, hc2, rfl, out, ao, m, co, rfl, hm, hv, hl⟩ := hrel
        by_cases hlt2 : c2 < c
        · have hlt2' : (c2 : Int) < (c : Int) := by omega
          have c20 : (0 : Int) ≤ (c2 : Int) := by omega
          obtain ⟨b, off, xs, a', c', rfl, hx, hcell, hs⟩ := nums_atW (NumsOf.laterW HB.out hl.below) hlt2
          rw [HR.out c2 hlt2] at hx
          obtain rfl := Option.some.inj hx
          rw [show ((List.range 12).map (f c2)).length = 12 by simp] at hcell hs
          have HV := Lib.hid hv; have HL := Lib.hid hl; have HM := Lib.hid hm
          have HS := Lib.hid (show SliceOf w .u64 (.slice a' 12 c') ((List.range 12).map (f c2)) by
            obtain ⟨b0, off0, xs0, a0, c0', e0, hx0, hcell0, hs0⟩ := nums_atW HB.out hlt2
            cases e0
            rw [HR.out c2 hlt2] at hx0
            obtain rfl := Option.some.inj hx0
            rw [show ((List.range 12).map (f c2)).length = 12 by simp] at hcell0 hs0
            have h2 := cell_later hl.below hcell0
            rw [hcell] at h2
            cases h2
            exact hs0)
          clear hx hs hv hl hm
          go_wp2
          go_loopw [8, 46] (fun o i wx => ∃ k : Nat, k ≤ 12 ∧ i = .int .i64 k ∧ ∃ out ao m co, o = .slice ao m co ∧ out.length = m ∧ ValsInv c 12 f c2 k out ∧ Lab w wx [Thing.numsK .u64 43 (.slice ao m co) out]) (fun _ i _ => 12 - (intOf i).toNat)
          case atStart => exact ⟨0, by omega, rfl, out, ao, m, co, rfl, HM.out, HV.out, HL.out⟩
          case round =>
            clear HV HL HM hcell
            obtain ⟨k, hk, rfl, out, ao, m, co, rfl, hm, hv, hl⟩ := hrel
            by_cases hlt3 : k < 12
            · have hlt3' : (k : Int) < 12 := by omega
              have k0 : (0 : Int) ≤ (k : Int) := by omega
              obtain ⟨b3, off3, x3, rfl, hc3, hx3⟩ := (HS.out.later hl.below).parts' hlt3
              have ex : f c2 k = x3 := by
                rw [List.getElem?_map, List.getElem?_range hlt3] at hx3
                exact Option.some.inj hx3
              have hi := fun wx => input_any wx c c2 k (by omega) hlt2 (by omega)
              obtain ⟨n, hn⟩ : ∃ n, 2 * (k * c + c2) = n := ⟨_, rfl⟩
              rw [hn] at hi
              have hnb := vals_idx hlt2 hlt3
              rw [hn] at hnb
              have hnb2 : n ≤ 200 := by have : 12 * c ≤ 12 * 6 := Nat.mul_le_mul_left 12 h6; omega
              have HIN := Lib.hid hi; have HV := Lib.hid hv; have HL := Lib.hid hl; have HM := Lib.hid hm; have HX := Lib.hid (And.intro ex (And.intro hn hnb))
              clear hi hv hl hm hx3 ex hn hnb
              go_wp2_with (go_at_call 47; refine (HIN.out _).mono ?_; rintro e w6 ⟨rfl, rfl⟩)
              clear HIN
              go_loopw [8] (fun o wx => ∃ out ao m co, o = .slice ao m co ∧ out.length = m ∧ ValsInv c 12 f c2 k out ∧ Lab w wx [Thing.numsK .u64 43 (.slice ao m co) out]) (fun o _ => n + 1 - lenW o)
              case atStart => exact ⟨out, ao, m, co, rfl, HM.out, HV.out, HL.out⟩
              case round =>
                clear HL HV HM hc3
                obtain ⟨out, ao, m, co, rfl, hm, hv, hl⟩ := hrel
                have hml : m ≤ 1000 := by have h9 := hv.len; have : 12 * c ≤ 12 * 6 := Nat.mul_le_mul_left 12 h6; omega
                by_cases hmn : m ≤ n
                · have hmn' : (m : Int) ≤ (n : Int) := by omega
                  obtain ⟨a2, c2', w7, hr, hl2⟩ := hl.append1 25 25 8 0 hm Tryz.underlying25 Tryz.infoU64 (by decide) (by omega)
                  have HR7 := Lib.hid hr; have HL := Lib.hid hl2; have HV := Lib.hid (hv.pad (by have := HX.out.2.2; omega)); have HM := Lib.hid (show (out ++ [0]).length = m + 1 by rw [List.length_append, hm]; rfl)
                  clear hr hl hl2 hv hm
                  go_wp2_with (at_builtin; refine Lib.wpList_append_run _ rfl _ _ 25 25 rfl _ _ rfl rfl _ _ HR7.out ?_)
                  go_roundw
                  case rel => exact ⟨out ++ [0], a2, m + 1, c2', rfl, HM.out, HV.out, HL.out⟩
                  case measure => simp [lenW]; omega
                · have hmn' : ¬ (m : Int) ≤ (n : Int) := by omega
                  obtain ⟨g, rfl⟩ := hl.numsW_some hm (by omega)
                  have n0 : (0 : Int) ≤ (n : Int) := by omega
                  have n1 : (n : Int) < (m : Int) := by omega
                  obtain ⟨x1, d1, d2⟩ := hl.numsW_cell hm (j := n) (by omega)
                  have hl2 := hl.numsW_set hm n (f c2 k)
                  have hst := hv.put hlt2 hlt3 (by rw [HX.out.2.1]; omega) (HF.out c2 k)
                  rw [HX.out.2.1] at hst
                  rw [HX.out.1] at hl2 hst
                  have HL := Lib.hid hl2; have HV := Lib.hid hst; have HM := Lib.hid (show (out.set n x3).length = m by rw [List.length_set]; exact hm)
                  clear hl hl2 hst hv hm
                  go_wp2
                  go_roundw
                  case rel => exact ⟨k + 1, by omega, by go_num, out.set n x3, _, m, co, rfl, HM.out, HV.out, HL.out⟩
                  case measure => simp [intOf]; omega
            · obtain rfl : k = 12 := by omega
              have HV := Lib.hid hv.line; have HL := Lib.hid hl; have HM := Lib.hid hm
              clear hv hl hm
              go_wp2
              go_roundw
              case rel => exact ⟨c2 + 1, by omega, by go_num, out, ao, m, co, rfl, HM.out, HV.out, HL.out⟩
              case measure => simp [intOf]; omega
        · obtain rfl : c2 = c := by omega
          have HV := Lib.hid hv; have HL := Lib.hid hl
          clear hv hl
          go_wp2
          go_ret2
          exact ⟨_, out, rfl, HV.out, HL.out⟩
end
end Go.Proofs.YteamnchoddegpaaGreatDoor
namespace Go.Proofs.YteamnchoddegpaaGreatDoor
open Go.RowKit Go.Maps
set_option maxHeartbeats 400000
/-- The world behind 'delete(m, k)'. -/
def delW (P : Program) (T K : TypeId) (ty : TypeId) (mb : Nat) (k : Value) (w : World) : World :=
  match (Builtin.delete_ #[T, K] ty #[.map (some mb), k]).run P w with
  | .ok _ w' => w'
  | .halt _ w' => w'
section
variable {P : Program} {K : TypeId} {w : World} {mb : Nat} {m : List (Value × Value)}
theorem nodup_inj {α β : Type} {f : α → β} : ∀ {l : List α}, (l.map f).Nodup → ∀ {i j : Nat} {a b : α}, l[i]? = some a → l[j]? = some b → f a = f b → i = j := by
  intro l hn i j a b ha hb hab
  obtain ⟨hi, ea⟩ := List.getElem?_eq_some_iff.1 ha
  obtain ⟨hj, eb⟩ := List.getElem?_eq_some_iff.1 hb
  unfold List.Nodup at hn
  rw [List.pairwise_iff_getElem] at hn
  rcases Nat.lt_trichotomy i j with h | h | h
  · exact absurd (by rw [List.getElem_map, List.getElem_map, ea, eb, hab]) (hn i j (by simpa using hi) (by simpa using hj) h)
  · exact h
  · exact absurd (by rw [List.getElem_map, List.getElem_map, ea, eb, hab]) (hn j i (by simpa using hj) (by simpa using hi) h)
/-- delete of a key, whether it is there or not. -/
theorem MapIs.del {T E ty : TypeId} (h : MapIs P K w mb m) (KL : Keyed P K) (hT : P.underlying T = some (.map K E)) {k : Value} {l : Lit} (hk : keyOf P K k = some l) :
    (Builtin.delete_ #[T, K] ty #[.map (some mb), k]).run P w = .ok (.tuple #[]) (delW P T K ty mb k w) ∧ (∃ m', MapIs P K (delW P T K ty mb k w) mb m' ∧ ∀ p, p ∈ m' ↔ p ∈ m ∧ p.1 ≠ k) ∧ But mb w (delW P T K ty mb k w) := by
  obtain ⟨es, clock, h1, h2, h3, h4, h5, h6⟩ := h
  rcases KL.find w hk es.toList h2 with ⟨hf, hno⟩ | ⟨j, e, hf, hj, hek⟩
  · have hr : (Builtin.delete_ #[T, K] ty #[.map (some mb), k]).run P w = .ok (.tuple #[]) { w with heap := w.heap.setIfInBounds mb (.map es clock) } := by
      simp [Builtin.delete_, run_underlying hT, MapKept.run_getObj_map h1, KL.check w _ hk, hf, MapKept.run_setObj_map _ h1, Result.andThen]
    have hw : delW P T K ty mb k w = { w with heap := w.heap.setIfInBounds mb (.map es clock) } := by unfold delW; rw [hr]
    rw [hw]
    refine ⟨hr, ⟨m, ⟨es, clock, ?_, h2, h3, h4, h5, h6⟩, fun p => ⟨fun hp => ⟨hp, fun e0 => ?_⟩, fun hp => hp.1⟩⟩, But.set _ _ _⟩
    · have := (Array.getElem?_eq_some_iff.1 h1).1
      simp [this]
    · obtain ⟨e, he, hee⟩ := List.mem_map.1 (h3.mem_iff.2 hp)
      exact hno e he (by rw [← e0, ← hee])
  · have hjl : j < es.toList.length := (List.getElem?_eq_some_iff.1 hj).1
    have hjs : j < es.size := by simpa using hjl
    have hsub : (es.eraseIdxIfInBounds j).toList = es.toList.eraseIdx j := by
      unfold Array.eraseIdxIfInBounds
      rw [dif_pos hjs]
      simp
    have hr : (Builtin.delete_ #[T, K] ty #[.map (some mb), k]).run P w = .ok (.tuple #[]) { w with heap := w.heap.setIfInBounds mb (.map (es.eraseIdxIfInBounds j) clock) } := by
      simp [Builtin.delete_, run_underlying hT, MapKept.run_getObj_map h1, KL.check w _ hk, hf, MapKept.run_setObj_map _ h1, Result.andThen]
    have hw : delW P T K ty mb k w = { w with heap := w.heap.setIfInBounds mb (.map (es.eraseIdxIfInBounds j) clock) } := by unfold delW; rw [hr]
    rw [hw]
    have hsl := List.eraseIdx_sublist es.toList j
    have hkn : ((es.toList.map fun e => (e.key, e.val)).map (·.1)).Nodup := ((h3.map (·.1)).nodup_iff).2 h4
    refine ⟨hr, ⟨(es.toList.eraseIdx j).map fun e => (e.key, e.val), ⟨es.eraseIdxIfInBounds j, clock, ?_, ?_, ?_, ?_, ?_, ?_⟩, fun p => ?_⟩, But.set _ _ _⟩
    · have := (Array.getElem?_eq_some_iff.1 h1).1
      simp [this]
    · rw [hsub]; exact fun x hx => h2 x (hsl.subset hx)
    · rw [hsub]
    · exact (((hsl.map fun e => (e.key, e.val)).map (·.1))).nodup hkn
    · rw [hsub]; exact (hsl.map _).nodup h5
    · rw [hsub]; exact fun x hx => h6 x (hsl.subset hx)
    · rw [← h3.mem_iff]
      constructor
      · intro hp
        obtain ⟨x, hx, rfl⟩ := List.mem_map.1 hp
        refine ⟨List.mem_map.2 ⟨x, hsl.subset hx, rfl⟩, fun e0 => ?_⟩
        obtain ⟨i, hne, hi⟩ := List.mem_eraseIdx_iff_getElem?.1 hx
        refine hne (nodup_inj (f := fun e : MapEntry => e.key) (by rw [List.map_map] at hkn; exact hkn) hi hj (by rw [hek]; exact e0))
      · rintro ⟨hp, hne⟩
        obtain ⟨x, hx, rfl⟩ := List.mem_map.1 hp
        obtain ⟨i, hi⟩ := List.getElem?_of_mem hx
        refine List.mem_map.2 ⟨x, List.mem_eraseIdx_iff_getElem?.2 ⟨i, fun e1 => hne ?_, hi⟩, rfl⟩
        rw [e1, hj] at hi
        cases hi
        exact hek
end
section
variable {P : Program} {K : TypeId} {w : World} {mb : Nat} {kd : IntKind} {f : Int → Option Value} {c : Nat}
theorem MapF.del {T E ty : TypeId} (h : MapF P K kd w mb f c) (hK : P.underlying K = some (.int kd)) (hT : P.underlying T = some (.map K E)) {k : Int} (hw : (Lit.int kd k).wf = true) :
    (Builtin.delete_ #[T, K] ty #[.map (some mb), .int kd k]).run P w = .ok (.tuple #[]) (delW P T K ty mb (.int kd k) w) ∧ (∃ c', MapF P K kd (delW P T K ty mb (.int kd k) w) mb (fun j => if j = k then none else f j) c') ∧ But mb w (delW P T K ty mb (.int kd k) w) := by
  obtain ⟨m, h1, h2, h3, h4⟩ := h
  obtain ⟨hr, ⟨m', g1, g2⟩, hb⟩ := h1.del (ty := ty) (int_keyed hK) hT (keyOf_int_mk hK hw)
  refine ⟨hr, ⟨m'.length, m', g1, rfl, fun p hp => ?_, fun j u hj => ?_⟩, hb⟩
  · obtain ⟨hp1, hp2⟩ := (g2 p).1 hp
    obtain ⟨j, u, rfl, hj⟩ := h3 p hp1
    refine ⟨j, u, rfl, ?_⟩
    show (if j = k then none else f j) = some u
    rw [if_neg (fun e => hp2 (by simp [e]))]; exact hj
  · replace hj : (if j = k then none else f j) = some u := hj
    by_cases e : j = k
    · rw [if_pos e] at hj; cases hj
    · rw [if_neg e] at hj
      exact (g2 _).2 ⟨h4 j u hj, fun h => e (by simpa using h)⟩
end
section
variable {w0 wr w' : World} {ts : List Thing} {K T E : TypeId} {kd : IntKind} {mb c : Nat} {f g : Int → Option Value}
/-- delete on the first map. -/
theorem Lab.mdel (h : Lab w0 wr (Thing.mapf K kd mb f c :: ts)) (hK : Tryz.prog.underlying K = some (.int kd)) (hT : Tryz.prog.underlying T = some (.map K E)) {k : Int} (hw : (Lit.int kd k).wf = true) (ty : TypeId) :
    (Builtin.delete_ #[T, K] ty #[.map (some mb), .int kd k]).run Tryz.prog wr = .ok (.tuple #[]) (delW Tryz.prog T K ty mb (.int kd k) wr) ∧ ∃ c', Lab w0 (delW Tryz.prog T K ty mb (.int kd k) wr) (Thing.mapf K kd mb (fun j => if j = k then none else f j) c' :: ts) := by
  obtain ⟨hr, ⟨c', hm⟩, hb⟩ := h.mapf.del (ty := ty) hK hT hw
  refine ⟨hr, c', h.turn (s' := Thing.mapf K kd mb _ _) ⟨hb.os, hb.tape, hb.output, by rw [hb.size]; exact Nat.le_refl _, fun k hk hn => hb.block k (by simpa [Thing.mapf] using hn)⟩ hm (fun k hk => .inl hk) (fun k hk => .inl hk) (fun k hk => ?_)⟩
  rw [hb.size]
  exact h.high (Thing.mapf K kd mb f c) (by simp) k hk
/-- 'delete(m, k)' at an operation. -/
theorem wpList_delete_lab {ops : Array Oper} {rest : List Oper} {o : Oper} {a : Act} {Q : Exit → Act → World → Prop} (hg : o.guard = none) (m x : Operand) (T K E : TypeId) (hop : o.op = Op.call { callee := Callee.builtin Builtin.delete, args := #[m, x], argTypes := #[T, K] }) {k : Int}
    (hm : a.eval m = .map (some mb)) (hx : a.eval x = .int kd k) (h : Lab w0 wr (Thing.mapf K kd mb f c :: ts)) (hK : Tryz.prog.underlying K = some (.int kd)) (hT : Tryz.prog.underlying T = some (.map K E)) (hw : (Lit.int kd k).wf = true)
    (hc : ∀ w' c', Lab w0 w' (Thing.mapf K kd mb (fun j => if j = k then none else f j) c' :: ts) → wpList Tryz.prog ops Q rest (a.put o.dst (.tuple #[])) w') : wpList Tryz.prog ops Q (o :: rest) a wr := by
  obtain ⟨hr, c', hl⟩ := h.mdel hK hT hw o.type
  refine wpList_plain hg fun _ hk => ?_
  unfold Oper.wp execOp
  simp only [hop, resolve, invoke, builtin, Sem.run_bind, Sem.run_pure, Result.andThen_ok, List.map_toArray, List.map_cons, List.map_nil, hm, hx, hr]
  exact hk _ _ (hc _ c' hl)
end
end Go.Proofs.YteamnchoddegpaaGreatDoor
namespace Go.Proofs.YteamnchoddegpaaGreatDoor
open Go.RowKit Go.Maps
set_option maxHeartbeats 3200000
theorem raw_of_cells {H : Type} {enc : TypeId × Value → H} {w : World} {fuel base : Nat} {held : Bool} {cs : List Value} {x : DataW H × List MemPlace}
    (h : DataW.trod enc Tryz.prog w base (fun _ => true) held fuel 53 cs = some x) :
    ∃ r : RawN, r.Ok ∧ cs = [.int .u8 r.kind, .int .u8 r.op, .int .u64 r.num, .int .u16 r.a, .int .u16 r.b] := by
  obtain ⟨ys, n, _, _, hl, hyl, hf⟩ := DataW.trod_struct Tryz.underlying53 h
  have h5 : Tryz.prog.cellsOf 53 = 5 := by kernel_rfl
  have hl5 : cs.length = 5 := hl.trans h5
  obtain ⟨c0, c1, c2, c3, c4, rfl⟩ := list5 cs hl5
  obtain ⟨y0, e0⟩ : ∃ y, ys[0]? = some y := ⟨_, List.getElem?_eq_getElem (by rw [hyl]; decide)⟩
  obtain ⟨y1, e1⟩ : ∃ y, ys[1]? = some y := ⟨_, List.getElem?_eq_getElem (by rw [hyl]; decide)⟩
  obtain ⟨y2, e2⟩ : ∃ y, ys[2]? = some y := ⟨_, List.getElem?_eq_getElem (by rw [hyl]; decide)⟩
  obtain ⟨y3, e3⟩ : ∃ y, ys[3]? = some y := ⟨_, List.getElem?_eq_getElem (by rw [hyl]; decide)⟩
  obtain ⟨y4, e4⟩ : ∃ y, ys[4]? = some y := ⟨_, List.getElem?_eq_getElem (by rw [hyl]; decide)⟩
  have q0 : Tryz.prog.cellsOf 5 = 1 := by kernel_rfl
  have q1 : Tryz.prog.cellsOf 43 = 1 := by kernel_rfl
  have q2 : Tryz.prog.cellsOf 51 = 1 := by kernel_rfl
  have g0 : DataW.trod enc Tryz.prog w base (fun _ => true) held n 5 (([c0, c1, c2, c3, c4].drop 0).take (Tryz.prog.cellsOf 5)) = ys[0]? := hf 0 _ rfl
  rw [q0, e0] at g0
  replace g0 : DataW.trod enc Tryz.prog w base (fun _ => true) held n 5 [c0] = some y0 := g0
  have g1 : DataW.trod enc Tryz.prog w base (fun _ => true) held n 5 (([c0, c1, c2, c3, c4].drop 1).take (Tryz.prog.cellsOf 5)) = ys[1]? := hf 1 _ rfl
  rw [q0, e1] at g1
  replace g1 : DataW.trod enc Tryz.prog w base (fun _ => true) held n 5 [c1] = some y1 := g1
  have g2 : DataW.trod enc Tryz.prog w base (fun _ => true) held n 43 (([c0, c1, c2, c3, c4].drop 2).take (Tryz.prog.cellsOf 43)) = ys[2]? := hf 2 _ rfl
  rw [q1, e2] at g2
  replace g2 : DataW.trod enc Tryz.prog w base (fun _ => true) held n 43 [c2] = some y2 := g2
  have g3 : DataW.trod enc Tryz.prog w base (fun _ => true) held n 51 (([c0, c1, c2, c3, c4].drop 3).take (Tryz.prog.cellsOf 51)) = ys[3]? := hf 3 _ rfl
  rw [q2, e3] at g3
  replace g3 : DataW.trod enc Tryz.prog w base (fun _ => true) held n 51 [c3] = some y3 := g3
  have g4 : DataW.trod enc Tryz.prog w base (fun _ => true) held n 51 (([c0, c1, c2, c3, c4].drop 4).take (Tryz.prog.cellsOf 51)) = ys[4]? := hf 4 _ rfl
  rw [q2, e4] at g4
  replace g4 : DataW.trod enc Tryz.prog w base (fun _ => true) held n 51 [c4] = some y4 := g4
  obtain ⟨n0, h0, _, w0⟩ := DataW.trod_int Tryz.underlying5 g0
  obtain ⟨n1, h1, _, w1⟩ := DataW.trod_int Tryz.underlying5 g1
  obtain ⟨n2, h2, _, w2⟩ := DataW.trod_int Tryz.underlying43 g2
  obtain ⟨n3, h3, _, w3⟩ := DataW.trod_int Tryz.underlying51 g3
  obtain ⟨n4, h4, _, w4⟩ := DataW.trod_int Tryz.underlying51 g4
  have b0 := Go.bounds_u8 w0; have b1 := Go.bounds_u8 w1; have b2 := Go.bounds_u64 w2; have b3 := Go.bounds_u16 w3; have b4 := Go.bounds_u16 w4
  obtain ⟨m0, rfl⟩ := Int.eq_ofNat_of_zero_le b0.1
  obtain ⟨m1, rfl⟩ := Int.eq_ofNat_of_zero_le b1.1
  obtain ⟨m2, rfl⟩ := Int.eq_ofNat_of_zero_le b2.1
  obtain ⟨m3, rfl⟩ := Int.eq_ofNat_of_zero_le b3.1
  obtain ⟨m4, rfl⟩ := Int.eq_ofNat_of_zero_le b4.1
  simp only [List.cons.injEq, and_true] at h0 h1 h2 h3 h4
  subst h0; subst h1; subst h2; subst h3; subst h4
  exact ⟨⟨m0, m1, m2, m3, m4⟩, ⟨by show m0 ≤ 255; omega, by show m1 ≤ 255; omega, by show m2 < 18446744073709551616; omega, by show m3 ≤ 65535; omega, by show m4 ≤ 65535; omega⟩, rfl⟩
/-- A list of raw nodes. -/
def RawsOf (w : World) (v : Value) (rs : List RawN) : Prop :=
  ∃ a n cap, v = .slice a n cap ∧ rs.length = n ∧ ∀ i, i < n → ∃ b off r, a = some ⟨b, off, none⟩ ∧ rs[i]? = some r ∧ r.Ok ∧
    w.cell? ⟨b, off + (i * 5 + 0), none⟩ = some (.int .u8 r.kind) ∧ w.cell? ⟨b, off + (i * 5 + 1), none⟩ = some (.int .u8 r.op) ∧ w.cell? ⟨b, off + (i * 5 + 2), none⟩ = some (.int .u64 r.num) ∧
    w.cell? ⟨b, off + (i * 5 + 3), none⟩ = some (.int .u16 r.a) ∧ w.cell? ⟨b, off + (i * 5 + 4), none⟩ = some (.int .u16 r.b)
theorem RawsOf.nil (w : World) : RawsOf w (.slice none 0 0) [] := ⟨_, _, _, rfl, rfl, fun i hi => by omega⟩
theorem RawsOf.later {w w' : World} {v : Value} {rs : List RawN} (h : RawsOf w v rs) (hb : Below w.heap.size w w') : RawsOf w' v rs := by
  obtain ⟨a, n, cap, rfl, hl, hc⟩ := h
  refine ⟨a, n, cap, rfl, hl, fun i hi => ?_⟩
  obtain ⟨b, off, r, rfl, hx, hok, c0, c1, c2, c3, c4⟩ := hc i hi
  exact ⟨b, off, r, rfl, hx, hok, cell_later hb c0, cell_later hb c1, cell_later hb c2, cell_later hb c3, cell_later hb c4⟩
/-- One of a list, as the walk reads it. -/
theorem RawsOf.at {w : World} {a : Option Addr} {n cap : Nat} {rs : List RawN} (h : RawsOf w (.slice a n cap) rs) {i : Nat} (hi : i < n) :
    ∃ b off r, a = some ⟨b, off, none⟩ ∧ rs[i]? = some r ∧ r.Ok ∧ w.cell? ⟨b, off + i * 5, none⟩ = some (.int .u8 r.kind) ∧ w.cell? ⟨b, off + i * 5 + 1, none⟩ = some (.int .u8 r.op) ∧ w.cell? ⟨b, off + i * 5 + 2, none⟩ = some (.int .u64 r.num) ∧
    w.cell? ⟨b, off + i * 5 + 3, none⟩ = some (.int .u16 r.a) ∧ w.cell? ⟨b, off + i * 5 + 4, none⟩ = some (.int .u16 r.b) := by
  obtain ⟨a', n', c', e, hl, hc⟩ := h
  simp only [Value.slice.injEq] at e
  obtain ⟨rfl, rfl, rfl⟩ := e
  obtain ⟨b, off, r, rfl, hx, hok, c⟩ := hc i hi
  simp only [Nat.add_zero, ← Nat.add_assoc] at c
  exact ⟨b, off, r, rfl, hx, hok, c⟩
theorem RawsOf.ok {w : World} {v : Value} {rs : List RawN} (h : RawsOf w v rs) : ∀ r ∈ rs, r.Ok := fun r hr => by
  obtain ⟨a, n, cap, rfl, hl, hc⟩ := h
  obtain ⟨i, hi⟩ := List.mem_iff_getElem?.1 hr
  obtain ⟨b, off, r', -, hx, hok, -⟩ := hc i (by have := (List.getElem?_eq_some_iff.1 hi).1; omega)
  rw [hi] at hx
  cases hx
  exact hok
set_option maxRecDepth 100000 in
/-- What a law's frame tells of such a list. -/
theorem raws_of_trod {H : Type} {enc : TypeId × Value → H} {w : World} {base : Nat} {v : Value} {d : DataW H} {p : List MemPlace}
    (h : DataW.Trod enc Tryz.prog w 0 (fun _ => true) true 22 v d p) (o : Value.okWide Tryz.prog w .any base 22 v) :
    ∃ rs, RawsOf w v rs := by
  have h5 : Tryz.prog.cellsOf 53 = 5 := by kernel_rfl
  rcases slice_of_trod Tryz.underlying22 h o with rfl | ⟨ad, n, cap, fu, elems, rfl, hl, hm, hlen, hel⟩
  · exact ⟨[], RawsOf.nil w⟩
  · clear h o
    have hspot : 0 < n → ad.spot = none := by
      intro h0
      have he := hel 0 h0
      rw [h5, List.getElem?_eq_getElem (by omega)] at he
      obtain ⟨cs, hc, ht⟩ := Option.bind_eq_some_iff.1 he
      obtain ⟨x, hx, rfl⟩ := raw_of_cells ht
      obtain ⟨_, _, hat⟩ := World.cells?_some hc
      have t0 := hat 0 (by decide)
      simpa [Addr.add] using World.cell?_spot t0
    have each : ∀ i, i < n → ∃ r : RawN, ∃ b off, (ad : Addr) = ⟨b, off, none⟩ ∧ r.Ok ∧
        w.cell? ⟨b, off + (i * 5 + 0), none⟩ = some (.int .u8 r.kind) ∧ w.cell? ⟨b, off + (i * 5 + 1), none⟩ = some (.int .u8 r.op) ∧ w.cell? ⟨b, off + (i * 5 + 2), none⟩ = some (.int .u64 r.num) ∧
        w.cell? ⟨b, off + (i * 5 + 3), none⟩ = some (.int .u16 r.a) ∧ w.cell? ⟨b, off + (i * 5 + 4), none⟩ = some (.int .u16 r.b) := by
      intro i hi
      have he := hel i hi
      rw [h5, List.getElem?_eq_getElem (by omega)] at he
      obtain ⟨cs, hc, ht⟩ := Option.bind_eq_some_iff.1 he
      obtain ⟨x, hx, rfl⟩ := raw_of_cells ht
      obtain ⟨_, _, hat⟩ := World.cells?_some hc
      have t0 := hat 0 (by decide); have t1 := hat 1 (by decide); have t2 := hat 2 (by decide); have t3 := hat 3 (by decide); have t4 := hat 4 (by decide)
      have hsp := hspot (by omega)
      obtain ⟨b, off, spot⟩ := ad
      simp only at hsp
      subst hsp
      simp only [Go.WideShapes.add_plain, List.getElem?_cons_zero, List.getElem?_cons_succ, Nat.add_assoc] at t0 t1 t2 t3 t4
      exact ⟨x, b, off, rfl, hx, t0, t1, t2, t3, t4⟩
    obtain ⟨rs, hq, hp⟩ := list_of_each n each
    refine ⟨rs, some ad, n, cap, rfl, hq, fun i hi => ?_⟩
    obtain ⟨x, hx, b, off, hab, r⟩ := hp i hi
    exact ⟨b, off, x, by rw [hab], hx, r⟩
end Go.Proofs.YteamnchoddegpaaGreatDoor
namespace Go.Proofs.YteamnchoddegpaaGreatDoor
open Go.RowKit Go.Maps
set_option maxHeartbeats 3200000
set_option maxRecDepth 100000 in
theorem graphs_bad (w : World) (Wi : Int) (v : Value) (h : ¬ (1 ≤ Wi ∧ Wi ≤ 64)) :
    Calls Tryz.prog 9 #[.int .i64 Wi, v] w fun e w' => e = .returned (.tuple #[.pointer none, .pointer none]) ∧ w = w' := by
  have h' : ¬ newOk Wi 1000 := fun hk => h ⟨hk.1, hk.2.1⟩
  have H1 := Lib.hid (new_bad Wi 1000 h' w); have H2 := Lib.hid (rnew_bad Wi 1000 h' w)
  clear h h'
  go_enter Tryz.func9, Tryz.ntmps9
  go_wp2_with (first | (go_at_call 26; refine H1.out.mono ?_; rintro e w1 ⟨rfl, rfl⟩) | (go_at_call 27; refine H2.out.mono ?_; rintro e w1 ⟨rfl, rfl⟩))
  go_ret2
  exact ⟨rfl, rfl⟩
section
variable {w0 wr w' : World} {ts : List Thing}
theorem made_one (v : Value) : madeCells #[v] 1 = #[v] := by
  refine Array.ext_getElem? fun i => ?_
  by_cases h : i < 1
  · obtain rfl : i = 0 := by omega
    rw [madeCells_at _ _ _ (by omega)]
    rfl
  · rw [Array.getElem?_eq_none (by simp [madeCells]; omega), Array.getElem?_eq_none (by simp; omega)]
theorem Lab.one_int (h : Lab w0 wr ts) (x : Int) : Lab w0 (wr.alloc (.cells #[.int .i64 x] 3)) (Thing.numsK .i64 3 (.slice (some ⟨wr.heap.size, 0, none⟩) 1 1) [x] :: ts) := by
  have h1 := h.make_row 1 3 (.int .i64 x) (by unfold maxLen; omega)
  rw [made_one] at h1
  exact h1
/-- What lies apart from a list of one's own lies as it lay when something is appended to that list. -/
theorem append_keep {k : IntKind} {E : Nat} {ao : Option Addr} {m c : Nat} {ys : List Int} {T ty bytes : Nat} {x : Int} {v : Value} {w2 : World} (hy : ys.length = m) (h : Lab w0 wr (Thing.numsK k E (.slice ao m c) ys :: ts))
    (ht : Tryz.prog.underlying T = some (.slice E)) (hi : (Tryz.prog.info? E).map (fun i => (i.zero, i.size, i.bytes)) = some (some (.int k 0), 1, bytes)) (hbt : bytes ≤ 1000) (hn : m ≤ 999999999)
    (hr : (Builtin.append_ #[T, T] ty #[.slice ao m c, .slice (some ⟨wr.heap.size, 0, none⟩) 1 1]).run Tryz.prog (wr.alloc (.cells #[.int k x] E)) = .ok v w2) {a : Addr} {u : Value} (hne : some a.block ≠ (Value.slice ao m c).ownBlock) (hc : wr.cell? a = some u) : w2.cell? a = some u := by
  unfold Thing.numsK at h
  rw [hy] at h
  have hl := h.later (below_new wr (.cells #[.int k x] E))
  have hown : (wr.alloc (.cells #[.int k x] E)).ownsRow 0 E 1 (.slice ao m c) m (ys.map (Value.int k)) := hl.head
  obtain ⟨v', w', hr', -, h3⟩ := run_append_src (P := Tryz.prog) (wr.alloc (.cells #[.int k x] E)) 0 T ty E 1 bytes (.int k 0) ht hi rfl (by decide) hbt _ _ m 1 _ [.int k x] hown (srcOf_new wr (.int k x) E) (by intro v hv; simp at hv; rw [hv]; rfl) (by omega) (Nat.zero_le _)
  rw [hr] at hr'
  simp only [Result.ok.injEq] at hr'
  obtain ⟨rfl, rfl⟩ := hr'
  exact h3.cell (cell_later (below_new _ _) hc) hne
set_option maxRecDepth 100000 in
theorem Lab.graphs (h : Lab w0 wr ts) (Wi : Int) (h1 : 1 ≤ Wi) (h2 : Wi ≤ 64) (v : Value) (rs : List RawN) (hv : RawsOf w0 v rs) (hn : rs.length ≤ 900) :
    Calls Tryz.prog 9 #[.int .i64 Wi, v] wr fun e w' => ∃ gb rb F I F' I', e = .returned (.tuple #[.pointer (some ⟨gb, 0, none⟩), .pointer (some ⟨rb, 0, none⟩)]) ∧
      Lab w0 w' (Thing.graph F I gb Wi.toNat 1000 (rawsL Wi.toNat 1000 rs) :: Thing.rgraph F' I' rb Wi.toNat 1000 (rawsL Wi.toNat 1000 rs) :: ts) := by
  have hok : newOk Wi 1000 := ⟨h1, h2, by omega, by omega⟩
  have hrm : roomOf 1000 = 1000 := rfl
  obtain ⟨W, hW⟩ : ∃ W, Wi.toNat = W := ⟨_, rfl⟩
  have hW2 : W ≤ 64 := by omega
  have HV := Lib.hid hv
  have HOKS := Lib.hid hv.ok
  obtain ⟨a, n, cap, rfl, hln, -⟩ := hv
  have HLN := Lib.hid hln
  have hn9 : n ≤ 900 := by omega
  have H1 := Lib.hid (h.new_graph Wi 1000 hok)
  have HK := Lib.hid hok
  rw [hW]
  rw [hrm, hW] at H1
  have HW := Lib.hid hW
  clear hok hrm hln h hW
  go_enter Tryz.func9, Tryz.ntmps9
  go_wp2_with fail
  go_at_call 26
  refine H1.out.mono ?_
  rintro e w1 ⟨gb, F, rfl, hl1⟩
  have H2 := Lib.hid (hl1.new_rgraph Wi 1000 HK.out)
  rw [show roomOf 1000 = 1000 from rfl, HW.out] at H2
  clear H1 hl1
  go_wp2_with fail
  go_at_call 27
  refine H2.out.mono ?_
  rintro e w2 ⟨rb, F', rfl, hl2⟩
  have HL := Lib.hid hl2
  clear H2 hl2
  go_wp2
  go_loopw [10] (fun v10 wx => ∃ c : Nat, c ≤ n ∧ v10 = .int .i64 c ∧ ∃ F I F' I', Lab w0 wx (Thing.graph F I gb W 1000 (rawsL W 1000 (rs.take c)) :: Thing.rgraph F' I' rb W 1000 (rawsL W 1000 (rs.take c)) :: ts)) (fun v10 _ => n - (intOf v10).toNat)
  case atStart => exact ⟨0, by omega, rfl, F, [], F', [], HL.out.swap⟩
  case round =>
    clear HL
    obtain ⟨c, hc, rfl, F, I, F', I', hl⟩ := hrel
    by_cases hlt : c < n
    · have hlt' : (c : Int) < (n : Int) := by omega
      have hcw : IntKind.i64.wrap ((c : Int) + 1) = (c : Int) + 1 := by simp [IntKind.wrap, IntKind.bits, IntKind.signed]; omega
      have c0 : (0 : Int) ≤ (c : Int) := by omega
      obtain ⟨b, off, r, rfl, hr, hrok, k0, k1, k2, k3, k4⟩ := HV.out.at hlt
      have KS := Lib.hid (fun wx (hb : Below w0.heap.size w0 wx) => And.intro (cell_later hb k0) (And.intro (cell_later hb k1) (And.intro (cell_later hb k2) (And.intro (cell_later hb k3) (cell_later hb k4)))))
      have HBLT := Lib.hid (show b < w0.heap.size from World.block_lt_of_cell? (h := k0))
      obtain ⟨j0, j1, j2, j3, j4⟩ := KS.out wr hl.below
      have hrs : rs.take (c + 1) = rs.take c ++ [r] := by rw [List.take_add_one, hr]; rfl
      have hstep := rawR_ok (room := 1000) (rawsL_ok (room := 1000) hW2 HOKS.out (by omega) c (by have := HLN.out; omega)).1 hrok hW2 (by have := HLN.out; omega)
      obtain ⟨L, hL⟩ : ∃ L, rawsL W 1000 (rs.take c) = L := ⟨_, rfl⟩
      have hL2 : rawsL W 1000 (rs.take (c + 1)) = (rawR W 1000 L r).1 := by rw [hrs, rawsL_snoc, hL]
      rw [hL] at hl hstep
      obtain ⟨R, hR⟩ : ∃ R, rawR W 1000 L r = R := ⟨_, rfl⟩
      rw [hR] at hstep hL2
      obtain ⟨L2, t, e⟩ := R
      have he : e = 0 := hstep.1
      subst he
      have hNEXT : ∀ wx, (∃ F I F' I', Lab w0 wx (Thing.graph F I gb W 1000 L2 :: Thing.rgraph F' I' rb W 1000 L2 :: ts)) → ∃ F I F' I', Lab w0 wx (Thing.graph F I gb W 1000 (rawsL W 1000 (rs.take (c + 1))) :: Thing.rgraph F' I' rb W 1000 (rawsL W 1000 (rs.take (c + 1))) :: ts) := fun wx h => by rw [hL2]; exact h
      obtain ⟨a9, c9, p0, p1, p2, hL6⟩ := (hl.swap).rgr.parts
      have HL := Lib.hid hl; have HR := Lib.hid hR; have HN := Lib.hid hNEXT; have HO := Lib.hid hrok; have HL6 := Lib.hid hL6
      have HPOS := Lib.hid (show L.length ≤ 900 by have := hstep.2.1.len; have := (rawsL_ok (room := 1000) hW2 HOKS.out (by omega) c (by have := HLN.out; omega)).1.len; rw [hL] at this; have := HLN.out; omega)
      clear hl hr hrs hstep hL hL2 hR hNEXT hrok p0 p1 hL6 k0 k1 k2 k3 k4
      by_cases hA : r.kind % 3 = 0 ∨ L.length = 0
      · have hR : constR W 1000 L r.num = (L2, t, 0) := by rw [← HR.out]; unfold rawR; rw [if_pos hA]
        have hc := const_any HL.out.gr r.num HO.out.num
        rw [hR] at hc
        have hc2 : ∀ wx F I, RGr wx 0 F I rb W 1000 L → Calls Tryz.prog 29 #[.pointer (some ⟨rb, 0, none⟩), .int .u64 r.num] wx (RPost wx 0 F I rb W 1000 (L2, t, 0)) := fun wx F I h => by
          have := rconst_any h r.num HO.out.num
          rwa [hR] at this
        have HC := Lib.hid hc; have HC2 := Lib.hid hc2
        clear hc hc2 hR
        have hk : (((r.kind : Int) % 3) == 0) = true ∨ ((((r.kind : Int) % 3) == 0) = false ∧ ((L.length : Int) == 0) = true) := by
          by_cases h3 : r.kind % 3 = 0
          · exact .inl (by rw [beq_iff_eq]; omega)
          · exact .inr ⟨by rw [beq_eq_false_iff_ne]; omega, by rw [beq_iff_eq]; omega⟩
        clear hA
        rcases hk with hk | ⟨hk, hl0⟩
        all_goals
          go_wp2_with fail
          go_at_call 28
          refine HC.out.mono ?_
          intro e w3 hp
          obtain ⟨F2, I2, rfl, hl3⟩ := HL.out.gpost hp
          have hl4 := hl3.swap
          obtain ⟨j0, j1, j2, j3, j4⟩ := KS.out w3 hl3.below
          have HL4 := Lib.hid hl4
          clear hl3 hl4 hp
          go_wp2_with fail
          go_at_call 29
          refine (HC2.out _ _ _ HL4.out.rgr).mono ?_
          intro e w4 hp
          obtain ⟨F3, I3, rfl, hl5⟩ := HL4.out.rpost hp
          have HL5 := Lib.hid hl5
          clear hl5 hp
          go_wp2
          refine ⟨⟨c + 1, by omega, by go_num, HN.out _ ⟨_, _, _, _, HL5.out.swap⟩⟩, ?_⟩
          simp [intOf]; omega
      · have hk : (((r.kind : Int) % 3) == 0) = false := by rw [beq_eq_false_iff_ne]; omega
        have hl0 : ((L.length : Int) == 0) = false := by rw [beq_eq_false_iff_ne]; omega
        have hpos : 0 < L.length := by omega
        by_cases hB : r.kind % 3 = 1
        · have hk1 : (((r.kind : Int) % 3) == 1) = true := by rw [beq_iff_eq]; omega
          obtain ⟨q, hq⟩ : ∃ q, r.a % 12 = q := ⟨_, rfl⟩
          have hq2 : (r.a : Int) % 12 = (q : Int) := by omega
          have hq3 : IntKind.i64.wrap (q : Int) = (q : Int) := by simp [IntKind.wrap, IntKind.bits, IntKind.signed]; omega
          have hR : varR 1000 L (q : Int) = (L2, t, 0) := by rw [← HR.out]; unfold rawR; rw [if_neg hA, if_pos hB, hq]
          have hc := var_any HL.out.gr (q : Int)
          rw [hR] at hc
          have hc2 : ∀ wx F I, RGr wx 0 F I rb W 1000 L → Calls Tryz.prog 31 #[.pointer (some ⟨rb, 0, none⟩), .int .i64 q] wx (RPost wx 0 F I rb W 1000 (L2, t, 0)) := fun wx F I h => by
            have := rvar_any h (q : Int)
            rwa [hR] at this
          have HC := Lib.hid hc; have HC2 := Lib.hid hc2
          clear hc hc2 hR hA hB hq hpos
          go_wp2_with fail
          go_at_call 30
          refine HC.out.mono ?_
          intro e w3 hp
          obtain ⟨F2, I2, rfl, hl3⟩ := HL.out.gpost hp
          have hl4 := hl3.swap
          obtain ⟨j0, j1, j2, j3, j4⟩ := KS.out w3 hl3.below
          have HL4 := Lib.hid hl4
          clear hl3 hl4 hp
          go_wp2_with fail
          go_at_call 31
          refine (HC2.out _ _ _ HL4.out.rgr).mono ?_
          intro e w4 hp
          obtain ⟨F3, I3, rfl, hl5⟩ := HL4.out.rpost hp
          have HL5 := Lib.hid hl5
          clear hl5 hp
          go_wp2
          refine ⟨⟨c + 1, by omega, by go_num, HN.out _ ⟨_, _, _, _, HL5.out.swap⟩⟩, ?_⟩
          simp [intOf]; omega
        · have hk1 : (((r.kind : Int) % 3) == 1) = false := by rw [beq_eq_false_iff_ne]; omega
          obtain ⟨o, ho⟩ : ∃ o, r.o = o := ⟨_, rfl⟩
          have ho2 : 2 ≤ o ∧ o ≤ 20 := by rw [← ho]; unfold RawN.o; omega
          have how : IntKind.u8.wrap (2 + (r.op : Int) % 19) = (o : Int) := by rw [← ho]; unfold RawN.o; simp [IntKind.wrap, IntKind.bits, IntKind.signed]; omega
          obtain ⟨x, hx⟩ : ∃ x, r.a % L.length = x := ⟨_, rfl⟩
          obtain ⟨y, hy⟩ : ∃ y, r.b % L.length = y := ⟨_, rfl⟩
          have hxi : (r.a : Int) % (L.length : Int) = (x : Int) := by rw [← hx]; simp
          have hyi : (r.b : Int) % (L.length : Int) = (y : Int) := by rw [← hy]; simp
          have hra : (r.a : Int) ≤ 65535 := by have := HO.out.a; omega
          have hrb : (r.b : Int) ≤ 65535 := by have := HO.out.b; omega
          have hwa : IntKind.i64.wrap (r.a : Int) = (r.a : Int) := by simp [IntKind.wrap, IntKind.bits, IntKind.signed]; omega
          have hwb : IntKind.i64.wrap (r.b : Int) = (r.b : Int) := by simp [IntKind.wrap, IntKind.bits, IntKind.signed]; omega
          have hLne : ¬ ((L.length : Int)) = 0 := by omega
          have hR : appR 1000 L o (r.args L.length) = (L2, t, 0) := by rw [← HR.out]; unfold rawR; rw [if_neg hA, if_neg hB, ho]
          have hargs : r.args L.length = if o = 2 ∨ o = 3 then [(x : Int)] else [(x : Int), (y : Int)] := by unfold RawN.args; rw [ho, hx, hy]
          rw [hargs] at hR
          have HRR := Lib.hid hR; have HOO := Lib.hid ho2
          obtain ⟨m, hm⟩ : ∃ m, L.length = m := ⟨_, rfl⟩
          have hm0 : ¬ m = 0 := by omega
          have HMM := Lib.hid hm
          rw [hm] at p2 hl0 hxi hyi hLne
          have hxt : (r.a : Int).tmod (m : Int) = (x : Int) := by rw [Int.tmod_eq_emod_of_nonneg (by omega)]; exact hxi
          have hyt : (r.b : Int).tmod (m : Int) = (y : Int) := by rw [Int.tmod_eq_emod_of_nonneg (by omega)]; exact hyi
          clear hR hargs hA hB ho hx hy hpos ho2 hm
          go_upto_region 10 with fail
          go_region_held3 (fun w' => w'.cell? ⟨b, off + c * 5 + 3, none⟩ = some (.int .u16 r.a) ∧ w'.cell? ⟨rb, 2, none⟩ = some (.slice a9 m c9)) (first | exact ⟨j3, p2⟩ | exact ⟨cell_later (below_new _ _) j3, cell_later (below_new _ _) p2⟩ | go_keep) (fail)
          have hl3 := (HL.out.one_int (x : Int)).drew1
          obtain ⟨p, hp⟩ : ∃ p, wr.heap.size = p := ⟨_, rfl⟩
          simp only [hp] at hl3 ⊢
          have HL3 := Lib.hid hl3
          obtain ⟨w3, hw3⟩ : ∃ w3, (wr.alloc (.cells #[.int .i64 (x : Int)] 3)).drew = w3 := ⟨_, rfl⟩
          rw [hw3] at HL3 ⊢
          clear hl3 hw3 hp
          have hcase : (o = 2 ∨ o = 3) ∨ (((o : Int) != 2) = true ∧ ((o : Int) != 3) = true ∧ ¬ (o = 2 ∨ o = 3)) := by
            by_cases h : o = 2 ∨ o = 3
            · exact .inl h
            · exact .inr ⟨by rw [bne_iff_ne]; omega, by rw [bne_iff_ne]; omega, h⟩
          rcases hcase with ho | ⟨ho2, ho3, hno⟩
          · have hR := HRR.out
            rw [if_pos ho] at hR
            have hl3 := HL3.out
            have hc := app_any hl3.swap.gr o (by have := HOO.out; omega) [(x : Int)] _ (OwnInts.slice hl3.head)
            rw [hR] at hc
            have HC := Lib.hid hc; have HRX := Lib.hid hR
            clear hl3 hc hR HRR
            have hoc : (((o : Int) != 2) = false) ∨ (((o : Int) != 2) = true ∧ ((o : Int) != 3) = false) := by
              rcases ho with rfl | rfl
              · exact .inl rfl
              · exact .inr ⟨rfl, rfl⟩
            clear ho
            rcases hoc with ho2 | ⟨ho2, ho3⟩
            all_goals
              go_wp2_with fail
              go_at_call 32
              refine HC.out.mono ?_
              intro e w4 hp
              obtain ⟨F2, I2, rfl, hl4⟩ := HL3.out.swap.gpost hp
              have hl5 := hl4.rot3
              have hc2 := rapp_any hl5.rgr o (by have := HOO.out; omega) [(x : Int)] _ (OwnInts.slice hl5.third)
              rw [HRX.out] at hc2
              have HL5 := Lib.hid hl5; have HC2 := Lib.hid hc2
              clear hl4 hl5 hp hc2
              go_wp2_with fail
              go_at_call 33
              refine HC2.out.mono ?_
              intro e w5 hp
              obtain ⟨F3, I3, rfl, hl6⟩ := HL5.out.rpost hp
              have HL6 := Lib.hid hl6
              clear hl6 hp
              go_wp2
              refine ⟨⟨c + 1, by omega, by go_num, HN.out _ ⟨_, _, _, _, HL6.out.rot3.drop.swap⟩⟩, ?_⟩
              simp [intOf]; omega
          · have hR := HRR.out
            rw [if_neg hno] at hR
            obtain ⟨-, -, -, -, j4⟩ := KS.out w3 HL3.out.below
            obtain ⟨a9, c9, -, -, p2, -⟩ := HL3.out.rot3.rgr.parts
            rw [HMM.out] at p2
            obtain ⟨a2, c2, w4, hr, hl4⟩ := Lab.append1 (m := 1) 24 24 8 (y : Int) rfl HL3.out.drew1 Tryz.underlying24 Tryz.infoI64 (by decide) (by decide)
            have hc := app_any hl4.swap.gr o (by have := HOO.out; omega) [(x : Int), (y : Int)] _ (OwnInts.slice hl4.head)
            rw [hR] at hc
            have hpr : p ≠ rb := by
              intro e
              have ha := (List.pairwise_cons.1 HL3.out.apart).1 (Thing.rgraph F' I' rb W 1000 L) (by simp)
              refine (ha.1 p (by simp [Thing.numsK, Thing.row, Value.ownBlock])).1 ?_
              obtain ⟨sv, cells, hF, -⟩ := HL3.out.rot3.rgr.mem
              show p ∈ F'
              rw [hF, e]
              exact List.mem_cons_self
            have hpb : p ≠ b := by
              intro e
              have h1 := HL3.out.low (Thing.numsK .i64 3 (.slice (some ⟨p, 0, none⟩) 1 1) [(x : Int)]) (by simp) p (by simp [Thing.numsK, Thing.row, Value.ownBlock])
              have h2 := HBLT.out
              omega
            have kk := fun {a : Addr} {u : Value} (hne : some a.block ≠ (Value.slice (some ⟨p, 0, none⟩) 1 1).ownBlock) (hc : w3.drew.cell? a = some u) => append_keep (m := 1) rfl HL3.out.drew1 Tryz.underlying24 Tryz.infoI64 (by decide) (by decide) hr hne hc
            have KEEP := Lib.hid (show w4.cell? ⟨b, off + c * 5 + 4, none⟩ = some (.int .u16 r.b) ∧ w4.cell? ⟨rb, 2, none⟩ = some (.slice a9 m c9) from ⟨kk (by simp [Value.ownBlock]; exact fun h => hpb h.symm) j4, kk (by simp [Value.ownBlock]; exact fun h => hpr h.symm) p2⟩)
            clear kk hpr hpb
            have HR4 := Lib.hid hr; have HL4 := Lib.hid hl4; have HC := Lib.hid hc; have HRX := Lib.hid hR
            clear hr hl4 hc hR HRR hno
            go_upto_region 12 with fail
            go_region_held3 (fun w' => w'.cell? ⟨b, off + c * 5 + 4, none⟩ = some (.int .u16 r.b) ∧ w'.cell? ⟨rb, 2, none⟩ = some (.slice a9 m c9)) (first | exact ⟨j4, p2⟩ | exact ⟨cell_later (below_new _ _) j4, cell_later (below_new _ _) p2⟩ | exact KEEP.out | go_keep) (refine step_append_is rfl _ _ 24 rfl _ _ rfl rfl _ _ HR4.out ?_)
            go_wp2_with fail
            go_at_call 32
            refine HC.out.mono ?_
            intro e w5 hp
            obtain ⟨F2, I2, rfl, hl5⟩ := HL4.out.swap.gpost hp
            have hl6 := hl5.rot3
            have hc2 := rapp_any hl6.rgr o (by have := HOO.out; omega) [(x : Int), (y : Int)] _ (OwnInts.slice hl6.third)
            rw [HRX.out] at hc2
            have HL6 := Lib.hid hl6; have HC2 := Lib.hid hc2
            clear hl5 hl6 hp hc2
            go_wp2_with fail
            go_at_call 33
            refine HC2.out.mono ?_
            intro e w6 hp
            obtain ⟨F3, I3, rfl, hl7⟩ := HL6.out.rpost hp
            have HL7 := Lib.hid hl7
            clear hl7 hp
            go_wp2
            refine ⟨⟨c + 1, by omega, by go_num, HN.out _ ⟨_, _, _, _, HL7.out.rot3.drop.swap⟩⟩, ?_⟩
            simp [intOf]; omega
    · obtain rfl : c = n := by omega
      rw [List.take_of_length_le (by rw [HLN.out]; exact Nat.le_refl _)] at hl
      have HL := Lib.hid hl
      clear hl
      go_wp2
      go_ret2
      exact ⟨_, _, _, _, _, _, rfl, HL.out⟩
end
end Go.Proofs.YteamnchoddegpaaGreatDoor
namespace Go.Proofs.YteamnchoddegpaaGreatDoor
open Go.RowKit Go.Maps
set_option maxHeartbeats 3200000
section
variable {w w0 wr : World} {lb nl p : Nat} {R : Rel}
set_option maxRecDepth 100000 in
theorem vkeep_any (h : LatIs w lb nl R) (hp : w.cell? ⟨p, 0, none⟩ = some (.pointer (some ⟨lb, 0, none⟩))) (x : Int) (hx : lvl nl x) :
    Calls Tryz.prog 76 #[.int .i64 x, .pointer (some ⟨p, 0, none⟩)] w fun e w' => e = .returned (.bool false) ∧ w = w' := by
  have H1 := Lib.hid (llen_any h)
  have d1 : decide (x < 0) = false := decide_eq_false (by have := hx.1; omega)
  have d2 : decide ((nl : Int) ≤ x) = false := decide_eq_false (by have := hx.2; omega)
  clear h hx
  go_enter Tryz.func76, Tryz.ntmps76
  go_wp2_with (go_at_call 63; refine H1.out.mono ?_; rintro e w1 ⟨rfl, rfl⟩)
  go_ret
  exact ⟨rfl, rfl⟩
set_option maxRecDepth 100000 in
theorem vfilter_any (h : LatIs w lb nl R) (hp : w.cell? ⟨p, 0, none⟩ = some (.pointer (some ⟨lb, 0, none⟩))) {a : Option Addr} {n c : Nat} {xs : List Int} (hs : SliceOf w .i64 (.slice a n c) xs) (hx : ∀ x ∈ xs, lvl nl x) (hn : n ≤ 1000000) :
    Calls Tryz.prog 75 #[.func (.func 76) #[] #[.pointer (some ⟨p, 0, none⟩)], .slice a n c] w fun e w' => e = .returned (.slice none 0 0) ∧ w = w' := by
  have HK := Lib.hid (fun x hx => vkeep_any h hp x hx); have HS := Lib.hid (And.intro hs hx)
  clear h hp hs hx
  go_enter Tryz.func75, Tryz.ntmps75
  go_wp2
  go_loopw [5, 10] (fun o i wx => o = .slice none 0 0 ∧ ∃ k : Nat, k ≤ n ∧ i = .int .i64 k ∧ w = wx) (fun _ i _ => n - (intOf i).toNat)
  case atStart => exact ⟨rfl, 0, by omega, rfl, rfl⟩
  case round =>
    obtain ⟨rfl, k, hk, rfl, rfl⟩ := hrel
    by_cases hlt : k < n
    · have hlt' : (k : Int) < (n : Int) := by omega
      have k0 : (0 : Int) ≤ (k : Int) := by omega
      obtain ⟨b, off, x, rfl, hc, hx⟩ := HS.out.1.parts' hlt
      have H1 := Lib.hid (HK.out x (HS.out.2 x (List.mem_of_getElem? hx)))
      clear hx
      go_wp2_with fail
      go_at_call 76
      refine H1.out.mono ?_
      rintro e w1 ⟨rfl, rfl⟩
      go_wp2
      go_roundw
      case rel => exact ⟨rfl, k + 1, by omega, by go_num, by first | rfl | trivial⟩
      case measure => simp [intOf]; omega
    · obtain rfl : k = n := by omega
      go_wp2
      go_ret
      exact ⟨rfl, rfl⟩
set_option maxRecDepth 100000 in
theorem vmay_any (h : LatIs w lb nl R) {level : Int} {v : Value} {ls : List Int} (hs : SliceOf w .i64 v ls) (hm : mayE nl level ls = 0) :
    Calls Tryz.prog 49 #[.pointer (some ⟨lb, 0, none⟩), .int .i64 level, v] w fun e w' => e = .returned (.bool true) ∧ Below w.heap.size w w' := by
  obtain ⟨h1, h32, hlv, hls⟩ := may_len hm
  obtain ⟨a, n, c, rfl, hn, -⟩ := hs.parts
  have hall : ∀ x ∈ level :: ls, lvl nl x := fun x hx => by
    rcases List.mem_cons.1 hx with rfl | hx
    · exact hlv
    · exact hls x hx
  have hb0 := (Lab.nil (Below.refl w.heap.size w)).alloc #[.pointer (some ⟨lb, 0, none⟩)] 28
  obtain ⟨p, hp⟩ : ∃ p, w.heap.size = p := ⟨_, rfl⟩
  rw [hp] at hb0
  have HB := Lib.hid hb0; have HI := Lib.hid (And.intro h (And.intro hs (And.intro hall (And.intro hn h32))))
  clear hb0 h hs hall hn h32 hlv hls hm h1
  go_enter Tryz.func49, Tryz.ntmps49
  go_upto_region 1 with fail
  refine wp_abs (fun wx => Lab w wx [Thing.box p 28 #[.pointer (some ⟨lb, 0, none⟩)]]) HB.out ?_
  intro w1 hl1
  have hl2 := hl1.one_int level
  have hsrc := HI.out.2.1.later hl2.below
  have HL2 := Lib.hid hl2; have HSRC := Lib.hid hsrc
  have hlen : 1 + ls.length ≤ 1000000000 := by have := HI.out.2.2.2.2; omega
  clear hl1 hl2 hsrc hp HB
  go_wp2_with (at_builtin; refine wpList_append_labn (n := 1) (xs := [level]) (.tmp 9) (.tmp 10) rfl HL2.out HSRC.out rfl rfl rfl rfl hlen ?_; intro a3 c3 w3 hl3; have HL3 := Lib.hid hl3; clear hl3 HL2 HSRC)
  go_at_call 75
  refine (vfilter_any (HI.out.1.later HL3.out.below) (cell_of_row _ p 0 _ _ _ HL3.out.box2) (OwnInts.slice HL3.out.ints) HI.out.2.2.1 (by have := HI.out.2.2.2.2; omega)).mono ?_
  rintro e w4 ⟨rfl, rfl⟩
  go_wp2
  go_ret
  exact ⟨rfl, HL3.out.below⟩
end
/-- A row as a map, from element i on. -/
def rowF (xs : List Int) (i n : Nat) (j : Int) : Option Value := if (i : Int) ≤ j ∧ j < (n : Int) then some (.int .u64 (xs.getD j.toNat 0)) else none
theorem rowF_put {xs : List Int} {i : Nat} {x : Int} (hx : xs[i]? = some x) (j : Int) : (if j = (i : Int) then some (.int .u64 x) else rowF xs 0 i j) = rowF xs 0 (i + 1) j := by
  unfold rowF
  by_cases e : j = (i : Int)
  · subst e
    rw [if_pos rfl, if_pos (by omega), Int.toNat_natCast, List.getD_eq_getElem?_getD, hx]; rfl
  · rw [if_neg e]
    by_cases h : ((0 : Nat) : Int) ≤ j ∧ j < (i : Int)
    · rw [if_pos h, if_pos (by omega)]
    · rw [if_neg h, if_neg (by omega)]
theorem rowF_del (xs : List Int) {i n : Nat} (j : Int) : (if j = (i : Int) then none else rowF xs i n j) = rowF xs (i + 1) n j := by
  unfold rowF
  by_cases e : j = (i : Int)
  · subst e
    rw [if_pos rfl, if_neg (by omega)]
  · rw [if_neg e]
    by_cases h : (i : Int) ≤ j ∧ j < (n : Int)
    · rw [if_pos h, if_pos (by omega)]
    · rw [if_neg h, if_neg (by omega)]
theorem rowF_none (xs : List Int) (n : Nat) (j : Int) : rowF xs n n j = none := by
  unfold rowF
  rw [if_neg (by omega)]
theorem mapF_none {P : Program} {K : TypeId} {kd : IntKind} {w : World} {mb c : Nat} {f : Int → Option Value} (h : MapF P K kd w mb f c) (hf : ∀ k, f k = none) : MapIs P K w mb [] := by
  obtain ⟨m, h1, h2, h3, h4⟩ := h
  have : m = [] := by
    cases m with
    | nil => rfl
    | cons p m =>
      obtain ⟨k, v, -, hk⟩ := h3 p List.mem_cons_self
      rw [hf] at hk; cases hk
  rw [← this]; exact h1
section
variable {w : World} {lb nl N : Nat} {R : Rel}
set_option maxRecDepth 100000 in
theorem vinputs_any (hlat : LatIs w lb nl R) {level : Int} {v2 : Value} {ls : List Int} (hs : SliceOf w .i64 v2 ls) (hm : mayE nl level ls = 0) (hN : ls.length = N) {a3 a4 : Option Addr} {c3 c4 : Nat} {xss yss : List (List Int)} (hA : NumsOf w .u64 (.slice a3 N c3) xss) (hB : NumsOf w .u64 (.slice a4 N c4) yss)
    (hlen : ∀ xs ∈ xss, xs.length ≤ 1000) (heq : ∀ c, c < N → leB nl R (ls.getD c 0) level = true → xss[c]? = yss[c]?) :
    Calls Tryz.prog 21 #[.pointer (some ⟨lb, 0, none⟩), .int .i64 level, v2, .slice a3 N c3, .slice a4 N c4] w fun e w' => e = .returned (.tuple #[.bool true, .int .i64 0]) ∧ Below w.heap.size w w' := by
  obtain ⟨a2, n2, c2, rfl, hn2, -⟩ := hs.parts
  obtain rfl : n2 = N := by omega
  have hml := may_len hm
  have hN32 : n2 ≤ 32 := by omega
  have H1 := Lib.hid (vmay_any hlat hs hm); have HI := Lib.hid (And.intro hlat (And.intro hs (And.intro hA (And.intro hB (And.intro hlen heq)))))
  have q3 : ¬ (n2 : Int) < (n2 : Int) := by omega
  have hnl := Lib.hid hn2
  clear hlat hs hA hB hlen heq hm hml hN hn2
  go_enter Tryz.func21, Tryz.ntmps21
  go_wp2_with fail
  go_at_call 49
  refine H1.out.mono ?_
  rintro e w1 ⟨rfl, hb1⟩
  have HB1 := Lib.hid hb1
  clear hb1 H1
  go_wp2
  go_loopw [43] (fun i wx => ∃ c : Nat, c ≤ n2 ∧ i = .int .i64 c ∧ Lab w wx []) (fun i _ => n2 - (intOf i).toNat)
  case atStart => exact ⟨0, by omega, rfl, Lab.nil HB1.out⟩
  case round =>
    clear HB1
    obtain ⟨c, hc, rfl, hl⟩ := hrel
    by_cases hlt : c < n2
    · have hlt' : (c : Int) < (n2 : Int) := by omega
      have c0 : (0 : Int) ≤ (c : Int) := by omega
      obtain ⟨b2, o2, q, rfl, hcq, hq⟩ := (HI.out.2.1.later hl.below).parts' hlt
      have hqd : ls.getD c 0 = q := by rw [List.getD_eq_getElem?_getD, hq]; rfl
      have hle := lle_any (HI.out.1.later hl.below) q level
      have HL := Lib.hid hl
      by_cases hB : leB nl R q level = true
      · rw [hB] at hle
        have hxy := HI.out.2.2.2.2.2 c hlt (by rw [hqd]; exact hB)
        obtain ⟨b3, o3, xs, a5, c5, rfl, hx, hcx, hsx⟩ := nums_atW HI.out.2.2.1 hlt
        obtain ⟨b4, o4, ys, a6, c6, rfl, hy, hcy, hsy⟩ := nums_atW HI.out.2.2.2.1 hlt
        rw [hx, hy] at hxy
        obtain rfl := Option.some.inj hxy
        have hx1000 := HI.out.2.2.2.2.1 xs (List.mem_of_getElem? hx)
        obtain ⟨m, hm⟩ : ∃ m, xs.length = m := ⟨_, rfl⟩
        rw [hm] at hcx hsx hcy hsy hx1000
        have HLE := Lib.hid hle; have HSX := Lib.hid hsx; have HSY := Lib.hid hsy; have HM := Lib.hid hm; have HC := Lib.hid (And.intro hcx hcy)
        clear hle hxy hx hy hq hqd hB hsx hsy hl hm hcx hcy
        go_wp2_with fail
        go_at_call 50
        refine HLE.out.mono ?_
        rintro e w2 ⟨rfl, rfl⟩
        have hmm := @run_makeMap Tryz.prog
        have hl2 := (HL.out.new_map 3 .i64).mapf_congr (fun j => (rowF_none xs 0 j).symm)
        obtain ⟨mb, hmb⟩ : ∃ mb, wr.heap.size = mb := ⟨_, rfl⟩
        rw [hmb] at hl2
        have HL2 := Lib.hid hl2
        clear hl2 HLE
        go_upto_region 10 with fail
        clear hmb hmm hcq
        refine wp_abs (fun wx => Lab w wx [Thing.mapf 3 .i64 mb (rowF xs 0 0) 0]) HL2.out ?_
        intro w3 hl3
        have d3 := cell_later hl3.below HC.out.1; have d4 := cell_later hl3.below HC.out.2
        have HL3 := Lib.hid hl3
        clear hl3 HL2 HL
        go_wp2
        go_loopw [64] (fun i wx => ∃ k : Nat, k ≤ m ∧ i = .int .i64 k ∧ ∃ cnt, Lab w wx [Thing.mapf 3 .i64 mb (rowF xs 0 k) cnt]) (fun i _ => m - (intOf i).toNat)
        case atStart => exact ⟨0, by omega, rfl, 0, HL3.out⟩
        case round =>
          clear HL3 d3 d4
          obtain ⟨k, hk, rfl, cnt, hl⟩ := hrel
          by_cases hlt3 : k < m
          · have hlt3' : (k : Int) < (m : Int) := by omega
            have k0 : (0 : Int) ≤ (k : Int) := by omega
            obtain ⟨b5, o5, x, rfl, hcx, hx⟩ := (HSX.out.later hl.below).parts' hlt3
            obtain ⟨hput, hl5⟩ := Lab.mput (T := 99) (E := 43) (k := (k : Int)) hl Tryz.underlying3 Tryz.underlying99 (wf_i64 (by omega) (by omega)) (.int .u64 x)
            have hl6 := hl5.mapf_congr (fun j => rowF_put hx j)
            obtain ⟨w5, hw5⟩ : ∃ w5, mapW Tryz.prog 99 mb (.int .i64 (k : Int)) (.int .u64 x) wr = w5 := ⟨_, rfl⟩
            rw [hw5] at hput hl6
            have HL6 := Lib.hid hl6
            clear hl hl5 hl6 hw5 hx
            go_wp2
            go_roundw
            case rel => exact ⟨k + 1, by omega, by go_num, _, HL6.out⟩
            case measure => simp [intOf]; omega
          · obtain rfl : m = k := by omega
            have d4 := cell_later hl.below HC.out.2
            have HL4 := Lib.hid hl
            clear hl
            go_wp2
            go_loopw [82] (fun i wx => ∃ k2 : Nat, k2 ≤ m ∧ i = .int .i64 k2 ∧ ∃ cnt, Lab w wx [Thing.mapf 3 .i64 mb (rowF xs k2 m) cnt]) (fun i _ => m - (intOf i).toNat)
            case atStart => exact ⟨0, by omega, rfl, cnt, HL4.out⟩
            case round =>
              clear HL4 d4
              obtain ⟨k2, hk2, rfl, cnt2, hl⟩ := hrel
              by_cases hlt4 : k2 < m
              · have hlt4' : (k2 : Int) < (m : Int) := by omega
                have k20 : (0 : Int) ≤ (k2 : Int) := by omega
                obtain ⟨b6, o6, y, rfl, hcy, hy⟩ := (HSY.out.later hl.below).parts' hlt4
                have hfy : rowF xs k2 m (k2 : Int) = some (.int .u64 y) := by
                  unfold rowF
                  rw [if_pos (by omega), Int.toNat_natCast, List.getD_eq_getElem?_getD, hy]; rfl
                have hlook := hl.mapf.hit (T := 99) (E := 43) Tryz.underlying3 Tryz.underlying99 (wf_i64 (k := (k2 : Int)) (by omega) (by omega)) hfy false
                have hyy : ((y : Int) != (y : Int)) = false := by simp
                have HL5 := Lib.hid hl
                clear hl hfy hy
                go_wp2_with (at_delete; refine wpList_delete_lab rfl (.tmp 92) (.tmp 93) 99 3 43 rfl (k := (k2 : Int)) rfl rfl HL5.out Tryz.underlying3 Tryz.underlying99 (wf_i64 (by omega) (by omega)) ?_; intro w6 cnt6 hl6; have HL6 := Lib.hid (hl6.mapf_congr (fun j => rowF_del xs j)); clear hl6)
                go_roundw
                case rel => exact ⟨k2 + 1, by omega, by go_num, cnt6, HL6.out⟩
                case measure => simp [intOf]; omega
              · obtain rfl : m = k2 := by omega
                have hnone := mapF_none hl.mapf (fun j => rowF_none xs _ j)
                have HL5 := Lib.hid hl; have HM1 := Lib.hid hnone
                clear hl hnone
                go_wp2_with (at_range; refine wpList_range_map rfl _ 99 43 rfl Tryz.underlying99 rfl HM1.out ?_; intro w7 hrg hb7 hs7)
                go_frame
                have hl7 := HL5.out.rng_start hrg hb7
                obtain ⟨r, hr⟩ : ∃ r, wr.heap.size = r := ⟨_, rfl⟩
                rw [hr] at hl7 ⊢
                have HL7 := Lib.hid hl7
                clear hl7 hrg hb7 hs7 hr HM1 HL5
                go_loopw [19] (fun _ wx => Lab w wx [Thing.rng mb r [] []]) (fun _ wx => rngLeft wx mb r)
                case atStart => exact HL7.out
                case round =>
                  clear HL7
                  have HLR := Lib.hid hrel
                  have HRG := Lib.hid hrel.rng
                  clear hrel
                  go_wp2_with (at_next; refine wpList_next_map rfl _ rfl rfl HRG.out ?_ ?_)
                  refine ⟨⟨c + 1, by omega, by go_num, HLR.out.drop⟩, ?_⟩
                  simp [intOf]; omega
      · have hB' : leB nl R q level = false := by cases h : leB nl R q level; rfl; exact absurd h hB
        rw [hB'] at hle
        have HLE := Lib.hid hle
        clear hle hB hB' hl hq hqd
        go_wp2_with fail
        go_at_call 50
        refine HLE.out.mono ?_
        rintro e w2 ⟨rfl, rfl⟩
        go_wp2
        go_roundw
        case rel => exact ⟨c + 1, by omega, by go_num, HL.out⟩
        case measure => simp [intOf]; omega
    · obtain rfl : c = n2 := by omega
      have HL := Lib.hid hl
      clear hl
      go_wp2
      go_ret2
      exact ⟨rfl, HL.out.below⟩
end
end Go.Proofs.YteamnchoddegpaaGreatDoor
