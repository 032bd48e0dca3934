/- TwinAll, whole. -/
import Derived.Test.YtmfendfpjpbhdaaDoorAllC
import Derived.Deep.DeepCutAuto
import Derived.Deep.CutBlock
namespace Go.Proofs.YtmfendfpjpbhdaaDoor
open Go.RowKit Go.Maps
set_option maxHeartbeats 3200000

theorem SliceOf.len_eq {w : World} {k : IntKind} {a : Option Addr} {n cap : Nat} {xs : List Int} (h : SliceOf w k (.slice a n cap) xs) : xs.length = n := by
  obtain ⟨a', n', c', e, hl, -⟩ := h.parts
  simp only [Value.slice.injEq] at e
  omega
theorem nums_len {w : World} {k : IntKind} {a : Option Addr} {n cap : Nat} {xss : List (List Int)} (h : NumsOf w k (.slice a n cap) xss) : xss.length = n := by
  obtain ⟨a1, n1, c1, e, hl, -⟩ := h
  simp only [Value.slice.injEq] at e
  omega
section
variable {w wb wr w' : World} {ts : List Thing}
set_option maxRecDepth 100000 in
theorem twinAll_walk (nI lv : Int) (v1 : Value) (a3 a4 a5 : Option Addr) (n3 c3 n4 c4 n5 c5 : Nat) (w : World) (hT : TabOk w) (os : List (Int × Int)) (hv : PairsOf w v1 os) (hn : os.length ≤ 9223372036854775807)
    (ls : List Int) (hs : SliceOf w .i64 (.slice a3 n3 c3) ls) (ass bss : List (List Int)) (ha : NumsOf w .u64 (.slice a4 n4 c4) ass) (hb : NumsOf w .u64 (.slice a5 n5 c5) bss) :
    Calls Tryd.prog 5 #[.int .i64 nI, v1, .int .i64 lv, .slice a3 n3 c3, .slice a4 n4 c4, .slice a5 n5 c5] w fun e w' => e = .returned (.bool true) ∧ Below w.heap.size w w' := by
  have H2 := Lib.hid (lattices_any (Below.refl _ w) nI v1 os hv hn hT)
  obtain ⟨a1, n1, c1, rfl, hol, -⟩ := hv
  have HS := Lib.hid (And.intro hs (And.intro ha hb))
  have H1 := Lib.hid (few_any w a1 a3 n1 c1 n3 c3)
  have HT := Lib.hid hT
  have HA0 := Lib.hid (awake35_any w hT)
  have hl3 := hs.len_eq
  have HOL := Lib.hid hl3
  clear hs hn hT hol ha hb hl3
  by_cases hok : (n1 ≤ 30 ∧ n3 ≤ 40) ∧ 1 ≤ n3 ∧ n3 ≤ 6 ∧ n4 = n3 ∧ n5 = n3
  · obtain ⟨hf, h1, h6, rfl, rfl⟩ := hok
    rw [decide_eq_true hf] at H1
    have i1 : ¬ (n5 : Int) < 1 := by omega
    have i6 : ¬ (6 : Int) < (n5 : Int) := by omega
    clear hf
    by_cases he : latE nI os = 0
    · replace H2 := Lib.hid (H2.out.mono fun e w' h => h.1 he)
      clear he HA0
      go_enter Tryd.func5, Tryd.ntmps5
      go_wp2_with fail
      go_at_call 6
      refine H1.out.mono ?_
      rintro e w1 ⟨rfl, rfl⟩
      go_wp2_with fail
      go_at_call 8
      refine H2.out.mono ?_
      rintro e w1 ⟨lb, xb, rfl, hl, -, hb⟩
      obtain ⟨n, hn⟩ : ∃ n, nI.toNat = n := ⟨_, rfl⟩
      rw [hn] at hl
      have HI := Lib.hid (show AllIn w w1 lb n n5 (latR n os) (.slice a3 n5 c3) (.slice a4 n5 c4) (.slice a5 n5 c5) ls ass bss → True from fun _ => trivial)
      have HL := Lib.hid (And.intro hl hb)
      have HAB := Lib.hid (And.intro (HS.out.1.later hb) (And.intro (HS.out.2.1.later hb) (HS.out.2.2.later hb)))
      have HAW := Lib.hid (awake35_any w1 (HT.out.later hb))
      have HBB := Lib.hid hb
      clear hl hb hn H1 H2 HI
      go_upto_block 0 with fail
      go_cut [17] (fun _ wx => w1 = wx ∧ (∀ xs ∈ ass, xs.length ≤ 8) ∧ (∀ xs ∈ bss, xs.length ≤ 8))
      case first => as_aux_lemma =>
        clear HT HL
        go_wp2
        go_loopw [17] (fun v wx => ∃ c : Nat, c ≤ n5 ∧ v = .int .i64 c ∧ w1 = wx ∧ ∀ i, i < c → (∀ xs, ass[i]? = some xs → xs.length ≤ 8) ∧ (∀ xs, bss[i]? = some xs → xs.length ≤ 8)) (fun v _ => n5 - (intOf v).toNat)
        case atStart => exact ⟨0, by omega, rfl, rfl, fun i hi => by omega⟩
        case round =>
          obtain ⟨c, hc, rfl, rfl, h8⟩ := hrel
          by_cases hlt : c < n5
          · have hlt' : (c : Int) < (n5 : Int) := by omega
            have c0 : (0 : Int) ≤ (c : Int) := by omega
            obtain ⟨b4, f4, xa, aa, ca, rfl, hxa, -, ea, -⟩ := nums_at HAB.out.2.1 hlt
            obtain ⟨b5, f5, xb, ab, cb, rfl, hxb, -, eb, -⟩ := nums_at HAB.out.2.2 hlt
            have H8 := Lib.hid h8; have HXX := Lib.hid (And.intro hxa hxb)
            clear h8 hxa hxb
            by_cases hA : 8 < xa.length
            · have hA' : (8 : Int) < (xa.length : Int) := by omega
              clear hA
              go_wp2_with (go_at_call 7; refine HAW.out.mono ?_; rintro e w6 ⟨rfl, hb6⟩)
              go_ret
              exact ⟨rfl, HBB.out.trans (hb6.mono HBB.out.size)⟩
            · have hA' : ¬ (8 : Int) < (xa.length : Int) := by omega
              by_cases hB : 8 < xb.length
              · have hB' : (8 : Int) < (xb.length : Int) := by omega
                have HAN := Lib.hid hA
                clear hA hB
                go_wp2_with (go_at_call 7; refine HAW.out.mono ?_; rintro e w6 ⟨rfl, hb6⟩)
                go_ret
                exact ⟨rfl, HBB.out.trans (hb6.mono HBB.out.size)⟩
              · have hB' : ¬ (8 : Int) < (xb.length : Int) := by omega
                have HN := Lib.hid (And.intro hA hB)
                clear hA hB
                go_wp2
                refine ⟨⟨c + 1, by omega, by go_num, by first | rfl | trivial, fun i hi => ?_⟩, by simp [intOf]; omega⟩
                by_cases e : i = c
                · subst e
                  exact ⟨fun xs h => by rw [HXX.out.1] at h; cases h; have := HN.out.1; omega, fun xs h => by rw [HXX.out.2] at h; cases h; have := HN.out.2; omega⟩
                · exact H8.out i (by omega)
          · obtain rfl : c = n5 := by omega
            have HH := Lib.hid (show (∀ xs ∈ ass, xs.length ≤ 8) ∧ (∀ xs ∈ bss, xs.length ≤ 8) by
              refine ⟨fun xs h => ?_, fun xs h => ?_⟩
              · obtain ⟨i, hi⟩ := List.mem_iff_getElem?.1 h
                exact (h8 i (by have := (List.getElem?_eq_some_iff.1 hi).1; have := nums_len HAB.out.2.1; omega)).1 xs hi
              · obtain ⟨i, hi⟩ := List.mem_iff_getElem?.1 h
                exact (h8 i (by have := (List.getElem?_eq_some_iff.1 hi).1; have := nums_len HAB.out.2.2; omega)).2 xs hi)
            clear h8
            go_wp2
            go_meet
            exact ⟨rfl, HH.out⟩
      case rest => as_aux_lemma =>
        obtain ⟨rfl, h8a, h8b⟩ := hcut
        refine (show ∀ (a : Act) (w : World), Code.wp Tryd.prog (allRest 14) _ a w → _ by assumption) _ _ (all_rest14 ⟨HL.out.2, HT.out, HL.out.1, HAB.out.1, HOL.out, h1, h6, HAB.out.2.1, HAB.out.2.2, h8a, h8b⟩)
    · replace H2 := Lib.hid (H2.out.mono fun e w' h => h.2 he)
      clear he HA0 HS
      go_enter Tryd.func5, Tryd.ntmps5
      go_wp2_with fail
      go_at_call 6
      refine H1.out.mono ?_
      rintro e w1 ⟨rfl, rfl⟩
      go_wp2_with fail
      go_at_call 8
      refine H2.out.mono ?_
      rintro e w1 ⟨rfl, hb⟩
      have HB := Lib.hid hb
      have HA := Lib.hid (awake35_any w1 (HT.out.later hb))
      clear hb
      go_wp2_with fail
      go_at_call 7
      refine HA.out.mono ?_
      rintro e w2 ⟨rfl, hb⟩
      have HB2 := Lib.hid (HB.out.trans (hb.mono HB.out.size))
      clear hb
      go_wp2
      go_ret
      exact ⟨rfl, HB2.out⟩
  · have main : ¬ (n1 ≤ 30 ∧ n3 ≤ 40) ∨ ((n1 ≤ 30 ∧ n3 ≤ 40) ∧ ((n3 : Int) < 1 ∨ (¬ (n3 : Int) < 1 ∧ ((6 : Int) < (n3 : Int) ∨ (¬ (6 : Int) < (n3 : Int) ∧ (((n4 : Int) != (n3 : Int)) = true ∨ (n4 = n3 ∧ ((n5 : Int) != (n3 : Int)) = true))))))) := by
      by_cases h1 : n1 ≤ 30 ∧ n3 ≤ 40
      · refine .inr ⟨h1, ?_⟩
        by_cases h2 : (n3 : Int) < 1
        · exact .inl h2
        · refine .inr ⟨h2, ?_⟩
          by_cases h3 : (6 : Int) < (n3 : Int)
          · exact .inl h3
          · refine .inr ⟨h3, ?_⟩
            by_cases h4 : n4 = n3
            · refine .inr ⟨h4, ?_⟩
              rw [bne_iff_ne]
              intro h5
              exact hok ⟨h1, by omega, by omega, h4, by omega⟩
            · refine .inl ?_
              rw [bne_iff_ne]
              omega
      · exact .inl h1
    clear hok H2 HS HT HOL
    rcases main with hf | ⟨hf, h2 | ⟨h2, h3 | ⟨h3, h4 | ⟨rfl, h5⟩⟩⟩⟩
    · rw [decide_eq_false hf] at H1
      clear hf
      go_enter Tryd.func5, Tryd.ntmps5
      go_wp2_with (first | (go_at_call 6; refine H1.out.mono ?_; rintro e w1 ⟨rfl, rfl⟩) | (go_at_call 7; refine HA0.out.mono ?_; rintro e w2 ⟨rfl, hb⟩))
      go_ret
      exact ⟨rfl, hb⟩
    all_goals
      rw [decide_eq_true hf] at H1
      clear hf
      go_enter Tryd.func5, Tryd.ntmps5
      go_wp2_with (first | (go_at_call 6; refine H1.out.mono ?_; rintro e w1 ⟨rfl, rfl⟩) | (go_at_call 7; refine HA0.out.mono ?_; rintro e w2 ⟨rfl, hb⟩))
      go_ret
      exact ⟨rfl, hb⟩
end
end Go.Proofs.YtmfendfpjpbhdaaDoor
