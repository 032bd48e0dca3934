/- Variables that occur in terms, and terms without any, that are made anew: plain lists. -/
import Derived.Test.YtcpgiadhmmmafaaPlainP
namespace Go.Proofs.Ytcpgiadhmmmafaa

section
variable {W room : Nat} {L L' L0 : List PNode} {o : Nat} {xs : List Int} {Q : List PNode → Int → Prop}
/-- What the rules keep holds of terms made anew, where it holds of what became of the leaves. -/
theorem made_gen {O : Nat → Bool} {lf : Nat → PNode → Int} (hpre : ∀ M M' t, WFL M → M <+: M' → 0 ≤ t → t < (M.length : Int) → Q M t → Q M' t)
    (hres : ∀ M o xs, WFL M → GoodL W M → 2 ≤ o → o ≤ 21 → aryN o = xs.length → (∀ a ∈ xs, (0 : Int) ≤ a ∧ a < (M.length : Int)) → (∀ a ∈ xs, Q M a) → ((simpA W M o xs).res W room M).2.2 = 0 → Q ((simpA W M o xs).res W room M).1 ((simpA W M o xs).res W room M).2.1)
    (hW : W ≤ 64) (hw0 : WFL L0) (hg0 : GoodL W L0) (hlf : ∀ i n, L0[i]? = some n → 0 ≤ lf i n ∧ lf i n < (L0.length : Int))
    (hO : ∀ i n, L0[i]? = some n → O i = true → ∀ a ∈ n.2.2, O a.toNat = true) (hleaf : ∀ i n, L0[i]? = some n → O i = true → n.2.2 = [] → Q L0 (lf i n)) :
    ∀ k, k ≤ L0.length → (madeRun W room L0 O lf k).2.2 = 0 → ∀ i, i < k → O i = true → Q (madeRun W room L0 O lf k).1 ((madeRun W room L0 O lf k).2.1.getD i 0)
  | 0, _, _ => fun i hi => by omega
  | k + 1, hk, he => by
    have h0 := madeRun_ok he
    have ih := made_gen hpre hres hW hw0 hg0 hlf hO hleaf k (by omega) h0
    have h := made_inv (O := O) hW hw0 hg0 hlf k (by omega) h0
    rw [madeRun_succ h0] at he ⊢
    obtain ⟨n, hn⟩ : ∃ n, L0[k]? = some n := ⟨_, List.getElem?_eq_getElem (by omega)⟩
    generalize madeRun W room L0 O lf k = s at *
    intro i hi hOi
    have bound : ∀ i, i < k → 0 ≤ s.2.1.getD i 0 ∧ s.2.1.getD i 0 < (s.1.length : Int) := by
      intro i hi
      obtain ⟨m, hm⟩ : ∃ m, s.2.1[i]? = some m := ⟨_, List.getElem?_eq_getElem (by rw [h.many]; omega)⟩
      rw [List.getD_eq_getElem?_getD, hm]
      exact h.at_ i m hm
    have old : ∀ (M : List PNode) (v : Int) (i : Nat), s.1 <+: M → i < k → O i = true → Q M ((s.2.1 ++ [v]).getD i 0) := by
      intro M v i hp hi hOi
      rw [List.getD_eq_getElem?_getD, List.getElem?_append_left (by rw [h.many]; omega), ← List.getD_eq_getElem?_getD]
      exact hpre _ _ _ h.wf hp (bound i hi).1 (bound i hi).2 (ih i hi hOi)
    have top : ∀ v : Int, (s.2.1 ++ [v]).getD k 0 = v := by
      intro v
      rw [List.getD_eq_getElem?_getD, List.getElem?_append_right (by rw [h.many]; omega), h.many]
      simp
    have hlk : i < k ∨ i = k := by omega
    by_cases hOk : O k = true
    · by_cases ha : n.2.2 = []
      · rw [step_leaf hn hOk ha]
        rcases hlk with hik | rfl
        · exact old _ _ _ (List.prefix_refl _) hik hOi
        · show Q s.1 ((s.2.1 ++ [lf i n]).getD i 0)
          rw [top]
          exact hpre _ _ _ hw0 h.pre (hlf i n hn).1 (hlf i n hn).2 (hleaf i n hn hOk ha)
      · obtain ⟨g1, g2, _, g3⟩ := good_app (hg0 n (List.mem_of_getElem? hn)) ha
        have hin := made_args h (hw0.args k n hn)
        have hR := simpR_in (W := W) (room := room) g1 g2 (by rw [List.length_map]; exact g3) hin
        rw [step_app hn hOk ha hR] at he ⊢
        have hc : (Ans.res W room s.1 (simpA W s.1 n.1 (n.2.2.map fun a => s.2.1.getD a.toNat 0))).2.2 = 0 := by
          split at he
          · assumption
          · exact he
        rw [if_pos hc]
        rcases hlk with hik | rfl
        · exact old _ _ _ (ans_prefix _) hik hOi
        · show Q _ ((s.2.1 ++ [_]).getD i 0)
          rw [top]
          refine hres s.1 n.1 _ h.wf h.good g1 g2 (by rw [List.length_map]; exact g3) hin (fun b hb => ?_) hc
          obtain ⟨a, ha', rfl⟩ := List.mem_map.1 hb
          have hai := hw0.args i n hn a ha'
          exact ih a.toNat (by omega) (hO i n hn hOk a ha')
    · rw [Bool.not_eq_true] at hOk
      rw [step_skip hn hOk]
      rcases hlk with hik | rfl
      · exact old _ _ _ (List.prefix_refl _) hik hOi
      · rw [hOk] at hOi; cases hOi
/-- What occurs in a term is not greater than it. -/
theorem occ_le (hw : WFL L) {t i : Nat} (h : occ L t i = true) : i ≤ t := by
  rcases Nat.lt_or_ge t i with hi | hi
  · unfold occ at h
    rw [occDown_same hw (t + 1) _ (by omega)] at h
    have : i = t := by simpa using h
    omega
  · exact hi
theorem occ_hO (hw : WFL L) {t : Nat} : ∀ i n, L[i]? = some n → occ L t i = true → ∀ a ∈ n.2.2, occ L t a.toNat = true := fun i n hn ho a ha =>
  occ_args hw (occ_le hw ho) ho a (by unfold argsOf; rw [hn]; exact ha)
/-- The same, of a term that is made simple. -/
theorem simpleR_gen (hpre : ∀ M M' t, WFL M → M <+: M' → 0 ≤ t → t < (M.length : Int) → Q M t → Q M' t)
    (hres : ∀ M o xs, WFL M → GoodL W M → 2 ≤ o → o ≤ 21 → aryN o = xs.length → (∀ a ∈ xs, (0 : Int) ≤ a ∧ a < (M.length : Int)) → (∀ a ∈ xs, Q M a) → ((simpA W M o xs).res W room M).2.2 = 0 → Q ((simpA W M o xs).res W room M).1 ((simpA W M o xs).res W room M).2.1)
    (hW : W ≤ 64) (hw : WFL L) (hg : GoodL W L) {t s : Nat} (ht : t < L.length) (hR : simpleR W room L t = (L', s, 0)) (hleaf : ∀ (i : Nat) n, L[i]? = some n → occ L t i = true → n.2.2 = [] → Q L i) : Q L' s := by
  have hlf : ∀ i n, L[i]? = some n → (0 : Int) ≤ (fun (i : Nat) (_ : PNode) => (i : Int)) i n ∧ (fun (i : Nat) (_ : PNode) => (i : Int)) i n < (L.length : Int) := fun i n hn => by
    have := (List.getElem?_eq_some_iff.1 hn).1
    exact ⟨by show (0 : Int) ≤ (i : Int); omega, by show (i : Int) < _; omega⟩
  have hg' := made_gen (O := occ L t) (lf := fun i _ => (i : Int)) hpre hres hW hw hg hlf (occ_hO hw) hleaf (t + 1) (by omega)
  have hnn := madeRun_nonneg (W := W) (room := room) (L0 := L) (O := occ L t) (lf := fun i _ => (i : Int)) (fun i _ => by omega) (t + 1)
  unfold simpleR madeEnd at hR
  rw [if_pos ⟨by omega, by omega⟩, Int.toNat_natCast] at hR
  by_cases he : (madeRun W room L (occ L t) (fun i _ => (i : Int)) (t + 1)).2.2 = 0
  · rw [if_pos he] at hR
    have h1 := hg' he t (by omega) (occ_top L t)
    simp only [Prod.mk.injEq, and_true] at hR
    obtain ⟨rfl, rfl⟩ := hR
    rw [Int.toNat_of_nonneg ?_]
    · exact h1
    · rw [List.getD_eq_getElem?_getD]
      cases hq : (madeRun W room L (occ L t) (fun i _ => (i : Int)) (t + 1)).2.1[t]? with
      | none => simp
      | some q => exact hnn q (List.mem_of_getElem? hq)
  · rw [if_neg he] at hR
    simp only [Prod.mk.injEq] at hR
    exact absurd hR.2.2 he
end
/-- A term none of whose nodes is the variable v. -/
def NoVar (L : List PNode) (v t : Nat) : Prop := ∃ S : Nat → Prop, S t ∧ ∀ j, S j → j < L.length ∧ (∀ n, L[j]? = some n → n.1 = 1 → n.2.1 ≠ v) ∧ ∀ a ∈ argsOf L j, S a.toNat
section
variable {W room : Nat} {L L' : List PNode} {o v : Nat} {xs : List Int}
theorem NoVar.prefix' (h : L <+: L') {t : Nat} (hf : NoVar L v t) : NoVar L' v t := by
  obtain ⟨S, hS, hc⟩ := hf
  have hl := h.length_le
  refine ⟨S, hS, fun j hj => ?_⟩
  obtain ⟨h1, h2, h3⟩ := hc j hj
  refine ⟨by omega, fun n hn => ?_, fun a ha => h3 a (by rw [← argsOf_prefix h h1]; exact ha)⟩
  obtain ⟨m, hm⟩ : ∃ m, L[j]? = some m := ⟨_, List.getElem?_eq_getElem h1⟩
  have := prefix_at h hm
  rw [hn] at this
  obtain rfl : n = m := by simpa using this
  exact h2 n hm
theorem NoVar.arg {t : Nat} (hf : NoVar L v t) {a : Int} (ha : a ∈ argsOf L t) : NoVar L v a.toNat := by
  obtain ⟨S, hS, hc⟩ := hf
  exact ⟨S, (hc t hS).2.2 a ha, hc⟩
theorem NoVar.leaf {t : Nat} {n : PNode} (hn : L[t]? = some n) (ha : n.2.2 = []) (h1 : n.1 = 1 → n.2.1 ≠ v) : NoVar L v t := by
  refine ⟨fun j => j = t, rfl, fun j hj => ?_⟩
  subst hj
  refine ⟨(List.getElem?_eq_some_iff.1 hn).1, fun m hm => ?_, fun a ha' => ?_⟩
  · rw [hn] at hm
    obtain rfl : n = m := by simpa using hm
    exact h1
  · unfold argsOf at ha'
    rw [hn] at ha'
    have h2 : a ∈ n.2.2 := ha'
    rw [ha] at h2
    cases h2
theorem NoVar.at {t : Nat} (hf : NoVar L v t) {n : PNode} (hn : L[t]? = some n) (h1 : n.1 = 1) : n.2.1 ≠ v := by
  obtain ⟨S, hS, hc⟩ := hf
  exact (hc t hS).2.1 n hn h1
theorem res_noVar (hw : WFL L) (h1 : 2 ≤ o) (h2 : o ≤ 21) (hl : aryN o = xs.length) (hin : ∀ a ∈ xs, (0 : Int) ≤ a ∧ a < (L.length : Int)) (hf : ∀ a ∈ xs, NoVar L v a.toNat) (he : ((simpA W L o xs).res W room L).2.2 = 0) :
    NoVar ((simpA W L o xs).res W room L).1 v ((simpA W L o xs).res W room L).2.1 := by
  have hok := simpA_ok (W := W) hw h1 h2 hl hin
  have hof := simpA_of (W := W) hw h1 h2 hl
  have hpre := ans_prefix (W := W) (room := room) (L := L) (simpA W L o xs)
  generalize simpA W L o xs = R at *
  cases R with
  | term t =>
    rcases hof with h | ⟨x, hx, h⟩
    · exact hf t h
    · exact (hf x hx).arg h
  | num q =>
    have e : Ans.res W room L (.num q) = askP room L (0, q % 2 ^ W, []) := rfl
    rw [e] at he ⊢
    exact NoVar.leaf (ask_term he) rfl (fun h => by simp at h)
  | app o' ys =>
    obtain ⟨k1, k2, k3, k4⟩ := hok
    obtain ⟨hsub, -⟩ := hof
    have e : Ans.res W room L (.app o' ys) = askP room L (o', 0, ys) := by
      show appR room L o' ys = _
      unfold appR
      rw [if_pos ⟨k2, aryN_pos k1, k3⟩, if_pos k4]
    rw [e] at he hpre ⊢
    have hat := ask_term he
    generalize askP room L (o', 0, ys) = R at *
    have hS := fun y (hy : y ∈ ys) => hf y (hsub y hy)
    refine ⟨fun j => j = R.2.1 ∨ NoVar R.1 v j, .inl rfl, fun j hj => ?_⟩
    rcases hj with rfl | ⟨S, hSj, hc⟩
    · refine ⟨(List.getElem?_eq_some_iff.1 hat).1, fun n hn h1 => ?_, fun a ha => ?_⟩
      · rw [hat] at hn
        obtain rfl : n = (o', 0, ys) := by simpa using hn.symm
        simp only at h1
        omega
      · unfold argsOf at ha
        rw [hat] at ha
        exact .inr ((hS a ha).prefix' hpre)
    · obtain ⟨c1, c2, c3⟩ := hc j hSj
      exact ⟨c1, c2, fun a ha => .inr ⟨S, c3 a ha, hc⟩⟩
/-- A variable occurs in a term. -/
def hasVar (L : List PNode) (t v : Nat) : Prop := ∃ j n, occ L t j = true ∧ L[j]? = some n ∧ n.1 = 1 ∧ n.2.1 = v
theorem noVar_of (hw : WFL L) {t : Nat} (ht : t < L.length) (h : ¬ hasVar L t v) : NoVar L v t :=
  ⟨fun j => occ L t j = true, occ_top L t, fun j hj => ⟨by have := occ_le hw hj; omega, fun n hn h1 h2 => h ⟨j, n, hj, hn, h1, h2⟩, fun a ha => occ_args hw (occ_le hw hj) hj a ha⟩⟩
theorem NoVar.not_has {t : Nat} (h : NoVar L v t) : ¬ hasVar L t v := by
  obtain ⟨S, hS, hc⟩ := h
  rintro ⟨j, n, ho, hn, h1, h2⟩
  exact (hc j (occ_in (L := L) hS (fun j hj => (hc j hj).2.2) j ho)).2.1 n hn h1 h2
/-- No new variables. -/
theorem simpleR_noVar (hW : W ≤ 64) (hw : WFL L) (hg : GoodL W L) {t s : Nat} (ht : t < L.length) (hR : simpleR W room L t = (L', s, 0)) (h : NoVar L v t) : NoVar L' v s := by
  have := simpleR_gen (Q := fun M t => NoVar M v t.toNat) (fun M M' t _ hp _ _ hq => hq.prefix' hp) (fun M o xs hw _ h1 h2 hl hin hq he => by rw [Int.toNat_natCast]; exact res_noVar hw h1 h2 hl hin hq he) hW hw hg ht hR (fun i n hn ho ha => ?_)
  · simpa using this
  · rw [Int.toNat_natCast]
    obtain ⟨S, hS, hc⟩ := h
    exact NoVar.leaf hn ha ((hc i (occ_in (L := L) hS (fun j hj => (hc j hj).2.2) i ho)).2.1 n hn)
/-- A term without variables becomes a number. -/
theorem num_prefix (h : L <+: L') {t : Int} (h2 : t < (L.length : Int)) (hn : isNum L t = true) : isNum L' t = true := by rw [isNum_prefix h h2]; exact hn
theorem num_at {t : Nat} {n : PNode} (hn : L[t]? = some n) (h0 : n.1 = 0) : numOf L (t : Int) = some n.2.1 := by
  unfold numOf
  rw [if_pos (by omega), Int.toNat_natCast, hn]
  exact if_pos h0
theorem res_num (hq : ∀ a ∈ xs, isNum L a = true) (he : ((simpA W L o xs).res W room L).2.2 = 0) : isNum ((simpA W L o xs).res W room L).1 ((simpA W L o xs).res W room L).2.1 = true := by
  have e : simpA W L o xs = .num (wI o W (xs.map fun t => (numD L t : Int))).toNat := by
    unfold simpA
    rw [if_pos hq]
  rw [e] at he ⊢
  exact isNum_of (num_at (ask_term he) rfl)
theorem simpleR_num (hW : W ≤ 64) (hw : WFL L) (hg : GoodL W L) {t s : Nat} (ht : t < L.length) (hR : simpleR W room L t = (L', s, 0)) (h : ∀ v, ¬ hasVar L t v) : isNum L' s = true := by
  refine simpleR_gen (Q := fun M t => isNum M t = true) (fun M M' t _ hp _ h2 hq => num_prefix hp h2 hq) (fun M o xs hw _ h1 h2 hl hin hq he => res_num hq he) hW hw hg ht hR (fun i n hn ho ha => ?_)
  refine isNum_of (num_at hn ?_)
  rcases hg n (List.mem_of_getElem? hn) with ⟨h0, _⟩ | ⟨h1, _⟩ | ⟨h1, _, _, h4⟩
  · exact h0
  · exact absurd ⟨i, n, ho, hn, h1, rfl⟩ (h n.2.1)
  · rw [ha] at h4
    exact absurd h4 (aryN_pos h1)
/-- The whole of what SimpVars asks. -/
theorem simpleR_vars {vals : List Int} (h1 : 1 ≤ W) (hW : W ≤ 64) (hw : WFL L) (hg : GoodL W L) {t : Nat} (ht : t < L.length) (hr : L.length + (t + 1) ≤ room) :
    ∃ L' s, simpleR W room L t = (L', s, 0) ∧ WFL L' ∧ GoodL W L' ∧ L <+: L' ∧ L'.length ≤ L.length + (t + 1) ∧ s < L'.length ∧ (∀ v, hasVar L' s v → hasVar L t v) ∧ ((∀ v, ¬ hasVar L t v) → numOf L' s = some (val W vals L t).toNat ∧ 0 ≤ val W vals L t) := by
  obtain ⟨L', s, hR, hw', hg', hp, hlen, hs, hv⟩ := simpleR_sound (vals := vals) h1 hW hw hg ht hr
  refine ⟨L', s, hR, hw', hg', hp, hlen, hs, fun v hv' => ?_, fun hno => ?_⟩
  · by_cases hh : hasVar L t v
    · exact hh
    · exact absurd hv' (simpleR_noVar hW hw hg ht hR (noVar_of hw ht hh)).not_has
  · have hn := simpleR_num hW hw hg ht hR hno
    have h2 := isNum_some hn
    have h3 := (numOf_val (vals := vals) hw' hg' h2).1
    rw [Int.toNat_natCast, hv] at h3
    rw [h2, h3]
    exact ⟨by simp, by omega⟩
end
end Go.Proofs.Ytcpgiadhmmmafaa
