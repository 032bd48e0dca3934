/- Terms that are simple stay what they are: plain lists. Variables that occur in terms, and terms without any, that are made anew: plain lists. Terms in the place of variables: plain lists. -/
import Derived.Test.YtofbadmjopefpaaPlainS
namespace Go.Proofs.Ytofbadmjopefpaa

theorem ite_ok' {P : Ans → Prop} {c : Prop} [Decidable c] {a b : Ans} (ha : c → P a) (hb : ¬ c → P b) : P (if c then a else b) := by
  split
  · exact ha (by assumption)
  · exact hb (by assumption)
section
variable {W room : Nat} {L L' : List PNode} {o : Nat} {x y z : Int} {xs : List Int}
theorem isNum_of {t : Int} {c : Nat} (h : numOf L t = some c) : isNum L t = true := by unfold isNum; rw [h]; rfl
theorem twoA_pred2 {P : Ans → Prop} (h1 : P (.term x)) (h2 : ∀ v, P (.num v)) (h3 : isNum L y = true → P (oneA L 2 x)) (h4 : P (.app o [x, y])) : P (twoA W L o x y) := by
  unfold twoA
  repeat' (first | exact h1 | exact h4 | exact h2 _ | (refine ite_ok' (fun hc => ?_) (fun _ => ?_)))
  all_goals exact h3 (isNum_of (by assumption))
/-- What a simple term is made of. -/
def AnsOf (W : Nat) (L : List PNode) (xs : List Int) (a : Ans) : Prop :=
  match a with
  | .term t => t ∈ xs ∨ ∃ x ∈ xs, t ∈ argsOf L x.toNat
  | .num _ => True
  | .app o ys => (∀ y ∈ ys, y ∈ xs) ∧ simpA W L o ys = .app o ys
theorem oneA_of (ho : o = 2 ∨ o = 3) (hw : WFL L) (hn : isNum L x = false) : AnsOf W L [x] (oneA L o x) := by
  have hs : simpA W L o [x] = oneA L o x := by
    unfold simpA
    rw [if_neg (fun q => by rw [q x (by simp)] at hn; cases hn)]
  rcases oneA_cases L o x with h | ⟨n, hi, h, hno⟩
  · have h' := h
    rw [h]
    exact ⟨fun y hy => hy, by rw [hs, h']⟩
  · rw [h]
    refine .inr ⟨x, by simp, ?_⟩
    unfold argsOf
    rw [hi]
    have hl := (hw.ok n (List.mem_of_getElem? hi)).2.2
    have h1 : aryN n.1 = 1 := by rcases ho with rfl | rfl <;> rw [hno] <;> rfl
    rw [h1] at hl
    obtain ⟨o', k', l⟩ := n
    match l, hl with
    | [a], _ => simp
theorem simpA_of (hw : WFL L) (h1 : 2 ≤ o) (h2 : o ≤ 21) (hl : aryN o = xs.length) : AnsOf W L xs (simpA W L o xs) := by
  by_cases hall : ∀ t ∈ xs, isNum L t = true
  · unfold simpA
    rw [if_pos hall]
    trivial
  · match xs, hl, hall with
    | [], hl, _ => exact absurd hl (aryN_pos h1)
    | [x], hl, hall =>
      have hn : isNum L x = false := by
        cases hx : isNum L x with
        | false => rfl
        | true => exact absurd (fun t ht => by obtain rfl := List.mem_singleton.1 ht; exact hx) hall
      have hs : simpA W L o [x] = oneA L o x := by unfold simpA; rw [if_neg hall]
      rw [hs]
      exact oneA_of (by unfold aryN at hl; rw [if_neg (by omega)] at hl; split at hl; · omega
                        · split at hl <;> simp at hl) hw hn
    | [x, y], hl, hall =>
      have hs : simpA W L o [x, y] = if swapA L o x y then twoA W L o y x else twoA W L o x y := by unfold simpA; rw [if_neg hall]
      have hall2 : ¬ ∀ t ∈ [y, x], isNum L t = true := fun q => hall (fun t ht => q t (by simpa [or_comm] using ht))
      have hs2 : simpA W L o [y, x] = if swapA L o y x then twoA W L o x y else twoA W L o y x := by unfold simpA; rw [if_neg hall2]
      have hnn : ¬ (isNum L x = true ∧ isNum L y = true) := fun q => hall (fun t ht => by
        rcases List.mem_cons.1 ht with rfl | ht
        · exact q.1
        · obtain rfl := List.mem_singleton.1 ht; exact q.2)
      have key : ∀ a b : Int, (∀ t, t ∈ [a, b] → t ∈ [x, y]) → ¬ (isNum L a = true ∧ isNum L b = true) → simpA W L o [a, b] = twoA W L o a b → AnsOf W L [x, y] (twoA W L o a b) := by
        intro a b hm hnn hsab
        obtain ⟨R, hR⟩ : ∃ R, twoA W L o a b = R := ⟨_, rfl⟩
        have hp : (fun R' => R' = R → AnsOf W L [x, y] R') (twoA W L o a b) := by
          refine twoA_pred2 (P := fun R' => R' = R → AnsOf W L [x, y] R') (fun _ => Or.inl (hm a (by simp))) (fun _ _ => trivial) (fun hb _ => ?_) (fun he => ⟨fun t ht => hm t ht, by rw [hsab, hR, ← he]⟩)
          have hna : isNum L a = false := by
            cases ha : isNum L a with
            | false => rfl
            | true => exact absurd ⟨ha, hb⟩ hnn
          have := oneA_of (W := W) (L := L) (x := a) (o := 2) (.inl rfl) hw hna
          cases hc : oneA L 2 a with
          | term t =>
            rw [hc] at this
            rcases this with h | ⟨x', hx', h⟩
            · exact Or.inl (hm t (by simp at h; simp [h]))
            · exact Or.inr ⟨x', hm x' (by simp at hx'; simp [hx']), h⟩
          | num v => trivial
          | app o' ys =>
            rw [hc] at this
            exact ⟨fun t ht => hm t (by have := this.1 t ht; simp at this; simp [this]), this.2⟩
        exact hp hR
      rw [hs]
      by_cases hsw : swapA L o x y
      · rw [if_pos hsw]
        have hns : ¬ swapA L o y x := by
          have hc := hsw.1
          have hsx : swapA L o x y ↔ (isNum L x = true ∨ isNum L y = false ∧ y < x) := by unfold swapA; simp [hc]
          have hsy : swapA L o y x ↔ (isNum L y = true ∨ isNum L x = false ∧ x < y) := by unfold swapA; simp [hc]
          rw [hsy]; rw [hsx] at hsw
          cases hx : isNum L x <;> cases hy : isNum L y <;> simp_all
          omega
        exact key y x (fun t ht => by simpa [or_comm] using ht) (fun q => hnn ⟨q.2, q.1⟩) (by rw [hs2, if_neg hns])
      · rw [if_neg hsw]
        exact key x y (fun t ht => ht) hnn (by rw [hs, if_neg hsw])
    | [x, y, z], hl, hall =>
      obtain rfl : o = 21 := by
        unfold aryN at hl; rw [if_neg (by omega)] at hl
        split at hl
        · simp at hl
        · split at hl
          · assumption
          · simp at hl
      have hs : simpA W L 21 [x, y, z] = threeA L x y z := by unfold simpA; rw [if_neg hall]
      obtain ⟨R, hR⟩ : ∃ R, threeA L x y z = R := ⟨_, rfl⟩
      rw [hs]
      have hp : (fun R' => R' = R → AnsOf W L [x, y, z] R') (threeA L x y z) := by
        unfold threeA
        repeat' (refine ite_ok (P := fun R' => R' = R → AnsOf W L [x, y, z] R') ?_ ?_)
        · exact fun _ => Or.inl (by simp)
        · exact fun _ => Or.inl (by simp)
        · exact fun _ => Or.inl (by simp)
        · exact fun he => ⟨fun t ht => ht, by rw [hs, hR, ← he]⟩
      exact hp hR
    | _ :: _ :: _ :: _ :: _, hl, _ =>
      exfalso
      have := aryN_le3 o
      simp at hl; omega
end
/-- A node whose simple term is itself. -/
def Fix (W : Nat) (L : List PNode) (j : Nat) : Prop := ∀ n, L[j]? = some n → n.2.2 ≠ [] → simpA W L n.1 n.2.2 = .app n.1 n.2.2
/-- A term all of whose nodes are such. -/
def FixedT (W : Nat) (L : List PNode) (t : Nat) : Prop := ∃ S : Nat → Prop, S t ∧ ∀ j, S j → j < L.length ∧ Fix W L j ∧ ∀ a ∈ argsOf L j, S a.toNat
section
variable {W room : Nat} {L L' L0 : List PNode} {o : Nat} {xs : List Int}
theorem argsOf_prefix (h : L <+: L') {j : Nat} (hj : j < L.length) : argsOf L' j = argsOf L j := by
  unfold argsOf
  obtain ⟨n, hn⟩ : ∃ n, L[j]? = some n := ⟨_, List.getElem?_eq_getElem hj⟩
  rw [prefix_at h hn, hn]
theorem Fix.prefixT (hw : WFL L) (h : L <+: L') {j : Nat} (hj : j < L.length) (hf : Fix W L j) : Fix W L' j := by
  intro n hn ha
  obtain ⟨m, hm⟩ : ∃ m, L[j]? = some m := ⟨_, List.getElem?_eq_getElem hj⟩
  have := prefix_at h hm
  rw [hn] at this
  obtain rfl : n = m := by simpa using this
  rw [simpA_prefix h (fun a ha => by have := hw.args j n hm a ha; omega)]
  exact hf n hm ha
theorem FixedT.prefixT (hw : WFL L) (h : L <+: L') {t : Nat} (hf : FixedT W L t) : FixedT W L' t := by
  obtain ⟨S, hS, hc⟩ := hf
  have hl := h.length_le
  refine ⟨S, hS, fun j hj => ?_⟩
  obtain ⟨h1, h2, h3⟩ := hc j hj
  exact ⟨by omega, h2.prefixT hw h h1, fun a ha => h3 a (by rw [← argsOf_prefix h h1]; exact ha)⟩
theorem FixedT.arg {t : Nat} (hf : FixedT W L t) {a : Int} (ha : a ∈ argsOf L t) : FixedT W L a.toNat := by
  obtain ⟨S, hS, hc⟩ := hf
  exact ⟨S, (hc t hS).2.2 a ha, hc⟩
theorem FixedT.leaf {t : Nat} {n : PNode} (hn : L[t]? = some n) (ha : n.2.2 = []) : FixedT W L t := by
  refine ⟨fun j => j = t, rfl, fun j hj => ?_⟩
  subst hj
  refine ⟨(List.getElem?_eq_some_iff.1 hn).1, fun m hm hne => ?_, fun a ha' => ?_⟩
  · rw [hn] at hm
    obtain rfl : n = m := by simpa using hm
    exact absurd ha hne
  · unfold argsOf at ha'
    rw [hn] at ha'
    have h2 : a ∈ n.2.2 := ha'
    rw [ha] at h2
    cases h2
/-- The nodes of such a term. -/
theorem occ_closed {S : Nat → Prop} (hS : ∀ j, S j → ∀ a ∈ argsOf L j, S a.toNat) : ∀ (k : Nat) (f : Nat → Bool), (∀ i, f i = true → S i) → ∀ i, occDown L k f i = true → S i
  | 0, _, hf, i, hi => hf i hi
  | k + 1, f, hf, i, hi => occ_closed hS k (occStep L k f) (fun j hj => by
      unfold occStep at hj
      rw [Bool.or_eq_true] at hj
      rcases hj with hj | hj
      · exact hf j hj
      · rw [Bool.and_eq_true, List.any_eq_true] at hj
        obtain ⟨hk, a, ha, hja⟩ := hj
        have : a.toNat = j := by simpa using hja
        rw [← this]
        exact hS k (hf k hk) a ha) i hi
theorem occ_in {S : Nat → Prop} {t : Nat} (ht : S t) (hS : ∀ j, S j → ∀ a ∈ argsOf L j, S a.toNat) : ∀ i, occ L t i = true → S i :=
  occ_closed hS _ _ fun i hi => by
    have : i = t := by simpa using hi
    rw [this]; exact ht
/-- Such a term, made simple, is itself. -/
theorem made_fixed (hW : W ≤ 64) (hw : WFL L) (hg : GoodL W L) {O : Nat → Bool} (hO : ∀ i, O i = true → Fix W L i) : ∀ k, k ≤ L.length → madeRun W room L O (fun i _ => (i : Int)) k = (L, (List.range k).map (fun (i : Nat) => (i : Int)), 0)
  | 0, _ => rfl
  | k + 1, hk => by
    have ih := made_fixed hW hw hg hO k (by omega)
    rw [madeRun_succ (by rw [ih]), ih]
    obtain ⟨n, hn⟩ : ∃ n, L[k]? = some n := ⟨_, List.getElem?_eq_getElem (by omega)⟩
    have hr : (List.range (k + 1)).map (fun (i : Nat) => (i : Int)) = (List.range k).map (fun (i : Nat) => (i : Int)) ++ [(k : Int)] := by rw [List.range_succ, List.map_append]; rfl
    rw [hr]
    cases hOk : O k with
    | false => rw [step_skip hn hOk]
    | true =>
      by_cases ha : n.2.2 = []
      · rw [step_leaf hn hOk ha]
      · obtain ⟨g1, g2, g4, g3⟩ := good_app (hg n (List.mem_of_getElem? hn)) ha
        have hargs : (n.2.2.map fun a => ((List.range k).map (fun (i : Nat) => (i : Int))).getD a.toNat 0) = n.2.2 := by
          have : ∀ a ∈ n.2.2, ((List.range k).map (fun (i : Nat) => (i : Int))).getD a.toNat 0 = a := by
            intro a ha'
            have := hw.args k n hn a ha'
            rw [List.getD_eq_getElem?_getD, List.getElem?_map, List.getElem?_range (by omega)]
            simp; omega
          exact (List.map_congr_left this).trans (List.map_id _)
        have hin : ∀ a ∈ n.2.2, (0 : Int) ≤ a ∧ a < (L.length : Int) := fun a ha' => by have := hw.args k n hn a ha'; omega
        have hres : simpR W room L n.1 n.2.2 = (L, k, 0) := by
          rw [simpR_in g1 g2 g3 hin, hO k hOk n hn ha]
          show appR room L n.1 n.2.2 = _
          unfold appR
          rw [if_pos ⟨g2, aryN_pos g1, g3⟩, if_pos hin]
          refine askP_hit hw.nodup (n := (n.1, 0, n.2.2)) ?_ room
          rw [hn, ← g4]
        refine (step_app (R := (L, k, 0)) hn hOk ha ?_).trans rfl
        show simpR W room L n.1 (n.2.2.map fun a => ((List.range k).map (fun (i : Nat) => (i : Int))).getD a.toNat 0) = _
        rw [hargs]
        exact hres
theorem simpleR_fixed (hW : W ≤ 64) (hw : WFL L) (hg : GoodL W L) {t : Nat} (hf : FixedT W L t) : simpleR W room L t = (L, t, 0) := by
  obtain ⟨S, hS, hc⟩ := hf
  have ht := (hc t hS).1
  have hO := occ_in (L := L) hS (fun j hj => (hc j hj).2.2)
  unfold simpleR
  rw [if_pos ⟨by omega, by omega⟩, Int.toNat_natCast, made_fixed hW hw hg (fun i hi => (hc i (hO i hi)).2.1) (t + 1) (by omega)]
  unfold madeEnd
  rw [if_pos rfl]
  have : ((List.range (t + 1)).map (fun (i : Nat) => (i : Int))).getD t 0 = (t : Int) := by
    rw [List.getD_eq_getElem?_getD, List.getElem?_map, List.getElem?_range (by omega)]; rfl
  rw [this]; rfl
/-- What the rules make of such terms is such a term. -/
theorem res_fixed (_hW : W ≤ 64) (hw : WFL L) (h1 : 2 ≤ o) (h2 : o ≤ 21) (hl : aryN o = xs.length) (hin : ∀ a ∈ xs, (0 : Int) ≤ a ∧ a < (L.length : Int)) (hf : ∀ a ∈ xs, FixedT W L a.toNat) (he : ((simpA W L o xs).res W room L).2.2 = 0) :
    FixedT W ((simpA W L o xs).res W room L).1 ((simpA W L o xs).res W room L).2.1 := by
  have hok := simpA_ok (W := W) hw h1 h2 hl hin
  have hof := simpA_of (W := W) hw h1 h2 hl
  have hpre := ans_prefix (W := W) (room := room) (L := L) (simpA W L o xs)
  generalize simpA W L o xs = R at *
  cases R with
  | term t =>
    rcases hof with h | ⟨x, hx, h⟩
    · exact hf t h
    · exact (hf x hx).arg h
  | num v =>
    have e : Ans.res W room L (.num v) = askP room L (0, v % 2 ^ W, []) := rfl
    rw [e] at he ⊢
    exact FixedT.leaf (ask_term he) rfl
  | app o' ys =>
    obtain ⟨k1, k2, k3, k4⟩ := hok
    obtain ⟨hsub, hfix⟩ := hof
    have e : Ans.res W room L (.app o' ys) = askP room L (o', 0, ys) := by
      show appR room L o' ys = _
      unfold appR
      rw [if_pos ⟨k2, aryN_pos k1, k3⟩, if_pos k4]
    rw [e] at he hpre ⊢
    have hat := ask_term he
    generalize askP room L (o', 0, ys) = R at *
    have hS := fun y (hy : y ∈ ys) => hf y (hsub y hy)
    refine ⟨fun j => j = R.2.1 ∨ FixedT W R.1 j, .inl rfl, fun j hj => ?_⟩
    rcases hj with rfl | ⟨S, hSj, hc⟩
    · refine ⟨(List.getElem?_eq_some_iff.1 hat).1, fun n hn hne => ?_, fun a ha => ?_⟩
      · rw [hat] at hn
        obtain rfl : n = (o', 0, ys) := by simpa using hn.symm
        show simpA W R.1 o' ys = .app o' ys
        rw [simpA_prefix hpre k4]
        exact hfix
      · unfold argsOf at ha
        rw [hat] at ha
        exact .inr ((hS a ha).prefixT hw hpre)
    · obtain ⟨c1, c2, c3⟩ := hc j hSj
      exact ⟨c1, c2, fun a ha => .inr ⟨S, c3 a ha, hc⟩⟩
/-- Terms made anew are such, where what became of the leaves is. -/
theorem made_fix {O : Nat → Bool} {lf : Nat → PNode → Int} (hW : W ≤ 64) (hw0 : WFL L0) (hg0 : GoodL W L0) (hlf : ∀ i n, L0[i]? = some n → 0 ≤ lf i n ∧ lf i n < (L0.length : Int))
    (hO : ∀ i n, L0[i]? = some n → O i = true → ∀ a ∈ n.2.2, O a.toNat = true) (hleaf : ∀ i n, L0[i]? = some n → O i = true → n.2.2 = [] → FixedT W L0 (lf i n).toNat) :
    ∀ k, k ≤ L0.length → (madeRun W room L0 O lf k).2.2 = 0 → ∀ i, i < k → O i = true → FixedT W (madeRun W room L0 O lf k).1 ((madeRun W room L0 O lf k).2.1.getD i 0).toNat
  | 0, _, _ => fun i hi => by omega
  | k + 1, hk, he => by
    have h0 := madeRun_ok he
    have ih := made_fix hW hw0 hg0 hlf hO hleaf k (by omega) h0
    have h := made_inv (O := O) hW hw0 hg0 hlf k (by omega) h0
    rw [madeRun_succ h0] at he ⊢
    obtain ⟨n, hn⟩ : ∃ n, L0[k]? = some n := ⟨_, List.getElem?_eq_getElem (by omega)⟩
    generalize madeRun W room L0 O lf k = s at *
    intro i hi hOi
    have old : ∀ (M : List PNode) (v : Int) (i : Nat), s.1 <+: M → i < k → O i = true → FixedT W M ((s.2.1 ++ [v]).getD i 0).toNat := by
      intro M v i hp hi hOi
      rw [List.getD_eq_getElem?_getD, List.getElem?_append_left (by rw [h.many]; omega), ← List.getD_eq_getElem?_getD]
      exact (ih i hi hOi).prefixT h.wf hp
    have top : ∀ v : Int, (s.2.1 ++ [v]).getD k 0 = v := by
      intro v
      rw [List.getD_eq_getElem?_getD, List.getElem?_append_right (by rw [h.many]; omega), h.many]
      simp
    have hlk : i < k ∨ i = k := by omega
    by_cases hOk : O k = true
    · by_cases ha : n.2.2 = []
      · rw [step_leaf hn hOk ha]
        rcases hlk with hik | rfl
        · exact old _ _ _ (List.prefix_refl _) hik hOi
        · show FixedT W s.1 ((s.2.1 ++ [lf i n]).getD i 0).toNat
          rw [top]
          exact (hleaf i n hn hOk ha).prefixT hw0 h.pre
      · obtain ⟨g1, g2, _, g3⟩ := good_app (hg0 n (List.mem_of_getElem? hn)) ha
        have hin := made_args h (hw0.args k n hn)
        have hR := simpR_in (W := W) (room := room) g1 g2 (by rw [List.length_map]; exact g3) hin
        rw [step_app hn hOk ha hR] at he ⊢
        have hc : (Ans.res W room s.1 (simpA W s.1 n.1 (n.2.2.map fun a => s.2.1.getD a.toNat 0))).2.2 = 0 := by
          split at he
          · assumption
          · exact he
        rw [if_pos hc]
        rcases hlk with hik | rfl
        · exact old _ _ _ (ans_prefix _) hik hOi
        · show FixedT W _ ((s.2.1 ++ [_]).getD i 0).toNat
          rw [top, Int.toNat_natCast]
          refine res_fixed hW h.wf g1 g2 (by rw [List.length_map]; exact g3) hin (fun b hb => ?_) hc
          obtain ⟨a, ha', rfl⟩ := List.mem_map.1 hb
          have hai := hw0.args i n hn a ha'
          exact ih a.toNat (by omega) (hO i n hn hOk a ha')
    · rw [Bool.not_eq_true] at hOk
      rw [step_skip hn hOk]
      rcases hlk with hik | rfl
      · exact old _ _ _ (List.prefix_refl _) hik hOi
      · rw [hOk] at hOi; cases hOi
end
end Go.Proofs.Ytofbadmjopefpaa
namespace Go.Proofs.Ytofbadmjopefpaa

section
variable {W room : Nat} {L L' L0 : List PNode} {o : Nat} {xs : List Int} {Q : List PNode → Int → Prop}
/-- What the rules keep holds of terms made anew, where it holds of what became of the leaves. -/
theorem made_gen {O : Nat → Bool} {lf : Nat → PNode → Int} (hpre : ∀ M M' t, WFL M → M <+: M' → 0 ≤ t → t < (M.length : Int) → Q M t → Q M' t)
    (hres : ∀ M o xs, WFL M → GoodL W M → 2 ≤ o → o ≤ 21 → aryN o = xs.length → (∀ a ∈ xs, (0 : Int) ≤ a ∧ a < (M.length : Int)) → (∀ a ∈ xs, Q M a) → ((simpA W M o xs).res W room M).2.2 = 0 → Q ((simpA W M o xs).res W room M).1 ((simpA W M o xs).res W room M).2.1)
    (hW : W ≤ 64) (hw0 : WFL L0) (hg0 : GoodL W L0) (hlf : ∀ i n, L0[i]? = some n → 0 ≤ lf i n ∧ lf i n < (L0.length : Int))
    (hO : ∀ i n, L0[i]? = some n → O i = true → ∀ a ∈ n.2.2, O a.toNat = true) (hleaf : ∀ i n, L0[i]? = some n → O i = true → n.2.2 = [] → Q L0 (lf i n)) :
    ∀ k, k ≤ L0.length → (madeRun W room L0 O lf k).2.2 = 0 → ∀ i, i < k → O i = true → Q (madeRun W room L0 O lf k).1 ((madeRun W room L0 O lf k).2.1.getD i 0)
  | 0, _, _ => fun i hi => by omega
  | k + 1, hk, he => by
    have h0 := madeRun_ok he
    have ih := made_gen hpre hres hW hw0 hg0 hlf hO hleaf k (by omega) h0
    have h := made_inv (O := O) hW hw0 hg0 hlf k (by omega) h0
    rw [madeRun_succ h0] at he ⊢
    obtain ⟨n, hn⟩ : ∃ n, L0[k]? = some n := ⟨_, List.getElem?_eq_getElem (by omega)⟩
    generalize madeRun W room L0 O lf k = s at *
    intro i hi hOi
    have bound : ∀ i, i < k → 0 ≤ s.2.1.getD i 0 ∧ s.2.1.getD i 0 < (s.1.length : Int) := by
      intro i hi
      obtain ⟨m, hm⟩ : ∃ m, s.2.1[i]? = some m := ⟨_, List.getElem?_eq_getElem (by rw [h.many]; omega)⟩
      rw [List.getD_eq_getElem?_getD, hm]
      exact h.at_ i m hm
    have old : ∀ (M : List PNode) (v : Int) (i : Nat), s.1 <+: M → i < k → O i = true → Q M ((s.2.1 ++ [v]).getD i 0) := by
      intro M v i hp hi hOi
      rw [List.getD_eq_getElem?_getD, List.getElem?_append_left (by rw [h.many]; omega), ← List.getD_eq_getElem?_getD]
      exact hpre _ _ _ h.wf hp (bound i hi).1 (bound i hi).2 (ih i hi hOi)
    have top : ∀ v : Int, (s.2.1 ++ [v]).getD k 0 = v := by
      intro v
      rw [List.getD_eq_getElem?_getD, List.getElem?_append_right (by rw [h.many]; omega), h.many]
      simp
    have hlk : i < k ∨ i = k := by omega
    by_cases hOk : O k = true
    · by_cases ha : n.2.2 = []
      · rw [step_leaf hn hOk ha]
        rcases hlk with hik | rfl
        · exact old _ _ _ (List.prefix_refl _) hik hOi
        · show Q s.1 ((s.2.1 ++ [lf i n]).getD i 0)
          rw [top]
          exact hpre _ _ _ hw0 h.pre (hlf i n hn).1 (hlf i n hn).2 (hleaf i n hn hOk ha)
      · obtain ⟨g1, g2, _, g3⟩ := good_app (hg0 n (List.mem_of_getElem? hn)) ha
        have hin := made_args h (hw0.args k n hn)
        have hR := simpR_in (W := W) (room := room) g1 g2 (by rw [List.length_map]; exact g3) hin
        rw [step_app hn hOk ha hR] at he ⊢
        have hc : (Ans.res W room s.1 (simpA W s.1 n.1 (n.2.2.map fun a => s.2.1.getD a.toNat 0))).2.2 = 0 := by
          split at he
          · assumption
          · exact he
        rw [if_pos hc]
        rcases hlk with hik | rfl
        · exact old _ _ _ (ans_prefix _) hik hOi
        · show Q _ ((s.2.1 ++ [_]).getD i 0)
          rw [top]
          refine hres s.1 n.1 _ h.wf h.good g1 g2 (by rw [List.length_map]; exact g3) hin (fun b hb => ?_) hc
          obtain ⟨a, ha', rfl⟩ := List.mem_map.1 hb
          have hai := hw0.args i n hn a ha'
          exact ih a.toNat (by omega) (hO i n hn hOk a ha')
    · rw [Bool.not_eq_true] at hOk
      rw [step_skip hn hOk]
      rcases hlk with hik | rfl
      · exact old _ _ _ (List.prefix_refl _) hik hOi
      · rw [hOk] at hOi; cases hOi
/-- What occurs in a term is not greater than it. -/
theorem occ_le (hw : WFL L) {t i : Nat} (h : occ L t i = true) : i ≤ t := by
  rcases Nat.lt_or_ge t i with hi | hi
  · unfold occ at h
    rw [occDown_same hw (t + 1) _ (by omega)] at h
    have : i = t := by simpa using h
    omega
  · exact hi
theorem occ_hO (hw : WFL L) {t : Nat} : ∀ i n, L[i]? = some n → occ L t i = true → ∀ a ∈ n.2.2, occ L t a.toNat = true := fun i n hn ho a ha =>
  occ_args hw (occ_le hw ho) ho a (by unfold argsOf; rw [hn]; exact ha)
/-- The same, of a term that is made simple. -/
theorem simpleR_gen (hpre : ∀ M M' t, WFL M → M <+: M' → 0 ≤ t → t < (M.length : Int) → Q M t → Q M' t)
    (hres : ∀ M o xs, WFL M → GoodL W M → 2 ≤ o → o ≤ 21 → aryN o = xs.length → (∀ a ∈ xs, (0 : Int) ≤ a ∧ a < (M.length : Int)) → (∀ a ∈ xs, Q M a) → ((simpA W M o xs).res W room M).2.2 = 0 → Q ((simpA W M o xs).res W room M).1 ((simpA W M o xs).res W room M).2.1)
    (hW : W ≤ 64) (hw : WFL L) (hg : GoodL W L) {t s : Nat} (ht : t < L.length) (hR : simpleR W room L t = (L', s, 0)) (hleaf : ∀ (i : Nat) n, L[i]? = some n → occ L t i = true → n.2.2 = [] → Q L i) : Q L' s := by
  have hlf : ∀ i n, L[i]? = some n → (0 : Int) ≤ (fun (i : Nat) (_ : PNode) => (i : Int)) i n ∧ (fun (i : Nat) (_ : PNode) => (i : Int)) i n < (L.length : Int) := fun i n hn => by
    have := (List.getElem?_eq_some_iff.1 hn).1
    exact ⟨by show (0 : Int) ≤ (i : Int); omega, by show (i : Int) < _; omega⟩
  have hg' := made_gen (O := occ L t) (lf := fun i _ => (i : Int)) hpre hres hW hw hg hlf (occ_hO hw) hleaf (t + 1) (by omega)
  have hnn := madeRun_nonneg (W := W) (room := room) (L0 := L) (O := occ L t) (lf := fun i _ => (i : Int)) (fun i _ => by omega) (t + 1)
  unfold simpleR madeEnd at hR
  rw [if_pos ⟨by omega, by omega⟩, Int.toNat_natCast] at hR
  by_cases he : (madeRun W room L (occ L t) (fun i _ => (i : Int)) (t + 1)).2.2 = 0
  · rw [if_pos he] at hR
    have h1 := hg' he t (by omega) (occ_top L t)
    simp only [Prod.mk.injEq, and_true] at hR
    obtain ⟨rfl, rfl⟩ := hR
    rw [Int.toNat_of_nonneg ?_]
    · exact h1
    · rw [List.getD_eq_getElem?_getD]
      cases hq : (madeRun W room L (occ L t) (fun i _ => (i : Int)) (t + 1)).2.1[t]? with
      | none => simp
      | some q => exact hnn q (List.mem_of_getElem? hq)
  · rw [if_neg he] at hR
    simp only [Prod.mk.injEq] at hR
    exact absurd hR.2.2 he
end
/-- A term none of whose nodes is the variable v. -/
def NoVar (L : List PNode) (v t : Nat) : Prop := ∃ S : Nat → Prop, S t ∧ ∀ j, S j → j < L.length ∧ (∀ n, L[j]? = some n → n.1 = 1 → n.2.1 ≠ v) ∧ ∀ a ∈ argsOf L j, S a.toNat
section
variable {W room : Nat} {L L' : List PNode} {o v : Nat} {xs : List Int}
theorem NoVar.prefixT (h : L <+: L') {t : Nat} (hf : NoVar L v t) : NoVar L' v t := by
  obtain ⟨S, hS, hc⟩ := hf
  have hl := h.length_le
  refine ⟨S, hS, fun j hj => ?_⟩
  obtain ⟨h1, h2, h3⟩ := hc j hj
  refine ⟨by omega, fun n hn => ?_, fun a ha => h3 a (by rw [← argsOf_prefix h h1]; exact ha)⟩
  obtain ⟨m, hm⟩ : ∃ m, L[j]? = some m := ⟨_, List.getElem?_eq_getElem h1⟩
  have := prefix_at h hm
  rw [hn] at this
  obtain rfl : n = m := by simpa using this
  exact h2 n hm
theorem NoVar.arg {t : Nat} (hf : NoVar L v t) {a : Int} (ha : a ∈ argsOf L t) : NoVar L v a.toNat := by
  obtain ⟨S, hS, hc⟩ := hf
  exact ⟨S, (hc t hS).2.2 a ha, hc⟩
theorem NoVar.leaf {t : Nat} {n : PNode} (hn : L[t]? = some n) (ha : n.2.2 = []) (h1 : n.1 = 1 → n.2.1 ≠ v) : NoVar L v t := by
  refine ⟨fun j => j = t, rfl, fun j hj => ?_⟩
  subst hj
  refine ⟨(List.getElem?_eq_some_iff.1 hn).1, fun m hm => ?_, fun a ha' => ?_⟩
  · rw [hn] at hm
    obtain rfl : n = m := by simpa using hm
    exact h1
  · unfold argsOf at ha'
    rw [hn] at ha'
    have h2 : a ∈ n.2.2 := ha'
    rw [ha] at h2
    cases h2
theorem NoVar.at {t : Nat} (hf : NoVar L v t) {n : PNode} (hn : L[t]? = some n) (h1 : n.1 = 1) : n.2.1 ≠ v := by
  obtain ⟨S, hS, hc⟩ := hf
  exact (hc t hS).2.1 n hn h1
theorem res_noVar (hw : WFL L) (h1 : 2 ≤ o) (h2 : o ≤ 21) (hl : aryN o = xs.length) (hin : ∀ a ∈ xs, (0 : Int) ≤ a ∧ a < (L.length : Int)) (hf : ∀ a ∈ xs, NoVar L v a.toNat) (he : ((simpA W L o xs).res W room L).2.2 = 0) :
    NoVar ((simpA W L o xs).res W room L).1 v ((simpA W L o xs).res W room L).2.1 := by
  have hok := simpA_ok (W := W) hw h1 h2 hl hin
  have hof := simpA_of (W := W) hw h1 h2 hl
  have hpre := ans_prefix (W := W) (room := room) (L := L) (simpA W L o xs)
  generalize simpA W L o xs = R at *
  cases R with
  | term t =>
    rcases hof with h | ⟨x, hx, h⟩
    · exact hf t h
    · exact (hf x hx).arg h
  | num q =>
    have e : Ans.res W room L (.num q) = askP room L (0, q % 2 ^ W, []) := rfl
    rw [e] at he ⊢
    exact NoVar.leaf (ask_term he) rfl (fun h => by simp at h)
  | app o' ys =>
    obtain ⟨k1, k2, k3, k4⟩ := hok
    obtain ⟨hsub, -⟩ := hof
    have e : Ans.res W room L (.app o' ys) = askP room L (o', 0, ys) := by
      show appR room L o' ys = _
      unfold appR
      rw [if_pos ⟨k2, aryN_pos k1, k3⟩, if_pos k4]
    rw [e] at he hpre ⊢
    have hat := ask_term he
    generalize askP room L (o', 0, ys) = R at *
    have hS := fun y (hy : y ∈ ys) => hf y (hsub y hy)
    refine ⟨fun j => j = R.2.1 ∨ NoVar R.1 v j, .inl rfl, fun j hj => ?_⟩
    rcases hj with rfl | ⟨S, hSj, hc⟩
    · refine ⟨(List.getElem?_eq_some_iff.1 hat).1, fun n hn h1 => ?_, fun a ha => ?_⟩
      · rw [hat] at hn
        obtain rfl : n = (o', 0, ys) := by simpa using hn.symm
        simp only at h1
        omega
      · unfold argsOf at ha
        rw [hat] at ha
        exact .inr ((hS a ha).prefixT hpre)
    · obtain ⟨c1, c2, c3⟩ := hc j hSj
      exact ⟨c1, c2, fun a ha => .inr ⟨S, c3 a ha, hc⟩⟩
/-- A variable occurs in a term. -/
def hasVar (L : List PNode) (t v : Nat) : Prop := ∃ j n, occ L t j = true ∧ L[j]? = some n ∧ n.1 = 1 ∧ n.2.1 = v
theorem noVar_of (hw : WFL L) {t : Nat} (ht : t < L.length) (h : ¬ hasVar L t v) : NoVar L v t :=
  ⟨fun j => occ L t j = true, occ_top L t, fun j hj => ⟨by have := occ_le hw hj; omega, fun n hn h1 h2 => h ⟨j, n, hj, hn, h1, h2⟩, fun a ha => occ_args hw (occ_le hw hj) hj a ha⟩⟩
theorem NoVar.not_has {t : Nat} (h : NoVar L v t) : ¬ hasVar L t v := by
  obtain ⟨S, hS, hc⟩ := h
  rintro ⟨j, n, ho, hn, h1, h2⟩
  exact (hc j (occ_in (L := L) hS (fun j hj => (hc j hj).2.2) j ho)).2.1 n hn h1 h2
/-- No new variables. -/
theorem simpleR_noVar (hW : W ≤ 64) (hw : WFL L) (hg : GoodL W L) {t s : Nat} (ht : t < L.length) (hR : simpleR W room L t = (L', s, 0)) (h : NoVar L v t) : NoVar L' v s := by
  have := simpleR_gen (Q := fun M t => NoVar M v t.toNat) (fun M M' t _ hp _ _ hq => hq.prefixT hp) (fun M o xs hw _ h1 h2 hl hin hq he => by rw [Int.toNat_natCast]; exact res_noVar hw h1 h2 hl hin hq he) hW hw hg ht hR (fun i n hn ho ha => ?_)
  · simpa using this
  · rw [Int.toNat_natCast]
    obtain ⟨S, hS, hc⟩ := h
    exact NoVar.leaf hn ha ((hc i (occ_in (L := L) hS (fun j hj => (hc j hj).2.2) i ho)).2.1 n hn)
/-- A term without variables becomes a number. -/
theorem num_prefix (h : L <+: L') {t : Int} (h2 : t < (L.length : Int)) (hn : isNum L t = true) : isNum L' t = true := by rw [isNum_prefix h h2]; exact hn
theorem num_at {t : Nat} {n : PNode} (hn : L[t]? = some n) (h0 : n.1 = 0) : numOf L (t : Int) = some n.2.1 := by
  unfold numOf
  rw [if_pos (by omega), Int.toNat_natCast, hn]
  exact if_pos h0
theorem res_num (hq : ∀ a ∈ xs, isNum L a = true) (he : ((simpA W L o xs).res W room L).2.2 = 0) : isNum ((simpA W L o xs).res W room L).1 ((simpA W L o xs).res W room L).2.1 = true := by
  have e : simpA W L o xs = .num (wI o W (xs.map fun t => (numD L t : Int))).toNat := by
    unfold simpA
    rw [if_pos hq]
  rw [e] at he ⊢
  exact isNum_of (num_at (ask_term he) rfl)
theorem simpleR_num (hW : W ≤ 64) (hw : WFL L) (hg : GoodL W L) {t s : Nat} (ht : t < L.length) (hR : simpleR W room L t = (L', s, 0)) (h : ∀ v, ¬ hasVar L t v) : isNum L' s = true := by
  refine simpleR_gen (Q := fun M t => isNum M t = true) (fun M M' t _ hp _ h2 hq => num_prefix hp h2 hq) (fun M o xs hw _ h1 h2 hl hin hq he => res_num hq he) hW hw hg ht hR (fun i n hn ho ha => ?_)
  refine isNum_of (num_at hn ?_)
  rcases hg n (List.mem_of_getElem? hn) with ⟨h0, _⟩ | ⟨h1, _⟩ | ⟨h1, _, _, h4⟩
  · exact h0
  · exact absurd ⟨i, n, ho, hn, h1, rfl⟩ (h n.2.1)
  · rw [ha] at h4
    exact absurd h4 (aryN_pos h1)
/-- The whole of what SimpVars asks. -/
theorem simpleR_vars {vals : List Int} (h1 : 1 ≤ W) (hW : W ≤ 64) (hw : WFL L) (hg : GoodL W L) {t : Nat} (ht : t < L.length) (hr : L.length + (t + 1) ≤ room) :
    ∃ L' s, simpleR W room L t = (L', s, 0) ∧ WFL L' ∧ GoodL W L' ∧ L <+: L' ∧ L'.length ≤ L.length + (t + 1) ∧ s < L'.length ∧ (∀ v, hasVar L' s v → hasVar L t v) ∧ ((∀ v, ¬ hasVar L t v) → numOf L' s = some (val W vals L t).toNat ∧ 0 ≤ val W vals L t) := by
  obtain ⟨L', s, hR, hw', hg', hp, hlen, hs, hv⟩ := simpleR_sound (vals := vals) h1 hW hw hg ht hr
  refine ⟨L', s, hR, hw', hg', hp, hlen, hs, fun v hv' => ?_, fun hno => ?_⟩
  · by_cases hh : hasVar L t v
    · exact hh
    · exact absurd hv' (simpleR_noVar hW hw hg ht hR (noVar_of hw ht hh)).not_has
  · have hn := simpleR_num hW hw hg ht hR hno
    have h2 := isNum_some hn
    have h3 := (numOf_val (vals := vals) hw' hg' h2).1
    rw [Int.toNat_natCast, hv] at h3
    rw [h2, h3]
    exact ⟨by simp, by omega⟩
end
end Go.Proofs.Ytofbadmjopefpaa
namespace Go.Proofs.Ytofbadmjopefpaa

/-- What takes the place of a variable, by pairs. -/
def subOf (ps : List (Int × Int)) (v : Nat) : Option Int := (ps.find? fun p => p.1 == (v : Int)).map (·.2)
def subLf (ps : List (Int × Int)) (i : Nat) (n : PNode) : Int := if n.1 = 1 then (subOf ps n.2.1).getD i else i
/-- The first error of the pairs. -/
def subErr (L : List PNode) (ps : List (Int × Int)) : Nat → Nat
  | 0 => 0
  | k + 1 => if subErr L ps k ≠ 0 then subErr L ps k else match ps[k]? with
    | none => 0
    | some p => if p.1 ∈ (ps.take k).map (·.1) then 8 else if 0 ≤ p.2 ∧ p.2 < (L.length : Int) then 0 else 3
/-- What becomes of a graph in one of whose terms terms take the place of variables. -/
def substR (W room : Nat) (L : List PNode) (t : Int) (ps : List (Int × Int)) : List PNode × Nat × Nat :=
  if 0 ≤ t ∧ t < (L.length : Int) then (if subErr L ps ps.length = 0 then madeEnd t.toNat (madeRun W room L (occ L t.toNat) (subLf ps) (t.toNat + 1)) else (L, 0, subErr L ps ps.length)) else (L, 0, 3)
/-- Pairs that are right. -/
def SubOk (L : List PNode) (ps : List (Int × Int)) : Prop := (ps.map (·.1)).Nodup ∧ ∀ p ∈ ps, 0 ≤ p.2 ∧ p.2 < (L.length : Int)
section
variable {W room : Nat} {L L' L0 : List PNode} {ps qs : List (Int × Int)}
theorem subErr_succ {k : Nat} {p : Int × Int} (h0 : subErr L ps k = 0) (hp : ps[k]? = some p) : subErr L ps (k + 1) = if p.1 ∈ (ps.take k).map (·.1) then 8 else if 0 ≤ p.2 ∧ p.2 < (L.length : Int) then 0 else 3 := by
  show (if subErr L ps k ≠ 0 then _ else _) = _
  rw [if_neg (by rw [h0]; simp), hp]
theorem subErr_stop {k : Nat} (h : subErr L ps k ≠ 0) : ∀ m, k ≤ m → subErr L ps m = subErr L ps k
  | 0, hm => by obtain rfl : k = 0 := by omega
                rfl
  | m + 1, hm => by
    rcases Nat.lt_or_ge k (m + 1) with h1 | h1
    · have ih := subErr_stop h m (by omega)
      show (if subErr L ps m ≠ 0 then subErr L ps m else _) = _
      rw [if_pos (by rw [ih]; exact h), ih]
    · obtain rfl : k = m + 1 := by omega
      rfl
theorem subErr_ok {k : Nat} (h : subErr L ps (k + 1) = 0) : subErr L ps k = 0 := by
  by_cases h0 : subErr L ps k = 0
  · exact h0
  · rw [subErr_stop h0 (k + 1) (by omega)] at h; exact h
theorem take_map_snoc {k : Nat} {p : Int × Int} (hp : ps[k]? = some p) : (ps.take (k + 1)).map (·.1) = (ps.take k).map (·.1) ++ [p.1] := by
  obtain ⟨hk, rfl⟩ := List.getElem?_eq_some_iff.1 hp
  rw [← List.take_append_getElem hk, List.map_append]; rfl
theorem subErr_good (h : SubOk L ps) : ∀ k, subErr L ps k = 0
  | 0 => rfl
  | k + 1 => by
    have h0 := subErr_good h k
    cases hp : ps[k]? with
    | none =>
      show (if subErr L ps k ≠ 0 then _ else _) = _
      rw [if_neg (by rw [h0]; simp), hp]
    | some p =>
      have hn : p.1 ∉ (ps.take k).map (·.1) := by
        have h1 := h.1.sublist (List.Sublist.map (·.1) (List.take_sublist (k + 1) ps))
        rw [take_map_snoc hp, List.nodup_append] at h1
        intro hm
        exact h1.2.2 p.1 hm p.1 (by simp) rfl
      rw [subErr_succ h0 hp, if_neg hn, if_pos (h.2 p (List.mem_of_getElem? hp))]
theorem subErr_zero : ∀ k, k ≤ ps.length → subErr L ps k = 0 → SubOk L (ps.take k)
  | 0, _, _ => ⟨by simp, by simp⟩
  | k + 1, hk, h => by
    have h0 := subErr_ok h
    obtain ⟨i1, i2⟩ := subErr_zero k (by omega) h0
    obtain ⟨p, hp⟩ : ∃ p, ps[k]? = some p := ⟨_, List.getElem?_eq_getElem (by omega)⟩
    rw [subErr_succ h0 hp] at h
    have hn : p.1 ∉ (ps.take k).map (·.1) := fun hm => by rw [if_pos hm] at h; cases h
    rw [if_neg hn] at h
    have hr : 0 ≤ p.2 ∧ p.2 < (L.length : Int) := by
      by_cases hr : 0 ≤ p.2 ∧ p.2 < (L.length : Int)
      · exact hr
      · rw [if_neg hr] at h; cases h
    refine ⟨?_, fun q hq => ?_⟩
    · rw [take_map_snoc hp, List.nodup_append]
      exact ⟨i1, by simp, fun a ha b hb => by obtain rfl := List.mem_singleton.1 hb; rintro rfl; exact hn ha⟩
    · obtain ⟨hk', rfl⟩ := List.getElem?_eq_some_iff.1 hp
      rw [← List.take_append_getElem hk'] at hq
      rcases List.mem_append.1 hq with hq | hq
      · exact i2 q hq
      · obtain rfl := List.mem_singleton.1 hq; exact hr
theorem subErr_end (h : subErr L ps ps.length = 0) : SubOk L ps := by have := subErr_zero ps.length (Nat.le_refl _) h; rwa [List.take_length] at this
theorem SubOk.mono (h : SubOk L ps) (hl : L.length ≤ L'.length) : SubOk L' ps := ⟨h.1, fun p hp => by have := h.2 p hp; omega⟩
theorem subOf_mem {v : Nat} {s : Int} (h : subOf ps v = some s) : ((v : Int), s) ∈ ps := by
  unfold subOf at h
  rw [Option.map_eq_some_iff] at h
  obtain ⟨p, hp, rfl⟩ := h
  have h1 := List.find?_some hp
  have h2 := List.mem_of_find?_eq_some hp
  have : p.1 = (v : Int) := by simpa using h1
  rw [← this]; exact h2
theorem mem_subOf (hn : (ps.map (·.1)).Nodup) {v : Nat} {s : Int} (h : ((v : Int), s) ∈ ps) : subOf ps v = some s := by
  induction ps with
  | nil => cases h
  | cons p ps ih =>
    rw [List.map_cons, List.nodup_cons] at hn
    unfold subOf
    rw [List.find?_cons]
    rcases List.mem_cons.1 h with rfl | h
    · simp
    · have hne : (p.1 == (v : Int)) = false := by
        rw [beq_eq_false_iff_ne]
        rintro he
        exact hn.1 (by rw [he]; exact List.mem_map.2 ⟨_, h, rfl⟩)
      rw [hne]
      exact ih hn.2 h
theorem subOf_none {v : Nat} : subOf ps v = none ↔ ∀ s, ((v : Int), s) ∉ ps := by
  unfold subOf
  rw [Option.map_eq_none_iff, List.find?_eq_none]
  constructor
  · intro h s hm
    have := h _ hm
    simp at this
  · intro h p hp he
    have : p.1 = (v : Int) := by simpa using he
    exact h p.2 (by rw [← this]; exact hp)
theorem subLf_ok (h : SubOk L ps) : ∀ i n, L[i]? = some n → 0 ≤ subLf ps i n ∧ subLf ps i n < (L.length : Int) := by
  intro i n hn
  have hi := (List.getElem?_eq_some_iff.1 hn).1
  unfold subLf
  split
  · cases hs : subOf ps n.2.1 with
    | none => simp; omega
    | some s => exact h.2 _ (subOf_mem hs)
  · omega
theorem subLf_nonneg (h : SubOk L ps) : ∀ i n, 0 ≤ subLf ps i n := by
  intro i n
  unfold subLf
  split
  · cases hs : subOf ps n.2.1 with
    | none => simp
    | some s => exact (h.2 _ (subOf_mem hs)).1
  · omega
/-- The order of the pairs does not matter. -/
theorem subOf_perm (hn : (ps.map (·.1)).Nodup) (hp : ps.Perm qs) (v : Nat) : subOf ps v = subOf qs v := by
  have hn' : (qs.map (·.1)).Nodup := ((hp.map (·.1)).nodup_iff).1 hn
  cases hq : subOf qs v with
  | none =>
    rw [subOf_none] at hq ⊢
    exact fun s hm => hq s (hp.mem_iff.1 hm)
  | some s => exact mem_subOf hn (hp.mem_iff.2 (subOf_mem hq))
theorem subLf_congr (h : ∀ v, subOf ps v = subOf qs v) : subLf ps = subLf qs := by
  funext i n; unfold subLf; rw [h]
theorem substR_in {t : Nat} (ht : t < L.length) (h : SubOk L ps) : substR W room L t ps = madeEnd t (madeRun W room L (occ L t) (subLf ps) (t + 1)) := by
  unfold substR
  rw [if_pos ⟨by omega, by omega⟩, if_pos (subErr_good h _), Int.toNat_natCast]
theorem madeEnd_inv {t : Nat} {s : List PNode × List Int × Nat} (h : MadeInv W room L0 (t + 1) s) (he : s.2.2 = 0) : ∃ q : Nat, madeEnd t s = (s.1, q, 0) ∧ q < s.1.length ∧ s.2.1.getD t 0 = (q : Int) := by
  obtain ⟨m, hm⟩ : ∃ m, s.2.1[t]? = some m := ⟨_, List.getElem?_eq_getElem (by rw [h.many]; omega)⟩
  have hb := h.at_ t m hm
  refine ⟨m.toNat, ?_, by omega, ?_⟩
  · unfold madeEnd
    rw [if_pos he, List.getD_eq_getElem?_getD, hm]; rfl
  · rw [List.getD_eq_getElem?_getD, hm]
    show m = _
    omega
/-- With room. -/
theorem substR_ok (hW : W ≤ 64) (hw : WFL L) (hg : GoodL W L) {t : Nat} (ht : t < L.length) (h : SubOk L ps) (hr : L.length + (t + 1) ≤ room) :
    ∃ L' s, substR W room L t ps = (L', s, 0) ∧ WFL L' ∧ GoodL W L' ∧ L <+: L' ∧ L'.length ≤ L.length + (t + 1) ∧ s < L'.length := by
  have he := made_room (room := room) (O := occ L t) hW hw hg (subLf_ok h) (t + 1) (by omega) hr
  have hi := made_inv (O := occ L t) hW hw hg (subLf_ok h) (t + 1) (by omega) he
  obtain ⟨q, h1, h2, -⟩ := madeEnd_inv hi he
  exact ⟨_, q, (substR_in ht h).trans h1, hi.wf, hi.good, hi.pre, hi.len, h2⟩
/-- The value: that of the term with other values of the variables. -/
theorem substR_val (h1 : 1 ≤ W) (hW : W ≤ 64) (hw : WFL L) (hg : GoodL W L) {t s : Nat} (ht : t < L.length) (h : SubOk L ps) (hR : substR W room L t ps = (L', s, 0)) {inner outer : List Int}
    (hv : ∀ i v, L[i]? = some (1, v, []) → val W inner L (subLf ps i (1, v, [])).toNat = val W outer L i) : val W inner L' s = val W outer L t := by
  rw [substR_in ht h] at hR
  by_cases he : (madeRun W room L (occ L t) (subLf ps) (t + 1)).2.2 = 0
  · have hi := made_inv (O := occ L t) hW hw hg (subLf_ok h) (t + 1) (by omega) he
    have hvs := made_vals (room := room) (O := occ L t) (lf := subLf ps) (vals := outer) (vals2 := inner) h1 hW hw hg (subLf_ok h) (occ_hO hw) (fun i n hn ho ha => ?_) (t + 1) (by omega) he t (by omega) (occ_top L t)
    · obtain ⟨q, e1, e2, e3⟩ := madeEnd_inv hi he
      rw [e1] at hR
      simp only [Prod.mk.injEq, and_true] at hR
      obtain ⟨rfl, rfl⟩ := hR
      rw [e3, Int.toNat_natCast] at hvs
      exact hvs
    · rcases hg n (List.mem_of_getElem? hn) with ⟨g1, g2, g3⟩ | ⟨g1, g2, g3⟩ | ⟨g1, g2, g3, g4⟩
      · unfold subLf
        rw [if_neg (by omega), Int.toNat_natCast, val_at hw hn, val_at hw hn, valN_const g1, valN_const g1]
      · obtain ⟨o, v, xs⟩ := n
        simp only at g1 g3
        subst g1; subst g3
        exact hv i v hn
      · rw [ha] at g4
        exact absurd g4 (aryN_pos g1)
  · unfold madeEnd at hR
    rw [if_neg he] at hR
    simp only [Prod.mk.injEq] at hR
    exact absurd hR.2.2 he
/-- What holds of the terms, and of the nodes that stay. -/
theorem substR_gen {Q : List PNode → Int → Prop} (hpre : ∀ M M' t, WFL M → M <+: M' → 0 ≤ t → t < (M.length : Int) → Q M t → Q M' t)
    (hres : ∀ M o xs, WFL M → GoodL W M → 2 ≤ o → o ≤ 21 → aryN o = xs.length → (∀ a ∈ xs, (0 : Int) ≤ a ∧ a < (M.length : Int)) → (∀ a ∈ xs, Q M a) → ((simpA W M o xs).res W room M).2.2 = 0 → Q ((simpA W M o xs).res W room M).1 ((simpA W M o xs).res W room M).2.1)
    (hW : W ≤ 64) (hw : WFL L) (hg : GoodL W L) {t s : Nat} (ht : t < L.length) (h : SubOk L ps) (hR : substR W room L t ps = (L', s, 0)) (hleaf : ∀ (i : Nat) n, L[i]? = some n → occ L t i = true → n.2.2 = [] → Q L (subLf ps i n)) : Q L' s := by
  rw [substR_in ht h] at hR
  by_cases he : (madeRun W room L (occ L t) (subLf ps) (t + 1)).2.2 = 0
  · have hi := made_inv (O := occ L t) hW hw hg (subLf_ok h) (t + 1) (by omega) he
    have hq := made_gen (O := occ L t) (lf := subLf ps) hpre hres hW hw hg (subLf_ok h) (occ_hO hw) hleaf (t + 1) (by omega) he t (by omega) (occ_top L t)
    obtain ⟨q, e1, e2, e3⟩ := madeEnd_inv hi he
    rw [e1] at hR
    simp only [Prod.mk.injEq, and_true] at hR
    obtain ⟨rfl, rfl⟩ := hR
    rw [e3] at hq
    exact hq
  · unfold madeEnd at hR
    rw [if_neg he] at hR
    simp only [Prod.mk.injEq] at hR
    exact absurd hR.2.2 he
end
section
variable {W room : Nat} {L L' M L0 : List PNode} {O : Nat → Bool} {lf : Nat → PNode → Int}
/-- What is there already is found again. -/
theorem ask_hit {n : PNode} (hM : WFL M) (he : (askP room L n).2.2 = 0) (hp : (askP room L n).1 <+: M) : askP room M n = (M, (askP room L n).2.1, 0) := askP_hit hM.nodup (prefix_at hp (ask_term he)) room
theorem ans_hit {a : Ans} (hM : WFL M) (ha : AnsOk L a) (hl : L.length ≤ M.length) (he : (a.res W room L).2.2 = 0) (hp : (a.res W room L).1 <+: M) : a.res W room M = (M, (a.res W room L).2.1, 0) := by
  cases a with
  | term t => rfl
  | num v => exact ask_hit hM he hp
  | app o xs =>
    obtain ⟨k1, k2, k3, k4⟩ := ha
    have e : Ans.res W room L (.app o xs) = askP room L (o, 0, xs) := by
      show appR room L o xs = _
      unfold appR
      rw [if_pos ⟨k2, aryN_pos k1, k3⟩, if_pos k4]
    have e' : Ans.res W room M (.app o xs) = askP room M (o, 0, xs) := by
      show appR room M o xs = _
      unfold appR
      rw [if_pos ⟨k2, aryN_pos k1, k3⟩, if_pos (fun a ha => by have := k4 a ha; omega)]
    rw [e] at he hp ⊢
    rw [e']
    exact ask_hit hM he hp
/-- Terms that were made anew are made anew again. -/
theorem made_again (hW : W ≤ 64) (hw0 : WFL L0) (hg0 : GoodL W L0) (hM : WFL M) (hlf : ∀ i n, L0[i]? = some n → 0 ≤ lf i n ∧ lf i n < (L0.length : Int)) :
    ∀ k, k ≤ L0.length → (madeRun W room L0 O lf k).2.2 = 0 → (madeRun W room L0 O lf k).1 <+: M → madeRun W room M O lf k = (M, (madeRun W room L0 O lf k).2.1, 0)
  | 0, _, _ => fun _ => rfl
  | k + 1, hk, he => by
    have h0 := madeRun_ok he
    have ih := made_again hW hw0 hg0 hM hlf k (by omega) h0
    have h := made_inv (O := O) hW hw0 hg0 hlf k (by omega) h0
    rw [madeRun_succ h0] at he ⊢
    intro hp
    obtain ⟨n, hn⟩ : ∃ n, L0[k]? = some n := ⟨_, List.getElem?_eq_getElem (by omega)⟩
    have fin : ∀ hp1 : (madeRun W room L0 O lf k).1 <+: M, M[k]? = some n ∧ madeRun W room M O lf (k + 1) = madeStep W room M O lf k (M, (madeRun W room L0 O lf k).2.1, 0) := by
      intro hp1
      have := ih hp1
      refine ⟨prefix_at (h.pre.trans hp1) hn, ?_⟩
      rw [madeRun_succ (by rw [this]), this]
    generalize madeRun W room L0 O lf k = s at *
    by_cases hOk : O k = true
    · by_cases ha : n.2.2 = []
      · rw [step_leaf hn hOk ha] at hp ⊢
        obtain ⟨hm, e⟩ := fin hp
        rw [e, step_leaf hm hOk ha]
      · obtain ⟨g1, g2, _, g3⟩ := good_app (hg0 n (List.mem_of_getElem? hn)) ha
        have hin := made_args h (hw0.args k n hn)
        have hl3 : aryN n.1 = (n.2.2.map fun a => s.2.1.getD a.toNat 0).length := by rw [List.length_map]; exact g3
        have hR := simpR_in (W := W) (room := room) g1 g2 hl3 hin
        rw [step_app hn hOk ha hR] at he hp ⊢
        have hc : (Ans.res W room s.1 (simpA W s.1 n.1 (n.2.2.map fun a => s.2.1.getD a.toNat 0))).2.2 = 0 := by
          split at he
          · assumption
          · exact he
        rw [if_pos hc] at hp ⊢
        have hp' : (Ans.res W room s.1 (simpA W s.1 n.1 (n.2.2.map fun a => s.2.1.getD a.toNat 0))).1 <+: M := hp
        have hps := (ans_prefix (W := W) (room := room) (L := s.1) (simpA W s.1 n.1 (n.2.2.map fun a => s.2.1.getD a.toNat 0))).trans hp'
        have hpl := hps.length_le
        have hok := simpA_ok (W := W) h.wf g1 g2 hl3 hin
        obtain ⟨hm, e⟩ := fin hps
        have hRM : simpR W room M n.1 (n.2.2.map fun a => s.2.1.getD a.toNat 0) = (M, (Ans.res W room s.1 (simpA W s.1 n.1 (n.2.2.map fun a => s.2.1.getD a.toNat 0))).2.1, 0) := by
          rw [simpR_in g1 g2 hl3 (fun b hb => by have := hin b hb; omega), simpA_prefix hps hin]
          exact ans_hit hM hok hpl hc hp'
        rw [e, step_app hm hOk ha hRM, if_pos rfl]
    · rw [Bool.not_eq_true] at hOk
      rw [step_skip hn hOk] at hp ⊢
      obtain ⟨hm, e⟩ := fin hp
      rw [e, step_skip hm hOk]
theorem occDown_prefix (h : L <+: L') : ∀ (k : Nat) (f : Nat → Bool), k ≤ L.length → occDown L' k f = occDown L k f
  | 0, _, _ => rfl
  | k + 1, f, hk => by
    show occDown L' k (occStep L' k f) = occDown L k (occStep L k f)
    have : occStep L' k f = occStep L k f := by
      funext i
      unfold occStep
      rw [argsOf_prefix h (by omega)]
    rw [this]
    exact occDown_prefix h k _ (by omega)
theorem occ_prefix (h : L <+: L') {t : Nat} (ht : t < L.length) : occ L' t = occ L t := occDown_prefix h (t + 1) _ (by omega)
/-- A term that was made simple, made simple again. -/
theorem substR_again {ps : List (Int × Int)} (hW : W ≤ 64) (hw : WFL L) (hg : GoodL W L) {t s : Nat} (ht : t < L.length) (h : SubOk L ps) (hR : substR W room L t ps = (L', s, 0)) (hM : WFL M) (hp : L' <+: M) : substR W room M t ps = (M, s, 0) := by
  rw [substR_in ht h] at hR
  by_cases he : (madeRun W room L (occ L t) (subLf ps) (t + 1)).2.2 = 0
  · have hi := made_inv (O := occ L t) hW hw hg (subLf_ok h) (t + 1) (by omega) he
    obtain ⟨q, e1, e2, e3⟩ := madeEnd_inv hi he
    rw [e1] at hR
    simp only [Prod.mk.injEq, and_true] at hR
    obtain ⟨rfl, rfl⟩ := hR
    have ha := made_again (O := occ L t) hW hw hg hM (subLf_ok h) (t + 1) (by omega) he hp
    have hpl := (hi.pre.trans hp)
    rw [substR_in (by have := hpl.length_le; omega) (h.mono hpl.length_le), occ_prefix hpl ht, ha]
    unfold madeEnd
    rw [if_pos rfl, e3, Int.toNat_natCast]
  · unfold madeEnd at hR
    rw [if_neg he] at hR
    simp only [Prod.mk.injEq] at hR
    exact absurd hR.2.2 he
/-- Without variables that occur it is the term, made simple. -/
theorem subLf_id {ps : List (Int × Int)} (h : ∀ n ∈ L, n.1 = 1 → subOf ps n.2.1 = none) : ∀ k, madeRun W room L O (subLf ps) k = madeRun W room L O (fun i _ => (i : Int)) k
  | 0 => rfl
  | k + 1 => by
    show (if _ then _ else _) = (if _ then _ else _)
    rw [subLf_id h k]
    have : ∀ s, madeStep W room L O (subLf ps) k s = madeStep W room L O (fun i _ => (i : Int)) k s := by
      intro s
      unfold madeStep
      cases hn : L[k]? with
      | none => rfl
      | some n =>
        have e : subLf ps k n = (k : Int) := by
          unfold subLf
          split
          · rw [h n (List.mem_of_getElem? hn) (by assumption)]; rfl
          · rfl
        simp only [e]
    rw [this]
theorem substR_none {ps : List (Int × Int)} {t : Nat} (ht : t < L.length) (hok : SubOk L ps) (h : ∀ n ∈ L, n.1 = 1 → subOf ps n.2.1 = none) : substR W room L t ps = simpleR W room L t := by
  rw [substR_in ht hok, subLf_id h]
  unfold simpleR
  rw [if_pos ⟨by omega, by omega⟩, Int.toNat_natCast]
end
end Go.Proofs.Ytofbadmjopefpaa
