/- Terms that are simple stay what they are: plain lists. -/
import Derived.Test.YtcpgiadhmmmafaaPlainS
namespace Go.Proofs.Ytcpgiadhmmmafaa

theorem ite_ok' {P : Ans → Prop} {c : Prop} [Decidable c] {a b : Ans} (ha : c → P a) (hb : ¬ c → P b) : P (if c then a else b) := by
  split
  · exact ha (by assumption)
  · exact hb (by assumption)
section
variable {W room : Nat} {L L' : List PNode} {o : Nat} {x y z : Int} {xs : List Int}
theorem isNum_of {t : Int} {c : Nat} (h : numOf L t = some c) : isNum L t = true := by unfold isNum; rw [h]; rfl
theorem twoA_pred2 {P : Ans → Prop} (h1 : P (.term x)) (h2 : ∀ v, P (.num v)) (h3 : isNum L y = true → P (oneA L 2 x)) (h4 : P (.app o [x, y])) : P (twoA W L o x y) := by
  unfold twoA
  repeat' (first | exact h1 | exact h4 | exact h2 _ | (refine ite_ok' (fun hc => ?_) (fun _ => ?_)))
  all_goals exact h3 (isNum_of (by assumption))
/-- What a simple term is made of. -/
def AnsOf (W : Nat) (L : List PNode) (xs : List Int) (a : Ans) : Prop :=
  match a with
  | .term t => t ∈ xs ∨ ∃ x ∈ xs, t ∈ argsOf L x.toNat
  | .num _ => True
  | .app o ys => (∀ y ∈ ys, y ∈ xs) ∧ simpA W L o ys = .app o ys
theorem oneA_of (ho : o = 2 ∨ o = 3) (hw : WFL L) (hn : isNum L x = false) : AnsOf W L [x] (oneA L o x) := by
  have hs : simpA W L o [x] = oneA L o x := by
    unfold simpA
    rw [if_neg (fun q => by rw [q x (by simp)] at hn; cases hn)]
  rcases oneA_cases L o x with h | ⟨n, hi, h, hno⟩
  · have h' := h
    rw [h]
    exact ⟨fun y hy => hy, by rw [hs, h']⟩
  · rw [h]
    refine .inr ⟨x, by simp, ?_⟩
    unfold argsOf
    rw [hi]
    have hl := (hw.ok n (List.mem_of_getElem? hi)).2.2
    have h1 : aryN n.1 = 1 := by rcases ho with rfl | rfl <;> rw [hno] <;> rfl
    rw [h1] at hl
    obtain ⟨o', k', l⟩ := n
    match l, hl with
    | [a], _ => simp
theorem simpA_of (hw : WFL L) (h1 : 2 ≤ o) (h2 : o ≤ 21) (hl : aryN o = xs.length) : AnsOf W L xs (simpA W L o xs) := by
  by_cases hall : ∀ t ∈ xs, isNum L t = true
  · unfold simpA
    rw [if_pos hall]
    trivial
  · match xs, hl, hall with
    | [], hl, _ => exact absurd hl (aryN_pos h1)
    | [x], hl, hall =>
      have hn : isNum L x = false := by
        cases hx : isNum L x with
        | false => rfl
        | true => exact absurd (fun t ht => by obtain rfl := List.mem_singleton.1 ht; exact hx) hall
      have hs : simpA W L o [x] = oneA L o x := by unfold simpA; rw [if_neg hall]
      rw [hs]
      exact oneA_of (by unfold aryN at hl; rw [if_neg (by omega)] at hl; split at hl; · omega
                        · split at hl <;> simp at hl) hw hn
    | [x, y], hl, hall =>
      have hs : simpA W L o [x, y] = if swapA L o x y then twoA W L o y x else twoA W L o x y := by unfold simpA; rw [if_neg hall]
      have hall2 : ¬ ∀ t ∈ [y, x], isNum L t = true := fun q => hall (fun t ht => q t (by simpa [or_comm] using ht))
      have hs2 : simpA W L o [y, x] = if swapA L o y x then twoA W L o x y else twoA W L o y x := by unfold simpA; rw [if_neg hall2]
      have hnn : ¬ (isNum L x = true ∧ isNum L y = true) := fun q => hall (fun t ht => by
        rcases List.mem_cons.1 ht with rfl | ht
        · exact q.1
        · obtain rfl := List.mem_singleton.1 ht; exact q.2)
      have key : ∀ a b : Int, (∀ t, t ∈ [a, b] → t ∈ [x, y]) → ¬ (isNum L a = true ∧ isNum L b = true) → simpA W L o [a, b] = twoA W L o a b → AnsOf W L [x, y] (twoA W L o a b) := by
        intro a b hm hnn hsab
        obtain ⟨R, hR⟩ : ∃ R, twoA W L o a b = R := ⟨_, rfl⟩
        have hp : (fun R' => R' = R → AnsOf W L [x, y] R') (twoA W L o a b) := by
          refine twoA_pred2 (P := fun R' => R' = R → AnsOf W L [x, y] R') (fun _ => Or.inl (hm a (by simp))) (fun _ _ => trivial) (fun hb _ => ?_) (fun he => ⟨fun t ht => hm t ht, by rw [hsab, hR, ← he]⟩)
          have hna : isNum L a = false := by
            cases ha : isNum L a with
            | false => rfl
            | true => exact absurd ⟨ha, hb⟩ hnn
          have := oneA_of (W := W) (L := L) (x := a) (o := 2) (.inl rfl) hw hna
          cases hc : oneA L 2 a with
          | term t =>
            rw [hc] at this
            rcases this with h | ⟨x', hx', h⟩
            · exact Or.inl (hm t (by simp at h; simp [h]))
            · exact Or.inr ⟨x', hm x' (by simp at hx'; simp [hx']), h⟩
          | num v => trivial
          | app o' ys =>
            rw [hc] at this
            exact ⟨fun t ht => hm t (by have := this.1 t ht; simp at this; simp [this]), this.2⟩
        exact hp hR
      rw [hs]
      by_cases hsw : swapA L o x y
      · rw [if_pos hsw]
        have hns : ¬ swapA L o y x := by
          have hc := hsw.1
          have hsx : swapA L o x y ↔ (isNum L x = true ∨ isNum L y = false ∧ y < x) := by unfold swapA; simp [hc]
          have hsy : swapA L o y x ↔ (isNum L y = true ∨ isNum L x = false ∧ x < y) := by unfold swapA; simp [hc]
          rw [hsy]; rw [hsx] at hsw
          cases hx : isNum L x <;> cases hy : isNum L y <;> simp_all
          omega
        exact key y x (fun t ht => by simpa [or_comm] using ht) (fun q => hnn ⟨q.2, q.1⟩) (by rw [hs2, if_neg hns])
      · rw [if_neg hsw]
        exact key x y (fun t ht => ht) hnn (by rw [hs, if_neg hsw])
    | [x, y, z], hl, hall =>
      obtain rfl : o = 21 := by
        unfold aryN at hl; rw [if_neg (by omega)] at hl
        split at hl
        · simp at hl
        · split at hl
          · assumption
          · simp at hl
      have hs : simpA W L 21 [x, y, z] = threeA L x y z := by unfold simpA; rw [if_neg hall]
      obtain ⟨R, hR⟩ : ∃ R, threeA L x y z = R := ⟨_, rfl⟩
      rw [hs]
      have hp : (fun R' => R' = R → AnsOf W L [x, y, z] R') (threeA L x y z) := by
        unfold threeA
        repeat' (refine ite_ok (P := fun R' => R' = R → AnsOf W L [x, y, z] R') ?_ ?_)
        · exact fun _ => Or.inl (by simp)
        · exact fun _ => Or.inl (by simp)
        · exact fun _ => Or.inl (by simp)
        · exact fun he => ⟨fun t ht => ht, by rw [hs, hR, ← he]⟩
      exact hp hR
    | _ :: _ :: _ :: _ :: _, hl, _ =>
      exfalso
      have := aryN_le3 o
      simp at hl; omega
end
/-- A node whose simple term is itself. -/
def Fix (W : Nat) (L : List PNode) (j : Nat) : Prop := ∀ n, L[j]? = some n → n.2.2 ≠ [] → simpA W L n.1 n.2.2 = .app n.1 n.2.2
/-- A term all of whose nodes are such. -/
def FixedT (W : Nat) (L : List PNode) (t : Nat) : Prop := ∃ S : Nat → Prop, S t ∧ ∀ j, S j → j < L.length ∧ Fix W L j ∧ ∀ a ∈ argsOf L j, S a.toNat
section
variable {W room : Nat} {L L' L0 : List PNode} {o : Nat} {xs : List Int}
theorem argsOf_prefix (h : L <+: L') {j : Nat} (hj : j < L.length) : argsOf L' j = argsOf L j := by
  unfold argsOf
  obtain ⟨n, hn⟩ : ∃ n, L[j]? = some n := ⟨_, List.getElem?_eq_getElem hj⟩
  rw [prefix_at h hn, hn]
theorem Fix.prefix' (hw : WFL L) (h : L <+: L') {j : Nat} (hj : j < L.length) (hf : Fix W L j) : Fix W L' j := by
  intro n hn ha
  obtain ⟨m, hm⟩ : ∃ m, L[j]? = some m := ⟨_, List.getElem?_eq_getElem hj⟩
  have := prefix_at h hm
  rw [hn] at this
  obtain rfl : n = m := by simpa using this
  rw [simpA_prefix h (fun a ha => by have := hw.args j n hm a ha; omega)]
  exact hf n hm ha
theorem FixedT.prefix' (hw : WFL L) (h : L <+: L') {t : Nat} (hf : FixedT W L t) : FixedT W L' t := by
  obtain ⟨S, hS, hc⟩ := hf
  have hl := h.length_le
  refine ⟨S, hS, fun j hj => ?_⟩
  obtain ⟨h1, h2, h3⟩ := hc j hj
  exact ⟨by omega, h2.prefix' hw h h1, fun a ha => h3 a (by rw [← argsOf_prefix h h1]; exact ha)⟩
theorem FixedT.arg {t : Nat} (hf : FixedT W L t) {a : Int} (ha : a ∈ argsOf L t) : FixedT W L a.toNat := by
  obtain ⟨S, hS, hc⟩ := hf
  exact ⟨S, (hc t hS).2.2 a ha, hc⟩
theorem FixedT.leaf {t : Nat} {n : PNode} (hn : L[t]? = some n) (ha : n.2.2 = []) : FixedT W L t := by
  refine ⟨fun j => j = t, rfl, fun j hj => ?_⟩
  subst hj
  refine ⟨(List.getElem?_eq_some_iff.1 hn).1, fun m hm hne => ?_, fun a ha' => ?_⟩
  · rw [hn] at hm
    obtain rfl : n = m := by simpa using hm
    exact absurd ha hne
  · unfold argsOf at ha'
    rw [hn] at ha'
    have h2 : a ∈ n.2.2 := ha'
    rw [ha] at h2
    cases h2
/-- The nodes of such a term. -/
theorem occ_closed {S : Nat → Prop} (hS : ∀ j, S j → ∀ a ∈ argsOf L j, S a.toNat) : ∀ (k : Nat) (f : Nat → Bool), (∀ i, f i = true → S i) → ∀ i, occDown L k f i = true → S i
  | 0, _, hf, i, hi => hf i hi
  | k + 1, f, hf, i, hi => occ_closed hS k (occStep L k f) (fun j hj => by
      unfold occStep at hj
      rw [Bool.or_eq_true] at hj
      rcases hj with hj | hj
      · exact hf j hj
      · rw [Bool.and_eq_true, List.any_eq_true] at hj
        obtain ⟨hk, a, ha, hja⟩ := hj
        have : a.toNat = j := by simpa using hja
        rw [← this]
        exact hS k (hf k hk) a ha) i hi
theorem occ_in {S : Nat → Prop} {t : Nat} (ht : S t) (hS : ∀ j, S j → ∀ a ∈ argsOf L j, S a.toNat) : ∀ i, occ L t i = true → S i :=
  occ_closed hS _ _ fun i hi => by
    have : i = t := by simpa using hi
    rw [this]; exact ht
/-- Such a term, made simple, is itself. -/
theorem made_fixed (hW : W ≤ 64) (hw : WFL L) (hg : GoodL W L) {O : Nat → Bool} (hO : ∀ i, O i = true → Fix W L i) : ∀ k, k ≤ L.length → madeRun W room L O (fun i _ => (i : Int)) k = (L, (List.range k).map (fun (i : Nat) => (i : Int)), 0)
  | 0, _ => rfl
  | k + 1, hk => by
    have ih := made_fixed hW hw hg hO k (by omega)
    rw [madeRun_succ (by rw [ih]), ih]
    obtain ⟨n, hn⟩ : ∃ n, L[k]? = some n := ⟨_, List.getElem?_eq_getElem (by omega)⟩
    have hr : (List.range (k + 1)).map (fun (i : Nat) => (i : Int)) = (List.range k).map (fun (i : Nat) => (i : Int)) ++ [(k : Int)] := by rw [List.range_succ, List.map_append]; rfl
    rw [hr]
    cases hOk : O k with
    | false => rw [step_skip hn hOk]
    | true =>
      by_cases ha : n.2.2 = []
      · rw [step_leaf hn hOk ha]
      · obtain ⟨g1, g2, g4, g3⟩ := good_app (hg n (List.mem_of_getElem? hn)) ha
        have hargs : (n.2.2.map fun a => ((List.range k).map (fun (i : Nat) => (i : Int))).getD a.toNat 0) = n.2.2 := by
          have : ∀ a ∈ n.2.2, ((List.range k).map (fun (i : Nat) => (i : Int))).getD a.toNat 0 = a := by
            intro a ha'
            have := hw.args k n hn a ha'
            rw [List.getD_eq_getElem?_getD, List.getElem?_map, List.getElem?_range (by omega)]
            simp; omega
          exact (List.map_congr_left this).trans (List.map_id _)
        have hin : ∀ a ∈ n.2.2, (0 : Int) ≤ a ∧ a < (L.length : Int) := fun a ha' => by have := hw.args k n hn a ha'; omega
        have hres : simpR W room L n.1 n.2.2 = (L, k, 0) := by
          rw [simpR_in g1 g2 g3 hin, hO k hOk n hn ha]
          show appR room L n.1 n.2.2 = _
          unfold appR
          rw [if_pos ⟨g2, aryN_pos g1, g3⟩, if_pos hin]
          refine askP_hit hw.nodup (n := (n.1, 0, n.2.2)) ?_ room
          rw [hn, ← g4]
        refine (step_app (R := (L, k, 0)) hn hOk ha ?_).trans rfl
        show simpR W room L n.1 (n.2.2.map fun a => ((List.range k).map (fun (i : Nat) => (i : Int))).getD a.toNat 0) = _
        rw [hargs]
        exact hres
theorem simpleR_fixed (hW : W ≤ 64) (hw : WFL L) (hg : GoodL W L) {t : Nat} (hf : FixedT W L t) : simpleR W room L t = (L, t, 0) := by
  obtain ⟨S, hS, hc⟩ := hf
  have ht := (hc t hS).1
  have hO := occ_in (L := L) hS (fun j hj => (hc j hj).2.2)
  unfold simpleR
  rw [if_pos ⟨by omega, by omega⟩, Int.toNat_natCast, made_fixed hW hw hg (fun i hi => (hc i (hO i hi)).2.1) (t + 1) (by omega)]
  unfold madeEnd
  rw [if_pos rfl]
  have : ((List.range (t + 1)).map (fun (i : Nat) => (i : Int))).getD t 0 = (t : Int) := by
    rw [List.getD_eq_getElem?_getD, List.getElem?_map, List.getElem?_range (by omega)]; rfl
  rw [this]; rfl
/-- What the rules make of such terms is such a term. -/
theorem res_fixed (_hW : W ≤ 64) (hw : WFL L) (h1 : 2 ≤ o) (h2 : o ≤ 21) (hl : aryN o = xs.length) (hin : ∀ a ∈ xs, (0 : Int) ≤ a ∧ a < (L.length : Int)) (hf : ∀ a ∈ xs, FixedT W L a.toNat) (he : ((simpA W L o xs).res W room L).2.2 = 0) :
    FixedT W ((simpA W L o xs).res W room L).1 ((simpA W L o xs).res W room L).2.1 := by
  have hok := simpA_ok (W := W) hw h1 h2 hl hin
  have hof := simpA_of (W := W) hw h1 h2 hl
  have hpre := ans_prefix (W := W) (room := room) (L := L) (simpA W L o xs)
  generalize simpA W L o xs = R at *
  cases R with
  | term t =>
    rcases hof with h | ⟨x, hx, h⟩
    · exact hf t h
    · exact (hf x hx).arg h
  | num v =>
    have e : Ans.res W room L (.num v) = askP room L (0, v % 2 ^ W, []) := rfl
    rw [e] at he ⊢
    exact FixedT.leaf (ask_term he) rfl
  | app o' ys =>
    obtain ⟨k1, k2, k3, k4⟩ := hok
    obtain ⟨hsub, hfix⟩ := hof
    have e : Ans.res W room L (.app o' ys) = askP room L (o', 0, ys) := by
      show appR room L o' ys = _
      unfold appR
      rw [if_pos ⟨k2, aryN_pos k1, k3⟩, if_pos k4]
    rw [e] at he hpre ⊢
    have hat := ask_term he
    generalize askP room L (o', 0, ys) = R at *
    have hS := fun y (hy : y ∈ ys) => hf y (hsub y hy)
    refine ⟨fun j => j = R.2.1 ∨ FixedT W R.1 j, .inl rfl, fun j hj => ?_⟩
    rcases hj with rfl | ⟨S, hSj, hc⟩
    · refine ⟨(List.getElem?_eq_some_iff.1 hat).1, fun n hn hne => ?_, fun a ha => ?_⟩
      · rw [hat] at hn
        obtain rfl : n = (o', 0, ys) := by simpa using hn.symm
        show simpA W R.1 o' ys = .app o' ys
        rw [simpA_prefix hpre k4]
        exact hfix
      · unfold argsOf at ha
        rw [hat] at ha
        exact .inr ((hS a ha).prefix' hw hpre)
    · obtain ⟨c1, c2, c3⟩ := hc j hSj
      exact ⟨c1, c2, fun a ha => .inr ⟨S, c3 a ha, hc⟩⟩
/-- Terms made anew are such, where what became of the leaves is. -/
theorem made_fix {O : Nat → Bool} {lf : Nat → PNode → Int} (hW : W ≤ 64) (hw0 : WFL L0) (hg0 : GoodL W L0) (hlf : ∀ i n, L0[i]? = some n → 0 ≤ lf i n ∧ lf i n < (L0.length : Int))
    (hO : ∀ i n, L0[i]? = some n → O i = true → ∀ a ∈ n.2.2, O a.toNat = true) (hleaf : ∀ i n, L0[i]? = some n → O i = true → n.2.2 = [] → FixedT W L0 (lf i n).toNat) :
    ∀ k, k ≤ L0.length → (madeRun W room L0 O lf k).2.2 = 0 → ∀ i, i < k → O i = true → FixedT W (madeRun W room L0 O lf k).1 ((madeRun W room L0 O lf k).2.1.getD i 0).toNat
  | 0, _, _ => fun i hi => by omega
  | k + 1, hk, he => by
    have h0 := madeRun_ok he
    have ih := made_fix hW hw0 hg0 hlf hO hleaf k (by omega) h0
    have h := made_inv (O := O) hW hw0 hg0 hlf k (by omega) h0
    rw [madeRun_succ h0] at he ⊢
    obtain ⟨n, hn⟩ : ∃ n, L0[k]? = some n := ⟨_, List.getElem?_eq_getElem (by omega)⟩
    generalize madeRun W room L0 O lf k = s at *
    intro i hi hOi
    have old : ∀ (M : List PNode) (v : Int) (i : Nat), s.1 <+: M → i < k → O i = true → FixedT W M ((s.2.1 ++ [v]).getD i 0).toNat := by
      intro M v i hp hi hOi
      rw [List.getD_eq_getElem?_getD, List.getElem?_append_left (by rw [h.many]; omega), ← List.getD_eq_getElem?_getD]
      exact (ih i hi hOi).prefix' h.wf hp
    have top : ∀ v : Int, (s.2.1 ++ [v]).getD k 0 = v := by
      intro v
      rw [List.getD_eq_getElem?_getD, List.getElem?_append_right (by rw [h.many]; omega), h.many]
      simp
    have hlk : i < k ∨ i = k := by omega
    by_cases hOk : O k = true
    · by_cases ha : n.2.2 = []
      · rw [step_leaf hn hOk ha]
        rcases hlk with hik | rfl
        · exact old _ _ _ (List.prefix_refl _) hik hOi
        · show FixedT W s.1 ((s.2.1 ++ [lf i n]).getD i 0).toNat
          rw [top]
          exact (hleaf i n hn hOk ha).prefix' hw0 h.pre
      · obtain ⟨g1, g2, _, g3⟩ := good_app (hg0 n (List.mem_of_getElem? hn)) ha
        have hin := made_args h (hw0.args k n hn)
        have hR := simpR_in (W := W) (room := room) g1 g2 (by rw [List.length_map]; exact g3) hin
        rw [step_app hn hOk ha hR] at he ⊢
        have hc : (Ans.res W room s.1 (simpA W s.1 n.1 (n.2.2.map fun a => s.2.1.getD a.toNat 0))).2.2 = 0 := by
          split at he
          · assumption
          · exact he
        rw [if_pos hc]
        rcases hlk with hik | rfl
        · exact old _ _ _ (ans_prefix _) hik hOi
        · show FixedT W _ ((s.2.1 ++ [_]).getD i 0).toNat
          rw [top, Int.toNat_natCast]
          refine res_fixed hW h.wf g1 g2 (by rw [List.length_map]; exact g3) hin (fun b hb => ?_) hc
          obtain ⟨a, ha', rfl⟩ := List.mem_map.1 hb
          have hai := hw0.args i n hn a ha'
          exact ih a.toNat (by omega) (hO i n hn hOk a ha')
    · rw [Bool.not_eq_true] at hOk
      rw [step_skip hn hOk]
      rcases hlk with hik | rfl
      · exact old _ _ _ (List.prefix_refl _) hik hOi
      · rw [hOk] at hOi; cases hOi
end
end Go.Proofs.Ytcpgiadhmmmafaa
