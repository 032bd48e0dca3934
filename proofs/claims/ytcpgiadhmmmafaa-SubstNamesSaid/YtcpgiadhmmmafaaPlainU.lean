/- Terms in the place of variables: plain lists. -/
import Derived.Test.YtcpgiadhmmmafaaPlainQ
namespace Go.Proofs.Ytcpgiadhmmmafaa

/-- What takes the place of a variable, by pairs. -/
def subOf (ps : List (Int × Int)) (v : Nat) : Option Int := (ps.find? fun p => p.1 == (v : Int)).map (·.2)
def subLf (ps : List (Int × Int)) (i : Nat) (n : PNode) : Int := if n.1 = 1 then (subOf ps n.2.1).getD i else i
/-- The first error of the pairs. -/
def subErr (L : List PNode) (ps : List (Int × Int)) : Nat → Nat
  | 0 => 0
  | k + 1 => if subErr L ps k ≠ 0 then subErr L ps k else match ps[k]? with
    | none => 0
    | some p => if p.1 ∈ (ps.take k).map (·.1) then 8 else if 0 ≤ p.2 ∧ p.2 < (L.length : Int) then 0 else 3
/-- What becomes of a graph in one of whose terms terms take the place of variables. -/
def substR (W room : Nat) (L : List PNode) (t : Int) (ps : List (Int × Int)) : List PNode × Nat × Nat :=
  if 0 ≤ t ∧ t < (L.length : Int) then (if subErr L ps ps.length = 0 then madeEnd t.toNat (madeRun W room L (occ L t.toNat) (subLf ps) (t.toNat + 1)) else (L, 0, subErr L ps ps.length)) else (L, 0, 3)
/-- Pairs that are right. -/
def SubOk (L : List PNode) (ps : List (Int × Int)) : Prop := (ps.map (·.1)).Nodup ∧ ∀ p ∈ ps, 0 ≤ p.2 ∧ p.2 < (L.length : Int)
section
variable {W room : Nat} {L L' L0 : List PNode} {ps qs : List (Int × Int)}
theorem subErr_succ {k : Nat} {p : Int × Int} (h0 : subErr L ps k = 0) (hp : ps[k]? = some p) : subErr L ps (k + 1) = if p.1 ∈ (ps.take k).map (·.1) then 8 else if 0 ≤ p.2 ∧ p.2 < (L.length : Int) then 0 else 3 := by
  show (if subErr L ps k ≠ 0 then _ else _) = _
  rw [if_neg (by rw [h0]; simp), hp]
theorem subErr_stop {k : Nat} (h : subErr L ps k ≠ 0) : ∀ m, k ≤ m → subErr L ps m = subErr L ps k
  | 0, hm => by obtain rfl : k = 0 := by omega
                rfl
  | m + 1, hm => by
    rcases Nat.lt_or_ge k (m + 1) with h1 | h1
    · have ih := subErr_stop h m (by omega)
      show (if subErr L ps m ≠ 0 then subErr L ps m else _) = _
      rw [if_pos (by rw [ih]; exact h), ih]
    · obtain rfl : k = m + 1 := by omega
      rfl
theorem subErr_ok {k : Nat} (h : subErr L ps (k + 1) = 0) : subErr L ps k = 0 := by
  by_cases h0 : subErr L ps k = 0
  · exact h0
  · rw [subErr_stop h0 (k + 1) (by omega)] at h; exact h
theorem take_map_snoc {k : Nat} {p : Int × Int} (hp : ps[k]? = some p) : (ps.take (k + 1)).map (·.1) = (ps.take k).map (·.1) ++ [p.1] := by
  obtain ⟨hk, rfl⟩ := List.getElem?_eq_some_iff.1 hp
  rw [← List.take_append_getElem hk, List.map_append]; rfl
theorem subErr_good (h : SubOk L ps) : ∀ k, subErr L ps k = 0
  | 0 => rfl
  | k + 1 => by
    have h0 := subErr_good h k
    cases hp : ps[k]? with
    | none =>
      show (if subErr L ps k ≠ 0 then _ else _) = _
      rw [if_neg (by rw [h0]; simp), hp]
    | some p =>
      have hn : p.1 ∉ (ps.take k).map (·.1) := by
        have h1 := h.1.sublist (List.Sublist.map (·.1) (List.take_sublist (k + 1) ps))
        rw [take_map_snoc hp, List.nodup_append] at h1
        intro hm
        exact h1.2.2 p.1 hm p.1 (by simp) rfl
      rw [subErr_succ h0 hp, if_neg hn, if_pos (h.2 p (List.mem_of_getElem? hp))]
theorem subErr_zero : ∀ k, k ≤ ps.length → subErr L ps k = 0 → SubOk L (ps.take k)
  | 0, _, _ => ⟨by simp, by simp⟩
  | k + 1, hk, h => by
    have h0 := subErr_ok h
    obtain ⟨i1, i2⟩ := subErr_zero k (by omega) h0
    obtain ⟨p, hp⟩ : ∃ p, ps[k]? = some p := ⟨_, List.getElem?_eq_getElem (by omega)⟩
    rw [subErr_succ h0 hp] at h
    have hn : p.1 ∉ (ps.take k).map (·.1) := fun hm => by rw [if_pos hm] at h; cases h
    rw [if_neg hn] at h
    have hr : 0 ≤ p.2 ∧ p.2 < (L.length : Int) := by
      by_cases hr : 0 ≤ p.2 ∧ p.2 < (L.length : Int)
      · exact hr
      · rw [if_neg hr] at h; cases h
    refine ⟨?_, fun q hq => ?_⟩
    · rw [take_map_snoc hp, List.nodup_append]
      exact ⟨i1, by simp, fun a ha b hb => by obtain rfl := List.mem_singleton.1 hb; rintro rfl; exact hn ha⟩
    · obtain ⟨hk', rfl⟩ := List.getElem?_eq_some_iff.1 hp
      rw [← List.take_append_getElem hk'] at hq
      rcases List.mem_append.1 hq with hq | hq
      · exact i2 q hq
      · obtain rfl := List.mem_singleton.1 hq; exact hr
theorem subErr_end (h : subErr L ps ps.length = 0) : SubOk L ps := by have := subErr_zero ps.length (Nat.le_refl _) h; rwa [List.take_length] at this
theorem SubOk.mono (h : SubOk L ps) (hl : L.length ≤ L'.length) : SubOk L' ps := ⟨h.1, fun p hp => by have := h.2 p hp; omega⟩
theorem subOf_mem {v : Nat} {s : Int} (h : subOf ps v = some s) : ((v : Int), s) ∈ ps := by
  unfold subOf at h
  rw [Option.map_eq_some_iff] at h
  obtain ⟨p, hp, rfl⟩ := h
  have h1 := List.find?_some hp
  have h2 := List.mem_of_find?_eq_some hp
  have : p.1 = (v : Int) := by simpa using h1
  rw [← this]; exact h2
theorem mem_subOf (hn : (ps.map (·.1)).Nodup) {v : Nat} {s : Int} (h : ((v : Int), s) ∈ ps) : subOf ps v = some s := by
  induction ps with
  | nil => cases h
  | cons p ps ih =>
    rw [List.map_cons, List.nodup_cons] at hn
    unfold subOf
    rw [List.find?_cons]
    rcases List.mem_cons.1 h with rfl | h
    · simp
    · have hne : (p.1 == (v : Int)) = false := by
        rw [beq_eq_false_iff_ne]
        rintro he
        exact hn.1 (by rw [he]; exact List.mem_map.2 ⟨_, h, rfl⟩)
      rw [hne]
      exact ih hn.2 h
theorem subOf_none {v : Nat} : subOf ps v = none ↔ ∀ s, ((v : Int), s) ∉ ps := by
  unfold subOf
  rw [Option.map_eq_none_iff, List.find?_eq_none]
  constructor
  · intro h s hm
    have := h _ hm
    simp at this
  · intro h p hp he
    have : p.1 = (v : Int) := by simpa using he
    exact h p.2 (by rw [← this]; exact hp)
theorem subLf_ok (h : SubOk L ps) : ∀ i n, L[i]? = some n → 0 ≤ subLf ps i n ∧ subLf ps i n < (L.length : Int) := by
  intro i n hn
  have hi := (List.getElem?_eq_some_iff.1 hn).1
  unfold subLf
  split
  · cases hs : subOf ps n.2.1 with
    | none => simp; omega
    | some s => exact h.2 _ (subOf_mem hs)
  · omega
theorem subLf_nonneg (h : SubOk L ps) : ∀ i n, 0 ≤ subLf ps i n := by
  intro i n
  unfold subLf
  split
  · cases hs : subOf ps n.2.1 with
    | none => simp
    | some s => exact (h.2 _ (subOf_mem hs)).1
  · omega
/-- The order of the pairs does not matter. -/
theorem subOf_perm (hn : (ps.map (·.1)).Nodup) (hp : ps.Perm qs) (v : Nat) : subOf ps v = subOf qs v := by
  have hn' : (qs.map (·.1)).Nodup := ((hp.map (·.1)).nodup_iff).1 hn
  cases hq : subOf qs v with
  | none =>
    rw [subOf_none] at hq ⊢
    exact fun s hm => hq s (hp.mem_iff.1 hm)
  | some s => exact mem_subOf hn (hp.mem_iff.2 (subOf_mem hq))
theorem subLf_congr (h : ∀ v, subOf ps v = subOf qs v) : subLf ps = subLf qs := by
  funext i n; unfold subLf; rw [h]
theorem substR_in {t : Nat} (ht : t < L.length) (h : SubOk L ps) : substR W room L t ps = madeEnd t (madeRun W room L (occ L t) (subLf ps) (t + 1)) := by
  unfold substR
  rw [if_pos ⟨by omega, by omega⟩, if_pos (subErr_good h _), Int.toNat_natCast]
theorem madeEnd_inv {t : Nat} {s : List PNode × List Int × Nat} (h : MadeInv W room L0 (t + 1) s) (he : s.2.2 = 0) : ∃ q : Nat, madeEnd t s = (s.1, q, 0) ∧ q < s.1.length ∧ s.2.1.getD t 0 = (q : Int) := by
  obtain ⟨m, hm⟩ : ∃ m, s.2.1[t]? = some m := ⟨_, List.getElem?_eq_getElem (by rw [h.many]; omega)⟩
  have hb := h.at_ t m hm
  refine ⟨m.toNat, ?_, by omega, ?_⟩
  · unfold madeEnd
    rw [if_pos he, List.getD_eq_getElem?_getD, hm]; rfl
  · rw [List.getD_eq_getElem?_getD, hm]
    show m = _
    omega
/-- With room. -/
theorem substR_ok (hW : W ≤ 64) (hw : WFL L) (hg : GoodL W L) {t : Nat} (ht : t < L.length) (h : SubOk L ps) (hr : L.length + (t + 1) ≤ room) :
    ∃ L' s, substR W room L t ps = (L', s, 0) ∧ WFL L' ∧ GoodL W L' ∧ L <+: L' ∧ L'.length ≤ L.length + (t + 1) ∧ s < L'.length := by
  have he := made_room (room := room) (O := occ L t) hW hw hg (subLf_ok h) (t + 1) (by omega) hr
  have hi := made_inv (O := occ L t) hW hw hg (subLf_ok h) (t + 1) (by omega) he
  obtain ⟨q, h1, h2, -⟩ := madeEnd_inv hi he
  exact ⟨_, q, (substR_in ht h).trans h1, hi.wf, hi.good, hi.pre, hi.len, h2⟩
/-- The value: that of the term with other values of the variables. -/
theorem substR_val (h1 : 1 ≤ W) (hW : W ≤ 64) (hw : WFL L) (hg : GoodL W L) {t s : Nat} (ht : t < L.length) (h : SubOk L ps) (hR : substR W room L t ps = (L', s, 0)) {inner outer : List Int}
    (hv : ∀ i v, L[i]? = some (1, v, []) → val W inner L (subLf ps i (1, v, [])).toNat = val W outer L i) : val W inner L' s = val W outer L t := by
  rw [substR_in ht h] at hR
  by_cases he : (madeRun W room L (occ L t) (subLf ps) (t + 1)).2.2 = 0
  · have hi := made_inv (O := occ L t) hW hw hg (subLf_ok h) (t + 1) (by omega) he
    have hvs := made_vals (room := room) (O := occ L t) (lf := subLf ps) (vals := outer) (vals2 := inner) h1 hW hw hg (subLf_ok h) (occ_hO hw) (fun i n hn ho ha => ?_) (t + 1) (by omega) he t (by omega) (occ_top L t)
    · obtain ⟨q, e1, e2, e3⟩ := madeEnd_inv hi he
      rw [e1] at hR
      simp only [Prod.mk.injEq, and_true] at hR
      obtain ⟨rfl, rfl⟩ := hR
      rw [e3, Int.toNat_natCast] at hvs
      exact hvs
    · rcases hg n (List.mem_of_getElem? hn) with ⟨g1, g2, g3⟩ | ⟨g1, g2, g3⟩ | ⟨g1, g2, g3, g4⟩
      · unfold subLf
        rw [if_neg (by omega), Int.toNat_natCast, val_at hw hn, val_at hw hn, valN_const g1, valN_const g1]
      · obtain ⟨o, v, xs⟩ := n
        simp only at g1 g3
        subst g1; subst g3
        exact hv i v hn
      · rw [ha] at g4
        exact absurd g4 (aryN_pos g1)
  · unfold madeEnd at hR
    rw [if_neg he] at hR
    simp only [Prod.mk.injEq] at hR
    exact absurd hR.2.2 he
/-- What holds of the terms, and of the nodes that stay. -/
theorem substR_gen {Q : List PNode → Int → Prop} (hpre : ∀ M M' t, WFL M → M <+: M' → 0 ≤ t → t < (M.length : Int) → Q M t → Q M' t)
    (hres : ∀ M o xs, WFL M → GoodL W M → 2 ≤ o → o ≤ 21 → aryN o = xs.length → (∀ a ∈ xs, (0 : Int) ≤ a ∧ a < (M.length : Int)) → (∀ a ∈ xs, Q M a) → ((simpA W M o xs).res W room M).2.2 = 0 → Q ((simpA W M o xs).res W room M).1 ((simpA W M o xs).res W room M).2.1)
    (hW : W ≤ 64) (hw : WFL L) (hg : GoodL W L) {t s : Nat} (ht : t < L.length) (h : SubOk L ps) (hR : substR W room L t ps = (L', s, 0)) (hleaf : ∀ (i : Nat) n, L[i]? = some n → occ L t i = true → n.2.2 = [] → Q L (subLf ps i n)) : Q L' s := by
  rw [substR_in ht h] at hR
  by_cases he : (madeRun W room L (occ L t) (subLf ps) (t + 1)).2.2 = 0
  · have hi := made_inv (O := occ L t) hW hw hg (subLf_ok h) (t + 1) (by omega) he
    have hq := made_gen (O := occ L t) (lf := subLf ps) hpre hres hW hw hg (subLf_ok h) (occ_hO hw) hleaf (t + 1) (by omega) he t (by omega) (occ_top L t)
    obtain ⟨q, e1, e2, e3⟩ := madeEnd_inv hi he
    rw [e1] at hR
    simp only [Prod.mk.injEq, and_true] at hR
    obtain ⟨rfl, rfl⟩ := hR
    rw [e3] at hq
    exact hq
  · unfold madeEnd at hR
    rw [if_neg he] at hR
    simp only [Prod.mk.injEq] at hR
    exact absurd hR.2.2 he
end
section
variable {W room : Nat} {L L' M L0 : List PNode} {O : Nat → Bool} {lf : Nat → PNode → Int}
/-- What is there already is found again. -/
theorem ask_hit {n : PNode} (hM : WFL M) (he : (askP room L n).2.2 = 0) (hp : (askP room L n).1 <+: M) : askP room M n = (M, (askP room L n).2.1, 0) := askP_hit hM.nodup (prefix_at hp (ask_term he)) room
theorem ans_hit {a : Ans} (hM : WFL M) (ha : AnsOk L a) (hl : L.length ≤ M.length) (he : (a.res W room L).2.2 = 0) (hp : (a.res W room L).1 <+: M) : a.res W room M = (M, (a.res W room L).2.1, 0) := by
  cases a with
  | term t => rfl
  | num v => exact ask_hit hM he hp
  | app o xs =>
    obtain ⟨k1, k2, k3, k4⟩ := ha
    have e : Ans.res W room L (.app o xs) = askP room L (o, 0, xs) := by
      show appR room L o xs = _
      unfold appR
      rw [if_pos ⟨k2, aryN_pos k1, k3⟩, if_pos k4]
    have e' : Ans.res W room M (.app o xs) = askP room M (o, 0, xs) := by
      show appR room M o xs = _
      unfold appR
      rw [if_pos ⟨k2, aryN_pos k1, k3⟩, if_pos (fun a ha => by have := k4 a ha; omega)]
    rw [e] at he hp ⊢
    rw [e']
    exact ask_hit hM he hp
/-- Terms that were made anew are made anew again. -/
theorem made_again (hW : W ≤ 64) (hw0 : WFL L0) (hg0 : GoodL W L0) (hM : WFL M) (hlf : ∀ i n, L0[i]? = some n → 0 ≤ lf i n ∧ lf i n < (L0.length : Int)) :
    ∀ k, k ≤ L0.length → (madeRun W room L0 O lf k).2.2 = 0 → (madeRun W room L0 O lf k).1 <+: M → madeRun W room M O lf k = (M, (madeRun W room L0 O lf k).2.1, 0)
  | 0, _, _ => fun _ => rfl
  | k + 1, hk, he => by
    have h0 := madeRun_ok he
    have ih := made_again hW hw0 hg0 hM hlf k (by omega) h0
    have h := made_inv (O := O) hW hw0 hg0 hlf k (by omega) h0
    rw [madeRun_succ h0] at he ⊢
    intro hp
    obtain ⟨n, hn⟩ : ∃ n, L0[k]? = some n := ⟨_, List.getElem?_eq_getElem (by omega)⟩
    have fin : ∀ hp1 : (madeRun W room L0 O lf k).1 <+: M, M[k]? = some n ∧ madeRun W room M O lf (k + 1) = madeStep W room M O lf k (M, (madeRun W room L0 O lf k).2.1, 0) := by
      intro hp1
      have := ih hp1
      refine ⟨prefix_at (h.pre.trans hp1) hn, ?_⟩
      rw [madeRun_succ (by rw [this]), this]
    generalize madeRun W room L0 O lf k = s at *
    by_cases hOk : O k = true
    · by_cases ha : n.2.2 = []
      · rw [step_leaf hn hOk ha] at hp ⊢
        obtain ⟨hm, e⟩ := fin hp
        rw [e, step_leaf hm hOk ha]
      · obtain ⟨g1, g2, _, g3⟩ := good_app (hg0 n (List.mem_of_getElem? hn)) ha
        have hin := made_args h (hw0.args k n hn)
        have hl3 : aryN n.1 = (n.2.2.map fun a => s.2.1.getD a.toNat 0).length := by rw [List.length_map]; exact g3
        have hR := simpR_in (W := W) (room := room) g1 g2 hl3 hin
        rw [step_app hn hOk ha hR] at he hp ⊢
        have hc : (Ans.res W room s.1 (simpA W s.1 n.1 (n.2.2.map fun a => s.2.1.getD a.toNat 0))).2.2 = 0 := by
          split at he
          · assumption
          · exact he
        rw [if_pos hc] at hp ⊢
        have hp' : (Ans.res W room s.1 (simpA W s.1 n.1 (n.2.2.map fun a => s.2.1.getD a.toNat 0))).1 <+: M := hp
        have hps := (ans_prefix (W := W) (room := room) (L := s.1) (simpA W s.1 n.1 (n.2.2.map fun a => s.2.1.getD a.toNat 0))).trans hp'
        have hpl := hps.length_le
        have hok := simpA_ok (W := W) h.wf g1 g2 hl3 hin
        obtain ⟨hm, e⟩ := fin hps
        have hRM : simpR W room M n.1 (n.2.2.map fun a => s.2.1.getD a.toNat 0) = (M, (Ans.res W room s.1 (simpA W s.1 n.1 (n.2.2.map fun a => s.2.1.getD a.toNat 0))).2.1, 0) := by
          rw [simpR_in g1 g2 hl3 (fun b hb => by have := hin b hb; omega), simpA_prefix hps hin]
          exact ans_hit hM hok hpl hc hp'
        rw [e, step_app hm hOk ha hRM, if_pos rfl]
    · rw [Bool.not_eq_true] at hOk
      rw [step_skip hn hOk] at hp ⊢
      obtain ⟨hm, e⟩ := fin hp
      rw [e, step_skip hm hOk]
theorem occDown_prefix (h : L <+: L') : ∀ (k : Nat) (f : Nat → Bool), k ≤ L.length → occDown L' k f = occDown L k f
  | 0, _, _ => rfl
  | k + 1, f, hk => by
    show occDown L' k (occStep L' k f) = occDown L k (occStep L k f)
    have : occStep L' k f = occStep L k f := by
      funext i
      unfold occStep
      rw [argsOf_prefix h (by omega)]
    rw [this]
    exact occDown_prefix h k _ (by omega)
theorem occ_prefix (h : L <+: L') {t : Nat} (ht : t < L.length) : occ L' t = occ L t := occDown_prefix h (t + 1) _ (by omega)
/-- A term that was made simple, made simple again. -/
theorem substR_again {ps : List (Int × Int)} (hW : W ≤ 64) (hw : WFL L) (hg : GoodL W L) {t s : Nat} (ht : t < L.length) (h : SubOk L ps) (hR : substR W room L t ps = (L', s, 0)) (hM : WFL M) (hp : L' <+: M) : substR W room M t ps = (M, s, 0) := by
  rw [substR_in ht h] at hR
  by_cases he : (madeRun W room L (occ L t) (subLf ps) (t + 1)).2.2 = 0
  · have hi := made_inv (O := occ L t) hW hw hg (subLf_ok h) (t + 1) (by omega) he
    obtain ⟨q, e1, e2, e3⟩ := madeEnd_inv hi he
    rw [e1] at hR
    simp only [Prod.mk.injEq, and_true] at hR
    obtain ⟨rfl, rfl⟩ := hR
    have ha := made_again (O := occ L t) hW hw hg hM (subLf_ok h) (t + 1) (by omega) he hp
    have hpl := (hi.pre.trans hp)
    rw [substR_in (by have := hpl.length_le; omega) (h.mono hpl.length_le), occ_prefix hpl ht, ha]
    unfold madeEnd
    rw [if_pos rfl, e3, Int.toNat_natCast]
  · unfold madeEnd at hR
    rw [if_neg he] at hR
    simp only [Prod.mk.injEq] at hR
    exact absurd hR.2.2 he
/-- Without variables that occur it is the term, made simple. -/
theorem subLf_id {ps : List (Int × Int)} (h : ∀ n ∈ L, n.1 = 1 → subOf ps n.2.1 = none) : ∀ k, madeRun W room L O (subLf ps) k = madeRun W room L O (fun i _ => (i : Int)) k
  | 0 => rfl
  | k + 1 => by
    show (if _ then _ else _) = (if _ then _ else _)
    rw [subLf_id h k]
    have : ∀ s, madeStep W room L O (subLf ps) k s = madeStep W room L O (fun i _ => (i : Int)) k s := by
      intro s
      unfold madeStep
      cases hn : L[k]? with
      | none => rfl
      | some n =>
        have e : subLf ps k n = (k : Int) := by
          unfold subLf
          split
          · rw [h n (List.mem_of_getElem? hn) (by assumption)]; rfl
          · rfl
        simp only [e]
    rw [this]
theorem substR_none {ps : List (Int × Int)} {t : Nat} (ht : t < L.length) (hok : SubOk L ps) (h : ∀ n ∈ L, n.1 = 1 → subOf ps n.2.1 = none) : substR W room L t ps = simpleR W room L t := by
  rw [substR_in ht hok, subLf_id h]
  unfold simpleR
  rw [if_pos ⟨by omega, by omega⟩, Int.toNat_natCast]
end
end Go.Proofs.Ytcpgiadhmmmafaa
