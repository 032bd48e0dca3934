/- SubstNumbers: in plain. -/
import Derived.Test.YtcpgiadhmmmafaaSubJ
namespace Go.Proofs.Ytcpgiadhmmmafaa
open Go.RowKit Go.Maps
set_option maxHeartbeats 3200000

section
variable {W room : Nat} {L L' M : List PNode} {vs us vals : List Int} {t s : Nat}
/-- The first k variables. -/
def natsI (k : Nat) : List Int := (List.range k).map Int.ofNat
theorem natsI_len (k : Nat) : (natsI k).length = k := by simp [natsI]
theorem natsI_succ (k : Nat) : natsI (k + 1) = natsI k ++ [(k : Int)] := by simp [natsI, List.range_succ]
theorem natsI_at {k i : Nat} (h : i < k) : (natsI k)[i]? = some (i : Int) := by simp [natsI, h]
/-- The numbers that take the variables' place, after k of them. -/
structure NumInv (W k : Nat) (vals : List Int) (M : List PNode) (us : List Int) : Prop where
  good : GoodL W M
  vars : VarsLt 6 M
  len : us.length = k
  at_ : ∀ i, i < k → ∃ u : Nat, us[i]? = some (u : Int) ∧ M[u]? = some (0, (vals.getD i 0).toNat % 2 ^ W, [])
theorem NumInv.start (hg : GoodL W M) (hv : VarsLt 6 M) : NumInv W 0 vals M [] := ⟨hg, hv, rfl, fun i hi => by omega⟩
theorem NumInv.step {k : Nat} (h : NumInv W k vals M us) (hl : M.length < room) {q : Nat} (hq : (vals.getD k 0).toNat = q) :
    ∃ M' u, constR W room M q = (M', u, 0) ∧ NumInv W (k + 1) vals M' (us ++ [(u : Int)]) ∧ M <+: M' ∧ M'.length ≤ M.length + 1 ∧ u < M'.length := by
  have hpre : M <+: (constR W room M q).1 := by
    unfold constR
    rcases askP_cases room M (0, q % 2 ^ W, []) (by omega) with ⟨_, e, _⟩ | ⟨_, _, e⟩ | ⟨_, e, _⟩
    · rw [e]; exact List.prefix_refl _
    · rw [e]; exact List.prefix_append _ _
    · omega
  have hlen := askP_len room M (0, q % 2 ^ W, [])
  have he : (constR W room M q).2.2 = 0 := by
    unfold constR
    rcases askP_cases room M (0, q % 2 ^ W, []) (by omega) with ⟨_, e, _⟩ | ⟨_, _, e⟩ | ⟨_, e, _⟩
    · rw [e]
    · rw [e]
    · omega
  have hat : (constR W room M q).1[(constR W room M q).2.1]? = some (0, q % 2 ^ W, []) := ask_term he
  have hg := h.good.const room q
  have hv : VarsLt 6 (constR W room M q).1 := h.vars.ask room (fun e => by cases e)
  obtain ⟨⟨M', u, e⟩, hR⟩ : ∃ R, constR W room M q = R := ⟨_, rfl⟩
  rw [hR] at hpre he hat hg hv
  simp only at hpre he hat hg hv
  subst he
  refine ⟨M', u, hR, ⟨hg, hv, by rw [List.length_append, h.len]; rfl, fun i hi => ?_⟩, hpre, by have := hlen.2; unfold constR at hR; rw [hR] at this; exact this, (List.getElem?_eq_some_iff.1 hat).1⟩
  by_cases hik : i < k
  · obtain ⟨u', h1, h2⟩ := h.at_ i hik
    exact ⟨u', by rw [List.getElem?_append_left (by rw [h.len]; exact hik)]; exact h1, prefix_at hpre h2⟩
  · obtain rfl : i = k := by omega
    exact ⟨u, by rw [List.getElem?_append_right (by rw [h.len]; exact Nat.le_refl _), h.len, Nat.sub_self]; rfl, by rw [hat, hq]⟩
theorem NumInv.pairs (h : NumInv W 6 vals M us) : PairsOk M (natsI 6) us := by
  refine ⟨by rw [natsI_len, h.len], by decide, by decide, fun u hu => ?_⟩
  obtain ⟨i, hi⟩ := List.mem_iff_getElem?.1 hu
  have hl := (List.getElem?_eq_some_iff.1 hi).1
  obtain ⟨u', h1, h2⟩ := h.at_ i (by rw [← h.len]; exact hl)
  rw [h1] at hi
  have := Option.some.inj hi
  have := (List.getElem?_eq_some_iff.1 h2).1
  omega
theorem NumInv.sub (h : NumInv W 6 vals M us) {v : Nat} (hv : v < 6) : ∃ u : Nat, subOf ((natsI 6).zip us) v = some (u : Int) ∧ M[u]? = some (0, (vals.getD v 0).toNat % 2 ^ W, []) := by
  obtain ⟨u, h1, h2⟩ := h.at_ v hv
  refine ⟨u, mem_subOf ?_ ?_, h2⟩
  · rw [List.map_fst_zip (by rw [natsI_len, h.len]; exact Nat.le_refl _)]
    exact h.pairs.nodup
  · exact List.mem_of_getElem? (List.getElem?_zip_eq_some.2 ⟨natsI_at hv, h1⟩)
/-- Every variable replaced by a number: a number. -/
theorem numbers_num (hW : W ≤ 64) (hw : WFL M) (h : NumInv W 6 vals M us) (hso : SubOk M ((natsI 6).zip us)) (ht : t < M.length) (hR : substR W room M t ((natsI 6).zip us) = (L', s, 0)) : isNum L' s = true := by
  refine substR_gen (Q := fun M t => isNum M t = true) (fun M M' t _ hp _ h2 hq => num_prefix hp h2 hq) (fun M o xs hw _ h1 h2 hl hin hq he => res_num hq he) hW hw h.good ht hso hR (fun i n hn ho ha => ?_)
  unfold subLf
  rcases h.good n (List.mem_of_getElem? hn) with ⟨h0, _⟩ | ⟨h1, _⟩ | ⟨h1, _, _, h4⟩
  · rw [if_neg (by omega)]
    exact isNum_of (num_at hn h0)
  · rw [if_pos h1]
    obtain ⟨u, e1, e2⟩ := h.sub (h.vars n (List.mem_of_getElem? hn) h1)
    rw [e1]
    exact isNum_of (num_at e2 rfl)
  · rw [ha] at h4
    exact absurd h4 (aryN_pos h1)
theorem numbers_val (h1 : 1 ≤ W) (hW : W ≤ 64) (hw : WFL M) (h : NumInv W 6 vals M us) (h6 : vals.length = 6) (hso : SubOk M ((natsI 6).zip us)) (ht : t < M.length) (hR : substR W room M t ((natsI 6).zip us) = (L', s, 0)) : val W vals L' s = val W vals M t := by
  refine substR_val h1 hW hw h.good ht hso hR fun i v hi => ?_
  obtain ⟨u, e1, e2⟩ := h.sub (h.vars _ (List.mem_of_getElem? hi) rfl)
  have hv : v < 6 := h.vars _ (List.mem_of_getElem? hi) rfl
  unfold subLf
  rw [if_pos rfl]
  show val W vals M ((subOf ((natsI 6).zip us) v).getD (i : Int)).toNat = _
  rw [e1]
  show val W vals M ((u : Int)).toNat = _
  rw [Int.toNat_natCast, val_at hw e2, val_at hw (vals := vals) hi, valN_var (n := (1, v, [])) rfl (by show v < vals.length; omega)]
  rfl
/-- The first two values, exchanged. -/
def exch (vals : List Int) : List Int := (vals.set 0 (vals.getD 1 0)).set 1 (vals.getD 0 0)
theorem exch_len (vals : List Int) : (exch vals).length = vals.length := by simp [exch]
theorem exch_val (h1 : 1 ≤ W) (hW : W ≤ 64) (hw : WFL L) (hg : GoodL W L) {x y : Nat} (hx : L[x]? = some (1, 0, [])) (hy : L[y]? = some (1, 1, [])) (ht : t < L.length) (h6 : vals.length = 6) (hR : substR W room L t ([(0 : Int), 1].zip [(y : Int), (x : Int)]) = (L', s, 0)) (hso : SubOk L ([(0 : Int), 1].zip [(y : Int), (x : Int)])) :
    val W vals L' s = val W (exch vals) L t := by
  match vals, h6 with
  | [a, b, c, d, e, f], _ =>
    refine substR_val h1 hW hw hg ht hso hR fun i v hi => ?_
    unfold subLf
    rw [if_pos rfl]
    show val W _ L ((subOf ([(0 : Int), 1].zip [(y : Int), (x : Int)]) v).getD (i : Int)).toNat = _
    rw [val_at hw (vals := exch _) hi]
    match v with
    | 0 =>
      show val W _ L ((y : Int)).toNat = _
      rw [Int.toNat_natCast, val_at hw hy, valN_var rfl (by show 1 < 6; omega), valN_var rfl (by show 0 < 6; omega)]
      rfl
    | 1 =>
      show val W _ L ((x : Int)).toNat = _
      rw [Int.toNat_natCast, val_at hw hx, valN_var rfl (by show 0 < 6; omega), valN_var rfl (by show 1 < 6; omega)]
      rfl
    | v + 2 =>
      have e0 : subOf ([(0 : Int), 1].zip [(y : Int), (x : Int)]) (v + 2) = none := by
        unfold subOf
        have k0 : ((0 : Int) == ((v + 2 : Nat) : Int)) = false := by rw [beq_eq_false_iff_ne]; omega
        have k1 : ((1 : Int) == ((v + 2 : Nat) : Int)) = false := by rw [beq_eq_false_iff_ne]; omega
        simp only [List.zip_cons_cons, List.zip_nil_left, List.find?_cons, k0, k1, List.find?_nil, Option.map_none]
      rw [e0]
      show val W _ L ((i : Int)).toNat = _
      rw [Int.toNat_natCast, val_at hw hi]
      by_cases hv : v + 2 < 6
      · rw [valN_var rfl hv, valN_var rfl hv]
        rfl
      · rw [valN_no rfl hv, valN_no rfl hv]
/-- The whole of what SubstNumbers asks, behind the numbers. -/
theorem exch_pairs {x y : Nat} (hx : x < L.length) (hy : y < L.length) : PairsOk L [0, 1] [(y : Int), (x : Int)] :=
  ⟨rfl, by decide, by decide, fun u hu => by simp at hu; omega⟩
end
end Go.Proofs.Ytcpgiadhmmmafaa
