/- RawP, RawT, TwTerm: joined by wip/bundle.py. -/
import Derived.Test.YteamnchoddegpaaGreatDoorB1
import Derived.Test.YteamnchoddegpaaGreatDoorB2
import Derived.Test.YteamnchoddegpaaGreatDoorB3
import Derived.Test.YteamnchoddegpaaGreatDoorB4
import Derived.Test.YteamnchoddegpaaGreatDoorB5
import Derived.Test.YteamnchoddegpaaGreatDoorB6
import Derived.Test.YteamnchoddegpaaGreatDoorB7
import Derived.Test.YteamnchoddegpaaGreatDoorB8
import Derived.Test.YteamnchoddegpaaGreatDoorB9
import Derived.Test.YteamnchoddegpaaGreatDoorB10
import Derived.Test.YteamnchoddegpaaGreatDoorB11
import Derived.Test.YteamnchoddegpaaGreatDoorB12
import Derived.Test.YteamnchoddegpaaGreatDoorB13
import Derived.Test.YteamnchoddegpaaGreatDoorB14
import Derived.Test.YteamnchoddegpaaGreatDoorB15
import Derived.Test.YteamnchoddegpaaGreatDoorB16
import Derived.Test.YteamnchoddegpaaGreatDoorB17
import Derived.Test.YteamnchoddegpaaGreatDoorB18
import Derived.Test.YteamnchoddegpaaGreatDoorB19
import Derived.Test.YteamnchoddegpaaGreatDoorB20
import Derived.Test.YteamnchoddegpaaGreatDoorB21
import Derived.WalkMore
import Derived.OrdersHeld
import Derived.StillTail
import Derived.Deep.RegionHeld3
import Derived.Laws.EntriesVeiled
namespace Go.Proofs.YteamnchoddegpaaGreatDoor
open Go.RowKit
set_option maxHeartbeats 800000
/-- A raw node: kind, operator, number, two arguments. -/
structure RawN where
  kind : Nat
  op : Nat
  num : Nat
  a : Nat
  b : Nat
structure RawN.Ok (r : RawN) : Prop where
  kind : r.kind ≤ 255
  op : r.op ≤ 255
  num : r.num < 18446744073709551616
  a : r.a ≤ 65535
  b : r.b ≤ 65535
/-- The operator and the arguments. -/
def RawN.o (r : RawN) : Nat := 2 + r.op % 19
def RawN.args (r : RawN) (n : Nat) : List Int := if r.o = 2 ∨ r.o = 3 then [((r.a % n : Nat) : Int)] else [((r.a % n : Nat) : Int), ((r.b % n : Nat) : Int)]
def rawR (W room : Nat) (L : List PNode) (r : RawN) : List PNode × Nat × Nat :=
  if r.kind % 3 = 0 ∨ L.length = 0 then constR W room L r.num else if r.kind % 3 = 1 then varR room L ((r.a % 12 : Nat) : Int) else appR room L r.o (r.args L.length)
def rawsL (W room : Nat) (rs : List RawN) : List PNode := rs.foldl (fun L r => (rawR W room L r).1) []
theorem rawsL_snoc (W room : Nat) (rs : List RawN) (r : RawN) : rawsL W room (rs ++ [r]) = (rawR W room (rawsL W room rs) r).1 := by
  unfold rawsL
  rw [List.foldl_append]
  rfl
theorem raw_args_len (r : RawN) (n : Nat) : (r.args n).length = aryN r.o := by
  have h : 2 ≤ r.o ∧ r.o ≤ 20 := by unfold RawN.o; omega
  unfold RawN.args aryN
  by_cases h2 : r.o = 2 ∨ r.o = 3
  · rw [if_pos h2, if_neg (by omega), if_pos (by omega)]; rfl
  · rw [if_neg h2, if_neg (by omega), if_neg (by omega), if_neg (by omega)]; rfl
theorem raw_args_in (r : RawN) {n : Nat} (h0 : 0 < n) : ∀ t ∈ r.args n, (0 : Int) ≤ t ∧ t < (n : Int) := by
  intro t ht
  have ha := Nat.mod_lt r.a h0
  have hb := Nat.mod_lt r.b h0
  unfold RawN.args at ht
  split at ht
  · simp only [List.mem_cons, List.not_mem_nil, or_false] at ht
    omega
  · simp only [List.mem_cons, List.not_mem_nil, or_false] at ht
    omega
theorem askP_room {room : Nat} {L : List PNode} {n : PNode} (hl : L.length < room) : (askP room L n).2.2 = 0 := by
  rcases askP_cases room L n (by omega) with ⟨t, e, -⟩ | ⟨-, -, e⟩ | ⟨-, h, -⟩
  · rw [e]
  · rw [e]
  · omega
/-- What is so of the nodes that are made. -/
structure RawOk (W : Nat) (k : Nat) (L : List PNode) : Prop where
  wf : WFL L
  good : GoodL W L
  vars : VarsLt 12 L
  len : L.length ≤ k
theorem RawOk.nil (W : Nat) : RawOk W 0 [] := ⟨WFL.nil, GoodL.nil W, fun n hn => (by cases hn), Nat.le_refl _⟩
theorem rawR_ok {W room k : Nat} {L : List PNode} (h : RawOk W k L) {r : RawN} (hr : r.Ok) (hW : W ≤ 64) (hk : k < room) : (rawR W room L r).2.2 = 0 ∧ RawOk W (k + 1) (rawR W room L r).1 ∧ 0 < (rawR W room L r).1.length := by
  have hlen := h.len
  have grow : ∀ n : PNode, NodeOk n → (∀ a ∈ n.2.2, (0 : Int) ≤ a ∧ a < (L.length : Int)) → (n.1 = 1 → n.2.1 < 12) → GoodL W (askP room L n).1 →
      (askP room L n).2.2 = 0 ∧ RawOk W (k + 1) (askP room L n).1 ∧ 0 < (askP room L n).1.length := fun n h1 h2 h3 h4 => by
    refine ⟨askP_room (by omega), ⟨askP_wf h.wf room h1 h2, h4, h.vars.ask room h3, by have := askP_len room L n; omega⟩, ?_⟩
    rcases askP_cases room L n (by omega) with ⟨t, e, ht⟩ | ⟨-, -, e⟩ | ⟨-, h, -⟩
    · rw [e]; exact Nat.lt_of_le_of_lt (Nat.zero_le _) (List.getElem?_eq_some_iff.1 ht).1
    · rw [e]; simp
    · omega
  have hp : 2 ^ W ≤ 2 ^ 64 := Nat.pow_le_pow_right (by decide) hW
  have hp0 : 0 < 2 ^ W := Nat.pos_of_ne_zero (by simp)
  unfold rawR
  split
  · have hm := Nat.mod_lt r.num hp0
    exact grow _ ⟨by show 0 ≤ 21; omega, by show r.num % 2 ^ W ≤ _; omega, rfl⟩ (fun a ha => (by cases ha)) (fun h => (by cases h)) (h.good.const room r.num)
  · rename_i h0
    split
    · have hm : r.a % 12 < 12 := Nat.mod_lt _ (by decide)
      have hg := h.good.var room ((r.a % 12 : Nat) : Int)
      unfold varR at hg ⊢
      rw [if_pos (by omega), Int.toNat_natCast] at hg ⊢
      exact grow _ ⟨by show 1 ≤ 21; omega, by show r.a % 12 ≤ _; omega, rfl⟩ (fun a ha => (by cases ha)) (fun _ => hm) hg
    · have h2 : 2 ≤ r.o ∧ r.o ≤ 20 := by unfold RawN.o; omega
      have hg := h.good.app room r.o (r.args L.length)
      have hl := raw_args_len r L.length
      have hin := raw_args_in r (n := L.length) (by omega)
      have hz : aryN r.o ≠ 0 := by unfold aryN; rw [if_neg (by omega)]; split <;> (try split) <;> omega
      unfold appR at hg ⊢
      rw [if_pos ⟨by omega, hz, hl.symm⟩, if_pos hin] at hg ⊢
      exact grow _ ⟨by show r.o ≤ 21; omega, by show 0 ≤ _; omega, hl⟩ hin (fun h => by have : r.o = 1 := h; omega) hg
theorem rawsL_ok {W room : Nat} (hW : W ≤ 64) {rs : List RawN} (h1 : ∀ r ∈ rs, r.Ok) (h2 : rs.length ≤ room) : ∀ k, k ≤ rs.length → RawOk W k (rawsL W room (rs.take k)) ∧ (0 < k → 0 < (rawsL W room (rs.take k)).length)
  | 0, _ => ⟨RawOk.nil W, fun h => by omega⟩
  | k + 1, hk => by
    have ih := (rawsL_ok hW h1 h2 k (by omega)).1
    have hr : rs[k]? = some rs[k] := List.getElem?_eq_getElem (by omega)
    have e : rs.take (k + 1) = rs.take k ++ [rs[k]] := by rw [List.take_add_one, hr]; rfl
    rw [e, rawsL_snoc]
    have h := rawR_ok (room := room) ih (h1 rs[k] (List.getElem_mem _)) hW (by omega)
    exact ⟨h.2.1, fun _ => h.2.2⟩
/-- The value with other values of the variables that occur. -/
theorem substR_valO {W room : Nat} {L L' : List PNode} {ps : List (Int × Int)} (h1 : 1 ≤ W) (hW : W ≤ 64) (hw : WFL L) (hg : GoodL W L) {t s : Nat} (ht : t < L.length) (h : SubOk L ps) (hR : substR W room L t ps = (L', s, 0)) {inner outer : List Int}
    (hv : ∀ i v, L[i]? = some (1, v, []) → occ L t i = true → val W inner L (subLf ps i (1, v, [])).toNat = val W outer L i) : val W inner L' s = val W outer L t := by
  rw [substR_in ht h] at hR
  by_cases he : (madeRun W room L (occ L t) (subLf ps) (t + 1)).2.2 = 0
  · have hi := made_inv (O := occ L t) hW hw hg (subLf_ok h) (t + 1) (by omega) he
    have hvs := made_vals (room := room) (O := occ L t) (lf := subLf ps) (vals := outer) (vals2 := inner) h1 hW hw hg (subLf_ok h) (occ_hO hw) (fun i n hn ho ha => ?_) (t + 1) (by omega) he t (by omega) (occ_top L t)
    · obtain ⟨q, e1, e2, e3⟩ := madeEnd_inv hi he
      rw [e1] at hR
      simp only [Prod.mk.injEq, and_true] at hR
      obtain ⟨rfl, rfl⟩ := hR
      rw [e3, Int.toNat_natCast] at hvs
      exact hvs
    · rcases hg n (List.mem_of_getElem? hn) with ⟨g1, g2, g3⟩ | ⟨g1, g2, g3⟩ | ⟨g1, g2, g3, g4⟩
      · unfold subLf
        rw [if_neg (by omega), Int.toNat_natCast, val_at hw hn, val_at hw hn, valN_const g1, valN_const g1]
      · obtain ⟨o, v, xs⟩ := n
        simp only at g1 g3
        subst g1; subst g3
        exact hv i v hn ho
      · rw [ha] at g4
        exact absurd g4 (aryN_pos g1)
  · unfold madeEnd at hR
    rw [if_neg he] at hR
    simp only [Prod.mk.injEq] at hR
    exact absurd hR.2.2 he
theorem val_var {W : Nat} {L : List PNode} {i v : Nat} {vals : List Int} (hw : WFL L) (hi : L[i]? = some (1, v, [])) : val W vals L i = (((valAt vals v).toNat % 2 ^ W : Nat) : Int) := by
  rw [val_at hw (vals := vals) hi]
  by_cases h : v < vals.length
  · rw [valN_var rfl h]; rfl
  · rw [valN_no rfl h]
    unfold valAt
    rw [List.getD_eq_getElem?_getD, List.getElem?_eq_none (by omega)]
    simp
/-- The variables that have a twin of their own, with the terms of these. -/
def twStep (room : Nat) (f : Int → Int) (s : List PNode × List Int × List Int) (n : Int) : List PNode × List Int × List Int :=
  if f n = n then s else ((varR room s.1 (f n)).1, s.2.1 ++ [n], s.2.2 ++ [((varR room s.1 (f n)).2.1 : Int)])
def twRun (room : Nat) (f : Int → Int) (L : List PNode) (all : List Int) : List PNode × List Int × List Int := all.foldl (twStep room f) (L, [], [])
theorem twRun_snoc (room : Nat) (f : Int → Int) (L : List PNode) (all : List Int) (n : Int) : twRun room f L (all ++ [n]) = twStep room f (twRun room f L all) n := by
  unfold twRun
  rw [List.foldl_append]
  rfl
structure TwInv (W : Nat) (f : Int → Int) (L0 : List PNode) (all : List Int) (s : List PNode × List Int × List Int) : Prop where
  pre : L0 <+: s.1
  wf : WFL s.1
  good : GoodL W s.1
  vs : s.2.1 = all.filter fun n => decide (f n ≠ n)
  us : s.2.2.length = s.2.1.length
  at_ : ∀ (j : Nat) (n : Int), s.2.1[j]? = some n → ∃ u : Nat, s.2.2[j]? = some (u : Int) ∧ s.1[u]? = some (1, (f n).toNat, [])
  len : s.1.length ≤ L0.length + all.length
theorem twStep_ok {W room : Nat} {f : Int → Int} {L0 : List PNode} {all : List Int} {s : List PNode × List Int × List Int} (h : TwInv W f L0 all s) {n : Int} (h0 : 0 ≤ f n) (h1 : f n ≤ 4194303) (hr : L0.length + all.length < room) :
    TwInv W f L0 (all ++ [n]) (twStep room f s n) ∧ (f n ≠ n → (varR room s.1 (f n)).2.2 = 0) := by
  have hlen := h.len
  by_cases e : f n = n
  · unfold twStep
    rw [if_pos e]
    refine ⟨⟨h.pre, h.wf, h.good, ?_, h.us, h.at_, by rw [List.length_append]; simp; omega⟩, fun h => absurd e h⟩
    rw [List.filter_append, ← h.vs, List.filter_cons_of_neg (by simp [e])]
    simp
  · have hg := h.good.var room (f n)
    have hv : varR room s.1 (f n) = askP room s.1 (1, (f n).toNat, []) := by unfold varR; rw [if_pos ⟨h0, h1⟩]
    rw [hv] at hg
    have hok : NodeOk (1, (f n).toNat, []) := ⟨by show 1 ≤ 21; omega, by show (f n).toNat ≤ _; omega, rfl⟩
    have hw := askP_wf h.wf room hok (fun a ha => (by cases ha))
    have hl2 := askP_len room s.1 (1, (f n).toNat, [])
    have hcase : ∃ t, (askP room s.1 (1, (f n).toNat, [])).2 = (t, 0) ∧ (askP room s.1 (1, (f n).toNat, [])).1[t]? = some (1, (f n).toNat, []) ∧ s.1 <+: (askP room s.1 (1, (f n).toNat, [])).1 := by
      rcases askP_cases room s.1 (1, (f n).toNat, []) (by omega) with ⟨t, e, ht⟩ | ⟨-, -, e⟩ | ⟨-, hx, -⟩
      · rw [e]; exact ⟨t, rfl, ht, List.prefix_refl _⟩
      · rw [e]; exact ⟨_, rfl, by rw [List.getElem?_append_right (Nat.le_refl _), Nat.sub_self]; rfl, List.prefix_append _ _⟩
      · omega
    obtain ⟨t, e2, e3, e4⟩ := hcase
    unfold twStep
    rw [if_neg e, hv, e2]
    refine ⟨⟨h.pre.trans e4, hw, hg, ?_, ?_, ?_, by rw [List.length_append]; simp; omega⟩, fun _ => rfl⟩
    · show s.2.1 ++ [n] = _
      rw [List.filter_append, ← h.vs, List.filter_cons_of_pos (by simp [e])]
      simp
    · show (s.2.2 ++ [((t : Nat) : Int)]).length = (s.2.1 ++ [n]).length
      rw [List.length_append, List.length_append, h.us]; rfl
    · intro j m hm
      show ∃ u : Nat, (s.2.2 ++ [((t : Nat) : Int)])[j]? = some (u : Int) ∧ _
      have hm' : (s.2.1 ++ [n])[j]? = some m := hm
      by_cases hj : j < s.2.1.length
      · rw [List.getElem?_append_left hj] at hm'
        obtain ⟨u, h1, h2⟩ := h.at_ j m hm'
        refine ⟨u, by rw [List.getElem?_append_left (by rw [h.us]; exact hj)]; exact h1, ?_⟩
        exact prefix_at e4 h2
      · have hj2 := (List.getElem?_eq_some_iff.1 hm').1
        rw [List.length_append, List.length_singleton] at hj2
        obtain rfl : j = s.2.1.length := by omega
        rw [List.getElem?_append_right (Nat.le_refl _), Nat.sub_self] at hm'
        simp only [List.getElem?_cons_zero, Option.some.injEq] at hm'
        subst hm'
        exact ⟨t, by rw [← h.us, List.getElem?_append_right (Nat.le_refl _), Nat.sub_self]; rfl, e3⟩
theorem twRun_ok {W room : Nat} {f : Int → Int} {L0 : List PNode} {all : List Int} (hw : WFL L0) (hg : GoodL W L0) (hf : ∀ n ∈ all, 0 ≤ f n ∧ f n ≤ 4194303) (hr : L0.length + all.length ≤ room) : ∀ k, k ≤ all.length → TwInv W f L0 (all.take k) (twRun room f L0 (all.take k))
  | 0, _ => ⟨List.prefix_refl _, hw, hg, rfl, rfl, fun j n h => by simp [twRun] at h, by simp [twRun]⟩
  | k + 1, hk => by
    have ih := twRun_ok hw hg hf hr k (by omega)
    have hn : all[k]? = some all[k] := List.getElem?_eq_getElem (by omega)
    have e : all.take (k + 1) = all.take k ++ [all[k]] := by rw [List.take_add_one, hn]; rfl
    rw [e, twRun_snoc]
    have hb := hf all[k] (List.getElem_mem _)
    exact (twStep_ok ih hb.1 hb.2 (by rw [List.length_take]; omega)).1
/-- The value of the term about the second valuation. -/
theorem tw_val {W room : Nat} {f : Int → Int} {L0 L1 L2 : List PNode} {all vs us : List Int} {t s : Nat} (h1 : 1 ≤ W) (hW : W ≤ 64) (hw0 : WFL L0) (h : TwInv W f L0 all (L1, vs, us)) (hn : all.Nodup) (ht : t < L0.length)
    (hall : ∀ (i v : Nat), L0[i]? = some (1, v, []) → occ L0 t i = true → (v : Int) ∈ all) (hR : substR W room L1 t (vs.zip us) = (L2, s, 0)) {inner outer : List Int} (hv : ∀ v : Nat, (v : Int) ∈ all → valAt outer v = valAt inner (f v).toNat) : val W inner L2 s = val W outer L0 t := by
  have hpre : L0 <+: L1 := h.pre
  have hvs : vs = all.filter fun n => decide (f n ≠ n) := h.vs
  have hus : us.length = vs.length := h.us
  have hnd : vs.Nodup := by rw [hvs]; exact hn.filter _
  have hterms : ∀ u ∈ us, (0 : Int) ≤ u ∧ u < (L1.length : Int) := fun u hu => by
    obtain ⟨j, hj⟩ := List.mem_iff_getElem?.1 hu
    have hlt := (List.getElem?_eq_some_iff.1 hj).1
    obtain ⟨x, hx, hx2⟩ := h.at_ j (vs[j]'(by omega)) (show vs[j]? = some (vs[j]'(by omega)) from List.getElem?_eq_getElem (by omega))
    have hx' : us[j]? = some (x : Int) := hx
    rw [hj] at hx'
    simp only [Option.some.injEq] at hx'
    subst hx'
    have := (List.getElem?_eq_some_iff.1 hx2).1
    have h2 : x < L1.length := this
    omega
  have hso : SubOk L1 (vs.zip us) := by
    refine ⟨?_, fun p hp => hterms p.2 (List.of_mem_zip hp).2⟩
    rw [List.map_fst_zip (by rw [hus]; exact Nat.le_refl _)]
    exact hnd
  have ht1 : t < L1.length := by have := hpre.length_le; omega
  rw [← val_prefix (W := W) (vals := outer) hpre ht]
  refine substR_valO h1 hW h.wf h.good ht1 hso hR fun i v hi hocc => ?_
  rw [occ_prefix hpre ht] at hocc
  have hi0 : i < L0.length := by have := occ_le hw0 hocc; omega
  have hi' : L0[i]? = some (1, v, []) := by
    obtain ⟨r, hr⟩ := hpre
    rw [← hr, List.getElem?_append_left hi0] at hi
    exact hi
  have hva := hall i v hi' hocc
  rw [val_var (vals := outer) h.wf hi, hv v hva]
  unfold subLf
  rw [if_pos rfl]
  show val W inner L1 ((subOf (vs.zip us) v).getD (i : Int)).toNat = _
  by_cases hf : f (v : Int) = (v : Int)
  · have hno : subOf (vs.zip us) v = none := by
      rw [subOf_none]
      intro s hm
      have := (List.of_mem_zip hm).1
      rw [hvs, List.mem_filter] at this
      simp [hf] at this
    rw [hno, hf]
    show val W inner L1 ((i : Int)).toNat = _
    rw [Int.toNat_natCast, val_var (vals := inner) h.wf hi, Int.toNat_natCast]
  · have hm : (v : Int) ∈ vs := by rw [hvs, List.mem_filter]; exact ⟨hva, by simp [hf]⟩
    obtain ⟨j, hj⟩ := List.mem_iff_getElem?.1 hm
    obtain ⟨u, hu, hu2⟩ := h.at_ j v hj
    have hmz : ((v : Int), (u : Int)) ∈ vs.zip us := List.mem_iff_getElem?.2 ⟨j, List.getElem?_zip_eq_some.2 ⟨hj, hu⟩⟩
    rw [mem_subOf hso.1 hmz]
    show val W inner L1 ((u : Int)).toNat = _
    rw [Int.toNat_natCast, val_var (vals := inner) h.wf hu2]
end Go.Proofs.YteamnchoddegpaaGreatDoor
namespace Go.Proofs.YteamnchoddegpaaGreatDoor
open Go.RowKit Go.Maps
set_option maxHeartbeats 3200000
theorem raw_of_cells {H : Type} {enc : TypeId × Value → H} {w : World} {fuel base : Nat} {held : Bool} {cs : List Value} {x : DataW H × List MemPlace}
    (h : DataW.trod enc Tryz.prog w base (fun _ => true) held fuel 53 cs = some x) :
    ∃ r : RawN, r.Ok ∧ cs = [.int .u8 r.kind, .int .u8 r.op, .int .u64 r.num, .int .u16 r.a, .int .u16 r.b] := by
  obtain ⟨ys, n, _, _, hl, hyl, hf⟩ := DataW.trod_struct Tryz.underlying53 h
  have h5 : Tryz.prog.cellsOf 53 = 5 := by kernel_rfl
  have hl5 : cs.length = 5 := hl.trans h5
  obtain ⟨c0, c1, c2, c3, c4, rfl⟩ := list5 cs hl5
  obtain ⟨y0, e0⟩ : ∃ y, ys[0]? = some y := ⟨_, List.getElem?_eq_getElem (by rw [hyl]; decide)⟩
  obtain ⟨y1, e1⟩ : ∃ y, ys[1]? = some y := ⟨_, List.getElem?_eq_getElem (by rw [hyl]; decide)⟩
  obtain ⟨y2, e2⟩ : ∃ y, ys[2]? = some y := ⟨_, List.getElem?_eq_getElem (by rw [hyl]; decide)⟩
  obtain ⟨y3, e3⟩ : ∃ y, ys[3]? = some y := ⟨_, List.getElem?_eq_getElem (by rw [hyl]; decide)⟩
  obtain ⟨y4, e4⟩ : ∃ y, ys[4]? = some y := ⟨_, List.getElem?_eq_getElem (by rw [hyl]; decide)⟩
  have q0 : Tryz.prog.cellsOf 5 = 1 := by kernel_rfl
  have q1 : Tryz.prog.cellsOf 43 = 1 := by kernel_rfl
  have q2 : Tryz.prog.cellsOf 51 = 1 := by kernel_rfl
  have g0 : DataW.trod enc Tryz.prog w base (fun _ => true) held n 5 (([c0, c1, c2, c3, c4].drop 0).take (Tryz.prog.cellsOf 5)) = ys[0]? := hf 0 _ rfl
  rw [q0, e0] at g0
  replace g0 : DataW.trod enc Tryz.prog w base (fun _ => true) held n 5 [c0] = some y0 := g0
  have g1 : DataW.trod enc Tryz.prog w base (fun _ => true) held n 5 (([c0, c1, c2, c3, c4].drop 1).take (Tryz.prog.cellsOf 5)) = ys[1]? := hf 1 _ rfl
  rw [q0, e1] at g1
  replace g1 : DataW.trod enc Tryz.prog w base (fun _ => true) held n 5 [c1] = some y1 := g1
  have g2 : DataW.trod enc Tryz.prog w base (fun _ => true) held n 43 (([c0, c1, c2, c3, c4].drop 2).take (Tryz.prog.cellsOf 43)) = ys[2]? := hf 2 _ rfl
  rw [q1, e2] at g2
  replace g2 : DataW.trod enc Tryz.prog w base (fun _ => true) held n 43 [c2] = some y2 := g2
  have g3 : DataW.trod enc Tryz.prog w base (fun _ => true) held n 51 (([c0, c1, c2, c3, c4].drop 3).take (Tryz.prog.cellsOf 51)) = ys[3]? := hf 3 _ rfl
  rw [q2, e3] at g3
  replace g3 : DataW.trod enc Tryz.prog w base (fun _ => true) held n 51 [c3] = some y3 := g3
  have g4 : DataW.trod enc Tryz.prog w base (fun _ => true) held n 51 (([c0, c1, c2, c3, c4].drop 4).take (Tryz.prog.cellsOf 51)) = ys[4]? := hf 4 _ rfl
  rw [q2, e4] at g4
  replace g4 : DataW.trod enc Tryz.prog w base (fun _ => true) held n 51 [c4] = some y4 := g4
  obtain ⟨n0, h0, _, w0⟩ := DataW.trod_int Tryz.underlying5 g0
  obtain ⟨n1, h1, _, w1⟩ := DataW.trod_int Tryz.underlying5 g1
  obtain ⟨n2, h2, _, w2⟩ := DataW.trod_int Tryz.underlying43 g2
  obtain ⟨n3, h3, _, w3⟩ := DataW.trod_int Tryz.underlying51 g3
  obtain ⟨n4, h4, _, w4⟩ := DataW.trod_int Tryz.underlying51 g4
  have b0 := Go.bounds_u8 w0; have b1 := Go.bounds_u8 w1; have b2 := Go.bounds_u64 w2; have b3 := Go.bounds_u16 w3; have b4 := Go.bounds_u16 w4
  obtain ⟨m0, rfl⟩ := Int.eq_ofNat_of_zero_le b0.1
  obtain ⟨m1, rfl⟩ := Int.eq_ofNat_of_zero_le b1.1
  obtain ⟨m2, rfl⟩ := Int.eq_ofNat_of_zero_le b2.1
  obtain ⟨m3, rfl⟩ := Int.eq_ofNat_of_zero_le b3.1
  obtain ⟨m4, rfl⟩ := Int.eq_ofNat_of_zero_le b4.1
  simp only [List.cons.injEq, and_true] at h0 h1 h2 h3 h4
  subst h0; subst h1; subst h2; subst h3; subst h4
  exact ⟨⟨m0, m1, m2, m3, m4⟩, ⟨by show m0 ≤ 255; omega, by show m1 ≤ 255; omega, by show m2 < 18446744073709551616; omega, by show m3 ≤ 65535; omega, by show m4 ≤ 65535; omega⟩, rfl⟩
/-- A list of raw nodes. -/
def RawsOf (w : World) (v : Value) (rs : List RawN) : Prop :=
  ∃ a n cap, v = .slice a n cap ∧ rs.length = n ∧ ∀ i, i < n → ∃ b off r, a = some ⟨b, off, none⟩ ∧ rs[i]? = some r ∧ r.Ok ∧
    w.cell? ⟨b, off + (i * 5 + 0), none⟩ = some (.int .u8 r.kind) ∧ w.cell? ⟨b, off + (i * 5 + 1), none⟩ = some (.int .u8 r.op) ∧ w.cell? ⟨b, off + (i * 5 + 2), none⟩ = some (.int .u64 r.num) ∧
    w.cell? ⟨b, off + (i * 5 + 3), none⟩ = some (.int .u16 r.a) ∧ w.cell? ⟨b, off + (i * 5 + 4), none⟩ = some (.int .u16 r.b)
theorem RawsOf.nil (w : World) : RawsOf w (.slice none 0 0) [] := ⟨_, _, _, rfl, rfl, fun i hi => by omega⟩
theorem RawsOf.later {w w' : World} {v : Value} {rs : List RawN} (h : RawsOf w v rs) (hb : Below w.heap.size w w') : RawsOf w' v rs := by
  obtain ⟨a, n, cap, rfl, hl, hc⟩ := h
  refine ⟨a, n, cap, rfl, hl, fun i hi => ?_⟩
  obtain ⟨b, off, r, rfl, hx, hok, c0, c1, c2, c3, c4⟩ := hc i hi
  exact ⟨b, off, r, rfl, hx, hok, cell_later hb c0, cell_later hb c1, cell_later hb c2, cell_later hb c3, cell_later hb c4⟩
/-- One of a list, as the walk reads it. -/
theorem RawsOf.at {w : World} {a : Option Addr} {n cap : Nat} {rs : List RawN} (h : RawsOf w (.slice a n cap) rs) {i : Nat} (hi : i < n) :
    ∃ b off r, a = some ⟨b, off, none⟩ ∧ rs[i]? = some r ∧ r.Ok ∧ w.cell? ⟨b, off + i * 5, none⟩ = some (.int .u8 r.kind) ∧ w.cell? ⟨b, off + i * 5 + 1, none⟩ = some (.int .u8 r.op) ∧ w.cell? ⟨b, off + i * 5 + 2, none⟩ = some (.int .u64 r.num) ∧
    w.cell? ⟨b, off + i * 5 + 3, none⟩ = some (.int .u16 r.a) ∧ w.cell? ⟨b, off + i * 5 + 4, none⟩ = some (.int .u16 r.b) := by
  obtain ⟨a', n', c', e, hl, hc⟩ := h
  simp only [Value.slice.injEq] at e
  obtain ⟨rfl, rfl, rfl⟩ := e
  obtain ⟨b, off, r, rfl, hx, hok, c⟩ := hc i hi
  simp only [Nat.add_zero, ← Nat.add_assoc] at c
  exact ⟨b, off, r, rfl, hx, hok, c⟩
theorem RawsOf.ok {w : World} {v : Value} {rs : List RawN} (h : RawsOf w v rs) : ∀ r ∈ rs, r.Ok := fun r hr => by
  obtain ⟨a, n, cap, rfl, hl, hc⟩ := h
  obtain ⟨i, hi⟩ := List.mem_iff_getElem?.1 hr
  obtain ⟨b, off, r', -, hx, hok, -⟩ := hc i (by have := (List.getElem?_eq_some_iff.1 hi).1; omega)
  rw [hi] at hx
  cases hx
  exact hok
set_option maxRecDepth 100000 in
/-- What a law's frame tells of such a list. -/
theorem raws_of_trod {H : Type} {enc : TypeId × Value → H} {w : World} {base : Nat} {v : Value} {d : DataW H} {p : List MemPlace}
    (h : DataW.Trod enc Tryz.prog w 0 (fun _ => true) true 22 v d p) (o : Value.okWide Tryz.prog w .any base 22 v) :
    ∃ rs, RawsOf w v rs := by
  have h5 : Tryz.prog.cellsOf 53 = 5 := by kernel_rfl
  rcases slice_of_trod Tryz.underlying22 h o with rfl | ⟨ad, n, cap, fu, elems, rfl, hl, hm, hlen, hel⟩
  · exact ⟨[], RawsOf.nil w⟩
  · clear h o
    have hspot : 0 < n → ad.spot = none := by
      intro h0
      have he := hel 0 h0
      rw [h5, List.getElem?_eq_getElem (by omega)] at he
      obtain ⟨cs, hc, ht⟩ := Option.bind_eq_some_iff.1 he
      obtain ⟨x, hx, rfl⟩ := raw_of_cells ht
      obtain ⟨_, _, hat⟩ := World.cells?_some hc
      have t0 := hat 0 (by decide)
      simpa [Addr.add] using World.cell?_spot t0
    have each : ∀ i, i < n → ∃ r : RawN, ∃ b off, (ad : Addr) = ⟨b, off, none⟩ ∧ r.Ok ∧
        w.cell? ⟨b, off + (i * 5 + 0), none⟩ = some (.int .u8 r.kind) ∧ w.cell? ⟨b, off + (i * 5 + 1), none⟩ = some (.int .u8 r.op) ∧ w.cell? ⟨b, off + (i * 5 + 2), none⟩ = some (.int .u64 r.num) ∧
        w.cell? ⟨b, off + (i * 5 + 3), none⟩ = some (.int .u16 r.a) ∧ w.cell? ⟨b, off + (i * 5 + 4), none⟩ = some (.int .u16 r.b) := by
      intro i hi
      have he := hel i hi
      rw [h5, List.getElem?_eq_getElem (by omega)] at he
      obtain ⟨cs, hc, ht⟩ := Option.bind_eq_some_iff.1 he
      obtain ⟨x, hx, rfl⟩ := raw_of_cells ht
      obtain ⟨_, _, hat⟩ := World.cells?_some hc
      have t0 := hat 0 (by decide); have t1 := hat 1 (by decide); have t2 := hat 2 (by decide); have t3 := hat 3 (by decide); have t4 := hat 4 (by decide)
      have hsp := hspot (by omega)
      obtain ⟨b, off, spot⟩ := ad
      simp only at hsp
      subst hsp
      simp only [Go.WideShapes.add_plain, List.getElem?_cons_zero, List.getElem?_cons_succ, Nat.add_assoc] at t0 t1 t2 t3 t4
      exact ⟨x, b, off, rfl, hx, t0, t1, t2, t3, t4⟩
    obtain ⟨rs, hq, hp⟩ := list_of_each n each
    refine ⟨rs, some ad, n, cap, rfl, hq, fun i hi => ?_⟩
    obtain ⟨x, hx, b, off, hab, r⟩ := hp i hi
    exact ⟨b, off, x, by rw [hab], hx, r⟩
end Go.Proofs.YteamnchoddegpaaGreatDoor
namespace Go.Proofs.YteamnchoddegpaaGreatDoor
open Go.RowKit Go.Maps
set_option maxHeartbeats 3200000
/-- What Term's function value holds by reference. -/
def twK (p5 p6 p7 p8 gb lb : Nat) (level : Int) (chv : Value) : Thing := Thing.bundle [Thing.box p5 32 #[.pointer (some ⟨gb, 0, none⟩)], Thing.box p6 28 #[.pointer (some ⟨lb, 0, none⟩)], Thing.box p7 3 #[.int .i64 level], Thing.box p8 24 #[chv]]
structure TwC (p5 p6 p7 p8 gb lb : Nat) (level : Int) (chv : Value) (w : World) : Prop where
  c5 : w.cell? ⟨p5, 0, none⟩ = some (.pointer (some ⟨gb, 0, none⟩))
  c6 : w.cell? ⟨p6, 0, none⟩ = some (.pointer (some ⟨lb, 0, none⟩))
  c7 : w.cell? ⟨p7, 0, none⟩ = some (.int .i64 level)
  c8 : w.cell? ⟨p8, 0, none⟩ = some chv
theorem twK_cells {p5 p6 p7 p8 gb lb : Nat} {level : Int} {chv : Value} {w : World} (h : (twK p5 p6 p7 p8 gb lb level chv).holds w) : TwC p5 p6 p7 p8 gb lb level chv w := by
  have g : ∀ b T x, Thing.box b T #[x] ∈ [Thing.box p5 32 #[.pointer (some ⟨gb, 0, none⟩)], Thing.box p6 28 #[.pointer (some ⟨lb, 0, none⟩)], Thing.box p7 3 #[.int .i64 level], Thing.box p8 24 #[chv]] → w.cell? ⟨b, 0, none⟩ = some x := fun b T x hm => by
    rw [cell_of_row w b 0 _ _ _ (h.1 _ hm)]; rfl
  exact ⟨g p5 32 _ (by simp), g p6 28 _ (by simp), g p7 3 _ (by simp), g p8 24 _ (by simp)⟩
theorem TwC.later {p5 p6 p7 p8 gb lb : Nat} {level : Int} {chv : Value} {w w' : World} (h : TwC p5 p6 p7 p8 gb lb level chv w) (hb : Below w.heap.size w w') : TwC p5 p6 p7 p8 gb lb level chv w' :=
  ⟨cell_later hb h.c5, cell_later hb h.c6, cell_later hb h.c7, cell_later hb h.c8⟩
section
variable {w0 wq wr w' : World} {ts : List Thing} {F I : List Nat} {gb W room lb nl p5 p6 p7 p8 : Nat} {L : List PNode} {R : Rel} {level : Int} {chv : Value} {ls : List Int}
theorem tw_boxes (h : Lab w0 wq ts) (gb lb : Nat) (level : Int) (chv : Value) :
    Lab w0 ((((wq.alloc (.cells #[.pointer (some ⟨gb, 0, none⟩)] 32)).alloc (.cells #[.pointer (some ⟨lb, 0, none⟩)] 28)).alloc (.cells #[.int .i64 level] 3)).alloc (.cells #[chv] 24))
      (twK wq.heap.size (wq.heap.size + 1) (wq.heap.size + 2) (wq.heap.size + 3) gb lb level chv :: ts) := by
  have h4 := (((h.alloc #[.pointer (some ⟨gb, 0, none⟩)] 32).alloc #[.pointer (some ⟨lb, 0, none⟩)] 28).alloc #[.int .i64 level] 3).alloc #[chv] 24
  simp only [World.size_alloc, Nat.add_assoc, Nat.reduceAdd] at h4
  exact Lab.bundle (fs := [_, _, _, _]) h4.swap.rot3.rot4
/-- The function value: the variable of the twin. -/
theorem Lab.twfn (h : Lab w0 wq (Thing.graph F I gb W room L :: twK p5 p6 p7 p8 gb lb level chv :: ts)) (hlat : LatIs w0 lb nl R) (hch : SliceOf w0 .i64 chv ls) (hl : 1 ≤ ls.length) (hl2 : ls.length ≤ 32) (m : Int) (hm : 0 ≤ m) (hm2 : m < 1000000000) :
    Calls Tryz.prog 36 #[.int .i64 m, .pointer (some ⟨p5, 0, none⟩), .pointer (some ⟨p6, 0, none⟩), .pointer (some ⟨p7, 0, none⟩), .pointer (some ⟨p8, 0, none⟩)] wq fun e w' =>
      ∃ F' I', e = .returned (.tuple #[.int .i64 (varR room L (ofR nl R level ls m)).2.1, .int .i64 (varR room L (ofR nl R level ls m)).2.2]) ∧ Lab w0 w' (Thing.graph F' I' gb W room (varR room L (ofR nl R level ls m)).1 :: twK p5 p6 p7 p8 gb lb level chv :: ts) := by
  have h1 := h.drew1
  have hof := twof_any (hlat.later h1.below) level (hch.later h1.below) hl hl2 m hm hm2
  have hc := twK_cells h1.second
  obtain ⟨q, hq⟩ : ∃ q, ofR nl R level ls m = q := ⟨_, rfl⟩
  rw [hq] at hof ⊢
  have hv := var_any h1.gr q
  obtain ⟨ao, no, co, rfl, -, -⟩ := hch.parts
  obtain ⟨d5, d6, d7, d8⟩ := hc
  obtain ⟨e5, e6, e7, e8⟩ := twK_cells h.second
  have HOF := Lib.hid hof; have HV := Lib.hid hv; have HL := Lib.hid h1
  clear h h1 hof hv hlat hch hq
  go_enter Tryz.func36, Tryz.ntmps36
  go_upto_region 1 with fail
  go_region_held3 (fun w' => w'.cell? ⟨p5, 0, none⟩ = some (.pointer (some ⟨gb, 0, none⟩)) ∧ w'.cell? ⟨p6, 0, none⟩ = some (.pointer (some ⟨lb, 0, none⟩)) ∧ w'.cell? ⟨p7, 0, none⟩ = some (.int .i64 level) ∧ w'.cell? ⟨p8, 0, none⟩ = some (.slice ao no co)) (first | exact ⟨by assumption, by assumption, by assumption, by assumption⟩ | go_keep)
    (first | (go_at_call 37; refine HOF.out.mono ?_; rintro e w5 ⟨rfl, rfl⟩) | (go_at_call 30; refine HV.out.mono ?_; intro e w5 hp; obtain ⟨F2, I2, rfl, hl2⟩ := HL.out.gpost hp; obtain ⟨g5, g6, g7, g8⟩ := twK_cells hl2.second; have HL2 := Lib.hid hl2; clear hl2 hp))
  all_goals
    go_wp2
    go_ret2
    exact ⟨_, _, rfl, HL2.out⟩
theorem tw_sub {f : Int → Int} {L1 : List PNode} {all vs us : List Int} {t : Nat} (hW : W ≤ 64) (h : TwInv W f L all (L1, vs, us)) (hn : all.Nodup) (ht : t < L.length) (hr : L1.length + (t + 1) ≤ room) :
    ∃ L2 s, subst2R W room L1 (t : Int) vs us = (L2, s, 0) ∧ substR W room L1 t (vs.zip us) = (L2, s, 0) ∧ WFL L2 ∧ GoodL W L2 ∧ L1 <+: L2 ∧ s < L2.length := by
  have hvs : vs = all.filter fun n => decide (f n ≠ n) := h.vs
  have hus : us.length = vs.length := h.us
  have hpre : L <+: L1 := h.pre
  have hnd : vs.Nodup := by rw [hvs]; exact hn.filter _
  have hterms : ∀ u ∈ us, (0 : Int) ≤ u ∧ u < (L1.length : Int) := fun u hu => by
    obtain ⟨j, hj⟩ := List.mem_iff_getElem?.1 hu
    have hlt := (List.getElem?_eq_some_iff.1 hj).1
    obtain ⟨x, hx, hx2⟩ := h.at_ j (vs[j]'(by omega)) (show vs[j]? = some (vs[j]'(by omega)) from List.getElem?_eq_getElem (by omega))
    have hx' : us[j]? = some (x : Int) := hx
    rw [hj] at hx'
    simp only [Option.some.injEq] at hx'
    subst hx'
    have := (List.getElem?_eq_some_iff.1 hx2).1
    have h2 : x < L1.length := this
    omega
  have hso : SubOk L1 (vs.zip us) := by
    refine ⟨?_, fun p hp => hterms p.2 (List.of_mem_zip hp).2⟩
    rw [List.map_fst_zip (by rw [hus]; exact Nat.le_refl _)]
    exact hnd
  have ht1 : t < L1.length := by have := hpre.length_le; omega
  obtain ⟨L2, s, h2, h3, h4, h5, -, h7⟩ := substR_ok (room := room) hW h.wf h.good ht1 hso hr
  exact ⟨L2, s, by unfold subst2R; rw [if_pos (by omega), if_pos hus.symm, h2], h2, h3, h4, h5, h7⟩
theorem InL_one {t : Nat} (ht : t < L.length) : InL L [(t : Int)] := fun x hx => by
  simp only [List.mem_cons, List.not_mem_nil, or_false] at hx
  omega
theorem ofR_bound {v : Int} (h0 : 0 ≤ v) (h1 : v ≤ 4194302) : 0 ≤ ofR nl R level ls v ∧ ofR nl R level ls v ≤ 4194303 := by
  rcases ofR_or nl R level ls v with h | h <;> omega
set_option maxRecDepth 100000 in
theorem Lab.term_ok (h : Lab w0 wq (Thing.graph F I gb W room L :: ts)) (hlat : LatIs w0 lb nl R) (hch : SliceOf w0 .i64 chv ls) (hm : mayE nl level ls = 0) (hg : GoodL W L) {t : Nat} (ht : t < L.length)
    (hev : ∀ v ∈ varsO L (occS L [(t : Int)]), v % 2 = 0 ∧ v ≤ 4194302) (hroom : 3 * L.length ≤ room) (hL : L.length ≤ 100000) :
    Calls Tryz.prog 10 #[.pointer (some ⟨gb, 0, none⟩), .pointer (some ⟨lb, 0, none⟩), .int .i64 level, chv, .int .i64 t] wq fun e w' =>
      ∃ L2 s F2 I2, e = .returned (.tuple #[.int .i64 ((s : Nat) : Int), .int .i64 0]) ∧ Lab w0 w' (Thing.graph F2 I2 gb W room L2 :: ts) ∧ WFL L2 ∧ GoodL W L2 ∧ L <+: L2 ∧ s < L2.length ∧
        ∀ inner outer, (∀ v : Nat, (v : Int) ∈ varsO L (occS L [(t : Int)]) → valAt outer v = valAt inner (ofR nl R level ls v).toNat) → val W inner L2 s = val W outer L t := by
  have hwf := h.gr.wf
  have hW1 := h.gr.w1
  have hW2 := h.gr.w2
  have hml := may_len hm
  obtain ⟨all, hall⟩ : ∃ all, varsO L (occS L [(t : Int)]) = all := ⟨_, rfl⟩
  have hin := InL_one (L := L) ht
  have hpos : ∀ v ∈ all, 0 ≤ v := fun v hv => by
    rw [← hall, mem_varsO] at hv
    obtain ⟨j, n, -, -, -, e⟩ := hv
    omega
  have halln : all.length ≤ L.length := by rw [← hall]; exact varsO_len
  have hnd : all.Nodup := by rw [← hall]; exact varsO_nodup hwf
  have hocc : ∀ (i v : Nat), L[i]? = some (1, v, []) → occ L t i = true → (v : Int) ∈ all := fun i v hi ho => by
    rw [← hall, mem_varsO]
    exact ⟨i, (1, v, []), by rw [occS_one hwf ht i (List.getElem?_eq_some_iff.1 hi).1]; exact ho, hi, rfl, rfl⟩
  rw [hall] at hev ⊢
  obtain ⟨f, hf⟩ : ∃ f : Int → Int, (fun v => ofR nl R level ls v) = f := ⟨_, rfl⟩
  have hfv : ∀ v, ofR nl R level ls v = f v := fun v => by rw [← hf]
  have hfb : ∀ n ∈ all, 0 ≤ f n ∧ f n ≤ 4194303 := fun n hn => by rw [← hfv]; exact ofR_bound (hpos n hn) (hev n hn).2
  have hrun := twRun_ok (room := room) hwf hg hfb (by omega)
  have hend : TwInv W f L all (twRun room f L all) := by have := hrun all.length (Nat.le_refl _); rwa [List.take_length] at this
  simp only [hfv]
  have HALL := Lib.hid hall
  have hb0 := tw_boxes h gb lb level chv
  obtain ⟨p, hp⟩ : ∃ p, wq.heap.size = p := ⟨_, rfl⟩
  rw [hp] at hb0
  obtain ⟨ao, no, co, rfl, hno, -⟩ := hch.parts
  have HB := Lib.hid hb0; have HLC := Lib.hid (And.intro hlat hch); have HM := Lib.hid hm; have HG := Lib.hid hg; have HIN := Lib.hid hin; have HEV := Lib.hid (And.intro hev hpos); have HRUN := Lib.hid hrun; have HEND := Lib.hid hend; have HFV := Lib.hid hfv; have HFB := Lib.hid hfb
  have HPL := Lib.hid (And.intro hnd (And.intro hocc (And.intro hwf (And.intro hW1 hW2)))); have HML := Lib.hid hml; have HN := Lib.hid halln
  clear h hb0 hlat hch hm hg hin hev hpos hrun hend hfv hfb hf hnd hocc hwf hW1 hW2 hml hall halln hno
  go_enter Tryz.func10, Tryz.ntmps10
  go_upto_region 1 with fail
  go_step3
  simp only [hp, Nat.add_assoc, Nat.reduceAdd]
  refine wp_abs (fun wx => Lab w0 wx (twK p (p + 1) (p + 2) (p + 3) gb lb level (.slice ao no co) :: Thing.graph F I gb W room L :: ts)) HB.out ?_
  rintro w1 hl1
  obtain ⟨d5, d6, d7, d8⟩ := twK_cells hl1.head
  have hmay := may_any (HLC.out.1.later hl1.below) level (HLC.out.2.later hl1.below)
  rw [HM.out] at hmay
  have hl2 := hl1.alloc #[.int .i64 (t : Int)] 3
  have hv := hl2.rot3.vars HG.out (.slice (some ⟨w1.heap.size, 0, none⟩) 1 1) [(t : Int)] (slice_of_box (xs := [(t : Int)]) hl2.box1) (by simp)
  have HMAY := Lib.hid hmay; have HV := Lib.hid hv
  clear hl1 hl2 hmay hv HB hp
  go_wp2_with fail
  go_at_call 34
  refine HMAY.out.mono ?_
  rintro e w2 ⟨rfl, rfl⟩
  go_wp2_with fail
  go_at_call 35
  refine HV.out.mono ?_
  rintro e w3 ⟨h1, -⟩
  obtain ⟨a3, c3, rfl, hl3⟩ := h1 HIN.out
  rw [HALL.out] at hl3 ⊢
  obtain ⟨n, hn⟩ : ∃ n, all.length = n := ⟨_, rfl⟩
  have hn9 : n ≤ 100000 := by have := HN.out; omega
  rw [hn] at hl3 ⊢
  have hall : ∀ k, k < n → ∃ b q : Nat, a3 = some ⟨b, 0, none⟩ ∧ all[k]? = some (q : Int) ∧ w3.cell? ⟨b, k, none⟩ = some (.int .i64 (q : Int)) ∧ ((q : Int) % 2 == 1) = false ∧ ¬ (4194302 : Int) < (q : Int) := fun k hk => by
    have hs : SliceOf w3 .i64 (.slice a3 n c3) all := OwnInts.slice hl3.ints
    obtain ⟨b, off, x, e1, e2, e3⟩ := hs.parts' hk
    have hx0 := HEV.out.2 x (List.mem_of_getElem? e3)
    have hx1 := HEV.out.1 x (List.mem_of_getElem? e3)
    obtain ⟨q, rfl⟩ := Int.eq_ofNat_of_zero_le hx0
    obtain ⟨g, cap, e4⟩ := own_some' hl3.ints (by intro e; rw [e] at hn; simp at hn; omega)
    simp only [Value.slice.injEq] at e4
    rw [e1] at e4
    simp only [Option.some.injEq, Addr.mk.injEq, and_true] at e4
    obtain ⟨⟨rfl, rfl⟩, -⟩ := e4
    rw [Nat.zero_add] at e2
    exact ⟨b, q, e1, e3, e2, by rw [beq_eq_false_iff_ne]; omega, by omega⟩
  obtain ⟨e5, e6, e7, e8⟩ := twK_cells hl3.fourth
  have HL3 := Lib.hid hl3; have HA3 := Lib.hid hall; have HNN := Lib.hid hn
  clear h1 hl3 hall hn HV HMAY d5 d6 d7 d8
  go_wp2
  go_loopw [45] (fun v wx => ∃ k : Nat, k ≤ n ∧ v = .int .i64 k ∧ w3 = wx) (fun v _ => n - (intOf v).toNat)
  case atStart => exact ⟨0, by omega, rfl, rfl⟩
  case round =>
    obtain ⟨k, hk, rfl, rfl⟩ := hrel
    by_cases hlt : k < n
    · have hlt' : (k : Int) < (n : Int) := by omega
      have k0 : (0 : Int) ≤ (k : Int) := by omega
      obtain ⟨b, q, rfl, -, c1, q1, q2⟩ := HA3.out k hlt
      go_wp2
      refine ⟨⟨k + 1, by omega, by go_num, by first | rfl | trivial⟩, ?_⟩
      simp [intOf]; omega
    · obtain rfl : k = n := by omega
      have hl4 := HL3.out.rot3.drop
      have hl5 := (hl4.numsK_none (k := .i64) (E := 3)).numsK_none (k := .i64) (E := 3)
      have H5 := Lib.hid hl5
      clear hl4 hl5 HL3 HA3 e5 e6 e7 e8
      go_wp2
      go_step3
      go_wp2
      go_loopw [18, 19, 60] (fun v18 v19 v60 wx => ∃ j : Nat, j ≤ k ∧ v60 = .int .i64 j ∧ ∃ av cv au cu L1 vs us F I, twRun room f L (all.take j) = (L1, vs, us) ∧ v18 = .slice av vs.length cv ∧ v19 = .slice au us.length cu ∧
        Lab w0 wx (Thing.numsK .i64 3 (.slice av vs.length cv) vs :: Thing.numsK .i64 3 (.slice au us.length cu) us :: Thing.ints (.slice a3 k c3) all :: Thing.graph F I gb W room L1 :: twK p (p + 1) (p + 2) (p + 3) gb lb level (.slice ao no co) :: ts)) (fun _ _ v60 _ => k - (intOf v60).toNat)
      case atStart => exact ⟨0, by omega, rfl, none, 0, none, 0, L, [], [], F, I, rfl, rfl, rfl, H5.out⟩
      case round =>
        clear H5
        obtain ⟨j, hj, rfl, av, cv, au, cu, L1, vs, us, F, I, hrn, rfl, rfl, hl⟩ := hrel
        by_cases hlj : j < k
        · have hlj' : (j : Int) < (k : Int) := by omega
          have j0 : (0 : Int) ≤ (j : Int) := by omega
          obtain ⟨b, off, x, rfl, hc, hx⟩ := (OwnInts.slice hl.ints3).parts' hlj
          have hx0 := HEV.out.2 x (List.mem_of_getElem? hx)
          have hx1 := (HEV.out.1 x (List.mem_of_getElem? hx)).2
          have hfb := HFB.out x (List.mem_of_getElem? hx)
          have htk : all.take (j + 1) = all.take j ++ [x] := by rw [List.take_add_one, hx]; rfl
          have hnx : twRun room f L (all.take (j + 1)) = twStep room f (L1, vs, us) x := by rw [htk, twRun_snoc, hrn]
          have hinv := HRUN.out j (by have := HNN.out; omega)
          rw [hrn] at hinv
          have hst := twStep_ok (room := room) hinv hfb.1 hfb.2 (by rw [List.length_take]; have := HNN.out; have := HN.out; omega)
          have hof := twof_any (HLC.out.1.later hl.below) level (HLC.out.2.later hl.below) HML.out.1 HML.out.2.1 x hx0 (by omega)
          rw [HFV.out] at hof
          obtain ⟨d5, d6, d7, d8⟩ := twK_cells hl.fifth
          obtain ⟨y, hy⟩ : ∃ y, f x = y := ⟨_, rfl⟩
          have HOF := Lib.hid hof; have HL := Lib.hid hl; have HNX := Lib.hid hnx; have HST := Lib.hid hst; have HX := Lib.hid (And.intro hx0 (And.intro hx1 hfb)); have HRN := Lib.hid hrn
          have HY := Lib.hid hy
          have HVL := Lib.hid (show vs.length ≤ 100000 ∧ us.length ≤ 100000 by
            have h1 : vs = (all.take j).filter fun n => decide (f n ≠ n) := hinv.vs
            have h2 : us.length = vs.length := hinv.us
            have h3 := List.length_filter_le (fun n => decide (f n ≠ n)) (all.take j)
            rw [← h1, List.length_take] at h3
            omega)
          rw [hy] at HOF
          clear hl hx hx0 hx1 hfb htk hnx hinv hst hof hrn hy
          by_cases hxy : y = x
          · have HXY := Lib.hid hxy
            subst hxy
            go_wp2_with (go_at_call 37; refine HOF.out.mono ?_; rintro e w5 ⟨rfl, rfl⟩)
            refine ⟨⟨j + 1, by omega, by go_num, av, cv, au, cu, L1, vs, us, F, I, ?_, rfl, rfl, HL.out⟩, ?_⟩
            · rw [HNX.out]
              unfold twStep
              rw [if_pos HY.out]
            · simp [intOf]; omega
          · have hne : (y == x) = false := by rw [beq_eq_false_iff_ne]; exact hxy
            have hfn := HL.out.rot5.rot5.twfn HLC.out.1 HLC.out.2 (level := level) HML.out.1 HML.out.2.1 x HX.out.1 (by have := HX.out.2.1; omega)
            rw [HFV.out, HY.out] at hfn
            have he := HST.out.2 (by rw [HY.out]; exact hxy)
            rw [HY.out] at he
            have hnx := HNX.out
            unfold twStep at hnx
            rw [HY.out, if_neg hxy] at hnx
            obtain ⟨R3, hR3⟩ : ∃ R3, varR room L1 y = R3 := ⟨_, rfl⟩
            have he' : (varR room L1 y).2.2 = 0 := he
            rw [hR3] at he'
            have hnx' : twRun room f L (all.take (j + 1)) = (R3.1, vs ++ [x], us ++ [(R3.2.1 : Int)]) := by rw [hnx, ← hR3]
            rw [hR3] at hfn
            obtain ⟨L3, u, e3⟩ := R3
            simp only at he' hnx' hfn
            subst he'
            have HFN := Lib.hid hfn; have HNY := Lib.hid hnx'
            clear hfn he hnx hR3 hnx' hxy
            go_wp2_with fail
            go_at_call 37
            refine HOF.out.mono ?_
            rintro e w5 ⟨rfl, rfl⟩
            go_wp2_with fail
            go_at_call 36
            refine HFN.out.mono ?_
            rintro e w5 ⟨F5, I5, rfl, hl5⟩
            have hl6 := hl5.rot3
            have hl7 := hl6
            obtain ⟨a6, c6, w6, hr6, hl8⟩ := Lab.append1 (m := vs.length) 24 24 8 x rfl hl6 Tryz.underlying24 Tryz.infoI64 (by decide) (by have := HVL.out; omega)
            obtain ⟨a7, c7, w7, hr7, hl9⟩ := Lab.append1 (m := us.length) 24 24 8 (u : Int) rfl hl8.rot4 Tryz.underlying24 Tryz.infoI64 (by decide) (by have := HVL.out; omega)
            have HR6 := Lib.hid hr6; have HR7 := Lib.hid hr7; have HL9 := Lib.hid hl9
            clear hl5 hl6 hl7 hr6 hl8 hr7 hl9 HL
            go_wp2_with (first
              | (at_builtin; refine Lib.wpList_append_run _ rfl _ _ 24 24 rfl _ _ rfl rfl _ _ HR6.out ?_)
              | (at_builtin; refine Lib.wpList_append_run _ rfl _ _ 24 24 rfl _ _ rfl rfl _ _ HR7.out ?_))
            refine ⟨⟨j + 1, by omega, by go_num, a6, c6, a7, c7, L3, vs ++ [x], us ++ [(u : Int)], F5, I5, HNY.out, by rw [List.length_append]; rfl, by rw [List.length_append]; rfl, ?_⟩, ?_⟩
            · rw [List.length_append, List.length_append]
              exact HL9.out.swap.rot5.rot3.rot3
            · simp [intOf]; omega
        · obtain rfl : j = k := by omega
          rw [List.take_of_length_le (by rw [HNN.out]; exact Nat.le_refl _)] at hrn
          have hend := HEND.out
          rw [hrn] at hend
          have hlen1 : L1.length ≤ L.length + all.length := hend.len
          obtain ⟨L2, s, q1, q2, q3, q4, q5, q6⟩ := tw_sub (room := room) HPL.out.2.2.2.2 hend HPL.out.1 ht (by have := HN.out; omega)
          have hvs : vs = all.filter fun n => decide (f n ≠ n) := hend.vs
          have hus : us.length = vs.length := hend.us
          have hvl := List.length_filter_le (fun n => decide (f n ≠ n)) all
          rw [← hvs] at hvl
          have hg1 : GoodL W L1 := hend.good
          have hsub := Lab.subst hl.rot4 (t : Int) _ _ vs us (OwnInts.slice hl.rot4.second) (OwnInts.slice hl.rot4.third) hg1 (fun v hv => wf_i64 (by rw [hvs] at hv; have := HEV.out.2 v (List.mem_filter.1 hv).1; omega) (by rw [hvs] at hv; have := HEV.out.1 v (List.mem_filter.1 hv).1; omega)) (by have := HNN.out; omega) (by have := HNN.out; omega) q1
          have hval : ∀ inner outer, (∀ v : Nat, (v : Int) ∈ all → valAt outer v = valAt inner (f (v : Int)).toNat) → val W inner L2 s = val W outer L t := fun inner outer hv => tw_val HPL.out.2.2.2.1 HPL.out.2.2.2.2 HPL.out.2.2.1 hend HPL.out.1 ht HPL.out.2.1 q2 hv
          have hpre2 : L <+: L2 := List.IsPrefix.trans hend.pre q5
          obtain ⟨d5, d6, d7, d8⟩ := twK_cells hl.fifth
          have HSUB := Lib.hid hsub; have HFIN := Lib.hid (And.intro q3 (And.intro q4 (And.intro hpre2 (And.intro q6 hval))))
          clear hl hrn hend hlen1 q1 q2 q3 q4 q5 q6 hvs hus hvl hg1 hsub hval hpre2
          go_wp2_with fail
          go_at_call 38
          refine HSUB.out.mono ?_
          rintro e w5 ⟨F5, I5, rfl, hl5⟩
          have HL5 := Lib.hid hl5
          clear hl5
          go_wp2
          rw [Exit.noGoto_ret]
          go_ret2
          exact ⟨L2, s, F5, I5, rfl, HL5.out.swap.drop.swap.drop.swap.drop.swap.drop, HFIN.out.1, HFIN.out.2.1, HFIN.out.2.2.1, HFIN.out.2.2.2.1, HFIN.out.2.2.2.2⟩
set_option maxRecDepth 100000 in
theorem Lab.term_may (h : Lab w0 wq (Thing.graph F I gb W room L :: ts)) (hlat : LatIs w0 lb nl R) (hch : SliceOf w0 .i64 chv ls) (hm : mayE nl level ls ≠ 0) (t : Int) :
    Calls Tryz.prog 10 #[.pointer (some ⟨gb, 0, none⟩), .pointer (some ⟨lb, 0, none⟩), .int .i64 level, chv, .int .i64 t] wq fun e w' => e = .returned (.tuple #[.int .i64 0, .int .i64 3]) ∧ Lab w0 w' (Thing.graph F I gb W room L :: ts) := by
  have HLC := Lib.hid (And.intro hlat hch)
  have hb0 := tw_boxes h gb lb level chv
  obtain ⟨p, hp⟩ : ∃ p, wq.heap.size = p := ⟨_, rfl⟩
  rw [hp] at hb0
  obtain ⟨ao, no, co, rfl, -, -⟩ := hch.parts
  have HB := Lib.hid hb0
  have hm3 := (may_cases nl level ls).resolve_left hm
  have HM := Lib.hid hm3
  clear h hb0 hlat hch hm hm3
  go_enter Tryz.func10, Tryz.ntmps10
  go_upto_region 1 with fail
  go_step3
  simp only [hp, Nat.add_assoc, Nat.reduceAdd]
  refine wp_abs (fun wx => Lab w0 wx (twK p (p + 1) (p + 2) (p + 3) gb lb level (.slice ao no co) :: Thing.graph F I gb W room L :: ts)) HB.out ?_
  rintro w1 hl1
  obtain ⟨d5, d6, d7, d8⟩ := twK_cells hl1.head
  have hmay := may_any (HLC.out.1.later hl1.below) level (HLC.out.2.later hl1.below)
  rw [HM.out] at hmay
  have HMAY := Lib.hid hmay; have HL1 := Lib.hid hl1
  clear hl1 hmay HB hp
  go_wp2_with fail
  go_at_call 34
  refine HMAY.out.mono ?_
  rintro e w2 ⟨rfl, rfl⟩
  go_wp2
  rw [Exit.noGoto_ret]
  go_ret2
  exact ⟨rfl, HL1.out.drop⟩
set_option maxRecDepth 100000 in
theorem Lab.term_out (h : Lab w0 wq (Thing.graph F I gb W room L :: ts)) (hlat : LatIs w0 lb nl R) (hch : SliceOf w0 .i64 chv ls) (hm : mayE nl level ls = 0) (hg : GoodL W L) (t : Int) (ht : ¬ InL L [t]) :
    Calls Tryz.prog 10 #[.pointer (some ⟨gb, 0, none⟩), .pointer (some ⟨lb, 0, none⟩), .int .i64 level, chv, .int .i64 t] wq fun e w' => e = .returned (.tuple #[.int .i64 0, .int .i64 3]) ∧ Lab w0 w' (Thing.graph F I gb W room L :: ts) := by
  have HLC := Lib.hid (And.intro hlat hch)
  have hb0 := tw_boxes h gb lb level chv
  obtain ⟨p, hp⟩ : ∃ p, wq.heap.size = p := ⟨_, rfl⟩
  rw [hp] at hb0
  obtain ⟨ao, no, co, rfl, -, -⟩ := hch.parts
  have HB := Lib.hid hb0
  have HM := Lib.hid hm; have HG := Lib.hid hg; have HT := Lib.hid ht
  clear h hb0 hlat hch hm hg ht
  go_enter Tryz.func10, Tryz.ntmps10
  go_upto_region 1 with fail
  go_step3
  simp only [hp, Nat.add_assoc, Nat.reduceAdd]
  refine wp_abs (fun wx => Lab w0 wx (twK p (p + 1) (p + 2) (p + 3) gb lb level (.slice ao no co) :: Thing.graph F I gb W room L :: ts)) HB.out ?_
  rintro w1 hl1
  obtain ⟨d5, d6, d7, d8⟩ := twK_cells hl1.head
  have hmay := may_any (HLC.out.1.later hl1.below) level (HLC.out.2.later hl1.below)
  rw [HM.out] at hmay
  have hl2 := hl1.alloc #[.int .i64 t] 3
  have hv := hl2.rot3.vars HG.out (.slice (some ⟨w1.heap.size, 0, none⟩) 1 1) [t] (slice_of_box (xs := [t]) hl2.box1) (by simp)
  have HMAY := Lib.hid hmay; have HV := Lib.hid hv; have HL2 := Lib.hid hl2
  clear hl1 hl2 hmay hv HB hp
  go_wp2_with fail
  go_at_call 34
  refine HMAY.out.mono ?_
  rintro e w2 ⟨rfl, rfl⟩
  go_wp2_with fail
  go_at_call 35
  refine HV.out.mono ?_
  rintro e w3 ⟨-, h2⟩
  obtain ⟨rfl, rfl⟩ := h2 HT.out
  clear HV
  go_wp2
  rw [Exit.noGoto_ret]
  go_ret2
  exact ⟨rfl, HL2.out.drop.drop⟩
set_option maxRecDepth 100000 in
theorem Lab.term_odd (h : Lab w0 wq (Thing.graph F I gb W room L :: ts)) (hlat : LatIs w0 lb nl R) (hch : SliceOf w0 .i64 chv ls) (hm : mayE nl level ls = 0) (hg : GoodL W L) (t : Int) (ht : InL L [t]) (hodd : ¬ ∀ v ∈ varsO L (occS L [t]), v % 2 = 0 ∧ v ≤ 4194302) (hL : L.length ≤ 100000) :
    Calls Tryz.prog 10 #[.pointer (some ⟨gb, 0, none⟩), .pointer (some ⟨lb, 0, none⟩), .int .i64 level, chv, .int .i64 t] wq fun e w' => e = .returned (.tuple #[.int .i64 0, .int .i64 2]) ∧ Lab w0 w' (Thing.graph F I gb W room L :: ts) := by
  have HLC := Lib.hid (And.intro hlat hch)
  have hb0 := tw_boxes h gb lb level chv
  obtain ⟨p, hp⟩ : ∃ p, wq.heap.size = p := ⟨_, rfl⟩
  rw [hp] at hb0
  obtain ⟨ao, no, co, rfl, -, -⟩ := hch.parts
  have HB := Lib.hid hb0
  obtain ⟨all, hall⟩ : ∃ all, varsO L (occS L [t]) = all := ⟨_, rfl⟩
  have hpos : ∀ v ∈ all, 0 ≤ v := fun v hv => by
    rw [← hall, mem_varsO] at hv
    obtain ⟨j, n, -, -, -, e⟩ := hv
    omega
  have halln : all.length ≤ L.length := by rw [← hall]; exact varsO_len
  rw [hall] at hodd
  have HM := Lib.hid hm; have HG := Lib.hid hg; have HT := Lib.hid ht; have HALL := Lib.hid hall; have HOD := Lib.hid (And.intro hodd (And.intro hpos halln))
  clear h hb0 hlat hch hm hg ht hodd hall hpos halln
  go_enter Tryz.func10, Tryz.ntmps10
  go_upto_region 1 with fail
  go_step3
  simp only [hp, Nat.add_assoc, Nat.reduceAdd]
  refine wp_abs (fun wx => Lab w0 wx (twK p (p + 1) (p + 2) (p + 3) gb lb level (.slice ao no co) :: Thing.graph F I gb W room L :: ts)) HB.out ?_
  rintro w1 hl1
  obtain ⟨d5, d6, d7, d8⟩ := twK_cells hl1.head
  have hmay := may_any (HLC.out.1.later hl1.below) level (HLC.out.2.later hl1.below)
  rw [HM.out] at hmay
  have hl2 := hl1.alloc #[.int .i64 t] 3
  have hv := hl2.rot3.vars HG.out (.slice (some ⟨w1.heap.size, 0, none⟩) 1 1) [t] (slice_of_box (xs := [t]) hl2.box1) (by simp)
  have HMAY := Lib.hid hmay; have HV := Lib.hid hv
  clear hl1 hl2 hmay hv HB hp
  go_wp2_with fail
  go_at_call 34
  refine HMAY.out.mono ?_
  rintro e w2 ⟨rfl, rfl⟩
  go_wp2_with fail
  go_at_call 35
  refine HV.out.mono ?_
  rintro e w3 ⟨h1, -⟩
  obtain ⟨a3, c3, rfl, hl3⟩ := h1 HT.out
  rw [HALL.out] at hl3 ⊢
  obtain ⟨n, hn⟩ : ∃ n, all.length = n := ⟨_, rfl⟩
  have hn9 : n ≤ 100000 := by have := HOD.out.2.2; omega
  rw [hn] at hl3 ⊢
  have HL3 := Lib.hid hl3; have HNN := Lib.hid hn
  clear h1 hl3 hn HV HMAY
  go_wp2
  go_loopw [45] (fun v wx => ∃ k : Nat, k ≤ n ∧ v = .int .i64 k ∧ w3 = wx ∧ ∀ v ∈ all.take k, v % 2 = 0 ∧ v ≤ 4194302) (fun v _ => n - (intOf v).toNat)
  case atStart => exact ⟨0, by omega, rfl, rfl, by simp⟩
  case round =>
    obtain ⟨k, hk, rfl, rfl, hev⟩ := hrel
    by_cases hlt : k < n
    · have hlt' : (k : Int) < (n : Int) := by omega
      have k0 : (0 : Int) ≤ (k : Int) := by omega
      obtain ⟨b, off, x, rfl, c1, e3⟩ := (OwnInts.slice HL3.out.ints).parts' hlt
      have hx0 := HOD.out.2.1 x (List.mem_of_getElem? e3)
      obtain ⟨q, rfl⟩ := Int.eq_ofNat_of_zero_le hx0
      have htk : all.take (k + 1) = all.take k ++ [(q : Int)] := by rw [List.take_add_one, e3]; rfl
      by_cases ho : (q : Int) % 2 = 1
      · have q1 : ((q : Int) % 2 == 1) = true := by rw [beq_iff_eq]; exact ho
        clear hev htk e3 hx0 ho
        go_wp2
        rw [Exit.noGoto_ret]
        go_ret2
        exact ⟨rfl, HL3.out.drop.swap.drop.swap.drop⟩
      · have q1 : ((q : Int) % 2 == 1) = false := by rw [beq_eq_false_iff_ne]; exact ho
        by_cases hbig : (4194302 : Int) < (q : Int)
        · clear hev htk e3 hx0 ho
          go_wp2
          rw [Exit.noGoto_ret]
          go_ret2
          exact ⟨rfl, HL3.out.drop.swap.drop.swap.drop⟩
        · have HEV := Lib.hid (show ∀ v ∈ all.take (k + 1), v % 2 = 0 ∧ v ≤ 4194302 from fun v hv => by
            rw [htk, List.mem_append, List.mem_singleton] at hv
            rcases hv with hv | rfl
            · exact hev v hv
            · omega)
          clear hev htk e3 hx0 ho
          go_wp2
          refine ⟨⟨k + 1, by omega, by go_num, by first | rfl | trivial, HEV.out⟩, ?_⟩
          simp [intOf]; omega
    · obtain rfl : k = n := by omega
      rw [List.take_of_length_le (by rw [HNN.out]; exact Nat.le_refl _)] at hev
      exact absurd hev HOD.out.1
end
end Go.Proofs.YteamnchoddegpaaGreatDoor
