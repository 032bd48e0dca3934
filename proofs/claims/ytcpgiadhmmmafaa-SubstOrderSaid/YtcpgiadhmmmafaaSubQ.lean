/- SubstOrder. SubstOrder: the walk. -/
import Derived.Test.YtcpgiadhmmmafaaSubJ
import Derived.BigRegion
import Derived.Deep.Upon
namespace Go.Proofs.Ytcpgiadhmmmafaa
open Go.RowKit Go.Maps
set_option maxHeartbeats 3200000

section
variable {w0 wc wr w' : World} {ts : List Thing} {F I : List Nat} {gb W room : Nat} {L : List PNode}
theorem Lab.ints_cap {a : Option Addr} {m c : Nat} {xs : List Int} (h : Lab w0 wr (Thing.ints (.slice a m c) xs :: ts)) : m ≤ c ∧ m = xs.length := by
  rcases h.ints.2 with ⟨h1, h2⟩ | ⟨g, cap, cur, h1, -, -, h2, -⟩
  · simp only [Value.slice.injEq] at h1; omega
  · simp only [Value.slice.injEq] at h1; omega
theorem SliceOf.dropAt {w : World} {k : IntKind} {b off n cap : Nat} {xs : List Int} (h : SliceOf w k (.slice (some ⟨b, off, none⟩) n cap) xs) (m cap' : Nat) (hm : m ≤ n) : SliceOf w k (.slice (some ⟨b, off + m, none⟩) (n - m) cap') (xs.drop m) := by
  obtain ⟨a', n', c', e, hl, hc⟩ := h.parts
  simp only [Value.slice.injEq] at e
  obtain ⟨rfl, rfl, rfl⟩ := e
  refine ⟨_, _, cap', rfl, by rw [List.length_drop]; omega, fun i hi => ?_⟩
  obtain ⟨b', off', q, e', hq, hx⟩ := hc (m + i) (by omega)
  simp only [Option.some.injEq, Addr.mk.injEq, and_true] at e'
  obtain ⟨rfl, rfl⟩ := e'
  refine ⟨_, _, rfl, ?_⟩
  rw [Nat.add_assoc, hq, List.getD_eq_getElem?_getD, List.getElem?_drop, hx]; rfl
theorem SliceOf.drop0 {w : World} {k : IntKind} {b n cap : Nat} {xs : List Int} (h : SliceOf w k (.slice (some ⟨b, 0, none⟩) n cap) xs) (m cap' : Nat) (hm : m ≤ n) : SliceOf w k (.slice (some ⟨b, m, none⟩) (n - m) cap') (xs.drop m) := by
  have := h.dropAt m cap' hm
  rwa [Nat.zero_add] at this
/-- A part of a list is appended to an own list, at a step of a drawn region. -/
theorem step_append_part {ops : Array Oper} {o : Oper} {a : Act} {K : Act → World → Prop} {Q : Exit → Act → World → Prop} {E0 : Prop} {ao : Option Addr} {c n r : Nat} {xs ys : List Int} {sa : Option Addr} {m sc : Nat} (s x : Operand)
    (h : Lab w0 wr (Thing.ints (.slice ao n c) xs :: ts)) (hsl : SliceOf wr .i64 (.slice sa m sc) ys) (hgd : o.guard = none) (ho : o.op = .call { callee := .builtin .append, args := #[s, x], argTypes := #[33, 33] })
    (hs : a.eval s = .slice ao n c) (hx : a.eval x = .slice sa m sc) (hn : n + m ≤ 1000000000) (hr0 : r = n + m)
    (hK : ∀ a' c' w', Lab w0 w' (Thing.ints (.slice a' r c') (xs ++ ys) :: ts) → K (a.put o.dst (.slice a' r c')) w') :
    if Region.wanted o (yielded ops a.tmps) = true then Oper.wp Try.prog o a wr K Q else E0 := by
  have hw : Region.wanted o (yielded ops a.tmps) = true := by simp [Region.wanted, hgd]
  rw [if_pos hw]
  obtain ⟨hcap, rfl⟩ := h.ints_cap
  obtain rfl : m = ys.length := by
    obtain ⟨_, _, _, e, hl, -⟩ := hsl.parts
    simp only [Value.slice.injEq] at e
    omega
  subst hr0
  by_cases hy : ys = []
  · subst hy
    obtain ⟨i0, hi0, hz0, hz1, hz2⟩ := info_parts Try.infoI64
    obtain ⟨a2, c2, hxv, -, -⟩ := hsl.src
    have hrun := run_append_nothing (P := Try.prog) wr 33 33 o.type 3 i0 Try.underlying33 hi0 ao xs.length c hcap (.slice sa 0 sc) (by cases sa with | none => exact Src.ofNil wr Try.underlying33 sc | some ad => exact Src.ofSlice wr Try.underlying33 ad 0 sc [] (by simp) (by simp) (by simp))
    unfold Oper.wp execOp
    rw [List.length_nil] at hx
    simp only [ho, resolve, invoke, builtin, Sem.run_bind, Sem.run_pure, Result.andThen_ok, List.map_toArray, List.map_cons, List.map_nil, hs, hx, hrun]
    have := hK ao c wr (by rw [List.append_nil]; exact h)
    exact this
  · have hown : wr.ownsRow 0 3 1 (.slice ao xs.length c) xs.length (xs.map (Value.int .i64)) := h.ints
    have h1 : ∀ u ∈ ys.map (Value.int .i64), u.oneCell' = true := fun u hu => by
      obtain ⟨y, _, rfl⟩ := List.mem_map.1 hu
      rfl
    obtain ⟨v', w', hr, h2, h3⟩ := run_append_src (P := Try.prog) wr 0 33 o.type 3 1 8 (.int .i64 0) Try.underlying33 Try.infoI64 rfl (by decide) (by decide) _ (.slice sa ys.length sc) xs.length ys.length _ _ hown hsl.src h1 hn (Nat.zero_le _)
    have hpos : 0 < ys.length := List.length_pos_iff.2 hy
    have blk := append_block (P := Try.prog) (T := 33) (ty := o.type) (bytes := 8) (z := .int .i64 0) Try.underlying33 Try.infoI64 (by decide) hown hsl.src h1 hpos hn hr
    obtain ⟨a', c', rfl⟩ : ∃ a' c', v' = .slice a' (xs.length + ys.length) c' := by
      rcases h2.2 with ⟨_, h0⟩ | ⟨g, cap, cur, rfl, _⟩
      · omega
      · exact ⟨_, _, rfl⟩
    unfold Oper.wp execOp
    simp only [ho, resolve, invoke, builtin, Sem.run_bind, Sem.run_pure, Result.andThen_ok, List.map_toArray, List.map_cons, List.map_nil, hs, hx, hr]
    refine hK a' c' w' ?_
    have hown2 : OwnInts w' 0 3 .i64 (.slice a' (xs.length + ys.length) c') (xs ++ ys) := by
      unfold OwnInts
      rw [List.length_append, List.map_append]
      exact h2
    refine h.turn (s' := Thing.ints (.slice a' (xs.length + ys.length) c') (xs ++ ys)) ⟨h3.os, h3.tape, h3.output, h3.size, fun b hb hn => h3.block b hb (fun e => hn (by simp [Thing.ints, Thing.row, ← e]))⟩ hown2 (fun k hk => ?_) (fun k hk => by simp [Thing.ints, Thing.row] at hk) (fun k hk => ?_)
    · have hk' : (Value.slice a' (xs.length + ys.length) c').ownBlock = some k := by simpa [Thing.ints, Thing.row] using hk
      exact (blk k hk').imp (fun e => by simp [Thing.ints, Thing.row, e]) id
    · rcases hk with hk | hk
      · exact (World.ownsRow.lt hown2 k (by simpa [Thing.ints, Thing.row] using hk)).2
      · simp [Thing.ints, Thing.row] at hk
end
end Go.Proofs.Ytcpgiadhmmmafaa
namespace Go.Proofs.Ytcpgiadhmmmafaa
open Go.RowKit Go.Maps
set_option maxHeartbeats 3200000

noncomputable def orderRegion (id : Nat) : Code := (Try.f10.body.bind (regionIn id)).getD .skip
section
variable {w0 wr w' : World} {ts : List Thing} {F I : List Nat} {gb W room : Nat} {L : List PNode}
set_option maxRecDepth 100000 in
theorem order_region11 {u0 u1 u3 u5 u6 u7 u8 u9 u10 u12 u18 u19 u20 u21 u22 u23 u24 u25 u26 u27 u28 u29 u30 u31 u32 u33 u34 u35 u36 u37 u38 u39 u40 u41 u42 u43 u44 u45 u46 u47 u48 u49 u50 u51 u52 u53 u54 u55 u56 u57 u58 u59 u60 u61 u62 u63 u64 u65 u66 u67 u68 u69 u70 u71 u72 u73 u74 u75 u76 u77 u78 u79 u80 u81 u82 u83 u84 u85 u86 u87 u88 u89 u90 u91 u92 u93 u94 u95 u96 u97 u98 u99 u100 u101 u102 u103 u104 u105 u106 u107 u108 u109 u110 u111 u112 u113 u114 u115 u116 u117 u118 u119 u120 u121 u122 u123 u124 u125 u126 u127 u128 u129 u130 u131 u132 u133 u134 u135 u136 u137 u138 u139 u140 u141 u142 u143 : Value} {Q : Exit → Act → World → Prop} {x2 x4 x11 x14 x15 x16 : Value} {vs : List Int} {b c n k : Nat} (h : Lab w0 wr (Thing.ints (.slice (some ⟨b, 0, none⟩) n c) vs :: ts)) (hn1 : n ≤ 100) (hk : k < n)
    (hQ : ∀ v63 v64 v65 v66 v67 v68 v69 v70 (a1 : Option Addr) (c1 : Nat) w3, Lab w0 w3 (Thing.ints (.slice a1 n c1) (vs.drop k ++ vs.take k) :: ts) →
      Q .normal ⟨(List.toArray (u0 :: u1 :: x2 :: u3 :: x4 :: u5 :: u6 :: u7 :: u8 :: u9 :: u10 :: x11 :: u12 :: .slice a1 n c1 :: x14 :: x15 :: x16 :: .int .i64 k :: u18 :: u19 :: u20 :: u21 :: u22 :: u23 :: u24 :: u25 :: u26 :: u27 :: u28 :: u29 :: u30 :: u31 :: u32 :: u33 :: u34 :: u35 :: u36 :: u37 :: u38 :: u39 :: u40 :: u41 :: u42 :: u43 :: u44 :: u45 :: u46 :: u47 :: u48 :: u49 :: u50 :: u51 :: u52 :: u53 :: u54 :: u55 :: u56 :: u57 :: u58 :: u59 :: u60 :: u61 :: u62 :: v63 :: v64 :: v65 :: v66 :: v67 :: v68 :: v69 :: v70 :: u71 :: u72 :: u73 :: u74 :: u75 :: u76 :: u77 :: u78 :: u79 :: u80 :: u81 :: u82 :: u83 :: u84 :: u85 :: u86 :: u87 :: u88 :: u89 :: u90 :: u91 :: u92 :: u93 :: u94 :: u95 :: u96 :: u97 :: u98 :: u99 :: u100 :: u101 :: u102 :: u103 :: u104 :: u105 :: u106 :: u107 :: u108 :: u109 :: u110 :: u111 :: u112 :: u113 :: u114 :: u115 :: u116 :: u117 :: u118 :: u119 :: u120 :: u121 :: u122 :: u123 :: u124 :: u125 :: u126 :: u127 :: u128 :: u129 :: u130 :: u131 :: u132 :: u133 :: u134 :: u135 :: u136 :: u137 :: u138 :: u139 :: u140 :: u141 :: u142 :: u143 :: [])), []⟩ w3) :
    Code.wp Try.prog (orderRegion 11) Q ⟨(List.toArray (u0 :: u1 :: x2 :: u3 :: x4 :: u5 :: u6 :: u7 :: u8 :: u9 :: u10 :: x11 :: u12 :: .slice (some ⟨b, 0, none⟩) n c :: x14 :: x15 :: x16 :: .int .i64 k :: u18 :: u19 :: u20 :: u21 :: u22 :: u23 :: u24 :: u25 :: u26 :: u27 :: u28 :: u29 :: u30 :: u31 :: u32 :: u33 :: u34 :: u35 :: u36 :: u37 :: u38 :: u39 :: u40 :: u41 :: u42 :: u43 :: u44 :: u45 :: u46 :: u47 :: u48 :: u49 :: u50 :: u51 :: u52 :: u53 :: u54 :: u55 :: u56 :: u57 :: u58 :: u59 :: u60 :: u61 :: u62 :: u63 :: u64 :: u65 :: u66 :: u67 :: u68 :: u69 :: u70 :: u71 :: u72 :: u73 :: u74 :: u75 :: u76 :: u77 :: u78 :: u79 :: u80 :: u81 :: u82 :: u83 :: u84 :: u85 :: u86 :: u87 :: u88 :: u89 :: u90 :: u91 :: u92 :: u93 :: u94 :: u95 :: u96 :: u97 :: u98 :: u99 :: u100 :: u101 :: u102 :: u103 :: u104 :: u105 :: u106 :: u107 :: u108 :: u109 :: u110 :: u111 :: u112 :: u113 :: u114 :: u115 :: u116 :: u117 :: u118 :: u119 :: u120 :: u121 :: u122 :: u123 :: u124 :: u125 :: u126 :: u127 :: u128 :: u129 :: u130 :: u131 :: u132 :: u133 :: u134 :: u135 :: u136 :: u137 :: u138 :: u139 :: u140 :: u141 :: u142 :: u143 :: [])), []⟩ wr := by
  have k0 : (0 : Int) ≤ (k : Int) := by omega
  have kn : (k : Int) ≤ (n : Int) := by omega
  obtain ⟨nc, hn⟩ := h.ints_cap
  have nc' : (n : Int) ≤ (c : Int) := by omega
  have kc : (k : Int) ≤ (c : Int) := by omega
  have hck : ¬ c = k := by omega
  have HL := Lib.hid (h.nil_ints); have HQ := Lib.hid hQ
  clear h hQ hn nc
  conv => arg 2; whnf
  go_region_held3 (fun w' => True) (first | trivial | go_keep)
    (first
      | (refine step_append_part (.const (.slice none 0 0)) (.tmp 65) HL.out.drew1 ((OwnInts.slice (HL.out.drew1).second).drop0 k _ (by omega)) rfl rfl rfl rfl (by omega) (r := n - k) (by omega) ?_; intro a1 c1 w1 hp1)
      | (refine step_append_part (.tmp 66) (.tmp 69) hp1 ((OwnInts.slice hp1.second).take k _ (by omega)) rfl rfl rfl rfl (by omega) (r := n) (by omega) ?_; intro a2 c2 w2 hp2))
  all_goals exact HQ.out _ _ _ _ _ _ _ _ _ _ _ hp2.swap.drop
set_option maxRecDepth 100000 in
theorem order_region12 {u0 u1 u3 u5 u6 u7 u8 u9 u10 u12 u18 u19 u20 u21 u22 u23 u24 u25 u26 u27 u28 u29 u30 u31 u32 u33 u34 u35 u36 u37 u38 u39 u40 u41 u42 u43 u44 u45 u46 u47 u48 u49 u50 u51 u52 u53 u54 u55 u56 u57 u58 u59 u60 u61 u62 u63 u64 u65 u66 u67 u68 u69 u70 u71 u72 u73 u74 u75 u76 u77 u78 u79 u80 u81 u82 u83 u84 u85 u86 u87 u88 u89 u90 u91 u92 u93 u94 u95 u96 u97 u98 u99 u100 u101 u102 u103 u104 u105 u106 u107 u108 u109 u110 u111 u112 u113 u114 u115 u116 u117 u118 u119 u120 u121 u122 u123 u124 u125 u126 u127 u128 u129 u130 u131 u132 u133 u134 u135 u136 u137 u138 u139 u140 u141 u142 u143 : Value} {Q : Exit → Act → World → Prop} {x2 x4 x11 x13 x15 x16 : Value} {vs : List Int} {b c n k : Nat} (h : Lab w0 wr (Thing.ints (.slice (some ⟨b, 0, none⟩) n c) vs :: ts)) (hn1 : n ≤ 100) (hk : k < n)
    (hQ : ∀ v63 v64 v65 v66 v67 v68 v69 v70 (a1 : Option Addr) (c1 : Nat) w3, Lab w0 w3 (Thing.ints (.slice a1 n c1) (vs.drop k ++ vs.take k) :: ts) →
      Q .normal ⟨(List.toArray (u0 :: u1 :: x2 :: u3 :: x4 :: u5 :: u6 :: u7 :: u8 :: u9 :: u10 :: x11 :: u12 :: x13 :: .slice a1 n c1 :: x15 :: x16 :: .int .i64 k :: u18 :: u19 :: u20 :: u21 :: u22 :: u23 :: u24 :: u25 :: u26 :: u27 :: u28 :: u29 :: u30 :: u31 :: u32 :: u33 :: u34 :: u35 :: u36 :: u37 :: u38 :: u39 :: u40 :: u41 :: u42 :: u43 :: u44 :: u45 :: u46 :: u47 :: u48 :: u49 :: u50 :: u51 :: u52 :: u53 :: u54 :: u55 :: u56 :: u57 :: u58 :: u59 :: u60 :: u61 :: u62 :: u63 :: u64 :: u65 :: u66 :: u67 :: u68 :: u69 :: u70 :: v63 :: v64 :: v65 :: v66 :: v67 :: v68 :: v69 :: v70 :: u79 :: u80 :: u81 :: u82 :: u83 :: u84 :: u85 :: u86 :: u87 :: u88 :: u89 :: u90 :: u91 :: u92 :: u93 :: u94 :: u95 :: u96 :: u97 :: u98 :: u99 :: u100 :: u101 :: u102 :: u103 :: u104 :: u105 :: u106 :: u107 :: u108 :: u109 :: u110 :: u111 :: u112 :: u113 :: u114 :: u115 :: u116 :: u117 :: u118 :: u119 :: u120 :: u121 :: u122 :: u123 :: u124 :: u125 :: u126 :: u127 :: u128 :: u129 :: u130 :: u131 :: u132 :: u133 :: u134 :: u135 :: u136 :: u137 :: u138 :: u139 :: u140 :: u141 :: u142 :: u143 :: [])), []⟩ w3) :
    Code.wp Try.prog (orderRegion 12) Q ⟨(List.toArray (u0 :: u1 :: x2 :: u3 :: x4 :: u5 :: u6 :: u7 :: u8 :: u9 :: u10 :: x11 :: u12 :: x13 :: .slice (some ⟨b, 0, none⟩) n c :: x15 :: x16 :: .int .i64 k :: u18 :: u19 :: u20 :: u21 :: u22 :: u23 :: u24 :: u25 :: u26 :: u27 :: u28 :: u29 :: u30 :: u31 :: u32 :: u33 :: u34 :: u35 :: u36 :: u37 :: u38 :: u39 :: u40 :: u41 :: u42 :: u43 :: u44 :: u45 :: u46 :: u47 :: u48 :: u49 :: u50 :: u51 :: u52 :: u53 :: u54 :: u55 :: u56 :: u57 :: u58 :: u59 :: u60 :: u61 :: u62 :: u63 :: u64 :: u65 :: u66 :: u67 :: u68 :: u69 :: u70 :: u71 :: u72 :: u73 :: u74 :: u75 :: u76 :: u77 :: u78 :: u79 :: u80 :: u81 :: u82 :: u83 :: u84 :: u85 :: u86 :: u87 :: u88 :: u89 :: u90 :: u91 :: u92 :: u93 :: u94 :: u95 :: u96 :: u97 :: u98 :: u99 :: u100 :: u101 :: u102 :: u103 :: u104 :: u105 :: u106 :: u107 :: u108 :: u109 :: u110 :: u111 :: u112 :: u113 :: u114 :: u115 :: u116 :: u117 :: u118 :: u119 :: u120 :: u121 :: u122 :: u123 :: u124 :: u125 :: u126 :: u127 :: u128 :: u129 :: u130 :: u131 :: u132 :: u133 :: u134 :: u135 :: u136 :: u137 :: u138 :: u139 :: u140 :: u141 :: u142 :: u143 :: [])), []⟩ wr := by
  have k0 : (0 : Int) ≤ (k : Int) := by omega
  have kn : (k : Int) ≤ (n : Int) := by omega
  obtain ⟨nc, hn⟩ := h.ints_cap
  have nc' : (n : Int) ≤ (c : Int) := by omega
  have kc : (k : Int) ≤ (c : Int) := by omega
  have hck : ¬ c = k := by omega
  have HL := Lib.hid (h.nil_ints); have HQ := Lib.hid hQ
  clear h hQ hn nc
  conv => arg 2; whnf
  go_region_held3 (fun w' => True) (first | trivial | go_keep)
    (first
      | (refine step_append_part (.const (.slice none 0 0)) (.tmp 73) HL.out.drew1 ((OwnInts.slice (HL.out.drew1).second).drop0 k _ (by omega)) rfl rfl rfl rfl (by omega) (r := n - k) (by omega) ?_; intro a1 c1 w1 hp1)
      | (refine step_append_part (.tmp 74) (.tmp 77) hp1 ((OwnInts.slice hp1.second).take k _ (by omega)) rfl rfl rfl rfl (by omega) (r := n) (by omega) ?_; intro a2 c2 w2 hp2))
  all_goals exact HQ.out _ _ _ _ _ _ _ _ _ _ _ hp2.swap.drop
end
end Go.Proofs.Ytcpgiadhmmmafaa
namespace Go.Proofs.Ytcpgiadhmmmafaa
open Go.RowKit Go.Maps
def swapL (xs : List Int) (i j : Nat) : List Int := (xs.set i (xs[j]?.getD 0)).set j (xs[i]?.getD 0)
theorem swapL_len (xs : List Int) (i j : Nat) : (swapL xs i j).length = xs.length := by unfold swapL; rw [List.length_set, List.length_set]
theorem zip_set13 : ∀ (a b : List Int) (i : Nat) (x y : Int), (a.set i x).zip (b.set i y) = (a.zip b).set i (x, y)
  | [], _, _, _, _ => by simp
  | _ :: _, [], i, _, _ => by cases i <;> simp
  | _ :: _, _ :: _, 0, _, _ => rfl
  | a :: l, b :: m, i + 1, x, y => by simp [zip_set13 l m i x y]
theorem swap_perm {vs us : List Int} {i j : Nat} (hl : vs.length = us.length) (hi : i < vs.length) (hj : j < vs.length) : ((swapL vs i j).zip (swapL us i j)).Perm (vs.zip us) := by
  have hz : (vs.zip us).length = vs.length := by simp [hl]
  have e1 : ∀ k, k < vs.length → ∀ (h : k < (vs.zip us).length), (vs[k]?.getD 0, us[k]?.getD 0) = (vs.zip us)[k] := fun k hk h => by
    rw [List.getElem?_eq_getElem hk, List.getElem?_eq_getElem (by omega)]; simp
  unfold swapL
  rw [zip_set13, zip_set13, e1 j hj (by omega), e1 i hi (by omega)]
  exact List.set_set_perm (by omega) (by omega)
theorem rot_perm {vs us : List Int} (hl : vs.length = us.length) (k : Nat) : ((vs.drop k ++ vs.take k).zip (us.drop k ++ us.take k)).Perm (vs.zip us) := by
  have h1 : (vs.drop k ++ vs.take k).zip (us.drop k ++ us.take k) = (vs.drop k).zip (us.drop k) ++ (vs.take k).zip (us.take k) := List.zip_append (by simp [hl])
  have h2 : vs.zip us = (vs.take k).zip (us.take k) ++ (vs.drop k).zip (us.drop k) := by
    rw [← List.zip_append (by simp [hl]), List.take_append_drop, List.take_append_drop]
  rw [h1, h2]
  exact List.perm_append_comm
theorem order_plain {W room : Nat} {L L' : List PNode} {vs us vs' us' : List Int} {t s : Nat} (hW : W ≤ 64) (hw : WFL L) (hg : GoodL W L) (hok : PairsOk L vs us) (hp : (vs'.zip us').Perm (vs.zip us)) (hl : vs'.length = us'.length) (ht : t < L.length) (hso : SubOk L (vs.zip us)) (hR : substR W room L t (vs.zip us) = (L', s, 0)) (hw' : WFL L') (hpre : L <+: L') :
    PairsOk L' vs' us' ∧ subst2R W room L' t vs' us' = (L', s, 0) := by
  have p1 : vs'.Perm vs := by
    have := hp.map (·.1)
    rwa [List.map_fst_zip (by omega), List.map_fst_zip (by rw [hok.len]; exact Nat.le_refl _)] at this
  have p2 : us'.Perm us := by
    have := hp.map (·.2)
    rwa [List.map_snd_zip (by omega), List.map_snd_zip (by rw [hok.len]; exact Nat.le_refl _)] at this
  have hle := hpre.length_le
  have hso' : SubOk L (vs'.zip us') := ⟨((hp.map (·.1)).nodup_iff).2 hso.1, fun p hm => hso.2 p (hp.mem_iff.1 hm)⟩
  refine ⟨⟨hl, p1.nodup_iff.2 hok.nodup, fun v hv => hok.vars v (p1.mem_iff.1 hv), fun u hu => by have := hok.terms u (p2.mem_iff.1 hu); omega⟩, ?_⟩
  have hR2 : substR W room L t (vs'.zip us') = (L', s, 0) := by
    rw [← hR, substR_in ht hso', substR_in ht hso, subLf_congr (subOf_perm hso'.1 hp)]
  unfold subst2R
  rw [if_pos (by omega), if_pos hl, substR_again hW hw hg ht hso' hR2 hw' (List.prefix_refl _)]
end Go.Proofs.Ytcpgiadhmmmafaa
