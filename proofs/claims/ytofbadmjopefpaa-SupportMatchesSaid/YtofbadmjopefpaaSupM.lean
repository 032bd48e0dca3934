/- The reference of layer 14: how many nodes; an element put into a sorted list by copy. -/
import Derived.Test.YtofbadmjopefpaaSupL
import Derived.Test.YtofbadmjopefpaaSupJ
import Derived.Laws.CopyOwn
namespace Go.Proofs.Ytofbadmjopefpaa
open Go.RowKit Go.Maps
set_option maxHeartbeats 6400000

section
variable {w0 wr w' : World} {ts : List Thing} {F I : List Nat} {rb W room : Nat} {L : List PNode}
theorem count_next (S : Nat → Bool) (k : Nat) : ((List.range (k + 1)).filter S).length = ((List.range k).filter S).length + if S k = true then 1 else 0 := by
  rw [List.range_succ, List.filter_append, List.length_append]
  cases h : S k <;> simp [h]
theorem count_le (S : Nat → Bool) (k : Nat) : ((List.range k).filter S).length ≤ k := by
  have := List.length_filter_le S (List.range k)
  rwa [List.length_range] at this
set_option maxRecDepth 100000 in
/-- The reference's Size. -/
theorem Lab.rsize (h : Lab w0 wr (Thing.rgraph F I rb W room L :: ts)) (v : Value) (us : List Int) (hv : SliceOf w0 .i64 v us) (hn : us.length ≤ 9223372036854775807) :
    Calls Try.prog 19 #[.pointer (some ⟨rb, 0, none⟩), v] wr fun e w' => Lab w0 w' (Thing.rgraph F I rb W room L :: ts) ∧ (InL L us → e = .returned (.tuple #[.int .i64 (cntS L (occS L us)), .int .i64 0])) ∧ (¬ InL L us → e = .returned (.tuple #[.int .i64 0, .int .i64 3])) := by
  have hll : L.length ≤ 1048576 := by have := h.rgr.len; have := h.rgr.r2; omega
  have HO := Lib.hid (h.roccurs v us hv hn)
  clear h hv hn
  by_cases hin : InL L us
  · obtain ⟨S, hS⟩ : ∃ S, occS L us = S := ⟨_, rfl⟩
    have HS := Lib.hid hS
    go_enter Try.func19, Try.ntmps19
    go_wp2_with fail
    go_at_call 39
    refine HO.out.mono ?_
    rintro e w2 ⟨h1, -⟩
    obtain ⟨ob, rfl, hl⟩ := h1 hin
    rw [hS] at hl
    have HL := Lib.hid hl
    clear h1 hl HO hS
    go_wp2
    go_loopw [8, 9] (fun m t wx => ∃ k : Nat, k ≤ L.length ∧ t = .int .i64 k ∧ m = .int .i64 ((((List.range k).filter S).length : Nat) : Int) ∧ Lab w0 wx (Thing.fn ob 4 L.length (fun i => .bool (S i)) :: Thing.rgraph F I rb W room L :: ts)) (fun _ t _ => L.length - (intOf t).toNat)
    case atStart => exact ⟨0, by omega, rfl, rfl, HL.out⟩
    case round =>
      obtain ⟨k, hk, rfl, rfl, hl⟩ := hrel
      clear HL
      have hcn := count_next S k
      have hcl := count_le S k
      obtain ⟨m, hm⟩ : ∃ m, ((List.range k).filter S).length = m := ⟨_, rfl⟩
      rw [hm] at hcn hcl ⊢
      by_cases hlt : k < L.length
      · have hlt' : (k : Int) < (L.length : Int) := by omega
        have d1 := hl.fn1.cell (i := k) hlt
        have HL2 := Lib.hid hl; have HCN := Lib.hid hcn; have HM := Lib.hid hm
        clear hl hcn hm
        cases hs : S k with
        | true =>
          rw [hs] at d1
          have HSK := Lib.hid hs
          have hwm : IntKind.i64.wrap ((m : Int) + 1) = (m : Int) + 1 := by simp [IntKind.wrap, IntKind.bits, IntKind.signed]; omega
          clear hs
          go_wp2
          go_roundw
          case rel => exact ⟨k + 1, by omega, by go_num, by rw [HCN.out, if_pos HSK.out]; go_num, HL2.out⟩
          case measure => simp [intOf]; omega
        | false =>
          rw [hs] at d1
          have HSK := Lib.hid hs
          clear hs
          go_wp2
          go_roundw
          case rel => exact ⟨k + 1, by omega, by go_num, by rw [HCN.out, if_neg (by rw [HSK.out]; decide), Nat.add_zero], HL2.out⟩
          case measure => simp [intOf]; omega
      · obtain rfl : k = L.length := by omega
        have hlt' : ¬ (L.length : Int) < (L.length : Int) := by omega
        have HL2 := Lib.hid hl.drop; have HM := Lib.hid hm
        clear hl hm hcn
        go_wp2
        go_ret2
        refine ⟨HL2.out, ?_⟩
        rw [HS.out, show cntS L S = m from HM.out]
        rfl
  · go_enter Try.func19, Try.ntmps19
    go_wp2_with fail
    go_at_call 39
    refine HO.out.mono ?_
    rintro e w2 ⟨-, h2⟩
    obtain ⟨rfl, hl⟩ := h2 hin
    have HL := Lib.hid hl
    clear h2 hl HO
    go_wp2
    go_loopw [8, 9] (fun m t wx => m = .int .i64 0 ∧ t = .int .i64 0 ∧ Lab w0 wx (Thing.rgraph F I rb W room L :: ts)) (fun _ _ _ => 0)
    case atStart => exact ⟨rfl, rfl, HL.out⟩
    case round =>
      obtain ⟨rfl, rfl, hl⟩ := hrel
      have HL2 := Lib.hid hl
      clear hl
      go_wp2
      go_ret2
      exact ⟨HL2.out, fun h => absurd h hin, fun _ => rfl⟩
/-- A list's end from a place on, moved up by one. -/
def shiftL (xs : List Int) (q : Nat) : List Int := splice xs (q + 1) ((xs.drop q).take (xs.length - (q + 1)))
theorem shiftL_len {xs : List Int} {q : Nat} (h : q + 1 ≤ xs.length) : (shiftL xs q).length = xs.length := by
  unfold shiftL
  rw [length_splice]
  rw [List.length_take, List.length_drop]; omega
/-- A number put into a list. -/
def insL (out : List Int) (q : Nat) (x : Int) : List Int := out.take q ++ x :: out.drop q
theorem shiftL_set {out : List Int} {q : Nat} (h : q ≤ out.length) (x : Int) : (shiftL (out ++ [0]) q).set q x = insL out q x := by
  unfold shiftL splice insL
  have e1 : ((out ++ [0]).drop q).take ((out ++ [0]).length - (q + 1)) = out.drop q := by
    rw [List.drop_append_of_le_length h, List.take_append_of_le_length (by simp only [List.length_append, List.length_drop, List.length_singleton]; omega), List.take_of_length_le (by simp only [List.length_append, List.length_drop, List.length_singleton]; omega)]
  obtain ⟨y, hy⟩ : ∃ y, (out ++ [0])[q]? = some y := ⟨_, List.getElem?_eq_getElem (by simp only [List.length_append, List.length_singleton]; omega)⟩
  have e2 : (out ++ [0]).take (q + 1) = out.take q ++ [y] := by
    rw [List.take_add_one, hy, List.take_append_of_le_length h]; rfl
  have e3 : (out ++ [0]).drop (q + 1 + (out.drop q).length) = [] := List.drop_eq_nil_of_le (by simp only [List.length_append, List.length_drop, List.length_singleton]; omega)
  rw [e1, e2, e3, List.append_nil, List.append_assoc, List.set_append_right _ _ (by rw [List.length_take]; omega), List.length_take, Nat.min_eq_left h, Nat.sub_self]
  rfl
theorem insL_perm (out : List Int) (q : Nat) (x : Int) : (insL out q x).Perm (out ++ [x]) := by
  unfold insL
  refine List.perm_middle.trans ?_
  rw [List.take_append_drop]
  exact (List.perm_append_singleton x out).symm
theorem insL_sorted {out : List Int} {q : Nat} {x : Int} (hq : q ≤ out.length) (hs : out.Pairwise fun a b => leI a b = true) (hlo : ∀ y, 0 < q → out[q - 1]? = some y → y ≤ x) (hhi : ∀ j y, q ≤ j → out[j]? = some y → x < y) : (insL out q x).Pairwise fun a b => leI a b = true := by
  have hget : ∀ (i j : Nat) (a b : Int), i < j → out[i]? = some a → out[j]? = some b → a ≤ b := fun i j a b hij ha hb => by
    obtain ⟨hi, ea⟩ := List.getElem?_eq_some_iff.1 ha
    obtain ⟨hj, eb⟩ := List.getElem?_eq_some_iff.1 hb
    have := List.pairwise_iff_getElem.1 hs i j hi hj hij
    unfold leI at this
    rw [decide_eq_true_eq] at this
    rw [← ea, ← eb]; exact this
  have hlow : ∀ a ∈ out.take q, a ≤ x := fun a ha => by
    obtain ⟨i, hi, e⟩ := List.getElem_of_mem ha
    rw [List.length_take] at hi
    have h1 : out[i]? = some a := by rw [List.getElem?_eq_getElem (by omega), ← e, List.getElem_take]
    obtain ⟨y, hy⟩ : ∃ y, out[q - 1]? = some y := ⟨_, List.getElem?_eq_getElem (by omega)⟩
    have h2 := hlo y (by omega) hy
    by_cases e2 : i = q - 1
    · subst e2; rw [hy] at h1; cases h1; exact h2
    · have := hget i (q - 1) a y (by omega) h1 hy
      omega
  have hhigh : ∀ b ∈ out.drop q, x < b := fun b hb => by
    obtain ⟨i, hi, e⟩ := List.getElem_of_mem hb
    rw [List.length_drop] at hi
    exact hhi (q + i) b (by omega) (by rw [List.getElem?_eq_getElem (by omega), ← e, List.getElem_drop])
  unfold insL
  rw [List.pairwise_append, List.pairwise_cons]
  refine ⟨hs.sublist (List.take_sublist _ _), ⟨fun b hb => ?_, hs.sublist (List.drop_sublist _ _)⟩, fun a ha b hb => ?_⟩
  · have := hhigh b hb
    unfold leI; rw [decide_eq_true_eq]; omega
  · have h1 := hlow a ha
    unfold leI; rw [decide_eq_true_eq]
    rcases List.mem_cons.1 hb with rfl | hb
    · exact h1
    · have := hhigh b hb; omega
theorem Lab.row_set {E g n cap : Nat} {cells : List Value} (h : Lab w0 wr (Thing.row E 1 (.slice (some ⟨g, 0, none⟩) n cap) n cells :: ts)) (j : Nat) (u : Value) : Lab w0 (wr.setCell ⟨g, j, none⟩ u) (Thing.row E 1 (.slice (some ⟨g, 0, none⟩) n cap) n (cells.set j u) :: ts) := by
  have hs := World.ownsRow.stored h.head j u
  refine h.turn (s' := Thing.row E 1 (.slice (some ⟨g, 0, none⟩) n cap) n (cells.set j u)) ⟨rfl, rfl, rfl, by rw [World.size_setCell]; exact Nat.le_refl _, fun k hk hn => heap_setCell_other _ _ _ _ (by simpa [Thing.row, Value.ownBlock] using hn)⟩ hs.1 (fun k hk => .inl hk) (fun k hk => .inl hk) (fun k hk => ?_)
  rw [World.size_setCell]
  exact h.high (Thing.row E 1 (.slice (some ⟨g, 0, none⟩) n cap) n cells) (by simp) k hk
theorem Lab.ints_set {g c : Nat} {xs : List Int} {n : Nat} (hl : xs.length = n) (h : Lab w0 wr (Thing.ints (.slice (some ⟨g, 0, none⟩) n c) xs :: ts)) (j : Nat) (x : Int) : Lab w0 (wr.setCell ⟨g, j, none⟩ (.int .i64 x)) (Thing.ints (.slice (some ⟨g, 0, none⟩) n c) (xs.set j x) :: ts) := by
  subst hl
  have := Lab.row_set h j (.int .i64 x)
  unfold Thing.ints
  rw [List.length_set, List.map_set]
  exact this
theorem wpList_copy_shift {ops : Array Oper} {rest : List Oper} {o : Oper} {a : Act} {Q : Exit → Act → World → Prop} (d s : Operand) {g n c q dl dc sc : Nat} {dp : Option Addr} {xs : List Int} (h : Lab w0 wr (Thing.ints (.slice (some ⟨g, 0, none⟩) n c) xs :: ts)) (hl : xs.length = n) (hgd : o.guard = none)
    (ho : o.op = .call { callee := .builtin .copy, args := #[d, s], argTypes := #[26, 26] }) (hd : a.eval d = .slice dp dl dc) (hs : a.eval s = .slice (some ⟨g, q, none⟩) (n - q) sc) (hq : q + 1 ≤ n) (hdl : dl = n - (q + 1)) (hdp : q + 1 < n → dp = some ⟨g, q + 1, none⟩)
    (hK : ∀ v w', Lab w0 w' (Thing.ints (.slice (some ⟨g, 0, none⟩) n c) (shiftL xs q) :: ts) → wpList Try.prog ops Q rest (a.put o.dst v) w') : wpList Try.prog ops Q (o :: rest) a wr := by
  subst hl hdl
  have hsz : (Try.prog.info? 3).map (·.size) = some 1 := by kernel_rfl
  by_cases hq1 : q + 1 = xs.length
  · refine wpList_copy_nothing hgd d s 26 26 ho 3 Try.underlying26 hsz dp _ _ dc _ sc hd hs (by rw [hq1, Nat.sub_self]; exact Nat.min_zero _) (hK _ wr ?_)
    have e : shiftL xs q = xs := by unfold shiftL splice; rw [hq1, Nat.sub_self, List.take_zero]; simp
    rw [e]; exact h
  · have hq2 : q + 1 < xs.length := by omega
    obtain rfl := hdp hq2
    have hsl : SliceOf wr .i64 (.slice (some ⟨g, 0, none⟩) xs.length c) xs := OwnInts.slice h.ints
    obtain ⟨h1, h2⟩ := h.ints
    rcases h2 with ⟨e, -⟩ | ⟨g', cap2, cur, e, -, hg, hnc, hcm, hcs, hct⟩
    · simp at e
    · simp only [Value.slice.injEq, Option.some.injEq, Addr.mk.injEq, and_true, true_and] at e
      obtain ⟨rfl, rfl⟩ := e
      rw [Nat.mul_one] at hcs hct
      obtain ⟨cs, hcs'⟩ : ∃ cs, ((xs.drop q).take (xs.length - (q + 1))).map (Value.int .i64) = cs := ⟨_, rfl⟩
      have hcl : cs.length = xs.length - (q + 1) := by rw [← hcs', List.length_map, List.length_take, List.length_drop]; omega
      refine wpList_copy_own hgd d s 26 26 ho 3 Try.underlying26 hsz g (q + 1) _ dc ⟨g, q, none⟩ _ sc hd hs cur 3 hg cs (by rw [hcl]; exact (Nat.min_eq_right (by omega)).symm) ?_ (by rw [hcl]; omega) ?_ (hK _ _ ?_)
      · intro j v hj
        rw [← hcs', List.getElem?_map] at hj
        cases hx : ((xs.drop q).take (xs.length - (q + 1)))[j]? with
        | none => rw [hx] at hj; cases hj
        | some x =>
          rw [hx] at hj
          cases hj
          rw [List.getElem?_take] at hx
          split at hx
          · rw [List.getElem?_drop] at hx
            have := hsl.at hx
            rw [Nat.zero_add] at this
            rw [show (⟨g, q, none⟩ : Addr).add j = ⟨g, q + j, none⟩ by unfold Addr.add; split <;> simp_all]
            exact this
          · cases hx
      · intro v hv
        rw [← hcs'] at hv
        obtain ⟨x, -, rfl⟩ := List.mem_map.1 hv
        rfl
      · obtain ⟨ncur, hncur⟩ : ∃ ncur, cur.toList.take (q + 1) ++ (cs ++ cur.toList.drop (q + 1 + cs.length)) = ncur := ⟨_, rfl⟩
        rw [hncur]
        have hsh := shiftL_len (xs := xs) (q := q) hq
        have hnl : ncur.length = c := by rw [← hncur]; simp only [List.length_append, List.length_take, List.length_drop, Array.length_toList]; omega
        have hxt : (xs.map (Value.int .i64)).take (q + 1) = cur.toList.take (q + 1) := by
          rw [← hct, List.take_take, Nat.min_eq_left hq]
        have htk : ncur.take xs.length = (shiftL xs q).map (Value.int .i64) := by
          unfold shiftL splice
          rw [← hncur, List.map_append, List.map_append, List.map_take, hxt, hcs']
          have e3 : xs.drop (q + 1 + ((xs.drop q).take (xs.length - (q + 1))).length) = [] := List.drop_eq_nil_of_le (by rw [List.length_take, List.length_drop]; omega)
          rw [e3, List.map_nil, List.append_nil, ← List.append_assoc, List.take_append_of_le_length (by simp only [List.length_append, List.length_take, Array.length_toList]; omega)]
          exact List.take_of_length_le (by simp only [List.length_append, List.length_take, Array.length_toList]; omega)
        have hown2 : OwnInts (wr.setRow g ncur.toArray) 0 3 .i64 (.slice (some ⟨g, 0, none⟩) xs.length c) (shiftL xs q) := by
          unfold OwnInts
          rw [hsh]
          refine ⟨by rw [List.length_map, hsh, Nat.mul_one], .inr ⟨g, c, ncur.toArray, rfl, Nat.zero_le _, setRow_heap wr g _ _ _ _ hg, hnc, hcm, by simp [hnl], ?_⟩⟩
          rw [Nat.mul_one]
          exact htk
        exact h.turn (s' := Thing.ints (.slice (some ⟨g, 0, none⟩) xs.length c) (shiftL xs q)) ⟨rfl, rfl, rfl, by rw [size_setRow]; exact Nat.le_refl _, fun k hk hn => setRow_other wr g k _ (by simpa [Thing.ints, Thing.row, Value.ownBlock] using hn)⟩ hown2 (fun k hk => .inl hk) (fun k hk => by simp [Thing.ints, Thing.row] at hk) (fun k hk => by
          rcases hk with hk | hk
          · exact (World.ownsRow.lt hown2 k (by simpa [Thing.ints, Thing.row] using hk)).2
          · simp [Thing.ints, Thing.row] at hk)
end
end Go.Proofs.Ytofbadmjopefpaa
