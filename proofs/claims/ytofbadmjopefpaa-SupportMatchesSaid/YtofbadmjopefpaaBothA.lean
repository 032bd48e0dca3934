/- Both graphs: Make and Do of law 10. Both graphs: Same of law 10. -/
import Derived.Test.YtofbadmjopefpaaRGraphC
namespace Go.Proofs.Ytofbadmjopefpaa
open Go.RowKit Go.Maps
set_option maxHeartbeats 800000

def Thing.rgraph (F I : List Nat) (rb W room : Nat) (L : List PNode) : Thing :=
  ⟨F, I, fun w => RGr w 0 F I rb W room L, fun _ _ h hk => h.keep (fun k hm => hk k (.inl hm)) (fun k hm _ => hk k (.inr hm))⟩
section
variable {w0 wr w' : World} {ts : List Thing} {F I : List Nat} {rb W room : Nat} {L : List PNode}
theorem Lab.rgr (h : Lab w0 wr (Thing.rgraph F I rb W room L :: ts)) : RGr wr 0 F I rb W room L := h.head
theorem Lab.rgr2 {s : Thing} (h : Lab w0 wr (s :: Thing.rgraph F I rb W room L :: ts)) : RGr wr 0 F I rb W room L := h.second
theorem Lab.rpost {R : List PNode × Nat × Nat} {e : Ending} (h : Lab w0 wr (Thing.rgraph F I rb W room L :: ts)) (hp : RPost wr 0 F I rb W room R e w') :
    ∃ F' I', e = .returned (.tuple #[.int .i64 R.2.1, .int .i64 R.2.2]) ∧ Lab w0 w' (Thing.rgraph F' I' rb W room R.1 :: ts) := by
  obtain ⟨F', I', he, hg, ht, hF, hI⟩ := hp
  refine ⟨F', I'.filter fun k => decide (k < w'.heap.size), he, h.turn (s' := Thing.rgraph F' _ rb W room R.1) ht hg.inI hF (fun k hk => ?_) (fun k hk => ?_)⟩
  · exact hI k (List.mem_filter.1 hk).1
  · rcases hk with hk | hk
    · exact hg.lt k hk
    · simpa using (List.mem_filter.1 hk).2
theorem Lab.new_rgraph (h : Lab w0 wr ts) (W most : Int) (hok : newOk W most) :
    Calls Try.prog 34 #[.int .i64 W, .int .i64 most] wr fun e w' => ∃ rb F, e = .returned (.tuple #[.pointer (some ⟨rb, 0, none⟩), .int .i64 0]) ∧ Lab w0 w' (Thing.rgraph F [] rb W.toNat (roomOf most) [] :: ts) := by
  refine (rnew_any W most hok wr).mono ?_
  rintro e w' ⟨rb, F, rfl, hg, hb⟩
  refine ⟨rb, F, rfl, h.new (s := Thing.rgraph F [] rb W.toNat (roomOf most) []) hb (hg.mono (Nat.zero_le _)) hg.base_le (fun k hk => by simp [Thing.rgraph] at hk) (fun k hk => ?_)⟩
  rcases hk with hk | hk
  · exact hg.lt k hk
  · simp [Thing.rgraph] at hk
end
/-- A cell of a block of one's own is written. -/
theorem Lab.store {w0 wr : World} {ts : List Thing} {b T : Nat} {arr : Array Value} (h : Lab w0 wr (Thing.box b T arr :: ts)) (i : Nat) (v : Value) : Lab w0 (wr.setCell ⟨b, i, none⟩ v) (Thing.box b T (arr.setIfInBounds i v) :: ts) := by
  refine h.turn (s' := Thing.box b T (arr.setIfInBounds i v)) ⟨rfl, rfl, rfl, by rw [World.size_setCell]; exact Nat.le_refl _, fun k hk hn => heap_setCell_other _ _ _ _ (by simpa [Thing.box] using hn)⟩ (heap_setCell_same _ _ _ _ _ _ h.box1) (fun k hk => .inl hk) (fun k hk => .inl hk) (fun k hk => ?_)
  rw [World.size_setCell]
  exact h.high (Thing.box b T arr) (by simp) k hk
/-- Make: both graphs, or none. -/
theorem make_bad (Wi Mi : Int) (h : ¬ newOk Wi Mi) (w : World) :
    Calls Try.prog 16 #[.int .i64 Wi, .int .i64 Mi] w fun e w' => e = .returned (.tuple #[.agg #[.pointer none, .pointer none], .bool true]) ∧ Below w.heap.size w w' := by
  have hn := fun wx => new_bad Wi Mi h wx
  have hr := fun wx => rnew_bad Wi Mi h wx
  have HN := Lib.hid hn; have HR := Lib.hid hr
  clear hn hr h
  go_enter Try.func16, Try.ntmps16
  go_wp2_with (first | (go_at_call 29; refine (HN.out _).mono ?_; rintro e w1 ⟨rfl, rfl⟩) | (go_at_call 34; refine (HR.out _).mono ?_; rintro e w1 ⟨rfl, rfl⟩))
  refine bodyPost_ret (v := .tuple #[.agg #[.pointer none, .pointer none], .bool true]) (by simp [results, Try.results16, go_sem]) rfl ⟨rfl, below_new _ _⟩
theorem make_any {w0 wr : World} {ts : List Thing} (hl : Lab w0 wr ts) (Wi Mi : Int) (h : newOk Wi Mi) :
    Calls Try.prog 16 #[.int .i64 Wi, .int .i64 Mi] wr fun e w' => ∃ gb rb F F', e = .returned (.tuple #[.agg #[.pointer (some ⟨gb, 0, none⟩), .pointer (some ⟨rb, 0, none⟩)], .bool true]) ∧
      Lab w0 w' (Thing.graph F [] gb Wi.toNat (roomOf Mi) [] :: Thing.rgraph F' [] rb Wi.toNat (roomOf Mi) [] :: ts) := by
  obtain ⟨p, hp⟩ : ∃ p, wr.heap.size = p := ⟨_, rfl⟩
  have hl1 := hl.alloc #[.pointer none, .pointer none] 38
  rw [hp] at hl1
  have HL1 := Lib.hid hl1; have HOK := Lib.hid h
  clear hl1 hl h
  go_enter Try.func16, Try.ntmps16
  go_wp2_with fail
  go_at_call 29
  refine (HL1.out.new_graph Wi Mi HOK.out).mono ?_
  rintro e w1 ⟨gb, F, rfl, hl2⟩
  have HL2 := Lib.hid hl2
  clear hl2
  go_wp2_with fail
  go_at_call 34
  refine (HL2.out.new_rgraph Wi Mi HOK.out).mono ?_
  rintro e w2 ⟨rb, F', rfl, hl3⟩
  have hbx := hl3.box3
  obtain ⟨d0, d1⟩ : w2.cell? ⟨p, 0, none⟩ = some (.pointer none) ∧ w2.cell? ⟨p, 1, none⟩ = some (.pointer none) := ⟨by rw [cell_of_row w2 p 0 _ _ _ hbx]; rfl, by rw [cell_of_row w2 p 1 _ _ _ hbx]; rfl⟩
  have f0 := fun j => frozen_of_row w2 p j _ _ hbx
  have hpl := (Array.getElem?_eq_some_iff.1 hbx).1
  have HL3 := Lib.hid hl3
  clear hl3 hbx hp
  go_wp2
  refine bodyPost_ret (v := .tuple #[.agg #[.pointer (some ⟨gb, 0, none⟩), .pointer (some ⟨rb, 0, none⟩)], .bool true]) (by simp [results, Try.results16, go_sem, d0, d1]) rfl ⟨gb, rb, F, F', rfl, ?_⟩
  exact ((HL3.out.rot3.store 0 _).store 1 _).drop.swap
/-- What is done to both graphs. -/
def doR (W room : Nat) (L : List PNode) (a : PAsk) : List PNode × Nat × Nat :=
  if a.1 % 4 = 0 then constR W room L a.2.2.1 else if a.1 % 4 = 1 then varR room L a.2.2.2.1 else appR room L a.2.1 a.2.2.2.2
/-- A slice that a graph's call leaves as it is. -/
def Stays (w : World) (S : List Nat) (va : Value) (xs : List Int) : Prop := ∀ wx, Touch S w wx → SliceOf wx .i64 va xs
theorem Stays.slice {w : World} {S : List Nat} {va : Value} {xs : List Int} (h : Stays w S va xs) : SliceOf w .i64 va xs := h w (Touch.refl _ _)
theorem Lab.stays {w0 wr : World} {ts : List Thing} {F I : List Nat} {gb W room : Nat} {L : List PNode} (h : Lab w0 wr (Thing.graph F I gb W room L :: ts)) {va : Value} {xs : List Int} (hs : SliceOf w0 .i64 va xs) : Stays wr F va xs :=
  fun _ ht => hs.below (ht.below h.below h.size (h.low (Thing.graph F I gb W room L) (by simp)))
set_option maxRecDepth 100000 in
theorem do_any {w0 wr : World} {ts : List Thing} {F I F' I' : List Nat} {gb rb W room : Nat} {L : List PNode} (hl : Lab w0 wr (Thing.graph F I gb W room L :: Thing.rgraph F' I' rb W room L :: ts)) (a : PAsk) (va : Value) (hs : Stays wr F va a.2.2.2.2) (ha : a.Ok) :
    Calls Try.prog 17 #[.agg #[.pointer (some ⟨gb, 0, none⟩), .pointer (some ⟨rb, 0, none⟩)], .agg #[.int .u8 a.1, .int .u8 a.2.1, .int .u64 a.2.2.1, .int .i64 a.2.2.2.1, va]] wr fun e w' => e = .returned (.bool true) ∧ ∃ F I F' I', Lab w0 w' (Thing.graph F I gb W room (doR W room L a).1 :: Thing.rgraph F' I' rb W room (doR W room L a).1 :: ts) := by
  obtain ⟨R, hR⟩ : ∃ R, doR W room L a = R := ⟨_, rfl⟩
  rw [hR]
  unfold doR at hR
  obtain ⟨x0, x1, q, N, xs⟩ := a
  obtain ⟨h0, h1, h2, h3, h4, h5⟩ := ha
  simp only at h0 h1 h2 h3 h4 h5 hs hR ⊢
  obtain ⟨va, m, cap, rfl, -, -⟩ := hs.slice.parts
  have HS := Lib.hid hs; have HR := Lib.hid hR
  clear hs h4 h5 hR
  obtain ⟨p, hp⟩ : ∃ p, wr.heap.size = p := ⟨_, rfl⟩
  have hl1 := (hl.alloc #[.pointer (some ⟨gb, 0, none⟩), .pointer (some ⟨rb, 0, none⟩)] 38).alloc #[.int .u8 x0, .int .u8 x1, .int .u64 q, .int .i64 N, .slice va m cap] 44
  rw [World.size_alloc, hp] at hl1
  have hb1 : Below wr.heap.size wr ((wr.alloc (.cells #[.pointer (some ⟨gb, 0, none⟩), .pointer (some ⟨rb, 0, none⟩)] 38)).alloc (.cells #[.int .u8 x0, .int .u8 x1, .int .u64 q, .int .i64 N, .slice va m cap] 44)) := (below_new _ _).alloc (by simp) _
  have HL1 := Lib.hid hl1; have HB1 := Lib.hid hb1
  clear hl1 hb1 hl
  go_enter Try.func17, Try.ntmps17
  go_upto_region 3 with fail
  clear hp
  refine wp_abs (fun w2 => Lab w0 w2 (Thing.box (p + 1) 44 #[.int .u8 x0, .int .u8 x1, .int .u64 q, .int .i64 N, .slice va m cap] :: Thing.box p 38 #[.pointer (some ⟨gb, 0, none⟩), .pointer (some ⟨rb, 0, none⟩)] :: Thing.graph F I gb W room L :: Thing.rgraph F' I' rb W room L :: ts) ∧ Below wr.heap.size wr w2) ⟨HL1.out, HB1.out⟩ ?_
  rintro w2 ⟨hl2, hb2⟩
  have facts : ∀ wx : World, wx.heap[p + 1]? = some (.cells #[.int .u8 x0, .int .u8 x1, .int .u64 q, .int .i64 N, .slice va m cap] 44 (0, 0)) → wx.heap[p]? = some (.cells #[.pointer (some ⟨gb, 0, none⟩), .pointer (some ⟨rb, 0, none⟩)] 38 (0, 0)) →
      wx.cell? ⟨p, 0, none⟩ = some (.pointer (some ⟨gb, 0, none⟩)) ∧ wx.cell? ⟨p, 1, none⟩ = some (.pointer (some ⟨rb, 0, none⟩)) ∧ wx.cell? ⟨p + 1, 0, none⟩ = some (.int .u8 x0) ∧ wx.cell? ⟨p + 1, 1, none⟩ = some (.int .u8 x1) ∧ wx.cell? ⟨p + 1, 2, none⟩ = some (.int .u64 q) ∧ wx.cell? ⟨p + 1, 3, none⟩ = some (.int .i64 N) ∧ wx.cell? ⟨p + 1, 4, none⟩ = some (.slice va m cap) := by
    intro wx b1 b2
    refine ⟨?_, ?_, ?_, ?_, ?_, ?_, ?_⟩ <;> first | (rw [cell_of_row wx _ _ _ _ _ b2]; rfl) | (rw [cell_of_row wx _ _ _ _ _ b1]; rfl)
  obtain ⟨k0, k1, k2, k3, k4, k5, k6⟩ := facts w2 hl2.box1 hl2.box2
  have HFA := Lib.hid facts
  have hg := hl2.rot3
  have hs2 : SliceOf w2 .i64 (.slice va m cap) xs := HS.out w2 (Touch.of_below hb2 F)
  have hst : ∀ wx, Touch F w2 wx → SliceOf wx .i64 (.slice va m cap) xs := fun wx ht => HS.out wx ((Touch.of_below hb2 F).trans ht (fun k hk => .inl hk))
  have HG := Lib.hid hg; have HS2 := Lib.hid hs2; have HST := Lib.hid hst
  clear facts hl2 hb2 hg hs2 hst
  by_cases c0 : x0 % 4 = 0
  · have ht : (((x0 : Int) % 4) == 0) = true := by rw [beq_iff_eq]; omega
    have hr : constR W room L q = R := by rw [← HR.out, if_pos c0]
    have hc := const_any HG.out.gr q h2
    rw [hr] at hc
    have HC := Lib.hid hc
    clear hc c0
    go_wp2_with fail
    go_at_call 35
    refine HC.out.mono ?_
    intro e w3 hp
    obtain ⟨F2, I2, rfl, hl3⟩ := HG.out.gpost hp
    have hl4 := hl3.rot4
    have hc2 := rconst_any hl4.rgr q h2
    rw [hr] at hc2
    obtain ⟨k0, k1, k2, k3, k4, k5, k6⟩ := HFA.out w3 hl3.box2 hl3.box3
    have HL4 := Lib.hid hl4; have HC2 := Lib.hid hc2
    clear hl3 hl4 hp hc2 hr
    go_wp2_with fail
    go_at_call 36
    refine HC2.out.mono ?_
    intro e w4 hp
    obtain ⟨F3, I3, rfl, hl5⟩ := HL4.out.rpost hp
    have HL5 := Lib.hid hl5
    clear hl5 hp
    go_wp2
    go_ret
    exact ⟨rfl, F2, I2, F3, I3, HL5.out.rot4.rot4.drop.drop.swap⟩
  · have ht : (((x0 : Int) % 4) == 0) = false := by rw [beq_eq_false_iff_ne]; omega
    by_cases c1 : x0 % 4 = 1
    · have ht1 : (((x0 : Int) % 4) == 1) = true := by rw [beq_iff_eq]; omega
      have hr : varR room L N = R := by rw [← HR.out, if_neg c0, if_pos c1]
      have hc := var_any HG.out.gr N
      rw [hr] at hc
      have HC := Lib.hid hc
      clear hc c0 c1
      go_wp2_with fail
      go_at_call 30
      refine HC.out.mono ?_
      intro e w3 hp
      obtain ⟨F2, I2, rfl, hl3⟩ := HG.out.gpost hp
      have hl4 := hl3.rot4
      have hc2 := rvar_any hl4.rgr N
      rw [hr] at hc2
      obtain ⟨k0, k1, k2, k3, k4, k5, k6⟩ := HFA.out w3 hl3.box2 hl3.box3
      have HL4 := Lib.hid hl4; have HC2 := Lib.hid hc2
      clear hl3 hl4 hp hc2 hr
      go_wp2_with fail
      go_at_call 37
      refine HC2.out.mono ?_
      intro e w4 hp
      obtain ⟨F3, I3, rfl, hl5⟩ := HL4.out.rpost hp
      have HL5 := Lib.hid hl5
      clear hl5 hp
      go_wp2
      go_ret
      exact ⟨rfl, F2, I2, F3, I3, HL5.out.rot4.rot4.drop.drop.swap⟩
    · have ht1 : (((x0 : Int) % 4) == 1) = false := by rw [beq_eq_false_iff_ne]; omega
      have hr : appR room L x1 xs = R := by rw [← HR.out, if_neg c0, if_neg c1]
      have hc := app_any HG.out.gr x1 h1 xs _ HS2.out
      rw [hr] at hc
      have HC := Lib.hid hc
      clear hc c0 c1
      go_wp2_with fail
      go_at_call 31
      refine HC.out.mono ?_
      intro e w3 hp
      have htch : Touch F w2 w3 := by obtain ⟨_, _, _, _, h, _⟩ := hp; exact h
      obtain ⟨F2, I2, rfl, hl3⟩ := HG.out.gpost hp
      have hl4 := hl3.rot4
      have hc2 := rapp_any hl4.rgr x1 h1 xs _ (HST.out w3 htch)
      rw [hr] at hc2
      obtain ⟨k0, k1, k2, k3, k4, k5, k6⟩ := HFA.out w3 hl3.box2 hl3.box3
      have HL4 := Lib.hid hl4; have HC2 := Lib.hid hc2
      clear hl3 hl4 hp hc2 hr htch
      go_wp2_with fail
      go_at_call 38
      refine HC2.out.mono ?_
      intro e w4 hp
      obtain ⟨F3, I3, rfl, hl5⟩ := HL4.out.rpost hp
      have HL5 := Lib.hid hl5
      clear hl5 hp
      go_wp2
      go_ret
      exact ⟨rfl, F2, I2, F3, I3, HL5.out.rot4.rot4.drop.drop.swap⟩
end Go.Proofs.Ytofbadmjopefpaa
namespace Go.Proofs.Ytofbadmjopefpaa
open Go.RowKit Go.Maps
set_option maxHeartbeats 800000

/-- What Node answers: the node and the error. -/
def nodeAt (L : List PNode) (t : Int) : PNode × Nat := if 0 ≤ t ∧ t < (L.length : Int) then (L.getD t.toNat (0, 0, []), 0) else ((0, 0, []), 3)
theorem nodeAt_in {L : List PNode} {i : Nat} {n : PNode} (h : L[i]? = some n) : nodeAt L (i : Int) = (n, 0) := by
  have hl := (List.getElem?_eq_some_iff.1 h).1
  unfold nodeAt
  rw [if_pos (by omega), Int.toNat_natCast, List.getD_eq_getElem?_getD, h]; rfl
section
variable {w : World} {base : Nat} {F I F' I' : List Nat} {gb rb W room : Nat} {L : List PNode}
theorem node_t (h : Gr w base F I gb W room L) (t : Int) :
    Calls Try.prog 23 #[.pointer (some ⟨gb, 0, none⟩), .int .i64 t] w fun e w' => ∃ a m c, e = .returned (.tuple #[.agg #[.int .u8 (nodeAt L t).1.1, .int .u64 (nodeAt L t).1.2.1, .slice a m c], .int .i64 (nodeAt L t).2]) ∧ OwnInts w' w.heap.size 3 .i64 (.slice a m c) (nodeAt L t).1.2.2 ∧ Below w.heap.size w w' := by
  by_cases ht : 0 ≤ t ∧ t < (L.length : Int)
  · obtain ⟨i, rfl⟩ := Int.eq_ofNat_of_zero_le ht.1
    obtain ⟨n, hn⟩ : ∃ n, L[i]? = some n := ⟨_, List.getElem?_eq_getElem (by omega)⟩
    rw [nodeAt_in hn]
    refine (node_at h i n hn).mono ?_
    rintro e w' ⟨va, rfl, hv, hb⟩
    obtain ⟨a, m, c, rfl⟩ := hv.val
    exact ⟨a, m, c, rfl, hv, hb⟩
  · have : nodeAt L t = ((0, 0, []), 3) := by unfold nodeAt; rw [if_neg ht]
    rw [this]
    refine (node_out h t (by omega)).mono ?_
    rintro e w' ⟨rfl, hb⟩
    exact ⟨none, 0, 0, rfl, OwnInts.nil _ _ _ _, hb⟩
theorem nodeAt_short {L : List PNode} (h : WFL L) (t : Int) : (nodeAt L t).1.2.2.length ≤ 3 := by
  unfold nodeAt
  split
  · rename_i ht
    obtain ⟨i, rfl⟩ := Int.eq_ofNat_of_zero_le ht.1
    obtain ⟨n, hn⟩ : ∃ n, L[i]? = some n := ⟨_, List.getElem?_eq_getElem (by omega)⟩
    rw [Int.toNat_natCast, List.getD_eq_getElem?_getD, hn]
    have := (h.ok n (List.mem_of_getElem? hn)).2.2
    have := aryN_le n.1
    show n.2.2.length ≤ 3
    omega
  · simp
theorem width_quiet (h : Gr w 0 F I gb W room L) (n : Nat) : Calls Try.prog 53 #[.pointer (some ⟨gb, 0, none⟩)] (w.drewN n) fun e w' => e = .returned (.int .i64 W) ∧ ∃ m, w' = w.drewN m :=
  (width_any (h.drewN n)).mono fun _ _ ⟨a, b⟩ => ⟨a, n, b.symm⟩
end
end Go.Proofs.Ytofbadmjopefpaa
