/- Both graphs: Make and Do of law 10. Both graphs: Same of law 10. -/
import Derived.Test.YtcpgiadhmmmafaaRGraphC
namespace Go.Proofs.Ytcpgiadhmmmafaa
open Go.RowKit Go.Maps
set_option maxHeartbeats 800000

def Thing.rgraph (F I : List Nat) (rb W room : Nat) (L : List PNode) : Thing :=
  ⟨F, I, fun w => RGr w 0 F I rb W room L, fun _ _ h hk => h.keep (fun k hm => hk k (.inl hm)) (fun k hm _ => hk k (.inr hm))⟩
section
variable {w0 wr w' : World} {ts : List Thing} {F I : List Nat} {rb W room : Nat} {L : List PNode}
theorem Lab.rgr (h : Lab w0 wr (Thing.rgraph F I rb W room L :: ts)) : RGr wr 0 F I rb W room L := h.head
theorem Lab.rgr2 {s : Thing} (h : Lab w0 wr (s :: Thing.rgraph F I rb W room L :: ts)) : RGr wr 0 F I rb W room L := h.second
theorem Lab.rpost {R : List PNode × Nat × Nat} {e : Ending} (h : Lab w0 wr (Thing.rgraph F I rb W room L :: ts)) (hp : RPost wr 0 F I rb W room R e w') :
    ∃ F' I', e = .returned (.tuple #[.int .i64 R.2.1, .int .i64 R.2.2]) ∧ Lab w0 w' (Thing.rgraph F' I' rb W room R.1 :: ts) := by
  obtain ⟨F', I', he, hg, ht, hF, hI⟩ := hp
  refine ⟨F', I'.filter fun k => decide (k < w'.heap.size), he, h.turn (s' := Thing.rgraph F' _ rb W room R.1) ht hg.inI hF (fun k hk => ?_) (fun k hk => ?_)⟩
  · exact hI k (List.mem_filter.1 hk).1
  · rcases hk with hk | hk
    · exact hg.lt k hk
    · simpa using (List.mem_filter.1 hk).2
theorem Lab.new_rgraph (h : Lab w0 wr ts) (W most : Int) (hok : newOk W most) :
    Calls Try.prog 49 #[.int .i64 W, .int .i64 most] wr fun e w' => ∃ rb F, e = .returned (.tuple #[.pointer (some ⟨rb, 0, none⟩), .int .i64 0]) ∧ Lab w0 w' (Thing.rgraph F [] rb W.toNat (roomOf most) [] :: ts) := by
  refine (rnew_any W most hok wr).mono ?_
  rintro e w' ⟨rb, F, rfl, hg, hb⟩
  refine ⟨rb, F, rfl, h.new (s := Thing.rgraph F [] rb W.toNat (roomOf most) []) hb (hg.mono (Nat.zero_le _)) hg.base_le (fun k hk => by simp [Thing.rgraph] at hk) (fun k hk => ?_)⟩
  rcases hk with hk | hk
  · exact hg.lt k hk
  · simp [Thing.rgraph] at hk
end
/-- A cell of a block of one's own is written. -/
theorem Lab.store {w0 wr : World} {ts : List Thing} {b T : Nat} {arr : Array Value} (h : Lab w0 wr (Thing.box b T arr :: ts)) (i : Nat) (v : Value) : Lab w0 (wr.setCell ⟨b, i, none⟩ v) (Thing.box b T (arr.setIfInBounds i v) :: ts) := by
  refine h.turn (s' := Thing.box b T (arr.setIfInBounds i v)) ⟨rfl, rfl, rfl, by rw [World.size_setCell]; exact Nat.le_refl _, fun k hk hn => heap_setCell_other _ _ _ _ (by simpa [Thing.box] using hn)⟩ (heap_setCell_same _ _ _ _ _ _ h.box1) (fun k hk => .inl hk) (fun k hk => .inl hk) (fun k hk => ?_)
  rw [World.size_setCell]
  exact h.high (Thing.box b T arr) (by simp) k hk
/-- Make: both graphs, or none. -/
theorem make_bad (Wi Mi : Int) (h : ¬ newOk Wi Mi) (w : World) :
    Calls Try.prog 17 #[.int .i64 Wi, .int .i64 Mi] w fun e w' => e = .returned (.tuple #[.agg #[.pointer none, .pointer none], .bool true]) ∧ Below w.heap.size w w' := by
  have hn := fun wx => new_bad Wi Mi h wx
  have hr := fun wx => rnew_bad Wi Mi h wx
  have HN := Lib.hid hn; have HR := Lib.hid hr
  clear hn hr h
  go_enter Try.func17, Try.ntmps17
  go_wp2_with (first | (go_at_call 34; refine (HN.out _).mono ?_; rintro e w1 ⟨rfl, rfl⟩) | (go_at_call 49; refine (HR.out _).mono ?_; rintro e w1 ⟨rfl, rfl⟩))
  refine bodyPost_ret (v := .tuple #[.agg #[.pointer none, .pointer none], .bool true]) (by simp [results, Try.results17, go_sem]) rfl ⟨rfl, below_new _ _⟩
theorem make_any {w0 wr : World} {ts : List Thing} (hl : Lab w0 wr ts) (Wi Mi : Int) (h : newOk Wi Mi) :
    Calls Try.prog 17 #[.int .i64 Wi, .int .i64 Mi] wr fun e w' => ∃ gb rb F F', e = .returned (.tuple #[.agg #[.pointer (some ⟨gb, 0, none⟩), .pointer (some ⟨rb, 0, none⟩)], .bool true]) ∧
      Lab w0 w' (Thing.graph F [] gb Wi.toNat (roomOf Mi) [] :: Thing.rgraph F' [] rb Wi.toNat (roomOf Mi) [] :: ts) := by
  obtain ⟨p, hp⟩ : ∃ p, wr.heap.size = p := ⟨_, rfl⟩
  have hl1 := hl.alloc #[.pointer none, .pointer none] 27
  rw [hp] at hl1
  have HL1 := Lib.hid hl1; have HOK := Lib.hid h
  clear hl1 hl h
  go_enter Try.func17, Try.ntmps17
  go_wp2_with fail
  go_at_call 34
  refine (HL1.out.new_graph Wi Mi HOK.out).mono ?_
  rintro e w1 ⟨gb, F, rfl, hl2⟩
  have HL2 := Lib.hid hl2
  clear hl2
  go_wp2_with fail
  go_at_call 49
  refine (HL2.out.new_rgraph Wi Mi HOK.out).mono ?_
  rintro e w2 ⟨rb, F', rfl, hl3⟩
  have hbx := hl3.box3
  obtain ⟨d0, d1⟩ : w2.cell? ⟨p, 0, none⟩ = some (.pointer none) ∧ w2.cell? ⟨p, 1, none⟩ = some (.pointer none) := ⟨by rw [cell_of_row w2 p 0 _ _ _ hbx]; rfl, by rw [cell_of_row w2 p 1 _ _ _ hbx]; rfl⟩
  have f0 := fun j => frozen_of_row w2 p j _ _ hbx
  have hpl := (Array.getElem?_eq_some_iff.1 hbx).1
  have HL3 := Lib.hid hl3
  clear hl3 hbx hp
  go_wp2
  refine bodyPost_ret (v := .tuple #[.agg #[.pointer (some ⟨gb, 0, none⟩), .pointer (some ⟨rb, 0, none⟩)], .bool true]) (by simp [results, Try.results17, go_sem, d0, d1]) rfl ⟨gb, rb, F, F', rfl, ?_⟩
  exact ((HL3.out.rot3.store 0 _).store 1 _).drop.swap
/-- What is done to both graphs. -/
def doR (W room : Nat) (L : List PNode) (a : PAsk) : List PNode × Nat × Nat :=
  if a.1 % 4 = 0 then constR W room L a.2.2.1 else if a.1 % 4 = 1 then varR room L a.2.2.2.1 else appR room L a.2.1 a.2.2.2.2
/-- A slice that a graph's call leaves as it is. -/
def Stays (w : World) (S : List Nat) (va : Value) (xs : List Int) : Prop := ∀ wx, Touch S w wx → SliceOf wx .i64 va xs
theorem Stays.slice {w : World} {S : List Nat} {va : Value} {xs : List Int} (h : Stays w S va xs) : SliceOf w .i64 va xs := h w (Touch.refl _ _)
theorem Lab.stays {w0 wr : World} {ts : List Thing} {F I : List Nat} {gb W room : Nat} {L : List PNode} (h : Lab w0 wr (Thing.graph F I gb W room L :: ts)) {va : Value} {xs : List Int} (hs : SliceOf w0 .i64 va xs) : Stays wr F va xs :=
  fun _ ht => hs.below (ht.below h.below h.size (h.low (Thing.graph F I gb W room L) (by simp)))
set_option maxRecDepth 100000 in
theorem do_any {w0 wr : World} {ts : List Thing} {F I F' I' : List Nat} {gb rb W room : Nat} {L : List PNode} (hl : Lab w0 wr (Thing.graph F I gb W room L :: Thing.rgraph F' I' rb W room L :: ts)) (a : PAsk) (va : Value) (hs : Stays wr F va a.2.2.2.2) (ha : a.Ok) :
    Calls Try.prog 42 #[.agg #[.pointer (some ⟨gb, 0, none⟩), .pointer (some ⟨rb, 0, none⟩)], .agg #[.int .u8 a.1, .int .u8 a.2.1, .int .u64 a.2.2.1, .int .i64 a.2.2.2.1, va]] wr fun e w' => e = .returned (.bool true) ∧ ∃ F I F' I', Lab w0 w' (Thing.graph F I gb W room (doR W room L a).1 :: Thing.rgraph F' I' rb W room (doR W room L a).1 :: ts) := by
  obtain ⟨R, hR⟩ : ∃ R, doR W room L a = R := ⟨_, rfl⟩
  rw [hR]
  unfold doR at hR
  obtain ⟨x0, x1, q, N, xs⟩ := a
  obtain ⟨h0, h1, h2, h3, h4, h5⟩ := ha
  simp only at h0 h1 h2 h3 h4 h5 hs hR ⊢
  obtain ⟨va, m, cap, rfl, -, -⟩ := hs.slice.parts
  have HS := Lib.hid hs; have HR := Lib.hid hR
  clear hs h4 h5 hR
  obtain ⟨p, hp⟩ : ∃ p, wr.heap.size = p := ⟨_, rfl⟩
  have hl1 := (hl.alloc #[.pointer (some ⟨gb, 0, none⟩), .pointer (some ⟨rb, 0, none⟩)] 27).alloc #[.int .u8 x0, .int .u8 x1, .int .u64 q, .int .i64 N, .slice va m cap] 35
  rw [World.size_alloc, hp] at hl1
  have hb1 : Below wr.heap.size wr ((wr.alloc (.cells #[.pointer (some ⟨gb, 0, none⟩), .pointer (some ⟨rb, 0, none⟩)] 27)).alloc (.cells #[.int .u8 x0, .int .u8 x1, .int .u64 q, .int .i64 N, .slice va m cap] 35)) := (below_new _ _).alloc (by simp) _
  have HL1 := Lib.hid hl1; have HB1 := Lib.hid hb1
  clear hl1 hb1 hl
  go_enter Try.func42, Try.ntmps42
  go_upto_region 3 with fail
  clear hp
  refine wp_abs (fun w2 => Lab w0 w2 (Thing.box (p + 1) 35 #[.int .u8 x0, .int .u8 x1, .int .u64 q, .int .i64 N, .slice va m cap] :: Thing.box p 27 #[.pointer (some ⟨gb, 0, none⟩), .pointer (some ⟨rb, 0, none⟩)] :: Thing.graph F I gb W room L :: Thing.rgraph F' I' rb W room L :: ts) ∧ Below wr.heap.size wr w2) ⟨HL1.out, HB1.out⟩ ?_
  rintro w2 ⟨hl2, hb2⟩
  have facts : ∀ wx : World, wx.heap[p + 1]? = some (.cells #[.int .u8 x0, .int .u8 x1, .int .u64 q, .int .i64 N, .slice va m cap] 35 (0, 0)) → wx.heap[p]? = some (.cells #[.pointer (some ⟨gb, 0, none⟩), .pointer (some ⟨rb, 0, none⟩)] 27 (0, 0)) →
      wx.cell? ⟨p, 0, none⟩ = some (.pointer (some ⟨gb, 0, none⟩)) ∧ wx.cell? ⟨p, 1, none⟩ = some (.pointer (some ⟨rb, 0, none⟩)) ∧ wx.cell? ⟨p + 1, 0, none⟩ = some (.int .u8 x0) ∧ wx.cell? ⟨p + 1, 1, none⟩ = some (.int .u8 x1) ∧ wx.cell? ⟨p + 1, 2, none⟩ = some (.int .u64 q) ∧ wx.cell? ⟨p + 1, 3, none⟩ = some (.int .i64 N) ∧ wx.cell? ⟨p + 1, 4, none⟩ = some (.slice va m cap) := by
    intro wx b1 b2
    refine ⟨?_, ?_, ?_, ?_, ?_, ?_, ?_⟩ <;> first | (rw [cell_of_row wx _ _ _ _ _ b2]; rfl) | (rw [cell_of_row wx _ _ _ _ _ b1]; rfl)
  obtain ⟨k0, k1, k2, k3, k4, k5, k6⟩ := facts w2 hl2.box1 hl2.box2
  have HFA := Lib.hid facts
  have hg := hl2.rot3
  have hs2 : SliceOf w2 .i64 (.slice va m cap) xs := HS.out w2 (Touch.of_below hb2 F)
  have hst : ∀ wx, Touch F w2 wx → SliceOf wx .i64 (.slice va m cap) xs := fun wx ht => HS.out wx ((Touch.of_below hb2 F).trans ht (fun k hk => .inl hk))
  have HG := Lib.hid hg; have HS2 := Lib.hid hs2; have HST := Lib.hid hst
  clear facts hl2 hb2 hg hs2 hst
  by_cases c0 : x0 % 4 = 0
  · have ht : (((x0 : Int) % 4) == 0) = true := by rw [beq_iff_eq]; omega
    have hr : constR W room L q = R := by rw [← HR.out, if_pos c0]
    have hc := const_any HG.out.gr q h2
    rw [hr] at hc
    have HC := Lib.hid hc
    clear hc c0
    go_wp2_with fail
    go_at_call 40
    refine HC.out.mono ?_
    intro e w3 hp
    obtain ⟨F2, I2, rfl, hl3⟩ := HG.out.gpost hp
    have hl4 := hl3.rot4
    have hc2 := rconst_any hl4.rgr q h2
    rw [hr] at hc2
    obtain ⟨k0, k1, k2, k3, k4, k5, k6⟩ := HFA.out w3 hl3.box2 hl3.box3
    have HL4 := Lib.hid hl4; have HC2 := Lib.hid hc2
    clear hl3 hl4 hp hc2 hr
    go_wp2_with fail
    go_at_call 64
    refine HC2.out.mono ?_
    intro e w4 hp
    obtain ⟨F3, I3, rfl, hl5⟩ := HL4.out.rpost hp
    have HL5 := Lib.hid hl5
    clear hl5 hp
    go_wp2
    go_ret
    exact ⟨rfl, F2, I2, F3, I3, HL5.out.rot4.rot4.drop.drop.swap⟩
  · have ht : (((x0 : Int) % 4) == 0) = false := by rw [beq_eq_false_iff_ne]; omega
    by_cases c1 : x0 % 4 = 1
    · have ht1 : (((x0 : Int) % 4) == 1) = true := by rw [beq_iff_eq]; omega
      have hr : varR room L N = R := by rw [← HR.out, if_neg c0, if_pos c1]
      have hc := var_any HG.out.gr N
      rw [hr] at hc
      have HC := Lib.hid hc
      clear hc c0 c1
      go_wp2_with fail
      go_at_call 36
      refine HC.out.mono ?_
      intro e w3 hp
      obtain ⟨F2, I2, rfl, hl3⟩ := HG.out.gpost hp
      have hl4 := hl3.rot4
      have hc2 := rvar_any hl4.rgr N
      rw [hr] at hc2
      obtain ⟨k0, k1, k2, k3, k4, k5, k6⟩ := HFA.out w3 hl3.box2 hl3.box3
      have HL4 := Lib.hid hl4; have HC2 := Lib.hid hc2
      clear hl3 hl4 hp hc2 hr
      go_wp2_with fail
      go_at_call 65
      refine HC2.out.mono ?_
      intro e w4 hp
      obtain ⟨F3, I3, rfl, hl5⟩ := HL4.out.rpost hp
      have HL5 := Lib.hid hl5
      clear hl5 hp
      go_wp2
      go_ret
      exact ⟨rfl, F2, I2, F3, I3, HL5.out.rot4.rot4.drop.drop.swap⟩
    · have ht1 : (((x0 : Int) % 4) == 1) = false := by rw [beq_eq_false_iff_ne]; omega
      have hr : appR room L x1 xs = R := by rw [← HR.out, if_neg c0, if_neg c1]
      have hc := app_any HG.out.gr x1 h1 xs _ HS2.out
      rw [hr] at hc
      have HC := Lib.hid hc
      clear hc c0 c1
      go_wp2_with fail
      go_at_call 29
      refine HC.out.mono ?_
      intro e w3 hp
      have htch : Touch F w2 w3 := by obtain ⟨_, _, _, _, h, _⟩ := hp; exact h
      obtain ⟨F2, I2, rfl, hl3⟩ := HG.out.gpost hp
      have hl4 := hl3.rot4
      have hc2 := rapp_any hl4.rgr x1 h1 xs _ (HST.out w3 htch)
      rw [hr] at hc2
      obtain ⟨k0, k1, k2, k3, k4, k5, k6⟩ := HFA.out w3 hl3.box2 hl3.box3
      have HL4 := Lib.hid hl4; have HC2 := Lib.hid hc2
      clear hl3 hl4 hp hc2 hr htch
      go_wp2_with fail
      go_at_call 66
      refine HC2.out.mono ?_
      intro e w4 hp
      obtain ⟨F3, I3, rfl, hl5⟩ := HL4.out.rpost hp
      have HL5 := Lib.hid hl5
      clear hl5 hp
      go_wp2
      go_ret
      exact ⟨rfl, F2, I2, F3, I3, HL5.out.rot4.rot4.drop.drop.swap⟩
end Go.Proofs.Ytcpgiadhmmmafaa
namespace Go.Proofs.Ytcpgiadhmmmafaa
open Go.RowKit Go.Maps
set_option maxHeartbeats 800000

/-- What Node answers: the node and the error. -/
def nodeAt (L : List PNode) (t : Int) : PNode × Nat := if 0 ≤ t ∧ t < (L.length : Int) then (L.getD t.toNat (0, 0, []), 0) else ((0, 0, []), 3)
theorem nodeAt_in {L : List PNode} {i : Nat} {n : PNode} (h : L[i]? = some n) : nodeAt L (i : Int) = (n, 0) := by
  have hl := (List.getElem?_eq_some_iff.1 h).1
  unfold nodeAt
  rw [if_pos (by omega), Int.toNat_natCast, List.getD_eq_getElem?_getD, h]; rfl
section
variable {w : World} {base : Nat} {F I F' I' : List Nat} {gb rb W room : Nat} {L : List PNode}
theorem node_t (h : Gr w base F I gb W room L) (t : Int) :
    Calls Try.prog 52 #[.pointer (some ⟨gb, 0, none⟩), .int .i64 t] w fun e w' => ∃ a m c, e = .returned (.tuple #[.agg #[.int .u8 (nodeAt L t).1.1, .int .u64 (nodeAt L t).1.2.1, .slice a m c], .int .i64 (nodeAt L t).2]) ∧ OwnInts w' w.heap.size 3 .i64 (.slice a m c) (nodeAt L t).1.2.2 ∧ Below w.heap.size w w' := by
  by_cases ht : 0 ≤ t ∧ t < (L.length : Int)
  · obtain ⟨i, rfl⟩ := Int.eq_ofNat_of_zero_le ht.1
    obtain ⟨n, hn⟩ : ∃ n, L[i]? = some n := ⟨_, List.getElem?_eq_getElem (by omega)⟩
    rw [nodeAt_in hn]
    refine (node_at h i n hn).mono ?_
    rintro e w' ⟨va, rfl, hv, hb⟩
    obtain ⟨a, m, c, rfl⟩ := hv.val
    exact ⟨a, m, c, rfl, hv, hb⟩
  · have : nodeAt L t = ((0, 0, []), 3) := by unfold nodeAt; rw [if_neg ht]
    rw [this]
    refine (node_out h t (by omega)).mono ?_
    rintro e w' ⟨rfl, hb⟩
    exact ⟨none, 0, 0, rfl, OwnInts.nil _ _ _ _, hb⟩
theorem rnode_t (h : RGr w base F I rb W room L) (t : Int) :
    Calls Try.prog 53 #[.pointer (some ⟨rb, 0, none⟩), .int .i64 t] w fun e w' => ∃ a m c, e = .returned (.tuple #[.agg #[.int .u8 (nodeAt L t).1.1, .int .u64 (nodeAt L t).1.2.1, .slice a m c], .int .i64 (nodeAt L t).2]) ∧ OwnInts w' w.heap.size 3 .i64 (.slice a m c) (nodeAt L t).1.2.2 ∧ Below w.heap.size w w' := by
  by_cases ht : 0 ≤ t ∧ t < (L.length : Int)
  · obtain ⟨i, rfl⟩ := Int.eq_ofNat_of_zero_le ht.1
    obtain ⟨n, hn⟩ : ∃ n, L[i]? = some n := ⟨_, List.getElem?_eq_getElem (by omega)⟩
    rw [nodeAt_in hn]
    refine (rnode_at h i n hn).mono ?_
    rintro e w' ⟨va, rfl, hv, hb⟩
    obtain ⟨a, m, c, rfl⟩ := hv.val
    exact ⟨a, m, c, rfl, hv, hb⟩
  · have : nodeAt L t = ((0, 0, []), 3) := by unfold nodeAt; rw [if_neg ht]
    rw [this]
    refine (rnode_out h t (by omega)).mono ?_
    rintro e w' ⟨rfl, hb⟩
    exact ⟨none, 0, 0, rfl, OwnInts.nil _ _ _ _, hb⟩
theorem nodeAt_short {L : List PNode} (h : WFL L) (t : Int) : (nodeAt L t).1.2.2.length ≤ 3 := by
  unfold nodeAt
  split
  · rename_i ht
    obtain ⟨i, rfl⟩ := Int.eq_ofNat_of_zero_le ht.1
    obtain ⟨n, hn⟩ : ∃ n, L[i]? = some n := ⟨_, List.getElem?_eq_getElem (by omega)⟩
    rw [Int.toNat_natCast, List.getD_eq_getElem?_getD, hn]
    have := (h.ok n (List.mem_of_getElem? hn)).2.2
    have := aryN_le n.1
    show n.2.2.length ≤ 3
    omega
  · simp
theorem width_quiet (h : Gr w 0 F I gb W room L) (n : Nat) : Calls Try.prog 35 #[.pointer (some ⟨gb, 0, none⟩)] (w.drewN n) fun e w' => e = .returned (.int .i64 W) ∧ ∃ m, w' = w.drewN m :=
  (width_any (h.drewN n)).mono fun _ _ ⟨a, b⟩ => ⟨a, n, b.symm⟩
theorem same_none (w : World) : Calls Try.prog 21 #[.agg #[.pointer none, .pointer none]] w fun e w' => e = .returned (.bool true) ∧ Below w.heap.size w w' := by
  go_enter Try.func21, Try.ntmps21
  go_wp2_with (go_at_call 24; refine (len_nil _).mono ?_; rintro e w2 ⟨rfl, rfl⟩)
  go_ret
  exact ⟨rfl, below_new _ _⟩
set_option maxRecDepth 100000 in
theorem same_any (hg : Gr w 0 F I gb W room L) (hr : RGr w 0 F' I' rb W room L) :
    Calls Try.prog 21 #[.agg #[.pointer (some ⟨gb, 0, none⟩), .pointer (some ⟨rb, 0, none⟩)]] w fun e w' => e = .returned (.bool true) ∧ Below w.heap.size w w' := by
  have hll := hg.len
  have hr2 := hg.r2
  have HG := Lib.hid hg; have HR := Lib.hid hr
  obtain ⟨p, hp⟩ : ∃ p, w.heap.size = p := ⟨_, rfl⟩
  clear hg hr
  go_enter Try.func21, Try.ntmps21
  go_upto_region 1 with fail
  refine wp_abs (fun w1 => Below w.heap.size w w1 ∧ w1.heap[p]? = some (.cells #[.pointer (some ⟨gb, 0, none⟩), .pointer (some ⟨rb, 0, none⟩)] 27 (0, 0))) ⟨below_new _ _, by rw [← hp]; exact heap_alloc_new _ _⟩ ?_
  clear hp
  rintro w1 ⟨hb1, hx1⟩
  have hg1 := HG.out.later hb1
  obtain ⟨a, cap, q0, q1, q2, -⟩ := (HR.out.later hb1).parts
  have k0 : w1.cell? ⟨p, 0, none⟩ = some (.pointer (some ⟨gb, 0, none⟩)) := by rw [cell_of_row w1 p 0 _ _ _ hx1]; rfl
  have k1 : w1.cell? ⟨p, 1, none⟩ = some (.pointer (some ⟨rb, 0, none⟩)) := by rw [cell_of_row w1 p 1 _ _ _ hx1]; rfl
  have HG1 := Lib.hid hg1; have HB1 := Lib.hid hb1; have HX1 := Lib.hid hx1
  clear hg1 hb1 hx1
  go_wp2
  go_quiet ((first | (go_at_call 24; exact len_quiet HG1.out _) | (go_at_call 35; exact width_quiet HG1.out _)))
  refine wp_exit_abs (fun w2 => Below w1.heap.size w1 w2) (below_drewN (Below.refl _ _) _) ?_
  rintro w2 hb2
  clear q0 q1 q2 k0 k1
  go_wp2
  go_loopw [3] (fun i wr => ∃ k : Nat, k ≤ L.length + 2 ∧ i = .int .i64 ((k : Int) - 1) ∧ Below w1.heap.size w1 wr) (fun i _ => (L.length + 2 - ((intOf i) + 1)).toNat)
  case atStart => exact ⟨0, by omega, rfl, hb2⟩
  case round =>
    obtain ⟨k, hk, rfl, hbr⟩ := hrel
    have hbw := HB1.out.trans (hbr.mono HB1.out.size)
    have hxr := (hbr.block p (Array.getElem?_eq_some_iff.1 HX1.out).1).trans HX1.out
    obtain ⟨a, cap, q0, q1, q2, -⟩ := (HR.out.later hbw).parts
    have k0 : wr.cell? ⟨p, 0, none⟩ = some (.pointer (some ⟨gb, 0, none⟩)) := by rw [cell_of_row wr p 0 _ _ _ hxr]; rfl
    have k1 : wr.cell? ⟨p, 1, none⟩ = some (.pointer (some ⟨rb, 0, none⟩)) := by rw [cell_of_row wr p 1 _ _ _ hxr]; rfl
    have HBR := Lib.hid hbr; have HBW := Lib.hid hbw
    clear hbr hbw hxr
    by_cases hlt : k ≤ L.length + 1
    · have hn1 := node_t (HG.out.later HBW.out) ((k : Int) - 1)
      have hsh := nodeAt_short HG.out.wf ((k : Int) - 1)
      have hn2 : ∀ wx, Below w.heap.size w wx → _ := fun wx hb => rnode_t (HR.out.later hb) ((k : Int) - 1)
      generalize nodeAt L ((k : Int) - 1) = nd at *
      obtain ⟨⟨op, num, xs⟩, f⟩ := nd
      simp only at hn1 hn2 hsh
      have HN1 := Lib.hid hn1; have HN2 := Lib.hid hn2
      clear hn1 hn2
      have ht : decide ((k : Int) - 1 ≤ (L.length : Int)) = true := decide_eq_true (by omega)
      go_wp2_with fail
      go_at_call 52
      refine HN1.out.mono ?_
      rintro e w3 ⟨a1, m1, c1, rfl, hv1, hb3⟩
      obtain ⟨b1, hbk1⟩ : ∃ b1, w3.heap.size = b1 := ⟨_, rfl⟩
      have HV1 := Lib.hid hv1; have HB3 := Lib.hid hb3
      clear hv1 hb3 q0 q1 q2 k0 k1
      go_upto_region 9 with fail
      have HBK1 := Lib.hid hbk1
      clear hbk1
      refine wp_abs (fun w4 => Below wr.heap.size wr w4 ∧ SliceOf w4 .i64 (.slice a1 m1 c1) xs ∧ w4.heap[b1]? = some (.cells #[.int .u8 op, .int .u64 num, .slice a1 m1 c1] 106 (0, 0))) ?_ ?_
      · rw [← HBK1.out]
        exact ⟨HB3.out.trans ((below_new _ _).mono HB3.out.size), HV1.out.slice.below (below_new _ _), heap_alloc_new _ _⟩
      rintro w4 ⟨hb4, hv4, hx4⟩
      have hbw4 := HBW.out.trans (hb4.mono HBW.out.size)
      have hxp := (hb4.block p (by have := (Array.getElem?_eq_some_iff.1 HX1.out).1; have := HBR.out.size; omega)).trans ((HBR.out.block p (Array.getElem?_eq_some_iff.1 HX1.out).1).trans HX1.out)
      have k1 : w4.cell? ⟨p, 1, none⟩ = some (.pointer (some ⟨rb, 0, none⟩)) := by rw [cell_of_row w4 p 1 _ _ _ hxp]; rfl
      have hn2 := HN2.out w4 hbw4
      have HBW4 := Lib.hid hbw4; have HV4 := Lib.hid hv4; have HX4 := Lib.hid hx4; have HN3 := Lib.hid hn2; have HB4 := Lib.hid hb4
      clear hb4 hv4 hx4 hbw4 hxp hn2
      go_wp2_with fail
      go_at_call 53
      refine HN3.out.mono ?_
      rintro e w5 ⟨a2, m2, c2, rfl, hv2, hb5⟩
      obtain ⟨b2, hbk2⟩ : ∃ b2, w5.heap.size = b2 := ⟨_, rfl⟩
      have HV2 := Lib.hid hv2; have HB5 := Lib.hid hb5
      clear hv2 hb5 k1
      go_upto_region 10 with fail
      have HBK2 := Lib.hid hbk2
      clear hbk2
      refine wp_abs (fun w6 => Below w4.heap.size w4 w6 ∧ SliceOf w6 .i64 (.slice a2 m2 c2) xs ∧ w6.heap[b2]? = some (.cells #[.int .u8 op, .int .u64 num, .slice a2 m2 c2] 106 (0, 0))) ?_ ?_
      · rw [← HBK2.out]
        exact ⟨HB5.out.trans ((below_new _ _).mono HB5.out.size), HV2.out.slice.below (below_new _ _), heap_alloc_new _ _⟩
      rintro w6 ⟨hb6, hv6, hx6⟩
      have hx46 := (hb6.block b1 (Array.getElem?_eq_some_iff.1 HX4.out).1).trans HX4.out
      obtain ⟨e0, e1, e2⟩ := cells3 hx46
      obtain ⟨f0, f1, f2⟩ := cells3 hx6
      have hv1 : NodeV w6 (.agg #[.int .u8 op, .int .u64 num, .slice a1 m1 c1]) (op, num, xs) := ⟨_, rfl, HV4.out.below hb6, by show xs.length ≤ _; omega⟩
      have hv2 : NodeV w6 (.agg #[.int .u8 op, .int .u64 num, .slice a2 m2 c2]) (op, num, xs) := ⟨_, rfl, hv6, by show xs.length ≤ _; omega⟩
      have hcall := equalNode_any _ _ _ _ hv1 hv2
      rw [decide_eq_true rfl] at hcall
      have HCALL := Lib.hid hcall; have HB6 := Lib.hid (HB4.out.trans (hb6.mono HB4.out.size))
      clear hv1 hv2 hcall hb6 hv6 hx6 hx46
      go_wp2_with (go_at_call 54; refine HCALL.out.mono ?_; rintro e w7 ⟨rfl, hb7⟩)
      have hb8 := HB6.out.trans (hb7.mono HB6.out.size)
      go_roundw
      case rel => exact ⟨k + 1, by omega, by congr 1; omega, HBR.out.trans (hb8.mono HBR.out.size)⟩
      case measure => simp [intOf]; omega
    · obtain rfl : k = L.length + 2 := by omega
      have ht : decide (((L.length + 2 : Nat) : Int) - 1 ≤ (L.length : Int)) = false := decide_eq_false (by omega)
      go_wp2
      go_ret
      exact ⟨rfl, HBW.out⟩
end
end Go.Proofs.Ytcpgiadhmmmafaa
