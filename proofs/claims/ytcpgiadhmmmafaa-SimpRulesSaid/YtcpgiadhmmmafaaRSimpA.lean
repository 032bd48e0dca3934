/- The reference's simple terms: Number, one, three. -/
import Derived.Test.YtcpgiadhmmmafaaRGraphC
import Derived.Test.YtcpgiadhmmmafaaPlainS
import Derived.Test.YtcpgiadhmmmafaaEvalT
namespace Go.Proofs.Ytcpgiadhmmmafaa
open Go.RowKit Go.Maps
set_option maxHeartbeats 1600000

section
variable {w : World} {base : Nat} {F I : List Nat} {rb W room : Nat} {L : List PNode}
theorem rnumber_any (h : RGr w base F I rb W room L) (t : Int) :
    Calls Try.prog 32 #[.pointer (some ⟨rb, 0, none⟩), .int .i64 t] w fun e w' => e = .returned (.tuple #[.int .u64 (numD L t), .bool (isNum L t)]) ∧ w = w' := by
  have his := rIs_any h t
  by_cases hin : (0 : Int) ≤ t ∧ t < (L.length : Int)
  · obtain ⟨i, rfl⟩ := Int.eq_ofNat_of_zero_le hin.1
    obtain ⟨n, hi⟩ : ∃ n, L[i]? = some n := ⟨_, List.getElem?_eq_getElem (by omega)⟩
    obtain ⟨g, cap, va, c2, k0, k1, k2, -⟩ := h.node hi
    have hll := h.r2
    have hlr := h.len
    rw [show isT L (i : Int) = true from decide_eq_true hin] at his
    have HIS := Lib.hid his
    have hil : (i : Int) < (L.length : Int) := hin.2
    have hnum : numOf L (i : Int) = if n.1 = 0 then some n.2.1 else none := by
      unfold numOf
      rw [if_pos (by omega), Int.toNat_natCast, hi]
    by_cases h0 : n.1 = 0
    · rw [if_pos h0] at hnum
      have e1 : numD L (i : Int) = n.2.1 := by unfold numD; rw [hnum]; rfl
      have e2 : isNum L (i : Int) = true := by unfold isNum; rw [hnum]; rfl
      rw [e1, e2]
      have q0 : (((n.1 : Nat) : Int) != 0) = false := by rw [h0]; rfl
      clear his h hnum e1 e2 h0 hi hin
      go_enter Try.func32, Try.ntmps32
      go_wp2_with (go_at_call 59; refine HIS.out.mono ?_; rintro e w2 ⟨rfl, rfl⟩)
      go_ret2
      exact ⟨rfl, rfl⟩
    · rw [if_neg h0] at hnum
      have e1 : numD L (i : Int) = 0 := by unfold numD; rw [hnum]; rfl
      have e2 : isNum L (i : Int) = false := by unfold isNum; rw [hnum]; rfl
      rw [e1, e2]
      have q0 : (((n.1 : Nat) : Int) != 0) = true := by rw [bne_iff_ne]; omega
      clear his h hnum e1 e2 h0 hi hin
      go_enter Try.func32, Try.ntmps32
      go_wp2_with (go_at_call 59; refine HIS.out.mono ?_; rintro e w2 ⟨rfl, rfl⟩)
      go_ret2
      exact ⟨rfl, rfl⟩
  · rw [show isT L t = false from decide_eq_false hin] at his
    have HIS := Lib.hid his
    have hnum : numOf L t = none := by
      unfold numOf
      by_cases h0 : 0 ≤ t
      · rw [if_pos h0, List.getElem?_eq_none (by omega)]
      · rw [if_neg h0]
    have e1 : numD L t = 0 := by unfold numD; rw [hnum]; rfl
    have e2 : isNum L t = false := by unfold isNum; rw [hnum]; rfl
    rw [e1, e2]
    clear his h hnum e1 e2 hin
    go_enter Try.func32, Try.ntmps32
    go_wp2_with (go_at_call 59; refine HIS.out.mono ?_; rintro e w2 ⟨rfl, rfl⟩)
    go_ret2
    exact ⟨rfl, rfl⟩
theorem rone_any (h : RGr w base F I rb W room L) (o x : Nat) (ho : o = 2 ∨ o = 3) (hx : x < L.length) :
    Calls Try.prog 72 #[.pointer (some ⟨rb, 0, none⟩), .int .u8 o, .int .i64 x] w (RPost w base F I rb W room ((oneA L o x).res W room L)) := by
  obtain ⟨n, hi⟩ : ∃ n, L[x]? = some n := ⟨_, List.getElem?_eq_getElem hx⟩
  obtain ⟨g, cap, va, c2, k0, k1, k2, hva⟩ := h.node hi
  obtain ⟨a, m, c, rfl, hm, -⟩ := hva.slice.parts
  have hll := h.r2
  have hlr := h.len
  have hargs := h.wf.args x n hi
  have hok := h.wf.ok n (List.mem_of_getElem? hi)
  obtain ⟨p, hp⟩ : ∃ p, w.heap.size = p := ⟨_, rfl⟩
  have hb1 := below_new w (.cells #[.int .u8 n.1, .int .u64 n.2.1, .slice a m c] 106)
  have hk1 : (w.alloc (.cells #[.int .u8 n.1, .int .u64 n.2.1, .slice a m c] 106)).heap[p]? = some (.cells #[.int .u8 n.1, .int .u64 n.2.1, .slice a m c] 106 (0, 0)) := by rw [← hp]; exact heap_alloc_new w _
  obtain ⟨R, hR⟩ : ∃ R, (oneA L o (x : Int)).res W room L = R := ⟨_, rfl⟩
  rw [hR]
  have HB := Lib.hid hb1; have HK := Lib.hid hk1; have HR := Lib.hid hR; have HG := Lib.hid h; have HI := Lib.hid hi; have HVA := Lib.hid hva; have HO := Lib.hid ho; have HARGS := Lib.hid hargs; have HOK := Lib.hid hok; have HM := Lib.hid hm
  clear hb1 hk1 h hR hi hva ho hargs hok hm
  go_enter Try.func72, Try.ntmps72
  go_upto_region 2 with fail
  clear hp c2 k0 k1 k2
  refine wp_abs (fun w1 => Below w.heap.size w w1 ∧ w1.heap[p]? = some (.cells #[.int .u8 n.1, .int .u64 n.2.1, .slice a m c] 106 (0, 0))) ⟨HB.out, HK.out⟩ ?_
  rintro w1 ⟨hb1, hx1⟩
  obtain ⟨d0, d1, d2⟩ := cells3 hx1
  have HB1 := Lib.hid hb1
  clear hb1 hx1 HB HK
  by_cases hno : n.1 = o
  · have q0 : (((n.1 : Nat) : Int) == (o : Int)) = true := by rw [beq_iff_eq]; omega
    have hl1 : n.2.2.length = 1 := by
      have := HOK.out.2.2
      rw [this, hno]
      rcases HO.out with h | h <;> rw [h] <;> rfl
    have hm1 : m = 1 := by have := HM.out; omega
    subst hm1
    obtain ⟨b, off, u, rfl, hc, hu⟩ := SliceOf.parts' (HVA.out.slice.below HB1.out) (i := 0) (by decide)
    rw [Nat.add_zero] at hc
    have hu0 := HARGS.out u (List.mem_of_getElem? hu)
    obtain ⟨z, rfl⟩ := Int.eq_ofNat_of_zero_le hu0.1
    have hRR : R = (L, z, 0) := by
      rw [← HR.out]
      unfold oneA
      rw [Int.toNat_natCast, HI.out]
      dsimp only
      rw [if_pos hno, List.getD_eq_getElem?_getD, hu]
      rfl
    subst hRR
    clear hu hu0 hl1 hno
    go_wp2
    go_ret2
    exact RPost.same HG.out HB1.out z 0
  · have q0 : (((n.1 : Nat) : Int) == (o : Int)) = false := by rw [beq_eq_false_iff_ne]; omega
    have hRR : R = appR room L o [(x : Int)] := by
      rw [← HR.out]
      unfold oneA
      rw [Int.toNat_natCast, HI.out]
      dsimp only
      rw [if_neg hno]
      rfl
    subst hRR
    have hb2 := HB1.out.trans ((below_new w1 (.cells (([(x : Int)].map (Value.int .i64)).toArray) 3)).mono HB1.out.size)
    have HC := Lib.hid (rapp_any (HG.out.later hb2) o (by rcases HO.out with h | h <;> omega) [(x : Int)] _ (sliceOf_new w1 .i64 3 [(x : Int)] 1))
    have HB2 := Lib.hid hb2
    clear hb2 hno
    go_wp2_with fail
    go_at_call 66
    refine HC.out.mono ?_
    intro e w4 hp
    obtain ⟨F', I', rfl, hrest⟩ := hp.later HB2.out
    have HQ := Lib.hid hrest
    clear hp hrest
    go_wp2
    go_ret2
    exact ⟨F', I', rfl, HQ.out⟩
theorem rthree_any (h : RGr w base F I rb W room L) (x y z : Nat) :
    Calls Try.prog 74 #[.pointer (some ⟨rb, 0, none⟩), .int .i64 x, .int .i64 y, .int .i64 z] w (RPost w base F I rb W room ((threeA L x y z).res W room L)) := by
  obtain ⟨R, hR⟩ : ∃ R, (threeA L (x : Int) y z).res W room L = R := ⟨_, rfl⟩
  rw [hR]
  have hnum := rnumber_any h (x : Int)
  unfold threeA at hR
  by_cases hyz : y = z
  · subst hyz
    rw [if_pos rfl] at hR
    subst hR
    have HG := Lib.hid h
    clear h hnum
    go_enter Try.func74, Try.ntmps74
    go_wp2
    go_ret2
    exact RPost.same HG.out (Below.refl _ _) y 0
  · rw [if_neg (by omega)] at hR
    have q0 : ((y : Int) == (z : Int)) = false := by rw [beq_eq_false_iff_ne]; omega
    clear hyz
    cases hn : isNum L (x : Int) with
    | true =>
      rw [hn, if_pos rfl] at hR
      rw [hn] at hnum
      obtain ⟨c, hc⟩ : ∃ c, numD L (x : Int) = c := ⟨_, rfl⟩
      rw [hc] at hR hnum
      have HN := Lib.hid hnum; have HG := Lib.hid h
      clear hnum h hc hn
      by_cases h0 : c = 0
      · subst h0
        have q1 : (((0 : Nat) : Int) != 0) = false := by simp
        rw [if_neg (by simp)] at hR
        subst hR
        go_enter Try.func74, Try.ntmps74
        go_wp2_with (go_at_call 32; refine HN.out.mono ?_; rintro e w2 ⟨rfl, rfl⟩)
        go_ret2
        exact RPost.same HG.out (Below.refl _ _) z 0
      · have q1 : ((c : Int) != 0) = true := by rw [bne_iff_ne]; omega
        rw [if_pos h0] at hR
        subst hR
        clear h0
        go_enter Try.func74, Try.ntmps74
        go_wp2_with (go_at_call 32; refine HN.out.mono ?_; rintro e w2 ⟨rfl, rfl⟩)
        go_ret2
        exact RPost.same HG.out (Below.refl _ _) y 0
    | false =>
      rw [hn, if_neg (by simp)] at hR
      rw [hn] at hnum
      subst hR
      have hb2 := below_new w (.cells (([(x : Int), y, z].map (Value.int .i64)).toArray) 3)
      have HC := Lib.hid (rapp_any (h.later hb2) 21 (by decide) [(x : Int), y, z] _ (sliceOf_new w .i64 3 [(x : Int), y, z] 3))
      have HB2 := Lib.hid hb2; have HN := Lib.hid hnum
      clear hb2 hnum h hn
      go_enter Try.func74, Try.ntmps74
      go_wp2_with (go_at_call 32; refine HN.out.mono ?_; rintro e w2 ⟨rfl, rfl⟩)
      go_at_call 66
      refine HC.out.mono ?_
      intro e w4 hp
      obtain ⟨F', I', rfl, hrest⟩ := hp.later HB2.out
      have HQ := Lib.hid hrest
      clear hp hrest
      go_wp2
      go_ret2
      exact ⟨F', I', rfl, HQ.out⟩
end
end Go.Proofs.Ytcpgiadhmmmafaa
