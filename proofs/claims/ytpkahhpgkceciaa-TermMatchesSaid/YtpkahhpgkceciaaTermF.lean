/- TermMatches of law 10. -/
import Derived.Test.YtpkahhpgkceciaaBothB
import Derived.Test.YtpkahhpgkceciaaGraphG
namespace Go.Proofs.Ytpkahhpgkceciaa
open Go.RowKit Go.Maps
set_option maxHeartbeats 800000

theorem Lab.awakeF {w0 wr : World} {ts : List Thing} (h : Lab w0 wr ts) : Calls Try.prog 22 #[] wr fun e w' => e = .returned (.bool true) ∧ Below w0.heap.size w0 w' :=
  (awake_any wr).mono fun _ _ ⟨he, hb⟩ => ⟨he, h.below.trans (hb.mono h.size)⟩
/-- What the law's loop keeps: the graph and its copy, or the graph alone. -/
def BothInv (w wr : World) (gb rb W room pb : Nat) : Prop :=
  ∃ gc rc F I F' I' L rest, Lab w wr (Thing.graph F I gc W room L :: Thing.rgraph F' I' rc W room L :: Thing.box (pb + 1) 61 #[.pointer (some ⟨gc, 0, none⟩), .pointer (some ⟨rc, 0, none⟩)] :: Thing.box pb 61 #[.pointer (some ⟨gb, 0, none⟩), .pointer (some ⟨rb, 0, none⟩)] :: rest) ∧
    ((rest = [] ∧ gc = gb ∧ rc = rb) ∨ ∃ F I F' I' L', rest = [Thing.graph F I gb W room L', Thing.rgraph F' I' rb W room L'])
/-- The first one of both, alone. -/
theorem BothInv.first {w wr : World} {gb rb W room pb : Nat} (h : BothInv w wr gb rb W room pb) : ∃ gc rc F I F' I' L, Lab w wr [Thing.graph F I gb W room L, Thing.rgraph F' I' rb W room L, Thing.box (pb + 1) 61 #[.pointer (some ⟨gc, 0, none⟩), .pointer (some ⟨rc, 0, none⟩)], Thing.box pb 61 #[.pointer (some ⟨gb, 0, none⟩), .pointer (some ⟨rb, 0, none⟩)]] := by
  obtain ⟨gc, rc, F, I, F', I', L, rest, hl, ⟨rfl, rfl, rfl⟩ | ⟨F2, I2, F2', I2', L2, rfl⟩⟩ := h
  · exact ⟨_, _, _, _, _, _, _, hl⟩
  · exact ⟨_, _, _, _, _, _, _, hl.drop.drop.rot4.rot4⟩
theorem BothInv.cells {w wr : World} {gb rb W room pb : Nat} (h : BothInv w wr gb rb W room pb) : wr.cell? ⟨pb, 0, none⟩ = some (.pointer (some ⟨gb, 0, none⟩)) ∧ wr.cell? ⟨pb, 1, none⟩ = some (.pointer (some ⟨rb, 0, none⟩)) := by
  obtain ⟨gc, rc, F, I, F', I', L, hl⟩ := h.first
  have hb : wr.heap[pb]? = _ := hl.fourth
  exact ⟨by rw [cell_of_row wr pb 0 _ _ _ hb]; rfl, by rw [cell_of_row wr pb 1 _ _ _ hb]; rfl⟩
theorem BothInv.later {w wr w' : World} {gb rb W room pb : Nat} (h : BothInv w wr gb rb W room pb) (hb : Below wr.heap.size wr w') : BothInv w w' gb rb W room pb := by
  obtain ⟨gc, rc, F, I, F', I', L, rest, hl, hr⟩ := h
  exact ⟨gc, rc, F, I, F', I', L, rest, hl.later hb, hr⟩
theorem BothInv.below {w wr : World} {gb rb W room pb : Nat} (h : BothInv w wr gb rb W room pb) : Below w.heap.size w wr := by
  obtain ⟨gc, rc, F, I, F', I', L, rest, hl, hr⟩ := h
  exact hl.below
theorem termMatches_bad {w : World} (Wi Mi Ai : Int) (v : Value) (h : ¬ newOk Wi Mi) (hv : ∃ a n c, v = .slice a n c) :
    Calls Try.prog 10 #[.int .i64 Wi, .int .i64 Mi, v, .int .i64 Ai] w fun e w' => e = .returned (.bool true) ∧ Below w.heap.size w w' := by
  obtain ⟨a, n, c, rfl⟩ := hv
  have HM := Lib.hid (make_bad Wi Mi h w)
  clear h
  go_enter Try.func10, Try.ntmps10
  go_wp2_with fail
  go_at_call 36
  refine HM.out.mono ?_
  rintro e w1 ⟨rfl, hb1⟩
  have hb2 := hb1.trans ((below_new w1 (.cells #[.pointer none, .pointer none] 61)).mono hb1.size)
  have HB2 := Lib.hid hb2
  clear hb1 hb2
  go_wp2_with fail
  go_at_call 37
  refine (same_none _).mono ?_
  rintro e w2 ⟨rfl, hb3⟩
  have hb4 := HB2.out.trans (hb3.mono HB2.out.size)
  go_wp2_with (go_at_call 22; refine (awake_any _).mono ?_; rintro e w3 ⟨rfl, hb5⟩)
  go_ret
  exact ⟨rfl, hb4.trans (hb5.mono hb4.size)⟩
set_option maxRecDepth 100000 in
theorem termMatches_ok {w : World} (Wi Mi Ai : Int) (v : Value) (h : newOk Wi Mi) (qs : List PAsk) (hv : AsksOf w v qs) (hq : qs.length ≤ 9223372036854775807) :
    Calls Try.prog 10 #[.int .i64 Wi, .int .i64 Mi, v, .int .i64 Ai] w fun e w' => e = .returned (.bool true) ∧ Below w.heap.size w w' := by
  obtain ⟨a, cap, rfl⟩ := hv.parts
  obtain ⟨n, hn⟩ : ∃ n, qs.length = n := ⟨_, rfl⟩
  rw [hn] at hv hq ⊢
  have HM := Lib.hid (make_any (Lab.nil (Below.refl w.heap.size w)) Wi Mi h); have HV := Lib.hid hv
  clear h hv hn
  generalize Wi.toNat = W at *
  generalize roomOf Mi = room at *
  go_enter Try.func10, Try.ntmps10
  go_wp2_with fail
  go_at_call 36
  refine HM.out.mono ?_
  rintro e w1 ⟨gb, rb, F0, F0', rfl, hlab1⟩
  obtain ⟨pb, hpb⟩ : ∃ pb, w1.heap.size = pb := ⟨_, rfl⟩
  have hl2 := (hlab1.alloc #[.pointer (some ⟨gb, 0, none⟩), .pointer (some ⟨rb, 0, none⟩)] 61).alloc #[.pointer (some ⟨gb, 0, none⟩), .pointer (some ⟨rb, 0, none⟩)] 61
  rw [World.size_alloc, hpb] at hl2
  have HL2 := Lib.hid hl2
  clear hlab1 hl2
  go_upto_block 0 with fail
  clear hpb
  refine wp_abs (fun w2 => Lab w w2 [Thing.box (pb + 1) 61 #[.pointer (some ⟨gb, 0, none⟩), .pointer (some ⟨rb, 0, none⟩)], Thing.box pb 61 #[.pointer (some ⟨gb, 0, none⟩), .pointer (some ⟨rb, 0, none⟩)], Thing.graph F0 [] gb W room [], Thing.rgraph F0' [] rb W room []]) HL2.out ?_
  rintro w2 hl2
  have hinv : BothInv w w2 gb rb W room pb := ⟨gb, rb, F0, [], F0', [], [], [], hl2.rot4.rot4, .inl ⟨rfl, rfl, rfl⟩⟩
  have HI := Lib.hid hinv
  clear hl2 hinv HL2 HM
  go_wp2
  go_loopw [12] (fun i wr => ∃ k : Nat, k ≤ n ∧ k ≤ 120 ∧ i = .int .i64 k ∧ BothInv w wr gb rb W room pb) (fun i _ => n - (intOf i).toNat)
  case atStart => exact ⟨0, by omega, by omega, rfl, HI.out⟩
  case round =>
    obtain ⟨k, hk, hk2, rfl, hinv⟩ := hrel
    have HIk := Lib.hid hinv
    clear hinv
    by_cases hlt : k < n
    · by_cases hlt2 : k < 120
      · obtain ⟨b, off, x, va, rfl, hx, hok, hav, c0, c1, c2, c3, c4⟩ := HV.out.at hlt
        have HA := Lib.hid hav.slice; have HOK := Lib.hid hok; have HC := Lib.hid (And.intro c0 (And.intro c1 (And.intro c2 (And.intro c3 c4))))
        clear hx hav hok c0 c1 c2 c3 c4
        go_upto_if 42 with fail
        go_cut [12] (fun i wx => i = .int .i64 k ∧ BothInv w wx gb rb W room pb)
        case first =>
          by_cases hat : (k : Int) = Ai
          · have ht : ((k : Int) == Ai) = true := by rw [beq_iff_eq]; exact hat
            clear hat
            obtain ⟨k0, k1⟩ := HIk.out.cells
            obtain ⟨gc, rc, F, I, F', I', L, hl⟩ := HIk.out.first
            have hcp := (hl.later (Below.refl _ _).drew).copy
            have HCP := Lib.hid hcp
            clear hl hcp
            go_wp2
            go_region_held3 (fun w' => w'.cell? ⟨pb, 0, none⟩ = some (.pointer (some ⟨gb, 0, none⟩)) ∧ w'.cell? ⟨pb, 1, none⟩ = some (.pointer (some ⟨rb, 0, none⟩)))
              (first | exact ⟨k0, k1⟩ | exact ⟨by assumption, by assumption⟩ | go_keep)
              (first | (go_at_call 35; refine HCP.out.mono ?_; rintro e w3 ⟨gc2, F2, J2, rfl, hl3⟩; have hb3 : w3.heap[pb]? = _ := (hl3.rot5).head; have m0 : w3.cell? ⟨pb, 0, none⟩ = some (.pointer (some ⟨gb, 0, none⟩)) := by { rw [cell_of_row w3 pb 0 _ _ _ hb3]; rfl }; have m1 : w3.cell? ⟨pb, 1, none⟩ = some (.pointer (some ⟨rb, 0, none⟩)) := by { rw [cell_of_row w3 pb 1 _ _ _ hb3]; rfl }) | (go_at_call 38; refine (hl3.rcopy hl3.third).mono ?_; rintro e w4 ⟨rc2, F3, I3, rfl, hb4, hl4⟩; have n0 := cell_later hb4 m0; have n1 := cell_later hb4 m1; have hbx : w4.heap[pb + 1]? = _ := hl4.rot5.head; have p0 : w4.cell? ⟨pb + 1, 0, none⟩ = some (.pointer (some ⟨gc, 0, none⟩)) := by { rw [cell_of_row w4 _ 0 _ _ _ hbx]; rfl }; have p1 : w4.cell? ⟨pb + 1, 1, none⟩ = some (.pointer (some ⟨rc, 0, none⟩)) := by { rw [cell_of_row w4 _ 1 _ _ _ hbx]; rfl }; have p2 := frozen_of_row w4 (pb + 1) 0 _ _ hbx; have p3 := frozen_of_row w4 (pb + 1) 1 _ _ hbx))
            go_wp2
            go_meet
            exact ⟨rfl, gc2, rc2, _, _, _, _, _, _, ((hl4.rot5.store 0 (.pointer (some ⟨gc2, 0, none⟩))).store 1 (.pointer (some ⟨rc2, 0, none⟩))).rot6.swap.rot3.rot4, .inr ⟨_, _, _, _, _, rfl⟩⟩
          · have ht : ((k : Int) == Ai) = false := by rw [beq_eq_false_iff_ne]; exact hat
            clear hat
            go_wp2
            go_meet
            exact ⟨rfl, HIk.out⟩
        case rest =>
          obtain ⟨rfl, hinv⟩ := hcut
          obtain ⟨gc, rc, F, I, F', I', L, rest, hl, hrest⟩ := hinv
          have hbc := hl.box3
          have d0 : wc.cell? ⟨pb + 1, 0, none⟩ = some (.pointer (some ⟨gc, 0, none⟩)) := by rw [cell_of_row wc _ 0 _ _ _ hbc]; rfl
          have d1 : wc.cell? ⟨pb + 1, 1, none⟩ = some (.pointer (some ⟨rc, 0, none⟩)) := by rw [cell_of_row wc _ 1 _ _ _ hbc]; rfl
          obtain ⟨c0, c1, c2, c3, c4⟩ := HC.out
          replace c0 := cell_later hl.below c0
          replace c1 := cell_later hl.below c1
          replace c2 := cell_later hl.below c2
          replace c3 := cell_later hl.below c3
          replace c4 := cell_later hl.below c4
          obtain ⟨av, mv, cv, rfl, -, -⟩ := HA.out.parts
          have hld := hl.later (Below.refl _ _).drew
          have hdo := do_any hld x _ (hld.stays HA.out) HOK.out
          have HD := Lib.hid hdo; have HR := Lib.hid hrest
          clear hl hrest hbc hld hdo
          go_wp2
          go_still_tail 5, (by kernel_rfl)
          simp only [World.drew_eq]
          go_wp2_with fail
          go_at_call 39
          refine HD.out.mono ?_
          rintro e w3 ⟨rfl, F2, I2, F2', I2', hl3⟩
          have hinv3 : BothInv w w3 gb rb W room pb := ⟨gc, rc, F2, I2, F2', I2', _, rest, hl3, HR.out⟩
          have HI3 := Lib.hid hinv3
          clear hl3 hinv3
          go_wp2
          go_roundw
          case rel => exact ⟨k + 1, by omega, by omega, by go_num, HI3.out⟩
          case measure => simp [intOf]; omega
      · obtain rfl : k = 120 := by omega
        obtain ⟨k0, k1⟩ := HIk.out.cells
        obtain ⟨gc, rc, F, I, F', I', L, hl⟩ := HIk.out.first
        obtain ⟨gc2, rc2, F2, I2, F2', I2', L2, rest, hl2, -⟩ := HIk.out
        have hbc := hl2.box3
        have HS1 := Lib.hid (same_any hl.gr hl.rgr2)
        have hs2 : ∀ wx, Below wr.heap.size wr wx → Calls Try.prog 37 #[.agg #[.pointer (some ⟨gc2, 0, none⟩), .pointer (some ⟨rc2, 0, none⟩)]] wx fun e w' => e = .returned (.bool true) ∧ Below wx.heap.size wx w' := fun wx hb => same_any (hl2.gr.later hb) (hl2.rgr2.later hb)
        have HS2 := Lib.hid hs2
        have d0 : wr.cell? ⟨pb + 1, 0, none⟩ = some (.pointer (some ⟨gc2, 0, none⟩)) := by rw [cell_of_row wr _ 0 _ _ _ hbc]; rfl
        have d1 : wr.cell? ⟨pb + 1, 1, none⟩ = some (.pointer (some ⟨rc2, 0, none⟩)) := by rw [cell_of_row wr _ 1 _ _ _ hbc]; rfl
        clear hl hl2 hbc hs2
        go_wp2_with fail
        go_at_call 37
        refine HS1.out.mono ?_
        rintro e w3 ⟨rfl, hb3⟩
        have e0 := cell_later hb3 d0
        have e1 := cell_later hb3 d1
        have HB3 := Lib.hid hb3
        clear hb3
        go_wp2_with fail
        go_at_call 37
        refine (HS2.out _ HB3.out).mono ?_
        rintro e w4 ⟨rfl, hb4⟩
        have hb5 := HIk.out.below.trans ((HB3.out.trans (hb4.mono HB3.out.size)).mono HIk.out.below.size)
        have HB5 := Lib.hid hb5
        clear hb4 hb5
        go_wp2_with (go_at_call 22; refine (awake_any _).mono ?_; rintro e w5 ⟨rfl, hb6⟩)
        go_ret
        exact ⟨rfl, HB5.out.trans (hb6.mono HB5.out.size)⟩
    · obtain rfl : k = n := by omega
      obtain ⟨k0, k1⟩ := HIk.out.cells
      obtain ⟨gc, rc, F, I, F', I', L, hl⟩ := HIk.out.first
      obtain ⟨gc2, rc2, F2, I2, F2', I2', L2, rest, hl2, -⟩ := HIk.out
      have hbc := hl2.box3
      have HS1 := Lib.hid (same_any hl.gr hl.rgr2)
      have hs2 : ∀ wx, Below wr.heap.size wr wx → Calls Try.prog 37 #[.agg #[.pointer (some ⟨gc2, 0, none⟩), .pointer (some ⟨rc2, 0, none⟩)]] wx fun e w' => e = .returned (.bool true) ∧ Below wx.heap.size wx w' := fun wx hb => same_any (hl2.gr.later hb) (hl2.rgr2.later hb)
      have HS2 := Lib.hid hs2
      have d0 : wr.cell? ⟨pb + 1, 0, none⟩ = some (.pointer (some ⟨gc2, 0, none⟩)) := by rw [cell_of_row wr _ 0 _ _ _ hbc]; rfl
      have d1 : wr.cell? ⟨pb + 1, 1, none⟩ = some (.pointer (some ⟨rc2, 0, none⟩)) := by rw [cell_of_row wr _ 1 _ _ _ hbc]; rfl
      clear hl hl2 hbc hs2
      go_wp2_with fail
      go_at_call 37
      refine HS1.out.mono ?_
      rintro e w3 ⟨rfl, hb3⟩
      have e0 := cell_later hb3 d0
      have e1 := cell_later hb3 d1
      have HB3 := Lib.hid hb3
      clear hb3
      go_wp2_with fail
      go_at_call 37
      refine (HS2.out _ HB3.out).mono ?_
      rintro e w4 ⟨rfl, hb4⟩
      have hb5 := HIk.out.below.trans ((HB3.out.trans (hb4.mono HB3.out.size)).mono HIk.out.below.size)
      have HB5 := Lib.hid hb5
      clear hb4 hb5
      go_wp2_with (go_at_call 22; refine (awake_any _).mono ?_; rintro e w5 ⟨rfl, hb6⟩)
      go_ret
      exact ⟨rfl, HB5.out.trans (hb6.mono HB5.out.size)⟩
end Go.Proofs.Ytpkahhpgkceciaa
