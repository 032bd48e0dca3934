/- TermGrows of law 10. -/
import Derived.Test.YtpkahhpgkceciaaFill
import Derived.Test.YtpkahhpgkceciaaGraphG
namespace Go.Proofs.Ytpkahhpgkceciaa
open Go.RowKit Go.Maps
set_option maxHeartbeats 800000

set_option maxRecDepth 100000 in
theorem termGrows_walk {w : World} (Wi : Int) (v : Value) (qs : List PAsk) (hv : AsksOf w v qs) (hq : qs.length ≤ 9223372036854775807) :
    Calls Try.prog 3 #[.int .i64 Wi, v] w fun e w' => e = .returned (.bool true) ∧ Below w.heap.size w w' := by
  obtain ⟨a, cap, rfl⟩ := hv.parts
  obtain ⟨n, hn⟩ : ∃ n, qs.length = n := ⟨_, rfl⟩
  rw [hn] at hv hq ⊢
  have HV := Lib.hid hv
  clear hv hn
  go_enter Try.func3, Try.ntmps3
  go_wp2_with fail
  go_at_call 19
  refine (fill_any Wi _ [] (AsksOf.nil w) (by decide)).mono ?_
  rintro e w1 ⟨gb, F0, I0, vo, rfl, hg0, ho0, -, hb0⟩
  obtain ⟨ao, mo, co, rfl⟩ := ho0.val
  clear ho0
  obtain ⟨W, hW⟩ : ∃ W, (Wi % 64).toNat + 1 = W := ⟨_, rfl⟩
  rw [hW] at hg0
  clear hW
  have HG0 := Lib.hid hg0
  have HB0 := Lib.hid hb0
  clear hg0 hb0
  go_wp2
  go_loopw [7] (fun i wr => ∃ k : Nat, k ≤ n ∧ k ≤ 120 ∧ i = .int .i64 k ∧ ∃ F I L, L.length ≤ k ∧ Gr wr w.heap.size F I gb W 1048576 L ∧ Below w.heap.size w wr) (fun i _ => n - (intOf i).toNat)
  case atStart => exact ⟨0, by omega, by omega, rfl, F0, _, _, by simp [fillS], HG0.out, HB0.out⟩
  case round =>
    obtain ⟨k, hk, hk2, rfl, F, I, L, hL, hg, hb⟩ := hrel
    have HG := Lib.hid hg; have HB := Lib.hid hb
    clear hg hb
    by_cases hlt : k < n
    · by_cases hlt2 : k < 120
      · obtain ⟨b, off, x, va, rfl, hx, hok, hav, c0, c1, c2, c3, c4⟩ := (HV.out.below HB.out).at hlt
        have HX := Lib.hid hx; have HA := Lib.hid hav; have HOK := Lib.hid hok
        clear hx hav hok
        have hgr := addR_grown W (L := L) (room := 1048576) (by omega) x
        have HAdd := Lib.hid (ladd_any HG.out x _ HA.out HOK.out)
        generalize addR W 1048576 L x = R at *
        obtain ⟨L', t, f⟩ := R
        obtain ⟨hf, hgr⟩ := hgr
        simp only at hf hgr
        subst hf
        go_wp2_with fail
        go_at_call 20
        refine (len_any HG.out).mono ?_
        rintro e w2 ⟨rfl, rfl⟩
        go_wp2_with fail
        go_at_call 21
        refine HAdd.out.mono ?_
        rintro e w2 ⟨F', I', rfl, hg2, ht2, -⟩
        have hb2 := ht2.below HB.out HB.out.size HG.out.base_le
        have HG2 := Lib.hid hg2; have HB2 := Lib.hid hb2
        clear hg2 ht2 hb2 c0 c1 c2 c3 c4
        rcases hgr with ⟨h1, h2⟩ | ⟨-, h1, h2⟩
        · subst h1
          have h3 := (List.getElem?_eq_some_iff.1 h2).1
          have h4 : ((t : Int) == (L'.length : Int)) = false := by rw [beq_eq_false_iff_ne]; omega
          have h5 : ¬ (L'.length : Int) < (t : Int) := by omega
          have Hl := Lib.hid h2
          clear h2
          go_wp2_with (go_at_call 20; refine (len_any HG2.out).mono ?_; rintro e w6 ⟨rfl, rfl⟩)
          go_roundw
          case rel => exact ⟨k + 1, by omega, by omega, by go_num, F', I', _, by omega, HG2.out, HB2.out⟩
          case measure => simp [intOf]; omega
        · subst h2
          have h3 : ((L'.length : Nat) : Int) = (L.length : Int) + 1 := by rw [h1]; simp
          have h4 : L'.length ≤ k + 1 := by omega
          have HL := Lib.hid h3
          have h5 : (((L.length : Int) + 1) == (L.length : Int)) = false := by rw [beq_eq_false_iff_ne]; omega
          have h6 : (((L.length : Int) + 1) != (L.length : Int)) = true := by rw [bne_iff_ne]; omega
          clear h1 h3
          go_wp2_with (go_at_call 20; refine (len_any HG2.out).mono ?_; rw [HL.out]; rintro e w6 ⟨rfl, rfl⟩)
          go_roundw
          case rel => exact ⟨k + 1, by omega, by omega, by go_num, F', I', _, h4, HG2.out, HB2.out⟩
          case measure => simp [intOf]; omega
      · obtain rfl : k = 120 := by omega
        go_wp2_with (go_at_call 22; refine (awake_any _).mono ?_; rintro e w3 ⟨rfl, hb3⟩)
        go_ret
        exact ⟨rfl, HB.out.trans (hb3.mono HB.out.size)⟩
    · obtain rfl : k = n := by omega
      go_wp2_with (go_at_call 22; refine (awake_any _).mono ?_; rintro e w3 ⟨rfl, hb3⟩)
      go_ret
      exact ⟨rfl, HB.out.trans (hb3.mono HB.out.size)⟩
end Go.Proofs.Ytpkahhpgkceciaa
