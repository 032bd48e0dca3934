/- Fill of law 10. -/
import Derived.Test.YteofgmjejocleaaAsks
namespace Go.Proofs.Yteofgmjejocleaa
open Go.RowKit Go.Maps
set_option maxHeartbeats 800000

/-- The nodes and terms behind a list of what is asked for. -/
def fillStep (W : Nat) (s : List PNode × List Int) (a : PAsk) : List PNode × List Int := ((addR W 1048576 s.1 a).1, s.2 ++ [((addR W 1048576 s.1 a).2.1 : Int)])
def fillS (W : Nat) (qs : List PAsk) : List PNode × List Int := qs.foldl (fillStep W) ([], [])
theorem fillS_snoc (W : Nat) (qs : List PAsk) (a : PAsk) : fillS W (qs ++ [a]) = fillStep W (fillS W qs) a := by simp [fillS]
theorem snoc_ind {α : Type} {p : List α → Prop} (h0 : p []) (hs : ∀ l a, p l → p (l ++ [a])) (l : List α) : p l := by
  have key : ∀ l : List α, p l.reverse := by
    intro l
    induction l with
    | nil => simpa using h0
    | cons a l ih => simpa using hs _ a ih
  simpa using key l.reverse
theorem fillS_len (W : Nat) (qs : List PAsk) : (fillS W qs).1.length ≤ qs.length ∧ (fillS W qs).2.length = qs.length := by
  refine snoc_ind (p := fun qs => (fillS W qs).1.length ≤ qs.length ∧ (fillS W qs).2.length = qs.length) (by simp [fillS]) (fun qs a ih => ?_) qs
  rw [fillS_snoc]
  unfold fillStep
  have := (askP_len 1048576 (fillS W qs).1 (addN W (fillS W qs).1 a)).2
  rw [← addR_ask] at this
  simp only [List.length_append, List.length_singleton]
  omega
theorem take_snoc_at {α : Type} {xs : List α} {k : Nat} {q : α} (h : xs[k]? = some q) : xs.take (k + 1) = xs.take k ++ [q] := by
  rw [List.take_add_one, h]; rfl
theorem fill_step (W : Nat) {qs : List PAsk} {k : Nat} {x : PAsk} (h : qs[k]? = some x) : fillS W (qs.take (k + 1)) = fillStep W (fillS W (qs.take k)) x := by
  rw [take_snoc_at h, fillS_snoc]
set_option maxRecDepth 100000 in
theorem fill_any {w : World} (Wi : Int) (v : Value) (qs : List PAsk) (hv : AsksOf w v qs) (hq : qs.length ≤ 9223372036854775807) :
    Calls Try.prog 25 #[.int .i64 Wi, v] w fun e w' => ∃ gb F I vo, e = .returned (.tuple #[.pointer (some ⟨gb, 0, none⟩), vo]) ∧ Gr w' w.heap.size F I gb ((Wi % 64).toNat + 1) 1048576 (fillS ((Wi % 64).toNat + 1) (qs.take 120)).1 ∧
      OwnInts w' w.heap.size 3 .i64 vo (fillS ((Wi % 64).toNat + 1) (qs.take 120)).2 ∧ (∀ k, vo.ownBlock = some k → k ∉ I) ∧ Below w.heap.size w w' := by
  obtain ⟨W, hW⟩ : ∃ W, (Wi % 64).toNat + 1 = W := ⟨_, rfl⟩
  have hm0 := Int.emod_nonneg Wi (show (64 : Int) ≠ 0 by decide)
  have hm1 := Int.emod_lt_of_pos Wi (show (0 : Int) < 64 by decide)
  have hWi : (Wi % 64 + 1).toNat = W := by omega
  rw [hW]
  obtain ⟨a, cap, rfl⟩ := hv.parts
  obtain ⟨n, hn⟩ : ∃ n, qs.length = n := ⟨_, rfl⟩
  rw [hn] at hv hq ⊢
  have HV := Lib.hid hv; have HN := Lib.hid hn; have HW := Lib.hid hWi
  clear hv hn hWi hW
  go_enter Try.func25, Try.ntmps25
  go_wp2_with fail
  go_at_call 15
  refine (mod_any Wi 64 (by decide) (by decide) _).mono ?_
  rintro e w1 ⟨rfl, rfl⟩
  go_wp2_with fail
  go_at_call 16
  refine (new_any _ 0 ⟨by omega, by omega, by decide, by decide⟩ _).mono ?_
  rintro e w1 ⟨gb, F0, rfl, hg0, hb0⟩
  rw [HW.out] at hg0
  go_wp2
  go_loopw [8, 9] (fun vo i wr => ∃ k : Nat, k ≤ n ∧ k ≤ 120 ∧ i = .int .i64 k ∧ ∃ F I, Gr wr w.heap.size F I gb W 1048576 (fillS W (qs.take k)).1 ∧ OwnInts wr w.heap.size 3 .i64 vo (fillS W (qs.take k)).2 ∧ (∀ b, vo.ownBlock = some b → b ∉ I) ∧ Below w.heap.size w wr) (fun _ i _ => n - (intOf i).toNat)
  case atStart => exact ⟨0, by omega, by omega, rfl, F0, [], hg0, OwnInts.nil _ _ _ _, by simp, hb0⟩
  case round =>
    obtain ⟨k, hk, hk2, rfl, F, I, hg, hown, hni, hb⟩ := hrel
    obtain ⟨ao, mo, co, rfl⟩ := hown.val
    have HG := Lib.hid hg; have HO := Lib.hid hown; have HNI := Lib.hid hni; have HB := Lib.hid hb
    clear hg hown hni hb
    by_cases hlt : k < n
    · by_cases hlt2 : k < 120
      · obtain ⟨b, off, x, va, rfl, hx, hok, hav, c0, c1, c2, c3, c4⟩ := (HV.out.below HB.out).at hlt
        have HX := Lib.hid hx; have HA := Lib.hid hav; have HOK := Lib.hid hok
        clear hx hav hok
        go_wp2_with fail
        go_at_call 30
        refine (ladd_any HG.out x _ HA.out HOK.out).mono ?_
        have hst := fill_step W HX.out
        have hgr := addR_grown W (L := (fillS W (qs.take k)).1) (room := 1048576) (by have := (fillS_len W (qs.take k)).1; have := List.length_take_le k qs; omega) x
        have hl2 : (fillS W (qs.take k)).2.length ≤ 999999999 := by have := (fillS_len W (qs.take k)).2; have := List.length_take_le k qs; omega
        rintro e w2 ⟨F', I', rfl, hg2, ht2, hF2, hI2⟩
        unfold fillStep at hst
        rw [hgr.1]
        generalize addR W 1048576 (fillS W (qs.take k)).1 x = R at *
        have hown2 := ht2.ints HG.out HO.out
        have hlt0 := fun b hb => (HO.out.lt b hb).2
        have hb2 := ht2.below HB.out HB.out.size HG.out.base_le
        have HS := Lib.hid hst; have HGR := Lib.hid hgr; have HG2 := Lib.hid hg2; have HO2 := Lib.hid hown2
        have HI2 := Lib.hid (And.intro hF2 hI2); have HB2 := Lib.hid hb2; have HL := Lib.hid hlt0; have HT := Lib.hid ht2
        clear hst hgr hg2 hown2 hF2 hI2 hb2 hlt0 ht2 c0 c1 c2 c3 c4
        go_wp2_with (at_builtin; refine wpList_append1_sep 32 3 .i64 w.heap.size w2 _ _ (R.2.1 : Int) 8 HO2.out _ _ rfl rfl Try.underlying32 Try.infoI64 (by decide) rfl rfl hl2 HB2.out.size ?_; intro a' c' w3 hown3 ht3 hbk3)
        have hno : ∀ b, b ∈ (Value.slice ao mo co).ownBlock.toList → (Value.slice ao mo co).ownBlock = some b := fun b hb => by simpa using hb
        have hinI : ∀ b, b ∈ (I'.filter fun k => decide (k < w2.heap.size)) → b ∈ I' ∧ b < w2.heap.size := fun b hb => by have := List.mem_filter.1 hb; exact ⟨this.1, by simpa using this.2⟩
        have hg3 := HG2.out.inI.beside ht3 (fun b hb => HG2.out.not_own (by decide) (by decide) HO2.out b (hno b hb)) (fun b hb hm => (HI2.out.2 b (hinI b hm).1).elim (HNI.out b (hno b hb)) (fun h => by have := HL.out b (hno b hb); omega))
        have hb3 := ht3.below HB2.out HB2.out.size (fun b hb => (HO2.out.lt b (hno b hb)).1)
        have hni3 : ∀ b, (Value.slice a' ((fillS W (qs.take k)).2.length + 1) c').ownBlock = some b → b ∉ (I'.filter fun k => decide (k < w2.heap.size)) := fun b hb hm => (hbk3 b hb).elim (fun h => (HI2.out.2 b (hinI b hm).1).elim (HNI.out b h) (fun h' => by have := HL.out b h; omega)) (fun h => by have := (hinI b hm).2; omega)
        have HR := Lib.hid (And.intro hg3 (And.intro hown3 (And.intro hni3 hb3)))
        clear hg3 hown3 hni3 hb3 ht3 hbk3 hno hinI
        go_wp2
        go_roundw
        case rel => exact ⟨k + 1, by omega, by omega, by go_num, F', _, by rw [HS.out]; exact HR.out.1, by rw [HS.out]; exact HR.out.2.1, HR.out.2.2.1, HR.out.2.2.2⟩
        case measure => simp [intOf]; omega
      · obtain rfl : k = 120 := by omega
        go_wp2
        go_ret2
        exact ⟨gb, F, I, _, rfl, HG.out, HO.out, HNI.out, HB.out⟩
    · obtain rfl : k = n := by omega
      have ht : qs.take 120 = qs.take k := by rw [List.take_of_length_le (by have := HN.out; omega), List.take_of_length_le (by have := HN.out; omega)]
      have HT := Lib.hid ht
      clear ht
      go_wp2
      go_ret2
      refine ⟨gb, F, I, _, rfl, ?_, ?_, HNI.out, HB.out⟩
      · rw [HT.out]; exact HG.out
      · rw [HT.out]; exact HO.out
end Go.Proofs.Yteofgmjejocleaa
