/- Copy of package term. -/
import Derived.Test.YtpkahhpgkceciaaLabO
import Derived.Test.YtpkahhpgkceciaaMapR
import Derived.Deep.DeepCutAuto
import Derived.Deep.CutBlock
import Derived.Deep.RegionHeld3
namespace Go.Proofs.Ytpkahhpgkceciaa
open Go.RowKit Go.Maps
set_option maxHeartbeats 800000

/-- An own row, as what is appended. -/
theorem owns_src {w : World} {base E size n : Nat} {v : Value} {xs : List Value} (h : w.ownsRow base E size v n xs) : SrcOf w v n size xs := by
  have hl := h.1
  rcases h.2 with ⟨rfl, rfl⟩ | ⟨g, cap, cur, rfl, hb, hg, hn, hm, hsz, htake⟩
  · exact ⟨none, 0, rfl, hl, fun h => by omega⟩
  · exact ⟨_, _, rfl, hl, fun _ => ⟨_, rfl, h.cells (g := g) rfl⟩⟩
theorem NodeRow.one {w : World} {I : List Nat} {cells : List Value} {L : List PNode} (h : NodeRow w I cells L) : ∀ u ∈ cells, u.oneCell' = true := by
  intro u hu
  obtain ⟨j, hj, rfl⟩ := List.getElem_of_mem hu
  have hl := h.1
  obtain ⟨n, hn⟩ : ∃ n, L[j / 3]? = some n := ⟨_, List.getElem?_eq_getElem (by omega)⟩
  obtain ⟨va, h1, h2, h3, h4, _⟩ := h.2 (j / 3) n hn
  obtain ⟨a, m, c, rfl, _⟩ := h4
  have hc : j = 3 * (j / 3) ∨ j = 3 * (j / 3) + 1 ∨ j = 3 * (j / 3) + 2 := by omega
  rcases hc with hc | hc | hc
  · rw [← hc, List.getElem?_eq_getElem hj] at h1
    rw [Option.some.inj h1]; rfl
  · rw [← hc, List.getElem?_eq_getElem hj] at h2
    rw [Option.some.inj h2]; rfl
  · rw [← hc, List.getElem?_eq_getElem hj] at h3
    rw [Option.some.inj h3]; rfl
section
variable {w : World} {base : Nat} {F I : List Nat} {gb W room : Nat} {L : List PNode}
theorem copy_nil (w : World) : Calls Try.prog 35 #[.pointer none] w fun e w' => e = .returned (.pointer none) ∧ w = w' := by
  go_enter Try.func35, Try.ntmps35
  go_wp2
  go_ret
  exact ⟨rfl, rfl⟩
set_option maxRecDepth 100000 in
theorem copy_any (h : Gr w base F I gb W room L) :
    Calls Try.prog 35 #[.pointer (some ⟨gb, 0, none⟩)] w fun e w' => ∃ gb' F', e = .returned (.pointer (some ⟨gb', 0, none⟩)) ∧ Gr w' w.heap.size F' I gb' W room L ∧ Below w.heap.size w w' := by
  obtain ⟨sv, mb, cells, hF, b1, b2, h3, h4, h5, h6⟩ := h.mem
  obtain ⟨a, cap, rfl⟩ : ∃ a cap, sv = .slice a L.length cap := by
    rcases h4.2 with ⟨rfl, h0⟩ | ⟨g, cap, cur, rfl, _⟩
    · exact ⟨none, 0, by rw [h0]⟩
    · exact ⟨_, _, rfl⟩
  have hlen := h.len
  have hr2 := h.r2
  have c0 : w.cell? ⟨gb, 0, none⟩ = some (.int .i64 W) := by rw [cell_of_row w gb 0 _ _ _ h3]; rfl
  have c1 : w.cell? ⟨gb, 1, none⟩ = some (.int .i64 room) := by rw [cell_of_row w gb 1 _ _ _ h3]; rfl
  have c2 : w.cell? ⟨gb, 2, none⟩ = some (.slice a L.length cap) := by rw [cell_of_row w gb 2 _ _ _ h3]; rfl
  have c3 : w.cell? ⟨gb, 3, none⟩ = some (.map (some mb)) := by rw [cell_of_row w gb 3 _ _ _ h3]; rfl
  have happ : ∀ wx, Below w.heap.size w wx → ∃ a' c' w', (Builtin.append_ #[44, 44] 44 #[.slice none 0 0, .slice a L.length cap]).run Try.prog wx = .ok (.slice a' L.length c') w' ∧ w'.ownsRow w.heap.size 37 3 (.slice a' L.length c') L.length cells ∧ Below wx.heap.size wx w' := by
    intro wx hb
    have hs : SrcOf wx (.slice a L.length cap) L.length 3 cells := owns_src (ownsRow_below h4 hb)
    obtain ⟨v', w', hr, ho, hg⟩ := run_append_src (P := Try.prog) wx w.heap.size 44 44 37 3 40 (.agg #[.int .u8 0, .int .u64 0, .slice none 0 0]) Try.underlying44 (by kernel_rfl) rfl (by decide) (by decide) (.slice none 0 0) _ 0 L.length [] cells (World.ownsRow_nil _ _ _ _) hs h5.one (by omega) hb.size
    rw [Nat.zero_add, List.nil_append] at ho
    obtain ⟨a', c', rfl⟩ : ∃ a' c', v' = .slice a' L.length c' := by
      rcases ho.2 with ⟨rfl, h0⟩ | ⟨g, cap, cur, rfl, _⟩
      · exact ⟨none, 0, by rw [h0]⟩
      · exact ⟨_, _, rfl⟩
    exact ⟨a', c', w', hr, ho, hg.os, hg.tape, hg.output, hg.size, fun k hk => hg.block k hk (by simp [Value.ownBlock])⟩
  have hml : ∀ wx, Below w.heap.size w wx → ∀ ty, (Builtin.len_ #[88] ty #[.map (some mb)]).run Try.prog wx = .ok (.int .i64 L.length) wx := by
    intro wx hb ty
    have := (h6.below hb).len Try.underlying88 ty
    rw [show (gm L).length = L.length from by simp [gm]] at this
    exact this
  have hmm : ∀ wx, (Instr.makeMap 88 (some (.int .i64 (L.length : Int)))).run Try.prog wx = .ok (.map (some wx.heap.size)) (wx.alloc (.map #[] 0)) := fun wx => by
    simp [Instr.makeMap, run_underlying Try.underlying88, asInt, asIntOf]
  have H := Lib.hid h; have HM := Lib.hid (And.intro h3 (And.intro h4 (And.intro h5 h6))); have HAPP := Lib.hid happ; have HLEN := Lib.hid hml
  have hS : ∀ w', Below w.heap.size w w' → w'.cell? ⟨gb, 0, none⟩ = some (.int .i64 W) ∧ w'.cell? ⟨gb, 1, none⟩ = some (.int .i64 room) ∧ w'.cell? ⟨gb, 2, none⟩ = some (.slice a L.length cap) ∧ w'.cell? ⟨gb, 3, none⟩ = some (.map (some mb)) ∧ (Builtin.len_ #[88] 3 #[.map (some mb)]).run Try.prog w' = .ok (.int .i64 L.length) w' :=
    fun w' hb => ⟨cell_later hb c0, cell_later hb c1, cell_later hb c2, cell_later hb c3, hml w' hb 3⟩
  have HS := Lib.hid hS
  clear h h3 h4 h5 h6 happ hml hF hS
  go_enter Try.func35, Try.ntmps35
  go_upto_region 3 with fail
  go_cut [3] (fun p wx => ∃ gb' mc a' c', p = .pointer (some ⟨gb', 0, none⟩) ∧ w.heap.size ≤ gb' ∧ w.heap.size ≤ mc ∧ wx.heap[gb']? = some (.cells #[.int .i64 W, .int .i64 room, .slice a' L.length c', .map (some mc)] 90 (0, 0)) ∧ wx.ownsRow w.heap.size 37 3 (.slice a' L.length c') L.length cells ∧ MapIs Try.prog 105 wx mc [] ∧ Below w.heap.size w wx)
  case first =>
    go_region_held3 (fun w' => w'.cell? ⟨gb, 0, none⟩ = some (.int .i64 W) ∧ w'.cell? ⟨gb, 1, none⟩ = some (.int .i64 room) ∧ w'.cell? ⟨gb, 2, none⟩ = some (.slice a L.length cap) ∧ w'.cell? ⟨gb, 3, none⟩ = some (.map (some mb)) ∧ (Builtin.len_ #[88] 3 #[.map (some mb)]).run Try.prog w' = .ok (.int .i64 L.length) w')
      (first | exact HS.out _ (Below.refl _ _) | exact HS.out _ (Below.refl _ _).drew | exact HS.out _ hb2 | exact HS.out _ (hb2.alloc hb2.size _) | exact HS.out _ ((hb2.alloc hb2.size _).alloc (Nat.le_trans hb2.size (by simp)) _) | exact HS.out _ (below_new _ _).drew | exact HS.out _ (below_new _ _) | exact HS.out _ ((below_new _ _).drew.alloc (by simp) _))
      (first | ((obtain ⟨a', c', w1, hr, ho1, hb1⟩ := HAPP.out w.drew (Below.refl _ _).drew); refine step_append_is rfl _ _ 44 rfl (.slice none 0 0) (.slice a L.length cap) rfl rfl (.slice a' L.length c') w1 hr ?_; have hb2 : Below w.heap.size w w1 := (Below.refl w.heap.size w).drew.trans hb1; obtain ⟨k0, k1, k2, k3, k4⟩ := HS.out w1 hb2) | ((obtain ⟨a', c', w1, hr, ho1, hb1⟩ := HAPP.out (w.alloc (.map #[] 0)).drew (below_new w _).drew); refine step_append_is rfl _ _ 44 rfl (.slice none 0 0) (.slice a L.length cap) rfl rfl (.slice a' L.length c') w1 hr ?_; have hb2 : Below w.heap.size w w1 := (below_new w (.map #[] 0)).drew.trans (hb1.mono (by simp)); obtain ⟨k0, k1, k2, k3, k4⟩ := HS.out w1 hb2))
    go_wp2_with fail
    go_meet
    have hb3 := (hb2.alloc hb2.size (.map #[] 0)).alloc (Nat.le_trans hb2.size (by simp)) (.cells #[.int .i64 W, .int .i64 room, .slice a' L.length c', .map (some w1.heap.size)] 90)
    refine ⟨w1.heap.size + 1, w1.heap.size, a', c', rfl, by have := hb2.size; omega, hb2.size, heap_alloc2_new _ _ _, ?_, ?_, hb3⟩
    · exact (ho1.alloc _).alloc _
    · exact (MapIs.new w1).below (below_new _ _)
  case rest =>
    obtain ⟨gb', mc, a', c', rfl, hgb, hmc, g1, g2, g3, hbc⟩ := hcut
    have h6 := HM.out.2.2.2
    have hmb := h6.lt
    have e3 := (HS.out wc hbc).2.2.2.1
    have h6c := h6.below hbc
    have hne1 : gb' ≠ mc := by rintro rfl; obtain ⟨es, ck, he, _⟩ := g3; rw [g1] at he; cases he
    have hne2 : ∀ k, (Value.slice a' L.length c').ownBlock = some k → k ≠ mc := by
      rintro k hk rfl
      obtain ⟨es, ck, he, _⟩ := g3
      exact not_own g2 he (by intro c fr e; cases e) hk
    have G := Lib.hid (And.intro g1 (And.intro g2 (And.intro g3 hbc)))
    have H6 := Lib.hid h6c
    have HNE := Lib.hid (And.intro hne1 hne2)
    clear g1 g2 g3 h6 h6c hbc hne1 hne2
    go_wp2_with (at_range; refine wpList_range_map rfl _ 88 3 rfl Try.underlying88 rfl H6.out ?_; intro w2 hrg2 hb2 hs2)
    go_frame
    obtain ⟨r, hr⟩ : ∃ r, wc.heap.size = r := ⟨_, rfl⟩
    have hgr : gb' < r := by rw [← hr]; exact (Array.getElem?_eq_some_iff.1 G.out.1).1
    have hmr : mc < r := by rw [← hr]; exact G.out.2.2.1.lt
    have hvr : ∀ k, (Value.slice a' L.length c').ownBlock = some k → k < r := fun k hk => by rw [← hr]; exact (G.out.2.1.lt k hk).2
    have hwr : w.heap.size ≤ r := by rw [← hr]; exact G.out.2.2.2.size
    have hrel0 : MapRng w2 mb r (gm L) [] ∧ MapIs Try.prog 105 w2 mc [] ∧ w2.heap[gb']? = some (.cells #[.int .i64 W, .int .i64 room, .slice a' L.length c', .map (some mc)] 90 (0, 0)) ∧ w2.ownsRow w.heap.size 37 3 (.slice a' L.length c') L.length cells ∧ Below w.heap.size w w2 ∧ r < w2.heap.size := by
      refine ⟨by rw [← hr]; exact hrg2, G.out.2.2.1.below hb2, (hb2.block _ (by omega)).trans G.out.1, ownsRow_below G.out.2.1 hb2, G.out.2.2.2.trans (hb2.mono (by omega)), by omega⟩
    have HR0 := Lib.hid hrel0; have HVR := Lib.hid hvr
    rw [hr]
    clear hr hrg2 hb2 hs2 hrel0 hvr
    go_loopw [5] (fun _ wr => ∃ d, MapRng wr mb r (gm L) d ∧ MapIs Try.prog 105 wr mc d ∧ wr.heap[gb']? = some (.cells #[.int .i64 W, .int .i64 room, .slice a' L.length c', .map (some mc)] 90 (0, 0)) ∧ wr.ownsRow w.heap.size 37 3 (.slice a' L.length c') L.length cells ∧ Below w.heap.size w wr ∧ r < wr.heap.size) (fun _ wr => rngLeft wr mb r)
    case atStart => exact ⟨[], HR0.out⟩
    case round =>
      obtain ⟨d, hrg, hmap, hgb1, hown, hbw, hrs⟩ := hrel
      have HH := Lib.hid (And.intro hmap (And.intro hgb1 (And.intro hown (And.intro hbw hrs)))); have HRG := Lib.hid hrg
      clear hmap hgb1 hown hbw hrs hrg
      go_wp2_with (at_next; refine wpList_next_map rfl _ rfl rfl HRG.out ?_ ?_)
      · intro hperm
        go_wp2
        go_ret
        obtain ⟨hmap, hgb1, hown, hbw, hrs⟩ := HH.out
        obtain ⟨h3, h4, h5, h6⟩ := HM.out
        exact ⟨gb', _, rfl, ⟨H.out.wf, H.out.len, H.out.w1, H.out.w2, H.out.r2, .slice a' L.length c', mc, cells, rfl, hgb, hmc, hgb1, hown, h5.keep (fun k _ hk => hbw.block k hk.lt), hmap.perm hperm⟩, hbw⟩
      · intro k v w3 l0 hmem hrg3 hlt3 hbut3 hen3
        have hkv : (k, v) ∈ gm L := hmem.mem_iff.1 (by simp)
        obtain ⟨i, n, hi, rfl, rfl⟩ := mem_gm hkv
        have hnk : ∀ v', (keyV n, v') ∉ d := by
          intro v' hv'
          obtain ⟨es, ck, _, _, _, hnd, _⟩ := H6.out
          have h1 := ((hmem.map (·.1)).nodup_iff).2 hnd
          rw [List.map_append, List.nodup_append] at h1
          exact h1.2.2 (keyV n) (List.mem_map.2 ⟨_, hv', rfl⟩) (keyV n) (by simp) rfl
        have hw := H.out.wf
        obtain ⟨kl, hkl⟩ := key_lit n (hw.ok n (List.mem_of_getElem? hi)) (fun a ha => by have := hw.args i n hi a ha; have := (List.getElem?_eq_some_iff.1 hi).1; omega)
        obtain ⟨o, q, xs⟩ := n
        obtain ⟨x0, hx0⟩ : ∃ x0, xs.getD 0 0 = x0 := ⟨_, rfl⟩
        obtain ⟨x1, hx1⟩ : ∃ x1, xs.getD 1 0 = x1 := ⟨_, rfl⟩
        obtain ⟨x2, hx2⟩ : ∃ x2, xs.getD 2 0 = x2 := ⟨_, rfl⟩
        have hkeq : keyV (o, q, xs) = .agg #[.int .u8 o, .int .u64 q, .int .i64 x0, .int .i64 x1, .int .i64 x2] := by unfold keyV; rw [hx0, hx1, hx2]
        rw [hkeq] at hen3 hrg3 hkl hnk ⊢
        obtain ⟨hmap, hgb1, hown, hbw, hrs⟩ := HH.out
        have m3 := hmap.block (hbut3.block mc (by omega))
        have g3 := (hbut3.block gb' (by omega)).trans hgb1
        have o3 := owns_keep hown fun k hk => hbut3.block k (by have := HVR.out k hk; omega)
        have b3 := hbut3.below hwr hbw
        have s3 := hbut3.size
        have e3' : rngLeft w3 mb r = rngLeft w3 mb r := rfl
        have H3 := Lib.hid (And.intro m3 (And.intro g3 (And.intro o3 (And.intro b3 (And.intro hrg3 hlt3)))))
        have HK := Lib.hid (And.intro hkl hnk)
        obtain ⟨p, hp⟩ : ∃ p, w3.heap.size = p := ⟨_, rfl⟩
        have hrp : r < p := by omega
        clear m3 g3 o3 b3 hrg3 hlt3 hkl hnk hmap hgb1 hown hbw hrs hx0 hx1 hx2 hkeq hmem hkv hi hw hbut3 e3' s3
        go_upto_region 7 with fail
        have hp' := Lib.hid hp
        clear hp
        refine wp_abs (fun w4 => Below p w3 w4 ∧ w4.heap[p]? = some (.cells #[.int .u8 o, .int .u64 q, .int .i64 x0, .int .i64 x1, .int .i64 x2] 105 (0, 0))) ⟨by rw [← hp'.out]; exact below_new _ _, by rw [← hp'.out]; exact heap_alloc_new _ _⟩ ?_
        rintro w4 ⟨hb4, hbx⟩
        obtain ⟨m3, g3, o3, b3, hrg3, hlt3⟩ := H3.out
        have hb4' : Below w3.heap.size w3 w4 := by rw [hp'.out]; exact hb4
        have m4 := m3.below hb4'
        have g4 := (hb4'.block gb' (by have := hp'.out; omega)).trans g3
        have o4 := ownsRow_below o3 hb4'
        have b4 := b3.trans (hb4'.mono b3.size)
        have r4 := hrg3.keep (hb4'.block mb hrg3.lt.1) (hb4'.block r hrg3.lt.2)
        obtain ⟨hrun, hput, hbut⟩ := MapIs.put_new (w := w4.drew) (m4.block rfl) Try.keyed Try.underlying88 HK.out.1 HK.out.2 (.int .i64 i)
        have k0 : w4.cell? ⟨p, 0, none⟩ = some (.int .u8 o) := by rw [cell_of_row w4 _ 0 _ _ _ hbx]; rfl
        have k1 : w4.cell? ⟨p, 1, none⟩ = some (.int .u64 q) := by rw [cell_of_row w4 _ 1 _ _ _ hbx]; rfl
        have k2 : w4.cell? ⟨p, 2, none⟩ = some (.int .i64 x0) := by rw [cell_of_row w4 _ 2 _ _ _ hbx]; rfl
        have k3 : w4.cell? ⟨p, 3, none⟩ = some (.int .i64 x1) := by rw [cell_of_row w4 _ 3 _ _ _ hbx]; rfl
        have k4 : w4.cell? ⟨p, 4, none⟩ = some (.int .i64 x2) := by rw [cell_of_row w4 _ 4 _ _ _ hbx]; rfl
        have c3' : w4.cell? ⟨gb', 3, none⟩ = some (.map (some mc)) := by rw [cell_of_row w4 _ 3 _ _ _ g4]; rfl
        have hl4 : rngLeft w4 mb r < rngLeft wr mb r := by rw [r4.2]; exact hlt3
        have hs4 := hb4'.size
        have H4 := Lib.hid (And.intro g4 (And.intro o4 (And.intro b4 (And.intro r4.1 (And.intro hl4 (And.intro hrun (And.intro hput hbut)))))))
        clear m3 g3 o3 b3 hrg3 hlt3 m4 g4 o4 b4 r4 hrun hput hbut hb4 hb4' hbx hl4 hen3
        go_still_tail 6, (by kernel_rfl)
        simp only [World.drew_eq]
        refine wpList_mapUpdate_is rfl _ _ _ 88 rfl (.map (some mc)) (.agg #[.int .u8 o, .int .u64 q, .int .i64 x0, .int .i64 x1, .int .i64 x2]) (.int .i64 i) rfl rfl rfl (mapW Try.prog 88 mc (.agg #[.int .u8 o, .int .u64 q, .int .i64 x0, .int .i64 x1, .int .i64 x2]) (.int .i64 i) w4.drew) ?_ ?_
        · exact H4.out.2.2.2.2.2.1
        go_wp2
        obtain ⟨g4, o4, b4, r4, hl4, hrun, hput, hbut⟩ := H4.out
        have hmbw := HM.out.2.2.2.lt
        have r5 := r4.keep (w' := mapW Try.prog 88 mc (.agg #[.int .u8 o, .int .u64 q, .int .i64 x0, .int .i64 x1, .int .i64 x2]) (.int .i64 i) w4.drew) (hbut.block mb (by omega)) (hbut.block r (by omega))
        go_roundw
        case rel => exact ⟨_, _, _, _, _, _, _, _, _, _, _, _, _, ⟨_, r5.1, hput, (hbut.block gb' HNE.out.1).trans g4, owns_keep o4 fun k hk => hbut.block k (HNE.out.2 k hk), hbut.below hmc b4.drew, by rw [hbut.size]; exact Nat.lt_of_lt_of_le hrp (by rw [← hp'.out]; exact hs4)⟩, rfl⟩
        case measure => rw [r5.2]; exact hl4
end
end Go.Proofs.Ytpkahhpgkceciaa
