/- SubstMatches. -/
import Derived.Test.YtcpgiadhmmmafaaRSubB
import Derived.Test.YtcpgiadhmmmafaaSubH
import Derived.Test.YtcpgiadhmmmafaaBothA
namespace Go.Proofs.Ytcpgiadhmmmafaa
open Go.RowKit Go.Maps
set_option maxHeartbeats 3200000

/-- A substitution of a term, as an argument: the term, the variables, the terms. -/
structure SubOkW (w : World) (b off : Nat) (x : Int × List Int × List Int) (va ua : Value) : Prop where
  hv : SliceOf w .i64 va x.2.1
  hu : SliceOf w .i64 ua x.2.2
  vi : ∀ v ∈ x.2.1, (Lit.int .i64 v).wf = true
  nv : x.2.1.length ≤ 9223372036854775807
  nu : x.2.2.length ≤ 9223372036854775807
  c0 : w.cell? ⟨b, off, none⟩ = some (.int .i64 x.1)
  c1 : w.cell? ⟨b, off + 1, none⟩ = some va
  c2 : w.cell? ⟨b, off + 2, none⟩ = some ua
def SubsOf (w : World) (v : Value) (ss : List (Int × List Int × List Int)) : Prop :=
  ∃ a n cap, v = .slice a n cap ∧ ss.length = n ∧ ∀ i, i < n → ∃ b off x va ua, a = some ⟨b, off, none⟩ ∧ ss[i]? = some x ∧ SubOkW w b (off + i * 3) x va ua
theorem list3' (cs : List Value) (h : cs.length = 3) : ∃ c0 c1 c2, cs = [c0, c1, c2] := by
  match cs, h with
  | [c0, c1, c2], _ => exact ⟨_, _, _, rfl⟩
set_option maxRecDepth 100000 in
theorem sub_of_cells {H : Type} {enc : TypeId × Value → H} {w : World} {fuel base : Nat} {held : Bool} {cs : List Value} {x : DataW H × List MemPlace}
    (h : DataW.trod enc Try.prog w base (fun _ => true) held fuel 80 cs = some x) :
    ∃ (a : Int × List Int × List Int) (va ua : Value), cs = [.int .i64 a.1, va, ua] ∧ SliceOf w .i64 va a.2.1 ∧ SliceOf w .i64 ua a.2.2 ∧ (∀ v ∈ a.2.1, (Lit.int .i64 v).wf = true) ∧ a.2.1.length ≤ 9223372036854775807 ∧ a.2.2.length ≤ 9223372036854775807 := by
  obtain ⟨ys, n, _, _, hl, hyl, hf⟩ := DataW.trod_struct Try.underlying80 h
  have h5 : Try.prog.cellsOf 80 = 3 := by kernel_rfl
  have hl5 : cs.length = 3 := hl.trans h5
  obtain ⟨c0, c1, c2, rfl⟩ := list3' cs hl5
  obtain ⟨y0, e0⟩ : ∃ y, ys[0]? = some y := ⟨_, List.getElem?_eq_getElem (by rw [hyl]; decide)⟩
  obtain ⟨y1, e1⟩ : ∃ y, ys[1]? = some y := ⟨_, List.getElem?_eq_getElem (by rw [hyl]; decide)⟩
  obtain ⟨y2, e2⟩ : ∃ y, ys[2]? = some y := ⟨_, List.getElem?_eq_getElem (by rw [hyl]; decide)⟩
  have q2 : Try.prog.cellsOf 3 = 1 := by kernel_rfl
  have q3 : Try.prog.cellsOf 33 = 1 := by kernel_rfl
  have g0 : DataW.trod enc Try.prog w base (fun _ => true) held n 3 (([c0, c1, c2].drop 0).take (Try.prog.cellsOf 3)) = ys[0]? := hf 0 _ rfl
  rw [q2, e0] at g0
  replace g0 : DataW.trod enc Try.prog w base (fun _ => true) held n 3 [c0] = some y0 := g0
  have g1 : DataW.trod enc Try.prog w base (fun _ => true) held n 33 (([c0, c1, c2].drop 1).take (Try.prog.cellsOf 33)) = ys[1]? := hf 1 _ rfl
  rw [q3, e1] at g1
  replace g1 : DataW.trod enc Try.prog w base (fun _ => true) held n 33 [c1] = some y1 := g1
  have g2 : DataW.trod enc Try.prog w base (fun _ => true) held n 33 (([c0, c1, c2].drop 2).take (Try.prog.cellsOf 33)) = ys[2]? := hf 2 _ rfl
  rw [q3, e2] at g2
  replace g2 : DataW.trod enc Try.prog w base (fun _ => true) held n 33 [c2] = some y2 := g2
  obtain ⟨n0, h0, _, w0⟩ := DataW.trod_int Try.underlying3 g0
  obtain ⟨xs, hs, hw, hxl⟩ := ints_of_cell Try.underlying33 Try.underlying3 q2 g1
  obtain ⟨us, hs2, hw2, hul⟩ := ints_of_cell Try.underlying33 Try.underlying3 q2 g2
  simp only [List.cons.injEq, and_true] at h0
  subst h0
  exact ⟨(n0, xs, us), c1, c2, rfl, hs, hs2, hw, hxl, hul⟩
set_option maxRecDepth 100000 in
theorem subs_of_trod {H : Type} {enc : TypeId × Value → H} {w : World} {base : Nat} {v : Value} {d : DataW H} {p : List MemPlace}
    (h : DataW.Trod enc Try.prog w 0 (fun _ => true) true 77 v d p) (o : Value.okWide Try.prog w .any base 77 v) :
    ∃ ss, SubsOf w v ss ∧ ss.length ≤ 9223372036854775807 := by
  have h5 : Try.prog.cellsOf 80 = 3 := by kernel_rfl
  rcases slice_of_trod Try.underlying77 h o with rfl | ⟨ad, n, cap, fu, elems, rfl, hl, hm, hlen, hel⟩
  · exact ⟨[], ⟨_, _, _, rfl, rfl, fun i hi => by omega⟩, by rw [List.length_nil]; omega⟩
  · clear h o
    have hspot : 0 < n → ad.spot = none := by
      intro h0
      have he := hel 0 h0
      rw [h5, List.getElem?_eq_getElem (by omega)] at he
      obtain ⟨cs, hc, ht⟩ := Option.bind_eq_some_iff.1 he
      obtain ⟨x, va, ua, rfl, hs⟩ := sub_of_cells ht
      obtain ⟨_, _, hat⟩ := World.cells?_some hc
      have t0 := hat 0 (by decide)
      simpa [Addr.add] using World.cell?_spot t0
    have each : ∀ i, i < n → ∃ x, ∃ b off va ua, (ad : Addr) = ⟨b, off, none⟩ ∧ SubOkW w b (off + i * 3) x va ua := by
      intro i hi
      have he := hel i hi
      rw [h5, List.getElem?_eq_getElem (by omega)] at he
      obtain ⟨cs, hc, ht⟩ := Option.bind_eq_some_iff.1 he
      obtain ⟨x, va, ua, rfl, hs1, hs2, hw, hn1, hn2⟩ := sub_of_cells ht
      obtain ⟨_, _, hat⟩ := World.cells?_some hc
      have t0 := hat 0 (by decide); have t1 := hat 1 (by decide); have t2 := hat 2 (by decide)
      have hsp := hspot (by omega)
      obtain ⟨b, off, spot⟩ := ad
      simp only at hsp
      subst hsp
      simp only [Go.WideShapes.add_plain, List.getElem?_cons_zero, List.getElem?_cons_succ, Nat.add_zero] at t0 t1 t2
      exact ⟨x, b, off, va, ua, rfl, ⟨hs1, hs2, hw, hn1, hn2, t0, t1, t2⟩⟩
    obtain ⟨ss, hq, hp⟩ := list_of_each n each
    refine ⟨ss, ⟨_, _, _, rfl, hq, fun i hi => ?_⟩, by rw [hq]; unfold maxLen at hm; omega⟩
    obtain ⟨x, hx, b, off, va, ua, rfl, hr⟩ := hp i hi
    exact ⟨b, off, x, va, ua, rfl, hx, hr⟩
theorem simpR_good {W room : Nat} {L : List PNode} (h : GoodL W L) (o : Nat) (xs : List Int) : GoodL W (simpR W room L o xs).1 := by
  unfold simpR
  split
  · split
    · exact ans_good h _
    · exact h
  · exact h
theorem madeStep_good {W room : Nat} {L0 : List PNode} {O : Nat → Bool} {lf : Nat → PNode → Int} {i : Nat} {s : List PNode × List Int × Nat} (h : GoodL W s.1) : GoodL W (madeStep W room L0 O lf i s).1 := by
  unfold madeStep
  split
  · exact h
  · split
    · exact h
    · split
      · exact h
      · split
        · exact simpR_good h _ _
        · exact simpR_good h _ _
theorem madeRun_good {W room : Nat} {L0 : List PNode} {O : Nat → Bool} {lf : Nat → PNode → Int} (h : GoodL W L0) : ∀ k, GoodL W (madeRun W room L0 O lf k).1
  | 0 => h
  | k + 1 => by
    rw [show madeRun W room L0 O lf (k + 1) = if (madeRun W room L0 O lf k).2.2 = 0 then madeStep W room L0 O lf k (madeRun W room L0 O lf k) else madeRun W room L0 O lf k from rfl]
    split
    · exact madeStep_good (madeRun_good h k)
    · exact madeRun_good h k
theorem madeEnd_good {W z : Nat} {s : List PNode × List Int × Nat} (h : GoodL W s.1) : GoodL W (madeEnd z s).1 := by
  unfold madeEnd
  split
  · exact h
  · exact h
theorem substR_good {W room : Nat} {L : List PNode} (h : GoodL W L) (t : Int) (ps : List (Int × Int)) : GoodL W (substR W room L t ps).1 := by
  unfold substR
  split
  · split
    · exact madeEnd_good (madeRun_good h _)
    · exact h
  · exact h
theorem subst2R_good {W room : Nat} {L : List PNode} (h : GoodL W L) (t : Int) (vs us : List Int) : GoodL W (subst2R W room L t vs us).1 := by
  unfold subst2R
  split
  · split
    · exact substR_good h _ _
    · exact h
  · exact h
theorem doR_good {W room : Nat} {L : List PNode} (h : GoodL W L) (a : PAsk) : GoodL W (doR W room L a).1 := by
  unfold doR
  split
  · exact h.const room _
  · split
    · exact h.var room _
    · exact h.app room _ _
set_option maxRecDepth 100000 in
theorem substMatches_bad {w : World} (Wi Mi : Int) (v u : Value) (h : ¬ newOk Wi Mi) (hv : ∃ a n c, v = .slice a n c) (hu : ∃ a n c, u = .slice a n c) :
    Calls Try.prog 9 #[.int .i64 Wi, .int .i64 Mi, v, u] w fun e w' => e = .returned (.bool true) ∧ Below w.heap.size w w' := by
  obtain ⟨a, n, c, rfl⟩ := hv
  obtain ⟨a2, n2, c2, rfl⟩ := hu
  have HM := Lib.hid (make_bad Wi Mi h w)
  clear h
  go_enter Try.func9, Try.ntmps9
  go_wp2_with fail
  go_at_call 17
  refine HM.out.mono ?_
  rintro e w1 ⟨rfl, hb1⟩
  have hl1 := Lab.nil hb1
  obtain ⟨pb, hpb⟩ : ∃ pb, w1.heap.size = pb := ⟨_, rfl⟩
  have hl2 := hl1.alloc #[.pointer none, .pointer none] 27
  rw [hpb] at hl2
  have HL2 := Lib.hid hl2
  clear hb1 hl1 hl2
  go_upto_region 4 with fail
  clear hpb
  refine wp_abs (fun w2 => Lab w w2 [Thing.box pb 27 #[.pointer none, .pointer none]]) HL2.out ?_
  rintro w2 hl
  have hbx := hl.box1
  have k1 : w2.cell? ⟨pb, 1, none⟩ = some (.pointer none) := by rw [cell_of_row w2 _ 1 _ _ _ hbx]; rfl
  have HL3 := Lib.hid hl
  clear hl HL2 HM hbx
  go_wp2_with fail
  go_at_call 39
  refine (subst_nil _ 0 (.slice none 0 0) (.slice none 0 0)).mono ?_
  rintro e w3 ⟨rfl, hb⟩
  have HAW := Lib.hid (HL3.out.later hb).awake13
  clear hb k1
  go_wp2_with (go_at_call 41; refine HAW.out.mono ?_; rintro e w3 ⟨rfl, hb⟩)
  go_ret
  exact ⟨rfl, hb⟩
noncomputable def matchesRest12 : Code := (Try.f9.body.bind (tailR 12)).getD .skip
set_option maxRecDepth 100000 in
theorem substMatches_rest12 {u0 u1 u2 u4 u5 u6 u7 u8 u10 u11 u12 u13 u14 u15 u16 u17 u18 u19 u20 u21 u22 u23 u24 u25 u26 u27 u28 u29 u30 u31 u32 u33 u34 u35 u36 u37 u38 u39 u40 u41 u42 u43 u44 u45 u46 u47 u48 u49 u50 u51 u52 u53 u54 u55 u56 u57 u58 u59 u60 u61 u62 u63 u64 u65 u66 u67 u68 u69 u70 u71 u72 u73 u74 u75 u76 u77 u78 u79 u80 u81 u82 u83 u84 u85 u86 u87 u88 u89 u90 u91 u92 u93 u94 u95 u96 u97 u98 u99 u100 u101 u102 u103 u104 u105 u106 u107 u108 u109 u110 u111 u112 u113 u114 u115 u116 u117 u118 u119 u120 u121 u122 : Value} {w wr : World} {F I F' I' : List Nat} {gb rb W room pb : Nat} {L : List PNode} (hgood : GoodL W L) (hl : Lab w wr [Thing.graph F I gb W room L, Thing.rgraph F' I' rb W room L, Thing.box pb 27 #[.pointer (some ⟨gb, 0, none⟩), .pointer (some ⟨rb, 0, none⟩)]]) {a2 : Option Addr} {n2 c2 : Nat} {ss : List (Int × List Int × List Int)} (hu : ∀ i, i < n2 → ∃ b off x va ua, a2 = some ⟨b, off, none⟩ ∧ ss[i]? = some x ∧ SubOkW w b (off + i * 3) x va ua) (hn2 : n2 ≤ 9223372036854775807) :
    Code.wp Try.prog matchesRest12 (bodyPost Try.prog Try.f9 (fun e w' => e = .returned (.bool true) ∧ Below w.heap.size w w')) ⟨(List.toArray (u0 :: u1 :: u2 :: .slice a2 n2 c2 :: u4 :: u5 :: u6 :: u7 :: u8 :: .pointer (some ⟨pb, 0, none⟩) :: u10 :: u11 :: u12 :: u13 :: u14 :: u15 :: u16 :: u17 :: u18 :: u19 :: u20 :: u21 :: u22 :: u23 :: u24 :: u25 :: u26 :: u27 :: u28 :: u29 :: u30 :: u31 :: u32 :: u33 :: u34 :: u35 :: u36 :: u37 :: u38 :: u39 :: u40 :: u41 :: u42 :: u43 :: u44 :: u45 :: u46 :: u47 :: u48 :: u49 :: u50 :: u51 :: u52 :: u53 :: u54 :: u55 :: u56 :: u57 :: u58 :: u59 :: u60 :: u61 :: u62 :: u63 :: u64 :: u65 :: u66 :: u67 :: u68 :: u69 :: u70 :: u71 :: u72 :: u73 :: u74 :: u75 :: u76 :: u77 :: u78 :: u79 :: u80 :: u81 :: u82 :: u83 :: u84 :: u85 :: u86 :: u87 :: u88 :: u89 :: u90 :: u91 :: u92 :: u93 :: u94 :: u95 :: u96 :: u97 :: u98 :: u99 :: u100 :: u101 :: u102 :: u103 :: u104 :: u105 :: u106 :: u107 :: u108 :: u109 :: u110 :: u111 :: u112 :: u113 :: u114 :: u115 :: u116 :: u117 :: u118 :: u119 :: u120 :: u121 :: u122 :: [])), []⟩ wr := by
  have HL := Lib.hid hl; have HG := Lib.hid hgood; have HU := Lib.hid hu
  clear hl hgood hu
  conv => arg 2; whnf
  go_wp2
  go_loopw [14] (fun i wx => ∃ k : Nat, k ≤ n2 ∧ k ≤ 10 ∧ i = .int .i64 k ∧ ∃ F I F' I' L, GoodL W L ∧ Lab w wx [Thing.graph F I gb W room L, Thing.rgraph F' I' rb W room L, Thing.box pb 27 #[.pointer (some ⟨gb, 0, none⟩), .pointer (some ⟨rb, 0, none⟩)]]) (fun i _ => n2 - (intOf i).toNat)
  case atStart => exact ⟨0, by omega, by omega, rfl, _, _, _, _, _, HG.out, HL.out⟩
  case round =>
    clear HL HG
    obtain ⟨k, hk, hk2, rfl, F, I, F', I', L, hgood, hl⟩ := hrel
    by_cases hlt : k < n2 ∧ k < 10
    · have hlt1 : (k : Int) < (n2 : Int) := by omega
      have hlt2 : (k : Int) < 10 := by omega
      obtain ⟨b, off, x, va, ua, rfl, -, hs⟩ := HU.out k hlt.1
      obtain ⟨va, m1, cv1, rfl, -, -⟩ := hs.hv.parts
      obtain ⟨ua, m2, cv2, rfl, -, -⟩ := hs.hu.parts
      have HS := Lib.hid hs
      have hbc := hl.box3
      have k0 : wr.cell? ⟨pb, 0, none⟩ = some (.pointer (some ⟨gb, 0, none⟩)) := by rw [cell_of_row wr _ 0 _ _ _ hbc]; rfl
      have k1 : wr.cell? ⟨pb, 1, none⟩ = some (.pointer (some ⟨rb, 0, none⟩)) := by rw [cell_of_row wr _ 1 _ _ _ hbc]; rfl
      have c0 := cell_later hl.below hs.c0
      have c1 := cell_later hl.below hs.c1
      have c2 := cell_later hl.below hs.c2
      obtain ⟨R, hR⟩ : ∃ R, subst2R W room L x.1 x.2.1 x.2.2 = R := ⟨_, rfl⟩
      have hgd := subst2R_good (room := room) hgood x.1 x.2.1 x.2.2
      rw [hR] at hgd
      have hld := hl.later (Below.refl _ _).drew
      have hsub := hld.subst x.1 _ _ x.2.1 x.2.2 (hs.hv.below hld.below) (hs.hu.below hld.below) hgood hs.vi hs.nv hs.nu hR
      have HSUB := Lib.hid hsub; have HR := Lib.hid hR; have HGD := Lib.hid hgd; have HG := Lib.hid hgood
      clear hsub hR hgd hl hld hbc hs hlt hgood
      go_upto_region 15 with fail
      go_region_held3 (fun w' => w'.cell? ⟨pb, 0, none⟩ = some (.pointer (some ⟨gb, 0, none⟩)) ∧ w'.cell? ⟨pb, 1, none⟩ = some (.pointer (some ⟨rb, 0, none⟩)) ∧ w'.cell? ⟨b, off + k * 3, none⟩ = some (.int .i64 x.1) ∧ w'.cell? ⟨b, off + k * 3 + 1, none⟩ = some (.slice va m1 cv1) ∧ w'.cell? ⟨b, off + k * 3 + 2, none⟩ = some (.slice ua m2 cv2))
        (first | exact ⟨k0, k1, c0, c1, c2⟩ | exact ⟨by assumption, by assumption, by assumption, by assumption, by assumption⟩ | go_keep | trivial)
        (first | (go_at_call 39; refine HSUB.out.mono ?_; rintro e w3 ⟨F2, I2, rfl, hl3⟩; have hbc3 := hl3.box3; have d0 : w3.cell? ⟨pb, 0, none⟩ = some (.pointer (some ⟨gb, 0, none⟩)) := (by rw [cell_of_row w3 _ 0 _ _ _ hbc3]; rfl); have d1 : w3.cell? ⟨pb, 1, none⟩ = some (.pointer (some ⟨rb, 0, none⟩)) := (by rw [cell_of_row w3 _ 1 _ _ _ hbc3]; rfl); have e0 := cell_later hl3.below HS.out.c0; have e1 := cell_later hl3.below HS.out.c1; have e2 := cell_later hl3.below HS.out.c2))
      have hld := (hl3.later (Below.refl _ _).drew).swap
      have hrs := hld.rsubst x.1 _ _ x.2.1 x.2.2 HS.out.hv HS.out.hu HG.out HS.out.vi HS.out.nv HS.out.nu HR.out
      have HRS := Lib.hid hrs
      clear hrs hld hl3 hbc3
      go_upto_region 16 with fail
      go_region_held3 (fun w' => w'.cell? ⟨pb, 0, none⟩ = some (.pointer (some ⟨gb, 0, none⟩)) ∧ w'.cell? ⟨pb, 1, none⟩ = some (.pointer (some ⟨rb, 0, none⟩)) ∧ w'.cell? ⟨b, off + k * 3, none⟩ = some (.int .i64 x.1) ∧ w'.cell? ⟨b, off + k * 3 + 1, none⟩ = some (.slice va m1 cv1) ∧ w'.cell? ⟨b, off + k * 3 + 2, none⟩ = some (.slice ua m2 cv2))
        (first | exact ⟨d0, d1, e0, e1, e2⟩ | exact ⟨by assumption, by assumption, by assumption, by assumption, by assumption⟩ | go_keep | trivial)
        (first | (go_at_call 43; refine HRS.out.mono ?_; rintro e w4 ⟨F3, I3, rfl, hl4⟩; have hbc4 := hl4.swap.box3; have d0' : w4.cell? ⟨pb, 0, none⟩ = some (.pointer (some ⟨gb, 0, none⟩)) := (by rw [cell_of_row w4 _ 0 _ _ _ hbc4]; rfl); have d1' : w4.cell? ⟨pb, 1, none⟩ = some (.pointer (some ⟨rb, 0, none⟩)) := (by rw [cell_of_row w4 _ 1 _ _ _ hbc4]; rfl); have e0' := cell_later hl4.below HS.out.c0; have e1' := cell_later hl4.below HS.out.c1; have e2' := cell_later hl4.below HS.out.c2))
      have HL4 := Lib.hid hl4.swap
      clear hl4 hbc4 HS HRS HG HSUB
      obtain ⟨L9, t9, e9⟩ := R
      have q1 : ((t9 : Int) != (t9 : Int)) = false := by simp
      have q2 : ((e9 : Int) != (e9 : Int)) = false := by simp
      by_cases h10 : e9 = 10
      · have q3 : ((e9 : Int) == 10) = true := by rw [beq_iff_eq]; omega
        have HAW := Lib.hid HL4.out.awake13
        clear h10
        go_wp2_with (go_at_call 41; refine HAW.out.mono ?_; rintro e w5 ⟨rfl, hb⟩)
        go_ret
        exact ⟨rfl, hb⟩
      · have q3 : ((e9 : Int) == 10) = false := by rw [beq_eq_false_iff_ne]; omega
        have HSM := Lib.hid (same_any HL4.out.gr HL4.out.rgr2)
        clear h10
        go_wp2_with fail
        go_at_call 21
        refine HSM.out.mono ?_
        rintro e w5 ⟨rfl, hb5⟩
        have HL5 := Lib.hid (HL4.out.later hb5)
        clear hb5
        go_wp2
        go_roundw
        case rel => exact ⟨k + 1, by omega, by omega, by go_num, F2, I2, F3, I3, L9, HGD.out, HL5.out⟩
        case measure => simp [intOf]; omega
    · have hq1 : ¬ (k : Int) < (n2 : Int) ∨ ((k : Int) < (n2 : Int) ∧ ¬ (k : Int) < 10) := by omega
      have HAW := Lib.hid hl.awake13
      clear hl hlt
      rcases hq1 with q | ⟨q, q'⟩
      · go_wp2_with (go_at_call 41; refine HAW.out.mono ?_; rintro e w5 ⟨rfl, hb⟩)
        go_ret
        exact ⟨rfl, hb⟩
      · go_wp2_with (go_at_call 41; refine HAW.out.mono ?_; rintro e w5 ⟨rfl, hb⟩)
        go_ret
        exact ⟨rfl, hb⟩
set_option maxRecDepth 100000 in
theorem substMatches_ok {w : World} (Wi Mi : Int) (v u : Value) (h : newOk Wi Mi) (qs : List PAsk) (hv : AsksOf w v qs) (hq : qs.length ≤ 9223372036854775807) (ss : List (Int × List Int × List Int)) (hu : SubsOf w u ss) (hn2 : ss.length ≤ 9223372036854775807) :
    Calls Try.prog 9 #[.int .i64 Wi, .int .i64 Mi, v, u] w fun e w' => e = .returned (.bool true) ∧ Below w.heap.size w w' := by
  obtain ⟨a2, n2, c2, rfl, hl2, hcell2⟩ := hu
  rw [hl2] at hn2
  obtain ⟨a, cap, rfl⟩ := hv.parts
  obtain ⟨n, hn⟩ : ∃ n, qs.length = n := ⟨_, rfl⟩
  rw [hn] at hv hq ⊢
  have HM := Lib.hid (make_any (Lab.nil (Below.refl w.heap.size w)) Wi Mi h); have HV := Lib.hid hv; have HU := Lib.hid hcell2
  clear h hv hn hl2 hcell2
  generalize Wi.toNat = W at *
  generalize roomOf Mi = room at *
  go_enter Try.func9, Try.ntmps9
  go_wp2_with fail
  go_at_call 17
  refine HM.out.mono ?_
  rintro e w1 ⟨gb, rb, F0, F0', rfl, hlab1⟩
  obtain ⟨pb, hpb⟩ : ∃ pb, w1.heap.size = pb := ⟨_, rfl⟩
  have hl2 := hlab1.alloc #[.pointer (some ⟨gb, 0, none⟩), .pointer (some ⟨rb, 0, none⟩)] 27
  rw [hpb] at hl2
  have HL2 := Lib.hid hl2.rot3'
  clear hlab1 hl2
  go_upto_region 4 with fail
  clear hpb
  refine wp_abs (fun w2 => Lab w w2 [Thing.graph F0 [] gb W room [], Thing.rgraph F0' [] rb W room [], Thing.box pb 27 #[.pointer (some ⟨gb, 0, none⟩), .pointer (some ⟨rb, 0, none⟩)]]) HL2.out ?_
  rintro w2 hl2
  have hbx := hl2.box3
  have k1 : w2.cell? ⟨pb, 1, none⟩ = some (.pointer (some ⟨rb, 0, none⟩)) := by rw [cell_of_row w2 _ 1 _ _ _ hbx]; rfl
  have HI := Lib.hid hl2
  clear hl2 HL2 HM hbx
  go_wp2
  clear k1
  rename_i K12 h12
  have H12 := Lib.hid h12
  clear h12
  go_loopw [13] (fun i wx => ∃ k : Nat, k ≤ n ∧ k ≤ 80 ∧ i = .int .i64 k ∧ ∃ F I F' I' L, GoodL W L ∧ Lab w wx [Thing.graph F I gb W room L, Thing.rgraph F' I' rb W room L, Thing.box pb 27 #[.pointer (some ⟨gb, 0, none⟩), .pointer (some ⟨rb, 0, none⟩)]]) (fun i _ => n - (intOf i).toNat)
  case atStart => exact ⟨0, by omega, by omega, rfl, _, _, _, _, _, GoodL.nil W, HI.out⟩
  case round =>
    clear HI
    obtain ⟨k, hk, hk2, rfl, F, I, F', I', L, hgood, hl⟩ := hrel
    by_cases hlt : k < n ∧ k < 80
    · have hlt1 : (k : Int) < (n : Int) := by omega
      have hlt2 : (k : Int) < 80 := by omega
      obtain ⟨b, off, x, va, rfl, hx, hok, hav, c0, c1, c2, c3, c4⟩ := HV.out.at hlt.1
      have hbc := hl.box3
      have k0 : wr.cell? ⟨pb, 0, none⟩ = some (.pointer (some ⟨gb, 0, none⟩)) := by rw [cell_of_row wr _ 0 _ _ _ hbc]; rfl
      have k1 : wr.cell? ⟨pb, 1, none⟩ = some (.pointer (some ⟨rb, 0, none⟩)) := by rw [cell_of_row wr _ 1 _ _ _ hbc]; rfl
      replace c0 := cell_later hl.below c0
      replace c1 := cell_later hl.below c1
      replace c2 := cell_later hl.below c2
      replace c3 := cell_later hl.below c3
      replace c4 := cell_later hl.below c4
      obtain ⟨av, mv, cv, rfl, -, -⟩ := hav.slice.parts
      have hld := hl.later (Below.refl _ _).drew
      have hdo := do_any hld x _ (hld.stays hav.slice) hok
      have hgd := doR_good (room := room) hgood x
      obtain ⟨D, hD⟩ : ∃ D, doR W room L x = D := ⟨_, rfl⟩
      rw [hD] at hdo hgd
      clear hD
      have HD := Lib.hid hdo; have HGD := Lib.hid hgd
      clear hl hbc hld hdo hx hok hav hlt hgood hgd
      go_wp2
      go_still_tail 5, (by kernel_rfl)
      simp only [World.drew_eq]
      go_wp2_with fail
      go_at_call 42
      refine HD.out.mono ?_
      rintro e w3 ⟨rfl, F2, I2, F2', I2', hl3⟩
      have HL3 := Lib.hid hl3
      clear hl3
      go_wp2
      go_roundw
      case rel => exact ⟨k + 1, by omega, by omega, by go_num, F2, I2, F2', I2', _, HGD.out, HL3.out⟩
      case measure => simp [intOf]; omega
    · have hq1 : ¬ (k : Int) < (n : Int) ∨ ((k : Int) < (n : Int) ∧ ¬ (k : Int) < 80) := by omega
      have HL3 := Lib.hid hl; have HG := Lib.hid hgood
      clear hl hlt hgood
      rcases hq1 with q | ⟨q, q'⟩
      · go_wp2
        refine H12.out _ _ ?_
        exact substMatches_rest12 HG.out HL3.out HU.out hn2
      · go_wp2
        refine H12.out _ _ ?_
        exact substMatches_rest12 HG.out HL3.out HU.out hn2
end Go.Proofs.Ytcpgiadhmmmafaa
namespace Go.Proofs.Ytcpgiadhmmmafaa
open Go.RowKit Go.Maps
theorem substMatches_walk {w : World} (Wi Mi : Int) (v u : Value) (qs : List PAsk) (hv : AsksOf w v qs) (hq : qs.length ≤ 9223372036854775807) (ss : List (Int × List Int × List Int)) (hu : SubsOf w u ss) (hn2 : ss.length ≤ 9223372036854775807) :
    Calls Try.prog 9 #[.int .i64 Wi, .int .i64 Mi, v, u] w fun e w' => e = .returned (.bool true) ∧ Below w.heap.size w w' := by
  by_cases h : newOk Wi Mi
  · exact substMatches_ok Wi Mi v u h qs hv hq ss hu hn2
  · obtain ⟨a, cap, rfl⟩ := hv.parts
    obtain ⟨a2, n2, c2, rfl, -, -⟩ := hu
    exact substMatches_bad Wi Mi _ _ h ⟨_, _, _, rfl⟩ ⟨_, _, _, rfl⟩
end Go.Proofs.Ytcpgiadhmmmafaa
