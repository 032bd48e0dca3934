/- Both graphs, asked for simple terms. SimpMatches. -/
import Derived.Test.YtcpgiadhmmmafaaRSimpF
import Derived.Test.YtcpgiadhmmmafaaSimpP
namespace Go.Proofs.Ytcpgiadhmmmafaa
open Go.RowKit Go.Maps
set_option maxHeartbeats 3200000

/-- What is done to both graphs, and the error that is told. -/
def do12R (W room : Nat) (L : List PNode) (a : PAsk) : List PNode × Nat :=
  if a.1 % 4 = 3 then ((simpR W room L a.2.1 a.2.2.2.2).1, (simpR W room L a.2.1 a.2.2.2.2).2.2) else ((doR W room L a).1, 0)
set_option maxRecDepth 100000 in
theorem do12_any {w0 wr : World} {ts : List Thing} {F I F' I' : List Nat} {gb rb W room : Nat} {L : List PNode} (hl : Lab w0 wr (Thing.graph F I gb W room L :: Thing.rgraph F' I' rb W room L :: ts)) (a : PAsk) (va : Value) (hs : Stays wr F va a.2.2.2.2) (ha : a.Ok) :
    Calls Try.prog 19 #[.agg #[.pointer (some ⟨gb, 0, none⟩), .pointer (some ⟨rb, 0, none⟩)], .agg #[.int .u8 a.1, .int .u8 a.2.1, .int .u64 a.2.2.1, .int .i64 a.2.2.2.1, va]] wr fun e w' => e = .returned (.tuple #[.bool true, .int .i64 (do12R W room L a).2]) ∧ ∃ F I F' I', Lab w0 w' (Thing.graph F I gb W room (do12R W room L a).1 :: Thing.rgraph F' I' rb W room (do12R W room L a).1 :: ts) := by
  obtain ⟨R, hR⟩ : ∃ R, do12R W room L a = R := ⟨_, rfl⟩
  rw [hR]
  unfold do12R at hR
  obtain ⟨x0, x1, q, N, xs⟩ := a
  have hok := ha
  obtain ⟨h0, h1, h2, h3, h4, h5⟩ := ha
  simp only at h0 h1 h2 h3 h4 h5 hs hR ⊢
  obtain ⟨va, m, cap, rfl, -, -⟩ := hs.slice.parts
  have HS := Lib.hid hs; have HR := Lib.hid hR; have HOK := Lib.hid hok
  clear hs h4 h5 hR hok
  obtain ⟨p, hp⟩ : ∃ p, wr.heap.size = p := ⟨_, rfl⟩
  have hl1 := (hl.alloc #[.pointer (some ⟨gb, 0, none⟩), .pointer (some ⟨rb, 0, none⟩)] 32).alloc #[.int .u8 x0, .int .u8 x1, .int .u64 q, .int .i64 N, .slice va m cap] 35
  rw [World.size_alloc, hp] at hl1
  have hb1 : Below wr.heap.size wr ((wr.alloc (.cells #[.pointer (some ⟨gb, 0, none⟩), .pointer (some ⟨rb, 0, none⟩)] 32)).alloc (.cells #[.int .u8 x0, .int .u8 x1, .int .u64 q, .int .i64 N, .slice va m cap] 35)) := (below_new _ _).alloc (by simp) _
  have HL1 := Lib.hid hl1; have HB1 := Lib.hid hb1
  clear hl1 hb1 hl
  go_enter Try.func19, Try.ntmps19
  go_upto_region 1 with fail
  clear hp
  refine wp_abs (fun w2 => Lab w0 w2 (Thing.box (p + 1) 35 #[.int .u8 x0, .int .u8 x1, .int .u64 q, .int .i64 N, .slice va m cap] :: Thing.box p 32 #[.pointer (some ⟨gb, 0, none⟩), .pointer (some ⟨rb, 0, none⟩)] :: Thing.graph F I gb W room L :: Thing.rgraph F' I' rb W room L :: ts) ∧ Below wr.heap.size wr w2) ⟨HL1.out, HB1.out⟩ ?_
  rintro w2 ⟨hl2, hb2⟩
  have facts : ∀ wx : World, wx.heap[p + 1]? = some (.cells #[.int .u8 x0, .int .u8 x1, .int .u64 q, .int .i64 N, .slice va m cap] 35 (0, 0)) → wx.heap[p]? = some (.cells #[.pointer (some ⟨gb, 0, none⟩), .pointer (some ⟨rb, 0, none⟩)] 32 (0, 0)) →
      wx.cell? ⟨p, 0, none⟩ = some (.pointer (some ⟨gb, 0, none⟩)) ∧ wx.cell? ⟨p, 1, none⟩ = some (.pointer (some ⟨rb, 0, none⟩)) ∧ wx.cell? ⟨p + 1, 0, none⟩ = some (.int .u8 x0) ∧ wx.cell? ⟨p + 1, 1, none⟩ = some (.int .u8 x1) ∧ wx.cell? ⟨p + 1, 2, none⟩ = some (.int .u64 q) ∧ wx.cell? ⟨p + 1, 3, none⟩ = some (.int .i64 N) ∧ wx.cell? ⟨p + 1, 4, none⟩ = some (.slice va m cap) := by
    intro wx b1 b2
    refine ⟨?_, ?_, ?_, ?_, ?_, ?_, ?_⟩ <;> first | (rw [cell_of_row wx _ _ _ _ _ b2]; rfl) | (rw [cell_of_row wx _ _ _ _ _ b1]; rfl)
  obtain ⟨k0, k1, k2, k3, k4, k5, k6⟩ := facts w2 hl2.box1 hl2.box2
  have HFA := Lib.hid facts
  have hg := hl2.rot3
  have hg4 := hl2.rot4.rot4
  have hs2 : SliceOf w2 .i64 (.slice va m cap) xs := HS.out w2 (Touch.of_below hb2 F)
  have hst : Stays w2 F (.slice va m cap) xs := fun wx ht => HS.out wx ((Touch.of_below hb2 F).trans ht (fun k hk => .inl hk))
  have HG := Lib.hid hg; have HG4 := Lib.hid hg4; have HS2 := Lib.hid hs2; have HST := Lib.hid hst
  clear facts hl2 hb2 hg hg4 hs2 hst
  by_cases c0 : x0 % 4 = 3
  · have ht : (((x0 : Int) % 4) != 3) = false := by rw [bne_eq_false_iff_eq]; omega
    rw [if_pos c0] at HR
    obtain ⟨RS, hRS⟩ : ∃ RS, simpR W room L x1 xs = RS := ⟨_, rfl⟩
    rw [hRS] at HR
    have hr := HR.out
    subst hr
    have hc := sapp_any HG.out.gr x1 h1 xs _ HS2.out
    rw [hRS] at hc
    have HC := Lib.hid hc; have HRS := Lib.hid hRS
    clear hc c0 hRS HR
    go_wp2_with fail
    go_at_call 26
    refine HC.out.mono ?_
    intro e w3 hp
    have htch : Touch F w2 w3 := by obtain ⟨_, _, _, _, h, _⟩ := hp; exact h
    obtain ⟨F2, I2, rfl, hl3⟩ := HG.out.gpost hp
    have hl4 := hl3.rot4
    have hc2 := rsapp_any hl4.rgr x1 h1 xs _ (HST.out w3 htch)
    rw [HRS.out] at hc2
    obtain ⟨k0, k1, k2, k3, k4, k5, k6⟩ := HFA.out w3 hl3.box2 hl3.box3
    have HL4 := Lib.hid hl4; have HC2 := Lib.hid hc2
    clear hl3 hl4 hp hc2 htch
    go_wp2_with fail
    go_at_call 50
    refine HC2.out.mono ?_
    intro e w4 hp
    obtain ⟨F3, I3, rfl, hl5⟩ := HL4.out.rpost hp
    have HL5 := Lib.hid hl5
    clear hl5 hp
    obtain ⟨L9, t9, e9⟩ := RS
    have q1 : ((t9 : Int) == (t9 : Int)) = true := by simp
    have q2 : ((e9 : Int) == (e9 : Int)) = true := by simp
    go_wp2
    go_ret2
    exact ⟨rfl, F2, I2, F3, I3, HL5.out.rot4.rot4.drop.drop.swap⟩
  · have ht : (((x0 : Int) % 4) != 3) = true := by rw [bne_iff_ne]; omega
    rw [if_neg c0] at HR
    have hr := HR.out
    subst hr
    have HD := Lib.hid (do_any HG4.out (x0, x1, q, N, xs) (.slice va m cap) HST.out HOK.out)
    clear c0 HR
    go_wp2_with fail
    go_at_call 42
    refine HD.out.mono ?_
    rintro e w3 ⟨rfl, F2, I2, F3, I3, hl5⟩
    have HL5 := Lib.hid hl5
    clear hl5
    go_wp2
    go_ret2
    exact ⟨rfl, F2, I2, F3, I3, HL5.out.sub (.cons_cons _ (.cons_cons _ (.cons _ (.cons _ (List.Sublist.refl _)))))⟩
set_option maxRecDepth 100000 in
theorem simpMatches_bad {w : World} (Wi Mi : Int) (v : Value) (h : ¬ newOk Wi Mi) (hv : ∃ a n c, v = .slice a n c) :
    Calls Try.prog 6 #[.int .i64 Wi, .int .i64 Mi, v] w fun e w' => e = .returned (.bool true) ∧ Below w.heap.size w w' := by
  obtain ⟨a, n, c, rfl⟩ := hv
  have HM := Lib.hid (make_bad Wi Mi h w)
  clear h
  go_enter Try.func6, Try.ntmps6
  go_wp2_with fail
  go_at_call 17
  refine HM.out.mono ?_
  rintro e w1 ⟨rfl, hb1⟩
  have hl1 := Lab.nil hb1
  obtain ⟨pb, hpb⟩ : ∃ pb, w1.heap.size = pb := ⟨_, rfl⟩
  have hl2 := (hl1.alloc #[.pointer none, .pointer none] 27).alloc #[.pointer none, .pointer none] 32
  rw [World.size_alloc, hpb] at hl2
  have HL2 := Lib.hid hl2
  clear hb1 hl1 hl2
  go_upto_region 5 with fail
  clear hpb
  refine wp_abs (fun w2 => Lab w w2 [Thing.box (pb + 1) 32 #[.pointer none, .pointer none], Thing.box pb 27 #[.pointer none, .pointer none]]) HL2.out ?_
  rintro w2 hl
  have hbx := hl.box1
  have k1 : w2.cell? ⟨pb + 1, 1, none⟩ = some (.pointer none) := by rw [cell_of_row w2 _ 1 _ _ _ hbx]; rfl
  have HL3 := Lib.hid (hl.later (below_new w2 (.cells (([(0 : Int)].map (Value.int .i64)).toArray) 3)))
  clear hl HL2 HM hbx
  go_wp2_with (first | (go_at_call 26; refine (sapp_nil _ _ _).mono ?_; rintro e w3 ⟨rfl, rfl⟩) | (go_at_call 30; refine (simple_nil _ _).mono ?_; rintro e w3 ⟨rfl, rfl⟩) | (go_at_call 22; refine HL3.out.awake12.mono ?_; rintro e w3 ⟨rfl, hb⟩))
  go_ret
  exact ⟨rfl, hb⟩
noncomputable def matchesRest17 : Code := (Try.f6.body.bind (tailR 17)).getD .skip
set_option maxRecDepth 100000 in
theorem simpMatches_rest17 {u0 u1 u2 u3 u4 u5 u6 u7 u8 u10 u11 u12 u13 u14 u15 u16 u17 u18 u19 u20 u21 u22 u23 u24 u25 u26 u27 u28 u29 u30 u31 u32 u33 u34 u35 u36 u37 u38 u39 u40 u41 u42 u43 u44 u45 u46 u47 u48 u49 u50 u51 u52 u53 u54 u55 u56 u57 u58 u59 u60 u61 u62 u63 u64 u65 u66 u67 u68 u69 u70 u71 u72 u73 u74 u75 u76 u77 u78 u79 u80 u81 u82 u83 u84 u85 u86 u87 u88 u89 u90 u91 u92 u93 u94 u95 u96 u97 u98 u99 u100 u101 u102 u103 u104 u105 u106 u107 u108 u109 u110 u111 u112 u113 u114 u115 u116 u117 u118 u119 u120 u121 u122 u123 u124 u125 u126 u127 u128 u129 u130 u131 u132 u133 u134 u135 u136 u137 u138 u139 u140 u141 u142 u143 u144 u145 u146 u147 u148 u149 u150 u151 u152 u153 u154 u155 u156 u157 : Value} {w wr : World} {F I F' I' : List Nat} {gb rb W room pb : Nat} {L : List PNode} (hl : Lab w wr [Thing.graph F I gb W room L, Thing.rgraph F' I' rb W room L, Thing.box pb 32 #[.pointer (some ⟨gb, 0, none⟩), .pointer (some ⟨rb, 0, none⟩)]]) :
    Code.wp Try.prog matchesRest17 (bodyPost Try.prog Try.f6 (fun e w' => e = .returned (.bool true) ∧ Below w.heap.size w w')) ⟨(List.toArray (u0 :: u1 :: u2 :: u3 :: u4 :: u5 :: u6 :: u7 :: u8 :: .pointer (some ⟨pb, 0, none⟩) :: u10 :: u11 :: u12 :: u13 :: u14 :: u15 :: u16 :: u17 :: u18 :: u19 :: u20 :: u21 :: u22 :: u23 :: u24 :: u25 :: u26 :: u27 :: u28 :: u29 :: u30 :: u31 :: u32 :: u33 :: u34 :: u35 :: u36 :: u37 :: u38 :: u39 :: u40 :: u41 :: u42 :: u43 :: u44 :: u45 :: u46 :: u47 :: u48 :: u49 :: u50 :: u51 :: u52 :: u53 :: u54 :: u55 :: u56 :: u57 :: u58 :: u59 :: u60 :: u61 :: u62 :: u63 :: u64 :: u65 :: u66 :: u67 :: u68 :: u69 :: u70 :: u71 :: u72 :: u73 :: u74 :: u75 :: u76 :: u77 :: u78 :: u79 :: u80 :: u81 :: u82 :: u83 :: u84 :: u85 :: u86 :: u87 :: u88 :: u89 :: u90 :: u91 :: u92 :: u93 :: u94 :: u95 :: u96 :: u97 :: u98 :: u99 :: u100 :: u101 :: u102 :: u103 :: u104 :: u105 :: u106 :: u107 :: u108 :: u109 :: u110 :: u111 :: u112 :: u113 :: u114 :: u115 :: u116 :: u117 :: u118 :: u119 :: u120 :: u121 :: u122 :: u123 :: u124 :: u125 :: u126 :: u127 :: u128 :: u129 :: u130 :: u131 :: u132 :: u133 :: u134 :: u135 :: u136 :: u137 :: u138 :: u139 :: u140 :: u141 :: u142 :: u143 :: u144 :: u145 :: u146 :: u147 :: u148 :: u149 :: u150 :: u151 :: u152 :: u153 :: u154 :: u155 :: u156 :: u157 :: [])), []⟩ wr := by
  have hbc := hl.box3
  have k1 : wr.cell? ⟨pb, 1, none⟩ = some (.pointer (some ⟨rb, 0, none⟩)) := by rw [cell_of_row wr _ 1 _ _ _ hbc]; rfl
  obtain ⟨sa, scap, -, -, s2, hll⟩ := hl.rgr2.parts
  obtain ⟨N, hN⟩ : ∃ N, L.length = N := ⟨_, rfl⟩
  rw [hN] at s2 hll
  have HL := Lib.hid hl
  clear hl hbc hN
  conv => arg 2; whnf
  go_wp2
  clear k1 s2
  go_loopw [18] (fun i wx => ∃ k : Nat, k ≤ N + 2 ∧ i = .int .i64 ((k : Int) - 1) ∧ Lab w wx [Thing.graph F I gb W room L, Thing.rgraph F' I' rb W room L, Thing.box pb 32 #[.pointer (some ⟨gb, 0, none⟩), .pointer (some ⟨rb, 0, none⟩)]]) (fun i _ => (N + 2 - (intOf i + 1)).toNat)
  case atStart => exact ⟨0, by omega, rfl, HL.out⟩
  case round =>
    obtain ⟨k, hk, rfl, hl⟩ := hrel
    by_cases hlt : k < N + 2
    · have hlt1 : ((k : Int) - 1) ≤ (N : Int) := by omega
      have hbc := hl.box3
      have k0 : wr.cell? ⟨pb, 0, none⟩ = some (.pointer (some ⟨gb, 0, none⟩)) := by rw [cell_of_row wr _ 0 _ _ _ hbc]; rfl
      have hn1 := number_any hl.gr ((k : Int) - 1)
      have HL3 := Lib.hid hl
      have HN2 : Hid (∀ wx, Below wr.heap.size wr wx → _) := Lib.hid fun wx (hb : Below wr.heap.size wr wx) => rnumber_any (hl.rgr2.later hb) ((k : Int) - 1)
      generalize numD L ((k : Int) - 1) = q at *
      generalize isNum L ((k : Int) - 1) = b at *
      have q1 : ((q : Int) != (q : Int)) = false := by simp
      have HN1 := Lib.hid hn1
      clear hl hbc hn1
      go_wp2_with fail
      go_at_call 31
      refine HN1.out.mono ?_
      rintro e w3 ⟨rfl, hb3⟩
      have HL4 := Lib.hid (HL3.out.later hb3)
      have HN3 := Lib.hid (HN2.out w3 hb3)
      have hbc := HL4.out.box3
      have k1 : w3.cell? ⟨pb, 1, none⟩ = some (.pointer (some ⟨rb, 0, none⟩)) := by rw [cell_of_row w3 _ 1 _ _ _ hbc]; rfl
      clear hb3 hbc k0
      go_wp2_with fail
      go_at_call 32
      refine HN3.out.mono ?_
      rintro e w4 ⟨rfl, rfl⟩
      cases b with
      | true =>
        go_wp2
        go_roundw
        case rel => exact ⟨k + 1, by omega, by congr 1; omega, HL4.out⟩
        case measure => simp [intOf]; omega
      | false =>
        go_wp2
        go_roundw
        case rel => exact ⟨k + 1, by omega, by congr 1; omega, HL4.out⟩
        case measure => simp [intOf]; omega
    · obtain rfl : k = N + 2 := by omega
      have hlt1 : ¬ (((N + 2 : Nat) : Int) - 1) ≤ (N : Int) := by omega
      have HL3 := Lib.hid hl
      clear hl HL
      go_wp2
      go_loopw [23] (fun i wx => ∃ k : Nat, k ≤ N + 2 ∧ i = .int .i64 ((k : Int) - 1) ∧ ∃ F I F' I' L, Lab w wx [Thing.graph F I gb W room L, Thing.rgraph F' I' rb W room L, Thing.box pb 32 #[.pointer (some ⟨gb, 0, none⟩), .pointer (some ⟨rb, 0, none⟩)]]) (fun i _ => (N + 2 - (intOf i + 1)).toNat)
      case atStart => exact ⟨0, by omega, rfl, _, _, _, _, _, HL3.out⟩
      case round =>
        clear HL3
        obtain ⟨k, hk, rfl, F, I, F', I', L, hl⟩ := hrel
        by_cases hlt : k < N + 2
        · have hlt1 : ((k : Int) - 1) ≤ (N : Int) := by omega
          have hbc := hl.box3
          have k0 : wr.cell? ⟨pb, 0, none⟩ = some (.pointer (some ⟨gb, 0, none⟩)) := by rw [cell_of_row wr _ 0 _ _ _ hbc]; rfl
          obtain ⟨R, hR⟩ : ∃ R, simpleR W room L ((k : Int) - 1) = R := ⟨_, rfl⟩
          have HR := Lib.hid hR
          have HL3 := Lib.hid hl
          clear hl hbc hR
          go_wp2_with fail
          go_at_call 30
          refine (HL3.out.simple _ HR.out).mono ?_
          rintro e w3 ⟨F2, I2, rfl, hl2⟩
          have hbc := hl2.box3
          have k1 : w3.cell? ⟨pb, 1, none⟩ = some (.pointer (some ⟨rb, 0, none⟩)) := by rw [cell_of_row w3 _ 1 _ _ _ hbc]; rfl
          have HL4 := Lib.hid hl2.swap
          clear hl2 hbc k0
          go_wp2_with fail
          go_at_call 33
          refine (HL4.out.rsimple _ HR.out).mono ?_
          rintro e w4 ⟨F3, I3, rfl, hl3⟩
          have HL5 := Lib.hid hl3.swap
          clear hl3
          obtain ⟨L9, t9, e9⟩ := R
          have q1 : ((t9 : Int) != (t9 : Int)) = false := by simp
          have q2 : ((e9 : Int) != (e9 : Int)) = false := by simp
          by_cases h10 : e9 = 10
          · have q3 : ((e9 : Int) == 10) = true := by rw [beq_iff_eq]; omega
            have HAW := Lib.hid HL5.out.awake12
            clear h10
            go_wp2_with (go_at_call 22; refine HAW.out.mono ?_; rintro e w5 ⟨rfl, hb⟩)
            go_ret
            exact ⟨rfl, hb⟩
          · have q3 : ((e9 : Int) == 10) = false := by rw [beq_eq_false_iff_ne]; omega
            clear h10
            go_wp2
            go_roundw
            case rel => exact ⟨k + 1, by omega, by congr 1; omega, F2, I2, F3, I3, L9, HL5.out⟩
            case measure => simp [intOf]; omega
        · obtain rfl : k = N + 2 := by omega
          have hlt1 : ¬ (((N + 2 : Nat) : Int) - 1) ≤ (N : Int) := by omega
          have hbc := hl.box3
          have k0 : wr.cell? ⟨pb, 0, none⟩ = some (.pointer (some ⟨gb, 0, none⟩)) := by rw [cell_of_row wr _ 0 _ _ _ hbc]; rfl
          have k1 : wr.cell? ⟨pb, 1, none⟩ = some (.pointer (some ⟨rb, 0, none⟩)) := by rw [cell_of_row wr _ 1 _ _ _ hbc]; rfl
          have HSM := Lib.hid (same_any hl.gr hl.rgr2)
          have HL3 := Lib.hid hl
          clear hl hbc
          go_wp2_with fail
          go_at_call 21
          refine HSM.out.mono ?_
          rintro e w3 ⟨rfl, hb3⟩
          have HAW := Lib.hid (HL3.out.later hb3).awake12
          clear hb3
          go_wp2_with (go_at_call 22; refine HAW.out.mono ?_; rintro e w5 ⟨rfl, hb⟩)
          go_ret
          exact ⟨rfl, hb⟩
set_option maxRecDepth 100000 in
theorem simpMatches_ok {w : World} (Wi Mi : Int) (v : Value) (h : newOk Wi Mi) (qs : List PAsk) (hv : AsksOf w v qs) (hq : qs.length ≤ 9223372036854775807) :
    Calls Try.prog 6 #[.int .i64 Wi, .int .i64 Mi, v] w fun e w' => e = .returned (.bool true) ∧ Below w.heap.size w w' := by
  obtain ⟨a, cap, rfl⟩ := hv.parts
  obtain ⟨n, hn⟩ : ∃ n, qs.length = n := ⟨_, rfl⟩
  rw [hn] at hv hq ⊢
  have HM := Lib.hid (make_any (Lab.nil (Below.refl w.heap.size w)) Wi Mi h); have HV := Lib.hid hv
  clear h hv hn
  generalize Wi.toNat = W at *
  generalize roomOf Mi = room at *
  go_enter Try.func6, Try.ntmps6
  go_wp2_with fail
  go_at_call 17
  refine HM.out.mono ?_
  rintro e w1 ⟨gb, rb, F0, F0', rfl, hlab1⟩
  obtain ⟨pb, hpb⟩ : ∃ pb, w1.heap.size = pb := ⟨_, rfl⟩
  have hl2 := (hlab1.alloc #[.pointer (some ⟨gb, 0, none⟩), .pointer (some ⟨rb, 0, none⟩)] 27).alloc #[.pointer (some ⟨gb, 0, none⟩), .pointer (some ⟨rb, 0, none⟩)] 32
  rw [World.size_alloc, hpb] at hl2
  have HL2 := Lib.hid hl2
  clear hlab1 hl2
  go_upto_region 5 with fail
  clear hpb
  refine wp_abs (fun w2 => Lab w w2 [Thing.graph F0 [] gb W room [], Thing.rgraph F0' [] rb W room [], Thing.box (pb + 1) 32 #[.pointer (some ⟨gb, 0, none⟩), .pointer (some ⟨rb, 0, none⟩)]]) (HL2.out.rot4.rot4.sub (.cons_cons _ (.cons_cons _ (.cons_cons _ (.cons _ (List.Sublist.refl _)))))) ?_
  rintro w2 hl2
  have hbx := hl2.box3
  have k1 : w2.cell? ⟨pb + 1, 1, none⟩ = some (.pointer (some ⟨rb, 0, none⟩)) := by rw [cell_of_row w2 _ 1 _ _ _ hbx]; rfl
  have HI := Lib.hid hl2
  clear hl2 HL2 HM hbx
  go_wp2
  clear k1
  rename_i K17 h17
  have H17 := Lib.hid h17
  clear h17
  go_loopw [14] (fun i wx => ∃ k : Nat, k ≤ n ∧ k ≤ 100 ∧ i = .int .i64 k ∧ ∃ F I F' I' L, Lab w wx [Thing.graph F I gb W room L, Thing.rgraph F' I' rb W room L, Thing.box (pb + 1) 32 #[.pointer (some ⟨gb, 0, none⟩), .pointer (some ⟨rb, 0, none⟩)]]) (fun i _ => n - (intOf i).toNat)
  case atStart => exact ⟨0, by omega, by omega, rfl, _, _, _, _, _, HI.out⟩
  case round =>
    obtain ⟨k, hk, hk2, rfl, F, I, F', I', L, hl⟩ := hrel
    by_cases hlt : k < n ∧ k < 100
    · have hlt1 : (k : Int) < (n : Int) := by omega
      have hlt2 : (k : Int) < 100 := by omega
      obtain ⟨b, off, x, va, rfl, hx, hok, hav, c0, c1, c2, c3, c4⟩ := HV.out.at hlt.1
      have hbc := hl.box3
      have k0 : wr.cell? ⟨pb + 1, 0, none⟩ = some (.pointer (some ⟨gb, 0, none⟩)) := by rw [cell_of_row wr _ 0 _ _ _ hbc]; rfl
      have k1 : wr.cell? ⟨pb + 1, 1, none⟩ = some (.pointer (some ⟨rb, 0, none⟩)) := by rw [cell_of_row wr _ 1 _ _ _ hbc]; rfl
      have C0 := Lib.hid c0; have C1 := Lib.hid c1; have C2 := Lib.hid c2; have C3 := Lib.hid c3; have C4 := Lib.hid c4
      replace c0 := cell_later hl.below c0
      replace c1 := cell_later hl.below c1
      replace c2 := cell_later hl.below c2
      replace c3 := cell_later hl.below c3
      replace c4 := cell_later hl.below c4
      obtain ⟨av, mv, cv, rfl, -, -⟩ := hav.slice.parts
      have hld := hl.later (Below.refl _ _).drew
      have hdo := do12_any hld x _ (hld.stays hav.slice) hok
      obtain ⟨⟨L9, e9⟩, hD⟩ : ∃ D, do12R W room L x = D := ⟨_, rfl⟩
      rw [hD] at hdo
      clear hD
      have HD := Lib.hid hdo
      clear hl hbc hld hdo hx hok hav hlt
      go_upto_region 12 with fail
      go_region_held3 (fun w' => w'.cell? ⟨pb + 1, 0, none⟩ = some (.pointer (some ⟨gb, 0, none⟩)) ∧ w'.cell? ⟨pb + 1, 1, none⟩ = some (.pointer (some ⟨rb, 0, none⟩)) ∧ w'.cell? ⟨b, off + k * 5, none⟩ = some (.int .u8 x.1) ∧ w'.cell? ⟨b, off + k * 5 + 1, none⟩ = some (.int .u8 x.2.1) ∧ w'.cell? ⟨b, off + k * 5 + 2, none⟩ = some (.int .u64 x.2.2.1) ∧ w'.cell? ⟨b, off + k * 5 + 3, none⟩ = some (.int .i64 x.2.2.2.1) ∧ w'.cell? ⟨b, off + k * 5 + 4, none⟩ = some (.slice av mv cv))
        (first | exact ⟨k0, k1, c0, c1, c2, c3, c4⟩ | exact ⟨by assumption, by assumption, by assumption, by assumption, by assumption, by assumption, by assumption⟩ | go_keep | trivial)
        (first | (go_at_call 19; refine HD.out.mono ?_; rintro e w3 ⟨rfl, F2, I2, F2', I2', hl3⟩; have hbc3 := hl3.box3; have m0 : w3.cell? ⟨pb + 1, 0, none⟩ = some (.pointer (some ⟨gb, 0, none⟩)) := (by rw [cell_of_row w3 _ 0 _ _ _ hbc3]; rfl); have m1 : w3.cell? ⟨pb + 1, 1, none⟩ = some (.pointer (some ⟨rb, 0, none⟩)) := (by rw [cell_of_row w3 _ 1 _ _ _ hbc3]; rfl); have n0 := cell_later hl3.below C0.out; have n1 := cell_later hl3.below C1.out; have n2 := cell_later hl3.below C2.out; have n3 := cell_later hl3.below C3.out; have n4 := cell_later hl3.below C4.out))
      have HL3 := Lib.hid hl3
      clear hl3
      by_cases h10 : e9 = 10
      · have q1 : ((e9 : Int) == 10) = true := by rw [beq_iff_eq]; omega
        have HAW := Lib.hid HL3.out.awake12
        clear h10
        go_wp2_with (go_at_call 22; refine HAW.out.mono ?_; rintro e w4 ⟨rfl, hb⟩)
        go_ret
        exact ⟨rfl, hb⟩
      · have q1 : ((e9 : Int) == 10) = false := by rw [beq_eq_false_iff_ne]; omega
        clear h10
        go_wp2
        go_roundw
        case rel => exact ⟨k + 1, by omega, by omega, by go_num, F2, I2, F2', I2', L9, HL3.out⟩
        case measure => simp [intOf]; omega
    · have hq1 : ¬ (k : Int) < (n : Int) ∨ ((k : Int) < (n : Int) ∧ ¬ (k : Int) < 100) := by omega
      have HL3 := Lib.hid hl
      clear hl hlt
      rcases hq1 with q | ⟨q, q'⟩
      · go_wp2
        refine H17.out _ _ ?_
        exact simpMatches_rest17 HL3.out
      · go_wp2
        refine H17.out _ _ ?_
        exact simpMatches_rest17 HL3.out
end Go.Proofs.Ytcpgiadhmmmafaa
namespace Go.Proofs.Ytcpgiadhmmmafaa
open Go.RowKit Go.Maps
theorem simpMatches_walk {w : World} (Wi Mi : Int) (v : Value) (qs : List PAsk) (hv : AsksOf w v qs) (hq : qs.length ≤ 9223372036854775807) :
    Calls Try.prog 6 #[.int .i64 Wi, .int .i64 Mi, v] w fun e w' => e = .returned (.bool true) ∧ Below w.heap.size w w' := by
  by_cases h : newOk Wi Mi
  · exact simpMatches_ok Wi Mi v h qs hv hq
  · obtain ⟨a, cap, rfl⟩ := hv.parts
    exact simpMatches_bad Wi Mi _ h ⟨_, _, _, rfl⟩
end Go.Proofs.Ytcpgiadhmmmafaa
