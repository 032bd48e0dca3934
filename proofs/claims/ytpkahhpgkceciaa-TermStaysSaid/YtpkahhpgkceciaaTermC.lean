/- TermStays of law 10. -/
import Derived.Test.YtpkahhpgkceciaaLabN
import Derived.Test.YtpkahhpgkceciaaGraphG
import Derived.Deep.DeepCutAuto
import Derived.Deep.CutBlock
import Derived.StillTailTactics
import Derived.Outline
namespace Go.Proofs.Ytpkahhpgkceciaa
open Go.RowKit Go.Maps
set_option maxHeartbeats 800000

theorem Lab.awakeC {w0 wr : World} {ts : List Thing} (h : Lab w0 wr ts) : Calls Try.prog 22 #[] wr fun e w' => e = .returned (.bool true) ∧ Below w0.heap.size w0 w' :=
  (awake_any wr).mono fun _ _ ⟨he, hb⟩ => ⟨he, h.below.trans (hb.mono h.size)⟩
/-- A list of nodes of which another one is the beginning. -/
theorem isPrefix_ask {L : List PNode} (room : Nat) (n : PNode) : L <+: (askP room L n).1 := by
  unfold askP
  cases L.findIdx? (· == n) with
  | some t => exact List.prefix_refl _
  | none =>
    dsimp only
    split
    · exact List.prefix_refl _
    · exact List.prefix_append _ _
theorem isPrefix_const (W room : Nat) (L : List PNode) (q : Nat) : L <+: (constR W room L q).1 := isPrefix_ask room _
theorem isPrefix_var (room : Nat) (L : List PNode) (n : Int) : L <+: (varR room L n).1 := by
  unfold varR; split
  · exact isPrefix_ask room _
  · exact List.prefix_refl _
theorem isPrefix_app (room : Nat) (L : List PNode) (o : Nat) (xs : List Int) : L <+: (appR room L o xs).1 := by
  unfold appR; split
  · split
    · exact isPrefix_ask room _
    · exact List.prefix_refl _
  · exact List.prefix_refl _
theorem prefix_at {L L' : List PNode} (h : L <+: L') {i : Nat} {n : PNode} (hi : L[i]? = some n) : L'[i]? = some n := by
  obtain ⟨t, rfl⟩ := h
  rw [List.getElem?_append_left (List.getElem?_eq_some_iff.1 hi).1]; exact hi
/-- What is refused leaves the nodes as they are. -/
theorem ask_err {L : List PNode} {room : Nat} {n : PNode} (h : (askP room L n).2.2 ≠ 0) : (askP room L n).1 = L := by
  unfold askP at h ⊢
  cases hf : L.findIdx? (· == n) with
  | some t => rfl
  | none =>
    rw [hf] at h
    dsimp only at h ⊢
    split
    · rfl
    · rw [if_neg (by assumption)] at h; exact absurd rfl h
theorem const_err {W room : Nat} {L : List PNode} {q : Nat} (h : (constR W room L q).2.2 ≠ 0) : (constR W room L q).1 = L := ask_err h
theorem var_err {room : Nat} {L : List PNode} {n : Int} (h : (varR room L n).2.2 ≠ 0) : (varR room L n).1 = L := by
  unfold varR at h ⊢; split
  · rw [if_pos (by assumption)] at h; exact ask_err h
  · rfl
theorem app_err {room : Nat} {L : List PNode} {o : Nat} {xs : List Int} (h : (appR room L o xs).2.2 ≠ 0) : (appR room L o xs).1 = L := by
  unfold appR at h ⊢; split
  · rw [if_pos (by assumption)] at h
    split
    · rw [if_pos (by assumption)] at h; exact ask_err h
    · rfl
  · rfl
set_option maxRecDepth 100000 in
theorem termStays_walk {w : World} (Wi : Int) (v v2 : Value) (qs qs2 : List PAsk) (hv : AsksOf w v qs) (hq : qs.length ≤ 9223372036854775807) (hv2 : AsksOf w v2 qs2) (hq2 : qs2.length ≤ 9223372036854775807) (hc : ∀ a n c, v = .slice a n c → n ≤ c) :
    Calls Try.prog 5 #[.int .i64 Wi, v, v2] w fun e w' => e = .returned (.bool true) ∧ Below w.heap.size w w' := by
  obtain ⟨a, cap, rfl⟩ := hv.parts
  obtain ⟨a2, cap2, rfl⟩ := hv2.parts
  have hcap := hc _ _ _ rfl
  obtain ⟨n, hn⟩ : ∃ n, qs.length = n := ⟨_, rfl⟩
  obtain ⟨n2, hn2⟩ : ∃ n, qs2.length = n := ⟨_, rfl⟩
  rw [hn] at hv hq hcap ⊢
  rw [hn2] at hv2 hq2 ⊢
  obtain ⟨W, hW⟩ : ∃ W, (Wi % 64).toNat + 1 = W := ⟨_, rfl⟩
  have hfa : 60 ≤ n → Calls Try.prog 19 #[.int .i64 Wi, .slice a 60 cap] w fun e w' => ∃ gb F I a' m c L, L.length ≤ 120 ∧ e = .returned (.tuple #[.pointer (some ⟨gb, 0, none⟩), .slice a' m c]) ∧ Lab w w' [Thing.graph F I gb W 1048576 L] := fun h60 => by
    refine (fill_lab Wi _ _ (hv.take 60 cap h60) (by have := List.length_take_le 60 qs; omega)).mono ?_
    rintro e w' ⟨gb, F, I, a', m, c, rfl, hl⟩
    rw [hW] at hl
    exact ⟨gb, F, I, a', m, c, _, by have := (fillS_len W ((qs.take 60).take 120)).1; have := List.length_take_le 120 (qs.take 60); omega, rfl, hl.swap.drop⟩
  have hfb : Calls Try.prog 19 #[.int .i64 Wi, .slice a n cap] w fun e w' => ∃ gb F I a' m c L, L.length ≤ 120 ∧ e = .returned (.tuple #[.pointer (some ⟨gb, 0, none⟩), .slice a' m c]) ∧ Lab w w' [Thing.graph F I gb W 1048576 L] := by
    refine (fill_lab Wi _ _ hv (by omega)).mono ?_
    rintro e w' ⟨gb, F, I, a', m, c, rfl, hl⟩
    rw [hW] at hl
    exact ⟨gb, F, I, a', m, c, _, by have := (fillS_len W (qs.take 120)).1; have := List.length_take_le 120 qs; omega, rfl, hl.swap.drop⟩
  have HFA := Lib.hid hfa; have HFB := Lib.hid hfb; have HV2 := Lib.hid hv2
  clear hc hn hn2 hv hv2 hfa hfb hW
  go_enter Try.func5, Try.ntmps5
  go_upto_region 1 with fail
  go_cut [7, 8] (fun g t wx => ∃ gb F I a' m c L, L.length ≤ 120 ∧ g = .pointer (some ⟨gb, 0, none⟩) ∧ t = .slice a' m c ∧ Lab w wx [Thing.graph F I gb W 1048576 L])
  case first =>
    go_wp2_with fail
    case inl =>
      have h60 : 60 ≤ n := by omega
      go_at_call 19
      refine (HFA.out h60).mono ?_
      rintro e w1 ⟨gb, F, I, a', m, c, L, hL, rfl, hlab⟩
      go_wp2
      go_meet
      exact ⟨gb, F, I, a', m, c, L, hL, rfl, rfl, hlab⟩
    case inr =>
      go_at_call 19
      refine HFB.out.mono ?_
      rintro e w1 ⟨gb, F, I, a', m, c, L, hL, rfl, hlab⟩
      go_wp2
      go_meet
      exact ⟨gb, F, I, a', m, c, L, hL, rfl, rfl, hlab⟩
  case rest =>
    obtain ⟨gb, F, I, a', m, c, L, hL, rfl, rfl, hlab⟩ := hcut
    have HL0 := Lib.hid hlab
    clear hlab
    go_wp2
    go_loopw [9, 10] (fun nv i wr => ∃ k : Nat, k ≤ L.length ∧ i = .int .i64 k ∧ ∃ J, Lab w wr [Thing.nodes J nv (L.take k), Thing.graph F I gb W 1048576 L]) (fun _ i _ => L.length - (intOf i).toNat)
    case atStart => exact ⟨0, by omega, rfl, _, HL0.out.nil_nodes⟩
    case round =>
      obtain ⟨k, hk, rfl, J, hlab⟩ := hrel
      have htl : (L.take k).length = k := by rw [List.length_take]; omega
      obtain ⟨an, cn, hnv⟩ := hlab.val_nodes
      rw [htl] at hnv
      subst hnv
      have HL := Lib.hid hlab; have HTL := Lib.hid htl
      clear hlab htl
      by_cases hlt : k < L.length
      · obtain ⟨x, hx⟩ : ∃ x, L[k]? = some x := ⟨_, List.getElem?_eq_getElem hlt⟩
        have htk := take_snoc_at hx
        obtain ⟨op, num, xs⟩ := x
        have HX := Lib.hid hx; have HTK := Lib.hid htk
        clear hx htk
        go_wp2_with fail
        go_at_call 20
        refine (len_any HL.out.swap.gr).mono ?_
        rintro e w2 ⟨rfl, rfl⟩
        go_wp2_with fail
        go_at_call 23
        refine (HL.out.swap.node_at k _ HX.out).mono ?_
        rintro e w2 ⟨a1, m1, c1, rfl, hlab2⟩
        obtain ⟨p, hp⟩ : ∃ p, w2.heap.size = p := ⟨_, rfl⟩
        have hl3 := hlab2.alloc #[.int .u8 op, .int .u64 num, .slice a1 m1 c1] 37
        rw [hp] at hl3
        have HL3 := Lib.hid hl3
        clear hl3 hlab2
        go_upto_region 9 with fail
        clear hp
        refine wp_abs (fun w3 => Lab w w3 [Thing.box p 37 #[.int .u8 op, .int .u64 num, .slice a1 m1 c1], Thing.graph F I gb W 1048576 L, Thing.ints (.slice a1 m1 c1) xs, Thing.nodes J (.slice an k cn) (L.take k)]) HL3.out ?_
        rintro w3 hl3
        obtain ⟨d0, d1, d2⟩ := cells3 hl3.box1
        have hl4 := hl3.drop.swap.rot3
        obtain ⟨cells, ho, hnr⟩ := hl4.head
        have HL4 := Lib.hid hl4; have HO := Lib.hid ho; have HNR := Lib.hid hnr
        have ho' := ho
        rw [HTL.out] at ho'
        have HO' := Lib.hid ho'
        have hlk : k ≤ 999999999 := by omega
        clear hl3 HL3 hl4 ho ho' hnr
        go_wp2_with (at_builtin; (refine wpList_append1_row 44 37 3 40 w3 _ k cells [.int .u8 op, .int .u64 num, .slice a1 m1 c1] HO'.out _ _ rfl rfl (.agg #[.int .u8 0, .int .u64 0, .slice none 0 0]) Try.underlying44 (by kernel_rfl) rfl (by decide) (by decide) rfl rfl rfl (by simp [Value.oneCell']) hlk ?_); intro a'' c'' w4 hown4 ht4 hb4)
        have hl5 := HL4.out.grown_nodes (n := (op, num, xs)) HO.out HNR.out hown4 (by rw [HTL.out]) ht4 hb4
        rw [← HTK.out] at hl5
        have HL5 := Lib.hid hl5
        clear hl5 hown4 ht4 hb4 d0 d1 d2
        go_wp2
        go_roundw
        case rel => exact ⟨k + 1, by omega, by go_num, _, HL5.out⟩
        case measure => simp [intOf]; omega
      · obtain rfl : k = L.length := by omega
        have hl2 := HL.out
        rw [List.take_length] at hl2
        have HL2 := Lib.hid hl2.swap
        clear hl2
        go_upto_block 2 with (go_at_call 20; refine (len_any HL.out.swap.gr).mono ?_; rintro e w2 ⟨rfl, rfl⟩)
        go_cut [13] (fun i wx => ∃ F I L', L <+: L' ∧ Lab w wx [Thing.graph F I gb W 1048576 L', Thing.nodes J (.slice an L.length cn) L])
        case first =>
          go_wp2
          go_loopw [13] (fun i wr => ∃ j : Nat, j ≤ n2 ∧ j ≤ 60 ∧ i = .int .i64 j ∧ ∃ F I L', L <+: L' ∧ Lab w wr [Thing.graph F I gb W 1048576 L', Thing.nodes J (.slice an L.length cn) L]) (fun i _ => n2 - (intOf i).toNat)
          case atStart => exact ⟨0, by omega, by omega, rfl, F, I, L, List.prefix_refl _, HL2.out⟩
          case round =>
            obtain ⟨j, hj, hj2, rfl, F', I', L', hpre, hlab⟩ := hrel
            have HLj := Lib.hid hlab; have HP := Lib.hid hpre
            clear hlab hpre HL HL2
            by_cases hjn : j < n2
            · by_cases hj60 : j < 60
              · obtain ⟨b, off, x, va, rfl, hx, hok, hav, c0, c1', c2, c3, c4⟩ := HV2.out.at hjn
                have hsl := hav.slice
                obtain ⟨av, mv, cv, rfl, -, -⟩ := hsl.parts
                obtain ⟨x0, x1, q, N, xs⟩ := x
                simp only at c0 c1' c2 c3 c4
                have HC := Lib.hid (And.intro c1' c4)
                have HS := Lib.hid (hsl.below HLj.out.below); have HOK := Lib.hid hok
                replace c0 := cell_later HLj.out.below c0
                replace c1' := cell_later HLj.out.below c1'
                replace c2 := cell_later HLj.out.below c2
                replace c3 := cell_later HLj.out.below c3
                replace c4 := cell_later HLj.out.below c4
                clear hx hav hsl hok
                go_wp2_with fail
                go_at_call 20
                refine (len_any HLj.out.gr).mono ?_
                rintro e w2 ⟨rfl, rfl⟩
                go_upto_block 4 with fail
                go_cut [15] (fun e wx => ∃ (f : Nat) (F'' : List Nat) (I'' : List Nat) (L'' : List PNode), e = .int .i64 f ∧ L <+: L'' ∧ (f ≠ 0 → L'' = L') ∧ Lab w wx [Thing.graph F'' I'' gb W 1048576 L'', Thing.nodes J (.slice an L.length cn) L])
                case first =>
                  by_cases h0 : x0 % 4 = 0
                  · have ht : (((x0 : Int) % 4) == 0) = true := by rw [beq_iff_eq]; omega
                    have hc := const_any HLj.out.gr q HOK.out.2.2.1
                    have hp1 := HP.out.trans (isPrefix_const W 1048576 L' q)
                    have hp2 := @const_err W 1048576 L' q
                    have HC := Lib.hid hc; have HP1 := Lib.hid hp1; have HP2 := Lib.hid hp2
                    clear hc h0 hp1 hp2
                    go_wp2_with (go_at_call 24; refine HC.out.mono ?_; intro e w4 hp; obtain ⟨F'', I'', rfl, hl5⟩ := HLj.out.gpost hp)
                    go_meet
                    exact ⟨_, F'', I'', _, rfl, HP1.out, HP2.out, hl5⟩
                  · have ht : (((x0 : Int) % 4) == 0) = false := by rw [beq_eq_false_iff_ne]; omega
                    by_cases h1 : x0 % 4 = 1
                    · have ht1 : (((x0 : Int) % 4) == 1) = true := by rw [beq_iff_eq]; omega
                      have hc := var_any HLj.out.gr N
                      have hp1 := HP.out.trans (isPrefix_var 1048576 L' N)
                      have hp2 := @var_err 1048576 L' N
                      have HC := Lib.hid hc; have HP1 := Lib.hid hp1; have HP2 := Lib.hid hp2
                      clear hc h0 h1 hp1 hp2
                      go_wp2_with (go_at_call 25; refine HC.out.mono ?_; intro e w4 hp; obtain ⟨F'', I'', rfl, hl5⟩ := HLj.out.gpost hp)
                      go_meet
                      exact ⟨_, F'', I'', _, rfl, HP1.out, HP2.out, hl5⟩
                    · have ht1 : (((x0 : Int) % 4) == 1) = false := by rw [beq_eq_false_iff_ne]; omega
                      have hp1 := HP.out.trans (isPrefix_app 1048576 L' x1 xs)
                      have hp2 := @app_err 1048576 L' x1 xs
                      have HP1 := Lib.hid hp1; have HP2 := Lib.hid hp2
                      clear h0 h1 hp1 hp2
                      go_wp2
                      go_region_held3 (fun w' => w'.cell? ⟨b, off + j * 5 + 1, none⟩ = some (.int .u8 x1) ∧ w'.cell? ⟨b, off + j * 5 + 4, none⟩ = some (.slice av mv cv)) (first | exact ⟨c1', c4⟩ | exact ⟨by assumption, by assumption⟩ | go_keep)
                        (first | (go_at_call 26; refine (app_any (HLj.out.later (Below.refl _ _).drew).gr x1 HOK.out.2.1 xs _ (HS.out.below (Below.refl _ _).drew)).mono ?_; intro e w4 hp; obtain ⟨F'', I'', rfl, hl5⟩ := (HLj.out.later (Below.refl _ _).drew).gpost hp; have k1 := cell_later hl5.below HC.out.1; have k4 := cell_later hl5.below HC.out.2))
                      go_wp2
                      go_meet
                      exact ⟨_, F'', I'', _, rfl, HP1.out, HP2.out, hl5⟩
                case rest =>
                  obtain ⟨f, F'', I'', L'', rfl, hp1, hp2, hlab⟩ := hcut
                  have HLc := Lib.hid hlab; have HP1 := Lib.hid hp1
                  clear hlab hp1
                  by_cases hf : f = 0
                  · have hfb : ((f : Int) != 0) = false := by simp [hf]
                    clear hf hp2
                    go_wp2
                    go_roundw
                    case rel => exact ⟨j + 1, by omega, by omega, by go_num, F'', I'', L'', HP1.out, HLc.out⟩
                    case measure => simp [intOf]; omega
                  · have hfb : ((f : Int) != 0) = true := by rw [bne_iff_ne]; omega
                    obtain rfl := hp2 hf
                    clear hf hp2
                    go_wp2_with (go_at_call 20; refine (len_any HLc.out.gr).mono ?_; rintro e w2 ⟨rfl, rfl⟩)
                    go_roundw
                    case rel => exact ⟨j + 1, by omega, by omega, by go_num, F'', I'', _, HP1.out, HLc.out⟩
                    case measure => simp [intOf]; omega
              · obtain rfl : j = 60 := by omega
                go_wp2
                go_meet
                exact ⟨F', I', L', HP.out, HLj.out⟩
            · obtain rfl : j = n2 := by omega
              go_wp2
              go_meet
              exact ⟨F', I', L', HP.out, HLj.out⟩
        case rest =>
          obtain ⟨F', I', L', hpre, hlab⟩ := hcut
          have HL3 := Lib.hid hlab; have HP := Lib.hid hpre
          clear hlab hpre HL HL2
          go_wp2
          go_loopw [16] (fun i wr => ∃ j : Nat, j ≤ L.length ∧ i = .int .i64 j ∧ Lab w wr [Thing.graph F' I' gb W 1048576 L', Thing.nodes J (.slice an L.length cn) L]) (fun i _ => L.length - (intOf i).toNat)
          case atStart => exact ⟨0, by omega, rfl, HL3.out⟩
          case round =>
            obtain ⟨j, hj, rfl, hlab⟩ := hrel
            have HLj := Lib.hid hlab
            clear hlab
            by_cases hjl : j < L.length
            · obtain ⟨x, hx⟩ : ∃ x, L[j]? = some x := ⟨_, List.getElem?_eq_getElem hjl⟩
              have hx' := prefix_at HP.out hx
              obtain ⟨op, num, xs⟩ := x
              have HX := Lib.hid (And.intro hx hx')
              clear hx hx'
              go_wp2_with fail
              go_at_call 23
              refine (HLj.out.node_at j _ HX.out.2).mono ?_
              rintro e w5 ⟨a2, m2, c2, rfl, hlab5⟩
              have hl6 := hlab5.alloc #[.int .u8 op, .int .u64 num, .slice a2 m2 c2] 37
              obtain ⟨p, hp⟩ : ∃ p, w5.heap.size = p := ⟨_, rfl⟩
              rw [hp] at hl6
              have HL6 := Lib.hid hl6
              clear hl6 hlab5
              go_upto_region 27 with fail
              clear hp
              refine wp_abs (fun w6 => Lab w w6 [Thing.box p 37 #[.int .u8 op, .int .u64 num, .slice a2 m2 c2], Thing.graph F' I' gb W 1048576 L', Thing.ints (.slice a2 m2 c2) xs, Thing.nodes J (.slice an L.length cn) L]) HL6.out ?_
              rintro w6 hl6
              obtain ⟨f0, f1, f2⟩ := cells3 hl6.box1
              obtain ⟨g, cap', va, heq, e0, e1, e2, hva⟩ := nodes_at hl6.fourth HX.out.1
              simp only [Value.slice.injEq] at heq
              obtain ⟨rfl, -, rfl⟩ := heq
              have hx3 : xs.length ≤ 3 := by have h1 := (HLj.out.gr.wf.ok _ (List.mem_of_getElem? HX.out.2)).2.2; have := aryN_le op; simp only at h1; omega
              have hv1 : ∀ w', Below w6.heap.size w6 w' → NodeV w' (.agg #[.int .u8 op, .int .u64 num, .slice a2 m2 c2]) (op, num, xs) := fun w' hb => ⟨_, rfl, hl6.ints3.slice.below hb, by show xs.length ≤ _; omega⟩
              have hv2 : ∀ w', Below w6.heap.size w6 w' → NodeV w' (.agg #[.int .u8 op, .int .u64 num, va]) (op, num, xs) := fun w' hb => ⟨_, rfl, hva.slice.below hb, by show xs.length ≤ _; omega⟩
              have HV1 := Lib.hid hv1; have HV2' := Lib.hid hv2; have HL7 := Lib.hid hl6
              clear hl6 HL6 hv1 hv2 hva
              go_region_held3 (fun w' => w'.cell? ⟨p, 0, none⟩ = some (.int .u8 op) ∧ w'.cell? ⟨p, 1, none⟩ = some (.int .u64 num) ∧ w'.cell? ⟨p, 2, none⟩ = some (.slice a2 m2 c2) ∧ w'.cell? ⟨g, j * 3, none⟩ = some (.int .u8 op) ∧ w'.cell? ⟨g, j * 3 + 1, none⟩ = some (.int .u64 num) ∧ w'.cell? ⟨g, j * 3 + 2, none⟩ = some va)
                (first | exact ⟨f0, f1, f2, e0, e1, e2⟩ | exact ⟨by assumption, by assumption, by assumption, by assumption, by assumption, by assumption⟩ | go_keep)
                (first | (go_at_call 27; refine (equalNode_any _ _ _ _ (HV1.out _ (Below.refl _ _).drew) (HV2'.out _ (Below.refl _ _).drew)).mono ?_; rw [decide_eq_true rfl]; rintro e w7 ⟨rfl, hb7⟩; have hb8 := (Below.refl w6.heap.size w6).drew.trans hb7; have k1 := cell_later hb8 f0; have k2 := cell_later hb8 f1; have k3 := cell_later hb8 f2; have k4 := cell_later hb8 e0; have k5 := cell_later hb8 e1; have k6 := cell_later hb8 e2))
              go_wp2
              go_roundw
              case rel => exact ⟨j + 1, by omega, by go_num, (HL7.out.later hb8).drop.swap.drop⟩
              case measure => simp [intOf]; omega
            · obtain rfl : j = L.length := by omega
              go_wp2_with (go_at_call 22; refine (HLj.out.awakeC).mono ?_; rintro e w3 ⟨rfl, hb3⟩)
              go_ret
              exact ⟨rfl, hb3⟩
end Go.Proofs.Ytpkahhpgkceciaa
