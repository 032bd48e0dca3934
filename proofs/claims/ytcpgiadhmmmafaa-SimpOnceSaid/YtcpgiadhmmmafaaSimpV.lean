/- SimpOnce: a graph of simple terms. -/
import Derived.Test.YtcpgiadhmmmafaaSimpT
import Derived.Test.YtcpgiadhmmmafaaPlainP
namespace Go.Proofs.Ytcpgiadhmmmafaa
open Go.RowKit Go.Maps
set_option maxHeartbeats 3200000

/-- All terms of a graph are simple. -/
def AllFixed (W : Nat) (L : List PNode) : Prop := ∀ t, t < L.length → FixedT W L t
theorem AllFixed.nil (W : Nat) : AllFixed W [] := fun t ht => by simp at ht
theorem AllFixed.ask {W room : Nat} {L : List PNode} {n : PNode} (h : AllFixed W L) (hw : WFL L) (hn : n.2.2 = []) : AllFixed W (askP room L n).1 := by
  rcases Nat.lt_or_ge L.length room with hr | hr
  · have hg := askP_grown hr n
    rcases hg.2 with ⟨he, _⟩ | ⟨_, he, _⟩
    · rw [he]; exact h
    · rw [he]
      intro t ht
      have hp : L <+: L ++ [n] := List.prefix_append _ _
      rcases Nat.lt_or_ge t L.length with hl | hl
      · exact (h t hl).prefixT hw hp
      · have : t = L.length := by simp at ht; omega
        subst this
        exact FixedT.leaf (n := n) (by simp) hn
  · have : (askP room L n).1 = L := by
      unfold askP
      cases L.findIdx? (· == n) with
      | some t => rfl
      | none => dsimp only; rw [if_pos hr]
    rw [this]; exact h
theorem AllFixed.res {W room : Nat} {L : List PNode} {o : Nat} {xs : List Int} (h : AllFixed W L) (hW : W ≤ 64) (hw : WFL L) (h1 : 2 ≤ o) (h2 : o ≤ 21) (hl : aryN o = xs.length) (hin : ∀ a ∈ xs, (0 : Int) ≤ a ∧ a < (L.length : Int)) (hr : L.length < room) : AllFixed W ((simpA W L o xs).res W room L).1 := by
  have hok := simpA_ok (W := W) hw h1 h2 hl hin
  have he := ans_room (W := W) hr _ hok
  have hf := res_fixed (room := room) hW hw h1 h2 hl hin (fun a ha => h a.toNat (by have := hin a ha; omega)) he
  have hpre := ans_prefix (W := W) (room := room) (L := L) (simpA W L o xs)
  have hlen := ans_len (W := W) (room := room) (L := L) (simpA W L o xs)
  have hterm := ans_term _ hok he
  have hnew : ∀ t, L.length ≤ t → t < ((simpA W L o xs).res W room L).1.length → t = ((simpA W L o xs).res W room L).2.1 := by
    intro t h1 h2
    generalize simpA W L o xs = R at *
    cases R with
    | term t' => have : t < L.length := h2; omega
    | num v =>
      rcases (askP_grown hr (0, v % 2 ^ W, [])).2 with ⟨he', _⟩ | ⟨_, he', ht'⟩
      · have h3 : t < (askP room L (0, v % 2 ^ W, [])).1.length := h2
        rw [he'] at h3; omega
      · have h3 : t < (askP room L (0, v % 2 ^ W, [])).1.length := h2
        rw [he'] at h3
        show t = (askP room L (0, v % 2 ^ W, [])).2.1
        rw [ht']; simp at h3; omega
    | app o' ys =>
      obtain ⟨k1, k2, k3, k4⟩ := hok
      have e : Ans.res W room L (.app o' ys) = askP room L (o', 0, ys) := by
        show appR room L o' ys = _
        unfold appR
        rw [if_pos ⟨k2, aryN_pos k1, k3⟩, if_pos k4]
      rw [e] at h2 ⊢
      rcases (askP_grown hr (o', 0, ys)).2 with ⟨he', _⟩ | ⟨_, he', ht'⟩
      · rw [he'] at h2; omega
      · rw [he'] at h2
        rw [ht']; simp at h2; omega
  intro t ht
  rcases Nat.lt_or_ge t L.length with hlt | hge
  · exact (h t hlt).prefixT hw hpre
  · rw [hnew t hge ht]; exact hf
theorem AllFixed.add {W room : Nat} {L : List PNode} (h : AllFixed W L) (hw : WFL L) (a : PAsk) (hc : a.1 % 4 < 2 ∨ L.length = 0) : AllFixed W (addR W room L a).1 := by
  rw [addR_ask]
  refine h.ask hw ?_
  unfold addN
  by_cases h1 : a.1 % 4 = 0 ∨ (L.length = 0 ∧ 1 < a.1 % 4)
  · rw [if_pos h1]
  · by_cases h2 : a.1 % 4 = 1
    · rw [if_neg h1, if_pos h2]
    · exfalso; omega
/-- Made simple twice, a term is what it was. -/
theorem simpleR_twice {W room : Nat} {L : List PNode} {t : Nat} (hW : W ≤ 64) (hw : WFL L) (hg : GoodL W L) (ht : t < L.length) (hr : L.length + (t + 1) ≤ room) :
    ∃ L' s, simpleR W room L t = (L', s, 0) ∧ simpleR W room L' s = (L', s, 0) ∧ GoodL W L' ∧ L'.length ≤ L.length + (t + 1) ∧ L.length ≤ L'.length := by
  have hlf : ∀ i n, L[i]? = some n → (0 : Int) ≤ (fun (i : Nat) (_ : PNode) => (i : Int)) i n ∧ (fun (i : Nat) (_ : PNode) => (i : Int)) i n < (L.length : Int) := fun i n hn => by
    have := (List.getElem?_eq_some_iff.1 hn).1
    exact ⟨by show (0 : Int) ≤ (i : Int); omega, by show (i : Int) < _; omega⟩
  have hOall : ∀ i n, L[i]? = some n → (fun j => decide (j ≤ t) && occ L t j) i = true → ∀ a ∈ n.2.2, (fun j => decide (j ≤ t) && occ L t j) a.toNat = true := by
    intro i n hn hi a ha
    simp only [Bool.and_eq_true, decide_eq_true_eq] at hi ⊢
    have := hw.args i n hn a ha
    exact ⟨by omega, occ_args hw hi.1 hi.2 a (by unfold argsOf; rw [hn]; exact ha)⟩
  have hsame : madeRun W room L (occ L t) (fun i _ => (i : Int)) (t + 1) = madeRun W room L (fun j => decide (j ≤ t) && occ L t j) (fun i _ => (i : Int)) (t + 1) := by
    have : ∀ k, k ≤ t + 1 → madeRun W room L (occ L t) (fun i _ => (i : Int)) k = madeRun W room L (fun j => decide (j ≤ t) && occ L t j) (fun i _ => (i : Int)) k := by
      intro k
      induction k with
      | zero => intro _; rfl
      | succ k ih =>
        intro hk
        show (if _ then _ else _) = (if _ then _ else _)
        rw [ih (by omega)]
        split
        · unfold madeStep
          have : (decide (k ≤ t) && occ L t k) = occ L t k := by simp [show k ≤ t by omega]
          simp only [this]
        · rfl
    exact this _ (Nat.le_refl _)
  have he := made_room (room := room) (O := fun j => decide (j ≤ t) && occ L t j) hW hw hg hlf (t + 1) (by omega) hr
  have h := made_inv (O := fun j => decide (j ≤ t) && occ L t j) hW hw hg hlf (t + 1) (by omega) he
  have hf := made_fix (room := room) (O := fun j => decide (j ≤ t) && occ L t j) hW hw hg hlf hOall (fun i n hn _ ha => FixedT.leaf hn ha) (t + 1) (by omega) he t (by omega) (by simp [occ_top])
  rw [← hsame] at he h hf
  have hlen := h.pre.length_le
  refine ⟨_, _, ?_, simpleR_fixed hW h.wf h.good hf, h.good, h.len, hlen⟩
  unfold simpleR madeEnd
  rw [if_pos ⟨by omega, by omega⟩, Int.toNat_natCast, if_pos he]
def GrowPost (w0 : World) (gb W room : Nat) (ts : List Thing) (L0 : List PNode) : Ending → World → Prop := fun e w' =>
  ∃ F I L a m c out, e = .returned (.slice a m c) ∧ GoodL W L ∧ AllFixed W L ∧ L.length ≤ L0.length + 100 ∧ out.length ≤ 100 ∧ (∀ t ∈ out, (0 : Int) ≤ t ∧ t < (L.length : Int)) ∧ Lab w0 w' (Thing.graph F I gb W room L :: Thing.ints (.slice a m c) out :: ts)
set_option maxRecDepth 100000 in
theorem grow_any {w0 w : World} {ts : List Thing} {F I : List Nat} {gb W : Nat} {L : List PNode} (h : Lab w0 w (Thing.graph F I gb W 1048576 L :: ts)) (hg : GoodL W L) (hx : AllFixed W L) (hL1 : L.length ≤ 1000) (v2 : Value) (rs : List PAsk) (hv2 : AsksOf w0 v2 rs) (hn2 : rs.length ≤ 9223372036854775807) :
    Calls Try.prog 37 #[.pointer (some ⟨gb, 0, none⟩), v2] w (GrowPost w0 gb W 1048576 ts L) := by
  obtain ⟨a2, cap2, rfl⟩ := hv2.parts
  obtain ⟨n2, hn2'⟩ : ∃ n2, rs.length = n2 := ⟨_, rfl⟩
  rw [hn2'] at hv2 hn2 ⊢
  have hW1 := h.gr.w1
  have hW2 := h.gr.w2
  have HL0 := Lib.hid h; have HG0 := Lib.hid hg; have HX0 := Lib.hid hx; have HV2 := Lib.hid hv2
  clear h hg hx hv2 hn2'
  go_enter Try.func37, Try.ntmps37
  go_wp2
  go_loopw [5, 6] (fun v i wx => ∃ k : Nat, k ≤ n2 ∧ k ≤ 100 ∧ i = .int .i64 k ∧ ∃ F I L' out va m c, v = .slice va m c ∧ out.length ≤ k ∧ L'.length ≤ L.length + k ∧ GoodL W L' ∧ AllFixed W L' ∧ (∀ t ∈ out, (0 : Int) ≤ t ∧ t < (L'.length : Int)) ∧ Lab w0 wx (Thing.graph F I gb W 1048576 L' :: Thing.ints v out :: ts)) (fun _ i _ => 100 - (intOf i).toNat)
  case atStart => exact ⟨0, by omega, by omega, rfl, F, I, L, [], none, 0, 0, rfl, by simp, by omega, HG0.out, HX0.out, by simp, HL0.out.nil_ints.swap⟩
  case round =>
    obtain ⟨k, hk1, hk2, rfl, F3, I3, L3, out, va0, m0, c0, rfl, hol, hL3, hG3, hX3, hout, hlab⟩ := hrel
    have HL1 := Lib.hid hlab; have HG3 := Lib.hid hG3; have HX3 := Lib.hid hX3; have HLEN := Lib.hid (len_any hlab.gr); have HWF := Lib.hid hlab.gr.wf; have HOUT := Lib.hid hout; have HBW := Lib.hid hlab.below
    clear hlab hG3 hX3 hout
    by_cases g1 : k < n2
    · by_cases g2 : k < 100
      · obtain ⟨b, off, x, va, rfl, hx, hok, hav, e0, e1, e2, e3, e4⟩ := HV2.out.at g1
        have d0 := cell_later HBW.out e0
        have d1 := cell_later HBW.out e1
        have d2 := cell_later HBW.out e2
        have d3 := cell_later HBW.out e3
        have d4 := cell_later HBW.out e4
        have k0 : (0 : Int) ≤ (k : Int) := by omega
        have kn : (k : Int) < (n2 : Int) := by omega
        by_cases hadd : x.1 % 4 < 2 ∨ L3.length = 0
        · have hst : AllFixed W (addR W 1048576 L3 x).1 := HX3.out.add HWF.out x hadd
          have hgd := HG3.out.add 1048576 x
          have hle : L3.length ≤ (addR W 1048576 L3 x).1.length ∧ (addR W 1048576 L3 x).1.length ≤ L3.length + 1 := by rw [addR_ask]; exact askP_len _ _ _
          have hc := ladd_any HL1.out.gr x _ (hav.below HBW.out) hok
          generalize addR W 1048576 L3 x = R at *
          obtain ⟨L4, t4, e4'⟩ := R
          obtain ⟨x0, x1, qn, xn, ys⟩ := x
          simp only at d0 d1 d2 d3 hc hadd hst hgd hle
          have HST := Lib.hid hst; have HGD := Lib.hid hgd; have HC := Lib.hid hc
          obtain ⟨va, m, cap, rfl, -, -⟩ := hav.slice.parts
          clear hst hgd hc hx hok hav e0 e1 e2 e3 e4
          by_cases h2 : x0 % 4 < 2
          · have q1 : decide (((x0 : Int) % 4) < 2) = true := decide_eq_true (by omega)
            clear hadd
            go_wp2_with fail
            go_at_call 55
            refine HC.out.mono ?_
            intro e w4 hp
            obtain ⟨F4, I4, rfl, h4⟩ := HL1.out.gpost hp
            have H4 := Lib.hid h4
            clear h4 hp
            go_wp2
            go_roundw
            case rel => exact ⟨k + 1, by omega, by omega, by go_num, F4, I4, L4, out, va0, m0, c0, rfl, by omega, by omega, HGD.out, HST.out, fun t ht => by have := HOUT.out t ht; omega, H4.out⟩
            case measure => simp [intOf]; omega
          · have q1 : decide (((x0 : Int) % 4) < 2) = false := decide_eq_false (by omega)
            have q2 : (((L3.length : Nat) : Int) == 0) = true := by rw [beq_iff_eq]; omega
            clear hadd
            go_wp2_with (go_at_call 24; refine HLEN.out.mono ?_; rintro e w2 ⟨rfl, rfl⟩)
            go_at_call 55
            refine HC.out.mono ?_
            intro e w4 hp
            obtain ⟨F4, I4, rfl, h4⟩ := HL1.out.gpost hp
            have H4 := Lib.hid h4
            clear h4 hp
            go_wp2
            go_roundw
            case rel => exact ⟨k + 1, by omega, by omega, by go_num, F4, I4, L4, out, va0, m0, c0, rfl, by omega, by omega, HGD.out, HST.out, fun t ht => by have := HOUT.out t ht; omega, H4.out⟩
            case measure => simp [intOf]; omega
        · have q2 : (((L3.length : Nat) : Int) == 0) = false := by rw [beq_eq_false_iff_ne]; omega
          clear d0 d1 d2 d3 d4
          have hys := hav.slice
          have htake := fun k => addArgs_take x L3.length k
          have hlen := addArgs_len x L3.length
          have hain := addArgs_in x L3.length (by omega)
          obtain ⟨args, hargs⟩ : ∃ args, addArgs x L3.length = args := ⟨_, rfl⟩
          rw [hargs] at htake hlen hain
          have hcb := code_bounds x
          obtain ⟨x0, x1, qn, xn, ys⟩ := x
          simp only [PAsk.code] at htake hlen hys e0 e1 e4 hcb hain hadd
          have d0 := cell_later HL1.out.below e0
          have d1 := cell_later HL1.out.below e1
          have d4 := cell_later HL1.out.below e4
          obtain ⟨va, m, cap, rfl, hna, hcell⟩ := hys.parts
          have hm9 : m ≤ 9223372036854775807 := by rw [← hna]; exact hok.2.2.2.2.2
          obtain ⟨p, hp⟩ : ∃ p, aryN (2 + x1 % 20) = p := ⟨_, rfl⟩
          have hp3 : p ≤ 3 := by rw [← hp]; exact aryN_le _
          have har := arity12_any x1
          rw [hp] at htake hlen har
          have hcode : ((2 + x1 % 20 : Nat) : Int) = 2 + (x1 : Int) % 20 := by omega
          have HAR := Lib.hid har; have HT := Lib.hid htake; have HAL := Lib.hid hlen; have HNA := Lib.hid hna; have HC := Lib.hid (fun i hi => hcell i hi); have HIN := Lib.hid hain; have HCO := Lib.hid hcode; have HCB := Lib.hid (And.intro hcb hp)
          have g3' : (0 : Int) < (L3.length : Int) := by omega
          obtain ⟨wo, rfl⟩ : ∃ wo : World, wo = wr := ⟨_, rfl⟩
          clear hx hok hav hys htake hlen hain hargs hcb e0 e1 e2 e3 e4 hna hcell hp har hcode
          go_wp2_with (go_at_call 24; refine HLEN.out.mono ?_; rintro e w2 ⟨rfl, rfl⟩)
          go_loopw [8, 9] (fun v i wx => ∃ j : Nat, j ≤ p ∧ i = .int .i64 j ∧ OwnInts wx wo.heap.size 3 .i64 v (args.take j) ∧ Below wo.heap.size wo wx) (fun _ i _ => p - (intOf i).toNat)
          case atStart => exact ⟨0, by omega, rfl, OwnInts.nil _ _ _ _, Below.refl _ _⟩
          case round =>
            obtain ⟨j, hj, rfl, hown, hbr⟩ := hrel
            have HOWN := Lib.hid hown; have HBR := Lib.hid hbr
            clear hown hbr
            go_wp2_with fail
            go_at_call 20
            refine (HAR.out _).mono ?_
            rintro e w3 ⟨rfl, hb3⟩
            have hbr := HBR.out.trans (hb3.mono HBR.out.size)
            have hown := HOWN.out.below hb3
            have y1 := cell_later hbr d1
            have y4 := cell_later hbr d4
            have HG := Lib.hid (HL1.out.gr.later hbr); have HBR3 := Lib.hid hbr
            have hbs := hbr.size
            clear hb3 hbr
            by_cases hlt : j < p
            · have Htk := Lib.hid (HT.out j hlt)
              have hcl : (args.take j).length ≤ 1000000000 := by have := List.length_take_le j args; have := HAL.out; omega
              rcases Nat.eq_zero_or_pos m with hm | hm
              · subst hm
                have harg : argOf ys j % (L3.length : Int) = 0 := by unfold argOf; rw [if_pos HNA.out]; simp
                have Harg := Lib.hid harg
                clear harg
                go_wp2_with (first | (go_at_call 24; refine (len_any HG.out).mono ?_; rintro e w6 ⟨rfl, rfl⟩) | (go_at_call 18; refine (mod_any 0 L3.length (by omega) (by omega) _).mono ?_; rintro e w6 ⟨rfl, rfl⟩) | (at_builtin; refine wpList_append1_int 33 3 .i64 wo.heap.size w3 _ (args.take j) 0 8 hown _ _ rfl rfl Try.underlying33 Try.infoI64 (by decide) rfl rfl hcl hbs ?_; intro v' w' hown' hb' hv'))
                go_roundw
                case rel => exact ⟨j + 1, by omega, by go_num, by rw [← Htk.out, Harg.out]; exact hown', HBR3.out.trans hb'⟩
                case measure => simp [intOf]; omega
              · obtain ⟨b5, off5, y, rfl, hc, hy⟩ := HC.out (j % m) (Nat.mod_lt _ hm)
                have hc' := cell_later HBR3.out (cell_later HL1.out.below hc)
                have hm0 : decide ((0 : Int) < (m : Int)) = true := by simp; omega
                have harg : argOf ys j = y := by
                  unfold argOf
                  rw [HNA.out, if_neg (by omega), List.getD_eq_getElem?_getD, hy]; rfl
                have Harg := Lib.hid harg
                have hmz : ((m : Int) == 0) = false := by simp; omega
                have hkm : ((j : Int).tmod (m : Int)) = ((j % m : Nat) : Int) := by rw [Int.tmod_eq_emod_of_nonneg (by omega)]; simp
                have hkm2 : ((j : Int) % (m : Int)) = ((j % m : Nat) : Int) := by simp
                have hkl := Nat.mod_lt j hm
                obtain ⟨jj, hjj⟩ : ∃ jj, j % m = jj := ⟨_, rfl⟩
                rw [hjj] at hc hy hc' hkm hkm2 hkl
                clear harg hc hy hjj
                go_wp2
                go_quiet (fail)
                refine wp_exit_abs (fun w5 => Below w3.heap.size w3 w5) (below_drewN (Below.refl _ _) _) ?_
                rintro w5 hb5
                have HG5 := Lib.hid (HG.out.later hb5)
                have hown5 := hown.below hb5
                have hbs5 := Nat.le_trans hbs hb5.size
                clear hown
                go_wp2_with (first | (go_at_call 24; refine (len_any HG5.out).mono ?_; rintro e w6 ⟨rfl, rfl⟩) | (go_at_call 18; refine (mod_any y L3.length (by omega) (by omega) _).mono ?_; rintro e w6 ⟨rfl, rfl⟩) | (at_builtin; refine wpList_append1_int 33 3 .i64 wo.heap.size w5 _ (args.take j) (y % (L3.length : Int)) 8 hown5 _ _ rfl rfl Try.underlying33 Try.infoI64 (by decide) rfl rfl hcl hbs5 ?_; intro v' w' hown' hb' hv'))
                go_roundw
                case rel => exact ⟨j + 1, by omega, by go_num, by rw [← Htk.out, Harg.out]; exact hown', (HBR3.out.trans (hb5.mono hbs)).trans hb'⟩
                case measure => simp [intOf]; omega
            · obtain rfl : j = p := by omega
              rw [List.take_of_length_le (by rw [HAL.out]; exact Nat.le_refl _)] at hown
              have hl5 := (HL1.out.new_ints HBR3.out hown)
              have hR := simpR_in (W := W) (room := 1048576) HCB.out.1.1 HCB.out.1.2.1 (HCB.out.2.trans HAL.out.symm) HIN.out
              have hok5 := simpA_ok (W := W) HWF.out HCB.out.1.1 HCB.out.1.2.1 (HCB.out.2.trans HAL.out.symm) HIN.out
              have he5 := ans_room (W := W) (room := 1048576) (by omega) _ hok5
              have hle5 := ans_len (W := W) (room := 1048576) (L := L3) (simpA W L3 (2 + x1 % 20) args)
              have hpl5 := (ans_prefix (W := W) (room := 1048576) (L := L3) (simpA W L3 (2 + x1 % 20) args)).length_le
              have htm5 := ans_term _ hok5 he5
              have hg5 := ans_good (room := 1048576) HG3.out (simpA W L3 (2 + x1 % 20) args)
              have hx5 := HX3.out.res hW2 HWF.out HCB.out.1.1 HCB.out.1.2.1 (HCB.out.2.trans HAL.out.symm) HIN.out (show L3.length < 1048576 by omega)
              obtain ⟨R, hRR⟩ : ∃ R, Ans.res W 1048576 L3 (simpA W L3 (2 + x1 % 20) args) = R := ⟨_, rfl⟩
              rw [hRR] at hR he5 hle5 hpl5 htm5 hg5 hx5
              obtain ⟨L5, s5, er5⟩ := R
              obtain rfl : er5 = 0 := he5
              simp only at hle5 hpl5 htm5 hg5 hx5
              have hap := sapp_any hl5.swap.gr (2 + x1 % 20) (by omega) args _ hl5.ints.slice
              rw [HCO.out, hR] at hap
              have HL5 := Lib.hid hl5.swap; have HAP := Lib.hid hap; have HG5 := Lib.hid hg5; have HX5 := Lib.hid hx5
              clear hown hl5 hR hok5 hg5 hx5 hap y1 y4 hbs hRR
              go_wp2_with fail
              go_at_call 26
              refine HAP.out.mono ?_
              intro e w6 hp
              obtain ⟨F5, I5, rfl, h6⟩ := HL5.out.gpost hp
              have hlo : out.length ≤ 999999999 := by omega
              have h7 := h6.swap.drop.swap
              have HO7 := Lib.hid h7.ints; have H7 := Lib.hid h7
              clear hp h6 h7
              go_wp2_with (at_builtin; refine wpList_append1_row 33 3 1 8 w6 _ _ (out.map (Value.int .i64)) [.int .i64 s5] HO7.out _ _ rfl rfl (.int .i64 0) Try.underlying33 Try.infoI64 rfl (by decide) (by decide) rfl rfl rfl (by simp [Value.oneCell']) hlo ?_; intro a8 c8 w8 hown8 ht8 hb8)
              go_roundw
              case rel =>
                have hown9 : OwnInts w8 0 3 .i64 (.slice a8 (out.length + 1) c8) (out ++ [(s5 : Int)]) := by
                  unfold OwnInts
                  rw [List.length_append, List.map_append]
                  exact hown8
                refine ⟨k + 1, by omega, by omega, by go_num, F5, I5, L5, out ++ [(s5 : Int)], a8, out.length + 1, c8, rfl, by rw [List.length_append]; simp; omega, by omega, HG5.out, HX5.out, fun t ht => ?_, (H7.out.grown_ints hown9 ht8 hb8).swap⟩
                rcases List.mem_append.1 ht with ht | ht
                · have := HOUT.out t ht; omega
                · obtain rfl := List.mem_singleton.1 ht; omega
              case measure => simp [intOf]; omega
      · go_wp2
        go_ret
        exact ⟨F3, I3, L3, va0, m0, c0, out, rfl, HG3.out, HX3.out, by omega, by omega, HOUT.out, HL1.out⟩
    · go_wp2
      go_ret
      exact ⟨F3, I3, L3, va0, m0, c0, out, rfl, HG3.out, HX3.out, by omega, by omega, HOUT.out, HL1.out⟩
end Go.Proofs.Ytcpgiadhmmmafaa
