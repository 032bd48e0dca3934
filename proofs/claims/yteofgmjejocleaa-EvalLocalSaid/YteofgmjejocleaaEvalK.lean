/- EvalLocal of law 11. -/
import Derived.Test.YteofgmjejocleaaEvalJ
import Derived.Test.YteofgmjejocleaaEvalM
import Derived.Test.YteofgmjejocleaaMapF
namespace Go.Proofs.Yteofgmjejocleaa
open Go.RowKit Go.Maps
set_option maxHeartbeats 1600000

/-- What a variable is worth. -/
def varV (W : Nat) (vals : List Int) (n : Nat) : Int := if n < vals.length then (((vals.getD n 0).toNat % 2 ^ W : Nat) : Int) else 0
/-- Values hang on the variables that occur alone. -/
theorem val_local {W : Nat} {L : List PNode} (hwf : WFL L) {vs ch : List Int} {occ : Int → Bool} (h : ∀ (j : Nat) nd, occ j = true → L[j]? = some nd → (nd.1 = 1 → varV W vs nd.2.1 = varV W ch nd.2.1) ∧ ∀ a ∈ nd.2.2, occ a = true) :
    ∀ (m j : Nat), j < m → occ j = true → val W vs L j = val W ch L j
  | 0, _, hj, _ => by omega
  | m + 1, j, hj, ho => by
    cases hi : L[j]? with
    | none => 
      unfold val
      rw [List.getD_eq_getElem?_getD, List.getD_eq_getElem?_getD, List.getElem?_eq_none (by rw [valsL_len]; exact List.getElem?_eq_none_iff.1 hi), List.getElem?_eq_none (by rw [valsL_len]; exact List.getElem?_eq_none_iff.1 hi)]
    | some nd =>
      obtain ⟨h1, h2⟩ := h j nd ho hi
      rw [val_at hwf hi, val_at hwf hi]
      unfold valN
      split
      · rfl
      · split
        · exact h1 (by assumption)
        · congr 1
          refine List.map_congr_left fun a ha => ?_
          have h3 := hwf.args j nd hi a ha
          obtain ⟨z, rfl⟩ := Int.eq_ofNat_of_zero_le h3.1
          rw [Int.toNat_natCast]
          exact val_local hwf h m z (by omega) (h2 _ ha)
/-- A set, as a map's function. -/
def setF (S : Int → Bool) : Int → Option Value := fun k => if S k = true then some (.bool true) else none
theorem setF_put {S : Int → Bool} {k : Int} : ∀ j, (if j = k then some (Value.bool true) else setF S j) = setF (fun j => if j = k then true else S j) j := by
  intro j
  unfold setF
  by_cases h : j = k
  · simp [h]
  · simp [h]
section
variable {w0 wr w' : World} {ts : List Thing} {K T E : TypeId} {kd : IntKind} {mb c : Nat} {S : Int → Bool}
/-- A set in memory: what a look-up answers. -/
theorem MapF.ask {w : World} (h : MapF Try.prog K kd w mb (setF S) c) (hK : Try.prog.underlying K = some (.int kd)) (hT : Try.prog.underlying T = some (.map K E)) (hz : (zeroValue E).run Try.prog w = .ok (.bool false) w) {k : Int} (hw : (Lit.int kd k).wf = true) :
    (Instr.lookup T (.map (some mb)) (.int kd k) false).run Try.prog w = .ok (.bool (S k)) w := by
  cases hs : S k with
  | true => exact h.hit hK hT hw (v := .bool true) (by unfold setF; rw [if_pos hs]) false
  | false => exact h.miss hK hT hz hw (by unfold setF; rw [if_neg (by rw [hs]; decide)]) false
/-- A set takes one in. -/
theorem Lab.sput (h : ∃ c, Lab w0 wr (Thing.mapf K kd mb (setF S) c :: ts)) (hK : Try.prog.underlying K = some (.int kd)) (hT : Try.prog.underlying T = some (.map K E)) {k : Int} (hw : (Lit.int kd k).wf = true) :
    (Instr.mapUpdate T (.map (some mb)) (.int kd k) (.bool true)).run Try.prog wr = .ok () (mapW Try.prog T mb (.int kd k) (.bool true) wr) ∧ ∃ c, Lab w0 (mapW Try.prog T mb (.int kd k) (.bool true) wr) (Thing.mapf K kd mb (setF fun j => if j = k then true else S j) c :: ts) := by
  obtain ⟨c, h⟩ := h
  obtain ⟨hr, hl⟩ := h.mput hK hT hw (.bool true)
  exact ⟨hr, _, hl.mapf_congr setF_put⟩
end
theorem zeroBool (w : World) : (zeroValue 4).run Try.prog w = .ok (.bool false) w := by kernel_rfl
theorem wf_i64 {k : Int} (h1 : -9223372036854775808 ≤ k) (h2 : k ≤ 9223372036854775807) : (Lit.int .i64 k).wf = true := by
  simp [Lit.wf, IntKind.min, IntKind.max, IntKind.signed, IntKind.bits]; omega
theorem wf_u64 {k : Int} (h1 : 0 ≤ k) (h2 : k ≤ 18446744073709551615) : (Lit.int .u64 k).wf = true := by
  simp [Lit.wf, IntKind.min, IntKind.max, IntKind.signed, IntKind.bits]; omega
/-- An own slice of numbers, as a row by its index. -/
theorem Lab.nums_row {w0 wr : World} {ts : List Thing} {b off m c : Nat} {xs : List Int} (h : Lab w0 wr (Thing.nums (.slice (some ⟨b, off, none⟩) m c) xs :: ts)) :
    off = 0 ∧ ∃ n f, m ≤ n ∧ (∀ i, i < m → f i = .int .u64 (xs.getD i 0)) ∧ Lab w0 wr (Thing.fn b 25 n f :: ts) := by
  have ho := h.nums
  rcases ho.2 with ⟨e, _⟩ | ⟨g, cap, cur, e, _, hg, hn, _, hsz, htake⟩
  · cases e
  · simp only [Value.slice.injEq, Option.some.injEq, Addr.mk.injEq, and_true] at e
    obtain ⟨⟨rfl, rfl⟩, rfl, rfl⟩ := e
    refine ⟨rfl, cur.size, fun i => (cur[i]?).getD default, by omega, fun i hi => ?_, ?_⟩
    · have := congrArg (fun l => l[i]?) htake
      simp only [List.getElem?_take, Nat.mul_one, hi, if_true, List.getElem?_map, Array.getElem?_toList] at this
      show (cur[i]?).getD default = _
      rw [this, List.getD_eq_getElem?_getD, List.getElem?_eq_getElem hi]; rfl
    · refine h.say (s' := Thing.fn b 25 cur.size _) rfl (fun _ hk => hk) fun _ => ⟨cur, hg, rfl, fun i hi => ?_⟩
      show cur[i]? = some ((cur[i]?).getD default)
      rw [Array.getElem?_eq_getElem hi]; rfl
/-- What the walk over the nodes has found: above a place, occurring nodes' variables and arguments are there. -/
def Found (L : List PNode) (z : Nat) (c : Int) (S V : Int → Bool) : Prop :=
  S (z : Int) = true ∧ (∀ j, S j = true → 0 ≤ j ∧ j ≤ (z : Int)) ∧ ∀ (j : Nat) nd, c < (j : Int) → S (j : Int) = true → L[j]? = some nd → (nd.1 = 1 → V nd.2.1 = true) ∧ ∀ a ∈ nd.2.2, S a = true
theorem found_start {L : List PNode} (z : Nat) : Found L z (z : Int) (fun j => if j = (z : Int) then true else false) (fun _ => false) := by
  refine ⟨by simp, fun j hj => ?_, fun j nd h1 h2 _ => ?_⟩
  · by_cases e : j = (z : Int)
    · omega
    · simp [e] at hj
  · by_cases e : (j : Int) = (z : Int)
    · omega
    · simp [e] at h2
    
theorem Found.skip {L : List PNode} {z i : Nat} {S V : Int → Bool} (h : Found L z (i : Int) S V) (hs : S (i : Int) = false) : Found L z ((i : Int) - 1) S V := by
  refine ⟨h.1, h.2.1, fun j nd h1 h2 h3 => ?_⟩
  by_cases e : j = i
  · subst e; rw [hs] at h2; cases h2
  · exact h.2.2 j nd (by omega) h2 h3
theorem Found.step {L : List PNode} {z i : Nat} {S V S' V' : Int → Bool} {op num : Nat} {xs : List Int} (h : Found L z (i : Int) S V) (hwf : WFL L) (hi : L[i]? = some (op, num, xs)) (hs : S (i : Int) = true) (hS : ∀ j, S' j = true ↔ S j = true ∨ j ∈ xs) (hv1 : ∀ j, V j = true → V' j = true) (hv2 : op = 1 → V' (num : Int) = true) : Found L z ((i : Int) - 1) S' V' := by
  have hiz := (h.2.1 _ hs).2
  refine ⟨(hS _).2 (.inl h.1), fun j hj => ?_, fun j nd h1 h2 h3 => ?_⟩
  · rcases (hS j).1 hj with hj | hj
    · exact h.2.1 j hj
    · have := hwf.args i _ hi j hj
      omega
  · by_cases e : j = i
    · subst e
      rw [hi] at h3
      obtain rfl := Option.some.inj h3
      exact ⟨hv2, fun a ha => (hS a).2 (.inr ha)⟩
    · rcases (hS j).1 h2 with h2 | h2
      · obtain ⟨q1, q2⟩ := h.2.2 j nd (by omega) h2 h3
        exact ⟨fun q => hv1 _ (q1 q), fun a ha => (hS a).2 (.inl (q2 a ha))⟩
      · have := hwf.args i _ hi _ h2
        omega
theorem getD_range (g : Nat → Int) {i n : Nat} (h : i < n) : ((List.range n).map g).getD i 0 = g i := by
  rw [List.getD_eq_getElem?_getD, List.getElem?_map, List.getElem?_range h]; rfl
theorem shl_mod {W X : Nat} {g : Int} (h : W < 64) (hg : 0 ≤ g) :
    (0 ≤ IntKind.u64.wrap (g + IntKind.u64.wrap ((X : Int) * 2 ^ W)) ∧ IntKind.u64.wrap (g + IntKind.u64.wrap ((X : Int) * 2 ^ W)) ≤ 18446744073709551615) ∧ (IntKind.u64.wrap (g + IntKind.u64.wrap ((X : Int) * 2 ^ W))).toNat % 2 ^ W = g.toNat % 2 ^ W := by
  have hw : ∀ x : Int, IntKind.u64.wrap x = x % 18446744073709551616 := fun x => by simp [IntKind.wrap, IntKind.signed, IntKind.bits]
  rw [hw, hw]
  obtain ⟨n, rfl⟩ := Int.eq_ofNat_of_zero_le hg
  obtain ⟨q, hq⟩ : ∃ q : Nat, 18446744073709551616 = 2 ^ W * q := ⟨2 ^ (64 - W), by rw [← Nat.pow_add, show W + (64 - W) = 64 by omega]⟩
  have e : ((n : Int) + (X : Int) * 2 ^ W % 18446744073709551616) % 18446744073709551616 = ((n + X * 2 ^ W) % 18446744073709551616 : Nat) := by
    obtain ⟨P, hP⟩ : ∃ P : Nat, X * 2 ^ W = P := ⟨_, rfl⟩
    have hP2 : (X : Int) * 2 ^ W = (P : Int) := by rw [← hP]; push_cast; rfl
    rw [hP, hP2]
    omega
  rw [e]
  refine ⟨⟨by omega, by omega⟩, ?_⟩
  rw [Int.toNat_natCast, Int.toNat_natCast, hq, Nat.mod_mul_right_mod, Nat.add_mul_mod_self_right]
set_option maxRecDepth 100000 in
theorem evalLocal_walk {w : World} (Wi Ti x : Int) (v v2 v3 : Value) (qs qs2 : List PAsk) (hv : AsksOf w v qs) (hq : qs.length ≤ 9223372036854775807) (hcq : ∀ a n c, v = .slice a n c → n ≤ c) (hv2 : AsksOf w v2 qs2) (hq2 : qs2.length ≤ 9223372036854775807)
    (vals : List Int) (hv3 : SliceOf w .u64 v3 vals) (hvu : U64s vals) (hn3 : vals.length ≤ 9223372036854775807) (hc3 : ∀ a n c, v3 = .slice a n c → n ≤ c) (hx : 0 ≤ x ∧ x ≤ 18446744073709551615) :
    Calls Try.prog 8 #[.int .i64 Wi, v, v2, .int .i64 Ti, v3, .int .u64 x] w fun e w' => e = .returned (.bool true) ∧ Below w.heap.size w w' := by
  obtain ⟨X, rfl⟩ := Int.eq_ofNat_of_zero_le hx.1
  obtain ⟨a3, n3, cap3, rfl, hl3, -⟩ := hv3.parts
  have hcap3 := hc3 _ _ _ rfl
  rw [hl3] at hn3
  obtain ⟨a, cap, rfl⟩ := hv.parts
  have hcap := hcq _ _ _ rfl
  obtain ⟨n, hn⟩ : ∃ n, qs.length = n := ⟨_, rfl⟩
  rw [hn] at hv hq hcap ⊢
  obtain ⟨a2, cap2, rfl⟩ := hv2.parts
  obtain ⟨n2, hn2⟩ : ∃ n, qs2.length = n := ⟨_, rfl⟩
  rw [hn2] at hv2 hq2 ⊢
  have hfill := fill_some Wi a n cap qs hv hq
  obtain ⟨W, hW⟩ : ∃ W, (Wi % 64).toNat + 1 = W := ⟨_, rfl⟩
  rw [hW] at hfill
  have hW1 : 1 ≤ W := by omega
  have hW2 : W ≤ 64 := by have := Int.emod_lt_of_pos Wi (show (0 : Int) < 64 by decide); omega
  have HF := Lib.hid hfill; have HV3 := Lib.hid hv3; have HVU := Lib.hid hvu; have HL3 := Lib.hid hl3; have HV2 := Lib.hid hv2; have HX := Lib.hid hx
  clear hv hv3 hvu hc3 hl3 hfill hW hn hcq hv2 hn2 hx
  go_enter Try.func8, Try.ntmps8
  go_upto_region 1 with fail
  go_cut [13, 14] (fun g t wx => ∃ gb F I a' m c L, L.length ≤ 60 ∧ GoodL W L ∧ g = .pointer (some ⟨gb, 0, none⟩) ∧ t = .slice a' m c ∧ Lab w wx [Thing.graph F I gb W 1048576 L])
  case first =>
    by_cases h60 : (60 : Int) < (n : Int)
    · have HF1 := Lib.hid (HF.out 60 (by omega))
      go_wp2_with fail
      go_at_call 25
      refine HF1.out.mono ?_
      rintro e w1 ⟨gb, F, I, a', m, c, L, -, hL, hG, -, rfl, hlab⟩
      go_wp2
      go_meet
      exact ⟨gb, F, I, a', m, c, L, hL, hG, rfl, rfl, hlab⟩
    · have HF1 := Lib.hid (HF.out n (by omega))
      go_wp2_with fail
      go_at_call 25
      refine HF1.out.mono ?_
      rintro e w1 ⟨gb, F, I, a', m, c, L, -, hL, hG, -, rfl, hlab⟩
      go_wp2
      go_meet
      exact ⟨gb, F, I, a', m, c, L, by omega, hG, rfl, rfl, hlab⟩
  case rest =>
    obtain ⟨gb, F, I, a', m, c, L, hL, hG, rfl, rfl, hlab⟩ := hcut
    have HL0 := Lib.hid hlab
    clear hlab
    by_cases h0 : L.length = 0
    · have hle : ((L.length : Int) == 0) = true := by rw [beq_iff_eq]; omega
      go_wp2_with (first | (go_at_call 26; refine (len_any HL0.out.gr).mono ?_; rintro e w2 ⟨rfl, rfl⟩) | (go_at_call 14; refine HL0.out.awake11.mono ?_; rintro e w3 ⟨rfl, hb3⟩))
      go_ret
      exact ⟨rfl, hb3⟩
    have hle : ((L.length : Int) == 0) = false := by rw [beq_eq_false_iff_ne]; omega
    obtain ⟨z, hz⟩ : ∃ z : Nat, Ti % (L.length : Int) = (z : Int) := ⟨(Ti % (L.length : Int)).toNat, by have := Int.emod_nonneg Ti (show (L.length : Int) ≠ 0 by omega); omega⟩
    have hzL : z < L.length := by have := Int.emod_lt_of_pos Ti (show (0 : Int) < (L.length : Int) by omega); omega
    have hmod : ∀ n, Calls Try.prog 15 #[.int .i64 Ti, .int .i64 L.length] (wc.drewN n) fun e w' => e = .returned (.int .i64 z) ∧ w' = wc.drewN n := fun n => by
      refine (mod_any Ti (L.length : Int) (by omega) (by omega) _).mono ?_
      rintro e w' ⟨rfl, rfl⟩
      exact ⟨by rw [hz], rfl⟩
    have HMOD := Lib.hid hmod
    clear hz hmod
    go_upto_region 6 with (go_at_call 26; refine (len_any HL0.out.gr).mono ?_; rintro e w2 ⟨rfl, rfl⟩)
    go_cut [3, 4] (fun t v3 wx => ∃ m3, t = .int .i64 z ∧ v3 = .slice a3 m3 cap3 ∧ m3 ≤ n3 ∧ m3 ≤ 30 ∧ Lab w wx [Thing.graph F I gb W 1048576 L])
    case first =>
      by_cases h30 : (30 : Int) < (n3 : Int)
      all_goals (go_quiet ((first | (go_at_call 26; exact len_quiet HL0.out.gr _) | (go_at_call 15; refine Calls.quiet_of_same (HMOD.out _)))); go_wp2; go_meet)
      all_goals exact ⟨_, rfl, rfl, by omega, by omega, HL0.out.drewN _⟩
    case rest =>
      obtain ⟨m3, rfl, rfl, h31, h32, hl⟩ := hcut
      have hvs := HV3.out.take m3 cap3 h31
      obtain ⟨vs, hvs0⟩ : ∃ vs, vals.take m3 = vs := ⟨_, rfl⟩
      have hvsu := HVU.out.take m3
      have hvl : vs.length = m3 := by rw [← hvs0, List.length_take, HL3.out]; omega
      rw [hvs0] at hvs hvsu
      -- the two sets
      obtain ⟨ob, hob⟩ : ∃ ob, wc.heap.size = ob := ⟨_, rfl⟩
      have hm1 := hl.new_map 3 .i64
      rw [hob] at hm1
      obtain ⟨hr1, c1, hm2⟩ := Lab.sput (T := 69) (E := 4) (S := fun _ => false) (k := (z : Int)) ⟨0, hm1.mapf_congr (fun _ => rfl)⟩ Try.underlying3 Try.underlying69 (wf_i64 (by omega) (by omega))
      obtain ⟨w2, hw2⟩ : ∃ w2, mapW Try.prog 69 ob (.int .i64 z) (.bool true) (wc.alloc (.map #[] 0)) = w2 := ⟨_, rfl⟩
      rw [hw2] at hr1 hm2
      obtain ⟨vb, hvb⟩ : ∃ vb, w2.heap.size = vb := ⟨_, rfl⟩
      have hm3 := hm2.new_map 25 .u64
      rw [hvb] at hm3
      have HM3 := Lib.hid (hm3.mapf_congr (g := setF fun _ => false) (fun _ => rfl))
      have HVS := Lib.hid hvs; have HVSU := Lib.hid hvsu; have HVL := Lib.hid hvl
      have hmm := @run_makeMap Try.prog
      clear hvs hvs0 hvsu hl hvl HVU HV3 HL3 HL0 hm1 hm2 hm3 hw2
      go_upto_region 9 with fail
      refine wp_abs (fun wx => ∃ c2, Lab w wx [Thing.mapf 25 .u64 vb (setF fun _ => false) c2, Thing.mapf 3 .i64 ob (setF fun j => if j = (z : Int) then true else false) c1, Thing.graph F I gb W 1048576 L]) ⟨0, HM3.out⟩ ?_
      rintro w3 ⟨c2, hl3⟩
      have HL3 := Lib.hid hl3
      have HWF := Lib.hid hl3.third.wf
      clear hl3 hr1 hmm HM3 hob hvb
      go_wp2
      go_loopw [17] (fun i wr => ∃ c : Int, -1 ≤ c ∧ c ≤ (z : Int) ∧ i = .int .i64 c ∧ ∃ S V, Found L z c S V ∧ ∃ c1 c2, Lab w wr [Thing.mapf 25 .u64 vb (setF V) c2, Thing.mapf 3 .i64 ob (setF S) c1, Thing.graph F I gb W 1048576 L]) (fun i _ => (intOf i + 1).toNat)
      case atStart => exact ⟨z, by omega, by omega, rfl, _, _, found_start z, c1, c2, HL3.out⟩
      case round =>
        obtain ⟨c, hc0, hcz, rfl, S, V, hfd, c1', c2', hl⟩ := hrel
        by_cases hcn : 0 ≤ c
        · obtain ⟨i, rfl⟩ := Int.eq_ofNat_of_zero_le hcn
          obtain ⟨nd, hi⟩ : ∃ nd, L[i]? = some nd := ⟨_, List.getElem?_eq_getElem (by omega)⟩
          obtain ⟨op, num, xs⟩ := nd
          have hargs := HWF.out.args i _ hi
          have hok := HWF.out.ok _ (List.mem_of_getElem? hi)
          simp only at hargs hok
          have HL4 := Lib.hid hl.rot3; have HFD := Lib.hid hfd; have HI := Lib.hid hi; have HARGS := Lib.hid hargs; have HOK := Lib.hid hok
          clear hl hfd hi hargs hok
          go_wp2_with fail
          go_at_call 27
          refine (HL4.out.node_at i _ HI.out).mono ?_
          rintro e w4 ⟨aa, am, ac, rfl, hl5⟩
          obtain ⟨p, hp⟩ : ∃ p, w4.heap.size = p := ⟨_, rfl⟩
          have hl6 := hl5.alloc #[.int .u8 op, .int .u64 num, .slice aa am ac] 62
          rw [hp] at hl6
          have HL6 := Lib.hid hl6.rot5
          clear hl5 hl6
          go_upto_region 13 with fail
          clear hp
          refine wp_abs (fun w5 => Lab w w5 [Thing.mapf 3 .i64 ob (setF S) c1', Thing.box p 62 #[.int .u8 op, .int .u64 num, .slice aa am ac], Thing.graph F I gb W 1048576 L, Thing.ints (.slice aa am ac) xs, Thing.mapf 25 .u64 vb (setF V) c2']) HL6.out ?_
          rintro w5 hl7
          have hask := hl7.mapf.ask (T := 69) (E := 4) Try.underlying3 Try.underlying69 (zeroBool _) (k := (i : Int)) (wf_i64 (by omega) (by omega))
          obtain ⟨d0, d1, d2⟩ := cells3 hl7.box2
          have HL7 := Lib.hid hl7
          clear hl7 HL6 HL4
          cases hs : S (i : Int) with
          | false =>
            rw [hs] at hask
            have HS := Lib.hid hs
            clear hs
            go_wp2
            go_roundw
            case rel => exact ⟨(i : Int) - 1, by omega, by omega, by go_num, S, V, HFD.out.skip HS.out, c1', c2', HL7.out.rot5.rot3.drop.rot4.drop⟩
            case measure => simp [intOf] <;> omega
          | true =>
            rw [hs] at hask
            have HS := Lib.hid hs
            clear hs
            go_upto_if 76 with fail
            go_cut [3] (fun t wx => t = .int .i64 z ∧ ∃ V' c3, (∀ j, V j = true → V' j = true) ∧ (op = 1 → V' (num : Int) = true) ∧ Lab w wx [Thing.mapf 3 .i64 ob (setF S) c1', Thing.box p 62 #[.int .u8 op, .int .u64 num, .slice aa am ac], Thing.graph F I gb W 1048576 L, Thing.ints (.slice aa am ac) xs, Thing.mapf 25 .u64 vb (setF V') c3])
            case first =>
              by_cases hop : op = 1
              · have hq : ((op : Int) == 1) = true := by rw [beq_iff_eq]; omega
                obtain ⟨hr2, c3, hl8⟩ := Lab.sput (T := 70) (E := 4) (k := (num : Int)) ⟨c2', HL7.out.rot5⟩ Try.underlying25 Try.underlying70 (wf_u64 (by omega) (by have : num ≤ 18446744073709551615 := HOK.out.2.1; omega))
                have HL8 := Lib.hid hl8
                clear hl8 hop
                go_wp2
                go_meet
                exact ⟨rfl, fun j => if j = (num : Int) then true else V j, c3, fun j hj => by dsimp only; rw [hj, ite_self], fun _ => if_pos rfl, HL8.out.rot5.rot5.rot5.rot5⟩
              · have hq : ((op : Int) == 1) = false := by rw [beq_eq_false_iff_ne]; omega
                have HOP := Lib.hid hop
                clear hop
                go_wp2
                go_meet
                exact ⟨rfl, V, c2', fun _ h => h, fun h => absurd h HOP.out, HL7.out⟩
            case rest =>
              obtain ⟨rfl, V', c3, hv1, hv2, hl8⟩ := hcut
              have HV := Lib.hid (And.intro hv1 hv2); have HL8 := Lib.hid hl8
              have ham : am = xs.length := by obtain ⟨_, _, _, e, hl, _⟩ := hl8.ints4.slice; simp only [Value.slice.injEq] at e; omega
              have ham3 : am ≤ 3 := by rw [ham, HOK.out.2.2]; exact aryN_le op
              clear hv1 hv2 hl8 hask d0 d1 d2
              go_wp2
              go_loopw [20] (fun k wr => ∃ y : Nat, y ≤ am ∧ k = .int .i64 y ∧ ∃ S', (∀ j, S' j = true ↔ S j = true ∨ j ∈ xs.take y) ∧ ∃ c, Lab w wr [Thing.mapf 3 .i64 ob (setF S') c, Thing.box p 62 #[.int .u8 op, .int .u64 num, .slice aa am ac], Thing.graph F I gb W 1048576 L, Thing.ints (.slice aa am ac) xs, Thing.mapf 25 .u64 vb (setF V') c3]) (fun k _ => am - (intOf k).toNat)
              case atStart => exact ⟨0, by omega, rfl, S, by simp, c1', HL8.out⟩
              case round =>
                obtain ⟨y, hy, rfl, S', hs', cc, hl⟩ := hrel
                obtain ⟨d0, d1, d2⟩ := cells3 hl.box2
                by_cases hlt : y < am
                · obtain ⟨b, off, u, rfl, hc, hu⟩ := hl.ints4.slice.parts' hlt
                  have hmem := List.mem_of_getElem? hu
                  have hub := HARGS.out u hmem
                  obtain ⟨hr3, c4, hl9⟩ := Lab.sput (T := 69) (E := 4) (k := u) ⟨cc, hl⟩ Try.underlying3 Try.underlying69 (wf_i64 (by omega) (by omega))
                  have HL9 := Lib.hid hl9; have HS' := Lib.hid hs'; have HU := Lib.hid hu
                  clear hl9 hl hs' hu hmem hub
                  go_wp2
                  go_roundw
                  case rel =>
                    refine ⟨y + 1, by omega, by go_num, _, fun j => ?_, c4, HL9.out⟩
                    rw [← take_snoc' HU.out, List.mem_append, List.mem_singleton]
                    by_cases e : j = u
                    · simp [e]
                    · simp only [e, if_false, or_false]; exact HS'.out j
                  case measure => simp [intOf]; omega
                · obtain rfl : y = am := by omega
                  rw [List.take_of_length_le (by omega)] at hs'
                  have HL9 := Lib.hid hl; have HS' := Lib.hid hs'
                  clear hl hs'
                  go_wp2
                  go_roundw
                  case rel => exact ⟨(i : Int) - 1, by omega, by omega, by go_num, S', V', HFD.out.step HWF.out HI.out HS.out HS'.out HV.out.1 HV.out.2, cc, c3, HL9.out.rot5.rot3.drop.rot4.drop⟩
                  case measure => simp [intOf] <;> omega
        · obtain rfl : c = -1 := by omega
          have HL4 := Lib.hid hl; have HFD := Lib.hid hfd
          clear hl hfd
          obtain ⟨x, hx⟩ : ∃ x, val W vs L z = x := ⟨_, rfl⟩
          have hE := (evalR_in (W := W) (vals := vs) hzL).trans (congrArg (·, 0) hx)
          have hE1 := HL4.out.rot3.eval (z : Int) vs _ (HVS.out.below HL4.out.below) (by have := HVL.out; omega) HVSU.out hE
          have HE1 := Lib.hid hE1; have HX0 := Lib.hid hx
          clear hE hE1 hx
          go_wp2_with fail
          go_at_call 11
          refine HE1.out.mono ?_
          rintro e w4 ⟨rfl, hl5⟩
          have hvsw := HVS.out.below hl5.below
          have hvl30 : vs.length ≤ 1000000000 := by have := HVL.out; omega
          have HL5 := Lib.hid hl5
          clear hl5 HE1 HL4
          go_upto_block 4 with (at_builtin; refine wpList_append_copy 29 25 .u64 8 _ _ _ vs hvsw _ _ rfl rfl Try.underlying29 Try.infoU64 (by decide) rfl rfl hvl30 (Nat.le_refl _) ?_; intro v1 w5 hown2 hb2)
          have hl6 := HL5.out.new_nums hb2 hown2
          obtain ⟨av, mv, cv, rfl⟩ := hown2.val
          obtain rfl : mv = m3 := (nums_len hl6.head).trans HVL.out
          have HL6 := Lib.hid hl6
          clear hvsw hvl30 hl6 hown2 hb2 HL5
          go_cut [23] (fun v1 wx => v1 = .slice av mv cv ∧ ∃ ch, SliceOf wx .u64 (.slice av mv cv) ch ∧ ch.length = mv ∧ U64s ch ∧ (∀ j : Nat, j < mv → V (j : Int) = true → (ch.getD j 0).toNat % 2 ^ W = (vs.getD j 0).toNat % 2 ^ W) ∧ ∃ t, Lab w wx [t, Thing.graph F I gb W 1048576 L, Thing.mapf 25 .u64 vb (setF V) c2', Thing.mapf 3 .i64 ob (setF S) c1'])
          case first =>
            by_cases hm0 : mv = 0
            · subst hm0
              go_wp2
              go_loopw [24] (fun i wr => i = .int .i64 0 ∧ Lab w wr [Thing.nums (.slice av 0 cv) vs, Thing.graph F I gb W 1048576 L, Thing.mapf 25 .u64 vb (setF V) c2', Thing.mapf 3 .i64 ob (setF S) c1']) (fun _ _ => 0)
              case atStart => exact ⟨rfl, HL6.out⟩
              case round =>
                obtain ⟨rfl, hl⟩ := hrel
                have HL7 := Lib.hid hl
                clear hl
                go_wp2
                go_meet
                exact ⟨rfl, vs, nums_slice HL7.out.head, HVL.out, HVSU.out, fun j hj => absurd hj (Nat.not_lt_zero j), _, HL7.out⟩
            · obtain ⟨b, off, u, rfl, -, -⟩ := (nums_slice HL6.out.head).parts' (i := 0) (by omega)
              obtain ⟨rfl, nn, f, hmn, hf, hl7⟩ := HL6.out.nums_row
              have hf0 : ∀ j, j < mv → f j = .int .u64 (vs.getD j 0) ∧ 0 ≤ vs.getD j 0 ∧ vs.getD j 0 ≤ 18446744073709551615 := fun j hj => ⟨hf j hj, by
                have := HVSU.out (vs.getD j 0) (by rw [List.getD_eq_getElem?_getD, List.getElem?_eq_getElem (by rw [HVL.out]; exact hj)]; exact List.getElem_mem _)
                exact this⟩
              have HF0 := Lib.hid hf0; have HL7 := Lib.hid hl7
              clear hf hf0 hl7 HL6
              go_wp2
              go_loopw [24] (fun i wr => ∃ k : Nat, k ≤ mv ∧ i = .int .i64 k ∧ ∃ (g : Nat → Int) (f : Nat → Value), (∀ j, j < mv → f j = .int .u64 (g j) ∧ 0 ≤ g j ∧ g j ≤ 18446744073709551615) ∧ (∀ j, k ≤ j → g j = vs.getD j 0) ∧ (∀ j : Nat, j < k → V (j : Int) = true → (g j).toNat % 2 ^ W = (vs.getD j 0).toNat % 2 ^ W) ∧ Lab w wr [Thing.fn b 25 nn f, Thing.graph F I gb W 1048576 L, Thing.mapf 25 .u64 vb (setF V) c2', Thing.mapf 3 .i64 ob (setF S) c1']) (fun i _ => mv - (intOf i).toNat)
              case atStart => exact ⟨0, by omega, rfl, fun j => vs.getD j 0, f, HF0.out, fun _ _ => rfl, fun j hj => absurd hj (Nat.not_lt_zero j), HL7.out⟩
              case round =>
                obtain ⟨k, hk, rfl, g, f, hf, hg1, hg2, hl⟩ := hrel
                by_cases hlt : k < mv
                · have hask := hl.rot3.mapf.ask (T := 70) (E := 4) Try.underlying25 Try.underlying70 (zeroBool _) (k := (k : Int)) (wf_u64 (by omega) (by omega))
                  have hcl := hl.fn1.cell (i := k) (by omega)
                  rw [(hf k hlt).1] at hcl
                  have hfr := hl.fn1.frozen k
                  have hgk := (hf k hlt).2
                  have HF := Lib.hid (And.intro hf (And.intro hg1 hg2)); have HL8 := Lib.hid hl
                  clear hf hg1 hg2 hl
                  cases hs : V (k : Int) with
                  | false =>
                    rw [hs] at hask
                    have HS := Lib.hid hs
                    clear hs
                    go_wp2
                    go_roundw
                    case rel =>
                      refine ⟨k + 1, by omega, by go_num, fun j => if j = k then (X : Int) else g j, _, fun j hj => ?_, fun j hj => ?_, fun j hj hv => ?_, HL8.out.set k (.int .u64 X)⟩
                      · by_cases e : j = k
                        · simp only [e, if_true]; exact ⟨trivial, HX.out⟩
                        · simp only [e, if_false]; exact HF.out.1 j hj
                      · simp only [show j ≠ k by omega, if_false]; exact HF.out.2.1 j (by omega)
                      · by_cases e : j = k
                        · rw [e, HS.out] at hv; cases hv
                        · simp only [e, if_false]; exact HF.out.2.2 j (by omega) hv
                    case measure => simp [intOf]; omega
                  | true =>
                    rw [hs] at hask
                    have HS := Lib.hid hs
                    clear hs
                    by_cases h64 : W < 64
                    · go_wp2_with (go_at_call 20; refine (width_any HL8.out.swap.gr).mono ?_; rintro e w8 ⟨rfl, rfl⟩)
                      have HGW := Lib.hid (show Gr wr.drew 0 F I gb W 1048576 L from (HL8.out.drewN 1).swap.gr)
                      go_still_tail 12, (by kernel_rfl)
                      still_call ((width_any HGW.out).mono fun e w'' h => ⟨h.1, h.2.symm⟩)
                      repeat still_step
                      refine wpStill_nil ?_
                      simp only [World.drew_eq]
                      go_wp2
                      go_roundw
                      case rel =>
                        obtain ⟨Y, hY⟩ : ∃ Y, IntKind.u64.wrap (g k + IntKind.u64.wrap ((X : Int) * 2 ^ W)) = Y := ⟨_, rfl⟩
                        rw [hY]
                        have hY2 := shl_mod (W := W) (X := X) (g := g k) h64 hgk.1
                        rw [hY] at hY2
                        refine ⟨k + 1, by omega, by go_num, fun j => if j = k then Y else g j, _, fun j hj => ?_, fun j hj => ?_, fun j hj hv => ?_, (HL8.out.drewN 1).set k (.int .u64 Y)⟩
                        · by_cases e : j = k
                          · simp only [e, if_true]; exact ⟨trivial, hY2.1⟩
                          · simp only [e, if_false]; exact HF.out.1 j hj
                        · simp only [show j ≠ k by omega, if_false]; exact HF.out.2.1 j (by omega)
                        · by_cases e : j = k
                          · simp only [e, if_true]
                            rw [hY2.2, HF.out.2.1 k (by omega)]
                          · simp only [e, if_false]; exact HF.out.2.2 j (by omega) hv
                      case measure => simp [intOf]; omega
                    · go_wp2_with (go_at_call 20; refine (width_any HL8.out.swap.gr).mono ?_; rintro e w8 ⟨rfl, rfl⟩)
                      go_roundw
                      case rel =>
                        refine ⟨k + 1, by omega, by go_num, g, f, HF.out.1, fun j hj => HF.out.2.1 j (by omega), fun j hj hv => ?_, HL8.out⟩
                        by_cases e : j = k
                        · rw [HF.out.2.1 j (by omega)]
                        · exact HF.out.2.2 j (by omega) hv
                      case measure => simp [intOf]; omega
                · obtain rfl : k = mv := by omega
                  have HF := Lib.hid (And.intro hf (And.intro hg1 hg2)); have HL8 := Lib.hid hl
                  clear hf hg1 hg2 hl
                  go_wp2
                  go_meet
                  refine ⟨rfl, (List.range k).map g, ?_, by rw [List.length_map, List.length_range], ?_, fun j hj hv => ?_, _, HL8.out⟩
                  · refine ⟨_, _, _, rfl, by rw [List.length_map, List.length_range], fun i hi => ⟨b, 0, rfl, ?_⟩⟩
                    rw [Nat.zero_add, HL8.out.fn1.cell (by omega), (HF.out.1 i hi).1, getD_range g hi]
                  · intro y hy
                    obtain ⟨i, hi, rfl⟩ := List.mem_map.1 hy
                    exact (HF.out.1 i (List.mem_range.1 hi)).2
                  · rw [getD_range g hj]
                    exact HF.out.2.2 j hj hv
          case rest =>
            obtain ⟨rfl, ch, hsl, hcl, hcu, hcv, t, hl⟩ := hcut
            have hx2 : val W ch L z = x := by
              rw [← HX0.out]
              refine (val_local HWF.out (occ := S) (fun j nd hj hi => ?_) (z + 1) z (by omega) HFD.out.1).symm
              obtain ⟨q1, q2⟩ := HFD.out.2.2 j nd (by omega) hj hi
              refine ⟨fun h1 => ?_, q2⟩
              unfold varV
              rw [HVL.out, hcl]
              by_cases hlt : nd.2.1 < mv
              · rw [if_pos hlt, if_pos hlt, hcv _ hlt (q1 h1)]
              · rw [if_neg hlt, if_neg hlt]
            have hE1 := hl.swap.eval (z : Int) ch _ hsl (by omega) hcu ((evalR_in (W := W) (vals := ch) hzL).trans (congrArg (·, 0) hx2))
            have HE1 := Lib.hid hE1
            clear hE1 hx2 hsl hcl hcu hcv hl HFD
            go_wp2_with fail
            go_at_call 11
            refine HE1.out.mono ?_
            rintro e w6 ⟨rfl, hl9⟩
            have HL9 := Lib.hid (hl9.swap.drop.swap.drop.swap.drop)
            clear hl9 HE1
            go_upto_block 6 with fail
            go_cut [3] (fun t wx => t = .int .i64 z ∧ ∃ F I L', L <+: L' ∧ Lab w wx [Thing.graph F I gb W 1048576 L'])
            case first =>
              go_wp2
              go_loopw [27] (fun i wr => ∃ k : Nat, k ≤ n2 ∧ k ≤ 60 ∧ i = .int .i64 k ∧ ∃ F I L', L <+: L' ∧ Lab w wr [Thing.graph F I gb W 1048576 L']) (fun i _ => n2 - (intOf i).toNat)
              case atStart => exact ⟨0, by omega, by omega, rfl, F, I, L, List.prefix_refl L, HL9.out⟩
              case round =>
                obtain ⟨k, hk, hk2, rfl, F2, I2, L2, hp, hl⟩ := hrel
                have HP := Lib.hid hp; have HL10 := Lib.hid hl
                clear hp hl
                by_cases hlt : k < n2
                · by_cases hlt2 : k < 60
                  · obtain ⟨b, off, xa, va, rfl, hx, hok, hav, c0, c1, c2, c3, c4⟩ := (HV2.out.below HL10.out.below).at hlt
                    have HAdd := Lib.hid (ladd_any HL10.out.gr xa _ hav hok)
                    have hpre := HP.out.trans (isPrefix_add W 1048576 L2 xa)
                    generalize addR W 1048576 L2 xa = R at *
                    have HPRE := Lib.hid hpre
                    clear hx hav hok hpre
                    go_wp2_with fail
                    go_at_call 30
                    refine HAdd.out.mono ?_
                    intro e w2 hp
                    obtain ⟨F', I', rfl, hl2⟩ := HL10.out.gpost hp
                    have HL11 := Lib.hid hl2
                    clear hl2 hp c0 c1 c2 c3 c4
                    go_wp2
                    go_roundw
                    case rel => exact ⟨k + 1, by omega, by omega, by go_num, F', I', _, HPRE.out, HL11.out⟩
                    case measure => simp [intOf]; omega
                  · obtain rfl : k = 60 := by omega
                    go_wp2
                    go_meet
                    exact ⟨rfl, F2, I2, L2, HP.out, HL10.out⟩
                · obtain rfl : k = n2 := by omega
                  go_wp2
                  go_meet
                  exact ⟨rfl, F2, I2, L2, HP.out, HL10.out⟩
            case rest =>
              obtain ⟨rfl, F2, I2, L2, hp, hl⟩ := hcut
              have hx2 : val W vs L2 z = x := (val_prefix hp hzL).trans HX0.out
              have hE1 := hl.eval (z : Int) vs _ (HVS.out.below hl.below) (by have := HVL.out; omega) HVSU.out ((evalR_in (W := W) (vals := vs) (Nat.lt_of_lt_of_le hzL hp.length_le)).trans (congrArg (·, 0) hx2))
              have HE1 := Lib.hid hE1
              have t1 : (x == x) = true := by simp
              clear hE1 hx2 hp hl
              go_wp2_with fail
              go_at_call 11
              refine HE1.out.mono ?_
              rintro e w8 ⟨rfl, hl12⟩
              have HL12 := Lib.hid hl12
              clear hl12
              go_wp2_with (go_at_call 14; refine HL12.out.awake11.mono ?_; rintro e w3 ⟨rfl, hb3⟩)
              go_ret
              exact ⟨rfl, hb3⟩
end Go.Proofs.Yteofgmjejocleaa
