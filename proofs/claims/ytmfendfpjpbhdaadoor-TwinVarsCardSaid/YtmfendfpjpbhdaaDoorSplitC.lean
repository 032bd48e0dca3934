/- Package twin: what Split defers, whole. -/
import Derived.Test.YtmfendfpjpbhdaaDoorSplitB
namespace Go.Proofs.YtmfendfpjpbhdaaDoor
open Go.RowKit Go.Maps
set_option maxHeartbeats 3200000

/-- The rows up to c, and k of the row c. -/
def part (f : Nat → Nat → Int) (N n c k : Nat) : List (List Int) := (List.range N).map fun c' => if c' < c then (List.range n).map (f c') else if c' = c then (List.range k).map (f c') else []
theorem part_len (f : Nat → Nat → Int) (N n c k : Nat) : (part f N n c k).length = N := by simp [part]
theorem part_get (f : Nat → Nat → Int) {N n c k i : Nat} (h : i < N) : (part f N n c k)[i]? = some (if i < c then (List.range n).map (f i) else if i = c then (List.range k).map (f i) else []) := by
  unfold part
  rw [List.getElem?_map, List.getElem?_range h]
  rfl
theorem part_at (f : Nat → Nat → Int) {N n c k : Nat} (h : c < N) : (part f N n c k).getD c [] = (List.range k).map (f c) := by
  rw [List.getD_eq_getElem?_getD, part_get f h, if_neg (by omega), if_pos rfl]
  rfl
theorem part_step (f : Nat → Nat → Int) {N n c k : Nat} (_h : c < N) : (part f N n c k).set c ((List.range k).map (f c) ++ [f c k]) = part f N n c (k + 1) := by
  refine List.ext_getElem? fun i => ?_
  by_cases hi : i < N
  · rw [List.getElem?_set, part_get f hi, part_get f hi]
    by_cases e : c = i
    · subst e
      rw [if_pos rfl, part_len, if_pos hi, if_neg (by omega), if_pos rfl, List.range_succ, List.map_append]
      rfl
    · rw [if_neg e, if_neg (show ¬ i = c by omega), if_neg (show ¬ i = c by omega)]
  · rw [List.getElem?_eq_none (by rw [List.length_set, part_len]; omega), List.getElem?_eq_none (by rw [part_len]; omega)]
theorem part_line (f : Nat → Nat → Int) (N n c : Nat) : part f N n c n = part f N n (c + 1) 0 := by
  refine List.ext_getElem? fun i => ?_
  by_cases hi : i < N
  · rw [part_get f hi, part_get f hi]
    by_cases e : i = c
    · subst e
      rw [if_neg (by omega), if_pos rfl, if_pos (by omega)]
    · by_cases h : i < c
      · rw [if_pos h, if_pos (by omega)]
      · rw [if_neg h, if_neg e, if_neg (by omega)]
        split <;> rfl
  · rw [List.getElem?_eq_none (by rw [part_len]; omega), List.getElem?_eq_none (by rw [part_len]; omega)]
theorem part_zero (f : Nat → Nat → Int) (N n : Nat) : part f N n 0 0 = List.replicate N [] := by
  refine List.ext_getElem? fun i => ?_
  by_cases hi : i < N
  · rw [part_get f hi, if_neg (by omega), List.getElem?_replicate, if_pos hi]
    split <;> rfl
  · rw [List.getElem?_eq_none (by rw [part_len]; omega), List.getElem?_eq_none (by rw [List.length_replicate]; omega)]
/-- The value of an input in the first valuation, and in the second. -/
def valA (N : Nat) (vals : List Int) (c k : Nat) : Int := valAt vals (2 * (k * N + c))
def valB (N nl : Nat) (R : Rel) (level : Int) (ls vals : List Int) (c k : Nat) : Int := valAt vals (ofR nl R level ls ((2 * (k * N + c) : Nat) : Int)).toNat
theorem nums_more (k : IntKind) (E : Nat) (v : Value) (xs : List Int) (x : Int) {m : Nat} (hm : xs.length = m) : Thing.row E 1 v (m + 1) (xs.map (Value.int k) ++ [.int k x]) = Thing.numsK k E v (xs ++ [x]) := by
  unfold Thing.numsK
  rw [List.length_append, List.map_append, hm]
  rfl
def splThings (pa pb ga gb ca cb N : Nat) (vsa vsb : List Value) (xa xb : List (List Int)) (K : Thing) : List Thing :=
  [Thing.box pa 38 #[.slice (some ⟨ga, 0, none⟩) N ca], Thing.box pb 38 #[.slice (some ⟨gb, 0, none⟩) N cb], Thing.lists .u64 44 36 (.slice (some ⟨ga, 0, none⟩) N ca) vsa xa, Thing.lists .u64 44 36 (.slice (some ⟨gb, 0, none⟩) N cb) vsb xb, K]
section
variable {w0 wq wr w' : World} {ts : List Thing}
/-- Both lists, opened at one place. -/
theorem spl_open {pa pb ga gb ca cb N c : Nat} {vsa vsb : List Value} {xa xb : List (List Int)} {K : Thing} (h : Lab wq wr (splThings pa pb ga gb ca cb N vsa vsb xa xb K ++ ts)) (ha : vsa.length = N) (hb : vsb.length = N) (hc : c < N) :
    Lab wq wr (innerT .u64 44 vsa xa c :: Thing.row 36 1 (.slice (some ⟨ga, 0, none⟩) N ca) N vsa :: restT .u64 44 vsa xa c :: innerT .u64 44 vsb xb c :: Thing.row 36 1 (.slice (some ⟨gb, 0, none⟩) N cb) N vsb :: restT .u64 44 vsb xb c ::
      Thing.box pa 38 #[.slice (some ⟨ga, 0, none⟩) N ca] :: Thing.box pb 38 #[.slice (some ⟨gb, 0, none⟩) N cb] :: K :: ts) := by
  have h1 := Lab.lists_open (c := c) (by omega) (Lab.rot4 h)
  have h2 := Lab.lists_open (c := c) (by omega) h1.rot6
  rw [ha, hb] at h2
  exact h2
theorem spl_shut {pa pb ga gb ca cb N c : Nat} {vsa vsb : List Value} {xa xb : List (List Int)} {K : Thing} {ua ub : Value} {ya yb : List Int} (ha : vsa.length = N) (hb : vsb.length = N) (hxa : xa.length = N) (hxb : xb.length = N) (hc : c < N)
    (h : Lab wq wr (Thing.numsK .u64 44 ua ya :: Thing.row 36 1 (.slice (some ⟨ga, 0, none⟩) N ca) N (vsa.set c ua) :: restT .u64 44 vsa xa c :: Thing.numsK .u64 44 ub yb :: Thing.row 36 1 (.slice (some ⟨gb, 0, none⟩) N cb) N (vsb.set c ub) :: restT .u64 44 vsb xb c ::
      Thing.box pa 38 #[.slice (some ⟨ga, 0, none⟩) N ca] :: Thing.box pb 38 #[.slice (some ⟨gb, 0, none⟩) N cb] :: K :: ts)) :
    Lab wq wr (splThings pa pb ga gb ca cb N (vsa.set c ua) (vsb.set c ub) (xa.set c ya) (xb.set c yb) K ++ ts) := by
  subst ha
  have h1 := Lab.lists_shut hc hxa h
  rw [← hb] at h1
  have h2 := Lab.lists_shut (by omega) (by omega) (Lab.rot4 h1).rot4.rot4
  rw [hb] at h2
  exact (Lab.rot4 h2.swap).rot4
set_option maxRecDepth 100000 in
theorem split2_any {u : FrameMode} {p5 p6 p7 p8 p9 p14 pa pb ga gb ca cb lb nl n N : Nat} {level : Int} {chv vv : Value} {R : Rel} {ls vals : List Int}
    (hv : SliceOf wq .u64 vv vals) (hlat : LatIs wq lb nl R) (hch : SliceOf wq .i64 chv ls) (hls : ls.length = N) (hl1 : 1 ≤ N) (hl2 : N ≤ 32) (hn : n ≤ 65536)
    (h : Lab wq wr (splThings pa pb ga gb ca cb N (List.replicate N (.slice none 0 0)) (List.replicate N (.slice none 0 0)) (List.replicate N []) (List.replicate N []) (splK p5 p6 p7 p8 p9 p14 lb level n chv vv) ++ ts)) :
    CallsD Tryd.prog 25 #[.pointer (some ⟨p7, 0, none⟩), .pointer (some ⟨p8, 0, none⟩), .pointer (some ⟨pa, 0, none⟩), .pointer (some ⟨p14, 0, none⟩), .pointer (some ⟨pb, 0, none⟩), .pointer (some ⟨p5, 0, none⟩), .pointer (some ⟨p6, 0, none⟩)] u wr fun e u' w' =>
      u' = u ∧ (e = .returned (.tuple #[]) ∧ ∃ vsa vsb, vsa.length = N ∧ vsb.length = N ∧ Lab wq w' (splThings pa pb ga gb ca cb N vsa vsb (part (valA N vals) N n N 0) (part (valB N nl R level ls vals) N n N 0) (splK p5 p6 p7 p8 p9 p14 lb level n chv vv) ++ ts)) := by
  obtain ⟨ao, no, co, rfl, hno, -⟩ := hch.parts
  obtain rfl : no = N := by omega
  have h0 : Lab wq wr (splThings pa pb ga gb ca cb no (List.replicate no (.slice none 0 0)) (List.replicate no (.slice none 0 0)) (part (valA no vals) no n 0 0) (part (valB no nl R level ls vals) no n 0 0) (splK p5 p6 p7 p8 p9 p14 lb level n (.slice ao no co) vv) ++ ts) := by
    rw [part_zero, part_zero]; exact h
  have H0 := Lib.hid h0
  have k0 := splK_cells (h0.holds (splK p5 p6 p7 p8 p9 p14 lb level n (.slice ao no co) vv) (by simp [splThings]))
  have q7 := k0.c7
  have HV := Lib.hid (And.intro hv (And.intro hlat hch)); have HLS := Lib.hid hls
  clear h h0 k0 hv hlat hch hls hno
  go_enter_d Tryd.func25, Tryd.ntmps25
  go_wp2
  clear q7
  go_loopw [13] (fun v wx => ∃ c : Nat, c ≤ no ∧ v = .int .i64 c ∧ ∃ vsa vsb, vsa.length = no ∧ vsb.length = no ∧ Lab wq wx (splThings pa pb ga gb ca cb no vsa vsb (part (valA no vals) no n c 0) (part (valB no nl R level ls vals) no n c 0) (splK p5 p6 p7 p8 p9 p14 lb level n (.slice ao no co) vv) ++ ts)) (fun v _ => no - (intOf v).toNat)
  case atStart => exact ⟨0, by omega, rfl, _, _, by simp, by simp, H0.out⟩
  case round =>
    clear H0
    obtain ⟨c, hc, rfl, vsa, vsb, hla, hlb, hl⟩ := hrel
    by_cases hlt : c < no
    · have hlt' : (c : Int) < (no : Int) := by omega
      have k0 := splK_cells (hl.holds (splK p5 p6 p7 p8 p9 p14 lb level n (.slice ao no co) vv) (by simp [splThings]))
      have q8 := k0.c8
      have HL := Lib.hid hl; have HLA := Lib.hid (And.intro hla hlb)
      clear k0 hl hla hlb
      go_wp2
      clear q8
      go_loopw [17] (fun v wx => ∃ k : Nat, k ≤ n ∧ v = .int .i64 k ∧ ∃ vsa vsb, vsa.length = no ∧ vsb.length = no ∧ Lab wq wx (splThings pa pb ga gb ca cb no vsa vsb (part (valA no vals) no n c k) (part (valB no nl R level ls vals) no n c k) (splK p5 p6 p7 p8 p9 p14 lb level n (.slice ao no co) vv) ++ ts)) (fun v _ => n - (intOf v).toNat)
      case atStart => exact ⟨0, by omega, rfl, _, _, HLA.out.1, HLA.out.2, HL.out⟩
      case round =>
        clear HL HLA
        obtain ⟨k, hk, rfl, vsa, vsb, hla, hlb, hl⟩ := hrel
        by_cases hltk : k < n
        · have hltk' : (k : Int) < (n : Int) := by omega
          have k0 := splK_cells (hl.holds (splK p5 p6 p7 p8 p9 p14 lb level n (.slice ao no co) vv) (by simp [splThings]))
          have q7 := k0.c7
          obtain ⟨m, hm⟩ : ∃ m, 2 * (k * no + c) = m := ⟨_, rfl⟩
          have hmb : m < 999999999 := by
            have : k * no ≤ 65536 * 32 := Nat.mul_le_mul (by omega) hl2
            omega
          have hi := input_any wr no c k hl2 hlt (by omega)
          rw [hm] at hi
          have HI := Lib.hid hi
          obtain ⟨q, hq⟩ : ∃ q : Nat, ofR nl R level ls (m : Int) = (q : Int) := by
            rcases ofR_or nl R level ls (m : Int) with h | h
            · exact ⟨m, h⟩
            · exact ⟨m + 1, by omega⟩
          have hxA : valAt vals m = valA no vals c k := by unfold valA; rw [hm]
          have hxB : valAt vals q = valB no nl R level ls vals c k := by unfold valB; rw [hm, hq, Int.toNat_natCast]
          have h1 := spl_open hl hla hlb hlt
          unfold innerT at h1
          rw [part_at _ hlt, part_at _ hlt] at h1
          unfold Thing.numsK at h1
          have s1 := h1.head
          have s2 := h1.fourth
          simp only [List.length_map, List.length_range] at h1 s1 s2
          obtain ⟨aa, cca, ea, -⟩ := row_shape s1
          obtain ⟨ab, ccb, eb, -⟩ := row_shape s2
          rw [ea, eb] at h1
          have ha : vsa[c]? = some (.slice aa k cca) := by
            rw [← ea, List.getElem?_eq_getElem (by omega), List.getD_eq_getElem?_getD, List.getElem?_eq_getElem (by omega)]; rfl
          have hb : vsb[c]? = some (.slice ab k ccb) := by
            rw [← eb, List.getElem?_eq_getElem (by omega), List.getD_eq_getElem?_getD, List.getElem?_eq_getElem (by omega)]; rfl
          have H1 := Lib.hid h1; have HA := Lib.hid (And.intro ha hb); have HQ := Lib.hid (And.intro hq (And.intro hxA hxB)); have HLA := Lib.hid (And.intro hla hlb); have HMB := Lib.hid hmb
          clear k0 hl hla hlb hi hm hq hxA hxB h1 s1 s2 ea eb ha hb hmb
          go_upto_region 7 with (go_at_call 15; refine HI.out.mono ?_; rintro e w5 ⟨rfl, rfl⟩)
          refine split_region7 (N := nl) (m := m) (q := q) HV.out.1 HV.out.2.1 HV.out.2.2 (by rw [HLS.out]; exact hl1) (by rw [HLS.out]; exact hl2) HMB.out HQ.out.1 (by omega) (by omega) HA.out.1 HA.out.2 hlt hlt H1.out ?_
          intro aa' cca' ab' ccb' _ _ _ _ _ _ _ _ _ _ _ _ _ _ _ _ _ _ _ _ _ _ _ _ _ _ _ _ w6 hl6
          rw [nums_more .u64 44 _ _ _ (by simp), nums_more .u64 44 _ _ _ (by simp), HQ.out.2.1, HQ.out.2.2] at hl6
          have hl7 := spl_shut HLA.out.1 HLA.out.2 (part_len _ _ _ _ _) (part_len _ _ _ _ _) hlt hl6
          rw [part_step _ hlt, part_step _ hlt] at hl7
          have HL7 := Lib.hid hl7
          clear hl6 hl7
          go_wp2
          go_roundw
          case rel => exact ⟨k + 1, by omega, by go_num, _, _, by rw [List.length_set]; exact HLA.out.1, by rw [List.length_set]; exact HLA.out.2, HL7.out⟩
          case measure => simp [intOf]; omega
        · obtain rfl : k = n := by omega
          rw [part_line, part_line] at hl
          have HL := Lib.hid hl; have HLA := Lib.hid (And.intro hla hlb)
          clear hl hla hlb
          go_wp2
          refine ⟨⟨c + 1, by omega, by go_num, _, _, HLA.out.1, HLA.out.2, HL.out⟩, ?_⟩
          simp [intOf]; omega
    · obtain rfl : c = no := by omega
      have HL := Lib.hid hl; have HLA := Lib.hid (And.intro hla hlb)
      clear hl hla hlb
      go_wp2
      go_end0
      exact ⟨rfl, _, _, HLA.out.1, HLA.out.2, HL.out⟩
end
end Go.Proofs.YtmfendfpjpbhdaaDoor
