/- SplitC, SplitS, SplitD, SplitR, EqIn, TwinV: joined by wip/bundle.py. -/
import Derived.Test.YteamnchoddegpaaGreatDoorB1
import Derived.Test.YteamnchoddegpaaGreatDoorB2
import Derived.Test.YteamnchoddegpaaGreatDoorB3
import Derived.Test.YteamnchoddegpaaGreatDoorB4
import Derived.Test.YteamnchoddegpaaGreatDoorB5
import Derived.Test.YteamnchoddegpaaGreatDoorB6
import Derived.Test.YteamnchoddegpaaGreatDoorB7
import Derived.Test.YteamnchoddegpaaGreatDoorB8
import Derived.Test.YteamnchoddegpaaGreatDoorB9
import Derived.Test.YteamnchoddegpaaGreatDoorB10
import Derived.Test.YteamnchoddegpaaGreatDoorB11
import Derived.Test.YteamnchoddegpaaGreatDoorB12
import Derived.Test.YteamnchoddegpaaGreatDoorB13
import Derived.Test.YteamnchoddegpaaGreatDoorB14
import Derived.Test.YteamnchoddegpaaGreatDoorB15
import Derived.Test.YteamnchoddegpaaGreatDoorB16
import Derived.Test.YteamnchoddegpaaGreatDoorB17
import Derived.Test.YteamnchoddegpaaGreatDoorB18
import Derived.Test.YteamnchoddegpaaGreatDoorB19
import Derived.Test.YteamnchoddegpaaGreatDoorB20
import Derived.Test.YteamnchoddegpaaGreatDoorB21
import Derived.Test.YteamnchoddegpaaGreatDoorB22
import Derived.Test.YteamnchoddegpaaGreatDoorB23
import Derived.Test.YteamnchoddegpaaGreatDoorB24
import Derived.Test.YteamnchoddegpaaGreatDoorC1
import Derived.Laws.EntriesVeiled
import Derived.Laws.BitsAllLaws
import Derived.Lib.Hide
import Derived.WalkKit
import Derived.WalkSpells
import Derived.WalkLawsBesides
import Derived.BigQuiet
import Derived.Deep.QuietTactic
import Derived.Deep.RegionHeld3
import Derived.ProofKit
import Derived.Maps.Keyed
import Derived.DeepKeys4
import Derived.StillTailTactics
import Derived.Laws.CopyOwn
import Derived.Deep.RegionLaw
import Derived.Deep.Slices
import Derived.Deep.Fields
import Derived.ChangeSame
import Derived.OpenShut
import Derived.Deep.OwnRows
import Derived.Maps.RangeWalk
import Derived.Deep.DeepCutAuto
import Derived.Deep.CutBlock
import Derived.Outline
import Derived.Maps.RangeRun
import Derived.Below
import Derived.WalkSmall
import Derived.Deep.Upon
import Derived.WalkMore
import Derived.Ground.NamesProg
import Derived.Shelf.Sort.Plain
import Derived.Shelf.Slices.In.SortNone
import Derived.Lib.SortBridge
import Derived.Sort.OwnSortedInts
import Derived.Deep.DrawnRows
import Derived.Defers
import Derived.Recover
import Derived.WideKeyArr2
import Derived.Lib.AppendZeros
import Derived.BigRegion
import Derived.StillTail
import Derived.Lib.TrailingZeros
namespace Go.Proofs.YteamnchoddegpaaGreatDoor
open Go.RowKit Go.Maps
set_option maxHeartbeats 3200000
/-- The rows up to c, and k of the row c. -/
def part (f : Nat → Nat → Int) (N n c k : Nat) : List (List Int) := (List.range N).map fun c' => if c' < c then (List.range n).map (f c') else if c' = c then (List.range k).map (f c') else []
theorem part_len (f : Nat → Nat → Int) (N n c k : Nat) : (part f N n c k).length = N := by simp [part]
theorem part_get (f : Nat → Nat → Int) {N n c k i : Nat} (h : i < N) : (part f N n c k)[i]? = some (if i < c then (List.range n).map (f i) else if i = c then (List.range k).map (f i) else []) := by
  unfold part
  rw [List.getElem?_map, List.getElem?_range h]
  rfl
theorem part_at (f : Nat → Nat → Int) {N n c k : Nat} (h : c < N) : (part f N n c k).getD c [] = (List.range k).map (f c) := by
  rw [List.getD_eq_getElem?_getD, part_get f h, if_neg (by omega), if_pos rfl]
  rfl
theorem part_step (f : Nat → Nat → Int) {N n c k : Nat} (_h : c < N) : (part f N n c k).set c ((List.range k).map (f c) ++ [f c k]) = part f N n c (k + 1) := by
  refine List.ext_getElem? fun i => ?_
  by_cases hi : i < N
  · rw [List.getElem?_set, part_get f hi, part_get f hi]
    by_cases e : c = i
    · subst e
      rw [if_pos rfl, part_len, if_pos hi, if_neg (by omega), if_pos rfl, List.range_succ, List.map_append]
      rfl
    · rw [if_neg e, if_neg (show ¬ i = c by omega), if_neg (show ¬ i = c by omega)]
  · rw [List.getElem?_eq_none (by rw [List.length_set, part_len]; omega), List.getElem?_eq_none (by rw [part_len]; omega)]
theorem part_line (f : Nat → Nat → Int) (N n c : Nat) : part f N n c n = part f N n (c + 1) 0 := by
  refine List.ext_getElem? fun i => ?_
  by_cases hi : i < N
  · rw [part_get f hi, part_get f hi]
    by_cases e : i = c
    · subst e
      rw [if_neg (by omega), if_pos rfl, if_pos (by omega)]
    · by_cases h : i < c
      · rw [if_pos h, if_pos (by omega)]
      · rw [if_neg h, if_neg e, if_neg (by omega)]
        split <;> rfl
  · rw [List.getElem?_eq_none (by rw [part_len]; omega), List.getElem?_eq_none (by rw [part_len]; omega)]
theorem part_zero (f : Nat → Nat → Int) (N n : Nat) : part f N n 0 0 = List.replicate N [] := by
  refine List.ext_getElem? fun i => ?_
  by_cases hi : i < N
  · rw [part_get f hi, if_neg (by omega), List.getElem?_replicate, if_pos hi]
    split <;> rfl
  · rw [List.getElem?_eq_none (by rw [part_len]; omega), List.getElem?_eq_none (by rw [List.length_replicate]; omega)]
/-- The value of an input in the first valuation, and in the second. -/
def valA (N : Nat) (vals : List Int) (c k : Nat) : Int := valAt vals (2 * (k * N + c))
def valB (N nl : Nat) (R : Rel) (level : Int) (ls vals : List Int) (c k : Nat) : Int := valAt vals (ofR nl R level ls ((2 * (k * N + c) : Nat) : Int)).toNat
theorem nums_more (k : IntKind) (E : Nat) (v : Value) (xs : List Int) (x : Int) {m : Nat} (hm : xs.length = m) : Thing.row E 1 v (m + 1) (xs.map (Value.int k) ++ [.int k x]) = Thing.numsK k E v (xs ++ [x]) := by
  unfold Thing.numsK
  rw [List.length_append, List.map_append, hm]
  rfl
def splThings (pa pb ga gb ca cb N : Nat) (vsa vsb : List Value) (xa xb : List (List Int)) (K : Thing) : List Thing :=
  [Thing.box pa 54 #[.slice (some ⟨ga, 0, none⟩) N ca], Thing.box pb 54 #[.slice (some ⟨gb, 0, none⟩) N cb], Thing.lists .u64 43 25 (.slice (some ⟨ga, 0, none⟩) N ca) vsa xa, Thing.lists .u64 43 25 (.slice (some ⟨gb, 0, none⟩) N cb) vsb xb, K]
section
variable {w0 wq wr w' : World} {ts : List Thing}
/-- Both lists, opened at one place. -/
theorem spl_open {pa pb ga gb ca cb N c : Nat} {vsa vsb : List Value} {xa xb : List (List Int)} {K : Thing} (h : Lab wq wr (splThings pa pb ga gb ca cb N vsa vsb xa xb K ++ ts)) (ha : vsa.length = N) (hb : vsb.length = N) (hc : c < N) :
    Lab wq wr (innerT .u64 43 vsa xa c :: Thing.row 25 1 (.slice (some ⟨ga, 0, none⟩) N ca) N vsa :: restT .u64 43 vsa xa c :: innerT .u64 43 vsb xb c :: Thing.row 25 1 (.slice (some ⟨gb, 0, none⟩) N cb) N vsb :: restT .u64 43 vsb xb c ::
      Thing.box pa 54 #[.slice (some ⟨ga, 0, none⟩) N ca] :: Thing.box pb 54 #[.slice (some ⟨gb, 0, none⟩) N cb] :: K :: ts) := by
  have h1 := Lab.lists_open (c := c) (by omega) (Lab.rot4 h)
  have h2 := Lab.lists_open (c := c) (by omega) h1.rot6
  rw [ha, hb] at h2
  exact h2
theorem spl_shut {pa pb ga gb ca cb N c : Nat} {vsa vsb : List Value} {xa xb : List (List Int)} {K : Thing} {ua ub : Value} {ya yb : List Int} (ha : vsa.length = N) (hb : vsb.length = N) (hxa : xa.length = N) (hxb : xb.length = N) (hc : c < N)
    (h : Lab wq wr (Thing.numsK .u64 43 ua ya :: Thing.row 25 1 (.slice (some ⟨ga, 0, none⟩) N ca) N (vsa.set c ua) :: restT .u64 43 vsa xa c :: Thing.numsK .u64 43 ub yb :: Thing.row 25 1 (.slice (some ⟨gb, 0, none⟩) N cb) N (vsb.set c ub) :: restT .u64 43 vsb xb c ::
      Thing.box pa 54 #[.slice (some ⟨ga, 0, none⟩) N ca] :: Thing.box pb 54 #[.slice (some ⟨gb, 0, none⟩) N cb] :: K :: ts)) :
    Lab wq wr (splThings pa pb ga gb ca cb N (vsa.set c ua) (vsb.set c ub) (xa.set c ya) (xb.set c yb) K ++ ts) := by
  subst ha
  have h1 := Lab.lists_shut hc hxa h
  rw [← hb] at h1
  have h2 := Lab.lists_shut (by omega) (by omega) (Lab.rot4 h1).rot4.rot4
  rw [hb] at h2
  exact (Lab.rot4 h2.swap).rot4
set_option maxRecDepth 100000 in
theorem split2_any {u : FrameMode} {p5 p6 p7 p8 p9 p14 pa pb ga gb ca cb lb nl n N : Nat} {level : Int} {chv vv : Value} {R : Rel} {ls vals : List Int}
    (hv : SliceOf wq .u64 vv vals) (hlat : LatIs wq lb nl R) (hch : SliceOf wq .i64 chv ls) (hls : ls.length = N) (hl1 : 1 ≤ N) (hl2 : N ≤ 32) (hn : n ≤ 65536)
    (h : Lab wq wr (splThings pa pb ga gb ca cb N (List.replicate N (.slice none 0 0)) (List.replicate N (.slice none 0 0)) (List.replicate N []) (List.replicate N []) (splK p5 p6 p7 p8 p9 p14 lb level n chv vv) ++ ts)) :
    CallsD Tryz.prog 46 #[.pointer (some ⟨p7, 0, none⟩), .pointer (some ⟨p8, 0, none⟩), .pointer (some ⟨pa, 0, none⟩), .pointer (some ⟨p14, 0, none⟩), .pointer (some ⟨pb, 0, none⟩), .pointer (some ⟨p5, 0, none⟩), .pointer (some ⟨p6, 0, none⟩)] u wr fun e u' w' =>
      u' = u ∧ (e = .returned (.tuple #[]) ∧ ∃ vsa vsb, vsa.length = N ∧ vsb.length = N ∧ Lab wq w' (splThings pa pb ga gb ca cb N vsa vsb (part (valA N vals) N n N 0) (part (valB N nl R level ls vals) N n N 0) (splK p5 p6 p7 p8 p9 p14 lb level n chv vv) ++ ts)) := by
  obtain ⟨ao, no, co, rfl, hno, -⟩ := hch.parts
  obtain rfl : no = N := by omega
  have h0 : Lab wq wr (splThings pa pb ga gb ca cb no (List.replicate no (.slice none 0 0)) (List.replicate no (.slice none 0 0)) (part (valA no vals) no n 0 0) (part (valB no nl R level ls vals) no n 0 0) (splK p5 p6 p7 p8 p9 p14 lb level n (.slice ao no co) vv) ++ ts) := by
    rw [part_zero, part_zero]; exact h
  have H0 := Lib.hid h0
  have k0 := splK_cells (h0.holds (splK p5 p6 p7 p8 p9 p14 lb level n (.slice ao no co) vv) (by simp [splThings]))
  have q7 := k0.c7
  have HV := Lib.hid (And.intro hv (And.intro hlat hch)); have HLS := Lib.hid hls
  clear h h0 k0 hv hlat hch hls hno
  go_enter_d Tryz.func46, Tryz.ntmps46
  go_wp2
  clear q7
  go_loopw [13] (fun v wx => ∃ c : Nat, c ≤ no ∧ v = .int .i64 c ∧ ∃ vsa vsb, vsa.length = no ∧ vsb.length = no ∧ Lab wq wx (splThings pa pb ga gb ca cb no vsa vsb (part (valA no vals) no n c 0) (part (valB no nl R level ls vals) no n c 0) (splK p5 p6 p7 p8 p9 p14 lb level n (.slice ao no co) vv) ++ ts)) (fun v _ => no - (intOf v).toNat)
  case atStart => exact ⟨0, by omega, rfl, _, _, by simp, by simp, H0.out⟩
  case round =>
    clear H0
    obtain ⟨c, hc, rfl, vsa, vsb, hla, hlb, hl⟩ := hrel
    by_cases hlt : c < no
    · have hlt' : (c : Int) < (no : Int) := by omega
      have k0 := splK_cells (hl.holds (splK p5 p6 p7 p8 p9 p14 lb level n (.slice ao no co) vv) (by simp [splThings]))
      have q8 := k0.c8
      have HL := Lib.hid hl; have HLA := Lib.hid (And.intro hla hlb)
      clear k0 hl hla hlb
      go_wp2
      clear q8
      go_loopw [17] (fun v wx => ∃ k : Nat, k ≤ n ∧ v = .int .i64 k ∧ ∃ vsa vsb, vsa.length = no ∧ vsb.length = no ∧ Lab wq wx (splThings pa pb ga gb ca cb no vsa vsb (part (valA no vals) no n c k) (part (valB no nl R level ls vals) no n c k) (splK p5 p6 p7 p8 p9 p14 lb level n (.slice ao no co) vv) ++ ts)) (fun v _ => n - (intOf v).toNat)
      case atStart => exact ⟨0, by omega, rfl, _, _, HLA.out.1, HLA.out.2, HL.out⟩
      case round =>
        clear HL HLA
        obtain ⟨k, hk, rfl, vsa, vsb, hla, hlb, hl⟩ := hrel
        by_cases hltk : k < n
        · have hltk' : (k : Int) < (n : Int) := by omega
          have k0 := splK_cells (hl.holds (splK p5 p6 p7 p8 p9 p14 lb level n (.slice ao no co) vv) (by simp [splThings]))
          have q7 := k0.c7
          obtain ⟨m, hm⟩ : ∃ m, 2 * (k * no + c) = m := ⟨_, rfl⟩
          have hmb : m < 999999999 := by
            have : k * no ≤ 65536 * 32 := Nat.mul_le_mul (by omega) hl2
            omega
          have hi := input_any wr no c k hl2 hlt (by omega)
          rw [hm] at hi
          have HI := Lib.hid hi
          obtain ⟨q, hq⟩ : ∃ q : Nat, ofR nl R level ls (m : Int) = (q : Int) := by
            rcases ofR_or nl R level ls (m : Int) with h | h
            · exact ⟨m, h⟩
            · exact ⟨m + 1, by omega⟩
          have hxA : valAt vals m = valA no vals c k := by unfold valA; rw [hm]
          have hxB : valAt vals q = valB no nl R level ls vals c k := by unfold valB; rw [hm, hq, Int.toNat_natCast]
          have h1 := spl_open hl hla hlb hlt
          unfold innerT at h1
          rw [part_at _ hlt, part_at _ hlt] at h1
          unfold Thing.numsK at h1
          have s1 := h1.head
          have s2 := h1.fourth
          simp only [List.length_map, List.length_range] at h1 s1 s2
          obtain ⟨aa, cca, ea, -⟩ := row_shape s1
          obtain ⟨ab, ccb, eb, -⟩ := row_shape s2
          rw [ea, eb] at h1
          have ha : vsa[c]? = some (.slice aa k cca) := by
            rw [← ea, List.getElem?_eq_getElem (by omega), List.getD_eq_getElem?_getD, List.getElem?_eq_getElem (by omega)]; rfl
          have hb : vsb[c]? = some (.slice ab k ccb) := by
            rw [← eb, List.getElem?_eq_getElem (by omega), List.getD_eq_getElem?_getD, List.getElem?_eq_getElem (by omega)]; rfl
          have H1 := Lib.hid h1; have HA := Lib.hid (And.intro ha hb); have HQ := Lib.hid (And.intro hq (And.intro hxA hxB)); have HLA := Lib.hid (And.intro hla hlb); have HMB := Lib.hid hmb
          clear k0 hl hla hlb hi hm hq hxA hxB h1 s1 s2 ea eb ha hb hmb
          go_upto_region 7 with (go_at_call 47; refine HI.out.mono ?_; rintro e w5 ⟨rfl, rfl⟩)
          refine split_region7 (N := nl) (m := m) (q := q) HV.out.1 HV.out.2.1 HV.out.2.2 (by rw [HLS.out]; exact hl1) (by rw [HLS.out]; exact hl2) HMB.out HQ.out.1 (by omega) (by omega) HA.out.1 HA.out.2 hlt hlt H1.out ?_
          intro aa' cca' ab' ccb' _ _ _ _ _ _ _ _ _ _ _ _ _ _ _ _ _ _ _ _ _ _ _ _ _ _ _ _ w6 hl6
          rw [nums_more .u64 43 _ _ _ (by simp), nums_more .u64 43 _ _ _ (by simp), HQ.out.2.1, HQ.out.2.2] at hl6
          have hl7 := spl_shut HLA.out.1 HLA.out.2 (part_len _ _ _ _ _) (part_len _ _ _ _ _) hlt hl6
          rw [part_step _ hlt, part_step _ hlt] at hl7
          have HL7 := Lib.hid hl7
          clear hl6 hl7
          go_wp2
          go_roundw
          case rel => exact ⟨k + 1, by omega, by go_num, _, _, by rw [List.length_set]; exact HLA.out.1, by rw [List.length_set]; exact HLA.out.2, HL7.out⟩
          case measure => simp [intOf]; omega
        · obtain rfl : k = n := by omega
          rw [part_line, part_line] at hl
          have HL := Lib.hid hl; have HLA := Lib.hid (And.intro hla hlb)
          clear hl hla hlb
          go_wp2
          refine ⟨⟨c + 1, by omega, by go_num, _, _, HLA.out.1, HLA.out.2, HL.out⟩, ?_⟩
          simp [intOf]; omega
    · obtain rfl : c = no := by omega
      have HL := Lib.hid hl; have HLA := Lib.hid (And.intro hla hlb)
      clear hl hla hlb
      go_wp2
      go_end0
      exact ⟨rfl, _, _, HLA.out.1, HLA.out.2, HL.out⟩
end
end Go.Proofs.YteamnchoddegpaaGreatDoor
namespace Go.Proofs.YteamnchoddegpaaGreatDoor
open Go.RowKit Go.Maps
set_option maxHeartbeats 3200000
noncomputable def splitRegion8 : Code := (Tryz.f19.body.bind (regionBy 8)).getD .skip
theorem Tryz.infoNums : (Tryz.prog.info? 25).map (fun i => (i.zero, i.size, i.bytes)) = some (some (.slice none 0 0), 1, 24) := by kernel_rfl
section
variable {w0 wq wr w' : World} {ts : List Thing}
theorem spl_made {p5 p6 p7 p8 p9 p14 pa pb ga gb N lb co : Nat} {level n : Int} {ao : Option Addr} {vv : Value} (h : Lab wq wr (Thing.row 25 1 (.slice (some ⟨gb, 0, none⟩) N N) N (List.replicate N (Value.slice none 0 0)) :: Thing.row 25 1 (.slice (some ⟨ga, 0, none⟩) N N) N (List.replicate N (Value.slice none 0 0)) :: Thing.box pa 54 #[.slice (some ⟨ga, 0, none⟩) N N] :: Thing.box pb 54 #[.slice (some ⟨gb, 0, none⟩) N N] :: splK p5 p6 p7 p8 p9 p14 lb level n (.slice ao N co) vv :: ts)) :
    Lab wq wr (splThings pa pb ga gb N N N (List.replicate N (Value.slice none 0 0)) (List.replicate N (Value.slice none 0 0)) (List.replicate N []) (List.replicate N []) (splK p5 p6 p7 p8 p9 p14 lb level n (.slice ao N co) vv) ++ ts) := by
  have h1 := (Lab.lists_nil (k := .u64) (E := 43) h).swap
  have h2 := Lab.lists_nil (k := .u64) (E := 43) h1
  exact h2.rot4.rot4
set_option maxRecDepth 100000 in
theorem split_region8 {u15 u16 u17 u18 u19 u20 u21 u22 u23 u24 u25 u26 u27 u28 u29 u30 u31 u32 u33 u34 u35 u36 u37 : Value} {Q : Exit → Act → World → Prop} {ds : List Deferred} {z0 z1 z2 z3 z4 z5 z6 z8 z9 z12 z13 z14 : Value} {p5 p6 p7 p8 p9 p14 pa pb N lb co : Nat} {level n : Int} {ao : Option Addr} {vv : Value} (hN : N ≤ 32)
    (h : Lab wq wr (Thing.box pa 54 #[.slice none 0 0] :: Thing.box pb 54 #[.slice none 0 0] :: splK p5 p6 p7 p8 p9 p14 lb level n (.slice ao N co) vv :: ts)) (hpa : pa ≠ p7) (hab : pa ≠ pb)
    (hQ : ∀ ga gb v30 v31 v32 v33 v34 v35 w3, Lab wq w3 (splThings pa pb ga gb N N N (List.replicate N (Value.slice none 0 0)) (List.replicate N (Value.slice none 0 0)) (List.replicate N []) (List.replicate N []) (splK p5 p6 p7 p8 p9 p14 lb level n (.slice ao N co) vv) ++ ts) → Q .normal ⟨(List.toArray (z0 :: z1 :: z2 :: z3 :: z4 :: z5 :: z6 :: .pointer (some ⟨p7, 0, none⟩) :: z8 :: z9 :: .pointer (some ⟨pa, 0, none⟩) :: .pointer (some ⟨pb, 0, none⟩) :: z12 :: z13 :: z14 :: u15 :: u16 :: u17 :: u18 :: u19 :: u20 :: u21 :: u22 :: u23 :: u24 :: u25 :: u26 :: u27 :: u28 :: u29 :: v30 :: v31 :: v32 :: v33 :: v34 :: v35 :: u36 :: u37 :: [])), ds⟩ w3) :
    Code.wp Tryz.prog splitRegion8 Q ⟨(List.toArray (z0 :: z1 :: z2 :: z3 :: z4 :: z5 :: z6 :: .pointer (some ⟨p7, 0, none⟩) :: z8 :: z9 :: .pointer (some ⟨pa, 0, none⟩) :: .pointer (some ⟨pb, 0, none⟩) :: z12 :: z13 :: z14 :: u15 :: u16 :: u17 :: u18 :: u19 :: u20 :: u21 :: u22 :: u23 :: u24 :: u25 :: u26 :: u27 :: u28 :: u29 :: u30 :: u31 :: u32 :: u33 :: u34 :: u35 :: u36 :: u37 :: [])), ds⟩ wr := by
  have hmk : ∀ w, (Instr.makeSlice 54 (.int .i64 (N : Int)) (.int .i64 (N : Int))).run Tryz.prog w = .ok (.slice (some ⟨w.heap.size, 0, none⟩) N N) (w.alloc (.cells (madeCells #[.slice none 0 0] N) 25)) :=
    run_make_row' (P := Tryz.prog) 54 25 (.slice none 0 0) 24 Tryz.underlying54 Tryz.infoNums rfl .i64 .i64 N (by omega) (by omega)
  have hN2 : N ≤ maxLen := by unfold maxLen; omega
  have hap := Ne.symm hpa
  have hba := Ne.symm hab
  have HL := Lib.hid h.drew1; have HQ := Lib.hid hQ
  have HT := Lib.hid (splK_cells h.drew1.third).c7
  clear h hQ hN
  conv => arg 2; whnf
  refine wp_region_noPanic ?_
  refine wp_region_any (by kernel_rfl) (wpAny_of_T (S := (SUpto (fun w => w.cell? ⟨p7, 0, none⟩ = some (.slice ao N co)) 7 [0, 3])) _ _ _ _ ?_)
  have hS : (SUpto (fun w => w.cell? ⟨p7, 0, none⟩ = some (.slice ao N co)) 7 [0, 3]) (Array.replicate 8 false) wr.drew := .inr ⟨rfl, HT.out⟩
  refine wpAnyT_takeU (i := 0) (oi := { dst := some 30, op := Go.Op.load 24 (Go.Operand.tmp 7), type := 24, pos := "twin.go:109", after := #[], guard := none }) (v := ?v0) rfl (by kernel_rfl) (by kernel_rfl) (by kernel_rfl) (by decide) (fun _ => by kernel_rfl) (fun _ _ _ h => h) (Or.inl ⟨by rfl, ?hy0⟩) hS (fun hS => ?rest0)
  case hy0 =>
    intro w hSw
    have f0 := hSw (by decide)
    clear hSw
    go_simp
    with_reducible rfl
  try simp only [Act.put, List.setIfInBounds_toArray, List.set_cons_zero, List.set_cons_succ]
  refine wpAnyT_takeU (i := 1) (oi := { dst := some 31, op := Go.Op.call { callee := Go.Callee.builtin Go.Builtin.len, args := #[Go.Operand.tmp 30], argTypes := #[24] }, type := 3, pos := "twin.go:109", after := #[{ on := 0, ground := Go.Ground.data }], guard := none }) (v := ?v1) rfl (by kernel_rfl) (by kernel_rfl) (by kernel_rfl) (by decide) (fun h => absurd h (by decide)) (fun _ _ _ h => h) (Or.inl ⟨by rfl, ?hy1⟩) hS (fun hS => ?rest1)
  case hy1 =>
    intro w hSw
    clear hSw
    go_simp
    with_reducible rfl
  try simp only [Act.put, List.setIfInBounds_toArray, List.set_cons_zero, List.set_cons_succ]
  refine wpAnyT_takeU (i := 3) (oi := { dst := some 33, op := Go.Op.load 24 (Go.Operand.tmp 7), type := 24, pos := "twin.go:109", after := #[], guard := none }) (v := ?v3) rfl (by kernel_rfl) (by kernel_rfl) (by kernel_rfl) (by decide) (fun _ => by kernel_rfl) (fun _ _ _ h => h) (Or.inl ⟨by rfl, ?hy3⟩) hS (fun hS => ?rest3)
  case hy3 =>
    intro w hSw
    have f0 := hSw (by decide)
    clear hSw
    go_simp
    with_reducible rfl
  try simp only [Act.put, List.setIfInBounds_toArray, List.set_cons_zero, List.set_cons_succ]
  refine wpAnyT_takeU (i := 4) (oi := { dst := some 34, op := Go.Op.call { callee := Go.Callee.builtin Go.Builtin.len, args := #[Go.Operand.tmp 33], argTypes := #[24] }, type := 3, pos := "twin.go:109", after := #[{ on := 3, ground := Go.Ground.data }], guard := none }) (v := ?v4) rfl (by kernel_rfl) (by kernel_rfl) (by kernel_rfl) (by decide) (fun h => absurd h (by decide)) (fun _ _ _ h => h) (Or.inl ⟨by rfl, ?hy4⟩) hS (fun hS => ?rest4)
  case hy4 =>
    intro w hSw
    clear hSw
    go_simp
    with_reducible rfl
  try simp only [Act.put, List.setIfInBounds_toArray, List.set_cons_zero, List.set_cons_succ]
  change wpAnyT _ _ _ _ _ _ _ _ wr.drew
  clear hS
  generalize wr.drew = wc at HL HT ⊢
  have hM : ∀ wx (t2 : List Thing), Lab wq wx t2 → Lab wq (wx.alloc (.cells (madeCells #[.slice none 0 0] N) 25)) (Thing.row 25 1 (.slice (some ⟨wx.heap.size, 0, none⟩) N N) N (List.replicate N (Value.slice none 0 0)) :: t2) := fun wx t2 h => h.make_row N 25 _ hN2
  refine wpAnyT_two (i := 2) (j := 5) (o := { dst := some 32, op := Go.Op.makeSlice 54 (Go.Operand.tmp 31) (Go.Operand.tmp 31), type := 54, pos := "twin.go:109", after := #[{ on := 1, ground := Go.Ground.data }, { on := 1, ground := Go.Ground.data }], guard := none }) (o' := { dst := some 35, op := Go.Op.makeSlice 54 (Go.Operand.tmp 34) (Go.Operand.tmp 34), type := 54, pos := "twin.go:109", after := #[{ on := 4, ground := Go.Ground.data }, { on := 4, ground := Go.Ground.data }], guard := none }) (by kernel_rfl) rfl rfl (fun K hK => ?_) (fun K hK => ?_)
  · go_simp
    have HL1 := Lib.hid (hM wc _ HL.out)
    have HT1 := Lib.hid (cell_later (below_new wc (.cells (madeCells #[.slice none 0 0] N) 25)) HT.out)
    obtain ⟨ga, hg⟩ : ∃ ga, wc.heap.size = ga := ⟨_, rfl⟩
    rw [hg] at HL1 ⊢
    refine hK.out _ _ (.inr ⟨rfl, HT1.out⟩) (fun hS => ?_)
    clear hK K hS hg HL HT
    generalize wc.alloc (.cells (madeCells #[.slice none 0 0] N) 25) = wx1 at HL1 HT1 ⊢
    try simp only [Act.put, List.setIfInBounds_toArray, List.set_cons_zero, List.set_cons_succ]
    refine wpAnyT_two (i := 5) (j := 6) (o := { dst := some 35, op := Go.Op.makeSlice 54 (Go.Operand.tmp 34) (Go.Operand.tmp 34), type := 54, pos := "twin.go:109", after := #[{ on := 4, ground := Go.Ground.data }, { on := 4, ground := Go.Ground.data }], guard := none }) (o' := { dst := none, op := Go.Op.store 54 (Go.Operand.tmp 10) (Go.Operand.tmp 32), type := 0, pos := "twin.go:109", after := #[{ on := 2, ground := Go.Ground.data }, { on := 0, ground := Go.Ground.phase }, { on := 1, ground := Go.Ground.phase }, { on := 2, ground := Go.Ground.phase }, { on := 3, ground := Go.Ground.textOnly Go.Departure.lateStoresUnsure }, { on := 4, ground := Go.Ground.textOnly Go.Departure.lateStoresUnsure }, { on := 5, ground := Go.Ground.textOnly Go.Departure.lateStoresUnsure }], guard := none }) (by kernel_rfl) rfl rfl (fun K hK => ?_) (fun K hK => ?_)
    · go_simp
      have HL2 := Lib.hid (hM wx1 _ HL1.out)
      have HT2 := Lib.hid (cell_later (below_new wx1 (.cells (madeCells #[.slice none 0 0] N) 25)) HT1.out)
      obtain ⟨gb, hg⟩ : ∃ gb, wx1.heap.size = gb := ⟨_, rfl⟩
      rw [hg] at HL2 ⊢
      refine hK.out _ _ (.inr ⟨rfl, HT2.out⟩) (fun hS => ?_)
      clear hK K hS hg HL1 HT1
      generalize wx1.alloc (.cells (madeCells #[.slice none 0 0] N) 25) = wx2 at HL2 HT2 ⊢
      try simp only [Act.put, List.setIfInBounds_toArray, List.set_cons_zero, List.set_cons_succ]
      refine wpAnyT_one (i := 6) (o := { dst := none, op := Go.Op.store 54 (Go.Operand.tmp 10) (Go.Operand.tmp 32), type := 0, pos := "twin.go:109", after := #[{ on := 2, ground := Go.Ground.data }, { on := 0, ground := Go.Ground.phase }, { on := 1, ground := Go.Ground.phase }, { on := 2, ground := Go.Ground.phase }, { on := 3, ground := Go.Ground.textOnly Go.Departure.lateStoresUnsure }, { on := 4, ground := Go.Ground.textOnly Go.Departure.lateStoresUnsure }, { on := 5, ground := Go.Ground.textOnly Go.Departure.lateStoresUnsure }], guard := none }) (by kernel_rfl) rfl (fun K hK => ?_)
      have fa := frozen_of_row wx2 pa 0 _ _ (Lab.box1 HL2.out.rot3)
      have ca : wx2.cell? ⟨pa, 0, none⟩ = some (.slice none 0 0) := by rw [cell_of_row _ pa 0 _ _ _ (Lab.box1 HL2.out.rot3)]; rfl
      go_simp
      have HL3 := Lib.hid (Lab.store HL2.out.rot3 0 (.slice (some ⟨ga, 0, none⟩) N N))
      have HT3 := Lib.hid (splK_cells (HL3.out.holds (splK p5 p6 p7 p8 p9 p14 lb level n (.slice ao N co) vv) (by simp))).c7
      refine hK.out _ _ (.inr ⟨rfl, HT3.out⟩) (fun hS => ?_)
      clear hK K hS fa ca HL2 HT2
      generalize wx2.setCell ⟨pa, 0, none⟩ (.slice (some ⟨ga, 0, none⟩) N N) = wx3 at HL3 HT3 ⊢
      try simp only [Act.put, List.setIfInBounds_toArray, List.set_cons_zero, List.set_cons_succ]
      refine wpAnyT_one (i := 7) (o := { dst := none, op := Go.Op.store 54 (Go.Operand.tmp 11) (Go.Operand.tmp 35), type := 0, pos := "twin.go:109", after := #[{ on := 5, ground := Go.Ground.data }, { on := 6, ground := Go.Ground.chain }, { on := 0, ground := Go.Ground.phase }, { on := 1, ground := Go.Ground.phase }, { on := 2, ground := Go.Ground.phase }, { on := 3, ground := Go.Ground.phase }, { on := 4, ground := Go.Ground.phase }, { on := 5, ground := Go.Ground.phase }, { on := 6, ground := Go.Ground.phase }], guard := none }) (by kernel_rfl) rfl (fun K hK => ?_)
      have fa := frozen_of_row wx3 pb 0 _ _ (Lab.box1 HL3.out.rot4)
      have ca : wx3.cell? ⟨pb, 0, none⟩ = some (.slice none 0 0) := by rw [cell_of_row _ pb 0 _ _ _ (Lab.box1 HL3.out.rot4)]; rfl
      go_simp
      have HL4 := Lib.hid (Lab.store HL3.out.rot4 0 (.slice (some ⟨gb, 0, none⟩) N N))
      refine hK.out _ _ (.inl ⟨rfl, by decide⟩) (fun hS => ?_)
      clear hK K hS fa ca HL3 HT3
      try simp only [Act.put, List.setIfInBounds_toArray, List.set_cons_zero, List.set_cons_succ]
      refine wpAnyT_done (by kernel_rfl) ?_ _
      refine NoPanic.normal ?_
      exact HQ.out _ _ _ _ _ _ _ _ _ (spl_made HL4.out.rot5.swap.rot3.rot5.rot5)
    · have fa := frozen_of_row wx1 pa 0 _ _ (Lab.box1 HL1.out.swap)
      have ca : wx1.cell? ⟨pa, 0, none⟩ = some (.slice none 0 0) := by rw [cell_of_row _ pa 0 _ _ _ (Lab.box1 HL1.out.swap)]; rfl
      go_simp
      have HL2 := Lib.hid (Lab.store HL1.out.swap 0 (.slice (some ⟨ga, 0, none⟩) N N))
      have HT2 := Lib.hid (splK_cells (HL2.out.holds (splK p5 p6 p7 p8 p9 p14 lb level n (.slice ao N co) vv) (by simp))).c7
      refine hK.out _ _ (.inr ⟨rfl, HT2.out⟩) (fun hS => ?_)
      clear hK K hS fa ca HL1 HT1
      generalize wx1.setCell ⟨pa, 0, none⟩ (.slice (some ⟨ga, 0, none⟩) N N) = wx2 at HL2 HT2 ⊢
      try simp only [Act.put, List.setIfInBounds_toArray, List.set_cons_zero, List.set_cons_succ]
      refine wpAnyT_one (i := 5) (o := { dst := some 35, op := Go.Op.makeSlice 54 (Go.Operand.tmp 34) (Go.Operand.tmp 34), type := 54, pos := "twin.go:109", after := #[{ on := 4, ground := Go.Ground.data }, { on := 4, ground := Go.Ground.data }], guard := none }) (by kernel_rfl) rfl (fun K hK => ?_)
      go_simp
      have HL3 := Lib.hid (hM wx2 _ HL2.out)
      have HT3 := Lib.hid (cell_later (below_new wx2 (.cells (madeCells #[.slice none 0 0] N) 25)) HT2.out)
      obtain ⟨gb, hg⟩ : ∃ gb, wx2.heap.size = gb := ⟨_, rfl⟩
      rw [hg] at HL3 ⊢
      refine hK.out _ _ (.inr ⟨rfl, HT3.out⟩) (fun hS => ?_)
      clear hK K hS hg HL2 HT2
      generalize wx2.alloc (.cells (madeCells #[.slice none 0 0] N) 25) = wx3 at HL3 HT3 ⊢
      try simp only [Act.put, List.setIfInBounds_toArray, List.set_cons_zero, List.set_cons_succ]
      refine wpAnyT_one (i := 7) (o := { dst := none, op := Go.Op.store 54 (Go.Operand.tmp 11) (Go.Operand.tmp 35), type := 0, pos := "twin.go:109", after := #[{ on := 5, ground := Go.Ground.data }, { on := 6, ground := Go.Ground.chain }, { on := 0, ground := Go.Ground.phase }, { on := 1, ground := Go.Ground.phase }, { on := 2, ground := Go.Ground.phase }, { on := 3, ground := Go.Ground.phase }, { on := 4, ground := Go.Ground.phase }, { on := 5, ground := Go.Ground.phase }, { on := 6, ground := Go.Ground.phase }], guard := none }) (by kernel_rfl) rfl (fun K hK => ?_)
      have fa := frozen_of_row wx3 pb 0 _ _ (Lab.box1 HL3.out.rot4)
      have ca : wx3.cell? ⟨pb, 0, none⟩ = some (.slice none 0 0) := by rw [cell_of_row _ pb 0 _ _ _ (Lab.box1 HL3.out.rot4)]; rfl
      go_simp
      have HL4 := Lib.hid (Lab.store HL3.out.rot4 0 (.slice (some ⟨gb, 0, none⟩) N N))
      refine hK.out _ _ (.inl ⟨rfl, by decide⟩) (fun hS => ?_)
      clear hK K hS fa ca HL3 HT3
      try simp only [Act.put, List.setIfInBounds_toArray, List.set_cons_zero, List.set_cons_succ]
      refine wpAnyT_done (by kernel_rfl) ?_ _
      refine NoPanic.normal ?_
      exact HQ.out _ _ _ _ _ _ _ _ _ (spl_made HL4.out.rot5.swap.rot4.rot5.rot5)
  · go_simp
    have HL1 := Lib.hid (hM wc _ HL.out)
    have HT1 := Lib.hid (cell_later (below_new wc (.cells (madeCells #[.slice none 0 0] N) 25)) HT.out)
    obtain ⟨gb, hg⟩ : ∃ gb, wc.heap.size = gb := ⟨_, rfl⟩
    rw [hg] at HL1 ⊢
    refine hK.out _ _ (.inr ⟨rfl, HT1.out⟩) (fun hS => ?_)
    clear hK K hS hg HL HT
    generalize wc.alloc (.cells (madeCells #[.slice none 0 0] N) 25) = wx1 at HL1 HT1 ⊢
    try simp only [Act.put, List.setIfInBounds_toArray, List.set_cons_zero, List.set_cons_succ]
    refine wpAnyT_one (i := 2) (o := { dst := some 32, op := Go.Op.makeSlice 54 (Go.Operand.tmp 31) (Go.Operand.tmp 31), type := 54, pos := "twin.go:109", after := #[{ on := 1, ground := Go.Ground.data }, { on := 1, ground := Go.Ground.data }], guard := none }) (by kernel_rfl) rfl (fun K hK => ?_)
    go_simp
    have HL2 := Lib.hid (hM wx1 _ HL1.out)
    have HT2 := Lib.hid (cell_later (below_new wx1 (.cells (madeCells #[.slice none 0 0] N) 25)) HT1.out)
    obtain ⟨ga, hg⟩ : ∃ ga, wx1.heap.size = ga := ⟨_, rfl⟩
    rw [hg] at HL2 ⊢
    refine hK.out _ _ (.inr ⟨rfl, HT2.out⟩) (fun hS => ?_)
    clear hK K hS hg HL1 HT1
    generalize wx1.alloc (.cells (madeCells #[.slice none 0 0] N) 25) = wx2 at HL2 HT2 ⊢
    try simp only [Act.put, List.setIfInBounds_toArray, List.set_cons_zero, List.set_cons_succ]
    refine wpAnyT_one (i := 6) (o := { dst := none, op := Go.Op.store 54 (Go.Operand.tmp 10) (Go.Operand.tmp 32), type := 0, pos := "twin.go:109", after := #[{ on := 2, ground := Go.Ground.data }, { on := 0, ground := Go.Ground.phase }, { on := 1, ground := Go.Ground.phase }, { on := 2, ground := Go.Ground.phase }, { on := 3, ground := Go.Ground.textOnly Go.Departure.lateStoresUnsure }, { on := 4, ground := Go.Ground.textOnly Go.Departure.lateStoresUnsure }, { on := 5, ground := Go.Ground.textOnly Go.Departure.lateStoresUnsure }], guard := none }) (by kernel_rfl) rfl (fun K hK => ?_)
    have fa := frozen_of_row wx2 pa 0 _ _ (Lab.box1 HL2.out.rot3)
    have ca : wx2.cell? ⟨pa, 0, none⟩ = some (.slice none 0 0) := by rw [cell_of_row _ pa 0 _ _ _ (Lab.box1 HL2.out.rot3)]; rfl
    go_simp
    have HL3 := Lib.hid (Lab.store HL2.out.rot3 0 (.slice (some ⟨ga, 0, none⟩) N N))
    have HT3 := Lib.hid (splK_cells (HL3.out.holds (splK p5 p6 p7 p8 p9 p14 lb level n (.slice ao N co) vv) (by simp))).c7
    refine hK.out _ _ (.inr ⟨rfl, HT3.out⟩) (fun hS => ?_)
    clear hK K hS fa ca HL2 HT2
    generalize wx2.setCell ⟨pa, 0, none⟩ (.slice (some ⟨ga, 0, none⟩) N N) = wx3 at HL3 HT3 ⊢
    try simp only [Act.put, List.setIfInBounds_toArray, List.set_cons_zero, List.set_cons_succ]
    refine wpAnyT_one (i := 7) (o := { dst := none, op := Go.Op.store 54 (Go.Operand.tmp 11) (Go.Operand.tmp 35), type := 0, pos := "twin.go:109", after := #[{ on := 5, ground := Go.Ground.data }, { on := 6, ground := Go.Ground.chain }, { on := 0, ground := Go.Ground.phase }, { on := 1, ground := Go.Ground.phase }, { on := 2, ground := Go.Ground.phase }, { on := 3, ground := Go.Ground.phase }, { on := 4, ground := Go.Ground.phase }, { on := 5, ground := Go.Ground.phase }, { on := 6, ground := Go.Ground.phase }], guard := none }) (by kernel_rfl) rfl (fun K hK => ?_)
    have fa := frozen_of_row wx3 pb 0 _ _ (Lab.box1 HL3.out.rot4)
    have ca : wx3.cell? ⟨pb, 0, none⟩ = some (.slice none 0 0) := by rw [cell_of_row _ pb 0 _ _ _ (Lab.box1 HL3.out.rot4)]; rfl
    go_simp
    have HL4 := Lib.hid (Lab.store HL3.out.rot4 0 (.slice (some ⟨gb, 0, none⟩) N N))
    refine hK.out _ _ (.inl ⟨rfl, by decide⟩) (fun hS => ?_)
    clear hK K hS fa ca HL3 HT3
    try simp only [Act.put, List.setIfInBounds_toArray, List.set_cons_zero, List.set_cons_succ]
    refine wpAnyT_done (by kernel_rfl) ?_ _
    refine NoPanic.normal ?_
    exact HQ.out _ _ _ _ _ _ _ _ _ (spl_made HL4.out.rot5.swap.rot3.rot4.rot5)
end
end Go.Proofs.YteamnchoddegpaaGreatDoor
namespace Go.Proofs.YteamnchoddegpaaGreatDoor
open Go.RowKit Go.Maps
set_option maxHeartbeats 3200000
theorem split_results {tmps : Array Value} {pa pb : Nat} {w : World} {va vb : Value} {e : Int} (t0 : tmps.getD 10 undef = .pointer (some ⟨pa, 0, none⟩)) (t1 : tmps.getD 11 undef = .pointer (some ⟨pb, 0, none⟩)) (t2 : tmps.getD 12 undef = .int .i64 e) (c0 : w.cell? ⟨pa, 0, none⟩ = some va) (c1 : w.cell? ⟨pb, 0, none⟩ = some vb) :
    (results Tryz.f19 tmps).run Tryz.prog w = .ok (.tuple #[va, vb, .int .i64 e]) w := by
  have t0' : tmps[10]?.getD undef = .pointer (some ⟨pa, 0, none⟩) := by simpa using t0
  have t1' : tmps[11]?.getD undef = .pointer (some ⟨pb, 0, none⟩) := by simpa using t1
  have t2' : tmps[12]?.getD undef = .int .i64 e := by simpa using t2
  unfold results
  rw [Tryz.results19]
  simp [go_sem, t0', t1', t2', c0, c1]
theorem split_invoke (cap : Array Value) (w : World) : (invoke (.fn (.func 46) cap) #[]).run Tryz.prog w = .ok (.enter 46 cap) w := by
  simp [invoke, go_sem]
def splE (nl : Nat) (level : Int) (ls : List Int) (n : Int) : Nat := if mayE nl level ls ≠ 0 then 3 else if n < 0 ∨ 65536 < n then 3 else 0
/-- The boxes of Split's frame. -/
def boxes7 (p5 p6 p7 p8 p9 pa pb : Nat) (lb : Nat) (level n : Int) (chv vv : Value) : List Thing :=
  [Thing.box pa 54 #[.slice none 0 0], Thing.box pb 54 #[.slice none 0 0], Thing.box p9 25 #[vv], Thing.box p8 3 #[.int .i64 n], Thing.box p7 24 #[chv], Thing.box p6 3 #[.int .i64 level], Thing.box p5 28 #[.pointer (some ⟨lb, 0, none⟩)]]
theorem boxes7_lab (wq : World) (lb : Nat) (level n : Int) (chv vv : Value) :
    Lab wq (((((((wq.alloc (.cells #[.pointer (some ⟨lb, 0, none⟩)] 28)).alloc (.cells #[.int .i64 level] 3)).alloc (.cells #[chv] 24)).alloc (.cells #[.int .i64 n] 3)).alloc (.cells #[vv] 25)).alloc (.cells #[.slice none 0 0] 54)).alloc (.cells #[.slice none 0 0] 54))
      (boxes7 wq.heap.size (wq.heap.size + 1) (wq.heap.size + 2) (wq.heap.size + 3) (wq.heap.size + 4) (wq.heap.size + 5) (wq.heap.size + 6) lb level n chv vv) := by
  have h := (((((((Lab.nil (Below.refl wq.heap.size wq)).alloc #[.pointer (some ⟨lb, 0, none⟩)] 28).alloc #[.int .i64 level] 3).alloc #[chv] 24).alloc #[.int .i64 n] 3).alloc #[vv] 25).alloc #[.slice none 0 0] 54).alloc #[.slice none 0 0] 54
  simp only [World.size_alloc, Nat.add_assoc, Nat.reduceAdd] at h
  exact h.swap
structure BoxC (p5 p6 p7 p8 p9 pa pb lb : Nat) (level n : Int) (chv vv : Value) (w : World) : Prop where
  c5 : w.cell? ⟨p5, 0, none⟩ = some (.pointer (some ⟨lb, 0, none⟩))
  c6 : w.cell? ⟨p6, 0, none⟩ = some (.int .i64 level)
  c7 : w.cell? ⟨p7, 0, none⟩ = some chv
  c8 : w.cell? ⟨p8, 0, none⟩ = some (.int .i64 n)
  c9 : w.cell? ⟨p9, 0, none⟩ = some vv
  fa : w.frozen? ⟨pa, 0, none⟩ = false
  fb : w.frozen? ⟨pb, 0, none⟩ = false
  ca : w.cell? ⟨pa, 0, none⟩ = some (.slice none 0 0)
  cb : w.cell? ⟨pb, 0, none⟩ = some (.slice none 0 0)
theorem boxes7_cells {wq w : World} {p5 p6 p7 p8 p9 pa pb lb : Nat} {level n : Int} {chv vv : Value} {ts : List Thing} (h : Lab wq w (boxes7 p5 p6 p7 p8 p9 pa pb lb level n chv vv ++ ts)) : BoxC p5 p6 p7 p8 p9 pa pb lb level n chv vv w := by
  have g : ∀ b T x, Thing.box b T #[x] ∈ boxes7 p5 p6 p7 p8 p9 pa pb lb level n chv vv → w.cell? ⟨b, 0, none⟩ = some x := fun b T x hm => by
    rw [cell_of_row w b 0 _ _ _ (h.holds (Thing.box b T #[x]) (List.mem_append.2 (.inl hm)))]; rfl
  exact ⟨g p5 28 _ (by simp [boxes7]), g p6 3 _ (by simp [boxes7]), g p7 24 _ (by simp [boxes7]), g p8 3 _ (by simp [boxes7]), g p9 25 _ (by simp [boxes7]), frozen_of_row w pa 0 _ _ (Lab.box1 h), frozen_of_row w pb 0 _ _ (Lab.box2 h), g pa 54 _ (by simp [boxes7]), g pb 54 _ (by simp [boxes7])⟩
section
variable {w0 wq : World} {ts : List Thing}
theorem spl_boxes {w : World} {p5 p6 p7 p8 p9 p14 pa pb lb : Nat} {level n : Int} {chv vv : Value} (h : Lab wq w (Thing.box p14 94 #[.func (.func 45) #[] #[.pointer (some ⟨p9, 0, none⟩)]] :: boxes7 p5 p6 p7 p8 p9 pa pb lb level n chv vv)) :
    Lab wq w [Thing.box pa 54 #[.slice none 0 0], Thing.box pb 54 #[.slice none 0 0], splK p5 p6 p7 p8 p9 p14 lb level n chv vv] := by
  have h1 := h.rot3.rot3.rot3.rot4.rot5.rot6.rotG7.rotG8
  exact (Lab.bundle (fs := [_, _, _, _, _, _]) h1).rot3'
set_option maxRecDepth 100000 in
theorem Lab.split_bad (h : Lab w0 wq ts) {lb nl : Nat} {R : Rel} (hlat : LatIs wq lb nl R) {level n : Int} {chv vv : Value} {ls vals : List Int} (hch : SliceOf wq .i64 chv ls) (hv : SliceOf wq .u64 vv vals) (he : splE nl level ls n ≠ 0) :
    Calls Tryz.prog 19 #[.pointer (some ⟨lb, 0, none⟩), .int .i64 level, chv, .int .i64 n, vv] wq fun e w' => e = .returned (.tuple #[.slice none 0 0, .slice none 0 0, .int .i64 3]) ∧ Lab w0 w' ts := by
  obtain ⟨ac, nc, cc, rfl, -, -⟩ := hch.parts
  obtain ⟨av, nv, cv, rfl, -, -⟩ := hv.parts
  have h0 := boxes7_lab wq lb level n (.slice ac nc cc) (.slice av nv cv)
  have HL0 := Lib.hid h0; have HL := Lib.hid h; have HC := Lib.hid (And.intro hlat hch); have HE := Lib.hid he
  clear h0 h hlat hch hv he
  go_enter_defers Tryz.func19, Tryz.ntmps19
  go_upto_region 1 with fail
  obtain ⟨s, hs⟩ : ∃ s, wq.heap.size = s := ⟨_, rfl⟩
  rw [hs] at HL0
  simp only [hs, Nat.add_assoc, Nat.reduceAdd]
  have hd : ∀ k, s + (k + 1) ≠ s := fun k => by omega
  obtain ⟨p6, hp6⟩ : ∃ p6, s + 1 = p6 := ⟨_, rfl⟩
  obtain ⟨p7, hp7⟩ : ∃ p7, s + 2 = p7 := ⟨_, rfl⟩
  obtain ⟨p8, hp8⟩ : ∃ p8, s + 3 = p8 := ⟨_, rfl⟩
  obtain ⟨p9, hp9⟩ : ∃ p9, s + 4 = p9 := ⟨_, rfl⟩
  obtain ⟨pa, hpa⟩ : ∃ pa, s + 5 = pa := ⟨_, rfl⟩
  obtain ⟨pb, hpb⟩ : ∃ pb, s + 6 = pb := ⟨_, rfl⟩
  have d1 : pa ≠ pb := by omega
  have d2 : pb ≠ pa := by omega
  rw [hp6, hp7, hp8, hp9, hpa, hpb] at HL0 ⊢
  clear hs hd hp6 hp7 hp8 hp9 hpa hpb
  refine wp_abs (fun w1 => Lab wq w1 (boxes7 s p6 p7 p8 p9 pa pb lb level n (.slice ac nc cc) (.slice av nv cv))) HL0.out ?_
  clear HL0
  rintro w1 hl
  obtain ⟨c5, c6, c7, c8, c9, fa, fb, ca, cb⟩ := boxes7_cells (ts := []) (by rw [List.append_nil]; exact hl)
  have HM := Lib.hid (may_any (HC.out.1.later hl.below) level (HC.out.2.later hl.below))
  have hfin : Lab wq ((w1.setCell ⟨pa, 0, none⟩ (.slice none 0 0)).setCell ⟨pb, 0, none⟩ (.slice none 0 0)) (Thing.box pa 54 #[.slice none 0 0] :: Thing.box pb 54 #[.slice none 0 0] :: []) :=
    (((Lab.store hl 0 (.slice none 0 0)).swap.store 0 (.slice none 0 0)).swap).subl (by simp)
  have HF := Lib.hid hfin
  clear hl hfin
  by_cases hm : mayE nl level ls = 0
  · have hn : n < 0 ∨ 65536 < n := by
      have := HE.out
      unfold splE at this
      rw [if_neg (by omega)] at this
      by_cases h : n < 0 ∨ 65536 < n
      · exact h
      · rw [if_neg h] at this; exact absurd rfl this
    rw [hm] at HM
    clear hm HE
    by_cases h1 : n < 0
    · clear hn
      go_wp2_with (go_at_call 34; refine HM.out.mono ?_; rintro e w2 ⟨rfl, rfl⟩)
      refine ⟨_, split_results (e := 3) rfl rfl rfl ?_ ?_, rfl, HL.out.later HF.out.below⟩
      · rw [cell_of_row _ pa 0 _ _ _ HF.out.box1]; rfl
      · rw [cell_of_row _ pb 0 _ _ _ HF.out.box2]; rfl
    · have h2 : 65536 < n := by omega
      clear hn
      go_wp2_with (go_at_call 34; refine HM.out.mono ?_; rintro e w2 ⟨rfl, rfl⟩)
      refine ⟨_, split_results (e := 3) rfl rfl rfl ?_ ?_, rfl, HL.out.later HF.out.below⟩
      · rw [cell_of_row _ pa 0 _ _ _ HF.out.box1]; rfl
      · rw [cell_of_row _ pb 0 _ _ _ HF.out.box2]; rfl
  · have hm3 := (may_cases nl level ls).resolve_left hm
    rw [hm3] at HM
    clear hm hm3 HE
    go_wp2_with (go_at_call 34; refine HM.out.mono ?_; rintro e w2 ⟨rfl, rfl⟩)
    refine ⟨_, split_results (e := 3) rfl rfl rfl ?_ ?_, rfl, HL.out.later HF.out.below⟩
    · rw [cell_of_row _ pa 0 _ _ _ HF.out.box1]; rfl
    · rw [cell_of_row _ pb 0 _ _ _ HF.out.box2]; rfl
set_option maxRecDepth 100000 in
theorem Lab.split_ok (h : Lab w0 wq ts) {lb nl N n : Nat} {R : Rel} (hlat : LatIs wq lb nl R) {level : Int} {chv vv : Value} {ls vals : List Int} (hch : SliceOf wq .i64 chv ls) (hv : SliceOf wq .u64 vv vals) (hm : mayE nl level ls = 0) (hn : n ≤ 65536) (hls : ls.length = N) :
    Calls Tryz.prog 19 #[.pointer (some ⟨lb, 0, none⟩), .int .i64 level, chv, .int .i64 n, vv] wq fun e w' => ∃ va vb vsa vsb, e = .returned (.tuple #[va, vb, .int .i64 0]) ∧ vsa.length = N ∧ vsb.length = N ∧
      Lab w0 w' (Thing.lists .u64 43 25 va vsa (part (valA N vals) N n N 0) :: Thing.lists .u64 43 25 vb vsb (part (valB N nl R level ls vals) N n N 0) :: ts) := by
  have hl1 := may_len hm
  obtain ⟨ao, no, co, rfl, hno, -⟩ := hch.parts
  obtain ⟨av, nv, cv, rfl, -, -⟩ := hv.parts
  have h0 := boxes7_lab wq lb level n (.slice ao no co) (.slice av nv cv)
  obtain rfl : no = N := by omega
  have hN1 : 1 ≤ no := by omega
  have hN2 : no ≤ 32 := by omega
  have q1 : ¬ (n : Int) < 0 := by omega
  have q2 : ¬ (65536 : Int) < (n : Int) := by omega
  have HL0 := Lib.hid h0; have HL := Lib.hid h; have HC := Lib.hid (And.intro hlat (And.intro hch hv)); have HLS := Lib.hid hls
  clear h0 h hlat hch hv hl1 hno hls
  go_enter_defers Tryz.func19, Tryz.ntmps19
  go_upto_region 1 with fail
  obtain ⟨s, hs⟩ : ∃ s, wq.heap.size = s := ⟨_, rfl⟩
  rw [hs] at HL0
  simp only [hs, Nat.add_assoc, Nat.reduceAdd]
  have hd : ∀ k, s + (k + 1) ≠ s := fun k => by omega
  obtain ⟨p6, hp6⟩ : ∃ p6, s + 1 = p6 := ⟨_, rfl⟩
  obtain ⟨p7, hp7⟩ : ∃ p7, s + 2 = p7 := ⟨_, rfl⟩
  obtain ⟨p8, hp8⟩ : ∃ p8, s + 3 = p8 := ⟨_, rfl⟩
  obtain ⟨p9, hp9⟩ : ∃ p9, s + 4 = p9 := ⟨_, rfl⟩
  obtain ⟨pa, hpa⟩ : ∃ pa, s + 5 = pa := ⟨_, rfl⟩
  obtain ⟨pb, hpb⟩ : ∃ pb, s + 6 = pb := ⟨_, rfl⟩
  have d1 : pa ≠ pb := by omega
  have d2 : pb ≠ pa := by omega
  have d3 : pa ≠ p7 := by omega
  have d4 : p7 ≠ pa := by omega
  have d5 : pb ≠ p7 := by omega
  have d6 : p7 ≠ pb := by omega
  rw [hp6, hp7, hp8, hp9, hpa, hpb] at HL0 ⊢
  clear hs hd hp6 hp7 hp8 hp9 hpa hpb
  refine wp_abs (fun w1 => Lab wq w1 (boxes7 s p6 p7 p8 p9 pa pb lb level n (.slice ao no co) (.slice av nv cv))) HL0.out ?_
  clear HL0
  rintro w1 hl
  obtain ⟨c5, c6, c7, c8, c9, fa, fb, ca, cb⟩ := boxes7_cells (ts := []) (by rw [List.append_nil]; exact hl)
  have hmay := may_any (HC.out.1.later hl.below) level (HC.out.2.1.later hl.below)
  rw [hm] at hmay
  have HM := Lib.hid hmay
  obtain ⟨p14, hp14⟩ : ∃ p14, w1.heap.size = p14 := ⟨_, rfl⟩
  have hl1 := hl.alloc #[.nilFunc] 94
  rw [hp14] at hl1
  have z1 : (w1.alloc (.cells #[.nilFunc] 94)).cell? ⟨p14, 0, none⟩ = some .nilFunc := by rw [cell_of_row _ p14 0 _ _ _ hl1.box1]; rfl
  have z2 := frozen_of_row _ p14 0 _ _ hl1.box1
  have hl2 := hl.alloc #[.func (.func 45) #[] #[.pointer (some ⟨p9, 0, none⟩)]] 94
  rw [hp14] at hl2
  have HL2 := Lib.hid (spl_boxes hl2)
  clear hl hl1 hl2 hmay hm
  go_upto_region 8 with (go_at_call 34; refine HM.out.mono ?_; rintro e w2 ⟨rfl, rfl⟩)
  refine wp_abs (fun w2 => Lab wq w2 [Thing.box pa 54 #[.slice none 0 0], Thing.box pb 54 #[.slice none 0 0], splK s p6 p7 p8 p9 p14 lb level n (.slice ao no co) (.slice av nv cv)]) HL2.out ?_
  clear HL2 c5 c6 c7 c8 c9 fa fb ca cb z1 z2 hp14 HM
  rintro w2 hl
  refine split_region8 (ts := []) hN2 hl d3 d1 ?_
  clear hl
  intro ga gb _ _ _ _ _ _ w3 hl
  have ca : w3.cell? ⟨pa, 0, none⟩ = some (.slice (some ⟨ga, 0, none⟩) no no) := by rw [cell_of_row _ pa 0 _ _ _ (Lab.box1 hl)]; rfl
  have cb : w3.cell? ⟨pb, 0, none⟩ = some (.slice (some ⟨gb, 0, none⟩) no no) := by rw [cell_of_row _ pb 0 _ _ _ (Lab.box2 hl)]; rfl
  have fa := frozen_of_row w3 pa 0 _ _ (Lab.box1 hl)
  have fb := frozen_of_row w3 pb 0 _ _ (Lab.box2 hl)
  have hl2 := (((Lab.store hl 0 (.slice (some ⟨ga, 0, none⟩) no no)).swap.store 0 (.slice (some ⟨gb, 0, none⟩) no no)).swap).drew1
  have HL2 := Lib.hid hl2
  clear hl hl2
  go_upto_region 9 with fail
  go_region
  go_wp2
  clear ca cb fa fb d2 d3 d4 d5 d6 q1 q2
  generalize ((w3.setCell ⟨pa, 0, none⟩ (.slice (some ⟨ga, 0, none⟩) no no)).setCell ⟨pb, 0, none⟩ (.slice (some ⟨gb, 0, none⟩) no no)).drew = w4 at HL2 ⊢
  refine leaves_cons (f := 46) (args := #[.pointer (some ⟨p7, 0, none⟩), .pointer (some ⟨p8, 0, none⟩), .pointer (some ⟨pa, 0, none⟩), .pointer (some ⟨p14, 0, none⟩), .pointer (some ⟨pb, 0, none⟩), .pointer (some ⟨s, 0, none⟩), .pointer (some ⟨p6, 0, none⟩)]) (by intro h; cases h) (split_invoke _ _)
    ((split2_any (ts := []) HC.out.2.2 HC.out.1 HC.out.2.1 HLS.out hN1 hN2 hn HL2.out).mono ?_)
  rintro e u' w' ⟨rfl, rfl, vsa, vsb, ha, hb, hl⟩
  have hj := HL.out.joined (us := [_, _]) (Lab.subl hl (ts' := [Thing.lists .u64 43 25 (.slice (some ⟨ga, 0, none⟩) no no) vsa (part (valA no vals) no n no 0), Thing.lists .u64 43 25 (.slice (some ⟨gb, 0, none⟩) no no) vsb (part (valB no nl R level ls vals) no n no 0)]) (by
    unfold splThings
    exact .cons _ (.cons _ (.cons_cons _ (.cons_cons _ (.cons _ (List.Sublist.refl _))))))) (fun u hu => by
      simp only [List.mem_cons, List.not_mem_nil, or_false] at hu
      rcases hu with rfl | rfl <;> exact lists_R)
  refine ⟨_, split_results (e := 0) rfl rfl rfl ?_ ?_, _, _, vsa, vsb, rfl, ha, hb, hj⟩
  · rw [cell_of_row _ pa 0 _ _ _ (Lab.box1 hl)]; rfl
  · rw [cell_of_row _ pb 0 _ _ _ (Lab.box2 hl)]; rfl
end
end Go.Proofs.YteamnchoddegpaaGreatDoor
namespace Go.Proofs.YteamnchoddegpaaGreatDoor
open Go.RowKit Go.Maps
set_option maxHeartbeats 3200000
theorem full_len (f : Nat → Nat → Int) (n c : Nat) : (full f n c).length = c := by simp [full]
theorem part_full (f : Nat → Nat → Int) (N n : Nat) : part f N n N 0 = full f n N := by
  unfold part full
  refine List.map_congr_left fun i hi => ?_
  rw [if_pos (List.mem_range.1 hi)]
section
variable {w0 wq wr w' : World} {ts : List Thing}
end
end Go.Proofs.YteamnchoddegpaaGreatDoor
namespace Go.Proofs.YteamnchoddegpaaGreatDoor
open Go.RowKit Go.Maps
set_option maxHeartbeats 3200000
theorem take_eq_allL {α : Type} {xs ys : List α} {n : Nat} (h1 : xs.length = n) (h2 : ys.length = n) (h : xs.take n = ys.take n) : xs = ys := by
  rwa [List.take_of_length_le (by omega), List.take_of_length_le (by omega)] at h
theorem take_neL {α : Type} {xs ys : List α} {k : Nat} {p q : α} (h1 : xs[k]? = some p) (h2 : ys[k]? = some q) (h : p ≠ q) : xs ≠ ys := by
  rintro rfl
  rw [h1] at h2
  exact h (Option.some.inj h2)
theorem numsEq_any {w : World} (va vb : Value) (xs ys : List Int) (ha : SliceOf w .u64 va xs) (hb : SliceOf w .u64 vb ys) (hx : xs.length ≤ 9223372036854775807) (hy : ys.length ≤ 9223372036854775807) :
    Calls Tryz.prog 48 #[va, vb] w fun e w' => e = .returned (.bool (decide (xs = ys))) ∧ Below w.heap.size w w' := by
  obtain ⟨B, hB⟩ : ∃ B, decide (xs = ys) = B := ⟨_, rfl⟩
  rw [hB]
  obtain ⟨a, n, cap, rfl, hna, hca⟩ := ha.parts
  obtain ⟨b, m, cap', rfl, hnb, hcb⟩ := hb.parts
  rw [hna] at hx
  rw [hnb] at hy
  have HB := Lib.hid hB; have HN := Lib.hid (And.intro hna hnb); have HA := Lib.hid hca; have HC := Lib.hid hcb
  clear ha hb hna hnb hca hcb hB
  by_cases hl : n = m
  · subst hl
    have ht : ((n : Int) != (n : Int)) = false := by simp
    go_enter Tryz.func48, Tryz.ntmps48
    go_wp2
    go_loopw [5] (fun i wr => ∃ k : Nat, k ≤ n ∧ i = .int .i64 k ∧ xs.take k = ys.take k ∧ Below w.heap.size w wr) (fun i _ => n - (intOf i).toNat)
    case atStart => exact ⟨0, by omega, rfl, rfl, Below.refl _ _⟩
    case round =>
      obtain ⟨k, hk, rfl, he, hbr⟩ := hrel
      have HE := Lib.hid he; have HBR := Lib.hid hbr
      clear he hbr
      by_cases hlt : k < n
      · obtain ⟨g, off, p, rfl, hc1, hp⟩ := HA.out k hlt
        obtain ⟨g', off', q, rfl, hc2, hq⟩ := HC.out k hlt
        have d1 := cell_later HBR.out hc1
        have d2 := cell_later HBR.out hc2
        have HP := Lib.hid (And.intro hp hq)
        have hlz : decide ((k : Int) < (n : Int)) = true := decide_eq_true (by omega)
        clear hc1 hc2 hp hq
        by_cases hpq : p = q
        · subst hpq
          have ht2 : (p != p) = false := by simp
          have hs := HE.out
          have hs2 : xs.take (k + 1) = ys.take (k + 1) := by rw [← take_snoc' HP.out.1, ← take_snoc' HP.out.2, hs]
          have HS := Lib.hid hs2
          clear hs hs2
          go_wp2
          go_quiet (fail)
          go_wp2
          go_roundw
          case rel => exact ⟨k + 1, by omega, by go_num, HS.out, below_drewN HBR.out _⟩
          case measure => simp [intOf]; omega
        · have ht2 : (p != q) = true := by simpa using hpq
          have hf : B = false := by rw [← HB.out]; exact decide_eq_false (take_neL HP.out.1 HP.out.2 hpq)
          subst hf
          clear hpq
          go_wp2
          go_quiet (fail)
          go_wp2
          go_ret
          exact ⟨rfl, below_drewN HBR.out _⟩
      · obtain rfl : k = n := by omega
        have hf : B = true := by rw [← HB.out]; exact decide_eq_true (take_eq_allL HN.out.1 HN.out.2 HE.out)
        subst hf
        go_wp2
        go_ret
        exact ⟨rfl, HBR.out⟩
  · have ht : ((n : Int) != (m : Int)) = true := by rw [bne_iff_ne]; omega
    have hf : B = false := by rw [← HB.out]; exact decide_eq_false (fun e => by have := HN.out; rw [e] at this; omega)
    subst hf
    clear hl
    go_enter Tryz.func48, Tryz.ntmps48
    go_wp2
    go_ret
    exact ⟨rfl, Below.refl _ _⟩
set_option maxRecDepth 100000 in
theorem inputsEq_any {w : World} (va vb : Value) (xss yss : List (List Int)) (ha : NumsOf w .u64 va xss) (hb : NumsOf w .u64 vb yss) (hx : xss.length ≤ 9223372036854775807) (hy : yss.length ≤ 9223372036854775807)
    (hxs : ∀ xs ∈ xss, xs.length ≤ 9223372036854775807) (hys : ∀ ys ∈ yss, ys.length ≤ 9223372036854775807) :
    Calls Tryz.prog 20 #[va, vb] w fun e w' => e = .returned (.bool (decide (xss = yss))) ∧ Below w.heap.size w w' := by
  obtain ⟨B, hB⟩ : ∃ B, decide (xss = yss) = B := ⟨_, rfl⟩
  rw [hB]
  obtain ⟨a, n, cap, rfl, hna, hca⟩ := ha
  obtain ⟨b, m, cap', rfl, hnb, hcb⟩ := hb
  rw [hna] at hx
  rw [hnb] at hy
  have HB := Lib.hid hB; have HN := Lib.hid (And.intro hna hnb); have HA := Lib.hid hca; have HC := Lib.hid hcb; have HS := Lib.hid (And.intro hxs hys)
  clear hna hnb hca hcb hB hxs hys
  by_cases hl : n = m
  · subst hl
    have ht : ((n : Int) != (n : Int)) = false := by simp
    go_enter Tryz.func20, Tryz.ntmps20
    go_wp2
    go_loopw [5] (fun i wr => ∃ k : Nat, k ≤ n ∧ i = .int .i64 k ∧ xss.take k = yss.take k ∧ Below w.heap.size w wr) (fun i _ => n - (intOf i).toNat)
    case atStart => exact ⟨0, by omega, rfl, rfl, Below.refl _ _⟩
    case round =>
      obtain ⟨k, hk, rfl, he, hbr⟩ := hrel
      have HE := Lib.hid he; have HBR := Lib.hid hbr
      clear he hbr
      by_cases hlt : k < n
      · obtain ⟨g, off, xs, u, rfl, hp, hc1, hsx⟩ := HA.out k hlt
        obtain ⟨g', off', ys, v, rfl, hq, hc2, hsy⟩ := HC.out k hlt
        obtain ⟨ua, un, uc, rfl, -, -⟩ := hsx.parts
        obtain ⟨vva, vn, vc, rfl, -, -⟩ := hsy.parts
        have d1 := cell_later HBR.out hc1
        have d2 := cell_later HBR.out hc2
        have heq := numsEq_any _ _ xs ys ((hsx.later HBR.out).later ((Below.refl _ _).drew)) ((hsy.later HBR.out).later ((Below.refl _ _).drew)) (HS.out.1 xs (List.mem_of_getElem? hp)) (HS.out.2 ys (List.mem_of_getElem? hq))
        have HP := Lib.hid (And.intro hp hq)
        have hlz : decide ((k : Int) < (n : Int)) = true := decide_eq_true (by omega)
        have hlz1 : (k : Int) < (n : Int) := by omega
        have hlz0 : (0 : Int) ≤ (k : Int) := by omega
        clear hc1 hc2 hp hq hsx hsy
        by_cases hpq : xs = ys
        · rw [decide_eq_true hpq] at heq
          have HQ := Lib.hid heq
          subst hpq
          have hs := HE.out
          have hs2 : xss.take (k + 1) = yss.take (k + 1) := by rw [List.take_add_one, List.take_add_one, HP.out.1, HP.out.2, hs]
          have HS2 := Lib.hid hs2
          clear hs hs2 heq
          go_upto_region 6 with fail
          go_region_held3 (fun w' => w'.cell? ⟨g, off + k, none⟩ = some (.slice ua un uc) ∧ w'.cell? ⟨g', off' + k, none⟩ = some (.slice vva vn vc)) (first | exact ⟨d1, d2⟩ | exact ⟨cell_later (by assumption) d1, cell_later (by assumption) d2⟩ | go_keep) ((go_at_call 48; refine HQ.out.mono ?_; rintro e w5 ⟨rfl, hb5⟩; replace hb5 : Below wr.heap.size wr w5 := ((Below.refl wr.heap.size wr).drew).trans hb5))
          have hb6 := HBR.out.trans (Below.mono (by assumption) HBR.out.size)
          have HB6 := Lib.hid hb6
          clear hb6
          go_wp2
          go_roundw
          case rel => exact ⟨k + 1, by omega, by go_num, HS2.out, HB6.out⟩
          case measure => simp [intOf]; omega
        · rw [decide_eq_false hpq] at heq
          have HQ := Lib.hid heq
          have hf : B = false := by rw [← HB.out]; exact decide_eq_false (take_neL HP.out.1 HP.out.2 hpq)
          subst hf
          clear hpq heq
          go_upto_region 6 with fail
          go_region_held3 (fun w' => w'.cell? ⟨g, off + k, none⟩ = some (.slice ua un uc) ∧ w'.cell? ⟨g', off' + k, none⟩ = some (.slice vva vn vc)) (first | exact ⟨d1, d2⟩ | exact ⟨cell_later (by assumption) d1, cell_later (by assumption) d2⟩ | go_keep) ((go_at_call 48; refine HQ.out.mono ?_; rintro e w5 ⟨rfl, hb5⟩; replace hb5 : Below wr.heap.size wr w5 := ((Below.refl wr.heap.size wr).drew).trans hb5))
          have hb6 := HBR.out.trans (Below.mono (by assumption) HBR.out.size)
          have HB6 := Lib.hid hb6
          clear hb6
          go_wp2
          go_ret
          exact ⟨rfl, HB6.out⟩
      · obtain rfl : k = n := by omega
        have hf : B = true := by rw [← HB.out]; exact decide_eq_true (by have := HE.out; rwa [List.take_of_length_le (by rw [HN.out.1]; exact Nat.le_refl _), List.take_of_length_le (by rw [HN.out.2]; exact Nat.le_refl _)] at this)
        subst hf
        go_wp2
        go_ret
        exact ⟨rfl, HBR.out⟩
  · have ht : ((n : Int) != (m : Int)) = true := by rw [bne_iff_ne]; omega
    have hf : B = false := by rw [← HB.out]; exact decide_eq_false (fun e => by have := HN.out; rw [e] at this; omega)
    subst hf
    clear hl
    go_enter Tryz.func20, Tryz.ntmps20
    go_wp2
    go_ret
    exact ⟨rfl, Below.refl _ _⟩
end Go.Proofs.YteamnchoddegpaaGreatDoor
namespace Go.Proofs.YteamnchoddegpaaGreatDoor
open Go.RowKit Go.Maps
set_option maxHeartbeats 3200000
theorem NumsOf.none (w : World) (k : IntKind) : NumsOf w k (.slice none 0 0) [] := ⟨_, _, _, rfl, rfl, fun i hi => by omega⟩
theorem NumsOf.later {w w' : World} {k : IntKind} {v : Value} {xss : List (List Int)} (h : NumsOf w k v xss) (hw : Below w.heap.size w w') : NumsOf w' k v xss := by
  obtain ⟨a, n, cap, rfl, hl, hc⟩ := h
  refine ⟨a, n, cap, rfl, hl, fun i hi => ?_⟩
  obtain ⟨b, off, xs, va, rfl, hx, hc1, hs⟩ := hc i hi
  exact ⟨b, off, xs, va, rfl, hx, cell_later hw hc1, hs.later hw⟩
/-- What Split gives for the two valuations. -/
def splX (f : Nat → Nat → Int) (e N : Nat) (n : Int) : List (List Int) := if e = 0 then full f n.toNat N else []
theorem splE_in {nl : Nat} {level : Int} {ls : List Int} {n : Int} (h : splE nl level ls n = 0) : mayE nl level ls = 0 ∧ 0 ≤ n ∧ n ≤ 65536 := by
  unfold splE at h
  by_cases hm : mayE nl level ls = 0
  · rw [if_neg (by omega)] at h
    by_cases hn : n < 0 ∨ 65536 < n
    · rw [if_pos hn] at h; exact absurd h (by decide)
    · exact ⟨hm, by omega, by omega⟩
  · rw [if_pos hm] at h; exact absurd h (by decide)
theorem splE_cases (nl : Nat) (level : Int) (ls : List Int) (n : Int) : splE nl level ls n = 0 ∨ splE nl level ls n = 3 := by
  unfold splE
  split
  · exact .inr rfl
  · split
    · exact .inr rfl
    · exact .inl rfl
section
variable {w0 wq : World} {ts : List Thing}
theorem Lab.split_any (h : Lab w0 wq ts) {lb nl : Nat} {R : Rel} (hlat : LatIs wq lb nl R) {level n : Int} {chv vv : Value} {ls vals : List Int} (hch : SliceOf wq .i64 chv ls) (hv : SliceOf wq .u64 vv vals) :
    Calls Tryz.prog 19 #[.pointer (some ⟨lb, 0, none⟩), .int .i64 level, chv, .int .i64 n, vv] wq fun e w' => ∃ va vb vsa vsb, e = .returned (.tuple #[va, vb, .int .i64 (splE nl level ls n)]) ∧
      vsa.length = (splX (valA ls.length vals) (splE nl level ls n) ls.length n).length ∧ vsb.length = (splX (valB ls.length nl R level ls vals) (splE nl level ls n) ls.length n).length ∧
      Lab w0 w' (Thing.lists .u64 43 25 va vsa (splX (valA ls.length vals) (splE nl level ls n) ls.length n) :: Thing.lists .u64 43 25 vb vsb (splX (valB ls.length nl R level ls vals) (splE nl level ls n) ls.length n) :: ts) := by
  rcases splE_cases nl level ls n with he | he
  · obtain ⟨hm, hn1, hn2⟩ := splE_in he
    obtain ⟨m, rfl⟩ := Int.eq_ofNat_of_zero_le hn1
    refine (h.split_ok hlat hch hv hm (n := m) (by omega) rfl).mono ?_
    rintro e w' ⟨va, vb, vsa, vsb, rfl, h1, h2, hl⟩
    rw [part_full, part_full] at hl
    rw [he]
    simp only [splX, if_true, Int.toNat_natCast, full_len]
    exact ⟨va, vb, vsa, vsb, rfl, h1, h2, hl⟩
  · refine (h.split_bad hlat hch hv (by rw [he]; decide)).mono ?_
    rintro e w' ⟨rfl, hl⟩
    rw [he]
    exact ⟨_, _, [], [], rfl, rfl, rfl, hl.lists_none.lists_none⟩
end
section
variable {w0 wr : World} {ts : List Thing}
end
end Go.Proofs.YteamnchoddegpaaGreatDoor
