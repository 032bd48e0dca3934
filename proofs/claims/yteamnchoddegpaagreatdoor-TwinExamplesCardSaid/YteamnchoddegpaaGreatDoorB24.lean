/- TwL: joined by wip/bundle.py. -/
import Derived.Test.YteamnchoddegpaaGreatDoorB1
import Derived.Test.YteamnchoddegpaaGreatDoorB2
import Derived.Test.YteamnchoddegpaaGreatDoorB3
import Derived.Test.YteamnchoddegpaaGreatDoorB4
import Derived.Test.YteamnchoddegpaaGreatDoorB5
import Derived.Test.YteamnchoddegpaaGreatDoorB6
import Derived.Test.YteamnchoddegpaaGreatDoorB7
import Derived.Test.YteamnchoddegpaaGreatDoorB8
import Derived.Test.YteamnchoddegpaaGreatDoorB9
import Derived.Test.YteamnchoddegpaaGreatDoorB10
import Derived.Test.YteamnchoddegpaaGreatDoorB11
import Derived.Test.YteamnchoddegpaaGreatDoorB12
import Derived.Test.YteamnchoddegpaaGreatDoorB13
import Derived.Test.YteamnchoddegpaaGreatDoorB14
import Derived.Test.YteamnchoddegpaaGreatDoorB15
import Derived.Test.YteamnchoddegpaaGreatDoorB16
import Derived.Test.YteamnchoddegpaaGreatDoorB17
import Derived.Test.YteamnchoddegpaaGreatDoorB18
import Derived.Test.YteamnchoddegpaaGreatDoorB19
import Derived.Test.YteamnchoddegpaaGreatDoorB20
import Derived.Test.YteamnchoddegpaaGreatDoorB21
import Derived.Test.YteamnchoddegpaaGreatDoorB22
import Derived.Test.YteamnchoddegpaaGreatDoorB23
import Derived.OrdersHeld
import Derived.StillTail
import Derived.Deep.RegionHeld3
import Derived.Laws.EntriesVeiled
namespace Go.Proofs.YteamnchoddegpaaGreatDoor
open Go.RowKit Go.Maps
set_option maxHeartbeats 3200000
section
variable {w w1 w0 wr : World} {ts : List Thing}
noncomputable def termsRest (id : Nat) : Code := (Tryz.f3.body.bind (tailAt id)).getD .skip
/-- What the walk leans on from region 9 on. -/
structure TermsIn (w w1 : World) (lb xb nl : Nat) (R : Rel) (v5 v7 : Value) (ls vals : List Int) : Prop where
  below : Below w.heap.size w w1
  tab : TabOk w
  lat : LatIs w1 lb nl R
  mat : MatIs w1 xb nl R
  levels : SliceOf w1 .i64 v5 ls
  valsIn : SliceOf w1 .u64 v7 vals
  u64 : U64s vals
  len : vals.length ≤ 60
set_option maxRecDepth 100000 in
theorem terms_rest9 {u0 u1 u2 u3 u8 u9 u10 u11 u12 u13 u14 u15 u16 u19 u22 u23 u24 u25 u26 u27 u28 u29 u30 u31 u32 u33 u34 u35 u36 u37 u38 u39 u40 u41 u42 u43 u44 u45 u46 u47 u48 u49 u50 u51 u52 u53 u54 u55 u56 u57 u58 u59 u60 u61 u62 u63 u64 u65 u66 u67 u68 u69 u70 u71 u72 u73 u74 u75 u76 u77 u78 u79 u80 u81 u82 u83 u84 u85 u86 u87 u88 u89 u90 u91 u92 u93 u94 u95 u96 u97 u98 u99 u100 u101 u102 u103 u104 u105 u106 u107 u108 u109 u110 u111 u112 u113 u114 u115 u116 u117 u118 u119 u120 u121 u122 u123 u124 u125 u126 u127 u128 u129 u130 u131 u132 u133 u134 u135 u136 u137 u138 u139 u140 u141 u142 u143 u144 u145 u146 u147 u148 u149 u150 u151 u152 u153 u154 u155 u156 u157 u158 u159 u160 u161 u162 u163 u164 u165 : Value} {lb xb nl gb rb W : Nat} {R : Rel} {v5 v7 : Value} {ls vals : List Int} {F I F' I' : List Nat} {L : List PNode} {level t : Int} (hin : TermsIn w w1 lb xb nl R v5 v7 ls vals) (hok : RawOk W 30 L) (h1 : 1 ≤ W) (hW : W ≤ 64)
    (hl : Lab w1 wr [Thing.graph F I gb W 1000 L, Thing.rgraph F' I' rb W 1000 L]) :
    Code.wp Tryz.prog (termsRest 9) (bodyPost Tryz.prog Tryz.f3 (fun e w' => e = .returned (.bool true) ∧ Below w.heap.size w w')) ⟨(List.toArray (u0 :: u1 :: u2 :: u3 :: .int .i64 level :: v5 :: .int .i64 t :: v7 :: u8 :: u9 :: u10 :: u11 :: u12 :: u13 :: u14 :: u15 :: u16 :: .pointer (some ⟨lb, 0, none⟩) :: .pointer (some ⟨xb, 0, none⟩) :: u19 :: .pointer (some ⟨gb, 0, none⟩) :: .pointer (some ⟨rb, 0, none⟩) :: u22 :: u23 :: u24 :: u25 :: u26 :: u27 :: u28 :: u29 :: u30 :: u31 :: u32 :: u33 :: u34 :: u35 :: u36 :: u37 :: u38 :: u39 :: u40 :: u41 :: u42 :: u43 :: u44 :: u45 :: u46 :: u47 :: u48 :: u49 :: u50 :: u51 :: u52 :: u53 :: u54 :: u55 :: u56 :: u57 :: u58 :: u59 :: u60 :: u61 :: u62 :: u63 :: u64 :: u65 :: u66 :: u67 :: u68 :: u69 :: u70 :: u71 :: u72 :: u73 :: u74 :: u75 :: u76 :: u77 :: u78 :: u79 :: u80 :: u81 :: u82 :: u83 :: u84 :: u85 :: u86 :: u87 :: u88 :: u89 :: u90 :: u91 :: u92 :: u93 :: u94 :: u95 :: u96 :: u97 :: u98 :: u99 :: u100 :: u101 :: u102 :: u103 :: u104 :: u105 :: u106 :: u107 :: u108 :: u109 :: u110 :: u111 :: u112 :: u113 :: u114 :: u115 :: u116 :: u117 :: u118 :: u119 :: u120 :: u121 :: u122 :: u123 :: u124 :: u125 :: u126 :: u127 :: u128 :: u129 :: u130 :: u131 :: u132 :: u133 :: u134 :: u135 :: u136 :: u137 :: u138 :: u139 :: u140 :: u141 :: u142 :: u143 :: u144 :: u145 :: u146 :: u147 :: u148 :: u149 :: u150 :: u151 :: u152 :: u153 :: u154 :: u155 :: u156 :: u157 :: u158 :: u159 :: u160 :: u161 :: u162 :: u163 :: u164 :: u165 :: [])), []⟩ wr := by
  obtain ⟨a5, n5, c5, rfl, -, -⟩ := hin.levels.parts
  obtain ⟨a7, n7, c7, rfl, -, -⟩ := hin.valsIn.parts
  have HI := Lib.hid hin
  have hawk : ∀ wx, Below w1.heap.size w1 wx → Calls Tryz.prog 7 #[] wx fun e w' => e = .returned (.bool true) ∧ Below w.heap.size w w' := fun wx hb => by
    have hb2 := hin.below.trans (hb.mono hin.below.size)
    exact (awake35_any wx (hin.tab.later hb2)).mono fun e w' ⟨he, h⟩ => ⟨he, hb2.trans (h.mono hb2.size)⟩
  have hchk : ∀ wx, Below w1.heap.size w1 wx → Calls Tryz.prog 11 #[.pointer (some ⟨xb, 0, none⟩), .int .i64 level, .slice a5 n5 c5] wx fun e w' => e = .returned (.int .i64 (mayE nl level ls)) ∧ Below wx.heap.size wx w' := fun wx hb => check35_any (hin.mat.later hb) level (hin.levels.later hb)
  have HA := Lib.hid hawk; have HC := Lib.hid hchk; have HL := Lib.hid hl; have HOK := Lib.hid hok
  clear hin hawk hchk hl hok
  by_cases hm : mayE nl level ls = 0
  · by_cases hin : InL L [t]
    · obtain ⟨t, rfl⟩ : ∃ k : Nat, t = (k : Int) := ⟨t.toNat, by have := hin t (by simp); omega⟩
      have ht : t < L.length := by have := hin (t : Int) (by simp); omega
      obtain ⟨all, hall⟩ : ∃ all, varsO L (occS L [(t : Int)]) = all := ⟨_, rfl⟩
      have hpos : ∀ v ∈ all, 0 ≤ v := fun v hv => by
        rw [← hall, mem_varsO] at hv
        obtain ⟨j, n, -, -, -, e⟩ := hv
        omega
      have halln : all.length ≤ 30 := by have h1 := varsO_len (L := L) (S := occS L [(t : Int)]); rw [hall] at h1; have := HOK.out.len; omega
      have HALL := Lib.hid hall; have HIN := Lib.hid hin; have HP := Lib.hid (And.intro hpos halln)
      rw [hm] at HC
      by_cases hev : ∀ v ∈ all, v % 2 = 0 ∧ v ≤ 4194302
      · have hT := HL.out.term_ok HI.out.lat HI.out.levels hm HOK.out.good ht (by rw [hall]; exact hev) (by have := HOK.out.len; omega) (by have := HOK.out.len; omega)
        rw [hall] at hT
        have hodd : oddL all = false := List.any_eq_false.2 fun v hv => by simp only [decide_eq_true_eq]; have := hev v hv; omega
        have hsec : ∀ v : Nat, (v : Int) ∈ all → valAt (secL nl R level ls vals) v = valAt vals (ofR nl R level ls (v : Int)).toNat := fun v hv => secL_at hm (hev v hv).1 (hev v hv).2
        have HT := Lib.hid hT; have HODD := Lib.hid hodd; have HSEC := Lib.hid hsec
        clear hm hT hodd hsec hall hpos halln hin hev
        conv => arg 2; whnf
        go_wp2_with fail
        go_at_call 10
        refine HT.out.mono ?_
        rintro e w2 ⟨L2, s, F2, I2, rfl, hl2, -, -, -, hs2, hval⟩
        have HL2 := Lib.hid hl2; have HV := Lib.hid (And.intro hs2 (hval vals (secL nl R level ls vals) HSEC.out))
        clear hl2 hs2 hval HT
        go_wp2_with fail
        go_at_call 11
        refine (HC.out _ HL2.out.below).mono ?_
        rintro e w3 ⟨rfl, hb3⟩
        have hl3 := HL2.out.later hb3
        have hl4 := (hl3.alloc #[.int .i64 (t : Int)] 3).rot3
        have hr := hl4.rvarsT HOK.out.good (.slice (some ⟨w3.heap.size, 0, none⟩) 1 1) [(t : Int)] (fun wx h => slice_of_box (xs := [(t : Int)]) h.box1) (by simp)
        rw [HALL.out] at hr
        have HRV := Lib.hid hr
        clear hl3 hl4 hb3 hr HL2
        go_wp2_with fail
        go_at_call 12
        refine HRV.out.mono ?_
        rintro e w4 ⟨h4, -⟩
        obtain ⟨a4, c4, rfl, hl5⟩ := h4 HIN.out
        have hodd := odd_any (OwnInts.slice hl5.ints) HP.out.1 (by have := HP.out.2; omega)
        rw [HODD.out] at hodd
        have HL5 := Lib.hid hl5; have HOD := Lib.hid hodd
        clear h4 hl5 hodd HRV
        go_wp2_with fail
        go_at_call 13
        refine HOD.out.mono ?_
        rintro e w5 ⟨rfl, rfl⟩
        have hev2 : evalR W vals L2 ((s : Nat) : Int) = (val W vals L2 s, 0) := by unfold evalR; rw [if_pos ⟨by omega, by have := HV.out.1; omega⟩, Int.toNat_natCast]
        have hE := HL5.out.rot4.eval ((s : Nat) : Int) vals (.slice a7 n7 c7) (HI.out.valsIn.later HL5.out.below) (by have := HI.out.len; omega) HI.out.u64 hev2
        have HE := Lib.hid hE
        clear hev2 hE HL5 HOD
        go_wp2_with fail
        go_at_call 14
        refine HE.out.mono ?_
        rintro e w6 ⟨rfl, hl6⟩
        have hS := hl6.second_vals HI.out.mat HI.out.levels HI.out.valsIn (level := level) (by have := HI.out.len; omega)
        have HS := Lib.hid hS
        clear hl6 hS HE
        go_wp2_with fail
        go_at_call 16
        refine HS.out.mono ?_
        rintro e w7 ⟨a7', c7', rfl, hl7⟩
        have hev3 : evalR W (secL nl R level ls vals) L (t : Int) = (val W vals L2 s, 0) := by unfold evalR; rw [if_pos ⟨by omega, by have := ht; omega⟩, Int.toNat_natCast, ← HV.out.2]
        have hRE := reval_any hl7.fourth (t : Int) (secL nl R level ls vals) _ (OwnInts.slice hl7.head) (by unfold secL; rw [List.length_map, List.length_range]; have := HI.out.len; omega) (secL_u64 HI.out.u64)
        rw [hev3] at hRE
        have HRE := Lib.hid hRE; have HL7 := Lib.hid hl7
        obtain ⟨X, hX⟩ : ∃ X, val W vals L2 s = X := ⟨_, rfl⟩
        rw [hX] at HRE ⊢
        clear hev3 hRE hl7 hX HS HV
        go_wp2_with fail
        go_at_call 15
        refine HRE.out.mono ?_
        rintro e w8 ⟨rfl, hb8⟩
        have HL8 := Lib.hid (HL7.out.later hb8)
        clear hb8 HRE HL7
        go_wp2_with fail
        go_at_call 7
        refine (HA.out _ HL8.out.below).mono ?_
        rintro e w9 ⟨rfl, hb9⟩
        go_wp2
        go_ret
        exact ⟨rfl, hb9⟩
      · have hT := HL.out.term_odd HI.out.lat HI.out.levels hm HOK.out.good (t : Int) hin (by rw [hall]; exact hev) (by have := HOK.out.len; omega)
        have hodd : oddL all = true := by
          cases ho : oddL all with
          | true => rfl
          | false => exact absurd (oddL_not ho hpos) hev
        have HT := Lib.hid hT; have HODD := Lib.hid hodd
        clear hm hT hodd hall hpos halln hin hev
        conv => arg 2; whnf
        go_wp2_with fail
        go_at_call 10
        refine HT.out.mono ?_
        rintro e w2 ⟨rfl, hl2⟩
        have HL2 := Lib.hid hl2
        clear hl2 HT
        go_wp2_with fail
        go_at_call 11
        refine (HC.out _ HL2.out.below).mono ?_
        rintro e w3 ⟨rfl, hb3⟩
        have hl3 := HL2.out.later hb3
        have hl4 := (hl3.alloc #[.int .i64 (t : Int)] 3).rot3
        have hr := hl4.rvarsT HOK.out.good (.slice (some ⟨w3.heap.size, 0, none⟩) 1 1) [(t : Int)] (fun wx h => slice_of_box (xs := [(t : Int)]) h.box1) (by simp)
        rw [HALL.out] at hr
        have HRV := Lib.hid hr
        clear hl3 hl4 hb3 hr HL2
        go_wp2_with fail
        go_at_call 12
        refine HRV.out.mono ?_
        rintro e w4 ⟨h4, -⟩
        obtain ⟨a4, c4, rfl, hl5⟩ := h4 HIN.out
        have hodd := odd_any (OwnInts.slice hl5.ints) HP.out.1 (by have := HP.out.2; omega)
        rw [HODD.out] at hodd
        have HL5 := Lib.hid hl5; have HOD := Lib.hid hodd
        clear h4 hl5 hodd HRV
        go_wp2_with fail
        go_at_call 13
        refine HOD.out.mono ?_
        rintro e w5 ⟨rfl, rfl⟩
        go_wp2_with fail
        go_at_call 7
        refine (HA.out _ HL5.out.below).mono ?_
        rintro e w9 ⟨rfl, hb9⟩
        go_wp2
        go_ret
        exact ⟨rfl, hb9⟩
    · have hT := HL.out.term_out HI.out.lat HI.out.levels hm HOK.out.good t hin
      rw [hm] at HC
      have HT := Lib.hid hT; have HIN := Lib.hid hin
      clear hm hT hin
      conv => arg 2; whnf
      go_wp2_with fail
      go_at_call 10
      refine HT.out.mono ?_
      rintro e w2 ⟨rfl, hl2⟩
      have HL2 := Lib.hid hl2
      clear hl2 HT
      go_wp2_with fail
      go_at_call 11
      refine (HC.out _ HL2.out.below).mono ?_
      rintro e w3 ⟨rfl, hb3⟩
      have hl3 := HL2.out.later hb3
      have hl4 := (hl3.alloc #[.int .i64 t] 3).rot3
      have hr := hl4.rvarsT HOK.out.good (.slice (some ⟨w3.heap.size, 0, none⟩) 1 1) [t] (fun wx h => slice_of_box (xs := [t]) h.box1) (by simp)
      have HRV := Lib.hid hr
      clear hl3 hl4 hb3 hr HL2
      go_wp2_with fail
      go_at_call 12
      refine HRV.out.mono ?_
      rintro e w4 ⟨-, h4⟩
      obtain ⟨rfl, hl5⟩ := h4 HIN.out
      have HL5 := Lib.hid hl5
      clear h4 hl5 HRV
      go_wp2_with fail
      go_at_call 7
      refine (HA.out _ HL5.out.below).mono ?_
      rintro e w9 ⟨rfl, hb9⟩
      go_wp2
      go_ret
      exact ⟨rfl, hb9⟩
  · have hm3 := (may_cases nl level ls).resolve_left hm
    have hT := HL.out.term_may HI.out.lat HI.out.levels hm t
    rw [hm3] at HC
    have HT := Lib.hid hT
    clear hm hm3 hT
    conv => arg 2; whnf
    go_wp2_with fail
    go_at_call 10
    refine HT.out.mono ?_
    rintro e w2 ⟨rfl, hl2⟩
    have HL2 := Lib.hid hl2
    clear hl2 HT
    go_wp2_with fail
    go_at_call 11
    refine (HC.out _ HL2.out.below).mono ?_
    rintro e w3 ⟨rfl, hb3⟩
    have HL3 := Lib.hid (HL2.out.later hb3)
    clear hb3
    go_wp2_with fail
    go_at_call 7
    refine (HA.out _ HL3.out.below).mono ?_
    rintro e w4 ⟨rfl, hb4⟩
    go_wp2
    go_ret
    exact ⟨rfl, hb4⟩
set_option maxRecDepth 100000 in
theorem twinTerms_walk (Wi nI lv t : Int) (v1 v3 v5 v7 : Value) (w : World) (hT : TabOk w) (rs : List RawN) (hr : RawsOf w v1 rs) (os : List (Int × Int)) (hv : PairsOf w v3 os) (hn : os.length ≤ 9223372036854775807)
    (ls : List Int) (hs : SliceOf w .i64 v5 ls) (vals : List Int) (hvs : SliceOf w .u64 v7 vals) (hu : U64s vals) :
    Calls Tryz.prog 3 #[.int .i64 Wi, v1, .int .i64 nI, v3, .int .i64 lv, v5, .int .i64 t, v7] w fun e w' => e = .returned (.bool true) ∧ Below w.heap.size w w' := by
  have H2 := Lib.hid (lattices_any (Below.refl _ w) nI v3 os hv hn hT)
  have HR := Lib.hid hr
  obtain ⟨a1, n1, c1, rfl, hl1, -⟩ := hr
  obtain ⟨a3, n3, c3, rfl, -, -⟩ := hv
  have HS := Lib.hid (And.intro hs (And.intro hvs hu))
  obtain ⟨a5, n5, c5, rfl, -, -⟩ := hs.parts
  obtain ⟨a7, n7, c7, rfl, hl7, -⟩ := hvs.parts
  have H1 := Lib.hid (few_any w a3 a5 n3 c3 n5 c5)
  have HT := Lib.hid hT
  have HA0 := Lib.hid (awake35_any w hT)
  have HLN := Lib.hid (And.intro hl1 hl7)
  clear hs hvs hu hn hT hl1 hl7
  by_cases hok : (n3 ≤ 30 ∧ n5 ≤ 40) ∧ n1 ≤ 30 ∧ n7 ≤ 60
  · obtain ⟨hf, h30, h60⟩ := hok
    rw [decide_eq_true hf] at H1
    have i1 : ¬ (30 : Int) < (n1 : Int) := by omega
    have i7 : ¬ (60 : Int) < (n7 : Int) := by omega
    have HN30 := Lib.hid (And.intro h30 h60)
    clear hf HA0 h30 h60
    by_cases he : latE nI os = 0
    · replace H2 := Lib.hid (H2.out.mono fun e w' h => h.1 he)
      clear he
      by_cases hW : 1 ≤ Wi ∧ Wi ≤ 64
      · obtain ⟨hW1, hW2⟩ := hW
        go_enter Tryz.func3, Tryz.ntmps3
        go_wp2_with fail
        go_at_call 6
        refine H1.out.mono ?_
        rintro e w1 ⟨rfl, rfl⟩
        go_wp2_with fail
        go_at_call 8
        refine H2.out.mono ?_
        rintro e w1 ⟨lb, xb, rfl, hl, hm, hb⟩
        obtain ⟨nl, hnl⟩ : ∃ nl, nI.toNat = nl := ⟨_, rfl⟩
        rw [hnl] at hl hm
        have HI := Lib.hid (TermsIn.mk hb HT.out hl hm (HS.out.1.later hb) (HS.out.2.1.later hb) HS.out.2.2 (by have := HLN.out.2; have := HN30.out.2; omega))
        have hG := (Lab.nil (Below.refl _ w1)).graphs Wi hW1 hW2 _ rs (HR.out.later hb) (by have := HLN.out.1; have := HN30.out.1; omega)
        have hrok := rawsL_ok (W := Wi.toNat) (room := 1000) (by omega) HR.out.ok (by have := HLN.out.1; have := HN30.out.1; omega) rs.length (Nat.le_refl _)
        rw [List.take_length] at hrok
        have hrok30 : RawOk Wi.toNat 30 (rawsL Wi.toNat 1000 rs) := ⟨hrok.1.wf, hrok.1.good, hrok.1.vars, Nat.le_trans hrok.1.len (by have := HLN.out.1; have := HN30.out.1; omega)⟩
        have HG := Lib.hid hG; have HROK := Lib.hid hrok30
        clear hl hm hb hnl hG hrok hrok30 H1 H2
        go_wp2_with fail
        go_at_call 9
        refine HG.out.mono ?_
        rintro e w2 ⟨gb, rb, F, I, F', I', rfl, hl2⟩
        have HL2 := Lib.hid hl2
        clear hl2 HG
        go_upto_if 64 with fail
        go_cut [16] (fun _ wx => w2 = wx)
        case first =>
          go_wp2
          go_meet
          rfl
        case rest =>
          obtain rfl := hcut
          exact (show ∀ (a : Act) (w : World), Code.wp Tryz.prog (termsRest 9) _ a w → _ by assumption) _ _ (terms_rest9 HI.out HROK.out (by omega) (by omega) HL2.out)
      · have hWc : Wi < 1 ∨ (¬ Wi < 1 ∧ 64 < Wi) := by omega
        have hgb := fun wx => graphs_bad wx Wi (.slice a1 n1 c1) hW
        have HGB := Lib.hid hgb
        clear hW hgb
        rcases hWc with hw1 | ⟨hw1, hw2⟩
        all_goals
          go_enter Tryz.func3, Tryz.ntmps3
          go_wp2_with fail
          go_at_call 6
          refine H1.out.mono ?_
          rintro e w1 ⟨rfl, rfl⟩
          go_wp2_with fail
          go_at_call 8
          refine H2.out.mono ?_
          rintro e w1 ⟨lb, xb, rfl, -, -, hb⟩
          have HB := Lib.hid hb
          clear hb
          go_wp2_with fail
          go_at_call 9
          refine (HGB.out _).mono ?_
          rintro e w2 ⟨rfl, rfl⟩
          have hb2 := HB.out
          have HB2 := Lib.hid hb2
          have HA := Lib.hid (awake35_any w1 (HT.out.later hb2))
          clear hb2
          go_wp2_with fail
          go_at_call 7
          refine HA.out.mono ?_
          rintro e w3 ⟨rfl, hb3⟩
          go_wp2
          go_ret
          exact ⟨rfl, HB2.out.trans (hb3.mono HB2.out.size)⟩
    · replace H2 := Lib.hid (H2.out.mono fun e w' h => h.2 he)
      clear he
      by_cases hW : 1 ≤ Wi ∧ Wi ≤ 64
      · have hgg := fun wx (hb : Below w.heap.size w wx) => (Lab.nil (Below.refl _ wx)).graphs Wi hW.1 hW.2 _ rs (HR.out.later hb) (by have := HLN.out.1; have := HN30.out.1; omega)
        have HGG := Lib.hid hgg
        clear hW hgg
        go_enter Tryz.func3, Tryz.ntmps3
        go_wp2_with fail
        go_at_call 6
        refine H1.out.mono ?_
        rintro e w1 ⟨rfl, rfl⟩
        go_wp2_with fail
        go_at_call 8
        refine H2.out.mono ?_
        rintro e w1 ⟨rfl, hb⟩
        have HB := Lib.hid hb
        clear hb
        go_wp2_with fail
        go_at_call 9
        refine (HGG.out _ HB.out).mono ?_
        rintro e w2 ⟨gb, rb, F, I, F', I', rfl, hl2⟩
        have hb2 := HB.out.trans (hl2.below.mono HB.out.size)
        clear hl2
        have HB2 := Lib.hid hb2
        have HA := Lib.hid (awake35_any w2 (HT.out.later hb2))
        clear hb2
        go_wp2_with fail
        go_at_call 7
        refine HA.out.mono ?_
        rintro e w3 ⟨rfl, hb3⟩
        go_wp2
        go_ret
        exact ⟨rfl, HB2.out.trans (hb3.mono HB2.out.size)⟩
      · have hgb := fun wx => graphs_bad wx Wi (.slice a1 n1 c1) hW
        have HGB := Lib.hid hgb
        clear hW hgb
        go_enter Tryz.func3, Tryz.ntmps3
        go_wp2_with fail
        go_at_call 6
        refine H1.out.mono ?_
        rintro e w1 ⟨rfl, rfl⟩
        go_wp2_with fail
        go_at_call 8
        refine H2.out.mono ?_
        rintro e w1 ⟨rfl, hb⟩
        have HB := Lib.hid hb
        clear hb
        go_wp2_with fail
        go_at_call 9
        refine (HGB.out _).mono ?_
        rintro e w2 ⟨rfl, rfl⟩
        have hb2 := HB.out
        have HB2 := Lib.hid hb2
        have HA := Lib.hid (awake35_any w1 (HT.out.later hb2))
        clear hb2
        go_wp2_with fail
        go_at_call 7
        refine HA.out.mono ?_
        rintro e w3 ⟨rfl, hb3⟩
        go_wp2
        go_ret
        exact ⟨rfl, HB2.out.trans (hb3.mono HB2.out.size)⟩
  · have main : ¬ (n3 ≤ 30 ∧ n5 ≤ 40) ∨ ((n3 ≤ 30 ∧ n5 ≤ 40) ∧ ((30 : Int) < (n1 : Int) ∨ (¬ (30 : Int) < (n1 : Int) ∧ (60 : Int) < (n7 : Int)))) := by omega
    clear hok H2 HS HT HLN HR
    rcases main with hf | ⟨hf, h2 | ⟨h2, h3⟩⟩
    · rw [decide_eq_false hf] at H1
      clear hf
      go_enter Tryz.func3, Tryz.ntmps3
      go_wp2_with (first | (go_at_call 6; refine H1.out.mono ?_; rintro e w1 ⟨rfl, rfl⟩) | (go_at_call 7; refine HA0.out.mono ?_; rintro e w2 ⟨rfl, hb⟩))
      go_ret
      exact ⟨rfl, hb⟩
    all_goals
      rw [decide_eq_true hf] at H1
      clear hf
      go_enter Tryz.func3, Tryz.ntmps3
      go_wp2_with (first | (go_at_call 6; refine H1.out.mono ?_; rintro e w1 ⟨rfl, rfl⟩) | (go_at_call 7; refine HA0.out.mono ?_; rintro e w2 ⟨rfl, hb⟩))
      go_ret
      exact ⟨rfl, hb⟩
end
end Go.Proofs.YteamnchoddegpaaGreatDoor
