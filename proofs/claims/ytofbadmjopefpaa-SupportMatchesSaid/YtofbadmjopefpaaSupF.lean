/- SupportNodes. -/
import Derived.Test.YtofbadmjopefpaaSupE
namespace Go.Proofs.Ytofbadmjopefpaa
open Go.RowKit Go.Maps
set_option maxHeartbeats 3200000

section
variable {w0 wr w' : World} {ts : List Thing} {F I : List Nat} {gb W room : Nat} {L : List PNode}
theorem Lab.vars_ok (h : Lab w0 wr (Thing.graph F I gb W room L :: ts)) (hg : GoodL W L) (v : Value) (us : List Int) (hv : SliceOf wr .i64 v us) (hn : us.length ≤ 900000000) (hin : InL L us) {os : List Int} (ho : varsO L (occS L us) = os) :
    Calls Try.prog 13 #[.pointer (some ⟨gb, 0, none⟩), v] wr fun e w' => ∃ a c, e = .returned (.tuple #[.slice a os.length c, .int .i64 0]) ∧ Lab w0 w' (Thing.ints (.slice a os.length c) os :: Thing.graph F I gb W room L :: ts) := by
  subst ho
  exact (h.vars hg v us hv hn).mono fun _ _ h => h.1 hin
theorem Lab.size_ok (h : Lab w0 wr (Thing.graph F I gb W room L :: ts)) (v : Value) (us : List Int) (hv : SliceOf wr .i64 v us) (hn : us.length ≤ 900000000) (hin : InL L us) {q : Nat} (ho : cntS L (occS L us) = q) :
    Calls Try.prog 14 #[.pointer (some ⟨gb, 0, none⟩), v] wr fun e w' => e = .returned (.tuple #[.int .i64 q, .int .i64 0]) ∧ Lab w0 w' (Thing.graph F I gb W room L :: ts) := by
  subst ho
  exact (h.sizeOf v us hv hn).mono fun _ _ h => h.1 hin
theorem Lab.vars_one (h : Lab w0 wr (Thing.graph F I gb W room L :: ts)) (hg : GoodL W L) {t : Nat} (ht : t < L.length) {os : List Int} (ho : varsO L (occS L [(t : Int)]) = os) :
    Calls Try.prog 13 #[.pointer (some ⟨gb, 0, none⟩), .slice (some ⟨wr.heap.size, 0, none⟩) 1 1] (wr.alloc (.cells #[.int .i64 t] 3)) fun e w' => ∃ a c, e = .returned (.tuple #[.slice a os.length c, .int .i64 0]) ∧ Lab w0 w' (Thing.ints (.slice a os.length c) os :: Thing.graph F I gb W room L :: ts) :=
  (h.later (below_new _ _)).vars_ok hg _ [(t : Int)] (sliceOf_new wr .i64 3 [(t : Int)] 1) (by simp) (fun u hu => by rw [List.mem_singleton.1 hu]; omega) ho
theorem Lab.size_one (h : Lab w0 wr (Thing.graph F I gb W room L :: ts)) {t : Nat} (ht : t < L.length) {q : Nat} (ho : cntS L (occS L [(t : Int)]) = q) :
    Calls Try.prog 14 #[.pointer (some ⟨gb, 0, none⟩), .slice (some ⟨wr.heap.size, 0, none⟩) 1 1] (wr.alloc (.cells #[.int .i64 t] 3)) fun e w' => e = .returned (.tuple #[.int .i64 q, .int .i64 0]) ∧ Lab w0 w' (Thing.graph F I gb W room L :: ts) :=
  (h.later (below_new _ _)).size_ok _ [(t : Int)] (sliceOf_new wr .i64 3 [(t : Int)] 1) (by simp) (fun u hu => by rw [List.mem_singleton.1 hu]; omega) ho
end
theorem occS_nil (L : List PNode) (i : Nat) : occS L [] i = false := by
  cases h : occS L [] i with
  | false => rfl
  | true => exact (occS_min (L := L) (ts := []) (C := fun _ => False) (fun _ h => h.elim) (fun _ h => by cases h) h).elim
theorem cntS_node {L : List PNode} (hw : WFL L) {t : Nat} {n : PNode} (hn : L[t]? = some n) : cntS L (occS L [(t : Int)]) = cntS L (occS L n.2.2) + 1 := by
  have ht := (List.getElem?_eq_some_iff.1 hn).1
  rw [occS_node hw ht, cntS_mark (occS_not hw) ht, argsOf_at hn]
theorem varsO_var {L : List PNode} (hw : WFL L) {t : Nat} {n : PNode} (hn : L[t]? = some n) (h1 : n.1 = 1) : varsO L (occS L [(t : Int)]) = [(n.2.1 : Int)] := by
  have ht := (List.getElem?_eq_some_iff.1 hn).1
  refine varsO_of ((List.perm_ext_iff_of_nodup (varsS_nodup hw) (by simp)).2 fun v => ?_) (by simp)
  rw [mem_varsS, List.mem_singleton, occS_node hw ht, argsOf_at hn]
  have e := var_node hw hn h1
  rw [show n.2.2 = [] by rw [e]]
  constructor
  · rintro ⟨j, m, hj, hm, -, rfl⟩
    unfold mark at hj
    split at hj
    · rename_i e2; subst e2; rw [hn] at hm; cases hm; rfl
    · rw [occS_nil] at hj; cases hj
  · rintro rfl
    exact ⟨t, n, mark_self, hn, h1, rfl⟩
theorem varsO_not {L : List PNode} (hw : WFL L) {t : Nat} {n : PNode} (hn : L[t]? = some n) (h1 : n.1 ≠ 1) : varsO L (occS L [(t : Int)]) = varsO L (occS L n.2.2) := by
  have ht := (List.getElem?_eq_some_iff.1 hn).1
  refine varsO_ext hw hw fun v => ?_
  rw [mem_varsO, mem_varsO, occS_node hw ht, argsOf_at hn]
  constructor
  · rintro ⟨j, m, hj, hm, h2, rfl⟩
    unfold mark at hj
    split at hj
    · rename_i e2; subst e2; rw [hn] at hm; cases hm; exact absurd h2 h1
    · exact ⟨j, m, hj, hm, h2, rfl⟩
  · rintro ⟨j, m, hj, hm, h2, rfl⟩
    exact ⟨j, m, mark_old hj, hm, h2, rfl⟩
theorem args_in {L : List PNode} (hw : WFL L) {t : Nat} {n : PNode} (hn : L[t]? = some n) : InL L n.2.2 := fun a ha => by
  have h1 := hw.args t n hn a ha
  have ht := (List.getElem?_eq_some_iff.1 hn).1
  omega
theorem args_short {L : List PNode} (hw : WFL L) {t : Nat} {n : PNode} (hn : L[t]? = some n) : n.2.2.length ≤ 3 := by
  rw [(hw.ok n (List.mem_of_getElem? hn)).2.2]; exact aryN_le _
set_option maxRecDepth 100000 in
theorem supportNodes_walk {w : World} (Wi : Int) (v : Value) (qs : List PAsk) (hv : AsksOf w v qs) (hq : qs.length ≤ 9223372036854775807) :
    Calls Try.prog 7 #[.int .i64 Wi, v] w fun e w' => e = .returned (.bool true) ∧ Below w.heap.size w w' := by
  obtain ⟨a, cap, rfl⟩ := hv.parts
  obtain ⟨n, hn⟩ : ∃ n, qs.length = n := ⟨_, rfl⟩
  rw [hn] at hv hq ⊢
  have hfill := fill_some Wi a n cap qs hv hq n (Nat.le_refl _)
  obtain ⟨W, hW⟩ : ∃ W, (Wi % 64).toNat + 1 = W := ⟨_, rfl⟩
  rw [hW] at hfill
  have HF := Lib.hid hfill
  clear hv hfill hn hW
  go_enter Try.func7, Try.ntmps7
  go_wp2_with fail
  go_at_call 21
  refine HF.out.mono ?_
  rintro e w1 ⟨gb, F, I, a', m, c, L, hL, -, hG, -, rfl, hlab⟩
  have HG := Lib.hid hG; have HL0 := Lib.hid hlab; have HWF := Lib.hid hlab.gr.wf
  clear hG hlab HF
  go_wp2
  go_loopw [7] (fun i wx => ∃ k : Nat, k ≤ L.length ∧ i = .int .i64 k ∧ Lab w wx [Thing.graph F I gb W 1048576 L]) (fun i _ => L.length - (intOf i).toNat)
  case atStart => exact ⟨0, by omega, rfl, HL0.out⟩
  case round =>
    clear HL0
    obtain ⟨k, hk, rfl, hl⟩ := hrel
    have HLEN := Lib.hid (len_any hl.gr)
    by_cases hlt : k < L.length
    · have hlt' : (k : Int) < (L.length : Int) := by omega
      obtain ⟨nd, hi⟩ : ∃ nd, L[k]? = some nd := ⟨_, List.getElem?_eq_getElem hlt⟩
      have hcn := cntS_node HWF.out hi
      have hcl := cntS_le (L := L) (S := occS L nd.2.2)
      obtain ⟨q, hq1⟩ : ∃ q, cntS L (occS L nd.2.2) = q := ⟨_, rfl⟩
      obtain ⟨os, hos⟩ : ∃ os, varsO L (occS L nd.2.2) = os := ⟨_, rfl⟩
      obtain ⟨xs, hxs⟩ : ∃ xs, varsO L (occS L [(k : Int)]) = xs := ⟨_, rfl⟩
      have hxl : xs.length ≤ 120 := by rw [← hxs]; exact Nat.le_trans varsO_len hL
      have hol : os.length ≤ 120 := by rw [← hos]; exact Nat.le_trans varsO_len hL
      rw [hq1] at hcn hcl
      have HI := Lib.hid hi; have HL := Lib.hid hl; have HCN := Lib.hid hcn; have HQ := Lib.hid hq1; have HOS := Lib.hid hos; have HXS := Lib.hid hxs
      clear hi hl hcn hq1 hos hxs
      go_wp2_with (go_at_call 25; refine HLEN.out.mono ?_; rintro e w2 ⟨rfl, rfl⟩)
      go_at_call 23
      refine (HL.out.node_at k nd HI.out).mono ?_
      rintro e w6 ⟨aa, am, ac, rfl, hl6⟩
      obtain ⟨p, hp⟩ : ∃ p, w6.heap.size = p := ⟨_, rfl⟩
      have hl7 := hl6.alloc #[.int .u8 nd.1, .int .u64 nd.2.1, .slice aa am ac] 54
      rw [hp] at hl7
      have HL7 := Lib.hid hl7.swap
      clear hl6 hl7 HL HLEN
      go_upto_region 8 with fail
      clear hp
      refine wp_abs (fun w7 => Lab w w7 [Thing.graph F I gb W 1048576 L, Thing.box p 54 #[.int .u8 nd.1, .int .u64 nd.2.1, .slice aa am ac], Thing.ints (.slice aa am ac) nd.2.2]) HL7.out ?_
      clear HL7
      rintro w7 hl7
      have HL7 := Lib.hid hl7
      clear hl7
      go_wp2_with fail
      go_at_call 14
      refine (HL7.out.size_one hlt HCN.out).mono ?_
      rintro e w8 ⟨rfl, hl8⟩
      obtain ⟨x0, x1, x2⟩ := cells3 hl8.box2
      have HL8 := Lib.hid hl8
      clear hl8 HL7 x0 x1
      go_wp2_with fail
      go_at_call 14
      refine (HL8.out.size_ok _ nd.2.2 (OwnInts.slice HL8.out.third) (by have := args_short HWF.out HI.out; omega) (args_in HWF.out HI.out) HQ.out).mono ?_
      rintro e w9 ⟨rfl, hl9⟩
      have HL9 := Lib.hid hl9
      clear hl9 HL8 x2
      go_wp2_with fail
      go_at_call 13
      refine (HL9.out.vars_one HG.out hlt HXS.out).mono ?_
      rintro e w10 ⟨xa, xc, rfl, hl10⟩
      obtain ⟨x0, x1, x2⟩ := cells3 hl10.box3
      have HL10 := Lib.hid hl10.swap
      clear hl10 HL9 x0 x1
      go_wp2_with fail
      go_at_call 13
      refine (HL10.out.vars_ok HG.out _ nd.2.2 (OwnInts.slice HL10.out.fourth) (by have := args_short HWF.out HI.out; omega) (args_in HWF.out HI.out) HOS.out).mono ?_
      rintro e w11 ⟨ya, yc, rfl, hl11⟩
      obtain ⟨x0, x1, x2⟩ := cells3 hl11.rot4.box1
      have hq1 : IntKind.i64.wrap ((q : Int) + 1) = (q : Int) + 1 := by simp [IntKind.wrap, IntKind.bits, IntKind.signed]; omega
      have hgood := HG.out nd (List.mem_of_getElem? HI.out)
      by_cases h1 : nd.1 = 1
      · have hb : (nd.2.1 : Int) ≤ 4194303 := by unfold NodeGood at hgood; omega
        have h1' : ((nd.1 : Int) == 1) = true := by rw [h1]; rfl
        have hxv : xs = [(nd.2.1 : Int)] := HXS.out.symm.trans (varsO_var HWF.out HI.out h1)
        have HL11 := Lib.hid hl11; have HXV := Lib.hid hxv
        have heq := equalInts_any (w := w11.alloc (.cells #[.int .i64 (nd.2.1 : Int)] 3)) (.slice xa xs.length xc) (.slice (some ⟨w11.heap.size, 0, none⟩) 1 1) xs [(nd.2.1 : Int)] (OwnInts.slice (hl11.later (below_new _ _)).third) (sliceOf_new w11 .i64 3 [(nd.2.1 : Int)] 1) (by omega) (by simp)
        rw [decide_eq_true hxv] at heq
        have HEQ := Lib.hid heq
        clear hl11 hxv heq hgood HL10
        go_wp2_with (go_at_call 20; refine HEQ.out.mono ?_; rintro e w12 ⟨rfl, hb12⟩)
        have HL12 := Lib.hid ((HL11.out.later (below_new _ _)).later hb12)
        clear hb12
        go_roundw
        case rel => exact ⟨k + 1, by omega, by go_num, HL12.out.subl (.cons _ (.cons_cons _ (List.nil_sublist _)))⟩
        case measure => simp [intOf]; omega
      · have h1' : ((nd.1 : Int) == 1) = false := by rw [beq_eq_false_iff_ne]; omega
        have hxv : xs = os := HXS.out.symm.trans ((varsO_not HWF.out HI.out h1).trans HOS.out)
        have HL11 := Lib.hid hl11; have HXV := Lib.hid hxv
        have heq := equalInts_any (w := w11) (.slice xa xs.length xc) (.slice ya os.length yc) xs os (OwnInts.slice hl11.third) (OwnInts.slice hl11.ints) (by omega) (by omega)
        rw [decide_eq_true hxv] at heq
        have HEQ := Lib.hid heq
        clear hl11 hxv heq hgood HL10
        go_wp2_with (go_at_call 20; refine HEQ.out.mono ?_; rintro e w12 ⟨rfl, hb12⟩)
        have HL12 := Lib.hid (HL11.out.later hb12)
        clear hb12
        go_roundw
        case rel => exact ⟨k + 1, by omega, by go_num, HL12.out.subl (.cons _ (.cons_cons _ (List.nil_sublist _)))⟩
        case measure => simp [intOf]; omega
    · obtain rfl : k = L.length := by omega
      have hlt' : ¬ (L.length : Int) < (L.length : Int) := by omega
      have HAW := Lib.hid hl.awake14
      clear hl
      go_wp2_with (go_at_call 25; refine HLEN.out.mono ?_; rintro e w2 ⟨rfl, rfl⟩)
      go_at_call 15
      refine HAW.out.mono ?_
      rintro e w2 ⟨rfl, hb⟩
      go_wp2
      go_ret
      exact ⟨rfl, hb⟩
end Go.Proofs.Ytofbadmjopefpaa
