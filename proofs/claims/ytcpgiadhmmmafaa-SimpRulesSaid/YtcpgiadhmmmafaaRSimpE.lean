/- The reference's simple terms: App. -/
import Derived.Test.YtcpgiadhmmmafaaRSimpD
import Derived.Test.YtcpgiadhmmmafaaRefX
namespace Go.Proofs.Ytcpgiadhmmmafaa
open Go.RowKit Go.Maps
set_option maxHeartbeats 1600000

section
variable {w wr : World} {base : Nat} {F I : List Nat} {rb W room : Nat} {L : List PNode}
/-- The numbers among terms. -/
def numsOf (L : List PNode) (xs : List Int) : List Int := xs.filterMap fun t => (numOf L t).map fun q : Nat => (q : Int)
theorem numsOf_len (xs : List Int) : (numsOf L xs).length ≤ xs.length := List.length_filterMap_le _ _
theorem numsOf_snoc {xs : List Int} {k : Nat} {t : Int} (h : xs[k]? = some t) : numsOf L (xs.take (k + 1)) = numsOf L (xs.take k) ++ (if isNum L t = true then [(numD L t : Int)] else []) := by
  rw [← take_snoc' h]
  unfold numsOf isNum numD
  rw [List.filterMap_append]
  congr 1
  cases hn : numOf L t with
  | none => simp [hn]
  | some q => simp [hn]
theorem numsOf_all {xs : List Int} (h : ∀ t ∈ xs, isNum L t = true) : numsOf L xs = xs.map fun t => (numD L t : Int) := by
  induction xs with
  | nil => rfl
  | cons t xs ih =>
    have h1 := isNum_some (h t (by simp))
    unfold numsOf
    rw [List.filterMap_cons, h1]
    show (numD L t : Int) :: numsOf L xs = _
    rw [ih fun u hu => h u (by simp [hu])]
    rfl
theorem numsOf_full {xs : List Int} : (numsOf L xs).length = xs.length ↔ ∀ t ∈ xs, isNum L t = true := by
  constructor
  · intro h
    induction xs with
    | nil => intro t ht; cases ht
    | cons t xs ih =>
      have hl := numsOf_len (L := L) xs
      cases hn : numOf L t with
      | none =>
        exfalso
        unfold numsOf at h
        rw [List.filterMap_cons, hn] at h
        simp only [Option.map_none] at h
        have : (numsOf L xs).length = (t :: xs).length := h
        simp at this
        omega
      | some q =>
        have h2 : (numsOf L xs).length = xs.length := by
          unfold numsOf at h ⊢
          rw [List.filterMap_cons, hn] at h
          simpa using h
        intro u hu
        rcases List.mem_cons.1 hu with rfl | hu
        · unfold isNum; rw [hn]; rfl
        · exact ih h2 u hu
  · intro h; rw [numsOf_all h, List.length_map]
theorem numsOf_u64 (hw : WFL L) (xs : List Int) : U64s (numsOf L xs) := by
  intro v hv
  unfold numsOf at hv
  obtain ⟨t, _, ht⟩ := List.mem_filterMap.1 hv
  obtain ⟨q, hq, rfl⟩ := Option.map_eq_some_iff.1 ht
  have := numD_lt hw t
  unfold numD at this
  rw [hq] at this
  simp at this
  omega
theorem ary1 {o : Nat} (h1 : 2 ≤ o) (h : aryN o = 1) : o = 2 ∨ o = 3 := by
  unfold aryN at h
  rw [if_neg (by omega)] at h
  split at h
  · omega
  · split at h <;> omega
theorem ary2 {o : Nat} (h1 : 2 ≤ o) (h2 : o ≤ 21) (h : aryN o = 2) : 4 ≤ o ∧ o ≤ 20 := by
  unfold aryN at h
  rw [if_neg (by omega)] at h
  split at h
  · omega
  · split at h <;> omega
theorem ary3 {o : Nat} (h1 : 2 ≤ o) (h2 : o ≤ 21) (h : aryN o = 3) : o = 21 := by
  unfold aryN at h
  rw [if_neg (by omega)] at h
  split at h
  · omega
  · split at h <;> omega
set_option maxRecDepth 100000 in
theorem rsapp_core (h : RGr w base F I rb W room L) (o : Nat) (ho1 : 2 ≤ o) (ho2 : o ≤ 21) (xs : List Int) (va : Value) (hv : SliceOf w .i64 va xs) (hl : aryN o = xs.length) (hin : ∀ a ∈ xs, (0 : Int) ≤ a ∧ a < (L.length : Int))
    (hrec : o = 11 → ∀ (x : Nat), x < L.length → isNum L (x : Int) = false → ∀ (w2 : World) (va : Value), RGr w2 base F I rb W room L → SliceOf w2 .i64 va [(x : Int)] → Calls Try.prog 50 #[.pointer (some ⟨rb, 0, none⟩), .int .u8 2, va] w2 (RPost w2 base F I rb W room ((oneA L 2 x).res W room L))) :
    Calls Try.prog 50 #[.pointer (some ⟨rb, 0, none⟩), .int .u8 o, va] w (RPost w base F I rb W room ((simpA W L o xs).res W room L)) := by
  have hmay := rmay_any h o (by omega) xs va hv
  have hm0 : mayR L o xs = 0 := by
    unfold mayR
    rw [if_pos ⟨ho2, aryN_pos ho1, hl⟩, if_pos hin]
  rw [hm0] at hmay
  obtain ⟨R, hR⟩ : ∃ R, (simpA W L o xs).res W room L = R := ⟨_, rfl⟩
  rw [hR]
  obtain ⟨a, n, cap, rfl, hna, -⟩ := hv.parts
  have hn3 : n ≤ 3 := by have := aryN_le o; omega
  have HMAY := Lib.hid hmay; have HG := Lib.hid h; have HV := Lib.hid hv; have HR := Lib.hid hR; have HREC := Lib.hid hrec; have HO := Lib.hid (And.intro ho1 (And.intro ho2 (And.intro hl (And.intro hin hna))))
  clear hmay h hv hR hrec ho1 ho2 hl hin hm0 hna
  go_enter Try.func50, Try.ntmps50
  go_upto_region 4 with (go_at_call 68; refine HMAY.out.mono ?_; rintro e w2 ⟨rfl, rfl⟩)
  go_wp2
  go_loopw [9, 10] (fun v i wx => ∃ k : Nat, k ≤ n ∧ i = .int .i64 k ∧ OwnInts wx w.heap.size 22 .u64 v (numsOf L (xs.take k)) ∧ Below w.heap.size w wx) (fun _ i _ => n - (intOf i).toNat)
  case atStart => exact ⟨0, by omega, rfl, OwnInts.nil _ _ _ _, Below.refl _ _⟩
  case round =>
    obtain ⟨k, hk, rfl, hown, hbr⟩ := hrel
    have HBR := Lib.hid hbr; have HOWN := Lib.hid hown
    have hlen3 : (numsOf L (xs.take k)).length ≤ 1000000000 := by have := numsOf_len (L := L) (xs.take k); have := List.length_take_le k xs; omega
    clear hbr
    by_cases hlt : k < n
    · obtain ⟨b, off, t, rfl, hc, ht⟩ := SliceOf.parts' (HV.out.below HBR.out) hlt
      have HT := Lib.hid ht
      have hnum := rnumber_any (HG.out.later HBR.out) t
      have hsn := numsOf_snoc (L := L) ht
      have HSN := Lib.hid hsn
      clear ht hsn
      obtain ⟨nt, hnt⟩ : ∃ nt, isNum L t = nt := ⟨_, rfl⟩
      rw [hnt] at hnum HSN
      generalize numD L t = q at *
      have HNUM := Lib.hid hnum
      have hbs := HBR.out.size
      clear hnum hnt
      cases nt with
      | true =>
        go_wp2_with (first | (go_at_call 32; refine HNUM.out.mono ?_; rintro e w2 ⟨rfl, rfl⟩) | (at_builtin; refine wpList_append1_int 88 22 .u64 w.heap.size _ _ (numsOf L (xs.take k)) (q : Int) 8 hown _ _ rfl rfl Try.underlying88 Try.infoU64 (by decide) rfl rfl hlen3 hbs ?_; intro v' w' hown' hb' hv'))
        go_roundw
        case rel => exact ⟨k + 1, by omega, by go_num, by rw [HSN.out]; simpa using hown', HBR.out.trans hb'⟩
        case measure => simp [intOf]; omega
      | false =>
        clear hown
        go_wp2_with (first | (go_at_call 32; refine HNUM.out.mono ?_; rintro e w2 ⟨rfl, rfl⟩))
        go_roundw
        case rel => exact ⟨k + 1, by omega, by go_num, by rw [HSN.out, if_neg (by decide), List.append_nil]; exact HOWN.out, HBR.out⟩
        case measure => simp [intOf]; omega
    · obtain rfl : k = n := by omega
      go_upto_region 11 with fail
      rename_i K14 h14 K11 h11
      have H14 := Lib.hid h14
      clear h14
      rw [List.take_of_length_le (by rw [HO.out.2.2.2.2]; exact Nat.le_refl _)] at hown hlen3
      obtain ⟨a9, m9, c9, rfl⟩ := hown.val
      have hm9 : m9 = (numsOf L xs).length := by
        obtain ⟨a', n', c', e', hl', -⟩ := (OwnInts.slice hown)
        simp only [Value.slice.injEq] at e'
        omega
      have HOW := Lib.hid hown; have HM9 := Lib.hid hm9
      clear hown HOWN hm9 hlen3
      by_cases hall : ∀ t ∈ xs, isNum L t = true
      · have hmn : m9 = k := by rw [HM9.out, numsOf_full.2 hall, HO.out.2.2.2.2]
        subst hmn
        have heq : ((m9 : Int) == (m9 : Int)) = true := by simp
        have hap := rapply_any (o : Int) (W : Int) (by omega) (by have := HO.out.2.1; omega) _ _ wr (OwnInts.slice HOW.out) (numsOf_u64 HG.out.wf xs) (by have := numsOf_len (L := L) xs; have := HO.out.2.2.2.2; omega)
        have hb := wI_bounds (o : Int) (W : Int) (numsOf L xs) (by have := HG.out.w1; omega) (by have := HG.out.w2; omega)
        rw [Int.toNat_natCast] at hb
        have hp := pow_le64 HG.out.w2
        have hRR : R = constR W room L (wI o W (numsOf L xs)).toNat := by
          rw [← HR.out, numsOf_all hall]
          unfold simpA
          rw [if_pos hall]
          rfl
        obtain ⟨v, hv⟩ := Int.eq_ofNat_of_zero_le hb.1
        rw [hv] at hap hb hRR
        rw [Int.toNat_natCast] at hRR
        subst hRR
        obtain ⟨fw, fc, c0, -, -, -⟩ := (HG.out.later HBR.out).parts
        have HAP := Lib.hid hap; have HC := Lib.hid (rconst_any (HG.out.later HBR.out) v (by omega))
        clear hap hb hp hv hall hlt
        go_wp2_with (first | (go_at_call 69; refine HAP.out.mono ?_; rintro e w2 ⟨rfl, rfl⟩))
        go_at_call 64
        refine HC.out.mono ?_
        intro e w4 hp
        obtain ⟨F', I', rfl, hrest⟩ := hp.later HBR.out
        have HQ := Lib.hid hrest
        clear hp hrest
        go_wp2
        go_ret2
        exact ⟨F', I', rfl, HQ.out⟩
      · have hmn : m9 ≠ k := fun e => hall (numsOf_full.1 (by rw [← HM9.out, e, HO.out.2.2.2.2]))
        have heq : ((m9 : Int) == (k : Int)) = false := by rw [beq_eq_false_iff_ne]; omega
        have hRR : (simpA W L o xs).res W room L = R := HR.out
        unfold simpA at hRR
        rw [if_neg hall] at hRR
        have HVR := Lib.hid (HV.out.below HBR.out)
        have HALL := Lib.hid hall
        clear hmn hall
        go_wp2
        refine H14.out _ _ ?_
        obtain ⟨ho1, ho2, hl, hin, hna⟩ := HO.out
        have hsh : (∃ x, xs = [x]) ∨ (∃ x y, xs = [x, y]) ∨ ∃ x y z, xs = [x, y, z] := by
          have h1 := aryN_pos ho1
          have h2 := aryN_le o
          match xs with
          | [] => simp at hl; omega
          | [x] => exact .inl ⟨x, rfl⟩
          | [x, y] => exact .inr (.inl ⟨x, y, rfl⟩)
          | [x, y, z] => exact .inr (.inr ⟨x, y, z, rfl⟩)
          | _ :: _ :: _ :: _ :: _ => simp at hl; omega
        rcases hsh with ⟨x, rfl⟩ | ⟨x, y, rfl⟩ | ⟨x, y, z, rfl⟩
        · have hx := hin x (by simp)
          obtain ⟨x, rfl⟩ := Int.eq_ofNat_of_zero_le hx.1
          obtain rfl : k = 1 := hna.symm
          rw [← hRR]
          exact rapp_tail1 HBR.out HG.out (ary1 ho1 hl) (by omega) HVR.out
        · have hx := hin x (by simp)
          have hy := hin y (by simp)
          obtain ⟨x, rfl⟩ := Int.eq_ofNat_of_zero_le hx.1
          obtain ⟨y, rfl⟩ := Int.eq_ofNat_of_zero_le hy.1
          obtain rfl : k = 2 := hna.symm
          rw [← hRR]
          have ho := ary2 ho1 ho2 hl
          exact rapp_tail2 HBR.out HG.out ho.1 ho.2 HVR.out (fun hh => HALL.out fun t ht => by
            rcases List.mem_cons.1 ht with rfl | ht
            · exact hh.1
            · obtain rfl := List.mem_singleton.1 ht; exact hh.2) HREC.out (by omega) (by omega)
        · have hx := hin x (by simp)
          have hy := hin y (by simp)
          have hz := hin z (by simp)
          obtain ⟨x, rfl⟩ := Int.eq_ofNat_of_zero_le hx.1
          obtain ⟨y, rfl⟩ := Int.eq_ofNat_of_zero_le hy.1
          obtain ⟨z, rfl⟩ := Int.eq_ofNat_of_zero_le hz.1
          obtain rfl : k = 3 := hna.symm
          rw [← hRR]
          obtain rfl := ary3 ho1 ho2 hl
          exact rapp_tail3 HBR.out HG.out HVR.out
/-- not of a term that is no number. -/
theorem rsapp_nots (x : Nat) (hx : x < L.length) (hn : isNum L (x : Int) = false) (w2 : World) (va : Value) (h : RGr w2 base F I rb W room L) (hv : SliceOf w2 .i64 va [(x : Int)]) :
    Calls Try.prog 50 #[.pointer (some ⟨rb, 0, none⟩), .int .u8 2, va] w2 (RPost w2 base F I rb W room ((oneA L 2 x).res W room L)) := by
  have hc := rsapp_core h 2 (by decide) (by decide) [(x : Int)] va hv rfl (by intro a ha; obtain rfl := List.mem_singleton.1 ha; omega) (fun e => by cases e)
  have e : simpA W L 2 [(x : Int)] = oneA L 2 x := by
    unfold simpA
    rw [if_neg (fun q => by rw [q (x : Int) (by simp)] at hn; cases hn)]
  rw [e] at hc
  exact hc
set_option maxRecDepth 100000 in
theorem rsapp_any (h : RGr w base F I rb W room L) (o : Nat) (ho : o ≤ 255) (xs : List Int) (va : Value) (hv : SliceOf w .i64 va xs) :
    Calls Try.prog 50 #[.pointer (some ⟨rb, 0, none⟩), .int .u8 o, va] w (RPost w base F I rb W room (simpR W room L o xs)) := by
  by_cases hc : o ≤ 21 ∧ aryN o ≠ 0 ∧ aryN o = xs.length
  · by_cases hin : ∀ a ∈ xs, (0 : Int) ≤ a ∧ a < (L.length : Int)
    · have ho1 : 2 ≤ o := by
        rcases Nat.lt_or_ge o 2 with h2 | h2
        · exact absurd (by unfold aryN; rw [if_pos (by omega)]) hc.2.1
        · exact h2
      rw [simpR_in ho1 hc.1 hc.2.2 hin]
      exact rsapp_core h o ho1 hc.1 xs va hv hc.2.2 hin (fun _ => rsapp_nots)
    · have hmay := rmay_any h o ho xs va hv
      have e1 : mayR L o xs = 3 := by unfold mayR; rw [if_pos hc, if_neg hin]
      have e2 : simpR W room L o xs = (L, 0, 3) := by unfold simpR; rw [if_pos hc, if_neg hin]
      rw [e1] at hmay
      rw [e2]
      obtain ⟨a, n, cap, rfl, -, -⟩ := hv.parts
      have HM := Lib.hid hmay; have HG := Lib.hid h
      clear hmay h hv hc hin e1 e2
      go_enter Try.func50, Try.ntmps50
      go_wp2_with (go_at_call 68; refine HM.out.mono ?_; rintro e w2 ⟨rfl, rfl⟩)
      go_ret2
      exact RPost.same HG.out (Below.refl _ _) 0 3
  · have hmay := rmay_any h o ho xs va hv
    have e1 : mayR L o xs = 2 := by unfold mayR; rw [if_neg hc]
    have e2 : simpR W room L o xs = (L, 0, 2) := by unfold simpR; rw [if_neg hc]
    rw [e1] at hmay
    rw [e2]
    obtain ⟨a, n, cap, rfl, -, -⟩ := hv.parts
    have HM := Lib.hid hmay; have HG := Lib.hid h
    clear hmay h hv hc e1 e2
    go_enter Try.func50, Try.ntmps50
    go_wp2_with (go_at_call 68; refine HM.out.mono ?_; rintro e w2 ⟨rfl, rfl⟩)
    go_ret2
    exact RPost.same HG.out (Below.refl _ _) 0 2
end
end Go.Proofs.Ytcpgiadhmmmafaa
