/- SupportValues: Fill among other things; values hang on the variables that occur alone. -/
import Derived.Test.YtofbadmjopefpaaSupF
namespace Go.Proofs.Ytofbadmjopefpaa
open Go.RowKit Go.Maps
set_option maxHeartbeats 6400000

section
variable {w0 wr w' : World} {ts : List Thing}
theorem wpList_append_labn {ops : Array Oper} {rest : List Oper} {o : Oper} {a : Act} {Q : Exit → Act → World → Prop} {ao : Option Addr} {c n : Nat} {xv : Value} {xs ys : List Int} (s x : Operand) (hl : xs.length = n) (h : Lab w0 wr (Thing.ints (.slice ao n c) xs :: ts)) (hsrc : SliceOf wr .i64 xv ys) (hgd : o.guard = none)
    (ho : o.op = .call { callee := .builtin .append, args := #[s, x], argTypes := #[26, 26] }) (hs : a.eval s = .slice ao n c) (hx : a.eval x = xv) (hn : n + ys.length ≤ 1000000000)
    (hK : ∀ a' c' w', Lab w0 w' (Thing.ints (.slice a' (n + ys.length) c') (xs ++ ys) :: ts) → wpList Try.prog ops Q rest (a.put o.dst (.slice a' (n + ys.length) c')) w') : wpList Try.prog ops Q (o :: rest) a wr := by
  subst hl
  refine wpList_append_lab s x h hsrc hgd ho hs hx hn fun a' c' w' hl' => ?_
  rw [List.length_append] at hl' ⊢
  exact hK a' c' w' hl'
set_option maxRecDepth 100000 in
/-- Fill, among other things. -/
theorem Lab.fill (h : Lab w0 wr ts) (Wi : Int) (v : Value) (qs : List PAsk) (hv : AsksOf w0 v qs) (hq : qs.length ≤ 9223372036854775807) :
    Calls Try.prog 21 #[.int .i64 Wi, v] wr fun e w' => ∃ gb F I a m c L, L.length ≤ 120 ∧ GoodL ((Wi % 64).toNat + 1) L ∧ VarsLt 6 L ∧ e = .returned (.tuple #[.pointer (some ⟨gb, 0, none⟩), .slice a m c]) ∧ Lab w0 w' (Thing.graph F I gb ((Wi % 64).toNat + 1) 1048576 L :: ts) := by
  obtain ⟨W, hW⟩ : ∃ W, (Wi % 64).toNat + 1 = W := ⟨_, rfl⟩
  have hm0 := Int.emod_nonneg Wi (show (64 : Int) ≠ 0 by decide)
  have hm1 := Int.emod_lt_of_pos Wi (show (0 : Int) < 64 by decide)
  have hWi : (Wi % 64 + 1).toNat = W := by omega
  rw [hW]
  obtain ⟨a, cap, rfl⟩ := hv.parts
  obtain ⟨n, hn⟩ : ∃ n, qs.length = n := ⟨_, rfl⟩
  rw [hn] at hv hq ⊢
  have HV := Lib.hid hv; have HW := Lib.hid hWi; have H0 := Lib.hid h
  clear hv hn hWi hW h
  go_enter Try.func21, Try.ntmps21
  go_wp2_with fail
  go_at_call 27
  refine (mod_any Wi 64 (by decide) (by decide) _).mono ?_
  rintro e w1 ⟨rfl, rfl⟩
  go_wp2_with fail
  go_at_call 29
  refine (H0.out.new_graph _ 0 ⟨by omega, by omega, by decide, by decide⟩).mono ?_
  rintro e w1 ⟨gb, F0, rfl, hl0⟩
  rw [HW.out] at hl0
  replace hl0 : Lab w0 w1 (Thing.graph F0 [] gb W 1048576 [] :: ts) := hl0
  have HL0 := Lib.hid hl0.nil_ints.swap
  clear hl0 H0
  go_wp2
  go_loopw [8, 9] (fun vo i wx => ∃ k : Nat, k ≤ n ∧ k ≤ 120 ∧ i = .int .i64 k ∧ ∃ F I L ao co out, vo = .slice ao k co ∧ out.length = k ∧ L.length ≤ k ∧ GoodL W L ∧ VarsLt 6 L ∧ Lab w0 wx (Thing.graph F I gb W 1048576 L :: Thing.ints (.slice ao k co) out :: ts)) (fun _ i _ => n - (intOf i).toNat)
  case atStart => exact ⟨0, by omega, by omega, rfl, F0, [], [], none, 0, [], rfl, rfl, by simp, GoodL.nil W, by simp [VarsLt], HL0.out⟩
  case round =>
    obtain ⟨k, hk, hk2, rfl, F, I, L, ao, co, out, rfl, hout, hlen, hgd, hvl, hl⟩ := hrel
    have HL := Lib.hid hl; have HGD := Lib.hid hgd; have HVL := Lib.hid hvl; have HOUT := Lib.hid hout
    clear hl HL0 hgd hvl hout
    by_cases hlt : k < n
    · have hlt' : (k : Int) < (n : Int) := by omega
      by_cases hlt2 : k < 120
      · have hlt2' : (k : Int) < 120 := by omega
        obtain ⟨b, off, x, va, rfl, hx, hok, hav, c0, c1, c2, c3, c4⟩ := (HV.out.below HL.out.below).at hlt
        have hgr := addR_grown W (L := L) (room := 1048576) (by omega) x
        have hadd := ladd_any HL.out.gr x _ hav hok
        have hgd2 := HGD.out.add 1048576 x
        have hvl2 := HVL.out.add (W := W) (by decide) 1048576 x
        have hle : (addR W 1048576 L x).1.length ≤ L.length + 1 := by rw [addR_ask]; exact (askP_len _ _ _).2
        have hR0 := hgr.1
        generalize addR W 1048576 L x = R at *
        obtain ⟨L2, t2, e2⟩ := R
        simp only at hR0
        subst hR0
        have HADD := Lib.hid hadd; have HGD2 := Lib.hid hgd2; have HVL2 := Lib.hid hvl2; have HLE := Lib.hid hle
        clear hx hav hok hgr hadd hgd2 hvl2 hle
        go_wp2_with fail
        go_at_call 26
        refine HADD.out.mono ?_
        intro e w2 hp
        obtain ⟨F', I', rfl, hl2⟩ := HL.out.gpost hp
        have HL3 := Lib.hid (hl2.swap.alloc #[.int .i64 (t2 : Int)] 3).swap
        have hsrc := sliceOf_new w2 .i64 3 [(t2 : Int)] 1
        have hlx : k + [(t2 : Int)].length ≤ 1000000000 := by simp only [List.length_singleton]; omega
        have HSRC := Lib.hid hsrc
        clear hl2 hp c0 c1 c2 c3 c4 hsrc
        go_wp2_with (at_builtin; refine wpList_append_labn (.tmp 40) (.tmp 42) HOUT.out HL3.out HSRC.out rfl rfl rfl rfl hlx ?_; intro a9 c9 w9 hl9)
        have HL9 := Lib.hid hl9.swap.drop.swap
        clear hl9 HL3 HSRC
        go_roundw
        case rel => exact ⟨k + 1, by omega, by omega, by go_num, F', I', L2, a9, c9, out ++ [(t2 : Int)], rfl, by rw [List.length_append, HOUT.out]; rfl, by have := HLE.out; omega, HGD2.out, HVL2.out, HL9.out⟩
        case measure => simp [intOf]; omega
      · obtain rfl : k = 120 := by omega
        go_wp2
        go_ret2
        exact ⟨gb, F, I, _, _, _, L, by omega, HGD.out, HVL.out, rfl, HL.out.swap.drop⟩
    · have hlt' : ¬ (k : Int) < (n : Int) := by omega
      obtain rfl : k = n := by omega
      go_wp2
      go_ret2
      exact ⟨gb, F, I, _, _, _, L, by omega, HGD.out, HVL.out, rfl, HL.out.swap.drop⟩
end
end Go.Proofs.Ytofbadmjopefpaa
