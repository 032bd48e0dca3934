/- Package simp: App, whole. -/
import Derived.Test.YtcpgiadhmmmafaaSimpM
import Derived.Test.YtcpgiadhmmmafaaPlainS
namespace Go.Proofs.Ytcpgiadhmmmafaa
open Go.RowKit Go.Maps
set_option maxHeartbeats 1600000

section
variable {w : World} {base : Nat} {F I : List Nat} {gb W room : Nat} {L : List PNode}
set_option maxRecDepth 100000 in
theorem sapp_bad (h : Gr w base F I gb W room L) (o : Nat) (ho : o ≤ 255) (xs : List Int) (va : Value) (hv : SliceOf w .i64 va xs) (hb : ¬ (o ≤ 21 ∧ aryN o ≠ 0 ∧ aryN o = xs.length)) :
    Calls Try.prog 26 #[.pointer (some ⟨gb, 0, none⟩), .int .u8 o, va] w (GPost w base F I gb W room (L, 0, 2)) := by
  have H0 := Lib.hid h
  clear h
  obtain ⟨a, n, cap, rfl, hna, -⟩ := hv.parts
  clear hv
  rw [hna] at hb
  clear hna
  obtain ⟨p, hp⟩ : ∃ p : Nat, (if 21 < (o : Int) then 0 else aryN (o : Int).toNat) = p := ⟨_, rfl⟩
  have hp' : 21 < (o : Int) ∨ p = 0 ∨ p ≠ n := by
    by_cases h1 : 21 < (o : Int)
    · exact .inl h1
    · rw [if_neg h1] at hp; simp at hp; right; omega
  have HP := Lib.hid hp
  clear hp hb
  have har : ∀ w', Calls Try.prog 51 #[.int .u8 o] w' fun e w'' => e = .returned (.tuple #[.int .i64 p, .int .i64 (if 21 < (o : Int) then 3 else 0)]) ∧ Below w'.heap.size w' w'' := by
    intro w'
    refine (arity_any o (by omega) (by omega) w').mono ?_
    rintro e w'' ⟨rfl, hb⟩
    refine ⟨?_, hb⟩
    rw [← HP.out]
    by_cases h1 : 21 < (o : Int) <;> simp [h1]
  by_cases h1 : 21 < (o : Int)
  · rw [if_pos h1] at har
    clear hp'
    go_enter Try.func26, Try.ntmps26
    go_wp2_with (go_at_call 51; refine (har _).mono ?_; rintro e w' ⟨rfl, hb⟩)
    go_ret2
    exact GPost.same H0.out hb 0 2
  · rw [if_neg h1] at har
    by_cases h0 : p = 0
    · subst h0
      go_enter Try.func26, Try.ntmps26
      go_wp2_with (go_at_call 51; refine (har _).mono ?_; rintro e w' ⟨rfl, hb⟩)
      go_ret2
      exact GPost.same H0.out hb 0 2
    · have hpn : ((p : Int) != (n : Int)) = true := by simp; omega
      have hp0 : ((p : Int) == 0) = false := by simp; omega
      clear h0
      go_enter Try.func26, Try.ntmps26
      go_wp2_with (go_at_call 51; refine (har _).mono ?_; rintro e w' ⟨rfl, hb⟩)
      go_ret2
      exact GPost.same H0.out hb 0 2
/-- Behind the making of an operator with its arguments. -/
def App6 (w : World) (gb n o : Nat) (xs : List Int) (m : Value) (wx : World) : Prop :=
  ∃ xb ab ca nb ib, ∃ fa fn fi : Nat → Value, m = .pointer (some ⟨xb, 0, none⟩) ∧ n ≤ ca ∧ (∀ i, i < n → fa i = .int .i64 (xs.getD i 0)) ∧ Lab w wx (askThings xb gb ab ca nb ib n o fa fn fi)
theorem row_of_owns {w : World} {b : Nat} {a : Option Addr} {m c : Nat} {xs : List Int} (h : OwnInts w b 3 .i64 (.slice a m c) xs) (h0 : xs.length ≠ 0) :
    ∃ g f, a = some ⟨g, 0, none⟩ ∧ m = xs.length ∧ b ≤ g ∧ xs.length ≤ c ∧ w.rowIs g 3 c f ∧ ∀ i, i < xs.length → f i = .int .i64 (xs.getD i 0) := by
  rcases h.2 with ⟨_, hn⟩ | ⟨g, cap, cur, hv, hb, hg, hn, hm, hsz, htake⟩
  · exact absurd hn h0
  · simp only [Value.slice.injEq] at hv
    obtain ⟨rfl, rfl, rfl⟩ := hv
    rw [Nat.mul_one] at hsz htake
    refine ⟨g, fun i => cur.getD i (.int .i64 0), rfl, rfl, hb, hn, ⟨cur, hg, hsz, fun i hi => ?_⟩, fun i hi => ?_⟩
    · rw [Array.getElem?_eq_getElem (by omega)]
      simp [show i < cur.size by omega]
    · have := congrArg (fun l => l[i]?) htake
      simp only [List.getElem?_take, hi, if_true, List.getElem?_map] at this
      have hlt : i < cur.size := by omega
      rw [← Array.getElem?_toList] at *
      rw [List.getElem?_eq_getElem (by simpa using hlt)] at this
      simp [hi] at this
      simp [hlt, this, hi]
theorem Lab.new_fn {w0 wr w' : World} {ts : List Thing} {g T c : Nat} {f : Nat → Value} (h : Lab w0 wr ts) (hb : Below wr.heap.size wr w') (hf : w'.rowIs g T c f) (hg : wr.heap.size ≤ g) : Lab w0 w' (Thing.fn g T c f :: ts) :=
  h.new (s := Thing.fn g T c f) hb hf (fun k hk => by simp [Thing.fn] at hk; omega) (fun k hk => by simp [Thing.fn] at hk) (fun k hk => by simp [Thing.fn] at hk; subst hk; exact hf.lt)
theorem Lab.make1 {w0 wr : World} {ts : List Thing} (h : Lab w0 wr ts) (n T : Nat) (z : Value) : Lab w0 (wr.alloc (.cells (madeCells #[z] n) T)) (Thing.fn wr.heap.size T n (fun _ => z) :: ts) :=
  h.make (n := n) (madeCells #[z] n) T (fun _ => z) (size_madeCells _ _) (fun i hi => by rw [madeCells_at _ _ i hi]; simp [Nat.mod_one])
theorem Lab.drew1 {w0 wr : World} {ts : List Thing} (h : Lab w0 wr ts) : Lab w0 wr.drew ts := h.later ((Below.refl _ _).drew)
theorem dsz (w : World) : w.drew.heap.size = w.heap.size := rfl
theorem Reas.alloc {w w' : World} (h : Below w.heap.size w w') (o : Obj) : Below w.heap.size w (w'.alloc o) := Below.alloc h h.size o
theorem Reas.drew {w w' : World} (h : Below w.heap.size w w') : Below w.heap.size w w'.drew := below_drewN h 1
set_option maxRecDepth 100000 in
theorem sapp_good (h : Gr w base F I gb W room L) (o : Nat) (ho : o ≤ 21) (xs : List Int) (va : Value) (hv : SliceOf w .i64 va xs) (h0 : aryN o ≠ 0) (hl : aryN o = xs.length)
    (hrec : o = 11 → ∀ (x : Int) (w2 : World) (va : Value), 0 ≤ x → x < (L.length : Int) → isNum L x = false → SliceOf w2 .i64 va [x] → Gr w2 base F I gb W room L → Calls Try.prog 26 #[.pointer (some ⟨gb, 0, none⟩), .int .u8 2, va] w2 (GPost w2 base F I gb W room ((oneA L 2 x).res W room L))) :
    Calls Try.prog 26 #[.pointer (some ⟨gb, 0, none⟩), .int .u8 o, va] w (GPost w base F I gb W room (if ∀ a ∈ xs, (0 : Int) ≤ a ∧ a < (L.length : Int) then (simpA W L o xs).res W room L else (L, 0, 3))) := by
  obtain ⟨R, hR⟩ : ∃ R, (if ∀ a ∈ xs, (0 : Int) ≤ a ∧ a < (L.length : Int) then (simpA W L o xs).res W room L else (L, 0, 3)) = R := ⟨_, rfl⟩
  rw [hR]
  have H0 := Lib.hid h; have HR := Lib.hid hR; have HV := Lib.hid hv
  obtain ⟨a, n, cap, rfl, hna, -⟩ := hv.parts
  have hn : aryN o = n := hl.trans hna
  have hn3 : n ≤ 3 := by rw [← hn]; exact aryN_le o
  have hn0 : n ≠ 0 := by rw [← hn]; exact h0
  have har : ∀ w', Calls Try.prog 51 #[.int .u8 o] w' fun e w'' => e = .returned (.tuple #[.int .i64 n, .int .i64 0]) ∧ Below w'.heap.size w' w'' := by
    intro w'
    refine (arity_any o (by omega) (by omega) w').mono ?_
    rintro e w'' ⟨rfl, hb⟩
    exact ⟨by rw [if_neg (by omega), if_neg (by omega), Int.toNat_natCast, hn], hb⟩
  have hpn : ((n : Int) != (n : Int)) = false := by simp
  have hp0 : ((n : Int) == 0) = false := by simp; omega
  have HN := Lib.hid (And.intro hna (And.intro hn hl))
  have hmk1 := run_make_row' (P := Try.prog) 88 22 (.int .u64 0) 8 Try.underlying88 Try.infoU64 rfl .i64 .i64 n (by omega) (by omega)
  have hmk2 := run_make_row' (P := Try.prog) 115 4 (.bool false) 1 Try.underlying115 Try.infoBool rfl .i64 .i64 n (by omega) (by omega)
  have ho1 : 2 ≤ o := by
    rcases Nat.lt_or_ge o 2 with h2 | h2
    · exact absurd (by unfold aryN; rw [if_pos (by omega)]) h0
    · exact h2
  have HO := Lib.hid (And.intro ho1 ho); have HREC := Lib.hid hrec
  clear h hR hv hna hl h0 hn hrec ho1
  go_enter Try.func26, Try.ntmps26
  go_upto_region 6 with (go_at_call 51; refine (har _).mono ?_; rintro e w2 ⟨rfl, hb⟩)
  have HVW := Lib.hid (HV.out.below hb)
  have HX3 := Lib.hid (show ([] : List Int).length + xs.length ≤ 1000000000 by have := HN.out.1; simp; omega)
  go_cut [10] (fun m wx => App6 w gb n o xs m wx)
  case first =>
    go_region_held3 (fun w' => True) (trivial) ((refine step_append_own (P := Try.prog) _ 33 3 .i64 8 _ (.slice none 0 0) (.slice a n cap) [] xs (OwnInts.nil _ _ _ _) (HVW.out.below (by repeat (with_reducible first | exact Below.refl _ _ | refine Reas.drew ?_ | refine Reas.alloc ?_ _))) (Nat.le_refl _) rfl (.const (.slice none 0 0)) (.tmp 40) rfl Try.underlying33 Try.infoI64 (by decide) rfl rfl HX3.out ?_; intro a' m' c' w' hown hbb))
    all_goals (go_wp2; go_meet)
    all_goals (simp only [List.nil_append] at hown)
    all_goals (obtain ⟨g, f, rfl, rfl, hg, hc, hrow, hf⟩ := row_of_owns hown (by have := HN.out.1; omega))
    all_goals (have hlen := HN.out.1; clear HN; subst hlen)
    all_goals first
      | (have l := ((((Lab.nil hb).drew1.new_fn hbb hrow hg).make1 xs.length 22 (.int .u64 0)).make1 xs.length 4 (.bool false)).alloc #[.pointer (some ⟨gb, 0, none⟩), .int .u8 o, .slice (some ⟨g, 0, none⟩) xs.length c', .slice (some ⟨w'.heap.size, 0, none⟩) xs.length xs.length, .slice (some ⟨w'.heap.size + 1, 0, none⟩) xs.length xs.length] 117; simp only [alsz] at l; exact ⟨_, _, _, _, _, f, _, _, rfl, hc, hf, l.perm (.cons _ ((List.reverse_perm _).symm))⟩)
      | (have l := ((((Lab.nil hb).drew1.new_fn hbb hrow hg).make1 xs.length 4 (.bool false)).make1 xs.length 22 (.int .u64 0)).alloc #[.pointer (some ⟨gb, 0, none⟩), .int .u8 o, .slice (some ⟨g, 0, none⟩) xs.length c', .slice (some ⟨w'.heap.size + 1, 0, none⟩) xs.length xs.length, .slice (some ⟨w'.heap.size, 0, none⟩) xs.length xs.length] 117; simp only [alsz] at l; exact ⟨_, _, _, _, _, f, _, _, rfl, hc, hf, l.perm (.cons _ (List.perm_append_comm (l₁ := [_, _]) (l₂ := [_])))⟩)
      | (have l := ((((Lab.nil hb).make1 xs.length 22 (.int .u64 0)).drew1.new_fn hbb hrow hg).make1 xs.length 4 (.bool false)).alloc #[.pointer (some ⟨gb, 0, none⟩), .int .u8 o, .slice (some ⟨g, 0, none⟩) xs.length c', .slice (some ⟨w2.heap.size, 0, none⟩) xs.length xs.length, .slice (some ⟨w'.heap.size, 0, none⟩) xs.length xs.length] 117; simp only [alsz] at l; exact ⟨_, _, _, _, _, f, _, _, rfl, hc, hf, l.perm (.cons _ (List.perm_append_comm (l₁ := [_]) (l₂ := [_, _])))⟩)
      | (have l := ((((Lab.nil hb).make1 xs.length 22 (.int .u64 0)).make1 xs.length 4 (.bool false)).drew1.new_fn hbb hrow hg).alloc #[.pointer (some ⟨gb, 0, none⟩), .int .u8 o, .slice (some ⟨g, 0, none⟩) xs.length c', .slice (some ⟨w2.heap.size, 0, none⟩) xs.length xs.length, .slice (some ⟨w2.heap.size + 1, 0, none⟩) xs.length xs.length] 117; simp only [alsz] at l; exact ⟨_, _, _, _, _, f, _, _, rfl, hc, hf, l.perm (.cons _ (.cons _ (.swap _ _ _)))⟩)
      | (have l := ((((Lab.nil hb).make1 xs.length 4 (.bool false)).drew1.new_fn hbb hrow hg).make1 xs.length 22 (.int .u64 0)).alloc #[.pointer (some ⟨gb, 0, none⟩), .int .u8 o, .slice (some ⟨g, 0, none⟩) xs.length c', .slice (some ⟨w'.heap.size, 0, none⟩) xs.length xs.length, .slice (some ⟨w2.heap.size, 0, none⟩) xs.length xs.length] 117; simp only [alsz] at l; exact ⟨_, _, _, _, _, f, _, _, rfl, hc, hf, l.perm (.cons _ (.swap _ _ _))⟩)
      | (have l := ((((Lab.nil hb).make1 xs.length 4 (.bool false)).make1 xs.length 22 (.int .u64 0)).drew1.new_fn hbb hrow hg).alloc #[.pointer (some ⟨gb, 0, none⟩), .int .u8 o, .slice (some ⟨g, 0, none⟩) xs.length c', .slice (some ⟨w2.heap.size + 1, 0, none⟩) xs.length xs.length, .slice (some ⟨w2.heap.size, 0, none⟩) xs.length xs.length] 117; simp only [alsz] at l; exact ⟨_, _, _, _, _, f, _, _, rfl, hc, hf, l.perm (.cons _ (.refl _))⟩)
  case rest =>
    obtain ⟨xb, ab, ca, nb, ib, fa, fn, fi, rfl, hca, hfa, hlab⟩ := hcut
    rename_i K hK
    refine hK _ _ ?_
    have hO := HO.out
    rw [← HR.out]
    exact sapp_loop H0.out HV.out hn3 hca hfa hlab hO.1 hO.2 HN.out.2.1 HREC.out
theorem sapp_nots (o : Nat) (_ho : o = 11) (x : Int) (w2 : World) (va : Value) (hx0 : 0 ≤ x) (hx1 : x < (L.length : Int)) (hn : isNum L x = false) (hv : SliceOf w2 .i64 va [x]) (h : Gr w2 base F I gb W room L) :
    Calls Try.prog 26 #[.pointer (some ⟨gb, 0, none⟩), .int .u8 2, va] w2 (GPost w2 base F I gb W room ((oneA L 2 x).res W room L)) := by
  have hc := sapp_good h 2 (by decide) [x] va hv (by decide) rfl (fun e => by cases e)
  rw [if_pos (by intro a ha; obtain rfl := List.mem_singleton.1 ha; exact ⟨hx0, hx1⟩)] at hc
  have e : simpA W L 2 [x] = oneA L 2 x := by
    unfold simpA
    rw [if_neg (fun q => by rw [q x (by simp)] at hn; cases hn)]
  rw [e] at hc
  exact hc
/-- App of package simp. -/
theorem sapp_any (h : Gr w base F I gb W room L) (o : Nat) (ho : o ≤ 255) (xs : List Int) (va : Value) (hv : SliceOf w .i64 va xs) :
    Calls Try.prog 26 #[.pointer (some ⟨gb, 0, none⟩), .int .u8 o, va] w (GPost w base F I gb W room (simpR W room L o xs)) := by
  unfold simpR
  by_cases hc : o ≤ 21 ∧ aryN o ≠ 0 ∧ aryN o = xs.length
  · rw [if_pos hc]
    exact sapp_good h o hc.1 xs va hv hc.2.1 hc.2.2 (sapp_nots o)
  · rw [if_neg hc]
    exact sapp_bad h o ho xs va hv hc
set_option maxRecDepth 100000 in
theorem sapp_nil (w : World) (o : Int) (v : Value) : Calls Try.prog 26 #[.pointer none, .int .u8 o, v] w fun e w' => e = .returned (.tuple #[.int .i64 0, .int .i64 1]) ∧ w = w' := by
  go_enter Try.func26, Try.ntmps26
  go_wp2
  go_ret2
  exact ⟨rfl, rfl⟩
end
end Go.Proofs.Ytcpgiadhmmmafaa
