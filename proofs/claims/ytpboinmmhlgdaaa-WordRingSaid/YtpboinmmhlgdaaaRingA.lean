/- WordRing: what its drawn region needs. -/
import Derived.Test.YtpboinmmhlgdaaaComm
import Derived.Test.YtpboinmmhlgdaaaLawWH
import Derived.Test.YtpboinmmhlgdaaaPlainA
import Derived.Test.YtpboinmmhlgdaaaOrdT
import Derived.Deep.DeepCutAuto
import Derived.Deep.CutBlock
import Derived.Deep.RegionHeld3
import Derived.Outline
namespace Go.Proofs.Ytpboinmmhlgdaaa
open Go.RowKit
set_option maxHeartbeats 3200000

/-- Two words in a block. -/
def At2 (w : World) (sb : Nat) (a b : Int) : Prop := w.cell? ⟨sb, 0, none⟩ = some (.int .u64 a) ∧ w.cell? ⟨sb, 1, none⟩ = some (.int .u64 b)
theorem At2.later {w w' : World} {sb : Nat} {a b : Int} (h : At2 w sb a b) (hb : Below w.heap.size w w') : At2 w' sb a b := ⟨cell_later hb h.1, cell_later hb h.2⟩
theorem At2.alloc {w : World} {sb : Nat} {a b : Int} (h : At2 w sb a b) (o : Obj) : At2 (w.alloc o) sb a b := h.later (below_new w o)
theorem At2.new {w : World} {sb T : Nat} {a b : Int} (h : sb = w.heap.size) : At2 (w.alloc (.cells #[.int .u64 a, .int .u64 b] T)) sb a b := by
  subst h
  exact ⟨by rw [World.cell?_alloc_at _ _ _ _ rfl]; rfl, by rw [World.cell?_alloc_at _ _ _ _ rfl]; rfl⟩
def Reach (w w' : World) : Prop := Below w.heap.size w w'
theorem Reach.alloc {w w' : World} (h : Reach w w') (o : Obj) : Reach w (w'.alloc o) := Below.alloc h h.size o
theorem Reach.drew {w w' : World} (h : Reach w w') : Reach w w'.drew := below_drewN h 1
theorem Reach.later {w w' w'' : World} (h : Reach w w') (hb : Below w'.heap.size w' w'') : Reach w w'' := Below.trans h (hb.mono h.size)
/-- of, at a slice of two words wherever it lies. -/
theorem of_at {wr : World} (cb W : Nat) (hcs : CC cb W wr) (h1 : 1 ≤ W) (h2 : W ≤ 64) (o : Int) (ho1 : 4 ≤ o) (ho2 : o ≤ 20) (a b : Int) (ha : 0 ≤ a ∧ a ≤ 18446744073709551615) (hb : 0 ≤ b ∧ b ≤ 18446744073709551615) (sb : Nat) (w : World) (hr : Reach wr w)
    (c : At2 w sb a b) :
    Calls Try.prog 6 #[.pointer (some ⟨cb, 0, none⟩), .int .u8 o, .slice (some ⟨sb, 0, none⟩) 2 2] w fun e w' => e = .returned (.int .u64 ((wm W o.toNat a.toNat b.toNat : Nat) : Int)) ∧ Below w.heap.size w w' := by
  have hs : SliceOf w .u64 (.slice (some ⟨sb, 0, none⟩) 2 2) [a, b] := by
    refine ⟨_, _, _, rfl, rfl, fun i hi => ⟨sb, 0, rfl, ?_⟩⟩
    match i, hi with
    | 0, _ => exact c.1
    | 1, _ => exact c.2
  have h := of_b cb W h1 h2 o (by omega) (by omega) _ [a, b] w hs (by intro q hq; simp at hq; rcases hq with rfl | rfl <;> assumption) (by unfold aryN; rw [if_neg (by omega), if_neg (by omega), if_neg (by omega)]; rfl) (hcs.later hr)
  rw [wN2] at h
  exact h
def U64N (a : Nat) : Prop := a ≤ 18446744073709551615
/-- Some pairs of words, each in its block. -/
def Held (w : World) (ps : List (Nat × Nat × Nat)) : Prop := ∀ p ∈ ps, At2 w p.1 p.2.1 p.2.2 ∧ U64N p.2.1 ∧ U64N p.2.2
/-- A world, and the same with some blocks of two words more. -/
inductive Al2 (w : World) : World → List (Nat × Nat × Nat) → Prop where
  | nil : Al2 w w []
  | push {w' : World} {qs : List (Nat × Nat × Nat)} {T a b : Nat} : Al2 w w' qs → U64N a → U64N b → Al2 w (w'.alloc (.cells #[.int .u64 a, .int .u64 b] T)) ((w'.heap.size, a, b) :: qs)
  | push0 {w' : World} {qs : List (Nat × Nat × Nat)} {T a : Nat} : Al2 w w' qs → U64N a → Al2 w (w'.alloc (.cells #[.int .u64 a, .int .u64 0] T)) ((w'.heap.size, a, 0) :: qs)
  | push1 {w' : World} {qs : List (Nat × Nat × Nat)} {T a : Nat} : Al2 w w' qs → U64N a → Al2 w (w'.alloc (.cells #[.int .u64 a, .int .u64 1] T)) ((w'.heap.size, a, 1) :: qs)
  | drew {w' : World} {qs : List (Nat × Nat × Nat)} : Al2 w w' qs → Al2 w w'.drew qs
theorem Al2.bel {w w' : World} {qs : List (Nat × Nat × Nat)} (h : Al2 w w' qs) : Below w.heap.size w w' := by
  induction h with
  | nil => exact Below.refl _ _
  | push _ _ _ ih => exact ih.alloc ih.size _
  | push0 _ _ ih => exact ih.alloc ih.size _
  | push1 _ _ ih => exact ih.alloc ih.size _
  | drew _ ih => exact below_drewN ih 1
theorem Held.al {w w' : World} {ps qs : List (Nat × Nat × Nat)} (hh : Held w ps) (h : Al2 w w' qs) : Held w' (qs ++ ps) := by
  induction h with
  | nil => exact hh
  | push _ ha hb ih =>
    intro p hp
    rcases List.mem_cons.1 hp with rfl | hp
    · exact ⟨At2.new rfl, ha, hb⟩
    · exact ⟨(ih p hp).1.alloc _, (ih p hp).2⟩
  | push0 _ ha ih =>
    intro p hp
    rcases List.mem_cons.1 hp with rfl | hp
    · exact ⟨At2.new rfl, ha, Nat.le_of_ble_eq_true rfl⟩
    · exact ⟨(ih p hp).1.alloc _, (ih p hp).2⟩
  | push1 _ ha ih =>
    intro p hp
    rcases List.mem_cons.1 hp with rfl | hp
    · exact ⟨At2.new rfl, ha, Nat.le_of_ble_eq_true rfl⟩
    · exact ⟨(ih p hp).1.alloc _, (ih p hp).2⟩
  | drew _ ih => exact fun p hp => ⟨(ih p hp).1, (ih p hp).2⟩
theorem Held.later {w w' : World} {ps : List (Nat × Nat × Nat)} (hh : Held w ps) (hb : Below w.heap.size w w') : Held w' ps := fun p hp => ⟨(hh p hp).1.later hb, (hh p hp).2⟩
theorem Held.none (w : World) : Held w [] := fun p hp => by cases hp
/-- of, at one of the pairs that are held. -/
theorem of_arm {wr w w' : World} {ps qs : List (Nat × Nat × Nat)} {cb W o sb a b : Nat} (hcs : CC cb W wr) (h1 : 1 ≤ W) (h2 : W ≤ 64) (hh : Held w ps) (hr : Reach wr w) (al : Al2 w w' qs) (ho : 4 ≤ o ∧ o ≤ 20) (hm : (sb, a, b) ∈ qs ++ ps) :
    Calls Try.prog 6 #[.pointer (some ⟨cb, 0, none⟩), .int .u8 o, .slice (some ⟨sb, 0, none⟩) 2 2] w' fun e wk => e = .returned (.int .u64 ((wm W o a b : Nat) : Int)) ∧ Held wk (qs ++ ps) ∧ Reach wr wk := by
  have hp := hh.al al _ hm
  have hr' : Reach wr w' := hr.later al.bel
  refine (of_at cb W hcs h1 h2 o (by omega) (by omega) a b ⟨by omega, by have := hp.2.1; unfold U64N at this; dsimp only at this; omega⟩ ⟨by omega, by have := hp.2.2; unfold U64N at this; dsimp only at this; omega⟩ sb w' hr' hp.1).mono ?_
  rintro e wk ⟨rfl, hb⟩
  exact ⟨by simp only [Int.toNat_natCast], (hh.al al).later hb, hr'.later hb⟩
theorem of_arm' {wr w w' : World} {ps qs : List (Nat × Nat × Nat)} {cb W o sb a b : Nat} {Q : Ending → World → Prop} (hcs : CC cb W wr) (h1 : 1 ≤ W) (h2 : W ≤ 64) (hh : Held w ps) (hr : Reach wr w) (ho : 4 ≤ o ∧ o ≤ 20) (al : Al2 w w' qs) (hm : (sb, a, b) ∈ qs ++ ps) (rest : ∀ wk, Held wk (qs ++ ps) → Reach wr wk → Q (.returned (.int .u64 ((wm W o a b : Nat) : Int))) wk) :
    Calls Try.prog 6 #[.pointer (some ⟨cb, 0, none⟩), .int .u8 o, .slice (some ⟨sb, 0, none⟩) 2 2] w' Q :=
  (of_arm hcs h1 h2 hh hr al ho hm).mono fun _ wk ⟨he, hk, hr⟩ => he ▸ rest wk hk hr
theorem of_armI {wr w w' : World} {ps qs : List (Nat × Nat × Nat)} {cb W sb a b : Nat} (o : Nat) {oi : Int} {Q : Ending → World → Prop} (hcs : CC cb W wr) (h1 : 1 ≤ W) (h2 : W ≤ 64) (hh : Held w ps) (hr : Reach wr w) (ho : 4 ≤ o ∧ o ≤ 20) (hoi : oi = (o : Nat)) (al : Al2 w w' qs) (hm : (sb, a, b) ∈ qs ++ ps) (rest : ∀ wk, Held wk (qs ++ ps) → Reach wr wk → Q (.returned (.int .u64 ((wm W o a b : Nat) : Int))) wk) :
    Calls Try.prog 6 #[.pointer (some ⟨cb, 0, none⟩), .int .u8 oi, .slice (some ⟨sb, 0, none⟩) 2 2] w' Q := by
  subst hoi
  exact of_arm' hcs h1 h2 hh hr ho al hm rest
theorem of_armJ {wr w w' : World} {ps qs : List (Nat × Nat × Nat)} {cb W sb a b : Nat} {oi : Int} {Q : Ending → World → Prop} (hcs : CC cb W wr) (h1 : 1 ≤ W) (h2 : W ≤ 64) (hh : Held w ps) (hr : Reach wr w) (ho : 4 ≤ oi.toNat ∧ oi.toNat ≤ 20 ∧ oi = (oi.toNat : Nat)) (al : Al2 w w' qs) {r : Nat} (hm : (sb, a, b) ∈ qs ++ ps) (hq : wm W oi.toNat a b = r) (rest : ∀ wk, Held wk (qs ++ ps) → Reach wr wk → Q (.returned (.int .u64 ((r : Nat) : Int))) wk) :
    Calls Try.prog 6 #[.pointer (some ⟨cb, 0, none⟩), .int .u8 oi, .slice (some ⟨sb, 0, none⟩) 2 2] w' Q := by
  rw [ho.2.2]
  exact of_arm' hcs h1 h2 hh hr ⟨ho.1, ho.2.1⟩ al hm (hq ▸ rest)
theorem mhd {x : Nat × Nat × Nat} {l : List (Nat × Nat × Nat)} : x ∈ x :: l := List.mem_cons_self
theorem mtl {x y : Nat × Nat × Nat} {l : List (Nat × Nat × Nat)} (h : x ∈ l) : x ∈ y :: l := List.mem_cons_of_mem _ h
theorem al_size (w : World) (o : Obj) : (w.alloc o).heap.size = w.heap.size + 1 := by unfold World.alloc; exact Array.size_push _
theorem dr_size (w : World) : w.drew.heap.size = w.heap.size := rfl
theorem u64_wm {W o a b : Nat} (h1 : 1 ≤ W) (h2 : W ≤ 64) : U64N (wm W o a b) := by
  have := wm_lt W o a b h1
  have hp : 2 ^ W ≤ 2 ^ 64 := Nat.pow_le_pow_right (by decide) h2
  unfold U64N; omega
theorem Held.sub {w : World} {ps qs : List (Nat × Nat × Nat)} (h : Held w ps) (hs : ∀ p ∈ qs, p ∈ ps) : Held w qs := fun p hp => h p (hs p hp)
noncomputable def ringRegion (id : Nat) : Code := (Try.f3.body.bind (regionBy id)).getD .skip
noncomputable def ringOps : Array Oper := match Try.f3.body.bind (regionBy 17) with
  | some (.region _ ops _) => ops
  | _ => #[]
/-- What the region works with. -/
structure RingIn (wr : World) (cb W o p X Y Z : Nat) : Prop where
  cc : CC cb W wr
  one : 1 ≤ W
  le : W ≤ 64
  ho : 4 ≤ o ∧ o ≤ 20
  hp : 4 ≤ p ∧ p ≤ 20
  x : U64N X
  y : U64N Y
  z : U64N Z
  eq : (((wm W o X (wm W p Y Z) : Nat) : Int) != ((wm W p (wm W o X Y) (wm W o X Z) : Nat) : Int)) = false
section
variable {P : Program} {ops : Array Oper} {Q : Exit → Act → World → Prop} {md : Region.Mode} {S : Array Bool → World → Prop}
theorem wpAnyT_conv {fuel : Nat} {l l' : Array Bool} {a : Act} {w : World} (e : l = l') (h : wpAnyT P md ops Q S fuel l' a w) : wpAnyT P md ops Q S fuel l a w := e ▸ h
theorem wpAnyT_takeC {T : World → Prop} {i : Nat} {oi : Oper} {v : Value} {fuel : Nat} {listed : Array Bool} {a : Act} {w : World} (hi : ops[i]? = some oi) (hs : Region.noSelect ops = true) (hf : Region.free md ops listed i = true) (hr : (Region.ready md ops listed).contains i = true)
    (hQ : ∀ c a w, Q (.panic c) (a.put oi.dst v) w → Q (.panic c) a w) (hy : YieldsIf P ops T oi v a) (hS : T w)
    (h : wpAnyT P md ops Q (fun _ => T) fuel (listed.setIfInBounds i true) (a.put oi.dst v) w) : wpAnyT P md ops Q (fun _ => T) (fuel + 1) listed a w :=
  wpAnyT_first (S := fun _ => T) hi (Region.noSelect_spec hs) hQ (fun _ _ hS _ => hS) (fun _ _ hS _ => hS) (fun _ _ _ _ _ _ _ _ h => h) fuel listed a w (Region.free_spec hi hf) (by simpa using hr) hy hS h
theorem wpAnyT_three {i j m : Nat} {o o' o'' : Oper} {fuel : Nat} {listed : Array Bool} {a : Act} {w : World} (hr : Region.ready md ops listed = [i, j, m]) (ho : ops[i]? = some o) (ho' : ops[j]? = some o') (ho'' : ops[m]? = some o'')
    (h : ∀ K' : Act → World → Prop, Shut (∀ a w, S (listed.setIfInBounds i true) w → (S (listed.setIfInBounds i true) w → wpAnyT P md ops Q S fuel (listed.setIfInBounds i true) a w) → K' a w) → if Region.wanted o (yielded ops a.tmps) = true then Oper.wp P o a w K' Q else K' (a.put o.dst undef) w)
    (h' : ∀ K' : Act → World → Prop, Shut (∀ a w, S (listed.setIfInBounds j true) w → (S (listed.setIfInBounds j true) w → wpAnyT P md ops Q S fuel (listed.setIfInBounds j true) a w) → K' a w) → if Region.wanted o' (yielded ops a.tmps) = true then Oper.wp P o' a w K' Q else K' (a.put o'.dst undef) w)
    (h'' : ∀ K' : Act → World → Prop, Shut (∀ a w, S (listed.setIfInBounds m true) w → (S (listed.setIfInBounds m true) w → wpAnyT P md ops Q S fuel (listed.setIfInBounds m true) a w) → K' a w) → if Region.wanted o'' (yielded ops a.tmps) = true then Oper.wp P o'' a w K' Q else K' (a.put o''.dst undef) w) :
    wpAnyT P md ops Q S (fuel + 1) listed a w :=
  wpAnyT_all hr (by simp) fun k hk => by
    simp only [List.mem_cons, List.not_mem_nil, or_false] at hk
    rcases hk with rfl | rfl | rfl
    · exact wpOp_step ho (fun K' hK => h K' (fun a w hS hW => hK a w ⟨hS, hW hS⟩))
    · exact wpOp_step ho' (fun K' hK => h' K' (fun a w hS hW => hK a w ⟨hS, hW hS⟩))
    · exact wpOp_step ho'' (fun K' hK => h'' K' (fun a w hS hW => hK a w ⟨hS, hW hS⟩))
end
end Go.Proofs.Ytpboinmmhlgdaaa
