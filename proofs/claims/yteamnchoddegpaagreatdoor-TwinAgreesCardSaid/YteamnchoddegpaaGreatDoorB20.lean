/- SplitB, SplitC: joined by wip/bundle.py. -/
import Derived.Test.YteamnchoddegpaaGreatDoorB1
import Derived.Test.YteamnchoddegpaaGreatDoorB2
import Derived.Test.YteamnchoddegpaaGreatDoorB3
import Derived.Test.YteamnchoddegpaaGreatDoorB4
import Derived.Test.YteamnchoddegpaaGreatDoorB5
import Derived.Test.YteamnchoddegpaaGreatDoorB6
import Derived.Test.YteamnchoddegpaaGreatDoorB7
import Derived.Test.YteamnchoddegpaaGreatDoorB8
import Derived.Test.YteamnchoddegpaaGreatDoorB9
import Derived.Test.YteamnchoddegpaaGreatDoorB10
import Derived.Test.YteamnchoddegpaaGreatDoorB11
import Derived.Test.YteamnchoddegpaaGreatDoorB12
import Derived.Test.YteamnchoddegpaaGreatDoorB13
import Derived.Test.YteamnchoddegpaaGreatDoorB14
import Derived.Test.YteamnchoddegpaaGreatDoorB15
import Derived.Test.YteamnchoddegpaaGreatDoorB16
import Derived.Test.YteamnchoddegpaaGreatDoorB17
import Derived.Test.YteamnchoddegpaaGreatDoorB18
import Derived.Test.YteamnchoddegpaaGreatDoorB19
import Derived.BigQuiet
namespace Go.Proofs.YteamnchoddegpaaGreatDoor
open Go.RowKit Go.Maps
set_option maxHeartbeats 3200000
noncomputable def splitRegion (id : Nat) : Code := (Tryz.f46.body.bind (regionBy id)).getD .skip
/-- What the closure holds by reference and does not write. -/
def splK (p5 p6 p7 p8 p9 p14 lb : Nat) (level n : Int) (chv vv : Value) : Thing := Thing.bundle [Thing.box p5 28 #[.pointer (some ⟨lb, 0, none⟩)], Thing.box p6 3 #[.int .i64 level], Thing.box p7 24 #[chv], Thing.box p8 3 #[.int .i64 n], Thing.box p9 25 #[vv], Thing.box p14 94 #[.func (.func 45) #[] #[.pointer (some ⟨p9, 0, none⟩)]]]
structure SplC (p5 p6 p7 p8 p9 p14 lb : Nat) (level n : Int) (chv vv : Value) (w : World) : Prop where
  c5 : w.cell? ⟨p5, 0, none⟩ = some (.pointer (some ⟨lb, 0, none⟩))
  c6 : w.cell? ⟨p6, 0, none⟩ = some (.int .i64 level)
  c7 : w.cell? ⟨p7, 0, none⟩ = some chv
  c8 : w.cell? ⟨p8, 0, none⟩ = some (.int .i64 n)
  c9 : w.cell? ⟨p9, 0, none⟩ = some vv
  c14 : w.cell? ⟨p14, 0, none⟩ = some (.func (.func 45) #[] #[.pointer (some ⟨p9, 0, none⟩)])
theorem splK_cells {p5 p6 p7 p8 p9 p14 lb : Nat} {level n : Int} {chv vv : Value} {w : World} (h : (splK p5 p6 p7 p8 p9 p14 lb level n chv vv).holds w) : SplC p5 p6 p7 p8 p9 p14 lb level n chv vv w := by
  have g : ∀ b T x, Thing.box b T #[x] ∈ [Thing.box p5 28 #[.pointer (some ⟨lb, 0, none⟩)], Thing.box p6 3 #[.int .i64 level], Thing.box p7 24 #[chv], Thing.box p8 3 #[.int .i64 n], Thing.box p9 25 #[vv], Thing.box p14 94 #[.func (.func 45) #[] #[.pointer (some ⟨p9, 0, none⟩)]]] → w.cell? ⟨b, 0, none⟩ = some x := fun b T x hm => by
    rw [cell_of_row w b 0 _ _ _ (h.1 _ hm)]; rfl
  exact ⟨g p5 28 _ (by simp), g p6 3 _ (by simp), g p7 24 _ (by simp), g p8 3 _ (by simp), g p9 25 _ (by simp), g p14 94 _ (by simp)⟩
/-- What the region reads until its first store. -/
def SplT (p5 p6 p7 p14 p9 pa pb ga gb na nb ca cb c lb : Nat) (level : Int) (chv sa sb : Value) (w : World) : Prop :=
  w.cell? ⟨pa, 0, none⟩ = some (.slice (some ⟨ga, 0, none⟩) na ca) ∧ w.cell? ⟨pb, 0, none⟩ = some (.slice (some ⟨gb, 0, none⟩) nb cb) ∧ w.cell? ⟨ga, c, none⟩ = some sa ∧ w.cell? ⟨gb, c, none⟩ = some sb ∧
  w.cell? ⟨p14, 0, none⟩ = some (.func (.func 45) #[] #[.pointer (some ⟨p9, 0, none⟩)]) ∧ w.cell? ⟨p5, 0, none⟩ = some (.pointer (some ⟨lb, 0, none⟩)) ∧ w.cell? ⟨p6, 0, none⟩ = some (.int .i64 level) ∧ w.cell? ⟨p7, 0, none⟩ = some chv
section
variable {w0 wq wr w' : World} {ts : List Thing}
theorem Lab.rotG7 {s t u v x y z : Thing} (h : Lab w0 wr (s :: t :: u :: v :: x :: y :: z :: ts)) : Lab w0 wr (z :: s :: t :: u :: v :: x :: y :: ts) := h.perm (List.perm_middle (l₁ := [s, t, u, v, x, y]))
theorem Lab.rotG8 {s t u v x y z a : Thing} (h : Lab w0 wr (s :: t :: u :: v :: x :: y :: z :: a :: ts)) : Lab w0 wr (a :: s :: t :: u :: v :: x :: y :: z :: ts) := h.perm (List.perm_middle (l₁ := [s, t, u, v, x, y, z]))
theorem Lab.rotG9 {s t u v x y z a b : Thing} (h : Lab w0 wr (s :: t :: u :: v :: x :: y :: z :: a :: b :: ts)) : Lab w0 wr (b :: s :: t :: u :: v :: x :: y :: z :: a :: ts) := h.perm (List.perm_middle (l₁ := [s, t, u, v, x, y, z, a]))
theorem spl_T {p5 p6 p7 p8 p9 p14 pa pb ga gb na nb ca cb c lb : Nat} {level n : Int} {chv vv sa sb : Value} {vsa vsb : List Value} (ha : vsa[c]? = some sa) (hb : vsb[c]? = some sb) (hca : c < na) (hcb : c < nb)
    (h : Lab wq wr (Thing.box pa 54 #[.slice (some ⟨ga, 0, none⟩) na ca] :: Thing.box pb 54 #[.slice (some ⟨gb, 0, none⟩) nb cb] :: Thing.row 25 1 (.slice (some ⟨ga, 0, none⟩) na ca) na vsa :: Thing.row 25 1 (.slice (some ⟨gb, 0, none⟩) nb cb) nb vsb :: splK p5 p6 p7 p8 p9 p14 lb level n chv vv :: ts)) :
    SplT p5 p6 p7 p14 p9 pa pb ga gb na nb ca cb c lb level chv sa sb wr := by
  have k := splK_cells h.fifth
  refine ⟨by rw [cell_of_row _ pa 0 _ _ _ h.box1]; rfl, by rw [cell_of_row _ pb 0 _ _ _ h.box2]; rfl, ?_, ?_, k.c14, k.c5, k.c6, k.c7⟩
  · rw [World.ownsRow.cellAt h.third c (by omega), ha]
  · rw [World.ownsRow.cellAt h.fourth c (by omega), hb]
theorem SplT.later {p5 p6 p7 p9 p14 pa pb ga gb na nb ca cb c lb : Nat} {level : Int} {chv sa sb : Value} (h : SplT p5 p6 p7 p14 p9 pa pb ga gb na nb ca cb c lb level chv sa sb wr) (hb : Below wr.heap.size wr w') : SplT p5 p6 p7 p14 p9 pa pb ga gb na nb ca cb c lb level chv sa sb w' :=
  ⟨cell_later hb h.1, cell_later hb h.2.1, cell_later hb h.2.2.1, cell_later hb h.2.2.2.1, cell_later hb h.2.2.2.2.1, cell_later hb h.2.2.2.2.2.1, cell_later hb h.2.2.2.2.2.2.1, cell_later hb h.2.2.2.2.2.2.2⟩
set_option maxRecDepth 100000 in
theorem split_region7 {u8 u10 u11 u12 u13 u14 u15 u16 u17 u18 u19 u20 u21 u22 u23 u24 u25 u26 u27 u28 u29 u30 u31 u32 u33 u34 u35 u36 u37 u38 u39 u40 u41 u42 u43 u44 u45 u46 u47 u48 u49 u50 u51 u52 u53 u54 u55 u56 u57 : Value} {Q : Exit → Act → World → Prop} {z1 : Value} {p5 p6 p7 p8 p9 p14 pa pb ga gb na nb ca cb c lb N m q ma mb cca ccb : Nat} {level n : Int} {chv vv : Value} {R : Rel} {ls vals : List Int} {aa ab : Option Addr} {vsa vsb ca0 cb0 : List Value} {xa xb : Thing}
    (hv : SliceOf wq .u64 vv vals) (hlat : LatIs wq lb N R) (hch : SliceOf wq .i64 chv ls) (hl1 : 1 ≤ ls.length) (hl2 : ls.length ≤ 32) (hm : m < 999999999) (hq : ofR N R level ls (m : Int) = (q : Int)) (hma : ma ≤ 999999999) (hmb : mb ≤ 999999999)
    (ha : vsa[c]? = some (.slice aa ma cca)) (hb : vsb[c]? = some (.slice ab mb ccb)) (hca : c < na) (hcb : c < nb)
    (h : Lab wq wr (Thing.row 43 1 (.slice aa ma cca) ma ca0 :: Thing.row 25 1 (.slice (some ⟨ga, 0, none⟩) na ca) na vsa :: xa :: Thing.row 43 1 (.slice ab mb ccb) mb cb0 :: Thing.row 25 1 (.slice (some ⟨gb, 0, none⟩) nb cb) nb vsb :: xb :: Thing.box pa 54 #[.slice (some ⟨ga, 0, none⟩) na ca] :: Thing.box pb 54 #[.slice (some ⟨gb, 0, none⟩) nb cb] :: splK p5 p6 p7 p8 p9 p14 lb level n chv vv :: ts))
    (hQ : ∀ aa' cca' ab' ccb' v28 v29 v30 v31 v32 v33 v34 v35 v36 v37 v38 v39 v40 v41 v42 v43 v44 v45 v46 v47 v48 v49 v50 v51 v52 v53 v54 v55 w3, Lab wq w3 (Thing.row 43 1 (.slice aa' (ma + 1) cca') (ma + 1) (ca0 ++ [.int .u64 (valAt vals m)]) :: Thing.row 25 1 (.slice (some ⟨ga, 0, none⟩) na ca) na (vsa.set c (.slice aa' (ma + 1) cca')) :: xa :: Thing.row 43 1 (.slice ab' (mb + 1) ccb') (mb + 1) (cb0 ++ [.int .u64 (valAt vals q)]) :: Thing.row 25 1 (.slice (some ⟨gb, 0, none⟩) nb cb) nb (vsb.set c (.slice ab' (mb + 1) ccb')) :: xb :: Thing.box pa 54 #[.slice (some ⟨ga, 0, none⟩) na ca] :: Thing.box pb 54 #[.slice (some ⟨gb, 0, none⟩) nb cb] :: splK p5 p6 p7 p8 p9 p14 lb level n chv vv :: ts) → Q .normal ⟨(List.toArray (.pointer (some ⟨p7, 0, none⟩) :: z1 :: .pointer (some ⟨pa, 0, none⟩) :: .pointer (some ⟨p14, 0, none⟩) :: .pointer (some ⟨pb, 0, none⟩) :: .pointer (some ⟨p5, 0, none⟩) :: .pointer (some ⟨p6, 0, none⟩) :: .int .i64 c :: u8 :: .int .i64 m :: u10 :: u11 :: u12 :: u13 :: u14 :: u15 :: u16 :: u17 :: u18 :: u19 :: u20 :: u21 :: u22 :: u23 :: u24 :: u25 :: u26 :: u27 :: v28 :: v29 :: v30 :: v31 :: v32 :: v33 :: v34 :: v35 :: v36 :: v37 :: v38 :: v39 :: v40 :: v41 :: v42 :: v43 :: v44 :: v45 :: v46 :: v47 :: v48 :: v49 :: v50 :: v51 :: v52 :: v53 :: v54 :: v55 :: u56 :: u57 :: [])), []⟩ w3) :
    Code.wp Tryz.prog (splitRegion 7) Q ⟨(List.toArray (.pointer (some ⟨p7, 0, none⟩) :: z1 :: .pointer (some ⟨pa, 0, none⟩) :: .pointer (some ⟨p14, 0, none⟩) :: .pointer (some ⟨pb, 0, none⟩) :: .pointer (some ⟨p5, 0, none⟩) :: .pointer (some ⟨p6, 0, none⟩) :: .int .i64 c :: u8 :: .int .i64 m :: u10 :: u11 :: u12 :: u13 :: u14 :: u15 :: u16 :: u17 :: u18 :: u19 :: u20 :: u21 :: u22 :: u23 :: u24 :: u25 :: u26 :: u27 :: u28 :: u29 :: u30 :: u31 :: u32 :: u33 :: u34 :: u35 :: u36 :: u37 :: u38 :: u39 :: u40 :: u41 :: u42 :: u43 :: u44 :: u45 :: u46 :: u47 :: u48 :: u49 :: u50 :: u51 :: u52 :: u53 :: u54 :: u55 :: u56 :: u57 :: [])), []⟩ wr := by
  have c0 : (0 : Int) ≤ (c : Int) := by omega
  have c1 : (c : Int) < (na : Int) := by omega
  have c2 : (c : Int) < (nb : Int) := by omega
  have HL := Lib.hid h.drew1; have HQ := Lib.hid hQ; have HV := Lib.hid (And.intro hv (And.intro hlat hch)); have HA := Lib.hid (And.intro (And.intro ha hca) (And.intro hb hcb)); have HLS := Lib.hid (And.intro hl1 hl2); have HM := Lib.hid (And.intro hm (And.intro hma hmb)); have HOF := Lib.hid hq
  clear h hQ hv hlat hch hl1 hl2 ha hb hm hma hmb hca hcb hq
  have HT : Hid (SplT p5 p6 p7 p14 p9 pa pb ga gb na nb ca cb c lb level chv (.slice aa ma cca) (.slice ab mb ccb) wr.drew) := Lib.hid (spl_T HA.out.1.1 HA.out.2.1 HA.out.1.2 HA.out.2.2 HL.out.rotG9.rot6.rot4.rotG9.rotG9)
  conv => arg 2; whnf
  refine wp_region_noPanic ?_
  refine wp_region_any (by kernel_rfl) (wpAny_of_T (S := SUpto (SplT p5 p6 p7 p14 p9 pa pb ga gb na nb ca cb c lb level chv (.slice aa ma cca) (.slice ab mb ccb)) 27 [0, 2, 4, 7, 8, 13, 16, 17, 18, 19, 20]) _ _ _ _ ?_)
  have hS : SUpto (SplT p5 p6 p7 p14 p9 pa pb ga gb na nb ca cb c lb level chv (.slice aa ma cca) (.slice ab mb ccb)) 27 [0, 2, 4, 7, 8, 13, 16, 17, 18, 19, 20] (Array.replicate 30 false) wr.drew := .inr ⟨rfl, HT.out⟩
  refine wpAnyT_takeU (i := 0) (oi := { dst := some 28, op := Go.Op.load 54 (Go.Operand.tmp 2), type := 54, pos := "twin.go:105", after := #[], guard := none }) (v := ?v0) rfl (by kernel_rfl) (by kernel_rfl) (by kernel_rfl) (by decide) (fun _ => by kernel_rfl) (fun _ _ _ h => h) (Or.inl ⟨by rfl, ?hy0⟩) hS (fun hS => ?rest0)
  case hy0 =>
    intro w hSw
    obtain ⟨f0, f1, f2, f3, f4, f5, f6, f7⟩ := hSw (by decide)
    clear hSw
    go_simp
    with_reducible rfl
  try simp only [Act.put, List.setIfInBounds_toArray, List.set_cons_zero, List.set_cons_succ]
  refine wpAnyT_takeU (i := 1) (oi := { dst := some 29, op := Go.Op.move (Go.Operand.tmp 7), type := 3, pos := "twin.go:105", after := #[], guard := none }) (v := ?v1) rfl (by kernel_rfl) (by kernel_rfl) (by kernel_rfl) (by decide) (fun h => absurd h (by decide)) (fun _ _ _ h => h) (Or.inl ⟨by rfl, ?hy1⟩) hS (fun hS => ?rest1)
  case hy1 =>
    intro w hSw
    clear hSw
    go_simp
    with_reducible rfl
  try simp only [Act.put, List.setIfInBounds_toArray, List.set_cons_zero, List.set_cons_succ]
  refine wpAnyT_takeU (i := 2) (oi := { dst := some 30, op := Go.Op.load 54 (Go.Operand.tmp 4), type := 54, pos := "twin.go:105", after := #[], guard := none }) (v := ?v2) rfl (by kernel_rfl) (by kernel_rfl) (by kernel_rfl) (by decide) (fun _ => by kernel_rfl) (fun _ _ _ h => h) (Or.inl ⟨by rfl, ?hy2⟩) hS (fun hS => ?rest2)
  case hy2 =>
    intro w hSw
    obtain ⟨f0, f1, f2, f3, f4, f5, f6, f7⟩ := hSw (by decide)
    clear hSw
    go_simp
    with_reducible rfl
  try simp only [Act.put, List.setIfInBounds_toArray, List.set_cons_zero, List.set_cons_succ]
  refine wpAnyT_takeU (i := 3) (oi := { dst := some 31, op := Go.Op.move (Go.Operand.tmp 7), type := 3, pos := "twin.go:105", after := #[{ on := 27, ground := Go.Ground.gcOnly Go.Departure.lateStores }], guard := none }) (v := ?v3) rfl (by kernel_rfl) (by kernel_rfl) (by kernel_rfl) (by decide) (fun h => absurd h (by decide)) (fun _ _ _ h => h) (Or.inl ⟨by rfl, ?hy3⟩) hS (fun hS => ?rest3)
  case hy3 =>
    intro w hSw
    clear hSw
    go_simp
    with_reducible rfl
  try simp only [Act.put, List.setIfInBounds_toArray, List.set_cons_zero, List.set_cons_succ]
  refine wpAnyT_takeU (i := 4) (oi := { dst := some 32, op := Go.Op.load 54 (Go.Operand.tmp 2), type := 54, pos := "twin.go:105", after := #[], guard := none }) (v := ?v4) rfl (by kernel_rfl) (by kernel_rfl) (by kernel_rfl) (by decide) (fun _ => by kernel_rfl) (fun _ _ _ h => h) (Or.inl ⟨by rfl, ?hy4⟩) hS (fun hS => ?rest4)
  case hy4 =>
    intro w hSw
    obtain ⟨f0, f1, f2, f3, f4, f5, f6, f7⟩ := hSw (by decide)
    clear hSw
    go_simp
    with_reducible rfl
  try simp only [Act.put, List.setIfInBounds_toArray, List.set_cons_zero, List.set_cons_succ]
  refine wpAnyT_takeU (i := 5) (oi := { dst := some 33, op := Go.Op.move (Go.Operand.tmp 7), type := 3, pos := "twin.go:105", after := #[], guard := none }) (v := ?v5) rfl (by kernel_rfl) (by kernel_rfl) (by kernel_rfl) (by decide) (fun h => absurd h (by decide)) (fun _ _ _ h => h) (Or.inl ⟨by rfl, ?hy5⟩) hS (fun hS => ?rest5)
  case hy5 =>
    intro w hSw
    clear hSw
    go_simp
    with_reducible rfl
  try simp only [Act.put, List.setIfInBounds_toArray, List.set_cons_zero, List.set_cons_succ]
  refine wpAnyT_takeU (i := 6) (oi := { dst := some 34, op := Go.Op.indexAddr 54 (Go.Operand.tmp 32) (Go.Operand.tmp 33), type := 0, pos := "twin.go:105", after := #[{ on := 4, ground := Go.Ground.data }, { on := 5, ground := Go.Ground.data }], guard := none }) (v := ?v6) rfl (by kernel_rfl) (by kernel_rfl) (by kernel_rfl) (by decide) (fun h => absurd h (by decide)) (fun _ _ _ h => h) (Or.inl ⟨by rfl, ?hy6⟩) hS (fun hS => ?rest6)
  case hy6 =>
    intro w hSw
    clear hSw
    go_simp
    with_reducible rfl
  try simp only [Act.put, List.setIfInBounds_toArray, List.set_cons_zero, List.set_cons_succ]
  refine wpAnyT_takeU (i := 7) (oi := { dst := some 35, op := Go.Op.load 25 (Go.Operand.tmp 34), type := 25, pos := "twin.go:105", after := #[{ on := 6, ground := Go.Ground.data }], guard := none }) (v := ?v7) rfl (by kernel_rfl) (by kernel_rfl) (by kernel_rfl) (by decide) (fun _ => by kernel_rfl) (fun _ _ _ h => h) (Or.inl ⟨by rfl, ?hy7⟩) hS (fun hS => ?rest7)
  case hy7 =>
    intro w hSw
    obtain ⟨f0, f1, f2, f3, f4, f5, f6, f7⟩ := hSw (by decide)
    clear hSw
    go_simp
    with_reducible rfl
  try simp only [Act.put, List.setIfInBounds_toArray, List.set_cons_zero, List.set_cons_succ]
  refine wpAnyT_takeU (i := 8) (oi := { dst := some 36, op := Go.Op.load 94 (Go.Operand.tmp 3), type := 94, pos := "twin.go:105", after := #[], guard := none }) (v := ?v8) rfl (by kernel_rfl) (by kernel_rfl) (by kernel_rfl) (by decide) (fun _ => by kernel_rfl) (fun _ _ _ h => h) (Or.inl ⟨by rfl, ?hy8⟩) hS (fun hS => ?rest8)
  case hy8 =>
    intro w hSw
    obtain ⟨f0, f1, f2, f3, f4, f5, f6, f7⟩ := hSw (by decide)
    clear hSw
    go_simp
    with_reducible rfl
  try simp only [Act.put, List.setIfInBounds_toArray, List.set_cons_zero, List.set_cons_succ]
  refine wpAnyT_takeU (i := 9) (oi := { dst := some 37, op := Go.Op.move (Go.Operand.tmp 9), type := 3, pos := "twin.go:105", after := #[], guard := none }) (v := ?v9) rfl (by kernel_rfl) (by kernel_rfl) (by kernel_rfl) (by decide) (fun h => absurd h (by decide)) (fun _ _ _ h => h) (Or.inl ⟨by rfl, ?hy9⟩) hS (fun hS => ?rest9)
  case hy9 =>
    intro w hSw
    clear hSw
    go_simp
    with_reducible rfl
  try simp only [Act.put, List.setIfInBounds_toArray, List.set_cons_zero, List.set_cons_succ]
  refine wpAnyT_takeU (i := 13) (oi := { dst := some 41, op := Go.Op.load 54 (Go.Operand.tmp 4), type := 54, pos := "twin.go:105", after := #[], guard := none }) (v := ?v13) rfl (by kernel_rfl) (by kernel_rfl) (by kernel_rfl) (by decide) (fun _ => by kernel_rfl) (fun _ _ _ h => h) (Or.inl ⟨by rfl, ?hy13⟩) hS (fun hS => ?rest13)
  case hy13 =>
    intro w hSw
    obtain ⟨f0, f1, f2, f3, f4, f5, f6, f7⟩ := hSw (by decide)
    clear hSw
    go_simp
    with_reducible rfl
  try simp only [Act.put, List.setIfInBounds_toArray, List.set_cons_zero, List.set_cons_succ]
  refine wpAnyT_takeU (i := 14) (oi := { dst := some 42, op := Go.Op.move (Go.Operand.tmp 7), type := 3, pos := "twin.go:105", after := #[], guard := none }) (v := ?v14) rfl (by kernel_rfl) (by kernel_rfl) (by kernel_rfl) (by decide) (fun h => absurd h (by decide)) (fun _ _ _ h => h) (Or.inl ⟨by rfl, ?hy14⟩) hS (fun hS => ?rest14)
  case hy14 =>
    intro w hSw
    clear hSw
    go_simp
    with_reducible rfl
  try simp only [Act.put, List.setIfInBounds_toArray, List.set_cons_zero, List.set_cons_succ]
  refine wpAnyT_takeU (i := 15) (oi := { dst := some 43, op := Go.Op.indexAddr 54 (Go.Operand.tmp 41) (Go.Operand.tmp 42), type := 0, pos := "twin.go:105", after := #[{ on := 13, ground := Go.Ground.data }, { on := 14, ground := Go.Ground.data }], guard := none }) (v := ?v15) rfl (by kernel_rfl) (by kernel_rfl) (by kernel_rfl) (by decide) (fun h => absurd h (by decide)) (fun _ _ _ h => h) (Or.inl ⟨by rfl, ?hy15⟩) hS (fun hS => ?rest15)
  case hy15 =>
    intro w hSw
    clear hSw
    go_simp
    with_reducible rfl
  try simp only [Act.put, List.setIfInBounds_toArray, List.set_cons_zero, List.set_cons_succ]
  refine wpAnyT_takeU (i := 16) (oi := { dst := some 44, op := Go.Op.load 25 (Go.Operand.tmp 43), type := 25, pos := "twin.go:105", after := #[{ on := 15, ground := Go.Ground.data }], guard := none }) (v := ?v16) rfl (by kernel_rfl) (by kernel_rfl) (by kernel_rfl) (by decide) (fun _ => by kernel_rfl) (fun _ _ _ h => h) (Or.inl ⟨by rfl, ?hy16⟩) hS (fun hS => ?rest16)
  case hy16 =>
    intro w hSw
    obtain ⟨f0, f1, f2, f3, f4, f5, f6, f7⟩ := hSw (by decide)
    clear hSw
    go_simp
    with_reducible rfl
  try simp only [Act.put, List.setIfInBounds_toArray, List.set_cons_zero, List.set_cons_succ]
  refine wpAnyT_takeU (i := 17) (oi := { dst := some 45, op := Go.Op.load 94 (Go.Operand.tmp 3), type := 94, pos := "twin.go:105", after := #[], guard := none }) (v := ?v17) rfl (by kernel_rfl) (by kernel_rfl) (by kernel_rfl) (by decide) (fun _ => by kernel_rfl) (fun _ _ _ h => h) (Or.inl ⟨by rfl, ?hy17⟩) hS (fun hS => ?rest17)
  case hy17 =>
    intro w hSw
    obtain ⟨f0, f1, f2, f3, f4, f5, f6, f7⟩ := hSw (by decide)
    clear hSw
    go_simp
    with_reducible rfl
  try simp only [Act.put, List.setIfInBounds_toArray, List.set_cons_zero, List.set_cons_succ]
  refine wpAnyT_takeU (i := 18) (oi := { dst := some 46, op := Go.Op.load 28 (Go.Operand.tmp 5), type := 28, pos := "twin.go:105", after := #[], guard := none }) (v := ?v18) rfl (by kernel_rfl) (by kernel_rfl) (by kernel_rfl) (by decide) (fun _ => by kernel_rfl) (fun _ _ _ h => h) (Or.inl ⟨by rfl, ?hy18⟩) hS (fun hS => ?rest18)
  case hy18 =>
    intro w hSw
    obtain ⟨f0, f1, f2, f3, f4, f5, f6, f7⟩ := hSw (by decide)
    clear hSw
    go_simp
    with_reducible rfl
  try simp only [Act.put, List.setIfInBounds_toArray, List.set_cons_zero, List.set_cons_succ]
  refine wpAnyT_takeU (i := 19) (oi := { dst := some 47, op := Go.Op.load 3 (Go.Operand.tmp 6), type := 3, pos := "twin.go:105", after := #[], guard := none }) (v := ?v19) rfl (by kernel_rfl) (by kernel_rfl) (by kernel_rfl) (by decide) (fun _ => by kernel_rfl) (fun _ _ _ h => h) (Or.inl ⟨by rfl, ?hy19⟩) hS (fun hS => ?rest19)
  case hy19 =>
    intro w hSw
    obtain ⟨f0, f1, f2, f3, f4, f5, f6, f7⟩ := hSw (by decide)
    clear hSw
    go_simp
    with_reducible rfl
  try simp only [Act.put, List.setIfInBounds_toArray, List.set_cons_zero, List.set_cons_succ]
  refine wpAnyT_takeU (i := 20) (oi := { dst := some 48, op := Go.Op.load 24 (Go.Operand.tmp 0), type := 24, pos := "twin.go:105", after := #[], guard := none }) (v := ?v20) rfl (by kernel_rfl) (by kernel_rfl) (by kernel_rfl) (by decide) (fun _ => by kernel_rfl) (fun _ _ _ h => h) (Or.inl ⟨by rfl, ?hy20⟩) hS (fun hS => ?rest20)
  case hy20 =>
    intro w hSw
    obtain ⟨f0, f1, f2, f3, f4, f5, f6, f7⟩ := hSw (by decide)
    clear hSw
    go_simp
    with_reducible rfl
  try simp only [Act.put, List.setIfInBounds_toArray, List.set_cons_zero, List.set_cons_succ]
  refine wpAnyT_takeU (i := 21) (oi := { dst := some 49, op := Go.Op.move (Go.Operand.tmp 9), type := 3, pos := "twin.go:105", after := #[], guard := none }) (v := ?v21) rfl (by kernel_rfl) (by kernel_rfl) (by kernel_rfl) (by decide) (fun h => absurd h (by decide)) (fun _ _ _ h => h) (Or.inl ⟨by rfl, ?hy21⟩) hS (fun hS => ?rest21)
  case hy21 =>
    intro w hSw
    clear hSw
    go_simp
    with_reducible rfl
  try simp only [Act.put, List.setIfInBounds_toArray, List.set_cons_zero, List.set_cons_succ]
  change wpAnyT _ _ _ _ _ _ _ _ wr.drew
  clear hS
  refine wpAnyT_one (i := 10) (o := { dst := some 38, op := Go.Op.call { callee := Go.Callee.value (Go.Operand.tmp 36), args := #[Go.Operand.tmp 37], argTypes := #[3] }, type := 43, pos := "twin.go:105", after := #[{ on := 8, ground := Go.Ground.data }, { on := 9, ground := Go.Ground.data }], guard := none }) (by kernel_rfl) rfl (fun K hK => ?_)
  go_simp
  go_at_call 45
  refine (value1_any (w := wr.drew) (HV.out.1.later (HL.out.below.mono (Nat.le_refl _))) (splK_cells (HL.out.holds (splK p5 p6 p7 p8 p9 p14 lb level n chv vv) (by simp))).c9 m).mono ?_
  rintro e w1 ⟨rfl, rfl⟩
  go_simp
  refine hK.out _ _ (.inr ⟨rfl, HT.out⟩) (fun hS => ?_)
  clear hK K hS
  try simp only [Act.put, List.setIfInBounds_toArray, List.set_cons_zero, List.set_cons_succ]
  refine wpAnyT_one (i := 11) (o := { dst := some 39, op := Go.Op.buildSlice 25 1 #[(0, Go.Operand.tmp 38)], type := 25, pos := "twin.go:105", after := #[{ on := 10, ground := Go.Ground.data }], guard := none }) (by kernel_rfl) rfl (fun K hK => ?_)
  go_simp
  refine hK.out _ _ (.inr ⟨rfl, HT.out.later (below_new _ _)⟩) (fun hS => ?_)
  clear hK K hS
  try simp only [Act.put, List.setIfInBounds_toArray, List.set_cons_zero, List.set_cons_succ]
  refine wpAnyT_one (i := 12) (o := { dst := some 40, op := Go.Op.call { callee := Go.Callee.builtin Go.Builtin.append, args := #[Go.Operand.tmp 35, Go.Operand.tmp 39], argTypes := #[25, 25] }, type := 25, pos := "twin.go:105", after := #[{ on := 7, ground := Go.Ground.data }, { on := 11, ground := Go.Ground.data }, { on := 10, ground := Go.Ground.chain }], guard := none }) (by kernel_rfl) rfl (fun K hK => ?_)
  obtain ⟨aa', cca', w2, hr, hl2⟩ := run_append_row 25 25 43 8 (.int .u64 0) HL.out rfl (u := .int .u64 (valAt vals m)) rfl Tryz.underlying25 Tryz.infoU64 rfl (by decide) (by have := HM.out; omega)
  have HL2 := Lib.hid hl2
  have HT2 : Hid (SplT p5 p6 p7 p14 p9 pa pb ga gb na nb ca cb c lb level chv (.slice aa ma cca) (.slice ab mb ccb) w2) := Lib.hid (spl_T HA.out.1.1 HA.out.2.1 HA.out.1.2 HA.out.2.2 HL2.out.rotG9.rot6.rot4.rotG9.rotG9)
  clear hl2
  refine step_append_is (P := Tryz.prog) rfl _ _ 25 rfl _ _ rfl rfl _ _ hr ?_
  refine hK.out _ _ (.inr ⟨rfl, HT2.out⟩) (fun hS => ?_)
  clear hK K hS hr HT HL
  try simp only [Act.put, List.setIfInBounds_toArray, List.set_cons_zero, List.set_cons_succ]
  refine wpAnyT_one (i := 22) (o := { dst := some 50, op := Go.Op.call { callee := Go.Callee.value (Go.Operand.func 37), args := #[Go.Operand.tmp 46, Go.Operand.tmp 47, Go.Operand.tmp 48, Go.Operand.tmp 49], argTypes := #[28, 3, 24, 3] }, type := 3, pos := "twin.go:105", after := #[{ on := 18, ground := Go.Ground.data }, { on := 19, ground := Go.Ground.data }, { on := 20, ground := Go.Ground.data }, { on := 21, ground := Go.Ground.data }, { on := 12, ground := Go.Ground.chain }], guard := none }) (by kernel_rfl) rfl (fun K hK => ?_)
  go_simp
  go_at_call 37
  refine (twof_any (HV.out.2.1.later HL2.out.below) level (HV.out.2.2.later HL2.out.below) HLS.out.1 HLS.out.2 (m : Int) (by omega) (by have := HM.out; omega)).mono ?_
  rintro e w1 ⟨rfl, rfl⟩
  rw [HOF.out]
  go_simp
  refine hK.out _ _ (.inr ⟨rfl, HT2.out⟩) (fun hS => ?_)
  clear hK K hS
  try simp only [Act.put, List.setIfInBounds_toArray, List.set_cons_zero, List.set_cons_succ]
  refine wpAnyT_one (i := 23) (o := { dst := some 51, op := Go.Op.call { callee := Go.Callee.value (Go.Operand.tmp 45), args := #[Go.Operand.tmp 50], argTypes := #[3] }, type := 43, pos := "twin.go:105", after := #[{ on := 17, ground := Go.Ground.data }, { on := 22, ground := Go.Ground.data }, { on := 22, ground := Go.Ground.chain }], guard := none }) (by kernel_rfl) rfl (fun K hK => ?_)
  go_simp
  go_at_call 45
  refine (value1_any (HV.out.1.later HL2.out.below) (splK_cells (HL2.out.holds (splK p5 p6 p7 p8 p9 p14 lb level n chv vv) (by simp))).c9 q).mono ?_
  rintro e w1 ⟨rfl, rfl⟩
  go_simp
  refine hK.out _ _ (.inr ⟨rfl, HT2.out⟩) (fun hS => ?_)
  clear hK K hS
  try simp only [Act.put, List.setIfInBounds_toArray, List.set_cons_zero, List.set_cons_succ]
  refine wpAnyT_one (i := 24) (o := { dst := some 52, op := Go.Op.buildSlice 25 1 #[(0, Go.Operand.tmp 51)], type := 25, pos := "twin.go:105", after := #[{ on := 23, ground := Go.Ground.data }], guard := none }) (by kernel_rfl) rfl (fun K hK => ?_)
  go_simp
  refine hK.out _ _ (.inr ⟨rfl, HT2.out.later (below_new _ _)⟩) (fun hS => ?_)
  clear hK K hS
  try simp only [Act.put, List.setIfInBounds_toArray, List.set_cons_zero, List.set_cons_succ]
  refine wpAnyT_one (i := 25) (o := { dst := some 53, op := Go.Op.call { callee := Go.Callee.builtin Go.Builtin.append, args := #[Go.Operand.tmp 44, Go.Operand.tmp 52], argTypes := #[25, 25] }, type := 25, pos := "twin.go:105", after := #[{ on := 16, ground := Go.Ground.data }, { on := 24, ground := Go.Ground.data }, { on := 23, ground := Go.Ground.chain }], guard := none }) (by kernel_rfl) rfl (fun K hK => ?_)
  obtain ⟨ab', ccb', w4, hr, hl4⟩ := run_append_row 25 25 43 8 (.int .u64 0) HL2.out.rot4 rfl (u := .int .u64 (valAt vals q)) rfl Tryz.underlying25 Tryz.infoU64 rfl (by decide) (by have := HM.out; omega)
  have HL4 := Lib.hid hl4
  have HT4 : Hid (SplT p5 p6 p7 p14 p9 pa pb ga gb na nb ca cb c lb level chv (.slice aa ma cca) (.slice ab mb ccb) w4) := Lib.hid (spl_T HA.out.1.1 HA.out.2.1 HA.out.1.2 HA.out.2.2 HL4.out.rotG9.rot6.rot5.rotG9.rotG9)
  clear hl4
  refine step_append_is (P := Tryz.prog) rfl _ _ 25 rfl _ _ rfl rfl _ _ hr ?_
  refine hK.out _ _ (.inr ⟨rfl, HT4.out⟩) (fun hS => ?_)
  clear hK K hr HT2 HL2
  try simp only [Act.put, List.setIfInBounds_toArray, List.set_cons_zero, List.set_cons_succ]
  refine wpAnyT_takeU (i := 26) (oi := { dst := some 54, op := Go.Op.indexAddr 54 (Go.Operand.tmp 28) (Go.Operand.tmp 29), type := 0, pos := "twin.go:105", after := #[{ on := 0, ground := Go.Ground.data }, { on := 1, ground := Go.Ground.data }, { on := 0, ground := Go.Ground.phase }, { on := 1, ground := Go.Ground.phase }, { on := 2, ground := Go.Ground.phase }, { on := 3, ground := Go.Ground.textOnly Go.Departure.lateStores }, { on := 4, ground := Go.Ground.phase }, { on := 5, ground := Go.Ground.phase }, { on := 6, ground := Go.Ground.phase }, { on := 7, ground := Go.Ground.phase }, { on := 8, ground := Go.Ground.phase }, { on := 9, ground := Go.Ground.phase }, { on := 10, ground := Go.Ground.phase }, { on := 11, ground := Go.Ground.phase }, { on := 12, ground := Go.Ground.phase }, { on := 13, ground := Go.Ground.phase }, { on := 14, ground := Go.Ground.textOnly Go.Departure.lateStores }, { on := 15, ground := Go.Ground.textOnly Go.Departure.lateStoresUnsure }, { on := 16, ground := Go.Ground.phase }, { on := 17, ground := Go.Ground.phase }, { on := 18, ground := Go.Ground.phase }, { on := 19, ground := Go.Ground.phase }, { on := 20, ground := Go.Ground.phase }, { on := 21, ground := Go.Ground.textOnly Go.Departure.lateStores }, { on := 22, ground := Go.Ground.phase }, { on := 23, ground := Go.Ground.phase }, { on := 24, ground := Go.Ground.textOnly Go.Departure.lateStoresUnsure }, { on := 25, ground := Go.Ground.phase }], guard := none }) (v := ?v26) rfl (by kernel_rfl) (by kernel_rfl) (by kernel_rfl) (by decide) (fun h => absurd h (by decide)) (fun _ _ _ h => h) (Or.inl ⟨by rfl, ?hy26⟩) hS (fun hS => ?rest26)
  case hy26 =>
    intro w hSw
    clear hSw
    go_simp
    with_reducible rfl
  try simp only [Act.put, List.setIfInBounds_toArray, List.set_cons_zero, List.set_cons_succ]
  have hza := (row_cellAt HL4.out.rot3.head HA.out.1.2).2
  have hca := (row_cellAt HL4.out.rot3.head HA.out.1.2).1
  rw [HA.out.1.1] at hca
  refine wpAnyT_one (i := 27) (o := { dst := none, op := Go.Op.store 25 (Go.Operand.tmp 54) (Go.Operand.tmp 40), type := 0, pos := "twin.go:105", after := #[{ on := 26, ground := Go.Ground.data }, { on := 12, ground := Go.Ground.data }, { on := 25, ground := Go.Ground.chain }, { on := 0, ground := Go.Ground.phase }, { on := 1, ground := Go.Ground.phase }, { on := 2, ground := Go.Ground.phase }, { on := 3, ground := Go.Ground.textOnly Go.Departure.lateStores }, { on := 4, ground := Go.Ground.phase }, { on := 5, ground := Go.Ground.phase }, { on := 6, ground := Go.Ground.phase }, { on := 7, ground := Go.Ground.phase }, { on := 8, ground := Go.Ground.phase }, { on := 9, ground := Go.Ground.phase }, { on := 10, ground := Go.Ground.phase }, { on := 11, ground := Go.Ground.phase }, { on := 12, ground := Go.Ground.phase }, { on := 13, ground := Go.Ground.phase }, { on := 14, ground := Go.Ground.textOnly Go.Departure.lateStores }, { on := 15, ground := Go.Ground.textOnly Go.Departure.lateStoresUnsure }, { on := 16, ground := Go.Ground.phase }, { on := 17, ground := Go.Ground.phase }, { on := 18, ground := Go.Ground.phase }, { on := 19, ground := Go.Ground.phase }, { on := 20, ground := Go.Ground.phase }, { on := 21, ground := Go.Ground.textOnly Go.Departure.lateStores }, { on := 22, ground := Go.Ground.phase }, { on := 23, ground := Go.Ground.phase }, { on := 24, ground := Go.Ground.textOnly Go.Departure.lateStoresUnsure }, { on := 25, ground := Go.Ground.phase }], guard := none }) (by kernel_rfl) rfl (fun K hK => ?_)
  go_simp
  have HL5 := Lib.hid (HL4.out.rot3.row_set c (.slice aa' (ma + 1) cca'))
  refine hK.out _ _ (.inl ⟨rfl, by decide⟩) (fun hS => ?_)
  clear hK K hza hca HL4 HT4
  obtain ⟨w5, hw5⟩ : ∃ w5, w4.setCell ⟨ga, c, none⟩ (.slice aa' (ma + 1) cca') = w5 := ⟨_, rfl⟩
  rw [hw5] at HL5 hS ⊢
  clear hw5
  try simp only [Act.put, List.setIfInBounds_toArray, List.set_cons_zero, List.set_cons_succ]
  refine wpAnyT_takeU (i := 28) (oi := { dst := some 55, op := Go.Op.indexAddr 54 (Go.Operand.tmp 30) (Go.Operand.tmp 31), type := 0, pos := "twin.go:105", after := #[{ on := 2, ground := Go.Ground.data }, { on := 3, ground := Go.Ground.data }, { on := 0, ground := Go.Ground.phase }, { on := 1, ground := Go.Ground.phase }, { on := 2, ground := Go.Ground.phase }, { on := 3, ground := Go.Ground.phase }, { on := 4, ground := Go.Ground.phase }, { on := 5, ground := Go.Ground.phase }, { on := 6, ground := Go.Ground.phase }, { on := 7, ground := Go.Ground.phase }, { on := 8, ground := Go.Ground.phase }, { on := 9, ground := Go.Ground.phase }, { on := 10, ground := Go.Ground.phase }, { on := 11, ground := Go.Ground.phase }, { on := 12, ground := Go.Ground.phase }, { on := 13, ground := Go.Ground.phase }, { on := 14, ground := Go.Ground.phase }, { on := 15, ground := Go.Ground.phase }, { on := 16, ground := Go.Ground.phase }, { on := 17, ground := Go.Ground.phase }, { on := 18, ground := Go.Ground.phase }, { on := 19, ground := Go.Ground.phase }, { on := 20, ground := Go.Ground.phase }, { on := 21, ground := Go.Ground.phase }, { on := 22, ground := Go.Ground.phase }, { on := 23, ground := Go.Ground.phase }, { on := 24, ground := Go.Ground.phase }, { on := 25, ground := Go.Ground.phase }, { on := 26, ground := Go.Ground.phase }, { on := 27, ground := Go.Ground.phase }], guard := none }) (v := ?v28) rfl (by kernel_rfl) (by kernel_rfl) (by kernel_rfl) (by decide) (fun h => absurd h (by decide)) (fun _ _ _ h => h) (Or.inl ⟨by rfl, ?hy28⟩) hS (fun hS => ?rest28)
  case hy28 =>
    intro w hSw
    clear hSw
    go_simp
    with_reducible rfl
  try simp only [Act.put, List.setIfInBounds_toArray, List.set_cons_zero, List.set_cons_succ]
  have hza := (row_cellAt HL5.out.rot5.head HA.out.2.2).2
  have hca := (row_cellAt HL5.out.rot5.head HA.out.2.2).1
  rw [HA.out.2.1] at hca
  refine wpAnyT_one (i := 29) (o := { dst := none, op := Go.Op.store 25 (Go.Operand.tmp 55) (Go.Operand.tmp 53), type := 0, pos := "twin.go:105", after := #[{ on := 28, ground := Go.Ground.data }, { on := 25, ground := Go.Ground.data }, { on := 27, ground := Go.Ground.chain }, { on := 0, ground := Go.Ground.phase }, { on := 1, ground := Go.Ground.phase }, { on := 2, ground := Go.Ground.phase }, { on := 3, ground := Go.Ground.phase }, { on := 4, ground := Go.Ground.phase }, { on := 5, ground := Go.Ground.phase }, { on := 6, ground := Go.Ground.phase }, { on := 7, ground := Go.Ground.phase }, { on := 8, ground := Go.Ground.phase }, { on := 9, ground := Go.Ground.phase }, { on := 10, ground := Go.Ground.phase }, { on := 11, ground := Go.Ground.phase }, { on := 12, ground := Go.Ground.phase }, { on := 13, ground := Go.Ground.phase }, { on := 14, ground := Go.Ground.phase }, { on := 15, ground := Go.Ground.phase }, { on := 16, ground := Go.Ground.phase }, { on := 17, ground := Go.Ground.phase }, { on := 18, ground := Go.Ground.phase }, { on := 19, ground := Go.Ground.phase }, { on := 20, ground := Go.Ground.phase }, { on := 21, ground := Go.Ground.phase }, { on := 22, ground := Go.Ground.phase }, { on := 23, ground := Go.Ground.phase }, { on := 24, ground := Go.Ground.phase }, { on := 25, ground := Go.Ground.phase }, { on := 26, ground := Go.Ground.phase }, { on := 27, ground := Go.Ground.phase }], guard := none }) (by kernel_rfl) rfl (fun K hK => ?_)
  go_simp
  have HL6 := Lib.hid (HL5.out.rot5.row_set c (.slice ab' (mb + 1) ccb'))
  refine hK.out _ _ (.inl ⟨rfl, by decide⟩) (fun hS => ?_)
  clear hK K hza hca HL5 hS
  try simp only [Act.put, List.setIfInBounds_toArray, List.set_cons_zero, List.set_cons_succ]
  refine wpAnyT_done (by kernel_rfl) ?_ _
  refine NoPanic.normal ?_
  exact HQ.out _ _ _ _ _ _ _ _ _ _ _ _ _ _ _ _ _ _ _ _ _ _ _ _ _ _ _ _ _ _ _ _ _ HL6.out.rotG9.rotG9.rotG9.rotG9.rot5.rotG7.rotG9.rotG8.rotG9
end
end Go.Proofs.YteamnchoddegpaaGreatDoor
namespace Go.Proofs.YteamnchoddegpaaGreatDoor
open Go.RowKit Go.Maps
set_option maxHeartbeats 3200000
/-- The rows up to c, and k of the row c. -/
def part (f : Nat → Nat → Int) (N n c k : Nat) : List (List Int) := (List.range N).map fun c' => if c' < c then (List.range n).map (f c') else if c' = c then (List.range k).map (f c') else []
theorem part_len (f : Nat → Nat → Int) (N n c k : Nat) : (part f N n c k).length = N := by simp [part]
theorem part_get (f : Nat → Nat → Int) {N n c k i : Nat} (h : i < N) : (part f N n c k)[i]? = some (if i < c then (List.range n).map (f i) else if i = c then (List.range k).map (f i) else []) := by
  unfold part
  rw [List.getElem?_map, List.getElem?_range h]
  rfl
theorem part_at (f : Nat → Nat → Int) {N n c k : Nat} (h : c < N) : (part f N n c k).getD c [] = (List.range k).map (f c) := by
  rw [List.getD_eq_getElem?_getD, part_get f h, if_neg (by omega), if_pos rfl]
  rfl
theorem part_step (f : Nat → Nat → Int) {N n c k : Nat} (_h : c < N) : (part f N n c k).set c ((List.range k).map (f c) ++ [f c k]) = part f N n c (k + 1) := by
  refine List.ext_getElem? fun i => ?_
  by_cases hi : i < N
  · rw [List.getElem?_set, part_get f hi, part_get f hi]
    by_cases e : c = i
    · subst e
      rw [if_pos rfl, part_len, if_pos hi, if_neg (by omega), if_pos rfl, List.range_succ, List.map_append]
      rfl
    · rw [if_neg e, if_neg (show ¬ i = c by omega), if_neg (show ¬ i = c by omega)]
  · rw [List.getElem?_eq_none (by rw [List.length_set, part_len]; omega), List.getElem?_eq_none (by rw [part_len]; omega)]
theorem part_line (f : Nat → Nat → Int) (N n c : Nat) : part f N n c n = part f N n (c + 1) 0 := by
  refine List.ext_getElem? fun i => ?_
  by_cases hi : i < N
  · rw [part_get f hi, part_get f hi]
    by_cases e : i = c
    · subst e
      rw [if_neg (by omega), if_pos rfl, if_pos (by omega)]
    · by_cases h : i < c
      · rw [if_pos h, if_pos (by omega)]
      · rw [if_neg h, if_neg e, if_neg (by omega)]
        split <;> rfl
  · rw [List.getElem?_eq_none (by rw [part_len]; omega), List.getElem?_eq_none (by rw [part_len]; omega)]
theorem part_zero (f : Nat → Nat → Int) (N n : Nat) : part f N n 0 0 = List.replicate N [] := by
  refine List.ext_getElem? fun i => ?_
  by_cases hi : i < N
  · rw [part_get f hi, if_neg (by omega), List.getElem?_replicate, if_pos hi]
    split <;> rfl
  · rw [List.getElem?_eq_none (by rw [part_len]; omega), List.getElem?_eq_none (by rw [List.length_replicate]; omega)]
/-- The value of an input in the first valuation, and in the second. -/
def valA (N : Nat) (vals : List Int) (c k : Nat) : Int := valAt vals (2 * (k * N + c))
def valB (N nl : Nat) (R : Rel) (level : Int) (ls vals : List Int) (c k : Nat) : Int := valAt vals (ofR nl R level ls ((2 * (k * N + c) : Nat) : Int)).toNat
theorem nums_more (k : IntKind) (E : Nat) (v : Value) (xs : List Int) (x : Int) {m : Nat} (hm : xs.length = m) : Thing.row E 1 v (m + 1) (xs.map (Value.int k) ++ [.int k x]) = Thing.numsK k E v (xs ++ [x]) := by
  unfold Thing.numsK
  rw [List.length_append, List.map_append, hm]
  rfl
def splThings (pa pb ga gb ca cb N : Nat) (vsa vsb : List Value) (xa xb : List (List Int)) (K : Thing) : List Thing :=
  [Thing.box pa 54 #[.slice (some ⟨ga, 0, none⟩) N ca], Thing.box pb 54 #[.slice (some ⟨gb, 0, none⟩) N cb], Thing.lists .u64 43 25 (.slice (some ⟨ga, 0, none⟩) N ca) vsa xa, Thing.lists .u64 43 25 (.slice (some ⟨gb, 0, none⟩) N cb) vsb xb, K]
section
variable {w0 wq wr w' : World} {ts : List Thing}
/-- Both lists, opened at one place. -/
theorem spl_open {pa pb ga gb ca cb N c : Nat} {vsa vsb : List Value} {xa xb : List (List Int)} {K : Thing} (h : Lab wq wr (splThings pa pb ga gb ca cb N vsa vsb xa xb K ++ ts)) (ha : vsa.length = N) (hb : vsb.length = N) (hc : c < N) :
    Lab wq wr (innerT .u64 43 vsa xa c :: Thing.row 25 1 (.slice (some ⟨ga, 0, none⟩) N ca) N vsa :: restT .u64 43 vsa xa c :: innerT .u64 43 vsb xb c :: Thing.row 25 1 (.slice (some ⟨gb, 0, none⟩) N cb) N vsb :: restT .u64 43 vsb xb c ::
      Thing.box pa 54 #[.slice (some ⟨ga, 0, none⟩) N ca] :: Thing.box pb 54 #[.slice (some ⟨gb, 0, none⟩) N cb] :: K :: ts) := by
  have h1 := Lab.lists_open (c := c) (by omega) (Lab.rot4 h)
  have h2 := Lab.lists_open (c := c) (by omega) h1.rot6
  rw [ha, hb] at h2
  exact h2
theorem spl_shut {pa pb ga gb ca cb N c : Nat} {vsa vsb : List Value} {xa xb : List (List Int)} {K : Thing} {ua ub : Value} {ya yb : List Int} (ha : vsa.length = N) (hb : vsb.length = N) (hxa : xa.length = N) (hxb : xb.length = N) (hc : c < N)
    (h : Lab wq wr (Thing.numsK .u64 43 ua ya :: Thing.row 25 1 (.slice (some ⟨ga, 0, none⟩) N ca) N (vsa.set c ua) :: restT .u64 43 vsa xa c :: Thing.numsK .u64 43 ub yb :: Thing.row 25 1 (.slice (some ⟨gb, 0, none⟩) N cb) N (vsb.set c ub) :: restT .u64 43 vsb xb c ::
      Thing.box pa 54 #[.slice (some ⟨ga, 0, none⟩) N ca] :: Thing.box pb 54 #[.slice (some ⟨gb, 0, none⟩) N cb] :: K :: ts)) :
    Lab wq wr (splThings pa pb ga gb ca cb N (vsa.set c ua) (vsb.set c ub) (xa.set c ya) (xb.set c yb) K ++ ts) := by
  subst ha
  have h1 := Lab.lists_shut hc hxa h
  rw [← hb] at h1
  have h2 := Lab.lists_shut (by omega) (by omega) (Lab.rot4 h1).rot4.rot4
  rw [hb] at h2
  exact (Lab.rot4 h2.swap).rot4
set_option maxRecDepth 100000 in
theorem split2_any {u : FrameMode} {p5 p6 p7 p8 p9 p14 pa pb ga gb ca cb lb nl n N : Nat} {level : Int} {chv vv : Value} {R : Rel} {ls vals : List Int}
    (hv : SliceOf wq .u64 vv vals) (hlat : LatIs wq lb nl R) (hch : SliceOf wq .i64 chv ls) (hls : ls.length = N) (hl1 : 1 ≤ N) (hl2 : N ≤ 32) (hn : n ≤ 65536)
    (h : Lab wq wr (splThings pa pb ga gb ca cb N (List.replicate N (.slice none 0 0)) (List.replicate N (.slice none 0 0)) (List.replicate N []) (List.replicate N []) (splK p5 p6 p7 p8 p9 p14 lb level n chv vv) ++ ts)) :
    CallsD Tryz.prog 46 #[.pointer (some ⟨p7, 0, none⟩), .pointer (some ⟨p8, 0, none⟩), .pointer (some ⟨pa, 0, none⟩), .pointer (some ⟨p14, 0, none⟩), .pointer (some ⟨pb, 0, none⟩), .pointer (some ⟨p5, 0, none⟩), .pointer (some ⟨p6, 0, none⟩)] u wr fun e u' w' =>
      u' = u ∧ (e = .returned (.tuple #[]) ∧ ∃ vsa vsb, vsa.length = N ∧ vsb.length = N ∧ Lab wq w' (splThings pa pb ga gb ca cb N vsa vsb (part (valA N vals) N n N 0) (part (valB N nl R level ls vals) N n N 0) (splK p5 p6 p7 p8 p9 p14 lb level n chv vv) ++ ts)) := by
  obtain ⟨ao, no, co, rfl, hno, -⟩ := hch.parts
  obtain rfl : no = N := by omega
  have h0 : Lab wq wr (splThings pa pb ga gb ca cb no (List.replicate no (.slice none 0 0)) (List.replicate no (.slice none 0 0)) (part (valA no vals) no n 0 0) (part (valB no nl R level ls vals) no n 0 0) (splK p5 p6 p7 p8 p9 p14 lb level n (.slice ao no co) vv) ++ ts) := by
    rw [part_zero, part_zero]; exact h
  have H0 := Lib.hid h0
  have k0 := splK_cells (h0.holds (splK p5 p6 p7 p8 p9 p14 lb level n (.slice ao no co) vv) (by simp [splThings]))
  have q7 := k0.c7
  have HV := Lib.hid (And.intro hv (And.intro hlat hch)); have HLS := Lib.hid hls
  clear h h0 k0 hv hlat hch hls hno
  go_enter_d Tryz.func46, Tryz.ntmps46
  go_wp2
  clear q7
  go_loopw [13] (fun v wx => ∃ c : Nat, c ≤ no ∧ v = .int .i64 c ∧ ∃ vsa vsb, vsa.length = no ∧ vsb.length = no ∧ Lab wq wx (splThings pa pb ga gb ca cb no vsa vsb (part (valA no vals) no n c 0) (part (valB no nl R level ls vals) no n c 0) (splK p5 p6 p7 p8 p9 p14 lb level n (.slice ao no co) vv) ++ ts)) (fun v _ => no - (intOf v).toNat)
  case atStart => exact ⟨0, by omega, rfl, _, _, by simp, by simp, H0.out⟩
  case round =>
    clear H0
    obtain ⟨c, hc, rfl, vsa, vsb, hla, hlb, hl⟩ := hrel
    by_cases hlt : c < no
    · have hlt' : (c : Int) < (no : Int) := by omega
      have k0 := splK_cells (hl.holds (splK p5 p6 p7 p8 p9 p14 lb level n (.slice ao no co) vv) (by simp [splThings]))
      have q8 := k0.c8
      have HL := Lib.hid hl; have HLA := Lib.hid (And.intro hla hlb)
      clear k0 hl hla hlb
      go_wp2
      clear q8
      go_loopw [17] (fun v wx => ∃ k : Nat, k ≤ n ∧ v = .int .i64 k ∧ ∃ vsa vsb, vsa.length = no ∧ vsb.length = no ∧ Lab wq wx (splThings pa pb ga gb ca cb no vsa vsb (part (valA no vals) no n c k) (part (valB no nl R level ls vals) no n c k) (splK p5 p6 p7 p8 p9 p14 lb level n (.slice ao no co) vv) ++ ts)) (fun v _ => n - (intOf v).toNat)
      case atStart => exact ⟨0, by omega, rfl, _, _, HLA.out.1, HLA.out.2, HL.out⟩
      case round =>
        clear HL HLA
        obtain ⟨k, hk, rfl, vsa, vsb, hla, hlb, hl⟩ := hrel
        by_cases hltk : k < n
        · have hltk' : (k : Int) < (n : Int) := by omega
          have k0 := splK_cells (hl.holds (splK p5 p6 p7 p8 p9 p14 lb level n (.slice ao no co) vv) (by simp [splThings]))
          have q7 := k0.c7
          obtain ⟨m, hm⟩ : ∃ m, 2 * (k * no + c) = m := ⟨_, rfl⟩
          have hmb : m < 999999999 := by
            have : k * no ≤ 65536 * 32 := Nat.mul_le_mul (by omega) hl2
            omega
          have hi := input_any wr no c k hl2 hlt (by omega)
          rw [hm] at hi
          have HI := Lib.hid hi
          obtain ⟨q, hq⟩ : ∃ q : Nat, ofR nl R level ls (m : Int) = (q : Int) := by
            rcases ofR_or nl R level ls (m : Int) with h | h
            · exact ⟨m, h⟩
            · exact ⟨m + 1, by omega⟩
          have hxA : valAt vals m = valA no vals c k := by unfold valA; rw [hm]
          have hxB : valAt vals q = valB no nl R level ls vals c k := by unfold valB; rw [hm, hq, Int.toNat_natCast]
          have h1 := spl_open hl hla hlb hlt
          unfold innerT at h1
          rw [part_at _ hlt, part_at _ hlt] at h1
          unfold Thing.numsK at h1
          have s1 := h1.head
          have s2 := h1.fourth
          simp only [List.length_map, List.length_range] at h1 s1 s2
          obtain ⟨aa, cca, ea, -⟩ := row_shape s1
          obtain ⟨ab, ccb, eb, -⟩ := row_shape s2
          rw [ea, eb] at h1
          have ha : vsa[c]? = some (.slice aa k cca) := by
            rw [← ea, List.getElem?_eq_getElem (by omega), List.getD_eq_getElem?_getD, List.getElem?_eq_getElem (by omega)]; rfl
          have hb : vsb[c]? = some (.slice ab k ccb) := by
            rw [← eb, List.getElem?_eq_getElem (by omega), List.getD_eq_getElem?_getD, List.getElem?_eq_getElem (by omega)]; rfl
          have H1 := Lib.hid h1; have HA := Lib.hid (And.intro ha hb); have HQ := Lib.hid (And.intro hq (And.intro hxA hxB)); have HLA := Lib.hid (And.intro hla hlb); have HMB := Lib.hid hmb
          clear k0 hl hla hlb hi hm hq hxA hxB h1 s1 s2 ea eb ha hb hmb
          go_upto_region 7 with (go_at_call 47; refine HI.out.mono ?_; rintro e w5 ⟨rfl, rfl⟩)
          refine split_region7 (N := nl) (m := m) (q := q) HV.out.1 HV.out.2.1 HV.out.2.2 (by rw [HLS.out]; exact hl1) (by rw [HLS.out]; exact hl2) HMB.out HQ.out.1 (by omega) (by omega) HA.out.1 HA.out.2 hlt hlt H1.out ?_
          intro aa' cca' ab' ccb' _ _ _ _ _ _ _ _ _ _ _ _ _ _ _ _ _ _ _ _ _ _ _ _ _ _ _ _ w6 hl6
          rw [nums_more .u64 43 _ _ _ (by simp), nums_more .u64 43 _ _ _ (by simp), HQ.out.2.1, HQ.out.2.2] at hl6
          have hl7 := spl_shut HLA.out.1 HLA.out.2 (part_len _ _ _ _ _) (part_len _ _ _ _ _) hlt hl6
          rw [part_step _ hlt, part_step _ hlt] at hl7
          have HL7 := Lib.hid hl7
          clear hl6 hl7
          go_wp2
          go_roundw
          case rel => exact ⟨k + 1, by omega, by go_num, _, _, by rw [List.length_set]; exact HLA.out.1, by rw [List.length_set]; exact HLA.out.2, HL7.out⟩
          case measure => simp [intOf]; omega
        · obtain rfl : k = n := by omega
          rw [part_line, part_line] at hl
          have HL := Lib.hid hl; have HLA := Lib.hid (And.intro hla hlb)
          clear hl hla hlb
          go_wp2
          refine ⟨⟨c + 1, by omega, by go_num, _, _, HLA.out.1, HLA.out.2, HL.out⟩, ?_⟩
          simp [intOf]; omega
    · obtain rfl : c = no := by omega
      have HL := Lib.hid hl; have HLA := Lib.hid (And.intro hla hlb)
      clear hl hla hlb
      go_wp2
      go_end0
      exact ⟨rfl, _, _, HLA.out.1, HLA.out.2, HL.out⟩
end
end Go.Proofs.YteamnchoddegpaaGreatDoor
