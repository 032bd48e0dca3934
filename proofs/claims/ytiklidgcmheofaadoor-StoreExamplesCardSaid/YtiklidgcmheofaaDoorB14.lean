/- StU, Ord13, OrdT, OrdU, FlA, FlB: joined by wip/bundle.py. -/
import Derived.Test.YtiklidgcmheofaaDoorB1
import Derived.Test.YtiklidgcmheofaaDoorB2
import Derived.Test.YtiklidgcmheofaaDoorB3
import Derived.Test.YtiklidgcmheofaaDoorB4
import Derived.Test.YtiklidgcmheofaaDoorB5
import Derived.Test.YtiklidgcmheofaaDoorB6
import Derived.Test.YtiklidgcmheofaaDoorB7
import Derived.Test.YtiklidgcmheofaaDoorB8
import Derived.Test.YtiklidgcmheofaaDoorB9
import Derived.Test.YtiklidgcmheofaaDoorB10
import Derived.Test.YtiklidgcmheofaaDoorB11
import Derived.Test.YtiklidgcmheofaaDoorB12
import Derived.Test.YtiklidgcmheofaaDoorB13
import Derived.Laws.EntriesVeiled
import Derived.OrdersHeld
import Derived.StillTail
import Derived.Deep.RegionHeld3
import Derived.Laws.IdiomStrings
import Derived.BigQuiet
namespace Go.Proofs.YtiklidgcmheofaaDoor
open Go.RowKit Go.Maps
set_option maxHeartbeats 3200000
attribute [local go_sem] Oper.semAt_some
theorem wpList_copy_run {P : Program} {ops : Array Oper} {rest : List Oper} {o : Oper} {a : Act} {Q : Exit → Act → World → Prop} {w w' : World} {x y v : Value} {T : Nat} (d s : Operand) (hgd : o.guard = none)
    (ho : o.op = .call { callee := .builtin .copy, args := #[d, s], argTypes := #[T, T] }) (hd : a.eval d = x) (hs : a.eval s = y) (hr : (Builtin.copy_ #[T, T] o.type #[x, y]).run P w = .ok v w')
    (h : wpList P ops Q rest (a.put o.dst v) w') : wpList P ops Q (o :: rest) a w := by
  refine wpList_plain hgd fun _ hK => ?_
  unfold Oper.wp execOp
  simp only [ho, resolve, invoke, builtin, Sem.run_bind, Sem.run_pure, Result.andThen_ok, List.map_toArray, List.map_cons, List.map_nil, hd, hs, hr]
  exact hK _ _ h
theorem make_ints (n : Nat) (hn : n ≤ 4194304) : ∀ w : World, (Instr.makeSlice 23 (.int .i64 (n : Int)) (.int .i64 (n : Int))).run Tryd.prog w = .ok (.slice (some ⟨w.heap.size, 0, none⟩) n n) (w.alloc (.cells (madeCells #[.int .i64 0] n) 3)) :=
  run_make_row' (P := Tryd.prog) 23 3 (.int .i64 0) 8 Tryd.underlying23 Tryd.infoI64 rfl .i64 .i64 n (by omega) (by omega)
theorem put_results {tmps : Array Value} {b8 : Nat} {w : World} {z8 : Value} (t8 : tmps.getD 8 undef = .pointer (some ⟨b8, 0, none⟩)) (d8 : w.cell? ⟨b8, 0, none⟩ = some z8) :
    (results Tryd.f13 tmps).run Tryd.prog w = .ok z8 w := by
  have t8' : tmps[8]?.getD undef = .pointer (some ⟨b8, 0, none⟩) := by simpa using t8
  unfold results
  rw [Tryd.results13]
  simp [go_sem, t8', d8]
section
variable {w0 wr w : World} {ts : List Thing} {F I : List Nat} {gb W room sb n x t a : Nat} {L : List PNode} {y : Lay} {regs : List Int} {arrs : List (List Int)}
set_option maxRecDepth 100000 in
theorem Lab.sput {xs : List Int} (hy : arrs.length = y.vs.length) (ha : arrs[a]? = some xs) (hn : xs.length = n) (hn1 : 1 ≤ n) (hn64 : n ≤ 64) (hin : ∀ t ∈ xs, (0 : Int) ≤ t ∧ t < (L.length : Int)) (hok : GOk W L) (hx : x < L.length) (ht : t < L.length) (hr : phi W L + 2 * n < room)
    (h : Lab w0 wr (Thing.graph F I gb W room L :: Thing.gst gb sb y regs arrs :: ts)) :
    Calls Tryd.prog 13 #[.pointer (some ⟨sb, 0, none⟩), .int .i64 a, .int .i64 x, .int .i64 t] wr fun e w' => ∃ (L' : List PNode) (ys : List Int) (y' : Lay) (F' I' : List Nat), e = .returned (.int .i64 0) ∧ PutInv W L xs x t n L' ys ∧ (arrs.set a ys).length = y'.vs.length ∧ Lab w0 w' (Thing.graph F' I' gb W room L' :: Thing.gst gb sb y' regs (arrs.set a ys) :: ts) := by
  have hb := (((h.alloc #[.pointer (some ⟨sb, 0, none⟩)] 34).alloc #[.int .i64 (t : Int)] 3).alloc #[.int .i64 0] 31)
  simp only [World.size_alloc] at hb
  obtain ⟨q, hq⟩ : ∃ q, wr.heap.size = q := ⟨_, rfl⟩
  rw [hq] at hb
  have hal := (List.getElem?_eq_some_iff.1 ha).1
  have HB := Lib.hid hb; have HY := Lib.hid hy; have HOK := Lib.hid (And.intro hok (And.intro hx (And.intro ht hr))); have HIN := Lib.hid (And.intro ha (And.intro hn hin))
  clear hb h hok hr hin hy
  refine calls_of_marks Tryd.func13 rfl ?_
  simp only [Tryd.ntmps13, List.size_toArray, List.length_cons, List.length_nil, Nat.reduceAdd, Nat.reduceSub, Array.replicate_succ, Array.replicate_zero, List.push_toArray, List.append_toArray, List.nil_append, List.cons_append]
  go_upto_region 1 with fail
  refine wp_abs (fun wx => Lab w0 wx (Thing.box (q + 1 + 1) 31 #[.int .i64 0] :: Thing.box (q + 1) 3 #[.int .i64 (t : Int)] :: Thing.box q 34 #[.pointer (some ⟨sb, 0, none⟩)] :: Thing.graph F I gb W room L :: Thing.gst gb sb y regs arrs :: ts)) HB.out ?_
  intro w1 hl
  have hs := hl.rot5
  obtain ⟨b, c, b2, c2, hcs⟩ := store_cells (h := hs.head) HY.out ha (by omega)
  obtain ⟨d0, d2, hcl, -, -⟩ := hcs w1 hs.head
  rw [hn] at hcl
  have hmay := smay_any (Lab.st_read HY.out hs) hl.rot4.gr (a : Int) (x : Int)
  rw [if_pos ⟨⟨by omega, by omega⟩, by omega, by omega⟩] at hmay
  have his := is_any (Lab.st_read HY.out hs) hl.rot4.gr (t : Int)
  rw [decide_eq_true (by omega)] at his
  have k0 := (hl.boxc (b := q) (T := 34) (v := .pointer (some ⟨sb, 0, none⟩)) (by simp)).1
  have k1 := (hl.boxc (b := q + 1) (T := 3) (v := .int .i64 (t : Int)) (by simp)).1
  obtain ⟨na, hna⟩ : ∃ na, y.vs.length = na := ⟨_, rfl⟩
  rw [hna] at d2
  have hyo := HY.out
  have han : (a : Int) < (na : Int) := by omega
  have a0 : (0 : Int) ≤ (a : Int) := by omega
  have n0 : (0 : Int) ≤ (n : Int) := by omega
  obtain ⟨q3, hq3⟩ : ∃ q3, w1.heap.size = q3 := ⟨_, rfl⟩
  have hl3 := hl.alloc #[.int .i64 0] 31
  rw [hq3] at hl3
  have HM := Lib.hid hmay; have HIS := Lib.hid his; have HL3 := Lib.hid hl3; have HCS := Lib.hid (And.intro hcs (And.intro hna hn))
  clear hl hs hmay his hal ha hn hl3 hcs hq HB hyo
  go_wp2_with fail
  go_at_call 34
  refine HM.out.mono ?_
  rintro e w5 ⟨rfl, rfl⟩
  go_wp2_with fail
  go_at_call 35
  refine HIS.out.mono ?_
  rintro e w5 ⟨rfl, rfl⟩
  go_upto_region 7 with fail
  refine wp_abs (fun wx => Lab w0 wx (Thing.box q3 31 #[.int .i64 0] :: Thing.box (q + 1 + 1) 31 #[.int .i64 0] :: Thing.box (q + 1) 3 #[.int .i64 (t : Int)] :: Thing.box q 34 #[.pointer (some ⟨sb, 0, none⟩)] :: Thing.graph F I gb W room L :: Thing.gst gb sb y regs arrs :: ts)) HL3.out ?_
  intro w2 hl2
  clear k0 k1 d0 d2 hcl hq3 HL3 HM HIS
  obtain ⟨d0, d2, hcl, -, -⟩ := HCS.out.1 w2 hl2.rot6.head
  rw [HCS.out.2.1] at d2
  rw [HCS.out.2.2] at hcl
  have k0 := (hl2.boxc (b := q) (T := 34) (v := .pointer (some ⟨sb, 0, none⟩)) (by simp)).1
  obtain ⟨q4, hq4⟩ : ∃ q4, w2.heap.size = q4 := ⟨_, rfl⟩
  have hl3 := (hl2.make_row n 3 (.int .i64 0) (by unfold maxLen; omega)).alloc #[.slice (some ⟨w2.heap.size, 0, none⟩) n n] 23
  simp only [World.size_alloc] at hl3
  rw [hq4] at hl3
  have HL3 := Lib.hid hl3
  have hmk := make_ints n (by omega)
  clear hl2 hl3
  go_upto_region 8 with fail
  refine wp_abs (fun wx => Lab w0 wx (Thing.box (q4 + 1) 23 #[.slice (some ⟨q4, 0, none⟩) n n] :: Thing.numsK .i64 3 (.slice (some ⟨q4, 0, none⟩) n n) (List.replicate n 0) :: Thing.box q3 31 #[.int .i64 0] :: Thing.box (q + 1 + 1) 31 #[.int .i64 0] :: Thing.box (q + 1) 3 #[.int .i64 (t : Int)] :: Thing.box q 34 #[.pointer (some ⟨sb, 0, none⟩)] :: Thing.graph F I gb W room L :: Thing.gst gb sb y regs arrs :: ts)) ?_ ?_
  · have := HL3.out
    unfold Thing.numsK
    rw [List.length_replicate, List.map_replicate]
    exact this
  intro w3 hl3
  clear k0 d0 d2 hcl HL3 hq4 hmk
  have hl4 := hl3.drewN 1
  obtain ⟨d0, d2, hcl, -, hce⟩ := HCS.out.1 w3 hl3.rot8.head
  rw [HCS.out.2.1] at d2
  rw [HCS.out.2.2] at hcl
  have hsrc : SliceOf (w3.drewN 1) .i64 (.slice (some ⟨b2, 0, none⟩) n c2) xs := ⟨some ⟨b2, 0, none⟩, n, c2, rfl, HIN.out.2.1, fun i hi => ⟨b2, 0, rfl, by
    rw [Nat.zero_add]
    exact hce i (by rw [HIN.out.2.1]; exact hi)⟩⟩
  have k0 := (hl3.boxc (b := q) (T := 34) (v := .pointer (some ⟨sb, 0, none⟩)) (by simp)).1
  have k4 := (hl3.boxc (b := q4 + 1) (T := 23) (v := .slice (some ⟨q4, 0, none⟩) n n) (by simp)).1
  obtain ⟨w4, hrun, hl5⟩ := hl4.swap.copy_row (by simp) hsrc HIN.out.2.1 hn1 23 3 Tryd.underlying23 (by kernel_rfl)
  have HR := Lib.hid hrun; have HL5 := Lib.hid hl5
  clear hl3 hl4 hce hsrc hrun hl5
  go_still_tail 8, (by kernel_rfl)
  refine wpList_copy_run (.tmp 36) (.tmp 43) rfl rfl rfl rfl HR.out ?_
  refine wpList_nil ?_
  simp only [Act.put, List.setIfInBounds_toArray, List.set_cons_zero, List.set_cons_succ]
  clear k0 k4 d0 d2 hcl HR
  obtain ⟨q5, hq5⟩ : ∃ q5, w4.heap.size = q5 := ⟨_, rfl⟩
  go_upto_region 10 with fail
  have hl6 := HL5.out.alloc #[.func (.func 36) #[] #[.pointer (some ⟨q, 0, none⟩), .pointer (some ⟨q + 1, 0, none⟩), .pointer (some ⟨q4 + 1, 0, none⟩)]] 67
  rw [hq5] at hl6
  refine wp_abs (fun wx => Lab w0 wx (Thing.box q5 67 #[.func (.func 36) #[] #[.pointer (some ⟨q, 0, none⟩), .pointer (some ⟨q + 1, 0, none⟩), .pointer (some ⟨q4 + 1, 0, none⟩)]] :: Thing.numsK .i64 3 (.slice (some ⟨q4, 0, none⟩) n n) xs :: Thing.box (q4 + 1) 23 #[.slice (some ⟨q4, 0, none⟩) n n] :: Thing.box q3 31 #[.int .i64 0] :: Thing.box (q + 1 + 1) 31 #[.int .i64 0] :: Thing.box (q + 1) 3 #[.int .i64 (t : Int)] :: Thing.box q 34 #[.pointer (some ⟨sb, 0, none⟩)] :: Thing.graph F I gb W room L :: Thing.gst gb sb y regs arrs :: ts)) hl6 ?_
  clear hl6 HL5 hq5
  intro w5 hl6
  -- the things in the order of a round
  have hl7 : Lab w0 w5 (Thing.graph F I gb W room L :: Thing.gst gb sb y regs arrs :: Thing.box q 34 #[.pointer (some ⟨sb, 0, none⟩)] :: Thing.box (q + 1) 3 #[.int .i64 (t : Int)] :: Thing.box (q4 + 1) 23 #[.slice (some ⟨q4, 0, none⟩) n n] :: Thing.numsK .i64 3 (.slice (some ⟨q4, 0, none⟩) n n) xs :: Thing.box q5 67 #[.func (.func 36) #[] #[.pointer (some ⟨q, 0, none⟩), .pointer (some ⟨q + 1, 0, none⟩), .pointer (some ⟨q4 + 1, 0, none⟩)]] :: Thing.box q3 31 #[.int .i64 0] :: Thing.box (q + 1 + 1) 31 #[.int .i64 0] :: ts) := hl6.rot5.rot5.rot3.rot4.rot5.rot6.rot7.rot9.rot9
  have k0 := (hl7.boxc (b := q) (T := 34) (v := .pointer (some ⟨sb, 0, none⟩)) (by simp)).1
  have HCA := Lib.hid (Lab.cases hl7 sb a x q3)
  clear hl6 hl7
  go_wp2_with fail
  go_at_call 38
  refine HCA.out.mono ?_
  rintro e w6 ⟨p, rfl, hl6⟩
  have HL6 := Lib.hid hl6
  clear hl6 HCA k0
  go_wp2_with fail
  refine wp_rangeFunc_lab (Φ := fun ts' => ∃ F' I' L' ys, PutInv W L xs x t n L' ys ∧ ts' = Thing.graph F' I' gb W room L' :: Thing.gst gb sb y regs arrs :: caK p sb a x q3 :: Thing.box q 34 #[.pointer (some ⟨sb, 0, none⟩)] :: Thing.box (q + 1) 3 #[.int .i64 (t : Int)] :: Thing.box (q4 + 1) 23 #[.slice (some ⟨q4, 0, none⟩) n n] :: Thing.numsK .i64 3 (.slice (some ⟨q4, 0, none⟩) n n) ys :: Thing.box q5 67 #[.func (.func 36) #[] #[.pointer (some ⟨q, 0, none⟩), .pointer (some ⟨q + 1, 0, none⟩), .pointer (some ⟨q4 + 1, 0, none⟩)]] :: Thing.box q3 31 #[.int .i64 0] :: Thing.box (q + 1 + 1) 31 #[.int .i64 0] :: ts) (gf := 55) (lb := #[.pointer (some ⟨p, 0, none⟩), .pointer (some ⟨p + 1, 0, none⟩), .pointer (some ⟨p + 3, 0, none⟩), .pointer (some ⟨p + 2, 0, none⟩)]) (by rfl) (fun args w => by kernel_rfl) HL6.out ?_ ?_
  · intro fn l D w7 hl7
    obtain ⟨e1, e2, e3⟩ := HIN.out
    obtain ⟨ok1, hx1, ht1, hph⟩ := HOK.out
    refine (cases1_lab (C := fun i L1 ts1 => ∃ ys : List Int, i ≤ n ∧ PutInv W L xs x t i L1 ys ∧ ts1 = Thing.obj l (.loop (loopRec fn _ _ _ _ D .ready none)) :: Thing.obj D (.deferred (some [])) :: Thing.box q 34 #[.pointer (some ⟨sb, 0, none⟩)] :: Thing.box (q + 1) 3 #[.int .i64 (t : Int)] :: Thing.box (q4 + 1) 23 #[.slice (some ⟨q4, 0, none⟩) n n] :: Thing.numsK .i64 3 (.slice (some ⟨q4, 0, none⟩) n n) ys :: Thing.box q5 67 #[.func (.func 36) #[] #[.pointer (some ⟨q, 0, none⟩), .pointer (some ⟨q + 1, 0, none⟩), .pointer (some ⟨q4 + 1, 0, none⟩)]] :: Thing.box q3 31 #[.int .i64 0] :: Thing.box (q + 1 + 1) 31 #[.int .i64 0] :: ts) (l := l) HY.out e1 e2 hn64 ?_ ?_ hl7.rot3.rot5.rot5 ⟨xs, Nat.zero_le _, .start ok1 e3, rfl⟩).mono ?_
    · refine ⟨?_, ?_, ?_⟩
      · rintro i L1 ts1 ⟨ys, hin, hi, -⟩
        exact ⟨hi.ok, Nat.lt_of_lt_of_le hx1 hi.pre.length_le, by have := hi.room; omega⟩
      · rintro i L1 ts1 L2 h hi hiW ⟨ys, -, hin, rfl⟩ hg hp hn hz
        exact ⟨ys, hi, hin.skip hx1 hg hp hz, rfl⟩
      · rintro i L1 ts1 ⟨ys, -, hin, rfl⟩ h64 hi hn
        exact ⟨ys, Nat.le_refl _, hin.stop ok1 hi hn, rfl⟩
    · rintro i L1 ts1 wx F1 I1 L2 h hi hiW ⟨ys, -, hin, rfl⟩ hg hp hn hz hl8
      obtain ⟨yv, L3, u, hyi, hR, hin2⟩ := hin.put (room := room) hx1 ht1 (by omega) hg hp (by have := hin.room; omega)
      have hyl : ys.length = n := by rw [hin.len, e2]
      have hl9 := hl8.rot4
      refine YieldAt.mono' (yield_lab (n := 0) (a1 := ?a1) (Φ := fun ts' => ∃ F2 I2 L3 ys', PutInv W L xs x t (i + 1) L3 ys' ∧ ts' = Thing.graph F2 I2 gb W room L3 :: Thing.gst gb sb y regs arrs :: caK p sb a x q3 :: Thing.obj D (.deferred (some [])) :: Thing.box q 34 #[.pointer (some ⟨sb, 0, none⟩)] :: Thing.box (q + 1) 3 #[.int .i64 (t : Int)] :: Thing.box (q4 + 1) 23 #[.slice (some ⟨q4, 0, none⟩) n n] :: Thing.numsK .i64 3 (.slice (some ⟨q4, 0, none⟩) n n) ys' :: Thing.box q5 67 #[.func (.func 36) #[] #[.pointer (some ⟨q, 0, none⟩), .pointer (some ⟨q + 1, 0, none⟩), .pointer (some ⟨q4 + 1, 0, none⟩)]] :: Thing.box q3 31 #[.int .i64 0] :: Thing.box (q + 1 + 1) 31 #[.int .i64 0] :: ts) hl9 rfl ?hassign ?hbody) ?hout
      case hassign =>
        intro W9 K hK
        rw [zip2]
        simp only [List.setIfInBounds_toArray, List.set_cons_zero, List.set_cons_succ]
        gi_wp2
        exact hK
      case hbody =>
        intro W9 hl10
        have hl11 := hl10.rot9.rot9.rot9.rot9.rot7.rot7
        have c5 := (hl10.boxc (b := q5) (T := 67) (v := .func (.func 36) #[] #[.pointer (some ⟨q, 0, none⟩), .pointer (some ⟨q + 1, 0, none⟩), .pointer (some ⟨q4 + 1, 0, none⟩)]) (by simp)).1
        have hput := Lab.put1 HY.out hR hyi hyl hl11
        have HP := Lib.hid hput; have HIN2 := Lib.hid hin2
        clear hl8 hl9 hl10 hl11 hput hin2 hR hyi hin hg hn hz
        gi_wp2_with fail
        refine ⟨trivial, rfl, ?_⟩
        refine CallsIn.mono (CallsIn.inRound l (callsIn_wide.2 HP.out)) ?_
        rintro e w10 ⟨F3, I3, rfl, hl12⟩
        have HL12 := Lib.hid hl12
        clear hl12 HP
        gi_wp2
        exact ⟨_, ⟨F3, I3, L3, ys.set i (u : Int), HIN2.out, rfl⟩, HL12.out.rot9.rot9.rot4.rot4.rot9⟩
      case hout =>
        rintro e w9 ⟨rfl, ts', ⟨F2, I2, L3, ys', hin3, rfl⟩, hl10⟩
        exact ⟨rfl, F2, I2, L3, _, ⟨ys', hi, hin3, rfl⟩, hl10.sink4⟩
    · rintro e w8 ⟨he, F2, I2, L3, ts2, ⟨ys, -, hin, rfl⟩, hl8⟩
      exact ⟨he, _, ⟨F2, I2, L3, ys, hin, rfl⟩, hl8.rot5.rot5⟩
  · rintro D w7 ts' ⟨F', I', L', ys, hinv, rfl⟩ hl7
    have HL7 := Lib.hid hl7; have HI := Lib.hid hinv
    obtain ⟨c10, -⟩ := hl7.boxc (b := q3) (T := 31) (v := .int .i64 0) (by simp)
    obtain ⟨k0, -⟩ := hl7.boxc (b := q) (T := 34) (v := .pointer (some ⟨sb, 0, none⟩)) (by simp)
    obtain ⟨k4, -⟩ := hl7.boxc (b := q4 + 1) (T := 23) (v := .slice (some ⟨q4, 0, none⟩) n n) (by simp)
    obtain ⟨d0, d2, hcl, hfz, -⟩ := HCS.out.1 w7 hl7.third
    rw [HCS.out.2.1] at d2
    rw [HCS.out.2.2] at hcl
    have hav : y.av = .slice (some ⟨b, 0, none⟩) na c := by
      have h2 := (Lab.st_read HY.out hl7.rot3).c2
      rw [d2] at h2
      exact (Option.some.inj h2).symm
    have hal := (List.getElem?_eq_some_iff.1 HIN.out.1).1
    have hyo := HY.out
    have hl9 : Lab w0 (w7.setCell ⟨b, a, none⟩ (.slice (some ⟨q4, 0, none⟩) n n)) (Thing.gst gb sb ⟨y.rv, y.av, y.vs.set a (.slice (some ⟨q4, 0, none⟩) n n)⟩ regs (arrs.set a ys) :: Thing.obj D (.deferred (some [])) :: Thing.graph F' I' gb W room L' :: caK p sb a x q3 :: Thing.box q 34 #[.pointer (some ⟨sb, 0, none⟩)] :: Thing.box (q + 1) 3 #[.int .i64 (t : Int)] :: Thing.box (q4 + 1) 23 #[.slice (some ⟨q4, 0, none⟩) n n] :: Thing.box q5 67 #[.func (.func 36) #[] #[.pointer (some ⟨q, 0, none⟩), .pointer (some ⟨q + 1, 0, none⟩), .pointer (some ⟨q4 + 1, 0, none⟩)]] :: Thing.box q3 31 #[.int .i64 0] :: Thing.box (q + 1 + 1) 31 #[.int .i64 0] :: ts) := by
      have h1 := (Lab.lists_open (c := a) (by omega) hl7.rot8.rot4.st_open.rot3).drop
      rw [hav, ← HCS.out.2.1] at h1
      have h2 := (Lab.row_set h1 a (.slice (some ⟨q4, 0, none⟩) n n)).rot5
      rw [HCS.out.2.1, ← hav, ← HCS.out.2.1] at h2
      exact Lab.st_shut (Lab.lists_shut (by omega) hyo h2).rot3'
    have HL9 := Lib.hid (hl9.drewN 1)
    have HAV := Lib.hid (And.intro hyo hav)
    clear hl7 hinv hl9 hav hal hyo
    go_upto_region 17 with fail
    go_still_tail 7, (by kernel_rfl)
    go_upto_region 18 with fail
    refine wp_abs (fun wx => Lab w0 wx (Thing.gst gb sb ⟨y.rv, y.av, y.vs.set a (.slice (some ⟨q4, 0, none⟩) n n)⟩ regs (arrs.set a ys) :: Thing.obj D (.deferred (some [])) :: Thing.graph F' I' gb W room L' :: caK p sb a x q3 :: Thing.box q 34 #[.pointer (some ⟨sb, 0, none⟩)] :: Thing.box (q + 1) 3 #[.int .i64 (t : Int)] :: Thing.box (q4 + 1) 23 #[.slice (some ⟨q4, 0, none⟩) n n] :: Thing.box q5 67 #[.func (.func 36) #[] #[.pointer (some ⟨q, 0, none⟩), .pointer (some ⟨q + 1, 0, none⟩), .pointer (some ⟨q4 + 1, 0, none⟩)]] :: Thing.box q3 31 #[.int .i64 0] :: Thing.box (q + 1 + 1) 31 #[.int .i64 0] :: ts)) HL9.out ?_
    intro w8 hl8
    clear c10 k0 k4 d0 d2 hcl hfz HL9 HL7
    obtain ⟨c10, -⟩ := hl8.boxc (b := q3) (T := 31) (v := .int .i64 0) (by simp)
    obtain ⟨c2r, f2r⟩ := hl8.boxc (b := q + 1 + 1) (T := 31) (v := .int .i64 0) (by simp)
    have HL8 := Lib.hid hl8
    clear hl8
    go_wp2
    have h9 : Lab w0 _ (Thing.box (q + 1 + 1) 31 #[.int .i64 0] :: _) := HL8.out.rot10.store 0 (.int .i64 0)
    refine bodyPostM_mark (D := D) h9.rot3 fun w9 hl9 => ?_
    obtain ⟨d8, -⟩ := hl9.boxc (b := q + 1 + 1) (T := 31) (v := .int .i64 0) (by simp)
    refine ⟨_, put_results rfl d8, L', ys, ⟨y.rv, y.av, y.vs.set a (.slice (some ⟨q4, 0, none⟩) n n)⟩, F', I', rfl, HI.out, ?_, hl9.rot4.subl (.cons_cons _ (.cons _ (.cons _ (.cons_cons _ (.cons _ (.cons _ (.cons _ (.cons _ (.cons _ (.cons _ (List.Sublist.refl _)))))))))))⟩
    rw [List.length_set, List.length_set]
    exact HAV.out.1
end
end Go.Proofs.YtiklidgcmheofaaDoor
namespace Go.Proofs.YtiklidgcmheofaaDoor
open Go
section
variable {P : Program} {ops : Array Oper} {Q : Exit → Act → World → Prop} {md : Region.Mode} {S : Array Bool → World → Prop}
/-- Whatever comes up next, and what is known of the world behind it. -/
def wpAnyT (P : Program) (md : Region.Mode) (ops : Array Oper) (Q : Exit → Act → World → Prop) (S : Array Bool → World → Prop) : Nat → Array Bool → Act → World → Prop
  | 0, listed, a, w => Region.ready md ops listed = [] ∧ Q .normal a w
  | fuel + 1, listed, a, w =>
    (Region.ready md ops listed = [] → Q .normal a w) ∧
    ∀ i ∈ Region.ready md ops listed, wpOp P ops Q i (fun a' w' => S (listed.setIfInBounds i true) w' ∧ wpAnyT P md ops Q S fuel (listed.setIfInBounds i true) a' w') a w
theorem wpAny_of_T : ∀ (fuel : Nat) (listed : Array Bool) (a : Act) (w : World), wpAnyT P md ops Q S fuel listed a w → wpAny P md ops Q fuel listed a w
  | 0, _, _, _, h => h
  | fuel + 1, _, _, _, h => ⟨h.1, fun i hi => wpOp_mono (fun a' w' h' => wpAny_of_T fuel _ a' w' h'.2) (h.2 i hi)⟩
theorem wpAnyT_first {T : World → Prop} {i : Nat} {oi : Oper} {v : Value} (hi : ops[i]? = some oi) (hsel : ∀ (j : Nat) (o : Oper) cs b, ops[j]? = some o → o.op ≠ .select cs b)
    (hQ : ∀ c a w, Q (.panic c) (a.put oi.dst v) w → Q (.panic c) a w)
    (hT : ∀ listed w, S listed w → i ∈ Region.ready md ops listed → T w)
    (hfwd : ∀ listed w, S listed w → i ∈ Region.ready md ops listed → S (listed.setIfInBounds i true) w)
    (hback : ∀ listed j w w', S listed w → i ∈ Region.ready md ops listed → j ∈ Region.ready md ops listed → j ≠ i → S ((listed.setIfInBounds j true).setIfInBounds i true) w' → S (listed.setIfInBounds j true) w') :
    ∀ (fuel : Nat) (listed : Array Bool) (a : Act) (w : World),
      (∀ j oj, ops[j]? = some oj → j ≠ i → listed.getD j true = false → (∀ e ∈ oj.after, Region.binds md e = true → e.on ≠ i) → oi.apart ops oj = true) →
      i ∈ Region.ready md ops listed → YieldsIf P ops T oi v a → S listed w →
      wpAnyT P md ops Q S fuel (listed.setIfInBounds i true) (a.put oi.dst v) w → wpAnyT P md ops Q S (fuel + 1) listed a w := by
  intro fuel
  induction fuel with
  | zero =>
    intro listed a w _ hr hy hS H
    refine ⟨fun h => absurd (h ▸ hr) (by simp), fun j hj => ?_⟩
    by_cases hji : j = i
    · subst hji
      exact hy.wpOp hi (hT _ _ hS hr) ⟨hfwd _ _ hS hr, H⟩
    · exact absurd (H.1 ▸ ready_mono hj hji) (by simp)
  | succ fuel ih =>
    intro listed a w hfree hr hy hS H
    refine ⟨fun h => absurd (h ▸ hr) (by simp), fun j hj => ?_⟩
    by_cases hji : j = i
    · subst hji
      exact hy.wpOp hi (hT _ _ hS hr) ⟨hfwd _ _ hS hr, H⟩
    · have h1 := H.2 j (ready_mono hj hji)
      obtain ⟨hjun, oj, hoj, hall⟩ := mem_ready.1 hj
      have hiun := (mem_ready.1 hr).1
      have hnot : ∀ e ∈ oj.after, Region.binds md e = true → e.on ≠ i := fun e he hb heq => by
        have h2 := hall e he hb
        rw [heq] at h2
        rw [Array.getD_eq_getD_getElem?] at h2 hiun
        cases hl : listed[i]? with
        | none => rw [hl] at h2; exact absurd h2 (by simp)
        | some b => rw [hl] at h2 hiun; simp only [Option.getD_some] at h2 hiun; rw [h2] at hiun; cases hiun
      have h2 := wpOp_putIf hoj (hfree j oj hoj hji hjun hnot) (fun cs b => hsel i oi cs b hi) (fun cs b => hsel j oj cs b hoj) hQ hy h1
      refine wpOp_mono (fun a' w' h3 => ?_) h2
      obtain ⟨hy', hS', H'⟩ := h3
      rw [Array.setIfInBounds_comm _ _ (Ne.symm hji)] at hS' H'
      have hS'' := hback _ _ _ _ hS hr hj hji hS'
      refine ⟨hS'', ih _ a' w' (fun k ok hk hki hun hno => hfree k ok hk hki ?_ hno) (ready_mono hr (Ne.symm hji)) hy' hS'' H'⟩
      by_cases hjk : j = k
      · subst hjk; exact hjun
      · rwa [getD_set_ne true hjk] at hun
theorem wpAnyT_all {rs : List Nat} {fuel : Nat} {listed : Array Bool} {a : Act} {w : World} (hr : Region.ready md ops listed = rs) (hne : rs ≠ [])
    (h : ∀ i ∈ rs, wpOp P ops Q i (fun a' w' => S (listed.setIfInBounds i true) w' ∧ wpAnyT P md ops Q S fuel (listed.setIfInBounds i true) a' w') a w) : wpAnyT P md ops Q S (fuel + 1) listed a w :=
  ⟨fun h0 => absurd (hr.symm.trans h0) hne, fun i hi => h i (hr ▸ hi)⟩
theorem getD_set_true {listed : Array Bool} {i x : Nat} (h : listed.getD x true = true ∨ x = i) : (listed.setIfInBounds i true).getD x true = true := by
  by_cases e : i = x
  · subst e
    rw [Array.getD_eq_getD_getElem?, Array.getElem?_setIfInBounds]
    simp only [if_true]
    split <;> rfl
  · rw [getD_set_ne true e]
    exact h.resolve_right (Ne.symm e)
theorem getD_of_set {listed : Array Bool} {i x : Nat} (h : (listed.setIfInBounds i true).getD x true = true) (hne : x ≠ i) : listed.getD x true = true := by
  rwa [getD_set_ne true (Ne.symm hne)] at h
theorem wpAnyT_one {i : Nat} {o : Oper} {fuel : Nat} {listed : Array Bool} {a : Act} {w : World} (hr : Region.ready md ops listed = [i]) (ho : ops[i]? = some o)
    (h : ∀ K' : Act → World → Prop, Shut (∀ a w, S (listed.setIfInBounds i true) w → (S (listed.setIfInBounds i true) w → wpAnyT P md ops Q S fuel (listed.setIfInBounds i true) a w) → K' a w) → if Region.wanted o (yielded ops a.tmps) = true then Oper.wp P o a w K' Q else K' (a.put o.dst undef) w) :
    wpAnyT P md ops Q S (fuel + 1) listed a w :=
  wpAnyT_all hr (by simp) fun j hj => by
    obtain rfl := List.mem_singleton.1 hj
    exact wpOp_step ho (fun K' hK => h K' (fun a w hS hW => hK a w ⟨hS, hW hS⟩))
theorem wpAnyT_done {listed : Array Bool} {a : Act} {w : World} (hr : Region.ready md ops listed = []) (h : Q .normal a w) : ∀ fuel, wpAnyT P md ops Q S fuel listed a w
  | 0 => ⟨hr, h⟩
  | _ + 1 => ⟨fun _ => h, by rw [hr]; simp⟩
end
end Go.Proofs.YtiklidgcmheofaaDoor
namespace Go.Proofs.YtiklidgcmheofaaDoor
open Go
section
variable {P : Program} {ops : Array Oper} {Q : Exit → Act → World → Prop} {md : Region.Mode} {S : Array Bool → World → Prop}
/-- Until the operation st has come up the world is as T says; by then the loads have come up. -/
def SUpto (T : World → Prop) (st : Nat) (ls : List Nat) (listed : Array Bool) (w : World) : Prop :=
  (listed.getD st true = true ∧ ∀ l ∈ ls, listed.getD l true = true) ∨ (listed.getD st true = false ∧ T w)
theorem wpAnyT_takeU {T : World → Prop} {st : Nat} {ls : List Nat} {i : Nat} {oi : Oper} {v : Value} {fuel : Nat} {listed : Array Bool} {a : Act} {w : World} (hi : ops[i]? = some oi) (hs : Region.noSelect ops = true) (hf : Region.free md ops listed i = true) (hr : (Region.ready md ops listed).contains i = true)
    (hst : i ≠ st) (hk : i ∈ ls → Region.waitsFor md ops st i = true) (hQ : ∀ c a w, Q (.panic c) (a.put oi.dst v) w → Q (.panic c) a w) (hy : YieldsIf P ops (fun w => i ∈ ls → T w) oi v a) (hS : SUpto T st ls listed w)
    (h : SUpto T st ls (listed.setIfInBounds i true) w → wpAnyT P md ops Q (SUpto T st ls) fuel (listed.setIfInBounds i true) (a.put oi.dst v) w) : wpAnyT P md ops Q (SUpto T st ls) (fuel + 1) listed a w := by
  have fwd : ∀ listed w, SUpto T st ls listed w → SUpto T st ls (listed.setIfInBounds i true) w := by
    rintro listed w (⟨h1, h2⟩ | ⟨h1, h2⟩)
    · exact .inl ⟨getD_set_true (.inl h1), fun l hl => getD_set_true (.inl (h2 l hl))⟩
    · exact .inr ⟨by rw [getD_set_ne true hst]; exact h1, h2⟩
  refine wpAnyT_first hi (Region.noSelect_spec hs) hQ ?_ (fun listed w hS _ => fwd listed w hS) ?_ fuel listed a w (Region.free_spec hi hf) (by simpa using hr) hy hS (h (fwd _ _ hS))
  · rintro listed w (⟨h1, h2⟩ | ⟨h1, h2⟩) hr' hil
    · have := (mem_ready.1 hr').1
      rw [h2 i hil] at this
      cases this
    · exact h2
  · rintro listed j w w' hS hr' hj hji hS'
    have hiun := (mem_ready.1 hr').1
    rcases hS with ⟨h1, h2⟩ | ⟨h1, h2⟩
    · exact .inl ⟨getD_set_true (.inl h1), fun l hl => getD_set_true (.inl (h2 l hl))⟩
    · by_cases hjs : j = st
      · subst hjs
        by_cases hil : i ∈ ls
        · obtain ⟨oj, hoj, e, he, hb, heq⟩ := Region.waitsFor_spec (hk hil)
          obtain ⟨_, oj', hoj', hall⟩ := mem_ready.1 hj
          rw [hoj] at hoj'
          cases hoj'
          have h3 := hall e he hb
          rw [heq] at h3
          rw [Array.getD_eq_getD_getElem?] at h3 hiun
          cases hl : listed[i]? with
          | none => rw [hl] at h3; exact absurd h3 (by simp)
          | some b => rw [hl] at h3 hiun; simp only [Option.getD_some] at h3 hiun; rw [h3] at hiun; cases hiun
        · rcases hS' with ⟨_, k2⟩ | ⟨k1, _⟩
          · exact .inl ⟨getD_set_true (.inr rfl), fun l hl => getD_of_set (k2 l hl) (fun e => hil (e ▸ hl))⟩
          · rw [getD_set_true (.inl (getD_set_true (.inr rfl)))] at k1
            cases k1
      · have hu : ((listed.setIfInBounds j true).setIfInBounds i true).getD st true = false := by rw [getD_set_ne true hst, getD_set_ne true hjs]; exact h1
        rcases hS' with ⟨k1, _⟩ | ⟨_, k2⟩
        · rw [hu] at k1; cases k1
        · exact .inr ⟨by rw [getD_set_ne true hjs]; exact h1, k2⟩
end
end Go.Proofs.YtiklidgcmheofaaDoor
namespace Go.Proofs.YtiklidgcmheofaaDoor
open Go
section
variable {P : Program} {ops : Array Oper} {Q : Exit → Act → World → Prop} {md : Region.Mode}
theorem takeUD {T : World → Prop} {st : Nat} {ls : List Nat} (i d : Nat) {oi : Oper} {v : Value} {fuel : Nat} {listed : Array Bool} {a : Act} {w : World} (hi : ops[i]? = some oi) (hs : Region.noSelect ops = true) (hf : Region.free md ops listed i = true) (hr : (Region.ready md ops listed).contains i = true)
    (hst : i ≠ st) (hk : i ∈ ls → Region.waitsFor md ops st i = true) (hd : oi.dst = some d) (hQ : ∀ c a w, Q (.panic c) (a.put oi.dst v) w → Q (.panic c) a w) (hy : YieldsIf P ops (fun w => i ∈ ls → T w) oi v a) (hS : SUpto T st ls listed w)
    (h : SUpto T st ls (listed.setIfInBounds i true) w → wpAnyT P md ops Q (SUpto T st ls) fuel (listed.setIfInBounds i true) { tmps := a.tmps.setIfInBounds d v, defers := a.defers } w) : wpAnyT P md ops Q (SUpto T st ls) (fuel + 1) listed a w :=
  wpAnyT_takeU hi hs hf hr hst hk hQ hy hS (fun h1 => by rw [hd]; exact h h1)
end
end Go.Proofs.YtiklidgcmheofaaDoor
namespace Go.Proofs.YtiklidgcmheofaaDoor
open Go.RowKit Go.Maps
set_option maxHeartbeats 12800000
def digitB (c : Nat) : Bool := decide (48 ≤ c) && decide (c ≤ 57)
/-- A byte of a name. -/
def wordB (c : Nat) : Bool := c == 95 || digitB c || (decide (97 ≤ c) && decide (c ≤ 122)) || (decide (65 ≤ c) && decide (c ≤ 90))
def allB (s : ByteArray) (k : Nat) : Bool := (s.data.toList.take k).all fun c => wordB c.toNat
/-- A name. -/
def nameB (s : ByteArray) : Bool := decide (1 ≤ s.size) && decide (s.size ≤ 32) && !(digitB (s.data.toList.getD 0 0).toNat) && allB s s.size
theorem allB_succ {s : ByteArray} {k : Nat} (h : k < s.size) : allB s (k + 1) = (allB s k && wordB (s[k]).toNat) := by
  unfold allB
  have e : s.data.toList.take (k + 1) = s.data.toList.take k ++ [s[k]] := by
    rw [List.take_succ_eq_append_getElem (by simpa using h)]; rfl
  rw [e, List.all_append]
  simp
theorem allB_fall {s : ByteArray} {k : Nat} (h : k < s.size) (hb : wordB (s[k]).toNat = false) : ∀ n, k < n → allB s n = false := fun n hn => by
  cases ha : allB s n with
  | false => rfl
  | true =>
    unfold allB at ha
    rw [List.all_eq_true] at ha
    have := ha s[k] (by
      refine List.mem_iff_getElem?.2 ⟨k, ?_⟩
      rw [List.getElem?_take, if_pos hn, List.getElem?_eq_getElem (by simpa using h)]; rfl)
    rw [hb] at this; cases this
theorem wordB_iff (c : Nat) : wordB c = true ↔ c = 95 ∨ (48 ≤ c ∧ c ≤ 57) ∨ (97 ≤ c ∧ c ≤ 122) ∨ (65 ≤ c ∧ c ≤ 90) := by
  unfold wordB digitB
  simp only [Bool.or_eq_true, Bool.and_eq_true, beq_iff_eq, decide_eq_true_eq, or_assoc]
theorem nameB_fall {s : ByteArray} (h : allB s s.size = false) : nameB s = false := by unfold nameB; rw [h, Bool.and_false]
theorem ret_bool {a b : Bool} (h : a = b) : Ending.returned (.bool a) = .returned (.bool b) := by rw [h]
theorem digit_any (c : Nat) (w : World) : Calls Tryd.prog 75 #[.int .u8 (c : Int)] w fun e w' => e = .returned (.bool (digitB c)) ∧ w = w' := by
  by_cases h1 : 48 ≤ c
  · by_cases h2 : c ≤ 57
    · have e : digitB c = true := by unfold digitB; simp [h1, h2]
      have g1 : (48 : Int) ≤ (c : Int) := by omega
      have g2 : (c : Int) ≤ 57 := by omega
      rw [e]
      go_enter Tryd.func75, Tryd.ntmps75
      go_wp2
      go_ret
      exact ⟨rfl, rfl⟩
    · have e : digitB c = false := by unfold digitB; simp [h2]
      have g1 : (48 : Int) ≤ (c : Int) := by omega
      have g2 : ¬ (c : Int) ≤ 57 := by omega
      rw [e]
      go_enter Tryd.func75, Tryd.ntmps75
      go_wp2
      go_ret
      exact ⟨rfl, rfl⟩
  · have e : digitB c = false := by unfold digitB; simp [h1]
    have g1 : ¬ (48 : Int) ≤ (c : Int) := by omega
    rw [e]
    go_enter Tryd.func75, Tryd.ntmps75
    go_wp2
    go_ret
    exact ⟨rfl, rfl⟩
set_option maxRecDepth 100000 in
/-- The reference's name. -/
theorem rname_any (s : ByteArray) (hs : s.size ≤ 9223372036854775807) (w : World) : Calls Tryd.prog 57 #[.string s] w fun e w' => e = .returned (.bool (nameB s)) ∧ w = w' := by
  go_enter Tryd.func57, Tryd.ntmps57
  go_wp2
  go_loop [3, 4] (fun i _ => ∃ k : Nat, k ≤ s.size ∧ i = .int .i64 k ∧ allB s k = true) (fun i _ => s.size - (intOf i).toNat)
  case atStart => exact ⟨0, Nat.zero_le _, rfl, rfl⟩
  case round =>
    obtain ⟨k, hk, rfl, ha⟩ := hrel
    by_cases hlt : k < s.size
    · have hd := digit_any (s[k]).toNat w
      have hsu := allB_succ hlt
      have hfa := allB_fall hlt
      obtain ⟨c, hc⟩ : ∃ c, (s[k]).toNat = c := ⟨_, rfl⟩
      rw [hc] at hd hsu hfa
      have HD := Lib.hid hd; have HSU := Lib.hid hsu; have HFA := Lib.hid hfa; have HA := Lib.hid ha
      have hlt' : (k : Int) < (s.size : Int) := by omega
      have k0 : (0 : Int) ≤ (k : Int) := by omega
      clear hd hsu hfa ha
      have hcs : c < 48 ∨ (48 ≤ c ∧ c ≤ 57) ∨ (57 < c ∧ c < 65) ∨ (65 ≤ c ∧ c ≤ 90) ∨ (90 < c ∧ c < 95) ∨ c = 95 ∨ c = 96 ∨ (97 ≤ c ∧ c ≤ 122) ∨ 122 < c := by omega
      rcases hcs with h | h | h | h | h | h | h | h | h
      all_goals
        first | have g1 : ((c : Int) == 95) = true := by (rw [beq_iff_eq]; omega) | have g1 : ((c : Int) == 95) = false := by (rw [beq_eq_false_iff_ne]; omega)
        first | have g2 : ((c : Int) != 95) = true := by (rw [bne_iff_ne]; omega) | have g2 : ((c : Int) != 95) = false := by (rw [bne_eq_false_iff_eq]; omega)
        first | have g3 : digitB c = true := by (unfold digitB; simp only [Bool.and_eq_true, decide_eq_true_eq]; omega) | have g3 : digitB c = false := by (unfold digitB; simp only [Bool.and_eq_false_iff, decide_eq_false_iff_not]; omega)
        first | have g4 : decide ((97 : Int) ≤ (c : Int)) = true := decide_eq_true (by omega) | have g4 : decide ((97 : Int) ≤ (c : Int)) = false := decide_eq_false (by omega)
        first | have g5 : decide ((c : Int) ≤ 122) = true := decide_eq_true (by omega) | have g5 : decide ((c : Int) ≤ 122) = false := decide_eq_false (by omega)
        first | have g6 : decide ((65 : Int) ≤ (c : Int)) = true := decide_eq_true (by omega) | have g6 : decide ((65 : Int) ≤ (c : Int)) = false := decide_eq_false (by omega)
        first | have g7 : decide ((c : Int) ≤ 90) = true := decide_eq_true (by omega) | have g7 : decide ((c : Int) ≤ 90) = false := decide_eq_false (by omega)
        first | have hw : wordB c = true := (wordB_iff c).2 (by omega) | have hw : wordB c = false := by (rw [Bool.eq_false_iff]; intro hx; have := (wordB_iff c).1 hx; omega)
        have HW := Lib.hid hw
        clear hw h
        have HG := Lib.hid g3
        rw [g3] at HD
        clear g3
        go_wp2_with (go_at_call 75; refine HD.out.mono ?_; rintro e w5 ⟨rfl, rfl⟩)
        first
          | exact ⟨⟨k + 1, by omega, by go_num, by rw [HSU.out, HA.out, HW.out]; rfl⟩, by simp [intOf]; omega⟩
          | (go_ret
             exact ⟨ret_bool (nameB_fall (HFA.out HW.out _ hlt)).symm, rfl⟩)
    · obtain rfl : k = s.size := by omega
      have HA := Lib.hid ha
      clear ha
      by_cases h1 : 1 ≤ s.size
      · by_cases h2 : s.size ≤ 32
        · have hd := digit_any (s[0]).toNat w
          have hn : nameB s = !(digitB (s[0]).toNat) := by
            unfold nameB
            rw [HA.out, decide_eq_true h1, decide_eq_true h2]
            have e : s.data.toList.getD 0 0 = s[0] := by
              rw [List.getD_eq_getElem?_getD, List.getElem?_eq_getElem (show 0 < s.data.toList.length by rw [Array.length_toList]; exact h1)]; rfl
            rw [e]
            simp
          have HD := Lib.hid hd; have HN := Lib.hid hn
          have i1 : (1 : Int) ≤ (s.size : Int) := by omega
          have i2 : (s.size : Int) ≤ 32 := by omega
          clear hd hn
          go_wp2_with (go_at_call 75; refine HD.out.mono ?_; rintro e w5 ⟨rfl, rfl⟩)
          go_ret
          exact ⟨ret_bool HN.out.symm, rfl⟩
        · have hn : nameB s = false := by unfold nameB; rw [decide_eq_false h2]; simp
          have i1 : (1 : Int) ≤ (s.size : Int) := by omega
          have i2 : ¬ (s.size : Int) ≤ 32 := by omega
          have HN := Lib.hid hn
          clear hn
          go_wp2
          go_ret
          exact ⟨ret_bool HN.out.symm, rfl⟩
      · have hn : nameB s = false := by unfold nameB; rw [decide_eq_false h1]; simp
        have i1 : ¬ (1 : Int) ≤ (s.size : Int) := by omega
        have HN := Lib.hid hn
        clear hn
        go_wp2
        go_ret
        exact ⟨ret_bool HN.out.symm, rfl⟩
set_option maxRecDepth 100000 in
/-- The program's name. -/
theorem fname_any (s : ByteArray) (hs : s.size ≤ 9223372036854775807) (w : World) : Calls Tryd.prog 61 #[.string s] w fun e w' => e = .returned (.bool (nameB s)) ∧ Below w.heap.size w w' := by
  have hcv := fun (w : World) => run_bytes_of_string (P := Tryd.prog) w 9 150 5 s Tryd.underlying9 Tryd.underlying150 Tryd.underlying5
  have hbelow : ∀ (cap : Nat), Below w.heap.size w (w.drew.alloc (.cells (bytesRow s cap) 5 ((bytesRow s cap).size, (bytesRow s cap).size + 1))) := fun cap => Below.alloc (below_drewN (Below.refl _ _) 1) (Nat.le_refl _) _
  have hcell : ∀ (cap k : Nat) (hk : k < s.size), (w.drew.alloc (.cells (bytesRow s cap) 5 ((bytesRow s cap).size, (bytesRow s cap).size + 1))).cell? ⟨w.heap.size, k, none⟩ = some (.int .u8 (s[k].toNat : Int)) := fun cap k hk => by
    have e : (w.drew.alloc (.cells (bytesRow s cap) 5 ((bytesRow s cap).size, (bytesRow s cap).size + 1))).heap[w.heap.size]? = some (.cells (bytesRow s cap) 5 ((bytesRow s cap).size, (bytesRow s cap).size + 1)) := heap_alloc_new w.drew _
    unfold World.cell?
    simp only [e]
    unfold bytesRow
    rw [Array.getElem?_append_left (by rw [Array.size_map]; exact hk), Array.getElem?_map, Array.getElem?_eq_getElem (show k < s.data.size from hk)]
    rfl
  have HBE := Lib.hid hbelow; have HCE := Lib.hid hcell
  clear hbelow hcell
  by_cases h0 : s.size = 0
  · have hE : s.toList.isEmpty = true := by
      have : s = ⟨#[]⟩ := by
        obtain ⟨d⟩ := s
        have : d.size = 0 := h0
        congr
        exact Array.eq_empty_of_size_eq_zero this
      rw [this, ByteArray.toList_eq]; rfl
    have hn : nameB s = false := by unfold nameB; rw [decide_eq_false (by omega)]; simp
    have HN := Lib.hid hn
    clear hn hcv
    go_enter Tryd.func61, Tryd.ntmps61
    go_wp2
    go_ret
    exact ⟨ret_bool HN.out.symm, Below.refl _ _⟩
  · have hpos : 0 < s.size := by omega
    have hE : s.toList.isEmpty = false := by
      cases hx : s.toList.isEmpty with
      | false => rfl
      | true =>
        exfalso
        rw [ByteArray.toList_eq] at hx
        have h3 : s.data.toList = [] := by simpa using hx
        exact h0 (by have := congrArg List.length h3; simpa using this)
    by_cases h32 : s.size ≤ 32
    · have i32 : ¬ (32 : Int) < (s.size : Int) := by omega
      obtain ⟨c0, hc0⟩ : ∃ c, (s[0]).toNat = c := ⟨_, rfl⟩
      have hn : nameB s = (!(digitB c0) && allB s s.size) := by
        unfold nameB
        rw [decide_eq_true (by omega), decide_eq_true h32]
        have e : s.data.toList.getD 0 0 = s[0] := by
          rw [List.getD_eq_getElem?_getD, List.getElem?_eq_getElem (show 0 < s.data.toList.length by rw [Array.length_toList]; exact hpos)]; rfl
        rw [e, hc0]
        simp
      have HN := Lib.hid hn
      clear hn
      have hd : c0 < 48 ∨ (48 ≤ c0 ∧ c0 ≤ 57) ∨ (48 ≤ c0 ∧ 57 < c0) := by omega
      rcases hd with hd | hd | hd
      case inr.inl =>
        have g1 : decide ((48 : Int) ≤ (c0 : Int)) = true := decide_eq_true (by omega)
        have g2 : decide ((c0 : Int) ≤ 57) = true := decide_eq_true (by omega)
        have hdd : digitB c0 = true := by unfold digitB; simp only [Bool.and_eq_true, decide_eq_true_eq]; omega
        have HDD := Lib.hid hdd
        clear hdd hcv
        go_enter Tryd.func61, Tryd.ntmps61
        go_wp2
        go_ret
        exact ⟨ret_bool (by rw [HN.out, HDD.out]; rfl), Below.refl _ _⟩
      all_goals
        have hdd : digitB c0 = false := by unfold digitB; simp only [Bool.and_eq_false_iff, decide_eq_false_iff_not]; omega
        first | have g1 : decide ((48 : Int) ≤ (c0 : Int)) = true := decide_eq_true (by omega) | have g1 : decide ((48 : Int) ≤ (c0 : Int)) = false := decide_eq_false (by omega)
        first | have g2 : decide ((c0 : Int) ≤ 57) = true := decide_eq_true (by omega) | have g2 : decide ((c0 : Int) ≤ 57) = false := decide_eq_false (by omega)
        have HDD := Lib.hid hdd
        clear hdd
        go_enter Tryd.func61, Tryd.ntmps61
        go_wp2
        refine wp_abs (fun wx => Below w.heap.size w wx ∧ ∀ (k : Nat) (hk : k < s.size), wx.cell? ⟨w.heap.size, k, none⟩ = some (.int .u8 (s[k].toNat : Int))) ⟨HBE.out _, fun k hk => HCE.out _ k hk⟩ ?_
        rintro w1 ⟨hb1, hcell⟩
        have HB1 := Lib.hid hb1; have HCELL := Lib.hid hcell
        clear hb1 hcell hcv
        go_loop [25] (fun i => ∃ k : Nat, k ≤ s.size ∧ i = .int .i64 k ∧ allB s k = true) (fun i => s.size - (intOf i).toNat)
        case atStart => exact ⟨0, Nat.zero_le _, rfl, rfl⟩
        case round =>
          obtain ⟨k, hk, rfl, ha⟩ := hrel
          by_cases hlt : k < s.size
          · have hcl := HCELL.out k hlt
            have hsu := allB_succ hlt
            have hfa := allB_fall hlt
            obtain ⟨c, hc⟩ : ∃ c, (s[k]).toNat = c := ⟨_, rfl⟩
            rw [hc] at hcl hsu hfa
            have HSU := Lib.hid hsu; have HFA := Lib.hid hfa; have HA := Lib.hid ha
            have hlt' : (k : Int) < (s.size : Int) := by omega
            have k0 : (0 : Int) ≤ (k : Int) := by omega
            clear hsu hfa ha g1 g2
            have hcs : c < 48 ∨ (48 ≤ c ∧ c ≤ 57) ∨ (57 < c ∧ c < 65) ∨ (65 ≤ c ∧ c ≤ 90) ∨ (90 < c ∧ c < 95) ∨ c = 95 ∨ c = 96 ∨ (97 ≤ c ∧ c ≤ 122) ∨ 122 < c := by omega
            rcases hcs with h | h | h | h | h | h | h | h | h
            all_goals
              first | have g2 : ((c : Int) != 95) = true := by (rw [bne_iff_ne]; omega) | have g2 : ((c : Int) != 95) = false := by (rw [bne_eq_false_iff_eq]; omega)
              first | have g3 : decide ((c : Int) < 48) = true := decide_eq_true (by omega) | have g3 : decide ((c : Int) < 48) = false := decide_eq_false (by omega)
              first | have g8 : decide ((57 : Int) < (c : Int)) = true := decide_eq_true (by omega) | have g8 : decide ((57 : Int) < (c : Int)) = false := decide_eq_false (by omega)
              first | have g4 : decide ((c : Int) < 97) = true := decide_eq_true (by omega) | have g4 : decide ((c : Int) < 97) = false := decide_eq_false (by omega)
              first | have g5 : decide ((122 : Int) < (c : Int)) = true := decide_eq_true (by omega) | have g5 : decide ((122 : Int) < (c : Int)) = false := decide_eq_false (by omega)
              first | have g6 : decide ((c : Int) < 65) = true := decide_eq_true (by omega) | have g6 : decide ((c : Int) < 65) = false := decide_eq_false (by omega)
              first | have g7 : decide ((90 : Int) < (c : Int)) = true := decide_eq_true (by omega) | have g7 : decide ((90 : Int) < (c : Int)) = false := decide_eq_false (by omega)
              first | have hw : wordB c = true := (wordB_iff c).2 (by omega) | have hw : wordB c = false := by (rw [Bool.eq_false_iff]; intro hx; have := (wordB_iff c).1 hx; omega)
              have HW := Lib.hid hw
              clear hw h
              go_wp2
              first
                | exact ⟨⟨k + 1, by omega, by go_num, by rw [HSU.out, HA.out, HW.out]; rfl⟩, by simp [intOf]; omega⟩
                | (go_ret
                   exact ⟨ret_bool (by rw [HN.out, HFA.out HW.out _ hlt, Bool.and_false]), HB1.out⟩)
          · obtain rfl : k = s.size := by omega
            have HA := Lib.hid ha
            clear ha
            go_wp2
            go_ret
            exact ⟨ret_bool (by rw [HN.out, HDD.out, HA.out]; rfl), HB1.out⟩
    · have i32 : (32 : Int) < (s.size : Int) := by omega
      have hn : nameB s = false := by unfold nameB; rw [decide_eq_false h32]; simp
      have HN := Lib.hid hn
      clear hn hcv
      go_enter Tryd.func61, Tryd.ntmps61
      go_wp2
      go_ret
      exact ⟨ret_bool HN.out.symm, Below.refl _ _⟩
end Go.Proofs.YtiklidgcmheofaaDoor
namespace Go.Proofs.YtiklidgcmheofaaDoor
open Go.RowKit Go.Maps
set_option maxHeartbeats 12800000
/-- A slice of strings, as what is read. -/
def StrsOf (w : World) (v : Value) (l : List ByteArray) : Prop :=
  ∃ a n cap, v = .slice a n cap ∧ l.length = n ∧ n ≤ cap ∧ n ≤ 9223372036854775807 ∧ ∀ i, i < n → ∃ b off s, a = some ⟨b, off, none⟩ ∧ l[i]? = some s ∧ s.size ≤ 9223372036854775807 ∧ w.cell? ⟨b, off + i, none⟩ = some (.string s)
theorem StrsOf.later {w w' : World} {v : Value} {l : List ByteArray} (h : StrsOf w v l) (hb : Below w.heap.size w w') : StrsOf w' v l := by
  obtain ⟨a, n, cap, rfl, hl, hc, hm, hx⟩ := h
  refine ⟨a, n, cap, rfl, hl, hc, hm, fun i hi => ?_⟩
  obtain ⟨b, off, s, h1, h2, h3, h4⟩ := hx i hi
  exact ⟨b, off, s, h1, h2, h3, cell_later hb h4⟩
theorem StrsOf.take {w : World} {a : Option Addr} {n cap : Nat} {l : List ByteArray} (h : StrsOf w (.slice a n cap) l) (m : Nat) (hm : m ≤ n) : StrsOf w (.slice a m cap) (l.take m) := by
  obtain ⟨a', n', cap', e, hl, hc, hm2, hx⟩ := h
  simp only [Value.slice.injEq] at e
  obtain ⟨rfl, rfl, rfl⟩ := e
  refine ⟨_, _, _, rfl, by rw [List.length_take]; omega, by omega, by omega, fun i hi => ?_⟩
  obtain ⟨b, off, s, h1, h2, h3, h4⟩ := hx i (by omega)
  exact ⟨b, off, s, h1, by rw [List.getElem?_take, if_pos hi]; exact h2, h3, h4⟩
def hasB (l : List ByteArray) (s : ByteArray) : Bool := l.any fun t => decide (t = s)
theorem hasB_take {l : List ByteArray} {s t : ByteArray} {k : Nat} (h : l[k]? = some t) : hasB (l.take (k + 1)) s = (hasB (l.take k) s || decide (t = s)) := by
  unfold hasB
  rw [List.take_add_one, h, List.any_append]
  simp
theorem hasB_true {l : List ByteArray} {s t : ByteArray} {k : Nat} (h : l[k]? = some t) (e : t = s) : hasB l s = true := by
  unfold hasB
  exact List.any_eq_true.2 ⟨t, List.mem_of_getElem? h, decide_eq_true e⟩
theorem strEq (t s : ByteArray) : (t.toList == s.toList) = decide (t = s) := by
  rw [ByteArray.toList_eq, ByteArray.toList_eq]
  by_cases h : t = s
  · subst h; simp
  · rw [decide_eq_false h, beq_eq_false_iff_ne]
    intro e
    refine h ?_
    cases t; cases s
    exact congrArg _ (Array.toList_inj.1 e)
set_option maxRecDepth 100000 in
theorem ris_any {w : World} {v : Value} {l : List ByteArray} (hv : StrsOf w v l) (s : ByteArray) : Calls Tryd.prog 58 #[v, .string s] w fun e w' => e = .returned (.bool (hasB l s)) ∧ w = w' := by
  obtain ⟨a, n, cap, rfl, hl, -, hm, hx⟩ := hv
  have HX := Lib.hid hx; have HL := Lib.hid hl
  clear hx hl
  go_enter Tryd.func58, Tryd.ntmps58
  go_wp2
  go_loop [5] (fun i => ∃ k : Nat, k ≤ n ∧ i = .int .i64 k ∧ hasB (l.take k) s = false) (fun i => n - (intOf i).toNat)
  case atStart => exact ⟨0, Nat.zero_le _, rfl, rfl⟩
  case round =>
    obtain ⟨k, hk, rfl, ha⟩ := hrel
    by_cases hlt : k < n
    · obtain ⟨b, off, t, rfl, hlk, -, hc⟩ := HX.out k hlt
      have HA := Lib.hid ha; have HK := Lib.hid hlk
      have hlt' : (k : Int) < (n : Int) := by omega
      have k0 : (0 : Int) ≤ (k : Int) := by omega
      have hse := strEq t s
      clear ha hlk
      by_cases hts : t = s
      · have HT := Lib.hid hts
        rw [decide_eq_true hts] at hse
        clear hts
        go_wp2
        go_ret
        exact ⟨ret_bool (hasB_true HK.out HT.out).symm, rfl⟩
      · have HT := Lib.hid hts
        rw [decide_eq_false hts] at hse
        clear hts
        go_wp2
        exact ⟨⟨k + 1, by omega, by go_num, by rw [hasB_take HK.out, HA.out, decide_eq_false HT.out]; rfl⟩, by simp [intOf]; omega⟩
    · obtain rfl : k = n := by omega
      have HA := Lib.hid ha
      clear ha
      go_wp2
      go_ret
      exact ⟨ret_bool (by rw [← HA.out, List.take_of_length_le (by rw [HL.out]; exact Nat.le_refl _)]), rfl⟩
set_option maxRecDepth 100000 in
theorem index_any {w : World} {v : Value} {l : List ByteArray} (hv : StrsOf w v l) (s : ByteArray) : Calls Tryd.prog 78 #[v, .string s] w fun e w' => ∃ k : Int, e = .returned (.int .i64 k) ∧ decide ((0 : Int) ≤ k) = hasB l s ∧ w = w' := by
  obtain ⟨a, n, cap, rfl, hl, -, hm, hx⟩ := hv
  have HX := Lib.hid hx; have HL := Lib.hid hl
  clear hx hl
  go_enter Tryd.func78, Tryd.ntmps78
  go_wp2
  go_loop [8] (fun i => ∃ k : Nat, k ≤ n ∧ i = .int .i64 k ∧ hasB (l.take k) s = false) (fun i => n - (intOf i).toNat)
  case atStart => exact ⟨0, Nat.zero_le _, rfl, rfl⟩
  case round =>
    obtain ⟨k, hk, rfl, ha⟩ := hrel
    by_cases hlt : k < n
    · obtain ⟨b, off, t, rfl, hlk, -, hc⟩ := HX.out k hlt
      have HA := Lib.hid ha; have HK := Lib.hid hlk
      have hlt' : (k : Int) < (n : Int) := by omega
      have k0 : (0 : Int) ≤ (k : Int) := by omega
      have hse := strEq s t
      clear ha hlk
      by_cases hts : t = s
      · have HT := Lib.hid hts
        rw [decide_eq_true hts.symm] at hse
        clear hts
        go_wp2
        go_ret
        exact ⟨_, rfl, by rw [hasB_true HK.out HT.out]; exact decide_eq_true k0, rfl⟩
      · have HT := Lib.hid hts
        rw [decide_eq_false (Ne.symm hts)] at hse
        clear hts
        go_wp2
        exact ⟨⟨k + 1, by omega, by go_num, by rw [hasB_take HK.out, HA.out, decide_eq_false HT.out]; rfl⟩, by simp [intOf]; omega⟩
    · obtain rfl : k = n := by omega
      have HA := Lib.hid ha
      clear ha
      go_wp2
      go_ret
      exact ⟨_, rfl, by rw [List.take_of_length_le (by rw [HL.out]; exact Nat.le_refl _)] at HA; rw [HA.out]; rfl, rfl⟩
theorem contains_any {w : World} {v : Value} {l : List ByteArray} (hv : StrsOf w v l) (s : ByteArray) : Calls Tryd.prog 62 #[v, .string s] w fun e w' => e = .returned (.bool (hasB l s)) ∧ w = w' := by
  have hi := index_any hv s
  obtain ⟨a, n, cap, rfl, -⟩ := hv
  have HI := Lib.hid hi
  clear hi
  go_enter Tryd.func62, Tryd.ntmps62
  go_wp2_with (go_at_call 78; refine HI.out.mono ?_; rintro e w5 ⟨k, rfl, hk, rfl⟩; have HK := Lib.hid hk; clear hk)
  go_ret
  exact ⟨ret_bool HK.out, rfl⟩
/-- Names, each once. -/
def namesTo (l : List ByteArray) (k : Nat) : Bool := (List.range k).all fun i => match l[i]? with | some s => nameB s && !(hasB (l.take i) s) | none => true
def namesB (l : List ByteArray) : Bool := namesTo l l.length && decide (l.length ≤ 32)
theorem namesTo_succ {l : List ByteArray} {k : Nat} {s : ByteArray} (h : l[k]? = some s) : namesTo l (k + 1) = (namesTo l k && (nameB s && !(hasB (l.take k) s))) := by
  unfold namesTo
  rw [List.range_succ, List.all_append]
  simp [h]
theorem namesB_fall {l : List ByteArray} {k : Nat} {s : ByteArray} (h : l[k]? = some s) (hb : (nameB s && !(hasB (l.take k) s)) = false) : namesB l = false := by
  unfold namesB
  cases hn : namesTo l l.length with
  | false => rfl
  | true =>
    unfold namesTo at hn
    rw [List.all_eq_true] at hn
    have := hn k (List.mem_range.2 (List.getElem?_eq_some_iff.1 h).1)
    rw [h] at this
    simp only at this
    rw [hb] at this; cases this
set_option maxRecDepth 100000 in
theorem rnames_any {w : World} {v : Value} {l : List ByteArray} (hv : StrsOf w v l) : Calls Tryd.prog 42 #[v] w fun e w' => e = .returned (.bool (namesB l)) ∧ Below w.heap.size w w' := by
  have HV := Lib.hid hv
  obtain ⟨a, n, cap, rfl, hl, hcap, hm, hx⟩ := hv
  have HX := Lib.hid hx; have HL := Lib.hid hl
  clear hx hl
  go_enter Tryd.func42, Tryd.ntmps42
  go_wp2
  go_loopw [3] (fun i wx => ∃ k : Nat, k ≤ n ∧ i = .int .i64 k ∧ namesTo l k = true ∧ Below w.heap.size w wx) (fun i _ => n - (intOf i).toNat)
  case atStart => exact ⟨0, Nat.zero_le _, rfl, rfl, Below.refl _ _⟩
  case round =>
    obtain ⟨k, hk, rfl, ha, hbw⟩ := hrel
    by_cases hlt : k < n
    · obtain ⟨b, off, s, rfl, hlk, hsz, hc0⟩ := HX.out k hlt
      have hc := cell_later hbw hc0
      have hnm := fun (m : Nat) => (rname_any s hsz (wr.drewN m)).mono (fun _ _ h => And.intro h.1 h.2.symm)
      have his := fun (m : Nat) => (ris_any ((HV.out.later (below_drewN hbw m)).take k (by omega)) s).mono (fun _ _ h => And.intro h.1 h.2.symm)
      have hsu := namesTo_succ hlk
      have hfa := namesB_fall hlk
      have HA := Lib.hid ha; have HBW := Lib.hid hbw
      have hlt' : (k : Int) < (n : Int) := by omega
      have k0 : (0 : Int) ≤ (k : Int) := by omega
      have kc : (k : Int) ≤ (cap : Int) := by omega
      clear hc0 hbw
      cases hb1 : nameB s with
      | false =>
        rw [hb1] at hnm hfa
        have HNM := Lib.hid hnm; have HFA := Lib.hid (hfa rfl)
        clear ha hlk hnm his hsu hfa
        go_wp2
        go_quiet ((go_at_call 57; refine Calls.quiet_of_same (HNM.out _)))
        go_wp2
        go_ret
        exact ⟨ret_bool HFA.out.symm, below_drewN HBW.out _⟩
      | true =>
        cases hb2 : hasB (l.take k) s with
        | true =>
          rw [hb1] at hnm hfa
          rw [hb2] at his hfa
          have HNM := Lib.hid hnm; have HFA := Lib.hid (hfa rfl); have HIS := Lib.hid his
          clear ha hlk hnm his hsu hfa
          go_wp2
          go_quiet ((first | (go_at_call 57; refine Calls.quiet_of_same (HNM.out _)) | (go_at_call 58; refine Calls.quiet_of_same (HIS.out _))))
          go_wp2
          go_ret
          exact ⟨ret_bool HFA.out.symm, below_drewN HBW.out _⟩
        | false =>
          rw [hb1] at hnm hsu
          rw [hb2] at his hsu
          have HNM := Lib.hid hnm; have HSU := Lib.hid hsu; have HIS := Lib.hid his
          clear ha hlk hnm his hsu hfa
          go_wp2
          go_quiet ((first | (go_at_call 57; refine Calls.quiet_of_same (HNM.out _)) | (go_at_call 58; refine Calls.quiet_of_same (HIS.out _))))
          go_wp2
          exact ⟨⟨k + 1, by omega, by go_num, by rw [HSU.out, HA.out]; rfl, below_drewN HBW.out _⟩, by simp [intOf]; omega⟩
    · obtain rfl : k = n := by omega
      have hn : namesB l = decide (k ≤ 32) := by unfold namesB; rw [HL.out, ha]; rfl
      have HN := Lib.hid hn; have HBW := Lib.hid hbw
      clear ha hn hbw
      by_cases h32 : k ≤ 32
      · have g : decide ((k : Int) ≤ 32) = true := decide_eq_true (by omega)
        go_wp2
        go_ret
        exact ⟨ret_bool (by rw [HN.out, decide_eq_true h32]), HBW.out⟩
      · have g : decide ((k : Int) ≤ 32) = false := decide_eq_false (by omega)
        go_wp2
        go_ret
        exact ⟨ret_bool (by rw [HN.out, decide_eq_false h32]), HBW.out⟩
set_option maxRecDepth 100000 in
theorem fnames_any {w : World} {v : Value} {l : List ByteArray} (hv : StrsOf w v l) : Calls Tryd.prog 45 #[v] w fun e w' => e = .returned (.bool (namesB l)) ∧ Below w.heap.size w w' := by
  have HV := Lib.hid hv
  obtain ⟨a, n, cap, rfl, hl, hcap, hm, hx⟩ := hv
  have HX := Lib.hid hx; have HL := Lib.hid hl
  clear hx hl
  go_enter Tryd.func45, Tryd.ntmps45
  go_wp2
  go_loopw [7] (fun i wx => ∃ k : Nat, k ≤ n ∧ i = .int .i64 k ∧ namesTo l k = true ∧ Below w.heap.size w wx) (fun i _ => n - (intOf i).toNat)
  case atStart => exact ⟨0, Nat.zero_le _, rfl, rfl, Below.refl _ _⟩
  case round =>
    obtain ⟨k, hk, rfl, ha, hbw⟩ := hrel
    by_cases hlt : k < n
    · obtain ⟨b, off, s, rfl, hlk, hsz, hc0⟩ := HX.out k hlt
      have hc := cell_later hbw hc0
      have hnm := fname_any s hsz
      have his := fun (wy : World) (hy : Below w.heap.size w wy) => contains_any ((HV.out.later hy).take k (by omega)) s
      have hsu := namesTo_succ hlk
      have hfa := namesB_fall hlk
      have HA := Lib.hid ha; have HBW := Lib.hid hbw
      have hlt' : (k : Int) < (n : Int) := by omega
      have k0 : (0 : Int) ≤ (k : Int) := by omega
      have kc : (k : Int) ≤ (cap : Int) := by omega
      clear hc0 hbw
      cases hb1 : nameB s with
      | false =>
        rw [hb1] at hnm hfa
        have HNM := Lib.hid hnm; have HFA := Lib.hid (hfa rfl)
        clear ha hlk hnm his hsu hfa
        go_wp2_with (go_at_call 61; refine (HNM.out _).mono ?_; rintro e w5 ⟨rfl, hb5⟩; have HB5 := Lib.hid hb5; clear hb5)
        go_ret
        exact ⟨ret_bool HFA.out.symm, HBW.out.trans (HB5.out.mono HBW.out.size)⟩
      | true =>
        cases hb2 : hasB (l.take k) s with
        | true =>
          rw [hb1] at hnm hfa
          rw [hb2] at his hfa
          have HNM := Lib.hid hnm; have HFA := Lib.hid (hfa rfl); have HIS := Lib.hid his
          clear ha hlk hnm his hsu hfa
          go_wp2_with (first | (go_at_call 61; refine (HNM.out _).mono ?_; rintro e w5 ⟨rfl, hb5⟩; have HB5 := Lib.hid (HBW.out.trans (hb5.mono HBW.out.size)); clear hb5) | (go_at_call 62; refine (HIS.out _ HB5.out).mono ?_; rintro e w6 ⟨rfl, rfl⟩))
          go_ret
          exact ⟨ret_bool HFA.out.symm, HB5.out⟩
        | false =>
          rw [hb1] at hnm hsu
          rw [hb2] at his hsu
          have HNM := Lib.hid hnm; have HSU := Lib.hid hsu; have HIS := Lib.hid his
          clear ha hlk hnm his hsu hfa
          go_wp2_with (first | (go_at_call 61; refine (HNM.out _).mono ?_; rintro e w5 ⟨rfl, hb5⟩; have HB5 := Lib.hid (HBW.out.trans (hb5.mono HBW.out.size)); clear hb5) | (go_at_call 62; refine (HIS.out _ HB5.out).mono ?_; rintro e w6 ⟨rfl, rfl⟩))
          exact ⟨⟨k + 1, by omega, by go_num, by rw [HSU.out, HA.out]; rfl, HB5.out⟩, by simp [intOf]; omega⟩
    · obtain rfl : k = n := by omega
      have hn : namesB l = decide (k ≤ 32) := by unfold namesB; rw [HL.out, ha]; rfl
      have HN := Lib.hid hn; have HBW := Lib.hid hbw
      clear ha hn hbw
      by_cases h32 : k ≤ 32
      · have g : decide ((k : Int) ≤ 32) = true := decide_eq_true (by omega)
        go_wp2
        go_ret
        exact ⟨ret_bool (by rw [HN.out, decide_eq_true h32]), HBW.out⟩
      · have g : decide ((k : Int) ≤ 32) = false := decide_eq_false (by omega)
        go_wp2
        go_ret
        exact ⟨ret_bool (by rw [HN.out, decide_eq_false h32]), HBW.out⟩
end Go.Proofs.YtiklidgcmheofaaDoor
