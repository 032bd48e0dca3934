/- SimpRules. -/
import Derived.Test.YtcpgiadhmmmafaaRSimpG
import Derived.Test.YtcpgiadhmmmafaaSimpT
namespace Go.Proofs.Ytcpgiadhmmmafaa
open Go.RowKit Go.Maps
set_option maxHeartbeats 3200000

variable {P : Program} in
/-- One element is appended to an own slice: the run. -/
theorem append1_run (T E ty : Nat) (k : IntKind) (wr : World) (v : Value) (xs : List Int) (q : Int) (bytes : Nat)
    (hown : OwnInts wr 0 E k v xs) (ht : P.underlying T = some (.slice E)) (hi : (P.info? E).map (fun i => (i.zero, i.size, i.bytes)) = some (some (.int k 0), 1, bytes)) (hbt : bytes ≤ 1000) (hn : xs.length ≤ 999999999) :
    ∃ a' c' w', (Builtin.append_ #[T, T] ty #[v, .slice (some ⟨wr.heap.size, 0, none⟩) 1 1]).run P (wr.alloc (.cells #[.int k q] E)) = .ok (.slice a' (xs.length + 1) c') w' ∧ OwnInts w' 0 E k (.slice a' (xs.length + 1) c') (xs ++ [q]) ∧ Touch v.ownBlock.toList wr w' ∧
      ∀ b, (Value.slice a' (xs.length + 1) c').ownBlock = some b → v.ownBlock = some b ∨ wr.heap.size ≤ b := by
  have hsrc := srcOf_new wr (.int k q) E
  have hown' : (wr.alloc (.cells #[.int k q] E)).ownsRow 0 E 1 v xs.length (xs.map (Value.int k)) := hown.alloc _
  have h1 : ∀ u ∈ [Value.int k q], u.oneCell' = true := by simp [Value.oneCell']
  obtain ⟨v', w', hr, h2, h3⟩ := run_append_src (P := P) (wr.alloc (.cells #[.int k q] E)) 0 T ty E 1 bytes (.int k 0) ht hi rfl (by decide) hbt v _ xs.length 1 _ [.int k q] hown' hsrc h1 (by omega) (Nat.zero_le _)
  have blk := append_block (P := P) (T := T) (ty := ty) (bytes := bytes) (z := .int k 0) ht hi hbt hown' hsrc h1 (by decide) (by omega) hr
  obtain ⟨a', c', rfl⟩ : ∃ a' c', v' = .slice a' (xs.length + 1) c' := by
    rcases h2.2 with ⟨_, h0⟩ | ⟨g, cap, cur, rfl, _⟩
    · omega
    · exact ⟨_, _, rfl⟩
  refine ⟨a', c', w', hr, ?_, ?_, ?_⟩
  · unfold OwnInts
    rw [List.length_append, List.map_append]
    exact h2
  · refine ⟨h3.os, h3.tape, h3.output, by have := h3.size; simp at this; omega, fun b hb hn => ?_⟩
    rw [h3.block b (by simp; omega) (fun e => hn (by simp [← e])), heap_alloc_old _ _ hb]
  · intro b hb
    exact (blk b hb).imp id (fun h => by simp at h; omega)
theorem wpList_append_is {P : Program} {w : World} {ops : Array Oper} {rest : List Oper} {o : Oper} {a : Act} {Q : Exit → Act → World → Prop} (hg : o.guard = none) (s x : Operand) (T : TypeId) (hop : o.op = Op.call { callee := Callee.builtin Builtin.append, args := #[s, x], argTypes := #[T, T] })
    (sv xv : Value) (hs : a.eval s = sv) (hx : a.eval x = xv) (v' : Value) (w' : World) (hr : (Builtin.append_ #[T, T] o.type #[sv, xv]).run P w = .ok v' w') (h : wpList P ops Q rest (a.put o.dst v') w') : wpList P ops Q (o :: rest) a w := by
  refine wpList_plain hg fun _ hK => ?_
  unfold Oper.wp execOp
  simp [hop, resolve, invoke, builtin, hs, hx, hr, Result.andThen]
  exact hK _ _ h
theorem step_call_is {P : Program} {ops : Array Oper} {o : Oper} {a : Act} {w : World} {K : Act → World → Prop} {Q : Exit → Act → World → Prop} {E : Prop}
    (hg : o.guard = none) (n : Nat) (x y : Operand) (tx ty : TypeId) (hop : o.op = Op.call { callee := Callee.value (.func n), args := #[x, y], argTypes := #[tx, ty] }) (xv yv : Value) (hx : a.eval x = xv) (hy : a.eval y = yv)
    (v : Value) (hent : ∀ w, (callFunc n #[xv, yv]).run P w = .ok (.enter n #[xv, yv]) w) (hc : Calls P n #[xv, yv] w fun e w' => e = .returned v ∧ w = w') (hK : K (a.put o.dst v) w) :
    if Region.wanted o (yielded ops a.tmps) = true then Oper.wp P o a w K Q else E := by
  have hw : Region.wanted o (yielded ops a.tmps) = true := by simp [Region.wanted, hg]
  rw [if_pos hw]
  have hf : a.eval (.func n) = .func (.func n) #[] #[] := rfl
  unfold Oper.wp
  simp [execOp, hop, resolve, hf, hx, hy, Deferred.ofValue, invoke, hent, Oper.upon]
  refine hc.mono ?_
  rintro e w' ⟨rfl, rfl⟩
  exact hK
theorem doR_prefix (W room : Nat) (L : List PNode) (a : PAsk) : L <+: (doR W room L a).1 := by
  unfold doR
  split
  · exact isPrefix_const _ _ _ _
  · split
    · exact isPrefix_var _ _ _
    · exact isPrefix_app _ _ _ _
theorem do12R_prefix (W room : Nat) (L : List PNode) (a : PAsk) : L <+: (do12R W room L a).1 := by
  unfold do12R
  split
  · exact simpR_prefix _ _ _ _ _
  · exact doR_prefix _ _ _ _
/-- What is asked for first. -/
def first6 (num : Nat) (k : Nat) : PAsk :=
  match k with
  | 0 => (0, 0, 0, 0, [])
  | 1 => (0, 0, 1, 0, [])
  | 2 => (0, 0, 18446744073709551615, 0, [])
  | 3 => (1, 0, 0, 0, [])
  | 4 => (1, 0, 0, 1, [])
  | _ => (0, 0, num, 0, [])
def firstF (num : Nat) (i : Nat) : Value :=
  match i % 5 with
  | 0 => .int .u8 (first6 num (i / 5)).1
  | 1 => .int .u8 (first6 num (i / 5)).2.1
  | 2 => .int .u64 (first6 num (i / 5)).2.2.1
  | 3 => .int .i64 (first6 num (i / 5)).2.2.2.1
  | _ => .slice none 0 0
theorem const_pos {W room : Nat} {L : List PNode} (h : 0 < room) {num : Nat} : 0 < (do12R W room L (first6 num 0)).1.length := by
  show 0 < (askP room L _).1.length
  unfold askP
  split
  · rename_i i hi
    cases L with
    | nil => simp at hi
    | cons n L => simp
  · split
    · simp only; omega
    · simp
theorem first6_ok {num : Nat} (h : num < 18446744073709551616) (k : Nat) : (first6 num k).Ok := by
  unfold first6 PAsk.Ok
  split <;> simp <;> omega
theorem first6_nil (num k : Nat) : (first6 num k).2.2.2.2 = [] := by
  unfold first6
  split <;> rfl
theorem firstF_at (num k : Nat) : firstF num (k * 5) = .int .u8 (first6 num k).1 ∧ firstF num (k * 5 + 1) = .int .u8 (first6 num k).2.1 ∧ firstF num (k * 5 + 2) = .int .u64 (first6 num k).2.2.1 ∧ firstF num (k * 5 + 3) = .int .i64 (first6 num k).2.2.2.1 ∧ firstF num (k * 5 + 4) = .slice none 0 0 := by
  unfold firstF
  rw [show k * 5 % 5 = 0 by omega, show k * 5 / 5 = k by omega, show (k * 5 + 1) % 5 = 1 by omega, show (k * 5 + 1) / 5 = k by omega, show (k * 5 + 2) % 5 = 2 by omega, show (k * 5 + 2) / 5 = k by omega, show (k * 5 + 3) % 5 = 3 by omega, show (k * 5 + 3) / 5 = k by omega, show (k * 5 + 4) % 5 = 4 by omega]
  exact ⟨rfl, rfl, rfl, rfl, rfl⟩
theorem Lab.stays_ints {w0 wr : World} {ts : List Thing} {F I : List Nat} {gb W room : Nat} {L : List PNode} {va : Value} {xs : List Int} (h : Lab w0 wr (Thing.graph F I gb W room L :: ts)) (hm : Thing.ints va xs ∈ ts) : Stays wr F va xs := fun wx ht => by
  have hown : OwnInts wr 0 3 .i64 va xs := h.holds _ (List.mem_cons_of_mem _ hm)
  have hap := (List.pairwise_cons.1 h.apart).1 _ hm
  refine OwnInts.slice (base := 0) (owns_keep hown fun k hk => ht.block k (World.ownsRow.lt hown k hk).2 (fun hF => (hap.1 k hF).1 (by simp [Thing.ints, Thing.row, hk])))
noncomputable def rulesRest12 : Code := (Try.f3.body.bind (tailR 12)).getD .skip
set_option maxRecDepth 100000 in
theorem simpRules_rest12 {u0 u1 u3 u4 u5 u6 u7 u8 u10 u11 u12 u13 u14 u15 u16 u17 u18 u19 u20 u21 u22 u23 u24 u25 u26 u27 u28 u29 u30 u31 u32 u33 u34 u35 u36 u37 u38 u39 u40 u41 u42 u43 u44 u45 u46 u47 u48 u49 u50 u51 u52 u53 u54 u55 u56 u57 u58 u59 u60 u61 u62 u63 u64 u65 u66 u67 u68 u69 u70 u71 u72 u73 u74 u75 u76 u77 u78 u79 u80 u81 u82 u83 u84 u85 u86 u87 u88 u89 u90 u91 u92 u93 u94 u95 u96 u97 u98 u99 u100 u101 u102 u103 u104 u105 u106 u107 u108 u109 u110 u111 u112 u113 u114 u115 u116 u117 u118 u119 u120 u121 u122 u123 u124 u125 u126 u127 u128 u129 u130 u131 u132 : Value} {w wr : World} {F I F' I' : List Nat} {gb rb W room pb n cap : Nat} {a : Option Addr} {L : List PNode} {qs : List PAsk} (hv : AsksOf w (.slice a n cap) qs) (hq : n ≤ 9223372036854775807) (h0 : 0 < L.length) (hl : Lab w wr [Thing.graph F I gb W room L, Thing.rgraph F' I' rb W room L, Thing.box pb 32 #[.pointer (some ⟨gb, 0, none⟩), .pointer (some ⟨rb, 0, none⟩)]]) :
    Code.wp Try.prog rulesRest12 (bodyPost Try.prog Try.f3 (fun e w' => e = .returned (.bool true) ∧ Below w.heap.size w w')) ⟨(List.toArray (u0 :: u1 :: .slice a n cap :: u3 :: u4 :: u5 :: u6 :: u7 :: u8 :: .pointer (some ⟨pb, 0, none⟩) :: u10 :: u11 :: u12 :: u13 :: u14 :: u15 :: u16 :: u17 :: u18 :: u19 :: u20 :: u21 :: u22 :: u23 :: u24 :: u25 :: u26 :: u27 :: u28 :: u29 :: u30 :: u31 :: u32 :: u33 :: u34 :: u35 :: u36 :: u37 :: u38 :: u39 :: u40 :: u41 :: u42 :: u43 :: u44 :: u45 :: u46 :: u47 :: u48 :: u49 :: u50 :: u51 :: u52 :: u53 :: u54 :: u55 :: u56 :: u57 :: u58 :: u59 :: u60 :: u61 :: u62 :: u63 :: u64 :: u65 :: u66 :: u67 :: u68 :: u69 :: u70 :: u71 :: u72 :: u73 :: u74 :: u75 :: u76 :: u77 :: u78 :: u79 :: u80 :: u81 :: u82 :: u83 :: u84 :: u85 :: u86 :: u87 :: u88 :: u89 :: u90 :: u91 :: u92 :: u93 :: u94 :: u95 :: u96 :: u97 :: u98 :: u99 :: u100 :: u101 :: u102 :: u103 :: u104 :: u105 :: u106 :: u107 :: u108 :: u109 :: u110 :: u111 :: u112 :: u113 :: u114 :: u115 :: u116 :: u117 :: u118 :: u119 :: u120 :: u121 :: u122 :: u123 :: u124 :: u125 :: u126 :: u127 :: u128 :: u129 :: u130 :: u131 :: u132 :: [])), []⟩ wr := by
  have HV := Lib.hid hv; have HL := Lib.hid hl
  clear hv hl
  conv => arg 2; whnf
  go_wp2
  go_loopw [14] (fun i wx => ∃ k : Nat, k ≤ n ∧ k ≤ 150 ∧ i = .int .i64 k ∧ ∃ F I F' I' L, 0 < L.length ∧ Lab w wx [Thing.graph F I gb W room L, Thing.rgraph F' I' rb W room L, Thing.box pb 32 #[.pointer (some ⟨gb, 0, none⟩), .pointer (some ⟨rb, 0, none⟩)]]) (fun i _ => n - (intOf i).toNat)
  case atStart => exact ⟨0, by omega, by omega, rfl, _, _, _, _, _, h0, HL.out⟩
  case round =>
    clear h0 HL
    obtain ⟨k, hk, hk2, rfl, F, I, F', I', L, h0, hl⟩ := hrel
    by_cases hlt : k < n ∧ k < 150
    · have hlt1 : (k : Int) < (n : Int) := by omega
      have hlt2 : (k : Int) < 150 := by omega
      obtain ⟨b, off, x, va, rfl, hx, hok, hav, c0, c1, c2, c3, c4⟩ := HV.out.at hlt.1
      have hys := hav.slice
      obtain ⟨x0, x1, qn, xn, ys⟩ := x
      simp only at hys c1 c4
      have hyr := hok.2.2.2.2.1
      simp only at hyr
      obtain ⟨av, m, cv, rfl, hna, hcell⟩ := hys.parts
      have hm9 : m ≤ 9223372036854775807 := by rw [← hna]; exact hok.2.2.2.2.2
      have d1 := cell_later hl.below c1
      obtain ⟨ab, hab⟩ : ∃ ab, wr.heap.size = ab := ⟨_, rfl⟩
      have hl1 := (hl.alloc #[.int .u8 3, .int .u8 (2 + (x1 : Int) % 20), .int .u64 0, .int .i64 0, .slice none 0 0] 35).nil_ints
      rw [hab] at hl1
      have HL1 := Lib.hid hl1; have HC := Lib.hid (fun i hi => hcell i hi); have HYR := Lib.hid hyr
      have hx1 : x1 ≤ 255 := hok.2.1
      have c4' := Lib.hid c4
      clear hl hl1 hx hok hav c0 c1 c2 c3 c4 hcell hys hyr hlt
      go_upto_region 16 with fail
      clear hab d1
      refine wp_abs (fun w1 => Lab w w1 [Thing.ints (.slice none 0 0) [], Thing.box ab 35 #[.int .u8 3, .int .u8 (2 + (x1 : Int) % 20), .int .u64 0, .int .i64 0, .slice none 0 0], Thing.graph F I gb W room L, Thing.rgraph F' I' rb W room L, Thing.box pb 32 #[.pointer (some ⟨gb, 0, none⟩), .pointer (some ⟨rb, 0, none⟩)]]) HL1.out ?_
      clear HL1
      rintro w1 hl
      obtain ⟨p, hp⟩ : ∃ p, aryN (2 + x1 % 20) = p := ⟨_, rfl⟩
      have hp3 : p ≤ 3 := by rw [← hp]; exact aryN_le _
      have har := arity12_any x1
      rw [hp] at har
      have HAR := Lib.hid har; have HP := Lib.hid hp
      have HL2 := Lib.hid hl
      clear hl har hp
      go_wp2
      go_loopw [16] (fun i wx => ∃ j : Nat, j ≤ 3 ∧ i = .int .i64 j ∧ ∃ ao co xs, xs.length ≤ j ∧ (∀ u ∈ xs, (0 : Int) ≤ u ∧ u < (L.length : Int)) ∧ Lab w wx [Thing.ints (.slice ao xs.length co) xs, Thing.box ab 35 #[.int .u8 3, .int .u8 (2 + (x1 : Int) % 20), .int .u64 0, .int .i64 0, .slice ao xs.length co], Thing.graph F I gb W room L, Thing.rgraph F' I' rb W room L, Thing.box pb 32 #[.pointer (some ⟨gb, 0, none⟩), .pointer (some ⟨rb, 0, none⟩)]]) (fun i _ => 3 - (intOf i).toNat)
      case atStart => exact ⟨0, by omega, rfl, none, 0, [], by simp, by simp, HL2.out⟩
      case round =>
        clear HL2
        obtain ⟨j, hj, rfl, ao, co, xs, hxl, hxr, hl⟩ := hrel
        by_cases hlt : j < 3
        · have hlt3 : (j : Int) < 3 := by omega
          have d4 := cell_later hl.below c4'.out
          have HL3 := Lib.hid hl; have HXR := Lib.hid hxr
          clear hl hxr
          go_upto_if 84 with fail
          go_cut [17] (fun t wx => ∃ q : Int, t = .int .i64 q ∧ Lab w wx [Thing.ints (.slice ao xs.length co) xs, Thing.box ab 35 #[.int .u8 3, .int .u8 (2 + (x1 : Int) % 20), .int .u64 0, .int .i64 0, .slice ao xs.length co], Thing.graph F I gb W room L, Thing.rgraph F' I' rb W room L, Thing.box pb 32 #[.pointer (some ⟨gb, 0, none⟩), .pointer (some ⟨rb, 0, none⟩)]])
          case first =>
            rcases Nat.eq_zero_or_pos m with hm | hm
            · subst hm
              go_wp2
              go_meet
              exact ⟨0, rfl, HL3.out⟩
            · obtain ⟨b5, off5, y, rfl, hc, hy⟩ := HC.out (j % m) (Nat.mod_lt _ hm)
              have hc' := cell_later HL3.out.below hc
              have hm0 : (0 : Int) < (m : Int) := by omega
              have hmz : ((m : Int) == 0) = false := by simp; omega
              have hkm : ((j : Int).tmod (m : Int)) = ((j % m : Nat) : Int) := by rw [Int.tmod_eq_emod_of_nonneg (by omega)]; simp
              have hkm2 : ((j : Int) % (m : Int)) = ((j % m : Nat) : Int) := by simp
              have hkl := Nat.mod_lt j hm
              obtain ⟨jj, hjj⟩ : ∃ jj, j % m = jj := ⟨_, rfl⟩
              rw [hjj] at hc hc' hkm hkm2 hkl
              clear hc hjj hy
              go_wp2
              go_quiet (fail)
              go_wp2
              go_meet
              exact ⟨y, rfl, HL3.out.drewN _⟩
          case rest =>
            obtain ⟨q, rfl, hl⟩ := hcut
            have hbx := hl.box2
            have e1 : wc.cell? ⟨ab, 1, none⟩ = some (.int .u8 (2 + (x1 : Int) % 20)) := by rw [cell_of_row wc ab 1 _ _ _ hbx]; rfl
            have HL4 := Lib.hid hl
            clear hl hbx d4 HL3
            go_wp2_with fail
            go_at_call 20
            refine (HAR.out _).mono ?_
            rintro e w3 ⟨rfl, hb3⟩
            have hl := HL4.out.later hb3
            clear hb3 e1
            by_cases hjp : j < p
            · have hjp' : (j : Int) < (p : Int) := by omega
              have hld := hl.later (Below.refl _ _).drew
              obtain ⟨sa, scap, -, -, s2, hll⟩ := RGr.parts (w := w3) (hl.fourth)
              have hbx := hl.box2
              have hbp : w3.heap[pb]? = _ := hl.fifth
              have e4 : w3.cell? ⟨ab, 4, none⟩ = some (.slice ao xs.length co) := by rw [cell_of_row w3 ab 4 _ _ _ hbx]; rfl
              have k1 : w3.cell? ⟨pb, 1, none⟩ = some (.pointer (some ⟨rb, 0, none⟩)) := by rw [cell_of_row w3 pb 1 _ _ _ hbp]; rfl
              have hown : OwnInts w3.drew 0 3 .i64 (.slice ao xs.length co) xs := hld.ints
              have hlx : xs.length ≤ 999999999 := by omega
              have HLd := Lib.hid hld
              have hN : (1 : Int) ≤ (L.length : Int) := by omega
              have hN2 : (L.length : Int) ≤ 1000000000 := by omega
              have hq0 := Int.emod_nonneg q (show (L.length : Int) ≠ 0 by omega)
              have hq1 := Int.emod_lt_of_pos q (show (0 : Int) < (L.length : Int) by omega)
              clear hl hld hbx hbp
              go_upto_region 23 with fail
              obtain ⟨a5, c5, w5, hr, hown5, ht5, hb5⟩ := append1_run (P := Try.prog) 33 3 33 .i64 w3.drew (.slice ao xs.length co) xs (q % (L.length : Int)) 8 hown Try.underlying33 Try.infoI64 (by decide) hlx
              have hl5 := HLd.out.grown_ints hown5 ht5 hb5
              have hbx5 := hl5.box2
              have f4 := frozen_of_row w5 ab 4 _ _ hbx5
              have g4 : w5.cell? ⟨ab, 4, none⟩ = some (.slice ao xs.length co) := by rw [cell_of_row w5 ab 4 _ _ _ hbx5]; rfl
              have HL5 := Lib.hid (hl5.swap.store 4 (.slice a5 (xs.length + 1) c5)).swap
              clear hl5 hown5 ht5 hb5 hown hbx5
              have e4a : (w3.alloc (.cells #[.int .i64 (q % (L.length : Int))] 3)).cell? ⟨ab, 4, none⟩ = some (.slice ao xs.length co) := cell_later (below_new w3 _) e4
              have hent : ∀ w, (callFunc 18 #[.int .i64 q, .int .i64 (L.length : Int)]).run Try.prog w = .ok (.enter 18 #[.int .i64 q, .int .i64 (L.length : Int)]) w := fun _ => by kernel_rfl
              have HENT := Lib.hid hent; have HR5 := Lib.hid hr
              clear hent hr
              go_region_law (first | (refine step_call_is rfl 18 _ _ _ _ rfl (.int .i64 q) (.int .i64 (L.length : Int)) rfl rfl (.int .i64 (q % (L.length : Int))) HENT.out (mod_any q (L.length : Int) hN hN2 _) ?_) | (refine step_append_is rfl _ _ 33 rfl (.slice ao xs.length co) (.slice (some ⟨w3.drew.heap.size, 0, none⟩) 1 1) rfl rfl (.slice a5 (xs.length + 1) c5) w5 HR5.out ?_))
              all_goals go_wp2
              all_goals go_roundw
              all_goals first
                | exact ⟨j + 1, by omega, by go_num, a5, c5, xs ++ [q % (L.length : Int)], by simp; omega, fun u hu => by
                    rcases List.mem_append.1 hu with hu | hu
                    · exact HXR.out u hu
                    · simp at hu; subst hu; exact ⟨hq0, hq1⟩, by rw [List.length_append]; exact HL5.out⟩
                | (simp [intOf]; omega)
            · have hjp' : ¬ (j : Int) < (p : Int) := by omega
              have HL5 := Lib.hid hl
              clear hl
              go_wp2
              go_roundw
              case rel => exact ⟨j + 1, by omega, by go_num, ao, co, xs, by omega, HXR.out, HL5.out⟩
              case measure => simp [intOf]; omega
        · obtain rfl : j = 3 := by omega
          have hld := hl.rot4.rot4
          have hdo := do12_any (hld) (3, 2 + x1 % 20, 0, 0, xs) (.slice ao xs.length co) (hld.stays_ints (by simp)) ⟨by show (3 : Nat) ≤ 255; decide, by show 2 + x1 % 20 ≤ 255; omega, by show (0 : Nat) < 18446744073709551616; decide, by show (-9223372036854775808 : Int) ≤ 0 ∧ (0 : Int) ≤ 9223372036854775807; decide, fun u hu => by have := hxr u hu; have hrr : RGr wr 0 F' I' rb W room L := hl.fourth; have h1 := hrr.len; have h2 := hrr.r2; omega, by show xs.length ≤ _; omega⟩
          simp only [Int.cast_ofNat_Int, Int.natCast_add, Int.natCast_emod] at hdo
          obtain ⟨D, hD⟩ : ∃ D, do12R W room L (3, 2 + x1 % 20, 0, 0, xs) = D := ⟨_, rfl⟩
          have hDl : 0 < D.1.length := by rw [← hD]; have := (do12R_prefix W room L (3, 2 + x1 % 20, 0, 0, xs)).length_le; omega
          rw [hD] at hdo
          have hbx := hl.box2
          have hbp : wr.heap[pb]? = _ := hl.fifth
          have e0 : wr.cell? ⟨ab, 0, none⟩ = some (.int .u8 3) := by rw [cell_of_row wr ab 0 _ _ _ hbx]; rfl
          have e1 : wr.cell? ⟨ab, 1, none⟩ = some (.int .u8 (2 + (x1 : Int) % 20)) := by rw [cell_of_row wr ab 1 _ _ _ hbx]; rfl
          have e2 : wr.cell? ⟨ab, 2, none⟩ = some (.int .u64 0) := by rw [cell_of_row wr ab 2 _ _ _ hbx]; rfl
          have e3 : wr.cell? ⟨ab, 3, none⟩ = some (.int .i64 0) := by rw [cell_of_row wr ab 3 _ _ _ hbx]; rfl
          have e4 : wr.cell? ⟨ab, 4, none⟩ = some (.slice ao xs.length co) := by rw [cell_of_row wr ab 4 _ _ _ hbx]; rfl
          have k0 : wr.cell? ⟨pb, 0, none⟩ = some (.pointer (some ⟨gb, 0, none⟩)) := by rw [cell_of_row wr pb 0 _ _ _ hbp]; rfl
          have k1 : wr.cell? ⟨pb, 1, none⟩ = some (.pointer (some ⟨rb, 0, none⟩)) := by rw [cell_of_row wr pb 1 _ _ _ hbp]; rfl
          have HDO := Lib.hid hdo
          clear hl hld hdo hD hbx hbp
          go_wp2_with fail
          go_at_call 19
          refine HDO.out.mono ?_
          rintro e w5 ⟨rfl, F5, I5, F6, I6, hl5⟩
          have HL5 := Lib.hid hl5
          clear hl5
          go_wp2
          go_roundw
          case rel => exact ⟨k + 1, by omega, by omega, by go_num, F5, I5, F6, I6, D.1, hDl, HL5.out.sub (.cons_cons _ (.cons_cons _ (.cons _ (.cons _ (.cons_cons _ (List.Sublist.refl _))))))⟩
          case measure => simp [intOf]; omega
    · have hq1 : ¬ (k : Int) < (n : Int) ∨ ((k : Int) < (n : Int) ∧ ¬ (k : Int) < 150) := by omega
      have hbc := hl.box3
      have k0 : wr.cell? ⟨pb, 0, none⟩ = some (.pointer (some ⟨gb, 0, none⟩)) := by rw [cell_of_row wr _ 0 _ _ _ hbc]; rfl
      have k1 : wr.cell? ⟨pb, 1, none⟩ = some (.pointer (some ⟨rb, 0, none⟩)) := by rw [cell_of_row wr _ 1 _ _ _ hbc]; rfl
      have HSM := Lib.hid (same_any hl.gr hl.rgr2)
      have HL3 := Lib.hid hl
      clear hl hbc hlt
      rcases hq1 with q | ⟨q, q'⟩
      · go_wp2_with fail
        go_at_call 21
        refine HSM.out.mono ?_
        rintro e w3 ⟨rfl, hb3⟩
        have HAW := Lib.hid (HL3.out.later hb3).awake12
        clear hb3
        go_wp2_with (go_at_call 22; refine HAW.out.mono ?_; rintro e w5 ⟨rfl, hb⟩)
        go_ret
        exact ⟨rfl, hb⟩
      · go_wp2_with fail
        go_at_call 21
        refine HSM.out.mono ?_
        rintro e w3 ⟨rfl, hb3⟩
        have HAW := Lib.hid (HL3.out.later hb3).awake12
        clear hb3
        go_wp2_with (go_at_call 22; refine HAW.out.mono ?_; rintro e w5 ⟨rfl, hb⟩)
        go_ret
        exact ⟨rfl, hb⟩
end Go.Proofs.Ytcpgiadhmmmafaa
namespace Go.Proofs.Ytcpgiadhmmmafaa
open Go.RowKit Go.Maps
set_option maxHeartbeats 3200000
set_option maxRecDepth 100000 in
theorem simpRules_walk {w : World} (Wi : Int) (num : Nat) (hnum : num < 18446744073709551616) (v : Value) (qs : List PAsk) (hv : AsksOf w v qs) (hq : qs.length ≤ 9223372036854775807) :
    Calls Try.prog 3 #[.int .i64 Wi, .int .u64 num, v] w fun e w' => e = .returned (.bool true) ∧ Below w.heap.size w w' := by
  obtain ⟨a, cap, rfl⟩ := hv.parts
  obtain ⟨n, hn⟩ : ∃ n, qs.length = n := ⟨_, rfl⟩
  rw [hn] at hv hq ⊢
  have hk0 := Int.emod_nonneg Wi (show (64 : Int) ≠ 0 by decide)
  have hk1 := Int.emod_lt_of_pos Wi (show (0 : Int) < 64 by decide)
  have HM := Lib.hid (make_any (Lab.nil (Below.refl w.heap.size w)) (Wi % 64 + 1) 0 ⟨by omega, by omega, by decide, by decide⟩); have HV := Lib.hid hv
  clear hv hn
  generalize (Wi % 64 + 1).toNat = W at *
  have hroom : 0 < roomOf 0 := by decide
  generalize roomOf 0 = room at *
  go_enter Try.func3, Try.ntmps3
  go_wp2_with (go_at_call 18; refine (mod_any Wi 64 (by decide) (by decide) _).mono ?_; rintro e w1 ⟨rfl, rfl⟩)
  go_at_call 17
  refine HM.out.mono ?_
  rintro e w1 ⟨gb, rb, F0, F0', rfl, hlab1⟩
  obtain ⟨pb, hpb⟩ : ∃ pb, w1.heap.size = pb := ⟨_, rfl⟩
  have hl2 := (hlab1.alloc #[.pointer (some ⟨gb, 0, none⟩), .pointer (some ⟨rb, 0, none⟩)] 27).alloc #[.pointer (some ⟨gb, 0, none⟩), .pointer (some ⟨rb, 0, none⟩)] 32
  rw [World.size_alloc, hpb] at hl2
  have HL2 := Lib.hid hl2
  clear hlab1 hl2
  go_upto_region 5 with fail
  clear hpb
  refine wp_abs (fun w2 => Lab w w2 [Thing.graph F0 [] gb W room [], Thing.rgraph F0' [] rb W room [], Thing.box (pb + 1) 32 #[.pointer (some ⟨gb, 0, none⟩), .pointer (some ⟨rb, 0, none⟩)]]) (HL2.out.rot4.rot4.sub (.cons_cons _ (.cons_cons _ (.cons_cons _ (.cons _ (List.Sublist.refl _)))))) ?_
  rintro w2 hl2
  have HI := Lib.hid hl2
  clear hl2 HL2 HM
  obtain ⟨fb, hfb⟩ : ∃ fb, w2.heap.size = fb := ⟨_, rfl⟩
  have hmk := fun arr hs hf => HI.out.make (n := 30) arr 35 (firstF num) hs hf
  rw [hfb] at hmk
  have HMK := Lib.hid hmk
  clear hmk
  go_upto_region 6 with fail
  clear hfb
  refine wp_abs (fun w3 => Lab w w3 [Thing.fn fb 35 30 (firstF num), Thing.graph F0 [] gb W room [], Thing.rgraph F0' [] rb W room [], Thing.box (pb + 1) 32 #[.pointer (some ⟨gb, 0, none⟩), .pointer (some ⟨rb, 0, none⟩)]]) (HMK.out _ rfl ?_) ?_
  · intro i hi
    match i, hi with
    | 0, _ => rfl
    | 1, _ => rfl
    | 2, _ => rfl
    | 3, _ => rfl
    | 4, _ => rfl
    | 5, _ => rfl
    | 6, _ => rfl
    | 7, _ => rfl
    | 8, _ => rfl
    | 9, _ => rfl
    | 10, _ => rfl
    | 11, _ => rfl
    | 12, _ => rfl
    | 13, _ => rfl
    | 14, _ => rfl
    | 15, _ => rfl
    | 16, _ => rfl
    | 17, _ => rfl
    | 18, _ => rfl
    | 19, _ => rfl
    | 20, _ => rfl
    | 21, _ => rfl
    | 22, _ => rfl
    | 23, _ => rfl
    | 24, _ => rfl
    | 25, _ => rfl
    | 26, _ => rfl
    | 27, _ => rfl
    | 28, _ => rfl
    | 29, _ => rfl
    | n + 30, h => exact absurd h (by omega)
  clear HMK HI
  rintro w3 hl3
  have HI := Lib.hid hl3.rot3'
  clear hl3
  go_wp2
  rename_i K12 h12
  have H12 := Lib.hid h12
  clear h12
  go_loopw [11] (fun i wx => ∃ k : Nat, k ≤ 6 ∧ i = .int .i64 k ∧ ∃ F I F' I' L, (0 < k → 0 < L.length) ∧ Lab w wx [Thing.graph F I gb W room L, Thing.rgraph F' I' rb W room L, Thing.fn fb 35 30 (firstF num), Thing.box (pb + 1) 32 #[.pointer (some ⟨gb, 0, none⟩), .pointer (some ⟨rb, 0, none⟩)]]) (fun i _ => 6 - (intOf i).toNat)
  case atStart => exact ⟨0, by omega, rfl, _, _, _, _, _, fun h => absurd h (by omega), HI.out⟩
  case round =>
    obtain ⟨k, hk, rfl, F, I, F', I', L, hpos, hl⟩ := hrel
    clear HI
    by_cases hlt : k < 6
    · have hlt1 : (k : Int) < 6 := by omega
      have hbc : wr.heap[pb + 1]? = _ := hl.fourth
      have k0 : wr.cell? ⟨pb + 1, 0, none⟩ = some (.pointer (some ⟨gb, 0, none⟩)) := by rw [cell_of_row wr _ 0 _ _ _ hbc]; rfl
      have k1 : wr.cell? ⟨pb + 1, 1, none⟩ = some (.pointer (some ⟨rb, 0, none⟩)) := by rw [cell_of_row wr _ 1 _ _ _ hbc]; rfl
      obtain ⟨e0, e1, e2, e3, e4⟩ := firstF_at num k
      have FA : Hid (∀ wx : World, wx.rowIs fb 35 30 (firstF num) → wx.cell? ⟨fb, k * 5, none⟩ = some (.int .u8 (first6 num k).1) ∧ wx.cell? ⟨fb, k * 5 + 1, none⟩ = some (.int .u8 (first6 num k).2.1) ∧ wx.cell? ⟨fb, k * 5 + 2, none⟩ = some (.int .u64 (first6 num k).2.2.1) ∧ wx.cell? ⟨fb, k * 5 + 3, none⟩ = some (.int .i64 (first6 num k).2.2.2.1) ∧ wx.cell? ⟨fb, k * 5 + 4, none⟩ = some (.slice none 0 0)) := Lib.hid fun wx hf =>
        ⟨by rw [hf.cell (by omega), e0], by rw [hf.cell (by omega), e1], by rw [hf.cell (by omega), e2], by rw [hf.cell (by omega), e3], by rw [hf.cell (by omega), e4]⟩
      obtain ⟨c0, c1, c2, c3, c4⟩ := FA.out wr hl.fn3
      have hld := hl.later (Below.refl _ _).drew
      have hst : Stays wr.drew F (.slice none 0 0) (first6 num k).2.2.2.2 := by
        rw [first6_nil]
        exact fun wx _ => sliceOf_nil wx .i64
      have hdo := do12_any hld (first6 num k) _ hst (first6_ok hnum k)
      have hDl : 0 < (do12R W room L (first6 num k)).1.length := by
        have hle := (do12R_prefix W room L (first6 num k)).length_le
        rcases Nat.eq_zero_or_pos k with hk0 | hk0
        · subst hk0
          exact const_pos hroom
        · have := hpos hk0
          omega
      obtain ⟨⟨L9, e9⟩, hD⟩ : ∃ D, do12R W room L (first6 num k) = D := ⟨_, rfl⟩
      rw [hD] at hdo hDl
      generalize first6 num k = x at *
      have HD := Lib.hid hdo; have HDL := Lib.hid hDl
      clear hl hbc hld hdo hlt hD hDl e0 e1 e2 e3 e4 hst hpos
      go_upto_region 9 with fail
      go_region_held3 (fun w' => w'.cell? ⟨pb + 1, 0, none⟩ = some (.pointer (some ⟨gb, 0, none⟩)) ∧ w'.cell? ⟨pb + 1, 1, none⟩ = some (.pointer (some ⟨rb, 0, none⟩)) ∧ w'.cell? ⟨fb, k * 5, none⟩ = some (.int .u8 x.1) ∧ w'.cell? ⟨fb, k * 5 + 1, none⟩ = some (.int .u8 x.2.1) ∧ w'.cell? ⟨fb, k * 5 + 2, none⟩ = some (.int .u64 x.2.2.1) ∧ w'.cell? ⟨fb, k * 5 + 3, none⟩ = some (.int .i64 x.2.2.2.1) ∧ w'.cell? ⟨fb, k * 5 + 4, none⟩ = some (.slice none 0 0))
        (first | exact ⟨k0, k1, c0, c1, c2, c3, c4⟩ | exact ⟨by assumption, by assumption, by assumption, by assumption, by assumption, by assumption, by assumption⟩ | go_keep | trivial)
        (first | (go_at_call 19; refine HD.out.mono ?_; rintro e w4 ⟨rfl, F2, I2, F2', I2', hl3⟩; have hbc3 : w4.heap[pb + 1]? = _ := hl3.fourth; have m0 : w4.cell? ⟨pb + 1, 0, none⟩ = some (.pointer (some ⟨gb, 0, none⟩)) := (by rw [cell_of_row w4 _ 0 _ _ _ hbc3]; rfl); have m1 : w4.cell? ⟨pb + 1, 1, none⟩ = some (.pointer (some ⟨rb, 0, none⟩)) := (by rw [cell_of_row w4 _ 1 _ _ _ hbc3]; rfl); obtain ⟨n0, n1, n2, n3, n4⟩ := FA.out w4 hl3.fn3))
      have HL3 := Lib.hid hl3
      clear hl3
      go_wp2
      go_roundw
      case rel => exact ⟨k + 1, by omega, by go_num, F2, I2, F2', I2', L9, fun _ => HDL.out, HL3.out⟩
      case measure => simp [intOf]; omega
    · obtain rfl : k = 6 := by omega
      have HL3 := Lib.hid (hl.sub (.cons_cons _ (.cons_cons _ (.cons _ (.cons_cons _ (List.Sublist.refl _))))))
      have HP := Lib.hid hpos
      clear hl hlt hpos
      go_wp2
      refine H12.out _ _ ?_
      exact simpRules_rest12 HV.out hq (HP.out (by decide)) HL3.out
end Go.Proofs.Ytcpgiadhmmmafaa
