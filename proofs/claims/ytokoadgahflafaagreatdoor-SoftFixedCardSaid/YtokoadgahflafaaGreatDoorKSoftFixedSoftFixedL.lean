/- SoftFixed's table: the literal walked, its rows read. No condition. -/
import Derived.Test.YtokoadgahflafaaGreatDoorKSoftFixedGMach
import Derived.Great.Walk
import Derived.Test.YtokoadgahflafaaGreatDoorKSoftFixedGC
import Derived.Deep.MidRow
import Derived.Deep.LoopGhost
set_option linter.unusedVariables false
namespace Go.Proofs.YtokoadgahflafaaGreatDoor.SoftFixedL
open Go.Proofs.YtokoadgahflafaaGreatDoor.PLib
open Go Go.RowKit Go.Proofs.YtokoadgahflafaaGreatDoorW.PrintWords Go.Proofs.YtokoadgahflafaaGreatDoorW.PrintMore Go.Proofs.YtokoadgahflafaaGreatDoorW.PrintLast Go.Proofs.YtokoadgahflafaaGreatDoor.Px Go.Proofs.YtokoadgahflafaaGreatDoor.GMach
abbrev Row := Int × Int × Int × Int × Int
def rowC (x : Row) : List Value := [.int .i64 x.1, .int .i64 x.2.1, .int .u64 x.2.2.1, .int .u64 x.2.2.2.1, .int .u64 x.2.2.2.2]
def rows : List Row := [(1, 64, 4607182418800017408, 4368491638549381120, 4607182418800017408), (1, 64, 4607182418800017409, 4368491638549381120, 4607182418800017410), (1, 64, 1, 1, 2), (1, 64, 9218868437227405311, 9218868437227405311, 9218868437227405312), (1, 64, 9218868437227405311, 8975674057349398528, 9218868437227405312), (1, 64, 9218868437227405311, 8975674057349398527, 9218868437227405311), (1, 64, 4607182418800017408, 13830554455654793216, 0), (1, 64, 9223372036854775808, 9223372036854775808, 9223372036854775808), (1, 64, 9223372036854775808, 0, 0), (1, 64, 9218868437227405312, 18442240474082181120, 9221120237041090561), (1, 64, 9218868437227405314, 0, 9221120237041090561), (1, 64, 18442240474082181120, 9218868437227405311, 18442240474082181120), (2, 64, 0, 0, 0), (2, 64, 9223372036854775808, 0, 9223372036854775808), (2, 64, 9218868437227405312, 9218868437227405312, 9221120237041090561), (3, 64, 1, 4602678819172646912, 0), (3, 64, 3, 4602678819172646912, 2), (3, 64, 9223372036854775809, 4602678819172646912, 9223372036854775808), (3, 64, 9218868437227405312, 0, 9221120237041090561), (3, 64, 9218868437227405312, 13830554455654793216, 18442240474082181120), (4, 64, 4607182418800017408, 9223372036854775808, 18442240474082181120), (4, 64, 0, 0, 9221120237041090561), (4, 64, 9218868437227405312, 9218868437227405312, 9221120237041090561), (4, 64, 13830554455654793216, 9218868437227405312, 9223372036854775808), (4, 32, 1065353216, 1077936128, 1051372203), (4, 32, 0, 2147483648, 2143289345), (5, 64, 4611686018427387904, 0, 4609047870845172685), (5, 64, 9223372036854775808, 0, 9223372036854775808), (5, 64, 9223372036854775809, 0, 9221120237041090561), (5, 64, 9218868437227405312, 0, 9218868437227405312), (7, 64, 18444492273895866369, 0, 9221120237041090561), (7, 64, 0, 0, 9223372036854775808), (8, 64, 18442240474082181120, 0, 9218868437227405312), (8, 32, 4294967295, 0, 2143289345)]
def cells : Array Value := (rows.flatMap rowC).toArray
theorem built_row (x : Row) : Tryz.prog.built 26 [(0, .int .i64 x.1), (1, .int .i64 x.2.1), (2, .int .u64 x.2.2.1), (3, .int .u64 x.2.2.2.1), (4, .int .u64 x.2.2.2.2)] = some (rowC x).toArray := by kernel_rfl
section
variable {ops : Array Oper} {rest : List Oper} {o : Oper} {a : Act} {w : World} {Q : Exit → Act → World → Prop}
set_option maxRecDepth 100000 in
theorem bld {x : Row} {d : Nat} (hg : o.guard = none) (ho : o.op = .build 26 #[(0, .const (.int .i64 x.1)), (1, .const (.int .i64 x.2.1)), (2, .const (.int .u64 x.2.2.1)), (3, .const (.int .u64 x.2.2.2.1)), (4, .const (.int .u64 x.2.2.2.2))]) (hd : o.dst = some d)
  (h : ∀ v, v = Value.agg (rowC x).toArray → wpList Tryz.prog ops Q rest (a.put (some d) v) w) : wpList Tryz.prog ops Q (o :: rest) a w := by
 refine wpList_buildTo hg _ _ ho (some d) hd (rowC x).toArray ?_ (h _ rfl)
 have e := built_row x
 simp only [List.map_toArray, List.map_cons, List.map_nil, Act.eval]
 exact e
end
theorem fm_get : ∀ (l : List Row) (j k : Nat) (x : Row), l[j]? = some x → k < 5 → (l.flatMap rowC)[j * 5 + k]? = (rowC x)[k]?
 | [], j, k, x, h, hk => by simp at h
 | y :: l, 0, k, x, h, hk => by
  obtain rfl : y = x := by simpa using h
  rw [List.flatMap_cons, List.getElem?_append_left (by show 0 * 5 + k < 5; omega)]
  congr 1
  omega
 | y :: l, j + 1, k, x, h, hk => by
  rw [List.flatMap_cons, List.getElem?_append_right (by show 5 ≤ _; omega)]
  have e : (j + 1) * 5 + k - (rowC y).length = j * 5 + k := by show _ - 5 = _; omega
  rw [e]
  exact fm_get l j k x (by simpa using h) hk
theorem cells_get {j k : Nat} {x : Row} (h : rows[j]? = some x) (hk : k < 5) : cells[j * 5 + k]? = (rowC x)[k]? := by
 show (rows.flatMap rowC).toArray[j * 5 + k]? = _
 rw [List.getElem?_toArray]
 exact fm_get rows j k x h hk
def okB (x : Row) : Bool :=
 if x.1 = 1 then soft_Add.f 200 x.2.1 x.2.2.1 x.2.2.2.1 == some (x.2.2.2.2, 0)
 else if x.1 = 2 then soft_Sub.f 200 x.2.1 x.2.2.1 x.2.2.2.1 == some (x.2.2.2.2, 0)
 else if x.1 = 3 then soft_Mul.f 200 x.2.1 x.2.2.1 x.2.2.2.1 == some (x.2.2.2.2, 0)
 else if x.1 = 4 then soft_Div.f 200 x.2.1 x.2.2.1 x.2.2.2.1 == some (x.2.2.2.2, 0)
 else if x.1 = 5 then soft_Sqrt.f 200 x.2.1 x.2.2.1 == some (x.2.2.2.2, 0)
 else if x.1 = 7 then soft_Neg.f 200 x.2.1 x.2.2.1 == some (x.2.2.2.2, 0)
 else if x.1 = 8 then soft_Abs.f 200 x.2.1 x.2.2.1 == some (x.2.2.2.2, 0)
 else false
theorem ok_all : ∀ x ∈ rows, okB x = true := by decide +kernel
theorem ok_cases {x : Row} (h : okB x = true) : (x.1 = 1 ∧ soft_Add.f 200 x.2.1 x.2.2.1 x.2.2.2.1 = some (x.2.2.2.2, 0)) ∨ (x.1 = 2 ∧ soft_Sub.f 200 x.2.1 x.2.2.1 x.2.2.2.1 = some (x.2.2.2.2, 0)) ∨ (x.1 = 3 ∧ soft_Mul.f 200 x.2.1 x.2.2.1 x.2.2.2.1 = some (x.2.2.2.2, 0)) ∨ (x.1 = 4 ∧ soft_Div.f 200 x.2.1 x.2.2.1 x.2.2.2.1 = some (x.2.2.2.2, 0)) ∨ (x.1 = 5 ∧ soft_Sqrt.f 200 x.2.1 x.2.2.1 = some (x.2.2.2.2, 0)) ∨ (x.1 = 7 ∧ soft_Neg.f 200 x.2.1 x.2.2.1 = some (x.2.2.2.2, 0)) ∨ (x.1 = 8 ∧ soft_Abs.f 200 x.2.1 x.2.2.1 = some (x.2.2.2.2, 0)) := by
 unfold okB at h
 by_cases h1 : x.1 = 1
 ·rw [if_pos h1] at h; exact .inl ⟨h1, eq_of_beq h⟩
 rw [if_neg h1] at h
 refine .inr ?_
 by_cases h2 : x.1 = 2
 ·rw [if_pos h2] at h; exact .inl ⟨h2, eq_of_beq h⟩
 rw [if_neg h2] at h
 refine .inr ?_
 by_cases h3 : x.1 = 3
 ·rw [if_pos h3] at h; exact .inl ⟨h3, eq_of_beq h⟩
 rw [if_neg h3] at h
 refine .inr ?_
 by_cases h4 : x.1 = 4
 ·rw [if_pos h4] at h; exact .inl ⟨h4, eq_of_beq h⟩
 rw [if_neg h4] at h
 refine .inr ?_
 by_cases h5 : x.1 = 5
 ·rw [if_pos h5] at h; exact .inl ⟨h5, eq_of_beq h⟩
 rw [if_neg h5] at h
 refine .inr ?_
 by_cases h7 : x.1 = 7
 ·rw [if_pos h7] at h; exact .inl ⟨h7, eq_of_beq h⟩
 rw [if_neg h7] at h
 refine .inr ?_
 by_cases h8 : x.1 = 8
 ·rw [if_pos h8] at h; exact ⟨h8, eq_of_beq h⟩
 rw [if_neg h8] at h
 cases h
structure Tb (w : World) (G : Nat) (wr : World) : Prop where mk :: (b : Below w.heap.size w wr) (le : w.heap.size ≤ G) (gw : Gw wr) (blk : wr.heap[G]? = some (.cells cells 26 (0, 0)))
theorem Tb.cell {w wr : World} {G j k : Nat} {x : Row} {v : Value} (h : Tb w G wr) (hx : rows[j]? = some x) (hk : k < 5) (hv : (rowC x)[k]? = some v) : wr.cell? ⟨G, j * 5 + k, none⟩ = some v := (blk_cell h.blk _).trans ((cells_get hx hk).trans hv)
theorem Tb.next {w wr w' : World} {G : Nat} (h : Tb w G wr) (d : Below wr.heap.size wr w') : Tb w G w' := ⟨GBase.on h.b d, h.le, Gw_next _ _ h.gw d, blk_below h.blk d⟩
structure Bg (w w1 : World) : Prop where mk :: (b : Below w.heap.size w w1) (gw : Gw w1)
theorem Bg.laid {w w1 : World} (h : Bg w w1) {cs : Array Value} (e : cs = cells) : Tb w w1.heap.size (w1.alloc (Obj.cells cs 26)) := by
 subst e
 exact ⟨GBase.on h.b (GBase.box _ _), h.b.size, Gw_next _ _ h.gw (GBase.box _ _), blk_new _ _⟩
set_option maxHeartbeats 4000000 in
set_option maxRecDepth 100000 in
theorem fixed_law (w : World) (gw : Gw w) : Calls Tryz.prog 4 #[] w fun e w' => e = .returned (.bool true) ∧ Below w.heap.size w w' := by
 have A0 := Lib.hid (s_awake w gw)
 have GWh := Lib.hid gw
 clear gw
 go_enter Tryz.func4, Tryz.ntmps4
 go_wp2_with fail
 refine A0.out.mono ?_
 rintro e w1 ⟨rfl, d⟩
 have L1 := Lib.hid (Bg.mk d (Gw_next _ _ GWh.out d))
 clear d
 have tok : True := trivial
 go_wp2_with (
  have _t := tok
  refine bld (x := (1, 64, 4607182418800017408, 4368491638549381120, 4607182418800017408)) rfl rfl rfl ?_; intro v22 e22
  refine bld (x := (1, 64, 4607182418800017409, 4368491638549381120, 4607182418800017410)) rfl rfl rfl ?_; intro v23 e23
  refine bld (x := (1, 64, 1, 1, 2)) rfl rfl rfl ?_; intro v24 e24
  refine bld (x := (1, 64, 9218868437227405311, 9218868437227405311, 9218868437227405312)) rfl rfl rfl ?_; intro v25 e25
  refine bld (x := (1, 64, 9218868437227405311, 8975674057349398528, 9218868437227405312)) rfl rfl rfl ?_; intro v26 e26
  refine bld (x := (1, 64, 9218868437227405311, 8975674057349398527, 9218868437227405311)) rfl rfl rfl ?_; intro v27 e27
  refine bld (x := (1, 64, 4607182418800017408, 13830554455654793216, 0)) rfl rfl rfl ?_; intro v28 e28
  refine bld (x := (1, 64, 9223372036854775808, 9223372036854775808, 9223372036854775808)) rfl rfl rfl ?_; intro v29 e29
  refine bld (x := (1, 64, 9223372036854775808, 0, 0)) rfl rfl rfl ?_; intro v30 e30
  refine bld (x := (1, 64, 9218868437227405312, 18442240474082181120, 9221120237041090561)) rfl rfl rfl ?_; intro v31 e31
  refine bld (x := (1, 64, 9218868437227405314, 0, 9221120237041090561)) rfl rfl rfl ?_; intro v32 e32
  refine bld (x := (1, 64, 18442240474082181120, 9218868437227405311, 18442240474082181120)) rfl rfl rfl ?_; intro v33 e33
  refine bld (x := (2, 64, 0, 0, 0)) rfl rfl rfl ?_; intro v34 e34
  refine bld (x := (2, 64, 9223372036854775808, 0, 9223372036854775808)) rfl rfl rfl ?_; intro v35 e35
  refine bld (x := (2, 64, 9218868437227405312, 9218868437227405312, 9221120237041090561)) rfl rfl rfl ?_; intro v36 e36
  refine bld (x := (3, 64, 1, 4602678819172646912, 0)) rfl rfl rfl ?_; intro v37 e37
  refine bld (x := (3, 64, 3, 4602678819172646912, 2)) rfl rfl rfl ?_; intro v38 e38
  refine bld (x := (3, 64, 9223372036854775809, 4602678819172646912, 9223372036854775808)) rfl rfl rfl ?_; intro v39 e39
  refine bld (x := (3, 64, 9218868437227405312, 0, 9221120237041090561)) rfl rfl rfl ?_; intro v40 e40
  refine bld (x := (3, 64, 9218868437227405312, 13830554455654793216, 18442240474082181120)) rfl rfl rfl ?_; intro v41 e41
  refine bld (x := (4, 64, 4607182418800017408, 9223372036854775808, 18442240474082181120)) rfl rfl rfl ?_; intro v42 e42
  refine bld (x := (4, 64, 0, 0, 9221120237041090561)) rfl rfl rfl ?_; intro v43 e43
  refine bld (x := (4, 64, 9218868437227405312, 9218868437227405312, 9221120237041090561)) rfl rfl rfl ?_; intro v44 e44
  refine bld (x := (4, 64, 13830554455654793216, 9218868437227405312, 9223372036854775808)) rfl rfl rfl ?_; intro v45 e45
  refine bld (x := (4, 32, 1065353216, 1077936128, 1051372203)) rfl rfl rfl ?_; intro v46 e46
  refine bld (x := (4, 32, 0, 2147483648, 2143289345)) rfl rfl rfl ?_; intro v47 e47
  refine bld (x := (5, 64, 4611686018427387904, 0, 4609047870845172685)) rfl rfl rfl ?_; intro v48 e48
  refine bld (x := (5, 64, 9223372036854775808, 0, 9223372036854775808)) rfl rfl rfl ?_; intro v49 e49
  refine bld (x := (5, 64, 9223372036854775809, 0, 9221120237041090561)) rfl rfl rfl ?_; intro v50 e50
  refine bld (x := (5, 64, 9218868437227405312, 0, 9218868437227405312)) rfl rfl rfl ?_; intro v51 e51
  refine bld (x := (7, 64, 18444492273895866369, 0, 9221120237041090561)) rfl rfl rfl ?_; intro v52 e52
  refine bld (x := (7, 64, 0, 0, 9223372036854775808)) rfl rfl rfl ?_; intro v53 e53
  refine bld (x := (8, 64, 18442240474082181120, 0, 9218868437227405312)) rfl rfl rfl ?_; intro v54 e54
  refine bld (x := (8, 32, 4294967295, 0, 2143289345)) rfl rfl rfl ?_; intro v55 e55
  refine Great.wpList_buildSliceTo rfl _ 26 34 _ rfl _ rfl (some 56) rfl (by kernel_rfl) cells (by subst e22 e23 e24 e25 e26 e27 e28 e29 e30 e31 e32 e33 e34 e35 e36 e37 e38 e39 e40 e41 e42 e43 e44 e45 e46 e47 e48 e49 e50 e51 e52 e53 e54 e55; kernel_rfl) ?_
  have C0 := Lib.hid (And.intro e22 e23)
  clear tok _t C0 e22 e23 e24 e25 e26 e27 e28 e29 e30 e31 e32 e33 e34 e35 e36 e37 e38 e39 e40 e41 e42 e43 e44 e45 e46 e47 e48 e49 e50 e51 e52 e53 e54 e55
  generalize hcells : cells = cs
  have HC := Lib.hid hcells
  clear hcells)
 go_loopg [59] 35 (fun g i wr => ∃ j : Nat, j ≤ 34 ∧ g = 34 - j + 1 ∧ i = .int .i64 (j : Int) ∧ Tb w w1.heap.size wr)
 case atStart =>
  exact ⟨0, by omega, rfl, rfl, L1.out.laid HC.out.symm⟩
 case round =>
  obtain ⟨j, hj, rfl, rfl, ht⟩ := hrel
  have T := Lib.hid ht
  clear ht
  rcases Nat.lt_or_ge j 34 with c0 | c0
  ·have l1 : decide ((j : Int) < 34) = true := decide_eq_true (by omega)
   have l2 : decide ((0 : Int) ≤ (j : Int)) = true := decide_eq_true (by omega)
   have l3 : (j : Int) < 34 := by omega
   have l4 : j < 34 := c0
   obtain ⟨⟨k, f, a, b, c⟩, hx⟩ : ∃ x, rows[j]? = some x := ⟨rows[j]'c0, List.getElem?_eq_getElem c0⟩
   have z0 : wr.cell? ⟨w1.heap.size, j * 5, none⟩ = some (.int .i64 k) := T.out.cell (k := 0) hx (by decide) rfl
   have z1 : wr.cell? ⟨w1.heap.size, j * 5 + 1, none⟩ = some (.int .i64 f) := T.out.cell (k := 1) hx (by decide) rfl
   have z2 : wr.cell? ⟨w1.heap.size, j * 5 + 2, none⟩ = some (.int .u64 a) := T.out.cell (k := 2) hx (by decide) rfl
   have z3 : wr.cell? ⟨w1.heap.size, j * 5 + 3, none⟩ = some (.int .u64 b) := T.out.cell (k := 3) hx (by decide) rfl
   have z4 : wr.cell? ⟨w1.heap.size, j * 5 + 4, none⟩ = some (.int .u64 c) := T.out.cell (k := 4) hx (by decide) rfl
   have ok := ok_cases (ok_all _ (List.mem_of_getElem? hx))
   clear hx
   have l5 : IntKind.i64.wrap ((j : Int) + 1) = (j : Int) + 1 := by rw [IntWalk.i64_in _ (by omega)]
   have l6 : wrap64 ((j : Int) + 1) = (j : Int) + 1 := Num.w64 (by omega) (by omega)
   rcases ok with ⟨rfl, hk⟩ | ⟨rfl, hk⟩ | ⟨rfl, hk⟩ | ⟨rfl, hk⟩ | ⟨rfl, hk⟩ | ⟨rfl, hk⟩ | ⟨rfl, hk⟩
   ·have HK := Lib.hid hk
    clear hk
    go_wp2_with fail
    refine (two_call (vs := [.int .i64 f, .int .u64 a, .int .u64 b]) (soft_Add.c HK.out) _ (T.out.next (GBase.box _ _)).gw (.cons rfl (.cons rfl (.cons rfl (.nil))))).mono ?_
    rintro e w2 ⟨rfl, d⟩
    have T2 := Lib.hid ((T.out.next (GBase.box _ _)).next d)
    have z9 : w2.cell? ⟨wr.heap.size, 4, none⟩ = some (.int .u64 c) := (blk_cell (blk_below (blk_new wr _) d) 4).trans rfl
    clear d z0 z1 z2 z3 z4
    go_wp2_with fail
    go_roundg (34 - (j + 1) + 1)
    case measure => omega
    case rel => exact ⟨j + 1, by omega, rfl, by go_num, T2.out⟩
   ·have HK := Lib.hid hk
    clear hk
    go_wp2_with fail
    refine (two_call (vs := [.int .i64 f, .int .u64 a, .int .u64 b]) (soft_Sub.c HK.out) _ (T.out.next (GBase.box _ _)).gw (.cons rfl (.cons rfl (.cons rfl (.nil))))).mono ?_
    rintro e w2 ⟨rfl, d⟩
    have T2 := Lib.hid ((T.out.next (GBase.box _ _)).next d)
    have z9 : w2.cell? ⟨wr.heap.size, 4, none⟩ = some (.int .u64 c) := (blk_cell (blk_below (blk_new wr _) d) 4).trans rfl
    clear d z0 z1 z2 z3 z4
    go_wp2_with fail
    go_roundg (34 - (j + 1) + 1)
    case measure => omega
    case rel => exact ⟨j + 1, by omega, rfl, by go_num, T2.out⟩
   ·have HK := Lib.hid hk
    clear hk
    go_wp2_with fail
    refine (two_call (vs := [.int .i64 f, .int .u64 a, .int .u64 b]) (soft_Mul.c HK.out) _ (T.out.next (GBase.box _ _)).gw (.cons rfl (.cons rfl (.cons rfl (.nil))))).mono ?_
    rintro e w2 ⟨rfl, d⟩
    have T2 := Lib.hid ((T.out.next (GBase.box _ _)).next d)
    have z9 : w2.cell? ⟨wr.heap.size, 4, none⟩ = some (.int .u64 c) := (blk_cell (blk_below (blk_new wr _) d) 4).trans rfl
    clear d z0 z1 z2 z3 z4
    go_wp2_with fail
    go_roundg (34 - (j + 1) + 1)
    case measure => omega
    case rel => exact ⟨j + 1, by omega, rfl, by go_num, T2.out⟩
   ·have HK := Lib.hid hk
    clear hk
    go_wp2_with fail
    refine (two_call (vs := [.int .i64 f, .int .u64 a, .int .u64 b]) (soft_Div.c HK.out) _ (T.out.next (GBase.box _ _)).gw (.cons rfl (.cons rfl (.cons rfl (.nil))))).mono ?_
    rintro e w2 ⟨rfl, d⟩
    have T2 := Lib.hid ((T.out.next (GBase.box _ _)).next d)
    have z9 : w2.cell? ⟨wr.heap.size, 4, none⟩ = some (.int .u64 c) := (blk_cell (blk_below (blk_new wr _) d) 4).trans rfl
    clear d z0 z1 z2 z3 z4
    go_wp2_with fail
    go_roundg (34 - (j + 1) + 1)
    case measure => omega
    case rel => exact ⟨j + 1, by omega, rfl, by go_num, T2.out⟩
   ·have HK := Lib.hid hk
    clear hk
    go_wp2_with fail
    refine (two_call (vs := [.int .i64 f, .int .u64 a]) (soft_Sqrt.c HK.out) _ (T.out.next (GBase.box _ _)).gw (.cons rfl (.cons rfl (.nil)))).mono ?_
    rintro e w2 ⟨rfl, d⟩
    have T2 := Lib.hid ((T.out.next (GBase.box _ _)).next d)
    have z9 : w2.cell? ⟨wr.heap.size, 4, none⟩ = some (.int .u64 c) := (blk_cell (blk_below (blk_new wr _) d) 4).trans rfl
    clear d z0 z1 z2 z3 z4
    go_wp2_with fail
    go_roundg (34 - (j + 1) + 1)
    case measure => omega
    case rel => exact ⟨j + 1, by omega, rfl, by go_num, T2.out⟩
   ·have HK := Lib.hid hk
    clear hk
    go_wp2_with fail
    refine (two_call (vs := [.int .i64 f, .int .u64 a]) (soft_Neg.c HK.out) _ (T.out.next (GBase.box _ _)).gw (.cons rfl (.cons rfl (.nil)))).mono ?_
    rintro e w2 ⟨rfl, d⟩
    have T2 := Lib.hid ((T.out.next (GBase.box _ _)).next d)
    have z9 : w2.cell? ⟨wr.heap.size, 4, none⟩ = some (.int .u64 c) := (blk_cell (blk_below (blk_new wr _) d) 4).trans rfl
    clear d z0 z1 z2 z3 z4
    go_wp2_with fail
    go_roundg (34 - (j + 1) + 1)
    case measure => omega
    case rel => exact ⟨j + 1, by omega, rfl, by go_num, T2.out⟩
   ·have HK := Lib.hid hk
    clear hk
    go_wp2_with fail
    refine (two_call (vs := [.int .i64 f, .int .u64 a]) (soft_Abs.c HK.out) _ (T.out.next (GBase.box _ _)).gw (.cons rfl (.cons rfl (.nil)))).mono ?_
    rintro e w2 ⟨rfl, d⟩
    have T2 := Lib.hid ((T.out.next (GBase.box _ _)).next d)
    have z9 : w2.cell? ⟨wr.heap.size, 4, none⟩ = some (.int .u64 c) := (blk_cell (blk_below (blk_new wr _) d) 4).trans rfl
    clear d z0 z1 z2 z3 z4
    go_wp2_with fail
    go_roundg (34 - (j + 1) + 1)
    case measure => omega
    case rel => exact ⟨j + 1, by omega, rfl, by go_num, T2.out⟩
  ·have l1 : decide ((j : Int) < 34) = false := decide_eq_false (by omega)
   go_wp2_with fail
   refine (two_call (vs := [.int .i64 64, .int .u64 4607182418800017409, .int .u64 4607182418800017409, .int .u64 13830554455654793218]) (soft_Fma.c (k := 200) (r := (4138808057553485824, 0)) (by decide +kernel)) _ T.out.gw (.cons rfl (.cons rfl (.cons rfl (.cons rfl (.nil)))))).mono ?_
   rintro e x0 ⟨rfl, d⟩
   have F0 := Lib.hid (T.out.next d)
   clear d
   go_wp2_with fail
   refine (two_call (vs := [.int .i64 64, .int .u64 9218868437227405312, .int .u64 0, .int .u64 4607182418800017408]) (soft_Fma.c (k := 200) (r := (9221120237041090561, 0)) (by decide +kernel)) _ F0.out.gw (.cons rfl (.cons rfl (.cons rfl (.cons rfl (.nil)))))).mono ?_
   rintro e x1 ⟨rfl, d⟩
   have F1 := Lib.hid (F0.out.next d)
   clear d
   go_wp2_with fail
   refine (two_call (vs := [.int .i64 64, .int .u64 0, .int .u64 13830554455654793216, .int .u64 9223372036854775808]) (soft_Fma.c (k := 200) (r := (9223372036854775808, 0)) (by decide +kernel)) _ F1.out.gw (.cons rfl (.cons rfl (.cons rfl (.cons rfl (.nil)))))).mono ?_
   rintro e x2 ⟨rfl, d⟩
   have F2 := Lib.hid (F1.out.next d)
   clear d
   go_wp2_with fail
   refine (two_call (vs := [.int .i64 64, .int .u64 9223372036854775808, .int .u64 0]) (soft_Compare.c (k := 200) (r := (0, 0)) (by decide +kernel)) _ F2.out.gw (.cons rfl (.cons rfl (.cons rfl (.nil))))).mono ?_
   rintro e x3 ⟨rfl, d⟩
   have F3 := Lib.hid (F2.out.next d)
   clear d
   go_wp2_with fail
   refine (two_call (vs := [.int .i64 64, .int .u64 9221120237041090561, .int .u64 9221120237041090561]) (soft_Compare.c (k := 200) (r := (2, 0)) (by decide +kernel)) _ F3.out.gw (.cons rfl (.cons rfl (.cons rfl (.nil))))).mono ?_
   rintro e x4 ⟨rfl, d⟩
   have F4 := Lib.hid (F3.out.next d)
   clear d
   go_wp2_with fail
   refine (two_call (vs := [.int .i64 7, .int .u64 0, .int .u64 1099511627776]) (soft_Compare.c (k := 200) (r := (0, 1)) (by decide +kernel)) _ F4.out.gw (.cons rfl (.cons rfl (.cons rfl (.nil))))).mono ?_
   rintro e x5 ⟨rfl, d⟩
   have F5 := Lib.hid (F4.out.next d)
   clear d
   go_wp2_with fail
   go_ret
   exact ⟨rfl, F5.out.b⟩
end Go.Proofs.YtokoadgahflafaaGreatDoor.SoftFixedL
