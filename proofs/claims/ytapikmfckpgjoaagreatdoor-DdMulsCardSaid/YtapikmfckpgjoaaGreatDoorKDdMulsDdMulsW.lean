/- The walk of the law DdMuls: it returns true, and the world has at most new blocks. Conditions: the script reads as calls; math/bits' table. -/
import Derived.Test.YtapikmfckpgjoaaGreatDoorKDdMulsDdRow
import Derived.Test.YtapikmfckpgjoaaGreatDoorKDdMulsPxL1
import Derived.Test.YtapikmfckpgjoaaGreatDoorKDdMulsPxL2
import Derived.Test.YtapikmfckpgjoaaGreatDoorKDdMulsPxZ0
namespace Go.Proofs.YtapikmfckpgjoaaGreatDoor.DdMulsW
open Go.RowKit Go.Proofs.YtapikmfckpgjoaaGreatDoorW.PrintWords Go.Proofs.YtapikmfckpgjoaaGreatDoorW.PrintMore Go.Proofs.YtapikmfckpgjoaaGreatDoorW.PrintLast Go.Proofs.YtapikmfckpgjoaaGreatDoor.GBase Go.Proofs.YtapikmfckpgjoaaGreatDoor.DdAll Go.Proofs.YtapikmfckpgjoaaGreatDoor.Px Go.Proofs.YtapikmfckpgjoaaGreatDoor.PLib Go.Proofs.YtapikmfckpgjoaaGreatDoor.PRef Go.Proofs.YtapikmfckpgjoaaGreatDoor.Ref Go.Proofs.YtapikmfckpgjoaaGreatDoor.GTh Go.Proofs.YtapikmfckpgjoaaGreatDoor.DdB Go.Proofs.YtapikmfckpgjoaaGreatDoor.Dz Go.Proofs.YtapikmfckpgjoaaGreatDoor.DdRe
abbrev N0 : Nat → Prop := fun _ => False
theorem run_r {f : FuncId} {args : List PV} {x : PV} (h : Con Tryz.prog Gw f args (· = x)) {w : World} (gw : Gw w) {vs : List Value} (hv : All2 (RepV w N0 none') args vs) : Calls Tryz.prog f vs.toArray w fun e w' => ∃ v, e = .returned v ∧ RepV w' N0 none' x v ∧ Below w.heap.size w w' :=
 (h.2 w N0 vs gw (fun _ h => h.elim) hv).mono fun e w' ⟨v, x', he, hx, hr, hb⟩ => by
  subst hx
  exact ⟨v, he, hr, hb⟩
theorem next {w w' : World} (d : Below w.heap.size w w') {x : PV} {v : Value} (h : RepV w N0 none' x v) : RepV w' N0 none' x v := RepV.ext (ext_below d _ _) h
theorem fl2 {w : World} {a b : Nat} {v : Value} (h : RepV w N0 none' (.ag [.fl .f64 a, .fl .f64 b]) v) : v = .agg #[.float .f64 a, .float .f64 b] := by
 obtain ⟨vs, rfl, h⟩ := h
 cases h with
 | cons h1 h2 => cases h2 with
  | cons h2 h3 => cases h3; obtain rfl := h1; obtain rfl := h2; rfl
theorem int2 {w : World} {k : IntKind} {a b : Int} {v : Value} (h : RepV w N0 none' (.ag [.i k a, .i k b]) v) : v = .agg #[.int k a, .int k b] := by
 obtain ⟨vs, rfl, h⟩ := h
 cases h with
 | cons h1 h2 => cases h2 with
  | cons h2 h3 => cases h3; obtain rfl := h1; obtain rfl := h2; rfl
theorem mul_33 : dd_Mul.f 4613937818241073152 0 4613937818241073152 0 = some (4621256167635550208, 0) := by decide +kernel
theorem of_3 : dd_Of.f 4613937818241073152 = some (4613937818241073152, 0) := by decide +kernel
theorem float_3 : gnomonlaw20_float.f 4613937818241073152 = some 4613937818241073152 := by decide +kernel
theorem U_9 {g : Nat} (hg : g = 1074) : Fl.U 4621256167635550208 = 9 * (2:Int)^g := by subst hg; decide +kernel
theorem near_9 {g : Nat} (hg : g = 1074) : Ev (fun k => gnomonref20_Near.f k (4621256167635550208 : Int) (0 : Int) (zn (9 * (2:Int)^g)) (zl (9 * (2:Int)^g)) (zn 1) (zl 1) 102) true := by
 obtain ⟨F, e⟩ := DdByDyadicsL.of_Frm (x := 4621256167635550208) (by decide) ((DdV.fin_iff _).2 (by decide))
 rw [U_9 hg] at e
 refine near1 F ?_ 102 (by decide) ?_
 ·rw [Int.natAbs_mul]
  exact Nat.le_trans (Sf1.bl_mul2 (show bl (9:Int).natAbs ≤ 4 by decide) (one_bl hg)) (by decide)
 ·rw [e, Int.sub_self]; exact Nat.zero_le _
theorem float_run {w : World} (gw : Gw w) : Calls Tryz.prog 14 #[.int .u64 4613937818241073152] w fun e w' => e = .returned (.float .f64 4613937818241073152) ∧ Below w.heap.size w w' :=
 (run_r (gnomonlaw20_float.c float_3) gw (.cons rfl .nil)).mono fun e w' ⟨v, he, hr, hd⟩ => by obtain rfl := hr; exact ⟨he, hd⟩
theorem of_run {w : World} (gw : Gw w) : Calls Tryz.prog 13 #[.float .f64 4613937818241073152] w fun e w' => e = .returned (.agg #[.float .f64 4613937818241073152, .float .f64 0]) ∧ Below w.heap.size w w' :=
 (run_r (dd_Of.c of_3) gw (.cons rfl .nil)).mono fun e w' ⟨v, he, hr, hd⟩ => by obtain rfl := fl2 hr; exact ⟨he, hd⟩
theorem mul_run {w : World} (gw : Gw w) : Calls Tryz.prog 12 #[.agg #[.float .f64 4613937818241073152, .float .f64 0], .agg #[.float .f64 4613937818241073152, .float .f64 0]] w fun e w' => e = .returned (.agg #[.float .f64 4621256167635550208, .float .f64 0]) ∧ Below w.heap.size w w' :=
 (run_r (dd_Mul.c mul_33) gw (.cons ⟨[_, _], rfl, .cons rfl (.cons rfl .nil)⟩ (.cons ⟨[_, _], rfl, .cons rfl (.cons rfl .nil)⟩ .nil))).mono fun e w' ⟨v, he, hr, hd⟩ => by obtain rfl := fl2 hr; exact ⟨he, hd⟩
theorem bits_run {w : World} (gw : Gw w) : Calls Tryz.prog 11 #[.agg #[.float .f64 4621256167635550208, .float .f64 0]] w fun e w' => e = .returned (.agg #[.int .u64 4621256167635550208, .int .u64 0]) ∧ Below w.heap.size w w' :=
 (run_r (gnomonlaw20_bits.c (re_bits _ _)) gw (.cons ⟨[_, _], rfl, .cons rfl (.cons rfl .nil)⟩ .nil)).mono fun e w' ⟨v, he, hr, hd⟩ => by obtain rfl := int2 hr; exact ⟨he, hd⟩
structure ST (W w : World) : Prop where mk :: (gw : Gw w) (below : Below W.heap.size W w)
theorem ST.next {W w w' : World} (h : ST W w) (d : Below w.heap.size w w') : ST W w' := ⟨Gw_next _ _ h.gw d, on h.below d⟩
def Ret (w : World) (x : PV) : Ending → World → Prop := fun e w' => ∃ v, e = .returned v ∧ RepV w' N0 none' x v ∧ Below w.heap.size w w'
theorem zof_run {k : Nat} {i : Int} {r : Bool × List Int} (h : gnomonref04_Of.f k i = some r) {w : World} (gw : Gw w) : Calls Tryz.prog 17 #[.int .i64 i] w (Ret w (.ag [.b r.1, .sl .u32 r.2])) := run_r (gnomonref04_Of.c h) gw (.cons rfl .nil)
theorem one_run {k : Nat} {r : Bool × List Int} (h : gnomonref20_One.f k = some r) {w : World} (gw : Gw w) : Calls Tryz.prog 18 #[] w (Ret w (.ag [.b r.1, .sl .u32 r.2])) := run_r (gnomonref20_One.c h) gw .nil
theorem zmul_run {k : Nat} {n n' : Bool} {l l' : List Int} {r : Bool × List Int} (h : gnomonref04_Mul.f k n l n' l' = some r) {w : World} (gw : Gw w) {u v : Value} (h1 : RepV w N0 none' (.ag [.b n, .sl .u32 l]) u) (h2 : RepV w N0 none' (.ag [.b n', .sl .u32 l']) v) : Calls Tryz.prog 16 #[u, v] w (Ret w (.ag [.b r.1, .sl .u32 r.2])) :=
 run_r (gnomonref04_Mul.c h) gw (.cons h1 (.cons h2 .nil))
theorem near_run {k : Nat} {n n' : Bool} {l l' : List Int} {a b e : Int} (h : gnomonref20_Near.f k a b n l n' l' e = some true) {w : World} (gw : Gw w) {u v : Value} (h1 : RepV w N0 none' (.ag [.b n, .sl .u32 l]) u) (h2 : RepV w N0 none' (.ag [.b n', .sl .u32 l']) v) : Calls Tryz.prog 15 #[.agg #[.int .u64 a, .int .u64 b], u, v, .int .i64 e] w (OnW w) :=
 run_t (gnomonref20_Near.c h) gw (.cons ⟨[_, _], rfl, .cons rfl (.cons rfl .nil)⟩ (.cons h1 (.cons h2 (.cons rfl .nil))))
structure PB (W w : World) (g : Nat) : Prop where mk :: (gw : Gw w) (below : Below W.heap.size W w) (lt : g < w.heap.size) (cells : w.cell? ⟨g, 0, none⟩ = some (.int .u64 4621256167635550208) ∧ w.cell? ⟨g, 1, none⟩ = some (.int .u64 0))
theorem PB.next {W w w' : World} {g : Nat} (h : PB W w g) (d : Below w.heap.size w w') : PB W w' g :=
 ⟨Gw_next _ _ h.gw d, on h.below d, Nat.lt_of_lt_of_le h.lt d.size, by rw [d.cell (p := ⟨g, 0, none⟩) h.lt]; exact h.cells.1, by rw [d.cell (p := ⟨g, 1, none⟩) h.lt]; exact h.cells.2⟩
theorem PB.new {W w : World} (h : ST W w) (t : TypeId) : PB W (w.alloc (Obj.cells #[.int .u64 4621256167635550208, .int .u64 0] t)) w.heap.size :=
 ⟨Gw_next _ _ h.gw (box _ _), on h.below (box _ _), by simp, by simp, by simp⟩
theorem mul9 {g : Nat} (hg : g = 1074) : Ev (fun k => gnomonref04_Mul.f k (zn 9) (zl 9) (zn ((2:Int)^g)) (zl ((2:Int)^g))) (zn (9 * (2:Int)^g), zl (9 * (2:Int)^g)) := by
 have b := one_bl hg
 exact zmul_ev 9 ((2:Int)^g) (Zs_bl (by decide)) (Zs_bl (by omega)) (Zs_bl (by rw [Int.natAbs_mul]; exact Nat.le_trans (Sf1.bl_mul2 (show bl (9:Int).natAbs ≤ 4 by decide) b) (by decide)))
set_option maxHeartbeats 4000000 in
theorem muls_any (a : Option Addr) (len cap : Nat) (W : World) (hs : IsOps W a len) (hn : len < 9000000000000000000) (gw : Gw W) : Calls Tryz.prog 5 #[.slice a len cap] W (OnW W) := by
 have HS := Lib.hid hs
 have HT : Hid (ST W W) := Lib.hid ⟨gw, Below.refl _ _⟩
 clear hs gw
 go_enter Tryz.func5, Tryz.ntmps5
 go_wp2_with fail
 refine (float_run HT.out.gw).mono ?_
 rintro e w1 ⟨rfl, hd⟩
 have HT := Lib.hid (HT.out.next hd)
 clear hd
 go_wp2_with fail
 refine (of_run HT.out.gw).mono ?_
 rintro e w2 ⟨rfl, hd⟩
 have HT := Lib.hid (HT.out.next hd)
 clear hd
 go_wp2_with fail
 refine (float_run HT.out.gw).mono ?_
 rintro e w3 ⟨rfl, hd⟩
 have HT := Lib.hid (HT.out.next hd)
 clear hd
 go_wp2_with fail
 refine (of_run HT.out.gw).mono ?_
 rintro e w4 ⟨rfl, hd⟩
 have HT := Lib.hid (HT.out.next hd)
 clear hd
 go_wp2_with fail
 refine (mul_run HT.out.gw).mono ?_
 rintro e w5 ⟨rfl, hd⟩
 have HT := Lib.hid (HT.out.next hd)
 clear hd
 go_wp2_with fail
 refine (bits_run HT.out.gw).mono ?_
 rintro e w6 ⟨rfl, hd⟩
 have HT := Lib.hid (HT.out.next hd)
 clear hd
 go_wp2_with fail
 have HB : Hid (PB W (w6.alloc (Obj.cells #[.int .u64 4621256167635550208, .int .u64 0] 28)) w6.heap.size) := Lib.hid (PB.new HT.out _)
 obtain ⟨g, hg⟩ : ∃ g : Nat, g = 1074 := ⟨_, rfl⟩
 obtain ⟨k1, e1⟩ := (zof_ev 9 (by decide) (by decide)).rounds
 obtain ⟨k2, e2⟩ := (one_ev hg).rounds
 obtain ⟨k3, e3⟩ := (mul9 hg).rounds
 obtain ⟨k4, e4⟩ := ofone_ev.rounds
 obtain ⟨k5, e5⟩ := (near_9 hg).rounds
 generalize w6.alloc (Obj.cells #[.int .u64 4621256167635550208, .int .u64 0] 28) = v0 at *
 generalize w6.heap.size = G at *
 clear HT
 have HB := Lib.hid (HB.out.next ((Below.refl _ _).drew))
 have tok1 : True := trivial
 have tok2 : True := trivial
 have tok3 : True := trivial
 have tok4 : True := trivial
 have tok5 : True := trivial
 have tok6 : True := trivial
 have tok7 : True := trivial
 go_region_held3 (fun w' => w'.cell? ⟨G, 0, none⟩ = some (.int .u64 4621256167635550208) ∧ w'.cell? ⟨G, 1, none⟩ = some (.int .u64 0))
  (exact HB.out.cells)
  (first
   | (go_at_call 17; have _t := tok1; (with_reducible refine (zof_run e1 HB.out.gw).mono ?_); rintro e_ wx1 ⟨v1, rfl, hr, hd⟩; have HB := Lib.hid (HB.out.next hd); have H1 := Lib.hid hr; clear tok1 hd hr)
   | (go_at_call 18; have _t := tok2; (with_reducible refine (one_run e2 HB.out.gw).mono ?_); rintro e_ wx2 ⟨v2, rfl, hr, hd⟩; have HB := Lib.hid (HB.out.next hd); have H1 := Lib.hid (next hd H1.out); have H2 := Lib.hid hr; clear tok2 hd hr)
   | (go_at_call 16; have _t := tok3; (with_reducible refine (zmul_run e3 HB.out.gw H1.out H2.out).mono ?_); rintro e_ wx3 ⟨v3, rfl, hr, hd⟩; have HB := Lib.hid (HB.out.next hd); have H3 := Lib.hid hr; clear tok3 hd hr)
   | (go_at_call 17; have _t := tok4; (with_reducible refine (zof_run e4 HB.out.gw).mono ?_); rintro e_ wx4 ⟨v4, rfl, hr, hd⟩; have HB := Lib.hid (HB.out.next hd); have H3 := Lib.hid (next hd H3.out); have H4 := Lib.hid hr; clear tok4 hd hr)
   | (go_at_call 15; have _t := tok5; (with_reducible refine (near_run e5 HB.out.gw H3.out H4.out).mono ?_); rintro e_ wx5 ⟨rfl, hd⟩; have HB := Lib.hid (HB.out.next hd); clear tok5 hd)
   | (go_at_call 9; have _t := tok6; (with_reducible refine (awake_run HB.out.gw).mono ?_); rintro e_ wx6 ⟨rfl, hd⟩; have HB := Lib.hid (HB.out.next hd); clear tok6 hd)
   | (go_at_call 10; have _t := tok7; (with_reducible refine (all_any Gw Gw_next a len cap 9 11 W _ HS.out HB.out.below HB.out.gw hn (plays_ok (by decide) (by decide))).mono ?_); rintro e_ wx7 ⟨rfl, hd⟩; have HB := Lib.hid (HB.out.next hd); clear tok7 hd))
 go_wp2_with fail
 go_ret
 exact ⟨rfl, HB.out.below⟩
end Go.Proofs.YtapikmfckpgjoaaGreatDoor.DdMulsW
