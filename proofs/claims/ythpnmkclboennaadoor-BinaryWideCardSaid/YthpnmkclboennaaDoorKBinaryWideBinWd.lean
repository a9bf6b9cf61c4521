/- The program's Widen in one row. Conditions: words below 2^64; math/bits' table is laid. -/
import Derived.Test.YthpnmkclboennaaDoorKBinaryWideBinJ5
import Derived.Deep.RegionHeld3
import Derived.Test.YthpnmkclboennaaDoorKBinaryWidePLibx8
import Derived.Test.YthpnmkclboennaaDoorKBinaryWidePLibx7
import Derived.Test.YthpnmkclboennaaDoorKBinaryWidePLibx9
namespace Go.Proofs.YthpnmkclboennaaDoor.BinWd
open Go.RowKit Go.Proofs.YthpnmkclboennaaDoorW.PrintWords Go.Proofs.YthpnmkclboennaaDoorW.PrintMore Go.Proofs.YthpnmkclboennaaDoorW.PrintLast Go.Proofs.YthpnmkclboennaaDoor.Num Go.Proofs.YthpnmkclboennaaDoor.Ref Go.Proofs.YthpnmkclboennaaDoor.BinLaw Go.Proofs.YthpnmkclboennaaDoor.BinA Go.Proofs.YthpnmkclboennaaDoor.BinO2 Go.Proofs.YthpnmkclboennaaDoor.BinF Go.Proofs.YthpnmkclboennaaDoor.BinG Go.Proofs.YthpnmkclboennaaDoor.BinW Go.Proofs.YthpnmkclboennaaDoor.BinTab Go.Proofs.YthpnmkclboennaaDoor.BinM Go.Proofs.YthpnmkclboennaaDoor.BinLen Go.Proofs.YthpnmkclboennaaDoor.BinJ Go.Proofs.YthpnmkclboennaaDoor.BinJ4 Go.Proofs.YthpnmkclboennaaDoor.BinJ5
theorem class_f {f : Int} {F : Fmt} (h : Fm f F) (s : Nat) : ∃ c : Int, PLib.binary_shape_class.f (F.wd : Nat) (F.man : Nat) F.low (F.qt : Nat) (s : Int) = some c ∧ (F.inf < s → c = 4) ∧ (s = F.inf → c = 3) ∧ (s < F.inf → c ≠ 4 ∧ c ≠ 3) := by
  have hh := fm_hd h
  have h2 := (fm_hd2 h).2
  unfold PLib.binary_shape_class.f
  rw [hidden_f h, inf_f h]
  simp only [Option.bind_some]
  by_cases c0 : s = 0
  · exact ⟨0, if_pos (by omega), by omega, by omega, fun _ => by decide⟩
  rw [if_neg (by omega)]
  by_cases c1 : s < hdF F
  · exact ⟨1, if_pos (by omega), by omega, by omega, fun _ => by decide⟩
  rw [if_neg (by omega)]
  by_cases c2 : s < F.inf
  · exact ⟨2, if_pos (by omega), by omega, by omega, fun _ => by decide⟩
  rw [if_neg (by omega)]
  by_cases c3 : s = F.inf
  · exact ⟨3, if_pos (by omega), by omega, fun _ => rfl, by omega⟩
  · exact ⟨4, if_neg (by omega), fun _ => rfl, by omega, by omega⟩
theorem hS : Fm 32 fS := .inl ⟨rfl, rfl⟩
theorem hD : Fm 64 fD := .inr ⟨rfl, rfl⟩
theorem hTn {w w' : World} (h : Tab w) (d : Below w.heap.size w w') : Tab w' := h.next d
set_option maxRecDepth 100000 in
theorem widen_bad (b : Nat) (hb : b < 18446744073709551616) (c : 4294967296 ≤ b) (w : World) : Calls Tryd.prog 19 #[.int .u64 b] w fun e w' => e = .returned (.tuple #[.int .u64 0, .int .i64 2]) ∧ Below w.heap.size w w' := by
  obtain ⟨k, hk⟩ := (take_bad hS b hb (by show 2 * 2147483648 ≤ b; omega)).rounds
  have HT := Lib.hid (fun w => PLib.binary_take.calls k _ _ _ _ _ _ _ _ _ w hk)
  clear hk c hb
  have hu63 := Tryd.underlying63
  go_enter Tryd.func19, Tryd.ntmps19
  go_wp2_with fail
  refine (HT.out _).mono ?_
  rintro e w1 ⟨rfl, h1⟩
  go_wp2_with fail
  go_ret2
  exact ⟨rfl, on h1 (box _ _)⟩
set_option maxRecDepth 100000 in
theorem widen_nan (b : Nat) (c : b < 4294967296) (ci : fS.inf < b % fS.sg) (w : World) : Calls Tryd.prog 19 #[.int .u64 b] w fun e w' => e = .returned (.tuple #[.int .u64 (fD.qt : Nat), .int .i64 0]) ∧ Below w.heap.size w w' := by
  have hu63 := Tryd.underlying63
  have hs : b % fS.sg < fS.sg := Nat.mod_lt _ (by show 0 < 2147483648; decide)
  obtain ⟨k, hk⟩ := (take_ok hS b (by show b < 2 * 2147483648; omega)).rounds
  obtain ⟨cl, hcl, hc4, hc3, hcn⟩ := class_f hS (b % fS.sg)
  obtain rfl := hc4 ci
  have HT := Lib.hid (fun w => PLib.binary_take.calls k _ _ _ _ _ _ _ _ _ w hk)
  have HC := Lib.hid (fun w => PLib.binary_shape_class.calls _ _ _ _ _ _ w hcl)
  have HS := Lib.hid (fun w => PLib.binary_shapeOf.calls _ _ _ _ _ w (shapeOf_f hD))
  generalize decide (fS.sg ≤ b) = neg at *
  generalize b % fS.sg = s at *
  generalize hS1 : (fS.wd : Int) = a0 at *
  generalize hS2 : (fS.man : Int) = a1 at *
  generalize hS3 : fS.low = a2 at *
  generalize hS4 : (fS.qt : Int) = a3 at *
  generalize hD1 : (fD.wd : Int) = d0 at *
  generalize hD2 : (fD.man : Int) = d1 at *
  generalize hD3 : fD.low = d2 at *
  generalize hD4 : (fD.qt : Int) = d3 at *
  clear hk hcl hc4 hc3 hcn hs hS1 hS2 hS3 hS4 hD1 hD2 hD3 hD4 c ci
  go_enter Tryd.func19, Tryd.ntmps19
  go_wp2_with fail
  refine (HT.out _).mono ?_
  rintro e w1 ⟨rfl, h1⟩
  have X := Lib.hid (Bx4.new (.int .i64 a0) (.int .i64 a1) (.int .i64 a2) (.int .u64 a3) h1)
  clear h1
  go_wp2_with fail
  refine (HS.out _).mono ?_
  rintro e w2 ⟨rfl, h1⟩
  have bx := box w2 (Obj.cells #[.int .i64 d0, .int .i64 d1, .int .i64 d2, .int .u64 d3] 63)
  have X := Lib.hid ((X.out.next h1).next bx)
  have Y := Lib.hid (blk_new w2 (Obj.cells #[.int .i64 d0, .int .i64 d1, .int .i64 d2, .int .u64 d3] 63))
  have z0 := X.out.c0
  have z1 := X.out.c1
  have z2 := X.out.c2
  have z3 := X.out.c3
  clear h1 bx
  go_wp2_with fail
  refine (HC.out _).mono ?_
  rintro e w3 ⟨rfl, h1⟩
  have X := Lib.hid (X.out.next h1)
  have Y := Lib.hid (blk_below Y.out h1)
  have z0 := X.out.c0
  have z1 := X.out.c1
  have z2 := X.out.c2
  have z3 := X.out.c3
  have y0 := (blk_cell Y.out 0).trans (rfl : _ = some (Value.int .i64 d0))
  have y1 := (blk_cell Y.out 1).trans (rfl : _ = some (Value.int .i64 d1))
  have y2 := (blk_cell Y.out 2).trans (rfl : _ = some (Value.int .i64 d2))
  have y3 := (blk_cell Y.out 3).trans (rfl : _ = some (Value.int .u64 d3))
  clear h1
  go_wp2_with fail
  go_ret2
  exact ⟨rfl, X.out.below⟩
set_option maxRecDepth 100000 in
theorem widen_fin (b : Nat) (c : b < 4294967296) (ci : b % fS.sg < fS.inf) (w : World) (hT : Tab w) : Calls Tryd.prog 19 #[.int .u64 b] w fun e w' => e = .returned (.tuple #[.int .u64 (jnF fD (decide (fS.sg ≤ b)) (mgF fS (b % fS.sg)) (xpF fS (b % fS.sg))).1, .int .i64 (jnF fD (decide (fS.sg ≤ b)) (mgF fS (b % fS.sg)) (xpF fS (b % fS.sg))).2]) ∧ Below w.heap.size w w' := by
  have hu63 := Tryd.underlying63
  have hs : b % fS.sg < fS.sg := Nat.mod_lt _ (by show 0 < 2147483648; decide)
  obtain ⟨k, hk⟩ := (take_ok hS b (by show b < 2 * 2147483648; omega)).rounds
  obtain ⟨cl, hcl, hc4, hc3, hcn⟩ := class_f hS (b % fS.sg)
  have q4 : (cl == 4) = false := by simpa using (hcn ci).1
  have q3 : (cl == 3) = false := by simpa using (hcn ci).2
  have hmg := mg_S (b % fS.sg)
  have hxp := xp_S hs
  have hlD : fD.low = -1074 := rfl
  have HP := Lib.hid (fun w => PLib.binary_shape_parts.calls _ _ _ _ _ _ _ w (parts_f hS (b % fS.sg) hs))
  have HJ := Lib.hid (fun w hT => Join_any hD (decide (fS.sg ≤ b)) (mgF fS (b % fS.sg)) (xpF fS (b % fS.sg)) (by omega) (by omega) (by omega) w hT)
  generalize (jnF fD (decide (fS.sg ≤ b)) (mgF fS (b % fS.sg)) (xpF fS (b % fS.sg))).1 = r1 at *
  generalize (jnF fD (decide (fS.sg ≤ b)) (mgF fS (b % fS.sg)) (xpF fS (b % fS.sg))).2 = r2 at *
  generalize mgF fS (b % fS.sg) = man at *
  generalize xpF fS (b % fS.sg) = xp at *
  have T := Lib.hid hT
  clear hlD hmg hxp
  have HT := Lib.hid (fun w => PLib.binary_take.calls k _ _ _ _ _ _ _ _ _ w hk)
  have HC := Lib.hid (fun w => PLib.binary_shape_class.calls _ _ _ _ _ _ w hcl)
  have HS := Lib.hid (fun w => PLib.binary_shapeOf.calls _ _ _ _ _ w (shapeOf_f hD))
  generalize decide (fS.sg ≤ b) = neg at *
  generalize b % fS.sg = s at *
  generalize hS1 : (fS.wd : Int) = a0 at *
  generalize hS2 : (fS.man : Int) = a1 at *
  generalize hS3 : fS.low = a2 at *
  generalize hS4 : (fS.qt : Int) = a3 at *
  generalize hD1 : (fD.wd : Int) = d0 at *
  generalize hD2 : (fD.man : Int) = d1 at *
  generalize hD3 : fD.low = d2 at *
  generalize hD4 : (fD.qt : Int) = d3 at *
  clear hk hcl hc4 hc3 hcn hs hS1 hS2 hS3 hS4 hD1 hD2 hD3 hD4 c ci hT
  go_enter Tryd.func19, Tryd.ntmps19
  go_wp2_with fail
  refine (HT.out _).mono ?_
  rintro e w1 ⟨rfl, h1⟩
  have X := Lib.hid (Bx4.new (.int .i64 a0) (.int .i64 a1) (.int .i64 a2) (.int .u64 a3) h1)
  clear h1
  go_wp2_with fail
  refine (HS.out _).mono ?_
  rintro e w2 ⟨rfl, h1⟩
  have bx := box w2 (Obj.cells #[.int .i64 d0, .int .i64 d1, .int .i64 d2, .int .u64 d3] 63)
  have X := Lib.hid ((X.out.next h1).next bx)
  have Y := Lib.hid (blk_new w2 (Obj.cells #[.int .i64 d0, .int .i64 d1, .int .i64 d2, .int .u64 d3] 63))
  have z0 := X.out.c0
  have z1 := X.out.c1
  have z2 := X.out.c2
  have z3 := X.out.c3
  clear h1 bx
  go_wp2_with fail
  refine (HC.out _).mono ?_
  rintro e w3 ⟨rfl, h1⟩
  have X := Lib.hid (X.out.next h1)
  have Y := Lib.hid (blk_below Y.out h1)
  have z0 := X.out.c0
  have z1 := X.out.c1
  have z2 := X.out.c2
  have z3 := X.out.c3
  have y0 := (blk_cell Y.out 0).trans (rfl : _ = some (Value.int .i64 d0))
  have y1 := (blk_cell Y.out 1).trans (rfl : _ = some (Value.int .i64 d1))
  have y2 := (blk_cell Y.out 2).trans (rfl : _ = some (Value.int .i64 d2))
  have y3 := (blk_cell Y.out 3).trans (rfl : _ = some (Value.int .u64 d3))
  clear h1
  have T := Lib.hid (hTn T.out X.out.below)
  go_wp2_with fail
  refine (HP.out _).mono ?_
  rintro e w4 ⟨rfl, h1⟩
  have X := Lib.hid (X.out.next h1)
  have T := Lib.hid (T.out.next h1)
  clear h1 z0 z1 z2 z3 y0 y1 y2 y3
  go_wp2_with fail
  refine (HJ.out _ T.out).mono ?_
  rintro e w5 ⟨rfl, h1⟩
  have X := Lib.hid (X.out.next h1)
  clear h1
  go_wp2_with fail
  go_ret2
  exact ⟨rfl, X.out.below⟩
set_option maxRecDepth 100000 in
theorem widen_inf (b : Nat) (c : b < 4294967296) (ci : b % fS.sg = fS.inf) (w : World) : Calls Tryd.prog 19 #[.int .u64 b] w fun e w' => e = .returned (.tuple #[.int .u64 ((if fS.sg ≤ b then fD.sg + fD.inf else fD.inf : Nat)), .int .i64 0]) ∧ Below w.heap.size w w' := by
  have hu63 := Tryd.underlying63
  have hs : b % fS.sg < fS.sg := Nat.mod_lt _ (by show 0 < 2147483648; decide)
  obtain ⟨k, hk⟩ := (take_ok hS b (by show b < 2 * 2147483648; omega)).rounds
  obtain ⟨cl, hcl, hc4, hc3, hcn⟩ := class_f hS (b % fS.sg)
  obtain rfl := hc3 ci
  have HI := Lib.hid (fun w => PLib.binary_shape_inf.calls _ _ _ _ _ w (inf_f hD))
  have hmf := made_f hD (decide (fS.sg ≤ b)) fD.inf (by decide)
  have HM := Lib.hid (fun w => PLen.binary_shape_made.calls _ _ _ _ _ _ _ w hmf)
  have hr : (if fS.sg ≤ b then fD.sg + fD.inf else fD.inf : Nat) = (if decide (fS.sg ≤ b) = true then fD.sg + fD.inf else fD.inf : Nat) := by
    by_cases c : fS.sg ≤ b
    · rw [if_pos c, if_pos (decide_eq_true c)]
    · rw [if_neg c, if_neg (by simpa using c)]
  rw [hr]
  generalize (if decide (fS.sg ≤ b) = true then fD.sg + fD.inf else fD.inf : Nat) = r at *
  clear hmf hr
  generalize (fD.inf : Int) = I at *
  have HT := Lib.hid (fun w => PLib.binary_take.calls k _ _ _ _ _ _ _ _ _ w hk)
  have HC := Lib.hid (fun w => PLib.binary_shape_class.calls _ _ _ _ _ _ w hcl)
  have HS := Lib.hid (fun w => PLib.binary_shapeOf.calls _ _ _ _ _ w (shapeOf_f hD))
  generalize decide (fS.sg ≤ b) = neg at *
  generalize b % fS.sg = s at *
  generalize hS1 : (fS.wd : Int) = a0 at *
  generalize hS2 : (fS.man : Int) = a1 at *
  generalize hS3 : fS.low = a2 at *
  generalize hS4 : (fS.qt : Int) = a3 at *
  generalize hD1 : (fD.wd : Int) = d0 at *
  generalize hD2 : (fD.man : Int) = d1 at *
  generalize hD3 : fD.low = d2 at *
  generalize hD4 : (fD.qt : Int) = d3 at *
  clear hk hcl hc4 hc3 hcn hs hS1 hS2 hS3 hS4 hD1 hD2 hD3 hD4 c ci
  go_enter Tryd.func19, Tryd.ntmps19
  go_wp2_with fail
  refine (HT.out _).mono ?_
  rintro e w1 ⟨rfl, h1⟩
  have X := Lib.hid (Bx4.new (.int .i64 a0) (.int .i64 a1) (.int .i64 a2) (.int .u64 a3) h1)
  clear h1
  go_wp2_with fail
  refine (HS.out _).mono ?_
  rintro e w2 ⟨rfl, h1⟩
  have bx := box w2 (Obj.cells #[.int .i64 d0, .int .i64 d1, .int .i64 d2, .int .u64 d3] 63)
  have X := Lib.hid ((X.out.next h1).next bx)
  have Y := Lib.hid (blk_new w2 (Obj.cells #[.int .i64 d0, .int .i64 d1, .int .i64 d2, .int .u64 d3] 63))
  have z0 := X.out.c0
  have z1 := X.out.c1
  have z2 := X.out.c2
  have z3 := X.out.c3
  clear h1 bx
  go_wp2_with fail
  refine (HC.out _).mono ?_
  rintro e w3 ⟨rfl, h1⟩
  have X := Lib.hid (X.out.next h1)
  have Y := Lib.hid (blk_below Y.out h1)
  have z0 := X.out.c0
  have z1 := X.out.c1
  have z2 := X.out.c2
  have z3 := X.out.c3
  have y0 := (blk_cell Y.out 0).trans (rfl : _ = some (Value.int .i64 d0))
  have y1 := (blk_cell Y.out 1).trans (rfl : _ = some (Value.int .i64 d1))
  have y2 := (blk_cell Y.out 2).trans (rfl : _ = some (Value.int .i64 d2))
  have y3 := (blk_cell Y.out 3).trans (rfl : _ = some (Value.int .u64 d3))
  clear h1
  go_wp2_with fail
  have Z := Lib.hid (Bx4.mk X.out.below Y.out)
  clear X Y z0 z1 z2 z3 y0 y1 y2 y3
  generalize w2.heap.size = g at *
  have Z := Lib.hid (Z.out.next ((Below.refl _ _).drew))
  have tok1 : True := trivial
  have tok2 : True := trivial
  go_region_held3 (fun w' => w'.cell? ⟨g, 0, none⟩ = some (.int .i64 d0) ∧ w'.cell? ⟨g, 1, none⟩ = some (.int .i64 d1) ∧ w'.cell? ⟨g, 2, none⟩ = some (.int .i64 d2) ∧ w'.cell? ⟨g, 3, none⟩ = some (.int .u64 d3))
    (exact ⟨Z.out.c0, Z.out.c1, Z.out.c2, Z.out.c3⟩)
    (first
      | (go_at_call 51; have _t := tok1; (with_reducible refine (HI.out _).mono ?_); rintro e_ wx1 ⟨rfl, hd⟩; have Z := Lib.hid (Z.out.next hd); clear tok1 hd)
      | (go_at_call 50; have _t := tok2; (with_reducible refine (HM.out _).mono ?_); rintro e_ wx2 ⟨rfl, hd⟩; have Z := Lib.hid (Z.out.next hd); clear tok2 hd))
  go_wp2_with fail
  go_ret2
  exact ⟨rfl, Z.out.below⟩
end Go.Proofs.YthpnmkclboennaaDoor.BinWd
