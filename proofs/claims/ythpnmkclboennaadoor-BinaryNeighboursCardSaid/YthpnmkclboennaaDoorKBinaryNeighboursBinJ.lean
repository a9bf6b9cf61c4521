/- The walk of the program's Join, by its ways. Conditions: words below 2^64, exponents from low - 64 to low + 3500; math/bits' table is laid. -/
import Derived.Test.YthpnmkclboennaaDoorKBinaryNeighboursBinLen
import Derived.Test.YthpnmkclboennaaDoorKBinaryNeighboursBinM
import Derived.Test.YthpnmkclboennaaDoorKBinaryNeighboursPLibx7
import Derived.Test.YthpnmkclboennaaDoorKBinaryNeighboursPLibx8
namespace Go.Proofs.YthpnmkclboennaaDoor.BinJ
open Go.RowKit Go.Proofs.YthpnmkclboennaaDoorW.PrintWords Go.Proofs.YthpnmkclboennaaDoorW.PrintMore Go.Proofs.YthpnmkclboennaaDoorW.PrintLast Go.Proofs.YthpnmkclboennaaDoor.Num Go.Proofs.YthpnmkclboennaaDoor.Ref Go.Proofs.YthpnmkclboennaaDoor.BinLaw Go.Proofs.YthpnmkclboennaaDoor.BinA Go.Proofs.YthpnmkclboennaaDoor.BinO2 Go.Proofs.YthpnmkclboennaaDoor.BinF Go.Proofs.YthpnmkclboennaaDoor.BinW Go.Proofs.YthpnmkclboennaaDoor.BinTab Go.Proofs.YthpnmkclboennaaDoor.BinM Go.Proofs.YthpnmkclboennaaDoor.BinLen
attribute [local go_sem] max2_int min2_int max_two min_two
theorem shapeOf_f {f : Int} {F : Fmt} (h : Fm f F) : PLib.binary_shapeOf.f f = some (((F.wd : Nat) : Int), ((F.man : Nat) : Int), F.low, ((F.qt : Nat) : Int)) := by
  rcases h with ⟨rfl, rfl⟩ | ⟨rfl, rfl⟩ <;> rfl
structure Bx4 (W w : World) (g : Nat) (a b c d : Value) : Prop where mk :: (below : Below W.heap.size W w) (blk : w.heap[g]? = some (.cells #[a, b, c, d] 63 (0, 0)))
theorem Bx4.next {W w w' : World} {g : Nat} {a b c d : Value} (h : Bx4 W w g a b c d) (k : Below w.heap.size w w') : Bx4 W w' g a b c d := ⟨on h.below k, blk_below h.blk k⟩
theorem Bx4.c0 {W w : World} {g : Nat} {a b c d : Value} (h : Bx4 W w g a b c d) : w.cell? ⟨g, 0, none⟩ = some a := (blk_cell h.blk 0).trans rfl
theorem Bx4.c1 {W w : World} {g : Nat} {a b c d : Value} (h : Bx4 W w g a b c d) : w.cell? ⟨g, 1, none⟩ = some b := (blk_cell h.blk 1).trans rfl
theorem Bx4.c2 {W w : World} {g : Nat} {a b c d : Value} (h : Bx4 W w g a b c d) : w.cell? ⟨g, 2, none⟩ = some c := (blk_cell h.blk 2).trans rfl
theorem Bx4.c3 {W w : World} {g : Nat} {a b c d : Value} (h : Bx4 W w g a b c d) : w.cell? ⟨g, 3, none⟩ = some d := (blk_cell h.blk 3).trans rfl
theorem Bx4.new {W w : World} (a b c d : Value) (k : Below W.heap.size W w) : Bx4 W (w.alloc (Obj.cells #[a, b, c, d] 63)) w.heap.size a b c d := ⟨on k (box _ _), blk_new _ _⟩
theorem fm_wd {f : Int} {F : Fmt} (h : Fm f F) : ((((F.wd : Nat) : Int)) == 0) = false := by
  rcases h with ⟨rfl, rfl⟩ | ⟨rfl, rfl⟩ <;> rfl
theorem fm_man {f : Int} {F : Fmt} (h : Fm f F) : F.man = 24 ∨ F.man = 53 := by
  rcases h with ⟨_, rfl⟩ | ⟨_, rfl⟩
  · exact .inl rfl
  · exact .inr rfl
structure JF (F : Fmt) (man c o : Nat) (x e : Int) : Prop where mk :: (h0 : man ≠ 0) (hm : man < 18446744073709551616) (hc : Lib.ctz 64 man = c) (hc64 : c < 64) (ho : man / 2^c = o) (hx : e + (c : Nat) = x) (lo : F.low - 64 ≤ e) (hi : e ≤ F.low + 3500)
set_option maxRecDepth 100000 in
theorem join_limit {f : Int} {F : Fmt} (h : Fm f F) (neg : Bool) (man c o : Nat) (x e : Int) (J : JF F man c o x e) (w : World) (hT : Tab w) (hl : F.man < bl o ∨ x < F.low) :
    Calls Tryd.prog 24 #[.int .i64 f, .bool neg, .int .u64 man, .int .i64 e] w fun e' w' => e' = .returned (.tuple #[.int .u64 0, .int .i64 5]) ∧ Below w.heap.size w w' := by
  have hu63 := Tryd.underlying63
  have hlow := fm_low h
  have hwd := fm_wd h
  have ho64 : o < 18446744073709551616 := by have := J.hm; have := Nat.div_le_self man (2^c); have := J.ho; omega
  obtain ⟨kl, hkl⟩ := (len_ev o ho64).rounds
  have hbl : bl o ≤ 64 := bl_le_of_lt (by have e64 : (2 : Nat)^64 = 18446744073709551616 := by decide
                                          rw [e64]; exact ho64)
  have hP : F.man = 24 ∨ F.man = 53 := fm_man h
  have HS := Lib.hid (fun w => PLib.binary_shapeOf.calls _ _ _ _ _ w (shapeOf_f h))
  have HL := Lib.hid (fun w => PLen.bits_Len64.calls _ _ _ w hkl)
  have HT := Lib.hid (fun w hT => tz_any man J.hm J.h0 w hT)
  have T := Lib.hid hT
  have q0 : ((man : Int) == 0) = false := by simpa using J.h0
  have r1 : IntKind.i64.wrap (F.low - 64) = F.low - 64 := IntWalk.i64_in _ (by omega)
  have r2 : decide (e < F.low - 64) = false := decide_eq_false (by have := J.lo; omega)
  have r3 : IntKind.i64.wrap (F.low + 4096) = F.low + 4096 := IntWalk.i64_in _ (by omega)
  have r4 : decide (F.low + 4096 < e) = false := decide_eq_false (by have := J.hi; omega)
  have r5 : min c 64 = c := by have := J.hc64; omega
  have r6 : (man : Int) / 2^c = (o : Int) := by rw [← J.ho]; simp
  have r7 : IntKind.i64.wrap (e + (c : Int)) = x := (IntWalk.i64_in _ (by have := J.lo; have := J.hi; have := J.hc64; omega)).trans J.hx
  rw [J.hc] at HT
  generalize bl o = n at *
  generalize hF1 : F.man = P at *
  generalize hF2 : F.wd = wd at *
  generalize hF3 : F.low = low at *
  generalize hF4 : F.qt = qt at *
  by_cases c1 : P < n
  · have s1 : decide (P < n) = true := decide_eq_true c1
    clear J hkl hlow hbl hP hT hl ho64 c1 h
    go_enter Tryd.func24, Tryd.ntmps24
    go_wp2_with fail
    refine (HS.out _).mono ?_
    rintro e1 w1 ⟨rfl, h1⟩
    have X := Lib.hid (Bx4.new (.int .i64 (wd : Int)) (.int .i64 (P : Int)) (.int .i64 low) (.int .u64 (qt : Int)) h1)
    have T := Lib.hid ((T.out.next h1).next (box w1 (Obj.cells #[.int .i64 (wd : Int), .int .i64 (P : Int), .int .i64 low, .int .u64 (qt : Int)] 63)))
    clear h1
    go_wp2_with fail
    refine (HT.out _ T.out).mono ?_
    rintro e1 w2 ⟨rfl, rfl⟩
    go_wp2_with fail
    refine (HL.out _).mono ?_
    rintro e1 w3 ⟨rfl, hd⟩
    have X := Lib.hid (X.out.next hd.below)
    have z1 := X.out.c1
    have z2 := X.out.c2
    clear hd T
    go_wp2_with fail
    go_ret2
    exact ⟨rfl, X.out.below⟩
  · have hx : x < low := by omega
    have s1 : decide (P < n) = false := decide_eq_false c1
    have s2 : decide (x < low) = true := decide_eq_true hx
    clear J hkl hlow hbl hP hT hl ho64 c1 h hx
    go_enter Tryd.func24, Tryd.ntmps24
    go_wp2_with fail
    refine (HS.out _).mono ?_
    rintro e1 w1 ⟨rfl, h1⟩
    have X := Lib.hid (Bx4.new (.int .i64 (wd : Int)) (.int .i64 (P : Int)) (.int .i64 low) (.int .u64 (qt : Int)) h1)
    have T := Lib.hid ((T.out.next h1).next (box w1 (Obj.cells #[.int .i64 (wd : Int), .int .i64 (P : Int), .int .i64 low, .int .u64 (qt : Int)] 63)))
    clear h1
    go_wp2_with fail
    refine (HT.out _ T.out).mono ?_
    rintro e1 w2 ⟨rfl, rfl⟩
    go_wp2_with fail
    refine (HL.out _).mono ?_
    rintro e1 w3 ⟨rfl, hd⟩
    have X := Lib.hid (X.out.next hd.below)
    have z1 := X.out.c1
    have z2 := X.out.c2
    clear hd T
    go_wp2_with fail
    go_ret2
    exact ⟨rfl, X.out.below⟩
end Go.Proofs.YthpnmkclboennaaDoor.BinJ
