/- The walk of the program's Join where the number is nought or of at most the format's bits. Conditions: as told in JF. -/
import Derived.Test.YthpnmkclboennaaDoorKBinaryNeighboursBinJ
import Derived.Test.YthpnmkclboennaaDoorKBinaryNeighboursPLibx7
import Derived.Test.YthpnmkclboennaaDoorKBinaryNeighboursPLibx8
namespace Go.Proofs.YthpnmkclboennaaDoor.BinJ2
open Go.RowKit Go.Proofs.YthpnmkclboennaaDoorW.PrintWords Go.Proofs.YthpnmkclboennaaDoorW.PrintMore Go.Proofs.YthpnmkclboennaaDoorW.PrintLast Go.Proofs.YthpnmkclboennaaDoor.Num Go.Proofs.YthpnmkclboennaaDoor.Ref Go.Proofs.YthpnmkclboennaaDoor.BinLaw Go.Proofs.YthpnmkclboennaaDoor.BinA Go.Proofs.YthpnmkclboennaaDoor.BinO2 Go.Proofs.YthpnmkclboennaaDoor.BinF Go.Proofs.YthpnmkclboennaaDoor.BinW Go.Proofs.YthpnmkclboennaaDoor.BinTab Go.Proofs.YthpnmkclboennaaDoor.BinM Go.Proofs.YthpnmkclboennaaDoor.BinLen Go.Proofs.YthpnmkclboennaaDoor.BinJ
attribute [local go_sem] max2_int min2_int max_two min_two
theorem join_zero {f : Int} {F : Fmt} (h : Fm f F) (neg : Bool) (e : Int) (w : World) :
    Calls Tryd.prog 24 #[.int .i64 f, .bool neg, .int .u64 0, .int .i64 e] w fun e' w' => e' = .returned (.tuple #[.int .u64 ((if neg then F.sg else 0 : Nat)), .int .i64 0]) ∧ Below w.heap.size w w' := by
  have hu63 := Tryd.underlying63
  have hz := h.sz
  have hwd := fm_wd h
  have hmf := made_f h neg 0 (by omega)
  have HS := Lib.hid (fun w => PLib.binary_shapeOf.calls _ _ _ _ _ w (shapeOf_f h))
  have HM := Lib.hid (fun w => PLen.binary_shape_made.calls _ _ _ _ _ _ _ w hmf)
  rw [Nat.add_zero] at HM
  generalize (if neg then F.sg else 0 : Nat) = r at *
  generalize hF1 : F.man = P at *
  generalize hF2 : F.wd = wd at *
  generalize hF3 : F.low = low at *
  generalize hF4 : F.qt = qt at *
  clear hz hmf h
  go_enter Tryd.func24, Tryd.ntmps24
  go_wp2_with fail
  refine (HS.out _).mono ?_
  rintro e1 w1 ⟨rfl, h1⟩
  go_wp2_with fail
  refine (HM.out _).mono ?_
  rintro e1 w2 ⟨rfl, h2⟩
  go_wp2_with fail
  go_ret2
  exact ⟨rfl, on h1 (on (box _ _) h2)⟩
theorem F_of_bl {o n : Nat} (h : bl o ≤ n) : o < 2^n := Nat.lt_of_lt_of_le (bl_lt o) (Nat.pow_le_pow_right (by decide) h)
set_option maxRecDepth 100000 in
set_option maxHeartbeats 1600000 in
theorem join_sub {f : Int} {F : Fmt} (h : Fm f F) (neg : Bool) (man c o d u m : Nat) (x e : Int) (J : JF F man c o x e) (w : World) (hT : Tab w) (hn : bl o ≤ F.man) (hd : x = F.low + (d : Nat)) (hu : u = min (F.man - bl o) d) (hm : o * 2^u = m) (hlt : m < hdF F) :
    Calls Tryd.prog 24 #[.int .i64 f, .bool neg, .int .u64 man, .int .i64 e] w fun e' w' => e' = .returned (.tuple #[.int .u64 ((if neg then F.sg + m else m : Nat)), .int .i64 0]) ∧ Below w.heap.size w w' := by
  have hu63 := Tryd.underlying63
  have hlow := fm_low h
  have hwd := fm_wd h
  have hP := fm_man h
  have hz := h.sz
  have hh := fm_hd h
  have ho64 : o < 18446744073709551616 := by have := J.hm; have := Nat.div_le_self man (2^c); have := J.ho; omega
  obtain ⟨kl, hkl⟩ := (len_ev o ho64).rounds
  have hdl : d ≤ 3600 := by have := J.hi; have := J.hx; have := J.hc64; omega
  have hm53 : m < 9007199254740992 := by
    have h1 := F_of_bl (Nat.le_refl (bl o))
    have h2 : m < 2^(bl o + u) := by rw [← hm, Nat.pow_add]; exact Nat.mul_lt_mul_of_pos_right h1 (Nat.two_pow_pos u)
    have e53 : (2 : Nat)^53 = 9007199254740992 := by decide
    rw [← e53]
    exact Nat.lt_of_lt_of_le h2 (Nat.pow_le_pow_right (by decide) (by omega))
  have HS := Lib.hid (fun w => PLib.binary_shapeOf.calls _ _ _ _ _ w (shapeOf_f h))
  have HL := Lib.hid (fun w => PLen.bits_Len64.calls _ _ _ w hkl)
  have HT := Lib.hid (fun w hT => tz_any man J.hm J.h0 w hT)
  have HH := Lib.hid (fun w => PLib.binary_shape_hidden.calls _ _ _ _ _ w (hidden_f h))
  have HI := Lib.hid (fun w => PLib.binary_shape_inf.calls _ _ _ _ _ w (inf_f h))
  have T := Lib.hid hT
  have q0 : ((man : Int) == 0) = false := by simpa using J.h0
  have r1 : IntKind.i64.wrap (F.low - 64) = F.low - 64 := IntWalk.i64_in _ (by omega)
  have r2 : decide (e < F.low - 64) = false := decide_eq_false (by have := J.lo; omega)
  have r3 : IntKind.i64.wrap (F.low + 4096) = F.low + 4096 := IntWalk.i64_in _ (by omega)
  have r4 : decide (F.low + 4096 < e) = false := decide_eq_false (by have := J.hi; omega)
  have r5 : min c 64 = c := by have := J.hc64; omega
  have r6 : (man : Int) / 2^c = (o : Int) := by rw [← J.ho]; simp
  have r7 : IntKind.i64.wrap (e + (c : Int)) = x := (IntWalk.i64_in _ (by have := J.lo; have := J.hi; have := J.hc64; omega)).trans J.hx
  rw [J.hc] at HT
  have s1 : decide (F.man < bl o) = false := decide_eq_false (by omega)
  have s2 : decide (x < F.low) = false := decide_eq_false (by omega)
  have s3 : IntKind.i64.wrap ((F.man : Int) - (bl o : Int)) = ((F.man - bl o : Nat) : Int) := (IntWalk.i64_in _ (by omega)).trans (by omega)
  have s4 : IntKind.i64.wrap (x - F.low) = (d : Int) := (IntWalk.i64_in _ (by omega)).trans (by omega)
  have s6 : min u 64 = u := by omega
  have s7 : IntKind.u64.wrap ((o : Int) * 2^u) = (m : Int) := by
    have e1 : (o : Int) * 2^u = (m : Int) := by rw [← hm]; simp
    rw [e1]; exact IntWalk.u64_in _ (by omega)
  have hule : u ≤ d := by omega
  obtain ⟨y, hy⟩ : ∃ y : Int, x - (u : Int) = y := ⟨_, rfl⟩
  have s8 : IntKind.i64.wrap (x - (u : Int)) = y := (IntWalk.i64_in _ (by omega)).trans hy
  have hyl : y - F.low = ((d - u : Nat) : Int) := by omega
  have hmf := made_f h neg m (by omega)
  have HM := Lib.hid (fun w => PLen.binary_shape_made.calls _ _ _ _ _ _ _ w hmf)
  have t1 : decide (m < hdF F) = true := decide_eq_true hlt
  generalize (if neg then F.sg + m else m : Nat) = r at *
  generalize hdF F = H at *
  generalize F.man - bl o = v at *
  generalize bl o = n at *
  generalize F.man = P at *
  generalize F.wd = wd at *
  generalize F.low = low at *
  generalize F.qt = qt at *
  generalize F.inf = I at *
  clear hlt hmf
  by_cases hdv : d < v
  · obtain rfl : u = d := by omega
    clear J hkl hlow hP hT ho64 h hd hu hm hz hh hdl hm53 hule hy hyl hn
    go_enter Tryd.func24, Tryd.ntmps24
    go_wp2_with fail
    refine (HS.out _).mono ?_
    rintro e1 w1 ⟨rfl, h1⟩
    have X := Lib.hid (Bx4.new (.int .i64 (wd : Int)) (.int .i64 (P : Int)) (.int .i64 low) (.int .u64 (qt : Int)) h1)
    have T := Lib.hid ((T.out.next h1).next (box w1 (Obj.cells #[.int .i64 (wd : Int), .int .i64 (P : Int), .int .i64 low, .int .u64 (qt : Int)] 63)))
    clear h1
    go_wp2_with fail
    refine (HT.out _ T.out).mono ?_
    rintro e1 w2 ⟨rfl, rfl⟩
    go_wp2_with fail
    refine (HL.out _).mono ?_
    rintro e1 w3 ⟨rfl, hd⟩
    have X := Lib.hid (X.out.next hd.below)
    have z0 := X.out.c0
    have z1 := X.out.c1
    have z2 := X.out.c2
    have z3 := X.out.c3
    clear hd T
    go_wp2_with fail
    refine (HH.out _).mono ?_
    rintro e1 w4 ⟨rfl, hd⟩
    have X := Lib.hid (X.out.next hd)
    have z0 := X.out.c0
    have z1 := X.out.c1
    have z2 := X.out.c2
    have z3 := X.out.c3
    clear hd
    go_wp2_with fail
    refine (HM.out _).mono ?_
    rintro e1 w5 ⟨rfl, hd⟩
    have X := Lib.hid (X.out.next hd)
    clear hd
    go_wp2_with fail
    go_ret2
    exact ⟨rfl, X.out.below⟩
  · obtain rfl : u = v := by omega
    clear J hkl hlow hP hT ho64 h hd hu hm hz hh hdl hm53 hule hy hyl hn
    go_enter Tryd.func24, Tryd.ntmps24
    go_wp2_with fail
    refine (HS.out _).mono ?_
    rintro e1 w1 ⟨rfl, h1⟩
    have X := Lib.hid (Bx4.new (.int .i64 (wd : Int)) (.int .i64 (P : Int)) (.int .i64 low) (.int .u64 (qt : Int)) h1)
    have T := Lib.hid ((T.out.next h1).next (box w1 (Obj.cells #[.int .i64 (wd : Int), .int .i64 (P : Int), .int .i64 low, .int .u64 (qt : Int)] 63)))
    clear h1
    go_wp2_with fail
    refine (HT.out _ T.out).mono ?_
    rintro e1 w2 ⟨rfl, rfl⟩
    go_wp2_with fail
    refine (HL.out _).mono ?_
    rintro e1 w3 ⟨rfl, hd⟩
    have X := Lib.hid (X.out.next hd.below)
    have z0 := X.out.c0
    have z1 := X.out.c1
    have z2 := X.out.c2
    have z3 := X.out.c3
    clear hd T
    go_wp2_with fail
    refine (HH.out _).mono ?_
    rintro e1 w4 ⟨rfl, hd⟩
    have X := Lib.hid (X.out.next hd)
    have z0 := X.out.c0
    have z1 := X.out.c1
    have z2 := X.out.c2
    have z3 := X.out.c3
    clear hd
    go_wp2_with fail
    refine (HM.out _).mono ?_
    rintro e1 w5 ⟨rfl, hd⟩
    have X := Lib.hid (X.out.next hd)
    clear hd
    go_wp2_with fail
    go_ret2
    exact ⟨rfl, X.out.below⟩
end Go.Proofs.YthpnmkclboennaaDoor.BinJ2
