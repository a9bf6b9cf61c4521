/- Contracts of TwoSum, FastTwoSum, Split and TwoProd, and of the statements' own calls of them, for any words: each step is a float operation of the model. No condition. -/
import Derived.Test.YtbgmadijifefiaaKAcceptAllFlWalk
import Derived.Test.YtbgmadijifefiaaProg
namespace Go.Proofs.Ytbgmadijifefiaa.Eft
open Go.RowKit Go.Proofs.Ytbgmadijifefiaa.FW
def TwoSumR (a b s e : Nat) : Prop := ∃ bb aa t1 t2, FOp .add a b s ∧ FOp .sub s a bb ∧ FOp .sub s bb aa ∧ FOp .sub a aa t1 ∧ FOp .sub b bb t2 ∧ FOp .add t1 t2 e
def FastR (a b s e : Nat) : Prop := ∃ z, FOp .add a b s ∧ FOp .sub s a z ∧ FOp .sub b z e
def SplitR (a h l : Nat) : Prop := ∃ c d, FOp .mul 4728779608772575232 a c ∧ FOp .sub c a d ∧ FOp .sub c d h ∧ FOp .sub a h l
def ProdR (a b p e : Nat) : Prop := ∃ ah al bh bl x1 e1 x2 e2 x3 e3 x4, FOp .mul a b p ∧ SplitR a ah al ∧ SplitR b bh bl ∧ FOp .mul ah bh x1 ∧ FOp .sub x1 p e1 ∧ FOp .mul ah bl x2 ∧ FOp .add e1 x2 e2 ∧ FOp .mul al bh x3 ∧ FOp .add e2 x3 e3 ∧ FOp .mul al bl x4 ∧ FOp .add e3 x4 e
def Two (R : Nat → Nat → Prop) (w : World) (e : Ending) (w' : World) : Prop := ∃ s t, e = .returned (.tuple #[.float .f64 s, .float .f64 t]) ∧ R s t ∧ Drew w w'
def TwoW (R : Nat → Nat → Prop) (w : World) (e : Ending) (w' : World) : Prop := ∃ s t : Nat, e = .returned (.tuple #[.int .u64 s, .int .u64 t]) ∧ R s t ∧ s < 18446744073709551616 ∧ t < 18446744073709551616 ∧ Drew w w'
theorem call_from (n : Int) (w : World) : (callFunc 45 #[.int .u64 n]).run Try.prog w = .ok (.value (.float .f64 n.toNat)) w := by
 rw [run_callFunc_extern (P := Try.prog) (f := 45) (fn := Try.f45) (e := Extern.MathFloatBits.float64frombits) (by kernel_rfl) (by kernel_rfl) (by kernel_rfl) (by kernel_rfl) (by kernel_rfl)]
 rfl
theorem call_bits (b : Nat) (w : World) : (callFunc 68 #[.float .f64 b]).run Try.prog w = .ok (.value (.int .u64 b)) w := by
 rw [run_callFunc_extern (P := Try.prog) (f := 68) (fn := Try.f68) (e := Extern.MathFloatBits.float64bits) (by kernel_rfl) (by kernel_rfl) (by kernel_rfl) (by kernel_rfl) (by kernel_rfl)]
 rfl
set_option maxHeartbeats 1000000 in
theorem twoSum_any (a b : Nat) (w : World) : Calls Try.prog 44 #[.float .f64 a, .float .f64 b] w (Two (TwoSumR a b) w) := by
 have tok1 : True := trivial
 have tok2 : True := trivial
 have tok3 : True := trivial
 have tok4 : True := trivial
 have tok5 : True := trivial
 have tok6 : True := trivial
 go_enter Try.func44, Try.ntmps44
 go_wp2_with (first | (have _t := tok1; refine wpList_fop .add (by simp) rfl rfl rfl rfl ?_; intro r1 w1 h1 d1; clear tok1) | (have _t := tok2; refine wpList_fop .sub (by simp) rfl rfl rfl rfl ?_; intro r2 w2 h2 d2; clear tok2) | (have _t := tok3; refine wpList_fop .sub (by simp) rfl rfl rfl rfl ?_; intro r3 w3 h3 d3; clear tok3) | (have _t := tok4; refine wpList_fop .sub (by simp) rfl rfl rfl rfl ?_; intro r4 w4 h4 d4; clear tok4) | (have _t := tok5; refine wpList_fop .sub (by simp) rfl rfl rfl rfl ?_; intro r5 w5 h5 d5; clear tok5) | (have _t := tok6; refine wpList_fop .add (by simp) rfl rfl rfl rfl ?_; intro r6 w6 h6 d6; clear tok6))
 go_ret2
 exact ⟨_, _, rfl, ⟨_, _, _, _, h1, h2, h3, h4, h5, h6⟩, (((((d1).trans d2).trans d3).trans d4).trans d5).trans d6⟩
set_option maxHeartbeats 1000000 in
theorem fast_any (a b : Nat) (w : World) : Calls Try.prog 49 #[.float .f64 a, .float .f64 b] w (Two (FastR a b) w) := by
 have tok1 : True := trivial
 have tok2 : True := trivial
 have tok3 : True := trivial
 go_enter Try.func49, Try.ntmps49
 go_wp2_with (first | (have _t := tok1; refine wpList_fop .add (by simp) rfl rfl rfl rfl ?_; intro r1 w1 h1 d1; clear tok1) | (have _t := tok2; refine wpList_fop .sub (by simp) rfl rfl rfl rfl ?_; intro r2 w2 h2 d2; clear tok2) | (have _t := tok3; refine wpList_fop .sub (by simp) rfl rfl rfl rfl ?_; intro r3 w3 h3 d3; clear tok3))
 go_ret2
 exact ⟨_, _, rfl, ⟨_, h1, h2, h3⟩, ((d1).trans d2).trans d3⟩
set_option maxHeartbeats 1000000 in
theorem split_any (a : Nat) (w : World) : Calls Try.prog 50 #[.float .f64 a] w (Two (SplitR a) w) := by
 have tok1 : True := trivial
 have tok2 : True := trivial
 have tok3 : True := trivial
 have tok4 : True := trivial
 go_enter Try.func50, Try.ntmps50
 go_wp2_with (first | (have _t := tok1; refine wpList_fop .mul (by simp) rfl rfl rfl rfl ?_; intro r1 w1 h1 d1; clear tok1) | (have _t := tok2; refine wpList_fop .sub (by simp) rfl rfl rfl rfl ?_; intro r2 w2 h2 d2; clear tok2) | (have _t := tok3; refine wpList_fop .sub (by simp) rfl rfl rfl rfl ?_; intro r3 w3 h3 d3; clear tok3) | (have _t := tok4; refine wpList_fop .sub (by simp) rfl rfl rfl rfl ?_; intro r4 w4 h4 d4; clear tok4))
 go_ret2
 exact ⟨_, _, rfl, ⟨_, _, h1, h2, h3, h4⟩, (((d1).trans d2).trans d3).trans d4⟩
set_option maxHeartbeats 2000000 in
theorem prod_any (a b : Nat) (w : World) : Calls Try.prog 55 #[.float .f64 a, .float .f64 b] w (Two (ProdR a b) w) := by
 have tok1 : True := trivial
 go_enter Try.func55, Try.ntmps55
 go_wp2_with (have _t := tok1; refine wpList_fop .mul (by simp) rfl rfl rfl rfl ?_; intro r1 w1 h1 d1; clear tok1)
 refine (split_any a _).mono ?_
 rintro e ws1 ⟨ah, al, rfl, hs1, ds1⟩
 go_wp2_with fail
 refine (split_any b _).mono ?_
 rintro e ws2 ⟨bh, bl, rfl, hs2, ds2⟩
 have tok2 : True := trivial
 have tok3 : True := trivial
 have tok4 : True := trivial
 have tok5 : True := trivial
 have tok6 : True := trivial
 have tok7 : True := trivial
 have tok8 : True := trivial
 have tok9 : True := trivial
 go_wp2_with (first | (have _t := tok2; refine wpList_fop .mul (by simp) rfl rfl rfl rfl ?_; intro r2 w2 h2 d2; clear tok2) | (have _t := tok3; refine wpList_fop .sub (by simp) rfl rfl rfl rfl ?_; intro r3 w3 h3 d3; clear tok3) | (have _t := tok4; refine wpList_fop .mul (by simp) rfl rfl rfl rfl ?_; intro r4 w4 h4 d4; clear tok4) | (have _t := tok5; refine wpList_fop .add (by simp) rfl rfl rfl rfl ?_; intro r5 w5 h5 d5; clear tok5) | (have _t := tok6; refine wpList_fop .mul (by simp) rfl rfl rfl rfl ?_; intro r6 w6 h6 d6; clear tok6) | (have _t := tok7; refine wpList_fop .add (by simp) rfl rfl rfl rfl ?_; intro r7 w7 h7 d7; clear tok7) | (have _t := tok8; refine wpList_fop .mul (by simp) rfl rfl rfl rfl ?_; intro r8 w8 h8 d8; clear tok8) | (have _t := tok9; refine wpList_fop .add (by simp) rfl rfl rfl rfl ?_; intro r9 w9 h9 d9; clear tok9))
 go_ret2
 exact ⟨_, _, rfl, ⟨_, _, _, _, _, _, _, _, _, _, _, h1, hs1, hs2, h2, h3, h4, h5, h6, h7, h8, h9⟩, (((((((((d1.trans ds1).trans ds2).trans d2).trans d3).trans d4).trans d5).trans d6).trans d7).trans d8).trans d9⟩
theorem TwoSumR.lt {a b s e : Nat} (h : TwoSumR a b s e) : s < 18446744073709551616 ∧ e < 18446744073709551616 := by
 obtain ⟨_, _, _, _, h1, _, _, _, _, h6⟩ := h
 exact ⟨h1.lt, h6.lt⟩
theorem FastR.lt {a b s e : Nat} (h : FastR a b s e) : s < 18446744073709551616 ∧ e < 18446744073709551616 := by
 obtain ⟨_, h1, _, h3⟩ := h
 exact ⟨h1.lt, h3.lt⟩
theorem SplitR.lt {a s e : Nat} (h : SplitR a s e) : s < 18446744073709551616 ∧ e < 18446744073709551616 := by
 obtain ⟨_, _, _, _, h3, h4⟩ := h
 exact ⟨h3.lt, h4.lt⟩
theorem ProdR.lt {a b s e : Nat} (h : ProdR a b s e) : s < 18446744073709551616 ∧ e < 18446744073709551616 := by
 obtain ⟨_, _, _, _, _, _, _, _, _, _, _, h1, _, _, _, _, _, _, _, _, _, h6⟩ := h
 exact ⟨h1.lt, h6.lt⟩
theorem pair_any (x y : Nat) (w : World) : Calls Try.prog 43 #[.float .f64 x, .float .f64 y] w fun e w' => e = .returned (.tuple #[.int .u64 x, .int .u64 y]) ∧ w = w' := by
 have hb := call_bits
 go_enter Try.func43, Try.ntmps43
 go_wp2
 go_ret2
 exact ⟨rfl, rfl⟩
theorem sum_any (a b : Int) (w : World) : Calls Try.prog 18 #[.int .u64 a, .int .u64 b] w (TwoW (TwoSumR a.toNat b.toNat) w) := by
 have hf := call_from
 go_enter Try.func18, Try.ntmps18
 go_wp2_with fail
 refine (twoSum_any a.toNat b.toNat _).mono ?_
 rintro e w1 ⟨s, t, rfl, hr, hd⟩
 go_wp2_with fail
 refine (pair_any s t _).mono ?_
 rintro e w2 ⟨rfl, rfl⟩
 go_wp2_with fail
 go_ret2
 exact ⟨s, t, rfl, hr, hr.lt.1, hr.lt.2, hd⟩
theorem fastw_any (a b : Int) (w : World) : Calls Try.prog 21 #[.int .u64 a, .int .u64 b] w (TwoW (FastR a.toNat b.toNat) w) := by
 have hf := call_from
 go_enter Try.func21, Try.ntmps21
 go_wp2_with fail
 refine (fast_any a.toNat b.toNat _).mono ?_
 rintro e w1 ⟨s, t, rfl, hr, hd⟩
 go_wp2_with fail
 refine (pair_any s t _).mono ?_
 rintro e w2 ⟨rfl, rfl⟩
 go_wp2_with fail
 go_ret2
 exact ⟨s, t, rfl, hr, hr.lt.1, hr.lt.2, hd⟩
theorem splitw_any (a : Int) (w : World) : Calls Try.prog 23 #[.int .u64 a] w (TwoW (SplitR a.toNat) w) := by
 have hf := call_from
 go_enter Try.func23, Try.ntmps23
 go_wp2_with fail
 refine (split_any a.toNat _).mono ?_
 rintro e w1 ⟨s, t, rfl, hr, hd⟩
 go_wp2_with fail
 refine (pair_any s t _).mono ?_
 rintro e w2 ⟨rfl, rfl⟩
 go_wp2_with fail
 go_ret2
 exact ⟨s, t, rfl, hr, hr.lt.1, hr.lt.2, hd⟩
theorem prodw_any (a b : Int) (w : World) : Calls Try.prog 25 #[.int .u64 a, .int .u64 b] w (TwoW (ProdR a.toNat b.toNat) w) := by
 have hf := call_from
 go_enter Try.func25, Try.ntmps25
 go_wp2_with fail
 refine (prod_any a.toNat b.toNat _).mono ?_
 rintro e w1 ⟨s, t, rfl, hr, hd⟩
 go_wp2_with fail
 refine (pair_any s t _).mono ?_
 rintro e w2 ⟨rfl, rfl⟩
 go_wp2_with fail
 go_ret2
 exact ⟨s, t, rfl, hr, hr.lt.1, hr.lt.2, hd⟩
end Go.Proofs.Ytbgmadijifefiaa.Eft
