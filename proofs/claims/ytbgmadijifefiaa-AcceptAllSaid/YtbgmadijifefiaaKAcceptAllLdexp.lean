/- The contract of math.Ldexp of 1.5 and an exponent from -100 to -56. -/
import Derived.Test.YtbgmadijifefiaaKAcceptAllAccW
namespace Go.Proofs.Ytbgmadijifefiaa.AccW
open Go.RowKit Go.Proofs.Ytbgmadijifefiaa.FW Go.Proofs.Ytbgmadijifefiaa.Eft Fl
theorem o1 : FloatKind.f64.format.order 4609434218613702656 0 = some .gt := by kernel_rfl
theorem o2 : FloatKind.f64.format.order 4609434218613702656 9218868437227405311 = some .lt := by kernel_rfl
theorem o3 : FloatKind.f64.format.order 4609434218613702656 18442240474082181119 = some .gt := by kernel_rfl
theorem o4 : FloatKind.f64.format.order 4609434218613702656 4609434218613702656 = some .eq := by kernel_rfl
theorem o5 : FloatKind.f64.format.order 4609434218613702656 4503599627370496 = some .gt := by kernel_rfl
theorem sz15 : sz 4609434218613702656 = 4609434218613702656 := by decide
set_option maxRecDepth 20000 in
theorem isinf_any (w : World) : Calls Try.prog 96 #[.float .f64 4609434218613702656, .int .i64 0] w fun e w' => e = .returned (.bool false) ∧ w = w' := by
 have h2 := o2
 have h3 := o3
 go_enter Try.func96, Try.ntmps96
 go_wp2_with fail
 refine (abs_any 4609434218613702656 (by decide) _).mono ?_
 rintro e w1 ⟨rfl, rfl⟩
 rw [sz15]
 go_wp2_with fail
 go_ret
 exact ⟨rfl, rfl⟩
theorem isnan_any (w : World) : Calls Try.prog 97 #[.float .f64 4609434218613702656] w fun e w' => e = .returned (.bool false) ∧ w = w' := by
 have h4 := o4
 go_enter Try.func97, Try.ntmps97
 go_wp2
 go_ret
 exact ⟨rfl, rfl⟩
theorem norm_any (w : World) : Calls Try.prog 98 #[.float .f64 4609434218613702656] w fun e w' => e = .returned (.tuple #[.float .f64 4609434218613702656, .int .i64 0]) ∧ w = w' := by
 have h5 := o5
 go_enter Try.func98, Try.ntmps98
 go_wp2_with fail
 refine (abs_any 4609434218613702656 (by decide) _).mono ?_
 rintro e w1 ⟨rfl, rfl⟩
 rw [sz15]
 go_wp2_with fail
 go_ret2
 exact ⟨rfl, rfl⟩
theorem hiw (i : Int) (c1 : -100 ≤ i) (c2 : i ≤ -56) : wrap64 (i + wrap64 (bits BinOp.and IntKind.i64 1023 2047 - 1023)) = i := by
 have e : bits BinOp.and IntKind.i64 1023 2047 = 1023 := by kernel_rfl
 rw [e]; unfold wrap64; omega
theorem or52 (n : Nat) : 2251799813685248 ||| (n * 4503599627370496) = n * 4503599627370496 + 2251799813685248 := by
 have := Nat.two_pow_add_eq_or_of_lt (i := 52) (b := 2251799813685248) (by decide) n
 rw [Nat.or_comm, Nat.mul_comm]
 exact this.symm
theorem hor (i : Int) (c1 : -100 ≤ i) (c2 : i ≤ -56) : bits BinOp.or IntKind.u64 (bits BinOp.andNot IntKind.u64 4609434218613702656 9218868437227405312) ((i + 1023) * 4503599627370496) = (i + 1023) * 4503599627370496 + 2251799813685248 := by
 have e : bits BinOp.andNot IntKind.u64 4609434218613702656 9218868437227405312 = 2251799813685248 := by kernel_rfl
 obtain ⟨n, hn⟩ : ∃ n : Nat, i + 1023 = (n : Int) := ⟨(i + 1023).toNat, by omega⟩
 have e2 : ((n : Int)) * 4503599627370496 = ((n * 4503599627370496 : Nat) : Int) := by omega
 rw [e, hn, e2]
 have h := u64_or_nat 2251799813685248 (n * 4503599627370496) (by decide) (by omega)
 rw [or52 n] at h
 exact h
set_option maxHeartbeats 2000000 in
theorem ldexp_any (i : Int) (c1 : -100 ≤ i) (c2 : i ≤ -56) (w : World) : Calls Try.prog 92 #[.float .f64 4609434218613702656, .int .i64 i] w fun e w' => ∃ r, e = .returned (.float .f64 r) ∧ FOp .mul 4607182418800017408 ((i + 1023) * 4503599627370496 + 2251799813685248).toNat r ∧ Drew w w' := by
 have h1 := o1
 have hf := call_from
 have hb := call_bits
 have hi := hiw i c1 c2
 have ho := hor i c1 c2
 have d1 : ¬ i < -1075 := by omega
 have d2 : ¬ 1023 < i := by omega
 have d3 : ¬ i < -1022 := by omega
 go_enter Try.func92, Try.ntmps92
 go_wp2_with fail
 refine (isinf_any _).mono ?_
 rintro e w1 ⟨rfl, rfl⟩
 go_wp2_with fail
 refine (isnan_any _).mono ?_
 rintro e w1 ⟨rfl, rfl⟩
 go_wp2_with fail
 refine (norm_any _).mono ?_
 rintro e w1 ⟨rfl, rfl⟩
 have tok1 : True := trivial
 go_wp2_with (have _t := tok1; refine wpList_fop .mul (by simp) rfl rfl rfl rfl ?_; intro r1 w1 h1 d1; clear tok1)
 go_ret
 exact ⟨_, rfl, h1, d1⟩
end Go.Proofs.Ytbgmadijifefiaa.AccW
