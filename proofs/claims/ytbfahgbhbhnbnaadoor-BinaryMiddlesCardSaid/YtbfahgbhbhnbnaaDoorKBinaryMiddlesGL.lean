/- nat.Shl of nought; nat.Shr of all limbs; nat.Norm. Conditions: at most 8192 limbs. -/
import Derived.Test.YtbfahgbhbhnbnaaDoorKBinaryMiddlesGK
namespace Go.Proofs.YtbfahgbhbhnbnaaDoor.GL
open Go.RowKit Go.Proofs.YtbfahgbhbhnbnaaDoorW.PrintWords Go.Proofs.YtbfahgbhbhnbnaaDoorW.PrintMore Go.Proofs.YtbfahgbhbhnbnaaDoorW.PrintLast Go.Proofs.YtbfahgbhbhnbnaaDoor.Num Go.Proofs.YtbfahgbhbhnbnaaDoor.Ref Go.Proofs.YtbfahgbhbhnbnaaDoor.GBase Go.Proofs.YtbfahgbhbhnbnaaDoor.GTab Go.Proofs.YtbfahgbhbhnbnaaDoor.GTh Go.Proofs.YtbfahgbhbhnbnaaDoor.GA Go.Proofs.YtbfahgbhbhnbnaaDoor.GB Go.Proofs.YtbfahgbhbhnbnaaDoor.GC Go.Proofs.YtbfahgbhbhnbnaaDoor.GG Go.Proofs.YtbfahgbhbhnbnaaDoor.GH Go.Proofs.YtbfahgbhbhnbnaaDoor.GI Go.Proofs.YtbfahgbhbhnbnaaDoor.GJ Go.Proofs.YtbfahgbhbhnbnaaDoor.GK
theorem shl_zero (w : World) (A : Option Addr) (c n : Nat) : Calls Tryd.prog 63 #[.slice A 0 c, .int .i64 (n : Int)] w fun e w' => e = .returned (.tuple #[.slice none 0 0, .int .i64 0]) ∧ w' = w := by
 have HF := form_any w A c 0 ⟨Nat.zero_le _, .inl ⟨trivial, rfl, trivial, rfl⟩⟩ (by decide)
 rw [nl_zero] at HF
 have HF := Lib.hid HF
 have q0 : decide ((n : Int) < 0) = false := decide_eq_false (by omega)
 go_enter Tryd.func63, Tryd.ntmps63
 go_wp2_with fail
 refine HF.out.mono ?_
 rintro e w1 ⟨rfl, rfl⟩
 go_wp2_with fail
 go_ret2
 exact ⟨rfl, rfl⟩
set_option maxRecDepth 100000 in
theorem shr_far (w : World) (A : Option Addr) (c x n : Nat) (h : Nt w A c x) (hl : nl x ≤ 8192) (hlim : nl x ≤ n / 64) (hlim2 : n < 9223372036854775808) : Calls Tryd.prog 61 #[.slice A (nl x) c, .int .i64 (n : Int)] w fun e w' => e = .returned (.tuple #[.slice none 0 0, .int .i64 0]) ∧ w' = w := by
 have HF := Lib.hid (form_any w A c x h hl)
 have q0 : decide ((n : Int) < 0) = false := decide_eq_false (by omega)
 obtain ⟨p, hp⟩ : ∃ p, p = n / 64 := ⟨_, rfl⟩
 obtain ⟨k, hk⟩ : ∃ k, k = n % 64 := ⟨_, rfl⟩
 have q1 : (n : Int) / 64 = (p : Int) := by omega
 have q4 : (n : Int) % 64 = (k : Int) := by omega
 have q5 : IntKind.i64.wrap (k : Int) = (k : Int) := IntWalk.i64_in _ (by omega)
 have q8 : wrap64 (k : Int) = (k : Int) := by rw [w64 (by omega) (by omega)]
 by_cases hz : p < 9223372036854775808
 case neg => exact absurd hlim2 (by omega)
 have q6 : IntKind.i64.wrap (p : Int) = (p : Int) := IntWalk.i64_in _ (by omega)
 have q7 : wrap64 (p : Int) = (p : Int) := by rw [w64 (by omega) (by omega)]
 generalize nl x = s at *
 have q2 : decide ((s : Int) ≤ (p : Int)) = true := decide_eq_true (by omega)
 have q3 : decide (s ≤ p) = true := decide_eq_true (by omega)
 clear h hl hlim hlim2 hp hk hz
 go_enter Tryd.func61, Tryd.ntmps61
 go_wp2_with fail
 refine HF.out.mono ?_
 rintro e w1 ⟨rfl, rfl⟩
 go_wp2_with fail
 go_ret2
 exact ⟨rfl, rfl⟩
end Go.Proofs.YtbfahgbhbhnbnaaDoor.GL
