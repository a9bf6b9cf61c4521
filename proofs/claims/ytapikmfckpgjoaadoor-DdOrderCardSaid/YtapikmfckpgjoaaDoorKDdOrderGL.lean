/- nat.Shl of nought; nat.Shr of all limbs; nat.Norm. Conditions: at most 8192 limbs. -/
import Derived.Test.YtapikmfckpgjoaaDoorKDdOrderGK
namespace Go.Proofs.YtapikmfckpgjoaaDoor.GL
open Go.RowKit Go.Proofs.YtapikmfckpgjoaaDoorW.PrintWords Go.Proofs.YtapikmfckpgjoaaDoorW.PrintMore Go.Proofs.YtapikmfckpgjoaaDoorW.PrintLast Go.Proofs.YtapikmfckpgjoaaDoor.Num Go.Proofs.YtapikmfckpgjoaaDoor.Ref Go.Proofs.YtapikmfckpgjoaaDoor.GBase Go.Proofs.YtapikmfckpgjoaaDoor.GTab Go.Proofs.YtapikmfckpgjoaaDoor.GTh Go.Proofs.YtapikmfckpgjoaaDoor.GA Go.Proofs.YtapikmfckpgjoaaDoor.GB Go.Proofs.YtapikmfckpgjoaaDoor.GC Go.Proofs.YtapikmfckpgjoaaDoor.GG Go.Proofs.YtapikmfckpgjoaaDoor.GH Go.Proofs.YtapikmfckpgjoaaDoor.GI Go.Proofs.YtapikmfckpgjoaaDoor.GJ Go.Proofs.YtapikmfckpgjoaaDoor.GK
theorem shl_zero (w : World) (A : Option Addr) (c n : Nat) : Calls Tryd.prog 85 #[.slice A 0 c, .int .i64 (n : Int)] w fun e w' => e = .returned (.tuple #[.slice none 0 0, .int .i64 0]) ∧ w' = w := by
 have HF := form_any w A c 0 ⟨Nat.zero_le _, .inl ⟨trivial, rfl, trivial, rfl⟩⟩ (by decide)
 rw [nl_zero] at HF
 have HF := Lib.hid HF
 have q0 : decide ((n : Int) < 0) = false := decide_eq_false (by omega)
 go_enter Tryd.func85, Tryd.ntmps85
 go_wp2_with fail
 refine HF.out.mono ?_
 rintro e w1 ⟨rfl, rfl⟩
 go_wp2_with fail
 go_ret2
 exact ⟨rfl, rfl⟩
set_option maxRecDepth 100000 in
theorem shr_far (w : World) (A : Option Addr) (c x n : Nat) (h : Nt w A c x) (hl : nl x ≤ 8192) (hlim : nl x ≤ n / 64) (hlim2 : n < 9223372036854775808) : Calls Tryd.prog 89 #[.slice A (nl x) c, .int .i64 (n : Int)] w fun e w' => e = .returned (.tuple #[.slice none 0 0, .int .i64 0]) ∧ w' = w := by
 have HF := Lib.hid (form_any w A c x h hl)
 have q0 : decide ((n : Int) < 0) = false := decide_eq_false (by omega)
 obtain ⟨p, hp⟩ : ∃ p, p = n / 64 := ⟨_, rfl⟩
 obtain ⟨k, hk⟩ : ∃ k, k = n % 64 := ⟨_, rfl⟩
 have q1 : (n : Int) / 64 = (p : Int) := by omega
 have q4 : (n : Int) % 64 = (k : Int) := by omega
 have q5 : IntKind.i64.wrap (k : Int) = (k : Int) := IntWalk.i64_in _ (by omega)
 have q8 : wrap64 (k : Int) = (k : Int) := by rw [w64 (by omega) (by omega)]
 by_cases hz : p < 9223372036854775808
 case neg => exact absurd hlim2 (by omega)
 have q6 : IntKind.i64.wrap (p : Int) = (p : Int) := IntWalk.i64_in _ (by omega)
 have q7 : wrap64 (p : Int) = (p : Int) := by rw [w64 (by omega) (by omega)]
 generalize nl x = s at *
 have q2 : decide ((s : Int) ≤ (p : Int)) = true := decide_eq_true (by omega)
 have q3 : decide (s ≤ p) = true := decide_eq_true (by omega)
 clear h hl hlim hlim2 hp hk hz
 go_enter Tryd.func89, Tryd.ntmps89
 go_wp2_with fail
 refine HF.out.mono ?_
 rintro e w1 ⟨rfl, rfl⟩
 go_wp2_with fail
 go_ret2
 exact ⟨rfl, rfl⟩
end Go.Proofs.YtapikmfckpgjoaaDoor.GL
