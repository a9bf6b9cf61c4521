import Derived.Test.YtbgmadijifefiaaKEftAgainPLibx0
import Derived.Test.YtbgmadijifefiaaKEftAgainPLibx1
import Derived.Test.YtbgmadijifefiaaKEftAgainPLibx2
import Derived.Test.YtbgmadijifefiaaKEftAgainPLibx4
import Derived.Test.YtbgmadijifefiaaKEftAgainPLibx9
namespace Go.Proofs.Ytbgmadijifefiaa.PLib
open Go.RowKit Go.Proofs.YtbgmadijifefiaaW.PrintWords Go.Proofs.YtbgmadijifefiaaW.PrintLast Go.Proofs.YtbgmadijifefiaaW.PrintMore
attribute [local go_sem] max2_int min2_int max_two min_two max_three min_three max_four min_four   -- for this text's walks alone
set_option linter.unusedVariables false
set_option linter.unusedSimpArgs false
def gnomonlaw19_again.f (a0 : Int) (a1 : Int) : Option (Bool) := if a0 = a1 then (some true) else ((gnomonref19_Size.f a0).bind fun t599 => (if t599 > 9218868437227405312 then ((gnomonref19_Size.f a1).bind fun t600 => (some (decide (t600 > 9218868437227405312)))) else (some false)))
set_option maxHeartbeats 8000000 in
set_option maxRecDepth 100000 in
theorem gnomonlaw19_again.calls (a0 : Int) (a1 : Int) (r : Bool) (w : World) (h : gnomonlaw19_again.f a0 a1 = some r) :
    Calls Try.prog 30 #[.int .u64 a0, .int .u64 a1] w fun e w' => e = .returned (.bool r) ∧ Drawn0 w w' := by
  have H : (if a0 = a1 then (some true) else ((gnomonref19_Size.f a0).bind fun t599 => (if t599 > 9218868437227405312 then ((gnomonref19_Size.f a1).bind fun t600 => (some (decide (t600 > 9218868437227405312)))) else (some false)))) = some r := h
  clear h
  by_cases c3 : a0 = a1
  · rw [if_pos c3] at H
    have c3b0 : (a0 == a1) = true := beq_iff_eq.mpr c3
    have c3b1 : (a0 != a1) = false := bne_eq_false_iff_eq.mpr c3
    clear c3
    obtain rfl := Option.some.inj H
    go_enter Try.func30, Try.ntmps30
    go_wp2
    go_ret
    exact ⟨by first | rfl | (simp; done) | (simp [*]; done), by repeat (first | exact Drawn0.refl _ | apply Drawn0.step)⟩
  · rw [if_neg c3] at H
    have c3b0 : (a0 == a1) = false := beq_eq_false_iff_ne.mpr c3
    have c3b1 : (a0 != a1) = true := bne_iff_ne.mpr c3
    replace H := Option.bind_eq_some_iff.mp H
    obtain ⟨t599, A40, H⟩ := H
    replace H : (if t599 > 9218868437227405312 then ((gnomonref19_Size.f a1).bind fun t600 => (some (decide (t600 > 9218868437227405312)))) else (some false)) = some r := H
    have A4 := Aside0.mk A40
    clear A40
    by_cases c5 : t599 > 9218868437227405312
    · rw [if_pos c5] at H
      have c5b0 : decide (9218868437227405312 < t599) = true := decide_eq_true c5
      clear c5
      replace H := Option.bind_eq_some_iff.mp H
      obtain ⟨t600, A60, H⟩ := H
      replace H : (some (decide (t600 > 9218868437227405312))) = some r := H
      have A6 := Aside0.mk A60
      clear A60
      obtain rfl := Option.some.inj H
      go_enter Try.func30, Try.ntmps30
      go_wp2_with (first | (go_at_call 32; (with_reducible refine (gnomonref19_Size.calls a0 t599 _ A4.out).mono ?_); rintro e w' ⟨rfl, ⟨nd, rfl⟩⟩) | (go_at_call 32; (with_reducible refine (gnomonref19_Size.calls a1 t600 _ A6.out).mono ?_); rintro e w' ⟨rfl, ⟨nd, rfl⟩⟩))
      go_ret
      exact ⟨by first | rfl | (simp; done) | (simp [*]; done), by repeat (first | exact Drawn0.refl _ | apply Drawn0.step)⟩
    · rw [if_neg c5] at H
      have c5b0 : decide (9218868437227405312 < t599) = false := decide_eq_false c5
      clear c5
      obtain rfl := Option.some.inj H
      go_enter Try.func30, Try.ntmps30
      go_wp2_with (first | (go_at_call 32; (with_reducible refine (gnomonref19_Size.calls a0 t599 _ A4.out).mono ?_); rintro e w' ⟨rfl, ⟨nd, rfl⟩⟩))
      go_ret
      exact ⟨by first | rfl | (simp; done) | (simp [*]; done), by repeat (first | exact Drawn0.refl _ | apply Drawn0.step)⟩
def gnomonlaw19_again.Pure : Prop := ∀ (a0 : Int) (a1 : Int), (Lit.int .u64 a0).wf = true → (Lit.int .u64 a1).wf = true → gnomonlaw19_again.f a0 a1 = some true
theorem gnomonlaw19_again.walk (P : gnomonlaw19_again.Pure) (a0 : Int) (a1 : Int) (w : World) (w0 : (Lit.int .u64 a0).wf = true) (w1 : (Lit.int .u64 a1).wf = true) :
    Calls Try.prog 30 #[.int .u64 a0, .int .u64 a1] w fun e w' => e = .returned (.bool true) ∧ Below w.heap.size w w' := by
  have h := P a0 a1 w0 w1
  refine (gnomonlaw19_again.calls a0 a1 true w h).mono ?_
  rintro e w' ⟨rfl, hd⟩
  exact ⟨rfl, hd.below⟩
end Go.Proofs.Ytbgmadijifefiaa.PLib
