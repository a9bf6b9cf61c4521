import Derived.Test.YtbgmadijifefiaaKEftSidesPLibx0
import Derived.Test.YtbgmadijifefiaaKEftSidesPLibx1
import Derived.Test.YtbgmadijifefiaaKEftSidesPLibx2
import Derived.Test.YtbgmadijifefiaaKEftSidesPLibx4
import Derived.Test.YtbgmadijifefiaaKEftSidesPLibx6
import Derived.Test.YtbgmadijifefiaaKEftSidesPLibx9
import Derived.Test.YtbgmadijifefiaaKEftSidesPLibx12
import Derived.Test.YtbgmadijifefiaaKEftSidesPLibx13
namespace Go.Proofs.Ytbgmadijifefiaa.PLib
open Go.RowKit Go.Proofs.YtbgmadijifefiaaW.PrintWords Go.Proofs.YtbgmadijifefiaaW.PrintLast Go.Proofs.YtbgmadijifefiaaW.PrintMore
attribute [local go_sem] max2_int min2_int max_two min_two max_three min_three max_four min_four   -- for this text's walks alone
set_option linter.unusedVariables false
set_option linter.unusedSimpArgs false
def gnomonref19_Ahead.f (a0 : Int) (a1 : Int) : Option (Bool) := (gnomonref19_AtMost.f a0 1022).bind fun t581 => (if t581 = true then ((gnomonref19_AtMost.f a1 1022).bind fun t582 => (if t582 = true then ((gnomonref19_Size.f a0).bind fun t583 => (if t583 = 0 then (some true) else ((gnomonref19_Size.f a0).bind fun t584 => ((gnomonref19_Size.f a1).bind fun t585 => (some (decide (t584 ≥ t585))))))) else (some false))) else (some false))
set_option maxHeartbeats 8000000 in
set_option maxRecDepth 100000 in
theorem gnomonref19_Ahead.calls (a0 : Int) (a1 : Int) (r : Bool) (w : World) (h : gnomonref19_Ahead.f a0 a1 = some r) :
    Calls Try.prog 22 #[.int .u64 a0, .int .u64 a1] w fun e w' => e = .returned (.bool r) ∧ Drawn0 w w' := by
  have H : ((gnomonref19_AtMost.f a0 1022).bind fun t581 => (if t581 = true then ((gnomonref19_AtMost.f a1 1022).bind fun t582 => (if t582 = true then ((gnomonref19_Size.f a0).bind fun t583 => (if t583 = 0 then (some true) else ((gnomonref19_Size.f a0).bind fun t584 => ((gnomonref19_Size.f a1).bind fun t585 => (some (decide (t584 ≥ t585))))))) else (some false))) else (some false))) = some r := h
  clear h
  replace H := Option.bind_eq_some_iff.mp H
  obtain ⟨t581, A30, H⟩ := H
  replace H : (if t581 = true then ((gnomonref19_AtMost.f a1 1022).bind fun t582 => (if t582 = true then ((gnomonref19_Size.f a0).bind fun t583 => (if t583 = 0 then (some true) else ((gnomonref19_Size.f a0).bind fun t584 => ((gnomonref19_Size.f a1).bind fun t585 => (some (decide (t584 ≥ t585))))))) else (some false))) else (some false)) = some r := H
  have A3 := Aside0.mk A30
  clear A30
  by_cases c4 : t581 = true
  · subst c4
    have H1 : ((gnomonref19_AtMost.f a1 1022).bind fun t582 => (if t582 = true then ((gnomonref19_Size.f a0).bind fun t583 => (if t583 = 0 then (some true) else ((gnomonref19_Size.f a0).bind fun t584 => ((gnomonref19_Size.f a1).bind fun t585 => (some (decide (t584 ≥ t585))))))) else (some false))) = some r := by rw [if_pos rfl] at H; exact H
    clear H
    have H := H1
    clear H1
    replace H := Option.bind_eq_some_iff.mp H
    obtain ⟨t582, A50, H⟩ := H
    replace H : (if t582 = true then ((gnomonref19_Size.f a0).bind fun t583 => (if t583 = 0 then (some true) else ((gnomonref19_Size.f a0).bind fun t584 => ((gnomonref19_Size.f a1).bind fun t585 => (some (decide (t584 ≥ t585))))))) else (some false)) = some r := H
    have A5 := Aside0.mk A50
    clear A50
    by_cases c6 : t582 = true
    · subst c6
      have H1 : ((gnomonref19_Size.f a0).bind fun t583 => (if t583 = 0 then (some true) else ((gnomonref19_Size.f a0).bind fun t584 => ((gnomonref19_Size.f a1).bind fun t585 => (some (decide (t584 ≥ t585))))))) = some r := by rw [if_pos rfl] at H; exact H
      clear H
      have H := H1
      clear H1
      replace H := Option.bind_eq_some_iff.mp H
      obtain ⟨t583, A70, H⟩ := H
      replace H : (if t583 = 0 then (some true) else ((gnomonref19_Size.f a0).bind fun t584 => ((gnomonref19_Size.f a1).bind fun t585 => (some (decide (t584 ≥ t585)))))) = some r := H
      have A7 := Aside0.mk A70
      clear A70
      by_cases c8 : t583 = 0
      · rw [if_pos c8] at H
        have c8b0 : (t583 == 0) = true := beq_iff_eq.mpr c8
        have c8b1 : (t583 != 0) = false := bne_eq_false_iff_eq.mpr c8
        clear c8
        obtain rfl := Option.some.inj H
        go_enter Try.func22, Try.ntmps22
        go_wp2_with (first | ((with_reducible refine gate_callee (f := 27) rfl ?_); refine goesL_ (some 6) rfl rfl Try.func27 (by kernel_rfl) rfl #[.int .u64 a0, .int .i64 1022] rfl (by (try simp only [List.map_toArray, List.map_cons, List.map_nil]); first | done | rfl | (simp only [List.length_drop, List.length_take]; rfl)) ?_; (with_reducible refine (gnomonref19_AtMost.calls a0 1022 true _ A3.out).mono ?_); rintro e w' ⟨rfl, ⟨nd, rfl⟩⟩; refine ⟨_, rfl, ?_⟩) | (go_at_call 27; (with_reducible refine (gnomonref19_AtMost.calls a1 1022 true _ A5.out).mono ?_); rintro e w' ⟨rfl, ⟨nd, rfl⟩⟩) | (go_at_call 32; (with_reducible refine (gnomonref19_Size.calls a0 t583 _ A7.out).mono ?_); rintro e w' ⟨rfl, ⟨nd, rfl⟩⟩))
        go_ret
        exact ⟨by first | rfl | (simp; done) | (simp [*]; done), by repeat (first | exact Drawn0.refl _ | apply Drawn0.step)⟩
      · rw [if_neg c8] at H
        have c8b0 : (t583 == 0) = false := beq_eq_false_iff_ne.mpr c8
        have c8b1 : (t583 != 0) = true := bne_iff_ne.mpr c8
        replace H := Option.bind_eq_some_iff.mp H
        obtain ⟨t584, A90, H⟩ := H
        replace H : ((gnomonref19_Size.f a1).bind fun t585 => (some (decide (t584 ≥ t585)))) = some r := H
        have A9 := Aside0.mk A90
        obtain rfl : t584 = t583 := Option.some.inj (A9.out.symm.trans A7.out)
        clear A90
        replace H := Option.bind_eq_some_iff.mp H
        obtain ⟨t585, A100, H⟩ := H
        replace H : (some (decide (t584 ≥ t585))) = some r := H
        have A10 := Aside0.mk A100
        clear A100
        obtain rfl := Option.some.inj H
        go_enter Try.func22, Try.ntmps22
        go_wp2_with (first | ((with_reducible refine gate_callee (f := 27) rfl ?_); refine goesL_ (some 6) rfl rfl Try.func27 (by kernel_rfl) rfl #[.int .u64 a0, .int .i64 1022] rfl (by (try simp only [List.map_toArray, List.map_cons, List.map_nil]); first | done | rfl | (simp only [List.length_drop, List.length_take]; rfl)) ?_; (with_reducible refine (gnomonref19_AtMost.calls a0 1022 true _ A3.out).mono ?_); rintro e w' ⟨rfl, ⟨nd, rfl⟩⟩; refine ⟨_, rfl, ?_⟩) | (go_at_call 27; (with_reducible refine (gnomonref19_AtMost.calls a1 1022 true _ A5.out).mono ?_); rintro e w' ⟨rfl, ⟨nd, rfl⟩⟩) | (go_at_call 32; (with_reducible refine (gnomonref19_Size.calls a0 t583 _ A7.out).mono ?_); rintro e w' ⟨rfl, ⟨nd, rfl⟩⟩) | (go_at_call 32; (with_reducible refine (gnomonref19_Size.calls a0 t584 _ A9.out).mono ?_); rintro e w' ⟨rfl, ⟨nd, rfl⟩⟩) | (go_at_call 32; (with_reducible refine (gnomonref19_Size.calls a1 t585 _ A10.out).mono ?_); rintro e w' ⟨rfl, ⟨nd, rfl⟩⟩))
        go_ret
        exact ⟨by first | rfl | (simp; done) | (simp [*]; done), by repeat (first | exact Drawn0.refl _ | apply Drawn0.step)⟩
    · replace c6 := Bool.eq_false_iff.mpr c6
      subst c6
      have H1 : (some false) = some r := by rw [if_neg (show ¬ (false = true) by decide)] at H; exact H
      clear H
      have H := H1
      clear H1
      obtain rfl := Option.some.inj H
      go_enter Try.func22, Try.ntmps22
      go_wp2_with (first | ((with_reducible refine gate_callee (f := 27) rfl ?_); refine goesL_ (some 6) rfl rfl Try.func27 (by kernel_rfl) rfl #[.int .u64 a0, .int .i64 1022] rfl (by (try simp only [List.map_toArray, List.map_cons, List.map_nil]); first | done | rfl | (simp only [List.length_drop, List.length_take]; rfl)) ?_; (with_reducible refine (gnomonref19_AtMost.calls a0 1022 true _ A3.out).mono ?_); rintro e w' ⟨rfl, ⟨nd, rfl⟩⟩; refine ⟨_, rfl, ?_⟩) | (go_at_call 27; (with_reducible refine (gnomonref19_AtMost.calls a1 1022 false _ A5.out).mono ?_); rintro e w' ⟨rfl, ⟨nd, rfl⟩⟩))
      go_ret
      exact ⟨by first | rfl | (simp; done) | (simp [*]; done), by repeat (first | exact Drawn0.refl _ | apply Drawn0.step)⟩
  · replace c4 := Bool.eq_false_iff.mpr c4
    subst c4
    have H1 : (some false) = some r := by rw [if_neg (show ¬ (false = true) by decide)] at H; exact H
    clear H
    have H := H1
    clear H1
    obtain rfl := Option.some.inj H
    go_enter Try.func22, Try.ntmps22
    go_wp2_with (first | ((with_reducible refine gate_callee (f := 27) rfl ?_); refine goesL_ (some 6) rfl rfl Try.func27 (by kernel_rfl) rfl #[.int .u64 a0, .int .i64 1022] rfl (by (try simp only [List.map_toArray, List.map_cons, List.map_nil]); first | done | rfl | (simp only [List.length_drop, List.length_take]; rfl)) ?_; (with_reducible refine (gnomonref19_AtMost.calls a0 1022 false _ A3.out).mono ?_); rintro e w' ⟨rfl, ⟨nd, rfl⟩⟩; refine ⟨_, rfl, ?_⟩))
    go_ret
    exact ⟨by first | rfl | (simp; done) | (simp [*]; done), by repeat (first | exact Drawn0.refl _ | apply Drawn0.step)⟩
def gnomonref19_Ahead.Pure : Prop := ∀ (a0 : Int) (a1 : Int), (Lit.int .u64 a0).wf = true → (Lit.int .u64 a1).wf = true → gnomonref19_Ahead.f a0 a1 = some true
theorem gnomonref19_Ahead.walk (P : gnomonref19_Ahead.Pure) (a0 : Int) (a1 : Int) (w : World) (w0 : (Lit.int .u64 a0).wf = true) (w1 : (Lit.int .u64 a1).wf = true) :
    Calls Try.prog 22 #[.int .u64 a0, .int .u64 a1] w fun e w' => e = .returned (.bool true) ∧ Below w.heap.size w w' := by
  have h := P a0 a1 w0 w1
  refine (gnomonref19_Ahead.calls a0 a1 true w h).mono ?_
  rintro e w' ⟨rfl, hd⟩
  exact ⟨rfl, hd.below⟩
end Go.Proofs.Ytbgmadijifefiaa.PLib
