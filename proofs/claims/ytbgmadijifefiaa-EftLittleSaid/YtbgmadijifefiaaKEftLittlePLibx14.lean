import Derived.Test.YtbgmadijifefiaaKEftLittlePLibx0
import Derived.Test.YtbgmadijifefiaaKEftLittlePLibx1
import Derived.Test.YtbgmadijifefiaaKEftLittlePLibx2
import Derived.Test.YtbgmadijifefiaaKEftLittlePLibx4
import Derived.Test.YtbgmadijifefiaaKEftLittlePLibx6
import Derived.Test.YtbgmadijifefiaaKEftLittlePLibx9
import Derived.Test.YtbgmadijifefiaaKEftLittlePLibx12
import Derived.Test.YtbgmadijifefiaaKEftLittlePLibx13
namespace Go.Proofs.Ytbgmadijifefiaa.PLib
open Go.RowKit Go.Proofs.YtbgmadijifefiaaW.PrintWords Go.Proofs.YtbgmadijifefiaaW.PrintLast Go.Proofs.YtbgmadijifefiaaW.PrintMore
attribute [local go_sem] max2_int min2_int max_two min_two max_three min_three max_four min_four   -- for this text's walks alone
set_option linter.unusedVariables false
set_option linter.unusedSimpArgs false
def gnomonref19_Little.f (k : Nat) (a0 : Int) (a1 : Int) : Option (Bool) := (gnomonref19_Finite.f a0).bind fun t567 => (if t567 = true then ((gnomonref19_Finite.f a1).bind fun t568 => (if t568 = true then ((gnomonref19_Units.f k a1).bind fun bt569 => ((gnomonref01_Shl.f k bt569.2 53).bind fun t573 => ((gnomonref19_Units.f k a0).bind fun bt576 => ((gnomonref01_Cmp.f k t573 bt576.2).bind fun t580 => (some (decide (t580 ≤ 0))))))) else (some false))) else (some false))
theorem gnomonref19_Little.mono : ∀ a0 a1 k, LeO (gnomonref19_Little.f k a0 a1) (gnomonref19_Little.f (k + 1) a0 a1) := by
  intro a0 a1 k
  unfold gnomonref19_Little.f
  repeat' first
      | (with_reducible exact gnomonref01_Cmp.mono _ _ _)
      | (with_reducible exact gnomonref01_Shl.mono _ _ _)
      | (with_reducible exact gnomonref19_Units.mono _ _)
      | (with_reducible exact LeO.refl _)
      | (with_reducible exact LeO.none _)
      | (with_reducible refine LeO.ite ?_ ?_)
      | (with_reducible refine LeO.bind ?_ (fun _ => ?_))
      | exact gnomonref01_Cmp.mono _ _ _
      | exact gnomonref01_Shl.mono _ _ _
      | exact gnomonref19_Units.mono _ _
      | exact LeO.none _
      | refine LeO.ite ?_ ?_
      | refine LeO.bind ?_ (fun _ => ?_)
set_option maxHeartbeats 8000000 in
set_option maxRecDepth 100000 in
theorem gnomonref19_Little.calls (k : Nat) (a0 : Int) (a1 : Int) (r : Bool) (w : World) (h : gnomonref19_Little.f k a0 a1 = some r) :
    Calls Try.prog 28 #[.int .u64 a0, .int .u64 a1] w fun e w' => e = .returned (.bool r) ∧ Below w.heap.size w w' := by
  have HB := Aside0.mk (Below.refl w.heap.size w)
  have H : ((gnomonref19_Finite.f a0).bind fun t567 => (if t567 = true then ((gnomonref19_Finite.f a1).bind fun t568 => (if t568 = true then ((gnomonref19_Units.f k a1).bind fun bt569 => ((gnomonref01_Shl.f k bt569.2 53).bind fun t573 => ((gnomonref19_Units.f k a0).bind fun bt576 => ((gnomonref01_Cmp.f k t573 bt576.2).bind fun t580 => (some (decide (t580 ≤ 0))))))) else (some false))) else (some false))) = some r := h
  clear h
  replace H := Option.bind_eq_some_iff.mp H
  obtain ⟨t567, A30, H⟩ := H
  replace H : (if t567 = true then ((gnomonref19_Finite.f a1).bind fun t568 => (if t568 = true then ((gnomonref19_Units.f k a1).bind fun bt569 => ((gnomonref01_Shl.f k bt569.2 53).bind fun t573 => ((gnomonref19_Units.f k a0).bind fun bt576 => ((gnomonref01_Cmp.f k t573 bt576.2).bind fun t580 => (some (decide (t580 ≤ 0))))))) else (some false))) else (some false)) = some r := H
  have A3 := Aside0.mk A30
  clear A30
  by_cases c4 : t567 = true
  · subst c4
    have H1 : ((gnomonref19_Finite.f a1).bind fun t568 => (if t568 = true then ((gnomonref19_Units.f k a1).bind fun bt569 => ((gnomonref01_Shl.f k bt569.2 53).bind fun t573 => ((gnomonref19_Units.f k a0).bind fun bt576 => ((gnomonref01_Cmp.f k t573 bt576.2).bind fun t580 => (some (decide (t580 ≤ 0))))))) else (some false))) = some r := by rw [if_pos rfl] at H; exact H
    clear H
    have H := H1
    clear H1
    replace H := Option.bind_eq_some_iff.mp H
    obtain ⟨t568, A50, H⟩ := H
    replace H : (if t568 = true then ((gnomonref19_Units.f k a1).bind fun bt569 => ((gnomonref01_Shl.f k bt569.2 53).bind fun t573 => ((gnomonref19_Units.f k a0).bind fun bt576 => ((gnomonref01_Cmp.f k t573 bt576.2).bind fun t580 => (some (decide (t580 ≤ 0))))))) else (some false)) = some r := H
    have A5 := Aside0.mk A50
    clear A50
    by_cases c6 : t568 = true
    · subst c6
      have H1 : ((gnomonref19_Units.f k a1).bind fun bt569 => ((gnomonref01_Shl.f k bt569.2 53).bind fun t573 => ((gnomonref19_Units.f k a0).bind fun bt576 => ((gnomonref01_Cmp.f k t573 bt576.2).bind fun t580 => (some (decide (t580 ≤ 0))))))) = some r := by rw [if_pos rfl] at H; exact H
      clear H
      have H := H1
      clear H1
      replace H := Option.bind_eq_some_iff.mp H
      obtain ⟨⟨t569, t570⟩, A70, H⟩ := H
      replace H : ((gnomonref01_Shl.f k t570 53).bind fun t573 => ((gnomonref19_Units.f k a0).bind fun bt576 => ((gnomonref01_Cmp.f k t573 bt576.2).bind fun t580 => (some (decide (t580 ≤ 0)))))) = some r := H
      have A7 := Aside0.mk A70
      clear A70
      replace H := Option.bind_eq_some_iff.mp H
      obtain ⟨t573, A80, H⟩ := H
      replace H : ((gnomonref19_Units.f k a0).bind fun bt576 => ((gnomonref01_Cmp.f k t573 bt576.2).bind fun t580 => (some (decide (t580 ≤ 0))))) = some r := H
      have A8 := Aside0.mk A80
      clear A80
      replace H := Option.bind_eq_some_iff.mp H
      obtain ⟨⟨t576, t577⟩, A90, H⟩ := H
      replace H : ((gnomonref01_Cmp.f k t573 t577).bind fun t580 => (some (decide (t580 ≤ 0)))) = some r := H
      have A9 := Aside0.mk A90
      clear A90
      replace H := Option.bind_eq_some_iff.mp H
      obtain ⟨t580, A100, H⟩ := H
      replace H : (some (decide (t580 ≤ 0))) = some r := H
      have A10 := Aside0.mk A100
      clear A100
      obtain rfl := Option.some.inj H
      go_enter Try.func28, Try.ntmps28
      go_wp2_with (first | (rw [show ∀ (x y : Value) (w_ : World), Sem.run Try.prog (Instr.field 38 (Value.agg #[x, y]) 1) w_ = .ok y w_ from fun x y w_ => by kernel_rfl]; go_simp) | ((with_reducible refine gate_callee (f := 36) rfl ?_); refine goesL_ (some 6) rfl rfl Try.func36 (by kernel_rfl) rfl #[.int .u64 a0] rfl (by (try simp only [List.map_toArray, List.map_cons, List.map_nil]); first | done | rfl | (simp only [List.length_drop, List.length_take]; rfl)) ?_; (with_reducible refine (gnomonref19_Finite.calls a0 true _ A3.out).mono ?_); rintro e w' ⟨rfl, ⟨nd, rfl⟩⟩; refine ⟨_, rfl, ?_⟩) | (go_at_call 36; (with_reducible refine (gnomonref19_Finite.calls a1 true _ A5.out).mono ?_); rintro e w' ⟨rfl, ⟨nd, rfl⟩⟩) | (go_at_call 34; (with_reducible refine (gnomonref19_Units.calls k a1 t569 t570 _ A7.out).mono ?_); rintro e w11 ⟨v571, rfl, ho0, hb⟩; have n0_ := Aside0.mk (Kd.R_lower ho0 (below_size (by repeat (first | (with_reducible first | exact HB.out | apply below_alloc | apply pw_below_drewN | apply below_drew1) | exact HB.out)))); have n1_ := Aside0.mk (below_step (by repeat (first | (with_reducible first | exact HB.out | apply below_alloc | apply pw_below_drewN | apply below_drew1) | exact HB.out)) hb); clear HB; have HO572 := n0_; have HB := n1_; clear n0_ n1_; (try clear hb); (try clear hb2); (try clear hk); (try clear hi); (try clear ho0); obtain ⟨Ao12, co12, eo12⟩ := Kd.R_slice HO572.out; subst eo12) | (go_at_call 54; (with_reducible refine (gnomonref01_Shl.calls k _ _ t570 53 t573 _ ?side1 ?side2 A8.out).mono ?_); (case side1 => repeat (first | exact (Kd.R_reads' HO572.out).2.2 | (with_reducible refine Kd.C_alloc ?_ _) | (with_reducible refine Kd.C_drewN ?_ _) | (with_reducible refine Kd.C_drew ?_))); (case side2 => exact (Kd.R_reads' HO572.out).2.1); rintro e w13 ⟨v574, rfl, ho0, hb⟩; have n0_ := Aside0.mk (Kd.R_elder' (by (with_reducible repeat (first | apply Kd.R_alloc | apply Kd.R_drewN | apply Kd.R_drew)); exact HO572.out) (Kd.R_base ho0) hb); have n1_ := Aside0.mk (Kd.R_lower (Kd.R_new' ho0 (Kd.R_lt (by (with_reducible repeat (first | apply Kd.R_alloc | apply Kd.R_drewN | apply Kd.R_drew)); exact HO572.out))) (below_size (by repeat (first | (with_reducible first | exact HB.out | apply below_alloc | apply pw_below_drewN | apply below_drew1) | exact HB.out)))); have n2_ := Aside0.mk (below_step (by repeat (first | (with_reducible first | exact HB.out | apply below_alloc | apply pw_below_drewN | apply below_drew1) | exact HB.out)) hb); clear HO572; clear HB; have HO572 := n0_; have HO575 := n1_; have HB := n2_; clear n0_ n1_ n2_; (try clear hb); (try clear hb2); (try clear hk); (try clear hi); (try clear ho0)) | (go_at_call 34; (with_reducible refine (gnomonref19_Units.calls k a0 t576 t577 _ A9.out).mono ?_); rintro e w14 ⟨v578, rfl, ho0, hb⟩; have n0_ := Aside0.mk (Kd.R_elder' (by (with_reducible repeat (first | apply Kd.R_alloc | apply Kd.R_drewN | apply Kd.R_drew)); exact HO572.out) (Kd.R_base ho0) hb); have n1_ := Aside0.mk (Kd.R_elder' (by (with_reducible repeat (first | apply Kd.R_alloc | apply Kd.R_drewN | apply Kd.R_drew)); exact HO575.out) (Kd.R_base ho0) hb); have n2_ := Aside0.mk (Kd.R_lower (Kd.R_new' (Kd.R_new' ho0 (Kd.R_lt (by (with_reducible repeat (first | apply Kd.R_alloc | apply Kd.R_drewN | apply Kd.R_drew)); exact HO572.out))) (Kd.R_lt (by (with_reducible repeat (first | apply Kd.R_alloc | apply Kd.R_drewN | apply Kd.R_drew)); exact HO575.out))) (below_size (by repeat (first | (with_reducible first | exact HB.out | apply below_alloc | apply pw_below_drewN | apply below_drew1) | exact HB.out)))); have n3_ := Aside0.mk (below_step (by repeat (first | (with_reducible first | exact HB.out | apply below_alloc | apply pw_below_drewN | apply below_drew1) | exact HB.out)) hb); clear HO572; clear HO575; clear HB; have HO572 := n0_; have HO575 := n1_; have HO579 := n2_; have HB := n3_; clear n0_ n1_ n2_ n3_; (try clear hb); (try clear hb2); (try clear hk); (try clear hi); (try clear ho0); obtain ⟨Ao15, co15, eo15⟩ := Kd.R_slice HO575.out; subst eo15; obtain ⟨Ao16, co16, eo16⟩ := Kd.R_slice HO579.out; subst eo16) | (go_at_call 53; (with_reducible refine (gnomonref01_Cmp.calls k _ _ t573 _ _ t577 t580 _ ?side1 ?side2 ?side3 ?side4 A10.out).mono ?_); (case side1 => repeat (first | exact (Kd.R_reads' HO575.out).2.2 | (with_reducible refine Kd.C_alloc ?_ _) | (with_reducible refine Kd.C_drewN ?_ _) | (with_reducible refine Kd.C_drew ?_))); (case side2 => exact (Kd.R_reads' HO575.out).2.1); (case side3 => repeat (first | exact (Kd.R_reads' HO579.out).2.2 | (with_reducible refine Kd.C_alloc ?_ _) | (with_reducible refine Kd.C_drewN ?_ _) | (with_reducible refine Kd.C_drew ?_))); (case side4 => exact (Kd.R_reads' HO579.out).2.1); rintro e w' ⟨rfl, ⟨nd, rfl⟩⟩))
      go_ret
      exact ⟨by first | rfl | (simp [errW_none, errW_some] <;> rfl) | (simp [*, errW_none, errW_some] <;> rfl), by repeat (first | (with_reducible first | exact HB.out | apply below_alloc | apply pw_below_drewN | apply below_drew1) | exact HB.out)⟩
    · replace c6 := Bool.eq_false_iff.mpr c6
      subst c6
      have H1 : (some false) = some r := by rw [if_neg (show ¬ (false = true) by decide)] at H; exact H
      clear H
      have H := H1
      clear H1
      obtain rfl := Option.some.inj H
      go_enter Try.func28, Try.ntmps28
      go_wp2_with (first | ((with_reducible refine gate_callee (f := 36) rfl ?_); refine goesL_ (some 6) rfl rfl Try.func36 (by kernel_rfl) rfl #[.int .u64 a0] rfl (by (try simp only [List.map_toArray, List.map_cons, List.map_nil]); first | done | rfl | (simp only [List.length_drop, List.length_take]; rfl)) ?_; (with_reducible refine (gnomonref19_Finite.calls a0 true _ A3.out).mono ?_); rintro e w' ⟨rfl, ⟨nd, rfl⟩⟩; refine ⟨_, rfl, ?_⟩) | (go_at_call 36; (with_reducible refine (gnomonref19_Finite.calls a1 false _ A5.out).mono ?_); rintro e w' ⟨rfl, ⟨nd, rfl⟩⟩))
      go_ret
      exact ⟨by first | rfl | (simp [errW_none, errW_some] <;> rfl) | (simp [*, errW_none, errW_some] <;> rfl), by repeat (first | (with_reducible first | exact HB.out | apply below_alloc | apply pw_below_drewN | apply below_drew1) | exact HB.out)⟩
  · replace c4 := Bool.eq_false_iff.mpr c4
    subst c4
    have H1 : (some false) = some r := by rw [if_neg (show ¬ (false = true) by decide)] at H; exact H
    clear H
    have H := H1
    clear H1
    obtain rfl := Option.some.inj H
    go_enter Try.func28, Try.ntmps28
    go_wp2_with (first | ((with_reducible refine gate_callee (f := 36) rfl ?_); refine goesL_ (some 6) rfl rfl Try.func36 (by kernel_rfl) rfl #[.int .u64 a0] rfl (by (try simp only [List.map_toArray, List.map_cons, List.map_nil]); first | done | rfl | (simp only [List.length_drop, List.length_take]; rfl)) ?_; (with_reducible refine (gnomonref19_Finite.calls a0 false _ A3.out).mono ?_); rintro e w' ⟨rfl, ⟨nd, rfl⟩⟩; refine ⟨_, rfl, ?_⟩))
    go_ret
    exact ⟨by first | rfl | (simp [errW_none, errW_some] <;> rfl) | (simp [*, errW_none, errW_some] <;> rfl), by repeat (first | (with_reducible first | exact HB.out | apply below_alloc | apply pw_below_drewN | apply below_drew1) | exact HB.out)⟩
def gnomonref19_Little.Pure : Prop := ∀ (a0 : Int) (a1 : Int), (Lit.int .u64 a0).wf = true → (Lit.int .u64 a1).wf = true → ∃ k, gnomonref19_Little.f k a0 a1 = some true
theorem gnomonref19_Little.walk (P : gnomonref19_Little.Pure) (a0 : Int) (a1 : Int) (w : World) (w0 : (Lit.int .u64 a0).wf = true) (w1 : (Lit.int .u64 a1).wf = true) :
    Calls Try.prog 28 #[.int .u64 a0, .int .u64 a1] w fun e w' => e = .returned (.bool true) ∧ Below w.heap.size w w' := by
  obtain ⟨k, h⟩ := P a0 a1 w0 w1
  refine (gnomonref19_Little.calls k a0 a1 true w h).mono ?_
  rintro e w' ⟨rfl, hd⟩
  exact ⟨rfl, hd⟩
end Go.Proofs.Ytbgmadijifefiaa.PLib
