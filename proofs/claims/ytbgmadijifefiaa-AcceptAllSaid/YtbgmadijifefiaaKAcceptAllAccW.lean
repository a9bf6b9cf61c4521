/- Contracts of Accept's callees: math.Abs, dd.finite, dd.Form. Conditions: words below 2^64. -/
import Derived.Test.YtbgmadijifefiaaKAcceptAllEft
import Derived.Test.YtbgmadijifefiaaKAcceptAllFlCmp
import Derived.Laws.BitsAllLaws
namespace Go.Proofs.Ytbgmadijifefiaa.AccW
open Go.RowKit Go.Proofs.Ytbgmadijifefiaa.FW Go.Proofs.Ytbgmadijifefiaa.Eft Fl
theorem andNot_sz {x : Nat} (hx : x < 18446744073709551616) : bits .andNot .u64 (x : Int) 9223372036854775808 = ((sz x : Nat) : Int) := by
 have h := u64_andNot_nat x 9223372036854775808 hx (by decide)
 have e : 18446744073709551615 - 9223372036854775808 = 2^63 - 1 := by decide
 rw [e, Nat.and_two_pow_sub_one_eq_mod] at h
 exact h
theorem abs_any (x : Nat) (hx : x < 18446744073709551616) (w : World) : Calls Try.prog 81 #[.float .f64 x] w fun e w' => e = .returned (.float .f64 (sz x)) ∧ w = w' := by
 have hf := call_from
 have hb := call_bits
 have ha := andNot_sz hx
 go_enter Try.func81, Try.ntmps81
 go_wp2
 go_ret
 exact ⟨rfl, rfl⟩
theorem finite_any (x : Nat) (hx : x < 18446744073709551616) (w : World) : Calls Try.prog 95 #[.float .f64 x] w fun e w' => e = .returned (.bool (decide (sz x ≤ 9218868437227405311))) ∧ w = w' := by
 have hle := le_abs (s := sz x) (c := 9218868437227405311) (Nat.mod_lt _ (by decide)) (by decide)
 go_enter Try.func95, Try.ntmps95
 go_wp2_with fail
 refine (abs_any x hx _).mono ?_
 rintro e w1 ⟨rfl, rfl⟩
 go_wp2_with fail
 go_ret
 exact ⟨congrArg (fun b => Ending.returned (.bool b)) hle, rfl⟩
theorem upon_fop {P : Program} {o : Oper} {a : Act} {K : Act → World → Prop} {Q : Exit → Act → World → Prop} {w : World} {X Y : Nat} {t : TypeId} (op : BinOp) (hop : op = .add ∨ op = .sub ∨ op = .mul ∨ op = .quo)
  (h : ∀ r w1, FOp op X Y r → Drew w w1 → K (a.put o.dst (.float .f64 r)) w1) :
  Oper.upon P o a K Q (((binOp op t (.float .f64 X) (.float .f64 Y)).run P w).andThen fun v w' => Result.ok (Next.value v) w') := by
 obtain ⟨r, w1, hr, h1, h2⟩ := run_fop (P := P) op t X Y w hop
 rw [hr]
 exact h r w1 h1 h2
def FormR (x y : Nat) (r : Bool) : Prop := (fin x ∧ fin y ∧ ∃ s, FOp .add x y s ∧ r = (FloatKind.f64.format.order s x == some .eq)) ∨ (¬(fin x ∧ fin y) ∧ r = false)
theorem box_below (w : World) (o : Obj) (n : Nat) : Below w.heap.size w ((w.alloc o).drewN n) :=
 Drew.to_below ((Below.refl _ _).alloc (Nat.le_refl _) o) ⟨⟨n, rfl⟩⟩
set_option maxHeartbeats 1000000 in
theorem form_any (x y : Nat) (hx : x < 18446744073709551616) (hy : y < 18446744073709551616) (w : World) : Calls Try.prog 90 #[.agg #[.float .f64 x, .float .f64 y]] w fun e w' => ∃ r : Bool, e = .returned (.bool r) ∧ FormR x y r ∧ Below w.heap.size w w' := by
 have hI : INF = 9218868437227405312 := by decide
 go_enter Try.func90, Try.ntmps90
 go_wp2_with fail
 refine (finite_any x hx _).mono ?_
 rintro e w1 ⟨rfl, rfl⟩
 by_cases h1 : sz x ≤ 9218868437227405311
 ·rw [decide_eq_true h1]
  go_wp2_with fail
  refine (finite_any y hy _).mono ?_
  rintro e w2 ⟨rfl, rfl⟩
  by_cases h2 : sz y ≤ 9218868437227405311
  ·rw [decide_eq_true h2]
   have tok1 : True := trivial
   go_wp2_with (have _t := tok1; refine upon_fop .add (by simp) ?_; intro s w1 hs hd; obtain ⟨n, rfl⟩ := hd.out; clear tok1)
   go_ret
   exact ⟨_, rfl, Or.inl ⟨by unfold fin; omega, by unfold fin; omega, _, hs, rfl⟩, box_below _ _ _⟩
  ·rw [decide_eq_false h2]
   go_wp2_with fail
   go_ret
   exact ⟨_, rfl, Or.inr ⟨fun h => h2 (by have := h.2; unfold fin at this; omega), rfl⟩, box_below _ _ 0⟩
 ·rw [decide_eq_false h1]
  go_wp2_with fail
  go_ret
  exact ⟨_, rfl, Or.inr ⟨fun h => h1 (by have := h.1; unfold fin at this; omega), rfl⟩, box_below _ _ 0⟩
def FitR (x y : Nat) (e : Int) (r : Bool) : Prop := (-100 ≤ e ∧ e ≤ -56 ∧ 553942754166571008 ≤ sz x ∧ sz x ≤ 8660422083433463808 ∧ FormR x y r) ∨ (¬(-100 ≤ e ∧ e ≤ -56 ∧ 553942754166571008 ≤ sz x ∧ sz x ≤ 8660422083433463808) ∧ r = false)
def FitW (x y : Nat) (i : Int) (w : World) (e : Ending) (w' : World) : Prop := ∃ r : Bool, e = .returned (.bool r) ∧ FitR x y i r ∧ Below w.heap.size w w'
theorem or_beq {o a b : Option Ordering} : (o == a || o == b) = decide (o = a ∨ o = b) := by
 by_cases h1 : o = a
 ·subst h1; simp
 ·by_cases h2 : o = b
  ·subst h2; simp
  ·simp [h1, h2]
theorem fge {s c : Nat} (hs : s < 2^63) (hc : c < INF) : (FloatKind.f64.format.order s c = some .gt ∨ FloatKind.f64.format.order s c = some .eq) ↔ (c ≤ s ∧ s ≤ INF) := by
 have h := ge_abs hs hc
 rw [or_beq] at h
 exact decide_eq_decide.1 h
theorem fle {s c : Nat} (hs : s < 2^63) (hc : c < INF) : (FloatKind.f64.format.order s c = some .lt ∨ FloatKind.f64.format.order s c = some .eq) ↔ s ≤ c := by
 have h := le_abs hs hc
 rw [or_beq] at h
 exact decide_eq_decide.1 h
set_option maxHeartbeats 2000000 in
theorem fit_any (x y : Nat) (i : Int) (hx : x < 18446744073709551616) (hy : y < 18446744073709551616) (w : World) : Calls Try.prog 80 #[.agg #[.float .f64 x, .float .f64 y], .int .i64 i] w (FitW x y i w) := by
 have hI : INF = 9218868437227405312 := by decide
 have hge := fge (s := sz x) (c := 553942754166571008) (Nat.mod_lt _ (by decide)) (by decide)
 have hle := fle (s := sz x) (c := 8660422083433463808) (Nat.mod_lt _ (by decide)) (by decide)
 go_enter Try.func80, Try.ntmps80
 go_wp2_with fail
 refine (abs_any x hx _).mono ?_
 rintro e w1 ⟨rfl, rfl⟩
 by_cases c1 : -100 ≤ i
 ·by_cases c2 : i ≤ -56
  ·by_cases c3 : 553942754166571008 ≤ sz x ∧ sz x ≤ INF
   ·have g1 := hge.2 c3
    by_cases c4 : sz x ≤ 8660422083433463808
    ·have g2 := hle.2 c4
     clear hge hle
     go_wp2_with fail
     refine (form_any x y hx hy _).mono ?_
     rintro e w2 ⟨r, rfl, hr, hb⟩
     go_wp2_with fail
     go_ret
     exact ⟨_, rfl, Or.inl ⟨c1, c2, c3.1, c4, (by rw [or_beq, or_beq, decide_eq_true g1, decide_eq_true g2]; exact hr)⟩, (box_below _ _ 0).trans (hb.mono (box_below _ _ 0).size)⟩
    ·have g2 := fun h => c4 (hle.1 h)
     clear hge hle
     go_wp2_with fail
     go_ret
     exact ⟨_, rfl, Or.inr ⟨fun h => c4 h.2.2.2, rfl⟩, box_below _ _ 0⟩
   ·have g1 := fun h => c3 (hge.1 h)
    clear hge hle
    go_wp2_with fail
    go_ret
    exact ⟨_, rfl, Or.inr ⟨fun h => c3 ⟨h.2.2.1, by omega⟩, rfl⟩, box_below _ _ 0⟩
  ·clear hge hle
   go_wp2_with fail
   go_ret
   exact ⟨_, rfl, Or.inr ⟨fun h => (by omega), rfl⟩, box_below _ _ 0⟩
 ·clear hge hle
  go_wp2_with fail
  go_ret
  exact ⟨_, rfl, Or.inr ⟨fun h => (by omega), rfl⟩, box_below _ _ 0⟩
end Go.Proofs.Ytbgmadijifefiaa.AccW
