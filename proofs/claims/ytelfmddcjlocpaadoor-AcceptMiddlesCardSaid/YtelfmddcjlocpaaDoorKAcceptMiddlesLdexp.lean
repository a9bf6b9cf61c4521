/- Contracts of Accept's callees: math.Abs, dd.finite, dd.Form. Conditions: words below 2^64. The contract of math.Ldexp of 1.5 and an exponent from -100 to -56. -/
import Derived.Test.YtelfmddcjlocpaaDoorKAcceptMiddlesEft
import Derived.Test.YtelfmddcjlocpaaDoorKAcceptMiddlesFlCmp
import Derived.Laws.BitsAllLaws
section
namespace Go.Proofs.YtelfmddcjlocpaaDoor.AccW
open Go.RowKit Go.Proofs.YtelfmddcjlocpaaDoor.FW Go.Proofs.YtelfmddcjlocpaaDoor.Eft Fl
theorem andNot_sz {x : Nat} (hx : x < 18446744073709551616) : bits .andNot .u64 (x : Int) 9223372036854775808 = ((sz x : Nat) : Int) := by
 have h := u64_andNot_nat x 9223372036854775808 hx (by decide)
 have e : 18446744073709551615 - 9223372036854775808 = 2^63 - 1 := by decide
 rw [e, Nat.and_two_pow_sub_one_eq_mod] at h
 exact h
theorem abs_any (x : Nat) (hx : x < 18446744073709551616) (w : World) : Calls Tryd.prog 84 #[.float .f64 x] w fun e w' => e = .returned (.float .f64 (sz x)) ∧ w = w' := by
 have hf := call_from
 have hb := call_bits
 have ha := andNot_sz hx
 go_enter Tryd.func84, Tryd.ntmps84
 go_wp2
 go_ret
 exact ⟨rfl, rfl⟩
theorem finite_any (x : Nat) (hx : x < 18446744073709551616) (w : World) : Calls Tryd.prog 86 #[.float .f64 x] w fun e w' => e = .returned (.bool (decide (sz x ≤ 9218868437227405311))) ∧ w = w' := by
 have hle := le_abs (s := sz x) (c := 9218868437227405311) (Nat.mod_lt _ (by decide)) (by decide)
 go_enter Tryd.func86, Tryd.ntmps86
 go_wp2_with fail
 refine (abs_any x hx _).mono ?_
 rintro e w1 ⟨rfl, rfl⟩
 go_wp2_with fail
 go_ret
 exact ⟨congrArg (fun b => Ending.returned (.bool b)) hle, rfl⟩
theorem upon_fop {P : Program} {o : Oper} {a : Act} {K : Act → World → Prop} {Q : Exit → Act → World → Prop} {w : World} {X Y : Nat} {t : TypeId} (op : BinOp) (hop : op = .add ∨ op = .sub ∨ op = .mul ∨ op = .quo)
  (h : ∀ r w1, FOp op X Y r → Drew w w1 → K (a.put o.dst (.float .f64 r)) w1) :
  Oper.upon P o a K Q (((binOp op t (.float .f64 X) (.float .f64 Y)).run P w).andThen fun v w' => Result.ok (Next.value v) w') := by
 obtain ⟨r, w1, hr, h1, h2⟩ := run_fop (P := P) op t X Y w hop
 rw [hr]
 exact h r w1 h1 h2
def FormR (x y : Nat) (r : Bool) : Prop := (fin x ∧ fin y ∧ ∃ s, FOp .add x y s ∧ r = (FloatKind.f64.format.order s x == some .eq)) ∨ (¬(fin x ∧ fin y) ∧ r = false)
theorem box_below (w : World) (o : Obj) (n : Nat) : Below w.heap.size w ((w.alloc o).drewN n) :=
 Drew.to_below ((Below.refl _ _).alloc (Nat.le_refl _) o) ⟨⟨n, rfl⟩⟩
set_option maxHeartbeats 1000000 in
theorem form_any (x y : Nat) (hx : x < 18446744073709551616) (hy : y < 18446744073709551616) (w : World) : Calls Tryd.prog 56 #[.agg #[.float .f64 x, .float .f64 y]] w fun e w' => ∃ r : Bool, e = .returned (.bool r) ∧ FormR x y r ∧ Below w.heap.size w w' := by
 have hI : INF = 9218868437227405312 := by decide
 go_enter Tryd.func56, Tryd.ntmps56
 go_wp2_with fail
 refine (finite_any x hx _).mono ?_
 rintro e w1 ⟨rfl, rfl⟩
 by_cases h1 : sz x ≤ 9218868437227405311
 ·rw [decide_eq_true h1]
  go_wp2_with fail
  refine (finite_any y hy _).mono ?_
  rintro e w2 ⟨rfl, rfl⟩
  by_cases h2 : sz y ≤ 9218868437227405311
  ·rw [decide_eq_true h2]
   have tok1 : True := trivial
   go_wp2_with (have _t := tok1; refine upon_fop .add (by simp) ?_; intro s w1 hs hd; obtain ⟨n, rfl⟩ := hd.out; clear tok1)
   go_ret
   exact ⟨_, rfl, Or.inl ⟨by unfold fin; omega, by unfold fin; omega, _, hs, rfl⟩, box_below _ _ _⟩
  ·rw [decide_eq_false h2]
   go_wp2_with fail
   go_ret
   exact ⟨_, rfl, Or.inr ⟨fun h => h2 (by have := h.2; unfold fin at this; omega), rfl⟩, box_below _ _ 0⟩
 ·rw [decide_eq_false h1]
  go_wp2_with fail
  go_ret
  exact ⟨_, rfl, Or.inr ⟨fun h => h1 (by have := h.1; unfold fin at this; omega), rfl⟩, box_below _ _ 0⟩
def FitR (x y : Nat) (e : Int) (r : Bool) : Prop := (-100 ≤ e ∧ e ≤ -56 ∧ 553942754166571008 ≤ sz x ∧ sz x ≤ 8660422083433463808 ∧ FormR x y r) ∨ (¬(-100 ≤ e ∧ e ≤ -56 ∧ 553942754166571008 ≤ sz x ∧ sz x ≤ 8660422083433463808) ∧ r = false)
def FitW (x y : Nat) (i : Int) (w : World) (e : Ending) (w' : World) : Prop := ∃ r : Bool, e = .returned (.bool r) ∧ FitR x y i r ∧ Below w.heap.size w w'
theorem or_beq {o a b : Option Ordering} : (o == a || o == b) = decide (o = a ∨ o = b) := by
 by_cases h1 : o = a
 ·subst h1; simp
 ·by_cases h2 : o = b
  ·subst h2; simp
  ·simp [h1, h2]
theorem fge {s c : Nat} (hs : s < 2^63) (hc : c < INF) : (FloatKind.f64.format.order s c = some .gt ∨ FloatKind.f64.format.order s c = some .eq) ↔ (c ≤ s ∧ s ≤ INF) := by
 have h := ge_abs hs hc
 rw [or_beq] at h
 exact decide_eq_decide.1 h
theorem fle {s c : Nat} (hs : s < 2^63) (hc : c < INF) : (FloatKind.f64.format.order s c = some .lt ∨ FloatKind.f64.format.order s c = some .eq) ↔ s ≤ c := by
 have h := le_abs hs hc
 rw [or_beq] at h
 exact decide_eq_decide.1 h
set_option maxHeartbeats 2000000 in
theorem fit_any (x y : Nat) (i : Int) (hx : x < 18446744073709551616) (hy : y < 18446744073709551616) (w : World) : Calls Tryd.prog 83 #[.agg #[.float .f64 x, .float .f64 y], .int .i64 i] w (FitW x y i w) := by
 have hI : INF = 9218868437227405312 := by decide
 have hge := fge (s := sz x) (c := 553942754166571008) (Nat.mod_lt _ (by decide)) (by decide)
 have hle := fle (s := sz x) (c := 8660422083433463808) (Nat.mod_lt _ (by decide)) (by decide)
 go_enter Tryd.func83, Tryd.ntmps83
 go_wp2_with fail
 refine (abs_any x hx _).mono ?_
 rintro e w1 ⟨rfl, rfl⟩
 by_cases c1 : -100 ≤ i
 ·by_cases c2 : i ≤ -56
  ·by_cases c3 : 553942754166571008 ≤ sz x ∧ sz x ≤ INF
   ·have g1 := hge.2 c3
    by_cases c4 : sz x ≤ 8660422083433463808
    ·have g2 := hle.2 c4
     clear hge hle
     go_wp2_with fail
     refine (form_any x y hx hy _).mono ?_
     rintro e w2 ⟨r, rfl, hr, hb⟩
     go_wp2_with fail
     go_ret
     exact ⟨_, rfl, Or.inl ⟨c1, c2, c3.1, c4, (by rw [or_beq, or_beq, decide_eq_true g1, decide_eq_true g2]; exact hr)⟩, (box_below _ _ 0).trans (hb.mono (box_below _ _ 0).size)⟩
    ·have g2 := fun h => c4 (hle.1 h)
     clear hge hle
     go_wp2_with fail
     go_ret
     exact ⟨_, rfl, Or.inr ⟨fun h => c4 h.2.2.2, rfl⟩, box_below _ _ 0⟩
   ·have g1 := fun h => c3 (hge.1 h)
    clear hge hle
    go_wp2_with fail
    go_ret
    exact ⟨_, rfl, Or.inr ⟨fun h => c3 ⟨h.2.2.1, by omega⟩, rfl⟩, box_below _ _ 0⟩
  ·clear hge hle
   go_wp2_with fail
   go_ret
   exact ⟨_, rfl, Or.inr ⟨fun h => (by omega), rfl⟩, box_below _ _ 0⟩
 ·clear hge hle
  go_wp2_with fail
  go_ret
  exact ⟨_, rfl, Or.inr ⟨fun h => (by omega), rfl⟩, box_below _ _ 0⟩
end Go.Proofs.YtelfmddcjlocpaaDoor.AccW
end
section
namespace Go.Proofs.YtelfmddcjlocpaaDoor.AccW
open Go.RowKit Go.Proofs.YtelfmddcjlocpaaDoor.FW Go.Proofs.YtelfmddcjlocpaaDoor.Eft Fl
theorem o1 : FloatKind.f64.format.order 4609434218613702656 0 = some .gt := by kernel_rfl
theorem o2 : FloatKind.f64.format.order 4609434218613702656 9218868437227405311 = some .lt := by kernel_rfl
theorem o3 : FloatKind.f64.format.order 4609434218613702656 18442240474082181119 = some .gt := by kernel_rfl
theorem o4 : FloatKind.f64.format.order 4609434218613702656 4609434218613702656 = some .eq := by kernel_rfl
theorem o5 : FloatKind.f64.format.order 4609434218613702656 4503599627370496 = some .gt := by kernel_rfl
theorem sz15 : sz 4609434218613702656 = 4609434218613702656 := by decide
set_option maxRecDepth 20000 in
theorem isinf_any (w : World) : Calls Tryd.prog 122 #[.float .f64 4609434218613702656, .int .i64 0] w fun e w' => e = .returned (.bool false) ∧ w = w' := by
 have h2 := o2
 have h3 := o3
 go_enter Tryd.func122, Tryd.ntmps122
 go_wp2_with fail
 refine (abs_any 4609434218613702656 (by decide) _).mono ?_
 rintro e w1 ⟨rfl, rfl⟩
 rw [sz15]
 go_wp2_with fail
 go_ret
 exact ⟨rfl, rfl⟩
theorem isnan_any (w : World) : Calls Tryd.prog 123 #[.float .f64 4609434218613702656] w fun e w' => e = .returned (.bool false) ∧ w = w' := by
 have h4 := o4
 go_enter Tryd.func123, Tryd.ntmps123
 go_wp2
 go_ret
 exact ⟨rfl, rfl⟩
theorem norm_any (w : World) : Calls Tryd.prog 124 #[.float .f64 4609434218613702656] w fun e w' => e = .returned (.tuple #[.float .f64 4609434218613702656, .int .i64 0]) ∧ w = w' := by
 have h5 := o5
 go_enter Tryd.func124, Tryd.ntmps124
 go_wp2_with fail
 refine (abs_any 4609434218613702656 (by decide) _).mono ?_
 rintro e w1 ⟨rfl, rfl⟩
 rw [sz15]
 go_wp2_with fail
 go_ret2
 exact ⟨rfl, rfl⟩
theorem hiw (i : Int) (c1 : -100 ≤ i) (c2 : i ≤ -56) : wrap64 (i + wrap64 (bits BinOp.and IntKind.i64 1023 2047 - 1023)) = i := by
 have e : bits BinOp.and IntKind.i64 1023 2047 = 1023 := by kernel_rfl
 rw [e]; unfold wrap64; omega
theorem or52 (n : Nat) : 2251799813685248 ||| (n * 4503599627370496) = n * 4503599627370496 + 2251799813685248 := by
 have := Nat.two_pow_add_eq_or_of_lt (i := 52) (b := 2251799813685248) (by decide) n
 rw [Nat.or_comm, Nat.mul_comm]
 exact this.symm
theorem hor (i : Int) (c1 : -100 ≤ i) (c2 : i ≤ -56) : bits BinOp.or IntKind.u64 (bits BinOp.andNot IntKind.u64 4609434218613702656 9218868437227405312) ((i + 1023) * 4503599627370496) = (i + 1023) * 4503599627370496 + 2251799813685248 := by
 have e : bits BinOp.andNot IntKind.u64 4609434218613702656 9218868437227405312 = 2251799813685248 := by kernel_rfl
 obtain ⟨n, hn⟩ : ∃ n : Nat, i + 1023 = (n : Int) := ⟨(i + 1023).toNat, by omega⟩
 have e2 : ((n : Int)) * 4503599627370496 = ((n * 4503599627370496 : Nat) : Int) := by omega
 rw [e, hn, e2]
 have h := u64_or_nat 2251799813685248 (n * 4503599627370496) (by decide) (by omega)
 rw [or52 n] at h
 exact h
set_option maxHeartbeats 2000000 in
theorem ldexp_any (i : Int) (c1 : -100 ≤ i) (c2 : i ≤ -56) (w : World) : Calls Tryd.prog 110 #[.float .f64 4609434218613702656, .int .i64 i] w fun e w' => ∃ r, e = .returned (.float .f64 r) ∧ FOp .mul 4607182418800017408 ((i + 1023) * 4503599627370496 + 2251799813685248).toNat r ∧ Drew w w' := by
 have h1 := o1
 have hf := call_from
 have hb := call_bits
 have hi := hiw i c1 c2
 have ho := hor i c1 c2
 have d1 : ¬ i < -1075 := by omega
 have d2 : ¬ 1023 < i := by omega
 have d3 : ¬ i < -1022 := by omega
 go_enter Tryd.func110, Tryd.ntmps110
 go_wp2_with fail
 refine (isinf_any _).mono ?_
 rintro e w1 ⟨rfl, rfl⟩
 go_wp2_with fail
 refine (isnan_any _).mono ?_
 rintro e w1 ⟨rfl, rfl⟩
 go_wp2_with fail
 refine (norm_any _).mono ?_
 rintro e w1 ⟨rfl, rfl⟩
 have tok1 : True := trivial
 go_wp2_with (have _t := tok1; refine wpList_fop .mul (by simp) rfl rfl rfl rfl ?_; intro r1 w1 h1 d1; clear tok1)
 go_ret
 exact ⟨_, rfl, h1, d1⟩
end Go.Proofs.YtelfmddcjlocpaaDoor.AccW
end
