/- What round.Narrow answers is what the document's Narrow answers. Plain Lean over the functions. Condition: words. The reference's digits of words. Plain Lean over the printed functions. Condition: at most 8192 words. What round.Nearest answers is what the document's Nearest answers. Plain Lean over the functions. Condition: words. (roots) The reference's search for the nearest size (layer 8's document): plain Lean over the functions. Conditions: formats; a positive quotient of bounded numbers. nat.DivWord on naturals of any length. Conditions: at most 8192 limbs; the divisor not nought. natmul's rows: the school product, limb by limb. Conditions: rows of at most 16384 limbs. -/
import Derived.Test.YtelfmddcjlocpaaGreatDoorKRoundQuotedSz
import Derived.Test.YtelfmddcjlocpaaGreatDoorKRoundQuotedSq
import Derived.Test.YtelfmddcjlocpaaGreatDoorKRoundQuotedPRefx0
import Derived.Test.YtelfmddcjlocpaaGreatDoorKRoundQuotedPRfzx0
import Derived.Test.YtelfmddcjlocpaaGreatDoorKRoundQuotedPxL1
import Derived.Test.YtelfmddcjlocpaaGreatDoorKRoundQuotedRefA
import Derived.Test.YtelfmddcjlocpaaGreatDoorKRoundQuotedGivenD
import Derived.Test.YtelfmddcjlocpaaGreatDoorKRoundQuotedRp1
import Derived.Test.YtelfmddcjlocpaaGreatDoorKRoundQuotedPRefx4
import Derived.Test.YtelfmddcjlocpaaGreatDoorKRoundQuotedPxL0
import Derived.Test.YtelfmddcjlocpaaGreatDoorKRoundQuotedRefH
import Derived.Test.YtelfmddcjlocpaaGreatDoorKRoundQuotedPxTz
import Derived.OwnWalk
import Derived.Lib.Mul64
import Derived.Laws.Bits64b
import Derived.WalkKit
section
set_option linter.unusedVariables false
namespace Go.Proofs.YtelfmddcjlocpaaGreatDoor.RnL
open Go.RowKit Go.Proofs.YtelfmddcjlocpaaGreatDoorW.PrintWords Go.Proofs.YtelfmddcjlocpaaGreatDoorW.PrintMore Go.Proofs.YtelfmddcjlocpaaGreatDoor.Num Go.Proofs.YtelfmddcjlocpaaGreatDoor.PLib Go.Proofs.YtelfmddcjlocpaaGreatDoor.PRef Go.Proofs.YtelfmddcjlocpaaGreatDoor.Ref Go.Proofs.YtelfmddcjlocpaaGreatDoor.GTh Go.Proofs.YtelfmddcjlocpaaGreatDoor.Given Go.Proofs.YtelfmddcjlocpaaGreatDoor.Rp1 Go.Proofs.YtelfmddcjlocpaaGreatDoor.Rp3 Go.Proofs.YtelfmddcjlocpaaGreatDoor.Rp4 Go.Proofs.YtelfmddcjlocpaaGreatDoor.Rp5 Go.Proofs.YtelfmddcjlocpaaGreatDoor.Rp7 Go.Proofs.YtelfmddcjlocpaaGreatDoor.BinLaw Go.Proofs.YtelfmddcjlocpaaGreatDoor.Fm8 Go.Proofs.YtelfmddcjlocpaaGreatDoor.Rnd Go.Proofs.YtelfmddcjlocpaaGreatDoor.Sq Go.Proofs.YtelfmddcjlocpaaGreatDoor.Sz
theorem tS : Fm 32 fS := .inl ⟨rfl, rfl⟩
theorem tD : Fm 64 fD := .inr ⟨rfl, rfl⟩
theorem rn_ev {α : Type} {o : Option α} {v : α} (h : o = some v) : Ev (fun _ => o) v := by rw [h]; exact Ev.now _
theorem rn_of {f : Int} {F : Fmt} (h : Fm f F) : ∃ G : Int, gnomonref07_Of.f f = some (((F.sg : Nat) : Int), ((F.man : Nat) : Int), F.low, G, ((F.inf : Nat) : Int), ((F.qt : Nat) : Int), true) := by
 rcases h with ⟨rfl, rfl⟩ | ⟨rfl, rfl⟩
 ·exact ⟨104, rfl⟩
 ·exact ⟨971, rfl⟩
theorem rn_signed {f : Int} {F : Fmt} (h : Fm f F) (n : Bool) {s : Nat} (hs : s ≤ F.inf) (P E G I Q : Int) : gnomonref08_signed.f ((F.sg : Nat) : Int) P E G I Q n (s : Int) = some ((pat F n s : Nat) : Int) := by
 have hz := h.sz
 unfold gnomonref08_signed.f pat
 cases n
 ·rw [if_neg (by decide), if_neg (by decide)]
 ·rw [if_pos rfl, if_pos rfl, wu64 (by omega) (by omega)]; rfl
end Go.Proofs.YtelfmddcjlocpaaGreatDoor.RnL
end
section
namespace Go.Proofs.YtelfmddcjlocpaaGreatDoor.Ref
open Go.RowKit Go.Proofs.YtelfmddcjlocpaaGreatDoorW.PrintWords Go.Proofs.YtelfmddcjlocpaaGreatDoorW.PrintMore Go.Proofs.YtelfmddcjlocpaaGreatDoor.Num Go.Proofs.YtelfmddcjlocpaaGreatDoor.PLib Go.Proofs.YtelfmddcjlocpaaGreatDoor.PRef Go.Proofs.YtelfmddcjlocpaaGreatDoor.GTh Go.Proofs.YtelfmddcjlocpaaGreatDoor.Given
theorem from_l0 (m : Nat) (hm : nl m ≤ 8192) (d : Nat) : ∀ (i : Nat) (s : List Int), nl m - i = d → i ≤ nl m → Dg s → s.length = 2 * i → vl s = m % pw i → Ev (fun k => gnomonref01_From.l0 k (lb m) s (i : Int)) (dg m) := by
 induction d with
 | zero =>
  intro i s h1 h2 h3 h4 h5
  have e : i = nl m := by omega
  subst e
  rw [Nat.mod_eq_of_lt (nl_lt m)] at h5
  refine Ev.step (fun k => by rw [gnomonref01_From.l0, if_neg (by rw [lb_len]; omega)]) (Ev.bind (norm_to h3 (by omega) h5) (Ev.now _))
 | succ d ih =>
  intro i s h1 h2 h3 h4 h5
  have hi : i < nl m := by omega
  have r := Rp1.lb_rd hi
  have hx := dw_lt m i
  obtain ⟨x, ex⟩ : ∃ x, x = dw m i := ⟨_, rfl⟩
  rw [← ex] at r hx
  have e1 : Go.bits .and .u64 (x : Int) 4294967295 % 4294967296 = ((x % 4294967296 : Nat) : Int) := by rw [mask32 (by omega) (by omega)]; omega
  have e2 : (x : Int) / 4294967296 % 4294967296 = ((x / 4294967296 : Nat) : Int) := by omega
  have pb : pw i = B^(2 * i) := by rw [pw_B]; unfold pw; congr 1; omega
  have nx := ih (i + 1) (s ++ [((x % 4294967296 : Nat) : Int), ((x / 4294967296 : Nat) : Int)]) (by omega) hi
   (h3.append (Dg.cons (by omega) (by omega) (Dg.cons (by omega) (by omega) Dg.nil)))
   (by rw [List.length_append, h4]; show 2 * i + 2 = 2 * (i + 1); omega)
   (by
    rw [vl_append, h4, h5, mod_succ, ← ex, ← pb]
    congr 2
    show ((x % 4294967296 : Nat) : Int).toNat + B * (((x / 4294967296 : Nat) : Int).toNat + B * 0) = x
    rw [B_eq, Int.toNat_natCast, Int.toNat_natCast]
    omega)
  refine Ev.step (f := fun k => gnomonref01_From.l0 k (lb m) (s ++ [((x % 4294967296 : Nat) : Int), ((x / 4294967296 : Nat) : Int)]) ((i + 1 : Nat) : Int)) (fun k => ?_) nx
  rw [gnomonref01_From.l0, if_pos (by rw [lb_len]; omega), if_pos (by omega), r, e1, e2]
  rw [Option.bind_some, if_pos (by rw [h4]; show 2 * i + 2 < 35184372088832; omega), w64 (by omega) (by omega), show (i : Int) + 1 = ((i + 1 : Nat) : Int) by omega]
theorem from_ev (m : Nat) (hm : nl m ≤ 8192) : Ev (fun k => gnomonref01_From.f k (lb m)) (dg m) := by
 have h := from_l0 m hm (nl m) 0 [] (by omega) (Nat.zero_le _) Dg.nil rfl (by rw [pw_zero, Nat.mod_one]; rfl)
 have e : wrap64 (2 * ((lb m).length : Int)) = 2 * ((lb m).length : Int) := by rw [lb_len]; exact w64 (by omega) (by omega)
 unfold gnomonref01_From.f
 rw [e]
 refine Ev.congr (fun k => if_pos (by omega)) (Ev.congr (fun k => if_pos (by rw [lb_len]; omega)) h)
end Go.Proofs.YtelfmddcjlocpaaGreatDoor.Ref
end
section
set_option linter.unusedVariables false
namespace Go.Proofs.YtelfmddcjlocpaaGreatDoor.RnN
open Go.RowKit Go.Proofs.YtelfmddcjlocpaaGreatDoorW.PrintWords Go.Proofs.YtelfmddcjlocpaaGreatDoorW.PrintMore Go.Proofs.YtelfmddcjlocpaaGreatDoor.Num Go.Proofs.YtelfmddcjlocpaaGreatDoor.PLib Go.Proofs.YtelfmddcjlocpaaGreatDoor.PRef Go.Proofs.YtelfmddcjlocpaaGreatDoor.Ref Go.Proofs.YtelfmddcjlocpaaGreatDoor.GTh Go.Proofs.YtelfmddcjlocpaaGreatDoor.Given Go.Proofs.YtelfmddcjlocpaaGreatDoor.Rp1 Go.Proofs.YtelfmddcjlocpaaGreatDoor.Rp3 Go.Proofs.YtelfmddcjlocpaaGreatDoor.Rp4 Go.Proofs.YtelfmddcjlocpaaGreatDoor.Rp5 Go.Proofs.YtelfmddcjlocpaaGreatDoor.Rp7 Go.Proofs.YtelfmddcjlocpaaGreatDoor.BinLaw Go.Proofs.YtelfmddcjlocpaaGreatDoor.Fm8 Go.Proofs.YtelfmddcjlocpaaGreatDoor.Rnd Go.Proofs.YtelfmddcjlocpaaGreatDoor.Sq Go.Proofs.YtelfmddcjlocpaaGreatDoor.Sz Go.Proofs.YtelfmddcjlocpaaGreatDoor.RnL
theorem rn_no {f : Int} (h : f ≠ 32) (h' : f ≠ 64) : gnomonref07_Of.f f = some (0, 0, 0, 0, 0, 0, false) := by
 unfold gnomonref07_Of.f
 rw [if_neg h, if_neg h']
end Go.Proofs.YtelfmddcjlocpaaGreatDoor.RnN
end
section
set_option linter.unusedVariables false
namespace Go.Proofs.YtelfmddcjlocpaaGreatDoor.SzR
open Go.RowKit Go.Proofs.YtelfmddcjlocpaaGreatDoorW.PrintWords Go.Proofs.YtelfmddcjlocpaaGreatDoorW.PrintMore Go.Proofs.YtelfmddcjlocpaaGreatDoor.Num Go.Proofs.YtelfmddcjlocpaaGreatDoor.PLib Go.Proofs.YtelfmddcjlocpaaGreatDoor.PRef Go.Proofs.YtelfmddcjlocpaaGreatDoor.Ref Go.Proofs.YtelfmddcjlocpaaGreatDoor.GTh Go.Proofs.YtelfmddcjlocpaaGreatDoor.Given Go.Proofs.YtelfmddcjlocpaaGreatDoor.Rp1 Go.Proofs.YtelfmddcjlocpaaGreatDoor.Rp3 Go.Proofs.YtelfmddcjlocpaaGreatDoor.Rp4 Go.Proofs.YtelfmddcjlocpaaGreatDoor.Rp5 Go.Proofs.YtelfmddcjlocpaaGreatDoor.Rp7 Go.Proofs.YtelfmddcjlocpaaGreatDoor.BinLaw Go.Proofs.YtelfmddcjlocpaaGreatDoor.Fm8 Go.Proofs.YtelfmddcjlocpaaGreatDoor.Rnd Go.Proofs.YtelfmddcjlocpaaGreatDoor.Sq Go.Proofs.YtelfmddcjlocpaaGreatDoor.Sz
section
variable {f : Int} {F : Fmt} {A B : Nat} {e E : Int}
def qd2 (F : Fmt) (B : Nat) (E : Int) : Nat := B * (2^(F.low - E).toNat * 2^(F.low - E).toNat)
end
end Go.Proofs.YtelfmddcjlocpaaGreatDoor.SzR
end
section
namespace Go.Proofs.YtelfmddcjlocpaaGreatDoor.GM
open Go.RowKit Go.Proofs.YtelfmddcjlocpaaGreatDoorW.PrintWords Go.Proofs.YtelfmddcjlocpaaGreatDoorW.PrintMore Go.Proofs.YtelfmddcjlocpaaGreatDoorW.PrintLast Go.Proofs.YtelfmddcjlocpaaGreatDoor.Num Go.Proofs.YtelfmddcjlocpaaGreatDoor.Ref Go.Proofs.YtelfmddcjlocpaaGreatDoor.GBase Go.Proofs.YtelfmddcjlocpaaGreatDoor.GTh Go.Proofs.YtelfmddcjlocpaaGreatDoor.GA Go.Proofs.YtelfmddcjlocpaaGreatDoor.GB Go.Proofs.YtelfmddcjlocpaaGreatDoor.GC
def DivC (y : Nat) : Prop := ∀ (hi lo : Nat) (w : World), GTab.Tab w → hi < y → lo < 18446744073709551616 → Calls Tryz.prog 122 #[.int .u64 (hi : Int), .int .u64 (lo : Int), .int .u64 (y : Int)] w fun e w' =>
 e = .returned (.tuple #[.int .u64 (((hi * 18446744073709551616 + lo) / y : Nat) : Int), .int .u64 (((hi * 18446744073709551616 + lo) % y : Nat) : Int)]) ∧ Below w.heap.size w w'
theorem div_step {a y j S r q r' : Nat} (h1 : S = a / pw (j + 1) / y * pw (j + 1)) (h2 : r = a / pw (j + 1) % y)
  (hq : q = (r * 18446744073709551616 + dw a j) / y) (hr : r' = (r * 18446744073709551616 + dw a j) % y) (y0 : y ≠ 0) :
  S + q * pw j = a / pw j / y * pw j ∧ r' = a / pw j % y ∧ r < y ∧ q < 18446744073709551616 ∧ dw S j = 0 := by
 have hp : 0 < y := Nat.pos_of_ne_zero y0
 have ea : a / pw j = a / pw (j + 1) * 18446744073709551616 + dw a j := by
  unfold dw
  rw [pw_succ, ← Nat.div_div_eq_div_mul]
  have := Nat.div_add_mod (a / pw j) 18446744073709551616
  omega
 have hlt : r < y := by rw [h2]; exact Nat.mod_lt _ hp
 have hd := dw_lt a j
 have h := Nat.div_add_mod (a / pw (j + 1)) y
 obtain ⟨X, hX⟩ : ∃ X, X = a / pw (j + 1) := ⟨_, rfl⟩
 obtain ⟨T, hT⟩ : ∃ T, T = X / y := ⟨_, rfl⟩
 rw [← hX] at h h1 h2 ea
 rw [← hT] at h h1
 rw [← h2] at h
 have e2 : a / pw j = (r * 18446744073709551616 + dw a j) + T * 18446744073709551616 * y := by
  rw [ea, ← h, Nat.mul_comm y T, Nat.add_mul, Nat.mul_right_comm T y]
  omega
 have e3 : a / pw j / y = q + T * 18446744073709551616 := by rw [e2, Nat.add_mul_div_right _ _ hp, hq]
 refine ⟨?_, ?_, hlt, ?_, ?_⟩
 ·rw [e3, h1, pw_succ, Nat.add_mul]
  have : T * (pw j * 18446744073709551616) = T * 18446744073709551616 * pw j := by rw [Nat.mul_right_comm T, Nat.mul_assoc]
  omega
 ·rw [e2, Nat.add_mul_mod_self_right, hr]
 ·rw [hq, Nat.div_lt_iff_lt_mul hp]
  have := Nat.mul_le_mul_right 18446744073709551616 (show r + 1 ≤ y by omega)
  rw [Nat.mul_comm]
  omega
 ·unfold dw
  rw [h1, pw_succ, show T * (pw j * 18446744073709551616) = pw j * (18446744073709551616 * T) by ac_rfl, Nat.mul_div_cancel_left _ (by unfold pw; exact Nat.two_pow_pos _)]
  omega
set_option maxRecDepth 100000 in
set_option maxHeartbeats 400000 in
theorem divWord_any (w : World) (A : Option Addr) (ca a y : Nat) (hA : Nt w A ca a) (la : nl a ≤ 8192) (y0 : y ≠ 0) (HD : DivC y) (hT : GTab.Tab w) : Calls Tryz.prog 77 #[.slice A (nl a) ca, .int .u64 (y : Int)] w fun e w' => ∃ v, e = .returned (.tuple #[v, .int .u64 ((a % y : Nat) : Int), .int .i64 0]) ∧ Ans w w' v (a / y) := by
 have FA := Lib.hid (form_any w A ca a hA la)
 have RA := Lib.hid hA
 generalize hn : nl a = n at *
 have HL := Lib.hid (And.intro hn (And.intro la y0))
 have q0 : ((y : Int) == 0) = false := by rw [beq_eq_false_iff_ne]; omega
 have q2 : IntKind.i64.wrap ((n : Int) - 1) = (n : Int) - 1 := by rw [IntWalk.i64_in _ (by omega)]
 have q3 : wrap64 ((n : Int) - 1) = (n : Int) - 1 := w64 (by omega) (by omega)
 have hbig : n < 1099511627776 := by omega
 have HDh := Lib.hid HD
 have TT := Lib.hid hT
 clear hA la hn y0 HD hT
 go_enter Tryz.func77, Tryz.ntmps77
 go_wp2_with fail
 refine FA.out.mono ?_
 rintro e w1 ⟨rfl, rfl⟩
 go_wp2_with (rw [make_row _ hbig]; go_simp)
 have O0 := Lib.hid (Own.made w1 n)
 go_loopg [8, 9] (n + 1) (fun g lv i wr => ∃ j S r : Nat, j ≤ n ∧ g = j + 1 ∧ i = .int .i64 ((j : Int) - 1) ∧ lv = .int .u64 (r : Int) ∧ S = a / pw j / y * pw j ∧ r = a / pw j % y ∧ Own w1 wr w1.heap.size n S)
 case atStart =>
  have z : a / pw n = 0 := Nat.div_eq_of_lt (nl_le_iff.1 (Nat.le_of_eq HL.out.1))
  exact ⟨n, 0, 0, Nat.le_refl _, rfl, rfl, rfl, by rw [z, Nat.zero_div, Nat.zero_mul], by rw [z, Nat.zero_mod], O0.out⟩
 case round =>
  obtain ⟨j, S, r, hj, rfl, rfl, rfl, e1, e2, ho⟩ := hrel
  have O := Lib.hid ho
  clear ho O0
  rcases Nat.eq_zero_or_pos j with c0 | c0
  ·subst c0
   have l1 : decide ((((0 : Nat) : Int) - 1) ≥ 0) = false := by decide
   have l2 : decide ((0 : Int) ≤ ((0 : Nat) : Int) - 1) = false := by decide
   rw [pw_zero, Nat.div_one, Nat.mul_one] at e1
   rw [pw_zero, Nat.div_one] at e2
   have hq : a / y < pw n := Nat.lt_of_le_of_lt (Nat.div_le_self a y) (nl_le_iff.1 (Nat.le_of_eq HL.out.1))
   rw [e1] at O
   rw [e2]
   have R := Lib.hid (Rw.mk (A := some ⟨w1.heap.size, 0, none⟩) (c := n) (Nat.le_refl _) (.inr ⟨_, _, rfl, O.out.at hq⟩))
   have HT := Lib.hid (told_any _ _ _ _ _ R.out hbig (Nat.le_trans (nl_mono (Nat.div_le_self a y)) (by rw [HL.out.1]; exact HL.out.2.1)))
   have NN := Lib.hid (And.intro (nl_le_iff.2 hq) hbig)
   clear hq e1 e2
   go_wp2_with fail
   refine HT.out.mono ?_
   rintro e w5 ⟨rfl, rfl⟩
   go_wp2_with fail
   go_ret3
   exact ⟨_, rfl, ⟨_, _, rfl, O.out, NN.out.1, NN.out.2⟩⟩
  ·obtain ⟨i, rfl⟩ : ∃ i, j = i + 1 := ⟨j - 1, by omega⟩
   have l0 : (((i + 1 : Nat) : Int) - 1) = (i : Int) := by omega
   rw [l0]
   have l1 : decide ((i : Int) ≥ 0) = true := decide_eq_true (by omega)
   have l2 : decide ((0 : Int) ≤ (i : Int)) = true := decide_eq_true (by omega)
   have l3 : (i : Int) < (n : Int) := by omega
   have l4 : i < n := by omega
   have l5 : IntKind.i64.wrap ((i : Int) - 1) = (i : Int) - 1 := by rw [IntWalk.i64_in _ (by have := HL.out.2.1; omega)]
   have l6 : wrap64 ((i : Int) - 1) = (i : Int) - 1 := w64 (by omega) (by have := HL.out.2.1; omega)
   have rA := RA.out.next O.out.below
   have iA : nl a = n := HL.out.1
   rcases rA.row with ⟨_, e, _⟩ | ⟨G, o, rfl, qA⟩
   ·omega
   have za := qA.cell i (by omega)
   have zs := O.out.cell (j := i) l4
   have fs := O.out.frozen (j := i)
   obtain ⟨d1, d2, d3, d4, d5⟩ := div_step (j := i) e1 e2 rfl rfl HL.out.2.2
   have CD := Lib.hid (fun (w : World) (h : GTab.Tab w) => HDh.out r (dw a i) w h d3 (dw_lt a i))
   generalize (r * 18446744073709551616 + dw a i) / y = q at *
   generalize (r * 18446744073709551616 + dw a i) % y = r' at *
   have ST := Lib.hid (And.intro d1 (And.intro d2 (And.intro d4 d5)))
   have HJ := Lib.hid hj
   generalize hz1 : dw a i = x1 at *
   generalize hz2 : dw S i = x2 at *
   clear e1 e2 rA iA qA d1 d2 d3 d4 d5 hj c0
   go_wp2_with fail
   refine (CD.out _ (TT.out.next O.out.below)).mono ?_
   rintro e w5 ⟨rfl, hb⟩
   have O1 := Lib.hid (O.out.next hb)
   have zs1 := O1.out.cell (j := i) l4
   have fs1 := O1.out.frozen (j := i)
   rw [hz2] at zs1
   have O2 := Lib.hid (O1.out.put (i := i) (d := q) (y := S + q * pw i) ST.out.2.2.1 (by rw [hz2, ST.out.2.2.2, Nat.zero_mul, Nat.add_zero]))
   clear hb
   go_wp2_with fail
   go_roundg (i + 1)
   case measure => omega
   case rel => exact ⟨i, _, r', by omega, rfl, by go_num, rfl, ST.out.1, ST.out.2.1, O2.out⟩
end Go.Proofs.YtelfmddcjlocpaaGreatDoor.GM
end
section
set_option linter.unusedVariables false
namespace Go.Proofs.YtelfmddcjlocpaaGreatDoor.GN
open Go.RowKit Go.Proofs.YtelfmddcjlocpaaGreatDoorW.PrintWords Go.Proofs.YtelfmddcjlocpaaGreatDoorW.PrintMore Go.Proofs.YtelfmddcjlocpaaGreatDoorW.PrintLast Go.Proofs.YtelfmddcjlocpaaGreatDoor.Num Go.Proofs.YtelfmddcjlocpaaGreatDoor.Ref Go.Proofs.YtelfmddcjlocpaaGreatDoor.GBase Go.Proofs.YtelfmddcjlocpaaGreatDoor.GTh Go.Proofs.YtelfmddcjlocpaaGreatDoor.GA Go.Proofs.YtelfmddcjlocpaaGreatDoor.GB Go.Proofs.YtelfmddcjlocpaaGreatDoor.GC
theorem limb_step {x y z c : Nat} (hx : x < 18446744073709551616) (hy : y < 18446744073709551616) (hz : z < 18446744073709551616) (hc : c < 18446744073709551616) :
  let lo := x * y % 18446744073709551616; let hi := x * y / 18446744073709551616
  let lo1 := (lo + c) % 18446744073709551616; let c1 := (lo + c) / 18446744073709551616
  let d := (z + lo1) % 18446744073709551616; let c2 := (z + lo1) / 18446744073709551616
  hi + c1 < 18446744073709551616 ∧ hi + c1 + c2 < 18446744073709551616 ∧ d + (hi + c1 + c2) * 18446744073709551616 = z + c + x * y ∧ c1 ≤ 1 ∧ c2 ≤ 1 := by
 have h := Nat.mul_le_mul (show x ≤ 18446744073709551615 by omega) (show y ≤ 18446744073709551615 by omega)
 generalize x * y = p at *
 refine ⟨?_, ?_, ?_, ?_, ?_⟩ <;> omega
theorem row_step {T S a i j c d c' bj : Nat} (h1 : T + c * pw (i + j) = S + a % pw i * bj * pw j) (h2 : T / pw (i + j) = S / pw (i + j))
  (hd : d + c' * 18446744073709551616 = dw T (i + j) + c + dw a i * bj) (hdl : d < 18446744073709551616) :
  ∃ T', T + d * pw (i + j) = T' + dw T (i + j) * pw (i + j) ∧ T' + c' * pw (i + 1 + j) = S + a % pw (i + 1) * bj * pw j ∧ T' / pw (i + 1 + j) = S / pw (i + 1 + j) := by
 have hp := pw_pos (i + j)
 have e0 : pw (i + 1 + j) = pw (i + j) * 18446744073709551616 := by rw [show i + 1 + j = i + j + 1 by omega, pw_succ]
 have hm := Nat.div_add_mod T (pw (i + j))
 have hq := Nat.div_add_mod (T / pw (i + j)) 18446744073709551616
 have hz : dw T (i + j) = T / pw (i + j) % 18446744073709551616 := rfl
 have hr := Nat.mod_lt T hp
 have hab : pw (i + j) = pw i * pw j := by rw [pw_add]
 obtain ⟨P, hP⟩ : ∃ P, P = pw (i + j) := ⟨_, rfl⟩
 obtain ⟨H, hH⟩ : ∃ H, H = T / pw (i + j) / 18446744073709551616 := ⟨_, rfl⟩
 obtain ⟨z, hz'⟩ : ∃ z, z = dw T (i + j) := ⟨_, rfl⟩
 obtain ⟨R, hR⟩ : ∃ R, R = T % pw (i + j) := ⟨_, rfl⟩
 rw [← hH, ← hz, ← hz'] at hq
 rw [← hz'] at hd ⊢
 rw [← hR] at hm hr
 rw [← hq] at hm
 rw [← hP] at hm hr h1 e0 ⊢
 have eT : T = H * (P * 18446744073709551616) + z * P + R := by
  rw [← hm, Nat.mul_add]
  have a1 : P * (18446744073709551616 * H) = H * (P * 18446744073709551616) := by ac_rfl
  have a2 : P * z = z * P := Nat.mul_comm _ _
  omega
 refine ⟨H * (P * 18446744073709551616) + d * P + R, by omega, ?_, ?_⟩
 ·have k : (d + c' * 18446744073709551616) * P = (z + c + dw a i * bj) * P := by rw [hd]
  rw [Nat.add_mul, Nat.add_mul, Nat.add_mul] at k
  rw [e0, mod_succ, Nat.add_mul, Nat.add_mul]
  have a1 : c' * (P * 18446744073709551616) = c' * 18446744073709551616 * P := by ac_rfl
  have a2 : pw i * dw a i * bj * pw j = dw a i * bj * P := by rw [hP, hab]; ac_rfl
  rw [a1, a2]
  omega
 ·rw [e0, ← Nat.div_div_eq_div_mul S, hP, ← h2, ← hH, ← hP]
  have l : d * P + R < P * 18446744073709551616 := by
   have := Nat.mul_le_mul_right P (show d + 1 ≤ 18446744073709551616 by omega)
   rw [Nat.add_mul, Nat.one_mul] at this
   rw [Nat.mul_comm P]
   omega
  rw [Nat.add_assoc, Nat.mul_comm H, Nat.mul_add_div (by omega), Nat.div_eq_of_lt l, Nat.add_zero]
namespace M
theorem maskN (a : Nat) (ha : a < 18446744073709551616) : bits .and .u64 (a : Int) 4294967295 = ((a % 4294967296 : Nat) : Int) := by
 have h := bits_and_u64_nat a 4294967295 ha (by omega)
 have e : a &&& 4294967295 = a % 4294967296 := Nat.and_two_pow_sub_one_eq_mod a 32
 rw [e] at h
 exact h
theorem divN (a : Nat) : (a : Int) / 4294967296 = ((a / 4294967296 : Nat) : Int) := by omega
theorem mulN (a b : Nat) : (a : Int) * (b : Int) = ((a * b : Nat) : Int) := (Int.natCast_mul a b).symm
theorem addN (a b : Nat) : (a : Int) + (b : Int) = ((a + b : Nat) : Int) := (Int.natCast_add a b).symm
theorem wrapN (a : Nat) (ha : a < 18446744073709551616) : IntKind.u64.wrap (a : Int) = (a : Int) := by rw [IntKind.wrap_u64]; omega
theorem wrapM (a : Nat) : IntKind.u64.wrap (a : Int) = ((a % 18446744073709551616 : Nat) : Int) := by rw [IntKind.wrap_u64]; omega
end M
set_option maxHeartbeats 1000000 in
theorem mul64_any (x y : Nat) (hx : x < 18446744073709551616) (hy : y < 18446744073709551616) (w : World) :
  Calls Tryz.prog 156 #[.int .u64 (x : Int), .int .u64 (y : Int)] w fun e w' => e = .returned (.tuple #[.int .u64 ((x * y / 18446744073709551616 : Nat) : Int), .int .u64 ((x * y % 18446744073709551616 : Nat) : Int)]) ∧ w' = w := by
 obtain ⟨bd, bt, bw, hhi⟩ := Lib.mul64_hi x y hx hy
 have ba := Lib.half_mul_le (a := x / 4294967296) (b := y / 4294967296) (by omega) (by omega)
 have bb := Lib.half_mul_le (a := x / 4294967296) (b := y % 4294967296) (by omega) (by omega)
 have bc := Lib.half_mul_le (a := x % 4294967296) (b := y / 4294967296) (by omega) (by omega)
 have ba' : x / 4294967296 * (y / 4294967296) < 18446744073709551616 := by omega
 have bb' : x / 4294967296 * (y % 4294967296) < 18446744073709551616 := by omega
 have bc' : x % 4294967296 * (y / 4294967296) < 18446744073709551616 := by omega
 have bh1 : x / 4294967296 * (y / 4294967296) + (x / 4294967296 * (y % 4294967296) + x % 4294967296 * (y % 4294967296) / 4294967296) / 4294967296 < 18446744073709551616 := by omega
 have bh : x / 4294967296 * (y / 4294967296) + (x / 4294967296 * (y % 4294967296) + x % 4294967296 * (y % 4294967296) / 4294967296) / 4294967296 + ((x / 4294967296 * (y % 4294967296) + x % 4294967296 * (y % 4294967296) / 4294967296) % 4294967296 + x % 4294967296 * (y / 4294967296)) / 4294967296 < 18446744073709551616 := by omega
 go_enter Tryz.func156, Tryz.ntmps156
 go_wp2
 simp only [M.maskN x hx, M.maskN y hy, M.divN, M.mulN, M.addN, M.wrapN _ bd, M.wrapN _ bb', M.wrapN _ bt, M.maskN _ bt, M.wrapN _ bc', M.wrapN _ bw, M.wrapN _ ba', M.wrapN _ bh1, M.wrapN _ bh, M.wrapM (x * y)]
 rw [hhi]
 go_ret2
 exact ⟨rfl, rfl⟩
theorem add64c0 (x y lo hi : Nat) (h1 : (x + y) % 18446744073709551616 = lo) (h2 : (x + y) / 18446744073709551616 = hi) (w : World) : (callFunc 127 #[.int .u64 (x : Int), .int .u64 (y : Int), .int .u64 0]).run Tryz.prog w =
  .ok (.value (.tuple #[.int .u64 (lo : Int), .int .u64 (hi : Int)])) w := GG.add64v x y 0 lo hi (by decide) h1 h2 w
end Go.Proofs.YtelfmddcjlocpaaGreatDoor.GN
end
