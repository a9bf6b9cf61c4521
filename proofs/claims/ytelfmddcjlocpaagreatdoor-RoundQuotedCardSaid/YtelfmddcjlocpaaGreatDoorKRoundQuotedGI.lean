/- math/bits.Add64 and Sub64; nat.Add on naturals of any length. Conditions: at most 8192 limbs. nat.Add on naturals of any length, whichever is longer. Conditions: at most 8192 limbs. nat.Sub on naturals of any length. Conditions: at most 8192 limbs; the second is at most the first. -/
import Derived.Test.YtelfmddcjlocpaaGreatDoorKRoundQuotedGC
import Derived.Shelf.Spec.BitsCarry
import Derived.StillTailTactics
section
namespace Go.Proofs.YtelfmddcjlocpaaGreatDoor.GG
open Go.RowKit Go.Proofs.YtelfmddcjlocpaaGreatDoorW.PrintWords Go.Proofs.YtelfmddcjlocpaaGreatDoorW.PrintMore Go.Proofs.YtelfmddcjlocpaaGreatDoorW.PrintLast Go.Proofs.YtelfmddcjlocpaaGreatDoor.Num Go.Proofs.YtelfmddcjlocpaaGreatDoor.Ref Go.Proofs.YtelfmddcjlocpaaGreatDoor.GBase Go.Proofs.YtelfmddcjlocpaaGreatDoor.GTh Go.Proofs.YtelfmddcjlocpaaGreatDoor.GA Go.Proofs.YtelfmddcjlocpaaGreatDoor.GB Go.Proofs.YtelfmddcjlocpaaGreatDoor.GC
theorem add64 (x y c : Nat) (hc : c ≤ 1) (w : World) : (callFunc 127 #[.int .u64 (x : Int), .int .u64 (y : Int), .int .u64 (c : Int)]).run Tryz.prog w =
  .ok (.value (.tuple #[.int .u64 (((x + y + c) % 18446744073709551616 : Nat) : Int), .int .u64 (((x + y + c) / 18446744073709551616 : Nat) : Int)])) w := by
 rw [run_callFunc_extern Tryz.func127 (by kernel_rfl) (by kernel_rfl) (by kernel_rfl) (e := add64Entry) (by kernel_rfl), run_add64 x y c (by omega) (by omega) (by omega) (by omega)]
 simp only [Result.andThen]
 congr 5 <;> omega
theorem sub64 (x y b : Nat) (hb : b ≤ 1) (w : World) : (callFunc 141 #[.int .u64 (x : Int), .int .u64 (y : Int), .int .u64 (b : Int)]).run Tryz.prog w =
  .ok (.value (.tuple #[.int .u64 (((x + 18446744073709551616 - y - b) % 18446744073709551616 : Nat) : Int), .int .u64 ((if x < y + b then 1 else 0 : Nat) : Int)])) w := by
 rw [run_callFunc_extern Tryz.func141 (by kernel_rfl) (by kernel_rfl) (by kernel_rfl) (e := sub64Entry) (by kernel_rfl), run_sub64 x y b hb]
 rfl
theorem add64v (x y c lo hi : Nat) (hc : c ≤ 1) (h1 : (x + y + c) % 18446744073709551616 = lo) (h2 : (x + y + c) / 18446744073709551616 = hi) (w : World) : (callFunc 127 #[.int .u64 (x : Int), .int .u64 (y : Int), .int .u64 (c : Int)]).run Tryz.prog w =
  .ok (.value (.tuple #[.int .u64 (lo : Int), .int .u64 (hi : Int)])) w := by rw [← h1, ← h2]; exact add64 x y c hc w
theorem add64z (x c lo hi : Nat) (hc : c ≤ 1) (h1 : (x + 0 + c) % 18446744073709551616 = lo) (h2 : (x + 0 + c) / 18446744073709551616 = hi) (w : World) : (callFunc 127 #[.int .u64 (x : Int), .int .u64 0, .int .u64 (c : Int)]).run Tryz.prog w =
  .ok (.value (.tuple #[.int .u64 (lo : Int), .int .u64 (hi : Int)])) w := by rw [← h1, ← h2]; exact add64 x 0 c hc w
theorem add_step {a b S c i : Nat} (h : S + c * pw i = a % pw i + b % pw i) (hS : S < pw i) (hc : c ≤ 1) :
  S + ((dw a i + dw b i + c) % 18446744073709551616) * pw i + ((dw a i + dw b i + c) / 18446744073709551616) * pw (i + 1) = a % pw (i + 1) + b % pw (i + 1)
  ∧ S + ((dw a i + dw b i + c) % 18446744073709551616) * pw i < pw (i + 1) ∧ (dw a i + dw b i + c) / 18446744073709551616 ≤ 1
  ∧ S + ((dw a i + dw b i + c) % 18446744073709551616) * pw i = (S + ((dw a i + dw b i + c) % 18446744073709551616) * pw i) + dw S i * pw i := by
 have ha := dw_lt a i
 have hb := dw_lt b i
 have z : dw S i = 0 := dw_out hS
 generalize ht : dw a i + dw b i + c = t at *
 have e1 := Nat.mod_add_div t 18446744073709551616
 have hd := Nat.mod_lt t (show 0 < 18446744073709551616 by decide)
 refine ⟨?_, ?_, by omega, by rw [z, Nat.zero_mul, Nat.add_zero]⟩
 ·rw [mod_succ, mod_succ, pw_succ]
  generalize t % 18446744073709551616 = d at *
  generalize t / 18446744073709551616 = q at *
  have : (d + 18446744073709551616 * q) * pw i = t * pw i := by rw [e1]
  rw [← ht] at this
  rw [Nat.add_mul, Nat.add_mul, Nat.add_mul] at this
  have e2 : q * (pw i * 18446744073709551616) = 18446744073709551616 * q * pw i := by ac_rfl
  have e3 : pw i * dw a i = dw a i * pw i := Nat.mul_comm _ _
  have e4 : pw i * dw b i = dw b i * pw i := Nat.mul_comm _ _
  rw [e2, e3, e4]
  omega
 ·rw [pw_succ]
  have : (t % 18446744073709551616 + 1) * pw i ≤ 18446744073709551616 * pw i := Nat.mul_le_mul_right _ hd
  rw [Nat.add_mul, Nat.one_mul] at this
  rw [Nat.mul_comm (pw i)]
  omega
set_option maxRecDepth 100000 in
set_option maxHeartbeats 400000 in
theorem add_le (w : World) (A B : Option Addr) (ca cb a b : Nat) (hA : Nt w A ca a) (hB : Nt w B cb b) (la : nl a ≤ 8192) (lb : nl b ≤ 8192) (le : nl b ≤ nl a) (ls : nl (a + b) ≤ 8192) : Calls Tryz.prog 85 #[.slice A (nl a) ca, .slice B (nl b) cb] w fun e w' => ∃ v, e = .returned (.tuple #[v, .int .i64 0]) ∧ Ans w w' v (a + b) := by
 have FA := Lib.hid (form_any w A ca a hA la)
 have FB := Lib.hid (form_any w B cb b hB lb)
 have RA := Lib.hid hA
 have RB := Lib.hid hB
 generalize hn : nl a = n at *
 generalize hm : nl b = m at *
 obtain ⟨N, hN⟩ : ∃ N, N = n + 1 := ⟨_, rfl⟩
 have HL := Lib.hid (And.intro hn (And.intro hm (And.intro la (And.intro le (And.intro ls hN)))))
 have q0 : decide ((n : Int) < (m : Int)) = false := decide_eq_false (by omega)
 have q1 : decide (n < m) = false := decide_eq_false (by omega)
 have q2 : IntKind.i64.wrap ((n : Int) + 1) = (N : Int) := by rw [IntWalk.i64_in _ (by omega)]; omega
 have q3 : wrap64 ((n : Int) + 1) = (N : Int) := by rw [w64 (by omega) (by omega)]; omega
 have hbig : N < 1099511627776 := by omega
 clear hA hB la lb le ls hn hm hN
 go_enter Tryz.func85, Tryz.ntmps85
 go_wp2_with fail
 refine FA.out.mono ?_
 rintro e w1 ⟨rfl, rfl⟩
 go_wp2_with fail
 refine FB.out.mono ?_
 rintro e w2 ⟨rfl, rfl⟩
 go_wp2_with (rw [make_row _ hbig]; go_simp)
 have O0 := Lib.hid (Own.made w2 N)
 go_loopg [7, 31] n (fun g cv i wr => ∃ j S c : Nat, j ≤ n ∧ g = n - j ∧ i = .int .i64 j ∧ cv = .int .u64 (c : Int) ∧ S + c * pw j = a % pw j + b % pw j ∧ S < pw j ∧ c ≤ 1 ∧ Own w2 wr w2.heap.size N S)
 case atStart => exact ⟨0, 0, 0, Nat.zero_le _, rfl, rfl, rfl, by rw [pw_zero, Nat.mod_one, Nat.mod_one], by decide, by decide, O0.out⟩
 case round =>
  obtain ⟨j, S, c, hj, rfl, rfl, rfl, e1, e2, e3, ho⟩ := hrel
  have O := Lib.hid ho
  clear ho O0
  by_cases c0 : j < n
  ·have st := add_step e1 e2 e3
   have HJ := Lib.hid (And.intro c0 (And.intro e1 e2))
   have l1 : decide ((j : Int) < (n : Int)) = true := decide_eq_true (by omega)
   have l2 : (j : Int) < (n : Int) := by omega
   have l3 : (j : Int) < (N : Int) := by have := HL.out.2.2.2.2.2; omega
   have l4 : j < N := by have := HL.out.2.2.2.2.2; omega
   have rA := RA.out.next O.out.below
   have rB := RB.out.next O.out.below
   have iA : nl a = n := HL.out.1
   have iB : nl b = m := HL.out.2.1
   rcases rA.row with ⟨_, e, _⟩ | ⟨G, o, rfl, qA⟩
   ·omega
   have za := qA.cell j (by omega)
   have zs := O.out.cell (j := j) l4
   have fs := O.out.frozen (j := j)
   have CC := Lib.hid e3
   obtain ⟨lo, hlo⟩ : ∃ lo, (dw a j + dw b j + c) % 18446744073709551616 = lo := ⟨_, rfl⟩
   obtain ⟨hi, hhi⟩ : ∃ hi, (dw a j + dw b j + c) / 18446744073709551616 = hi := ⟨_, rfl⟩
   have llo : lo < 18446744073709551616 := by rw [← hlo]; exact Nat.mod_lt _ (by decide)
   rw [hlo, hhi] at st
   have O2 := Lib.hid (O.out.put llo st.2.2.2)
   have ST := Lib.hid st
   by_cases c1 : j < m
   ·have l5 : decide ((j : Int) < (m : Int)) = true := decide_eq_true (by omega)
    have l6 : (j : Int) < (m : Int) := by omega
    rcases rB.row with ⟨_, e, _⟩ | ⟨G', o', rfl, qB⟩
    ·omega
    have zb := qB.cell j (by omega)
    have CA := Lib.hid (add64v (dw a j) (dw b j) c lo hi e3 hlo hhi)
    generalize dw a j = d1 at *
    generalize dw b j = d2 at *
    generalize dw S j = d3 at *
    clear c0 c1 e1 e2 e3 rA rB iA iB qA qB st hj hlo hhi llo
    go_wp2_with (rw [CA.out]; go_simp)
    go_roundg (n - (j + 1))
    case measure => have := HJ.out.1; omega
    case rel => exact ⟨j + 1, _, hi, HJ.out.1, rfl, by go_num, rfl, ST.out.1, ST.out.2.1, ST.out.2.2.1, O2.out⟩
   ·have l5 : decide ((j : Int) < (m : Int)) = false := decide_eq_false (by omega)
    have l7 : decide (j < m) = false := decide_eq_false c1
    have e4 : dw b j = 0 := dw_out' rB.big (by omega)
    rw [e4] at hlo hhi
    have CA := Lib.hid (add64z (dw a j) c lo hi e3 hlo hhi)
    generalize dw a j = d1 at *
    generalize dw b j = d2 at *
    generalize dw S j = d3 at *
    clear c0 c1 e1 e2 e3 rA rB iA iB qA st hj hlo hhi llo e4
    go_wp2_with (rw [CA.out]; go_simp)
    go_roundg (n - (j + 1))
    case measure => have := HJ.out.1; omega
    case rel => exact ⟨j + 1, _, hi, HJ.out.1, rfl, by go_num, rfl, ST.out.1, ST.out.2.1, ST.out.2.2.1, O2.out⟩
  ·obtain rfl : j = n := by omega
   have l1 : decide ((j : Int) < (j : Int)) = false := decide_eq_false (by omega)
   have hN : N = j + 1 := HL.out.2.2.2.2.2
   have l3 : (j : Int) < (N : Int) := by omega
   have l4 : j < N := by omega
   have zs := O.out.cell (j := j) l4
   have fs := O.out.frozen (j := j)
   have ea : a % pw j = a := Nat.mod_eq_of_lt (nl_le_iff.1 (Nat.le_of_eq HL.out.1))
   have eb : b % pw j = b := Nat.mod_eq_of_lt (nl_le_iff.1 (Nat.le_trans (Nat.le_of_eq HL.out.2.1) HL.out.2.2.2.1))
   rw [ea, eb] at e1
   have O2 := O.out.put (i := j) (d := c) (y := a + b) (by omega) (by rw [dw_out e2, Nat.zero_mul, Nat.add_zero]; exact e1)
   have hab : a + b < pw N := by
    rw [← e1, hN, pw_succ]
    have : c * pw j ≤ 1 * pw j := Nat.mul_le_mul_right _ e3
    omega
   have R := Lib.hid (Rw.mk (A := some ⟨w2.heap.size, 0, none⟩) (c := N) (Nat.le_refl _) (.inr ⟨_, _, rfl, O2.at hab⟩))
   have HT := Lib.hid (told_any _ _ _ _ _ R.out hbig HL.out.2.2.2.2.1)
   have B := Lib.hid O2.below
   have OO := Lib.hid O2
   have NN := Lib.hid (And.intro (nl_le_iff.2 hab) hbig)
   clear O2 ea eb hab e1 e2 e3 hj c0 hN
   generalize dw S j = d3 at *
   go_wp2_with fail
   refine HT.out.mono ?_
   rintro e w5 ⟨rfl, rfl⟩
   go_wp2_with fail
   go_ret2
   exact ⟨_, rfl, ⟨_, _, rfl, OO.out, NN.out.1, NN.out.2⟩⟩
end Go.Proofs.YtelfmddcjlocpaaGreatDoor.GG
end
section
namespace Go.Proofs.YtelfmddcjlocpaaGreatDoor.GH
open Go.RowKit Go.Proofs.YtelfmddcjlocpaaGreatDoorW.PrintWords Go.Proofs.YtelfmddcjlocpaaGreatDoorW.PrintMore Go.Proofs.YtelfmddcjlocpaaGreatDoorW.PrintLast Go.Proofs.YtelfmddcjlocpaaGreatDoor.Num Go.Proofs.YtelfmddcjlocpaaGreatDoor.Ref Go.Proofs.YtelfmddcjlocpaaGreatDoor.GBase Go.Proofs.YtelfmddcjlocpaaGreatDoor.GTh Go.Proofs.YtelfmddcjlocpaaGreatDoor.GA Go.Proofs.YtelfmddcjlocpaaGreatDoor.GB Go.Proofs.YtelfmddcjlocpaaGreatDoor.GC Go.Proofs.YtelfmddcjlocpaaGreatDoor.GG
set_option maxRecDepth 100000 in
set_option maxHeartbeats 400000 in
theorem add_lt (w : World) (A B : Option Addr) (ca cb a b : Nat) (hA : Nt w A ca a) (hB : Nt w B cb b) (la : nl a ≤ 8192) (lb : nl b ≤ 8192) (lt : nl b < nl a) (ls : nl (a + b) ≤ 8192) : Calls Tryz.prog 85 #[.slice B (nl b) cb, .slice A (nl a) ca] w fun e w' => ∃ v, e = .returned (.tuple #[v, .int .i64 0]) ∧ Ans w w' v (a + b) := by
 have FA := Lib.hid (form_any w A ca a hA la)
 have FB := Lib.hid (form_any w B cb b hB lb)
 have RA := Lib.hid hA
 have RB := Lib.hid hB
 generalize hn : nl a = n at *
 generalize hm : nl b = m at *
 obtain ⟨N, hN⟩ : ∃ N, N = n + 1 := ⟨_, rfl⟩
 have HL := Lib.hid (And.intro hn (And.intro hm (And.intro la (And.intro (Nat.le_of_lt lt) (And.intro ls hN)))))
 have q0 : decide ((m : Int) < (n : Int)) = true := decide_eq_true (by omega)
 have q1 : decide (m < n) = true := decide_eq_true (by omega)
 have q2 : IntKind.i64.wrap ((n : Int) + 1) = (N : Int) := by rw [IntWalk.i64_in _ (by omega)]; omega
 have q3 : wrap64 ((n : Int) + 1) = (N : Int) := by rw [w64 (by omega) (by omega)]; omega
 have hbig : N < 1099511627776 := by omega
 clear hA hB la lb lt ls hn hm hN
 go_enter Tryz.func85, Tryz.ntmps85
 go_wp2_with fail
 refine FB.out.mono ?_
 rintro e w1 ⟨rfl, rfl⟩
 go_wp2_with fail
 refine FA.out.mono ?_
 rintro e w2 ⟨rfl, rfl⟩
 go_wp2_with (rw [make_row _ hbig]; go_simp)
 have O0 := Lib.hid (Own.made w2 N)
 go_loopg [7, 31] n (fun g cv i wr => ∃ j S c : Nat, j ≤ n ∧ g = n - j ∧ i = .int .i64 j ∧ cv = .int .u64 (c : Int) ∧ S + c * pw j = a % pw j + b % pw j ∧ S < pw j ∧ c ≤ 1 ∧ Own w2 wr w2.heap.size N S)
 case atStart => exact ⟨0, 0, 0, Nat.zero_le _, rfl, rfl, rfl, by rw [pw_zero, Nat.mod_one, Nat.mod_one], by decide, by decide, O0.out⟩
 case round =>
  obtain ⟨j, S, c, hj, rfl, rfl, rfl, e1, e2, e3, ho⟩ := hrel
  have O := Lib.hid ho
  clear ho O0
  by_cases c0 : j < n
  ·have st := add_step e1 e2 e3
   have HJ := Lib.hid (And.intro c0 (And.intro e1 e2))
   have l1 : decide ((j : Int) < (n : Int)) = true := decide_eq_true (by omega)
   have l2 : (j : Int) < (n : Int) := by omega
   have l3 : (j : Int) < (N : Int) := by have := HL.out.2.2.2.2.2; omega
   have l4 : j < N := by have := HL.out.2.2.2.2.2; omega
   have rA := RA.out.next O.out.below
   have rB := RB.out.next O.out.below
   have iA : nl a = n := HL.out.1
   have iB : nl b = m := HL.out.2.1
   rcases rA.row with ⟨_, e, _⟩ | ⟨G, o, rfl, qA⟩
   ·omega
   have za := qA.cell j (by omega)
   have zs := O.out.cell (j := j) l4
   have fs := O.out.frozen (j := j)
   have CC := Lib.hid e3
   obtain ⟨lo, hlo⟩ : ∃ lo, (dw a j + dw b j + c) % 18446744073709551616 = lo := ⟨_, rfl⟩
   obtain ⟨hi, hhi⟩ : ∃ hi, (dw a j + dw b j + c) / 18446744073709551616 = hi := ⟨_, rfl⟩
   have llo : lo < 18446744073709551616 := by rw [← hlo]; exact Nat.mod_lt _ (by decide)
   rw [hlo, hhi] at st
   have O2 := Lib.hid (O.out.put llo st.2.2.2)
   have ST := Lib.hid st
   by_cases c1 : j < m
   ·have l5 : decide ((j : Int) < (m : Int)) = true := decide_eq_true (by omega)
    have l6 : (j : Int) < (m : Int) := by omega
    rcases rB.row with ⟨_, e, _⟩ | ⟨G', o', rfl, qB⟩
    ·omega
    have zb := qB.cell j (by omega)
    have CA := Lib.hid (add64v (dw a j) (dw b j) c lo hi e3 hlo hhi)
    generalize dw a j = d1 at *
    generalize dw b j = d2 at *
    generalize dw S j = d3 at *
    clear c0 c1 e1 e2 e3 rA rB iA iB qA qB st hj hlo hhi llo
    go_wp2_with (rw [CA.out]; go_simp)
    go_roundg (n - (j + 1))
    case measure => have := HJ.out.1; omega
    case rel => exact ⟨j + 1, _, hi, HJ.out.1, rfl, by go_num, rfl, ST.out.1, ST.out.2.1, ST.out.2.2.1, O2.out⟩
   ·have l5 : decide ((j : Int) < (m : Int)) = false := decide_eq_false (by omega)
    have l7 : decide (j < m) = false := decide_eq_false c1
    have e4 : dw b j = 0 := dw_out' rB.big (by omega)
    rw [e4] at hlo hhi
    have CA := Lib.hid (add64z (dw a j) c lo hi e3 hlo hhi)
    generalize dw a j = d1 at *
    generalize dw b j = d2 at *
    generalize dw S j = d3 at *
    clear c0 c1 e1 e2 e3 rA rB iA iB qA st hj hlo hhi llo e4
    go_wp2_with (rw [CA.out]; go_simp)
    go_roundg (n - (j + 1))
    case measure => have := HJ.out.1; omega
    case rel => exact ⟨j + 1, _, hi, HJ.out.1, rfl, by go_num, rfl, ST.out.1, ST.out.2.1, ST.out.2.2.1, O2.out⟩
  ·obtain rfl : j = n := by omega
   have l1 : decide ((j : Int) < (j : Int)) = false := decide_eq_false (by omega)
   have hN : N = j + 1 := HL.out.2.2.2.2.2
   have l3 : (j : Int) < (N : Int) := by omega
   have l4 : j < N := by omega
   have zs := O.out.cell (j := j) l4
   have fs := O.out.frozen (j := j)
   have ea : a % pw j = a := Nat.mod_eq_of_lt (nl_le_iff.1 (Nat.le_of_eq HL.out.1))
   have eb : b % pw j = b := Nat.mod_eq_of_lt (nl_le_iff.1 (Nat.le_trans (Nat.le_of_eq HL.out.2.1) HL.out.2.2.2.1))
   rw [ea, eb] at e1
   have O2 := O.out.put (i := j) (d := c) (y := a + b) (by omega) (by rw [dw_out e2, Nat.zero_mul, Nat.add_zero]; exact e1)
   have hab : a + b < pw N := by
    rw [← e1, hN, pw_succ]
    have : c * pw j ≤ 1 * pw j := Nat.mul_le_mul_right _ e3
    omega
   have R := Lib.hid (Rw.mk (A := some ⟨w2.heap.size, 0, none⟩) (c := N) (Nat.le_refl _) (.inr ⟨_, _, rfl, O2.at hab⟩))
   have HT := Lib.hid (told_any _ _ _ _ _ R.out hbig HL.out.2.2.2.2.1)
   have B := Lib.hid O2.below
   have OO := Lib.hid O2
   have NN := Lib.hid (And.intro (nl_le_iff.2 hab) hbig)
   clear O2 ea eb hab e1 e2 e3 hj c0 hN
   generalize dw S j = d3 at *
   go_wp2_with fail
   refine HT.out.mono ?_
   rintro e w5 ⟨rfl, rfl⟩
   go_wp2_with fail
   go_ret2
   exact ⟨_, rfl, ⟨_, _, rfl, OO.out, NN.out.1, NN.out.2⟩⟩
theorem add_any (w : World) (A B : Option Addr) (ca cb a b : Nat) (hA : Nt w A ca a) (hB : Nt w B cb b) (la : nl a ≤ 8192) (lb : nl b ≤ 8192) (ls : nl (a + b) ≤ 8192) : Calls Tryz.prog 85 #[.slice A (nl a) ca, .slice B (nl b) cb] w fun e w' => ∃ v, e = .returned (.tuple #[v, .int .i64 0]) ∧ Ans w w' v (a + b) := by
 by_cases c : nl b ≤ nl a
 ·exact add_le w A B ca cb a b hA hB la lb c ls
 ·rw [Nat.add_comm] at ls ⊢
  exact add_lt w B A cb ca b a hB hA lb la (by omega) ls
end Go.Proofs.YtelfmddcjlocpaaGreatDoor.GH
end
section
namespace Go.Proofs.YtelfmddcjlocpaaGreatDoor.GI
open Go.RowKit Go.Proofs.YtelfmddcjlocpaaGreatDoorW.PrintWords Go.Proofs.YtelfmddcjlocpaaGreatDoorW.PrintMore Go.Proofs.YtelfmddcjlocpaaGreatDoorW.PrintLast Go.Proofs.YtelfmddcjlocpaaGreatDoor.Num Go.Proofs.YtelfmddcjlocpaaGreatDoor.Ref Go.Proofs.YtelfmddcjlocpaaGreatDoor.GBase Go.Proofs.YtelfmddcjlocpaaGreatDoor.GTh Go.Proofs.YtelfmddcjlocpaaGreatDoor.GA Go.Proofs.YtelfmddcjlocpaaGreatDoor.GB Go.Proofs.YtelfmddcjlocpaaGreatDoor.GC Go.Proofs.YtelfmddcjlocpaaGreatDoor.GG Go.Proofs.YtelfmddcjlocpaaGreatDoor.GH
theorem sub64v (x y c lo hi : Nat) (hc : c ≤ 1) (h1 : (x + 18446744073709551616 - y - c) % 18446744073709551616 = lo) (h2 : (if x < y + c then 1 else 0) = hi) (w : World) : (callFunc 141 #[.int .u64 (x : Int), .int .u64 (y : Int), .int .u64 (c : Int)]).run Tryz.prog w =
  .ok (.value (.tuple #[.int .u64 (lo : Int), .int .u64 (hi : Int)])) w := by rw [← h1, ← h2]; exact sub64 x y c hc w
theorem sub64z (x c lo hi : Nat) (hc : c ≤ 1) (h1 : (x + 18446744073709551616 - 0 - c) % 18446744073709551616 = lo) (h2 : (if x < 0 + c then 1 else 0) = hi) (w : World) : (callFunc 141 #[.int .u64 (x : Int), .int .u64 0, .int .u64 (c : Int)]).run Tryz.prog w =
  .ok (.value (.tuple #[.int .u64 (lo : Int), .int .u64 (hi : Int)])) w := by rw [← h1, ← h2]; exact sub64 x 0 c hc w
end Go.Proofs.YtelfmddcjlocpaaGreatDoor.GI
end
