/- natdiv's steps: shifted, takeMul, giveBack. Conditions: rows of less than 2^40 limbs. natdiv.shifted and trial; nat.Norm. Conditions: rows of less than 2^40 limbs. -/
import Derived.Test.YtelfmddcjlocpaaGreatDoorKRoundQuotedGU
import Derived.Test.YtelfmddcjlocpaaGreatDoorKRoundQuotedGN
section
set_option linter.unusedVariables false
namespace Go.Proofs.YtelfmddcjlocpaaGreatDoor.GV
open Go.RowKit Go.Proofs.YtelfmddcjlocpaaGreatDoorW.PrintWords Go.Proofs.YtelfmddcjlocpaaGreatDoorW.PrintMore Go.Proofs.YtelfmddcjlocpaaGreatDoorW.PrintLast Go.Proofs.YtelfmddcjlocpaaGreatDoor.Num Go.Proofs.YtelfmddcjlocpaaGreatDoor.Ref Go.Proofs.YtelfmddcjlocpaaGreatDoor.GBase Go.Proofs.YtelfmddcjlocpaaGreatDoor.GTh Go.Proofs.YtelfmddcjlocpaaGreatDoor.GA Go.Proofs.YtelfmddcjlocpaaGreatDoor.GB Go.Proofs.YtelfmddcjlocpaaGreatDoor.GC Go.Proofs.YtelfmddcjlocpaaGreatDoor.GG Go.Proofs.YtelfmddcjlocpaaGreatDoor.GI Go.Proofs.YtelfmddcjlocpaaGreatDoor.GN Go.Proofs.YtelfmddcjlocpaaGreatDoor.GO Go.Proofs.YtelfmddcjlocpaaGreatDoor.GP Go.Proofs.YtelfmddcjlocpaaGreatDoor.GQ Go.Proofs.YtelfmddcjlocpaaGreatDoor.GR Go.Proofs.YtelfmddcjlocpaaGreatDoor.GK Go.Proofs.YtelfmddcjlocpaaGreatDoor.GS Go.Proofs.YtelfmddcjlocpaaGreatDoor.GT
set_option maxRecDepth 100000 in
set_option maxHeartbeats 400000 in
theorem giveBack_any (W : World) (B : Option Addr) (cb V n g o N cu U : Nat) (hI : Bk W g N U) (hB : Rw W B n cb V) (hoff : n = 0 ∨ Off g B) (ho : o + n + 1 ≤ N) (hN : N < 1099511627776) :
  Calls Tryz.prog 125 #[.slice (some ⟨g, o, none⟩) (n + 1 : Nat) cu, .slice B n cb] W fun e w' => ∃ c T : Nat, e = .returned (.int .u64 (c : Int)) ∧ c ≤ 1 ∧ T + c * pw (o + n + 1) = U + V * pw o ∧ T / pw (o + n + 1) = U / pw (o + n + 1) ∧ Inp W w' g N T := by
 have O0 := Lib.hid (Inp.start hI)
 have RB := Lib.hid hB
 have RO := Lib.hid hoff
 obtain ⟨n1, hn1⟩ : ∃ n1, n1 = n + 1 := ⟨_, rfl⟩
 rw [← hn1]
 have HL := Lib.hid (And.intro ho (And.intro hN (And.intro hn1 hB.big)))
 have q1 : (n : Int) < (n1 : Int) := by omega
 have q2 : n < n1 := by omega
 clear hI hB hoff ho hN hn1
 go_enter Tryz.func125, Tryz.ntmps125
 go_wp2_with fail
 go_loopg [5, 9] n (fun m cv iv wr => ∃ i T c : Nat, i ≤ n ∧ m = n - i ∧ iv = .int .i64 i ∧ cv = .int .u64 (c : Int) ∧ c ≤ 1 ∧ T + c * pw (o + i) = U + V % pw i * pw o ∧ T / pw (o + i) = U / pw (o + i) ∧ Inp W wr g N T)
 case atStart => exact ⟨0, U, 0, Nat.zero_le _, rfl, rfl, rfl, by decide, by rw [pw_zero, Nat.mod_one, Nat.zero_mul, Nat.zero_mul], rfl, O0.out⟩
 case round =>
  obtain ⟨i, T, c, hi_, rfl, rfl, rfl, e2, e3, e4, ho⟩ := hrel
  have O := Lib.hid ho
  have EE := Lib.hid (And.intro e2 (And.intro e3 e4))
  clear ho e2 e3 e4 O0
  by_cases c1 : i < n
  ·have ho := HL.out.1
   have k1 : decide ((i : Int) < (n : Int)) = true := decide_eq_true (by omega)
   have k2 : (i : Int) < (n : Int) := by omega
   have k5 : o + i < N := by omega
   have k6 : (i : Int) < (n1 : Int) := by omega
   have k7 : i < n1 := by omega
   have rB := Rw.exc RB.out O.out.exc (RO.out.resolve_left (by omega))
   rcases rB.row with ⟨_, e, _⟩ | ⟨G', oB, rfl, qB⟩
   ·omega
   have zb := qB.cell i (by omega)
   have zs := O.out.cell (j := o + i) k5
   have fs := O.out.frozen (j := o + i)
   obtain ⟨lo, hlo⟩ : ∃ lo, (dw T (o + i) + dw V i + c) % 18446744073709551616 = lo := ⟨_, rfl⟩
   obtain ⟨hi, hhi⟩ : ∃ hi, (dw T (o + i) + dw V i + c) / 18446744073709551616 = hi := ⟨_, rfl⟩
   have llo : lo < 18446744073709551616 := by rw [← hlo]; exact Nat.mod_lt _ (by decide)
   have lhi : hi ≤ 1 := by have := dw_lt T (o + i); have := dw_lt V i; have := EE.out.1; omega
   obtain ⟨T', t1, t2, t3⟩ := add_ex (e := dw V i) (c' := hi) EE.out.2.1 EE.out.2.2 (by omega) llo
   have t4 : U + V % pw i * pw o + dw V i * pw (o + i) = U + V % pw (i + 1) * pw o := by rw [mod_step, Nat.add_comm o i, Nat.add_assoc]
   rw [t4] at t2
   have CA := Lib.hid (add64v (dw T (o + i)) (dw V i) c lo hi EE.out.1 hlo hhi)
   have ST := Lib.hid (And.intro llo (And.intro lhi (And.intro t1 (And.intro t2 t3))))
   have HI := Lib.hid (And.intro hi_ (And.intro c1 (show i < 1099511627776 by have := HL.out.2.1; omega)))
   generalize hx1 : dw V i = x1 at *
   generalize hz1 : dw T (o + i) = z1 at *
   clear rB qB hlo hhi llo lhi t1 t2 t3 t4 hi_ c1 ho hx1
   go_wp2_with (rw [CA.out]; go_simp)
   have O3 := Lib.hid (O.out.put (d := lo) (y := T') ST.out.1 (by rw [hz1]; exact ST.out.2.2.1))
   go_region_with ((rw [CA.out]; go_simp))
   all_goals go_wp2_with fail
   all_goals go_roundg (n - (i + 1))
   all_goals first | (have := HI.out.2.1; omega) | exact ⟨i + 1, T', hi, HI.out.2.1, rfl, succ_val HI.out.2.2, rfl, ST.out.2.1, ST.out.2.2.2.1, ST.out.2.2.2.2, O3.out.next (Below.refl _ _).drew⟩
  ·obtain rfl : i = n := by omega
   have k1 : decide ((i : Int) < (i : Int)) = false := decide_eq_false (by omega)
   have k5 : o + i < N := by have := HL.out.1; omega
   have eb : V % pw i = V := Nat.mod_eq_of_lt HL.out.2.2.2
   have e0 := EE.out.2.1
   rw [eb] at e0
   have zs := O.out.cell (j := o + i) k5
   have fs := O.out.frozen (j := o + i)
   obtain ⟨lo, hlo⟩ : ∃ lo, (dw T (o + i) + 0 + c) % 18446744073709551616 = lo := ⟨_, rfl⟩
   obtain ⟨hi, hhi⟩ : ∃ hi, (dw T (o + i) + 0 + c) / 18446744073709551616 = hi := ⟨_, rfl⟩
   have llo : lo < 18446744073709551616 := by rw [← hlo]; exact Nat.mod_lt _ (by decide)
   have lhi : hi ≤ 1 := by have := dw_lt T (o + i); have := EE.out.1; omega
   obtain ⟨T', t1, t2, t3⟩ := add_ex (e := 0) (c' := hi) e0 EE.out.2.2 (by omega) llo
   rw [Nat.zero_mul, Nat.add_zero] at t2
   have CA := Lib.hid (add64z (dw T (o + i)) c lo hi EE.out.1 hlo hhi)
   have O3 := Lib.hid (O.out.put (d := lo) (y := T') llo t1)
   have ST := Lib.hid (And.intro lhi (And.intro t2 t3))
   generalize dw T (o + i) = z1 at *
   clear EE e0 eb hi_ c1 hlo hhi llo lhi t1 t2 t3
   go_wp2_with (rw [CA.out]; go_simp)
   go_ret
   exact ⟨hi, T', rfl, ST.out.1, ST.out.2.1, ST.out.2.2, O3.out⟩
theorem tm_step {Y c P wd Vi v pwo lo1 c' : Nat} (h : Y + c * P = wd * Vi * pwo) (hd : lo1 + c' * 18446744073709551616 = wd * v + c) : Y + lo1 * P + c' * (P * 18446744073709551616) = wd * Vi * pwo + wd * v * P := by
 have k := congrArg (· * P) hd
 simp only [Nat.add_mul] at k
 rw [show c' * (P * 18446744073709551616) = c' * 18446744073709551616 * P by ac_rfl]
 omega
set_option maxRecDepth 100000 in
set_option maxHeartbeats 400000 in
theorem takeMul_any (W : World) (B : Option Addr) (cb V n g o N cu U wd : Nat) (hI : Bk W g N U) (hB : Rw W B n cb V) (hoff : n = 0 ∨ Off g B) (ho : o + n + 1 ≤ N) (hN : N < 1099511627776) (hw : wd < 18446744073709551616) :
  Calls Tryz.prog 124 #[.slice (some ⟨g, o, none⟩) (n + 1 : Nat) cu, .slice B n cb, .int .u64 (wd : Int)] W fun e w' => ∃ c T : Nat, e = .returned (.int .u64 (c : Int)) ∧ c ≤ 1 ∧ T + wd * V * pw o = U + c * pw (o + n + 1) ∧ T / pw (o + n + 1) = U / pw (o + n + 1) ∧ Inp W w' g N T := by
 have O0 := Lib.hid (Inp.start hI)
 have RB := Lib.hid hB
 have RO := Lib.hid hoff
 obtain ⟨n1, hn1⟩ : ∃ n1, n1 = n + 1 := ⟨_, rfl⟩
 rw [← hn1]
 have HL := Lib.hid (And.intro ho (And.intro hN (And.intro hn1 (And.intro hB.big hw))))
 have q1 : (n : Int) < (n1 : Int) := by omega
 have q2 : n < n1 := by omega
 clear hI hB hoff ho hN hn1 hw
 go_enter Tryz.func124, Tryz.ntmps124
 go_wp2_with fail
 go_loopg [7, 8, 15] n (fun m cv ov iv wr => ∃ i T Y c ow : Nat, i ≤ n ∧ m = n - i ∧ iv = .int .i64 i ∧ cv = .int .u64 (c : Int) ∧ ov = .int .u64 (ow : Int) ∧ c < 18446744073709551616 ∧ ow ≤ 1 ∧ Y + c * pw (o + i) = wd * (V % pw i) * pw o ∧ T + Y = U + ow * pw (o + i) ∧ T / pw (o + i) = U / pw (o + i) ∧ Inp W wr g N T)
 case atStart => exact ⟨0, U, 0, 0, 0, Nat.zero_le _, rfl, rfl, rfl, rfl, by decide, by decide, by rw [pw_zero, Nat.mod_one, Nat.mul_zero, Nat.zero_mul, Nat.zero_mul], by rw [Nat.zero_mul], rfl, O0.out⟩
 case round =>
  obtain ⟨i, T, Y, c, ow, hi_, rfl, rfl, rfl, rfl, e1, e2, e3, e4, e5, ho⟩ := hrel
  have O := Lib.hid ho
  have EE := Lib.hid (And.intro e1 (And.intro e2 (And.intro e3 (And.intro e4 e5))))
  clear ho e1 e2 e3 e4 e5 O0
  by_cases c1 : i < n
  ·have ho := HL.out.1
   have k1 : decide ((i : Int) < (n : Int)) = true := decide_eq_true (by omega)
   have k2 : (i : Int) < (n : Int) := by omega
   have k5 : o + i < N := by omega
   have k6 : (i : Int) < (n1 : Int) := by omega
   have k7 : i < n1 := by omega
   have rB := Rw.exc RB.out O.out.exc (RO.out.resolve_left (by omega))
   rcases rB.row with ⟨_, e, _⟩ | ⟨G', oB, rfl, qB⟩
   ·omega
   have zb := qB.cell i (by omega)
   have hwl := HL.out.2.2.2.2
   obtain ⟨s1, s2, s3, s4, s5⟩ := limb_step (dw_lt V i) hwl (show 0 < 18446744073709551616 by decide) EE.out.1
   obtain ⟨pl, hpl⟩ : ∃ pl, dw V i * wd % 18446744073709551616 = pl := ⟨_, rfl⟩
   obtain ⟨ph, hph⟩ : ∃ ph, dw V i * wd / 18446744073709551616 = ph := ⟨_, rfl⟩
   rw [hpl, hph] at s1 s2 s3
   rw [hpl] at s4
   obtain ⟨lo1, hlo1⟩ : ∃ lo1, (pl + c) % 18446744073709551616 = lo1 := ⟨_, rfl⟩
   obtain ⟨k, hk⟩ : ∃ k, (pl + c) / 18446744073709551616 = k := ⟨_, rfl⟩
   rw [hk] at s1 s4
   have c'eq : IntKind.u64.wrap ((ph : Int) + (k : Int)) = ((ph + k : Nat) : Int) := wu_add rfl s1
   have hpp : lo1 + (ph + k) * 18446744073709551616 = wd * dw V i + c := by
    have m1 := Nat.mod_add_div (dw V i * wd) 18446744073709551616
    rw [hpl, hph] at m1
    have m2 := Nat.mod_add_div (pl + c) 18446744073709551616
    rw [hlo1, hk] at m2
    rw [Nat.mul_comm wd]
    generalize dw V i * wd = X at *
    clear EE HL s2 s3
    omega
   obtain ⟨c', hc'⟩ : ∃ c', c' = ph + k := ⟨_, rfl⟩
   rw [← hc'] at c'eq hpp s1
   have hY := tm_step (P := pw (o + i)) EE.out.2.2.1 hpp
   have l1 : lo1 < 18446744073709551616 := by rw [← hlo1]; exact Nat.mod_lt _ (by decide)
   have CM := Lib.hid (fun (w : World) => mul64_any (dw V i) wd (dw_lt V i) hwl w)
   rw [hph, hpl] at CM
   have A1 := Lib.hid (add64c0 pl c lo1 k hlo1 hk)
   have zs := O.out.cell (j := o + i) k5
   have fs := O.out.frozen (j := o + i)
   obtain ⟨lo, hlo⟩ : ∃ lo, (dw T (o + i) + 18446744073709551616 - lo1 - ow) % 18446744073709551616 = lo := ⟨_, rfl⟩
   obtain ⟨hi, hhi⟩ : ∃ hi, (if dw T (o + i) < lo1 + ow then 1 else 0) = hi := ⟨_, rfl⟩
   have llo : lo < 18446744073709551616 := by rw [← hlo]; exact Nat.mod_lt _ (by decide)
   obtain ⟨key, lhi⟩ := sub_key (dw_lt T (o + i)) l1 EE.out.2.1 hlo hhi
   obtain ⟨T', t1, t2, t3⟩ := sub_ex (e := lo1) (o' := hi) EE.out.2.2.2.1 EE.out.2.2.2.2 key llo
   have t4 : wd * (V % pw i) * pw o + wd * dw V i * pw (o + i) = wd * (V % pw (i + 1)) * pw o := by
    have := mod_step V i o
    rw [Nat.mul_assoc wd (V % pw (i + 1)), this, Nat.mul_add, Nat.mul_assoc, Nat.mul_assoc, Nat.add_comm o i]
   rw [t4, ← pw_succ] at hY
   have CA := Lib.hid (sub64v (dw T (o + i)) lo1 ow lo hi EE.out.2.1 hlo hhi)
   have ST := Lib.hid (And.intro llo (And.intro lhi (And.intro t1 (And.intro t2 (And.intro t3 (And.intro hY s1))))))
   have HI := Lib.hid (And.intro hi_ (And.intro c1 (show i < 1099511627776 by have := HL.out.2.1; omega)))
   generalize hx1 : dw V i = x1 at *
   generalize hz1 : dw T (o + i) = z1 at *
   clear rB qB hlo hhi llo lhi key t1 t2 t3 t4 hY hi_ c1 ho hx1 s1 s2 s3 s4 s5 hpl hph hlo1 hk hpp hc' l1 hwl
   go_wp2_with fail
   refine (CM.out _).mono ?_
   rintro e w3 ⟨rfl, rfl⟩
   have O3 := Lib.hid (O.out.put (d := lo) (y := T') ST.out.1 (by rw [hz1]; exact ST.out.2.2.1))
   go_wp2_with (first | rw [A1.out] | rw [CA.out]; go_simp)
   go_roundg (n - (i + 1))
   case measure => have := HI.out.2.1; omega
   case rel => exact ⟨i + 1, T', Y + lo1 * pw (o + i), c', hi, HI.out.2.1, rfl, succ_val HI.out.2.2, rfl, rfl, ST.out.2.2.2.2.2.2, ST.out.2.1, ST.out.2.2.2.2.2.1, ST.out.2.2.2.1, ST.out.2.2.2.2.1, O3.out⟩
  ·obtain rfl : i = n := by omega
   have k1 : decide ((i : Int) < (i : Int)) = false := decide_eq_false (by omega)
   have k5 : o + i < N := by have := HL.out.1; omega
   have eb : V % pw i = V := Nat.mod_eq_of_lt HL.out.2.2.2.1
   have e0 := EE.out.2.2.1
   rw [eb] at e0
   have zs := O.out.cell (j := o + i) k5
   have fs := O.out.frozen (j := o + i)
   obtain ⟨lo, hlo⟩ : ∃ lo, (dw T (o + i) + 18446744073709551616 - c - ow) % 18446744073709551616 = lo := ⟨_, rfl⟩
   obtain ⟨hi, hhi⟩ : ∃ hi, (if dw T (o + i) < c + ow then 1 else 0) = hi := ⟨_, rfl⟩
   have llo : lo < 18446744073709551616 := by rw [← hlo]; exact Nat.mod_lt _ (by decide)
   obtain ⟨key, lhi⟩ := sub_key (dw_lt T (o + i)) EE.out.1 EE.out.2.1 hlo hhi
   obtain ⟨T', t1, t2, t3⟩ := sub_ex (e := c) (o' := hi) EE.out.2.2.2.1 EE.out.2.2.2.2 key llo
   rw [e0] at t2
   have CA := Lib.hid (sub64v (dw T (o + i)) c ow lo hi EE.out.2.1 hlo hhi)
   have O3 := Lib.hid (O.out.put (d := lo) (y := T') llo t1)
   have ST := Lib.hid (And.intro lhi (And.intro t2 t3))
   generalize dw T (o + i) = z1 at *
   clear EE e0 eb hi_ c1 hlo hhi llo lhi key t1 t2 t3
   go_wp2_with (rw [CA.out]; go_simp)
   go_ret
   exact ⟨hi, T', rfl, ST.out.1, ST.out.2.1, ST.out.2.2, O3.out⟩
end Go.Proofs.YtelfmddcjlocpaaGreatDoor.GV
end
section
set_option linter.unusedVariables false
namespace Go.Proofs.YtelfmddcjlocpaaGreatDoor.GW
open Go.RowKit Go.Proofs.YtelfmddcjlocpaaGreatDoorW.PrintWords Go.Proofs.YtelfmddcjlocpaaGreatDoorW.PrintMore Go.Proofs.YtelfmddcjlocpaaGreatDoorW.PrintLast Go.Proofs.YtelfmddcjlocpaaGreatDoor.Num Go.Proofs.YtelfmddcjlocpaaGreatDoor.Ref Go.Proofs.YtelfmddcjlocpaaGreatDoor.GBase Go.Proofs.YtelfmddcjlocpaaGreatDoor.GTh Go.Proofs.YtelfmddcjlocpaaGreatDoor.GA Go.Proofs.YtelfmddcjlocpaaGreatDoor.GB Go.Proofs.YtelfmddcjlocpaaGreatDoor.GC Go.Proofs.YtelfmddcjlocpaaGreatDoor.GG Go.Proofs.YtelfmddcjlocpaaGreatDoor.GI Go.Proofs.YtelfmddcjlocpaaGreatDoor.GM Go.Proofs.YtelfmddcjlocpaaGreatDoor.GN Go.Proofs.YtelfmddcjlocpaaGreatDoor.GO Go.Proofs.YtelfmddcjlocpaaGreatDoor.GP Go.Proofs.YtelfmddcjlocpaaGreatDoor.GQ Go.Proofs.YtelfmddcjlocpaaGreatDoor.GR Go.Proofs.YtelfmddcjlocpaaGreatDoor.GK Go.Proofs.YtelfmddcjlocpaaGreatDoor.GS Go.Proofs.YtelfmddcjlocpaaGreatDoor.GT
theorem shift_step {T a i c s d lo c' : Nat} (e : T + c * pw i = a % pw i * 2^s + a / pw i * pw i) (hu : T / pw i = a / pw i) (hd : dw T i = d) (h : lo + c' * 18446744073709551616 = d * 2^s + c) (hl : lo < 18446744073709551616) :
  ∃ T', T + lo * pw i = T' + dw T i * pw i ∧ T' + c' * pw (i + 1) = a % pw (i + 1) * 2^s + a / pw (i + 1) * pw (i + 1) ∧ T' / pw (i + 1) = a / pw (i + 1) := by
 obtain ⟨T', t1, t2⟩ := put_ex T i lo hl
 refine ⟨T', t1, ?_, t2.trans (div_pw hu)⟩
 have ed : dw a i = d := by rw [← hd]; unfold dw; rw [hu]
 rw [mod_succ, ed, Nat.add_mul]
 have e1 : a / pw i = d + 18446744073709551616 * (a / pw (i + 1)) := by rw [← ed]; exact div_succ a i
 have k := congrArg (· * pw i) h
 simp only [Nat.add_mul] at k
 rw [e1, Nat.add_mul] at e
 rw [hd] at t1
 rw [pw_succ] at *
 generalize a / (pw i * 18446744073709551616) = H at *
 have k1 : c' * (pw i * 18446744073709551616) = c' * 18446744073709551616 * pw i := by ac_rfl
 have k2 : H * (pw i * 18446744073709551616) = 18446744073709551616 * H * pw i := by ac_rfl
 have k3 : pw i * d * 2^s = d * 2^s * pw i := by ac_rfl
 rw [k1, k2, k3]
 generalize c' * 18446744073709551616 * pw i = X1 at *
 generalize 18446744073709551616 * H * pw i = X2 at *
 generalize d * 2^s * pw i = X3 at *
 generalize a % pw i * 2^s = X4 at *
 generalize c * pw i = X5 at *
 generalize lo * pw i = X6 at *
 generalize d * pw i = X7 at *
 clear e1 k1 k2 k3
 omega
theorem shift_limb {d s t : Nat} (hd : d < 18446744073709551616) (hs : s < 64) (ht : t = 64 - s) {c : Nat} (hc : c < 2^s) :
  d * 2^s % 18446744073709551616 + c < 18446744073709551616 ∧ (d * 2^s % 18446744073709551616 + c) + d / 2^t * 18446744073709551616 = d * 2^s + c ∧ d / 2^t < 2^s ∧ d * 2^s % 18446744073709551616 % 2^s = 0 ∧ d * 2^s % 18446744073709551616 < 18446744073709551616 := by
 have e3 : 18446744073709551616 = 2^s * 2^t := by rw [← Nat.pow_add, show s + t = 64 by omega]
 have e4 : d * 2^s % 18446744073709551616 = 2^s * (d % 2^t) := by rw [e3, Nat.mul_comm d, Nat.mul_mod_mul_left]
 have e5 : d % 2^t + 1 ≤ 2^t := Nat.mod_lt _ (Nat.two_pow_pos _)
 have e6 : 2^s * (d % 2^t + 1) ≤ 2^s * 2^t := Nat.mul_le_mul_left _ e5
 have e7 : d / 2^t < 2^s := Nat.div_lt_of_lt_mul (by rw [Nat.mul_comm, ← e3]; exact hd)
 have e8 : d * 2^s = 2^s * (d % 2^t) + d / 2^t * 18446744073709551616 := by
  have := Nat.mod_add_div d (2^t)
  conv => lhs; rw [← this]
  rw [Nat.add_mul, e3]
  congr 1
  ·exact Nat.mul_comm _ _
  ·ac_rfl
 refine ⟨?_, ?_, e7, by rw [e4, Nat.mul_mod_right], Nat.mod_lt _ (by decide)⟩
 ·rw [e4]
  rw [Nat.mul_add, ← e3] at e6
  omega
 ·rw [e4, e8]; omega
set_option maxRecDepth 100000 in
set_option maxHeartbeats 400000 in
theorem shifted_any (w : World) (A : Option Addr) (ca a s n : Nat) (hA : Nt w A ca a) (hs : s < 64) (hn : nl a ≤ n) (hN : n < 1099511627776) (hfit : a * 2^s < pw n) :
  Calls Tryz.prog 80 #[.slice A (nl a) ca, .int .i64 (s : Int), .int .i64 (n : Int)] w fun e w' => e = .returned (.slice (some ⟨w.heap.size, 0, none⟩) n n) ∧ Own w w' w.heap.size n (a * 2^s) := by
 have O0 := Lib.hid (Own.made w n)
 have HM := make_row n hN w
 obtain ⟨w2, HC, HI⟩ := copy_eq _ A (nl a) ca a w.heap.size n n (Own.bk O0.out) (Nt.next hA (box _ _)) hn
 have O1 := Lib.hid (Own.inp O0.out HI)
 have HL := Lib.hid (And.intro hs (And.intro hN hfit))
 have la := Lib.hid (show a < pw n from nl_le_iff.1 hn)
 generalize nl a = m at *
 clear hA hn hfit HI hN
 by_cases s0 : s = 0
 ·subst s0
  have q0 : decide (((0 : Nat) : Int) = 0) = true := by decide
  have O2 := O1
  rw [show a = a * 2^0 by rw [Nat.pow_zero, Nat.mul_one]] at O2
  go_enter Tryz.func80, Tryz.ntmps80
  go_wp2_with fail
  go_ret
  exact ⟨rfl, O2.out⟩
 ·have q0 : ((s : Int) == 0) = false := by simp; omega
  have q1 : decide ((s : Int) = 0) = false := decide_eq_false (by omega)
  have q2 : ¬ s = 0 := s0
  obtain ⟨t, ht⟩ : ∃ t, t = 64 - s := ⟨_, rfl⟩
  have q3 : IntKind.i64.wrap (64 - (s : Int)) = (t : Int) := by rw [IntWalk.i64_in _ (by omega)]; omega
  have q4 : wrap64 (64 - (s : Int)) = (t : Int) := by rw [w64 (by omega) (by omega)]; omega
  have q5 : min t 64 = t := by omega
  have q6 : min s 64 = s := by omega
  have HT := Lib.hid (And.intro ht s0)
  clear s0 ht hs
  go_enter Tryz.func80, Tryz.ntmps80
  go_wp2_with fail
  go_loopg [8, 20] n (fun m cv iv wr => ∃ i T c : Nat, i ≤ n ∧ m = n - i ∧ iv = .int .i64 i ∧ cv = .int .u64 (c : Int) ∧ c < 2^s ∧ T + c * pw i = a % pw i * 2^s + a / pw i * pw i ∧ T / pw i = a / pw i ∧ Own w wr w.heap.size n T)
  case atStart => exact ⟨0, a, 0, Nat.zero_le _, rfl, rfl, rfl, Nat.two_pow_pos _, by rw [pw_zero, Nat.mod_one, Nat.div_one, Nat.zero_mul, Nat.zero_mul, Nat.mul_one]; omega, rfl, O1.out⟩
  case round =>
   obtain ⟨i, T, c, hi_, rfl, rfl, rfl, e2, e3, e4, ho⟩ := hrel
   have O := Lib.hid ho
   have EE := Lib.hid (And.intro e2 (And.intro e3 e4))
   clear ho e2 e3 e4 O1
   by_cases c1 : i < n
   ·have k1 : decide ((i : Int) < (n : Int)) = true := decide_eq_true (by omega)
    have k2 : (i : Int) < (n : Int) := by omega
    have zs := O.out.cell (j := i) c1
    have fs := O.out.frozen (j := i)
    obtain ⟨d, hd⟩ : ∃ d, dw T i = d := ⟨_, rfl⟩
    have hdl : d < 18446744073709551616 := by rw [← hd]; exact dw_lt T i
    obtain ⟨s1, s2, s3, s4, s5⟩ := shift_limb hdl HL.out.1 HT.out.1 EE.out.1
    obtain ⟨v, hv⟩ : ∃ v, v = d * 2^s % 18446744073709551616 := ⟨_, rfl⟩
    obtain ⟨h, hh⟩ : ∃ h, h = d / 2^t := ⟨_, rfl⟩
    rw [← hv] at s1 s2 s4 s5
    rw [← hh] at s2 s3
    obtain ⟨lo, hlo⟩ : ∃ lo, lo = v + c := ⟨_, rfl⟩
    have e1 : IntKind.u64.wrap ((d : Int) * 2^s) = (v : Int) := by
     rw [IntKind.wrap_u64, hv]
     have : ((d : Int) * 2^s) = ((d * 2^s : Nat) : Int) := by push_cast; rfl
     rw [this]; omega
    have e5 : (d : Int) / 2^t = (h : Int) := by rw [hh]; push_cast; rfl
    have hcl := EE.out.1
    have e6 : Go.bits .or .u64 (v : Int) (c : Int) = (lo : Int) := by
     have h2 : (2:Nat)^s ≤ 18446744073709551616 := by rw [← e64]; exact Nat.pow_le_pow_right (by decide) (by have := HL.out.1; omega)
     rw [hlo, u64_or_nat v c s5 (by omega), nat_join s v c s4 hcl]
    rw [← hlo] at s1 s2
    obtain ⟨T', t1, t2, t3⟩ := shift_step EE.out.2.1 EE.out.2.2 hd s2 s1
    have O3 := Lib.hid (O.out.put (d := lo) (y := T') s1 t1)
    have ST := Lib.hid (And.intro s3 (And.intro t2 t3))
    have HI := Lib.hid (And.intro c1 (show i < 1099511627776 by have := HL.out.2.1; omega))
    rw [hd] at zs
    clear s1 s2 s3 s4 s5 t1 t2 t3 hd hdl hv hh hlo hi_ c1 hcl EE
    go_wp2_with fail
    go_region_with ((fail))
    all_goals go_wp2_with fail
    all_goals go_roundg (n - (i + 1))
    all_goals first | (have := HI.out.1; omega) | exact ⟨i + 1, T', h, HI.out.1, rfl, succ_val HI.out.2, rfl, ST.out.1, ST.out.2.1, ST.out.2.2, O3.out.next (Below.refl _ _).drew⟩
   ·obtain rfl : i = n := by omega
    have k1 : decide ((i : Int) < (i : Int)) = false := decide_eq_false (by omega)
    have e0 := EE.out.2.1
    rw [Nat.mod_eq_of_lt la.out, Nat.div_eq_of_lt la.out, Nat.zero_mul, Nat.add_zero] at e0
    have hc : c = 0 := by
     rcases Nat.eq_zero_or_pos c with h | h
     ·exact h
     ·exfalso
      have := Nat.mul_le_mul_right (pw i) (show 1 ≤ c from h)
      have := HL.out.2.2
      omega
    rw [hc, Nat.zero_mul, Nat.add_zero] at e0
    rw [e0] at O
    clear e0 hc EE hi_ c1
    go_wp2_with fail
    go_ret
    exact ⟨rfl, O.out⟩
def tr (hi lo d : Nat) : Nat := if d ≤ hi then 18446744073709551615 else (hi * 18446744073709551616 + lo) / d
theorem tr_lt {hi lo d : Nat} (hl : lo < 18446744073709551616) : tr hi lo d < 18446744073709551616 := by
 unfold tr
 split
 ·decide
 ·rename_i h
  rw [Nat.div_lt_iff_lt_mul (by omega)]
  have := Nat.mul_le_mul_right 18446744073709551616 (show hi + 1 ≤ d by omega)
  rw [Nat.mul_comm]
  omega
theorem trial_any (w : World) (hi lo d : Nat) (hd : DivC d) (hl : lo < 18446744073709551616) (hT : GTab.Tab w) :
  Calls Tryz.prog 123 #[.int .u64 (hi : Int), .int .u64 (lo : Int), .int .u64 (d : Int)] w fun e w' => e = .returned (.int .u64 ((tr hi lo d : Nat) : Int)) ∧ Below w.heap.size w w' := by
 by_cases c : d ≤ hi
 ·have e : tr hi lo d = 18446744073709551615 := if_pos c
  rw [e]
  have q0 : decide ((hi : Int) ≥ (d : Int)) = true := decide_eq_true (by omega)
  have q1 : decide ((d : Int) ≤ (hi : Int)) = true := decide_eq_true (by omega)
  have q2 : decide (d ≤ hi) = true := decide_eq_true c
  clear e c hl hd
  go_enter Tryz.func123, Tryz.ntmps123
  go_wp2_with fail
  go_ret
  exact ⟨rfl, Below.refl _ _⟩
 ·have e : tr hi lo d = (hi * 18446744073709551616 + lo) / d := if_neg c
  rw [e]
  have D := Lib.hid (hd hi lo w hT (by omega) hl)
  have q0 : decide ((hi : Int) ≥ (d : Int)) = false := decide_eq_false (by omega)
  have q1 : decide ((d : Int) ≤ (hi : Int)) = false := decide_eq_false (by omega)
  have q2 : decide (d ≤ hi) = false := decide_eq_false c
  generalize (hi * 18446744073709551616 + lo) / d = q at *
  generalize (hi * 18446744073709551616 + lo) % d = r at *
  clear e c hl hd hT
  go_enter Tryz.func123, Tryz.ntmps123
  go_wp2_with fail
  refine D.out.mono ?_
  rintro e w1 ⟨rfl, h⟩
  have H := Lib.hid h
  clear h
  go_wp2_with fail
  go_ret
  exact ⟨rfl, H.out⟩
theorem norm_any (w : World) (A : Option Addr) (n ca a : Nat) (hA : Rw w A n ca a) (hn : n < 1099511627776) (la : nl a ≤ 8192) :
  Calls Tryz.prog 76 #[.slice A n ca] w fun e w' => ∃ v, e = .returned (.tuple #[v, .int .i64 0]) ∧ Ans w w' v a := by
 have T := Lib.hid (trim_any w A n ca a hA hn)
 have O0 := Lib.hid (Own.made w (nl a))
 have hb : nl a < 1099511627776 := by omega
 have HM := make_row (nl a) hb w
 have NA : Nt w A ca a := hA.top
 obtain ⟨w2, HC, HI⟩ := copy_eq _ A (nl a) ca a w.heap.size (nl a) (nl a) (Own.bk O0.out) (Nt.next NA (box _ _)) (Nat.le_refl _)
 have O1 := Lib.hid (Own.inp O0.out HI)
 have q0 : decide ((nl a : Int) > 8192) = false := decide_eq_false (by omega)
 have q1 : decide ((8192 : Int) < (nl a : Int)) = false := decide_eq_false (by omega)
 have q2 : decide (8192 < nl a) = false := decide_eq_false (by omega)
 have HB := Lib.hid hb
 clear hA hn la NA HI hb
 go_enter Tryz.func76, Tryz.ntmps76
 go_wp2_with fail
 refine T.out.mono ?_
 rintro e w1 ⟨rfl, rfl⟩
 go_wp2_with fail
 go_ret2
 exact ⟨_, rfl, ⟨_, _, rfl, O1.out, Nat.le_refl _, HB.out⟩⟩
end Go.Proofs.YtelfmddcjlocpaaGreatDoor.GW
end
