/- natmul.rows in place. Conditions: rows of at most 16384 limbs; math/bits' table is laid. natmul.Mul where the shorter factor has fewer than 40 limbs. Conditions: at most 8192 limbs; math/bits' table is laid. -/
import Derived.Test.YtelfmddcjlocpaaGreatDoorKRoundQuotedGN
import Derived.OwnWalk
import Derived.Deep.QuietTactic
import Derived.BigQuiet
import Derived.Tactics2
section
set_option linter.unusedVariables false
namespace Go.Proofs.YtelfmddcjlocpaaGreatDoor.GO
open Go.RowKit Go.Proofs.YtelfmddcjlocpaaGreatDoorW.PrintWords Go.Proofs.YtelfmddcjlocpaaGreatDoorW.PrintMore Go.Proofs.YtelfmddcjlocpaaGreatDoorW.PrintLast Go.Proofs.YtelfmddcjlocpaaGreatDoor.Num Go.Proofs.YtelfmddcjlocpaaGreatDoor.Ref Go.Proofs.YtelfmddcjlocpaaGreatDoor.GBase Go.Proofs.YtelfmddcjlocpaaGreatDoor.GTh Go.Proofs.YtelfmddcjlocpaaGreatDoor.GA Go.Proofs.YtelfmddcjlocpaaGreatDoor.GB Go.Proofs.YtelfmddcjlocpaaGreatDoor.GC Go.Proofs.YtelfmddcjlocpaaGreatDoor.GN
theorem wu_add {x y r : Nat} (h : x + y = r) (hr : r < 18446744073709551616) : IntKind.u64.wrap ((x : Int) + (y : Int)) = (r : Int) := by rw [IntKind.wrap_u64]; omega
theorem step_facts {T S a b i j c : Nat} (hc : c < 18446744073709551616) (e3 : T + c * pw (i + j) = S + a % pw i * dw b j * pw j) (e4 : T / pw (i + j) = S / pw (i + j)) :
  ∃ lo hi lo1 c1 d c2 h1 h2 T' : Nat, dw a i * dw b j % 18446744073709551616 = lo ∧ dw a i * dw b j / 18446744073709551616 = hi ∧ (lo + c) % 18446744073709551616 = lo1 ∧ (lo + c) / 18446744073709551616 = c1
   ∧ (dw T (i + j) + lo1) % 18446744073709551616 = d ∧ (dw T (i + j) + lo1) / 18446744073709551616 = c2 ∧ IntKind.u64.wrap ((hi : Int) + (c1 : Int)) = (h1 : Int) ∧ IntKind.u64.wrap ((h1 : Int) + (c2 : Int)) = (h2 : Int)
   ∧ h2 < 18446744073709551616 ∧ d < 18446744073709551616 ∧ T + d * pw (i + j) = T' + dw T (i + j) * pw (i + j) ∧ T' + h2 * pw (i + 1 + j) = S + a % pw (i + 1) * dw b j * pw j ∧ T' / pw (i + 1 + j) = S / pw (i + 1 + j) := by
 obtain ⟨s1, s2, s3, s4, s5⟩ := limb_step (dw_lt a i) (dw_lt b j) (dw_lt T (i + j)) hc
 obtain ⟨T', t1, t2, t3⟩ := row_step e3 e4 s3 (Nat.mod_lt _ (by decide))
 exact ⟨_, _, _, _, _, _, _, _, T', rfl, rfl, rfl, rfl, rfl, rfl, wu_add rfl s1, wu_add rfl s2, s2, Nat.mod_lt _ (by decide), t1, t2, t3⟩
theorem ij_wrap {i j : Nat} (h : i + j < 1099511627776) : IntKind.i64.wrap ((i : Int) + (j : Int)) = ((i + j : Nat) : Int) := by rw [IntWalk.i64_in _ (by omega)]; omega
theorem ij_w64 {i j : Nat} (h : i + j < 1099511627776) : wrap64 ((i : Int) + (j : Int)) = ((i + j : Nat) : Int) := by rw [w64 (by omega) (by omega)]; omega
theorem succ_val {i : Nat} (h : i < 1099511627776) : Value.int .i64 (wrap64 ((i : Int) + 1)) = Value.int .i64 ((i + 1 : Nat) : Int) := by rw [w64 (by omega) (by omega)]; exact congrArg _ (by omega)
theorem row_end {T S a b n j c : Nat} (e3 : T + c * pw (n + j) = S + a % pw n * dw b j * pw j) (e4 : T / pw (n + j) = S / pw (n + j)) (ha : a < pw n) (eS : S = a * (b % pw j)) :
  dw T (n + j) = 0 ∧ T + c * pw (n + j) = a * (b % pw (j + 1)) := by
 have hS : S < pw (n + j) := by
  rw [eS, pw_add]
  have h1 := Nat.mod_lt b (pw_pos j)
  exact Nat.lt_of_lt_of_le (Nat.mul_lt_mul_of_lt_of_le ha (Nat.le_of_lt h1) (pw_pos j)) (Nat.le_refl _)
 refine ⟨?_, ?_⟩
 ·unfold dw
  rw [e4, Nat.div_eq_of_lt hS, Nat.zero_mod]
 ·rw [e3, Nat.mod_eq_of_lt ha, eS, mod_succ, Nat.mul_add]
  congr 1
  ac_rfl
set_option maxRecDepth 100000 in
set_option maxHeartbeats 400000 in
theorem rows_any (W w : World) (A B : Option Addr) (ca cb a b G N cz : Nat) (hO : Own W w G N 0) (hA : Nt W A ca a) (hB : Nt W B cb b) (hN : N = nl a + nl b) (la : nl a ≤ 8192) (lb : nl b ≤ 8192) :
  Calls Tryz.prog 177 #[.slice (some ⟨G, 0, none⟩) N cz, .slice A (nl a) ca, .slice B (nl b) cb] w fun e w' => e = .returned (.tuple #[]) ∧ Own W w' G N (a * b) := by
 have RA := Lib.hid hA
 have RB := Lib.hid hB
 have O0 := Lib.hid hO
 generalize hn : nl a = n at *
 generalize hm : nl b = m at *
 have HL := Lib.hid (And.intro hn (And.intro hm (And.intro la (And.intro lb hN))))
 clear hA hB hO la lb hn hm hN
 go_enter Tryz.func177, Tryz.ntmps177
 go_wp2_with fail
 go_loopg [14] m (fun g i wr => ∃ j S : Nat, j ≤ m ∧ g = m - j ∧ i = .int .i64 j ∧ S = a * (b % pw j) ∧ Own W wr G N S)
 case atStart => exact ⟨0, 0, Nat.zero_le _, rfl, rfl, by rw [pw_zero, Nat.mod_one, Nat.mul_zero], O0.out⟩
 case round =>
  obtain ⟨j, S, hj, rfl, rfl, e1, ho⟩ := hrel
  have O := Lib.hid ho
  clear ho O0
  by_cases c0 : j < m
  ·have l1 : decide ((j : Int) < (m : Int)) = true := decide_eq_true (by omega)
   have l2 : (j : Int) < (m : Int) := by omega
   have HJ := Lib.hid (And.intro c0 e1)
   clear e1 hj
   go_wp2_with fail
   go_loopg [7, 19] n (fun g cv iv wr => ∃ i T c : Nat, i ≤ n ∧ g = n - i ∧ iv = .int .i64 i ∧ cv = .int .u64 (c : Int) ∧ c < 18446744073709551616 ∧ T + c * pw (i + j) = S + a % pw i * dw b j * pw j ∧ T / pw (i + j) = S / pw (i + j) ∧ Own W wr G N T)
   case atStart => exact ⟨0, S, 0, Nat.zero_le _, rfl, rfl, rfl, by decide, by rw [Nat.zero_mul, pw_zero, Nat.mod_one, Nat.zero_mul, Nat.zero_mul], rfl, O.out⟩
   case round =>
    obtain ⟨i, T, c, hi_, rfl, rfl, rfl, e2, e3, e4, ho⟩ := hrel
    have O2 := Lib.hid ho
    have EE := Lib.hid (And.intro e2 (And.intro e3 e4))
    clear ho e2 e3 e4
    have hN := HL.out.2.2.2.2
    have hn8 := HL.out.2.2.1
    have hm8 := HL.out.2.2.2.1
    have hjm := HJ.out.1
    by_cases c1 : i < n
    ·have k1 : decide ((i : Int) < (n : Int)) = true := decide_eq_true (by omega)
     have k2 : (i : Int) < (n : Int) := by omega
     have k0 : i + j < 1099511627776 := by omega
     have k3 := ij_wrap k0
     have k4 := ij_w64 k0
     have k5 : i + j < N := by omega
     have k6 : ((i + j : Nat) : Int) < (N : Int) := by omega
     have rA := RA.out.next O2.out.below
     have rB := RB.out.next O2.out.below
     have iA : nl a = n := HL.out.1
     have iB : nl b = m := HL.out.2.1
     rcases rA.row with ⟨_, e, _⟩ | ⟨GA', oA, rfl, qA⟩
     ·omega
     rcases rB.row with ⟨_, e, _⟩ | ⟨GB', oB, rfl, qB⟩
     ·omega
     have za := qA.cell i (by omega)
     have zb := qB.cell j (by omega)
     obtain ⟨lo, hi, lo1, c1', d, c2', h1, h2, T', f1, f2, f3, f4, f5, f6, u1, u2, f7, f8, f9, f10, f11⟩ := step_facts EE.out.1 EE.out.2.1 EE.out.2.2
     have CM := Lib.hid (fun (w : World) => mul64_any (dw a i) (dw b j) (dw_lt a i) (dw_lt b j) w)
     rw [f1, f2] at CM
     have A1 := Lib.hid (add64c0 lo c lo1 c1' f3 f4)
     have A2 := Lib.hid (add64c0 (dw T (i + j)) lo1 d c2' f5 f6)
     have ST := Lib.hid (And.intro f7 (And.intro f8 (And.intro f9 (And.intro f10 f11))))
     have HI := Lib.hid (And.intro hi_ c1)
     generalize hx1 : dw a i = x1 at *
     generalize hx2 : dw b j = x2 at *
     generalize hz1 : dw T (i + j) = z1 at *
     generalize hij : i + j = ij at *
     clear rA rB iA iB qA qB f1 f2 f3 f4 f5 f6 f7 f8 f9 f10 f11 hN hn8 hm8 hjm hi_ c1 k0 hx1 hx2
     go_wp2_with fail
     go_quiet ((go_at_call 156; refine Calls.quiet_of_same (CM.out _)))
     have O3 := Lib.hid (O2.out.next (dn_below _ nq))
     generalize wr.drewN nq = w3 at *
     have zs := O3.out.cell (j := ij) k5
     have fs := O3.out.frozen (j := ij)
     rw [hz1] at zs
     have O4 := Lib.hid (O3.out.put (i := ij) (d := d) (y := T') ST.out.2.1 (by rw [hz1]; exact ST.out.2.2.1))
     go_wp2_with (first | rw [A1.out] | rw [A2.out]; go_simp)
     go_roundg (n - (i + 1))
     case measure => have := HI.out.2; omega
     case rel => exact ⟨i + 1, T', h2, HI.out.2, rfl, succ_val (by have := HI.out.2; have := HL.out.2.2.1; omega), rfl, ST.out.1, ST.out.2.2.2.1, ST.out.2.2.2.2, O4.out⟩
    ·obtain rfl : i = n := by omega
     have k1 : decide ((i : Int) < (i : Int)) = false := decide_eq_false (by omega)
     have k0 : j + i < 1099511627776 := by omega
     have k3 := ij_wrap k0
     have k4 := ij_w64 k0
     have k5 : j + i < N := by omega
     have k6 : ((j + i : Nat) : Int) < (N : Int) := by omega
     have ha : a < pw i := nl_le_iff.1 (Nat.le_of_eq HL.out.1)
     obtain ⟨r1, r2⟩ := row_end EE.out.2.1 EE.out.2.2 ha HJ.out.2
     rw [Nat.add_comm i j] at r1 r2
     have zs := O2.out.cell (j := j + i) k5
     have fs := O2.out.frozen (j := j + i)
     have O3 := Lib.hid (O2.out.put (i := j + i) (d := c) (y := a * (b % pw (j + 1))) EE.out.1 (by rw [r1, Nat.zero_mul, Nat.add_zero]; exact r2))
     generalize dw T (j + i) = z1 at *
     generalize hij : j + i = ij at *
     clear hN hn8 hm8 hjm hi_ c1 k0 ha r1 r2
     go_wp2_with fail
     go_roundg (m - (j + 1))
     case measure => have := HJ.out.1; omega
     case rel => exact ⟨j + 1, _, HJ.out.1, rfl, succ_val (by have := HJ.out.1; have := HL.out.2.2.2.1; omega), rfl, O3.out⟩
  ·obtain rfl : j = m := by omega
   have l1 : decide ((j : Int) < (j : Int)) = false := decide_eq_false (by omega)
   have hb : b % pw j = b := Nat.mod_eq_of_lt (nl_le_iff.1 (Nat.le_of_eq HL.out.2.1))
   rw [e1, hb] at O
   clear e1 hb hj c0
   go_wp2_with fail
   go_end0
   exact ⟨rfl, O.out⟩
end Go.Proofs.YtelfmddcjlocpaaGreatDoor.GO
end
section
set_option linter.unusedVariables false
namespace Go.Proofs.YtelfmddcjlocpaaGreatDoor.GP
open Go.RowKit Go.Proofs.YtelfmddcjlocpaaGreatDoorW.PrintWords Go.Proofs.YtelfmddcjlocpaaGreatDoorW.PrintMore Go.Proofs.YtelfmddcjlocpaaGreatDoorW.PrintLast Go.Proofs.YtelfmddcjlocpaaGreatDoor.Num Go.Proofs.YtelfmddcjlocpaaGreatDoor.Ref Go.Proofs.YtelfmddcjlocpaaGreatDoor.GBase Go.Proofs.YtelfmddcjlocpaaGreatDoor.GTh Go.Proofs.YtelfmddcjlocpaaGreatDoor.GA Go.Proofs.YtelfmddcjlocpaaGreatDoor.GB Go.Proofs.YtelfmddcjlocpaaGreatDoor.GC Go.Proofs.YtelfmddcjlocpaaGreatDoor.GN Go.Proofs.YtelfmddcjlocpaaGreatDoor.GO
structure AnT (W w : World) (v : Value) (x : Nat) : Prop where mk :: (ex : ∃ G N c, v = .slice (some ⟨G, 0, none⟩) (nl x) c ∧ Own W w G N x ∧ nl x ≤ N ∧ nl x ≤ c ∧ N < 1099511627776)
theorem mtrim_some (w : World) (G o n c x : Nat) (h : At w G o n x) (hc : n ≤ c) (hn : n < 1099511627776) : Calls Tryz.prog 164 #[.slice (some ⟨G, o, none⟩) n c] w fun e w' => e = .returned (.slice (some ⟨G, o, none⟩) (nl x) (nl x)) ∧ w' = w := by
 have HC := Lib.hid h
 have HN := Lib.hid (And.intro hc hn)
 clear h hc hn
 go_enter Tryz.func164, Tryz.ntmps164
 go_wp2_with fail
 go_loopg [3] n (fun g i wr => g ≤ n ∧ nl x ≤ g ∧ i = .int .i64 g ∧ wr = w)
 case atStart => exact ⟨Nat.le_refl _, nl_le_iff.2 HC.out.big, rfl, rfl⟩
 case round =>
  obtain ⟨hg, hx, rfl, rfl⟩ := hrel
  generalize gk = m at *
  have hn := HN.out.2
  have hcc := HN.out.1
  by_cases c0 : m = 0
  ·subst c0
   have e : nl x = 0 := by omega
   clear hg hx hn hcc
   go_wp2_with fail
   go_ret
   exact ⟨by rw [e]; rfl, rfl⟩
  ·obtain ⟨k, hk⟩ : ∃ k, m = k + 1 := ⟨m - 1, by omega⟩
   have q0 : decide (0 < m) = true := decide_eq_true (by omega)
   have q1 : IntKind.i64.wrap ((m : Int) - 1) = (k : Int) := by rw [IntWalk.i64_in _ (by omega)]; omega
   have q2 : (k : Int) < (n : Int) := by omega
   have q3 : decide (k < n) = true := decide_eq_true (by omega)
   have cc := HC.out.cell k (by omega)
   by_cases cd : dw x k = 0
   ·have H := Lib.hid (And.intro hk (show nl x ≤ k from nl_le_iff.2 (lt_of_dw (by rw [← hk]; exact nl_le_iff.1 hx) cd)))
    rw [cd] at cc
    clear hk hx hg c0 cd hn hcc
    go_wp2_with fail
    go_roundg k
    case measure => have := H.out.1; omega
    case rel => exact ⟨by omega, H.out.2, rfl, rfl⟩
   ·have e : nl x = m := by rw [hk]; exact nl_of (by rw [← hk]; exact nl_le_iff.1 hx) cd
    generalize dw x k = d at *
    have q4 : ((d : Int) == 0) = false := by simpa using cd
    have q5 : (m : Int) ≤ (c : Int) := by omega
    have q6 : (m : Int) ≤ (m : Int) := Int.le_refl _
    have E := Lib.hid e
    clear hk hx c0 cd e hn hg
    go_wp2_with fail
    go_ret
    exact ⟨by rw [E.out]; rfl, rfl⟩
set_option maxRecDepth 100000 in
theorem fill_short (W w : World) (A B : Option Addr) (ca cb a b G N cz : Nat) (hO : Own W w G N 0) (hA : Nt W A ca a) (hB : Nt W B cb b) (hN : N = nl a + nl b) (la : nl a ≤ 8192) (lb : nl b ≤ 8192) (hs : nl a < 40 ∨ nl b < 40) :
  Calls Tryz.prog 163 #[.slice (some ⟨G, 0, none⟩) N cz, .slice A (nl a) ca, .slice B (nl b) cb] w fun e w' => e = .returned (.tuple #[]) ∧ Own W w' G N (a * b) := by
 have R1 := Lib.hid (rows_any W w A B ca cb a b G N cz hO hA hB hN la lb)
 have R2 := Lib.hid (rows_any W w B A cb ca b a G N cz hO hB hA (by rw [hN, Nat.add_comm]) lb la)
 clear hO hA hB hN
 generalize nl a = n at *
 generalize nl b = m at *
 by_cases c : n < m
 ·have l1 : decide ((n : Int) < (m : Int)) = true := decide_eq_true (by omega)
  have l2 : decide ((n : Int) < 40) = true := decide_eq_true (by omega)
  rw [Nat.mul_comm b a] at R2
  go_enter Tryz.func163, Tryz.ntmps163
  go_wp2_with fail
  refine R2.out.mono ?_
  rintro e w1 ⟨rfl, h⟩
  have H := Lib.hid h
  clear h
  go_wp2_with fail
  go_end0
  exact ⟨rfl, H.out⟩
 ·have l1 : decide ((n : Int) < (m : Int)) = false := decide_eq_false (by omega)
  have l2 : decide ((m : Int) < 40) = true := decide_eq_true (by omega)
  go_enter Tryz.func163, Tryz.ntmps163
  go_wp2_with fail
  refine R1.out.mono ?_
  rintro e w1 ⟨rfl, h⟩
  have H := Lib.hid h
  clear h
  go_wp2_with fail
  go_end0
  exact ⟨rfl, H.out⟩
def FillC (a b : Nat) : Prop := ∀ (W w : World) (A B : Option Addr) (ca cb G cz : Nat), Own W w G (nl a + nl b) 0 → Nt W A ca a → Nt W B cb b → Calls Tryz.prog 163 #[.slice (some ⟨G, 0, none⟩) (nl a + nl b : Nat) cz, .slice A (nl a) ca, .slice B (nl b) cb] w fun e w' => e = .returned (.tuple #[]) ∧ Own W w' G (nl a + nl b) (a * b)
theorem fillC_short {a b : Nat} (la : nl a ≤ 8192) (lb : nl b ≤ 8192) (hs : nl a < 40 ∨ nl b < 40) : FillC a b :=
 fun W w A B ca cb G cz hO hA hB => fill_short W w A B ca cb a b G _ cz hO hA hB rfl la lb hs
theorem product_any (w : World) (A B : Option Addr) (ca cb a b : Nat) (hA : Nt w A ca a) (hB : Nt w B cb b) (hF : FillC a b) (hs : nl a + nl b < 1099511627776) :
  Calls Tryz.prog 136 #[.slice A (nl a) ca, .slice B (nl b) cb] w fun e w' => ∃ v, e = .returned v ∧ AnT w w' v (a * b) := by
 have hab : a * b < pw (nl a + nl b) := by
  rw [pw_add]
  have h1 := nl_lt a
  have h2 := nl_lt b
  exact Nat.lt_of_lt_of_le (Nat.mul_lt_mul_of_lt_of_le h1 (Nat.le_of_lt h2) (pw_pos _)) (Nat.le_refl _)
 have F := Lib.hid (fun w' G cz hO => hF w w' A B ca cb G cz hO hA hB)
 clear hA hB hF
 obtain ⟨N, hN⟩ : ∃ N, N = nl a + nl b := ⟨_, rfl⟩
 rw [← hN] at hab hs F
 have q1 : IntKind.i64.wrap (((nl a : Nat) : Int) + ((nl b : Nat) : Int)) = (N : Int) := by rw [ij_wrap (by omega), hN]
 have q2 : wrap64 (((nl a : Nat) : Int) + ((nl b : Nat) : Int)) = (N : Int) := by rw [ij_w64 (by omega), hN]
 have HB := Lib.hid (And.intro hab hs)
 clear hab hN
 generalize nl a = n at *
 generalize nl b = m at *
 go_enter Tryz.func136, Tryz.ntmps136
 go_wp2_with (rw [make_row _ hs]; go_simp)
 have O0 := Lib.hid (Own.made w N)
 refine (F.out _ _ _ O0.out).mono ?_
 rintro e w1 ⟨rfl, h⟩
 have H := Lib.hid h
 have T := Lib.hid (mtrim_some w1 w.heap.size 0 N N (a * b) (h.at HB.out.1) (Nat.le_refl _) HB.out.2)
 clear h
 go_wp2_with fail
 refine T.out.mono ?_
 rintro e w2 ⟨rfl, rfl⟩
 go_wp2_with fail
 go_ret
 exact ⟨_, rfl, ⟨⟨_, _, _, rfl, H.out, nl_le_iff.2 HB.out.1, Nat.le_refl _, HB.out.2⟩⟩⟩
theorem mtold_ok (w : World) (v : Value) (A : Option Addr) (n c : Nat) (hv : v = .slice A n c) (hn : n ≤ 8192) : Calls Tryz.prog 135 #[v] w fun e w' => e = .returned (.tuple #[v, .int .i64 0]) ∧ w' = w := by
 subst hv
 have q0 : decide ((8192 : Int) < (n : Int)) = false := decide_eq_false (by omega)
 go_enter Tryz.func135, Tryz.ntmps135
 go_wp2_with fail
 go_ret2
 exact ⟨rfl, rfl⟩
theorem mul_any (w : World) (A B : Option Addr) (ca cb a b : Nat) (hA : Nt w A ca a) (hB : Nt w B cb b) (hF : FillC a b) (la : nl a ≤ 8192) (lb : nl b ≤ 8192) (ls : nl (a * b) ≤ 8192) :
  Calls Tryz.prog 90 #[.slice A (nl a) ca, .slice B (nl b) cb] w fun e w' => ∃ v, e = .returned (.tuple #[v, .int .i64 0]) ∧ AnT w w' v (a * b) := by
 have FA := Lib.hid (form_any w A ca a hA la)
 have FB := Lib.hid (form_any w B cb b hB lb)
 have P := Lib.hid (product_any w A B ca cb a b hA hB hF (by omega))
 have LS := Lib.hid ls
 clear hA hB hF la lb ls
 generalize nl a = n at *
 generalize nl b = m at *
 go_enter Tryz.func90, Tryz.ntmps90
 go_wp2_with fail
 refine FA.out.mono ?_
 rintro e w1 ⟨rfl, rfl⟩
 go_wp2_with fail
 refine FB.out.mono ?_
 rintro e w2 ⟨rfl, rfl⟩
 go_wp2_with fail
 refine P.out.mono ?_
 rintro e w3 ⟨v, rfl, h⟩
 have H := Lib.hid h
 obtain ⟨⟨G, N, c, hv, _, _, _, _⟩⟩ := h
 have T := Lib.hid (mtold_ok w3 v (some ⟨G, 0, none⟩) (nl (a * b)) c hv LS.out)
 clear hv
 go_wp2_with fail
 refine T.out.mono ?_
 rintro e w4 ⟨rfl, rfl⟩
 go_wp2_with fail
 go_ret2
 exact ⟨v, rfl, H.out⟩
end Go.Proofs.YtelfmddcjlocpaaGreatDoor.GP
end
