/- natmul.slabs and fill: products of any length. Conditions: at most 8192 limbs each. -/
import Derived.Test.YtelfmddcjlocpaaGreatDoorKRoundQuotedGT
set_option linter.unusedVariables false
namespace Go.Proofs.YtelfmddcjlocpaaGreatDoor.GU
open Go.RowKit Go.Proofs.YtelfmddcjlocpaaGreatDoorW.PrintWords Go.Proofs.YtelfmddcjlocpaaGreatDoorW.PrintMore Go.Proofs.YtelfmddcjlocpaaGreatDoorW.PrintLast Go.Proofs.YtelfmddcjlocpaaGreatDoor.Num Go.Proofs.YtelfmddcjlocpaaGreatDoor.Ref Go.Proofs.YtelfmddcjlocpaaGreatDoor.GBase Go.Proofs.YtelfmddcjlocpaaGreatDoor.GTh Go.Proofs.YtelfmddcjlocpaaGreatDoor.GA Go.Proofs.YtelfmddcjlocpaaGreatDoor.GB Go.Proofs.YtelfmddcjlocpaaGreatDoor.GC Go.Proofs.YtelfmddcjlocpaaGreatDoor.GG Go.Proofs.YtelfmddcjlocpaaGreatDoor.GI Go.Proofs.YtelfmddcjlocpaaGreatDoor.GN Go.Proofs.YtelfmddcjlocpaaGreatDoor.GO Go.Proofs.YtelfmddcjlocpaaGreatDoor.GP Go.Proofs.YtelfmddcjlocpaaGreatDoor.GQ Go.Proofs.YtelfmddcjlocpaaGreatDoor.GR Go.Proofs.YtelfmddcjlocpaaGreatDoor.GK Go.Proofs.YtelfmddcjlocpaaGreatDoor.GS Go.Proofs.YtelfmddcjlocpaaGreatDoor.GT
theorem slab_num (a t d : Nat) : a % pw (t + d) = a % pw t + (a / pw t % pw d) * pw t := by rw [pw_add, Nat.mod_mul, Nat.mul_comm (pw t)]
theorem slab_sz {n m t en : Nat} (hn : n ≤ 16384) (hm : m ≤ n) (h0 : 0 < m) (ht : t < n) (he : en = min (t + m) n) : t < en ∧ en ≤ n ∧ en - t ≤ m ∧ IntKind.i64.wrap ((t : Int) + (m : Int)) = ((t + m : Nat) : Int) ∧ wrap64 ((t : Int) + (m : Int)) = ((t + m : Nat) : Int) ∧ (t : Int) ≤ (en : Int) ∧ (en : Int) ≤ (n : Int) ∧ n + m - (t + m) < n + m - t ∧ t + m ≤ n + m ∧ (en = t + m ∨ (en = n ∧ n ≤ t + m)) := by
 refine ⟨by omega, by omega, by omega, ?_, ?_, by omega, by omega, by omega, by omega, by omega⟩
 ·rw [IntWalk.i64_in _ (by omega)]; omega
 ·rw [w64 (by omega) (by omega)]; omega
set_option maxRecDepth 100000 in
set_option maxHeartbeats 1000000 in
theorem slabs_any (W w : World) (A B : Option Addr) (ca cb a b G N cz : Nat) (hO : Own W w G N 0) (hA : Nt W A ca a) (hB : Nt W B cb b) (hN : N = nl a + nl b) (la : nl a ≤ 16384) (lb : nl b ≤ nl a) (b0 : 0 < nl b) (F : ∀ p, p < pw (nl b) → FillC p b) :
  Calls Tryz.prog 178 #[.slice (some ⟨G, 0, none⟩) N cz, .slice A (nl a) ca, .slice B (nl b) cb] w fun e w' => e = .returned (.tuple #[]) ∧ Own W w' G N (a * b) := by
 have hab : a * b < pw N := by
  rw [hN, pw_add]
  exact Nat.lt_of_lt_of_le (Nat.mul_lt_mul_of_lt_of_le (nl_lt a) (Nat.le_of_lt (nl_lt b)) (pw_pos _)) (Nat.le_refl _)
 have hcap := hA.cap
 rcases hA.row with ⟨_, e, _⟩ | ⟨GA', oA, rfl, r⟩
 ·omega
 have HR := Lib.hid r
 have RB := Lib.hid hB
 have Z := Lib.hid hO
 have PB := Lib.hid (fun (w : World) (A : Option Addr) (ca p : Nat) (hp : p < pw (nl b)) (hA : Nt w A ca p) (hB : Nt w B cb b) (hs : nl p + nl b < 1099511627776) => product_any w A B ca cb p b hA hB (F p hp) hs)
 have ea : a % pw (nl a) = a := Nat.mod_eq_of_lt (nl_lt a)
 generalize hn : nl a = n at *
 generalize hm : nl b = m at *
 have HL := Lib.hid (And.intro hab (And.intro la (And.intro lb (And.intro b0 (And.intro hN ea)))))
 have q4 : (n : Int) ≤ (ca : Int) := by omega
 have q9 : n ≤ ca := hcap
 clear hO hA hB hN la lb b0 F hab r hcap ea hn hm
 go_enter Tryz.func178, Tryz.ntmps178
 go_wp2_with fail
 go_loopg [6] (n + m) (fun g i wr => ∃ t : Nat, t ≤ n + m ∧ g = n + m - t ∧ i = .int .i64 t ∧ Own W wr G N (a % pw t * b))
 case atStart => exact ⟨0, Nat.zero_le _, rfl, rfl, by rw [pw_zero, Nat.mod_one, Nat.zero_mul]; exact Z.out⟩
 case round =>
  obtain ⟨t, ht, rfl, rfl, ho⟩ := hrel
  have Z2 := Lib.hid ho
  clear ho Z
  by_cases c1 : t < n
  ·have k1 : decide ((t : Int) < (n : Int)) = true := decide_eq_true (by omega)
   have k2 : (t : Int) < (n : Int) := by omega
   obtain ⟨tm, htm⟩ : ∃ tm, tm = t + m := ⟨_, rfl⟩
   have hb := HL.out.2.1
   have hb2 := HL.out.2.2.1
   have hb3 := HL.out.2.2.2.1
   have s4 : IntKind.i64.wrap ((t : Int) + (m : Int)) = (tm : Int) := by rw [IntWalk.i64_in _ (by omega)]; omega
   have s5' : wrap64 ((t : Int) + (m : Int)) = (tm : Int) := by rw [w64 (by omega) (by omega)]; omega
   by_cases c2 : n < tm
   ·have s5 := s4
    have k2' := k2
    have k5 : decide (n < tm) = true := decide_eq_true c2
    have k6 : (n : Int) < (tm : Int) := by omega
    clear hb hb2 hb3
    have HS := Lib.hid (slab_sz HL.out.2.1 HL.out.2.2.1 HL.out.2.2.2.1 c1 (en := n) (by omega))
    have s11 : (n : Int) ≤ (ca : Int) := by omega
    have s6 : (t : Int) ≤ (n : Int) := by omega
    have s7 : (n : Int) ≤ (n : Int) := by omega
    have s12 : ((n : Int) - (t : Int)) = ((n - t : Nat) : Int) := by omega
    have r0 := (HR.out.next Z2.out.below)
    have r1 : At wr GA' (oA + t) (n - t) (a / pw t % pw (n - t)) := ⟨Nat.mod_lt _ (pw_pos _), fun j hj => by
     rw [Nat.add_assoc, r0.cell (t + j) (by have := HS.out.2.1; omega), dw_part hj]⟩
    have hnum := slab_num a t (n - t)
    rw [show t + (n - t) = n by have := HS.out.1; omega] at hnum
    have hstep : a % pw n = a % pw (t + m) := by rw [HL.out.2.2.2.2.2, Nat.mod_eq_of_lt]; have := nl_lt a; exact Nat.lt_of_lt_of_le HR.out.big (pw_mono (by omega))
    have hs : a % pw t * b + (a / pw t % pw (n - t) * b) * pw t = a % pw (t + m) * b := by
     rw [← hstep, hnum, Nat.add_mul]
     congr 1
     ac_rfl
    have hlt : a % pw (t + m) * b < pw N := Nat.lt_of_le_of_lt (Nat.mul_le_mul_right b (Nat.mod_le a _)) HL.out.1
    have hp : a / pw t % pw (n - t) < pw m := Nat.lt_of_lt_of_le (Nat.mod_lt _ (pw_pos _)) (pw_mono HS.out.2.2.1)
    obtain ⟨p, hpe⟩ : ∃ p, p = a / pw t % pw (n - t) := ⟨_, rfl⟩
    rw [← hpe] at r1 hs hp
    have hbnd : n - t < 1099511627776 := by have := HS.out.2.1; have := HL.out.2.1; omega
    have T := Lib.hid (mtrim_some wr GA' (oA + t) (n - t) (n - t) p r1 (Nat.le_refl _) hbnd)
    have HP := Lib.hid (And.intro hs (And.intro hlt (And.intro hp htm)))
    have R1 := Lib.hid r1
    clear r0 r1 hnum hstep hs hlt hp hpe hbnd c1 ht htm k2' s5
    go_wp2_with fail
    refine T.out.mono ?_
    rintro e w1 ⟨rfl, rfl⟩
    clear T
    go_wp2_with fail
    have NP : Nt w1 (some ⟨GA', oA + t, none⟩) (nl p) p := ⟨Nat.le_refl _, .inr ⟨_, _, rfl, R1.out.top⟩⟩
    have D := Lib.hid (PB.out w1 _ _ p HP.out.2.2.1 NP (Nt.next RB.out Z2.out.below) (by
     have h1 := nl_le_iff.2 HP.out.2.2.1
     have h2 := HL.out.2.1
     have h3 := HL.out.2.2.1
     clear NP
     omega))
    clear NP
    refine D.out.mono ?_
    rintro e w2 ⟨v, rfl, ⟨⟨Gp, Np, cp, rfl, o, h1, h2, h3⟩⟩⟩
    have hne : Gp ≠ G := by have := Own.lt Z2.out; have := o.le; omega
    have Z3 := Lib.hid (Own.next Z2.out o.below)
    have AD := Lib.hid (addAt_any w2 (some ⟨Gp, 0, none⟩) cp (p * b) G N cz t (a % pw t * b) (Own.bk Z3.out) (Bk.nt (Own.bk o) h1 h2) (.inr (off_ne hne))
     (nl_shift (by have e1 := HP.out.1; have e2 := HP.out.2.1; generalize p * b * pw t = X at *; generalize a % pw t * b = Y at *; omega) (by have := HL.out.2.2.2.2.1; have := HS.out.1; have := HS.out.2.1; omega)) (by have := HL.out.2.1; have := HL.out.2.2.1; have := HL.out.2.2.2.2.1; omega) (by rw [HP.out.1]; exact HP.out.2.1))
    rw [HP.out.1] at AD
    clear o h1 h2 h3 hne D
    go_wp2_with fail
    refine AD.out.mono ?_
    rintro e w3 ⟨rfl, h⟩
    have Z4 := Lib.hid (Own.inp Z3.out h)
    clear h AD
    go_wp2_with fail
    go_roundg (n + m - (t + m))
    case measure => exact HS.out.2.2.2.2.2.2.2.1
    case rel => exact ⟨t + m, HS.out.2.2.2.2.2.2.2.2.1, rfl, by rw [HP.out.2.2.2], Z4.out⟩
   ·have s5 := s4
    have k2' := k2
    have k5 : decide (n < tm) = false := decide_eq_false c2
    have k6 : ¬ (n : Int) < (tm : Int) := by omega
    have k7 : ¬ tm = t := by omega
    have k8 : tm ≤ n := by omega
    clear hb hb2 hb3
    have HS := Lib.hid (slab_sz HL.out.2.1 HL.out.2.2.1 HL.out.2.2.2.1 c1 (en := tm) (by omega))
    have s11 : (tm : Int) ≤ (ca : Int) := by omega
    have s6 : (t : Int) ≤ (tm : Int) := by omega
    have s7 : (tm : Int) ≤ (n : Int) := by omega
    have s12 : ((tm : Int) - (t : Int)) = ((tm - t : Nat) : Int) := by omega
    have r0 := (HR.out.next Z2.out.below)
    have r1 : At wr GA' (oA + t) (tm - t) (a / pw t % pw (tm - t)) := ⟨Nat.mod_lt _ (pw_pos _), fun j hj => by
     rw [Nat.add_assoc, r0.cell (t + j) (by have := HS.out.2.1; omega), dw_part hj]⟩
    have hnum := slab_num a t (tm - t)
    rw [show t + (tm - t) = tm by have := HS.out.1; omega] at hnum
    have hstep : a % pw tm = a % pw (t + m) := by rw [htm]
    have hs : a % pw t * b + (a / pw t % pw (tm - t) * b) * pw t = a % pw (t + m) * b := by
     rw [← hstep, hnum, Nat.add_mul]
     congr 1
     ac_rfl
    have hlt : a % pw (t + m) * b < pw N := Nat.lt_of_le_of_lt (Nat.mul_le_mul_right b (Nat.mod_le a _)) HL.out.1
    have hp : a / pw t % pw (tm - t) < pw m := Nat.lt_of_lt_of_le (Nat.mod_lt _ (pw_pos _)) (pw_mono HS.out.2.2.1)
    obtain ⟨p, hpe⟩ : ∃ p, p = a / pw t % pw (tm - t) := ⟨_, rfl⟩
    rw [← hpe] at r1 hs hp
    have hbnd : tm - t < 1099511627776 := by have := HS.out.2.1; have := HL.out.2.1; omega
    have T := Lib.hid (mtrim_some wr GA' (oA + t) (tm - t) (tm - t) p r1 (Nat.le_refl _) hbnd)
    have HP := Lib.hid (And.intro hs (And.intro hlt (And.intro hp htm)))
    have R1 := Lib.hid r1
    clear r0 r1 hnum hstep hs hlt hp hpe hbnd c1 ht htm k2' s5
    go_wp2_with fail
    refine T.out.mono ?_
    rintro e w1 ⟨rfl, rfl⟩
    clear T
    go_wp2_with fail
    have NP : Nt w1 (some ⟨GA', oA + t, none⟩) (nl p) p := ⟨Nat.le_refl _, .inr ⟨_, _, rfl, R1.out.top⟩⟩
    have D := Lib.hid (PB.out w1 _ _ p HP.out.2.2.1 NP (Nt.next RB.out Z2.out.below) (by
     have h1 := nl_le_iff.2 HP.out.2.2.1
     have h2 := HL.out.2.1
     have h3 := HL.out.2.2.1
     clear NP
     omega))
    clear NP
    refine D.out.mono ?_
    rintro e w2 ⟨v, rfl, ⟨⟨Gp, Np, cp, rfl, o, h1, h2, h3⟩⟩⟩
    have hne : Gp ≠ G := by have := Own.lt Z2.out; have := o.le; omega
    have Z3 := Lib.hid (Own.next Z2.out o.below)
    have AD := Lib.hid (addAt_any w2 (some ⟨Gp, 0, none⟩) cp (p * b) G N cz t (a % pw t * b) (Own.bk Z3.out) (Bk.nt (Own.bk o) h1 h2) (.inr (off_ne hne))
     (nl_shift (by have e1 := HP.out.1; have e2 := HP.out.2.1; generalize p * b * pw t = X at *; generalize a % pw t * b = Y at *; omega) (by have := HL.out.2.2.2.2.1; have := HS.out.1; have := HS.out.2.1; omega)) (by have := HL.out.2.1; have := HL.out.2.2.1; have := HL.out.2.2.2.2.1; omega) (by rw [HP.out.1]; exact HP.out.2.1))
    rw [HP.out.1] at AD
    clear o h1 h2 h3 hne D
    go_wp2_with fail
    refine AD.out.mono ?_
    rintro e w3 ⟨rfl, h⟩
    have Z4 := Lib.hid (Own.inp Z3.out h)
    clear h AD
    go_wp2_with fail
    go_roundg (n + m - (t + m))
    case measure => exact HS.out.2.2.2.2.2.2.2.1
    case rel => exact ⟨t + m, HS.out.2.2.2.2.2.2.2.2.1, rfl, by rw [HP.out.2.2.2], Z4.out⟩
  ·have k1 : decide ((t : Int) < (n : Int)) = false := decide_eq_false (by omega)
   have k1' : ¬ (t : Int) < (n : Int) := by omega
   have e : a % pw t = a := Nat.mod_eq_of_lt (Nat.lt_of_lt_of_le HR.out.big (pw_mono (by omega)))
   rw [e] at Z2
   clear e c1 ht
   go_wp2_with fail
   go_end0
   exact ⟨rfl, Z2.out⟩
set_option maxRecDepth 100000 in
theorem fill_ge (w : World) (Q : Ending → World → Prop) (A B : Option Addr) (ca cb n m G N cz : Nat) (h40 : 40 ≤ m) (hle : m ≤ n) (hn : n ≤ 16384)
  (S : 2 * m ≤ n → Calls Tryz.prog 178 #[.slice (some ⟨G, 0, none⟩) N cz, .slice A n ca, .slice B m cb] w fun e w' => e = .returned (.tuple #[]) ∧ Q e w')
  (T : n < 2 * m → Calls Tryz.prog 179 #[.slice (some ⟨G, 0, none⟩) N cz, .slice A n ca, .slice B m cb] w fun e w' => e = .returned (.tuple #[]) ∧ Q e w') :
  Calls Tryz.prog 163 #[.slice (some ⟨G, 0, none⟩) N cz, .slice A n ca, .slice B m cb] w fun e w' => e = .returned (.tuple #[]) ∧ Q e w' := by
 have SS := Lib.hid S
 have TT := Lib.hid T
 have l1 : decide ((n : Int) < (m : Int)) = false := decide_eq_false (by omega)
 have l1' : decide (n < m) = false := decide_eq_false (by omega)
 have l2' : decide (m < 40) = false := decide_eq_false (by omega)
 have l2 : decide ((m : Int) < 40) = false := decide_eq_false (by omega)
 have q1 : IntKind.i64.wrap (2 * (m : Int)) = ((2 * m : Nat) : Int) := by rw [IntWalk.i64_in _ (by omega)]; omega
 have q2 : wrap64 (2 * (m : Int)) = ((2 * m : Nat) : Int) := by rw [w64 (by omega) (by omega)]; omega
 have q3 : wrap64 (2 * (m : Int)) = 2 * (m : Int) := by rw [w64 (by omega) (by omega)]
 clear S T q2
 by_cases c : 2 * m ≤ n
 ·have R := Lib.hid (SS.out c)
  have l3 : decide ((n : Int) ≥ ((2 * m : Nat) : Int)) = true := decide_eq_true (by omega)
  have l4 : decide (((2 * m : Nat) : Int) ≤ (n : Int)) = true := decide_eq_true (by omega)
  have l5 : decide (2 * (m : Int) ≤ (n : Int)) = true := decide_eq_true (by omega)
  have l6 : decide (2 * m ≤ n) = true := decide_eq_true c
  clear SS TT hle hn h40
  go_enter Tryz.func163, Tryz.ntmps163
  go_wp2_with fail
  refine R.out.mono ?_
  rintro e w1 ⟨rfl, h⟩
  have H := Lib.hid h
  clear h
  go_wp2_with fail
  go_end0
  exact ⟨rfl, H.out⟩
 ·have R := Lib.hid (TT.out (by omega))
  have l3 : decide ((n : Int) ≥ ((2 * m : Nat) : Int)) = false := decide_eq_false (by omega)
  have l4 : decide (((2 * m : Nat) : Int) ≤ (n : Int)) = false := decide_eq_false (by omega)
  have l5 : decide (2 * (m : Int) ≤ (n : Int)) = false := decide_eq_false (by omega)
  have l6 : decide (2 * m ≤ n) = false := decide_eq_false c
  clear SS TT hle hn h40
  go_enter Tryz.func163, Tryz.ntmps163
  go_wp2_with fail
  refine R.out.mono ?_
  rintro e w1 ⟨rfl, h⟩
  have H := Lib.hid h
  clear h
  go_wp2_with fail
  go_end0
  exact ⟨rfl, H.out⟩
set_option maxRecDepth 100000 in
theorem fill_lt (w : World) (Q : Ending → World → Prop) (A B : Option Addr) (ca cb n m G N cz : Nat) (h40 : 40 ≤ m) (hle : m < n) (hn : n ≤ 16384)
  (S : 2 * m ≤ n → Calls Tryz.prog 178 #[.slice (some ⟨G, 0, none⟩) N cz, .slice A n ca, .slice B m cb] w fun e w' => e = .returned (.tuple #[]) ∧ Q e w')
  (T : n < 2 * m → Calls Tryz.prog 179 #[.slice (some ⟨G, 0, none⟩) N cz, .slice A n ca, .slice B m cb] w fun e w' => e = .returned (.tuple #[]) ∧ Q e w') :
  Calls Tryz.prog 163 #[.slice (some ⟨G, 0, none⟩) N cz, .slice B m cb, .slice A n ca] w fun e w' => e = .returned (.tuple #[]) ∧ Q e w' := by
 have SS := Lib.hid S
 have TT := Lib.hid T
 have l1 : decide ((m : Int) < (n : Int)) = true := decide_eq_true (by omega)
 have l1' : decide (m < n) = true := decide_eq_true (by omega)
 have l2' : decide (m < 40) = false := decide_eq_false (by omega)
 have l2 : decide ((m : Int) < 40) = false := decide_eq_false (by omega)
 have q1 : IntKind.i64.wrap (2 * (m : Int)) = ((2 * m : Nat) : Int) := by rw [IntWalk.i64_in _ (by omega)]; omega
 have q2 : wrap64 (2 * (m : Int)) = ((2 * m : Nat) : Int) := by rw [w64 (by omega) (by omega)]; omega
 have q3 : wrap64 (2 * (m : Int)) = 2 * (m : Int) := by rw [w64 (by omega) (by omega)]
 clear S T q2
 by_cases c : 2 * m ≤ n
 ·have R := Lib.hid (SS.out c)
  have l3 : decide ((n : Int) ≥ ((2 * m : Nat) : Int)) = true := decide_eq_true (by omega)
  have l4 : decide (((2 * m : Nat) : Int) ≤ (n : Int)) = true := decide_eq_true (by omega)
  have l5 : decide (2 * (m : Int) ≤ (n : Int)) = true := decide_eq_true (by omega)
  have l6 : decide (2 * m ≤ n) = true := decide_eq_true c
  clear SS TT hle hn h40
  go_enter Tryz.func163, Tryz.ntmps163
  go_wp2_with fail
  refine R.out.mono ?_
  rintro e w1 ⟨rfl, h⟩
  have H := Lib.hid h
  clear h
  go_wp2_with fail
  go_end0
  exact ⟨rfl, H.out⟩
 ·have R := Lib.hid (TT.out (by omega))
  have l3 : decide ((n : Int) ≥ ((2 * m : Nat) : Int)) = false := decide_eq_false (by omega)
  have l4 : decide (((2 * m : Nat) : Int) ≤ (n : Int)) = false := decide_eq_false (by omega)
  have l5 : decide (2 * (m : Int) ≤ (n : Int)) = false := decide_eq_false (by omega)
  have l6 : decide (2 * m ≤ n) = false := decide_eq_false c
  clear SS TT hle hn h40
  go_enter Tryz.func163, Tryz.ntmps163
  go_wp2_with fail
  refine R.out.mono ?_
  rintro e w1 ⟨rfl, h⟩
  have H := Lib.hid h
  clear h
  go_wp2_with fail
  go_end0
  exact ⟨rfl, H.out⟩
theorem fill_all : ∀ (n a b : Nat), nl a + nl b ≤ n → nl a ≤ 8192 → nl b ≤ 8192 → FillC a b := by
 intro n
 induction n using Nat.strongRecOn with
 | _ n ih =>
  intro a b hab la lb
  by_cases hs : nl a < 40 ∨ nl b < 40
  ·exact fillC_short la lb hs
  have core : ∀ x y : Nat, nl x + nl y ≤ n → nl x ≤ 8192 → 40 ≤ nl y → nl y ≤ nl x → ∀ (W w : World) (A B : Option Addr) (ca cb G cz : Nat), Own W w G (nl x + nl y) 0 → Nt W A ca x → Nt W B cb y →
    (2 * nl y ≤ nl x → Calls Tryz.prog 178 #[.slice (some ⟨G, 0, none⟩) (nl x + nl y : Nat) cz, .slice A (nl x) ca, .slice B (nl y) cb] w fun e w' => e = .returned (.tuple #[]) ∧ Own W w' G (nl x + nl y) (x * y))
    ∧ (nl x < 2 * nl y → Calls Tryz.prog 179 #[.slice (some ⟨G, 0, none⟩) (nl x + nl y : Nat) cz, .slice A (nl x) ca, .slice B (nl y) cb] w fun e w' => e = .returned (.tuple #[]) ∧ Own W w' G (nl x + nl y) (x * y)) := by
   intro x y hxy lx ly hle W w A B ca cb G cz hO hA hB
   refine ⟨fun h2 => slabs_any W w A B ca cb x y G _ cz hO hA hB rfl (by omega) hle (by omega) (fun p hp => ?_), fun h2 => ?_⟩
   ·have hp' := nl_le_iff.2 hp
    exact ih (nl p + nl y) (by omega) p y (Nat.le_refl _) (by omega) (by omega)
   ·obtain ⟨k, hk⟩ : ∃ k, k = (nl x + 1) / 2 := ⟨_, rfl⟩
    have a0 : nl (x % pw k) ≤ k := nl_le_iff.2 (Nat.mod_lt _ (pw_pos k))
    have b0 : nl (y % pw k) ≤ k := nl_le_iff.2 (Nat.mod_lt _ (pw_pos k))
    have a1 : nl (x / pw k) ≤ nl x - k := nl_le_iff.2 (by
     rw [Nat.div_lt_iff_lt_mul (pw_pos k), ← pw_add, show nl x - k + k = nl x by omega]; exact nl_lt x)
    have b1 : nl (y / pw k) ≤ nl x - k := nl_le_iff.2 (by
     rw [Nat.div_lt_iff_lt_mul (pw_pos k), ← pw_add, show nl x - k + k = nl x by omega]; exact Nat.lt_of_lt_of_le (nl_lt y) (pw_mono hle))
    have s0 : nl (x % pw k + x / pw k) ≤ k + 1 := nl_sum a0 (by clear a0 b0 b1; omega)
    have s1 : nl (y % pw k + y / pw k) ≤ k + 1 := nl_sum b0 (by clear a0 b0 a1 s0; omega)
    generalize ha0 : x % pw k = u0 at *
    generalize ha1 : x / pw k = u1 at *
    generalize hb0 : y % pw k = v0 at *
    generalize hb1 : y / pw k = v1 at *
    refine thirds_any W w A B ca cb x y G _ cz k u0 u1 v0 v1 hO hA hB rfl (by omega) hle h2 ly hk ha0.symm ha1.symm hb0.symm hb1.symm ?_ ?_ ?_
    ·clear ha0 ha1 hb0 hb1; exact ih (nl u0 + nl v0) (by omega) u0 v0 (Nat.le_refl _) (by omega) (by omega)
    ·clear ha0 ha1 hb0 hb1; exact ih (nl u1 + nl v1) (by omega) u1 v1 (Nat.le_refl _) (by omega) (by omega)
    ·clear ha0 ha1 hb0 hb1; exact ih (nl (u0 + u1) + nl (v0 + v1)) (by omega) (u0 + u1) (v0 + v1) (Nat.le_refl _) (by omega) (by omega)
  intro W w A B ca cb G cz hO hA hB
  by_cases c : nl b ≤ nl a
  ·obtain ⟨r1, r2⟩ := core a b hab la (by omega) c W w A B ca cb G cz hO hA hB
   exact fill_ge w (fun _ w' => Own W w' G (nl a + nl b) (a * b)) A B ca cb (nl a) (nl b) G _ cz (by omega) c (by omega) r1 r2
  ·obtain ⟨r1, r2⟩ := core b a (by omega) lb (by omega) (by omega) W w B A cb ca G cz (by rw [Nat.add_comm]; exact hO) hB hA
   rw [Nat.add_comm (nl b), Nat.mul_comm b] at r1 r2
   exact fill_lt w (fun _ w' => Own W w' G (nl a + nl b) (a * b)) B A cb ca (nl b) (nl a) G _ cz (by omega) (by omega) (by omega) r1 r2
theorem fillC_all {a b : Nat} (la : nl a ≤ 8192) (lb : nl b ≤ 8192) : FillC a b := fill_all _ a b (Nat.le_refl _) la lb
theorem mul_all (w : World) (A B : Option Addr) (ca cb a b : Nat) (hA : Nt w A ca a) (hB : Nt w B cb b) (la : nl a ≤ 8192) (lb : nl b ≤ 8192) (ls : nl (a * b) ≤ 8192) :
  Calls Tryz.prog 90 #[.slice A (nl a) ca, .slice B (nl b) cb] w fun e w' => ∃ v, e = .returned (.tuple #[v, .int .i64 0]) ∧ AnT w w' v (a * b) :=
 mul_any w A B ca cb a b hA hB (fillC_all la lb) la lb ls
end Go.Proofs.YtelfmddcjlocpaaGreatDoor.GU
