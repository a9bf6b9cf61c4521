/- nat.Cmp on rows of limbs of any length. Conditions: rows of less than 2^40 limbs. -/
import Derived.Test.YtapikmfckpgjoaaDoorKDdOrderGA
namespace Go.Proofs.YtapikmfckpgjoaaDoor.GB
open Go.RowKit Go.Proofs.YtapikmfckpgjoaaDoorW.PrintWords Go.Proofs.YtapikmfckpgjoaaDoorW.PrintMore Go.Proofs.YtapikmfckpgjoaaDoorW.PrintLast Go.Proofs.YtapikmfckpgjoaaDoor.Num Go.Proofs.YtapikmfckpgjoaaDoor.Ref Go.Proofs.YtapikmfckpgjoaaDoor.GBase Go.Proofs.YtapikmfckpgjoaaDoor.GTh Go.Proofs.YtapikmfckpgjoaaDoor.GA
def cm (x y : Nat) : Int := if x < y then -1 else if y < x then 1 else 0
theorem cm_lt {x y : Nat} (h : x < y) : cm x y = -1 := if_pos h
theorem cm_gt {x y : Nat} (h : y < x) : cm x y = 1 := by unfold cm; rw [if_neg (by omega), if_pos h]
theorem cm_eq {x y : Nat} (h : x = y) : cm x y = 0 := by unfold cm; rw [if_neg (by omega), if_neg (by omega)]
theorem dn_below (w : World) : ∀ n : Nat, Below w.heap.size w (w.drewN n)
 | 0 => Below.refl _ _
 | n + 1 => (dn_below w n).drew
theorem cmp_any (w : World) (A B : Option Addr) (n c x m d y : Nat) (hA : Rw w A n c x) (hB : Rw w B m d y) (hn : n < 1099511627776) (hm : m < 1099511627776) : Calls Tryd.prog 86 #[.slice A n c, .slice B m d] w fun e w' => e = .returned (.int .i64 (cm x y)) ∧ Below w.heap.size w w' := by
 have H1 := Lib.hid (trim_any w A n c x hA hn)
 have H2 := Lib.hid (trim_any w B m d y hB hm)
 by_cases c0 : nl x = nl y
 ·have HE := Lib.hid c0
  have hx1 : nl x < 1099511627776 := Nat.lt_of_le_of_lt (nl_le_iff.2 hA.big) hn
  have e0 : x / pw (nl x) = y / pw (nl x) := by rw [Nat.div_eq_of_lt (nl_lt x), c0, Nat.div_eq_of_lt (nl_lt y)]
  have HX := Lib.hid e0
  have tA := hA.top
  have tB := hB.top
  rw [← c0] at tB H2
  have TA := Lib.hid tA
  have TB := Lib.hid tB
  have q1 : IntKind.i64.wrap (((nl x : Nat) : Int) - 1) = ((nl x : Nat) : Int) - 1 := IntWalk.i64_in _ (by omega)
  generalize nl x = s at *
  clear hA hB c0 e0 tA tB hn hm
  go_enter Tryd.func86, Tryd.ntmps86
  go_wp2_with fail
  refine H1.out.mono ?_
  rintro e w1 ⟨rfl, rfl⟩
  go_wp2_with fail
  refine H2.out.mono ?_
  rintro e w2 ⟨rfl, rfl⟩
  go_wp2_with fail
  go_loopg [7] s (fun g i wr => g ≤ s ∧ x / pw g = y / pw g ∧ (∃ v : Int, v = (g : Int) - 1 ∧ i = .int .i64 v) ∧ Below w2.heap.size w2 wr)
  case atStart => exact ⟨Nat.le_refl _, HX.out, ⟨_, rfl, rfl⟩, Below.refl _ _⟩
  case round =>
   obtain ⟨hg, hq, ⟨v, hv, rfl⟩, hb⟩ := hrel
   generalize gk = k at *
   have HB := Lib.hid hb
   by_cases k0 : k = 0
   ·subst k0
    have e1 : v = -1 := by omega
    subst e1
    have e2 : cm x y = 0 := cm_eq (by rw [pw_zero, Nat.div_one, Nat.div_one] at hq; exact hq)
    have E := Lib.hid e2
    clear hg hq hv hb e2 q1
    go_wp2_with fail
    go_ret
    exact ⟨by rw [E.out]; rfl, HB.out⟩
   ·obtain ⟨j, hj⟩ : ∃ j, k = j + 1 := ⟨k - 1, by omega⟩
    have e1 : v = (j : Int) := by omega
    subst e1
    have js : j < s := by omega
    rcases (TA.out.next hb).row with ⟨_, e, _⟩ | ⟨G, o, rfl, ca⟩
    ·omega
    rcases (TB.out.next hb).row with ⟨_, e, _⟩ | ⟨G', o', rfl, cb⟩
    ·omega
    have z1 := ca.cell j js
    have z2 := cb.cell j js
    have HQ := Lib.hid (show x / pw (j + 1) = y / pw (j + 1) by rw [← hj]; exact hq)
    have HJ := Lib.hid (And.intro hj (And.intro js hg))
    have l1 : decide ((j : Int) < (s : Int)) = true := decide_eq_true (by omega)
    have l2 : (j : Int) < (s : Int) := by omega
    have l3 : decide (j < s) = true := decide_eq_true js
    have l4 : decide ((0 : Int) ≤ (j : Int)) = true := decide_eq_true (by omega)
    have l5 : IntKind.i64.wrap ((j : Int) - 1) = (j : Int) - 1 := IntWalk.i64_in _ (by omega)
    by_cases cd : dw x j = dw y j
    ·have HD := Lib.hid (eq_step HQ.out cd)
     rw [← cd] at z2
     generalize dw x j = d1 at *
     clear hg hq hv hb hj js ca cb cd q1 k0
     go_wp2_with fail
     go_quiet (fail)
     have HB := Lib.hid (on HB.out (dn_below _ nq))
     clear z1 z2
     go_wp2_with fail
     go_roundg j
     case measure => have := HJ.out.1; omega
     case rel => exact ⟨by have := HJ.out.2.1; omega, HD.out, ⟨_, rfl, rfl⟩, HB.out⟩
    ·have HD := Lib.hid cd
     have e3 : (((dw x j : Nat) : Int) != ((dw y j : Nat) : Int)) = true := by simp; omega
     have e4 : (((dw x j : Nat) : Int) == ((dw y j : Nat) : Int)) = false := by simp; omega
     obtain ⟨r, hr⟩ : ∃ r : Bool, decide (((dw x j : Nat) : Int) < ((dw y j : Nat) : Int)) = r := ⟨_, rfl⟩
     have hr2 : decide (dw x j < dw y j) = r := by rw [← hr]; simp
     have E := Lib.hid (show cm x y = if r then -1 else 1 by
      by_cases c3 : dw x j < dw y j
      ·rw [← hr, decide_eq_true (by omega), if_pos rfl]; exact cm_lt (lt_top HQ.out c3)
      ·rw [← hr, decide_eq_false (by omega), if_neg (by decide)]; exact cm_gt (lt_top HQ.out.symm (by omega)))
     generalize dw x j = d1 at *
     generalize dw y j = d2 at *
     clear hg hq hv hb hj js cd q1 k0 ca cb
     go_wp2_with fail
     go_quiet (fail)
     have hb := on HB.out (dn_below _ nq)
     have HB := Lib.hid hb
     have z1 := (World.cell?_of_block ((dn_below wr nq).block G (World.block_lt_of_cell? _ _ z1))).trans z1
     have z2 := (World.cell?_of_block ((dn_below wr nq).block G' (World.block_lt_of_cell? _ _ z2))).trans z2
     generalize wr.drewN nq = w3 at *
     clear hb
     go_wp2_with fail
     go_quiet (fail)
     have HB := Lib.hid (on HB.out (dn_below _ nq))
     clear z1 z2
     cases r
     ·go_wp2_with fail
      go_ret
      exact ⟨by rw [E.out]; rfl, HB.out⟩
     ·go_wp2_with fail
      go_ret
      exact ⟨by rw [E.out]; rfl, HB.out⟩
 ·have e3 : (((nl x : Nat) : Int) != ((nl y : Nat) : Int)) = true := by simp; omega
  have e4 : (((nl x : Nat) : Int) == ((nl y : Nat) : Int)) = false := by simp; omega
  obtain ⟨r, hr⟩ : ∃ r : Bool, decide (((nl x : Nat) : Int) < ((nl y : Nat) : Int)) = r := ⟨_, rfl⟩
  have hr2 : decide (nl x < nl y) = r := by rw [← hr]; simp
  have E := Lib.hid (show cm x y = if r then -1 else 1 by
   by_cases c3 : nl x < nl y
   ·rw [← hr, decide_eq_true (by omega), if_pos rfl]; exact cm_lt (nl_lt_lt c3)
   ·rw [← hr, decide_eq_false (by omega), if_neg (by decide)]; exact cm_gt (nl_lt_lt (by omega)))
  generalize nl x = s at *
  generalize nl y = t at *
  clear hA hB c0 hn hm
  cases r
  ·go_enter Tryd.func86, Tryd.ntmps86
   go_wp2_with fail
   refine H1.out.mono ?_
   rintro e w1 ⟨rfl, rfl⟩
   go_wp2_with fail
   refine H2.out.mono ?_
   rintro e w2 ⟨rfl, rfl⟩
   go_wp2_with fail
   go_ret
   exact ⟨by rw [E.out]; rfl, Below.refl _ _⟩
  ·go_enter Tryd.func86, Tryd.ntmps86
   go_wp2_with fail
   refine H1.out.mono ?_
   rintro e w1 ⟨rfl, rfl⟩
   go_wp2_with fail
   refine H2.out.mono ?_
   rintro e w2 ⟨rfl, rfl⟩
   go_wp2_with fail
   go_ret
   exact ⟨by rw [E.out]; rfl, Below.refl _ _⟩
end Go.Proofs.YtapikmfckpgjoaaDoor.GB
