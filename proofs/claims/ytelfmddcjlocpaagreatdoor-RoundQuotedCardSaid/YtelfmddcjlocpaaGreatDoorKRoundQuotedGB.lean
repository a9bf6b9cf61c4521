/- Rows of limbs in memory, of any length: trim, told, Form, Bits. Conditions: rows of less than 2^40 limbs. nat.Cmp on rows of limbs of any length. Conditions: rows of less than 2^40 limbs. -/
import Derived.Test.YtelfmddcjlocpaaGreatDoorKRoundQuotedGivenD
import Derived.Test.YtelfmddcjlocpaaGreatDoorKRoundQuotedPxA
import Derived.Deep.RegionHeld3
import Derived.Deep.QuietTactic
import Derived.BigQuiet
section
namespace Go.Proofs.YtelfmddcjlocpaaGreatDoor.GA
open Go.RowKit Go.Proofs.YtelfmddcjlocpaaGreatDoorW.PrintWords Go.Proofs.YtelfmddcjlocpaaGreatDoorW.PrintMore Go.Proofs.YtelfmddcjlocpaaGreatDoorW.PrintLast Go.Proofs.YtelfmddcjlocpaaGreatDoor.Num Go.Proofs.YtelfmddcjlocpaaGreatDoor.Ref Go.Proofs.YtelfmddcjlocpaaGreatDoor.GBase Go.Proofs.YtelfmddcjlocpaaGreatDoor.GTh
structure At (w : World) (G o n x : Nat) : Prop where mk :: (big : x < pw n) (cell : ∀ j, j < n → w.cell? ⟨G, o + j, none⟩ = some (.int .u64 ((dw x j : Nat) : Int)))
theorem At.next {w w' : World} {G o n x : Nat} (h : At w G o n x) (d : Below w.heap.size w w') : At w' G o n x :=
 ⟨h.big, fun j hj => by rw [d.cell (p := ⟨G, o + j, none⟩) (World.block_lt_of_cell? _ _ (h.cell j hj))]; exact h.cell j hj⟩
theorem At.top {w : World} {G o n x : Nat} (h : At w G o n x) : At w G o (nl x) x := ⟨nl_lt x, fun j hj => h.cell j (Nat.lt_of_lt_of_le hj (nl_le_iff.2 h.big))⟩
structure Rw (w : World) (A : Option Addr) (n c x : Nat) : Prop where mk :: (cap : n ≤ c) (row : (True ∧ n = 0 ∧ True ∧ x = 0) ∨ ∃ G o, A = some ⟨G, o, none⟩ ∧ At w G o n x)
theorem Rw.next {w w' : World} {A : Option Addr} {n c x : Nat} (h : Rw w A n c x) (d : Below w.heap.size w w') : Rw w' A n c x :=
 ⟨h.cap, h.row.imp id (fun ⟨G, o, e, k⟩ => ⟨G, o, e, k.next d⟩)⟩
theorem Rw.big {w : World} {A : Option Addr} {n c x : Nat} (h : Rw w A n c x) : x < pw n := by
 rcases h.row with ⟨_, e, _, f⟩ | ⟨G, o, _, k⟩
 ·rw [f]; exact pw_pos _
 ·exact k.big
theorem Rw.top {w : World} {A : Option Addr} {n c x : Nat} (h : Rw w A n c x) : Rw w A (nl x) c x := by
 refine ⟨Nat.le_trans (nl_le_iff.2 h.big) h.cap, ?_⟩
 rcases h.row with ⟨a, e, f, g⟩ | ⟨G, o, a, k⟩
 ·exact .inl ⟨a, by rw [g]; rfl, f, g⟩
 ·exact .inr ⟨G, o, a, k.top⟩
def Nt (w : World) (A : Option Addr) (c x : Nat) : Prop := Rw w A (nl x) c x
theorem Nt.next {w w' : World} {A : Option Addr} {c x : Nat} (h : Nt w A c x) (d : Below w.heap.size w w') : Nt w' A c x := Rw.next h d
theorem trim_none (w : World) (A : Option Addr) (c : Nat) : Calls Tryz.prog 71 #[.slice A 0 c] w fun e w' => e = .returned (.slice A 0 c) ∧ w' = w := by
 go_enter Tryz.func71, Tryz.ntmps71
 go_wp2_with fail
 go_loopg [3] 0 (fun g i wr => g = 0 ∧ i = .int .i64 0 ∧ wr = w)
 case atStart => exact ⟨rfl, rfl, rfl⟩
 case round =>
  obtain ⟨rfl, rfl, rfl⟩ := hrel
  go_wp2_with fail
  go_ret
  exact ⟨rfl, rfl⟩
theorem trim_some (w : World) (G o n c x : Nat) (h : At w G o n x) (hc : n ≤ c) (hn : n < 1099511627776) : Calls Tryz.prog 71 #[.slice (some ⟨G, o, none⟩) n c] w fun e w' => e = .returned (.slice (some ⟨G, o, none⟩) (nl x) c) ∧ w' = w := by
 have HC := Lib.hid h
 have HN := Lib.hid (And.intro hc hn)
 clear h hc hn
 go_enter Tryz.func71, Tryz.ntmps71
 go_wp2_with fail
 go_loopg [3] n (fun g i wr => g ≤ n ∧ nl x ≤ g ∧ i = .int .i64 g ∧ wr = w)
 case atStart => exact ⟨Nat.le_refl _, nl_le_iff.2 HC.out.big, rfl, rfl⟩
 case round =>
  obtain ⟨hg, hx, rfl, rfl⟩ := hrel
  generalize gk = m at *
  have hn := HN.out.2
  have hcc := HN.out.1
  by_cases c0 : m = 0
  ·subst c0
   have e : nl x = 0 := by omega
   clear hg hx hn hcc
   go_wp2_with fail
   go_ret
   exact ⟨by rw [e]; rfl, rfl⟩
  ·obtain ⟨k, hk⟩ : ∃ k, m = k + 1 := ⟨m - 1, by omega⟩
   have q0 : decide (0 < m) = true := decide_eq_true (by omega)
   have q1 : IntKind.i64.wrap ((m : Int) - 1) = (k : Int) := by rw [IntWalk.i64_in _ (by omega)]; omega
   have q2 : (k : Int) < (n : Int) := by omega
   have q3 : decide (k < n) = true := decide_eq_true (by omega)
   have cc := HC.out.cell k (by omega)
   by_cases cd : dw x k = 0
   ·have H := Lib.hid (And.intro hk (show nl x ≤ k from nl_le_iff.2 (lt_of_dw (by rw [← hk]; exact nl_le_iff.1 hx) cd)))
    rw [cd] at cc
    clear hk hx hg c0 cd hn hcc
    go_wp2_with fail
    go_roundg k
    case measure => have := H.out.1; omega
    case rel => exact ⟨by omega, H.out.2, rfl, rfl⟩
   ·have e : nl x = m := by rw [hk]; exact nl_of (by rw [← hk]; exact nl_le_iff.1 hx) cd
    generalize dw x k = d at *
    have q4 : ((d : Int) == 0) = false := by simpa using cd
    have q5 : (m : Int) ≤ (c : Int) := by omega
    have E := Lib.hid e
    clear hk hx c0 cd e hn hg
    go_wp2_with fail
    go_ret
    exact ⟨by rw [E.out]; rfl, rfl⟩
theorem trim_any (w : World) (A : Option Addr) (n c x : Nat) (h : Rw w A n c x) (hn : n < 1099511627776) : Calls Tryz.prog 71 #[.slice A n c] w fun e w' => e = .returned (.slice A (nl x) c) ∧ w' = w := by
 rcases h.row with ⟨_, rfl, _, rfl⟩ | ⟨G, o, rfl, k⟩
 ·exact trim_none w A c
 ·exact trim_some w G o n c x k h.cap hn
theorem form_any (w : World) (A : Option Addr) (c x : Nat) (h : Nt w A c x) (hx : nl x ≤ 8192) : Calls Tryz.prog 73 #[.slice A (nl x) c] w fun e w' => e = .returned (.bool true) ∧ w' = w := by
 rcases h.row with ⟨_, e, _, _⟩ | ⟨G, o, rfl, k⟩
 ·rw [e]
  clear h hx e
  go_enter Tryz.func73, Tryz.ntmps73
  go_wp2_with fail
  go_ret
  exact ⟨by simp, rfl⟩
 ·by_cases c0 : x = 0
  ·have e : nl x = 0 := by rw [c0]; rfl
   rw [e]
   clear h hx e k c0
   go_enter Tryz.func73, Tryz.ntmps73
   go_wp2_with fail
   go_ret
   exact ⟨by simp, rfl⟩
  ·have p := nl_pos c0
   have t := nl_top c0
   have cc := k.cell (nl x - 1) (by omega)
   generalize dw x (nl x - 1) = d at *
   generalize nl x = n at *
   obtain ⟨m, hm⟩ : ∃ m, m = n - 1 := ⟨_, rfl⟩
   rw [← hm] at cc
   have q0 : decide (n ≤ 8192) = true := decide_eq_true hx
   have q0' : (n : Int) ≤ 8192 := by omega
   have q1 : IntKind.i64.wrap ((n : Int) - 1) = (m : Int) := by rw [IntWalk.i64_in _ (by omega)]; omega
   have q2 : (m : Int) < (n : Int) := by omega
   have q3 : decide (m < n) = true := decide_eq_true (by omega)
   have q4 : ((d : Int) != 0) = true := by simpa using t
   have q4' : ((d : Int) == 0) = false := by simpa using t
   have q5 : ((n : Int) == 0) = false := by simp; omega
   have q6 : ((n : Int) != 0) = true := by simp; omega
   clear h hx p t hm k c0
   go_enter Tryz.func73, Tryz.ntmps73
   go_wp2_with fail
   go_ret
   exact ⟨by simp, rfl⟩
theorem told_any (w : World) (A : Option Addr) (n c x : Nat) (h : Rw w A n c x) (hn : n < 1099511627776) (hx : nl x ≤ 8192) : Calls Tryz.prog 74 #[.slice A n c] w fun e w' => e = .returned (.tuple #[.slice A (nl x) c, .int .i64 0]) ∧ w' = w := by
 have HT := Lib.hid (trim_any w A n c x h hn)
 have q0 : decide ((8192 : Int) < ((nl x : Nat) : Int)) = false := decide_eq_false (by omega)
 generalize nl x = m at *
 clear h hx
 go_enter Tryz.func74, Tryz.ntmps74
 go_wp2_with fail
 refine HT.out.mono ?_
 rintro e w1 ⟨rfl, rfl⟩
 go_wp2_with fail
 go_ret2
 exact ⟨rfl, rfl⟩
theorem bl_le64 {n : Nat} (h : n < 18446744073709551616) : bl n ≤ 64 := bl_le_of_lt (by rw [e64]; exact h)
theorem bits_any (w : World) (A : Option Addr) (n c x : Nat) (h : Rw w A n c x) (hn : n < 1099511627776) : Calls Tryz.prog 36 #[.slice A n c] w fun e w' => e = .returned (.int .i64 (bl x : Nat)) ∧ Below w.heap.size w w' := by
 have HT := Lib.hid (trim_any w A n c x h hn)
 by_cases c0 : x = 0
 ·have e1 : nl x = 0 := by rw [c0]; rfl
  have e2 : bl x = 0 := by rw [c0]; rfl
  rw [e2]
  rw [e1] at HT
  clear h c0 e1 e2
  go_enter Tryz.func36, Tryz.ntmps36
  go_wp2_with fail
  refine HT.out.mono ?_
  rintro e w1 ⟨rfl, rfl⟩
  go_wp2_with fail
  go_ret
  exact ⟨rfl, Below.refl _ _⟩
 ·have p := nl_pos c0
  have hle : nl x ≤ n := nl_le_iff.2 h.big
  have hb := bl_limbs c0
  have hd := dw_lt x (nl x - 1)
  obtain ⟨k, hk⟩ := (len_ev (dw x (nl x - 1)) hd).rounds
  have HL := Lib.hid (fun w => PLen.bits_Len64.calls k _ _ w hk)
  rcases h.row with ⟨_, e, _, e'⟩ | ⟨G, o, rfl, R⟩
  ·exact absurd e' c0
  have cc := R.cell (nl x - 1) (by omega)
  have hb2 := bl_le64 hd
  clear hk hd
  generalize dw x (nl x - 1) = d at *
  generalize nl x = s at *
  generalize bl x = z at *
  generalize bl d = y at *
  obtain ⟨m, hm⟩ : ∃ m, m = s - 1 := ⟨_, rfl⟩
  rw [← hm] at cc
  have q1 : IntKind.i64.wrap ((s : Int) - 1) = (m : Int) := by rw [IntWalk.i64_in _ (by omega)]; omega
  have q2 : (m : Int) < (s : Int) := by omega
  have q3 : decide (m < s) = true := decide_eq_true (by omega)
  have q4 : ((s : Int) == 0) = false := by simp; omega
  have q5 : IntKind.i64.wrap (64 * (m : Int)) = 64 * (m : Int) := IntWalk.i64_in _ (by omega)
  have q6 : IntKind.i64.wrap (64 * (m : Int) + (y : Int)) = (z : Int) := by rw [IntWalk.i64_in _ (by omega)]; omega
  have q7 : IntKind.i64.wrap (y : Int) = (y : Int) := IntWalk.i64_in _ (by omega)
  clear h c0 p hle hb R hb2 hm hn
  go_enter Tryz.func36, Tryz.ntmps36
  go_wp2_with fail
  refine HT.out.mono ?_
  rintro e w1 ⟨rfl, rfl⟩
  go_wp2_with fail
  refine (HL.out _).mono ?_
  rintro e w2 ⟨rfl, hd⟩
  have HB := Lib.hid hd.below
  clear hd
  go_wp2_with fail
  go_ret
  exact ⟨rfl, HB.out⟩
end Go.Proofs.YtelfmddcjlocpaaGreatDoor.GA
end
section
namespace Go.Proofs.YtelfmddcjlocpaaGreatDoor.GB
open Go.RowKit Go.Proofs.YtelfmddcjlocpaaGreatDoorW.PrintWords Go.Proofs.YtelfmddcjlocpaaGreatDoorW.PrintMore Go.Proofs.YtelfmddcjlocpaaGreatDoorW.PrintLast Go.Proofs.YtelfmddcjlocpaaGreatDoor.Num Go.Proofs.YtelfmddcjlocpaaGreatDoor.Ref Go.Proofs.YtelfmddcjlocpaaGreatDoor.GBase Go.Proofs.YtelfmddcjlocpaaGreatDoor.GTh Go.Proofs.YtelfmddcjlocpaaGreatDoor.GA
def cm (x y : Nat) : Int := if x < y then -1 else if y < x then 1 else 0
theorem cm_lt {x y : Nat} (h : x < y) : cm x y = -1 := if_pos h
theorem cm_gt {x y : Nat} (h : y < x) : cm x y = 1 := by unfold cm; rw [if_neg (by omega), if_pos h]
theorem cm_eq {x y : Nat} (h : x = y) : cm x y = 0 := by unfold cm; rw [if_neg (by omega), if_neg (by omega)]
theorem dn_below (w : World) : ∀ n : Nat, Below w.heap.size w (w.drewN n)
 | 0 => Below.refl _ _
 | n + 1 => (dn_below w n).drew
theorem cmp_any (w : World) (A B : Option Addr) (n c x m d y : Nat) (hA : Rw w A n c x) (hB : Rw w B m d y) (hn : n < 1099511627776) (hm : m < 1099511627776) : Calls Tryz.prog 75 #[.slice A n c, .slice B m d] w fun e w' => e = .returned (.int .i64 (cm x y)) ∧ Below w.heap.size w w' := by
 have H1 := Lib.hid (trim_any w A n c x hA hn)
 have H2 := Lib.hid (trim_any w B m d y hB hm)
 by_cases c0 : nl x = nl y
 ·have HE := Lib.hid c0
  have hx1 : nl x < 1099511627776 := Nat.lt_of_le_of_lt (nl_le_iff.2 hA.big) hn
  have e0 : x / pw (nl x) = y / pw (nl x) := by rw [Nat.div_eq_of_lt (nl_lt x), c0, Nat.div_eq_of_lt (nl_lt y)]
  have HX := Lib.hid e0
  have tA := hA.top
  have tB := hB.top
  rw [← c0] at tB H2
  have TA := Lib.hid tA
  have TB := Lib.hid tB
  have q1 : IntKind.i64.wrap (((nl x : Nat) : Int) - 1) = ((nl x : Nat) : Int) - 1 := IntWalk.i64_in _ (by omega)
  generalize nl x = s at *
  clear hA hB c0 e0 tA tB hn hm
  go_enter Tryz.func75, Tryz.ntmps75
  go_wp2_with fail
  refine H1.out.mono ?_
  rintro e w1 ⟨rfl, rfl⟩
  go_wp2_with fail
  refine H2.out.mono ?_
  rintro e w2 ⟨rfl, rfl⟩
  go_wp2_with fail
  go_loopg [7] s (fun g i wr => g ≤ s ∧ x / pw g = y / pw g ∧ (∃ v : Int, v = (g : Int) - 1 ∧ i = .int .i64 v) ∧ Below w2.heap.size w2 wr)
  case atStart => exact ⟨Nat.le_refl _, HX.out, ⟨_, rfl, rfl⟩, Below.refl _ _⟩
  case round =>
   obtain ⟨hg, hq, ⟨v, hv, rfl⟩, hb⟩ := hrel
   generalize gk = k at *
   have HB := Lib.hid hb
   by_cases k0 : k = 0
   ·subst k0
    have e1 : v = -1 := by omega
    subst e1
    have e2 : cm x y = 0 := cm_eq (by rw [pw_zero, Nat.div_one, Nat.div_one] at hq; exact hq)
    have E := Lib.hid e2
    clear hg hq hv hb e2 q1
    go_wp2_with fail
    go_ret
    exact ⟨by rw [E.out]; rfl, HB.out⟩
   ·obtain ⟨j, hj⟩ : ∃ j, k = j + 1 := ⟨k - 1, by omega⟩
    have e1 : v = (j : Int) := by omega
    subst e1
    have js : j < s := by omega
    rcases (TA.out.next hb).row with ⟨_, e, _⟩ | ⟨G, o, rfl, ca⟩
    ·omega
    rcases (TB.out.next hb).row with ⟨_, e, _⟩ | ⟨G', o', rfl, cb⟩
    ·omega
    have z1 := ca.cell j js
    have z2 := cb.cell j js
    have HQ := Lib.hid (show x / pw (j + 1) = y / pw (j + 1) by rw [← hj]; exact hq)
    have HJ := Lib.hid (And.intro hj (And.intro js hg))
    have l1 : decide ((j : Int) < (s : Int)) = true := decide_eq_true (by omega)
    have l2 : (j : Int) < (s : Int) := by omega
    have l3 : decide (j < s) = true := decide_eq_true js
    have l4 : decide ((0 : Int) ≤ (j : Int)) = true := decide_eq_true (by omega)
    have l5 : IntKind.i64.wrap ((j : Int) - 1) = (j : Int) - 1 := IntWalk.i64_in _ (by omega)
    by_cases cd : dw x j = dw y j
    ·have HD := Lib.hid (eq_step HQ.out cd)
     rw [← cd] at z2
     generalize dw x j = d1 at *
     clear hg hq hv hb hj js ca cb cd q1 k0
     go_wp2_with fail
     go_quiet (fail)
     have HB := Lib.hid (on HB.out (dn_below _ nq))
     clear z1 z2
     go_wp2_with fail
     go_roundg j
     case measure => have := HJ.out.1; omega
     case rel => exact ⟨by have := HJ.out.2.1; omega, HD.out, ⟨_, rfl, rfl⟩, HB.out⟩
    ·have HD := Lib.hid cd
     have e3 : (((dw x j : Nat) : Int) != ((dw y j : Nat) : Int)) = true := by simp; omega
     have e4 : (((dw x j : Nat) : Int) == ((dw y j : Nat) : Int)) = false := by simp; omega
     obtain ⟨r, hr⟩ : ∃ r : Bool, decide (((dw x j : Nat) : Int) < ((dw y j : Nat) : Int)) = r := ⟨_, rfl⟩
     have hr2 : decide (dw x j < dw y j) = r := by rw [← hr]; simp
     have E := Lib.hid (show cm x y = if r then -1 else 1 by
      by_cases c3 : dw x j < dw y j
      ·rw [← hr, decide_eq_true (by omega), if_pos rfl]; exact cm_lt (lt_top HQ.out c3)
      ·rw [← hr, decide_eq_false (by omega), if_neg (by decide)]; exact cm_gt (lt_top HQ.out.symm (by omega)))
     generalize dw x j = d1 at *
     generalize dw y j = d2 at *
     clear hg hq hv hb hj js cd q1 k0 ca cb
     go_wp2_with fail
     go_quiet (fail)
     have hb := on HB.out (dn_below _ nq)
     have HB := Lib.hid hb
     have z1 := (World.cell?_of_block ((dn_below wr nq).block G (World.block_lt_of_cell? _ _ z1))).trans z1
     have z2 := (World.cell?_of_block ((dn_below wr nq).block G' (World.block_lt_of_cell? _ _ z2))).trans z2
     generalize wr.drewN nq = w3 at *
     clear hb
     go_wp2_with fail
     go_quiet (fail)
     have HB := Lib.hid (on HB.out (dn_below _ nq))
     clear z1 z2
     cases r
     ·go_wp2_with fail
      go_ret
      exact ⟨by rw [E.out]; rfl, HB.out⟩
     ·go_wp2_with fail
      go_ret
      exact ⟨by rw [E.out]; rfl, HB.out⟩
 ·have e3 : (((nl x : Nat) : Int) != ((nl y : Nat) : Int)) = true := by simp; omega
  have e4 : (((nl x : Nat) : Int) == ((nl y : Nat) : Int)) = false := by simp; omega
  obtain ⟨r, hr⟩ : ∃ r : Bool, decide (((nl x : Nat) : Int) < ((nl y : Nat) : Int)) = r := ⟨_, rfl⟩
  have hr2 : decide (nl x < nl y) = r := by rw [← hr]; simp
  have E := Lib.hid (show cm x y = if r then -1 else 1 by
   by_cases c3 : nl x < nl y
   ·rw [← hr, decide_eq_true (by omega), if_pos rfl]; exact cm_lt (nl_lt_lt c3)
   ·rw [← hr, decide_eq_false (by omega), if_neg (by decide)]; exact cm_gt (nl_lt_lt (by omega)))
  generalize nl x = s at *
  generalize nl y = t at *
  clear hA hB c0 hn hm
  cases r
  ·go_enter Tryz.func75, Tryz.ntmps75
   go_wp2_with fail
   refine H1.out.mono ?_
   rintro e w1 ⟨rfl, rfl⟩
   go_wp2_with fail
   refine H2.out.mono ?_
   rintro e w2 ⟨rfl, rfl⟩
   go_wp2_with fail
   go_ret
   exact ⟨by rw [E.out]; rfl, Below.refl _ _⟩
  ·go_enter Tryz.func75, Tryz.ntmps75
   go_wp2_with fail
   refine H1.out.mono ?_
   rintro e w1 ⟨rfl, rfl⟩
   go_wp2_with fail
   refine H2.out.mono ?_
   rintro e w2 ⟨rfl, rfl⟩
   go_wp2_with fail
   go_ret
   exact ⟨by rw [E.out]; rfl, Below.refl _ _⟩
end Go.Proofs.YtelfmddcjlocpaaGreatDoor.GB
end
