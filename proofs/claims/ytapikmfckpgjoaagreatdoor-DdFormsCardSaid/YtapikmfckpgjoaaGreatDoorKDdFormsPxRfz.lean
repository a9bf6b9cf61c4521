/- The reference's words of digits. Plain Lean over the printed functions. Conditions: numbers of less than 2^38 digits. Printed functions' contracts as contracts of Px. Condition: math/bits' table is laid. -/
import Derived.Test.YtapikmfckpgjoaaGreatDoorKDdFormsRefD
import Derived.Test.YtapikmfckpgjoaaGreatDoorKDdFormsPRfzx0
import Derived.Test.YtapikmfckpgjoaaGreatDoorKDdFormsWGuard
import Derived.Test.YtapikmfckpgjoaaGreatDoorKDdFormsPRfzx1
import Derived.Test.YtapikmfckpgjoaaGreatDoorKDdFormsPxBr
section
namespace Go.Proofs.YtapikmfckpgjoaaGreatDoor.Ref
open Go.RowKit Go.Proofs.YtapikmfckpgjoaaGreatDoorW.PrintWords Go.Proofs.YtapikmfckpgjoaaGreatDoorW.PrintMore Go.Proofs.YtapikmfckpgjoaaGreatDoor.Num Go.Proofs.YtapikmfckpgjoaaGreatDoor.PLib Go.Proofs.YtapikmfckpgjoaaGreatDoor.PRef Go.Proofs.YtapikmfckpgjoaaGreatDoor.PRfz Fl
def lm (n : Nat) : List Int := if _h : n = 0 then [] else ((n % 18446744073709551616 : Nat) : Int) :: lm (n / 18446744073709551616)
termination_by n
decreasing_by exact Nat.div_lt_self (by omega) (by omega)
theorem lm_zero : lm 0 = [] := by rw [lm]; simp
theorem lm_pos {n : Nat} (h : n ≠ 0) : lm n = ((n % 18446744073709551616 : Nat) : Int) :: lm (n / 18446744073709551616) := by rw [lm]; simp [h]
theorem to_l0 (l : List Int) (hla : l.length < 1099511627776) (n : Nat) : ∀ (i : Nat) (s : List Int), l.drop i = dg n → s.length ≤ i → i < 1099511627778 →
  Ev (fun k => gnomonref01_To.l0 k l s (i : Int)) (s ++ lm n) := by
 induction n using Nat.strongRecOn with
 | _ n ih =>
  intro i s hd hs hi
  by_cases h : n = 0
  ·subst h
   rw [dg_zero] at hd
   have hge : l.length ≤ i := List.drop_eq_nil_iff.1 hd
   rw [lm_zero, List.append_nil]
   refine Ev.step (f := fun _ => some s) (fun k => ?_) (Ev.now _)
   simp only [gnomonref01_To.l0]
   rw [if_neg (by omega)]
  ·have hlt : i < l.length := by
    by_cases hc : i < l.length
    ·exact hc
    ·rw [List.drop_eq_nil_of_le (by omega)] at hd
     exact absurd (dg_nil_iff.1 hd.symm) h
   have hdd : l.drop (i + 2) = dg (n / 18446744073709551616) := by
    have e : l.drop (i + 2) = (l.drop i).drop 2 := by rw [List.drop_drop]
    rw [e, hd, drop_dg]
    have : B^2 = 18446744073709551616 := by rw [Nat.pow_two]; exact B2
    rw [this]
   have hnext := ih (n / 18446744073709551616) (Nat.div_lt_self (by omega) (by omega)) (i + 2) (s ++ [((n % 18446744073709551616 : Nat) : Int)]) hdd (by rw [List.length_append]; simp; omega) (by omega)
   rw [List.append_assoc, List.singleton_append, ← lm_pos h] at hnext
   have e2 : wrap64 ((i : Int) + 2) = ((i + 2 : Nat) : Int) := by rw [w64 (by omega) (by omega)]; omega
   have e1 : wrap64 ((i : Int) + 1) = ((i + 1 : Nat) : Int) := by rw [w64 (by omega) (by omega)]; omega
   have r0 : rd l (i : Int) = ((n % B : Nat) : Int) := by
    rw [rd_get hlt]
    have h3 : l.drop i = l[i] :: l.drop (i + 1) := List.drop_eq_getElem_cons hlt
    rw [hd, dg_pos h] at h3
    injection h3 with h3 _
    exact h3.symm
   have r1d : l.drop (i + 1) = dg (n / B) := by
    have e : l.drop (i + 1) = (l.drop i).drop 1 := by rw [List.drop_drop]
    rw [e, hd, drop_dg, Nat.pow_one]
   have hm0 := Nat.mod_lt n B_pos
   refine Ev.step (f := fun k => gnomonref01_To.l0 k l (s ++ [((n % 18446744073709551616 : Nat) : Int)]) ((i + 2 : Nat) : Int)) (fun k => ?_) hnext
   simp only [gnomonref01_To.l0]
   rw [if_pos (by omega), if_pos (by omega), e1, e2]
   have hbase := B_eq
   by_cases hi1 : i + 1 < l.length
   ·rw [if_pos (by omega), if_pos (by omega), if_pos (by omega)]
    have hne : n / B ≠ 0 := by
     intro e
     rw [e, dg_zero] at r1d
     have := List.drop_eq_nil_iff.1 r1d; omega
    have r1 : rd l ((i + 1 : Nat) : Int) = ((n / B % B : Nat) : Int) := by
     rw [rd_get hi1]
     have h3 : l.drop (i + 1) = l[i + 1] :: l.drop (i + 1 + 1) := List.drop_eq_getElem_cons hi1
     rw [r1d, dg_pos hne] at h3
     injection h3 with h3 _
     exact h3.symm
    have hm1 := Nat.mod_lt (n / B) B_pos
    rw [r0, r1]
    have e3 : n % 18446744073709551616 = n % B + n / B % B * 4294967296 := by
     have := Nat.mod_mul (x := n) (a := B) (b := B)
     rw [B2] at this
     rw [this, Nat.mul_comm B, hbase]
    rw [e3]
    rw [hbase] at *
    generalize n % 4294967296 = x at *
    generalize n / 4294967296 % 4294967296 = y at *
    rw [wu64 (x := (x : Int)) (by omega) (by omega), wu64 (x := (y : Int)) (by omega) (by omega), wu64 (x := (y : Int) * 4294967296) (by omega) (by omega), wu64 (by omega) (by omega)]
    congr 2
   ·rw [if_neg (by omega), if_pos (by omega)]
    have hz : n / B = 0 := by
     have : l.drop (i + 1) = [] := List.drop_eq_nil_of_le (by omega)
     rw [this] at r1d
     exact dg_nil_iff.1 r1d.symm
    have hnB : n < B := by
     have := Nat.div_add_mod n B
     rw [hz] at this; omega
    have e3 : n % 18446744073709551616 = n % B := by rw [hbase] at *; omega
    rw [r0, e3]
    rw [hbase] at *
    generalize n % 4294967296 = x at *
    rw [wu64 (x := (x : Int)) (by omega) (by omega)]
theorem to_ev (m : Nat) (hm : (dg m).length < 1099511627776) : Ev (fun k => gnomonref01_To.f k (dg m)) (lm m) := by
 unfold gnomonref01_To.f
 refine Ev.bind (norm_dg m hm) ?_
 have c0 : wrap64 (((dg m).length : Int) / 2) = ((dg m).length : Int) / 2 := w64 (by omega) (by omega)
 have c1 : wrap64 (((dg m).length : Int) / 2 + 1) = ((dg m).length : Int) / 2 + 1 := w64 (by omega) (by omega)
 have c2 : (0 : Int) ≤ ((dg m).length : Int) / 2 + 1 := by omega
 have c3 : (((dg m).length : Int) / 2 + 1).toNat ≤ 35184372088832 := by omega
 simp only [c0, c1, if_pos c2, if_pos c3]
 exact to_l0 (dg m) hm m 0 [] (List.drop_zero) (Nat.le_refl _) (by omega)
end Go.Proofs.YtapikmfckpgjoaaGreatDoor.Ref
end
section
set_option linter.unusedVariables false
namespace Go.Proofs.YtapikmfckpgjoaaGreatDoor.PRfz
open Go Go.RowKit Go.Proofs.YtapikmfckpgjoaaGreatDoorW.PrintWords Go.Proofs.YtapikmfckpgjoaaGreatDoorW.PrintMore Go.Proofs.YtapikmfckpgjoaaGreatDoor.Px Go.Proofs.YtapikmfckpgjoaaGreatDoor.PRef
theorem gnomonref01_Bit.c {k : Nat} {l0 : List Int} {a1 : Int} {r : Int} (h : gnomonref01_Bit.f k l0 a1 = some r) : Con Tryz.prog Gw 138 [.s (.sl .u32 l0), .s (.i .i64 a1)] (· = .s (.i .i64 r)) := by
 refine brg Tryz.func138 (by kernel_rfl) fun w S vs gw hS vs_ => ?_
 obtain ⟨A0, c0, u0, rfl, hc0, hr0, v0⟩ := a_sl vs_
 obtain ⟨u1, rfl, v1⟩ := a_i v0
 obtain rfl := a_nil v1
 exact (gnomonref01_Bit.calls k A0 c0 l0 a1 r w hr0 hc0 h).mono fun e w' ⟨he, hb⟩ => ⟨_, _, he, rfl, rfl, hb.below⟩
theorem gnomonref01_Zeros.c {k : Nat} {l0 : List Int} {r : Int} (h : gnomonref01_Zeros.f k l0 = some r) : Con Tryz.prog Gw 131 [.s (.sl .u32 l0)] (· = .s (.i .i64 r)) := by
 refine brg Tryz.func131 (by kernel_rfl) fun w S vs gw hS vs_ => ?_
 obtain ⟨A0, c0, u0, rfl, hc0, hr0, v0⟩ := a_sl vs_
 obtain rfl := a_nil v0
 exact (gnomonref01_Zeros.calls k A0 c0 l0 r w hr0 hc0 h).mono fun e w' ⟨he, hb⟩ => ⟨_, _, he, rfl, rfl, hb.below⟩
theorem gnomonref01_To.c {k : Nat} {l0 : List Int} {r : List Int} (h : gnomonref01_To.f k l0 = some r) : Con Tryz.prog Gw 140 [.s (.sl .u32 l0)] (· = .s (.sl .u64 r)) := by
 refine brg Tryz.func140 (by kernel_rfl) fun w S vs gw hS vs_ => ?_
 obtain ⟨A0, c0, u0, rfl, hc0, hr0, v0⟩ := a_sl vs_
 obtain rfl := a_nil v0
 exact (gnomonref01_To.calls k A0 c0 l0 r w hr0 hc0 h).mono fun e w' ⟨v0_, he, hR_v0_, hb⟩ => ⟨_, _, he, rfl, ofR hR_v0_ hS, hb⟩
end Go.Proofs.YtapikmfckpgjoaaGreatDoor.PRfz
end
