/- The reference's whole numbers with a sign (layer 7's seat): making, adding, sign. Plain Lean over the printed functions. Conditions: numbers of less than 2^38 digits. -/
import Derived.Test.YthpnmkclboennaaDoorKBinaryMidsRefC
import Derived.Test.YthpnmkclboennaaDoorKBinaryMidsPLibx7
import Derived.Test.YthpnmkclboennaaDoorKBinaryMidsPLibx3
import Derived.Test.YthpnmkclboennaaDoorKBinaryMidsPLibx5
namespace Go.Proofs.YthpnmkclboennaaDoor.Ref
open Go.RowKit Go.Proofs.YthpnmkclboennaaDoorW.PrintWords Go.Proofs.YthpnmkclboennaaDoorW.PrintMore Go.Proofs.YthpnmkclboennaaDoor.Num Go.Proofs.YthpnmkclboennaaDoor.PLib
def zn (z : Int) : Bool := decide (z < 0)
def zl (z : Int) : List Int := dg z.natAbs
def Zs (z : Int) : Prop := (dg z.natAbs).length < 274877906944
theorem Zs_of {z : Int} {k : Nat} (h : z.natAbs < 2^k) (hk : k ≤ 8796093022000) : Zs z := by
  unfold Zs
  have h2 : z.natAbs < B^(k / 32 + 1) := by
    rw [pw_B]
    exact Nat.lt_of_lt_of_le h (Nat.pow_le_pow_right (by decide) (by omega))
  have := dg_len_le h2
  omega
theorem zmk_ev (neg : Bool) (n : Nat) (hn : (dg n).length < 1099511627776) (z : Int) (hz : z.natAbs = n) (hs : n ≠ 0 → neg = decide (z < 0)) : Ev (fun k => gnomonref04_Mk.f k neg (dg n)) (zn z, zl z) := by
  have h := mk_ev neg n hn
  have e : (neg && decide (n ≠ 0), dg n) = (zn z, zl z) := by
    unfold zn zl
    rw [hz]
    by_cases h0 : n = 0
    · have : z = 0 := by omega
      subst this
      simp [h0]
    · rw [hs h0]; simp [h0]
  rw [← e]; exact h
theorem pair_some {α β : Type} {g : Nat → Option (α × β)} {r : α × β} (h : Ev g r) : Ev (fun k => (g k).bind fun t => some (t.1, t.2)) r := Ev.bind h (Ev.now _)
theorem zadd_ev (a b : Int) (ha : Zs a) (hb : Zs b) (hab : Zs (a + b)) : Ev (fun k => gnomonref04_Add.f k (zn a) (zl a) (zn b) (zl b)) (zn (a + b), zl (a + b)) := by
  unfold gnomonref04_Add.f
  unfold Zs at ha hb hab
  by_cases hs : zn a = zn b
  · have c : (zn a == zn b) = true := by rw [hs]; simp
    simp only [if_pos c]
    unfold zn at hs
    have hs' := decide_eq_decide.1 hs
    have e : (a + b).natAbs = a.natAbs + b.natAbs := by omega
    rw [e] at hab
    refine Ev.bind (add_ev a.natAbs b.natAbs (by omega) (by omega)) (pair_some ?_)
    exact zmk_ev _ _ (by omega) (a + b) e (fun _ => by unfold zn; exact decide_eq_decide.2 (by omega))
  · have c : ¬ (zn a == zn b) = true := by simpa using hs
    simp only [if_neg c]
    unfold zn at hs
    have hs' : ¬ ((a < 0) ↔ (b < 0)) := fun h => hs (decide_eq_decide.2 h)
    refine Ev.bind (cmp_ev a.natAbs b.natAbs (by omega) (by omega)) ?_
    by_cases hle : b.natAbs ≤ a.natAbs
    · have c2 : cmp3 a.natAbs b.natAbs ≥ 0 := by unfold cmp3; rw [if_neg (by omega)]; split <;> omega
      simp only [if_pos c2]
      have e : (a + b).natAbs = a.natAbs - b.natAbs := by omega
      rw [e] at hab
      refine Ev.bind (sub_ev a.natAbs b.natAbs (by omega) (by omega)) (pair_some ?_)
      exact zmk_ev _ _ (by omega) (a + b) e (fun _ => by unfold zn; exact decide_eq_decide.2 (by omega))
    · have c2 : ¬ cmp3 a.natAbs b.natAbs ≥ 0 := by unfold cmp3; rw [if_pos (by omega)]; omega
      simp only [if_neg c2]
      have e : (a + b).natAbs = b.natAbs - a.natAbs := by omega
      rw [e] at hab
      refine Ev.bind (sub_ev b.natAbs a.natAbs (by omega) (by omega)) (pair_some ?_)
      exact zmk_ev _ _ (by omega) (a + b) e (fun _ => by unfold zn; exact decide_eq_decide.2 (by omega))
theorem dg_len_bits {n k : Nat} (h : n < 2^k) (hk : k ≤ 8796093022000) : (dg n).length < 274877906944 := by
  have := Zs_of (z := (n : Int)) (k := k) (by simpa using h) hk
  unfold Zs at this; simpa using this
end Go.Proofs.YthpnmkclboennaaDoor.Ref
