/- Comparisons of binary64 words told by whole numbers; sums with what lies above the greatest number. Plain Lean. Conditions: as each lemma says. -/
import Derived.Test.YtbgmadijifefiaaKAcceptFloatsFlWalk
namespace Fl
open Ieee Go
theorem cmp_mul (A B : Int) (k : Nat) : compare A B = compare (A * 2^k) (B * 2^k) := by
  have hp := pos_of_mul (a := A - B) (k := k)
  have hs : (A - B) * 2^k = A * 2^k - B * 2^k := Int.sub_mul ..
  rw [hs] at hp
  have h1 : A < B ↔ A * 2^k < B * 2^k := ⟨fun h => by have := hp.1.2 (by omega); omega, fun h => by have := hp.1.1 (by omega); omega⟩
  have h2 : A = B ↔ A * 2^k = B * 2^k := ⟨fun h => by have := hp.2.2 (by omega); omega, fun h => by have := hp.2.1 (by omega); omega⟩
  show compareOfLessAndEq A B = compareOfLessAndEq (A * 2^k) (B * 2^k)
  unfold compareOfLessAndEq
  by_cases c1 : A < B
  · rw [if_pos c1, if_pos (h1.1 c1)]
  · rw [if_neg c1, if_neg (fun h => c1 (h1.2 h))]
    by_cases c2 : A = B
    · rw [if_pos c2, if_pos (h2.1 c2)]
    · rw [if_neg c2, if_neg (fun h => c2 (h2.2 h))]
theorem ord_fin {x y : Nat} (hx : fin x) (hy : fin y) : double.order x y = some (compareOfLessAndEq (U x) (U y)) := by
  obtain ⟨m, i, hx1, hi, hx2⟩ := read_fin hx
  obtain ⟨n, j, hy1, hj, hy2⟩ := read_fin hy
  unfold Format.order
  rw [hx1, hy1]
  show some (compare (signed (ng x) m (i - min i j).toNat) (signed (ng y) n (j - min i j).toNat)) = _
  rw [cmp_mul _ _ (min i j + 1074).toNat, U_signed (by omega) (by omega) hx2, U_signed (by omega) (by omega) hy2]
  rfl
theorem coe_lt {a b : Int} (h : a < b) : compareOfLessAndEq a b = .lt := if_pos h
theorem coe_eq {a b : Int} (h : a = b) : compareOfLessAndEq a b = .eq := by unfold compareOfLessAndEq; rw [if_neg (by omega), if_pos h]
theorem coe_gt {a b : Int} (h : b < a) : compareOfLessAndEq a b = .gt := by unfold compareOfLessAndEq; rw [if_neg (by omega), if_neg (by omega)]
theorem eq_fin {x y : Nat} (hx : fin x) (hy : fin y) : (double.order x y == some .eq) = decide (U x = U y) := by
  rw [ord_fin hx hy]
  rcases Int.lt_trichotomy (U x) (U y) with h | h | h
  · rw [coe_lt h, decide_eq_false (by omega)]; rfl
  · rw [coe_eq h, decide_eq_true h]; rfl
  · rw [coe_gt h, decide_eq_false (by omega)]; rfl
theorem ne_fin {x y : Nat} (hx : fin x) (hy : fin y) : (double.order x y != some .eq) = decide (U x ≠ U y) := by
  rw [bne, eq_fin hx hy]; by_cases h : U x = U y <;> simp [h]
theorem U_pos {s : Nat} (h : s < 2^63) : U s = (mg s : Nat) := by
  have e1 : sz s = s := Nat.mod_eq_of_lt h
  have e2 : ng s = false := by unfold ng; rw [Nat.div_eq_of_lt h]; rfl
  unfold U; rw [e1, e2]; rfl
theorem ord_pos {s c : Nat} (hs : s < INF) (hc : c < INF) : double.order s c = some (if s < c then .lt else if s = c then .eq else .gt) := by
  have hI : INF = 9218868437227405312 := by decide
  have e1 : sz s = s := Nat.mod_eq_of_lt (by omega)
  have e2 : sz c = c := Nat.mod_eq_of_lt (by omega)
  rw [ord_fin (by unfold fin; rw [e1]; exact hs) (by unfold fin; rw [e2]; exact hc), U_pos (by omega), U_pos (by omega)]
  congr 1
  by_cases h : s < c
  · rw [if_pos h, coe_lt (by have := mg_lt h; omega)]
  · rw [if_neg h]
    by_cases h2 : s = c
    · rw [if_pos h2, coe_eq (by rw [h2])]
    · rw [if_neg h2, coe_gt (by have := mg_lt (r := c) (s := s) (by omega); omega)]
theorem read_inf {w : Nat} (h : sz w = INF) : double.read w = .infinity (ng w) := by
  unfold Format.read
  simp only [d_sign, d_binade, d_inf, d_least]
  change (if sz w < 2^52 then Datum.number (ng w) (sz w) (-1074) else if sz w < INF then _ else if sz w = INF then _ else _) = _
  have hI : INF = 9218868437227405312 := by decide
  rw [if_neg (by omega), if_neg (by omega), if_pos h]
  rfl
theorem read_nan {w : Nat} (h : INF < sz w) : ∃ s f, double.read w = .nan s f := by
  unfold Format.read
  simp only [d_sign, d_binade, d_inf, d_least]
  change ∃ s f, (if sz w < 2^52 then Datum.number (ng w) (sz w) (-1074) else if sz w < INF then _ else if sz w = INF then _ else _) = _
  have hI : INF = 9218868437227405312 := by decide
  rw [if_neg (by omega), if_neg (by omega), if_neg (by omega)]
  exact ⟨_, _, rfl⟩
theorem ord_inf {s c : Nat} (hs : s = INF) (hc : c < INF) : double.order s c = some .gt := by
  have hI : INF = 9218868437227405312 := by decide
  have e1 : sz s = INF := by rw [hs]; exact Nat.mod_eq_of_lt (by omega)
  have e2 : sz c = c := Nat.mod_eq_of_lt (by omega)
  have e3 : ng s = false := by rw [hs]; decide
  obtain ⟨n, j, hy1, _, _⟩ := read_fin (w := c) (by unfold fin; rw [e2]; exact hc)
  unfold Format.order
  rw [read_inf e1, hy1, e3]
  rfl
theorem ord_nan {s c : Nat} (hs : INF < sz s) : double.order s c = none := by
  obtain ⟨a, b, h⟩ := read_nan hs
  unfold Format.order
  rw [h]
  rfl
theorem le_abs {s c : Nat} (hs : s < 2^63) (hc : c < INF) : (double.order s c == some .lt || double.order s c == some .eq) = decide (s ≤ c) := by
  rcases Nat.lt_trichotomy s INF with h | h | h
  · rw [ord_pos h hc]
    by_cases c1 : s < c
    · rw [if_pos c1, decide_eq_true (by omega)]; rfl
    · rw [if_neg c1]
      by_cases c2 : s = c
      · rw [if_pos c2, decide_eq_true (by omega)]; rfl
      · rw [if_neg c2, decide_eq_false (by omega)]; rfl
  · rw [ord_inf h hc, decide_eq_false (by omega)]; rfl
  · rw [ord_nan (by rw [show sz s = s from Nat.mod_eq_of_lt hs]; exact h), decide_eq_false (by omega)]; rfl
theorem ge_abs {s c : Nat} (hs : s < 2^63) (hc : c < INF) : (double.order s c == some .gt || double.order s c == some .eq) = decide (c ≤ s ∧ s ≤ INF) := by
  rcases Nat.lt_trichotomy s INF with h | h | h
  · rw [ord_pos h hc]
    by_cases c1 : s < c
    · rw [if_pos c1, decide_eq_false (by omega)]; rfl
    · rw [if_neg c1]
      by_cases c2 : s = c
      · rw [if_pos c2, decide_eq_true (by omega)]; rfl
      · rw [if_neg c2, decide_eq_true (by omega)]; rfl
  · rw [ord_inf h hc, decide_eq_true (by omega)]; rfl
  · rw [ord_nan (by rw [show sz s = s from Nat.mod_eq_of_lt hs]; exact h), decide_eq_false (by omega)]; rfl
end Fl
