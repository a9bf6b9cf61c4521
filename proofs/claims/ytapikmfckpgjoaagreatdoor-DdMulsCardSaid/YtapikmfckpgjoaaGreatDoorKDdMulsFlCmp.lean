/- Comparisons of binary64 words told by whole numbers; sums with what lies above the greatest number. Plain Lean. Conditions: as each lemma says. -/
import Derived.Test.YtapikmfckpgjoaaGreatDoorKDdMulsEftLaw
namespace Fl
open Ieee Go
theorem cmp_mul (A B : Int) (k : Nat) : compare A B = compare (A * 2^k) (B * 2^k) := by
 have hp := pos_of_mul (a := A - B) (k := k)
 have hs : (A - B) * 2^k = A * 2^k - B * 2^k := Int.sub_mul ..
 rw [hs] at hp
 have h1 : A < B ↔ A * 2^k < B * 2^k := ⟨fun h => by have := hp.1.2 (by omega); omega, fun h => by have := hp.1.1 (by omega); omega⟩
 have h2 : A = B ↔ A * 2^k = B * 2^k := ⟨fun h => by have := hp.2.2 (by omega); omega, fun h => by have := hp.2.1 (by omega); omega⟩
 show compareOfLessAndEq A B = compareOfLessAndEq (A * 2^k) (B * 2^k)
 unfold compareOfLessAndEq
 by_cases c1 : A < B
 ·rw [if_pos c1, if_pos (h1.1 c1)]
 ·rw [if_neg c1, if_neg (fun h => c1 (h1.2 h))]
  by_cases c2 : A = B
  ·rw [if_pos c2, if_pos (h2.1 c2)]
  ·rw [if_neg c2, if_neg (fun h => c2 (h2.2 h))]
theorem ord_fin {x y : Nat} (hx : fin x) (hy : fin y) : double.order x y = some (compareOfLessAndEq (U x) (U y)) := by
 obtain ⟨m, i, hx1, hi, hx2⟩ := read_fin hx
 obtain ⟨n, j, hy1, hj, hy2⟩ := read_fin hy
 unfold Format.order
 rw [hx1, hy1]
 show some (compare (signed (ng x) m (i - min i j).toNat) (signed (ng y) n (j - min i j).toNat)) = _
 rw [cmp_mul _ _ (min i j + 1074).toNat, U_signed (by omega) (by omega) hx2, U_signed (by omega) (by omega) hy2]
 rfl
theorem coe_lt {a b : Int} (h : a < b) : compareOfLessAndEq a b = .lt := if_pos h
theorem coe_eq {a b : Int} (h : a = b) : compareOfLessAndEq a b = .eq := by unfold compareOfLessAndEq; rw [if_neg (by omega), if_pos h]
theorem coe_gt {a b : Int} (h : b < a) : compareOfLessAndEq a b = .gt := by unfold compareOfLessAndEq; rw [if_neg (by omega), if_neg (by omega)]
theorem eq_fin {x y : Nat} (hx : fin x) (hy : fin y) : (double.order x y == some .eq) = decide (U x = U y) := by
 rw [ord_fin hx hy]
 rcases Int.lt_trichotomy (U x) (U y) with h | h | h
 ·rw [coe_lt h, decide_eq_false (by omega)]; rfl
 ·rw [coe_eq h, decide_eq_true h]; rfl
 ·rw [coe_gt h, decide_eq_false (by omega)]; rfl
theorem U_pos {s : Nat} (h : s < 2^63) : U s = (mg s : Nat) := by
 have e1 : sz s = s := Nat.mod_eq_of_lt h
 have e2 : ng s = false := by unfold ng; rw [Nat.div_eq_of_lt h]; rfl
 unfold U; rw [e1, e2]; rfl
theorem ord_pos {s c : Nat} (hs : s < INF) (hc : c < INF) : double.order s c = some (if s < c then .lt else if s = c then .eq else .gt) := by
 have hI : INF = 9218868437227405312 := by decide
 have e1 : sz s = s := Nat.mod_eq_of_lt (by omega)
 have e2 : sz c = c := Nat.mod_eq_of_lt (by omega)
 rw [ord_fin (by unfold fin; rw [e1]; exact hs) (by unfold fin; rw [e2]; exact hc), U_pos (by omega), U_pos (by omega)]
 congr 1
 by_cases h : s < c
 ·rw [if_pos h, coe_lt (by have := mg_lt h; omega)]
 ·rw [if_neg h]
  by_cases h2 : s = c
  ·rw [if_pos h2, coe_eq (by rw [h2])]
  ·rw [if_neg h2, coe_gt (by have := mg_lt (r := c) (s := s) (by omega); omega)]
theorem read_inf {w : Nat} (h : sz w = INF) : double.read w = .infinity (ng w) := by
 unfold Format.read
 simp only [d_sign, d_binade, d_inf, d_least]
 change (if sz w < 2^52 then Datum.number (ng w) (sz w) (-1074) else if sz w < INF then _ else if sz w = INF then _ else _) = _
 have hI : INF = 9218868437227405312 := by decide
 rw [if_neg (by omega), if_neg (by omega), if_pos h]
 rfl
theorem read_nan {w : Nat} (h : INF < sz w) : ∃ s f, double.read w = .nan s f := by
 unfold Format.read
 simp only [d_sign, d_binade, d_inf, d_least]
 change ∃ s f, (if sz w < 2^52 then Datum.number (ng w) (sz w) (-1074) else if sz w < INF then _ else if sz w = INF then _ else _) = _
 have hI : INF = 9218868437227405312 := by decide
 rw [if_neg (by omega), if_neg (by omega), if_neg (by omega)]
 exact ⟨_, _, rfl⟩
theorem ord_inf {s c : Nat} (hs : s = INF) (hc : c < INF) : double.order s c = some .gt := by
 have hI : INF = 9218868437227405312 := by decide
 have e1 : sz s = INF := by rw [hs]; exact Nat.mod_eq_of_lt (by omega)
 have e2 : sz c = c := Nat.mod_eq_of_lt (by omega)
 have e3 : ng s = false := by rw [hs]; decide
 obtain ⟨n, j, hy1, _, _⟩ := read_fin (w := c) (by unfold fin; rw [e2]; exact hc)
 unfold Format.order
 rw [read_inf e1, hy1, e3]
 rfl
theorem ord_nan {s c : Nat} (hs : INF < sz s) : double.order s c = none := by
 obtain ⟨a, b, h⟩ := read_nan hs
 unfold Format.order
 rw [h]
 rfl
theorem le_abs {s c : Nat} (hs : s < 2^63) (hc : c < INF) : (double.order s c == some .lt || double.order s c == some .eq) = decide (s ≤ c) := by
 rcases Nat.lt_trichotomy s INF with h | h | h
 ·rw [ord_pos h hc]
  by_cases c1 : s < c
  ·rw [if_pos c1, decide_eq_true (by omega)]; rfl
  ·rw [if_neg c1]
   by_cases c2 : s = c
   ·rw [if_pos c2, decide_eq_true (by omega)]; rfl
   ·rw [if_neg c2, decide_eq_false (by omega)]; rfl
 ·rw [ord_inf h hc, decide_eq_false (by omega)]; rfl
 ·rw [ord_nan (by rw [show sz s = s from Nat.mod_eq_of_lt hs]; exact h), decide_eq_false (by omega)]; rfl
structure Isn (g : Nat) (v : Int) (r : Nat) : Prop where
 lt : r < 2^64
 size : sz r = min (rung g v.natAbs) INF
 sign : v ≠ 0 → ng r = decide (v < 0)
theorem word_any (neg : Bool) {r : Nat} (h : r ≤ INF) : sz (double.word neg r) = r ∧ ng (double.word neg r) = neg ∧ double.word neg r < 2^64 := by
 unfold INF at h
 unfold Format.word sz ng
 rw [d_sign]
 cases neg
 ·rw [if_neg (by simp)]
  refine ⟨by omega, ?_, by omega⟩
  have : r / 2^63 % 2 = 0 := by omega
  rw [this]; rfl
 ·rw [if_pos rfl]
  refine ⟨by omega, ?_, by omega⟩
  have : (2^63 + r) / 2^63 % 2 = 1 := by omega
  rw [this]; rfl
theorem add_isn {x y : Nat} (hx : fin x) (hy : fin y) : ∃ r, double.add x y = some r ∧ Isn 0 (U x + U y) r := by
 obtain ⟨m, i, hx1, hi, hx2⟩ := read_fin hx
 obtain ⟨n, j, hy1, hj, hy2⟩ := read_fin hy
 have hv : signed (ng x) m (i - min i j).toNat * 2^(min i j + 1074).toNat + signed (ng y) n (j - min i j).toNat * 2^(min i j + 1074).toNat = U x + U y := by
  rw [U_signed (by omega) (by omega) hx2, U_signed (by omega) (by omega) hy2]
 unfold Format.add
 rw [hx1, hy1]
 unfold Datum.sum
 simp only [Option.map_some]
 rw [← Int.add_mul] at hv
 generalize signed (ng x) m (i - min i j).toNat + signed (ng y) n (j - min i j).toNat = total at *
 have hp := pos_of_mul (a := total) (k := (min i j + 1074).toNat)
 rw [hv] at hp
 refine ⟨_, rfl, ?_⟩
 have hn := nearest_word (g := 0) (neg := if total = 0 then ng x && ng y else decide (total < 0)) (mag := total.natAbs) (place := min i j) (V := (U x + U y).natAbs) (by omega)
  (by rw [← hv, Int.natAbs_mul, Int.natAbs_pow]; congr 2; omega)
 obtain ⟨w1, w2, w3⟩ := word_any (if total = 0 then ng x && ng y else decide (total < 0)) (Nat.min_le_right (rung 0 (U x + U y).natAbs) INF)
 have e : double.write (.number (if total = 0 then ng x && ng y else decide (total < 0)) total.natAbs (min i j)) = double.word (if total = 0 then ng x && ng y else decide (total < 0)) (min (rung 0 (U x + U y).natAbs) INF) := hn
 rw [e]
 refine ⟨w3, w1, fun h0 => ?_⟩
 rw [w2, if_neg (by intro h; exact h0 (hp.2.2 h))]
 exact decide_eq_decide.2 hp.1.symm
end Fl
