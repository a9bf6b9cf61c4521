/- What the naturals' functions answer, as plain Lean on lists of limbs. No program in sight. No condition. -/
import Derived.Test.YtelfmddcjlocpaaGreatDoorKRoundNearestsGTh
namespace Go.Proofs.YtelfmddcjlocpaaGreatDoor.Given
open Go.Proofs.YtelfmddcjlocpaaGreatDoor.Ref Go.Proofs.YtelfmddcjlocpaaGreatDoor.GTh
def vL : List Int → Nat
 | [] => 0
 | d :: t => d.toNat + 18446744073709551616 * vL t
def okL (l : List Int) : Bool := decide (l.length < 1099511627776) && l.all (fun d => decide (0 ≤ d) && decide (d < 18446744073709551616))
def lb (x : Nat) : List Int := (List.range (nl x)).map fun j => ((dw x j : Nat) : Int)
def fm (l : List Int) : Bool := decide (l.length = nl (vL l)) && decide (l.length ≤ 8192)
def cmI (x y : Nat) : Int := if x < y then -1 else if y < x then 1 else 0
def tz (x : Nat) : Nat := if x = 0 then 0 else go x x
where go : Nat → Nat → Nat
 | 0, _ => 0
 | k + 1, x => if x % 2 = 1 then 0 else go k (x / 2) + 1
def rt (x : Nat) : Nat := go x 0
where go : Nat → Nat → Nat
 | 0, r => r
 | k + 1, r => if (r + 1) * (r + 1) ≤ x then go k (r + 1) else r
def fmL (l : List Int) : Bool := okL l && fm l
def nat_Bits.f (l0 : List Int) : Option Int := if okL l0 = true then some ((bl (vL l0) : Nat) : Int) else none
def nat_Trail.f (l0 : List Int) : Option Int := if fmL l0 = true ∧ vL l0 ≠ 0 then some ((tz (vL l0) : Nat) : Int) else none
def nat_Shl.f (l0 : List Int) (a1 : Int) : Option (List Int × Int) := if fmL l0 = true ∧ 0 ≤ a1 ∧ (vL l0 = 0 ∨ bl (vL l0) + a1.toNat ≤ 524288) then some (lb (vL l0 * 2^a1.toNat), 0) else none
def nat_Shr.f (l0 : List Int) (a1 : Int) : Option (List Int × Int) := if fmL l0 = true ∧ 0 ≤ a1 ∧ a1 < 9223372036854775808 then some (lb (vL l0 / 2^a1.toNat), 0) else none
def nat_Add.f (l0 l1 : List Int) : Option (List Int × Int) := if fmL l0 = true ∧ fmL l1 = true ∧ nl (vL l0 + vL l1) ≤ 8192 then some (lb (vL l0 + vL l1), 0) else none
theorem okL_iff {l : List Int} : okL l = true ↔ l.length < 1099511627776 ∧ ∀ d ∈ l, 0 ≤ d ∧ d < 18446744073709551616 := by
 unfold okL
 rw [Bool.and_eq_true, decide_eq_true_iff, List.all_eq_true]
 refine and_congr Iff.rfl (forall_congr' fun d => imp_congr Iff.rfl ?_)
 rw [Bool.and_eq_true, decide_eq_true_iff, decide_eq_true_iff]
theorem vL_lt : ∀ {l : List Int}, (∀ d ∈ l, 0 ≤ d ∧ d < 18446744073709551616) → vL l < pw l.length
 | [], _ => by rw [List.length_nil, pw_zero]; exact Nat.zero_lt_one
 | d :: t, h => by
  have h1 := vL_lt (l := t) (fun x hx => h x (List.mem_cons_of_mem _ hx))
  have h2 := h d (List.mem_cons_self ..)
  rw [vL, List.length_cons, pw_succ]
  have h3 : d.toNat < 18446744073709551616 := by omega
  omega
theorem vL_at : ∀ {l : List Int} {j : Nat}, (∀ d ∈ l, 0 ≤ d ∧ d < 18446744073709551616) → j < l.length → l[j]? = some ((dw (vL l) j : Nat) : Int)
 | [], _, _, h => by simp at h
 | d :: t, 0, h, _ => by
  have h2 := h d (List.mem_cons_self ..)
  rw [vL, List.getElem?_cons_zero]
  unfold dw
  rw [pw_zero, Nat.div_one]
  congr 1
  omega
 | d :: t, j + 1, h, hj => by
  rw [List.getElem?_cons_succ, vL_at (fun x hx => h x (List.mem_cons_of_mem _ hx)) (by simpa using hj)]
  have h2 := h d (List.mem_cons_self ..)
  rw [vL]
  unfold dw
  have e : pw (j + 1) = 18446744073709551616 * pw j := by rw [pw_succ, Nat.mul_comm]
  rw [e, ← Nat.div_div_eq_div_mul]
  have : (d.toNat + 18446744073709551616 * vL t) / 18446744073709551616 = vL t := by omega
  rw [this]
theorem lb_len (x : Nat) : (lb x).length = nl x := by simp [lb]
theorem lb_at {x j : Nat} (h : j < nl x) : (lb x)[j]? = some ((dw x j : Nat) : Int) := by simp [lb, h]
theorem lb_mem {x : Nat} : ∀ d ∈ lb x, 0 ≤ d ∧ d < 18446744073709551616 := by
 intro d hd
 obtain ⟨j, _, rfl⟩ := List.mem_map.1 hd
 have := dw_lt x j
 omega
theorem vL_lb (x : Nat) : vL (lb x) = x := by
 refine dw_ext (n := nl x) (by have := vL_lt (l := lb x) lb_mem; rwa [lb_len] at this) (nl_lt x) (fun j hj => ?_)
 have h1 := vL_at (l := lb x) (j := j) lb_mem (by rw [lb_len]; exact hj)
 rw [lb_at hj] at h1
 have := Option.some.inj h1
 omega
theorem lb_of {l : List Int} (h : okL l = true) (hn : l.length = nl (vL l)) : l = lb (vL l) := by
 have hm := (okL_iff.1 h).2
 apply List.ext_getElem?
 intro j
 by_cases c : j < l.length
 ·rw [vL_at hm c, lb_at (by omega)]
 ·rw [List.getElem?_eq_none (by omega), List.getElem?_eq_none (by rw [lb_len]; omega)]
theorem fmL_iff {l : List Int} : fmL l = true ↔ okL l = true ∧ l.length = nl (vL l) ∧ l.length ≤ 8192 := by
 unfold fmL fm
 rw [Bool.and_eq_true, Bool.and_eq_true, decide_eq_true_iff, decide_eq_true_iff]
theorem okL_lb {x : Nat} (h : nl x < 1099511627776) : okL (lb x) = true := okL_iff.2 ⟨by rw [lb_len]; exact h, lb_mem⟩
theorem fmL_lb {x : Nat} (h : nl x ≤ 8192) : fmL (lb x) = true := fmL_iff.2 ⟨okL_lb (by omega), by rw [lb_len, vL_lb], by rw [lb_len]; exact h⟩
theorem tz_go (k x : Nat) (h0 : x ≠ 0) (h : x ≤ k) : ∃ m, x = 2^(tz.go k x) * (2 * m + 1) := by
 induction k generalizing x with
 | zero => omega
 | succ k ih =>
  unfold tz.go
  by_cases c : x % 2 = 1
  ·rw [if_pos c]; exact ⟨x / 2, by rw [Nat.pow_zero]; omega⟩
  ·rw [if_neg c]
   obtain ⟨m, hm⟩ := ih (x / 2) (by omega) (by omega)
   refine ⟨m, ?_⟩
   rw [Nat.pow_succ, Nat.mul_comm _ 2, Nat.mul_assoc, ← hm]
   omega
theorem tz_spec {x : Nat} (h : x ≠ 0) : ∃ m, x = 2^(tz x) * (2 * m + 1) := by
 unfold tz
 rw [if_neg h]
 exact tz_go x x h (Nat.le_refl _)
theorem tz_uniq {x s t : Nat} (h : ∃ m, x = 2^s * (2 * m + 1)) (h' : ∃ m, x = 2^t * (2 * m + 1)) : s = t := by
 have key : ∀ {s t : Nat}, (∃ m, x = 2^s * (2 * m + 1)) → (∃ m, x = 2^t * (2 * m + 1)) → s < t → False := by
  intro s t ⟨m, e⟩ ⟨m', e'⟩ hlt
  obtain ⟨d, rfl⟩ : ∃ d, t = s + (d + 1) := ⟨t - s - 1, by omega⟩
  rw [e, Nat.pow_add, Nat.mul_assoc] at e'
  have := Nat.eq_of_mul_eq_mul_left (Nat.two_pow_pos s) e'
  rw [Nat.pow_succ, Nat.mul_comm (2^d) 2, Nat.mul_assoc] at this
  omega
 rcases Nat.lt_trichotomy s t with c | c | c
 ·exact (key h h' c).elim
 ·exact c
 ·exact (key h' h c).elim
theorem tz_eq {x t : Nat} (h : ∃ m, x = 2^t * (2 * m + 1)) : tz x = t := by
 have h0 : x ≠ 0 := by
  obtain ⟨m, rfl⟩ := h
  exact Nat.mul_ne_zero (Nat.pos_iff_ne_zero.1 (Nat.two_pow_pos t)) (by omega)
 exact tz_uniq (tz_spec h0) h
theorem tz_bit {m p : Nat} (h : m / 2^p % 2 = 1) : tz m = p ↔ m % 2^p = 0 := by
 have h0 : m ≠ 0 := by intro e; rw [e, Nat.zero_div] at h; omega
 constructor
 ·intro e
  obtain ⟨u, hu⟩ := tz_spec h0
  rw [e] at hu
  rw [hu, Nat.mul_mod_right]
 ·intro e
  refine tz_eq ⟨m / 2^p / 2, ?_⟩
  have e1 := Nat.div_add_mod m (2^p)
  rw [e, Nat.add_zero] at e1
  have e2 : 2 * (m / 2^p / 2) + 1 = m / 2^p := by omega
  rw [e2, e1]
end Go.Proofs.YtelfmddcjlocpaaGreatDoor.Given
