/- What the printed functions on dyadics answer: Form (the program's and the reference's), Sign, top, size, Cmp. Plain Lean over the printed functions. Conditions: lists of words. What the printed functions of rounding answer: Bit, Word, NearShr, Shl, the size to which a number rounds, Nearest, Decide. Plain Lean over the printed functions. Conditions: numbers in form. -/
import Derived.Test.YtelfmddcjlocpaaGreatDoorKRoundQuotientsRnd
import Derived.Test.YtelfmddcjlocpaaGreatDoorKRoundQuotientsGivenD
import Derived.Test.YtelfmddcjlocpaaGreatDoorKRoundQuotientsBl
import Derived.Test.YtelfmddcjlocpaaGreatDoorKRoundQuotientsPxL0
import Derived.Test.YtelfmddcjlocpaaGreatDoorKRoundQuotientsPxL1
section
namespace Go.Proofs.YtelfmddcjlocpaaGreatDoor.Rp1
open Go.RowKit Go.Proofs.YtelfmddcjlocpaaGreatDoorW.PrintWords Go.Proofs.YtelfmddcjlocpaaGreatDoorW.PrintMore Go.Proofs.YtelfmddcjlocpaaGreatDoor.Num Go.Proofs.YtelfmddcjlocpaaGreatDoor.PLib Go.Proofs.YtelfmddcjlocpaaGreatDoor.Ref Go.Proofs.YtelfmddcjlocpaaGreatDoor.GTh Go.Proofs.YtelfmddcjlocpaaGreatDoor.Given
theorem Ev.succ {α : Type} {g : Nat → Option α} {r : α} (h : Ev (fun k => g (k + 1)) r) : Ev g r := Ev.step (f := fun k => g (k + 1)) (fun _ => rfl) h
theorem lb_rd {x j : Nat} (h : j < nl x) : rd (lb x) (j : Int) = ((dw x j : Nat) : Int) := by
 unfold Go.Proofs.YtelfmddcjlocpaaGreatDoorW.PrintWords.rd
 rw [Int.toNat_natCast, List.getD_eq_getElem?_getD, lb_at h]; rfl
theorem and_one (n : Nat) (h : n < 18446744073709551616) : Go.bits .and .u64 (n : Int) 1 = ((n % 2 : Nat) : Int) := by
 have := u64_and_nat n 1 h (by decide)
 rw [Nat.and_one_is_mod] at this
 exact this
def Wf (l : List Int) : Prop := ∀ d ∈ l, 0 ≤ d ∧ d < 18446744073709551616
def nfm (l : List Int) : Bool := decide (l.length ≤ 8192) && (decide (l.length = 0) || (rd l (((l.length - 1 : Nat) : Int)) != 0))
theorem natForm_f (l : List Int) : nat_Form.f l = some (nfm l) := by
 unfold nat_Form.f nfm
 by_cases c : l.length ≤ 8192
 ·rw [if_pos (by omega), decide_eq_true c, Bool.true_and]
  by_cases c0 : l.length = 0
  ·rw [if_pos (by omega), decide_eq_true c0, Bool.true_or]
  ·have e : wrap64 ((l.length : Int) - 1) = ((l.length - 1 : Nat) : Int) := by rw [w64 (by omega) (by omega)]; omega
   rw [if_neg (by omega), e, if_pos (by omega), if_pos (by omega), decide_eq_false c0, Bool.false_or]
 ·rw [if_neg (by omega), decide_eq_false c, Bool.false_and]
theorem refForm_f (l : List Int) : gnomonref01_DocForm.f l = some (nfm l) := by
 unfold gnomonref01_DocForm.f nfm
 by_cases c : l.length ≤ 8192
 ·rw [if_pos (by omega), decide_eq_true c, Bool.true_and]
  by_cases c0 : l.length = 0
  ·rw [if_pos (by omega), decide_eq_true c0, Bool.true_or]
  ·have e : wrap64 ((l.length : Int) - 1) = ((l.length - 1 : Nat) : Int) := by rw [w64 (by omega) (by omega)]; omega
   rw [if_neg (by omega), e, if_pos (by omega), if_pos (by omega), decide_eq_false c0, Bool.false_or]
 ·rw [if_neg (by omega), decide_eq_false c, Bool.false_and]
def dyB (neg : Bool) (l : List Int) (x : Int) : Bool := if nfm l = true ∧ -1048576 ≤ x ∧ x ≤ 1048576 then (if l.length = 0 then (!neg && (x == 0)) else (Go.bits .and .u64 (rd l 0) 1 == 1)) else false
theorem numForm_f (neg : Bool) (l : List Int) : num_Form.f neg l = some (nfm l && !(neg && decide (l.length = 0))) := by
 unfold num_Form.f
 rw [natForm_f]
 simp only [Option.bind_some]
 cases hn : nfm l
 ·rfl
 ·simp only [if_true]
  cases neg
  ·rfl
  ·rw [if_pos rfl, Bool.true_and, Bool.true_and]
   by_cases c : l.length = 0
   ·rw [decide_eq_true c, c]; rfl
   ·rw [decide_eq_false c, show ((l.length : Int) == 0) = false by simpa using c]
theorem form_ev (neg : Bool) (l : List Int) (x : Int) : Ev (fun k => dyadic_Form.f k neg l x) (dyB neg l x) := by
 have hj : ∀ b : Bool, (b = true → dyB neg l x = false) → (b = false → dyB neg l x = (if l.length = 0 then (!neg && (x == 0)) else (Go.bits .and .u64 (rd l 0) 1 == 1)) ∧ (l.length = 0 → neg = false)) → Ev (fun k => dyadic_Form.j0 k b neg l x) (dyB neg l x) := by
  intro b hb1 hb2
  refine Ev.step (f := fun _ => some (dyB neg l x)) (fun k => ?_) (Ev.now _)
  rw [dyadic_Form.j0]
  cases b
  ·obtain ⟨e, e0⟩ := hb2 rfl
   rw [if_neg (by decide), e]
   by_cases c : l.length = 0
   ·have : dyadic_nought.f neg l x = some true := by unfold dyadic_nought.f; rw [c]; rfl
    rw [this, if_pos c, e0 c]
    simp
   ·have : dyadic_nought.f neg l x = some false := by unfold dyadic_nought.f; rw [show ((l.length : Int) == 0) = false by simpa using c]
    rw [this, if_neg c]
    simp only [Option.bind_some]
    rw [if_neg (by decide), if_pos (by omega)]
  ·rw [if_pos rfl, hb1 rfl]
 unfold dyadic_Form.f
 rw [numForm_f]
 simp only [Option.bind_some]
 cases hn : nfm l
 ·rw [Bool.false_and]
  refine Ev.congr (fun k => if_neg (by decide)) (hj true (fun _ => ?_) (fun h => by cases h))
  unfold dyB
  rw [hn, if_neg (by simp)]
 ·rw [Bool.true_and]
  cases hz : (neg && decide (l.length = 0))
  ·refine Ev.congr (fun k => if_pos (by decide)) ?_
   have hz' : l.length = 0 → neg = false := fun c => by
    rw [decide_eq_true c, Bool.and_true] at hz; exact hz
   by_cases c1 : x < -1048576
   ·refine Ev.congr (fun k => if_pos c1) (hj true (fun _ => ?_) (fun h => by cases h))
    unfold dyB
    rw [if_neg (by omega)]
   ·refine Ev.congr (fun k => if_neg c1) (hj _ (fun h => ?_) (fun h => ?_))
    ·have := of_decide_eq_true h
     unfold dyB
     rw [if_neg (by omega)]
    ·have := of_decide_eq_false h
     refine ⟨?_, hz'⟩
     unfold dyB
     rw [if_pos ⟨hn, by omega, by omega⟩]
  ·refine Ev.congr (fun k => if_neg (by decide)) (hj true (fun _ => ?_) (fun h => by cases h))
   rw [Bool.and_eq_true] at hz
   have := of_decide_eq_true hz.2
   unfold dyB
   rw [hz.1]
   split
   ·first | rfl | (rw [if_pos this]; rfl)
   ·rfl
theorem docForm_ev (neg : Bool) (l : List Int) (x : Int) : Ev (fun k => gnomonref05_DocForm.f k neg l x) (dyB neg l x) := by
 have hj : ∀ b : Bool, (b = true → dyB neg l x = false) → (b = false → dyB neg l x = (if l.length = 0 then (!neg && (x == 0)) else (Go.bits .and .u64 (rd l 0) 1 == 1))) → Ev (fun k => gnomonref05_DocForm.j0 k b neg l x) (dyB neg l x) := by
  intro b hb1 hb2
  refine Ev.step (f := fun _ => some (dyB neg l x)) (fun k => ?_) (Ev.now _)
  rw [gnomonref05_DocForm.j0]
  cases b
  ·rw [if_neg (by decide), hb2 rfl]
   by_cases c : l.length = 0
   ·rw [if_pos (by omega), if_pos c]
    cases neg <;> rfl
   ·rw [if_neg (by omega), if_neg c, if_pos (by omega)]
  ·rw [if_pos rfl, hb1 rfl]
 unfold gnomonref05_DocForm.f
 rw [refForm_f]
 simp only [Option.bind_some]
 cases hn : nfm l
 ·refine Ev.congr (fun k => if_neg (by decide)) (hj true (fun _ => ?_) (fun h => by cases h))
  unfold dyB
  rw [hn, if_neg (by simp)]
 ·refine Ev.congr (fun k => if_pos (by decide)) ?_
  by_cases c1 : x < -1048576
  ·refine Ev.congr (fun k => if_pos c1) (hj true (fun _ => ?_) (fun h => by cases h))
   unfold dyB
   rw [if_neg (by omega)]
  ·refine Ev.congr (fun k => if_neg c1) (hj _ (fun h => ?_) (fun h => ?_))
   ·have := of_decide_eq_true h
    unfold dyB
    rw [if_neg (by omega)]
   ·have := of_decide_eq_false h
    unfold dyB
    rw [if_pos ⟨hn, by omega, by omega⟩]
structure Dk (neg : Bool) (m : Nat) (x : Int) : Prop where mk :: (lim : nl m ≤ 8192) (zero : m = 0 → neg = false ∧ x = 0) (odd : m ≠ 0 → m % 2 = 1) (low : -1048576 ≤ x) (high : x ≤ 1048576)
theorem nfm_lb {m : Nat} (h : nl m ≤ 8192) : nfm (lb m) = true := by
 unfold nfm
 rw [lb_len, decide_eq_true h, Bool.true_and]
 by_cases c : m = 0
 ·rw [c]; rfl
 ·have p := nl_pos c
  have t := nl_top c
  rw [decide_eq_false (by omega), Bool.false_or, lb_rd (by omega)]
  simpa using t
theorem dk_of {neg : Bool} {l : List Int} {x : Int} (hw : Wf l) (h : dyB neg l x = true) : ∃ m, l = lb m ∧ Dk neg m x := by
 unfold dyB at h
 by_cases c : nfm l = true ∧ -1048576 ≤ x ∧ x ≤ 1048576
 ·rw [if_pos c] at h
  obtain ⟨c1, c2, c3⟩ := c
  unfold nfm at c1
  rw [Bool.and_eq_true] at c1
  have hl := of_decide_eq_true c1.1
  have hok : okL l = true := okL_iff.2 ⟨by omega, hw⟩
  have hlt := vL_lt hw
  by_cases c0 : l.length = 0
  ·obtain rfl := List.eq_nil_of_length_eq_zero c0
   rw [if_pos c0, Bool.and_eq_true] at h
   refine ⟨0, rfl, by decide, fun _ => ⟨by simpa using h.1, by simpa using h.2⟩, fun e => absurd rfl e, c2, c3⟩
  ·rw [if_neg c0] at h
   have c4 := c1.2
   rw [decide_eq_false c0, Bool.false_or] at c4
   obtain ⟨n, hn⟩ : ∃ n, l.length = n + 1 := ⟨l.length - 1, by omega⟩
   have e1 : rd l ((l.length - 1 : Nat) : Int) = ((dw (vL l) n : Nat) : Int) := by
    unfold Go.Proofs.YtelfmddcjlocpaaGreatDoorW.PrintWords.rd
    rw [Int.toNat_natCast, List.getD_eq_getElem?_getD, vL_at hw (by omega), show l.length - 1 = n by omega]; rfl
   have e0 : rd l 0 = ((dw (vL l) 0 : Nat) : Int) := by
    unfold Go.Proofs.YtelfmddcjlocpaaGreatDoorW.PrintWords.rd
    rw [show (0 : Int).toNat = 0 from rfl, List.getD_eq_getElem?_getD, vL_at hw (by omega)]; rfl
   rw [e1] at c4
   have t : dw (vL l) n ≠ 0 := by
    intro e
    rw [e] at c4
    exact absurd c4 (by decide)
   rw [hn] at hlt
   have hnl := nl_of hlt t
   have hlb := lb_of hok (by rw [hnl, hn])
   rw [e0, and_one _ (dw_lt _ _)] at h
   have ho : vL l % 2 = 1 := by
    have h1 : dw (vL l) 0 = vL l % 18446744073709551616 := by unfold dw; rw [pw_zero, Nat.div_one]
    rw [h1] at h
    have : (((vL l % 18446744073709551616 % 2 : Nat) : Int)) = 1 := by simpa using h
    omega
   exact ⟨vL l, hlb, by omega, fun e => by omega, fun _ => ho, c2, c3⟩
 ·rw [if_neg c] at h; cases h
theorem bits_f {m : Nat} (h : nl m ≤ 8192) : nat_Bits.f (lb m) = some ((bl m : Nat) : Int) := by
 unfold nat_Bits.f
 rw [if_pos (okL_lb (by omega)), vL_lb]
theorem bl_le' {m : Nat} (h : nl m ≤ 8192) : bl m ≤ 524288 := by have := bl_le_limbs m; omega
theorem shl_f {m n : Nat} (h : nl m ≤ 8192) (hn : m = 0 ∨ bl m + n ≤ 524288) : nat_Shl.f (lb m) (n : Int) = some (lb (m * 2^n), 0) := by
 unfold nat_Shl.f
 rw [vL_lb, if_pos ⟨fmL_lb h, by omega, by rw [Int.toNat_natCast]; exact hn⟩, Int.toNat_natCast]
def szc (m : Nat) (x : Int) (m' : Nat) (x' : Int) : Int := cmI (m * 2^(x - min x x').toNat) (m' * 2^(x' - min x x').toNat)
theorem cmI_lt {x y : Nat} (h : x < y) : cmI x y = -1 := if_pos h
theorem cmI_gt {x y : Nat} (h : y < x) : cmI x y = 1 := by unfold cmI; rw [if_neg (by omega), if_pos h]
theorem szc_top {m m' : Nat} {x x' : Int} (h0 : m ≠ 0) (h0' : m' ≠ 0) (h : x + (bl m : Nat) < x' + (bl m' : Nat)) : m * 2^(x - min x x').toNat < m' * 2^(x' - min x x').toNat := by
 have h1 : bl (m * 2^(x - min x x').toNat) = bl m + (x - min x x').toNat := bl_mul m _ h0
 have h2 : bl (m' * 2^(x' - min x x').toNat) = bl m' + (x' - min x x').toNat := bl_mul m' _ h0'
 by_cases c : m * 2^(x - min x x').toNat < m' * 2^(x' - min x x').toNat
 ·exact c
 ·have h3 := bl_mono (show m' * 2^(x' - min x x').toNat ≤ m * 2^(x - min x x').toNat by omega)
  omega
end Go.Proofs.YtelfmddcjlocpaaGreatDoor.Rp1
end
section
namespace Go.Proofs.YtelfmddcjlocpaaGreatDoor.Rp2
open Go.RowKit Go.Proofs.YtelfmddcjlocpaaGreatDoorW.PrintWords Go.Proofs.YtelfmddcjlocpaaGreatDoorW.PrintMore Go.Proofs.YtelfmddcjlocpaaGreatDoor.Num Go.Proofs.YtelfmddcjlocpaaGreatDoor.PLib Go.Proofs.YtelfmddcjlocpaaGreatDoor.Ref Go.Proofs.YtelfmddcjlocpaaGreatDoor.GTh Go.Proofs.YtelfmddcjlocpaaGreatDoor.Given Go.Proofs.YtelfmddcjlocpaaGreatDoor.Rp1 Go.Proofs.YtelfmddcjlocpaaGreatDoor.BinLaw Go.Proofs.YtelfmddcjlocpaaGreatDoor.Fm8 Go.Proofs.YtelfmddcjlocpaaGreatDoor.Rnd
theorem word_f (n : Nat) (h : n < 18446744073709551616) : nat_Word.f (n : Int) = some (lb n) := by
 unfold nat_Word.f
 by_cases c : n = 0
 ·rw [if_pos (by omega), c]; rfl
 ·rw [if_neg (by omega)]
  have e1 := nl_one c h
  have e2 : dw n 0 = n := by unfold dw; rw [pw_zero, Nat.div_one]; omega
  unfold lb
  rw [e1]
  simp [List.range_succ, e2]
theorem told_f (neg : Bool) (m : Nat) : num_told.f neg (lb m) 0 = some (neg && decide (m ≠ 0), lb m, 0) := by
 have e : decide (((lb m).length : Int) > 0) = decide (m ≠ 0) := by
  rw [lb_len]
  by_cases c : m = 0
  ·rw [c]; rfl
  ·have := nl_pos c
   rw [decide_eq_true (show m ≠ 0 from c), decide_eq_true (by omega)]
 unfold num_told.f num_whole.f
 rw [if_pos rfl]
 cases neg
 ·rfl
 ·rw [if_pos rfl, e]; simp
theorem shr_dw {m p : Nat} : shr .u64 ((dw m (p / 64) : Nat) : Int) ((p % 64 : Nat) : Int) = (((dw m (p / 64)) / 2^(p % 64) : Nat) : Int) := by
 have h := shr_small (k := .u64) (x := ((dw m (p / 64) : Nat) : Int)) (y := ((p % 64 : Nat) : Int)) rfl (by show ((p % 64 : Nat) : Int) ≤ ((64 : Nat) : Int); omega)
 rw [← h, Int.toNat_natCast]
 push_cast
 rfl
theorem bit_dw (m p : Nat) : dw m (p / 64) / 2^(p % 64) % 2 = m / 2^p % 2 := by
 obtain ⟨s, hs⟩ : ∃ s, s = p % 64 := ⟨_, rfl⟩
 obtain ⟨j, hj⟩ : ∃ j, j = p / 64 := ⟨_, rfl⟩
 have e1 : 2^p = pw j * 2^s := by unfold pw; rw [← Nat.pow_add]; congr 1; omega
 rw [← hs, ← hj, e1, ← Nat.div_div_eq_div_mul]
 unfold dw
 generalize m / pw j = x
 obtain ⟨u, hu⟩ : ∃ u, 64 = s + (u + 1) := ⟨64 - s - 1, by omega⟩
 have e2 : 18446744073709551616 = 2^s * (2^u * 2) := by rw [← e64, hu, Nat.pow_add, Nat.pow_succ]
 rw [e2, Nat.mod_mul_right_div_self, Nat.mod_mul_left_mod]
def bitI (m : Nat) (n : Int) : Bool := decide (0 ≤ n) && decide (m / 2^n.toNat % 2 = 1)
theorem bit_ev {m : Nat} (_h : nl m ≤ 8192) {n : Int} (hn : n < 4611686018427387904) : Ev (fun k => nat_Bit.f k (lb m) n) (bitI m n) := by
 unfold nat_Bit.f
 by_cases c : n < 0
 ·refine Ev.congr (fun k => if_pos c) (Ev.step (f := fun _ => some (bitI m n)) (fun k => ?_) (Ev.now _))
  rw [nat_Bit.j0, if_pos rfl]
  unfold bitI
  rw [decide_eq_false (by omega)]; rfl
 ·refine Ev.congr (fun k => if_neg c) ?_
  obtain ⟨p, rfl⟩ : ∃ p : Nat, n = (p : Int) := ⟨n.toNat, by omega⟩
  have e1 : Int.tdiv (p : Int) 64 = ((p / 64 : Nat) : Int) := (Int.ofNat_tdiv p 64).symm
  have e2 : Int.tmod (p : Int) 64 = ((p % 64 : Nat) : Int) := (Int.ofNat_tmod p 64).symm
  have e3 : wrap64 ((p / 64 : Nat) : Int) = ((p / 64 : Nat) : Int) := w64 (by omega) (by omega)
  rw [e1, e3, lb_len]
  have eb : bitI m (p : Int) = decide (m / 2^p % 2 = 1) := by
   unfold bitI
   rw [decide_eq_true (by omega), Bool.true_and, Int.toNat_natCast]
  rw [eb]
  by_cases c2 : nl m ≤ p / 64
  ·rw [decide_eq_true (by omega)]
   refine Ev.step (f := fun _ => some (decide (m / 2^p % 2 = 1))) (fun k => ?_) (Ev.now _)
   rw [nat_Bit.j0, if_pos rfl]
   have e0 : m / 2^p = 0 := by
    refine Nat.div_eq_of_lt (Nat.lt_of_lt_of_le (nl_lt m) ?_)
    show 2^(64 * nl m) ≤ 2^p
    exact Nat.pow_le_pow_right (by decide) (by omega)
   rw [e0]; rfl
  ·rw [decide_eq_false (by omega)]
   refine Ev.step (f := fun _ => some (decide (m / 2^p % 2 = 1))) (fun k => ?_) (Ev.now _)
   rw [nat_Bit.j0, if_neg (by decide), e1, e2, e3, if_pos (by omega), lb_len, if_pos (by omega), if_pos (by omega), lb_rd (by omega), shr_dw]
   have hlt : dw m (p / 64) / 2^(p % 64) < 18446744073709551616 := Nat.lt_of_le_of_lt (Nat.div_le_self _ _) (dw_lt _ _)
   rw [and_one _ hlt, bit_dw]
   congr 1
   by_cases z : m / 2^p % 2 = 1
   ·rw [z]; rfl
   ·have : m / 2^p % 2 = 0 := by omega
    rw [this]; rfl
theorem add_f {m n : Nat} (h : nl m ≤ 8192) (h' : nl n ≤ 8192) (h2 : nl (m + n) ≤ 8192) : nat_Add.f (lb m) (lb n) = some (lb (m + n), 0) := by
 unfold nat_Add.f
 rw [vL_lb, vL_lb, if_pos ⟨fmL_lb h, fmL_lb h', h2⟩]
theorem shr_f {m n : Nat} (h : nl m ≤ 8192) (hn : n < 9223372036854775808) : nat_Shr.f (lb m) (n : Int) = some (lb (m / 2^n), 0) := by
 unfold nat_Shr.f
 rw [vL_lb, if_pos ⟨fmL_lb h, by omega, by omega⟩, Int.toNat_natCast]
theorem trail_f {m : Nat} (h : nl m ≤ 8192) (h0 : m ≠ 0) : nat_Trail.f (lb m) = some ((tz m : Nat) : Int) := by
 unfold nat_Trail.f
 rw [vL_lb, if_pos ⟨fmL_lb h, h0⟩]
theorem numForm_lb {neg : Bool} {m : Nat} (h : nl m ≤ 8192) (h0 : m = 0 → neg = false) : num_Form.f neg (lb m) = some true := by
 rw [numForm_f, nfm_lb h, lb_len]
 by_cases c : m = 0
 ·rw [h0 c]; rfl
 ·have := nl_pos c
  rw [decide_eq_false (by omega)]; simp
theorem made_ev (neg some_ : Bool) {q : Nat} (half : Int) (r : Nat) (h : nl q ≤ 8192) (hr : nl r ≤ 8192) (e : r = if half > 0 ∨ (half = 0 ∧ q % 2 = 1) then q + 1 else q) :
  Ev (fun k => num_way_made.f k 2 neg (lb q) some_ half) (neg && decide (r ≠ 0), lb r, 0) := by
 unfold num_way_made.f
 have hb := bit_ev h (n := 0) (by decide)
 refine Ev.bind hb ?_
 have e0 : bitI q 0 = decide (q % 2 = 1) := by
  unfold bitI
  rw [show (0 : Int).toNat = 0 from rfl, Nat.pow_zero, Nat.div_one]; rfl
 have em : num_way_more.f 2 neg (bitI q 0) some_ half = some (decide (half > 0 ∨ (half = 0 ∧ q % 2 = 1))) := by
  unfold num_way_more.f
  rw [if_neg (by decide), if_neg (by decide), e0]
  by_cases c1 : half > 0
  ·rw [if_pos c1, decide_eq_true (.inl c1)]
  ·rw [if_neg c1]
   by_cases c2 : half = 0
   ·rw [if_pos c2]
    congr 1
    rw [decide_eq_decide]
    omega
   ·rw [if_neg c2, decide_eq_false (by omega)]
 rw [em]
 simp only [Option.bind_some]
 by_cases c : half > 0 ∨ (half = 0 ∧ q % 2 = 1)
 ·rw [if_pos c] at e
  rw [decide_eq_true c]
  simp only [if_true]
  have w1 : nat_Word.f 1 = some (lb 1) := word_f 1 (by decide)
  rw [w1]
  simp only [Option.bind_some]
  rw [add_f h (by decide) (by rw [← e]; exact hr), ← e]
  simp only [Option.bind_some]
  rw [told_f]
  exact Ev.now _
 ·rw [if_neg c] at e
  rw [decide_eq_false c]
  refine Ev.congr (fun k => if_neg (by decide)) ?_
  rw [told_f, e]
  exact Ev.now _
theorem nr_le {m n : Nat} : nr m n ≤ m := by
 by_cases c : n = 0
 ·rw [c, nr_zero]; exact Nat.le_refl _
 ·unfold nr
  obtain ⟨p, rfl⟩ : ∃ p, n = p + 1 := ⟨n - 1, by omega⟩
  have h2 : 2 ≤ 2^(p + 1) := by
   have := Nat.two_pow_pos p
   rw [Nat.pow_succ]; omega
  have h1 := Nat.div_add_mod m (2^(p + 1))
  have h3 : 2 * (m / 2^(p + 1)) ≤ 2^(p + 1) * (m / 2^(p + 1)) := Nat.mul_le_mul_right _ h2
  generalize 2^(p + 1) = d at *
  generalize m / d = q at *
  generalize m % d = r at *
  split
  ·rename_i c3
   rcases Nat.eq_zero_or_pos q with z | z
   ·subst z; omega
   ·omega
  ·omega
theorem nr_half {m p : Nat} : nr m (p + 1) = (if (if m / 2^p % 2 = 1 then (if tz m = p then (0 : Int) else 1) else -1) > 0 ∨ ((if m / 2^p % 2 = 1 then (if tz m = p then (0 : Int) else 1) else -1) = 0 ∧ m / 2^(p + 1) % 2 = 1) then m / 2^(p + 1) + 1 else m / 2^(p + 1)) := by
 have e1 : m % 2^(p + 1) = m % 2^p + 2^p * (m / 2^p % 2) := by rw [Nat.pow_succ, Nat.mod_mul]
 have hp := Nat.two_pow_pos p
 have hr := Nat.mod_lt m hp
 unfold nr
 rw [e1]
 have e2 : 2^(p + 1) = 2 * 2^p := by rw [Nat.pow_succ, Nat.mul_comm]
 by_cases c : m / 2^p % 2 = 1
 ·rw [c, if_pos rfl, Nat.mul_one]
  by_cases z : m % 2^p = 0
  ·have ez := (tz_bit c).2 z
   rw [if_pos ez, z]
   have f1 : ¬ ((0 : Int) > 0) := by decide
   by_cases o : m / 2^(p + 1) % 2 = 1
   ·rw [if_pos (.inr ⟨by omega, o⟩), if_pos (.inr ⟨rfl, o⟩)]
   ·rw [if_neg (by omega), if_neg (by omega)]; rfl
  ·have ez : tz m ≠ p := fun a => z ((tz_bit c).1 a)
   rw [if_neg ez, if_pos (.inl (by omega)), if_pos (.inl (by decide))]
 ·have c0 : m / 2^p % 2 = 0 := by omega
  have g1 : ¬ (2^(p + 1) < 2 * (m % 2^p) ∨ (2 * (m % 2^p) = 2^(p + 1) ∧ m / 2^(p + 1) % 2 = 1)) := by omega
  have g2 : ¬ ((-1 : Int) > 0 ∨ ((-1 : Int) = 0 ∧ m / 2^(p + 1) % 2 = 1)) := by omega
  rw [c0, Nat.mul_zero, Nat.add_zero (m % 2^p), if_neg g1, if_neg (show ¬ (0 : Nat) = 1 by decide), if_neg g2, Nat.add_zero]
theorem nearShr_ev {neg : Bool} {m n : Nat} (h : nl m ≤ 8192) (h0 : m = 0 → neg = false) (hn : n < 4611686018427387904) : Ev (fun k => num_NearShr.f k neg (lb m) (n : Int)) (neg && decide (nr m n ≠ 0), lb (nr m n), 0) := by
 unfold num_NearShr.f num_way_shr.f
 have hq : nl (m / 2^n) ≤ 8192 := Nat.le_trans (nl_mono (Nat.div_le_self _ _)) h
 have hr : nl (nr m n) ≤ 8192 := Nat.le_trans (nl_mono nr_le) h
 refine Ev.bind (a := (neg && decide (nr m n ≠ 0), lb (nr m n), 0)) ?_ (Ev.now _)
 refine Ev.congr (fun k => if_neg (by omega)) ?_
 rw [numForm_lb h h0, shr_f h (by omega)]
 simp only [Option.bind_some, if_true]
 have hj : ∀ b : Bool, Ev (fun k => num_way_shr.j0 k 2 (n : Int) (lb (m / 2^n)) b neg (lb m)) (neg && decide (nr m n ≠ 0), lb (nr m n), 0) := by
  intro b
  have ew : wrap64 ((n : Int) - 1) = (n : Int) - 1 := w64 (by omega) (by omega)
  refine Ev.step (f := fun k => (nat_Bit.f k (lb m) (wrap64 ((n : Int) - 1))).bind fun t370 => (if t370 = true then ((nat_Trail.f (lb m)).bind fun t371 => (if t371 = (wrap64 ((n : Int) - 1)) then ((num_way_made.f k 2 neg (lb (m / 2^n)) b 0).bind fun bt372 => (some (bt372.1, bt372.2.1, bt372.2.2))) else ((num_way_made.f k 2 neg (lb (m / 2^n)) b 1).bind fun bt377 => (some (bt377.1, bt377.2.1, bt377.2.2))))) else ((num_way_made.f k 2 neg (lb (m / 2^n)) b (-1)).bind fun bt382 => (some (bt382.1, bt382.2.1, bt382.2.2))))) (fun k => rfl) ?_
  rw [ew]
  refine Ev.bind (bit_ev h (n := (n : Int) - 1) (by omega)) ?_
  by_cases c : n = 0
  ·subst c
   have e0 : bitI m (((0 : Nat) : Int) - 1) = false := rfl
   rw [e0, nr_zero, Nat.pow_zero, Nat.div_one]
   refine Ev.congr (fun k => if_neg (by decide)) ?_
   exact Ev.bind (made_ev neg b (-1) m h h (by rw [if_neg (by omega)])) (Ev.now _)
  ·obtain ⟨p, rfl⟩ : ∃ p, n = p + 1 := ⟨n - 1, by omega⟩
   have e0 : ((p + 1 : Nat) : Int) - 1 = (p : Int) := by omega
   have e1 : bitI m (p : Int) = decide (m / 2^p % 2 = 1) := by
    unfold bitI
    rw [decide_eq_true (by omega), Bool.true_and, Int.toNat_natCast]
   rw [e0, e1]
   have eh := nr_half (m := m) (p := p)
   by_cases z : m / 2^p % 2 = 1
   ·rw [if_pos z] at eh
    rw [decide_eq_true z]
    have m0 : m ≠ 0 := by intro e; rw [e, Nat.zero_div] at z; omega
    simp only [if_true]
    rw [trail_f h m0]
    simp only [Option.bind_some]
    by_cases t : tz m = p
    ·rw [if_pos t] at eh
     refine Ev.congr (fun k => if_pos (by omega)) ?_
     exact Ev.bind (made_ev neg b 0 (nr m (p + 1)) hq hr eh) (Ev.now _)
    ·rw [if_neg t] at eh
     refine Ev.congr (fun k => if_neg (by omega)) ?_
     exact Ev.bind (made_ev neg b 1 (nr m (p + 1)) hq hr eh) (Ev.now _)
   ·rw [if_neg z] at eh
    rw [decide_eq_false z]
    refine Ev.congr (fun k => if_neg (by decide)) ?_
    exact Ev.bind (made_ev neg b (-1) (nr m (p + 1)) hq hr eh) (Ev.now _)
 rw [lb_len]
 by_cases c : m = 0
 ·rw [show nl m = 0 by rw [c]; rfl]
  exact hj false
 ·have := nl_pos c
  refine Ev.congr (fun k => if_pos (by omega)) ?_
  rw [trail_f h c]
  exact hj _
end Go.Proofs.YtelfmddcjlocpaaGreatDoor.Rp2
end
