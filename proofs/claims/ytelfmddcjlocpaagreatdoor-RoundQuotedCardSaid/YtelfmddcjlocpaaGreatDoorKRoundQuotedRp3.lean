/- What the printed functions of rounding answer: Bit, Word, NearShr, Shl, the size to which a number rounds, Nearest, Decide. Plain Lean over the printed functions. Conditions: numbers in form. What the printed rounding answers: the pattern of the nearest size. Plain Lean over the printed functions. Conditions: numbers in form. -/
import Derived.Test.YtelfmddcjlocpaaGreatDoorKRoundQuotedRp1
import Derived.Test.YtelfmddcjlocpaaGreatDoorKRoundQuotedPxL1
import Derived.Test.YtelfmddcjlocpaaGreatDoorKRoundQuotedPxL0
section
namespace Go.Proofs.YtelfmddcjlocpaaGreatDoor.Rp2
open Go.RowKit Go.Proofs.YtelfmddcjlocpaaGreatDoorW.PrintWords Go.Proofs.YtelfmddcjlocpaaGreatDoorW.PrintMore Go.Proofs.YtelfmddcjlocpaaGreatDoor.Num Go.Proofs.YtelfmddcjlocpaaGreatDoor.PLib Go.Proofs.YtelfmddcjlocpaaGreatDoor.Ref Go.Proofs.YtelfmddcjlocpaaGreatDoor.GTh Go.Proofs.YtelfmddcjlocpaaGreatDoor.Given Go.Proofs.YtelfmddcjlocpaaGreatDoor.Rp1 Go.Proofs.YtelfmddcjlocpaaGreatDoor.BinLaw Go.Proofs.YtelfmddcjlocpaaGreatDoor.Fm8 Go.Proofs.YtelfmddcjlocpaaGreatDoor.Rnd
theorem word_f (n : Nat) (h : n < 18446744073709551616) : nat_Word.f (n : Int) = some (lb n) := by
 unfold nat_Word.f
 by_cases c : n = 0
 ·rw [if_pos (by omega), c]; rfl
 ·rw [if_neg (by omega)]
  have e1 := nl_one c h
  have e2 : dw n 0 = n := by unfold dw; rw [pw_zero, Nat.div_one]; omega
  unfold lb
  rw [e1]
  simp [List.range_succ, e2]
theorem told_f (neg : Bool) (m : Nat) : num_told.f neg (lb m) 0 = some (neg && decide (m ≠ 0), lb m, 0) := by
 have e : decide (((lb m).length : Int) > 0) = decide (m ≠ 0) := by
  rw [lb_len]
  by_cases c : m = 0
  ·rw [c]; rfl
  ·have := nl_pos c
   rw [decide_eq_true (show m ≠ 0 from c), decide_eq_true (by omega)]
 unfold num_told.f num_whole.f
 rw [if_pos rfl]
 cases neg
 ·rfl
 ·rw [if_pos rfl, e]; simp
theorem shr_dw {m p : Nat} : shr .u64 ((dw m (p / 64) : Nat) : Int) ((p % 64 : Nat) : Int) = (((dw m (p / 64)) / 2^(p % 64) : Nat) : Int) := by
 have h := shr_small (k := .u64) (x := ((dw m (p / 64) : Nat) : Int)) (y := ((p % 64 : Nat) : Int)) rfl (by show ((p % 64 : Nat) : Int) ≤ ((64 : Nat) : Int); omega)
 rw [← h, Int.toNat_natCast]
 push_cast
 rfl
theorem bit_dw (m p : Nat) : dw m (p / 64) / 2^(p % 64) % 2 = m / 2^p % 2 := by
 obtain ⟨s, hs⟩ : ∃ s, s = p % 64 := ⟨_, rfl⟩
 obtain ⟨j, hj⟩ : ∃ j, j = p / 64 := ⟨_, rfl⟩
 have e1 : 2^p = pw j * 2^s := by unfold pw; rw [← Nat.pow_add]; congr 1; omega
 rw [← hs, ← hj, e1, ← Nat.div_div_eq_div_mul]
 unfold dw
 generalize m / pw j = x
 obtain ⟨u, hu⟩ : ∃ u, 64 = s + (u + 1) := ⟨64 - s - 1, by omega⟩
 have e2 : 18446744073709551616 = 2^s * (2^u * 2) := by rw [← e64, hu, Nat.pow_add, Nat.pow_succ]
 rw [e2, Nat.mod_mul_right_div_self, Nat.mod_mul_left_mod]
def bitI (m : Nat) (n : Int) : Bool := decide (0 ≤ n) && decide (m / 2^n.toNat % 2 = 1)
theorem bit_ev {m : Nat} (_h : nl m ≤ 8192) {n : Int} (hn : n < 4611686018427387904) : Ev (fun k => nat_Bit.f k (lb m) n) (bitI m n) := by
 unfold nat_Bit.f
 by_cases c : n < 0
 ·refine Ev.congr (fun k => if_pos c) (Ev.step (f := fun _ => some (bitI m n)) (fun k => ?_) (Ev.now _))
  rw [nat_Bit.j0, if_pos rfl]
  unfold bitI
  rw [decide_eq_false (by omega)]; rfl
 ·refine Ev.congr (fun k => if_neg c) ?_
  obtain ⟨p, rfl⟩ : ∃ p : Nat, n = (p : Int) := ⟨n.toNat, by omega⟩
  have e1 : Int.tdiv (p : Int) 64 = ((p / 64 : Nat) : Int) := (Int.ofNat_tdiv p 64).symm
  have e2 : Int.tmod (p : Int) 64 = ((p % 64 : Nat) : Int) := (Int.ofNat_tmod p 64).symm
  have e3 : wrap64 ((p / 64 : Nat) : Int) = ((p / 64 : Nat) : Int) := w64 (by omega) (by omega)
  rw [e1, e3, lb_len]
  have eb : bitI m (p : Int) = decide (m / 2^p % 2 = 1) := by
   unfold bitI
   rw [decide_eq_true (by omega), Bool.true_and, Int.toNat_natCast]
  rw [eb]
  by_cases c2 : nl m ≤ p / 64
  ·rw [decide_eq_true (by omega)]
   refine Ev.step (f := fun _ => some (decide (m / 2^p % 2 = 1))) (fun k => ?_) (Ev.now _)
   rw [nat_Bit.j0, if_pos rfl]
   have e0 : m / 2^p = 0 := by
    refine Nat.div_eq_of_lt (Nat.lt_of_lt_of_le (nl_lt m) ?_)
    show 2^(64 * nl m) ≤ 2^p
    exact Nat.pow_le_pow_right (by decide) (by omega)
   rw [e0]; rfl
  ·rw [decide_eq_false (by omega)]
   refine Ev.step (f := fun _ => some (decide (m / 2^p % 2 = 1))) (fun k => ?_) (Ev.now _)
   rw [nat_Bit.j0, if_neg (by decide), e1, e2, e3, if_pos (by omega), lb_len, if_pos (by omega), if_pos (by omega), lb_rd (by omega), shr_dw]
   have hlt : dw m (p / 64) / 2^(p % 64) < 18446744073709551616 := Nat.lt_of_le_of_lt (Nat.div_le_self _ _) (dw_lt _ _)
   rw [and_one _ hlt, bit_dw]
   congr 1
   by_cases z : m / 2^p % 2 = 1
   ·rw [z]; rfl
   ·have : m / 2^p % 2 = 0 := by omega
    rw [this]; rfl
theorem add_f {m n : Nat} (h : nl m ≤ 8192) (h' : nl n ≤ 8192) (h2 : nl (m + n) ≤ 8192) : nat_Add.f (lb m) (lb n) = some (lb (m + n), 0) := by
 unfold nat_Add.f
 rw [vL_lb, vL_lb, if_pos ⟨fmL_lb h, fmL_lb h', h2⟩]
theorem shr_f {m n : Nat} (h : nl m ≤ 8192) (hn : n < 9223372036854775808) : nat_Shr.f (lb m) (n : Int) = some (lb (m / 2^n), 0) := by
 unfold nat_Shr.f
 rw [vL_lb, if_pos ⟨fmL_lb h, by omega, by omega⟩, Int.toNat_natCast]
theorem trail_f {m : Nat} (h : nl m ≤ 8192) (h0 : m ≠ 0) : nat_Trail.f (lb m) = some ((tz m : Nat) : Int) := by
 unfold nat_Trail.f
 rw [vL_lb, if_pos ⟨fmL_lb h, h0⟩]
theorem numForm_lb {neg : Bool} {m : Nat} (h : nl m ≤ 8192) (h0 : m = 0 → neg = false) : num_Form.f neg (lb m) = some true := by
 rw [numForm_f, nfm_lb h, lb_len]
 by_cases c : m = 0
 ·rw [h0 c]; rfl
 ·have := nl_pos c
  rw [decide_eq_false (by omega)]; simp
theorem made_ev (neg some_ : Bool) {q : Nat} (half : Int) (r : Nat) (h : nl q ≤ 8192) (hr : nl r ≤ 8192) (e : r = if half > 0 ∨ (half = 0 ∧ q % 2 = 1) then q + 1 else q) :
  Ev (fun k => num_way_made.f k 2 neg (lb q) some_ half) (neg && decide (r ≠ 0), lb r, 0) := by
 unfold num_way_made.f
 have hb := bit_ev h (n := 0) (by decide)
 refine Ev.bind hb ?_
 have e0 : bitI q 0 = decide (q % 2 = 1) := by
  unfold bitI
  rw [show (0 : Int).toNat = 0 from rfl, Nat.pow_zero, Nat.div_one]; rfl
 have em : num_way_more.f 2 neg (bitI q 0) some_ half = some (decide (half > 0 ∨ (half = 0 ∧ q % 2 = 1))) := by
  unfold num_way_more.f
  rw [if_neg (by decide), if_neg (by decide), e0]
  by_cases c1 : half > 0
  ·rw [if_pos c1, decide_eq_true (.inl c1)]
  ·rw [if_neg c1]
   by_cases c2 : half = 0
   ·rw [if_pos c2]
    congr 1
    rw [decide_eq_decide]
    omega
   ·rw [if_neg c2, decide_eq_false (by omega)]
 rw [em]
 simp only [Option.bind_some]
 by_cases c : half > 0 ∨ (half = 0 ∧ q % 2 = 1)
 ·rw [if_pos c] at e
  rw [decide_eq_true c]
  simp only [if_true]
  have w1 : nat_Word.f 1 = some (lb 1) := word_f 1 (by decide)
  rw [w1]
  simp only [Option.bind_some]
  rw [add_f h (by decide) (by rw [← e]; exact hr), ← e]
  simp only [Option.bind_some]
  rw [told_f]
  exact Ev.now _
 ·rw [if_neg c] at e
  rw [decide_eq_false c]
  refine Ev.congr (fun k => if_neg (by decide)) ?_
  rw [told_f, e]
  exact Ev.now _
theorem nr_le {m n : Nat} : nr m n ≤ m := by
 by_cases c : n = 0
 ·rw [c, nr_zero]; exact Nat.le_refl _
 ·unfold nr
  obtain ⟨p, rfl⟩ : ∃ p, n = p + 1 := ⟨n - 1, by omega⟩
  have h2 : 2 ≤ 2^(p + 1) := by
   have := Nat.two_pow_pos p
   rw [Nat.pow_succ]; omega
  have h1 := Nat.div_add_mod m (2^(p + 1))
  have h3 : 2 * (m / 2^(p + 1)) ≤ 2^(p + 1) * (m / 2^(p + 1)) := Nat.mul_le_mul_right _ h2
  generalize 2^(p + 1) = d at *
  generalize m / d = q at *
  generalize m % d = r at *
  split
  ·rename_i c3
   rcases Nat.eq_zero_or_pos q with z | z
   ·subst z; omega
   ·omega
  ·omega
theorem nr_half {m p : Nat} : nr m (p + 1) = (if (if m / 2^p % 2 = 1 then (if tz m = p then (0 : Int) else 1) else -1) > 0 ∨ ((if m / 2^p % 2 = 1 then (if tz m = p then (0 : Int) else 1) else -1) = 0 ∧ m / 2^(p + 1) % 2 = 1) then m / 2^(p + 1) + 1 else m / 2^(p + 1)) := by
 have e1 : m % 2^(p + 1) = m % 2^p + 2^p * (m / 2^p % 2) := by rw [Nat.pow_succ, Nat.mod_mul]
 have hp := Nat.two_pow_pos p
 have hr := Nat.mod_lt m hp
 unfold nr
 rw [e1]
 have e2 : 2^(p + 1) = 2 * 2^p := by rw [Nat.pow_succ, Nat.mul_comm]
 by_cases c : m / 2^p % 2 = 1
 ·rw [c, if_pos rfl, Nat.mul_one]
  by_cases z : m % 2^p = 0
  ·have ez := (tz_bit c).2 z
   rw [if_pos ez, z]
   have f1 : ¬ ((0 : Int) > 0) := by decide
   by_cases o : m / 2^(p + 1) % 2 = 1
   ·rw [if_pos (.inr ⟨by omega, o⟩), if_pos (.inr ⟨rfl, o⟩)]
   ·rw [if_neg (by omega), if_neg (by omega)]; rfl
  ·have ez : tz m ≠ p := fun a => z ((tz_bit c).1 a)
   rw [if_neg ez, if_pos (.inl (by omega)), if_pos (.inl (by decide))]
 ·have c0 : m / 2^p % 2 = 0 := by omega
  have g1 : ¬ (2^(p + 1) < 2 * (m % 2^p) ∨ (2 * (m % 2^p) = 2^(p + 1) ∧ m / 2^(p + 1) % 2 = 1)) := by omega
  have g2 : ¬ ((-1 : Int) > 0 ∨ ((-1 : Int) = 0 ∧ m / 2^(p + 1) % 2 = 1)) := by omega
  rw [c0, Nat.mul_zero, Nat.add_zero (m % 2^p), if_neg g1, if_neg (show ¬ (0 : Nat) = 1 by decide), if_neg g2, Nat.add_zero]
theorem nearShr_ev {neg : Bool} {m n : Nat} (h : nl m ≤ 8192) (h0 : m = 0 → neg = false) (hn : n < 4611686018427387904) : Ev (fun k => num_NearShr.f k neg (lb m) (n : Int)) (neg && decide (nr m n ≠ 0), lb (nr m n), 0) := by
 unfold num_NearShr.f num_way_shr.f
 have hq : nl (m / 2^n) ≤ 8192 := Nat.le_trans (nl_mono (Nat.div_le_self _ _)) h
 have hr : nl (nr m n) ≤ 8192 := Nat.le_trans (nl_mono nr_le) h
 refine Ev.bind (a := (neg && decide (nr m n ≠ 0), lb (nr m n), 0)) ?_ (Ev.now _)
 refine Ev.congr (fun k => if_neg (by omega)) ?_
 rw [numForm_lb h h0, shr_f h (by omega)]
 simp only [Option.bind_some, if_true]
 have hj : ∀ b : Bool, Ev (fun k => num_way_shr.j0 k 2 (n : Int) (lb (m / 2^n)) b neg (lb m)) (neg && decide (nr m n ≠ 0), lb (nr m n), 0) := by
  intro b
  have ew : wrap64 ((n : Int) - 1) = (n : Int) - 1 := w64 (by omega) (by omega)
  refine Ev.step (f := fun k => (nat_Bit.f k (lb m) (wrap64 ((n : Int) - 1))).bind fun t370 => (if t370 = true then ((nat_Trail.f (lb m)).bind fun t371 => (if t371 = (wrap64 ((n : Int) - 1)) then ((num_way_made.f k 2 neg (lb (m / 2^n)) b 0).bind fun bt372 => (some (bt372.1, bt372.2.1, bt372.2.2))) else ((num_way_made.f k 2 neg (lb (m / 2^n)) b 1).bind fun bt377 => (some (bt377.1, bt377.2.1, bt377.2.2))))) else ((num_way_made.f k 2 neg (lb (m / 2^n)) b (-1)).bind fun bt382 => (some (bt382.1, bt382.2.1, bt382.2.2))))) (fun k => rfl) ?_
  rw [ew]
  refine Ev.bind (bit_ev h (n := (n : Int) - 1) (by omega)) ?_
  by_cases c : n = 0
  ·subst c
   have e0 : bitI m (((0 : Nat) : Int) - 1) = false := rfl
   rw [e0, nr_zero, Nat.pow_zero, Nat.div_one]
   refine Ev.congr (fun k => if_neg (by decide)) ?_
   exact Ev.bind (made_ev neg b (-1) m h h (by rw [if_neg (by omega)])) (Ev.now _)
  ·obtain ⟨p, rfl⟩ : ∃ p, n = p + 1 := ⟨n - 1, by omega⟩
   have e0 : ((p + 1 : Nat) : Int) - 1 = (p : Int) := by omega
   have e1 : bitI m (p : Int) = decide (m / 2^p % 2 = 1) := by
    unfold bitI
    rw [decide_eq_true (by omega), Bool.true_and, Int.toNat_natCast]
   rw [e0, e1]
   have eh := nr_half (m := m) (p := p)
   by_cases z : m / 2^p % 2 = 1
   ·rw [if_pos z] at eh
    rw [decide_eq_true z]
    have m0 : m ≠ 0 := by intro e; rw [e, Nat.zero_div] at z; omega
    simp only [if_true]
    rw [trail_f h m0]
    simp only [Option.bind_some]
    by_cases t : tz m = p
    ·rw [if_pos t] at eh
     refine Ev.congr (fun k => if_pos (by omega)) ?_
     exact Ev.bind (made_ev neg b 0 (nr m (p + 1)) hq hr eh) (Ev.now _)
    ·rw [if_neg t] at eh
     refine Ev.congr (fun k => if_neg (by omega)) ?_
     exact Ev.bind (made_ev neg b 1 (nr m (p + 1)) hq hr eh) (Ev.now _)
   ·rw [if_neg z] at eh
    rw [decide_eq_false z]
    refine Ev.congr (fun k => if_neg (by decide)) ?_
    exact Ev.bind (made_ev neg b (-1) (nr m (p + 1)) hq hr eh) (Ev.now _)
 rw [lb_len]
 by_cases c : m = 0
 ·rw [show nl m = 0 by rw [c]; rfl]
  exact hj false
 ·have := nl_pos c
  refine Ev.congr (fun k => if_pos (by omega)) ?_
  rw [trail_f h c]
  exact hj _
end Go.Proofs.YtelfmddcjlocpaaGreatDoor.Rp2
end
section
namespace Go.Proofs.YtelfmddcjlocpaaGreatDoor.Rp3
open Go.RowKit Go.Proofs.YtelfmddcjlocpaaGreatDoorW.PrintWords Go.Proofs.YtelfmddcjlocpaaGreatDoorW.PrintMore Go.Proofs.YtelfmddcjlocpaaGreatDoor.Num Go.Proofs.YtelfmddcjlocpaaGreatDoor.PLib Go.Proofs.YtelfmddcjlocpaaGreatDoor.Ref Go.Proofs.YtelfmddcjlocpaaGreatDoor.GTh Go.Proofs.YtelfmddcjlocpaaGreatDoor.Given Go.Proofs.YtelfmddcjlocpaaGreatDoor.Rp1 Go.Proofs.YtelfmddcjlocpaaGreatDoor.Rp2 Go.Proofs.YtelfmddcjlocpaaGreatDoor.BinLaw Go.Proofs.YtelfmddcjlocpaaGreatDoor.Fm8 Go.Proofs.YtelfmddcjlocpaaGreatDoor.Rnd
theorem numShl_f {neg : Bool} {m n : Nat} (h : nl m ≤ 8192) (h0 : m = 0 → neg = false) (hn : m = 0 ∨ bl m + n ≤ 524288) : num_Shl.f neg (lb m) (n : Int) = some (neg, lb (m * 2^n), 0) := by
 unfold num_Shl.f
 rw [if_neg (by omega), numForm_lb h h0, shl_f h hn]
 simp only [Option.bind_some, if_true]
 rw [told_f]
 by_cases c : m = 0
 ·rw [h0 c]; rfl
 ·have : m * 2^n ≠ 0 := Nat.mul_ne_zero c (Nat.pos_iff_ne_zero.1 (Nat.two_pow_pos n))
  rw [decide_eq_true this, Bool.and_true]; rfl
theorem of_f {f : Int} {F : Fmt} (h : Fm f F) : round_of.f f = some (((F.man : Nat) : Int), F.low, ((F.wd - 1 : Nat) : Int)) := by
 rcases h with ⟨rfl, rfl⟩ | ⟨rfl, rfl⟩ <;> rfl
theorem of_no {f : Int} (h : f ≠ 32) (h' : f ≠ 64) : round_of.f f = some (0, 0, 0) := by
 unfold round_of.f
 rw [if_neg h, if_neg h']
theorem inf_f {f : Int} {F : Fmt} (h : Fm f F) : round_widths_infinity.f (F.man : Nat) F.low ((F.wd - 1 : Nat) : Int) = some ((F.inf : Nat) : Int) := by
 rcases h with ⟨_, rfl⟩ | ⟨_, rfl⟩ <;> decide +kernel
def pat (F : Fmt) (neg : Bool) (s : Nat) : Nat := if neg then F.sg + s else s
theorem signed_f {f : Int} {F : Fmt} (h : Fm f F) (neg : Bool) {s : Nat} (hs : s < F.sg) : round_widths_signed.f (F.man : Nat) F.low ((F.wd - 1 : Nat) : Int) neg (s : Int) = some ((pat F neg s : Nat) : Int) := by
 unfold round_widths_signed.f pat
 cases neg
 ·rfl
 ·have e : shl .u64 1 ((F.wd - 1 : Nat) : Int) = ((F.sg : Nat) : Int) := by rcases h with ⟨_, rfl⟩ | ⟨_, rfl⟩ <;> decide +kernel
  rw [if_pos rfl, if_pos (by omega), e, or_sg (fm_isF h) hs]; rfl
theorem shl_hd {f : Int} {F : Fmt} (h : Fm f F) {A : Nat} (hA : A < 2200) : shl .u64 ((A : Nat) : Int) (((F.man : Nat) : Int) - 1) = ((A * hdF F : Nat) : Int) := by
 rcases h with ⟨_, rfl⟩ | ⟨_, rfl⟩
 ·have e := shl_small (k := .u64) (x := (A : Int)) (y := 23) rfl (by decide)
  show shl .u64 (A : Int) 23 = ((A * 8388608 : Nat) : Int)
  rw [← e, show (2 : Int)^(23 : Int).toNat = 8388608 from by decide, wu64 (by omega) (by omega)]
  omega
 ·have e := shl_small (k := .u64) (x := (A : Int)) (y := 52) rfl (by decide)
  show shl .u64 (A : Int) 52 = ((A * 4503599627370496 : Nat) : Int)
  rw [← e, show (2 : Int)^(52 : Int).toNat = 4503599627370496 from by decide, wu64 (by omega) (by omega)]
  omega
theorem rsz_big {f : Int} {F : Fmt} (h : Fm f F) {g V : Nat} (hb : (1101 : Int) - F.low ≤ ((bl V : Nat) : Int) - (g : Nat)) : rsz F g V = F.inf := by
 unfold rsz
 apply Nat.min_eq_right
 have key : F.inf ≤ (max (bl V - F.man) g - g) * hdF F := by
  rcases h with ⟨_, rfl⟩ | ⟨_, rfl⟩
  ·have hb' : (1101 : Int) - (-149) ≤ ((bl V : Nat) : Int) - (g : Nat) := hb
   have hA : 255 ≤ max (bl V - 24) g - g := by omega
   show 2139095040 ≤ (max (bl V - 24) g - g) * 8388608
   omega
  ·have hb' : (1101 : Int) - (-1074) ≤ ((bl V : Nat) : Int) - (g : Nat) := hb
   have hA : 2047 ≤ max (bl V - 53) g - g := by omega
   show 9218868437227405312 ≤ (max (bl V - 53) g - g) * 4503599627370496
   omega
 omega
theorem unit_le {f : Int} {F : Fmt} (h : Fm f F) {V K : Nat} (hK : bl V ≤ F.man + K) : nr V K ≤ 9007199254740992 := by
 have h1 : V / 2^K < 2^F.man := by
  rw [Nat.div_lt_iff_lt_mul (Nat.two_pow_pos K), ← Nat.pow_add]
  exact Nat.lt_of_lt_of_le (bl_lt V) (Nat.pow_le_pow_right (by decide) hK)
 have h2 : 2^F.man ≤ 9007199254740992 := by rcases h with ⟨_, rfl⟩ | ⟨_, rfl⟩ <;> decide
 unfold nr
 split <;> omega
set_option maxRecDepth 10000 in
theorem size_wide {f : Int} {F : Fmt} (h : Fm f F) {m : Nat} {x E : Int} (h0 : m ≠ 0) (hl : nl m ≤ 8192) (hx : -3000000 ≤ x ∧ x ≤ 3000000) (hE : E ≤ x) (hE2 : E ≤ F.low) :
  Ev (fun k => round_widths_size.f k (F.man : Nat) F.low ((F.wd - 1 : Nat) : Int) (lb m) x) ((rsz F (F.low - E).toNat (m * 2^(x - E).toNat) : Nat) : Int) := by
 obtain ⟨c, hc⟩ : ∃ c : Nat, c = (x - E).toNat := ⟨_, rfl⟩
 obtain ⟨g, hg⟩ : ∃ g : Nat, g = (F.low - E).toNat := ⟨_, rfl⟩
 rw [← hc, ← hg]
 have hblV : bl (m * 2^c) = bl m + c := bl_mul m c h0
 have hbm := bl_le' hl
 have hbp := bl_pos h0
 have hml : (F.man = 24 ∧ F.low = -149) ∨ (F.man = 53 ∧ F.low = -1074) := fm_man h
 unfold round_widths_size.f
 rw [bits_f hl, inf_f h]
 simp only [Option.bind_some]
 obtain ⟨t, ht⟩ : ∃ t, t = x + ((bl m : Nat) : Int) - 1 := ⟨_, rfl⟩
 have w1 : wrap64 (wrap64 (x + ((bl m : Nat) : Int)) - 1) = t := by rw [w64 (x := x + _) (by omega) (by omega), w64 (by omega) (by omega), ht]
 rw [w1]
 have w2 : wrap64 (wrap64 (t - ((F.man : Nat) : Int)) + 1) = t - ((F.man : Nat) : Int) + 1 := by rw [w64 (x := t - _) (by omega) (by omega), w64 (by omega) (by omega)]
 rw [w2]
 obtain ⟨U, hU⟩ : ∃ U, U = mx (t - ((F.man : Nat) : Int) + 1) F.low := ⟨_, rfl⟩
 rw [← hU]
 have hU2 : U = max (t - ((F.man : Nat) : Int) + 1) F.low := by rw [hU]; unfold mx; omega
 by_cases c1 : t > 1100
 ·refine Ev.congr (fun k => if_pos c1) ?_
  rw [rsz_big h (by rw [hblV]; omega)]
  exact Ev.now _
 ·refine Ev.congr (fun k => if_neg c1) ?_
  obtain ⟨K, hK⟩ : ∃ K : Nat, K = max (bl (m * 2^c) - F.man) g := ⟨_, rfl⟩
  have hKU : (K : Int) = U - E := by rw [hK, hblV]; omega
  have hu := unit_le h (V := m * 2^c) (K := K) (by omega)
  have hA : K - g < 2200 := by omega
  have hj : Ev (fun k => round_widths_size.j0 k U (F.man : Nat) F.low ((F.wd - 1 : Nat) : Int) false (lb (nr (m * 2^c) K))) ((rsz F g (m * 2^c) : Nat) : Int) := by
   refine Ev.step (f := fun _ => some ((rsz F g (m * 2^c) : Nat) : Int)) (fun k => ?_) (Ev.now _)
   have w3 : wrap64 (((F.man : Nat) : Int) - 1) = ((F.man : Nat) : Int) - 1 := w64 (by omega) (by omega)
   have w4 : IntKind.u64.wrap (wrap64 (U - F.low)) = ((K - g : Nat) : Int) := by
    rw [w64 (x := U - F.low) (by omega) (by omega), wu64 (by omega) (by omega)]; omega
   have hhd : hdF F ≤ 4503599627370496 := (fm_hd h).2.2.1
   have hAh : (K - g) * hdF F ≤ 2200 * 4503599627370496 - 4503599627370496 := by
    have : (K - g) * hdF F ≤ 2199 * 4503599627370496 := Nat.mul_le_mul (by omega) hhd
    omega
   have hmn : ∀ a : Nat, mn (a : Int) ((F.inf : Nat) : Int) = ((min a F.inf : Nat) : Int) := by intro a; unfold mn; omega
   have er : rsz F g (m * 2^c) = min ((K - g) * hdF F + nr (m * 2^c) K) F.inf := by unfold rsz; rw [← hK]
   rw [round_widths_size.j0, inf_f h, w3, w4, shl_hd h hA, er]
   generalize nr (m * 2^c) K = u at *
   rw [lb_len]
   by_cases z : u = 0
   ·rw [z, show nl 0 = 0 from rfl, if_neg (by omega), if_pos (by omega)]
    simp only [Option.bind_some]
    rw [Int.add_zero, wu64 (by omega) (by omega), hmn]; rfl
   ·have n1 := nl_one z (by omega)
    have e2 : rd (lb u) 0 = (u : Int) := by
     have := lb_rd (x := u) (j := 0) (by omega)
     rw [show ((0 : Nat) : Int) = 0 from rfl] at this
     rw [this]
     unfold dw
     rw [pw_zero, Nat.div_one]
     omega
    rw [n1, if_pos (by decide), if_pos (by decide), if_pos (by omega), e2]
    simp only [Option.bind_some]
    rw [wu64 (by omega) (by omega), show (((K - g) * hdF F : Nat) : Int) + (u : Int) = (((K - g) * hdF F + u : Nat) : Int) by omega, hmn]
  by_cases c2 : U ≥ x
  ·refine Ev.congr (fun k => if_pos c2) ?_
   obtain ⟨n, hn⟩ : ∃ n : Nat, U - x = (n : Int) := ⟨(U - x).toNat, by omega⟩
   have w5 : wrap64 (U - x) = (n : Int) := by rw [w64 (by omega) (by omega), hn]
   rw [w5]
   have en : nr (m * 2^c) K = nr m n := by rw [show K = n + c by omega, nr_scale]
   rw [en] at hj
   refine Ev.bind (nearShr_ev (neg := false) hl (fun _ => rfl) (n := n) (by omega)) ?_
   exact hj
  ·refine Ev.congr (fun k => if_neg c2) ?_
   obtain ⟨d, hd⟩ : ∃ d : Nat, x - U = (d : Int) := ⟨(x - U).toNat, by omega⟩
   have w5 : wrap64 (x - U) = (d : Int) := by rw [w64 (by omega) (by omega), hd]
   rw [w5, numShl_f (neg := false) hl (fun _ => rfl) (.inr (by omega))]
   have en : nr (m * 2^c) K = m * 2^d := by rw [show c = d + K by omega, Nat.pow_add, ← Nat.mul_assoc, nr_whole]
   rw [en] at hj
   exact hj
theorem size_ev {f : Int} {F : Fmt} (h : Fm f F) {m : Nat} {x E : Int} (h0 : m ≠ 0) (hl : nl m ≤ 8192) (hx : -1048576 ≤ x ∧ x ≤ 1048576) (hE : E ≤ x) (hE2 : E ≤ F.low) :
  Ev (fun k => round_widths_size.f k (F.man : Nat) F.low ((F.wd - 1 : Nat) : Int) (lb m) x) ((rsz F (F.low - E).toNat (m * 2^(x - E).toNat) : Nat) : Int) := size_wide h h0 hl ⟨by omega, by omega⟩ hE hE2
def rnd (F : Fmt) (neg : Bool) (m : Nat) (x E : Int) : Nat := if m = 0 then 0 else pat F neg (rsz F (F.low - E).toNat (m * 2^(x - E).toNat))
theorem nearest_ev {f : Int} {F : Fmt} (h : Fm f F) {neg : Bool} {m : Nat} {x E : Int} (hd : Dk neg m x) (hE : E ≤ x) (hE2 : E ≤ F.low) : Ev (fun k => round_Nearest.f k f neg (lb m) x) (((rnd F neg m x E : Nat) : Int), 0) := by
 unfold round_Nearest.f
 rw [of_f h]
 simp only [Option.bind_some]
 have e0 : ((((F.man : Nat) : Int)) == 0 && (F.low == 0 && (((F.wd - 1 : Nat) : Int) == 0))) = false := by rcases h with ⟨_, rfl⟩ | ⟨_, rfl⟩ <;> rfl
 rw [e0]
 refine Ev.congr (fun k => if_neg (by decide)) ?_
 have f1 := form_ev neg (lb m) x
 rw [dyB_lb hd] at f1
 refine Ev.bind f1 (Ev.congr (fun k => if_pos rfl) ?_)
 unfold rnd
 rw [lb_len]
 by_cases c : m = 0
 ·refine Ev.congr (fun k => if_pos (by rw [c]; rfl)) ?_
  rw [if_pos c]
  exact Ev.now _
 ·have := nl_pos c
  refine Ev.congr (fun k => if_neg (by omega)) ?_
  rw [if_neg c]
  have hs : rsz F (F.low - E).toNat (m * 2^(x - E).toNat) < F.sg := by
   have := (rsz_nst h (F.low - E).toNat (m * 2^(x - E).toNat)).le
   have := h.sz
   omega
  refine Ev.bind (size_ev h c hd.lim ⟨hd.low, hd.high⟩ hE hE2) ?_
  rw [signed_f h neg hs]
  exact Ev.now _
end Go.Proofs.YtelfmddcjlocpaaGreatDoor.Rp3
end
