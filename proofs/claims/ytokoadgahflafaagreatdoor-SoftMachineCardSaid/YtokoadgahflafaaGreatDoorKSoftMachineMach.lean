/- The machine's binary64 sums, products and quotients are layer 9's: plain Lean over the model's words. Condition: words. -/
import Derived.Test.YtokoadgahflafaaGreatDoorKSoftMachineFl
set_option linter.unusedVariables false
namespace Go.Proofs.YtokoadgahflafaaGreatDoor.Mach
open Go.RowKit Go.Proofs.YtokoadgahflafaaGreatDoor.Ref Go.Proofs.YtokoadgahflafaaGreatDoor.Rp3 Go.Proofs.YtokoadgahflafaaGreatDoor.Rp5 Go.Proofs.YtokoadgahflafaaGreatDoor.Rp7 Go.Proofs.YtokoadgahflafaaGreatDoor.BinLaw Go.Proofs.YtokoadgahflafaaGreatDoor.Fm8 Go.Proofs.YtokoadgahflafaaGreatDoor.Rnd Go.Proofs.YtokoadgahflafaaGreatDoor.Sq Go.Proofs.YtokoadgahflafaaGreatDoor.Sf1 Go.Proofs.YtokoadgahflafaaGreatDoor.Sf2 Go.Proofs.YtokoadgahflafaaGreatDoor.Sf3 Go.Proofs.YtokoadgahflafaaGreatDoor.Sf6
open Ieee Fl
def DatV (E : Int) : Datum → Vl → Prop
 | .nan _ _, v => v = .nan
 | .infinity s, v => v = .inf s
 | .number s m i, v => E ≤ i ∧ ((m = 0 ∧ v = .nou s) ∨ (m ≠ 0 ∧ v = .num (sv s (m * 2^(i - E).toNat))))
theorem fD_ : Fm 64 fD := .inr ⟨rfl, rfl⟩
theorem hd_ : hdF fD = 2^52 := by decide
theorem read_v {x : Nat} (hx : x < 18446744073709551616) : DatV (-1074) (double.read x) (rdB fD x) := by
 have sg : fD.sg = 2^63 := rfl
 have inf : fD.inf = INF := by decide
 have neg : (x / 2^63 % 2 == 1) = decide (fD.sg ≤ x) := by
  rw [sg]
  by_cases c : 2^63 ≤ x
  ·rw [decide_eq_true c, beq_iff_eq]; omega
  ·rw [decide_eq_false c, beq_eq_false_iff_ne]; omega
 unfold Format.read rdB rdV
 simp only [d_sign, d_binade, d_inf, d_least, neg]
 rw [← sg, inf]
 generalize decide (fD.sg ≤ x) = n
 generalize x % fD.sg = s
 have hI : INF = 2047 * 2^52 := rfl
 by_cases c1 : s < 2^52
 ·rw [if_pos c1]
  refine ⟨Int.le_refl _, ?_⟩
  by_cases c0 : s = 0
  ·left; rw [if_pos c0]; exact ⟨c0, rfl⟩
  ·right
   rw [if_neg c0, if_pos (by omega)]
   refine ⟨c0, ?_⟩
   congr 2
   unfold nF mgF dF
   rw [hd_]
   have e : s / 2^52 = 0 := by omega
   rw [e, if_pos rfl, show s % 2^52 = s by omega]
   simp
 ·rw [if_neg c1, if_neg (show s ≠ 0 by omega)]
  by_cases c2 : s < INF
  ·rw [if_pos c2, if_pos c2]
   refine ⟨by omega, .inr ⟨by omega, ?_⟩⟩
   congr 2
   unfold nF mgF dF
   rw [hd_, if_neg (by omega)]
   congr 2
   omega
  ·rw [if_neg c2, if_neg c2]
   by_cases c3 : s = INF
   ·rw [if_pos c3, if_pos c3]; rfl
   ·rw [if_neg c3, if_neg c3]; rfl
theorem word_pat (n : Bool) (r : Nat) : double.word n r = pat fD n r := by
 unfold Format.word pat
 rw [d_sign]; rfl
theorem rsz_rung {g V : Nat} (hV : V ≠ 0) : rsz fD g V = min (rung g V) INF := by
 have e : bl V - fD.man = V.log2 - 52 := by
  unfold bl
  rw [if_neg hV]
  show V.log2 + 1 - 53 = V.log2 - 52
  omega
 have r : ∀ k, nr V k = rhe V k := fun k => by
  unfold nr rhe
  congr 1
  have : (2^k < 2 * (V % 2^k) ∨ (2 * (V % 2^k) = 2^k ∧ V / 2^k % 2 = 1)) ↔ (2^k < 2 * (V % 2^k) ∨ (2^k = 2 * (V % 2^k) ∧ V / 2^k % 2 = 1)) := by
   constructor
   ·rintro (h | ⟨h1, h2⟩)
    ·exact .inl h
    ·exact .inr ⟨h1.symm, h2⟩
   ·rintro (h | ⟨h1, h2⟩)
    ·exact .inl h
    ·exact .inr ⟨h1.symm, h2⟩
  simp only [this]
 unfold rsz rung kx
 rw [e, r, hd_]
 rfl
theorem nearest_pat {g : Nat} {E : Int} (hE : E = -1074 - (g : Int)) {n : Bool} {m : Nat} {i : Int} (hi : E ≤ i) (m0 : m ≠ 0) : double.nearest n m i = pat fD n (rsz fD g (m * 2^(i - E).toNat)) := by
 have v0 : m * 2^(i - E).toNat ≠ 0 := Nat.mul_ne_zero m0 (Nat.pos_iff_ne_zero.1 (Nat.two_pow_pos _))
 rw [nearest_word (g := g) (by omega) (show m * 2^(i + 1074 + g).toNat = m * 2^(i - E).toNat by congr 2; omega), word_pat, rsz_rung v0]
theorem sv_lt {n : Bool} {m : Nat} (h : m ≠ 0) : decide (sv n m < 0) = n := by
 cases n
 ·exact decide_eq_false (by show ¬ (m : Int) < 0; omega)
 ·exact decide_eq_true (by show -(m : Int) < 0; omega)
theorem write_v {g : Nat} {E : Int} (hE : E = -1074 - (g : Int)) {d : Datum} {v : Vl} (h : DatV E d v) (hn : v ≠ .nan) : double.write d = tellV fD g v := by
 cases d with
 | nan a b => exact absurd h hn
 | infinity s =>
  obtain rfl := h
  show double.word s double.infRung = pat fD s fD.inf
  rw [word_pat, d_inf]; rfl
 | number s m i =>
  obtain ⟨hi, h⟩ := h
  rcases h with ⟨rfl, rfl⟩ | ⟨m0, rfl⟩
  ·show double.nearest s 0 i = pat fD s 0
   unfold Format.nearest
   rw [if_pos rfl, word_pat]
  ·show double.nearest s m i = Rp4.pv fD g (sv s (m * 2^(i - E).toNat))
   have v0 : m * 2^(i - E).toNat ≠ 0 := Nat.mul_ne_zero m0 (Nat.pos_iff_ne_zero.1 (Nat.two_pow_pos _))
   unfold Rp4.pv
   rw [if_neg (sv_ne v0), sv_abs, sv_lt v0, nearest_pat hE hi m0]
theorem signed_sv (s : Bool) (m u : Nat) : signed s m u = sv s (m * 2^u) := by
 unfold signed sv
 rw [Nat.shiftLeft_eq]
theorem sv_dec (T : Int) (P : Nat) : sv (decide (T < 0)) (T.natAbs * P) = T * (P : Int) := by
 rw [sv_mul]
 congr 1
 by_cases c : T < 0
 ·rw [decide_eq_true c]; show -((T.natAbs : Nat) : Int) = T; omega
 ·rw [decide_eq_false c]; show ((T.natAbs : Nat) : Int) = T; omega
theorem sum_v {E : Int} {d d' : Datum} {v v' : Vl} (h : DatV E d v) (h' : DatV E d' v') : (plusV v v' = .nan ∧ d.sum d' = none) ∨ ∃ r, d.sum d' = some r ∧ DatV E r (plusV v v') ∧ plusV v v' ≠ .nan := by
 cases d with
 | nan a b => obtain rfl := h; exact .inl ⟨rfl, by cases d' <;> rfl⟩
 | infinity s =>
  obtain rfl := h
  cases d' with
  | nan a b => obtain rfl := h'; exact .inl ⟨rfl, rfl⟩
  | infinity t =>
   obtain rfl := h'
   by_cases c : s = t
   ·subst c
    refine .inr ⟨.infinity s, ?_, ?_, ?_⟩
    ·show (if s = s then some (Datum.infinity s) else none) = _; rw [if_pos rfl]
    ·show (if s = s then Vl.inf s else .nan) = .inf s; rw [if_pos rfl]
    ·show (if s = s then Vl.inf s else .nan) ≠ .nan; rw [if_pos rfl]; intro e; cases e
   ·refine .inl ⟨?_, ?_⟩
    ·show (if s = t then Vl.inf s else .nan) = .nan; rw [if_neg c]
    ·show (if s = t then some (Datum.infinity s) else none) = none; rw [if_neg c]
  | number t n j =>
   obtain ⟨hj, ⟨_, rfl⟩ | ⟨_, rfl⟩⟩ := h' <;> exact .inr ⟨.infinity s, rfl, rfl, fun e => by cases e⟩
 | number s m i =>
  obtain ⟨hi, h⟩ := h
  cases d' with
  | nan a b => obtain rfl := h'; rcases h with ⟨_, rfl⟩ | ⟨_, rfl⟩ <;> exact .inl ⟨rfl, rfl⟩
  | infinity t => obtain rfl := h'; rcases h with ⟨_, rfl⟩ | ⟨_, rfl⟩ <;> exact .inr ⟨.infinity t, rfl, rfl, fun e => by cases e⟩
  | number t n j =>
   obtain ⟨hj, h'⟩ := h'
   right
   obtain ⟨T, hT⟩ : ∃ T, T = signed s m (i - min i j).toNat + signed t n (j - min i j).toNat := ⟨_, rfl⟩
   refine ⟨.number (if T = 0 then s && t else decide (T < 0)) T.natAbs (min i j), by rw [hT]; rfl, ?_⟩
   have eT : T * ((2^(min i j - E).toNat : Nat) : Int) = sv s (m * 2^(i - E).toNat) + sv t (n * 2^(j - E).toNat) := by
    rw [hT, signed_sv, signed_sv, Int.add_mul, ← sv_mul, ← sv_mul, Nat.mul_assoc, Nat.mul_assoc, ← Nat.pow_add, ← Nat.pow_add, show (i - min i j).toNat + (min i j - E).toNat = (i - E).toNat by omega, show (j - min i j).toNat + (min i j - E).toNat = (j - E).toNat by omega]
   have pp : ((2^(min i j - E).toNat : Nat) : Int) ≠ 0 := by have := Nat.two_pow_pos (min i j - E).toNat; omega
   have z : T = 0 ↔ sv s (m * 2^(i - E).toNat) + sv t (n * 2^(j - E).toNat) = 0 := by
    rw [← eT]
    constructor
    ·intro e; rw [e, Int.zero_mul]
    ·intro e; rcases Int.mul_eq_zero.1 e with q | q; exact q; exact absurd q pp
   have nz : T ≠ 0 → DatV E (.number (if T = 0 then s && t else decide (T < 0)) T.natAbs (min i j)) (.num (sv s (m * 2^(i - E).toNat) + sv t (n * 2^(j - E).toNat))) := by
    intro T0
    refine ⟨by omega, .inr ⟨by omega, ?_⟩⟩
    rw [if_neg T0, sv_dec, eT]
   rcases h with ⟨m0, rfl⟩ | ⟨m0, rfl⟩ <;> rcases h' with ⟨n0, rfl⟩ | ⟨n0, rfl⟩
   ·have T0 : T = 0 := by rw [z, m0, n0, Nat.zero_mul, Nat.zero_mul, sv_zero, sv_zero]; rfl
    refine ⟨⟨by omega, .inl ⟨by rw [T0]; rfl, ?_⟩⟩, fun e => by cases e⟩
    rw [if_pos T0]; rfl
   ·have T0 : T ≠ 0 := by
     rw [Ne, z, m0, Nat.zero_mul, sv_zero, Int.zero_add]
     exact sv_ne (Nat.mul_ne_zero n0 (Nat.pos_iff_ne_zero.1 (Nat.two_pow_pos _)))
    have := nz T0
    rw [m0, Nat.zero_mul, sv_zero, Int.zero_add] at this
    exact ⟨this, fun e => by cases e⟩
   ·have T0 : T ≠ 0 := by
     rw [Ne, z, n0, Nat.zero_mul, sv_zero, Int.add_zero]
     exact sv_ne (Nat.mul_ne_zero m0 (Nat.pos_iff_ne_zero.1 (Nat.two_pow_pos _)))
    have := nz T0
    rw [n0, Nat.zero_mul, sv_zero, Int.add_zero] at this
    exact ⟨this, fun e => by cases e⟩
   ·by_cases T0 : T = 0
    ·have q := z.1 T0
     have e : plusV (.num (sv s (m * 2^(i - E).toNat))) (.num (sv t (n * 2^(j - E).toNat))) = .nou false := by
      show (if _ then Vl.nou false else _) = _
      rw [if_pos q]
     rw [e]
     refine ⟨⟨by omega, .inl ⟨by rw [T0]; rfl, ?_⟩⟩, fun e => by cases e⟩
     rw [if_pos T0]
     have a := Nat.mul_ne_zero m0 (Nat.pos_iff_ne_zero.1 (Nat.two_pow_pos (i - E).toNat))
     have b := Nat.mul_ne_zero n0 (Nat.pos_iff_ne_zero.1 (Nat.two_pow_pos (j - E).toNat))
     generalize m * 2^(i - E).toNat = x at *
     generalize n * 2^(j - E).toNat = y at *
     clear e nz eT hT z T0
     cases s <;> cases t
     ·rfl
     ·rfl
     ·rfl
     ·exfalso
      have q : -(x : Int) + -(y : Int) = 0 := q
      omega
    ·have q := fun k => T0 (z.2 k)
     have e : plusV (.num (sv s (m * 2^(i - E).toNat))) (.num (sv t (n * 2^(j - E).toNat))) = .num (sv s (m * 2^(i - E).toNat) + sv t (n * 2^(j - E).toNat)) := by
      show (if _ then Vl.nou false else _) = _
      rw [if_neg q]
     rw [e]
     exact ⟨nz T0, fun e => by cases e⟩
theorem opp_v {E : Int} {d : Datum} {v : Vl} (h : DatV E d v) : DatV E d.opposite (turnV v) := by
 cases d with
 | nan a b => obtain rfl := h; rfl
 | infinity s => obtain rfl := h; rfl
 | number s m i =>
  obtain ⟨hi, h⟩ := h
  refine ⟨hi, ?_⟩
  rcases h with ⟨m0, rfl⟩ | ⟨m0, rfl⟩
  ·exact .inl ⟨m0, rfl⟩
  ·refine .inr ⟨m0, ?_⟩
   show Vl.num (-(sv s _)) = Vl.num (sv (!s) _)
   rw [sv_not]
theorem xor_bne (s t : Bool) : (s ^^ t) = (s != t) := by cases s <;> cases t <;> rfl
theorem product_v {E E' : Int} {d d' : Datum} {v v' : Vl} (h : DatV E d v) (h' : DatV E' d' v') : (timesV v v' = .nan ∧ d.product d' = none) ∨ ∃ r, d.product d' = some r ∧ DatV (E + E') r (timesV v v') ∧ timesV v v' ≠ .nan := by
 have ps : ∀ {s : Bool} {m : Nat} {e : Nat}, m ≠ 0 → decide (sv s (m * 2^e) < 0) = s := fun m0 => sv_lt (Nat.mul_ne_zero m0 (Nat.pos_iff_ne_zero.1 (Nat.two_pow_pos _)))
 cases d with
 | nan a b => obtain rfl := h; exact .inl ⟨by cases v' <;> rfl, by cases d' <;> rfl⟩
 | infinity s =>
  obtain rfl := h
  cases d' with
  | nan a b => obtain rfl := h'; exact .inl ⟨rfl, rfl⟩
  | infinity t => obtain rfl := h'; exact .inr ⟨.infinity (s ^^ t), rfl, by rw [xor_bne]; rfl, fun e => by cases e⟩
  | number t n j =>
   obtain ⟨hj, ⟨n0, rfl⟩ | ⟨n0, rfl⟩⟩ := h'
   ·exact .inl ⟨rfl, by show (if n = 0 then none else _) = none; rw [if_pos n0]⟩
   ·refine .inr ⟨.infinity (s ^^ t), by show (if n = 0 then none else some (Datum.infinity (s ^^ t))) = _; rw [if_neg n0], ?_, fun e => by cases e⟩
    show Vl.inf (s != decide (sv t _ < 0)) = Vl.inf (s ^^ t)
    rw [ps n0, xor_bne]
 | number s m i =>
  obtain ⟨hi, h⟩ := h
  cases d' with
  | nan a b => obtain rfl := h'; rcases h with ⟨_, rfl⟩ | ⟨_, rfl⟩ <;> exact .inl ⟨rfl, rfl⟩
  | infinity t =>
   obtain rfl := h'
   rcases h with ⟨m0, rfl⟩ | ⟨m0, rfl⟩
   ·exact .inl ⟨rfl, by show (if m = 0 then none else _) = none; rw [if_pos m0]⟩
   ·refine .inr ⟨.infinity (t ^^ s), by show (if m = 0 then none else some (Datum.infinity (t ^^ s))) = _; rw [if_neg m0], ?_, fun e => by cases e⟩
    show Vl.inf (decide (sv s _ < 0) != t) = Vl.inf (t ^^ s)
    rw [ps m0, xor_bne, bne_comm']
  | number t n j =>
   obtain ⟨hj, h'⟩ := h'
   right
   refine ⟨.number (s ^^ t) (m * n) (i + j), rfl, ?_⟩
   rcases h with ⟨m0, rfl⟩ | ⟨m0, rfl⟩ <;> rcases h' with ⟨n0, rfl⟩ | ⟨n0, rfl⟩
   ·exact ⟨⟨by omega, .inl ⟨by rw [m0, Nat.zero_mul], by rw [xor_bne]; rfl⟩⟩, fun e => by cases e⟩
   ·refine ⟨⟨by omega, .inl ⟨by rw [m0, Nat.zero_mul], ?_⟩⟩, fun e => by cases e⟩
    show Vl.nou (s != decide (sv t _ < 0)) = Vl.nou (s ^^ t)
    rw [ps n0, xor_bne]
   ·refine ⟨⟨by omega, .inl ⟨by rw [n0, Nat.mul_zero], ?_⟩⟩, fun e => by cases e⟩
    show Vl.nou (decide (sv s _ < 0) != t) = Vl.nou (s ^^ t)
    rw [ps m0, xor_bne]
   ·refine ⟨⟨by omega, .inr ⟨Nat.mul_ne_zero m0 n0, ?_⟩⟩, fun e => by cases e⟩
    show Vl.num (sv s _ * sv t _) = Vl.num (sv (s ^^ t) _)
    have e : m * n * 2^(i + j - (E + E')).toNat = (m * 2^(i - E).toNat) * (n * 2^(j - E').toNat) := by
     rw [show (i + j - (E + E')).toNat = (i - E).toNat + (j - E').toNat by omega, Nat.pow_add]; ac_rfl
    rw [e]
    generalize m * 2^(i - E).toNat = x
    generalize n * 2^(j - E').toNat = y
    congr 1
    cases s <;> cases t
    ·show (x : Int) * (y : Int) = ((x * y : Nat) : Int); rw [Int.natCast_mul]
    ·show (x : Int) * -(y : Int) = -((x * y : Nat) : Int); rw [Int.natCast_mul, Int.mul_neg]
    ·show -(x : Int) * (y : Int) = -((x * y : Nat) : Int); rw [Int.natCast_mul, Int.neg_mul]
    ·show -(x : Int) * -(y : Int) = ((x * y : Nat) : Int); rw [Int.natCast_mul, Int.neg_mul_neg]
end Go.Proofs.YtokoadgahflafaaGreatDoor.Mach
