/- What layer 9's calls answer: Add, Sub, Mul, Fma, Neg, Abs, Compare: plain Lean over the functions. Conditions: words. -/
import Derived.Test.YtokoadgahflafaaGreatDoorKSoftErrorsSf1
set_option linter.unusedVariables false
namespace Go.Proofs.YtokoadgahflafaaGreatDoor.Sf2
open Go.RowKit Go.Proofs.YtokoadgahflafaaGreatDoorW.PrintWords Go.Proofs.YtokoadgahflafaaGreatDoorW.PrintMore Go.Proofs.YtokoadgahflafaaGreatDoor.Num Go.Proofs.YtokoadgahflafaaGreatDoor.PLib Go.Proofs.YtokoadgahflafaaGreatDoor.Ref Go.Proofs.YtokoadgahflafaaGreatDoor.GTh Go.Proofs.YtokoadgahflafaaGreatDoor.Given Go.Proofs.YtokoadgahflafaaGreatDoor.Rp1 Go.Proofs.YtokoadgahflafaaGreatDoor.Rp2 Go.Proofs.YtokoadgahflafaaGreatDoor.Rp3 Go.Proofs.YtokoadgahflafaaGreatDoor.Rp4 Go.Proofs.YtokoadgahflafaaGreatDoor.Rp5 Go.Proofs.YtokoadgahflafaaGreatDoor.Rp7 Go.Proofs.YtokoadgahflafaaGreatDoor.BinLaw Go.Proofs.YtokoadgahflafaaGreatDoor.Fm8 Go.Proofs.YtokoadgahflafaaGreatDoor.Rnd Go.Proofs.YtokoadgahflafaaGreatDoor.Px Go.Proofs.YtokoadgahflafaaGreatDoor.Sf1
def erI (f : Int) (b : Nat) : Int := if f ≠ 32 ∧ f ≠ 64 then 1 else if f = 32 ∧ 4294967296 ≤ b then 2 else 0
theorem erI_fm {f : Int} {F : Fmt} (h : Fm f F) {b : Nat} (hb : b < 18446744073709551616) : (erI f b = 0 ∧ b < 2 * F.sg) ∨ (erI f b = 2 ∧ 2 * F.sg ≤ b) := by
 unfold erI
 rcases h with ⟨rfl, rfl⟩ | ⟨rfl, rfl⟩
 ·rw [if_neg (by decide)]
  have : fS.sg = 2147483648 := rfl
  by_cases c : 4294967296 ≤ b
  ·rw [if_pos ⟨rfl, c⟩]; right; omega
  ·rw [if_neg (fun x => c x.2)]; left; omega
 ·rw [if_neg (by decide), if_neg (fun x => absurd x.1 (by decide))]
  have : fD.sg = 9223372036854775808 := rfl
  left; omega
def rdB (F : Fmt) (b : Nat) : Vl := rdV F (decide (F.sg ≤ b)) (b % F.sg)
theorem rdB_pat {f : Int} {F : Fmt} (h : Fm f F) (neg : Bool) {s : Nat} (hs : s < F.sg) : rdB F (pat F neg s) = rdV F neg s := by
 unfold rdB
 rw [pat_ge F neg hs, pat_mod F neg hs]
theorem blV_rd {f : Int} {F : Fmt} (h : Fm f F) (neg : Bool) {s : Nat} (hs : s < F.sg) : blV (rdV F neg s) ≤ 2101 := by
 unfold rdV
 split
 ·exact Nat.zero_le _
 ·split
  ·show bl (sv neg (nF F s)).natAbs ≤ 2101
   rw [sv_abs]
   exact bl_nF h hs
  ·split <;> exact Nat.zero_le _
theorem blV_rdB {f : Int} {F : Fmt} (h : Fm f F) (b : Nat) : blV (rdB F b) ≤ 2101 := blV_rd h _ (Nat.mod_lt _ (by have := h.sz; omega))
theorem readB_ev {f : Int} {F : Fmt} (h : Fm f F) {b : Nat} (hb : b < 2 * F.sg) : ∃ o, OdE F.low 53 (rdB F b) o ∧ Ev (fun k => soft_read.f k f ((b : Nat) : Int)) (o, 0) := by
 have hp := pat_of hb (by have := h.sz; omega)
 have e := read_ev h (decide (F.sg ≤ b)) hp.2
 rw [← hp.1] at e
 exact e
theorem shapeOf_no {f : Int} (h : f ≠ 32) (h' : f ≠ 64) : binary_shapeOf.f f = some (0, 0, 0, 0) := by
 unfold binary_shapeOf.f
 first
 | rw [if_neg h, if_neg h']
 | rw [if_neg h', if_neg h]
theorem take_no {f : Int} (h : f ≠ 32) (h' : f ≠ 64) (b : Int) : ∃ r, r.2.2.2.2.2.2 = 1 ∧ Ev (fun k => binary_take.f k f b) r := by
 unfold binary_take.f
 rw [shapeOf_no h h']
 exact ⟨_, rfl, Ev.now _⟩
theorem class_bad {f : Int} {b : Nat} (hb : b < 18446744073709551616) (e0 : erI f b ≠ 0) : ∃ c, Ev (fun k => binary_ClassOf.f k f ((b : Nat) : Int)) (c, erI f b) := by
 rcases fm_cases f with ⟨F, h⟩ | ⟨h1, h2⟩
 ·rcases erI_fm h hb with ⟨c, _⟩ | ⟨c, c2⟩
  ·exact absurd c e0
  ·rw [c]
   unfold binary_ClassOf.f
   have t := take_bad h b hb c2
   exact ⟨_, Ev.bind t (Ev.congr (fun k => if_neg (by show ¬ (2 : Int) = 0; decide)) (Ev.now _))⟩
 ·have e1 : erI f b = 1 := by unfold erI; rw [if_pos ⟨h1, h2⟩]
  rw [e1]
  obtain ⟨r, r1, r2⟩ := take_no h1 h2 (b : Int)
  unfold binary_ClassOf.f
  refine ⟨0, Ev.bind r2 (Ev.congr (fun k => if_neg (by rw [r1]; decide)) ?_)⟩
  rw [r1]
  exact Ev.now _
theorem read_bad {f : Int} {b : Nat} (hb : b < 18446744073709551616) (e0 : erI f b ≠ 0) : Ev (fun k => soft_read.f k f ((b : Nat) : Int)) (.nan, erI f b) := by
 obtain ⟨c, e⟩ := class_bad hb e0
 unfold soft_read.f
 exact Ev.bind e (Ev.congr (fun k => if_neg e0) (Ev.now _))
theorem read_some {f : Int} {b : Nat} (hb : b < 18446744073709551616) : ∃ o, Ev (fun k => soft_read.f k f ((b : Nat) : Int)) (o, erI f b) := by
 by_cases e0 : erI f b = 0
 ·rcases fm_cases f with ⟨F, h⟩ | ⟨h1, h2⟩
  ·rcases erI_fm h hb with ⟨c, c2⟩ | ⟨c, _⟩
   ·obtain ⟨o, _, e⟩ := readB_ev h c2
    rw [c]
    exact ⟨o, e⟩
   ·omega
  ·exfalso
   unfold erI at e0
   rw [if_pos ⟨h1, h2⟩] at e0
   omega
 ·exact ⟨_, read_bad hb e0⟩
def er2 (e g : Int) : Int := if e = 0 then g else if g = 0 then e else if g < e then g else e
theorem pair_some {f : Int} {a b : Nat} (ha : a < 18446744073709551616) (hb : b < 18446744073709551616) : ∃ x y, Ev (fun k => soft_pair.f k f (a : Int) (b : Int)) (x, y, er2 (erI f a) (erI f b)) := by
 obtain ⟨x, ex⟩ := read_some (f := f) ha
 obtain ⟨y, ey⟩ := read_some (f := f) hb
 refine ⟨x, y, ?_⟩
 unfold soft_pair.f er2
 refine Ev.bind ex (Ev.bind ey ?_)
 dsimp only
 by_cases c : erI f a = 0
 ·rw [if_pos c, if_pos c]; exact Ev.now _
 ·rw [if_neg c, if_neg c]
  by_cases c2 : erI f b = 0
  ·rw [if_pos c2, if_pos c2]; exact Ev.now _
  ·rw [if_neg c2, if_neg c2]
   by_cases c3 : erI f b < erI f a
   ·rw [if_pos c3, if_pos c3]; exact Ev.now _
   ·rw [if_neg c3, if_neg c3]; exact Ev.now _
theorem pair_ev {f : Int} {F : Fmt} (h : Fm f F) {a b : Nat} (ha : a < 2 * F.sg) (hb : b < 2 * F.sg) : ∃ x y, OdE F.low 53 (rdB F a) x ∧ OdE F.low 53 (rdB F b) y ∧ Ev (fun k => soft_pair.f k f (a : Int) (b : Int)) (x, y, 0) := by
 obtain ⟨x, hx, ex⟩ := readB_ev h ha
 obtain ⟨y, hy, ey⟩ := readB_ev h hb
 refine ⟨x, y, hx, hy, ?_⟩
 unfold soft_pair.f
 exact Ev.bind ex (Ev.bind ey (Ev.congr (fun k => if_pos rfl) (Ev.now _)))
theorem low_rng {f : Int} {F : Fmt} (h : Fm f F) : -1074 ≤ F.low ∧ F.low ≤ -149 := by have := fm_man h; omega
theorem add_ev {f : Int} {F : Fmt} (h : Fm f F) {a b : Nat} (ha : a < 2 * F.sg) (hb : b < 2 * F.sg) : Ev (fun k => soft_Add.f k f (a : Int) (b : Int)) (((tellV F 0 (plusV (rdB F a) (rdB F b)) : Nat) : Int), 0) := by
 obtain ⟨x, y, hx, hy, e⟩ := pair_ev h ha hb
 have hl := low_rng h
 have b1 := blV_rdB h a
 have b2 := blV_rdB h b
 obtain ⟨r, hr, e2⟩ := plus_ev (by omega) (by omega) hx hy (by omega) (by omega)
 have t := tell_ev h (Int.le_refl _) hr
 rw [Int.sub_self] at t
 unfold soft_Add.f
 exact Ev.bind e (Ev.congr (fun k => if_pos rfl) (Ev.bind e2 (Ev.bind t (Ev.now _))))
def turnV : Vl → Vl
 | .nan => .nan
 | .inf n => .inf (!n)
 | .nou n => .nou (!n)
 | .num V => .num (-V)
theorem turnV_rd (F : Fmt) (neg : Bool) (s : Nat) : turnV (rdV F neg s) = rdV F (!neg) s := by
 unfold rdV
 split
 ·rfl
 ·split
  ·show Vl.num (-(sv neg (nF F s))) = Vl.num (sv (!neg) (nF F s)); rw [sv_not]
  ·split <;> rfl
theorem blV_turn (v : Vl) : blV (turnV v) = blV v := by
 cases v with
 | num V => show bl (-V).natAbs = bl V.natAbs; rw [Int.natAbs_neg]
 | _ => rfl
theorem number_turned {E : Int} {B : Nat} {V : Int} {n : Bool} {m : Nat} {x : Int} (d : Dy E n m x V) (v0 : V ≠ 0) (hb : bl m ≤ B) : ∃ o, OdE E B (.num (-V)) o ∧ Ev (fun k => soft_number_turned.f k n (lb m) x) o := by
 obtain ⟨n', d', e⟩ := neg_dy d
 unfold soft_number_turned.f
 exact ⟨_, ⟨n', m, x, rfl, d', by omega, hb⟩, Ev.bind e (Ev.now _)⟩
theorem sub_ev {f : Int} {F : Fmt} (h : Fm f F) {a b : Nat} (ha : a < 2 * F.sg) (hb : b < 2 * F.sg) : Ev (fun k => soft_Sub.f k f (a : Int) (b : Int)) (((tellV F 0 (plusV (rdB F a) (turnV (rdB F b))) : Nat) : Int), 0) := by
 obtain ⟨x, y, hx, hy, e⟩ := pair_ev h ha hb
 have hl := low_rng h
 have b1 := blV_rdB h a
 have b2 := blV_rdB h b
 rw [← blV_turn] at b2
 have key : ∀ o, OdE F.low 53 (turnV (rdB F b)) o → ∃ r, OdE F.low (max 53 524288) (plusV (rdB F a) (turnV (rdB F b))) r ∧ Ev (fun k => soft_plus.f k x o) r := fun o ho => plus_ev (by omega) (by omega) hx ho (by omega) (by omega)
 have tl : ∀ r, OdE F.low (max 53 524288) (plusV (rdB F a) (turnV (rdB F b))) r → Ev (fun k => soft_tell.f k f r) (((tellV F 0 (plusV (rdB F a) (turnV (rdB F b))) : Nat) : Int), 0) := fun r hr => by
  have t := tell_ev h (Int.le_refl _) hr
  rw [Int.sub_self] at t
  exact t
 unfold soft_Sub.f
 refine Ev.bind e (Ev.congr (fun k => if_pos rfl) ?_)
 generalize rdB F b = v at *
 cases v with
 | nan =>
  obtain rfl := hy
  obtain ⟨r, hr, e2⟩ := key .nan rfl
  exact Ev.bind e2 (Ev.bind (tl r hr) (Ev.now _))
 | inf n =>
  obtain rfl := hy
  obtain ⟨r, hr, e2⟩ := key (.inf (!n)) rfl
  exact Ev.bind e2 (Ev.bind (tl r hr) (Ev.now _))
 | nou n =>
  obtain rfl := hy
  obtain ⟨r, hr, e2⟩ := key (.nou (!n)) rfl
  exact Ev.bind e2 (Ev.bind (tl r hr) (Ev.now _))
 | num V =>
  obtain ⟨n, m, z, rfl, d, v0, bm⟩ := hy
  obtain ⟨o, ho, eo⟩ := number_turned d v0 bm
  obtain ⟨r, hr, e2⟩ := key o ho
  exact Ev.bind eo (Ev.bind e2 (Ev.bind (tl r hr) (Ev.now _)))
theorem mul_ev {f : Int} {F : Fmt} (h : Fm f F) {a b : Nat} (ha : a < 2 * F.sg) (hb : b < 2 * F.sg) : Ev (fun k => soft_Mul.f k f (a : Int) (b : Int)) (((tellV F (-F.low).toNat (timesV (rdB F a) (rdB F b)) : Nat) : Int), 0) := by
 obtain ⟨x, y, hx, hy, e⟩ := pair_ev h ha hb
 have hl := low_rng h
 have b1 := blV_rdB h a
 have b2 := blV_rdB h b
 obtain ⟨r, hr, e2⟩ := times_ev (by omega) (by omega) (by omega) (by omega) (by omega) hx hy (by omega) (by omega)
 have t := tell_ev h (by omega) hr
 rw [show F.low - (F.low + F.low) = -F.low by omega] at t
 unfold soft_Mul.f
 exact Ev.bind e (Ev.congr (fun k => if_pos rfl) (Ev.bind e2 (Ev.bind t (Ev.now _))))
def liftV (d : Nat) : Vl → Vl
 | .num V => .num (V * ((2^d : Nat) : Int))
 | v => v
theorem OdE.down {E : Int} {B : Nat} {v : Vl} {o : Opd} (h : OdE E B v o) (d : Nat) : OdE (E - d) B (liftV d v) o := by
 cases v with
 | num V =>
  obtain ⟨n, m, x, e, k, v0, b⟩ := h
  exact ⟨n, m, x, e, k.down d, Int.mul_ne_zero v0 (by have := Nat.two_pow_pos d; omega), b⟩
 | _ => exact h
theorem bl_mul_le {A n : Nat} : bl (A * 2^n) ≤ bl A + n := by
 by_cases c : A = 0
 ·rw [c, Nat.zero_mul]; rw [show bl 0 = 0 from rfl]; omega
 ·rw [bl_mul _ _ c]; exact Nat.le_refl _
theorem blV_lift {v : Vl} (d : Nat) : blV (liftV d v) ≤ blV v + d := by
 cases v with
 | num V =>
  show bl (V * ((2^d : Nat) : Int)).natAbs ≤ bl V.natAbs + d
  rw [Int.natAbs_mul, Int.natAbs_natCast]
  exact bl_mul_le
 | _ => exact Nat.zero_le _
theorem blV_times {v v' : Vl} : blV (timesV v v') ≤ blV v + blV v' := by
 cases v <;> cases v' <;> first | exact Nat.zero_le _ | (rename_i V W; show bl (V * W).natAbs ≤ bl V.natAbs + bl W.natAbs; rw [Int.natAbs_mul]; exact bl_mul2 (Nat.le_refl _) (Nat.le_refl _))
theorem fma_ev {f : Int} {F : Fmt} (h : Fm f F) {a b c : Nat} (ha : a < 2 * F.sg) (hb : b < 2 * F.sg) (hc : c < 2 * F.sg) :
  Ev (fun k => soft_Fma.f k f (a : Int) (b : Int) (c : Int)) (((tellV F (-F.low).toNat (plusV (timesV (rdB F a) (rdB F b)) (liftV (-F.low).toNat (rdB F c))) : Nat) : Int), 0) := by
 obtain ⟨x, y, hx, hy, e⟩ := pair_ev h ha hb
 obtain ⟨z, hz, ez⟩ := readB_ev h hc
 have hl := low_rng h
 have b1 := blV_rdB h a
 have b2 := blV_rdB h b
 have b3 := blV_rdB h c
 have b4 := @blV_times (rdB F a) (rdB F b)
 have b5 := @blV_lift (rdB F c) (-F.low).toNat
 obtain ⟨r, hr, e2⟩ := times_ev (by omega) (by omega) (by omega) (by omega) (by omega) hx hy (by omega) (by omega)
 have hz2 := OdE.down hz (-F.low).toNat
 rw [show F.low - (((-F.low).toNat : Nat) : Int) = F.low + F.low by omega] at hz2
 obtain ⟨r2, hr2, e3⟩ := plus_ev (by omega) (by omega) hr (OdE.mono (show 53 ≤ 53 + 53 by decide) hz2) (by omega) (by omega)
 have t := tell_ev h (by omega) hr2
 rw [show F.low - (F.low + F.low) = -F.low by omega] at t
 unfold soft_Fma.f
 exact Ev.bind e (Ev.bind ez (Ev.congr (fun k => if_pos rfl) (Ev.congr (fun k => if_pos rfl) (Ev.bind e2 (Ev.bind e3 (Ev.bind t (Ev.now _)))))))
theorem neg_ev {f : Int} {F : Fmt} (h : Fm f F) {a : Nat} (ha : a < 2 * F.sg) : Ev (fun k => soft_Neg.f k f (a : Int)) (((tellV F 0 (turnV (rdB F a)) : Nat) : Int), 0) := by
 obtain ⟨x, hx, e⟩ := readB_ev h ha
 have tl : ∀ r, OdE F.low 53 (turnV (rdB F a)) r → Ev (fun k => soft_tell.f k f r) (((tellV F 0 (turnV (rdB F a)) : Nat) : Int), 0) := fun r hr => by
  have t := tell_ev h (Int.le_refl _) hr
  rw [Int.sub_self] at t
  exact t
 unfold soft_Neg.f
 refine Ev.bind e (Ev.congr (fun k => if_pos rfl) ?_)
 generalize rdB F a = v at *
 cases v with
 | nan => obtain rfl := hx; exact Ev.bind (tl _ rfl) (Ev.now _)
 | inf n => obtain rfl := hx; exact Ev.bind (tl (.inf (!n)) rfl) (Ev.now _)
 | nou n => obtain rfl := hx; exact Ev.bind (tl (.nou (!n)) rfl) (Ev.now _)
 | num V =>
  obtain ⟨n, m, z, rfl, d, v0, bm⟩ := hx
  obtain ⟨o, ho, eo⟩ := number_turned d v0 bm
  exact Ev.bind eo (Ev.bind (tl o ho) (Ev.now _))
end Go.Proofs.YtokoadgahflafaaGreatDoor.Sf2
