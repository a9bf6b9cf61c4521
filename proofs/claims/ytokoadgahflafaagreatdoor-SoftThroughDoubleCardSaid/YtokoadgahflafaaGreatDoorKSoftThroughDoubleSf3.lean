/- What layer 9's calls answer: Add, Sub, Mul, Fma, Neg, Abs, Compare: plain Lean over the functions. Conditions: words. Layer 9's values: telling and reading again, turning, order of arguments. Plain Lean. Conditions: formats. -/
import Derived.Test.YtokoadgahflafaaGreatDoorKSoftThroughDoubleSf1
section
set_option linter.unusedVariables false
namespace Go.Proofs.YtokoadgahflafaaGreatDoor.Sf2
open Go.RowKit Go.Proofs.YtokoadgahflafaaGreatDoorW.PrintWords Go.Proofs.YtokoadgahflafaaGreatDoorW.PrintMore Go.Proofs.YtokoadgahflafaaGreatDoor.Num Go.Proofs.YtokoadgahflafaaGreatDoor.PLib Go.Proofs.YtokoadgahflafaaGreatDoor.Ref Go.Proofs.YtokoadgahflafaaGreatDoor.GTh Go.Proofs.YtokoadgahflafaaGreatDoor.Given Go.Proofs.YtokoadgahflafaaGreatDoor.Rp1 Go.Proofs.YtokoadgahflafaaGreatDoor.Rp2 Go.Proofs.YtokoadgahflafaaGreatDoor.Rp3 Go.Proofs.YtokoadgahflafaaGreatDoor.Rp4 Go.Proofs.YtokoadgahflafaaGreatDoor.Rp5 Go.Proofs.YtokoadgahflafaaGreatDoor.Rp7 Go.Proofs.YtokoadgahflafaaGreatDoor.BinLaw Go.Proofs.YtokoadgahflafaaGreatDoor.Fm8 Go.Proofs.YtokoadgahflafaaGreatDoor.Rnd Go.Proofs.YtokoadgahflafaaGreatDoor.Sq Go.Proofs.YtokoadgahflafaaGreatDoor.Px Go.Proofs.YtokoadgahflafaaGreatDoor.Sf1
def rdB (F : Fmt) (b : Nat) : Vl := rdV F (decide (F.sg ≤ b)) (b % F.sg)
theorem rdB_pat {f : Int} {F : Fmt} (h : Fm f F) (neg : Bool) {s : Nat} (hs : s < F.sg) : rdB F (pat F neg s) = rdV F neg s := by
 unfold rdB
 rw [pat_ge F neg hs, pat_mod F neg hs]
theorem blV_rd {f : Int} {F : Fmt} (h : Fm f F) (neg : Bool) {s : Nat} (hs : s < F.sg) : blV (rdV F neg s) ≤ 2101 := by
 unfold rdV
 split
 ·exact Nat.zero_le _
 ·split
  ·show bl (sv neg (nF F s)).natAbs ≤ 2101
   rw [sv_abs]
   exact bl_nF h hs
  ·split <;> exact Nat.zero_le _
theorem blV_rdB {f : Int} {F : Fmt} (h : Fm f F) (b : Nat) : blV (rdB F b) ≤ 2101 := blV_rd h _ (Nat.mod_lt _ (by have := h.sz; omega))
theorem readB_ev {f : Int} {F : Fmt} (h : Fm f F) {b : Nat} (hb : b < 2 * F.sg) : ∃ o, OdE F.low 53 (rdB F b) o ∧ Ev (fun k => soft_read.f k f ((b : Nat) : Int)) (o, 0) := by
 have hp := pat_of hb (by have := h.sz; omega)
 have e := read_ev h (decide (F.sg ≤ b)) hp.2
 rw [← hp.1] at e
 exact e
theorem pair_ev {f : Int} {F : Fmt} (h : Fm f F) {a b : Nat} (ha : a < 2 * F.sg) (hb : b < 2 * F.sg) : ∃ x y, OdE F.low 53 (rdB F a) x ∧ OdE F.low 53 (rdB F b) y ∧ Ev (fun k => soft_pair.f k f (a : Int) (b : Int)) (x, y, 0) := by
 obtain ⟨x, hx, ex⟩ := readB_ev h ha
 obtain ⟨y, hy, ey⟩ := readB_ev h hb
 refine ⟨x, y, hx, hy, ?_⟩
 unfold soft_pair.f
 exact Ev.bind ex (Ev.bind ey (Ev.congr (fun k => if_pos rfl) (Ev.now _)))
theorem low_rng {f : Int} {F : Fmt} (h : Fm f F) : -1074 ≤ F.low ∧ F.low ≤ -149 := by have := fm_man h; omega
theorem add_ev {f : Int} {F : Fmt} (h : Fm f F) {a b : Nat} (ha : a < 2 * F.sg) (hb : b < 2 * F.sg) : Ev (fun k => soft_Add.f k f (a : Int) (b : Int)) (((tellV F 0 (plusV (rdB F a) (rdB F b)) : Nat) : Int), 0) := by
 obtain ⟨x, y, hx, hy, e⟩ := pair_ev h ha hb
 have hl := low_rng h
 have b1 := blV_rdB h a
 have b2 := blV_rdB h b
 obtain ⟨r, hr, e2⟩ := plus_ev (by omega) (by omega) hx hy (by omega) (by omega)
 have t := tell_ev h (Int.le_refl _) hr
 rw [Int.sub_self] at t
 unfold soft_Add.f
 exact Ev.bind e (Ev.congr (fun k => if_pos rfl) (Ev.bind e2 (Ev.bind t (Ev.now _))))
def turnV : Vl → Vl
 | .nan => .nan
 | .inf n => .inf (!n)
 | .nou n => .nou (!n)
 | .num V => .num (-V)
theorem blV_turn (v : Vl) : blV (turnV v) = blV v := by
 cases v with
 | num V => show bl (-V).natAbs = bl V.natAbs; rw [Int.natAbs_neg]
 | _ => rfl
theorem number_turned {E : Int} {B : Nat} {V : Int} {n : Bool} {m : Nat} {x : Int} (d : Dy E n m x V) (v0 : V ≠ 0) (hb : bl m ≤ B) : ∃ o, OdE E B (.num (-V)) o ∧ Ev (fun k => soft_number_turned.f k n (lb m) x) o := by
 obtain ⟨n', d', e⟩ := neg_dy d
 unfold soft_number_turned.f
 exact ⟨_, ⟨n', m, x, rfl, d', by omega, hb⟩, Ev.bind e (Ev.now _)⟩
theorem sub_ev {f : Int} {F : Fmt} (h : Fm f F) {a b : Nat} (ha : a < 2 * F.sg) (hb : b < 2 * F.sg) : Ev (fun k => soft_Sub.f k f (a : Int) (b : Int)) (((tellV F 0 (plusV (rdB F a) (turnV (rdB F b))) : Nat) : Int), 0) := by
 obtain ⟨x, y, hx, hy, e⟩ := pair_ev h ha hb
 have hl := low_rng h
 have b1 := blV_rdB h a
 have b2 := blV_rdB h b
 rw [← blV_turn] at b2
 have key : ∀ o, OdE F.low 53 (turnV (rdB F b)) o → ∃ r, OdE F.low (max 53 524288) (plusV (rdB F a) (turnV (rdB F b))) r ∧ Ev (fun k => soft_plus.f k x o) r := fun o ho => plus_ev (by omega) (by omega) hx ho (by omega) (by omega)
 have tl : ∀ r, OdE F.low (max 53 524288) (plusV (rdB F a) (turnV (rdB F b))) r → Ev (fun k => soft_tell.f k f r) (((tellV F 0 (plusV (rdB F a) (turnV (rdB F b))) : Nat) : Int), 0) := fun r hr => by
  have t := tell_ev h (Int.le_refl _) hr
  rw [Int.sub_self] at t
  exact t
 unfold soft_Sub.f
 refine Ev.bind e (Ev.congr (fun k => if_pos rfl) ?_)
 generalize rdB F b = v at *
 cases v with
 | nan =>
  obtain rfl := hy
  obtain ⟨r, hr, e2⟩ := key .nan rfl
  exact Ev.bind e2 (Ev.bind (tl r hr) (Ev.now _))
 | inf n =>
  obtain rfl := hy
  obtain ⟨r, hr, e2⟩ := key (.inf (!n)) rfl
  exact Ev.bind e2 (Ev.bind (tl r hr) (Ev.now _))
 | nou n =>
  obtain rfl := hy
  obtain ⟨r, hr, e2⟩ := key (.nou (!n)) rfl
  exact Ev.bind e2 (Ev.bind (tl r hr) (Ev.now _))
 | num V =>
  obtain ⟨n, m, z, rfl, d, v0, bm⟩ := hy
  obtain ⟨o, ho, eo⟩ := number_turned d v0 bm
  obtain ⟨r, hr, e2⟩ := key o ho
  exact Ev.bind eo (Ev.bind e2 (Ev.bind (tl r hr) (Ev.now _)))
theorem mul_ev {f : Int} {F : Fmt} (h : Fm f F) {a b : Nat} (ha : a < 2 * F.sg) (hb : b < 2 * F.sg) : Ev (fun k => soft_Mul.f k f (a : Int) (b : Int)) (((tellV F (-F.low).toNat (timesV (rdB F a) (rdB F b)) : Nat) : Int), 0) := by
 obtain ⟨x, y, hx, hy, e⟩ := pair_ev h ha hb
 have hl := low_rng h
 have b1 := blV_rdB h a
 have b2 := blV_rdB h b
 obtain ⟨r, hr, e2⟩ := times_ev (by omega) (by omega) (by omega) (by omega) (by omega) hx hy (by omega) (by omega)
 have t := tell_ev h (by omega) hr
 rw [show F.low - (F.low + F.low) = -F.low by omega] at t
 unfold soft_Mul.f
 exact Ev.bind e (Ev.congr (fun k => if_pos rfl) (Ev.bind e2 (Ev.bind t (Ev.now _))))
def liftV (d : Nat) : Vl → Vl
 | .num V => .num (V * ((2^d : Nat) : Int))
 | v => v
end Go.Proofs.YtokoadgahflafaaGreatDoor.Sf2
end
section
set_option linter.unusedVariables false
namespace Go.Proofs.YtokoadgahflafaaGreatDoor.Sf3
open Go.RowKit Go.Proofs.YtokoadgahflafaaGreatDoorW.PrintWords Go.Proofs.YtokoadgahflafaaGreatDoorW.PrintMore Go.Proofs.YtokoadgahflafaaGreatDoor.Num Go.Proofs.YtokoadgahflafaaGreatDoor.PLib Go.Proofs.YtokoadgahflafaaGreatDoor.Ref Go.Proofs.YtokoadgahflafaaGreatDoor.GTh Go.Proofs.YtokoadgahflafaaGreatDoor.Given Go.Proofs.YtokoadgahflafaaGreatDoor.Rp1 Go.Proofs.YtokoadgahflafaaGreatDoor.Rp2 Go.Proofs.YtokoadgahflafaaGreatDoor.Rp3 Go.Proofs.YtokoadgahflafaaGreatDoor.Rp4 Go.Proofs.YtokoadgahflafaaGreatDoor.Rp5 Go.Proofs.YtokoadgahflafaaGreatDoor.Rp7 Go.Proofs.YtokoadgahflafaaGreatDoor.BinLaw Go.Proofs.YtokoadgahflafaaGreatDoor.Fm8 Go.Proofs.YtokoadgahflafaaGreatDoor.Rnd Go.Proofs.YtokoadgahflafaaGreatDoor.Sq Go.Proofs.YtokoadgahflafaaGreatDoor.Px Go.Proofs.YtokoadgahflafaaGreatDoor.Sf1 Go.Proofs.YtokoadgahflafaaGreatDoor.Sf2
theorem rd_quiet {f : Int} {F : Fmt} (h : Fm f F) : rdB F F.qt = .nan := by
 rcases h with ⟨_, rfl⟩ | ⟨_, rfl⟩ <;> kernel_rfl
theorem rdB_inf {f : Int} {F : Fmt} (h : Fm f F) (n : Bool) : rdB F (pat F n F.inf) = .inf n := by
 have hz := h.sz
 rw [rdB_pat h n (by omega)]
 unfold rdV
 rw [if_neg (by omega), if_neg (by omega), if_pos rfl]
theorem rdB_nou {f : Int} {F : Fmt} (h : Fm f F) (n : Bool) : rdB F (pat F n 0) = .nou n := by
 have hz := h.sz
 rw [rdB_pat h n (by omega)]
 unfold rdV
 rw [if_pos rfl]
theorem plus_lift (g : Nat) (v w : Vl) : plusV (liftV g v) (liftV g w) = liftV g (plusV v w) := by
 cases v with
 | nan => rfl
 | inf a =>
  cases w with
  | inf b => show (if a = b then Vl.inf a else .nan) = liftV g (if a = b then .inf a else .nan); split <;> rfl
  | _ => rfl
 | nou a => cases w <;> rfl
 | num V =>
  cases w with
  | num W =>
   show (if V * ((2^g : Nat) : Int) + W * ((2^g : Nat) : Int) = 0 then Vl.nou false else .num (V * ((2^g : Nat) : Int) + W * ((2^g : Nat) : Int))) = liftV g (if V + W = 0 then .nou false else .num (V + W))
   rw [← Int.add_mul]
   have p : ((2^g : Nat) : Int) ≠ 0 := by have := Nat.two_pow_pos g; omega
   by_cases c : V + W = 0
   ·rw [if_pos c, c, Int.zero_mul, if_pos rfl]; rfl
   ·rw [if_neg c, if_neg (Int.mul_ne_zero c p)]; rfl
  | _ => rfl
theorem lt_tell {f : Int} {F : Fmt} (h : Fm f F) (g : Nat) (v : Vl) : tellV F g v < 2 * F.sg := by
 have hz := h.sz
 cases v with
 | nan => show F.qt < 2 * F.sg; rcases h with ⟨_, rfl⟩ | ⟨_, rfl⟩ <;> decide
 | inf n => exact pat_lt F n (by omega)
 | nou n => exact pat_lt F n (by omega)
 | num V =>
  show Rp4.pv F g V < _
  unfold Rp4.pv
  split
  ·omega
  ·exact pat_lt F _ (by have := (rsz_nst h g V.natAbs).le; omega)
end Go.Proofs.YtokoadgahflafaaGreatDoor.Sf3
end
