/- What layer 9's calls answer: Add, Sub, Mul, Fma, Neg, Abs, Compare: plain Lean over the functions. Conditions: words. -/
import Derived.Test.YtokoadgahflafaaGreatDoorKSoftRootOfSquareSf1
set_option linter.unusedVariables false
namespace Go.Proofs.YtokoadgahflafaaGreatDoor.Sf2
open Go.RowKit Go.Proofs.YtokoadgahflafaaGreatDoorW.PrintWords Go.Proofs.YtokoadgahflafaaGreatDoorW.PrintMore Go.Proofs.YtokoadgahflafaaGreatDoor.Num Go.Proofs.YtokoadgahflafaaGreatDoor.PLib Go.Proofs.YtokoadgahflafaaGreatDoor.Ref Go.Proofs.YtokoadgahflafaaGreatDoor.GTh Go.Proofs.YtokoadgahflafaaGreatDoor.Given Go.Proofs.YtokoadgahflafaaGreatDoor.Rp1 Go.Proofs.YtokoadgahflafaaGreatDoor.Rp2 Go.Proofs.YtokoadgahflafaaGreatDoor.Rp3 Go.Proofs.YtokoadgahflafaaGreatDoor.Rp4 Go.Proofs.YtokoadgahflafaaGreatDoor.Rp5 Go.Proofs.YtokoadgahflafaaGreatDoor.Rp7 Go.Proofs.YtokoadgahflafaaGreatDoor.BinLaw Go.Proofs.YtokoadgahflafaaGreatDoor.Fm8 Go.Proofs.YtokoadgahflafaaGreatDoor.Rnd Go.Proofs.YtokoadgahflafaaGreatDoor.Sq Go.Proofs.YtokoadgahflafaaGreatDoor.Px Go.Proofs.YtokoadgahflafaaGreatDoor.Sf1
def rdB (F : Fmt) (b : Nat) : Vl := rdV F (decide (F.sg ≤ b)) (b % F.sg)
theorem rdB_pat {f : Int} {F : Fmt} (h : Fm f F) (neg : Bool) {s : Nat} (hs : s < F.sg) : rdB F (pat F neg s) = rdV F neg s := by
 unfold rdB
 rw [pat_ge F neg hs, pat_mod F neg hs]
theorem blV_rd {f : Int} {F : Fmt} (h : Fm f F) (neg : Bool) {s : Nat} (hs : s < F.sg) : blV (rdV F neg s) ≤ 2101 := by
 unfold rdV
 split
 ·exact Nat.zero_le _
 ·split
  ·show bl (sv neg (nF F s)).natAbs ≤ 2101
   rw [sv_abs]
   exact bl_nF h hs
  ·split <;> exact Nat.zero_le _
theorem blV_rdB {f : Int} {F : Fmt} (h : Fm f F) (b : Nat) : blV (rdB F b) ≤ 2101 := blV_rd h _ (Nat.mod_lt _ (by have := h.sz; omega))
theorem readB_ev {f : Int} {F : Fmt} (h : Fm f F) {b : Nat} (hb : b < 2 * F.sg) : ∃ o, OdE F.low 53 (rdB F b) o ∧ Ev (fun k => soft_read.f k f ((b : Nat) : Int)) (o, 0) := by
 have hp := pat_of hb (by have := h.sz; omega)
 have e := read_ev h (decide (F.sg ≤ b)) hp.2
 rw [← hp.1] at e
 exact e
theorem pair_ev {f : Int} {F : Fmt} (h : Fm f F) {a b : Nat} (ha : a < 2 * F.sg) (hb : b < 2 * F.sg) : ∃ x y, OdE F.low 53 (rdB F a) x ∧ OdE F.low 53 (rdB F b) y ∧ Ev (fun k => soft_pair.f k f (a : Int) (b : Int)) (x, y, 0) := by
 obtain ⟨x, hx, ex⟩ := readB_ev h ha
 obtain ⟨y, hy, ey⟩ := readB_ev h hb
 refine ⟨x, y, hx, hy, ?_⟩
 unfold soft_pair.f
 exact Ev.bind ex (Ev.bind ey (Ev.congr (fun k => if_pos rfl) (Ev.now _)))
theorem low_rng {f : Int} {F : Fmt} (h : Fm f F) : -1074 ≤ F.low ∧ F.low ≤ -149 := by have := fm_man h; omega
theorem mul_ev {f : Int} {F : Fmt} (h : Fm f F) {a b : Nat} (ha : a < 2 * F.sg) (hb : b < 2 * F.sg) : Ev (fun k => soft_Mul.f k f (a : Int) (b : Int)) (((tellV F (-F.low).toNat (timesV (rdB F a) (rdB F b)) : Nat) : Int), 0) := by
 obtain ⟨x, y, hx, hy, e⟩ := pair_ev h ha hb
 have hl := low_rng h
 have b1 := blV_rdB h a
 have b2 := blV_rdB h b
 obtain ⟨r, hr, e2⟩ := times_ev (by omega) (by omega) (by omega) (by omega) (by omega) hx hy (by omega) (by omega)
 have t := tell_ev h (by omega) hr
 rw [show F.low - (F.low + F.low) = -F.low by omega] at t
 unfold soft_Mul.f
 exact Ev.bind e (Ev.congr (fun k => if_pos rfl) (Ev.bind e2 (Ev.bind t (Ev.now _))))
end Go.Proofs.YtokoadgahflafaaGreatDoor.Sf2
