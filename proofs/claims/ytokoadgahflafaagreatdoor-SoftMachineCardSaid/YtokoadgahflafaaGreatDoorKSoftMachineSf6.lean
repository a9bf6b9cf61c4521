/- Roots and comparisons of layer 9's numbers; what Div, Sqrt and Compare answer: plain Lean over the functions. Conditions: formats. -/
import Derived.Test.YtokoadgahflafaaGreatDoorKSoftMachineSf5
set_option linter.unusedVariables false
namespace Go.Proofs.YtokoadgahflafaaGreatDoor.Sf6
open Go.RowKit Go.Proofs.YtokoadgahflafaaGreatDoorW.PrintWords Go.Proofs.YtokoadgahflafaaGreatDoorW.PrintMore Go.Proofs.YtokoadgahflafaaGreatDoor.Num Go.Proofs.YtokoadgahflafaaGreatDoor.PLib Go.Proofs.YtokoadgahflafaaGreatDoor.Ref Go.Proofs.YtokoadgahflafaaGreatDoor.GTh Go.Proofs.YtokoadgahflafaaGreatDoor.Given Go.Proofs.YtokoadgahflafaaGreatDoor.Rp1 Go.Proofs.YtokoadgahflafaaGreatDoor.Rp2 Go.Proofs.YtokoadgahflafaaGreatDoor.Rp3 Go.Proofs.YtokoadgahflafaaGreatDoor.Rp4 Go.Proofs.YtokoadgahflafaaGreatDoor.Rp5 Go.Proofs.YtokoadgahflafaaGreatDoor.Rp7 Go.Proofs.YtokoadgahflafaaGreatDoor.BinLaw Go.Proofs.YtokoadgahflafaaGreatDoor.Fm8 Go.Proofs.YtokoadgahflafaaGreatDoor.Rnd Go.Proofs.YtokoadgahflafaaGreatDoor.Sq Go.Proofs.YtokoadgahflafaaGreatDoor.Px Go.Proofs.YtokoadgahflafaaGreatDoor.Sf1 Go.Proofs.YtokoadgahflafaaGreatDoor.Sf2 Go.Proofs.YtokoadgahflafaaGreatDoor.Sf3 Go.Proofs.YtokoadgahflafaaGreatDoor.Sf4 Go.Proofs.YtokoadgahflafaaGreatDoor.Sf5
def QuoR (F : Fmt) : Vl → Vl → Nat → Prop
 | .num V, .num W, r => ∃ s, Nq F (V.natAbs * 2^(-F.low).toNat) W.natAbs s ∧ r = pat F (decide (V < 0) != decide (W < 0)) s
 | .nan, _, r => r = F.qt
 | _, .nan, r => r = F.qt
 | .inf _, .inf _, r => r = F.qt
 | .nou _, .nou _, r => r = F.qt
 | .inf a, w, r => r = pat F (a != sgV w) F.inf
 | v, .inf b, r => r = pat F (sgV v != b) 0
 | v, .nou b, r => r = pat F (sgV v != b) F.inf
 | .nou a, w, r => r = pat F (a != sgV w) 0
theorem div_ev {f : Int} {F : Fmt} (h : Fm f F) {a b : Nat} (ha : a < 2 * F.sg) (hb : b < 2 * F.sg) : ∃ r : Nat, QuoR F (rdB F a) (rdB F b) r ∧ Ev (fun k => soft_Div.f k f (a : Int) (b : Int)) ((r : Int), 0) := by
 obtain ⟨x, y, hx, hy, e⟩ := pair_ev h ha hb
 have hl := low_rng h
 have b1 := blV_rdB h a
 have b2 := blV_rdB h b
 have tl : ∀ {v : Vl} {o : Opd}, OdE F.low 53 v o → Ev (fun k => soft_tell.f k f o) (((tellV F 0 v : Nat) : Int), 0) := fun hr => by
  have t := tell_ev h (Int.le_refl _) hr
  rw [Int.sub_self] at t
  exact t
 unfold soft_Div.f
 generalize rdB F a = v at *
 generalize rdB F b = w at *
 cases v with
 | nan =>
  obtain rfl := hx
  refine ⟨F.qt, by cases w <;> rfl, Ev.bind e (Ev.congr (fun k => if_pos rfl) ?_)⟩
  have t : Ev (fun k => soft_tell.f k f .nan) (((F.qt : Nat) : Int), 0) := tl (v := .nan) rfl
  cases w with
  | nan => obtain rfl := hy; exact Ev.bind t (Ev.now _)
  | inf n => obtain rfl := hy; exact Ev.bind t (Ev.now _)
  | nou n => obtain rfl := hy; exact Ev.bind t (Ev.now _)
  | num W => obtain ⟨n, m, z, rfl, d, w0, bm⟩ := hy; exact Ev.bind t (Ev.now _)
 | inf s =>
  obtain rfl := hx
  cases w with
  | nan => obtain rfl := hy; exact ⟨F.qt, rfl, Ev.bind e (Ev.congr (fun k => if_pos rfl) (Ev.bind (tl (v := .nan) rfl) (Ev.now _)))⟩
  | inf n => obtain rfl := hy; exact ⟨F.qt, rfl, Ev.bind e (Ev.congr (fun k => if_pos rfl) (Ev.bind (tl (v := .nan) rfl) (Ev.now _)))⟩
  | nou n => obtain rfl := hy; exact ⟨_, rfl, Ev.bind e (Ev.congr (fun k => if_pos rfl) (Ev.bind (tl (v := .inf (s != n)) rfl) (Ev.now _)))⟩
  | num W =>
   obtain ⟨n, m, z, rfl, d, w0, bm⟩ := hy
   obtain rfl := d.neg
   exact ⟨_, rfl, Ev.bind e (Ev.congr (fun k => if_pos rfl) (Ev.bind (tl (v := .inf (s != decide (W < 0))) rfl) (Ev.now _)))⟩
 | nou s =>
  obtain rfl := hx
  cases w with
  | nan => obtain rfl := hy; exact ⟨F.qt, rfl, Ev.bind e (Ev.congr (fun k => if_pos rfl) (Ev.bind (tl (v := .nan) rfl) (Ev.now _)))⟩
  | inf n => obtain rfl := hy; exact ⟨_, rfl, Ev.bind e (Ev.congr (fun k => if_pos rfl) (Ev.bind (tl (v := .nou (s != n)) rfl) (Ev.now _)))⟩
  | nou n => obtain rfl := hy; exact ⟨F.qt, rfl, Ev.bind e (Ev.congr (fun k => if_pos rfl) (Ev.bind (tl (v := .nan) rfl) (Ev.now _)))⟩
  | num W =>
   obtain ⟨n, m, z, rfl, d, w0, bm⟩ := hy
   obtain rfl := d.neg
   exact ⟨_, rfl, Ev.bind e (Ev.congr (fun k => if_pos rfl) (Ev.bind (tl (v := .nou (s != decide (W < 0))) rfl) (Ev.now _)))⟩
 | num V =>
  obtain ⟨n, m, z, rfl, d, v0, bm⟩ := hx
  have hn := d.neg
  cases w with
  | nan => obtain rfl := hy; exact ⟨F.qt, rfl, Ev.bind e (Ev.congr (fun k => if_pos rfl) (Ev.bind (tl (v := .nan) rfl) (Ev.now _)))⟩
  | inf s => obtain rfl := hy; subst hn; exact ⟨_, rfl, Ev.bind e (Ev.congr (fun k => if_pos rfl) (Ev.bind (tl (v := .nou (decide (V < 0) != s)) rfl) (Ev.now _)))⟩
  | nou s => obtain rfl := hy; subst hn; exact ⟨_, rfl, Ev.bind e (Ev.congr (fun k => if_pos rfl) (Ev.bind (tl (v := .inf (decide (V < 0) != s)) rfl) (Ev.now _)))⟩
  | num W =>
   obtain ⟨n', m', z', rfl, d', w0, bm'⟩ := hy
   have b1 : bl V.natAbs ≤ 2101 := b1
   have b2 : bl W.natAbs ≤ 2101 := b2
   obtain ⟨s, hs, q⟩ := quot_ev h d d' v0 w0 bm bm' (by omega) (by omega) (by omega) (by omega)
   exact ⟨_, ⟨s, hs, rfl⟩, Ev.bind e (Ev.congr (fun k => if_pos rfl) (Ev.bind q (Ev.now _)))⟩
def rkB (F : Fmt) (b : Nat) : Int := rkI (decide (F.sg ≤ b)) (b % F.sg)
theorem Rank_ev {f : Int} {F : Fmt} (h : Fm f F) {b : Nat} (hb : b < 2 * F.sg) (hn : b % F.sg ≤ F.inf) : Ev (fun k => binary_Rank.f k f (b : Int)) (rkB F b, 0) := by
 have hp := pat_of hb (by have := h.sz; omega)
 have e := rank_pat h (decide (F.sg ≤ b)) hn
 rw [← hp.1] at e
 unfold binary_Rank.f
 exact Ev.bind e (Ev.now _)
theorem none_ev {E : Int} {B : Nat} {v : Vl} {o : Opd} (h : OdE E B v o) : (v = .nan ∧ soft_none.f o = some true) ∨ (v ≠ .nan ∧ soft_none.f o = some false) := by
 cases v with
 | nan => obtain rfl := h; exact .inl ⟨rfl, rfl⟩
 | inf n => obtain rfl := h; exact .inr ⟨(fun x => by cases x), rfl⟩
 | nou n => obtain rfl := h; exact .inr ⟨(fun x => by cases x), rfl⟩
 | num V => obtain ⟨n, m, z, rfl, d, v0, bm⟩ := h; exact .inr ⟨(fun x => by cases x), rfl⟩
theorem rd_nan {F : Fmt} {b : Nat} (hI : 0 < F.inf) : rdB F b = .nan ↔ F.inf < b % F.sg := by
 unfold rdB rdV
 constructor
 ·intro e
  refine Nat.lt_of_not_le fun c => ?_
  split at e
  ·cases e
  ·split at e
   ·cases e
   ·rw [if_pos (by omega)] at e; cases e
 ·intro c
  rw [if_neg (by omega), if_neg (by omega), if_neg (by omega)]
def cmpB (F : Fmt) (a b : Nat) : Int := if F.inf < a % F.sg ∨ F.inf < b % F.sg then 2 else cmZ (rkB F a) (rkB F b)
theorem compare_ev {f : Int} {F : Fmt} (h : Fm f F) {a b : Nat} (ha : a < 2 * F.sg) (hb : b < 2 * F.sg) : Ev (fun k => soft_Compare.f k f (a : Int) (b : Int)) (cmpB F a b, 0) := by
 obtain ⟨x, y, hx, hy, e⟩ := pair_ev h ha hb
 have hI := h.sz.1
 unfold soft_Compare.f cmpB
 refine Ev.bind e (Ev.congr (fun k => if_pos rfl) ?_)
 rcases none_ev hx with ⟨c1, c2⟩ | ⟨c1, c2⟩
 ·rw [if_pos (.inl ((rd_nan hI).1 c1))]
  exact Ev.bind (ev_eq c2) (Ev.congr (fun k => if_pos rfl) (Ev.now _))
 refine Ev.bind (ev_eq c2) (Ev.congr (fun k => if_neg (by decide)) ?_)
 rcases none_ev hy with ⟨d1, d2⟩ | ⟨d1, d2⟩
 ·rw [if_pos (.inr ((rd_nan hI).1 d1))]
  exact Ev.bind (ev_eq d2) (Ev.congr (fun k => if_pos rfl) (Ev.now _))
 refine Ev.bind (ev_eq d2) (Ev.congr (fun k => if_neg (by decide)) ?_)
 have n1 : ¬ F.inf < a % F.sg := fun q => c1 ((rd_nan hI).2 q)
 have n2 : ¬ F.inf < b % F.sg := fun q => d1 ((rd_nan hI).2 q)
 rw [if_neg (fun q => q.elim n1 n2)]
 refine Ev.bind (Rank_ev h ha (by omega)) (Ev.bind (Rank_ev h hb (by omega)) ?_)
 unfold cmZ
 dsimp only
 by_cases k1 : rkB F a < rkB F b
 ·rw [if_pos k1, if_pos k1]; exact Ev.now _
 ·rw [if_neg k1, if_neg k1]
  by_cases k2 : rkB F b < rkB F a
  ·rw [if_pos k2, if_pos k2]; exact Ev.now _
  ·rw [if_neg k2, if_neg k2]; exact Ev.now _
end Go.Proofs.YtokoadgahflafaaGreatDoor.Sf6
