/- What Add, Mul, Div and Fma answer is as near to the exact result as any neighbour: the plain law of SoftNearest. Plain Lean over the functions. Condition: words. -/
import Derived.Test.YtokoadgahflafaaGreatDoorKSoftNearestSfz
import Derived.Test.YtokoadgahflafaaGreatDoorKSoftNearestPxZ1
import Derived.Test.YtokoadgahflafaaGreatDoorKSoftNearestPRefx3
import Derived.Test.YtokoadgahflafaaGreatDoorKSoftNearestPxZ0
set_option linter.unusedVariables false
namespace Go.Proofs.YtokoadgahflafaaGreatDoor.SoftNearestL
open Go.RowKit Go.Proofs.YtokoadgahflafaaGreatDoorW.PrintWords Go.Proofs.YtokoadgahflafaaGreatDoorW.PrintMore Go.Proofs.YtokoadgahflafaaGreatDoor.Num Go.Proofs.YtokoadgahflafaaGreatDoor.PLib Go.Proofs.YtokoadgahflafaaGreatDoor.Ref Go.Proofs.YtokoadgahflafaaGreatDoor.GTh Go.Proofs.YtokoadgahflafaaGreatDoor.Given Go.Proofs.YtokoadgahflafaaGreatDoor.Rp1 Go.Proofs.YtokoadgahflafaaGreatDoor.Rp3 Go.Proofs.YtokoadgahflafaaGreatDoor.Rp5 Go.Proofs.YtokoadgahflafaaGreatDoor.Rp7 Go.Proofs.YtokoadgahflafaaGreatDoor.BinLaw Go.Proofs.YtokoadgahflafaaGreatDoor.Fm8 Go.Proofs.YtokoadgahflafaaGreatDoor.Rnd Go.Proofs.YtokoadgahflafaaGreatDoor.Sq Go.Proofs.YtokoadgahflafaaGreatDoor.Px Go.Proofs.YtokoadgahflafaaGreatDoor.Sf1 Go.Proofs.YtokoadgahflafaaGreatDoor.Sf2 Go.Proofs.YtokoadgahflafaaGreatDoor.Sf3 Go.Proofs.YtokoadgahflafaaGreatDoor.Sf6 Go.Proofs.YtokoadgahflafaaGreatDoor.SoftRootOfSquareL Go.Proofs.YtokoadgahflafaaGreatDoor.SoftOrdersL Go.Proofs.YtokoadgahflafaaGreatDoor.Sfz
def OkR (F : Fmt) (V : Int) (D r : Nat) : Prop := (V = 0 ∧ r % F.sg = 0) ∨ (V ≠ 0 ∧ ∃ s, Nq F V.natAbs D s ∧ r = pat F (decide (V < 0)) s)
theorem ok_tell {f : Int} {F : Fmt} (h : Fm f F) {g : Nat} {v : Vl} (hv : finV v) : OkR F (valV v) (2^g) (tellV F g v) := by
 have hz := h.sz
 cases v with
 | nan => exact hv.elim
 | inf n => exact hv.elim
 | nou n => exact .inl ⟨rfl, pat_mod F n (by omega)⟩
 | num V =>
  have hv : V ≠ 0 := hv
  refine .inr ⟨hv, rsz F g V.natAbs, nq_of_nst (rsz_nst h g _), ?_⟩
  show Rp4.pv F g V = pat F (decide (V < 0)) (rsz F g V.natAbs)
  unfold Rp4.pv
  rw [if_neg hv]
theorem stage {f : Int} {F : Fmt} (h : Fm f F) (G Q : Int) {V : Int} {D r : Nat} (hV : bl V.natAbs ≤ 10000) (hD : bl D ≤ 10000) (ok : OkR F V D r) {N : Nat → Option Bool} (hN : Ev N true) {α : Type} (c : α) :
  Ev (fun k => (gnomonref04_Sign.f (zn V) (zl V)).bind fun t14 => (if t14 = 0 then ((gnomonref04_Sign.f (zn V) (zl V)).bind fun t15 => (if t15 = 0 then (if ((F.sg : Nat) : Int) = 0 then (none) else (if (Int.tmod (r : Int) ((F.sg : Nat) : Int)) = 0 then N k else (some false))) else N k))
   else ((gnomonlaw09_nearest.f k ((F.sg : Nat) : Int) ((F.man : Nat) : Int) F.low G ((F.inf : Nat) : Int) Q (r : Int) (zn V) (zl V) (zn (D : Int)) (zl (D : Int))).bind fun t340 => (if t340 = true then ((gnomonref04_Sign.f (zn V) (zl V)).bind fun t341 => (if t341 = 0 then (if ((F.sg : Nat) : Int) = 0 then (none) else (if (Int.tmod (r : Int) ((F.sg : Nat) : Int)) = 0 then N k else (some false))) else N k)) else (some false))))) true := by
 have hz := h.sz
 have sg := ev_eq (zsign V)
 rcases ok with ⟨v0, hr⟩ | ⟨v0, s, hs, hr⟩
 ·have e : Ref.sgn V = 0 := by unfold Ref.sgn; rw [if_pos v0]
  rw [e] at sg
  refine Ev.bind sg (Ev.congr (fun k => if_pos rfl) (Ev.bind sg (Ev.congr (fun k => if_pos rfl) (Ev.congr (fun k => if_neg (by omega)) (Ev.congr (fun k => if_pos ?_) hN)))))
  rw [show Int.tmod (r : Int) ((F.sg : Nat) : Int) = ((r % F.sg : Nat) : Int) from (Int.ofNat_tmod _ _).symm, hr]; rfl
 ·have e : Ref.sgn V ≠ 0 := by unfold Ref.sgn; rw [if_neg v0]; split <;> decide
  have n := near_any h G Q v0 hV hD hs
  rw [← hr] at n
  exact Ev.bind sg (Ev.congr (fun k => if_neg e) (Ev.bind n (Ev.congr (fun k => if_pos rfl) (Ev.bind sg (Ev.congr (fun k => if_neg e) hN)))))
theorem uz_val {f : Int} {F : Fmt} (h : Fm f F) {b : Nat} (hb : b % F.sg < F.inf) : valV (rdB F b) = uz F b := (fin_rd h hb).2
theorem fin_lift {v : Vl} (g : Nat) (hv : finV v) : finV (liftV g v) ∧ valV (liftV g v) = valV v * ((2^g : Nat) : Int) := by
 cases v with
 | nan => exact hv.elim
 | inf n => exact hv.elim
 | nou n => exact ⟨trivial, (Int.zero_mul _).symm⟩
 | num V => exact ⟨Int.mul_ne_zero hv (by have := Nat.two_pow_pos g; omega), rfl⟩
theorem zpow (V : Int) (g : Nat) : V * 2^g = V * ((2^g : Nat) : Int) := by push_cast; rfl
theorem law_ev (sb : Bool) (a0 b0 c0 : Nat) (ha0 : a0 < 18446744073709551616) (hb0 : b0 < 18446744073709551616) (hc0 : c0 < 18446744073709551616) : Ev (fun k => gnomonlaw09_SoftNearest.f k sb (a0 : Int) (b0 : Int) (c0 : Int)) true := by
 obtain ⟨f, F, G, Q, h, K⟩ : ∃ f F G Q, Fm f F ∧ gnomonlaw09_form.f sb = some (f, ((F.sg : Nat) : Int), ((F.man : Nat) : Int), F.low, G, ((F.inf : Nat) : Int), Q) := by
  cases sb
  ·exact ⟨64, fD, 971, 9221120237041090561, .inr ⟨rfl, rfl⟩, by kernel_rfl⟩
  ·exact ⟨32, fS, 104, 2143289345, .inl ⟨rfl, rfl⟩, by kernel_rfl⟩
 have hz := h.sz
 have hl := low_rng h
 unfold gnomonlaw09_SoftNearest.f
 refine Ev.bind awake_ev (Ev.congr (fun k => if_pos rfl) (Ev.bind (ev_eq K) (Ev.bind (ev_eq (sizes_f h _ F.low G Q a0 ha0)) (Ev.bind (ev_eq (sizes_f h _ F.low G Q b0 hb0)) (Ev.bind (ev_eq (sizes_f h _ F.low G Q c0 hc0)) ?_)))))
 obtain ⟨a, hA⟩ : ∃ a, a = a0 % (2 * F.sg) := ⟨_, rfl⟩
 obtain ⟨b, hB⟩ : ∃ b, b = b0 % (2 * F.sg) := ⟨_, rfl⟩
 obtain ⟨c, hC⟩ : ∃ c, c = c0 % (2 * F.sg) := ⟨_, rfl⟩
 have ha : a < 2 * F.sg := by rw [hA]; exact Nat.mod_lt _ (by omega)
 have hb : b < 2 * F.sg := by rw [hB]; exact Nat.mod_lt _ (by omega)
 have hc : c < 2 * F.sg := by rw [hC]; exact Nat.mod_lt _ (by omega)
 rw [← hA, ← hB, ← hC]
 dsimp only
 by_cases fa : a % F.sg < F.inf
 rotate_left
 ·rw [decide_eq_false fa]
  exact Ev.congr (fun k => if_neg (by decide)) (Ev.now _)
 rw [decide_eq_true fa]
 refine Ev.congr (fun k => if_pos rfl) ?_
 by_cases fb : b % F.sg < F.inf
 rotate_left
 ·rw [decide_eq_false fb]
  exact Ev.congr (fun k => if_neg (by decide)) (Ev.now _)
 rw [decide_eq_true fb]
 refine Ev.congr (fun k => if_pos rfl) ?_
 by_cases fc : c % F.sg < F.inf
 rotate_left
 ·rw [decide_eq_false fc]
  exact Ev.congr (fun k => if_neg (by decide)) (Ev.now _)
 rw [decide_eq_true fc]
 refine Ev.congr (fun k => if_pos rfl) ?_
 have va := fin_rd h fa
 have vb := fin_rd h fb
 have vc := fin_rd h fc
 obtain ⟨X, hX⟩ : ∃ X, X = uz F a := ⟨_, rfl⟩
 obtain ⟨Y, hY⟩ : ∃ Y, Y = uz F b := ⟨_, rfl⟩
 obtain ⟨W, hW⟩ : ∃ W, W = uz F c := ⟨_, rfl⟩
 obtain ⟨g, hg⟩ : ∃ g, g = (-F.low).toNat := ⟨_, rfl⟩
 have bX : bl X.natAbs ≤ 2101 := by rw [hX]; exact uz_bl h a
 have bY : bl Y.natAbs ≤ 2101 := by rw [hY]; exact uz_bl h b
 have bW : bl W.natAbs ≤ 2101 := by rw [hW]; exact uz_bl h c
 have nX : valV (rdB F a) = X := by rw [hX]; exact uz_val h fa
 have nY : valV (rdB F b) = Y := by rw [hY]; exact uz_val h fb
 have nW : valV (rdB F c) = W := by rw [hW]; exact uz_val h fc
 have uX := units_any h G Q ha
 have uY := units_any h G Q hb
 have uW := units_any h G Q hc
 rw [← hX] at uX
 rw [← hY] at uY
 rw [← hW] at uW
 have zX : Zs X := Zs_bl (by omega)
 have zY : Zs Y := Zs_bl (by omega)
 have zW : Zs W := Zs_bl (by omega)
 have o1 := zof_ev 1 (by decide) (by decide)
 have wg : wrap64 (-F.low) = ((g : Nat) : Int) := by rw [w64 (by omega) (by omega)]; omega
 have bg : bl (2^g) ≤ 1075 := Nat.le_trans (bl_le_of_lt (k := g + 1) (Nat.pow_lt_pow_right (by decide) (by omega))) (by omega)
 have p2 := pow2_ev g (by omega)
 have mk1 : Ev (fun k => gnomonref04_Mk.f k false (dg (2^g))) (zn ((2^g : Nat) : Int), zl ((2^g : Nat) : Int)) := zmk_ev false (2^g) (by have := dg_len_bits (n := 2^g) (k := g + 1) (Nat.pow_lt_pow_right (by decide) (by omega)) (by omega); omega) _ (Int.natAbs_natCast _) (fun _ => (decide_eq_false (Int.not_lt.2 (Int.natCast_nonneg _))).symm)
 have pl := fin_plus va.1 vb.1
 have ok1 := ok_tell h (g := 0) pl.1
 rw [pl.2, nX, nY, Nat.pow_zero] at ok1
 have bS : bl (X + Y).natAbs ≤ 2102 := Nat.le_trans (bl_mono (show (X + Y).natAbs ≤ X.natAbs + Y.natAbs by omega)) (bl_add bX bY)
 have e1 := zadd_ev X Y zX zY (Zs_bl (by omega))
 have tm := fin_times va.1 vb.1
 have ok2 := ok_tell h (g := g) tm.1
 rw [tm.2, nX, nY] at ok2
 have bP : bl (X * Y).natAbs ≤ 4202 := by rw [Int.natAbs_mul]; exact bl_mul2 bX bY
 have e2 := zmul_ev X Y zX zY (Zs_bl (by omega))
 have lf := fin_lift g vc.1
 have pf := fin_plus tm.1 lf.1
 have ok3 := ok_tell h (g := g) pf.1
 rw [pf.2, tm.2, lf.2, nX, nY, nW] at ok3
 have bL : bl (W * ((2^g : Nat) : Int)).natAbs ≤ 4101 := by rw [Int.natAbs_mul, Int.natAbs_natCast]; exact Nat.le_trans (bl_mul2 bW bg) (by decide)
 have bF : bl (X * Y + W * ((2^g : Nat) : Int)).natAbs ≤ 4203 := Nat.le_trans (bl_mono (show _ ≤ (X * Y).natAbs + (W * ((2^g : Nat) : Int)).natAbs by omega)) (bl_add bP (by omega))
 have e3 := zshl_ev W g zW (by omega) (by rw [zpow]; exact Zs_bl (by omega))
 rw [zpow] at e3
 have e4 := zadd_ev (X * Y) (W * ((2^g : Nat) : Int)) (Zs_bl (by omega)) (Zs_bl (by omega)) (Zs_bl (by omega))
 have bXg : bl (X * ((2^g : Nat) : Int)).natAbs ≤ 4101 := by rw [Int.natAbs_mul, Int.natAbs_natCast]; exact Nat.le_trans (bl_mul2 bX bg) (by decide)
 have e5 := zshl_ev X g zX (by omega) (by rw [zpow]; exact Zs_bl (by omega))
 rw [zpow] at e5
 have j2 : Ev (fun k => gnomonlaw09_SoftNearest.j2 k (a : Int) (b : Int) (c : Int) f ((F.sg : Nat) : Int) ((F.man : Nat) : Int) F.low G ((F.inf : Nat) : Int) Q (zn X) (zl X) (zn Y) (zl Y) (zn W) (zl W) (zn ((2^g : Nat) : Int)) (zl ((2^g : Nat) : Int))) true := by
  refine Ev.succ ?_
  simp only [gnomonlaw09_SoftNearest.j2, wg]
  refine Ev.bind (ev_eq (zsign X)) ?_
  by_cases x0 : X = 0
  ·exact Ev.congr (fun k => if_pos (by unfold Ref.sgn; rw [if_pos x0])) (Ev.now _)
  refine Ev.congr (fun k => if_neg (by unfold Ref.sgn; rw [if_neg x0]; split <;> decide)) (Ev.bind (ev_eq (zsign Y)) ?_)
  by_cases y0 : Y = 0
  ·exact Ev.congr (fun k => if_pos (by unfold Ref.sgn; rw [if_pos y0])) (Ev.now _)
  refine Ev.congr (fun k => if_neg (by unfold Ref.sgn; rw [if_neg y0]; split <;> decide)) ?_
  obtain ⟨r, hr, ed⟩ := div_ev h ha hb
  have rx : rdB F a = .num X := by
   rw [← nX]
   have q := va.1
   have q2 := nX
   generalize rdB F a = v at *
   cases v with
   | nan => exact q.elim
   | inf n => exact q.elim
   | nou n => exact absurd q2.symm x0
   | num V => rfl
  have ry : rdB F b = .num Y := by
   rw [← nY]
   have q := vb.1
   have q2 := nY
   generalize rdB F b = v at *
   cases v with
   | nan => exact q.elim
   | inf n => exact q.elim
   | nou n => exact absurd q2.symm y0
   | num V => rfl
  rw [rx, ry] at hr
  obtain ⟨s, hs, er⟩ := hr
  rw [← hg] at hs
  have p := Nat.two_pow_pos g
  have hsgn : ∀ V : Int, V ≠ 0 → V.natAbs = X.natAbs * 2^g → (decide (V < 0) = (decide (X < 0) != decide (Y < 0))) → Ev (fun k => gnomonlaw09_nearest.f k ((F.sg : Nat) : Int) ((F.man : Nat) : Int) F.low G ((F.inf : Nat) : Int) Q (r : Int) (zn V) (zl V) (zn ((Y.natAbs : Nat) : Int)) (zl ((Y.natAbs : Nat) : Int))) true := by
   intro V v0 hV hd
   have n := near_any h G Q (V := V) (D := Y.natAbs) (s := s) v0 (by rw [hV]; exact Nat.le_trans (bl_mul2 bX bg) (by decide)) (by omega) (by rw [hV]; exact hs)
   rw [hd, ← er] at n
   exact n
  have nXg : (X * ((2^g : Nat) : Int)).natAbs = X.natAbs * 2^g := by rw [Int.natAbs_mul, Int.natAbs_natCast]
  have xg0 : X * ((2^g : Nat) : Int) ≠ 0 := Int.mul_ne_zero x0 (by omega)
  have xs : X * ((2^g : Nat) : Int) < 0 ↔ X < 0 := by rw [← zpow]; exact (Fl.pos_of_mul (a := X) (k := g)).1
  refine Ev.bind ed (Ev.bind e5 ?_)
  by_cases y1 : Y < 0
  ·refine Ev.congr (fun k => if_pos (show zn Y = true from decide_eq_true y1)) ?_
   have f1 := zflip_ev (X * ((2^g : Nat) : Int)) (Zs_bl (by omega))
   have f2 := zflip_ev Y zY
   refine Ev.bind f1 (Ev.bind f2 (Ev.congr (fun k => if_pos rfl) ?_))
   have q := hsgn (-(X * ((2^g : Nat) : Int))) (by omega) (by rw [Int.natAbs_neg]; exact nXg) (by
    rw [decide_eq_true y1]
    by_cases x1 : X < 0
    ·rw [decide_eq_true x1, decide_eq_false (by have := xs.2 x1; omega)]; rfl
    ·rw [decide_eq_false x1, decide_eq_true (by have := fun q => x1 (xs.1 q); omega)]; rfl)
   rw [show ((Y.natAbs : Nat) : Int) = -Y by omega] at q
   exact Ev.bind q (Ev.now _)
  ·refine Ev.congr (fun k => if_neg (by rw [show zn Y = false from decide_eq_false y1]; decide)) (Ev.congr (fun k => if_pos rfl) ?_)
   have q := hsgn (X * ((2^g : Nat) : Int)) xg0 nXg (by
    rw [decide_eq_false y1]
    by_cases x1 : X < 0
    ·rw [decide_eq_true x1, decide_eq_true (xs.2 x1)]; rfl
    ·rw [decide_eq_false x1, decide_eq_false (fun q => x1 (xs.1 q))]; rfl)
   rw [show ((Y.natAbs : Nat) : Int) = Y by omega] at q
   exact Ev.bind q (Ev.now _)
 have j1 : Ev (fun k => gnomonlaw09_SoftNearest.j1 k (a : Int) (b : Int) (c : Int) f ((F.sg : Nat) : Int) ((F.man : Nat) : Int) F.low G ((F.inf : Nat) : Int) Q (zn X) (zl X) (zn Y) (zl Y) (zn W) (zl W) (zn ((2^g : Nat) : Int)) (zl ((2^g : Nat) : Int)) (zn (X * Y)) (zl (X * Y))) true := by
  refine Ev.succ ?_
  simp only [gnomonlaw09_SoftNearest.j1, wg]
  have fm := fma_ev h ha hb hc
  rw [← hg] at fm
  exact Ev.bind fm (Ev.bind e3 (Ev.bind e4 (Ev.congr (fun k => if_pos rfl) (stage h G Q (by omega) (by omega) ok3 j2 ()))))
 have j0 : Ev (fun k => gnomonlaw09_SoftNearest.j0 k (a : Int) (b : Int) (c : Int) f ((F.sg : Nat) : Int) ((F.man : Nat) : Int) F.low G ((F.inf : Nat) : Int) Q (zn X) (zl X) (zn Y) (zl Y) (zn W) (zl W) (zn ((2^g : Nat) : Int)) (zl ((2^g : Nat) : Int))) true := by
  refine Ev.succ ?_
  simp only [gnomonlaw09_SoftNearest.j0]
  have mu := mul_ev h ha hb
  rw [← hg] at mu
  exact Ev.bind mu (Ev.bind e2 (Ev.congr (fun k => if_pos rfl) (stage h G Q (by omega) (by omega) ok2 j1 ())))
 refine Ev.bind uX (Ev.bind uY (Ev.bind uW (Ev.bind o1 ?_)))
 dsimp only
 rw [wg]
 refine Ev.bind p2 (Ev.bind mk1 (Ev.bind (add_ev h ha hb) (Ev.bind e1 (Ev.congr (fun k => if_pos rfl) ?_))))
 exact stage h G Q (D := 1) (by omega) (by decide) ok1 j0 ()
theorem law_row (a0 : Bool) (a1 a2 a3 : Int) (w1 : (Lit.int .u64 a1).wf = true) (w2 : (Lit.int .u64 a2).wf = true) (w3 : (Lit.int .u64 a3).wf = true) : Ev (fun k => gnomonlaw09_SoftNearest.f k a0 a1 a2 a3) true := by
 have e1 : IntKind.u64.min = 0 := rfl
 have e2 : IntKind.u64.max = 18446744073709551615 := rfl
 have h1 : IntKind.u64.min ≤ a1 ∧ a1 ≤ IntKind.u64.max := by simpa [Lit.wf] using w1
 have h2 : IntKind.u64.min ≤ a2 ∧ a2 ≤ IntKind.u64.max := by simpa [Lit.wf] using w2
 have h3 : IntKind.u64.min ≤ a3 ∧ a3 ≤ IntKind.u64.max := by simpa [Lit.wf] using w3
 obtain ⟨a, rfl⟩ : ∃ a : Nat, a1 = (a : Int) := ⟨a1.toNat, by omega⟩
 obtain ⟨b, rfl⟩ : ∃ b : Nat, a2 = (b : Int) := ⟨a2.toNat, by omega⟩
 obtain ⟨c, rfl⟩ : ∃ c : Nat, a3 = (c : Int) := ⟨a3.toNat, by omega⟩
 exact law_ev a0 a b c (by omega) (by omega) (by omega)
end Go.Proofs.YtokoadgahflafaaGreatDoor.SoftNearestL
