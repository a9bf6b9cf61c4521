/- The difference of two numbers within a factor of two is exact: the plain law of SoftSterbenz. Plain Lean over the functions. Condition: words. -/
import Derived.Test.YtokoadgahflafaaGreatDoorKSoftSterbenzRep
import Derived.Test.YtokoadgahflafaaGreatDoorKSoftSterbenzPxZ2
set_option linter.unusedVariables false
namespace Go.Proofs.YtokoadgahflafaaGreatDoor.SoftSterbenzL
open Go.RowKit Go.Proofs.YtokoadgahflafaaGreatDoorW.PrintWords Go.Proofs.YtokoadgahflafaaGreatDoorW.PrintMore Go.Proofs.YtokoadgahflafaaGreatDoor.Num Go.Proofs.YtokoadgahflafaaGreatDoor.PLib Go.Proofs.YtokoadgahflafaaGreatDoor.Ref Go.Proofs.YtokoadgahflafaaGreatDoor.GTh Go.Proofs.YtokoadgahflafaaGreatDoor.Given Go.Proofs.YtokoadgahflafaaGreatDoor.Rp1 Go.Proofs.YtokoadgahflafaaGreatDoor.Rp3 Go.Proofs.YtokoadgahflafaaGreatDoor.Rp5 Go.Proofs.YtokoadgahflafaaGreatDoor.Rp7 Go.Proofs.YtokoadgahflafaaGreatDoor.BinLaw Go.Proofs.YtokoadgahflafaaGreatDoor.Fm8 Go.Proofs.YtokoadgahflafaaGreatDoor.Rnd Go.Proofs.YtokoadgahflafaaGreatDoor.Px Go.Proofs.YtokoadgahflafaaGreatDoor.Sf1 Go.Proofs.YtokoadgahflafaaGreatDoor.Sf2 Go.Proofs.YtokoadgahflafaaGreatDoor.Sf6 Go.Proofs.YtokoadgahflafaaGreatDoor.SoftRootOfSquareL Go.Proofs.YtokoadgahflafaaGreatDoor.SoftOrdersL Go.Proofs.YtokoadgahflafaaGreatDoor.Sfz
theorem form_n (sb : Bool) : ∃ f F G Q, Fm f F ∧ gnomonlaw09_form.f sb = some (f, ((F.sg : Nat) : Int), ((F.man : Nat) : Int), F.low, G, ((F.inf : Nat) : Int), Q) := by
 cases sb
 ·exact ⟨64, fD, 971, 9221120237041090561, .inr ⟨rfl, rfl⟩, by kernel_rfl⟩
 ·exact ⟨32, fS, 104, 2143289345, .inl ⟨rfl, rfl⟩, by kernel_rfl⟩
theorem tell_rep {f : Int} {F : Fmt} (h : Fm f F) {v : Vl} {u : Nat} (hv : finV v) (hu : u < F.inf) (e : nF F u = (valV v).natAbs) : tellV F 0 v < 2 * F.sg ∧ tellV F 0 v % F.sg < F.inf ∧ uz F (tellV F 0 v) = valV v := by
 have hz := h.sz
 cases v with
 | nan => exact hv.elim
 | inf n => exact hv.elim
 | nou n =>
  show pat F n 0 < _ ∧ pat F n 0 % F.sg < F.inf ∧ uz F (pat F n 0) = 0
  rw [pat_mod F n (by omega), uz_pat h n (by omega), nF_zero, sv_zero]
  exact ⟨pat_lt F n (by omega), by omega, rfl⟩
 | num V =>
  have hv : V ≠ 0 := hv
  have e : nF F u = V.natAbs := e
  have r := rsz_self h (g := 0) (show u ≤ F.inf by omega)
  rw [Nat.pow_zero, Nat.mul_one, e] at r
  show Rp4.pv F 0 V < _ ∧ Rp4.pv F 0 V % F.sg < F.inf ∧ uz F (Rp4.pv F 0 V) = V
  unfold Rp4.pv
  rw [if_neg hv, r, pat_mod F _ (by omega), uz_pat h _ (by omega), e]
  refine ⟨pat_lt F _ (by omega), hu, ?_⟩
  by_cases c : V < 0
  ·rw [decide_eq_true c]; show -((V.natAbs : Nat) : Int) = V; omega
  ·rw [decide_eq_false c]; show ((V.natAbs : Nat) : Int) = V; omega
theorem dbl_ev {x : Nat} (hx : bl x ≤ 90000) : Ev (fun k => gnomonref04_Shl.f k (zn (x : Int)) (zl (x : Int)) 1) (zn ((2 * x : Nat) : Int), zl ((2 * x : Nat) : Int)) := by
 have e2 : ((x : Nat) : Int) * 2^1 = ((2 * x : Nat) : Int) := by omega
 have b := bl_dbl hx
 have s2 := zshl_ev ((x : Nat) : Int) 1 (Zs_bl (by rw [Int.natAbs_natCast]; omega)) (by decide) (by rw [e2]; exact Zs_bl (by rw [Int.natAbs_natCast]; omega))
 rw [e2] at s2
 exact s2
theorem cmpN_ev {x y : Nat} (hx : bl x ≤ 90000) (hy : bl y ≤ 90000) : Ev (fun k => gnomonref04_Cmp.f k (zn (x : Int)) (zl (x : Int)) (zn (y : Int)) (zl (y : Int))) (Ref.sgn ((x : Int) - (y : Int))) := by
 refine zcmp_ev _ _ (Zs_bl (by rw [Int.natAbs_natCast]; omega)) (Zs_bl (by rw [Int.natAbs_natCast]; omega)) (Zs_bl ?_)
 exact Nat.le_trans (bl_mono (show ((x : Int) - (y : Int)).natAbs ≤ x + y by omega)) (Nat.le_trans (bl_add hx hy) (by decide))
theorem softSterbenz_lev (sb : Bool) (a0 b0 : Nat) (ha0 : a0 < 18446744073709551616) (hb0 : b0 < 18446744073709551616) : Ev (fun k => gnomonlaw09_SoftSterbenz.f k sb (a0 : Int) (b0 : Int)) true := by
 obtain ⟨f, F, G, Q, h, K⟩ := form_n sb
 have hz := h.sz
 have hl := low_rng h
 unfold gnomonlaw09_SoftSterbenz.f
 refine Ev.bind awake_ev (Ev.congr (fun k => if_pos rfl) (Ev.bind (ev_eq K) (Ev.bind (ev_eq (sizes_f h _ F.low G Q a0 ha0)) (Ev.bind (ev_eq (sizes_f h _ F.low G Q b0 hb0)) ?_))))
 obtain ⟨a, hA⟩ : ∃ a, a = a0 % (2 * F.sg) := ⟨_, rfl⟩
 obtain ⟨b, hB⟩ : ∃ b, b = b0 % (2 * F.sg) := ⟨_, rfl⟩
 have ha : a < 2 * F.sg := by rw [hA]; exact Nat.mod_lt _ (by omega)
 have hb : b < 2 * F.sg := by rw [hB]; exact Nat.mod_lt _ (by omega)
 rw [← hA, ← hB]
 dsimp only
 obtain ⟨s, hs⟩ : ∃ s, s = a % F.sg := ⟨_, rfl⟩
 obtain ⟨t, ht⟩ : ∃ t, t = b % F.sg := ⟨_, rfl⟩
 have sl : s < F.sg := by rw [hs]; exact Nat.mod_lt _ (by omega)
 have tl : t < F.sg := by rw [ht]; exact Nat.mod_lt _ (by omega)
 have us := units_any h G Q (show s < 2 * F.sg by omega)
 have ut := units_any h G Q (show t < 2 * F.sg by omega)
 rw [uz_size h sl] at us
 rw [uz_size h tl] at ut
 have bs := bl_nF h sl
 have bt := bl_nF h tl
 have aas := abs_any (z := ((nF F s : Nat) : Int)) (Zs_bl (by rw [Int.natAbs_natCast]; omega))
 have at_ := abs_any (z := ((nF F t : Nat) : Int)) (Zs_bl (by rw [Int.natAbs_natCast]; omega))
 rw [Int.natAbs_natCast] at aas at_
 refine Ev.congr (fun k => if_neg (by omega)) ?_
 rw [show Int.tmod (a : Int) ((F.sg : Nat) : Int) = ((a % F.sg : Nat) : Int) from (Int.ofNat_tmod _ _).symm, show Int.tmod (b : Int) ((F.sg : Nat) : Int) = ((b % F.sg : Nat) : Int) from (Int.ofNat_tmod _ _).symm, ← hs, ← ht]
 refine Ev.bind us (Ev.bind aas (Ev.bind ut (Ev.bind at_ ?_)))
 by_cases fa : s < F.inf
 rotate_left
 ·rw [decide_eq_false fa]
  exact Ev.congr (fun k => if_neg (by decide)) (Ev.now _)
 rw [decide_eq_true fa]
 refine Ev.congr (fun k => if_pos rfl) ?_
 by_cases fb : t < F.inf
 rotate_left
 ·rw [decide_eq_false fb]
  exact Ev.congr (fun k => if_neg (by decide)) (Ev.now _)
 rw [decide_eq_true fb]
 refine Ev.congr (fun k => if_pos rfl) ?_
 by_cases sg : decide ((a : Int) ≥ ((F.sg : Nat) : Int)) = decide ((b : Int) ≥ ((F.sg : Nat) : Int))
 rotate_left
 ·exact Ev.congr (fun k => if_neg sg) (Ev.now _)
 refine Ev.congr (fun k => if_pos sg) (Ev.bind (dbl_ev (x := nF F t) (by omega)) (Ev.bind (cmpN_ev (x := nF F s) (y := 2 * nF F t) (by omega) (by have := bl_dbl bt; omega)) ?_))
 by_cases c1 : nF F s ≤ 2 * nF F t
 rotate_left
 ·exact Ev.congr (fun k => if_pos (by unfold Ref.sgn; rw [if_neg (by omega), if_neg (by omega)]; decide)) (Ev.now _)
 refine Ev.congr (fun k => if_neg (by unfold Ref.sgn; split <;> (try split) <;> omega)) ?_
 refine Ev.bind (dbl_ev (x := nF F s) (by omega)) (Ev.bind (cmpN_ev (x := nF F t) (y := 2 * nF F s) (by omega) (by have := bl_dbl bs; omega)) ?_)
 by_cases c2 : nF F t ≤ 2 * nF F s
 rotate_left
 ·exact Ev.congr (fun k => if_pos (by unfold Ref.sgn; rw [if_neg (by omega), if_neg (by omega)]; decide)) (Ev.now _)
 refine Ev.congr (fun k => if_neg (by unfold Ref.sgn; split <;> (try split) <;> omega)) ?_
 have va := fin_rd h (b := a) (by omega)
 have vb := fin_rd h (b := b) (by omega)
 rw [← hs] at va
 rw [← ht] at vb
 have sg2 : decide (F.sg ≤ a) = decide (F.sg ≤ b) := by
  have k1 : decide ((a : Int) ≥ ((F.sg : Nat) : Int)) = decide (F.sg ≤ a) := decide_eq_decide.2 ⟨fun q => by omega, fun q => by omega⟩
  have k2 : decide ((b : Int) ≥ ((F.sg : Nat) : Int)) = decide (F.sg ≤ b) := decide_eq_decide.2 ⟨fun q => by omega, fun q => by omega⟩
  rw [← k1, ← k2]; exact sg
 have tu := fin_turn vb.1
 have pl := fin_plus va.1 tu.1
 obtain ⟨X, hX⟩ : ∃ X, X = uz F a := ⟨_, rfl⟩
 obtain ⟨Y, hY⟩ : ∃ Y, Y = uz F b := ⟨_, rfl⟩
 have eX : X = sv (decide (F.sg ≤ a)) (nF F s) := by rw [hX, hs]; rfl
 have eY : Y = sv (decide (F.sg ≤ a)) (nF F t) := by rw [hY, ht, sg2]; rfl
 have eV : valV (plusV (rdB F a) (turnV (rdB F b))) = X - Y := by rw [pl.2, tu.2, va.2, vb.2, eX, eY, sg2]; omega
 have ab : (X - Y).natAbs = (nF F s - nF F t) + (nF F t - nF F s) := by
  rw [eX, eY]
  generalize nF F s = x at *
  generalize nF F t = y at *
  cases decide (F.sg ≤ a)
  ·show ((x : Int) - (y : Int)).natAbs = (x - y) + (y - x); omega
  ·show (-(x : Int) - -(y : Int)).natAbs = (x - y) + (y - x); omega
 obtain ⟨u, u1, u2⟩ : ∃ u, u < F.inf ∧ nF F u = (X - Y).natAbs := by
  rcases Nat.le_total t s with q | q
  ·obtain ⟨u, k1, k2⟩ := Rep.sterbenz h c1 q
   have := nF_le h q
   exact ⟨u, by omega, by rw [k2]; omega⟩
  ·obtain ⟨u, k1, k2⟩ := Rep.sterbenz h c2 q
   have := nF_le h q
   exact ⟨u, by omega, by rw [k2]; omega⟩
 obtain ⟨r1, r2, r3⟩ := tell_rep h pl.1 u1 (by rw [eV]; exact u2)
 rw [eV] at r3
 refine Ev.bind (sub_ev h ha hb) (Ev.congr (fun k => if_pos rfl) ?_)
 dsimp only
 generalize tellV F 0 (plusV (rdB F a) (turnV (rdB F b))) = r at *
 rw [show Int.tmod (r : Int) ((F.sg : Nat) : Int) = ((r % F.sg : Nat) : Int) from (Int.ofNat_tmod _ _).symm]
 refine Ev.congr (fun k => if_pos (by omega)) ?_
 have ur := units_any h G Q r1
 have ua := units_any h G Q ha
 have ub := units_any h G Q hb
 rw [r3] at ur
 rw [← hX] at ua
 rw [← hY] at ub
 have bX : bl X.natAbs ≤ 2101 := by rw [hX]; exact uz_bl h a
 have bY : bl Y.natAbs ≤ 2101 := by rw [hY]; exact uz_bl h b
 have bD : bl (X - Y).natAbs ≤ 2102 := Nat.le_trans (bl_mono (show (X - Y).natAbs ≤ X.natAbs + Y.natAbs by omega)) (bl_add bX bY)
 have sb_ := zsub_ev X Y (Zs_bl (by omega)) (Zs_bl (by omega)) (Zs_bl (by omega))
 have cm := zcmp_ev (X - Y) (X - Y) (Zs_bl (by omega)) (Zs_bl (by omega)) (by rw [Int.sub_self]; exact Zs_bl (by decide))
 rw [Int.sub_self] at cm
 refine Ev.bind ur (Ev.bind ua (Ev.bind ub (Ev.bind sb_ (Ev.bind cm ?_))))
 exact Ev.now _
theorem softSterbenz_lrow (a0 : Bool) (a1 a2 : Int) (w1 : (Lit.int .u64 a1).wf = true) (w2 : (Lit.int .u64 a2).wf = true) : Ev (fun k => gnomonlaw09_SoftSterbenz.f k a0 a1 a2) true := by
 have e1 : IntKind.u64.min = 0 := rfl
 have e2 : IntKind.u64.max = 18446744073709551615 := rfl
 have h1 : IntKind.u64.min ≤ a1 ∧ a1 ≤ IntKind.u64.max := by simpa [Lit.wf] using w1
 have h2 : IntKind.u64.min ≤ a2 ∧ a2 ≤ IntKind.u64.max := by simpa [Lit.wf] using w2
 obtain ⟨a, rfl⟩ : ∃ a : Nat, a1 = (a : Int) := ⟨a1.toNat, by omega⟩
 obtain ⟨b, rfl⟩ : ∃ b : Nat, a2 = (b : Int) := ⟨a2.toNat, by omega⟩
 exact softSterbenz_lev a0 a b (by omega) (by omega)
end Go.Proofs.YtokoadgahflafaaGreatDoor.SoftSterbenzL
