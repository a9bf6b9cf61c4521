/- The reference's numbers of a format's patterns, and its question for the nearest one: plain Lean over the functions. Conditions: words; formats. -/
import Derived.Test.YtokoadgahflafaaGreatDoorKSoftNearestPRefx0
import Derived.Test.YtokoadgahflafaaGreatDoorKSoftNearestRefH
import Derived.Test.YtokoadgahflafaaGreatDoorKSoftNearestPxZ0
import Derived.Test.YtokoadgahflafaaGreatDoorKSoftNearestPxL0
set_option linter.unusedVariables false
namespace Go.Proofs.YtokoadgahflafaaGreatDoor.Sfz
open Go.RowKit Go.Proofs.YtokoadgahflafaaGreatDoorW.PrintWords Go.Proofs.YtokoadgahflafaaGreatDoorW.PrintMore Go.Proofs.YtokoadgahflafaaGreatDoor.Num Go.Proofs.YtokoadgahflafaaGreatDoor.PLib Go.Proofs.YtokoadgahflafaaGreatDoor.Ref Go.Proofs.YtokoadgahflafaaGreatDoor.GTh Go.Proofs.YtokoadgahflafaaGreatDoor.Given Go.Proofs.YtokoadgahflafaaGreatDoor.Rp1 Go.Proofs.YtokoadgahflafaaGreatDoor.Rp3 Go.Proofs.YtokoadgahflafaaGreatDoor.Rp5 Go.Proofs.YtokoadgahflafaaGreatDoor.Rp7 Go.Proofs.YtokoadgahflafaaGreatDoor.BinLaw Go.Proofs.YtokoadgahflafaaGreatDoor.Fm8 Go.Proofs.YtokoadgahflafaaGreatDoor.Rnd Go.Proofs.YtokoadgahflafaaGreatDoor.Sq Go.Proofs.YtokoadgahflafaaGreatDoor.Px Go.Proofs.YtokoadgahflafaaGreatDoor.Sf1 Go.Proofs.YtokoadgahflafaaGreatDoor.Sf2 Go.Proofs.YtokoadgahflafaaGreatDoor.Sf3 Go.Proofs.YtokoadgahflafaaGreatDoor.Sf6 Go.Proofs.YtokoadgahflafaaGreatDoor.SoftRootOfSquareL Go.Proofs.YtokoadgahflafaaGreatDoor.SoftOrdersL
theorem Zs_bl {z : Int} (h : bl z.natAbs ≤ 100000) : Zs z := Zs_of (k := bl z.natAbs) (bl_lt _) (by omega)
def uz (F : Fmt) (b : Nat) : Int := sv (decide (F.sg ≤ b)) (nF F (b % F.sg))
theorem uz_bl {f : Int} {F : Fmt} (h : Fm f F) (b : Nat) : bl (uz F b).natAbs ≤ 2101 := by
 unfold uz
 rw [sv_abs]
 exact bl_nF h (Nat.mod_lt _ (by have := h.sz; omega))
theorem uz_pat {f : Int} {F : Fmt} (h : Fm f F) (neg : Bool) {s : Nat} (hs : s < F.sg) : uz F (pat F neg s) = sv neg (nF F s) := by
 unfold uz
 rw [pat_ge F neg hs, pat_mod F neg hs]
theorem uz_size {f : Int} {F : Fmt} (h : Fm f F) {s : Nat} (hs : s < F.sg) : uz F s = ((nF F s : Nat) : Int) := uz_pat h false hs
theorem shl_hd' {f : Int} {F : Fmt} (h : Fm f F) : 0 ≤ wrap64 (((F.man : Nat) : Int) - 1) ∧ shl .u64 1 (wrap64 (((F.man : Nat) : Int) - 1)) = ((hdF F : Nat) : Int) := by
 rcases h with ⟨_, rfl⟩ | ⟨_, rfl⟩ <;> exact of_decide_eq_true (by kernel_rfl)
theorem parts_any {f : Int} {F : Fmt} (h : Fm f F) (G Q : Int) {s : Nat} (hs : s < F.sg) : gnomonref07_Parts.f ((F.sg : Nat) : Int) ((F.man : Nat) : Int) F.low G ((F.inf : Nat) : Int) Q (s : Int) = some (((mgF F s : Nat) : Int), xpF F s) := by
 obtain ⟨k1, k2⟩ := shl_hd' h
 obtain ⟨h0, -, h2, -, -, -, -, -, -⟩ := fm_hd h
 have hz := h.sz
 have hl := low_rng h
 have hm := Nat.mod_lt s h0
 have hq : s / hdF F ≤ s := Nat.div_le_self _ _
 have hq2 : s / hdF F ≤ 4096 := by
  have := dF_le h hs
  unfold dF at this; omega
 unfold gnomonref07_Parts.f
 rw [if_pos k1, k2, if_neg (by omega), show Int.tdiv (s : Int) ((hdF F : Nat) : Int) = ((s / hdF F : Nat) : Int) from (Int.ofNat_tdiv _ _).symm, show Int.tmod (s : Int) ((hdF F : Nat) : Int) = ((s % hdF F : Nat) : Int) from (Int.ofNat_tmod _ _).symm]
 unfold mgF xpF
 generalize s / hdF F = q1 at *
 generalize s % hdF F = r1 at *
 rw [wu64 (x := ((q1 : Nat) : Int)) (by omega) (by omega)]
 by_cases c : q1 = 0
 ·rw [if_pos (by omega), if_pos c, if_pos c]
 ·rw [if_neg (by omega), if_neg c, if_neg c, wu64 (by omega) (by omega), w64 (x := ((q1 : Nat) : Int)) (by omega) (by omega), w64 (x := F.low + _) (by omega) (by omega), w64 (by omega) (by omega)]
  congr 2
theorem cut_any {f : Int} {F : Fmt} (h : Fm f F) (P E G I Q : Int) (b : Nat) : gnomonref07_Cut.f ((F.sg : Nat) : Int) P E G I Q (b : Int) = some (decide (F.sg ≤ b), ((b % F.sg : Nat) : Int)) := by
 have hz := h.sz
 have e : Int.tmod (b : Int) ((F.sg : Nat) : Int) = ((b % F.sg : Nat) : Int) := (Int.ofNat_tmod _ _).symm
 have d : decide ((b : Int) ≥ ((F.sg : Nat) : Int)) = decide (F.sg ≤ b) := decide_eq_decide.2 ⟨fun q => by omega, fun q => by omega⟩
 unfold gnomonref07_Cut.f
 first
 | (rw [if_neg (by omega), e, d])
 | (rw [e, d])
theorem whole_any {f : Int} {F : Fmt} (h : Fm f F) (G Q : Int) {b : Nat} (hb : b < 2 * F.sg) : Ev (fun k => gnomonref07_Whole.f k ((F.sg : Nat) : Int) ((F.man : Nat) : Int) F.low G ((F.inf : Nat) : Int) Q (b : Int)) (zn (uz F b), zl (uz F b)) := by
 have hz := h.sz
 have hs : b % F.sg < F.sg := Nat.mod_lt _ (by omega)
 have hm := mg_lt h (b % F.sg)
 have hd := dF_le h hs
 have hl := low_rng h
 have hx := xp_d F (b % F.sg)
 have sh : wrap64 (xpF F (b % F.sg) - F.low) = ((dF F (b % F.sg) : Nat) : Int) := by rw [hx, w64 (by omega) (by omega)]; omega
 have l1 : (dg (mgF F (b % F.sg))).length < 274877906944 := dg_len_bits (k := 64) (by omega) (by decide)
 have l2 : bl (nF F (b % F.sg)) ≤ 2101 := bl_nF h hs
 have l3 : (dg (nF F (b % F.sg))).length < 1099511627776 := by
  have := dg_len_bits (n := nF F (b % F.sg)) (k := bl (nF F (b % F.sg))) (bl_lt _) (by omega)
  omega
 unfold gnomonref07_Whole.f
 refine Ev.bind (ev_eq (cut_any h _ _ _ _ _ b)) (Ev.bind (ev_eq (parts_any h G Q hs)) ?_)
 have w := word_ev ((mgF F (b % F.sg) : Nat) : Int) (by omega) (by omega)
 rw [Int.toNat_natCast] at w
 refine Ev.bind w ?_
 dsimp only
 rw [sh]
 refine Ev.bind (shl_ev _ _ l1 (by omega)) (pair_some ?_)
 refine zmk_ev _ (nF F (b % F.sg)) l3 (uz F b) (by unfold uz; rw [sv_abs]) (fun n0 => ?_)
 unfold uz
 generalize nF F (b % F.sg) = n at *
 by_cases c : F.sg ≤ b
 ·rw [decide_eq_true c, decide_eq_true]; show -(n : Int) < 0; omega
 ·rw [decide_eq_false c, decide_eq_false]; show ¬ (n : Int) < 0; omega
theorem units_any {f : Int} {F : Fmt} (h : Fm f F) (G Q : Int) {b : Nat} (hb : b < 2 * F.sg) : Ev (fun k => gnomonlaw09_units.f k ((F.sg : Nat) : Int) ((F.man : Nat) : Int) F.low G ((F.inf : Nat) : Int) Q (b : Int)) (zn (uz F b), zl (uz F b)) := by
 unfold gnomonlaw09_units.f
 exact pair_some (whole_any h G Q hb)
theorem abs_any {z : Int} (h : Zs z) : Ev (fun k => gnomonref04_Abs.f k (zn z) (zl z)) (zn ((z.natAbs : Nat) : Int), zl ((z.natAbs : Nat) : Int)) := by
 unfold gnomonref04_Abs.f
 refine pair_some ?_
 exact zmk_ev false z.natAbs (by unfold Zs at h; omega) _ (by omega) (fun _ => by rw [decide_eq_false]; omega)
theorem bl_dbl {m k : Nat} (h : bl m ≤ k) : bl (2 * m) ≤ 2 + k := bl_mul2 (show bl 2 ≤ 2 by decide) h
theorem near_any {f : Int} {F : Fmt} (h : Fm f F) (G Q : Int) {V : Int} {D s : Nat} (v0 : V ≠ 0) (hV : bl V.natAbs ≤ 10000) (hD : bl D ≤ 10000) (hn : Nq F V.natAbs D s) :
  Ev (fun k => gnomonlaw09_nearest.f k ((F.sg : Nat) : Int) ((F.man : Nat) : Int) F.low G ((F.inf : Nat) : Int) Q ((pat F (decide (V < 0)) s : Nat) : Int) (zn V) (zl V) (zn (D : Int)) (zl (D : Int))) true := by
 have hz := h.sz
 have hle := hn.le
 have hb := pat_lt F (decide (V < 0)) (show s < F.sg by omega)
 have c := cut_any h ((F.man : Nat) : Int) F.low G ((F.inf : Nat) : Int) Q (pat F (decide (V < 0)) s)
 rw [pat_ge F _ (show s < F.sg by omega), pat_mod F _ (show s < F.sg by omega)] at c
 have zV : Zs V := Zs_bl (by omega)
 have aV := abs_any zV
 obtain ⟨A, hA⟩ : ∃ A, A = V.natAbs := ⟨_, rfl⟩
 rw [← hA] at aV hV hn
 have b2 := bl_dbl hV
 have e2 : ((A : Nat) : Int) * 2^1 = ((2 * A : Nat) : Int) := by omega
 have s2 := zshl_ev ((A : Nat) : Int) 1 (Zs_bl (by rw [Int.natAbs_natCast]; omega)) (by decide) (by rw [e2]; exact Zs_bl (by rw [Int.natAbs_natCast]; omega))
 rw [e2] at s2
 have su : ∀ t : Nat, t + 1 < F.sg → bl (nF F t + nF F (t + 1)) ≤ 2102 := fun t ht => bl_add (bl_nF h (by omega)) (bl_nF h ht)
 have mm : ∀ t : Nat, t + 1 < F.sg → ∀ x : Int, x = ((nF F t + nF F (t + 1) : Nat) : Int) → Ev (fun k => gnomonref04_Mul.f k (zn (D : Int)) (zl (D : Int)) (zn x) (zl x)) (zn ((D * (nF F t + nF F (t + 1)) : Nat) : Int), zl ((D * (nF F t + nF F (t + 1)) : Nat) : Int)) := fun t ht x hx => by
  have q := su t ht
  have r := bl_mul2 hD q
  have := zmul_ev (D : Int) x (Zs_bl (by rw [Int.natAbs_natCast]; omega)) (by rw [hx]; exact Zs_bl (by rw [Int.natAbs_natCast]; omega)) (by rw [hx, ← Int.natCast_mul]; exact Zs_bl (by rw [Int.natAbs_natCast]; omega))
  rw [hx, ← Int.natCast_mul] at this
  rw [hx]
  exact this
 have cc : ∀ t : Nat, t + 1 < F.sg → Ev (fun k => gnomonref04_Cmp.f k (zn ((2 * A : Nat) : Int)) (zl ((2 * A : Nat) : Int)) (zn ((D * (nF F t + nF F (t + 1)) : Nat) : Int)) (zl ((D * (nF F t + nF F (t + 1)) : Nat) : Int))) (Ref.sgn (((2 * A : Nat) : Int) - ((D * (nF F t + nF F (t + 1)) : Nat) : Int))) := fun t ht => by
  have q := su t ht
  have r := bl_mul2 hD q
  refine zcmp_ev _ _ (Zs_bl (by rw [Int.natAbs_natCast]; omega)) (Zs_bl (by rw [Int.natAbs_natCast]; omega)) (Zs_bl ?_)
  have : (((2 * A : Nat) : Int) - ((D * (nF F t + nF F (t + 1)) : Nat) : Int)).natAbs ≤ 2 * A + D * (nF F t + nF F (t + 1)) := by omega
  exact Nat.le_trans (bl_mono this) (Nat.le_trans (bl_add (k := 20000) (by omega) (by omega)) (by decide))
 have aa : ∀ t : Nat, t + 1 < F.sg → Ev (fun k => gnomonref04_Add.f k (zn ((nF F t : Nat) : Int)) (zl ((nF F t : Nat) : Int)) (zn ((nF F (t + 1) : Nat) : Int)) (zl ((nF F (t + 1) : Nat) : Int))) (zn ((nF F t + nF F (t + 1) : Nat) : Int), zl ((nF F t + nF F (t + 1) : Nat) : Int)) := fun t ht => by
  have := zadd_ev ((nF F t : Nat) : Int) ((nF F (t + 1) : Nat) : Int) (Zs_bl (by rw [Int.natAbs_natCast]; have := bl_nF h (show t < F.sg by omega); omega)) (Zs_bl (by rw [Int.natAbs_natCast]; have := bl_nF h ht; omega)) (Zs_bl (by rw [← Int.natCast_add, Int.natAbs_natCast]; have := su t ht; omega))
  rw [← Int.natCast_add] at this
  exact this
 have bb : ∀ t : Nat, t + 1 < F.sg → Ev (fun k => gnomonref04_Add.f k (zn ((nF F (t + 1) : Nat) : Int)) (zl ((nF F (t + 1) : Nat) : Int)) (zn ((nF F t : Nat) : Int)) (zl ((nF F t : Nat) : Int))) (zn ((nF F t + nF F (t + 1) : Nat) : Int), zl ((nF F t + nF F (t + 1) : Nat) : Int)) := fun t ht => by
  have := zadd_ev ((nF F (t + 1) : Nat) : Int) ((nF F t : Nat) : Int) (Zs_bl (by rw [Int.natAbs_natCast]; have := bl_nF h ht; omega)) (Zs_bl (by rw [Int.natAbs_natCast]; have := bl_nF h (show t < F.sg by omega); omega)) (Zs_bl (by rw [← Int.natCast_add, Int.natAbs_natCast, Nat.add_comm]; have := su t ht; omega))
  rw [← Int.natCast_add, Nat.add_comm (nF F (t + 1))] at this
  exact this
 have un : ∀ t : Nat, t < F.sg → Ev (fun k => gnomonlaw09_units.f k ((F.sg : Nat) : Int) ((F.man : Nat) : Int) F.low G ((F.inf : Nat) : Int) Q (t : Int)) (zn ((nF F t : Nat) : Int), zl ((nF F t : Nat) : Int)) := fun t ht => by
  have := units_any h G Q (show t < 2 * F.sg by omega)
  rwa [uz_size h ht] at this
 have mdD : ∀ t, md F 0 t * D = D * (nF F t + nF F (t + 1)) := fun t => by unfold md; rw [Nat.pow_zero, Nat.mul_one, Nat.mul_comm]
 have hup : s < F.inf → 2 * A < D * (nF F s + nF F (s + 1)) ∨ (2 * A = D * (nF F s + nF F (s + 1)) ∧ s % 2 = 0) := fun q => by have := hn.up q; rwa [mdD] at this
 have UP : ∀ {e : Bool}, (e = true → s % 2 = 0) → ∀ (X : Int → Nat → Option Bool), (∀ x, x < 0 → Ev (X x) true) → (s % 2 = 0 → Ev (X 0) true) → Ev (fun k => if ((s : Nat) : Int) < ((F.inf : Nat) : Int) then ((gnomonref04_Shl.f k (zn ((A : Nat) : Int)) (zl ((A : Nat) : Int)) 1).bind fun bt9 => ((gnomonlaw09_units.f k ((F.sg : Nat) : Int) ((F.man : Nat) : Int) F.low G ((F.inf : Nat) : Int) Q ((s : Nat) : Int)).bind fun bt10 => ((gnomonlaw09_units.f k ((F.sg : Nat) : Int) ((F.man : Nat) : Int) F.low G ((F.inf : Nat) : Int) Q (IntKind.u64.wrap (((s : Nat) : Int) + 1))).bind fun bt11 => ((gnomonref04_Add.f k bt10.1 bt10.2 bt11.1 bt11.2).bind fun bt12 => ((gnomonref04_Mul.f k (zn (D : Int)) (zl (D : Int)) bt12.1 bt12.2).bind fun bt13 => ((gnomonref04_Cmp.f k bt9.1 bt9.2 bt13.1 bt13.2).bind fun t14 => X t14 k)))))) else some true) true := by
  intro e _ X x1 x2
  by_cases q : s < F.inf
  ·refine Ev.congr (fun k => if_pos (by omega)) ?_
   rw [wu64 (x := ((s : Nat) : Int) + 1) (by omega) (by omega), show ((s : Nat) : Int) + 1 = ((s + 1 : Nat) : Int) by omega]
   refine Ev.bind s2 (Ev.bind (un s (by omega)) (Ev.bind (un (s + 1) (by omega)) (Ev.bind (aa s (by omega)) (Ev.bind (mm s (by omega) _ rfl) (Ev.bind (cc s (by omega)) ?_)))))
   rcases hup q with k1 | ⟨k1, k2⟩
   ·refine x1 _ ?_
    unfold Ref.sgn
    rw [if_neg (by omega), if_pos (by omega)]
    decide
   ·have : Ref.sgn (((2 * A : Nat) : Int) - ((D * (nF F s + nF F (s + 1)) : Nat) : Int)) = 0 := by unfold Ref.sgn; rw [if_pos (by omega)]
    rw [this]
    exact x2 k2
  ·exact Ev.congr (fun k => if_neg (by omega)) (Ev.now _)
 have ev2 : Int.tmod ((s : Nat) : Int) 2 = ((s % 2 : Nat) : Int) := (Int.ofNat_tmod _ _).symm
 have X1 : ∀ x : Int, x < 0 → Ev (fun k : Nat => if x > 0 then some false else (if x = 0 then (if Int.tmod ((s : Nat) : Int) 2 = 1 then some false else some true) else some true)) true := fun x hx => Ev.congr (fun k => if_neg (by omega)) (Ev.congr (fun k => if_neg (by omega)) (Ev.now _))
 have X2 : s % 2 = 0 → Ev (fun k : Nat => if (0 : Int) > 0 then some false else (if (0 : Int) = 0 then (if Int.tmod ((s : Nat) : Int) 2 = 1 then some false else some true) else some true)) true := fun hs => Ev.congr (fun k => if_neg (by decide)) (Ev.congr (fun k => if_pos rfl) (Ev.congr (fun k => if_neg (by rw [ev2]; omega)) (Ev.now _)))
 have Y1 : ∀ x : Int, x < 0 → Ev (fun k : Nat => if x > 0 then some false else (if x = 0 then some true else some true)) true := fun x hx => Ev.congr (fun k => if_neg (by omega)) (Ev.congr (fun k => if_neg (by omega)) (Ev.now _))
 have Y2 : s % 2 = 0 → Ev (fun k : Nat => if (0 : Int) > 0 then some false else (if (0 : Int) = 0 then some true else some true)) true := fun hs => Ev.congr (fun k => if_neg (by decide)) (Ev.congr (fun k => if_pos rfl) (Ev.now _))
 unfold gnomonlaw09_nearest.f
 refine Ev.bind (ev_eq c) (Ev.congr (fun k => if_neg (by dsimp only; omega)) (Ev.congr (fun k => if_pos rfl) (Ev.bind aV ?_)))
 dsimp only
 by_cases s0 : s = 0
 ·refine Ev.congr (fun k => if_neg (by omega)) ?_
  exact UP (e := false) (fun e => by cases e) (fun x k => if x > 0 then some false else (if x = 0 then (if Int.tmod ((s : Nat) : Int) 2 = 1 then some false else some true) else some true)) X1 X2
 ·obtain ⟨t, rfl⟩ : ∃ t, s = t + 1 := ⟨s - 1, by omega⟩
  refine Ev.congr (fun k => if_pos (by omega)) ?_
  rw [wu64 (x := ((t + 1 : Nat) : Int) - 1) (by omega) (by omega), show ((t + 1 : Nat) : Int) - 1 = ((t : Nat) : Int) by omega]
  refine Ev.bind s2 (Ev.bind (un (t + 1) (by omega)) (Ev.bind (un t (by omega)) (Ev.bind (bb t (by omega)) (Ev.bind (mm t (by omega) _ rfl) (Ev.bind (cc t (by omega)) ?_)))))
  have dn := hn.dn t rfl
  rw [mdD] at dn
  rcases dn with k1 | ⟨k1, k2⟩
  ·have e : Ref.sgn (((2 * A : Nat) : Int) - ((D * (nF F t + nF F (t + 1)) : Nat) : Int)) = 1 := by unfold Ref.sgn; rw [if_neg (by omega), if_neg (by omega)]
   rw [e]
   refine Ev.congr (fun k => if_neg (by decide)) (Ev.congr (fun k => if_neg (by decide)) ?_)
   exact UP (e := false) (fun e => by cases e) (fun x k => if x > 0 then some false else (if x = 0 then (if Int.tmod ((t + 1 : Nat) : Int) 2 = 1 then some false else some true) else some true)) X1 X2
  ·have e : Ref.sgn (((2 * A : Nat) : Int) - ((D * (nF F t + nF F (t + 1)) : Nat) : Int)) = 0 := by unfold Ref.sgn; rw [if_pos (by omega)]
   rw [e]
   refine Ev.congr (fun k => if_neg (by decide)) (Ev.congr (fun k => if_pos rfl) (Ev.congr (fun k => if_neg (by rw [ev2]; omega)) ?_))
   exact UP (e := false) (fun e => by cases e) (fun x k => if x > 0 then some false else (if x = 0 then some true else some true)) Y1 Y2
end Go.Proofs.YtokoadgahflafaaGreatDoor.Sfz
