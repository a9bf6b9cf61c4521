/- The reference's numbers of a format's patterns, and its question for the nearest one: plain Lean over the functions. Conditions: words; formats. Which whole numbers are numbers of a format; differences of near ones (Sterbenz); errors of sums. Plain Lean. Conditions: formats. The difference of two numbers within a factor of two is exact: the plain law of SoftSterbenz. Plain Lean over the functions. Condition: words. What Add, Mul, Div and Fma answer is as near to the exact result as any neighbour: the plain law of SoftNearest. Plain Lean over the functions. Condition: words. -/
import Derived.Test.YtokoadgahflafaaGreatDoorKSoftErrorsPRefx0
import Derived.Test.YtokoadgahflafaaGreatDoorKSoftErrorsRefH
import Derived.Test.YtokoadgahflafaaGreatDoorKSoftErrorsPxZ0
import Derived.Test.YtokoadgahflafaaGreatDoorKSoftErrorsPxL0
import Derived.Test.YtokoadgahflafaaGreatDoorKSoftErrorsRnd
import Derived.Test.YtokoadgahflafaaGreatDoorKSoftErrorsPxL1
import Derived.Test.YtokoadgahflafaaGreatDoorKSoftErrorsPxL2
import Derived.Test.YtokoadgahflafaaGreatDoorKSoftErrorsPxL3
import Derived.Test.YtokoadgahflafaaGreatDoorKSoftErrorsPxL4
import Derived.Test.YtokoadgahflafaaGreatDoorKSoftErrorsPxBr
import Derived.Test.YtokoadgahflafaaGreatDoorKSoftErrorsGM
import Derived.Test.YtokoadgahflafaaGreatDoorKSoftErrorsPxM0
import Derived.Test.YtokoadgahflafaaGreatDoorKSoftErrorsPxOp
import Derived.Test.YtokoadgahflafaaGreatDoorKSoftErrorsPRefx3
section
set_option linter.unusedVariables false
namespace Go.Proofs.YtokoadgahflafaaGreatDoor.Sfz
open Go.RowKit Go.Proofs.YtokoadgahflafaaGreatDoorW.PrintWords Go.Proofs.YtokoadgahflafaaGreatDoorW.PrintMore Go.Proofs.YtokoadgahflafaaGreatDoor.Num Go.Proofs.YtokoadgahflafaaGreatDoor.PLib Go.Proofs.YtokoadgahflafaaGreatDoor.Ref Go.Proofs.YtokoadgahflafaaGreatDoor.GTh Go.Proofs.YtokoadgahflafaaGreatDoor.Given Go.Proofs.YtokoadgahflafaaGreatDoor.Rp1 Go.Proofs.YtokoadgahflafaaGreatDoor.Rp3 Go.Proofs.YtokoadgahflafaaGreatDoor.Rp5 Go.Proofs.YtokoadgahflafaaGreatDoor.Rp7 Go.Proofs.YtokoadgahflafaaGreatDoor.BinLaw Go.Proofs.YtokoadgahflafaaGreatDoor.Fm8 Go.Proofs.YtokoadgahflafaaGreatDoor.Rnd Go.Proofs.YtokoadgahflafaaGreatDoor.Px Go.Proofs.YtokoadgahflafaaGreatDoor.Sf1 Go.Proofs.YtokoadgahflafaaGreatDoor.Sf2 Go.Proofs.YtokoadgahflafaaGreatDoor.Sf3 Go.Proofs.YtokoadgahflafaaGreatDoor.Sf6 Go.Proofs.YtokoadgahflafaaGreatDoor.SoftRootOfSquareL Go.Proofs.YtokoadgahflafaaGreatDoor.SoftOrdersL
theorem Zs_bl {z : Int} (h : bl z.natAbs ≤ 100000) : Zs z := Zs_of (k := bl z.natAbs) (bl_lt _) (by omega)
def uz (F : Fmt) (b : Nat) : Int := sv (decide (F.sg ≤ b)) (nF F (b % F.sg))
theorem uz_bl {f : Int} {F : Fmt} (h : Fm f F) (b : Nat) : bl (uz F b).natAbs ≤ 2101 := by
 unfold uz
 rw [sv_abs]
 exact bl_nF h (Nat.mod_lt _ (by have := h.sz; omega))
theorem uz_pat {f : Int} {F : Fmt} (h : Fm f F) (neg : Bool) {s : Nat} (hs : s < F.sg) : uz F (pat F neg s) = sv neg (nF F s) := by
 unfold uz
 rw [pat_ge F neg hs, pat_mod F neg hs]
theorem uz_size {f : Int} {F : Fmt} (h : Fm f F) {s : Nat} (hs : s < F.sg) : uz F s = ((nF F s : Nat) : Int) := uz_pat h false hs
theorem shl_hd' {f : Int} {F : Fmt} (h : Fm f F) : 0 ≤ wrap64 (((F.man : Nat) : Int) - 1) ∧ shl .u64 1 (wrap64 (((F.man : Nat) : Int) - 1)) = ((hdF F : Nat) : Int) := by
 rcases h with ⟨_, rfl⟩ | ⟨_, rfl⟩ <;> exact of_decide_eq_true (by kernel_rfl)
theorem parts_any {f : Int} {F : Fmt} (h : Fm f F) (G Q : Int) {s : Nat} (hs : s < F.sg) : gnomonref07_Parts.f ((F.sg : Nat) : Int) ((F.man : Nat) : Int) F.low G ((F.inf : Nat) : Int) Q (s : Int) = some (((mgF F s : Nat) : Int), xpF F s) := by
 obtain ⟨k1, k2⟩ := shl_hd' h
 obtain ⟨h0, -, h2, -, -, -, -, -, -⟩ := fm_hd h
 have hz := h.sz
 have hl := low_rng h
 have hm := Nat.mod_lt s h0
 have hq : s / hdF F ≤ s := Nat.div_le_self _ _
 have hq2 : s / hdF F ≤ 4096 := by
  have := dF_le h hs
  unfold dF at this; omega
 unfold gnomonref07_Parts.f
 rw [if_pos k1, k2, if_neg (by omega), show Int.tdiv (s : Int) ((hdF F : Nat) : Int) = ((s / hdF F : Nat) : Int) from (Int.ofNat_tdiv _ _).symm, show Int.tmod (s : Int) ((hdF F : Nat) : Int) = ((s % hdF F : Nat) : Int) from (Int.ofNat_tmod _ _).symm]
 unfold mgF xpF
 generalize s / hdF F = q1 at *
 generalize s % hdF F = r1 at *
 rw [wu64 (x := ((q1 : Nat) : Int)) (by omega) (by omega)]
 by_cases c : q1 = 0
 ·rw [if_pos (by omega), if_pos c, if_pos c]
 ·rw [if_neg (by omega), if_neg c, if_neg c, wu64 (by omega) (by omega), w64 (x := ((q1 : Nat) : Int)) (by omega) (by omega), w64 (x := F.low + _) (by omega) (by omega), w64 (by omega) (by omega)]
  congr 2
theorem cut_any {f : Int} {F : Fmt} (h : Fm f F) (P E G I Q : Int) (b : Nat) : gnomonref07_Cut.f ((F.sg : Nat) : Int) P E G I Q (b : Int) = some (decide (F.sg ≤ b), ((b % F.sg : Nat) : Int)) := by
 have hz := h.sz
 have e : Int.tmod (b : Int) ((F.sg : Nat) : Int) = ((b % F.sg : Nat) : Int) := (Int.ofNat_tmod _ _).symm
 have d : decide ((b : Int) ≥ ((F.sg : Nat) : Int)) = decide (F.sg ≤ b) := decide_eq_decide.2 ⟨fun q => by omega, fun q => by omega⟩
 unfold gnomonref07_Cut.f
 first
 | (rw [if_neg (by omega), e, d])
 | (rw [e, d])
theorem whole_any {f : Int} {F : Fmt} (h : Fm f F) (G Q : Int) {b : Nat} (hb : b < 2 * F.sg) : Ev (fun k => gnomonref07_Whole.f k ((F.sg : Nat) : Int) ((F.man : Nat) : Int) F.low G ((F.inf : Nat) : Int) Q (b : Int)) (zn (uz F b), zl (uz F b)) := by
 have hz := h.sz
 have hs : b % F.sg < F.sg := Nat.mod_lt _ (by omega)
 have hm := mg_lt h (b % F.sg)
 have hd := dF_le h hs
 have hl := low_rng h
 have hx := xp_d F (b % F.sg)
 have sh : wrap64 (xpF F (b % F.sg) - F.low) = ((dF F (b % F.sg) : Nat) : Int) := by rw [hx, w64 (by omega) (by omega)]; omega
 have l1 : (dg (mgF F (b % F.sg))).length < 274877906944 := dg_len_bits (k := 64) (by omega) (by decide)
 have l2 : bl (nF F (b % F.sg)) ≤ 2101 := bl_nF h hs
 have l3 : (dg (nF F (b % F.sg))).length < 1099511627776 := by
  have := dg_len_bits (n := nF F (b % F.sg)) (k := bl (nF F (b % F.sg))) (bl_lt _) (by omega)
  omega
 unfold gnomonref07_Whole.f
 refine Ev.bind (ev_eq (cut_any h _ _ _ _ _ b)) (Ev.bind (ev_eq (parts_any h G Q hs)) ?_)
 have w := word_ev ((mgF F (b % F.sg) : Nat) : Int) (by omega) (by omega)
 rw [Int.toNat_natCast] at w
 refine Ev.bind w ?_
 dsimp only
 rw [sh]
 refine Ev.bind (shl_ev _ _ l1 (by omega)) (pair_some ?_)
 refine zmk_ev _ (nF F (b % F.sg)) l3 (uz F b) (by unfold uz; rw [sv_abs]) (fun n0 => ?_)
 unfold uz
 generalize nF F (b % F.sg) = n at *
 by_cases c : F.sg ≤ b
 ·rw [decide_eq_true c, decide_eq_true]; show -(n : Int) < 0; omega
 ·rw [decide_eq_false c, decide_eq_false]; show ¬ (n : Int) < 0; omega
theorem units_any {f : Int} {F : Fmt} (h : Fm f F) (G Q : Int) {b : Nat} (hb : b < 2 * F.sg) : Ev (fun k => gnomonlaw09_units.f k ((F.sg : Nat) : Int) ((F.man : Nat) : Int) F.low G ((F.inf : Nat) : Int) Q (b : Int)) (zn (uz F b), zl (uz F b)) := by
 unfold gnomonlaw09_units.f
 exact pair_some (whole_any h G Q hb)
theorem abs_any {z : Int} (h : Zs z) : Ev (fun k => gnomonref04_Abs.f k (zn z) (zl z)) (zn ((z.natAbs : Nat) : Int), zl ((z.natAbs : Nat) : Int)) := by
 unfold gnomonref04_Abs.f
 refine pair_some ?_
 exact zmk_ev false z.natAbs (by unfold Zs at h; omega) _ (by omega) (fun _ => by rw [decide_eq_false]; omega)
end Go.Proofs.YtokoadgahflafaaGreatDoor.Sfz
end
section
set_option linter.unusedVariables false
namespace Go.Proofs.YtokoadgahflafaaGreatDoor.Rep
open Go.Proofs.YtokoadgahflafaaGreatDoor.BinLaw Go.Proofs.YtokoadgahflafaaGreatDoor.Ref Go.Proofs.YtokoadgahflafaaGreatDoor.Fm8 Go.Proofs.YtokoadgahflafaaGreatDoor.Rnd
theorem rep_of {f : Int} {F : Fmt} (h : Fm f F) : ∀ (e q : Nat), q < 2 * hdF F → ∃ u, nF F u = q * 2^e := by
 intro e
 induction e with
 | zero =>
  intro q hq
  have := (nF_at h (j := 0) hq (.inl rfl)).1
  exact ⟨_, this⟩
 | succ e ih =>
  intro q hq
  by_cases c : hdF F ≤ q
  ·exact ⟨_, (nF_at h (j := e + 1) hq (.inr c)).1⟩
  ·obtain ⟨u, hu⟩ := ih (2 * q) (by omega)
   refine ⟨u, ?_⟩
   rw [hu, Nat.pow_succ]
   rw [Nat.mul_comm 2 q, Nat.mul_assoc, Nat.mul_comm 2]
theorem mg_lt1 {f : Int} {F : Fmt} (h : Fm f F) (s : Nat) : mgF F s < 2 * hdF F := by
 have h0 := (fm_hd h).1
 have := Nat.mod_lt s h0
 unfold mgF
 split <;> omega
theorem dF_mono {F : Fmt} {s t : Nat} (h : s ≤ t) : dF F s ≤ dF F t := by
 unfold dF
 have := Nat.div_le_div_right (c := hdF F) h
 omega
theorem rep_le {f : Int} {F : Fmt} (h : Fm f F) {t z : Nat} (hz : z ≤ nF F t) (hd : 2^(dF F t) ∣ z) : ∃ u, u ≤ t ∧ nF F u = z := by
 obtain ⟨q, rfl⟩ := hd
 have hq : q ≤ mgF F t := by
  unfold nF at hz
  rw [Nat.mul_comm] at hz
  exact Nat.le_of_mul_le_mul_right hz (Nat.two_pow_pos _)
 have hm := mg_lt1 h t
 obtain ⟨u, hu⟩ := rep_of h (dF F t) q (by omega)
 rw [Nat.mul_comm] at hu
 refine ⟨u, ?_, hu⟩
 refine Nat.le_of_not_lt fun c => ?_
 have := nF_lt h c
 omega
theorem dvd_nF {F : Fmt} {s t : Nat} (h : s ≤ t) : 2^(dF F s) ∣ nF F t := by
 unfold nF
 exact Nat.dvd_trans (Nat.pow_dvd_pow 2 (dF_mono h)) (Nat.dvd_mul_left _ _)
end Go.Proofs.YtokoadgahflafaaGreatDoor.Rep
end
section
set_option linter.unusedVariables false
namespace Go.Proofs.YtokoadgahflafaaGreatDoor.SoftSterbenzL
open Go.RowKit Go.Proofs.YtokoadgahflafaaGreatDoorW.PrintWords Go.Proofs.YtokoadgahflafaaGreatDoorW.PrintMore Go.Proofs.YtokoadgahflafaaGreatDoor.Num Go.Proofs.YtokoadgahflafaaGreatDoor.PLib Go.Proofs.YtokoadgahflafaaGreatDoor.Ref Go.Proofs.YtokoadgahflafaaGreatDoor.GTh Go.Proofs.YtokoadgahflafaaGreatDoor.Given Go.Proofs.YtokoadgahflafaaGreatDoor.Rp1 Go.Proofs.YtokoadgahflafaaGreatDoor.Rp3 Go.Proofs.YtokoadgahflafaaGreatDoor.Rp5 Go.Proofs.YtokoadgahflafaaGreatDoor.Rp7 Go.Proofs.YtokoadgahflafaaGreatDoor.BinLaw Go.Proofs.YtokoadgahflafaaGreatDoor.Fm8 Go.Proofs.YtokoadgahflafaaGreatDoor.Rnd Go.Proofs.YtokoadgahflafaaGreatDoor.Px Go.Proofs.YtokoadgahflafaaGreatDoor.Sf1 Go.Proofs.YtokoadgahflafaaGreatDoor.Sf2 Go.Proofs.YtokoadgahflafaaGreatDoor.Sf3 Go.Proofs.YtokoadgahflafaaGreatDoor.Sf6 Go.Proofs.YtokoadgahflafaaGreatDoor.SoftRootOfSquareL Go.Proofs.YtokoadgahflafaaGreatDoor.SoftOrdersL Go.Proofs.YtokoadgahflafaaGreatDoor.Sfz
theorem form_n (sb : Bool) : ∃ f F G Q, Fm f F ∧ gnomonlaw09_form.f sb = some (f, ((F.sg : Nat) : Int), ((F.man : Nat) : Int), F.low, G, ((F.inf : Nat) : Int), Q) := by
 cases sb
 ·exact ⟨64, fD, 971, 9221120237041090561, .inr ⟨rfl, rfl⟩, by kernel_rfl⟩
 ·exact ⟨32, fS, 104, 2143289345, .inl ⟨rfl, rfl⟩, by kernel_rfl⟩
theorem cmpN_ev {x y : Nat} (hx : bl x ≤ 90000) (hy : bl y ≤ 90000) : Ev (fun k => gnomonref04_Cmp.f k (zn (x : Int)) (zl (x : Int)) (zn (y : Int)) (zl (y : Int))) (Ref.sgn ((x : Int) - (y : Int))) := by
 refine zcmp_ev _ _ (Zs_bl (by rw [Int.natAbs_natCast]; omega)) (Zs_bl (by rw [Int.natAbs_natCast]; omega)) (Zs_bl ?_)
 exact Nat.le_trans (bl_mono (show ((x : Int) - (y : Int)).natAbs ≤ x + y by omega)) (Nat.le_trans (bl_add hx hy) (by decide))
end Go.Proofs.YtokoadgahflafaaGreatDoor.SoftSterbenzL
end
section
set_option linter.unusedVariables false
namespace Go.Proofs.YtokoadgahflafaaGreatDoor.SoftNearestL
open Go.RowKit Go.Proofs.YtokoadgahflafaaGreatDoorW.PrintWords Go.Proofs.YtokoadgahflafaaGreatDoorW.PrintMore Go.Proofs.YtokoadgahflafaaGreatDoor.Num Go.Proofs.YtokoadgahflafaaGreatDoor.PLib Go.Proofs.YtokoadgahflafaaGreatDoor.Ref Go.Proofs.YtokoadgahflafaaGreatDoor.GTh Go.Proofs.YtokoadgahflafaaGreatDoor.Given Go.Proofs.YtokoadgahflafaaGreatDoor.Rp1 Go.Proofs.YtokoadgahflafaaGreatDoor.Rp3 Go.Proofs.YtokoadgahflafaaGreatDoor.Rp5 Go.Proofs.YtokoadgahflafaaGreatDoor.Rp7 Go.Proofs.YtokoadgahflafaaGreatDoor.BinLaw Go.Proofs.YtokoadgahflafaaGreatDoor.Fm8 Go.Proofs.YtokoadgahflafaaGreatDoor.Rnd Go.Proofs.YtokoadgahflafaaGreatDoor.Px Go.Proofs.YtokoadgahflafaaGreatDoor.Sf1 Go.Proofs.YtokoadgahflafaaGreatDoor.Sf2 Go.Proofs.YtokoadgahflafaaGreatDoor.Sf3 Go.Proofs.YtokoadgahflafaaGreatDoor.Sf6 Go.Proofs.YtokoadgahflafaaGreatDoor.SoftRootOfSquareL Go.Proofs.YtokoadgahflafaaGreatDoor.SoftOrdersL Go.Proofs.YtokoadgahflafaaGreatDoor.Sfz
theorem uz_val {f : Int} {F : Fmt} (h : Fm f F) {b : Nat} (hb : b % F.sg < F.inf) : valV (rdB F b) = uz F b := (fin_rd h hb).2
theorem fin_lift {v : Vl} (g : Nat) (hv : finV v) : finV (liftV g v) ∧ valV (liftV g v) = valV v * ((2^g : Nat) : Int) := by
 cases v with
 | nan => exact hv.elim
 | inf n => exact hv.elim
 | nou n => exact ⟨trivial, (Int.zero_mul _).symm⟩
 | num V => exact ⟨Int.mul_ne_zero hv (by have := Nat.two_pow_pos g; omega), rfl⟩
theorem zpow (V : Int) (g : Nat) : V * 2^g = V * ((2^g : Nat) : Int) := by push_cast; rfl
end Go.Proofs.YtokoadgahflafaaGreatDoor.SoftNearestL
end
