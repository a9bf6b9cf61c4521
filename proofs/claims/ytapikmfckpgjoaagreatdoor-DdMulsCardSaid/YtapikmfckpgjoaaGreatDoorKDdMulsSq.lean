/- What the reference's products answer, told by whole numbers. Plain Lean over the printed functions. Conditions: numbers of less than 2^38 digits. Rounding of quotients and of roots to the sizes of a format, and what a sticky bit tells of them. Plain Lean; no program in sight. No condition. -/
import Derived.Test.YtapikmfckpgjoaaGreatDoorKDdMulsRefD
import Derived.Test.YtapikmfckpgjoaaGreatDoorKDdMulsPRefx3
import Derived.Test.YtapikmfckpgjoaaGreatDoorKDdMulsPxZ0
import Derived.Test.YtapikmfckpgjoaaGreatDoorKDdMulsRnd
section
namespace Go.Proofs.YtapikmfckpgjoaaGreatDoor.Ref
open Go.RowKit Go.Proofs.YtapikmfckpgjoaaGreatDoorW.PrintWords Go.Proofs.YtapikmfckpgjoaaGreatDoorW.PrintMore Go.Proofs.YtapikmfckpgjoaaGreatDoor.Num Go.Proofs.YtapikmfckpgjoaaGreatDoor.PLib Go.Proofs.YtapikmfckpgjoaaGreatDoor.PRef Fl
theorem rd_set_other {l : List Int} {i j : Nat} (v : Int) (h : j ≠ i) : rd (l.set i v) (j : Int) = rd l (j : Int) := by
 by_cases hj : j < l.length
 ·rw [rd_get (by rw [List.length_set]; exact hj), rd_get hj, List.getElem_set_ne (by omega)]
 ·rw [rd_out (by rw [List.length_set]; omega), rd_out (by omega)]
theorem vl_set : ∀ (l : List Int) (i : Nat) (v : Int), i < l.length → vl (l.set i v) + B^i * (rd l (i : Int)).toNat = vl l + B^i * v.toNat := by
 intro l
 induction l with
 | nil => intro i v h; simp at h
 | cons d t ih =>
  intro i v h
  cases i with
  | zero =>
   rw [rd_get h]
   simp only [List.set_cons_zero, List.getElem_cons_zero, vl, Nat.pow_zero, Nat.one_mul]
   omega
  | succ i =>
   have hi : i < t.length := by simpa using h
   have e := ih i v hi
   rw [rd_get hi] at e
   rw [rd_get h]
   simp only [List.set_cons_succ, List.getElem_cons_succ, vl, Nat.pow_succ, Nat.mul_comm _ B, Nat.mul_assoc]
   have e2 := congrArg (B * ·) e
   simp only [Nat.mul_add] at e2
   omega
theorem mul_t {c r x y : Nat} (hc : c < 4294967296) (hr : r < 4294967296) (hx : x < 4294967296) (hy : y < 4294967296) : c + r + x * y < 18446744073709551616 ∧ x * y ≤ 18446744065119617025 := by
 have h : x * y ≤ 4294967295 * 4294967295 := Nat.mul_le_mul (by omega) (by omega)
 omega
theorem wadd (i j : Nat) (h : i + j < 1099511627776) : wrap64 ((i : Int) + (j : Int)) = ((i + j : Nat) : Int) := by rw [w64 (by omega) (by omega)]; omega
theorem acc_w (c r q : Nat) (h : c + r + q < 18446744073709551616) : IntKind.u64.wrap ((c : Int) + IntKind.u64.wrap (IntKind.u64.wrap (r : Int) + IntKind.u64.wrap ((q : Nat) : Int))) = ((c + r + q : Nat) : Int) := by
 rw [wu64 (x := (r : Int)) (by omega) (by omega), wu64 (x := (q : Int)) (by omega) (by omega), wu64 (x := (r : Int) + (q : Int)) (by omega) (by omega), wu64 (by omega) (by omega)]; omega
theorem acc_lo (s : Nat) (h : s < 18446744073709551616) : Go.bits .and .u64 (s : Int) 4294967295 % 4294967296 = ((s % B : Nat) : Int) := by
 rw [mask32 (by omega) (by omega), Int.emod_emod, B_eq]; rfl
theorem acc_hi (s : Nat) : (s : Int) / 4294967296 = ((s / B : Nat) : Int) := by rw [B_eq]; rfl
theorem wu_nat (y : Nat) (h : y < 4294967296) : IntKind.u64.wrap (y : Int) = (y : Int) := wu64 (by omega) (by omega)
theorem mul_go (k : Nat) (a b p : List Int) (i j c x r y : Nat) (hc : c < 4294967296) (hr : r < 4294967296) (hx : x < 4294967296) (hy : y < 4294967296)
  (hj : j < b.length) (hp : i + j < p.length) (hl : p.length < 1099511627776) (er : rd p ((i + j : Nat) : Int) = (r : Int)) (ey : rd b (j : Int) = (y : Int)) :
  gnomonref01_Mul.l1 (k + 1) a b p (i : Int) (c : Int) (x : Int) (j : Int) =
   gnomonref01_Mul.l1 k a b (p.set (i + j) (((c + r + x * y) % B : Nat) : Int)) (i : Int) (((c + r + x * y) / B : Nat) : Int) (x : Int) ((j + 1 : Nat) : Int) := by
 have h1 := (mul_t hc hr hx hy).1
 have e1 := wadd i j (Nat.lt_trans hp hl)
 have e2 : wrap64 ((j : Int) + 1) = ((j + 1 : Nat) : Int) := next_i j (by clear er ey h1 e1; omega)
 have exy : (x : Int) * (y : Int) = ((x * y : Nat) : Int) := (Int.natCast_mul x y).symm
 simp only [gnomonref01_Mul.l1]
 rw [if_pos (Int.ofNat_lt.2 hj), e1, if_pos (Int.natCast_nonneg _), if_pos (Int.ofNat_lt.2 hp), if_pos (Int.natCast_nonneg _), er, ey, wu_nat y hy, exy, e2]
 rw [acc_w c r (x * y) h1, acc_lo _ h1, acc_hi, Int.toNat_natCast]
theorem mul_step {vp vp' vq P c r x y s Pi pb : Nat} (h1 : vp' + P * r = vp + P * (s % B)) (h2 : vp + P * c = vq + Pi * x * pb) (hs : s = c + r + x * y) :
  vp' + P * B * (s / B) = vq + Pi * x * pb + P * (x * y) := by
 have h := Nat.mod_add_div s B
 have e : P * s = P * (s % B) + P * B * (s / B) := by
  rw [Nat.mul_assoc, ← Nat.mul_add, h]
 rw [hs, Nat.mul_add, Nat.mul_add] at e
 rw [← hs] at e
 omega
theorem cmod (c : Nat) (h : c < 4294967296) : (c : Int) % 4294967296 = (c : Int) := by omega
theorem carry_lt {s : Nat} (h : s < 18446744073709551616) : s / B < 4294967296 := by rw [B_eq]; omega
theorem mul_l1 (a b q : List Int) (hb : Dg b) (i x : Nat) (hx : x < 4294967296) (hq : q.length < 1099511627776) (hlen : i + b.length < q.length) (R : List Int)
  (hend : ∀ p' : List Int, p'.length = q.length → Dg p' → (∀ t : Nat, i + b.length < t → rd p' (t : Int) = rd q (t : Int)) → vl p' = vl q + B^i * x * vl b → Ev (fun k => gnomonref01_Mul.l0 k a b p' ((i + 1 : Nat) : Int)) R)
  (hz : rd q ((i + b.length : Nat) : Int) = 0) (d : Nat) :
  ∀ (j : Nat) (p : List Int) (c : Nat), b.length - j = d → j ≤ b.length → p.length = q.length → Dg p → c < 4294967296 → (∀ t : Nat, i + j ≤ t → rd p (t : Int) = rd q (t : Int)) →
   vl p + B^(i + j) * c = vl q + B^i * x * pv b j → Ev (fun k => gnomonref01_Mul.l1 k a b p (i : Int) (c : Int) (x : Int) (j : Int)) R := by
 induction d with
 | zero =>
  intro j p c hd hj hp hDp hc hsame hv
  have ej : j = b.length := by omega
  subst ej
  have e1 := wadd i b.length (by clear hv hz; omega)
  have e2 : wrap64 ((i : Int) + 1) = ((i + 1 : Nat) : Int) := next_i i (by clear hv hz; omega)
  refine Ev.step (f := fun k => gnomonref01_Mul.l0 k a b (p.set (i + b.length) (c : Int)) ((i + 1 : Nat) : Int)) (fun k => ?_) ?_
  ·simp only [gnomonref01_Mul.l1]
   rw [if_neg (Int.lt_irrefl _), e1, if_pos (Int.natCast_nonneg _), if_pos (Int.ofNat_lt.2 (by rw [hp]; exact hlen)), Int.toNat_natCast, cmod c hc, e2]
  ·refine hend _ (by rw [List.length_set]; exact hp) (dg_set hDp _ (Int.natCast_nonneg _) (Int.ofNat_lt.2 hc)) ?_ ?_
   ·intro t ht
    rw [rd_set_other _ (by clear hv hz; omega)]
    exact hsame t (by clear hv hz; omega)
   ·have hs := vl_set p (i + b.length) (c : Int) (by rw [hp]; exact hlen)
    rw [hsame _ (Nat.le_refl _), hz, Int.toNat_natCast] at hs
    rw [pv_all (Nat.le_refl _)] at hv
    have : B^(i + b.length) * (0 : Int).toNat = 0 := Nat.mul_zero _
    omega
 | succ d ih =>
  intro j p c hd hj hp hDp hc hsame hv
  have rp := hDp.rd ((i + j : Nat) : Int)
  have rb := hb.rd (j : Int)
  obtain ⟨r, er⟩ := Int.eq_ofNat_of_zero_le rp.1
  obtain ⟨y, ey⟩ := Int.eq_ofNat_of_zero_le rb.1
  have hr : r < 4294967296 := Int.ofNat_lt.1 (er ▸ rp.2)
  have hy : y < 4294967296 := Int.ofNat_lt.1 (ey ▸ rb.2)
  have h1 := (mul_t hc hr hx hy).1
  have hjl : j < b.length := by clear hv er ey h1; omega
  have hjp : i + j < p.length := by clear hv er ey h1; omega
  refine Ev.step (fun k => mul_go k a b p i j c x r y hc hr hx hy hjl hjp (by rw [hp]; exact hq) er ey) ?_
  have hlt : (((c + r + x * y) % B : Nat) : Int) < 4294967296 := Int.ofNat_lt.2 (Nat.mod_lt _ B_pos)
  refine ih (j + 1) _ _ (by clear hv er ey h1; omega) hjl (by rw [List.length_set]; exact hp) (dg_set hDp _ (Int.natCast_nonneg _) hlt) ?_ ?_ ?_
  ·exact carry_lt h1
  ·intro t ht
   rw [rd_set_other _ (by clear hv er ey h1; omega)]
   exact hsame t (by clear hv er ey h1; omega)
  ·have hs := vl_set p (i + j) (((c + r + x * y) % B : Nat) : Int) hjp
   rw [er, Int.toNat_natCast, Int.toNat_natCast] at hs
   have h := mul_step (s := c + r + x * y) (y := y) hs hv rfl
   rw [show i + (j + 1) = (i + j) + 1 by omega, Nat.pow_succ, h, pv_succ, ey, Int.toNat_natCast, Nat.mul_add, Nat.pow_add]
   simp only [Nat.mul_assoc, Nat.mul_left_comm x, Nat.add_assoc]
theorem mul_l0 (a b : List Int) (ha : Dg a) (hb : Dg b) (hl : a.length + b.length < 1099511627776) (d : Nat) :
  ∀ (i : Nat) (p : List Int), a.length - i = d → i ≤ a.length → p.length = a.length + b.length → Dg p → (∀ t : Nat, i + b.length ≤ t → rd p (t : Int) = 0) →
   vl p = pv a i * vl b → Ev (fun k => gnomonref01_Mul.l0 k a b p (i : Int)) (dg (vl a * vl b)) := by
 induction d with
 | zero =>
  intro i p hd hi hp hDp hz hv
  refine Ev.step (f := fun k => (gnomonref01_Norm.f k p).bind fun t => some t) (fun k => by simp only [gnomonref01_Mul.l0]; rw [if_neg (by omega)]) ?_
  refine bind_some_ev (norm_to hDp (by omega) ?_)
  rw [hv, pv_all (by omega)]
 | succ d ih =>
  intro i p hd hi hp hDp hz hv
  have ra := ha.rd (i : Int)
  obtain ⟨x, ex⟩ := Int.eq_ofNat_of_zero_le ra.1
  refine Ev.step (f := fun k => gnomonref01_Mul.l1 k a b p (i : Int) ((0 : Nat) : Int) (x : Int) ((0 : Nat) : Int)) (fun k => ?_) ?_
  ·simp only [gnomonref01_Mul.l0]
   rw [if_pos (by omega), if_pos (by omega), ex, wu64 (by omega) (by omega)]
   rfl
  ·refine mul_l1 a b p hb i x (by omega) (by omega) (by omega) _ ?_ (hz _ (Nat.le_refl _)) _ 0 p 0 rfl (by omega) rfl hDp (by decide) (fun t _ => rfl) (by rw [pv_zero, Nat.mul_zero, Nat.mul_zero])
   intro p' hp' hDp' hsame hv'
   refine ih (i + 1) p' (by omega) (by omega) (by omega) hDp' ?_ ?_
   ·intro t ht
    rw [hsame t (by omega)]
    exact hz t (by omega)
   ·rw [hv', hv, pv_succ, ex, Int.toNat_natCast, Nat.add_mul]
theorem mul_ev (m n : Nat) (hm : (dg m).length < 274877906944) (hn : (dg n).length < 274877906944) : Ev (fun k => gnomonref01_Mul.f k (dg m) (dg n)) (dg (m * n)) := by
 unfold gnomonref01_Mul.f
 have e1 : wrap64 (((dg m).length : Int) + ((dg n).length : Int)) = (((dg m).length + (dg n).length : Nat) : Int) := by rw [w64 (by omega) (by omega)]; omega
 have e2 : (0 : Int) ≤ (((dg m).length + (dg n).length : Nat) : Int) := by omega
 have e3 : (dg m).length + (dg n).length ≤ 70368744177664 := by omega
 simp only [e1, if_pos e2, Int.toNat_natCast, if_pos e3]
 have := mul_l0 (dg m) (dg n) (dg_Dg m) (dg_Dg n) (by omega) _ 0 (List.replicate ((dg m).length + (dg n).length) 0) rfl (by omega) (List.length_replicate ..) (Dg.zeros _)
  (fun t _ => by
   by_cases ht : t < (List.replicate ((dg m).length + (dg n).length) (0 : Int)).length
   ·rw [rd_get ht]; simp
   ·exact rd_out (by omega)) (by rw [vl_zeros, pv_zero, Nat.zero_mul])
 rw [vl_dg, vl_dg] at this
 exact this
theorem zmul_ev (a b : Int) (ha : Zs a) (hb : Zs b) (hab : Zs (a * b)) : Ev (fun k => gnomonref04_Mul.f k (zn a) (zl a) (zn b) (zl b)) (zn (a * b), zl (a * b)) := by
 unfold gnomonref04_Mul.f
 unfold Zs at ha hb hab
 refine Ev.bind (mul_ev a.natAbs b.natAbs ha hb) (pair_some ?_)
 rw [Int.natAbs_mul] at hab
 refine zmk_ev _ _ (by omega) (a * b) (Int.natAbs_mul a b) (fun h => ?_)
 have h0 : a ≠ 0 := fun e => h (by rw [e]; simp)
 have h1 : b ≠ 0 := fun e => h (by rw [e]; simp)
 unfold zn
 by_cases ca : a < 0
 ·by_cases cb : b < 0
  ·rw [decide_eq_true ca, decide_eq_true cb, decide_eq_false (by have := Int.mul_pos_of_neg_of_neg ca cb; omega)]; rfl
  ·rw [decide_eq_true ca, decide_eq_false cb, decide_eq_true (Int.mul_neg_of_neg_of_pos ca (by omega))]; rfl
 ·by_cases cb : b < 0
  ·rw [decide_eq_false ca, decide_eq_true cb, decide_eq_true (Int.mul_neg_of_pos_of_neg (by omega) cb)]; rfl
  ·rw [decide_eq_false ca, decide_eq_false cb, decide_eq_false (by have := Int.mul_pos (show 0 < a by omega) (show 0 < b by omega); omega)]; rfl
theorem pow2_ev (n : Nat) (hn : n < 1099511627776) : Ev (fun k => gnomonref01_Pow2.f k (n : Int)) (dg (2^n)) := by
 unfold gnomonref01_Pow2.f
 have h := shl_ev 1 n (by rw [dg_small (by decide) (by decide)]; decide) hn
 rw [Nat.one_mul] at h
 exact Ev.bind (word_ev 1 (by decide) (by decide)) (bind_some_ev h)
end Go.Proofs.YtapikmfckpgjoaaGreatDoor.Ref
end
section
set_option linter.unusedVariables false
namespace Go.Proofs.YtapikmfckpgjoaaGreatDoor.Sq
open Go.Proofs.YtapikmfckpgjoaaGreatDoor.BinLaw Go.Proofs.YtapikmfckpgjoaaGreatDoor.Ref Go.Proofs.YtapikmfckpgjoaaGreatDoor.Fm8 Go.Proofs.YtapikmfckpgjoaaGreatDoor.Rnd
structure Nq (F : Fmt) (n d s : Nat) : Prop where mk ::
 (le : s ≤ F.inf)
 (up : s < F.inf → 2 * n < md F 0 s * d ∨ (2 * n = md F 0 s * d ∧ s % 2 = 0))
 (dn : ∀ t, s = t + 1 → md F 0 t * d < 2 * n ∨ (md F 0 t * d = 2 * n ∧ s % 2 = 0))
theorem md_g (F : Fmt) (g s : Nat) : md F g s = md F 0 s * 2^g := by unfold md; rw [Nat.pow_zero, Nat.mul_one]
theorem nst_of_nq {F : Fmt} {g V s : Nat} (h : Nq F V (2^g) s) : Nst F g V s :=
 ⟨h.le, fun c => by rw [md_g]; exact h.up c, fun t e => by rw [md_g]; exact h.dn t e⟩
theorem nq_scale {F : Fmt} {n d s c : Nat} (hc : 0 < c) (h : Nq F (n * c) (d * c) s) : Nq F n d s := by
 have e : ∀ M, M * (d * c) = M * d * c := fun M => (Nat.mul_assoc _ _ _).symm
 have e2 : 2 * (n * c) = 2 * n * c := (Nat.mul_assoc _ _ _).symm
 refine ⟨h.le, fun k => ?_, fun t k => ?_⟩
 ·have := h.up k
  rw [e, e2] at this
  rcases this with q | ⟨q, q2⟩
  ·exact .inl (Nat.lt_of_mul_lt_mul_right q)
  ·exact .inr ⟨Nat.eq_of_mul_eq_mul_right hc q, q2⟩
 ·have := h.dn t k
  rw [e, e2] at this
  rcases this with q | ⟨q, q2⟩
  ·exact .inl (Nat.lt_of_mul_lt_mul_right q)
  ·exact .inr ⟨Nat.eq_of_mul_eq_mul_right hc q, q2⟩
theorem md_odd {f : Int} {F : Fmt} (h : Fm f F) (s : Nat) : md F 0 s = (2 * mgF F s + 1) * 2^(dF F s) := by
 unfold md
 rw [nF_next h, Nat.pow_zero, Nat.mul_one]
 unfold nF
 rw [Nat.add_mul, Nat.one_mul, Nat.mul_assoc 2]
 omega
end Go.Proofs.YtapikmfckpgjoaaGreatDoor.Sq
end
