/- The root of a number's square is the number, rounded; a root's cell squared holds the number: the plain law. Plain Lean over the functions. Condition: a list of words. -/
import Derived.Test.YtelfmddcjlocpaaGreatDoorKRoundRootedRnQ
import Derived.Test.YtelfmddcjlocpaaGreatDoorKRoundRootedPxX0
import Derived.Test.YtelfmddcjlocpaaGreatDoorKRoundRootedPxX1
import Derived.Test.YtelfmddcjlocpaaGreatDoorKRoundRootedPxL1
import Derived.Test.YtelfmddcjlocpaaGreatDoorKRoundRootedPxL0
import Derived.Test.YtelfmddcjlocpaaGreatDoorKRoundRootedPxQ0
import Derived.Test.YtelfmddcjlocpaaGreatDoorKRoundRootedPRefx0
import Derived.Test.YtelfmddcjlocpaaGreatDoorKRoundRootedPxV0
set_option linter.unusedVariables false
namespace Go.Proofs.YtelfmddcjlocpaaGreatDoor.RoundRootedL
open Go.RowKit Go.Proofs.YtelfmddcjlocpaaGreatDoorW.PrintWords Go.Proofs.YtelfmddcjlocpaaGreatDoorW.PrintMore Go.Proofs.YtelfmddcjlocpaaGreatDoor.Num Go.Proofs.YtelfmddcjlocpaaGreatDoor.PLib Go.Proofs.YtelfmddcjlocpaaGreatDoor.PRef Go.Proofs.YtelfmddcjlocpaaGreatDoor.Ref Go.Proofs.YtelfmddcjlocpaaGreatDoor.GTh Go.Proofs.YtelfmddcjlocpaaGreatDoor.Given Go.Proofs.YtelfmddcjlocpaaGreatDoor.Rp1 Go.Proofs.YtelfmddcjlocpaaGreatDoor.Rp2 Go.Proofs.YtelfmddcjlocpaaGreatDoor.Rp3 Go.Proofs.YtelfmddcjlocpaaGreatDoor.Rp4 Go.Proofs.YtelfmddcjlocpaaGreatDoor.Rp5 Go.Proofs.YtelfmddcjlocpaaGreatDoor.Rp7 Go.Proofs.YtelfmddcjlocpaaGreatDoor.BinLaw Go.Proofs.YtelfmddcjlocpaaGreatDoor.Fm8 Go.Proofs.YtelfmddcjlocpaaGreatDoor.Rnd Go.Proofs.YtelfmddcjlocpaaGreatDoor.Sq Go.Proofs.YtelfmddcjlocpaaGreatDoor.Sz Go.Proofs.YtelfmddcjlocpaaGreatDoor.SzR Go.Proofs.YtelfmddcjlocpaaGreatDoor.RnL Go.Proofs.YtelfmddcjlocpaaGreatDoor.RnN Go.Proofs.YtelfmddcjlocpaaGreatDoor.RnQ Go.Proofs.YtelfmddcjlocpaaGreatDoor.RnC
theorem bl_mul2 {m m' a b : Nat} (h : bl m ≤ a) (h' : bl m' ≤ b) : bl (m * m') ≤ a + b :=
 bl_le_of_lt (by rw [Nat.pow_add]; exact Nat.mul_lt_mul'' (Nat.lt_of_lt_of_le (bl_lt m) (Nat.pow_le_pow_right (by decide) h)) (Nat.lt_of_lt_of_le (bl_lt m') (Nat.pow_le_pow_right (by decide) h')))
theorem mul_dk {n n' : Bool} {m m' : Nat} {x x' : Int} (h : Dk n m x) (h' : Dk n' m' x') (m0 : m ≠ 0) (m0' : m' ≠ 0) (hl : nl (m * m') ≤ 8192) (h1 : -1048576 ≤ x + x') (h2 : x + x' ≤ 1048576) :
  Ev (fun k => dyadic_Mul.f k n (lb m) x n' (lb m') x') (n != n', lb (m * m'), x + x', 0) := by
 have mm := Nat.mul_ne_zero m0 m0'
 have od : (m * m') % 2 = 1 := by rw [Nat.mul_mod, h.odd m0, h'.odd m0']
 have e1 : num_Mul.f n (lb m) n' (lb m') = some (n != n', lb (m * m'), 0) := by
  unfold num_Mul.f
  rw [numForm_lb h.lim (fun e => absurd e m0), numForm_lb h'.lim (fun e => absurd e m0')]
  have e2 : natmul_Mul.f (lb m) (lb m') = some (lb (m * m'), 0) := by
   unfold natmul_Mul.f
   rw [if_pos ⟨fmL_lb h.lim, fmL_lb h'.lim, by rw [vL_lb, vL_lb]; exact hl⟩, vL_lb, vL_lb]
  simp only [Option.bind_some, if_true, e2, told_f, decide_eq_true mm, Bool.and_true]
 unfold dyadic_Mul.f
 have w : wrap64 (x + x') = x + x' := w64 (by omega) (by omega)
 rw [w]
 exact Ev.bind (form_dk h) (Ev.congr (fun k => if_pos rfl) (Ev.bind (form_dk h') (Ev.congr (fun k => if_pos rfl) (Ev.bind (rn_ev e1) (Ev.congr (fun k => if_pos rfl) (Ev.bind (make_odd hl od h1 h2) (Ev.now _)))))))
theorem sq_dk {n : Bool} {m : Nat} {x : Int} (h : Dk n m x) (m0 : m ≠ 0) (hb : bl m ≤ 20000) (h1 : -10000 ≤ x) (h2 : x ≤ 10000) :
  Dk false (m * m) (x + x) ∧ Ev (fun k => dyadic_Mul.f k n (lb m) x n (lb m) x) (false, lb (m * m), x + x, 0) := by
 have b2 := bl_mul2 hb hb
 have l2 : nl (m * m) ≤ 8192 := nl_nat (by omega)
 have e := mul_dk h h m0 m0 l2 (by omega) (by omega)
 have od : (m * m) % 2 = 1 := by rw [Nat.mul_mod, h.odd m0]
 rw [show (n != n) = false by cases n <;> rfl] at e
 exact ⟨⟨l2, fun c => absurd c (Nat.mul_ne_zero m0 m0), fun _ => od, by omega, by omega⟩, e⟩
theorem doc_root {f : Int} {F : Fmt} (h : Fm f F) {m : Nat} {x E : Int} (hd : Dk false m x) (m0 : m ≠ 0) (la : nl m ≤ 4096) (e1 : 2 * E ≤ x) (e2 : -1100000 ≤ E) (e3 : E ≤ F.low - 1) :
  ∃ s : Nat, Nr F (qn2 m x E) (qd2 F 1 E) s ∧ Ev (fun k => gnomonref08_DocRoot.f k f false (lb m) x) ((s : Int), 0) := by
 obtain ⟨G, oF⟩ := rn_of h
 have c := dyB_lb hd
 have ck := check_ok h c c
 have ba := bl_le_limbs m
 have ba' : bl m ≤ 1000000 := by omega
 have k2 := hd.high
 obtain ⟨s, nr, r2⟩ := SzR.size_evr h (A := m) (B := 1) (e := x) (E := E) ⟨m0, by decide, ba', by decide, e1, Int.le_trans k2 (by decide), e2, e3⟩ G ((F.qt : Nat) : Int)
 have nf : ¬ false = true := by decide
 have la' : ¬ decide (nl m > 4096) = true := by simpa using la
 have na0 : ¬ decide (m = 0) = true := by simpa using m0
 refine ⟨s, nr, ?_⟩
 unfold gnomonref08_DocRoot.f
 exact Ev.bind ck (Ev.congr (fun k => if_pos rfl) (Ev.congr (fun k => if_neg nf) (Ev.bind (rn_ev (docLong_f _ _ _)) (Ev.congr (fun k => if_neg la') (Ev.bind (rn_ev (nought_lb _ _ _)) (Ev.congr (fun k => if_neg na0) (Ev.bind (rn_ev oF) (Ev.bind (from_ev m hd.lim) (Ev.bind (word_ev 1 (by decide) (by decide)) (Ev.bind r2 (Ev.now _)))))))))))
theorem wf_lb (m : Nat) : Wf (lb m) := by
 intro v hv
 unfold lb at hv
 obtain ⟨j, -, rfl⟩ := List.mem_map.1 hv
 have : dw m j < 18446744073709551616 := by unfold dw; exact Nat.mod_lt _ (by decide)
 omega
theorem root_pos {f : Int} {F : Fmt} (h : Fm f F) {m : Nat} {x E : Int} (hd : Dk false m x) (m0 : m ≠ 0) (la : nl m ≤ 4096) (e1 : 2 * E ≤ x) (e2 : -1100000 ≤ E) (e3 : E ≤ F.low - 1) :
  ∃ s : Nat, Nr F (qn2 m x E) (qd2 F 1 E) s ∧ Ev (fun k => round_Root.f k f false (lb m) x) ((s : Int), 0) := by
 obtain ⟨s, nr, d⟩ := doc_root h hd m0 la e1 e2 e3
 obtain ⟨r, e, p, q⟩ := rn_root f false (lb m) (wf_lb m) x
 have := ev_uniq q d
 rw [this] at p
 exact ⟨s, nr, p⟩
theorem root_neg {f : Int} {F : Fmt} (h : Fm f F) {m : Nat} {x : Int} (hd : Dk true m x) : Ev (fun k => round_Root.f k f true (lb m) x) (0, 3) := by
 have f1 := form_dk hd
 unfold round_Root.f
 exact Ev.bind (rn_ev (of_f h)) (Ev.congr (fun k => if_neg (by rw [RnQ.wds h]; decide)) (Ev.bind f1 (Ev.congr (fun k => if_pos rfl) (Ev.congr (fun k => if_pos rfl) (Ev.now _)))))
theorem root_zero {f : Int} {F : Fmt} (h : Fm f F) : Ev (fun k => round_Root.f k f false (lb 0) 0) (0, 0) := by
 have hd : Dk false 0 0 := ⟨by decide, fun _ => ⟨rfl, rfl⟩, fun e => absurd rfl e, by decide, by decide⟩
 unfold round_Root.f
 exact Ev.bind (rn_ev (of_f h)) (Ev.congr (fun k => if_neg (by rw [RnQ.wds h]; decide)) (Ev.bind (form_dk hd) (Ev.congr (fun k => if_pos rfl) (Ev.congr (fun k => if_neg (by decide)) (Ev.bind (rn_ev (long_f _ _ _)) (Ev.congr (fun k => if_neg (by decide)) (Ev.congr (fun k => if_pos rfl) (Ev.now _))))))))
theorem nr_of_nst {F : Fmt} {g V s : Nat} (h : Nst F g V s) : Nr F (V * V) (2^g * 2^g) s := by
 have e : ∀ t, md F 0 t * md F 0 t * (2^g * 2^g) = md F g t * md F g t := fun t => by
  unfold md
  rw [Nat.pow_zero, Nat.mul_one]
  ac_rfl
 have e4 : 4 * (V * V) = (2 * V) * (2 * V) := by rw [show (4 : Nat) = 2 * 2 from rfl]; ac_rfl
 refine ⟨h.le, fun c => ?_, fun t ht => ?_⟩
 ·rw [e, e4]
  rcases h.up c with u | ⟨u, v⟩
  ·exact .inl (sq_lt u)
  ·exact .inr ⟨by rw [u], v⟩
 ·rw [e, e4]
  rcases h.dn t ht with u | ⟨u, v⟩
  ·exact .inl (sq_lt u)
  ·exact .inr ⟨by rw [u], v⟩
theorem cz_lt {p q : Nat} : cmZ (p : Int) (q : Int) < 0 ↔ p < q := by
 unfold cmZ
 by_cases c : p < q
 ·rw [if_pos (by omega)]; exact ⟨fun _ => c, fun _ => by decide⟩
 ·rw [if_neg (by omega)]
  split
  ·exact ⟨fun e => absurd e (by decide), fun e => absurd e c⟩
  ·exact ⟨fun e => absurd e (by decide), fun e => absurd e c⟩
theorem cz_le {p q : Nat} : cmZ (p : Int) (q : Int) ≤ 0 ↔ p ≤ q := by rw [cmZ_le]; omega
theorem fin_ev {e : Bool} {p q : Int} (h : (p < 0 ∧ q < 0) ∨ (e = true ∧ p ≤ 0 ∧ q ≤ 0)) : Ev (fun _ : Nat => if p < 0 then (if q < 0 then (some true) else (if e = true then (if p ≤ 0 then (some (decide (q ≤ 0))) else (some false)) else (some false))) else (if e = true then (if p ≤ 0 then (some (decide (q ≤ 0))) else (some false)) else (some false))) true := by
 by_cases c : p < 0 ∧ q < 0
 ·exact Ev.congr (fun k => if_pos c.1) (Ev.congr (fun k => if_pos c.2) (Ev.now _))
 ·obtain ⟨e, h1, h2⟩ := h.resolve_left c
  subst e
  have t : Ev (fun _ : Nat => if true = true then (if p ≤ 0 then some (decide (q ≤ 0)) else some false) else some false) true := by
   refine Ev.congr (fun k => if_pos rfl) (Ev.congr (fun k => if_pos h1) ?_)
   rw [decide_eq_true h2]
   exact Ev.now _
  by_cases c1 : p < 0
  ·exact Ev.congr (fun k => if_pos c1) (Ev.congr (fun k => if_neg (fun c2 => c ⟨c1, c2⟩)) t)
  ·exact Ev.congr (fun k => if_neg c1) t
theorem mid_sq {f : Int} {F : Fmt} (h : Fm f F) (s : Nat) {E : Int} (hE : E ≤ F.low - 1) (hE2 : E ≤ mdx F s) : 4 * ((mdm F s * mdm F s) * 2^(mdx F s + mdx F s - 2 * E).toNat) = md F 0 s * md F 0 s * qd2 F 1 E := by
 have v := mid_vs h false s E hE
 unfold vs at v
 rw [if_neg (by decide), if_neg (by decide)] at v
 have v' : mdm F s * 2^(mdx F s - E).toNat = (nF F s + nF F (s + 1)) * 2^(F.low - 1 - E).toNat := by exact_mod_cast v
 have e1 : (mdx F s + mdx F s - 2 * E).toNat = (mdx F s - E).toNat + (mdx F s - E).toNat := by omega
 have e2 : (F.low - E).toNat = (F.low - 1 - E).toNat + 1 := by omega
 have e3 : (mdm F s * mdm F s) * 2^(mdx F s + mdx F s - 2 * E).toNat = (mdm F s * 2^(mdx F s - E).toNat) * (mdm F s * 2^(mdx F s - E).toNat) := by rw [e1, Nat.pow_add]; ac_rfl
 rw [e3, v']
 unfold qd2 md
 rw [e2, Nat.pow_succ, Nat.pow_zero, Nat.one_mul, Nat.mul_one, show (4 : Nat) = 2 * 2 from rfl]
 ac_rfl
theorem tail_ev {f : Int} {F : Fmt} (h : Fm f F) {m : Nat} {x E : Int} (hd : Dk false m x) (m0 : m ≠ 0) (la : nl m ≤ 4096) (e1 : 2 * E ≤ x) (e2 : -1100000 ≤ E) (e3 : E ≤ F.low - 1) :
  Ev (fun k => (round_Root.f k f false (lb m) x).bind fun bt19 => ((gnomonlaw08_finite.f f bt19.1).bind fun bt20 => (if bt19.2 = 0 then (if bt20.1 = true then (if bt20.2 = true then (some (bt19.2 == 0)) else ((round_Cell.f k f bt19.1).bind fun bt21 => ((dyadic_Mul.f k bt21.1 bt21.2.1 bt21.2.2.1 bt21.1 bt21.2.1 bt21.2.2.1).bind fun bt22 => ((dyadic_Mul.f k bt21.2.2.2.1 bt21.2.2.2.2.1 bt21.2.2.2.2.2.1 bt21.2.2.2.1 bt21.2.2.2.2.1 bt21.2.2.2.2.2.1).bind fun bt23 => (if bt21.2.2.2.2.2.2.2 = 0 then (if bt22.2.2.2 = 0 then (if bt23.2.2.2 = 0 then ((gnomonlaw08_at.f k bt22.1 bt22.2.1 bt22.2.2.1 false (lb m) x).bind fun t24 => ((gnomonlaw08_at.f k false (lb m) x bt23.1 bt23.2.1 bt23.2.2.1).bind fun t25 => (if t24 < 0 then (if t25 < 0 then (some true) else (if bt21.2.2.2.2.2.2.1 = true then (if t24 ≤ 0 then (some (decide (t25 ≤ 0))) else (some false)) else (some false))) else (if bt21.2.2.2.2.2.2.1 = true then (if t24 ≤ 0 then (some (decide (t25 ≤ 0))) else (some false)) else (some false))))) else (some false)) else (some false)) else (some false)))))) else (some (bt19.2 == 0))) else (some (bt19.2 == 0))))) true := by
 have hz := h.sz
 obtain ⟨s, nr, r1⟩ := root_pos h hd m0 la e1 e2 e3
 have le := nr.le
 refine Ev.bind r1 ?_
 have ff := lawFin_pat h false (s := s) (by omega)
 have ep : pat F false s = s := by unfold pat; rw [if_neg (by decide)]
 rw [ep] at ff
 refine Ev.bind (rn_ev ff) (Ev.congr (fun k => if_pos rfl) ?_)
 by_cases c1 : s < F.inf
 rotate_left
 ·exact Ev.congr (fun k => if_neg (by simpa using c1)) (Ev.now _)
 refine Ev.congr (fun k => if_pos (decide_eq_true c1)) ?_
 by_cases c2 : s = 0
 ·exact Ev.congr (fun k => if_pos (decide_eq_true c2)) (Ev.now _)
 refine Ev.congr (fun k => if_neg (by simpa using c2)) ?_
 have cp := cell_pat h false c2 c1
 rw [ep] at cp
 rw [if_neg (by decide), if_neg (by decide)] at cp
 have d0 := mid_dk h false (s := s - 1) (by omega)
 have d1 := mid_dk h false (s := s) (by omega)
 have r0 := mdx_rng h (s := s - 1) (by omega)
 have r1' := mdx_rng h (s := s) (by omega)
 have bm : ∀ t, bl (mdm F t) ≤ 20000 := fun t => Nat.le_trans (bl_le_of_lt (k := 55) (by have := mg_lt h t; unfold mdm; omega)) (by decide)
 have z0 : ∀ t, mdm F t ≠ 0 := fun t => by unfold mdm; omega
 obtain ⟨q0, p0⟩ := sq_dk d0 (z0 _) (bm _) (by omega) (by omega)
 obtain ⟨q1, p1⟩ := sq_dk d1 (z0 _) (bm _) (by omega) (by omega)
 have a0 := at_ev q0 hd
 have a1 := at_ev hd q1
 rw [dcm_vs (E := 2 * E) (by omega) e1] at a0
 rw [dcm_vs (E := 2 * E) e1 (by omega)] at a1
 unfold vs at a0 a1
 simp only [if_neg (show ¬ false = true by decide)] at a0 a1
 refine Ev.bind cp (Ev.bind p0 (Ev.bind p1 (Ev.congr (fun k => if_pos rfl) (Ev.congr (fun k => if_pos rfl) (Ev.congr (fun k => if_pos rfl) (Ev.bind a0 (Ev.bind a1 (fin_ev ?_))))))))
 rw [cz_lt, cz_lt, cz_le, cz_le]
 have u := nr.up c1
 have d := nr.dn (s - 1) (by omega)
 rw [← mid_sq h s e3 (by omega)] at u
 rw [← mid_sq h (s - 1) e3 (by omega)] at d
 have en : qn2 m x E = m * 2^(x - 2 * E).toNat := rfl
 rw [en] at u d
 generalize m * 2^(x - 2 * E).toNat = V at *
 generalize mdm F s * mdm F s * 2^(mdx F s + mdx F s - 2 * E).toNat = M1 at *
 generalize mdm F (s - 1) * mdm F (s - 1) * 2^(mdx F (s - 1) + mdx F (s - 1) - 2 * E).toNat = M0 at *
 clear a0 a1
 by_cases z : s % 2 = 0
 ·exact .inr ⟨decide_eq_true z, by omega, by omega⟩
 ·exact .inl ⟨by omega, by omega⟩
theorem root_sq {f : Int} {F : Fmt} (h : Fm f F) {m : Nat} {x E : Int} (hd : Dk false m x) (hq : Dk false (m * m) (x + x)) (m0 : m ≠ 0) (la : nl (m * m) ≤ 4096) (e1 : E ≤ x) (e2 : -1100000 ≤ E) (e3 : E ≤ F.low - 1) :
  ∃ r : Nat, Ev (fun k => round_Root.f k f false (lb (m * m)) (x + x)) ((r : Int), 0) ∧ Ev (fun k => round_Nearest.f k f false (lb m) x) ((r : Int), 0) := by
 have nv := nearest_ev h hd e1 (show E ≤ F.low by omega)
 have hn := rsz_nst h (F.low - E).toNat (m * 2^(x - E).toNat)
 have er : rnd F false m x E = rsz F (F.low - E).toNat (m * 2^(x - E).toNat) := by unfold rnd; rw [if_neg m0]; unfold pat; rw [if_neg (by decide)]
 rw [er] at nv
 obtain ⟨s, nr, r1⟩ := root_pos h (E := E) hq (Nat.mul_ne_zero m0 m0) la (by omega) e2 e3
 have n2 := nr_of_nst hn
 have e4 : qn2 (m * m) (x + x) E = (m * 2^(x - E).toNat) * (m * 2^(x - E).toNat) := by
  unfold qn2
  rw [show (x + x - 2 * E).toNat = (x - E).toNat + (x - E).toNat by omega, Nat.pow_add]
  ac_rfl
 have e5 : qd2 F 1 E = 2^(F.low - E).toNat * 2^(F.low - E).toNat := by unfold qd2; rw [Nat.one_mul]
 rw [e4, e5] at nr
 have := nr_uniq h (Nat.mul_pos (Nat.two_pow_pos _) (Nat.two_pow_pos _)) nr n2
 rw [← this] at nv
 exact ⟨s, r1, nv⟩
theorem num_9 : Ev (fun k => gnomonlaw08_num.f k 9 (-2)) (false, lb 9, -2) := Ev.of (fun k => gnomonlaw08_num.mono _ _ k) (k := 200) (by decide +kernel)
theorem easy_ev (n : Bool) (l : List Int) (x : Int) : ∃ b : Bool, Ev (fun k => gnomonlaw08_easy.f k n l x) b ∧ (b = true → dyB n l x = true ∧ l.length ≤ 300 ∧ -5000 ≤ x ∧ x ≤ 5000) := by
 have g := docForm_ev n l x
 unfold gnomonlaw08_easy.f
 cases e : dyB n l x
 ·rw [e] at g
  exact ⟨false, Ev.bind g (Ev.congr (fun k => if_neg (by decide)) (Ev.now _)), fun c => by cases c⟩
 rw [e] at g
 by_cases c1 : (l.length : Int) ≤ 300
 rotate_left
 ·exact ⟨false, Ev.bind g (Ev.congr (fun k => if_pos rfl) (Ev.congr (fun k => if_neg c1) (Ev.now _))), fun c => by cases c⟩
 by_cases c2 : x ≥ (-5000)
 rotate_left
 ·exact ⟨false, Ev.bind g (Ev.congr (fun k => if_pos rfl) (Ev.congr (fun k => if_pos c1) (Ev.congr (fun k => if_neg c2) (Ev.now _)))), fun c => by cases c⟩
 refine ⟨decide (x ≤ 5000), Ev.bind g (Ev.congr (fun k => if_pos rfl) (Ev.congr (fun k => if_pos c1) (Ev.congr (fun k => if_pos c2) (Ev.now _)))), fun c => ⟨rfl, by omega, c2, of_decide_eq_true c⟩⟩
theorem root_9 : Ev (fun k => round_Root.f k 64 false (lb 9) (-2)) (4609434218613702656, 0) := Ev.of (fun k => round_Root.mono _ _ _ _ k) (k := 200) (by decide +kernel)
theorem mul_zero_ev : Ev (fun k => dyadic_Mul.f k false (lb 0) 0 false (lb 0) 0) (false, lb 0, 0, 0) := Ev.of (fun k => dyadic_Mul.mono _ _ _ _ _ _ k) (k := 200) (by decide +kernel)
theorem rooted_law (b neg : Bool) (l : List Int) (x : Int) (hw : Wf l) : Ev (fun k => gnomonlaw08_RoundRooted.f k b neg l x) true := by
 obtain ⟨f, F, h, ef⟩ := format_f b
 have hz := h.sz
 have hl := sz_low h
 unfold gnomonlaw08_RoundRooted.f
 refine Ev.bind (rn_ev ef) (Ev.bind num_9 (Ev.bind root_9 (Ev.congr (fun k => if_pos rfl) (Ev.congr (fun k => if_pos rfl) (Ev.bind RnAw.rn_awake (Ev.congr (fun k => if_pos rfl) ?_))))))
 obtain ⟨ea, e1, e2⟩ := easy_ev neg l x
 refine Ev.bind e1 ?_
 by_cases c : ea = true
 rotate_left
 ·exact Ev.congr (fun k => if_neg c) (Ev.now _)
 refine Ev.congr (fun k => if_pos c) ?_
 obtain ⟨c1, c2, c3, c4⟩ := e2 c
 obtain ⟨m, rfl, hd⟩ := dk_of hw c1
 rw [lb_len] at c2
 by_cases m0 : m = 0
 ·subst m0
  obtain ⟨rfl, rfl⟩ := hd.zero rfl
  have nv := nearest_ev h hd (E := F.low - 1) (by omega) (by omega)
  have er : rnd F false 0 0 (F.low - 1) = 0 := by unfold rnd; rw [if_pos rfl]
  rw [er] at nv
  have ff := lawFin_pat h false (s := 0) (by omega)
  have ep : pat F false 0 = 0 := by unfold pat; rw [if_neg (by decide)]
  rw [ep] at ff
  refine Ev.bind mul_zero_ev (Ev.bind (root_zero h) (Ev.congr (fun k => if_neg (by decide)) (Ev.bind nv (Ev.congr (fun k => if_pos rfl) (Ev.congr (fun k => if_pos rfl) (Ev.congr (fun k => if_pos rfl) (Ev.congr (fun k => if_pos rfl) (Ev.bind (root_zero h) (Ev.bind (rn_ev ff) (Ev.congr (fun k => if_pos rfl) ?_))))))))))
  exact Ev.congr (fun k => if_pos (decide_eq_true hz.1)) (Ev.congr (fun k => if_pos rfl) (Ev.now _))
 have bm := bl_le_limbs m
 have bm2 : bl m ≤ 20000 := by omega
 have la : nl m ≤ 4096 := by omega
 obtain ⟨hq, mq⟩ := sq_dk hd m0 bm2 (by omega) (by omega)
 have la2 : nl (m * m) ≤ 4096 := by
  have := bl_mul2 (a := 19200) (b := 19200) (m := m) (m' := m) (by omega) (by omega)
  unfold nl
  omega
 have hd2 : Dk false m x := ⟨hd.lim, fun e => absurd e m0, hd.odd, hd.low, hd.high⟩
 obtain ⟨E, t1, t2, t3, t4⟩ : ∃ E : Int, 2 * E ≤ x ∧ E ≤ x ∧ -1100000 ≤ E ∧ E ≤ F.low - 1 := ⟨-10000, by omega, by omega, by omega, by omega⟩
 obtain ⟨r, s1, s2⟩ := root_sq h hd2 hq m0 la2 t2 t3 t4
 have tl := tail_ev h hd2 m0 la t1 t3 t4
 refine Ev.bind mq (Ev.bind s1 ?_)
 cases neg
 ·exact Ev.congr (fun k => if_neg (by decide)) (Ev.bind s2 (Ev.congr (fun k => if_pos rfl) (Ev.congr (fun k => if_pos rfl) (Ev.congr (fun k => if_pos rfl) (Ev.congr (fun k => if_pos rfl) tl)))))
 ·have ng : Ev (fun k => dyadic_Neg.f k true (lb m) x) (false, lb m, x, 0) := by
   unfold dyadic_Neg.f
   refine Ev.bind (form_dk hd) (Ev.congr (fun k => if_pos rfl) ?_)
   simp only [twin_f _ _ hd.lim, Option.bind_some]
   exact Ev.congr (fun k => if_pos trivial) (Ev.now _)
  exact Ev.congr (fun k => if_pos rfl) (Ev.bind ng (Ev.bind (root_neg h hd) (Ev.congr (fun k => if_pos rfl) (Ev.congr (fun k => if_pos rfl) (Ev.congr (fun k => if_pos rfl) (Ev.bind s2 (Ev.congr (fun k => if_pos rfl) (Ev.congr (fun k => if_pos rfl) (Ev.congr (fun k => if_pos rfl) (Ev.congr (fun k => if_pos rfl) tl))))))))))
end Go.Proofs.YtelfmddcjlocpaaGreatDoor.RoundRootedL
