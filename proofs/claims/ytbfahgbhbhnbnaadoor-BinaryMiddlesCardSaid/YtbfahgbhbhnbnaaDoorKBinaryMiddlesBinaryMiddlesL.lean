/- A midpoint is as far from its pattern as from the next one, and no number of the format: the plain law. Plain Lean over the functions. Condition: words below 2^64. -/
import Derived.Test.YtbfahgbhbhnbnaaDoorKBinaryMiddlesRp7
import Derived.Test.YtbfahgbhbhnbnaaDoorKBinaryMiddlesPxTz
import Derived.Test.YtbfahgbhbhnbnaaDoorKBinaryMiddlesPxL1
import Derived.Test.YtbfahgbhbhnbnaaDoorKBinaryMiddlesPxL0
set_option linter.unusedVariables false
namespace Go.Proofs.YtbfahgbhbhnbnaaDoor.BinaryMiddlesL
open Go.RowKit Go.Proofs.YtbfahgbhbhnbnaaDoorW.PrintWords Go.Proofs.YtbfahgbhbhnbnaaDoorW.PrintMore Go.Proofs.YtbfahgbhbhnbnaaDoor.Num Go.Proofs.YtbfahgbhbhnbnaaDoor.PLib Go.Proofs.YtbfahgbhbhnbnaaDoor.Ref Go.Proofs.YtbfahgbhbhnbnaaDoor.GTh Go.Proofs.YtbfahgbhbhnbnaaDoor.Given Go.Proofs.YtbfahgbhbhnbnaaDoor.Rp1 Go.Proofs.YtbfahgbhbhnbnaaDoor.Rp2 Go.Proofs.YtbfahgbhbhnbnaaDoor.Rp3 Go.Proofs.YtbfahgbhbhnbnaaDoor.Rp4 Go.Proofs.YtbfahgbhbhnbnaaDoor.Rp5 Go.Proofs.YtbfahgbhbhnbnaaDoor.Rp7 Go.Proofs.YtbfahgbhbhnbnaaDoor.BinLaw Go.Proofs.YtbfahgbhbhnbnaaDoor.Fm8
theorem awake_ev : Ev (fun k => gnomonlaw07_awake.f k) true := Ev.of (fun k => gnomonlaw07_awake.mono k) (k := 80) (by decide +kernel)
theorem fin_f {f : Int} {F : Fmt} (h : Fm f F) (b : Nat) : gnomonlaw07_finite.f f (b : Int) = some (decide (b % F.sg < F.inf ∧ (F.wd = 32 → b < 2 * F.sg))) := by
 rcases h with ⟨rfl, rfl⟩ | ⟨rfl, rfl⟩
 ·have s1 : fS.sg = 2147483648 := rfl
  have s2 : fS.inf = 2139095040 := rfl
  have s3 : fS.wd = 32 := rfl
  unfold gnomonlaw07_finite.f
  rw [if_pos rfl, Int.tmod_eq_emod_of_nonneg (by omega)]
  by_cases c : b < 4294967296
  ·rw [if_pos (by omega)]
   refine congrArg some (decide_eq_decide.2 ?_)
   rw [s1, s2, s3]
   exact ⟨fun h => ⟨by omega, fun _ => by omega⟩, fun h => by have := h.1; omega⟩
  ·rw [if_neg (by omega)]
   refine congrArg some (decide_eq_false ?_).symm
   rw [s1, s2, s3]
   intro h
   have := h.2 rfl
   omega
 ·have s1 : fD.sg = 9223372036854775808 := rfl
  have s2 : fD.inf = 9218868437227405312 := rfl
  have s3 : fD.wd = 64 := rfl
  unfold gnomonlaw07_finite.f
  rw [if_neg (by decide), if_pos rfl, Int.tmod_eq_emod_of_nonneg (by omega)]
  refine congrArg some (decide_eq_decide.2 ?_)
  rw [s1, s2, s3]
  exact ⟨fun h => ⟨by omega, fun e => absurd e (by decide)⟩, fun h => by have := h.1; omega⟩
theorem fin_no {f : Int} (h : f ≠ 32) (h' : f ≠ 64) (b : Int) : gnomonlaw07_finite.f f b = some false := by
 unfold gnomonlaw07_finite.f
 rw [if_neg h, if_neg h']
theorem sgn_f {f : Int} {F : Fmt} (h : Fm f F) : gnomonlaw07_sign.f f = some ((F.sg : Nat) : Int) := by
 rcases h with ⟨rfl, rfl⟩ | ⟨rfl, rfl⟩ <;> rfl
theorem refSame_ev (l : List Int) (hl : l.length < 9223372036854775807) : Ev (fun k => gnomonref01_Same.f k l l) true := by
 unfold gnomonref01_Same.f
 refine Ev.congr (fun k => if_pos rfl) ?_
 have key : ∀ (n i : Nat), i + n = l.length → Ev (fun k => gnomonref01_Same.l0 k l l (i : Int)) true := by
  intro n
  induction n with
  | zero =>
   intro i hi
   exact Ev.step (f := fun _ => some true) (fun k => by rw [gnomonref01_Same.l0, if_neg (by omega)]) (Ev.now _)
  | succ n ih =>
   intro i hi
   refine Ev.step (f := fun k => gnomonref01_Same.l0 k l l ((i + 1 : Nat) : Int)) (fun k => ?_) (ih (i + 1) (by omega))
   rw [gnomonref01_Same.l0, if_pos (by omega), if_pos (by omega), if_pos (by omega), if_pos rfl, w64 (by omega) (by omega), show (i : Int) + 1 = ((i + 1 : Nat) : Int) by omega]
 exact key l.length 0 (by omega)
theorem same_ev (n : Bool) (l : List Int) (x : Int) (hl : l.length < 9223372036854775807) : Ev (fun k => gnomonlaw07_same.f k n l x n l x) true := by
 unfold gnomonlaw07_same.f
 refine Ev.congr (fun k => if_pos rfl) (Ev.bind (refSame_ev l hl) (Ev.congr (fun k => if_pos rfl) ?_))
 rw [beq_self_eq_true]
 exact Ev.now _
theorem ev_eq {α : Type} {o : Option α} {v : α} (h : o = some v) : Ev (fun _ => o) v := by rw [h]; exact Ev.now _
theorem shapeOf_f {f : Int} {F : Fmt} (h : Fm f F) : binary_shapeOf.f f = some ((F.wd : Int), (F.man : Int), F.low, (F.qt : Int)) := by
 rcases h with ⟨rfl, rfl⟩ | ⟨rfl, rfl⟩ <;> rfl
theorem shape_ne {f : Int} {F : Fmt} (h : Fm f F) : ((F.wd : Int) == 0 && ((F.man : Int) == 0 && (F.low == 0 && ((F.qt : Int) == 0)))) = false := by
 rcases h with ⟨_, rfl⟩ | ⟨_, rfl⟩ <;> rfl
theorem join_far {f : Int} {F : Fmt} (h : Fm f F) (neg : Bool) {s : Nat} (hs : s < F.sg) : binary_Join.f f neg ((mdm F s : Nat) : Int) (mdx F s) = some (0, 5) := by
 have hr := mdx_rng h hs
 have hm := mg_lt h s
 have hd := dF_le h hs
 have hx := xp_d F s
 have hfm := fm_man h
 have hmx : mdx F s = F.low + ((dF F s : Nat) : Int) - 1 := by unfold mdx; rw [hx]
 have ho : mdm F s < 18446744073709551616 := by unfold mdm; omega
 have ht : tz (mdm F s) = 0 := tz_eq ⟨mdm F s / 2, by rw [Nat.pow_zero]; unfold mdm; omega⟩
 have e0 : shr .u64 ((mdm F s : Nat) : Int) 0 = ((mdm F s : Nat) : Int) := by
  have := shr_small (k := .u64) (x := ((mdm F s : Nat) : Int)) (y := 0) rfl (by decide)
  rw [← this]; simp
 have w0 : wrap64 (mdx F s + 0) = mdx F s := by rw [Int.add_zero, w64 (by omega) (by omega)]
 unfold binary_Join.f
 rw [shapeOf_f h, Option.bind_some]
 dsimp only
 rw [shape_ne h, if_neg (by decide), if_neg (by unfold mdm; omega), w64 (x := F.low - 64) (by omega) (by omega), if_neg (by omega), w64 (x := F.low + 4096) (by omega) (by omega), if_neg (by omega)]
 unfold bits_TrailingZeros64.f
 rw [if_pos ⟨by unfold mdm; omega, by omega⟩, Int.toNat_natCast, ht, Option.bind_some, if_pos (by decide), show ((0 : Nat) : Int) = 0 from rfl, e0, w0]
 unfold bits_Len64.f
 rw [if_pos ⟨by omega, by omega⟩, Int.toNat_natCast, Option.bind_some]
 by_cases c : ((bl (mdm F s) : Nat) : Int) > (F.man : Int)
 ·rw [if_pos c]
 ·rw [if_neg c, if_pos]
  by_cases c2 : s / hdF F = 0
  ·have : dF F s = 0 := by unfold dF; omega
   omega
  ·exfalso
   apply c
   have hh := fm_hd h
   have hg : hdF F ≤ mgF F s := by unfold mgF; rw [if_neg c2]; omega
   have hp : hdF F * 2 = 2^F.man := by
    rw [hh.2.2.2.2.2.1, ← Nat.pow_succ]
    congr 1
    omega
   rcases Nat.lt_or_ge F.man (bl (mdm F s)) with q | q
   ·omega
   ·exfalso
    have q1 := bl_lt (mdm F s)
    have q2 := Nat.pow_le_pow_right (n := 2) (by decide) q
    have hmd : mdm F s = 2 * mgF F s + 1 := rfl
    generalize bl (mdm F s) = B at *
    generalize 2^B = X at *
    generalize 2^F.man = Y at *
    omega
theorem law_ev (f : Int) (a : Nat) (ha : a < 18446744073709551616) : Ev (fun k => gnomonlaw07_BinaryMiddles.f k f (a : Int)) true := by
 unfold gnomonlaw07_BinaryMiddles.f
 refine Ev.bind awake_ev (Ev.congr (fun k => if_pos rfl) ?_)
 rcases fm_cases f with ⟨F, h⟩ | ⟨h1, h2⟩
 rotate_left
 ·exact Ev.bind (ev_eq (fin_no h1 h2 _)) (Ev.congr (fun k => if_neg (by decide)) (Ev.now _))
 have hz := h.sz
 refine Ev.bind (ev_eq (fin_f h a)) ?_
 by_cases c : a % F.sg < F.inf ∧ (F.wd = 32 → a < 2 * F.sg)
 rotate_left
 ·rw [decide_eq_false c]
  exact Ev.congr (fun k => if_neg (by decide)) (Ev.now _)
 rw [decide_eq_true c]
 refine Ev.congr (fun k => if_pos rfl) (Ev.bind (ev_eq (sgn_f h)) (Ev.congr (fun k => if_neg (by omega)) ?_))
 have hab : a < 2 * F.sg := by
  rcases h with ⟨_, rfl⟩ | ⟨_, rfl⟩
  ·exact c.2 rfl
  ·show a < 2 * 9223372036854775808; omega
 have hm : Int.tmod (a : Int) ((F.sg : Nat) : Int) = ((a % F.sg : Nat) : Int) := (Int.ofNat_tmod a F.sg).symm
 have hsl : a % F.sg < F.sg := Nat.mod_lt _ (by omega)
 rw [hm, wu64 (by omega) (by omega), show ((a % F.sg : Nat) : Int) + 1 = ((a % F.sg + 1 : Nat) : Int) by omega]
 refine Ev.bind (ev_eq (fin_f h _)) ?_
 by_cases c2 : (a % F.sg + 1) % F.sg < F.inf ∧ (F.wd = 32 → a % F.sg + 1 < 2 * F.sg)
 rotate_left
 ·rw [decide_eq_false c2]
  exact Ev.congr (fun k => if_neg (by decide)) (Ev.now _)
 rw [decide_eq_true c2]
 refine Ev.congr (fun k => if_pos rfl) ?_
 obtain ⟨s, hs⟩ : ∃ s, s = a % F.sg := ⟨_, rfl⟩
 have hs1 : s + 1 < F.inf := by
  have := c2.1
  rw [← hs, Nat.mod_eq_of_lt (by omega)] at this
  exact this
 obtain ⟨neg, hneg⟩ : ∃ neg, neg = decide (F.sg ≤ a) := ⟨_, rfl⟩
 have hp := (pat_of hab (by omega)).1
 rw [← hs, ← hneg] at hp
 have hp1 : a + 1 = pat F neg (s + 1) := by
  unfold pat at hp ⊢
  clear hneg
  cases neg
  ·simp only [Bool.false_eq_true, if_false] at hp ⊢
   omega
  ·simp only [if_true] at hp ⊢
   omega
 have hsg : s < F.sg := by omega
 have dm : Dy (F.low - 1) neg (mdm F s) (mdx F s) (sv neg (nF F s + nF F (s + 1))) := by
  refine ⟨mid_dk h neg hsg, (mdx_rng h hsg).1, ?_⟩
  rw [mid_vs h neg s (F.low - 1) (Int.le_refl _), show (F.low - 1 - (F.low - 1)).toNat = 0 by omega, Nat.pow_zero, Nat.mul_one]
  rfl
 have em := mid_pat h neg (show s < F.inf by omega)
 have hfm := fm_man h
 obtain ⟨n2, m2, x2, d2, e2⟩ := value_pat h neg (show s < F.inf by omega) (E := F.low - 1) (by omega) (by omega)
 obtain ⟨n3, m3, x3, d3, e3⟩ := value_pat h neg hs1 (E := F.low - 1) (by omega) (by omega)
 rw [show (F.low - (F.low - 1)).toNat = 1 by omega, Nat.pow_one] at d2 d3
 rw [← hp] at em e2
 rw [← hp1] at e3
 have hnx := nF_step h s
 have b : ∀ t, t ≤ s + 1 → bl (nF F t) ≤ 2101 := fun t ht => bl_nF h (by omega)
 obtain ⟨n4, m4, x4, d4, e4⟩ := sub_dy dm d2 (by omega) (by omega) (by rw [sv_abs]; exact Nat.le_trans (bl_add (b s (by omega)) (b (s + 1) (by omega))) (by decide)) (by rw [sv_abs, Nat.mul_two]; exact Nat.le_trans (bl_add (b s (by omega)) (b s (by omega))) (by decide))
 obtain ⟨n5, m5, x5, d5, e5⟩ := sub_dy d3 dm (by omega) (by omega) (by rw [sv_abs, Nat.mul_two]; exact Nat.le_trans (bl_add (b (s + 1) (by omega)) (b (s + 1) (by omega))) (by decide)) (by rw [sv_abs]; exact Nat.le_trans (bl_add (b s (by omega)) (b (s + 1) (by omega))) (by decide))
 rw [sv_sub neg _ _ (by omega), show nF F s + nF F (s + 1) - nF F s * 2 = nF F (s + 1) - nF F s by omega] at d4
 rw [sv_sub neg _ _ (by omega), show nF F (s + 1) * 2 - (nF F s + nF F (s + 1)) = nF F (s + 1) - nF F s by omega] at d5
 obtain ⟨rfl, rfl, rfl⟩ := d4.uniq d5
 have m0 : m4 ≠ 0 := by
  intro e
  have := d4.zero.1 e
  have q := sv_abs neg (nF F (s + 1) - nF F s)
  rw [this] at q
  have : (0 : Int).natAbs = 0 := rfl
  omega
 have p0 := nl_pos m0
 have hmg := mg_lt h s
 have l1 : nl (mdm F s) = 1 := nl_one (by unfold mdm; omega) (by unfold mdm; omega)
 have hrd : rd (lb (mdm F s)) 0 = ((mdm F s : Nat) : Int) := by
  have := lb_rd (x := mdm F s) (j := 0) (by omega)
  rw [show (0 : Int) = ((0 : Nat) : Int) from rfl, this]
  unfold dw
  rw [pw_zero, Nat.div_one, Nat.mod_eq_of_lt]
  unfold mdm; omega
 refine Ev.bind em (Ev.bind e2 ?_)
 rw [wu64 (x := (a : Int) + 1) (by omega) (by
  have : a + 1 < 2 * F.sg := by rw [hp1]; exact pat_lt F neg (by omega)
  omega), show (a : Int) + 1 = ((a + 1 : Nat) : Int) by omega]
 refine Ev.bind e3 (Ev.bind e4 (Ev.bind e5 ?_))
 refine Ev.congr (fun k => if_pos rfl) (Ev.congr (fun k => if_pos rfl) (Ev.congr (fun k => if_pos rfl) (Ev.congr (fun k => if_pos rfl) (Ev.congr (fun k => if_pos rfl) ?_))))
 refine Ev.bind (same_ev _ _ _ (by rw [lb_len]; have := d4.dk.lim; omega)) (Ev.congr (fun k => if_pos rfl) (Ev.congr (fun k => if_neg (by rw [lb_len]; omega)) (Ev.congr (fun k => if_pos (by rw [lb_len, l1]; rfl)) (Ev.congr (fun k => if_pos (by rw [lb_len, l1]; decide)) ?_))))
 rw [hrd]
 exact Ev.bind (ev_eq (join_far h neg hsg)) (Ev.now _)
theorem law_row (a0 a1 : Int) (w0 : (Lit.int .i64 a0).wf = true) (w1 : (Lit.int .u64 a1).wf = true) : Ev (fun k => gnomonlaw07_BinaryMiddles.f k a0 a1) true := by
 have e1 : IntKind.u64.min = 0 := rfl
 have e2 : IntKind.u64.max = 18446744073709551615 := rfl
 have h1 : IntKind.u64.min ≤ a1 ∧ a1 ≤ IntKind.u64.max := by simpa [Lit.wf] using w1
 have q := law_ev a0 a1.toNat (by omega)
 rw [show ((a1.toNat : Nat) : Int) = a1 by omega] at q
 exact q
end Go.Proofs.YtbfahgbhbhnbnaaDoor.BinaryMiddlesL
