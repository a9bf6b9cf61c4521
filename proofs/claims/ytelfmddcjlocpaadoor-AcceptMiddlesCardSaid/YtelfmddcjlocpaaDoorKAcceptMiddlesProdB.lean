/- The contract of Accept and of the statements' ask: the answer, by the float operations. Conditions: words below 2^64. What TwoSum, FastTwoSum, Split and TwoProd answer, in whole numbers of units: the rounded sum (product), and just what is missing. Conditions: the document's bounds on the numbers. What Split and TwoProd answer, in whole numbers of units: a cut in two, the rounded product, and just what is missing. Conditions: the document's bounds on the numbers. What TwoProd answers: the rounded product, and just what is missing; and how little that is. Conditions: the document's bounds on the numbers. -/
import Derived.Test.YtelfmddcjlocpaaDoorKAcceptMiddlesLdexp
import Derived.Test.YtelfmddcjlocpaaDoorKAcceptMiddlesEft
section
namespace Go.Proofs.YtelfmddcjlocpaaDoor.AccW
open Go.RowKit Go.Proofs.YtelfmddcjlocpaaDoor.FW Go.Proofs.YtelfmddcjlocpaaDoor.Eft Fl
def E15 (i : Int) : Nat := ((i + 1023) * 4503599627370496 + 2251799813685248).toNat
def LdW (i : Int) (w : World) (e : Ending) (w' : World) : Prop := ∃ r, e = .returned (.float .f64 r) ∧ FOp .mul 4607182418800017408 (E15 i) r ∧ Drew w w'
theorem ldexpW_any (i : Int) (c1 : -100 ≤ i) (c2 : i ≤ -56) (w : World) : Calls Tryd.prog 85 #[.float .f64 4609434218613702656, .int .i64 i] w (LdW i w) := by
 go_enter Tryd.func85, Tryd.ntmps85
 go_wp2_with fail
 refine (ldexp_any i c1 c2 _).mono ?_
 rintro e w1 ⟨r, rfl, hr, hd⟩
 go_wp2_with fail
 go_ret
 exact ⟨r, rfl, hr, hd⟩
structure Way (x y : Nat) (i : Int) (u d : Nat) : Prop where mk :: (out : ∃ L m u1 d1, FOp .mul 4607182418800017408 (E15 i) L ∧ FOp .mul (sz x) L m ∧ FOp .add y m u1 ∧ FOp .add x u1 u ∧ FOp .sub y m d1 ∧ FOp .add x d1 d)
def AcceptR (x y : Nat) (i : Int) (r : Nat) (ok : Bool) : Prop :=
 (FitR x y i false ∧ r = 0 ∧ ok = false) ∨ (FitR x y i true ∧ ∃ u d, Way x y i u d ∧ (((FloatKind.f64.format.order u d != some .eq) = true ∧ r = 0 ∧ ok = false) ∨ ((FloatKind.f64.format.order u d != some .eq) = false ∧ r = u ∧ ok = true)))
def AcceptW (x y : Nat) (i : Int) (w : World) (e : Ending) (w' : World) : Prop := ∃ (r : Nat) (ok : Bool), e = .returned (.tuple #[.int .u64 r, .bool ok]) ∧ AcceptR x y i r ok ∧ Below w.heap.size w w'
theorem FitR.range {x y : Nat} {i : Int} (h : FitR x y i true) : -100 ≤ i ∧ i ≤ -56 := by
 rcases h with h | h
 ·exact ⟨h.1, h.2.1⟩
 ·exact absurd h.2 (by decide)
theorem drewN_b {w0 w : World} (h : Below w0.heap.size w0 w) (n : Nat) : Below w0.heap.size w0 (w.drewN n) := Drew.to_below h ⟨⟨n, rfl⟩⟩
set_option maxHeartbeats 4000000 in
theorem accept_any (x y : Nat) (i : Int) (hx : x < 18446744073709551616) (hy : y < 18446744073709551616) (w : World) : Calls Tryd.prog 55 #[.agg #[.float .f64 x, .float .f64 y], .int .i64 i] w (AcceptW x y i w) := by
 have hb := call_bits
 go_enter Tryd.func55, Tryd.ntmps55
 go_wp2_with fail
 refine (fit_any x y i hx hy _).mono ?_
 rintro e w1 ⟨c, rfl, hc, hb1⟩
 have hB : Below w.heap.size w w1 := (box_below w _ 0).trans (hb1.mono (box_below w _ 0).size)
 cases c with
 | false =>
  go_wp2_with fail
  go_ret2
  exact ⟨0, false, rfl, Or.inl ⟨hc, rfl, rfl⟩, hB⟩
 | true =>
  obtain ⟨r1, r2⟩ := hc.range
  have q0 : w1.cell? ⟨w.heap.size, 0, none⟩ = some (.float .f64 x) := by
   rw [hb1.cell (p := ⟨w.heap.size, 0, none⟩) (by go_simp)]
   go_simp
  have q1 : w1.cell? ⟨w.heap.size, 1, none⟩ = some (.float .f64 y) := by
   rw [hb1.cell (p := ⟨w.heap.size, 1, none⟩) (by go_simp)]
   go_simp
  go_wp2_with fail
  refine (abs_any x hx _).mono ?_
  rintro e w2 ⟨rfl, rfl⟩
  go_wp2_with fail
  refine (ldexpW_any i r1 r2 _).mono ?_
  rintro e w3 ⟨L, rfl, hL, hd⟩
  obtain ⟨n, rfl⟩ := hd.out
  have tok1 : True := trivial
  have tok2 : True := trivial
  have tok3 : True := trivial
  have tok4 : True := trivial
  have tok5 : True := trivial
  go_wp2_with (first | (have _t := tok1; refine wpList_fop .mul (by simp) rfl rfl rfl rfl ?_; intro m wm hm hdm; obtain ⟨nm, rfl⟩ := hdm.out; clear tok1) | (have _t := tok2; refine wpList_fop .add (by simp) rfl rfl rfl rfl ?_; intro u1 wu1 hu1 hdu1; obtain ⟨nu1, rfl⟩ := hdu1.out; clear tok2) | (have _t := tok3; refine wpList_fop .add (by simp) rfl rfl rfl rfl ?_; intro u wu hu hdu; obtain ⟨nu, rfl⟩ := hdu.out; clear tok3) | (have _t := tok4; refine wpList_fop .sub (by simp) rfl rfl rfl rfl ?_; intro d1 wd1 hd1 hdd1; obtain ⟨nd1, rfl⟩ := hdd1.out; clear tok4) | (have _t := tok5; refine wpList_fop .add (by simp) rfl rfl rfl rfl ?_; intro d wd hd2 hdd; obtain ⟨nd, rfl⟩ := hdd.out; clear tok5))
  ·rename_i hne
   go_ret2
   exact ⟨0, false, rfl, Or.inr ⟨hc, u, d, ⟨_, _, _, _, hL, hm, hu1, hu, hd1, hd2⟩, Or.inl ⟨hne, rfl, rfl⟩⟩, drewN_b hB _⟩
  ·rename_i heq
   go_ret2
   exact ⟨u, true, rfl, Or.inr ⟨hc, u, d, ⟨_, _, _, _, hL, hm, hu1, hu, hd1, hd2⟩, Or.inr ⟨heq, rfl, rfl⟩⟩, drewN_b hB _⟩
theorem ask_any (x y : Int) (i : Int) (hx : x.toNat < 18446744073709551616) (hy : y.toNat < 18446744073709551616) (w : World) : Calls Tryd.prog 28 #[.int .u64 x, .int .u64 y, .int .i64 i] w (AcceptW x.toNat y.toNat i w) := by
 have hf := call_from
 go_enter Tryd.func28, Tryd.ntmps28
 go_wp2_with fail
 refine (accept_any x.toNat y.toNat i hx hy _).mono ?_
 rintro e w1 ⟨r, ok, rfl, hr, hb⟩
 go_wp2_with fail
 go_ret2
 exact ⟨r, ok, rfl, hr, hb⟩
end Go.Proofs.YtelfmddcjlocpaaDoor.AccW
end
section
namespace Go.Proofs.YtelfmddcjlocpaaDoor.EftLaw
open Go.Proofs.YtelfmddcjlocpaaDoor.FW Go.Proofs.YtelfmddcjlocpaaDoor.Eft Fl
noncomputable def T0 : Nat := 2^TE
theorem T0_pos : 0 < T0 := pw _
theorem top_T : top 0 = (2^53 - 1) * T0 := rfl
theorem mg_top (k : Nat) : mg ((k + 1) * 2^52) = 2^52 * 2^k := by
 have := mg_make (k := k) (m := 2^52) (by decide) (Or.inr (Nat.le_refl _))
 have e : (k + 1) * 2^52 = k * 2^52 + 2^52 := by omega
 rw [e]; exact this
theorem fop_add {x y r : Nat} (h : FOp .add x y r) (hx : fin x) (hy : fin y) (hm : (U x + U y).natAbs ≤ top 0) : Is 0 (U x + U y) r := by
 obtain ⟨v, hv, hi⟩ := add_fin hx hy hm
 rw [h.val v hv]; exact hi
theorem fop_sub {x y r : Nat} (h : FOp .sub x y r) (hx : fin x) (hy : fin y) (hm : (U x - U y).natAbs ≤ top 0) : Is 0 (U x - U y) r := by
 obtain ⟨v, hv, hi⟩ := sub_fin hx hy hm
 rw [h.val v hv]; exact hi
theorem fop_mul {x y r : Nat} (h : FOp .mul x y r) (hx : fin x) (hy : fin y) (hm : (U x * U y).natAbs ≤ top 1074) : Is 1074 (U x * U y) r := by
 obtain ⟨v, hv, hi⟩ := mul_fin hx hy hm
 rw [h.val v hv]; exact hi
theorem val0 {v : Int} {r : Nat} (h : Is 0 v r) : U r = rnI 0 v := by
 have := h.val; rw [Int.pow_zero, Int.mul_one] at this; exact this
theorem isF_T (m : Nat) (hm : m ≤ 2^53) : isF 0 ((m * T0 : Nat) : Int) := by
 refine ⟨TE, Nat.zero_le _, ?_, ?_⟩
 ·rw [natAbs_dvd', Int.natAbs_natCast]; exact Nat.dvd_mul_left _ _
 ·rw [Int.natAbs_natCast]; exact Nat.mul_le_mul_right _ hm
end Go.Proofs.YtelfmddcjlocpaaDoor.EftLaw
end
section
namespace Go.Proofs.YtelfmddcjlocpaaDoor.EftLaw
open Go.Proofs.YtelfmddcjlocpaaDoor.FW Go.Proofs.YtelfmddcjlocpaaDoor.Eft Fl
theorem top_g (g : Nat) : top g = (2^53 - 1) * T0 * 2^g := by
 unfold top T0; rw [Nat.pow_add, Nat.mul_assoc]
theorem le_top {v : Int} {g m : Nat} (h : v.natAbs ≤ m * T0 * 2^g) (hm : m ≤ 2^53 - 1) : v.natAbs ≤ top g := by
 rw [top_g]
 exact Nat.le_trans h (Nat.mul_le_mul_right _ (Nat.mul_le_mul_right _ hm))
theorem le_top0 {v : Int} {m : Nat} (h : v.natAbs ≤ m * T0) (hm : m ≤ 2^53 - 1) : v.natAbs ≤ top 0 := by
 rw [top_T]; exact Nat.le_trans h (Nat.mul_le_mul_right _ hm)
theorem rn_le_T {v : Int} {m : Nat} (h : v.natAbs ≤ m * T0) (hm : m ≤ 2^53) : (rnI 0 v).natAbs ≤ m * T0 := rn_bound (isF_T m hm) h
theorem atMost_995 {a : Nat} (h : sz a ≤ 2018 * 2^52) : fin a ∧ (U a).natAbs ≤ 2^24 * T0 := by
 refine ⟨by unfold fin INF; omega, ?_⟩
 rw [U_natAbs]
 have h1 := mg_le h
 obtain ⟨k, hk⟩ : ∃ k, k = 2017 := ⟨_, rfl⟩
 have h2 := mg_top k
 rw [show (k + 1) * 2^52 = 2018 * 2^52 by omega] at h2
 have h3 : T0 = 2^28 * 2^k := by
  have e : TE = 28 + k := by have := TE_eq; omega
  unfold T0; rw [e, Nat.pow_add]
 rw [h2] at h1
 rw [h3]
 omega
end Go.Proofs.YtelfmddcjlocpaaDoor.EftLaw
end
section
namespace Go.Proofs.YtelfmddcjlocpaaDoor.EftLaw
open Go.Proofs.YtelfmddcjlocpaaDoor.FW Go.Proofs.YtelfmddcjlocpaaDoor.Eft Fl
theorem isF_Tg (g m : Nat) (hm : m ≤ 2^53) : isF g ((m * T0 * 2^g : Nat) : Int) := by
 refine ⟨TE + g, Nat.le_add_left _ _, ?_, ?_⟩
 ·rw [natAbs_dvd', Int.natAbs_natCast, Nat.pow_add, Nat.mul_assoc]; exact Nat.dvd_mul_left _ _
 ·rw [Int.natAbs_natCast, Nat.pow_add, Nat.mul_assoc]; exact Nat.mul_le_mul_right _ hm
theorem mul_in {g x y r m : Nat} (hg : g = 1074) (h : FOp .mul x y r) (fx : fin x) (fy : fin y) (hm : (U x * U y).natAbs ≤ m * T0 * 2^g) (hm2 : m ≤ 2^53 - 1) :
  Is g (U x * U y) r ∧ (U r).natAbs ≤ m * T0 := by
 have i : Is g (U x * U y) r := by rw [hg]; exact fop_mul h fx fy (by rw [← hg]; exact le_top hm hm2)
 refine ⟨i, ?_⟩
 have b := rn_bound (isF_Tg g m (by omega)) hm
 rw [← i.val, Int.natAbs_mul, Int.natAbs_pow] at b
 exact Nat.le_of_mul_le_mul_right b (Nat.two_pow_pos g)
end Go.Proofs.YtelfmddcjlocpaaDoor.EftLaw
end
