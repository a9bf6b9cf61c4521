/- The contract of Accept and of the statements' ask: the answer, by the float operations. Conditions: words below 2^64. -/
import Derived.Test.YtbgmadijifefiaaKAcceptAllLdexp
namespace Go.Proofs.Ytbgmadijifefiaa.AccW
open Go.RowKit Go.Proofs.Ytbgmadijifefiaa.FW Go.Proofs.Ytbgmadijifefiaa.Eft Fl
def E15 (i : Int) : Nat := ((i + 1023) * 4503599627370496 + 2251799813685248).toNat
def LdW (i : Int) (w : World) (e : Ending) (w' : World) : Prop := ∃ r, e = .returned (.float .f64 r) ∧ FOp .mul 4607182418800017408 (E15 i) r ∧ Drew w w'
theorem ldexpW_any (i : Int) (c1 : -100 ≤ i) (c2 : i ≤ -56) (w : World) : Calls Try.prog 82 #[.float .f64 4609434218613702656, .int .i64 i] w (LdW i w) := by
 go_enter Try.func82, Try.ntmps82
 go_wp2_with fail
 refine (ldexp_any i c1 c2 _).mono ?_
 rintro e w1 ⟨r, rfl, hr, hd⟩
 go_wp2_with fail
 go_ret
 exact ⟨r, rfl, hr, hd⟩
structure Way (x y : Nat) (i : Int) (u d : Nat) : Prop where mk :: (out : ∃ L m u1 d1, FOp .mul 4607182418800017408 (E15 i) L ∧ FOp .mul (sz x) L m ∧ FOp .add y m u1 ∧ FOp .add x u1 u ∧ FOp .sub y m d1 ∧ FOp .add x d1 d)
def AcceptR (x y : Nat) (i : Int) (r : Nat) (ok : Bool) : Prop :=
 (FitR x y i false ∧ r = 0 ∧ ok = false) ∨ (FitR x y i true ∧ ∃ u d, Way x y i u d ∧ (((FloatKind.f64.format.order u d != some .eq) = true ∧ r = 0 ∧ ok = false) ∨ ((FloatKind.f64.format.order u d != some .eq) = false ∧ r = u ∧ ok = true)))
def AcceptW (x y : Nat) (i : Int) (w : World) (e : Ending) (w' : World) : Prop := ∃ (r : Nat) (ok : Bool), e = .returned (.tuple #[.int .u64 r, .bool ok]) ∧ AcceptR x y i r ok ∧ Below w.heap.size w w'
theorem FitR.range {x y : Nat} {i : Int} (h : FitR x y i true) : -100 ≤ i ∧ i ≤ -56 := by
 rcases h with h | h
 ·exact ⟨h.1, h.2.1⟩
 ·exact absurd h.2 (by decide)
theorem drewN_b {w0 w : World} (h : Below w0.heap.size w0 w) (n : Nat) : Below w0.heap.size w0 (w.drewN n) := Drew.to_below h ⟨⟨n, rfl⟩⟩
set_option maxHeartbeats 4000000 in
theorem accept_any (x y : Nat) (i : Int) (hx : x < 18446744073709551616) (hy : y < 18446744073709551616) (w : World) : Calls Try.prog 61 #[.agg #[.float .f64 x, .float .f64 y], .int .i64 i] w (AcceptW x y i w) := by
 have hb := call_bits
 go_enter Try.func61, Try.ntmps61
 go_wp2_with fail
 refine (fit_any x y i hx hy _).mono ?_
 rintro e w1 ⟨c, rfl, hc, hb1⟩
 have hB : Below w.heap.size w w1 := (box_below w _ 0).trans (hb1.mono (box_below w _ 0).size)
 cases c with
 | false =>
  go_wp2_with fail
  go_ret2
  exact ⟨0, false, rfl, Or.inl ⟨hc, rfl, rfl⟩, hB⟩
 | true =>
  obtain ⟨r1, r2⟩ := hc.range
  have q0 : w1.cell? ⟨w.heap.size, 0, none⟩ = some (.float .f64 x) := by
   rw [hb1.cell (p := ⟨w.heap.size, 0, none⟩) (by go_simp)]
   go_simp
  have q1 : w1.cell? ⟨w.heap.size, 1, none⟩ = some (.float .f64 y) := by
   rw [hb1.cell (p := ⟨w.heap.size, 1, none⟩) (by go_simp)]
   go_simp
  go_wp2_with fail
  refine (abs_any x hx _).mono ?_
  rintro e w2 ⟨rfl, rfl⟩
  go_wp2_with fail
  refine (ldexpW_any i r1 r2 _).mono ?_
  rintro e w3 ⟨L, rfl, hL, hd⟩
  obtain ⟨n, rfl⟩ := hd.out
  have tok1 : True := trivial
  have tok2 : True := trivial
  have tok3 : True := trivial
  have tok4 : True := trivial
  have tok5 : True := trivial
  go_wp2_with (first | (have _t := tok1; refine wpList_fop .mul (by simp) rfl rfl rfl rfl ?_; intro m wm hm hdm; obtain ⟨nm, rfl⟩ := hdm.out; clear tok1) | (have _t := tok2; refine wpList_fop .add (by simp) rfl rfl rfl rfl ?_; intro u1 wu1 hu1 hdu1; obtain ⟨nu1, rfl⟩ := hdu1.out; clear tok2) | (have _t := tok3; refine wpList_fop .add (by simp) rfl rfl rfl rfl ?_; intro u wu hu hdu; obtain ⟨nu, rfl⟩ := hdu.out; clear tok3) | (have _t := tok4; refine wpList_fop .sub (by simp) rfl rfl rfl rfl ?_; intro d1 wd1 hd1 hdd1; obtain ⟨nd1, rfl⟩ := hdd1.out; clear tok4) | (have _t := tok5; refine wpList_fop .add (by simp) rfl rfl rfl rfl ?_; intro d wd hd2 hdd; obtain ⟨nd, rfl⟩ := hdd.out; clear tok5))
  ·rename_i hne
   go_ret2
   exact ⟨0, false, rfl, Or.inr ⟨hc, u, d, ⟨_, _, _, _, hL, hm, hu1, hu, hd1, hd2⟩, Or.inl ⟨hne, rfl, rfl⟩⟩, drewN_b hB _⟩
  ·rename_i heq
   go_ret2
   exact ⟨u, true, rfl, Or.inr ⟨hc, u, d, ⟨_, _, _, _, hL, hm, hu1, hu, hd1, hd2⟩, Or.inr ⟨heq, rfl, rfl⟩⟩, drewN_b hB _⟩
theorem ask_any (x y : Int) (i : Int) (hx : x.toNat < 18446744073709551616) (hy : y.toNat < 18446744073709551616) (w : World) : Calls Try.prog 39 #[.int .u64 x, .int .u64 y, .int .i64 i] w (AcceptW x.toNat y.toNat i w) := by
 have hf := call_from
 go_enter Try.func39, Try.ntmps39
 go_wp2_with fail
 refine (accept_any x.toNat y.toNat i hx hy _).mono ?_
 rintro e w1 ⟨r, ok, rfl, hr, hb⟩
 go_wp2_with fail
 go_ret2
 exact ⟨r, ok, rfl, hr, hb⟩
end Go.Proofs.Ytbgmadijifefiaa.AccW
