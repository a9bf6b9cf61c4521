/- The walk of the law BinaryRejoins: it returns true, and the world has at most new blocks. Condition: math/bits' table is laid. -/
import Derived.Test.YthpnmkclboennaaDoorKBinaryNeighboursBinRj
import Derived.Test.YthpnmkclboennaaDoorKBinaryNeighboursBinAwake
namespace Go.Proofs.YthpnmkclboennaaDoor.BinaryRejoinsW
open Go.RowKit Go.Proofs.YthpnmkclboennaaDoorW.PrintWords Go.Proofs.YthpnmkclboennaaDoorW.PrintMore Go.Proofs.YthpnmkclboennaaDoorW.PrintLast Go.Proofs.YthpnmkclboennaaDoor.Num Go.Proofs.YthpnmkclboennaaDoor.Ref Go.Proofs.YthpnmkclboennaaDoor.BinLaw Go.Proofs.YthpnmkclboennaaDoor.BinA Go.Proofs.YthpnmkclboennaaDoor.BinO2 Go.Proofs.YthpnmkclboennaaDoor.BinF Go.Proofs.YthpnmkclboennaaDoor.BinG Go.Proofs.YthpnmkclboennaaDoor.BinW Go.Proofs.YthpnmkclboennaaDoor.BinW2 Go.Proofs.YthpnmkclboennaaDoor.BinTab Go.Proofs.YthpnmkclboennaaDoor.BinM Go.Proofs.YthpnmkclboennaaDoor.BinM2 Go.Proofs.YthpnmkclboennaaDoor.BinV1 Go.Proofs.YthpnmkclboennaaDoor.BinAll Go.Proofs.YthpnmkclboennaaDoor.BinS Go.Proofs.YthpnmkclboennaaDoor.BinS2 Go.Proofs.YthpnmkclboennaaDoor.BinJ2 Go.Proofs.YthpnmkclboennaaDoor.BinJ4 Go.Proofs.YthpnmkclboennaaDoor.BinWL Go.Proofs.YthpnmkclboennaaDoor.BinNg Go.Proofs.YthpnmkclboennaaDoor.BinNg2 Go.Proofs.YthpnmkclboennaaDoor.BinNg3 Go.Proofs.YthpnmkclboennaaDoor.BinRj
structure DyQ (neg : Bool) (l : List Int) (x : Int) (w : World) (e : Ending) (w' : World) : Prop where mk :: (ex : ∃ A c, e = .returned (.tuple #[.agg #[.bool neg, .slice A l.length c, .int .i64 x], .int .i64 0]) ∧ DyL w' A c l ∧ DyP w' A c neg l x) (below : Below w.heap.size w w')
theorem odd_mod {n : Nat} (h0 : n ≠ 0) (hn : n < 18446744073709551616) : n / 2^(Lib.ctz 64 n) % 2 = 1 := by
  obtain ⟨m, hm, _⟩ := ctz_spec h0 hn
  generalize Lib.ctz 64 n = c at *
  have e : n / 2^c = 2 * m + 1 := by
    conv => lhs; lhs; rw [hm]
    rw [Nat.mul_div_cancel_left _ (Nat.two_pow_pos _)]
  omega
theorem dyq {neg : Bool} {n : Nat} {x : Int} {w w' : World} {e : Ending} (hn : n < 18446744073709551616) (lo : -900000 ≤ x) (hi : x ≤ 900000) (h : DyW (neg && decide (n ≠ 0)) (dyl n) (dyx n x) 0 w e w') : DyQ (neg && decide (n ≠ 0)) (dyl n) (dyx n x) w e w' := by
  obtain ⟨⟨A, c, e1, h1, h2, h3, h4⟩, hb⟩ := h
  refine ⟨⟨A, c, e1, ⟨h1, h2⟩, ?_⟩, hb⟩
  by_cases h0 : n = 0
  · subst h0
    obtain ⟨rfl, rfl⟩ := h4 rfl
    exact ⟨fun _ => ⟨rfl, rfl, by simp, rfl⟩, fun c => absurd rfl c, (by show (-1000000 : Int) ≤ 0; decide), (by show (0 : Int) ≤ 1000000; decide)⟩
  · obtain ⟨_, _, hc⟩ := ctz_spec h0 hn
    have ho := odd_ne h0 hn
    have hl : dyl n = [((n / 2^(Lib.ctz 64 n) : Nat) : Int)] := by unfold dyl; rw [if_neg h0]
    have hx : dyx n x = x + (Lib.ctz 64 n : Nat) := by unfold dyx; rw [if_neg h0]
    rw [hl] at h2 h3
    obtain ⟨G, rfl, _, rfl⟩ := h3 (by simp)
    rw [hl, hx]
    refine ⟨fun c => absurd c (by simp), fun _ => ⟨G, _, rfl, rfl, rfl, ?_, odd_mod h0 hn, ho.2⟩, by omega, by omega⟩
    obtain ⟨ad, e2, hcc⟩ := h2.2.2 (by simp)
    obtain ⟨cc, _, hk, hcell⟩ := hcc 0 _ rfl
    have hk' : cc = [.int .u64 ((n / 2^(Lib.ctz 64 n) : Nat) : Int)] := hk
    subst hk'
    have h1 := hcell 0 _ rfl
    obtain rfl := Option.some.inj e2
    have e : (⟨G, 0, none⟩ : Addr).add (0 * (Kd.int IntKind.u64).sz + 0) = ⟨G, 0, none⟩ := by unfold Addr.add; rw [if_pos (by simp)]
    rw [e] at h1
    exact ⟨h1⟩
theorem fin_law {f : Int} {F : Fmt} (h : Fm f F) (b : Nat) (hb : b < 18446744073709551616) (w : World) : Calls Tryd.prog 20 #[.int .i64 f, .int .u64 b] w fun e w' => e = .returned (.bool (decide (b < 2 * F.sg ∧ b % F.sg < F.inf))) ∧ Below w.heap.size w w' :=
  (PFin.gnomonlaw07_finite.calls _ _ _ w (finite_f h b hb)).mono fun _ _ ⟨a, b⟩ => ⟨a, b.below⟩
theorem fin_no {f : Int} (h : f ≠ 32) (h' : f ≠ 64) (b : Nat) (w : World) : Calls Tryd.prog 20 #[.int .i64 f, .int .u64 b] w fun e w' => e = .returned (.bool false) ∧ Below w.heap.size w w' := by
  have e : PFin.gnomonlaw07_finite.f f (b : Int) = some false := by unfold PFin.gnomonlaw07_finite.f; rw [if_neg h, if_neg h']
  exact (PFin.gnomonlaw07_finite.calls _ _ _ w e).mono fun _ _ ⟨a, b⟩ => ⟨a, b.below⟩
theorem fin_or (f : Int) (b : Nat) (hb : b < 18446744073709551616) : (∃ F, Fm f F ∧ b < 2 * F.sg ∧ b % F.sg < F.inf ∧ ∀ w : World, Calls Tryd.prog 20 #[.int .i64 f, .int .u64 b] w fun e w' => e = .returned (.bool true) ∧ Below w.heap.size w w') ∨
    ∃ (er s0 s1 s2 s3 : Int), er ≠ 0 ∧ Ev (fun k => PLib.binary_finite.f k f (b : Int)) (s0, s1, s2, s3, false, 0, er) ∧ ∀ w : World, Calls Tryd.prog 20 #[.int .i64 f, .int .u64 b] w fun e w' => e = .returned (.bool false) ∧ Below w.heap.size w w' := by
  rcases fm_cases f with ⟨F, h⟩ | ⟨h, h'⟩
  · by_cases c : b < 2 * F.sg ∧ b % F.sg < F.inf
    · refine .inl ⟨F, h, c.1, c.2, fun w => ?_⟩
      have := fin_law h b hb w
      rw [decide_eq_true c] at this
      exact this
    · have hw : ∀ w : World, Calls Tryd.prog 20 #[.int .i64 f, .int .u64 b] w fun e w' => e = .returned (.bool false) ∧ Below w.heap.size w w' := by
        intro w
        have := fin_law h b hb w
        rw [decide_eq_false c] at this
        exact this
      by_cases d : b < 2 * F.sg
      · exact .inr ⟨6, _, _, _, _, by decide, finite_class h b d (by omega), hw⟩
      · exact .inr ⟨2, _, _, _, _, by decide, finite_bad h b hb (by omega), hw⟩
  · exact .inr ⟨1, _, _, _, _, by decide, finite_no h h' b, fun w => fin_no h h' b w⟩
theorem xp_range {f : Int} {F : Fmt} (h : Fm f F) {s : Nat} (hs : s < F.sg) : F.low ≤ xpF F s ∧ xpF F s ≤ F.low + 2100 := by
  have := q_le h hs
  rw [xp_d]
  unfold dF
  generalize s / hdF F = q at *
  omega
theorem Value_q {f : Int} {F : Fmt} (h : Fm f F) (b : Nat) (h2 : b < 2 * F.sg) (hi : b % F.sg < F.inf) (w : World) (hT : Tab w) :
    Calls Tryd.prog 13 #[.int .i64 f, .int .u64 b] w (DyQ (decide (F.sg ≤ b) && decide (mgF F (b % F.sg) ≠ 0)) (dyl (mgF F (b % F.sg))) (dyx (mgF F (b % F.sg)) (xpF F (b % F.sg))) w) := by
  have hz := h.sz
  have h53 := mg_lt53 h (b % F.sg)
  have e53 : (2 : Nat)^53 = 9007199254740992 := by decide
  have hlow := fm_low h
  have hx := xp_range h (s := b % F.sg) (by omega)
  exact (Value_ok h b h2 hi w hT).mono fun _ _ x => dyq (by omega) (by omega) (by omega) x
end Go.Proofs.YthpnmkclboennaaDoor.BinaryRejoinsW
