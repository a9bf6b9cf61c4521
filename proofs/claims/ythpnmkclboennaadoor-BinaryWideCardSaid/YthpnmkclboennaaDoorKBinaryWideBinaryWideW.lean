/- The walk of the law BinaryWide: it returns true, and the world has at most new blocks. Condition: math/bits' table is laid. -/
import Derived.Test.YthpnmkclboennaaDoorKBinaryWideBinWideB
namespace Go.Proofs.YthpnmkclboennaaDoor.BinaryWideW
open Go.RowKit Go.Proofs.YthpnmkclboennaaDoorW.PrintWords Go.Proofs.YthpnmkclboennaaDoorW.PrintMore Go.Proofs.YthpnmkclboennaaDoorW.PrintLast Go.Proofs.YthpnmkclboennaaDoor.Num Go.Proofs.YthpnmkclboennaaDoor.Ref Go.Proofs.YthpnmkclboennaaDoor.BinLaw Go.Proofs.YthpnmkclboennaaDoor.BinA Go.Proofs.YthpnmkclboennaaDoor.BinO2 Go.Proofs.YthpnmkclboennaaDoor.BinP Go.Proofs.YthpnmkclboennaaDoor.BinF Go.Proofs.YthpnmkclboennaaDoor.BinG Go.Proofs.YthpnmkclboennaaDoor.BinW Go.Proofs.YthpnmkclboennaaDoor.BinW2 Go.Proofs.YthpnmkclboennaaDoor.BinTab Go.Proofs.YthpnmkclboennaaDoor.BinV1 Go.Proofs.YthpnmkclboennaaDoor.BinAll Go.Proofs.YthpnmkclboennaaDoor.BinS Go.Proofs.YthpnmkclboennaaDoor.BinS2 Go.Proofs.YthpnmkclboennaaDoor.BinJ4 Go.Proofs.YthpnmkclboennaaDoor.BinJ5 Go.Proofs.YthpnmkclboennaaDoor.BinWd Go.Proofs.YthpnmkclboennaaDoor.BinWL Go.Proofs.YthpnmkclboennaaDoor.BinWL2 Go.Proofs.YthpnmkclboennaaDoor.BinaryWidensW Go.Proofs.YthpnmkclboennaaDoor.BinAwake Go.Proofs.YthpnmkclboennaaDoor.BinWideA Go.Proofs.YthpnmkclboennaaDoor.BinWideB
theorem bool_same {c d : Int} {n : Int} (h : c = n ↔ d = n) : (d == n) = (c == n) := by
  by_cases x : c = n
  · have y := h.1 x
    subst x; subst y; rfl
  · have y : ¬ d = n := fun z => x (h.2 z)
    have a : (c == n) = false := by simpa using x
    have b : (d == n) = false := by simpa using y
    rw [a, b]
theorem walk_any (a b : Int) (W : World) (wa : (Lit.int .u64 a).wf = true) (wb : (Lit.int .u64 b).wf = true) (hT : Tab W) : Calls Tryd.prog 4 #[.int .u64 a, .int .u64 b] W (OnW W) := by
  obtain ⟨a, rfl, ha⟩ := wf_u64' wa
  obtain ⟨b, rfl, hb⟩ := wf_u64' wb
  have hsgS : fS.sg = 2147483648 := rfl
  have hsgD : fD.sg = 9223372036854775808 := rfl
  obtain ⟨A, hA⟩ : ∃ A, a % 4294967296 = A := ⟨_, rfl⟩
  obtain ⟨B, hB⟩ : ∃ B, b % 4294967296 = B := ⟨_, rfl⟩
  have hA32 : A < 4294967296 := by omega
  have hB32 : B < 4294967296 := by omega
  obtain ⟨x, x1, x2, x3, x4, x5⟩ := widen_num A hA32
  obtain ⟨y, y1, y2, y3, y4, y5⟩ := widen_num B hB32
  have E : Ent a b A B x y := ⟨by omega, by omega, hA32, hB32, x1, y1⟩
  obtain ⟨d, d1, d2, d3, d4, d5, HD⟩ := class_num hD x (by rw [hsgD]; omega)
  by_cases hf : A % fS.sg < fS.inf ∧ B % fS.sg < fS.inf
  · obtain ⟨a1, a2, a3, a4, a5⟩ := x5 hf.1
    obtain ⟨b1, b2, b3, b4, b5⟩ := y5 hf.2
    have hfin : fS.inf < fS.sg := by decide
    have hfinD : fD.inf < fD.sg := by decide
    have hH : 0 < hdF fD := (fm_hd hD).1
    obtain ⟨K, hK⟩ : ∃ K, K = 925 := ⟨_, rfl⟩
    obtain ⟨s1, s2, s3⟩ := dy_same (K := K) hS hD (s := A % fS.sg) (t := x % fD.sg) (by omega) (by rw [hK]; decide) (by rw [hK]; exact a3)
    have sgn : decide (fD.sg ≤ x) = decide (fS.sg ≤ A) := decide_eq_decide.2 a2
    have nz : decide (mgF fD (x % fD.sg) ≠ 0) = decide (mgF fS (A % fS.sg) ≠ 0) := decide_eq_decide.2 ⟨fun h c => h (s3.2 c), fun h c => h (s3.1 c)⟩
    have HV : ∀ w, Tab w → Calls Tryd.prog 13 #[.int .i64 32, .int .u64 (A : Int)] w (DyE (decide (fS.sg ≤ A) && decide (mgF fS (A % fS.sg) ≠ 0)) (dyl (mgF fS (A % fS.sg))) (dyx (mgF fS (A % fS.sg)) (xpF fS (A % fS.sg))) 0 w) :=
      fun w hT => (Value_ok hS A (by rw [hsgS]; omega) hf.1 w hT).mono fun _ _ z => dye z
    have HW : ∀ w, Tab w → Calls Tryd.prog 13 #[.int .i64 64, .int .u64 (x : Int)] w (DyE (decide (fS.sg ≤ A) && decide (mgF fS (A % fS.sg) ≠ 0)) (dyl (mgF fS (A % fS.sg))) (dyx (mgF fS (A % fS.sg)) (xpF fS (A % fS.sg))) 0 w) := by
      intro w hT
      have := (Value_ok hD x (by rw [hsgD]; omega) a1 w hT).mono fun _ _ z => dye z
      rw [s1, s2, sgn, nz] at this
      exact this
    have zA : A % fS.sg = 0 ↔ x % fD.sg = 0 := ⟨a4, fun c => by
      by_cases c2 : A % fS.sg = 0
      · exact c2
      · have := a5 c2; omega⟩
    have zB : B % fS.sg = 0 ↔ y % fD.sg = 0 := ⟨b4, fun c => by
      by_cases c2 : B % fS.sg = 0
      · exact c2
      · have := b5 c2; omega⟩
    have o1 := rank_order a2 b2 a3 b3 zA zB
    have o2 := rank_order b2 a2 b3 a3 zB zA
    refine wide_fin a b (A : Int) (B : Int) (x : Int) (y : Int) d (rkN fS A) (rkN fS B) (rkN fD x) (rkN fD y) _ _ (decide (fS.sg ≤ A)) _ _ _ (dyl_len _) E.ha E.hb (fun w hT => widen_call hA32 x1 w hT) (fun w hT => widen_call hB32 y1 w hT) ?_ ?_ HV HW HD (rank_num hS A (by omega) (by rw [hsgS]; omega) (by omega)) (rank_num hS B (by omega) (by rw [hsgS]; omega) (by omega)) (rank_num hD x x2 (by rw [hsgD]; omega) (by omega)) (rank_num hD y y2 (by rw [hsgD]; omega) (by omega)) ?_ ?_ ?_ rfl (decide_eq_decide.2 o1.symm) rfl (decide_eq_decide.2 o2.symm) W hT
    · intro w
      have := fin_call A hA32 w
      rw [decide_eq_true hf.1] at this
      exact this
    · intro w
      have := fin_call B hB32 w
      rw [decide_eq_true hf.2] at this
      exact this
    · exact decide_eq_decide.2 (by rw [hsgS]; omega)
    · rw [← sgn]
      exact decide_eq_decide.2 (by rw [hsgD]; omega)
    · have e : Int.tmod (x : Int) 9223372036854775808 = ((x % 9223372036854775808 : Nat) : Int) := (Int.ofNat_tmod x 9223372036854775808).symm
      rw [e]
      by_cases c : x % fD.sg = 0
      · refine .inr ⟨?_, ?_⟩
        · rw [d4 c]; decide
        · rw [hsgD] at c; omega
      · exact .inl (d5 (a5 (fun z => c (a4 z))) a1)
  · obtain ⟨c, c1, c2, c3, _, _, HC⟩ := class_num hS A (by rw [hsgS]; omega)
    have k4 : c = 4 ↔ d = 4 := by
      rcases Nat.lt_trichotomy (A % fS.sg) fS.inf with l | l | l
      · have z1 := c3 l
        have z2 := d3 (x5 l).1
        exact ⟨fun c => absurd c z1.1, fun c => absurd c z2.1⟩
      · rw [c2 l, d2 (x4 l)]
      · rw [c1 l, d1 (x3 l)]
    have k3 : c = 3 ↔ d = 3 := by
      rcases Nat.lt_trichotomy (A % fS.sg) fS.inf with l | l | l
      · have z1 := c3 l
        have z2 := d3 (x5 l).1
        exact ⟨fun c => absurd c z1.2, fun c => absurd c z2.2⟩
      · rw [c2 l, d2 (x4 l)]
      · rw [c1 l, d1 (x3 l)]
    exact wide_classes a b A B x y E hf c d _ _ rfl (bool_same k4) rfl (bool_same k3) HC HD W hT
end Go.Proofs.YthpnmkclboennaaDoor.BinaryWideW
