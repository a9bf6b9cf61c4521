/- What DocValue and DocMid answer, told by numbers. Plain Lean. Conditions: words below 2^64. -/
import Derived.Test.YthpnmkclboennaaDoorKBinaryMidsBinW
import Derived.Test.YthpnmkclboennaaDoorKBinaryMidsPLibx0
import Derived.Test.YthpnmkclboennaaDoorKBinaryMidsPLibx3
import Derived.Test.YthpnmkclboennaaDoorKBinaryMidsPLibx5
import Derived.Test.YthpnmkclboennaaDoorKBinaryMidsPLibx9
import Derived.Test.YthpnmkclboennaaDoorKBinaryMidsPLibx11
import Derived.Test.YthpnmkclboennaaDoorKBinaryMidsPLibx7
namespace Go.Proofs.YthpnmkclboennaaDoor.BinW2
open Go.RowKit Go.Proofs.YthpnmkclboennaaDoorW.PrintWords Go.Proofs.YthpnmkclboennaaDoorW.PrintMore Go.Proofs.YthpnmkclboennaaDoor.Num Go.Proofs.YthpnmkclboennaaDoor.PLib Go.Proofs.YthpnmkclboennaaDoor.Ref Go.Proofs.YthpnmkclboennaaDoor.BinLaw Go.Proofs.YthpnmkclboennaaDoor.BinO2 Go.Proofs.YthpnmkclboennaaDoor.BinF Go.Proofs.YthpnmkclboennaaDoor.BinG Go.Proofs.YthpnmkclboennaaDoor.BinW
theorem n_step {f : Int} {F : Fmt} (h : Fm f F) (s : Nat) : nF F s + nF F (s + 1) = (2 * mgF F s + 1) * 2^(dF F s) := by
  have hh := (fm_hd h).1
  unfold nF mgF dF
  generalize hdF F = H at *
  have e1 := Nat.div_add_mod s H
  have hr : s % H < H := Nat.mod_lt _ hh
  generalize hq : s / H = q at *
  generalize hrr : s % H = r at *
  by_cases c : r + 1 < H
  · have d1 : (s + 1) / H = q := by
      rw [← e1, Nat.add_assoc, Nat.mul_add_div hh, Nat.div_eq_of_lt c]; omega
    have d2 : (s + 1) % H = r + 1 := by
      rw [← e1, Nat.add_assoc, Nat.mul_add_mod, Nat.mod_eq_of_lt c]
    rw [d1, d2, ← Nat.add_mul]
    congr 1
    by_cases q0 : q = 0
    · simp only [if_pos q0]; omega
    · simp only [if_neg q0]; omega
  · have hr1 : r + 1 = H := by omega
    have d1 : (s + 1) / H = q + 1 := by
      rw [← e1, Nat.add_assoc, hr1, ← Nat.mul_succ, Nat.mul_div_cancel_left _ hh]
    have d2 : (s + 1) % H = 0 := by
      rw [← e1, Nat.add_assoc, hr1, ← Nat.mul_succ, Nat.mul_mod_right]
    rw [d1, d2]
    cases q with
    | zero => simp; omega
    | succ q =>
      simp only [if_neg (Nat.succ_ne_zero _)]
      have e : 2^(q + 1 + 1 - 1) = 2 * 2^(q + 1 - 1) := by
        rw [show q + 1 + 1 - 1 = q + 1 by omega, show q + 1 - 1 = q by omega, Nat.pow_succ]; omega
      rw [e, Nat.add_zero, ← Nat.mul_assoc, ← Nat.add_mul]
      congr 1
      omega
theorem docmid_ok {f : Int} {F : Fmt} (h : Fm f F) (b : Nat) (hi : b % F.sg < F.inf) (hf : gnomonref07_finite.f f (b : Int) = some 0) :
    Ev (fun k => gnomonref07_DocMid.f k f (b : Int)) (decide (F.sg ≤ b), dyl (2 * mgF F (b % F.sg) + 1), dyx (2 * mgF F (b % F.sg) + 1) (xpF F (b % F.sg) - 1), 0) := by
  have hz := h.sz
  obtain ⟨s, hse⟩ : ∃ s, b % F.sg = s := ⟨_, rfl⟩
  rw [hse] at hi ⊢
  have hs : s < F.sg := by omega
  have hq := q_le h hs
  have hlow := fm_low h
  have h53 := mg_lt53 h (s)
  have e53 : (2 : Nat)^53 = 9007199254740992 := by decide
  have hm : 2 * mgF F (s) + 1 < 18446744073709551616 := by omega
  have hw : IntKind.u64.wrap (((s : Nat) : Int) + 1) = ((s + 1 : Nat) : Int) := by rw [wu64 (by omega) (by omega)]; omega
  unfold gnomonref07_DocMid.f
  simp only [hf, Option.bind_some, if_true, of_f h, cut_f h, hse, hw]
  have w1 := whole_ev h (gF F) ((F.inf : Nat) : Int) ((F.qt : Nat) : Int) (s)
  have w2 := whole_ev h (gF F) ((F.inf : Nat) : Int) ((F.qt : Nat) : Int) (s + 1)
  rw [Nat.mod_eq_of_lt hs, decide_eq_false (by omega), Bool.false_and] at w1
  rw [Nat.mod_eq_of_lt (by omega), decide_eq_false (by omega), Bool.false_and] at w2
  have hst := n_step h (s)
  have hd : dF F (s) ≤ 2048 := by unfold dF; omega
  have hd2 : dF F (s + 1) ≤ 2048 := by have := q_le h (s := s + 1) (by omega); unfold dF; omega
  have e64 : (2 : Nat)^64 = 18446744073709551616 := by decide
  have l1 : (dg (nF F (s))).length < 274877906944 := pow_len (by omega) (by omega)
  have l2 : (dg (nF F (s + 1))).length < 274877906944 := by
    have := mg_lt53 h (s + 1)
    exact pow_len (by omega) (by omega)
  have l3 : (dg (nF F (s) + nF F (s + 1))).length < 274877906944 := by
    rw [hst]; exact pow_len (by omega) (by omega)
  generalize nF F (s) = a at *
  generalize nF F (s + 1) = c at *
  refine Ev.bind w1 (Ev.bind w2 ?_)
  have ad := zadd_ev (a : Int) (c : Int) (by unfold Zs; rw [Int.natAbs_natCast]; exact l1) (by unfold Zs; rw [Int.natAbs_natCast]; exact l2) (by unfold Zs; rw [← Int.natCast_add, Int.natAbs_natCast]; exact l3)
  have z1 : zn (a : Int) = false := decide_eq_false (by omega)
  have z2 : zn (c : Int) = false := decide_eq_false (by omega)
  have z3 : zn ((a : Int) + (c : Int)) = false := decide_eq_false (by omega)
  have z4 : zl (a : Int) = dg a := rfl
  have z5 : zl (c : Int) = dg c := rfl
  have z6 : zl ((a : Int) + (c : Int)) = dg (a + c) := by unfold zl; rw [← Int.natCast_add, Int.natAbs_natCast]
  rw [z1, z2, z3, z4, z5, z6, hst] at ad
  rw [hst] at l3
  refine Ev.bind ad (Ev.bind (mk_ev (decide (F.sg ≤ b)) _ (by omega)) ?_)
  have hw1 : wrap64 (F.low - 1) = F.low - 1 := w64 (by omega) (by omega)
  rw [hw1]
  refine Ev.bind (f := fun _ t => some (t.1, t.2.1, t.2.2, (0 : Int))) (dyadic_ev (decide (F.sg ≤ b)) (2 * mgF F (s) + 1) (dF F (s)) (F.low - 1) hm (by omega) (by omega) (by omega)) ?_
  have e1 : decide (2 * mgF F (s) + 1 ≠ 0) = true := decide_eq_true (by omega)
  have e2 : F.low - 1 + (dF F (s) : Nat) = xpF F (s) - 1 := by rw [xp_d]; omega
  rw [e1, e2, Bool.and_true]
  exact Ev.now _
theorem docmid_err {f : Int} {b : Nat} {er : Int} (h : gnomonref07_finite.f f (b : Int) = some er) (h0 : er ≠ 0) : Ev (fun k => gnomonref07_DocMid.f k f (b : Int)) (false, [], 0, er) := by
  unfold gnomonref07_DocMid.f
  simp only [h, Option.bind_some]
  exact Ev.congr (fun k => if_neg h0) (Ev.now _)
end Go.Proofs.YthpnmkclboennaaDoor.BinW2
