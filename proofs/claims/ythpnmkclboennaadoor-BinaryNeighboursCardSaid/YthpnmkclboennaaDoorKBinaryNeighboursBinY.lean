/- Contracts of the program's Next and Prev in one row each. Condition: words below 2^64. -/
import Derived.Test.YthpnmkclboennaaDoorKBinaryNeighboursBinX
import Derived.Test.YthpnmkclboennaaDoorKBinaryNeighboursBinV
namespace Go.Proofs.YthpnmkclboennaaDoor.BinY
open Go.RowKit Go.Proofs.YthpnmkclboennaaDoor.BinLaw Go.Proofs.YthpnmkclboennaaDoor.BinA Go.Proofs.YthpnmkclboennaaDoor.BinT Go.Proofs.YthpnmkclboennaaDoor.BinR Go.Proofs.YthpnmkclboennaaDoor.BinN Go.Proofs.YthpnmkclboennaaDoor.BinP Go.Proofs.YthpnmkclboennaaDoor.BinX Go.Proofs.YthpnmkclboennaaDoor.BinV
set_option maxRecDepth 100000 in
theorem next_bad (b : Nat) (h2 : 4294967296 ≤ b) (w : World) : Calls Tryd.prog 32 #[.int .i64 32, .int .u64 b] w fun e w' => e = .returned (.tuple #[.int .u64 0, .int .i64 2]) ∧ Below w.heap.size w w' := by
  have hu63 := Tryd.underlying63
  go_enter Tryd.func32, Tryd.ntmps32
  go_wp2_with fail
  refine (rank_bad b h2 _).mono ?_
  rintro e w1 ⟨rfl, h1⟩
  go_wp2_with fail
  go_ret2
  exact ⟨rfl, on h1 (box _ _)⟩
set_option maxRecDepth 100000 in
theorem next_no (f : Int) (b : Nat) (g1 : f ≠ 32) (g2 : f ≠ 64) (w : World) : Calls Tryd.prog 32 #[.int .i64 f, .int .u64 b] w fun e w' => e = .returned (.tuple #[.int .u64 0, .int .i64 1]) ∧ Below w.heap.size w w' := by
  have hu63 := Tryd.underlying63
  go_enter Tryd.func32, Tryd.ntmps32
  go_wp2_with fail
  refine (rank_no f b g1 g2 _).mono ?_
  rintro e w1 ⟨rfl, h1⟩
  go_wp2_with fail
  go_ret2
  exact ⟨rfl, on h1 (box _ _)⟩
def nextF (f : Int) (b : Nat) : Nat × Int := onF f (0, 1) fun F => nxt F b
theorem next_S (b : Nat) (h2 : b < 4294967296) (w : World) : Calls Tryd.prog 32 #[.int .i64 32, .int .u64 b] w fun e w' => e = .returned (.tuple #[.int .u64 (nxt fS b).1, .int .i64 (nxt fS b).2]) ∧ Below w.heap.size w w' := by
  have hF : fS.sg = 2147483648 ∧ fS.inf = 2139095040 := ⟨rfl, rfl⟩
  have hrk := rk_cases fS b
  rcases hrk with h | ⟨_, _, h⟩ | ⟨_, c, _, h⟩ | ⟨_, c, h⟩
  · have := h.1; rw [hF.1] at this; omega
  · have e : nxt fS b = (0, 6) := by unfold nxt; rw [h]; rfl
    rw [e]; exact next_err_S b h2 h w
  · rw [hF.2] at c
    generalize b % fS.sg = s at c h
    by_cases h0 : s = 0
    · subst h0
      have h' : rk fS b = (((0 : Nat) : Int), 0) := h
      have e : nxt fS b = (0 + 1, 0) := by unfold nxt; rw [h']; rfl
      rw [e]; exact next_pos_S b 0 h2 h' (by decide) w
    · have e : nxt fS b = (2147483648 + (s - 1), 0) := by
        unfold nxt; rw [h, hF.1, hF.2]
        rw [if_neg (by simp), if_neg (by show ¬ (-(s : Int) = ((2139095040 : Nat) : Int)); omega), if_pos (by show -(s : Int) < 0; omega)]
        congr 2
        show (- -(s : Int) - 1).toNat = s - 1; omega
      rw [e]; exact next_neg_S b s h2 h (by omega) c w
  · rw [hF.2] at c
    by_cases h0 : b = 2139095040
    · have h' : rk fS b = ((2139095040 : Int), 0) := by rw [h, h0]; rfl
      have e : nxt fS b = (0, 6) := by unfold nxt; rw [h']; rfl
      rw [e]; exact next_inf_S b h2 h' w
    · have e : nxt fS b = (b + 1, 0) := by
        unfold nxt; rw [h, hF.1, hF.2]
        rw [if_neg (by simp), if_neg (by show ¬ ((b : Int) = ((2139095040 : Nat) : Int)); omega), if_neg (by show ¬ ((b : Int) < 0); omega)]
        congr 1
      rw [e]; exact next_pos_S b b h2 h (by omega) w
theorem next_D (b : Nat) (h2 : b < 18446744073709551616) (w : World) : Calls Tryd.prog 32 #[.int .i64 64, .int .u64 b] w fun e w' => e = .returned (.tuple #[.int .u64 (nxt fD b).1, .int .i64 (nxt fD b).2]) ∧ Below w.heap.size w w' := by
  have hF : fD.sg = 9223372036854775808 ∧ fD.inf = 9218868437227405312 := ⟨rfl, rfl⟩
  have hrk := rk_cases fD b
  rcases hrk with h | ⟨_, _, h⟩ | ⟨_, c, _, h⟩ | ⟨_, c, h⟩
  · have := h.1; rw [hF.1] at this; omega
  · have e : nxt fD b = (0, 6) := by unfold nxt; rw [h]; rfl
    rw [e]; exact next_err_D b h2 h w
  · rw [hF.2] at c
    generalize b % fD.sg = s at c h
    by_cases h0 : s = 0
    · subst h0
      have h' : rk fD b = (((0 : Nat) : Int), 0) := h
      have e : nxt fD b = (0 + 1, 0) := by unfold nxt; rw [h']; rfl
      rw [e]; exact next_pos_D b 0 h2 h' (by decide) w
    · have e : nxt fD b = (9223372036854775808 + (s - 1), 0) := by
        unfold nxt; rw [h, hF.1, hF.2]
        rw [if_neg (by simp), if_neg (by show ¬ (-(s : Int) = ((9218868437227405312 : Nat) : Int)); omega), if_pos (by show -(s : Int) < 0; omega)]
        congr 2
        show (- -(s : Int) - 1).toNat = s - 1; omega
      rw [e]; exact next_neg_D b s h2 h (by omega) c w
  · rw [hF.2] at c
    by_cases h0 : b = 9218868437227405312
    · have h' : rk fD b = ((9218868437227405312 : Int), 0) := by rw [h, h0]; rfl
      have e : nxt fD b = (0, 6) := by unfold nxt; rw [h']; rfl
      rw [e]; exact next_inf_D b h2 h' w
    · have e : nxt fD b = (b + 1, 0) := by
        unfold nxt; rw [h, hF.1, hF.2]
        rw [if_neg (by simp), if_neg (by show ¬ ((b : Int) = ((9218868437227405312 : Nat) : Int)); omega), if_neg (by show ¬ ((b : Int) < 0); omega)]
        congr 1
      rw [e]; exact next_pos_D b b h2 h (by omega) w
theorem Next_any (f : Int) (b : Nat) (hb : b < 18446744073709551616) (w : World) : Calls Tryd.prog 32 #[.int .i64 f, .int .u64 b] w fun e w' => e = .returned (.tuple #[.int .u64 (nextF f b).1, .int .i64 (nextF f b).2]) ∧ Below w.heap.size w w' := by
  by_cases h32 : f = 32
  · subst h32
    unfold nextF
    rw [onF_32]
    by_cases c : b < 4294967296
    · exact next_S b c w
    · have e : nxt fS b = (0, 2) := by
        have e : rk fS b = (0, 2) := by unfold rk; exact if_pos (by show 2 * 2147483648 ≤ b; omega)
        unfold nxt; rw [e]; rfl
      rw [e]
      exact next_bad b (by omega) w
  by_cases h64 : f = 64
  · subst h64
    unfold nextF
    rw [onF_64]
    exact next_D b hb w
  · unfold nextF
    rw [onF_no _ _ h32 h64]
    exact next_no f b h32 h64 w
set_option maxRecDepth 100000 in
theorem prev_bad (b : Nat) (h2 : 4294967296 ≤ b) (w : World) : Calls Tryd.prog 33 #[.int .i64 32, .int .u64 b] w fun e w' => e = .returned (.tuple #[.int .u64 0, .int .i64 2]) ∧ Below w.heap.size w w' := by
  have hu63 := Tryd.underlying63
  go_enter Tryd.func33, Tryd.ntmps33
  go_wp2_with fail
  refine (rank_bad b h2 _).mono ?_
  rintro e w1 ⟨rfl, h1⟩
  go_wp2_with fail
  go_ret2
  exact ⟨rfl, on h1 (box _ _)⟩
set_option maxRecDepth 100000 in
theorem prev_no (f : Int) (b : Nat) (g1 : f ≠ 32) (g2 : f ≠ 64) (w : World) : Calls Tryd.prog 33 #[.int .i64 f, .int .u64 b] w fun e w' => e = .returned (.tuple #[.int .u64 0, .int .i64 1]) ∧ Below w.heap.size w w' := by
  have hu63 := Tryd.underlying63
  go_enter Tryd.func33, Tryd.ntmps33
  go_wp2_with fail
  refine (rank_no f b g1 g2 _).mono ?_
  rintro e w1 ⟨rfl, h1⟩
  go_wp2_with fail
  go_ret2
  exact ⟨rfl, on h1 (box _ _)⟩
def prevF (f : Int) (b : Nat) : Nat × Int := onF f (0, 1) fun F => prv F b
theorem prev_S (b : Nat) (h2 : b < 4294967296) (w : World) : Calls Tryd.prog 33 #[.int .i64 32, .int .u64 b] w fun e w' => e = .returned (.tuple #[.int .u64 (prv fS b).1, .int .i64 (prv fS b).2]) ∧ Below w.heap.size w w' := by
  have hF : fS.sg = 2147483648 ∧ fS.inf = 2139095040 := ⟨rfl, rfl⟩
  have hrk := rk_cases fS b
  rcases hrk with h | ⟨_, _, h⟩ | ⟨_, c, _, h⟩ | ⟨_, c, h⟩
  · have := h.1; rw [hF.1] at this; omega
  · have e : prv fS b = (0, 6) := by unfold prv; rw [h]; rfl
    rw [e]; exact prev_err_S b h2 h w
  · rw [hF.2] at c
    generalize b % fS.sg = s at c h
    by_cases h0 : s = 2139095040
    · have h' : rk fS b = (-(2139095040 : Int), 0) := by rw [h, h0]; rfl
      have e : prv fS b = (0, 6) := by unfold prv; rw [h']; rfl
      rw [e]; exact prev_inf_S b h2 h' w
    · have e : prv fS b = (2147483648 + (s + 1), 0) := by
        unfold prv; rw [h, hF.1, hF.2]
        rw [if_neg (by simp), if_neg (by show ¬ (-(s : Int) = -((2139095040 : Nat) : Int)); omega), if_neg (by show ¬ (-(s : Int) > 0); omega)]
        congr 2
        show (1 - -(s : Int)).toNat = s + 1; omega
      rw [e]; exact prev_neg_S b s h2 h (by omega) w
  · rw [hF.2] at c
    by_cases h0 : b = 0
    · subst h0
      have h' : rk fS 0 = (-((0 : Nat) : Int), 0) := h
      have e : prv fS 0 = (2147483648 + (0 + 1), 0) := by unfold prv; rw [h']; rfl
      rw [e]; exact prev_neg_S 0 0 h2 h' (by decide) w
    · have e : prv fS b = (b - 1, 0) := by
        unfold prv; rw [h, hF.1, hF.2]
        rw [if_neg (by simp), if_neg (by show ¬ ((b : Int) = -((2139095040 : Nat) : Int)); omega), if_pos (by show (b : Int) > 0; omega)]
        congr 1
        show ((b : Int) - 1).toNat = b - 1; omega
      rw [e]; exact prev_pos_S b b h2 h (by omega) c w
theorem prev_D (b : Nat) (h2 : b < 18446744073709551616) (w : World) : Calls Tryd.prog 33 #[.int .i64 64, .int .u64 b] w fun e w' => e = .returned (.tuple #[.int .u64 (prv fD b).1, .int .i64 (prv fD b).2]) ∧ Below w.heap.size w w' := by
  have hF : fD.sg = 9223372036854775808 ∧ fD.inf = 9218868437227405312 := ⟨rfl, rfl⟩
  have hrk := rk_cases fD b
  rcases hrk with h | ⟨_, _, h⟩ | ⟨_, c, _, h⟩ | ⟨_, c, h⟩
  · have := h.1; rw [hF.1] at this; omega
  · have e : prv fD b = (0, 6) := by unfold prv; rw [h]; rfl
    rw [e]; exact prev_err_D b h2 h w
  · rw [hF.2] at c
    generalize b % fD.sg = s at c h
    by_cases h0 : s = 9218868437227405312
    · have h' : rk fD b = (-(9218868437227405312 : Int), 0) := by rw [h, h0]; rfl
      have e : prv fD b = (0, 6) := by unfold prv; rw [h']; rfl
      rw [e]; exact prev_inf_D b h2 h' w
    · have e : prv fD b = (9223372036854775808 + (s + 1), 0) := by
        unfold prv; rw [h, hF.1, hF.2]
        rw [if_neg (by simp), if_neg (by show ¬ (-(s : Int) = -((9218868437227405312 : Nat) : Int)); omega), if_neg (by show ¬ (-(s : Int) > 0); omega)]
        congr 2
        show (1 - -(s : Int)).toNat = s + 1; omega
      rw [e]; exact prev_neg_D b s h2 h (by omega) w
  · rw [hF.2] at c
    by_cases h0 : b = 0
    · subst h0
      have h' : rk fD 0 = (-((0 : Nat) : Int), 0) := h
      have e : prv fD 0 = (9223372036854775808 + (0 + 1), 0) := by unfold prv; rw [h']; rfl
      rw [e]; exact prev_neg_D 0 0 h2 h' (by decide) w
    · have e : prv fD b = (b - 1, 0) := by
        unfold prv; rw [h, hF.1, hF.2]
        rw [if_neg (by simp), if_neg (by show ¬ ((b : Int) = -((9218868437227405312 : Nat) : Int)); omega), if_pos (by show (b : Int) > 0; omega)]
        congr 1
        show ((b : Int) - 1).toNat = b - 1; omega
      rw [e]; exact prev_pos_D b b h2 h (by omega) c w
theorem Prev_any (f : Int) (b : Nat) (hb : b < 18446744073709551616) (w : World) : Calls Tryd.prog 33 #[.int .i64 f, .int .u64 b] w fun e w' => e = .returned (.tuple #[.int .u64 (prevF f b).1, .int .i64 (prevF f b).2]) ∧ Below w.heap.size w w' := by
  by_cases h32 : f = 32
  · subst h32
    unfold prevF
    rw [onF_32]
    by_cases c : b < 4294967296
    · exact prev_S b c w
    · have e : prv fS b = (0, 2) := by
        have e : rk fS b = (0, 2) := by unfold rk; exact if_pos (by show 2 * 2147483648 ≤ b; omega)
        unfold prv; rw [e]; rfl
      rw [e]
      exact prev_bad b (by omega) w
  by_cases h64 : f = 64
  · subst h64
    unfold prevF
    rw [onF_64]
    exact prev_D b hb w
  · unfold prevF
    rw [onF_no _ _ h32 h64]
    exact prev_no f b h32 h64 w
end Go.Proofs.YthpnmkclboennaaDoor.BinY
