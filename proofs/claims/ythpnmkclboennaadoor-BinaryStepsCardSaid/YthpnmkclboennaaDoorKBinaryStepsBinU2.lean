/- Contracts in one row: the reference's DocRanked, DocNext, DocPrev. Conditions: words below 2^64, ranks of an int. -/
import Derived.Test.YthpnmkclboennaaDoorKBinaryStepsBinU
namespace Go.Proofs.YthpnmkclboennaaDoor.BinU2
open Go.RowKit Go.Proofs.YthpnmkclboennaaDoorW.PrintWords Go.Proofs.YthpnmkclboennaaDoorW.PrintLast Go.Proofs.YthpnmkclboennaaDoor.BinLaw Go.Proofs.YthpnmkclboennaaDoor.BinA Go.Proofs.YthpnmkclboennaaDoor.BinP Go.Proofs.YthpnmkclboennaaDoor.BinO Go.Proofs.YthpnmkclboennaaDoor.BinO2 Go.Proofs.YthpnmkclboennaaDoor.BinQ Go.Proofs.YthpnmkclboennaaDoor.BinK Go.Proofs.YthpnmkclboennaaDoor.BinY Go.Proofs.YthpnmkclboennaaDoor.BinU
theorem DocRanked_big {f : Int} {F : Fmt} (h : Fm f F) (n : Int) (hn : (F.inf : Int) < n) (w : World) : Calls Tryd.prog 106 #[.int .i64 f, .int .i64 n] w fun e w' => e = .returned (.tuple #[.int .u64 0, .int .i64 1]) ∧ Below w.heap.size w w' := by
  have hu71 := Tryd.underlying71
  have HO := Lib.hid (fun w => Of_F h w)
  have hz := h.sz
  generalize F.inf = I at *
  generalize F.sg = S at *
  have q1 : decide ((I : Int) < n) = true := decide_eq_true hn
  have q2 : IntKind.i64.wrap (I : Int) = (I : Int) := IntWalk.i64_in _ (by omega)
  clear hz hn h
  go_enter Tryd.func106, Tryd.ntmps106
  go_wp2_with fail
  refine (HO.out _).mono ?_
  rintro e w1 ⟨⟨g, rfl⟩, h1⟩
  go_wp2_with fail
  go_ret2
  exact ⟨rfl, on h1 (box _ _)⟩
theorem DocRanked_small {f : Int} {F : Fmt} (h : Fm f F) (n : Int) (hn : n < -(F.inf : Int)) (w : World) : Calls Tryd.prog 106 #[.int .i64 f, .int .i64 n] w fun e w' => e = .returned (.tuple #[.int .u64 0, .int .i64 1]) ∧ Below w.heap.size w w' := by
  have hu71 := Tryd.underlying71
  have HO := Lib.hid (fun w => Of_F h w)
  have hz := h.sz
  generalize F.inf = I at *
  generalize F.sg = S at *
  have q1 : decide ((I : Int) < n) = false := decide_eq_false (by omega)
  have q3 : decide (n < -(I : Int)) = true := decide_eq_true hn
  have q2 : IntKind.i64.wrap (I : Int) = (I : Int) := IntWalk.i64_in _ (by omega)
  have q4 : IntKind.i64.wrap (-(I : Int)) = -(I : Int) := IntWalk.i64_in _ (by omega)
  clear hz hn h
  go_enter Tryd.func106, Tryd.ntmps106
  go_wp2_with fail
  refine (HO.out _).mono ?_
  rintro e w1 ⟨⟨g, rfl⟩, h1⟩
  go_wp2_with fail
  go_ret2
  exact ⟨rfl, on h1 (box _ _)⟩
set_option maxRecDepth 100000 in
theorem DocRanked_pos {f : Int} {F : Fmt} (h : Fm f F) (s : Nat) (hs : s ≤ F.inf) (w : World) : Calls Tryd.prog 106 #[.int .i64 f, .int .i64 (s : Int)] w fun e w' => e = .returned (.tuple #[.int .u64 (s : Nat), .int .i64 0]) ∧ Below w.heap.size w w' := by
  have hu71 := Tryd.underlying71
  have HO := Lib.hid (fun w => Of_F h w)
  have hz := h.sz
  generalize F.inf = I at *
  generalize F.sg = S at *
  have q1 : decide (I < s) = false := decide_eq_false (by omega)
  have q3 : decide ((s : Int) < -(I : Int)) = false := decide_eq_false (by omega)
  have q5 : decide ((s : Int) < 0) = false := decide_eq_false (by omega)
  have q2 : IntKind.i64.wrap (I : Int) = (I : Int) := IntWalk.i64_in _ (by omega)
  have q4 : IntKind.i64.wrap (-(I : Int)) = -(I : Int) := IntWalk.i64_in _ (by omega)
  have q6 : IntKind.u64.wrap (s : Int) = (s : Int) := IntWalk.u64_in _ (by omega)
  clear hz hs h
  go_enter Tryd.func106, Tryd.ntmps106
  go_wp2_with fail
  refine (HO.out _).mono ?_
  rintro e w1 ⟨⟨g, rfl⟩, h1⟩
  go_wp2_with fail
  go_ret2
  exact ⟨rfl, on h1 (box _ _)⟩
set_option maxRecDepth 100000 in
theorem DocRanked_neg {f : Int} {F : Fmt} (h : Fm f F) (s : Nat) (h0 : 0 < s) (hs : s ≤ F.inf) (w : World) : Calls Tryd.prog 106 #[.int .i64 f, .int .i64 (-(s : Int))] w fun e w' => e = .returned (.tuple #[.int .u64 (F.sg + s : Nat), .int .i64 0]) ∧ Below w.heap.size w w' := by
  have hu71 := Tryd.underlying71
  have HO := Lib.hid (fun w => Of_F h w)
  have hz := h.sz
  generalize F.inf = I at *
  generalize F.sg = S at *
  have q1 : decide ((I : Int) < -(s : Int)) = false := decide_eq_false (by omega)
  have q3 : decide (-(s : Int) < -(I : Int)) = false := decide_eq_false (by omega)
  have q7 : decide (I < s) = false := decide_eq_false (by omega)
  have q5 : decide (-(s : Int) < 0) = true := decide_eq_true (by omega)
  have q8 : decide (0 < s) = true := decide_eq_true (by omega)
  have q2 : IntKind.i64.wrap (I : Int) = (I : Int) := IntWalk.i64_in _ (by omega)
  have q4 : IntKind.i64.wrap (-(I : Int)) = -(I : Int) := IntWalk.i64_in _ (by omega)
  have q9 : IntKind.i64.wrap (s : Int) = (s : Int) := IntWalk.i64_in _ (by omega)
  have q6 : IntKind.u64.wrap (s : Int) = (s : Int) := IntWalk.u64_in _ (by omega)
  have q10 : IntKind.u64.wrap ((S : Int) + (s : Int)) = ((S + s : Nat) : Int) := (IntWalk.u64_in _ (by omega)).trans (by omega)
  clear hz hs h h0
  go_enter Tryd.func106, Tryd.ntmps106
  go_wp2_with fail
  refine (HO.out _).mono ?_
  rintro e w1 ⟨⟨g, rfl⟩, h1⟩
  go_wp2_with fail
  go_ret2
  exact ⟨rfl, on h1 (box _ _)⟩
theorem DocRanked_no (f n : Int) (g1 : f ≠ 32) (g2 : f ≠ 64) (w : World) : Calls Tryd.prog 106 #[.int .i64 f, .int .i64 n] w fun e w' => e = .returned (.tuple #[.int .u64 0, .int .i64 1]) ∧ Below w.heap.size w w' := by
  have hu71 := Tryd.underlying71
  go_enter Tryd.func106, Tryd.ntmps106
  go_wp2_with fail
  refine (Of_no f g1 g2 _).mono ?_
  rintro e w1 ⟨rfl, h1⟩
  go_wp2_with fail
  go_ret2
  exact ⟨rfl, on h1 (box _ _)⟩
theorem DocRanked_any (f n : Int) (w : World) : Calls Tryd.prog 106 #[.int .i64 f, .int .i64 n] w fun e w' => e = .returned (.tuple #[.int .u64 (rankedF f n).1, .int .i64 (rankedF f n).2]) ∧ Below w.heap.size w w' := by
  rcases fm_cases f with ⟨F, h⟩ | ⟨h, h'⟩
  · unfold rankedF
    rw [h.on]
    rcases rkd_cases F n with ⟨h1, e⟩ | ⟨h1, e⟩ | ⟨s, rfl, h1, h2, e⟩ | ⟨s, rfl, h1, e⟩ <;> rw [e]
    · exact DocRanked_big h n h1 w
    · exact DocRanked_small h n h1 w
    · exact DocRanked_neg h s h1 h2 w
    · exact DocRanked_pos h s h1 w
  · unfold rankedF
    rw [onF_no _ _ h h']
    exact DocRanked_no f n h h' w
theorem DocNext_err (f : Int) (b : Nat) (hb : b < 18446744073709551616) (c : (rankF f b).2 ≠ 0) (w : World) : Calls Tryd.prog 104 #[.int .i64 f, .int .u64 b] w fun e w' => e = .returned (.tuple #[.int .u64 0, .int .i64 (rankF f b).2]) ∧ Below w.heap.size w w' := by
  have HO := Lib.hid (fun w => DocRank_any f b hb w)
  generalize (rankF f b).1 = r at *
  generalize (rankF f b).2 = er at *
  have q1 : (er == 0) = false := by simpa using c
  clear hb c
  go_enter Tryd.func104, Tryd.ntmps104
  go_wp2_with fail
  refine (HO.out _).mono ?_
  rintro e w1 ⟨rfl, h1⟩
  go_wp2_with fail
  go_ret2
  exact ⟨rfl, h1⟩
theorem DocPrev_err (f : Int) (b : Nat) (hb : b < 18446744073709551616) (c : (rankF f b).2 ≠ 0) (w : World) : Calls Tryd.prog 105 #[.int .i64 f, .int .u64 b] w fun e w' => e = .returned (.tuple #[.int .u64 0, .int .i64 (rankF f b).2]) ∧ Below w.heap.size w w' := by
  have HO := Lib.hid (fun w => DocRank_any f b hb w)
  generalize (rankF f b).1 = r at *
  generalize (rankF f b).2 = er at *
  have q1 : (er == 0) = false := by simpa using c
  clear hb c
  go_enter Tryd.func105, Tryd.ntmps105
  go_wp2_with fail
  refine (HO.out _).mono ?_
  rintro e w1 ⟨rfl, h1⟩
  go_wp2_with fail
  go_ret2
  exact ⟨rfl, h1⟩
theorem DocNext_inf {f : Int} {F : Fmt} (h : Fm f F) (b : Nat) (hb : b < 18446744073709551616) (c : rankF f b = ((F.inf : Int), 0)) (w : World) : Calls Tryd.prog 104 #[.int .i64 f, .int .u64 b] w fun e w' => e = .returned (.tuple #[.int .u64 0, .int .i64 6]) ∧ Below w.heap.size w w' := by
  have hu71 := Tryd.underlying71
  have HR := Lib.hid (fun w => DocRank_any f b hb w)
  rw [c] at HR
  have HO := Lib.hid (fun w => Of_F h w)
  have hz := h.sz
  generalize F.inf = I at *
  generalize F.sg = S at *
  have q2 : IntKind.i64.wrap (I : Int) = (I : Int) := IntWalk.i64_in _ (by omega)
  clear hz h c hb
  go_enter Tryd.func104, Tryd.ntmps104
  go_wp2_with fail
  refine (HR.out _).mono ?_
  rintro e w1 ⟨rfl, h1⟩
  go_wp2_with fail
  refine (HO.out _).mono ?_
  rintro e w2 ⟨⟨g, rfl⟩, h2⟩
  go_wp2_with fail
  go_ret2
  exact ⟨rfl, on h1 (on h2 (box _ _))⟩
theorem DocNext_one {f : Int} {F : Fmt} (h : Fm f F) (b : Nat) (hb : b < 18446744073709551616) (c : rankF f b = (-1, 0)) (w : World) : Calls Tryd.prog 104 #[.int .i64 f, .int .u64 b] w fun e w' => e = .returned (.tuple #[.int .u64 (F.sg : Nat), .int .i64 0]) ∧ Below w.heap.size w w' := by
  have hu71 := Tryd.underlying71
  have HR := Lib.hid (fun w => DocRank_any f b hb w)
  rw [c] at HR
  have HO := Lib.hid (fun w => Of_F h w)
  have hz := h.sz
  generalize F.inf = I at *
  generalize F.sg = S at *
  have q2 : IntKind.i64.wrap (I : Int) = (I : Int) := IntWalk.i64_in _ (by omega)
  have q3 : ((-1 : Int) == (I : Int)) = false := by
    simp
  clear hz h c hb
  go_enter Tryd.func104, Tryd.ntmps104
  go_wp2_with fail
  refine (HR.out _).mono ?_
  rintro e w1 ⟨rfl, h1⟩
  go_wp2_with fail
  refine (HO.out _).mono ?_
  rintro e w2 ⟨⟨g, rfl⟩, h2⟩
  go_wp2_with fail
  go_ret2
  exact ⟨rfl, on h1 (on h2 (box _ _))⟩
theorem DocNext_go {f : Int} {F : Fmt} (h : Fm f F) (b : Nat) (n : Int) (hb : b < 18446744073709551616) (c : rankF f b = (n, 0)) (c1 : n ≠ F.inf) (c2 : n ≠ -1) (c3 : n ≤ F.inf) (c4 : -(F.inf : Int) ≤ n) (w : World) : Calls Tryd.prog 104 #[.int .i64 f, .int .u64 b] w fun e w' => e = .returned (.tuple #[.int .u64 (rankedF f (n + 1)).1, .int .i64 (rankedF f (n + 1)).2]) ∧ Below w.heap.size w w' := by
  have hu71 := Tryd.underlying71
  have HR := Lib.hid (fun w => DocRank_any f b hb w)
  rw [c] at HR
  have HO := Lib.hid (fun w => Of_F h w)
  have HD := Lib.hid (fun w => DocRanked_any f (n + 1) w)
  have hz := h.sz
  generalize F.inf = I at *
  generalize F.sg = S at *
  generalize (rankedF f (n + 1)).1 = r1 at *
  generalize (rankedF f (n + 1)).2 = r2 at *
  have q2 : IntKind.i64.wrap (I : Int) = (I : Int) := IntWalk.i64_in _ (by omega)
  have q5 : IntKind.i64.wrap (n + 1) = n + 1 := IntWalk.i64_in _ (by omega)
  have q3 : (n == (I : Int)) = false := by simpa using c1
  have q4 : (n == -1) = false := by simpa using c2
  clear hz h c hb c1 c2 c3 c4
  go_enter Tryd.func104, Tryd.ntmps104
  go_wp2_with fail
  refine (HR.out _).mono ?_
  rintro e w1 ⟨rfl, h1⟩
  go_wp2_with fail
  refine (HO.out _).mono ?_
  rintro e w2 ⟨⟨g, rfl⟩, h2⟩
  go_wp2_with fail
  refine (HD.out _).mono ?_
  rintro e w3 ⟨rfl, h3⟩
  go_wp2_with fail
  go_ret2
  exact ⟨rfl, on h1 (on h2 (on (box _ _) h3))⟩
theorem DocPrev_inf {f : Int} {F : Fmt} (h : Fm f F) (b : Nat) (hb : b < 18446744073709551616) (c : rankF f b = (-(F.inf : Int), 0)) (w : World) : Calls Tryd.prog 105 #[.int .i64 f, .int .u64 b] w fun e w' => e = .returned (.tuple #[.int .u64 0, .int .i64 6]) ∧ Below w.heap.size w w' := by
  have hu71 := Tryd.underlying71
  have HR := Lib.hid (fun w => DocRank_any f b hb w)
  rw [c] at HR
  have HO := Lib.hid (fun w => Of_F h w)
  have hz := h.sz
  generalize F.inf = I at *
  generalize F.sg = S at *
  have q2 : IntKind.i64.wrap (I : Int) = (I : Int) := IntWalk.i64_in _ (by omega)
  have q4 : IntKind.i64.wrap (-(I : Int)) = -(I : Int) := IntWalk.i64_in _ (by omega)
  clear hz h c hb
  go_enter Tryd.func105, Tryd.ntmps105
  go_wp2_with fail
  refine (HR.out _).mono ?_
  rintro e w1 ⟨rfl, h1⟩
  go_wp2_with fail
  refine (HO.out _).mono ?_
  rintro e w2 ⟨⟨g, rfl⟩, h2⟩
  go_wp2_with fail
  go_ret2
  exact ⟨rfl, on h1 (on h2 (box _ _))⟩
theorem DocPrev_one {f : Int} {F : Fmt} (h : Fm f F) (b : Nat) (hb : b < 18446744073709551616) (c : rankF f b = (1, 0)) (w : World) : Calls Tryd.prog 105 #[.int .i64 f, .int .u64 b] w fun e w' => e = .returned (.tuple #[.int .u64 0, .int .i64 0]) ∧ Below w.heap.size w w' := by
  have hu71 := Tryd.underlying71
  have HR := Lib.hid (fun w => DocRank_any f b hb w)
  rw [c] at HR
  have HO := Lib.hid (fun w => Of_F h w)
  have hz := h.sz
  generalize F.inf = I at *
  generalize F.sg = S at *
  have q2 : IntKind.i64.wrap (I : Int) = (I : Int) := IntWalk.i64_in _ (by omega)
  have q4 : IntKind.i64.wrap (-(I : Int)) = -(I : Int) := IntWalk.i64_in _ (by omega)
  have q3 : ((1 : Int) == -(I : Int)) = false := by
    have : (1 : Int) ≠ -(I : Int) := by omega
    simpa using this
  clear hz h c hb
  go_enter Tryd.func105, Tryd.ntmps105
  go_wp2_with fail
  refine (HR.out _).mono ?_
  rintro e w1 ⟨rfl, h1⟩
  go_wp2_with fail
  refine (HO.out _).mono ?_
  rintro e w2 ⟨⟨g, rfl⟩, h2⟩
  go_wp2_with fail
  go_ret2
  exact ⟨rfl, on h1 (on h2 (box _ _))⟩
theorem DocPrev_go {f : Int} {F : Fmt} (h : Fm f F) (b : Nat) (n : Int) (hb : b < 18446744073709551616) (c : rankF f b = (n, 0)) (c1 : n ≠ -(F.inf : Int)) (c2 : n ≠ 1) (c3 : n ≤ F.inf) (c4 : -(F.inf : Int) ≤ n) (w : World) : Calls Tryd.prog 105 #[.int .i64 f, .int .u64 b] w fun e w' => e = .returned (.tuple #[.int .u64 (rankedF f (n - 1)).1, .int .i64 (rankedF f (n - 1)).2]) ∧ Below w.heap.size w w' := by
  have hu71 := Tryd.underlying71
  have HR := Lib.hid (fun w => DocRank_any f b hb w)
  rw [c] at HR
  have HO := Lib.hid (fun w => Of_F h w)
  have HD := Lib.hid (fun w => DocRanked_any f (n - 1) w)
  have hz := h.sz
  generalize F.inf = I at *
  generalize F.sg = S at *
  generalize (rankedF f (n - 1)).1 = r1 at *
  generalize (rankedF f (n - 1)).2 = r2 at *
  have q2 : IntKind.i64.wrap (I : Int) = (I : Int) := IntWalk.i64_in _ (by omega)
  have q6 : IntKind.i64.wrap (-(I : Int)) = -(I : Int) := IntWalk.i64_in _ (by omega)
  have q5 : IntKind.i64.wrap (n - 1) = n - 1 := IntWalk.i64_in _ (by omega)
  have q3 : (n == -(I : Int)) = false := by simpa using c1
  have q4 : (n == 1) = false := by simpa using c2
  clear hz h c hb c1 c2 c3 c4
  go_enter Tryd.func105, Tryd.ntmps105
  go_wp2_with fail
  refine (HR.out _).mono ?_
  rintro e w1 ⟨rfl, h1⟩
  go_wp2_with fail
  refine (HO.out _).mono ?_
  rintro e w2 ⟨⟨g, rfl⟩, h2⟩
  go_wp2_with fail
  refine (HD.out _).mono ?_
  rintro e w3 ⟨rfl, h3⟩
  go_wp2_with fail
  go_ret2
  exact ⟨rfl, on h1 (on h2 (on (box _ _) h3))⟩
theorem rk_range (F : Fmt) (b : Nat) : (rk F b).2 ≠ 0 ∨ (∃ n : Int, rk F b = (n, 0) ∧ n ≤ F.inf ∧ -(F.inf : Int) ≤ n) := by
  rcases rk_cases F b with ⟨_, h⟩ | ⟨_, _, h⟩ | ⟨_, h1, _, h⟩ | ⟨_, h1, h⟩
  · rw [h]; exact .inl (by decide)
  · rw [h]; exact .inl (by decide)
  · exact .inr ⟨_, h, by omega, by omega⟩
  · exact .inr ⟨_, h, by omega, by omega⟩
theorem next_eq {f : Int} {F : Fmt} (h : Fm f F) {b : Nat} {n : Int} (c : rk F b = (n, 0)) (c1 : n ≠ F.inf) (c2 : n ≠ -1) (c3 : n ≤ F.inf) (c4 : -(F.inf : Int) ≤ n) : nextF f b = rankedF f (n + 1) := by
  unfold nextF rankedF
  rw [h.on, h.on]
  have e1 : rkd F (n + 1) = (mde F (n + 1), 0) := by unfold rkd; exact if_neg (by omega)
  have e2 : nxt F b = if n < 0 then (F.sg + (-n - 1).toNat, 0) else ((n + 1).toNat, 0) := by
    unfold nxt; rw [c]; rw [if_neg (by simp), if_neg c1]
  rw [e1, e2]
  unfold mde
  by_cases d : n < 0
  · rw [if_pos d, if_pos (by omega), show -n - 1 = -(n + 1) by omega]
  · rw [if_neg d, if_neg (by omega)]
theorem prev_eq {f : Int} {F : Fmt} (h : Fm f F) {b : Nat} {n : Int} (c : rk F b = (n, 0)) (c1 : n ≠ -(F.inf : Int)) (c2 : n ≠ 1) (c3 : n ≤ F.inf) (c4 : -(F.inf : Int) ≤ n) : prevF f b = rankedF f (n - 1) := by
  unfold prevF rankedF
  rw [h.on, h.on]
  have e1 : rkd F (n - 1) = (mde F (n - 1), 0) := by unfold rkd; exact if_neg (by omega)
  have e2 : prv F b = if n > 0 then ((n - 1).toNat, 0) else (F.sg + (1 - n).toNat, 0) := by
    unfold prv; rw [c]; rw [if_neg (by simp), if_neg c1]
  rw [e1, e2]
  unfold mde
  by_cases d : n > 0
  · rw [if_pos d, if_neg (by omega)]
  · rw [if_neg d, if_pos (by omega), show 1 - n = -(n - 1) by omega]
theorem rank_on {f : Int} {F : Fmt} (h : Fm f F) (b : Nat) : rankF f b = rk F b := by unfold rankF; exact h.on _ _
theorem DocNext_any (f : Int) (b : Nat) (hb : b < 18446744073709551616) (w : World) : Calls Tryd.prog 104 #[.int .i64 f, .int .u64 b] w fun e w' => e = .returned (.tuple #[.int .u64 (nextF f b).1, .int .i64 (nextF f b).2]) ∧ Below w.heap.size w w' := by
  rcases fm_cases f with ⟨F, h⟩ | ⟨h, h'⟩
  · have hr := rank_on h b
    rcases rk_range F b with e | ⟨n, e, e1, e2⟩
    · have x := DocNext_err f b hb (by rw [hr]; exact e) w
      rw [hr] at x
      have en : nextF f b = (0, (rk F b).2) := by unfold nextF nxt; rw [h.on, if_pos e]
      rw [en]; exact x
    · by_cases d1 : n = F.inf
      · subst d1
        have en : nextF f b = (0, 6) := by unfold nextF nxt; rw [h.on, e, if_neg (by simp), if_pos rfl]
        rw [en]; exact DocNext_inf h b hb (hr.trans e) w
      · by_cases d2 : n = -1
        · subst d2
          have en : nextF f b = (F.sg, 0) := by unfold nextF nxt; rw [h.on, e, if_neg (by simp), if_neg d1, if_pos (by decide)]; rfl
          rw [en]; exact DocNext_one h b hb (hr.trans e) w
        · rw [next_eq h e d1 d2 e1 e2]
          exact DocNext_go h b n hb (hr.trans e) d1 d2 e1 e2 w
  · have x := DocNext_err f b hb (by unfold rankF; rw [onF_no _ _ h h']; decide) w
    unfold rankF at x
    rw [onF_no _ _ h h'] at x
    unfold nextF
    rw [onF_no _ _ h h']
    exact x
theorem DocPrev_any (f : Int) (b : Nat) (hb : b < 18446744073709551616) (w : World) : Calls Tryd.prog 105 #[.int .i64 f, .int .u64 b] w fun e w' => e = .returned (.tuple #[.int .u64 (prevF f b).1, .int .i64 (prevF f b).2]) ∧ Below w.heap.size w w' := by
  rcases fm_cases f with ⟨F, h⟩ | ⟨h, h'⟩
  · have hr := rank_on h b
    rcases rk_range F b with e | ⟨n, e, e1, e2⟩
    · have x := DocPrev_err f b hb (by rw [hr]; exact e) w
      rw [hr] at x
      have en : prevF f b = (0, (rk F b).2) := by unfold prevF prv; rw [h.on, if_pos e]
      rw [en]; exact x
    · by_cases d1 : n = -(F.inf : Int)
      · subst d1
        have en : prevF f b = (0, 6) := by unfold prevF prv; rw [h.on, e, if_neg (by simp), if_pos rfl]
        rw [en]; exact DocPrev_inf h b hb (hr.trans e) w
      · by_cases d2 : n = 1
        · subst d2
          have en : prevF f b = (0, 0) := by unfold prevF prv; rw [h.on, e, if_neg (by simp), if_neg d1, if_pos (by decide)]; rfl
          rw [en]; exact DocPrev_one h b hb (hr.trans e) w
        · rw [prev_eq h e d1 d2 e1 e2]
          exact DocPrev_go h b n hb (hr.trans e) d1 d2 e1 e2 w
  · have x := DocPrev_err f b hb (by unfold rankF; rw [onF_no _ _ h h']; decide) w
    unfold rankF at x
    rw [onF_no _ _ h h'] at x
    unfold prevF
    rw [onF_no _ _ h h']
    exact x
end Go.Proofs.YthpnmkclboennaaDoor.BinU2
