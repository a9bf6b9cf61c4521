/- Contracts of nat's functions on one word: Word, Form, trim, told, Trail, Shr; of num.Form. Conditions: a word that is not nought, laid in a cell; math/bits' table is laid. -/
import Derived.Test.YthpnmkclboennaaDoorKBinaryNeighboursBinTab
namespace Go.Proofs.YthpnmkclboennaaDoor.BinM
open Go.RowKit Go.Proofs.YthpnmkclboennaaDoorW.PrintWords Go.Proofs.YthpnmkclboennaaDoorW.PrintLast Go.Proofs.YthpnmkclboennaaDoor.BinLaw Go.Proofs.YthpnmkclboennaaDoor.BinA Go.Proofs.YthpnmkclboennaaDoor.BinTab
structure At1 (w : World) (G o n : Nat) : Prop where mk :: (cell : w.cell? ⟨G, o, none⟩ = some (.int .u64 n))
theorem At1.next {w w' : World} {G o n : Nat} (h : At1 w G o n) (d : Below w.heap.size w w') : At1 w' G o n :=
  ⟨by rw [d.cell (p := ⟨G, o, none⟩) (World.block_lt_of_cell? _ _ h.cell)]; exact h.cell⟩
theorem word_0 (w : World) : Calls Tryd.prog 69 #[.int .u64 0] w fun e w' => e = .returned (.slice none 0 0) ∧ Below w.heap.size w w' := by
  go_enter Tryd.func69, Tryd.ntmps69
  go_wp2_with fail
  go_ret
  exact ⟨rfl, Below.refl _ _⟩
theorem word_1 (n : Nat) (h0 : n ≠ 0) (w : World) : Calls Tryd.prog 69 #[.int .u64 n] w fun e w' => (∃ G, e = .returned (.slice (some ⟨G, 0, none⟩) 1 1) ∧ At1 w' G 0 n ∧ w.heap.size ≤ G) ∧ Below w.heap.size w w' := by
  have q : ((n : Int) == 0) = false := by simpa using h0
  clear h0
  go_enter Tryd.func69, Tryd.ntmps69
  go_wp2_with fail
  go_ret
  exact ⟨⟨_, rfl, ⟨by simp⟩, Nat.le_refl _⟩, box _ _⟩
theorem form_1 (w : World) (G o n c : Nat) (h : At1 w G o n) (h0 : n ≠ 0) : Calls Tryd.prog 82 #[.slice (some ⟨G, o, none⟩) 1 c] w fun e w' => e = .returned (.bool true) ∧ w' = w := by
  have q : ((n : Int) == 0) = false := by simpa using h0
  have q2 : ((n : Int) != 0) = true := by simpa using h0
  have hc := h.cell
  clear h h0
  go_enter Tryd.func82, Tryd.ntmps82
  go_wp2_with fail
  go_ret
  exact ⟨by simp, rfl⟩
theorem trim_1 (w : World) (G o n c : Nat) (h : At1 w G o n) (h0 : n ≠ 0) (hc1 : 1 ≤ c) : Calls Tryd.prog 99 #[.slice (some ⟨G, o, none⟩) 1 c] w fun e w' => e = .returned (.slice (some ⟨G, o, none⟩) 1 c) ∧ w' = w := by
  have q : ((n : Int) == 0) = false := by simpa using h0
  have hc := h.cell
  clear h h0
  go_enter Tryd.func99, Tryd.ntmps99
  go_wp2_with fail
  go_loopg [3] 0 (fun g i wr => g = 0 ∧ i = .int .i64 1 ∧ wr = w)
  case atStart => exact ⟨rfl, rfl, rfl⟩
  case round =>
    obtain ⟨rfl, rfl, rfl⟩ := hrel
    go_wp2_with fail
    go_ret
    exact ⟨rfl, rfl⟩
theorem told_1 (w : World) (G o n c : Nat) (h : At1 w G o n) (h0 : n ≠ 0) (hc1 : 1 ≤ c) : Calls Tryd.prog 83 #[.slice (some ⟨G, o, none⟩) 1 c] w fun e w' => e = .returned (.tuple #[.slice (some ⟨G, o, none⟩) 1 c, .int .i64 0]) ∧ w' = w := by
  have HT := Lib.hid (trim_1 w G o n c h h0 hc1)
  clear h h0
  go_enter Tryd.func83, Tryd.ntmps83
  go_wp2_with fail
  refine HT.out.mono ?_
  rintro e w1 ⟨rfl, rfl⟩
  go_wp2_with fail
  go_ret2
  exact ⟨rfl, rfl⟩
theorem trail_1 (w : World) (G o n c : Nat) (h : At1 w G o n) (h0 : n ≠ 0) (hn : n < 18446744073709551616) (hT : Tab w) : Calls Tryd.prog 57 #[.slice (some ⟨G, o, none⟩) 1 c] w fun e w' => e = .returned (.int .i64 ((Lib.ctz 64 n : Nat) : Int)) ∧ w' = w := by
  have HT := Lib.hid (tz_any n hn h0 w hT)
  have q : ((n : Int) == 0) = false := by simpa using h0
  have q2 : ((n : Int) != 0) = true := by simpa using h0
  have hc := h.cell
  have q3 : IntKind.i64.wrap ((Lib.ctz 64 n : Nat) : Int) = ((Lib.ctz 64 n : Nat) : Int) := IntWalk.i64_in _ (by have := (Lib.lowest_bit 64 n h0 hn).2; omega)
  generalize Lib.ctz 64 n = z at *
  clear h h0 hT hn
  go_enter Tryd.func57, Tryd.ntmps57
  go_wp2_with fail
  go_loopg [6] 0 (fun g i wr => g = 0 ∧ i = .int .i64 0 ∧ wr = w)
  case atStart => exact ⟨rfl, rfl, rfl⟩
  case round =>
    obtain ⟨rfl, rfl, rfl⟩ := hrel
    go_wp2_with fail
    refine HT.out.mono ?_
    rintro e w1 ⟨rfl, rfl⟩
    go_wp2_with fail
    go_ret
    exact ⟨rfl, rfl⟩
theorem make_1 (w : World) : Sem.run Tryd.prog (Instr.makeSlice 25 (Value.int IntKind.i64 1) (Value.int IntKind.i64 1)) w = .ok (.slice (some ⟨w.heap.size, 0, none⟩) 1 1) (w.alloc (Obj.cells #[.int .u64 0] 23)) := by kernel_rfl
set_option maxRecDepth 100000 in
theorem shr_1 (w : World) (G o n c t m : Nat) (h : At1 w G o n) (h0 : n ≠ 0) (ht : t < 64) (hm : n / 2^t = m) (hm0 : m ≠ 0) : Calls Tryd.prog 58 #[.slice (some ⟨G, o, none⟩) 1 c, .int .i64 t] w fun e w' => (∃ G', e = .returned (.tuple #[.slice (some ⟨G', 0, none⟩) 1 1, .int .i64 0]) ∧ At1 w' G' 0 m ∧ w.heap.size ≤ G') ∧ Below w.heap.size w w' := by
  have HF := Lib.hid (form_1 w G o n c h h0)
  have hc := h.cell
  have q1 : decide ((t : Int) < 0) = false := decide_eq_false (by omega)
  have q2 : (t : Int) / 64 = 0 := by omega
  have q3 : (t : Int) % 64 = (t : Int) := by omega
  have q4 : min t 64 = t := by omega
  have q5 : (n : Int) / 2 ^ t = (m : Int) := by rw [← hm]; simp
  have hlt : G < w.heap.size := World.block_lt_of_cell? _ _ hc
  clear h h0 ht hm
  go_enter Tryd.func58, Tryd.ntmps58
  go_wp2_with fail
  refine HF.out.mono ?_
  rintro e w1 ⟨rfl, rfl⟩
  go_wp2_with (rw [make_1]; go_simp)
  go_loopg [30] 1 (fun g i wr => (g = 1 ∧ i = .int .i64 0 ∧ wr = w1.alloc (Obj.cells #[.int .u64 0] 23)) ∨ (g = 0 ∧ i = .int .i64 1 ∧ wr = w1.alloc (Obj.cells #[.int .u64 m] 23)))
  case atStart => exact .inl ⟨rfl, rfl, rfl⟩
  case round =>
    rcases hrel with ⟨rfl, rfl, rfl⟩ | ⟨rfl, rfl, rfl⟩
    · go_wp2_with fail
      go_roundg 0
      case measure => decide
      case rel => exact .inr ⟨rfl, rfl, rfl⟩
    · go_wp2_with fail
      refine (told_1 _ w1.heap.size 0 m 1 ⟨by simp⟩ hm0 (by decide)).mono ?_
      rintro e w2 ⟨rfl, rfl⟩
      go_wp2_with fail
      go_ret2
      exact ⟨⟨_, rfl, ⟨by simp⟩, Nat.le_refl _⟩, box _ _⟩
end Go.Proofs.YthpnmkclboennaaDoor.BinM
