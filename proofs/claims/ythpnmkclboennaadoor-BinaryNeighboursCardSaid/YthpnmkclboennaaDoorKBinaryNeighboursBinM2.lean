/- Contracts of num.Form, dyadic.Make and binary.number on one word. Conditions: words below 2^64, small exponents; math/bits' table is laid. -/
import Derived.Test.YthpnmkclboennaaDoorKBinaryNeighboursBinM
import Derived.Test.YthpnmkclboennaaDoorKBinaryNeighboursBinRow
namespace Go.Proofs.YthpnmkclboennaaDoor.BinM2
open Go.RowKit Go.Proofs.YthpnmkclboennaaDoorW.PrintWords Go.Proofs.YthpnmkclboennaaDoorW.PrintMore Go.Proofs.YthpnmkclboennaaDoorW.PrintLast Go.Proofs.YthpnmkclboennaaDoor.BinLaw Go.Proofs.YthpnmkclboennaaDoor.BinA Go.Proofs.YthpnmkclboennaaDoor.BinTab Go.Proofs.YthpnmkclboennaaDoor.BinM
structure Res3 (W w : World) (g : Nat) (a b c : Value) : Prop where mk :: (below : Below W.heap.size W w) (le : W.heap.size ≤ g) (blk : w.heap[g]? = some (.cells #[a, b, c] 29 (0, 0)))
theorem Res3.next {W w w' : World} {g : Nat} {a b c : Value} (h : Res3 W w g a b c) (d : Below w.heap.size w w') : Res3 W w' g a b c := ⟨on h.below d, h.le, blk_below h.blk d⟩
theorem Res3.put {W w : World} {g : Nat} {a b c : Value} (h : Res3 W w g a b c) (x y z : Value) : Res3 W (((w.setCell ⟨g, 0, none⟩ x).setCell ⟨g, 1, none⟩ y).setCell ⟨g, 2, none⟩ z) g x y z :=
  ⟨((h.below.setCell h.le _).setCell h.le _).setCell h.le _, h.le, blk_set (blk_set (blk_set h.blk 0 x) 1 y) 2 z⟩
theorem Res3.c0 {W w : World} {g : Nat} {a b c : Value} (h : Res3 W w g a b c) : w.cell? ⟨g, 0, none⟩ = some a := (blk_cell h.blk 0).trans rfl
theorem Res3.c1 {W w : World} {g : Nat} {a b c : Value} (h : Res3 W w g a b c) : w.cell? ⟨g, 1, none⟩ = some b := (blk_cell h.blk 1).trans rfl
theorem Res3.c2 {W w : World} {g : Nat} {a b c : Value} (h : Res3 W w g a b c) : w.cell? ⟨g, 2, none⟩ = some c := (blk_cell h.blk 2).trans rfl
theorem Res3.new (W w : World) (a b c : Value) (h : Below W.heap.size W w) : Res3 W (w.alloc (Obj.cells #[a, b, c] 29)) w.heap.size a b c := ⟨on h (box _ _), h.size, blk_new _ _⟩
theorem at1_set {w : World} {G o n : Nat} (h : At1 w G o n) {g : Nat} (hg : G ≠ g) (x y z : Value) : At1 (((w.setCell ⟨g, 0, none⟩ x).setCell ⟨g, 1, none⟩ y).setCell ⟨g, 2, none⟩ z) G o n := by
  refine ⟨?_⟩
  have ne : ∀ k, (⟨g, k, none⟩ : Addr) ≠ ⟨G, o, none⟩ := fun k e => hg (congrArg Addr.block e).symm
  exact (World.cell?_setCell_other _ _ _ _ (ne 2)).trans ((World.cell?_setCell_other _ _ _ _ (ne 1)).trans ((World.cell?_setCell_other _ _ _ _ (ne 0)).trans h.cell))
theorem form_0 (w : World) : Calls Tryd.prog 82 #[.slice none 0 0] w fun e w' => e = .returned (.bool true) ∧ w' = w := by
  go_enter Tryd.func82, Tryd.ntmps82
  go_wp2_with fail
  go_ret
  exact ⟨by simp, rfl⟩
theorem nform_0 (w : World) : Calls Tryd.prog 56 #[.agg #[.bool false, .slice none 0 0]] w fun e w' => e = .returned (.bool true) ∧ Below w.heap.size w w' := by
  go_enter Tryd.func56, Tryd.ntmps56
  go_wp2_with fail
  refine (form_0 _).mono ?_
  rintro e w1 ⟨rfl, rfl⟩
  go_wp2_with fail
  go_ret
  exact ⟨by simp, box _ _⟩
theorem nform_1 (w : World) (neg : Bool) (G o n c : Nat) (h : At1 w G o n) (h0 : n ≠ 0) : Calls Tryd.prog 56 #[.agg #[.bool neg, .slice (some ⟨G, o, none⟩) 1 c]] w fun e w' => e = .returned (.bool true) ∧ Below w.heap.size w w' := by
  have HF := Lib.hid (form_1 _ G o n c (h.next (box w (Obj.cells #[.bool neg, .slice (some ⟨G, o, none⟩) 1 c] 27))) h0)
  clear h h0
  cases neg
  · go_enter Tryd.func56, Tryd.ntmps56
    go_wp2_with fail
    refine HF.out.mono ?_
    rintro e w1 ⟨rfl, rfl⟩
    go_wp2_with fail
    go_ret
    exact ⟨by simp, box _ _⟩
  · go_enter Tryd.func56, Tryd.ntmps56
    go_wp2_with fail
    refine HF.out.mono ?_
    rintro e w1 ⟨rfl, rfl⟩
    go_wp2_with fail
    go_ret
    exact ⟨by simp, box _ _⟩
set_option maxRecDepth 100000 in
theorem make_0 (x : Int) (w : World) : Calls Tryd.prog 26 #[.agg #[.bool false, .slice none 0 0], .int .i64 x] w fun e w' => e = .returned (.tuple #[.agg #[.bool false, .slice none 0 0, .int .i64 0], .int .i64 0]) ∧ Below w.heap.size w w' := by
  have kb0 := Lib.hid (blk_below (blk_new w (Obj.cells #[.bool false, .slice none 0 0] 27)) (box _ (Obj.cells #[.bool false, .slice none 0 0, .int .i64 0] 29)))
  have R := Lib.hid (Res3.new w (w.alloc (Obj.cells #[.bool false, .slice none 0 0] 27)) (.bool false) (.slice none 0 0) (.int .i64 0) (box _ _))
  have hgz : (w.alloc (Obj.cells #[.bool false, .slice none 0 0] 27)).heap.size = w.heap.size + 1 := by simp
  rw [hgz] at R
  go_enter Tryd.func26, Tryd.ntmps26
  go_wp2_with fail
  refine (nform_0 _).mono ?_
  rintro e w1 ⟨rfl, h1⟩
  have R := Lib.hid (R.out.next h1)
  have kb := blk_below kb0.out h1
  have kz0 : w1.cell? ⟨w.heap.size, 0, none⟩ = some (.bool false) := (blk_cell kb 0).trans rfl
  have kz1 : w1.cell? ⟨w.heap.size, 1, none⟩ = some (.slice none 0 0) := (blk_cell kb 1).trans rfl
  have ky0 := R.out.c0
  have ky1 := R.out.c1
  have ky2 := R.out.c2
  have fy0 := blk_frozen R.out.blk 0
  have fy1 := blk_frozen R.out.blk 1
  have fy2 := blk_frozen R.out.blk 2
  clear kb0 kb h1 hgz
  go_wp2_with fail
  have R := R.out.put (.bool false) (.slice none 0 0) (.int .i64 0)
  have k0 := R.c0
  have k1 := R.c1
  have k2 := R.c2
  refine bodyPost_ret (v := .tuple #[.agg #[.bool false, .slice none 0 0, .int .i64 0], .int .i64 0]) (by simp [results, Tryd.results26, go_sem, k0, k1, k2]; try rfl) rfl ?_
  exact ⟨rfl, R.below⟩
set_option maxRecDepth 100000 in
theorem make_1 (neg : Bool) (G o n c z m : Nat) (x : Int) (w : World) (h : At1 w G o n) (h0 : n ≠ 0) (hn : n < 18446744073709551616) (hz : Lib.ctz 64 n = z) (hm : n / 2^z = m) (hm0 : m ≠ 0) (hx : -1000000 ≤ x) (hx2 : x ≤ 1000000) (hT : Tab w) :
    Calls Tryd.prog 26 #[.agg #[.bool neg, .slice (some ⟨G, o, none⟩) 1 c], .int .i64 x] w fun e w' => (∃ G', e = .returned (.tuple #[.agg #[.bool neg, .slice (some ⟨G', 0, none⟩) 1 1, .int .i64 (x + (z : Nat))], .int .i64 0]) ∧ At1 w' G' 0 m ∧ w.heap.size ≤ G') ∧ Below w.heap.size w w' := by
  have hz64 : z < 64 := by rw [← hz]; exact (Lib.lowest_bit 64 n h0 hn).2
  have kb0 := Lib.hid (blk_below (blk_new w (Obj.cells #[.bool neg, .slice (some ⟨G, o, none⟩) 1 c] 27)) (box _ (Obj.cells #[.bool false, .slice none 0 0, .int .i64 0] 29)))
  have R := Lib.hid (Res3.new w (w.alloc (Obj.cells #[.bool neg, .slice (some ⟨G, o, none⟩) 1 c] 27)) (.bool false) (.slice none 0 0) (.int .i64 0) (box _ _))
  have hgz : (w.alloc (Obj.cells #[.bool neg, .slice (some ⟨G, o, none⟩) 1 c] 27)).heap.size = w.heap.size + 1 := by simp
  rw [hgz] at R
  have H := Lib.hid ((h.next (box w (Obj.cells #[.bool neg, .slice (some ⟨G, o, none⟩) 1 c] 27))).next (box _ (Obj.cells #[.bool false, .slice none 0 0, .int .i64 0] 29)))
  have T := Lib.hid ((hT.next (box w (Obj.cells #[.bool neg, .slice (some ⟨G, o, none⟩) 1 c] 27))).next (box _ (Obj.cells #[.bool false, .slice none 0 0, .int .i64 0] 29)))
  have HW := Lib.hid (And.intro h0 (And.intro hn (And.intro hz (And.intro hm (And.intro hm0 hz64)))))
  have q1 : decide (1048576 < x) = false := decide_eq_false (by omega)
  have q2 : decide (x < -1572864) = false := decide_eq_false (by omega)
  have q3 : IntKind.i64.wrap (x + (z : Int)) = x + (z : Int) := IntWalk.i64_in _ (by omega)
  have q4 : decide (x + (z : Int) < -1048576) = false := decide_eq_false (by omega)
  have q5 : decide (1048576 < x + (z : Int)) = false := decide_eq_false (by omega)
  clear h h0 hn hz hm hm0 hx hx2 hT hz64 hgz
  go_enter Tryd.func26, Tryd.ntmps26
  go_wp2_with fail
  refine (nform_1 _ neg G o n c H.out HW.out.1).mono ?_
  rintro e w1 ⟨rfl, h1⟩
  have R := Lib.hid (R.out.next h1)
  have kb := blk_below kb0.out h1
  have H := Lib.hid (H.out.next h1)
  have T := Lib.hid (T.out.next h1)
  have kz0 : w1.cell? ⟨w.heap.size, 0, none⟩ = some (.bool neg) := (blk_cell kb 0).trans rfl
  have kz1 : w1.cell? ⟨w.heap.size, 1, none⟩ = some (.slice (some ⟨G, o, none⟩) 1 c) := (blk_cell kb 1).trans rfl
  have KB := Lib.hid kb
  clear kb0 kb h1
  go_wp2_with fail
  refine (trail_1 w1 G o n c H.out HW.out.1 HW.out.2.1 T.out).mono ?_
  rw [HW.out.2.2.1]
  rintro e w2 ⟨rfl, rfl⟩
  go_wp2_with fail
  refine (shr_1 _ G o n c z m H.out HW.out.1 HW.out.2.2.2.2.2 HW.out.2.2.2.1 HW.out.2.2.2.2.1).mono ?_
  rintro e w3 ⟨⟨G', rfl, h3, hG⟩, hd⟩
  have hG1 : w.heap.size + 1 < G' := Nat.lt_of_lt_of_le (World.block_lt_of_cell? _ _ R.out.c0) hG
  have R := Lib.hid (R.out.next hd)
  have kb := blk_below KB.out hd
  have kz0 : w3.cell? ⟨w.heap.size, 0, none⟩ = some (.bool neg) := (blk_cell kb 0).trans rfl
  have ky0 := R.out.c0
  have ky1 := R.out.c1
  have ky2 := R.out.c2
  have fy0 := blk_frozen R.out.blk 0
  have fy1 := blk_frozen R.out.blk 1
  have fy2 := blk_frozen R.out.blk 2
  have H3 := Lib.hid (And.intro h3 hG1)
  clear kb hd h3 hG hG1
  go_wp2_with fail
  have R := R.out.put (.bool neg) (.slice (some ⟨G', 0, none⟩) 1 1) (.int .i64 (x + (z : Int)))
  have k0 := R.c0
  have k1 := R.c1
  have k2 := R.c2
  refine bodyPost_ret (v := .tuple #[.agg #[.bool neg, .slice (some ⟨G', 0, none⟩) 1 1, .int .i64 (x + (z : Int))], .int .i64 0]) (by simp [results, Tryd.results26, go_sem, k0, k1, k2]; try rfl) rfl ?_
  have hG1 := H3.out.2
  exact ⟨⟨G', rfl, at1_set H3.out.1 (by omega) _ _ _, by omega⟩, R.below⟩
structure DyA (w w' : World) (e : Ending) (neg : Bool) (n : Nat) (x : Int) : Prop where mk :: (zero : n = 0 → e = .returned (.tuple #[.agg #[.bool false, .slice none 0 0, .int .i64 0], .int .i64 0])) (pos : n ≠ 0 → ∃ G', e = .returned (.tuple #[.agg #[.bool neg, .slice (some ⟨G', 0, none⟩) 1 1, .int .i64 (x + (Lib.ctz 64 n : Nat))], .int .i64 0]) ∧ At1 w' G' 0 (n / 2^(Lib.ctz 64 n)) ∧ w.heap.size ≤ G')
theorem odd_pos {n : Nat} (h0 : n ≠ 0) (hn : n < 18446744073709551616) : n / 2^(Lib.ctz 64 n) ≠ 0 := by
  obtain ⟨m, hm, _⟩ := Lib.ctzFrom_spec 64 n (by omega) hn
  have e : Lib.ctz 64 n = Lib.ctzFrom 64 n := by simp [Lib.ctz, h0]
  rw [e]
  have : n / 2^(Lib.ctzFrom 64 n) = 2 * m + 1 := by
    conv => lhs; rw [hm]
    rw [← hm]
    exact Nat.div_eq_of_eq_mul_right (Nat.two_pow_pos _) hm
  omega
set_option maxRecDepth 100000 in
theorem number_any (neg : Bool) (n : Nat) (x : Int) (w : World) (hn : n < 18446744073709551616) (hx : -1000000 ≤ x) (hx2 : x ≤ 1000000) (hT : Tab w) :
    Calls Tryd.prog 38 #[.bool neg, .int .u64 n, .int .i64 x] w fun e w' => DyA w w' e neg n x ∧ Below w.heap.size w w' := by
  have R := Lib.hid (Res3.new w w (.bool false) (.slice none 0 0) (.int .i64 0) (Below.refl _ _))
  have T := Lib.hid (hT.next (box w (Obj.cells #[.bool false, .slice none 0 0, .int .i64 0] 29)))
  by_cases h0 : n = 0
  · subst h0
    clear hn hx hx2 hT T
    cases neg
    · go_enter Tryd.func38, Tryd.ntmps38
      go_wp2_with fail
      refine (word_0 _).mono ?_
      rintro e w1 ⟨rfl, h1⟩
      have R := Lib.hid (R.out.next h1)
      clear h1
      go_wp2_with fail
      refine (make_0 x _).mono ?_
      rintro e w2 ⟨rfl, h1⟩
      have R := Lib.hid (R.out.next h1)
      have ky0 := R.out.c0
      have ky1 := R.out.c1
      have ky2 := R.out.c2
      have fy0 := blk_frozen R.out.blk 0
      have fy1 := blk_frozen R.out.blk 1
      have fy2 := blk_frozen R.out.blk 2
      clear h1
      go_wp2_with fail
      have R := R.out.put (.bool false) (.slice none 0 0) (.int .i64 0)
      have k0 := R.c0
      have k1 := R.c1
      have k2 := R.c2
      refine bodyPost_ret (v := .tuple #[.agg #[.bool false, .slice none 0 0, .int .i64 0], .int .i64 0]) (by simp [results, Tryd.results38, go_sem, k0, k1, k2]; try rfl) rfl ?_
      exact ⟨⟨fun _ => rfl, fun h => absurd rfl h⟩, R.below⟩
    · go_enter Tryd.func38, Tryd.ntmps38
      go_wp2_with fail
      refine (word_0 _).mono ?_
      rintro e w1 ⟨rfl, h1⟩
      have R := Lib.hid (R.out.next h1)
      clear h1
      go_wp2_with fail
      refine (make_0 x _).mono ?_
      rintro e w2 ⟨rfl, h1⟩
      have R := Lib.hid (R.out.next h1)
      have ky0 := R.out.c0
      have ky1 := R.out.c1
      have ky2 := R.out.c2
      have fy0 := blk_frozen R.out.blk 0
      have fy1 := blk_frozen R.out.blk 1
      have fy2 := blk_frozen R.out.blk 2
      clear h1
      go_wp2_with fail
      have R := R.out.put (.bool false) (.slice none 0 0) (.int .i64 0)
      have k0 := R.c0
      have k1 := R.c1
      have k2 := R.c2
      refine bodyPost_ret (v := .tuple #[.agg #[.bool false, .slice none 0 0, .int .i64 0], .int .i64 0]) (by simp [results, Tryd.results38, go_sem, k0, k1, k2]; try rfl) rfl ?_
      exact ⟨⟨fun _ => rfl, fun h => absurd rfl h⟩, R.below⟩
  · have q1 : ((n : Int) != 0) = true := by simpa using h0
    have HW := Lib.hid (And.intro h0 (And.intro hn (And.intro hx hx2)))
    clear h0 hn hx hx2 hT
    cases neg
    · go_enter Tryd.func38, Tryd.ntmps38
      go_wp2_with fail
      refine (word_1 n HW.out.1 _).mono ?_
      rintro e w1 ⟨⟨G, rfl, h3, hG⟩, h1⟩
      have R := Lib.hid (R.out.next h1)
      have T := Lib.hid (T.out.next h1)
      have hw1 := h1.size
      have H := Lib.hid h3
      clear h1 h3
      go_wp2_with fail
      refine (make_1 false G 0 n 1 _ _ x _ H.out HW.out.1 HW.out.2.1 rfl rfl (odd_pos HW.out.1 HW.out.2.1) HW.out.2.2.1 HW.out.2.2.2 T.out).mono ?_
      rintro e w2 ⟨⟨G', rfl, h3, hG'⟩, h1⟩
      have hG1 : w.heap.size < G' := Nat.lt_of_lt_of_le (World.block_lt_of_cell? _ _ R.out.c0) hG'
      have R := Lib.hid (R.out.next h1)
      have ky0 := R.out.c0
      have ky1 := R.out.c1
      have ky2 := R.out.c2
      have fy0 := blk_frozen R.out.blk 0
      have fy1 := blk_frozen R.out.blk 1
      have fy2 := blk_frozen R.out.blk 2
      have H3 := Lib.hid (And.intro h3 hG1)
      clear h1 h3 hG' hG1 hG hw1
      go_wp2_with fail
      have R := R.out.put (.bool false) (.slice (some ⟨G', 0, none⟩) 1 1) (.int .i64 (x + (Lib.ctz 64 n : Nat)))
      have k0 := R.c0
      have k1 := R.c1
      have k2 := R.c2
      refine bodyPost_ret (v := .tuple #[.agg #[.bool false, .slice (some ⟨G', 0, none⟩) 1 1, .int .i64 (x + (Lib.ctz 64 n : Nat))], .int .i64 0]) (by simp [results, Tryd.results38, go_sem, k0, k1, k2]; try rfl) rfl ?_
      have hG1 := H3.out.2
      exact ⟨⟨fun h => absurd h HW.out.1, fun _ => ⟨G', rfl, at1_set H3.out.1 (by omega) _ _ _, by omega⟩⟩, R.below⟩
    · go_enter Tryd.func38, Tryd.ntmps38
      go_wp2_with fail
      refine (word_1 n HW.out.1 _).mono ?_
      rintro e w1 ⟨⟨G, rfl, h3, hG⟩, h1⟩
      have R := Lib.hid (R.out.next h1)
      have T := Lib.hid (T.out.next h1)
      have hw1 := h1.size
      have H := Lib.hid h3
      clear h1 h3
      go_wp2_with fail
      refine (make_1 true G 0 n 1 _ _ x _ H.out HW.out.1 HW.out.2.1 rfl rfl (odd_pos HW.out.1 HW.out.2.1) HW.out.2.2.1 HW.out.2.2.2 T.out).mono ?_
      rintro e w2 ⟨⟨G', rfl, h3, hG'⟩, h1⟩
      have hG1 : w.heap.size < G' := Nat.lt_of_lt_of_le (World.block_lt_of_cell? _ _ R.out.c0) hG'
      have R := Lib.hid (R.out.next h1)
      have ky0 := R.out.c0
      have ky1 := R.out.c1
      have ky2 := R.out.c2
      have fy0 := blk_frozen R.out.blk 0
      have fy1 := blk_frozen R.out.blk 1
      have fy2 := blk_frozen R.out.blk 2
      have H3 := Lib.hid (And.intro h3 hG1)
      clear h1 h3 hG' hG1 hG hw1
      go_wp2_with fail
      have R := R.out.put (.bool true) (.slice (some ⟨G', 0, none⟩) 1 1) (.int .i64 (x + (Lib.ctz 64 n : Nat)))
      have k0 := R.c0
      have k1 := R.c1
      have k2 := R.c2
      refine bodyPost_ret (v := .tuple #[.agg #[.bool true, .slice (some ⟨G', 0, none⟩) 1 1, .int .i64 (x + (Lib.ctz 64 n : Nat))], .int .i64 0]) (by simp [results, Tryd.results38, go_sem, k0, k1, k2]; try rfl) rfl ?_
      have hG1 := H3.out.2
      exact ⟨⟨fun h => absurd h HW.out.1, fun _ => ⟨G', rfl, at1_set H3.out.1 (by omega) _ _ _, by omega⟩⟩, R.below⟩
end Go.Proofs.YthpnmkclboennaaDoor.BinM2
