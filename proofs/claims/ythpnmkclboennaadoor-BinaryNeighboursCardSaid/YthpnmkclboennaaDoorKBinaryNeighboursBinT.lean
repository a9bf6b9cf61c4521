/- Contracts of take. Condition: words of the format. -/
import Derived.Test.YthpnmkclboennaaDoorKBinaryNeighboursBinA
import Derived.Test.YthpnmkclboennaaDoorKBinaryNeighboursBinRow
import Derived.Laws.Rows
namespace Go.Proofs.YthpnmkclboennaaDoor.BinT
open Go.RowKit Go.Proofs.YthpnmkclboennaaDoorW.PrintWords Go.Proofs.YthpnmkclboennaaDoorW.PrintMore Go.Proofs.YthpnmkclboennaaDoorW.PrintLast Go.Proofs.YthpnmkclboennaaDoor.RegInv Go.Proofs.YthpnmkclboennaaDoor.BinLaw Go.Proofs.YthpnmkclboennaaDoor.BinA
def takeT : List (List Nat × List Nat) := [([], []), ([], []), ([], []), ([2], [2]), ([1, 3], [1, 3]), ([4], [4]), ([], []), ([], []), ([7, 3], [7]), ([6, 8], [6, 8]), ([0, 8, 0], [0]), ([5, 10, 0, 1, 2, 3, 4, 5, 10], [5]), ([9, 11, 0, 1, 2, 3, 4, 5, 6, 7, 8, 9, 10, 11], [9]), ([12, 0, 1, 2, 3, 4, 5, 6, 7, 8, 9, 10, 11, 12], [])]
theorem readyAt_lt {l : List Bool} {i : Nat} (h : readyAt takeT l i = true) : i < 14 := by
  by_cases c : i < 14
  · exact c
  · unfold readyAt at h
    rw [List.getElem?_eq_none (by show 14 ≤ i; omega)] at h
    simp at h
def tact (f : Int) (b gs g4 : Nat) (u9 u10 u11 u12 u13 u14 u15 u16 u17 u18 u19 u20 u21 u22 u23 u24 u25 : Value) (t26 t27 t28 t29 t30 t31 t32 t33 t34 t35 t5 t6 t7 : Value) : Act :=
  { tmps := #[.int .i64 f, .int .u64 (b : Int), undef, undef, .pointer (some ⟨g4, 0, none⟩), t5, t6, t7, .pointer (some ⟨gs, 0, none⟩), u9, u10, u11, u12, u13, u14, u15, u16, u17, u18, u19, u20, u21, u22, u23, u24, u25, t26, t27, t28, t29, t30, t31, t32, t33, t34, t35], defers := [] }
structure TIS (W : World) (b gs g4 : Nat) (w : World) (b0 b1 b2 b3 b4 b5 b6 b7 b8 b9 b10 b11 b12 b13 : Bool) (t26 t27 t28 t29 t30 t31 t32 t33 t34 t35 t5 t6 t7 : Value) : Prop where
  mk :: (below : Below W.heap.size W w) (le : W.heap.size ≤ g4) (ne : gs ≠ g4) (s : w.heap[gs]? = some (.cells #[.int .i64 32, .int .i64 24, .int .i64 (-149), .int .u64 2143289345] 63 (0, 0))) (f0 : b0 = true → t26 = .agg #[.int .i64 32, .int .i64 24, .int .i64 (-149), .int .u64 2143289345]) (f1 : b1 = true → t27 = .int .u64 (b : Int)) (f2 : b2 = true → t28 = .agg #[.int .i64 32, .int .i64 24, .int .i64 (-149), .int .u64 2143289345]) (f3 : b3 = true → t29 = .int .u64 2147483648) (f4 : b4 = true → t30 = .int .u64 (bits .and .u64 (b : Int) 2147483648)) (f5 : b5 = true → t31 = .bool (bits .and .u64 (b : Int) 2147483648 != 0)) (f6 : b6 = true → t32 = .int .u64 (b : Int)) (f7 : b7 = true → t33 = .agg #[.int .i64 32, .int .i64 24, .int .i64 (-149), .int .u64 2143289345]) (f8 : b8 = true → t34 = .int .u64 2147483648) (f9 : b9 = true → t35 = .int .u64 (bits .andNot .u64 (b : Int) 2147483648)) (f11 : b11 = true → t5 = .bool (bits .and .u64 (b : Int) 2147483648 != 0)) (f12 : b12 = true → t6 = .int .u64 (bits .andNot .u64 (b : Int) 2147483648)) (f13 : b13 = true → t7 = .int .i64 0) (z : b10 = false → w.heap[g4]? = some (.cells #[.int .i64 0, .int .i64 0, .int .i64 0, .int .u64 0] 63 (0, 0))) (y : b10 = true → w.heap[g4]? = some (.cells #[.int .i64 32, .int .i64 24, .int .i64 (-149), .int .u64 2143289345] 63 (0, 0)))
theorem TIS.next {W w : World} {b gs g4 : Nat} {b0 b1 b2 b3 b4 b5 b6 b7 b8 b9 b10 b11 b12 b13 : Bool} {t26 t27 t28 t29 t30 t31 t32 t33 t34 t35 t5 t6 t7 : Value} {w' : World} (h : TIS W b gs g4 w b0 b1 b2 b3 b4 b5 b6 b7 b8 b9 b10 b11 b12 b13 t26 t27 t28 t29 t30 t31 t32 t33 t34 t35 t5 t6 t7) (d : Below w.heap.size w w') : TIS W b gs g4 w' b0 b1 b2 b3 b4 b5 b6 b7 b8 b9 b10 b11 b12 b13 t26 t27 t28 t29 t30 t31 t32 t33 t34 t35 t5 t6 t7 :=
  ⟨on h.below d, h.le, h.ne, blk_below h.s d, h.f0, h.f1, h.f2, h.f3, h.f4, h.f5, h.f6, h.f7, h.f8, h.f9, h.f11, h.f12, h.f13, (fun c => blk_below (h.z c) d), (fun c => blk_below (h.y c) d)⟩
theorem TIS.st {W w : World} {b gs g4 : Nat} {b0 b1 b2 b3 b4 b5 b6 b7 b8 b9 b11 b12 b13 : Bool} {t26 t27 t28 t29 t30 t31 t32 t33 t34 t35 t5 t6 t7 : Value} (h : TIS W b gs g4 w b0 b1 b2 b3 b4 b5 b6 b7 b8 b9 false b11 b12 b13 t26 t27 t28 t29 t30 t31 t32 t33 t34 t35 t5 t6 t7) : TIS W b gs g4 ((((w.setCell ⟨g4, 0, none⟩ (.int .i64 32)).setCell ⟨g4, 1, none⟩ (.int .i64 24)).setCell ⟨g4, 2, none⟩ (.int .i64 (-149))).setCell ⟨g4, 3, none⟩ (.int .u64 2143289345)) b0 b1 b2 b3 b4 b5 b6 b7 b8 b9 true b11 b12 b13 t26 t27 t28 t29 t30 t31 t32 t33 t34 t35 t5 t6 t7 := by
  have k0 := h.z rfl
  have k1 := blk_set k0 0 (.int .i64 32)
  have k2 := blk_set k1 1 (.int .i64 24)
  have k3 := blk_set k2 2 (.int .i64 (-149))
  have k4 := blk_set k3 3 (.int .u64 2143289345)
  exact ⟨(((h.below.setCell h.le _).setCell h.le _).setCell h.le _).setCell h.le _, h.le, h.ne, blk_far (blk_far (blk_far (blk_far h.s h.ne _) h.ne _) h.ne _) h.ne _, h.f0, h.f1, h.f2, h.f3, h.f4, h.f5, h.f6, h.f7, h.f8, h.f9, h.f11, h.f12, h.f13, (fun c => by cases c), fun _ => k4⟩
def TNS (W : World) (b gs g4 : Nat) (l : List Bool) (a : Act) (w : World) : Prop := ∃ b0 b1 b2 b3 b4 b5 b6 b7 b8 b9 b10 b11 b12 b13 : Bool, ∃ t26 t27 t28 t29 t30 t31 t32 t33 t34 t35 t5 t6 t7 : Value, ∃ u9 u10 u11 u12 u13 u14 u15 u16 u17 u18 u19 u20 u21 u22 u23 u24 u25 : Value, l = [b0, b1, b2, b3, b4, b5, b6, b7, b8, b9, b10, b11, b12, b13] ∧ a = tact 32 b gs g4 u9 u10 u11 u12 u13 u14 u15 u16 u17 u18 u19 u20 u21 u22 u23 u24 u25 t26 t27 t28 t29 t30 t31 t32 t33 t34 t35 t5 t6 t7 ∧ TIS W b gs g4 w b0 b1 b2 b3 b4 b5 b6 b7 b8 b9 b10 b11 b12 b13 t26 t27 t28 t29 t30 t31 t32 t33 t34 t35 t5 t6 t7
set_option maxRecDepth 100000 in
set_option maxHeartbeats 4000000 in
theorem take_S (b : Nat) (h2 : b < 4294967296) (w : World) : Calls Tryd.prog 47 #[.int .i64 32, .int .u64 b] w fun e w' => e = .returned (.tuple #[.agg #[.int .i64 32, .int .i64 24, .int .i64 (-149), .int .u64 2143289345], .bool (decide (2147483648 ≤ b)), .int .u64 (b % 2147483648 : Nat), .int .i64 0]) ∧ Below w.heap.size w w' := by
  have hu63 := Tryd.underlying63
  have q : (((b : Int) / 4294967296) != 0) = false := by
    have : (b : Int) / 4294967296 = 0 := by omega
    rw [this]; rfl
  go_enter Tryd.func47, Tryd.ntmps47
  go_wp2_with fail
  refine (shapeOf_S _).mono ?_
  rintro e w1 ⟨rfl, h1⟩
  have HR : Hid (Below w.heap.size w w1 ∧ w.heap.size < w1.heap.size ∧ w1.heap[w.heap.size]? = some (.cells #[.int .i64 0, .int .i64 0, .int .i64 0, .int .u64 0] 63 (0, 0))) :=
    Lib.hid ⟨on (box _ _) h1, Nat.lt_of_lt_of_le (by simp) h1.size, by rw [h1.block _ (by simp)]; exact heap_alloc_new _ _⟩
  clear h1
  go_wp2_with fail
  have HT : Hid (TIS w b w1.heap.size w.heap.size (w1.alloc (Obj.cells #[.int .i64 32, .int .i64 24, .int .i64 (-149), .int .u64 2143289345] 63)).drew false false false false false false false false false false false false false false undef undef undef undef undef undef undef undef undef undef (.bool false) (.int .u64 0) (.int .i64 0)) := by
    have d : Below w1.heap.size w1 (w1.alloc (Obj.cells #[.int .i64 32, .int .i64 24, .int .i64 (-149), .int .u64 2143289345] 63)).drew := on (box _ _) (Below.refl _ _).drew
    exact Lib.hid ⟨on HR.out.1 d, Nat.le_refl _, Nat.ne_of_gt HR.out.2.1, blk_below (blk_new _ _) ((Below.refl _ _).drew), (fun c => by cases c), (fun c => by cases c), (fun c => by cases c), (fun c => by cases c), (fun c => by cases c), (fun c => by cases c), (fun c => by cases c), (fun c => by cases c), (fun c => by cases c), (fun c => by cases c), (fun c => by cases c), (fun c => by cases c), (fun c => by cases c), (fun _ => blk_below HR.out.2.2 d), (fun c => by cases c)⟩
  generalize (w1.alloc (Obj.cells #[.int .i64 32, .int .i64 24, .int .i64 (-149), .int .u64 2143289345] 63)) = w2 at *
  generalize w1.heap.size = gs at *
  clear q
  refine wp_region_inv (T := takeT) (by kernel_rfl) 14 rfl (by kernel_rfl) (by kernel_rfl) (TNS w b gs w.heap.size) ?_ ?_ ?_
  · exact ⟨false, false, false, false, false, false, false, false, false, false, false, false, false, false, _, _, _, _, _, _, _, _, _, _, _, _, _, _, _, _, _, _, _, _, _, _, _, _, _, _, _, _, _, _, rfl, rfl, HT.out⟩
  · intro l a ws i hI hr
    obtain ⟨b0, b1, b2, b3, b4, b5, b6, b7, b8, b9, b10, b11, b12, b13, t26, t27, t28, t29, t30, t31, t32, t33, t34, t35, t5, t6, t7, u9, u10, u11, u12, u13, u14, u15, u16, u17, u18, u19, u20, u21, u22, u23, u24, u25, rfl, rfl, h⟩ := hI
    have hi : i < 14 := readyAt_lt hr
    rcases (show i = 0 ∨ i = 1 ∨ i = 2 ∨ i = 3 ∨ i = 4 ∨ i = 5 ∨ i = 6 ∨ i = 7 ∨ i = 8 ∨ i = 9 ∨ i = 10 ∨ i = 11 ∨ i = 12 ∨ i = 13 by omega) with rfl | rfl | rfl | rfl | rfl | rfl | rfl | rfl | rfl | rfl | rfl | rfl | rfl | rfl
    · unfold tact
      have kz0 := (blk_cell h.s 0).trans rfl
      have kz1 := (blk_cell h.s 1).trans rfl
      have kz2 := (blk_cell h.s 2).trans rfl
      have kz3 := (blk_cell h.s 3).trans rfl
      refine wpOp_step rfl (fun K hK => ?_)
      refine value_ (w1 := ?_) (v := ?_) (by rfl) rfl ?_ ?_
      rotate_left 2
      · go_simp
        constructor
        · rfl
        · rfl
      exact hK _ _ ⟨true, b1, b2, b3, b4, b5, b6, b7, b8, b9, b10, b11, b12, b13, _, _, _, _, _, _, _, _, _, _, _, _, _, _, _, _, _, _, _, _, _, _, _, _, _, _, _, _, _, _, rfl, rfl, ⟨h.below, h.le, h.ne, h.s, (fun _ => rfl), h.f1, h.f2, h.f3, h.f4, h.f5, h.f6, h.f7, h.f8, h.f9, h.f11, h.f12, h.f13, h.z, h.y⟩⟩
    · unfold tact
      refine wpOp_step rfl (fun K hK => ?_)
      refine value_ (w1 := ?_) (v := ?_) (by rfl) rfl ?_ ?_
      rotate_left 2
      · go_simp
        constructor
        · rfl
        · rfl
      exact hK _ _ ⟨b0, true, b2, b3, b4, b5, b6, b7, b8, b9, b10, b11, b12, b13, _, _, _, _, _, _, _, _, _, _, _, _, _, _, _, _, _, _, _, _, _, _, _, _, _, _, _, _, _, _, rfl, rfl, ⟨h.below, h.le, h.ne, h.s, h.f0, (fun _ => rfl), h.f2, h.f3, h.f4, h.f5, h.f6, h.f7, h.f8, h.f9, h.f11, h.f12, h.f13, h.z, h.y⟩⟩
    · unfold tact
      have kz0 := (blk_cell h.s 0).trans rfl
      have kz1 := (blk_cell h.s 1).trans rfl
      have kz2 := (blk_cell h.s 2).trans rfl
      have kz3 := (blk_cell h.s 3).trans rfl
      refine wpOp_step rfl (fun K hK => ?_)
      refine value_ (w1 := ?_) (v := ?_) (by rfl) rfl ?_ ?_
      rotate_left 2
      · go_simp
        constructor
        · rfl
        · rfl
      exact hK _ _ ⟨b0, b1, true, b3, b4, b5, b6, b7, b8, b9, b10, b11, b12, b13, _, _, _, _, _, _, _, _, _, _, _, _, _, _, _, _, _, _, _, _, _, _, _, _, _, _, _, _, _, _, rfl, rfl, ⟨h.below, h.le, h.ne, h.s, h.f0, h.f1, (fun _ => rfl), h.f3, h.f4, h.f5, h.f6, h.f7, h.f8, h.f9, h.f11, h.f12, h.f13, h.z, h.y⟩⟩
    · unfold tact
      have hb2 : b2 = true := (by cases b2 with | true => rfl | false => exact absurd hr (by simp [readyAt, takeT]))
      obtain rfl := h.f2 hb2
      refine wpOp_step rfl (fun K hK => ?_)
      refine goes_ Tryd.func81 (by kernel_rfl) rfl #[.agg #[.int .i64 32, .int .i64 24, .int .i64 (-149), .int .u64 2143289345]] (by rfl) rfl rfl (by (try simp only [List.map_toArray, List.map_cons, List.map_nil]); first | done | rfl) ?_
      with_reducible refine (sign_S _).mono ?_
      rintro e_ w' ⟨rfl, hd⟩
      refine ⟨_, rfl, ?_⟩
      have h' := h.next hd
      exact hK _ _ ⟨b0, b1, b2, true, b4, b5, b6, b7, b8, b9, b10, b11, b12, b13, _, _, _, _, _, _, _, _, _, _, _, _, _, _, _, _, _, _, _, _, _, _, _, _, _, _, _, _, _, _, rfl, rfl, ⟨h'.below, h'.le, h'.ne, h'.s, h'.f0, h'.f1, h'.f2, (fun _ => rfl), h'.f4, h'.f5, h'.f6, h'.f7, h'.f8, h'.f9, h'.f11, h'.f12, h'.f13, h'.z, h'.y⟩⟩
    · unfold tact
      have hb1 : b1 = true := (by cases b1 with | true => rfl | false => exact absurd hr (by simp [readyAt, takeT]))
      obtain rfl := h.f1 hb1
      have hb3 : b3 = true := (by cases b3 with | true => rfl | false => exact absurd hr (by simp [readyAt, takeT]))
      obtain rfl := h.f3 hb3
      refine wpOp_step rfl (fun K hK => ?_)
      refine value_ (w1 := ?_) (v := ?_) (by rfl) rfl ?_ ?_
      rotate_left 2
      · go_simp
        constructor
        · rfl
        · rfl
      exact hK _ _ ⟨b0, b1, b2, b3, true, b5, b6, b7, b8, b9, b10, b11, b12, b13, _, _, _, _, _, _, _, _, _, _, _, _, _, _, _, _, _, _, _, _, _, _, _, _, _, _, _, _, _, _, rfl, rfl, ⟨h.below, h.le, h.ne, h.s, h.f0, h.f1, h.f2, h.f3, (fun _ => rfl), h.f5, h.f6, h.f7, h.f8, h.f9, h.f11, h.f12, h.f13, h.z, h.y⟩⟩
    · unfold tact
      have hb4 : b4 = true := (by cases b4 with | true => rfl | false => exact absurd hr (by simp [readyAt, takeT]))
      obtain rfl := h.f4 hb4
      refine wpOp_step rfl (fun K hK => ?_)
      refine value_ (w1 := ?_) (v := ?_) (by rfl) rfl ?_ ?_
      rotate_left 2
      · go_simp
        constructor
        · rfl
        · rfl
      exact hK _ _ ⟨b0, b1, b2, b3, b4, true, b6, b7, b8, b9, b10, b11, b12, b13, _, _, _, _, _, _, _, _, _, _, _, _, _, _, _, _, _, _, _, _, _, _, _, _, _, _, _, _, _, _, rfl, rfl, ⟨h.below, h.le, h.ne, h.s, h.f0, h.f1, h.f2, h.f3, h.f4, (fun _ => rfl), h.f6, h.f7, h.f8, h.f9, h.f11, h.f12, h.f13, h.z, h.y⟩⟩
    · unfold tact
      refine wpOp_step rfl (fun K hK => ?_)
      refine value_ (w1 := ?_) (v := ?_) (by rfl) rfl ?_ ?_
      rotate_left 2
      · go_simp
        constructor
        · rfl
        · rfl
      exact hK _ _ ⟨b0, b1, b2, b3, b4, b5, true, b7, b8, b9, b10, b11, b12, b13, _, _, _, _, _, _, _, _, _, _, _, _, _, _, _, _, _, _, _, _, _, _, _, _, _, _, _, _, _, _, rfl, rfl, ⟨h.below, h.le, h.ne, h.s, h.f0, h.f1, h.f2, h.f3, h.f4, h.f5, (fun _ => rfl), h.f7, h.f8, h.f9, h.f11, h.f12, h.f13, h.z, h.y⟩⟩
    · unfold tact
      have kz0 := (blk_cell h.s 0).trans rfl
      have kz1 := (blk_cell h.s 1).trans rfl
      have kz2 := (blk_cell h.s 2).trans rfl
      have kz3 := (blk_cell h.s 3).trans rfl
      refine wpOp_step rfl (fun K hK => ?_)
      refine value_ (w1 := ?_) (v := ?_) (by rfl) rfl ?_ ?_
      rotate_left 2
      · go_simp
        constructor
        · rfl
        · rfl
      exact hK _ _ ⟨b0, b1, b2, b3, b4, b5, b6, true, b8, b9, b10, b11, b12, b13, _, _, _, _, _, _, _, _, _, _, _, _, _, _, _, _, _, _, _, _, _, _, _, _, _, _, _, _, _, _, rfl, rfl, ⟨h.below, h.le, h.ne, h.s, h.f0, h.f1, h.f2, h.f3, h.f4, h.f5, h.f6, (fun _ => rfl), h.f8, h.f9, h.f11, h.f12, h.f13, h.z, h.y⟩⟩
    · unfold tact
      have hb7 : b7 = true := (by cases b7 with | true => rfl | false => exact absurd hr (by simp [readyAt, takeT]))
      obtain rfl := h.f7 hb7
      refine wpOp_step rfl (fun K hK => ?_)
      refine goes_ Tryd.func81 (by kernel_rfl) rfl #[.agg #[.int .i64 32, .int .i64 24, .int .i64 (-149), .int .u64 2143289345]] (by rfl) rfl rfl (by (try simp only [List.map_toArray, List.map_cons, List.map_nil]); first | done | rfl) ?_
      with_reducible refine (sign_S _).mono ?_
      rintro e_ w' ⟨rfl, hd⟩
      refine ⟨_, rfl, ?_⟩
      have h' := h.next hd
      exact hK _ _ ⟨b0, b1, b2, b3, b4, b5, b6, b7, true, b9, b10, b11, b12, b13, _, _, _, _, _, _, _, _, _, _, _, _, _, _, _, _, _, _, _, _, _, _, _, _, _, _, _, _, _, _, rfl, rfl, ⟨h'.below, h'.le, h'.ne, h'.s, h'.f0, h'.f1, h'.f2, h'.f3, h'.f4, h'.f5, h'.f6, h'.f7, (fun _ => rfl), h'.f9, h'.f11, h'.f12, h'.f13, h'.z, h'.y⟩⟩
    · unfold tact
      have hb6 : b6 = true := (by cases b6 with | true => rfl | false => exact absurd hr (by simp [readyAt, takeT]))
      obtain rfl := h.f6 hb6
      have hb8 : b8 = true := (by cases b8 with | true => rfl | false => exact absurd hr (by simp [readyAt, takeT]))
      obtain rfl := h.f8 hb8
      refine wpOp_step rfl (fun K hK => ?_)
      refine value_ (w1 := ?_) (v := ?_) (by rfl) rfl ?_ ?_
      rotate_left 2
      · go_simp
        constructor
        · rfl
        · rfl
      exact hK _ _ ⟨b0, b1, b2, b3, b4, b5, b6, b7, b8, true, b10, b11, b12, b13, _, _, _, _, _, _, _, _, _, _, _, _, _, _, _, _, _, _, _, _, _, _, _, _, _, _, _, _, _, _, rfl, rfl, ⟨h.below, h.le, h.ne, h.s, h.f0, h.f1, h.f2, h.f3, h.f4, h.f5, h.f6, h.f7, h.f8, (fun _ => rfl), h.f11, h.f12, h.f13, h.z, h.y⟩⟩
    · unfold tact
      have hb0 : b0 = true := (by cases b0 with | true => rfl | false => exact absurd hr (by simp [readyAt, takeT]))
      obtain rfl := h.f0 hb0
      have hn : b10 = false := (by cases b10 with | false => rfl | true => exact absurd hr (by simp [readyAt, takeT]))
      subst hn
      have kz0 := (blk_cell (h.z rfl) 0).trans rfl
      have kz1 := (blk_cell (h.z rfl) 1).trans rfl
      have kz2 := (blk_cell (h.z rfl) 2).trans rfl
      have kz3 := (blk_cell (h.z rfl) 3).trans rfl
      have fz0 := blk_frozen (h.z rfl) 0
      have fz1 := blk_frozen (h.z rfl) 1
      have fz2 := blk_frozen (h.z rfl) 2
      have fz3 := blk_frozen (h.z rfl) 3
      refine wpOp_step rfl (fun K hK => ?_)
      refine skip_ (w1 := ?_) (by rfl) rfl ?_ ?_
      rotate_left
      · go_simp
        rfl
      exact hK _ _ ⟨b0, b1, b2, b3, b4, b5, b6, b7, b8, b9, true, b11, b12, b13, _, _, _, _, _, _, _, _, _, _, _, _, _, _, _, _, _, _, _, _, _, _, _, _, _, _, _, _, _, _, rfl, rfl, h.st⟩
    · unfold tact
      have hb5 : b5 = true := (by cases b5 with | true => rfl | false => exact absurd hr (by simp [readyAt, takeT]))
      obtain rfl := h.f5 hb5
      refine wpOp_step rfl (fun K hK => ?_)
      refine value_ (w1 := ?_) (v := ?_) (by rfl) rfl ?_ ?_
      rotate_left 2
      · go_simp
        constructor
        · rfl
        · rfl
      exact hK _ _ ⟨b0, b1, b2, b3, b4, b5, b6, b7, b8, b9, b10, true, b12, b13, _, _, _, _, _, _, _, _, _, _, _, _, _, _, _, _, _, _, _, _, _, _, _, _, _, _, _, _, _, _, rfl, rfl, ⟨h.below, h.le, h.ne, h.s, h.f0, h.f1, h.f2, h.f3, h.f4, h.f5, h.f6, h.f7, h.f8, h.f9, (fun _ => rfl), h.f12, h.f13, h.z, h.y⟩⟩
    · unfold tact
      have hb9 : b9 = true := (by cases b9 with | true => rfl | false => exact absurd hr (by simp [readyAt, takeT]))
      obtain rfl := h.f9 hb9
      refine wpOp_step rfl (fun K hK => ?_)
      refine value_ (w1 := ?_) (v := ?_) (by rfl) rfl ?_ ?_
      rotate_left 2
      · go_simp
        constructor
        · rfl
        · rfl
      exact hK _ _ ⟨b0, b1, b2, b3, b4, b5, b6, b7, b8, b9, b10, b11, true, b13, _, _, _, _, _, _, _, _, _, _, _, _, _, _, _, _, _, _, _, _, _, _, _, _, _, _, _, _, _, _, rfl, rfl, ⟨h.below, h.le, h.ne, h.s, h.f0, h.f1, h.f2, h.f3, h.f4, h.f5, h.f6, h.f7, h.f8, h.f9, h.f11, (fun _ => rfl), h.f13, h.z, h.y⟩⟩
    · unfold tact
      refine wpOp_step rfl (fun K hK => ?_)
      refine value_ (w1 := ?_) (v := ?_) (by rfl) rfl ?_ ?_
      rotate_left 2
      · go_simp
        constructor
        · rfl
        · rfl
      exact hK _ _ ⟨b0, b1, b2, b3, b4, b5, b6, b7, b8, b9, b10, b11, b12, true, _, _, _, _, _, _, _, _, _, _, _, _, _, _, _, _, _, _, _, _, _, _, _, _, _, _, _, _, _, _, rfl, rfl, ⟨h.below, h.le, h.ne, h.s, h.f0, h.f1, h.f2, h.f3, h.f4, h.f5, h.f6, h.f7, h.f8, h.f9, h.f11, h.f12, (fun _ => rfl), h.z, h.y⟩⟩
  · intro l a ws hI hall
    obtain ⟨b0, b1, b2, b3, b4, b5, b6, b7, b8, b9, b10, b11, b12, b13, t26, t27, t28, t29, t30, t31, t32, t33, t34, t35, t5, t6, t7, u9, u10, u11, u12, u13, u14, u15, u16, u17, u18, u19, u20, u21, u22, u23, u24, u25, rfl, rfl, h⟩ := hI
    obtain rfl := h.f11 (hall 11 (by decide))
    obtain rfl := h.f12 (hall 12 (by decide))
    obtain rfl := h.f13 (hall 13 (by decide))
    have hy := h.y (hall 10 (by decide))
    have k0 : ws.cell? ⟨w.heap.size, 0, none⟩ = some (.int .i64 32) := (blk_cell hy 0).trans rfl
    have k1 : ws.cell? ⟨w.heap.size, 1, none⟩ = some (.int .i64 24) := (blk_cell hy 1).trans rfl
    have k2 : ws.cell? ⟨w.heap.size, 2, none⟩ = some (.int .i64 (-149)) := (blk_cell hy 2).trans rfl
    have k3 : ws.cell? ⟨w.heap.size, 3, none⟩ = some (.int .u64 2143289345) := (blk_cell hy 3).trans rfl
    have HB := Lib.hid h.below
    have e1 := and_sg (F := fS) (by unfold IsF; simp) (b := b) h2
    have e2 := andNot_sg (F := fS) (by unfold IsF; simp) (b := b) h2
    clear hall h hy
    unfold tact
    go_wp2_with fail
    refine bodyPost_ret (v := .tuple #[.agg #[.int .i64 32, .int .i64 24, .int .i64 (-149), .int .u64 2143289345], .bool (bits .and .u64 (b : Int) 2147483648 != 0), .int .u64 (bits .andNot .u64 (b : Int) 2147483648), .int .i64 0]) (by simp [results, Tryd.results47, go_sem, k0, k1, k2, k3]; try rfl) rfl ?_
    exact ⟨by rw [show ((2147483648 : Int)) = ((fS.sg : Nat) : Int) from rfl, e1, e2]; rfl, HB.out⟩
structure TID (W : World) (b gs g4 : Nat) (w : World) (b0 b1 b2 b3 b4 b5 b6 b7 b8 b9 b10 b11 b12 b13 : Bool) (t26 t27 t28 t29 t30 t31 t32 t33 t34 t35 t5 t6 t7 : Value) : Prop where
  mk :: (below : Below W.heap.size W w) (le : W.heap.size ≤ g4) (ne : gs ≠ g4) (s : w.heap[gs]? = some (.cells #[.int .i64 64, .int .i64 53, .int .i64 (-1074), .int .u64 9221120237041090561] 63 (0, 0))) (f0 : b0 = true → t26 = .agg #[.int .i64 64, .int .i64 53, .int .i64 (-1074), .int .u64 9221120237041090561]) (f1 : b1 = true → t27 = .int .u64 (b : Int)) (f2 : b2 = true → t28 = .agg #[.int .i64 64, .int .i64 53, .int .i64 (-1074), .int .u64 9221120237041090561]) (f3 : b3 = true → t29 = .int .u64 9223372036854775808) (f4 : b4 = true → t30 = .int .u64 (bits .and .u64 (b : Int) 9223372036854775808)) (f5 : b5 = true → t31 = .bool (bits .and .u64 (b : Int) 9223372036854775808 != 0)) (f6 : b6 = true → t32 = .int .u64 (b : Int)) (f7 : b7 = true → t33 = .agg #[.int .i64 64, .int .i64 53, .int .i64 (-1074), .int .u64 9221120237041090561]) (f8 : b8 = true → t34 = .int .u64 9223372036854775808) (f9 : b9 = true → t35 = .int .u64 (bits .andNot .u64 (b : Int) 9223372036854775808)) (f11 : b11 = true → t5 = .bool (bits .and .u64 (b : Int) 9223372036854775808 != 0)) (f12 : b12 = true → t6 = .int .u64 (bits .andNot .u64 (b : Int) 9223372036854775808)) (f13 : b13 = true → t7 = .int .i64 0) (z : b10 = false → w.heap[g4]? = some (.cells #[.int .i64 0, .int .i64 0, .int .i64 0, .int .u64 0] 63 (0, 0))) (y : b10 = true → w.heap[g4]? = some (.cells #[.int .i64 64, .int .i64 53, .int .i64 (-1074), .int .u64 9221120237041090561] 63 (0, 0)))
theorem TID.next {W w : World} {b gs g4 : Nat} {b0 b1 b2 b3 b4 b5 b6 b7 b8 b9 b10 b11 b12 b13 : Bool} {t26 t27 t28 t29 t30 t31 t32 t33 t34 t35 t5 t6 t7 : Value} {w' : World} (h : TID W b gs g4 w b0 b1 b2 b3 b4 b5 b6 b7 b8 b9 b10 b11 b12 b13 t26 t27 t28 t29 t30 t31 t32 t33 t34 t35 t5 t6 t7) (d : Below w.heap.size w w') : TID W b gs g4 w' b0 b1 b2 b3 b4 b5 b6 b7 b8 b9 b10 b11 b12 b13 t26 t27 t28 t29 t30 t31 t32 t33 t34 t35 t5 t6 t7 :=
  ⟨on h.below d, h.le, h.ne, blk_below h.s d, h.f0, h.f1, h.f2, h.f3, h.f4, h.f5, h.f6, h.f7, h.f8, h.f9, h.f11, h.f12, h.f13, (fun c => blk_below (h.z c) d), (fun c => blk_below (h.y c) d)⟩
theorem TID.st {W w : World} {b gs g4 : Nat} {b0 b1 b2 b3 b4 b5 b6 b7 b8 b9 b11 b12 b13 : Bool} {t26 t27 t28 t29 t30 t31 t32 t33 t34 t35 t5 t6 t7 : Value} (h : TID W b gs g4 w b0 b1 b2 b3 b4 b5 b6 b7 b8 b9 false b11 b12 b13 t26 t27 t28 t29 t30 t31 t32 t33 t34 t35 t5 t6 t7) : TID W b gs g4 ((((w.setCell ⟨g4, 0, none⟩ (.int .i64 64)).setCell ⟨g4, 1, none⟩ (.int .i64 53)).setCell ⟨g4, 2, none⟩ (.int .i64 (-1074))).setCell ⟨g4, 3, none⟩ (.int .u64 9221120237041090561)) b0 b1 b2 b3 b4 b5 b6 b7 b8 b9 true b11 b12 b13 t26 t27 t28 t29 t30 t31 t32 t33 t34 t35 t5 t6 t7 := by
  have k0 := h.z rfl
  have k1 := blk_set k0 0 (.int .i64 64)
  have k2 := blk_set k1 1 (.int .i64 53)
  have k3 := blk_set k2 2 (.int .i64 (-1074))
  have k4 := blk_set k3 3 (.int .u64 9221120237041090561)
  exact ⟨(((h.below.setCell h.le _).setCell h.le _).setCell h.le _).setCell h.le _, h.le, h.ne, blk_far (blk_far (blk_far (blk_far h.s h.ne _) h.ne _) h.ne _) h.ne _, h.f0, h.f1, h.f2, h.f3, h.f4, h.f5, h.f6, h.f7, h.f8, h.f9, h.f11, h.f12, h.f13, (fun c => by cases c), fun _ => k4⟩
def TND (W : World) (b gs g4 : Nat) (l : List Bool) (a : Act) (w : World) : Prop := ∃ b0 b1 b2 b3 b4 b5 b6 b7 b8 b9 b10 b11 b12 b13 : Bool, ∃ t26 t27 t28 t29 t30 t31 t32 t33 t34 t35 t5 t6 t7 : Value, ∃ u9 u10 u11 u12 u13 u14 u15 u16 u17 u18 u19 u20 u21 u22 u23 u24 u25 : Value, l = [b0, b1, b2, b3, b4, b5, b6, b7, b8, b9, b10, b11, b12, b13] ∧ a = tact 64 b gs g4 u9 u10 u11 u12 u13 u14 u15 u16 u17 u18 u19 u20 u21 u22 u23 u24 u25 t26 t27 t28 t29 t30 t31 t32 t33 t34 t35 t5 t6 t7 ∧ TID W b gs g4 w b0 b1 b2 b3 b4 b5 b6 b7 b8 b9 b10 b11 b12 b13 t26 t27 t28 t29 t30 t31 t32 t33 t34 t35 t5 t6 t7
set_option maxRecDepth 100000 in
set_option maxHeartbeats 4000000 in
theorem take_D (b : Nat) (h2 : b < 18446744073709551616) (w : World) : Calls Tryd.prog 47 #[.int .i64 64, .int .u64 b] w fun e w' => e = .returned (.tuple #[.agg #[.int .i64 64, .int .i64 53, .int .i64 (-1074), .int .u64 9221120237041090561], .bool (decide (9223372036854775808 ≤ b)), .int .u64 (b % 9223372036854775808 : Nat), .int .i64 0]) ∧ Below w.heap.size w w' := by
  have hu63 := Tryd.underlying63
  have q : (((b : Int) / 4294967296) != 0) = (((b : Int) / 4294967296) != 0) := by
    rfl
  go_enter Tryd.func47, Tryd.ntmps47
  go_wp2_with fail
  refine (shapeOf_D _).mono ?_
  rintro e w1 ⟨rfl, h1⟩
  have HR : Hid (Below w.heap.size w w1 ∧ w.heap.size < w1.heap.size ∧ w1.heap[w.heap.size]? = some (.cells #[.int .i64 0, .int .i64 0, .int .i64 0, .int .u64 0] 63 (0, 0))) :=
    Lib.hid ⟨on (box _ _) h1, Nat.lt_of_lt_of_le (by simp) h1.size, by rw [h1.block _ (by simp)]; exact heap_alloc_new _ _⟩
  clear h1
  go_wp2_with fail
  have HT : Hid (TID w b w1.heap.size w.heap.size (w1.alloc (Obj.cells #[.int .i64 64, .int .i64 53, .int .i64 (-1074), .int .u64 9221120237041090561] 63)).drew false false false false false false false false false false false false false false undef undef undef undef undef undef undef undef undef undef (.bool false) (.int .u64 0) (.int .i64 0)) := by
    have d : Below w1.heap.size w1 (w1.alloc (Obj.cells #[.int .i64 64, .int .i64 53, .int .i64 (-1074), .int .u64 9221120237041090561] 63)).drew := on (box _ _) (Below.refl _ _).drew
    exact Lib.hid ⟨on HR.out.1 d, Nat.le_refl _, Nat.ne_of_gt HR.out.2.1, blk_below (blk_new _ _) ((Below.refl _ _).drew), (fun c => by cases c), (fun c => by cases c), (fun c => by cases c), (fun c => by cases c), (fun c => by cases c), (fun c => by cases c), (fun c => by cases c), (fun c => by cases c), (fun c => by cases c), (fun c => by cases c), (fun c => by cases c), (fun c => by cases c), (fun c => by cases c), (fun _ => blk_below HR.out.2.2 d), (fun c => by cases c)⟩
  generalize (w1.alloc (Obj.cells #[.int .i64 64, .int .i64 53, .int .i64 (-1074), .int .u64 9221120237041090561] 63)) = w2 at *
  generalize w1.heap.size = gs at *
  clear q
  refine wp_region_inv (T := takeT) (by kernel_rfl) 14 rfl (by kernel_rfl) (by kernel_rfl) (TND w b gs w.heap.size) ?_ ?_ ?_
  · exact ⟨false, false, false, false, false, false, false, false, false, false, false, false, false, false, _, _, _, _, _, _, _, _, _, _, _, _, _, _, _, _, _, _, _, _, _, _, _, _, _, _, _, _, _, _, rfl, rfl, HT.out⟩
  · intro l a ws i hI hr
    obtain ⟨b0, b1, b2, b3, b4, b5, b6, b7, b8, b9, b10, b11, b12, b13, t26, t27, t28, t29, t30, t31, t32, t33, t34, t35, t5, t6, t7, u9, u10, u11, u12, u13, u14, u15, u16, u17, u18, u19, u20, u21, u22, u23, u24, u25, rfl, rfl, h⟩ := hI
    have hi : i < 14 := readyAt_lt hr
    rcases (show i = 0 ∨ i = 1 ∨ i = 2 ∨ i = 3 ∨ i = 4 ∨ i = 5 ∨ i = 6 ∨ i = 7 ∨ i = 8 ∨ i = 9 ∨ i = 10 ∨ i = 11 ∨ i = 12 ∨ i = 13 by omega) with rfl | rfl | rfl | rfl | rfl | rfl | rfl | rfl | rfl | rfl | rfl | rfl | rfl | rfl
    · unfold tact
      have kz0 := (blk_cell h.s 0).trans rfl
      have kz1 := (blk_cell h.s 1).trans rfl
      have kz2 := (blk_cell h.s 2).trans rfl
      have kz3 := (blk_cell h.s 3).trans rfl
      refine wpOp_step rfl (fun K hK => ?_)
      refine value_ (w1 := ?_) (v := ?_) (by rfl) rfl ?_ ?_
      rotate_left 2
      · go_simp
        constructor
        · rfl
        · rfl
      exact hK _ _ ⟨true, b1, b2, b3, b4, b5, b6, b7, b8, b9, b10, b11, b12, b13, _, _, _, _, _, _, _, _, _, _, _, _, _, _, _, _, _, _, _, _, _, _, _, _, _, _, _, _, _, _, rfl, rfl, ⟨h.below, h.le, h.ne, h.s, (fun _ => rfl), h.f1, h.f2, h.f3, h.f4, h.f5, h.f6, h.f7, h.f8, h.f9, h.f11, h.f12, h.f13, h.z, h.y⟩⟩
    · unfold tact
      refine wpOp_step rfl (fun K hK => ?_)
      refine value_ (w1 := ?_) (v := ?_) (by rfl) rfl ?_ ?_
      rotate_left 2
      · go_simp
        constructor
        · rfl
        · rfl
      exact hK _ _ ⟨b0, true, b2, b3, b4, b5, b6, b7, b8, b9, b10, b11, b12, b13, _, _, _, _, _, _, _, _, _, _, _, _, _, _, _, _, _, _, _, _, _, _, _, _, _, _, _, _, _, _, rfl, rfl, ⟨h.below, h.le, h.ne, h.s, h.f0, (fun _ => rfl), h.f2, h.f3, h.f4, h.f5, h.f6, h.f7, h.f8, h.f9, h.f11, h.f12, h.f13, h.z, h.y⟩⟩
    · unfold tact
      have kz0 := (blk_cell h.s 0).trans rfl
      have kz1 := (blk_cell h.s 1).trans rfl
      have kz2 := (blk_cell h.s 2).trans rfl
      have kz3 := (blk_cell h.s 3).trans rfl
      refine wpOp_step rfl (fun K hK => ?_)
      refine value_ (w1 := ?_) (v := ?_) (by rfl) rfl ?_ ?_
      rotate_left 2
      · go_simp
        constructor
        · rfl
        · rfl
      exact hK _ _ ⟨b0, b1, true, b3, b4, b5, b6, b7, b8, b9, b10, b11, b12, b13, _, _, _, _, _, _, _, _, _, _, _, _, _, _, _, _, _, _, _, _, _, _, _, _, _, _, _, _, _, _, rfl, rfl, ⟨h.below, h.le, h.ne, h.s, h.f0, h.f1, (fun _ => rfl), h.f3, h.f4, h.f5, h.f6, h.f7, h.f8, h.f9, h.f11, h.f12, h.f13, h.z, h.y⟩⟩
    · unfold tact
      have hb2 : b2 = true := (by cases b2 with | true => rfl | false => exact absurd hr (by simp [readyAt, takeT]))
      obtain rfl := h.f2 hb2
      refine wpOp_step rfl (fun K hK => ?_)
      refine goes_ Tryd.func81 (by kernel_rfl) rfl #[.agg #[.int .i64 64, .int .i64 53, .int .i64 (-1074), .int .u64 9221120237041090561]] (by rfl) rfl rfl (by (try simp only [List.map_toArray, List.map_cons, List.map_nil]); first | done | rfl) ?_
      with_reducible refine (sign_D _).mono ?_
      rintro e_ w' ⟨rfl, hd⟩
      refine ⟨_, rfl, ?_⟩
      have h' := h.next hd
      exact hK _ _ ⟨b0, b1, b2, true, b4, b5, b6, b7, b8, b9, b10, b11, b12, b13, _, _, _, _, _, _, _, _, _, _, _, _, _, _, _, _, _, _, _, _, _, _, _, _, _, _, _, _, _, _, rfl, rfl, ⟨h'.below, h'.le, h'.ne, h'.s, h'.f0, h'.f1, h'.f2, (fun _ => rfl), h'.f4, h'.f5, h'.f6, h'.f7, h'.f8, h'.f9, h'.f11, h'.f12, h'.f13, h'.z, h'.y⟩⟩
    · unfold tact
      have hb1 : b1 = true := (by cases b1 with | true => rfl | false => exact absurd hr (by simp [readyAt, takeT]))
      obtain rfl := h.f1 hb1
      have hb3 : b3 = true := (by cases b3 with | true => rfl | false => exact absurd hr (by simp [readyAt, takeT]))
      obtain rfl := h.f3 hb3
      refine wpOp_step rfl (fun K hK => ?_)
      refine value_ (w1 := ?_) (v := ?_) (by rfl) rfl ?_ ?_
      rotate_left 2
      · go_simp
        constructor
        · rfl
        · rfl
      exact hK _ _ ⟨b0, b1, b2, b3, true, b5, b6, b7, b8, b9, b10, b11, b12, b13, _, _, _, _, _, _, _, _, _, _, _, _, _, _, _, _, _, _, _, _, _, _, _, _, _, _, _, _, _, _, rfl, rfl, ⟨h.below, h.le, h.ne, h.s, h.f0, h.f1, h.f2, h.f3, (fun _ => rfl), h.f5, h.f6, h.f7, h.f8, h.f9, h.f11, h.f12, h.f13, h.z, h.y⟩⟩
    · unfold tact
      have hb4 : b4 = true := (by cases b4 with | true => rfl | false => exact absurd hr (by simp [readyAt, takeT]))
      obtain rfl := h.f4 hb4
      refine wpOp_step rfl (fun K hK => ?_)
      refine value_ (w1 := ?_) (v := ?_) (by rfl) rfl ?_ ?_
      rotate_left 2
      · go_simp
        constructor
        · rfl
        · rfl
      exact hK _ _ ⟨b0, b1, b2, b3, b4, true, b6, b7, b8, b9, b10, b11, b12, b13, _, _, _, _, _, _, _, _, _, _, _, _, _, _, _, _, _, _, _, _, _, _, _, _, _, _, _, _, _, _, rfl, rfl, ⟨h.below, h.le, h.ne, h.s, h.f0, h.f1, h.f2, h.f3, h.f4, (fun _ => rfl), h.f6, h.f7, h.f8, h.f9, h.f11, h.f12, h.f13, h.z, h.y⟩⟩
    · unfold tact
      refine wpOp_step rfl (fun K hK => ?_)
      refine value_ (w1 := ?_) (v := ?_) (by rfl) rfl ?_ ?_
      rotate_left 2
      · go_simp
        constructor
        · rfl
        · rfl
      exact hK _ _ ⟨b0, b1, b2, b3, b4, b5, true, b7, b8, b9, b10, b11, b12, b13, _, _, _, _, _, _, _, _, _, _, _, _, _, _, _, _, _, _, _, _, _, _, _, _, _, _, _, _, _, _, rfl, rfl, ⟨h.below, h.le, h.ne, h.s, h.f0, h.f1, h.f2, h.f3, h.f4, h.f5, (fun _ => rfl), h.f7, h.f8, h.f9, h.f11, h.f12, h.f13, h.z, h.y⟩⟩
    · unfold tact
      have kz0 := (blk_cell h.s 0).trans rfl
      have kz1 := (blk_cell h.s 1).trans rfl
      have kz2 := (blk_cell h.s 2).trans rfl
      have kz3 := (blk_cell h.s 3).trans rfl
      refine wpOp_step rfl (fun K hK => ?_)
      refine value_ (w1 := ?_) (v := ?_) (by rfl) rfl ?_ ?_
      rotate_left 2
      · go_simp
        constructor
        · rfl
        · rfl
      exact hK _ _ ⟨b0, b1, b2, b3, b4, b5, b6, true, b8, b9, b10, b11, b12, b13, _, _, _, _, _, _, _, _, _, _, _, _, _, _, _, _, _, _, _, _, _, _, _, _, _, _, _, _, _, _, rfl, rfl, ⟨h.below, h.le, h.ne, h.s, h.f0, h.f1, h.f2, h.f3, h.f4, h.f5, h.f6, (fun _ => rfl), h.f8, h.f9, h.f11, h.f12, h.f13, h.z, h.y⟩⟩
    · unfold tact
      have hb7 : b7 = true := (by cases b7 with | true => rfl | false => exact absurd hr (by simp [readyAt, takeT]))
      obtain rfl := h.f7 hb7
      refine wpOp_step rfl (fun K hK => ?_)
      refine goes_ Tryd.func81 (by kernel_rfl) rfl #[.agg #[.int .i64 64, .int .i64 53, .int .i64 (-1074), .int .u64 9221120237041090561]] (by rfl) rfl rfl (by (try simp only [List.map_toArray, List.map_cons, List.map_nil]); first | done | rfl) ?_
      with_reducible refine (sign_D _).mono ?_
      rintro e_ w' ⟨rfl, hd⟩
      refine ⟨_, rfl, ?_⟩
      have h' := h.next hd
      exact hK _ _ ⟨b0, b1, b2, b3, b4, b5, b6, b7, true, b9, b10, b11, b12, b13, _, _, _, _, _, _, _, _, _, _, _, _, _, _, _, _, _, _, _, _, _, _, _, _, _, _, _, _, _, _, rfl, rfl, ⟨h'.below, h'.le, h'.ne, h'.s, h'.f0, h'.f1, h'.f2, h'.f3, h'.f4, h'.f5, h'.f6, h'.f7, (fun _ => rfl), h'.f9, h'.f11, h'.f12, h'.f13, h'.z, h'.y⟩⟩
    · unfold tact
      have hb6 : b6 = true := (by cases b6 with | true => rfl | false => exact absurd hr (by simp [readyAt, takeT]))
      obtain rfl := h.f6 hb6
      have hb8 : b8 = true := (by cases b8 with | true => rfl | false => exact absurd hr (by simp [readyAt, takeT]))
      obtain rfl := h.f8 hb8
      refine wpOp_step rfl (fun K hK => ?_)
      refine value_ (w1 := ?_) (v := ?_) (by rfl) rfl ?_ ?_
      rotate_left 2
      · go_simp
        constructor
        · rfl
        · rfl
      exact hK _ _ ⟨b0, b1, b2, b3, b4, b5, b6, b7, b8, true, b10, b11, b12, b13, _, _, _, _, _, _, _, _, _, _, _, _, _, _, _, _, _, _, _, _, _, _, _, _, _, _, _, _, _, _, rfl, rfl, ⟨h.below, h.le, h.ne, h.s, h.f0, h.f1, h.f2, h.f3, h.f4, h.f5, h.f6, h.f7, h.f8, (fun _ => rfl), h.f11, h.f12, h.f13, h.z, h.y⟩⟩
    · unfold tact
      have hb0 : b0 = true := (by cases b0 with | true => rfl | false => exact absurd hr (by simp [readyAt, takeT]))
      obtain rfl := h.f0 hb0
      have hn : b10 = false := (by cases b10 with | false => rfl | true => exact absurd hr (by simp [readyAt, takeT]))
      subst hn
      have kz0 := (blk_cell (h.z rfl) 0).trans rfl
      have kz1 := (blk_cell (h.z rfl) 1).trans rfl
      have kz2 := (blk_cell (h.z rfl) 2).trans rfl
      have kz3 := (blk_cell (h.z rfl) 3).trans rfl
      have fz0 := blk_frozen (h.z rfl) 0
      have fz1 := blk_frozen (h.z rfl) 1
      have fz2 := blk_frozen (h.z rfl) 2
      have fz3 := blk_frozen (h.z rfl) 3
      refine wpOp_step rfl (fun K hK => ?_)
      refine skip_ (w1 := ?_) (by rfl) rfl ?_ ?_
      rotate_left
      · go_simp
        rfl
      exact hK _ _ ⟨b0, b1, b2, b3, b4, b5, b6, b7, b8, b9, true, b11, b12, b13, _, _, _, _, _, _, _, _, _, _, _, _, _, _, _, _, _, _, _, _, _, _, _, _, _, _, _, _, _, _, rfl, rfl, h.st⟩
    · unfold tact
      have hb5 : b5 = true := (by cases b5 with | true => rfl | false => exact absurd hr (by simp [readyAt, takeT]))
      obtain rfl := h.f5 hb5
      refine wpOp_step rfl (fun K hK => ?_)
      refine value_ (w1 := ?_) (v := ?_) (by rfl) rfl ?_ ?_
      rotate_left 2
      · go_simp
        constructor
        · rfl
        · rfl
      exact hK _ _ ⟨b0, b1, b2, b3, b4, b5, b6, b7, b8, b9, b10, true, b12, b13, _, _, _, _, _, _, _, _, _, _, _, _, _, _, _, _, _, _, _, _, _, _, _, _, _, _, _, _, _, _, rfl, rfl, ⟨h.below, h.le, h.ne, h.s, h.f0, h.f1, h.f2, h.f3, h.f4, h.f5, h.f6, h.f7, h.f8, h.f9, (fun _ => rfl), h.f12, h.f13, h.z, h.y⟩⟩
    · unfold tact
      have hb9 : b9 = true := (by cases b9 with | true => rfl | false => exact absurd hr (by simp [readyAt, takeT]))
      obtain rfl := h.f9 hb9
      refine wpOp_step rfl (fun K hK => ?_)
      refine value_ (w1 := ?_) (v := ?_) (by rfl) rfl ?_ ?_
      rotate_left 2
      · go_simp
        constructor
        · rfl
        · rfl
      exact hK _ _ ⟨b0, b1, b2, b3, b4, b5, b6, b7, b8, b9, b10, b11, true, b13, _, _, _, _, _, _, _, _, _, _, _, _, _, _, _, _, _, _, _, _, _, _, _, _, _, _, _, _, _, _, rfl, rfl, ⟨h.below, h.le, h.ne, h.s, h.f0, h.f1, h.f2, h.f3, h.f4, h.f5, h.f6, h.f7, h.f8, h.f9, h.f11, (fun _ => rfl), h.f13, h.z, h.y⟩⟩
    · unfold tact
      refine wpOp_step rfl (fun K hK => ?_)
      refine value_ (w1 := ?_) (v := ?_) (by rfl) rfl ?_ ?_
      rotate_left 2
      · go_simp
        constructor
        · rfl
        · rfl
      exact hK _ _ ⟨b0, b1, b2, b3, b4, b5, b6, b7, b8, b9, b10, b11, b12, true, _, _, _, _, _, _, _, _, _, _, _, _, _, _, _, _, _, _, _, _, _, _, _, _, _, _, _, _, _, _, rfl, rfl, ⟨h.below, h.le, h.ne, h.s, h.f0, h.f1, h.f2, h.f3, h.f4, h.f5, h.f6, h.f7, h.f8, h.f9, h.f11, h.f12, (fun _ => rfl), h.z, h.y⟩⟩
  · intro l a ws hI hall
    obtain ⟨b0, b1, b2, b3, b4, b5, b6, b7, b8, b9, b10, b11, b12, b13, t26, t27, t28, t29, t30, t31, t32, t33, t34, t35, t5, t6, t7, u9, u10, u11, u12, u13, u14, u15, u16, u17, u18, u19, u20, u21, u22, u23, u24, u25, rfl, rfl, h⟩ := hI
    obtain rfl := h.f11 (hall 11 (by decide))
    obtain rfl := h.f12 (hall 12 (by decide))
    obtain rfl := h.f13 (hall 13 (by decide))
    have hy := h.y (hall 10 (by decide))
    have k0 : ws.cell? ⟨w.heap.size, 0, none⟩ = some (.int .i64 64) := (blk_cell hy 0).trans rfl
    have k1 : ws.cell? ⟨w.heap.size, 1, none⟩ = some (.int .i64 53) := (blk_cell hy 1).trans rfl
    have k2 : ws.cell? ⟨w.heap.size, 2, none⟩ = some (.int .i64 (-1074)) := (blk_cell hy 2).trans rfl
    have k3 : ws.cell? ⟨w.heap.size, 3, none⟩ = some (.int .u64 9221120237041090561) := (blk_cell hy 3).trans rfl
    have HB := Lib.hid h.below
    have e1 := and_sg (F := fD) (by unfold IsF; simp) (b := b) h2
    have e2 := andNot_sg (F := fD) (by unfold IsF; simp) (b := b) h2
    clear hall h hy
    unfold tact
    go_wp2_with fail
    refine bodyPost_ret (v := .tuple #[.agg #[.int .i64 64, .int .i64 53, .int .i64 (-1074), .int .u64 9221120237041090561], .bool (bits .and .u64 (b : Int) 9223372036854775808 != 0), .int .u64 (bits .andNot .u64 (b : Int) 9223372036854775808), .int .i64 0]) (by simp [results, Tryd.results47, go_sem, k0, k1, k2, k3]; try rfl) rfl ?_
    exact ⟨by rw [show ((9223372036854775808 : Int)) = ((fD.sg : Nat) : Int) from rfl, e1, e2]; rfl, HB.out⟩
end Go.Proofs.YthpnmkclboennaaDoor.BinT
