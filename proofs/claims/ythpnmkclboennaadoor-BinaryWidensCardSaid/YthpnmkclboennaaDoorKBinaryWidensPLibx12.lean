import Derived.Test.YthpnmkclboennaaDoorKBinaryWidensPLibx0
import Derived.Test.YthpnmkclboennaaDoorKBinaryWidensPLibx2
import Derived.Test.YthpnmkclboennaaDoorKBinaryWidensPLibx3
import Derived.Test.YthpnmkclboennaaDoorKBinaryWidensPLibx5
import Derived.Test.YthpnmkclboennaaDoorKBinaryWidensPLibx6
import Derived.Test.YthpnmkclboennaaDoorKBinaryWidensPLibx9
namespace Go.Proofs.YthpnmkclboennaaDoor.PLib
open Go.RowKit Go.Proofs.YthpnmkclboennaaDoorW.PrintWords Go.Proofs.YthpnmkclboennaaDoorW.PrintLast Go.Proofs.YthpnmkclboennaaDoorW.PrintMore
attribute [local go_sem] max2_int min2_int max_two min_two max_three min_three max_four min_four   -- for this text's walks alone
set_option linter.unusedVariables false
set_option linter.unusedSimpArgs false
mutual
def gnomonref07_DocJoin.j0 : Nat → Int → Int → Int → Int → Int → Int → Int → Int → Int → Option (Int × Int)
  | 0, _, _, _, _, _, _, _, _, _ => none
  | k + 1, x2, x3, x12, x475000, x475001, x475002, x475003, x475004, x475005 => if x2 = 0 then (some (x12, 0)) else (gnomonref07_DocJoin.l0 k x2 x3 x12 x475000 x475001 x475002 x475003 x475004 x475005)
def gnomonref07_DocJoin.l0 : Nat → Int → Int → Int → Int → Int → Int → Int → Int → Int → Option (Int × Int)
  | 0, _, _, _, _, _, _, _, _, _ => none
  | k + 1, x2, x3, x12, x475000, x475001, x475002, x475003, x475004, x475005 => if x3 < x475002 then (gnomonref07_DocJoin.j2 k x2 x3 x12 ((Int.tmod x2 2) == 0) x475000 x475001 x475002 x475003 x475004 x475005) else (gnomonref07_DocJoin.j2 k x2 x3 x12 false x475000 x475001 x475002 x475003 x475004 x475005)
def gnomonref07_DocJoin.j2 : Nat → Int → Int → Int → Bool → Int → Int → Int → Int → Int → Int → Option (Int × Int)
  | 0, _, _, _, _, _, _, _, _, _, _ => none
  | k + 1, x2, x3, x12, x36, x475000, x475001, x475002, x475003, x475004, x475005 => if x36 = true then (gnomonref07_DocJoin.l0 k (IntKind.u64.wrap (Int.tdiv x2 2)) (wrap64 (x3 + 1)) x12 x475000 x475001 x475002 x475003 x475004 x475005) else (if x3 < x475002 then (gnomonref07_DocJoin.j3 k x2 x3 x12 true x475000 x475001 x475002 x475003 x475004 x475005) else (gnomonref07_DocJoin.j3 k x2 x3 x12 (decide (x3 > (wrap64 (x475003 + x475001)))) x475000 x475001 x475002 x475003 x475004 x475005))
def gnomonref07_DocJoin.j3 : Nat → Int → Int → Int → Bool → Int → Int → Int → Int → Int → Int → Option (Int × Int)
  | 0, _, _, _, _, _, _, _, _, _, _ => none
  | k + 1, x2, x3, x12, x53, x475000, x475001, x475002, x475003, x475004, x475005 => if x53 = true then (some (0, 5)) else ((gnomonref01_Word.f k x2).bind fun t475 => ((gnomonref01_Shl.f k t475 (wrap64 (x3 - x475002))).bind fun t478 => ((gnomonref07_Size.f k x475000 x475001 x475002 x475003 x475004 x475005 t478).bind fun t481 => (if t481 ≥ x475004 then (gnomonref07_DocJoin.j4 k x12 t481 true) else ((gnomonref07_Whole.f k x475000 x475001 x475002 x475003 x475004 x475005 t481).bind fun bt482 => ((gnomonref01_Cmp.f k bt482.2 t478).bind fun t486 => (gnomonref07_DocJoin.j4 k x12 t481 (t486 != 0))))))))
def gnomonref07_DocJoin.j4 : Nat → Int → Int → Bool → Option (Int × Int)
  | 0, _, _, _ => none
  | k + 1, x12, x14, x76 => if x76 = true then (some (0, 5)) else (some (IntKind.u64.wrap (x12 + x14), 0))
end
def gnomonref07_DocJoin.f (k : Nat) (a0 : Int) (a1 : Bool) (a2 : Int) (a3 : Int) : Option (Int × Int) := (gnomonref07_Of.f a0).bind fun bt467 => (if bt467.2.2.2.2.2.2 = true then (if a1 = true then (gnomonref07_DocJoin.j0 k a2 a3 bt467.1 bt467.1 bt467.2.1 bt467.2.2.1 bt467.2.2.2.1 bt467.2.2.2.2.1 bt467.2.2.2.2.2.1) else (gnomonref07_DocJoin.j0 k a2 a3 0 bt467.1 bt467.2.1 bt467.2.2.1 bt467.2.2.2.1 bt467.2.2.2.2.1 bt467.2.2.2.2.2.1)) else (some (0, 1)))
theorem gnomonref07_DocJoin.mono_l : ∀ k, (∀ y0 y1 y2 y3 y4 y5 y6 y7 y8, LeO (gnomonref07_DocJoin.j0 k y0 y1 y2 y3 y4 y5 y6 y7 y8) (gnomonref07_DocJoin.j0 (k + 1) y0 y1 y2 y3 y4 y5 y6 y7 y8)) ∧ (∀ y0 y1 y2 y3 y4 y5 y6 y7 y8, LeO (gnomonref07_DocJoin.l0 k y0 y1 y2 y3 y4 y5 y6 y7 y8) (gnomonref07_DocJoin.l0 (k + 1) y0 y1 y2 y3 y4 y5 y6 y7 y8)) ∧ (∀ y0 y1 y2 y3 y4 y5 y6 y7 y8 y9, LeO (gnomonref07_DocJoin.j2 k y0 y1 y2 y3 y4 y5 y6 y7 y8 y9) (gnomonref07_DocJoin.j2 (k + 1) y0 y1 y2 y3 y4 y5 y6 y7 y8 y9)) ∧ (∀ y0 y1 y2 y3 y4 y5 y6 y7 y8 y9, LeO (gnomonref07_DocJoin.j3 k y0 y1 y2 y3 y4 y5 y6 y7 y8 y9) (gnomonref07_DocJoin.j3 (k + 1) y0 y1 y2 y3 y4 y5 y6 y7 y8 y9)) ∧ (∀ y0 y1 y2, LeO (gnomonref07_DocJoin.j4 k y0 y1 y2) (gnomonref07_DocJoin.j4 (k + 1) y0 y1 y2))
  | 0 => ⟨fun _ _ _ _ _ _ _ _ _ r h => by simp [gnomonref07_DocJoin.j0] at h, fun _ _ _ _ _ _ _ _ _ r h => by simp [gnomonref07_DocJoin.l0] at h, fun _ _ _ _ _ _ _ _ _ _ r h => by simp [gnomonref07_DocJoin.j2] at h, fun _ _ _ _ _ _ _ _ _ _ r h => by simp [gnomonref07_DocJoin.j3] at h, fun _ _ _ r h => by simp [gnomonref07_DocJoin.j4] at h⟩
  | k + 1 => by
    obtain ⟨ih0, ih1, ih2, ih3, ih4⟩ := gnomonref07_DocJoin.mono_l k
    refine ⟨?_, ?_, ?_, ?_, ?_⟩
    · intro y0 y1 y2 y3 y4 y5 y6 y7 y8
      unfold gnomonref07_DocJoin.j0
      repeat' first
      | (with_reducible exact ih0 _ _ _ _ _ _ _ _ _)
      | (with_reducible exact ih1 _ _ _ _ _ _ _ _ _)
      | (with_reducible exact ih2 _ _ _ _ _ _ _ _ _ _)
      | (with_reducible exact ih3 _ _ _ _ _ _ _ _ _ _)
      | (with_reducible exact ih4 _ _ _)
      | (with_reducible exact gnomonref01_Cmp.mono _ _ _)
      | (with_reducible exact gnomonref01_Shl.mono _ _ _)
      | (with_reducible exact gnomonref01_Word.mono _ _)
      | (with_reducible exact gnomonref07_Size.mono _ _ _ _ _ _ _ _)
      | (with_reducible exact gnomonref07_Whole.mono _ _ _ _ _ _ _ _)
      | (with_reducible exact LeO.refl _)
      | (with_reducible exact LeO.none _)
      | (with_reducible refine LeO.ite ?_ ?_)
      | (with_reducible refine LeO.bind ?_ (fun _ => ?_))
      | exact ih0 _ _ _ _ _ _ _ _ _
      | exact ih1 _ _ _ _ _ _ _ _ _
      | exact ih2 _ _ _ _ _ _ _ _ _ _
      | exact ih3 _ _ _ _ _ _ _ _ _ _
      | exact ih4 _ _ _
      | exact gnomonref01_Cmp.mono _ _ _
      | exact gnomonref01_Shl.mono _ _ _
      | exact gnomonref01_Word.mono _ _
      | exact gnomonref07_Size.mono _ _ _ _ _ _ _ _
      | exact gnomonref07_Whole.mono _ _ _ _ _ _ _ _
      | exact LeO.none _
      | refine LeO.ite ?_ ?_
      | refine LeO.bind ?_ (fun _ => ?_)
    · intro y0 y1 y2 y3 y4 y5 y6 y7 y8
      unfold gnomonref07_DocJoin.l0
      repeat' first
      | (with_reducible exact ih0 _ _ _ _ _ _ _ _ _)
      | (with_reducible exact ih1 _ _ _ _ _ _ _ _ _)
      | (with_reducible exact ih2 _ _ _ _ _ _ _ _ _ _)
      | (with_reducible exact ih3 _ _ _ _ _ _ _ _ _ _)
      | (with_reducible exact ih4 _ _ _)
      | (with_reducible exact gnomonref01_Cmp.mono _ _ _)
      | (with_reducible exact gnomonref01_Shl.mono _ _ _)
      | (with_reducible exact gnomonref01_Word.mono _ _)
      | (with_reducible exact gnomonref07_Size.mono _ _ _ _ _ _ _ _)
      | (with_reducible exact gnomonref07_Whole.mono _ _ _ _ _ _ _ _)
      | (with_reducible exact LeO.refl _)
      | (with_reducible exact LeO.none _)
      | (with_reducible refine LeO.ite ?_ ?_)
      | (with_reducible refine LeO.bind ?_ (fun _ => ?_))
      | exact ih0 _ _ _ _ _ _ _ _ _
      | exact ih1 _ _ _ _ _ _ _ _ _
      | exact ih2 _ _ _ _ _ _ _ _ _ _
      | exact ih3 _ _ _ _ _ _ _ _ _ _
      | exact ih4 _ _ _
      | exact gnomonref01_Cmp.mono _ _ _
      | exact gnomonref01_Shl.mono _ _ _
      | exact gnomonref01_Word.mono _ _
      | exact gnomonref07_Size.mono _ _ _ _ _ _ _ _
      | exact gnomonref07_Whole.mono _ _ _ _ _ _ _ _
      | exact LeO.none _
      | refine LeO.ite ?_ ?_
      | refine LeO.bind ?_ (fun _ => ?_)
    · intro y0 y1 y2 y3 y4 y5 y6 y7 y8 y9
      unfold gnomonref07_DocJoin.j2
      repeat' first
      | (with_reducible exact ih0 _ _ _ _ _ _ _ _ _)
      | (with_reducible exact ih1 _ _ _ _ _ _ _ _ _)
      | (with_reducible exact ih2 _ _ _ _ _ _ _ _ _ _)
      | (with_reducible exact ih3 _ _ _ _ _ _ _ _ _ _)
      | (with_reducible exact ih4 _ _ _)
      | (with_reducible exact gnomonref01_Cmp.mono _ _ _)
      | (with_reducible exact gnomonref01_Shl.mono _ _ _)
      | (with_reducible exact gnomonref01_Word.mono _ _)
      | (with_reducible exact gnomonref07_Size.mono _ _ _ _ _ _ _ _)
      | (with_reducible exact gnomonref07_Whole.mono _ _ _ _ _ _ _ _)
      | (with_reducible exact LeO.refl _)
      | (with_reducible exact LeO.none _)
      | (with_reducible refine LeO.ite ?_ ?_)
      | (with_reducible refine LeO.bind ?_ (fun _ => ?_))
      | exact ih0 _ _ _ _ _ _ _ _ _
      | exact ih1 _ _ _ _ _ _ _ _ _
      | exact ih2 _ _ _ _ _ _ _ _ _ _
      | exact ih3 _ _ _ _ _ _ _ _ _ _
      | exact ih4 _ _ _
      | exact gnomonref01_Cmp.mono _ _ _
      | exact gnomonref01_Shl.mono _ _ _
      | exact gnomonref01_Word.mono _ _
      | exact gnomonref07_Size.mono _ _ _ _ _ _ _ _
      | exact gnomonref07_Whole.mono _ _ _ _ _ _ _ _
      | exact LeO.none _
      | refine LeO.ite ?_ ?_
      | refine LeO.bind ?_ (fun _ => ?_)
    · intro y0 y1 y2 y3 y4 y5 y6 y7 y8 y9
      unfold gnomonref07_DocJoin.j3
      repeat' first
      | (with_reducible exact ih0 _ _ _ _ _ _ _ _ _)
      | (with_reducible exact ih1 _ _ _ _ _ _ _ _ _)
      | (with_reducible exact ih2 _ _ _ _ _ _ _ _ _ _)
      | (with_reducible exact ih3 _ _ _ _ _ _ _ _ _ _)
      | (with_reducible exact ih4 _ _ _)
      | (with_reducible exact gnomonref01_Cmp.mono _ _ _)
      | (with_reducible exact gnomonref01_Shl.mono _ _ _)
      | (with_reducible exact gnomonref01_Word.mono _ _)
      | (with_reducible exact gnomonref07_Size.mono _ _ _ _ _ _ _ _)
      | (with_reducible exact gnomonref07_Whole.mono _ _ _ _ _ _ _ _)
      | (with_reducible exact LeO.refl _)
      | (with_reducible exact LeO.none _)
      | (with_reducible refine LeO.ite ?_ ?_)
      | (with_reducible refine LeO.bind ?_ (fun _ => ?_))
      | exact ih0 _ _ _ _ _ _ _ _ _
      | exact ih1 _ _ _ _ _ _ _ _ _
      | exact ih2 _ _ _ _ _ _ _ _ _ _
      | exact ih3 _ _ _ _ _ _ _ _ _ _
      | exact ih4 _ _ _
      | exact gnomonref01_Cmp.mono _ _ _
      | exact gnomonref01_Shl.mono _ _ _
      | exact gnomonref01_Word.mono _ _
      | exact gnomonref07_Size.mono _ _ _ _ _ _ _ _
      | exact gnomonref07_Whole.mono _ _ _ _ _ _ _ _
      | exact LeO.none _
      | refine LeO.ite ?_ ?_
      | refine LeO.bind ?_ (fun _ => ?_)
    · intro y0 y1 y2
      unfold gnomonref07_DocJoin.j4
      repeat' first
      | (with_reducible exact ih0 _ _ _ _ _ _ _ _ _)
      | (with_reducible exact ih1 _ _ _ _ _ _ _ _ _)
      | (with_reducible exact ih2 _ _ _ _ _ _ _ _ _ _)
      | (with_reducible exact ih3 _ _ _ _ _ _ _ _ _ _)
      | (with_reducible exact ih4 _ _ _)
      | (with_reducible exact gnomonref01_Cmp.mono _ _ _)
      | (with_reducible exact gnomonref01_Shl.mono _ _ _)
      | (with_reducible exact gnomonref01_Word.mono _ _)
      | (with_reducible exact gnomonref07_Size.mono _ _ _ _ _ _ _ _)
      | (with_reducible exact gnomonref07_Whole.mono _ _ _ _ _ _ _ _)
      | (with_reducible exact LeO.refl _)
      | (with_reducible exact LeO.none _)
      | (with_reducible refine LeO.ite ?_ ?_)
      | (with_reducible refine LeO.bind ?_ (fun _ => ?_))
      | exact ih0 _ _ _ _ _ _ _ _ _
      | exact ih1 _ _ _ _ _ _ _ _ _
      | exact ih2 _ _ _ _ _ _ _ _ _ _
      | exact ih3 _ _ _ _ _ _ _ _ _ _
      | exact ih4 _ _ _
      | exact gnomonref01_Cmp.mono _ _ _
      | exact gnomonref01_Shl.mono _ _ _
      | exact gnomonref01_Word.mono _ _
      | exact gnomonref07_Size.mono _ _ _ _ _ _ _ _
      | exact gnomonref07_Whole.mono _ _ _ _ _ _ _ _
      | exact LeO.none _
      | refine LeO.ite ?_ ?_
      | refine LeO.bind ?_ (fun _ => ?_)
theorem gnomonref07_DocJoin.mono : ∀ a0 a1 a2 a3 k, LeO (gnomonref07_DocJoin.f k a0 a1 a2 a3) (gnomonref07_DocJoin.f (k + 1) a0 a1 a2 a3) := by
  intro a0 a1 a2 a3 k
  obtain ⟨ih0, ih1, ih2, ih3, ih4⟩ := gnomonref07_DocJoin.mono_l k
  unfold gnomonref07_DocJoin.f
  repeat' first
      | (with_reducible exact ih0 _ _ _ _ _ _ _ _ _)
      | (with_reducible exact ih1 _ _ _ _ _ _ _ _ _)
      | (with_reducible exact ih2 _ _ _ _ _ _ _ _ _ _)
      | (with_reducible exact ih3 _ _ _ _ _ _ _ _ _ _)
      | (with_reducible exact ih4 _ _ _)
      | (with_reducible exact gnomonref01_Cmp.mono _ _ _)
      | (with_reducible exact gnomonref01_Shl.mono _ _ _)
      | (with_reducible exact gnomonref01_Word.mono _ _)
      | (with_reducible exact gnomonref07_Size.mono _ _ _ _ _ _ _ _)
      | (with_reducible exact gnomonref07_Whole.mono _ _ _ _ _ _ _ _)
      | (with_reducible exact LeO.refl _)
      | (with_reducible exact LeO.none _)
      | (with_reducible refine LeO.ite ?_ ?_)
      | (with_reducible refine LeO.bind ?_ (fun _ => ?_))
      | exact ih0 _ _ _ _ _ _ _ _ _
      | exact ih1 _ _ _ _ _ _ _ _ _
      | exact ih2 _ _ _ _ _ _ _ _ _ _
      | exact ih3 _ _ _ _ _ _ _ _ _ _
      | exact ih4 _ _ _
      | exact gnomonref01_Cmp.mono _ _ _
      | exact gnomonref01_Shl.mono _ _ _
      | exact gnomonref01_Word.mono _ _
      | exact gnomonref07_Size.mono _ _ _ _ _ _ _ _
      | exact gnomonref07_Whole.mono _ _ _ _ _ _ _ _
      | exact LeO.none _
      | refine LeO.ite ?_ ?_
      | refine LeO.bind ?_ (fun _ => ?_)
def gnomonref07_DocJoin.T13 : Bool × List (List Nat × List Nat) := (true, [([], []), ([0], [0]), ([], []), ([], []), ([3], [3]), ([2, 4], [2, 4]), ([1, 5, 1], [1, 5]), ([6, 6, 0, 1, 2, 3, 4, 5, 6], [6])])
def gnomonref07_DocJoin.B13 : List Nat := [0, 1, 0, 0, 8, 28, 63, 127]
theorem gnomonref07_DocJoin.tab13 : rtab .any (opsOf Tryd.f103 13) = gnomonref07_DocJoin.T13 := by kernel_rfl
theorem gnomonref07_DocJoin.bits13 : waitsOk gnomonref07_DocJoin.T13.2 gnomonref07_DocJoin.B13 = true := by kernel_rfl
set_option maxHeartbeats 8000000 in
set_option maxRecDepth 100000 in
theorem gnomonref07_DocJoin.calls (k : Nat) (a0 : Int) (a1 : Bool) (a2 : Int) (a3 : Int) (r1 : Int) (r2 : Int) (w : World) (h : gnomonref07_DocJoin.f k a0 a1 a2 a3 = some (r1, r2)) :
    Calls Tryd.prog 103 #[.int .i64 a0, .bool a1, .int .u64 a2, .int .i64 a3] w fun e w' => e = .returned (.tuple #[.int .u64 r1, .int .i64 r2]) ∧ Below w.heap.size w w' := by
  have hu71 := Tryd.underlying71
  have HB := Aside0.mk (Below.refl w.heap.size w)
  have H : ((gnomonref07_Of.f a0).bind fun bt467 => (if bt467.2.2.2.2.2.2 = true then (if a1 = true then (gnomonref07_DocJoin.j0 k a2 a3 bt467.1 bt467.1 bt467.2.1 bt467.2.2.1 bt467.2.2.2.1 bt467.2.2.2.2.1 bt467.2.2.2.2.2.1) else (gnomonref07_DocJoin.j0 k a2 a3 0 bt467.1 bt467.2.1 bt467.2.2.1 bt467.2.2.2.1 bt467.2.2.2.2.1 bt467.2.2.2.2.2.1)) else (some (0, 1)))) = some (r1, r2) := h
  clear h
  replace H := Option.bind_eq_some_iff.mp H
  obtain ⟨⟨t467, t468, t469, t470, t471, t472, t473⟩, A50, H⟩ := H
  replace H : (if t473 = true then (if a1 = true then (gnomonref07_DocJoin.j0 k a2 a3 t467 t467 t468 t469 t470 t471 t472) else (gnomonref07_DocJoin.j0 k a2 a3 0 t467 t468 t469 t470 t471 t472)) else (some (0, 1))) = some (r1, r2) := H
  have A5 := Aside0.mk A50
  clear A50
  by_cases c6 : t473 = true
  · subst c6
    have H1 : (if a1 = true then (gnomonref07_DocJoin.j0 k a2 a3 t467 t467 t468 t469 t470 t471 t472) else (gnomonref07_DocJoin.j0 k a2 a3 0 t467 t468 t469 t470 t471 t472)) = some (r1, r2) := by rw [if_pos rfl] at H; exact H
    clear H
    have H := H1
    clear H1
    have HC7 := Aside0.mk H
    clear H
    go_enter Tryd.func103, Tryd.ntmps103
    go_upto_if 22 with (first | ((with_reducible refine gate_callee (f := 40) rfl ?_); refine goesL_ (some 17) rfl rfl Tryd.func40 (by kernel_rfl) rfl #[.int .i64 a0] rfl (by (try simp only [List.map_toArray, List.map_cons, List.map_nil]); first | done | rfl | (simp only [List.length_drop, List.length_take]; rfl)) ?_; (with_reducible refine (gnomonref07_Of.calls a0 t467 t468 t469 t470 t471 t472 true _ A5.out).mono ?_); rintro e w8 ⟨rfl, hb⟩; refine ⟨_, rfl, ?_⟩; have n0_ := Aside0.mk (below_step (by repeat (first | (with_reducible first | exact HB.out | apply below_alloc | apply pw_below_drewN | apply below_drew1) | exact HB.out)) hb); clear HB; have HB := n0_; clear n0_; (try clear hb); (try clear hb2); (try clear hk); (try clear hi)) | ((with_reducible refine gate_dst (N := 10) rfl ?_); refine box_event ?hg (N := 10) ?hd (cs := #[.int .u64 0, .int .i64 0, .int .i64 0, .int .i64 0, .int .u64 0, .int .u64 0]) (t := 71) ?hr ?_; (case hd => rfl); (case hg => rfl); (case hr => first | (go_simp; done) | (go_simp; rfl)); intro gb474 hg w9 hbox hb; have n0_ := Aside0.mk (below_step (by repeat (first | (with_reducible first | exact HB.out | apply below_alloc | apply pw_below_drewN | apply below_drew1) | exact HB.out)) hb); have n1_ := Aside0.mk (hbox); have n2_ := Aside0.mk ((by rw [hg]; exact (below_size (by repeat (first | (with_reducible first | exact HB.out | apply below_alloc | apply pw_below_drewN | apply below_drew1) | exact HB.out))) : w.heap.size ≤ gb474)); have n3_ := Aside0.mk ((by rw [hg]; exact (below_size (by repeat (first | (with_reducible first | exact HB.out | apply below_alloc | apply pw_below_drewN | apply below_drew1) | exact HB.out))) : w.heap.size ≤ gb474)); clear HB; have HB := n0_; have BK474 := n1_; have GW474 := n2_; have GE474 := n3_; clear n0_ n1_ n2_ n3_; clear hb hbox hg; have hcz10_0 : w9.cell? ⟨gb474, 0, none⟩ = some (.int .u64 0) := (blk_cell BK474.out 0).trans rfl; have hcz10_1 : w9.cell? ⟨gb474, 1, none⟩ = some (.int .i64 0) := (blk_cell BK474.out 1).trans rfl; have hcz10_2 : w9.cell? ⟨gb474, 2, none⟩ = some (.int .i64 0) := (blk_cell BK474.out 2).trans rfl; have hcz10_3 : w9.cell? ⟨gb474, 3, none⟩ = some (.int .i64 0) := (blk_cell BK474.out 3).trans rfl; have hcz10_4 : w9.cell? ⟨gb474, 4, none⟩ = some (.int .u64 0) := (blk_cell BK474.out 4).trans rfl; have hcz10_5 : w9.cell? ⟨gb474, 5, none⟩ = some (.int .u64 0) := (blk_cell BK474.out 5).trans rfl; have hfz10_0 := blk_frozen BK474.out 0; have hfz10_1 := blk_frozen BK474.out 1; have hfz10_2 := blk_frozen BK474.out 2; have hfz10_3 := blk_frozen BK474.out 3; have hfz10_4 := blk_frozen BK474.out 4; have hfz10_5 := blk_frozen BK474.out 5))
    (try simp only [Act.put, List.setIfInBounds_toArray, List.set_cons_zero, List.set_cons_succ])
    go_cut [12] (fun v12 wc => ∃ (kq : Nat) (x12_6 : Int), v12 = .int .u64 x12_6 ∧ Aside0 (gnomonref07_DocJoin.j0 kq a2 a3 x12_6 t467 t468 t469 t470 t471 t472 = some (r1, r2)) ∧ Aside0 (kq ≤ k) ∧ Aside0 (wc.heap[gb474]? = some (.cells #[.int .u64 t467, .int .i64 t468, .int .i64 t469, .int .i64 t470, .int .u64 t471, .int .u64 t472] 71 (0, 0))) ∧ Aside0 (Below w.heap.size w wc))
    case first =>
      have H := HC7.out
      clear HC7
      by_cases c11 : a1 = true
      · subst c11
        have H1 : (gnomonref07_DocJoin.j0 k a2 a3 t467 t467 t468 t469 t470 t471 t472) = some (r1, r2) := by rw [if_pos rfl] at H; exact H
        clear H
        have H := H1
        clear H1
        have H' := Aside0.mk H
        clear H
        have hcz12_0 : w9.cell? ⟨gb474, 0, none⟩ = some (.int .u64 0) := (blk_cell BK474.out 0).trans rfl
        have hcz12_1 : w9.cell? ⟨gb474, 1, none⟩ = some (.int .i64 0) := (blk_cell BK474.out 1).trans rfl
        have hcz12_2 : w9.cell? ⟨gb474, 2, none⟩ = some (.int .i64 0) := (blk_cell BK474.out 2).trans rfl
        have hcz12_3 : w9.cell? ⟨gb474, 3, none⟩ = some (.int .i64 0) := (blk_cell BK474.out 3).trans rfl
        have hcz12_4 : w9.cell? ⟨gb474, 4, none⟩ = some (.int .u64 0) := (blk_cell BK474.out 4).trans rfl
        have hcz12_5 : w9.cell? ⟨gb474, 5, none⟩ = some (.int .u64 0) := (blk_cell BK474.out 5).trans rfl
        have hfz12_0 := blk_frozen BK474.out 0
        have hfz12_1 := blk_frozen BK474.out 1
        have hfz12_2 := blk_frozen BK474.out 2
        have hfz12_3 := blk_frozen BK474.out 3
        have hfz12_4 := blk_frozen BK474.out 4
        have hfz12_5 := blk_frozen BK474.out 5
        go_wp2
        go_meet
        case rel => exact ⟨_, (t467), (by first | rfl | (simp; done) | (simp [*]; done)), H', ⟨by first | omega | exact Nat.le_refl _⟩, ⟨by (with_reducible repeat (first | refine blk_drewN ?_ _ | refine blk_drew ?_ | refine blk_alloc ?_ _)); refine blk_put (cs := #[.int .u64 t467, .int .i64 t468, .int .i64 t469, .int .i64 t470, .int .u64 t471, .int .u64 0]) ?_ 5 _ rfl; (with_reducible repeat (first | refine blk_drewN ?_ _ | refine blk_drew ?_ | refine blk_alloc ?_ _)); refine blk_put (cs := #[.int .u64 t467, .int .i64 t468, .int .i64 t469, .int .i64 t470, .int .u64 0, .int .u64 0]) ?_ 4 _ rfl; (with_reducible repeat (first | refine blk_drewN ?_ _ | refine blk_drew ?_ | refine blk_alloc ?_ _)); refine blk_put (cs := #[.int .u64 t467, .int .i64 t468, .int .i64 t469, .int .i64 0, .int .u64 0, .int .u64 0]) ?_ 3 _ rfl; (with_reducible repeat (first | refine blk_drewN ?_ _ | refine blk_drew ?_ | refine blk_alloc ?_ _)); refine blk_put (cs := #[.int .u64 t467, .int .i64 t468, .int .i64 0, .int .i64 0, .int .u64 0, .int .u64 0]) ?_ 2 _ rfl; (with_reducible repeat (first | refine blk_drewN ?_ _ | refine blk_drew ?_ | refine blk_alloc ?_ _)); refine blk_put (cs := #[.int .u64 t467, .int .i64 0, .int .i64 0, .int .i64 0, .int .u64 0, .int .u64 0]) ?_ 1 _ rfl; (with_reducible repeat (first | refine blk_drewN ?_ _ | refine blk_drew ?_ | refine blk_alloc ?_ _)); refine blk_put (cs := #[.int .u64 0, .int .i64 0, .int .i64 0, .int .i64 0, .int .u64 0, .int .u64 0]) ?_ 0 _ rfl; (with_reducible repeat (first | refine blk_drewN ?_ _ | refine blk_drew ?_ | refine blk_alloc ?_ _)); exact BK474.out⟩, ⟨by repeat (first | (with_reducible first | exact HB.out | apply below_alloc | apply pw_below_drewN | apply below_drew1 | refine below_set ?_ GE474.out) | exact HB.out)⟩⟩
      · replace c11 := Bool.eq_false_iff.mpr c11
        subst c11
        have H1 : (gnomonref07_DocJoin.j0 k a2 a3 0 t467 t468 t469 t470 t471 t472) = some (r1, r2) := by rw [if_neg (show ¬ (false = true) by decide)] at H; exact H
        clear H
        have H := H1
        clear H1
        have H' := Aside0.mk H
        clear H
        go_wp2
        go_meet
        case rel => exact ⟨_, (0), (by first | rfl | (simp; done) | (simp [*]; done)), H', ⟨by first | omega | exact Nat.le_refl _⟩, ⟨by (with_reducible repeat (first | refine blk_drewN ?_ _ | refine blk_drew ?_ | refine blk_alloc ?_ _)); refine blk_put (cs := #[.int .u64 t467, .int .i64 t468, .int .i64 t469, .int .i64 t470, .int .u64 t471, .int .u64 0]) ?_ 5 _ rfl; (with_reducible repeat (first | refine blk_drewN ?_ _ | refine blk_drew ?_ | refine blk_alloc ?_ _)); refine blk_put (cs := #[.int .u64 t467, .int .i64 t468, .int .i64 t469, .int .i64 t470, .int .u64 0, .int .u64 0]) ?_ 4 _ rfl; (with_reducible repeat (first | refine blk_drewN ?_ _ | refine blk_drew ?_ | refine blk_alloc ?_ _)); refine blk_put (cs := #[.int .u64 t467, .int .i64 t468, .int .i64 t469, .int .i64 0, .int .u64 0, .int .u64 0]) ?_ 3 _ rfl; (with_reducible repeat (first | refine blk_drewN ?_ _ | refine blk_drew ?_ | refine blk_alloc ?_ _)); refine blk_put (cs := #[.int .u64 t467, .int .i64 t468, .int .i64 0, .int .i64 0, .int .u64 0, .int .u64 0]) ?_ 2 _ rfl; (with_reducible repeat (first | refine blk_drewN ?_ _ | refine blk_drew ?_ | refine blk_alloc ?_ _)); refine blk_put (cs := #[.int .u64 t467, .int .i64 0, .int .i64 0, .int .i64 0, .int .u64 0, .int .u64 0]) ?_ 1 _ rfl; (with_reducible repeat (first | refine blk_drewN ?_ _ | refine blk_drew ?_ | refine blk_alloc ?_ _)); refine blk_put (cs := #[.int .u64 0, .int .i64 0, .int .i64 0, .int .i64 0, .int .u64 0, .int .u64 0]) ?_ 0 _ rfl; (with_reducible repeat (first | refine blk_drewN ?_ _ | refine blk_drew ?_ | refine blk_alloc ?_ _)); exact BK474.out⟩, ⟨by repeat (first | (with_reducible first | exact HB.out | apply below_alloc | apply pw_below_drewN | apply below_drew1 | refine below_set ?_ GE474.out) | exact HB.out)⟩⟩
    case rest =>
      clear HC7
      try clear c1
      try clear p2
      try clear c4
      try clear c6
      try clear c10
      try clear c11
      try clear hcz10_0
      try clear hcz10_1
      try clear hcz10_2
      try clear hcz10_3
      try clear hcz10_4
      try clear hcz10_5
      try clear hcz12_0
      try clear hcz12_1
      try clear hcz12_2
      try clear hcz12_3
      try clear hcz12_4
      try clear hcz12_5
      try clear hfz10_0
      try clear hfz10_1
      try clear hfz10_2
      try clear hfz10_3
      try clear hfz10_4
      try clear hfz10_5
      try clear hfz12_0
      try clear hfz12_1
      try clear hfz12_2
      try clear hfz12_3
      try clear hfz12_4
      try clear hfz12_5
      obtain ⟨kq, x12_6, rfl, HA, HJ6, BK474, HB⟩ := hcut
      cases kq with
      | zero => exact absurd HA.out (by simp [gnomonref07_DocJoin.j0])
      | succ kj6 =>
        have H := HA.out
        clear HA
        simp only [gnomonref07_DocJoin.j0] at H
        by_cases c13 : a2 = 0
        · rw [if_pos c13] at H
          have c13b0 : (a2 == 0) = true := beq_iff_eq.mpr c13
          have c13b1 : (a2 != 0) = false := bne_eq_false_iff_eq.mpr c13
          clear c13
          simp only [Option.some.injEq, Prod.mk.injEq] at H
          obtain ⟨rfl, rfl⟩ := H
          go_wp2
          go_ret2
          exact ⟨by first | rfl | (simp [errW_none, errW_some] <;> rfl) | (simp [*, errW_none, errW_some] <;> rfl), by repeat (first | (with_reducible first | exact HB.out | apply below_alloc | apply pw_below_drewN | apply below_drew1 | refine below_set ?_ GE474.out) | exact HB.out)⟩
        · rw [if_neg c13] at H
          have c13b0 : (a2 == 0) = false := beq_eq_false_iff_ne.mpr c13
          have c13b1 : (a2 != 0) = true := bne_iff_ne.mpr c13
          have H' := Aside0.mk H
          clear H
          go_wp2
          go_loopg [2, 3] kj6 (fun kq v2 v3 w' => ∃ (x2_2 : Int) (x3_2 : Int), v2 = .int .u64 x2_2 ∧ v3 = .int .i64 x3_2 ∧ Aside0 (gnomonref07_DocJoin.l0 kq x2_2 x3_2 x12_6 t467 t468 t469 t470 t471 t472 = some (r1, r2)) ∧ Aside0 (kq ≤ kj6) ∧ Aside0 (w'.heap[gb474]? = some (.cells #[.int .u64 t467, .int .i64 t468, .int .i64 t469, .int .i64 t470, .int .u64 t471, .int .u64 t472] 71 (0, 0))) ∧ Aside0 (Below w.heap.size w w'))
          case atStart => exact ⟨(a2), (a3), (by first | rfl | (simp; done) | (simp [*]; done)), (by first | rfl | (simp; done) | (simp [*]; done)), H', ⟨Nat.le_refl _⟩, ⟨by (with_reducible repeat (first | refine blk_drewN ?_ _ | refine blk_drew ?_ | refine blk_alloc ?_ _)); exact BK474.out⟩, ⟨by repeat (first | (with_reducible first | exact HB.out | apply below_alloc | apply pw_below_drewN | apply below_drew1 | refine below_set ?_ GE474.out) | exact HB.out)⟩⟩
          case round =>
            clear H'
            try clear c1
            try clear p2
            try clear c4
            try clear c6
            try clear c10
            try clear c11
            try clear c13
            try clear c13b0
            try clear c13b1
            try clear hcz10_0
            try clear hcz10_1
            try clear hcz10_2
            try clear hcz10_3
            try clear hcz10_4
            try clear hcz10_5
            try clear hcz12_0
            try clear hcz12_1
            try clear hcz12_2
            try clear hcz12_3
            try clear hcz12_4
            try clear hcz12_5
            try clear hfz10_0
            try clear hfz10_1
            try clear hfz10_2
            try clear hfz10_3
            try clear hfz10_4
            try clear hfz10_5
            try clear hfz12_0
            try clear hfz12_1
            try clear hfz12_2
            try clear hfz12_3
            try clear hfz12_4
            try clear hfz12_5
            try clear p2
            obtain ⟨x2_2, x3_2, rfl, rfl, HA, HK2, BK474, HB⟩ := hrel
            cases gk with
            | zero => exact absurd HA.out (by simp [gnomonref07_DocJoin.l0])
            | succ k2 =>
              have H := HA.out
              clear HA
              simp only [gnomonref07_DocJoin.l0] at H
              have HC14 := Aside0.mk H
              clear H
              go_upto_region 9 with (fail)
              go_cut [36] (fun v36 wc => ∃ (kq : Nat) (x36_13 : Bool), v36 = .bool x36_13 ∧ Aside0 (gnomonref07_DocJoin.j2 kq x2_2 x3_2 x12_6 x36_13 t467 t468 t469 t470 t471 t472 = some (r1, r2)) ∧ Aside0 (kq ≤ k2) ∧ Aside0 (wc.heap[gb474]? = some (.cells #[.int .u64 t467, .int .i64 t468, .int .i64 t469, .int .i64 t470, .int .u64 t471, .int .u64 t472] 71 (0, 0))) ∧ Aside0 (Below w.heap.size w wc))
              case first =>
                have H := HC14.out
                clear HC14
                by_cases c15 : x3_2 < t469
                · rw [if_pos c15] at H
                  have c15b0 : decide (x3_2 < t469) = true := decide_eq_true c15
                  clear c15
                  (first | rw [c15b0] | (simp only [i64_w, i32_w]; rw [c15b0]) | skip)
                  have H' := Aside0.mk H
                  clear H
                  have hcz16_0 : wr.cell? ⟨gb474, 0, none⟩ = some (.int .u64 t467) := (blk_cell BK474.out 0).trans rfl
                  have hcz16_1 : wr.cell? ⟨gb474, 1, none⟩ = some (.int .i64 t468) := (blk_cell BK474.out 1).trans rfl
                  have hcz16_2 : wr.cell? ⟨gb474, 2, none⟩ = some (.int .i64 t469) := (blk_cell BK474.out 2).trans rfl
                  have hcz16_3 : wr.cell? ⟨gb474, 3, none⟩ = some (.int .i64 t470) := (blk_cell BK474.out 3).trans rfl
                  have hcz16_4 : wr.cell? ⟨gb474, 4, none⟩ = some (.int .u64 t471) := (blk_cell BK474.out 4).trans rfl
                  have hcz16_5 : wr.cell? ⟨gb474, 5, none⟩ = some (.int .u64 t472) := (blk_cell BK474.out 5).trans rfl
                  have hfz16_0 := blk_frozen BK474.out 0
                  have hfz16_1 := blk_frozen BK474.out 1
                  have hfz16_2 := blk_frozen BK474.out 2
                  have hfz16_3 := blk_frozen BK474.out 3
                  have hfz16_4 := blk_frozen BK474.out 4
                  have hfz16_5 := blk_frozen BK474.out 5
                  go_wp2
                  go_meet
                  case rel => exact ⟨_, (((Int.tmod x2_2 2) == 0)), (by first | rfl | (simp; done) | (simp [*]; done)), H', ⟨by have := HJ6.out; have := HK2.out; first | omega | exact Nat.le_refl _⟩, ⟨by (with_reducible repeat (first | refine blk_drewN ?_ _ | refine blk_drew ?_ | refine blk_alloc ?_ _)); exact BK474.out⟩, ⟨by repeat (first | (with_reducible first | exact HB.out | apply below_alloc | apply pw_below_drewN | apply below_drew1 | refine below_set ?_ GE474.out) | exact HB.out)⟩⟩
                · rw [if_neg c15] at H
                  have c15b0 : decide (x3_2 < t469) = false := decide_eq_false c15
                  clear c15
                  (first | rw [c15b0] | (simp only [i64_w, i32_w]; rw [c15b0]) | skip)
                  have H' := Aside0.mk H
                  clear H
                  have hcz17_0 : wr.cell? ⟨gb474, 0, none⟩ = some (.int .u64 t467) := (blk_cell BK474.out 0).trans rfl
                  have hcz17_1 : wr.cell? ⟨gb474, 1, none⟩ = some (.int .i64 t468) := (blk_cell BK474.out 1).trans rfl
                  have hcz17_2 : wr.cell? ⟨gb474, 2, none⟩ = some (.int .i64 t469) := (blk_cell BK474.out 2).trans rfl
                  have hcz17_3 : wr.cell? ⟨gb474, 3, none⟩ = some (.int .i64 t470) := (blk_cell BK474.out 3).trans rfl
                  have hcz17_4 : wr.cell? ⟨gb474, 4, none⟩ = some (.int .u64 t471) := (blk_cell BK474.out 4).trans rfl
                  have hcz17_5 : wr.cell? ⟨gb474, 5, none⟩ = some (.int .u64 t472) := (blk_cell BK474.out 5).trans rfl
                  have hfz17_0 := blk_frozen BK474.out 0
                  have hfz17_1 := blk_frozen BK474.out 1
                  have hfz17_2 := blk_frozen BK474.out 2
                  have hfz17_3 := blk_frozen BK474.out 3
                  have hfz17_4 := blk_frozen BK474.out 4
                  have hfz17_5 := blk_frozen BK474.out 5
                  go_wp2
                  go_meet
                  case rel => exact ⟨_, (false), (by first | rfl | (simp; done) | (simp [*]; done)), H', ⟨by have := HJ6.out; have := HK2.out; first | omega | exact Nat.le_refl _⟩, ⟨by (with_reducible repeat (first | refine blk_drewN ?_ _ | refine blk_drew ?_ | refine blk_alloc ?_ _)); exact BK474.out⟩, ⟨by repeat (first | (with_reducible first | exact HB.out | apply below_alloc | apply pw_below_drewN | apply below_drew1 | refine below_set ?_ GE474.out) | exact HB.out)⟩⟩
              case rest =>
                clear HC14
                try clear c1
                try clear p2
                try clear c4
                try clear c6
                try clear c10
                try clear c11
                try clear c13
                try clear c13b0
                try clear c13b1
                try clear c15
                try clear c15b0
                try clear hcz10_0
                try clear hcz10_1
                try clear hcz10_2
                try clear hcz10_3
                try clear hcz10_4
                try clear hcz10_5
                try clear hcz12_0
                try clear hcz12_1
                try clear hcz12_2
                try clear hcz12_3
                try clear hcz12_4
                try clear hcz12_5
                try clear hcz16_0
                try clear hcz16_1
                try clear hcz16_2
                try clear hcz16_3
                try clear hcz16_4
                try clear hcz16_5
                try clear hcz17_0
                try clear hcz17_1
                try clear hcz17_2
                try clear hcz17_3
                try clear hcz17_4
                try clear hcz17_5
                try clear hfz10_0
                try clear hfz10_1
                try clear hfz10_2
                try clear hfz10_3
                try clear hfz10_4
                try clear hfz10_5
                try clear hfz12_0
                try clear hfz12_1
                try clear hfz12_2
                try clear hfz12_3
                try clear hfz12_4
                try clear hfz12_5
                try clear hfz16_0
                try clear hfz16_1
                try clear hfz16_2
                try clear hfz16_3
                try clear hfz16_4
                try clear hfz16_5
                try clear hfz17_0
                try clear hfz17_1
                try clear hfz17_2
                try clear hfz17_3
                try clear hfz17_4
                try clear hfz17_5
                try clear p2
                obtain ⟨kq, x36_13, rfl, HA, HJ13, BK474, HB⟩ := hcut
                cases kq with
                | zero => exact absurd HA.out (by simp [gnomonref07_DocJoin.j2])
                | succ kj13 =>
                  have H := HA.out
                  clear HA
                  simp only [gnomonref07_DocJoin.j2] at H
                  by_cases c18 : x36_13 = true
                  · subst c18
                    have H1 : (gnomonref07_DocJoin.l0 kj13 (IntKind.u64.wrap (Int.tdiv x2_2 2)) (wrap64 (x3_2 + 1)) x12_6 t467 t468 t469 t470 t471 t472) = some (r1, r2) := by rw [if_pos rfl] at H; exact H
                    clear H
                    have H := H1
                    clear H1
                    have H' := Aside0.mk H
                    clear H
                    go_wp2
                    go_roundg kj13
                    case measure => have := HJ6.out; have := HK2.out; have := HJ13.out; omega
                    case rel => exact ⟨(IntKind.u64.wrap (Int.tdiv x2_2 2)), (wrap64 (x3_2 + 1)), (by first | rfl | (simp; done) | (simp [*]; done)), (by first | rfl | (simp; done) | (simp [*]; done)), H', ⟨by have := HJ6.out; have := HK2.out; have := HJ13.out; omega⟩, ⟨by (with_reducible repeat (first | refine blk_drewN ?_ _ | refine blk_drew ?_ | refine blk_alloc ?_ _)); exact BK474.out⟩, ⟨by repeat (first | (with_reducible first | exact HB.out | apply below_alloc | apply pw_below_drewN | apply below_drew1 | refine below_set ?_ GE474.out) | exact HB.out)⟩⟩
                  · replace c18 := Bool.eq_false_iff.mpr c18
                    subst c18
                    have H1 : (if x3_2 < t469 then (gnomonref07_DocJoin.j3 kj13 x2_2 x3_2 x12_6 true t467 t468 t469 t470 t471 t472) else (gnomonref07_DocJoin.j3 kj13 x2_2 x3_2 x12_6 (decide (x3_2 > (wrap64 (t470 + t468)))) t467 t468 t469 t470 t471 t472)) = some (r1, r2) := by rw [if_neg (show ¬ (false = true) by decide)] at H; exact H
                    clear H
                    have H := H1
                    clear H1
                    have HC19 := Aside0.mk H
                    clear H
                    go_upto_region 11 with (fail)
                    go_cut [53] (fun v53 wc => ∃ (kq : Nat) (x53_18 : Bool), v53 = .bool x53_18 ∧ Aside0 (gnomonref07_DocJoin.j3 kq x2_2 x3_2 x12_6 x53_18 t467 t468 t469 t470 t471 t472 = some (r1, r2)) ∧ Aside0 (kq ≤ kj13) ∧ Aside0 (wc.heap[gb474]? = some (.cells #[.int .u64 t467, .int .i64 t468, .int .i64 t469, .int .i64 t470, .int .u64 t471, .int .u64 t472] 71 (0, 0))) ∧ Aside0 (Below w.heap.size w wc))
                    case first =>
                      have H := HC19.out
                      clear HC19
                      by_cases c20 : x3_2 < t469
                      · rw [if_pos c20] at H
                        have c20b0 : decide (x3_2 < t469) = true := decide_eq_true c20
                        clear c20
                        (first | rw [c20b0] | (simp only [i64_w, i32_w]; rw [c20b0]) | skip)
                        have H' := Aside0.mk H
                        clear H
                        have hcz21_0 : wc.cell? ⟨gb474, 0, none⟩ = some (.int .u64 t467) := (blk_cell BK474.out 0).trans rfl
                        have hcz21_1 : wc.cell? ⟨gb474, 1, none⟩ = some (.int .i64 t468) := (blk_cell BK474.out 1).trans rfl
                        have hcz21_2 : wc.cell? ⟨gb474, 2, none⟩ = some (.int .i64 t469) := (blk_cell BK474.out 2).trans rfl
                        have hcz21_3 : wc.cell? ⟨gb474, 3, none⟩ = some (.int .i64 t470) := (blk_cell BK474.out 3).trans rfl
                        have hcz21_4 : wc.cell? ⟨gb474, 4, none⟩ = some (.int .u64 t471) := (blk_cell BK474.out 4).trans rfl
                        have hcz21_5 : wc.cell? ⟨gb474, 5, none⟩ = some (.int .u64 t472) := (blk_cell BK474.out 5).trans rfl
                        have hfz21_0 := blk_frozen BK474.out 0
                        have hfz21_1 := blk_frozen BK474.out 1
                        have hfz21_2 := blk_frozen BK474.out 2
                        have hfz21_3 := blk_frozen BK474.out 3
                        have hfz21_4 := blk_frozen BK474.out 4
                        have hfz21_5 := blk_frozen BK474.out 5
                        go_wp2
                        go_meet
                        case rel => exact ⟨_, (true), (by first | rfl | (simp; done) | (simp [*]; done)), H', ⟨by have := HJ6.out; have := HK2.out; have := HJ13.out; first | omega | exact Nat.le_refl _⟩, ⟨by (with_reducible repeat (first | refine blk_drewN ?_ _ | refine blk_drew ?_ | refine blk_alloc ?_ _)); exact BK474.out⟩, ⟨by repeat (first | (with_reducible first | exact HB.out | apply below_alloc | apply pw_below_drewN | apply below_drew1 | refine below_set ?_ GE474.out) | exact HB.out)⟩⟩
                      · rw [if_neg c20] at H
                        have c20b0 : decide (x3_2 < t469) = false := decide_eq_false c20
                        clear c20
                        (first | rw [c20b0] | (simp only [i64_w, i32_w]; rw [c20b0]) | skip)
                        have H' := Aside0.mk H
                        clear H
                        have hcz22_0 : wc.cell? ⟨gb474, 0, none⟩ = some (.int .u64 t467) := (blk_cell BK474.out 0).trans rfl
                        have hcz22_1 : wc.cell? ⟨gb474, 1, none⟩ = some (.int .i64 t468) := (blk_cell BK474.out 1).trans rfl
                        have hcz22_2 : wc.cell? ⟨gb474, 2, none⟩ = some (.int .i64 t469) := (blk_cell BK474.out 2).trans rfl
                        have hcz22_3 : wc.cell? ⟨gb474, 3, none⟩ = some (.int .i64 t470) := (blk_cell BK474.out 3).trans rfl
                        have hcz22_4 : wc.cell? ⟨gb474, 4, none⟩ = some (.int .u64 t471) := (blk_cell BK474.out 4).trans rfl
                        have hcz22_5 : wc.cell? ⟨gb474, 5, none⟩ = some (.int .u64 t472) := (blk_cell BK474.out 5).trans rfl
                        have hfz22_0 := blk_frozen BK474.out 0
                        have hfz22_1 := blk_frozen BK474.out 1
                        have hfz22_2 := blk_frozen BK474.out 2
                        have hfz22_3 := blk_frozen BK474.out 3
                        have hfz22_4 := blk_frozen BK474.out 4
                        have hfz22_5 := blk_frozen BK474.out 5
                        go_wp2
                        go_meet
                        case rel => exact ⟨_, (decide (x3_2 > (wrap64 (t470 + t468)))), (by first | rfl | (simp; done) | (simp [*]; done)), H', ⟨by have := HJ6.out; have := HK2.out; have := HJ13.out; first | omega | exact Nat.le_refl _⟩, ⟨by (with_reducible repeat (first | refine blk_drewN ?_ _ | refine blk_drew ?_ | refine blk_alloc ?_ _)); exact BK474.out⟩, ⟨by repeat (first | (with_reducible first | exact HB.out | apply below_alloc | apply pw_below_drewN | apply below_drew1 | refine below_set ?_ GE474.out) | exact HB.out)⟩⟩
                    case rest =>
                      clear HC19
                      try clear c1
                      try clear c2
                      try clear p2
                      try clear c4
                      try clear c6
                      try clear p6
                      try clear c10
                      try clear c11
                      try clear c13
                      try clear c13b0
                      try clear c13b1
                      try clear c15
                      try clear c15b0
                      try clear c18
                      try clear c20
                      try clear c20b0
                      try clear hcz10_0
                      try clear hcz10_1
                      try clear hcz10_2
                      try clear hcz10_3
                      try clear hcz10_4
                      try clear hcz10_5
                      try clear hcz12_0
                      try clear hcz12_1
                      try clear hcz12_2
                      try clear hcz12_3
                      try clear hcz12_4
                      try clear hcz12_5
                      try clear hcz16_0
                      try clear hcz16_1
                      try clear hcz16_2
                      try clear hcz16_3
                      try clear hcz16_4
                      try clear hcz16_5
                      try clear hcz17_0
                      try clear hcz17_1
                      try clear hcz17_2
                      try clear hcz17_3
                      try clear hcz17_4
                      try clear hcz17_5
                      try clear hcz21_0
                      try clear hcz21_1
                      try clear hcz21_2
                      try clear hcz21_3
                      try clear hcz21_4
                      try clear hcz21_5
                      try clear hcz22_0
                      try clear hcz22_1
                      try clear hcz22_2
                      try clear hcz22_3
                      try clear hcz22_4
                      try clear hcz22_5
                      try clear hfz10_0
                      try clear hfz10_1
                      try clear hfz10_2
                      try clear hfz10_3
                      try clear hfz10_4
                      try clear hfz10_5
                      try clear hfz12_0
                      try clear hfz12_1
                      try clear hfz12_2
                      try clear hfz12_3
                      try clear hfz12_4
                      try clear hfz12_5
                      try clear hfz16_0
                      try clear hfz16_1
                      try clear hfz16_2
                      try clear hfz16_3
                      try clear hfz16_4
                      try clear hfz16_5
                      try clear hfz17_0
                      try clear hfz17_1
                      try clear hfz17_2
                      try clear hfz17_3
                      try clear hfz17_4
                      try clear hfz17_5
                      try clear hfz21_0
                      try clear hfz21_1
                      try clear hfz21_2
                      try clear hfz21_3
                      try clear hfz21_4
                      try clear hfz21_5
                      try clear hfz22_0
                      try clear hfz22_1
                      try clear hfz22_2
                      try clear hfz22_3
                      try clear hfz22_4
                      try clear hfz22_5
                      try clear p2
                      obtain ⟨kq, x53_18, rfl, HA, HJ18, BK474, HB⟩ := hcut
                      cases kq with
                      | zero => exact absurd HA.out (by simp [gnomonref07_DocJoin.j3])
                      | succ kj18 =>
                        have H := HA.out
                        clear HA
                        simp only [gnomonref07_DocJoin.j3] at H
                        by_cases c23 : x53_18 = true
                        · subst c23
                          have H1 : (some (0, 5)) = some (r1, r2) := by rw [if_pos rfl] at H; exact H
                          clear H
                          have H := H1
                          clear H1
                          simp only [Option.some.injEq, Prod.mk.injEq] at H
                          obtain ⟨rfl, rfl⟩ := H
                          go_wp2
                          go_ret2
                          exact ⟨by first | rfl | (simp [errW_none, errW_some] <;> rfl) | (simp [*, errW_none, errW_some] <;> rfl), by repeat (first | (with_reducible first | exact HB.out | apply below_alloc | apply pw_below_drewN | apply below_drew1 | refine below_set ?_ GE474.out) | exact HB.out)⟩
                        · replace c23 := Bool.eq_false_iff.mpr c23
                          subst c23
                          have H1 : ((gnomonref01_Word.f kj18 x2_2).bind fun t475 => ((gnomonref01_Shl.f kj18 t475 (wrap64 (x3_2 - t469))).bind fun t478 => ((gnomonref07_Size.f kj18 t467 t468 t469 t470 t471 t472 t478).bind fun t481 => (if t481 ≥ t471 then (gnomonref07_DocJoin.j4 kj18 x12_6 t481 true) else ((gnomonref07_Whole.f kj18 t467 t468 t469 t470 t471 t472 t481).bind fun bt482 => ((gnomonref01_Cmp.f kj18 bt482.2 t478).bind fun t486 => (gnomonref07_DocJoin.j4 kj18 x12_6 t481 (t486 != 0)))))))) = some (r1, r2) := by rw [if_neg (show ¬ (false = true) by decide)] at H; exact H
                          clear H
                          have H := H1
                          clear H1
                          replace H := Option.bind_eq_some_iff.mp H
                          obtain ⟨t475, A240, H⟩ := H
                          replace H : ((gnomonref01_Shl.f kj18 t475 (wrap64 (x3_2 - t469))).bind fun t478 => ((gnomonref07_Size.f kj18 t467 t468 t469 t470 t471 t472 t478).bind fun t481 => (if t481 ≥ t471 then (gnomonref07_DocJoin.j4 kj18 x12_6 t481 true) else ((gnomonref07_Whole.f kj18 t467 t468 t469 t470 t471 t472 t481).bind fun bt482 => ((gnomonref01_Cmp.f kj18 bt482.2 t478).bind fun t486 => (gnomonref07_DocJoin.j4 kj18 x12_6 t481 (t486 != 0))))))) = some (r1, r2) := H
                          have A24 := Aside0.mk A240
                          clear A240
                          replace H := Option.bind_eq_some_iff.mp H
                          obtain ⟨t478, A250, H⟩ := H
                          replace H : ((gnomonref07_Size.f kj18 t467 t468 t469 t470 t471 t472 t478).bind fun t481 => (if t481 ≥ t471 then (gnomonref07_DocJoin.j4 kj18 x12_6 t481 true) else ((gnomonref07_Whole.f kj18 t467 t468 t469 t470 t471 t472 t481).bind fun bt482 => ((gnomonref01_Cmp.f kj18 bt482.2 t478).bind fun t486 => (gnomonref07_DocJoin.j4 kj18 x12_6 t481 (t486 != 0)))))) = some (r1, r2) := H
                          have A25 := Aside0.mk A250
                          clear A250
                          replace H := Option.bind_eq_some_iff.mp H
                          obtain ⟨t481, A260, H⟩ := H
                          replace H : (if t481 ≥ t471 then (gnomonref07_DocJoin.j4 kj18 x12_6 t481 true) else ((gnomonref07_Whole.f kj18 t467 t468 t469 t470 t471 t472 t481).bind fun bt482 => ((gnomonref01_Cmp.f kj18 bt482.2 t478).bind fun t486 => (gnomonref07_DocJoin.j4 kj18 x12_6 t481 (t486 != 0))))) = some (r1, r2) := H
                          have A26 := Aside0.mk A260
                          clear A260
                          have HC27 := Aside0.mk H
                          clear H
                          try go_wp2
                          have n0_ := Aside0.mk (blk_drew BK474.out)
                          have n1_ := Aside0.mk (below_drew1 HB.out)
                          clear BK474
                          clear HB
                          have BK474 := n0_
                          have HB := n1_
                          clear n0_ n1_
                          refine start_ (n := 8) (S := fun w' => w'.cell? ⟨gb474, 0, none⟩ = some (.int .u64 t467) ∧ w'.cell? ⟨gb474, 1, none⟩ = some (.int .i64 t468) ∧ w'.cell? ⟨gb474, 2, none⟩ = some (.int .i64 t469) ∧ w'.cell? ⟨gb474, 3, none⟩ = some (.int .i64 t470) ∧ w'.cell? ⟨gb474, 4, none⟩ = some (.int .u64 t471) ∧ w'.cell? ⟨gb474, 5, none⟩ = some (.int .u64 t472)) (ds := []) #[false, false, false, false, false, false, false, false] (by kernel_rfl) rfl rfl ⟨(blk_cell BK474.out 0).trans rfl, (blk_cell BK474.out 1).trans rfl, (blk_cell BK474.out 2).trans rfl, (blk_cell BK474.out 3).trans rfl, (blk_cell BK474.out 4).trans rfl, (blk_cell BK474.out 5).trans rfl⟩ (fun hHeld => ?_); refine with_tabW gnomonref07_DocJoin.tab13 gnomonref07_DocJoin.bits13 (fun HT_ HW_ => ?_)
                          generalize wc.drew = w28 at BK474 HB hHeld ⊢
                          refine pure_ (i := 0) (N := some 54) (v := ?_) (a' := ?_) #[true, false, false, false, false, false, false, false] rfl rfl (any_of HT_.out (by kernel_rfl)) (fun _ _ _ h => h) (Or.inl ⟨by rfl, ?_⟩) ?_ ?_
                          rotate_left
                          · intro w'
                            go_simp
                            with_reducible rfl
                          rotate_left
                          · simp only [Act.put, List.setIfInBounds_toArray, List.set_cons_zero, List.set_cons_succ, i64_w, i32_w]
                            rfl
                          refine pure_ (i := 2) (N := some 56) (v := ?_) (a' := ?_) #[true, false, true, false, false, false, false, false] rfl rfl (any_of HT_.out (by kernel_rfl)) (fun _ _ _ h => h) (Or.inl ⟨by rfl, ?_⟩) ?_ ?_
                          rotate_left
                          · intro w'
                            go_simp
                            with_reducible rfl
                          rotate_left
                          · simp only [Act.put, List.setIfInBounds_toArray, List.set_cons_zero, List.set_cons_succ, i64_w, i32_w]
                            rfl
                          refine pure_ (i := 3) (N := some 57) (v := ?_) (a' := ?_) #[true, false, true, true, false, false, false, false] rfl rfl (any_of HT_.out (by kernel_rfl)) (fun _ _ _ h => h) (Or.inl ⟨by rfl, ?_⟩) ?_ ?_
                          rotate_left
                          · intro w'
                            go_simp
                            with_reducible rfl
                          rotate_left
                          · simp only [Act.put, List.setIfInBounds_toArray, List.set_cons_zero, List.set_cons_succ, i64_w, i32_w]
                            rfl
                          refine take_ (i := 4) (N := some 58) (v := ?_) (a' := ?_) #[true, false, true, true, true, false, false, false] rfl rfl (take_ofW HT_.out HW_.out (by kernel_rfl)) (fun _ _ _ h => h) (Or.inl ⟨by rfl, ?_⟩) hHeld ?_ ?_
                          rotate_left
                          · rintro w' ⟨s0, s1, s2, s3, s4, s5⟩
                            go_simp
                            with_reducible rfl
                          rotate_left
                          · simp only [Act.put, List.setIfInBounds_toArray, List.set_cons_zero, List.set_cons_succ, i64_w, i32_w]
                            rfl
                          refine pure_ (i := 5) (N := some 59) (v := ?_) (a' := ?_) #[true, false, true, true, true, true, false, false] rfl rfl (any_of HT_.out (by kernel_rfl)) (fun _ _ _ h => h) (Or.inl ⟨by rfl, ?_⟩) ?_ ?_
                          rotate_left
                          · intro w'
                            go_simp
                            with_reducible rfl
                          rotate_left
                          · simp only [Act.put, List.setIfInBounds_toArray, List.set_cons_zero, List.set_cons_succ, i64_w, i32_w]
                            rfl
                          refine one_ (i := 1) (N := some 55) #[true, true, true, true, true, true, false, false] rfl rfl (one_of HT_.out (by kernel_rfl)) (by decide) (fun K hK => ?_)
                          refine goes_ Tryd.func60 (by kernel_rfl) rfl #[.int .u64 x2_2] (by rfl) rfl rfl (by (try simp only [List.map_toArray, List.map_cons, List.map_nil]); first | done | rfl | (simp only [List.length_drop, List.length_take]; rfl)) ?_
                          with_reducible refine (gnomonref01_Word.calls kj18 x2_2 t475 _ A24.out).mono ?_
                          rintro e w29 ⟨v476, rfl, ho0, hb⟩
                          refine ⟨_, rfl, ?_⟩
                          have n0_ := Aside0.mk (Kd.R_lower ho0 (below_size (by repeat (first | (with_reducible first | exact HB.out | apply below_alloc | apply pw_below_drewN | apply below_drew1 | refine below_set ?_ GE474.out) | exact HB.out))))
                          have n1_ := Aside0.mk (blk_below (g := gb474) (o := .cells #[.int .u64 t467, .int .i64 t468, .int .i64 t469, .int .i64 t470, .int .u64 t471, .int .u64 t472] 71 (0, 0)) (by (with_reducible repeat (first | refine blk_drewN ?_ _ | refine blk_drew ?_ | refine blk_alloc ?_ _)); exact BK474.out) hb)
                          have n2_ := Aside0.mk (below_step (by repeat (first | (with_reducible first | exact HB.out | apply below_alloc | apply pw_below_drewN | apply below_drew1 | refine below_set ?_ GE474.out) | exact HB.out)) hb)
                          clear BK474
                          clear HB
                          have HO477 := n0_
                          have BK474 := n1_
                          have HB := n2_
                          clear n0_ n1_ n2_
                          (try clear hb)
                          (try clear hb2)
                          (try clear hk)
                          (try clear hi)
                          (try clear ho0)
                          obtain ⟨Ao30, co30, eo30⟩ := Kd.R_slice HO477.out
                          (first | subst eo30 | (injection eo30 with f1_ f2_ f3_; have f4_ := f1_.symm; have f5_ := f3_.symm; clear f1_ f2_ f3_; subst f4_; subst f5_))
                          refine hK.out _ _ ⟨(blk_cell BK474.out 0).trans rfl, (blk_cell BK474.out 1).trans rfl, (blk_cell BK474.out 2).trans rfl, (blk_cell BK474.out 3).trans rfl, (blk_cell BK474.out 4).trans rfl, (blk_cell BK474.out 5).trans rfl⟩ (fun hHeld => ?_)
                          clear hK K
                          refine norm_ (a' := ?_) ?_ ?_
                          rotate_left
                          · show Act.put _ (some 55) _ = _
                            simp only [Act.put, List.setIfInBounds_toArray, List.set_cons_zero, List.set_cons_succ, i64_w, i32_w]
                            rfl
                          refine one_ (i := 6) (N := some 60) #[true, true, true, true, true, true, true, false] rfl rfl (one_of HT_.out (by kernel_rfl)) (by decide) (fun K hK => ?_)
                          refine goes_ Tryd.func76 (by kernel_rfl) rfl #[.slice Ao30 t475.length co30, .int .i64 (wrap64 (x3_2 - t469))] (by rfl) rfl rfl (by (try simp only [List.map_toArray, List.map_cons, List.map_nil]); first | done | rfl | (simp only [List.length_drop, List.length_take]; rfl)) ?_
                          with_reducible refine (gnomonref01_Shl.calls kj18 _ _ t475 (wrap64 (x3_2 - t469)) t478 _ ?side1 ?side2 A25.out).mono ?_
                          (case side1 => repeat (first | exact (Kd.R_reads' HO477.out).2.2 | (with_reducible refine Kd.C_alloc ?_ _) | (with_reducible refine Kd.C_drewN ?_ _) | (with_reducible refine Kd.C_drew ?_)))
                          (case side2 => exact (Kd.R_reads' HO477.out).2.1)
                          rintro e w31 ⟨v479, rfl, ho0, hb⟩
                          refine ⟨_, rfl, ?_⟩
                          have n0_ := Aside0.mk (Kd.R_elder' (by (with_reducible repeat (first | apply Kd.R_alloc | apply Kd.R_drewN | apply Kd.R_drew)); exact HO477.out) (Kd.R_base ho0) hb)
                          have n1_ := Aside0.mk (Kd.R_lower (Kd.R_new' ho0 (Kd.R_lt (by (with_reducible repeat (first | apply Kd.R_alloc | apply Kd.R_drewN | apply Kd.R_drew)); exact HO477.out))) (below_size (by repeat (first | (with_reducible first | exact HB.out | apply below_alloc | apply pw_below_drewN | apply below_drew1 | refine below_set ?_ GE474.out) | exact HB.out))))
                          have n2_ := Aside0.mk (blk_below (g := gb474) (o := .cells #[.int .u64 t467, .int .i64 t468, .int .i64 t469, .int .i64 t470, .int .u64 t471, .int .u64 t472] 71 (0, 0)) (by (with_reducible repeat (first | refine blk_drewN ?_ _ | refine blk_drew ?_ | refine blk_alloc ?_ _)); exact BK474.out) hb)
                          have n3_ := Aside0.mk (below_step (by repeat (first | (with_reducible first | exact HB.out | apply below_alloc | apply pw_below_drewN | apply below_drew1 | refine below_set ?_ GE474.out) | exact HB.out)) hb)
                          clear HO477
                          clear BK474
                          clear HB
                          have HO477 := n0_
                          have HO480 := n1_
                          have BK474 := n2_
                          have HB := n3_
                          clear n0_ n1_ n2_ n3_
                          (try clear hb)
                          (try clear hb2)
                          (try clear hk)
                          (try clear hi)
                          (try clear ho0)
                          refine hK.out _ _ ⟨(blk_cell BK474.out 0).trans rfl, (blk_cell BK474.out 1).trans rfl, (blk_cell BK474.out 2).trans rfl, (blk_cell BK474.out 3).trans rfl, (blk_cell BK474.out 4).trans rfl, (blk_cell BK474.out 5).trans rfl⟩ (fun hHeld => ?_)
                          clear hK K
                          refine norm_ (a' := ?_) ?_ ?_
                          rotate_left
                          · show Act.put _ (some 60) _ = _
                            simp only [Act.put, List.setIfInBounds_toArray, List.set_cons_zero, List.set_cons_succ, i64_w, i32_w]
                            rfl
                          refine pure_ (i := 7) (N := some 13) (v := ?_) (a' := ?_) #[true, true, true, true, true, true, true, true] rfl rfl (any_of HT_.out (by kernel_rfl)) (fun _ _ _ h => h) (Or.inl ⟨by rfl, ?_⟩) ?_ ?_
                          rotate_left
                          · intro w'
                            go_simp
                            with_reducible rfl
                          rotate_left
                          · simp only [Act.put, List.setIfInBounds_toArray, List.set_cons_zero, List.set_cons_succ, i64_w, i32_w]
                            rfl
                          refine done_ (done_of HT_.out (by kernel_rfl)) ?_
                          have hcz32_0 : w31.cell? ⟨gb474, 0, none⟩ = some (.int .u64 t467) := (blk_cell BK474.out 0).trans rfl
                          have hcz32_1 : w31.cell? ⟨gb474, 1, none⟩ = some (.int .i64 t468) := (blk_cell BK474.out 1).trans rfl
                          have hcz32_2 : w31.cell? ⟨gb474, 2, none⟩ = some (.int .i64 t469) := (blk_cell BK474.out 2).trans rfl
                          have hcz32_3 : w31.cell? ⟨gb474, 3, none⟩ = some (.int .i64 t470) := (blk_cell BK474.out 3).trans rfl
                          have hcz32_4 : w31.cell? ⟨gb474, 4, none⟩ = some (.int .u64 t471) := (blk_cell BK474.out 4).trans rfl
                          have hcz32_5 : w31.cell? ⟨gb474, 5, none⟩ = some (.int .u64 t472) := (blk_cell BK474.out 5).trans rfl
                          have hfz32_0 := blk_frozen BK474.out 0
                          have hfz32_1 := blk_frozen BK474.out 1
                          have hfz32_2 := blk_frozen BK474.out 2
                          have hfz32_3 := blk_frozen BK474.out 3
                          have hfz32_4 := blk_frozen BK474.out 4
                          have hfz32_5 := blk_frozen BK474.out 5
                          obtain ⟨Ao33, co33, eo33⟩ := Kd.R_slice HO480.out
                          subst eo33
                          go_upto_region 15 with (first | ((with_reducible refine gate_callee (f := 111) rfl ?_); refine goesL_ (some 63) rfl rfl Tryd.func111 (by kernel_rfl) rfl #[.agg #[.int .u64 t467, .int .i64 t468, .int .i64 t469, .int .i64 t470, .int .u64 t471, .int .u64 t472], .slice Ao33 t478.length co33] rfl (by (try simp only [List.map_toArray, List.map_cons, List.map_nil]); first | done | rfl | (simp only [List.length_drop, List.length_take]; rfl)) ?_; (with_reducible refine (gnomonref07_Size.calls kj18 t467 t468 t469 t470 t471 t472 _ _ t478 t481 _ ?side1 ?side2 A26.out).mono ?_); (case side1 => repeat (first | exact (Kd.R_reads' HO480.out).2.2 | (with_reducible refine Kd.C_alloc ?_ _) | (with_reducible refine Kd.C_drewN ?_ _) | (with_reducible refine Kd.C_drew ?_))); (case side2 => exact (Kd.R_reads' HO480.out).2.1); rintro e w34 ⟨rfl, hb⟩; refine ⟨_, rfl, ?_⟩; have n0_ := Aside0.mk (Kd.R_below (by (with_reducible repeat (first | apply Kd.R_alloc | apply Kd.R_drewN | apply Kd.R_drew)); exact HO477.out) hb); have n1_ := Aside0.mk (Kd.R_below (by (with_reducible repeat (first | apply Kd.R_alloc | apply Kd.R_drewN | apply Kd.R_drew)); exact HO480.out) hb); have n2_ := Aside0.mk (blk_below (g := gb474) (o := .cells #[.int .u64 t467, .int .i64 t468, .int .i64 t469, .int .i64 t470, .int .u64 t471, .int .u64 t472] 71 (0, 0)) (by (with_reducible repeat (first | refine blk_drewN ?_ _ | refine blk_drew ?_ | refine blk_alloc ?_ _)); exact BK474.out) hb); have n3_ := Aside0.mk (below_step (by repeat (first | (with_reducible first | exact HB.out | apply below_alloc | apply pw_below_drewN | apply below_drew1 | refine below_set ?_ GE474.out) | exact HB.out)) hb); clear HO477; clear HO480; clear BK474; clear HB; have HO477 := n0_; have HO480 := n1_; have BK474 := n2_; have HB := n3_; clear n0_ n1_ n2_ n3_; (try clear hb); (try clear hb2); (try clear hk); (try clear hi)))
                          (try simp only [Act.put, List.setIfInBounds_toArray, List.set_cons_zero, List.set_cons_succ])
                          go_cut [76] (fun v76 wc => ∃ (kq : Nat) (x76_26 : Bool), v76 = .bool x76_26 ∧ Aside0 (gnomonref07_DocJoin.j4 kq x12_6 t481 x76_26 = some (r1, r2)) ∧ Aside0 (kq ≤ kj18) ∧ Aside0 (wc.heap[gb474]? = some (.cells #[.int .u64 t467, .int .i64 t468, .int .i64 t469, .int .i64 t470, .int .u64 t471, .int .u64 t472] 71 (0, 0))) ∧ Aside0 (Below w.heap.size w wc))
                          case first =>
                            have H := HC27.out
                            clear HC27
                            by_cases c35 : t481 ≥ t471
                            · rw [if_pos c35] at H
                              have c35b0 : decide (t471 ≤ t481) = true := decide_eq_true c35
                              clear c35
                              (first | rw [c35b0] | (simp only [i64_w, i32_w]; rw [c35b0]) | skip)
                              have H' := Aside0.mk H
                              clear H
                              have hcz36_0 : w34.cell? ⟨gb474, 0, none⟩ = some (.int .u64 t467) := (blk_cell BK474.out 0).trans rfl
                              have hcz36_1 : w34.cell? ⟨gb474, 1, none⟩ = some (.int .i64 t468) := (blk_cell BK474.out 1).trans rfl
                              have hcz36_2 : w34.cell? ⟨gb474, 2, none⟩ = some (.int .i64 t469) := (blk_cell BK474.out 2).trans rfl
                              have hcz36_3 : w34.cell? ⟨gb474, 3, none⟩ = some (.int .i64 t470) := (blk_cell BK474.out 3).trans rfl
                              have hcz36_4 : w34.cell? ⟨gb474, 4, none⟩ = some (.int .u64 t471) := (blk_cell BK474.out 4).trans rfl
                              have hcz36_5 : w34.cell? ⟨gb474, 5, none⟩ = some (.int .u64 t472) := (blk_cell BK474.out 5).trans rfl
                              have hfz36_0 := blk_frozen BK474.out 0
                              have hfz36_1 := blk_frozen BK474.out 1
                              have hfz36_2 := blk_frozen BK474.out 2
                              have hfz36_3 := blk_frozen BK474.out 3
                              have hfz36_4 := blk_frozen BK474.out 4
                              have hfz36_5 := blk_frozen BK474.out 5
                              go_wp2
                              go_meet
                              case rel => exact ⟨_, (true), (by first | rfl | (simp; done) | (simp [*]; done)), H', ⟨by have := HJ6.out; have := HK2.out; have := HJ13.out; have := HJ18.out; first | omega | exact Nat.le_refl _⟩, ⟨by (with_reducible repeat (first | refine blk_drewN ?_ _ | refine blk_drew ?_ | refine blk_alloc ?_ _)); exact BK474.out⟩, ⟨by repeat (first | (with_reducible first | exact HB.out | apply below_alloc | apply pw_below_drewN | apply below_drew1 | refine below_set ?_ GE474.out) | exact HB.out)⟩⟩
                            · rw [if_neg c35] at H
                              have c35b0 : decide (t471 ≤ t481) = false := decide_eq_false c35
                              clear c35
                              (first | rw [c35b0] | (simp only [i64_w, i32_w]; rw [c35b0]) | skip)
                              replace H := Option.bind_eq_some_iff.mp H
                              obtain ⟨⟨t482, t483⟩, A370, H⟩ := H
                              replace H : ((gnomonref01_Cmp.f kj18 t483 t478).bind fun t486 => (gnomonref07_DocJoin.j4 kj18 x12_6 t481 (t486 != 0))) = some (r1, r2) := H
                              have A37 := Aside0.mk A370
                              clear A370
                              replace H := Option.bind_eq_some_iff.mp H
                              obtain ⟨t486, A380, H⟩ := H
                              replace H : (gnomonref07_DocJoin.j4 kj18 x12_6 t481 (t486 != 0)) = some (r1, r2) := H
                              have A38 := Aside0.mk A380
                              clear A380
                              have H' := Aside0.mk H
                              clear H
                              have hcz39_0 : w34.cell? ⟨gb474, 0, none⟩ = some (.int .u64 t467) := (blk_cell BK474.out 0).trans rfl
                              have hcz39_1 : w34.cell? ⟨gb474, 1, none⟩ = some (.int .i64 t468) := (blk_cell BK474.out 1).trans rfl
                              have hcz39_2 : w34.cell? ⟨gb474, 2, none⟩ = some (.int .i64 t469) := (blk_cell BK474.out 2).trans rfl
                              have hcz39_3 : w34.cell? ⟨gb474, 3, none⟩ = some (.int .i64 t470) := (blk_cell BK474.out 3).trans rfl
                              have hcz39_4 : w34.cell? ⟨gb474, 4, none⟩ = some (.int .u64 t471) := (blk_cell BK474.out 4).trans rfl
                              have hcz39_5 : w34.cell? ⟨gb474, 5, none⟩ = some (.int .u64 t472) := (blk_cell BK474.out 5).trans rfl
                              have hfz39_0 := blk_frozen BK474.out 0
                              have hfz39_1 := blk_frozen BK474.out 1
                              have hfz39_2 := blk_frozen BK474.out 2
                              have hfz39_3 := blk_frozen BK474.out 3
                              have hfz39_4 := blk_frozen BK474.out 4
                              have hfz39_5 := blk_frozen BK474.out 5
                              go_wp2_with (first | (rw [show ∀ (x y : Value) (w_ : World), Sem.run Tryd.prog (Instr.field 77 (Value.agg #[x, y]) 1) w_ = .ok y w_ from fun x y w_ => by kernel_rfl]; go_simp) | (go_at_call 42; (with_reducible refine (gnomonref07_Whole.calls kj18 t467 t468 t469 t470 t471 t472 t481 t482 t483 _ A37.out).mono ?_); rintro e w40 ⟨v484, rfl, ho0, hb⟩; have n0_ := Aside0.mk (Kd.R_elder' (by (with_reducible repeat (first | apply Kd.R_alloc | apply Kd.R_drewN | apply Kd.R_drew)); exact HO477.out) (Kd.R_base ho0) hb); have n1_ := Aside0.mk (Kd.R_elder' (by (with_reducible repeat (first | apply Kd.R_alloc | apply Kd.R_drewN | apply Kd.R_drew)); exact HO480.out) (Kd.R_base ho0) hb); have n2_ := Aside0.mk (Kd.R_lower (Kd.R_new' (Kd.R_new' ho0 (Kd.R_lt (by (with_reducible repeat (first | apply Kd.R_alloc | apply Kd.R_drewN | apply Kd.R_drew)); exact HO477.out))) (Kd.R_lt (by (with_reducible repeat (first | apply Kd.R_alloc | apply Kd.R_drewN | apply Kd.R_drew)); exact HO480.out))) (below_size (by repeat (first | (with_reducible first | exact HB.out | apply below_alloc | apply pw_below_drewN | apply below_drew1 | refine below_set ?_ GE474.out) | exact HB.out)))); have n3_ := Aside0.mk (blk_below (g := gb474) (o := .cells #[.int .u64 t467, .int .i64 t468, .int .i64 t469, .int .i64 t470, .int .u64 t471, .int .u64 t472] 71 (0, 0)) (by (with_reducible repeat (first | refine blk_drewN ?_ _ | refine blk_drew ?_ | refine blk_alloc ?_ _)); exact BK474.out) hb); have n4_ := Aside0.mk (below_step (by repeat (first | (with_reducible first | exact HB.out | apply below_alloc | apply pw_below_drewN | apply below_drew1 | refine below_set ?_ GE474.out) | exact HB.out)) hb); clear HO477; clear HO480; clear BK474; clear HB; have HO477 := n0_; have HO480 := n1_; have HO485 := n2_; have BK474 := n3_; have HB := n4_; clear n0_ n1_ n2_ n3_ n4_; (try clear hb); (try clear hb2); (try clear hk); (try clear hi); (try clear ho0); obtain ⟨Ao41, co41, eo41⟩ := Kd.R_slice HO485.out; subst eo41) | (go_at_call 78; (with_reducible refine (gnomonref01_Cmp.calls kj18 _ _ t483 _ _ t478 t486 _ ?side1 ?side2 ?side3 ?side4 A38.out).mono ?_); (case side1 => repeat (first | exact (Kd.R_reads' HO485.out).2.2 | (with_reducible refine Kd.C_alloc ?_ _) | (with_reducible refine Kd.C_drewN ?_ _) | (with_reducible refine Kd.C_drew ?_))); (case side2 => exact (Kd.R_reads' HO485.out).2.1); (case side3 => repeat (first | exact (Kd.R_reads' HO480.out).2.2 | (with_reducible refine Kd.C_alloc ?_ _) | (with_reducible refine Kd.C_drewN ?_ _) | (with_reducible refine Kd.C_drew ?_))); (case side4 => exact (Kd.R_reads' HO480.out).2.1); rintro e w' ⟨rfl, ⟨nd, rfl⟩⟩))
                              go_meet
                              case rel => exact ⟨_, ((t486 != 0)), (by first | rfl | (simp; done) | (simp [*]; done)), H', ⟨by have := HJ6.out; have := HK2.out; have := HJ13.out; have := HJ18.out; first | omega | exact Nat.le_refl _⟩, ⟨by (with_reducible repeat (first | refine blk_drewN ?_ _ | refine blk_drew ?_ | refine blk_alloc ?_ _)); exact BK474.out⟩, ⟨by repeat (first | (with_reducible first | exact HB.out | apply below_alloc | apply pw_below_drewN | apply below_drew1 | refine below_set ?_ GE474.out) | exact HB.out)⟩⟩
                          case rest =>
                            clear HC27
                            try clear c1
                            try clear c2
                            try clear p2
                            try clear c3
                            try clear c4
                            try clear c6
                            try clear p6
                            try clear c7
                            try clear c10
                            try clear c11
                            try clear c13
                            try clear c13b0
                            try clear c13b1
                            try clear c15
                            try clear c15b0
                            try clear c18
                            try clear c20
                            try clear c20b0
                            try clear c23
                            try clear c35
                            try clear c35b0
                            try clear hcz10_0
                            try clear hcz10_1
                            try clear hcz10_2
                            try clear hcz10_3
                            try clear hcz10_4
                            try clear hcz10_5
                            try clear hcz12_0
                            try clear hcz12_1
                            try clear hcz12_2
                            try clear hcz12_3
                            try clear hcz12_4
                            try clear hcz12_5
                            try clear hcz16_0
                            try clear hcz16_1
                            try clear hcz16_2
                            try clear hcz16_3
                            try clear hcz16_4
                            try clear hcz16_5
                            try clear hcz17_0
                            try clear hcz17_1
                            try clear hcz17_2
                            try clear hcz17_3
                            try clear hcz17_4
                            try clear hcz17_5
                            try clear hcz21_0
                            try clear hcz21_1
                            try clear hcz21_2
                            try clear hcz21_3
                            try clear hcz21_4
                            try clear hcz21_5
                            try clear hcz22_0
                            try clear hcz22_1
                            try clear hcz22_2
                            try clear hcz22_3
                            try clear hcz22_4
                            try clear hcz22_5
                            try clear hcz32_0
                            try clear hcz32_1
                            try clear hcz32_2
                            try clear hcz32_3
                            try clear hcz32_4
                            try clear hcz32_5
                            try clear hcz36_0
                            try clear hcz36_1
                            try clear hcz36_2
                            try clear hcz36_3
                            try clear hcz36_4
                            try clear hcz36_5
                            try clear hcz39_0
                            try clear hcz39_1
                            try clear hcz39_2
                            try clear hcz39_3
                            try clear hcz39_4
                            try clear hcz39_5
                            try clear hfz10_0
                            try clear hfz10_1
                            try clear hfz10_2
                            try clear hfz10_3
                            try clear hfz10_4
                            try clear hfz10_5
                            try clear hfz12_0
                            try clear hfz12_1
                            try clear hfz12_2
                            try clear hfz12_3
                            try clear hfz12_4
                            try clear hfz12_5
                            try clear hfz16_0
                            try clear hfz16_1
                            try clear hfz16_2
                            try clear hfz16_3
                            try clear hfz16_4
                            try clear hfz16_5
                            try clear hfz17_0
                            try clear hfz17_1
                            try clear hfz17_2
                            try clear hfz17_3
                            try clear hfz17_4
                            try clear hfz17_5
                            try clear hfz21_0
                            try clear hfz21_1
                            try clear hfz21_2
                            try clear hfz21_3
                            try clear hfz21_4
                            try clear hfz21_5
                            try clear hfz22_0
                            try clear hfz22_1
                            try clear hfz22_2
                            try clear hfz22_3
                            try clear hfz22_4
                            try clear hfz22_5
                            try clear hfz32_0
                            try clear hfz32_1
                            try clear hfz32_2
                            try clear hfz32_3
                            try clear hfz32_4
                            try clear hfz32_5
                            try clear hfz36_0
                            try clear hfz36_1
                            try clear hfz36_2
                            try clear hfz36_3
                            try clear hfz36_4
                            try clear hfz36_5
                            try clear hfz39_0
                            try clear hfz39_1
                            try clear hfz39_2
                            try clear hfz39_3
                            try clear hfz39_4
                            try clear hfz39_5
                            try clear p2
                            try clear p6
                            obtain ⟨kq, x76_26, rfl, HA, HJ26, BK474, HB⟩ := hcut
                            cases kq with
                            | zero => exact absurd HA.out (by simp [gnomonref07_DocJoin.j4])
                            | succ kj26 =>
                              have H := HA.out
                              clear HA
                              simp only [gnomonref07_DocJoin.j4] at H
                              by_cases c42 : x76_26 = true
                              · subst c42
                                have H1 : (some (0, 5)) = some (r1, r2) := by rw [if_pos rfl] at H; exact H
                                clear H
                                have H := H1
                                clear H1
                                simp only [Option.some.injEq, Prod.mk.injEq] at H
                                obtain ⟨rfl, rfl⟩ := H
                                go_wp2
                                go_ret2
                                exact ⟨by first | rfl | (simp [errW_none, errW_some] <;> rfl) | (simp [*, errW_none, errW_some] <;> rfl), by repeat (first | (with_reducible first | exact HB.out | apply below_alloc | apply pw_below_drewN | apply below_drew1 | refine below_set ?_ GE474.out) | exact HB.out)⟩
                              · replace c42 := Bool.eq_false_iff.mpr c42
                                subst c42
                                have H1 : (some (IntKind.u64.wrap (x12_6 + t481), 0)) = some (r1, r2) := by rw [if_neg (show ¬ (false = true) by decide)] at H; exact H
                                clear H
                                have H := H1
                                clear H1
                                simp only [Option.some.injEq, Prod.mk.injEq] at H
                                obtain ⟨rfl, rfl⟩ := H
                                go_wp2
                                go_ret2
                                exact ⟨by first | rfl | (simp [errW_none, errW_some] <;> rfl) | (simp [*, errW_none, errW_some] <;> rfl), by repeat (first | (with_reducible first | exact HB.out | apply below_alloc | apply pw_below_drewN | apply below_drew1 | refine below_set ?_ GE474.out) | exact HB.out)⟩
  · replace c6 := Bool.eq_false_iff.mpr c6
    subst c6
    have H1 : (some (0, 1)) = some (r1, r2) := by rw [if_neg (show ¬ (false = true) by decide)] at H; exact H
    clear H
    have H := H1
    clear H1
    simp only [Option.some.injEq, Prod.mk.injEq] at H
    obtain ⟨rfl, rfl⟩ := H
    go_enter Tryd.func103, Tryd.ntmps103
    go_wp2_with (first | ((with_reducible refine gate_callee (f := 40) rfl ?_); refine goesL_ (some 17) rfl rfl Tryd.func40 (by kernel_rfl) rfl #[.int .i64 a0] rfl (by (try simp only [List.map_toArray, List.map_cons, List.map_nil]); first | done | rfl | (simp only [List.length_drop, List.length_take]; rfl)) ?_; (with_reducible refine (gnomonref07_Of.calls a0 t467 t468 t469 t470 t471 t472 false _ A5.out).mono ?_); rintro e w43 ⟨rfl, hb⟩; refine ⟨_, rfl, ?_⟩; have n0_ := Aside0.mk (below_step (by repeat (first | (with_reducible first | exact HB.out | apply below_alloc | apply pw_below_drewN | apply below_drew1) | exact HB.out)) hb); clear HB; have HB := n0_; clear n0_; (try clear hb); (try clear hb2); (try clear hk); (try clear hi)) | ((with_reducible refine gate_dst (N := 10) rfl ?_); refine box_event ?hg (N := 10) ?hd (cs := #[.int .u64 0, .int .i64 0, .int .i64 0, .int .i64 0, .int .u64 0, .int .u64 0]) (t := 71) ?hr ?_; (case hd => rfl); (case hg => rfl); (case hr => first | (go_simp; done) | (go_simp; rfl)); intro gb474 hg w44 hbox hb; have n0_ := Aside0.mk (below_step (by repeat (first | (with_reducible first | exact HB.out | apply below_alloc | apply pw_below_drewN | apply below_drew1) | exact HB.out)) hb); have n1_ := Aside0.mk (hbox); have n2_ := Aside0.mk ((by rw [hg]; exact (below_size (by repeat (first | (with_reducible first | exact HB.out | apply below_alloc | apply pw_below_drewN | apply below_drew1) | exact HB.out))) : w.heap.size ≤ gb474)); have n3_ := Aside0.mk ((by rw [hg]; exact (below_size (by repeat (first | (with_reducible first | exact HB.out | apply below_alloc | apply pw_below_drewN | apply below_drew1) | exact HB.out))) : w.heap.size ≤ gb474)); clear HB; have HB := n0_; have BK474 := n1_; have GW474 := n2_; have GE474 := n3_; clear n0_ n1_ n2_ n3_; clear hb hbox hg; have hcz45_0 : w44.cell? ⟨gb474, 0, none⟩ = some (.int .u64 0) := (blk_cell BK474.out 0).trans rfl; have hcz45_1 : w44.cell? ⟨gb474, 1, none⟩ = some (.int .i64 0) := (blk_cell BK474.out 1).trans rfl; have hcz45_2 : w44.cell? ⟨gb474, 2, none⟩ = some (.int .i64 0) := (blk_cell BK474.out 2).trans rfl; have hcz45_3 : w44.cell? ⟨gb474, 3, none⟩ = some (.int .i64 0) := (blk_cell BK474.out 3).trans rfl; have hcz45_4 : w44.cell? ⟨gb474, 4, none⟩ = some (.int .u64 0) := (blk_cell BK474.out 4).trans rfl; have hcz45_5 : w44.cell? ⟨gb474, 5, none⟩ = some (.int .u64 0) := (blk_cell BK474.out 5).trans rfl; have hfz45_0 := blk_frozen BK474.out 0; have hfz45_1 := blk_frozen BK474.out 1; have hfz45_2 := blk_frozen BK474.out 2; have hfz45_3 := blk_frozen BK474.out 3; have hfz45_4 := blk_frozen BK474.out 4; have hfz45_5 := blk_frozen BK474.out 5))
    go_ret2
    exact ⟨by first | rfl | (simp [errW_none, errW_some] <;> rfl) | (simp [*, errW_none, errW_some] <;> rfl), by repeat (first | (with_reducible first | exact HB.out | apply below_alloc | apply pw_below_drewN | apply below_drew1 | refine below_set ?_ GE474.out) | exact HB.out)⟩
end Go.Proofs.YthpnmkclboennaaDoor.PLib
