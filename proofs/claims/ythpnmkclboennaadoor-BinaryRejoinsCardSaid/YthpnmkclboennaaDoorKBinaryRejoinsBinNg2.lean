/- The program's twin and Neg on numbers of one word. Conditions: the number lies in memory in form. -/
import Derived.Test.YthpnmkclboennaaDoorKBinaryRejoinsBinNg
namespace Go.Proofs.YthpnmkclboennaaDoor.BinNg2
open Go.RowKit Go.Proofs.YthpnmkclboennaaDoorW.PrintWords Go.Proofs.YthpnmkclboennaaDoorW.PrintMore Go.Proofs.YthpnmkclboennaaDoorW.PrintLast Go.Proofs.YthpnmkclboennaaDoor.Num Go.Proofs.YthpnmkclboennaaDoor.PLib Go.Proofs.YthpnmkclboennaaDoor.Ref Go.Proofs.YthpnmkclboennaaDoor.BinLaw Go.Proofs.YthpnmkclboennaaDoor.BinA Go.Proofs.YthpnmkclboennaaDoor.BinO2 Go.Proofs.YthpnmkclboennaaDoor.BinF Go.Proofs.YthpnmkclboennaaDoor.BinG Go.Proofs.YthpnmkclboennaaDoor.BinW Go.Proofs.YthpnmkclboennaaDoor.BinTab Go.Proofs.YthpnmkclboennaaDoor.BinM Go.Proofs.YthpnmkclboennaaDoor.BinM2 Go.Proofs.YthpnmkclboennaaDoor.BinV1 Go.Proofs.YthpnmkclboennaaDoor.BinS Go.Proofs.YthpnmkclboennaaDoor.BinS2 Go.Proofs.YthpnmkclboennaaDoor.BinNg
structure Two (W w : World) (g : Nat) (a b c d e f : Value) : Prop where mk :: (below : Below W.heap.size W w) (le : W.heap.size ≤ g) (blk0 : w.heap[g]? = some (.cells #[a, b, c] 29 (0, 0))) (blk1 : w.heap[g + 1]? = some (.cells #[d, e, f] 29 (0, 0)))
theorem Two.next {W w w' : World} {g : Nat} {a b c d e f : Value} (h : Two W w g a b c d e f) (k : Below w.heap.size w w') : Two W w' g a b c d e f := ⟨on h.below k, h.le, blk_below h.blk0 k, blk_below h.blk1 k⟩
theorem Two.new (w : World) (a b c : Value) : Two w ((w.alloc (Obj.cells #[a, b, c] 29)).alloc (Obj.cells #[.bool false, .slice none 0 0, .int .i64 0] 29)) w.heap.size a b c (.bool false) (.slice none 0 0) (.int .i64 0) := by
  have hg : (w.alloc (Obj.cells #[a, b, c] 29)).heap.size = w.heap.size + 1 := by simp
  have h1 := blk_new (w.alloc (Obj.cells #[a, b, c] 29)) (Obj.cells #[.bool false, .slice none 0 0, .int .i64 0] 29)
  rw [hg] at h1
  exact ⟨on (box _ _) (box _ _), Nat.le_refl _, blk_below (blk_new _ _) (box _ _), h1⟩
theorem Two.set1 {W w : World} {g : Nat} {a b c d e f : Value} (h : Two W w g a b c d e f) (x : Value) : Two W (w.setCell ⟨g, 1, none⟩ x) g a x c d e f :=
  ⟨h.below.setCell h.le _, h.le, blk_set h.blk0 1 x, blk_far h.blk1 (by show g + 1 ≠ g; omega) x⟩
theorem Two.set0 {W w : World} {g : Nat} {a b c d e f : Value} (h : Two W w g a b c d e f) (x : Value) : Two W (w.setCell ⟨g, 0, none⟩ x) g x b c d e f :=
  ⟨h.below.setCell h.le _, h.le, blk_set h.blk0 0 x, blk_far h.blk1 (by show g + 1 ≠ g; omega) x⟩
theorem Two.set2 {W w : World} {g : Nat} {a b c d e f : Value} (h : Two W w g a b c d e f) (x : Value) : Two W (w.setCell ⟨g, 2, none⟩ x) g a b x d e f :=
  ⟨h.below.setCell h.le _, h.le, blk_set h.blk0 2 x, blk_far h.blk1 (by show g + 1 ≠ g; omega) x⟩
theorem Two.res {W w : World} {g : Nat} {a b c d e f : Value} (h : Two W w g a b c d e f) : Res3 W w (g + 1) d e f := ⟨h.below, by have := h.le; omega, h.blk1⟩
theorem Two.z0 {W w : World} {g : Nat} {a b c d e f : Value} (h : Two W w g a b c d e f) : w.cell? ⟨g, 0, none⟩ = some a := (blk_cell h.blk0 0).trans rfl
theorem Two.z1 {W w : World} {g : Nat} {a b c d e f : Value} (h : Two W w g a b c d e f) : w.cell? ⟨g, 1, none⟩ = some b := (blk_cell h.blk0 1).trans rfl
theorem Two.z2 {W w : World} {g : Nat} {a b c d e f : Value} (h : Two W w g a b c d e f) : w.cell? ⟨g, 2, none⟩ = some c := (blk_cell h.blk0 2).trans rfl
theorem at1_put {w : World} {G o n : Nat} (h : At1 w G o n) {g : Nat} (hg : G ≠ g) (k : Nat) (x : Value) : At1 (w.setCell ⟨g, k, none⟩ x) G o n := by
  have ne : (⟨g, k, none⟩ : Addr) ≠ ⟨G, o, none⟩ := fun e => hg (congrArg Addr.block e).symm
  exact ⟨(World.cell?_setCell_other _ _ _ _ ne).trans h.cell⟩
set_option maxRecDepth 100000 in
theorem twin_1 (neg : Bool) (x : Int) (G o n c : Nat) (w : World) (h : At1 w G o n) : Calls Tryd.prog 62 #[.agg #[.bool neg, .slice (some ⟨G, o, none⟩) 1 c, .int .i64 x]] w fun e w' => (∃ G' c', e = .returned (.agg #[.bool neg, .slice (some ⟨G', 0, none⟩) 1 c', .int .i64 x]) ∧ At1 w' G' 0 n ∧ 1 ≤ c' ∧ w.heap.size ≤ G') ∧ Below w.heap.size w w' := by
  have R := Lib.hid (Two.new w (.bool neg) (.slice (some ⟨G, o, none⟩) 1 c) (.int .i64 x))
  have H := Lib.hid ((h.next (box w (Obj.cells #[.bool neg, .slice (some ⟨G, o, none⟩) 1 c, .int .i64 x] 29))).next (box _ (Obj.cells #[.bool false, .slice none 0 0, .int .i64 0] 29)))
  clear h
  go_enter Tryd.func62, Tryd.ntmps62
  go_wp2_with fail
  refine (clone_1 G o n c _ H.out).mono ?_
  rintro e w1 ⟨⟨G', c', rfl, h3, hc', hG⟩, h1⟩
  have hG1 : w.heap.size + 1 < G' := Nat.lt_of_lt_of_le (blk_lt R.out.blk1) hG
  have R := Lib.hid (R.out.next h1)
  have z0 := R.out.z0
  have z1 := R.out.z1
  have z2 := R.out.z2
  have fz1 := blk_frozen R.out.blk0 1
  have y0 := R.out.res.c0
  have y1 := R.out.res.c1
  have y2 := R.out.res.c2
  have fy0 := blk_frozen R.out.blk1 0
  have fy1 := blk_frozen R.out.blk1 1
  have fy2 := blk_frozen R.out.blk1 2
  have H3 := Lib.hid (And.intro h3 (And.intro hc' hG1))
  clear h1 h3 hc' hG hG1
  go_wp2_with fail
  have R1 := (R.out.set1 (.slice (some ⟨G', 0, none⟩) 1 c')).res.put (.bool neg) (.slice (some ⟨G', 0, none⟩) 1 c') (.int .i64 x)
  have k0 := R1.c0
  have k1 := R1.c1
  have k2 := R1.c2
  refine bodyPost_ret (v := .agg #[.bool neg, .slice (some ⟨G', 0, none⟩) 1 c', .int .i64 x]) (by simp [results, Tryd.results62, go_sem, k0, k1, k2]; try rfl) rfl ?_
  have hG1 := H3.out.2.2
  exact ⟨⟨G', c', rfl, at1_set (at1_put H3.out.1 (by omega) 1 _) (by omega) _ _ _, H3.out.2.1, by omega⟩, R1.below⟩
theorem form_ev (neg : Bool) (n : Nat) (x : Int) (hn : n % 2 = 1) (h64 : n < 18446744073709551616) (hx : -1000000 ≤ x) (hx2 : x ≤ 1000000) : Ev (fun k => PNeg.dyadic_Form.f k neg [(n : Int)] x) true := by
  unfold PNeg.dyadic_Form.f
  have e1 : PNeg.num_Form.f neg [(n : Int)] = some true := by
    have e0 : PNeg.nat_Form.f [(n : Int)] = some true := by
      unfold PNeg.nat_Form.f
      have hne : ((n : Int) != 0) = true := by simp; omega
      have hr : rd [(n : Int)] 0 = (n : Int) := rfl
      have hw : wrap64 (((([(n : Int)] : List Int).length : Nat) : Int) - 1) = 0 := w64 (x := (((1 : Nat) : Int) - 1)) (by omega) (by omega)
      rw [hw, hr, if_pos (by simp), if_neg (by simp), if_pos (by decide), if_pos (by simp), hne]
    unfold PNeg.num_Form.f
    rw [e0]
    cases neg <;> rfl
  rw [e1]
  simp only [Option.bind_some, if_true]
  refine Ev.congr (fun k => if_neg (by omega)) ?_
  refine Ev.step (f := fun _ => some true) (fun k => ?_) (Ev.now _)
  rw [PNeg.dyadic_Form.j0, if_neg (by simp; omega)]
  have e2 : PNeg.dyadic_nought.f neg [(n : Int)] x = some false := rfl
  rw [e2]
  simp only [Option.bind_some]
  rw [if_neg (by decide), if_pos (by simp)]
  have hr : rd [(n : Int)] 0 = (n : Int) := rfl
  have hb : Go.bits .and .u64 (n : Int) 1 = 1 := by
    have := u64_and_nat n 1 (by omega) (by decide)
    rw [Nat.and_one_is_mod, hn] at this
    exact this
  rw [hr, hb]
  rfl
theorem Two.put0 {W w : World} {g : Nat} {a b c d e f : Value} (h : Two W w g a b c d e f) (x y z : Value) : Two W (((w.setCell ⟨g, 0, none⟩ x).setCell ⟨g, 1, none⟩ y).setCell ⟨g, 2, none⟩ z) g x y z d e f := ((h.set0 x).set1 y).set2 z
set_option maxRecDepth 100000 in
set_option maxHeartbeats 2000000 in
theorem neg_1 (neg : Bool) (x : Int) (G n c : Nat) (w : World) (h : At1 w G 0 n) (hc : 1 ≤ c) (hn : n % 2 = 1) (h64 : n < 18446744073709551616) (hx : -1000000 ≤ x) (hx2 : x ≤ 1000000) : Calls Tryd.prog 28 #[.agg #[.bool neg, .slice (some ⟨G, 0, none⟩) 1 c, .int .i64 x]] w (DyE (!neg) [(n : Int)] x 0 w) := by
  obtain ⟨kf, hkf⟩ := (form_ev neg n x hn h64 hx hx2).rounds
  have R := Lib.hid (Two.new w (.bool neg) (.slice (some ⟨G, 0, none⟩) 1 c) (.int .i64 x))
  have H := Lib.hid ((h.next (box w (Obj.cells #[.bool neg, .slice (some ⟨G, 0, none⟩) 1 c, .int .i64 x] 29))).next (box _ (Obj.cells #[.bool false, .slice none 0 0, .int .i64 0] 29)))
  have HF := Lib.hid (fun w hr => PNeg.dyadic_Form.calls kf neg (some ⟨G, 0, none⟩) c [(n : Int)] x true w hr hc hkf)
  have HN := Lib.hid (fun w A c (hr : Kd.C (Kd.int .u64) w A [(n : Int)].length [(n : Int)]) hc => PNeg.dyadic_nought.calls neg A c [(n : Int)] x false w hr hc rfl)
  clear h hkf hn h64 hx hx2 hc
  cases neg
  · go_enter Tryd.func28, Tryd.ntmps28
    go_wp2_with fail
    refine (HF.out _ (one_C H.out)).mono ?_
    rintro e w1 ⟨rfl, hd⟩
    have R := Lib.hid (R.out.next hd)
    have H := Lib.hid (H.out.next hd)
    have z0 := R.out.z0
    have z1 := R.out.z1
    have z2 := R.out.z2
    clear hd
    go_wp2_with fail
    refine (twin_1 false x G 0 n c _ H.out).mono ?_
    rintro e w2 ⟨⟨G', c', rfl, h3, hc', hG⟩, h1⟩
    have hG1 : w.heap.size + 1 < G' := Nat.lt_of_lt_of_le (blk_lt R.out.blk1) hG
    have R := Lib.hid (R.out.next h1)
    have z0 := R.out.z0
    have z1 := R.out.z1
    have z2 := R.out.z2
    have fz0 := blk_frozen R.out.blk0 0
    have fz1 := blk_frozen R.out.blk0 1
    have fz2 := blk_frozen R.out.blk0 2
    have y0 := R.out.res.c0
    have y1 := R.out.res.c1
    have y2 := R.out.res.c2
    have fy0 := blk_frozen R.out.blk1 0
    have fy1 := blk_frozen R.out.blk1 1
    have fy2 := blk_frozen R.out.blk1 2
    have H3 := Lib.hid (And.intro h3 (And.intro hc' hG1))
    clear h1 h3 hc' hG hG1 H
    go_wp2_with fail
    have R := Lib.hid (R.out.put0 (.bool false) (.slice (some ⟨G', 0, none⟩) 1 c') (.int .i64 x))
    have H3 := Lib.hid (And.intro (at1_set (g := w.heap.size) H3.out.1 (by have := H3.out.2.2; omega) (.bool false) (.slice (some ⟨G', 0, none⟩) 1 c') (.int .i64 x)) H3.out.2)
    generalize ((w2.setCell ⟨w.heap.size, 0, none⟩ (.bool false)).setCell ⟨w.heap.size, 1, none⟩ (.slice (some ⟨G', 0, none⟩) 1 c')).setCell ⟨w.heap.size, 2, none⟩ (.int .i64 x) = w3 at *
    clear z0 z1 z2 fz0 fz1 fz2 y0 y1 y2 fy0 fy1 fy2
    refine (HN.out _ _ _ (one_C H3.out.1) H3.out.2.1).mono ?_
    rintro e w4 ⟨rfl, h1⟩
    have R := Lib.hid (R.out.next h1)
    have z0 := R.out.z0
    have z1 := R.out.z1
    have z2 := R.out.z2
    have fz0 := blk_frozen R.out.blk0 0
    have fz1 := blk_frozen R.out.blk0 1
    have fz2 := blk_frozen R.out.blk0 2
    have y0 := R.out.res.c0
    have y1 := R.out.res.c1
    have y2 := R.out.res.c2
    have fy0 := blk_frozen R.out.blk1 0
    have fy1 := blk_frozen R.out.blk1 1
    have fy2 := blk_frozen R.out.blk1 2
    have H3 := Lib.hid (And.intro (H3.out.1.next h1) H3.out.2)
    clear h1
    go_wp2_with fail
    have R1 := (R.out.set0 (.bool true)).res.put (.bool true) (.slice (some ⟨G', 0, none⟩) 1 c') (.int .i64 x)
    have k0 := R1.c0
    have k1 := R1.c1
    have k2 := R1.c2
    refine bodyPost_ret (v := .tuple #[.agg #[.bool true, .slice (some ⟨G', 0, none⟩) 1 c', .int .i64 x], .int .i64 0]) (by simp [results, Tryd.results28, go_sem, k0, k1, k2]; try rfl) rfl ?_
    have hG1 := H3.out.2.2
    exact ⟨⟨_, _, rfl, ⟨H3.out.2.1, one_C (at1_set (at1_put H3.out.1 (by omega) 0 _) (by omega) _ _ _)⟩⟩, R1.below⟩
  · go_enter Tryd.func28, Tryd.ntmps28
    go_wp2_with fail
    refine (HF.out _ (one_C H.out)).mono ?_
    rintro e w1 ⟨rfl, hd⟩
    have R := Lib.hid (R.out.next hd)
    have H := Lib.hid (H.out.next hd)
    have z0 := R.out.z0
    have z1 := R.out.z1
    have z2 := R.out.z2
    clear hd
    go_wp2_with fail
    refine (twin_1 true x G 0 n c _ H.out).mono ?_
    rintro e w2 ⟨⟨G', c', rfl, h3, hc', hG⟩, h1⟩
    have hG1 : w.heap.size + 1 < G' := Nat.lt_of_lt_of_le (blk_lt R.out.blk1) hG
    have R := Lib.hid (R.out.next h1)
    have z0 := R.out.z0
    have z1 := R.out.z1
    have z2 := R.out.z2
    have fz0 := blk_frozen R.out.blk0 0
    have fz1 := blk_frozen R.out.blk0 1
    have fz2 := blk_frozen R.out.blk0 2
    have y0 := R.out.res.c0
    have y1 := R.out.res.c1
    have y2 := R.out.res.c2
    have fy0 := blk_frozen R.out.blk1 0
    have fy1 := blk_frozen R.out.blk1 1
    have fy2 := blk_frozen R.out.blk1 2
    have H3 := Lib.hid (And.intro h3 (And.intro hc' hG1))
    clear h1 h3 hc' hG hG1 H
    go_wp2_with fail
    have R1 := ((((R.out.set0 (.bool true)).set1 (.slice (some ⟨G', 0, none⟩) 1 c')).set2 (.int .i64 x)).set0 (.bool false)).res.put (.bool false) (.slice (some ⟨G', 0, none⟩) 1 c') (.int .i64 x)
    have k0 := R1.c0
    have k1 := R1.c1
    have k2 := R1.c2
    refine bodyPost_ret (v := .tuple #[.agg #[.bool false, .slice (some ⟨G', 0, none⟩) 1 c', .int .i64 x], .int .i64 0]) (by simp [results, Tryd.results28, go_sem, k0, k1, k2]; try rfl) rfl ?_
    have hG1 := H3.out.2.2
    exact ⟨⟨_, _, rfl, ⟨H3.out.2.1, one_C (at1_set (at1_put (at1_put (at1_put (at1_put H3.out.1 (by omega) 0 _) (by omega) 1 _) (by omega) 2 _) (by omega) 0 _) (by omega) _ _ _)⟩⟩, R1.below⟩
end Go.Proofs.YthpnmkclboennaaDoor.BinNg2
