/- The program's Neg on nought; DocWord. No condition but words below 2^64. -/
import Derived.Test.YthpnmkclboennaaDoorKBinaryRejoinsBinNg2
import Derived.Test.YthpnmkclboennaaDoorKBinaryRejoinsPLibx2
import Derived.Test.YthpnmkclboennaaDoorKBinaryRejoinsPLibx3
namespace Go.Proofs.YthpnmkclboennaaDoor.BinNg3
open Go.RowKit Go.Proofs.YthpnmkclboennaaDoorW.PrintWords Go.Proofs.YthpnmkclboennaaDoorW.PrintMore Go.Proofs.YthpnmkclboennaaDoorW.PrintLast Go.Proofs.YthpnmkclboennaaDoor.Num Go.Proofs.YthpnmkclboennaaDoor.Ref Go.Proofs.YthpnmkclboennaaDoor.BinLaw Go.Proofs.YthpnmkclboennaaDoor.BinA Go.Proofs.YthpnmkclboennaaDoor.BinO2 Go.Proofs.YthpnmkclboennaaDoor.BinF Go.Proofs.YthpnmkclboennaaDoor.BinG Go.Proofs.YthpnmkclboennaaDoor.BinW Go.Proofs.YthpnmkclboennaaDoor.BinTab Go.Proofs.YthpnmkclboennaaDoor.BinM Go.Proofs.YthpnmkclboennaaDoor.BinM2 Go.Proofs.YthpnmkclboennaaDoor.BinV1 Go.Proofs.YthpnmkclboennaaDoor.BinS Go.Proofs.YthpnmkclboennaaDoor.BinS2 Go.Proofs.YthpnmkclboennaaDoor.BinNg Go.Proofs.YthpnmkclboennaaDoor.BinNg2
set_option maxRecDepth 100000 in
theorem twin_0 (w : World) : Calls Tryd.prog 62 #[.agg #[.bool false, .slice none 0 0, .int .i64 0]] w fun e w' => e = .returned (.agg #[.bool false, .slice none 0 0, .int .i64 0]) ∧ Below w.heap.size w w' := by
  have R := Lib.hid (Two.new w (.bool false) (.slice none 0 0) (.int .i64 0))
  go_enter Tryd.func62, Tryd.ntmps62
  go_wp2_with fail
  refine (clone_0 _).mono ?_
  rintro e w1 ⟨rfl, h1⟩
  have R := Lib.hid (R.out.next h1)
  have z0 := R.out.z0
  have z1 := R.out.z1
  have z2 := R.out.z2
  have fz1 := blk_frozen R.out.blk0 1
  have y0 := R.out.res.c0
  have y1 := R.out.res.c1
  have y2 := R.out.res.c2
  have fy0 := blk_frozen R.out.blk1 0
  have fy1 := blk_frozen R.out.blk1 1
  have fy2 := blk_frozen R.out.blk1 2
  clear h1
  go_wp2_with fail
  have R1 := (R.out.set1 (.slice none 0 0)).res.put (.bool false) (.slice none 0 0) (.int .i64 0)
  have k0 := R1.c0
  have k1 := R1.c1
  have k2 := R1.c2
  refine bodyPost_ret (v := .agg #[.bool false, .slice none 0 0, .int .i64 0]) (by simp [results, Tryd.results62, go_sem, k0, k1, k2]; try rfl) rfl ?_
  exact ⟨rfl, R1.below⟩
theorem nil_C (w : World) : Kd.C (Kd.int .u64) w none ([] : List Int).length [] := ⟨rfl, by decide, fun h => absurd h (by decide)⟩
theorem form0_ev : Ev (fun k => PNeg.dyadic_Form.f k false [] 0) true := by
  unfold PNeg.dyadic_Form.f
  have e1 : PNeg.num_Form.f false [] = some true := by decide +kernel
  rw [e1]
  simp only [Option.bind_some, if_true]
  refine Ev.congr (fun k => if_neg (by decide)) ?_
  exact Ev.step (f := fun _ => some true) (fun k => by rw [PNeg.dyadic_Form.j0]; rfl) (Ev.now _)
set_option maxRecDepth 100000 in
set_option maxHeartbeats 2000000 in
theorem neg_0 (w : World) : Calls Tryd.prog 28 #[.agg #[.bool false, .slice none 0 0, .int .i64 0]] w (DyE false [] 0 0 w) := by
  obtain ⟨kf, hkf⟩ := form0_ev.rounds
  have R := Lib.hid (Two.new w (.bool false) (.slice none 0 0) (.int .i64 0))
  have HF := Lib.hid (fun w => PNeg.dyadic_Form.calls kf false none 0 [] 0 true w (nil_C w) (Nat.le_refl _) hkf)
  have HN := Lib.hid (fun w => PNeg.dyadic_nought.calls false none 0 [] 0 true w (nil_C w) (Nat.le_refl _) rfl)
  clear hkf
  go_enter Tryd.func28, Tryd.ntmps28
  go_wp2_with fail
  refine (HF.out _).mono ?_
  rintro e w1 ⟨rfl, hd⟩
  have R := Lib.hid (R.out.next hd)
  have z0 := R.out.z0
  have z1 := R.out.z1
  have z2 := R.out.z2
  clear hd
  go_wp2_with fail
  refine (twin_0 _).mono ?_
  rintro e w2 ⟨rfl, h1⟩
  have R := Lib.hid (R.out.next h1)
  have z0 := R.out.z0
  have z1 := R.out.z1
  have z2 := R.out.z2
  have fz0 := blk_frozen R.out.blk0 0
  have fz1 := blk_frozen R.out.blk0 1
  have fz2 := blk_frozen R.out.blk0 2
  have y0 := R.out.res.c0
  have y1 := R.out.res.c1
  have y2 := R.out.res.c2
  have fy0 := blk_frozen R.out.blk1 0
  have fy1 := blk_frozen R.out.blk1 1
  have fy2 := blk_frozen R.out.blk1 2
  clear h1
  go_wp2_with fail
  have R := Lib.hid (R.out.put0 (.bool false) (.slice none 0 0) (.int .i64 0))
  generalize ((w2.setCell ⟨w.heap.size, 0, none⟩ (.bool false)).setCell ⟨w.heap.size, 1, none⟩ (.slice none 0 0)).setCell ⟨w.heap.size, 2, none⟩ (.int .i64 0) = w3 at *
  clear z0 z1 z2 fz0 fz1 fz2 y0 y1 y2 fy0 fy1 fy2
  refine (HN.out _).mono ?_
  rintro e w4 ⟨rfl, h1⟩
  have R := Lib.hid (R.out.next h1)
  have z0 := R.out.z0
  have z1 := R.out.z1
  have z2 := R.out.z2
  have fz0 := blk_frozen R.out.blk0 0
  have fz1 := blk_frozen R.out.blk0 1
  have fz2 := blk_frozen R.out.blk0 2
  have y0 := R.out.res.c0
  have y1 := R.out.res.c1
  have y2 := R.out.res.c2
  have fy0 := blk_frozen R.out.blk1 0
  have fy1 := blk_frozen R.out.blk1 1
  have fy2 := blk_frozen R.out.blk1 2
  clear h1
  go_wp2_with fail
  have R1 := (R.out.set0 (.bool false)).res.put (.bool false) (.slice none 0 0) (.int .i64 0)
  have k0 := R1.c0
  have k1 := R1.c1
  have k2 := R1.c2
  refine bodyPost_ret (v := .tuple #[.agg #[.bool false, .slice none 0 0, .int .i64 0], .int .i64 0]) (by simp [results, Tryd.results28, go_sem, k0, k1, k2]; try rfl) rfl ?_
  exact ⟨⟨none, 0, rfl, ⟨Nat.le_refl _, nil_C _⟩⟩, R1.below⟩
structure DyP (w : World) (A : Option Addr) (c : Nat) (neg : Bool) (l : List Int) (x : Int) : Prop where mk :: (nil : l = [] → A = none ∧ c = 0 ∧ neg = false ∧ x = 0) (one : l ≠ [] → ∃ G n : Nat, A = some ⟨G, 0, none⟩ ∧ c = 1 ∧ l = [(n : Int)] ∧ At1 w G 0 n ∧ n % 2 = 1 ∧ n < 18446744073709551616) (lo : -1000000 ≤ x) (hi : x ≤ 1000000)
theorem neg_any {A : Option Addr} {c : Nat} (neg : Bool) (l : List Int) (x : Int) (w : World) (h : DyP w A c neg l x) : Calls Tryd.prog 28 #[.agg #[.bool neg, .slice A l.length c, .int .i64 x]] w (DyE (!neg && decide (l ≠ [])) l x 0 w) := by
  by_cases e : l = []
  · obtain ⟨rfl, rfl, rfl, rfl⟩ := h.nil e
    subst e
    exact neg_0 w
  · obtain ⟨G, n, rfl, rfl, rfl, h1, h2, h3⟩ := h.one e
    rw [decide_eq_true e, Bool.and_true]
    exact neg_1 neg x G n 1 w h1 (Nat.le_refl _) h2 h3 h.lo h.hi
theorem docword (n : Nat) (hn : n < 18446744073709551616) (w : World) : Calls Tryd.prog 27 #[.int .u64 n] w fun e w' => (∃ A c, e = .returned (.slice A (lm n).length c) ∧ (lm n).length ≤ c ∧ Kd.C (Kd.int .u64) w' A (lm n).length (lm n)) ∧ Below w.heap.size w w' := by
  have hl : (dg n).length < 1099511627776 := by
    have e64 : (2 : Nat)^64 = 18446744073709551616 := by decide
    have := dg_len_bits (n := n) (k := 64) (by rw [e64]; exact hn) (by decide)
    omega
  have hw := word_ev (n : Int) (by omega) (by omega)
  rw [Int.toNat_natCast] at hw
  obtain ⟨k1, hk1⟩ := hw.rounds
  obtain ⟨k2, hk2⟩ := (to_ev n hl).rounds
  have HW := Lib.hid (fun w => PLib.gnomonref01_Word.calls k1 _ _ w hk1)
  have HT := Lib.hid (fun w A c hr hc => PLib.gnomonref01_To.calls k2 A c _ _ w hr hc hk2)
  clear hk1 hk2 hw hl hn
  go_enter Tryd.func27, Tryd.ntmps27
  go_wp2_with fail
  refine (HW.out _).mono ?_
  rintro e w1 ⟨v, rfl, hr, h1⟩
  obtain ⟨A, c, rfl, hc, hC⟩ := Kd.R_reads hr
  have HC := Lib.hid (And.intro hc hC)
  have HB := Lib.hid h1
  clear hr hc hC h1
  go_wp2_with fail
  refine (HT.out _ _ _ HC.out.2 HC.out.1).mono ?_
  rintro e w2 ⟨v, rfl, hr, h1⟩
  obtain ⟨A2, c2, rfl, hc, hC⟩ := Kd.R_reads hr
  have HC := Lib.hid (And.intro hc hC)
  have HB := Lib.hid (on HB.out h1)
  clear hr hc hC h1
  go_wp2_with fail
  go_ret
  exact ⟨⟨_, _, rfl, HC.out.1, HC.out.2⟩, HB.out⟩
end Go.Proofs.YthpnmkclboennaaDoor.BinNg3
