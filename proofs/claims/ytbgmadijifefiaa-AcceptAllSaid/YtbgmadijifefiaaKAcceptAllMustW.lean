/- The contract of the reference's Must. Conditions: the margin's exponent from -100 to -56. -/
import Derived.Test.YtbgmadijifefiaaKAcceptAllSoundW
import Derived.Test.YtbgmadijifefiaaKAcceptAllRegionInv
namespace Go.Proofs.Ytbgmadijifefiaa.MustW
open Go.RowKit Go.Proofs.YtbgmadijifefiaaW.PrintWords Go.Proofs.YtbgmadijifefiaaW.PrintMore Go.Proofs.YtbgmadijifefiaaW.PrintLast Go.Proofs.Ytbgmadijifefiaa.Num Go.Proofs.Ytbgmadijifefiaa.PLib Go.Proofs.Ytbgmadijifefiaa.Ref Go.Proofs.Ytbgmadijifefiaa.ZCalls Go.Proofs.Ytbgmadijifefiaa.InCell Go.Proofs.Ytbgmadijifefiaa.SoundW Go.Proofs.Ytbgmadijifefiaa.RegInv Fl
def IsZ (w : World) (t : Value) (z : Int) : Prop := ∃ A c, t = .agg #[.bool (zn z), .slice A (zl z).length c] ∧ Kd.R (Kd.int .u32) 83 w 0 (fun _ => True) (.slice A (zl z).length c) (zl z)
theorem IsZ.next {w w' : World} {t : Value} {z : Int} (h : IsZ w t z) (d : Below w.heap.size w w') : IsZ w' t z := by
 obtain ⟨A, c, h1, h2⟩ := h
 exact ⟨A, c, h1, Kd.R_below h2 d⟩
theorem IsZ.far {w : World} {t : Value} {z : Int} {g : Nat} {cs : Array Value} (h : IsZ w t z) (hb : w.heap[g]? = some (.cells cs 38 (0, 0))) (i : Nat) (u : Value) : IsZ (w.setCell ⟨g, i, none⟩ u) t z := by
 obtain ⟨A, c, h1, h2⟩ := h
 exact ⟨A, c, h1, Kd.R_set h2 hb (by decide) i u⟩
theorem zarg_of {w : World} {A : Option Addr} {c : Nat} {z : Int} (h : Kd.R (Kd.int .u32) 83 w 0 (fun _ => True) (.slice A (zl z).length c) (zl z)) : ZArg w A c z := by
 obtain ⟨_, h1, h2⟩ := Kd.R_reads' h
 exact ⟨h1, h2⟩
structure TwoR (W w : World) (gV gO : Nat) (v o : Int) (A4 A2 : Option Addr) (c4 c2 : Nat) : Prop where
 mk :: (below : Below W.heap.size W w) (b1 : w.heap[gV]? = some (.cells #[.bool (zn v), .slice A4 (zl v).length c4] 38 (0, 0))) (b2 : w.heap[gO]? = some (.cells #[.bool (zn o), .slice A2 (zl o).length c2] 38 (0, 0))) (r1 : Kd.R (Kd.int .u32) 83 w 0 (fun _ => True) (.slice A4 (zl v).length c4) (zl v)) (r2 : Kd.R (Kd.int .u32) 83 w 0 (fun _ => True) (.slice A2 (zl o).length c2) (zl o))
theorem TwoR.next {W w w' : World} {gV gO : Nat} {v o : Int} {A4 A2 : Option Addr} {c4 c2 : Nat} (h : TwoR W w gV gO v o A4 A2 c4 c2) (d : Below w.heap.size w w') : TwoR W w' gV gO v o A4 A2 c4 c2 :=
 ⟨on h.below d, blk_below h.b1 d, blk_below h.b2 d, Kd.R_below h.r1 d, Kd.R_below h.r2 d⟩
theorem rcells {W w : World} {gV gO : Nat} {v o : Int} {A4 A2 : Option Addr} {c4 c2 : Nat} (h : TwoR W w gV gO v o A4 A2 c4 c2) :
  w.cell? ⟨gV, 0, none⟩ = some (.bool (zn v)) ∧ w.cell? ⟨gV, 1, none⟩ = some (.slice A4 (zl v).length c4) ∧ w.cell? ⟨gO, 0, none⟩ = some (.bool (zn o)) ∧ w.cell? ⟨gO, 1, none⟩ = some (.slice A2 (zl o).length c2) :=
 ⟨(blk_cell h.b1 0).trans rfl, (blk_cell h.b1 1).trans rfl, (blk_cell h.b2 0).trans rfl, (blk_cell h.b2 1).trans rfl⟩
structure Fresh (W w : World) (gV gO g : Nat) : Prop where
 mk :: (le : W.heap.size ≤ g) (lt : g < w.heap.size) (nV : gV ≠ g) (nO : gO ≠ g)
theorem Fresh.next {W w w' : World} {gV gO g : Nat} (h : Fresh W w gV gO g) (d : Below w.heap.size w w') : Fresh W w' gV gO g := ⟨h.le, Nat.lt_of_lt_of_le h.lt d.size, h.nV, h.nO⟩
theorem fresh_new {W w : World} {gV gO : Nat} {v o : Int} {A4 A2 : Option Addr} {c4 c2 : Nat} {ob : Obj} (h : TwoR W w gV gO v o A4 A2 c4 c2) : Fresh W (w.alloc ob) gV gO w.heap.size :=
 ⟨h.below.size, by simp, Nat.ne_of_lt (blk_lt h.b1), Nat.ne_of_lt (blk_lt h.b2)⟩
theorem TwoR.far {W w : World} {gV gO g : Nat} {v o : Int} {A4 A2 : Option Addr} {c4 c2 : Nat} {cs : Array Value} (h : TwoR W w gV gO v o A4 A2 c4 c2) (f : Fresh W w gV gO g) (hb : w.heap[g]? = some (.cells cs 38 (0, 0))) (i : Nat) (u : Value) : TwoR W (w.setCell ⟨g, i, none⟩ u) gV gO v o A4 A2 c4 c2 :=
 ⟨h.below.setCell f.le u, blk_far h.b1 f.nV u, blk_far h.b2 f.nO u, Kd.R_set h.r1 hb (by decide) i u, Kd.R_set h.r2 hb (by decide) i u⟩
def mustT : List (List Nat × List Nat) := [([], []), ([], []), ([], []), ([1, 2, 2], [1, 2]), ([0, 3, 3], [0, 3]), ([], []), ([], []), ([4], []), ([6, 7, 7], [6, 7]), ([5, 8, 8], [5, 8]), ([], []), ([], []), ([10, 4, 9, 0, 1, 2, 3, 4, 10, 11], [4, 10]), ([11, 9, 12, 0, 1, 2, 3, 4, 5, 6, 7, 8, 9, 10, 11, 12], [9, 11])]
theorem readyAt_lt {l : List Bool} {i : Nat} (h : readyAt mustT l i = true) : i < 14 := by
 by_cases c : i < 14
 ·exact c
 ·unfold readyAt at h
  rw [List.getElem?_eq_none (by show 14 ≤ i; omega)] at h
  simp at h
def mact (x y k : Nat) (gV gO : Nat) (v o : Int) (A1 A4 A2 : Option Addr) (c1 c4 c2 : Nat) (t20 t21 t22 t23 t24 t25 t26 t27 t28 t29 t9 t10 : Value) : Act :=
 { tmps := #[.int .u64 (x : Int), .int .u64 (y : Int), .int .i64 (-((k : Int) + 1)), undef, undef, undef, .bool false, .pointer (some ⟨gO, 0, none⟩), .pointer (some ⟨gV, 0, none⟩), t9, t10, undef, .int .i64 (-((k : Int) + 1)), .int .i64 ((k : Int) + 1), .int .i64 (k : Int), .slice A1 (zl o).length c1, .agg #[.bool (zn o), .slice A2 (zl o).length c2], .int .u64 (x : Int), .int .u64 (y : Int), .agg #[.bool (zn v), .slice A4 (zl v).length c4], t20, t21, t22, t23, t24, t25, t26, t27, t28, t29, undef, undef, undef, undef, undef, undef, undef, undef, undef, undef, undef, undef], defers := [] }
structure MF (W : World) (gV gO : Nat) (v o : Int) (A4 A2 : Option Addr) (c4 c2 : Nat) (w : World) (b0 b1 b2 b3 b4 b5 b6 b7 b8 b9 b10 b11 b12 b13 : Bool) (t20 t21 t22 t23 t24 t25 t26 t27 t28 t29 t9 t10 : Value) (g9 g10 : Nat) : Prop where
 mk :: (two : TwoR W w gV gO v o A4 A2 c4 c2) (f0 : b0 = true → t20 = .agg #[.bool (zn v), .slice A4 (zl v).length c4]) (f1 : b1 = true → t21 = .agg #[.bool (zn o), .slice A2 (zl o).length c2]) (f2 : b2 = true → IsZ w t22 1) (f3 : b3 = true → IsZ w t23 (o - 1)) (f4 : b4 = true → IsZ w t24 (v * (o - 1))) (f5 : b5 = true → t25 = .agg #[.bool (zn v), .slice A4 (zl v).length c4]) (f6 : b6 = true → t26 = .agg #[.bool (zn o), .slice A2 (zl o).length c2]) (f7 : b7 = true → IsZ w t27 1) (f8 : b8 = true → IsZ w t28 (o + 1)) (f9 : b9 = true → IsZ w t29 (v * (o + 1))) (n9 : b10 = true → t9 = .pointer (some ⟨g9, 0, none⟩) ∧ Fresh W w gV gO g9 ∧ (b12 = false → w.heap[g9]? = some (.cells #[.bool false, .slice none 0 0] 38 (0, 0))) ∧ (b12 = true → ZB w g9 (v * (o - 1)))) (n10 : b11 = true → t10 = .pointer (some ⟨g10, 0, none⟩) ∧ Fresh W w gV gO g10 ∧ (b13 = false → w.heap[g10]? = some (.cells #[.bool false, .slice none 0 0] 38 (0, 0))) ∧ (b13 = true → ZB w g10 (v * (o + 1)))) (ne : b10 = true → b11 = true → g9 ≠ g10) (l9 : b12 = true → b10 = true) (l10 : b13 = true → b11 = true)
theorem MF.next {W w w' : World} {gV gO : Nat} {v o : Int} {A4 A2 : Option Addr} {c4 c2 : Nat} {b0 b1 b2 b3 b4 b5 b6 b7 b8 b9 b10 b11 b12 b13 : Bool} {t20 t21 t22 t23 t24 t25 t26 t27 t28 t29 t9 t10 : Value} {g9 g10 : Nat} (h : MF W gV gO v o A4 A2 c4 c2 w b0 b1 b2 b3 b4 b5 b6 b7 b8 b9 b10 b11 b12 b13 t20 t21 t22 t23 t24 t25 t26 t27 t28 t29 t9 t10 g9 g10) (d : Below w.heap.size w w') : MF W gV gO v o A4 A2 c4 c2 w' b0 b1 b2 b3 b4 b5 b6 b7 b8 b9 b10 b11 b12 b13 t20 t21 t22 t23 t24 t25 t26 t27 t28 t29 t9 t10 g9 g10 :=
 ⟨h.two.next d, h.f0, h.f1, (fun b => (h.f2 b).next d), (fun b => (h.f3 b).next d), (fun b => (h.f4 b).next d), h.f5, h.f6, (fun b => (h.f7 b).next d), (fun b => (h.f8 b).next d), (fun b => (h.f9 b).next d), (fun b => ⟨(h.n9 b).1, (h.n9 b).2.1.next d, fun c => blk_below ((h.n9 b).2.2.1 c) d, fun c => ((h.n9 b).2.2.2 c).next d⟩), (fun b => ⟨(h.n10 b).1, (h.n10 b).2.1.next d, fun c => blk_below ((h.n10 b).2.2.1 c) d, fun c => ((h.n10 b).2.2.2 c).next d⟩), h.ne, h.l9, h.l10⟩
theorem MF.st12 {W w : World} {gV gO : Nat} {v o : Int} {A4 A2 Ax : Option Addr} {c4 c2 cx : Nat} {b0 b1 b2 b3 b4 b5 b6 b7 b8 b9 b10 b11 b13 : Bool} {t20 t21 t22 t23 t24 t25 t26 t27 t28 t29 t10 : Value} {g9 g10 : Nat} (h : MF W gV gO v o A4 A2 c4 c2 w b0 b1 b2 b3 b4 b5 b6 b7 b8 b9 b10 b11 false b13 t20 t21 t22 t23 t24 t25 t26 t27 t28 t29 (.pointer (some ⟨g9, 0, none⟩)) t10 g9 g10) (hb10 : b10 = true) (hb11 : b11 = true) (hblk : w.heap[g9]? = some (.cells #[.bool false, .slice none 0 0] 38 (0, 0))) (hx : Kd.R (Kd.int .u32) 83 w 0 (fun _ => True) (.slice Ax (zl (v * (o - 1))).length cx) (zl (v * (o - 1)))) :
  MF W gV gO v o A4 A2 c4 c2 ((w.setCell ⟨g9, 0, none⟩ (.bool (zn (v * (o - 1))))).setCell ⟨g9, 1, none⟩ (.slice Ax (zl (v * (o - 1))).length cx)) b0 b1 b2 b3 b4 b5 b6 b7 b8 b9 b10 b11 true b13 t20 t21 t22 t23 t24 t25 t26 t27 t28 t29 (.pointer (some ⟨g9, 0, none⟩)) t10 g9 g10 := by
 have fr := (h.n9 hb10).2.1
 have hb1 := blk_set hblk 0 (.bool (zn (v * (o - 1))))
 have sz : ((w.setCell ⟨g9, 0, none⟩ (.bool (zn (v * (o - 1))))).setCell ⟨g9, 1, none⟩ (.slice Ax (zl (v * (o - 1))).length cx)).heap.size = w.heap.size := by simp [World.setCell]
 exact ⟨(h.two.far fr hblk 0 _).far ⟨fr.le, by simpa [World.setCell] using fr.lt, fr.nV, fr.nO⟩ hb1 1 _, h.f0, h.f1, (fun b => ((h.f2 b).far hblk 0 _).far hb1 1 _), (fun b => ((h.f3 b).far hblk 0 _).far hb1 1 _), (fun b => ((h.f4 b).far hblk 0 _).far hb1 1 _), h.f5, h.f6, (fun b => ((h.f7 b).far hblk 0 _).far hb1 1 _), (fun b => ((h.f8 b).far hblk 0 _).far hb1 1 _), (fun b => ((h.f9 b).far hblk 0 _).far hb1 1 _), (fun _ => ⟨rfl, ⟨fr.le, by rw [sz]; exact fr.lt, fr.nV, fr.nO⟩, fun c => (by cases c), fun _ => ZB.put hblk hx⟩), (fun b => ⟨(h.n10 b).1, ⟨(h.n10 b).2.1.le, by rw [sz]; exact (h.n10 b).2.1.lt, (h.n10 b).2.1.nV, (h.n10 b).2.1.nO⟩, fun c => blk_far (blk_far ((h.n10 b).2.2.1 c) (h.ne hb10 hb11).symm _) (h.ne hb10 hb11).symm _, fun c => (((h.n10 b).2.2.2 c).far (h.ne hb10 hb11).symm hblk 0 _).far (h.ne hb10 hb11).symm hb1 1 _⟩), h.ne, (fun _ => hb10), h.l10⟩
theorem MF.st13 {W w : World} {gV gO : Nat} {v o : Int} {A4 A2 Ax : Option Addr} {c4 c2 cx : Nat} {b0 b1 b2 b3 b4 b5 b6 b7 b8 b9 b10 b11 b12 : Bool} {t20 t21 t22 t23 t24 t25 t26 t27 t28 t29 t9 : Value} {g9 g10 : Nat} (h : MF W gV gO v o A4 A2 c4 c2 w b0 b1 b2 b3 b4 b5 b6 b7 b8 b9 b10 b11 b12 false t20 t21 t22 t23 t24 t25 t26 t27 t28 t29 t9 (.pointer (some ⟨g10, 0, none⟩)) g9 g10) (hb10 : b10 = true) (hb11 : b11 = true) (hblk : w.heap[g10]? = some (.cells #[.bool false, .slice none 0 0] 38 (0, 0))) (hx : Kd.R (Kd.int .u32) 83 w 0 (fun _ => True) (.slice Ax (zl (v * (o + 1))).length cx) (zl (v * (o + 1)))) :
  MF W gV gO v o A4 A2 c4 c2 ((w.setCell ⟨g10, 0, none⟩ (.bool (zn (v * (o + 1))))).setCell ⟨g10, 1, none⟩ (.slice Ax (zl (v * (o + 1))).length cx)) b0 b1 b2 b3 b4 b5 b6 b7 b8 b9 b10 b11 b12 true t20 t21 t22 t23 t24 t25 t26 t27 t28 t29 t9 (.pointer (some ⟨g10, 0, none⟩)) g9 g10 := by
 have fr := (h.n10 hb11).2.1
 have hb1 := blk_set hblk 0 (.bool (zn (v * (o + 1))))
 have sz : ((w.setCell ⟨g10, 0, none⟩ (.bool (zn (v * (o + 1))))).setCell ⟨g10, 1, none⟩ (.slice Ax (zl (v * (o + 1))).length cx)).heap.size = w.heap.size := by simp [World.setCell]
 exact ⟨(h.two.far fr hblk 0 _).far ⟨fr.le, by simpa [World.setCell] using fr.lt, fr.nV, fr.nO⟩ hb1 1 _, h.f0, h.f1, (fun b => ((h.f2 b).far hblk 0 _).far hb1 1 _), (fun b => ((h.f3 b).far hblk 0 _).far hb1 1 _), (fun b => ((h.f4 b).far hblk 0 _).far hb1 1 _), h.f5, h.f6, (fun b => ((h.f7 b).far hblk 0 _).far hb1 1 _), (fun b => ((h.f8 b).far hblk 0 _).far hb1 1 _), (fun b => ((h.f9 b).far hblk 0 _).far hb1 1 _), (fun b => ⟨(h.n9 b).1, ⟨(h.n9 b).2.1.le, by rw [sz]; exact (h.n9 b).2.1.lt, (h.n9 b).2.1.nV, (h.n9 b).2.1.nO⟩, fun c => blk_far (blk_far ((h.n9 b).2.2.1 c) (h.ne hb10 hb11) _) (h.ne hb10 hb11) _, fun c => (((h.n9 b).2.2.2 c).far (h.ne hb10 hb11) hblk 0 _).far (h.ne hb10 hb11) hb1 1 _⟩), (fun _ => ⟨rfl, ⟨fr.le, by rw [sz]; exact fr.lt, fr.nV, fr.nO⟩, fun c => (by cases c), fun _ => ZB.put hblk hx⟩), h.ne, h.l9, (fun _ => hb11)⟩
def MI (W : World) (gV gO : Nat) (v o : Int) (A4 A2 : Option Addr) (c4 c2 : Nat) (x y k : Nat) (A1 : Option Addr) (c1 : Nat) (l : List Bool) (a : Act) (w : World) : Prop := ∃ b0 b1 b2 b3 b4 b5 b6 b7 b8 b9 b10 b11 b12 b13 : Bool, ∃ t20 t21 t22 t23 t24 t25 t26 t27 t28 t29 t9 t10 : Value, ∃ g9 g10 : Nat, l = [b0, b1, b2, b3, b4, b5, b6, b7, b8, b9, b10, b11, b12, b13] ∧ a = mact x y k gV gO v o A1 A4 A2 c1 c4 c2 t20 t21 t22 t23 t24 t25 t26 t27 t28 t29 t9 t10 ∧ MF W gV gO v o A4 A2 c4 c2 w b0 b1 b2 b3 b4 b5 b6 b7 b8 b9 b10 b11 b12 b13 t20 t21 t22 t23 t24 t25 t26 t27 t28 t29 t9 t10 g9 g10
def MustP (x y k r : Nat) : Prop := InC ((U x + U y) * (((2^k : Nat) : Int) - 1)) ((2^k : Nat) : Int) r ∧ InC ((U x + U y) * (((2^k : Nat) : Int) + 1)) ((2^k : Nat) : Int) r
def MustR (x y k r : Nat) (w : World) (e : Ending) (w' : World) : Prop := ∃ c : Bool, (c = true ↔ MustP x y k r) ∧ e = .returned (.bool c) ∧ Below w.heap.size w w'
theorem rpat_nat (v : Int) : ∃ r : Nat, rpat 0 v = (r : Int) ∧ r < 18446744073709551616 := by
 have hI : INF = 9218868437227405312 := by decide
 have hm := Nat.min_le_right (rung 0 v.natAbs) INF
 unfold rpat
 split
 ·exact ⟨min (rung 0 v.natAbs) INF + 9223372036854775808, by omega, by omega⟩
 ·exact ⟨min (rung 0 v.natAbs) INF, by omega, by omega⟩
structure Bdm (v o : Int) (p : Nat) : Prop where mk :: (lim : p ≤ 4000) (v : v.natAbs < 2^p) (o1 : (o + 1).natAbs < 2^p) (o2 : (o - 1).natAbs < 2^p) (o : o.natAbs < 2^p)
theorem bdm {x y n : Nat} (hx : x < 18446744073709551616) (hy : y < 18446744073709551616) (hn : n ≤ 101) : ∃ p, Bdm (U x + U y) ((2^n : Nat) : Int) p := by
 obtain ⟨N, hN⟩ : ∃ N, N = 2101 := ⟨_, rfl⟩
 have h := two_2102 hN hx hy
 have h1 : 2^(N + 1) ≤ 2^(N + 1 + n) := Nat.pow_le_pow_right (by decide) (by omega)
 have h0 : 2^n < 2^(N + 1 + n) := Nat.pow_lt_pow_right (by decide) (by omega)
 have h2 : 2^(n + 1) ≤ 2^(N + 1 + n) := Nat.pow_le_pow_right (by decide) (by omega)
 have h3 := Nat.two_pow_pos n
 have h4 : 2^(n + 1 + 1) ≤ 2^(N + 1 + n) := Nat.pow_le_pow_right (by decide) (by omega)
 rw [Nat.pow_succ] at h2
 rw [Nat.pow_succ, Nat.pow_succ] at h4
 exact ⟨N + 1 + n, ⟨by omega, by omega, by omega, by omega, by omega⟩⟩
theorem mb_of {v o : Int} {p : Nat} (h : Bdm v o p) : Zs v ∧ Zs (o - 1) ∧ Zs (o + 1) ∧ Zs (v * (o - 1)) ∧ Zs (v * (o + 1)) :=
 ⟨Zs_p (by have := h.lim; omega) h.v, Zs_p (by have := h.lim; omega) h.o2, Zs_p (by have := h.lim; omega) h.o1, Zs_p (p := p + p) (by have := h.lim; omega) (mul_bd h.v h.o2), Zs_p (p := p + p) (by have := h.lim; omega) (mul_bd h.v h.o1)⟩
theorem wide {z : Int} {p : Nat} (h : z.natAbs < 2^p) : z.natAbs < 2^(p + p) := Nat.lt_of_lt_of_le h (Nat.pow_le_pow_right (by decide) (by omega))
set_option maxRecDepth 100000 in
set_option maxHeartbeats 4000000 in
theorem must_any (x y k : Nat) (hx : x < 18446744073709551616) (hy : y < 18446744073709551616) (hk : k ≤ 100) (w : World) (r : Nat) (hr : rpat 0 (U x + U y) = (r : Int)) (hrl : r < 18446744073709551616) :
  Calls Try.prog 42 #[.int .u64 (x : Int), .int .u64 (y : Int), .int .i64 (-((k : Int) + 1))] w (MustR x y k r w) := by
 have hu38 := Try.underlying38
 obtain ⟨p, hB⟩ := bdm hx hy (show k ≤ 101 by omega)
 obtain ⟨m, hm⟩ : ∃ m : Nat, m = 2^k := ⟨_, rfl⟩
 have hP : MustP x y k r ↔ InC ((U x + U y) * ((m : Int) - 1)) (m : Int) r ∧ InC ((U x + U y) * ((m : Int) + 1)) (m : Int) r := by rw [hm]; rfl
 rw [← hm] at hB
 have HP := Lib.hid hP
 have HR := Lib.hid hr
 have HRL := Lib.hid hrl
 clear hP hr hrl
 have HM := Lib.hid hm
 have HBD := Lib.hid hB
 have HXY := Lib.hid (And.intro hx hy)
 clear hx hy hB hm
 go_enter Try.func42, Try.ntmps42
 go_wp2_with fail
 refine (pow2_at _ k m (by omega) HM.out).mono ?_
 rintro e1 w1 ⟨A1, c1, rfl, hz, hd⟩
 have HZ := Lib.hid hz
 have HB := Lib.hid hd
 clear hz hd
 go_wp2_with fail
 refine (mk_any _ m (Zs_p (p := p) (by have := HBD.out.lim; omega) HBD.out.o) HZ.out).mono ?_
 rintro e2 w2 ⟨A2, c2, rfl, _, hzr, hd⟩
 have HB := Lib.hid (on HB.out hd)
 have HO := Lib.hid (Kd.R_lower hzr (Nat.zero_le _))
 clear hzr hd HZ
 go_wp2_with fail
 have HO1 : Hid (Below w.heap.size w (w2.alloc (Obj.cells #[.bool (zn (m : Int)), .slice A2 (zl (m : Int)).length c2] 38)) ∧ (w2.alloc (Obj.cells #[.bool (zn (m : Int)), .slice A2 (zl (m : Int)).length c2] 38)).heap[w2.heap.size]? = some (.cells #[.bool (zn (m : Int)), .slice A2 (zl (m : Int)).length c2] 38 (0, 0)) ∧ Kd.R (Kd.int .u32) 83 (w2.alloc (Obj.cells #[.bool (zn (m : Int)), .slice A2 (zl (m : Int)).length c2] 38)) 0 (fun _ => True) (.slice A2 (zl (m : Int)).length c2) (zl (m : Int))) :=
  Lib.hid ⟨on HB.out (alloc_below _ _), blk_new _ _, Kd.R_below HO.out (alloc_below _ _)⟩
 clear HB HO
 generalize (w2.alloc (Obj.cells #[.bool (zn (m : Int)), .slice A2 (zl (m : Int)).length c2] 38)) = w3 at *
 generalize w2.heap.size = gO at *
 refine (sum25_any _ x y HXY.out.1 HXY.out.2 (Zs_word HXY.out.1) (Zs_word HXY.out.2) (Zs_two HXY.out.1 HXY.out.2)).mono ?_
 rintro e4 w4 ⟨A4, c4, rfl, _, hzr, hd⟩
 have HO1 := Lib.hid (And.intro (on HO1.out.1 hd) (And.intro (blk_below HO1.out.2.1 hd) (Kd.R_below HO1.out.2.2 hd)))
 have HZ := Lib.hid (Kd.R_lower hzr (Nat.zero_le _))
 clear hzr hd
 go_wp2_with fail
 have HT : Hid (TwoR w (w4.alloc (Obj.cells #[.bool (zn (U x + U y)), .slice A4 (zl (U x + U y)).length c4] 38)).drew w4.heap.size gO (U x + U y) (m : Int) A4 A2 c4 c2) := by
  have d := alloc_below w4 (Obj.cells #[.bool (zn (U x + U y)), .slice A4 (zl (U x + U y)).length c4] 38)
  have t : TwoR w (w4.alloc (Obj.cells #[.bool (zn (U x + U y)), .slice A4 (zl (U x + U y)).length c4] 38)) w4.heap.size gO (U x + U y) (m : Int) A4 A2 c4 c2 :=
   ⟨on HO1.out.1 d, blk_new _ _, blk_below HO1.out.2.1 d, Kd.R_below HZ.out d, Kd.R_below HO1.out.2.2 d⟩
  exact Lib.hid (t.next (Below.refl _ _).drew)
 clear HO1 HZ
 generalize (w4.alloc (Obj.cells #[.bool (zn (U x + U y)), .slice A4 (zl (U x + U y)).length c4] 38)) = w6 at *
 generalize w4.heap.size = gV at *
 generalize hv : U x + U y = v at *
 generalize ho : (m : Int) = o at *
 have HMB := Lib.hid (mb_of HBD.out)
 clear hv ho
 refine wp_region_inv (T := mustT) (by kernel_rfl) 14 rfl (by kernel_rfl) (by kernel_rfl) (MI w gV gO v o A4 A2 c4 c2 x y k A1 c1) ?_ ?_ ?_
 ·exact ⟨false, false, false, false, false, false, false, false, false, false, false, false, false, false, undef, undef, undef, undef, undef, undef, undef, undef, undef, undef, undef, undef, 0, 0, rfl, rfl, ⟨HT.out, (fun b => by cases b), (fun b => by cases b), (fun b => by cases b), (fun b => by cases b), (fun b => by cases b), (fun b => by cases b), (fun b => by cases b), (fun b => by cases b), (fun b => by cases b), (fun b => by cases b), (fun b => by cases b), (fun b => by cases b), (fun b => by cases b), (fun b => by cases b), (fun b => by cases b)⟩⟩
 ·intro l a ws i hI hr
  obtain ⟨b0, b1, b2, b3, b4, b5, b6, b7, b8, b9, b10, b11, b12, b13, t20, t21, t22, t23, t24, t25, t26, t27, t28, t29, t9, t10, g9, g10, rfl, rfl, h⟩ := hI
  have hi : i < 14 := readyAt_lt hr
  rcases (show i = 0 ∨ i = 1 ∨ i = 2 ∨ i = 3 ∨ i = 4 ∨ i = 5 ∨ i = 6 ∨ i = 7 ∨ i = 8 ∨ i = 9 ∨ i = 10 ∨ i = 11 ∨ i = 12 ∨ i = 13 by omega) with rfl | rfl | rfl | rfl | rfl | rfl | rfl | rfl | rfl | rfl | rfl | rfl | rfl | rfl
  ·unfold mact
   obtain ⟨k0, k1, k2, k3⟩ := rcells h.two
   refine wpOp_step rfl (fun K hK => ?_)
   refine value_ (w1 := ?_) (v := ?_) (by rfl) rfl ?_ ?_
   rotate_left 2
   ·go_simp
    constructor
    ·rfl
    ·rfl
   exact hK _ _ ⟨true, b1, b2, b3, b4, b5, b6, b7, b8, b9, b10, b11, b12, b13, _, _, _, _, _, _, _, _, _, _, _, _, _, _, rfl, rfl, ⟨h.two, (fun _ => rfl), h.f1, h.f2, h.f3, h.f4, h.f5, h.f6, h.f7, h.f8, h.f9, h.n9, h.n10, h.ne, h.l9, h.l10⟩⟩
  ·unfold mact
   obtain ⟨k0, k1, k2, k3⟩ := rcells h.two
   refine wpOp_step rfl (fun K hK => ?_)
   refine value_ (w1 := ?_) (v := ?_) (by rfl) rfl ?_ ?_
   rotate_left 2
   ·go_simp
    constructor
    ·rfl
    ·rfl
   exact hK _ _ ⟨b0, true, b2, b3, b4, b5, b6, b7, b8, b9, b10, b11, b12, b13, _, _, _, _, _, _, _, _, _, _, _, _, _, _, rfl, rfl, ⟨h.two, h.f0, (fun _ => rfl), h.f2, h.f3, h.f4, h.f5, h.f6, h.f7, h.f8, h.f9, h.n9, h.n10, h.ne, h.l9, h.l10⟩⟩
  ·unfold mact
   refine wpOp_step rfl (fun K hK => ?_)
   refine goes_ Try.func65 (by kernel_rfl) rfl #[.int .i64 1] (by rfl) rfl rfl (by (try simp only [List.map_toArray, List.map_cons, List.map_nil]); first | done | rfl) ?_
   with_reducible refine (of1_any _).mono ?_
   rintro e_ w' ⟨A, c, rfl, _, hzr, hd⟩
   refine ⟨_, rfl, ?_⟩
   have h' := h.next hd
   exact hK _ _ ⟨b0, b1, true, b3, b4, b5, b6, b7, b8, b9, b10, b11, b12, b13, _, _, _, _, _, _, _, _, _, _, _, _, _, _, rfl, rfl, ⟨h'.two, h'.f0, h'.f1, (fun _ => ⟨A, c, rfl, Kd.R_lower hzr (Nat.zero_le _)⟩), h'.f3, h'.f4, h'.f5, h'.f6, h'.f7, h'.f8, h'.f9, h'.n9, h'.n10, h'.ne, h'.l9, h'.l10⟩⟩
  ·unfold mact
   have hb1 : b1 = true := (by cases b1 with | true => rfl | false => exact absurd hr (by simp [readyAt, mustT]))
   have hb2 : b2 = true := (by cases b2 with | true => rfl | false => exact absurd hr (by simp [readyAt, mustT]))
   obtain rfl := h.f1 hb1
   obtain ⟨Ax, cx, rfl, hx⟩ := h.f2 hb2
   refine wpOp_step rfl (fun K hK => ?_)
   refine goes_ Try.func66 (by kernel_rfl) rfl #[.agg #[.bool (zn o), .slice A2 (zl o).length c2], .agg #[.bool (zn 1), .slice Ax (zl 1).length cx]] (by rfl) rfl rfl (by (try simp only [List.map_toArray, List.map_cons, List.map_nil]); first | done | rfl) ?_
   with_reducible refine (sub_any _ o 1 (Zs_p (p := p) (by have := HBD.out.lim; omega) HBD.out.o) zs1 (Zs_p (p := p) (by have := HBD.out.lim; omega) HBD.out.o2) (zarg_of h.two.r2) (zarg_of hx)).mono ?_
   rintro e_ w' ⟨A, c, rfl, _, hzr, hd⟩
   refine ⟨_, rfl, ?_⟩
   have h' := h.next hd
   exact hK _ _ ⟨b0, b1, b2, true, b4, b5, b6, b7, b8, b9, b10, b11, b12, b13, _, _, _, _, _, _, _, _, _, _, _, _, _, _, rfl, rfl, ⟨h'.two, h'.f0, h'.f1, h'.f2, (fun _ => ⟨A, c, rfl, Kd.R_lower hzr (Nat.zero_le _)⟩), h'.f4, h'.f5, h'.f6, h'.f7, h'.f8, h'.f9, h'.n9, h'.n10, h'.ne, h'.l9, h'.l10⟩⟩
  ·unfold mact
   have hb0 : b0 = true := (by cases b0 with | true => rfl | false => exact absurd hr (by simp [readyAt, mustT]))
   have hb3 : b3 = true := (by cases b3 with | true => rfl | false => exact absurd hr (by simp [readyAt, mustT]))
   obtain rfl := h.f0 hb0
   obtain ⟨Ax, cx, rfl, hx⟩ := h.f3 hb3
   refine wpOp_step rfl (fun K hK => ?_)
   refine goes_ Try.func67 (by kernel_rfl) rfl #[.agg #[.bool (zn v), .slice A4 (zl v).length c4], .agg #[.bool (zn (o - 1)), .slice Ax (zl (o - 1)).length cx]] (by rfl) rfl rfl (by (try simp only [List.map_toArray, List.map_cons, List.map_nil]); first | done | rfl) ?_
   with_reducible refine (mul_any _ v (o - 1) HMB.out.1 HMB.out.2.1 HMB.out.2.2.2.1 (zarg_of h.two.r1) (zarg_of hx)).mono ?_
   rintro e_ w' ⟨A, c, rfl, _, hzr, hd⟩
   refine ⟨_, rfl, ?_⟩
   have h' := h.next hd
   exact hK _ _ ⟨b0, b1, b2, b3, true, b5, b6, b7, b8, b9, b10, b11, b12, b13, _, _, _, _, _, _, _, _, _, _, _, _, _, _, rfl, rfl, ⟨h'.two, h'.f0, h'.f1, h'.f2, h'.f3, (fun _ => ⟨A, c, rfl, Kd.R_lower hzr (Nat.zero_le _)⟩), h'.f5, h'.f6, h'.f7, h'.f8, h'.f9, h'.n9, h'.n10, h'.ne, h'.l9, h'.l10⟩⟩
  ·unfold mact
   obtain ⟨k0, k1, k2, k3⟩ := rcells h.two
   refine wpOp_step rfl (fun K hK => ?_)
   refine value_ (w1 := ?_) (v := ?_) (by rfl) rfl ?_ ?_
   rotate_left 2
   ·go_simp
    constructor
    ·rfl
    ·rfl
   exact hK _ _ ⟨b0, b1, b2, b3, b4, true, b6, b7, b8, b9, b10, b11, b12, b13, _, _, _, _, _, _, _, _, _, _, _, _, _, _, rfl, rfl, ⟨h.two, h.f0, h.f1, h.f2, h.f3, h.f4, (fun _ => rfl), h.f6, h.f7, h.f8, h.f9, h.n9, h.n10, h.ne, h.l9, h.l10⟩⟩
  ·unfold mact
   obtain ⟨k0, k1, k2, k3⟩ := rcells h.two
   refine wpOp_step rfl (fun K hK => ?_)
   refine value_ (w1 := ?_) (v := ?_) (by rfl) rfl ?_ ?_
   rotate_left 2
   ·go_simp
    constructor
    ·rfl
    ·rfl
   exact hK _ _ ⟨b0, b1, b2, b3, b4, b5, true, b7, b8, b9, b10, b11, b12, b13, _, _, _, _, _, _, _, _, _, _, _, _, _, _, rfl, rfl, ⟨h.two, h.f0, h.f1, h.f2, h.f3, h.f4, h.f5, (fun _ => rfl), h.f7, h.f8, h.f9, h.n9, h.n10, h.ne, h.l9, h.l10⟩⟩
  ·unfold mact
   have hb4 : b4 = true := (by cases b4 with | true => rfl | false => exact absurd hr (by simp [readyAt, mustT]))
   refine wpOp_step rfl (fun K hK => ?_)
   refine goes_ Try.func65 (by kernel_rfl) rfl #[.int .i64 1] (by rfl) rfl rfl (by (try simp only [List.map_toArray, List.map_cons, List.map_nil]); first | done | rfl) ?_
   with_reducible refine (of1_any _).mono ?_
   rintro e_ w' ⟨A, c, rfl, _, hzr, hd⟩
   refine ⟨_, rfl, ?_⟩
   have h' := h.next hd
   exact hK _ _ ⟨b0, b1, b2, b3, b4, b5, b6, true, b8, b9, b10, b11, b12, b13, _, _, _, _, _, _, _, _, _, _, _, _, _, _, rfl, rfl, ⟨h'.two, h'.f0, h'.f1, h'.f2, h'.f3, h'.f4, h'.f5, h'.f6, (fun _ => ⟨A, c, rfl, Kd.R_lower hzr (Nat.zero_le _)⟩), h'.f8, h'.f9, h'.n9, h'.n10, h'.ne, h'.l9, h'.l10⟩⟩
  ·unfold mact
   have hb6 : b6 = true := (by cases b6 with | true => rfl | false => exact absurd hr (by simp [readyAt, mustT]))
   have hb7 : b7 = true := (by cases b7 with | true => rfl | false => exact absurd hr (by simp [readyAt, mustT]))
   obtain rfl := h.f6 hb6
   obtain ⟨Ax, cx, rfl, hx⟩ := h.f7 hb7
   refine wpOp_step rfl (fun K hK => ?_)
   refine goes_ Try.func46 (by kernel_rfl) rfl #[.agg #[.bool (zn o), .slice A2 (zl o).length c2], .agg #[.bool (zn 1), .slice Ax (zl 1).length cx]] (by rfl) rfl rfl (by (try simp only [List.map_toArray, List.map_cons, List.map_nil]); first | done | rfl) ?_
   with_reducible refine (add_any _ o 1 (Zs_p (p := p) (by have := HBD.out.lim; omega) HBD.out.o) zs1 (Zs_p (p := p) (by have := HBD.out.lim; omega) HBD.out.o1) (zarg_of h.two.r2) (zarg_of hx)).mono ?_
   rintro e_ w' ⟨A, c, rfl, _, hzr, hd⟩
   refine ⟨_, rfl, ?_⟩
   have h' := h.next hd
   exact hK _ _ ⟨b0, b1, b2, b3, b4, b5, b6, b7, true, b9, b10, b11, b12, b13, _, _, _, _, _, _, _, _, _, _, _, _, _, _, rfl, rfl, ⟨h'.two, h'.f0, h'.f1, h'.f2, h'.f3, h'.f4, h'.f5, h'.f6, h'.f7, (fun _ => ⟨A, c, rfl, Kd.R_lower hzr (Nat.zero_le _)⟩), h'.f9, h'.n9, h'.n10, h'.ne, h'.l9, h'.l10⟩⟩
  ·unfold mact
   have hb5 : b5 = true := (by cases b5 with | true => rfl | false => exact absurd hr (by simp [readyAt, mustT]))
   have hb8 : b8 = true := (by cases b8 with | true => rfl | false => exact absurd hr (by simp [readyAt, mustT]))
   obtain rfl := h.f5 hb5
   obtain ⟨Ax, cx, rfl, hx⟩ := h.f8 hb8
   refine wpOp_step rfl (fun K hK => ?_)
   refine goes_ Try.func67 (by kernel_rfl) rfl #[.agg #[.bool (zn v), .slice A4 (zl v).length c4], .agg #[.bool (zn (o + 1)), .slice Ax (zl (o + 1)).length cx]] (by rfl) rfl rfl (by (try simp only [List.map_toArray, List.map_cons, List.map_nil]); first | done | rfl) ?_
   with_reducible refine (mul_any _ v (o + 1) HMB.out.1 HMB.out.2.2.1 HMB.out.2.2.2.2 (zarg_of h.two.r1) (zarg_of hx)).mono ?_
   rintro e_ w' ⟨A, c, rfl, _, hzr, hd⟩
   refine ⟨_, rfl, ?_⟩
   have h' := h.next hd
   exact hK _ _ ⟨b0, b1, b2, b3, b4, b5, b6, b7, b8, true, b10, b11, b12, b13, _, _, _, _, _, _, _, _, _, _, _, _, _, _, rfl, rfl, ⟨h'.two, h'.f0, h'.f1, h'.f2, h'.f3, h'.f4, h'.f5, h'.f6, h'.f7, h'.f8, (fun _ => ⟨A, c, rfl, Kd.R_lower hzr (Nat.zero_le _)⟩), h'.n9, h'.n10, h'.ne, h'.l9, h'.l10⟩⟩
  ·unfold mact
   have hn : b10 = false := (by cases b10 with | false => rfl | true => exact absurd hr (by simp [readyAt, mustT]))
   refine wpOp_step rfl (fun K hK => ?_)
   refine value_ (w1 := ?_) (v := ?_) (by rfl) rfl ?_ ?_
   rotate_left 2
   ·go_simp
    constructor
    ·rfl
    ·rfl
   have h' := h.next (alloc_below ws (Obj.cells #[.bool false, .slice none 0 0] 38))
   exact hK _ _ ⟨b0, b1, b2, b3, b4, b5, b6, b7, b8, b9, true, b11, b12, b13, _, _, _, _, _, _, _, _, _, _, _, _, ws.heap.size, _, rfl, rfl, ⟨h'.two, h'.f0, h'.f1, h'.f2, h'.f3, h'.f4, h'.f5, h'.f6, h'.f7, h'.f8, h'.f9, (fun _ => ⟨rfl, fresh_new h.two, fun _ => blk_new _ _, fun c => absurd (h.l9 c) (by rw [hn]; decide)⟩), h'.n10, (fun _ b => Nat.ne_of_gt (h.n10 b).2.1.lt), (fun _ => rfl), h'.l10⟩⟩
  ·unfold mact
   have hn : b11 = false := (by cases b11 with | false => rfl | true => exact absurd hr (by simp [readyAt, mustT]))
   refine wpOp_step rfl (fun K hK => ?_)
   refine value_ (w1 := ?_) (v := ?_) (by rfl) rfl ?_ ?_
   rotate_left 2
   ·go_simp
    constructor
    ·rfl
    ·rfl
   have h' := h.next (alloc_below ws (Obj.cells #[.bool false, .slice none 0 0] 38))
   exact hK _ _ ⟨b0, b1, b2, b3, b4, b5, b6, b7, b8, b9, b10, true, b12, b13, _, _, _, _, _, _, _, _, _, _, _, _, _, ws.heap.size, rfl, rfl, ⟨h'.two, h'.f0, h'.f1, h'.f2, h'.f3, h'.f4, h'.f5, h'.f6, h'.f7, h'.f8, h'.f9, h'.n9, (fun _ => ⟨rfl, fresh_new h.two, fun _ => blk_new _ _, fun c => absurd (h.l10 c) (by rw [hn]; decide)⟩), (fun b _ => Nat.ne_of_lt (h.n9 b).2.1.lt), h'.l9, (fun _ => rfl)⟩⟩
  ·unfold mact
   have hb10 : b10 = true := (by cases b10 with | true => rfl | false => exact absurd hr (by simp [readyAt, mustT]))
   have hb4 : b4 = true := (by cases b4 with | true => rfl | false => exact absurd hr (by simp [readyAt, mustT]))
   have hb9 : b9 = true := (by cases b9 with | true => rfl | false => exact absurd hr (by simp [readyAt, mustT]))
   have hb11 : b11 = true := (by cases b11 with | true => rfl | false => exact absurd hr (by simp [readyAt, mustT]))
   obtain ⟨rfl, hfr, hz0, _⟩ := h.n9 hb10
   have hn : b12 = false := (by cases b12 with | false => rfl | true => exact absurd hr (by simp [readyAt, mustT]))
   subst hn
   have hblk := hz0 rfl
   obtain ⟨Ax, cx, rfl, hx⟩ := h.f4 hb4
   have kz0 := (blk_cell hblk 0).trans rfl
   have kz1 := (blk_cell hblk 1).trans rfl
   have fz0 := blk_frozen hblk 0
   have fz1 := blk_frozen hblk 1
   refine wpOp_step rfl (fun K hK => ?_)
   refine skip_ (w1 := ?_) (by rfl) rfl ?_ ?_
   rotate_left
   ·go_simp
    rfl
   exact hK _ _ ⟨b0, b1, b2, b3, b4, b5, b6, b7, b8, b9, b10, b11, true, b13, _, _, _, _, _, _, _, _, _, _, _, _, g9, g10, rfl, rfl, h.st12 hb10 hb11 hblk hx⟩
  ·unfold mact
   have hb11 : b11 = true := (by cases b11 with | true => rfl | false => exact absurd hr (by simp [readyAt, mustT]))
   have hb9 : b9 = true := (by cases b9 with | true => rfl | false => exact absurd hr (by simp [readyAt, mustT]))
   have hb12 : b12 = true := (by cases b12 with | true => rfl | false => exact absurd hr (by simp [readyAt, mustT]))
   have hb10 : b10 = true := (by cases b10 with | true => rfl | false => exact absurd hr (by simp [readyAt, mustT]))
   obtain ⟨rfl, hfr, hz0, _⟩ := h.n10 hb11
   have hn : b13 = false := (by cases b13 with | false => rfl | true => exact absurd hr (by simp [readyAt, mustT]))
   subst hn
   have hblk := hz0 rfl
   obtain ⟨Ax, cx, rfl, hx⟩ := h.f9 hb9
   have kz0 := (blk_cell hblk 0).trans rfl
   have kz1 := (blk_cell hblk 1).trans rfl
   have fz0 := blk_frozen hblk 0
   have fz1 := blk_frozen hblk 1
   refine wpOp_step rfl (fun K hK => ?_)
   refine skip_ (w1 := ?_) (by rfl) rfl ?_ ?_
   rotate_left
   ·go_simp
    rfl
   exact hK _ _ ⟨b0, b1, b2, b3, b4, b5, b6, b7, b8, b9, b10, b11, b12, true, _, _, _, _, _, _, _, _, _, _, _, _, g9, g10, rfl, rfl, h.st13 hb10 hb11 hblk hx⟩
 ·intro l a ws hI hall
  obtain ⟨b0, b1, b2, b3, b4, b5, b6, b7, b8, b9, b10, b11, b12, b13, t20, t21, t22, t23, t24, t25, t26, t27, t28, t29, t9, t10, g9, g10, rfl, rfl, h⟩ := hI
  have e10 : b10 = true := hall 10 (by decide)
  have e11 : b11 = true := hall 11 (by decide)
  have e12 : b12 = true := hall 12 (by decide)
  have e13 : b13 = true := hall 13 (by decide)
  obtain ⟨rfl, _, _, hz9⟩ := h.n9 e10
  obtain ⟨rfl, _, _, hz10⟩ := h.n10 e11
  obtain ⟨A9, c9, hb9, hr9⟩ := (hz9 e12).out
  obtain ⟨A10, c10, hb10, hr10⟩ := (hz10 e13).out
  obtain ⟨k0, k1, k2, k3⟩ := rcells h.two
  have HW := Lib.hid (And.intro h.two (And.intro (And.intro hb9 hr9) (And.intro hb10 hr10)))
  clear hall h hz9 hz10 hb9 hr9 hb10 hr10 e10 e11 e12 e13
  unfold mact
  go_wp2_with fail
  refine (round_any _ v (by have h1 := bl_le_of_lt HBD.out.v; have h2 := HBD.out.lim; omega) (zarg_of HW.out.1.r1)).mono ?_
  rintro e7 w7 ⟨rfl, hd⟩
  have hrv := HR.out
  rw [hrv]
  have HB := Lib.hid (on HW.out.1.below hd)
  have HO := Lib.hid (Kd.R_below HW.out.1.r2 hd)
  have H9 := Lib.hid (Kd.R_below HW.out.2.1.2 hd)
  have H10 := Lib.hid (Kd.R_below HW.out.2.2.2 hd)
  have q0 := (blk_cell (blk_below HW.out.1.b2 hd) 0).trans rfl
  have q1 := (blk_cell (blk_below HW.out.1.b2 hd) 1).trans rfl
  have q2 := (blk_cell (blk_below HW.out.2.1.1 hd) 0).trans rfl
  have q3 := (blk_cell (blk_below HW.out.2.1.1 hd) 1).trans rfl
  have HBO := Lib.hid (blk_below HW.out.1.b2 hd)
  have HB10 := Lib.hid (blk_below HW.out.2.2.1 hd)
  clear k0 k1 k2 k3 hrv hd HW
  by_cases i1 : InC (v * (o - 1)) o r
  ·have HI1 := Lib.hid i1
   clear i1
   go_wp2_with fail
   refine (incell_yes HRL.out _ (p + p) (by have := HBD.out.lim; omega) (mul_bd HBD.out.v HBD.out.o2) (wide HBD.out.o) (zarg_of H9.out) (zarg_of HO.out) HI1.out).mono ?_
   rintro e8 w8 ⟨rfl, hd⟩
   have HB := Lib.hid (on HB.out hd)
   have HO := Lib.hid (Kd.R_below HO.out hd)
   have H10 := Lib.hid (Kd.R_below H10.out hd)
   have q4 := (blk_cell (blk_below HBO.out hd) 0).trans rfl
   have q5 := (blk_cell (blk_below HBO.out hd) 1).trans rfl
   have q6 := (blk_cell (blk_below HB10.out hd) 0).trans rfl
   have q7 := (blk_cell (blk_below HB10.out hd) 1).trans rfl
   clear q0 q1 q2 q3 hd
   by_cases i2 : InC (v * (o + 1)) o r
   ·have HI2 := Lib.hid i2
    clear i2
    go_wp2_with fail
    refine (incell_yes HRL.out _ (p + p) (by have := HBD.out.lim; omega) (mul_bd HBD.out.v HBD.out.o1) (wide HBD.out.o) (zarg_of H10.out) (zarg_of HO.out) HI2.out).mono ?_
    rintro e9 w9 ⟨rfl, hd⟩
    have HB := Lib.hid (on HB.out hd)
    clear hd
    go_wp2_with fail
    go_ret
    exact ⟨true, iff_of_true rfl (HP.out.2 ⟨HI1.out, HI2.out⟩), rfl, HB.out⟩
   ·have HI2 := Lib.hid i2
    clear i2
    go_wp2_with fail
    refine (incell_no HRL.out _ (p + p) (by have := HBD.out.lim; omega) (mul_bd HBD.out.v HBD.out.o1) (wide HBD.out.o) (zarg_of H10.out) (zarg_of HO.out) HI2.out).mono ?_
    rintro e9 w9 ⟨rfl, hd⟩
    have HB := Lib.hid (on HB.out hd)
    clear hd
    go_wp2_with fail
    go_ret
    exact ⟨false, no_c (fun h => HI2.out (HP.out.1 h).2), rfl, HB.out⟩
  ·have HI1 := Lib.hid i1
   clear i1
   go_wp2_with fail
   refine (incell_no HRL.out _ (p + p) (by have := HBD.out.lim; omega) (mul_bd HBD.out.v HBD.out.o2) (wide HBD.out.o) (zarg_of H9.out) (zarg_of HO.out) HI1.out).mono ?_
   rintro e8 w8 ⟨rfl, hd⟩
   have HB := Lib.hid (on HB.out hd)
   clear hd
   go_wp2_with fail
   go_ret
   exact ⟨false, no_c (fun h => HI1.out (HP.out.1 h).1), rfl, HB.out⟩
end Go.Proofs.Ytbgmadijifefiaa.MustW
