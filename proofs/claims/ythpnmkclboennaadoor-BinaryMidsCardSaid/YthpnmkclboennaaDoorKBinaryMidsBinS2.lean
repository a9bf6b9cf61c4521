/- The plays of ClassOf, Quiet, Split, Value, Mid. Conditions: words below 2^64; math/bits' table is laid. -/
import Derived.Test.YthpnmkclboennaaDoorKBinaryMidsBinS
import Derived.Test.YthpnmkclboennaaDoorKBinaryMidsPLibx7
import Derived.Test.YthpnmkclboennaaDoorKBinaryMidsPLibx0
import Derived.Test.YthpnmkclboennaaDoorKBinaryMidsPLibx3
import Derived.Test.YthpnmkclboennaaDoorKBinaryMidsPLibx5
import Derived.Test.YthpnmkclboennaaDoorKBinaryMidsPLibx9
import Derived.Test.YthpnmkclboennaaDoorKBinaryMidsPLibx11
namespace Go.Proofs.YthpnmkclboennaaDoor.BinS2
open Go.RowKit Go.Proofs.YthpnmkclboennaaDoorW.PrintWords Go.Proofs.YthpnmkclboennaaDoorW.PrintMore Go.Proofs.YthpnmkclboennaaDoorW.PrintLast Go.Proofs.YthpnmkclboennaaDoor.Num Go.Proofs.YthpnmkclboennaaDoor.PLib Go.Proofs.YthpnmkclboennaaDoor.Ref Go.Proofs.YthpnmkclboennaaDoor.BinLaw Go.Proofs.YthpnmkclboennaaDoor.BinA Go.Proofs.YthpnmkclboennaaDoor.BinO2 Go.Proofs.YthpnmkclboennaaDoor.BinF Go.Proofs.YthpnmkclboennaaDoor.BinG Go.Proofs.YthpnmkclboennaaDoor.BinW Go.Proofs.YthpnmkclboennaaDoor.BinW2 Go.Proofs.YthpnmkclboennaaDoor.BinTab Go.Proofs.YthpnmkclboennaaDoor.BinM Go.Proofs.YthpnmkclboennaaDoor.BinM2 Go.Proofs.YthpnmkclboennaaDoor.BinV1 Go.Proofs.YthpnmkclboennaaDoor.BinAll Go.Proofs.YthpnmkclboennaaDoor.BinS
structure DyE (neg : Bool) (l : List Int) (x er : Int) (w : World) (e : Ending) (w' : World) : Prop where mk :: (ex : ∃ A c, e = .returned (.tuple #[.agg #[.bool neg, .slice A l.length c, .int .i64 x], .int .i64 er]) ∧ DyL w' A c l) (below : Below w.heap.size w w')
theorem dye {neg : Bool} {l : List Int} {x er : Int} {w w' : World} {e : Ending} (h : DyW neg l x er w e w') : DyE neg l x er w e w' := by
  obtain ⟨⟨A, c, e1, h1, h2, _⟩, hb⟩ := h
  exact ⟨⟨A, c, e1, ⟨h1, h2⟩⟩, hb⟩
theorem dyl_len (n : Nat) : (dyl n).length ≤ 1 := by unfold dyl; split <;> simp
theorem mid_both (f : Int) (b : Nat) (hb : b < 18446744073709551616) : ∃ (neg : Bool) (l : List Int) (x er : Int), l.length ≤ 1 ∧ (∀ w, Tab w → Calls Tryd.prog 14 #[.int .i64 f, .int .u64 b] w (DyE neg l x er w)) ∧ (∀ w, Calls Tryd.prog 16 #[.int .i64 f, .int .u64 b] w (DyE neg l x er w)) := by
  have key : ∀ {neg : Bool} {l : List Int} {x er : Int}, Ev (fun k => gnomonref07_DocMid.f k f (b : Int)) (neg, l, x, er) → ∀ w, Calls Tryd.prog 16 #[.int .i64 f, .int .u64 b] w (DyE neg l x er w) := by
    intro neg l x er hE w
    obtain ⟨k, hk⟩ := hE.rounds
    refine (gnomonref07_DocMid.calls k _ _ _ _ _ _ w hk).mono ?_
    rintro e w' ⟨v, he, hr, hd⟩
    obtain ⟨A, c, rfl, h1, h2⟩ := Kd.R_reads hr
    exact ⟨⟨A, c, he, ⟨h1, h2⟩⟩, hd⟩
  rcases fin_cases f b hb with ⟨F, h, h1, h2, h3, _⟩ | ⟨er, s0, s1, s2, s3, h1, _, h3, h4⟩
  · exact ⟨_, _, _, _, dyl_len _, fun w hT => (Mid_ok h b h1 h2 w hT).mono fun _ _ x => dye x, key (by have := docmid_ok h b h2 h3; rw [show (decide (F.sg ≤ b)) = (decide (F.sg ≤ b) && decide (2 * mgF F (b % F.sg) + 1 ≠ 0)) by rw [decide_eq_true (Nat.succ_ne_zero _), Bool.and_true]] at this; exact this)⟩
  · exact ⟨false, [], 0, er, by decide, fun w _ => (Mid_err b h4 h1 w).mono fun _ _ x => dye x, key (docmid_err h3 h1)⟩
set_option maxRecDepth 100000 in
theorem plays_8 : PlaysOk Tab 8 := by
  intro f b neg n w hT _ hb _
  obtain ⟨ng, l, x, er, hl, HP, HD⟩ := mid_both f b hb
  have HP := Lib.hid HP
  have HD := Lib.hid HD
  have HL := Lib.hid hl
  have T := Lib.hid (hT.next (box w (Obj.cells #[.int .i64 8, .int .i64 f, .int .u64 b, .bool neg, .int .i64 n] 101)))
  clear hb hT hl
  go_enter Tryd.func64, Tryd.ntmps64
  go_wp2_with fail
  refine (HP.out _ T.out).mono ?_
  rintro e w1 ⟨⟨A1, c1, rfl, r1⟩, h1⟩
  have bx := box w1 (Obj.cells #[.bool ng, .slice A1 l.length c1, .int .i64 x] 29)
  have kb := blk_below (blk_below (blk_new w (Obj.cells #[.int .i64 8, .int .i64 f, .int .u64 b, .bool neg, .int .i64 n] 101)) h1) bx
  have kz1 : (w1.alloc (Obj.cells #[.bool ng, .slice A1 l.length c1, .int .i64 x] 29)).cell? ⟨w.heap.size, 1, none⟩ = some (.int .i64 f) := (blk_cell kb 1).trans rfl
  have kz2 : (w1.alloc (Obj.cells #[.bool ng, .slice A1 l.length c1, .int .i64 x] 29)).cell? ⟨w.heap.size, 2, none⟩ = some (.int .u64 b) := (blk_cell kb 2).trans rfl
  have HB := Lib.hid (on (box _ _) (on h1 bx))
  have K1 := Lib.hid (blk_new w1 (Obj.cells #[.bool ng, .slice A1 l.length c1, .int .i64 x] 29))
  have L1 := Lib.hid (r1.next bx)
  clear kb h1 r1 bx T
  go_wp2_with fail
  refine (HD.out _).mono ?_
  rintro e w2 ⟨⟨A2, c2, rfl, r2⟩, h2⟩
  have bx := box w2 (Obj.cells #[.bool ng, .slice A2 l.length c2, .int .i64 x] 29)
  have kb := blk_below (blk_below K1.out h2) bx
  have kz0 : (w2.alloc (Obj.cells #[.bool ng, .slice A2 l.length c2, .int .i64 x] 29)).cell? ⟨w1.heap.size, 0, none⟩ = some (.bool ng) := (blk_cell kb 0).trans rfl
  have kz1 : (w2.alloc (Obj.cells #[.bool ng, .slice A2 l.length c2, .int .i64 x] 29)).cell? ⟨w1.heap.size, 1, none⟩ = some (.slice A1 l.length c1) := (blk_cell kb 1).trans rfl
  have kz2 : (w2.alloc (Obj.cells #[.bool ng, .slice A2 l.length c2, .int .i64 x] 29)).cell? ⟨w1.heap.size, 2, none⟩ = some (.int .i64 x) := (blk_cell kb 2).trans rfl
  have HB := Lib.hid (on HB.out (on h2 bx))
  have L1 := Lib.hid ((L1.out.next h2).next bx)
  have L2 := Lib.hid (r2.next bx)
  clear h2 r2 bx kb K1
  go_wp2_with fail
  refine (same_any ng l x _ (by have := HL.out; omega) L1.out L2.out).mono ?_
  rintro e w3 ⟨rfl, h3⟩
  have HB := Lib.hid (on HB.out h3)
  clear h3 kz0 kz1 kz2
  go_wp2_with fail
  go_ret
  exact ⟨by simp, HB.out⟩
end Go.Proofs.YthpnmkclboennaaDoor.BinS2
