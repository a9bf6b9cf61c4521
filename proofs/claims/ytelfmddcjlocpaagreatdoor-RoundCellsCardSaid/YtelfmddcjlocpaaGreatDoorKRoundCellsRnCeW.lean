/- What the law's plays answers of Decide and Cell. Plain Lean over the functions. Condition: words. The walk of the law RoundCells: it returns true, and the world has at most new blocks. Conditions: the script reads as calls; math/bits' table. -/
import Derived.Test.YtelfmddcjlocpaaGreatDoorKRoundCellsRnC
import Derived.Test.YtelfmddcjlocpaaGreatDoorKRoundCellsRefG
import Derived.Test.YtelfmddcjlocpaaGreatDoorKRoundCellsPxP0
import Derived.Test.YtelfmddcjlocpaaGreatDoorKRoundCellsPxQ0
import Derived.Deep.QuietTactic
import Derived.Test.YtelfmddcjlocpaaGreatDoorKRoundCellsPxL2
section
set_option linter.unusedVariables false
namespace Go.Proofs.YtelfmddcjlocpaaGreatDoor.RnPc
open Go.RowKit Go.Proofs.YtelfmddcjlocpaaGreatDoorW.PrintWords Go.Proofs.YtelfmddcjlocpaaGreatDoorW.PrintMore Go.Proofs.YtelfmddcjlocpaaGreatDoor.Num Go.Proofs.YtelfmddcjlocpaaGreatDoor.PLib Go.Proofs.YtelfmddcjlocpaaGreatDoor.Ref Go.Proofs.YtelfmddcjlocpaaGreatDoor.GTh Go.Proofs.YtelfmddcjlocpaaGreatDoor.Given Go.Proofs.YtelfmddcjlocpaaGreatDoor.RnAll Go.Proofs.YtelfmddcjlocpaaGreatDoor.RnL Go.Proofs.YtelfmddcjlocpaaGreatDoor.RnN Go.Proofs.YtelfmddcjlocpaaGreatDoor.RnC Go.Proofs.YtelfmddcjlocpaaGreatDoor.RnP
theorem plays2_ev (t : El) (w : World) (ok : Ok w t) (h : t.kd = 2) : Ev (fun k => gnomonlaw08_plays.f k t.kd t.fm t.na t.la t.ea t.nb t.lb t.eb (t.wd : Int)) true := by
 obtain ⟨r, b, e, e1, e2⟩ := rn_decide t.fm t.na t.nb t.la t.lb ok.wa ok.wb t.ea t.eb
 unfold gnomonlaw08_plays.f
 refine Ev.bind (rn_ev (law_twin ok)) (Ev.congr (fun k => if_neg (by omega)) (Ev.congr (fun k => if_pos h) (Ev.bind e1 (Ev.bind e2 (Ev.congr (fun k => if_pos rfl) ?_)))))
 cases b
 ·refine Ev.congr (fun k => if_neg (show ¬ false = true by decide)) (Ev.congr (fun k => if_neg (show ¬ false = true by decide)) ?_)
  rw [beq_self_eq_true]; exact Ev.now _
 ·refine Ev.congr (fun k => if_pos rfl) (Ev.congr (fun k => if_pos rfl) ?_)
  rw [beq_self_eq_true]; exact Ev.now _
theorem plays3_ev (t : El) (w : World) (ok : Ok w t) (h : t.kd = 3) : Ev (fun k => gnomonlaw08_plays.f k t.kd t.fm t.na t.la t.ea t.nb t.lb t.eb (t.wd : Int)) true := by
 obtain ⟨n, l, x, n', l', x', y, e, h1, h2, e1, e2⟩ := rn_cell t.fm ok.wd
 unfold gnomonlaw08_plays.f
 refine Ev.bind (rn_ev (law_twin ok)) (Ev.congr (fun k => if_neg (by omega)) (Ev.congr (fun k => if_neg (by omega)) (Ev.congr (fun k => if_pos h) (Ev.bind e1 (Ev.bind e2 (Ev.bind (spans_ev n l h1 x n' l' h2 x') (Ev.congr (fun k => if_pos rfl) ?_)))))))
 cases y
 ·refine Ev.congr (fun k => if_neg (show ¬ false = true by decide)) (Ev.congr (fun k => if_neg (show ¬ false = true by decide)) ?_)
  rw [beq_self_eq_true]; exact Ev.now _
 ·refine Ev.congr (fun k => if_pos rfl) (Ev.congr (fun k => if_pos rfl) ?_)
  rw [beq_self_eq_true]; exact Ev.now _
theorem cell_1 : Ev (fun k => round_Cell.f k 64 1) (false, [1], -1075, false, [3], -1075, false, 0) := Ev.of (fun k => round_Cell.mono _ _ k) (k := 200) (by kernel_rfl)
theorem num_a : Ev (fun k => gnomonlaw08_num.f k 1 0) (false, [1], 0) := Ev.of (fun k => gnomonlaw08_num.mono _ _ k) (k := 200) (by decide +kernel)
theorem num_b : Ev (fun k => gnomonlaw08_num.f k 9007199254740993 (-53)) (false, [9007199254740993], -53) := Ev.of (fun k => gnomonlaw08_num.mono _ _ k) (k := 200) (by decide +kernel)
theorem num_c : Ev (fun k => gnomonlaw08_num.f k 1 (-1075)) (false, [1], -1075) := Ev.of (fun k => gnomonlaw08_num.mono _ _ k) (k := 200) (by decide +kernel)
theorem num_d : Ev (fun k => gnomonlaw08_num.f k 3 (-1075)) (false, [3], -1075) := Ev.of (fun k => gnomonlaw08_num.mono _ _ k) (k := 200) (by decide +kernel)
theorem decide_a : Ev (fun k => round_Decide.f k 64 false [1] 0 false [9007199254740993] (-53)) (4607182418800017408, true, 0) := Ev.of (fun k => round_Decide.mono _ _ _ _ _ _ _ k) (k := 200) (by decide +kernel)
theorem spans_a : Ev (fun k => gnomonlaw08_spans.f k false [1] (-1075) false [3] (-1075) false [1] (-1075) false [3] (-1075)) true := spans_ev _ _ (by decide) _ _ _ (by decide) _
end Go.Proofs.YtelfmddcjlocpaaGreatDoor.RnPc
end
section
namespace Go.Proofs.YtelfmddcjlocpaaGreatDoor.RnCeW
open Go Go.RowKit Go.Proofs.YtelfmddcjlocpaaGreatDoorW.PrintWords Go.Proofs.YtelfmddcjlocpaaGreatDoorW.PrintMore Go.Proofs.YtelfmddcjlocpaaGreatDoorW.PrintLast Go.Proofs.YtelfmddcjlocpaaGreatDoor.GBase Go.Proofs.YtelfmddcjlocpaaGreatDoor.RnAll Go.Proofs.YtelfmddcjlocpaaGreatDoor.Px Go.Proofs.YtelfmddcjlocpaaGreatDoor.PLib Go.Proofs.YtelfmddcjlocpaaGreatDoor.RnPc Go.Proofs.YtelfmddcjlocpaaGreatDoor.RnScrW
def DyR (w : World) (n : Bool) (l : List Int) (x : Int) (A : Option Addr) (c : Nat) : Prop := RepV w N0 none' (.ag [.b n, .sl .u64 l, .i .i64 x]) (.agg #[.bool n, .slice A l.length c, .int .i64 x])
theorem dy_open {w : World} {n : Bool} {l : List Int} {x : Int} {v : Value} (h : RepV w N0 none' (.ag [.b n, .sl .u64 l, .i .i64 x]) v) : ∃ A c, v = .agg #[.bool n, .slice A l.length c, .int .i64 x] ∧ DyR w n l x A c := by
 have h0 := h
 obtain ⟨vs, rfl, h⟩ := h
 cases h with
 | cons h1 h => cases h with
  | cons h2 h => cases h with
   | cons h3 h =>
    cases h
    obtain rfl := h1
    obtain ⟨A, c, rfl, -, -⟩ := h2
    obtain rfl := h3
    exact ⟨A, c, rfl, h0⟩
theorem num_run {k : Nat} {a b : Int} {n : Bool} {l : List Int} {x : Int} (h : gnomonlaw08_num.f k a b = some (n, l, x)) {w : World} (gw : Gw w) : Calls Tryz.prog 12 #[.int .i64 a, .int .i64 b] w fun e w' => ∃ A c, e = .returned (.agg #[.bool n, .slice A l.length c, .int .i64 x]) ∧ DyR w' n l x A c ∧ Below w.heap.size w w' :=
 (run_r (gnomonlaw08_num.c h) gw (.cons rfl (.cons rfl .nil))).mono fun e w' ⟨v, he, hr, hd⟩ => by
  obtain ⟨A, c, rfl, h⟩ := dy_open hr
  exact ⟨A, c, he, h, hd⟩
theorem dy_two {w : World} {n n' : Bool} {l l' : List Int} {x x' : Int} {A A' : Option Addr} {c c' : Nat} (h : DyR w n l x A c) (h' : DyR w n' l' x' A' c') : RepV w N0 none' (.ag [.b n, .sl .u64 l, .i .i64 x, .b n', .sl .u64 l', .i .i64 x']) (.agg #[.bool n, .slice A l.length c, .int .i64 x, .bool n', .slice A' l'.length c', .int .i64 x']) := by
 obtain ⟨vs, e, h⟩ := h
 obtain ⟨vs', e', h'⟩ := h'
 refine ⟨[_, _, _, _, _, _], rfl, ?_⟩
 have e1 : vs = [.bool n, .slice A l.length c, .int .i64 x] := by
  have := congrArg Array.toList (Value.agg.inj e)
  simpa using this.symm
 have e2 : vs' = [.bool n', .slice A' l'.length c', .int .i64 x'] := by
  have := congrArg Array.toList (Value.agg.inj e')
  simpa using this.symm
 subst e1
 subst e2
 cases h with
 | cons h1 h => cases h with
  | cons h2 h => cases h with
   | cons h3 h => exact .cons h1 (.cons h2 (.cons h3 h'))
theorem DyR.next {w w' : World} {n : Bool} {l : List Int} {x : Int} {A : Option Addr} {c : Nat} (h : DyR w n l x A c) (d : Below w.heap.size w w') : DyR w' n l x A c := RnAll.next d h
theorem cell_run {w : World} (gw : Gw w) : Calls Tryz.prog 25 #[.int .i64 64, .int .u64 1] w fun e w' => ∃ A c A' c', e = .returned (.tuple #[.agg #[.bool false, .slice A 1 c, .int .i64 (-1075), .bool false, .slice A' 1 c', .int .i64 (-1075)], .bool false, .int .i64 0]) ∧ DyR w' false [1] (-1075) A c ∧ DyR w' false [3] (-1075) A' c' ∧ Below w.heap.size w w' := by
 obtain ⟨k, hk⟩ := cell_1.rounds
 refine (run_r (round_Cell.c hk) gw (.cons rfl (.cons rfl .nil))).mono fun e w' ⟨v, he, hr, hd⟩ => ?_
 obtain ⟨vs, rfl, h⟩ := hr
 cases h with
 | cons h1 h => cases h with
  | cons h2 h => cases h with
   | cons h3 h =>
    cases h
    obtain ⟨us, rfl, h1⟩ := h1
    obtain rfl := h2
    obtain rfl := h3
    cases h1 with
    | cons a1 h1 => cases h1 with
     | cons a2 h1 => cases h1 with
      | cons a3 h1 => cases h1 with
       | cons a4 h1 => cases h1 with
        | cons a5 h1 => cases h1 with
         | cons a6 h1 =>
          cases h1
          have b2 := a2
          have b5 := a5
          obtain ⟨A, c, rfl, -, -⟩ := a2
          obtain ⟨A', c', rfl, -, -⟩ := a5
          obtain rfl := a1
          obtain rfl := a3
          obtain rfl := a4
          obtain rfl := a6
          exact ⟨A, c, A', c', he, ⟨[_, _, _], rfl, .cons rfl (.cons b2 (.cons rfl .nil))⟩, ⟨[_, _, _], rfl, .cons rfl (.cons b5 (.cons rfl .nil))⟩, hd⟩
theorem decide_run {w : World} (gw : Gw w) {A A' : Option Addr} {c c' : Nat} (h : DyR w false [1] 0 A c) (h' : DyR w false [9007199254740993] (-53) A' c') : Calls Tryz.prog 30 #[.int .i64 64, .agg #[.bool false, .slice A 1 c, .int .i64 0, .bool false, .slice A' 1 c', .int .i64 (-53)]] w fun e w' => e = .returned (.tuple #[.int .u64 4607182418800017408, .bool true, .int .i64 0]) ∧ Below w.heap.size w w' := by
 obtain ⟨k, hk⟩ := decide_a.rounds
 refine (run_r (round_Decide.c hk) gw (.cons rfl (.cons (dy_two h h') .nil))).mono fun e w' ⟨v, he, hr, hd⟩ => ?_
 obtain ⟨vs, rfl, h⟩ := hr
 cases h with
 | cons h1 h => cases h with
  | cons h2 h => cases h with
   | cons h3 h =>
    cases h
    obtain rfl := h1
    obtain rfl := h2
    obtain rfl := h3
    exact ⟨he, hd⟩
theorem spans_run {w : World} (gw : Gw w) {A A' B B' : Option Addr} {c c' d d' : Nat} (h : DyR w false [1] (-1075) A c) (h' : DyR w false [3] (-1075) A' c') (g : DyR w false [1] (-1075) B d) (g' : DyR w false [3] (-1075) B' d') : Calls Tryz.prog 31 #[.agg #[.bool false, .slice A 1 c, .int .i64 (-1075), .bool false, .slice A' 1 c', .int .i64 (-1075)], .agg #[.bool false, .slice B 1 d, .int .i64 (-1075), .bool false, .slice B' 1 d', .int .i64 (-1075)]] w (OnW w) := by
 obtain ⟨k, hk⟩ := spans_a.rounds
 exact run_t (gnomonlaw08_spans.c hk) gw (.cons (dy_two h h') (.cons (dy_two g g') .nil))
structure PC (W w : World) (A : Option Addr) (c : Nat) (A' : Option Addr) (c' : Nat) : Prop where mk :: (gw : Gw w) (below : Below W.heap.size W w) (lo : DyR w false [1] (-1075) A c) (hi : DyR w false [3] (-1075) A' c')
theorem PC.next {W w w' : World} {A A' : Option Addr} {c c' : Nat} (h : PC W w A c A' c') (d : Below w.heap.size w w') : PC W w' A c A' c' := ⟨Gw_next _ _ h.gw d, on h.below d, h.lo.next d, h.hi.next d⟩
def CellsAt (w : World) (g : Nat) (A : Option Addr) (c : Nat) (A' : Option Addr) (c' : Nat) : Prop := w.cell? ⟨g, 0, none⟩ = some (.bool false) ∧ w.cell? ⟨g, 1, none⟩ = some (.slice A 1 c) ∧ w.cell? ⟨g, 2, none⟩ = some (.int .i64 (-1075)) ∧ w.cell? ⟨g, 3, none⟩ = some (.bool false) ∧ w.cell? ⟨g, 4, none⟩ = some (.slice A' 1 c') ∧ w.cell? ⟨g, 5, none⟩ = some (.int .i64 (-1075))
structure PD (W w : World) (g : Nat) (A : Option Addr) (c : Nat) (A' : Option Addr) (c' : Nat) : Prop where mk :: (gw : Gw w) (below : Below W.heap.size W w) (lo : DyR w false [1] (-1075) A c) (hi : DyR w false [3] (-1075) A' c') (lt : g < w.heap.size) (cells : CellsAt w g A c A' c')
theorem PD.next {W w w' : World} {g : Nat} {A A' : Option Addr} {c c' : Nat} (h : PD W w g A c A' c') (d : Below w.heap.size w w') : PD W w' g A c A' c' := by
 obtain ⟨a1, a2, a3, a4, a5, a6⟩ := h.cells
 exact ⟨Gw_next _ _ h.gw d, on h.below d, h.lo.next d, h.hi.next d, Nat.lt_of_lt_of_le h.lt d.size, by rw [d.cell (p := ⟨g, 0, none⟩) h.lt]; exact a1, by rw [d.cell (p := ⟨g, 1, none⟩) h.lt]; exact a2, by rw [d.cell (p := ⟨g, 2, none⟩) h.lt]; exact a3, by rw [d.cell (p := ⟨g, 3, none⟩) h.lt]; exact a4, by rw [d.cell (p := ⟨g, 4, none⟩) h.lt]; exact a5, by rw [d.cell (p := ⟨g, 5, none⟩) h.lt]; exact a6⟩
theorem PD.new {W w : World} {A A' : Option Addr} {c c' : Nat} (h : PC W w A c A' c') (t : TypeId) : PD W (w.alloc (Obj.cells #[.bool false, .slice A 1 c, .int .i64 (-1075), .bool false, .slice A' 1 c', .int .i64 (-1075)] t)) w.heap.size A c A' c' :=
 ⟨Gw_next _ _ h.gw (box _ _), on h.below (box _ _), h.lo.next (box _ _), h.hi.next (box _ _), by simp, by simp, by simp, by simp, by simp, by simp, by simp⟩
theorem plays_23 : PlaysOk 2 3 := by
 intro t w gw ok h1 h2
 by_cases c : t.kd = 2
 ·exact plays_at (kd := 2) (fun t w ok e => plays2_ev t w ok e) t w gw ok (by omega) (by omega)
 ·exact plays_at (kd := 3) (fun t w ok e => plays3_ev t w ok e) t w gw ok (by omega) (by omega)
set_option maxHeartbeats 4000000 in
theorem cells_any (a : Option Addr) (len cap : Nat) (W : World) (hs : IsOps W a len) (hn : len < 9000000000000000000) (gw : Gw W) : Calls Tryz.prog 7 #[.slice a len cap] W (OnW W) := by
 have HS := Lib.hid hs
 have HG := Lib.hid gw
 clear hs gw
 obtain ⟨k1, e1⟩ := num_a.rounds
 obtain ⟨k2, e2⟩ := num_b.rounds
 obtain ⟨k3, e3⟩ := num_c.rounds
 obtain ⟨k4, e4⟩ := num_d.rounds
 go_enter Tryz.func7, Tryz.ntmps7
 go_wp2_with fail
 refine (cell_run HG.out).mono ?_
 rintro e w1 ⟨A, c, A', c', rfl, r1, r2, hd⟩
 have HB : Hid (PC W w1 A c A' c') := Lib.hid ⟨Gw_next _ _ HG.out hd, hd, r1, r2⟩
 clear hd r1 r2
 go_wp2_with fail
 have HP : Hid (PD W (w1.alloc (Obj.cells #[.bool false, .slice A 1 c, .int .i64 (-1075), .bool false, .slice A' 1 c', .int .i64 (-1075)] 47)) w1.heap.size A c A' c') := Lib.hid (PD.new HB.out _)
 clear HB
 generalize w1.alloc (Obj.cells #[.bool false, .slice A 1 c, .int .i64 (-1075), .bool false, .slice A' 1 c', .int .i64 (-1075)] 47) = v0 at *
 generalize w1.heap.size = G at *
 refine (num_run e1 HP.out.gw).mono ?_
 rintro e w2 ⟨B, d, rfl, q1, hd⟩
 have HP := Lib.hid (HP.out.next hd)
 have Q1 := Lib.hid q1
 clear hd q1
 go_wp2_with fail
 refine (num_run e2 HP.out.gw).mono ?_
 rintro e w3 ⟨B', d', rfl, q2, hd⟩
 have HP := Lib.hid (HP.out.next hd)
 have Q1 := Lib.hid (Q1.out.next hd)
 have Q2 := Lib.hid q2
 clear hd q2
 go_wp2_with fail
 refine (decide_run HP.out.gw Q1.out Q2.out).mono ?_
 rintro e w4 ⟨rfl, hd⟩
 have HP := Lib.hid (HP.out.next hd)
 clear hd Q1 Q2
 go_wp2_with fail
 have HP := Lib.hid (HP.out.next ((Below.refl _ _).drew))
 have tok1 : True := trivial
 have tok2 : True := trivial
 have tok3 : True := trivial
 have tok4 : True := trivial
 go_region_held3 (fun w' => w'.cell? ⟨G, 0, none⟩ = some (.bool false) ∧ w'.cell? ⟨G, 1, none⟩ = some (.slice A 1 c) ∧ w'.cell? ⟨G, 2, none⟩ = some (.int .i64 (-1075)) ∧ w'.cell? ⟨G, 3, none⟩ = some (.bool false) ∧ w'.cell? ⟨G, 4, none⟩ = some (.slice A' 1 c') ∧ w'.cell? ⟨G, 5, none⟩ = some (.int .i64 (-1075)))
  (exact HP.out.cells)
  (first
   | (go_at_call 12; have _t := tok1; (with_reducible refine (num_run e3 HP.out.gw).mono ?_); rintro e_ wx1 ⟨B, d, rfl, q, hd⟩; have HP := Lib.hid (HP.out.next hd); have Q1 := Lib.hid q; clear tok1 hd q)
   | (go_at_call 12; have _t := tok2; (with_reducible refine (num_run e4 HP.out.gw).mono ?_); rintro e_ wx2 ⟨B', d', rfl, q, hd⟩; have HP := Lib.hid (HP.out.next hd); have Q1 := Lib.hid (Q1.out.next hd); have Q2 := Lib.hid q; clear tok2 hd q)
   | (go_at_call 31; have _t := tok3; (with_reducible refine (spans_run HP.out.gw HP.out.lo HP.out.hi Q1.out Q2.out).mono ?_); rintro e_ wx3 ⟨rfl, hd⟩; have HP := Lib.hid (HP.out.next hd); clear tok3 hd)
   | (go_at_call 29; have _t := tok4; (with_reducible refine (all_any a len cap 2 3 W _ HS.out HP.out.below HP.out.gw hn plays_23).mono ?_); rintro e_ wx4 ⟨rfl, hd⟩; have HP := Lib.hid (HP.out.next hd); clear tok4 hd))
 go_wp2_with fail
 go_ret
 exact ⟨rfl, HP.out.below⟩
end Go.Proofs.YtelfmddcjlocpaaGreatDoor.RnCeW
end
