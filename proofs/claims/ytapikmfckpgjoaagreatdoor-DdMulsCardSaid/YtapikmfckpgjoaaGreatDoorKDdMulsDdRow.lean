/- The walk of the law's script loop: where each call of the kinds between returns true, the loop returns true. Conditions: the script's cells are as told; math/bits' table. How a script of calls on double-doubles opens. No condition beyond the rows' own. -/
import Derived.Test.YtapikmfckpgjoaaGreatDoorKDdMulsRnd
import Derived.Deep.LoopGhost
import Derived.Test.YtapikmfckpgjoaaGreatDoorKDdMulsDdRe
import Derived.Test.YtapikmfckpgjoaaGreatDoorKDdMulsGA
import Derived.Test.YtapikmfckpgjoaaGreatDoorKDdMulsPxP0
import Derived.Test.YtapikmfckpgjoaaGreatDoorKDdMulsPxL2
section
namespace Go.Proofs.YtapikmfckpgjoaaGreatDoor.DdAll
open Go.RowKit Go.Proofs.YtapikmfckpgjoaaGreatDoorW.PrintWords Go.Proofs.YtapikmfckpgjoaaGreatDoorW.PrintMore Go.Proofs.YtapikmfckpgjoaaGreatDoorW.PrintLast Go.Proofs.YtapikmfckpgjoaaGreatDoor.GBase
def OnW (W : World) : Ending → World → Prop := fun e w' => e = .returned (.bool true) ∧ Below W.heap.size W w'
def PlaysOk (I : World → Prop) (lo hi : Int) : Prop := ∀ (k : Int) (a b c d : Nat) (w : World), I w → lo ≤ k → k ≤ hi → a < 18446744073709551616 → b < 18446744073709551616 → c < 18446744073709551616 → d < 18446744073709551616 →
 Calls Tryz.prog 35 #[.agg #[.int .i64 k, .int .u64 a, .int .u64 b, .int .u64 c, .int .u64 d]] w (OnW w)
structure Scr (W : World) (b o n : Nat) (kd : Nat → Int) (x1 x2 x3 x4 : Nat → Nat) : Prop where mk :: (h : ∀ i, i < n → W.cell? ⟨b, o + i * 5, none⟩ = some (.int .i64 (kd i)) ∧ W.cell? ⟨b, o + i * 5 + 1, none⟩ = some (.int .u64 (x1 i : Nat)) ∧ W.cell? ⟨b, o + i * 5 + 2, none⟩ = some (.int .u64 (x2 i : Nat)) ∧ W.cell? ⟨b, o + i * 5 + 3, none⟩ = some (.int .u64 (x3 i : Nat)) ∧ W.cell? ⟨b, o + i * 5 + 4, none⟩ = some (.int .u64 (x4 i : Nat)) ∧ x1 i < 18446744073709551616 ∧ x2 i < 18446744073709551616 ∧ x3 i < 18446744073709551616 ∧ x4 i < 18446744073709551616)
structure IW (I : World → Prop) (W w : World) : Prop where mk :: (inv : I w) (below : Below W.heap.size W w)
set_option maxRecDepth 100000 in
set_option maxHeartbeats 4000000 in
theorem all_walk (I : World → Prop) (hI : ∀ w w' : World, I w → Below w.heap.size w w' → I w') (b o n cap : Nat) (kd : Nat → Int) (x1 x2 x3 x4 : Nat → Nat) (lo hi : Int) (W : World) (hW : I W) (hn : 0 < n) (hn2 : n < 9000000000000000000)
  (hs : Scr W b o n kd x1 x2 x3 x4) (hp : PlaysOk I lo hi) :
  Calls Tryz.prog 10 #[.slice (some ⟨b, o, none⟩) n cap, .int .i64 lo, .int .i64 hi] W (OnW W) := by
 have HI := Lib.hid hI
 have HS := Lib.hid hs
 have HP := Lib.hid hp
 have hb : b < W.heap.size := World.block_lt_of_cell? _ _ (hs.h 0 hn).1
 have H0 := Lib.hid (IW.mk (W := W) hW (Below.refl _ _))
 clear hs hp hI hW
 go_enter Tryz.func10, Tryz.ntmps10
 go_wp2_with fail
 go_loopg [11] n (fun g i wr => ∃ k : Nat, k ≤ n ∧ g = n - k ∧ i = .int .i64 k ∧ IW I W wr)
 case atStart => exact ⟨0, by omega, rfl, rfl, H0.out⟩
 case round =>
  obtain ⟨k, hk, rfl, rfl, hR⟩ := hrel
  have HR := Lib.hid hR
  clear hR H0
  by_cases hlt : k < n
  ·obtain ⟨a1, a2, a3, a4, a5, y1, y2, y3, y4⟩ := HS.out.h k hlt
   have c1 : wr.cell? ⟨b, o + k * 5, none⟩ = some (.int .i64 (kd k)) := by rw [HR.out.below.cell (p := ⟨b, o + k * 5, none⟩) hb]; exact a1
   have c2 : wr.cell? ⟨b, o + k * 5 + 1, none⟩ = some (.int .u64 (x1 k : Nat)) := by rw [HR.out.below.cell (p := ⟨b, o + k * 5 + 1, none⟩) hb]; exact a2
   have c3 : wr.cell? ⟨b, o + k * 5 + 2, none⟩ = some (.int .u64 (x2 k : Nat)) := by rw [HR.out.below.cell (p := ⟨b, o + k * 5 + 2, none⟩) hb]; exact a3
   have c4 : wr.cell? ⟨b, o + k * 5 + 3, none⟩ = some (.int .u64 (x3 k : Nat)) := by rw [HR.out.below.cell (p := ⟨b, o + k * 5 + 3, none⟩) hb]; exact a4
   have c5 : wr.cell? ⟨b, o + k * 5 + 4, none⟩ = some (.int .u64 (x4 k : Nat)) := by rw [HR.out.below.cell (p := ⟨b, o + k * 5 + 4, none⟩) hb]; exact a5
   have hy := Lib.hid (And.intro y1 (And.intro y2 (And.intro y3 y4)))
   clear a1 a2 a3 a4 a5 y1 y2 y3 y4
   generalize kd k = K at *
   generalize x1 k = X1 at *
   generalize x2 k = X2 at *
   generalize x3 k = X3 at *
   generalize x4 k = X4 at *
   have hk2 : k + 1 ≤ n := hlt
   have hg1 : n - (k + 1) < n - k := by omega
   have HR2 := Lib.hid (IW.mk (HI.out _ _ HR.out.inv (box wr (Obj.cells #[.int .i64 K, .int .u64 X1, .int .u64 X2, .int .u64 X3, .int .u64 X4] 64))) (on HR.out.below (box wr _)))
   by_cases h1 : lo ≤ K
   ·have d1 : decide (lo ≤ K) = true := decide_eq_true h1
    by_cases h2 : K ≤ hi
    ·have d2 : decide (K ≤ hi) = true := decide_eq_true h2
     go_wp2_with fail
     refine (HP.out K X1 X2 X3 X4 _ HR2.out.inv h1 h2 hy.out.1 hy.out.2.1 hy.out.2.2.1 hy.out.2.2.2).mono ?_
     rintro e1 v1 ⟨rfl, hd⟩
     have HNX : Hid (IW I W v1) := Lib.hid ⟨HI.out _ _ HR2.out.inv hd, on HR2.out.below hd⟩
     clear hd c1 c2 c3 c4 c5 hy
     go_wp2_with fail
     go_roundg (n - (k + 1))
     case measure => exact hg1
     case rel => exact ⟨k + 1, hk2, rfl, rfl, HNX.out⟩
    ·have d2 : decide (K ≤ hi) = false := decide_eq_false h2
     go_wp2_with fail
     go_roundg (n - (k + 1))
     case measure => exact hg1
     case rel => exact ⟨k + 1, hk2, rfl, rfl, HR2.out⟩
   ·have d1 : decide (lo ≤ K) = false := decide_eq_false h1
    go_wp2_with fail
    go_roundg (n - (k + 1))
    case measure => exact hg1
    case rel => exact ⟨k + 1, hk2, rfl, rfl, HR2.out⟩
  ·obtain rfl : k = n := by omega
   have hltb : decide ((k : Int) < (k : Int)) = false := decide_eq_false (by omega)
   go_wp2_with fail
   go_ret
   exact ⟨rfl, HR.out.below⟩
theorem all_none (a : Option Addr) (cap : Nat) (lo hi : Int) (W : World) : Calls Tryz.prog 10 #[.slice a 0 cap, .int .i64 lo, .int .i64 hi] W (OnW W) := by
 go_enter Tryz.func10, Tryz.ntmps10
 go_wp2_with fail
 go_loopg [11] 0 (fun g i wr => g = 0 ∧ i = .int .i64 0 ∧ Below W.heap.size W wr)
 case atStart => exact ⟨rfl, rfl, Below.refl _ _⟩
 case round =>
  obtain ⟨rfl, rfl, hR⟩ := hrel
  go_wp2_with fail
  go_ret
  exact ⟨rfl, hR⟩
def IsOps (w : World) (a : Option Addr) (len : Nat) : Prop :=
 len = 0 ∨ ∃ x, a = some x ∧ ∀ i, i < len → ∃ (k p q r s : Int), w.cell? (x.add (i * 5)) = some (.int .i64 k) ∧ w.cell? (x.add (i * 5 + 1)) = some (.int .u64 p) ∧ w.cell? (x.add (i * 5 + 2)) = some (.int .u64 q) ∧ w.cell? (x.add (i * 5 + 3)) = some (.int .u64 r) ∧ w.cell? (x.add (i * 5 + 4)) = some (.int .u64 s) ∧ (Lit.int .u64 p).wf = true ∧ (Lit.int .u64 q).wf = true ∧ (Lit.int .u64 r).wf = true ∧ (Lit.int .u64 s).wf = true
structure ScrE (W : World) (b o n : Nat) : Prop where mk :: (h : ∃ (kd : Nat → Int) (x1 x2 x3 x4 : Nat → Nat), Scr W b o n kd x1 x2 x3 x4)
theorem IsOps.open {W : World} {a : Option Addr} {len : Nat} (h : IsOps W a len) (h0 : len ≠ 0) : ∃ b o, a = some ⟨b, o, none⟩ ∧ ScrE W b o len := by
 rcases h with h | ⟨⟨b, o, sp⟩, rfl, h⟩
 ·exact absurd h h0
 have hsp : sp = none := by
  obtain ⟨p, _, _, _, _, hc, _⟩ := h 0 (by omega)
  have e : (⟨b, o, sp⟩ : Addr).add (0 * 5) = ⟨b, o, sp⟩ := by unfold Addr.add; rw [if_pos rfl]
  rw [e] at hc
  cases sp with
  | none => rfl
  | some s =>
   exfalso
   unfold World.cell? at hc
   simp at hc
   split at hc <;> cases hc
 subst hsp
 have ea : ∀ k, (⟨b, o, none⟩ : Addr).add k = ⟨b, o + k, none⟩ := by intro k; unfold Addr.add; split <;> simp <;> omega
 have h' : ∀ i, ∃ t : Int × Nat × Nat × Nat × Nat, i < len → W.cell? ⟨b, o + i * 5, none⟩ = some (.int .i64 t.1) ∧ W.cell? ⟨b, o + i * 5 + 1, none⟩ = some (.int .u64 (t.2.1 : Nat)) ∧ W.cell? ⟨b, o + i * 5 + 2, none⟩ = some (.int .u64 (t.2.2.1 : Nat)) ∧ W.cell? ⟨b, o + i * 5 + 3, none⟩ = some (.int .u64 (t.2.2.2.1 : Nat)) ∧ W.cell? ⟨b, o + i * 5 + 4, none⟩ = some (.int .u64 (t.2.2.2.2 : Nat)) ∧ t.2.1 < 18446744073709551616 ∧ t.2.2.1 < 18446744073709551616 ∧ t.2.2.2.1 < 18446744073709551616 ∧ t.2.2.2.2 < 18446744073709551616 := by
  intro i
  by_cases hi : i < len
  ·obtain ⟨k, p, q, r, s, c1, c2, c3, c4, c5, f1, f2, f3, f4⟩ := h i hi
   obtain ⟨p, rfl, hp⟩ := DdWi.wi_u64 f1
   obtain ⟨q, rfl, hq⟩ := DdWi.wi_u64 f2
   obtain ⟨r, rfl, hr⟩ := DdWi.wi_u64 f3
   obtain ⟨s, rfl, hs⟩ := DdWi.wi_u64 f4
   rw [ea] at c1 c2 c3 c4 c5
   exact ⟨(k, p, q, r, s), fun _ => ⟨c1, c2, c3, c4, c5, hp, hq, hr, hs⟩⟩
  ·exact ⟨(0, 0, 0, 0, 0), fun h => absurd h hi⟩
 obtain ⟨t, ht⟩ := Classical.skolem.1 h'
 exact ⟨b, o, rfl, ⟨fun i => (t i).1, fun i => (t i).2.1, fun i => (t i).2.2.1, fun i => (t i).2.2.2.1, fun i => (t i).2.2.2.2, ⟨ht⟩⟩⟩
theorem Scr.below {W w : World} {b o n : Nat} {kd : Nat → Int} {x1 x2 x3 x4 : Nat → Nat} (h : Scr W b o n kd x1 x2 x3 x4) (hn : 0 < n) (d : Below W.heap.size W w) : Scr w b o n kd x1 x2 x3 x4 := by
 have hb : b < W.heap.size := World.block_lt_of_cell? _ _ (h.h 0 hn).1
 refine ⟨fun i hi => ?_⟩
 obtain ⟨a1, a2, a3, a4, a5, r⟩ := h.h i hi
 exact ⟨by rw [d.cell (p := ⟨b, o + i * 5, none⟩) hb]; exact a1, by rw [d.cell (p := ⟨b, o + i * 5 + 1, none⟩) hb]; exact a2, by rw [d.cell (p := ⟨b, o + i * 5 + 2, none⟩) hb]; exact a3, by rw [d.cell (p := ⟨b, o + i * 5 + 3, none⟩) hb]; exact a4, by rw [d.cell (p := ⟨b, o + i * 5 + 4, none⟩) hb]; exact a5, r⟩
theorem all_any (I : World → Prop) (hI : ∀ w w' : World, I w → Below w.heap.size w w' → I w') (a : Option Addr) (len cap : Nat) (lo hi : Int) (W w : World) (hs : IsOps W a len) (hd : Below W.heap.size W w) (hW : I w) (hn2 : len < 9000000000000000000)
  (hp : PlaysOk I lo hi) : Calls Tryz.prog 10 #[.slice a len cap, .int .i64 lo, .int .i64 hi] w (OnW w) := by
 by_cases h0 : len = 0
 ·subst h0; exact all_none _ _ _ _ _
 obtain ⟨b, o, rfl, kd, x1, x2, x3, x4, h⟩ := hs.open h0
 exact all_walk I hI b o len cap kd x1 x2 x3 x4 lo hi w hW (by omega) hn2 (h.below (by omega) hd) hp
open Go.Proofs.YtapikmfckpgjoaaGreatDoor.Px in
theorem plays_ok {lo hi : Int} (h6 : 6 ≤ lo) (h12 : hi ≤ 12) : PlaysOk Gw lo hi := by
 intro k a b c d w gw h1 h2 ha hb hc hd
 obtain ⟨n, hn⟩ := (DdRe.plays_ev k a b c d (by omega) (by omega) ha hb hc hd).rounds
 exact run_t (PLib.gnomonlaw20_plays.c hn) gw (.cons ⟨[_, _, _, _, _], rfl, .cons rfl (.cons rfl (.cons rfl (.cons rfl (.cons rfl .nil))))⟩ .nil)
open Go.Proofs.YtapikmfckpgjoaaGreatDoor.Px in
theorem awake_run {w : World} (gw : Gw w) : Calls Tryz.prog 9 #[] w (OnW w) :=
 run_t (PLib.gnomonlaw20_awake.c DdWi.wi_awake) gw .nil
end Go.Proofs.YtapikmfckpgjoaaGreatDoor.DdAll
end
section
namespace Go.Proofs.YtapikmfckpgjoaaGreatDoor.DdRow
open Go.ChangeShapes Go.WideShapes Go.ChangeAt Go.RowKit Go.Deep Go.Proofs.YtapikmfckpgjoaaGreatDoorW.PrintWords Go.Proofs.YtapikmfckpgjoaaGreatDoor.Row8
set_option linter.unusedVariables false
set_option maxRecDepth 100000 in
theorem pair_cells {H : Type} {enc : TypeId × Value → H} {w : World} {base fuel : Nat} {spare : Nat → Bool} {held : Bool} {c0 c1 : Value} {y : DataW H × List MemPlace} (h : DataW.trod enc Tryz.prog w base spare held fuel 28 [c0, c1] = some y) :
  ∃ p q : Int, c0 = .int .u64 p ∧ c1 = .int .u64 q ∧ (Lit.int .u64 p).wf = true ∧ (Lit.int .u64 q).wf = true := by
 obtain ⟨xs, n, _, _, hc, hx, hg⟩ := DataW.trod_struct Tryz.underlying28 h
 have hx2 : xs.length = 2 := hx
 match xs, hx2 with
 | [y0, y1], _ =>
  have g0 : DataW.trod enc Tryz.prog w base spare held n 26 [c0] = some y0 := hg 0 _ rfl
  have g1 : DataW.trod enc Tryz.prog w base spare held n 26 [c1] = some y1 := hg 1 _ rfl
  obtain ⟨e0, q0, _, w0⟩ := DataW.trod_int Tryz.underlying26 g0
  obtain ⟨e1, q1, _, w1⟩ := DataW.trod_int Tryz.underlying26 g1
  obtain rfl := List.head_eq_of_cons_eq q0
  obtain rfl := List.head_eq_of_cons_eq q1
  exact ⟨e0, e1, rfl, rfl, w0, w1⟩
set_option maxRecDepth 100000 in
theorem op_cells {H : Type} {enc : TypeId × Value → H} {w : World} {base fuel : Nat} {spare : Nat → Bool} {held : Bool} {cs : List Value} {y : DataW H × List MemPlace} (h : DataW.trod enc Tryz.prog w base spare held fuel 64 cs = some y) :
  ∃ k p q r s : Int, cs = [.int .i64 k, .int .u64 p, .int .u64 q, .int .u64 r, .int .u64 s] ∧ (Lit.int .u64 p).wf = true ∧ (Lit.int .u64 q).wf = true ∧ (Lit.int .u64 r).wf = true ∧ (Lit.int .u64 s).wf = true := by
 obtain ⟨xs, n, _, _, hc, hx, hg⟩ := DataW.trod_struct Tryz.underlying64 h
 have hc : cs.length = 5 := hc.trans (show Tryz.prog.cellsOf 64 = 5 by kernel_rfl)
 have hx2 : xs.length = 3 := hx
 match cs, hc, xs, hx2 with
 | [c0, c1, c2, c3, c4], _, [y0, y1, y2], _ =>
  have g0 : DataW.trod enc Tryz.prog w base spare held n 3 [c0] = some y0 := hg 0 _ rfl
  have g1 : DataW.trod enc Tryz.prog w base spare held n 28 [c1, c2] = some y1 := hg 1 _ rfl
  have g2 : DataW.trod enc Tryz.prog w base spare held n 28 [c3, c4] = some y2 := hg 2 _ rfl
  obtain ⟨k, q0, _, _⟩ := DataW.trod_int Tryz.underlying3 g0
  obtain rfl := List.head_eq_of_cons_eq q0
  obtain ⟨p, q, rfl, rfl, w1, w2⟩ := pair_cells g1
  obtain ⟨r, s, rfl, rfl, w3, w4⟩ := pair_cells g2
  exact ⟨k, p, q, r, s, rfl, w1, w2, w3, w4⟩
set_option maxRecDepth 100000 in
theorem sized {H : Type} {enc : TypeId × Value → H} {W : World} {base : Nat} {held : Bool} {a : Option Addr} {len cap : Nat} {d : DataW H} {ps : List MemPlace} {ts : List TypeId} {ds : List (DataW H)} {j : Nat}
  (hsz : (DataW.weightsEach Tryz.prog ts ds).all (· ≤ reachBytes) = true) (ht : ts[j]? = some 22) (hd : ds[j]? = some d) (h : DataW.Trod enc Tryz.prog W base (fun _ => true) held 22 (.slice a len cap) d ps) : len < 9000000000000000000 ∧ DdAll.IsOps W a len := by
 obtain ⟨fuel, hf⟩ := h
 rcases open_slice Tryz.underlying22 hf with ⟨hcs, _⟩ | ⟨x, l, c, m, n, D, Pl, hcs, _, hl, _, hm, hx, hi⟩
 ·simp [Value.cells] at hcs
  obtain ⟨rfl, rfl, rfl⟩ := hcs
  exact ⟨by omega, .inl rfl⟩
 ·simp [Value.cells] at hcs
  obtain ⟨rfl, rfl, rfl⟩ := hcs
  rw [if_pos rfl] at hm
  subst hm
  obtain ⟨hx, _⟩ := Prod.mk.inj hx
  subst hx
  have z := sized_slice hsz ht hd Tryz.underlying22
  have hb : Tryz.prog.bytesOf 64 = 40 := by kernel_rfl
  have hr : reachBytes < 140737488355328 := by decide
  have hC : Tryz.prog.cellsOf 64 = 5 := by kernel_rfl
  rw [hb, List.length_map, List.length_range] at z
  refine ⟨by omega, .inr ⟨x, rfl, fun i hil => ?_⟩⟩
  obtain ⟨cs, hc, ht'⟩ := hi i (by omega)
  rw [hC] at hc
  obtain ⟨k, p, q, r, s, rfl, w1, w2, w3, w4⟩ := op_cells ht'
  obtain ⟨_, hcl, hat⟩ := World.cells?_some hc
  have at' : ∀ (t : Nat) (v : Value), t < 5 → [Value.int .i64 k, .int .u64 p, .int .u64 q, .int .u64 r, .int .u64 s][t]? = some v → W.cell? (x.add (i * 5 + t)) = some v := by
   intro t v ht hv
   rw [← Go.Deep.add_add, hat t ht, hv]
  exact ⟨k, p, q, r, s, at' 0 _ (by decide) rfl, at' 1 _ (by decide) rfl, at' 2 _ (by decide) rfl, at' 3 _ (by decide) rfl, at' 4 _ (by decide) rfl, w1, w2, w3, w4⟩
end Go.Proofs.YtapikmfckpgjoaaGreatDoor.DdRow
end
