/- How a script of calls on double-doubles opens. No condition beyond the rows' own. The walks of the laws DdSums and DdDivs: they return true, and the world has at most new blocks. Conditions: the script reads as calls; math/bits' table. -/
import Derived.Test.YtapikmfckpgjoaaGreatDoorKDdDivsRnd
import Derived.Test.YtapikmfckpgjoaaGreatDoorKDdDivsDdAll
section
namespace Go.Proofs.YtapikmfckpgjoaaGreatDoor.DdRow
open Go.ChangeShapes Go.WideShapes Go.ChangeAt Go.RowKit Go.Deep Go.Proofs.YtapikmfckpgjoaaGreatDoorW.PrintWords Go.Proofs.YtapikmfckpgjoaaGreatDoor.Row8
set_option linter.unusedVariables false
set_option maxRecDepth 100000 in
theorem pair_cells {H : Type} {enc : TypeId × Value → H} {w : World} {base fuel : Nat} {spare : Nat → Bool} {held : Bool} {c0 c1 : Value} {y : DataW H × List MemPlace} (h : DataW.trod enc Tryz.prog w base spare held fuel 28 [c0, c1] = some y) :
  ∃ p q : Int, c0 = .int .u64 p ∧ c1 = .int .u64 q ∧ (Lit.int .u64 p).wf = true ∧ (Lit.int .u64 q).wf = true := by
 obtain ⟨xs, n, _, _, hc, hx, hg⟩ := DataW.trod_struct Tryz.underlying28 h
 have hx2 : xs.length = 2 := hx
 match xs, hx2 with
 | [y0, y1], _ =>
  have g0 : DataW.trod enc Tryz.prog w base spare held n 26 [c0] = some y0 := hg 0 _ rfl
  have g1 : DataW.trod enc Tryz.prog w base spare held n 26 [c1] = some y1 := hg 1 _ rfl
  obtain ⟨e0, q0, _, w0⟩ := DataW.trod_int Tryz.underlying26 g0
  obtain ⟨e1, q1, _, w1⟩ := DataW.trod_int Tryz.underlying26 g1
  obtain rfl := List.head_eq_of_cons_eq q0
  obtain rfl := List.head_eq_of_cons_eq q1
  exact ⟨e0, e1, rfl, rfl, w0, w1⟩
set_option maxRecDepth 100000 in
theorem op_cells {H : Type} {enc : TypeId × Value → H} {w : World} {base fuel : Nat} {spare : Nat → Bool} {held : Bool} {cs : List Value} {y : DataW H × List MemPlace} (h : DataW.trod enc Tryz.prog w base spare held fuel 64 cs = some y) :
  ∃ k p q r s : Int, cs = [.int .i64 k, .int .u64 p, .int .u64 q, .int .u64 r, .int .u64 s] ∧ (Lit.int .u64 p).wf = true ∧ (Lit.int .u64 q).wf = true ∧ (Lit.int .u64 r).wf = true ∧ (Lit.int .u64 s).wf = true := by
 obtain ⟨xs, n, _, _, hc, hx, hg⟩ := DataW.trod_struct Tryz.underlying64 h
 have hc : cs.length = 5 := hc.trans (show Tryz.prog.cellsOf 64 = 5 by kernel_rfl)
 have hx2 : xs.length = 3 := hx
 match cs, hc, xs, hx2 with
 | [c0, c1, c2, c3, c4], _, [y0, y1, y2], _ =>
  have g0 : DataW.trod enc Tryz.prog w base spare held n 3 [c0] = some y0 := hg 0 _ rfl
  have g1 : DataW.trod enc Tryz.prog w base spare held n 28 [c1, c2] = some y1 := hg 1 _ rfl
  have g2 : DataW.trod enc Tryz.prog w base spare held n 28 [c3, c4] = some y2 := hg 2 _ rfl
  obtain ⟨k, q0, _, _⟩ := DataW.trod_int Tryz.underlying3 g0
  obtain rfl := List.head_eq_of_cons_eq q0
  obtain ⟨p, q, rfl, rfl, w1, w2⟩ := pair_cells g1
  obtain ⟨r, s, rfl, rfl, w3, w4⟩ := pair_cells g2
  exact ⟨k, p, q, r, s, rfl, w1, w2, w3, w4⟩
set_option maxRecDepth 100000 in
theorem sized {H : Type} {enc : TypeId × Value → H} {W : World} {base : Nat} {held : Bool} {a : Option Addr} {len cap : Nat} {d : DataW H} {ps : List MemPlace} {ts : List TypeId} {ds : List (DataW H)} {j : Nat}
  (hsz : (DataW.weightsEach Tryz.prog ts ds).all (· ≤ reachBytes) = true) (ht : ts[j]? = some 22) (hd : ds[j]? = some d) (h : DataW.Trod enc Tryz.prog W base (fun _ => true) held 22 (.slice a len cap) d ps) : len < 9000000000000000000 ∧ DdAll.IsOps W a len := by
 obtain ⟨fuel, hf⟩ := h
 rcases open_slice Tryz.underlying22 hf with ⟨hcs, _⟩ | ⟨x, l, c, m, n, D, Pl, hcs, _, hl, _, hm, hx, hi⟩
 ·simp [Value.cells] at hcs
  obtain ⟨rfl, rfl, rfl⟩ := hcs
  exact ⟨by omega, .inl rfl⟩
 ·simp [Value.cells] at hcs
  obtain ⟨rfl, rfl, rfl⟩ := hcs
  rw [if_pos rfl] at hm
  subst hm
  obtain ⟨hx, _⟩ := Prod.mk.inj hx
  subst hx
  have z := sized_slice hsz ht hd Tryz.underlying22
  have hb : Tryz.prog.bytesOf 64 = 40 := by kernel_rfl
  have hr : reachBytes < 140737488355328 := by decide
  have hC : Tryz.prog.cellsOf 64 = 5 := by kernel_rfl
  rw [hb, List.length_map, List.length_range] at z
  refine ⟨by omega, .inr ⟨x, rfl, fun i hil => ?_⟩⟩
  obtain ⟨cs, hc, ht'⟩ := hi i (by omega)
  rw [hC] at hc
  obtain ⟨k, p, q, r, s, rfl, w1, w2, w3, w4⟩ := op_cells ht'
  obtain ⟨_, hcl, hat⟩ := World.cells?_some hc
  have at' : ∀ (t : Nat) (v : Value), t < 5 → [Value.int .i64 k, .int .u64 p, .int .u64 q, .int .u64 r, .int .u64 s][t]? = some v → W.cell? (x.add (i * 5 + t)) = some v := by
   intro t v ht hv
   rw [← Go.Deep.add_add, hat t ht, hv]
  exact ⟨k, p, q, r, s, at' 0 _ (by decide) rfl, at' 1 _ (by decide) rfl, at' 2 _ (by decide) rfl, at' 3 _ (by decide) rfl, at' 4 _ (by decide) rfl, w1, w2, w3, w4⟩
end Go.Proofs.YtapikmfckpgjoaaGreatDoor.DdRow
end
section
namespace Go.Proofs.YtapikmfckpgjoaaGreatDoor.DdScrW
open Go.RowKit Go.Proofs.YtapikmfckpgjoaaGreatDoorW.PrintWords Go.Proofs.YtapikmfckpgjoaaGreatDoorW.PrintMore Go.Proofs.YtapikmfckpgjoaaGreatDoorW.PrintLast Go.Proofs.YtapikmfckpgjoaaGreatDoor.GBase Go.Proofs.YtapikmfckpgjoaaGreatDoor.DdAll Go.Proofs.YtapikmfckpgjoaaGreatDoor.Px
theorem divs_any (a : Option Addr) (len cap : Nat) (W : World) (hs : IsOps W a len) (hn : len < 9000000000000000000) (gw : Gw W) : Calls Tryz.prog 6 #[.slice a len cap] W (OnW W) := by
 have HS := Lib.hid hs
 have HG := Lib.hid gw
 clear hs gw
 go_enter Tryz.func6, Tryz.ntmps6
 go_wp2_with fail
 refine (awake_run HG.out).mono ?_
 rintro e w1 ⟨rfl, h1⟩
 have HB := Lib.hid h1
 clear h1
 go_wp2_with fail
 refine (all_any Gw Gw_next a len cap 12 12 W _ HS.out HB.out (Gw_next _ _ HG.out HB.out) hn (plays_ok (by decide) (by decide))).mono ?_
 rintro e w2 ⟨rfl, h2⟩
 have HB := Lib.hid (on HB.out h2)
 clear h2
 go_wp2_with fail
 go_ret
 exact ⟨rfl, HB.out⟩
end Go.Proofs.YtapikmfckpgjoaaGreatDoor.DdScrW
end
