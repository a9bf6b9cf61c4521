/- How a script of layer 8's calls opens. No condition beyond the rows' own. -/
import Derived.Test.YtelfmddcjlocpaaGreatDoorKRoundNarrowsPxA
import Derived.Test.YtelfmddcjlocpaaGreatDoorKRoundNarrowsRnAll
namespace Go.Proofs.YtelfmddcjlocpaaGreatDoor.RnRow
open Go.ChangeShapes Go.WideShapes Go.ChangeAt Go.RowKit Go.Deep Go.Proofs.YtelfmddcjlocpaaGreatDoorW.PrintWords Go.Proofs.YtelfmddcjlocpaaGreatDoor.Row8 Go.Proofs.YtelfmddcjlocpaaGreatDoor.RowW Go.Proofs.YtelfmddcjlocpaaGreatDoor.RnAll
set_option linter.unusedVariables false
theorem rep_isL {w : World} {A : Option Addr} {len cap : Nat} {l : List Int} (h : IsL w A len cap l) : Px.RepV w N0 Px.none' (.s (.sl .u64 l)) (.slice A len cap) := by
 obtain rfl := h.len
 exact Px.r_sl h.c h.cap
set_option maxRecDepth 100000 in
theorem op_cells {H : Type} {enc : TypeId × Value → H} {w : World} {base fuel : Nat} {spare : Nat → Bool} {held : Bool} {cs : List Value} {y : DataW H × List MemPlace} (h : DataW.trod enc Tryz.prog w base spare held fuel 55 cs = some y) (hw : Wt 55 y.1) :
  ∃ t : El, cs = [.int .i64 t.kd, .int .i64 t.fm, .bool t.na, .slice t.aa t.ln t.ca, .int .i64 t.ea, .bool t.nb, .slice t.ab t.lm t.cb, .int .i64 t.eb, .int .u64 t.wd] ∧ Ok w t := by
 obtain ⟨xs, n, _, hy, hc, hx, hg⟩ := DataW.trod_struct Tryz.underlying55 h
 have hc : cs.length = 9 := hc.trans (show Tryz.prog.cellsOf 55 = 9 by kernel_rfl)
 have hx2 : xs.length = 5 := hx
 match cs, hc, xs, hx2 with
 | [c0, c1, c2, c3, c4, c5, c6, c7, c8], _, [y0, y1, y2, y3, y4], _ =>
  have hx1 : y.1 = .agg [y0.1, y1.1, y2.1, y3.1, y4.1] := by rw [hy]; rfl
  rw [hx1] at hw
  have w2 : Wt 26 y2.1 := hw.part Tryz.underlying55 (j := 2) rfl rfl
  have w3 : Wt 26 y3.1 := hw.part Tryz.underlying55 (j := 3) rfl rfl
  have g0 : DataW.trod enc Tryz.prog w base spare held n 3 [c0] = some y0 := hg 0 _ rfl
  have g1 : DataW.trod enc Tryz.prog w base spare held n 3 [c1] = some y1 := hg 1 _ rfl
  have g2 : DataW.trod enc Tryz.prog w base spare held n 26 [c2, c3, c4] = some y2 := hg 2 _ rfl
  have g3 : DataW.trod enc Tryz.prog w base spare held n 26 [c5, c6, c7] = some y3 := hg 3 _ rfl
  have g4 : DataW.trod enc Tryz.prog w base spare held n 29 [c8] = some y4 := hg 4 _ rfl
  obtain ⟨k, q0, _, _⟩ := DataW.trod_int Tryz.underlying3 g0
  obtain ⟨f, q1, _, wf⟩ := DataW.trod_int Tryz.underlying3 g1
  obtain ⟨na, aa, la, ca, ml, ea, q2, h2, s2, e2⟩ := dy_w g2 w2
  obtain ⟨nb, ab, lb, cb, mm, eb, q3, h3, s3, e3⟩ := dy_w g3 w3
  obtain ⟨wd, q4, _, ww⟩ := DataW.trod_int Tryz.underlying29 g4
  obtain rfl := List.head_eq_of_cons_eq q0
  obtain rfl := List.head_eq_of_cons_eq q1
  injection q2 with r1 q2
  injection q2 with r2 q2
  injection q2 with r3 q2
  injection q3 with r4 q3
  injection q3 with r5 q3
  injection q3 with r6 q3
  subst r1; subst r2; subst r3; subst r4; subst r5; subst r6
  obtain rfl := List.head_eq_of_cons_eq q4
  have e1 : IntKind.u64.min = 0 := rfl
  have e9 : IntKind.u64.max = 18446744073709551615 := rfl
  have hh : IntKind.u64.min ≤ wd ∧ wd ≤ IntKind.u64.max := by simpa [Lit.wf] using ww
  obtain ⟨wn, rfl⟩ : ∃ m : Nat, wd = (m : Int) := ⟨wd.toNat, by omega⟩
  exact ⟨⟨k, f, na, aa, la, ca, ml, ea, nb, ab, lb, cb, mm, eb, wn⟩, rfl, ⟨wf, rep_isL h2, h2.wf, by have := h2.len; show ml.length ≤ _; omega, e2, rep_isL h3, h3.wf, by have := h3.len; show mm.length ≤ _; omega, e3, by show wn < _; omega⟩⟩
theorem sized {H : Type} {enc : TypeId × Value → H} {W : World} {base : Nat} {held : Bool} {a : Option Addr} {len cap : Nat} {d : DataW H} {ps : List MemPlace} {ts : List TypeId} {ds : List (DataW H)} {j : Nat}
  (hsz : (DataW.weightsEach Tryz.prog ts ds).all (· ≤ reachBytes) = true) (ht : ts[j]? = some 52) (hd : ds[j]? = some d) (h : DataW.Trod enc Tryz.prog W base (fun _ => true) held 52 (.slice a len cap) d ps) : len < 9000000000000000000 ∧ IsOps W a len := by
 obtain ⟨fuel, hf⟩ := h
 have hw := Wt.of_each hsz ht hd
 rcases open_slice Tryz.underlying52 hf with ⟨hcs, _⟩ | ⟨x, l, c, m, n, D, Pl, hcs, _, hl, _, hm, hx, hi⟩
 ·simp [Value.cells] at hcs
  obtain ⟨rfl, rfl, rfl⟩ := hcs
  exact ⟨by omega, .inl rfl⟩
 ·simp [Value.cells] at hcs
  obtain ⟨rfl, rfl, rfl⟩ := hcs
  rw [if_pos rfl] at hm
  subst hm
  obtain ⟨hx, _⟩ := Prod.mk.inj hx
  subst hx
  have z := hw.len Tryz.underlying52
  have hb : Tryz.prog.bytesOf 55 = 104 := by kernel_rfl
  have hr : reachBytes < 140737488355328 := by decide
  have hC : Tryz.prog.cellsOf 55 = 9 := by kernel_rfl
  rw [hb, List.length_map, List.length_range] at z
  refine ⟨by omega, ?_⟩
  by_cases h0 : len = 0
  ·exact .inl h0
  obtain ⟨b, o, sp⟩ := x
  have el : ∀ i, i < len → ∃ t, [Value.int .i64 t.kd, .int .i64 t.fm, .bool t.na, .slice t.aa t.ln t.ca, .int .i64 t.ea, .bool t.nb, .slice t.ab t.lm t.cb, .int .i64 t.eb, .int .u64 t.wd].length = 9 ∧ Ok W t ∧ ∀ (q : Nat) (v : Value), q < 9 → [Value.int .i64 t.kd, .int .i64 t.fm, .bool t.na, .slice t.aa t.ln t.ca, .int .i64 t.ea, .bool t.nb, .slice t.ab t.lm t.cb, .int .i64 t.eb, .int .u64 t.wd][q]? = some v → W.cell? ((⟨b, o, sp⟩ : Addr).add (i * 9 + q)) = some v := fun i hil => by
   obtain ⟨cs, hc, ht'⟩ := hi i (by omega)
   rw [hC] at hc
   have wi : Wt 55 (D i) := hw.elem Tryz.underlying52 (List.mem_map.2 ⟨i, List.mem_range.2 hil, rfl⟩)
   obtain ⟨t, rfl, ok⟩ := op_cells ht' wi
   obtain ⟨_, hcl, hat⟩ := World.cells?_some hc
   exact ⟨t, rfl, ok, fun q v hq hv => by rw [← Go.Deep.add_add, hat q hq, hv]⟩
  have hsp : sp = none := by
   obtain ⟨t, _, _, hc⟩ := el 0 (by omega)
   have c := hc 0 _ (by decide) rfl
   have e : (⟨b, o, sp⟩ : Addr).add (0 * 9 + 0) = ⟨b, o, sp⟩ := by unfold Addr.add; rw [if_pos rfl]
   rw [e] at c
   cases sp with
   | none => rfl
   | some s =>
    exfalso
    unfold World.cell? at c
    simp at c
    split at c <;> cases c
  subst hsp
  have ea : ∀ k, (⟨b, o, none⟩ : Addr).add k = ⟨b, o + k, none⟩ := by intro k; unfold Addr.add; split <;> simp <;> omega
  refine .inr ⟨b, o, rfl, fun i hil => ?_⟩
  obtain ⟨t, _, ok, hc⟩ := el i hil
  have hc' : ∀ (q : Nat) (v : Value), q < 9 → [Value.int .i64 t.kd, .int .i64 t.fm, .bool t.na, .slice t.aa t.ln t.ca, .int .i64 t.ea, .bool t.nb, .slice t.ab t.lm t.cb, .int .i64 t.eb, .int .u64 t.wd][q]? = some v → W.cell? ⟨b, o + i * 9 + q, none⟩ = some v := fun q v hq hv => by
   have := hc q v hq hv
   rw [ea] at this
   rw [Nat.add_assoc]; exact this
  exact ⟨t, ⟨⟨hc' 0 _ (by decide) rfl, hc' 1 _ (by decide) rfl, hc' 2 _ (by decide) rfl, hc' 3 _ (by decide) rfl, hc' 4 _ (by decide) rfl, hc' 5 _ (by decide) rfl, hc' 6 _ (by decide) rfl, hc' 7 _ (by decide) rfl, hc' 8 _ (by decide) rfl⟩, ok⟩⟩
end Go.Proofs.YtelfmddcjlocpaaGreatDoor.RnRow
