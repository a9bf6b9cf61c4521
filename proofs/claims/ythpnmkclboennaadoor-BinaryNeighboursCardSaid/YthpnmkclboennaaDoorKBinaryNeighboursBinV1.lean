/- Contracts of the program's Value and Mid in lists; of the law's same. Conditions: words below 2^64; math/bits' table is laid. -/
import Derived.Test.YthpnmkclboennaaDoorKBinaryNeighboursBinTab
import Derived.Test.YthpnmkclboennaaDoorKBinaryNeighboursBinM2
import Derived.Test.YthpnmkclboennaaDoorKBinaryNeighboursPLibx2
import Derived.Test.YthpnmkclboennaaDoorKBinaryNeighboursPLibx9
import Derived.Test.YthpnmkclboennaaDoorKBinaryNeighboursPLibx7
import Derived.Test.YthpnmkclboennaaDoorKBinaryNeighboursPLibx8
namespace Go.Proofs.YthpnmkclboennaaDoor.BinV1
open Go.RowKit Go.Proofs.YthpnmkclboennaaDoorW.PrintWords Go.Proofs.YthpnmkclboennaaDoorW.PrintMore Go.Proofs.YthpnmkclboennaaDoorW.PrintLast Go.Proofs.YthpnmkclboennaaDoor.Num Go.Proofs.YthpnmkclboennaaDoor.PLib Go.Proofs.YthpnmkclboennaaDoor.Ref Go.Proofs.YthpnmkclboennaaDoor.BinLaw Go.Proofs.YthpnmkclboennaaDoor.BinA Go.Proofs.YthpnmkclboennaaDoor.BinO2 Go.Proofs.YthpnmkclboennaaDoor.BinF Go.Proofs.YthpnmkclboennaaDoor.BinG Go.Proofs.YthpnmkclboennaaDoor.BinW Go.Proofs.YthpnmkclboennaaDoor.BinW2 Go.Proofs.YthpnmkclboennaaDoor.BinTab Go.Proofs.YthpnmkclboennaaDoor.BinM Go.Proofs.YthpnmkclboennaaDoor.BinM2
structure DyW (neg : Bool) (l : List Int) (x er : Int) (w : World) (e : Ending) (w' : World) : Prop where mk :: (ex : ∃ A c, e = .returned (.tuple #[.agg #[.bool neg, .slice A l.length c, .int .i64 x], .int .i64 er]) ∧ l.length ≤ c ∧ Kd.C (Kd.int .u64) w' A l.length l ∧ (l ≠ [] → ∃ G, A = some ⟨G, 0, none⟩ ∧ w.heap.size ≤ G ∧ c = 1) ∧ (l = [] → A = none ∧ c = 0)) (below : Below w.heap.size w w')
theorem one_C {w : World} {G n : Nat} (h : At1 w G 0 n) : Kd.C (Kd.int .u64) w (some ⟨G, 0, none⟩) 1 [(n : Int)] := by
  refine Kd.C_of_reads (d := 0) ⟨rfl, by decide, fun _ => ⟨_, rfl, fun j hj => ?_⟩⟩
  obtain rfl : j = 0 := by omega
  exact h.cell
theorem dy_of {w w' : World} {e : Ending} {neg : Bool} {n : Nat} {x : Int} (h : DyA w w' e neg n x) (hb : Below w.heap.size w w') : DyW (neg && decide (n ≠ 0)) (dyl n) (dyx n x) 0 w e w' := by
  by_cases h0 : n = 0
  · have e1 := h.zero h0
    subst h0
    have e2 : (neg && decide ((0 : Nat) ≠ 0)) = false := by simp
    rw [e2]
    exact ⟨⟨none, 0, e1, Nat.le_refl _, ⟨rfl, by decide, fun h => absurd h (by decide)⟩, fun h => absurd rfl h, fun _ => ⟨rfl, rfl⟩⟩, hb⟩
  · obtain ⟨G, e1, h1, hG⟩ := h.pos h0
    unfold dyl dyx
    rw [if_neg h0, if_neg h0, decide_eq_true h0, Bool.and_true]
    exact ⟨⟨_, _, e1, Nat.le_refl _, one_C h1, fun _ => ⟨G, rfl, hG, rfl⟩, fun h => by cases h⟩, hb⟩
set_option maxRecDepth 100000 in
set_option maxHeartbeats 800000 in
theorem Value_ok {f : Int} {F : Fmt} (h : Fm f F) (b : Nat) (h2 : b < 2 * F.sg) (hi : b % F.sg < F.inf) (w : World) (hT : Tab w) :
    Calls Tryd.prog 13 #[.int .i64 f, .int .u64 b] w (DyW (decide (F.sg ≤ b) && decide (mgF F (b % F.sg) ≠ 0)) (dyl (mgF F (b % F.sg))) (dyx (mgF F (b % F.sg)) (xpF F (b % F.sg))) 0 w) := by
  have hz := h.sz
  have hs : b % F.sg < F.sg := by omega
  obtain ⟨kf, hkf⟩ := (finite_ok h b h2 hi).rounds
  have hkp := parts_f h _ hs
  have h53 := mg_lt53 h (b % F.sg)
  have e53 : (2 : Nat)^53 = 9007199254740992 := by decide
  rw [e53] at h53
  have hxp : -1500 ≤ xpF F (b % F.sg) ∧ xpF F (b % F.sg) ≤ 3000 := by
    have := fm_low h
    have := q_le h hs
    rw [xp_d]
    unfold dF
    generalize b % F.sg / hdF F = q at *
    omega
  have HF := Lib.hid (fun w => binary_finite.calls kf _ _ _ _ _ _ _ _ _ w hkf)
  have HP := Lib.hid (fun w => binary_shape_parts.calls _ _ _ _ _ _ _ w hkp)
  generalize b % F.sg = s at *
  generalize decide (F.sg ≤ b) = neg at *
  generalize mgF F s = man at *
  generalize xpF F s = xp at *
  have R := Lib.hid (Res3.new w w (.bool false) (.slice none 0 0) (.int .i64 0) (Below.refl _ _))
  have T := Lib.hid (hT.next (box w (Obj.cells #[.bool false, .slice none 0 0, .int .i64 0] 29)))
  have HX := Lib.hid (And.intro h53 hxp)
  clear h h2 hi hz hs hkf hkp hT h53 hxp
  go_enter Tryd.func13, Tryd.ntmps13
  go_wp2_with fail
  refine (HF.out _).mono ?_
  rintro e w1 ⟨rfl, h1⟩
  have R := Lib.hid ((R.out.next h1).next (box w1 (Obj.cells #[.int .i64 (F.wd : Nat), .int .i64 (F.man : Nat), .int .i64 F.low, .int .u64 (F.qt : Nat)] 63)))
  have T := Lib.hid ((T.out.next h1).next (box w1 (Obj.cells #[.int .i64 (F.wd : Nat), .int .i64 (F.man : Nat), .int .i64 F.low, .int .u64 (F.qt : Nat)] 63)))
  clear h1
  go_wp2_with fail
  refine (HP.out _).mono ?_
  rintro e w2 ⟨rfl, h1⟩
  have R := Lib.hid (R.out.next h1)
  have T := Lib.hid (T.out.next h1)
  clear h1
  go_wp2_with fail
  refine (number_any neg man xp _ (by have := HX.out.1; omega) (by have := HX.out.2; omega) (by have := HX.out.2; omega) T.out).mono ?_
  rintro e w3 ⟨hA, h1⟩
  have hlt := blk_lt R.out.blk
  have R := Lib.hid (R.out.next h1)
  have ky0 := R.out.c0
  have ky1 := R.out.c1
  have ky2 := R.out.c2
  have fy0 := blk_frozen R.out.blk 0
  have fy1 := blk_frozen R.out.blk 1
  have fy2 := blk_frozen R.out.blk 2
  have HA := Lib.hid (And.intro hA hlt)
  clear h1 hA hlt
  by_cases h0 : man = 0
  · have e1 := HA.out.1.zero h0
    subst e1
    go_wp2_with fail
    have R := R.out.put (.bool false) (.slice none 0 0) (.int .i64 0)
    have k0 := R.c0
    have k1 := R.c1
    have k2 := R.c2
    refine bodyPost_ret (v := .tuple #[.agg #[.bool false, .slice none 0 0, .int .i64 0], .int .i64 0]) (by simp [results, Tryd.results13, go_sem, k0, k1, k2]; try rfl) rfl ?_
    exact dy_of (neg := neg) ⟨fun _ => rfl, fun h => absurd h0 h⟩ R.below
  · obtain ⟨G, e1, h3, hG⟩ := HA.out.1.pos h0
    subst e1
    have H3 := Lib.hid (And.intro h3 (Nat.lt_of_lt_of_le HA.out.2 hG))
    clear h3 hG
    go_wp2_with fail
    have R := R.out.put (.bool neg) (.slice (some ⟨G, 0, none⟩) 1 1) (.int .i64 (xp + (Lib.ctz 64 (man) : Nat)))
    have k0 := R.c0
    have k1 := R.c1
    have k2 := R.c2
    refine bodyPost_ret (v := .tuple #[.agg #[.bool neg, .slice (some ⟨G, 0, none⟩) 1 1, .int .i64 (xp + (Lib.ctz 64 (man) : Nat))], .int .i64 0]) (by simp [results, Tryd.results13, go_sem, k0, k1, k2]; try rfl) rfl ?_
    have hG := H3.out.2
    exact dy_of (neg := neg) ⟨fun h => absurd h h0, fun _ => ⟨G, rfl, at1_set H3.out.1 (by omega) _ _ _, by omega⟩⟩ R.below
end Go.Proofs.YthpnmkclboennaaDoor.BinV1
