/- The row and the tied card of the law RoundDecided: whatever its inputs, the call returns true, and each argument reads as it did. Condition: none beyond the row's own (math/bits.deBruijn64tab reads as its text lays it, tied by the card). -/
import Derived.Test.YtelfmddcjlocpaaDoorRows
import Derived.Test.YtelfmddcjlocpaaDoorCards
import Derived.Test.YtelfmddcjlocpaaDoorTie
import Derived.Test.YtelfmddcjlocpaaDoorKRoundDecidedRow8
import Derived.Test.YtelfmddcjlocpaaDoorKRoundDecidedRoundDecidedL
import Derived.Test.YtelfmddcjlocpaaDoorKRoundDecidedPLibx19
namespace Go.Proofs.YtelfmddcjlocpaaDoor.roundDecided
open Go.ChangeShapes Go.WideShapes Go.ChangeAt Go.RowKit Go.Deep Go.Proofs.YtelfmddcjlocpaaDoor.Row8 Go.Proofs.YtelfmddcjlocpaaDoorW.PrintWords
set_option linter.unusedVariables false
set_option maxRecDepth 100000 in
theorem lifted (os : Os) (started : os.Started) (H : Type) (enc : TypeId × Value → H) :
  ReturnsInHanded {} Tryd.checked os 3 .any (fun w args => (Rows.roundDecidedSpec.pre enc Tryd.prog Tryd.f3 [] false w args ∧ laidMetH Tryd.prog tabs w) ∧ sizedMet enc Tryd.prog Tryd.f3 (OpenSpec.ofChange Rows.roundDecidedSpec) false w args)
   (Rows.roundDecidedSpec.post enc Tryd.prog Tryd.f3 false true false false) := by
 refine returnsInHanded_of_change_and (C := Tryd.checked) (X := fun w _ => laidMetH Tryd.prog tabs w) (fun _ _ _ hh h => h.of_heap hh) own started (by kernel_rfl) Tryd.func3
  (ChangeSpec.witness_shaped (enc := enc) (C := Tryd.checked) (os := os) (X := fun w _ => laidMetH Tryd.prog tabs w) false (World.doorLaid Tryd.prog 14 os) #[.bool false, .agg #[.bool false, .slice none 0 0, .int .i64 0, .bool false, .slice none 0 0, .int .i64 0], .agg #[.bool false, .slice none 0 0, .int .i64 0]] 8 rfl (World.shaped_of_RefB (by kernel_rfl) (by kernel_rfl)) (by kernel_rfl) (by kernel_rfl) (by kernel_rfl) (door_met os _)) ?_
 intro W base args ds gs before hval0 hW hcnd hsz0 hL _
 have hval : ∀ (j : Nat) t v, Tryd.f3.params[j]? = some t → args[j]? = some v → Value.okWide Tryd.prog W .any base t v := hval0
 have hW' := hW
 obtain ⟨p, q, hA0, hV, rfl, hfz, hnd⟩ := hW
 have hA : DataW.TrodAll enc Tryd.prog W 0 (fun _ => true) true Tryd.f3.params.toList args.toList ds p := hA0
 rw [Tryd.params3] at hA hval
 obtain ⟨v0, vs0, d0, ds0, p0, q0, hargs, rfl, rfl, h0, r0⟩ := trodAll_cons hA
 obtain ⟨v1, vs1, d1, ds1, p1, q1, rfl, rfl, rfl, h1, r1⟩ := trodAll_cons r0
 obtain ⟨v2, vs2, d2, ds2, p2, q2, rfl, rfl, rfl, h2, r2⟩ := trodAll_cons r1
 obtain ⟨rfl, rfl, rfl⟩ := trodAll_nil r2
 obtain rfl : args = #[v0, v1, v2] := by cases args; simp_all
 obtain ⟨rfl, rfl⟩ := trodVars_none hV
 obtain ⟨a0, rfl, rfl, rfl⟩ := open_bool Tryd.underlying4 (hval 0 4 v0 rfl rfl) h0
 have k1 := h1
 have lt1 : ∀ x ∈ p1, x.block < W.heap.size := by obtain ⟨m, hm⟩ := k1; exact DataW.trod_lt m _ _ _ hm
 obtain ⟨b1a, A1a, n1a, c1a, l1a, e1a, b1b, A1b, n1b, c1b, l1b, e1b, rfl, L1a, L1b⟩ := arg_span (hval 1 28 v1 rfl rfl) h1
 have k2 := h2
 have lt2 : ∀ x ∈ p2, x.block < W.heap.size := by obtain ⟨m, hm⟩ := k2; exact DataW.trod_lt m _ _ _ hm
 obtain ⟨b2a, A2a, n2a, c2a, l2a, e2a, rfl, L2a⟩ := arg_dy (hval 2 26 v2 rfl rfl) h2
 obtain rfl := L1a.len
 obtain rfl := L1b.len
 obtain rfl := L2a.len
 clear hA0 hval0 hsz0
 obtain ⟨k, hk⟩ := (RoundDecidedL.law_ev a0 b1a l1a e1a b1b l1b e1b b2a l2a e2a L1a.wf L1b.wf L2a.wf).rounds
 have run := PLib.gnomonlaw08_RoundDecided.calls k a0 b1a A1a c1a l1a e1a b1b A1b c1b l1b e1b b2a A2a c2a l2a e2a true W L1a.c L1a.cap L1b.c L1b.cap L2a.c L2a.cap (of_laid hL) hk
 refine run.mono fun e W' ⟨he, bel⟩ => ?_
 subst he
 exact ⟨_, rfl, _, _, _, [], _, [], hW', trodAll_mk1 (shut_bool Tryd.underlying4 _), (trodAll_cons_mk (shut_bool Tryd.underlying4 _) (trodAll_cons_mk (Below.trod laidOut (by kernel_rfl) (of_decide_eq_true (by kernel_rfl)) k1 bel lt1) (trodAll_cons_mk (Below.trod laidOut (by kernel_rfl) (of_decide_eq_true (by kernel_rfl)) k2 bel lt2) trodAll_mk0))), rfl, bel.frame _, fun h => by cases h⟩
theorem over : Rows.roundDecidedRow.holds Tryd.pinned (OpenSpec.ofChange Rows.roundDecidedSpec) :=
 OpenClaim.holds_of_wide 3 Tryd.f3 rfl rfl rfl rfl rfl rfl rfl ⟨rfl, rfl, rfl, rfl, rfl⟩ rfl rfl rfl rfl rfl (by kernel_rfl) Tryd.func3 (by kernel_rfl)
  (of_decide_eq_true (by kernel_rfl)) (by unfold Func.isWrapper; first | (rw [if_pos (by decide +kernel)]; kernel_rfl) | (rw [if_neg (by decide +kernel)]; exact ⟨rfl, rfl⟩))
  (fun os started H enc _ => lifted os started H enc)
theorem card : Rows.RoundDecidedCardSaid :=
 Claim7.holds_tied_plain_at .later [] _ _ _ _ over (fun _ h => by cases h) (by kernel_rfl) (fun _ h => by cases h) roundDecided_row_tie rfl ⟨rfl, rfl⟩ (by kernel_rfl) rfl
  (fun f fn hf hfn => by
   obtain rfl : f = 3 := Option.some.inj ((show Tryd.prog.funcNamed "gnomon/gnomonlaw08.RoundDecided" = some 3 by kernel_rfl).symm.trans hf) |>.symm
   obtain rfl : fn = Tryd.f3 := (Option.some.inj (Tryd.func3.symm.trans hfn)).symm
   exact ⟨by kernel_rfl, fun j t ht => by
    rw [Tryd.params3] at ht
    have hm : t ∈ [4, 28, 26] := by
     have := List.mem_of_getElem? (by simpa using ht : [4, 28, 26][j]? = some t)
     exact this
    simp only [List.mem_cons, List.not_mem_nil, or_false] at hm
    rcases hm with rfl | rfl | rfl
    ·exact (show Tryd.prog.wantsStandIn 4 = false by kernel_rfl)
    ·exact (show Tryd.prog.wantsStandIn 28 = false by kernel_rfl)
    ·exact (show Tryd.prog.wantsStandIn 26 = false by kernel_rfl)⟩)
  (by kernel_rfl)
end Go.Proofs.YtelfmddcjlocpaaDoor.roundDecided
namespace Go.Proofs.YtelfmddcjlocpaaDoor
theorem roundDecided_holds : Rows.RoundDecidedCardSaid := roundDecided.card
#print axioms roundDecided_holds
end Go.Proofs.YtelfmddcjlocpaaDoor
