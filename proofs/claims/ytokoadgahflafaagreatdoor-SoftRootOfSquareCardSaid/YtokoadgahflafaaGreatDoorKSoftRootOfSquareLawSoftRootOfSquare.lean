/- The row and the tied card of the law SoftRootOfSquare: whatever its inputs, the call returns true, and each argument reads as it did. Condition: none beyond the row's own (math/bits.deBruijn64tab reads as its text lays it, tied by the card). -/
import Derived.Test.YtokoadgahflafaaGreatDoorRows
import Derived.Test.YtokoadgahflafaaGreatDoorCards
import Derived.Test.YtokoadgahflafaaGreatDoorTie
import Derived.Test.YtokoadgahflafaaGreatDoorKSoftRootOfSquareBinLaw
import Derived.Test.YtokoadgahflafaaGreatDoorKSoftRootOfSquareSoftRootOfSquareL
import Derived.Test.YtokoadgahflafaaGreatDoorKSoftRootOfSquarePxBr
import Derived.Test.YtokoadgahflafaaGreatDoorKSoftRootOfSquarePxL5
namespace Go.Proofs.YtokoadgahflafaaGreatDoor.softRootOfSquare
open Go.ChangeShapes Go.WideShapes Go.ChangeAt Go.RowKit Go.Deep Go.Proofs.YtokoadgahflafaaGreatDoor.Row8 Go.Proofs.YtokoadgahflafaaGreatDoorW.PrintWords
set_option linter.unusedVariables false
set_option maxRecDepth 100000 in
theorem lifted (os : Os) (started : os.Started) (H : Type) (enc : TypeId × Value → H) :
  ReturnsInHanded {} Tryz.checked os 10 .any (fun w args => (Rows.softRootOfSquareSpec.pre enc Tryz.prog Tryz.f10 [] false w args ∧ laidMetH Tryz.prog tabs w) ∧ sizedMet enc Tryz.prog Tryz.f10 (OpenSpec.ofChange Rows.softRootOfSquareSpec) false w args)
   (Rows.softRootOfSquareSpec.post enc Tryz.prog Tryz.f10 false true false false) := by
 refine returnsInHanded_of_change_and (C := Tryz.checked) (X := fun w _ => laidMetH Tryz.prog tabs w) (fun _ _ _ hh h => h.of_heap hh) own started (by kernel_rfl) Tryz.func10
  (ChangeSpec.witness_shaped (enc := enc) (C := Tryz.checked) (os := os) (X := fun w _ => laidMetH Tryz.prog tabs w) false (World.doorLaid Tryz.prog 14 os) #[.bool false, .int .u64 0] 8 rfl (World.shaped_of_RefB (by kernel_rfl) (by kernel_rfl)) (by kernel_rfl) (by kernel_rfl) (by kernel_rfl) (door_met os _)) ?_
 intro W base args ds gs before hval0 hW hcnd hsz0 hL _
 have hval : ∀ (j : Nat) t v, Tryz.f10.params[j]? = some t → args[j]? = some v → Value.okWide Tryz.prog W .any base t v := hval0
 have hW' := hW
 obtain ⟨p, q, hA0, hV, rfl, hfz, hnd⟩ := hW
 have hA : DataW.TrodAll enc Tryz.prog W 0 (fun _ => true) true Tryz.f10.params.toList args.toList ds p := hA0
 rw [Tryz.params10] at hA hval
 obtain ⟨v0, vs0, d0, ds0, p0, q0, hargs, rfl, rfl, h0, r0⟩ := trodAll_cons hA
 obtain ⟨v1, vs1, d1, ds1, p1, q1, rfl, rfl, rfl, h1, r1⟩ := trodAll_cons r0
 obtain ⟨rfl, rfl, rfl⟩ := trodAll_nil r1
 obtain rfl : args = #[v0, v1] := by cases args; simp_all
 obtain ⟨rfl, rfl⟩ := trodVars_none hV
 obtain ⟨a0, rfl, rfl, rfl⟩ := open_bool Tryz.underlying4 (hval 0 4 v0 rfl rfl) h0
 obtain ⟨a1, rfl, rfl, rfl, w1⟩ := open_int Tryz.underlying24 (hval 1 24 v1 rfl rfl) h1
 clear hA0 hval0 hsz0
 simp only [List.append_nil] at hW'
 obtain ⟨k, hk⟩ := (SoftRootOfSquareL.law_row a0 a1 w1).rounds
 have run := Px.run_t (PLib.gnomonlaw09_SoftRootOfSquare.c hk) (of_laid hL) (.cons rfl (.cons rfl .nil))
 refine run.mono fun e W' ⟨he, bel⟩ => ?_
 subst he
 exact ⟨_, rfl, _, _, _, [], _, [], hW', trodAll_mk1 (shut_bool Tryz.underlying4 _), (trodAll_cons_mk (shut_bool Tryz.underlying4 _) (trodAll_cons_mk (shut_int Tryz.underlying24 w1) trodAll_mk0)), rfl, bel.frame _, fun h => by cases h⟩
theorem over : Rows.softRootOfSquareRow.holds Tryz.pinned (OpenSpec.ofChange Rows.softRootOfSquareSpec) :=
 OpenClaim.holds_of_wide 10 Tryz.f10 rfl rfl rfl rfl rfl rfl rfl ⟨rfl, rfl, rfl, rfl, rfl⟩ rfl rfl rfl rfl rfl (by kernel_rfl) Tryz.func10 (by kernel_rfl)
  (of_decide_eq_true (by kernel_rfl)) (by unfold Func.isWrapper; first | (rw [if_pos (by decide +kernel)]; kernel_rfl) | (rw [if_neg (by decide +kernel)]; exact ⟨rfl, rfl⟩))
  (fun os started H enc _ => lifted os started H enc)
theorem card : Rows.SoftRootOfSquareCardSaid :=
 Claim7.holds_tied_plain_at .later [] _ _ _ _ over (fun _ h => by cases h) (by kernel_rfl) (fun _ h => by cases h) softRootOfSquare_row_tie rfl ⟨rfl, rfl⟩ (by kernel_rfl) rfl
  (fun f fn hf hfn => by
   obtain rfl : f = 10 := Option.some.inj ((show Tryz.prog.funcNamed "gnomon/gnomonlaw09.SoftRootOfSquare" = some 10 by kernel_rfl).symm.trans hf) |>.symm
   obtain rfl : fn = Tryz.f10 := (Option.some.inj (Tryz.func10.symm.trans hfn)).symm
   exact ⟨by kernel_rfl, fun j t ht => by
    rw [Tryz.params10] at ht
    have hm : t ∈ [4, 24] := by
     have := List.mem_of_getElem? (by simpa using ht : [4, 24][j]? = some t)
     exact this
    simp only [List.mem_cons, List.not_mem_nil, or_false] at hm
    rcases hm with rfl | rfl
    ·exact (show Tryz.prog.wantsStandIn 4 = false by kernel_rfl)
    ·exact (show Tryz.prog.wantsStandIn 24 = false by kernel_rfl)⟩)
  (by kernel_rfl)
end Go.Proofs.YtokoadgahflafaaGreatDoor.softRootOfSquare
namespace Go.Proofs.YtokoadgahflafaaGreatDoor
theorem softRootOfSquare_holds : Rows.SoftRootOfSquareCardSaid := softRootOfSquare.card
#print axioms softRootOfSquare_holds
end Go.Proofs.YtokoadgahflafaaGreatDoor
