/- Functions of the program as plain Lean functions (definitions as the print's), and that the machine's calls do what they do (contracts 'X.c', by Px). Condition: math/bits' table is laid. The root of a rounded square is the number again: the plain law of SoftRootOfSquare. Plain Lean over the functions. Condition: words. -/
import Derived.Test.YtokoadgahflafaaGreatDoorKSoftNearestGB
import Derived.Test.YtokoadgahflafaaGreatDoorKSoftNearestGM
import Derived.Test.YtokoadgahflafaaGreatDoorKSoftNearestPxM0
import Derived.Test.YtokoadgahflafaaGreatDoorKSoftNearestPxOp
import Derived.Test.YtokoadgahflafaaGreatDoorKSoftNearestPxL0
import Derived.Test.YtokoadgahflafaaGreatDoorKSoftNearestPxL2
import Derived.Test.YtokoadgahflafaaGreatDoorKSoftNearestPxL3
import Derived.Test.YtokoadgahflafaaGreatDoorKSoftNearestPxL4
import Derived.Test.YtokoadgahflafaaGreatDoorKSoftNearestSf6
import Derived.Test.YtokoadgahflafaaGreatDoorKSoftNearestRootSq
section
set_option linter.unusedVariables false
namespace Go.Proofs.YtokoadgahflafaaGreatDoor.PLib
open Go Go.RowKit Go.Proofs.YtokoadgahflafaaGreatDoorW.PrintWords Go.Proofs.YtokoadgahflafaaGreatDoorW.PrintMore Go.Proofs.YtokoadgahflafaaGreatDoor.Given Go.Proofs.YtokoadgahflafaaGreatDoor.Px
def gnomonlaw09_SoftRootOfSquare.f (k : Nat) (a0 : Bool) (a1 : Int) : Option (Bool) := (gnomonlaw09_awake.f k).bind fun t1 => (if t1 = true then ((gnomonlaw09_form.f a0).bind fun bt2 => ((gnomonlaw09_sizes.f bt2.2.1 bt2.2.2.1 bt2.2.2.2.1 bt2.2.2.2.2.1 bt2.2.2.2.2.2.1 bt2.2.2.2.2.2.2 a1).bind fun bt3 => (if bt3.2 = true then ((soft_Mul.f k bt2.1 bt3.1 bt3.1).bind fun bt4 => (if bt4.2 = 0 then (if bt4.1 ≥ bt2.2.2.2.2.2.1 then (some true) else ((gnomonref07_ClassOf.f bt2.2.1 bt2.2.2.1 bt2.2.2.2.1 bt2.2.2.2.2.1 bt2.2.2.2.2.2.1 bt2.2.2.2.2.2.2 bt4.1).bind fun t5 => (if t5 = 2 then ((soft_Sqrt.f k bt2.1 bt4.1).bind fun bt6 => (if bt6.2 = 0 then (if bt2.2.1 = 0 then (none) else (some (bt6.1 == (Int.tmod bt3.1 bt2.2.1)))) else (some false))) else (some true)))) else (some false))) else (some true)))) else (some false))
end Go.Proofs.YtokoadgahflafaaGreatDoor.PLib
end
section
set_option linter.unusedVariables false
namespace Go.Proofs.YtokoadgahflafaaGreatDoor.SoftRootOfSquareL
open Go.RowKit Go.Proofs.YtokoadgahflafaaGreatDoorW.PrintWords Go.Proofs.YtokoadgahflafaaGreatDoorW.PrintMore Go.Proofs.YtokoadgahflafaaGreatDoor.Num Go.Proofs.YtokoadgahflafaaGreatDoor.PLib Go.Proofs.YtokoadgahflafaaGreatDoor.Ref Go.Proofs.YtokoadgahflafaaGreatDoor.GTh Go.Proofs.YtokoadgahflafaaGreatDoor.Given Go.Proofs.YtokoadgahflafaaGreatDoor.Rp1 Go.Proofs.YtokoadgahflafaaGreatDoor.Rp2 Go.Proofs.YtokoadgahflafaaGreatDoor.Rp3 Go.Proofs.YtokoadgahflafaaGreatDoor.Rp4 Go.Proofs.YtokoadgahflafaaGreatDoor.Rp5 Go.Proofs.YtokoadgahflafaaGreatDoor.Rp7 Go.Proofs.YtokoadgahflafaaGreatDoor.BinLaw Go.Proofs.YtokoadgahflafaaGreatDoor.Fm8 Go.Proofs.YtokoadgahflafaaGreatDoor.Rnd Go.Proofs.YtokoadgahflafaaGreatDoor.Sq Go.Proofs.YtokoadgahflafaaGreatDoor.Px Go.Proofs.YtokoadgahflafaaGreatDoor.Sf1 Go.Proofs.YtokoadgahflafaaGreatDoor.Sf2 Go.Proofs.YtokoadgahflafaaGreatDoor.Sf3 Go.Proofs.YtokoadgahflafaaGreatDoor.Sf4 Go.Proofs.YtokoadgahflafaaGreatDoor.Sf5 Go.Proofs.YtokoadgahflafaaGreatDoor.Sf6
theorem awake_ev : Ev (fun k => gnomonlaw09_awake.f k) true := Ev.of (fun k => gnomonlaw09_awake.mono k) (k := 120) (by decide +kernel)
structure Kf (f : Int) (F : Fmt) (b : Bool) (P Ee G Q : Int) : Prop where mk :: (fm : Fm f F) (form : gnomonlaw09_form.f b = some (f, ((F.sg : Nat) : Int), P, Ee, G, ((F.inf : Nat) : Int), Q)) (cls : ∀ s : Nat, s < F.sg → gnomonref07_ClassOf.f ((F.sg : Nat) : Int) P Ee G ((F.inf : Nat) : Int) Q (s : Int) = some (cl F s))
theorem cls_any {f : Int} {F : Fmt} (h : Fm f F) {P Ee G Q : Int} (hP : P = (F.man : Nat)) (s : Nat) (hs : s < F.sg) : gnomonref07_ClassOf.f ((F.sg : Nat) : Int) P Ee G ((F.inf : Nat) : Int) Q (s : Int) = some (cl F s) := by
 have key : 0 ≤ wrap64 (P - 1) ∧ shl .u64 1 (wrap64 (P - 1)) = ((hdF F : Nat) : Int) := by
  subst hP
  rcases h with ⟨_, rfl⟩ | ⟨_, rfl⟩ <;> exact of_decide_eq_true (by kernel_rfl)
 unfold gnomonref07_ClassOf.f cl
 rw [if_pos key.1, key.2]
 by_cases c0 : s = 0
 ·rw [if_pos (by omega), if_pos c0]
 rw [if_neg (by omega), if_neg c0]
 by_cases c1 : s < hdF F
 ·rw [if_pos (by omega), if_pos c1]
 rw [if_neg (by omega), if_neg c1]
 by_cases c2 : s < F.inf
 ·rw [if_pos (by omega), if_pos c2]
 rw [if_neg (by omega), if_neg c2]
 by_cases c3 : s = F.inf
 ·rw [if_pos (by omega), if_pos c3]
 rw [if_neg (by omega), if_neg c3]
theorem form_k (b : Bool) : ∃ f F P Ee G Q, Kf f F b P Ee G Q := by
 cases b
 ·exact ⟨64, fD, 53, -1074, 971, 9221120237041090561, .inr ⟨rfl, rfl⟩, by kernel_rfl, fun s hs => cls_any (.inr ⟨rfl, rfl⟩) rfl s hs⟩
 ·exact ⟨32, fS, 24, -149, 104, 2143289345, .inl ⟨rfl, rfl⟩, by kernel_rfl, fun s hs => cls_any (.inl ⟨rfl, rfl⟩) rfl s hs⟩
theorem sizes_f {f : Int} {F : Fmt} (h : Fm f F) (P Ee G Q : Int) (a : Nat) (ha : a < 18446744073709551616) : gnomonlaw09_sizes.f ((F.sg : Nat) : Int) P Ee G ((F.inf : Nat) : Int) Q (a : Int) = some (((a % (2 * F.sg) : Nat) : Int), decide (a % (2 * F.sg) % F.sg < F.inf)) := by
 have hz := h.sz
 have e : Go.bits .and .u64 (a : Int) (IntKind.u64.wrap ((IntKind.u64.wrap (2 * ((F.sg : Nat) : Int))) - 1)) = ((a % (2 * F.sg) : Nat) : Int) := by
  rcases h with ⟨_, rfl⟩ | ⟨_, rfl⟩
  ·rw [show IntKind.u64.wrap ((IntKind.u64.wrap (2 * ((fS.sg : Nat) : Int))) - 1) = ((4294967295 : Nat) : Int) by decide, u64_and_nat a 4294967295 ha (by decide)]
   have := Nat.and_two_pow_sub_one_eq_mod a 32
   rw [show (2 : Nat)^32 - 1 = 4294967295 by decide, show (2 : Nat)^32 = 2 * fS.sg by decide] at this
   rw [this]
  ·rw [show IntKind.u64.wrap ((IntKind.u64.wrap (2 * ((fD.sg : Nat) : Int))) - 1) = ((18446744073709551615 : Nat) : Int) by decide, u64_and_nat a 18446744073709551615 ha (by decide)]
   have := Nat.and_two_pow_sub_one_eq_mod a 64
   rw [show (2 : Nat)^64 - 1 = 18446744073709551615 by decide, show (2 : Nat)^64 = 2 * fD.sg by decide] at this
   rw [this]
 unfold gnomonlaw09_sizes.f
 rw [if_neg (by omega), e, show Int.tmod ((a % (2 * F.sg) : Nat) : Int) ((F.sg : Nat) : Int) = ((a % (2 * F.sg) % F.sg : Nat) : Int) from (Int.ofNat_tmod _ _).symm]
 have ed : decide (((a % (2 * F.sg) % F.sg : Nat) : Int) < ((F.inf : Nat) : Int)) = decide (a % (2 * F.sg) % F.sg < F.inf) := decide_eq_decide.2 ⟨fun q => by omega, fun q => by omega⟩
 rw [ed]
theorem law_ev (b : Bool) (a0 : Nat) (ha0 : a0 < 18446744073709551616) : Ev (fun k => gnomonlaw09_SoftRootOfSquare.f k b (a0 : Int)) true := by
 obtain ⟨f, F, P, Ee, G, Q, K⟩ := form_k b
 have h := K.fm
 have hz := h.sz
 have hl := low_rng h
 have hd := fm_hd h
 unfold gnomonlaw09_SoftRootOfSquare.f
 refine Ev.bind awake_ev (Ev.congr (fun k => if_pos rfl) (Ev.bind (ev_eq K.form) (Ev.bind (ev_eq (sizes_f h P Ee G Q a0 ha0)) ?_)))
 obtain ⟨a, hA⟩ : ∃ a, a = a0 % (2 * F.sg) := ⟨_, rfl⟩
 have ha : a < 2 * F.sg := by rw [hA]; exact Nat.mod_lt _ (by omega)
 rw [← hA]
 dsimp only
 by_cases c : a % F.sg < F.inf
 rotate_left
 ·rw [decide_eq_false c]
  exact Ev.congr (fun k => if_neg (by decide)) (Ev.now _)
 rw [decide_eq_true c]
 refine Ev.congr (fun k => if_pos rfl) ?_
 obtain ⟨s, hs⟩ : ∃ s, s = a % F.sg := ⟨_, rfl⟩
 obtain ⟨neg, hneg⟩ : ∃ neg, neg = decide (F.sg ≤ a) := ⟨_, rfl⟩
 have hr : rdB F a = rdV F neg s := by rw [hs, hneg]; rfl
 have m := mul_ev h ha ha
 obtain ⟨g, hg⟩ : ∃ g, g = (-F.low).toNat := ⟨_, rfl⟩
 rw [← hg] at m
 obtain ⟨t, ht, hp⟩ : ∃ t : Nat, tellV F g (timesV (rdB F a) (rdB F a)) = t ∧ (t = 0 ∨ (s ≠ 0 ∧ Nst F g (nF F s * nF F s) t)) := by
  refine ⟨_, rfl, ?_⟩
  rw [hr]
  by_cases s0 : s = 0
  ·left
   unfold rdV
   rw [if_pos s0]
   show pat F (neg != neg) 0 = 0
   cases neg <;> rfl
  ·right
   refine ⟨s0, ?_⟩
   unfold rdV
   rw [if_neg s0, if_pos (by omega)]
   show Nst F g (nF F s * nF F s) (Rp4.pv F g (sv neg (nF F s) * sv neg (nF F s)))
   have e : sv neg (nF F s) * sv neg (nF F s) = ((nF F s * nF F s : Nat) : Int) := by
    cases neg
    ·show ((nF F s : Nat) : Int) * ((nF F s : Nat) : Int) = _; rw [Int.natCast_mul]
    ·show -((nF F s : Nat) : Int) * -((nF F s : Nat) : Int) = _; rw [Int.neg_mul_neg, Int.natCast_mul]
   have n0 : nF F s * nF F s ≠ 0 := Nat.mul_ne_zero (nF_ne h s0) (nF_ne h s0)
   rw [e]
   unfold Rp4.pv
   rw [if_neg (by omega), Int.natAbs_natCast, decide_eq_false (by omega)]
   exact rsz_nst h g _
 rw [ht] at m
 refine Ev.bind m (Ev.congr (fun k => if_pos rfl) ?_)
 dsimp only
 by_cases c1 : F.inf ≤ t
 ·exact Ev.congr (fun k => if_pos (by omega)) (Ev.now _)
 refine Ev.congr (fun k => if_neg (by omega)) (Ev.bind (ev_eq (K.cls t (by omega))) ?_)
 by_cases c2 : cl F t = 2
 rotate_left
 ·exact Ev.congr (fun k => if_neg c2) (Ev.now _)
 refine Ev.congr (fun k => if_pos c2) ?_
 have t0 : t ≠ 0 := fun e => by rw [e] at c2; unfold cl at c2; rw [if_pos rfl] at c2; omega
 have t1 : hdF F ≤ t := by
  refine Nat.le_of_not_lt fun q => ?_
  unfold cl at c2
  rw [if_neg t0, if_pos q] at c2
  omega
 rcases hp with e | ⟨s0, ns⟩
 ·exact absurd e t0
 have rs := RootSq.root_sq h hg s0 (by omega) ns t1 (by omega)
 obtain ⟨r, hr2, e⟩ := sqrt_ev h (show t < 2 * F.sg by omega)
 have rt : rdB F t = .num ((nF F t : Nat) : Int) := by
  have : t = pat F false t := rfl
  rw [this, rdB_pat h false (by omega)]
  unfold rdV
  rw [if_neg t0, if_pos (by omega)]
  rfl
 rw [rt] at hr2
 have hrs : r = s := by
  rcases hr2 with ⟨q, _⟩ | ⟨_, s', q, rfl⟩
  ·omega
  ·rw [Int.natAbs_natCast, ← hg] at q
   exact nr_uniq h (by decide) q rs
 refine Ev.bind e (Ev.congr (fun k => if_pos rfl) (Ev.congr (fun k => if_neg (by omega)) ?_))
 rw [hrs, show Int.tmod (a : Int) ((F.sg : Nat) : Int) = ((a % F.sg : Nat) : Int) from (Int.ofNat_tmod _ _).symm, ← hs, beq_self_eq_true]
 exact Ev.now _
theorem law_row (a0 : Bool) (a1 : Int) (w1 : (Lit.int .u64 a1).wf = true) : Ev (fun k => gnomonlaw09_SoftRootOfSquare.f k a0 a1) true := by
 have e1 : IntKind.u64.min = 0 := rfl
 have e2 : IntKind.u64.max = 18446744073709551615 := rfl
 have h1 : IntKind.u64.min ≤ a1 ∧ a1 ≤ IntKind.u64.max := by simpa [Lit.wf] using w1
 obtain ⟨a, rfl⟩ : ∃ a : Nat, a1 = (a : Int) := ⟨a1.toNat, by omega⟩
 exact law_ev a0 a (by omega)
end Go.Proofs.YtokoadgahflafaaGreatDoor.SoftRootOfSquareL
end
