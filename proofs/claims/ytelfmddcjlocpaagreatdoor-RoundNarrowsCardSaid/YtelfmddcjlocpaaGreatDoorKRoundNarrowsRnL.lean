/- What round.Narrow answers is what the document's Narrow answers. Plain Lean over the functions. Condition: words. -/
import Derived.Test.YtelfmddcjlocpaaGreatDoorKRoundNarrowsSz
import Derived.Test.YtelfmddcjlocpaaGreatDoorKRoundNarrowsSq
import Derived.Test.YtelfmddcjlocpaaGreatDoorKRoundNarrowsPRefx0
import Derived.Test.YtelfmddcjlocpaaGreatDoorKRoundNarrowsPxZ0
import Derived.Test.YtelfmddcjlocpaaGreatDoorKRoundNarrowsPxL1
set_option linter.unusedVariables false
namespace Go.Proofs.YtelfmddcjlocpaaGreatDoor.RnL
open Go.RowKit Go.Proofs.YtelfmddcjlocpaaGreatDoorW.PrintWords Go.Proofs.YtelfmddcjlocpaaGreatDoorW.PrintMore Go.Proofs.YtelfmddcjlocpaaGreatDoor.Num Go.Proofs.YtelfmddcjlocpaaGreatDoor.PLib Go.Proofs.YtelfmddcjlocpaaGreatDoor.PRef Go.Proofs.YtelfmddcjlocpaaGreatDoor.Ref Go.Proofs.YtelfmddcjlocpaaGreatDoor.GTh Go.Proofs.YtelfmddcjlocpaaGreatDoor.Given Go.Proofs.YtelfmddcjlocpaaGreatDoor.Rp1 Go.Proofs.YtelfmddcjlocpaaGreatDoor.Rp3 Go.Proofs.YtelfmddcjlocpaaGreatDoor.Rp4 Go.Proofs.YtelfmddcjlocpaaGreatDoor.Rp5 Go.Proofs.YtelfmddcjlocpaaGreatDoor.Rp7 Go.Proofs.YtelfmddcjlocpaaGreatDoor.BinLaw Go.Proofs.YtelfmddcjlocpaaGreatDoor.Fm8 Go.Proofs.YtelfmddcjlocpaaGreatDoor.Rnd Go.Proofs.YtelfmddcjlocpaaGreatDoor.Sq Go.Proofs.YtelfmddcjlocpaaGreatDoor.Sz
theorem tS : Fm 32 fS := .inl ⟨rfl, rfl⟩
theorem tD : Fm 64 fD := .inr ⟨rfl, rfl⟩
theorem rn_ne {f : Int} {F : Fmt} (h : Fm f F) {s : Nat} (c : s ≠ 0) : nF F s ≠ 0 := by
 have := nF_lt h (show 0 < s by omega)
 omega
theorem rn_ev {α : Type} {o : Option α} {v : α} (h : o = some v) : Ev (fun _ => o) v := by rw [h]; exact Ev.now _
theorem rn_of {f : Int} {F : Fmt} (h : Fm f F) : ∃ G : Int, gnomonref07_Of.f f = some (((F.sg : Nat) : Int), ((F.man : Nat) : Int), F.low, G, ((F.inf : Nat) : Int), ((F.qt : Nat) : Int), true) := by
 rcases h with ⟨rfl, rfl⟩ | ⟨rfl, rfl⟩
 ·exact ⟨104, rfl⟩
 ·exact ⟨971, rfl⟩
theorem rn_cut {f : Int} {F : Fmt} (h : Fm f F) (neg : Bool) {s : Nat} (hs : s < F.sg) (P E G I Q : Int) : gnomonref07_Cut.f ((F.sg : Nat) : Int) P E G I Q ((pat F neg s : Nat) : Int) = some (neg, ((s : Nat) : Int)) := by
 have hz := h.sz
 have e : Int.tmod ((pat F neg s : Nat) : Int) ((F.sg : Nat) : Int) = (((pat F neg s) % F.sg : Nat) : Int) := (Int.ofNat_tmod _ _).symm
 have m := pat_mod F neg hs
 have g := pat_ge F neg hs
 have d : decide (((pat F neg s : Nat) : Int) ≥ ((F.sg : Nat) : Int)) = neg := by
  have t : decide (((pat F neg s : Nat) : Int) ≥ ((F.sg : Nat) : Int)) = decide (F.sg ≤ pat F neg s) := decide_eq_decide.2 ⟨fun q => by omega, fun q => by omega⟩
  exact t.trans g
 unfold gnomonref07_Cut.f
 first
 | (rw [if_neg (by omega), e, d, m])
 | (rw [e, d, m])
theorem rn_signed {f : Int} {F : Fmt} (h : Fm f F) (n : Bool) {s : Nat} (hs : s ≤ F.inf) (P E G I Q : Int) : gnomonref08_signed.f ((F.sg : Nat) : Int) P E G I Q n (s : Int) = some ((pat F n s : Nat) : Int) := by
 have hz := h.sz
 unfold gnomonref08_signed.f pat
 cases n
 ·rw [if_neg (by decide), if_neg (by decide)]
 ·rw [if_pos rfl, if_pos rfl, wu64 (by omega) (by omega)]; rfl
theorem rn_quiet {f : Int} {F : Fmt} (h : Fm f F) : binary_Quiet.f f = some (((F.qt : Nat) : Int), 0) := by
 rcases h with ⟨rfl, rfl⟩ | ⟨rfl, rfl⟩ <;> rfl
theorem rn_cl {f : Int} {F : Fmt} (h : Fm f F) (G Q : Int) (s : Nat) (hs : s < F.sg) : gnomonref07_ClassOf.f ((F.sg : Nat) : Int) ((F.man : Nat) : Int) F.low G ((F.inf : Nat) : Int) Q (s : Int) = some (cl F s) := by
 obtain ⟨k1, k2⟩ := sz_hd h
 unfold gnomonref07_ClassOf.f cl
 by_cases c0 : s = 0
 ·rw [if_pos (by omega), if_pos c0]
 rw [if_neg (by omega), if_neg c0, if_pos k1, k2]
 by_cases c1 : s < hdF F
 ·rw [if_pos (by omega), if_pos c1]
 rw [if_neg (by omega), if_neg c1]
 by_cases c2 : s < F.inf
 ·rw [if_pos (by omega), if_pos c2]
 rw [if_neg (by omega), if_neg c2]
 by_cases c3 : s = F.inf
 ·rw [if_pos (by omega), if_pos c3]
 ·rw [if_neg (by omega), if_neg c3]
theorem rn_narrow (neg : Bool) {s : Nat} (hs : s < fD.sg) : ∃ r : Nat, Ev (fun k => round_Narrow.f k ((pat fD neg s : Nat) : Int)) ((r : Int), 0) ∧ Ev (fun k => gnomonref08_DocNarrow.f k ((pat fD neg s : Nat) : Int)) ((r : Int), 0) := by
 have hz := tD.sz
 have hzS := tS.sz
 have sg : fD.sg = 9223372036854775808 := rfl
 have inf : fD.inf = 9218868437227405312 := rfl
 have hd : hdF fD = 4503599627370496 := by decide
 obtain ⟨GD, oD⟩ := rn_of tD
 obtain ⟨GS, oS⟩ := rn_of tS
 have ct := rn_cut tD neg hs ((fD.man : Nat) : Int) fD.low GD ((fD.inf : Nat) : Int) ((fD.qt : Nat) : Int)
 have cc := rn_cl tD GD ((fD.qt : Nat) : Int) s hs
 have e63 : (shr .u64 ((pat fD neg s : Nat) : Int) 63 == 1) = neg := by
  have := shr_small (k := .u64) (x := ((pat fD neg s : Nat) : Int)) (y := 63) rfl (by decide)
  rw [← this]
  unfold pat
  cases neg
  ·rw [if_neg (by decide)]
   have : ((s : Nat) : Int) / 2^(63 : Int).toNat = 0 := by
    show ((s : Nat) : Int) / 9223372036854775808 = 0
    omega
   rw [this]; rfl
  ·rw [if_pos rfl]
   have : ((fD.sg + s : Nat) : Int) / 2^(63 : Int).toNat = 1 := by
    show ((fD.sg + s : Nat) : Int) / 9223372036854775808 = 1
    omega
   rw [this]; rfl
 have ec := classOf_pat tD neg hs
 by_cases c0 : s = 0
 ·refine ⟨pat fS neg 0, ?_, ?_⟩
  ·have e : cl fD s = 0 := (cl_zero fD s).2 c0
   unfold round_Narrow.f
   rw [e63]
   refine Ev.bind ec (Ev.bind (rn_ev (of_f tS)) ?_)
   rw [e]
   refine Ev.congr (fun k => if_neg (by decide)) (Ev.congr (fun k => if_neg (by decide)) (Ev.congr (fun k => if_pos rfl) ?_))
   have sf := signed_f tS neg (s := 0) (by omega)
   rw [show ((0 : Nat) : Int) = 0 from rfl] at sf
   exact Ev.bind (rn_ev sf) (Ev.now _)
  ·have e : cl fD s = 0 := (cl_zero fD s).2 c0
   unfold gnomonref08_DocNarrow.f
   refine Ev.bind (rn_ev oD) (Ev.bind (rn_ev oS) (Ev.bind (rn_ev ct) (Ev.bind (rn_ev cc) ?_)))
   rw [e]
   refine Ev.congr (fun k => if_neg (by decide)) (Ev.congr (fun k => if_neg (by decide)) (Ev.congr (fun k => if_pos rfl) ?_))
   have sf := rn_signed tS neg (s := 0) (by omega) ((fS.man : Nat) : Int) fS.low GS ((fS.inf : Nat) : Int) ((fS.qt : Nat) : Int)
   exact Ev.bind (rn_ev sf) (Ev.now _)
 by_cases c1 : s < fD.inf
 ·have e := (cl_fin tD s).2 c1
  have e0 : cl fD s ≠ 0 := fun q => c0 ((cl_zero fD s).1 q)
  obtain ⟨g, hg⟩ : ∃ g : Nat, g = 925 := ⟨_, rfl⟩
  have n0 := rn_ne tD c0
  have q : Qt fS (mgF fD s) 1 (xpF fD s) (-1074) := by
   have m0 : mgF fD s ≠ 0 := fun q => by unfold nF at n0; rw [q, Nat.zero_mul] at n0; exact n0 rfl
   have mb := sz_mg tD s
   have db := sz_dF tD hs
   have xd := xp_d fD s
   have fl : fD.low = -1074 := rfl
   exact ⟨m0, by decide, Nat.le_trans (bl_le_of_lt (k := 53) mb) (by decide), by decide, by omega, by omega, by decide, by decide⟩
  obtain ⟨t, nq, r⟩ := size_ev tS q GS ((fS.qt : Nat) : Int)
  have e1 : qn (mgF fD s) (xpF fD s) (-1074) = nF fD s := by
   have xd := xp_d fD s
   have fl : fD.low = -1074 := rfl
   unfold qn nF
   rw [show (xpF fD s - -1074).toNat = dF fD s by omega]
  have e2 : qd fS 1 (-1074) = 2^g := by
   have : (fS.low - -1074).toNat = g := by rw [hg]; rfl
   unfold qd
   rw [this, Nat.one_mul]
  rw [e1, e2] at nq
  have es := rsz_eq tS (nst_of_nq nq)
  refine ⟨pat fS neg t, ?_, ?_⟩
  ·unfold round_Narrow.f
   rw [e63]
   refine Ev.bind ec (Ev.bind (rn_ev (of_f tS)) ?_)
   refine Ev.congr (fun k => if_neg (by omega)) (Ev.congr (fun k => if_neg (by omega)) (Ev.congr (fun k => if_neg e0) ?_))
   obtain ⟨n, m, x, d, v⟩ := value_pat tD neg c1 (E := fD.low) (by decide) (Int.le_refl _)
   refine Ev.bind v ?_
   have nv := nearest_ev tS d.dk (E := fD.low) d.le (by decide)
   refine Ev.bind nv ?_
   have ek : (fS.low - fD.low).toNat = g := by rw [hg]; rfl
   rw [rnd_pv fS d.dk, d.va, ek, Int.sub_self, show (0 : Int).toNat = 0 from rfl, Nat.pow_zero, Nat.mul_one]
   have sn : Rp4.pv fS g (sv neg (nF fD s)) = pat fS neg t := by
    unfold Rp4.pv
    have z : sv neg (nF fD s) ≠ 0 := by unfold sv; split <;> omega
    have sd : decide (sv neg (nF fD s) < 0) = neg := by
     cases neg
     ·exact decide_eq_false (by show ¬ ((nF fD s : Nat) : Int) < 0; omega)
     ·exact decide_eq_true (by show -((nF fD s : Nat) : Int) < 0; omega)
    rw [if_neg z, sd, sv_abs, es]
   rw [sn]
   exact Ev.now _
  ·unfold gnomonref08_DocNarrow.f
   refine Ev.bind (rn_ev oD) (Ev.bind (rn_ev oS) (Ev.bind (rn_ev ct) (Ev.bind (rn_ev cc) ?_)))
   refine Ev.congr (fun k => if_neg (by omega)) (Ev.congr (fun k => if_neg (by omega)) (Ev.congr (fun k => if_neg e0) ?_))
   have hm := sz_mg tD s
   have w := word_ev ((mgF fD s : Nat) : Int) (by omega) (by omega)
   rw [Int.toNat_natCast] at w
   have w1 := word_ev 1 (by decide) (by decide)
   refine Ev.bind (rn_ev (sz_parts tD GD ((fD.qt : Nat) : Int) hs)) (Ev.bind w (Ev.bind w1 (Ev.bind r (Ev.bind (rn_ev (rn_signed tS neg nq.le _ _ _ _ _)) (Ev.now _)))))
 have hh : ¬ s < hdF fD := by omega
 by_cases c2 : s = fD.inf
 ·have e : cl fD s = 3 := by unfold cl; rw [if_neg c0, if_neg hh, if_neg c1, if_pos c2]
  refine ⟨pat fS neg fS.inf, ?_, ?_⟩
  ·unfold round_Narrow.f
   rw [e63]
   refine Ev.bind ec (Ev.bind (rn_ev (of_f tS)) ?_)
   rw [e]
   exact Ev.congr (fun k => if_neg (by decide)) (Ev.congr (fun k => if_pos rfl) (Ev.bind (rn_ev (inf_f tS)) (Ev.bind (rn_ev (signed_f tS neg (by omega))) (Ev.now _))))
  ·unfold gnomonref08_DocNarrow.f
   refine Ev.bind (rn_ev oD) (Ev.bind (rn_ev oS) (Ev.bind (rn_ev ct) (Ev.bind (rn_ev cc) ?_)))
   rw [e]
   exact Ev.congr (fun k => if_neg (by decide)) (Ev.congr (fun k => if_pos rfl) (Ev.bind (rn_ev (rn_signed tS neg (Nat.le_refl _) _ _ _ _ _)) (Ev.now _)))
 ·have e : cl fD s = 4 := by unfold cl; rw [if_neg c0, if_neg hh, if_neg c1, if_neg c2]
  refine ⟨fS.qt, ?_, ?_⟩
  ·unfold round_Narrow.f
   rw [e63]
   refine Ev.bind ec (Ev.bind (rn_ev (of_f tS)) ?_)
   rw [e]
   exact Ev.congr (fun k => if_pos rfl) (Ev.bind (rn_ev (rn_quiet tS)) (Ev.now _))
  ·unfold gnomonref08_DocNarrow.f
   refine Ev.bind (rn_ev oD) (Ev.bind (rn_ev oS) (Ev.bind (rn_ev ct) (Ev.bind (rn_ev cc) ?_)))
   rw [e]
   exact Ev.congr (fun k => if_pos rfl) (Ev.now _)
end Go.Proofs.YtelfmddcjlocpaaGreatDoor.RnL
