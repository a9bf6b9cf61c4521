/- What round.Narrow answers is what the document's Narrow answers. Plain Lean over the functions. Condition: words. The reference's digits of words. Plain Lean over the printed functions. Condition: at most 8192 words. What round.Nearest answers is what the document's Nearest answers. Plain Lean over the functions. Condition: words. Functions of the program as plain Lean functions (definitions as the print's), and that the machine's calls do what they do (contracts 'X.c', by Px). Condition: math/bits' table is laid. -/
import Derived.Test.YtelfmddcjlocpaaGreatDoorKRoundCellsSz
import Derived.Test.YtelfmddcjlocpaaGreatDoorKRoundCellsSq
import Derived.Test.YtelfmddcjlocpaaGreatDoorKRoundCellsPxL2
import Derived.Test.YtelfmddcjlocpaaGreatDoorKRoundCellsPxZ0
import Derived.Test.YtelfmddcjlocpaaGreatDoorKRoundCellsPxL1
import Derived.Test.YtelfmddcjlocpaaGreatDoorKRoundCellsRefA
import Derived.Test.YtelfmddcjlocpaaGreatDoorKRoundCellsGivenD
import Derived.Test.YtelfmddcjlocpaaGreatDoorKRoundCellsRp1
import Derived.Test.YtelfmddcjlocpaaGreatDoorKRoundCellsPRefx4
import Derived.Test.YtelfmddcjlocpaaGreatDoorKRoundCellsPxL0
import Derived.Test.YtelfmddcjlocpaaGreatDoorKRoundCellsTwin
import Derived.Test.YtelfmddcjlocpaaGreatDoorKRoundCellsPxRfz
import Derived.Test.YtelfmddcjlocpaaGreatDoorKRoundCellsPxQ0
section
set_option linter.unusedVariables false
namespace Go.Proofs.YtelfmddcjlocpaaGreatDoor.RnL
open Go.RowKit Go.Proofs.YtelfmddcjlocpaaGreatDoorW.PrintWords Go.Proofs.YtelfmddcjlocpaaGreatDoorW.PrintMore Go.Proofs.YtelfmddcjlocpaaGreatDoor.Num Go.Proofs.YtelfmddcjlocpaaGreatDoor.PLib Go.Proofs.YtelfmddcjlocpaaGreatDoor.PRef Go.Proofs.YtelfmddcjlocpaaGreatDoor.Ref Go.Proofs.YtelfmddcjlocpaaGreatDoor.GTh Go.Proofs.YtelfmddcjlocpaaGreatDoor.Given Go.Proofs.YtelfmddcjlocpaaGreatDoor.Rp1 Go.Proofs.YtelfmddcjlocpaaGreatDoor.Rp3 Go.Proofs.YtelfmddcjlocpaaGreatDoor.Rp4 Go.Proofs.YtelfmddcjlocpaaGreatDoor.Rp5 Go.Proofs.YtelfmddcjlocpaaGreatDoor.Rp7 Go.Proofs.YtelfmddcjlocpaaGreatDoor.BinLaw Go.Proofs.YtelfmddcjlocpaaGreatDoor.Fm8 Go.Proofs.YtelfmddcjlocpaaGreatDoor.Rnd Go.Proofs.YtelfmddcjlocpaaGreatDoor.Sq Go.Proofs.YtelfmddcjlocpaaGreatDoor.Sz
theorem tS : Fm 32 fS := .inl ⟨rfl, rfl⟩
theorem tD : Fm 64 fD := .inr ⟨rfl, rfl⟩
theorem rn_ev {α : Type} {o : Option α} {v : α} (h : o = some v) : Ev (fun _ => o) v := by rw [h]; exact Ev.now _
theorem rn_of {f : Int} {F : Fmt} (h : Fm f F) : ∃ G : Int, gnomonref07_Of.f f = some (((F.sg : Nat) : Int), ((F.man : Nat) : Int), F.low, G, ((F.inf : Nat) : Int), ((F.qt : Nat) : Int), true) := by
 rcases h with ⟨rfl, rfl⟩ | ⟨rfl, rfl⟩
 ·exact ⟨104, rfl⟩
 ·exact ⟨971, rfl⟩
theorem rn_cut {f : Int} {F : Fmt} (h : Fm f F) (neg : Bool) {s : Nat} (hs : s < F.sg) (P E G I Q : Int) : gnomonref07_Cut.f ((F.sg : Nat) : Int) P E G I Q ((pat F neg s : Nat) : Int) = some (neg, ((s : Nat) : Int)) := by
 have hz := h.sz
 have e : Int.tmod ((pat F neg s : Nat) : Int) ((F.sg : Nat) : Int) = (((pat F neg s) % F.sg : Nat) : Int) := (Int.ofNat_tmod _ _).symm
 have m := pat_mod F neg hs
 have g := pat_ge F neg hs
 have d : decide (((pat F neg s : Nat) : Int) ≥ ((F.sg : Nat) : Int)) = neg := by
  have t : decide (((pat F neg s : Nat) : Int) ≥ ((F.sg : Nat) : Int)) = decide (F.sg ≤ pat F neg s) := decide_eq_decide.2 ⟨fun q => by omega, fun q => by omega⟩
  exact t.trans g
 unfold gnomonref07_Cut.f
 first
 | (rw [if_neg (by omega), e, d, m])
 | (rw [e, d, m])
theorem rn_signed {f : Int} {F : Fmt} (h : Fm f F) (n : Bool) {s : Nat} (hs : s ≤ F.inf) (P E G I Q : Int) : gnomonref08_signed.f ((F.sg : Nat) : Int) P E G I Q n (s : Int) = some ((pat F n s : Nat) : Int) := by
 have hz := h.sz
 unfold gnomonref08_signed.f pat
 cases n
 ·rw [if_neg (by decide), if_neg (by decide)]
 ·rw [if_pos rfl, if_pos rfl, wu64 (by omega) (by omega)]; rfl
theorem rn_cl {f : Int} {F : Fmt} (h : Fm f F) (G Q : Int) (s : Nat) (hs : s < F.sg) : gnomonref07_ClassOf.f ((F.sg : Nat) : Int) ((F.man : Nat) : Int) F.low G ((F.inf : Nat) : Int) Q (s : Int) = some (cl F s) := by
 obtain ⟨k1, k2⟩ := sz_hd h
 unfold gnomonref07_ClassOf.f cl
 by_cases c0 : s = 0
 ·rw [if_pos (by omega), if_pos c0]
 rw [if_neg (by omega), if_neg c0, if_pos k1, k2]
 by_cases c1 : s < hdF F
 ·rw [if_pos (by omega), if_pos c1]
 rw [if_neg (by omega), if_neg c1]
 by_cases c2 : s < F.inf
 ·rw [if_pos (by omega), if_pos c2]
 rw [if_neg (by omega), if_neg c2]
 by_cases c3 : s = F.inf
 ·rw [if_pos (by omega), if_pos c3]
 ·rw [if_neg (by omega), if_neg c3]
end Go.Proofs.YtelfmddcjlocpaaGreatDoor.RnL
end
section
namespace Go.Proofs.YtelfmddcjlocpaaGreatDoor.Ref
open Go.RowKit Go.Proofs.YtelfmddcjlocpaaGreatDoorW.PrintWords Go.Proofs.YtelfmddcjlocpaaGreatDoorW.PrintMore Go.Proofs.YtelfmddcjlocpaaGreatDoor.Num Go.Proofs.YtelfmddcjlocpaaGreatDoor.PLib Go.Proofs.YtelfmddcjlocpaaGreatDoor.PRef Go.Proofs.YtelfmddcjlocpaaGreatDoor.GTh Go.Proofs.YtelfmddcjlocpaaGreatDoor.Given
theorem from_l0 (m : Nat) (hm : nl m ≤ 8192) (d : Nat) : ∀ (i : Nat) (s : List Int), nl m - i = d → i ≤ nl m → Dg s → s.length = 2 * i → vl s = m % pw i → Ev (fun k => gnomonref01_From.l0 k (lb m) s (i : Int)) (dg m) := by
 induction d with
 | zero =>
  intro i s h1 h2 h3 h4 h5
  have e : i = nl m := by omega
  subst e
  rw [Nat.mod_eq_of_lt (nl_lt m)] at h5
  refine Ev.step (fun k => by rw [gnomonref01_From.l0, if_neg (by rw [lb_len]; omega)]) (Ev.bind (norm_to h3 (by omega) h5) (Ev.now _))
 | succ d ih =>
  intro i s h1 h2 h3 h4 h5
  have hi : i < nl m := by omega
  have r := Rp1.lb_rd hi
  have hx := dw_lt m i
  obtain ⟨x, ex⟩ : ∃ x, x = dw m i := ⟨_, rfl⟩
  rw [← ex] at r hx
  have e1 : Go.bits .and .u64 (x : Int) 4294967295 % 4294967296 = ((x % 4294967296 : Nat) : Int) := by rw [mask32 (by omega) (by omega)]; omega
  have e2 : (x : Int) / 4294967296 % 4294967296 = ((x / 4294967296 : Nat) : Int) := by omega
  have pb : pw i = B^(2 * i) := by rw [pw_B]; unfold pw; congr 1; omega
  have nx := ih (i + 1) (s ++ [((x % 4294967296 : Nat) : Int), ((x / 4294967296 : Nat) : Int)]) (by omega) hi
   (h3.append (Dg.cons (by omega) (by omega) (Dg.cons (by omega) (by omega) Dg.nil)))
   (by rw [List.length_append, h4]; show 2 * i + 2 = 2 * (i + 1); omega)
   (by
    rw [vl_append, h4, h5, mod_succ, ← ex, ← pb]
    congr 2
    show ((x % 4294967296 : Nat) : Int).toNat + B * (((x / 4294967296 : Nat) : Int).toNat + B * 0) = x
    rw [B_eq, Int.toNat_natCast, Int.toNat_natCast]
    omega)
  refine Ev.step (f := fun k => gnomonref01_From.l0 k (lb m) (s ++ [((x % 4294967296 : Nat) : Int), ((x / 4294967296 : Nat) : Int)]) ((i + 1 : Nat) : Int)) (fun k => ?_) nx
  rw [gnomonref01_From.l0, if_pos (by rw [lb_len]; omega), if_pos (by omega), r, e1, e2]
  rw [Option.bind_some, if_pos (by rw [h4]; show 2 * i + 2 < 35184372088832; omega), w64 (by omega) (by omega), show (i : Int) + 1 = ((i + 1 : Nat) : Int) by omega]
theorem from_ev (m : Nat) (hm : nl m ≤ 8192) : Ev (fun k => gnomonref01_From.f k (lb m)) (dg m) := by
 have h := from_l0 m hm (nl m) 0 [] (by omega) (Nat.zero_le _) Dg.nil rfl (by rw [pw_zero, Nat.mod_one]; rfl)
 have e : wrap64 (2 * ((lb m).length : Int)) = 2 * ((lb m).length : Int) := by rw [lb_len]; exact w64 (by omega) (by omega)
 unfold gnomonref01_From.f
 rw [e]
 refine Ev.congr (fun k => if_pos (by omega)) (Ev.congr (fun k => if_pos (by rw [lb_len]; omega)) h)
end Go.Proofs.YtelfmddcjlocpaaGreatDoor.Ref
end
section
set_option linter.unusedVariables false
namespace Go.Proofs.YtelfmddcjlocpaaGreatDoor.RnN
open Go.RowKit Go.Proofs.YtelfmddcjlocpaaGreatDoorW.PrintWords Go.Proofs.YtelfmddcjlocpaaGreatDoorW.PrintMore Go.Proofs.YtelfmddcjlocpaaGreatDoor.Num Go.Proofs.YtelfmddcjlocpaaGreatDoor.PLib Go.Proofs.YtelfmddcjlocpaaGreatDoor.PRef Go.Proofs.YtelfmddcjlocpaaGreatDoor.Ref Go.Proofs.YtelfmddcjlocpaaGreatDoor.GTh Go.Proofs.YtelfmddcjlocpaaGreatDoor.Given Go.Proofs.YtelfmddcjlocpaaGreatDoor.Rp1 Go.Proofs.YtelfmddcjlocpaaGreatDoor.Rp3 Go.Proofs.YtelfmddcjlocpaaGreatDoor.Rp4 Go.Proofs.YtelfmddcjlocpaaGreatDoor.Rp5 Go.Proofs.YtelfmddcjlocpaaGreatDoor.Rp7 Go.Proofs.YtelfmddcjlocpaaGreatDoor.BinLaw Go.Proofs.YtelfmddcjlocpaaGreatDoor.Fm8 Go.Proofs.YtelfmddcjlocpaaGreatDoor.Rnd Go.Proofs.YtelfmddcjlocpaaGreatDoor.Sq Go.Proofs.YtelfmddcjlocpaaGreatDoor.Sz Go.Proofs.YtelfmddcjlocpaaGreatDoor.RnL
theorem rn_no {f : Int} (h : f ≠ 32) (h' : f ≠ 64) : gnomonref07_Of.f f = some (0, 0, 0, 0, 0, 0, false) := by
 unfold gnomonref07_Of.f
 rw [if_neg h, if_neg h']
theorem rn_size {f : Int} {F : Fmt} (h : Fm f F) {neg : Bool} {m : Nat} {x : Int} (hd : Dk neg m x) (m0 : m ≠ 0) (G Q : Int) :
  ∃ s : Nat, s ≤ F.inf ∧ rnd F neg m x (min x (F.low - 1)) = pat F neg s ∧ Ev (fun k => gnomonref08_Size.f k ((F.sg : Nat) : Int) ((F.man : Nat) : Int) F.low G ((F.inf : Nat) : Int) Q (dg m) (dg 1) x false) (s : Int) := by
 have hl := sz_low h
 have h1 := hd.low
 have h2 := hd.high
 have bm : bl m ≤ 524288 := bl_le' hd.lim
 obtain ⟨E, hE⟩ : ∃ E, E = min x (F.low - 1) := ⟨_, rfl⟩
 rw [← hE]
 obtain ⟨s, nq, r⟩ := size_ev h (A := m) (B := 1) (e := x) (E := E) ⟨m0, by decide, by omega, by decide, by omega, by omega, by omega, by omega⟩ G Q
 have e2 : qd F 1 E = 2^(F.low - E).toNat := by unfold qd; rw [Nat.one_mul]
 rw [e2] at nq
 refine ⟨s, nq.le, ?_, r⟩
 have es := rsz_eq h (nst_of_nq nq)
 unfold qn at es
 unfold rnd
 rw [if_neg m0, es]
theorem rn_nearest (f : Int) (neg : Bool) (l : List Int) (hw : Wf l) (x : Int) : ∃ r e : Int, Ev (fun k => round_Nearest.f k f neg l x) (r, e) ∧ Ev (fun k => gnomonref08_DocNearest.f k f neg l x) (r, e) := by
 by_cases hf : f = 32 ∨ f = 64
 rotate_left
 ·refine ⟨0, 1, nearest_no (fun c => hf (.inl c)) (fun c => hf (.inr c)) neg l x, ?_⟩
  unfold gnomonref08_DocNearest.f
  exact Ev.bind (rn_ev (rn_no (fun c => hf (.inl c)) (fun c => hf (.inr c)))) (Ev.congr (fun k => if_neg (by decide)) (Ev.now _))
 obtain ⟨F, h⟩ : ∃ F, Fm f F := by
  rcases hf with rfl | rfl
  ·exact ⟨fS, tS⟩
  ·exact ⟨fD, tD⟩
 obtain ⟨G, oF⟩ := rn_of h
 have df := docForm_ev neg l x
 by_cases d : dyB neg l x = true
 rotate_left
 ·rw [Bool.not_eq_true] at d
  refine ⟨0, 2, nearest_bad h d, ?_⟩
  rw [d] at df
  unfold gnomonref08_DocNearest.f
  exact Ev.bind (rn_ev oF) (Ev.congr (fun k => if_pos rfl) (Ev.bind df (Ev.congr (fun k => if_neg (by decide)) (Ev.now _))))
 rw [d] at df
 obtain ⟨m, rfl, dk⟩ := dk_of hw d
 have hl := sz_low h
 have nv := nearest_ev h dk (E := min x (F.low - 1)) (by omega) (by omega)
 by_cases m0 : m = 0
 ·refine ⟨_, 0, nv, ?_⟩
  have e : rnd F neg m x (min x (F.low - 1)) = 0 := by unfold rnd; rw [if_pos m0]
  rw [e]
  have no : gnomonref05_Nought.f neg (lb m) x = some true := by
   unfold gnomonref05_Nought.f; rw [m0]; rfl
  unfold gnomonref08_DocNearest.f
  exact Ev.bind (rn_ev oF) (Ev.congr (fun k => if_pos rfl) (Ev.bind df (Ev.congr (fun k => if_pos rfl) (Ev.bind (rn_ev no) (Ev.congr (fun k => if_pos rfl) (Ev.now _))))))
 ·obtain ⟨s, sl, es, r⟩ := rn_size h dk m0 G ((F.qt : Nat) : Int)
  refine ⟨_, 0, nv, ?_⟩
  rw [es]
  have no : gnomonref05_Nought.f neg (lb m) x = some false := by
   unfold gnomonref05_Nought.f
   have := nl_pos m0
   rw [beq_eq_false_iff_ne.2 (by rw [lb_len]; omega)]
  unfold gnomonref08_DocNearest.f
  exact Ev.bind (rn_ev oF) (Ev.congr (fun k => if_pos rfl) (Ev.bind df (Ev.congr (fun k => if_pos rfl) (Ev.bind (rn_ev no) (Ev.congr (fun k => if_neg (by decide)) (Ev.bind (from_ev m dk.lim) (Ev.bind (word_ev 1 (by decide) (by decide)) (Ev.bind r (Ev.bind (rn_ev (rn_signed h neg sl _ _ _ _ _)) (Ev.now _))))))))))
end Go.Proofs.YtelfmddcjlocpaaGreatDoor.RnN
end
section
set_option linter.unusedVariables false
namespace Go.Proofs.YtelfmddcjlocpaaGreatDoor.PLib
open Go Go.RowKit Go.Proofs.YtelfmddcjlocpaaGreatDoorW.PrintWords Go.Proofs.YtelfmddcjlocpaaGreatDoorW.PrintMore Go.Proofs.YtelfmddcjlocpaaGreatDoor.Given Go.Proofs.YtelfmddcjlocpaaGreatDoor.Px Go.Proofs.YtelfmddcjlocpaaGreatDoor.PRef Go.Proofs.YtelfmddcjlocpaaGreatDoor.PRfz
def gnomonref07_Dyadic.f (k : Nat) (a0_0 : Bool) (l0_1 : List Int) (a1 : Int) : Option (Bool × List Int × Int) := (gnomonref04_Sign.f a0_0 l0_1).bind fun t1 => (if t1 = 0 then (some (false, ([] : List Int), 0)) else ((gnomonref01_Zeros.f k l0_1).bind fun t2 => ((gnomonref01_Shr.f k l0_1 t2).bind fun t3 => ((gnomonref04_Mk.f k a0_0 t3).bind fun bt4 => ((gnomonref04_To.f k bt4.1 bt4.2).bind fun bt5 => (some (bt5.1, bt5.2, wrap64 (a1 + t2))))))))
theorem gnomonref07_Dyadic.mono : ∀ a0 a1 a2 k, LeO (gnomonref07_Dyadic.f k a0 a1 a2) (gnomonref07_Dyadic.f (k + 1) a0 a1 a2) := by
 intro a0 a1 a2 k
 unfold gnomonref07_Dyadic.f
 repeat' first
  | (with_reducible exact gnomonref01_Shr.mono _ _ _)
  | (with_reducible exact gnomonref01_Zeros.mono _ _)
  | (with_reducible exact gnomonref04_Mk.mono _ _ _)
  | (with_reducible exact gnomonref04_To.mono _ _ _)
  | (with_reducible exact LeO.refl _)
  | (with_reducible exact LeO.none _)
  | (with_reducible refine LeO.ite ?_ ?_)
  | (with_reducible refine LeO.bind ?_ (fun _ => ?_))
theorem gnomonref07_Dyadic.c {k : Nat} {a0_0 : Bool} {l0_1 : List Int} {a1 : Int} {r : Bool × List Int × Int} (h : gnomonref07_Dyadic.f k a0_0 l0_1 a1 = some r) : Con Tryz.prog Gw 148 [.ag [.b a0_0, .sl .u32 l0_1], .s (.i .i64 a1)] (· = .ag [.b r.1, .sl .u64 r.2.1, .i .i64 r.2.2]) := by
 unfold gnomonref07_Dyadic.f at h
 obtain ⟨t1, A1, h⟩ := bnd h
 rcases ite_e h with ⟨c2, h⟩ | ⟨c2, h⟩
 ·have h := si h; subst h
  exact pth Tryz.func148 [.r (.s (.i .i64 t1)), .br true] (fun e => ai (gnomonref04_Sign.c A1) (ai (q1 c2) e)) (by kernel_rfl)
 ·obtain ⟨t2, A3, h⟩ := bnd h
  obtain ⟨t3, A4, h⟩ := bnd h
  obtain ⟨bt4, A5, h⟩ := bnd h
  obtain ⟨bt5, A6, h⟩ := bnd h
  have h := si h; subst h
  exact pth Tryz.func148 [.r (.s (.i .i64 t1)), .br false, .r (.s (.i .i64 t2)), .r (.s (.sl .u32 t3)), .r (.ag [.b bt4.1, .sl .u32 bt4.2]), .r (.ag [.b bt5.1, .sl .u64 bt5.2])] (fun e => ai (gnomonref04_Sign.c A1) (ai (q0 c2) (ai (gnomonref01_Zeros.c A3) (ai (gnomonref01_Shr.c A4) (ai (gnomonref04_Mk.c A5) (ai (gnomonref04_To.c A6) e)))))) (by kernel_rfl)
def gnomonref07_DocMid.f (k : Nat) (a0 : Int) (a1 : Int) : Option (Bool × List Int × Int × Int) := (gnomonref07_finite.f a0 a1).bind fun t1 => (if t1 = 0 then ((gnomonref07_Of.f a0).bind fun bt2 => ((gnomonref07_Cut.f bt2.1 bt2.2.1 bt2.2.2.1 bt2.2.2.2.1 bt2.2.2.2.2.1 bt2.2.2.2.2.2.1 a1).bind fun bt3 => ((gnomonref07_Whole.f k bt2.1 bt2.2.1 bt2.2.2.1 bt2.2.2.2.1 bt2.2.2.2.2.1 bt2.2.2.2.2.2.1 bt3.2).bind fun bt4 => ((gnomonref07_Whole.f k bt2.1 bt2.2.1 bt2.2.2.1 bt2.2.2.2.1 bt2.2.2.2.2.1 bt2.2.2.2.2.2.1 (IntKind.u64.wrap (bt3.2 + 1))).bind fun bt5 => ((gnomonref04_Add.f k bt4.1 bt4.2 bt5.1 bt5.2).bind fun bt6 => ((gnomonref04_Mk.f k bt3.1 bt6.2).bind fun bt7 => ((gnomonref07_Dyadic.f k bt7.1 bt7.2 (wrap64 (bt2.2.2.1 - 1))).bind fun bt8 => (some (bt8.1, bt8.2.1, bt8.2.2, 0))))))))) else (some (false, ([] : List Int), 0, t1)))
theorem gnomonref07_DocMid.mono : ∀ a0 a1 k, LeO (gnomonref07_DocMid.f k a0 a1) (gnomonref07_DocMid.f (k + 1) a0 a1) := by
 intro a0 a1 k
 unfold gnomonref07_DocMid.f
 repeat' first
  | (with_reducible exact gnomonref04_Add.mono _ _ _ _ _)
  | (with_reducible exact gnomonref04_Mk.mono _ _ _)
  | (with_reducible exact gnomonref07_Dyadic.mono _ _ _ _)
  | (with_reducible exact gnomonref07_Whole.mono _ _ _ _ _ _ _ _)
  | (with_reducible exact LeO.refl _)
  | (with_reducible exact LeO.none _)
  | (with_reducible refine LeO.ite ?_ ?_)
  | (with_reducible refine LeO.bind ?_ (fun _ => ?_))
theorem gnomonref07_DocMid.c {k : Nat} {a0 : Int} {a1 : Int} {r : Bool × List Int × Int × Int} (h : gnomonref07_DocMid.f k a0 a1 = some r) : Con Tryz.prog Gw 111 [.s (.i .i64 a0), .s (.i .u64 a1)] (· = .tu [.ag [.b r.1, .sl .u64 r.2.1, .i .i64 r.2.2.1], .s (.i .i64 r.2.2.2)]) := by
 unfold gnomonref07_DocMid.f at h
 obtain ⟨t1, A1, h⟩ := bnd h
 rcases ite_e h with ⟨c2, h⟩ | ⟨c2, h⟩
 ·obtain ⟨bt2, A3, h⟩ := bnd h
  obtain ⟨bt3, A4, h⟩ := bnd h
  obtain ⟨bt4, A5, h⟩ := bnd h
  obtain ⟨bt5, A6, h⟩ := bnd h
  obtain ⟨bt6, A7, h⟩ := bnd h
  obtain ⟨bt7, A8, h⟩ := bnd h
  obtain ⟨bt8, A9, h⟩ := bnd h
  have h := si h; subst h
  exact pth Tryz.func111 [.r (.s (.i .i64 t1)), .br false, .r (.tu [.ag [.i .u64 bt2.1, .i .i64 bt2.2.1, .i .i64 bt2.2.2.1, .i .i64 bt2.2.2.2.1, .i .u64 bt2.2.2.2.2.1, .i .u64 bt2.2.2.2.2.2.1], .s (.b bt2.2.2.2.2.2.2)]), .r (.tu [.s (.b bt3.1), .s (.i .u64 bt3.2)]), .r (.ag [.b bt4.1, .sl .u32 bt4.2]), .r (.ag [.b bt5.1, .sl .u32 bt5.2]), .r (.ag [.b bt6.1, .sl .u32 bt6.2]), .r (.ag [.b bt7.1, .sl .u32 bt7.2]), .r (.ag [.b bt8.1, .sl .u64 bt8.2.1, .i .i64 bt8.2.2])] (fun e => ai (gnomonref07_finite.c A1) (ai (n0 c2) (ai (gnomonref07_Of.c A3) (ai (gnomonref07_Cut.c A4) (ai (gnomonref07_Whole.c A5) (ai (gnomonref07_Whole.c A6) (ai (gnomonref04_Add.c A7) (ai (gnomonref04_Mk.c A8) (ai (gnomonref07_Dyadic.c A9) e))))))))) (by kernel_rfl)
 ·have h := si h; subst h
  exact pth Tryz.func111 [.r (.s (.i .i64 t1)), .br true] (fun e => ai (gnomonref07_finite.c A1) (ai (n1 c2) e)) (by kernel_rfl)
def gnomonref08_DocCell.f (k : Nat) (a0 : Int) (a1 : Int) : Option (Bool × List Int × Int × Bool × List Int × Int × Bool × Int) := (gnomonref07_DocClass.f a0 a1).bind fun bt1 => (if bt1.2 = 0 then (if bt1.1 = 0 then (some (false, ([] : List Int), 0, false, ([] : List Int), 0, false, 6)) else (if bt1.1 = 3 then (some (false, ([] : List Int), 0, false, ([] : List Int), 0, false, 6)) else (if bt1.1 = 4 then (some (false, ([] : List Int), 0, false, ([] : List Int), 0, false, 6)) else ((gnomonref07_DocMid.f k a0 a1).bind fun bt2 => ((gnomonref07_DocMid.f k a0 (IntKind.u64.wrap (a1 - 1))).bind fun bt3 => (if bt2.1 = true then (some (bt2.1, bt2.2.1, bt2.2.2.1, bt3.1, bt3.2.1, bt3.2.2.1, (Int.tmod a1 2) == 0, 0)) else (some (bt3.1, bt3.2.1, bt3.2.2.1, bt2.1, bt2.2.1, bt2.2.2.1, (Int.tmod a1 2) == 0, 0)))))))) else (some (false, ([] : List Int), 0, false, ([] : List Int), 0, false, bt1.2)))
theorem gnomonref08_DocCell.mono : ∀ a0 a1 k, LeO (gnomonref08_DocCell.f k a0 a1) (gnomonref08_DocCell.f (k + 1) a0 a1) := by
 intro a0 a1 k
 unfold gnomonref08_DocCell.f
 repeat' first
  | (with_reducible exact gnomonref07_DocMid.mono _ _ _)
  | (with_reducible exact LeO.refl _)
  | (with_reducible exact LeO.none _)
  | (with_reducible refine LeO.ite ?_ ?_)
  | (with_reducible refine LeO.bind ?_ (fun _ => ?_))
theorem gnomonref08_DocCell.c {k : Nat} {a0 : Int} {a1 : Int} {r : Bool × List Int × Int × Bool × List Int × Int × Bool × Int} (h : gnomonref08_DocCell.f k a0 a1 = some r) : Con Tryz.prog Gw 56 [.s (.i .i64 a0), .s (.i .u64 a1)] (· = .tu [.ag [.b r.1, .sl .u64 r.2.1, .i .i64 r.2.2.1, .b r.2.2.2.1, .sl .u64 r.2.2.2.2.1, .i .i64 r.2.2.2.2.2.1], .s (.b r.2.2.2.2.2.2.1), .s (.i .i64 r.2.2.2.2.2.2.2)]) := by
 unfold gnomonref08_DocCell.f at h
 obtain ⟨bt1, A1, h⟩ := bnd h
 rcases ite_e h with ⟨c2, h⟩ | ⟨c2, h⟩
 ·rcases ite_e h with ⟨c3, h⟩ | ⟨c3, h⟩
  ·have h := si h; subst h
   exact pth Tryz.func56 [.r (.tu [.s (.i .i64 bt1.1), .s (.i .i64 bt1.2)]), .br false, .br true, .br true, .br true, .br true, .br true, .br true, .br true] (fun e => ai (gnomonref07_DocClass.c A1) (ai (n0 c2) (ai (q1 c3) (ai (q1 c3) (ai (q1 c3) (ai tt (ai tt (ai tt (ai tt e))))))))) (by kernel_rfl)
  ·rcases ite_e h with ⟨c4, h⟩ | ⟨c4, h⟩
   ·have h := si h; subst h
    exact pth Tryz.func56 [.r (.tu [.s (.i .i64 bt1.1), .s (.i .i64 bt1.2)]), .br false, .br false, .br false, .br false, .br true, .br true, .br true, .br true] (fun e => ai (gnomonref07_DocClass.c A1) (ai (n0 c2) (ai (q0 c3) (ai (q0 c3) (ai (q0 c3) (ai (q1 c4) (ai (q1 c4) (ai (q1 c4) (ai tt e))))))))) (by kernel_rfl)
   ·rcases ite_e h with ⟨c5, h⟩ | ⟨c5, h⟩
    ·have h := si h; subst h
     exact pth Tryz.func56 [.r (.tu [.s (.i .i64 bt1.1), .s (.i .i64 bt1.2)]), .br false, .br false, .br false, .br false, .br false, .br false, .br false, .br true] (fun e => ai (gnomonref07_DocClass.c A1) (ai (n0 c2) (ai (q0 c3) (ai (q0 c3) (ai (q0 c3) (ai (q0 c4) (ai (q0 c4) (ai (q0 c4) (ai (q1 c5) e))))))))) (by kernel_rfl)
    ·obtain ⟨bt2, A6, h⟩ := bnd h
     obtain ⟨bt3, A7, h⟩ := bnd h
     rcases ite_e h with ⟨c8, h⟩ | ⟨c8, h⟩
     ·have h := si h; subst h
      exact pth Tryz.func56 [.r (.tu [.s (.i .i64 bt1.1), .s (.i .i64 bt1.2)]), .br false, .br false, .br false, .br false, .br false, .br false, .br false, .br false, .r (.tu [.ag [.b bt2.1, .sl .u64 bt2.2.1, .i .i64 bt2.2.2.1], .s (.i .i64 bt2.2.2.2)]), .r (.tu [.ag [.b bt3.1, .sl .u64 bt3.2.1, .i .i64 bt3.2.2.1], .s (.i .i64 bt3.2.2.2)]), .br true] (fun e => ai (gnomonref07_DocClass.c A1) (ai (n0 c2) (ai (q0 c3) (ai (q0 c3) (ai (q0 c3) (ai (q0 c4) (ai (q0 c4) (ai (q0 c4) (ai (q0 c5) (ai (gnomonref07_DocMid.c A6) (ai (gnomonref07_DocMid.c A7) (ai c8 (ai (by decide : (2 : Int) ≠ 0) e))))))))))))) (by kernel_rfl)
     ·have h := si h; subst h
      exact pth Tryz.func56 [.r (.tu [.s (.i .i64 bt1.1), .s (.i .i64 bt1.2)]), .br false, .br false, .br false, .br false, .br false, .br false, .br false, .br false, .r (.tu [.ag [.b bt2.1, .sl .u64 bt2.2.1, .i .i64 bt2.2.2.1], .s (.i .i64 bt2.2.2.2)]), .r (.tu [.ag [.b bt3.1, .sl .u64 bt3.2.1, .i .i64 bt3.2.2.1], .s (.i .i64 bt3.2.2.2)]), .br false] (fun e => ai (gnomonref07_DocClass.c A1) (ai (n0 c2) (ai (q0 c3) (ai (q0 c3) (ai (q0 c3) (ai (q0 c4) (ai (q0 c4) (ai (q0 c4) (ai (q0 c5) (ai (gnomonref07_DocMid.c A6) (ai (gnomonref07_DocMid.c A7) (ai (z0 c8) (ai (by decide : (2 : Int) ≠ 0) e))))))))))))) (by kernel_rfl)
 ·have h := si h; subst h
  exact pth Tryz.func56 [.r (.tu [.s (.i .i64 bt1.1), .s (.i .i64 bt1.2)]), .br true] (fun e => ai (gnomonref07_DocClass.c A1) (ai (n1 c2) e)) (by kernel_rfl)
end Go.Proofs.YtelfmddcjlocpaaGreatDoor.PLib
end
