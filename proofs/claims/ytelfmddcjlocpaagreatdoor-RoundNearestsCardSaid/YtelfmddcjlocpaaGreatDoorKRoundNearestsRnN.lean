/- What round.Narrow answers is what the document's Narrow answers. Plain Lean over the functions. Condition: words. The reference's digits of words. Plain Lean over the printed functions. Condition: at most 8192 words. What round.Nearest answers is what the document's Nearest answers. Plain Lean over the functions. Condition: words. -/
import Derived.Test.YtelfmddcjlocpaaGreatDoorKRoundNearestsSz
import Derived.Test.YtelfmddcjlocpaaGreatDoorKRoundNearestsSq
import Derived.Test.YtelfmddcjlocpaaGreatDoorKRoundNearestsPRefx0
import Derived.Test.YtelfmddcjlocpaaGreatDoorKRoundNearestsPxZ0
import Derived.Test.YtelfmddcjlocpaaGreatDoorKRoundNearestsPxL1
import Derived.Test.YtelfmddcjlocpaaGreatDoorKRoundNearestsRefA
import Derived.Test.YtelfmddcjlocpaaGreatDoorKRoundNearestsGTh
import Derived.Test.YtelfmddcjlocpaaGreatDoorKRoundNearestsGivenD
import Derived.Test.YtelfmddcjlocpaaGreatDoorKRoundNearestsRp1
import Derived.Test.YtelfmddcjlocpaaGreatDoorKRoundNearestsPRefx4
import Derived.Test.YtelfmddcjlocpaaGreatDoorKRoundNearestsPxL0
section
set_option linter.unusedVariables false
namespace Go.Proofs.YtelfmddcjlocpaaGreatDoor.RnL
open Go.RowKit Go.Proofs.YtelfmddcjlocpaaGreatDoorW.PrintWords Go.Proofs.YtelfmddcjlocpaaGreatDoorW.PrintMore Go.Proofs.YtelfmddcjlocpaaGreatDoor.Num Go.Proofs.YtelfmddcjlocpaaGreatDoor.PLib Go.Proofs.YtelfmddcjlocpaaGreatDoor.PRef Go.Proofs.YtelfmddcjlocpaaGreatDoor.Ref Go.Proofs.YtelfmddcjlocpaaGreatDoor.GTh Go.Proofs.YtelfmddcjlocpaaGreatDoor.Given Go.Proofs.YtelfmddcjlocpaaGreatDoor.Rp1 Go.Proofs.YtelfmddcjlocpaaGreatDoor.Rp3 Go.Proofs.YtelfmddcjlocpaaGreatDoor.Rp4 Go.Proofs.YtelfmddcjlocpaaGreatDoor.Rp7 Go.Proofs.YtelfmddcjlocpaaGreatDoor.BinLaw Go.Proofs.YtelfmddcjlocpaaGreatDoor.Fm8 Go.Proofs.YtelfmddcjlocpaaGreatDoor.Rnd Go.Proofs.YtelfmddcjlocpaaGreatDoor.Sq Go.Proofs.YtelfmddcjlocpaaGreatDoor.Sz
theorem tS : Fm 32 fS := .inl ⟨rfl, rfl⟩
theorem tD : Fm 64 fD := .inr ⟨rfl, rfl⟩
theorem rn_ev {α : Type} {o : Option α} {v : α} (h : o = some v) : Ev (fun _ => o) v := by rw [h]; exact Ev.now _
theorem rn_of {f : Int} {F : Fmt} (h : Fm f F) : ∃ G : Int, gnomonref07_Of.f f = some (((F.sg : Nat) : Int), ((F.man : Nat) : Int), F.low, G, ((F.inf : Nat) : Int), ((F.qt : Nat) : Int), true) := by
 rcases h with ⟨rfl, rfl⟩ | ⟨rfl, rfl⟩
 ·exact ⟨104, rfl⟩
 ·exact ⟨971, rfl⟩
theorem rn_signed {f : Int} {F : Fmt} (h : Fm f F) (n : Bool) {s : Nat} (hs : s ≤ F.inf) (P E G I Q : Int) : gnomonref08_signed.f ((F.sg : Nat) : Int) P E G I Q n (s : Int) = some ((pat F n s : Nat) : Int) := by
 have hz := h.sz
 unfold gnomonref08_signed.f pat
 cases n
 ·rw [if_neg (by decide), if_neg (by decide)]
 ·rw [if_pos rfl, if_pos rfl, wu64 (by omega) (by omega)]; rfl
end Go.Proofs.YtelfmddcjlocpaaGreatDoor.RnL
end
section
namespace Go.Proofs.YtelfmddcjlocpaaGreatDoor.Ref
open Go.RowKit Go.Proofs.YtelfmddcjlocpaaGreatDoorW.PrintWords Go.Proofs.YtelfmddcjlocpaaGreatDoorW.PrintMore Go.Proofs.YtelfmddcjlocpaaGreatDoor.Num Go.Proofs.YtelfmddcjlocpaaGreatDoor.PLib Go.Proofs.YtelfmddcjlocpaaGreatDoor.PRef Go.Proofs.YtelfmddcjlocpaaGreatDoor.GTh Go.Proofs.YtelfmddcjlocpaaGreatDoor.Given
theorem from_l0 (m : Nat) (hm : nl m ≤ 8192) (d : Nat) : ∀ (i : Nat) (s : List Int), nl m - i = d → i ≤ nl m → Dg s → s.length = 2 * i → vl s = m % pw i → Ev (fun k => gnomonref01_From.l0 k (lb m) s (i : Int)) (dg m) := by
 induction d with
 | zero =>
  intro i s h1 h2 h3 h4 h5
  have e : i = nl m := by omega
  subst e
  rw [Nat.mod_eq_of_lt (nl_lt m)] at h5
  refine Ev.step (fun k => by rw [gnomonref01_From.l0, if_neg (by rw [lb_len]; omega)]) (Ev.bind (norm_to h3 (by omega) h5) (Ev.now _))
 | succ d ih =>
  intro i s h1 h2 h3 h4 h5
  have hi : i < nl m := by omega
  have r := Rp1.lb_rd hi
  have hx := dw_lt m i
  obtain ⟨x, ex⟩ : ∃ x, x = dw m i := ⟨_, rfl⟩
  rw [← ex] at r hx
  have e1 : Go.bits .and .u64 (x : Int) 4294967295 % 4294967296 = ((x % 4294967296 : Nat) : Int) := by rw [mask32 (by omega) (by omega)]; omega
  have e2 : (x : Int) / 4294967296 % 4294967296 = ((x / 4294967296 : Nat) : Int) := by omega
  have pb : pw i = B^(2 * i) := by rw [pw_B]; unfold pw; congr 1; omega
  have nx := ih (i + 1) (s ++ [((x % 4294967296 : Nat) : Int), ((x / 4294967296 : Nat) : Int)]) (by omega) hi
   (h3.append (Dg.cons (by omega) (by omega) (Dg.cons (by omega) (by omega) Dg.nil)))
   (by rw [List.length_append, h4]; show 2 * i + 2 = 2 * (i + 1); omega)
   (by
    rw [vl_append, h4, h5, mod_succ, ← ex, ← pb]
    congr 2
    show ((x % 4294967296 : Nat) : Int).toNat + B * (((x / 4294967296 : Nat) : Int).toNat + B * 0) = x
    rw [B_eq, Int.toNat_natCast, Int.toNat_natCast]
    omega)
  refine Ev.step (f := fun k => gnomonref01_From.l0 k (lb m) (s ++ [((x % 4294967296 : Nat) : Int), ((x / 4294967296 : Nat) : Int)]) ((i + 1 : Nat) : Int)) (fun k => ?_) nx
  rw [gnomonref01_From.l0, if_pos (by rw [lb_len]; omega), if_pos (by omega), r, e1, e2]
  rw [Option.bind_some, if_pos (by rw [h4]; show 2 * i + 2 < 35184372088832; omega), w64 (by omega) (by omega), show (i : Int) + 1 = ((i + 1 : Nat) : Int) by omega]
theorem from_ev (m : Nat) (hm : nl m ≤ 8192) : Ev (fun k => gnomonref01_From.f k (lb m)) (dg m) := by
 have h := from_l0 m hm (nl m) 0 [] (by omega) (Nat.zero_le _) Dg.nil rfl (by rw [pw_zero, Nat.mod_one]; rfl)
 have e : wrap64 (2 * ((lb m).length : Int)) = 2 * ((lb m).length : Int) := by rw [lb_len]; exact w64 (by omega) (by omega)
 unfold gnomonref01_From.f
 rw [e]
 refine Ev.congr (fun k => if_pos (by omega)) (Ev.congr (fun k => if_pos (by rw [lb_len]; omega)) h)
end Go.Proofs.YtelfmddcjlocpaaGreatDoor.Ref
end
section
set_option linter.unusedVariables false
namespace Go.Proofs.YtelfmddcjlocpaaGreatDoor.RnN
open Go.RowKit Go.Proofs.YtelfmddcjlocpaaGreatDoorW.PrintWords Go.Proofs.YtelfmddcjlocpaaGreatDoorW.PrintMore Go.Proofs.YtelfmddcjlocpaaGreatDoor.Num Go.Proofs.YtelfmddcjlocpaaGreatDoor.PLib Go.Proofs.YtelfmddcjlocpaaGreatDoor.PRef Go.Proofs.YtelfmddcjlocpaaGreatDoor.Ref Go.Proofs.YtelfmddcjlocpaaGreatDoor.GTh Go.Proofs.YtelfmddcjlocpaaGreatDoor.Given Go.Proofs.YtelfmddcjlocpaaGreatDoor.Rp1 Go.Proofs.YtelfmddcjlocpaaGreatDoor.Rp3 Go.Proofs.YtelfmddcjlocpaaGreatDoor.Rp4 Go.Proofs.YtelfmddcjlocpaaGreatDoor.Rp7 Go.Proofs.YtelfmddcjlocpaaGreatDoor.BinLaw Go.Proofs.YtelfmddcjlocpaaGreatDoor.Fm8 Go.Proofs.YtelfmddcjlocpaaGreatDoor.Rnd Go.Proofs.YtelfmddcjlocpaaGreatDoor.Sq Go.Proofs.YtelfmddcjlocpaaGreatDoor.Sz Go.Proofs.YtelfmddcjlocpaaGreatDoor.RnL
theorem rn_no {f : Int} (h : f ≠ 32) (h' : f ≠ 64) : gnomonref07_Of.f f = some (0, 0, 0, 0, 0, 0, false) := by
 unfold gnomonref07_Of.f
 rw [if_neg h, if_neg h']
theorem rn_size {f : Int} {F : Fmt} (h : Fm f F) {neg : Bool} {m : Nat} {x : Int} (hd : Dk neg m x) (m0 : m ≠ 0) (G Q : Int) :
  ∃ s : Nat, s ≤ F.inf ∧ rnd F neg m x (min x (F.low - 1)) = pat F neg s ∧ Ev (fun k => gnomonref08_Size.f k ((F.sg : Nat) : Int) ((F.man : Nat) : Int) F.low G ((F.inf : Nat) : Int) Q (dg m) (dg 1) x false) (s : Int) := by
 have hl := sz_low h
 have h1 := hd.low
 have h2 := hd.high
 have bm : bl m ≤ 524288 := bl_le' hd.lim
 obtain ⟨E, hE⟩ : ∃ E, E = min x (F.low - 1) := ⟨_, rfl⟩
 rw [← hE]
 obtain ⟨s, nq, r⟩ := size_ev h (A := m) (B := 1) (e := x) (E := E) ⟨m0, by decide, by omega, by decide, by omega, by omega, by omega, by omega⟩ G Q
 have e2 : qd F 1 E = 2^(F.low - E).toNat := by unfold qd; rw [Nat.one_mul]
 rw [e2] at nq
 refine ⟨s, nq.le, ?_, r⟩
 have es := rsz_eq h (nst_of_nq nq)
 unfold qn at es
 unfold rnd
 rw [if_neg m0, es]
theorem rn_nearest (f : Int) (neg : Bool) (l : List Int) (hw : Wf l) (x : Int) : ∃ r e : Int, Ev (fun k => round_Nearest.f k f neg l x) (r, e) ∧ Ev (fun k => gnomonref08_DocNearest.f k f neg l x) (r, e) := by
 by_cases hf : f = 32 ∨ f = 64
 rotate_left
 ·refine ⟨0, 1, nearest_no (fun c => hf (.inl c)) (fun c => hf (.inr c)) neg l x, ?_⟩
  unfold gnomonref08_DocNearest.f
  exact Ev.bind (rn_ev (rn_no (fun c => hf (.inl c)) (fun c => hf (.inr c)))) (Ev.congr (fun k => if_neg (by decide)) (Ev.now _))
 obtain ⟨F, h⟩ : ∃ F, Fm f F := by
  rcases hf with rfl | rfl
  ·exact ⟨fS, tS⟩
  ·exact ⟨fD, tD⟩
 obtain ⟨G, oF⟩ := rn_of h
 have df := docForm_ev neg l x
 by_cases d : dyB neg l x = true
 rotate_left
 ·rw [Bool.not_eq_true] at d
  refine ⟨0, 2, nearest_bad h d, ?_⟩
  rw [d] at df
  unfold gnomonref08_DocNearest.f
  exact Ev.bind (rn_ev oF) (Ev.congr (fun k => if_pos rfl) (Ev.bind df (Ev.congr (fun k => if_neg (by decide)) (Ev.now _))))
 rw [d] at df
 obtain ⟨m, rfl, dk⟩ := dk_of hw d
 have hl := sz_low h
 have nv := nearest_ev h dk (E := min x (F.low - 1)) (by omega) (by omega)
 by_cases m0 : m = 0
 ·refine ⟨_, 0, nv, ?_⟩
  have e : rnd F neg m x (min x (F.low - 1)) = 0 := by unfold rnd; rw [if_pos m0]
  rw [e]
  have no : gnomonref05_Nought.f neg (lb m) x = some true := by
   unfold gnomonref05_Nought.f; rw [m0]; rfl
  unfold gnomonref08_DocNearest.f
  exact Ev.bind (rn_ev oF) (Ev.congr (fun k => if_pos rfl) (Ev.bind df (Ev.congr (fun k => if_pos rfl) (Ev.bind (rn_ev no) (Ev.congr (fun k => if_pos rfl) (Ev.now _))))))
 ·obtain ⟨s, sl, es, r⟩ := rn_size h dk m0 G ((F.qt : Nat) : Int)
  refine ⟨_, 0, nv, ?_⟩
  rw [es]
  have no : gnomonref05_Nought.f neg (lb m) x = some false := by
   unfold gnomonref05_Nought.f
   have := nl_pos m0
   rw [beq_eq_false_iff_ne.2 (by rw [lb_len]; omega)]
  unfold gnomonref08_DocNearest.f
  exact Ev.bind (rn_ev oF) (Ev.congr (fun k => if_pos rfl) (Ev.bind df (Ev.congr (fun k => if_pos rfl) (Ev.bind (rn_ev no) (Ev.congr (fun k => if_neg (by decide)) (Ev.bind (from_ev m dk.lim) (Ev.bind (word_ev 1 (by decide) (by decide)) (Ev.bind r (Ev.bind (rn_ev (rn_signed h neg sl _ _ _ _ _)) (Ev.now _))))))))))
end Go.Proofs.YtelfmddcjlocpaaGreatDoor.RnN
end
