/- What round.Narrow answers is what the document's Narrow answers. Plain Lean over the functions. Condition: words. The reference's digits of words. Plain Lean over the printed functions. Condition: at most 8192 words. What round.Nearest answers is what the document's Nearest answers. Plain Lean over the functions. Condition: words. (roots) The reference's search for the nearest size (layer 8's document): plain Lean over the functions. Conditions: formats; a positive quotient of bounded numbers. -/
import Derived.Test.YtelfmddcjlocpaaGreatDoorKRoundRootedSz
import Derived.Test.YtelfmddcjlocpaaGreatDoorKRoundRootedSq
import Derived.Test.YtelfmddcjlocpaaGreatDoorKRoundRootedPRefx0
import Derived.Test.YtelfmddcjlocpaaGreatDoorKRoundRootedPRfzx0
import Derived.Test.YtelfmddcjlocpaaGreatDoorKRoundRootedPxL1
import Derived.Test.YtelfmddcjlocpaaGreatDoorKRoundRootedRefA
import Derived.Test.YtelfmddcjlocpaaGreatDoorKRoundRootedGivenD
import Derived.Test.YtelfmddcjlocpaaGreatDoorKRoundRootedRp1
import Derived.Test.YtelfmddcjlocpaaGreatDoorKRoundRootedPRefx4
import Derived.Test.YtelfmddcjlocpaaGreatDoorKRoundRootedPxL0
import Derived.Test.YtelfmddcjlocpaaGreatDoorKRoundRootedRefH
section
set_option linter.unusedVariables false
namespace Go.Proofs.YtelfmddcjlocpaaGreatDoor.RnL
open Go.RowKit Go.Proofs.YtelfmddcjlocpaaGreatDoorW.PrintWords Go.Proofs.YtelfmddcjlocpaaGreatDoorW.PrintMore Go.Proofs.YtelfmddcjlocpaaGreatDoor.Num Go.Proofs.YtelfmddcjlocpaaGreatDoor.PLib Go.Proofs.YtelfmddcjlocpaaGreatDoor.PRef Go.Proofs.YtelfmddcjlocpaaGreatDoor.Ref Go.Proofs.YtelfmddcjlocpaaGreatDoor.GTh Go.Proofs.YtelfmddcjlocpaaGreatDoor.Given Go.Proofs.YtelfmddcjlocpaaGreatDoor.Rp1 Go.Proofs.YtelfmddcjlocpaaGreatDoor.Rp3 Go.Proofs.YtelfmddcjlocpaaGreatDoor.Rp4 Go.Proofs.YtelfmddcjlocpaaGreatDoor.Rp5 Go.Proofs.YtelfmddcjlocpaaGreatDoor.Rp7 Go.Proofs.YtelfmddcjlocpaaGreatDoor.BinLaw Go.Proofs.YtelfmddcjlocpaaGreatDoor.Fm8 Go.Proofs.YtelfmddcjlocpaaGreatDoor.Rnd Go.Proofs.YtelfmddcjlocpaaGreatDoor.Sq Go.Proofs.YtelfmddcjlocpaaGreatDoor.Sz
theorem tS : Fm 32 fS := .inl ⟨rfl, rfl⟩
theorem tD : Fm 64 fD := .inr ⟨rfl, rfl⟩
theorem rn_ev {α : Type} {o : Option α} {v : α} (h : o = some v) : Ev (fun _ => o) v := by rw [h]; exact Ev.now _
theorem rn_of {f : Int} {F : Fmt} (h : Fm f F) : ∃ G : Int, gnomonref07_Of.f f = some (((F.sg : Nat) : Int), ((F.man : Nat) : Int), F.low, G, ((F.inf : Nat) : Int), ((F.qt : Nat) : Int), true) := by
 rcases h with ⟨rfl, rfl⟩ | ⟨rfl, rfl⟩
 ·exact ⟨104, rfl⟩
 ·exact ⟨971, rfl⟩
end Go.Proofs.YtelfmddcjlocpaaGreatDoor.RnL
end
section
namespace Go.Proofs.YtelfmddcjlocpaaGreatDoor.Ref
open Go.RowKit Go.Proofs.YtelfmddcjlocpaaGreatDoorW.PrintWords Go.Proofs.YtelfmddcjlocpaaGreatDoorW.PrintMore Go.Proofs.YtelfmddcjlocpaaGreatDoor.Num Go.Proofs.YtelfmddcjlocpaaGreatDoor.PLib Go.Proofs.YtelfmddcjlocpaaGreatDoor.PRef Go.Proofs.YtelfmddcjlocpaaGreatDoor.GTh Go.Proofs.YtelfmddcjlocpaaGreatDoor.Given
theorem from_l0 (m : Nat) (hm : nl m ≤ 8192) (d : Nat) : ∀ (i : Nat) (s : List Int), nl m - i = d → i ≤ nl m → Dg s → s.length = 2 * i → vl s = m % pw i → Ev (fun k => gnomonref01_From.l0 k (lb m) s (i : Int)) (dg m) := by
 induction d with
 | zero =>
  intro i s h1 h2 h3 h4 h5
  have e : i = nl m := by omega
  subst e
  rw [Nat.mod_eq_of_lt (nl_lt m)] at h5
  refine Ev.step (fun k => by rw [gnomonref01_From.l0, if_neg (by rw [lb_len]; omega)]) (Ev.bind (norm_to h3 (by omega) h5) (Ev.now _))
 | succ d ih =>
  intro i s h1 h2 h3 h4 h5
  have hi : i < nl m := by omega
  have r := Rp1.lb_rd hi
  have hx := dw_lt m i
  obtain ⟨x, ex⟩ : ∃ x, x = dw m i := ⟨_, rfl⟩
  rw [← ex] at r hx
  have e1 : Go.bits .and .u64 (x : Int) 4294967295 % 4294967296 = ((x % 4294967296 : Nat) : Int) := by rw [mask32 (by omega) (by omega)]; omega
  have e2 : (x : Int) / 4294967296 % 4294967296 = ((x / 4294967296 : Nat) : Int) := by omega
  have pb : pw i = B^(2 * i) := by rw [pw_B]; unfold pw; congr 1; omega
  have nx := ih (i + 1) (s ++ [((x % 4294967296 : Nat) : Int), ((x / 4294967296 : Nat) : Int)]) (by omega) hi
   (h3.append (Dg.cons (by omega) (by omega) (Dg.cons (by omega) (by omega) Dg.nil)))
   (by rw [List.length_append, h4]; show 2 * i + 2 = 2 * (i + 1); omega)
   (by
    rw [vl_append, h4, h5, mod_succ, ← ex, ← pb]
    congr 2
    show ((x % 4294967296 : Nat) : Int).toNat + B * (((x / 4294967296 : Nat) : Int).toNat + B * 0) = x
    rw [B_eq, Int.toNat_natCast, Int.toNat_natCast]
    omega)
  refine Ev.step (f := fun k => gnomonref01_From.l0 k (lb m) (s ++ [((x % 4294967296 : Nat) : Int), ((x / 4294967296 : Nat) : Int)]) ((i + 1 : Nat) : Int)) (fun k => ?_) nx
  rw [gnomonref01_From.l0, if_pos (by rw [lb_len]; omega), if_pos (by omega), r, e1, e2]
  rw [Option.bind_some, if_pos (by rw [h4]; show 2 * i + 2 < 35184372088832; omega), w64 (by omega) (by omega), show (i : Int) + 1 = ((i + 1 : Nat) : Int) by omega]
theorem from_ev (m : Nat) (hm : nl m ≤ 8192) : Ev (fun k => gnomonref01_From.f k (lb m)) (dg m) := by
 have h := from_l0 m hm (nl m) 0 [] (by omega) (Nat.zero_le _) Dg.nil rfl (by rw [pw_zero, Nat.mod_one]; rfl)
 have e : wrap64 (2 * ((lb m).length : Int)) = 2 * ((lb m).length : Int) := by rw [lb_len]; exact w64 (by omega) (by omega)
 unfold gnomonref01_From.f
 rw [e]
 refine Ev.congr (fun k => if_pos (by omega)) (Ev.congr (fun k => if_pos (by rw [lb_len]; omega)) h)
end Go.Proofs.YtelfmddcjlocpaaGreatDoor.Ref
end
section
set_option linter.unusedVariables false
namespace Go.Proofs.YtelfmddcjlocpaaGreatDoor.RnN
open Go.RowKit Go.Proofs.YtelfmddcjlocpaaGreatDoorW.PrintWords Go.Proofs.YtelfmddcjlocpaaGreatDoorW.PrintMore Go.Proofs.YtelfmddcjlocpaaGreatDoor.Num Go.Proofs.YtelfmddcjlocpaaGreatDoor.PLib Go.Proofs.YtelfmddcjlocpaaGreatDoor.PRef Go.Proofs.YtelfmddcjlocpaaGreatDoor.Ref Go.Proofs.YtelfmddcjlocpaaGreatDoor.GTh Go.Proofs.YtelfmddcjlocpaaGreatDoor.Given Go.Proofs.YtelfmddcjlocpaaGreatDoor.Rp1 Go.Proofs.YtelfmddcjlocpaaGreatDoor.Rp3 Go.Proofs.YtelfmddcjlocpaaGreatDoor.Rp4 Go.Proofs.YtelfmddcjlocpaaGreatDoor.Rp5 Go.Proofs.YtelfmddcjlocpaaGreatDoor.Rp7 Go.Proofs.YtelfmddcjlocpaaGreatDoor.BinLaw Go.Proofs.YtelfmddcjlocpaaGreatDoor.Fm8 Go.Proofs.YtelfmddcjlocpaaGreatDoor.Rnd Go.Proofs.YtelfmddcjlocpaaGreatDoor.Sq Go.Proofs.YtelfmddcjlocpaaGreatDoor.Sz Go.Proofs.YtelfmddcjlocpaaGreatDoor.RnL
theorem rn_no {f : Int} (h : f ≠ 32) (h' : f ≠ 64) : gnomonref07_Of.f f = some (0, 0, 0, 0, 0, 0, false) := by
 unfold gnomonref07_Of.f
 rw [if_neg h, if_neg h']
end Go.Proofs.YtelfmddcjlocpaaGreatDoor.RnN
end
section
set_option linter.unusedVariables false
namespace Go.Proofs.YtelfmddcjlocpaaGreatDoor.SzR
open Go.RowKit Go.Proofs.YtelfmddcjlocpaaGreatDoorW.PrintWords Go.Proofs.YtelfmddcjlocpaaGreatDoorW.PrintMore Go.Proofs.YtelfmddcjlocpaaGreatDoor.Num Go.Proofs.YtelfmddcjlocpaaGreatDoor.PLib Go.Proofs.YtelfmddcjlocpaaGreatDoor.PRef Go.Proofs.YtelfmddcjlocpaaGreatDoor.Ref Go.Proofs.YtelfmddcjlocpaaGreatDoor.GTh Go.Proofs.YtelfmddcjlocpaaGreatDoor.Given Go.Proofs.YtelfmddcjlocpaaGreatDoor.Rp1 Go.Proofs.YtelfmddcjlocpaaGreatDoor.Rp3 Go.Proofs.YtelfmddcjlocpaaGreatDoor.Rp4 Go.Proofs.YtelfmddcjlocpaaGreatDoor.Rp5 Go.Proofs.YtelfmddcjlocpaaGreatDoor.Rp7 Go.Proofs.YtelfmddcjlocpaaGreatDoor.BinLaw Go.Proofs.YtelfmddcjlocpaaGreatDoor.Fm8 Go.Proofs.YtelfmddcjlocpaaGreatDoor.Rnd Go.Proofs.YtelfmddcjlocpaaGreatDoor.Sq Go.Proofs.YtelfmddcjlocpaaGreatDoor.Sz
structure Qr (F : Fmt) (A B : Nat) (e E : Int) : Prop where mk :: (a0 : A ≠ 0) (b0 : B ≠ 0) (ba : bl A ≤ 1000000) (bb : bl B ≤ 1000000) (e1 : 2 * E ≤ e) (e2 : e ≤ 2300000) (e3 : -1100000 ≤ E) (e4 : E ≤ F.low - 1)
section
variable {f : Int} {F : Fmt} {A B : Nat} {e E : Int}
def qn2 (A : Nat) (e E : Int) : Nat := A * 2^(e - 2 * E).toNat
def qd2 (F : Fmt) (B : Nat) (E : Int) : Nat := B * (2^(F.low - E).toNat * 2^(F.low - E).toNat)
theorem hold_evr (q : Qr F A B e E) {m : Nat} {x : Int} (hm : bl m ≤ 500000) (x1 : E ≤ x) (x2 : x ≤ 1000000) :
  Ev (fun k => gnomonref08_Hold.f k (dg A) (dg B) e true (dg m) x) (cmp3 (m * m * B * 2^(2 * x - 2 * E).toNat) (qn2 A e E)) := by
 have pa : 0 < qn2 A e E := Nat.mul_pos (Nat.pos_of_ne_zero q.a0) (Nat.two_pow_pos _)
 have h1 := q.ba
 have h2 := q.bb
 have h3 := q.e1
 have h4 := q.e2
 have h5 := q.e3
 have lm := dg_len_bits (n := m) (k := bl m) (bl_lt m) (by omega)
 have lB := dg_len_bits (n := B) (k := bl B) (bl_lt B) (by omega)
 unfold gnomonref08_Hold.f
 by_cases m0 : m = 0
 ·subst m0
  refine Ev.congr (fun k => if_pos (by rw [dg_zero]; rfl)) ?_
  have : cmp3 (0 * 0 * B * 2^(2 * x - 2 * E).toNat) (qn2 A e E) = -1 := by rw [Nat.zero_mul, Nat.zero_mul]; exact if_pos pa
  rw [this]
  exact Ev.now _
 ·have l0 : ¬ ((dg m).length : Int) = 0 := fun c => m0 (dg_len_zero.1 (by omega))
  have mm := Nat.mul_ne_zero m0 m0
  have bmm : bl (m * m) ≤ 1000000 := by
   have := bl_le_of_lt (n := m * m) (k := bl m + bl m) (by rw [Nat.pow_add]; exact Nat.mul_lt_mul'' (bl_lt m) (bl_lt m))
   omega
  have lmm := dg_len_bits (n := m * m) (k := bl (m * m)) (bl_lt _) (by omega)
  have mB := Nat.mul_ne_zero mm q.b0
  have bm : bl (m * m * B) ≤ 2000000 := by
   have := bl_le_of_lt (n := m * m * B) (k := bl (m * m) + bl B) (by rw [Nat.pow_add]; exact Nat.mul_lt_mul'' (bl_lt _) (bl_lt B))
   omega
  have w2 : wrap64 (2 * x) = 2 * x := w64 (by omega) (by omega)
  refine Ev.congr (fun k => if_neg l0) (Ev.congr (fun k => if_pos rfl) (Ev.bind (mul_ev m m (by omega) (by omega)) (Ev.bind (mul_ev (m * m) B (by omega) (by omega)) ?_)))
  rw [w2]
  exact Ev.bind (order_ev (E := 2 * E) mB q.a0 (by omega) (by omega) (by omega) (by omega) (by omega) (by omega) (by omega) h3) (Ev.now _)
theorem two_toNat {a b : Int} (h : b ≤ a) {n : Nat} (hn : n = (a - b).toNat) : (2 * a - 2 * b).toNat = n + n := by omega
theorem hold_sizer (h : Fm f F) (q : Qr F A B e E) (s : Nat) (hs : s < F.sg) : Ev (fun k => gnomonref08_Hold.f k (dg A) (dg B) e true (dg (mgF F s)) (xpF F s)) (cmp3 (nF F s * nF F s * qd2 F B E) (qn2 A e E)) := by
 have hx := xp_d F s
 have hd := sz_dF h hs
 have hl := sz_low h
 have e4 := q.e4
 have := hold_evr q (m := mgF F s) (x := xpF F s) (by have := bl_le_of_lt (n := mgF F s) (k := 53) (sz_mg h s); omega) (by omega) (by omega)
 have e : mgF F s * mgF F s * B * 2^(2 * xpF F s - 2 * E).toNat = nF F s * nF F s * qd2 F B E := by
  unfold nF qd2
  rw [two_toNat (show E ≤ xpF F s by omega) (n := dF F s + (F.low - E).toNat) (by omega), Nat.pow_add, Nat.pow_add]
  ac_rfl
 rw [← e]
 exact this
theorem cmp3_mul (a b : Nat) : cmp3 (4 * a) (4 * b) = cmp3 a b := by
 unfold cmp3
 split <;> split <;> (try split) <;> (try split) <;> omega
theorem hold_midr (h : Fm f F) (q : Qr F A B e E) (s : Nat) (hs : s < F.sg) : Ev (fun k => gnomonref08_Hold.f k (dg A) (dg B) e true (dg (mgF F s * 2^1 + 1)) (wrap64 (xpF F s - 1))) (cmp3 (md F 0 s * md F 0 s * qd2 F B E) (4 * qn2 A e E)) := by
 have hx := xp_d F s
 have hd := sz_dF h hs
 have hl := sz_low h
 have e4 := q.e4
 have hw : wrap64 (xpF F s - 1) = xpF F s - 1 := w64 (by omega) (by omega)
 rw [hw]
 have hm := sz_mg h s
 have := hold_evr q (m := mgF F s * 2^1 + 1) (x := xpF F s - 1) (by have := bl_le_of_lt (n := mgF F s * 2^1 + 1) (k := 55) (by omega); omega) (by omega) (by omega)
 obtain ⟨n, hn⟩ : ∃ n, n = (xpF F s - 1 - E).toNat := ⟨_, rfl⟩
 have ee : 4 * (((mgF F s * 2^1 + 1) * (mgF F s * 2^1 + 1) * B) * 2^(2 * (xpF F s - 1) - 2 * E).toNat) = md F 0 s * md F 0 s * qd2 F B E := by
  rw [md_odd h, two_toNat (show E ≤ xpF F s - 1 by omega) hn]
  unfold qd2
  have e5 : dF F s + (F.low - E).toNat = n + 1 := by omega
  have e6 : (2 * mgF F s + 1) * 2^(dF F s) * ((2 * mgF F s + 1) * 2^(dF F s)) * (B * (2^(F.low - E).toNat * 2^(F.low - E).toNat)) = (2 * mgF F s + 1) * (2 * mgF F s + 1) * B * (2^(dF F s + (F.low - E).toNat) * 2^(dF F s + (F.low - E).toNat)) := by rw [Nat.pow_add]; ac_rfl
  rw [e6, e5, Nat.pow_succ 2 n, Nat.pow_add, show mgF F s * 2^1 + 1 = 2 * mgF F s + 1 by omega, show (4 : Nat) = 2 * 2 from rfl]
  ac_rfl
 rw [← ee, cmp3_mul]
 exact this
theorem sq2 (a d : Nat) : (2 * a) * (2 * a) * d = 4 * (a * a * d) := by
 rw [show (4 : Nat) = 2 * 2 from rfl]; ac_rfl
theorem nr_here (h : Fm f F) {n d s : Nat} (hd : 0 < d) (hs : s < F.inf) (h1 : nF F s * nF F s * d ≤ n) (h2 : n < nF F (s + 1) * nF F (s + 1) * d) :
  Nr F n d (if md F 0 s * md F 0 s * d < 4 * n ∨ (4 * n = md F 0 s * md F 0 s * d ∧ s % 2 = 1) then s + 1 else s) := by
 have m0 : ∀ t, md F 0 t = nF F t + nF F (t + 1) := fun t => by unfold md; rw [Nat.pow_zero, Nat.mul_one]
 by_cases u : md F 0 s * md F 0 s * d < 4 * n ∨ (4 * n = md F 0 s * md F 0 s * d ∧ s % 2 = 1)
 ·rw [if_pos u]
  refine ⟨by omega, fun c => .inl ?_, fun t ht => ?_⟩
  ·have a := nF_step h (s + 1)
   have b : 2 * nF F (s + 1) ≤ md F 0 (s + 1) := by rw [m0]; omega
   have c := Nat.mul_le_mul_right d (sq_le b)
   rw [sq2] at c
   omega
  ·obtain rfl : t = s := by omega
   rcases u with u | ⟨u, u2⟩
   ·exact .inl u
   ·exact .inr ⟨u.symm, by omega⟩
 ·rw [if_neg u]
  refine ⟨by omega, fun c => by omega, fun t ht => .inl ?_⟩
  subst ht
  have a := nF_step h t
  have b : md F 0 t < 2 * nF F (t + 1) := by rw [m0]; omega
  have c := Nat.mul_lt_mul_of_pos_right (sq_lt b) hd
  rw [sq2] at c
  omega
theorem nr_top (h : Fm f F) {n d : Nat} (hd : 0 < d) (h1 : nF F F.inf * nF F F.inf * d ≤ n) : Nr F n d F.inf := by
 refine ⟨Nat.le_refl _, fun c => absurd c (Nat.lt_irrefl _), fun t ht => .inl ?_⟩
 have m0 : md F 0 t = nF F t + nF F (t + 1) := by unfold md; rw [Nat.pow_zero, Nat.mul_one]
 have a := nF_step h t
 have b : md F 0 t < 2 * nF F (t + 1) := by rw [m0]; omega
 have c := Nat.mul_lt_mul_of_pos_right (sq_lt b) hd
 rw [sq2] at c
 have h1' : nF F (t + 1) * nF F (t + 1) * d ≤ n := by rw [← ht]; exact h1
 omega
theorem size_l0r (h : Fm f F) (q : Qr F A B e E) (G Q : Int) (n : Nat) : ∀ lo hi : Nat, hi - lo ≤ n → lo < hi → hi ≤ F.inf + 1 → nF F lo * nF F lo * qd2 F B E ≤ qn2 A e E → (hi = F.inf + 1 ∨ qn2 A e E < nF F hi * nF F hi * qd2 F B E) →
  ∃ s : Nat, Nr F (qn2 A e E) (qd2 F B E) s ∧ Ev (fun k => gnomonref08_Size.l0 k (lo : Int) (hi : Int) ((F.sg : Nat) : Int) ((F.man : Nat) : Int) F.low G ((F.inf : Nat) : Int) Q (dg A) (dg B) e true) (s : Int) := by
 have hz := h.sz
 have pd : 0 < qd2 F B E := Nat.mul_pos (Nat.pos_of_ne_zero q.b0) (Nat.mul_pos (Nat.two_pow_pos _) (Nat.two_pow_pos _))
 have wd : ∀ s, Ev (fun k => gnomonref01_Word.f k ((mgF F s : Nat) : Int)) (dg (mgF F s)) := fun s => by
  have hm := sz_mg h s
  have := word_ev ((mgF F s : Nat) : Int) (by omega) (by omega)
  rwa [Int.toNat_natCast] at this
 induction n with
 | zero => intro lo hi c1 c2; omega
 | succ n ih =>
  intro lo hi c1 c2 c3 h1 h2
  by_cases c : 1 < hi - lo
  ·obtain ⟨mid, hmid⟩ : ∃ mid, mid = lo + (hi - lo) / 2 := ⟨_, rfl⟩
   have m1 : lo < mid := by omega
   have m2 : mid < hi := by omega
   have em : IntKind.u64.wrap ((lo : Int) + (IntKind.u64.wrap (Int.tdiv (IntKind.u64.wrap ((hi : Int) - (lo : Int))) 2))) = ((mid : Nat) : Int) := by
    rw [wu64 (x := (hi : Int) - (lo : Int)) (by omega) (by omega), Int.tdiv_eq_ediv_of_nonneg (by omega), wu64 (x := ((hi : Int) - (lo : Int)) / 2) (by omega) (by omega), wu64 (by omega) (by omega)]
    omega
   have p := sz_parts h G Q (s := mid) (by omega)
   have w := wd mid
   have hs := hold_sizer h q mid (by omega)
   have go : ∀ s : Nat, Ev (fun k => if cmp3 (nF F mid * nF F mid * qd2 F B E) (qn2 A e E) ≤ 0 then gnomonref08_Size.l0 k ((mid : Nat) : Int) (hi : Int) ((F.sg : Nat) : Int) ((F.man : Nat) : Int) F.low G ((F.inf : Nat) : Int) Q (dg A) (dg B) e true else gnomonref08_Size.l0 k (lo : Int) ((mid : Nat) : Int) ((F.sg : Nat) : Int) ((F.man : Nat) : Int) F.low G ((F.inf : Nat) : Int) Q (dg A) (dg B) e true) (s : Int) →
     Ev (fun k => gnomonref08_Size.l0 k (lo : Int) (hi : Int) ((F.sg : Nat) : Int) ((F.man : Nat) : Int) F.low G ((F.inf : Nat) : Int) Q (dg A) (dg B) e true) (s : Int) := fun s r => by
    refine Ev.step (fun k => by rw [gnomonref08_Size.l0, if_pos (by rw [wu64 (by omega) (by omega)]; omega), em]) (Ev.bind (sz_ev p) (Ev.bind w (Ev.bind hs r)))
   by_cases d : cmp3 (nF F mid * nF F mid * qd2 F B E) (qn2 A e E) ≤ 0
   ·have le : nF F mid * nF F mid * qd2 F B E ≤ qn2 A e E := by unfold cmp3 at d; split at d <;> (try split at d) <;> omega
    obtain ⟨s, n1, r⟩ := ih mid hi (by omega) m2 c3 le h2
    exact ⟨s, n1, go s (Ev.congr (fun k => if_pos d) r)⟩
   ·have lt : qn2 A e E < nF F mid * nF F mid * qd2 F B E := by unfold cmp3 at d; split at d <;> (try split at d) <;> omega
    obtain ⟨s, n1, r⟩ := ih lo mid (by omega) m1 (by omega) h1 (.inr lt)
    exact ⟨s, n1, go s (Ev.congr (fun k => if_neg d) r)⟩
  ·have e1 : hi = lo + 1 := by omega
   by_cases i : lo = F.inf
   ·subst i
    exact ⟨F.inf, nr_top h pd h1, Ev.step (f := fun _ => some ((F.inf : Nat) : Int)) (fun k => by rw [gnomonref08_Size.l0, if_neg (by rw [wu64 (by omega) (by omega)]; omega), if_pos rfl]) (Ev.now _)⟩
   ·have h2' : qn2 A e E < nF F (lo + 1) * nF F (lo + 1) * qd2 F B E := by rw [← e1]; exact h2.resolve_left (by omega)
    have nq := nr_here h pd (show lo < F.inf by omega) h1 h2'
    have p := sz_parts h G Q (s := lo) (by omega)
    have w := wd lo
    have hm := sz_mg h lo
    have lm := dg_len_bits (n := mgF F lo) (k := 53) hm (by decide)
    have lm2 := dg_len_bits (n := mgF F lo * 2^1) (k := 54) (by omega) (by decide)
    have sh := shl_ev (mgF F lo) 1 lm (by decide)
    have one := word_ev 1 (by decide) (by decide)
    have l1 : (dg 1).length < 274877906944 := dg_len_bits (k := 1) (by decide) (by decide)
    have ad := add_ev (mgF F lo * 2^1) 1 (by omega) (by omega)
    have hmd := hold_midr h q lo (by omega)
    have w1 : IntKind.u64.wrap ((lo : Int) + 1) = ((lo + 1 : Nat) : Int) := by rw [wu64 (by omega) (by omega)]; omega
    have tm : Int.tmod (lo : Int) 2 = ((lo % 2 : Nat) : Int) := (Int.ofNat_tmod lo 2).symm
    have fin : ∀ s : Nat, Ev (fun k => if cmp3 (md F 0 lo * md F 0 lo * qd2 F B E) (4 * qn2 A e E) < 0 then some (IntKind.u64.wrap ((lo : Int) + 1)) else (if cmp3 (md F 0 lo * md F 0 lo * qd2 F B E) (4 * qn2 A e E) = 0 then (if Int.tmod (lo : Int) 2 = 1 then some (IntKind.u64.wrap ((lo : Int) + 1)) else some (lo : Int)) else some (lo : Int))) (s : Int) →
      Ev (fun k => gnomonref08_Size.l0 k (lo : Int) (hi : Int) ((F.sg : Nat) : Int) ((F.man : Nat) : Int) F.low G ((F.inf : Nat) : Int) Q (dg A) (dg B) e true) (s : Int) := fun s r => by
     refine Ev.step (fun k => by rw [gnomonref08_Size.l0, if_neg (by rw [wu64 (by omega) (by omega)]; omega), if_neg (by omega)]) (Ev.bind (sz_ev p) (Ev.bind w (Ev.bind sh (Ev.bind one (Ev.bind ad (Ev.bind hmd r))))))
    refine ⟨_, nq, fin _ ?_⟩
    rw [w1, tm]
    generalize md F 0 lo * md F 0 lo * qd2 F B E = X at *
    generalize 4 * qn2 A e E = Y at *
    by_cases c5 : X < Y
    ·have cv : cmp3 X Y = -1 := if_pos c5
     rw [cv, if_pos (show X < Y ∨ (Y = X ∧ lo % 2 = 1) from .inl c5)]
     exact Ev.congr (fun k => if_pos (by decide)) (Ev.now _)
    ·by_cases c6 : Y < X
     ·have cv : cmp3 X Y = 1 := by unfold cmp3; rw [if_neg c5, if_pos c6]
      rw [cv, if_neg (show ¬ (X < Y ∨ (Y = X ∧ lo % 2 = 1)) by omega)]
      exact Ev.congr (fun k => if_neg (by decide)) (Ev.congr (fun k => if_neg (by decide)) (Ev.now _))
     ·have cv : cmp3 X Y = 0 := by unfold cmp3; rw [if_neg c5, if_neg c6]
      rw [cv]
      refine Ev.congr (fun k => if_neg (by decide)) (Ev.congr (fun k => if_pos rfl) ?_)
      by_cases c7 : lo % 2 = 1
      ·rw [if_pos (show X < Y ∨ (Y = X ∧ lo % 2 = 1) from .inr ⟨by omega, c7⟩)]
       exact Ev.congr (fun k => if_pos (by omega)) (Ev.now _)
      ·rw [if_neg (show ¬ (X < Y ∨ (Y = X ∧ lo % 2 = 1)) by omega)]
       exact Ev.congr (fun k => if_neg (by omega)) (Ev.now _)
theorem size_evr (h : Fm f F) (q : Qr F A B e E) (G Q : Int) : ∃ s : Nat, Nr F (qn2 A e E) (qd2 F B E) s ∧ Ev (fun k => gnomonref08_Size.f k ((F.sg : Nat) : Int) ((F.man : Nat) : Int) F.low G ((F.inf : Nat) : Int) Q (dg A) (dg B) e true) (s : Int) := by
 have hz := h.sz
 obtain ⟨s, n, r⟩ := size_l0r h q G Q (F.inf + 1) 0 (F.inf + 1) (by omega) (by omega) (Nat.le_refl _) (by rw [nF_zero, Nat.zero_mul]; exact Nat.zero_le _) (.inl rfl)
 refine ⟨s, n, ?_⟩
 unfold gnomonref08_Size.f
 rw [show IntKind.u64.wrap (((F.inf : Nat) : Int) + 1) = ((F.inf + 1 : Nat) : Int) by rw [wu64 (by omega) (by omega)]; omega]
 exact r
end
end Go.Proofs.YtelfmddcjlocpaaGreatDoor.SzR
end
