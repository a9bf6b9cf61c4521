/- The reference's search for the nearest size (layer 8's document): plain Lean over the functions. Conditions: formats; a positive quotient of bounded numbers. -/
import Derived.Test.YtelfmddcjlocpaaGreatDoorKRoundQuotedRefH
import Derived.Test.YtelfmddcjlocpaaGreatDoorKRoundQuotedSq
import Derived.Test.YtelfmddcjlocpaaGreatDoorKRoundQuotedPRfzx0
set_option linter.unusedVariables false
namespace Go.Proofs.YtelfmddcjlocpaaGreatDoor.Sz
open Go.RowKit Go.Proofs.YtelfmddcjlocpaaGreatDoorW.PrintWords Go.Proofs.YtelfmddcjlocpaaGreatDoorW.PrintMore Go.Proofs.YtelfmddcjlocpaaGreatDoor.Num Go.Proofs.YtelfmddcjlocpaaGreatDoor.PLib Go.Proofs.YtelfmddcjlocpaaGreatDoor.PRef Go.Proofs.YtelfmddcjlocpaaGreatDoor.Ref Go.Proofs.YtelfmddcjlocpaaGreatDoor.GTh Go.Proofs.YtelfmddcjlocpaaGreatDoor.Given Go.Proofs.YtelfmddcjlocpaaGreatDoor.Rp1 Go.Proofs.YtelfmddcjlocpaaGreatDoor.Rp3 Go.Proofs.YtelfmddcjlocpaaGreatDoor.Rp4 Go.Proofs.YtelfmddcjlocpaaGreatDoor.Rp5 Go.Proofs.YtelfmddcjlocpaaGreatDoor.Rp7 Go.Proofs.YtelfmddcjlocpaaGreatDoor.BinLaw Go.Proofs.YtelfmddcjlocpaaGreatDoor.Fm8 Go.Proofs.YtelfmddcjlocpaaGreatDoor.Rnd Go.Proofs.YtelfmddcjlocpaaGreatDoor.Sq
theorem sz_ev {α : Type} {o : Option α} {v : α} (h : o = some v) : Ev (fun _ => o) v := by rw [h]; exact Ev.now _
theorem sz_low {f : Int} {F : Fmt} (h : Fm f F) : -1074 ≤ F.low ∧ F.low ≤ -149 := by have := fm_man h; omega
theorem sz_hd {f : Int} {F : Fmt} (h : Fm f F) : 0 ≤ wrap64 (((F.man : Nat) : Int) - 1) ∧ shl .u64 1 (wrap64 (((F.man : Nat) : Int) - 1)) = ((hdF F : Nat) : Int) := by
 rcases h with ⟨_, rfl⟩ | ⟨_, rfl⟩ <;> exact of_decide_eq_true (by kernel_rfl)
theorem sz_dF {f : Int} {F : Fmt} (h : Fm f F) {s : Nat} (hs : s < F.sg) : dF F s ≤ 2048 := by
 rcases h with ⟨_, rfl⟩ | ⟨_, rfl⟩
 ·have e : hdF fS = 8388608 := by decide
  have g : fS.sg = 2147483648 := rfl
  unfold dF; rw [e]; omega
 ·have e : hdF fD = 4503599627370496 := by decide
  have g : fD.sg = 9223372036854775808 := rfl
  unfold dF; rw [e]; omega
theorem sz_mg {f : Int} {F : Fmt} (h : Fm f F) (s : Nat) : mgF F s < 9007199254740992 := by
 obtain ⟨h0, -, h1, -⟩ := fm_hd h
 have := Nat.mod_lt s h0
 unfold mgF
 split <;> omega
theorem sz_parts {f : Int} {F : Fmt} (h : Fm f F) (G Q : Int) {s : Nat} (hs : s < F.sg) : gnomonref07_Parts.f ((F.sg : Nat) : Int) ((F.man : Nat) : Int) F.low G ((F.inf : Nat) : Int) Q (s : Int) = some (((mgF F s : Nat) : Int), xpF F s) := by
 obtain ⟨k1, k2⟩ := sz_hd h
 obtain ⟨h0, -, h2, -, -, -, -, -, -⟩ := fm_hd h
 have hz := h.sz
 have hl := sz_low h
 have hm := Nat.mod_lt s h0
 have hq : s / hdF F ≤ s := Nat.div_le_self _ _
 have hq2 : s / hdF F ≤ 4096 := by
  have := sz_dF h hs
  unfold dF at this; omega
 unfold gnomonref07_Parts.f
 rw [if_pos k1, k2, if_neg (by omega), show Int.tdiv (s : Int) ((hdF F : Nat) : Int) = ((s / hdF F : Nat) : Int) from (Int.ofNat_tdiv _ _).symm, show Int.tmod (s : Int) ((hdF F : Nat) : Int) = ((s % hdF F : Nat) : Int) from (Int.ofNat_tmod _ _).symm]
 unfold mgF xpF
 generalize s / hdF F = q1 at *
 generalize s % hdF F = r1 at *
 rw [wu64 (x := ((q1 : Nat) : Int)) (by omega) (by omega)]
 by_cases c : q1 = 0
 ·rw [if_pos (by omega), if_pos c, if_pos c]
 ·rw [if_neg (by omega), if_neg c, if_neg c, wu64 (by omega) (by omega), w64 (x := ((q1 : Nat) : Int)) (by omega) (by omega), w64 (x := F.low + _) (by omega) (by omega), w64 (by omega) (by omega)]
  congr 2
theorem cmI3 (a b : Nat) : cmI a b = cmp3 a b := rfl
theorem order_ev {a b : Nat} {x y E : Int} (a0 : a ≠ 0) (b0 : b ≠ 0) (ha : bl a ≤ 3000000) (hb : bl b ≤ 3000000) (x1 : -3000000 ≤ x) (x2 : x ≤ 3000000) (y1 : -3000000 ≤ y) (y2 : y ≤ 3000000) (hx : E ≤ x) (hy : E ≤ y) :
  Ev (fun k => gnomonref08_order.f k (dg a) x (dg b) y) (cmp3 (a * 2^(x - E).toNat) (b * 2^(y - E).toNat)) := by
 have la := dg_len_bits (n := a) (k := bl a) (bl_lt a) (by omega)
 have lb' := dg_len_bits (n := b) (k := bl b) (bl_lt b) (by omega)
 rw [← cmI3, ← szc_vs hx hy]
 unfold gnomonref08_order.f
 refine Ev.bind (bits_ev a (by omega)) (Ev.bind (bits_ev b (by omega)) ?_)
 rw [w64 (x := ((bl a : Nat) : Int) + x) (by omega) (by omega), w64 (x := ((bl b : Nat) : Int) + y) (by omega) (by omega)]
 by_cases c : ((bl a : Nat) : Int) + x < ((bl b : Nat) : Int) + y
 ·refine Ev.congr (fun k => if_pos c) ?_
  have t := szc_top a0 b0 (show x + (bl a : Nat) < y + (bl b : Nat) by omega)
  unfold szc
  rw [cmI_lt t]
  exact Ev.now _
 refine Ev.congr (fun k => if_neg c) ?_
 by_cases c2 : ((bl a : Nat) : Int) + x > ((bl b : Nat) : Int) + y
 ·refine Ev.congr (fun k => if_pos c2) ?_
  have t := szc_top b0 a0 (show y + (bl b : Nat) < x + (bl a : Nat) by omega)
  unfold szc
  rw [Int.min_comm x y, cmI_gt t]
  exact Ev.now _
 refine Ev.congr (fun k => if_neg c2) ?_
 rw [mn_min]
 obtain ⟨p, hp⟩ : ∃ p : Nat, p = (x - min x y).toNat := ⟨_, rfl⟩
 obtain ⟨q, hq⟩ : ∃ q : Nat, q = (y - min x y).toNat := ⟨_, rfl⟩
 have ep : wrap64 (x - min x y) = ((p : Nat) : Int) := by rw [w64 (by omega) (by omega)]; omega
 have eq : wrap64 (y - min x y) = ((q : Nat) : Int) := by rw [w64 (by omega) (by omega)]; omega
 rw [ep, eq]
 have bp : bl (a * 2^p) = bl a + p := bl_mul a p a0
 have bq : bl (b * 2^q) = bl b + q := bl_mul b q b0
 have lp := dg_len_bits (n := a * 2^p) (k := bl a + p) (by rw [← bp]; exact bl_lt _) (by omega)
 have lq := dg_len_bits (n := b * 2^q) (k := bl b + q) (by rw [← bq]; exact bl_lt _) (by omega)
 refine Ev.bind (shl_ev a p (by omega) (by omega)) (Ev.bind (shl_ev b q (by omega) (by omega)) (Ev.bind (cmp_ev _ _ (by omega) (by omega)) ?_))
 unfold szc
 rw [← hp, ← hq, cmI3]
 exact Ev.now _
structure Qt (F : Fmt) (A B : Nat) (e E : Int) : Prop where mk :: (a0 : A ≠ 0) (b0 : B ≠ 0) (ba : bl A ≤ 1000000) (bb : bl B ≤ 1000000) (e1 : E ≤ e) (e2 : e ≤ 2500000) (e3 : -2500000 ≤ E) (e4 : E ≤ F.low - 1)
section
variable {f : Int} {F : Fmt} {A B : Nat} {e E : Int}
def qn (A : Nat) (e E : Int) : Nat := A * 2^(e - E).toNat
def qd (F : Fmt) (B : Nat) (E : Int) : Nat := B * 2^(F.low - E).toNat
theorem hold_ev (h : Fm f F) (q : Qt F A B e E) {m : Nat} {x : Int} (hm : bl m ≤ 1000000) (x1 : E ≤ x) (x2 : x ≤ 1000000) :
  Ev (fun k => gnomonref08_Hold.f k (dg A) (dg B) e false (dg m) x) (cmp3 (m * B * 2^(x - E).toNat) (qn A e E)) := by
 have pa : 0 < qn A e E := Nat.mul_pos (Nat.pos_of_ne_zero q.a0) (Nat.two_pow_pos _)
 have lm := dg_len_bits (n := m) (k := bl m) (bl_lt m) (by omega)
 have lB := dg_len_bits (n := B) (k := bl B) (bl_lt B) (by have := q.bb; omega)
 unfold gnomonref08_Hold.f
 by_cases m0 : m = 0
 ·subst m0
  refine Ev.congr (fun k => if_pos (by rw [dg_zero]; rfl)) ?_
  have : cmp3 (0 * B * 2^(x - E).toNat) (qn A e E) = -1 := by rw [Nat.zero_mul, Nat.zero_mul]; exact if_pos pa
  rw [this]
  exact Ev.now _
 ·have l0 : ¬ ((dg m).length : Int) = 0 := fun c => m0 (dg_len_zero.1 (by omega))
  refine Ev.congr (fun k => if_neg l0) (Ev.congr (fun k => if_neg (by decide)) (Ev.bind (mul_ev m B (by omega) (by omega)) ?_))
  have mB := Nat.mul_ne_zero m0 q.b0
  have bm : bl (m * B) ≤ 2000000 := by
   have := bl_le_of_lt (n := m * B) (k := bl m + bl B) (by rw [Nat.pow_add]; exact Nat.mul_lt_mul'' (bl_lt m) (bl_lt B))
   have := q.bb
   omega
  refine Ev.bind (order_ev (E := E) mB q.a0 (by omega) (by have := q.ba; omega) (by have := q.e3; omega) (by omega) (by have := q.e1; have := q.e3; omega) (by have := q.e2; omega) x1 q.e1) (Ev.now _)
theorem hold_size (h : Fm f F) (q : Qt F A B e E) (s : Nat) (hs : s < F.sg) : Ev (fun k => gnomonref08_Hold.f k (dg A) (dg B) e false (dg (mgF F s)) (xpF F s)) (cmp3 (nF F s * qd F B E) (qn A e E)) := by
 have hx := xp_d F s
 have hd := sz_dF h hs
 have hl := sz_low h
 have e4 := q.e4
 have := hold_ev h q (m := mgF F s) (x := xpF F s) (by have := bl_le_of_lt (n := mgF F s) (k := 53) (sz_mg h s); omega) (by omega) (by omega)
 have e : mgF F s * B * 2^(xpF F s - E).toNat = nF F s * qd F B E := by
  unfold nF qd
  have : (xpF F s - E).toNat = dF F s + (F.low - E).toNat := by omega
  rw [this, Nat.pow_add]; ac_rfl
 rw [← e]
 exact this
theorem hold_mid (h : Fm f F) (q : Qt F A B e E) (s : Nat) (hs : s < F.sg) : Ev (fun k => gnomonref08_Hold.f k (dg A) (dg B) e false (dg (mgF F s * 2^1 + 1)) (wrap64 (xpF F s - 1))) (cmp3 (md F 0 s * qd F B E) (2 * qn A e E)) := by
 have hx := xp_d F s
 have hd := sz_dF h hs
 have hl := sz_low h
 have e4 := q.e4
 have hw : wrap64 (xpF F s - 1) = xpF F s - 1 := w64 (by omega) (by omega)
 rw [hw]
 have hm := sz_mg h s
 have := hold_ev h q (m := mgF F s * 2^1 + 1) (x := xpF F s - 1) (by have := bl_le_of_lt (n := mgF F s * 2^1 + 1) (k := 55) (by omega); omega) (by omega) (by omega)
 have ee : 2 * (((mgF F s * 2^1 + 1) * B) * 2^(xpF F s - 1 - E).toNat) = md F 0 s * qd F B E := by
  rw [md_odd h]
  unfold qd
  obtain ⟨n, hn⟩ : ∃ n, n = (xpF F s - 1 - E).toNat := ⟨_, rfl⟩
  have e5 : dF F s + (F.low - E).toNat = n + 1 := by omega
  have e6 : (2 * mgF F s + 1) * 2^(dF F s) * (B * 2^(F.low - E).toNat) = (2 * mgF F s + 1) * B * 2^(dF F s + (F.low - E).toNat) := by rw [Nat.pow_add]; ac_rfl
  rw [e6, e5, ← hn, Nat.pow_succ 2 n, show mgF F s * 2^1 + 1 = 2 * mgF F s + 1 by omega]
  ac_rfl
 have c : cmp3 (((mgF F s * 2^1 + 1) * B) * 2^(xpF F s - 1 - E).toNat) (qn A e E) = cmp3 (md F 0 s * qd F B E) (2 * qn A e E) := by
  rw [← ee]
  unfold cmp3
  split <;> split <;> (try split) <;> (try split) <;> omega
 rw [← c]
 exact this
theorem nq_here (h : Fm f F) {n d s : Nat} (hd : 0 < d) (hs : s < F.inf) (h1 : nF F s * d ≤ n) (h2 : n < nF F (s + 1) * d) :
  Nq F n d (if md F 0 s * d < 2 * n ∨ (2 * n = md F 0 s * d ∧ s % 2 = 1) then s + 1 else s) := by
 have m0 : ∀ t, md F 0 t = nF F t + nF F (t + 1) := fun t => by unfold md; rw [Nat.pow_zero, Nat.mul_one]
 have hinf := (fm_hd h)
 by_cases u : md F 0 s * d < 2 * n ∨ (2 * n = md F 0 s * d ∧ s % 2 = 1)
 ·rw [if_pos u]
  refine ⟨by omega, fun c => .inl ?_, fun t ht => ?_⟩
  ·have a := nF_step h (s + 1)
   have b : (nF F (s + 1) + nF F (s + 1)) * d < (nF F (s + 1) + nF F (s + 1 + 1)) * d := Nat.mul_lt_mul_of_pos_right (by omega) hd
   rw [Nat.add_mul (nF F (s + 1)) (nF F (s + 1))] at b
   rw [m0]
   omega
  ·obtain rfl : t = s := by omega
   rcases u with u | ⟨u, u2⟩
   ·exact .inl u
   ·exact .inr ⟨u.symm, by omega⟩
 ·rw [if_neg u]
  refine ⟨by omega, fun c => by omega, fun t ht => .inl ?_⟩
  subst ht
  have a := nF_step h t
  have b : (nF F t + nF F (t + 1)) * d < (nF F (t + 1) + nF F (t + 1)) * d := Nat.mul_lt_mul_of_pos_right (by omega) hd
  rw [m0]
  rw [Nat.add_mul (nF F (t + 1))] at b
  omega
theorem nq_top (h : Fm f F) {n d : Nat} (hd : 0 < d) (h1 : nF F F.inf * d ≤ n) : Nq F n d F.inf := by
 refine ⟨Nat.le_refl _, fun c => absurd c (Nat.lt_irrefl _), fun t ht => .inl ?_⟩
 have m0 : md F 0 t = nF F t + nF F (t + 1) := by unfold md; rw [Nat.pow_zero, Nat.mul_one]
 have a := nF_step h t
 have b : (nF F t + nF F (t + 1)) * d < (nF F (t + 1) + nF F (t + 1)) * d := Nat.mul_lt_mul_of_pos_right (by omega) hd
 have h1' : nF F (t + 1) * d ≤ n := by rw [← ht]; exact h1
 rw [Nat.add_mul (nF F (t + 1)) (nF F (t + 1))] at b
 rw [m0]
 omega
theorem size_l0 (h : Fm f F) (q : Qt F A B e E) (G Q : Int) (n : Nat) : ∀ lo hi : Nat, hi - lo ≤ n → lo < hi → hi ≤ F.inf + 1 → nF F lo * qd F B E ≤ qn A e E → (hi = F.inf + 1 ∨ qn A e E < nF F hi * qd F B E) →
  ∃ s : Nat, Nq F (qn A e E) (qd F B E) s ∧ Ev (fun k => gnomonref08_Size.l0 k (lo : Int) (hi : Int) ((F.sg : Nat) : Int) ((F.man : Nat) : Int) F.low G ((F.inf : Nat) : Int) Q (dg A) (dg B) e false) (s : Int) := by
 have hz := h.sz
 have pd : 0 < qd F B E := Nat.mul_pos (Nat.pos_of_ne_zero q.b0) (Nat.two_pow_pos _)
 have wd : ∀ s, Ev (fun k => gnomonref01_Word.f k ((mgF F s : Nat) : Int)) (dg (mgF F s)) := fun s => by
  have hm := sz_mg h s
  have := word_ev ((mgF F s : Nat) : Int) (by omega) (by omega)
  rwa [Int.toNat_natCast] at this
 induction n with
 | zero => intro lo hi c1 c2; omega
 | succ n ih =>
  intro lo hi c1 c2 c3 h1 h2
  by_cases c : 1 < hi - lo
  ·obtain ⟨mid, hmid⟩ : ∃ mid, mid = lo + (hi - lo) / 2 := ⟨_, rfl⟩
   have m1 : lo < mid := by omega
   have m2 : mid < hi := by omega
   have em : IntKind.u64.wrap ((lo : Int) + (IntKind.u64.wrap (Int.tdiv (IntKind.u64.wrap ((hi : Int) - (lo : Int))) 2))) = ((mid : Nat) : Int) := by
    rw [wu64 (x := (hi : Int) - (lo : Int)) (by omega) (by omega), Int.tdiv_eq_ediv_of_nonneg (by omega), wu64 (x := ((hi : Int) - (lo : Int)) / 2) (by omega) (by omega), wu64 (by omega) (by omega)]
    omega
   have p := sz_parts h G Q (s := mid) (by omega)
   have w := wd mid
   have hs := hold_size h q mid (by omega)
   have go : ∀ s : Nat, Ev (fun k => if cmp3 (nF F mid * qd F B E) (qn A e E) ≤ 0 then gnomonref08_Size.l0 k ((mid : Nat) : Int) (hi : Int) ((F.sg : Nat) : Int) ((F.man : Nat) : Int) F.low G ((F.inf : Nat) : Int) Q (dg A) (dg B) e false else gnomonref08_Size.l0 k (lo : Int) ((mid : Nat) : Int) ((F.sg : Nat) : Int) ((F.man : Nat) : Int) F.low G ((F.inf : Nat) : Int) Q (dg A) (dg B) e false) (s : Int) →
     Ev (fun k => gnomonref08_Size.l0 k (lo : Int) (hi : Int) ((F.sg : Nat) : Int) ((F.man : Nat) : Int) F.low G ((F.inf : Nat) : Int) Q (dg A) (dg B) e false) (s : Int) := fun s r => by
    refine Ev.step (fun k => by rw [gnomonref08_Size.l0, if_pos (by rw [wu64 (by omega) (by omega)]; omega), em]) (Ev.bind (sz_ev p) (Ev.bind w (Ev.bind hs r)))
   by_cases d : cmp3 (nF F mid * qd F B E) (qn A e E) ≤ 0
   ·have le : nF F mid * qd F B E ≤ qn A e E := by unfold cmp3 at d; split at d <;> (try split at d) <;> omega
    obtain ⟨s, n1, r⟩ := ih mid hi (by omega) m2 c3 le h2
    exact ⟨s, n1, go s (Ev.congr (fun k => if_pos d) r)⟩
   ·have lt : qn A e E < nF F mid * qd F B E := by unfold cmp3 at d; split at d <;> (try split at d) <;> omega
    obtain ⟨s, n1, r⟩ := ih lo mid (by omega) m1 (by omega) h1 (.inr lt)
    exact ⟨s, n1, go s (Ev.congr (fun k => if_neg d) r)⟩
  ·have e1 : hi = lo + 1 := by omega
   by_cases i : lo = F.inf
   ·subst i
    exact ⟨F.inf, nq_top h pd h1, Ev.step (f := fun _ => some ((F.inf : Nat) : Int)) (fun k => by rw [gnomonref08_Size.l0, if_neg (by rw [wu64 (by omega) (by omega)]; omega), if_pos rfl]) (Ev.now _)⟩
   ·have h2' : qn A e E < nF F (lo + 1) * qd F B E := by rw [← e1]; exact h2.resolve_left (by omega)
    have nq := nq_here h pd (show lo < F.inf by omega) h1 h2'
    have p := sz_parts h G Q (s := lo) (by omega)
    have w := wd lo
    have hm := sz_mg h lo
    have lm := dg_len_bits (n := mgF F lo) (k := 53) hm (by decide)
    have lm2 := dg_len_bits (n := mgF F lo * 2^1) (k := 54) (by omega) (by decide)
    have sh := shl_ev (mgF F lo) 1 lm (by decide)
    have one := word_ev 1 (by decide) (by decide)
    have l1 : (dg 1).length < 274877906944 := dg_len_bits (k := 1) (by decide) (by decide)
    have ad := add_ev (mgF F lo * 2^1) 1 (by omega) (by omega)
    have hmd := hold_mid h q lo (by omega)
    have w1 : IntKind.u64.wrap ((lo : Int) + 1) = ((lo + 1 : Nat) : Int) := by rw [wu64 (by omega) (by omega)]; omega
    have tm : Int.tmod (lo : Int) 2 = ((lo % 2 : Nat) : Int) := (Int.ofNat_tmod lo 2).symm
    have fin : ∀ s : Nat, Ev (fun k => if cmp3 (md F 0 lo * qd F B E) (2 * qn A e E) < 0 then some (IntKind.u64.wrap ((lo : Int) + 1)) else (if cmp3 (md F 0 lo * qd F B E) (2 * qn A e E) = 0 then (if Int.tmod (lo : Int) 2 = 1 then some (IntKind.u64.wrap ((lo : Int) + 1)) else some (lo : Int)) else some (lo : Int))) (s : Int) →
      Ev (fun k => gnomonref08_Size.l0 k (lo : Int) (hi : Int) ((F.sg : Nat) : Int) ((F.man : Nat) : Int) F.low G ((F.inf : Nat) : Int) Q (dg A) (dg B) e false) (s : Int) := fun s r => by
     refine Ev.step (fun k => by rw [gnomonref08_Size.l0, if_neg (by rw [wu64 (by omega) (by omega)]; omega), if_neg (by omega)]) (Ev.bind (sz_ev p) (Ev.bind w (Ev.bind sh (Ev.bind one (Ev.bind ad (Ev.bind hmd r))))))
    refine ⟨_, nq, fin _ ?_⟩
    rw [w1, tm]
    generalize md F 0 lo * qd F B E = X at *
    generalize 2 * qn A e E = Y at *
    by_cases c5 : X < Y
    ·have cv : cmp3 X Y = -1 := if_pos c5
     rw [cv, if_pos (show X < Y ∨ (Y = X ∧ lo % 2 = 1) from .inl c5)]
     exact Ev.congr (fun k => if_pos (by decide)) (Ev.now _)
    ·by_cases c6 : Y < X
     ·have cv : cmp3 X Y = 1 := by unfold cmp3; rw [if_neg c5, if_pos c6]
      rw [cv, if_neg (show ¬ (X < Y ∨ (Y = X ∧ lo % 2 = 1)) by omega)]
      exact Ev.congr (fun k => if_neg (by decide)) (Ev.congr (fun k => if_neg (by decide)) (Ev.now _))
     ·have cv : cmp3 X Y = 0 := by unfold cmp3; rw [if_neg c5, if_neg c6]
      rw [cv]
      refine Ev.congr (fun k => if_neg (by decide)) (Ev.congr (fun k => if_pos rfl) ?_)
      by_cases c7 : lo % 2 = 1
      ·rw [if_pos (show X < Y ∨ (Y = X ∧ lo % 2 = 1) from .inr ⟨by omega, c7⟩)]
       exact Ev.congr (fun k => if_pos (by omega)) (Ev.now _)
      ·rw [if_neg (show ¬ (X < Y ∨ (Y = X ∧ lo % 2 = 1)) by omega)]
       exact Ev.congr (fun k => if_neg (by omega)) (Ev.now _)
theorem size_ev (h : Fm f F) (q : Qt F A B e E) (G Q : Int) : ∃ s : Nat, Nq F (qn A e E) (qd F B E) s ∧ Ev (fun k => gnomonref08_Size.f k ((F.sg : Nat) : Int) ((F.man : Nat) : Int) F.low G ((F.inf : Nat) : Int) Q (dg A) (dg B) e false) (s : Int) := by
 have hz := h.sz
 obtain ⟨s, n, r⟩ := size_l0 h q G Q (F.inf + 1) 0 (F.inf + 1) (by omega) (by omega) (Nat.le_refl _) (by rw [nF_zero, Nat.zero_mul]; exact Nat.zero_le _) (.inl rfl)
 refine ⟨s, n, ?_⟩
 unfold gnomonref08_Size.f
 rw [show IntKind.u64.wrap (((F.inf : Nat) : Int) + 1) = ((F.inf + 1 : Nat) : Int) by rw [wu64 (by omega) (by omega)]; omega]
 exact r
end
end Go.Proofs.YtelfmddcjlocpaaGreatDoor.Sz
