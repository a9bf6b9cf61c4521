/- DocJoin and DocWiden answer as the program's Join and Widen. Plain Lean. Conditions: words below 2^64, exponents of the format's numbers. -/
import Derived.Test.YthpnmkclboennaaDoorKBinaryWidensBinJ4
import Derived.Test.YthpnmkclboennaaDoorKBinaryWidensPLibx12
import Derived.Test.YthpnmkclboennaaDoorKBinaryWidensPLibx13
import Derived.Test.YthpnmkclboennaaDoorKBinaryWidensPLibx5
import Derived.Test.YthpnmkclboennaaDoorKBinaryWidensPLibx6
namespace Go.Proofs.YthpnmkclboennaaDoor.BinJ5
open Go.RowKit Go.Proofs.YthpnmkclboennaaDoorW.PrintWords Go.Proofs.YthpnmkclboennaaDoorW.PrintMore Go.Proofs.YthpnmkclboennaaDoorW.PrintLast Go.Proofs.YthpnmkclboennaaDoor.Num Go.Proofs.YthpnmkclboennaaDoor.PLib Go.Proofs.YthpnmkclboennaaDoor.Ref Go.Proofs.YthpnmkclboennaaDoor.BinLaw Go.Proofs.YthpnmkclboennaaDoor.BinA Go.Proofs.YthpnmkclboennaaDoor.BinO2 Go.Proofs.YthpnmkclboennaaDoor.BinF Go.Proofs.YthpnmkclboennaaDoor.BinG Go.Proofs.YthpnmkclboennaaDoor.BinW Go.Proofs.YthpnmkclboennaaDoor.BinJ2 Go.Proofs.YthpnmkclboennaaDoor.BinJ4
theorem size_ev (u : Nat) (hu : bl u ≤ 4000) (g i q : Int) : Ev (fun k => gnomonref07_Size.f k ((fD.sg : Nat) : Int) ((fD.man : Nat) : Int) fD.low g i q (dg u)) ((szF fD u : Nat) : Int) := by
  have hlen := dg_len_bits (bl_lt u) (show bl u ≤ 8796093022000 by omega)
  have hP : fD.man = 53 := rfl
  have hH : hdF fD = 4503599627370496 := by decide
  unfold gnomonref07_Size.f
  refine Ev.bind (bits_ev u (by omega)) ?_
  unfold szF
  rw [hP, hH]
  by_cases h : bl u < 53
  · have c : ((bl u : Nat) : Int) < ((53 : Nat) : Int) := by omega
    simp only [if_pos c]
    rw [if_pos h]
    have h3 := bl_lt u
    have h2 : 2^(bl u) ≤ 2^53 := Nat.pow_le_pow_right (by decide) (by omega)
    have e53 : (2 : Nat)^53 = 9007199254740992 := by decide
    rw [e53] at h2
    exact Ev.bind (fits_ev u (by omega)) (Ev.now _)
  · have c : ¬ ((bl u : Nat) : Int) < ((53 : Nat) : Int) := by omega
    simp only [if_neg c]
    rw [if_neg h]
    have e : wrap64 (((bl u : Nat) : Int) - ((53 : Nat) : Int)) = ((bl u - 53 : Nat) : Int) := by rw [w64 (by omega) (by omega)]; omega
    have hlow : u / 2^(bl u - 53) < 9007199254740992 := by
      have e53 : (2 : Nat)^53 = 9007199254740992 := by decide
      rw [← e53]
      rw [Nat.div_lt_iff_lt_mul (Nat.two_pow_pos _), ← Nat.pow_add]
      exact Nat.lt_of_lt_of_le (bl_lt u) (Nat.pow_le_pow_right (by decide) (by omega))
    simp only [e]
    refine Ev.bind (shr_ev u (bl u - 53) hlen (by omega)) (Ev.bind (fits_ev _ (by omega)) ?_)
    have c1 : wrap64 (((53 : Nat) : Int) - 1) = ((52 : Nat) : Int) := by rw [w64 (by omega) (by omega)]; rfl
    have c2 : (0 : Int) ≤ ((52 : Nat) : Int) := by decide
    simp only [c1, if_pos c2]
    have hd : bl u - 53 ≤ 3947 := by omega
    generalize u / 2^(bl u - 53) = q at *
    generalize bl u - 53 = d at *
    have e1 : IntKind.u64.wrap ((d : Nat) : Int) = (d : Int) := wu64 (by omega) (by omega)
    have e52 : (2 : Int)^52 = 4503599627370496 := by decide
    have e2 : shl .u64 (d : Int) ((52 : Nat) : Int) = ((d * 4503599627370496 : Nat) : Int) := by
      unfold shl
      have e : min (((52 : Nat) : Int)).toNat IntKind.u64.bits = 52 := rfl
      rw [e, e52, wu64 (by omega) (by omega)]; omega
    rw [e1, e2, wu64 (by omega) (by omega)]
    have : ((d * 4503599627370496 : Nat) : Int) + (q : Int) = ((d * 4503599627370496 + q : Nat) : Int) := by omega
    rw [this]
    exact Ev.now _
theorem n_sz {o d : Nat} (ho : o ≠ 0) (hn : bl o ≤ 53) : nF fD (szF fD (o * 2^d)) = o * 2^d := by
  have hP : fD.man = 53 := rfl
  have hH : hdF fD = 4503599627370496 := by decide
  have e52 : (2 : Nat)^52 = 4503599627370496 := by decide
  have e53 : (2 : Nat)^53 = 9007199254740992 := by decide
  have hbN : bl (o * 2^d) = bl o + d := bl_mul _ _ ho
  have hN0 : o * 2^d ≠ 0 := Nat.mul_ne_zero ho (Nat.ne_of_gt (Nat.two_pow_pos d))
  by_cases c : bl (o * 2^d) < 53
  · have e : szF fD (o * 2^d) = o * 2^d := by unfold szF; rw [hP, if_pos c]
    have hlt : o * 2^d < 4503599627370496 := by
      rw [← e52]
      exact Nat.lt_of_lt_of_le (bl_lt _) (Nat.pow_le_pow_right (by decide) (by omega))
    rw [e]
    unfold nF mgF dF
    rw [hH, Nat.div_eq_of_lt hlt, Nat.mod_eq_of_lt hlt, if_pos rfl]
    simp
  · obtain ⟨q, hq⟩ : ∃ q, bl (o * 2^d) - 53 = q := ⟨_, rfl⟩
    have hw1 : o * 2^d / 2^q < 9007199254740992 := by
      rw [← e53, Nat.div_lt_iff_lt_mul (Nat.two_pow_pos _), ← Nat.pow_add]
      exact Nat.lt_of_lt_of_le (bl_lt _) (Nat.pow_le_pow_right (by decide) (by omega))
    have hw2 : 4503599627370496 ≤ o * 2^d / 2^q := by
      rw [← e52, Nat.le_div_iff_mul_le (Nat.two_pow_pos _), ← Nat.pow_add]
      exact Nat.le_trans (Nat.pow_le_pow_right (by decide) (by omega)) (bl_ge hN0)
    have hdiv : o * 2^d / 2^q * 2^q = o * 2^d := by
      refine Nat.div_mul_cancel ?_
      have : d = q + (d - q) := by omega
      rw [this, Nat.pow_add, ← Nat.mul_assoc, Nat.mul_comm o, Nat.mul_assoc]
      exact Nat.dvd_mul_right _ _
    have e : szF fD (o * 2^d) = q * 4503599627370496 + o * 2^d / 2^q := by unfold szF; rw [hP, hH, if_neg c, hq]
    rw [e]
    generalize o * 2^d / 2^q = W at *
    unfold nF mgF dF
    rw [hH]
    have d1 : (q * 4503599627370496 + W) / 4503599627370496 = q + 1 := by omega
    have d2 : (q * 4503599627370496 + W) % 4503599627370496 = W - 4503599627370496 := by omega
    rw [d1, d2, if_neg (by omega), Nat.add_sub_cancel, show 4503599627370496 + (W - 4503599627370496) = W by omega, ← hdiv]
theorem cmp3_eq (a : Nat) : cmp3 a a = 0 := by unfold cmp3; rw [if_neg (Nat.lt_irrefl _), if_neg (Nat.lt_irrefl _)]
theorem docjoin_ev (neg : Bool) (man : Nat) (e : Int) (hm : man < 9007199254740992) (lo : -1074 ≤ e) (hi : e ≤ 1024) : Ev (fun k => gnomonref07_DocJoin.f k 64 neg (man : Int) e) (((jnF fD neg man e).1 : Nat), (jnF fD neg man e).2) := by
  have hD : Fm 64 fD := .inr ⟨rfl, rfl⟩
  have hsg : fD.sg = 9223372036854775808 := rfl
  have hinf : fD.inf = 9218868437227405312 := rfl
  have hlow : fD.low = -1074 := rfl
  have hP : fD.man = 53 := rfl
  unfold gnomonref07_DocJoin.f
  rw [of_f hD]
  simp only [Option.bind_some, if_true]
  have hx : ∃ X : Nat, X = (if neg then 9223372036854775808 else 0) ∧ (fun k => if neg = true then gnomonref07_DocJoin.j0 k (man : Int) e ((fD.sg : Nat) : Int) ((fD.sg : Nat) : Int) ((fD.man : Nat) : Int) fD.low (gF fD) ((fD.inf : Nat) : Int) ((fD.qt : Nat) : Int) else gnomonref07_DocJoin.j0 k (man : Int) e 0 ((fD.sg : Nat) : Int) ((fD.man : Nat) : Int) fD.low (gF fD) ((fD.inf : Nat) : Int) ((fD.qt : Nat) : Int)) =
      fun k => gnomonref07_DocJoin.j0 k (man : Int) e (X : Int) ((fD.sg : Nat) : Int) ((fD.man : Nat) : Int) fD.low (gF fD) ((fD.inf : Nat) : Int) ((fD.qt : Nat) : Int) := by
    cases neg
    · exact ⟨0, rfl, rfl⟩
    · exact ⟨9223372036854775808, rfl, rfl⟩
  obtain ⟨X, hX, hxe⟩ := hx
  rw [hxe]
  by_cases h0 : man = 0
  · subst h0
    have e1 : jnF fD neg 0 e = (if neg then fD.sg else 0, 0) := by unfold jnF; rw [if_pos rfl]
    rw [e1, hsg, ← hX]
    exact Ev.step (f := fun _ => some _) (fun k => by rw [gnomonref07_DocJoin.j0]; exact if_pos rfl) (Ev.now _)
  · have hm64 : man < 18446744073709551616 := by omega
    have ho := (odd_ne h0 hm64).1
    obtain ⟨_, _, hc⟩ := ctz_spec h0 hm64
    have hman : man / 2^(Lib.ctz 64 man) * 2^(Lib.ctz 64 man) = man := by
      obtain ⟨r, hr, _⟩ := ctz_spec h0 hm64
      refine Nat.div_mul_cancel ?_
      exact ⟨_, hr⟩
    have e53 : (2 : Nat)^53 = 9007199254740992 := by decide
    have hbl : bl (man / 2^(Lib.ctz 64 man)) ≤ 53 := bl_le_of_lt (by rw [e53]; exact Nat.lt_of_le_of_lt (Nat.div_le_self _ _) hm)
    have hN : man * 2^((e - -1074).toNat) = man / 2^(Lib.ctz 64 man) * 2^(e + (Lib.ctz 64 man : Nat) - fD.low).toNat := by
      have e1 : (e + (Lib.ctz 64 man : Nat) - fD.low).toNat = Lib.ctz 64 man + (e - -1074).toNat := by rw [hlow]; omega
      rw [e1, Nat.pow_add, ← Nat.mul_assoc, hman]
    have e1 : jnF fD neg man e = if fD.inf ≤ szF fD (man / 2^(Lib.ctz 64 man) * 2^(e + (Lib.ctz 64 man : Nat) - fD.low).toNat) then (0, 5) else
        (if neg then fD.sg + szF fD (man / 2^(Lib.ctz 64 man) * 2^(e + (Lib.ctz 64 man : Nat) - fD.low).toNat) else szF fD (man / 2^(Lib.ctz 64 man) * 2^(e + (Lib.ctz 64 man : Nat) - fD.low).toNat), 0) := by
      unfold jnF; rw [if_neg h0, if_neg (by rw [hP, hlow]; omega)]
    rw [e1]
    have hnz := n_sz (d := (e + (Lib.ctz 64 man : Nat) - fD.low).toNat) ho hbl
    rw [← hN] at hnz ⊢
    have hbN : bl (man * 2^((e - -1074).toNat)) ≤ 53 + 2098 := by
      rw [bl_mul _ _ h0]
      have : bl man ≤ 53 := bl_le_of_lt (by rw [e53]; exact hm)
      omega
    have hl1 : (dg man).length < 274877906944 := dg_len_bits (k := 53) (by rw [e53]; exact hm) (by decide)
    have hl2 := dg_len_bits (bl_lt (man * 2^((e - -1074).toNat))) (show bl (man * 2^((e - -1074).toNat)) ≤ 8796093022000 by omega)
    have hwd := word_ev (man : Int) (by omega) (by omega)
    rw [Int.toNat_natCast] at hwd
    have hsh := shl_ev man ((e - -1074).toNat) hl1 (by omega)
    have hw : wrap64 (e - fD.low) = (((e - -1074).toNat : Nat) : Int) := by rw [hlow, w64 (by omega) (by omega)]; omega
    have hsz := size_ev (man * 2^((e - -1074).toNat)) (by omega) (gF fD) ((fD.inf : Nat) : Int) ((fD.qt : Nat) : Int)
    generalize man * 2^((e - -1074).toNat) = N at *
    have hgp : gF fD = 971 := rfl
    refine Ev.step (f := fun k => gnomonref07_DocJoin.l0 k (man : Int) e (X : Int) ((fD.sg : Nat) : Int) ((fD.man : Nat) : Int) fD.low (gF fD) ((fD.inf : Nat) : Int) ((fD.qt : Nat) : Int)) (fun k => by rw [gnomonref07_DocJoin.j0, if_neg (by omega)]) ?_
    refine Ev.step (f := fun k => gnomonref07_DocJoin.j2 k (man : Int) e (X : Int) false ((fD.sg : Nat) : Int) ((fD.man : Nat) : Int) fD.low (gF fD) ((fD.inf : Nat) : Int) ((fD.qt : Nat) : Int)) (fun k => by rw [gnomonref07_DocJoin.l0, if_neg (by rw [hlow]; omega)]) ?_
    refine Ev.step (f := fun k => gnomonref07_DocJoin.j3 k (man : Int) e (X : Int) false ((fD.sg : Nat) : Int) ((fD.man : Nat) : Int) fD.low (gF fD) ((fD.inf : Nat) : Int) ((fD.qt : Nat) : Int)) (fun k => by
      rw [gnomonref07_DocJoin.j2, if_neg (by decide), if_neg (by rw [hlow]; omega), hgp, hP, w64 (by omega) (by omega), decide_eq_false (by omega)]) ?_
    refine Ev.step (f := fun k => ((gnomonref01_Word.f k (man : Int)).bind fun t475 => ((gnomonref01_Shl.f k t475 (wrap64 (e - fD.low))).bind fun t478 => ((gnomonref07_Size.f k ((fD.sg : Nat) : Int) ((fD.man : Nat) : Int) fD.low (gF fD) ((fD.inf : Nat) : Int) ((fD.qt : Nat) : Int) t478).bind fun t481 => (if t481 ≥ ((fD.inf : Nat) : Int) then (gnomonref07_DocJoin.j4 k (X : Int) t481 true) else ((gnomonref07_Whole.f k ((fD.sg : Nat) : Int) ((fD.man : Nat) : Int) fD.low (gF fD) ((fD.inf : Nat) : Int) ((fD.qt : Nat) : Int) t481).bind fun bt482 => ((gnomonref01_Cmp.f k bt482.2 t478).bind fun t486 => (gnomonref07_DocJoin.j4 k (X : Int) t481 (t486 != 0))))))))) (fun k => by rw [gnomonref07_DocJoin.j3, if_neg (by decide)]) ?_
    rw [hw]
    refine Ev.bind hwd (Ev.bind hsh (Ev.bind hsz ?_))
    by_cases c : fD.inf ≤ szF fD N
    · rw [if_pos c]
      refine Ev.congr (fun k => if_pos (by omega)) ?_
      exact Ev.step (f := fun _ => some _) (fun k => by rw [gnomonref07_DocJoin.j4, if_pos rfl]; rfl) (Ev.now _)
    · rw [if_neg c]
      refine Ev.congr (fun k => if_neg (by omega)) ?_
      have hwh := whole_ev hD (gF fD) ((fD.inf : Nat) : Int) ((fD.qt : Nat) : Int) (szF fD N)
      rw [Nat.mod_eq_of_lt (by rw [hsg]; omega), hnz] at hwh
      refine Ev.bind hwh (Ev.bind (cmp_ev N N (by omega) (by omega)) ?_)
      rw [cmp3_eq]
      refine Ev.step (f := fun _ => some _) (fun k => by rw [gnomonref07_DocJoin.j4, if_neg (by decide)]) ?_
      have hr : IntKind.u64.wrap ((X : Int) + ((szF fD N : Nat) : Int)) = (((if neg then fD.sg + szF fD N else szF fD N) : Nat) : Int) := by
        cases neg
        · have : X = 0 := hX
          subst this
          rw [if_neg (by decide), wu64 (by omega) (by omega)]; omega
        · have : X = 9223372036854775808 := hX
          subst this
          rw [if_pos rfl, hsg, wu64 (by omega) (by omega)]; omega
      rw [hr]
      exact Ev.now _
def wdF (b : Nat) : Nat × Int :=
  if 4294967296 ≤ b then (0, 2) else
  if fS.inf < b % fS.sg then (fD.qt, 0) else
  if b % fS.sg = fS.inf then (if fS.sg ≤ b then fD.sg + fD.inf else fD.inf, 0) else
  jnF fD (decide (fS.sg ≤ b)) (mgF fS (b % fS.sg)) (xpF fS (b % fS.sg))
theorem xp_S {s : Nat} (hs : s < fS.sg) : -149 ≤ xpF fS s ∧ xpF fS s ≤ 106 := by
  have h : Fm 32 fS := .inl ⟨rfl, rfl⟩
  rw [xp_d]
  have hl : fS.low = -149 := rfl
  have hH : hdF fS = 8388608 := by decide
  have hs' : s < 2147483648 := hs
  unfold dF
  rw [hH, hl]
  omega
theorem mg_S (s : Nat) : mgF fS s < 16777216 := by
  have h : Fm 32 fS := .inl ⟨rfl, rfl⟩
  have := mg_lt h s
  have hH : hdF fS = 8388608 := by decide
  omega
theorem docwiden_ev (b : Nat) (hb : b < 18446744073709551616) : Ev (fun k => gnomonref07_DocWiden.f k (b : Int)) (((wdF b).1 : Nat), (wdF b).2) := by
  have h : Fm 32 fS := .inl ⟨rfl, rfl⟩
  have hD : Fm 64 fD := .inr ⟨rfl, rfl⟩
  have hsg : fS.sg = 2147483648 := rfl
  have hinf : fS.inf = 2139095040 := rfl
  have hsgD : fD.sg = 9223372036854775808 := rfl
  have hinfD : fD.inf = 9218868437227405312 := rfl
  unfold gnomonref07_DocWiden.f wdF
  by_cases c : 4294967296 ≤ b
  · rw [check_bad h b hb (by rw [hsg]; omega), if_pos c]
    simp only [Option.bind_some]
    exact Ev.congr (fun k => if_neg (by decide)) (Ev.now _)
  · rw [check_ok h b (by rw [hsg]; omega), of_f h, of_f hD, if_neg c]
    simp only [Option.bind_some, if_true, cut_f h]
    have hs : b % fS.sg < fS.sg := Nat.mod_lt _ (by rw [hsg]; decide)
    generalize b % fS.sg = s at *
    by_cases c1 : fS.inf < s
    · rw [if_pos c1]
      exact Ev.congr (fun k => if_pos (by omega)) (Ev.now _)
    · rw [if_neg c1]
      refine Ev.congr (fun k => if_neg (by omega)) ?_
      by_cases c2 : s = fS.inf
      · rw [if_pos c2]
        refine Ev.congr (fun k => if_pos (by omega)) ?_
        by_cases c3 : fS.sg ≤ b
        · rw [if_pos c3, decide_eq_true c3]
          refine Ev.congr (f := fun _ => some _) (fun k => ?_) (Ev.now _)
          rw [if_pos rfl, wu64 (by omega) (by omega)]
          rfl
        · rw [if_neg c3, decide_eq_false c3]
          exact Ev.congr (fun k => if_neg (by decide)) (Ev.now _)
      · rw [if_neg c2]
        refine Ev.congr (fun k => if_neg (by omega)) ?_
        simp only [rparts_f h _ _ _ _ hs, Option.bind_some]
        have h1 := mg_S s
        have h2 := xp_S hs
        exact Ev.bind (docjoin_ev _ _ _ (by omega) (by omega) (by omega)) (Ev.now _)
end Go.Proofs.YthpnmkclboennaaDoor.BinJ5
