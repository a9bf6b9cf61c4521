/- natdiv.QuoRem by a divisor of two limbs or more. Conditions: at most 8192 limbs; the divisor not nought; math/bits' table is laid. natdiv.root and Root on naturals of up to 8000 limbs; natmul.Sqr. Condition: math/bits' table is laid. -/
import Derived.Test.YtelfmddcjlocpaaGreatDoorKRoundRootedGY
import Derived.Test.YtelfmddcjlocpaaGreatDoorKRoundRootedGI
section
set_option linter.unusedVariables false
namespace Go.Proofs.YtelfmddcjlocpaaGreatDoor.GZ
open Go.RowKit Go.Proofs.YtelfmddcjlocpaaGreatDoorW.PrintWords Go.Proofs.YtelfmddcjlocpaaGreatDoorW.PrintMore Go.Proofs.YtelfmddcjlocpaaGreatDoorW.PrintLast Go.Proofs.YtelfmddcjlocpaaGreatDoor.Num Go.Proofs.YtelfmddcjlocpaaGreatDoor.Ref Go.Proofs.YtelfmddcjlocpaaGreatDoor.GBase Go.Proofs.YtelfmddcjlocpaaGreatDoor.GTh Go.Proofs.YtelfmddcjlocpaaGreatDoor.GA Go.Proofs.YtelfmddcjlocpaaGreatDoor.GB Go.Proofs.YtelfmddcjlocpaaGreatDoor.GC Go.Proofs.YtelfmddcjlocpaaGreatDoor.GG Go.Proofs.YtelfmddcjlocpaaGreatDoor.GI Go.Proofs.YtelfmddcjlocpaaGreatDoor.GJ Go.Proofs.YtelfmddcjlocpaaGreatDoor.GL Go.Proofs.YtelfmddcjlocpaaGreatDoor.GM Go.Proofs.YtelfmddcjlocpaaGreatDoor.GN Go.Proofs.YtelfmddcjlocpaaGreatDoor.GO Go.Proofs.YtelfmddcjlocpaaGreatDoor.GP Go.Proofs.YtelfmddcjlocpaaGreatDoor.GQ Go.Proofs.YtelfmddcjlocpaaGreatDoor.GR Go.Proofs.YtelfmddcjlocpaaGreatDoor.GK Go.Proofs.YtelfmddcjlocpaaGreatDoor.GS Go.Proofs.YtelfmddcjlocpaaGreatDoor.GT Go.Proofs.YtelfmddcjlocpaaGreatDoor.GV Go.Proofs.YtelfmddcjlocpaaGreatDoor.GW Go.Proofs.YtelfmddcjlocpaaGreatDoor.GX Go.Proofs.YtelfmddcjlocpaaGreatDoor.GY
theorem norm_num {a b s : Nat} : a * 2^s / (b * 2^s) = a / b ∧ a * 2^s % (b * 2^s) / 2^s = a % b := by
 have p := Nat.two_pow_pos s
 refine ⟨Nat.mul_div_mul_right a b p, ?_⟩
 rw [Nat.mul_mod_mul_right, Nat.mul_div_cancel _ p]
theorem sz_s {t s : Nat} (h0 : t ≠ 0) (h : t < 18446744073709551616) (hs : s = 64 - bl t) : s < 64 ∧ bl t + s = 64 := by
 have := bl_pos h0
 have := bl_le64 h
 omega
theorem sz_bl {b s m t : Nat} (b0 : b ≠ 0) (hm : nl b = m) (ht : t = dw b (m - 1)) (hs : bl t + s = 64) (m0 : 0 < m) : bl (b * 2^s) = 64 * m := by
 have h := bl_limbs b0
 rw [hm, ← ht] at h
 rw [bl_mul _ _ b0]
 omega
theorem sz_nl {x m : Nat} (h : bl x = 64 * m) : nl x = m ∧ x < pw m := by
 refine ⟨by unfold nl; omega, ?_⟩
 have := bl_lt x
 rw [h] at this
 exact this
theorem sz_a {a s n : Nat} (a0 : a ≠ 0) (hn : nl a = n) (hs : s < 64) : a * 2^s < pw (n + 1) := by
 have ab := bl_le_limbs a
 rw [hn] at ab
 have h3 : bl (a * 2^s) ≤ 64 * (n + 1) := by rw [bl_mul _ _ a0]; omega
 exact Nat.lt_of_lt_of_le (bl_lt _) (Nat.pow_le_pow_right (by decide) h3)
theorem sz_q {a b s m n q : Nat} (b0 : b ≠ 0) (hm : nl b = m) (hn : nl a = n) (hmn : m ≤ n) (hq : q = n + 1 - m) : a * 2^s < b * 2^s * pw q := by
 have m0 : 0 < m := by rw [← hm]; exact nl_pos b0
 have h4 : pw (m - 1) ≤ b := by rw [← hm]; exact nl_ge b0
 have e : pw q * pw (m - 1) = pw n := by rw [← pw_add]; congr 1; omega
 have h6 := Nat.mul_le_mul_left (pw q) h4
 rw [e] at h6
 have h7 := nl_lt a
 rw [hn] at h7
 rw [show b * 2^s * pw q = pw q * b * 2^s by ac_rfl]
 exact Nat.mul_lt_mul_of_pos_right (Nat.lt_of_lt_of_le h7 h6) (Nat.two_pow_pos s)
theorem sz_w {n m N q m1 : Nat} (la : n ≤ 8192) (hm2 : 2 ≤ m) (hmn : m ≤ n) (hN : N = n + 1) (hq : q = n + 1 - m) (h1 : m1 = m - 1) :
  (((m : Int) == 0) = false ∧ decide ((m : Int) = 0) = false ∧ ((m : Int) == 1) = false ∧ decide ((m : Int) = 1) = false ∧ ¬ m = 1 ∧ IntKind.i64.wrap ((n : Int) + 1) = (N : Int) ∧ wrap64 ((n : Int) + 1) = (N : Int) ∧ IntKind.i64.wrap ((m : Int) - 1) = (m1 : Int) ∧ wrap64 ((m : Int) - 1) = (m1 : Int))
  ∧ ((m1 : Int) < (m : Int) ∧ m1 < m ∧ (m : Int) ≤ (N : Int) ∧ m ≤ N) ∧ (0 < m ∧ 0 < q ∧ N = m + q ∧ N < 1099511627776 ∧ m < 1099511627776 ∧ q < 1099511627776) := by
 refine ⟨⟨by simp; omega, decide_eq_false (by omega), by simp; omega, decide_eq_false (by omega), by omega, ?_, ?_, ?_, ?_⟩, ⟨by omega, by omega, by omega, by omega⟩, by omega, by omega, by omega, by omega, by omega, by omega⟩
 ·rw [IntWalk.i64_in _ (by omega)]; omega
 ·rw [w64 (by omega) (by omega)]; omega
 ·rw [IntWalk.i64_in _ (by omega)]; omega
 ·rw [w64 (by omega) (by omega)]; omega
set_option maxRecDepth 100000 in
set_option maxHeartbeats 1000000 in
theorem quoRem_core (w : World) (A B : Option Addr) (ca cb a b n m s V U N q m1 bd : Nat) (k : Int) (hk : decide (k < 0) = false)
  (hFA : Calls Tryz.prog 73 #[.slice A n ca] w fun e w' => e = .returned (.bool true) ∧ w' = w) (hFB : Calls Tryz.prog 73 #[.slice B m cb] w fun e w' => e = .returned (.bool true) ∧ w' = w)
  (hCM : Calls Tryz.prog 75 #[.slice A n ca, .slice B m cb] w fun e w' => e = .returned (.int .i64 k) ∧ Below w.heap.size w w')
  (hSA : ∀ w', Below w.heap.size w w' → Calls Tryz.prog 80 #[.slice A n ca, .int .i64 (s : Int), .int .i64 (N : Int)] w' fun e w2 => e = .returned (.slice (some ⟨w'.heap.size, 0, none⟩) N N) ∧ Own w' w2 w'.heap.size N U)
  (hSB : ∀ w', Below w.heap.size w w' → Calls Tryz.prog 80 #[.slice B m cb, .int .i64 (s : Int), .int .i64 (m : Int)] w' fun e w2 => e = .returned (.slice (some ⟨w'.heap.size, 0, none⟩) m m) ∧ Own w' w2 w'.heap.size m V)
  (hLZ : ∀ w', Below w.heap.size w w' → Calls Tryz.prog 79 #[.int .u64 (bd : Int)] w' fun e w2 => e = .returned (.int .i64 (s : Int)) ∧ Below w'.heap.size w' w2)
  (hb : ∃ G o, B = some ⟨G, o, none⟩ ∧ ∀ w', Below w.heap.size w w' → w'.cell? ⟨G, o + m1, none⟩ = some (.int .u64 (bd : Int)))
  (hHD : DivC (dw V m1)) (hT : GTab.Tab w) (hs : s < 64) (hVm : V < pw m) (hVd : dw V m1 ≠ 0) (hUV : U < V * pw q) (lq : nl (U / V) ≤ 8192) (lr : nl (U % V) ≤ 8192) (lqm : U / V < pw q) (lrm : U % V < pw m) (x1 : U / V = a / b) (x2 : U % V / 2^s = a % b)
  (la : n ≤ 8192) (hm2 : 2 ≤ m) (hmn : m ≤ n) (hN : N = n + 1) (hq : q = n + 1 - m) (h1 : m1 = m - 1) :
  Calls Tryz.prog 38 #[.slice A n ca, .slice B m cb] w fun e w' => ∃ v r, e = .returned (.tuple #[v, r, .int .i64 0]) ∧ Res w w' v (a / b) ∧ Res w w' r (a % b) ∧ Below w.heap.size w w' := by
 obtain ⟨⟨q0, q1, q2, q3, q2', q4, q5, q6, q7⟩, ⟨q8, q9, q10, q11⟩, hHS⟩ := sz_w la hm2 hmn hN hq h1
 obtain ⟨G, o, rfl, hz⟩ := hb
 have FA := Lib.hid hFA
 have FB := Lib.hid hFB
 have CM := Lib.hid hCM
 have SA := Lib.hid hSA
 have SB := Lib.hid hSB
 have LZ := Lib.hid hLZ
 have HZ := Lib.hid hz
 have HD := Lib.hid hHD
 have TT := Lib.hid hT
 have HS := Lib.hid hHS
 have HV := Lib.hid (And.intro hs (And.intro hVm (And.intro hVd (And.intro hUV h1))))
 have HQ := Lib.hid (And.intro lq (And.intro lr (And.intro lqm (And.intro lrm (And.intro x1 x2)))))
 clear hz hT hFA hFB hCM hSA hSB hLZ hHD hHS hs hVm hVd hUV lq lr lqm lrm x1 x2 la hm2 hmn hN hq h1
 go_enter Tryz.func38, Tryz.ntmps38
 go_wp2_with fail
 refine FA.out.mono ?_
 rintro e w1 ⟨rfl, rfl⟩
 go_wp2_with fail
 refine FB.out.mono ?_
 rintro e w2 ⟨rfl, rfl⟩
 go_wp2_with fail
 refine CM.out.mono ?_
 rintro e w3 ⟨rfl, hd⟩
 have D := Lib.hid hd
 have zb := HZ.out _ hd
 clear hd
 go_wp2_with fail
 refine (LZ.out _ D.out).mono ?_
 rintro e w4 ⟨rfl, hd⟩
 have D := Lib.hid (on D.out hd)
 clear hd zb
 go_wp2_with fail
 refine (SA.out _ D.out).mono ?_
 rintro e w5 ⟨rfl, ho⟩
 have OU := Lib.hid ho
 have OU0 := Lib.hid (Own.bk ho)
 have D5 := Lib.hid (on D.out ho.below)
 clear ho
 go_wp2_with fail
 refine (SB.out _ D5.out).mono ?_
 rintro e w6 ⟨rfl, ho⟩
 have OU := Lib.hid (Own.next OU.out ho.below)
 have OV := Lib.hid ho
 have D6 := Lib.hid (on D5.out ho.below)
 have NV : Hid (Rw w6 (some ⟨w5.heap.size, 0, none⟩) m m V) := Lib.hid ⟨Nat.le_refl _, .inr ⟨_, _, rfl, Bk.atn (Own.bk ho) (Nat.le_refl _) HV.out.2.1⟩⟩
 have hne := Lib.hid (show w5.heap.size ≠ w4.heap.size from Nat.ne_of_gt (Nat.lt_of_lt_of_le (Bk.lt OU0.out) ho.le))
 have LG := Lib.hid (long_any w6 (some ⟨w5.heap.size, 0, none⟩) m V m q w4.heap.size N N U (Own.bk OU.out) NV.out (off_ne hne.out) HS.out.1 HS.out.2.1 HS.out.2.2.1 (Nat.le_refl _) HS.out.2.2.2.1 (by rw [← HV.out.2.2.2.2]; exact HV.out.2.2.1) HV.out.2.2.2.1 (by rw [← HV.out.2.2.2.2]; exact HD.out) (TT.out.next D6.out) (Nat.ne_of_lt (Nat.lt_of_lt_of_le (World.block_lt_of_cell? _ _ (TT.out.at' 0 (by decide))) D.out.size)))
 clear ho OU0
 go_wp2_with fail
 refine LG.out.mono ?_
 rintro e w7 ⟨rfl, hl⟩
 have D7 := Lib.hid (Exc.below hl.exc D6.out D.out.size)
 have U7 := Lib.hid (Rw.mk (A := some ⟨w4.heap.size, 0, none⟩) (c := N) q11 (.inr ⟨_, _, rfl, Bk.atn hl.u q11 HQ.out.2.2.2.1⟩))
 have Q7 : Hid (Rw w7 (some ⟨w6.heap.size, 0, none⟩) q q (U / V)) := Lib.hid ⟨Nat.le_refl _, .inr ⟨_, _, rfl, Bk.atn hl.q (Nat.le_refl _) HQ.out.2.2.1⟩⟩
 clear hl LG
 go_wp2_with fail
 refine (norm_any w7 (some ⟨w4.heap.size, 0, none⟩) m N (U % V) U7.out HS.out.2.2.2.2.1 HQ.out.2.1).mono ?_
 rintro e w8 ⟨v, rfl, ha⟩
 obtain ⟨r8, b8⟩ := res_ans ha
 obtain ⟨⟨A8, c8, rfl, n8, -⟩⟩ := r8
 have N8 := Lib.hid n8
 have Q8 := Lib.hid (Q7.out.next b8)
 have D8 := Lib.hid (on D7.out b8)
 clear ha n8 b8
 go_wp2_with fail
 refine (shr_res w8 A8 c8 (U % V) s N8.out HQ.out.2.1 HV.out.1).mono ?_
 rintro e w9 ⟨v, rfl, r9, b9⟩
 have R9 := Lib.hid (Res.base r9 D8.out)
 have Q9 := Lib.hid (Q8.out.next b9)
 have D9 := Lib.hid (on D8.out b9)
 clear r9 b9
 go_wp2_with fail
 refine (norm_any w9 (some ⟨w6.heap.size, 0, none⟩) q q (U / V) Q9.out HS.out.2.2.2.2.2 HQ.out.1).mono ?_
 rintro e w10 ⟨u, rfl, ha⟩
 obtain ⟨r10, b10⟩ := res_ans ha
 have R10 := Lib.hid (Res.base r10 D9.out)
 have R9 := Lib.hid (R9.out.next b10)
 have D10 := Lib.hid (on D9.out b10)
 clear ha r10 b10
 rw [HQ.out.2.2.2.2.1] at R10
 rw [HQ.out.2.2.2.2.2] at R9
 go_wp2_with fail
 go_ret3
 exact ⟨u, v, rfl, R10.out, R9.out, D10.out⟩
theorem quoRem_long (w : World) (A B : Option Addr) (ca cb a b : Nat) (hA : Nt w A ca a) (hB : Nt w B cb b) (la : nl a ≤ 8192) (hm2 : 2 ≤ nl b) (hle : b ≤ a) (hT : GTab.Tab w) :
  Calls Tryz.prog 38 #[.slice A (nl a) ca, .slice B (nl b) cb] w fun e w' => ∃ v r, e = .returned (.tuple #[v, r, .int .i64 0]) ∧ Res w w' v (a / b) ∧ Res w w' r (a % b) ∧ Below w.heap.size w w' := by
 have hmn : nl b ≤ nl a := nl_mono hle
 have b0 : b ≠ 0 := fun e => by rw [e, nl_zero] at hm2; omega
 have a0 : a ≠ 0 := fun e => by rw [e, nl_zero] at hmn; omega
 have m0 : 0 < nl b := by omega
 have top : dw b (nl b - 1) ≠ 0 := nl_top b0
 have FA := form_any w A ca a hA la
 have FB := form_any w B cb b hB (by omega)
 have CM := cmp_any w A B (nl a) ca a (nl b) cb b hA hB (by omega) (by omega)
 have hc : decide (cm a b < 0) = false := by
  rcases Nat.lt_or_ge b a with h | h
  ·rw [cm_gt h]; rfl
  ·rw [cm_eq (Nat.le_antisymm h hle)]; rfl
 obtain ⟨m1, hm1⟩ : ∃ m1, m1 = nl b - 1 := ⟨_, rfl⟩
 obtain ⟨bd, hbd⟩ : ∃ bd, bd = dw b m1 := ⟨_, rfl⟩
 have hbd2 : bd = dw b (nl b - 1) := by rw [hbd, hm1]
 have bd0 : bd ≠ 0 := by rw [hbd2]; exact top
 have bdl : bd < 18446744073709551616 := by rw [hbd]; exact dw_lt _ _
 obtain ⟨s, hs⟩ : ∃ s, s = 64 - bl bd := ⟨_, rfl⟩
 obtain ⟨s1, s2⟩ := sz_s bd0 bdl hs
 have hV := sz_bl b0 rfl hbd2 s2 m0
 obtain ⟨v1, v2⟩ := sz_nl hV
 have u1 := sz_a a0 rfl s1
 obtain ⟨q, hq⟩ : ∃ q, q = nl a + 1 - nl b := ⟨_, rfl⟩
 have q1 := sz_q (s := s) b0 rfl rfl hmn hq
 obtain ⟨x1, x2⟩ := norm_num (a := a) (b := b) (s := s)
 have SA := fun (w' : World) (d : Below w.heap.size w w') => shifted_any w' A ca a s (nl a + 1) (Nt.next hA d) s1 (Nat.le_succ _) (by omega) u1
 have SB := fun (w' : World) (d : Below w.heap.size w w') => shifted_any w' B cb b s (nl b) (Nt.next hB d) s1 (Nat.le_refl _) (by omega) v2
 have LZ := fun (w' : World) (d : Below w.heap.size w w') => lz_any w' bd bdl (hT.next d)
 rw [← hs] at LZ
 obtain ⟨V, hVe⟩ : ∃ V, V = b * 2^s := ⟨_, rfl⟩
 obtain ⟨U, hUe⟩ : ∃ U, U = a * 2^s := ⟨_, rfl⟩
 rw [← hUe] at SA u1
 rw [← hVe] at SB v1 v2 hV
 rw [← hUe, ← hVe] at x1 x2 q1
 have V0 : V ≠ 0 := fun e => by rw [e, nl_zero] at v1; omega
 have vtop : dw V m1 ≠ 0 := by rw [hm1, ← v1]; exact nl_top V0
 have Vp : 0 < V := Nat.pos_of_ne_zero V0
 have r1 : U % V < pw (nl b) := Nat.lt_trans (Nat.mod_lt _ Vp) v2
 have r2 : U / V < pw q := (Nat.div_lt_iff_lt_mul Vp).2 (by rw [Nat.mul_comm]; exact q1)
 have r3 : nl (U / V) ≤ 8192 := by rw [x1]; exact Nat.le_trans (nl_mono (Nat.div_le_self _ _)) la
 have r4 : nl (U % V) ≤ 8192 := Nat.le_trans (nl_le_iff.2 r1) (Nat.le_trans hmn la)
 have hbx : ∃ G o, B = some ⟨G, o, none⟩ ∧ ∀ w', Below w.heap.size w w' → w'.cell? ⟨G, o + m1, none⟩ = some (.int .u64 (bd : Int)) := by
  rcases hB.row with ⟨_, e, _⟩ | ⟨G, o, e, r⟩
  ·exact absurd e (Nat.ne_of_gt m0)
  ·exact ⟨G, o, e, fun w' d => by rw [(r.next d).cell m1 (by rw [hm1]; exact Nat.sub_lt m0 Nat.one_pos), hbd]⟩
 exact quoRem_core w A B ca cb a b (nl a) (nl b) s V U _ q m1 bd _ hc FA FB CM SA SB LZ hbx (Given.divC _ (dw_lt _ _)) hT s1 v2 vtop q1 r3 r4 r2 r1 x1 x2 la hm2 hmn rfl hq hm1
theorem quoRem_any (w : World) (A B : Option Addr) (ca cb a b : Nat) (hA : Nt w A ca a) (hB : Nt w B cb b) (la : nl a ≤ 8192) (lb : nl b ≤ 8192) (b0 : b ≠ 0) (hT : GTab.Tab w) :
  Calls Tryz.prog 38 #[.slice A (nl a) ca, .slice B (nl b) cb] w fun e w' => ∃ v r, e = .returned (.tuple #[v, r, .int .i64 0]) ∧ Res w w' v (a / b) ∧ Res w w' r (a % b) ∧ Below w.heap.size w w' := by
 rcases Nat.lt_or_ge a b with h | h
 ·exact quoRem_lt w A B ca cb a b hA hB la lb b0 h
 ·by_cases h2 : 2 ≤ nl b
  ·exact quoRem_long w A B ca cb a b hA hB la h2 h hT
  ·have hb : b < 18446744073709551616 := by
    have := nl_lt b
    have h3 := pw_mono (show nl b ≤ 1 by omega)
    rw [pw_one] at h3
    omega
   exact quoRem_one w A B ca cb a b hA hB la b0 hb h hT
end Go.Proofs.YtelfmddcjlocpaaGreatDoor.GZ
end
section
set_option linter.unusedVariables false
namespace Go.Proofs.YtelfmddcjlocpaaGreatDoor.GRt
open Go.RowKit Go.Proofs.YtelfmddcjlocpaaGreatDoorW.PrintWords Go.Proofs.YtelfmddcjlocpaaGreatDoorW.PrintMore Go.Proofs.YtelfmddcjlocpaaGreatDoorW.PrintLast Go.Proofs.YtelfmddcjlocpaaGreatDoor.Num Go.Proofs.YtelfmddcjlocpaaGreatDoor.Ref Go.Proofs.YtelfmddcjlocpaaGreatDoor.GBase Go.Proofs.YtelfmddcjlocpaaGreatDoor.GTh Go.Proofs.YtelfmddcjlocpaaGreatDoor.GA Go.Proofs.YtelfmddcjlocpaaGreatDoor.GB Go.Proofs.YtelfmddcjlocpaaGreatDoor.GC Go.Proofs.YtelfmddcjlocpaaGreatDoor.GG Go.Proofs.YtelfmddcjlocpaaGreatDoor.GH Go.Proofs.YtelfmddcjlocpaaGreatDoor.GI Go.Proofs.YtelfmddcjlocpaaGreatDoor.GJ Go.Proofs.YtelfmddcjlocpaaGreatDoor.GL Go.Proofs.YtelfmddcjlocpaaGreatDoor.GM Go.Proofs.YtelfmddcjlocpaaGreatDoor.GN Go.Proofs.YtelfmddcjlocpaaGreatDoor.GO Go.Proofs.YtelfmddcjlocpaaGreatDoor.GP Go.Proofs.YtelfmddcjlocpaaGreatDoor.GQ Go.Proofs.YtelfmddcjlocpaaGreatDoor.GU Go.Proofs.YtelfmddcjlocpaaGreatDoor.GT Go.Proofs.YtelfmddcjlocpaaGreatDoor.GY Go.Proofs.YtelfmddcjlocpaaGreatDoor.GZ
def isG : Nat → Nat → Nat → Nat
 | 0, _, r => r
 | k + 1, x, r => if (r + x / r) / 2 < r then isG k x ((r + x / r) / 2) else r
def isq (x : Nat) : Nat := if x = 0 then 0 else isG (2^((bl x + 1) / 2)) x (2^((bl x + 1) / 2))
def Fl2 (x s : Nat) : Prop := s * s ≤ x ∧ x < (s + 1) * (s + 1)
theorem newton_ge {x s r : Nat} (h : s * s ≤ x) (hr : 0 < r) : s ≤ (r + x / r) / 2 := by
 rcases Nat.lt_or_ge ((r + x / r) / 2) s with c | c
 ·exfalso
  obtain ⟨q, hq⟩ : ∃ q : Nat, q = x / r := ⟨_, rfl⟩
  rw [← hq] at c
  have h1 : x / r < 2 * s - r := by rw [← hq]; omega
  have h2 : r ≤ 2 * s := by omega
  have h3 : x < (2 * s - r) * r := (Nat.div_lt_iff_lt_mul hr).1 h1
  have h4 : (2 * s - r) * r ≤ s * s := by
   rcases Nat.le_total r s with d | d
   ·obtain ⟨t, rfl⟩ := Nat.exists_eq_add_of_le d
    rw [show 2 * (r + t) - r = r + 2 * t by omega, Nat.add_mul, Nat.mul_add (r + t), Nat.add_mul r, Nat.add_mul r, Nat.mul_comm t r, Nat.mul_assoc 2, Nat.mul_comm t r]
    have := Nat.zero_le (t * t)
    omega
   ·obtain ⟨t, rfl⟩ := Nat.exists_eq_add_of_le d
    have ht : t ≤ s := by omega
    rw [show 2 * s - (s + t) = s - t by omega]
    obtain ⟨u, rfl⟩ := Nat.exists_eq_add_of_le ht
    rw [show t + u - t = u by omega, Nat.mul_add u, Nat.mul_add u, Nat.add_mul t, Nat.mul_add t, Nat.mul_add u, Nat.mul_comm u t]
    have := Nat.zero_le (t * t)
    omega
  omega
 ·exact c
theorem newton_end {x s r : Nat} (h : Fl2 x s) (hr : 0 < r) (hs : s ≤ r) (hn : ¬ (r + x / r) / 2 < r) : r = s := by
 have h1 : r ≤ x / r := by
  obtain ⟨q, hq⟩ : ∃ q : Nat, q = x / r := ⟨_, rfl⟩
  rw [← hq] at hn ⊢
  omega
 have h2 : r * r ≤ x := (Nat.le_div_iff_mul_le hr).1 h1
 rcases Nat.lt_or_ge s r with c | c
 ·have := Nat.mul_self_le_mul_self (show s + 1 ≤ r from c)
  have := h.2; omega
 ·omega
theorem isG_spec {x s : Nat} (h : Fl2 x s) (s0 : 0 < s) : ∀ k r, r ≤ k → s ≤ r → isG k x r = s := by
 intro k
 induction k with
 | zero => intro r h1 h2; omega
 | succ k ih =>
  intro r h1 h2
  rw [isG]
  split
  ·rename_i c
   exact ih _ (by omega) (newton_ge h.1 (by omega))
  ·rename_i c
   exact newton_end h (by omega) h2 c
theorem root_le {x s n : Nat} (h : s * s ≤ x) (hx : x < 2^n) : s ≤ 2^((n + 1) / 2) := by
 rcases Nat.lt_or_ge (2^((n + 1) / 2)) s with c | c
 ·exfalso
  have h1 := Nat.mul_self_le_mul_self (Nat.le_of_lt c)
  rw [← Nat.pow_add] at h1
  have h2 := Nat.pow_le_pow_right (show 0 < 2 by decide) (show n ≤ (n + 1) / 2 + (n + 1) / 2 by omega)
  omega
 ·exact c
theorem ex_root (x : Nat) : ∃ s, Fl2 x s := by
 induction x with
 | zero => exact ⟨0, Nat.le_refl _, by decide⟩
 | succ x ih =>
  obtain ⟨s, h1, h2⟩ := ih
  by_cases c : (s + 1) * (s + 1) ≤ x + 1
  ·refine ⟨s + 1, c, ?_⟩
   have := Nat.mul_self_le_mul_self (show s + 1 ≤ s + 1 + 1 by omega)
   have e : (s + 1 + 1) * (s + 1 + 1) = (s + 1) * (s + 1) + 2 * (s + 1) + 1 := by rw [Nat.add_mul (s + 1) 1, Nat.mul_add (s + 1) (s + 1) 1]; omega
   omega
  ·exact ⟨s, by omega, by omega⟩
theorem isq_spec (x : Nat) : Fl2 x (isq x) := by
 obtain ⟨s, hs⟩ := ex_root x
 unfold isq
 split
 ·rename_i c
  subst c
  exact ⟨Nat.le_refl _, by decide⟩
 ·rename_i c
  have s0 : 0 < s := by
   rcases Nat.eq_zero_or_pos s with d | d
   ·subst d; have := hs.2; omega
   ·exact d
  rw [isG_spec hs s0 _ _ (Nat.le_refl _) (root_le hs.1 (bl_lt x))]
  exact hs
theorem up_ge {a s u k : Nat} (h : s * s ≤ a) (hu : Fl2 (a / 2^(2 * k)) u) : s ≤ (u + 1) * 2^k := by
 rcases Nat.lt_or_ge ((u + 1) * 2^k) s with c | c
 ·exfalso
  have h1 := Nat.mul_self_le_mul_self (Nat.le_of_lt c)
  have e : (u + 1) * 2^k * ((u + 1) * 2^k) = (u + 1) * (u + 1) * 2^(2 * k) := by
   rw [Nat.two_mul, Nat.pow_add]; ac_rfl
  rw [e] at h1
  have h2 := (Nat.div_lt_iff_lt_mul (Nat.two_pow_pos (2 * k))).1 hu.2
  omega
 ·exact c
theorem sqr_any (w : World) (A : Option Addr) (c a : Nat) (hA : Nt w A c a) (la : nl a ≤ 8192) (ls : nl (a * a) ≤ 8192) :
  Calls Tryz.prog 98 #[.slice A (nl a) c] w fun e w' => ∃ v, e = .returned (.tuple #[v, .int .i64 0]) ∧ Res w w' v (a * a) ∧ Below w.heap.size w w' := by
 have M := Lib.hid (mul_all w A A c c a a hA hA la la ls)
 generalize nl a = n at *
 clear hA la ls
 go_enter Tryz.func98, Tryz.ntmps98
 go_wp2_with fail
 refine M.out.mono ?_
 rintro e w1 ⟨v, rfl, h⟩
 have R := Lib.hid (res_ant h)
 clear h
 go_wp2_with fail
 go_ret2
 exact ⟨v, rfl, R.out.1, R.out.2⟩
theorem shl_res (w : World) (A : Option Addr) (c x n : Nat) (h : Nt w A c x) (hx : x ≠ 0) (hl : bl x + n ≤ 524288) : Calls Tryz.prog 37 #[.slice A (nl x) c, .int .i64 (n : Int)] w fun e w' => ∃ v, e = .returned (.tuple #[v, .int .i64 0]) ∧ Res w w' v (x * 2^n) ∧ Below w.heap.size w w' :=
 (shl_any w A c x n h hx hl).mono fun e w' ⟨v, he, ha⟩ => ⟨v, he, (res_ans ha).1, (res_ans ha).2⟩
theorem shr_any2 (w : World) (A : Option Addr) (c x n : Nat) (h : Nt w A c x) (hl : nl x ≤ 8192) (hn : n < 1000000000) : Calls Tryz.prog 82 #[.slice A (nl x) c, .int .i64 (n : Int)] w fun e w' => ∃ v, e = .returned (.tuple #[v, .int .i64 0]) ∧ Res w w' v (x / 2^n) ∧ Below w.heap.size w w' := by
 by_cases hz : n / 64 < nl x
 ·refine (shr_any w A c x n h hl hz).mono fun e w' ⟨v, he, ha⟩ => ?_
  obtain ⟨r, b⟩ := res_ans ha
  exact ⟨v, he, r, b⟩
 ·refine (shr_far w A c x n h hl (by omega) (by omega)).mono fun e w' ⟨he, ha⟩ => ?_
  subst ha
  refine ⟨_, he, ?_, Below.refl _ _⟩
  have hx : x < 2^n := by
   have h1 := bl_le_limbs x
   exact Nat.lt_of_lt_of_le (bl_lt x) (Nat.pow_le_pow_right (by decide) (by omega))
  rw [Nat.div_eq_of_lt hx]
  exact res_nil _ _ _
theorem add_res (w : World) (A B : Option Addr) (ca cb a b : Nat) (hA : Nt w A ca a) (hB : Nt w B cb b) (la : nl a ≤ 8192) (lb : nl b ≤ 8192) (ls : nl (a + b) ≤ 8192) : Calls Tryz.prog 85 #[.slice A (nl a) ca, .slice B (nl b) cb] w fun e w' => ∃ v, e = .returned (.tuple #[v, .int .i64 0]) ∧ Res w w' v (a + b) ∧ Below w.heap.size w w' :=
 (add_any w A B ca cb a b hA hB la lb ls).mono fun e w' ⟨v, he, ha⟩ => ⟨v, he, (res_ans ha).1, (res_ans ha).2⟩
end Go.Proofs.YtelfmddcjlocpaaGreatDoor.GRt
end
