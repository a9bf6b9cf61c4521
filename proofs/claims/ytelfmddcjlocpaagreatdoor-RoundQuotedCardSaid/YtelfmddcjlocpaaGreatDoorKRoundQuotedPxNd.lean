/- nat.DivWord as a given function: plain, and its contract by Px. Conditions: a list in form, at most 8192 limbs; the divisor not nought; math/bits' table is laid. natdiv.QuoRem on naturals of any length. Conditions: at most 8192 limbs; the divisor not nought; math/bits' table is laid. natdiv.QuoRem by a divisor of two limbs or more. Conditions: at most 8192 limbs; the divisor not nought; math/bits' table is laid. natmul.Mul, natdiv.QuoRem and natdiv.Root as given functions of any length: plain, and their contracts by Px. Conditions: lists in form; the divisor not nought; a root of at most 8000 limbs; math/bits' table is laid. -/
import Derived.Test.YtelfmddcjlocpaaGreatDoorKRoundQuotedGN
import Derived.Test.YtelfmddcjlocpaaGreatDoorKRoundQuotedDv
import Derived.Test.YtelfmddcjlocpaaGreatDoorKRoundQuotedPxTz
import Derived.Test.YtelfmddcjlocpaaGreatDoorKRoundQuotedGX
import Derived.Test.YtelfmddcjlocpaaGreatDoorKRoundQuotedGI
import Derived.Test.YtelfmddcjlocpaaGreatDoorKRoundQuotedGivenD
section
set_option linter.unusedVariables false
namespace Go.Proofs.YtelfmddcjlocpaaGreatDoor.Given
open Go Go.RowKit Go.Proofs.YtelfmddcjlocpaaGreatDoorW.PrintWords Go.Proofs.YtelfmddcjlocpaaGreatDoorW.PrintMore Go.Proofs.YtelfmddcjlocpaaGreatDoor.Px Go.Proofs.YtelfmddcjlocpaaGreatDoor.GTab Go.Proofs.YtelfmddcjlocpaaGreatDoor.GTh Go.Proofs.YtelfmddcjlocpaaGreatDoor.GM
theorem divC (y : Nat) (hy : y < 18446744073709551616) : DivC y := by
 intro hi lo w hT h1 h2
 obtain ⟨k, hk⟩ := (Dv.div64_ev hi lo y hy h1 h2).rounds
 have c := PLib.bits_Div64.c hk
 refine (c.2 w (fun _ => False) [.int .u64 (hi : Int), .int .u64 (lo : Int), .int .u64 (y : Int)] hT (fun _ h => h.elim) (.cons rfl (.cons rfl (.cons rfl .nil)))).mono fun e w' ⟨v, x, he, hx, hr, hb⟩ => ?_
 subst hx
 obtain ⟨vs, rfl, hv⟩ := hr
 cases hv with
 | cons a1 hv =>
 cases hv with
 | cons a2 hv =>
 cases hv
 obtain rfl := a1
 obtain rfl := a2
 exact ⟨he, hb⟩
end Go.Proofs.YtelfmddcjlocpaaGreatDoor.Given
end
section
set_option linter.unusedVariables false
namespace Go.Proofs.YtelfmddcjlocpaaGreatDoor.GY
open Go.RowKit Go.Proofs.YtelfmddcjlocpaaGreatDoorW.PrintWords Go.Proofs.YtelfmddcjlocpaaGreatDoorW.PrintMore Go.Proofs.YtelfmddcjlocpaaGreatDoorW.PrintLast Go.Proofs.YtelfmddcjlocpaaGreatDoor.Num Go.Proofs.YtelfmddcjlocpaaGreatDoor.Ref Go.Proofs.YtelfmddcjlocpaaGreatDoor.GBase Go.Proofs.YtelfmddcjlocpaaGreatDoor.GTh Go.Proofs.YtelfmddcjlocpaaGreatDoor.GA Go.Proofs.YtelfmddcjlocpaaGreatDoor.GB Go.Proofs.YtelfmddcjlocpaaGreatDoor.GC Go.Proofs.YtelfmddcjlocpaaGreatDoor.GG Go.Proofs.YtelfmddcjlocpaaGreatDoor.GI Go.Proofs.YtelfmddcjlocpaaGreatDoor.GJ Go.Proofs.YtelfmddcjlocpaaGreatDoor.GL Go.Proofs.YtelfmddcjlocpaaGreatDoor.GM Go.Proofs.YtelfmddcjlocpaaGreatDoor.GN Go.Proofs.YtelfmddcjlocpaaGreatDoor.GO Go.Proofs.YtelfmddcjlocpaaGreatDoor.GP Go.Proofs.YtelfmddcjlocpaaGreatDoor.GQ Go.Proofs.YtelfmddcjlocpaaGreatDoor.GR Go.Proofs.YtelfmddcjlocpaaGreatDoor.GK Go.Proofs.YtelfmddcjlocpaaGreatDoor.GS Go.Proofs.YtelfmddcjlocpaaGreatDoor.GT Go.Proofs.YtelfmddcjlocpaaGreatDoor.GV Go.Proofs.YtelfmddcjlocpaaGreatDoor.GW Go.Proofs.YtelfmddcjlocpaaGreatDoor.GX
structure Res (W w : World) (v : Value) (x : Nat) : Prop where mk :: (ex : ∃ A c, v = .slice A (nl x) c ∧ Nt w A c x ∧ (nl x = 0 ∨ ∀ G o, A = some ⟨G, o, none⟩ → W.heap.size ≤ G))
theorem Res.next {W w w' : World} {v : Value} {x : Nat} (h : Res W w v x) (d : Below w.heap.size w w') : Res W w' v x := by
 obtain ⟨⟨A, c, e, n, f⟩⟩ := h
 exact ⟨⟨A, c, e, n.next d, f⟩⟩
theorem Res.base {W W' w : World} {v : Value} {x : Nat} (h : Res W' w v x) (d : Below W.heap.size W W') : Res W w v x := by
 obtain ⟨⟨A, c, e, n, f⟩⟩ := h
 refine ⟨⟨A, c, e, n, ?_⟩⟩
 rcases f with f | f
 ·exact .inl f
 ·exact .inr fun G o h => Nat.le_trans d.size (f G o h)
theorem res_nil (W w : World) (c : Nat) : Res W w (.slice none 0 c) 0 := ⟨⟨none, c, rfl, ⟨Nat.zero_le _, .inl ⟨trivial, rfl, trivial, rfl⟩⟩, .inl rfl⟩⟩
theorem res_ans {W w : World} {v : Value} {x : Nat} (h : Ans W w v x) : Res W w v x ∧ Below W.heap.size W w := by
 obtain ⟨G, N, e, o, h1, h2⟩ := h.ex
 refine ⟨⟨⟨_, _, e, Bk.nt (Own.bk o) h1 h1, .inr fun G' o' e' => ?_⟩⟩, o.below⟩
 injection e' with e'
 injection e' with e1 e2 e3
 rw [← e1]; exact o.le
theorem res_ant {W w : World} {v : Value} {x : Nat} (h : AnT W w v x) : Res W w v x ∧ Below W.heap.size W w := by
 obtain ⟨⟨G, N, c, e, o, h1, h2, h3⟩⟩ := h
 refine ⟨⟨⟨_, _, e, Bk.nt (Own.bk o) h1 h2, .inr fun G' o' e' => ?_⟩⟩, o.below⟩
 injection e' with e'
 injection e' with e1 e2 e3
 rw [← e1]; exact o.le
theorem row_one {x : Nat} (h : x < 18446744073709551616) : rowOf x 1 = #[.int .u64 (x : Int)] := by
 apply Array.ext_getElem?
 intro j
 by_cases c : j < 1
 ·obtain rfl : j = 0 := by omega
  rw [rowOf_get c]
  have : dw x 0 = x := by unfold dw; rw [pw_zero, Nat.div_one, Nat.mod_eq_of_lt h]
  rw [this]; rfl
 ·rw [Array.getElem?_eq_none (by rw [rowOf_size]; omega), Array.getElem?_eq_none (by show 1 ≤ j; omega)]
theorem word_any (w : World) (x : Nat) (hx : x < 18446744073709551616) : Calls Tryz.prog 78 #[.int .u64 (x : Int)] w fun e w' => ∃ v, e = .returned v ∧ Res w w' v x ∧ Below w.heap.size w w' := by
 by_cases c : x = 0
 ·subst c
  go_enter Tryz.func78, Tryz.ntmps78
  go_wp2_with fail
  go_ret
  exact ⟨_, rfl, res_nil _ _ _, Below.refl _ _⟩
 ·have q0 : ((x : Int) == 0) = false := by simp; omega
  have n1 := nl_one c hx
  have HB : Hid (Bk (w.alloc (Obj.cells #[.int .u64 (x : Int)] 29)) w.heap.size 1 x) := Lib.hid (by unfold Bk; rw [row_one hx]; exact blk_new _ _)
  have HN := Lib.hid n1
  clear hx c n1
  go_enter Tryz.func78, Tryz.ntmps78
  go_wp2_with fail
  go_ret
  exact ⟨.slice (some ⟨w.heap.size, 0, none⟩) 1 1, rfl, ⟨⟨some ⟨w.heap.size, 0, none⟩, 1, by rw [HN.out], Bk.nt HB.out (Nat.le_of_eq HN.out) (Nat.le_of_eq HN.out), .inr fun G o e => by
   injection e with e
   injection e with e1 e2 e3
   rw [← e1]; exact Nat.le_refl _⟩⟩, box _ _⟩
theorem lz_any (w : World) (x : Nat) (hx : x < 18446744073709551616) (hT : GTab.Tab w) : Calls Tryz.prog 79 #[.int .u64 (x : Int)] w fun e w' => e = .returned (.int .i64 ((64 - bl x : Nat) : Int)) ∧ Below w.heap.size w w' := by
 have hk : PLib.bits_LeadingZeros64.f (x : Int) = some (((64 - bl x : Nat) : Int)) := by
  unfold PLib.bits_LeadingZeros64.f Given.bits_Len64.f
  have hb := bl_le64 hx
  rw [if_pos (by omega), Int.toNat_natCast, Option.bind_some, w64 (by omega) (by omega)]
  exact congrArg some (by omega)
 refine ((PLib.bits_LeadingZeros64.c hk).2 w (fun _ => False) [.int .u64 (x : Int)] hT (fun _ h => h.elim) (.cons rfl .nil)).mono fun e w' ⟨v, y, he, hx, hr, hb⟩ => ?_
 subst hx
 obtain rfl := hr
 exact ⟨he, hb⟩
theorem shr_res (w : World) (A : Option Addr) (c x n : Nat) (h : Nt w A c x) (hl : nl x ≤ 8192) (hn : n < 64) : Calls Tryz.prog 82 #[.slice A (nl x) c, .int .i64 (n : Int)] w fun e w' => ∃ v, e = .returned (.tuple #[v, .int .i64 0]) ∧ Res w w' v (x / 2^n) ∧ Below w.heap.size w w' := by
 by_cases hz : n / 64 < nl x
 ·refine (shr_any w A c x n h hl hz).mono fun e w' ⟨v, he, ha⟩ => ?_
  obtain ⟨r, b⟩ := res_ans ha
  exact ⟨v, he, r, b⟩
 ·have x0 : x = 0 := nl_eq_zero.1 (by omega)
  refine (shr_far w A c x n h hl (by omega) (by omega)).mono fun e w' ⟨he, ha⟩ => ?_
  subst ha
  refine ⟨_, he, ?_, Below.refl _ _⟩
  rw [x0, Nat.zero_div]
  exact res_nil _ _ _
theorem quoRem_lt (w : World) (A B : Option Addr) (ca cb a b : Nat) (hA : Nt w A ca a) (hB : Nt w B cb b) (la : nl a ≤ 8192) (lb : nl b ≤ 8192) (b0 : b ≠ 0) (hlt : a < b) :
  Calls Tryz.prog 38 #[.slice A (nl a) ca, .slice B (nl b) cb] w fun e w' => ∃ v r, e = .returned (.tuple #[v, r, .int .i64 0]) ∧ Res w w' v (a / b) ∧ Res w w' r (a % b) ∧ Below w.heap.size w w' := by
 have FA := Lib.hid (form_any w A ca a hA la)
 have FB := Lib.hid (form_any w B cb b hB lb)
 have CM := Lib.hid (cmp_any w A B (nl a) ca a (nl b) cb b hA hB (by omega) (by omega))
 rw [cm_lt hlt] at CM
 have hnb := nl_pos b0
 have NM := Lib.hid (fun (w' : World) (d : Below w.heap.size w w') => norm_any w' A (nl a) ca a (Rw.next hA d) (by omega) la)
 have E := Lib.hid (And.intro (Nat.div_eq_of_lt hlt) (Nat.mod_eq_of_lt hlt))
 have q0 : ((nl b : Int) == 0) = false := by simp; omega
 have q1 : decide ((nl b : Int) = 0) = false := decide_eq_false (by omega)
 generalize nl a = n at *
 generalize nl b = m at *
 clear hA hB la lb b0 hlt hnb
 go_enter Tryz.func38, Tryz.ntmps38
 go_wp2_with fail
 refine FA.out.mono ?_
 rintro e w1 ⟨rfl, rfl⟩
 go_wp2_with fail
 refine FB.out.mono ?_
 rintro e w2 ⟨rfl, rfl⟩
 go_wp2_with fail
 refine CM.out.mono ?_
 rintro e w3 ⟨rfl, hd⟩
 have D := Lib.hid hd
 clear hd
 go_wp2_with fail
 refine (NM.out _ D.out).mono ?_
 rintro e w4 ⟨v, rfl, h⟩
 have R := Lib.hid (res_ans h)
 clear h
 go_wp2_with fail
 go_ret3
 refine ⟨_, v, rfl, ?_, ?_, on D.out R.out.2⟩
 ·rw [E.out.1]; exact res_nil _ _ _
 ·rw [E.out.2]; exact Res.base R.out.1 D.out
theorem quoRem_one (w : World) (A B : Option Addr) (ca cb a b : Nat) (hA : Nt w A ca a) (hB : Nt w B cb b) (la : nl a ≤ 8192) (b0 : b ≠ 0) (hb : b < 18446744073709551616) (hle : b ≤ a) (hT : GTab.Tab w) :
  Calls Tryz.prog 38 #[.slice A (nl a) ca, .slice B (nl b) cb] w fun e w' => ∃ v r, e = .returned (.tuple #[v, r, .int .i64 0]) ∧ Res w w' v (a / b) ∧ Res w w' r (a % b) ∧ Below w.heap.size w w' := by
 have n1 := nl_one b0 hb
 have FA := Lib.hid (form_any w A ca a hA la)
 have FB := Lib.hid (form_any w B cb b hB (by omega))
 have CM := Lib.hid (cmp_any w A B (nl a) ca a (nl b) cb b hA hB (by omega) (by omega))
 have hc : decide (cm a b < 0) = false := by
  rcases Nat.lt_or_ge b a with h | h
  ·rw [cm_gt h]; rfl
  ·rw [cm_eq (Nat.le_antisymm h hle)]; rfl
 obtain ⟨k, hk⟩ : ∃ k, k = cm a b := ⟨_, rfl⟩
 rw [← hk] at CM hc
 have RB := Lib.hid hB
 have DW := Lib.hid (fun (w' : World) (d : Below w.heap.size w w') => divWord_any w' A ca a b (Nt.next hA d) la b0 (Given.divC b hb) (hT.next d))
 have WD := Lib.hid (fun (w' : World) => word_any w' (a % b) (Nat.lt_of_lt_of_le (Nat.mod_lt _ (Nat.pos_of_ne_zero b0)) (Nat.le_of_lt hb)))
 have hrow := hB.row
 rw [n1] at FB CM hrow ⊢
 have d0 : dw b 0 = b := by unfold dw; rw [pw_zero, Nat.div_one, Nat.mod_eq_of_lt hb]
 rcases hrow with ⟨_, e, _⟩ | ⟨G, o, rfl, r⟩
 ·omega
 have HR := Lib.hid r
 have D0 := Lib.hid d0
 generalize nl a = n at *
 generalize a % b = rem at *
 clear hA hB la b0 hb hle hk r d0 n1 hT
 go_enter Tryz.func38, Tryz.ntmps38
 go_wp2_with fail
 refine FA.out.mono ?_
 rintro e w1 ⟨rfl, rfl⟩
 go_wp2_with fail
 refine FB.out.mono ?_
 rintro e w2 ⟨rfl, rfl⟩
 go_wp2_with fail
 refine CM.out.mono ?_
 rintro e w3 ⟨rfl, hd⟩
 have D := Lib.hid hd
 have zb := (HR.out.next hd).cell 0 (by decide)
 rw [D0.out, Nat.add_zero] at zb
 clear hd
 go_wp2_with fail
 refine (DW.out _ D.out).mono ?_
 rintro e w4 ⟨v, rfl, h⟩
 have R := Lib.hid (res_ans h)
 clear h zb
 go_wp2_with fail
 refine (WD.out _).mono ?_
 rintro e w5 ⟨u, rfl, h1, h2⟩
 have R2 := Lib.hid (And.intro h1 h2)
 clear h1 h2
 go_wp2_with fail
 go_ret3
 exact ⟨v, u, rfl, Res.base (Res.next R.out.1 R2.out.2) D.out, Res.base R2.out.1 (on D.out R.out.2), on (on D.out R.out.2) R2.out.2⟩
end Go.Proofs.YtelfmddcjlocpaaGreatDoor.GY
end
section
set_option linter.unusedVariables false
namespace Go.Proofs.YtelfmddcjlocpaaGreatDoor.GZ
open Go.RowKit Go.Proofs.YtelfmddcjlocpaaGreatDoorW.PrintWords Go.Proofs.YtelfmddcjlocpaaGreatDoorW.PrintMore Go.Proofs.YtelfmddcjlocpaaGreatDoorW.PrintLast Go.Proofs.YtelfmddcjlocpaaGreatDoor.Num Go.Proofs.YtelfmddcjlocpaaGreatDoor.Ref Go.Proofs.YtelfmddcjlocpaaGreatDoor.GBase Go.Proofs.YtelfmddcjlocpaaGreatDoor.GTh Go.Proofs.YtelfmddcjlocpaaGreatDoor.GA Go.Proofs.YtelfmddcjlocpaaGreatDoor.GB Go.Proofs.YtelfmddcjlocpaaGreatDoor.GC Go.Proofs.YtelfmddcjlocpaaGreatDoor.GG Go.Proofs.YtelfmddcjlocpaaGreatDoor.GI Go.Proofs.YtelfmddcjlocpaaGreatDoor.GJ Go.Proofs.YtelfmddcjlocpaaGreatDoor.GL Go.Proofs.YtelfmddcjlocpaaGreatDoor.GM Go.Proofs.YtelfmddcjlocpaaGreatDoor.GN Go.Proofs.YtelfmddcjlocpaaGreatDoor.GO Go.Proofs.YtelfmddcjlocpaaGreatDoor.GP Go.Proofs.YtelfmddcjlocpaaGreatDoor.GQ Go.Proofs.YtelfmddcjlocpaaGreatDoor.GR Go.Proofs.YtelfmddcjlocpaaGreatDoor.GK Go.Proofs.YtelfmddcjlocpaaGreatDoor.GS Go.Proofs.YtelfmddcjlocpaaGreatDoor.GT Go.Proofs.YtelfmddcjlocpaaGreatDoor.GV Go.Proofs.YtelfmddcjlocpaaGreatDoor.GW Go.Proofs.YtelfmddcjlocpaaGreatDoor.GX Go.Proofs.YtelfmddcjlocpaaGreatDoor.GY
theorem norm_num {a b s : Nat} : a * 2^s / (b * 2^s) = a / b ∧ a * 2^s % (b * 2^s) / 2^s = a % b := by
 have p := Nat.two_pow_pos s
 refine ⟨Nat.mul_div_mul_right a b p, ?_⟩
 rw [Nat.mul_mod_mul_right, Nat.mul_div_cancel _ p]
theorem sz_s {t s : Nat} (h0 : t ≠ 0) (h : t < 18446744073709551616) (hs : s = 64 - bl t) : s < 64 ∧ bl t + s = 64 := by
 have := bl_pos h0
 have := bl_le64 h
 omega
theorem sz_bl {b s m t : Nat} (b0 : b ≠ 0) (hm : nl b = m) (ht : t = dw b (m - 1)) (hs : bl t + s = 64) (m0 : 0 < m) : bl (b * 2^s) = 64 * m := by
 have h := bl_limbs b0
 rw [hm, ← ht] at h
 rw [bl_mul _ _ b0]
 omega
theorem sz_nl {x m : Nat} (h : bl x = 64 * m) : nl x = m ∧ x < pw m := by
 refine ⟨by unfold nl; omega, ?_⟩
 have := bl_lt x
 rw [h] at this
 exact this
theorem sz_a {a s n : Nat} (a0 : a ≠ 0) (hn : nl a = n) (hs : s < 64) : a * 2^s < pw (n + 1) := by
 have ab := bl_le_limbs a
 rw [hn] at ab
 have h3 : bl (a * 2^s) ≤ 64 * (n + 1) := by rw [bl_mul _ _ a0]; omega
 exact Nat.lt_of_lt_of_le (bl_lt _) (Nat.pow_le_pow_right (by decide) h3)
theorem sz_q {a b s m n q : Nat} (b0 : b ≠ 0) (hm : nl b = m) (hn : nl a = n) (hmn : m ≤ n) (hq : q = n + 1 - m) : a * 2^s < b * 2^s * pw q := by
 have m0 : 0 < m := by rw [← hm]; exact nl_pos b0
 have h4 : pw (m - 1) ≤ b := by rw [← hm]; exact nl_ge b0
 have e : pw q * pw (m - 1) = pw n := by rw [← pw_add]; congr 1; omega
 have h6 := Nat.mul_le_mul_left (pw q) h4
 rw [e] at h6
 have h7 := nl_lt a
 rw [hn] at h7
 rw [show b * 2^s * pw q = pw q * b * 2^s by ac_rfl]
 exact Nat.mul_lt_mul_of_pos_right (Nat.lt_of_lt_of_le h7 h6) (Nat.two_pow_pos s)
theorem sz_w {n m N q m1 : Nat} (la : n ≤ 8192) (hm2 : 2 ≤ m) (hmn : m ≤ n) (hN : N = n + 1) (hq : q = n + 1 - m) (h1 : m1 = m - 1) :
  (((m : Int) == 0) = false ∧ decide ((m : Int) = 0) = false ∧ ((m : Int) == 1) = false ∧ decide ((m : Int) = 1) = false ∧ ¬ m = 1 ∧ IntKind.i64.wrap ((n : Int) + 1) = (N : Int) ∧ wrap64 ((n : Int) + 1) = (N : Int) ∧ IntKind.i64.wrap ((m : Int) - 1) = (m1 : Int) ∧ wrap64 ((m : Int) - 1) = (m1 : Int))
  ∧ ((m1 : Int) < (m : Int) ∧ m1 < m ∧ (m : Int) ≤ (N : Int) ∧ m ≤ N) ∧ (0 < m ∧ 0 < q ∧ N = m + q ∧ N < 1099511627776 ∧ m < 1099511627776 ∧ q < 1099511627776) := by
 refine ⟨⟨by simp; omega, decide_eq_false (by omega), by simp; omega, decide_eq_false (by omega), by omega, ?_, ?_, ?_, ?_⟩, ⟨by omega, by omega, by omega, by omega⟩, by omega, by omega, by omega, by omega, by omega, by omega⟩
 ·rw [IntWalk.i64_in _ (by omega)]; omega
 ·rw [w64 (by omega) (by omega)]; omega
 ·rw [IntWalk.i64_in _ (by omega)]; omega
 ·rw [w64 (by omega) (by omega)]; omega
set_option maxRecDepth 100000 in
set_option maxHeartbeats 1000000 in
theorem quoRem_core (w : World) (A B : Option Addr) (ca cb a b n m s V U N q m1 bd : Nat) (k : Int) (hk : decide (k < 0) = false)
  (hFA : Calls Tryz.prog 73 #[.slice A n ca] w fun e w' => e = .returned (.bool true) ∧ w' = w) (hFB : Calls Tryz.prog 73 #[.slice B m cb] w fun e w' => e = .returned (.bool true) ∧ w' = w)
  (hCM : Calls Tryz.prog 75 #[.slice A n ca, .slice B m cb] w fun e w' => e = .returned (.int .i64 k) ∧ Below w.heap.size w w')
  (hSA : ∀ w', Below w.heap.size w w' → Calls Tryz.prog 80 #[.slice A n ca, .int .i64 (s : Int), .int .i64 (N : Int)] w' fun e w2 => e = .returned (.slice (some ⟨w'.heap.size, 0, none⟩) N N) ∧ Own w' w2 w'.heap.size N U)
  (hSB : ∀ w', Below w.heap.size w w' → Calls Tryz.prog 80 #[.slice B m cb, .int .i64 (s : Int), .int .i64 (m : Int)] w' fun e w2 => e = .returned (.slice (some ⟨w'.heap.size, 0, none⟩) m m) ∧ Own w' w2 w'.heap.size m V)
  (hLZ : ∀ w', Below w.heap.size w w' → Calls Tryz.prog 79 #[.int .u64 (bd : Int)] w' fun e w2 => e = .returned (.int .i64 (s : Int)) ∧ Below w'.heap.size w' w2)
  (hb : ∃ G o, B = some ⟨G, o, none⟩ ∧ ∀ w', Below w.heap.size w w' → w'.cell? ⟨G, o + m1, none⟩ = some (.int .u64 (bd : Int)))
  (hHD : DivC (dw V m1)) (hT : GTab.Tab w) (hs : s < 64) (hVm : V < pw m) (hVd : dw V m1 ≠ 0) (hUV : U < V * pw q) (lq : nl (U / V) ≤ 8192) (lr : nl (U % V) ≤ 8192) (lqm : U / V < pw q) (lrm : U % V < pw m) (x1 : U / V = a / b) (x2 : U % V / 2^s = a % b)
  (la : n ≤ 8192) (hm2 : 2 ≤ m) (hmn : m ≤ n) (hN : N = n + 1) (hq : q = n + 1 - m) (h1 : m1 = m - 1) :
  Calls Tryz.prog 38 #[.slice A n ca, .slice B m cb] w fun e w' => ∃ v r, e = .returned (.tuple #[v, r, .int .i64 0]) ∧ Res w w' v (a / b) ∧ Res w w' r (a % b) ∧ Below w.heap.size w w' := by
 obtain ⟨⟨q0, q1, q2, q3, q2', q4, q5, q6, q7⟩, ⟨q8, q9, q10, q11⟩, hHS⟩ := sz_w la hm2 hmn hN hq h1
 obtain ⟨G, o, rfl, hz⟩ := hb
 have FA := Lib.hid hFA
 have FB := Lib.hid hFB
 have CM := Lib.hid hCM
 have SA := Lib.hid hSA
 have SB := Lib.hid hSB
 have LZ := Lib.hid hLZ
 have HZ := Lib.hid hz
 have HD := Lib.hid hHD
 have TT := Lib.hid hT
 have HS := Lib.hid hHS
 have HV := Lib.hid (And.intro hs (And.intro hVm (And.intro hVd (And.intro hUV h1))))
 have HQ := Lib.hid (And.intro lq (And.intro lr (And.intro lqm (And.intro lrm (And.intro x1 x2)))))
 clear hz hT hFA hFB hCM hSA hSB hLZ hHD hHS hs hVm hVd hUV lq lr lqm lrm x1 x2 la hm2 hmn hN hq h1
 go_enter Tryz.func38, Tryz.ntmps38
 go_wp2_with fail
 refine FA.out.mono ?_
 rintro e w1 ⟨rfl, rfl⟩
 go_wp2_with fail
 refine FB.out.mono ?_
 rintro e w2 ⟨rfl, rfl⟩
 go_wp2_with fail
 refine CM.out.mono ?_
 rintro e w3 ⟨rfl, hd⟩
 have D := Lib.hid hd
 have zb := HZ.out _ hd
 clear hd
 go_wp2_with fail
 refine (LZ.out _ D.out).mono ?_
 rintro e w4 ⟨rfl, hd⟩
 have D := Lib.hid (on D.out hd)
 clear hd zb
 go_wp2_with fail
 refine (SA.out _ D.out).mono ?_
 rintro e w5 ⟨rfl, ho⟩
 have OU := Lib.hid ho
 have OU0 := Lib.hid (Own.bk ho)
 have D5 := Lib.hid (on D.out ho.below)
 clear ho
 go_wp2_with fail
 refine (SB.out _ D5.out).mono ?_
 rintro e w6 ⟨rfl, ho⟩
 have OU := Lib.hid (Own.next OU.out ho.below)
 have OV := Lib.hid ho
 have D6 := Lib.hid (on D5.out ho.below)
 have NV : Hid (Rw w6 (some ⟨w5.heap.size, 0, none⟩) m m V) := Lib.hid ⟨Nat.le_refl _, .inr ⟨_, _, rfl, Bk.atn (Own.bk ho) (Nat.le_refl _) HV.out.2.1⟩⟩
 have hne := Lib.hid (show w5.heap.size ≠ w4.heap.size from Nat.ne_of_gt (Nat.lt_of_lt_of_le (Bk.lt OU0.out) ho.le))
 have LG := Lib.hid (long_any w6 (some ⟨w5.heap.size, 0, none⟩) m V m q w4.heap.size N N U (Own.bk OU.out) NV.out (off_ne hne.out) HS.out.1 HS.out.2.1 HS.out.2.2.1 (Nat.le_refl _) HS.out.2.2.2.1 (by rw [← HV.out.2.2.2.2]; exact HV.out.2.2.1) HV.out.2.2.2.1 (by rw [← HV.out.2.2.2.2]; exact HD.out) (TT.out.next D6.out) (Nat.ne_of_lt (Nat.lt_of_lt_of_le (World.block_lt_of_cell? _ _ (TT.out.at' 0 (by decide))) D.out.size)))
 clear ho OU0
 go_wp2_with fail
 refine LG.out.mono ?_
 rintro e w7 ⟨rfl, hl⟩
 have D7 := Lib.hid (Exc.below hl.exc D6.out D.out.size)
 have U7 := Lib.hid (Rw.mk (A := some ⟨w4.heap.size, 0, none⟩) (c := N) q11 (.inr ⟨_, _, rfl, Bk.atn hl.u q11 HQ.out.2.2.2.1⟩))
 have Q7 : Hid (Rw w7 (some ⟨w6.heap.size, 0, none⟩) q q (U / V)) := Lib.hid ⟨Nat.le_refl _, .inr ⟨_, _, rfl, Bk.atn hl.q (Nat.le_refl _) HQ.out.2.2.1⟩⟩
 clear hl LG
 go_wp2_with fail
 refine (norm_any w7 (some ⟨w4.heap.size, 0, none⟩) m N (U % V) U7.out HS.out.2.2.2.2.1 HQ.out.2.1).mono ?_
 rintro e w8 ⟨v, rfl, ha⟩
 obtain ⟨r8, b8⟩ := res_ans ha
 obtain ⟨⟨A8, c8, rfl, n8, -⟩⟩ := r8
 have N8 := Lib.hid n8
 have Q8 := Lib.hid (Q7.out.next b8)
 have D8 := Lib.hid (on D7.out b8)
 clear ha n8 b8
 go_wp2_with fail
 refine (shr_res w8 A8 c8 (U % V) s N8.out HQ.out.2.1 HV.out.1).mono ?_
 rintro e w9 ⟨v, rfl, r9, b9⟩
 have R9 := Lib.hid (Res.base r9 D8.out)
 have Q9 := Lib.hid (Q8.out.next b9)
 have D9 := Lib.hid (on D8.out b9)
 clear r9 b9
 go_wp2_with fail
 refine (norm_any w9 (some ⟨w6.heap.size, 0, none⟩) q q (U / V) Q9.out HS.out.2.2.2.2.2 HQ.out.1).mono ?_
 rintro e w10 ⟨u, rfl, ha⟩
 obtain ⟨r10, b10⟩ := res_ans ha
 have R10 := Lib.hid (Res.base r10 D9.out)
 have R9 := Lib.hid (R9.out.next b10)
 have D10 := Lib.hid (on D9.out b10)
 clear ha r10 b10
 rw [HQ.out.2.2.2.2.1] at R10
 rw [HQ.out.2.2.2.2.2] at R9
 go_wp2_with fail
 go_ret3
 exact ⟨u, v, rfl, R10.out, R9.out, D10.out⟩
theorem quoRem_long (w : World) (A B : Option Addr) (ca cb a b : Nat) (hA : Nt w A ca a) (hB : Nt w B cb b) (la : nl a ≤ 8192) (hm2 : 2 ≤ nl b) (hle : b ≤ a) (hT : GTab.Tab w) :
  Calls Tryz.prog 38 #[.slice A (nl a) ca, .slice B (nl b) cb] w fun e w' => ∃ v r, e = .returned (.tuple #[v, r, .int .i64 0]) ∧ Res w w' v (a / b) ∧ Res w w' r (a % b) ∧ Below w.heap.size w w' := by
 have hmn : nl b ≤ nl a := nl_mono hle
 have b0 : b ≠ 0 := fun e => by rw [e, nl_zero] at hm2; omega
 have a0 : a ≠ 0 := fun e => by rw [e, nl_zero] at hmn; omega
 have m0 : 0 < nl b := by omega
 have top : dw b (nl b - 1) ≠ 0 := nl_top b0
 have FA := form_any w A ca a hA la
 have FB := form_any w B cb b hB (by omega)
 have CM := cmp_any w A B (nl a) ca a (nl b) cb b hA hB (by omega) (by omega)
 have hc : decide (cm a b < 0) = false := by
  rcases Nat.lt_or_ge b a with h | h
  ·rw [cm_gt h]; rfl
  ·rw [cm_eq (Nat.le_antisymm h hle)]; rfl
 obtain ⟨m1, hm1⟩ : ∃ m1, m1 = nl b - 1 := ⟨_, rfl⟩
 obtain ⟨bd, hbd⟩ : ∃ bd, bd = dw b m1 := ⟨_, rfl⟩
 have hbd2 : bd = dw b (nl b - 1) := by rw [hbd, hm1]
 have bd0 : bd ≠ 0 := by rw [hbd2]; exact top
 have bdl : bd < 18446744073709551616 := by rw [hbd]; exact dw_lt _ _
 obtain ⟨s, hs⟩ : ∃ s, s = 64 - bl bd := ⟨_, rfl⟩
 obtain ⟨s1, s2⟩ := sz_s bd0 bdl hs
 have hV := sz_bl b0 rfl hbd2 s2 m0
 obtain ⟨v1, v2⟩ := sz_nl hV
 have u1 := sz_a a0 rfl s1
 obtain ⟨q, hq⟩ : ∃ q, q = nl a + 1 - nl b := ⟨_, rfl⟩
 have q1 := sz_q (s := s) b0 rfl rfl hmn hq
 obtain ⟨x1, x2⟩ := norm_num (a := a) (b := b) (s := s)
 have SA := fun (w' : World) (d : Below w.heap.size w w') => shifted_any w' A ca a s (nl a + 1) (Nt.next hA d) s1 (Nat.le_succ _) (by omega) u1
 have SB := fun (w' : World) (d : Below w.heap.size w w') => shifted_any w' B cb b s (nl b) (Nt.next hB d) s1 (Nat.le_refl _) (by omega) v2
 have LZ := fun (w' : World) (d : Below w.heap.size w w') => lz_any w' bd bdl (hT.next d)
 rw [← hs] at LZ
 obtain ⟨V, hVe⟩ : ∃ V, V = b * 2^s := ⟨_, rfl⟩
 obtain ⟨U, hUe⟩ : ∃ U, U = a * 2^s := ⟨_, rfl⟩
 rw [← hUe] at SA u1
 rw [← hVe] at SB v1 v2 hV
 rw [← hUe, ← hVe] at x1 x2 q1
 have V0 : V ≠ 0 := fun e => by rw [e, nl_zero] at v1; omega
 have vtop : dw V m1 ≠ 0 := by rw [hm1, ← v1]; exact nl_top V0
 have Vp : 0 < V := Nat.pos_of_ne_zero V0
 have r1 : U % V < pw (nl b) := Nat.lt_trans (Nat.mod_lt _ Vp) v2
 have r2 : U / V < pw q := (Nat.div_lt_iff_lt_mul Vp).2 (by rw [Nat.mul_comm]; exact q1)
 have r3 : nl (U / V) ≤ 8192 := by rw [x1]; exact Nat.le_trans (nl_mono (Nat.div_le_self _ _)) la
 have r4 : nl (U % V) ≤ 8192 := Nat.le_trans (nl_le_iff.2 r1) (Nat.le_trans hmn la)
 have hbx : ∃ G o, B = some ⟨G, o, none⟩ ∧ ∀ w', Below w.heap.size w w' → w'.cell? ⟨G, o + m1, none⟩ = some (.int .u64 (bd : Int)) := by
  rcases hB.row with ⟨_, e, _⟩ | ⟨G, o, e, r⟩
  ·exact absurd e (Nat.ne_of_gt m0)
  ·exact ⟨G, o, e, fun w' d => by rw [(r.next d).cell m1 (by rw [hm1]; exact Nat.sub_lt m0 Nat.one_pos), hbd]⟩
 exact quoRem_core w A B ca cb a b (nl a) (nl b) s V U _ q m1 bd _ hc FA FB CM SA SB LZ hbx (Given.divC _ (dw_lt _ _)) hT s1 v2 vtop q1 r3 r4 r2 r1 x1 x2 la hm2 hmn rfl hq hm1
theorem quoRem_any (w : World) (A B : Option Addr) (ca cb a b : Nat) (hA : Nt w A ca a) (hB : Nt w B cb b) (la : nl a ≤ 8192) (lb : nl b ≤ 8192) (b0 : b ≠ 0) (hT : GTab.Tab w) :
  Calls Tryz.prog 38 #[.slice A (nl a) ca, .slice B (nl b) cb] w fun e w' => ∃ v r, e = .returned (.tuple #[v, r, .int .i64 0]) ∧ Res w w' v (a / b) ∧ Res w w' r (a % b) ∧ Below w.heap.size w w' := by
 rcases Nat.lt_or_ge a b with h | h
 ·exact quoRem_lt w A B ca cb a b hA hB la lb b0 h
 ·by_cases h2 : 2 ≤ nl b
  ·exact quoRem_long w A B ca cb a b hA hB la h2 h hT
  ·have hb : b < 18446744073709551616 := by
    have := nl_lt b
    have h3 := pw_mono (show nl b ≤ 1 by omega)
    rw [pw_one] at h3
    omega
   exact quoRem_one w A B ca cb a b hA hB la b0 hb h hT
end Go.Proofs.YtelfmddcjlocpaaGreatDoor.GZ
end
section
set_option linter.unusedVariables false
namespace Go.Proofs.YtelfmddcjlocpaaGreatDoor.Given
open Go Go.RowKit Go.Proofs.YtelfmddcjlocpaaGreatDoorW.PrintWords Go.Proofs.YtelfmddcjlocpaaGreatDoorW.PrintMore Go.Proofs.YtelfmddcjlocpaaGreatDoor.Px Go.Proofs.YtelfmddcjlocpaaGreatDoor.GTab Go.Proofs.YtelfmddcjlocpaaGreatDoor.GTh Go.Proofs.YtelfmddcjlocpaaGreatDoor.GA Go.Proofs.YtelfmddcjlocpaaGreatDoor.GC Go.Proofs.YtelfmddcjlocpaaGreatDoor.GU Go.Proofs.YtelfmddcjlocpaaGreatDoor.GY Go.Proofs.YtelfmddcjlocpaaGreatDoor.GZ
theorem res_rep {w w' : World} {v : Value} {x : Nat} {S : Nat → Prop} (h : Res w w' v x) (hS : ∀ b, S b → b < w.heap.size) (hx : nl x ≤ 8192) : RepC w' S none' (.sl .u64 (lb x)) v := by
 obtain ⟨⟨A, c, rfl, n, f⟩⟩ := h
 refine ⟨A, c, by rw [lb_len], by rw [lb_len]; exact n.cap, ?_⟩
 by_cases h0 : nl x = 0
 ·left
  rw [nl_eq_zero.1 h0, lb_nil]
 ·right
  rcases n.row with ⟨_, e, _⟩ | ⟨G, o, rfl, r⟩
  ·exact absurd e h0
  refine ⟨G, o, rfl, ⟨fun hs => ?_, by rw [lb_len]; omega⟩, fun j d hj => ?_⟩
  ·have h1 := hS _ hs
   rcases f with f | f
   ·exact h0 f
   ·have := f G o rfl; omega
  ·have hj2 : j < nl x := by
    have := (List.getElem?_eq_some_iff.1 hj).1
    rwa [lb_len] at this
   rw [lb_at hj2] at hj
   obtain rfl := Option.some.inj hj
   exact r.cell j hj2
def natmul_Mul.f (l0 l1 : List Int) : Option (List Int × Int) := if fmL l0 = true ∧ fmL l1 = true ∧ nl (vL l0 * vL l1) ≤ 8192 then some (lb (vL l0 * vL l1), 0) else none
theorem natmul_Mul.c {l0 l1 : List Int} {r : List Int × Int} (h : natmul_Mul.f l0 l1 = some r) : Con Tryz.prog Gw 90 [.s (.sl .u64 l0), .s (.sl .u64 l1)] (· = .tu [.s (.sl .u64 r.1), .s (.i .i64 r.2)]) := by
 unfold natmul_Mul.f at h
 split at h
 ·rename_i c
  have h := Option.some.inj h
  subst h
  refine brg Tryz.func90 (by kernel_rfl) fun w S vs gw hS vs_ => ?_
  obtain ⟨A0, c0, u0, rfl, hc0, hr0, v0⟩ := a_sl vs_
  obtain ⟨A1, c1, u1, rfl, hc1, hr1, v1⟩ := a_sl v0
  obtain rfl := a_nil v1
  obtain ⟨h1, h2, h3⟩ := fmL_iff.1 c.1
  obtain ⟨k1, k2, k3⟩ := fmL_iff.1 c.2.1
  have run := mul_all w A0 A1 c0 c1 (vL l0) (vL l1) (nt_of hr0 hc0 c.1) (nt_of hr1 hc1 c.2.1) (by omega) (by omega) c.2.2
  rw [← h2, ← k2] at run
  refine run.mono fun e w' ⟨v, he, ha⟩ => ?_
  obtain ⟨hR, hb⟩ := res_ant ha
  exact ⟨_, _, he, rfl, ⟨[v, _], rfl, .cons (res_rep hR hS c.2.2) (.cons rfl .nil)⟩, hb⟩
 ·cases h
def natdiv_QuoRem.f (l0 l1 : List Int) : Option (List Int × List Int × Int) := if fmL l0 = true ∧ fmL l1 = true ∧ vL l1 ≠ 0 then some (lb (vL l0 / vL l1), lb (vL l0 % vL l1), 0) else none
theorem natdiv_QuoRem.c {l0 l1 : List Int} {r : List Int × List Int × Int} (h : natdiv_QuoRem.f l0 l1 = some r) : Con Tryz.prog Gw 38 [.s (.sl .u64 l0), .s (.sl .u64 l1)] (· = .tu [.s (.sl .u64 r.1), .s (.sl .u64 r.2.1), .s (.i .i64 r.2.2)]) := by
 unfold natdiv_QuoRem.f at h
 split at h
 ·rename_i c
  have h := Option.some.inj h
  subst h
  refine brg Tryz.func38 (by kernel_rfl) fun w S vs gw hS vs_ => ?_
  obtain ⟨A0, c0, u0, rfl, hc0, hr0, v0⟩ := a_sl vs_
  obtain ⟨A1, c1, u1, rfl, hc1, hr1, v1⟩ := a_sl v0
  obtain rfl := a_nil v1
  obtain ⟨h1, h2, h3⟩ := fmL_iff.1 c.1
  obtain ⟨k1, k2, k3⟩ := fmL_iff.1 c.2.1
  have l0' : nl (vL l0) ≤ 8192 := by omega
  have l1' : nl (vL l1) ≤ 8192 := by omega
  have run := quoRem_any w A0 A1 c0 c1 (vL l0) (vL l1) (nt_of hr0 hc0 c.1) (nt_of hr1 hc1 c.2.1) l0' l1' c.2.2 gw
  rw [← h2, ← k2] at run
  refine run.mono fun e w' ⟨v, r, he, hq, hr, hb⟩ => ?_
  exact ⟨_, _, he, rfl, ⟨[v, r, _], rfl, .cons (res_rep hq hS (Nat.le_trans (nl_mono (Nat.div_le_self _ _)) l0')) (.cons (res_rep hr hS (Nat.le_trans (nl_mono (Nat.mod_le _ _)) l0')) (.cons rfl .nil))⟩, hb⟩
 ·cases h
end Go.Proofs.YtelfmddcjlocpaaGreatDoor.Given
end
