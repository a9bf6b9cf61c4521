/- nat.DivWord as a given function: plain, and its contract by Px. Conditions: a list in form, at most 8192 limbs; the divisor not nought; math/bits' table is laid. natdiv.QuoRem on naturals of any length. Conditions: at most 8192 limbs; the divisor not nought; math/bits' table is laid. -/
import Derived.Test.YtelfmddcjlocpaaGreatDoorKRoundRootedGN
import Derived.Test.YtelfmddcjlocpaaGreatDoorKRoundRootedDv
import Derived.Test.YtelfmddcjlocpaaGreatDoorKRoundRootedPxTz
import Derived.Test.YtelfmddcjlocpaaGreatDoorKRoundRootedGX
section
set_option linter.unusedVariables false
namespace Go.Proofs.YtelfmddcjlocpaaGreatDoor.Given
open Go Go.RowKit Go.Proofs.YtelfmddcjlocpaaGreatDoorW.PrintWords Go.Proofs.YtelfmddcjlocpaaGreatDoorW.PrintMore Go.Proofs.YtelfmddcjlocpaaGreatDoor.Px Go.Proofs.YtelfmddcjlocpaaGreatDoor.GTab Go.Proofs.YtelfmddcjlocpaaGreatDoor.GTh Go.Proofs.YtelfmddcjlocpaaGreatDoor.GM
theorem divC (y : Nat) (hy : y < 18446744073709551616) : DivC y := by
 intro hi lo w hT h1 h2
 obtain ⟨k, hk⟩ := (Dv.div64_ev hi lo y hy h1 h2).rounds
 have c := PLib.bits_Div64.c hk
 refine (c.2 w (fun _ => False) [.int .u64 (hi : Int), .int .u64 (lo : Int), .int .u64 (y : Int)] hT (fun _ h => h.elim) (.cons rfl (.cons rfl (.cons rfl .nil)))).mono fun e w' ⟨v, x, he, hx, hr, hb⟩ => ?_
 subst hx
 obtain ⟨vs, rfl, hv⟩ := hr
 cases hv with
 | cons a1 hv =>
 cases hv with
 | cons a2 hv =>
 cases hv
 obtain rfl := a1
 obtain rfl := a2
 exact ⟨he, hb⟩
end Go.Proofs.YtelfmddcjlocpaaGreatDoor.Given
end
section
set_option linter.unusedVariables false
namespace Go.Proofs.YtelfmddcjlocpaaGreatDoor.GY
open Go.RowKit Go.Proofs.YtelfmddcjlocpaaGreatDoorW.PrintWords Go.Proofs.YtelfmddcjlocpaaGreatDoorW.PrintMore Go.Proofs.YtelfmddcjlocpaaGreatDoorW.PrintLast Go.Proofs.YtelfmddcjlocpaaGreatDoor.Num Go.Proofs.YtelfmddcjlocpaaGreatDoor.Ref Go.Proofs.YtelfmddcjlocpaaGreatDoor.GBase Go.Proofs.YtelfmddcjlocpaaGreatDoor.GTh Go.Proofs.YtelfmddcjlocpaaGreatDoor.GA Go.Proofs.YtelfmddcjlocpaaGreatDoor.GB Go.Proofs.YtelfmddcjlocpaaGreatDoor.GC Go.Proofs.YtelfmddcjlocpaaGreatDoor.GG Go.Proofs.YtelfmddcjlocpaaGreatDoor.GI Go.Proofs.YtelfmddcjlocpaaGreatDoor.GJ Go.Proofs.YtelfmddcjlocpaaGreatDoor.GL Go.Proofs.YtelfmddcjlocpaaGreatDoor.GM Go.Proofs.YtelfmddcjlocpaaGreatDoor.GN Go.Proofs.YtelfmddcjlocpaaGreatDoor.GO Go.Proofs.YtelfmddcjlocpaaGreatDoor.GP Go.Proofs.YtelfmddcjlocpaaGreatDoor.GQ Go.Proofs.YtelfmddcjlocpaaGreatDoor.GR Go.Proofs.YtelfmddcjlocpaaGreatDoor.GK Go.Proofs.YtelfmddcjlocpaaGreatDoor.GS Go.Proofs.YtelfmddcjlocpaaGreatDoor.GT Go.Proofs.YtelfmddcjlocpaaGreatDoor.GV Go.Proofs.YtelfmddcjlocpaaGreatDoor.GW Go.Proofs.YtelfmddcjlocpaaGreatDoor.GX
structure Res (W w : World) (v : Value) (x : Nat) : Prop where mk :: (ex : ∃ A c, v = .slice A (nl x) c ∧ Nt w A c x ∧ (nl x = 0 ∨ ∀ G o, A = some ⟨G, o, none⟩ → W.heap.size ≤ G))
theorem Res.next {W w w' : World} {v : Value} {x : Nat} (h : Res W w v x) (d : Below w.heap.size w w') : Res W w' v x := by
 obtain ⟨⟨A, c, e, n, f⟩⟩ := h
 exact ⟨⟨A, c, e, n.next d, f⟩⟩
theorem Res.base {W W' w : World} {v : Value} {x : Nat} (h : Res W' w v x) (d : Below W.heap.size W W') : Res W w v x := by
 obtain ⟨⟨A, c, e, n, f⟩⟩ := h
 refine ⟨⟨A, c, e, n, ?_⟩⟩
 rcases f with f | f
 ·exact .inl f
 ·exact .inr fun G o h => Nat.le_trans d.size (f G o h)
theorem res_nil (W w : World) (c : Nat) : Res W w (.slice none 0 c) 0 := ⟨⟨none, c, rfl, ⟨Nat.zero_le _, .inl ⟨trivial, rfl, trivial, rfl⟩⟩, .inl rfl⟩⟩
theorem res_ans {W w : World} {v : Value} {x : Nat} (h : Ans W w v x) : Res W w v x ∧ Below W.heap.size W w := by
 obtain ⟨G, N, e, o, h1, h2⟩ := h.ex
 refine ⟨⟨⟨_, _, e, Bk.nt (Own.bk o) h1 h1, .inr fun G' o' e' => ?_⟩⟩, o.below⟩
 injection e' with e'
 injection e' with e1 e2 e3
 rw [← e1]; exact o.le
theorem res_ant {W w : World} {v : Value} {x : Nat} (h : AnT W w v x) : Res W w v x ∧ Below W.heap.size W w := by
 obtain ⟨⟨G, N, c, e, o, h1, h2, h3⟩⟩ := h
 refine ⟨⟨⟨_, _, e, Bk.nt (Own.bk o) h1 h2, .inr fun G' o' e' => ?_⟩⟩, o.below⟩
 injection e' with e'
 injection e' with e1 e2 e3
 rw [← e1]; exact o.le
theorem row_one {x : Nat} (h : x < 18446744073709551616) : rowOf x 1 = #[.int .u64 (x : Int)] := by
 apply Array.ext_getElem?
 intro j
 by_cases c : j < 1
 ·obtain rfl : j = 0 := by omega
  rw [rowOf_get c]
  have : dw x 0 = x := by unfold dw; rw [pw_zero, Nat.div_one, Nat.mod_eq_of_lt h]
  rw [this]; rfl
 ·rw [Array.getElem?_eq_none (by rw [rowOf_size]; omega), Array.getElem?_eq_none (by show 1 ≤ j; omega)]
theorem word_any (w : World) (x : Nat) (hx : x < 18446744073709551616) : Calls Tryz.prog 78 #[.int .u64 (x : Int)] w fun e w' => ∃ v, e = .returned v ∧ Res w w' v x ∧ Below w.heap.size w w' := by
 by_cases c : x = 0
 ·subst c
  go_enter Tryz.func78, Tryz.ntmps78
  go_wp2_with fail
  go_ret
  exact ⟨_, rfl, res_nil _ _ _, Below.refl _ _⟩
 ·have q0 : ((x : Int) == 0) = false := by simp; omega
  have n1 := nl_one c hx
  have HB : Hid (Bk (w.alloc (Obj.cells #[.int .u64 (x : Int)] 29)) w.heap.size 1 x) := Lib.hid (by unfold Bk; rw [row_one hx]; exact blk_new _ _)
  have HN := Lib.hid n1
  clear hx c n1
  go_enter Tryz.func78, Tryz.ntmps78
  go_wp2_with fail
  go_ret
  exact ⟨.slice (some ⟨w.heap.size, 0, none⟩) 1 1, rfl, ⟨⟨some ⟨w.heap.size, 0, none⟩, 1, by rw [HN.out], Bk.nt HB.out (Nat.le_of_eq HN.out) (Nat.le_of_eq HN.out), .inr fun G o e => by
   injection e with e
   injection e with e1 e2 e3
   rw [← e1]; exact Nat.le_refl _⟩⟩, box _ _⟩
theorem lz_any (w : World) (x : Nat) (hx : x < 18446744073709551616) (hT : GTab.Tab w) : Calls Tryz.prog 79 #[.int .u64 (x : Int)] w fun e w' => e = .returned (.int .i64 ((64 - bl x : Nat) : Int)) ∧ Below w.heap.size w w' := by
 have hk : PLib.bits_LeadingZeros64.f (x : Int) = some (((64 - bl x : Nat) : Int)) := by
  unfold PLib.bits_LeadingZeros64.f Given.bits_Len64.f
  have hb := bl_le64 hx
  rw [if_pos (by omega), Int.toNat_natCast, Option.bind_some, w64 (by omega) (by omega)]
  exact congrArg some (by omega)
 refine ((PLib.bits_LeadingZeros64.c hk).2 w (fun _ => False) [.int .u64 (x : Int)] hT (fun _ h => h.elim) (.cons rfl .nil)).mono fun e w' ⟨v, y, he, hx, hr, hb⟩ => ?_
 subst hx
 obtain rfl := hr
 exact ⟨he, hb⟩
theorem shr_res (w : World) (A : Option Addr) (c x n : Nat) (h : Nt w A c x) (hl : nl x ≤ 8192) (hn : n < 64) : Calls Tryz.prog 82 #[.slice A (nl x) c, .int .i64 (n : Int)] w fun e w' => ∃ v, e = .returned (.tuple #[v, .int .i64 0]) ∧ Res w w' v (x / 2^n) ∧ Below w.heap.size w w' := by
 by_cases hz : n / 64 < nl x
 ·refine (shr_any w A c x n h hl hz).mono fun e w' ⟨v, he, ha⟩ => ?_
  obtain ⟨r, b⟩ := res_ans ha
  exact ⟨v, he, r, b⟩
 ·have x0 : x = 0 := nl_eq_zero.1 (by omega)
  refine (shr_far w A c x n h hl (by omega) (by omega)).mono fun e w' ⟨he, ha⟩ => ?_
  subst ha
  refine ⟨_, he, ?_, Below.refl _ _⟩
  rw [x0, Nat.zero_div]
  exact res_nil _ _ _
theorem quoRem_lt (w : World) (A B : Option Addr) (ca cb a b : Nat) (hA : Nt w A ca a) (hB : Nt w B cb b) (la : nl a ≤ 8192) (lb : nl b ≤ 8192) (b0 : b ≠ 0) (hlt : a < b) :
  Calls Tryz.prog 38 #[.slice A (nl a) ca, .slice B (nl b) cb] w fun e w' => ∃ v r, e = .returned (.tuple #[v, r, .int .i64 0]) ∧ Res w w' v (a / b) ∧ Res w w' r (a % b) ∧ Below w.heap.size w w' := by
 have FA := Lib.hid (form_any w A ca a hA la)
 have FB := Lib.hid (form_any w B cb b hB lb)
 have CM := Lib.hid (cmp_any w A B (nl a) ca a (nl b) cb b hA hB (by omega) (by omega))
 rw [cm_lt hlt] at CM
 have hnb := nl_pos b0
 have NM := Lib.hid (fun (w' : World) (d : Below w.heap.size w w') => norm_any w' A (nl a) ca a (Rw.next hA d) (by omega) la)
 have E := Lib.hid (And.intro (Nat.div_eq_of_lt hlt) (Nat.mod_eq_of_lt hlt))
 have q0 : ((nl b : Int) == 0) = false := by simp; omega
 have q1 : decide ((nl b : Int) = 0) = false := decide_eq_false (by omega)
 generalize nl a = n at *
 generalize nl b = m at *
 clear hA hB la lb b0 hlt hnb
 go_enter Tryz.func38, Tryz.ntmps38
 go_wp2_with fail
 refine FA.out.mono ?_
 rintro e w1 ⟨rfl, rfl⟩
 go_wp2_with fail
 refine FB.out.mono ?_
 rintro e w2 ⟨rfl, rfl⟩
 go_wp2_with fail
 refine CM.out.mono ?_
 rintro e w3 ⟨rfl, hd⟩
 have D := Lib.hid hd
 clear hd
 go_wp2_with fail
 refine (NM.out _ D.out).mono ?_
 rintro e w4 ⟨v, rfl, h⟩
 have R := Lib.hid (res_ans h)
 clear h
 go_wp2_with fail
 go_ret3
 refine ⟨_, v, rfl, ?_, ?_, on D.out R.out.2⟩
 ·rw [E.out.1]; exact res_nil _ _ _
 ·rw [E.out.2]; exact Res.base R.out.1 D.out
theorem quoRem_one (w : World) (A B : Option Addr) (ca cb a b : Nat) (hA : Nt w A ca a) (hB : Nt w B cb b) (la : nl a ≤ 8192) (b0 : b ≠ 0) (hb : b < 18446744073709551616) (hle : b ≤ a) (hT : GTab.Tab w) :
  Calls Tryz.prog 38 #[.slice A (nl a) ca, .slice B (nl b) cb] w fun e w' => ∃ v r, e = .returned (.tuple #[v, r, .int .i64 0]) ∧ Res w w' v (a / b) ∧ Res w w' r (a % b) ∧ Below w.heap.size w w' := by
 have n1 := nl_one b0 hb
 have FA := Lib.hid (form_any w A ca a hA la)
 have FB := Lib.hid (form_any w B cb b hB (by omega))
 have CM := Lib.hid (cmp_any w A B (nl a) ca a (nl b) cb b hA hB (by omega) (by omega))
 have hc : decide (cm a b < 0) = false := by
  rcases Nat.lt_or_ge b a with h | h
  ·rw [cm_gt h]; rfl
  ·rw [cm_eq (Nat.le_antisymm h hle)]; rfl
 obtain ⟨k, hk⟩ : ∃ k, k = cm a b := ⟨_, rfl⟩
 rw [← hk] at CM hc
 have RB := Lib.hid hB
 have DW := Lib.hid (fun (w' : World) (d : Below w.heap.size w w') => divWord_any w' A ca a b (Nt.next hA d) la b0 (Given.divC b hb) (hT.next d))
 have WD := Lib.hid (fun (w' : World) => word_any w' (a % b) (Nat.lt_of_lt_of_le (Nat.mod_lt _ (Nat.pos_of_ne_zero b0)) (Nat.le_of_lt hb)))
 have hrow := hB.row
 rw [n1] at FB CM hrow ⊢
 have d0 : dw b 0 = b := by unfold dw; rw [pw_zero, Nat.div_one, Nat.mod_eq_of_lt hb]
 rcases hrow with ⟨_, e, _⟩ | ⟨G, o, rfl, r⟩
 ·omega
 have HR := Lib.hid r
 have D0 := Lib.hid d0
 generalize nl a = n at *
 generalize a % b = rem at *
 clear hA hB la b0 hb hle hk r d0 n1 hT
 go_enter Tryz.func38, Tryz.ntmps38
 go_wp2_with fail
 refine FA.out.mono ?_
 rintro e w1 ⟨rfl, rfl⟩
 go_wp2_with fail
 refine FB.out.mono ?_
 rintro e w2 ⟨rfl, rfl⟩
 go_wp2_with fail
 refine CM.out.mono ?_
 rintro e w3 ⟨rfl, hd⟩
 have D := Lib.hid hd
 have zb := (HR.out.next hd).cell 0 (by decide)
 rw [D0.out, Nat.add_zero] at zb
 clear hd
 go_wp2_with fail
 refine (DW.out _ D.out).mono ?_
 rintro e w4 ⟨v, rfl, h⟩
 have R := Lib.hid (res_ans h)
 clear h zb
 go_wp2_with fail
 refine (WD.out _).mono ?_
 rintro e w5 ⟨u, rfl, h1, h2⟩
 have R2 := Lib.hid (And.intro h1 h2)
 clear h1 h2
 go_wp2_with fail
 go_ret3
 exact ⟨v, u, rfl, Res.base (Res.next R.out.1 R2.out.2) D.out, Res.base R2.out.1 (on D.out R.out.2), on (on D.out R.out.2) R2.out.2⟩
end Go.Proofs.YtelfmddcjlocpaaGreatDoor.GY
end
