/- natdiv.long: the school division in place. Conditions: rows of less than 2^40 limbs; Div64's contract for the divisor's top limb. -/
import Derived.Test.YtelfmddcjlocpaaGreatDoorKRoundQuotedGW
import Derived.WalkMore
import Derived.Deep.LoopGhost
set_option linter.unusedVariables false
namespace Go.Proofs.YtelfmddcjlocpaaGreatDoor.GX
open Go.RowKit Go.Proofs.YtelfmddcjlocpaaGreatDoorW.PrintWords Go.Proofs.YtelfmddcjlocpaaGreatDoorW.PrintMore Go.Proofs.YtelfmddcjlocpaaGreatDoorW.PrintLast Go.Proofs.YtelfmddcjlocpaaGreatDoor.Num Go.Proofs.YtelfmddcjlocpaaGreatDoor.Ref Go.Proofs.YtelfmddcjlocpaaGreatDoor.GBase Go.Proofs.YtelfmddcjlocpaaGreatDoor.GTh Go.Proofs.YtelfmddcjlocpaaGreatDoor.GA Go.Proofs.YtelfmddcjlocpaaGreatDoor.GB Go.Proofs.YtelfmddcjlocpaaGreatDoor.GC Go.Proofs.YtelfmddcjlocpaaGreatDoor.GG Go.Proofs.YtelfmddcjlocpaaGreatDoor.GI Go.Proofs.YtelfmddcjlocpaaGreatDoor.GM Go.Proofs.YtelfmddcjlocpaaGreatDoor.GN Go.Proofs.YtelfmddcjlocpaaGreatDoor.GO Go.Proofs.YtelfmddcjlocpaaGreatDoor.GP Go.Proofs.YtelfmddcjlocpaaGreatDoor.GQ Go.Proofs.YtelfmddcjlocpaaGreatDoor.GR Go.Proofs.YtelfmddcjlocpaaGreatDoor.GK Go.Proofs.YtelfmddcjlocpaaGreatDoor.GS Go.Proofs.YtelfmddcjlocpaaGreatDoor.GT Go.Proofs.YtelfmddcjlocpaaGreatDoor.GV Go.Proofs.YtelfmddcjlocpaaGreatDoor.GW
theorem tr_ge {R V n j : Nat} (n0 : 0 < n) (hV : V < pw n) (hd : dw V (n - 1) ≠ 0) (hR : R < V * pw (j + 1)) :
  R / (V * pw j) ≤ tr (dw R (j + n)) (dw R (j + n - 1)) (dw V (n - 1)) ∧ R / (V * pw j) < 18446744073709551616 ∧ R < pw (j + n + 1) := by
 have hRp : R < pw (j + n + 1) := by
  refine Nat.lt_of_lt_of_le hR ?_
  rw [show j + n + 1 = n + (j + 1) by omega, pw_add n]
  exact Nat.mul_le_mul_right _ (Nat.le_of_lt hV)
 have V0 : 0 < V := by
  rcases Nat.eq_zero_or_pos V with h | h
  ·subst h; rw [dw_zero_n] at hd; exact absurd rfl hd
  ·exact h
 have hq : R / (V * pw j) < 18446744073709551616 := by
  rw [Nat.div_lt_iff_lt_mul (Nat.mul_pos V0 (pw_pos j))]
  rw [pw_succ] at hR
  rw [show 18446744073709551616 * (V * pw j) = V * (pw j * 18446744073709551616) by ac_rfl]
  exact hR
 refine ⟨?_, hq, hRp⟩
 unfold tr
 split
 ·omega
 ·have e1 : dw V (n - 1) = V / pw (n - 1) := dw_top (by rw [show n - 1 + 1 = n by omega]; exact hV)
  have e2 : dw R (j + n) * 18446744073709551616 + dw R (j + n - 1) = R / pw (j + n - 1) := by
   have h1 := div_succ R (j + n - 1)
   rw [show j + n - 1 + 1 = j + n by omega] at h1
   have h2 : dw R (j + n) = R / pw (j + n) := dw_top hRp
   rw [h1, h2]; omega
  rw [e2, e1]
  have h3 : V / pw (n - 1) * pw (n - 1) ≤ V := Nat.div_mul_le_self V _
  rw [e1] at hd
  rw [Nat.div_div_eq_div_mul]
  refine Nat.div_le_div_left ?_ (Nat.mul_pos (pw_pos _) (Nat.pos_of_ne_zero hd))
  rw [show j + n - 1 = n - 1 + j by omega, pw_add, show pw (n - 1) * pw j * (V / pw (n - 1)) = V / pw (n - 1) * pw (n - 1) * pw j by ac_rfl]
  exact Nat.mul_le_mul_right _ h3
theorem dig_ok {R D T w : Nat} (h0 : 0 < D) (h : T + w * D = R) (hq : R / D ≤ w) : T < D ∧ w = R / D := by
 have h1 := Nat.div_add_mod R D
 have h2 := Nat.mod_lt R h0
 have e : w ≤ R / D := by
  rw [Nat.le_div_iff_mul_le h0]; omega
 have e2 : w = R / D := Nat.le_antisymm e hq
 refine ⟨?_, e2⟩
 rw [← e2, Nat.mul_comm D] at h1
 omega
theorem dig_hi {R D T w P : Nat} (h0 : 0 < D) (h : T + w * D = R + P) (hT : T < P) : R / D < w := by
 rw [Nat.div_lt_iff_lt_mul h0]; omega
theorem give_st {T T2 c k D R P Y : Nat} (h : T + (k + 1) * (Y * D) = R + P) (t : T2 + c * P = T + Y * D) : T2 + k * (Y * D) + c * P = R + P := by
 rw [Nat.add_mul, Nat.one_mul] at h
 omega
theorem small_of {T R p : Nat} (h : T / pw p = R / pw p) (hR : R < pw p) : T < pw p := by
 rw [Nat.div_eq_of_lt hR] at h
 rcases Nat.lt_or_ge T (pw p) with c | c
 ·exact c
 ·have := Nat.div_pos c (pw_pos p); omega
theorem next_st {U V S R T w j : Nat} (h : R + S * V = U) (hT : T + w * (V * pw j) = R) (hS : ∃ s, S = s * pw (j + 1)) (hw : w < 18446744073709551616) :
  T + (S + w * pw j) * V = U ∧ (∃ s, S + w * pw j = s * pw j) ∧ dw S j = 0 ∧ S + w * pw j = (S + w * pw j) + dw S j * pw j := by
 obtain ⟨s, hs⟩ := hS
 have z : dw S j = 0 := by
  unfold dw
  rw [hs, pw_succ, show s * (pw j * 18446744073709551616) = pw j * (18446744073709551616 * s) by ac_rfl, Nat.mul_div_cancel_left _ (pw_pos j), Nat.mul_mod_right]
 refine ⟨?_, ⟨s * 18446744073709551616 + w, ?_⟩, z, by rw [z, Nat.zero_mul, Nat.add_zero]⟩
 ·rw [Nat.add_mul, show w * pw j * V = w * (V * pw j) by ac_rfl]
  generalize w * (V * pw j) = X at *
  generalize S * V = Y at *
  clear hs z
  omega
 ·rw [hs, Nat.add_mul, pw_succ]; congr 1; ac_rfl
theorem long_sz {n m N j ij ij0 ij1 n1 cu : Nat} (hN : N = n + m) (hj : j < m) (hb : N < 1099511627776) (n0 : 0 < n) (hc : N ≤ cu) (h1 : ij = j + n) (h2 : ij0 = j + n - 1) (h3 : ij1 = j + n + 1) (h4 : n1 = n - 1) :
  (IntKind.i64.wrap ((j : Int) + (n : Int)) = (ij : Int) ∧ wrap64 ((j : Int) + (n : Int)) = (ij : Int) ∧ IntKind.i64.wrap ((ij : Int) - 1) = (ij0 : Int) ∧ wrap64 ((ij : Int) - 1) = (ij0 : Int) ∧ IntKind.i64.wrap ((ij : Int) + 1) = (ij1 : Int) ∧ wrap64 ((ij : Int) + 1) = (ij1 : Int) ∧ IntKind.i64.wrap ((n : Int) - 1) = (n1 : Int) ∧ wrap64 ((n : Int) - 1) = (n1 : Int))
  ∧ (ij < N ∧ ij0 < N ∧ ij1 ≤ N ∧ n1 < n) ∧ ((ij : Int) < (N : Int) ∧ (ij0 : Int) < (N : Int) ∧ (n1 : Int) < (n : Int) ∧ (j : Int) ≤ (ij1 : Int) ∧ (ij1 : Int) ≤ (cu : Int) ∧ (j : Int) < (m : Int) ∧ (ij1 : Int) ≤ (N : Int)) ∧ ij1 - j = n + 1 ∧ j ≤ ij1 ∧ ij1 ≤ cu ∧ wrap64 ((j : Int) - 1) = (j : Int) - 1 ∧ IntKind.i64.wrap ((j : Int) - 1) = (j : Int) - 1 := by
 refine ⟨⟨?_, ?_, ?_, ?_, ?_, ?_, ?_, ?_⟩, ⟨by omega, by omega, by omega, by omega⟩, ⟨by omega, by omega, by omega, by omega, by omega, by omega, by omega⟩, by omega, by omega, by omega, w64 (by omega) (by omega), IntWalk.i64_in _ (by omega)⟩
 ·rw [IntWalk.i64_in _ (by omega)]; omega
 ·rw [w64 (by omega) (by omega)]; omega
 ·rw [IntWalk.i64_in _ (by omega)]; omega
 ·rw [w64 (by omega) (by omega)]; omega
 ·rw [IntWalk.i64_in _ (by omega)]; omega
 ·rw [w64 (by omega) (by omega)]; omega
 ·rw [IntWalk.i64_in _ (by omega)]; omega
 ·rw [w64 (by omega) (by omega)]; omega
theorem Tab.exc {w w' : World} {g : Nat} (h : GTab.Tab w) (e : Exc g w w') (hn : 2 ≠ g) : GTab.Tab w' := by
 have h0 : 2 < w.heap.size := World.block_lt_of_cell? _ _ (h.at' 0 (by decide))
 exact ⟨fun j hj => by rw [e.cell (p := ⟨2, j, none⟩) h0 hn]; exact h.at' j hj⟩
structure LSt (w wr : World) (Gu Nu R Gq m S : Nat) : Prop where mk :: (exc : Exc Gu w wr) (u : Bk wr Gu Nu R) (q : Bk wr Gq m S)
theorem LSt.putq {w wr : World} {Gu Nu R Gq m S S' i d : Nat} (h : LSt w wr Gu Nu R Gq m S) (hq : w.heap.size ≤ Gq) (hne : Gu ≠ Gq) (hd : d < 18446744073709551616) (e : S + d * pw i = S' + dw S i * pw i) : LSt w (wr.setCell ⟨Gq, i, none⟩ (.int .u64 (d : Int))) Gu Nu R Gq m S' := by
 refine ⟨⟨h.exc.os, h.exc.tape, h.exc.output, by simp only [World.setCell, Array.size_modify]; exact h.exc.size, fun k hk hn => ?_⟩, (Below.heap_setCell _ _ _ _ hne).trans h.u, ?_⟩
 ·rw [Below.heap_setCell _ _ _ _ (show k ≠ Gq by omega)]
  exact h.exc.block k hk hn
 ·have := blk_set h.q i (.int .u64 (d : Int))
  unfold Bk
  rwa [rowOf_set d hd e] at this
theorem LSt.next {w wr w' : World} {Gu Nu R Gq m S : Nat} (h : LSt w wr Gu Nu R Gq m S) (d : Below wr.heap.size wr w') : LSt w w' Gu Nu R Gq m S := ⟨h.exc.trans (Exc.of d), h.u.next d, h.q.next d⟩
structure C3 (w : World) (Gu ij ij0 r1 r2 G o dv : Nat) : Prop where mk :: (h : w.cell? ⟨Gu, ij, none⟩ = some (.int .u64 (r1 : Int)) ∧ w.cell? ⟨Gu, ij0, none⟩ = some (.int .u64 (r2 : Int)) ∧ w.cell? ⟨G, o, none⟩ = some (.int .u64 (dv : Int)))
theorem C3.next {w w' : World} {Gu ij ij0 r1 r2 G o dv : Nat} (h : C3 w Gu ij ij0 r1 r2 G o dv) (d : Below w.heap.size w w') : C3 w' Gu ij ij0 r1 r2 G o dv := by
 obtain ⟨a, b, c⟩ := h.h
 have l1 : Gu < w.heap.size := World.block_lt_of_cell? _ _ a
 have l2 : G < w.heap.size := World.block_lt_of_cell? _ _ c
 exact ⟨by rw [d.cell (p := ⟨Gu, ij, none⟩) l1]; exact a, by rw [d.cell (p := ⟨Gu, ij0, none⟩) l1]; exact b, by rw [d.cell (p := ⟨G, o, none⟩) l2]; exact c⟩
set_option maxRecDepth 100000 in
set_option maxHeartbeats 1000000 in
theorem long_any (w : World) (B : Option Addr) (cb V n m Gu Nu cu U : Nat) (hU : Bk w Gu Nu U) (hB : Rw w B n cb V) (hoff : Off Gu B) (n0 : 0 < n) (m0 : 0 < m) (hN : Nu = n + m) (hcu : Nu ≤ cu) (hb : Nu < 1099511627776) (hd : dw V (n - 1) ≠ 0) (hUV : U < V * pw m) (HD : DivC (dw V (n - 1))) (hT : GTab.Tab w) (hTg : 2 ≠ Gu) :
  Calls Tryz.prog 81 #[.slice (some ⟨Gu, 0, none⟩) Nu cu, .slice B n cb] w fun e w' => e = .returned (.slice (some ⟨w.heap.size, 0, none⟩) m m) ∧ LSt w w' Gu Nu (U % V) w.heap.size m (U / V) := by
 have V0 : 0 < V := by
  rcases Nat.eq_zero_or_pos V with h | h
  ·subst h; rw [dw_zero_n] at hd; exact absurd rfl hd
  ·exact h
 have hm : m < 1099511627776 := by omega
 have HM := make_row m hm w
 have hlt := Bk.lt hU
 have L0 : Hid (LSt w (w.alloc (Obj.cells (rowOf 0 m) 29)) Gu Nu U w.heap.size m 0) := Lib.hid ⟨Exc.of (box _ _), Bk.next hU (box _ _), blk_new _ _⟩
 have RB := Lib.hid hB
 have RO := Lib.hid hoff
 have HL := Lib.hid (And.intro n0 (And.intro m0 (And.intro hN (And.intro hcu (And.intro hb (And.intro hd (And.intro hUV (And.intro V0 (And.intro hB.big hlt)))))))))
 have HDh := Lib.hid HD
 have TT := Lib.hid hT
 have TG := Lib.hid hTg
 have q1 : IntKind.i64.wrap ((Nu : Int) - (n : Int)) = (m : Int) := by rw [IntWalk.i64_in _ (by omega)]; omega
 have q2 : wrap64 ((Nu : Int) - (n : Int)) = (m : Int) := by rw [w64 (by omega) (by omega)]; omega
 have q3 : IntKind.i64.wrap ((m : Int) - 1) = (m : Int) - 1 := by rw [IntWalk.i64_in _ (by omega)]
 have q4 : wrap64 ((m : Int) - 1) = (m : Int) - 1 := by rw [w64 (by omega) (by omega)]
 clear hU hB hoff n0 m0 hN hcu hb hd hUV HD hT hTg V0 hm hlt
 go_enter Tryz.func81, Tryz.ntmps81
 go_wp2_with fail
 go_step3
 go_wp2_with fail
 go_step3
 go_wp2_with fail
 go_loopg [7] (m + 1) (fun g iv wr => ∃ j R S : Nat, j ≤ m ∧ g = j + 1 ∧ iv = .int .i64 ((j : Int) - 1) ∧ R + S * V = U ∧ R < V * pw j ∧ (∃ s, S = s * pw j) ∧ LSt w wr Gu Nu R w.heap.size m S)
 case atStart => exact ⟨m, U, 0, Nat.le_refl _, rfl, rfl, by rw [Nat.zero_mul, Nat.add_zero], HL.out.2.2.2.2.2.2.1, ⟨0, by rw [Nat.zero_mul]⟩, L0.out⟩
 case round =>
  obtain ⟨j, R, S, hj, rfl, rfl, e1, e2, e3, hl⟩ := hrel
  have L := Lib.hid hl
  have HE := Lib.hid (And.intro e1 (And.intro e2 e3))
  clear hl L0 e1 e2 e3
  rcases Nat.eq_zero_or_pos j with c0 | c0
  ·subst c0
   have l1 : decide ((((0 : Nat) : Int) - 1) ≥ 0) = false := by decide
   have l2 : decide ((0 : Int) ≤ ((0 : Nat) : Int) - 1) = false := by decide
   have e1 := HE.out.1
   have e2 := HE.out.2.1
   rw [pw_zero, Nat.mul_one] at e2
   have hq : U / V = S := by
    rw [← e1, Nat.add_mul_div_right _ _ HL.out.2.2.2.2.2.2.2.1, Nat.div_eq_of_lt e2, Nat.zero_add]
   have hr : U % V = R := by
    rw [← e1, Nat.add_mul_mod_self_right, Nat.mod_eq_of_lt e2]
   rw [← hq, ← hr] at L
   clear e1 e2 hq hr hj HE
   go_wp2_with fail
   try rw [Exit.noGoto_ret]
   go_ret
   exact ⟨rfl, L.out⟩
  ·obtain ⟨i, rfl⟩ : ∃ i, j = i + 1 := ⟨j - 1, by omega⟩
   have l0 : (((i + 1 : Nat) : Int) - 1) = (i : Int) := by omega
   rw [l0]
   have l1 : decide ((i : Int) ≥ 0) = true := decide_eq_true (by omega)
   have l2 : decide ((0 : Int) ≤ (i : Int)) = true := decide_eq_true (by omega)
   obtain ⟨ij, hij⟩ : ∃ ij, ij = i + n := ⟨_, rfl⟩
   obtain ⟨ij0, hij0⟩ : ∃ ij0, ij0 = i + n - 1 := ⟨_, rfl⟩
   obtain ⟨ij1, hij1⟩ : ∃ ij1, ij1 = i + n + 1 := ⟨_, rfl⟩
   obtain ⟨n1, hn1⟩ : ∃ n1, n1 = n - 1 := ⟨_, rfl⟩
   have x7 : i < m := hj
   obtain ⟨⟨w1, w2, w3, w4, w5, w6, w7, w8⟩, ⟨b1, b2, b3, b4⟩, ⟨x1, x2, x3, x4, x5, x6, x8⟩, x9, x10, x11, x12, x13⟩ := long_sz HL.out.2.2.1 x7 HL.out.2.2.2.2.1 HL.out.1 HL.out.2.2.2.1 hij hij0 hij1 hn1
   have rB := Rw.exc RB.out L.out.exc RO.out
   rcases rB.row with ⟨_, e, _⟩ | ⟨G', oB, rfl, qB⟩
   ·exact absurd e (Nat.ne_of_gt HL.out.1)
   have HQ := Lib.hid qB
   have zv := qB.cell n1 b4
   have z1 := Bk.cell L.out.u b1
   have z2 := Bk.cell L.out.u b2
   have KN := tr_ge (j := i) HL.out.1 HL.out.2.2.2.2.2.2.2.2.1 HL.out.2.2.2.2.2.1 HE.out.2.1
   have DV := HDh.out
   rw [← hij0, ← hij1, ← hij, ← hn1] at KN
   rw [← hn1] at DV
   have T := Lib.hid (fun (wr : World) (h : GTab.Tab wr) => trial_any wr (dw R ij) (dw R ij0) (dw V n1) DV (dw_lt R ij0) h)
   obtain ⟨wd, hwd⟩ : ∃ wd, wd = tr (dw R ij) (dw R ij0) (dw V n1) := ⟨_, rfl⟩
   have hwl : wd < 18446744073709551616 := by rw [hwd]; exact tr_lt (dw_lt R ij0)
   rw [← hwd] at KN
   rw [← hwd] at T
   have HW := Lib.hid (And.intro KN (And.intro hwl (And.intro hij (And.intro hij1 hj))))
   generalize dw R ij = r1 at *
   generalize dw R ij0 = r2 at *
   generalize dw V n1 = dv at *
   clear rB qB KN DV hwd hwl hij hij0 hij1 hn1 hj c0
   go_wp2_with fail
   have TW := Lib.hid (Tab.exc TT.out L.out.exc TG.out)
   have CW0 := Lib.hid (And.intro z1 (And.intro z2 zv))
   have CW : Hid (C3 wr.drew Gu ij ij0 r1 r2 G' (oB + n1) dv) := Lib.hid ⟨CW0.out⟩
   have L2 := Lib.hid (L.out.next (Below.refl _ _).drew)
   have TW2 := Lib.hid (TW.out.next (Below.refl _ _).drew)
   have hGu := Lib.hid (Bk.lt L2.out.u)
   clear z1 z2 zv CW0 L TW
   go_region_held3 (fun w' => w'.cell? ⟨Gu, ij, none⟩ = some (.int .u64 (r1 : Int)) ∧ w'.cell? ⟨Gu, ij0, none⟩ = some (.int .u64 (r2 : Int)) ∧ w'.cell? ⟨G', oB + n1, none⟩ = some (.int .u64 (dv : Int)))
    (exact CW.out.h)
    (first
     | (go_at_call 123; (with_reducible refine (T.out _ TW2.out).mono ?_); rintro e_ wx1 ⟨rfl, hd⟩; have L3 := Lib.hid (L2.out.next hd); have CW := Lib.hid (C3.next CW.out hd); clear hd))
   clear w3 w4 w7 w8 x1 x2 x3 b1 b2 b4 q1 q2 q3 q4 l0 l1 l2 HM CW
   go_wp2_with fail
   have hV := Rw.exc RB.out L3.out.exc RO.out
   have hD : 0 < V * pw i := Nat.mul_pos HL.out.2.2.2.2.2.2.2.1 (pw_pos i)
   have TM := Lib.hid (takeMul_any wx1 (some ⟨G', oB, none⟩) cb V n Gu i Nu (cu - i) R wd L3.out.u hV (.inr RO.out) (by rw [← HW.out.2.2.2.1]; exact b3) HL.out.2.2.2.2.1 HW.out.2.1)
   rw [← HW.out.2.2.2.1] at TM
   have HD := Lib.hid hD
   clear hV hD
   refine TM.out.mono ?_
   rintro e w2 ⟨c, T1, rfl, c1, t1, t2, hi⟩
   have L4 : Hid (LSt w w2 Gu Nu T1 w.heap.size m S) := Lib.hid ⟨L3.out.exc.trans hi.exc, hi.blk, Bk.exc L3.out.q hi.exc (Nat.ne_of_gt HL.out.2.2.2.2.2.2.2.2.2)⟩
   have hsm : T1 < pw ij1 := small_of t2 HW.out.1.2.2
   have t3 : T1 + wd * (V * pw i) = R + c * pw ij1 := by rw [← Nat.mul_assoc]; exact t1
   clear hi TM t1 t2
   have zq := Bk.cell L4.out.q x7
   have fq := blk_frozen L4.out.q i
   have e3 := HE.out.2.2
   rcases Nat.eq_zero_or_pos c with cc | cc
   ·subst cc
    rw [Nat.zero_mul, Nat.add_zero] at t3
    obtain ⟨d1, d2⟩ := dig_ok HD.out t3 HW.out.1.1
    obtain ⟨n1, n2, n3, n4⟩ := next_st HE.out.1 t3 e3 HW.out.2.1
    have L5 := Lib.hid (L4.out.putq (Nat.le_refl _) (Nat.ne_of_lt HL.out.2.2.2.2.2.2.2.2.2) HW.out.2.1 n4)
    have HF := Lib.hid (And.intro n1 (And.intro n2 d1))
    have k1 : (((0 : Nat) : Int) == 0) = true := by decide
    generalize dw S i = s1 at *
    clear n1 n2 n3 n4 d1 d2 t3 hsm e3 c1 L4 L3 L2 TW2
    go_wp2_with fail
    go_roundg (i + 1)
    case measure => omega
    case rel => exact ⟨i, T1, _, Nat.le_of_lt x7, rfl, rfl, HF.out.1, HF.out.2.2, HF.out.2.1, L5.out⟩
   ·obtain rfl : c = 1 := by omega
    rw [Nat.one_mul] at t3
    have hk := dig_hi HD.out t3 hsm
    have HF := Lib.hid (And.intro t3 (And.intro hsm hk))
    have k1 : (((1 : Nat) : Int) == 0) = false := by decide
    clear t3 hsm hk zq fq e3 c1 cc L3 L2 TW2
    go_wp2_with fail
    go_loopg [8] wd (fun g wv wr2 => ∃ k T : Nat, g = k ∧ wv = .int .u64 (k : Int) ∧ k < 18446744073709551616 ∧ T + k * (V * pw i) = R + pw ij1 ∧ T < pw ij1 ∧ R / (V * pw i) < k ∧ LSt w wr2 Gu Nu T w.heap.size m S)
    case atStart => exact ⟨wd, T1, rfl, rfl, HW.out.2.1, HF.out.1, HF.out.2.1, HF.out.2.2, L4.out⟩
    case round =>
     obtain ⟨_, T, rfl, rfl, hk, h1, h2, h3, hl⟩ := hrel
     generalize gk = k at *
     have L5 := Lib.hid hl
     obtain ⟨k', rfl⟩ : ∃ k', k = k' + 1 := ⟨k - 1, (Nat.succ_pred_eq_of_pos (Nat.lt_of_le_of_lt (Nat.zero_le _) h3)).symm⟩
     have HK := Lib.hid (And.intro hk (And.intro h1 (And.intro h2 h3)))
     have y1 : IntKind.u64.wrap (((k' + 1 : Nat) : Int) - 1) = (k' : Int) := by rw [IntKind.wrap_u64]; omega
     have y2 : IntKind.u64.wrap ((k' : Int) + 1 - 1) = (k' : Int) := by rw [IntKind.wrap_u64]; omega
     have y3 : IntKind.u64.wrap (k' : Int) = (k' : Int) := by rw [IntKind.wrap_u64]; omega
     clear hl hk h1 h2 h3 L4 HF
     go_wp2_with fail
     have hV := Rw.exc RB.out L5.out.exc RO.out
     have GB := Lib.hid (giveBack_any _ (some ⟨G', oB, none⟩) cb V n Gu i Nu (cu - i) T L5.out.u hV (.inr RO.out) (by rw [← HW.out.2.2.2.1]; exact b3) HL.out.2.2.2.2.1)
     rw [← HW.out.2.2.2.1] at GB
     clear hV
     refine GB.out.mono ?_
     rintro e w5 ⟨c, T2, rfl, c1, t1, t2, hi⟩
     have L6 : Hid (LSt w w5 Gu Nu T2 w.heap.size m S) := Lib.hid ⟨L5.out.exc.trans hi.exc, hi.blk, Bk.exc L5.out.q hi.exc (Nat.ne_of_gt HL.out.2.2.2.2.2.2.2.2.2)⟩
     have hsm : T2 < pw ij1 := small_of t2 HK.out.2.2.1
     have hst := give_st HK.out.2.1 t1
     clear hi GB t1 t2
     have zq := Bk.cell L6.out.q x7
     have fq := blk_frozen L6.out.q i
     rcases Nat.eq_zero_or_pos c with cc | cc
     ·subst cc
      rw [Nat.zero_mul, Nat.add_zero] at hst
      have hk' := dig_hi HD.out hst hsm
      have HF2 := Lib.hid (And.intro hst (And.intro hsm hk'))
      have k1 : (((0 : Nat) : Int) == 1) = false := by decide
      have kl := HK.out.1
      have HKl := Lib.hid (show k' < 18446744073709551616 by omega)
      clear hst hsm hk' kl zq fq c1
      go_wp2_with fail
      go_roundg k'
      case measure => omega
      case rel => exact ⟨k', T2, rfl, rfl, HKl.out, HF2.out.1, HF2.out.2.1, HF2.out.2.2, L6.out⟩
     ·obtain rfl : c = 1 := by omega
      have kl := HK.out.1
      have HKl : k' < 18446744073709551616 := by omega
      have t3 : T2 + k' * (V * pw i) = R := by
       rw [Nat.one_mul] at hst
       clear HKl kl
       omega
      obtain ⟨d1, d2⟩ := dig_ok HD.out t3 (Nat.le_of_lt_succ HK.out.2.2.2)
      obtain ⟨n1, n2, n3, n4⟩ := next_st HE.out.1 t3 HE.out.2.2 HKl
      have L7 := Lib.hid (L6.out.putq (Nat.le_refl _) (Nat.ne_of_lt HL.out.2.2.2.2.2.2.2.2.2) HKl n4)
      have HF2 := Lib.hid (And.intro n1 (And.intro n2 d1))
      have k1 : (((1 : Nat) : Int) == 1) = true := by decide
      generalize dw S i = s1 at *
      clear n1 n2 n3 n4 d1 d2 t3 hsm hst c1 cc kl HKl L6 L5
      go_wp2_with fail
      go_roundg (i + 1)
      case measure => omega
      case rel => exact ⟨i, T2, _, Nat.le_of_lt x7, rfl, rfl, HF2.out.1, HF2.out.2.2, HF2.out.2.1, L7.out⟩
end Go.Proofs.YtelfmddcjlocpaaGreatDoor.GX
