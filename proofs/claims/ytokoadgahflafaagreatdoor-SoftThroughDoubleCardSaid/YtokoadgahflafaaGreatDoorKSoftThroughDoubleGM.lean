/- The given functions' contracts (Given) as contracts of Px. Condition: as there. math/bits.TrailingZeros64 and Len64 as plain functions, their contracts by Px. Condition: math/bits' table is laid. nat.DivWord on naturals of any length. Conditions: at most 8192 limbs; the divisor not nought. -/
import Derived.Test.YtokoadgahflafaaGreatDoorKSoftThroughDoublePxBr
import Derived.Test.YtokoadgahflafaaGreatDoorKSoftThroughDoubleGiven
import Derived.Test.YtokoadgahflafaaGreatDoorKSoftThroughDoubleGL
import Derived.Test.YtokoadgahflafaaGreatDoorKSoftThroughDoubleGivenD
import Derived.OwnWalk
section
set_option linter.unusedVariables false
namespace Go.Proofs.YtokoadgahflafaaGreatDoor.Given
open Go Go.RowKit Go.Proofs.YtokoadgahflafaaGreatDoorW.PrintWords Go.Proofs.YtokoadgahflafaaGreatDoorW.PrintMore Go.Proofs.YtokoadgahflafaaGreatDoor.Px
theorem nat_Bits.c {l0 : List Int} {r : Int} (h : nat_Bits.f l0 = some r) : Con Tryz.prog Gw 117 [.s (.sl .u64 l0)] (· = .s (.i .i64 r)) := by
 refine brg Tryz.func117 (by kernel_rfl) fun w S vs gw hS vs_ => ?_
 obtain ⟨A0, c0, u0, rfl, hc0, hr0, v0⟩ := a_sl vs_
 obtain rfl := a_nil v0
 exact (nat_Bits.calls A0 c0 l0 r w hr0 hc0 h).mono fun e w' ⟨he, hb⟩ => ⟨_, _, he, rfl, rfl, hb⟩
theorem nat_Trail.c {l0 : List Int} {r : Int} (h : nat_Trail.f l0 = some r) : Con Tryz.prog Gw 176 [.s (.sl .u64 l0)] (· = .s (.i .i64 r)) := by
 refine brg Tryz.func176 (by kernel_rfl) fun w S vs gw hS vs_ => ?_
 obtain ⟨A0, c0, u0, rfl, hc0, hr0, v0⟩ := a_sl vs_
 obtain rfl := a_nil v0
 exact (nat_Trail.calls A0 c0 l0 r w hr0 hc0 gw h).mono fun e w' ⟨he, hb⟩ => ⟨_, _, he, rfl, rfl, hb⟩
theorem nat_Cmp.c {l0 : List Int} {l1 : List Int} {r : Int} (h : nat_Cmp.f l0 l1 = some r) : Con Tryz.prog Gw 156 [.s (.sl .u64 l0), .s (.sl .u64 l1)] (· = .s (.i .i64 r)) := by
 refine brg Tryz.func156 (by kernel_rfl) fun w S vs gw hS vs_ => ?_
 obtain ⟨A0, c0, u0, rfl, hc0, hr0, v0⟩ := a_sl vs_
 obtain ⟨A1, c1, u1, rfl, hc1, hr1, v1⟩ := a_sl v0
 obtain rfl := a_nil v1
 exact (nat_Cmp.calls A0 c0 l0 A1 c1 l1 r w hr0 hc0 hr1 hc1 h).mono fun e w' ⟨he, hb⟩ => ⟨_, _, he, rfl, rfl, hb⟩
theorem nat_Shl.c {l0 : List Int} {a1 : Int} {r : List Int × Int} (h : nat_Shl.f l0 a1 = some r) : Con Tryz.prog Gw 118 [.s (.sl .u64 l0), .s (.i .i64 a1)] (· = .tu [.s (.sl .u64 r.1), .s (.i .i64 r.2)]) := by
 refine brg Tryz.func118 (by kernel_rfl) fun w S vs gw hS vs_ => ?_
 obtain ⟨A0, c0, u0, rfl, hc0, hr0, v0⟩ := a_sl vs_
 obtain ⟨u1, rfl, v1⟩ := a_i v0
 obtain rfl := a_nil v1
 exact (nat_Shl.calls A0 c0 l0 a1 r.1 r.2 w hr0 hc0 h).mono fun e w' ⟨v0_, he, hR_v0_, hb⟩ => ⟨_, _, he, rfl, ⟨[v0_, .int .i64 r.2], rfl, (.cons (ofR hR_v0_ hS) (.cons rfl .nil))⟩, hb⟩
theorem nat_Shr.c {l0 : List Int} {a1 : Int} {r : List Int × Int} (h : nat_Shr.f l0 a1 = some r) : Con Tryz.prog Gw 163 [.s (.sl .u64 l0), .s (.i .i64 a1)] (· = .tu [.s (.sl .u64 r.1), .s (.i .i64 r.2)]) := by
 refine brg Tryz.func163 (by kernel_rfl) fun w S vs gw hS vs_ => ?_
 obtain ⟨A0, c0, u0, rfl, hc0, hr0, v0⟩ := a_sl vs_
 obtain ⟨u1, rfl, v1⟩ := a_i v0
 obtain rfl := a_nil v1
 exact (nat_Shr.calls A0 c0 l0 a1 r.1 r.2 w hr0 hc0 h).mono fun e w' ⟨v0_, he, hR_v0_, hb⟩ => ⟨_, _, he, rfl, ⟨[v0_, .int .i64 r.2], rfl, (.cons (ofR hR_v0_ hS) (.cons rfl .nil))⟩, hb⟩
theorem nat_Add.c {l0 : List Int} {l1 : List Int} {r : List Int × Int} (h : nat_Add.f l0 l1 = some r) : Con Tryz.prog Gw 165 [.s (.sl .u64 l0), .s (.sl .u64 l1)] (· = .tu [.s (.sl .u64 r.1), .s (.i .i64 r.2)]) := by
 refine brg Tryz.func165 (by kernel_rfl) fun w S vs gw hS vs_ => ?_
 obtain ⟨A0, c0, u0, rfl, hc0, hr0, v0⟩ := a_sl vs_
 obtain ⟨A1, c1, u1, rfl, hc1, hr1, v1⟩ := a_sl v0
 obtain rfl := a_nil v1
 exact (nat_Add.calls A0 c0 l0 A1 c1 l1 r.1 r.2 w hr0 hc0 hr1 hc1 h).mono fun e w' ⟨v0_, he, hR_v0_, hb⟩ => ⟨_, _, he, rfl, ⟨[v0_, .int .i64 r.2], rfl, (.cons (ofR hR_v0_ hS) (.cons rfl .nil))⟩, hb⟩
theorem nat_Sub.c {l0 : List Int} {l1 : List Int} {r : List Int × Int} (h : nat_Sub.f l0 l1 = some r) : Con Tryz.prog Gw 168 [.s (.sl .u64 l0), .s (.sl .u64 l1)] (· = .tu [.s (.sl .u64 r.1), .s (.i .i64 r.2)]) := by
 refine brg Tryz.func168 (by kernel_rfl) fun w S vs gw hS vs_ => ?_
 obtain ⟨A0, c0, u0, rfl, hc0, hr0, v0⟩ := a_sl vs_
 obtain ⟨A1, c1, u1, rfl, hc1, hr1, v1⟩ := a_sl v0
 obtain rfl := a_nil v1
 exact (nat_Sub.calls A0 c0 l0 A1 c1 l1 r.1 r.2 w hr0 hc0 hr1 hc1 h).mono fun e w' ⟨v0_, he, hR_v0_, hb⟩ => ⟨_, _, he, rfl, ⟨[v0_, .int .i64 r.2], rfl, (.cons (ofR hR_v0_ hS) (.cons rfl .nil))⟩, hb⟩
theorem slices_Clone_uint64_uint64.c {l0 : List Int} {r : List Int} (h : slices_Clone_uint64_uint64.f l0 = some r) : Con Tryz.prog Gw 174 [.s (.sl .u64 l0)] (· = .s (.sl .u64 r)) := by
 refine brg Tryz.func174 (by kernel_rfl) fun w S vs gw hS vs_ => ?_
 obtain ⟨A0, c0, u0, rfl, hc0, hr0, v0⟩ := a_sl vs_
 obtain rfl := a_nil v0
 exact (slices_Clone_uint64_uint64.calls A0 c0 l0 r w hr0 hc0 h).mono fun e w' ⟨v0_, he, hR_v0_, hb⟩ => ⟨_, _, he, rfl, ofR hR_v0_ hS, hb⟩
end Go.Proofs.YtokoadgahflafaaGreatDoor.Given
end
section
set_option linter.unusedVariables false
namespace Go.Proofs.YtokoadgahflafaaGreatDoor.Given
open Go Go.RowKit Go.Proofs.YtokoadgahflafaaGreatDoorW.PrintWords Go.Proofs.YtokoadgahflafaaGreatDoorW.PrintMore Go.Proofs.YtokoadgahflafaaGreatDoor.Px Go.Proofs.YtokoadgahflafaaGreatDoor.GTab Go.Proofs.YtokoadgahflafaaGreatDoor.Ref
def bits_TrailingZeros64.f (a0 : Int) : Option Int := if 0 < a0 ∧ a0 < 18446744073709551616 then some ((tz a0.toNat : Nat) : Int) else none
theorem bits_TrailingZeros64.c {a0 : Int} {r : Int} (h : bits_TrailingZeros64.f a0 = some r) : Con Tryz.prog Gw 131 [.s (.i .u64 a0)] (· = .s (.i .i64 r)) := by
 unfold bits_TrailingZeros64.f at h
 split at h
 ·rename_i hb
  have h := Option.some.inj h
  subst h
  refine brg Tryz.func131 (by kernel_rfl) fun w S vs gw hS vs_ => ?_
  obtain ⟨u0, rfl, v0⟩ := a_i vs_
  obtain rfl := a_nil v0
  obtain ⟨x, rfl⟩ : ∃ x : Nat, a0 = (x : Int) := ⟨a0.toNat, by omega⟩
  rw [Int.toNat_natCast]
  have h0 : x ≠ 0 := by omega
  have e : tz x = Lib.ctz 64 x := tz_eq ((GJ.ctz_spec h0 (by omega)).imp fun _ h => h.1)
  refine (tz_any x (by omega) h0 w gw).mono fun e' w' ⟨he, hw⟩ => ?_
  subst hw
  exact ⟨_, _, he, rfl, by rw [e]; rfl, Below.refl _ _⟩
 ·cases h
def bits_Len64.f (a0 : Int) : Option Int := if 0 ≤ a0 ∧ a0 < 18446744073709551616 then some ((bl a0.toNat : Nat) : Int) else none
theorem bits_Len64.c {a0 : Int} {r : Int} (h : bits_Len64.f a0 = some r) : Con Tryz.prog Gw 132 [.s (.i .u64 a0)] (· = .s (.i .i64 r)) := by
 unfold bits_Len64.f at h
 split at h
 ·rename_i hb
  have h := Option.some.inj h
  subst h
  refine brg Tryz.func132 (by kernel_rfl) fun w S vs gw hS vs_ => ?_
  obtain ⟨u0, rfl, v0⟩ := a_i vs_
  obtain rfl := a_nil v0
  obtain ⟨x, rfl⟩ : ∃ x : Nat, a0 = (x : Int) := ⟨a0.toNat, by omega⟩
  rw [Int.toNat_natCast]
  obtain ⟨k, hk⟩ := (GBase.len_ev x (by omega)).rounds
  refine (PLen.bits_Len64.calls k _ _ w hk).mono fun e' w' he => ?_
  exact ⟨_, _, he.1, rfl, rfl, he.2.below⟩
 ·cases h
end Go.Proofs.YtokoadgahflafaaGreatDoor.Given
end
section
namespace Go.Proofs.YtokoadgahflafaaGreatDoor.GM
open Go.RowKit Go.Proofs.YtokoadgahflafaaGreatDoorW.PrintWords Go.Proofs.YtokoadgahflafaaGreatDoorW.PrintMore Go.Proofs.YtokoadgahflafaaGreatDoorW.PrintLast Go.Proofs.YtokoadgahflafaaGreatDoor.Num Go.Proofs.YtokoadgahflafaaGreatDoor.Ref Go.Proofs.YtokoadgahflafaaGreatDoor.GBase Go.Proofs.YtokoadgahflafaaGreatDoor.GTh Go.Proofs.YtokoadgahflafaaGreatDoor.GA Go.Proofs.YtokoadgahflafaaGreatDoor.GB Go.Proofs.YtokoadgahflafaaGreatDoor.GC
def DivC (y : Nat) : Prop := ∀ (hi lo : Nat) (w : World), GTab.Tab w → hi < y → lo < 18446744073709551616 → Calls Tryz.prog 178 #[.int .u64 (hi : Int), .int .u64 (lo : Int), .int .u64 (y : Int)] w fun e w' =>
 e = .returned (.tuple #[.int .u64 (((hi * 18446744073709551616 + lo) / y : Nat) : Int), .int .u64 (((hi * 18446744073709551616 + lo) % y : Nat) : Int)]) ∧ Below w.heap.size w w'
theorem div_step {a y j S r q r' : Nat} (h1 : S = a / pw (j + 1) / y * pw (j + 1)) (h2 : r = a / pw (j + 1) % y)
  (hq : q = (r * 18446744073709551616 + dw a j) / y) (hr : r' = (r * 18446744073709551616 + dw a j) % y) (y0 : y ≠ 0) :
  S + q * pw j = a / pw j / y * pw j ∧ r' = a / pw j % y ∧ r < y ∧ q < 18446744073709551616 ∧ dw S j = 0 := by
 have hp : 0 < y := Nat.pos_of_ne_zero y0
 have ea : a / pw j = a / pw (j + 1) * 18446744073709551616 + dw a j := by
  unfold dw
  rw [pw_succ, ← Nat.div_div_eq_div_mul]
  have := Nat.div_add_mod (a / pw j) 18446744073709551616
  omega
 have hlt : r < y := by rw [h2]; exact Nat.mod_lt _ hp
 have hd := dw_lt a j
 have h := Nat.div_add_mod (a / pw (j + 1)) y
 obtain ⟨X, hX⟩ : ∃ X, X = a / pw (j + 1) := ⟨_, rfl⟩
 obtain ⟨T, hT⟩ : ∃ T, T = X / y := ⟨_, rfl⟩
 rw [← hX] at h h1 h2 ea
 rw [← hT] at h h1
 rw [← h2] at h
 have e2 : a / pw j = (r * 18446744073709551616 + dw a j) + T * 18446744073709551616 * y := by
  rw [ea, ← h, Nat.mul_comm y T, Nat.add_mul, Nat.mul_right_comm T y]
  omega
 have e3 : a / pw j / y = q + T * 18446744073709551616 := by rw [e2, Nat.add_mul_div_right _ _ hp, hq]
 refine ⟨?_, ?_, hlt, ?_, ?_⟩
 ·rw [e3, h1, pw_succ, Nat.add_mul]
  have : T * (pw j * 18446744073709551616) = T * 18446744073709551616 * pw j := by rw [Nat.mul_right_comm T, Nat.mul_assoc]
  omega
 ·rw [e2, Nat.add_mul_mod_self_right, hr]
 ·rw [hq, Nat.div_lt_iff_lt_mul hp]
  have := Nat.mul_le_mul_right 18446744073709551616 (show r + 1 ≤ y by omega)
  rw [Nat.mul_comm]
  omega
 ·unfold dw
  rw [h1, pw_succ, show T * (pw j * 18446744073709551616) = pw j * (18446744073709551616 * T) by ac_rfl, Nat.mul_div_cancel_left _ (by unfold pw; exact Nat.two_pow_pos _)]
  omega
set_option maxRecDepth 100000 in
set_option maxHeartbeats 400000 in
theorem divWord_any (w : World) (A : Option Addr) (ca a y : Nat) (hA : Nt w A ca a) (la : nl a ≤ 8192) (y0 : y ≠ 0) (HD : DivC y) (hT : GTab.Tab w) : Calls Tryz.prog 158 #[.slice A (nl a) ca, .int .u64 (y : Int)] w fun e w' => ∃ v, e = .returned (.tuple #[v, .int .u64 ((a % y : Nat) : Int), .int .i64 0]) ∧ Ans w w' v (a / y) := by
 have FA := Lib.hid (form_any w A ca a hA la)
 have RA := Lib.hid hA
 generalize hn : nl a = n at *
 have HL := Lib.hid (And.intro hn (And.intro la y0))
 have q0 : ((y : Int) == 0) = false := by rw [beq_eq_false_iff_ne]; omega
 have q2 : IntKind.i64.wrap ((n : Int) - 1) = (n : Int) - 1 := by rw [IntWalk.i64_in _ (by omega)]
 have q3 : wrap64 ((n : Int) - 1) = (n : Int) - 1 := w64 (by omega) (by omega)
 have hbig : n < 1099511627776 := by omega
 have HDh := Lib.hid HD
 have TT := Lib.hid hT
 clear hA la hn y0 HD hT
 go_enter Tryz.func158, Tryz.ntmps158
 go_wp2_with fail
 refine FA.out.mono ?_
 rintro e w1 ⟨rfl, rfl⟩
 go_wp2_with (rw [make_row _ hbig]; go_simp)
 have O0 := Lib.hid (Own.made w1 n)
 go_loopg [8, 9] (n + 1) (fun g lv i wr => ∃ j S r : Nat, j ≤ n ∧ g = j + 1 ∧ i = .int .i64 ((j : Int) - 1) ∧ lv = .int .u64 (r : Int) ∧ S = a / pw j / y * pw j ∧ r = a / pw j % y ∧ Own w1 wr w1.heap.size n S)
 case atStart =>
  have z : a / pw n = 0 := Nat.div_eq_of_lt (nl_le_iff.1 (Nat.le_of_eq HL.out.1))
  exact ⟨n, 0, 0, Nat.le_refl _, rfl, rfl, rfl, by rw [z, Nat.zero_div, Nat.zero_mul], by rw [z, Nat.zero_mod], O0.out⟩
 case round =>
  obtain ⟨j, S, r, hj, rfl, rfl, rfl, e1, e2, ho⟩ := hrel
  have O := Lib.hid ho
  clear ho O0
  rcases Nat.eq_zero_or_pos j with c0 | c0
  ·subst c0
   have l1 : decide ((((0 : Nat) : Int) - 1) ≥ 0) = false := by decide
   have l2 : decide ((0 : Int) ≤ ((0 : Nat) : Int) - 1) = false := by decide
   rw [pw_zero, Nat.div_one, Nat.mul_one] at e1
   rw [pw_zero, Nat.div_one] at e2
   have hq : a / y < pw n := Nat.lt_of_le_of_lt (Nat.div_le_self a y) (nl_le_iff.1 (Nat.le_of_eq HL.out.1))
   rw [e1] at O
   rw [e2]
   have R := Lib.hid (Rw.mk (A := some ⟨w1.heap.size, 0, none⟩) (c := n) (Nat.le_refl _) (.inr ⟨_, _, rfl, O.out.at hq⟩))
   have HT := Lib.hid (told_any _ _ _ _ _ R.out hbig (Nat.le_trans (nl_mono (Nat.div_le_self a y)) (by rw [HL.out.1]; exact HL.out.2.1)))
   have NN := Lib.hid (And.intro (nl_le_iff.2 hq) hbig)
   clear hq e1 e2
   go_wp2_with fail
   refine HT.out.mono ?_
   rintro e w5 ⟨rfl, rfl⟩
   go_wp2_with fail
   go_ret3
   exact ⟨_, rfl, ⟨_, _, rfl, O.out, NN.out.1, NN.out.2⟩⟩
  ·obtain ⟨i, rfl⟩ : ∃ i, j = i + 1 := ⟨j - 1, by omega⟩
   have l0 : (((i + 1 : Nat) : Int) - 1) = (i : Int) := by omega
   rw [l0]
   have l1 : decide ((i : Int) ≥ 0) = true := decide_eq_true (by omega)
   have l2 : decide ((0 : Int) ≤ (i : Int)) = true := decide_eq_true (by omega)
   have l3 : (i : Int) < (n : Int) := by omega
   have l4 : i < n := by omega
   have l5 : IntKind.i64.wrap ((i : Int) - 1) = (i : Int) - 1 := by rw [IntWalk.i64_in _ (by have := HL.out.2.1; omega)]
   have l6 : wrap64 ((i : Int) - 1) = (i : Int) - 1 := w64 (by omega) (by have := HL.out.2.1; omega)
   have rA := RA.out.next O.out.below
   have iA : nl a = n := HL.out.1
   rcases rA.row with ⟨_, e, _⟩ | ⟨G, o, rfl, qA⟩
   ·omega
   have za := qA.cell i (by omega)
   have zs := O.out.cell (j := i) l4
   have fs := O.out.frozen (j := i)
   obtain ⟨d1, d2, d3, d4, d5⟩ := div_step (j := i) e1 e2 rfl rfl HL.out.2.2
   have CD := Lib.hid (fun (w : World) (h : GTab.Tab w) => HDh.out r (dw a i) w h d3 (dw_lt a i))
   generalize (r * 18446744073709551616 + dw a i) / y = q at *
   generalize (r * 18446744073709551616 + dw a i) % y = r' at *
   have ST := Lib.hid (And.intro d1 (And.intro d2 (And.intro d4 d5)))
   have HJ := Lib.hid hj
   generalize hz1 : dw a i = x1 at *
   generalize hz2 : dw S i = x2 at *
   clear e1 e2 rA iA qA d1 d2 d3 d4 d5 hj c0
   go_wp2_with fail
   refine (CD.out _ (TT.out.next O.out.below)).mono ?_
   rintro e w5 ⟨rfl, hb⟩
   have O1 := Lib.hid (O.out.next hb)
   have zs1 := O1.out.cell (j := i) l4
   have fs1 := O1.out.frozen (j := i)
   rw [hz2] at zs1
   have O2 := Lib.hid (O1.out.put (i := i) (d := q) (y := S + q * pw i) ST.out.2.2.1 (by rw [hz2, ST.out.2.2.2, Nat.zero_mul, Nat.add_zero]))
   clear hb
   go_wp2_with fail
   go_roundg (i + 1)
   case measure => omega
   case rel => exact ⟨i, _, r', by omega, rfl, by go_num, rfl, ST.out.1, ST.out.2.1, O2.out⟩
end Go.Proofs.YtokoadgahflafaaGreatDoor.GM
end
