/- The given functions' contracts (Given) as contracts of Px. Condition: as there. math/bits.TrailingZeros64 and Len64 as plain functions, their contracts by Px. Condition: math/bits' table is laid. math's words of floats answer at once (for Px). No condition. natmul.rows in place. Conditions: rows of at most 16384 limbs; math/bits' table is laid. natmul.Mul where the shorter factor has fewer than 40 limbs. Conditions: at most 8192 limbs; math/bits' table is laid. -/
import Derived.Test.YtapikmfckpgjoaaDoorKDdUndoesPxBr
import Derived.Test.YtapikmfckpgjoaaDoorKDdUndoesGiven
import Derived.Test.YtapikmfckpgjoaaDoorKDdUndoesGivenD
import Derived.Laws.Externs
import Derived.WalkKit
import Derived.OwnWalk
import Derived.Lib.Mul64
import Derived.Laws.Bits64b
import Derived.Deep.QuietTactic
import Derived.BigQuiet
import Derived.Tactics2
section
set_option linter.unusedVariables false
namespace Go.Proofs.YtapikmfckpgjoaaDoor.Given
open Go Go.RowKit Go.Proofs.YtapikmfckpgjoaaDoorW.PrintWords Go.Proofs.YtapikmfckpgjoaaDoorW.PrintMore Go.Proofs.YtapikmfckpgjoaaDoor.Px
theorem nat_Bits.c {l0 : List Int} {r : Int} (h : nat_Bits.f l0 = some r) : Con Tryd.prog Gw 83 [.s (.sl .u64 l0)] (· = .s (.i .i64 r)) := by
 refine brg Tryd.func83 (by kernel_rfl) fun w S vs gw hS vs_ => ?_
 obtain ⟨A0, c0, u0, rfl, hc0, hr0, v0⟩ := a_sl vs_
 obtain rfl := a_nil v0
 exact (nat_Bits.calls A0 c0 l0 r w hr0 hc0 h).mono fun e w' ⟨he, hb⟩ => ⟨_, _, he, rfl, rfl, hb⟩
theorem nat_Trail.c {l0 : List Int} {r : Int} (h : nat_Trail.f l0 = some r) : Con Tryd.prog Gw 88 [.s (.sl .u64 l0)] (· = .s (.i .i64 r)) := by
 refine brg Tryd.func88 (by kernel_rfl) fun w S vs gw hS vs_ => ?_
 obtain ⟨A0, c0, u0, rfl, hc0, hr0, v0⟩ := a_sl vs_
 obtain rfl := a_nil v0
 exact (nat_Trail.calls A0 c0 l0 r w hr0 hc0 gw h).mono fun e w' ⟨he, hb⟩ => ⟨_, _, he, rfl, rfl, hb⟩
theorem nat_Cmp.c {l0 : List Int} {l1 : List Int} {r : Int} (h : nat_Cmp.f l0 l1 = some r) : Con Tryd.prog Gw 86 [.s (.sl .u64 l0), .s (.sl .u64 l1)] (· = .s (.i .i64 r)) := by
 refine brg Tryd.func86 (by kernel_rfl) fun w S vs gw hS vs_ => ?_
 obtain ⟨A0, c0, u0, rfl, hc0, hr0, v0⟩ := a_sl vs_
 obtain ⟨A1, c1, u1, rfl, hc1, hr1, v1⟩ := a_sl v0
 obtain rfl := a_nil v1
 exact (nat_Cmp.calls A0 c0 l0 A1 c1 l1 r w hr0 hc0 hr1 hc1 h).mono fun e w' ⟨he, hb⟩ => ⟨_, _, he, rfl, rfl, hb⟩
theorem nat_Shl.c {l0 : List Int} {a1 : Int} {r : List Int × Int} (h : nat_Shl.f l0 a1 = some r) : Con Tryd.prog Gw 85 [.s (.sl .u64 l0), .s (.i .i64 a1)] (· = .tu [.s (.sl .u64 r.1), .s (.i .i64 r.2)]) := by
 refine brg Tryd.func85 (by kernel_rfl) fun w S vs gw hS vs_ => ?_
 obtain ⟨A0, c0, u0, rfl, hc0, hr0, v0⟩ := a_sl vs_
 obtain ⟨u1, rfl, v1⟩ := a_i v0
 obtain rfl := a_nil v1
 exact (nat_Shl.calls A0 c0 l0 a1 r.1 r.2 w hr0 hc0 h).mono fun e w' ⟨v0_, he, hR_v0_, hb⟩ => ⟨_, _, he, rfl, ⟨[v0_, .int .i64 r.2], rfl, (.cons (ofR hR_v0_ hS) (.cons rfl .nil))⟩, hb⟩
theorem nat_Shr.c {l0 : List Int} {a1 : Int} {r : List Int × Int} (h : nat_Shr.f l0 a1 = some r) : Con Tryd.prog Gw 89 [.s (.sl .u64 l0), .s (.i .i64 a1)] (· = .tu [.s (.sl .u64 r.1), .s (.i .i64 r.2)]) := by
 refine brg Tryd.func89 (by kernel_rfl) fun w S vs gw hS vs_ => ?_
 obtain ⟨A0, c0, u0, rfl, hc0, hr0, v0⟩ := a_sl vs_
 obtain ⟨u1, rfl, v1⟩ := a_i v0
 obtain rfl := a_nil v1
 exact (nat_Shr.calls A0 c0 l0 a1 r.1 r.2 w hr0 hc0 h).mono fun e w' ⟨v0_, he, hR_v0_, hb⟩ => ⟨_, _, he, rfl, ⟨[v0_, .int .i64 r.2], rfl, (.cons (ofR hR_v0_ hS) (.cons rfl .nil))⟩, hb⟩
theorem nat_Add.c {l0 : List Int} {l1 : List Int} {r : List Int × Int} (h : nat_Add.f l0 l1 = some r) : Con Tryd.prog Gw 104 [.s (.sl .u64 l0), .s (.sl .u64 l1)] (· = .tu [.s (.sl .u64 r.1), .s (.i .i64 r.2)]) := by
 refine brg Tryd.func104 (by kernel_rfl) fun w S vs gw hS vs_ => ?_
 obtain ⟨A0, c0, u0, rfl, hc0, hr0, v0⟩ := a_sl vs_
 obtain ⟨A1, c1, u1, rfl, hc1, hr1, v1⟩ := a_sl v0
 obtain rfl := a_nil v1
 exact (nat_Add.calls A0 c0 l0 A1 c1 l1 r.1 r.2 w hr0 hc0 hr1 hc1 h).mono fun e w' ⟨v0_, he, hR_v0_, hb⟩ => ⟨_, _, he, rfl, ⟨[v0_, .int .i64 r.2], rfl, (.cons (ofR hR_v0_ hS) (.cons rfl .nil))⟩, hb⟩
theorem nat_Sub.c {l0 : List Int} {l1 : List Int} {r : List Int × Int} (h : nat_Sub.f l0 l1 = some r) : Con Tryd.prog Gw 105 [.s (.sl .u64 l0), .s (.sl .u64 l1)] (· = .tu [.s (.sl .u64 r.1), .s (.i .i64 r.2)]) := by
 refine brg Tryd.func105 (by kernel_rfl) fun w S vs gw hS vs_ => ?_
 obtain ⟨A0, c0, u0, rfl, hc0, hr0, v0⟩ := a_sl vs_
 obtain ⟨A1, c1, u1, rfl, hc1, hr1, v1⟩ := a_sl v0
 obtain rfl := a_nil v1
 exact (nat_Sub.calls A0 c0 l0 A1 c1 l1 r.1 r.2 w hr0 hc0 hr1 hc1 h).mono fun e w' ⟨v0_, he, hR_v0_, hb⟩ => ⟨_, _, he, rfl, ⟨[v0_, .int .i64 r.2], rfl, (.cons (ofR hR_v0_ hS) (.cons rfl .nil))⟩, hb⟩
theorem slices_Clone_uint64_uint64.c {l0 : List Int} {r : List Int} (h : slices_Clone_uint64_uint64.f l0 = some r) : Con Tryd.prog Gw 81 [.s (.sl .u64 l0)] (· = .s (.sl .u64 r)) := by
 refine brg Tryd.func81 (by kernel_rfl) fun w S vs gw hS vs_ => ?_
 obtain ⟨A0, c0, u0, rfl, hc0, hr0, v0⟩ := a_sl vs_
 obtain rfl := a_nil v0
 exact (slices_Clone_uint64_uint64.calls A0 c0 l0 r w hr0 hc0 h).mono fun e w' ⟨v0_, he, hR_v0_, hb⟩ => ⟨_, _, he, rfl, ofR hR_v0_ hS, hb⟩
end Go.Proofs.YtapikmfckpgjoaaDoor.Given
end
section
set_option linter.unusedVariables false
namespace Go.Proofs.YtapikmfckpgjoaaDoor.Given
open Go Go.RowKit Go.Proofs.YtapikmfckpgjoaaDoorW.PrintWords Go.Proofs.YtapikmfckpgjoaaDoorW.PrintMore Go.Proofs.YtapikmfckpgjoaaDoor.Px Go.Proofs.YtapikmfckpgjoaaDoor.GTab Go.Proofs.YtapikmfckpgjoaaDoor.Ref
def bits_Len64.f (a0 : Int) : Option Int := if 0 ≤ a0 ∧ a0 < 18446744073709551616 then some ((bl a0.toNat : Nat) : Int) else none
theorem bits_Len64.c {a0 : Int} {r : Int} (h : bits_Len64.f a0 = some r) : Con Tryd.prog Gw 108 [.s (.i .u64 a0)] (· = .s (.i .i64 r)) := by
 unfold bits_Len64.f at h
 split at h
 ·rename_i hb
  have h := Option.some.inj h
  subst h
  refine brg Tryd.func108 (by kernel_rfl) fun w S vs gw hS vs_ => ?_
  obtain ⟨u0, rfl, v0⟩ := a_i vs_
  obtain rfl := a_nil v0
  obtain ⟨x, rfl⟩ : ∃ x : Nat, a0 = (x : Int) := ⟨a0.toNat, by omega⟩
  rw [Int.toNat_natCast]
  obtain ⟨k, hk⟩ := (GBase.len_ev x (by omega)).rounds
  refine (PLen.bits_Len64.calls k _ _ w hk).mono fun e' w' he => ?_
  exact ⟨_, _, he.1, rfl, rfl, he.2.below⟩
 ·cases h
end Go.Proofs.YtapikmfckpgjoaaDoor.Given
end
section
set_option linter.unusedVariables false
namespace Go.Proofs.YtapikmfckpgjoaaDoor.PLib
open Go Go.RowKit Go.Proofs.YtapikmfckpgjoaaDoorW.PrintWords Go.Proofs.YtapikmfckpgjoaaDoor.Px
theorem pf_from (n : Int) (w : World) : (callFunc 67 #[.int .u64 n]).run Tryd.prog w = .ok (.value (.float .f64 n.toNat)) w := by
 rw [run_callFunc_extern (P := Tryd.prog) (f := 67) (fn := Tryd.f67) (e := Extern.MathFloatBits.float64frombits) (by kernel_rfl) (by kernel_rfl) (by kernel_rfl) (by kernel_rfl) (by kernel_rfl)]
 rfl
theorem pf_bits (b : Nat) (w : World) : (callFunc 50 #[.float .f64 b]).run Tryd.prog w = .ok (.value (.int .u64 b)) w := by
 rw [run_callFunc_extern (P := Tryd.prog) (f := 50) (fn := Tryd.f50) (e := Extern.MathFloatBits.float64bits) (by kernel_rfl) (by kernel_rfl) (by kernel_rfl) (by kernel_rfl) (by kernel_rfl)]
 rfl
theorem fl_from (n : Int) : ExtC Tryd.prog 67 [.s (.i .u64 n)] (.s (.fl .f64 n.toNat)) := by
 intro w T vs hv
 obtain ⟨us, rfl, h2⟩ := a_i hv
 obtain rfl := a_nil h2
 exact ⟨_, pf_from n w, rfl⟩
theorem fl_bits (n : Nat) : ExtC Tryd.prog 50 [.s (.fl .f64 n)] (.s (.i .u64 (n : Int))) := by
 intro w T vs hv
 cases hv with
 | cons h1 h2 =>
  obtain rfl := h1
  obtain rfl := a_nil h2
  exact ⟨_, pf_bits n w, rfl⟩
end Go.Proofs.YtapikmfckpgjoaaDoor.PLib
end
section
set_option linter.unusedVariables false
namespace Go.Proofs.YtapikmfckpgjoaaDoor.GO
open Go.RowKit Go.Proofs.YtapikmfckpgjoaaDoorW.PrintWords Go.Proofs.YtapikmfckpgjoaaDoorW.PrintMore Go.Proofs.YtapikmfckpgjoaaDoorW.PrintLast Go.Proofs.YtapikmfckpgjoaaDoor.Num Go.Proofs.YtapikmfckpgjoaaDoor.Ref Go.Proofs.YtapikmfckpgjoaaDoor.GBase Go.Proofs.YtapikmfckpgjoaaDoor.GTh Go.Proofs.YtapikmfckpgjoaaDoor.GA Go.Proofs.YtapikmfckpgjoaaDoor.GB Go.Proofs.YtapikmfckpgjoaaDoor.GC
theorem ij_wrap {i j : Nat} (h : i + j < 1099511627776) : IntKind.i64.wrap ((i : Int) + (j : Int)) = ((i + j : Nat) : Int) := by rw [IntWalk.i64_in _ (by omega)]; omega
theorem ij_w64 {i j : Nat} (h : i + j < 1099511627776) : wrap64 ((i : Int) + (j : Int)) = ((i + j : Nat) : Int) := by rw [w64 (by omega) (by omega)]; omega
end Go.Proofs.YtapikmfckpgjoaaDoor.GO
end
section
set_option linter.unusedVariables false
namespace Go.Proofs.YtapikmfckpgjoaaDoor.GP
open Go.RowKit Go.Proofs.YtapikmfckpgjoaaDoorW.PrintWords Go.Proofs.YtapikmfckpgjoaaDoorW.PrintMore Go.Proofs.YtapikmfckpgjoaaDoorW.PrintLast Go.Proofs.YtapikmfckpgjoaaDoor.Num Go.Proofs.YtapikmfckpgjoaaDoor.Ref Go.Proofs.YtapikmfckpgjoaaDoor.GBase Go.Proofs.YtapikmfckpgjoaaDoor.GTh Go.Proofs.YtapikmfckpgjoaaDoor.GA Go.Proofs.YtapikmfckpgjoaaDoor.GB Go.Proofs.YtapikmfckpgjoaaDoor.GC Go.Proofs.YtapikmfckpgjoaaDoor.GO
structure AnT (W w : World) (v : Value) (x : Nat) : Prop where mk :: (ex : ∃ G N c, v = .slice (some ⟨G, 0, none⟩) (nl x) c ∧ Own W w G N x ∧ nl x ≤ N ∧ nl x ≤ c ∧ N < 1099511627776)
theorem mtrim_some (w : World) (G o n c x : Nat) (h : At w G o n x) (hc : n ≤ c) (hn : n < 1099511627776) : Calls Tryd.prog 133 #[.slice (some ⟨G, o, none⟩) n c] w fun e w' => e = .returned (.slice (some ⟨G, o, none⟩) (nl x) (nl x)) ∧ w' = w := by
 have HC := Lib.hid h
 have HN := Lib.hid (And.intro hc hn)
 clear h hc hn
 go_enter Tryd.func133, Tryd.ntmps133
 go_wp2_with fail
 go_loopg [3] n (fun g i wr => g ≤ n ∧ nl x ≤ g ∧ i = .int .i64 g ∧ wr = w)
 case atStart => exact ⟨Nat.le_refl _, nl_le_iff.2 HC.out.big, rfl, rfl⟩
 case round =>
  obtain ⟨hg, hx, rfl, rfl⟩ := hrel
  generalize gk = m at *
  have hn := HN.out.2
  have hcc := HN.out.1
  by_cases c0 : m = 0
  ·subst c0
   have e : nl x = 0 := by omega
   clear hg hx hn hcc
   go_wp2_with fail
   go_ret
   exact ⟨by rw [e]; rfl, rfl⟩
  ·obtain ⟨k, hk⟩ : ∃ k, m = k + 1 := ⟨m - 1, by omega⟩
   have q0 : decide (0 < m) = true := decide_eq_true (by omega)
   have q1 : IntKind.i64.wrap ((m : Int) - 1) = (k : Int) := by rw [IntWalk.i64_in _ (by omega)]; omega
   have q2 : (k : Int) < (n : Int) := by omega
   have q3 : decide (k < n) = true := decide_eq_true (by omega)
   have cc := HC.out.cell k (by omega)
   by_cases cd : dw x k = 0
   ·have H := Lib.hid (And.intro hk (show nl x ≤ k from nl_le_iff.2 (lt_of_dw (by rw [← hk]; exact nl_le_iff.1 hx) cd)))
    rw [cd] at cc
    clear hk hx hg c0 cd hn hcc
    go_wp2_with fail
    go_roundg k
    case measure => have := H.out.1; omega
    case rel => exact ⟨by omega, H.out.2, rfl, rfl⟩
   ·have e : nl x = m := by rw [hk]; exact nl_of (by rw [← hk]; exact nl_le_iff.1 hx) cd
    generalize dw x k = d at *
    have q4 : ((d : Int) == 0) = false := by simpa using cd
    have q5 : (m : Int) ≤ (c : Int) := by omega
    have q6 : (m : Int) ≤ (m : Int) := Int.le_refl _
    have E := Lib.hid e
    clear hk hx c0 cd e hn hg
    go_wp2_with fail
    go_ret
    exact ⟨by rw [E.out]; rfl, rfl⟩
def FillC (a b : Nat) : Prop := ∀ (W w : World) (A B : Option Addr) (ca cb G cz : Nat), Own W w G (nl a + nl b) 0 → Nt W A ca a → Nt W B cb b → Calls Tryd.prog 132 #[.slice (some ⟨G, 0, none⟩) (nl a + nl b : Nat) cz, .slice A (nl a) ca, .slice B (nl b) cb] w fun e w' => e = .returned (.tuple #[]) ∧ Own W w' G (nl a + nl b) (a * b)
theorem product_any (w : World) (A B : Option Addr) (ca cb a b : Nat) (hA : Nt w A ca a) (hB : Nt w B cb b) (hF : FillC a b) (hs : nl a + nl b < 1099511627776) :
  Calls Tryd.prog 127 #[.slice A (nl a) ca, .slice B (nl b) cb] w fun e w' => ∃ v, e = .returned v ∧ AnT w w' v (a * b) := by
 have hab : a * b < pw (nl a + nl b) := by
  rw [pw_add]
  have h1 := nl_lt a
  have h2 := nl_lt b
  exact Nat.lt_of_lt_of_le (Nat.mul_lt_mul_of_lt_of_le h1 (Nat.le_of_lt h2) (pw_pos _)) (Nat.le_refl _)
 have F := Lib.hid (fun w' G cz hO => hF w w' A B ca cb G cz hO hA hB)
 clear hA hB hF
 obtain ⟨N, hN⟩ : ∃ N, N = nl a + nl b := ⟨_, rfl⟩
 rw [← hN] at hab hs F
 have q1 : IntKind.i64.wrap (((nl a : Nat) : Int) + ((nl b : Nat) : Int)) = (N : Int) := by rw [ij_wrap (by omega), hN]
 have q2 : wrap64 (((nl a : Nat) : Int) + ((nl b : Nat) : Int)) = (N : Int) := by rw [ij_w64 (by omega), hN]
 have HB := Lib.hid (And.intro hab hs)
 clear hab hN
 generalize nl a = n at *
 generalize nl b = m at *
 go_enter Tryd.func127, Tryd.ntmps127
 go_wp2_with (rw [make_row _ hs]; go_simp)
 have O0 := Lib.hid (Own.made w N)
 refine (F.out _ _ _ O0.out).mono ?_
 rintro e w1 ⟨rfl, h⟩
 have H := Lib.hid h
 have T := Lib.hid (mtrim_some w1 w.heap.size 0 N N (a * b) (h.at HB.out.1) (Nat.le_refl _) HB.out.2)
 clear h
 go_wp2_with fail
 refine T.out.mono ?_
 rintro e w2 ⟨rfl, rfl⟩
 go_wp2_with fail
 go_ret
 exact ⟨_, rfl, ⟨⟨_, _, _, rfl, H.out, nl_le_iff.2 HB.out.1, Nat.le_refl _, HB.out.2⟩⟩⟩
theorem mtold_ok (w : World) (v : Value) (A : Option Addr) (n c : Nat) (hv : v = .slice A n c) (hn : n ≤ 8192) : Calls Tryd.prog 126 #[v] w fun e w' => e = .returned (.tuple #[v, .int .i64 0]) ∧ w' = w := by
 subst hv
 have q0 : decide ((8192 : Int) < (n : Int)) = false := decide_eq_false (by omega)
 go_enter Tryd.func126, Tryd.ntmps126
 go_wp2_with fail
 go_ret2
 exact ⟨rfl, rfl⟩
theorem mul_any (w : World) (A B : Option Addr) (ca cb a b : Nat) (hA : Nt w A ca a) (hB : Nt w B cb b) (hF : FillC a b) (la : nl a ≤ 8192) (lb : nl b ≤ 8192) (ls : nl (a * b) ≤ 8192) :
  Calls Tryd.prog 111 #[.slice A (nl a) ca, .slice B (nl b) cb] w fun e w' => ∃ v, e = .returned (.tuple #[v, .int .i64 0]) ∧ AnT w w' v (a * b) := by
 have FA := Lib.hid (form_any w A ca a hA la)
 have FB := Lib.hid (form_any w B cb b hB lb)
 have P := Lib.hid (product_any w A B ca cb a b hA hB hF (by omega))
 have LS := Lib.hid ls
 clear hA hB hF la lb ls
 generalize nl a = n at *
 generalize nl b = m at *
 go_enter Tryd.func111, Tryd.ntmps111
 go_wp2_with fail
 refine FA.out.mono ?_
 rintro e w1 ⟨rfl, rfl⟩
 go_wp2_with fail
 refine FB.out.mono ?_
 rintro e w2 ⟨rfl, rfl⟩
 go_wp2_with fail
 refine P.out.mono ?_
 rintro e w3 ⟨v, rfl, h⟩
 have H := Lib.hid h
 obtain ⟨⟨G, N, c, hv, _, _, _, _⟩⟩ := h
 have T := Lib.hid (mtold_ok w3 v (some ⟨G, 0, none⟩) (nl (a * b)) c hv LS.out)
 clear hv
 go_wp2_with fail
 refine T.out.mono ?_
 rintro e w4 ⟨rfl, rfl⟩
 go_wp2_with fail
 go_ret2
 exact ⟨v, rfl, H.out⟩
end Go.Proofs.YtapikmfckpgjoaaDoor.GP
end
