/- natmul.Mul where the shorter factor has fewer than 40 limbs. Conditions: at most 8192 limbs; math/bits' table is laid. natmul.Mul and natmul.Sqr as given functions: plain, and their contracts by Px. Conditions: lists in form; the shorter one has fewer than 40 limbs. Functions of the program as plain Lean functions (definitions as the print's), and that the machine's calls do what they do (contracts 'X.c', by Px). Condition: math/bits' table is laid. -/
import Derived.Test.YtokoadgahflafaaGreatDoorKSoftErrorsGO
import Derived.Test.YtokoadgahflafaaGreatDoorKSoftErrorsGiven
import Derived.Test.YtokoadgahflafaaGreatDoorKSoftErrorsPxBr
import Derived.Test.YtokoadgahflafaaGreatDoorKSoftErrorsGM
section
set_option linter.unusedVariables false
namespace Go.Proofs.YtokoadgahflafaaGreatDoor.GP
open Go.RowKit Go.Proofs.YtokoadgahflafaaGreatDoorW.PrintWords Go.Proofs.YtokoadgahflafaaGreatDoorW.PrintMore Go.Proofs.YtokoadgahflafaaGreatDoorW.PrintLast Go.Proofs.YtokoadgahflafaaGreatDoor.Num Go.Proofs.YtokoadgahflafaaGreatDoor.Ref Go.Proofs.YtokoadgahflafaaGreatDoor.GBase Go.Proofs.YtokoadgahflafaaGreatDoor.GTh Go.Proofs.YtokoadgahflafaaGreatDoor.GA Go.Proofs.YtokoadgahflafaaGreatDoor.GB Go.Proofs.YtokoadgahflafaaGreatDoor.GC Go.Proofs.YtokoadgahflafaaGreatDoor.GN Go.Proofs.YtokoadgahflafaaGreatDoor.GO
structure AnT (W w : World) (v : Value) (x : Nat) : Prop where mk :: (ex : ∃ G N c, v = .slice (some ⟨G, 0, none⟩) (nl x) c ∧ Own W w G N x ∧ nl x ≤ N ∧ nl x ≤ c ∧ N < 1099511627776)
theorem mtrim_some (w : World) (G o n c x : Nat) (h : At w G o n x) (hc : n ≤ c) (hn : n < 1099511627776) : Calls Tryz.prog 193 #[.slice (some ⟨G, o, none⟩) n c] w fun e w' => e = .returned (.slice (some ⟨G, o, none⟩) (nl x) (nl x)) ∧ w' = w := by
 have HC := Lib.hid h
 have HN := Lib.hid (And.intro hc hn)
 clear h hc hn
 go_enter Tryz.func193, Tryz.ntmps193
 go_wp2_with fail
 go_loopg [3] n (fun g i wr => g ≤ n ∧ nl x ≤ g ∧ i = .int .i64 g ∧ wr = w)
 case atStart => exact ⟨Nat.le_refl _, nl_le_iff.2 HC.out.big, rfl, rfl⟩
 case round =>
  obtain ⟨hg, hx, rfl, rfl⟩ := hrel
  generalize gk = m at *
  have hn := HN.out.2
  have hcc := HN.out.1
  by_cases c0 : m = 0
  ·subst c0
   have e : nl x = 0 := by omega
   clear hg hx hn hcc
   go_wp2_with fail
   go_ret
   exact ⟨by rw [e]; rfl, rfl⟩
  ·obtain ⟨k, hk⟩ : ∃ k, m = k + 1 := ⟨m - 1, by omega⟩
   have q0 : decide (0 < m) = true := decide_eq_true (by omega)
   have q1 : IntKind.i64.wrap ((m : Int) - 1) = (k : Int) := by rw [IntWalk.i64_in _ (by omega)]; omega
   have q2 : (k : Int) < (n : Int) := by omega
   have q3 : decide (k < n) = true := decide_eq_true (by omega)
   have cc := HC.out.cell k (by omega)
   by_cases cd : dw x k = 0
   ·have H := Lib.hid (And.intro hk (show nl x ≤ k from nl_le_iff.2 (lt_of_dw (by rw [← hk]; exact nl_le_iff.1 hx) cd)))
    rw [cd] at cc
    clear hk hx hg c0 cd hn hcc
    go_wp2_with fail
    go_roundg k
    case measure => have := H.out.1; omega
    case rel => exact ⟨by omega, H.out.2, rfl, rfl⟩
   ·have e : nl x = m := by rw [hk]; exact nl_of (by rw [← hk]; exact nl_le_iff.1 hx) cd
    generalize dw x k = d at *
    have q4 : ((d : Int) == 0) = false := by simpa using cd
    have q5 : (m : Int) ≤ (c : Int) := by omega
    have q6 : (m : Int) ≤ (m : Int) := Int.le_refl _
    have E := Lib.hid e
    clear hk hx c0 cd e hn hg
    go_wp2_with fail
    go_ret
    exact ⟨by rw [E.out]; rfl, rfl⟩
set_option maxRecDepth 100000 in
theorem fill_short (W w : World) (A B : Option Addr) (ca cb a b G N cz : Nat) (hO : Own W w G N 0) (hA : Nt W A ca a) (hB : Nt W B cb b) (hN : N = nl a + nl b) (la : nl a ≤ 8192) (lb : nl b ≤ 8192) (hs : nl a < 40 ∨ nl b < 40) :
  Calls Tryz.prog 192 #[.slice (some ⟨G, 0, none⟩) N cz, .slice A (nl a) ca, .slice B (nl b) cb] w fun e w' => e = .returned (.tuple #[]) ∧ Own W w' G N (a * b) := by
 have R1 := Lib.hid (rows_any W w A B ca cb a b G N cz hO hA hB hN la lb)
 have R2 := Lib.hid (rows_any W w B A cb ca b a G N cz hO hB hA (by rw [hN, Nat.add_comm]) lb la)
 clear hO hA hB hN
 generalize nl a = n at *
 generalize nl b = m at *
 by_cases c : n < m
 ·have l1 : decide ((n : Int) < (m : Int)) = true := decide_eq_true (by omega)
  have l2 : decide ((n : Int) < 40) = true := decide_eq_true (by omega)
  rw [Nat.mul_comm b a] at R2
  go_enter Tryz.func192, Tryz.ntmps192
  go_wp2_with fail
  refine R2.out.mono ?_
  rintro e w1 ⟨rfl, h⟩
  have H := Lib.hid h
  clear h
  go_wp2_with fail
  go_end0
  exact ⟨rfl, H.out⟩
 ·have l1 : decide ((n : Int) < (m : Int)) = false := decide_eq_false (by omega)
  have l2 : decide ((m : Int) < 40) = true := decide_eq_true (by omega)
  go_enter Tryz.func192, Tryz.ntmps192
  go_wp2_with fail
  refine R1.out.mono ?_
  rintro e w1 ⟨rfl, h⟩
  have H := Lib.hid h
  clear h
  go_wp2_with fail
  go_end0
  exact ⟨rfl, H.out⟩
def FillC (a b : Nat) : Prop := ∀ (W w : World) (A B : Option Addr) (ca cb G cz : Nat), Own W w G (nl a + nl b) 0 → Nt W A ca a → Nt W B cb b → Calls Tryz.prog 192 #[.slice (some ⟨G, 0, none⟩) (nl a + nl b : Nat) cz, .slice A (nl a) ca, .slice B (nl b) cb] w fun e w' => e = .returned (.tuple #[]) ∧ Own W w' G (nl a + nl b) (a * b)
theorem fillC_short {a b : Nat} (la : nl a ≤ 8192) (lb : nl b ≤ 8192) (hs : nl a < 40 ∨ nl b < 40) : FillC a b :=
 fun W w A B ca cb G cz hO hA hB => fill_short W w A B ca cb a b G _ cz hO hA hB rfl la lb hs
theorem product_any (w : World) (A B : Option Addr) (ca cb a b : Nat) (hA : Nt w A ca a) (hB : Nt w B cb b) (hF : FillC a b) (hs : nl a + nl b < 1099511627776) :
  Calls Tryz.prog 188 #[.slice A (nl a) ca, .slice B (nl b) cb] w fun e w' => ∃ v, e = .returned v ∧ AnT w w' v (a * b) := by
 have hab : a * b < pw (nl a + nl b) := by
  rw [pw_add]
  have h1 := nl_lt a
  have h2 := nl_lt b
  exact Nat.lt_of_lt_of_le (Nat.mul_lt_mul_of_lt_of_le h1 (Nat.le_of_lt h2) (pw_pos _)) (Nat.le_refl _)
 have F := Lib.hid (fun w' G cz hO => hF w w' A B ca cb G cz hO hA hB)
 clear hA hB hF
 obtain ⟨N, hN⟩ : ∃ N, N = nl a + nl b := ⟨_, rfl⟩
 rw [← hN] at hab hs F
 have q1 : IntKind.i64.wrap (((nl a : Nat) : Int) + ((nl b : Nat) : Int)) = (N : Int) := by rw [ij_wrap (by omega), hN]
 have q2 : wrap64 (((nl a : Nat) : Int) + ((nl b : Nat) : Int)) = (N : Int) := by rw [ij_w64 (by omega), hN]
 have HB := Lib.hid (And.intro hab hs)
 clear hab hN
 generalize nl a = n at *
 generalize nl b = m at *
 go_enter Tryz.func188, Tryz.ntmps188
 go_wp2_with (rw [make_row _ hs]; go_simp)
 have O0 := Lib.hid (Own.made w N)
 refine (F.out _ _ _ O0.out).mono ?_
 rintro e w1 ⟨rfl, h⟩
 have H := Lib.hid h
 have T := Lib.hid (mtrim_some w1 w.heap.size 0 N N (a * b) (h.at HB.out.1) (Nat.le_refl _) HB.out.2)
 clear h
 go_wp2_with fail
 refine T.out.mono ?_
 rintro e w2 ⟨rfl, rfl⟩
 go_wp2_with fail
 go_ret
 exact ⟨_, rfl, ⟨⟨_, _, _, rfl, H.out, nl_le_iff.2 HB.out.1, Nat.le_refl _, HB.out.2⟩⟩⟩
theorem mtold_ok (w : World) (v : Value) (A : Option Addr) (n c : Nat) (hv : v = .slice A n c) (hn : n ≤ 8192) : Calls Tryz.prog 187 #[v] w fun e w' => e = .returned (.tuple #[v, .int .i64 0]) ∧ w' = w := by
 subst hv
 have q0 : decide ((8192 : Int) < (n : Int)) = false := decide_eq_false (by omega)
 go_enter Tryz.func187, Tryz.ntmps187
 go_wp2_with fail
 go_ret2
 exact ⟨rfl, rfl⟩
theorem mul_any (w : World) (A B : Option Addr) (ca cb a b : Nat) (hA : Nt w A ca a) (hB : Nt w B cb b) (hF : FillC a b) (la : nl a ≤ 8192) (lb : nl b ≤ 8192) (ls : nl (a * b) ≤ 8192) :
  Calls Tryz.prog 177 #[.slice A (nl a) ca, .slice B (nl b) cb] w fun e w' => ∃ v, e = .returned (.tuple #[v, .int .i64 0]) ∧ AnT w w' v (a * b) := by
 have FA := Lib.hid (form_any w A ca a hA la)
 have FB := Lib.hid (form_any w B cb b hB lb)
 have P := Lib.hid (product_any w A B ca cb a b hA hB hF (by omega))
 have LS := Lib.hid ls
 clear hA hB hF la lb ls
 generalize nl a = n at *
 generalize nl b = m at *
 go_enter Tryz.func177, Tryz.ntmps177
 go_wp2_with fail
 refine FA.out.mono ?_
 rintro e w1 ⟨rfl, rfl⟩
 go_wp2_with fail
 refine FB.out.mono ?_
 rintro e w2 ⟨rfl, rfl⟩
 go_wp2_with fail
 refine P.out.mono ?_
 rintro e w3 ⟨v, rfl, h⟩
 have H := Lib.hid h
 obtain ⟨⟨G, N, c, hv, _, _, _, _⟩⟩ := h
 have T := Lib.hid (mtold_ok w3 v (some ⟨G, 0, none⟩) (nl (a * b)) c hv LS.out)
 clear hv
 go_wp2_with fail
 refine T.out.mono ?_
 rintro e w4 ⟨rfl, rfl⟩
 go_wp2_with fail
 go_ret2
 exact ⟨v, rfl, H.out⟩
end Go.Proofs.YtokoadgahflafaaGreatDoor.GP
end
section
set_option linter.unusedVariables false
namespace Go.Proofs.YtokoadgahflafaaGreatDoor.Given
open Go Go.RowKit Go.Proofs.YtokoadgahflafaaGreatDoorW.PrintWords Go.Proofs.YtokoadgahflafaaGreatDoorW.PrintMore Go.Proofs.YtokoadgahflafaaGreatDoor.Px Go.Proofs.YtokoadgahflafaaGreatDoor.GTab Go.Proofs.YtokoadgahflafaaGreatDoor.GTh Go.Proofs.YtokoadgahflafaaGreatDoor.GP Go.Proofs.YtokoadgahflafaaGreatDoor.GA Go.Proofs.YtokoadgahflafaaGreatDoor.GC
theorem anT_rep {w w' : World} {v : Value} {x : Nat} {S : Nat → Prop} (h : AnT w w' v x) (hS : ∀ b, S b → b < w.heap.size) (hx : nl x ≤ 8192) : RepC w' S none' (.sl .u64 (lb x)) v ∧ Below w.heap.size w w' := by
 obtain ⟨⟨G, N, c, rfl, o, h1, h2, h3⟩⟩ := h
 refine ⟨⟨some ⟨G, 0, none⟩, c, by rw [lb_len], by rw [lb_len]; exact h2, .inr ⟨G, 0, rfl, ⟨fun hs => by have := hS _ hs; have := o.le; omega, by rw [lb_len]; omega⟩, fun j d hj => ?_⟩⟩, o.below⟩
 have hj2 : j < nl x := by
  have := (List.getElem?_eq_some_iff.1 hj).1
  rwa [lb_len] at this
 rw [lb_at hj2] at hj
 obtain rfl := Option.some.inj hj
 rw [Nat.zero_add]
 exact o.cell (by omega)
def natmul_Mul.f (l0 l1 : List Int) : Option (List Int × Int) := if fmL l0 = true ∧ fmL l1 = true ∧ (l0.length < 40 ∨ l1.length < 40) ∧ nl (vL l0 * vL l1) ≤ 8192 then some (lb (vL l0 * vL l1), 0) else none
theorem natmul_Mul.c {l0 l1 : List Int} {r : List Int × Int} (h : natmul_Mul.f l0 l1 = some r) : Con Tryz.prog Gw 177 [.s (.sl .u64 l0), .s (.sl .u64 l1)] (· = .tu [.s (.sl .u64 r.1), .s (.i .i64 r.2)]) := by
 unfold natmul_Mul.f at h
 split at h
 ·rename_i c
  have h := Option.some.inj h
  subst h
  refine brg Tryz.func177 (by kernel_rfl) fun w S vs gw hS vs_ => ?_
  obtain ⟨A0, c0, u0, rfl, hc0, hr0, v0⟩ := a_sl vs_
  obtain ⟨A1, c1, u1, rfl, hc1, hr1, v1⟩ := a_sl v0
  obtain rfl := a_nil v1
  obtain ⟨h1, h2, h3⟩ := fmL_iff.1 c.1
  obtain ⟨k1, k2, k3⟩ := fmL_iff.1 c.2.1
  have run := mul_any w A0 A1 c0 c1 (vL l0) (vL l1) (nt_of hr0 hc0 c.1) (nt_of hr1 hc1 c.2.1) (fillC_short (by omega) (by omega) (by rw [← h2, ← k2]; exact c.2.2.1)) (by omega) (by omega) c.2.2.2
  rw [← h2, ← k2] at run
  refine run.mono fun e w' ⟨v, he, ha⟩ => ?_
  obtain ⟨hR, hb⟩ := anT_rep ha hS c.2.2.2
  exact ⟨_, _, he, rfl, ⟨[v, _], rfl, .cons hR (.cons rfl .nil)⟩, hb⟩
 ·cases h
end Go.Proofs.YtokoadgahflafaaGreatDoor.Given
end
section
set_option linter.unusedVariables false
namespace Go.Proofs.YtokoadgahflafaaGreatDoor.PLib
open Go Go.RowKit Go.Proofs.YtokoadgahflafaaGreatDoorW.PrintWords Go.Proofs.YtokoadgahflafaaGreatDoorW.PrintMore Go.Proofs.YtokoadgahflafaaGreatDoor.Given Go.Proofs.YtokoadgahflafaaGreatDoor.Px
def bits_LeadingZeros64.f (a0 : Int) : Option (Int) := (bits_Len64.f a0).bind fun t1 => (some (wrap64 (64 - t1)))
theorem bits_LeadingZeros64.c {a0 : Int} {r : Int} (h : bits_LeadingZeros64.f a0 = some r) : Con Tryz.prog Gw 160 [.s (.i .u64 a0)] (· = .s (.i .i64 r)) := by
 unfold bits_LeadingZeros64.f at h
 obtain ⟨t1, A1, h⟩ := bnd h
 have h := si h; subst h
 exact pth Tryz.func160 [.r (.s (.i .i64 t1))] (fun e => ai (bits_Len64.c A1) e) (by kernel_rfl)
def bits_Div64.l1 : Nat → Int → Int → Int → Int → Int → Int → Int → Int → Int → Option (Int × Int)
 | 0, _, _, _, _, _, _, _, _, _ => none
 | k + 1, x2, x8, x9, x10, x14, x15, x16, x17, x18 => if x18 ≥ 4294967296 then (if (IntKind.u64.wrap (x16 + x9)) ≥ 4294967296 then (if 0 ≤ x8 then (some ((IntKind.u64.wrap ((IntKind.u64.wrap (x15 * 4294967296)) + (IntKind.u64.wrap (x18 - 1)))), (shr .u64 (IntKind.u64.wrap ((IntKind.u64.wrap ((IntKind.u64.wrap (x17 * 4294967296)) + x14)) - (IntKind.u64.wrap ((IntKind.u64.wrap (x18 - 1)) * x2)))) x8))) else (none)) else (bits_Div64.l1 k x2 x8 x9 x10 x14 x15 (IntKind.u64.wrap (x16 + x9)) x17 (IntKind.u64.wrap (x18 - 1)))) else (if (IntKind.u64.wrap (x18 * x10)) > (IntKind.u64.wrap ((IntKind.u64.wrap (4294967296 * x16)) + x14)) then (if (IntKind.u64.wrap (x16 + x9)) ≥ 4294967296 then (if 0 ≤ x8 then (some ((IntKind.u64.wrap ((IntKind.u64.wrap (x15 * 4294967296)) + (IntKind.u64.wrap (x18 - 1)))), (shr .u64 (IntKind.u64.wrap ((IntKind.u64.wrap ((IntKind.u64.wrap (x17 * 4294967296)) + x14)) - (IntKind.u64.wrap ((IntKind.u64.wrap (x18 - 1)) * x2)))) x8))) else (none)) else (bits_Div64.l1 k x2 x8 x9 x10 x14 x15 (IntKind.u64.wrap (x16 + x9)) x17 (IntKind.u64.wrap (x18 - 1)))) else (if 0 ≤ x8 then (some ((IntKind.u64.wrap ((IntKind.u64.wrap (x15 * 4294967296)) + x18)), (shr .u64 (IntKind.u64.wrap ((IntKind.u64.wrap ((IntKind.u64.wrap (x17 * 4294967296)) + x14)) - (IntKind.u64.wrap (x18 * x2)))) x8))) else (none)))
def bits_Div64.j0 : Nat → Int → Int → Int → Int → Int → Int → Int → Int → Option (Int × Int)
 | 0, _, _, _, _, _, _, _, _ => none
 | k + 1, x2, x8, x9, x10, x11, x13, x14, x15 => if x9 = 0 then (none) else (bits_Div64.l1 k x2 x8 x9 x10 x14 x15 (IntKind.u64.wrap ((IntKind.u64.wrap ((IntKind.u64.wrap ((IntKind.u64.wrap (x11 * 4294967296)) + x13)) - (IntKind.u64.wrap (x15 * x2)))) - (IntKind.u64.wrap ((IntKind.u64.wrap (Int.tdiv (IntKind.u64.wrap ((IntKind.u64.wrap ((IntKind.u64.wrap (x11 * 4294967296)) + x13)) - (IntKind.u64.wrap (x15 * x2)))) x9)) * x9)))) (IntKind.u64.wrap ((IntKind.u64.wrap ((IntKind.u64.wrap (x11 * 4294967296)) + x13)) - (IntKind.u64.wrap (x15 * x2)))) (IntKind.u64.wrap (Int.tdiv (IntKind.u64.wrap ((IntKind.u64.wrap ((IntKind.u64.wrap (x11 * 4294967296)) + x13)) - (IntKind.u64.wrap (x15 * x2)))) x9)))
def bits_Div64.l0 : Nat → Int → Int → Int → Int → Int → Int → Int → Int → Int → Option (Int × Int)
 | 0, _, _, _, _, _, _, _, _, _ => none
 | k + 1, x2, x8, x9, x10, x11, x13, x14, x15, x16 => if x15 ≥ 4294967296 then (if (IntKind.u64.wrap (x16 + x9)) ≥ 4294967296 then (bits_Div64.j0 k x2 x8 x9 x10 x11 x13 x14 (IntKind.u64.wrap (x15 - 1))) else (bits_Div64.l0 k x2 x8 x9 x10 x11 x13 x14 (IntKind.u64.wrap (x15 - 1)) (IntKind.u64.wrap (x16 + x9)))) else (if (IntKind.u64.wrap (x15 * x10)) > (IntKind.u64.wrap ((IntKind.u64.wrap (4294967296 * x16)) + x13)) then (if (IntKind.u64.wrap (x16 + x9)) ≥ 4294967296 then (bits_Div64.j0 k x2 x8 x9 x10 x11 x13 x14 (IntKind.u64.wrap (x15 - 1))) else (bits_Div64.l0 k x2 x8 x9 x10 x11 x13 x14 (IntKind.u64.wrap (x15 - 1)) (IntKind.u64.wrap (x16 + x9)))) else (bits_Div64.j0 k x2 x8 x9 x10 x11 x13 x14 x15))
def bits_Div64.f (k : Nat) (a0 : Int) (a1 : Int) (a2 : Int) : Option (Int × Int) := if a2 = 0 then (none) else (if a2 ≤ a0 then (none) else (if a0 = 0 then (some ((IntKind.u64.wrap (Int.tdiv a1 a2)), Int.tmod a1 a2)) else ((bits_LeadingZeros64.f a2).bind fun t1 => (if 0 ≤ (IntKind.u64.wrap t1) then (if 0 ≤ (IntKind.u64.wrap (64 - (IntKind.u64.wrap t1))) then (if (shr .u64 (shl .u64 a2 (IntKind.u64.wrap t1)) 32) = 0 then (none) else (bits_Div64.l0 k (shl .u64 a2 (IntKind.u64.wrap t1)) (IntKind.u64.wrap t1) (shr .u64 (shl .u64 a2 (IntKind.u64.wrap t1)) 32) (Go.bits .and .u64 (shl .u64 a2 (IntKind.u64.wrap t1)) 4294967295) (Go.bits .or .u64 (shl .u64 a0 (IntKind.u64.wrap t1)) (shr .u64 a1 (IntKind.u64.wrap (64 - (IntKind.u64.wrap t1))))) (shr .u64 (shl .u64 a1 (IntKind.u64.wrap t1)) 32) (Go.bits .and .u64 (shl .u64 a1 (IntKind.u64.wrap t1)) 4294967295) (IntKind.u64.wrap (Int.tdiv (Go.bits .or .u64 (shl .u64 a0 (IntKind.u64.wrap t1)) (shr .u64 a1 (IntKind.u64.wrap (64 - (IntKind.u64.wrap t1))))) (shr .u64 (shl .u64 a2 (IntKind.u64.wrap t1)) 32))) (IntKind.u64.wrap ((Go.bits .or .u64 (shl .u64 a0 (IntKind.u64.wrap t1)) (shr .u64 a1 (IntKind.u64.wrap (64 - (IntKind.u64.wrap t1))))) - (IntKind.u64.wrap ((IntKind.u64.wrap (Int.tdiv (Go.bits .or .u64 (shl .u64 a0 (IntKind.u64.wrap t1)) (shr .u64 a1 (IntKind.u64.wrap (64 - (IntKind.u64.wrap t1))))) (shr .u64 (shl .u64 a2 (IntKind.u64.wrap t1)) 32))) * (shr .u64 (shl .u64 a2 (IntKind.u64.wrap t1)) 32))))))) else (none)) else (none)))))
theorem bits_Div64.jc : ∀ k : Nat, (∀ (x2 : Int) (x8 : Int) (x9 : Int) (x10 : Int) (x11 : Int) (x13 : Int) (x14 : Int) (x15 : Int) (r : Int × Int), bits_Div64.j0 k x2 x8 x9 x10 x11 x13 x14 x15 = some r → Fin Tryz.prog Gw 178 (nav (bodyOf Tryz.f178) [1, 1, 1, 1, 1, 1, 1, 1, 1, 1, 1, 1, 1, 1, 1, 0] []) ⟨mkT 135 [(2, .s (.i .u64 x2)), (8, .s (.i .u64 x8)), (9, .s (.i .u64 x9)), (10, .s (.i .u64 x10)), (11, .s (.i .u64 x11)), (13, .s (.i .u64 x13)), (14, .s (.i .u64 x14)), (15, .s (.i .u64 x15))], []⟩ (· = .tu [.s (.i .u64 r.1), .s (.i .u64 r.2)])) ∧ (∀ (x2 : Int) (x8 : Int) (x9 : Int) (x10 : Int) (x11 : Int) (x13 : Int) (x14 : Int) (x15 : Int) (x16 : Int) (r : Int × Int), bits_Div64.l0 k x2 x8 x9 x10 x11 x13 x14 x15 x16 = some r → Fin Tryz.prog Gw 178 (nav (bodyOf Tryz.f178) [1, 1, 1, 1, 1, 1, 1, 1, 1, 1, 1, 1, 1, 1, 0, 0, 0] []) ⟨mkT 135 [(2, .s (.i .u64 x2)), (8, .s (.i .u64 x8)), (9, .s (.i .u64 x9)), (10, .s (.i .u64 x10)), (11, .s (.i .u64 x11)), (13, .s (.i .u64 x13)), (14, .s (.i .u64 x14)), (15, .s (.i .u64 x15)), (16, .s (.i .u64 x16))], []⟩ (· = .tu [.s (.i .u64 r.1), .s (.i .u64 r.2)])) ∧ (∀ (x2 : Int) (x8 : Int) (x9 : Int) (x10 : Int) (x14 : Int) (x15 : Int) (x16 : Int) (x17 : Int) (x18 : Int) (r : Int × Int), bits_Div64.l1 k x2 x8 x9 x10 x14 x15 x16 x17 x18 = some r → Fin Tryz.prog Gw 178 (nav (bodyOf Tryz.f178) [1, 1, 1, 1, 1, 1, 1, 1, 1, 1, 1, 1, 1, 1, 1, 1, 1, 1, 0, 0, 0] []) ⟨mkT 135 [(2, .s (.i .u64 x2)), (8, .s (.i .u64 x8)), (9, .s (.i .u64 x9)), (10, .s (.i .u64 x10)), (14, .s (.i .u64 x14)), (15, .s (.i .u64 x15)), (16, .s (.i .u64 x16)), (17, .s (.i .u64 x17)), (18, .s (.i .u64 x18))], []⟩ (· = .tu [.s (.i .u64 r.1), .s (.i .u64 r.2)]))
 | 0 => ⟨(fun _ _ _ _ _ _ _ _ _ h => nn h), (fun _ _ _ _ _ _ _ _ _ _ h => nn h), (fun _ _ _ _ _ _ _ _ _ _ h => nn h)⟩
 | k + 1 => by
  have ih := bits_Div64.jc k
  refine ⟨?_, ?_, ?_⟩
  ·intro x2 x8 x9 x10 x11 x13 x14 x15 r h
   rw [bits_Div64.j0] at h
   rcases ite_e h with ⟨c1, h⟩ | ⟨c1, h⟩
   ·cases h
   ·exact jth Tryz.func178 [.cut 3 [2, 8, 9, 10, 14, 15, 16, 17, 18] [] []] (fun _ => ai c1 (ih.2.2 _ _ _ _ _ _ _ _ _ _ h)) (by kernel_rfl)
  ·intro x2 x8 x9 x10 x11 x13 x14 x15 x16 r h
   rw [bits_Div64.l0] at h
   rcases ite_e h with ⟨c1, h⟩ | ⟨c1, h⟩
   ·rcases ite_e h with ⟨c2, h⟩ | ⟨c2, h⟩
    ·exact jth Tryz.func178 [.br true, .br true, .br true, .br true, .br true, .br true, .br true, .br true, .br true, .br true, .br true, .cut 0 [2, 8, 9, 10, 11, 13, 14, 15] [] []] (fun _ => ai (d1 c1) (ai (d1 c1) (ai (d1 c1) (ai (d1 c1) (ai (d1 c1) (ai (d1 c1) (ai (d1 c1) (ai (d1 c1) (ai (d1 c1) (ai tt (ai (d1 c2) (ih.1 _ _ _ _ _ _ _ _ _ h)))))))))))) (by kernel_rfl)
    ·exact jth Tryz.func178 [.br true, .br true, .br true, .br true, .br true, .br true, .br true, .br true, .br true, .br true, .br false, .cut 0 [2, 8, 9, 10, 11, 13, 14, 15, 16] [] []] (fun _ => ai (d1 c1) (ai (d1 c1) (ai (d1 c1) (ai (d1 c1) (ai (d1 c1) (ai (d1 c1) (ai (d1 c1) (ai (d1 c1) (ai (d1 c1) (ai tt (ai (d0 c2) (ih.2.1 _ _ _ _ _ _ _ _ _ _ h)))))))))))) (by kernel_rfl)
   ·rcases ite_e h with ⟨c3, h⟩ | ⟨c3, h⟩
    ·rcases ite_e h with ⟨c4, h⟩ | ⟨c4, h⟩
     ·exact jth Tryz.func178 [.br false, .br false, .br false, .br false, .br false, .br false, .br false, .br false, .br false, .br true, .br true, .cut 0 [2, 8, 9, 10, 11, 13, 14, 15] [] []] (fun _ => ai (d0 c1) (ai (d0 c1) (ai (d0 c1) (ai (d0 c1) (ai (d0 c1) (ai (d0 c1) (ai (d0 c1) (ai (d0 c1) (ai (d0 c1) (ai (d1 c3) (ai (d1 c4) (ih.1 _ _ _ _ _ _ _ _ _ h)))))))))))) (by kernel_rfl)
     ·exact jth Tryz.func178 [.br false, .br false, .br false, .br false, .br false, .br false, .br false, .br false, .br false, .br true, .br false, .cut 0 [2, 8, 9, 10, 11, 13, 14, 15, 16] [] []] (fun _ => ai (d0 c1) (ai (d0 c1) (ai (d0 c1) (ai (d0 c1) (ai (d0 c1) (ai (d0 c1) (ai (d0 c1) (ai (d0 c1) (ai (d0 c1) (ai (d1 c3) (ai (d0 c4) (ih.2.1 _ _ _ _ _ _ _ _ _ _ h)))))))))))) (by kernel_rfl)
    ·exact jth Tryz.func178 [.br false, .br false, .br false, .br false, .br false, .br false, .br false, .br false, .br false, .br false, .cut 0 [2, 8, 9, 10, 11, 13, 14, 15] [] []] (fun _ => ai (d0 c1) (ai (d0 c1) (ai (d0 c1) (ai (d0 c1) (ai (d0 c1) (ai (d0 c1) (ai (d0 c1) (ai (d0 c1) (ai (d0 c1) (ai (d0 c3) (ih.1 _ _ _ _ _ _ _ _ _ h))))))))))) (by kernel_rfl)
  ·intro x2 x8 x9 x10 x14 x15 x16 x17 x18 r h
   rw [bits_Div64.l1] at h
   rcases ite_e h with ⟨c1, h⟩ | ⟨c1, h⟩
   ·rcases ite_e h with ⟨c2, h⟩ | ⟨c2, h⟩
    ·rcases ite_e h with ⟨c3, h⟩ | ⟨c3, h⟩
     ·have h := si h; subst h
      exact jth Tryz.func178 [.br true, .br true, .br true, .br true, .br true, .br true, .br true, .br true, .br true, .br true, .br true] (fun e => ai (d1 c1) (ai (d1 c1) (ai (d1 c1) (ai (d1 c1) (ai (d1 c1) (ai (d1 c1) (ai (d1 c1) (ai (d1 c1) (ai (d1 c1) (ai tt (ai (d1 c2) (ai c3 e)))))))))))) (by kernel_rfl)
     ·cases h
    ·exact jth Tryz.func178 [.br true, .br true, .br true, .br true, .br true, .br true, .br true, .br true, .br true, .br true, .br false, .cut 0 [2, 8, 9, 10, 14, 15, 16, 17, 18] [] []] (fun _ => ai (d1 c1) (ai (d1 c1) (ai (d1 c1) (ai (d1 c1) (ai (d1 c1) (ai (d1 c1) (ai (d1 c1) (ai (d1 c1) (ai (d1 c1) (ai tt (ai (d0 c2) (ih.2.2 _ _ _ _ _ _ _ _ _ _ h)))))))))))) (by kernel_rfl)
   ·rcases ite_e h with ⟨c4, h⟩ | ⟨c4, h⟩
    ·rcases ite_e h with ⟨c5, h⟩ | ⟨c5, h⟩
     ·rcases ite_e h with ⟨c6, h⟩ | ⟨c6, h⟩
      ·have h := si h; subst h
       exact jth Tryz.func178 [.br false, .br false, .br false, .br false, .br false, .br false, .br false, .br false, .br false, .br true, .br true] (fun e => ai (d0 c1) (ai (d0 c1) (ai (d0 c1) (ai (d0 c1) (ai (d0 c1) (ai (d0 c1) (ai (d0 c1) (ai (d0 c1) (ai (d0 c1) (ai (d1 c4) (ai (d1 c5) (ai c6 e)))))))))))) (by kernel_rfl)
      ·cases h
     ·exact jth Tryz.func178 [.br false, .br false, .br false, .br false, .br false, .br false, .br false, .br false, .br false, .br true, .br false, .cut 0 [2, 8, 9, 10, 14, 15, 16, 17, 18] [] []] (fun _ => ai (d0 c1) (ai (d0 c1) (ai (d0 c1) (ai (d0 c1) (ai (d0 c1) (ai (d0 c1) (ai (d0 c1) (ai (d0 c1) (ai (d0 c1) (ai (d1 c4) (ai (d0 c5) (ih.2.2 _ _ _ _ _ _ _ _ _ _ h)))))))))))) (by kernel_rfl)
    ·rcases ite_e h with ⟨c7, h⟩ | ⟨c7, h⟩
     ·have h := si h; subst h
      exact jth Tryz.func178 [.br false, .br false, .br false, .br false, .br false, .br false, .br false, .br false, .br false, .br false] (fun e => ai (d0 c1) (ai (d0 c1) (ai (d0 c1) (ai (d0 c1) (ai (d0 c1) (ai (d0 c1) (ai (d0 c1) (ai (d0 c1) (ai (d0 c1) (ai (d0 c4) (ai c7 e))))))))))) (by kernel_rfl)
     ·cases h
theorem bits_Div64.c {k : Nat} {a0 : Int} {a1 : Int} {a2 : Int} {r : Int × Int} (h : bits_Div64.f k a0 a1 a2 = some r) : Con Tryz.prog Gw 178 [.s (.i .u64 a0), .s (.i .u64 a1), .s (.i .u64 a2)] (· = .tu [.s (.i .u64 r.1), .s (.i .u64 r.2)]) := by
 unfold bits_Div64.f at h
 rcases ite_e h with ⟨c1, h⟩ | ⟨c1, h⟩
 ·cases h
 ·rcases ite_e h with ⟨c2, h⟩ | ⟨c2, h⟩
  ·cases h
  ·rcases ite_e h with ⟨c3, h⟩ | ⟨c3, h⟩
   ·have h := si h; subst h
    exact pth Tryz.func178 [.br false, .br false, .br true] (fun e => ai (q0 c1) (ai (d0 c2) (ai (q1 c3) (ai c1 (ai c1 e))))) (by kernel_rfl)
   ·obtain ⟨t1, A4, h⟩ := bnd h
    rcases ite_e h with ⟨c5, h⟩ | ⟨c5, h⟩
    ·rcases ite_e h with ⟨c6, h⟩ | ⟨c6, h⟩
     ·rcases ite_e h with ⟨c7, h⟩ | ⟨c7, h⟩
      ·cases h
      ·exact pth Tryz.func178 [.br false, .br false, .br false, .r (.s (.i .i64 t1)), .cut 9 [2, 8, 9, 10, 11, 13, 14, 15, 16] [] []] (fun _ => ai (q0 c1) (ai (d0 c2) (ai (q0 c3) (ai (bits_LeadingZeros64.c A4) (ai c5 (ai (by decide : (0 : Int) ≤ 32) (ai c5 (ai c6 (ai c5 (ai (by decide : (0 : Int) ≤ 32) (ai c7 ((bits_Div64.jc k).2.1 _ _ _ _ _ _ _ _ _ _ h)))))))))))) (by kernel_rfl)
     ·cases h
    ·cases h
end Go.Proofs.YtokoadgahflafaaGreatDoor.PLib
end
