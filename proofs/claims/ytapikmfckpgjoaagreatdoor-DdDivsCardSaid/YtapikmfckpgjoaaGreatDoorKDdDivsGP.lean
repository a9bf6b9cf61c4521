/- natmul.Mul where the shorter factor has fewer than 40 limbs. Conditions: at most 8192 limbs; math/bits' table is laid. -/
import Derived.Test.YtapikmfckpgjoaaGreatDoorKDdDivsGO
set_option linter.unusedVariables false
namespace Go.Proofs.YtapikmfckpgjoaaGreatDoor.GP
open Go.RowKit Go.Proofs.YtapikmfckpgjoaaGreatDoorW.PrintWords Go.Proofs.YtapikmfckpgjoaaGreatDoorW.PrintMore Go.Proofs.YtapikmfckpgjoaaGreatDoorW.PrintLast Go.Proofs.YtapikmfckpgjoaaGreatDoor.Num Go.Proofs.YtapikmfckpgjoaaGreatDoor.Ref Go.Proofs.YtapikmfckpgjoaaGreatDoor.GBase Go.Proofs.YtapikmfckpgjoaaGreatDoor.GTh Go.Proofs.YtapikmfckpgjoaaGreatDoor.GA Go.Proofs.YtapikmfckpgjoaaGreatDoor.GB Go.Proofs.YtapikmfckpgjoaaGreatDoor.GC Go.Proofs.YtapikmfckpgjoaaGreatDoor.GO
structure AnT (W w : World) (v : Value) (x : Nat) : Prop where mk :: (ex : ∃ G N c, v = .slice (some ⟨G, 0, none⟩) (nl x) c ∧ Own W w G N x ∧ nl x ≤ N ∧ nl x ≤ c ∧ N < 1099511627776)
theorem mtrim_some (w : World) (G o n c x : Nat) (h : At w G o n x) (hc : n ≤ c) (hn : n < 1099511627776) : Calls Tryz.prog 128 #[.slice (some ⟨G, o, none⟩) n c] w fun e w' => e = .returned (.slice (some ⟨G, o, none⟩) (nl x) (nl x)) ∧ w' = w := by
 have HC := Lib.hid h
 have HN := Lib.hid (And.intro hc hn)
 clear h hc hn
 go_enter Tryz.func128, Tryz.ntmps128
 go_wp2_with fail
 go_loopg [3] n (fun g i wr => g ≤ n ∧ nl x ≤ g ∧ i = .int .i64 g ∧ wr = w)
 case atStart => exact ⟨Nat.le_refl _, nl_le_iff.2 HC.out.big, rfl, rfl⟩
 case round =>
  obtain ⟨hg, hx, rfl, rfl⟩ := hrel
  generalize gk = m at *
  have hn := HN.out.2
  have hcc := HN.out.1
  by_cases c0 : m = 0
  ·subst c0
   have e : nl x = 0 := by omega
   clear hg hx hn hcc
   go_wp2_with fail
   go_ret
   exact ⟨by rw [e]; rfl, rfl⟩
  ·obtain ⟨k, hk⟩ : ∃ k, m = k + 1 := ⟨m - 1, by omega⟩
   have q0 : decide (0 < m) = true := decide_eq_true (by omega)
   have q1 : IntKind.i64.wrap ((m : Int) - 1) = (k : Int) := by rw [IntWalk.i64_in _ (by omega)]; omega
   have q2 : (k : Int) < (n : Int) := by omega
   have q3 : decide (k < n) = true := decide_eq_true (by omega)
   have cc := HC.out.cell k (by omega)
   by_cases cd : dw x k = 0
   ·have H := Lib.hid (And.intro hk (show nl x ≤ k from nl_le_iff.2 (lt_of_dw (by rw [← hk]; exact nl_le_iff.1 hx) cd)))
    rw [cd] at cc
    clear hk hx hg c0 cd hn hcc
    go_wp2_with fail
    go_roundg k
    case measure => have := H.out.1; omega
    case rel => exact ⟨by omega, H.out.2, rfl, rfl⟩
   ·have e : nl x = m := by rw [hk]; exact nl_of (by rw [← hk]; exact nl_le_iff.1 hx) cd
    generalize dw x k = d at *
    have q4 : ((d : Int) == 0) = false := by simpa using cd
    have q5 : (m : Int) ≤ (c : Int) := by omega
    have q6 : (m : Int) ≤ (m : Int) := Int.le_refl _
    have E := Lib.hid e
    clear hk hx c0 cd e hn hg
    go_wp2_with fail
    go_ret
    exact ⟨by rw [E.out]; rfl, rfl⟩
def FillC (a b : Nat) : Prop := ∀ (W w : World) (A B : Option Addr) (ca cb G cz : Nat), Own W w G (nl a + nl b) 0 → Nt W A ca a → Nt W B cb b → Calls Tryz.prog 127 #[.slice (some ⟨G, 0, none⟩) (nl a + nl b : Nat) cz, .slice A (nl a) ca, .slice B (nl b) cb] w fun e w' => e = .returned (.tuple #[]) ∧ Own W w' G (nl a + nl b) (a * b)
theorem product_any (w : World) (A B : Option Addr) (ca cb a b : Nat) (hA : Nt w A ca a) (hB : Nt w B cb b) (hF : FillC a b) (hs : nl a + nl b < 1099511627776) :
  Calls Tryz.prog 110 #[.slice A (nl a) ca, .slice B (nl b) cb] w fun e w' => ∃ v, e = .returned v ∧ AnT w w' v (a * b) := by
 have hab : a * b < pw (nl a + nl b) := by
  rw [pw_add]
  have h1 := nl_lt a
  have h2 := nl_lt b
  exact Nat.lt_of_lt_of_le (Nat.mul_lt_mul_of_lt_of_le h1 (Nat.le_of_lt h2) (pw_pos _)) (Nat.le_refl _)
 have F := Lib.hid (fun w' G cz hO => hF w w' A B ca cb G cz hO hA hB)
 clear hA hB hF
 obtain ⟨N, hN⟩ : ∃ N, N = nl a + nl b := ⟨_, rfl⟩
 rw [← hN] at hab hs F
 have q1 : IntKind.i64.wrap (((nl a : Nat) : Int) + ((nl b : Nat) : Int)) = (N : Int) := by rw [ij_wrap (by omega), hN]
 have q2 : wrap64 (((nl a : Nat) : Int) + ((nl b : Nat) : Int)) = (N : Int) := by rw [ij_w64 (by omega), hN]
 have HB := Lib.hid (And.intro hab hs)
 clear hab hN
 generalize nl a = n at *
 generalize nl b = m at *
 go_enter Tryz.func110, Tryz.ntmps110
 go_wp2_with (rw [make_row _ hs]; go_simp)
 have O0 := Lib.hid (Own.made w N)
 refine (F.out _ _ _ O0.out).mono ?_
 rintro e w1 ⟨rfl, h⟩
 have H := Lib.hid h
 have T := Lib.hid (mtrim_some w1 w.heap.size 0 N N (a * b) (h.at HB.out.1) (Nat.le_refl _) HB.out.2)
 clear h
 go_wp2_with fail
 refine T.out.mono ?_
 rintro e w2 ⟨rfl, rfl⟩
 go_wp2_with fail
 go_ret
 exact ⟨_, rfl, ⟨⟨_, _, _, rfl, H.out, nl_le_iff.2 HB.out.1, Nat.le_refl _, HB.out.2⟩⟩⟩
theorem mtold_ok (w : World) (v : Value) (A : Option Addr) (n c : Nat) (hv : v = .slice A n c) (hn : n ≤ 8192) : Calls Tryz.prog 109 #[v] w fun e w' => e = .returned (.tuple #[v, .int .i64 0]) ∧ w' = w := by
 subst hv
 have q0 : decide ((8192 : Int) < (n : Int)) = false := decide_eq_false (by omega)
 go_enter Tryz.func109, Tryz.ntmps109
 go_wp2_with fail
 go_ret2
 exact ⟨rfl, rfl⟩
theorem mul_any (w : World) (A B : Option Addr) (ca cb a b : Nat) (hA : Nt w A ca a) (hB : Nt w B cb b) (hF : FillC a b) (la : nl a ≤ 8192) (lb : nl b ≤ 8192) (ls : nl (a * b) ≤ 8192) :
  Calls Tryz.prog 83 #[.slice A (nl a) ca, .slice B (nl b) cb] w fun e w' => ∃ v, e = .returned (.tuple #[v, .int .i64 0]) ∧ AnT w w' v (a * b) := by
 have FA := Lib.hid (form_any w A ca a hA la)
 have FB := Lib.hid (form_any w B cb b hB lb)
 have P := Lib.hid (product_any w A B ca cb a b hA hB hF (by omega))
 have LS := Lib.hid ls
 clear hA hB hF la lb ls
 generalize nl a = n at *
 generalize nl b = m at *
 go_enter Tryz.func83, Tryz.ntmps83
 go_wp2_with fail
 refine FA.out.mono ?_
 rintro e w1 ⟨rfl, rfl⟩
 go_wp2_with fail
 refine FB.out.mono ?_
 rintro e w2 ⟨rfl, rfl⟩
 go_wp2_with fail
 refine P.out.mono ?_
 rintro e w3 ⟨v, rfl, h⟩
 have H := Lib.hid h
 obtain ⟨⟨G, N, c, hv, _, _, _, _⟩⟩ := h
 have T := Lib.hid (mtold_ok w3 v (some ⟨G, 0, none⟩) (nl (a * b)) c hv LS.out)
 clear hv
 go_wp2_with fail
 refine T.out.mono ?_
 rintro e w4 ⟨rfl, rfl⟩
 go_wp2_with fail
 go_ret2
 exact ⟨v, rfl, H.out⟩
end Go.Proofs.YtapikmfckpgjoaaGreatDoor.GP
