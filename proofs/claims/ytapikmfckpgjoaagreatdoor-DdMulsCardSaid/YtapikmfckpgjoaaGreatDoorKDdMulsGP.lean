/- slices.Clone and dyadic.twin on rows of limbs of any length. Conditions: rows of less than 2^40 limbs. nat.Shl of nought; nat.Shr of all limbs; nat.Norm. Conditions: at most 8192 limbs. The naturals' functions answer as told (Given): their calls on lists of limbs in memory. Conditions: as the functions' own definitions say (lists in form, at most 8192 limbs). math's words of floats answer at once (for Px). No condition. natmul.rows in place. Conditions: rows of at most 16384 limbs; math/bits' table is laid. natmul.Mul where the shorter factor has fewer than 40 limbs. Conditions: at most 8192 limbs; math/bits' table is laid. -/
import Derived.Test.YtapikmfckpgjoaaGreatDoorKDdMulsGI
import Derived.Test.YtapikmfckpgjoaaGreatDoorKDdMulsRnd
import Derived.StillTailTactics
import Derived.Test.YtapikmfckpgjoaaGreatDoorKDdMulsGivenD
import Derived.Test.YtapikmfckpgjoaaGreatDoorKDdMulsGA
import Derived.Laws.Externs
import Derived.WalkKit
import Derived.OwnWalk
import Derived.Lib.Mul64
import Derived.Laws.Bits64b
import Derived.Deep.QuietTactic
import Derived.BigQuiet
import Derived.Tactics2
section
namespace Go.Proofs.YtapikmfckpgjoaaGreatDoor.GK
open Go.RowKit Go.Proofs.YtapikmfckpgjoaaGreatDoorW.PrintWords Go.Proofs.YtapikmfckpgjoaaGreatDoorW.PrintMore Go.Proofs.YtapikmfckpgjoaaGreatDoorW.PrintLast Go.Proofs.YtapikmfckpgjoaaGreatDoor.Num Go.Proofs.YtapikmfckpgjoaaGreatDoor.Ref Go.Proofs.YtapikmfckpgjoaaGreatDoor.GBase Go.Proofs.YtapikmfckpgjoaaGreatDoor.GTab Go.Proofs.YtapikmfckpgjoaaGreatDoor.GTh Go.Proofs.YtapikmfckpgjoaaGreatDoor.GA Go.Proofs.YtapikmfckpgjoaaGreatDoor.GB Go.Proofs.YtapikmfckpgjoaaGreatDoor.GC Go.Proofs.YtapikmfckpgjoaaGreatDoor.GG Go.Proofs.YtapikmfckpgjoaaGreatDoor.GH Go.Proofs.YtapikmfckpgjoaaGreatDoor.GI
theorem At.set {w : World} {G o n x : Nat} (h : At w G o n x) {g : Nat} (hg : G ≠ g) (k : Nat) (v : Value) : At (w.setCell ⟨g, k, none⟩ v) G o n x :=
 ⟨h.big, fun j hj => (World.cell?_setCell_other _ _ _ _ (fun e => hg (congrArg Addr.block e).symm)).trans (h.cell j hj)⟩
theorem Rw.set {w : World} {A : Option Addr} {n c x : Nat} (h : Rw w A n c x) {g : Nat} (hg : ∀ G o, A = some ⟨G, o, none⟩ → G ≠ g) (k : Nat) (v : Value) : Rw (w.setCell ⟨g, k, none⟩ v) A n c x :=
 ⟨h.cap, h.row.imp id (fun ⟨G, o, e, q⟩ => ⟨G, o, e, At.set q (hg G o e) k v⟩)⟩
end Go.Proofs.YtapikmfckpgjoaaGreatDoor.GK
end
section
namespace Go.Proofs.YtapikmfckpgjoaaGreatDoor.GL
open Go.RowKit Go.Proofs.YtapikmfckpgjoaaGreatDoorW.PrintWords Go.Proofs.YtapikmfckpgjoaaGreatDoorW.PrintMore Go.Proofs.YtapikmfckpgjoaaGreatDoorW.PrintLast Go.Proofs.YtapikmfckpgjoaaGreatDoor.Num Go.Proofs.YtapikmfckpgjoaaGreatDoor.Ref Go.Proofs.YtapikmfckpgjoaaGreatDoor.GBase Go.Proofs.YtapikmfckpgjoaaGreatDoor.GTab Go.Proofs.YtapikmfckpgjoaaGreatDoor.GTh Go.Proofs.YtapikmfckpgjoaaGreatDoor.GA Go.Proofs.YtapikmfckpgjoaaGreatDoor.GB Go.Proofs.YtapikmfckpgjoaaGreatDoor.GC Go.Proofs.YtapikmfckpgjoaaGreatDoor.GG Go.Proofs.YtapikmfckpgjoaaGreatDoor.GH Go.Proofs.YtapikmfckpgjoaaGreatDoor.GI Go.Proofs.YtapikmfckpgjoaaGreatDoor.GK
theorem shl_zero (w : World) (A : Option Addr) (c n : Nat) : Calls Tryz.prog 89 #[.slice A 0 c, .int .i64 (n : Int)] w fun e w' => e = .returned (.tuple #[.slice none 0 0, .int .i64 0]) ∧ w' = w := by
 have HF := form_any w A c 0 ⟨Nat.zero_le _, .inl ⟨trivial, rfl, trivial, rfl⟩⟩ (by decide)
 rw [nl_zero] at HF
 have HF := Lib.hid HF
 have q0 : decide ((n : Int) < 0) = false := decide_eq_false (by omega)
 go_enter Tryz.func89, Tryz.ntmps89
 go_wp2_with fail
 refine HF.out.mono ?_
 rintro e w1 ⟨rfl, rfl⟩
 go_wp2_with fail
 go_ret2
 exact ⟨rfl, rfl⟩
end Go.Proofs.YtapikmfckpgjoaaGreatDoor.GL
end
section
namespace Go.Proofs.YtapikmfckpgjoaaGreatDoor.Given
open Go.RowKit Go.Proofs.YtapikmfckpgjoaaGreatDoorW.PrintWords Go.Proofs.YtapikmfckpgjoaaGreatDoorW.PrintMore Go.Proofs.YtapikmfckpgjoaaGreatDoorW.PrintLast Go.Proofs.YtapikmfckpgjoaaGreatDoor.Num Go.Proofs.YtapikmfckpgjoaaGreatDoor.Ref Go.Proofs.YtapikmfckpgjoaaGreatDoor.GBase Go.Proofs.YtapikmfckpgjoaaGreatDoor.GTab Go.Proofs.YtapikmfckpgjoaaGreatDoor.GTh Go.Proofs.YtapikmfckpgjoaaGreatDoor.GA Go.Proofs.YtapikmfckpgjoaaGreatDoor.GB Go.Proofs.YtapikmfckpgjoaaGreatDoor.GC Go.Proofs.YtapikmfckpgjoaaGreatDoor.GG Go.Proofs.YtapikmfckpgjoaaGreatDoor.GH Go.Proofs.YtapikmfckpgjoaaGreatDoor.GI Go.Proofs.YtapikmfckpgjoaaGreatDoor.GK Go.Proofs.YtapikmfckpgjoaaGreatDoor.GL
theorem rw_of {w : World} {A : Option Addr} {c : Nat} {l : List Int} (hr : Kd.C (Kd.int .u64) w A l.length l) (hc : l.length ≤ c) (ho : okL l = true) : Rw w A l.length c (vL l) := by
 have hm := (okL_iff.1 ho).2
 refine ⟨hc, ?_⟩
 by_cases c0 : l.length = 0
 ·refine .inl ⟨trivial, c0, trivial, ?_⟩
  rw [List.eq_nil_of_length_eq_zero c0]; rfl
 ·obtain ⟨_, _, h3⟩ := hr
  obtain ⟨ad, rfl, h4⟩ := h3 (by omega)
  have cell : ∀ j, j < l.length → w.cell? (ad.add j) = some (.int .u64 ((dw (vL l) j : Nat) : Int)) := by
   intro j hj
   obtain ⟨c', _, e1, e2⟩ := h4 j _ (vL_at hm hj)
   obtain rfl : c' = [.int .u64 ((dw (vL l) j : Nat) : Int)] := e1
   have := e2 0 _ rfl
   simpa [Kd.int, Kd.scalar] using this
  obtain ⟨G, o, sp⟩ := ad
  have hs : sp = none := by
   have h0 := cell 0 (by omega)
   cases sp with
   | none => rfl
   | some s =>
    exfalso
    unfold Addr.add at h0
    rw [if_pos rfl] at h0
    unfold World.cell? at h0
    split at h0
    ·simp at h0
    ·simp at h0
  subst hs
  refine .inr ⟨G, o, rfl, ⟨vL_lt hm, fun j hj => ?_⟩⟩
  have := cell j hj
  unfold Addr.add at this
  by_cases cj : j = 0
  ·subst cj; simpa using this
  ·simpa [cj] using this
theorem nt_of {w : World} {A : Option Addr} {c : Nat} {l : List Int} (hr : Kd.C (Kd.int .u64) w A l.length l) (hc : l.length ≤ c) (ho : fmL l = true) : Nt w A c (vL l) := by
 obtain ⟨h1, h2, _⟩ := fmL_iff.1 ho
 have := rw_of hr hc h1
 rwa [h2] at this
theorem R_of {W w : World} {v : Value} {x : Nat} (h : Ans W w v x) : Kd.R (Kd.int .u64) 26 w W.heap.size (fun _ => True) v (lb x) ∧ Below W.heap.size W w := by
 obtain ⟨⟨G, N, rfl, o, h1, h2⟩⟩ := h
 refine ⟨Kd.R_of_own (enc := Value.int .u64) ⟨by simp [encs, lb_len], .inr ⟨G, N, rowOf x N, by rw [lb_len], o.le, o.blk, by rw [lb_len]; exact h1, by unfold maxLen; omega, by rw [rowOf_size, Nat.mul_one], ?_⟩⟩ (fun _ _ => trivial), o.below⟩
 rw [rowOf_eq]
 apply List.ext_getElem?
 intro j
 rw [Nat.mul_one, lb_len]
 by_cases c : j < nl x
 ·rw [List.getElem?_take_of_lt c]
  simp [rowOf0, encs, lb, c, Nat.lt_of_lt_of_le c h1]
 ·rw [List.getElem?_eq_none (by rw [List.length_take]; omega), List.getElem?_eq_none (by simp [encs, lb_len]; omega)]
theorem nat_Add.calls (A0 : Option Addr) (c0 : Nat) (l0 : List Int) (A1 : Option Addr) (c1 : Nat) (l1 : List Int) (r1 : List Int) (r2 : Int) (w : World) (hr0 : Kd.C (Kd.int .u64) w A0 l0.length l0) (hc0 : l0.length ≤ c0) (hr1 : Kd.C (Kd.int .u64) w A1 l1.length l1) (hc1 : l1.length ≤ c1) (h : nat_Add.f l0 l1 = some (r1, r2)) :
  Calls Tryz.prog 90 #[.slice A0 l0.length c0, .slice A1 l1.length c1] w fun e w' => ∃ v0_ : Value, e = .returned (.tuple #[v0_, .int .i64 r2]) ∧ Kd.R (Kd.int .u64) 26 w' w.heap.size (fun _ => True) v0_ r1 ∧ Below w.heap.size w w' := by
 unfold nat_Add.f at h
 by_cases c : fmL l0 = true ∧ fmL l1 = true ∧ nl (vL l0 + vL l1) ≤ 8192
 ·rw [if_pos c] at h
  obtain ⟨rfl, rfl⟩ := Prod.mk.inj (Option.some.inj h)
  obtain ⟨h1, h2, h3⟩ := fmL_iff.1 c.1
  obtain ⟨k1, k2, k3⟩ := fmL_iff.1 c.2.1
  have := add_any w A0 A1 c0 c1 (vL l0) (vL l1) (nt_of hr0 hc0 c.1) (nt_of hr1 hc1 c.2.1) (by omega) (by omega) c.2.2
  rw [← h2, ← k2] at this
  refine this.mono ?_
  rintro e w' ⟨v, rfl, h4⟩
  exact ⟨v, rfl, R_of h4⟩
 ·rw [if_neg c] at h; cases h
end Go.Proofs.YtapikmfckpgjoaaGreatDoor.Given
end
section
set_option linter.unusedVariables false
namespace Go.Proofs.YtapikmfckpgjoaaGreatDoor.PLib
open Go Go.RowKit Go.Proofs.YtapikmfckpgjoaaGreatDoorW.PrintWords Go.Proofs.YtapikmfckpgjoaaGreatDoor.Px
theorem pf_from (n : Int) (w : World) : (callFunc 40 #[.int .u64 n]).run Tryz.prog w = .ok (.value (.float .f64 n.toNat)) w := by
 rw [run_callFunc_extern (P := Tryz.prog) (f := 40) (fn := Tryz.f40) (e := Extern.MathFloatBits.float64frombits) (by kernel_rfl) (by kernel_rfl) (by kernel_rfl) (by kernel_rfl) (by kernel_rfl)]
 rfl
theorem pf_bits (b : Nat) (w : World) : (callFunc 36 #[.float .f64 b]).run Tryz.prog w = .ok (.value (.int .u64 b)) w := by
 rw [run_callFunc_extern (P := Tryz.prog) (f := 36) (fn := Tryz.f36) (e := Extern.MathFloatBits.float64bits) (by kernel_rfl) (by kernel_rfl) (by kernel_rfl) (by kernel_rfl) (by kernel_rfl)]
 rfl
theorem fl_from (n : Int) : ExtC Tryz.prog 40 [.s (.i .u64 n)] (.s (.fl .f64 n.toNat)) := by
 intro w T vs hv
 obtain ⟨us, rfl, h2⟩ := a_i hv
 obtain rfl := a_nil h2
 exact ⟨_, pf_from n w, rfl⟩
theorem fl_bits (n : Nat) : ExtC Tryz.prog 36 [.s (.fl .f64 n)] (.s (.i .u64 (n : Int))) := by
 intro w T vs hv
 cases hv with
 | cons h1 h2 =>
  obtain rfl := h1
  obtain rfl := a_nil h2
  exact ⟨_, pf_bits n w, rfl⟩
end Go.Proofs.YtapikmfckpgjoaaGreatDoor.PLib
end
section
set_option linter.unusedVariables false
namespace Go.Proofs.YtapikmfckpgjoaaGreatDoor.GO
open Go.RowKit Go.Proofs.YtapikmfckpgjoaaGreatDoorW.PrintWords Go.Proofs.YtapikmfckpgjoaaGreatDoorW.PrintMore Go.Proofs.YtapikmfckpgjoaaGreatDoorW.PrintLast Go.Proofs.YtapikmfckpgjoaaGreatDoor.Num Go.Proofs.YtapikmfckpgjoaaGreatDoor.Ref Go.Proofs.YtapikmfckpgjoaaGreatDoor.GBase Go.Proofs.YtapikmfckpgjoaaGreatDoor.GTh Go.Proofs.YtapikmfckpgjoaaGreatDoor.GA Go.Proofs.YtapikmfckpgjoaaGreatDoor.GB Go.Proofs.YtapikmfckpgjoaaGreatDoor.GC
theorem ij_wrap {i j : Nat} (h : i + j < 1099511627776) : IntKind.i64.wrap ((i : Int) + (j : Int)) = ((i + j : Nat) : Int) := by rw [IntWalk.i64_in _ (by omega)]; omega
theorem ij_w64 {i j : Nat} (h : i + j < 1099511627776) : wrap64 ((i : Int) + (j : Int)) = ((i + j : Nat) : Int) := by rw [w64 (by omega) (by omega)]; omega
end Go.Proofs.YtapikmfckpgjoaaGreatDoor.GO
end
section
set_option linter.unusedVariables false
namespace Go.Proofs.YtapikmfckpgjoaaGreatDoor.GP
open Go.RowKit Go.Proofs.YtapikmfckpgjoaaGreatDoorW.PrintWords Go.Proofs.YtapikmfckpgjoaaGreatDoorW.PrintMore Go.Proofs.YtapikmfckpgjoaaGreatDoorW.PrintLast Go.Proofs.YtapikmfckpgjoaaGreatDoor.Num Go.Proofs.YtapikmfckpgjoaaGreatDoor.Ref Go.Proofs.YtapikmfckpgjoaaGreatDoor.GBase Go.Proofs.YtapikmfckpgjoaaGreatDoor.GTh Go.Proofs.YtapikmfckpgjoaaGreatDoor.GA Go.Proofs.YtapikmfckpgjoaaGreatDoor.GB Go.Proofs.YtapikmfckpgjoaaGreatDoor.GC Go.Proofs.YtapikmfckpgjoaaGreatDoor.GO
structure AnT (W w : World) (v : Value) (x : Nat) : Prop where mk :: (ex : ∃ G N c, v = .slice (some ⟨G, 0, none⟩) (nl x) c ∧ Own W w G N x ∧ nl x ≤ N ∧ nl x ≤ c ∧ N < 1099511627776)
theorem mtrim_some (w : World) (G o n c x : Nat) (h : At w G o n x) (hc : n ≤ c) (hn : n < 1099511627776) : Calls Tryz.prog 128 #[.slice (some ⟨G, o, none⟩) n c] w fun e w' => e = .returned (.slice (some ⟨G, o, none⟩) (nl x) (nl x)) ∧ w' = w := by
 have HC := Lib.hid h
 have HN := Lib.hid (And.intro hc hn)
 clear h hc hn
 go_enter Tryz.func128, Tryz.ntmps128
 go_wp2_with fail
 go_loopg [3] n (fun g i wr => g ≤ n ∧ nl x ≤ g ∧ i = .int .i64 g ∧ wr = w)
 case atStart => exact ⟨Nat.le_refl _, nl_le_iff.2 HC.out.big, rfl, rfl⟩
 case round =>
  obtain ⟨hg, hx, rfl, rfl⟩ := hrel
  generalize gk = m at *
  have hn := HN.out.2
  have hcc := HN.out.1
  by_cases c0 : m = 0
  ·subst c0
   have e : nl x = 0 := by omega
   clear hg hx hn hcc
   go_wp2_with fail
   go_ret
   exact ⟨by rw [e]; rfl, rfl⟩
  ·obtain ⟨k, hk⟩ : ∃ k, m = k + 1 := ⟨m - 1, by omega⟩
   have q0 : decide (0 < m) = true := decide_eq_true (by omega)
   have q1 : IntKind.i64.wrap ((m : Int) - 1) = (k : Int) := by rw [IntWalk.i64_in _ (by omega)]; omega
   have q2 : (k : Int) < (n : Int) := by omega
   have q3 : decide (k < n) = true := decide_eq_true (by omega)
   have cc := HC.out.cell k (by omega)
   by_cases cd : dw x k = 0
   ·have H := Lib.hid (And.intro hk (show nl x ≤ k from nl_le_iff.2 (lt_of_dw (by rw [← hk]; exact nl_le_iff.1 hx) cd)))
    rw [cd] at cc
    clear hk hx hg c0 cd hn hcc
    go_wp2_with fail
    go_roundg k
    case measure => have := H.out.1; omega
    case rel => exact ⟨by omega, H.out.2, rfl, rfl⟩
   ·have e : nl x = m := by rw [hk]; exact nl_of (by rw [← hk]; exact nl_le_iff.1 hx) cd
    generalize dw x k = d at *
    have q4 : ((d : Int) == 0) = false := by simpa using cd
    have q5 : (m : Int) ≤ (c : Int) := by omega
    have q6 : (m : Int) ≤ (m : Int) := Int.le_refl _
    have E := Lib.hid e
    clear hk hx c0 cd e hn hg
    go_wp2_with fail
    go_ret
    exact ⟨by rw [E.out]; rfl, rfl⟩
def FillC (a b : Nat) : Prop := ∀ (W w : World) (A B : Option Addr) (ca cb G cz : Nat), Own W w G (nl a + nl b) 0 → Nt W A ca a → Nt W B cb b → Calls Tryz.prog 127 #[.slice (some ⟨G, 0, none⟩) (nl a + nl b : Nat) cz, .slice A (nl a) ca, .slice B (nl b) cb] w fun e w' => e = .returned (.tuple #[]) ∧ Own W w' G (nl a + nl b) (a * b)
theorem product_any (w : World) (A B : Option Addr) (ca cb a b : Nat) (hA : Nt w A ca a) (hB : Nt w B cb b) (hF : FillC a b) (hs : nl a + nl b < 1099511627776) :
  Calls Tryz.prog 110 #[.slice A (nl a) ca, .slice B (nl b) cb] w fun e w' => ∃ v, e = .returned v ∧ AnT w w' v (a * b) := by
 have hab : a * b < pw (nl a + nl b) := by
  rw [pw_add]
  have h1 := nl_lt a
  have h2 := nl_lt b
  exact Nat.lt_of_lt_of_le (Nat.mul_lt_mul_of_lt_of_le h1 (Nat.le_of_lt h2) (pw_pos _)) (Nat.le_refl _)
 have F := Lib.hid (fun w' G cz hO => hF w w' A B ca cb G cz hO hA hB)
 clear hA hB hF
 obtain ⟨N, hN⟩ : ∃ N, N = nl a + nl b := ⟨_, rfl⟩
 rw [← hN] at hab hs F
 have q1 : IntKind.i64.wrap (((nl a : Nat) : Int) + ((nl b : Nat) : Int)) = (N : Int) := by rw [ij_wrap (by omega), hN]
 have q2 : wrap64 (((nl a : Nat) : Int) + ((nl b : Nat) : Int)) = (N : Int) := by rw [ij_w64 (by omega), hN]
 have HB := Lib.hid (And.intro hab hs)
 clear hab hN
 generalize nl a = n at *
 generalize nl b = m at *
 go_enter Tryz.func110, Tryz.ntmps110
 go_wp2_with (rw [make_row _ hs]; go_simp)
 have O0 := Lib.hid (Own.made w N)
 refine (F.out _ _ _ O0.out).mono ?_
 rintro e w1 ⟨rfl, h⟩
 have H := Lib.hid h
 have T := Lib.hid (mtrim_some w1 w.heap.size 0 N N (a * b) (h.at HB.out.1) (Nat.le_refl _) HB.out.2)
 clear h
 go_wp2_with fail
 refine T.out.mono ?_
 rintro e w2 ⟨rfl, rfl⟩
 go_wp2_with fail
 go_ret
 exact ⟨_, rfl, ⟨⟨_, _, _, rfl, H.out, nl_le_iff.2 HB.out.1, Nat.le_refl _, HB.out.2⟩⟩⟩
theorem mtold_ok (w : World) (v : Value) (A : Option Addr) (n c : Nat) (hv : v = .slice A n c) (hn : n ≤ 8192) : Calls Tryz.prog 109 #[v] w fun e w' => e = .returned (.tuple #[v, .int .i64 0]) ∧ w' = w := by
 subst hv
 have q0 : decide ((8192 : Int) < (n : Int)) = false := decide_eq_false (by omega)
 go_enter Tryz.func109, Tryz.ntmps109
 go_wp2_with fail
 go_ret2
 exact ⟨rfl, rfl⟩
theorem mul_any (w : World) (A B : Option Addr) (ca cb a b : Nat) (hA : Nt w A ca a) (hB : Nt w B cb b) (hF : FillC a b) (la : nl a ≤ 8192) (lb : nl b ≤ 8192) (ls : nl (a * b) ≤ 8192) :
  Calls Tryz.prog 83 #[.slice A (nl a) ca, .slice B (nl b) cb] w fun e w' => ∃ v, e = .returned (.tuple #[v, .int .i64 0]) ∧ AnT w w' v (a * b) := by
 have FA := Lib.hid (form_any w A ca a hA la)
 have FB := Lib.hid (form_any w B cb b hB lb)
 have P := Lib.hid (product_any w A B ca cb a b hA hB hF (by omega))
 have LS := Lib.hid ls
 clear hA hB hF la lb ls
 generalize nl a = n at *
 generalize nl b = m at *
 go_enter Tryz.func83, Tryz.ntmps83
 go_wp2_with fail
 refine FA.out.mono ?_
 rintro e w1 ⟨rfl, rfl⟩
 go_wp2_with fail
 refine FB.out.mono ?_
 rintro e w2 ⟨rfl, rfl⟩
 go_wp2_with fail
 refine P.out.mono ?_
 rintro e w3 ⟨v, rfl, h⟩
 have H := Lib.hid h
 obtain ⟨⟨G, N, c, hv, _, _, _, _⟩⟩ := h
 have T := Lib.hid (mtold_ok w3 v (some ⟨G, 0, none⟩) (nl (a * b)) c hv LS.out)
 clear hv
 go_wp2_with fail
 refine T.out.mono ?_
 rintro e w4 ⟨rfl, rfl⟩
 go_wp2_with fail
 go_ret2
 exact ⟨v, rfl, H.out⟩
end Go.Proofs.YtapikmfckpgjoaaGreatDoor.GP
end
