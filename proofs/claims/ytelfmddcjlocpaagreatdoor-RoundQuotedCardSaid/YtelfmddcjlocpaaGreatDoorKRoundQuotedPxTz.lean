/- slices.Clone and dyadic.twin on rows of limbs of any length. Conditions: rows of less than 2^40 limbs. nat.Shl of nought; nat.Shr of all limbs; nat.Norm. Conditions: at most 8192 limbs. The naturals' functions answer as told (Given): their calls on lists of limbs in memory. Conditions: as the functions' own definitions say (lists in form, at most 8192 limbs). The given functions' contracts (Given) as contracts of Px. Condition: as there. math/bits.TrailingZeros64 and Len64 as plain functions, their contracts by Px. Condition: math/bits' table is laid. -/
import Derived.Test.YtelfmddcjlocpaaGreatDoorKRoundQuotedGJ
import Derived.Test.YtelfmddcjlocpaaGreatDoorKRoundQuotedGivenD
section
namespace Go.Proofs.YtelfmddcjlocpaaGreatDoor.GK
open Go.RowKit Go.Proofs.YtelfmddcjlocpaaGreatDoorW.PrintWords Go.Proofs.YtelfmddcjlocpaaGreatDoorW.PrintMore Go.Proofs.YtelfmddcjlocpaaGreatDoorW.PrintLast Go.Proofs.YtelfmddcjlocpaaGreatDoor.Num Go.Proofs.YtelfmddcjlocpaaGreatDoor.Ref Go.Proofs.YtelfmddcjlocpaaGreatDoor.GBase Go.Proofs.YtelfmddcjlocpaaGreatDoor.GTab Go.Proofs.YtelfmddcjlocpaaGreatDoor.GTh Go.Proofs.YtelfmddcjlocpaaGreatDoor.GA Go.Proofs.YtelfmddcjlocpaaGreatDoor.GB Go.Proofs.YtelfmddcjlocpaaGreatDoor.GC Go.Proofs.YtelfmddcjlocpaaGreatDoor.GG Go.Proofs.YtelfmddcjlocpaaGreatDoor.GH Go.Proofs.YtelfmddcjlocpaaGreatDoor.GI Go.Proofs.YtelfmddcjlocpaaGreatDoor.GJ
theorem At.set {w : World} {G o n x : Nat} (h : At w G o n x) {g : Nat} (hg : G ≠ g) (k : Nat) (v : Value) : At (w.setCell ⟨g, k, none⟩ v) G o n x :=
 ⟨h.big, fun j hj => (World.cell?_setCell_other _ _ _ _ (fun e => hg (congrArg Addr.block e).symm)).trans (h.cell j hj)⟩
theorem Rw.set {w : World} {A : Option Addr} {n c x : Nat} (h : Rw w A n c x) {g : Nat} (hg : ∀ G o, A = some ⟨G, o, none⟩ → G ≠ g) (k : Nat) (v : Value) : Rw (w.setCell ⟨g, k, none⟩ v) A n c x :=
 ⟨h.cap, h.row.imp id (fun ⟨G, o, e, q⟩ => ⟨G, o, e, At.set q (hg G o e) k v⟩)⟩
def lv (x n : Nat) : List Value := (List.range n).map fun j => .int .u64 ((dw x j : Nat) : Int)
theorem lv_len (x n : Nat) : (lv x n).length = n := by simp [lv]
theorem lv_at {x n j : Nat} (h : j < n) : (lv x n)[j]? = some (.int .u64 ((dw x j : Nat) : Int)) := by simp [lv, h]
theorem lv_one (x n : Nat) : ∀ u ∈ lv x n, u.oneCell' = true := by
 intro u hu
 obtain ⟨j, _, rfl⟩ := List.mem_map.1 hu
 rfl
theorem lv_cells {w : World} {G o n x : Nat} (h : At w G o n x) : ∀ (j : Nat) (u : Value), (lv x n)[j]? = some u → w.cell? ((⟨G, o, none⟩ : Addr).add j) = some u := by
 intro j u hj
 have hlt : j < n := by
  have := (List.getElem?_eq_some_iff.1 hj).1
  rwa [lv_len] at this
 rw [lv_at hlt] at hj
 exact (congrArg w.cell? (by simp [Addr.add])).trans ((h.cell j hlt).trans hj)
theorem eq_nil_c (c : Nat) (w : World) : Sem.run Tryz.prog (binOp BinOp.eql 22 (Value.slice none 0 c) (Value.slice none 0 0)) w = .ok (.bool true) w := by kernel_rfl
theorem clone_none (c : Nat) (w : World) : Calls Tryz.prog 96 #[.slice none 0 c] w fun e w' => e = .returned (.slice none 0 0) ∧ Below w.heap.size w w' := by
 go_enter Tryz.func96, Tryz.ntmps96
 go_wp2_with (rw [eq_nil_c]; go_simp)
 go_ret
 exact ⟨rfl, Below.refl _ _⟩
set_option maxRecDepth 100000 in
theorem clone_some (ad : Addr) (n c : Nat) (l : List Value) (w : World) (hl : l.length = n) (h1 : ∀ u ∈ l, u.oneCell' = true) (h : ∀ (j : Nat) (u : Value), l[j]? = some u → w.cell? (ad.add j) = some u) (hn : n < 1099511627776) : Calls Tryz.prog 96 #[.slice (some ad) n c] w fun e w' => ∃ v, e = .returned v ∧ w'.ownsRow w.heap.size 29 1 v n l ∧ Below w.heap.size w w' := by
 obtain ⟨i0, h1', h2, h3, h4⟩ := info_parts u64_info
 have HI := Lib.hid (And.intro h1' (And.intro h2 (And.intro h3 h4)))
 have H : ∀ (j : Nat) (u : Value), l[j]? = some u → (w.alloc (Obj.cells #[] 29)).cell? (ad.add j) = some u := fun j u e => by
  rw [(box w (Obj.cells #[] 29)).cell (World.block_lt_of_cell? _ _ (h j u e))]; exact h j u e
 have HX := Lib.hid (And.intro H (And.intro h1 (And.intro hl hn)))
 have HO := Lib.hid (World.ownsRow_made (e := 29) (base := w.heap.size) (size := 1) w #[] 0 (Nat.le_refl _) (Nat.zero_le _) rfl)
 clear h1' h2 h3 h4 h hn H hl h1
 go_enter Tryz.func96, Tryz.ntmps96
 go_wp2_with (first | (rw [eq_nil_1]; go_simp) | (at_builtin; refine wpList_append_own _ rfl (.tmp 5) (.tmp 6) 22 rfl w.heap.size 29 i0 (.int .u64 0) 1 8 Tryz.underlying22 HI.out.1 HI.out.2.1 HI.out.2.2.1 HI.out.2.2.2 rfl (by decide) (.slice (some ⟨w.heap.size, 0, none⟩) 0 0) _ _ rfl HO.out ad n c l rfl (by rw [HX.out.2.2.1, Nat.mul_one]) HX.out.1 HX.out.2.1 (by have := HX.out.2.2.2; unfold maxLen; omega) (by have := HX.out.2.2.2; omega) (by simp) ?_))
 intro u' w1 hown1 hg1 hnn
 have hbel := Below.grown (box w (Obj.cells #[] 29)) hg1 (by simp) (by
  intro k hk
  simp [Value.ownBlock] at hk
  omega)
 have HR := Lib.hid (And.intro (show w1.ownsRow w.heap.size 29 1 u' n l by simpa using hown1) hbel)
 clear hown1 hg1 hbel hnn
 go_wp2_with fail
 go_ret
 exact ⟨_, rfl, HR.out.1, HR.out.2⟩
end Go.Proofs.YtelfmddcjlocpaaGreatDoor.GK
end
section
namespace Go.Proofs.YtelfmddcjlocpaaGreatDoor.GL
open Go.RowKit Go.Proofs.YtelfmddcjlocpaaGreatDoorW.PrintWords Go.Proofs.YtelfmddcjlocpaaGreatDoorW.PrintMore Go.Proofs.YtelfmddcjlocpaaGreatDoorW.PrintLast Go.Proofs.YtelfmddcjlocpaaGreatDoor.Num Go.Proofs.YtelfmddcjlocpaaGreatDoor.Ref Go.Proofs.YtelfmddcjlocpaaGreatDoor.GBase Go.Proofs.YtelfmddcjlocpaaGreatDoor.GTab Go.Proofs.YtelfmddcjlocpaaGreatDoor.GTh Go.Proofs.YtelfmddcjlocpaaGreatDoor.GA Go.Proofs.YtelfmddcjlocpaaGreatDoor.GB Go.Proofs.YtelfmddcjlocpaaGreatDoor.GC Go.Proofs.YtelfmddcjlocpaaGreatDoor.GG Go.Proofs.YtelfmddcjlocpaaGreatDoor.GH Go.Proofs.YtelfmddcjlocpaaGreatDoor.GI Go.Proofs.YtelfmddcjlocpaaGreatDoor.GJ Go.Proofs.YtelfmddcjlocpaaGreatDoor.GK
theorem shl_zero (w : World) (A : Option Addr) (c n : Nat) : Calls Tryz.prog 37 #[.slice A 0 c, .int .i64 (n : Int)] w fun e w' => e = .returned (.tuple #[.slice none 0 0, .int .i64 0]) ∧ w' = w := by
 have HF := form_any w A c 0 ⟨Nat.zero_le _, .inl ⟨trivial, rfl, trivial, rfl⟩⟩ (by decide)
 rw [nl_zero] at HF
 have HF := Lib.hid HF
 have q0 : decide ((n : Int) < 0) = false := decide_eq_false (by omega)
 go_enter Tryz.func37, Tryz.ntmps37
 go_wp2_with fail
 refine HF.out.mono ?_
 rintro e w1 ⟨rfl, rfl⟩
 go_wp2_with fail
 go_ret2
 exact ⟨rfl, rfl⟩
set_option maxRecDepth 100000 in
theorem shr_far (w : World) (A : Option Addr) (c x n : Nat) (h : Nt w A c x) (hl : nl x ≤ 8192) (hlim : nl x ≤ n / 64) (hlim2 : n < 9223372036854775808) : Calls Tryz.prog 82 #[.slice A (nl x) c, .int .i64 (n : Int)] w fun e w' => e = .returned (.tuple #[.slice none 0 0, .int .i64 0]) ∧ w' = w := by
 have HF := Lib.hid (form_any w A c x h hl)
 have q0 : decide ((n : Int) < 0) = false := decide_eq_false (by omega)
 obtain ⟨p, hp⟩ : ∃ p, p = n / 64 := ⟨_, rfl⟩
 obtain ⟨k, hk⟩ : ∃ k, k = n % 64 := ⟨_, rfl⟩
 have q1 : (n : Int) / 64 = (p : Int) := by omega
 have q4 : (n : Int) % 64 = (k : Int) := by omega
 have q5 : IntKind.i64.wrap (k : Int) = (k : Int) := IntWalk.i64_in _ (by omega)
 have q8 : wrap64 (k : Int) = (k : Int) := by rw [w64 (by omega) (by omega)]
 by_cases hz : p < 9223372036854775808
 case neg => exact absurd hlim2 (by omega)
 have q6 : IntKind.i64.wrap (p : Int) = (p : Int) := IntWalk.i64_in _ (by omega)
 have q7 : wrap64 (p : Int) = (p : Int) := by rw [w64 (by omega) (by omega)]
 generalize nl x = s at *
 have q2 : decide ((s : Int) ≤ (p : Int)) = true := decide_eq_true (by omega)
 have q3 : decide (s ≤ p) = true := decide_eq_true (by omega)
 clear h hl hlim hlim2 hp hk hz
 go_enter Tryz.func82, Tryz.ntmps82
 go_wp2_with fail
 refine HF.out.mono ?_
 rintro e w1 ⟨rfl, rfl⟩
 go_wp2_with fail
 go_ret2
 exact ⟨rfl, rfl⟩
end Go.Proofs.YtelfmddcjlocpaaGreatDoor.GL
end
section
namespace Go.Proofs.YtelfmddcjlocpaaGreatDoor.Given
open Go.RowKit Go.Proofs.YtelfmddcjlocpaaGreatDoorW.PrintWords Go.Proofs.YtelfmddcjlocpaaGreatDoorW.PrintMore Go.Proofs.YtelfmddcjlocpaaGreatDoorW.PrintLast Go.Proofs.YtelfmddcjlocpaaGreatDoor.Num Go.Proofs.YtelfmddcjlocpaaGreatDoor.Ref Go.Proofs.YtelfmddcjlocpaaGreatDoor.GBase Go.Proofs.YtelfmddcjlocpaaGreatDoor.GTab Go.Proofs.YtelfmddcjlocpaaGreatDoor.GTh Go.Proofs.YtelfmddcjlocpaaGreatDoor.GA Go.Proofs.YtelfmddcjlocpaaGreatDoor.GB Go.Proofs.YtelfmddcjlocpaaGreatDoor.GC Go.Proofs.YtelfmddcjlocpaaGreatDoor.GG Go.Proofs.YtelfmddcjlocpaaGreatDoor.GH Go.Proofs.YtelfmddcjlocpaaGreatDoor.GI Go.Proofs.YtelfmddcjlocpaaGreatDoor.GJ Go.Proofs.YtelfmddcjlocpaaGreatDoor.GK Go.Proofs.YtelfmddcjlocpaaGreatDoor.GL
theorem rw_of {w : World} {A : Option Addr} {c : Nat} {l : List Int} (hr : Kd.C (Kd.int .u64) w A l.length l) (hc : l.length ≤ c) (ho : okL l = true) : Rw w A l.length c (vL l) := by
 have hm := (okL_iff.1 ho).2
 refine ⟨hc, ?_⟩
 by_cases c0 : l.length = 0
 ·refine .inl ⟨trivial, c0, trivial, ?_⟩
  rw [List.eq_nil_of_length_eq_zero c0]; rfl
 ·obtain ⟨_, _, h3⟩ := hr
  obtain ⟨ad, rfl, h4⟩ := h3 (by omega)
  have cell : ∀ j, j < l.length → w.cell? (ad.add j) = some (.int .u64 ((dw (vL l) j : Nat) : Int)) := by
   intro j hj
   obtain ⟨c', _, e1, e2⟩ := h4 j _ (vL_at hm hj)
   obtain rfl : c' = [.int .u64 ((dw (vL l) j : Nat) : Int)] := e1
   have := e2 0 _ rfl
   simpa [Kd.int, Kd.scalar] using this
  obtain ⟨G, o, sp⟩ := ad
  have hs : sp = none := by
   have h0 := cell 0 (by omega)
   cases sp with
   | none => rfl
   | some s =>
    exfalso
    unfold Addr.add at h0
    rw [if_pos rfl] at h0
    unfold World.cell? at h0
    split at h0
    ·simp at h0
    ·simp at h0
  subst hs
  refine .inr ⟨G, o, rfl, ⟨vL_lt hm, fun j hj => ?_⟩⟩
  have := cell j hj
  unfold Addr.add at this
  by_cases cj : j = 0
  ·subst cj; simpa using this
  ·simpa [cj] using this
theorem nt_of {w : World} {A : Option Addr} {c : Nat} {l : List Int} (hr : Kd.C (Kd.int .u64) w A l.length l) (hc : l.length ≤ c) (ho : fmL l = true) : Nt w A c (vL l) := by
 obtain ⟨h1, h2, _⟩ := fmL_iff.1 ho
 have := rw_of hr hc h1
 rwa [h2] at this
theorem R_of {W w : World} {v : Value} {x : Nat} (h : Ans W w v x) : Kd.R (Kd.int .u64) 29 w W.heap.size (fun _ => True) v (lb x) ∧ Below W.heap.size W w := by
 obtain ⟨⟨G, N, rfl, o, h1, h2⟩⟩ := h
 refine ⟨Kd.R_of_own (enc := Value.int .u64) ⟨by simp [encs, lb_len], .inr ⟨G, N, rowOf x N, by rw [lb_len], o.le, o.blk, by rw [lb_len]; exact h1, by unfold maxLen; omega, by rw [rowOf_size, Nat.mul_one], ?_⟩⟩ (fun _ _ => trivial), o.below⟩
 rw [rowOf_eq]
 apply List.ext_getElem?
 intro j
 rw [Nat.mul_one, lb_len]
 by_cases c : j < nl x
 ·rw [List.getElem?_take_of_lt c]
  simp [rowOf0, encs, lb, c, Nat.lt_of_lt_of_le c h1]
 ·rw [List.getElem?_eq_none (by rw [List.length_take]; omega), List.getElem?_eq_none (by simp [encs, lb_len]; omega)]
theorem R_nil0 (w : World) : Kd.R (Kd.int .u64) 29 w w.heap.size (fun _ => True) (.slice none 0 0) (lb 0) := Kd.R_nil _ _ _ _ _
theorem nat_Bits.calls (A0 : Option Addr) (c0 : Nat) (l0 : List Int) (r : Int) (w : World) (hr0 : Kd.C (Kd.int .u64) w A0 l0.length l0) (hc0 : l0.length ≤ c0) (h : nat_Bits.f l0 = some r) :
  Calls Tryz.prog 36 #[.slice A0 l0.length c0] w fun e w' => e = .returned (.int .i64 r) ∧ Below w.heap.size w w' := by
 unfold nat_Bits.f at h
 by_cases c : okL l0 = true
 ·rw [if_pos c] at h
  obtain rfl := Option.some.inj h
  exact bits_any w A0 l0.length c0 (vL l0) (rw_of hr0 hc0 c) (okL_iff.1 c).1
 ·rw [if_neg c] at h; cases h
theorem nat_Trail.calls (A0 : Option Addr) (c0 : Nat) (l0 : List Int) (r : Int) (w : World) (hr0 : Kd.C (Kd.int .u64) w A0 l0.length l0) (hc0 : l0.length ≤ c0) (hT : Tab w) (h : nat_Trail.f l0 = some r) :
  Calls Tryz.prog 92 #[.slice A0 l0.length c0] w fun e w' => e = .returned (.int .i64 r) ∧ Below w.heap.size w w' := by
 unfold nat_Trail.f at h
 by_cases c : fmL l0 = true ∧ vL l0 ≠ 0
 ·rw [if_pos c] at h
  obtain rfl := Option.some.inj h
  obtain ⟨h1, h2, h3⟩ := fmL_iff.1 c.1
  have := trail_any w A0 c0 (vL l0) (tz (vL l0)) (nt_of hr0 hc0 c.1) (by omega) (tz_spec c.2) hT
  rw [← h2] at this
  refine this.mono ?_
  rintro e w' ⟨rfl, rfl⟩
  exact ⟨rfl, Below.refl _ _⟩
 ·rw [if_neg c] at h; cases h
theorem nat_Shl.calls (A0 : Option Addr) (c0 : Nat) (l0 : List Int) (a1 : Int) (r1 : List Int) (r2 : Int) (w : World) (hr0 : Kd.C (Kd.int .u64) w A0 l0.length l0) (hc0 : l0.length ≤ c0) (h : nat_Shl.f l0 a1 = some (r1, r2)) :
  Calls Tryz.prog 37 #[.slice A0 l0.length c0, .int .i64 a1] w fun e w' => ∃ v0_ : Value, e = .returned (.tuple #[v0_, .int .i64 r2]) ∧ Kd.R (Kd.int .u64) 29 w' w.heap.size (fun _ => True) v0_ r1 ∧ Below w.heap.size w w' := by
 unfold nat_Shl.f at h
 by_cases c : fmL l0 = true ∧ 0 ≤ a1 ∧ (vL l0 = 0 ∨ bl (vL l0) + a1.toNat ≤ 524288)
 ·rw [if_pos c] at h
  obtain ⟨rfl, rfl⟩ := Prod.mk.inj (Option.some.inj h)
  obtain ⟨h1, h2, h3⟩ := fmL_iff.1 c.1
  obtain ⟨n, rfl⟩ : ∃ n : Nat, a1 = (n : Int) := ⟨a1.toNat, by have := c.2.1; omega⟩
  rw [Int.toNat_natCast] at c ⊢
  by_cases z : vL l0 = 0
  ·rw [z, nl_zero] at h2
   rw [z, Nat.zero_mul, h2]
   refine (shl_zero w A0 c0 n).mono ?_
   rintro e w' ⟨rfl, rfl⟩
   exact ⟨_, rfl, R_nil0 _, Below.refl _ _⟩
  ·have := shl_any w A0 c0 (vL l0) n (nt_of hr0 hc0 c.1) z (c.2.2.resolve_left z)
   rw [← h2] at this
   refine this.mono ?_
   rintro e w' ⟨v, rfl, h4⟩
   exact ⟨v, rfl, R_of h4⟩
 ·rw [if_neg c] at h; cases h
theorem nat_Shr.calls (A0 : Option Addr) (c0 : Nat) (l0 : List Int) (a1 : Int) (r1 : List Int) (r2 : Int) (w : World) (hr0 : Kd.C (Kd.int .u64) w A0 l0.length l0) (hc0 : l0.length ≤ c0) (h : nat_Shr.f l0 a1 = some (r1, r2)) :
  Calls Tryz.prog 82 #[.slice A0 l0.length c0, .int .i64 a1] w fun e w' => ∃ v0_ : Value, e = .returned (.tuple #[v0_, .int .i64 r2]) ∧ Kd.R (Kd.int .u64) 29 w' w.heap.size (fun _ => True) v0_ r1 ∧ Below w.heap.size w w' := by
 unfold nat_Shr.f at h
 by_cases c : fmL l0 = true ∧ 0 ≤ a1 ∧ a1 < 9223372036854775808
 ·rw [if_pos c] at h
  obtain ⟨rfl, rfl⟩ := Prod.mk.inj (Option.some.inj h)
  obtain ⟨h1, h2, h3⟩ := fmL_iff.1 c.1
  obtain ⟨n, rfl⟩ : ∃ n : Nat, a1 = (n : Int) := ⟨a1.toNat, by have := c.2.1; omega⟩
  rw [Int.toNat_natCast]
  by_cases z : nl (vL l0) ≤ n / 64
  ·have := shr_far w A0 c0 (vL l0) n (nt_of hr0 hc0 c.1) (by omega) z (by have := c.2.2; omega)
   rw [← h2] at this
   have e0 : vL l0 / 2^n = 0 := by
    refine Nat.div_eq_of_lt (Nat.lt_of_lt_of_le (nl_lt _) ?_)
    show 2^(64 * nl (vL l0)) ≤ 2^n
    exact Nat.pow_le_pow_right (by decide) (by omega)
   rw [e0]
   refine this.mono ?_
   rintro e w' ⟨rfl, rfl⟩
   exact ⟨_, rfl, R_nil0 _, Below.refl _ _⟩
  ·have := shr_any w A0 c0 (vL l0) n (nt_of hr0 hc0 c.1) (by omega) (by omega)
   rw [← h2] at this
   refine this.mono ?_
   rintro e w' ⟨v, rfl, h4⟩
   exact ⟨v, rfl, R_of h4⟩
 ·rw [if_neg c] at h; cases h
theorem nat_Add.calls (A0 : Option Addr) (c0 : Nat) (l0 : List Int) (A1 : Option Addr) (c1 : Nat) (l1 : List Int) (r1 : List Int) (r2 : Int) (w : World) (hr0 : Kd.C (Kd.int .u64) w A0 l0.length l0) (hc0 : l0.length ≤ c0) (hr1 : Kd.C (Kd.int .u64) w A1 l1.length l1) (hc1 : l1.length ≤ c1) (h : nat_Add.f l0 l1 = some (r1, r2)) :
  Calls Tryz.prog 85 #[.slice A0 l0.length c0, .slice A1 l1.length c1] w fun e w' => ∃ v0_ : Value, e = .returned (.tuple #[v0_, .int .i64 r2]) ∧ Kd.R (Kd.int .u64) 29 w' w.heap.size (fun _ => True) v0_ r1 ∧ Below w.heap.size w w' := by
 unfold nat_Add.f at h
 by_cases c : fmL l0 = true ∧ fmL l1 = true ∧ nl (vL l0 + vL l1) ≤ 8192
 ·rw [if_pos c] at h
  obtain ⟨rfl, rfl⟩ := Prod.mk.inj (Option.some.inj h)
  obtain ⟨h1, h2, h3⟩ := fmL_iff.1 c.1
  obtain ⟨k1, k2, k3⟩ := fmL_iff.1 c.2.1
  have := add_any w A0 A1 c0 c1 (vL l0) (vL l1) (nt_of hr0 hc0 c.1) (nt_of hr1 hc1 c.2.1) (by omega) (by omega) c.2.2
  rw [← h2, ← k2] at this
  refine this.mono ?_
  rintro e w' ⟨v, rfl, h4⟩
  exact ⟨v, rfl, R_of h4⟩
 ·rw [if_neg c] at h; cases h
theorem slices_Clone_uint64_uint64.calls (A0 : Option Addr) (c0 : Nat) (l0 : List Int) (r : List Int) (w : World) (hr0 : Kd.C (Kd.int .u64) w A0 l0.length l0) (hc0 : l0.length ≤ c0) (h : slices_Clone_uint64_uint64.f l0 = some r) :
  Calls Tryz.prog 96 #[.slice A0 l0.length c0] w fun e w' => ∃ v0_ : Value, e = .returned (v0_) ∧ Kd.R (Kd.int .u64) 29 w' w.heap.size (fun _ => True) v0_ r ∧ Below w.heap.size w w' := by
 unfold slices_Clone_uint64_uint64.f at h
 by_cases c : l0.length < 1099511627776
 ·rw [if_pos c] at h
  obtain rfl := Option.some.inj h
  have key : ∀ ad, A0 = some ad → ∀ (j : Nat) (u : Value), (encs (Value.int .u64) l0)[j]? = some u → w.cell? (ad.add j) = some u := by
   intro ad e j u hj
   have hlt : j < l0.length := by
    have := (List.getElem?_eq_some_iff.1 hj).1
    simpa [encs] using this
   obtain ⟨_, _, h3⟩ := hr0
   obtain ⟨ad', e', h4⟩ := h3 (by omega)
   rw [e] at e'
   obtain rfl := Option.some.inj e'
   obtain ⟨c', _, e1, e2⟩ := h4 j _ (List.getElem?_eq_getElem hlt)
   obtain rfl : c' = [.int .u64 l0[j]] := e1
   have h5 := e2 0 _ rfl
   have h6 : u = .int .u64 l0[j] := by
    simp [encs, hlt] at hj
    exact hj.symm
   rw [h6]
   simpa [Kd.int, Kd.scalar] using h5
  cases A0 with
  | none =>
   have h0 : l0.length = 0 := by
    by_cases z : l0.length = 0
    ·exact z
    ·obtain ⟨_, _, h3⟩ := hr0
     obtain ⟨ad', e', _⟩ := h3 (by omega)
     cases e'
   have h1 := List.eq_nil_of_length_eq_zero h0
   subst h1
   refine (clone_none c0 w).mono ?_
   rintro e w' ⟨rfl, hb⟩
   exact ⟨_, rfl, Kd.R_nil _ _ _ _ _, hb⟩
  | some ad =>
   refine (clone_some ad l0.length c0 (encs (Value.int .u64) l0) w (by simp [encs]) (fun u hu => by
    obtain ⟨d, _, rfl⟩ := List.mem_map.1 hu
    rfl) (key ad rfl) c).mono ?_
   rintro e w' ⟨v, rfl, ho, hb⟩
   exact ⟨v, rfl, Kd.R_of_own ho (fun _ _ => trivial), hb⟩
 ·rw [if_neg c] at h; cases h
end Go.Proofs.YtelfmddcjlocpaaGreatDoor.Given
end
section
set_option linter.unusedVariables false
namespace Go.Proofs.YtelfmddcjlocpaaGreatDoor.Given
open Go Go.RowKit Go.Proofs.YtelfmddcjlocpaaGreatDoorW.PrintWords Go.Proofs.YtelfmddcjlocpaaGreatDoorW.PrintMore Go.Proofs.YtelfmddcjlocpaaGreatDoor.Px
theorem nat_Bits.c {l0 : List Int} {r : Int} (h : nat_Bits.f l0 = some r) : Con Tryz.prog Gw 36 [.s (.sl .u64 l0)] (· = .s (.i .i64 r)) := by
 refine brg Tryz.func36 (by kernel_rfl) fun w S vs gw hS vs_ => ?_
 obtain ⟨A0, c0, u0, rfl, hc0, hr0, v0⟩ := a_sl vs_
 obtain rfl := a_nil v0
 exact (nat_Bits.calls A0 c0 l0 r w hr0 hc0 h).mono fun e w' ⟨he, hb⟩ => ⟨_, _, he, rfl, rfl, hb⟩
theorem nat_Trail.c {l0 : List Int} {r : Int} (h : nat_Trail.f l0 = some r) : Con Tryz.prog Gw 92 [.s (.sl .u64 l0)] (· = .s (.i .i64 r)) := by
 refine brg Tryz.func92 (by kernel_rfl) fun w S vs gw hS vs_ => ?_
 obtain ⟨A0, c0, u0, rfl, hc0, hr0, v0⟩ := a_sl vs_
 obtain rfl := a_nil v0
 exact (nat_Trail.calls A0 c0 l0 r w hr0 hc0 gw h).mono fun e w' ⟨he, hb⟩ => ⟨_, _, he, rfl, rfl, hb⟩
theorem nat_Shl.c {l0 : List Int} {a1 : Int} {r : List Int × Int} (h : nat_Shl.f l0 a1 = some r) : Con Tryz.prog Gw 37 [.s (.sl .u64 l0), .s (.i .i64 a1)] (· = .tu [.s (.sl .u64 r.1), .s (.i .i64 r.2)]) := by
 refine brg Tryz.func37 (by kernel_rfl) fun w S vs gw hS vs_ => ?_
 obtain ⟨A0, c0, u0, rfl, hc0, hr0, v0⟩ := a_sl vs_
 obtain ⟨u1, rfl, v1⟩ := a_i v0
 obtain rfl := a_nil v1
 exact (nat_Shl.calls A0 c0 l0 a1 r.1 r.2 w hr0 hc0 h).mono fun e w' ⟨v0_, he, hR_v0_, hb⟩ => ⟨_, _, he, rfl, ⟨[v0_, .int .i64 r.2], rfl, (.cons (ofR hR_v0_ hS) (.cons rfl .nil))⟩, hb⟩
theorem nat_Shr.c {l0 : List Int} {a1 : Int} {r : List Int × Int} (h : nat_Shr.f l0 a1 = some r) : Con Tryz.prog Gw 82 [.s (.sl .u64 l0), .s (.i .i64 a1)] (· = .tu [.s (.sl .u64 r.1), .s (.i .i64 r.2)]) := by
 refine brg Tryz.func82 (by kernel_rfl) fun w S vs gw hS vs_ => ?_
 obtain ⟨A0, c0, u0, rfl, hc0, hr0, v0⟩ := a_sl vs_
 obtain ⟨u1, rfl, v1⟩ := a_i v0
 obtain rfl := a_nil v1
 exact (nat_Shr.calls A0 c0 l0 a1 r.1 r.2 w hr0 hc0 h).mono fun e w' ⟨v0_, he, hR_v0_, hb⟩ => ⟨_, _, he, rfl, ⟨[v0_, .int .i64 r.2], rfl, (.cons (ofR hR_v0_ hS) (.cons rfl .nil))⟩, hb⟩
theorem nat_Add.c {l0 : List Int} {l1 : List Int} {r : List Int × Int} (h : nat_Add.f l0 l1 = some r) : Con Tryz.prog Gw 85 [.s (.sl .u64 l0), .s (.sl .u64 l1)] (· = .tu [.s (.sl .u64 r.1), .s (.i .i64 r.2)]) := by
 refine brg Tryz.func85 (by kernel_rfl) fun w S vs gw hS vs_ => ?_
 obtain ⟨A0, c0, u0, rfl, hc0, hr0, v0⟩ := a_sl vs_
 obtain ⟨A1, c1, u1, rfl, hc1, hr1, v1⟩ := a_sl v0
 obtain rfl := a_nil v1
 exact (nat_Add.calls A0 c0 l0 A1 c1 l1 r.1 r.2 w hr0 hc0 hr1 hc1 h).mono fun e w' ⟨v0_, he, hR_v0_, hb⟩ => ⟨_, _, he, rfl, ⟨[v0_, .int .i64 r.2], rfl, (.cons (ofR hR_v0_ hS) (.cons rfl .nil))⟩, hb⟩
theorem slices_Clone_uint64_uint64.c {l0 : List Int} {r : List Int} (h : slices_Clone_uint64_uint64.f l0 = some r) : Con Tryz.prog Gw 96 [.s (.sl .u64 l0)] (· = .s (.sl .u64 r)) := by
 refine brg Tryz.func96 (by kernel_rfl) fun w S vs gw hS vs_ => ?_
 obtain ⟨A0, c0, u0, rfl, hc0, hr0, v0⟩ := a_sl vs_
 obtain rfl := a_nil v0
 exact (slices_Clone_uint64_uint64.calls A0 c0 l0 r w hr0 hc0 h).mono fun e w' ⟨v0_, he, hR_v0_, hb⟩ => ⟨_, _, he, rfl, ofR hR_v0_ hS, hb⟩
end Go.Proofs.YtelfmddcjlocpaaGreatDoor.Given
end
section
set_option linter.unusedVariables false
namespace Go.Proofs.YtelfmddcjlocpaaGreatDoor.Given
open Go Go.RowKit Go.Proofs.YtelfmddcjlocpaaGreatDoorW.PrintWords Go.Proofs.YtelfmddcjlocpaaGreatDoorW.PrintMore Go.Proofs.YtelfmddcjlocpaaGreatDoor.Px Go.Proofs.YtelfmddcjlocpaaGreatDoor.GTab Go.Proofs.YtelfmddcjlocpaaGreatDoor.Ref
def bits_Len64.f (a0 : Int) : Option Int := if 0 ≤ a0 ∧ a0 < 18446744073709551616 then some ((bl a0.toNat : Nat) : Int) else none
theorem bits_Len64.c {a0 : Int} {r : Int} (h : bits_Len64.f a0 = some r) : Con Tryz.prog Gw 72 [.s (.i .u64 a0)] (· = .s (.i .i64 r)) := by
 unfold bits_Len64.f at h
 split at h
 ·rename_i hb
  have h := Option.some.inj h
  subst h
  refine brg Tryz.func72 (by kernel_rfl) fun w S vs gw hS vs_ => ?_
  obtain ⟨u0, rfl, v0⟩ := a_i vs_
  obtain rfl := a_nil v0
  obtain ⟨x, rfl⟩ : ∃ x : Nat, a0 = (x : Int) := ⟨a0.toNat, by omega⟩
  rw [Int.toNat_natCast]
  obtain ⟨k, hk⟩ := (GBase.len_ev x (by omega)).rounds
  refine (PLen.bits_Len64.calls k _ _ w hk).mono fun e' w' he => ?_
  exact ⟨_, _, he.1, rfl, rfl, he.2.below⟩
 ·cases h
end Go.Proofs.YtelfmddcjlocpaaGreatDoor.Given
end
