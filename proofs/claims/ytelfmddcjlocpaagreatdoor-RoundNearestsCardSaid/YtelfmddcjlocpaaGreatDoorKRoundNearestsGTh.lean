/- How a script of layer 8's calls opens. No condition beyond the rows' own. Limbs of 64 bits: the words of a natural number, their count, what one word more adds. Plain Lean; no program in sight. No condition. -/
import Derived.Test.YtelfmddcjlocpaaGreatDoorKRoundNearestsPxA
import Derived.Test.YtelfmddcjlocpaaGreatDoorKRoundNearestsRnAll
import Derived.Test.YtelfmddcjlocpaaGreatDoorKRoundNearestsBl
section
namespace Go.Proofs.YtelfmddcjlocpaaGreatDoor.RnRow
open Go.ChangeShapes Go.WideShapes Go.ChangeAt Go.RowKit Go.Deep Go.Proofs.YtelfmddcjlocpaaGreatDoorW.PrintWords Go.Proofs.YtelfmddcjlocpaaGreatDoor.Row8 Go.Proofs.YtelfmddcjlocpaaGreatDoor.RowW Go.Proofs.YtelfmddcjlocpaaGreatDoor.RnAll
set_option linter.unusedVariables false
theorem rep_isL {w : World} {A : Option Addr} {len cap : Nat} {l : List Int} (h : IsL w A len cap l) : Px.RepV w N0 Px.none' (.s (.sl .u64 l)) (.slice A len cap) := by
 obtain rfl := h.len
 exact Px.r_sl h.c h.cap
set_option maxRecDepth 100000 in
theorem op_cells {H : Type} {enc : TypeId × Value → H} {w : World} {base fuel : Nat} {spare : Nat → Bool} {held : Bool} {cs : List Value} {y : DataW H × List MemPlace} (h : DataW.trod enc Tryz.prog w base spare held fuel 55 cs = some y) (hw : Wt 55 y.1) :
  ∃ t : El, cs = [.int .i64 t.kd, .int .i64 t.fm, .bool t.na, .slice t.aa t.ln t.ca, .int .i64 t.ea, .bool t.nb, .slice t.ab t.lm t.cb, .int .i64 t.eb, .int .u64 t.wd] ∧ Ok w t := by
 obtain ⟨xs, n, _, hy, hc, hx, hg⟩ := DataW.trod_struct Tryz.underlying55 h
 have hc : cs.length = 9 := hc.trans (show Tryz.prog.cellsOf 55 = 9 by kernel_rfl)
 have hx2 : xs.length = 5 := hx
 match cs, hc, xs, hx2 with
 | [c0, c1, c2, c3, c4, c5, c6, c7, c8], _, [y0, y1, y2, y3, y4], _ =>
  have hx1 : y.1 = .agg [y0.1, y1.1, y2.1, y3.1, y4.1] := by rw [hy]; rfl
  rw [hx1] at hw
  have w2 : Wt 26 y2.1 := hw.part Tryz.underlying55 (j := 2) rfl rfl
  have w3 : Wt 26 y3.1 := hw.part Tryz.underlying55 (j := 3) rfl rfl
  have g0 : DataW.trod enc Tryz.prog w base spare held n 3 [c0] = some y0 := hg 0 _ rfl
  have g1 : DataW.trod enc Tryz.prog w base spare held n 3 [c1] = some y1 := hg 1 _ rfl
  have g2 : DataW.trod enc Tryz.prog w base spare held n 26 [c2, c3, c4] = some y2 := hg 2 _ rfl
  have g3 : DataW.trod enc Tryz.prog w base spare held n 26 [c5, c6, c7] = some y3 := hg 3 _ rfl
  have g4 : DataW.trod enc Tryz.prog w base spare held n 29 [c8] = some y4 := hg 4 _ rfl
  obtain ⟨k, q0, _, _⟩ := DataW.trod_int Tryz.underlying3 g0
  obtain ⟨f, q1, _, wf⟩ := DataW.trod_int Tryz.underlying3 g1
  obtain ⟨na, aa, la, ca, ml, ea, q2, h2, s2, e2⟩ := dy_w g2 w2
  obtain ⟨nb, ab, lb, cb, mm, eb, q3, h3, s3, e3⟩ := dy_w g3 w3
  obtain ⟨wd, q4, _, ww⟩ := DataW.trod_int Tryz.underlying29 g4
  obtain rfl := List.head_eq_of_cons_eq q0
  obtain rfl := List.head_eq_of_cons_eq q1
  injection q2 with r1 q2
  injection q2 with r2 q2
  injection q2 with r3 q2
  injection q3 with r4 q3
  injection q3 with r5 q3
  injection q3 with r6 q3
  subst r1; subst r2; subst r3; subst r4; subst r5; subst r6
  obtain rfl := List.head_eq_of_cons_eq q4
  have e1 : IntKind.u64.min = 0 := rfl
  have e9 : IntKind.u64.max = 18446744073709551615 := rfl
  have hh : IntKind.u64.min ≤ wd ∧ wd ≤ IntKind.u64.max := by simpa [Lit.wf] using ww
  obtain ⟨wn, rfl⟩ : ∃ m : Nat, wd = (m : Int) := ⟨wd.toNat, by omega⟩
  exact ⟨⟨k, f, na, aa, la, ca, ml, ea, nb, ab, lb, cb, mm, eb, wn⟩, rfl, ⟨wf, rep_isL h2, h2.wf, by have := h2.len; show ml.length ≤ _; omega, e2, rep_isL h3, h3.wf, by have := h3.len; show mm.length ≤ _; omega, e3, by show wn < _; omega⟩⟩
theorem sized {H : Type} {enc : TypeId × Value → H} {W : World} {base : Nat} {held : Bool} {a : Option Addr} {len cap : Nat} {d : DataW H} {ps : List MemPlace} {ts : List TypeId} {ds : List (DataW H)} {j : Nat}
  (hsz : (DataW.weightsEach Tryz.prog ts ds).all (· ≤ reachBytes) = true) (ht : ts[j]? = some 52) (hd : ds[j]? = some d) (h : DataW.Trod enc Tryz.prog W base (fun _ => true) held 52 (.slice a len cap) d ps) : len < 9000000000000000000 ∧ IsOps W a len := by
 obtain ⟨fuel, hf⟩ := h
 have hw := Wt.of_each hsz ht hd
 rcases open_slice Tryz.underlying52 hf with ⟨hcs, _⟩ | ⟨x, l, c, m, n, D, Pl, hcs, _, hl, _, hm, hx, hi⟩
 ·simp [Value.cells] at hcs
  obtain ⟨rfl, rfl, rfl⟩ := hcs
  exact ⟨by omega, .inl rfl⟩
 ·simp [Value.cells] at hcs
  obtain ⟨rfl, rfl, rfl⟩ := hcs
  rw [if_pos rfl] at hm
  subst hm
  obtain ⟨hx, _⟩ := Prod.mk.inj hx
  subst hx
  have z := hw.len Tryz.underlying52
  have hb : Tryz.prog.bytesOf 55 = 104 := by kernel_rfl
  have hr : reachBytes < 140737488355328 := by decide
  have hC : Tryz.prog.cellsOf 55 = 9 := by kernel_rfl
  rw [hb, List.length_map, List.length_range] at z
  refine ⟨by omega, ?_⟩
  by_cases h0 : len = 0
  ·exact .inl h0
  obtain ⟨b, o, sp⟩ := x
  have el : ∀ i, i < len → ∃ t, [Value.int .i64 t.kd, .int .i64 t.fm, .bool t.na, .slice t.aa t.ln t.ca, .int .i64 t.ea, .bool t.nb, .slice t.ab t.lm t.cb, .int .i64 t.eb, .int .u64 t.wd].length = 9 ∧ Ok W t ∧ ∀ (q : Nat) (v : Value), q < 9 → [Value.int .i64 t.kd, .int .i64 t.fm, .bool t.na, .slice t.aa t.ln t.ca, .int .i64 t.ea, .bool t.nb, .slice t.ab t.lm t.cb, .int .i64 t.eb, .int .u64 t.wd][q]? = some v → W.cell? ((⟨b, o, sp⟩ : Addr).add (i * 9 + q)) = some v := fun i hil => by
   obtain ⟨cs, hc, ht'⟩ := hi i (by omega)
   rw [hC] at hc
   have wi : Wt 55 (D i) := hw.elem Tryz.underlying52 (List.mem_map.2 ⟨i, List.mem_range.2 hil, rfl⟩)
   obtain ⟨t, rfl, ok⟩ := op_cells ht' wi
   obtain ⟨_, hcl, hat⟩ := World.cells?_some hc
   exact ⟨t, rfl, ok, fun q v hq hv => by rw [← Go.Deep.add_add, hat q hq, hv]⟩
  have hsp : sp = none := by
   obtain ⟨t, _, _, hc⟩ := el 0 (by omega)
   have c := hc 0 _ (by decide) rfl
   have e : (⟨b, o, sp⟩ : Addr).add (0 * 9 + 0) = ⟨b, o, sp⟩ := by unfold Addr.add; rw [if_pos rfl]
   rw [e] at c
   cases sp with
   | none => rfl
   | some s =>
    exfalso
    unfold World.cell? at c
    simp at c
    split at c <;> cases c
  subst hsp
  have ea : ∀ k, (⟨b, o, none⟩ : Addr).add k = ⟨b, o + k, none⟩ := by intro k; unfold Addr.add; split <;> simp <;> omega
  refine .inr ⟨b, o, rfl, fun i hil => ?_⟩
  obtain ⟨t, _, ok, hc⟩ := el i hil
  have hc' : ∀ (q : Nat) (v : Value), q < 9 → [Value.int .i64 t.kd, .int .i64 t.fm, .bool t.na, .slice t.aa t.ln t.ca, .int .i64 t.ea, .bool t.nb, .slice t.ab t.lm t.cb, .int .i64 t.eb, .int .u64 t.wd][q]? = some v → W.cell? ⟨b, o + i * 9 + q, none⟩ = some v := fun q v hq hv => by
   have := hc q v hq hv
   rw [ea] at this
   rw [Nat.add_assoc]; exact this
  exact ⟨t, ⟨⟨hc' 0 _ (by decide) rfl, hc' 1 _ (by decide) rfl, hc' 2 _ (by decide) rfl, hc' 3 _ (by decide) rfl, hc' 4 _ (by decide) rfl, hc' 5 _ (by decide) rfl, hc' 6 _ (by decide) rfl, hc' 7 _ (by decide) rfl, hc' 8 _ (by decide) rfl⟩, ok⟩⟩
end Go.Proofs.YtelfmddcjlocpaaGreatDoor.RnRow
end
section
namespace Go.Proofs.YtelfmddcjlocpaaGreatDoor.GTh
open Go.Proofs.YtelfmddcjlocpaaGreatDoor.Ref
def pw (j : Nat) : Nat := 2^(64 * j)
def dw (x j : Nat) : Nat := x / pw j % 18446744073709551616
def nl (x : Nat) : Nat := (bl x + 63) / 64
theorem e64 : (2 : Nat)^64 = 18446744073709551616 := by decide
theorem pw_pos (j : Nat) : 0 < pw j := Nat.two_pow_pos _
theorem pw_zero : pw 0 = 1 := rfl
theorem pw_one : pw 1 = 18446744073709551616 := by decide
theorem pw_add (i j : Nat) : pw (i + j) = pw i * pw j := by unfold pw; rw [Nat.mul_add, Nat.pow_add]
theorem pw_succ (j : Nat) : pw (j + 1) = pw j * 18446744073709551616 := by rw [pw_add, pw_one]
theorem pw_mono {i j : Nat} (h : i ≤ j) : pw i ≤ pw j := Nat.pow_le_pow_right (by decide) (by omega)
theorem dw_lt (x j : Nat) : dw x j < 18446744073709551616 := Nat.mod_lt _ (by decide)
theorem mod_succ (x j : Nat) : x % pw (j + 1) = x % pw j + pw j * dw x j := by unfold dw; rw [pw_succ, Nat.mod_mul]
theorem div_succ (x j : Nat) : x / pw j = dw x j + 18446744073709551616 * (x / pw (j + 1)) := by
 rw [pw_succ, ← Nat.div_div_eq_div_mul]
 unfold dw
 exact (Nat.mod_add_div _ _).symm
theorem dw_zero_n (j : Nat) : dw 0 j = 0 := by unfold dw; rw [Nat.zero_div]
theorem dw_out {x j : Nat} (h : x < pw j) : dw x j = 0 := by unfold dw; rw [Nat.div_eq_of_lt h]
theorem dw_out' {x n j : Nat} (h : x < pw n) (hj : n ≤ j) : dw x j = 0 := dw_out (Nat.lt_of_lt_of_le h (pw_mono hj))
theorem dw_top {x n : Nat} (h : x < pw (n + 1)) : dw x n = x / pw n := by
 unfold dw
 exact Nat.mod_eq_of_lt (Nat.div_lt_of_lt_mul (by rw [← pw_succ]; exact h))
theorem lt_of_dw {x n : Nat} (h : x < pw (n + 1)) (h0 : dw x n = 0) : x < pw n := by
 rw [dw_top h] at h0
 exact (Nat.div_eq_zero_iff_lt (pw_pos n)).1 h0
theorem ge_of_dw {x n : Nat} (h0 : dw x n ≠ 0) : pw n ≤ x := by
 by_cases h : x < pw n
 ·exact absurd (dw_out h) h0
 ·omega
theorem dw_low {x i j : Nat} (d : Nat) (h : j < i) : dw (x + d * pw i) j = dw x j := by
 obtain ⟨k, rfl⟩ : ∃ k, i = j + (k + 1) := ⟨i - j - 1, by omega⟩
 unfold dw
 have e : d * pw (j + (k + 1)) = pw j * (d * pw k * 18446744073709551616) := by rw [pw_add, pw_succ]; ac_rfl
 rw [e, Nat.add_mul_div_left _ _ (pw_pos j), Nat.add_mul_mod_self_right]
theorem div_put (x i d : Nat) : (x + d * pw i) / pw i = x / pw i + d := by rw [Nat.mul_comm d, Nat.add_mul_div_left _ _ (pw_pos i)]
theorem dw_at {x i d : Nat} (h : dw x i = 0) (hd : d < 18446744073709551616) : dw (x + d * pw i) i = d := by
 unfold dw at h ⊢
 rw [div_put, Nat.add_mod, h, Nat.zero_add, Nat.mod_mod, Nat.mod_eq_of_lt hd]
theorem dw_high {x i j d : Nat} (h : dw x i = 0) (hd : d < 18446744073709551616) (hj : i < j) : dw (x + d * pw i) j = dw x j := by
 obtain ⟨k, rfl⟩ : ∃ k, j = i + 1 + k := ⟨j - i - 1, by omega⟩
 have hq : ∀ y, y / pw (i + 1 + k) = y / pw i / 18446744073709551616 / pw k := fun y => by rw [pw_add, pw_succ, ← Nat.div_div_eq_div_mul, ← Nat.div_div_eq_div_mul]
 unfold dw at h ⊢
 rw [hq, hq x, div_put]
 have : (x / pw i + d) / 18446744073709551616 = x / pw i / 18446744073709551616 := by omega
 rw [this]
theorem dw_put {x i d : Nat} (h : dw x i = 0) (hd : d < 18446744073709551616) (j : Nat) : dw (x + d * pw i) j = if j = i then d else dw x j := by
 by_cases c : j = i
 ·rw [if_pos c, c]; exact dw_at h hd
 ·rw [if_neg c]
  by_cases c2 : j < i
  ·exact dw_low d c2
  ·exact dw_high h hd (by omega)
theorem dw_new {x y i : Nat} (d : Nat) (hd : d < 18446744073709551616) (h : x + d * pw i = y + dw x i * pw i) (j : Nat) : dw y j = if j = i then d else dw x j := by
 have hx := dw_lt x i
 have hle : dw x i * pw i ≤ x := by
  have h1 := Nat.div_add_mod x (pw i)
  have h2 : dw x i ≤ x / pw i := Nat.mod_le _ _
  have h3 : dw x i * pw i ≤ x / pw i * pw i := Nat.mul_le_mul_right _ h2
  have h4 : x / pw i * pw i ≤ x := Nat.div_mul_le_self _ _
  omega
 have e0 : x = (x - dw x i * pw i) + dw x i * pw i := by omega
 have z : dw (x - dw x i * pw i) i = 0 := by
  have e1 : x / pw i = (x - dw x i * pw i) / pw i + dw x i := by
   conv => lhs; rw [e0]
   exact div_put _ _ _
  have e2 : dw x i = x / pw i % 18446744073709551616 := rfl
  show (x - dw x i * pw i) / pw i % 18446744073709551616 = 0
  omega
 have ey : y = (x - dw x i * pw i) + d * pw i := by omega
 have q1 := dw_put z hd j
 have q2 := dw_put z hx j
 rw [← e0] at q2
 rw [ey, q1]
 by_cases c : j = i
 ·rw [if_pos c, if_pos c]
 ·rw [if_neg c, if_neg c]; rw [if_neg c] at q2; exact q2.symm
theorem bl_le_iff {x k : Nat} : bl x ≤ k ↔ x < 2^k := ⟨fun h => Nat.lt_of_lt_of_le (bl_lt x) (Nat.pow_le_pow_right (by decide) h), bl_le_of_lt⟩
theorem nl_le_iff {x n : Nat} : nl x ≤ n ↔ x < pw n := by
 have h : bl x ≤ 64 * n ↔ x < 2^(64 * n) := bl_le_iff
 unfold nl pw
 rw [← h]
 omega
theorem nl_lt (x : Nat) : x < pw (nl x) := nl_le_iff.1 (Nat.le_refl _)
theorem bl_pos {x : Nat} (h : x ≠ 0) : 0 < bl x := by unfold bl; rw [if_neg h]; omega
theorem nl_zero : nl 0 = 0 := rfl
theorem nl_pos {x : Nat} (h : x ≠ 0) : 0 < nl x := by have := bl_pos h; unfold nl; omega
theorem nl_ge {x : Nat} (h : x ≠ 0) : pw (nl x - 1) ≤ x := by
 by_cases c : x < pw (nl x - 1)
 ·have h1 := nl_le_iff.2 c
  have h2 := nl_pos h
  omega
 ·omega
theorem nl_top {x : Nat} (h : x ≠ 0) : dw x (nl x - 1) ≠ 0 := by
 intro c
 have h2 := nl_pos h
 have h1 : x < pw (nl x - 1 + 1) := by rw [show nl x - 1 + 1 = nl x by omega]; exact nl_lt x
 have := lt_of_dw h1 c
 have := nl_ge h
 omega
theorem nl_of {x n : Nat} (h1 : x < pw (n + 1)) (h2 : dw x n ≠ 0) : nl x = n + 1 := by
 have a := nl_le_iff.2 h1
 have b := ge_of_dw h2
 by_cases c : nl x ≤ n
 ·have := nl_le_iff.1 c; omega
 ·omega
theorem nl_mono {x y : Nat} (h : x ≤ y) : nl x ≤ nl y := nl_le_iff.2 (Nat.lt_of_le_of_lt h (nl_lt y))
theorem nl_one {x : Nat} (h : x ≠ 0) (h2 : x < 18446744073709551616) : nl x = 1 := by
 have := nl_pos h
 have : nl x ≤ 1 := nl_le_iff.2 (by rw [pw_one]; exact h2)
 omega
theorem bl_limbs {x : Nat} (h : x ≠ 0) : 64 * (nl x - 1) + bl (dw x (nl x - 1)) = bl x := by
 have h2 := nl_pos h
 have h1 : x < pw (nl x - 1 + 1) := by rw [show nl x - 1 + 1 = nl x by omega]; exact nl_lt x
 have t := nl_top h
 rw [dw_top h1] at t ⊢
 exact (bl_shift' x (64 * (nl x - 1)) t).symm
where bl_shift' (x b : Nat) (h : x / 2^b ≠ 0) : bl x = b + bl (x / 2^b) := Ref.bl_shift x b h
theorem bl_le_limbs (x : Nat) : bl x ≤ 64 * nl x := by unfold nl; omega
theorem dw_ext {x y n : Nat} (hx : x < pw n) (hy : y < pw n) (h : ∀ j, j < n → dw x j = dw y j) : x = y := by
 have key : ∀ k, k ≤ n → x % pw k = y % pw k := by
  intro k
  induction k with
  | zero => intro _; rw [pw_zero, Nat.mod_one, Nat.mod_one]
  | succ k ih => intro hk; rw [mod_succ, mod_succ, ih (by omega), h k (by omega)]
 have := key n (Nat.le_refl _)
 rwa [Nat.mod_eq_of_lt hx, Nat.mod_eq_of_lt hy] at this
end Go.Proofs.YtelfmddcjlocpaaGreatDoor.GTh
end
