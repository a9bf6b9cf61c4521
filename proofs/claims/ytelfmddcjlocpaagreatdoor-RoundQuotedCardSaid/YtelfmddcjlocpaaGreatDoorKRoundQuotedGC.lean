/- nat.Shl on a natural of any length. Conditions: at most 8192 limbs before and after. -/
import Derived.Test.YtelfmddcjlocpaaGreatDoorKRoundQuotedGB
import Derived.StillTailTactics
namespace Go.Proofs.YtelfmddcjlocpaaGreatDoor.GC
open Go.RowKit Go.Proofs.YtelfmddcjlocpaaGreatDoorW.PrintWords Go.Proofs.YtelfmddcjlocpaaGreatDoorW.PrintMore Go.Proofs.YtelfmddcjlocpaaGreatDoorW.PrintLast Go.Proofs.YtelfmddcjlocpaaGreatDoor.Num Go.Proofs.YtelfmddcjlocpaaGreatDoor.Ref Go.Proofs.YtelfmddcjlocpaaGreatDoor.GBase Go.Proofs.YtelfmddcjlocpaaGreatDoor.GTh Go.Proofs.YtelfmddcjlocpaaGreatDoor.GA Go.Proofs.YtelfmddcjlocpaaGreatDoor.GB
def rowOf0 (x n : Nat) : Array Value := (Array.range n).map fun j => .int .u64 ((dw x j : Nat) : Int)
theorem rows_are : ∃ f : Nat → Nat → Array Value, ∀ x n, f x n = rowOf0 x n := ⟨rowOf0, fun _ _ => rfl⟩
noncomputable def rowOf : Nat → Nat → Array Value := Classical.choose rows_are
theorem rowOf_eq (x n : Nat) : rowOf x n = rowOf0 x n := Classical.choose_spec rows_are x n
theorem rowOf_size (x n : Nat) : (rowOf x n).size = n := by simp [rowOf_eq, rowOf0]
theorem rowOf_get {x n j : Nat} (h : j < n) : (rowOf x n)[j]? = some (.int .u64 ((dw x j : Nat) : Int)) := by
 simp [rowOf_eq, rowOf0, h]
theorem rowOf_set {x y n i : Nat} (d : Nat) (hd : d < 18446744073709551616) (h : x + d * pw i = y + dw x i * pw i) : (rowOf x n).setIfInBounds i (.int .u64 (d : Int)) = rowOf y n := by
 apply Array.ext
 ·simp [rowOf_eq, rowOf0]
 ·intro j h1 h2
  have h3 : j < n := by simpa [rowOf_eq, rowOf0] using h2
  rw [Array.getElem_setIfInBounds (by rw [rowOf_size]; exact h3)]
  have e := dw_new d hd h j
  by_cases c : i = j
  ·subst c
   rw [if_pos rfl] at e ⊢
   simp [rowOf_eq, rowOf0, e]
  ·rw [if_neg c]
   rw [if_neg (fun h => c h.symm)] at e
   simp [rowOf_eq, rowOf0, e]
theorem made_row (n : Nat) : madeCells (Value.int IntKind.u64 0).cells (n * 1) = rowOf 0 n := by
 rw [rowOf_eq]
 unfold madeCells rowOf0
 rw [Nat.mul_one]
 apply Array.map_congr_left
 intro j _
 rw [dw_zero_n]
 show #[Value.int .u64 0][j % 1]! = _
 rw [Nat.mod_one]
 rfl
theorem make_row (n : Nat) (hn : n < 1099511627776) (w : World) : Sem.run Tryz.prog (Instr.makeSlice 22 (Value.int IntKind.i64 (n : Int)) (Value.int IntKind.i64 (n : Int))) w = .ok (.slice (some ⟨w.heap.size, 0, none⟩) n n) (w.alloc (Obj.cells (rowOf 0 n) 29)) := by
 obtain ⟨i, hi, hz, hs, hb⟩ := info_parts u64_info
 have h := run_make (P := Tryz.prog) w 22 29 i (.int .u64 0) (by kernel_rfl) hi hz .i64 .i64 (n : Int) (n : Int) (by omega) (Int.le_refl _) (by rw [hb]; omega) (by omega)
 rw [Int.toNat_natCast, hs, made_row] at h
 exact h
structure Own (W w : World) (g n x : Nat) : Prop where mk :: (below : Below W.heap.size W w) (le : W.heap.size ≤ g) (blk : w.heap[g]? = some (.cells (rowOf x n) 29 (0, 0)))
theorem Own.next {W w w' : World} {g n x : Nat} (h : Own W w g n x) (d : Below w.heap.size w w') : Own W w' g n x := ⟨on h.below d, h.le, blk_below h.blk d⟩
theorem Own.put {W w : World} {g n x y i d : Nat} (h : Own W w g n x) (hd : d < 18446744073709551616) (e : x + d * pw i = y + dw x i * pw i) : Own W (w.setCell ⟨g, i, none⟩ (.int .u64 (d : Int))) g n y := by
 refine ⟨h.below.setCell h.le _, h.le, ?_⟩
 have := blk_set h.blk i (.int .u64 (d : Int))
 rwa [rowOf_set d hd e] at this
theorem Own.cell {W w : World} {g n x j : Nat} (h : Own W w g n x) (hj : j < n) : w.cell? ⟨g, j, none⟩ = some (.int .u64 ((dw x j : Nat) : Int)) := (blk_cell h.blk j).trans (rowOf_get hj)
theorem Own.frozen {W w : World} {g n x j : Nat} (h : Own W w g n x) : w.frozen? ⟨g, j, none⟩ = false := blk_frozen h.blk j
theorem Own.at {W w : World} {g n x : Nat} (h : Own W w g n x) (hx : x < pw n) : At w g 0 n x := ⟨hx, fun j hj => by rw [Nat.zero_add]; exact h.cell hj⟩
theorem Own.made (w : World) (n : Nat) : Own w (w.alloc (Obj.cells (rowOf 0 n) 29)) w.heap.size n 0 := ⟨box _ _, Nat.le_refl _, blk_new _ _⟩
theorem Own.base {W W' w : World} {g n x : Nat} (h : Own W' w g n x) (d : Below W.heap.size W W') : Own W w g n x := ⟨on d h.below, Nat.le_trans d.size h.le, h.blk⟩
structure Ans (W w : World) (v : Value) (x : Nat) : Prop where mk :: (ex : ∃ G N, v = .slice (some ⟨G, 0, none⟩) (nl x) N ∧ Own W w G N x ∧ nl x ≤ N ∧ N < 1099511627776)
theorem shl_step {S d k p : Nat} (hk : k < 64) (hS : S < pw p * 2^k) :
  dw S p < 2^k ∧ dw S (p + 1) = 0 ∧ S + (dw S p + d * 2^k % 18446744073709551616) * pw p = (S + (d * 2^k % 18446744073709551616) * pw p) + dw S p * pw p
  ∧ S + (d * 2^k % 18446744073709551616) * pw p + (d * 2^k / 18446744073709551616) * pw (p + 1) = S + d * (pw p * 2^k)
  ∧ dw S p + d * 2^k % 18446744073709551616 < 18446744073709551616 := by
 have h2 : 2^k ≤ 18446744073709551616 := by rw [← e64]; exact Nat.pow_le_pow_right (by decide) (by omega)
 have h1 : S < pw (p + 1) := by rw [pw_succ]; exact Nat.lt_of_lt_of_le hS (Nat.mul_le_mul_left _ h2)
 have e1 : dw S p < 2^k := by rw [dw_top h1]; exact Nat.div_lt_of_lt_mul hS
 refine ⟨e1, dw_out h1, by rw [Nat.add_mul]; omega, ?_, ?_⟩
 ·rw [pw_succ]
  have := Nat.mod_add_div (d * 2^k) 18446744073709551616
  have e2 : d * (pw p * 2^k) = (d * 2^k) * pw p := by rw [Nat.mul_comm (pw p), ← Nat.mul_assoc]
  rw [e2]
  conv => rhs; rw [← this]
  rw [Nat.add_mul, Nat.add_assoc]
  congr 2
  ac_rfl
 ·obtain ⟨t, ht⟩ : ∃ t, 64 = k + t := ⟨64 - k, by omega⟩
  have e3 : 18446744073709551616 = 2^k * 2^t := by rw [← Nat.pow_add, ← ht]
  have e4 : d * 2^k % 18446744073709551616 = 2^k * (d % 2^t) := by
   rw [e3, Nat.mul_comm d, Nat.mul_mod_mul_left]
  have e5 : d % 2^t + 1 ≤ 2^t := Nat.mod_lt _ (Nat.two_pow_pos _)
  have e6 : 2^k * (d % 2^t + 1) ≤ 2^k * 2^t := Nat.mul_le_mul_left _ e5
  rw [e4]
  rw [Nat.mul_add, ← e3] at e6
  omega
set_option maxRecDepth 100000 in
theorem shl_any (w : World) (A : Option Addr) (c x n : Nat) (h : Nt w A c x) (hx : x ≠ 0) (hl : bl x + n ≤ 524288) : Calls Tryz.prog 37 #[.slice A (nl x) c, .int .i64 (n : Int)] w fun e w' => ∃ v, e = .returned (.tuple #[v, .int .i64 0]) ∧ Ans w w' v (x * 2^n) := by
 have hx8 : nl x ≤ 8192 := by unfold nl; omega
 have HF := Lib.hid (form_any w A c x h hx8)
 have HB := Lib.hid (bits_any w A (nl x) c x h (by omega))
 have hp := nl_pos hx
 rcases h.row with ⟨_, e, _⟩ | ⟨G, o, rfl, R⟩
 ·omega
 have HR := Lib.hid R
 obtain ⟨p, hp0⟩ : ∃ p, p = n / 64 := ⟨_, rfl⟩
 obtain ⟨k, hk0⟩ : ∃ k, k = n % 64 := ⟨_, rfl⟩
 have hpk : n = 64 * p + k := by omega
 have hk : k < 64 := by omega
 have HK := Lib.hid (And.intro hpk hk)
 have hz : bl x ≤ 524288 := by omega
 generalize hs : nl x = s at *
 obtain ⟨N, hN⟩ : ∃ N, N = p + s + 1 := ⟨_, rfl⟩
 have HS := Lib.hid (And.intro hs (And.intro hN (And.intro hl hx)))
 have q0 : decide ((n : Int) < 0) = false := decide_eq_false (by omega)
 have q1 : ((s : Int) == 0) = false := by simp; omega
 have q8 : (p : Int) + (s : Int) + 1 = (N : Int) := by omega
 have hbig : N < 1099511627776 := by unfold nl at hs; omega
 have q2 : IntKind.i64.wrap (524288 - ((bl x : Nat) : Int)) = 524288 - ((bl x : Nat) : Int) := IntWalk.i64_in _ (by omega)
 have q3 : decide (524288 - ((bl x : Nat) : Int) < (n : Int)) = false := decide_eq_false (by omega)
 have q4 : (n : Int) / 64 = (p : Int) := by omega
 have q5 : (n : Int) % 64 = (k : Int) := by omega
 have q6 : IntKind.i64.wrap ((p : Int) + (s : Int)) = (p : Int) + (s : Int) := IntWalk.i64_in _ (by omega)
 have q7 : IntKind.i64.wrap ((p : Int) + (s : Int) + 1) = (N : Int) := by rw [IntWalk.i64_in _ (by omega)]; omega
 generalize hbz : bl x = z at *
 have HZ := Lib.hid (show bl x ≤ z from Nat.le_of_eq hbz)
 clear hbz h hx hl hp hpk hk hp0 hk0 hs R hz hx8 hN
 go_enter Tryz.func37, Tryz.ntmps37
 go_wp2_with fail
 refine HF.out.mono ?_
 rintro e w1 ⟨rfl, rfl⟩
 go_wp2_with fail
 refine HB.out.mono ?_
 rintro e w2 ⟨rfl, hd⟩
 have D := Lib.hid hd
 clear hd
 go_wp2_with (rw [make_row _ hbig]; go_simp)
 have O0 := Lib.hid (Own.made w2 N)
 have hGlt := World.block_lt_of_cell? _ _ (HR.out.cell 0 (by have := HS.out.2.1; have := nl_pos HS.out.2.2.2; rw [HS.out.1] at this; exact this))
 have hgle := D.out.size
 have hne : G ≠ w2.heap.size := by have : G < w1.heap.size := hGlt; omega
 have HG := Lib.hid hgle
 clear hgle hGlt
 go_loopg [35] s (fun m i wr => ∃ j, j ≤ s ∧ m = s - j ∧ i = .int .i64 j ∧ Own w2 wr w2.heap.size N ((x % pw j) * 2^n))
 case atStart => exact ⟨0, Nat.zero_le _, rfl, rfl, by rw [pw_zero, Nat.mod_one, Nat.zero_mul]; exact O0.out⟩
 case round =>
  obtain ⟨i, hi, rfl, rfl, ho⟩ := hrel
  have O := Lib.hid ho
  clear ho O0
  by_cases c0 : i < s
  ·obtain ⟨j, hj⟩ : ∃ j, j = p + i := ⟨_, rfl⟩
   obtain ⟨j1, hj1⟩ : ∃ j1, j1 = j + 1 := ⟨_, rfl⟩
   have hS : (x % pw i) * 2^n < pw j * 2^k := by
    rw [hj, HK.out.1, Nat.pow_add, ← Nat.mul_assoc, pw_add, Nat.mul_comm (pw p) (pw i)]
    exact Nat.mul_lt_mul_of_pos_right (Nat.mul_lt_mul_of_pos_right (Nat.mod_lt _ (pw_pos i)) (pw_pos p)) (Nat.two_pow_pos k)
   have ST := Lib.hid (shl_step (d := dw x i) HK.out.2 hS)
   have za := ((HR.out.next D.out).next O.out.below).cell i c0
   have zs := O.out.cell (j := j) (by omega)
   have fs := O.out.frozen (j := j)
   have l1 : decide ((i : Int) < (s : Int)) = true := decide_eq_true (by omega)
   have l2 : (i : Int) < (s : Int) := by omega
   have q9 : IntKind.i64.wrap ((p : Int) + (i : Int)) = (j : Int) := by rw [IntWalk.i64_in _ (by omega)]; omega
   have q10 : IntKind.i64.wrap ((j : Int) + 1) = (j1 : Int) := by rw [IntWalk.i64_in _ (by omega)]; omega
   have l3 : (j : Int) < (N : Int) := by omega
   have l4 : (j1 : Int) < (N : Int) := by omega
   have l5 : j < N := by omega
   have l6 : j1 < N := by omega
   generalize hd : dw x i = d at *
   generalize hu : dw (x % pw i * 2 ^ n) j = u at *
   have HJ := Lib.hid (And.intro hj (And.intro hj1 (And.intro c0 (And.intro hi hS))))
   clear hj hj1 c0 hi hS
   obtain ⟨v, hv⟩ : ∃ v, v = d * 2^k % 18446744073709551616 := ⟨_, rfl⟩
   obtain ⟨h, hh⟩ : ∃ h, h = d * 2^k / 18446744073709551616 := ⟨_, rfl⟩
   rw [← hv, ← hh] at ST
   obtain ⟨r, hr⟩ : ∃ r, r = u + v := ⟨_, rfl⟩
   have e0 : min k 64 = k := by have := HK.out.2; omega
   have e1 : IntKind.u64.wrap ((d : Int) * 2^k) = (v : Int) := by
    rw [IntKind.wrap_u64, hv]
    have : ((d : Int) * 2^k) = ((d * 2^k : Nat) : Int) := by push_cast; rfl
    rw [this]; omega
   have e2 : Go.bits .or .u64 (u : Int) (v : Int) = (r : Int) := by
    have h1 := ST.out.1
    have h2 := ST.out.2.2.2.2
    have h3 : v % 2^k = 0 := by
     obtain ⟨t, ht⟩ : ∃ t, 64 = k + t := ⟨64 - k, by have := HK.out.2; omega⟩
     have e3 : 18446744073709551616 = 2^k * 2^t := by rw [← Nat.pow_add, ← ht]
     rw [hv, e3, Nat.mul_comm d, Nat.mul_mod_mul_left, Nat.mul_mod_right]
    rw [hr, u64_or_nat u v (by omega) (by omega), Nat.or_comm, nat_join k v u h3 h1, Nat.add_comm]
   obtain ⟨d1, hd1⟩ : ∃ d1, d1 = d / 2 := ⟨_, rfl⟩
   obtain ⟨t, ht⟩ : ∃ t, t = 63 - k := ⟨_, rfl⟩
   have e3 : (d : Int) / 2 = (d1 : Int) := by omega
   have e4 : IntKind.i64.wrap (63 - (k : Int)) = (t : Int) := by have := HK.out.2; rw [IntWalk.i64_in _ (by omega)]; omega
   have e5 : min t 64 = t := by omega
   have e6 : (d1 : Int) / 2^t = (h : Int) := by
    have h1 : h = d1 / 2^t := by
     have h2 : 18446744073709551616 = 2^k * (2 * 2^t) := by
      have : 2^k * (2 * 2^t) = 2^(k + (1 + t)) := by rw [Nat.pow_add, Nat.pow_add]
      rw [this, show k + (1 + t) = 64 by have := HK.out.2; omega]
     rw [hh, hd1, h2, Nat.mul_comm d, Nat.mul_div_mul_left _ _ (Nat.two_pow_pos k), Nat.div_div_eq_div_mul]
    rw [h1]; push_cast; rfl
   clear hd1 ht
   have HH := Lib.hid (And.intro hv (And.intro hh hr))
   clear hv hh hr
   go_wp2_with fail
   go_still_tail 13, (by kernel_rfl)
   change wpList _ _ _ _ _ wr.drew
   have O := Lib.hid (O.out.next (Below.refl _ _).drew)
   have zs := O.out.cell (j := j) l5
   have fs := O.out.frozen (j := j)
   have za := ((HR.out.next D.out).next O.out.below).cell i HJ.out.2.2.1
   rw [hu] at zs
   rw [hd] at za
   have er : x % pw i * 2^n + r * pw j = (x % pw i * 2^n + v * pw j) + dw (x % pw i * 2^n) j * pw j := by rw [HH.out.2.2, hu]; exact ST.out.2.2.1
   have lr : r < 18446744073709551616 := by rw [HH.out.2.2]; exact ST.out.2.2.2.2
   have O2 := Lib.hid (O.out.put lr er)
   have z0 : dw (x % pw i * 2^n + v * pw j) j1 = 0 := by rw [dw_new r lr er j1, if_neg (by have := HJ.out.2.1; omega), HJ.out.2.1]; exact ST.out.2.1
   have lh : h < 18446744073709551616 := by
    have h1 : 2^k ≤ 18446744073709551616 := by rw [← e64]; exact Nat.pow_le_pow_right (by decide) (by have := HK.out.2; omega)
    have h2 : d < 18446744073709551616 := by rw [← hd]; exact dw_lt _ _
    have h3 : d * 2^k < 18446744073709551616 * 18446744073709551616 := Nat.lt_of_le_of_lt (Nat.mul_le_mul_left d h1) (Nat.mul_lt_mul_of_pos_right h2 (by decide))
    rw [HH.out.2.1]; exact Nat.div_lt_of_lt_mul h3
   have O3 := Lib.hid (O2.out.put (y := x % pw (i + 1) * 2^n) lh (by
    rw [z0, Nat.zero_mul, Nat.add_zero, HJ.out.2.1, ST.out.2.2.2.1, mod_succ, Nat.add_mul, hd, HJ.out.1, pw_add, HK.out.1, Nat.pow_add]
    show _ = _ + pw i * d * (pw p * 2^k)
    congr 1
    ac_rfl))
   clear er lr z0 lh
   have zb := (World.cell?_setCell_other wr.drew ⟨w2.heap.size, j, none⟩ ⟨G, o + i, none⟩ (.int .u64 (r : Int)) (fun e => hne (congrArg Addr.block e).symm)).trans za
   have zs1 := O2.out.cell (j := j1) l6
   have fs1 := O2.out.frozen (j := j1)
   generalize wr.drew = w4 at *
   clear hd hu
   go_wp2_with fail
   go_roundg (s - (i + 1))
   case measure => have := HJ.out.2.2.1; omega
   case rel => exact ⟨i + 1, HJ.out.2.2.1, rfl, by go_num, O3.out⟩
  ·have ei : i = s := by omega
   subst ei
   have l1 : decide ((i : Int) < (i : Int)) = false := decide_eq_false (by omega)
   have O := O.out
   have hx : x % pw i = x := Nat.mod_eq_of_lt (by rw [← HS.out.1]; exact nl_lt x)
   rw [hx] at O
   have hb : bl (x * 2^n) ≤ 524288 := by
    have h1 := HS.out.2.2.1
    have h2 : bl x ≤ z := HZ.out
    exact bl_le_iff.2 (by rw [show (524288 : Nat) = (524288 - n) + n by omega, Nat.pow_add]; exact Nat.mul_lt_mul_of_pos_right (bl_le_iff.1 (by omega)) (Nat.two_pow_pos n))
   have hbn : x * 2^n < pw N := by
    have h2 : x < pw i := by rw [← HS.out.1]; exact nl_lt x
    have h3 : 2^n ≤ pw (p + 1) := by
     have := HK.out
     show 2^n ≤ 2^(64 * (p + 1))
     exact Nat.pow_le_pow_right (by decide) (by omega)
    have h4 : pw N = pw i * pw (p + 1) := by rw [← pw_add, HS.out.2.1]; congr 1; omega
    rw [h4]
    exact Nat.lt_of_le_of_lt (Nat.mul_le_mul_left x h3) (Nat.mul_lt_mul_of_pos_right h2 (pw_pos _))
   have R := Lib.hid (Rw.mk (A := some ⟨w2.heap.size, 0, none⟩) (c := N) (Nat.le_refl _) (.inr ⟨_, _, rfl, O.at hbn⟩))
   have HT := Lib.hid (told_any wr _ N N _ R.out hbig (by unfold nl; omega))
   have B := Lib.hid (on D.out O.below)
   have OO := Lib.hid (O.base D.out)
   have NN := Lib.hid (And.intro (nl_le_iff.2 hbn) hbig)
   clear O hx hb hbn c0
   go_wp2_with fail
   refine HT.out.mono ?_
   rintro e w5 ⟨rfl, rfl⟩
   go_wp2_with fail
   go_ret2
   exact ⟨_, rfl, ⟨_, _, rfl, OO.out, NN.out.1, NN.out.2⟩⟩
end Go.Proofs.YtelfmddcjlocpaaGreatDoor.GC
