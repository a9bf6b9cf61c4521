/- nat.Cmp on rows of limbs of any length. Conditions: rows of less than 2^40 limbs. nat.Shl on a natural of any length. Conditions: at most 8192 limbs before and after. -/
import Derived.Test.YtapikmfckpgjoaaGreatDoorKDdMulsGA
import Derived.StillTailTactics
section
namespace Go.Proofs.YtapikmfckpgjoaaGreatDoor.GB
open Go.RowKit Go.Proofs.YtapikmfckpgjoaaGreatDoorW.PrintWords Go.Proofs.YtapikmfckpgjoaaGreatDoorW.PrintMore Go.Proofs.YtapikmfckpgjoaaGreatDoorW.PrintLast Go.Proofs.YtapikmfckpgjoaaGreatDoor.Num Go.Proofs.YtapikmfckpgjoaaGreatDoor.Ref Go.Proofs.YtapikmfckpgjoaaGreatDoor.GBase Go.Proofs.YtapikmfckpgjoaaGreatDoor.GTh Go.Proofs.YtapikmfckpgjoaaGreatDoor.GA
def cm (x y : Nat) : Int := if x < y then -1 else if y < x then 1 else 0
theorem cm_lt {x y : Nat} (h : x < y) : cm x y = -1 := if_pos h
theorem cm_gt {x y : Nat} (h : y < x) : cm x y = 1 := by unfold cm; rw [if_neg (by omega), if_pos h]
theorem cm_eq {x y : Nat} (h : x = y) : cm x y = 0 := by unfold cm; rw [if_neg (by omega), if_neg (by omega)]
theorem dn_below (w : World) : ∀ n : Nat, Below w.heap.size w (w.drewN n)
 | 0 => Below.refl _ _
 | n + 1 => (dn_below w n).drew
theorem cmp_any (w : World) (A B : Option Addr) (n c x m d y : Nat) (hA : Rw w A n c x) (hB : Rw w B m d y) (hn : n < 1099511627776) (hm : m < 1099511627776) : Calls Tryz.prog 91 #[.slice A n c, .slice B m d] w fun e w' => e = .returned (.int .i64 (cm x y)) ∧ Below w.heap.size w w' := by
 have H1 := Lib.hid (trim_any w A n c x hA hn)
 have H2 := Lib.hid (trim_any w B m d y hB hm)
 by_cases c0 : nl x = nl y
 ·have HE := Lib.hid c0
  have hx1 : nl x < 1099511627776 := Nat.lt_of_le_of_lt (nl_le_iff.2 hA.big) hn
  have e0 : x / pw (nl x) = y / pw (nl x) := by rw [Nat.div_eq_of_lt (nl_lt x), c0, Nat.div_eq_of_lt (nl_lt y)]
  have HX := Lib.hid e0
  have tA := hA.top
  have tB := hB.top
  rw [← c0] at tB H2
  have TA := Lib.hid tA
  have TB := Lib.hid tB
  have q1 : IntKind.i64.wrap (((nl x : Nat) : Int) - 1) = ((nl x : Nat) : Int) - 1 := IntWalk.i64_in _ (by omega)
  generalize nl x = s at *
  clear hA hB c0 e0 tA tB hn hm
  go_enter Tryz.func91, Tryz.ntmps91
  go_wp2_with fail
  refine H1.out.mono ?_
  rintro e w1 ⟨rfl, rfl⟩
  go_wp2_with fail
  refine H2.out.mono ?_
  rintro e w2 ⟨rfl, rfl⟩
  go_wp2_with fail
  go_loopg [7] s (fun g i wr => g ≤ s ∧ x / pw g = y / pw g ∧ (∃ v : Int, v = (g : Int) - 1 ∧ i = .int .i64 v) ∧ Below w2.heap.size w2 wr)
  case atStart => exact ⟨Nat.le_refl _, HX.out, ⟨_, rfl, rfl⟩, Below.refl _ _⟩
  case round =>
   obtain ⟨hg, hq, ⟨v, hv, rfl⟩, hb⟩ := hrel
   generalize gk = k at *
   have HB := Lib.hid hb
   by_cases k0 : k = 0
   ·subst k0
    have e1 : v = -1 := by omega
    subst e1
    have e2 : cm x y = 0 := cm_eq (by rw [pw_zero, Nat.div_one, Nat.div_one] at hq; exact hq)
    have E := Lib.hid e2
    clear hg hq hv hb e2 q1
    go_wp2_with fail
    go_ret
    exact ⟨by rw [E.out]; rfl, HB.out⟩
   ·obtain ⟨j, hj⟩ : ∃ j, k = j + 1 := ⟨k - 1, by omega⟩
    have e1 : v = (j : Int) := by omega
    subst e1
    have js : j < s := by omega
    rcases (TA.out.next hb).row with ⟨_, e, _⟩ | ⟨G, o, rfl, ca⟩
    ·omega
    rcases (TB.out.next hb).row with ⟨_, e, _⟩ | ⟨G', o', rfl, cb⟩
    ·omega
    have z1 := ca.cell j js
    have z2 := cb.cell j js
    have HQ := Lib.hid (show x / pw (j + 1) = y / pw (j + 1) by rw [← hj]; exact hq)
    have HJ := Lib.hid (And.intro hj (And.intro js hg))
    have l1 : decide ((j : Int) < (s : Int)) = true := decide_eq_true (by omega)
    have l2 : (j : Int) < (s : Int) := by omega
    have l3 : decide (j < s) = true := decide_eq_true js
    have l4 : decide ((0 : Int) ≤ (j : Int)) = true := decide_eq_true (by omega)
    have l5 : IntKind.i64.wrap ((j : Int) - 1) = (j : Int) - 1 := IntWalk.i64_in _ (by omega)
    by_cases cd : dw x j = dw y j
    ·have HD := Lib.hid (eq_step HQ.out cd)
     rw [← cd] at z2
     generalize dw x j = d1 at *
     clear hg hq hv hb hj js ca cb cd q1 k0
     go_wp2_with fail
     go_quiet (fail)
     have HB := Lib.hid (on HB.out (dn_below _ nq))
     clear z1 z2
     go_wp2_with fail
     go_roundg j
     case measure => have := HJ.out.1; omega
     case rel => exact ⟨by have := HJ.out.2.1; omega, HD.out, ⟨_, rfl, rfl⟩, HB.out⟩
    ·have HD := Lib.hid cd
     have e3 : (((dw x j : Nat) : Int) != ((dw y j : Nat) : Int)) = true := by simp; omega
     have e4 : (((dw x j : Nat) : Int) == ((dw y j : Nat) : Int)) = false := by simp; omega
     obtain ⟨r, hr⟩ : ∃ r : Bool, decide (((dw x j : Nat) : Int) < ((dw y j : Nat) : Int)) = r := ⟨_, rfl⟩
     have hr2 : decide (dw x j < dw y j) = r := by rw [← hr]; simp
     have E := Lib.hid (show cm x y = if r then -1 else 1 by
      by_cases c3 : dw x j < dw y j
      ·rw [← hr, decide_eq_true (by omega), if_pos rfl]; exact cm_lt (lt_top HQ.out c3)
      ·rw [← hr, decide_eq_false (by omega), if_neg (by decide)]; exact cm_gt (lt_top HQ.out.symm (by omega)))
     generalize dw x j = d1 at *
     generalize dw y j = d2 at *
     clear hg hq hv hb hj js cd q1 k0 ca cb
     go_wp2_with fail
     go_quiet (fail)
     have hb := on HB.out (dn_below _ nq)
     have HB := Lib.hid hb
     have z1 := (World.cell?_of_block ((dn_below wr nq).block G (World.block_lt_of_cell? _ _ z1))).trans z1
     have z2 := (World.cell?_of_block ((dn_below wr nq).block G' (World.block_lt_of_cell? _ _ z2))).trans z2
     generalize wr.drewN nq = w3 at *
     clear hb
     go_wp2_with fail
     go_quiet (fail)
     have HB := Lib.hid (on HB.out (dn_below _ nq))
     clear z1 z2
     cases r
     ·go_wp2_with fail
      go_ret
      exact ⟨by rw [E.out]; rfl, HB.out⟩
     ·go_wp2_with fail
      go_ret
      exact ⟨by rw [E.out]; rfl, HB.out⟩
 ·have e3 : (((nl x : Nat) : Int) != ((nl y : Nat) : Int)) = true := by simp; omega
  have e4 : (((nl x : Nat) : Int) == ((nl y : Nat) : Int)) = false := by simp; omega
  obtain ⟨r, hr⟩ : ∃ r : Bool, decide (((nl x : Nat) : Int) < ((nl y : Nat) : Int)) = r := ⟨_, rfl⟩
  have hr2 : decide (nl x < nl y) = r := by rw [← hr]; simp
  have E := Lib.hid (show cm x y = if r then -1 else 1 by
   by_cases c3 : nl x < nl y
   ·rw [← hr, decide_eq_true (by omega), if_pos rfl]; exact cm_lt (nl_lt_lt c3)
   ·rw [← hr, decide_eq_false (by omega), if_neg (by decide)]; exact cm_gt (nl_lt_lt (by omega)))
  generalize nl x = s at *
  generalize nl y = t at *
  clear hA hB c0 hn hm
  cases r
  ·go_enter Tryz.func91, Tryz.ntmps91
   go_wp2_with fail
   refine H1.out.mono ?_
   rintro e w1 ⟨rfl, rfl⟩
   go_wp2_with fail
   refine H2.out.mono ?_
   rintro e w2 ⟨rfl, rfl⟩
   go_wp2_with fail
   go_ret
   exact ⟨by rw [E.out]; rfl, Below.refl _ _⟩
  ·go_enter Tryz.func91, Tryz.ntmps91
   go_wp2_with fail
   refine H1.out.mono ?_
   rintro e w1 ⟨rfl, rfl⟩
   go_wp2_with fail
   refine H2.out.mono ?_
   rintro e w2 ⟨rfl, rfl⟩
   go_wp2_with fail
   go_ret
   exact ⟨by rw [E.out]; rfl, Below.refl _ _⟩
end Go.Proofs.YtapikmfckpgjoaaGreatDoor.GB
end
section
namespace Go.Proofs.YtapikmfckpgjoaaGreatDoor.GC
open Go.RowKit Go.Proofs.YtapikmfckpgjoaaGreatDoorW.PrintWords Go.Proofs.YtapikmfckpgjoaaGreatDoorW.PrintMore Go.Proofs.YtapikmfckpgjoaaGreatDoorW.PrintLast Go.Proofs.YtapikmfckpgjoaaGreatDoor.Num Go.Proofs.YtapikmfckpgjoaaGreatDoor.Ref Go.Proofs.YtapikmfckpgjoaaGreatDoor.GBase Go.Proofs.YtapikmfckpgjoaaGreatDoor.GTh Go.Proofs.YtapikmfckpgjoaaGreatDoor.GA Go.Proofs.YtapikmfckpgjoaaGreatDoor.GB
def rowOf0 (x n : Nat) : Array Value := (Array.range n).map fun j => .int .u64 ((dw x j : Nat) : Int)
theorem rows_are : ∃ f : Nat → Nat → Array Value, ∀ x n, f x n = rowOf0 x n := ⟨rowOf0, fun _ _ => rfl⟩
noncomputable def rowOf : Nat → Nat → Array Value := Classical.choose rows_are
theorem rowOf_eq (x n : Nat) : rowOf x n = rowOf0 x n := Classical.choose_spec rows_are x n
theorem rowOf_size (x n : Nat) : (rowOf x n).size = n := by simp [rowOf_eq, rowOf0]
theorem rowOf_get {x n j : Nat} (h : j < n) : (rowOf x n)[j]? = some (.int .u64 ((dw x j : Nat) : Int)) := by
 simp [rowOf_eq, rowOf0, h]
theorem rowOf_set {x y n i : Nat} (d : Nat) (hd : d < 18446744073709551616) (h : x + d * pw i = y + dw x i * pw i) : (rowOf x n).setIfInBounds i (.int .u64 (d : Int)) = rowOf y n := by
 apply Array.ext
 ·simp [rowOf_eq, rowOf0]
 ·intro j h1 h2
  have h3 : j < n := by simpa [rowOf_eq, rowOf0] using h2
  rw [Array.getElem_setIfInBounds (by rw [rowOf_size]; exact h3)]
  have e := dw_new d hd h j
  by_cases c : i = j
  ·subst c
   rw [if_pos rfl] at e ⊢
   simp [rowOf_eq, rowOf0, e]
  ·rw [if_neg c]
   rw [if_neg (fun h => c h.symm)] at e
   simp [rowOf_eq, rowOf0, e]
theorem made_row (n : Nat) : madeCells (Value.int IntKind.u64 0).cells (n * 1) = rowOf 0 n := by
 rw [rowOf_eq]
 unfold madeCells rowOf0
 rw [Nat.mul_one]
 apply Array.map_congr_left
 intro j _
 rw [dw_zero_n]
 show #[Value.int .u64 0][j % 1]! = _
 rw [Nat.mod_one]
 rfl
theorem make_row (n : Nat) (hn : n < 1099511627776) (w : World) : Sem.run Tryz.prog (Instr.makeSlice 46 (Value.int IntKind.i64 (n : Int)) (Value.int IntKind.i64 (n : Int))) w = .ok (.slice (some ⟨w.heap.size, 0, none⟩) n n) (w.alloc (Obj.cells (rowOf 0 n) 26)) := by
 obtain ⟨i, hi, hz, hs, hb⟩ := info_parts u64_info
 have h := run_make (P := Tryz.prog) w 46 26 i (.int .u64 0) (by kernel_rfl) hi hz .i64 .i64 (n : Int) (n : Int) (by omega) (Int.le_refl _) (by rw [hb]; omega) (by omega)
 rw [Int.toNat_natCast, hs, made_row] at h
 exact h
structure Own (W w : World) (g n x : Nat) : Prop where mk :: (below : Below W.heap.size W w) (le : W.heap.size ≤ g) (blk : w.heap[g]? = some (.cells (rowOf x n) 26 (0, 0)))
theorem Own.next {W w w' : World} {g n x : Nat} (h : Own W w g n x) (d : Below w.heap.size w w') : Own W w' g n x := ⟨on h.below d, h.le, blk_below h.blk d⟩
theorem Own.put {W w : World} {g n x y i d : Nat} (h : Own W w g n x) (hd : d < 18446744073709551616) (e : x + d * pw i = y + dw x i * pw i) : Own W (w.setCell ⟨g, i, none⟩ (.int .u64 (d : Int))) g n y := by
 refine ⟨h.below.setCell h.le _, h.le, ?_⟩
 have := blk_set h.blk i (.int .u64 (d : Int))
 rwa [rowOf_set d hd e] at this
theorem Own.cell {W w : World} {g n x j : Nat} (h : Own W w g n x) (hj : j < n) : w.cell? ⟨g, j, none⟩ = some (.int .u64 ((dw x j : Nat) : Int)) := (blk_cell h.blk j).trans (rowOf_get hj)
theorem Own.frozen {W w : World} {g n x j : Nat} (h : Own W w g n x) : w.frozen? ⟨g, j, none⟩ = false := blk_frozen h.blk j
theorem Own.at {W w : World} {g n x : Nat} (h : Own W w g n x) (hx : x < pw n) : At w g 0 n x := ⟨hx, fun j hj => by rw [Nat.zero_add]; exact h.cell hj⟩
theorem Own.made (w : World) (n : Nat) : Own w (w.alloc (Obj.cells (rowOf 0 n) 26)) w.heap.size n 0 := ⟨box _ _, Nat.le_refl _, blk_new _ _⟩
theorem Own.base {W W' w : World} {g n x : Nat} (h : Own W' w g n x) (d : Below W.heap.size W W') : Own W w g n x := ⟨on d h.below, Nat.le_trans d.size h.le, h.blk⟩
structure Ans (W w : World) (v : Value) (x : Nat) : Prop where mk :: (ex : ∃ G N, v = .slice (some ⟨G, 0, none⟩) (nl x) N ∧ Own W w G N x ∧ nl x ≤ N ∧ N < 1099511627776)
theorem shl_step {S d k p : Nat} (hk : k < 64) (hS : S < pw p * 2^k) :
  dw S p < 2^k ∧ dw S (p + 1) = 0 ∧ S + (dw S p + d * 2^k % 18446744073709551616) * pw p = (S + (d * 2^k % 18446744073709551616) * pw p) + dw S p * pw p
  ∧ S + (d * 2^k % 18446744073709551616) * pw p + (d * 2^k / 18446744073709551616) * pw (p + 1) = S + d * (pw p * 2^k)
  ∧ dw S p + d * 2^k % 18446744073709551616 < 18446744073709551616 := by
 have h2 : 2^k ≤ 18446744073709551616 := by rw [← e64]; exact Nat.pow_le_pow_right (by decide) (by omega)
 have h1 : S < pw (p + 1) := by rw [pw_succ]; exact Nat.lt_of_lt_of_le hS (Nat.mul_le_mul_left _ h2)
 have e1 : dw S p < 2^k := by rw [dw_top h1]; exact Nat.div_lt_of_lt_mul hS
 refine ⟨e1, dw_out h1, by rw [Nat.add_mul]; omega, ?_, ?_⟩
 ·rw [pw_succ]
  have := Nat.mod_add_div (d * 2^k) 18446744073709551616
  have e2 : d * (pw p * 2^k) = (d * 2^k) * pw p := by rw [Nat.mul_comm (pw p), ← Nat.mul_assoc]
  rw [e2]
  conv => rhs; rw [← this]
  rw [Nat.add_mul, Nat.add_assoc]
  congr 2
  ac_rfl
 ·obtain ⟨t, ht⟩ : ∃ t, 64 = k + t := ⟨64 - k, by omega⟩
  have e3 : 18446744073709551616 = 2^k * 2^t := by rw [← Nat.pow_add, ← ht]
  have e4 : d * 2^k % 18446744073709551616 = 2^k * (d % 2^t) := by
   rw [e3, Nat.mul_comm d, Nat.mul_mod_mul_left]
  have e5 : d % 2^t + 1 ≤ 2^t := Nat.mod_lt _ (Nat.two_pow_pos _)
  have e6 : 2^k * (d % 2^t + 1) ≤ 2^k * 2^t := Nat.mul_le_mul_left _ e5
  rw [e4]
  rw [Nat.mul_add, ← e3] at e6
  omega
end Go.Proofs.YtapikmfckpgjoaaGreatDoor.GC
end
