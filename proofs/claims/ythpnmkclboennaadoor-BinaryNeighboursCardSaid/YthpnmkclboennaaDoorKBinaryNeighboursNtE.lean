/- dyadic.size: the order of the sizes of two numbers that are not nought. Conditions: in form. -/
import Derived.Test.YthpnmkclboennaaDoorKBinaryNeighboursNtD
import Derived.Test.YthpnmkclboennaaDoorKBinaryNeighboursBinNg3
import Derived.Test.YthpnmkclboennaaDoorKBinaryNeighboursPLibx1
namespace Go.Proofs.YthpnmkclboennaaDoor.NtE
open Go.RowKit Go.Proofs.YthpnmkclboennaaDoorW.PrintWords Go.Proofs.YthpnmkclboennaaDoorW.PrintMore Go.Proofs.YthpnmkclboennaaDoorW.PrintLast Go.Proofs.YthpnmkclboennaaDoor.Num Go.Proofs.YthpnmkclboennaaDoor.Ref Go.Proofs.YthpnmkclboennaaDoor.BinLaw Go.Proofs.YthpnmkclboennaaDoor.BinA Go.Proofs.YthpnmkclboennaaDoor.BinLen Go.Proofs.YthpnmkclboennaaDoor.BinNg2 Go.Proofs.YthpnmkclboennaaDoor.NtTh Go.Proofs.YthpnmkclboennaaDoor.NtA Go.Proofs.YthpnmkclboennaaDoor.NtB Go.Proofs.YthpnmkclboennaaDoor.NtC Go.Proofs.YthpnmkclboennaaDoor.NtD
theorem boxes (w : World) (a b c d e f : Value) : Two w ((w.alloc (Obj.cells #[a, b, c] 29)).alloc (Obj.cells #[d, e, f] 29)) w.heap.size a b c d e f := by
  have hg : (w.alloc (Obj.cells #[a, b, c] 29)).heap.size = w.heap.size + 1 := by simp
  have h1 := blk_new (w.alloc (Obj.cells #[a, b, c] 29)) (Obj.cells #[d, e, f] 29)
  rw [hg] at h1
  exact ⟨on (box _ _) (box _ _), Nat.le_refl _, blk_below (blk_new _ _) (box _ _), h1⟩
theorem y0_ {W w : World} {g : Nat} {a b c d e f : Value} (h : Two W w g a b c d e f) : w.cell? ⟨g + 1, 0, none⟩ = some d := (blk_cell h.blk1 0).trans rfl
theorem y1_ {W w : World} {g : Nat} {a b c d e f : Value} (h : Two W w g a b c d e f) : w.cell? ⟨g + 1, 1, none⟩ = some e := (blk_cell h.blk1 1).trans rfl
theorem y2_ {W w : World} {g : Nat} {a b c d e f : Value} (h : Two W w g a b c d e f) : w.cell? ⟨g + 1, 2, none⟩ = some f := (blk_cell h.blk1 2).trans rfl
def szc (m : Nat) (x : Int) (m' : Nat) (x' : Int) : Int := cm (m * 2^(x - min x x').toNat) (m' * 2^(x' - min x x').toNat)
theorem szc_top {m m' : Nat} {x x' : Int} (h0 : m ≠ 0) (h0' : m' ≠ 0) (h : x + (bl m : Nat) < x' + (bl m' : Nat)) : m * 2^(x - min x x').toNat < m' * 2^(x' - min x x').toNat := by
  have h1 : bl (m * 2^(x - min x x').toNat) = bl m + (x - min x x').toNat := bl_mul m _ h0
  have h2 : bl (m' * 2^(x' - min x x').toNat) = bl m' + (x' - min x x').toNat := bl_mul m' _ h0'
  by_cases c : m * 2^(x - min x x').toNat < m' * 2^(x' - min x x').toNat
  · exact c
  · have h3 := bl_mono (show m' * 2^(x' - min x x').toNat ≤ m * 2^(x - min x x').toNat by omega)
    omega
theorem limb_le {m n : Nat} (h0 : m ≠ 0) (h : bl m + n ≤ 524288) : nl (m * 2^n) < 10000 := by
  have := bl_mul m n h0
  unfold nl; omega
set_option maxRecDepth 100000 in
set_option maxHeartbeats 400000 in
theorem size_any (w : World) (neg neg' : Bool) (A A' : Option Addr) (c c' m m' : Nat) (x x' : Int) (h : Nt w A c m) (h' : Nt w A' c' m') (h0 : m ≠ 0) (h0' : m' ≠ 0) (hm : nl m ≤ 8192) (hm' : nl m' ≤ 8192)
    (hx : -1048576 ≤ x ∧ x ≤ 1048576) (hx' : -1048576 ≤ x' ∧ x' ≤ 1048576) :
    Calls Tryd.prog 67 #[.agg #[.bool neg, .slice A (nl m) c, .int .i64 x], .agg #[.bool neg', .slice A' (nl m') c', .int .i64 x']] w fun e w' => e = .returned (.int .i64 (szc m x m' x')) ∧ Below w.heap.size w w' := by
  have Z := Lib.hid (boxes w (.bool neg) (.slice A (nl m) c) (.int .i64 x) (.bool neg') (.slice A' (nl m') c') (.int .i64 x'))
  have H := Lib.hid (h.next Z.out.below)
  have H' := Lib.hid (h'.next Z.out.below)
  have T := Lib.hid (fun w (h : Nt w A c m) => top_any w neg x A (nl m) c m h hm (by omega) (by omega))
  have T' := Lib.hid (fun w (h : Nt w A' c' m') => top_any w neg' x' A' (nl m') c' m' h hm' (by omega) (by omega))
  have HM := Lib.hid (And.intro h0 (And.intro h0' (And.intro hm (And.intro hm' (And.intro hx hx')))))
  clear h h' h0 h0' hm hm' hx hx'
  go_enter Tryd.func67, Tryd.ntmps67
  go_wp2_with fail
  generalize (w.alloc (Obj.cells #[.bool neg, .slice A (nl m) c, .int .i64 x] 29)).alloc (Obj.cells #[.bool neg', .slice A' (nl m') c', .int .i64 x'] 29) = w0 at *
  generalize hg : w.heap.size = g at *
  have Z := Lib.hid (Z.out.next ((Below.refl _ _).drew))
  have H := Lib.hid (H.out.next ((Below.refl _ _).drew))
  have H' := Lib.hid (H'.out.next ((Below.refl _ _).drew))
  have tok1 : True := trivial
  have tok2 : True := trivial
  go_region_held3 (fun w' => w'.cell? ⟨g, 0, none⟩ = some (.bool neg) ∧ w'.cell? ⟨g, 1, none⟩ = some (.slice A (nl m) c) ∧ w'.cell? ⟨g, 2, none⟩ = some (.int .i64 x) ∧ w'.cell? ⟨g + 1, 0, none⟩ = some (.bool neg') ∧ w'.cell? ⟨g + 1, 1, none⟩ = some (.slice A' (nl m') c') ∧ w'.cell? ⟨g + 1, 2, none⟩ = some (.int .i64 x'))
    (exact ⟨Z.out.z0, Z.out.z1, Z.out.z2, y0_ Z.out, y1_ Z.out, y2_ Z.out⟩)
    (first | (go_at_call 91; have _t := tok1; (with_reducible refine (T.out _ H.out).mono ?_); rintro e_ wx1 ⟨rfl, hd⟩; have Z := Lib.hid (Z.out.next hd); have H := Lib.hid (H.out.next hd); have H' := Lib.hid (H'.out.next hd); clear tok1 hd) | (go_at_call 91; have _t := tok2; (with_reducible refine (T'.out _ H'.out).mono ?_); rintro e_ wx1 ⟨rfl, hd⟩; have Z := Lib.hid (Z.out.next hd); have H := Lib.hid (H.out.next hd); have H' := Lib.hid (H'.out.next hd); clear tok2 hd))
  have hm := HM.out
  generalize ht : x + ((bl m : Nat) : Int) - 1 = t at *
  generalize hu : x' + ((bl m' : Nat) : Int) - 1 = u at *
  rcases (show t < u ∨ u < t ∨ t = u by omega) with c1 | c1 | c1
  · have E := Lib.hid (show szc m x m' x' = -1 from cm_lt (szc_top hm.1 hm.2.1 (by omega)))
    have q1 : decide (t < u) = true := decide_eq_true c1
    clear ht hu c1 hm HM
    go_wp2_with fail
    go_ret
    exact ⟨by rw [E.out]; rfl, hg ▸ Z.out.below⟩
  · have E := Lib.hid (show szc m x m' x' = 1 by
      have := szc_top hm.2.1 hm.1 (show x' + ((bl m' : Nat) : Int) < x + ((bl m : Nat) : Int) by omega)
      rw [Int.min_comm] at this
      exact cm_gt this)
    have q1 : decide (t < u) = false := decide_eq_false (by omega)
    have q2 : decide (u < t) = true := decide_eq_true c1
    clear ht hu c1 hm HM
    go_wp2_with fail
    go_ret
    exact ⟨by rw [E.out]; rfl, hg ▸ Z.out.below⟩
  · have q1 : decide (t < u) = false := decide_eq_false (by omega)
    have q2 : decide (u < t) = false := decide_eq_false (by omega)
    have hb1 := bl_le_limbs m
    have hb2 := bl_le_limbs m'
    obtain ⟨k, hk⟩ : ∃ k : Nat, k = 0 := ⟨_, rfl⟩
    by_cases c2 : x ≤ x'
    · obtain ⟨n', hn'⟩ : ∃ n' : Nat, (n' : Int) = x' - x := ⟨(x' - x).toNat, by omega⟩
      have E := Lib.hid (show szc m x m' x' = cm (m * 2^k) (m' * 2^n') by
        unfold szc
        rw [hk]
        rw [Int.min_eq_left c2, show (x - x).toNat = 0 by omega, show (x' - x).toNat = n' by omega])
      have q3 : wrap64 0 = ((k : Nat) : Int) := by rw [hk]; exact w64 (by decide) (by decide)
      have L := Lib.hid (And.intro (limb_le hm.1 (show bl m + k ≤ 524288 by omega)) (limb_le hm.2.1 (show bl m' + n' ≤ 524288 by omega)))
      have q4 : IntKind.i64.wrap (x' - x) = (n' : Int) := by rw [IntWalk.i64_in _ (by omega)]; omega
      have S := Lib.hid (fun w h => shl_any w A c m k h hm.1 (by omega))
      have S' := Lib.hid (fun w h => shl_any w A' c' m' n' h hm.2.1 (by omega))
      have z1 := Z.out.z1
      have z2 := Z.out.z2
      have y1 := y1_ Z.out
      have y2 := y2_ Z.out
      have C2 := Lib.hid c2
      clear ht hu c1 hm HM hb1 hb2 hn' c2 hk
      go_wp2_with fail
      all_goals first | (exfalso; have := C2.out; omega) | skip
      · refine (S.out _ H.out).mono ?_
        rintro e w3 ⟨⟨G1, c1, rfl, hr, -⟩, hd⟩
        have Z := Lib.hid (Z.out.next hd)
        have H' := Lib.hid (H'.out.next hd)
        have R := Lib.hid hr
        have y1 := y1_ Z.out
        have y2 := y2_ Z.out
        clear z1 z2 hr hd
        go_wp2_with fail
        refine (S'.out _ H'.out).mono ?_
        rintro e w4 ⟨⟨G2, c2, rfl, hr, -⟩, hd⟩
        have Z := Lib.hid (Z.out.next hd)
        have R := Lib.hid (R.out.next hd)
        have R' := Lib.hid hr
        clear y1 y2 hr hd
        go_wp2_with fail
        refine (cmp_any _ _ _ _ _ _ _ _ _ R.out R'.out (by have := L.out.1; omega) (by have := L.out.2; omega)).mono ?_
        rintro e w5 ⟨rfl, hd⟩
        have Z := Lib.hid (Z.out.next hd)
        clear hd
        go_wp2_with fail
        go_ret
        exact ⟨by rw [E.out]; rfl, hg ▸ Z.out.below⟩
    · obtain ⟨n, hn⟩ : ∃ n : Nat, (n : Int) = x - x' := ⟨(x - x').toNat, by omega⟩
      have E := Lib.hid (show szc m x m' x' = cm (m * 2^n) (m' * 2^k) by
        unfold szc
        rw [hk]
        rw [Int.min_eq_right (by omega), show (x - x').toNat = n by omega, show (x' - x').toNat = 0 by omega])
      have q3 : wrap64 0 = ((k : Nat) : Int) := by rw [hk]; exact w64 (by decide) (by decide)
      have q4 : IntKind.i64.wrap (x - x') = (n : Int) := by rw [IntWalk.i64_in _ (by omega)]; omega
      have q5 : wrap64 (x - x') = (n : Int) := by rw [w64 (by omega) (by omega)]; omega
      have L := Lib.hid (And.intro (limb_le hm.1 (show bl m + n ≤ 524288 by omega)) (limb_le hm.2.1 (show bl m' + k ≤ 524288 by omega)))
      have S := Lib.hid (fun w h => shl_any w A c m n h hm.1 (by omega))
      have S0 := fun w h => shl_any w A' c' m' k h hm.2.1 (by omega)
      have k0 : ((k : Nat) : Int) = 0 := by omega
      simp only [k0] at S0
      have S' := Lib.hid S0
      clear S0 k0
      have z1 := Z.out.z1
      have z2 := Z.out.z2
      have y1 := y1_ Z.out
      have y2 := y2_ Z.out
      have C2 := Lib.hid c2
      clear ht hu c1 hm HM hb1 hb2 hn c2 hk
      go_wp2_with fail
      all_goals first | (exfalso; have := C2.out; omega) | skip
      · refine (S.out _ H.out).mono ?_
        rintro e w3 ⟨⟨G1, c1, rfl, hr, -⟩, hd⟩
        have Z := Lib.hid (Z.out.next hd)
        have H' := Lib.hid (H'.out.next hd)
        have R := Lib.hid hr
        have y1 := y1_ Z.out
        have y2 := y2_ Z.out
        clear z1 z2 hr hd
        go_wp2_with fail
        refine (S'.out _ H'.out).mono ?_
        rintro e w4 ⟨⟨G2, c2, rfl, hr, -⟩, hd⟩
        have Z := Lib.hid (Z.out.next hd)
        have R := Lib.hid (R.out.next hd)
        have R' := Lib.hid hr
        clear y1 y2 hr hd
        go_wp2_with fail
        refine (cmp_any _ _ _ _ _ _ _ _ _ R.out R'.out (by have := L.out.1; omega) (by have := L.out.2; omega)).mono ?_
        rintro e w5 ⟨rfl, hd⟩
        have Z := Lib.hid (Z.out.next hd)
        clear hd
        go_wp2_with fail
        go_ret
        exact ⟨by rw [E.out]; rfl, hg ▸ Z.out.below⟩
end Go.Proofs.YthpnmkclboennaaDoor.NtE
