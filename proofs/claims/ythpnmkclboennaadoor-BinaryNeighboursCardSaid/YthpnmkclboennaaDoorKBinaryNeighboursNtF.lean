/- Rows of limbs as the print's lists; dyadic.Form and dyadic.Cmp on numbers of any length. Conditions: in form. -/
import Derived.Test.YthpnmkclboennaaDoorKBinaryNeighboursNtE
import Derived.Test.YthpnmkclboennaaDoorKBinaryNeighboursBinV1
namespace Go.Proofs.YthpnmkclboennaaDoor.NtF
open Go.RowKit Go.Proofs.YthpnmkclboennaaDoorW.PrintWords Go.Proofs.YthpnmkclboennaaDoorW.PrintMore Go.Proofs.YthpnmkclboennaaDoorW.PrintLast Go.Proofs.YthpnmkclboennaaDoor.Num Go.Proofs.YthpnmkclboennaaDoor.Ref Go.Proofs.YthpnmkclboennaaDoor.BinLaw Go.Proofs.YthpnmkclboennaaDoor.BinA Go.Proofs.YthpnmkclboennaaDoor.BinLen Go.Proofs.YthpnmkclboennaaDoor.BinNg2 Go.Proofs.YthpnmkclboennaaDoor.NtTh Go.Proofs.YthpnmkclboennaaDoor.NtA Go.Proofs.YthpnmkclboennaaDoor.NtB Go.Proofs.YthpnmkclboennaaDoor.NtC Go.Proofs.YthpnmkclboennaaDoor.NtD Go.Proofs.YthpnmkclboennaaDoor.NtE
def lm (x n : Nat) : List Int := (List.range n).map fun j => ((dw x j : Nat) : Int)
theorem lm_len (x n : Nat) : (lm x n).length = n := by simp [lm]
theorem lm_at {x n j : Nat} (h : j < n) : (lm x n)[j]? = some ((dw x j : Nat) : Int) := by simp [lm, h]
theorem lm_rd {x n j : Nat} (h : j < n) : rd (lm x n) (j : Int) = ((dw x j : Nat) : Int) := by
  unfold Go.Proofs.YthpnmkclboennaaDoorW.PrintWords.rd
  rw [Int.toNat_natCast, List.getD_eq_getElem?_getD, lm_at h]; rfl
theorem Rw.C {w : World} {A : Option Addr} {n c x : Nat} (h : Rw w A n c x) (hn : n < 1099511627776) : Kd.C (Kd.int .u64) w A (lm x n).length (lm x n) := by
  refine Kd.C_of_reads (d := 0) ⟨rfl, by rw [lm_len]; omega, fun h0 => ?_⟩
  rw [lm_len] at h0
  rcases h.row with ⟨_, e, _⟩ | ⟨G, o, rfl, R⟩
  · omega
  · refine ⟨_, rfl, fun j hj => ?_⟩
    rw [lm_len] at hj
    have e : (lm x n).getD j 0 = ((dw x j : Nat) : Int) := by rw [List.getD_eq_getElem?_getD, lm_at hj]; rfl
    rw [e]
    exact (congrArg w.cell? (by simp [Addr.add])).trans (R.cell j hj)
structure Dy (w : World) (neg : Bool) (A : Option Addr) (c m : Nat) (x : Int) : Prop where
  mk :: (nt : Nt w A c m) (lim : nl m ≤ 8192) (zero : m = 0 → neg = false ∧ x = 0) (odd : m ≠ 0 → m % 2 = 1) (low : -1048576 ≤ x) (high : x ≤ 1048576)
theorem Dy.next {w w' : World} {neg : Bool} {A : Option Addr} {c m : Nat} {x : Int} (h : Dy w neg A c m x) (d : Below w.heap.size w w') : Dy w' neg A c m x := ⟨h.nt.next d, h.lim, h.zero, h.odd, h.low, h.high⟩
theorem dw_odd {m : Nat} (h : m % 2 = 1) : dw m 0 % 2 = 1 := by unfold dw; rw [pw_zero, Nat.div_one]; omega
theorem nform_ev (neg : Bool) (m : Nat) (h : nl m ≤ 8192) (h0 : m = 0 → neg = false) : PNeg.num_Form.f neg (lm m (nl m)) = some true := by
  have e0 : PNeg.nat_Form.f (lm m (nl m)) = some true := by
    unfold PNeg.nat_Form.f
    rw [lm_len, if_pos (by omega)]
    by_cases c : m = 0
    · have : nl m = 0 := by rw [c]; rfl
      rw [this]; rfl
    · have p := nl_pos c
      have t := nl_top c
      obtain ⟨k, hk⟩ : ∃ k, nl m = k + 1 := ⟨nl m - 1, by omega⟩
      have e : wrap64 (((nl m : Nat) : Int) - 1) = (k : Int) := by rw [w64 (by omega) (by omega)]; omega
      rw [show nl m - 1 = k by omega] at t
      rw [if_neg (by omega), e, if_pos (by omega), if_pos (by omega), lm_rd (by omega)]
      have : (((dw m k : Nat) : Int) != 0) = true := by simp; omega
      rw [this]
  unfold PNeg.num_Form.f
  rw [e0]
  cases neg
  · rfl
  · have c : m ≠ 0 := fun c => absurd (h0 c) (by decide)
    have p := nl_pos c
    simp only [Option.bind_some, if_true]
    rw [lm_len]
    have : (((nl m : Nat) : Int) == 0) = false := by simp; omega
    rw [this]; rfl
theorem dform_ev {w : World} {neg : Bool} {A : Option Addr} {c m : Nat} {x : Int} (h : Dy w neg A c m x) : Ev (fun k => PNeg.dyadic_Form.f k neg (lm m (nl m)) x) true := by
  unfold PNeg.dyadic_Form.f
  have hl := h.low
  have hh := h.high
  rw [nform_ev neg m h.lim (fun c => (h.zero c).1)]
  simp only [Option.bind_some, if_true]
  refine Ev.congr (fun k => if_neg (by omega)) ?_
  refine Ev.step (f := fun _ => some true) (fun k => ?_) (Ev.now _)
  rw [PNeg.dyadic_Form.j0, if_neg (by simp; omega)]
  by_cases c : m = 0
  · have e2 : PNeg.dyadic_nought.f neg (lm m (nl m)) x = some true := by
      have : nl m = 0 := by rw [c]; rfl
      rw [this]; rfl
    rw [e2]
    simp only [Option.bind_some]
    rw [if_pos trivial, (h.zero c).2]; rfl
  · have p := nl_pos c
    have e2 : PNeg.dyadic_nought.f neg (lm m (nl m)) x = some false := by
      unfold PNeg.dyadic_nought.f
      rw [lm_len]
      have : (((nl m : Nat) : Int) == 0) = false := by simp; omega
      rw [this]
    rw [e2]
    simp only [Option.bind_some]
    rw [if_neg (by simp), lm_len, if_pos (by omega)]
    have hr : rd (lm m (nl m)) 0 = ((dw m 0 : Nat) : Int) := lm_rd (j := 0) p
    have hb : Go.bits .and .u64 ((dw m 0 : Nat) : Int) 1 = 1 := by
      have := u64_and_nat (dw m 0) 1 (dw_lt _ _) (by decide)
      rw [Nat.and_one_is_mod, dw_odd (h.odd c)] at this
      exact this
    rw [hr, hb]; rfl
theorem dform_any {w : World} {neg : Bool} {A : Option Addr} {c m : Nat} {x : Int} (h : Dy w neg A c m x) : Calls Tryd.prog 61 #[.agg #[.bool neg, .slice A (nl m) c, .int .i64 x]] w fun e w' => e = .returned (.bool true) ∧ Below w.heap.size w w' := by
  obtain ⟨k, hk⟩ := (dform_ev h).rounds
  have := PNeg.dyadic_Form.calls k neg A c (lm m (nl m)) x true w (Rw.C h.nt (by have := h.lim; omega)) (by rw [lm_len]; exact h.nt.cap) hk
  rwa [lm_len] at this
def dcm (neg : Bool) (m : Nat) (x : Int) (neg' : Bool) (m' : Nat) (x' : Int) : Int :=
  if sg neg m < sg neg' m' then -1 else if sg neg' m' < sg neg m then 1 else if sg neg m = 0 then 0 else sg neg m * szc m x m' x'
set_option maxRecDepth 100000 in
set_option maxHeartbeats 400000 in
theorem dcmp_any (w : World) (neg neg' : Bool) (A A' : Option Addr) (c c' m m' : Nat) (x x' : Int) (h : Dy w neg A c m x) (h' : Dy w neg' A' c' m' x') :
    Calls Tryd.prog 34 #[.agg #[.bool neg, .slice A (nl m) c, .int .i64 x], .agg #[.bool neg', .slice A' (nl m') c', .int .i64 x']] w fun e w' => e = .returned (.tuple #[.int .i64 (dcm neg m x neg' m' x'), .int .i64 0]) ∧ Below w.heap.size w w' := by
  have Z := Lib.hid (boxes w (.bool neg) (.slice A (nl m) c) (.int .i64 x) (.bool neg') (.slice A' (nl m') c') (.int .i64 x'))
  have H := Lib.hid (h.next Z.out.below)
  have H' := Lib.hid (h'.next Z.out.below)
  clear h h'
  go_enter Tryd.func34, Tryd.ntmps34
  go_wp2_with fail
  generalize (w.alloc (Obj.cells #[.bool neg, .slice A (nl m) c, .int .i64 x] 29)).alloc (Obj.cells #[.bool neg', .slice A' (nl m') c', .int .i64 x'] 29) = w0 at *
  generalize hg : w.heap.size = g at *
  with_reducible refine (dform_any H.out).mono ?_
  rintro e w1 ⟨rfl, hd⟩
  have Z := Lib.hid (Z.out.next hd)
  have H := Lib.hid (H.out.next hd)
  have H' := Lib.hid (H'.out.next hd)
  have z0 := Z.out.z0
  have z1 := Z.out.z1
  have z2 := Z.out.z2
  have y0 := y0_ Z.out
  have y1 := y1_ Z.out
  have y2 := y2_ Z.out
  clear hd
  go_wp2_with fail
  with_reducible refine (dform_any H'.out).mono ?_
  rintro e w2 ⟨rfl, hd⟩
  have Z := Lib.hid (Z.out.next hd)
  have H := Lib.hid (H.out.next hd)
  have H' := Lib.hid (H'.out.next hd)
  have z0 := Z.out.z0
  have z1 := Z.out.z1
  have z2 := Z.out.z2
  have y0 := y0_ Z.out
  have y1 := y1_ Z.out
  have y2 := y2_ Z.out
  clear hd
  go_wp2_with fail
  have Z := Lib.hid (Z.out.next ((Below.refl _ _).drew))
  have H := Lib.hid (H.out.next ((Below.refl _ _).drew))
  have H' := Lib.hid (H'.out.next ((Below.refl _ _).drew))
  clear z0 z1 z2 y0 y1 y2
  have T := Lib.hid (fun w (h : Dy w neg A c m x) => sign_any w neg A (nl m) c m h.nt (by have := h.lim; omega))
  have T' := Lib.hid (fun w (h : Dy w neg' A' c' m' x') => sign_any w neg' A' (nl m') c' m' h.nt (by have := h.lim; omega))
  have tok1 : True := trivial
  have tok2 : True := trivial
  go_region_held3 (fun w' => w'.cell? ⟨g, 0, none⟩ = some (.bool neg) ∧ w'.cell? ⟨g, 1, none⟩ = some (.slice A (nl m) c) ∧ w'.cell? ⟨g, 2, none⟩ = some (.int .i64 x) ∧ w'.cell? ⟨g + 1, 0, none⟩ = some (.bool neg') ∧ w'.cell? ⟨g + 1, 1, none⟩ = some (.slice A' (nl m') c') ∧ w'.cell? ⟨g + 1, 2, none⟩ = some (.int .i64 x'))
    (exact ⟨Z.out.z0, Z.out.z1, Z.out.z2, y0_ Z.out, y1_ Z.out, y2_ Z.out⟩)
    (first | (go_at_call 66; have _t := tok1; (with_reducible refine (T.out _ H.out).mono ?_); rintro e_ wx1 ⟨rfl, hd⟩; have Z := Lib.hid (Z.out.next hd); have H := Lib.hid (H.out.next hd); have H' := Lib.hid (H'.out.next hd); clear tok1 hd) | (go_at_call 66; have _t := tok2; (with_reducible refine (T'.out _ H'.out).mono ?_); rintro e_ wx1 ⟨rfl, hd⟩; have Z := Lib.hid (Z.out.next hd); have H := Lib.hid (H.out.next hd); have H' := Lib.hid (H'.out.next hd); clear tok2 hd))
  have hd := H.out
  have hd' := H'.out
  by_cases c1 : sg neg m < sg neg' m'
  · have E := Lib.hid (show dcm neg m x neg' m' x' = -1 from if_pos c1)
    have q1 : decide (sg neg m < sg neg' m') = true := decide_eq_true c1
    generalize sg neg m = s at *
    generalize sg neg' m' = t at *
    clear c1 hd hd'
    go_wp2_with fail
    go_ret2
    exact ⟨by rw [E.out]; rfl, hg ▸ Z.out.below⟩
  · by_cases c2 : sg neg' m' < sg neg m
    · have E := Lib.hid (show dcm neg m x neg' m' x' = 1 by unfold dcm; rw [if_neg c1, if_pos c2])
      have q1 : decide (sg neg m < sg neg' m') = false := decide_eq_false c1
      have q2 : decide (sg neg' m' < sg neg m) = true := decide_eq_true c2
      generalize sg neg m = s at *
      generalize sg neg' m' = t at *
      clear c1 c2 hd hd'
      go_wp2_with fail
      go_ret2
      exact ⟨by rw [E.out]; rfl, hg ▸ Z.out.below⟩
    · by_cases c3 : sg neg m = 0
      · have E := Lib.hid (show dcm neg m x neg' m' x' = 0 by unfold dcm; rw [if_neg c1, if_neg c2, if_pos c3])
        have q1 : decide (sg neg m < sg neg' m') = false := decide_eq_false c1
        have q2 : decide (sg neg' m' < sg neg m) = false := decide_eq_false c2
        generalize sg neg m = s at *
        generalize sg neg' m' = t at *
        subst c3
        clear c1 c2 hd hd'
        go_wp2_with fail
        go_ret2
        exact ⟨by rw [E.out]; rfl, hg ▸ Z.out.below⟩
      · have E := Lib.hid (show dcm neg m x neg' m' x' = sg neg m * szc m x m' x' by unfold dcm; rw [if_neg c1, if_neg c2, if_neg c3])
        have q1 : decide (sg neg m < sg neg' m') = false := decide_eq_false c1
        have q2 : decide (sg neg' m' < sg neg m) = false := decide_eq_false c2
        have q3 : (sg neg m == 0) = false := by simpa using c3
        have n0 : m ≠ 0 := fun e => c3 (by unfold sg; rw [if_pos e])
        have n0' : m' ≠ 0 := fun e => by
          have e1 : sg neg' m' = 0 := by unfold sg; rw [if_pos e]
          omega
        have b1 : sg neg m = 1 ∨ sg neg m = -1 := by unfold sg; rw [if_neg n0]; cases neg <;> simp
        have b2 : szc m x m' x' = 1 ∨ szc m x m' x' = -1 ∨ szc m x m' x' = 0 := by unfold szc cm; split <;> (try split) <;> simp
        have q4 : IntKind.i64.wrap (sg neg m * szc m x m' x') = sg neg m * szc m x m' x' := by
          rcases b1 with e | e <;> rcases b2 with f | f | f <;> rw [e, f] <;> decide
        have S := Lib.hid (fun w h h' => size_any w neg neg' A A' c c' m m' x x' h h' n0 n0' hd.lim hd'.lim ⟨hd.low, hd.high⟩ ⟨hd'.low, hd'.high⟩)
        have z0 := Z.out.z0
        have z1 := Z.out.z1
        have z2 := Z.out.z2
        have y0 := y0_ Z.out
        have y1 := y1_ Z.out
        have y2 := y2_ Z.out
        generalize sg neg m = s at *
        generalize sg neg' m' = t at *
        generalize szc m x m' x' = u at *
        clear c1 c2 c3 hd hd' n0 n0' b1 b2
        go_wp2_with fail
        with_reducible refine (S.out _ H.out.nt H'.out.nt).mono ?_
        rintro e w4 ⟨rfl, hd⟩
        have Z := Lib.hid (Z.out.next hd)
        clear hd z0 z1 z2 y0 y1 y2
        go_wp2_with fail
        go_ret2
        exact ⟨by rw [E.out]; rfl, hg ▸ Z.out.below⟩
end Go.Proofs.YthpnmkclboennaaDoor.NtF
