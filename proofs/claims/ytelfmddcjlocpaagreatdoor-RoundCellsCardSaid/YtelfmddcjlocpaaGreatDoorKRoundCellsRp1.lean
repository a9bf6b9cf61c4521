/- What the printed functions on dyadics answer: Form (the program's and the reference's), Sign, top, size, Cmp. Plain Lean over the printed functions. Conditions: lists of words. -/
import Derived.Test.YtelfmddcjlocpaaGreatDoorKRoundCellsRnd
import Derived.Test.YtelfmddcjlocpaaGreatDoorKRoundCellsGivenD
import Derived.Test.YtelfmddcjlocpaaGreatDoorKRoundCellsBl
import Derived.Test.YtelfmddcjlocpaaGreatDoorKRoundCellsPxL0
namespace Go.Proofs.YtelfmddcjlocpaaGreatDoor.Rp1
open Go.RowKit Go.Proofs.YtelfmddcjlocpaaGreatDoorW.PrintWords Go.Proofs.YtelfmddcjlocpaaGreatDoorW.PrintMore Go.Proofs.YtelfmddcjlocpaaGreatDoor.Num Go.Proofs.YtelfmddcjlocpaaGreatDoor.PLib Go.Proofs.YtelfmddcjlocpaaGreatDoor.Ref Go.Proofs.YtelfmddcjlocpaaGreatDoor.GTh Go.Proofs.YtelfmddcjlocpaaGreatDoor.Given
theorem Ev.succ {α : Type} {g : Nat → Option α} {r : α} (h : Ev (fun k => g (k + 1)) r) : Ev g r := Ev.step (f := fun k => g (k + 1)) (fun _ => rfl) h
theorem lb_rd {x j : Nat} (h : j < nl x) : rd (lb x) (j : Int) = ((dw x j : Nat) : Int) := by
 unfold Go.Proofs.YtelfmddcjlocpaaGreatDoorW.PrintWords.rd
 rw [Int.toNat_natCast, List.getD_eq_getElem?_getD, lb_at h]; rfl
theorem dw_odd {m : Nat} (h : m % 2 = 1) : dw m 0 % 2 = 1 := by unfold dw; rw [pw_zero, Nat.div_one]; omega
theorem and_one (n : Nat) (h : n < 18446744073709551616) : Go.bits .and .u64 (n : Int) 1 = ((n % 2 : Nat) : Int) := by
 have := u64_and_nat n 1 h (by decide)
 rw [Nat.and_one_is_mod] at this
 exact this
def Wf (l : List Int) : Prop := ∀ d ∈ l, 0 ≤ d ∧ d < 18446744073709551616
def nfm (l : List Int) : Bool := decide (l.length ≤ 8192) && (decide (l.length = 0) || (rd l (((l.length - 1 : Nat) : Int)) != 0))
theorem natForm_f (l : List Int) : nat_Form.f l = some (nfm l) := by
 unfold nat_Form.f nfm
 by_cases c : l.length ≤ 8192
 ·rw [if_pos (by omega), decide_eq_true c, Bool.true_and]
  by_cases c0 : l.length = 0
  ·rw [if_pos (by omega), decide_eq_true c0, Bool.true_or]
  ·have e : wrap64 ((l.length : Int) - 1) = ((l.length - 1 : Nat) : Int) := by rw [w64 (by omega) (by omega)]; omega
   rw [if_neg (by omega), e, if_pos (by omega), if_pos (by omega), decide_eq_false c0, Bool.false_or]
 ·rw [if_neg (by omega), decide_eq_false c, Bool.false_and]
theorem refForm_f (l : List Int) : gnomonref01_DocForm.f l = some (nfm l) := by
 unfold gnomonref01_DocForm.f nfm
 by_cases c : l.length ≤ 8192
 ·rw [if_pos (by omega), decide_eq_true c, Bool.true_and]
  by_cases c0 : l.length = 0
  ·rw [if_pos (by omega), decide_eq_true c0, Bool.true_or]
  ·have e : wrap64 ((l.length : Int) - 1) = ((l.length - 1 : Nat) : Int) := by rw [w64 (by omega) (by omega)]; omega
   rw [if_neg (by omega), e, if_pos (by omega), if_pos (by omega), decide_eq_false c0, Bool.false_or]
 ·rw [if_neg (by omega), decide_eq_false c, Bool.false_and]
def dyB (neg : Bool) (l : List Int) (x : Int) : Bool := if nfm l = true ∧ -1048576 ≤ x ∧ x ≤ 1048576 then (if l.length = 0 then (!neg && (x == 0)) else (Go.bits .and .u64 (rd l 0) 1 == 1)) else false
theorem numForm_f (neg : Bool) (l : List Int) : num_Form.f neg l = some (nfm l && !(neg && decide (l.length = 0))) := by
 unfold num_Form.f
 rw [natForm_f]
 simp only [Option.bind_some]
 cases hn : nfm l
 ·rfl
 ·simp only [if_true]
  cases neg
  ·rfl
  ·rw [if_pos rfl, Bool.true_and, Bool.true_and]
   by_cases c : l.length = 0
   ·rw [decide_eq_true c, c]; rfl
   ·rw [decide_eq_false c, show ((l.length : Int) == 0) = false by simpa using c]
theorem form_ev (neg : Bool) (l : List Int) (x : Int) : Ev (fun k => dyadic_Form.f k neg l x) (dyB neg l x) := by
 have hj : ∀ b : Bool, (b = true → dyB neg l x = false) → (b = false → dyB neg l x = (if l.length = 0 then (!neg && (x == 0)) else (Go.bits .and .u64 (rd l 0) 1 == 1)) ∧ (l.length = 0 → neg = false)) → Ev (fun k => dyadic_Form.j0 k b neg l x) (dyB neg l x) := by
  intro b hb1 hb2
  refine Ev.step (f := fun _ => some (dyB neg l x)) (fun k => ?_) (Ev.now _)
  rw [dyadic_Form.j0]
  cases b
  ·obtain ⟨e, e0⟩ := hb2 rfl
   rw [if_neg (by decide), e]
   by_cases c : l.length = 0
   ·have : dyadic_nought.f neg l x = some true := by unfold dyadic_nought.f; rw [c]; rfl
    rw [this, if_pos c, e0 c]
    simp
   ·have : dyadic_nought.f neg l x = some false := by unfold dyadic_nought.f; rw [show ((l.length : Int) == 0) = false by simpa using c]
    rw [this, if_neg c]
    simp only [Option.bind_some]
    rw [if_neg (by decide), if_pos (by omega)]
  ·rw [if_pos rfl, hb1 rfl]
 unfold dyadic_Form.f
 rw [numForm_f]
 simp only [Option.bind_some]
 cases hn : nfm l
 ·rw [Bool.false_and]
  refine Ev.congr (fun k => if_neg (by decide)) (hj true (fun _ => ?_) (fun h => by cases h))
  unfold dyB
  rw [hn, if_neg (by simp)]
 ·rw [Bool.true_and]
  cases hz : (neg && decide (l.length = 0))
  ·refine Ev.congr (fun k => if_pos (by decide)) ?_
   have hz' : l.length = 0 → neg = false := fun c => by
    rw [decide_eq_true c, Bool.and_true] at hz; exact hz
   by_cases c1 : x < -1048576
   ·refine Ev.congr (fun k => if_pos c1) (hj true (fun _ => ?_) (fun h => by cases h))
    unfold dyB
    rw [if_neg (by omega)]
   ·refine Ev.congr (fun k => if_neg c1) (hj _ (fun h => ?_) (fun h => ?_))
    ·have := of_decide_eq_true h
     unfold dyB
     rw [if_neg (by omega)]
    ·have := of_decide_eq_false h
     refine ⟨?_, hz'⟩
     unfold dyB
     rw [if_pos ⟨hn, by omega, by omega⟩]
  ·refine Ev.congr (fun k => if_neg (by decide)) (hj true (fun _ => ?_) (fun h => by cases h))
   rw [Bool.and_eq_true] at hz
   have := of_decide_eq_true hz.2
   unfold dyB
   rw [hz.1]
   split
   ·first | rfl | (rw [if_pos this]; rfl)
   ·rfl
theorem docForm_ev (neg : Bool) (l : List Int) (x : Int) : Ev (fun k => gnomonref05_DocForm.f k neg l x) (dyB neg l x) := by
 have hj : ∀ b : Bool, (b = true → dyB neg l x = false) → (b = false → dyB neg l x = (if l.length = 0 then (!neg && (x == 0)) else (Go.bits .and .u64 (rd l 0) 1 == 1))) → Ev (fun k => gnomonref05_DocForm.j0 k b neg l x) (dyB neg l x) := by
  intro b hb1 hb2
  refine Ev.step (f := fun _ => some (dyB neg l x)) (fun k => ?_) (Ev.now _)
  rw [gnomonref05_DocForm.j0]
  cases b
  ·rw [if_neg (by decide), hb2 rfl]
   by_cases c : l.length = 0
   ·rw [if_pos (by omega), if_pos c]
    cases neg <;> rfl
   ·rw [if_neg (by omega), if_neg c, if_pos (by omega)]
  ·rw [if_pos rfl, hb1 rfl]
 unfold gnomonref05_DocForm.f
 rw [refForm_f]
 simp only [Option.bind_some]
 cases hn : nfm l
 ·refine Ev.congr (fun k => if_neg (by decide)) (hj true (fun _ => ?_) (fun h => by cases h))
  unfold dyB
  rw [hn, if_neg (by simp)]
 ·refine Ev.congr (fun k => if_pos (by decide)) ?_
  by_cases c1 : x < -1048576
  ·refine Ev.congr (fun k => if_pos c1) (hj true (fun _ => ?_) (fun h => by cases h))
   unfold dyB
   rw [if_neg (by omega)]
  ·refine Ev.congr (fun k => if_neg c1) (hj _ (fun h => ?_) (fun h => ?_))
   ·have := of_decide_eq_true h
    unfold dyB
    rw [if_neg (by omega)]
   ·have := of_decide_eq_false h
    unfold dyB
    rw [if_pos ⟨hn, by omega, by omega⟩]
structure Dk (neg : Bool) (m : Nat) (x : Int) : Prop where mk :: (lim : nl m ≤ 8192) (zero : m = 0 → neg = false ∧ x = 0) (odd : m ≠ 0 → m % 2 = 1) (low : -1048576 ≤ x) (high : x ≤ 1048576)
theorem nfm_lb {m : Nat} (h : nl m ≤ 8192) : nfm (lb m) = true := by
 unfold nfm
 rw [lb_len, decide_eq_true h, Bool.true_and]
 by_cases c : m = 0
 ·rw [c]; rfl
 ·have p := nl_pos c
  have t := nl_top c
  rw [decide_eq_false (by omega), Bool.false_or, lb_rd (by omega)]
  simpa using t
theorem dyB_lb {neg : Bool} {m : Nat} {x : Int} (h : Dk neg m x) : dyB neg (lb m) x = true := by
 unfold dyB
 rw [if_pos ⟨nfm_lb h.lim, h.low, h.high⟩, lb_len]
 by_cases c : m = 0
 ·obtain ⟨rfl, rfl⟩ := h.zero c
  rw [c]; rfl
 ·have p := nl_pos c
  have e := lb_rd (x := m) (j := 0) p
  rw [if_neg (by omega), show (0 : Int) = ((0 : Nat) : Int) from rfl, e, and_one _ (dw_lt _ _), dw_odd (h.odd c)]
  rfl
theorem dk_of {neg : Bool} {l : List Int} {x : Int} (hw : Wf l) (h : dyB neg l x = true) : ∃ m, l = lb m ∧ Dk neg m x := by
 unfold dyB at h
 by_cases c : nfm l = true ∧ -1048576 ≤ x ∧ x ≤ 1048576
 ·rw [if_pos c] at h
  obtain ⟨c1, c2, c3⟩ := c
  unfold nfm at c1
  rw [Bool.and_eq_true] at c1
  have hl := of_decide_eq_true c1.1
  have hok : okL l = true := okL_iff.2 ⟨by omega, hw⟩
  have hlt := vL_lt hw
  by_cases c0 : l.length = 0
  ·obtain rfl := List.eq_nil_of_length_eq_zero c0
   rw [if_pos c0, Bool.and_eq_true] at h
   refine ⟨0, rfl, by decide, fun _ => ⟨by simpa using h.1, by simpa using h.2⟩, fun e => absurd rfl e, c2, c3⟩
  ·rw [if_neg c0] at h
   have c4 := c1.2
   rw [decide_eq_false c0, Bool.false_or] at c4
   obtain ⟨n, hn⟩ : ∃ n, l.length = n + 1 := ⟨l.length - 1, by omega⟩
   have e1 : rd l ((l.length - 1 : Nat) : Int) = ((dw (vL l) n : Nat) : Int) := by
    unfold Go.Proofs.YtelfmddcjlocpaaGreatDoorW.PrintWords.rd
    rw [Int.toNat_natCast, List.getD_eq_getElem?_getD, vL_at hw (by omega), show l.length - 1 = n by omega]; rfl
   have e0 : rd l 0 = ((dw (vL l) 0 : Nat) : Int) := by
    unfold Go.Proofs.YtelfmddcjlocpaaGreatDoorW.PrintWords.rd
    rw [show (0 : Int).toNat = 0 from rfl, List.getD_eq_getElem?_getD, vL_at hw (by omega)]; rfl
   rw [e1] at c4
   have t : dw (vL l) n ≠ 0 := by
    intro e
    rw [e] at c4
    exact absurd c4 (by decide)
   rw [hn] at hlt
   have hnl := nl_of hlt t
   have hlb := lb_of hok (by rw [hnl, hn])
   rw [e0, and_one _ (dw_lt _ _)] at h
   have ho : vL l % 2 = 1 := by
    have h1 : dw (vL l) 0 = vL l % 18446744073709551616 := by unfold dw; rw [pw_zero, Nat.div_one]
    rw [h1] at h
    have : (((vL l % 18446744073709551616 % 2 : Nat) : Int)) = 1 := by simpa using h
    omega
   exact ⟨vL l, hlb, by omega, fun e => by omega, fun _ => ho, c2, c3⟩
 ·rw [if_neg c] at h; cases h
def sgn (neg : Bool) (m : Nat) : Int := if m = 0 then 0 else if neg then -1 else 1
theorem bits_f {m : Nat} (h : nl m ≤ 8192) : nat_Bits.f (lb m) = some ((bl m : Nat) : Int) := by
 unfold nat_Bits.f
 rw [if_pos (okL_lb (by omega)), vL_lb]
theorem sign_f (neg : Bool) {m : Nat} (h : nl m ≤ 8192) : num_Sign.f neg (lb m) = some (sgn neg m) := by
 unfold num_Sign.f sgn
 rw [bits_f h]
 simp only [Option.bind_some]
 by_cases c : m = 0
 ·rw [if_pos c, c]; rfl
 ·have := bl_pos c
  rw [if_neg (by omega), if_neg c]
  cases neg <;> rfl
theorem bl_le' {m : Nat} (h : nl m ≤ 8192) : bl m ≤ 524288 := by have := bl_le_limbs m; omega
theorem top_f (neg : Bool) {m : Nat} (h : nl m ≤ 8192) {x : Int} (hx : -4000000 ≤ x) (hx2 : x ≤ 4000000) : dyadic_top.f neg (lb m) x = some (x + ((bl m : Nat) : Int) - 1) := by
 unfold dyadic_top.f
 rw [bits_f h]
 have := bl_le' h
 simp only [Option.bind_some]
 rw [w64 (x := x + _) (by omega) (by omega), w64 (by omega) (by omega)]
theorem shl_f {m n : Nat} (h : nl m ≤ 8192) (hn : m = 0 ∨ bl m + n ≤ 524288) : nat_Shl.f (lb m) (n : Int) = some (lb (m * 2^n), 0) := by
 unfold nat_Shl.f
 rw [vL_lb, if_pos ⟨fmL_lb h, by omega, by rw [Int.toNat_natCast]; exact hn⟩, Int.toNat_natCast]
theorem cmp_f {m n : Nat} (h : nl m < 1099511627776) (h' : nl n < 1099511627776) : nat_Cmp.f (lb m) (lb n) = some (cmI m n) := by
 unfold nat_Cmp.f
 rw [if_pos ⟨okL_lb h, okL_lb h'⟩, vL_lb, vL_lb]
def szc (m : Nat) (x : Int) (m' : Nat) (x' : Int) : Int := cmI (m * 2^(x - min x x').toNat) (m' * 2^(x' - min x x').toNat)
theorem cmI_lt {x y : Nat} (h : x < y) : cmI x y = -1 := if_pos h
theorem cmI_gt {x y : Nat} (h : y < x) : cmI x y = 1 := by unfold cmI; rw [if_neg (by omega), if_pos h]
theorem szc_top {m m' : Nat} {x x' : Int} (h0 : m ≠ 0) (h0' : m' ≠ 0) (h : x + (bl m : Nat) < x' + (bl m' : Nat)) : m * 2^(x - min x x').toNat < m' * 2^(x' - min x x').toNat := by
 have h1 : bl (m * 2^(x - min x x').toNat) = bl m + (x - min x x').toNat := bl_mul m _ h0
 have h2 : bl (m' * 2^(x' - min x x').toNat) = bl m' + (x' - min x x').toNat := bl_mul m' _ h0'
 by_cases c : m * 2^(x - min x x').toNat < m' * 2^(x' - min x x').toNat
 ·exact c
 ·have h3 := bl_mono (show m' * 2^(x' - min x x').toNat ≤ m * 2^(x - min x x').toNat by omega)
  omega
theorem limb_le {m n : Nat} (h0 : m ≠ 0) (h : bl m + n ≤ 524288) : nl (m * 2^n) ≤ 8192 := by
 have := bl_mul m n h0
 unfold nl; omega
theorem size_f (neg neg' : Bool) {m m' : Nat} {x x' : Int} (h0 : m ≠ 0) (h0' : m' ≠ 0) (hm : nl m ≤ 8192) (hm' : nl m' ≤ 8192) (hx : -1048576 ≤ x ∧ x ≤ 1048576) (hx' : -1048576 ≤ x' ∧ x' ≤ 1048576) :
  dyadic_size.f neg (lb m) x neg' (lb m') x' = some (szc m x m' x') := by
 unfold dyadic_size.f
 rw [top_f neg hm (by omega) (by omega), top_f neg' hm' (by omega) (by omega)]
 simp only [Option.bind_some]
 by_cases c1 : x + ((bl m : Nat) : Int) < x' + ((bl m' : Nat) : Int)
 ·rw [if_pos (by omega), szc, cmI_lt (szc_top h0 h0' c1)]
 ·rw [if_neg (by omega)]
  by_cases c2 : x' + ((bl m' : Nat) : Int) < x + ((bl m : Nat) : Int)
  ·have := szc_top h0' h0 c2
   rw [Int.min_comm] at this
   rw [if_pos (by omega), szc, cmI_gt this]
  ·rw [if_neg (by omega)]
   have hb1 := bl_le' hm
   have hb2 := bl_le' hm'
   have p1 := bl_pos h0
   have p2 := bl_pos h0'
   have e : mn x x' = min x x' := by unfold mn; omega
   obtain ⟨n1, e1⟩ : ∃ n1 : Nat, x - min x x' = (n1 : Int) := ⟨(x - min x x').toNat, by omega⟩
   obtain ⟨n2, e2⟩ : ∃ n2 : Nat, x' - min x x' = (n2 : Int) := ⟨(x' - min x x').toNat, by omega⟩
   have l1 : bl m + n1 ≤ 524288 := by omega
   have l2 : bl m' + n2 ≤ 524288 := by omega
   rw [e, w64 (x := x - _) (by omega) (by omega), w64 (x := x' - _) (by omega) (by omega), e1, e2, shl_f hm (.inr l1), shl_f hm' (.inr l2)]
   simp only [Option.bind_some]
   have a1 := limb_le h0 l1
   have a2 := limb_le h0' l2
   rw [cmp_f (by omega) (by omega), szc, e1, e2, Int.toNat_natCast, Int.toNat_natCast]
   rfl
def dcm (neg : Bool) (m : Nat) (x : Int) (neg' : Bool) (m' : Nat) (x' : Int) : Int :=
 if sgn neg m < sgn neg' m' then -1 else if sgn neg' m' < sgn neg m then 1 else if sgn neg m = 0 then 0 else sgn neg m * szc m x m' x'
theorem dcmp_ev {neg neg' : Bool} {m m' : Nat} {x x' : Int} (h : Dk neg m x) (h' : Dk neg' m' x') : Ev (fun k => dyadic_Cmp.f k neg (lb m) x neg' (lb m') x') (dcm neg m x neg' m' x', 0) := by
 unfold dyadic_Cmp.f
 have f1 := form_ev neg (lb m) x
 have f2 := form_ev neg' (lb m') x'
 rw [dyB_lb h] at f1
 rw [dyB_lb h'] at f2
 refine Ev.bind f1 (Ev.congr (fun k => if_pos rfl) (Ev.bind f2 (Ev.step (f := fun _ => some (dcm neg m x neg' m' x', 0)) (fun k => ?_) (Ev.now _))))
 rw [dyadic_Cmp.j0, if_neg (by decide), sign_f neg h.lim, sign_f neg' h'.lim]
 simp only [Option.bind_some]
 unfold dcm
 by_cases c1 : sgn neg m < sgn neg' m'
 ·rw [if_pos c1, if_pos c1]
 ·rw [if_neg c1, if_neg c1]
  by_cases c2 : sgn neg' m' < sgn neg m
  ·rw [if_pos c2, if_pos c2]
  ·rw [if_neg c2, if_neg c2]
   by_cases c3 : sgn neg m = 0
   ·rw [if_pos c3, if_pos c3]
   ·rw [if_neg c3, if_neg c3]
    have h0 : m ≠ 0 := by
     intro e; apply c3; unfold sgn; rw [if_pos e]
    have h0' : m' ≠ 0 := by
     intro e
     have : sgn neg' m' = 0 := by unfold sgn; rw [if_pos e]
     omega
    rw [size_f neg neg' h0 h0' h.lim h'.lim ⟨h.low, h.high⟩ ⟨h'.low, h'.high⟩]
    simp only [Option.bind_some]
    have e1 : sgn neg m = 1 ∨ sgn neg m = -1 := by unfold sgn; rw [if_neg h0]; cases neg <;> simp
    have e2 : szc m x m' x' = 1 ∨ szc m x m' x' = -1 ∨ szc m x m' x' = 0 := by unfold szc cmI; split <;> (try split) <;> simp
    have e3 : wrap64 (sgn neg m * szc m x m' x') = sgn neg m * szc m x m' x' := by
     apply w64
     ·rcases e1 with e | e <;> rcases e2 with e' | e' | e' <;> rw [e, e'] <;> decide
     ·rcases e1 with e | e <;> rcases e2 with e' | e' | e' <;> rw [e, e'] <;> decide
    rw [e3]
end Go.Proofs.YtelfmddcjlocpaaGreatDoor.Rp1
