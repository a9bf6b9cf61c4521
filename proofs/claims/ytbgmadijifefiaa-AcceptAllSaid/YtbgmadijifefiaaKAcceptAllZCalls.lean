/- Contracts of the reference's whole numbers in one form: the answer's sign and digits, its row readable, the world with new blocks alone. Conditions: numbers of less than 2^38 digits. -/
import Derived.Test.YtbgmadijifefiaaKAcceptAllRefH
import Derived.Test.YtbgmadijifefiaaKAcceptAllRefF
import Derived.Test.YtbgmadijifefiaaKAcceptAllPLibx15
import Derived.Test.YtbgmadijifefiaaKAcceptAllPLibx1
import Derived.Test.YtbgmadijifefiaaKAcceptAllPLibx2
import Derived.Test.YtbgmadijifefiaaKAcceptAllPLibx4
import Derived.Test.YtbgmadijifefiaaKAcceptAllPLibx6
import Derived.Test.YtbgmadijifefiaaKAcceptAllPLibx12
import Derived.Test.YtbgmadijifefiaaKAcceptAllPLibx9
namespace Go.Proofs.Ytbgmadijifefiaa.ZCalls
open Go.RowKit Go.Proofs.YtbgmadijifefiaaW.PrintWords Go.Proofs.YtbgmadijifefiaaW.PrintMore Go.Proofs.Ytbgmadijifefiaa.Num Go.Proofs.Ytbgmadijifefiaa.PLib Go.Proofs.Ytbgmadijifefiaa.Ref Fl
structure ZArg (w : World) (A : Option Addr) (c : Nat) (z : Int) : Prop where mk :: (cap : (zl z).length ≤ c) (row : Kd.C (Kd.int .u32) w A (zl z).length (zl z))
theorem ZArg.next {w w' : World} {A : Option Addr} {c : Nat} {z : Int} (h : ZArg w A c z) (d : Below w.heap.size w w') : ZArg w' A c z := ⟨h.cap, Kd.C_below h.row d⟩
def ZW (z : Int) (w : World) (e : Ending) (w' : World) : Prop :=
 ∃ A c, e = .returned (.agg #[.bool (zn z), .slice A (zl z).length c]) ∧ ZArg w' A c z ∧ Kd.R (Kd.int .u32) 83 w' w.heap.size (fun _ => True) (.slice A (zl z).length c) (zl z) ∧ Below w.heap.size w w'
theorem zw {z : Int} {w w' : World} {v : Value} (hr : Kd.R (Kd.int .u32) 83 w' w.heap.size (fun _ => True) v (zl z)) (hd : Below w.heap.size w w') : ZW z w (.returned (.agg #[.bool (zn z), v])) w' := by
 obtain ⟨A, c, rfl, h1, h2⟩ := Kd.R_reads hr
 exact ⟨A, c, rfl, ⟨h1, h2⟩, hr, hd⟩
section
variable (w : World)
theorem whole_any (x : Nat) (hx : x < 18446744073709551616) : Calls Try.prog 59 #[.agg #[.int .u64 9223372036854775808, .int .i64 53, .int .i64 (-1074), .int .i64 971, .int .u64 9218868437227405312, .int .u64 9221120237041090561], .int .u64 (x : Int)] w (ZW (U x) w) := by
 obtain ⟨k, hk⟩ := (whole_ev x hx).rounds
 exact (gnomonref07_Whole.calls k _ _ _ _ _ _ _ _ _ w hk).mono fun e w' ⟨v, he, hr, hd⟩ => by subst he; exact zw hr hd
theorem add_any {A B : Option Addr} {ca cb : Nat} (a b : Int) (ha : Zs a) (hb : Zs b) (hab : Zs (a + b)) (hA : ZArg w A ca a) (hB : ZArg w B cb b) :
  Calls Try.prog 46 #[.agg #[.bool (zn a), .slice A (zl a).length ca], .agg #[.bool (zn b), .slice B (zl b).length cb]] w (ZW (a + b) w) := by
 obtain ⟨k, hk⟩ := (zadd_ev a b ha hb hab).rounds
 exact (gnomonref04_Add.calls k _ _ _ _ _ _ _ _ _ _ w hA.row hA.cap hB.row hB.cap hk).mono fun e w' ⟨v, he, hr, hd⟩ => by subst he; exact zw hr hd
theorem sub_any {A B : Option Addr} {ca cb : Nat} (a b : Int) (ha : Zs a) (hb : Zs b) (hab : Zs (a - b)) (hA : ZArg w A ca a) (hB : ZArg w B cb b) :
  Calls Try.prog 66 #[.agg #[.bool (zn a), .slice A (zl a).length ca], .agg #[.bool (zn b), .slice B (zl b).length cb]] w (ZW (a - b) w) := by
 obtain ⟨k, hk⟩ := (zsub_ev a b ha hb hab).rounds
 exact (gnomonref04_Sub.calls k _ _ _ _ _ _ _ _ _ _ w hA.row hA.cap hB.row hB.cap hk).mono fun e w' ⟨v, he, hr, hd⟩ => by subst he; exact zw hr hd
theorem mul_any {A B : Option Addr} {ca cb : Nat} (a b : Int) (ha : Zs a) (hb : Zs b) (hab : Zs (a * b)) (hA : ZArg w A ca a) (hB : ZArg w B cb b) :
  Calls Try.prog 67 #[.agg #[.bool (zn a), .slice A (zl a).length ca], .agg #[.bool (zn b), .slice B (zl b).length cb]] w (ZW (a * b) w) := by
 obtain ⟨k, hk⟩ := (zmul_ev a b ha hb hab).rounds
 exact (gnomonref04_Mul.calls k _ _ _ _ _ _ _ _ _ _ w hA.row hA.cap hB.row hB.cap hk).mono fun e w' ⟨v, he, hr, hd⟩ => by subst he; exact zw hr hd
def CW (z : Int) (w : World) (e : Ending) (w' : World) : Prop := e = .returned (.int .i64 (sgn z)) ∧ Below w.heap.size w w'
theorem cmp_any {A B : Option Addr} {ca cb : Nat} (a b : Int) (ha : Zs a) (hb : Zs b) (hab : Zs (a - b)) (hA : ZArg w A ca a) (hB : ZArg w B cb b) :
  Calls Try.prog 48 #[.agg #[.bool (zn a), .slice A (zl a).length ca], .agg #[.bool (zn b), .slice B (zl b).length cb]] w (CW (a - b) w) := by
 obtain ⟨k, hk⟩ := (zcmp_ev a b ha hb hab).rounds
 exact (gnomonref04_Cmp.calls k _ _ _ _ _ _ _ _ _ w hA.row hA.cap hB.row hB.cap hk).mono fun e w' ⟨he, hd⟩ => ⟨he, hd⟩
theorem shl_any {A : Option Addr} {ca : Nat} (a : Int) (n : Nat) (ha : Zs a) (hn : n < 1099511627776) (hr : Zs (a * 2^n)) (hA : ZArg w A ca a) :
  Calls Try.prog 57 #[.agg #[.bool (zn a), .slice A (zl a).length ca], .int .i64 (n : Int)] w (ZW (a * 2^n) w) := by
 obtain ⟨k, hk⟩ := (zshl_ev a n ha hn hr).rounds
 exact (gnomonref04_Shl.calls k _ _ _ _ _ _ _ w hA.row hA.cap hk).mono fun e w' ⟨v, he, hr, hd⟩ => by subst he; exact zw hr hd
theorem shl1_any {A : Option Addr} {ca : Nat} (a : Int) (ha : Zs a) (hr : Zs (a * 2)) (hA : ZArg w A ca a) :
  Calls Try.prog 57 #[.agg #[.bool (zn a), .slice A (zl a).length ca], .int .i64 1] w (ZW (a * 2) w) := by
 have e : a * 2^1 = a * 2 := by omega
 have h := shl_any w a 1 ha (by decide) (by rw [e]; exact hr) hA
 rw [e] at h
 exact h
theorem zabs_ev (a : Int) (ha : Zs a) : Ev (fun k => gnomonref04_Abs.f k (zn a) (zl a)) (zn (a.natAbs : Int), zl (a.natAbs : Int)) := by
 unfold gnomonref04_Abs.f
 have hl : (dg a.natAbs).length < 1099511627776 := by unfold Zs at ha; omega
 refine pair_some (zmk_ev false a.natAbs hl (a.natAbs : Int) (Int.natAbs_natCast _) (fun _ => ?_))
 rw [decide_eq_false]
 omega
theorem abs_any {A : Option Addr} {ca : Nat} (a : Int) (ha : Zs a) (hA : ZArg w A ca a) :
  Calls Try.prog 83 #[.agg #[.bool (zn a), .slice A (zl a).length ca]] w (ZW (a.natAbs : Int) w) := by
 obtain ⟨k, hk⟩ := (zabs_ev a ha).rounds
 exact (gnomonref04_Abs.calls k _ _ _ _ _ _ w hA.row hA.cap hk).mono fun e w' ⟨v, he, hr, hd⟩ => by subst he; exact zw hr hd
theorem of1_any : Calls Try.prog 65 #[.int .i64 1] w (ZW 1 w) := by
 obtain ⟨k, hk⟩ := (zof_ev 1 (by decide) (by decide)).rounds
 exact (gnomonref04_Of.calls k _ _ _ w hk).mono fun e w' ⟨v, he, hr, hd⟩ => by subst he; exact zw hr hd
def PW (z : Int) (w : World) (e : Ending) (w' : World) : Prop := ∃ A c, e = .returned (.slice A (zl z).length c) ∧ ZArg w' A c z ∧ Below w.heap.size w w'
theorem pow2_any (n : Nat) (hn : n < 1099511627776) : Calls Try.prog 58 #[.int .i64 (n : Int)] w (PW ((2^n : Nat) : Int) w) := by
 obtain ⟨k, hk⟩ := (pow2_ev n hn).rounds
 have e : zl ((2^n : Nat) : Int) = dg (2^n) := by unfold zl; rw [Int.natAbs_natCast]
 rw [← e] at hk
 exact (gnomonref01_Pow2.calls k _ _ w hk).mono fun e w' ⟨v, he, hr, hd⟩ => by
  obtain ⟨A, c, rfl, h1, h2⟩ := Kd.R_reads hr
  exact ⟨A, c, he, ⟨h1, h2⟩, hd⟩
theorem mk_any {A : Option Addr} {ca : Nat} (n : Nat) (ha : Zs (n : Int)) (hA : ZArg w A ca (n : Int)) : Calls Try.prog 63 #[.bool false, .slice A (zl (n : Int)).length ca] w (ZW (n : Int) w) := by
 have hl : (dg n).length < 1099511627776 := by unfold Zs at ha; rw [Int.natAbs_natCast] at ha; omega
 have e : zl (n : Int) = dg n := by unfold zl; rw [Int.natAbs_natCast]
 obtain ⟨k, hk⟩ := (zmk_ev false n hl (n : Int) (Int.natAbs_natCast _) (fun _ => by rw [decide_eq_false]; omega)).rounds
 rw [← e] at hk
 exact (gnomonref04_Mk.calls k _ _ _ _ _ _ w hA.row hA.cap hk).mono fun e w' ⟨v, he, hr, hd⟩ => by subst he; exact zw hr hd
theorem sum25_any (x y : Nat) (hx : x < 18446744073709551616) (hy : y < 18446744073709551616) (zx : Zs (U x)) (zy : Zs (U y)) (zxy : Zs (U x + U y)) : Calls Try.prog 62 #[.int .u64 (x : Int), .int .u64 (y : Int)] w (ZW (U x + U y) w) := by
 have hev : Ev (fun k => gnomonref25_Sum.f k (x : Int) (y : Int)) (zn (U x + U y), zl (U x + U y)) := by
  unfold gnomonref25_Sum.f
  exact Ev.bind (units_ev x hx) (Ev.bind (units_ev y hy) (pair_some (zadd_ev _ _ zx zy zxy)))
 obtain ⟨k, hk⟩ := hev.rounds
 exact (gnomonref25_Sum.calls k _ _ _ _ w hk).mono fun e w' ⟨v, he, hr, hd⟩ => by subst he; exact zw hr hd
theorem round_any {A : Option Addr} {ca : Nat} (v : Int) (hv : bl v.natAbs ≤ 100000) (hA : ZArg w A ca v) :
  Calls Try.prog 47 #[.agg #[.bool (zn v), .slice A (zl v).length ca], .int .i64 (-1074)] w fun e w' => e = .returned (.int .u64 (rpat 0 v)) ∧ Below w.heap.size w w' := by
 have h := round19_ev v 0 (by decide) hv
 have e : (-1074 - ((0 : Nat) : Int)) = -1074 := rfl
 rw [e] at h
 obtain ⟨k, hk⟩ := h.rounds
 exact gnomonref19_Round.calls k _ _ _ _ _ _ w hA.row hA.cap hk
end
end Go.Proofs.Ytbgmadijifefiaa.ZCalls
