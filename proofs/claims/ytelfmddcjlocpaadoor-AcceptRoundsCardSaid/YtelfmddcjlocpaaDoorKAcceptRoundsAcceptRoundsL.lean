/- What Accept is sure of is V rounded, and layer 8 decides the same pattern for all of the span of its margin: the plain law. Plain Lean over the functions. Condition: words below 2^64. -/
import Derived.Test.YtelfmddcjlocpaaDoorKAcceptRoundsAccRL
import Derived.Test.YtelfmddcjlocpaaDoorKAcceptRoundsAccC
import Derived.Test.YtelfmddcjlocpaaDoorKAcceptRoundsPxM0
import Derived.Test.YtelfmddcjlocpaaDoorKAcceptRoundsPxL5
import Derived.Test.YtelfmddcjlocpaaDoorKAcceptRoundsPxL3
set_option linter.unusedVariables false
namespace Go.Proofs.YtelfmddcjlocpaaDoor.AcceptRoundsL
open Go.RowKit Go.Proofs.YtelfmddcjlocpaaDoorW.PrintWords Go.Proofs.YtelfmddcjlocpaaDoorW.PrintMore Go.Proofs.YtelfmddcjlocpaaDoor.Num Go.Proofs.YtelfmddcjlocpaaDoor.PLib Go.Proofs.YtelfmddcjlocpaaDoor.Ref Go.Proofs.YtelfmddcjlocpaaDoor.GTh Go.Proofs.YtelfmddcjlocpaaDoor.Given Go.Proofs.YtelfmddcjlocpaaDoor.Rp1 Go.Proofs.YtelfmddcjlocpaaDoor.Rp2 Go.Proofs.YtelfmddcjlocpaaDoor.Rp3 Go.Proofs.YtelfmddcjlocpaaDoor.Rp4 Go.Proofs.YtelfmddcjlocpaaDoor.Rp5 Go.Proofs.YtelfmddcjlocpaaDoor.Rp7 Go.Proofs.YtelfmddcjlocpaaDoor.BinLaw Go.Proofs.YtelfmddcjlocpaaDoor.Fm8 Go.Proofs.YtelfmddcjlocpaaDoor.Rnd Go.Proofs.YtelfmddcjlocpaaDoor.InCell Go.Proofs.YtelfmddcjlocpaaDoor.AccW Go.Proofs.YtelfmddcjlocpaaDoor.SoundLaw Go.Proofs.YtelfmddcjlocpaaDoor.AccRL
open Fl (mg sz ng U fin INF U_natAbs)
theorem bl_mul_le {A n : Nat} : bl (A * 2^n) ≤ bl A + n := by
 by_cases c : A = 0
 ·rw [c, Nat.zero_mul]; rw [show bl 0 = 0 from rfl]; omega
 ·rw [bl_mul _ _ c]; exact Nat.le_refl _
theorem value_ev {x y : Nat} (hx : x < 18446744073709551616) (hy : y < 18446744073709551616) (fx : fin x) (fy : fin y) (hF : FormR x y true) :
  ∃ n m z, Dy (-1074) n m z (U x + U y) ∧ Ev (fun k => dd_Value.f k x y) (n, lb m, z, 0) := by
 obtain ⟨n1, m1, z1, d1, e1⟩ := value_fl hx fx
 obtain ⟨n2, m2, z2, d2, e2⟩ := value_fl hy fy
 obtain ⟨n, m, z, d, e⟩ := add_dy d1 d2 (by decide) (by decide) (Nat.le_trans (bl_U x) (by decide)) (Nat.le_trans (bl_U y) (by decide))
 refine ⟨n, m, z, d, ?_⟩
 unfold dd_Value.f dd_Form.f
 rw [if_pos ⟨hx, hy, hF⟩]
 simp only [Option.bind_some, if_true]
 exact Ev.bind e1 (Ev.bind e2 (Ev.bind e (Ev.now _)))
theorem span_ev {E : Int} {n n' : Bool} {m m' : Nat} {z z' A B : Int} (h : Dy E n m z A) (h' : Dy E n' m' z' B) (hle : A ≤ B) :
  Ev (fun k => span_Make.f k n (lb m) z n' (lb m') z') (n, lb m, z, n', lb m', z', 0) := by
 have c : decide (dcm n m z n' m' z' ≤ 0) = true := by
  rw [dcm_vs h.le h'.le, h.va, h'.va]
  exact decide_eq_true (cmZ_le.2 hle)
 have f := spanForm_ev h.dk h'.dk
 rw [c] at f
 have t1 := h.dk.lim
 have t2 := h'.dk.lim
 unfold span_Make.f span_twins.f span_twin.f slices_Clone_uint64_uint64.f
 refine Ev.bind f ?_
 simp only [lb_len, if_pos (show nl m < 1099511627776 by omega), if_pos (show nl m' < 1099511627776 by omega), Option.bind_some]
 exact Ev.congr (fun k => if_pos trivial) (Ev.now _)
theorem decide_ev {n n' : Bool} {m m' : Nat} {z z' A B E : Int} {K : Nat} (hE : E = -1074 - (K : Int)) (h : Dy E n m z A) (h' : Dy E n' m' z' B) (hle : A ≤ B) (e : Rp4.pv fD K A = Rp4.pv fD K B) :
  Ev (fun k => round_Decide.f k 64 n (lb m) z n' (lb m') z') (((Rp4.pv fD K A : Nat) : Int), true, 0) := by
 have c : dcm n m z n' m' z' ≤ 0 := by
  rw [dcm_vs h.le h'.le, h.va, h'.va]
  exact cmZ_le.2 hle
 have q := decide_ok fmD h.dk h'.dk c h.le h'.le (by rw [low_v]; omega)
 rw [rnd_pv fD h.dk, rnd_pv fD h'.dk, h.va, h'.va, show (fD.low - E).toNat = K by rw [low_v]; omega, if_pos e] at q
 exact q
theorem law_ev (w : World) (x y : Nat) (i : Int) (hx : x < 18446744073709551616) (hy : y < 18446744073709551616) : Ev (fun k => gnomonlaw25_AcceptRounds.f k (x : Int) (y : Int) i) true := by
 obtain ⟨r, ok, hf, ha⟩ := ask_some w (x : Int) (y : Int) i (by omega) (by omega)
 rw [Int.toNat_natCast, Int.toNat_natCast] at ha
 unfold gnomonlaw25_AcceptRounds.f gnomonlaw25_awake.f
 simp only [Option.bind_some, if_true, hf, Int.toNat_natCast]
 cases ok
 ·rw [not_sure ha]
  exact Ev.congr (fun k => if_neg (by decide)) (Ev.now _)
 obtain ⟨c1, c2, h1, h2, hF, d, hw, ho⟩ := ha.fit
 obtain ⟨fx, fy, hs⟩ := form_law hF h2
 obtain ⟨n, hn⟩ : ∃ n : Nat, (n : Int) = -i := ⟨(-i).toNat, by omega⟩
 obtain ⟨s1, s2⟩ := sound_law ha hn
 have hr : r < 18446744073709551616 := (sure_vals ha).2.1
 have hn1 : 1 ≤ n := by omega
 obtain ⟨a1, a2, a3, a4, a5⟩ := inc_nat s1 s2
 obtain ⟨W, hW⟩ : ∃ W, W = U x + U y := ⟨_, rfl⟩
 obtain ⟨sv0, m0, z0, dv, ev⟩ := value_ev hx hy fx fy hF
 rw [← hW] at dv s1 s2 a1 a4 a5
 have hA : 0 < W.natAbs := by
  refine Nat.pos_of_ne_zero fun e => ?_
  rw [e, Nat.zero_mul] at a4
  have : 0 < low (sz r) * (2^n + 1) := Nat.mul_pos (low_pos a2) (Nat.succ_pos (2^n))
  omega
 have hbW : bl W.natAbs ≤ 2102 := by
  have : W.natAbs ≤ (U x).natAbs + (U y).natAbs := by omega
  exact Nat.le_trans (bl_mono this) (bl_add (bl_U x) (bl_U y))
 obtain ⟨E, hE⟩ : ∃ E : Int, E = -1074 - ((n + 1 : Nat) : Int) := ⟨_, rfl⟩
 have hp := Nat.two_pow_pos n
 have kp : 2^(n + 1) = 2 * 2^n := by rw [Nat.pow_succ, Nat.mul_comm]
 have dv' := dv.down (n + 1)
 rw [← hE, kp] at dv'
 obtain ⟨P, hP⟩ : ∃ P, P = 2^n := ⟨_, rfl⟩
 have hWP : (W * ((2 * 2^n : Nat) : Int)).natAbs = 2 * (2^n * W.natAbs) := by
  rw [Int.natAbs_mul, Int.natAbs_natCast, Nat.mul_comm, Nat.mul_assoc]
 have sW : W * ((2 * 2^n : Nat) : Int) < 0 ↔ W < 0 := by
  constructor
  ·intro h
   by_cases q : W < 0
   ·exact q
   ·exact absurd (Int.mul_nonneg (Int.not_lt.1 q) (Int.natCast_nonneg (2 * 2^n))) (by omega)
  ·intro h; exact Int.mul_neg_of_neg_of_pos h (by omega)
 obtain ⟨V, hV⟩ : ∃ V : Int, V = W * ((2 * 2^n : Nat) : Int) := ⟨_, rfl⟩
 rw [← hV] at dv' hWP sW
 have big : 2 * W.natAbs ≤ V.natAbs := by
  rw [hWP]
  have := Nat.le_mul_of_pos_left W.natAbs hp
  omega
 have p0 : Rp4.pv fD (n + 1) V = r := pv_near hn1 hr s1 s2 sW (by omega) (by omega)
 have p1 : Rp4.pv fD (n + 1) (V - ((W.natAbs : Nat) : Int)) = r := pv_near hn1 hr s1 s2 (by omega) (by omega) (by omega)
 have p2 : Rp4.pv fD (n + 1) (V + ((W.natAbs : Nat) : Int)) = r := pv_near hn1 hr s1 s2 (by omega) (by omega) (by omega)
 have hbV : bl V.natAbs ≤ 500000 := by
  rw [hWP]
  have : 2 * (2^n * W.natAbs) = W.natAbs * 2^(n + 1) := by rw [kp, Nat.mul_comm W.natAbs, Nat.mul_assoc]
  rw [this]
  have := bl_mul_le (A := W.natAbs) (n := n + 1)
  omega
 have w1 : wrap64 (i - 1) = i - 1 := w64 (by omega) (by omega)
 have z1 := dv.le
 have z2 : m0 ≠ 0 := fun e => by have := dv.zero.1 e; omega
 have z3 := dv.bl z2
 have z4 := dv.dk.high
 obtain ⟨z0', ds, es⟩ := scale_dy dv (i - 1) (by omega) (by omega) ⟨by omega, by omega⟩ (by omega)
 rw [show -1074 + (i - 1) = E by omega] at ds
 have da := AccRL.Dy.away ds
 have bA : bl ((W.natAbs : Nat) : Int).natAbs ≤ 500000 := by rw [Int.natAbs_natCast]; omega
 obtain ⟨n3, m3, z3', d3, e3⟩ := sub_dy dv' da (by omega) (by omega) hbV bA
 obtain ⟨n4, m4, z4', d4, e4⟩ := add_dy dv' da (by omega) (by omega) hbV bA
 have nr := near_dy dv' hE
 have sp := span_ev d3 d4 (by omega)
 have dc := decide_ev hE d3 d4 (by omega) (by rw [p1, p2])
 rw [p0] at nr
 rw [p1] at dc
 refine Ev.congr (fun k => if_pos rfl) (Ev.bind ev (Ev.congr (fun k => if_pos rfl) (Ev.congr (fun k => if_neg (by omega)) (Ev.congr (fun k => if_neg (by omega)) ?_))))
 rw [w1]
 refine Ev.bind nr (Ev.bind es (Ev.bind e3 (Ev.bind e4 (Ev.bind sp (Ev.bind dc ?_)))))
 refine Ev.congr (fun k => if_pos rfl) (Ev.congr (fun k => if_pos rfl) (Ev.congr (fun k => if_pos rfl) (Ev.congr (fun k => if_pos rfl) (Ev.congr (fun k => if_pos rfl) (Ev.congr (fun k => if_pos rfl) (Ev.congr (fun k => if_pos rfl) (Ev.congr (fun k => if_pos rfl) ?_)))))))
 rw [show (((r : Nat) : Int) == ((r : Nat) : Int)) = true from beq_self_eq_true _]
 exact Ev.now _
theorem law_row (w : World) (a0 a1 a2 : Int) (w0 : (Lit.int .u64 a0).wf = true) (w1 : (Lit.int .u64 a1).wf = true) (w2 : (Lit.int .i64 a2).wf = true) : Ev (fun k => gnomonlaw25_AcceptRounds.f k a0 a1 a2) true := by
 have e1 : IntKind.u64.min = 0 := rfl
 have e2 : IntKind.u64.max = 18446744073709551615 := rfl
 have h0 : IntKind.u64.min ≤ a0 ∧ a0 ≤ IntKind.u64.max := by simpa [Lit.wf] using w0
 have h1 : IntKind.u64.min ≤ a1 ∧ a1 ≤ IntKind.u64.max := by simpa [Lit.wf] using w1
 have q := law_ev w a0.toNat a1.toNat a2 (by omega) (by omega)
 rw [show ((a0.toNat : Nat) : Int) = a0 by omega, show ((a1.toNat : Nat) : Int) = a1 by omega] at q
 exact q
end Go.Proofs.YtelfmddcjlocpaaDoor.AcceptRoundsL
