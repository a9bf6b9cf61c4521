/- The walk of the law EftFasts: the call returns true, and the world has at most new blocks. No condition. -/
import Derived.Test.YtbgmadijifefiaaKEftSidesEftSumsW
import Derived.Test.YtbgmadijifefiaaKEftSidesPLibx14
namespace Go.Proofs.Ytbgmadijifefiaa.EftFastsW
open Go.RowKit Go.Proofs.YtbgmadijifefiaaW.PrintWords Go.Proofs.Ytbgmadijifefiaa.Num Go.Proofs.Ytbgmadijifefiaa.PLib Go.Proofs.Ytbgmadijifefiaa.Ref Go.Proofs.Ytbgmadijifefiaa.FW Go.Proofs.Ytbgmadijifefiaa.Eft Go.Proofs.Ytbgmadijifefiaa.EftLaw Go.Proofs.Ytbgmadijifefiaa.Awake Go.Proofs.Ytbgmadijifefiaa.SumsLaw Go.Proofs.Ytbgmadijifefiaa.EftSumsW Fl
theorem ahead_f (a b : Nat) : gnomonref19_Ahead.f (a : Int) (b : Int) = some (decide (sz a ≤ 2045 * 2^52 ∧ sz b ≤ 2045 * 2^52 ∧ (sz a = 0 ∨ sz b ≤ sz a))) := by
  have hA := atMost_f a 1022 (by decide)
  have hB := atMost_f b 1022 (by decide)
  have sA : gnomonref19_Size.f (a : Int) = some (sz a : Int) := by unfold gnomonref19_Size.f; rw [sz_int]
  have sB : gnomonref19_Size.f (b : Int) = some (sz b : Int) := by unfold gnomonref19_Size.f; rw [sz_int]
  unfold gnomonref19_Ahead.f
  rw [show (1022 : Int) = ((1022 : Nat) : Int) from rfl]
  simp only [hA, hB, sA, sB, Option.bind_some]
  by_cases c1 : sz a ≤ (1022 + 1023) * 2^52
  · by_cases c2 : sz b ≤ (1022 + 1023) * 2^52
    · simp only [decide_eq_true c1, decide_eq_true c2, if_true]
      by_cases c3 : ((sz a : Nat) : Int) = 0
      · rw [if_pos c3]; congr 1; symm; exact decide_eq_true ⟨c1, c2, Or.inl (by omega)⟩
      · rw [if_neg c3]; congr 1; exact decide_eq_decide.2 ⟨fun h => ⟨c1, c2, Or.inr (by omega)⟩, fun h => by rcases h with ⟨_, _, h | h⟩ <;> omega⟩
    · simp only [decide_eq_true c1, decide_eq_false c2, if_true, Bool.false_eq_true, if_false]
      congr 1; symm; exact decide_eq_false fun h => c2 h.2.1
  · simp only [decide_eq_false c1, Bool.false_eq_true, if_false]
    congr 1; symm; exact decide_eq_false fun h => c1 h.1
theorem on {W w w' : World} (h : Below W.heap.size W w) (k : Below w.heap.size w w') : Below W.heap.size W w' := h.trans (k.mono h.size)
set_option maxHeartbeats 1000000 in
theorem walk (a0 a1 : Int) (W : World) (w0 : (Lit.int .u64 a0).wf = true) (w1 : (Lit.int .u64 a1).wf = true) :
    Calls Try.prog 4 #[.int .u64 a0, .int .u64 a1] W fun e w' => e = .returned (.bool true) ∧ Below W.heap.size W w' := by
  obtain ⟨a, rfl, ha⟩ := wf_u64 w0
  obtain ⟨b, rfl, hb⟩ := wf_u64 w1
  clear w0 w1
  have hah := ahead_f a b
  obtain ⟨c, hc⟩ : ∃ c : Bool, c = decide (sz a ≤ 2045 * 2^52 ∧ sz b ≤ 2045 * 2^52 ∧ (sz a = 0 ∨ sz b ≤ sz a)) := ⟨_, rfl⟩
  rw [← hc] at hah
  have HA := Lib.hid hah
  have HC := Lib.hid hc
  clear hah hc
  go_enter Try.func4, Try.ntmps4
  go_wp2_with fail
  refine (awake_any _).mono ?_
  rintro e2 v2 ⟨rfl, hd2⟩
  go_wp2_with fail
  refine (fastw_any _ _ _).mono ?_
  rintro e1 v1 ⟨s, t, rfl, hr, hs, ht, hd⟩
  rw [Int.toNat_natCast, Int.toNat_natCast] at hr
  have HR := Lib.hid hr
  clear hr
  go_wp2_with fail
  refine (gnomonref19_Ahead.calls _ _ c _ HA.out).mono ?_
  rintro e4 v4 ⟨rfl, hb4⟩
  cases c with
  | false =>
    go_wp2_with fail
    go_ret
    exact ⟨rfl, on (on hd2.below hd.below) hb4.below⟩
  | true =>
    obtain ⟨k, hk⟩ := (sums_true ha hb hs ht (fun _ _ => let h := of_decide_eq_true HC.out.symm; fast_law HR.out h.1 h.2.1 h.2.2)).rounds
    have HK := Lib.hid hk
    clear hk
    go_wp2_with fail
    refine (gnomonref19_Sums.calls k _ _ _ _ true _ HK.out).mono ?_
    rintro e3 v3 ⟨rfl, hb3⟩
    go_wp2_with fail
    go_ret
    exact ⟨rfl, on (on (on hd2.below hd.below) hb4.below) hb3⟩
end Go.Proofs.Ytbgmadijifefiaa.EftFastsW
