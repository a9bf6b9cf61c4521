/- Accept answers the same again. Plain Lean. No condition. Accept's answers as plain functions, their contracts by Px; math's words of floats answer at once. Conditions: words below 2^64; math/bits' table is laid. -/
import Derived.Test.YtelfmddcjlocpaaDoorKAcceptMiddlesInCell
import Derived.Test.YtelfmddcjlocpaaDoorKAcceptMiddlesAgain
import Derived.Test.YtelfmddcjlocpaaDoorKAcceptMiddlesPxBr
section
namespace Go.Proofs.YtelfmddcjlocpaaDoor.AccW
open Go.RowKit Go.Proofs.YtelfmddcjlocpaaDoor.FW Go.Proofs.YtelfmddcjlocpaaDoor.Eft Go.Proofs.YtelfmddcjlocpaaDoor.EftLaw Go.Proofs.YtelfmddcjlocpaaDoor.Again Fl
theorem order_nan_l {s c : Nat} (hs : INF < sz s) : (FloatKind.f64.format.order s c != some .eq) = true := by
 show (Ieee.double.order s c != some .eq) = true
 rw [ord_nan hs]; rfl
theorem order_nan_r {s c : Nat} (hs : INF < sz c) : (FloatKind.f64.format.order s c != some .eq) = true := by
 obtain ⟨a, b, h⟩ := read_nan hs
 show (Ieee.double.order s c != some .eq) = true
 unfold Ieee.Format.order
 rw [h]
 cases Ieee.Format.read Ieee.double s <;> rfl
theorem fit_det {x y : Nat} {i : Int} (h : FitR x y i true) (h' : FitR x y i false) : False := by
 rcases h with ⟨c1, c2, c3, c4, h⟩ | ⟨_, h⟩
 ·rcases h' with ⟨_, _, _, _, h'⟩ | ⟨h', _⟩
  ·exact form_det h h'
  ·exact h' ⟨c1, c2, c3, c4⟩
 ·cases h
theorem way_al {x y : Nat} {i : Int} {u d u' d' : Nat} (h : Way x y i u d) (h' : Way x y i u' d') : Al u u' ∧ Al d d' := by
 obtain ⟨L, m, u1, d1, a1, a2, a3, a4, a5, a6⟩ := h.out
 obtain ⟨L', m', u1', d1', b1, b2, b3, b4, b5, b6⟩ := h'.out
 have e1 := fop_al (by simp) (Al.refl _) (Al.refl _) a1 b1
 have e2 := fop_al (by simp) (Al.refl _) e1 a2 b2
 have e3 := fop_al (by simp) (Al.refl _) e2 a3 b3
 have e5 := fop_al (by simp) (Al.refl _) e2 a5 b5
 exact ⟨fop_al (by simp) (Al.refl _) e3 a4 b4, fop_al (by simp) (Al.refl _) e5 a6 b6⟩
theorem order_al {u d u' d' : Nat} (hu : Al u u') (hd : Al d d') : (FloatKind.f64.format.order u d != some .eq) = (FloatKind.f64.format.order u' d' != some .eq) := by
 rcases hu with rfl | ⟨h1, h2⟩
 ·rcases hd with rfl | ⟨h3, h4⟩
  ·rfl
  ·rw [order_nan_r h3, order_nan_r h4]
 ·rw [order_nan_l h1, order_nan_l h2]
theorem ask_det {x y r r' : Nat} {i : Int} {ok ok' : Bool} (h : AcceptR x y i r ok) (h' : AcceptR x y i r' ok') : r = r' ∧ ok = ok' := by
 rcases h with ⟨hf, rfl, rfl⟩ | ⟨hf, u, d, hw, h⟩
 ·rcases h' with ⟨_, rfl, rfl⟩ | ⟨hf', _⟩
  ·exact ⟨rfl, rfl⟩
  ·exact (fit_det hf' hf).elim
 ·rcases h' with ⟨hf', _⟩ | ⟨_, u', d', hw', h'⟩
  ·exact (fit_det hf hf').elim
  ·obtain ⟨eu, ed⟩ := way_al hw hw'
   have eo := order_al eu ed
   rcases h with ⟨hn, rfl, rfl⟩ | ⟨hn, rfl, rfl⟩
   ·rcases h' with ⟨_, rfl, rfl⟩ | ⟨hn', _⟩
    ·exact ⟨rfl, rfl⟩
    ·rw [hn, hn'] at eo; cases eo
   ·rcases h' with ⟨hn', _⟩ | ⟨_, rfl, rfl⟩
    ·rw [hn, hn'] at eo; cases eo
    ·refine ⟨?_, rfl⟩
     rcases eu with eu | ⟨h1, _⟩
     ·exact eu
     ·rw [order_nan_l h1] at hn; cases hn
end Go.Proofs.YtelfmddcjlocpaaDoor.AccW
end
section
set_option linter.unusedVariables false
namespace Go.Proofs.YtelfmddcjlocpaaDoor.PLib
open Go Go.RowKit Go.Proofs.YtelfmddcjlocpaaDoorW.PrintWords Go.Proofs.YtelfmddcjlocpaaDoor.Px Go.Proofs.YtelfmddcjlocpaaDoor.FW Go.Proofs.YtelfmddcjlocpaaDoor.Eft Go.Proofs.YtelfmddcjlocpaaDoor.AccW Fl
open Classical in
noncomputable def gnomonlaw25_ask.f (a0 a1 a2 : Int) : Option (Int × Bool) :=
 if h : ∃ p : Nat × Bool, AcceptR a0.toNat a1.toNat a2 p.1 p.2 then (if a0.toNat < 18446744073709551616 ∧ a1.toNat < 18446744073709551616 then some (((Classical.choose h).1 : Int), (Classical.choose h).2) else none) else none
theorem gnomonlaw25_ask.c {a0 a1 a2 : Int} {r : Int × Bool} (h : gnomonlaw25_ask.f a0 a1 a2 = some r) : Con Tryd.prog Gw 28 [.s (.i .u64 a0), .s (.i .u64 a1), .s (.i .i64 a2)] (· = .tu [.s (.i .u64 r.1), .s (.b r.2)]) := by
 unfold gnomonlaw25_ask.f at h
 split at h
 ·rename_i he
  split at h
  ·rename_i hb
   have h := Option.some.inj h
   subst h
   refine brg Tryd.func28 (by kernel_rfl) fun w S vs gw hS vs_ => ?_
   obtain ⟨u0, rfl, v0⟩ := a_i vs_
   obtain ⟨u1, rfl, v1⟩ := a_i v0
   obtain ⟨u2, rfl, v2⟩ := a_i v1
   obtain rfl := a_nil v2
   refine (ask_any a0 a1 a2 hb.1 hb.2 w).mono fun e w' ⟨r, ok, he', hr, hb'⟩ => ?_
   obtain ⟨e1, e2⟩ := ask_det (Classical.choose_spec he) hr
   exact ⟨_, _, he', rfl, ⟨[.int .u64 (r : Int), .bool ok], rfl, .cons (by rw [e1]; rfl) (.cons (by rw [e2]; rfl) .nil)⟩, hb'⟩
  ·cases h
 ·cases h
theorem ask_some (w : World) (a0 a1 a2 : Int) (h0 : a0.toNat < 18446744073709551616) (h1 : a1.toNat < 18446744073709551616) :
  ∃ (r : Nat) (ok : Bool), gnomonlaw25_ask.f a0 a1 a2 = some ((r : Int), ok) ∧ AcceptR a0.toNat a1.toNat a2 r ok := by
 obtain ⟨e, w', fr, ⟨r, ok, _, hr, _⟩, _⟩ := ask_any a0 a1 a2 h0 h1 w []
 have he : ∃ p : Nat × Bool, AcceptR a0.toNat a1.toNat a2 p.1 p.2 := ⟨(r, ok), hr⟩
 refine ⟨(Classical.choose he).1, (Classical.choose he).2, ?_, Classical.choose_spec he⟩
 unfold gnomonlaw25_ask.f
 rw [dif_pos he, if_pos ⟨h0, h1⟩]
def gnomonlaw25_awake.f : Option Bool := some true
theorem gnomonlaw25_awake.c {r : Bool} (h : gnomonlaw25_awake.f = some r) : Con Tryd.prog Gw 24 [] (· = .s (.b r)) := by
 have h := Option.some.inj h
 subst h
 refine brg Tryd.func24 (by kernel_rfl) fun w S vs gw hS vs_ => ?_
 obtain rfl := a_nil vs_
 exact (AccW.awake_any w).mono fun e w' ⟨he, hb⟩ => ⟨_, _, he, rfl, rfl, hb⟩
end Go.Proofs.YtelfmddcjlocpaaDoor.PLib
end
