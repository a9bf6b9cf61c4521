/- The same call gives the same words again, or NaNs both times. Plain Lean over the contracts of the float functions. No condition. Accept answers the same again. Plain Lean. No condition. Accept's answers as plain functions, their contracts by Px; math's words of floats answer at once. Conditions: words below 2^64; math/bits' table is laid. -/
import Derived.Test.YtelfmddcjlocpaaDoorKAcceptRoundsProdB
import Derived.Test.YtelfmddcjlocpaaDoorKAcceptRoundsEft
import Derived.Test.YtelfmddcjlocpaaDoorKAcceptRoundsFlCmp
import Derived.Test.YtelfmddcjlocpaaDoorKAcceptRoundsInCell
import Derived.Test.YtelfmddcjlocpaaDoorKAcceptRoundsPxBr
section
namespace Go.Proofs.YtelfmddcjlocpaaDoor.Again
open Go.RowKit Go.Proofs.YtelfmddcjlocpaaDoorW.PrintWords Go.Proofs.YtelfmddcjlocpaaDoorW.PrintMore Go.Proofs.YtelfmddcjlocpaaDoor.Num Go.Proofs.YtelfmddcjlocpaaDoor.Ref Go.Proofs.YtelfmddcjlocpaaDoor.FW Go.Proofs.YtelfmddcjlocpaaDoor.Eft Go.Proofs.YtelfmddcjlocpaaDoor.EftLaw Fl Ieee
def Al (x y : Nat) : Prop := x = y ∨ (INF < sz x ∧ INF < sz y)
theorem Al.refl (x : Nat) : Al x x := Or.inl rfl
theorem nan_l {op : BinOp} {x y : Nat} (hop : op = .add ∨ op = .sub ∨ op = .mul) (h : INF < sz x) : floatBits op .f64 x y = none := by
 obtain ⟨s, f, e⟩ := read_nan h
 rcases hop with rfl | rfl | rfl
 ·show double.add x y = none
  unfold Format.add; rw [e]; cases double.read y <;> rfl
 ·show double.sub x y = none
  unfold Format.sub; rw [e]; cases double.read y <;> rfl
 ·show double.mul x y = none
  unfold Format.mul; rw [e]; cases double.read y <;> rfl
theorem nan_r {op : BinOp} {x y : Nat} (hop : op = .add ∨ op = .sub ∨ op = .mul) (h : INF < sz y) : floatBits op .f64 x y = none := by
 obtain ⟨s, f, e⟩ := read_nan h
 rcases hop with rfl | rfl | rfl
 ·show double.add x y = none
  unfold Format.add; rw [e]; cases double.read x <;> rfl
 ·show double.sub x y = none
  unfold Format.sub; rw [e]; cases double.read x <;> rfl
 ·show double.mul x y = none
  unfold Format.mul; rw [e]; cases double.read x <;> rfl
theorem nan_sz {r : Nat} (h : 9218868437227405312 < r % 9223372036854775808) : INF < sz r := h
theorem fop_al {op : BinOp} {x y x' y' r r' : Nat} (hop : op = .add ∨ op = .sub ∨ op = .mul) (hx : Al x x') (hy : Al y y') (h : FOp op x y r) (h' : FOp op x' y' r') : Al r r' := by
 by_cases hn : INF < sz x ∨ INF < sz y
 ·have hn' : INF < sz x' ∨ INF < sz y' := by
   rcases hn with hn | hn
   ·rcases hx with rfl | hx
    ·exact Or.inl hn
    ·exact Or.inl hx.2
   ·rcases hy with rfl | hy
    ·exact Or.inr hn
    ·exact Or.inr hy.2
  right
  refine ⟨nan_sz (h.nan ?_), nan_sz (h'.nan ?_)⟩
  ·rcases hn with hn | hn
   ·exact nan_l hop hn
   ·exact nan_r hop hn
  ·rcases hn' with hn | hn
   ·exact nan_l hop hn
   ·exact nan_r hop hn
 ·obtain rfl : x = x' := by
   rcases hx with hx | hx
   ·exact hx
   ·exact absurd (Or.inl hx.1) hn
  obtain rfl : y = y' := by
   rcases hy with hy | hy
   ·exact hy
   ·exact absurd (Or.inr hy.1) hn
  rcases hb : floatBits op .f64 x y with _ | v
  ·exact Or.inr ⟨nan_sz (h.nan hb), nan_sz (h'.nan hb)⟩
  ·left; rw [h.val v hb, h'.val v hb]
end Go.Proofs.YtelfmddcjlocpaaDoor.Again
end
section
namespace Go.Proofs.YtelfmddcjlocpaaDoor.AccW
open Go.RowKit Go.Proofs.YtelfmddcjlocpaaDoor.FW Go.Proofs.YtelfmddcjlocpaaDoor.Eft Go.Proofs.YtelfmddcjlocpaaDoor.EftLaw Go.Proofs.YtelfmddcjlocpaaDoor.Again Fl
theorem order_nan_l {s c : Nat} (hs : INF < sz s) : (FloatKind.f64.format.order s c != some .eq) = true := by
 show (Ieee.double.order s c != some .eq) = true
 rw [ord_nan hs]; rfl
theorem order_nan_r {s c : Nat} (hs : INF < sz c) : (FloatKind.f64.format.order s c != some .eq) = true := by
 obtain ⟨a, b, h⟩ := read_nan hs
 show (Ieee.double.order s c != some .eq) = true
 unfold Ieee.Format.order
 rw [h]
 cases Ieee.Format.read Ieee.double s <;> rfl
theorem fit_det {x y : Nat} {i : Int} (h : FitR x y i true) (h' : FitR x y i false) : False := by
 rcases h with ⟨c1, c2, c3, c4, h⟩ | ⟨_, h⟩
 ·rcases h' with ⟨_, _, _, _, h'⟩ | ⟨h', _⟩
  ·exact form_det h h'
  ·exact h' ⟨c1, c2, c3, c4⟩
 ·cases h
theorem way_al {x y : Nat} {i : Int} {u d u' d' : Nat} (h : Way x y i u d) (h' : Way x y i u' d') : Al u u' ∧ Al d d' := by
 obtain ⟨L, m, u1, d1, a1, a2, a3, a4, a5, a6⟩ := h.out
 obtain ⟨L', m', u1', d1', b1, b2, b3, b4, b5, b6⟩ := h'.out
 have e1 := fop_al (by simp) (Al.refl _) (Al.refl _) a1 b1
 have e2 := fop_al (by simp) (Al.refl _) e1 a2 b2
 have e3 := fop_al (by simp) (Al.refl _) e2 a3 b3
 have e5 := fop_al (by simp) (Al.refl _) e2 a5 b5
 exact ⟨fop_al (by simp) (Al.refl _) e3 a4 b4, fop_al (by simp) (Al.refl _) e5 a6 b6⟩
theorem order_al {u d u' d' : Nat} (hu : Al u u') (hd : Al d d') : (FloatKind.f64.format.order u d != some .eq) = (FloatKind.f64.format.order u' d' != some .eq) := by
 rcases hu with rfl | ⟨h1, h2⟩
 ·rcases hd with rfl | ⟨h3, h4⟩
  ·rfl
  ·rw [order_nan_r h3, order_nan_r h4]
 ·rw [order_nan_l h1, order_nan_l h2]
theorem ask_det {x y r r' : Nat} {i : Int} {ok ok' : Bool} (h : AcceptR x y i r ok) (h' : AcceptR x y i r' ok') : r = r' ∧ ok = ok' := by
 rcases h with ⟨hf, rfl, rfl⟩ | ⟨hf, u, d, hw, h⟩
 ·rcases h' with ⟨_, rfl, rfl⟩ | ⟨hf', _⟩
  ·exact ⟨rfl, rfl⟩
  ·exact (fit_det hf' hf).elim
 ·rcases h' with ⟨hf', _⟩ | ⟨_, u', d', hw', h'⟩
  ·exact (fit_det hf hf').elim
  ·obtain ⟨eu, ed⟩ := way_al hw hw'
   have eo := order_al eu ed
   rcases h with ⟨hn, rfl, rfl⟩ | ⟨hn, rfl, rfl⟩
   ·rcases h' with ⟨_, rfl, rfl⟩ | ⟨hn', _⟩
    ·exact ⟨rfl, rfl⟩
    ·rw [hn, hn'] at eo; cases eo
   ·rcases h' with ⟨hn', _⟩ | ⟨_, rfl, rfl⟩
    ·rw [hn, hn'] at eo; cases eo
    ·refine ⟨?_, rfl⟩
     rcases eu with eu | ⟨h1, _⟩
     ·exact eu
     ·rw [order_nan_l h1] at hn; cases hn
end Go.Proofs.YtelfmddcjlocpaaDoor.AccW
end
section
set_option linter.unusedVariables false
namespace Go.Proofs.YtelfmddcjlocpaaDoor.PLib
open Go Go.RowKit Go.Proofs.YtelfmddcjlocpaaDoorW.PrintWords Go.Proofs.YtelfmddcjlocpaaDoor.Px Go.Proofs.YtelfmddcjlocpaaDoor.FW Go.Proofs.YtelfmddcjlocpaaDoor.Eft Go.Proofs.YtelfmddcjlocpaaDoor.AccW Fl
theorem fl_from (n : Int) : ExtC Tryd.prog 30 [.s (.i .u64 n)] (.s (.fl .f64 n.toNat)) := by
 intro w T vs hv
 obtain ⟨us, rfl, h2⟩ := a_i hv
 obtain rfl := a_nil h2
 exact ⟨_, call_from n w, rfl⟩
theorem fl_bits (n : Nat) : ExtC Tryd.prog 57 [.s (.fl .f64 n)] (.s (.i .u64 (n : Int))) := by
 intro w T vs hv
 cases hv with
 | cons h1 h2 =>
  obtain rfl := h1
  obtain rfl := a_nil h2
  exact ⟨_, call_bits n w, rfl⟩
open Classical in
noncomputable def gnomonlaw25_ask.f (a0 a1 a2 : Int) : Option (Int × Bool) :=
 if h : ∃ p : Nat × Bool, AcceptR a0.toNat a1.toNat a2 p.1 p.2 then (if a0.toNat < 18446744073709551616 ∧ a1.toNat < 18446744073709551616 then some (((Classical.choose h).1 : Int), (Classical.choose h).2) else none) else none
theorem gnomonlaw25_ask.c {a0 a1 a2 : Int} {r : Int × Bool} (h : gnomonlaw25_ask.f a0 a1 a2 = some r) : Con Tryd.prog Gw 28 [.s (.i .u64 a0), .s (.i .u64 a1), .s (.i .i64 a2)] (· = .tu [.s (.i .u64 r.1), .s (.b r.2)]) := by
 unfold gnomonlaw25_ask.f at h
 split at h
 ·rename_i he
  split at h
  ·rename_i hb
   have h := Option.some.inj h
   subst h
   refine brg Tryd.func28 (by kernel_rfl) fun w S vs gw hS vs_ => ?_
   obtain ⟨u0, rfl, v0⟩ := a_i vs_
   obtain ⟨u1, rfl, v1⟩ := a_i v0
   obtain ⟨u2, rfl, v2⟩ := a_i v1
   obtain rfl := a_nil v2
   refine (ask_any a0 a1 a2 hb.1 hb.2 w).mono fun e w' ⟨r, ok, he', hr, hb'⟩ => ?_
   obtain ⟨e1, e2⟩ := ask_det (Classical.choose_spec he) hr
   exact ⟨_, _, he', rfl, ⟨[.int .u64 (r : Int), .bool ok], rfl, .cons (by rw [e1]; rfl) (.cons (by rw [e2]; rfl) .nil)⟩, hb'⟩
  ·cases h
 ·cases h
theorem ask_some (w : World) (a0 a1 a2 : Int) (h0 : a0.toNat < 18446744073709551616) (h1 : a1.toNat < 18446744073709551616) :
  ∃ (r : Nat) (ok : Bool), gnomonlaw25_ask.f a0 a1 a2 = some ((r : Int), ok) ∧ AcceptR a0.toNat a1.toNat a2 r ok := by
 obtain ⟨e, w', fr, ⟨r, ok, _, hr, _⟩, _⟩ := ask_any a0 a1 a2 h0 h1 w []
 have he : ∃ p : Nat × Bool, AcceptR a0.toNat a1.toNat a2 p.1 p.2 := ⟨(r, ok), hr⟩
 refine ⟨(Classical.choose he).1, (Classical.choose he).2, ?_, Classical.choose_spec he⟩
 unfold gnomonlaw25_ask.f
 rw [dif_pos he, if_pos ⟨h0, h1⟩]
open Classical in
noncomputable def dd_Form.f (a0_0 a0_1 : Nat) : Option Bool := if a0_0 < 18446744073709551616 ∧ a0_1 < 18446744073709551616 ∧ FormR a0_0 a0_1 true then some true else none
theorem dd_Form.c {a0_0 a0_1 : Nat} {r : Bool} (h : dd_Form.f a0_0 a0_1 = some r) : Con Tryd.prog Gw 56 [.ag [.fl .f64 a0_0, .fl .f64 a0_1]] (· = .s (.b r)) := by
 unfold dd_Form.f at h
 split at h
 ·rename_i hb
  have h := Option.some.inj h
  subst h
  refine brg Tryd.func56 (by kernel_rfl) fun w S vs gw hS vs_ => ?_
  cases vs_ with
  | cons h1 h2 =>
  obtain rfl := a_nil h2
  obtain ⟨us, rfl, h3⟩ := h1
  cases h3 with
  | cons h4 h5 =>
  cases h5 with
  | cons h6 h7 =>
  cases h7
  obtain rfl := h4
  obtain rfl := h6
  refine (form_any a0_0 a0_1 hb.1 hb.2.1 w).mono fun e w' ⟨r, he', hr, hb'⟩ => ?_
  refine ⟨_, _, he', rfl, ?_, hb'⟩
  cases r
  ·exact (form_det hb.2.2 hr).elim
  ·rfl
 ·cases h
def gnomonlaw25_awake.f : Option Bool := some true
theorem gnomonlaw25_awake.c {r : Bool} (h : gnomonlaw25_awake.f = some r) : Con Tryd.prog Gw 24 [] (· = .s (.b r)) := by
 have h := Option.some.inj h
 subst h
 refine brg Tryd.func24 (by kernel_rfl) fun w S vs gw hS vs_ => ?_
 obtain rfl := a_nil vs_
 exact (AccW.awake_any w).mono fun e w' ⟨he, hb⟩ => ⟨_, _, he, rfl, rfl, hb⟩
end Go.Proofs.YtelfmddcjlocpaaDoor.PLib
end
