/- Px: from contracts in the print's form to contracts of Px. Plain lemmas. No condition. -/
import Derived.Test.YtapikmfckpgjoaaDoorKDdOrderPxK
set_option linter.unusedVariables false
set_option linter.unusedSimpArgs false
namespace Go.Proofs.YtapikmfckpgjoaaDoor.Px
open Go Go.RowKit Go.Proofs.YtapikmfckpgjoaaDoorW.PrintWords Go.Proofs.YtapikmfckpgjoaaDoorW.PrintMore
section
variable {w w' : World} {S : Nat → Prop}
theorem toC {k : IntKind} {l : List Int} {v : Value} (h : RepC w S none' (.sl k l) v) : ∃ A c, v = .slice A l.length c ∧ l.length ≤ c ∧ Kd.C (Kd.int k) w A l.length l := by
 obtain ⟨A, c, h1, h2, h3⟩ := h
 refine ⟨A, c, h1, h2, rfl, ?_, fun hp => ?_⟩
 ·rcases h3 with rfl | ⟨b, o, _, h5, _⟩
  ·decide
  ·exact h5.2
 ·rcases h3 with rfl | ⟨b, o, rfl, h5, h6⟩
  ·simp at hp
  ·refine ⟨_, rfl, fun j d hj => ⟨[.int k d], rfl, rfl, fun i u hi => ?_⟩⟩
   cases i with
   | zero =>
    obtain rfl : Value.int k d = u := by simpa using hi
    have hj1 : j * (Kd.int k).sz + 0 = j := Nat.mul_one j
    rw [hj1, add_plain]
    exact h6 j d hj
   | succ i => simp at hi
theorem ofC_ {k : IntKind} {l : List Int} {A : Option Addr} {c : Nat} (hc : l.length ≤ c) (h : Kd.C (Kd.int k) w A l.length l) (hS : ∀ (ad : Addr), A = some ad → ad.spot = none → ¬ S ad.block) : RepC w S none' (.sl k l) (.slice A l.length c) := by
 obtain ⟨_, h2, h3⟩ := h
 refine ⟨A, c, rfl, hc, ?_⟩
 cases l with
 | nil => exact .inl rfl
 | cons d0 l =>
  obtain ⟨ad, rfl, h4⟩ := h3 (by simp)
  have cell : ∀ (j : Nat) (d : Int), (d0 :: l)[j]? = some d → w.cell? (ad.add j) = some (.int k d) := by
   intro j d hj
   obtain ⟨c', _, e1, e2⟩ := h4 j d hj
   obtain rfl : c' = [.int k d] := e1
   have := e2 0 _ rfl
   simpa [Kd.int, Kd.scalar] using this
  obtain ⟨b, o, sp⟩ := ad
  have hs : sp = none := by
   have h0 := cell 0 d0 rfl
   cases sp with
   | none => rfl
   | some s =>
    exfalso
    unfold Addr.add at h0
    rw [if_pos rfl] at h0
    unfold World.cell? at h0
    split at h0
    ·simp at h0
    ·simp at h0
  subst hs
  refine .inr ⟨b, o, rfl, ⟨hS _ rfl rfl, h2⟩, fun j d hj => ?_⟩
  rw [← add_plain]
  exact cell j d hj
theorem ofR {k : IntKind} {l : List Int} {v : Value} {e base : Nat} {ok : Nat → Prop} (h : Kd.R (Kd.int k) e w' base ok v l) (hS : ∀ b, S b → b < base) : RepC w' S none' (.sl k l) v := by
 obtain ⟨A, c, rfl, h1, h2⟩ := Kd.R_reads h
 refine ofC_ h1 h2 fun ad e hs hb => ?_
 subst e
 have := Kd.R_base h ad.block (by simp [Value.ownBlock])
 have := hS _ hb
 omega
theorem brg {f : FuncId} {fn : Func} {args : List PV} {R : PV → Prop} (hf : Tryd.prog.funcs[f]? = some fn) (e : okFn fn = true)
  (h : ∀ (w : World) (S : Nat → Prop) (vs : List Value), Gw w → (∀ b, S b → b < w.heap.size) → All2 (RepV w S none') args vs → Calls Tryd.prog f vs.toArray w fun e w' => ∃ v x, e = .returned v ∧ R x ∧ RepV w' S none' x v ∧ Below w.heap.size w w') : Con Tryd.prog Gw f args R := by
 unfold okFn at e
 rw [Bool.and_eq_true, Bool.not_eq_true', Bool.not_eq_true'] at e
 exact ⟨⟨fn, hf, e.1, e.2⟩, h⟩
theorem a_sl {k : IntKind} {l : List Int} {ps : List PV} {vs : List Value} (h : All2 (RepV w S none') (.s (.sl k l) :: ps) vs) : ∃ A c us, vs = .slice A l.length c :: us ∧ l.length ≤ c ∧ Kd.C (Kd.int k) w A l.length l ∧ All2 (RepV w S none') ps us := by
 cases h with
 | cons h1 h2 =>
  obtain ⟨A, c, rfl, h3, h4⟩ := toC h1
  exact ⟨A, c, _, rfl, h3, h4, h2⟩
theorem a_i {k : IntKind} {n : Int} {ps : List PV} {vs : List Value} (h : All2 (RepV w S none') (.s (.i k n) :: ps) vs) : ∃ us, vs = .int k n :: us ∧ All2 (RepV w S none') ps us := by
 cases h with
 | cons h1 h2 => obtain rfl := h1; exact ⟨_, rfl, h2⟩
theorem a_nil {vs : List Value} (h : All2 (RepV w S none') [] vs) : vs = [] := by cases h; rfl
theorem run_t {f : FuncId} {args : List PV} (h : Con Tryd.prog Gw f args (· = .s (.b true))) (gw : Gw w) {vs : List Value} (hv : All2 (RepV w (fun _ => False) none') args vs) : Calls Tryd.prog f vs.toArray w fun e w' => e = .returned (.bool true) ∧ Below w.heap.size w w' :=
 (h.2 w (fun _ => False) vs gw (fun _ h => h.elim) hv).mono fun e w' ⟨v, x, he, hx, hr, hb⟩ => by
  subst hx
  obtain rfl := hr
  exact ⟨he, hb⟩
end
end Go.Proofs.YtapikmfckpgjoaaDoor.Px
