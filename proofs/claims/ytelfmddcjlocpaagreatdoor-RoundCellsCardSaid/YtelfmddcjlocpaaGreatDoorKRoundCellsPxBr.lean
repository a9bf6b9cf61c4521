/- Px at this seat's program: the two theorems by which a function's ways are shown, with small words for the facts. Condition: math/bits' table is laid (Tab). Px: from contracts in the print's form to contracts of Px. Plain lemmas. No condition. -/
import Derived.Test.YtelfmddcjlocpaaGreatDoorKRoundCellsPxJ
import Derived.Test.YtelfmddcjlocpaaGreatDoorKRoundCellsRow8
section
set_option linter.unusedVariables false
set_option linter.unusedSimpArgs false
namespace Go.Proofs.YtelfmddcjlocpaaGreatDoor.Px
open Go Go.RowKit Go.Proofs.YtelfmddcjlocpaaGreatDoorW.PrintWords Go.Proofs.YtelfmddcjlocpaaGreatDoorW.PrintMore
abbrev Gw : World → Prop := Go.Proofs.YtelfmddcjlocpaaGreatDoor.GTab.Tab
theorem Gw_next : ∀ w w' : World, Gw w → Below w.heap.size w w' → Gw w' := fun _ _ h d => Go.Proofs.YtelfmddcjlocpaaGreatDoor.GTab.Tab.next h d
theorem bnd {α β : Type} {o : Option α} {f : α → Option β} {b : β} (h : o.bind f = some b) : ∃ a, o = some a ∧ f a = some b := Option.bind_eq_some_iff.1 h
theorem ite_e {α : Type} {c : Prop} [Decidable c] {a b : Option α} {r : α} (h : (if c then a else b) = some r) : (c ∧ a = some r) ∨ (¬ c ∧ b = some r) := by
 by_cases x : c
 ·rw [if_pos x] at h; exact .inl ⟨x, h⟩
 ·rw [if_neg x] at h; exact .inr ⟨x, h⟩
theorem ai {a b : Prop} (x : a) (y : b) : a ∧ b := ⟨x, y⟩
theorem d1 {p : Prop} [Decidable p] (h : p) : decide p = true := decide_eq_true h
theorem d0 {p : Prop} [Decidable p] (h : ¬ p) : decide p = false := decide_eq_false h
theorem q1 {α : Type} [BEq α] [LawfulBEq α] {x y : α} (h : x = y) : (x == y) = true := beq_iff_eq.2 h
theorem q0 {α : Type} [BEq α] [LawfulBEq α] {x y : α} (h : ¬ x = y) : (x == y) = false := beq_eq_false_iff_ne.2 h
theorem n1 {α : Type} [BEq α] [LawfulBEq α] {x y : α} (h : ¬ x = y) : (x != y) = true := bne_iff_ne.2 h
theorem n0 {α : Type} [BEq α] [LawfulBEq α] {x y : α} (h : x = y) : (x != y) = false := bne_eq_false_iff_eq.2 h
theorem z0 {x : Bool} (h : ¬ x = true) : x = false := by cases x <;> simp_all
theorem si {α : Type} {a b : α} (h : some a = some b) : a = b := Option.some.inj h
theorem tt : true = true := rfl
theorem ff : false = false := rfl
theorem nn {α : Type} {r : α} {p : Prop} (h : (none : Option α) = some r) : p := by cases h
theorem nt1 {x : Bool} (h : x = true) : (!x) = false := by rw [h]; rfl
theorem beq2 {x y a b : Bool} (h : x = a) (k : y = b) : (x == y) = (a == b) := by rw [h, k]
theorem nt0 {x : Bool} (h : x = false) : (!x) = true := by rw [h]; rfl
def nav : Code → List Nat → List Item → List Item
 | .seq a b, 0 :: p, k => nav a p (.code b :: k)
 | .seq _ b, _ :: p, k => nav b p k
 | .cond _ a _, 0 :: p, k => nav a p k
 | .cond _ _ b, _ :: p, k => nav b p k
 | .block id c, _ :: p, k => nav c p (.inBlock id :: k)
 | .loop c, _ :: p, k => nav c p (.inLoop c :: k)
 | c, _, k => .code c :: k
def lk (i : Nat) : List (Nat × PV) → PV
 | [] => .s .top
 | (j, v) :: l => bif Nat.beq i j then v else lk i l
def mkT (n : Nat) (l : List (Nat × PV)) : List PV := (List.range n).map fun i => lk i l
def okFn (fn : Func) : Bool := !(fn.name == "runtime.NumGoroutine") && !fn.body.isNone
theorem mixed : Tryz.prog.follows .mixedOrders = true := by kernel_rfl
theorem pth {f : FuncId} {fn : Func} (hf : Tryz.prog.funcs[f]? = some fn) (an : List Ans) {args : List PV} {x : PV} {p : Prop} (h : x = x → p) (e : (okFn fn, goF Tryz.prog Gw f fn (· = x) 4000 args an) = (true, p)) : Con Tryz.prog Gw f args (· = x) := by
 obtain ⟨e1, e2⟩ := Prod.mk.inj e
 unfold okFn at e1
 rw [Bool.and_eq_true, Bool.not_eq_true', Bool.not_eq_true'] at e1
 refine con_of mixed Gw_next hf e1.1 e1.2 ?_
 unfold goF at e2
 exact go_sound mixed Gw_next hf 4000 _ _ an (e2 ▸ h rfl)
theorem jth {f : FuncId} {fn : Func} (hf : Tryz.prog.funcs[f]? = some fn) (an : List Ans) {todo : List Item} {st : St} {x : PV} {p : Prop} (h : x = x → p) (e : go Tryz.prog Gw f fn.results.toList (· = x) 4000 todo st an = p) : Fin Tryz.prog Gw f todo st (· = x) :=
 go_sound mixed Gw_next hf 4000 _ _ an (e ▸ h rfl)
end Go.Proofs.YtelfmddcjlocpaaGreatDoor.Px
end
section
set_option linter.unusedVariables false
set_option linter.unusedSimpArgs false
namespace Go.Proofs.YtelfmddcjlocpaaGreatDoor.Px
open Go Go.RowKit Go.Proofs.YtelfmddcjlocpaaGreatDoorW.PrintWords Go.Proofs.YtelfmddcjlocpaaGreatDoorW.PrintMore
section
variable {w w' : World} {S : Nat → Prop}
theorem toC {k : IntKind} {l : List Int} {v : Value} (h : RepC w S none' (.sl k l) v) : ∃ A c, v = .slice A l.length c ∧ l.length ≤ c ∧ Kd.C (Kd.int k) w A l.length l := by
 obtain ⟨A, c, h1, h2, h3⟩ := h
 refine ⟨A, c, h1, h2, rfl, ?_, fun hp => ?_⟩
 ·rcases h3 with rfl | ⟨b, o, _, h5, _⟩
  ·decide
  ·exact h5.2
 ·rcases h3 with rfl | ⟨b, o, rfl, h5, h6⟩
  ·simp at hp
  ·refine ⟨_, rfl, fun j d hj => ⟨[.int k d], rfl, rfl, fun i u hi => ?_⟩⟩
   cases i with
   | zero =>
    obtain rfl : Value.int k d = u := by simpa using hi
    have hj1 : j * (Kd.int k).sz + 0 = j := Nat.mul_one j
    rw [hj1, add_plain]
    exact h6 j d hj
   | succ i => simp at hi
theorem ofC_ {k : IntKind} {l : List Int} {A : Option Addr} {c : Nat} (hc : l.length ≤ c) (h : Kd.C (Kd.int k) w A l.length l) (hS : ∀ (ad : Addr), A = some ad → ad.spot = none → ¬ S ad.block) : RepC w S none' (.sl k l) (.slice A l.length c) := by
 obtain ⟨_, h2, h3⟩ := h
 refine ⟨A, c, rfl, hc, ?_⟩
 cases l with
 | nil => exact .inl rfl
 | cons d0 l =>
  obtain ⟨ad, rfl, h4⟩ := h3 (by simp)
  have cell : ∀ (j : Nat) (d : Int), (d0 :: l)[j]? = some d → w.cell? (ad.add j) = some (.int k d) := by
   intro j d hj
   obtain ⟨c', _, e1, e2⟩ := h4 j d hj
   obtain rfl : c' = [.int k d] := e1
   have := e2 0 _ rfl
   simpa [Kd.int, Kd.scalar] using this
  obtain ⟨b, o, sp⟩ := ad
  have hs : sp = none := by
   have h0 := cell 0 d0 rfl
   cases sp with
   | none => rfl
   | some s =>
    exfalso
    unfold Addr.add at h0
    rw [if_pos rfl] at h0
    unfold World.cell? at h0
    split at h0
    ·simp at h0
    ·simp at h0
  subst hs
  refine .inr ⟨b, o, rfl, ⟨hS _ rfl rfl, h2⟩, fun j d hj => ?_⟩
  rw [← add_plain]
  exact cell j d hj
theorem ofR {k : IntKind} {l : List Int} {v : Value} {e base : Nat} {ok : Nat → Prop} (h : Kd.R (Kd.int k) e w' base ok v l) (hS : ∀ b, S b → b < base) : RepC w' S none' (.sl k l) v := by
 obtain ⟨A, c, rfl, h1, h2⟩ := Kd.R_reads h
 refine ofC_ h1 h2 fun ad e hs hb => ?_
 subst e
 have := Kd.R_base h ad.block (by simp [Value.ownBlock])
 have := hS _ hb
 omega
theorem brg {f : FuncId} {fn : Func} {args : List PV} {R : PV → Prop} (hf : Tryz.prog.funcs[f]? = some fn) (e : okFn fn = true)
  (h : ∀ (w : World) (S : Nat → Prop) (vs : List Value), Gw w → (∀ b, S b → b < w.heap.size) → All2 (RepV w S none') args vs → Calls Tryz.prog f vs.toArray w fun e w' => ∃ v x, e = .returned v ∧ R x ∧ RepV w' S none' x v ∧ Below w.heap.size w w') : Con Tryz.prog Gw f args R := by
 unfold okFn at e
 rw [Bool.and_eq_true, Bool.not_eq_true', Bool.not_eq_true'] at e
 exact ⟨⟨fn, hf, e.1, e.2⟩, h⟩
theorem a_sl {k : IntKind} {l : List Int} {ps : List PV} {vs : List Value} (h : All2 (RepV w S none') (.s (.sl k l) :: ps) vs) : ∃ A c us, vs = .slice A l.length c :: us ∧ l.length ≤ c ∧ Kd.C (Kd.int k) w A l.length l ∧ All2 (RepV w S none') ps us := by
 cases h with
 | cons h1 h2 =>
  obtain ⟨A, c, rfl, h3, h4⟩ := toC h1
  exact ⟨A, c, _, rfl, h3, h4, h2⟩
theorem a_i {k : IntKind} {n : Int} {ps : List PV} {vs : List Value} (h : All2 (RepV w S none') (.s (.i k n) :: ps) vs) : ∃ us, vs = .int k n :: us ∧ All2 (RepV w S none') ps us := by
 cases h with
 | cons h1 h2 => obtain rfl := h1; exact ⟨_, rfl, h2⟩
theorem a_nil {vs : List Value} (h : All2 (RepV w S none') [] vs) : vs = [] := by cases h; rfl
theorem r_sl {A : Option Addr} {c : Nat} {k : IntKind} {l : List Int} (h : Kd.C (Kd.int k) w A l.length l) (hc : l.length ≤ c) : RepC w (fun _ => False) none' (.sl k l) (.slice A l.length c) := ofC_ hc h fun _ _ _ h => h
theorem run_t {f : FuncId} {args : List PV} (h : Con Tryz.prog Gw f args (· = .s (.b true))) (gw : Gw w) {vs : List Value} (hv : All2 (RepV w (fun _ => False) none') args vs) : Calls Tryz.prog f vs.toArray w fun e w' => e = .returned (.bool true) ∧ Below w.heap.size w w' :=
 (h.2 w (fun _ => False) vs gw (fun _ h => h.elim) hv).mono fun e w' ⟨v, x, he, hx, hr, hb⟩ => by
  subst hx
  obtain rfl := hr
  exact ⟨he, hb⟩
end
end Go.Proofs.YtelfmddcjlocpaaGreatDoor.Px
end
