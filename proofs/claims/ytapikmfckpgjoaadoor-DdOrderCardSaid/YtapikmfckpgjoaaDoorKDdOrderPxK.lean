/- Px at this seat's program: the two theorems by which a function's ways are shown, with small words for the facts. Condition: math/bits' table is laid (Tab). -/
import Derived.Test.YtapikmfckpgjoaaDoorKDdOrderPxJ
import Derived.Test.YtapikmfckpgjoaaDoorKDdOrderGTab
set_option linter.unusedVariables false
set_option linter.unusedSimpArgs false
namespace Go.Proofs.YtapikmfckpgjoaaDoor.Px
open Go Go.RowKit Go.Proofs.YtapikmfckpgjoaaDoorW.PrintWords Go.Proofs.YtapikmfckpgjoaaDoorW.PrintMore
abbrev Gw : World → Prop := Go.Proofs.YtapikmfckpgjoaaDoor.GTab.Tab
theorem Gw_next : ∀ w w' : World, Gw w → Below w.heap.size w w' → Gw w' := fun _ _ h d => Go.Proofs.YtapikmfckpgjoaaDoor.GTab.Tab.next h d
theorem bnd {α β : Type} {o : Option α} {f : α → Option β} {b : β} (h : o.bind f = some b) : ∃ a, o = some a ∧ f a = some b := Option.bind_eq_some_iff.1 h
theorem ite_e {α : Type} {c : Prop} [Decidable c] {a b : Option α} {r : α} (h : (if c then a else b) = some r) : (c ∧ a = some r) ∨ (¬ c ∧ b = some r) := by
 by_cases x : c
 ·rw [if_pos x] at h; exact .inl ⟨x, h⟩
 ·rw [if_neg x] at h; exact .inr ⟨x, h⟩
theorem ai {a b : Prop} (x : a) (y : b) : a ∧ b := ⟨x, y⟩
theorem d1 {p : Prop} [Decidable p] (h : p) : decide p = true := decide_eq_true h
theorem d0 {p : Prop} [Decidable p] (h : ¬ p) : decide p = false := decide_eq_false h
theorem q1 {α : Type} [BEq α] [LawfulBEq α] {x y : α} (h : x = y) : (x == y) = true := beq_iff_eq.2 h
theorem q0 {α : Type} [BEq α] [LawfulBEq α] {x y : α} (h : ¬ x = y) : (x == y) = false := beq_eq_false_iff_ne.2 h
theorem n1 {α : Type} [BEq α] [LawfulBEq α] {x y : α} (h : ¬ x = y) : (x != y) = true := bne_iff_ne.2 h
theorem n0 {α : Type} [BEq α] [LawfulBEq α] {x y : α} (h : x = y) : (x != y) = false := bne_eq_false_iff_eq.2 h
theorem z0 {x : Bool} (h : ¬ x = true) : x = false := by cases x <;> simp_all
theorem si {α : Type} {a b : α} (h : some a = some b) : a = b := Option.some.inj h
theorem tt : true = true := rfl
theorem ff : false = false := rfl
theorem nn {α : Type} {r : α} {p : Prop} (h : (none : Option α) = some r) : p := by cases h
theorem nt1 {x : Bool} (h : x = true) : (!x) = false := by rw [h]; rfl
theorem bne2 {x y a b : Bool} (h : x = a) (k : y = b) : (x != y) = (a != b) := by rw [h, k]
theorem nt0 {x : Bool} (h : x = false) : (!x) = true := by rw [h]; rfl
def nav : Code → List Nat → List Item → List Item
 | .seq a b, 0 :: p, k => nav a p (.code b :: k)
 | .seq _ b, _ :: p, k => nav b p k
 | .cond _ a _, 0 :: p, k => nav a p k
 | .cond _ _ b, _ :: p, k => nav b p k
 | .block id c, _ :: p, k => nav c p (.inBlock id :: k)
 | .loop c, _ :: p, k => nav c p (.inLoop c :: k)
 | c, _, k => .code c :: k
def lk (i : Nat) : List (Nat × PV) → PV
 | [] => .s .top
 | (j, v) :: l => bif Nat.beq i j then v else lk i l
def mkT (n : Nat) (l : List (Nat × PV)) : List PV := (List.range n).map fun i => lk i l
def okFn (fn : Func) : Bool := !(fn.name == "runtime.NumGoroutine") && !fn.body.isNone
theorem mixed : Tryd.prog.follows .mixedOrders = true := by kernel_rfl
theorem pth {f : FuncId} {fn : Func} (hf : Tryd.prog.funcs[f]? = some fn) (an : List Ans) {args : List PV} {x : PV} {p : Prop} (h : x = x → p) (e : (okFn fn, goF Tryd.prog Gw f fn (· = x) 4000 args an) = (true, p)) : Con Tryd.prog Gw f args (· = x) := by
 obtain ⟨e1, e2⟩ := Prod.mk.inj e
 unfold okFn at e1
 rw [Bool.and_eq_true, Bool.not_eq_true', Bool.not_eq_true'] at e1
 refine con_of mixed Gw_next hf e1.1 e1.2 ?_
 unfold goF at e2
 exact go_sound mixed Gw_next hf 4000 _ _ an (e2 ▸ h rfl)
theorem jth {f : FuncId} {fn : Func} (hf : Tryd.prog.funcs[f]? = some fn) (an : List Ans) {todo : List Item} {st : St} {x : PV} {p : Prop} (h : x = x → p) (e : go Tryd.prog Gw f fn.results.toList (· = x) 4000 todo st an = p) : Fin Tryd.prog Gw f todo st (· = x) :=
 go_sound mixed Gw_next hf 4000 _ _ an (e ▸ h rfl)
end Go.Proofs.YtapikmfckpgjoaaDoor.Px
