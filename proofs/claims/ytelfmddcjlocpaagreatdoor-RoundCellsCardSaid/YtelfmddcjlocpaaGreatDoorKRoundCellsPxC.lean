/- Px, third part: values in worlds that grow; the state's getters. Plain lemmas. No condition. -/
import Derived.Test.YtelfmddcjlocpaaGreatDoorKRoundCellsPxB
set_option linter.unusedVariables false
set_option linter.unusedSimpArgs false
namespace Go.Proofs.YtelfmddcjlocpaaGreatDoor.Px
open Go Go.RowKit
section
variable {α β γ : Type} {R R' : α → β → Prop}
theorem All2.len {l : List α} {m : List β} (h : All2 R l m) : l.length = m.length := by
  induction h with
  | nil => rfl
  | cons _ _ ih => simp [ih]
theorem All2.mono (hr : ∀ a b, R a b → R' a b) {l : List α} {m : List β} (h : All2 R l m) : All2 R' l m := by
  induction h with
  | nil => exact .nil
  | cons h _ ih => exact .cons (hr _ _ h) ih
theorem All2.mono' {l : List α} {m : List β} (h : All2 R l m) (hr : ∀ a ∈ l, ∀ b, R a b → R' a b) : All2 R' l m := by
  induction h with
  | nil => exact .nil
  | cons h _ ih => exact .cons (hr _ (List.mem_cons_self ..) _ h) (ih fun a ha => hr a (List.mem_cons_of_mem _ ha))
theorem All2.get {l : List α} {m : List β} (h : All2 R l m) : ∀ {i : Nat} {a : α}, l[i]? = some a → ∃ b, m[i]? = some b ∧ R a b := by
  induction h with
  | nil => intro i a h; simp at h
  | cons h _ ih =>
    intro i a hi
    cases i with
    | zero => simp at hi; subst hi; exact ⟨_, by simp, h⟩
    | succ i => simpa using ih (by simpa using hi)
theorem All2.drop {l : List α} {m : List β} (h : All2 R l m) : ∀ n, All2 R (l.drop n) (m.drop n) := by
  induction h with
  | nil => intro n; simp; exact .nil
  | cons h t ih =>
    intro n
    cases n with
    | zero => exact .cons h t
    | succ n => exact ih n
theorem All2.take {l : List α} {m : List β} (h : All2 R l m) : ∀ n, All2 R (l.take n) (m.take n) := by
  induction h with
  | nil => intro n; simp; exact .nil
  | cons h t ih =>
    intro n
    cases n with
    | zero => exact .nil
    | succ n => exact .cons h (ih n)
theorem All2.map {f : γ → α} {g : γ → β} : ∀ {l : List γ}, (∀ x ∈ l, R (f x) (g x)) → All2 R (l.map f) (l.map g)
  | [], _ => .nil
  | x :: l, h => .cons (h x (List.mem_cons_self ..)) (All2.map fun y hy => h y (List.mem_cons_of_mem _ hy))
theorem All2.map_l {δ : Type} {f : α → δ} {R' : δ → β → Prop} {l : List α} {m : List β} (h : All2 R l m) (hr : ∀ a ∈ l, ∀ b, R a b → R' (f a) b) : All2 R' (l.map f) m := by
  induction h with
  | nil => exact .nil
  | cons h _ ih => exact .cons (hr _ (List.mem_cons_self ..) _ h) (ih fun a ha => hr a (List.mem_cons_of_mem _ ha))
end
def spliceV : List Value → Nat → List Value → List Value
  | l, 0, [] => l
  | _ :: t, 0, y :: l => y :: spliceV t 0 l
  | x :: t, n + 1, l => x :: spliceV t n l
  | [], _, _ => []
theorem All2.splice {R : SC → Value → Prop} : ∀ {l : List SC} {m : List Value}, All2 R l m → ∀ (n : Nat) {k : List SC} {j : List Value}, All2 R k j → All2 R (splice l n k) (spliceV m n j)
  | _, _, .nil, n, _, _, hk => by cases n <;> cases hk <;> exact .nil
  | _, _, .cons h t, 0, _, _, .nil => .cons h t
  | _, _, .cons _ t, 0, _, _, .cons h' t' => .cons h' (All2.splice t 0 t')
  | _, _, .cons h t, n + 1, _, _, hk => .cons h (All2.splice t n hk)
theorem putM_get {α : Type} : ∀ (m : List (Option α)) (i j : Nat) (x : Option α), (putM m i x).getD j none = if j = i then x else m.getD j none
  | [], 0, j, x => by
    cases j with
    | zero => simp [putM]
    | succ j => simp [putM]
  | [], i + 1, j, x => by
    cases j with
    | zero => simp [putM]
    | succ j =>
      have := putM_get [] i j x
      simp only [putM, List.getD_cons_succ, this, Nat.add_right_cancel_iff]
      simp
  | y :: l, 0, j, x => by
    cases j with
    | zero => simp [putM]
    | succ j => simp [putM]
  | y :: l, i + 1, j, x => by
    cases j with
    | zero => simp [putM]
    | succ j =>
      have := putM_get l i j x
      simp only [putM, List.getD_cons_succ, this, Nat.add_right_cancel_iff]
theorem gm_put (st : St) (d : Option Nat) (v : PV) (b : Nat) : (st.put d v).gm b = st.gm b := by cases d <;> rfl
theorem len_put (st : St) (d : Option Nat) (v : PV) : (st.put d v).t.length = st.t.length := by
  cases d
  · rfl
  · simp [St.put]
theorem gt_put (st : St) (d : Option Nat) (v : PV) (i : Nat) : (st.put d v).gt i = if d = some i ∧ i < st.t.length then v else st.gt i := by
  cases d with
  | none => simp [St.put]
  | some d =>
    simp only [St.put, St.gt, List.getD_eq_getElem?_getD, List.getElem?_set, Option.some.injEq]
    by_cases h : d = i
    · subst h
      by_cases h2 : d < st.t.length
      · simp [h2]
      · simp [h2]
    · simp [h]
def E.val : E → PV
  | .v x => x
  | .nb b _ _ => .s (.lo b 0)
  | .sto _ _ _ => .s .un
theorem gt_app (d : Option Nat) (e : E) (st : St) (i : Nat) : (app d e st).gt i = if d = some i ∧ i < st.t.length then e.val else st.gt i := by
  cases e with
  | v x => exact gt_put st d x i
  | nb b ty l => exact gt_put { st with m := _ } d _ i
  | sto b off l =>
    simp only [app]
    cases st.gm b with
    | none => exact gt_put st d _ i
    | some x => exact gt_put { st with m := _ } d _ i
theorem len_app (d : Option Nat) (e : E) (st : St) : (app d e st).t.length = st.t.length := by
  cases e with
  | v x => exact len_put st d x
  | nb b ty l => exact len_put { st with m := _ } d _
  | sto b off l =>
    simp only [app]
    cases st.gm b with
    | none => exact len_put st d _
    | some x => exact len_put { st with m := _ } d _
def E.upd (e : E) (b : Nat) (x : Option (TypeId × List SC)) : Option (TypeId × List SC) :=
  match e with
  | .v _ => x
  | .nb c ty l => if b = c then some (ty, l) else x
  | .sto c off l => if b = c then x.map fun y => (y.1, splice y.2 off l) else x
theorem gm_app (d : Option Nat) (e : E) (st : St) (b : Nat) : (app d e st).gm b = e.upd b (st.gm b) := by
  cases e with
  | v x => exact gm_put st d x b
  | nb c ty l =>
    simp only [app, E.upd]
    rw [gm_put]
    exact putM_get st.m c b _
  | sto c off l =>
    simp only [app, E.upd]
    cases h : st.gm c with
    | some x =>
      obtain ⟨ty, l0⟩ := x
      simp only
      rw [gm_put]
      refine (putM_get st.m c b _).trans ?_
      by_cases hb : b = c
      · subst hb; rw [if_pos rfl, if_pos rfl, h]; rfl
      · rw [if_neg hb, if_neg hb]; rfl
    | none =>
      simp only
      rw [gm_put]
      by_cases hb : b = c
      · subst hb; rw [if_pos rfl, h]; rfl
      · rw [if_neg hb]
structure Ext (w w' : World) (T T' : Nat → Prop) (r r' : Nat → Option Nat) : Prop where
  heap : ∀ b x, ¬ T b → w.heap[b]? = some x → w'.heap[b]? = some x
  set : ∀ b x, T' b → w.heap[b]? = some x → T b
  rho : ∀ i b, r i = some b → r' i = some b
theorem cell_heap {w w' : World} {b o : Nat} {v : Value} (h : w.cell? ⟨b, o, none⟩ = some v) : ∃ x, w.heap[b]? = some x ∧ (w'.heap[b]? = some x → w'.cell? ⟨b, o, none⟩ = some v) := by
  unfold World.cell? at h
  cases hx : w.heap[b]? with
  | none => rw [hx] at h; cases h
  | some x =>
    refine ⟨x, rfl, fun h' => ?_⟩
    unfold World.cell?
    rw [hx] at h
    rw [h']
    exact h
section
variable {w w' : World} {T T' : Nat → Prop} {r r' : Nat → Option Nat}
theorem SlR.ext (x : Ext w w' T T' r r') {k : IntKind} {A : Option Addr} {l : List Int} (h : SlR w T k A l) : SlR w' T' k A l := by
  rcases h with h | ⟨b, o, rfl, ht, hc⟩
  · exact .inl h
  · cases l with
    | nil => exact .inl rfl
    | cons d l =>
      obtain ⟨y, hy, _⟩ := cell_heap (w' := w') (hc 0 d rfl)
      refine .inr ⟨b, o, rfl, ⟨fun h' => ht.1 (x.set b y h' hy), ht.2⟩, fun j e hj => ?_⟩
      obtain ⟨z, hz, k⟩ := cell_heap (w' := w') (hc j e hj)
      exact k (x.heap b z ht.1 hz)
theorem RepI.ext (x : Ext w w' T T' r r') {c : IC} {v : Value} (h : RepI w T c v) : RepI w' T' c v := by
  cases c with
  | i k n => exact h
  | b y => exact h
  | sl k l => obtain ⟨A, c, h1, h2, h3⟩ := h; exact ⟨A, c, h1, h2, h3.ext x⟩
theorem RepC.ext (x : Ext w w' T T' r r') {c : SC} {v : Value} (h : RepC w T r c v) : RepC w' T' r' c v := by
  cases c with
  | i k n => exact h
  | b y => exact h
  | fl k n => exact h
  | sl k l => obtain ⟨A, c, h1, h2, h3⟩ := h; exact ⟨A, c, h1, h2, h3.ext x⟩
  | ep k n =>
    obtain ⟨b, o, h1, h2, h3⟩ := h
    obtain ⟨z, hz, k'⟩ := cell_heap (w' := w') h3
    exact ⟨b, o, h1, fun h' => h2 (x.set b z h' hz), k' (x.heap b z h2 hz)⟩
  | lo i o => obtain ⟨b, h1, h2⟩ := h; exact ⟨b, x.rho _ _ h1, h2⟩
  | ifc t l => obtain ⟨vs, h1, h2⟩ := h; exact ⟨vs, h1, h2.mono fun _ _ => RepI.ext x⟩
  | un => exact h
  | top => trivial
theorem RepP.ext (x : Ext w w' T T' r r') {c : P1} {v : Value} (h : RepP w T r c v) : RepP w' T' r' c v := by
  cases c with
  | s c => exact RepC.ext x h
  | ag l => obtain ⟨vs, h1, h2⟩ := h; exact ⟨vs, h1, h2.mono fun _ _ => RepC.ext x⟩
theorem RepV.ext (x : Ext w w' T T' r r') {c : PV} {v : Value} (h : RepV w T r c v) : RepV w' T' r' c v := by
  cases c with
  | s c => exact RepC.ext x h
  | ag l => obtain ⟨vs, h1, h2⟩ := h; exact ⟨vs, h1, h2.mono fun _ _ => RepC.ext x⟩
  | tu l => obtain ⟨vs, h1, h2⟩ := h; exact ⟨vs, h1, h2.mono fun _ _ => RepP.ext x⟩
theorem Ext.refl (w : World) (T : Nat → Prop) (r : Nat → Option Nat) : Ext w w T T r r := ⟨fun _ _ _ h => h, fun _ _ h _ => h, fun _ _ h => h⟩
theorem Ext.less (h : ∀ b, T' b → T b) : Ext w w T T' r r := ⟨fun _ _ _ h => h, fun _ _ h' _ => h _ h', fun _ _ h => h⟩
theorem RepC.clo {r' : Nat → Option Nat} {c : SC} {v : Value} (hc : c.clo = true) (h : RepC w T r c v) : RepC w T r' c v := by
  cases c <;> first | exact h | cases hc
theorem RepP.clo {r' : Nat → Option Nat} {c : P1} {v : Value} (hc : c.clo = true) (h : RepP w T r c v) : RepP w T r' c v := by
  cases c with
  | s c => exact RepC.clo hc h
  | ag l =>
    obtain ⟨vs, h1, h2⟩ := h
    exact ⟨vs, h1, h2.mono' fun a ha b hb => RepC.clo (List.all_eq_true.1 hc a ha) hb⟩
theorem RepV.clo {r' : Nat → Option Nat} {c : PV} {v : Value} (hc : c.clo = true) (h : RepV w T r c v) : RepV w T r' c v := by
  cases c with
  | s c => exact RepC.clo hc h
  | ag l =>
    obtain ⟨vs, h1, h2⟩ := h
    exact ⟨vs, h1, h2.mono' fun a ha b hb => RepC.clo (List.all_eq_true.1 hc a ha) hb⟩
  | tu l =>
    obtain ⟨vs, h1, h2⟩ := h
    exact ⟨vs, h1, h2.mono' fun a ha b hb => RepP.clo (List.all_eq_true.1 hc a ha) hb⟩
end
theorem icsc {w : World} {T : Nat → Prop} {r : Nat → Option Nat} {c : IC} {v : Value} (h : RepI w T c v) : RepC w T r c.sc v := by cases c <;> exact h
theorem toIC_ok {w : World} {T : Nat → Prop} {r : Nat → Option Nat} : ∀ {l : List SC} {m : List IC} {vs : List Value}, toIC l = some m → All2 (RepC w T r) l vs → All2 (RepI w T) m vs
  | [], m, _, h, .nil => by obtain rfl := Option.some.inj h; exact .nil
  | c :: l, m, _, h, .cons h1 h2 => by
    cases c <;> simp only [toIC] at h <;> first
      | (cases h; done)
      | (split at h
         · rename_i m' hm
           obtain rfl := Option.some.inj h
           exact .cons h1 (toIC_ok hm h2)
         · cases h)
theorem repC_ofC (w : World) (T : Nat → Prop) (r : Nat → Option Nat) (v : Value) : RepC w T r (ofC v) v := by
  unfold ofC
  split <;> first | rfl | trivial | exact ⟨none, 0, rfl, Nat.le_refl _, .inl rfl⟩
theorem repV_ofV (w : World) (T : Nat → Prop) (r : Nat → Option Nat) (v : Value) : RepV w T r (ofV v) v := by
  unfold ofV
  split
  · rename_i cs
    refine ⟨cs.toList, by simp, ?_⟩
    have := All2.map (R := RepC w T r) (f := ofC) (g := id) (l := cs.toList) fun x _ => repC_ofC w T r x
    simpa using this
  · exact repC_ofC w T r v
theorem rep_ev {W : World} {S : Nat → Prop} {r : Nat → Option Nat} {st : St} {a : Act} {w : World} (h : Rp W S r st a w) (x : Operand) : RepV w (Sr S r) r (st.ev x) (a.eval x) := by
  cases x with
  | tmp t => exact h.tmp t
  | const v => exact repV_ofV _ _ _ _
  | global g => trivial
  | func f => trivial
theorem rep_cells {w : World} {T : Nat → Prop} {r : Nat → Option Nat} {x : PV} {v : Value} (h : RepV w T r x v) (hf : x.cells.all SC.fit = true) : All2 (RepC w T r) x.cells v.cells.toList := by
  cases x with
  | ag l => obtain ⟨vs, rfl, h2⟩ := h; exact h2
  | tu l => cases hf
  | s c =>
    cases c with
    | i k n => obtain rfl := h; exact .cons rfl .nil
    | b y => obtain rfl := h; exact .cons rfl .nil
    | fl k n => obtain rfl := h; exact .cons rfl .nil
    | sl k l => obtain ⟨A, c, rfl, h2⟩ := h; exact .cons ⟨A, c, rfl, h2⟩ .nil
    | ep k n => obtain ⟨b, o, rfl, h2⟩ := h; exact .cons ⟨b, o, rfl, h2⟩ .nil
    | lo i o => obtain ⟨b, h1, rfl⟩ := h; exact .cons ⟨b, h1, rfl⟩ .nil
    | ifc t l => obtain ⟨vs, rfl, h2⟩ := h; exact .cons ⟨vs, rfl, h2⟩ .nil
    | un => cases hf
    | top => cases hf
end Go.Proofs.YtelfmddcjlocpaaGreatDoor.Px
