/- Px, tenth part: what the run with oracles says holds of the machine. No condition. -/
import Derived.Test.YtelfmddcjlocpaaGreatDoorKRoundQuotedPxI
set_option linter.unusedVariables false
set_option linter.unusedSimpArgs false
namespace Go.Proofs.YtelfmddcjlocpaaGreatDoor.Px
open Go Go.RowKit Go.Proofs.YtelfmddcjlocpaaGreatDoorW.PrintWords Go.Proofs.YtelfmddcjlocpaaGreatDoorW.PrintMore
section
variable {P : Program} {W : World} {S : Nat → Prop} {r : Nat → Option Nat} {st st2 : St} {a : Act} {w w' : World} {ops : Array Oper} {G : World → Prop} {f : FuncId} {R : PV → Prop}
theorem posOf_ok (x : Nat) : ∀ (l : List Nat) (i j : Nat), posOf x l i = some j → i ≤ j ∧ l[j - i]? = some x
 | [], i, j, h => by cases h
 | y :: l, i, j, h => by
  unfold posOf at h
  cases hb : Nat.beq y x with
  | true =>
   rw [hb] at h
   obtain rfl := Option.some.inj h
   obtain rfl := Nat.eq_of_beq_eq_true hb
   exact ⟨Nat.le_refl _, by simp⟩
  | false =>
   rw [hb] at h
   obtain ⟨h1, h2⟩ := posOf_ok x l (i + 1) j h
   refine ⟨by omega, ?_⟩
   rw [show j - i = (j - (i + 1)) + 1 by omega]
   simpa using h2
theorem nodup_ok : ∀ (l : List Nat) (i j x : Nat), nodupB l = true → l[i]? = some x → l[j]? = some x → i = j
 | [], i, _, _, _, h, _ => by simp at h
 | y :: l, i, j, x, hn, hi, hj => by
  unfold nodupB at hn
  rw [Bool.and_eq_true] at hn
  have hno : ∀ k : Nat, l[k]? = some y → False := fun k hk => by
   have := List.mem_of_getElem? hk
   simp [this] at hn
  cases i with
  | zero =>
   obtain rfl : y = x := by simpa using hi
   cases j with
   | zero => rfl
   | succ j => exact (hno j (by simpa using hj)).elim
  | succ i =>
   cases j with
   | zero =>
    obtain rfl : y = x := by simpa using hj
    exact (hno i (by simpa using hi)).elim
   | succ j => rw [nodup_ok l i j x hn.2 (by simpa using hi) (by simpa using hj)]
def renR (r : Nat → Option Nat) (bs : List Nat) (j : Nat) : Option Nat := (bs[j]?).bind r
theorem renR_some {bs : List Nat} {j b : Nat} (h : renR r bs j = some b) : ∃ i, bs[j]? = some i ∧ r i = some b := by
 unfold renR at h
 cases hb : bs[j]? with
 | none => rw [hb] at h; cases h
 | some i => rw [hb] at h; exact ⟨i, rfl, h⟩
theorem ren_sub {bs : List Nat} : ∀ b, Sr S (renR r bs) b → Sr S r b := by
 intro b h
 rcases h with h | ⟨j, h⟩
 ·exact .inl h
 ·obtain ⟨i, _, hi⟩ := renR_some h
  exact .inr ⟨i, hi⟩
theorem ren_rep {bs : List Nat} {c : SC} {v : Value} (h : RepC w (Sr S r) r c v) : RepC w (Sr S (renR r bs)) (renR r bs) (c.ren bs) v := by
 cases c with
 | sl k l =>
  obtain ⟨A, c, h1, h2, h3⟩ := h
  refine ⟨A, c, h1, h2, ?_⟩
  rcases h3 with h3 | ⟨b, o, h4, h5, h6⟩
  ·exact .inl h3
  ·exact .inr ⟨b, o, h4, ⟨fun h => h5.1 (ren_sub b h), h5.2⟩, h6⟩
 | ep k n =>
  obtain ⟨b, o, h1, h2, h3⟩ := h
  exact ⟨b, o, h1, fun h => h2 (ren_sub b h), h3⟩
 | lo i o =>
  obtain ⟨b, h1, h2⟩ := h
  simp only [SC.ren]
  split
  ·rename_i j hj
   obtain ⟨_, hp⟩ := posOf_ok i bs 0 j hj
   refine ⟨b, ?_, h2⟩
   unfold renR
   rw [Nat.sub_zero] at hp
   rw [hp]; exact h1
  ·trivial
 | ifc t l =>
  obtain ⟨vs, h1, h2⟩ := h
  exact ⟨vs, h1, h2.mono fun _ _ => RepI.ext (r := r) (r' := r) (Ext.less fun b h => ren_sub b h)⟩
 | _ => exact h
theorem renP_rep {bs : List Nat} {c : P1} {v : Value} (h : RepP w (Sr S r) r c v) : RepP w (Sr S (renR r bs)) (renR r bs) (c.ren bs) v := by
 cases c with
 | s c => exact ren_rep h
 | ag l =>
  obtain ⟨vs, h1, h2⟩ := h
  exact ⟨vs, h1, h2.map_l fun _ _ _ => ren_rep⟩
theorem renV_rep {bs : List Nat} {c : PV} {v : Value} (h : RepV w (Sr S r) r c v) : RepV w (Sr S (renR r bs)) (renR r bs) (c.ren bs) v := by
 cases c with
 | s c => exact ren_rep h
 | ag l =>
  obtain ⟨vs, h1, h2⟩ := h
  exact ⟨vs, h1, h2.map_l fun _ _ _ => ren_rep⟩
 | tu l =>
  obtain ⟨vs, h1, h2⟩ := h
  exact ⟨vs, h1, h2.map_l fun _ _ _ => renP_rep⟩
theorem keepT_len (ks bs : List Nat) : ∀ (l : List PV) (i : Nat), (keepT ks bs l i).length = l.length
 | [], _ => rfl
 | x :: l, i => by simp [keepT, keepT_len ks bs l (i + 1)]
theorem keepT_get (ks bs : List Nat) : ∀ (l : List PV) (i j : Nat), (keepT ks bs l i)[j]? = (l[j]?).map fun v => bif ks.contains (i + j) then v.ren bs else .s .top
 | [], _, j => by simp [keepT]
 | x :: l, i, 0 => by simp [keepT]
 | x :: l, i, j + 1 => by
  simp only [keepT, List.getElem?_cons_succ]
  rw [keepT_get ks bs l (i + 1) j, show i + 1 + j = i + (j + 1) by omega]
theorem forget_rep {T : Nat → Prop} {r : Nat → Option Nat} {fs : List (Nat × Nat)} {j : Nat} : ∀ {i : Nat} {l : List SC} {vs : List Value}, All2 (RepC w T r) l vs → All2 (RepC w T r) (forgetC fs j i l) vs
 | _, _, _, .nil => .nil
 | i, c :: l, v :: vs, .cons h t => by
  unfold forgetC
  refine .cons ?_ (forget_rep t)
  cases fs.any (fun p => Nat.beq p.1 j && Nat.beq p.2 i)
  ·exact h
  ·trivial
theorem cutM_get (st : St) (bs : List Nat) (fs : List (Nat × Nat)) : ∀ (l : List Nat) (i j : Nat), (cutM st bs fs l i)[j]? = (l[j]?).map fun b => (st.gm b).map fun x => (x.1, forgetC fs (i + j) 0 (x.2.map (SC.ren bs)))
 | [], _, j => by simp [cutM]
 | x :: l, i, 0 => by simp [cutM]
 | x :: l, i, j + 1 => by
  simp only [cutM, List.getElem?_cons_succ]
  rw [cutM_get st bs fs l (i + 1) j, show i + 1 + j = i + (j + 1) by omega]
theorem Rp.cut (h : Rp W S r st a w) {ks bs : List Nat} {fs : List (Nat × Nat)} (hn : nodupB bs = true) : Rp W S (renR r bs) (st.cut ks bs fs) a w := by
 have hgm : ∀ j, (st.cut ks bs fs).gm j = (bs[j]?).bind fun b => (st.gm b).map fun x => (x.1, forgetC fs j 0 (x.2.map (SC.ren bs))) := by
  intro j
  unfold St.gm St.cut
  simp only [List.getD_eq_getElem?_getD, cutM_get, Nat.zero_add]
  cases bs[j]? <;> rfl
 refine ⟨h.defers, h.below, ?_, ?_, ?_, ?_, ?_⟩
 ·intro i j b hi hj
  obtain ⟨i', h1, h2⟩ := renR_some hi
  obtain ⟨j', h3, h4⟩ := renR_some hj
  have e := h.inj i' j' b h2 h4
  subst e
  exact nodup_ok bs i j i' hn h1 h3
 ·intro j b hj
  obtain ⟨i, h1, h2⟩ := renR_some hj
  obtain ⟨h3, ty, l, vs, h4, h5, h6⟩ := h.dom i b h2
  exact ⟨h3, ty, forgetC fs j 0 (l.map (SC.ren bs)), vs, by rw [hgm, h1]; simp [h4], h5, forget_rep (h6.map_l fun _ _ _ => ren_rep)⟩
 ·intro j x hj
  rw [hgm] at hj
  cases hb : bs[j]? with
  | none => rw [hb] at hj; cases hj
  | some i =>
   rw [hb] at hj
   cases hg : st.gm i with
   | none => simp [hg] at hj
   | some y =>
    obtain ⟨b, hr⟩ := h.mem i y hg
    refine ⟨b, ?_⟩
    unfold renR
    rw [hb]; exact hr
 ·show _ = (keepT ks bs st.t 0).length
  rw [keepT_len]; exact h.size
 ·intro i
  have hi := h.tmp i
  unfold St.gt St.cut
  simp only [List.getD_eq_getElem?_getD, keepT_get, Nat.zero_add]
  unfold St.gt at hi
  rw [List.getD_eq_getElem?_getD] at hi
  cases hq : st.t[i]? with
  | none =>
   rw [hq] at hi
   exact hi
  | some v =>
   rw [hq] at hi
   simp only [Option.map_some, Option.getD_some]
   cases ks.contains i
   ·trivial
   ·exact renV_rep hi
theorem loadAt_as {t : TypeId} {v u : Value} (h : (Instr.loadAt t v).run P w = .ok u w) : (do loadVar t (← asAddr v) : Sem Value).run P w = .ok u w := by
 unfold Instr.loadAt at h
 cases v with
 | pointer p =>
  cases p with
  | none => simp [Instr.sureAddr] at h
  | some p => simpa [Instr.sureAddr, asAddr] using h
 | _ => simp [Instr.sureAddr] at h
def resSem (tmps : Array Value) : ResultVar → Sem Value
 | .tmp t => pure (tmps.getD t undef)
 | .cell p t => do loadVar t (← asAddr (tmps.getD p undef))
theorem res_all (h : Rp W S r st a w) : ∀ (l : List ResultVar) (xs : List PV), resAll P st l = some xs → ∃ vs : List Value, All2 (RepV w (Sr S r) r) xs vs ∧
  (l.mapM (resSem a.tmps)).run P w = .ok vs w
 | [], xs, he => by
  obtain rfl := Option.some.inj he
  exact ⟨[], .nil, by simp⟩
 | x :: l, xs, he => by
  simp only [resAll] at he
  split at he
  ·rename_i v vs h1 h2
   obtain rfl := Option.some.inj he
   obtain ⟨us, g1, g2⟩ := res_all h l vs h2
   have hx : ∃ u, RepV w (Sr S r) r v u ∧ (resSem a.tmps x).run P w = .ok u w := by
    cases x with
    | tmp t =>
     obtain rfl := Option.some.inj h1
     exact ⟨_, h.tmp t, rfl⟩
    | cell p t =>
     simp only [resOf] at h1
     split at h1
     ·rename_i y hy
      obtain rfl := Option.some.inj h1
      obtain ⟨y', u, e1, e2, e3⟩ := eff_load h (h.tmp p) hy
      obtain rfl : y = y' := by injection e1
      exact ⟨u, e3, loadAt_as e2⟩
     ·cases h1
   obtain ⟨u, k1, k2⟩ := hx
   refine ⟨u :: us, .cons k1 g1, ?_⟩
   rw [List.mapM_cons]
   simp only [Sem.run_bind]
   rw [k2]
   simp only [Result.andThen_ok]
   rw [g2]
   rfl
  ·cases he
theorem one_rep {T : Nat → Prop} {x : PV} {v : Value} (h : RepV w T r x v) : RepP w T r x.one v := by
 cases x with
 | s c => exact h
 | ag l => exact h
 | tu l => trivial
theorem res_v (h : Rp W S r st a w) {fn : Func} {v : PV} (hv : resV P st fn.results.toList = some v) : ∃ u, RepV w (Sr S r) r v u ∧ (results fn a.tmps).run P w = .ok u w := by
 unfold resV at hv
 cases hx : resAll P st fn.results.toList with
 | none => rw [hx] at hv; cases hv
 | some xs =>
 rw [hx] at hv
 obtain ⟨vs, h1, h2⟩ := res_all h _ xs hx
 have hm : (fn.results.mapM (resSem a.tmps)).run P w = .ok vs.toArray w := by
  obtain ⟨l, hl⟩ : ∃ l, fn.results = List.toArray l := ⟨fn.results.toList, by simp⟩
  rw [hl] at h2 ⊢
  rw [List.mapM_toArray, Sem.run_map, h2]
  rfl
 have hres : (results fn a.tmps).run P w = .ok (if h : vs.toArray.size = 1 then vs.toArray[0] else .tuple vs.toArray) w := by
  show (do let vs ← fn.results.mapM (resSem a.tmps); pure (if h : vs.size = 1 then vs[0] else .tuple vs) : Sem Value).run P w = _
  rw [Sem.run_bind, hm]
  rfl
 cases xs with
 | nil =>
  cases h1
  obtain rfl := Option.some.inj hv
  exact ⟨_, ⟨[], rfl, .nil⟩, hres⟩
 | cons x xs =>
  cases xs with
  | nil =>
   cases h1 with
   | cons g1 g2 =>
   cases g2
   obtain rfl := Option.some.inj hv
   exact ⟨_, g1, hres⟩
  | cons y ys =>
   obtain rfl := Option.some.inj hv
   have hlen := h1.len
   refine ⟨.tuple vs.toArray, ⟨vs, rfl, h1.map_l fun _ _ _ => one_rep⟩, ?_⟩
   rw [hres, dif_neg]
   simp only [List.size_toArray]
   simp at hlen
   omega
theorem fin_step {todo todo2 : List Item} (hs : ∀ (a : Act) (w : World) (cs : List Frame), step P (lone ((fb f).at a todo) cs w) = .next (lone ((fb f).at a todo2) cs w)) (h : Fin P G f todo2 st R) : Fin P G f todo st R := by
 intro W S r a w gW hS hr cs
 obtain ⟨v, w', fr, x, h1, h2⟩ := h W S r a w gW hS hr cs
 exact ⟨v, w', fr, x, .head (hs a w cs) h1, h2⟩
theorem fin_ret {fn : Func} (hf : P.funcs[f]? = some fn) {todo : List Item} (hs : ∀ (a : Act) (w : World) (cs : List Frame), step P (lone ((fb f).at a todo) cs w) = .next (lone { (fb f).at a todo with mode := .returning } cs w))
  {v : PV} (hv : resV P st fn.results.toList = some v) (hc : v.clo = true) (hR : R v) : Fin P G f todo st R := by
 intro W S r a w gW hS hr cs
 obtain ⟨u, h1, h2⟩ := res_v hr hv
 refine ⟨u, w, _, v, .one (hs a w cs), rfl, ⟨rfl, hr.defers, rfl, fn, hf, h2⟩, hR, ?_, hr.below⟩
 exact RepV.clo hc (RepV.ext (T' := S) (r' := r) (Ext.less fun b h => .inl h) h1)
theorem fin_region (hm : P.follows .mixedOrders = true) (hG : ∀ w w', G w → Below w.heap.size w w' → G w') {id : Nat} {draw : Bool} {k : List Item} {an an' : List Ans} {ens : List En} {st' : St} {ps : List Prop}
  (he : runOps P G ops ops.toList st an = some (ens, st', ps, an')) (hp : allP ps) (hd : (!draw || okDraw ops ens) = true) (h : Fin P G f k st' R) : Fin P G f (.code (.region id ops draw) :: k) st R := by
 intro W S r a w gW hS hr cs
 have key : (Code.region id ops draw).wp P (fun e a' w' => e = .normal ∧ Rps W S st' a' w') a w := by
  cases draw with
  | false =>
   refine wp_region ?_
   have := ops_sound hG gW hS ops.toList 0 r st a w an an' ens st' ps (fun j o hj => by rw [Nat.zero_add]; simpa using hj) he hp hr
   rwa [List.range_eq_range', show ops.size = ops.toList.length by simp]
  | true =>
   refine wp_region_any hm ?_
   have hd' : okDraw ops ens = true := by simpa using hd
   have hs0 : stF (Dn (Array.replicate ops.size false)) ens st = st := stF_none _ _ _ fun j => by
    unfold Dn
    rw [Array.getD_eq_getD_getElem?]
    by_cases c : j < ops.size
    ·simp [c]
    ·simp [c]
   refine draw_any hG gW hS he hp hd' ops.size _ r a _ (by simp) (by rw [Array.toList_replicate, cnt_rep]; exact Nat.le_refl _) (fun i o _ hdi => ?_) ?_
   ·exfalso
    unfold Dn at hdi
    rw [Array.getD_eq_getD_getElem?] at hdi
    by_cases c : i < ops.size
    ·simp [c] at hdi
    ·simp [c] at hdi
   ·rw [hs0]
    exact hr.grow ⟨rfl, rfl, rfl, Nat.le_refl _, fun _ _ => rfl⟩
 obtain ⟨e, a', w', ⟨rfl, r', hr'⟩, harr⟩ := key (fb f) k cs
 obtain ⟨v, w2, fr, x, h1, h2⟩ := h W S r' a' w' gW hS hr' cs
 exact ⟨v, w2, fr, x, Steps.trans harr h1, h2⟩
theorem go_sound (hm : P.follows .mixedOrders = true) (hG : ∀ w w', G w → Below w.heap.size w w' → G w') {fn : Func} (hf : P.funcs[f]? = some fn) : ∀ (n : Nat) (todo : List Item) (st : St) (an : List Ans), go P G f fn.results.toList R n todo st an → Fin P G f todo st R
 | 0, _, _, _, h => h.elim
 | n + 1, todo, st, an, h => by
  have ih := go_sound hm hG hf n
  unfold go at h
  split at h
  ·rename_i t ks bs fs hcut
   split at h
   ·rename_i hnd
    have hF : Fin P G f t st R := fun W S r a w gW hS hr cs => h W S (renR r bs) a w gW hS (hr.cut hnd) cs
    unfold cutAt at hcut
    split at hcut
    ·split at hcut
     ·rename_i t' hpl
      obtain ⟨rfl, _, _⟩ : t' = t ∧ _ ∧ _ := by simpa using hcut
      unfold place at hpl
      split at hpl
      ·obtain rfl := Option.some.inj hpl; exact hF
      ·obtain rfl := Option.some.inj hpl; exact hF
      ·obtain rfl := Option.some.inj hpl; exact fin_step (fun a w cs => step_loop) hF
      ·obtain rfl := Option.some.inj hpl; exact fin_step (fun a w cs => step_inLoop) hF
      ·cases hpl
     ·cases hcut
    ·cases hcut
   ·exact h.elim
  ·have hret : ∀ (hs : ∀ (a : Act) (w : World) (cs : List Frame), step P (lone ((fb f).at a todo) cs w) = .next (lone { (fb f).at a todo with mode := .returning } cs w)),
     (match resV P st fn.results.toList with
      | some v => (match v.clo with | true => R v | false => False : Prop)
      | none => False) → Fin P G f todo st R := by
    intro hs h
    split at h
    ·rename_i v hv
     split at h
     ·rename_i hc
      exact fin_ret hf hs hv hc h
     ·exact h.elim
    ·exact h.elim
   dsimp only at h
   split at h
   ·exact hret (fun a w cs => step_end) h
   ·exact hret (fun a w cs => step_ret) h
   ·exact fin_step (fun a w cs => step_skip) (ih _ _ _ h)
   ·exact fin_step (fun a w cs => step_label) (ih _ _ _ h)
   ·exact fin_step (fun a w cs => step_inBlock) (ih _ _ _ h)
   ·exact fin_step (fun a w cs => step_seq) (ih _ _ _ h)
   ·rename_i c x y k hq
    split at h
    ·rename_i t b an' hc hne
     obtain ⟨rfl, h⟩ := h
     intro W S r a w gW hS hr cs
     have hv := rep_ev hr c
     rw [hc] at hv
     have hv : a.eval c = .bool t := hv
     have hif : (if t = true then x else y) = (bif t then x else y) := by cases t <;> rfl
     obtain ⟨v, w', fr, z, h1, h2⟩ := ih _ _ _ h W S r a w gW hS hr cs
     refine ⟨v, w', fr, z, .head (step_cond hv) ?_, h2⟩
     rw [hif]; exact h1
    ·exact h.elim
   ·exact fin_step (fun a w cs => step_block) (ih _ _ _ h)
   ·exact fin_step (fun a w cs => step_loop) (ih _ _ _ h)
   ·exact fin_step (fun a w cs => step_inLoop) (ih _ _ _ h)
   ·split at h
    ·rename_i k' hk
     exact fin_step (fun a w cs => step_exit hk) (ih _ _ _ h)
    ·exact h.elim
   ·split at h
    ·rename_i ens st' ps an' he
     split at h
     ·rename_i hd
      obtain ⟨hp, h⟩ := conj_iff.1 h
      exact fin_region hm hG he hp hd (ih _ _ _ h)
     ·exact h.elim
    ·exact h.elim
   ·exact h.elim
theorem all2_getD {vs : List Value} {args : List PV} (h : All2 (RepV w (Sr S none') none') args vs) (n i : Nat) : RepV w (Sr S none') none' ((args ++ List.replicate (n - args.length) (PV.s .un)).getD i (PV.s .un)) ((vs.toArray ++ Array.replicate (n - vs.toArray.size) undef).getD i undef) := by
 have hl := h.len
 rw [List.getD_eq_getElem?_getD, Array.getD_eq_getD_getElem?]
 by_cases c : i < args.length
 ·obtain ⟨u, h1, h2⟩ := h.get (List.getElem?_eq_getElem c)
  rw [List.getElem?_append_left c, List.getElem?_eq_getElem c, Array.getElem?_append_left (by simp; omega)]
  simp only [List.getElem?_toArray, h1, Option.getD_some]
  exact h2
 ·rw [List.getElem?_append_right (by omega), Array.getElem?_append_right (by simp; omega)]
  simp only [List.getElem?_replicate, Array.getElem?_replicate, List.size_toArray, hl]
  split
  ·exact rfl
  ·exact rfl
theorem con_of (hm : P.follows .mixedOrders = true) (hG : ∀ w w', G w → Below w.heap.size w w' → G w') {fn : Func} (hf : P.funcs[f]? = some fn) (hn : (fn.name == "runtime.NumGoroutine") = false) (hb : fn.body.isNone = false) {args : List PV}
  (h : Fin P G f [.code (bodyOf fn)] (st0 args fn.ntmps) R) : Con P G f args R := by
 refine ⟨⟨fn, hf, hn, hb⟩, fun w S vs gw hS hv cs => ?_⟩
 obtain ⟨c, hc⟩ : ∃ c, fn.body = some c := by
  cases hbd : fn.body with
  | none => rw [hbd] at hb; cases hb
  | some c => exact ⟨c, rfl⟩
 have hbo : bodyOf fn = c := by unfold bodyOf; rw [hc]
 have hsr : ∀ b, Sr S none' b → S b := fun b h => by
  rcases h with h | ⟨i, h⟩
  ·exact h
  ·cases h
 have hv' : All2 (RepV w (Sr S none') none') args vs := hv.mono fun x y h => RepV.ext (Ext.less hsr) h
 have henter : Frame.enter P f vs.toArray .normal = (fb f).at { tmps := vs.toArray ++ Array.replicate (fn.ntmps - vs.toArray.size) undef, defers := [] } [.code c] := by
  simp [Frame.enter, Frame.at, hf, hc, fb]
 have hr : Rp w S none' (st0 args fn.ntmps) { tmps := vs.toArray ++ Array.replicate (fn.ntmps - vs.toArray.size) undef, defers := [] } w := by
  refine ⟨rfl, Below.refl _ _, (fun i j b h => by cases h), (fun i b h => by cases h), fun i x h => ?_, ?_, fun i => all2_getD hv' _ i⟩
  ·simp [St.gm, st0] at h
  ·simp [st0, hv.len]
 rw [hbo] at h
 obtain ⟨v, w', fr, x, h1, h2, h3, h4, h5, h6⟩ := h w S none' _ w gw hS hr cs
 rw [← henter] at h1
 exact ⟨.returned v, w', fr, ⟨v, x, rfl, h4, h5, h6⟩, h1, h2, h3⟩
end
end Go.Proofs.YtelfmddcjlocpaaGreatDoor.Px
