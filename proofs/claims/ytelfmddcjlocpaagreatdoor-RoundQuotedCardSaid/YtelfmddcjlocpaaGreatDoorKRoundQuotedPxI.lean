/- Px, ninth part: regions that draw their order. No condition. -/
import Derived.Test.YtelfmddcjlocpaaGreatDoorKRoundQuotedPxH
set_option linter.unusedVariables false
set_option linter.unusedSimpArgs false
namespace Go.Proofs.YtelfmddcjlocpaaGreatDoor.Px
open Go Go.RowKit Go.Proofs.YtelfmddcjlocpaaGreatDoorW.PrintWords Go.Proofs.YtelfmddcjlocpaaGreatDoorW.PrintMore
section
variable {P : Program} {W : World} {S : Nat → Prop} {r : Nat → Option Nat} {st st2 : St} {a : Act} {w w' : World} {ops : Array Oper} {G : World → Prop}
theorem ev_congr {x : Operand} (h : ∀ t ∈ tmpsOf [x], st.gt t = st2.gt t) : st.ev x = st2.ev x := by
 cases x with
 | tmp t => exact h t (by simp [tmpsOf])
 | _ => rfl
theorem tmpsOf_mem {l : List Operand} {x : Operand} (h : x ∈ l) : ∀ t ∈ tmpsOf [x], t ∈ tmpsOf l := by
 intro t ht
 cases x with
 | tmp u =>
  have : t = u := by simpa [tmpsOf] using ht
  subst this
  exact List.mem_filterMap.2 ⟨_, h, rfl⟩
 | _ => simp [tmpsOf] at ht
theorem load_congr {ty : TypeId} {x : PV} (h : ∀ b ∈ x.blk, st.gm b = st2.gm b) : effLoad P st ty x = effLoad P st2 ty x := by
 unfold effLoad
 cases x with
 | s c =>
  cases c with
  | lo b off =>
   have e := h b (List.mem_singleton.2 rfl)
   simp only [e]
  | _ => rfl
 | _ => rfl
theorem store_congr {ty : TypeId} {x y : PV} (h : ∀ b ∈ x.blk, st.gm b = st2.gm b) : effStore P st ty x y = effStore P st2 ty x y := by
 unfold effStore
 cases x with
 | s c =>
  cases c with
  | lo b off =>
   have e := h b (List.mem_singleton.2 rfl)
   simp only [e]
  | _ => rfl
 | _ => rfl
theorem evc_congr {x : Operand} {an : List Ans} (h : st.ev x = st2.ev x) : st.evc x an = st2.evc x an := by unfold St.evc; rw [h]
theorem eff_congr {op : Op} {fr : Nat} {an : List Ans} (ht : ∀ x ∈ op.operands.toList, st.ev x = st2.ev x) (hb : ∀ b ∈ opBlk st op, st.gm b = st2.gm b) : eff P G op fr st an = eff P G op fr st2 an := by
 cases op
 case move x => simp only [eff, ht x (by simp [Op.operands])]
 case assign x => simp only [eff, ht x (by simp [Op.operands])]
 case pick c x y => simp only [eff, ht c (by simp [Op.operands]), ht x (by simp [Op.operands]), ht y (by simp [Op.operands])]
 case alloc ty => rfl
 case box ty x => simp only [eff, ht x (by simp [Op.operands])]
 case build ty ps =>
  have : (ps.toList.map fun p => (p.1, st.ev p.2)) = ps.toList.map fun p => (p.1, st2.ev p.2) := List.map_congr_left fun p hp => by
   rw [ht p.2 (by simp only [Op.operands, List.mem_map]; exact ⟨p, hp, rfl⟩)]
  simp only [eff, this]
 case buildSlice ty n ps =>
  have : (ps.toList.map fun p => (p.1, st.ev p.2)) = ps.toList.map fun p => (p.1, st2.ev p.2) := List.map_congr_left fun p hp => by
   rw [ht p.2 (by simp only [Op.operands, List.mem_map]; exact ⟨p, hp, rfl⟩)]
  simp only [eff, this]
 case load ty x =>
  have e := ht x (by simp [Op.operands])
  simp only [eff, load_congr (P := P) (st := st) (st2 := st2) (ty := ty) (x := st.ev x) hb]
  rw [e]
 case store ty x y =>
  have e := ht x (by simp [Op.operands])
  have e2 := ht y (by simp [Op.operands])
  simp only [eff, store_congr (P := P) (st := st) (st2 := st2) (ty := ty) (x := st.ev x) hb]
  rw [e, e2]
 case nilCheck x => simp only [eff, ht x (by simp [Op.operands])]
 case binOp op ty x y yt => simp only [eff, ht x (by simp [Op.operands]), ht y (by simp [Op.operands])]
 case unOp op ty x => simp only [eff, ht x (by simp [Op.operands])]
 case convert s d x => simp only [eff, ht x (by simp [Op.operands])]
 case fieldAddr ty x f => simp only [eff, ht x (by simp [Op.operands])]
 case field ty x f => simp only [eff, ht x (by simp [Op.operands])]
 case indexAddr ty x ix => simp only [eff, ht x (by simp [Op.operands]), ht ix (by simp [Op.operands])]
 case extract x i => simp only [eff, ht x (by simp [Op.operands])]
 case call c =>
  have : c.args.toList.map st.ev = c.args.toList.map st2.ev := List.map_congr_left fun x hx => ht x (by
   simp only [Op.operands, Call.operands, Array.toList_append]
   exact List.mem_append.2 (.inr hx))
  cases hcal : c.callee with
  | invoke x name =>
   have hx := ht x (by simp only [Op.operands, Call.operands, hcal]; simp)
   simp only [eff, hcal, this, evc_congr hx]
  | value x => simp only [eff, hcal, this]; cases x <;> rfl
  | builtin x => simp only [eff, hcal, this]; cases x <;> rfl
 case makeInterface ty x => simp only [eff, ht x (by simp [Op.operands])]
 case typeAssert x xt t ok => simp only [eff, evc_congr (ht x (by simp [Op.operands]))]
 all_goals rfl
theorem run1_congr {o : Oper} {fr : Nat} {e : E} {an : List Ans} (ht : ∀ t ∈ (enOf ops o fr st e).rt, st.gt t = st2.gt t) (hb : ∀ b ∈ (enOf ops o fr st e).rb, st.gm b = st2.gm b) : run1 P G ops o fr st an = run1 P G ops o fr st2 an := by
 have h1 : ∀ an, eff P G o.op fr st an = eff P G o.op fr st2 an := fun an => eff_congr (fun x hx => ev_congr fun t h => ht t (List.mem_append.2 (.inl (tmpsOf_mem hx t h)))) (fun b h => hb b (List.mem_append.2 (.inl h)))
 unfold run1
 cases hg : o.guard with
 | none => exact h1 an
 | some jw =>
  obtain ⟨j, want⟩ := jw
  dsimp only
  cases hd : (ops[j]?).bind (·.dst) with
  | none => rfl
  | some d =>
   dsimp only
   have e : st.gt d = st2.gt d := ht d (List.mem_append.2 (.inr (by rw [hg]; dsimp only; rw [hd]; exact List.mem_singleton.2 rfl)))
   rw [e]
   simp only [h1]
theorem runOps_spec : ∀ (os : List Oper) (st st' : St) (an an' : List Ans) (ens : List En) (ps : List Prop), runOps P G ops os st an = some (ens, st', ps, an') → allP ps →
  ens.length = os.length ∧ st' = stF (fun _ => true) ens st ∧ ∀ i o, os[i]? = some o → ∃ fr e ani psi ani', run1 P G ops o fr (stF (fun j => Nat.blt j i) ens st) ani = some (e, psi, ani') ∧ allP psi ∧ (stF (fun j => Nat.blt j i) ens st).gm fr = none ∧ ens[i]? = some (enOf ops o fr (stF (fun j => Nat.blt j i) ens st) e)
 | [], st, st', an, an', ens, ps, he, _ => by
  simp only [runOps, Option.some.injEq, Prod.mk.injEq] at he
  obtain ⟨rfl, rfl, _, _⟩ := he
  exact ⟨rfl, rfl, fun i o h => by simp at h⟩
 | o :: os, st, st', an, an', ens, ps, he, hp => by
  simp only [runOps] at he
  split at he
  ·rename_i e ps1 an1 h1
   split at he
   ·rename_i ens2 st2 ps2 an2 h2
    simp only [Option.some.injEq, Prod.mk.injEq] at he
    obtain ⟨rfl, rfl, rfl, _⟩ := he
    rw [allP_append] at hp
    obtain ⟨g1, g2, g3⟩ := runOps_spec os _ _ _ _ _ _ h2 hp.2
    refine ⟨by simp [g1], by rw [g2]; rfl, fun i o' ho => ?_⟩
    cases i with
    | zero =>
     obtain rfl : o = o' := by simpa using ho
     have e0 : stF (fun j => Nat.blt j 0) (enOf ops o st.m.length st e :: ens2) st = st := stF_none _ _ _ fun j => by cases j <;> rfl
     rw [e0]
     exact ⟨_, e, an, ps1, an1, h1, hp.1, gm_len st, rfl⟩
    | succ i =>
     obtain ⟨fr, e', ani, psi, ani', k1, k2, k3, k4⟩ := g3 i o' (by simpa using ho)
     have e0 : stF (fun j => Nat.blt j (i + 1)) (enOf ops o st.m.length st e :: ens2) st = stF (fun j => Nat.blt j i) ens2 (app o.dst e st) := by
      rw [stF]
      rfl
     rw [e0]
     exact ⟨fr, e', ani, psi, ani', k1, k2, k3, by simpa using k4⟩
   ·cases he
  ·cases he
theorem Rp.congr {st st2 : St} (h : Rp W S r st a w) (hl : st2.t.length = st.t.length) (ht : ∀ i, st2.gt i = st.gt i) (hm : ∀ b, st2.gm b = st.gm b) : Rp W S r st2 a w where
 defers := h.defers
 below := h.below
 inj := h.inj
 dom := fun i b hi => by rw [hm]; exact h.dom i b hi
 mem := fun i x hi => h.mem i x (by rwa [hm] at hi)
 size := by rw [hl]; exact h.size
 tmp := fun i => by rw [ht]; exact h.tmp i
theorem blt_no {j i : Nat} (h : ¬ j < i) : Nat.blt j i = false := by
 cases hb : Nat.blt j i with
 | false => rfl
 | true => exact absurd (by rwa [Nat.blt_eq] at hb) h
theorem disj_no {l m : List Nat} (h : disj l m = true) {x : Nat} (hx : x ∈ l) (hy : x ∈ m) : False := by
 unfold disj at h
 rw [List.all_eq_true] at h
 have := h x hx
 simp at this
 exact this hy
theorem pair_of {ms : List Nat} {ens : List En} (h : okPairs ms ens = true) {j i : Nat} (hji : j < i) {x y : En} (hx : ens[j]? = some x) (hy : ens[i]? = some y) : (ms.getD i 0).testBit j = true ∨ indep x y = true := by
 unfold okPairs at h
 rw [List.all_eq_true] at h
 have hi : i < ens.length := (List.getElem?_eq_some_iff.1 hy).1
 have h1 := h i (List.mem_range.2 hi)
 rw [List.all_eq_true] at h1
 have h2 := h1 j (List.mem_range.2 hji)
 rw [hx, hy, Bool.or_eq_true] at h2
 exact h2
theorem ready_mem {l : Array Bool} {i : Nat} (h : i ∈ Region.ready .any ops l) : i < ops.size ∧ l.getD i true = false ∧ ∃ o, ops[i]? = some o ∧ ∀ e ∈ o.after.toList, Region.binds .any e = true → l.getD e.on false = true := by
 unfold Region.ready at h
 obtain ⟨h1, h2⟩ := List.mem_filter.1 h
 have h1 := List.mem_range.1 h1
 rw [Bool.and_eq_true] at h2
 refine ⟨h1, by simpa using h2.1, ops[i], by simp [h1], fun e he hb => ?_⟩
 have h3 := h2.2
 rw [Array.getElem?_eq_getElem h1] at h3
 simp only [Option.map_some, Option.getD_some] at h3
 rw [← Array.all_toList, List.all_eq_true] at h3
 have := h3 e he
 rw [hb] at this
 simpa using this
theorem ready_all (he : okEdges ops.toList = true) {l : Array Bool} (h : Region.ready .any ops l = []) : ∀ i, i < ops.size → l.getD i true = true := by
 intro i
 induction i using Nat.strongRecOn with
 | _ i ih =>
  intro hi
  cases hl : l.getD i true with
  | true => rfl
  | false =>
   exfalso
   have : i ∈ Region.ready .any ops l := by
    unfold Region.ready
    refine List.mem_filter.2 ⟨List.mem_range.2 hi, ?_⟩
    rw [Array.getElem?_eq_getElem hi]
    simp only [hl, Option.map_some, Option.getD_some, Bool.not_false, Bool.true_and]
    rw [← Array.all_toList, List.all_eq_true]
    intro e he'
    unfold okEdges at he
    rw [List.all_eq_true] at he
    have h1 := he i (List.mem_range.2 (by simpa using hi))
    rw [List.getElem?_eq_getElem (by simpa using hi)] at h1
    simp only [Array.getElem_toList] at h1
    rw [← Array.all_toList, List.all_eq_true] at h1
    have h2 := h1 e he'
    cases hb : Region.binds .any e with
    | false => rfl
    | true =>
     rw [hb] at h2
     have h3 : e.on < i := by simpa using h2
     have h4 := ih e.on h3 (by omega)
     simp only [Bool.not_true, Bool.false_or]
     rw [Array.getD_eq_getD_getElem?] at h4 ⊢
     cases hq : l[e.on]? with
     | none =>
      exfalso
      rw [Array.getD_eq_getD_getElem?] at hl
      have h5 : l.size ≤ e.on := Array.getElem?_eq_none_iff.1 hq
      rw [Array.getElem?_eq_none (by omega)] at hl
      cases hl
     | some b => rw [hq] at h4; exact h4
   rw [h] at this
   cases this
def cnt : List Bool → Nat
 | [] => 0
 | b :: t => (bif b then 0 else 1) + cnt t
theorem cnt_set : ∀ (l : List Bool) (i : Nat), l[i]? = some false → cnt (l.set i true) + 1 = cnt l
 | [], i, h => by simp at h
 | b :: t, 0, h => by
  simp at h
  subst h
  simp [cnt]; omega
 | b :: t, i + 1, h => by
  have h2 := cnt_set t i (by simpa using h)
  simp [cnt]; omega
theorem cnt_zero : ∀ (l : List Bool) (i : Nat), cnt l = 0 → l.getD i true = true
 | [], i, _ => rfl
 | b :: t, 0, h => by
  cases b
  ·simp [cnt] at h
  ·rfl
 | b :: t, i + 1, h => by
  have : cnt t = 0 := by simp [cnt] at h; omega
  have h2 := cnt_zero t i this
  simpa using h2
theorem cnt_rep : ∀ n : Nat, cnt (List.replicate n false) = n
 | 0 => rfl
 | n + 1 => by rw [List.replicate_succ, cnt, cnt_rep n]; simp; omega
def Dn (l : Array Bool) (j : Nat) : Bool := l.getD j false
theorem draw_any (hG : ∀ w w', G w → Below w.heap.size w w' → G w') (gW : G W) (hS : ∀ b, S b → b < W.heap.size) {an an' : List Ans} {ens : List En} {st' : St} {ps : List Prop} (he : runOps P G ops ops.toList st an = some (ens, st', ps, an')) (hp : allP ps)
  (hok : okDraw ops ens = true) : ∀ (fuel : Nat) (l : Array Bool) (r : Nat → Option Nat) (a : Act) (w : World), l.size = ops.size → cnt l.toList ≤ fuel → Cl ops.toList (Dn l) → Rp W S r (stF (Dn l) ens st) a w →
   wpAny P .any ops (fun e a' w' => e = .normal ∧ Rps W S st' a' w') fuel l a w := by
 obtain ⟨s1, s2, s3⟩ := runOps_spec ops.toList st st' an an' ens ps he hp
 unfold okDraw at hok
 rw [Bool.and_eq_true] at hok
 obtain ⟨hok1, hok2⟩ := hok
 have hend : ∀ (l : Array Bool) (r : Nat → Option Nat) (a : Act) (w : World), l.size = ops.size → (∀ i, i < ops.size → l.getD i true = true) → Rp W S r (stF (Dn l) ens st) a w → Rps W S st' a w := by
  intro l r a w hl hall h
  refine ⟨r, h.congr (by rw [s2, stF_len, stF_len]) (fun i => ?_) (fun b => ?_)⟩
  ·rw [s2]
   refine stF_gt _ _ ens st st rfl (fun j x hj _ => ?_) rfl
   have hj' : j < ops.size := by have := (List.getElem?_eq_some_iff.1 hj).1; rw [s1] at this; simpa using this
   have := hall j hj'
   unfold Dn
   rw [Array.getD_eq_getD_getElem?] at this ⊢
   rw [Array.getElem?_eq_getElem (by omega)] at this ⊢
   exact this.symm
  ·rw [s2]
   refine stF_gm _ _ ens st st (fun j x hj _ => ?_) rfl
   have hj' : j < ops.size := by have := (List.getElem?_eq_some_iff.1 hj).1; rw [s1] at this; simpa using this
   have := hall j hj'
   unfold Dn
   rw [Array.getD_eq_getD_getElem?] at this ⊢
   rw [Array.getElem?_eq_getElem (by omega)] at this ⊢
   exact this.symm
 intro fuel
 induction fuel with
 | zero =>
  intro l r a w hl hc hcl h
  have hall : ∀ i, l.getD i true = true := fun i => by
   have := cnt_zero l.toList i (by omega)
   rw [List.getD_eq_getElem?_getD, Array.getElem?_toList] at this
   rw [Array.getD_eq_getD_getElem?]; exact this
  refine ⟨?_, rfl, hend l r a w hl (fun i _ => hall i) h⟩
  apply List.filter_eq_nil_iff.2
  intro i _
  rw [hall i]
  simp
 | succ fuel ih =>
  intro l r a w hl hc hcl h
  refine ⟨fun hr => ⟨rfl, hend l r a w hl (ready_all hok1 hr) h⟩, fun i hi => ?_⟩
  obtain ⟨hlt, hli, o, ho, hpre⟩ := ready_mem hi
  have ho' : ops.toList[i]? = some o := by simpa using ho
  obtain ⟨fr, e, ani, psi, ani', k1, k2, k3, k4⟩ := s3 i o ho'
  have hD0 : Dn l i = false := by
   unfold Dn
   rw [Array.getD_eq_getD_getElem?, Array.getElem?_eq_getElem (by omega)] at hli ⊢
   exact hli
  have hlow : ∀ j x, j < i → ens[j]? = some x → Dn l j = false → indep x (enOf ops o fr (stF (fun j => Nat.blt j i) ens st) e) = true := by
   intro j x hj hx hd
   rcases pair_of hok2 hj hx k4 with hb | hb
   ·have := masks_ok hcl ho' hpre hb
    rw [hd] at this; cases this
   ·exact hb
  have hhigh : ∀ k x, i < k → ens[k]? = some x → Dn l k = true → indep (enOf ops o fr (stF (fun j => Nat.blt j i) ens st) e) x = true := by
   intro k x hk hx hd
   rcases pair_of hok2 hk k4 hx with hb | hb
   ·have hko : k < ops.toList.length := by have := (List.getElem?_eq_some_iff.1 hx).1; omega
    have hgo : ops.toList[k]? = some ops.toList[k] := List.getElem?_eq_getElem hko
    have := masks_ok hcl hgo (fun e' he' hb' => hcl k _ hgo hd e' he' hb') hb
    rw [hD0] at this; cases this
   ·exact hb
  have eqt : ∀ t ∈ (enOf ops o fr (stF (fun j => Nat.blt j i) ens st) e).rt, (stF (fun j => Nat.blt j i) ens st).gt t = (stF (Dn l) ens st).gt t := by
   intro t ht
   refine stF_gt _ _ ens st st rfl (fun j x hx hd => ?_) rfl
   rcases Nat.lt_trichotomy j i with c | c | c
   ·have : Nat.blt j i = true := by simpa using c
    rw [this]
    cases hdj : Dn l j with
    | true => rfl
    | false =>
     have hh := hlow j x c hx hdj
     unfold indep at hh
     simp only [Bool.and_eq_true] at hh
     exact (disj_no hh.1.1.1.1.2 (x := t) (by simp [En.wt, hd]) ht).elim
   ·subst c
    rw [hD0]
    exact blt_no (Nat.lt_irrefl _)
   ·have : Nat.blt j i = false := blt_no (by omega)
    rw [this]
    cases hdj : Dn l j with
    | false => rfl
    | true =>
     have hh := hhigh j x c hx hdj
     unfold indep at hh
     simp only [Bool.and_eq_true] at hh
     exact (disj_no hh.1.1.1.2 (x := t) ht (by simp [En.wt, hd])).elim
  have eqm : ∀ b ∈ (enOf ops o fr (stF (fun j => Nat.blt j i) ens st) e).rb, (stF (fun j => Nat.blt j i) ens st).gm b = (stF (Dn l) ens st).gm b := by
   intro t ht
   refine stF_gm _ _ ens st st (fun j x hx hd => ?_) rfl
   rcases Nat.lt_trichotomy j i with c | c | c
   ·have : Nat.blt j i = true := by simpa using c
    rw [this]
    cases hdj : Dn l j with
    | true => rfl
    | false =>
     have hh := hlow j x c hx hdj
     unfold indep at hh
     simp only [Bool.and_eq_true] at hh
     exact (disj_no hh.1.2 (x := t) hd ht).elim
   ·subst c
    rw [hD0]
    exact blt_no (Nat.lt_irrefl _)
   ·have : Nat.blt j i = false := blt_no (by omega)
    rw [this]
    cases hdj : Dn l j with
    | false => rfl
    | true =>
     have hh := hhigh j x c hx hdj
     unfold indep at hh
     simp only [Bool.and_eq_true] at hh
     exact (disj_no hh.2 (x := t) ht hd).elim
  have hrun : run1 P G ops o fr (stF (Dn l) ens st) ani = some (e, psi, ani') := by
   rw [← run1_congr (e := e) eqt eqm]; exact k1
  refine wpOp_mono (fun a1 w1 hk => ?_) (run1_sound hG gW hS h ho hrun k2 (fun hfr => by
   rw [← eqm fr (List.mem_append.2 (.inr hfr))]; exact k3) _)
  obtain ⟨r1, _, hk⟩ := hk
  have hset : ∀ j, j ≠ i → Dn (l.setIfInBounds i true) j = Dn l j := by
   intro j hj
   unfold Dn
   rw [Array.getD_eq_getD_getElem?, Array.getD_eq_getD_getElem?, Array.getElem?_setIfInBounds, if_neg (fun e => hj e.symm)]
  have hsi : Dn (l.setIfInBounds i true) i = true := by
   unfold Dn
   rw [Array.getD_eq_getD_getElem?, Array.getElem?_setIfInBounds, if_pos rfl, if_pos (by omega)]
   rfl
  refine ih (l.setIfInBounds i true) r1 a1 w1 (by simp [hl]) ?_ ?_ (hk.congr ?_ ?_ ?_)
  ·rw [Array.toList_setIfInBounds]
   have hf : l.toList[i]? = some false := by
    rw [Array.getElem?_toList, Array.getElem?_eq_getElem (by omega)]
    rw [Array.getD_eq_getD_getElem?, Array.getElem?_eq_getElem (by omega)] at hli
    exact congrArg some hli
   have := cnt_set _ _ hf
   omega
  ·intro k ok hok' hdk e' he' hb'
   by_cases hki : k = i
   ·subst hki
    rw [ho'] at hok'
    obtain rfl := Option.some.inj hok'
    have := hpre e' he' hb'
    by_cases hoi : e'.on = k
    ·rw [hoi]; exact hsi
    ·rw [hset _ hoi]; exact this
   ·rw [hset k hki] at hdk
    have := hcl k ok hok' hdk e' he' hb'
    by_cases hoi : e'.on = i
    ·rw [hoi]; exact hsi
    ·rw [hset _ hoi]; exact this
  ·rw [stF_len, len_app, stF_len]
  ·intro key
   refine stF_ins_t ens i (Dn l) _ st k4 hD0 hsi hset (fun k x hk' hx hdk h1 h2 => ?_)
   have hh := hhigh k x hk' hx hdk
   unfold indep at hh
   simp only [Bool.and_eq_true] at hh
   exact disj_no hh.1.1.1.1.1 (x := key) (by simp [En.wt, h1]) (by simp [En.wt, h2])
  ·intro key
   refine stF_ins_m ens i (Dn l) _ st k4 hD0 hsi hset (fun k x hk' hx hdk h1 h2 => ?_)
   have hh := hhigh k x hk' hx hdk
   unfold indep at hh
   simp only [Bool.and_eq_true] at hh
   exact disj_no hh.1.1.2 (x := key) h1 h2
end
end Go.Proofs.YtelfmddcjlocpaaGreatDoor.Px
