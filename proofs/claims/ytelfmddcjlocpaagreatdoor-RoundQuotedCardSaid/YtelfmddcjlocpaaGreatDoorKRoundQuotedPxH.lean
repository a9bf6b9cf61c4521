/- Px, eighth part: regions, in order and in whatever order. No condition. -/
import Derived.Test.YtelfmddcjlocpaaGreatDoorKRoundQuotedPxG
set_option linter.unusedVariables false
set_option linter.unusedSimpArgs false
namespace Go.Proofs.YtelfmddcjlocpaaGreatDoor.Px
open Go Go.RowKit Go.Proofs.YtelfmddcjlocpaaGreatDoorW.PrintWords Go.Proofs.YtelfmddcjlocpaaGreatDoorW.PrintMore
section
variable {P : Program} {W : World} {S : Nat → Prop} {r : Nat → Option Nat} {st : St} {a : Act} {w w' : World} {ops : Array Oper} {G : World → Prop}
theorem gm_len (st : St) : st.gm st.m.length = none := by
 unfold St.gm
 rw [List.getD_eq_getElem?_getD, List.getElem?_eq_none (Nat.le_refl _)]
 rfl
theorem run1_sound (hG : ∀ w w', G w → Below w.heap.size w w' → G w') (gW : G W) (hS : ∀ b, S b → b < W.heap.size) (h : Rp W S r st a w) {o : Oper} {i fr : Nat} (hi : ops[i]? = some o) {an an' : List Ans} {e : E} {ps : List Prop}
  (he : run1 P G ops o fr st an = some (e, ps, an')) (hp : allP ps) (hn : fr ∈ opNew fr o.op → st.gm fr = none) (Q : Exit → Act → World → Prop) : wpOp P ops Q i (Nxt W S r (app o.dst e st)) a w := by
 unfold wpOp
 rw [hi]
 dsimp only
 unfold run1 at he
 cases hg : o.guard with
 | none =>
  rw [hg] at he
  have hw : Region.wanted o (yielded ops a.tmps) = true := by unfold Region.wanted; rw [hg]
  rw [hw, if_pos rfl]
  exact .inl (eff_sound hG gW hS h he hp hn Q)
 | some jw =>
  obtain ⟨j, want⟩ := jw
  rw [hg] at he
  dsimp only at he
  cases hd : (ops[j]?).bind (·.dst) with
  | none => rw [hd] at he; cases he
  | some d =>
  rw [hd] at he
  dsimp only at he
  split at he
  ·rename_i t c an1 ht
   have hv := h.tmp d
   rw [ht] at hv
   have hv : a.tmps.getD d undef = .bool t := hv
   have hy : yielded ops a.tmps j = some t := by
    unfold yielded
    rw [hd]
    dsimp only [Option.bind_some]
    rw [Array.getD_eq_getD_getElem?] at hv
    cases hq : a.tmps[d]? with
    | none => rw [hq] at hv; cases hv
    | some u =>
     rw [hq] at hv
     obtain rfl : u = .bool t := hv
     rfl
   split at he
   ·rename_i hcw
    split at he
    ·rename_i e1 ps1 an2 heff
     simp only [Option.some.injEq, Prod.mk.injEq] at he
     obtain ⟨rfl, rfl, _⟩ := he
     have hw : Region.wanted o (yielded ops a.tmps) = true := by
      unfold Region.wanted
      rw [hg]
      dsimp only
      rw [hy, hp.1]
      simpa using hcw
     rw [hw, if_pos rfl]
     exact .inl (eff_sound hG gW hS h heff hp.2 hn Q)
    ·cases he
   ·rename_i hcw
    simp only [Option.some.injEq, Prod.mk.injEq] at he
    obtain ⟨rfl, rfl, _⟩ := he
    have hw : Region.wanted o (yielded ops a.tmps) = false := by
     unfold Region.wanted
     rw [hg]
     dsimp only
     rw [hy, hp.1]
     simpa using hcw
    rw [hw, if_neg (by decide)]
    exact ⟨r, fun _ _ h => h, h.put o.dst rfl⟩
  ·rename_i hun
   simp only [Option.some.injEq, Prod.mk.injEq] at he
   obtain ⟨rfl, rfl, _⟩ := he
   have hv := h.tmp d
   rw [hun] at hv
   have hv : a.tmps.getD d undef = undef := hv
   have hy : yielded ops a.tmps j = none := by
    unfold yielded
    rw [hd]
    dsimp only [Option.bind_some]
    rw [Array.getD_eq_getD_getElem?] at hv
    cases hq : a.tmps[d]? with
    | none => rfl
    | some u =>
     rw [hq] at hv
     obtain rfl : u = undef := hv
     rfl
   have hw : Region.wanted o (yielded ops a.tmps) = false := by
    unfold Region.wanted
    rw [hg]
    dsimp only
    rw [hy]
    rfl
   rw [hw, if_neg (by decide)]
   exact ⟨r, fun _ _ h => h, h.put o.dst rfl⟩
  ·cases he
def Rps (W : World) (S : Nat → Prop) (st' : St) (a' : Act) (w' : World) : Prop := ∃ r', Rp W S r' st' a' w'
theorem ops_sound (hG : ∀ w w', G w → Below w.heap.size w w' → G w') (gW : G W) (hS : ∀ b, S b → b < W.heap.size) : ∀ (os : List Oper) (n : Nat) (r : Nat → Option Nat) (st : St) (a : Act) (w : World) (an an' : List Ans) (ens : List En) (st' : St) (ps : List Prop),
  (∀ j o, os[j]? = some o → ops[n + j]? = some o) → runOps P G ops os st an = some (ens, st', ps, an') → allP ps → Rp W S r st a w →
  wpOps P ops (fun e a' w' => e = .normal ∧ Rps W S st' a' w') (List.range' n os.length) a w
 | [], n, r, st, a, w, an, an', ens, st', ps, _, he, _, h => by
  simp only [runOps, Option.some.injEq, Prod.mk.injEq] at he
  obtain ⟨_, rfl, _, _⟩ := he
  exact ⟨rfl, r, h⟩
 | o :: os, n, r, st, a, w, an, an', ens, st', ps, hi, he, hp, h => by
  simp only [runOps] at he
  split at he
  ·rename_i e ps1 an1 h1
   split at he
   ·rename_i ens2 st2 ps2 an2 h2
    simp only [Option.some.injEq, Prod.mk.injEq] at he
    obtain ⟨_, rfl, rfl, _⟩ := he
    rw [allP_append] at hp
    rw [List.length_cons, List.range'_succ, wpOps_cons]
    refine wpOp_mono (fun a1 w1 hk => ?_) (run1_sound hG gW hS h (hi 0 o rfl) h1 hp.1 (fun _ => gm_len st) _)
    obtain ⟨r1, g1, g2⟩ := hk
    exact ops_sound hG gW hS os (n + 1) r1 _ a1 w1 an1 an2 ens2 st2 ps2 (fun j o' hj => by
     have := hi (j + 1) o' (by simpa using hj)
     rwa [show n + 1 + j = n + (j + 1) by omega]) h2 hp.2 g2
   ·cases he
  ·cases he
def Cl (os : List Oper) (D : Nat → Bool) : Prop := ∀ i o, os[i]? = some o → D i = true → ∀ e ∈ o.after.toList, Region.binds .any e = true → D e.on = true
theorem mask_bit {acc : List Nat} {j : Nat} : ∀ (l : List Edge) (s : Nat), (l.foldl (fun s e => if Region.binds .any e = true then s ||| 2 ^ e.on ||| acc.getD e.on 0 else s) s).testBit j = true →
  s.testBit j = true ∨ ∃ e ∈ l, Region.binds .any e = true ∧ (e.on = j ∨ (acc.getD e.on 0).testBit j = true)
 | [], s, h => .inl h
 | e :: l, s, h => by
  rw [List.foldl_cons] at h
  rcases mask_bit l _ h with h | ⟨e', h1, h2⟩
  ·by_cases hb : Region.binds .any e = true
   ·rw [if_pos hb, Nat.testBit_or, Nat.testBit_or, Nat.testBit_two_pow] at h
    rw [Bool.or_eq_true, Bool.or_eq_true] at h
    rcases h with (h | h) | h
    ·exact .inl h
    ·exact .inr ⟨e, List.mem_cons_self .., hb, .inl (of_decide_eq_true h)⟩
    ·exact .inr ⟨e, List.mem_cons_self .., hb, .inr h⟩
   ·rw [if_neg hb] at h; exact .inl h
  ·exact .inr ⟨e', List.mem_cons_of_mem _ h1, h2⟩
def MOk (D : Nat → Bool) (pre : List Oper) (acc : List Nat) : Prop := acc.length = pre.length ∧ ∀ i o, pre[i]? = some o → (∀ e ∈ o.after.toList, Region.binds .any e = true → D e.on = true) → ∀ j, (acc.getD i 0).testBit j = true → D j = true
theorem masksGo_ok {D : Nat → Bool} : ∀ (os pre : List Oper) (acc : List Nat), Cl (pre ++ os) D → MOk D pre acc → MOk D (pre ++ os) (masksGo acc os)
 | [], pre, acc, _, h => by rw [List.append_nil]; exact h
 | o :: os, pre, acc, hc, h => by
  have e : pre ++ o :: os = (pre ++ [o]) ++ os := by simp
  rw [e] at hc ⊢
  refine masksGo_ok os (pre ++ [o]) (acc ++ [maskOf acc o]) hc ⟨by simp [h.1], fun i o' hi he j hj => ?_⟩
  by_cases hlt : i < pre.length
  ·rw [List.getElem?_append_left hlt] at hi
   rw [List.getD_eq_getElem?_getD, List.getElem?_append_left (by rw [h.1]; exact hlt), ← List.getD_eq_getElem?_getD] at hj
   exact h.2 i o' hi he j hj
  ·have hi2 : i = pre.length := by
    have := (List.getElem?_eq_some_iff.1 hi).1
    simp at this; omega
   subst hi2
   rw [List.getElem?_append_right (Nat.le_refl _), Nat.sub_self] at hi
   obtain rfl := Option.some.inj hi
   rw [List.getD_eq_getElem?_getD, List.getElem?_append_right (by rw [h.1]; exact Nat.le_refl _), h.1, Nat.sub_self] at hj
   rcases mask_bit (acc := acc) (j := j) o.after.toList 0 hj with hj | ⟨e, h1, h2, h3 | h3⟩
   ·simp at hj
   ·rw [← h3]; exact he e h1 h2
   ·have hon := he e h1 h2
    have hlt : e.on < pre.length := by
     rcases Nat.lt_or_ge e.on pre.length with c | c
     ·exact c
     ·rw [List.getD_eq_getElem?_getD, List.getElem?_eq_none (by rw [h.1]; exact c)] at h3
      simp at h3
    have hgo : pre[e.on]? = some pre[e.on] := List.getElem?_eq_getElem hlt
    refine h.2 e.on _ hgo (fun e' he' hb => ?_) j h3
    refine hc e.on pre[e.on] ?_ hon e' he' hb
    rw [List.append_assoc, List.getElem?_append_left hlt]; exact hgo
theorem masks_ok {D : Nat → Bool} {os : List Oper} (hc : Cl os D) {i j : Nat} {o : Oper} (hi : os[i]? = some o) (he : ∀ e ∈ o.after.toList, Region.binds .any e = true → D e.on = true) (hj : ((masks os).getD i 0).testBit j = true) : D j = true :=
 (masksGo_ok os [] [] hc ⟨rfl, fun i o h => by simp at h⟩).2 i o hi he j hj
def stF : (Nat → Bool) → List En → St → St
 | _, [], st => st
 | D, x :: l, st => stF (fun j => D (j + 1)) l (bif D 0 then app x.d x.e st else st)
theorem stF_len : ∀ (D : Nat → Bool) (l : List En) (st : St), (stF D l st).t.length = st.t.length
 | _, [], _ => rfl
 | D, x :: l, st => by
  rw [stF, stF_len]
  cases D 0
  ·rfl
  ·exact len_app _ _ _
theorem stF_gt {key : Nat} : ∀ (D D' : Nat → Bool) (l : List En) (st st' : St), st.t.length = st'.t.length → (∀ j x, l[j]? = some x → x.d = some key → D j = D' j) → st.gt key = st'.gt key → (stF D l st).gt key = (stF D' l st').gt key
 | _, _, [], _, _, _, _, h => h
 | D, D', x :: l, st, st', hl, hd, h => by
  rw [stF, stF]
  refine stF_gt _ _ l _ _ ?_ (fun j y hj => hd (j + 1) y (by simpa using hj)) ?_
  ·cases D 0 <;> cases D' 0 <;> simp [len_app, hl]
  ·by_cases hk : x.d = some key
   ·have := hd 0 x rfl hk
    rw [this]
    cases D' 0
    ·exact h
    ·simp only [cond, gt_app, hl, h]
   ·have hno : ∀ (b : Bool) (s : St), (bif b then app x.d x.e s else s).gt key = s.gt key := fun b s => by
     cases b
     ·rfl
     ·simp only [cond, gt_app]
      rw [if_neg (fun h => hk h.1)]
    rw [hno, hno]; exact h
theorem upd_no {e : E} {b : Nat} (h : b ∉ e.wb) (x : Option (TypeId × List SC)) : e.upd b x = x := by
 cases e with
 | v y => rfl
 | nb c ty l =>
  have hne : b ≠ c := fun e2 => h (by rw [e2]; exact List.mem_singleton.2 rfl)
  exact if_neg hne
 | sto c off l =>
  have hne : b ≠ c := fun e2 => h (by rw [e2]; exact List.mem_singleton.2 rfl)
  exact if_neg hne
theorem stF_gm {key : Nat} : ∀ (D D' : Nat → Bool) (l : List En) (st st' : St), (∀ j x, l[j]? = some x → key ∈ x.e.wb → D j = D' j) → st.gm key = st'.gm key → (stF D l st).gm key = (stF D' l st').gm key
 | _, _, [], _, _, _, h => h
 | D, D', x :: l, st, st', hd, h => by
  rw [stF, stF]
  refine stF_gm _ _ l _ _ (fun j y hj => hd (j + 1) y (by simpa using hj)) ?_
  by_cases hk : key ∈ x.e.wb
  ·have := hd 0 x rfl hk
   rw [this]
   cases D' 0
   ·exact h
   ·simp only [cond, gm_app, h]
  ·have hno : ∀ (b : Bool) (s : St), (bif b then app x.d x.e s else s).gm key = s.gm key := fun b s => by
    cases b
    ·rfl
    ·simp only [cond, gm_app]
     exact upd_no hk _
   rw [hno, hno]; exact h
theorem stF_none : ∀ (D : Nat → Bool) (l : List En) (st : St), (∀ j, D j = false) → stF D l st = st
 | _, [], _, _ => rfl
 | D, x :: l, st, h => by
  rw [stF, h 0]
  exact stF_none _ l st fun j => h (j + 1)
theorem stF_ins_t {key : Nat} {en : En} : ∀ (l : List En) (i : Nat) (D D' : Nat → Bool) (st : St), l[i]? = some en → D i = false → D' i = true → (∀ j, j ≠ i → D' j = D j) → (∀ k x, i < k → l[k]? = some x → D k = true → en.d = some key → x.d = some key → False) →
  (stF D' l st).gt key = (app en.d en.e (stF D l st)).gt key
 | [], i, _, _, _, h, _, _, _, _ => by simp at h
 | x :: l, 0, D, D', st, h, h0, h1, hj, hk => by
  obtain rfl : x = en := by simpa using h
  rw [stF, stF, h0, h1]
  simp only [cond, gt_app, stF_len]
  by_cases hd : x.d = some key
  ·have e1 : (stF (fun j => D' (j + 1)) l (app x.d x.e st)).gt key = (app x.d x.e st).gt key := by
    have := stF_gt (key := key) (fun j => D' (j + 1)) (fun _ => false) l (app x.d x.e st) (app x.d x.e st) rfl (fun j y hy hyd => by
     show D' (j + 1) = false
     rw [hj (j + 1) (by omega)]
     cases hD : D (j + 1) with
     | false => rfl
     | true => exact (hk (j + 1) y (by omega) (by simpa using hy) hD hd hyd).elim) rfl
    rw [this, stF_none _ _ _ fun _ => rfl]
   have e2 : (stF (fun j => D (j + 1)) l st).gt key = st.gt key := by
    have := stF_gt (key := key) (fun j => D (j + 1)) (fun _ => false) l st st rfl (fun j y hy hyd => by
     show D (j + 1) = false
     cases hD : D (j + 1) with
     | false => rfl
     | true => exact (hk (j + 1) y (by omega) (by simpa using hy) hD hd hyd).elim) rfl
    rw [this, stF_none _ _ _ fun _ => rfl]
   rw [e1, e2, gt_app]
  ·rw [if_neg (fun h => hd h.1)]
   refine stF_gt _ _ l _ _ (len_app _ _ _) (fun j y _ _ => hj (j + 1) (by omega)) ?_
   rw [gt_app, if_neg (fun h => hd h.1)]
 | x :: l, i + 1, D, D', st, h, h0, h1, hj, hk => by
  rw [stF, stF, hj 0 (by omega)]
  exact stF_ins_t l i _ _ _ (by simpa using h) h0 h1 (fun j hji => hj (j + 1) (by omega)) (fun k y hik hy hD => hk (k + 1) y (by omega) (by simpa using hy) hD)
theorem stF_ins_m {key : Nat} {en : En} : ∀ (l : List En) (i : Nat) (D D' : Nat → Bool) (st : St), l[i]? = some en → D i = false → D' i = true → (∀ j, j ≠ i → D' j = D j) → (∀ k x, i < k → l[k]? = some x → D k = true → key ∈ en.e.wb → key ∈ x.e.wb → False) →
  (stF D' l st).gm key = (app en.d en.e (stF D l st)).gm key
 | [], i, _, _, _, h, _, _, _, _ => by simp at h
 | x :: l, 0, D, D', st, h, h0, h1, hj, hk => by
  obtain rfl : x = en := by simpa using h
  rw [stF, stF, h0, h1]
  simp only [cond, gm_app]
  by_cases hd : key ∈ x.e.wb
  ·have e1 : (stF (fun j => D' (j + 1)) l (app x.d x.e st)).gm key = (app x.d x.e st).gm key := by
    have := stF_gm (key := key) (fun j => D' (j + 1)) (fun _ => false) l (app x.d x.e st) (app x.d x.e st) (fun j y hy hyd => by
     show D' (j + 1) = false
     rw [hj (j + 1) (by omega)]
     cases hD : D (j + 1) with
     | false => rfl
     | true => exact (hk (j + 1) y (by omega) (by simpa using hy) hD hd hyd).elim) rfl
    rw [this, stF_none _ _ _ fun _ => rfl]
   have e2 : (stF (fun j => D (j + 1)) l st).gm key = st.gm key := by
    have := stF_gm (key := key) (fun j => D (j + 1)) (fun _ => false) l st st (fun j y hy hyd => by
     show D (j + 1) = false
     cases hD : D (j + 1) with
     | false => rfl
     | true => exact (hk (j + 1) y (by omega) (by simpa using hy) hD hd hyd).elim) rfl
    rw [this, stF_none _ _ _ fun _ => rfl]
   rw [e1, e2, gm_app]
  ·rw [upd_no hd]
   refine stF_gm _ _ l _ _ (fun j y _ _ => hj (j + 1) (by omega)) ?_
   rw [gm_app, upd_no hd]
 | x :: l, i + 1, D, D', st, h, h0, h1, hj, hk => by
  rw [stF, stF, hj 0 (by omega)]
  exact stF_ins_m l i _ _ _ (by simpa using h) h0 h1 (fun j hji => hj (j + 1) (by omega)) (fun k y hik hy hD => hk (k + 1) y (by omega) (by simpa using hy) hD)
end
end Go.Proofs.YtelfmddcjlocpaaGreatDoor.Px
