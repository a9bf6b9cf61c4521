/- Px at this seat's program: the two theorems by which a function's ways are shown, with small words for the facts. Condition: math/bits' table is laid (Tab). Px: from contracts in the print's form to contracts of Px. Plain lemmas. No condition. The walk of layer 8's script loop: where each call of the kinds between returns true, the loop returns true. Conditions: the script's cells are as told; math/bits' table. How a script of layer 8's calls opens. No condition beyond the rows' own. -/
import Derived.Test.YtelfmddcjlocpaaGreatDoorKRoundQuotientsPxJ
import Derived.Test.YtelfmddcjlocpaaGreatDoorKRoundQuotientsPxA
import Derived.Deep.LoopGhost
section
set_option linter.unusedVariables false
set_option linter.unusedSimpArgs false
namespace Go.Proofs.YtelfmddcjlocpaaGreatDoor.Px
open Go Go.RowKit Go.Proofs.YtelfmddcjlocpaaGreatDoorW.PrintWords Go.Proofs.YtelfmddcjlocpaaGreatDoorW.PrintMore
abbrev Gw : World → Prop := Go.Proofs.YtelfmddcjlocpaaGreatDoor.GTab.Tab
theorem Gw_next : ∀ w w' : World, Gw w → Below w.heap.size w w' → Gw w' := fun _ _ h d => Go.Proofs.YtelfmddcjlocpaaGreatDoor.GTab.Tab.next h d
theorem bnd {α β : Type} {o : Option α} {f : α → Option β} {b : β} (h : o.bind f = some b) : ∃ a, o = some a ∧ f a = some b := Option.bind_eq_some_iff.1 h
theorem ite_e {α : Type} {c : Prop} [Decidable c] {a b : Option α} {r : α} (h : (if c then a else b) = some r) : (c ∧ a = some r) ∨ (¬ c ∧ b = some r) := by
 by_cases x : c
 ·rw [if_pos x] at h; exact .inl ⟨x, h⟩
 ·rw [if_neg x] at h; exact .inr ⟨x, h⟩
theorem ai {a b : Prop} (x : a) (y : b) : a ∧ b := ⟨x, y⟩
theorem d1 {p : Prop} [Decidable p] (h : p) : decide p = true := decide_eq_true h
theorem d0 {p : Prop} [Decidable p] (h : ¬ p) : decide p = false := decide_eq_false h
theorem q1 {α : Type} [BEq α] [LawfulBEq α] {x y : α} (h : x = y) : (x == y) = true := beq_iff_eq.2 h
theorem q0 {α : Type} [BEq α] [LawfulBEq α] {x y : α} (h : ¬ x = y) : (x == y) = false := beq_eq_false_iff_ne.2 h
theorem n1 {α : Type} [BEq α] [LawfulBEq α] {x y : α} (h : ¬ x = y) : (x != y) = true := bne_iff_ne.2 h
theorem n0 {α : Type} [BEq α] [LawfulBEq α] {x y : α} (h : x = y) : (x != y) = false := bne_eq_false_iff_eq.2 h
theorem z0 {x : Bool} (h : ¬ x = true) : x = false := by cases x <;> simp_all
theorem si {α : Type} {a b : α} (h : some a = some b) : a = b := Option.some.inj h
theorem tt : true = true := rfl
theorem ff : false = false := rfl
theorem nn {α : Type} {r : α} {p : Prop} (h : (none : Option α) = some r) : p := by cases h
theorem nt1 {x : Bool} (h : x = true) : (!x) = false := by rw [h]; rfl
theorem beq2 {x y a b : Bool} (h : x = a) (k : y = b) : (x == y) = (a == b) := by rw [h, k]
theorem nt0 {x : Bool} (h : x = false) : (!x) = true := by rw [h]; rfl
def nav : Code → List Nat → List Item → List Item
 | .seq a b, 0 :: p, k => nav a p (.code b :: k)
 | .seq _ b, _ :: p, k => nav b p k
 | .cond _ a _, 0 :: p, k => nav a p k
 | .cond _ _ b, _ :: p, k => nav b p k
 | .block id c, _ :: p, k => nav c p (.inBlock id :: k)
 | .loop c, _ :: p, k => nav c p (.inLoop c :: k)
 | c, _, k => .code c :: k
def lk (i : Nat) : List (Nat × PV) → PV
 | [] => .s .top
 | (j, v) :: l => bif Nat.beq i j then v else lk i l
def mkT (n : Nat) (l : List (Nat × PV)) : List PV := (List.range n).map fun i => lk i l
def okFn (fn : Func) : Bool := !(fn.name == "runtime.NumGoroutine") && !fn.body.isNone
theorem mixed : Tryz.prog.follows .mixedOrders = true := by kernel_rfl
theorem pth {f : FuncId} {fn : Func} (hf : Tryz.prog.funcs[f]? = some fn) (an : List Ans) {args : List PV} {x : PV} {p : Prop} (h : x = x → p) (e : (okFn fn, goF Tryz.prog Gw f fn (· = x) 4000 args an) = (true, p)) : Con Tryz.prog Gw f args (· = x) := by
 obtain ⟨e1, e2⟩ := Prod.mk.inj e
 unfold okFn at e1
 rw [Bool.and_eq_true, Bool.not_eq_true', Bool.not_eq_true'] at e1
 refine con_of mixed Gw_next hf e1.1 e1.2 ?_
 unfold goF at e2
 exact go_sound mixed Gw_next hf 4000 _ _ an (e2 ▸ h rfl)
theorem jth {f : FuncId} {fn : Func} (hf : Tryz.prog.funcs[f]? = some fn) (an : List Ans) {todo : List Item} {st : St} {x : PV} {p : Prop} (h : x = x → p) (e : go Tryz.prog Gw f fn.results.toList (· = x) 4000 todo st an = p) : Fin Tryz.prog Gw f todo st (· = x) :=
 go_sound mixed Gw_next hf 4000 _ _ an (e ▸ h rfl)
end Go.Proofs.YtelfmddcjlocpaaGreatDoor.Px
end
section
set_option linter.unusedVariables false
set_option linter.unusedSimpArgs false
namespace Go.Proofs.YtelfmddcjlocpaaGreatDoor.Px
open Go Go.RowKit Go.Proofs.YtelfmddcjlocpaaGreatDoorW.PrintWords Go.Proofs.YtelfmddcjlocpaaGreatDoorW.PrintMore
section
variable {w w' : World} {S : Nat → Prop}
theorem toC {k : IntKind} {l : List Int} {v : Value} (h : RepC w S none' (.sl k l) v) : ∃ A c, v = .slice A l.length c ∧ l.length ≤ c ∧ Kd.C (Kd.int k) w A l.length l := by
 obtain ⟨A, c, h1, h2, h3⟩ := h
 refine ⟨A, c, h1, h2, rfl, ?_, fun hp => ?_⟩
 ·rcases h3 with rfl | ⟨b, o, _, h5, _⟩
  ·decide
  ·exact h5.2
 ·rcases h3 with rfl | ⟨b, o, rfl, h5, h6⟩
  ·simp at hp
  ·refine ⟨_, rfl, fun j d hj => ⟨[.int k d], rfl, rfl, fun i u hi => ?_⟩⟩
   cases i with
   | zero =>
    obtain rfl : Value.int k d = u := by simpa using hi
    have hj1 : j * (Kd.int k).sz + 0 = j := Nat.mul_one j
    rw [hj1, add_plain]
    exact h6 j d hj
   | succ i => simp at hi
theorem ofC_ {k : IntKind} {l : List Int} {A : Option Addr} {c : Nat} (hc : l.length ≤ c) (h : Kd.C (Kd.int k) w A l.length l) (hS : ∀ (ad : Addr), A = some ad → ad.spot = none → ¬ S ad.block) : RepC w S none' (.sl k l) (.slice A l.length c) := by
 obtain ⟨_, h2, h3⟩ := h
 refine ⟨A, c, rfl, hc, ?_⟩
 cases l with
 | nil => exact .inl rfl
 | cons d0 l =>
  obtain ⟨ad, rfl, h4⟩ := h3 (by simp)
  have cell : ∀ (j : Nat) (d : Int), (d0 :: l)[j]? = some d → w.cell? (ad.add j) = some (.int k d) := by
   intro j d hj
   obtain ⟨c', _, e1, e2⟩ := h4 j d hj
   obtain rfl : c' = [.int k d] := e1
   have := e2 0 _ rfl
   simpa [Kd.int, Kd.scalar] using this
  obtain ⟨b, o, sp⟩ := ad
  have hs : sp = none := by
   have h0 := cell 0 d0 rfl
   cases sp with
   | none => rfl
   | some s =>
    exfalso
    unfold Addr.add at h0
    rw [if_pos rfl] at h0
    unfold World.cell? at h0
    split at h0
    ·simp at h0
    ·simp at h0
  subst hs
  refine .inr ⟨b, o, rfl, ⟨hS _ rfl rfl, h2⟩, fun j d hj => ?_⟩
  rw [← add_plain]
  exact cell j d hj
theorem ofR {k : IntKind} {l : List Int} {v : Value} {e base : Nat} {ok : Nat → Prop} (h : Kd.R (Kd.int k) e w' base ok v l) (hS : ∀ b, S b → b < base) : RepC w' S none' (.sl k l) v := by
 obtain ⟨A, c, rfl, h1, h2⟩ := Kd.R_reads h
 refine ofC_ h1 h2 fun ad e hs hb => ?_
 subst e
 have := Kd.R_base h ad.block (by simp [Value.ownBlock])
 have := hS _ hb
 omega
theorem brg {f : FuncId} {fn : Func} {args : List PV} {R : PV → Prop} (hf : Tryz.prog.funcs[f]? = some fn) (e : okFn fn = true)
  (h : ∀ (w : World) (S : Nat → Prop) (vs : List Value), Gw w → (∀ b, S b → b < w.heap.size) → All2 (RepV w S none') args vs → Calls Tryz.prog f vs.toArray w fun e w' => ∃ v x, e = .returned v ∧ R x ∧ RepV w' S none' x v ∧ Below w.heap.size w w') : Con Tryz.prog Gw f args R := by
 unfold okFn at e
 rw [Bool.and_eq_true, Bool.not_eq_true', Bool.not_eq_true'] at e
 exact ⟨⟨fn, hf, e.1, e.2⟩, h⟩
theorem a_sl {k : IntKind} {l : List Int} {ps : List PV} {vs : List Value} (h : All2 (RepV w S none') (.s (.sl k l) :: ps) vs) : ∃ A c us, vs = .slice A l.length c :: us ∧ l.length ≤ c ∧ Kd.C (Kd.int k) w A l.length l ∧ All2 (RepV w S none') ps us := by
 cases h with
 | cons h1 h2 =>
  obtain ⟨A, c, rfl, h3, h4⟩ := toC h1
  exact ⟨A, c, _, rfl, h3, h4, h2⟩
theorem a_i {k : IntKind} {n : Int} {ps : List PV} {vs : List Value} (h : All2 (RepV w S none') (.s (.i k n) :: ps) vs) : ∃ us, vs = .int k n :: us ∧ All2 (RepV w S none') ps us := by
 cases h with
 | cons h1 h2 => obtain rfl := h1; exact ⟨_, rfl, h2⟩
theorem a_nil {vs : List Value} (h : All2 (RepV w S none') [] vs) : vs = [] := by cases h; rfl
theorem r_sl {A : Option Addr} {c : Nat} {k : IntKind} {l : List Int} (h : Kd.C (Kd.int k) w A l.length l) (hc : l.length ≤ c) : RepC w (fun _ => False) none' (.sl k l) (.slice A l.length c) := ofC_ hc h fun _ _ _ h => h
theorem run_t {f : FuncId} {args : List PV} (h : Con Tryz.prog Gw f args (· = .s (.b true))) (gw : Gw w) {vs : List Value} (hv : All2 (RepV w (fun _ => False) none') args vs) : Calls Tryz.prog f vs.toArray w fun e w' => e = .returned (.bool true) ∧ Below w.heap.size w w' :=
 (h.2 w (fun _ => False) vs gw (fun _ h => h.elim) hv).mono fun e w' ⟨v, x, he, hx, hr, hb⟩ => by
  subst hx
  obtain rfl := hr
  exact ⟨he, hb⟩
end
end Go.Proofs.YtelfmddcjlocpaaGreatDoor.Px
end
section
namespace Go.Proofs.YtelfmddcjlocpaaGreatDoor.RnAll
open Go Go.RowKit Go.Proofs.YtelfmddcjlocpaaGreatDoorW.PrintWords Go.Proofs.YtelfmddcjlocpaaGreatDoorW.PrintMore Go.Proofs.YtelfmddcjlocpaaGreatDoorW.PrintLast Go.Proofs.YtelfmddcjlocpaaGreatDoor.GBase Go.Proofs.YtelfmddcjlocpaaGreatDoor.Px
def OnW (W : World) : Ending → World → Prop := fun e w' => e = .returned (.bool true) ∧ Below W.heap.size W w'
abbrev N0 : Nat → Prop := fun _ => False
theorem next {w w' : World} (d : Below w.heap.size w w') {x : PV} {v : Value} (h : RepV w N0 none' x v) : RepV w' N0 none' x v := RepV.ext (ext_below d _ _) h
structure El where
 kd : Int
 fm : Int
 na : Bool
 aa : Option Addr
 ln : Nat
 ca : Nat
 la : List Int
 ea : Int
 nb : Bool
 ab : Option Addr
 lm : Nat
 cb : Nat
 lb : List Int
 eb : Int
 wd : Nat
structure Ok (w : World) (t : El) : Prop where
 mk ::
 fm : (Lit.int .i64 t.fm).wf = true
 ra : RepV w N0 none' (.s (.sl .u64 t.la)) (.slice t.aa t.ln t.ca)
 wa : ∀ d ∈ t.la, 0 ≤ d ∧ d < 18446744073709551616
 sa : t.la.length ≤ 17592186044416
 ea : (Lit.int .i64 t.ea).wf = true
 rb : RepV w N0 none' (.s (.sl .u64 t.lb)) (.slice t.ab t.lm t.cb)
 wb : ∀ d ∈ t.lb, 0 ≤ d ∧ d < 18446744073709551616
 sb : t.lb.length ≤ 17592186044416
 eb : (Lit.int .i64 t.eb).wf = true
 wd : t.wd < 18446744073709551616
theorem Ok.next {w w' : World} {t : El} (h : Ok w t) (d : Below w.heap.size w w') : Ok w' t := ⟨h.fm, RnAll.next d h.ra, h.wa, h.sa, h.ea, RnAll.next d h.rb, h.wb, h.sb, h.eb, h.wd⟩
def PlaysOk (lo hi : Int) : Prop := ∀ (t : El) (w : World), Gw w → Ok w t → lo ≤ t.kd → t.kd ≤ hi →
 Calls Tryz.prog 65 #[.agg #[.int .i64 t.kd, .int .i64 t.fm, .bool t.na, .slice t.aa t.ln t.ca, .int .i64 t.ea, .bool t.nb, .slice t.ab t.lm t.cb, .int .i64 t.eb, .int .u64 t.wd]] w (OnW w)
structure At (W : World) (b o : Nat) (t : El) : Prop where
 mk ::
 h : W.cell? ⟨b, o, none⟩ = some (.int .i64 t.kd) ∧ W.cell? ⟨b, o + 1, none⟩ = some (.int .i64 t.fm) ∧ W.cell? ⟨b, o + 2, none⟩ = some (.bool t.na) ∧ W.cell? ⟨b, o + 3, none⟩ = some (.slice t.aa t.ln t.ca) ∧ W.cell? ⟨b, o + 4, none⟩ = some (.int .i64 t.ea) ∧ W.cell? ⟨b, o + 5, none⟩ = some (.bool t.nb) ∧ W.cell? ⟨b, o + 6, none⟩ = some (.slice t.ab t.lm t.cb) ∧ W.cell? ⟨b, o + 7, none⟩ = some (.int .i64 t.eb) ∧ W.cell? ⟨b, o + 8, none⟩ = some (.int .u64 t.wd)
 ok : Ok W t
theorem At.next {W w : World} {b o : Nat} {t : El} (h : At W b o t) (d : Below W.heap.size W w) : At w b o t := by
 obtain ⟨⟨a1, a2, a3, a4, a5, a6, a7, a8, a9⟩, ok⟩ := h
 have hb : b < W.heap.size := World.block_lt_of_cell? _ _ a1
 exact ⟨⟨by rw [d.cell (p := ⟨b, o, none⟩) hb]; exact a1, by rw [d.cell (p := ⟨b, o + 1, none⟩) hb]; exact a2, by rw [d.cell (p := ⟨b, o + 2, none⟩) hb]; exact a3, by rw [d.cell (p := ⟨b, o + 3, none⟩) hb]; exact a4, by rw [d.cell (p := ⟨b, o + 4, none⟩) hb]; exact a5, by rw [d.cell (p := ⟨b, o + 5, none⟩) hb]; exact a6, by rw [d.cell (p := ⟨b, o + 6, none⟩) hb]; exact a7, by rw [d.cell (p := ⟨b, o + 7, none⟩) hb]; exact a8, by rw [d.cell (p := ⟨b, o + 8, none⟩) hb]; exact a9⟩, ok.next d⟩
def Scr (W : World) (b o n : Nat) (t : Nat → El) : Prop := ∀ i, i < n → At W b (o + i * 9) (t i)
structure IW (W w : World) : Prop where mk :: (inv : Gw w) (below : Below W.heap.size W w)
set_option maxRecDepth 100000 in
set_option maxHeartbeats 4000000 in
theorem all_walk (b o n cap : Nat) (t : Nat → El) (lo hi : Int) (W : World) (hW : Gw W) (hn : 0 < n) (hn2 : n < 9000000000000000000) (hs : Scr W b o n t) (hp : PlaysOk lo hi) :
  Calls Tryz.prog 29 #[.slice (some ⟨b, o, none⟩) n cap, .int .i64 lo, .int .i64 hi] W (OnW W) := by
 have HS := Lib.hid hs
 have HP := Lib.hid hp
 have H0 := Lib.hid (IW.mk (W := W) hW (Below.refl _ _))
 clear hs hp hW
 go_enter Tryz.func29, Tryz.ntmps29
 go_wp2_with fail
 go_loopg [11] n (fun g i wr => ∃ k : Nat, k ≤ n ∧ g = n - k ∧ i = .int .i64 k ∧ IW W wr)
 case atStart => exact ⟨0, by omega, rfl, rfl, H0.out⟩
 case round =>
  obtain ⟨k, hk, rfl, rfl, hR⟩ := hrel
  have HR := Lib.hid hR
  clear hR H0
  by_cases hlt : k < n
  ·have HA := Lib.hid ((HS.out k hlt).next HR.out.below)
   obtain ⟨c1, c2, c3, c4, c5, c6, c7, c8, c9⟩ := HA.out.h
   generalize t k = T at *
   have hk2 : k + 1 ≤ n := hlt
   have hg1 : n - (k + 1) < n - k := by omega
   have bx := Lib.hid (box wr (Obj.cells #[.int .i64 T.kd, .int .i64 T.fm, .bool T.na, .slice T.aa T.ln T.ca, .int .i64 T.ea, .bool T.nb, .slice T.ab T.lm T.cb, .int .i64 T.eb, .int .u64 T.wd] 55))
   have HR2 := Lib.hid (IW.mk (Gw_next _ _ HR.out.inv bx.out) (on HR.out.below bx.out))
   have HA2 := Lib.hid (HA.out.ok.next bx.out)
   by_cases h1 : lo ≤ T.kd
   ·have d1 : decide (lo ≤ T.kd) = true := decide_eq_true h1
    by_cases h2 : T.kd ≤ hi
    ·have d2 : decide (T.kd ≤ hi) = true := decide_eq_true h2
     go_wp2_with fail
     refine (HP.out T _ HR2.out.inv HA2.out h1 h2).mono ?_
     rintro e1 v1 ⟨rfl, hd⟩
     have HNX : Hid (IW W v1) := Lib.hid ⟨Gw_next _ _ HR2.out.inv hd, on HR2.out.below hd⟩
     clear hd c1 c2 c3 c4 c5 c6 c7 c8 c9
     go_wp2_with fail
     go_roundg (n - (k + 1))
     case measure => exact hg1
     case rel => exact ⟨k + 1, hk2, rfl, rfl, HNX.out⟩
    ·have d2 : decide (T.kd ≤ hi) = false := decide_eq_false h2
     go_wp2_with fail
     go_roundg (n - (k + 1))
     case measure => exact hg1
     case rel => exact ⟨k + 1, hk2, rfl, rfl, HR2.out⟩
   ·have d1 : decide (lo ≤ T.kd) = false := decide_eq_false h1
    go_wp2_with fail
    go_roundg (n - (k + 1))
    case measure => exact hg1
    case rel => exact ⟨k + 1, hk2, rfl, rfl, HR2.out⟩
  ·obtain rfl : k = n := by omega
   have hltb : decide ((k : Int) < (k : Int)) = false := decide_eq_false (by omega)
   go_wp2_with fail
   go_ret
   exact ⟨rfl, HR.out.below⟩
theorem all_none (a : Option Addr) (cap : Nat) (lo hi : Int) (W : World) : Calls Tryz.prog 29 #[.slice a 0 cap, .int .i64 lo, .int .i64 hi] W (OnW W) := by
 go_enter Tryz.func29, Tryz.ntmps29
 go_wp2_with fail
 go_loopg [11] 0 (fun g i wr => g = 0 ∧ i = .int .i64 0 ∧ Below W.heap.size W wr)
 case atStart => exact ⟨rfl, rfl, Below.refl _ _⟩
 case round =>
  obtain ⟨rfl, rfl, hR⟩ := hrel
  go_wp2_with fail
  go_ret
  exact ⟨rfl, hR⟩
def IsOps (w : World) (a : Option Addr) (len : Nat) : Prop := len = 0 ∨ ∃ b o, a = some ⟨b, o, none⟩ ∧ ∀ i, i < len → ∃ t, At w b (o + i * 9) t
theorem all_any (a : Option Addr) (len cap : Nat) (lo hi : Int) (W w : World) (hs : IsOps W a len) (hd : Below W.heap.size W w) (hW : Gw w) (hn2 : len < 9000000000000000000)
  (hp : PlaysOk lo hi) : Calls Tryz.prog 29 #[.slice a len cap, .int .i64 lo, .int .i64 hi] w (OnW w) := by
 by_cases h0 : len = 0
 ·subst h0; exact all_none _ _ _ _ _
 rcases hs with h | ⟨b, o, rfl, h⟩
 ·exact absurd h h0
 have h' : ∀ i, ∃ t : El, i < len → At W b (o + i * 9) t := fun i => by
  by_cases hi : i < len
  ·obtain ⟨t, ht⟩ := h i hi; exact ⟨t, fun _ => ht⟩
  ·exact ⟨⟨0, 0, false, none, 0, 0, [], 0, false, none, 0, 0, [], 0, 0⟩, fun h => absurd h hi⟩
 obtain ⟨t, ht⟩ := Classical.skolem.1 h'
 exact all_walk b o len cap t lo hi w hW (by omega) hn2 (fun i hi => (ht i hi).next hd) hp
end Go.Proofs.YtelfmddcjlocpaaGreatDoor.RnAll
end
section
namespace Go.Proofs.YtelfmddcjlocpaaGreatDoor.RnRow
open Go.ChangeShapes Go.WideShapes Go.ChangeAt Go.RowKit Go.Deep Go.Proofs.YtelfmddcjlocpaaGreatDoorW.PrintWords Go.Proofs.YtelfmddcjlocpaaGreatDoor.Row8 Go.Proofs.YtelfmddcjlocpaaGreatDoor.RowW Go.Proofs.YtelfmddcjlocpaaGreatDoor.RnAll
set_option linter.unusedVariables false
theorem rep_isL {w : World} {A : Option Addr} {len cap : Nat} {l : List Int} (h : IsL w A len cap l) : Px.RepV w N0 Px.none' (.s (.sl .u64 l)) (.slice A len cap) := by
 obtain rfl := h.len
 exact Px.r_sl h.c h.cap
set_option maxRecDepth 100000 in
theorem op_cells {H : Type} {enc : TypeId × Value → H} {w : World} {base fuel : Nat} {spare : Nat → Bool} {held : Bool} {cs : List Value} {y : DataW H × List MemPlace} (h : DataW.trod enc Tryz.prog w base spare held fuel 55 cs = some y) (hw : Wt 55 y.1) :
  ∃ t : El, cs = [.int .i64 t.kd, .int .i64 t.fm, .bool t.na, .slice t.aa t.ln t.ca, .int .i64 t.ea, .bool t.nb, .slice t.ab t.lm t.cb, .int .i64 t.eb, .int .u64 t.wd] ∧ Ok w t := by
 obtain ⟨xs, n, _, hy, hc, hx, hg⟩ := DataW.trod_struct Tryz.underlying55 h
 have hc : cs.length = 9 := hc.trans (show Tryz.prog.cellsOf 55 = 9 by kernel_rfl)
 have hx2 : xs.length = 5 := hx
 match cs, hc, xs, hx2 with
 | [c0, c1, c2, c3, c4, c5, c6, c7, c8], _, [y0, y1, y2, y3, y4], _ =>
  have hx1 : y.1 = .agg [y0.1, y1.1, y2.1, y3.1, y4.1] := by rw [hy]; rfl
  rw [hx1] at hw
  have w2 : Wt 26 y2.1 := hw.part Tryz.underlying55 (j := 2) rfl rfl
  have w3 : Wt 26 y3.1 := hw.part Tryz.underlying55 (j := 3) rfl rfl
  have g0 : DataW.trod enc Tryz.prog w base spare held n 3 [c0] = some y0 := hg 0 _ rfl
  have g1 : DataW.trod enc Tryz.prog w base spare held n 3 [c1] = some y1 := hg 1 _ rfl
  have g2 : DataW.trod enc Tryz.prog w base spare held n 26 [c2, c3, c4] = some y2 := hg 2 _ rfl
  have g3 : DataW.trod enc Tryz.prog w base spare held n 26 [c5, c6, c7] = some y3 := hg 3 _ rfl
  have g4 : DataW.trod enc Tryz.prog w base spare held n 29 [c8] = some y4 := hg 4 _ rfl
  obtain ⟨k, q0, _, _⟩ := DataW.trod_int Tryz.underlying3 g0
  obtain ⟨f, q1, _, wf⟩ := DataW.trod_int Tryz.underlying3 g1
  obtain ⟨na, aa, la, ca, ml, ea, q2, h2, s2, e2⟩ := dy_w g2 w2
  obtain ⟨nb, ab, lb, cb, mm, eb, q3, h3, s3, e3⟩ := dy_w g3 w3
  obtain ⟨wd, q4, _, ww⟩ := DataW.trod_int Tryz.underlying29 g4
  obtain rfl := List.head_eq_of_cons_eq q0
  obtain rfl := List.head_eq_of_cons_eq q1
  injection q2 with r1 q2
  injection q2 with r2 q2
  injection q2 with r3 q2
  injection q3 with r4 q3
  injection q3 with r5 q3
  injection q3 with r6 q3
  subst r1; subst r2; subst r3; subst r4; subst r5; subst r6
  obtain rfl := List.head_eq_of_cons_eq q4
  have e1 : IntKind.u64.min = 0 := rfl
  have e9 : IntKind.u64.max = 18446744073709551615 := rfl
  have hh : IntKind.u64.min ≤ wd ∧ wd ≤ IntKind.u64.max := by simpa [Lit.wf] using ww
  obtain ⟨wn, rfl⟩ : ∃ m : Nat, wd = (m : Int) := ⟨wd.toNat, by omega⟩
  exact ⟨⟨k, f, na, aa, la, ca, ml, ea, nb, ab, lb, cb, mm, eb, wn⟩, rfl, ⟨wf, rep_isL h2, h2.wf, by have := h2.len; show ml.length ≤ _; omega, e2, rep_isL h3, h3.wf, by have := h3.len; show mm.length ≤ _; omega, e3, by show wn < _; omega⟩⟩
theorem sized {H : Type} {enc : TypeId × Value → H} {W : World} {base : Nat} {held : Bool} {a : Option Addr} {len cap : Nat} {d : DataW H} {ps : List MemPlace} {ts : List TypeId} {ds : List (DataW H)} {j : Nat}
  (hsz : (DataW.weightsEach Tryz.prog ts ds).all (· ≤ reachBytes) = true) (ht : ts[j]? = some 52) (hd : ds[j]? = some d) (h : DataW.Trod enc Tryz.prog W base (fun _ => true) held 52 (.slice a len cap) d ps) : len < 9000000000000000000 ∧ IsOps W a len := by
 obtain ⟨fuel, hf⟩ := h
 have hw := Wt.of_each hsz ht hd
 rcases open_slice Tryz.underlying52 hf with ⟨hcs, _⟩ | ⟨x, l, c, m, n, D, Pl, hcs, _, hl, _, hm, hx, hi⟩
 ·simp [Value.cells] at hcs
  obtain ⟨rfl, rfl, rfl⟩ := hcs
  exact ⟨by omega, .inl rfl⟩
 ·simp [Value.cells] at hcs
  obtain ⟨rfl, rfl, rfl⟩ := hcs
  rw [if_pos rfl] at hm
  subst hm
  obtain ⟨hx, _⟩ := Prod.mk.inj hx
  subst hx
  have z := hw.len Tryz.underlying52
  have hb : Tryz.prog.bytesOf 55 = 104 := by kernel_rfl
  have hr : reachBytes < 140737488355328 := by decide
  have hC : Tryz.prog.cellsOf 55 = 9 := by kernel_rfl
  rw [hb, List.length_map, List.length_range] at z
  refine ⟨by omega, ?_⟩
  by_cases h0 : len = 0
  ·exact .inl h0
  obtain ⟨b, o, sp⟩ := x
  have el : ∀ i, i < len → ∃ t, [Value.int .i64 t.kd, .int .i64 t.fm, .bool t.na, .slice t.aa t.ln t.ca, .int .i64 t.ea, .bool t.nb, .slice t.ab t.lm t.cb, .int .i64 t.eb, .int .u64 t.wd].length = 9 ∧ Ok W t ∧ ∀ (q : Nat) (v : Value), q < 9 → [Value.int .i64 t.kd, .int .i64 t.fm, .bool t.na, .slice t.aa t.ln t.ca, .int .i64 t.ea, .bool t.nb, .slice t.ab t.lm t.cb, .int .i64 t.eb, .int .u64 t.wd][q]? = some v → W.cell? ((⟨b, o, sp⟩ : Addr).add (i * 9 + q)) = some v := fun i hil => by
   obtain ⟨cs, hc, ht'⟩ := hi i (by omega)
   rw [hC] at hc
   have wi : Wt 55 (D i) := hw.elem Tryz.underlying52 (List.mem_map.2 ⟨i, List.mem_range.2 hil, rfl⟩)
   obtain ⟨t, rfl, ok⟩ := op_cells ht' wi
   obtain ⟨_, hcl, hat⟩ := World.cells?_some hc
   exact ⟨t, rfl, ok, fun q v hq hv => by rw [← Go.Deep.add_add, hat q hq, hv]⟩
  have hsp : sp = none := by
   obtain ⟨t, _, _, hc⟩ := el 0 (by omega)
   have c := hc 0 _ (by decide) rfl
   have e : (⟨b, o, sp⟩ : Addr).add (0 * 9 + 0) = ⟨b, o, sp⟩ := by unfold Addr.add; rw [if_pos rfl]
   rw [e] at c
   cases sp with
   | none => rfl
   | some s =>
    exfalso
    unfold World.cell? at c
    simp at c
    split at c <;> cases c
  subst hsp
  have ea : ∀ k, (⟨b, o, none⟩ : Addr).add k = ⟨b, o + k, none⟩ := by intro k; unfold Addr.add; split <;> simp <;> omega
  refine .inr ⟨b, o, rfl, fun i hil => ?_⟩
  obtain ⟨t, _, ok, hc⟩ := el i hil
  have hc' : ∀ (q : Nat) (v : Value), q < 9 → [Value.int .i64 t.kd, .int .i64 t.fm, .bool t.na, .slice t.aa t.ln t.ca, .int .i64 t.ea, .bool t.nb, .slice t.ab t.lm t.cb, .int .i64 t.eb, .int .u64 t.wd][q]? = some v → W.cell? ⟨b, o + i * 9 + q, none⟩ = some v := fun q v hq hv => by
   have := hc q v hq hv
   rw [ea] at this
   rw [Nat.add_assoc]; exact this
  exact ⟨t, ⟨⟨hc' 0 _ (by decide) rfl, hc' 1 _ (by decide) rfl, hc' 2 _ (by decide) rfl, hc' 3 _ (by decide) rfl, hc' 4 _ (by decide) rfl, hc' 5 _ (by decide) rfl, hc' 6 _ (by decide) rfl, hc' 7 _ (by decide) rfl, hc' 8 _ (by decide) rfl⟩, ok⟩⟩
end Go.Proofs.YtelfmddcjlocpaaGreatDoor.RnRow
end
