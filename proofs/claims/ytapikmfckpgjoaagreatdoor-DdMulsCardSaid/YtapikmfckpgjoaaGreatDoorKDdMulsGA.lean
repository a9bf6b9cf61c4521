/- Px at this seat's program: the two theorems by which a function's ways are shown, with small words for the facts. Condition: math/bits' table is laid (Tab). Px: from contracts in the print's form to contracts of Px. Plain lemmas. No condition. Rows of limbs in memory, of any length: trim, told, Form, Bits. Conditions: rows of less than 2^40 limbs. -/
import Derived.Test.YtapikmfckpgjoaaGreatDoorKDdMulsPxJ
import Derived.Test.YtapikmfckpgjoaaGreatDoorKDdMulsRnd
import Derived.Test.YtapikmfckpgjoaaGreatDoorKDdMulsGivenD
import Derived.Deep.RegionHeld3
import Derived.Deep.QuietTactic
import Derived.BigQuiet
section
set_option linter.unusedVariables false
set_option linter.unusedSimpArgs false
namespace Go.Proofs.YtapikmfckpgjoaaGreatDoor.Px
open Go Go.RowKit Go.Proofs.YtapikmfckpgjoaaGreatDoorW.PrintWords Go.Proofs.YtapikmfckpgjoaaGreatDoorW.PrintMore
abbrev Gw : World → Prop := Go.Proofs.YtapikmfckpgjoaaGreatDoor.GTab.Tab
theorem Gw_next : ∀ w w' : World, Gw w → Below w.heap.size w w' → Gw w' := fun _ _ h d => Go.Proofs.YtapikmfckpgjoaaGreatDoor.GTab.Tab.next h d
theorem bnd {α β : Type} {o : Option α} {f : α → Option β} {b : β} (h : o.bind f = some b) : ∃ a, o = some a ∧ f a = some b := Option.bind_eq_some_iff.1 h
theorem ite_e {α : Type} {c : Prop} [Decidable c] {a b : Option α} {r : α} (h : (if c then a else b) = some r) : (c ∧ a = some r) ∨ (¬ c ∧ b = some r) := by
 by_cases x : c
 ·rw [if_pos x] at h; exact .inl ⟨x, h⟩
 ·rw [if_neg x] at h; exact .inr ⟨x, h⟩
theorem ai {a b : Prop} (x : a) (y : b) : a ∧ b := ⟨x, y⟩
theorem d1 {p : Prop} [Decidable p] (h : p) : decide p = true := decide_eq_true h
theorem d0 {p : Prop} [Decidable p] (h : ¬ p) : decide p = false := decide_eq_false h
theorem q1 {α : Type} [BEq α] [LawfulBEq α] {x y : α} (h : x = y) : (x == y) = true := beq_iff_eq.2 h
theorem q0 {α : Type} [BEq α] [LawfulBEq α] {x y : α} (h : ¬ x = y) : (x == y) = false := beq_eq_false_iff_ne.2 h
theorem n1 {α : Type} [BEq α] [LawfulBEq α] {x y : α} (h : ¬ x = y) : (x != y) = true := bne_iff_ne.2 h
theorem n0 {α : Type} [BEq α] [LawfulBEq α] {x y : α} (h : x = y) : (x != y) = false := bne_eq_false_iff_eq.2 h
theorem z0 {x : Bool} (h : ¬ x = true) : x = false := by cases x <;> simp_all
theorem si {α : Type} {a b : α} (h : some a = some b) : a = b := Option.some.inj h
theorem tt : true = true := rfl
theorem ff : false = false := rfl
theorem nn {α : Type} {r : α} {p : Prop} (h : (none : Option α) = some r) : p := by cases h
theorem nt1 {x : Bool} (h : x = true) : (!x) = false := by rw [h]; rfl
theorem eqc {x a b : Int} {v : Bool} (h : x = a) (k : (a == b) = v) : (x == b) = v := by rw [h]; exact k
theorem nt0 {x : Bool} (h : x = false) : (!x) = true := by rw [h]; rfl
def nav : Code → List Nat → List Item → List Item
 | .seq a b, 0 :: p, k => nav a p (.code b :: k)
 | .seq _ b, _ :: p, k => nav b p k
 | .cond _ a _, 0 :: p, k => nav a p k
 | .cond _ _ b, _ :: p, k => nav b p k
 | .block id c, _ :: p, k => nav c p (.inBlock id :: k)
 | .loop c, _ :: p, k => nav c p (.inLoop c :: k)
 | c, _, k => .code c :: k
def lk (i : Nat) : List (Nat × PV) → PV
 | [] => .s .top
 | (j, v) :: l => bif Nat.beq i j then v else lk i l
def mkT (n : Nat) (l : List (Nat × PV)) : List PV := (List.range n).map fun i => lk i l
def okFn (fn : Func) : Bool := !(fn.name == "runtime.NumGoroutine") && !fn.body.isNone
theorem mixed : Tryz.prog.follows .mixedOrders = true := by kernel_rfl
theorem pth {f : FuncId} {fn : Func} (hf : Tryz.prog.funcs[f]? = some fn) (an : List Ans) {args : List PV} {x : PV} {p : Prop} (h : x = x → p) (e : (okFn fn, goF Tryz.prog Gw f fn (· = x) 4000 args an) = (true, p)) : Con Tryz.prog Gw f args (· = x) := by
 obtain ⟨e1, e2⟩ := Prod.mk.inj e
 unfold okFn at e1
 rw [Bool.and_eq_true, Bool.not_eq_true', Bool.not_eq_true'] at e1
 refine con_of mixed Gw_next hf e1.1 e1.2 ?_
 unfold goF at e2
 exact go_sound mixed Gw_next hf 4000 _ _ an (e2 ▸ h rfl)
theorem jth {f : FuncId} {fn : Func} (hf : Tryz.prog.funcs[f]? = some fn) (an : List Ans) {todo : List Item} {st : St} {x : PV} {p : Prop} (h : x = x → p) (e : go Tryz.prog Gw f fn.results.toList (· = x) 4000 todo st an = p) : Fin Tryz.prog Gw f todo st (· = x) :=
 go_sound mixed Gw_next hf 4000 _ _ an (e ▸ h rfl)
end Go.Proofs.YtapikmfckpgjoaaGreatDoor.Px
end
section
set_option linter.unusedVariables false
set_option linter.unusedSimpArgs false
namespace Go.Proofs.YtapikmfckpgjoaaGreatDoor.Px
open Go Go.RowKit Go.Proofs.YtapikmfckpgjoaaGreatDoorW.PrintWords Go.Proofs.YtapikmfckpgjoaaGreatDoorW.PrintMore
section
variable {w w' : World} {S : Nat → Prop}
theorem toC {k : IntKind} {l : List Int} {v : Value} (h : RepC w S none' (.sl k l) v) : ∃ A c, v = .slice A l.length c ∧ l.length ≤ c ∧ Kd.C (Kd.int k) w A l.length l := by
 obtain ⟨A, c, h1, h2, h3⟩ := h
 refine ⟨A, c, h1, h2, rfl, ?_, fun hp => ?_⟩
 ·rcases h3 with rfl | ⟨b, o, _, h5, _⟩
  ·decide
  ·exact h5.2
 ·rcases h3 with rfl | ⟨b, o, rfl, h5, h6⟩
  ·simp at hp
  ·refine ⟨_, rfl, fun j d hj => ⟨[.int k d], rfl, rfl, fun i u hi => ?_⟩⟩
   cases i with
   | zero =>
    obtain rfl : Value.int k d = u := by simpa using hi
    have hj1 : j * (Kd.int k).sz + 0 = j := Nat.mul_one j
    rw [hj1, add_plain]
    exact h6 j d hj
   | succ i => simp at hi
theorem ofC_ {k : IntKind} {l : List Int} {A : Option Addr} {c : Nat} (hc : l.length ≤ c) (h : Kd.C (Kd.int k) w A l.length l) (hS : ∀ (ad : Addr), A = some ad → ad.spot = none → ¬ S ad.block) : RepC w S none' (.sl k l) (.slice A l.length c) := by
 obtain ⟨_, h2, h3⟩ := h
 refine ⟨A, c, rfl, hc, ?_⟩
 cases l with
 | nil => exact .inl rfl
 | cons d0 l =>
  obtain ⟨ad, rfl, h4⟩ := h3 (by simp)
  have cell : ∀ (j : Nat) (d : Int), (d0 :: l)[j]? = some d → w.cell? (ad.add j) = some (.int k d) := by
   intro j d hj
   obtain ⟨c', _, e1, e2⟩ := h4 j d hj
   obtain rfl : c' = [.int k d] := e1
   have := e2 0 _ rfl
   simpa [Kd.int, Kd.scalar] using this
  obtain ⟨b, o, sp⟩ := ad
  have hs : sp = none := by
   have h0 := cell 0 d0 rfl
   cases sp with
   | none => rfl
   | some s =>
    exfalso
    unfold Addr.add at h0
    rw [if_pos rfl] at h0
    unfold World.cell? at h0
    split at h0
    ·simp at h0
    ·simp at h0
  subst hs
  refine .inr ⟨b, o, rfl, ⟨hS _ rfl rfl, h2⟩, fun j d hj => ?_⟩
  rw [← add_plain]
  exact cell j d hj
theorem ofR {k : IntKind} {l : List Int} {v : Value} {e base : Nat} {ok : Nat → Prop} (h : Kd.R (Kd.int k) e w' base ok v l) (hS : ∀ b, S b → b < base) : RepC w' S none' (.sl k l) v := by
 obtain ⟨A, c, rfl, h1, h2⟩ := Kd.R_reads h
 refine ofC_ h1 h2 fun ad e hs hb => ?_
 subst e
 have := Kd.R_base h ad.block (by simp [Value.ownBlock])
 have := hS _ hb
 omega
theorem brg {f : FuncId} {fn : Func} {args : List PV} {R : PV → Prop} (hf : Tryz.prog.funcs[f]? = some fn) (e : okFn fn = true)
  (h : ∀ (w : World) (S : Nat → Prop) (vs : List Value), Gw w → (∀ b, S b → b < w.heap.size) → All2 (RepV w S none') args vs → Calls Tryz.prog f vs.toArray w fun e w' => ∃ v x, e = .returned v ∧ R x ∧ RepV w' S none' x v ∧ Below w.heap.size w w') : Con Tryz.prog Gw f args R := by
 unfold okFn at e
 rw [Bool.and_eq_true, Bool.not_eq_true', Bool.not_eq_true'] at e
 exact ⟨⟨fn, hf, e.1, e.2⟩, h⟩
theorem a_sl {k : IntKind} {l : List Int} {ps : List PV} {vs : List Value} (h : All2 (RepV w S none') (.s (.sl k l) :: ps) vs) : ∃ A c us, vs = .slice A l.length c :: us ∧ l.length ≤ c ∧ Kd.C (Kd.int k) w A l.length l ∧ All2 (RepV w S none') ps us := by
 cases h with
 | cons h1 h2 =>
  obtain ⟨A, c, rfl, h3, h4⟩ := toC h1
  exact ⟨A, c, _, rfl, h3, h4, h2⟩
theorem a_i {k : IntKind} {n : Int} {ps : List PV} {vs : List Value} (h : All2 (RepV w S none') (.s (.i k n) :: ps) vs) : ∃ us, vs = .int k n :: us ∧ All2 (RepV w S none') ps us := by
 cases h with
 | cons h1 h2 => obtain rfl := h1; exact ⟨_, rfl, h2⟩
theorem a_nil {vs : List Value} (h : All2 (RepV w S none') [] vs) : vs = [] := by cases h; rfl
theorem run_t {f : FuncId} {args : List PV} (h : Con Tryz.prog Gw f args (· = .s (.b true))) (gw : Gw w) {vs : List Value} (hv : All2 (RepV w (fun _ => False) none') args vs) : Calls Tryz.prog f vs.toArray w fun e w' => e = .returned (.bool true) ∧ Below w.heap.size w w' :=
 (h.2 w (fun _ => False) vs gw (fun _ h => h.elim) hv).mono fun e w' ⟨v, x, he, hx, hr, hb⟩ => by
  subst hx
  obtain rfl := hr
  exact ⟨he, hb⟩
end
end Go.Proofs.YtapikmfckpgjoaaGreatDoor.Px
end
section
namespace Go.Proofs.YtapikmfckpgjoaaGreatDoor.GA
open Go.RowKit Go.Proofs.YtapikmfckpgjoaaGreatDoorW.PrintWords Go.Proofs.YtapikmfckpgjoaaGreatDoorW.PrintMore Go.Proofs.YtapikmfckpgjoaaGreatDoorW.PrintLast Go.Proofs.YtapikmfckpgjoaaGreatDoor.Num Go.Proofs.YtapikmfckpgjoaaGreatDoor.Ref Go.Proofs.YtapikmfckpgjoaaGreatDoor.GBase Go.Proofs.YtapikmfckpgjoaaGreatDoor.GTh
structure At (w : World) (G o n x : Nat) : Prop where mk :: (big : x < pw n) (cell : ∀ j, j < n → w.cell? ⟨G, o + j, none⟩ = some (.int .u64 ((dw x j : Nat) : Int)))
theorem At.next {w w' : World} {G o n x : Nat} (h : At w G o n x) (d : Below w.heap.size w w') : At w' G o n x :=
 ⟨h.big, fun j hj => by rw [d.cell (p := ⟨G, o + j, none⟩) (World.block_lt_of_cell? _ _ (h.cell j hj))]; exact h.cell j hj⟩
theorem At.top {w : World} {G o n x : Nat} (h : At w G o n x) : At w G o (nl x) x := ⟨nl_lt x, fun j hj => h.cell j (Nat.lt_of_lt_of_le hj (nl_le_iff.2 h.big))⟩
structure Rw (w : World) (A : Option Addr) (n c x : Nat) : Prop where mk :: (cap : n ≤ c) (row : (True ∧ n = 0 ∧ True ∧ x = 0) ∨ ∃ G o, A = some ⟨G, o, none⟩ ∧ At w G o n x)
theorem Rw.next {w w' : World} {A : Option Addr} {n c x : Nat} (h : Rw w A n c x) (d : Below w.heap.size w w') : Rw w' A n c x :=
 ⟨h.cap, h.row.imp id (fun ⟨G, o, e, k⟩ => ⟨G, o, e, k.next d⟩)⟩
theorem Rw.big {w : World} {A : Option Addr} {n c x : Nat} (h : Rw w A n c x) : x < pw n := by
 rcases h.row with ⟨_, e, _, f⟩ | ⟨G, o, _, k⟩
 ·rw [f]; exact pw_pos _
 ·exact k.big
theorem Rw.top {w : World} {A : Option Addr} {n c x : Nat} (h : Rw w A n c x) : Rw w A (nl x) c x := by
 refine ⟨Nat.le_trans (nl_le_iff.2 h.big) h.cap, ?_⟩
 rcases h.row with ⟨a, e, f, g⟩ | ⟨G, o, a, k⟩
 ·exact .inl ⟨a, by rw [g]; rfl, f, g⟩
 ·exact .inr ⟨G, o, a, k.top⟩
def Nt (w : World) (A : Option Addr) (c x : Nat) : Prop := Rw w A (nl x) c x
theorem Nt.next {w w' : World} {A : Option Addr} {c x : Nat} (h : Nt w A c x) (d : Below w.heap.size w w') : Nt w' A c x := Rw.next h d
theorem trim_none (w : World) (A : Option Addr) (c : Nat) : Calls Tryz.prog 118 #[.slice A 0 c] w fun e w' => e = .returned (.slice A 0 c) ∧ w' = w := by
 go_enter Tryz.func118, Tryz.ntmps118
 go_wp2_with fail
 go_loopg [3] 0 (fun g i wr => g = 0 ∧ i = .int .i64 0 ∧ wr = w)
 case atStart => exact ⟨rfl, rfl, rfl⟩
 case round =>
  obtain ⟨rfl, rfl, rfl⟩ := hrel
  go_wp2_with fail
  go_ret
  exact ⟨rfl, rfl⟩
theorem trim_some (w : World) (G o n c x : Nat) (h : At w G o n x) (hc : n ≤ c) (hn : n < 1099511627776) : Calls Tryz.prog 118 #[.slice (some ⟨G, o, none⟩) n c] w fun e w' => e = .returned (.slice (some ⟨G, o, none⟩) (nl x) c) ∧ w' = w := by
 have HC := Lib.hid h
 have HN := Lib.hid (And.intro hc hn)
 clear h hc hn
 go_enter Tryz.func118, Tryz.ntmps118
 go_wp2_with fail
 go_loopg [3] n (fun g i wr => g ≤ n ∧ nl x ≤ g ∧ i = .int .i64 g ∧ wr = w)
 case atStart => exact ⟨Nat.le_refl _, nl_le_iff.2 HC.out.big, rfl, rfl⟩
 case round =>
  obtain ⟨hg, hx, rfl, rfl⟩ := hrel
  generalize gk = m at *
  have hn := HN.out.2
  have hcc := HN.out.1
  by_cases c0 : m = 0
  ·subst c0
   have e : nl x = 0 := by omega
   clear hg hx hn hcc
   go_wp2_with fail
   go_ret
   exact ⟨by rw [e]; rfl, rfl⟩
  ·obtain ⟨k, hk⟩ : ∃ k, m = k + 1 := ⟨m - 1, by omega⟩
   have q0 : decide (0 < m) = true := decide_eq_true (by omega)
   have q1 : IntKind.i64.wrap ((m : Int) - 1) = (k : Int) := by rw [IntWalk.i64_in _ (by omega)]; omega
   have q2 : (k : Int) < (n : Int) := by omega
   have q3 : decide (k < n) = true := decide_eq_true (by omega)
   have cc := HC.out.cell k (by omega)
   by_cases cd : dw x k = 0
   ·have H := Lib.hid (And.intro hk (show nl x ≤ k from nl_le_iff.2 (lt_of_dw (by rw [← hk]; exact nl_le_iff.1 hx) cd)))
    rw [cd] at cc
    clear hk hx hg c0 cd hn hcc
    go_wp2_with fail
    go_roundg k
    case measure => have := H.out.1; omega
    case rel => exact ⟨by omega, H.out.2, rfl, rfl⟩
   ·have e : nl x = m := by rw [hk]; exact nl_of (by rw [← hk]; exact nl_le_iff.1 hx) cd
    generalize dw x k = d at *
    have q4 : ((d : Int) == 0) = false := by simpa using cd
    have q5 : (m : Int) ≤ (c : Int) := by omega
    have E := Lib.hid e
    clear hk hx c0 cd e hn hg
    go_wp2_with fail
    go_ret
    exact ⟨by rw [E.out]; rfl, rfl⟩
theorem trim_any (w : World) (A : Option Addr) (n c x : Nat) (h : Rw w A n c x) (hn : n < 1099511627776) : Calls Tryz.prog 118 #[.slice A n c] w fun e w' => e = .returned (.slice A (nl x) c) ∧ w' = w := by
 rcases h.row with ⟨_, rfl, _, rfl⟩ | ⟨G, o, rfl, k⟩
 ·exact trim_none w A c
 ·exact trim_some w G o n c x k h.cap hn
theorem form_any (w : World) (A : Option Addr) (c x : Nat) (h : Nt w A c x) (hx : nl x ≤ 8192) : Calls Tryz.prog 108 #[.slice A (nl x) c] w fun e w' => e = .returned (.bool true) ∧ w' = w := by
 rcases h.row with ⟨_, e, _, _⟩ | ⟨G, o, rfl, k⟩
 ·rw [e]
  clear h hx e
  go_enter Tryz.func108, Tryz.ntmps108
  go_wp2_with fail
  go_ret
  exact ⟨by simp, rfl⟩
 ·by_cases c0 : x = 0
  ·have e : nl x = 0 := by rw [c0]; rfl
   rw [e]
   clear h hx e k c0
   go_enter Tryz.func108, Tryz.ntmps108
   go_wp2_with fail
   go_ret
   exact ⟨by simp, rfl⟩
  ·have p := nl_pos c0
   have t := nl_top c0
   have cc := k.cell (nl x - 1) (by omega)
   generalize dw x (nl x - 1) = d at *
   generalize nl x = n at *
   obtain ⟨m, hm⟩ : ∃ m, m = n - 1 := ⟨_, rfl⟩
   rw [← hm] at cc
   have q0 : decide (n ≤ 8192) = true := decide_eq_true hx
   have q0' : (n : Int) ≤ 8192 := by omega
   have q1 : IntKind.i64.wrap ((n : Int) - 1) = (m : Int) := by rw [IntWalk.i64_in _ (by omega)]; omega
   have q2 : (m : Int) < (n : Int) := by omega
   have q3 : decide (m < n) = true := decide_eq_true (by omega)
   have q4 : ((d : Int) != 0) = true := by simpa using t
   have q4' : ((d : Int) == 0) = false := by simpa using t
   have q5 : ((n : Int) == 0) = false := by simp; omega
   have q6 : ((n : Int) != 0) = true := by simp; omega
   clear h hx p t hm k c0
   go_enter Tryz.func108, Tryz.ntmps108
   go_wp2_with fail
   go_ret
   exact ⟨by simp, rfl⟩
theorem told_any (w : World) (A : Option Addr) (n c x : Nat) (h : Rw w A n c x) (hn : n < 1099511627776) (hx : nl x ≤ 8192) : Calls Tryz.prog 113 #[.slice A n c] w fun e w' => e = .returned (.tuple #[.slice A (nl x) c, .int .i64 0]) ∧ w' = w := by
 have HT := Lib.hid (trim_any w A n c x h hn)
 have q0 : decide ((8192 : Int) < ((nl x : Nat) : Int)) = false := decide_eq_false (by omega)
 generalize nl x = m at *
 clear h hx
 go_enter Tryz.func113, Tryz.ntmps113
 go_wp2_with fail
 refine HT.out.mono ?_
 rintro e w1 ⟨rfl, rfl⟩
 go_wp2_with fail
 go_ret2
 exact ⟨rfl, rfl⟩
end Go.Proofs.YtapikmfckpgjoaaGreatDoor.GA
end
