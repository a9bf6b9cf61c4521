/- Px at this seat's program: the two theorems by which a function's ways are shown, with small words for the facts. Condition: math/bits' table is laid (Tab). Px: from contracts in the print's form to contracts of Px. Plain lemmas. No condition. Limbs of 64 bits: the words of a natural number, their count, what one word more adds. Plain Lean; no program in sight. No condition. What the naturals' functions answer, as plain Lean on lists of limbs. No program in sight. No condition. -/
import Derived.Test.YtelfmddcjlocpaaGreatDoorKRoundQuotedPxJ
import Derived.Test.YtelfmddcjlocpaaGreatDoorKRoundQuotedPxA
import Derived.Test.YtelfmddcjlocpaaGreatDoorKRoundQuotedBl
section
set_option linter.unusedVariables false
set_option linter.unusedSimpArgs false
namespace Go.Proofs.YtelfmddcjlocpaaGreatDoor.Px
open Go Go.RowKit Go.Proofs.YtelfmddcjlocpaaGreatDoorW.PrintWords Go.Proofs.YtelfmddcjlocpaaGreatDoorW.PrintMore
abbrev Gw : World → Prop := Go.Proofs.YtelfmddcjlocpaaGreatDoor.GTab.Tab
theorem Gw_next : ∀ w w' : World, Gw w → Below w.heap.size w w' → Gw w' := fun _ _ h d => Go.Proofs.YtelfmddcjlocpaaGreatDoor.GTab.Tab.next h d
theorem bnd {α β : Type} {o : Option α} {f : α → Option β} {b : β} (h : o.bind f = some b) : ∃ a, o = some a ∧ f a = some b := Option.bind_eq_some_iff.1 h
theorem ite_e {α : Type} {c : Prop} [Decidable c] {a b : Option α} {r : α} (h : (if c then a else b) = some r) : (c ∧ a = some r) ∨ (¬ c ∧ b = some r) := by
 by_cases x : c
 ·rw [if_pos x] at h; exact .inl ⟨x, h⟩
 ·rw [if_neg x] at h; exact .inr ⟨x, h⟩
theorem ai {a b : Prop} (x : a) (y : b) : a ∧ b := ⟨x, y⟩
theorem d1 {p : Prop} [Decidable p] (h : p) : decide p = true := decide_eq_true h
theorem d0 {p : Prop} [Decidable p] (h : ¬ p) : decide p = false := decide_eq_false h
theorem q1 {α : Type} [BEq α] [LawfulBEq α] {x y : α} (h : x = y) : (x == y) = true := beq_iff_eq.2 h
theorem q0 {α : Type} [BEq α] [LawfulBEq α] {x y : α} (h : ¬ x = y) : (x == y) = false := beq_eq_false_iff_ne.2 h
theorem n1 {α : Type} [BEq α] [LawfulBEq α] {x y : α} (h : ¬ x = y) : (x != y) = true := bne_iff_ne.2 h
theorem n0 {α : Type} [BEq α] [LawfulBEq α] {x y : α} (h : x = y) : (x != y) = false := bne_eq_false_iff_eq.2 h
theorem z0 {x : Bool} (h : ¬ x = true) : x = false := by cases x <;> simp_all
theorem si {α : Type} {a b : α} (h : some a = some b) : a = b := Option.some.inj h
theorem tt : true = true := rfl
theorem ff : false = false := rfl
theorem nn {α : Type} {r : α} {p : Prop} (h : (none : Option α) = some r) : p := by cases h
theorem nt1 {x : Bool} (h : x = true) : (!x) = false := by rw [h]; rfl
theorem nt0 {x : Bool} (h : x = false) : (!x) = true := by rw [h]; rfl
def nav : Code → List Nat → List Item → List Item
 | .seq a b, 0 :: p, k => nav a p (.code b :: k)
 | .seq _ b, _ :: p, k => nav b p k
 | .cond _ a _, 0 :: p, k => nav a p k
 | .cond _ _ b, _ :: p, k => nav b p k
 | .block id c, _ :: p, k => nav c p (.inBlock id :: k)
 | .loop c, _ :: p, k => nav c p (.inLoop c :: k)
 | c, _, k => .code c :: k
def lk (i : Nat) : List (Nat × PV) → PV
 | [] => .s .top
 | (j, v) :: l => bif Nat.beq i j then v else lk i l
def mkT (n : Nat) (l : List (Nat × PV)) : List PV := (List.range n).map fun i => lk i l
def okFn (fn : Func) : Bool := !(fn.name == "runtime.NumGoroutine") && !fn.body.isNone
theorem mixed : Tryz.prog.follows .mixedOrders = true := by kernel_rfl
theorem pth {f : FuncId} {fn : Func} (hf : Tryz.prog.funcs[f]? = some fn) (an : List Ans) {args : List PV} {x : PV} {p : Prop} (h : x = x → p) (e : (okFn fn, goF Tryz.prog Gw f fn (· = x) 4000 args an) = (true, p)) : Con Tryz.prog Gw f args (· = x) := by
 obtain ⟨e1, e2⟩ := Prod.mk.inj e
 unfold okFn at e1
 rw [Bool.and_eq_true, Bool.not_eq_true', Bool.not_eq_true'] at e1
 refine con_of mixed Gw_next hf e1.1 e1.2 ?_
 unfold goF at e2
 exact go_sound mixed Gw_next hf 4000 _ _ an (e2 ▸ h rfl)
theorem jth {f : FuncId} {fn : Func} (hf : Tryz.prog.funcs[f]? = some fn) (an : List Ans) {todo : List Item} {st : St} {x : PV} {p : Prop} (h : x = x → p) (e : go Tryz.prog Gw f fn.results.toList (· = x) 4000 todo st an = p) : Fin Tryz.prog Gw f todo st (· = x) :=
 go_sound mixed Gw_next hf 4000 _ _ an (e ▸ h rfl)
end Go.Proofs.YtelfmddcjlocpaaGreatDoor.Px
end
section
set_option linter.unusedVariables false
set_option linter.unusedSimpArgs false
namespace Go.Proofs.YtelfmddcjlocpaaGreatDoor.Px
open Go Go.RowKit Go.Proofs.YtelfmddcjlocpaaGreatDoorW.PrintWords Go.Proofs.YtelfmddcjlocpaaGreatDoorW.PrintMore
section
variable {w w' : World} {S : Nat → Prop}
theorem toC {k : IntKind} {l : List Int} {v : Value} (h : RepC w S none' (.sl k l) v) : ∃ A c, v = .slice A l.length c ∧ l.length ≤ c ∧ Kd.C (Kd.int k) w A l.length l := by
 obtain ⟨A, c, h1, h2, h3⟩ := h
 refine ⟨A, c, h1, h2, rfl, ?_, fun hp => ?_⟩
 ·rcases h3 with rfl | ⟨b, o, _, h5, _⟩
  ·decide
  ·exact h5.2
 ·rcases h3 with rfl | ⟨b, o, rfl, h5, h6⟩
  ·simp at hp
  ·refine ⟨_, rfl, fun j d hj => ⟨[.int k d], rfl, rfl, fun i u hi => ?_⟩⟩
   cases i with
   | zero =>
    obtain rfl : Value.int k d = u := by simpa using hi
    have hj1 : j * (Kd.int k).sz + 0 = j := Nat.mul_one j
    rw [hj1, add_plain]
    exact h6 j d hj
   | succ i => simp at hi
theorem ofC_ {k : IntKind} {l : List Int} {A : Option Addr} {c : Nat} (hc : l.length ≤ c) (h : Kd.C (Kd.int k) w A l.length l) (hS : ∀ (ad : Addr), A = some ad → ad.spot = none → ¬ S ad.block) : RepC w S none' (.sl k l) (.slice A l.length c) := by
 obtain ⟨_, h2, h3⟩ := h
 refine ⟨A, c, rfl, hc, ?_⟩
 cases l with
 | nil => exact .inl rfl
 | cons d0 l =>
  obtain ⟨ad, rfl, h4⟩ := h3 (by simp)
  have cell : ∀ (j : Nat) (d : Int), (d0 :: l)[j]? = some d → w.cell? (ad.add j) = some (.int k d) := by
   intro j d hj
   obtain ⟨c', _, e1, e2⟩ := h4 j d hj
   obtain rfl : c' = [.int k d] := e1
   have := e2 0 _ rfl
   simpa [Kd.int, Kd.scalar] using this
  obtain ⟨b, o, sp⟩ := ad
  have hs : sp = none := by
   have h0 := cell 0 d0 rfl
   cases sp with
   | none => rfl
   | some s =>
    exfalso
    unfold Addr.add at h0
    rw [if_pos rfl] at h0
    unfold World.cell? at h0
    split at h0
    ·simp at h0
    ·simp at h0
  subst hs
  refine .inr ⟨b, o, rfl, ⟨hS _ rfl rfl, h2⟩, fun j d hj => ?_⟩
  rw [← add_plain]
  exact cell j d hj
theorem ofR {k : IntKind} {l : List Int} {v : Value} {e base : Nat} {ok : Nat → Prop} (h : Kd.R (Kd.int k) e w' base ok v l) (hS : ∀ b, S b → b < base) : RepC w' S none' (.sl k l) v := by
 obtain ⟨A, c, rfl, h1, h2⟩ := Kd.R_reads h
 refine ofC_ h1 h2 fun ad e hs hb => ?_
 subst e
 have := Kd.R_base h ad.block (by simp [Value.ownBlock])
 have := hS _ hb
 omega
theorem brg {f : FuncId} {fn : Func} {args : List PV} {R : PV → Prop} (hf : Tryz.prog.funcs[f]? = some fn) (e : okFn fn = true)
  (h : ∀ (w : World) (S : Nat → Prop) (vs : List Value), Gw w → (∀ b, S b → b < w.heap.size) → All2 (RepV w S none') args vs → Calls Tryz.prog f vs.toArray w fun e w' => ∃ v x, e = .returned v ∧ R x ∧ RepV w' S none' x v ∧ Below w.heap.size w w') : Con Tryz.prog Gw f args R := by
 unfold okFn at e
 rw [Bool.and_eq_true, Bool.not_eq_true', Bool.not_eq_true'] at e
 exact ⟨⟨fn, hf, e.1, e.2⟩, h⟩
theorem a_sl {k : IntKind} {l : List Int} {ps : List PV} {vs : List Value} (h : All2 (RepV w S none') (.s (.sl k l) :: ps) vs) : ∃ A c us, vs = .slice A l.length c :: us ∧ l.length ≤ c ∧ Kd.C (Kd.int k) w A l.length l ∧ All2 (RepV w S none') ps us := by
 cases h with
 | cons h1 h2 =>
  obtain ⟨A, c, rfl, h3, h4⟩ := toC h1
  exact ⟨A, c, _, rfl, h3, h4, h2⟩
theorem a_i {k : IntKind} {n : Int} {ps : List PV} {vs : List Value} (h : All2 (RepV w S none') (.s (.i k n) :: ps) vs) : ∃ us, vs = .int k n :: us ∧ All2 (RepV w S none') ps us := by
 cases h with
 | cons h1 h2 => obtain rfl := h1; exact ⟨_, rfl, h2⟩
theorem a_nil {vs : List Value} (h : All2 (RepV w S none') [] vs) : vs = [] := by cases h; rfl
theorem r_sl {A : Option Addr} {c : Nat} {k : IntKind} {l : List Int} (h : Kd.C (Kd.int k) w A l.length l) (hc : l.length ≤ c) : RepC w (fun _ => False) none' (.sl k l) (.slice A l.length c) := ofC_ hc h fun _ _ _ h => h
theorem r_dy {A : Option Addr} {c : Nat} {l : List Int} {b : Bool} {x : Int} (h : Kd.C (Kd.int .u64) w A l.length l) (hc : l.length ≤ c) : RepV w (fun _ => False) none' (.ag [.b b, .sl .u64 l, .i .i64 x]) (.agg #[.bool b, .slice A l.length c, .int .i64 x]) :=
 ⟨[_, _, _], rfl, .cons rfl (.cons (r_sl h hc) (.cons rfl .nil))⟩
theorem run_t {f : FuncId} {args : List PV} (h : Con Tryz.prog Gw f args (· = .s (.b true))) (gw : Gw w) {vs : List Value} (hv : All2 (RepV w (fun _ => False) none') args vs) : Calls Tryz.prog f vs.toArray w fun e w' => e = .returned (.bool true) ∧ Below w.heap.size w w' :=
 (h.2 w (fun _ => False) vs gw (fun _ h => h.elim) hv).mono fun e w' ⟨v, x, he, hx, hr, hb⟩ => by
  subst hx
  obtain rfl := hr
  exact ⟨he, hb⟩
end
end Go.Proofs.YtelfmddcjlocpaaGreatDoor.Px
end
section
namespace Go.Proofs.YtelfmddcjlocpaaGreatDoor.GTh
open Go.Proofs.YtelfmddcjlocpaaGreatDoor.Ref
def pw (j : Nat) : Nat := 2^(64 * j)
def dw (x j : Nat) : Nat := x / pw j % 18446744073709551616
def nl (x : Nat) : Nat := (bl x + 63) / 64
theorem e64 : (2 : Nat)^64 = 18446744073709551616 := by decide
theorem pw_pos (j : Nat) : 0 < pw j := Nat.two_pow_pos _
theorem pw_zero : pw 0 = 1 := rfl
theorem pw_one : pw 1 = 18446744073709551616 := by decide
theorem pw_add (i j : Nat) : pw (i + j) = pw i * pw j := by unfold pw; rw [Nat.mul_add, Nat.pow_add]
theorem pw_succ (j : Nat) : pw (j + 1) = pw j * 18446744073709551616 := by rw [pw_add, pw_one]
theorem pw_mono {i j : Nat} (h : i ≤ j) : pw i ≤ pw j := Nat.pow_le_pow_right (by decide) (by omega)
theorem dw_lt (x j : Nat) : dw x j < 18446744073709551616 := Nat.mod_lt _ (by decide)
theorem mod_succ (x j : Nat) : x % pw (j + 1) = x % pw j + pw j * dw x j := by unfold dw; rw [pw_succ, Nat.mod_mul]
theorem div_succ (x j : Nat) : x / pw j = dw x j + 18446744073709551616 * (x / pw (j + 1)) := by
 rw [pw_succ, ← Nat.div_div_eq_div_mul]
 unfold dw
 exact (Nat.mod_add_div _ _).symm
theorem dw_zero_n (j : Nat) : dw 0 j = 0 := by unfold dw; rw [Nat.zero_div]
theorem dw_out {x j : Nat} (h : x < pw j) : dw x j = 0 := by unfold dw; rw [Nat.div_eq_of_lt h]
theorem dw_out' {x n j : Nat} (h : x < pw n) (hj : n ≤ j) : dw x j = 0 := dw_out (Nat.lt_of_lt_of_le h (pw_mono hj))
theorem dw_top {x n : Nat} (h : x < pw (n + 1)) : dw x n = x / pw n := by
 unfold dw
 exact Nat.mod_eq_of_lt (Nat.div_lt_of_lt_mul (by rw [← pw_succ]; exact h))
theorem lt_of_dw {x n : Nat} (h : x < pw (n + 1)) (h0 : dw x n = 0) : x < pw n := by
 rw [dw_top h] at h0
 exact (Nat.div_eq_zero_iff_lt (pw_pos n)).1 h0
theorem ge_of_dw {x n : Nat} (h0 : dw x n ≠ 0) : pw n ≤ x := by
 by_cases h : x < pw n
 ·exact absurd (dw_out h) h0
 ·omega
theorem dw_low {x i j : Nat} (d : Nat) (h : j < i) : dw (x + d * pw i) j = dw x j := by
 obtain ⟨k, rfl⟩ : ∃ k, i = j + (k + 1) := ⟨i - j - 1, by omega⟩
 unfold dw
 have e : d * pw (j + (k + 1)) = pw j * (d * pw k * 18446744073709551616) := by rw [pw_add, pw_succ]; ac_rfl
 rw [e, Nat.add_mul_div_left _ _ (pw_pos j), Nat.add_mul_mod_self_right]
theorem div_put (x i d : Nat) : (x + d * pw i) / pw i = x / pw i + d := by rw [Nat.mul_comm d, Nat.add_mul_div_left _ _ (pw_pos i)]
theorem dw_at {x i d : Nat} (h : dw x i = 0) (hd : d < 18446744073709551616) : dw (x + d * pw i) i = d := by
 unfold dw at h ⊢
 rw [div_put, Nat.add_mod, h, Nat.zero_add, Nat.mod_mod, Nat.mod_eq_of_lt hd]
theorem dw_high {x i j d : Nat} (h : dw x i = 0) (hd : d < 18446744073709551616) (hj : i < j) : dw (x + d * pw i) j = dw x j := by
 obtain ⟨k, rfl⟩ : ∃ k, j = i + 1 + k := ⟨j - i - 1, by omega⟩
 have hq : ∀ y, y / pw (i + 1 + k) = y / pw i / 18446744073709551616 / pw k := fun y => by rw [pw_add, pw_succ, ← Nat.div_div_eq_div_mul, ← Nat.div_div_eq_div_mul]
 unfold dw at h ⊢
 rw [hq, hq x, div_put]
 have : (x / pw i + d) / 18446744073709551616 = x / pw i / 18446744073709551616 := by omega
 rw [this]
theorem dw_put {x i d : Nat} (h : dw x i = 0) (hd : d < 18446744073709551616) (j : Nat) : dw (x + d * pw i) j = if j = i then d else dw x j := by
 by_cases c : j = i
 ·rw [if_pos c, c]; exact dw_at h hd
 ·rw [if_neg c]
  by_cases c2 : j < i
  ·exact dw_low d c2
  ·exact dw_high h hd (by omega)
theorem dw_new {x y i : Nat} (d : Nat) (hd : d < 18446744073709551616) (h : x + d * pw i = y + dw x i * pw i) (j : Nat) : dw y j = if j = i then d else dw x j := by
 have hx := dw_lt x i
 have hle : dw x i * pw i ≤ x := by
  have h1 := Nat.div_add_mod x (pw i)
  have h2 : dw x i ≤ x / pw i := Nat.mod_le _ _
  have h3 : dw x i * pw i ≤ x / pw i * pw i := Nat.mul_le_mul_right _ h2
  have h4 : x / pw i * pw i ≤ x := Nat.div_mul_le_self _ _
  omega
 have e0 : x = (x - dw x i * pw i) + dw x i * pw i := by omega
 have z : dw (x - dw x i * pw i) i = 0 := by
  have e1 : x / pw i = (x - dw x i * pw i) / pw i + dw x i := by
   conv => lhs; rw [e0]
   exact div_put _ _ _
  have e2 : dw x i = x / pw i % 18446744073709551616 := rfl
  show (x - dw x i * pw i) / pw i % 18446744073709551616 = 0
  omega
 have ey : y = (x - dw x i * pw i) + d * pw i := by omega
 have q1 := dw_put z hd j
 have q2 := dw_put z hx j
 rw [← e0] at q2
 rw [ey, q1]
 by_cases c : j = i
 ·rw [if_pos c, if_pos c]
 ·rw [if_neg c, if_neg c]; rw [if_neg c] at q2; exact q2.symm
theorem bl_le_iff {x k : Nat} : bl x ≤ k ↔ x < 2^k := ⟨fun h => Nat.lt_of_lt_of_le (bl_lt x) (Nat.pow_le_pow_right (by decide) h), bl_le_of_lt⟩
theorem nl_le_iff {x n : Nat} : nl x ≤ n ↔ x < pw n := by
 have h : bl x ≤ 64 * n ↔ x < 2^(64 * n) := bl_le_iff
 unfold nl pw
 rw [← h]
 omega
theorem nl_lt (x : Nat) : x < pw (nl x) := nl_le_iff.1 (Nat.le_refl _)
theorem bl_pos {x : Nat} (h : x ≠ 0) : 0 < bl x := by unfold bl; rw [if_neg h]; omega
theorem nl_zero : nl 0 = 0 := rfl
theorem nl_pos {x : Nat} (h : x ≠ 0) : 0 < nl x := by have := bl_pos h; unfold nl; omega
theorem nl_eq_zero {x : Nat} : nl x = 0 ↔ x = 0 := by
 constructor
 ·intro h
  by_cases c : x = 0
  ·exact c
  ·have := nl_pos c; omega
 ·rintro rfl; rfl
theorem nl_ge {x : Nat} (h : x ≠ 0) : pw (nl x - 1) ≤ x := by
 by_cases c : x < pw (nl x - 1)
 ·have h1 := nl_le_iff.2 c
  have h2 := nl_pos h
  omega
 ·omega
theorem nl_top {x : Nat} (h : x ≠ 0) : dw x (nl x - 1) ≠ 0 := by
 intro c
 have h2 := nl_pos h
 have h1 : x < pw (nl x - 1 + 1) := by rw [show nl x - 1 + 1 = nl x by omega]; exact nl_lt x
 have := lt_of_dw h1 c
 have := nl_ge h
 omega
theorem nl_of {x n : Nat} (h1 : x < pw (n + 1)) (h2 : dw x n ≠ 0) : nl x = n + 1 := by
 have a := nl_le_iff.2 h1
 have b := ge_of_dw h2
 by_cases c : nl x ≤ n
 ·have := nl_le_iff.1 c; omega
 ·omega
theorem nl_mono {x y : Nat} (h : x ≤ y) : nl x ≤ nl y := nl_le_iff.2 (Nat.lt_of_le_of_lt h (nl_lt y))
theorem nl_one {x : Nat} (h : x ≠ 0) (h2 : x < 18446744073709551616) : nl x = 1 := by
 have := nl_pos h
 have : nl x ≤ 1 := nl_le_iff.2 (by rw [pw_one]; exact h2)
 omega
theorem bl_limbs {x : Nat} (h : x ≠ 0) : 64 * (nl x - 1) + bl (dw x (nl x - 1)) = bl x := by
 have h2 := nl_pos h
 have h1 : x < pw (nl x - 1 + 1) := by rw [show nl x - 1 + 1 = nl x by omega]; exact nl_lt x
 have t := nl_top h
 rw [dw_top h1] at t ⊢
 exact (bl_shift' x (64 * (nl x - 1)) t).symm
where bl_shift' (x b : Nat) (h : x / 2^b ≠ 0) : bl x = b + bl (x / 2^b) := Ref.bl_shift x b h
theorem bl_le_limbs (x : Nat) : bl x ≤ 64 * nl x := by unfold nl; omega
theorem lt_top {x y i : Nat} (h : x / pw (i + 1) = y / pw (i + 1)) (hd : dw x i < dw y i) : x < y := by
 have h1 := div_succ x i
 have h2 := div_succ y i
 by_cases c : x < y
 ·exact c
 ·have : y / pw i ≤ x / pw i := Nat.div_le_div_right (by omega)
  rw [h] at h1; omega
theorem eq_step {x y i : Nat} (h : x / pw (i + 1) = y / pw (i + 1)) (hd : dw x i = dw y i) : x / pw i = y / pw i := by
 rw [div_succ x i, div_succ y i, h, hd]
theorem nl_lt_lt {x y : Nat} (h : nl x < nl y) : x < y := by
 by_cases c : x < y
 ·exact c
 ·have := nl_mono (show y ≤ x by omega); omega
theorem dw_ext {x y n : Nat} (hx : x < pw n) (hy : y < pw n) (h : ∀ j, j < n → dw x j = dw y j) : x = y := by
 have key : ∀ k, k ≤ n → x % pw k = y % pw k := by
  intro k
  induction k with
  | zero => intro _; rw [pw_zero, Nat.mod_one, Nat.mod_one]
  | succ k ih => intro hk; rw [mod_succ, mod_succ, ih (by omega), h k (by omega)]
 have := key n (Nat.le_refl _)
 rwa [Nat.mod_eq_of_lt hx, Nat.mod_eq_of_lt hy] at this
end Go.Proofs.YtelfmddcjlocpaaGreatDoor.GTh
end
section
namespace Go.Proofs.YtelfmddcjlocpaaGreatDoor.Given
open Go.Proofs.YtelfmddcjlocpaaGreatDoor.Ref Go.Proofs.YtelfmddcjlocpaaGreatDoor.GTh
def vL : List Int → Nat
 | [] => 0
 | d :: t => d.toNat + 18446744073709551616 * vL t
def okL (l : List Int) : Bool := decide (l.length < 1099511627776) && l.all (fun d => decide (0 ≤ d) && decide (d < 18446744073709551616))
def lb (x : Nat) : List Int := (List.range (nl x)).map fun j => ((dw x j : Nat) : Int)
def fm (l : List Int) : Bool := decide (l.length = nl (vL l)) && decide (l.length ≤ 8192)
def tl (x : Nat) : List Int × Int := if nl x ≤ 8192 then (lb x, 0) else ([], 5)
def cmI (x y : Nat) : Int := if x < y then -1 else if y < x then 1 else 0
def tz (x : Nat) : Nat := if x = 0 then 0 else go x x
where go : Nat → Nat → Nat
 | 0, _ => 0
 | k + 1, x => if x % 2 = 1 then 0 else go k (x / 2) + 1
def rt (x : Nat) : Nat := go x 0
where go : Nat → Nat → Nat
 | 0, r => r
 | k + 1, r => if (r + 1) * (r + 1) ≤ x then go k (r + 1) else r
def fmL (l : List Int) : Bool := okL l && fm l
def nat_Bits.f (l0 : List Int) : Option Int := if okL l0 = true then some ((bl (vL l0) : Nat) : Int) else none
def nat_Trail.f (l0 : List Int) : Option Int := if fmL l0 = true ∧ vL l0 ≠ 0 then some ((tz (vL l0) : Nat) : Int) else none
def nat_Shl.f (l0 : List Int) (a1 : Int) : Option (List Int × Int) := if fmL l0 = true ∧ 0 ≤ a1 ∧ (vL l0 = 0 ∨ bl (vL l0) + a1.toNat ≤ 524288) then some (lb (vL l0 * 2^a1.toNat), 0) else none
def nat_Shr.f (l0 : List Int) (a1 : Int) : Option (List Int × Int) := if fmL l0 = true ∧ 0 ≤ a1 ∧ a1 < 9223372036854775808 then some (lb (vL l0 / 2^a1.toNat), 0) else none
def nat_Add.f (l0 l1 : List Int) : Option (List Int × Int) := if fmL l0 = true ∧ fmL l1 = true ∧ nl (vL l0 + vL l1) ≤ 8192 then some (lb (vL l0 + vL l1), 0) else none
def slices_Clone_uint64_uint64.f (l0 : List Int) : Option (List Int) := if l0.length < 1099511627776 then some l0 else none
theorem okL_iff {l : List Int} : okL l = true ↔ l.length < 1099511627776 ∧ ∀ d ∈ l, 0 ≤ d ∧ d < 18446744073709551616 := by
 unfold okL
 rw [Bool.and_eq_true, decide_eq_true_iff, List.all_eq_true]
 refine and_congr Iff.rfl (forall_congr' fun d => imp_congr Iff.rfl ?_)
 rw [Bool.and_eq_true, decide_eq_true_iff, decide_eq_true_iff]
theorem vL_lt : ∀ {l : List Int}, (∀ d ∈ l, 0 ≤ d ∧ d < 18446744073709551616) → vL l < pw l.length
 | [], _ => by rw [List.length_nil, pw_zero]; exact Nat.zero_lt_one
 | d :: t, h => by
  have h1 := vL_lt (l := t) (fun x hx => h x (List.mem_cons_of_mem _ hx))
  have h2 := h d (List.mem_cons_self ..)
  rw [vL, List.length_cons, pw_succ]
  have h3 : d.toNat < 18446744073709551616 := by omega
  omega
theorem vL_at : ∀ {l : List Int} {j : Nat}, (∀ d ∈ l, 0 ≤ d ∧ d < 18446744073709551616) → j < l.length → l[j]? = some ((dw (vL l) j : Nat) : Int)
 | [], _, _, h => by simp at h
 | d :: t, 0, h, _ => by
  have h2 := h d (List.mem_cons_self ..)
  rw [vL, List.getElem?_cons_zero]
  unfold dw
  rw [pw_zero, Nat.div_one]
  congr 1
  omega
 | d :: t, j + 1, h, hj => by
  rw [List.getElem?_cons_succ, vL_at (fun x hx => h x (List.mem_cons_of_mem _ hx)) (by simpa using hj)]
  have h2 := h d (List.mem_cons_self ..)
  rw [vL]
  unfold dw
  have e : pw (j + 1) = 18446744073709551616 * pw j := by rw [pw_succ, Nat.mul_comm]
  rw [e, ← Nat.div_div_eq_div_mul]
  have : (d.toNat + 18446744073709551616 * vL t) / 18446744073709551616 = vL t := by omega
  rw [this]
theorem lb_len (x : Nat) : (lb x).length = nl x := by simp [lb]
theorem lb_nil : lb 0 = [] := rfl
theorem lb_at {x j : Nat} (h : j < nl x) : (lb x)[j]? = some ((dw x j : Nat) : Int) := by simp [lb, h]
theorem lb_mem {x : Nat} : ∀ d ∈ lb x, 0 ≤ d ∧ d < 18446744073709551616 := by
 intro d hd
 obtain ⟨j, _, rfl⟩ := List.mem_map.1 hd
 have := dw_lt x j
 omega
theorem vL_lb (x : Nat) : vL (lb x) = x := by
 refine dw_ext (n := nl x) (by have := vL_lt (l := lb x) lb_mem; rwa [lb_len] at this) (nl_lt x) (fun j hj => ?_)
 have h1 := vL_at (l := lb x) (j := j) lb_mem (by rw [lb_len]; exact hj)
 rw [lb_at hj] at h1
 have := Option.some.inj h1
 omega
theorem lb_of {l : List Int} (h : okL l = true) (hn : l.length = nl (vL l)) : l = lb (vL l) := by
 have hm := (okL_iff.1 h).2
 apply List.ext_getElem?
 intro j
 by_cases c : j < l.length
 ·rw [vL_at hm c, lb_at (by omega)]
 ·rw [List.getElem?_eq_none (by omega), List.getElem?_eq_none (by rw [lb_len]; omega)]
theorem fmL_iff {l : List Int} : fmL l = true ↔ okL l = true ∧ l.length = nl (vL l) ∧ l.length ≤ 8192 := by
 unfold fmL fm
 rw [Bool.and_eq_true, Bool.and_eq_true, decide_eq_true_iff, decide_eq_true_iff]
theorem okL_lb {x : Nat} (h : nl x < 1099511627776) : okL (lb x) = true := okL_iff.2 ⟨by rw [lb_len]; exact h, lb_mem⟩
theorem fmL_lb {x : Nat} (h : nl x ≤ 8192) : fmL (lb x) = true := fmL_iff.2 ⟨okL_lb (by omega), by rw [lb_len, vL_lb], by rw [lb_len]; exact h⟩
theorem tz_go (k x : Nat) (h0 : x ≠ 0) (h : x ≤ k) : ∃ m, x = 2^(tz.go k x) * (2 * m + 1) := by
 induction k generalizing x with
 | zero => omega
 | succ k ih =>
  unfold tz.go
  by_cases c : x % 2 = 1
  ·rw [if_pos c]; exact ⟨x / 2, by rw [Nat.pow_zero]; omega⟩
  ·rw [if_neg c]
   obtain ⟨m, hm⟩ := ih (x / 2) (by omega) (by omega)
   refine ⟨m, ?_⟩
   rw [Nat.pow_succ, Nat.mul_comm _ 2, Nat.mul_assoc, ← hm]
   omega
theorem tz_spec {x : Nat} (h : x ≠ 0) : ∃ m, x = 2^(tz x) * (2 * m + 1) := by
 unfold tz
 rw [if_neg h]
 exact tz_go x x h (Nat.le_refl _)
theorem tz_uniq {x s t : Nat} (h : ∃ m, x = 2^s * (2 * m + 1)) (h' : ∃ m, x = 2^t * (2 * m + 1)) : s = t := by
 have key : ∀ {s t : Nat}, (∃ m, x = 2^s * (2 * m + 1)) → (∃ m, x = 2^t * (2 * m + 1)) → s < t → False := by
  intro s t ⟨m, e⟩ ⟨m', e'⟩ hlt
  obtain ⟨d, rfl⟩ : ∃ d, t = s + (d + 1) := ⟨t - s - 1, by omega⟩
  rw [e, Nat.pow_add, Nat.mul_assoc] at e'
  have := Nat.eq_of_mul_eq_mul_left (Nat.two_pow_pos s) e'
  rw [Nat.pow_succ, Nat.mul_comm (2^d) 2, Nat.mul_assoc] at this
  omega
 rcases Nat.lt_trichotomy s t with c | c | c
 ·exact (key h h' c).elim
 ·exact c
 ·exact (key h' h c).elim
theorem tz_eq {x t : Nat} (h : ∃ m, x = 2^t * (2 * m + 1)) : tz x = t := by
 have h0 : x ≠ 0 := by
  obtain ⟨m, rfl⟩ := h
  exact Nat.mul_ne_zero (Nat.pos_iff_ne_zero.1 (Nat.two_pow_pos t)) (by omega)
 exact tz_uniq (tz_spec h0) h
theorem tz_bit {m p : Nat} (h : m / 2^p % 2 = 1) : tz m = p ↔ m % 2^p = 0 := by
 have h0 : m ≠ 0 := by intro e; rw [e, Nat.zero_div] at h; omega
 constructor
 ·intro e
  obtain ⟨u, hu⟩ := tz_spec h0
  rw [e] at hu
  rw [hu, Nat.mul_mod_right]
 ·intro e
  refine tz_eq ⟨m / 2^p / 2, ?_⟩
  have e1 := Nat.div_add_mod m (2^p)
  rw [e, Nat.add_zero] at e1
  have e2 : 2 * (m / 2^p / 2) + 1 = m / 2^p := by omega
  rw [e2, e1]
end Go.Proofs.YtelfmddcjlocpaaGreatDoor.Given
end
