/-  Lists of digits to the base 2^32 as natural numbers: value, the one list without noughts on top, sums of digits. Plain Lean; no program in sight. No condition. The bit length of a natural number. Plain Lean; no program in sight. No condition. -/
import Derived.Test.YtelfmddcjlocpaaGreatDoorKRoundQuotedWWords
import Derived.Test.YtelfmddcjlocpaaGreatDoorKRoundQuotedWLast
import Derived.Laws.Bits64
import Derived.Laws.BitsLemmas
import Derived.Laws.MathBits
import Derived.Laws.BitsAllLaws
section
namespace Go.Proofs.YtelfmddcjlocpaaGreatDoorW.PrintWords
open Go.RowKit
namespace Kd
def tag {α : Type} (f : Nat → Nat) (d : Kd α) : Kd (α × Nat) where
 sz := d.sz
 E := d.E
 K := fun w x cs => d.K w x.1 cs
 M := fun w base ok x cs => d.M w base (fun k => ok k ∧ f k = x.2) x.1 cs
 K_len := fun h => d.K_len h
 K_one := fun h => d.K_one h
 K_below := fun hb h => d.K_below hb h
 K_of_M := fun h => d.K_of_M h
 M_mono := fun hok h => d.M_mono (fun k hk => ⟨hok k hk.1, hk.2⟩) h
 M_bound := fun h => d.M_mono (fun _ hk => ⟨⟨hk.1.1, hk.2⟩, hk.1.2⟩) (d.M_bound h)
 M_move := fun hm h => d.M_move (fun k hk => hm k hk.1) h
 M_lower := fun hb h => d.M_lower hb h
def raw (sz : Nat) : Kd (List Value) where
 sz := sz
 E := []
 K := fun _ x cs => cs = x ∧ cs.length = sz ∧ ∀ u ∈ cs, u.oneCell' = true
 M := fun _ _ _ x cs => cs = x ∧ cs.length = sz ∧ ∀ u ∈ cs, u.oneCell' = true
 K_len := fun h => h.2.1
 K_one := fun h => h.2.2
 K_below := fun _ h => h
 K_of_M := fun h => h
 M_mono := fun _ h => h
 M_bound := fun h => h
 M_move := fun _ h => h
 M_lower := fun _ h => h
def S {α : Type} (d : Kd α) (e : Nat) (w : World) (base : Nat) (ok : Nat → Prop) (v : Value) (xs : List α) : Prop := ∃ f, (tag f d).R e w base ok v xs.zipIdx
def gap {α : Type} (f : Nat → Nat) (d : Kd α) (i : Nat) (c : List Value) : Kd (α × Nat) where
 sz := d.sz
 E := d.E
 K := fun w x cs => (x.2 = i → cs = c ∧ cs.length = d.sz ∧ ∀ u ∈ cs, u.oneCell' = true) ∧ (x.2 ≠ i → d.K w x.1 cs)
 M := fun w base ok x cs => (x.2 = i → cs = c ∧ cs.length = d.sz ∧ ∀ u ∈ cs, u.oneCell' = true) ∧ (x.2 ≠ i → d.M w base (fun k => ok k ∧ f k = x.2) x.1 cs)
 K_len := fun {w x cs} h => by
  by_cases hx : x.2 = i
  ·exact (h.1 hx).2.1
  ·exact d.K_len (h.2 hx)
 K_one := fun {w x cs} h => by
  by_cases hx : x.2 = i
  ·exact (h.1 hx).2.2
  ·exact d.K_one (h.2 hx)
 K_below := fun hb h => ⟨h.1, fun hx => d.K_below hb (h.2 hx)⟩
 K_of_M := fun h => ⟨h.1, fun hx => d.K_of_M (h.2 hx)⟩
 M_mono := fun hok h => ⟨h.1, fun hx => d.M_mono (fun k hk => ⟨hok k hk.1, hk.2⟩) (h.2 hx)⟩
 M_bound := fun h => ⟨h.1, fun hx => d.M_mono (fun _ hk => ⟨⟨hk.1.1, hk.2⟩, hk.1.2⟩) (d.M_bound (h.2 hx))⟩
 M_move := fun hm h => ⟨h.1, fun hx => d.M_move (fun k hk => hm k hk.1) (h.2 hx)⟩
 M_lower := fun hb h => ⟨h.1, fun hx => d.M_lower hb (h.2 hx)⟩
def H {α : Type} (d : Kd α) (e : Nat) (w : World) (base : Nat) (ok : Nat → Prop) (v : Value) (xs : List α) (i : Int) (oki : Nat → Prop) (c : List Value) : Prop :=
 (∀ k, oki k → ok k) ∧ ∃ f, (gap f d i.toNat c).R e w base (fun k => ok k ∧ ¬ oki k) v xs.zipIdx
end Kd
end Go.Proofs.YtelfmddcjlocpaaGreatDoorW.PrintWords
end
section
namespace Go.Proofs.YtelfmddcjlocpaaGreatDoorW.PrintWords
open Go.RowKit
namespace Kd
theorem cell_heap {w w1 : World} (hb : ∀ k, k < w.heap.size → w1.heap[k]? = w.heap[k]?) {a : Addr} {v : Value} (h : w.cell? a = some v) : w1.cell? a = some v := by
 have := hb a.block (World.block_lt_of_cell? w a h)
 simpa [World.cell?, this] using h
end Kd
end Go.Proofs.YtelfmddcjlocpaaGreatDoorW.PrintWords
end
section
namespace Go.Proofs.YtelfmddcjlocpaaGreatDoorW.PrintWords
open Go.RowKit
def Foot (P : World → Prop) (W : World) (ok : Nat → Prop) : Prop := ∀ W' : World, (∀ k, ok k → k < W.heap.size → W'.heap[k]? = W.heap[k]?) → P W'
theorem heap_lt {W W1 : World} {k : Nat} (h : W1.heap[k]? = W.heap[k]?) (hlt : k < W.heap.size) : k < W1.heap.size := by
 rw [Array.getElem?_eq_getElem hlt] at h
 exact (Array.getElem?_eq_some_iff.1 h).1
namespace Foot
variable {P Q : World → Prop} {W W1 : World} {ok ok' : Nat → Prop}
theorem now (h : Foot P W ok) : P W := h W (fun _ _ _ => rfl)
theorem mono (h : Foot P W ok) (hok : ∀ k, ok k → ok' k) : Foot P W ok' := fun W' hW => h W' (fun k hk hlt => hW k (hok k hk) hlt)
theorem bound (h : Foot P W ok) : Foot P W (fun k => ok k ∧ k < W.heap.size) := fun W' hW => h W' (fun k hk hlt => hW k ⟨hk, hlt⟩ hlt)
theorem step (h : Foot P W ok) (hm : ∀ k, ok k → k < W.heap.size → W1.heap[k]? = W.heap[k]?) : Foot P W1 ok := fun W' hW => h W' (fun k hk hlt => (hW k hk (heap_lt (hm k hk hlt) hlt)).trans (hm k hk hlt))
theorem imp (h : Foot P W ok) (hi : ∀ W', P W' → Q W') : Foot Q W ok := fun W' hW => hi W' (h W' hW)
theorem old (h : Foot P W ok) (hb : Below W.heap.size W W1) : Foot P W1 (fun k => ok k ∧ k < W.heap.size) := (h.bound).step (fun k _ hlt => hb.block k hlt)
end Foot
namespace Kd
def F {α : Type} (d : Kd α) (W : World) (ok : Nat → Prop) (A : Option Addr) (n : Nat) (xs : List α) : Prop := Foot (fun W => d.C W A n xs) W ok
def FK {α : Type} (d : Kd α) (W : World) (ok : Nat → Prop) (x : α) (c : List Value) : Prop := Foot (fun W => d.K W x c) W ok
end Kd
end Go.Proofs.YtelfmddcjlocpaaGreatDoorW.PrintWords
end
section
namespace Go.Proofs.YtelfmddcjlocpaaGreatDoorW.PrintWords
open Go.RowKit
namespace Kd
section
variable {α : Type} {d : Kd α} {e base n cc g : Nat} {ok ok' okp S : Nat → Prop} {w w1 W W1 : World} {A : Option Addr} {u v v1 : Value} {xs : List α} {x : α} {c : List Value}
def N {α : Type} (d : Kd α) (e : Nat) (w : World) (base : Nat) (ok : Nat → Prop) (v : Value) (xs : List α) : Prop :=
 (∀ k, v.ownBlock = some k → ok k) ∧ ∃ rows : List (List Value), rows.length = xs.length ∧ (raw d.sz).R e w base (fun k => some k = v.ownBlock) v rows ∧ ∀ (j : Nat) (x : α) (c : List Value), xs[j]? = some x → rows[j]? = some c → FK d w (fun k => ok k ∧ some k ≠ v.ownBlock) x c
end
end Kd
end Go.Proofs.YtelfmddcjlocpaaGreatDoorW.PrintWords
end
section
namespace Go.Proofs.YtelfmddcjlocpaaGreatDoorW.PrintMore
open Go.RowKit Go.Proofs.YtelfmddcjlocpaaGreatDoorW.PrintWords
theorem max2_int (k k' : IntKind) (x y : Int) : Builtin.max2 (.int k x) (.int k' y) = pure (.int k (if x < y then y else x)) := by simp only [Builtin.max2, gt_iff_lt]
theorem min2_int (k k' : IntKind) (x y : Int) : Builtin.min2 (.int k x) (.int k' y) = pure (.int k (if y < x then y else x)) := by simp only [Builtin.min2]
theorem max_two (ats : Array TypeId) (ty : TypeId) (a b : Value) : Builtin.max_ ats ty #[a, b] = (Builtin.max2 a b >>= fun s => pure s) := by simp only [Builtin.max_, List.foldlM_cons, List.foldlM_nil]
theorem min_two (ats : Array TypeId) (ty : TypeId) (a b : Value) : Builtin.min_ ats ty #[a, b] = (Builtin.min2 a b >>= fun s => pure s) := by simp only [Builtin.min_, List.foldlM_cons, List.foldlM_nil]
theorem max_three (ats : Array TypeId) (ty : TypeId) (a b c : Value) : Builtin.max_ ats ty #[a, b, c] = (Builtin.max2 a b >>= fun s => Builtin.max2 s c >>= fun s => pure s) := by simp only [Builtin.max_, List.foldlM_cons, List.foldlM_nil]
theorem min_three (ats : Array TypeId) (ty : TypeId) (a b c : Value) : Builtin.min_ ats ty #[a, b, c] = (Builtin.min2 a b >>= fun s => Builtin.min2 s c >>= fun s => pure s) := by simp only [Builtin.min_, List.foldlM_cons, List.foldlM_nil]
theorem max_four (ats : Array TypeId) (ty : TypeId) (a b c d : Value) : Builtin.max_ ats ty #[a, b, c, d] = (Builtin.max2 a b >>= fun s => Builtin.max2 s c >>= fun s => Builtin.max2 s d >>= fun s => pure s) := by simp only [Builtin.max_, List.foldlM_cons, List.foldlM_nil]
theorem min_four (ats : Array TypeId) (ty : TypeId) (a b c d : Value) : Builtin.min_ ats ty #[a, b, c, d] = (Builtin.min2 a b >>= fun s => Builtin.min2 s c >>= fun s => Builtin.min2 s d >>= fun s => pure s) := by simp only [Builtin.min_, List.foldlM_cons, List.foldlM_nil]
end Go.Proofs.YtelfmddcjlocpaaGreatDoorW.PrintMore
namespace Go.Proofs.YtelfmddcjlocpaaGreatDoorW.PrintWords
open Go.RowKit
section
variable {P : Program} {ops : Array Oper} {rest : List Oper} {o : Oper} {a : Act} {Q : Exit → Act → World → Prop} {W : World}
theorem gate_callee {f : FuncId} {as : Array Operand} {ts : Array TypeId} (_ho : o.op = .call { callee := .value (.func f), args := as, argTypes := ts }) (h : wpList P ops Q (o :: rest) a W) : wpList P ops Q (o :: rest) a W := h
theorem gate_builtin {b : Builtin} {xs : Array Operand} {ts : Array TypeId} (_ho : o.op = .call { callee := .builtin b, args := xs, argTypes := ts }) (h : wpList P ops Q (o :: rest) a W) : wpList P ops Q (o :: rest) a W := h
end
def mx (a b : Int) : Int := if a < b then b else a
def mn (a b : Int) : Int := if b < a then b else a
def shl (k : IntKind) (x y : Int) : Int := k.wrap (x * 2 ^ min y.toNat k.bits)
def shr (k : IntKind) (x y : Int) : Int := x / 2 ^ min y.toNat k.bits
theorem shl_small {k : IntKind} {x y j : Int} (h : shl k x y = j) (hy : y ≤ k.bits) : k.wrap (x * 2 ^ y.toNat) = j := by rw [← h]; unfold shl; rw [Nat.min_eq_left (by omega)]
theorem shr_small {k : IntKind} {x y j : Int} (h : shr k x y = j) (hy : y ≤ k.bits) : x / 2 ^ y.toNat = j := by rw [← h]; unfold shr; rw [Nat.min_eq_left (by omega)]
theorem drewN_self (w : World) (n : Nat) : w.drewN n = w.drewN n := rfl
end Go.Proofs.YtelfmddcjlocpaaGreatDoorW.PrintWords
namespace Go.Proofs.YtelfmddcjlocpaaGreatDoorW.PrintWords
open Go.RowKit
namespace Kd
def V {α : Type} (d : Kd α) (_e : Nat) (W : World) (_base : Nat) (ok : Nat → Prop) (v : Value) (xs : List α) : Prop := ∃ A c, v = .slice A xs.length c ∧ xs.length ≤ c ∧ F d W ok A xs.length xs
end Kd
end Go.Proofs.YtelfmddcjlocpaaGreatDoorW.PrintWords
end
section
namespace Go.Proofs.YtelfmddcjlocpaaGreatDoor.Num
open Go.RowKit Go.Proofs.YtelfmddcjlocpaaGreatDoorW.PrintWords Go.Proofs.YtelfmddcjlocpaaGreatDoorW.PrintMore
def B : Nat := 4294967296
theorem B_eq : B = 4294967296 := rfl
theorem B_pos : 0 < B := by decide
theorem Bp (i : Nat) : 0 < B^i := Nat.pow_pos B_pos
theorem w64 {x : Int} (h0 : -9223372036854775808 ≤ x) (h1 : x < 9223372036854775808) : wrap64 x = x := by unfold wrap64; omega
theorem wu64 {x : Int} (h0 : 0 ≤ x) (h1 : x < 18446744073709551616) : IntKind.u64.wrap x = x := by rw [IntKind.wrap_u64]; omega
theorem wraps_u64 (n : Int) (h₀ : 0 ≤ n) (h₁ : n < 2 ^ 64) : IntKind.u64.wrap n = n := by rw [IntKind.wrap_u64]; omega
theorem mask32 {x : Int} (h0 : 0 ≤ x) (h1 : x < 18446744073709551616) : Go.bits .and .u64 x 4294967295 = x % 4294967296 :=
 bits_mask .u64 64 (by decide) wraps_u64 32 (by decide) x h0 h1
def Dg (l : List Int) : Prop := ∀ d ∈ l, 0 ≤ d ∧ d < 4294967296
def vl : List Int → Nat
 | [] => 0
 | d :: t => d.toNat + B * vl t
theorem Dg.nil : Dg [] := fun _ h => by cases h
theorem Dg.cons {d : Int} {t : List Int} (h0 : 0 ≤ d) (h1 : d < 4294967296) (h : Dg t) : Dg (d :: t) := by
 intro x hx
 rcases List.mem_cons.1 hx with rfl | hx
 ·exact ⟨h0, h1⟩
 ·exact h x hx
theorem Dg.head {d : Int} {t : List Int} (h : Dg (d :: t)) : 0 ≤ d ∧ d < 4294967296 := h d (List.mem_cons_self ..)
theorem Dg.tail {d : Int} {t : List Int} (h : Dg (d :: t)) : Dg t := fun x hx => h x (List.mem_cons_of_mem _ hx)
theorem Dg.append {a b : List Int} (ha : Dg a) (hb : Dg b) : Dg (a ++ b) := by
 intro x hx
 rcases List.mem_append.1 hx with hx | hx
 ·exact ha x hx
 ·exact hb x hx
theorem Dg.snoc {a : List Int} {d : Int} (ha : Dg a) (h0 : 0 ≤ d) (h1 : d < 4294967296) : Dg (a ++ [d]) := ha.append (Dg.cons h0 h1 Dg.nil)
theorem Dg.take {a : List Int} (h : Dg a) (n : Nat) : Dg (a.take n) := fun x hx => h x (List.mem_of_mem_take hx)
theorem Dg.drop {a : List Int} (h : Dg a) (n : Nat) : Dg (a.drop n) := fun x hx => h x (List.mem_of_mem_drop hx)
theorem Dg.zeros (n : Nat) : Dg (List.replicate n 0) := by
 intro x hx
 rw [List.eq_of_mem_replicate hx]
 omega
theorem Dg.rd {l : List Int} (h : Dg l) (i : Int) : 0 ≤ rd l i ∧ rd l i < 4294967296 := by
 unfold Go.Proofs.YtelfmddcjlocpaaGreatDoorW.PrintWords.rd
 by_cases hi : i.toNat < l.length
 ·rw [List.getD_eq_getElem?_getD, List.getElem?_eq_getElem hi]
  exact h _ (List.getElem_mem hi)
 ·rw [List.getD_eq_getElem?_getD, List.getElem?_eq_none (by omega)]
  exact ⟨by decide, by decide⟩
theorem vl_append (a b : List Int) : vl (a ++ b) = vl a + B^a.length * vl b := by
 induction a with
 | nil => simp [vl]
 | cons d t ih =>
  rw [List.cons_append, vl, vl, ih, List.length_cons, Nat.pow_succ, Nat.mul_add, ← Nat.add_assoc, ← Nat.mul_assoc, Nat.mul_comm B (B^t.length)]
theorem vl_snoc (a : List Int) (d : Int) : vl (a ++ [d]) = vl a + B^a.length * d.toNat := by
 rw [vl_append]; simp [vl]
theorem vl_zeros (n : Nat) : vl (List.replicate n 0) = 0 := by
 induction n with
 | zero => rfl
 | succ n ih => rw [List.replicate_succ, vl, ih]; rfl
theorem vl_lt {l : List Int} (h : Dg l) : vl l < B^l.length := by
 induction l with
 | nil => simp [vl]
 | cons d t ih =>
  have h1 := ih h.tail
  have h2 := h.head
  rw [vl, List.length_cons, Nat.pow_succ, Nat.mul_comm B]
  have : (vl t + 1) * B ≤ B^t.length * B := Nat.mul_le_mul_right _ h1
  rw [Nat.add_mul, Nat.one_mul] at this
  have e := B_eq
  omega
def pv (l : List Int) (i : Nat) : Nat := vl (l.take i)
theorem pv_zero (l : List Int) : pv l 0 = 0 := rfl
theorem rd_get {l : List Int} {i : Nat} (h : i < l.length) : rd l (i : Int) = l[i] := by
 unfold Go.Proofs.YtelfmddcjlocpaaGreatDoorW.PrintWords.rd
 rw [Int.toNat_natCast, List.getD_eq_getElem?_getD, List.getElem?_eq_getElem h]; rfl
theorem rd_out {l : List Int} {i : Nat} (h : l.length ≤ i) : rd l (i : Int) = 0 := by
 unfold Go.Proofs.YtelfmddcjlocpaaGreatDoorW.PrintWords.rd
 rw [Int.toNat_natCast, List.getD_eq_getElem?_getD, List.getElem?_eq_none h]; rfl
theorem pv_succ (l : List Int) (i : Nat) : pv l (i + 1) = pv l i + B^i * (rd l (i : Int)).toNat := by
 unfold pv
 by_cases h : i < l.length
 ·rw [List.take_succ_eq_append_getElem h, vl_snoc, rd_get h, List.length_take, Nat.min_eq_left (by omega)]
 ·rw [List.take_of_length_le (by omega), List.take_of_length_le (by omega), rd_out (by omega)]; simp
theorem pv_all {l : List Int} {i : Nat} (h : l.length ≤ i) : pv l i = vl l := by unfold pv; rw [List.take_of_length_le h]
theorem pv_lt {l : List Int} (h : Dg l) (i : Nat) : pv l i < B^i := by
 have h1 := vl_lt (h.take i)
 have h2 : B^(l.take i).length ≤ B^i := Nat.pow_le_pow_right B_pos (by rw [List.length_take]; omega)
 unfold pv; omega
def dg (n : Nat) : List Int := if _h : n = 0 then [] else ((n % B : Nat) : Int) :: dg (n / B)
termination_by n
decreasing_by exact Nat.div_lt_self (by omega) (by decide)
theorem dg_zero : dg 0 = [] := by rw [dg]; simp
theorem dg_pos {n : Nat} (h : n ≠ 0) : dg n = ((n % B : Nat) : Int) :: dg (n / B) := by rw [dg]; simp [h]
theorem dg_Dg (n : Nat) : Dg (dg n) := by
 induction n using Nat.strongRecOn with
 | _ n ih =>
  by_cases h : n = 0
  ·subst h; rw [dg_zero]; exact Dg.nil
  ·rw [dg_pos h]
   have := Nat.mod_lt n B_pos
   have e := B_eq
   exact Dg.cons (by omega) (by omega) (ih _ (Nat.div_lt_self (by omega) (by decide)))
theorem vl_dg (n : Nat) : vl (dg n) = n := by
 induction n using Nat.strongRecOn with
 | _ n ih =>
  by_cases h : n = 0
  ·subst h; rw [dg_zero]; rfl
  ·rw [dg_pos h, vl, ih _ (Nat.div_lt_self (by omega) (by decide)), Int.toNat_natCast]
   exact Nat.mod_add_div n B
theorem dg_vl {l : List Int} (h : Dg l) (hl : l = [] ∨ ∃ t d, l = t ++ [d] ∧ d ≠ 0) : dg (vl l) = l := by
 induction l with
 | nil => exact dg_zero
 | cons d t ih =>
  have hd := h.head
  have e := B_eq
  have hpos : vl (d :: t) ≠ 0 ∧ (t = [] ∨ ∃ t' d', t = t' ++ [d'] ∧ d' ≠ 0) := by
   rcases hl with hl | ⟨t', d', he, hne⟩
   ·cases hl
   ·cases t' with
    | nil =>
     rw [List.nil_append] at he
     injection he with e1 e2
     subst e1; subst e2
     refine ⟨?_, Or.inl rfl⟩
     rw [vl, vl]; omega
    | cons x t'' =>
     rw [List.cons_append] at he
     injection he with e1 e2
     subst e1
     refine ⟨?_, Or.inr ⟨t'', d', e2, hne⟩⟩
     rw [vl, e2, vl_snoc]
     have hd' := h.tail d' (by rw [e2]; simp)
     have := Nat.mul_pos (Bp t''.length) (show 0 < d'.toNat by omega)
     have := Nat.mul_pos B_pos (show 0 < vl t'' + B^t''.length * d'.toNat by omega)
     omega
  rw [dg_pos hpos.1, vl]
  have e1 : (d.toNat + B * vl t) % B = d.toNat := by rw [Nat.add_mul_mod_self_left]; exact Nat.mod_eq_of_lt (by omega)
  have e2 : (d.toNat + B * vl t) / B = vl t := by rw [Nat.add_mul_div_left _ _ B_pos, Nat.div_eq_of_lt (by omega), Nat.zero_add]
  rw [e1, e2, ih h.tail hpos.2]
  congr 1
  omega
theorem dg_nil_iff {n : Nat} : dg n = [] ↔ n = 0 := by
 constructor
 ·intro h; rw [← vl_dg n, h]; rfl
 ·intro h; rw [h, dg_zero]
theorem dg_len_zero {n : Nat} : (dg n).length = 0 ↔ n = 0 := by rw [List.length_eq_zero_iff]; exact dg_nil_iff
theorem dg_last {n : Nat} (h : n ≠ 0) : ∃ t d, dg n = t ++ [d] ∧ d ≠ 0 := by
 induction n using Nat.strongRecOn with
 | _ n ih =>
  rw [dg_pos h]
  by_cases h2 : n / B = 0
  ·refine ⟨[], ((n % B : Nat) : Int), by rw [h2, dg_zero]; rfl, ?_⟩
   have := Nat.div_add_mod n B
   rw [h2] at this
   omega
  ·obtain ⟨t, d, e, hd⟩ := ih _ (Nat.div_lt_self (by omega) (by decide)) h2
   exact ⟨_ :: t, d, by rw [e]; rfl, hd⟩
theorem dg_len_lt (n : Nat) : n < B^(dg n).length := by
 have := vl_lt (dg_Dg n); rwa [vl_dg] at this
theorem dg_len_le {n k : Nat} (h : n < B^k) : (dg n).length ≤ k := by
 by_cases h0 : n = 0
 ·subst h0; rw [dg_zero]; exact Nat.zero_le _
 ·obtain ⟨t, d, e, hd⟩ := dg_last h0
  have hD := dg_Dg n
  have hdd := hD d (by rw [e]; simp)
  have h1 : B^t.length ≤ n := by
   rw [← vl_dg n, e, vl_snoc]
   have : B^t.length * 1 ≤ B^t.length * d.toNat := Nat.mul_le_mul_left _ (by omega)
   omega
  have h2 : t.length < k := by
   by_cases hc : t.length < k
   ·exact hc
   ·have := Nat.pow_le_pow_right B_pos (show k ≤ t.length by omega)
    omega
  rw [e, List.length_append, List.length_singleton]; omega
theorem dg_len_mono {m n : Nat} (h : m ≤ n) : (dg m).length ≤ (dg n).length := dg_len_le (Nat.lt_of_le_of_lt h (dg_len_lt n))
theorem pw_B (k : Nat) : B^k = 2^(32 * k) := by rw [Nat.pow_mul]; rfl
theorem take_dg {l : List Int} (h : Dg l) (n : Nat) (hn : n ≤ l.length) (hz : ∀ j : Nat, n ≤ j → rd l (j : Int) = 0) (hl : n = 0 ∨ rd l ((n : Int) - 1) ≠ 0) : l.take n = dg (vl l) := by
 have hv : vl l = vl (l.take n) := by
  have hd : ∀ m : List Int, (∀ j : Nat, rd m (j : Int) = 0) → vl m = 0 := by
   intro m
   induction m with
   | nil => intro _; rfl
   | cons d t ih =>
    intro hm
    have h0 := hm 0
    have ht : vl t = 0 := ih (fun j => by
     have := hm (j + 1)
     unfold Go.Proofs.YtelfmddcjlocpaaGreatDoorW.PrintWords.rd at this ⊢
     rw [Int.toNat_natCast] at this ⊢
     simpa using this)
    rw [vl, ht]
    have : d = 0 := by
     unfold Go.Proofs.YtelfmddcjlocpaaGreatDoorW.PrintWords.rd at h0; simpa using h0
    rw [this]; rfl
  have h1 := vl_append (l.take n) (l.drop n)
  rw [List.take_append_drop] at h1
  have h2 : vl (l.drop n) = 0 := by
   apply hd
   intro j
   have := hz (n + j) (by omega)
   unfold Go.Proofs.YtelfmddcjlocpaaGreatDoorW.PrintWords.rd at this ⊢
   rw [Int.toNat_natCast] at this ⊢
   rw [List.getD_eq_getElem?_getD] at this ⊢
   rw [List.getElem?_drop]; exact this
  rw [h1, h2]; omega
 rw [hv]
 symm
 apply dg_vl (h.take n)
 by_cases h0 : n = 0
 ·left; rw [h0]; rfl
 ·right
  obtain ⟨m, rfl⟩ : ∃ m, n = m + 1 := ⟨n - 1, by omega⟩
  have hm : m < l.length := by omega
  refine ⟨l.take m, l[m], List.take_succ_eq_append_getElem hm, ?_⟩
  rcases hl with hl | hl
  ·omega
  ·have e : ((m + 1 : Nat) : Int) - 1 = (m : Int) := by omega
   rw [e, rd_get hm] at hl
   exact hl
end Go.Proofs.YtelfmddcjlocpaaGreatDoor.Num
end
section
namespace Go.Proofs.YtelfmddcjlocpaaGreatDoor.Ref
def bl (n : Nat) : Nat := if n = 0 then 0 else n.log2 + 1
theorem bl_lt (n : Nat) : n < 2^(bl n) := by
 unfold bl
 by_cases h : n = 0
 ·rw [if_pos h, h]; decide
 ·rw [if_neg h]; exact Nat.lt_log2_self
theorem bl_ge {n : Nat} (h : n ≠ 0) : 2^(bl n - 1) ≤ n := by
 unfold bl; rw [if_neg h]; exact Nat.log2_self_le h
theorem bl_of {n k : Nat} (h1 : n < 2^k) (h2 : k = 0 ∨ 2^(k-1) ≤ n) : bl n = k := by
 unfold bl
 by_cases h : n = 0
 ·rw [if_pos h]
  rcases h2 with h2 | h2
  ·exact h2.symm
  ·have := Nat.two_pow_pos (k - 1); omega
 ·rw [if_neg h]
  have hk : k ≠ 0 := by intro e; rw [e] at h1; simp at h1; exact h h1
  rcases h2 with h2 | h2
  ·exact absurd h2 hk
  ·have := (Nat.log2_eq_iff h).2 ⟨h2, by rw [show k - 1 + 1 = k from by omega]; exact h1⟩
   omega
theorem bl_half {n : Nat} (h : n ≠ 0) : bl n = bl (n / 2) + 1 := by
 apply bl_of
 ·have := bl_lt (n / 2)
  rw [Nat.pow_succ]; omega
 ·right
  rw [Nat.add_sub_cancel]
  by_cases h2 : n / 2 = 0
  ·rw [h2]; unfold bl; simp; omega
  ·have := bl_ge h2
   have e : bl (n / 2) = bl (n / 2) - 1 + 1 := by
    have : bl (n / 2) ≠ 0 := by unfold bl; rw [if_neg h2]; omega
    omega
   rw [e, Nat.pow_succ]; omega
theorem bl_le_of_lt {n k : Nat} (h : n < 2^k) : bl n ≤ k := by
 by_cases hc : bl n ≤ k
 ·exact hc
 ·have h0 : n ≠ 0 := by intro e; subst e; unfold bl at hc; simp at hc
  have h1 := bl_ge h0
  have := Nat.pow_le_pow_right (n := 2) (by decide) (show k ≤ bl n - 1 by omega)
  omega
theorem bl_mul (m d : Nat) (h : m ≠ 0) : bl (m * 2^d) = bl m + d := by
 have h1 := bl_lt m
 have h2 := bl_ge h
 have h3 : bl m ≠ 0 := by unfold bl; rw [if_neg h]; omega
 apply bl_of
 ·rw [Nat.pow_add]; exact Nat.mul_lt_mul_of_pos_right h1 (Nat.two_pow_pos d)
 ·right
  rw [show bl m + d - 1 = bl m - 1 + d from by omega, Nat.pow_add]
  exact Nat.mul_le_mul_right _ h2
theorem bl_mono {a b : Nat} (h : a ≤ b) : bl a ≤ bl b := bl_le_of_lt (Nat.lt_of_le_of_lt h (bl_lt b))
theorem bl_shift (x b : Nat) (h : x / 2^b ≠ 0) : bl x = b + bl (x / 2^b) := bitLen_shift x b h
end Go.Proofs.YtelfmddcjlocpaaGreatDoor.Ref
end
