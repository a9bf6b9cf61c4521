/- num.Sign, dyadic.top, dyadic.size on numbers of any length. Conditions: naturals of at most 8192 limbs, exponents to 2^20. -/
import Derived.Test.YthpnmkclboennaaDoorKBinaryNeighboursNtC
namespace Go.Proofs.YthpnmkclboennaaDoor.NtD
open Go.RowKit Go.Proofs.YthpnmkclboennaaDoorW.PrintWords Go.Proofs.YthpnmkclboennaaDoorW.PrintMore Go.Proofs.YthpnmkclboennaaDoorW.PrintLast Go.Proofs.YthpnmkclboennaaDoor.Num Go.Proofs.YthpnmkclboennaaDoor.Ref Go.Proofs.YthpnmkclboennaaDoor.BinLaw Go.Proofs.YthpnmkclboennaaDoor.BinA Go.Proofs.YthpnmkclboennaaDoor.BinLen Go.Proofs.YthpnmkclboennaaDoor.NtTh Go.Proofs.YthpnmkclboennaaDoor.NtA Go.Proofs.YthpnmkclboennaaDoor.NtB Go.Proofs.YthpnmkclboennaaDoor.NtC
structure Bx3 (W w : World) (g : Nat) (a b c : Value) : Prop where mk :: (below : Below W.heap.size W w) (blk : w.heap[g]? = some (.cells #[a, b, c] 29 (0, 0)))
theorem Bx3.next {W w w' : World} {g : Nat} {a b c : Value} (h : Bx3 W w g a b c) (k : Below w.heap.size w w') : Bx3 W w' g a b c := ⟨on h.below k, blk_below h.blk k⟩
theorem Bx3.c0 {W w : World} {g : Nat} {a b c : Value} (h : Bx3 W w g a b c) : w.cell? ⟨g, 0, none⟩ = some a := (blk_cell h.blk 0).trans rfl
theorem Bx3.c1 {W w : World} {g : Nat} {a b c : Value} (h : Bx3 W w g a b c) : w.cell? ⟨g, 1, none⟩ = some b := (blk_cell h.blk 1).trans rfl
theorem Bx3.c2 {W w : World} {g : Nat} {a b c : Value} (h : Bx3 W w g a b c) : w.cell? ⟨g, 2, none⟩ = some c := (blk_cell h.blk 2).trans rfl
theorem Bx3.new {W w : World} (a b c : Value) (k : Below W.heap.size W w) : Bx3 W (w.alloc (Obj.cells #[a, b, c] 29)) w.heap.size a b c := ⟨on k (box _ _), blk_new _ _⟩
def sg (neg : Bool) (x : Nat) : Int := if x = 0 then 0 else if neg then -1 else 1
theorem sign_any (w : World) (neg : Bool) (A : Option Addr) (n c x : Nat) (h : Rw w A n c x) (hn : n < 1099511627776) : Calls Tryd.prog 66 #[.agg #[.bool neg, .slice A n c]] w fun e w' => e = .returned (.int .i64 (sg neg x)) ∧ Below w.heap.size w w' := by
  have HT := Lib.hid (bits_any _ A n c x (h.next (box w (Obj.cells #[.bool neg, .slice A n c] 27))) hn)
  have kb := Lib.hid (blk_new w (Obj.cells #[.bool neg, .slice A n c] 27))
  unfold sg
  by_cases c0 : x = 0
  · rw [if_pos c0]
    have e : bl x = 0 := by rw [c0]; rfl
    rw [e] at HT
    clear h hn c0 e
    go_enter Tryd.func66, Tryd.ntmps66
    go_wp2_with fail
    refine HT.out.mono ?_
    rintro e w1 ⟨rfl, h1⟩
    have HB := Lib.hid (on (box w (Obj.cells #[.bool neg, .slice A n c] 27)) h1)
    clear h1
    go_wp2_with fail
    go_ret
    exact ⟨rfl, HB.out⟩
  · rw [if_neg c0]
    have q : ((bl x : Int) == 0) = false := by
      have := bl_pos c0
      simp; omega
    generalize bl x = z at *
    clear h hn c0
    cases neg
    · go_enter Tryd.func66, Tryd.ntmps66
      go_wp2_with fail
      refine HT.out.mono ?_
      rintro e w1 ⟨rfl, h1⟩
      have HB := Lib.hid (on (box w (Obj.cells #[.bool false, .slice A n c] 27)) h1)
      have z0 : w1.cell? ⟨w.heap.size, 0, none⟩ = some (.bool false) := (blk_cell (blk_below kb.out h1) 0).trans rfl
      clear h1
      go_wp2_with fail
      go_ret
      exact ⟨rfl, HB.out⟩
    · go_enter Tryd.func66, Tryd.ntmps66
      go_wp2_with fail
      refine HT.out.mono ?_
      rintro e w1 ⟨rfl, h1⟩
      have HB := Lib.hid (on (box w (Obj.cells #[.bool true, .slice A n c] 27)) h1)
      have z0 : w1.cell? ⟨w.heap.size, 0, none⟩ = some (.bool true) := (blk_cell (blk_below kb.out h1) 0).trans rfl
      clear h1
      go_wp2_with fail
      go_ret
      exact ⟨rfl, HB.out⟩
theorem top_any (w : World) (neg : Bool) (x : Int) (A : Option Addr) (n c m : Nat) (h : Rw w A n c m) (hn : n ≤ 8192) (hx : -4000000 ≤ x) (hx2 : x ≤ 4000000) : Calls Tryd.prog 91 #[.agg #[.bool neg, .slice A n c, .int .i64 x]] w fun e w' => e = .returned (.int .i64 (x + (bl m : Nat) - 1)) ∧ Below w.heap.size w w' := by
  have HT := Lib.hid (fun w (h : Rw w A n c m) => bits_any w A n c m h (by omega))
  have H := Lib.hid (h.next (box w (Obj.cells #[.bool neg, .slice A n c, .int .i64 x] 29)))
  have hb : bl m ≤ 524288 := by
    have h1 : bl m ≤ 64 * n := bl_le_iff.2 h.big
    omega
  have q1 : IntKind.i64.wrap (x + (bl m : Nat)) = x + (bl m : Nat) := IntWalk.i64_in _ (by omega)
  have q2 : IntKind.i64.wrap (x + (bl m : Nat) - 1) = x + (bl m : Nat) - 1 := IntWalk.i64_in _ (by omega)
  have Z := Lib.hid (Bx3.new (W := w) (.bool neg) (.slice A n c) (.int .i64 x) (Below.refl _ _))
  generalize bl m = z at *
  clear h hn hx hx2 hb
  go_enter Tryd.func91, Tryd.ntmps91
  go_wp2_with fail
  generalize (w.alloc (Obj.cells #[.bool neg, .slice A n c, .int .i64 x] 29)) = w0 at *
  generalize hg : w.heap.size = g at *
  have Z := Lib.hid (Z.out.next ((Below.refl _ _).drew))
  have H := Lib.hid (H.out.next ((Below.refl _ _).drew))
  have tok1 : True := trivial
  go_region_held3 (fun w' => w'.cell? ⟨g, 0, none⟩ = some (.bool neg) ∧ w'.cell? ⟨g, 1, none⟩ = some (.slice A n c) ∧ w'.cell? ⟨g, 2, none⟩ = some (.int .i64 x))
    (exact ⟨Z.out.c0, Z.out.c1, Z.out.c2⟩)
    (first | (go_at_call 90; have _t := tok1; (with_reducible refine (HT.out _ H.out).mono ?_); rintro e_ wx1 ⟨rfl, hd⟩; have Z := Lib.hid (Z.out.next hd); have H := Lib.hid (H.out.next hd); clear tok1 hd))
  go_wp2_with fail
  go_ret
  have hB := Z.out.below
  exact ⟨rfl, hg ▸ hB⟩
end Go.Proofs.YthpnmkclboennaaDoor.NtD
