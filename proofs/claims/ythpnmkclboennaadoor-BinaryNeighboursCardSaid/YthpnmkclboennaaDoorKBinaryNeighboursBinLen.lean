/- math/bits.Len64: the bit length; made: the sign's bit set. Condition: words below 2^64. -/
import Derived.Test.YthpnmkclboennaaDoorKBinaryNeighboursPLenx0
import Derived.Test.YthpnmkclboennaaDoorKBinaryNeighboursPLenx1
import Derived.Laws.MathBits
namespace Go.Proofs.YthpnmkclboennaaDoor.BinLen
open Go.RowKit Go.Proofs.YthpnmkclboennaaDoorW.PrintWords Go.Proofs.YthpnmkclboennaaDoorW.PrintMore Go.Proofs.YthpnmkclboennaaDoor.Num Go.Proofs.YthpnmkclboennaaDoor.PLen Go.Proofs.YthpnmkclboennaaDoor.Ref Go.Proofs.YthpnmkclboennaaDoor.BinLaw Go.Proofs.YthpnmkclboennaaDoor.BinO2 Go.Proofs.YthpnmkclboennaaDoor.BinF
theorem bl_shift (x b : Nat) (h : x / 2^b ≠ 0) : bl x = b + bl (x / 2^b) := bitLen_shift x b h
theorem tab8_at : ∀ j : Fin 256, bt tab8 (j.val : Int) = ((bl j.val : Nat) : Int) := by decide +kernel
theorem j1_ev (x a : Nat) (hx : x < 65536) (ha : a ≤ 48) : Ev (fun k => bits_Len64.j1 k (x : Int) (a : Int)) (((a + bl x : Nat) : Int)) := by
  have hb : bl x ≤ 16 := bl_le_of_lt (k := 16) hx
  by_cases c : 256 ≤ x
  · have e1 : ((x : Int) / 256) % 256 = ((x / 256 : Nat) : Int) := by omega
    have ht := tab8_at ⟨x / 256, by omega⟩
    have hs := bl_shift x 8 (by show x / 256 ≠ 0; omega)
    have hs' : bl x = 8 + bl (x / 256) := hs
    refine Ev.step (f := fun _ => some (((a + bl x : Nat) : Int))) (fun k => ?_) (Ev.now _)
    rw [bits_Len64.j1, if_pos (by omega), e1, if_pos (by omega), if_pos (by omega)]
    have ht' : bt tab8 ((x / 256 : Nat) : Int) = ((bl (x / 256) : Nat) : Int) := ht
    rw [ht', hs', w64 (x := (a : Int) + 8) (by omega) (by omega), w64 (x := ((bl (x / 256) : Nat) : Int)) (by omega) (by omega), w64 (by omega) (by omega)]
    exact congrArg some (by omega)
  · have e1 : (x : Int) % 256 = (x : Int) := by omega
    have ht : bt tab8 (x : Int) = ((bl x : Nat) : Int) := tab8_at ⟨x, by omega⟩
    refine Ev.step (f := fun _ => some (((a + bl x : Nat) : Int))) (fun k => ?_) (Ev.now _)
    rw [bits_Len64.j1, if_neg (by omega), e1, if_pos (by omega), if_pos (by omega), ht, w64 (x := ((bl x : Nat) : Int)) (by omega) (by omega), w64 (by omega) (by omega)]
    exact congrArg some (by omega)
theorem j0_ev (x a : Nat) (hx : x < 4294967296) (ha : a ≤ 32) : Ev (fun k => bits_Len64.j0 k (x : Int) (a : Int)) (((a + bl x : Nat) : Int)) := by
  by_cases c : 65536 ≤ x
  · have hs : bl x = 16 + bl (x / 65536) := bl_shift x 16 (by show x / 65536 ≠ 0; omega)
    have h := j1_ev (x / 65536) (a + 16) (by omega) (by omega)
    refine Ev.step (f := fun k => bits_Len64.j1 k ((x / 65536 : Nat) : Int) ((a + 16 : Nat) : Int)) (fun k => ?_) ?_
    · rw [bits_Len64.j0, if_pos (by omega), w64 (by omega) (by omega)]
      have e1 : (x : Int) / 65536 = ((x / 65536 : Nat) : Int) := by omega
      have e2 : (a : Int) + 16 = ((a + 16 : Nat) : Int) := by omega
      rw [e1, e2]
    · rw [hs, show a + (16 + bl (x / 65536)) = a + 16 + bl (x / 65536) by omega]
      exact h
  · refine Ev.step (f := fun k => bits_Len64.j1 k (x : Int) (a : Int)) (fun k => by rw [bits_Len64.j0, if_neg (by omega)]) (j1_ev x a (by omega) (by omega))
theorem len_ev (x : Nat) (hx : x < 18446744073709551616) : Ev (fun k => bits_Len64.f k (x : Int)) ((bl x : Nat) : Int) := by
  unfold bits_Len64.f
  by_cases c : 4294967296 ≤ x
  · have hs : bl x = 32 + bl (x / 4294967296) := bl_shift x 32 (by show x / 4294967296 ≠ 0; omega)
    refine Ev.congr (fun k => if_pos (by omega)) ?_
    rw [hs]
    exact j0_ev (x / 4294967296) 32 (by omega) (by omega)
  · refine Ev.congr (fun k => if_neg (by omega)) ?_
    have h := j0_ev x 0 (by omega) (by omega)
    rw [Nat.zero_add] at h
    exact h
theorem made_f {f : Int} {F : Fmt} (h : Fm f F) (neg : Bool) (s : Nat) (hs : s < F.sg) : binary_shape_made.f (F.wd : Nat) (F.man : Nat) F.low (F.qt : Nat) neg (s : Int) = some (((if neg then F.sg + s else s : Nat)) : Int) := by
  have hh : binary_shape_sign.f (F.wd : Nat) (F.man : Nat) F.low (F.qt : Nat) = some ((F.sg : Nat) : Int) := BinF.sign_f h
  unfold binary_shape_made.f
  cases neg
  · rfl
  · rw [if_pos rfl, hh]
    simp only [Option.bind_some, if_true]
    rw [or_sg (fm_isF h) hs]
end Go.Proofs.YthpnmkclboennaaDoor.BinLen
