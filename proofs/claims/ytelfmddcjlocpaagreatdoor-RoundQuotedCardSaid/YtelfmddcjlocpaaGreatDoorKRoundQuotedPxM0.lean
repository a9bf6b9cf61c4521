/- Functions of the program as plain Lean functions (definitions as the print's), and that the machine's calls do what they do (contracts 'X.c', by Px). Condition: math/bits' table is laid. -/
import Derived.Test.YtelfmddcjlocpaaGreatDoorKRoundQuotedGivenD
import Derived.Test.YtelfmddcjlocpaaGreatDoorKRoundQuotedPxTz
set_option linter.unusedVariables false
namespace Go.Proofs.YtelfmddcjlocpaaGreatDoor.PLib
open Go Go.RowKit Go.Proofs.YtelfmddcjlocpaaGreatDoorW.PrintWords Go.Proofs.YtelfmddcjlocpaaGreatDoorW.PrintMore Go.Proofs.YtelfmddcjlocpaaGreatDoor.Given Go.Proofs.YtelfmddcjlocpaaGreatDoor.Px
def bits_LeadingZeros64.f (a0 : Int) : Option (Int) := (bits_Len64.f a0).bind fun t1 => (some (wrap64 (64 - t1)))
theorem bits_LeadingZeros64.c {a0 : Int} {r : Int} (h : bits_LeadingZeros64.f a0 = some r) : Con Tryz.prog Gw 79 [.s (.i .u64 a0)] (· = .s (.i .i64 r)) := by
 unfold bits_LeadingZeros64.f at h
 obtain ⟨t1, A1, h⟩ := bnd h
 have h := si h; subst h
 exact pth Tryz.func79 [.r (.s (.i .i64 t1))] (fun e => ai (bits_Len64.c A1) e) (by kernel_rfl)
def bits_Div64.l1 : Nat → Int → Int → Int → Int → Int → Int → Int → Int → Int → Option (Int × Int)
 | 0, _, _, _, _, _, _, _, _, _ => none
 | k + 1, x2, x8, x9, x10, x14, x15, x16, x17, x18 => if x18 ≥ 4294967296 then (if (IntKind.u64.wrap (x16 + x9)) ≥ 4294967296 then (if 0 ≤ x8 then (some ((IntKind.u64.wrap ((IntKind.u64.wrap (x15 * 4294967296)) + (IntKind.u64.wrap (x18 - 1)))), (shr .u64 (IntKind.u64.wrap ((IntKind.u64.wrap ((IntKind.u64.wrap (x17 * 4294967296)) + x14)) - (IntKind.u64.wrap ((IntKind.u64.wrap (x18 - 1)) * x2)))) x8))) else (none)) else (bits_Div64.l1 k x2 x8 x9 x10 x14 x15 (IntKind.u64.wrap (x16 + x9)) x17 (IntKind.u64.wrap (x18 - 1)))) else (if (IntKind.u64.wrap (x18 * x10)) > (IntKind.u64.wrap ((IntKind.u64.wrap (4294967296 * x16)) + x14)) then (if (IntKind.u64.wrap (x16 + x9)) ≥ 4294967296 then (if 0 ≤ x8 then (some ((IntKind.u64.wrap ((IntKind.u64.wrap (x15 * 4294967296)) + (IntKind.u64.wrap (x18 - 1)))), (shr .u64 (IntKind.u64.wrap ((IntKind.u64.wrap ((IntKind.u64.wrap (x17 * 4294967296)) + x14)) - (IntKind.u64.wrap ((IntKind.u64.wrap (x18 - 1)) * x2)))) x8))) else (none)) else (bits_Div64.l1 k x2 x8 x9 x10 x14 x15 (IntKind.u64.wrap (x16 + x9)) x17 (IntKind.u64.wrap (x18 - 1)))) else (if 0 ≤ x8 then (some ((IntKind.u64.wrap ((IntKind.u64.wrap (x15 * 4294967296)) + x18)), (shr .u64 (IntKind.u64.wrap ((IntKind.u64.wrap ((IntKind.u64.wrap (x17 * 4294967296)) + x14)) - (IntKind.u64.wrap (x18 * x2)))) x8))) else (none)))
def bits_Div64.j0 : Nat → Int → Int → Int → Int → Int → Int → Int → Int → Option (Int × Int)
 | 0, _, _, _, _, _, _, _, _ => none
 | k + 1, x2, x8, x9, x10, x11, x13, x14, x15 => if x9 = 0 then (none) else (bits_Div64.l1 k x2 x8 x9 x10 x14 x15 (IntKind.u64.wrap ((IntKind.u64.wrap ((IntKind.u64.wrap ((IntKind.u64.wrap (x11 * 4294967296)) + x13)) - (IntKind.u64.wrap (x15 * x2)))) - (IntKind.u64.wrap ((IntKind.u64.wrap (Int.tdiv (IntKind.u64.wrap ((IntKind.u64.wrap ((IntKind.u64.wrap (x11 * 4294967296)) + x13)) - (IntKind.u64.wrap (x15 * x2)))) x9)) * x9)))) (IntKind.u64.wrap ((IntKind.u64.wrap ((IntKind.u64.wrap (x11 * 4294967296)) + x13)) - (IntKind.u64.wrap (x15 * x2)))) (IntKind.u64.wrap (Int.tdiv (IntKind.u64.wrap ((IntKind.u64.wrap ((IntKind.u64.wrap (x11 * 4294967296)) + x13)) - (IntKind.u64.wrap (x15 * x2)))) x9)))
def bits_Div64.l0 : Nat → Int → Int → Int → Int → Int → Int → Int → Int → Int → Option (Int × Int)
 | 0, _, _, _, _, _, _, _, _, _ => none
 | k + 1, x2, x8, x9, x10, x11, x13, x14, x15, x16 => if x15 ≥ 4294967296 then (if (IntKind.u64.wrap (x16 + x9)) ≥ 4294967296 then (bits_Div64.j0 k x2 x8 x9 x10 x11 x13 x14 (IntKind.u64.wrap (x15 - 1))) else (bits_Div64.l0 k x2 x8 x9 x10 x11 x13 x14 (IntKind.u64.wrap (x15 - 1)) (IntKind.u64.wrap (x16 + x9)))) else (if (IntKind.u64.wrap (x15 * x10)) > (IntKind.u64.wrap ((IntKind.u64.wrap (4294967296 * x16)) + x13)) then (if (IntKind.u64.wrap (x16 + x9)) ≥ 4294967296 then (bits_Div64.j0 k x2 x8 x9 x10 x11 x13 x14 (IntKind.u64.wrap (x15 - 1))) else (bits_Div64.l0 k x2 x8 x9 x10 x11 x13 x14 (IntKind.u64.wrap (x15 - 1)) (IntKind.u64.wrap (x16 + x9)))) else (bits_Div64.j0 k x2 x8 x9 x10 x11 x13 x14 x15))
def bits_Div64.f (k : Nat) (a0 : Int) (a1 : Int) (a2 : Int) : Option (Int × Int) := if a2 = 0 then (none) else (if a2 ≤ a0 then (none) else (if a0 = 0 then (some ((IntKind.u64.wrap (Int.tdiv a1 a2)), Int.tmod a1 a2)) else ((bits_LeadingZeros64.f a2).bind fun t1 => (if 0 ≤ (IntKind.u64.wrap t1) then (if 0 ≤ (IntKind.u64.wrap (64 - (IntKind.u64.wrap t1))) then (if (shr .u64 (shl .u64 a2 (IntKind.u64.wrap t1)) 32) = 0 then (none) else (bits_Div64.l0 k (shl .u64 a2 (IntKind.u64.wrap t1)) (IntKind.u64.wrap t1) (shr .u64 (shl .u64 a2 (IntKind.u64.wrap t1)) 32) (Go.bits .and .u64 (shl .u64 a2 (IntKind.u64.wrap t1)) 4294967295) (Go.bits .or .u64 (shl .u64 a0 (IntKind.u64.wrap t1)) (shr .u64 a1 (IntKind.u64.wrap (64 - (IntKind.u64.wrap t1))))) (shr .u64 (shl .u64 a1 (IntKind.u64.wrap t1)) 32) (Go.bits .and .u64 (shl .u64 a1 (IntKind.u64.wrap t1)) 4294967295) (IntKind.u64.wrap (Int.tdiv (Go.bits .or .u64 (shl .u64 a0 (IntKind.u64.wrap t1)) (shr .u64 a1 (IntKind.u64.wrap (64 - (IntKind.u64.wrap t1))))) (shr .u64 (shl .u64 a2 (IntKind.u64.wrap t1)) 32))) (IntKind.u64.wrap ((Go.bits .or .u64 (shl .u64 a0 (IntKind.u64.wrap t1)) (shr .u64 a1 (IntKind.u64.wrap (64 - (IntKind.u64.wrap t1))))) - (IntKind.u64.wrap ((IntKind.u64.wrap (Int.tdiv (Go.bits .or .u64 (shl .u64 a0 (IntKind.u64.wrap t1)) (shr .u64 a1 (IntKind.u64.wrap (64 - (IntKind.u64.wrap t1))))) (shr .u64 (shl .u64 a2 (IntKind.u64.wrap t1)) 32))) * (shr .u64 (shl .u64 a2 (IntKind.u64.wrap t1)) 32))))))) else (none)) else (none)))))
theorem bits_Div64.jc : ∀ k : Nat, (∀ (x2 : Int) (x8 : Int) (x9 : Int) (x10 : Int) (x11 : Int) (x13 : Int) (x14 : Int) (x15 : Int) (r : Int × Int), bits_Div64.j0 k x2 x8 x9 x10 x11 x13 x14 x15 = some r → Fin Tryz.prog Gw 122 (nav (bodyOf Tryz.f122) [1, 1, 1, 1, 1, 1, 1, 1, 1, 1, 1, 1, 1, 1, 1, 0] []) ⟨mkT 135 [(2, .s (.i .u64 x2)), (8, .s (.i .u64 x8)), (9, .s (.i .u64 x9)), (10, .s (.i .u64 x10)), (11, .s (.i .u64 x11)), (13, .s (.i .u64 x13)), (14, .s (.i .u64 x14)), (15, .s (.i .u64 x15))], []⟩ (· = .tu [.s (.i .u64 r.1), .s (.i .u64 r.2)])) ∧ (∀ (x2 : Int) (x8 : Int) (x9 : Int) (x10 : Int) (x11 : Int) (x13 : Int) (x14 : Int) (x15 : Int) (x16 : Int) (r : Int × Int), bits_Div64.l0 k x2 x8 x9 x10 x11 x13 x14 x15 x16 = some r → Fin Tryz.prog Gw 122 (nav (bodyOf Tryz.f122) [1, 1, 1, 1, 1, 1, 1, 1, 1, 1, 1, 1, 1, 1, 0, 0, 0] []) ⟨mkT 135 [(2, .s (.i .u64 x2)), (8, .s (.i .u64 x8)), (9, .s (.i .u64 x9)), (10, .s (.i .u64 x10)), (11, .s (.i .u64 x11)), (13, .s (.i .u64 x13)), (14, .s (.i .u64 x14)), (15, .s (.i .u64 x15)), (16, .s (.i .u64 x16))], []⟩ (· = .tu [.s (.i .u64 r.1), .s (.i .u64 r.2)])) ∧ (∀ (x2 : Int) (x8 : Int) (x9 : Int) (x10 : Int) (x14 : Int) (x15 : Int) (x16 : Int) (x17 : Int) (x18 : Int) (r : Int × Int), bits_Div64.l1 k x2 x8 x9 x10 x14 x15 x16 x17 x18 = some r → Fin Tryz.prog Gw 122 (nav (bodyOf Tryz.f122) [1, 1, 1, 1, 1, 1, 1, 1, 1, 1, 1, 1, 1, 1, 1, 1, 1, 1, 0, 0, 0] []) ⟨mkT 135 [(2, .s (.i .u64 x2)), (8, .s (.i .u64 x8)), (9, .s (.i .u64 x9)), (10, .s (.i .u64 x10)), (14, .s (.i .u64 x14)), (15, .s (.i .u64 x15)), (16, .s (.i .u64 x16)), (17, .s (.i .u64 x17)), (18, .s (.i .u64 x18))], []⟩ (· = .tu [.s (.i .u64 r.1), .s (.i .u64 r.2)]))
 | 0 => ⟨(fun _ _ _ _ _ _ _ _ _ h => nn h), (fun _ _ _ _ _ _ _ _ _ _ h => nn h), (fun _ _ _ _ _ _ _ _ _ _ h => nn h)⟩
 | k + 1 => by
  have ih := bits_Div64.jc k
  refine ⟨?_, ?_, ?_⟩
  ·intro x2 x8 x9 x10 x11 x13 x14 x15 r h
   rw [bits_Div64.j0] at h
   rcases ite_e h with ⟨c1, h⟩ | ⟨c1, h⟩
   ·cases h
   ·exact jth Tryz.func122 [.cut 3 [2, 8, 9, 10, 14, 15, 16, 17, 18] [] []] (fun _ => ai c1 (ih.2.2 _ _ _ _ _ _ _ _ _ _ h)) (by kernel_rfl)
  ·intro x2 x8 x9 x10 x11 x13 x14 x15 x16 r h
   rw [bits_Div64.l0] at h
   rcases ite_e h with ⟨c1, h⟩ | ⟨c1, h⟩
   ·rcases ite_e h with ⟨c2, h⟩ | ⟨c2, h⟩
    ·exact jth Tryz.func122 [.br true, .br true, .br true, .br true, .br true, .br true, .br true, .br true, .br true, .br true, .br true, .cut 0 [2, 8, 9, 10, 11, 13, 14, 15] [] []] (fun _ => ai (d1 c1) (ai (d1 c1) (ai (d1 c1) (ai (d1 c1) (ai (d1 c1) (ai (d1 c1) (ai (d1 c1) (ai (d1 c1) (ai (d1 c1) (ai tt (ai (d1 c2) (ih.1 _ _ _ _ _ _ _ _ _ h)))))))))))) (by kernel_rfl)
    ·exact jth Tryz.func122 [.br true, .br true, .br true, .br true, .br true, .br true, .br true, .br true, .br true, .br true, .br false, .cut 0 [2, 8, 9, 10, 11, 13, 14, 15, 16] [] []] (fun _ => ai (d1 c1) (ai (d1 c1) (ai (d1 c1) (ai (d1 c1) (ai (d1 c1) (ai (d1 c1) (ai (d1 c1) (ai (d1 c1) (ai (d1 c1) (ai tt (ai (d0 c2) (ih.2.1 _ _ _ _ _ _ _ _ _ _ h)))))))))))) (by kernel_rfl)
   ·rcases ite_e h with ⟨c3, h⟩ | ⟨c3, h⟩
    ·rcases ite_e h with ⟨c4, h⟩ | ⟨c4, h⟩
     ·exact jth Tryz.func122 [.br false, .br false, .br false, .br false, .br false, .br false, .br false, .br false, .br false, .br true, .br true, .cut 0 [2, 8, 9, 10, 11, 13, 14, 15] [] []] (fun _ => ai (d0 c1) (ai (d0 c1) (ai (d0 c1) (ai (d0 c1) (ai (d0 c1) (ai (d0 c1) (ai (d0 c1) (ai (d0 c1) (ai (d0 c1) (ai (d1 c3) (ai (d1 c4) (ih.1 _ _ _ _ _ _ _ _ _ h)))))))))))) (by kernel_rfl)
     ·exact jth Tryz.func122 [.br false, .br false, .br false, .br false, .br false, .br false, .br false, .br false, .br false, .br true, .br false, .cut 0 [2, 8, 9, 10, 11, 13, 14, 15, 16] [] []] (fun _ => ai (d0 c1) (ai (d0 c1) (ai (d0 c1) (ai (d0 c1) (ai (d0 c1) (ai (d0 c1) (ai (d0 c1) (ai (d0 c1) (ai (d0 c1) (ai (d1 c3) (ai (d0 c4) (ih.2.1 _ _ _ _ _ _ _ _ _ _ h)))))))))))) (by kernel_rfl)
    ·exact jth Tryz.func122 [.br false, .br false, .br false, .br false, .br false, .br false, .br false, .br false, .br false, .br false, .cut 0 [2, 8, 9, 10, 11, 13, 14, 15] [] []] (fun _ => ai (d0 c1) (ai (d0 c1) (ai (d0 c1) (ai (d0 c1) (ai (d0 c1) (ai (d0 c1) (ai (d0 c1) (ai (d0 c1) (ai (d0 c1) (ai (d0 c3) (ih.1 _ _ _ _ _ _ _ _ _ h))))))))))) (by kernel_rfl)
  ·intro x2 x8 x9 x10 x14 x15 x16 x17 x18 r h
   rw [bits_Div64.l1] at h
   rcases ite_e h with ⟨c1, h⟩ | ⟨c1, h⟩
   ·rcases ite_e h with ⟨c2, h⟩ | ⟨c2, h⟩
    ·rcases ite_e h with ⟨c3, h⟩ | ⟨c3, h⟩
     ·have h := si h; subst h
      exact jth Tryz.func122 [.br true, .br true, .br true, .br true, .br true, .br true, .br true, .br true, .br true, .br true, .br true] (fun e => ai (d1 c1) (ai (d1 c1) (ai (d1 c1) (ai (d1 c1) (ai (d1 c1) (ai (d1 c1) (ai (d1 c1) (ai (d1 c1) (ai (d1 c1) (ai tt (ai (d1 c2) (ai c3 e)))))))))))) (by kernel_rfl)
     ·cases h
    ·exact jth Tryz.func122 [.br true, .br true, .br true, .br true, .br true, .br true, .br true, .br true, .br true, .br true, .br false, .cut 0 [2, 8, 9, 10, 14, 15, 16, 17, 18] [] []] (fun _ => ai (d1 c1) (ai (d1 c1) (ai (d1 c1) (ai (d1 c1) (ai (d1 c1) (ai (d1 c1) (ai (d1 c1) (ai (d1 c1) (ai (d1 c1) (ai tt (ai (d0 c2) (ih.2.2 _ _ _ _ _ _ _ _ _ _ h)))))))))))) (by kernel_rfl)
   ·rcases ite_e h with ⟨c4, h⟩ | ⟨c4, h⟩
    ·rcases ite_e h with ⟨c5, h⟩ | ⟨c5, h⟩
     ·rcases ite_e h with ⟨c6, h⟩ | ⟨c6, h⟩
      ·have h := si h; subst h
       exact jth Tryz.func122 [.br false, .br false, .br false, .br false, .br false, .br false, .br false, .br false, .br false, .br true, .br true] (fun e => ai (d0 c1) (ai (d0 c1) (ai (d0 c1) (ai (d0 c1) (ai (d0 c1) (ai (d0 c1) (ai (d0 c1) (ai (d0 c1) (ai (d0 c1) (ai (d1 c4) (ai (d1 c5) (ai c6 e)))))))))))) (by kernel_rfl)
      ·cases h
     ·exact jth Tryz.func122 [.br false, .br false, .br false, .br false, .br false, .br false, .br false, .br false, .br false, .br true, .br false, .cut 0 [2, 8, 9, 10, 14, 15, 16, 17, 18] [] []] (fun _ => ai (d0 c1) (ai (d0 c1) (ai (d0 c1) (ai (d0 c1) (ai (d0 c1) (ai (d0 c1) (ai (d0 c1) (ai (d0 c1) (ai (d0 c1) (ai (d1 c4) (ai (d0 c5) (ih.2.2 _ _ _ _ _ _ _ _ _ _ h)))))))))))) (by kernel_rfl)
    ·rcases ite_e h with ⟨c7, h⟩ | ⟨c7, h⟩
     ·have h := si h; subst h
      exact jth Tryz.func122 [.br false, .br false, .br false, .br false, .br false, .br false, .br false, .br false, .br false, .br false] (fun e => ai (d0 c1) (ai (d0 c1) (ai (d0 c1) (ai (d0 c1) (ai (d0 c1) (ai (d0 c1) (ai (d0 c1) (ai (d0 c1) (ai (d0 c1) (ai (d0 c4) (ai c7 e))))))))))) (by kernel_rfl)
     ·cases h
theorem bits_Div64.c {k : Nat} {a0 : Int} {a1 : Int} {a2 : Int} {r : Int × Int} (h : bits_Div64.f k a0 a1 a2 = some r) : Con Tryz.prog Gw 122 [.s (.i .u64 a0), .s (.i .u64 a1), .s (.i .u64 a2)] (· = .tu [.s (.i .u64 r.1), .s (.i .u64 r.2)]) := by
 unfold bits_Div64.f at h
 rcases ite_e h with ⟨c1, h⟩ | ⟨c1, h⟩
 ·cases h
 ·rcases ite_e h with ⟨c2, h⟩ | ⟨c2, h⟩
  ·cases h
  ·rcases ite_e h with ⟨c3, h⟩ | ⟨c3, h⟩
   ·have h := si h; subst h
    exact pth Tryz.func122 [.br false, .br false, .br true] (fun e => ai (q0 c1) (ai (d0 c2) (ai (q1 c3) (ai c1 (ai c1 e))))) (by kernel_rfl)
   ·obtain ⟨t1, A4, h⟩ := bnd h
    rcases ite_e h with ⟨c5, h⟩ | ⟨c5, h⟩
    ·rcases ite_e h with ⟨c6, h⟩ | ⟨c6, h⟩
     ·rcases ite_e h with ⟨c7, h⟩ | ⟨c7, h⟩
      ·cases h
      ·exact pth Tryz.func122 [.br false, .br false, .br false, .r (.s (.i .i64 t1)), .cut 9 [2, 8, 9, 10, 11, 13, 14, 15, 16] [] []] (fun _ => ai (q0 c1) (ai (d0 c2) (ai (q0 c3) (ai (bits_LeadingZeros64.c A4) (ai c5 (ai (by decide : (0 : Int) ≤ 32) (ai c5 (ai c6 (ai c5 (ai (by decide : (0 : Int) ≤ 32) (ai c7 ((bits_Div64.jc k).2.1 _ _ _ _ _ _ _ _ _ _ h)))))))))))) (by kernel_rfl)
     ·cases h
    ·cases h
end Go.Proofs.YtelfmddcjlocpaaGreatDoor.PLib
