/- Functions of the program as plain Lean functions (definitions as the print's), and that the machine's calls do what they do (contracts 'X.c', by Px). Condition: math/bits' table is laid. -/
import Derived.Test.YtelfmddcjlocpaaGreatDoorKRoundQuotedGivenD
import Derived.Test.YtelfmddcjlocpaaGreatDoorKRoundQuotedPxTz
set_option linter.unusedVariables false
namespace Go.Proofs.YtelfmddcjlocpaaGreatDoor.PLib
open Go Go.RowKit Go.Proofs.YtelfmddcjlocpaaGreatDoorW.PrintWords Go.Proofs.YtelfmddcjlocpaaGreatDoorW.PrintMore Go.Proofs.YtelfmddcjlocpaaGreatDoor.Given Go.Proofs.YtelfmddcjlocpaaGreatDoor.Px
def gnomonlaw08_format.f (a0 : Bool) : Option (Int) := if a0 = true then (some 32) else (some 64)
theorem gnomonlaw08_format.c {a0 : Bool} {r : Int} (h : gnomonlaw08_format.f a0 = some r) : Con Tryz.prog Gw 10 [.s (.b a0)] (· = .s (.i .i64 r)) := by
 unfold gnomonlaw08_format.f at h
 rcases ite_e h with ⟨c1, h⟩ | ⟨c1, h⟩
 ·have h := si h; subst h
  exact pth Tryz.func10 [.br true] (fun e => ai c1 e) (by kernel_rfl)
 ·have h := si h; subst h
  exact pth Tryz.func10 [.br false] (fun e => ai (z0 c1) e) (by kernel_rfl)
def gnomonref01_DocForm.f (l0 : List Int) : Option (Bool) := if (l0.length : Int) ≤ 8192 then (if (l0.length : Int) = 0 then (some true) else (if 0 ≤ (wrap64 ((l0.length : Int) - 1)) then (if (wrap64 ((l0.length : Int) - 1)) < (l0.length : Int) then (some ((rd l0 (wrap64 ((l0.length : Int) - 1))) != 0)) else (none)) else (none))) else (some false)
theorem gnomonref01_DocForm.c {l0 : List Int} {r : Bool} (h : gnomonref01_DocForm.f l0 = some r) : Con Tryz.prog Gw 89 [.s (.sl .u64 l0)] (· = .s (.b r)) := by
 unfold gnomonref01_DocForm.f at h
 rcases ite_e h with ⟨c1, h⟩ | ⟨c1, h⟩
 ·rcases ite_e h with ⟨c2, h⟩ | ⟨c2, h⟩
  ·have h := si h; subst h
   exact pth Tryz.func89 [.br true, .br true, .br true, .br true, .br true, .br true, .br true, .br true, .br true, .br true, .br true, .br true, .br true, .br true] (fun e => ai (d1 c1) (ai (d1 c1) (ai (d1 c1) (ai (d1 c1) (ai (q1 c2) (ai (q1 c2) (ai (q1 c2) (ai (q1 c2) (ai (q1 c2) (ai (q1 c2) (ai (q1 c2) (ai (d1 c1) (ai (q1 c2) (ai (d1 c1) e)))))))))))))) (by kernel_rfl)
  ·rcases ite_e h with ⟨c3, h⟩ | ⟨c3, h⟩
   ·rcases ite_e h with ⟨c4, h⟩ | ⟨c4, h⟩
    ·have h := si h; subst h
     exact pth Tryz.func89 [.br true, .br true, .br true, .br true, .br false, .br false, .br false, .br false, .br false, .br false, .br false, .br true, .br false, .br true] (fun e => ai (d1 c1) (ai (d1 c1) (ai (d1 c1) (ai (d1 c1) (ai (q0 c2) (ai (q0 c2) (ai (q0 c2) (ai (q0 c2) (ai (q0 c2) (ai c3 (ai c4 (ai (q0 c2) (ai (q0 c2) (ai (d1 c1) (ai (q0 c2) (ai (d1 c1) e)))))))))))))))) (by kernel_rfl)
    ·cases h
   ·cases h
 ·have h := si h; subst h
  exact pth Tryz.func89 [.br false, .br false, .br false, .br false, .br false, .br false] (fun e => ai (d0 c1) (ai (d0 c1) (ai (d0 c1) (ai (d0 c1) (ai (d0 c1) (ai (d0 c1) e)))))) (by kernel_rfl)
def gnomonref05_DocForm.j0 : Nat → Bool → Bool → List Int → Int → Option (Bool)
 | 0, _, _, _, _ => none
 | k + 1, x17, x103000, x103001, x103002 => if x17 = true then (some false) else (if (x103001.length : Int) = 0 then (if x103000 = true then (some false) else (some (x103002 == 0))) else (if 0 < (x103001.length : Int) then (some ((Go.bits .and .u64 (rd x103001 0) 1) == 1)) else (none)))
def gnomonref05_DocForm.f (k : Nat) (a0_0 : Bool) (l0_1 : List Int) (a0_2 : Int) : Option (Bool) := (gnomonref01_DocForm.f l0_1).bind fun t103 => (if t103 = true then (if a0_2 < (-1048576) then (gnomonref05_DocForm.j0 k true a0_0 l0_1 a0_2) else (gnomonref05_DocForm.j0 k (decide (a0_2 > 1048576)) a0_0 l0_1 a0_2)) else (gnomonref05_DocForm.j0 k true a0_0 l0_1 a0_2))
theorem gnomonref05_DocForm.mono_l : ∀ k, (∀ y0 y1 y2 y3, LeO (gnomonref05_DocForm.j0 k y0 y1 y2 y3) (gnomonref05_DocForm.j0 (k + 1) y0 y1 y2 y3))
 | 0 => fun _ _ _ _ r h => by simp [gnomonref05_DocForm.j0] at h
 | k + 1 => by
  have ih0 := gnomonref05_DocForm.mono_l k
  ·intro y0 y1 y2 y3
   unfold gnomonref05_DocForm.j0
   repeat' first
   | (with_reducible exact ih0 _ _ _ _)
   | (with_reducible exact LeO.refl _)
   | (with_reducible exact LeO.none _)
   | (with_reducible refine LeO.ite ?_ ?_)
   | (with_reducible refine LeO.bind ?_ (fun _ => ?_))
   | exact ih0 _ _ _ _
   | exact LeO.none _
   | refine LeO.ite ?_ ?_
   | refine LeO.bind ?_ (fun _ => ?_)
theorem gnomonref05_DocForm.mono : ∀ a0 a1 a2 k, LeO (gnomonref05_DocForm.f k a0 a1 a2) (gnomonref05_DocForm.f (k + 1) a0 a1 a2) := by
 intro a0 a1 a2 k
 have ih0 := gnomonref05_DocForm.mono_l k
 unfold gnomonref05_DocForm.f
 repeat' first
   | (with_reducible exact ih0 _ _ _ _)
   | (with_reducible exact LeO.refl _)
   | (with_reducible exact LeO.none _)
   | (with_reducible refine LeO.ite ?_ ?_)
   | (with_reducible refine LeO.bind ?_ (fun _ => ?_))
   | exact ih0 _ _ _ _
   | exact LeO.none _
   | refine LeO.ite ?_ ?_
   | refine LeO.bind ?_ (fun _ => ?_)
theorem gnomonref05_DocForm.jc : ∀ k : Nat, (∀ (x17 : Bool) (x103000 : Bool) (x103001 : List Int) (x103002 : Int) (r : Bool), gnomonref05_DocForm.j0 k x17 x103000 x103001 x103002 = some r → Fin Tryz.prog Gw 44 (nav (bodyOf Tryz.f44) [1, 0, 1] []) ⟨mkT 39 [(1, .s (.lo 0 0)), (17, .s (.b x17))], [some (26, [.b x103000, .sl .u64 x103001, .i .i64 x103002])]⟩ (· = .s (.b r)))
 | 0 => (fun _ _ _ _ _ h => nn h)
 | k + 1 => by
  have ih := gnomonref05_DocForm.jc k
  ·intro x17 x103000 x103001 x103002 r h
   rw [gnomonref05_DocForm.j0] at h
   rcases ite_e h with ⟨c1, h⟩ | ⟨c1, h⟩
   ·have h := si h; subst h
    exact jth Tryz.func44 [.br true] (fun e => ai c1 e) (by kernel_rfl)
   ·rcases ite_e h with ⟨c2, h⟩ | ⟨c2, h⟩
    ·rcases ite_e h with ⟨c3, h⟩ | ⟨c3, h⟩
     ·have h := si h; subst h
      exact jth Tryz.func44 [.br false, .br true, .br false, .br false, .br false, .br false] (fun e => ai (z0 c1) (ai (q1 c2) (ai (nt1 c3) (ai (nt1 c3) (ai (nt1 c3) (ai (nt1 c3) e)))))) (by kernel_rfl)
     ·have h := si h; subst h
      exact jth Tryz.func44 [.br false, .br true, .br true, .br true, .br true, .br true] (fun e => ai (z0 c1) (ai (q1 c2) (ai (nt0 (z0 c3)) (ai (nt0 (z0 c3)) (ai (nt0 (z0 c3)) (ai (nt0 (z0 c3)) e)))))) (by kernel_rfl)
    ·rcases ite_e h with ⟨c4, h⟩ | ⟨c4, h⟩
     ·have h := si h; subst h
      exact jth Tryz.func44 [.br false, .br false] (fun e => ai (z0 c1) (ai (q0 c2) (ai (by decide : (0 : Int) ≤ 0) (ai c4 e)))) (by kernel_rfl)
     ·cases h
theorem gnomonref05_DocForm.c {k : Nat} {a0_0 : Bool} {l0_1 : List Int} {a0_2 : Int} {r : Bool} (h : gnomonref05_DocForm.f k a0_0 l0_1 a0_2 = some r) : Con Tryz.prog Gw 44 [.ag [.b a0_0, .sl .u64 l0_1, .i .i64 a0_2]] (· = .s (.b r)) := by
 unfold gnomonref05_DocForm.f at h
 obtain ⟨t103, A1, h⟩ := bnd h
 rcases ite_e h with ⟨c2, h⟩ | ⟨c2, h⟩
 ·rcases ite_e h with ⟨c3, h⟩ | ⟨c3, h⟩
  ·exact pth Tryz.func44 [.r (.s (.b t103)), .br false, .br false, .br false, .br false, .br true, .br true, .br true, .br true, .cut 0 [1, 17] [0] []] (fun _ => ai (gnomonref01_DocForm.c A1) (ai (nt1 c2) (ai (nt1 c2) (ai (nt1 c2) (ai (nt1 c2) (ai (d1 c3) (ai (d1 c3) (ai (d1 c3) (ai (d1 c3) (gnomonref05_DocForm.jc k _ _ _ _ _ h)))))))))) (by kernel_rfl)
  ·exact pth Tryz.func44 [.r (.s (.b t103)), .br false, .br false, .br false, .br false, .br false, .br false, .br false, .br false, .cut 0 [1, 17] [0] []] (fun _ => ai (gnomonref01_DocForm.c A1) (ai (nt1 c2) (ai (nt1 c2) (ai (nt1 c2) (ai (nt1 c2) (ai (d0 c3) (ai (d0 c3) (ai (d0 c3) (ai (d0 c3) (gnomonref05_DocForm.jc k _ _ _ _ _ h)))))))))) (by kernel_rfl)
 ·exact pth Tryz.func44 [.r (.s (.b t103)), .br true, .br true, .br true, .br true, .br true, .br true, .br true, .br true, .cut 0 [1, 17] [0] []] (fun _ => ai (gnomonref01_DocForm.c A1) (ai (nt0 (z0 c2)) (ai (nt0 (z0 c2)) (ai (nt0 (z0 c2)) (ai (nt0 (z0 c2)) (ai tt (ai tt (ai tt (ai tt (gnomonref05_DocForm.jc k _ _ _ _ _ h)))))))))) (by kernel_rfl)
def gnomonref05_Nought.f (a0_0 : Bool) (l0_1 : List Int) (a0_2 : Int) : Option (Bool) := some ((l0_1.length : Int) == 0)
theorem gnomonref05_Nought.c {a0_0 : Bool} {l0_1 : List Int} {a0_2 : Int} {r : Bool} (h : gnomonref05_Nought.f a0_0 l0_1 a0_2 = some r) : Con Tryz.prog Gw 15 [.ag [.b a0_0, .sl .u64 l0_1, .i .i64 a0_2]] (· = .s (.b r)) := by
 unfold gnomonref05_Nought.f at h
 have h := si h; subst h
 exact pth Tryz.func15 [] (fun e => e) (by kernel_rfl)
def gnomonref01_Bit.j0 : Nat → List Int → Int → Bool → Option (Int)
 | 0, _, _, _ => none
 | k + 1, x0, x1, x13 => if x13 = true then (some 0) else (if 0 ≤ (wrap64 (Int.tdiv x1 32)) then (if (wrap64 (Int.tdiv x1 32)) < (x0.length : Int) then (if 0 ≤ (Int.tmod x1 32) then (some (wrap64 (Go.bits .and .u32 (shr .u32 (rd x0 (wrap64 (Int.tdiv x1 32))) (Int.tmod x1 32)) 1))) else (none)) else (none)) else (none))
def gnomonref01_Bit.f (k : Nat) (l0 : List Int) (a1 : Int) : Option (Int) := if a1 < 0 then (gnomonref01_Bit.j0 k l0 a1 true) else (gnomonref01_Bit.j0 k l0 a1 (decide ((wrap64 (Int.tdiv a1 32)) ≥ (l0.length : Int))))
theorem gnomonref01_Bit.mono_l : ∀ k, (∀ y0 y1 y2, LeO (gnomonref01_Bit.j0 k y0 y1 y2) (gnomonref01_Bit.j0 (k + 1) y0 y1 y2))
 | 0 => fun _ _ _ r h => by simp [gnomonref01_Bit.j0] at h
 | k + 1 => by
  have ih0 := gnomonref01_Bit.mono_l k
  ·intro y0 y1 y2
   unfold gnomonref01_Bit.j0
   repeat' first
   | (with_reducible exact ih0 _ _ _)
   | (with_reducible exact LeO.refl _)
   | (with_reducible exact LeO.none _)
   | (with_reducible refine LeO.ite ?_ ?_)
   | (with_reducible refine LeO.bind ?_ (fun _ => ?_))
   | exact ih0 _ _ _
   | exact LeO.none _
   | refine LeO.ite ?_ ?_
   | refine LeO.bind ?_ (fun _ => ?_)
theorem gnomonref01_Bit.mono : ∀ a0 a1 k, LeO (gnomonref01_Bit.f k a0 a1) (gnomonref01_Bit.f (k + 1) a0 a1) := by
 intro a0 a1 k
 have ih0 := gnomonref01_Bit.mono_l k
 unfold gnomonref01_Bit.f
 repeat' first
   | (with_reducible exact ih0 _ _ _)
   | (with_reducible exact LeO.refl _)
   | (with_reducible exact LeO.none _)
   | (with_reducible refine LeO.ite ?_ ?_)
   | (with_reducible refine LeO.bind ?_ (fun _ => ?_))
   | exact ih0 _ _ _
   | exact LeO.none _
   | refine LeO.ite ?_ ?_
   | refine LeO.bind ?_ (fun _ => ?_)
theorem gnomonref01_Bit.jc : ∀ k : Nat, (∀ (x0 : List Int) (x1 : Int) (x13 : Bool) (r : Int), gnomonref01_Bit.j0 k x0 x1 x13 = some r → Fin Tryz.prog Gw 159 (nav (bodyOf Tryz.f159) [1, 0, 1] []) ⟨mkT 24 [(0, .s (.sl .u32 x0)), (1, .s (.i .i64 x1)), (13, .s (.b x13))], []⟩ (· = .s (.i .i64 r)))
 | 0 => (fun _ _ _ _ h => nn h)
 | k + 1 => by
  have ih := gnomonref01_Bit.jc k
  ·intro x0 x1 x13 r h
   rw [gnomonref01_Bit.j0] at h
   rcases ite_e h with ⟨c1, h⟩ | ⟨c1, h⟩
   ·have h := si h; subst h
    exact jth Tryz.func159 [.br true] (fun e => ai c1 e) (by kernel_rfl)
   ·rcases ite_e h with ⟨c2, h⟩ | ⟨c2, h⟩
    ·rcases ite_e h with ⟨c3, h⟩ | ⟨c3, h⟩
     ·rcases ite_e h with ⟨c4, h⟩ | ⟨c4, h⟩
      ·have h := si h; subst h
       exact jth Tryz.func159 [.br false] (fun e => ai (z0 c1) (ai (by decide : (32 : Int) ≠ 0) (ai c2 (ai c3 (ai (by decide : (32 : Int) ≠ 0) (ai c4 e)))))) (by kernel_rfl)
      ·cases h
     ·cases h
    ·cases h
theorem gnomonref01_Bit.c {k : Nat} {l0 : List Int} {a1 : Int} {r : Int} (h : gnomonref01_Bit.f k l0 a1 = some r) : Con Tryz.prog Gw 159 [.s (.sl .u32 l0), .s (.i .i64 a1)] (· = .s (.i .i64 r)) := by
 unfold gnomonref01_Bit.f at h
 rcases ite_e h with ⟨c1, h⟩ | ⟨c1, h⟩
 ·exact pth Tryz.func159 [.br true, .br true, .br true, .br true, .br true, .br true, .cut 0 [0, 1, 13] [] []] (fun _ => ai (d1 c1) (ai (d1 c1) (ai (d1 c1) (ai (d1 c1) (ai (d1 c1) (ai (d1 c1) (gnomonref01_Bit.jc k _ _ _ _ h))))))) (by kernel_rfl)
 ·exact pth Tryz.func159 [.br false, .br false, .br false, .br false, .br false, .br false, .cut 0 [0, 1, 13] [] []] (fun _ => ai (d0 c1) (ai (d0 c1) (ai (by decide : (32 : Int) ≠ 0) (ai (d0 c1) (ai (d0 c1) (ai (d0 c1) (ai (d0 c1) (gnomonref01_Bit.jc k _ _ _ _ h)))))))) (by kernel_rfl)
mutual
def gnomonref01_Zeros.l0 : Nat → List Int → Int → Option (Int)
 | 0, _, _ => none
 | k + 1, x0, x3 => if (wrap64 (Int.tdiv x3 32)) < (x0.length : Int) then (if 0 ≤ (wrap64 (Int.tdiv x3 32)) then (gnomonref01_Zeros.j1 k x0 x3 ((rd x0 (wrap64 (Int.tdiv x3 32))) == 0)) else (none)) else (gnomonref01_Zeros.j1 k x0 x3 false)
def gnomonref01_Zeros.j1 : Nat → List Int → Int → Bool → Option (Int)
 | 0, _, _, _ => none
 | k + 1, x0, x3, x19 => if x19 = true then (gnomonref01_Zeros.l0 k x0 (wrap64 (x3 + 32))) else (gnomonref01_Zeros.l1 k x0 x3)
def gnomonref01_Zeros.l1 : Nat → List Int → Int → Option (Int)
 | 0, _, _ => none
 | k + 1, x0, x3 => (gnomonref01_Bit.f k x0 x3).bind fun t108 => (if t108 = 0 then (gnomonref01_Zeros.l1 k x0 (wrap64 (x3 + 1))) else (some x3))
end
def gnomonref01_Zeros.f (k : Nat) (l0 : List Int) : Option (Int) := if (l0.length : Int) = 0 then (some 0) else (gnomonref01_Zeros.l0 k l0 0)
theorem gnomonref01_Zeros.mono_l : ∀ k, (∀ y0 y1, LeO (gnomonref01_Zeros.l0 k y0 y1) (gnomonref01_Zeros.l0 (k + 1) y0 y1)) ∧ (∀ y0 y1 y2, LeO (gnomonref01_Zeros.j1 k y0 y1 y2) (gnomonref01_Zeros.j1 (k + 1) y0 y1 y2)) ∧ (∀ y0 y1, LeO (gnomonref01_Zeros.l1 k y0 y1) (gnomonref01_Zeros.l1 (k + 1) y0 y1))
 | 0 => ⟨fun _ _ r h => by simp [gnomonref01_Zeros.l0] at h, fun _ _ _ r h => by simp [gnomonref01_Zeros.j1] at h, fun _ _ r h => by simp [gnomonref01_Zeros.l1] at h⟩
 | k + 1 => by
  obtain ⟨ih0, ih1, ih2⟩ := gnomonref01_Zeros.mono_l k
  refine ⟨?_, ?_, ?_⟩
  ·intro y0 y1
   unfold gnomonref01_Zeros.l0
   repeat' first
   | (with_reducible exact ih0 _ _)
   | (with_reducible exact ih1 _ _ _)
   | (with_reducible exact ih2 _ _)
   | (with_reducible exact gnomonref01_Bit.mono _ _ _)
   | (with_reducible exact LeO.refl _)
   | (with_reducible exact LeO.none _)
   | (with_reducible refine LeO.ite ?_ ?_)
   | (with_reducible refine LeO.bind ?_ (fun _ => ?_))
   | exact ih0 _ _
   | exact ih1 _ _ _
   | exact ih2 _ _
   | exact gnomonref01_Bit.mono _ _ _
   | exact LeO.none _
   | refine LeO.ite ?_ ?_
   | refine LeO.bind ?_ (fun _ => ?_)
  ·intro y0 y1 y2
   unfold gnomonref01_Zeros.j1
   repeat' first
   | (with_reducible exact ih0 _ _)
   | (with_reducible exact ih1 _ _ _)
   | (with_reducible exact ih2 _ _)
   | (with_reducible exact gnomonref01_Bit.mono _ _ _)
   | (with_reducible exact LeO.refl _)
   | (with_reducible exact LeO.none _)
   | (with_reducible refine LeO.ite ?_ ?_)
   | (with_reducible refine LeO.bind ?_ (fun _ => ?_))
   | exact ih0 _ _
   | exact ih1 _ _ _
   | exact ih2 _ _
   | exact gnomonref01_Bit.mono _ _ _
   | exact LeO.none _
   | refine LeO.ite ?_ ?_
   | refine LeO.bind ?_ (fun _ => ?_)
  ·intro y0 y1
   unfold gnomonref01_Zeros.l1
   repeat' first
   | (with_reducible exact ih0 _ _)
   | (with_reducible exact ih1 _ _ _)
   | (with_reducible exact ih2 _ _)
   | (with_reducible exact gnomonref01_Bit.mono _ _ _)
   | (with_reducible exact LeO.refl _)
   | (with_reducible exact LeO.none _)
   | (with_reducible refine LeO.ite ?_ ?_)
   | (with_reducible refine LeO.bind ?_ (fun _ => ?_))
   | exact ih0 _ _
   | exact ih1 _ _ _
   | exact ih2 _ _
   | exact gnomonref01_Bit.mono _ _ _
   | exact LeO.none _
   | refine LeO.ite ?_ ?_
   | refine LeO.bind ?_ (fun _ => ?_)
theorem gnomonref01_Zeros.mono : ∀ a0 k, LeO (gnomonref01_Zeros.f k a0) (gnomonref01_Zeros.f (k + 1) a0) := by
 intro a0 k
 obtain ⟨ih0, ih1, ih2⟩ := gnomonref01_Zeros.mono_l k
 unfold gnomonref01_Zeros.f
 repeat' first
   | (with_reducible exact ih0 _ _)
   | (with_reducible exact ih1 _ _ _)
   | (with_reducible exact ih2 _ _)
   | (with_reducible exact gnomonref01_Bit.mono _ _ _)
   | (with_reducible exact LeO.refl _)
   | (with_reducible exact LeO.none _)
   | (with_reducible refine LeO.ite ?_ ?_)
   | (with_reducible refine LeO.bind ?_ (fun _ => ?_))
   | exact ih0 _ _
   | exact ih1 _ _ _
   | exact ih2 _ _
   | exact gnomonref01_Bit.mono _ _ _
   | exact LeO.none _
   | refine LeO.ite ?_ ?_
   | refine LeO.bind ?_ (fun _ => ?_)
theorem gnomonref01_Zeros.jc : ∀ k : Nat, (∀ (x0 : List Int) (x3 : Int) (x19 : Bool) (r : Int), gnomonref01_Zeros.j1 k x0 x3 x19 = some r → Fin Tryz.prog Gw 128 (nav (bodyOf Tryz.f128) [1, 1, 1, 0, 0, 0, 0, 1] []) ⟨mkT 29 [(0, .s (.sl .u32 x0)), (3, .s (.i .i64 x3)), (19, .s (.b x19))], []⟩ (· = .s (.i .i64 r))) ∧ (∀ (x0 : List Int) (x3 : Int) (r : Int), gnomonref01_Zeros.l0 k x0 x3 = some r → Fin Tryz.prog Gw 128 (nav (bodyOf Tryz.f128) [1, 1, 1, 0, 0, 0] []) ⟨mkT 29 [(0, .s (.sl .u32 x0)), (3, .s (.i .i64 x3))], []⟩ (· = .s (.i .i64 r))) ∧ (∀ (x0 : List Int) (x3 : Int) (r : Int), gnomonref01_Zeros.l1 k x0 x3 = some r → Fin Tryz.prog Gw 128 (nav (bodyOf Tryz.f128) [1, 1, 1, 1, 0, 0, 0] []) ⟨mkT 29 [(0, .s (.sl .u32 x0)), (3, .s (.i .i64 x3))], []⟩ (· = .s (.i .i64 r)))
 | 0 => ⟨(fun _ _ _ _ h => nn h), (fun _ _ _ h => nn h), (fun _ _ _ h => nn h)⟩
 | k + 1 => by
  have ih := gnomonref01_Zeros.jc k
  refine ⟨?_, ?_, ?_⟩
  ·intro x0 x3 x19 r h
   rw [gnomonref01_Zeros.j1] at h
   rcases ite_e h with ⟨c1, h⟩ | ⟨c1, h⟩
   ·exact jth Tryz.func128 [.br true, .cut 1 [0, 3] [] []] (fun _ => ai c1 (ih.2.1 _ _ _ h)) (by kernel_rfl)
   ·exact jth Tryz.func128 [.br false, .cut 0 [0, 3] [] []] (fun _ => ai (z0 c1) (ih.2.2 _ _ _ h)) (by kernel_rfl)
  ·intro x0 x3 r h
   rw [gnomonref01_Zeros.l0] at h
   rcases ite_e h with ⟨c1, h⟩ | ⟨c1, h⟩
   ·rcases ite_e h with ⟨c2, h⟩ | ⟨c2, h⟩
    ·exact jth Tryz.func128 [.br true, .br true, .br true, .br true, .br true, .br true, .br true, .cut 0 [0, 3, 19] [] []] (fun _ => ai (by decide : (32 : Int) ≠ 0) (ai (d1 c1) (ai (d1 c1) (ai (d1 c1) (ai (by decide : (32 : Int) ≠ 0) (ai (d1 c1) (ai c2 (ai c1 (ai (d1 c1) (ai (d1 c1) (ai (d1 c1) (ih.1 _ _ _ _ h)))))))))))) (by kernel_rfl)
    ·cases h
   ·exact jth Tryz.func128 [.br false, .br false, .br false, .br false, .br false, .br false, .br false, .cut 0 [0, 3, 19] [] []] (fun _ => ai (by decide : (32 : Int) ≠ 0) (ai (d0 c1) (ai (d0 c1) (ai (d0 c1) (ai (d0 c1) (ai (d0 c1) (ai (d0 c1) (ai (d0 c1) (ih.1 _ _ _ _ h))))))))) (by kernel_rfl)
  ·intro x0 x3 r h
   rw [gnomonref01_Zeros.l1] at h
   obtain ⟨t108, A1, h⟩ := bnd h
   rcases ite_e h with ⟨c2, h⟩ | ⟨c2, h⟩
   ·exact jth Tryz.func128 [.r (.s (.i .i64 t108)), .br true, .cut 1 [0, 3] [] []] (fun _ => ai (gnomonref01_Bit.c A1) (ai (q1 c2) (ih.2.2 _ _ _ h))) (by kernel_rfl)
   ·have h := si h; subst h
    exact jth Tryz.func128 [.r (.s (.i .i64 t108)), .br false] (fun e => ai (gnomonref01_Bit.c A1) (ai (q0 c2) e)) (by kernel_rfl)
theorem gnomonref01_Zeros.c {k : Nat} {l0 : List Int} {r : Int} (h : gnomonref01_Zeros.f k l0 = some r) : Con Tryz.prog Gw 128 [.s (.sl .u32 l0)] (· = .s (.i .i64 r)) := by
 unfold gnomonref01_Zeros.f at h
 rcases ite_e h with ⟨c1, h⟩ | ⟨c1, h⟩
 ·have h := si h; subst h
  exact pth Tryz.func128 [.br true] (fun e => ai (q1 c1) e) (by kernel_rfl)
 ·exact pth Tryz.func128 [.br false, .cut 1 [0, 3] [] []] (fun _ => ai (q0 c1) ((gnomonref01_Zeros.jc k).2.1 _ _ _ h)) (by kernel_rfl)
def dyadic_nought.f (a0_0 : Bool) (l0_1 : List Int) (a0_2 : Int) : Option (Bool) := some ((l0_1.length : Int) == 0)
theorem dyadic_nought.c {a0_0 : Bool} {l0_1 : List Int} {a0_2 : Int} {r : Bool} (h : dyadic_nought.f a0_0 l0_1 a0_2 = some r) : Con Tryz.prog Gw 50 [.ag [.b a0_0, .sl .u64 l0_1, .i .i64 a0_2]] (· = .s (.b r)) := by
 unfold dyadic_nought.f at h
 have h := si h; subst h
 exact pth Tryz.func50 [] (fun e => e) (by kernel_rfl)
def nat_Form.f (l0 : List Int) : Option (Bool) := if (l0.length : Int) ≤ 8192 then (if (l0.length : Int) = 0 then (some true) else (if 0 ≤ (wrap64 ((l0.length : Int) - 1)) then (if (wrap64 ((l0.length : Int) - 1)) < (l0.length : Int) then (some ((rd l0 (wrap64 ((l0.length : Int) - 1))) != 0)) else (none)) else (none))) else (some false)
theorem nat_Form.c {l0 : List Int} {r : Bool} (h : nat_Form.f l0 = some r) : Con Tryz.prog Gw 73 [.s (.sl .u64 l0)] (· = .s (.b r)) := by
 unfold nat_Form.f at h
 rcases ite_e h with ⟨c1, h⟩ | ⟨c1, h⟩
 ·rcases ite_e h with ⟨c2, h⟩ | ⟨c2, h⟩
  ·have h := si h; subst h
   exact pth Tryz.func73 [.br true, .br true, .br true, .br true, .br true, .br true, .br true, .br true, .br true, .br true, .br true, .br true, .br true, .br true] (fun e => ai (d1 c1) (ai (d1 c1) (ai (d1 c1) (ai (d1 c1) (ai (q1 c2) (ai (q1 c2) (ai (q1 c2) (ai (q1 c2) (ai (q1 c2) (ai (q1 c2) (ai (q1 c2) (ai (d1 c1) (ai (q1 c2) (ai (d1 c1) e)))))))))))))) (by kernel_rfl)
  ·rcases ite_e h with ⟨c3, h⟩ | ⟨c3, h⟩
   ·rcases ite_e h with ⟨c4, h⟩ | ⟨c4, h⟩
    ·have h := si h; subst h
     exact pth Tryz.func73 [.br true, .br true, .br true, .br true, .br false, .br false, .br false, .br false, .br false, .br false, .br false, .br true, .br false, .br true] (fun e => ai (d1 c1) (ai (d1 c1) (ai (d1 c1) (ai (d1 c1) (ai (q0 c2) (ai (q0 c2) (ai (q0 c2) (ai (q0 c2) (ai (q0 c2) (ai c3 (ai c4 (ai (q0 c2) (ai (q0 c2) (ai (d1 c1) (ai (q0 c2) (ai (d1 c1) e)))))))))))))))) (by kernel_rfl)
    ·cases h
   ·cases h
 ·have h := si h; subst h
  exact pth Tryz.func73 [.br false, .br false, .br false, .br false, .br false, .br false] (fun e => ai (d0 c1) (ai (d0 c1) (ai (d0 c1) (ai (d0 c1) (ai (d0 c1) (ai (d0 c1) e)))))) (by kernel_rfl)
def num_Form.f (a0_0 : Bool) (l0_1 : List Int) : Option (Bool) := (nat_Form.f l0_1).bind fun t284 => (if t284 = true then (if a0_0 = true then (some (!((l0_1.length : Int) == 0))) else (some (!false))) else (some false))
theorem num_Form.c {a0_0 : Bool} {l0_1 : List Int} {r : Bool} (h : num_Form.f a0_0 l0_1 = some r) : Con Tryz.prog Gw 70 [.ag [.b a0_0, .sl .u64 l0_1]] (· = .s (.b r)) := by
 unfold num_Form.f at h
 obtain ⟨t284, A1, h⟩ := bnd h
 rcases ite_e h with ⟨c2, h⟩ | ⟨c2, h⟩
 ·rcases ite_e h with ⟨c3, h⟩ | ⟨c3, h⟩
  ·have h := si h; subst h
   exact pth Tryz.func70 [.r (.s (.b t284)), .br true, .br true, .br true, .br true, .br true, .br true, .br true, .br true, .br true, .br true, .br true] (fun e => ai (nat_Form.c A1) (ai c2 (ai c2 (ai c2 (ai c3 (ai c3 (ai c3 (ai c3 (ai c2 (ai c3 (ai c2 (ai c2 e)))))))))))) (by kernel_rfl)
  ·have h := si h; subst h
   exact pth Tryz.func70 [.r (.s (.b t284)), .br true, .br true, .br true, .br false, .br false, .br false, .br false, .br true, .br false, .br true, .br true] (fun e => ai (nat_Form.c A1) (ai c2 (ai c2 (ai c2 (ai (z0 c3) (ai (z0 c3) (ai (z0 c3) (ai (z0 c3) (ai c2 (ai (z0 c3) (ai c2 (ai c2 e)))))))))))) (by kernel_rfl)
 ·have h := si h; subst h
  exact pth Tryz.func70 [.r (.s (.b t284)), .br false, .br false, .br false, .br false, .br false, .br false] (fun e => ai (nat_Form.c A1) (ai (z0 c2) (ai (z0 c2) (ai (z0 c2) (ai (z0 c2) (ai (z0 c2) (ai (z0 c2) e))))))) (by kernel_rfl)
def dyadic_Form.j0 : Nat → Bool → Bool → List Int → Int → Option (Bool)
 | 0, _, _, _, _ => none
 | k + 1, x16, x286000, x286001, x286002 => if x16 = true then (some false) else ((dyadic_nought.f x286000 x286001 x286002).bind fun t287 => (if t287 = true then (some (x286002 == 0)) else (if 0 < (x286001.length : Int) then (some ((Go.bits .and .u64 (rd x286001 0) 1) == 1)) else (none))))
def dyadic_Form.f (k : Nat) (a0_0 : Bool) (l0_1 : List Int) (a0_2 : Int) : Option (Bool) := (num_Form.f a0_0 l0_1).bind fun t286 => (if t286 = true then (if a0_2 < (-1048576) then (dyadic_Form.j0 k true a0_0 l0_1 a0_2) else (dyadic_Form.j0 k (decide (a0_2 > 1048576)) a0_0 l0_1 a0_2)) else (dyadic_Form.j0 k true a0_0 l0_1 a0_2))
theorem dyadic_Form.mono_l : ∀ k, (∀ y0 y1 y2 y3, LeO (dyadic_Form.j0 k y0 y1 y2 y3) (dyadic_Form.j0 (k + 1) y0 y1 y2 y3))
 | 0 => fun _ _ _ _ r h => by simp [dyadic_Form.j0] at h
 | k + 1 => by
  have ih0 := dyadic_Form.mono_l k
  ·intro y0 y1 y2 y3
   unfold dyadic_Form.j0
   repeat' first
   | (with_reducible exact ih0 _ _ _ _)
   | (with_reducible exact LeO.refl _)
   | (with_reducible exact LeO.none _)
   | (with_reducible refine LeO.ite ?_ ?_)
   | (with_reducible refine LeO.bind ?_ (fun _ => ?_))
   | exact ih0 _ _ _ _
   | exact LeO.none _
   | refine LeO.ite ?_ ?_
   | refine LeO.bind ?_ (fun _ => ?_)
theorem dyadic_Form.mono : ∀ a0 a1 a2 k, LeO (dyadic_Form.f k a0 a1 a2) (dyadic_Form.f (k + 1) a0 a1 a2) := by
 intro a0 a1 a2 k
 have ih0 := dyadic_Form.mono_l k
 unfold dyadic_Form.f
 repeat' first
   | (with_reducible exact ih0 _ _ _ _)
   | (with_reducible exact LeO.refl _)
   | (with_reducible exact LeO.none _)
   | (with_reducible refine LeO.ite ?_ ?_)
   | (with_reducible refine LeO.bind ?_ (fun _ => ?_))
   | exact ih0 _ _ _ _
   | exact LeO.none _
   | refine LeO.ite ?_ ?_
   | refine LeO.bind ?_ (fun _ => ?_)
theorem dyadic_Form.jc : ∀ k : Nat, (∀ (x16 : Bool) (x286000 : Bool) (x286001 : List Int) (x286002 : Int) (r : Bool), dyadic_Form.j0 k x16 x286000 x286001 x286002 = some r → Fin Tryz.prog Gw 34 (nav (bodyOf Tryz.f34) [1, 0, 1] []) ⟨mkT 29 [(1, .s (.lo 0 0)), (16, .s (.b x16))], [some (26, [.b x286000, .sl .u64 x286001, .i .i64 x286002])]⟩ (· = .s (.b r)))
 | 0 => (fun _ _ _ _ _ h => nn h)
 | k + 1 => by
  have ih := dyadic_Form.jc k
  ·intro x16 x286000 x286001 x286002 r h
   rw [dyadic_Form.j0] at h
   rcases ite_e h with ⟨c1, h⟩ | ⟨c1, h⟩
   ·have h := si h; subst h
    exact jth Tryz.func34 [.br true] (fun e => ai c1 e) (by kernel_rfl)
   ·obtain ⟨t287, A2, h⟩ := bnd h
    rcases ite_e h with ⟨c3, h⟩ | ⟨c3, h⟩
    ·have h := si h; subst h
     exact jth Tryz.func34 [.br false, .r (.s (.b t287)), .br true] (fun e => ai (z0 c1) (ai (dyadic_nought.c A2) (ai c3 e))) (by kernel_rfl)
    ·rcases ite_e h with ⟨c4, h⟩ | ⟨c4, h⟩
     ·have h := si h; subst h
      exact jth Tryz.func34 [.br false, .r (.s (.b t287)), .br false] (fun e => ai (z0 c1) (ai (dyadic_nought.c A2) (ai (z0 c3) (ai (by decide : (0 : Int) ≤ 0) (ai c4 e))))) (by kernel_rfl)
     ·cases h
theorem dyadic_Form.c {k : Nat} {a0_0 : Bool} {l0_1 : List Int} {a0_2 : Int} {r : Bool} (h : dyadic_Form.f k a0_0 l0_1 a0_2 = some r) : Con Tryz.prog Gw 34 [.ag [.b a0_0, .sl .u64 l0_1, .i .i64 a0_2]] (· = .s (.b r)) := by
 unfold dyadic_Form.f at h
 obtain ⟨t286, A1, h⟩ := bnd h
 rcases ite_e h with ⟨c2, h⟩ | ⟨c2, h⟩
 ·rcases ite_e h with ⟨c3, h⟩ | ⟨c3, h⟩
  ·exact pth Tryz.func34 [.r (.s (.b t286)), .br false, .br false, .br false, .br false, .br true, .br true, .br true, .br true, .cut 0 [1, 16] [0] []] (fun _ => ai (num_Form.c A1) (ai (nt1 c2) (ai (nt1 c2) (ai (nt1 c2) (ai (nt1 c2) (ai (d1 c3) (ai (d1 c3) (ai (d1 c3) (ai (d1 c3) (dyadic_Form.jc k _ _ _ _ _ h)))))))))) (by kernel_rfl)
  ·exact pth Tryz.func34 [.r (.s (.b t286)), .br false, .br false, .br false, .br false, .br false, .br false, .br false, .br false, .cut 0 [1, 16] [0] []] (fun _ => ai (num_Form.c A1) (ai (nt1 c2) (ai (nt1 c2) (ai (nt1 c2) (ai (nt1 c2) (ai (d0 c3) (ai (d0 c3) (ai (d0 c3) (ai (d0 c3) (dyadic_Form.jc k _ _ _ _ _ h)))))))))) (by kernel_rfl)
 ·exact pth Tryz.func34 [.r (.s (.b t286)), .br true, .br true, .br true, .br true, .br true, .br true, .br true, .br true, .cut 0 [1, 16] [0] []] (fun _ => ai (num_Form.c A1) (ai (nt0 (z0 c2)) (ai (nt0 (z0 c2)) (ai (nt0 (z0 c2)) (ai (nt0 (z0 c2)) (ai tt (ai tt (ai tt (ai tt (dyadic_Form.jc k _ _ _ _ _ h)))))))))) (by kernel_rfl)
def num_Sign.f (a0_0 : Bool) (l0_1 : List Int) : Option (Int) := (nat_Bits.f l0_1).bind fun t290 => (if t290 = 0 then (some 0) else (if a0_0 = true then (some (-1)) else (some 1)))
def round_of.f (a0 : Int) : Option (Int × Int × Int) := if a0 = 32 then (some (24, (-149), 31)) else (if a0 = 64 then (some (53, (-1074), 63)) else (some (0, 0, 0)))
theorem round_of.c {a0 : Int} {r : Int × Int × Int} (h : round_of.f a0 = some r) : Con Tryz.prog Gw 33 [.s (.i .i64 a0)] (· = .ag [.i .i64 r.1, .i .i64 r.2.1, .i .i64 r.2.2]) := by
 unfold round_of.f at h
 rcases ite_e h with ⟨c1, h⟩ | ⟨c1, h⟩
 ·have h := si h; subst h
  exact pth Tryz.func33 [.br true] (fun e => ai (q1 c1) e) (by kernel_rfl)
 ·rcases ite_e h with ⟨c2, h⟩ | ⟨c2, h⟩
  ·have h := si h; subst h
   exact pth Tryz.func33 [.br false, .br true] (fun e => ai (q0 c1) (ai (q1 c2) e)) (by kernel_rfl)
  ·have h := si h; subst h
   exact pth Tryz.func33 [.br false, .br false] (fun e => ai (q0 c1) (ai (q0 c2) e)) (by kernel_rfl)
def round_widths_signed.f (a0_0 : Int) (a0_1 : Int) (a0_2 : Int) (a1 : Bool) (a2 : Int) : Option (Int) := if a1 = true then (if 0 ≤ a0_2 then (some (Go.bits .or .u64 a2 (shl .u64 1 a0_2))) else (none)) else (some a2)
theorem round_widths_signed.c {a0_0 : Int} {a0_1 : Int} {a0_2 : Int} {a1 : Bool} {a2 : Int} {r : Int} (h : round_widths_signed.f a0_0 a0_1 a0_2 a1 a2 = some r) : Con Tryz.prog Gw 39 [.ag [.i .i64 a0_0, .i .i64 a0_1, .i .i64 a0_2], .s (.b a1), .s (.i .u64 a2)] (· = .s (.i .u64 r)) := by
 unfold round_widths_signed.f at h
 rcases ite_e h with ⟨c1, h⟩ | ⟨c1, h⟩
 ·rcases ite_e h with ⟨c2, h⟩ | ⟨c2, h⟩
  ·have h := si h; subst h
   exact pth Tryz.func39 [.br true] (fun e => ai c1 (ai c2 e)) (by kernel_rfl)
  ·cases h
 ·have h := si h; subst h
  exact pth Tryz.func39 [.br false] (fun e => ai (z0 c1) e) (by kernel_rfl)
def num_whole.f (a0 : Bool) (l1 : List Int) : Option (Bool × List Int) := if a0 = true then (some (decide ((l1.length : Int) > 0), l1)) else (some (false, l1))
theorem num_whole.c {a0 : Bool} {l1 : List Int} {r : Bool × List Int} (h : num_whole.f a0 l1 = some r) : Con Tryz.prog Gw 137 [.s (.b a0), .s (.sl .u64 l1)] (· = .ag [.b r.1, .sl .u64 r.2]) := by
 unfold num_whole.f at h
 rcases ite_e h with ⟨c1, h⟩ | ⟨c1, h⟩
 ·have h := si h; subst h
  exact pth Tryz.func137 [.br true, .br true, .br true, .br true] (fun e => ai c1 (ai c1 (ai c1 (ai c1 e)))) (by kernel_rfl)
 ·have h := si h; subst h
  exact pth Tryz.func137 [.br false, .br false, .br false, .br false] (fun e => ai (z0 c1) (ai (z0 c1) (ai (z0 c1) (ai (z0 c1) e)))) (by kernel_rfl)
def num_told.f (a0 : Bool) (l1 : List Int) (a2 : Int) : Option (Bool × List Int × Int) := if a2 = 0 then ((num_whole.f a0 l1).bind fun bt321 => (some (bt321.1, bt321.2, 0))) else (some (false, ([] : List Int), a2))
theorem num_told.c {a0 : Bool} {l1 : List Int} {a2 : Int} {r : Bool × List Int × Int} (h : num_told.f a0 l1 a2 = some r) : Con Tryz.prog Gw 91 [.s (.b a0), .s (.sl .u64 l1), .s (.i .i64 a2)] (· = .tu [.ag [.b r.1, .sl .u64 r.2.1], .s (.i .i64 r.2.2)]) := by
 unfold num_told.f at h
 rcases ite_e h with ⟨c1, h⟩ | ⟨c1, h⟩
 ·obtain ⟨bt321, A2, h⟩ := bnd h
  have h := si h; subst h
  exact pth Tryz.func91 [.br false, .r (.ag [.b bt321.1, .sl .u64 bt321.2])] (fun e => ai (n0 c1) (ai (num_whole.c A2) e)) (by kernel_rfl)
 ·have h := si h; subst h
  exact pth Tryz.func91 [.br true] (fun e => ai (n1 c1) e) (by kernel_rfl)
def num_Shl.f (a0_0 : Bool) (l0_1 : List Int) (a1 : Int) : Option (Bool × List Int × Int) := if a1 < 0 then (some (false, ([] : List Int), 1)) else ((num_Form.f a0_0 l0_1).bind fun t327 => (if t327 = true then ((nat_Shl.f l0_1 a1).bind fun bt328 => ((num_told.f a0_0 bt328.1 bt328.2).bind fun bt332 => (some (bt332.1, bt332.2.1, bt332.2.2)))) else (some (false, ([] : List Int), 2))))
theorem num_Shl.c {a0_0 : Bool} {l0_1 : List Int} {a1 : Int} {r : Bool × List Int × Int} (h : num_Shl.f a0_0 l0_1 a1 = some r) : Con Tryz.prog Gw 84 [.ag [.b a0_0, .sl .u64 l0_1], .s (.i .i64 a1)] (· = .tu [.ag [.b r.1, .sl .u64 r.2.1], .s (.i .i64 r.2.2)]) := by
 unfold num_Shl.f at h
 rcases ite_e h with ⟨c1, h⟩ | ⟨c1, h⟩
 ·have h := si h; subst h
  exact pth Tryz.func84 [.br true] (fun e => ai (d1 c1) e) (by kernel_rfl)
 ·obtain ⟨t327, A2, h⟩ := bnd h
  rcases ite_e h with ⟨c3, h⟩ | ⟨c3, h⟩
  ·obtain ⟨bt328, A4, h⟩ := bnd h
   obtain ⟨bt332, A5, h⟩ := bnd h
   have h := si h; subst h
   exact pth Tryz.func84 [.br false, .r (.s (.b t327)), .br false, .r (.tu [.s (.sl .u64 bt328.1), .s (.i .i64 bt328.2)]), .r (.tu [.ag [.b bt332.1, .sl .u64 bt332.2.1], .s (.i .i64 bt332.2.2)])] (fun e => ai (d0 c1) (ai (num_Form.c A2) (ai (nt1 c3) (ai (nat_Shl.c A4) (ai (num_told.c A5) e))))) (by kernel_rfl)
  ·have h := si h; subst h
   exact pth Tryz.func84 [.br false, .r (.s (.b t327)), .br true] (fun e => ai (d0 c1) (ai (num_Form.c A2) (ai (nt0 (z0 c3)) e))) (by kernel_rfl)
def round_widths_infinity.f (a0_0 : Int) (a0_1 : Int) (a0_2 : Int) : Option (Int) := if 0 ≤ a0_2 then (if 0 ≤ (wrap64 (a0_0 - 1)) then (some (IntKind.u64.wrap ((shl .u64 1 a0_2) - (shl .u64 1 (wrap64 (a0_0 - 1)))))) else (none)) else (none)
theorem round_widths_infinity.c {a0_0 : Int} {a0_1 : Int} {a0_2 : Int} {r : Int} (h : round_widths_infinity.f a0_0 a0_1 a0_2 = some r) : Con Tryz.prog Gw 68 [.ag [.i .i64 a0_0, .i .i64 a0_1, .i .i64 a0_2]] (· = .s (.i .u64 r)) := by
 unfold round_widths_infinity.f at h
 rcases ite_e h with ⟨c1, h⟩ | ⟨c1, h⟩
 ·rcases ite_e h with ⟨c2, h⟩ | ⟨c2, h⟩
  ·have h := si h; subst h
   exact pth Tryz.func68 [] (fun e => ai c1 (ai c2 e)) (by kernel_rfl)
  ·cases h
 ·cases h
def nat_Bit.j0 : Nat → List Int → Int → Bool → Option (Bool)
 | 0, _, _, _ => none
 | k + 1, x0, x1, x13 => if x13 = true then (some false) else (if 0 ≤ (wrap64 (Int.tdiv x1 64)) then (if (wrap64 (Int.tdiv x1 64)) < (x0.length : Int) then (if 0 ≤ (Int.tmod x1 64) then (some ((Go.bits .and .u64 (shr .u64 (rd x0 (wrap64 (Int.tdiv x1 64))) (Int.tmod x1 64)) 1) == 1)) else (none)) else (none)) else (none))
def nat_Bit.f (k : Nat) (l0 : List Int) (a1 : Int) : Option (Bool) := if a1 < 0 then (nat_Bit.j0 k l0 a1 true) else (nat_Bit.j0 k l0 a1 (decide ((wrap64 (Int.tdiv a1 64)) ≥ (l0.length : Int))))
theorem nat_Bit.mono_l : ∀ k, (∀ y0 y1 y2, LeO (nat_Bit.j0 k y0 y1 y2) (nat_Bit.j0 (k + 1) y0 y1 y2))
 | 0 => fun _ _ _ r h => by simp [nat_Bit.j0] at h
 | k + 1 => by
  have ih0 := nat_Bit.mono_l k
  ·intro y0 y1 y2
   unfold nat_Bit.j0
   repeat' first
   | (with_reducible exact ih0 _ _ _)
   | (with_reducible exact LeO.refl _)
   | (with_reducible exact LeO.none _)
   | (with_reducible refine LeO.ite ?_ ?_)
   | (with_reducible refine LeO.bind ?_ (fun _ => ?_))
   | exact ih0 _ _ _
   | exact LeO.none _
   | refine LeO.ite ?_ ?_
   | refine LeO.bind ?_ (fun _ => ?_)
theorem nat_Bit.mono : ∀ a0 a1 k, LeO (nat_Bit.f k a0 a1) (nat_Bit.f (k + 1) a0 a1) := by
 intro a0 a1 k
 have ih0 := nat_Bit.mono_l k
 unfold nat_Bit.f
 repeat' first
   | (with_reducible exact ih0 _ _ _)
   | (with_reducible exact LeO.refl _)
   | (with_reducible exact LeO.none _)
   | (with_reducible refine LeO.ite ?_ ?_)
   | (with_reducible refine LeO.bind ?_ (fun _ => ?_))
   | exact ih0 _ _ _
   | exact LeO.none _
   | refine LeO.ite ?_ ?_
   | refine LeO.bind ?_ (fun _ => ?_)
theorem nat_Bit.jc : ∀ k : Nat, (∀ (x0 : List Int) (x1 : Int) (x13 : Bool) (r : Bool), nat_Bit.j0 k x0 x1 x13 = some r → Fin Tryz.prog Gw 157 (nav (bodyOf Tryz.f157) [1, 0, 1] []) ⟨mkT 24 [(0, .s (.sl .u64 x0)), (1, .s (.i .i64 x1)), (13, .s (.b x13))], []⟩ (· = .s (.b r)))
 | 0 => (fun _ _ _ _ h => nn h)
 | k + 1 => by
  have ih := nat_Bit.jc k
  ·intro x0 x1 x13 r h
   rw [nat_Bit.j0] at h
   rcases ite_e h with ⟨c1, h⟩ | ⟨c1, h⟩
   ·have h := si h; subst h
    exact jth Tryz.func157 [.br true] (fun e => ai c1 e) (by kernel_rfl)
   ·rcases ite_e h with ⟨c2, h⟩ | ⟨c2, h⟩
    ·rcases ite_e h with ⟨c3, h⟩ | ⟨c3, h⟩
     ·rcases ite_e h with ⟨c4, h⟩ | ⟨c4, h⟩
      ·have h := si h; subst h
       exact jth Tryz.func157 [.br false] (fun e => ai (z0 c1) (ai (by decide : (64 : Int) ≠ 0) (ai c2 (ai c3 (ai (by decide : (64 : Int) ≠ 0) (ai c4 e)))))) (by kernel_rfl)
      ·cases h
     ·cases h
    ·cases h
theorem nat_Bit.c {k : Nat} {l0 : List Int} {a1 : Int} {r : Bool} (h : nat_Bit.f k l0 a1 = some r) : Con Tryz.prog Gw 157 [.s (.sl .u64 l0), .s (.i .i64 a1)] (· = .s (.b r)) := by
 unfold nat_Bit.f at h
 rcases ite_e h with ⟨c1, h⟩ | ⟨c1, h⟩
 ·exact pth Tryz.func157 [.br true, .br true, .br true, .br true, .br true, .br true, .cut 0 [0, 1, 13] [] []] (fun _ => ai (d1 c1) (ai (d1 c1) (ai (d1 c1) (ai (d1 c1) (ai (d1 c1) (ai (d1 c1) (nat_Bit.jc k _ _ _ _ h))))))) (by kernel_rfl)
 ·exact pth Tryz.func157 [.br false, .br false, .br false, .br false, .br false, .br false, .cut 0 [0, 1, 13] [] []] (fun _ => ai (d0 c1) (ai (d0 c1) (ai (by decide : (64 : Int) ≠ 0) (ai (d0 c1) (ai (d0 c1) (ai (d0 c1) (ai (d0 c1) (nat_Bit.jc k _ _ _ _ h)))))))) (by kernel_rfl)
def nat_Word.f (a0 : Int) : Option (List Int) := if a0 = 0 then (some ([] : List Int)) else (some (([a0] : List Int)))
theorem nat_Word.c {a0 : Int} {r : List Int} (h : nat_Word.f a0 = some r) : Con Tryz.prog Gw 78 [.s (.i .u64 a0)] (· = .s (.sl .u64 r)) := by
 unfold nat_Word.f at h
 rcases ite_e h with ⟨c1, h⟩ | ⟨c1, h⟩
 ·have h := si h; subst h
  exact pth Tryz.func78 [.br true] (fun e => ai (q1 c1) e) (by kernel_rfl)
 ·have h := si h; subst h
  exact pth Tryz.func78 [.br false] (fun e => ai (q0 c1) e) (by kernel_rfl)
def num_way_more.f (a0 : Int) (a1 : Bool) (a2 : Bool) (a3 : Bool) (a4 : Int) : Option (Bool) := if a0 = 0 then (if a1 = true then (some a3) else (some false)) else (if a0 = 1 then (if a1 = true then (some false) else (some a3)) else (if a4 > 0 then (some true) else (if a4 = 0 then (some a2) else (some false))))
theorem num_way_more.c {a0 : Int} {a1 : Bool} {a2 : Bool} {a3 : Bool} {a4 : Int} {r : Bool} (h : num_way_more.f a0 a1 a2 a3 a4 = some r) : Con Tryz.prog Gw 176 [.s (.i .i64 a0), .s (.b a1), .s (.b a2), .s (.b a3), .s (.i .i64 a4)] (· = .s (.b r)) := by
 unfold num_way_more.f at h
 rcases ite_e h with ⟨c1, h⟩ | ⟨c1, h⟩
 ·rcases ite_e h with ⟨c2, h⟩ | ⟨c2, h⟩
  ·have h := si h; subst h
   exact pth Tryz.func176 [.br true, .br true, .br true] (fun e => ai (q1 c1) (ai c2 (ai c2 e))) (by kernel_rfl)
  ·have h := si h; subst h
   exact pth Tryz.func176 [.br true, .br false, .br false] (fun e => ai (q1 c1) (ai (z0 c2) (ai (z0 c2) e))) (by kernel_rfl)
 ·rcases ite_e h with ⟨c3, h⟩ | ⟨c3, h⟩
  ·rcases ite_e h with ⟨c4, h⟩ | ⟨c4, h⟩
   ·have h := si h; subst h
    exact pth Tryz.func176 [.br false, .br true, .br false, .br false] (fun e => ai (q0 c1) (ai (q1 c3) (ai (nt1 c4) (ai (nt1 c4) e)))) (by kernel_rfl)
   ·have h := si h; subst h
    exact pth Tryz.func176 [.br false, .br true, .br true, .br true] (fun e => ai (q0 c1) (ai (q1 c3) (ai (nt0 (z0 c4)) (ai (nt0 (z0 c4)) e)))) (by kernel_rfl)
  ·rcases ite_e h with ⟨c5, h⟩ | ⟨c5, h⟩
   ·have h := si h; subst h
    exact pth Tryz.func176 [.br false, .br false, .br true, .br true, .br true, .br true, .br true] (fun e => ai (q0 c1) (ai (q0 c3) (ai (d1 c5) (ai (d1 c5) (ai (d1 c5) (ai (d1 c5) (ai (d1 c5) e))))))) (by kernel_rfl)
   ·rcases ite_e h with ⟨c6, h⟩ | ⟨c6, h⟩
    ·have h := si h; subst h
     exact pth Tryz.func176 [.br false, .br false, .br false, .br false, .br false, .br true, .br false, .br true, .br false] (fun e => ai (q0 c1) (ai (q0 c3) (ai (d0 c5) (ai (d0 c5) (ai (d0 c5) (ai (q1 c6) (ai (d0 c5) (ai (q1 c6) (ai (d0 c5) e))))))))) (by kernel_rfl)
    ·have h := si h; subst h
     exact pth Tryz.func176 [.br false, .br false, .br false, .br false, .br false, .br false, .br false, .br false, .br false] (fun e => ai (q0 c1) (ai (q0 c3) (ai (d0 c5) (ai (d0 c5) (ai (d0 c5) (ai (q0 c6) (ai (d0 c5) (ai (q0 c6) (ai (d0 c5) e))))))))) (by kernel_rfl)
def num_way_made.f (k : Nat) (a0 : Int) (a1 : Bool) (l2 : List Int) (a3 : Bool) (a4 : Int) : Option (Bool × List Int × Int) := (nat_Bit.f k l2 0).bind fun t343 => ((num_way_more.f a0 a1 t343 a3 a4).bind fun t344 => (if t344 = true then ((nat_Word.f 1).bind fun t350 => ((nat_Add.f l2 t350).bind fun bt353 => ((num_told.f a1 bt353.1 bt353.2).bind fun bt357 => (some (bt357.1, bt357.2.1, bt357.2.2))))) else ((num_told.f a1 l2 0).bind fun bt345 => (some (bt345.1, bt345.2.1, bt345.2.2)))))
theorem num_way_made.mono : ∀ a0 a1 a2 a3 a4 k, LeO (num_way_made.f k a0 a1 a2 a3 a4) (num_way_made.f (k + 1) a0 a1 a2 a3 a4) := by
 intro a0 a1 a2 a3 a4 k
 unfold num_way_made.f
 repeat' first
   | (with_reducible exact nat_Bit.mono _ _ _)
   | (with_reducible exact LeO.refl _)
   | (with_reducible exact LeO.none _)
   | (with_reducible refine LeO.ite ?_ ?_)
   | (with_reducible refine LeO.bind ?_ (fun _ => ?_))
   | exact nat_Bit.mono _ _ _
   | exact LeO.none _
   | refine LeO.ite ?_ ?_
   | refine LeO.bind ?_ (fun _ => ?_)
theorem num_way_made.c {k : Nat} {a0 : Int} {a1 : Bool} {l2 : List Int} {a3 : Bool} {a4 : Int} {r : Bool × List Int × Int} (h : num_way_made.f k a0 a1 l2 a3 a4 = some r) : Con Tryz.prog Gw 158 [.s (.i .i64 a0), .s (.b a1), .s (.sl .u64 l2), .s (.b a3), .s (.i .i64 a4)] (· = .tu [.ag [.b r.1, .sl .u64 r.2.1], .s (.i .i64 r.2.2)]) := by
 unfold num_way_made.f at h
 obtain ⟨t343, A1, h⟩ := bnd h
 obtain ⟨t344, A2, h⟩ := bnd h
 rcases ite_e h with ⟨c3, h⟩ | ⟨c3, h⟩
 ·obtain ⟨t350, A4, h⟩ := bnd h
  obtain ⟨bt353, A5, h⟩ := bnd h
  obtain ⟨bt357, A6, h⟩ := bnd h
  have h := si h; subst h
  exact pth Tryz.func158 [.r (.s (.b t343)), .r (.s (.b t344)), .br false, .r (.s (.sl .u64 t350)), .r (.tu [.s (.sl .u64 bt353.1), .s (.i .i64 bt353.2)]), .r (.tu [.ag [.b bt357.1, .sl .u64 bt357.2.1], .s (.i .i64 bt357.2.2)])] (fun e => ai (nat_Bit.c A1) (ai (num_way_more.c A2) (ai (nt1 c3) (ai (nat_Word.c A4) (ai (nat_Add.c A5) (ai (num_told.c A6) e)))))) (by kernel_rfl)
 ·obtain ⟨bt345, A7, h⟩ := bnd h
  have h := si h; subst h
  exact pth Tryz.func158 [.r (.s (.b t343)), .r (.s (.b t344)), .br true, .r (.tu [.ag [.b bt345.1, .sl .u64 bt345.2.1], .s (.i .i64 bt345.2.2)])] (fun e => ai (nat_Bit.c A1) (ai (num_way_more.c A2) (ai (nt0 (z0 c3)) (ai (num_told.c A7) e)))) (by kernel_rfl)
end Go.Proofs.YtelfmddcjlocpaaGreatDoor.PLib
