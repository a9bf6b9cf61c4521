/- Functions of the program as plain Lean functions (definitions as the print's), and that the machine's calls do what they do (contracts 'X.c', by Px). Condition: math/bits' table is laid. -/
import Derived.Test.YtelfmddcjlocpaaGreatDoorKRoundQuotientsPxL0
import Derived.Test.YtelfmddcjlocpaaGreatDoorKRoundQuotientsPxL1
import Derived.Test.YtelfmddcjlocpaaGreatDoorKRoundQuotientsPRefx0
import Derived.Test.YtelfmddcjlocpaaGreatDoorKRoundQuotientsPxZ0
import Derived.Test.YtelfmddcjlocpaaGreatDoorKRoundQuotientsTwin
import Derived.Test.YtelfmddcjlocpaaGreatDoorKRoundQuotientsPxRfz
set_option linter.unusedVariables false
namespace Go.Proofs.YtelfmddcjlocpaaGreatDoor.PLib
open Go Go.RowKit Go.Proofs.YtelfmddcjlocpaaGreatDoorW.PrintWords Go.Proofs.YtelfmddcjlocpaaGreatDoorW.PrintMore Go.Proofs.YtelfmddcjlocpaaGreatDoor.Given Go.Proofs.YtelfmddcjlocpaaGreatDoor.Px Go.Proofs.YtelfmddcjlocpaaGreatDoor.PRef Go.Proofs.YtelfmddcjlocpaaGreatDoor.PRfz
def gnomonref04_To.f (k : Nat) (a0_0 : Bool) (l0_1 : List Int) : Option (Bool × List Int) := if a0_0 = true then ((gnomonref01_To.f k l0_1).bind fun t160 => (some (decide ((l0_1.length : Int) > 0), t160))) else ((gnomonref01_To.f k l0_1).bind fun t163 => (some (false, t163)))
theorem gnomonref04_To.mono : ∀ a0 a1 k, LeO (gnomonref04_To.f k a0 a1) (gnomonref04_To.f (k + 1) a0 a1) := by
 intro a0 a1 k
 unfold gnomonref04_To.f
 repeat' first
   | (with_reducible exact gnomonref01_To.mono _ _)
   | (with_reducible exact LeO.refl _)
   | (with_reducible exact LeO.none _)
   | (with_reducible refine LeO.ite ?_ ?_)
   | (with_reducible refine LeO.bind ?_ (fun _ => ?_))
   | exact gnomonref01_To.mono _ _
   | exact LeO.none _
   | refine LeO.ite ?_ ?_
   | refine LeO.bind ?_ (fun _ => ?_)
theorem gnomonref04_To.c {k : Nat} {a0_0 : Bool} {l0_1 : List Int} {r : Bool × List Int} (h : gnomonref04_To.f k a0_0 l0_1 = some r) : Con Tryz.prog Gw 130 [.ag [.b a0_0, .sl .u32 l0_1]] (· = .ag [.b r.1, .sl .u64 r.2]) := by
 unfold gnomonref04_To.f at h
 rcases ite_e h with ⟨c1, h⟩ | ⟨c1, h⟩
 ·obtain ⟨t160, A2, h⟩ := bnd h
  have h := si h; subst h
  exact pth Tryz.func130 [.br true, .br true, .br true, .br true, .br true, .r (.s (.sl .u64 t160))] (fun e => ai c1 (ai c1 (ai c1 (ai c1 (ai c1 (ai (gnomonref01_To.c A2) e)))))) (by kernel_rfl)
 ·obtain ⟨t163, A3, h⟩ := bnd h
  have h := si h; subst h
  exact pth Tryz.func130 [.br false, .br false, .br false, .br false, .br false, .r (.s (.sl .u64 t163))] (fun e => ai (z0 c1) (ai (z0 c1) (ai (z0 c1) (ai (z0 c1) (ai (z0 c1) (ai (gnomonref01_To.c A3) e)))))) (by kernel_rfl)
def gnomonref04_Mk.f (k : Nat) (a0 : Bool) (l1 : List Int) : Option (Bool × List Int) := (gnomonref01_Norm.f k l1).bind fun t167 => (if a0 = true then (some (decide ((t167.length : Int) > 0), t167)) else (some (false, t167)))
theorem gnomonref04_Mk.mono : ∀ a0 a1 k, LeO (gnomonref04_Mk.f k a0 a1) (gnomonref04_Mk.f (k + 1) a0 a1) := by
 intro a0 a1 k
 unfold gnomonref04_Mk.f
 repeat' first
   | (with_reducible exact gnomonref01_Norm.mono _ _)
   | (with_reducible exact LeO.refl _)
   | (with_reducible exact LeO.none _)
   | (with_reducible refine LeO.ite ?_ ?_)
   | (with_reducible refine LeO.bind ?_ (fun _ => ?_))
   | exact gnomonref01_Norm.mono _ _
   | exact LeO.none _
   | refine LeO.ite ?_ ?_
   | refine LeO.bind ?_ (fun _ => ?_)
theorem gnomonref04_Mk.c {k : Nat} {a0 : Bool} {l1 : List Int} {r : Bool × List Int} (h : gnomonref04_Mk.f k a0 l1 = some r) : Con Tryz.prog Gw 131 [.s (.b a0), .s (.sl .u32 l1)] (· = .ag [.b r.1, .sl .u32 r.2]) := by
 unfold gnomonref04_Mk.f at h
 obtain ⟨t167, A1, h⟩ := bnd h
 rcases ite_e h with ⟨c2, h⟩ | ⟨c2, h⟩
 ·have h := si h; subst h
  exact pth Tryz.func131 [.r (.s (.sl .u32 t167)), .br true, .br true, .br true, .br true] (fun e => ai (gnomonref01_Norm.c A1) (ai c2 (ai c2 (ai c2 (ai c2 e))))) (by kernel_rfl)
 ·have h := si h; subst h
  exact pth Tryz.func131 [.r (.s (.sl .u32 t167)), .br false, .br false, .br false, .br false] (fun e => ai (gnomonref01_Norm.c A1) (ai (z0 c2) (ai (z0 c2) (ai (z0 c2) (ai (z0 c2) e))))) (by kernel_rfl)
mutual
def gnomonref05_Told.j0 : Nat → Int → Bool → Bool → List Int → Option (Bool × List Int × Int × Int)
 | 0, _, _, _, _ => none
 | k + 1, x1, x18, x171000, x171001 => if x18 = true then (some (false, ([] : List Int), 0, 5)) else ((gnomonref01_Zeros.f k x171001).bind fun t172 => ((gnomonref01_Shr.f k x171001 t172).bind fun t173 => (if (t173.length : Int) > 16384 then (gnomonref05_Told.j1 k x1 t172 t173 true x171000 x171001) else (if (wrap64 (x1 + t172)) < (-1048576) then (gnomonref05_Told.j1 k x1 t172 t173 true x171000 x171001) else (gnomonref05_Told.j1 k x1 t172 t173 (decide ((wrap64 (x1 + t172)) > 1048576)) x171000 x171001)))))
def gnomonref05_Told.j1 : Nat → Int → Int → List Int → Bool → Bool → List Int → Option (Bool × List Int × Int × Int)
 | 0, _, _, _, _, _, _ => none
 | k + 1, x1, x6, x7, x41, x171000, x171001 => if x41 = true then (some (false, ([] : List Int), 0, 5)) else ((gnomonref04_Mk.f k x171000 x7).bind fun bt176 => ((gnomonref04_To.f k bt176.1 bt176.2).bind fun bt180 => (some (bt180.1, bt180.2, wrap64 (x1 + x6), 0))))
end
def gnomonref05_Told.f (k : Nat) (a0_0 : Bool) (l0_1 : List Int) (a1 : Int) : Option (Bool × List Int × Int × Int) := if (l0_1.length : Int) = 0 then (some (false, ([] : List Int), 0, 0)) else (if a1 > 1048576 then (gnomonref05_Told.j0 k a1 true a0_0 l0_1) else (gnomonref05_Told.j0 k a1 (decide (a1 < (-1099511627776))) a0_0 l0_1))
theorem gnomonref05_Told.mono_l : ∀ k, (∀ y0 y1 y2 y3, LeO (gnomonref05_Told.j0 k y0 y1 y2 y3) (gnomonref05_Told.j0 (k + 1) y0 y1 y2 y3)) ∧ (∀ y0 y1 y2 y3 y4 y5, LeO (gnomonref05_Told.j1 k y0 y1 y2 y3 y4 y5) (gnomonref05_Told.j1 (k + 1) y0 y1 y2 y3 y4 y5))
 | 0 => ⟨fun _ _ _ _ r h => by simp [gnomonref05_Told.j0] at h, fun _ _ _ _ _ _ r h => by simp [gnomonref05_Told.j1] at h⟩
 | k + 1 => by
  obtain ⟨ih0, ih1⟩ := gnomonref05_Told.mono_l k
  refine ⟨?_, ?_⟩
  ·intro y0 y1 y2 y3
   unfold gnomonref05_Told.j0
   repeat' first
   | (with_reducible exact ih0 _ _ _ _)
   | (with_reducible exact ih1 _ _ _ _ _ _)
   | (with_reducible exact gnomonref01_Shr.mono _ _ _)
   | (with_reducible exact gnomonref01_Zeros.mono _ _)
   | (with_reducible exact gnomonref04_Mk.mono _ _ _)
   | (with_reducible exact gnomonref04_To.mono _ _ _)
   | (with_reducible exact LeO.refl _)
   | (with_reducible exact LeO.none _)
   | (with_reducible refine LeO.ite ?_ ?_)
   | (with_reducible refine LeO.bind ?_ (fun _ => ?_))
   | exact ih0 _ _ _ _
   | exact ih1 _ _ _ _ _ _
   | exact gnomonref01_Shr.mono _ _ _
   | exact gnomonref01_Zeros.mono _ _
   | exact gnomonref04_Mk.mono _ _ _
   | exact gnomonref04_To.mono _ _ _
   | exact LeO.none _
   | refine LeO.ite ?_ ?_
   | refine LeO.bind ?_ (fun _ => ?_)
  ·intro y0 y1 y2 y3 y4 y5
   unfold gnomonref05_Told.j1
   repeat' first
   | (with_reducible exact ih0 _ _ _ _)
   | (with_reducible exact ih1 _ _ _ _ _ _)
   | (with_reducible exact gnomonref01_Shr.mono _ _ _)
   | (with_reducible exact gnomonref01_Zeros.mono _ _)
   | (with_reducible exact gnomonref04_Mk.mono _ _ _)
   | (with_reducible exact gnomonref04_To.mono _ _ _)
   | (with_reducible exact LeO.refl _)
   | (with_reducible exact LeO.none _)
   | (with_reducible refine LeO.ite ?_ ?_)
   | (with_reducible refine LeO.bind ?_ (fun _ => ?_))
   | exact ih0 _ _ _ _
   | exact ih1 _ _ _ _ _ _
   | exact gnomonref01_Shr.mono _ _ _
   | exact gnomonref01_Zeros.mono _ _
   | exact gnomonref04_Mk.mono _ _ _
   | exact gnomonref04_To.mono _ _ _
   | exact LeO.none _
   | refine LeO.ite ?_ ?_
   | refine LeO.bind ?_ (fun _ => ?_)
theorem gnomonref05_Told.mono : ∀ a0 a1 a2 k, LeO (gnomonref05_Told.f k a0 a1 a2) (gnomonref05_Told.f (k + 1) a0 a1 a2) := by
 intro a0 a1 a2 k
 obtain ⟨ih0, ih1⟩ := gnomonref05_Told.mono_l k
 unfold gnomonref05_Told.f
 repeat' first
   | (with_reducible exact ih0 _ _ _ _)
   | (with_reducible exact ih1 _ _ _ _ _ _)
   | (with_reducible exact gnomonref01_Shr.mono _ _ _)
   | (with_reducible exact gnomonref01_Zeros.mono _ _)
   | (with_reducible exact gnomonref04_Mk.mono _ _ _)
   | (with_reducible exact gnomonref04_To.mono _ _ _)
   | (with_reducible exact LeO.refl _)
   | (with_reducible exact LeO.none _)
   | (with_reducible refine LeO.ite ?_ ?_)
   | (with_reducible refine LeO.bind ?_ (fun _ => ?_))
   | exact ih0 _ _ _ _
   | exact ih1 _ _ _ _ _ _
   | exact gnomonref01_Shr.mono _ _ _
   | exact gnomonref01_Zeros.mono _ _
   | exact gnomonref04_Mk.mono _ _ _
   | exact gnomonref04_To.mono _ _ _
   | exact LeO.none _
   | refine LeO.ite ?_ ?_
   | refine LeO.bind ?_ (fun _ => ?_)
theorem gnomonref05_Told.jc : ∀ k : Nat, (∀ (x1 : Int) (x18 : Bool) (x171000 : Bool) (x171001 : List Int) (r : Bool × List Int × Int × Int), gnomonref05_Told.j0 k x1 x18 x171000 x171001 = some r → Fin Tryz.prog Gw 86 (nav (bodyOf Tryz.f86) [1, 1, 0, 1] []) ⟨mkT 52 [(1, .s (.i .i64 x1)), (2, .s (.lo 0 0)), (4, .s (.lo 1 0)), (18, .s (.b x18))], [some (124, [.b x171000, .sl .u32 x171001]), some (26, [.b false, .sl .u64 ([]), .i .i64 0])]⟩ (· = .tu [.ag [.b r.1, .sl .u64 r.2.1, .i .i64 r.2.2.1], .s (.i .i64 r.2.2.2)])) ∧ (∀ (x1 : Int) (x6 : Int) (x7 : List Int) (x41 : Bool) (x171000 : Bool) (x171001 : List Int) (r : Bool × List Int × Int × Int), gnomonref05_Told.j1 k x1 x6 x7 x41 x171000 x171001 = some r → Fin Tryz.prog Gw 86 (nav (bodyOf Tryz.f86) [1, 1, 1, 1, 1, 0, 1] []) ⟨mkT 52 [(1, .s (.i .i64 x1)), (2, .s (.lo 0 0)), (4, .s (.lo 1 0)), (6, .s (.i .i64 x6)), (7, .s (.sl .u32 x7)), (41, .s (.b x41))], [some (124, [.b x171000, .sl .u32 x171001]), some (26, [.b false, .sl .u64 ([]), .i .i64 0])]⟩ (· = .tu [.ag [.b r.1, .sl .u64 r.2.1, .i .i64 r.2.2.1], .s (.i .i64 r.2.2.2)]))
 | 0 => ⟨(fun _ _ _ _ _ h => nn h), (fun _ _ _ _ _ _ _ h => nn h)⟩
 | k + 1 => by
  have ih := gnomonref05_Told.jc k
  refine ⟨?_, ?_⟩
  ·intro x1 x18 x171000 x171001 r h
   rw [gnomonref05_Told.j0] at h
   rcases ite_e h with ⟨c1, h⟩ | ⟨c1, h⟩
   ·have h := si h; subst h
    exact jth Tryz.func86 [.br true] (fun e => ai c1 e) (by kernel_rfl)
   ·obtain ⟨t172, A2, h⟩ := bnd h
    obtain ⟨t173, A3, h⟩ := bnd h
    rcases ite_e h with ⟨c4, h⟩ | ⟨c4, h⟩
    ·exact jth Tryz.func86 [.br false, .r (.s (.i .i64 t172)), .r (.s (.sl .u32 t173)), .br true, .br true, .br true, .br true, .br true, .br true, .br true, .br true, .br true, .br true, .cut 0 [1, 2, 4, 6, 7, 41] [0, 1] []] (fun _ => ai (z0 c1) (ai (gnomonref01_Zeros.c A2) (ai (gnomonref01_Shr.c A3) (ai (d1 c4) (ai (d1 c4) (ai (d1 c4) (ai (d1 c4) (ai (d1 c4) (ai tt (ai tt (ai tt (ai tt (ai tt (ih.2 _ _ _ _ _ _ _ h)))))))))))))) (by kernel_rfl)
    ·rcases ite_e h with ⟨c5, h⟩ | ⟨c5, h⟩
     ·exact jth Tryz.func86 [.br false, .r (.s (.i .i64 t172)), .r (.s (.sl .u32 t173)), .br false, .br false, .br false, .br false, .br false, .br true, .br true, .br true, .br true, .br true, .cut 0 [1, 2, 4, 6, 7, 41] [0, 1] []] (fun _ => ai (z0 c1) (ai (gnomonref01_Zeros.c A2) (ai (gnomonref01_Shr.c A3) (ai (d0 c4) (ai (d0 c4) (ai (d0 c4) (ai (d0 c4) (ai (d0 c4) (ai (d1 c5) (ai (d1 c5) (ai (d1 c5) (ai (d1 c5) (ai (d1 c5) (ih.2 _ _ _ _ _ _ _ h)))))))))))))) (by kernel_rfl)
     ·exact jth Tryz.func86 [.br false, .r (.s (.i .i64 t172)), .r (.s (.sl .u32 t173)), .br false, .br false, .br false, .br false, .br false, .br false, .br false, .br false, .br false, .br false, .cut 0 [1, 2, 4, 6, 7, 41] [0, 1] []] (fun _ => ai (z0 c1) (ai (gnomonref01_Zeros.c A2) (ai (gnomonref01_Shr.c A3) (ai (d0 c4) (ai (d0 c4) (ai (d0 c4) (ai (d0 c4) (ai (d0 c4) (ai (d0 c5) (ai (d0 c5) (ai (d0 c5) (ai (d0 c5) (ai (d0 c5) (ih.2 _ _ _ _ _ _ _ h)))))))))))))) (by kernel_rfl)
  ·intro x1 x6 x7 x41 x171000 x171001 r h
   rw [gnomonref05_Told.j1] at h
   rcases ite_e h with ⟨c1, h⟩ | ⟨c1, h⟩
   ·have h := si h; subst h
    exact jth Tryz.func86 [.br true] (fun e => ai c1 e) (by kernel_rfl)
   ·obtain ⟨bt176, A2, h⟩ := bnd h
    obtain ⟨bt180, A3, h⟩ := bnd h
    have h := si h; subst h
    exact jth Tryz.func86 [.br false, .r (.ag [.b bt176.1, .sl .u32 bt176.2]), .r (.ag [.b bt180.1, .sl .u64 bt180.2])] (fun e => ai (z0 c1) (ai (gnomonref04_Mk.c A2) (ai (gnomonref04_To.c A3) e))) (by kernel_rfl)
theorem gnomonref05_Told.c {k : Nat} {a0_0 : Bool} {l0_1 : List Int} {a1 : Int} {r : Bool × List Int × Int × Int} (h : gnomonref05_Told.f k a0_0 l0_1 a1 = some r) : Con Tryz.prog Gw 86 [.ag [.b a0_0, .sl .u32 l0_1], .s (.i .i64 a1)] (· = .tu [.ag [.b r.1, .sl .u64 r.2.1, .i .i64 r.2.2.1], .s (.i .i64 r.2.2.2)]) := by
 unfold gnomonref05_Told.f at h
 rcases ite_e h with ⟨c1, h⟩ | ⟨c1, h⟩
 ·have h := si h; subst h
  exact pth Tryz.func86 [.br true] (fun e => ai (q1 c1) e) (by kernel_rfl)
 ·rcases ite_e h with ⟨c2, h⟩ | ⟨c2, h⟩
  ·exact pth Tryz.func86 [.br false, .br true, .br true, .br true, .cut 0 [1, 2, 4, 18] [0, 1] []] (fun _ => ai (q0 c1) (ai (d1 c2) (ai (d1 c2) (ai (d1 c2) ((gnomonref05_Told.jc k).1 _ _ _ _ _ h))))) (by kernel_rfl)
  ·exact pth Tryz.func86 [.br false, .br false, .br false, .br false, .cut 0 [1, 2, 4, 18] [0, 1] []] (fun _ => ai (q0 c1) (ai (d0 c2) (ai (d0 c2) (ai (d0 c2) ((gnomonref05_Told.jc k).1 _ _ _ _ _ h))))) (by kernel_rfl)
def gnomonref04_From.f (k : Nat) (a0_0 : Bool) (l0_1 : List Int) : Option (Bool × List Int) := (gnomonref01_From.f k l0_1).bind fun t200 => ((gnomonref04_Mk.f k a0_0 t200).bind fun bt203 => (some (bt203.1, bt203.2)))
theorem gnomonref04_From.mono : ∀ a0 a1 k, LeO (gnomonref04_From.f k a0 a1) (gnomonref04_From.f (k + 1) a0 a1) := by
 intro a0 a1 k
 unfold gnomonref04_From.f
 repeat' first
   | (with_reducible exact gnomonref01_From.mono _ _)
   | (with_reducible exact gnomonref04_Mk.mono _ _ _)
   | (with_reducible exact LeO.refl _)
   | (with_reducible exact LeO.none _)
   | (with_reducible refine LeO.ite ?_ ?_)
   | (with_reducible refine LeO.bind ?_ (fun _ => ?_))
   | exact gnomonref01_From.mono _ _
   | exact gnomonref04_Mk.mono _ _ _
   | exact LeO.none _
   | refine LeO.ite ?_ ?_
   | refine LeO.bind ?_ (fun _ => ?_)
theorem gnomonref04_From.c {k : Nat} {a0_0 : Bool} {l0_1 : List Int} {r : Bool × List Int} (h : gnomonref04_From.f k a0_0 l0_1 = some r) : Con Tryz.prog Gw 87 [.ag [.b a0_0, .sl .u64 l0_1]] (· = .ag [.b r.1, .sl .u32 r.2]) := by
 unfold gnomonref04_From.f at h
 obtain ⟨t200, A1, h⟩ := bnd h
 obtain ⟨bt203, A2, h⟩ := bnd h
 have h := si h; subst h
 exact pth Tryz.func87 [.r (.s (.sl .u32 t200)), .r (.ag [.b bt203.1, .sl .u32 bt203.2])] (fun e => ai (gnomonref01_From.c A1) (ai (gnomonref04_Mk.c A2) e)) (by kernel_rfl)
def gnomonref05_DocScale.j0 : Nat → Int → Bool → Bool → List Int → Int → Option (Bool × List Int × Int × Int)
 | 0, _, _, _, _, _ => none
 | k + 1, x1, x18, x208000, x208001, x208002 => if x18 = true then (some (false, ([] : List Int), 0, 5)) else ((gnomonref04_From.f k x208000 x208001).bind fun bt211 => ((gnomonref05_Told.f k bt211.1 bt211.2 (wrap64 (x208002 + x1))).bind fun bt215 => (some (bt215.1, bt215.2.1, bt215.2.2.1, bt215.2.2.2))))
def gnomonref05_DocScale.f (k : Nat) (a0_0 : Bool) (l0_1 : List Int) (a0_2 : Int) (a1 : Int) : Option (Bool × List Int × Int × Int) := (gnomonref05_DocForm.f k a0_0 l0_1 a0_2).bind fun t209 => (if t209 = true then ((gnomonref05_Nought.f a0_0 l0_1 a0_2).bind fun t210 => (if t210 = true then (some (false, ([] : List Int), 0, 0)) else (if a1 > 2097152 then (gnomonref05_DocScale.j0 k a1 true a0_0 l0_1 a0_2) else (gnomonref05_DocScale.j0 k a1 (decide (a1 < (-2097152))) a0_0 l0_1 a0_2)))) else (some (false, ([] : List Int), 0, 2)))
theorem gnomonref05_DocScale.mono_l : ∀ k, (∀ y0 y1 y2 y3 y4, LeO (gnomonref05_DocScale.j0 k y0 y1 y2 y3 y4) (gnomonref05_DocScale.j0 (k + 1) y0 y1 y2 y3 y4))
 | 0 => fun _ _ _ _ _ r h => by simp [gnomonref05_DocScale.j0] at h
 | k + 1 => by
  have ih0 := gnomonref05_DocScale.mono_l k
  ·intro y0 y1 y2 y3 y4
   unfold gnomonref05_DocScale.j0
   repeat' first
   | (with_reducible exact ih0 _ _ _ _ _)
   | (with_reducible exact gnomonref04_From.mono _ _ _)
   | (with_reducible exact gnomonref05_DocForm.mono _ _ _ _)
   | (with_reducible exact gnomonref05_Told.mono _ _ _ _)
   | (with_reducible exact LeO.refl _)
   | (with_reducible exact LeO.none _)
   | (with_reducible refine LeO.ite ?_ ?_)
   | (with_reducible refine LeO.bind ?_ (fun _ => ?_))
   | exact ih0 _ _ _ _ _
   | exact gnomonref04_From.mono _ _ _
   | exact gnomonref05_DocForm.mono _ _ _ _
   | exact gnomonref05_Told.mono _ _ _ _
   | exact LeO.none _
   | refine LeO.ite ?_ ?_
   | refine LeO.bind ?_ (fun _ => ?_)
theorem gnomonref05_DocScale.mono : ∀ a0 a1 a2 a3 k, LeO (gnomonref05_DocScale.f k a0 a1 a2 a3) (gnomonref05_DocScale.f (k + 1) a0 a1 a2 a3) := by
 intro a0 a1 a2 a3 k
 have ih0 := gnomonref05_DocScale.mono_l k
 unfold gnomonref05_DocScale.f
 repeat' first
   | (with_reducible exact ih0 _ _ _ _ _)
   | (with_reducible exact gnomonref04_From.mono _ _ _)
   | (with_reducible exact gnomonref05_DocForm.mono _ _ _ _)
   | (with_reducible exact gnomonref05_Told.mono _ _ _ _)
   | (with_reducible exact LeO.refl _)
   | (with_reducible exact LeO.none _)
   | (with_reducible refine LeO.ite ?_ ?_)
   | (with_reducible refine LeO.bind ?_ (fun _ => ?_))
   | exact ih0 _ _ _ _ _
   | exact gnomonref04_From.mono _ _ _
   | exact gnomonref05_DocForm.mono _ _ _ _
   | exact gnomonref05_Told.mono _ _ _ _
   | exact LeO.none _
   | refine LeO.ite ?_ ?_
   | refine LeO.bind ?_ (fun _ => ?_)
theorem gnomonref05_DocScale.jc : ∀ k : Nat, (∀ (x1 : Int) (x18 : Bool) (x208000 : Bool) (x208001 : List Int) (x208002 : Int) (r : Bool × List Int × Int × Int), gnomonref05_DocScale.j0 k x1 x18 x208000 x208001 x208002 = some r → Fin Tryz.prog Gw 42 (nav (bodyOf Tryz.f42) [1, 1, 1, 0, 1] []) ⟨mkT 30 [(1, .s (.i .i64 x1)), (2, .s (.lo 0 0)), (4, .s (.lo 1 0)), (18, .s (.b x18))], [some (26, [.b x208000, .sl .u64 x208001, .i .i64 x208002]), some (26, [.b false, .sl .u64 ([]), .i .i64 0])]⟩ (· = .tu [.ag [.b r.1, .sl .u64 r.2.1, .i .i64 r.2.2.1], .s (.i .i64 r.2.2.2)]))
 | 0 => (fun _ _ _ _ _ _ h => nn h)
 | k + 1 => by
  have ih := gnomonref05_DocScale.jc k
  ·intro x1 x18 x208000 x208001 x208002 r h
   rw [gnomonref05_DocScale.j0] at h
   rcases ite_e h with ⟨c1, h⟩ | ⟨c1, h⟩
   ·have h := si h; subst h
    exact jth Tryz.func42 [.br true] (fun e => ai c1 e) (by kernel_rfl)
   ·obtain ⟨bt211, A2, h⟩ := bnd h
    obtain ⟨bt215, A3, h⟩ := bnd h
    have h := si h; subst h
    exact jth Tryz.func42 [.br false, .r (.ag [.b bt211.1, .sl .u32 bt211.2]), .r (.tu [.ag [.b bt215.1, .sl .u64 bt215.2.1, .i .i64 bt215.2.2.1], .s (.i .i64 bt215.2.2.2)])] (fun e => ai (z0 c1) (ai (gnomonref04_From.c A2) (ai (gnomonref05_Told.c A3) e))) (by kernel_rfl)
theorem gnomonref05_DocScale.c {k : Nat} {a0_0 : Bool} {l0_1 : List Int} {a0_2 : Int} {a1 : Int} {r : Bool × List Int × Int × Int} (h : gnomonref05_DocScale.f k a0_0 l0_1 a0_2 a1 = some r) : Con Tryz.prog Gw 42 [.ag [.b a0_0, .sl .u64 l0_1, .i .i64 a0_2], .s (.i .i64 a1)] (· = .tu [.ag [.b r.1, .sl .u64 r.2.1, .i .i64 r.2.2.1], .s (.i .i64 r.2.2.2)]) := by
 unfold gnomonref05_DocScale.f at h
 obtain ⟨t209, A1, h⟩ := bnd h
 rcases ite_e h with ⟨c2, h⟩ | ⟨c2, h⟩
 ·obtain ⟨t210, A3, h⟩ := bnd h
  rcases ite_e h with ⟨c4, h⟩ | ⟨c4, h⟩
  ·have h := si h; subst h
   exact pth Tryz.func42 [.r (.s (.b t209)), .br false, .r (.s (.b t210)), .br true] (fun e => ai (gnomonref05_DocForm.c A1) (ai (nt1 c2) (ai (gnomonref05_Nought.c A3) (ai c4 e)))) (by kernel_rfl)
  ·rcases ite_e h with ⟨c5, h⟩ | ⟨c5, h⟩
   ·exact pth Tryz.func42 [.r (.s (.b t209)), .br false, .r (.s (.b t210)), .br false, .br true, .br true, .br true, .cut 0 [1, 2, 4, 18] [0, 1] []] (fun _ => ai (gnomonref05_DocForm.c A1) (ai (nt1 c2) (ai (gnomonref05_Nought.c A3) (ai (z0 c4) (ai (d1 c5) (ai (d1 c5) (ai (d1 c5) (gnomonref05_DocScale.jc k _ _ _ _ _ _ h)))))))) (by kernel_rfl)
   ·exact pth Tryz.func42 [.r (.s (.b t209)), .br false, .r (.s (.b t210)), .br false, .br false, .br false, .br false, .cut 0 [1, 2, 4, 18] [0, 1] []] (fun _ => ai (gnomonref05_DocForm.c A1) (ai (nt1 c2) (ai (gnomonref05_Nought.c A3) (ai (z0 c4) (ai (d0 c5) (ai (d0 c5) (ai (d0 c5) (gnomonref05_DocScale.jc k _ _ _ _ _ _ h)))))))) (by kernel_rfl)
 ·have h := si h; subst h
  exact pth Tryz.func42 [.r (.s (.b t209)), .br true] (fun e => ai (gnomonref05_DocForm.c A1) (ai (nt0 (z0 c2)) e)) (by kernel_rfl)
def gnomonref04_Of.f (k : Nat) (a0 : Int) : Option (Bool × List Int) := if a0 < 0 then ((gnomonref01_Word.f k (IntKind.u64.wrap (wrap64 (-(wrap64 (a0 + 1)))))).bind fun t236 => ((gnomonref01_Word.f k 1).bind fun t239 => ((gnomonref01_Add.f k t236 t239).bind fun t242 => ((gnomonref04_Mk.f k true t242).bind fun bt245 => (some (bt245.1, bt245.2)))))) else ((gnomonref01_Word.f k (IntKind.u64.wrap (a0))).bind fun t249 => ((gnomonref04_Mk.f k false t249).bind fun bt252 => (some (bt252.1, bt252.2))))
theorem gnomonref04_Of.mono : ∀ a0 k, LeO (gnomonref04_Of.f k a0) (gnomonref04_Of.f (k + 1) a0) := by
 intro a0 k
 unfold gnomonref04_Of.f
 repeat' first
   | (with_reducible exact gnomonref01_Add.mono _ _ _)
   | (with_reducible exact gnomonref01_Word.mono _ _)
   | (with_reducible exact gnomonref04_Mk.mono _ _ _)
   | (with_reducible exact LeO.refl _)
   | (with_reducible exact LeO.none _)
   | (with_reducible refine LeO.ite ?_ ?_)
   | (with_reducible refine LeO.bind ?_ (fun _ => ?_))
   | exact gnomonref01_Add.mono _ _ _
   | exact gnomonref01_Word.mono _ _
   | exact gnomonref04_Mk.mono _ _ _
   | exact LeO.none _
   | refine LeO.ite ?_ ?_
   | refine LeO.bind ?_ (fun _ => ?_)
theorem gnomonref04_Of.c {k : Nat} {a0 : Int} {r : Bool × List Int} (h : gnomonref04_Of.f k a0 = some r) : Con Tryz.prog Gw 88 [.s (.i .i64 a0)] (· = .ag [.b r.1, .sl .u32 r.2]) := by
 unfold gnomonref04_Of.f at h
 rcases ite_e h with ⟨c1, h⟩ | ⟨c1, h⟩
 ·obtain ⟨t236, A2, h⟩ := bnd h
  obtain ⟨t239, A3, h⟩ := bnd h
  obtain ⟨t242, A4, h⟩ := bnd h
  obtain ⟨bt245, A5, h⟩ := bnd h
  have h := si h; subst h
  exact pth Tryz.func88 [.br true, .r (.s (.sl .u32 t236)), .r (.s (.sl .u32 t239)), .r (.s (.sl .u32 t242)), .r (.ag [.b bt245.1, .sl .u32 bt245.2])] (fun e => ai (d1 c1) (ai (gnomonref01_Word.c A2) (ai (gnomonref01_Word.c A3) (ai (gnomonref01_Add.c A4) (ai (gnomonref04_Mk.c A5) e))))) (by kernel_rfl)
 ·obtain ⟨t249, A6, h⟩ := bnd h
  obtain ⟨bt252, A7, h⟩ := bnd h
  have h := si h; subst h
  exact pth Tryz.func88 [.br false, .r (.s (.sl .u32 t249)), .r (.ag [.b bt252.1, .sl .u32 bt252.2])] (fun e => ai (d0 c1) (ai (gnomonref01_Word.c A6) (ai (gnomonref04_Mk.c A7) e))) (by kernel_rfl)
def gnomonref05_DocOf.f (k : Nat) (a0 : Int) : Option (Bool × List Int × Int) := (gnomonref04_Of.f k a0).bind fun bt257 => ((gnomonref05_Told.f k bt257.1 bt257.2 0).bind fun bt261 => (some (bt261.1, bt261.2.1, bt261.2.2.1)))
theorem gnomonref05_DocOf.mono : ∀ a0 k, LeO (gnomonref05_DocOf.f k a0) (gnomonref05_DocOf.f (k + 1) a0) := by
 intro a0 k
 unfold gnomonref05_DocOf.f
 repeat' first
   | (with_reducible exact gnomonref04_Of.mono _ _)
   | (with_reducible exact gnomonref05_Told.mono _ _ _ _)
   | (with_reducible exact LeO.refl _)
   | (with_reducible exact LeO.none _)
   | (with_reducible refine LeO.ite ?_ ?_)
   | (with_reducible refine LeO.bind ?_ (fun _ => ?_))
   | exact gnomonref04_Of.mono _ _
   | exact gnomonref05_Told.mono _ _ _ _
   | exact LeO.none _
   | refine LeO.ite ?_ ?_
   | refine LeO.bind ?_ (fun _ => ?_)
theorem gnomonref05_DocOf.c {k : Nat} {a0 : Int} {r : Bool × List Int × Int} (h : gnomonref05_DocOf.f k a0 = some r) : Con Tryz.prog Gw 43 [.s (.i .i64 a0)] (· = .ag [.b r.1, .sl .u64 r.2.1, .i .i64 r.2.2]) := by
 unfold gnomonref05_DocOf.f at h
 obtain ⟨bt257, A1, h⟩ := bnd h
 obtain ⟨bt261, A2, h⟩ := bnd h
 have h := si h; subst h
 exact pth Tryz.func43 [.r (.ag [.b bt257.1, .sl .u32 bt257.2]), .r (.tu [.ag [.b bt261.1, .sl .u64 bt261.2.1, .i .i64 bt261.2.2.1], .s (.i .i64 bt261.2.2.2)])] (fun e => ai (gnomonref04_Of.c A1) (ai (gnomonref05_Told.c A2) e)) (by kernel_rfl)
def gnomonlaw08_num.f (k : Nat) (a0 : Int) (a1 : Int) : Option (Bool × List Int × Int) := (gnomonref05_DocOf.f k a0).bind fun bt269 => ((gnomonref05_DocScale.f k bt269.1 bt269.2.1 bt269.2.2 a1).bind fun bt274 => (some (bt274.1, bt274.2.1, bt274.2.2.1)))
theorem gnomonlaw08_num.mono : ∀ a0 a1 k, LeO (gnomonlaw08_num.f k a0 a1) (gnomonlaw08_num.f (k + 1) a0 a1) := by
 intro a0 a1 k
 unfold gnomonlaw08_num.f
 repeat' first
   | (with_reducible exact gnomonref05_DocOf.mono _ _)
   | (with_reducible exact gnomonref05_DocScale.mono _ _ _ _ _)
   | (with_reducible exact LeO.refl _)
   | (with_reducible exact LeO.none _)
   | (with_reducible refine LeO.ite ?_ ?_)
   | (with_reducible refine LeO.bind ?_ (fun _ => ?_))
   | exact gnomonref05_DocOf.mono _ _
   | exact gnomonref05_DocScale.mono _ _ _ _ _
   | exact LeO.none _
   | refine LeO.ite ?_ ?_
   | refine LeO.bind ?_ (fun _ => ?_)
theorem gnomonlaw08_num.c {k : Nat} {a0 : Int} {a1 : Int} {r : Bool × List Int × Int} (h : gnomonlaw08_num.f k a0 a1 = some r) : Con Tryz.prog Gw 12 [.s (.i .i64 a0), .s (.i .i64 a1)] (· = .ag [.b r.1, .sl .u64 r.2.1, .i .i64 r.2.2]) := by
 unfold gnomonlaw08_num.f at h
 obtain ⟨bt269, A1, h⟩ := bnd h
 obtain ⟨bt274, A2, h⟩ := bnd h
 have h := si h; subst h
 exact pth Tryz.func12 [.r (.ag [.b bt269.1, .sl .u64 bt269.2.1, .i .i64 bt269.2.2]), .r (.tu [.ag [.b bt274.1, .sl .u64 bt274.2.1, .i .i64 bt274.2.2.1], .s (.i .i64 bt274.2.2.2)])] (fun e => ai (gnomonref05_DocOf.c A1) (ai (gnomonref05_DocScale.c A2) e)) (by kernel_rfl)
def gnomonref04_Sign.f (a0_0 : Bool) (l0_1 : List Int) : Option (Int) := if (l0_1.length : Int) = 0 then (some 0) else (if a0_0 = true then (some (-1)) else (some 1))
theorem gnomonref04_Sign.c {a0_0 : Bool} {l0_1 : List Int} {r : Int} (h : gnomonref04_Sign.f a0_0 l0_1 = some r) : Con Tryz.prog Gw 170 [.ag [.b a0_0, .sl .u32 l0_1]] (· = .s (.i .i64 r)) := by
 unfold gnomonref04_Sign.f at h
 rcases ite_e h with ⟨c1, h⟩ | ⟨c1, h⟩
 ·have h := si h; subst h
  exact pth Tryz.func170 [.br true] (fun e => ai (q1 c1) e) (by kernel_rfl)
 ·rcases ite_e h with ⟨c2, h⟩ | ⟨c2, h⟩
  ·have h := si h; subst h
   exact pth Tryz.func170 [.br false, .br true] (fun e => ai (q0 c1) (ai c2 e)) (by kernel_rfl)
  ·have h := si h; subst h
   exact pth Tryz.func170 [.br false, .br false] (fun e => ai (q0 c1) (ai (z0 c2) e)) (by kernel_rfl)
def gnomonref04_Shl.f (k : Nat) (a0_0 : Bool) (l0_1 : List Int) (a1 : Int) : Option (Bool × List Int) := (gnomonref01_Shl.f k l0_1 a1).bind fun t1 => ((gnomonref04_Mk.f k a0_0 t1).bind fun bt2 => (some (bt2.1, bt2.2)))
theorem gnomonref04_Shl.mono : ∀ a0 a1 a2 k, LeO (gnomonref04_Shl.f k a0 a1 a2) (gnomonref04_Shl.f (k + 1) a0 a1 a2) := by
 intro a0 a1 a2 k
 unfold gnomonref04_Shl.f
 repeat' first
  | (with_reducible exact gnomonref01_Shl.mono _ _ _)
  | (with_reducible exact gnomonref04_Mk.mono _ _ _)
  | (with_reducible exact LeO.refl _)
  | (with_reducible exact LeO.none _)
  | (with_reducible refine LeO.ite ?_ ?_)
  | (with_reducible refine LeO.bind ?_ (fun _ => ?_))
theorem gnomonref04_Shl.c {k : Nat} {a0_0 : Bool} {l0_1 : List Int} {a1 : Int} {r : Bool × List Int} (h : gnomonref04_Shl.f k a0_0 l0_1 a1 = some r) : Con Tryz.prog Gw 175 [.ag [.b a0_0, .sl .u32 l0_1], .s (.i .i64 a1)] (· = .ag [.b r.1, .sl .u32 r.2]) := by
 unfold gnomonref04_Shl.f at h
 obtain ⟨t1, A1, h⟩ := bnd h
 obtain ⟨bt2, A2, h⟩ := bnd h
 have h := si h; subst h
 exact pth Tryz.func175 [.r (.s (.sl .u32 t1)), .r (.ag [.b bt2.1, .sl .u32 bt2.2])] (fun e => ai (gnomonref01_Shl.c A1) (ai (gnomonref04_Mk.c A2) e)) (by kernel_rfl)
def gnomonref04_Add.f (k : Nat) (a0_0 : Bool) (l0_1 : List Int) (a1_0 : Bool) (l1_1 : List Int) : Option (Bool × List Int) := if a0_0 = a1_0 then ((gnomonref01_Add.f k l0_1 l1_1).bind fun t1 => ((gnomonref04_Mk.f k a0_0 t1).bind fun bt2 => (some (bt2.1, bt2.2)))) else ((gnomonref01_Cmp.f k l0_1 l1_1).bind fun t3 => (if t3 ≥ 0 then ((gnomonref01_Sub.f k l0_1 l1_1).bind fun t4 => ((gnomonref04_Mk.f k a0_0 t4).bind fun bt5 => (some (bt5.1, bt5.2)))) else ((gnomonref01_Sub.f k l1_1 l0_1).bind fun t6 => ((gnomonref04_Mk.f k a1_0 t6).bind fun bt7 => (some (bt7.1, bt7.2))))))
theorem gnomonref04_Add.mono : ∀ a0 a1 a2 a3 k, LeO (gnomonref04_Add.f k a0 a1 a2 a3) (gnomonref04_Add.f (k + 1) a0 a1 a2 a3) := by
 intro a0 a1 a2 a3 k
 unfold gnomonref04_Add.f
 repeat' first
  | (with_reducible exact gnomonref01_Add.mono _ _ _)
  | (with_reducible exact gnomonref01_Cmp.mono _ _ _)
  | (with_reducible exact gnomonref01_Sub.mono _ _ _)
  | (with_reducible exact gnomonref04_Mk.mono _ _ _)
  | (with_reducible exact LeO.refl _)
  | (with_reducible exact LeO.none _)
  | (with_reducible refine LeO.ite ?_ ?_)
  | (with_reducible refine LeO.bind ?_ (fun _ => ?_))
theorem gnomonref04_Add.c {k : Nat} {a0_0 : Bool} {l0_1 : List Int} {a1_0 : Bool} {l1_1 : List Int} {r : Bool × List Int} (h : gnomonref04_Add.f k a0_0 l0_1 a1_0 l1_1 = some r) : Con Tryz.prog Gw 146 [.ag [.b a0_0, .sl .u32 l0_1], .ag [.b a1_0, .sl .u32 l1_1]] (· = .ag [.b r.1, .sl .u32 r.2]) := by
 unfold gnomonref04_Add.f at h
 rcases ite_e h with ⟨c1, h⟩ | ⟨c1, h⟩
 ·obtain ⟨t1, A2, h⟩ := bnd h
  obtain ⟨bt2, A3, h⟩ := bnd h
  have h := si h; subst h
  exact pth Tryz.func146 [.br true, .r (.s (.sl .u32 t1)), .r (.ag [.b bt2.1, .sl .u32 bt2.2])] (fun e => ai (q1 c1) (ai (gnomonref01_Add.c A2) (ai (gnomonref04_Mk.c A3) e))) (by kernel_rfl)
 ·obtain ⟨t3, A4, h⟩ := bnd h
  rcases ite_e h with ⟨c5, h⟩ | ⟨c5, h⟩
  ·obtain ⟨t4, A6, h⟩ := bnd h
   obtain ⟨bt5, A7, h⟩ := bnd h
   have h := si h; subst h
   exact pth Tryz.func146 [.br false, .r (.s (.i .i64 t3)), .br true, .r (.s (.sl .u32 t4)), .r (.ag [.b bt5.1, .sl .u32 bt5.2])] (fun e => ai (q0 c1) (ai (gnomonref01_Cmp.c A4) (ai (d1 c5) (ai (gnomonref01_Sub.c A6) (ai (gnomonref04_Mk.c A7) e))))) (by kernel_rfl)
  ·obtain ⟨t6, A8, h⟩ := bnd h
   obtain ⟨bt7, A9, h⟩ := bnd h
   have h := si h; subst h
   exact pth Tryz.func146 [.br false, .r (.s (.i .i64 t3)), .br false, .r (.s (.sl .u32 t6)), .r (.ag [.b bt7.1, .sl .u32 bt7.2])] (fun e => ai (q0 c1) (ai (gnomonref01_Cmp.c A4) (ai (d0 c5) (ai (gnomonref01_Sub.c A8) (ai (gnomonref04_Mk.c A9) e))))) (by kernel_rfl)
def gnomonref04_Flip.f (k : Nat) (a0_0 : Bool) (l0_1 : List Int) : Option (Bool × List Int) := (gnomonref04_Mk.f k (!a0_0) l0_1).bind fun bt1 => (some (bt1.1, bt1.2))
theorem gnomonref04_Flip.mono : ∀ a0 a1 k, LeO (gnomonref04_Flip.f k a0 a1) (gnomonref04_Flip.f (k + 1) a0 a1) := by
 intro a0 a1 k
 unfold gnomonref04_Flip.f
 repeat' first
  | (with_reducible exact gnomonref04_Mk.mono _ _ _)
  | (with_reducible exact LeO.refl _)
  | (with_reducible exact LeO.none _)
  | (with_reducible refine LeO.ite ?_ ?_)
  | (with_reducible refine LeO.bind ?_ (fun _ => ?_))
theorem gnomonref04_Flip.c {k : Nat} {a0_0 : Bool} {l0_1 : List Int} {r : Bool × List Int} (h : gnomonref04_Flip.f k a0_0 l0_1 = some r) : Con Tryz.prog Gw 189 [.ag [.b a0_0, .sl .u32 l0_1]] (· = .ag [.b r.1, .sl .u32 r.2]) := by
 unfold gnomonref04_Flip.f at h
 obtain ⟨bt1, A1, h⟩ := bnd h
 have h := si h; subst h
 exact pth Tryz.func189 [.r (.ag [.b bt1.1, .sl .u32 bt1.2])] (fun e => ai (gnomonref04_Mk.c A1) e) (by kernel_rfl)
def gnomonref04_Sub.f (k : Nat) (a0_0 : Bool) (l0_1 : List Int) (a1_0 : Bool) (l1_1 : List Int) : Option (Bool × List Int) := (gnomonref04_Flip.f k a1_0 l1_1).bind fun bt1 => ((gnomonref04_Add.f k a0_0 l0_1 bt1.1 bt1.2).bind fun bt2 => (some (bt2.1, bt2.2)))
theorem gnomonref04_Sub.mono : ∀ a0 a1 a2 a3 k, LeO (gnomonref04_Sub.f k a0 a1 a2 a3) (gnomonref04_Sub.f (k + 1) a0 a1 a2 a3) := by
 intro a0 a1 a2 a3 k
 unfold gnomonref04_Sub.f
 repeat' first
  | (with_reducible exact gnomonref04_Add.mono _ _ _ _ _)
  | (with_reducible exact gnomonref04_Flip.mono _ _ _)
  | (with_reducible exact LeO.refl _)
  | (with_reducible exact LeO.none _)
  | (with_reducible refine LeO.ite ?_ ?_)
  | (with_reducible refine LeO.bind ?_ (fun _ => ?_))
theorem gnomonref04_Sub.c {k : Nat} {a0_0 : Bool} {l0_1 : List Int} {a1_0 : Bool} {l1_1 : List Int} {r : Bool × List Int} (h : gnomonref04_Sub.f k a0_0 l0_1 a1_0 l1_1 = some r) : Con Tryz.prog Gw 183 [.ag [.b a0_0, .sl .u32 l0_1], .ag [.b a1_0, .sl .u32 l1_1]] (· = .ag [.b r.1, .sl .u32 r.2]) := by
 unfold gnomonref04_Sub.f at h
 obtain ⟨bt1, A1, h⟩ := bnd h
 obtain ⟨bt2, A2, h⟩ := bnd h
 have h := si h; subst h
 exact pth Tryz.func183 [.r (.ag [.b bt1.1, .sl .u32 bt1.2]), .r (.ag [.b bt2.1, .sl .u32 bt2.2])] (fun e => ai (gnomonref04_Flip.c A1) (ai (gnomonref04_Add.c A2) e)) (by kernel_rfl)
def gnomonref04_Cmp.f (k : Nat) (a0_0 : Bool) (l0_1 : List Int) (a1_0 : Bool) (l1_1 : List Int) : Option (Int) := (gnomonref04_Sub.f k a0_0 l0_1 a1_0 l1_1).bind fun bt1 => ((gnomonref04_Sign.f bt1.1 bt1.2).bind fun t2 => (some t2))
theorem gnomonref04_Cmp.mono : ∀ a0 a1 a2 a3 k, LeO (gnomonref04_Cmp.f k a0 a1 a2 a3) (gnomonref04_Cmp.f (k + 1) a0 a1 a2 a3) := by
 intro a0 a1 a2 a3 k
 unfold gnomonref04_Cmp.f
 repeat' first
  | (with_reducible exact gnomonref04_Sub.mono _ _ _ _ _)
  | (with_reducible exact LeO.refl _)
  | (with_reducible exact LeO.none _)
  | (with_reducible refine LeO.ite ?_ ?_)
  | (with_reducible refine LeO.bind ?_ (fun _ => ?_))
theorem gnomonref04_Cmp.c {k : Nat} {a0_0 : Bool} {l0_1 : List Int} {a1_0 : Bool} {l1_1 : List Int} {r : Int} (h : gnomonref04_Cmp.f k a0_0 l0_1 a1_0 l1_1 = some r) : Con Tryz.prog Gw 173 [.ag [.b a0_0, .sl .u32 l0_1], .ag [.b a1_0, .sl .u32 l1_1]] (· = .s (.i .i64 r)) := by
 unfold gnomonref04_Cmp.f at h
 obtain ⟨bt1, A1, h⟩ := bnd h
 obtain ⟨t2, A2, h⟩ := bnd h
 have h := si h; subst h
 exact pth Tryz.func173 [.r (.ag [.b bt1.1, .sl .u32 bt1.2]), .r (.s (.i .i64 t2))] (fun e => ai (gnomonref04_Sub.c A1) (ai (gnomonref04_Sign.c A2) e)) (by kernel_rfl)
def gnomonref05_sign.f (k : Nat) (a0_0 : Bool) (l0_1 : List Int) (a0_2 : Int) : Option (Int) := (gnomonref04_From.f k a0_0 l0_1).bind fun bt1 => ((gnomonref04_Sign.f bt1.1 bt1.2).bind fun t2 => (some t2))
theorem gnomonref05_sign.mono : ∀ a0 a1 a2 k, LeO (gnomonref05_sign.f k a0 a1 a2) (gnomonref05_sign.f (k + 1) a0 a1 a2) := by
 intro a0 a1 a2 k
 unfold gnomonref05_sign.f
 repeat' first
  | (with_reducible exact gnomonref04_From.mono _ _ _)
  | (with_reducible exact LeO.refl _)
  | (with_reducible exact LeO.none _)
  | (with_reducible refine LeO.ite ?_ ?_)
  | (with_reducible refine LeO.bind ?_ (fun _ => ?_))
theorem gnomonref05_sign.c {k : Nat} {a0_0 : Bool} {l0_1 : List Int} {a0_2 : Int} {r : Int} (h : gnomonref05_sign.f k a0_0 l0_1 a0_2 = some r) : Con Tryz.prog Gw 172 [.ag [.b a0_0, .sl .u64 l0_1, .i .i64 a0_2]] (· = .s (.i .i64 r)) := by
 unfold gnomonref05_sign.f at h
 obtain ⟨bt1, A1, h⟩ := bnd h
 obtain ⟨t2, A2, h⟩ := bnd h
 have h := si h; subst h
 exact pth Tryz.func172 [.r (.ag [.b bt1.1, .sl .u32 bt1.2]), .r (.s (.i .i64 t2))] (fun e => ai (gnomonref04_From.c A1) (ai (gnomonref04_Sign.c A2) e)) (by kernel_rfl)
def gnomonref05_top.f (k : Nat) (a0_0 : Bool) (l0_1 : List Int) (a0_2 : Int) : Option (Int) := (gnomonref01_From.f k l0_1).bind fun t1 => ((gnomonref01_Bits.f k t1).bind fun t2 => (some (wrap64 ((wrap64 (a0_2 + t2)) - 1))))
theorem gnomonref05_top.mono : ∀ a0 a1 a2 k, LeO (gnomonref05_top.f k a0 a1 a2) (gnomonref05_top.f (k + 1) a0 a1 a2) := by
 intro a0 a1 a2 k
 unfold gnomonref05_top.f
 repeat' first
  | (with_reducible exact gnomonref01_Bits.mono _ _)
  | (with_reducible exact gnomonref01_From.mono _ _)
  | (with_reducible exact LeO.refl _)
  | (with_reducible exact LeO.none _)
  | (with_reducible refine LeO.ite ?_ ?_)
  | (with_reducible refine LeO.bind ?_ (fun _ => ?_))
theorem gnomonref05_top.c {k : Nat} {a0_0 : Bool} {l0_1 : List Int} {a0_2 : Int} {r : Int} (h : gnomonref05_top.f k a0_0 l0_1 a0_2 = some r) : Con Tryz.prog Gw 174 [.ag [.b a0_0, .sl .u64 l0_1, .i .i64 a0_2]] (· = .s (.i .i64 r)) := by
 unfold gnomonref05_top.f at h
 obtain ⟨t1, A1, h⟩ := bnd h
 obtain ⟨t2, A2, h⟩ := bnd h
 have h := si h; subst h
 exact pth Tryz.func174 [.r (.s (.sl .u32 t1)), .r (.s (.i .i64 t2))] (fun e => ai (gnomonref01_From.c A1) (ai (gnomonref01_Bits.c A2) e)) (by kernel_rfl)
def gnomonref05_DocCmp.f (k : Nat) (a0_0 : Bool) (l0_1 : List Int) (a0_2 : Int) (a1_0 : Bool) (l1_1 : List Int) (a1_2 : Int) : Option (Int × Int) := (gnomonref05_DocForm.f k a0_0 l0_1 a0_2).bind fun t1 => (if t1 = true then ((gnomonref05_DocForm.f k a1_0 l1_1 a1_2).bind fun t2 => (if t2 = true then ((gnomonref05_sign.f k a0_0 l0_1 a0_2).bind fun t3 => ((gnomonref05_sign.f k a1_0 l1_1 a1_2).bind fun t4 => (if t3 = t4 then (if t3 = 0 then ((gnomonref04_Of.f k t3).bind fun bt5 => ((gnomonref04_Of.f k t4).bind fun bt6 => ((gnomonref04_Cmp.f k bt5.1 bt5.2 bt6.1 bt6.2).bind fun t7 => (some (t7, 0))))) else ((gnomonref05_top.f k a0_0 l0_1 a0_2).bind fun t8 => ((gnomonref05_top.f k a1_0 l1_1 a1_2).bind fun t9 => (if t8 = t9 then ((gnomonref04_From.f k a0_0 l0_1).bind fun bt10 => ((gnomonref04_Shl.f k bt10.1 bt10.2 (wrap64 (a0_2 - (mn a0_2 a1_2)))).bind fun bt11 => ((gnomonref04_From.f k a1_0 l1_1).bind fun bt12 => ((gnomonref04_Shl.f k bt12.1 bt12.2 (wrap64 (a1_2 - (mn a0_2 a1_2)))).bind fun bt13 => ((gnomonref04_Cmp.f k bt11.1 bt11.2 bt13.1 bt13.2).bind fun t14 => (some (t14, 0))))))) else ((gnomonref05_top.f k a0_0 l0_1 a0_2).bind fun t15 => ((gnomonref04_Of.f k t15).bind fun bt16 => ((gnomonref05_top.f k a1_0 l1_1 a1_2).bind fun t17 => ((gnomonref04_Of.f k t17).bind fun bt18 => ((gnomonref04_Cmp.f k bt16.1 bt16.2 bt18.1 bt18.2).bind fun t19 => (some (wrap64 (t3 * t19), 0))))))))))) else ((gnomonref04_Of.f k t3).bind fun bt20 => ((gnomonref04_Of.f k t4).bind fun bt21 => ((gnomonref04_Cmp.f k bt20.1 bt20.2 bt21.1 bt21.2).bind fun t22 => (some (t22, 0)))))))) else (some (0, 2)))) else (some (0, 2)))
theorem gnomonref05_DocCmp.mono : ∀ a0 a1 a2 a3 a4 a5 k, LeO (gnomonref05_DocCmp.f k a0 a1 a2 a3 a4 a5) (gnomonref05_DocCmp.f (k + 1) a0 a1 a2 a3 a4 a5) := by
 intro a0 a1 a2 a3 a4 a5 k
 unfold gnomonref05_DocCmp.f
 repeat' first
  | (with_reducible exact gnomonref04_Cmp.mono _ _ _ _ _)
  | (with_reducible exact gnomonref04_From.mono _ _ _)
  | (with_reducible exact gnomonref04_Of.mono _ _)
  | (with_reducible exact gnomonref04_Shl.mono _ _ _ _)
  | (with_reducible exact gnomonref05_DocForm.mono _ _ _ _)
  | (with_reducible exact gnomonref05_sign.mono _ _ _ _)
  | (with_reducible exact gnomonref05_top.mono _ _ _ _)
  | (with_reducible exact LeO.refl _)
  | (with_reducible exact LeO.none _)
  | (with_reducible refine LeO.ite ?_ ?_)
  | (with_reducible refine LeO.bind ?_ (fun _ => ?_))
theorem gnomonref05_DocCmp.c {k : Nat} {a0_0 : Bool} {l0_1 : List Int} {a0_2 : Int} {a1_0 : Bool} {l1_1 : List Int} {a1_2 : Int} {r : Int × Int} (h : gnomonref05_DocCmp.f k a0_0 l0_1 a0_2 a1_0 l1_1 a1_2 = some r) : Con Tryz.prog Gw 151 [.ag [.b a0_0, .sl .u64 l0_1, .i .i64 a0_2], .ag [.b a1_0, .sl .u64 l1_1, .i .i64 a1_2]] (· = .tu [.s (.i .i64 r.1), .s (.i .i64 r.2)]) := by
 unfold gnomonref05_DocCmp.f at h
 obtain ⟨t1, A1, h⟩ := bnd h
 rcases ite_e h with ⟨c2, h⟩ | ⟨c2, h⟩
 ·obtain ⟨t2, A3, h⟩ := bnd h
  rcases ite_e h with ⟨c4, h⟩ | ⟨c4, h⟩
  ·obtain ⟨t3, A5, h⟩ := bnd h
   obtain ⟨t4, A6, h⟩ := bnd h
   rcases ite_e h with ⟨c7, h⟩ | ⟨c7, h⟩
   ·rcases ite_e h with ⟨c8, h⟩ | ⟨c8, h⟩
    ·obtain ⟨bt5, A9, h⟩ := bnd h
     obtain ⟨bt6, A10, h⟩ := bnd h
     obtain ⟨t7, A11, h⟩ := bnd h
     have h := si h; subst h
     exact pth Tryz.func151 [.r (.s (.b t1)), .br false, .br false, .r (.s (.b t2)), .br false, .br false, .br false, .r (.s (.i .i64 t3)), .r (.s (.i .i64 t4)), .br false, .br false, .br false, .br true, .r (.ag [.b bt5.1, .sl .u32 bt5.2]), .r (.ag [.b bt6.1, .sl .u32 bt6.2]), .r (.s (.i .i64 t7))] (fun e => ai (gnomonref05_DocForm.c A1) (ai (nt1 c2) (ai (nt1 c2) (ai (gnomonref05_DocForm.c A3) (ai (nt1 c2) (ai (nt1 c2) (ai (nt1 c4) (ai (gnomonref05_sign.c A5) (ai (gnomonref05_sign.c A6) (ai (n0 c7) (ai (n0 c7) (ai (n0 c7) (ai (q1 c8) (ai (gnomonref04_Of.c A9) (ai (gnomonref04_Of.c A10) (ai (gnomonref04_Cmp.c A11) e)))))))))))))))) (by kernel_rfl)
    ·obtain ⟨t8, A12, h⟩ := bnd h
     obtain ⟨t9, A13, h⟩ := bnd h
     rcases ite_e h with ⟨c14, h⟩ | ⟨c14, h⟩
     ·obtain ⟨bt10, A15, h⟩ := bnd h
      obtain ⟨bt11, A16, h⟩ := bnd h
      obtain ⟨bt12, A17, h⟩ := bnd h
      obtain ⟨bt13, A18, h⟩ := bnd h
      obtain ⟨t14, A19, h⟩ := bnd h
      have h := si h; subst h
      exact pth Tryz.func151 [.r (.s (.b t1)), .br false, .br false, .r (.s (.b t2)), .br false, .br false, .br false, .r (.s (.i .i64 t3)), .r (.s (.i .i64 t4)), .br false, .br false, .br false, .br false, .r (.s (.i .i64 t8)), .r (.s (.i .i64 t9)), .br false, .r (.ag [.b bt10.1, .sl .u32 bt10.2]), .r (.ag [.b bt11.1, .sl .u32 bt11.2]), .r (.ag [.b bt12.1, .sl .u32 bt12.2]), .r (.ag [.b bt13.1, .sl .u32 bt13.2]), .r (.s (.i .i64 t14))] (fun e => ai (gnomonref05_DocForm.c A1) (ai (nt1 c2) (ai (nt1 c2) (ai (gnomonref05_DocForm.c A3) (ai (nt1 c2) (ai (nt1 c2) (ai (nt1 c4) (ai (gnomonref05_sign.c A5) (ai (gnomonref05_sign.c A6) (ai (n0 c7) (ai (n0 c7) (ai (n0 c7) (ai (q0 c8) (ai (gnomonref05_top.c A12) (ai (gnomonref05_top.c A13) (ai (n0 c14) (ai (gnomonref04_From.c A15) (ai (gnomonref04_Shl.c A16) (ai (gnomonref04_From.c A17) (ai (gnomonref04_Shl.c A18) (ai (gnomonref04_Cmp.c A19) e))))))))))))))))))))) (by kernel_rfl)
     ·obtain ⟨t15, A20, h⟩ := bnd h
      obtain ⟨bt16, A21, h⟩ := bnd h
      obtain ⟨t17, A22, h⟩ := bnd h
      obtain ⟨bt18, A23, h⟩ := bnd h
      obtain ⟨t19, A24, h⟩ := bnd h
      have h := si h; subst h
      exact pth Tryz.func151 [.r (.s (.b t1)), .br false, .br false, .r (.s (.b t2)), .br false, .br false, .br false, .r (.s (.i .i64 t3)), .r (.s (.i .i64 t4)), .br false, .br false, .br false, .br false, .r (.s (.i .i64 t8)), .r (.s (.i .i64 t9)), .br true, .r (.s (.i .i64 t15)), .r (.ag [.b bt16.1, .sl .u32 bt16.2]), .r (.s (.i .i64 t17)), .r (.ag [.b bt18.1, .sl .u32 bt18.2]), .r (.s (.i .i64 t19))] (fun e => ai (gnomonref05_DocForm.c A1) (ai (nt1 c2) (ai (nt1 c2) (ai (gnomonref05_DocForm.c A3) (ai (nt1 c2) (ai (nt1 c2) (ai (nt1 c4) (ai (gnomonref05_sign.c A5) (ai (gnomonref05_sign.c A6) (ai (n0 c7) (ai (n0 c7) (ai (n0 c7) (ai (q0 c8) (ai (gnomonref05_top.c A12) (ai (gnomonref05_top.c A13) (ai (n1 c14) (ai (gnomonref05_top.c A20) (ai (gnomonref04_Of.c A21) (ai (gnomonref05_top.c A22) (ai (gnomonref04_Of.c A23) (ai (gnomonref04_Cmp.c A24) e))))))))))))))))))))) (by kernel_rfl)
   ·obtain ⟨bt20, A25, h⟩ := bnd h
    obtain ⟨bt21, A26, h⟩ := bnd h
    obtain ⟨t22, A27, h⟩ := bnd h
    have h := si h; subst h
    exact pth Tryz.func151 [.r (.s (.b t1)), .br false, .br false, .r (.s (.b t2)), .br false, .br false, .br false, .r (.s (.i .i64 t3)), .r (.s (.i .i64 t4)), .br true, .br true, .br true, .br true, .r (.ag [.b bt20.1, .sl .u32 bt20.2]), .r (.ag [.b bt21.1, .sl .u32 bt21.2]), .r (.s (.i .i64 t22))] (fun e => ai (gnomonref05_DocForm.c A1) (ai (nt1 c2) (ai (nt1 c2) (ai (gnomonref05_DocForm.c A3) (ai (nt1 c2) (ai (nt1 c2) (ai (nt1 c4) (ai (gnomonref05_sign.c A5) (ai (gnomonref05_sign.c A6) (ai (n1 c7) (ai (n1 c7) (ai (n1 c7) (ai tt (ai (gnomonref04_Of.c A25) (ai (gnomonref04_Of.c A26) (ai (gnomonref04_Cmp.c A27) e)))))))))))))))) (by kernel_rfl)
  ·have h := si h; subst h
   exact pth Tryz.func151 [.r (.s (.b t1)), .br false, .br false, .r (.s (.b t2)), .br false, .br false, .br true] (fun e => ai (gnomonref05_DocForm.c A1) (ai (nt1 c2) (ai (nt1 c2) (ai (gnomonref05_DocForm.c A3) (ai (nt1 c2) (ai (nt1 c2) (ai (nt0 (z0 c4)) e))))))) (by kernel_rfl)
 ·have h := si h; subst h
  exact pth Tryz.func151 [.r (.s (.b t1)), .br true, .br true, .br true, .br true, .br true] (fun e => ai (gnomonref05_DocForm.c A1) (ai (nt0 (z0 c2)) (ai (nt0 (z0 c2)) (ai (nt0 (z0 c2)) (ai (nt0 (z0 c2)) (ai tt e)))))) (by kernel_rfl)
def gnomonref08_DocDecide.f (k : Nat) (a0 : Int) (a1_0 : Bool) (l1_1 : List Int) (a1_2 : Int) (a1_3 : Bool) (l1_4 : List Int) (a1_5 : Int) : Option (Int × Bool × Int) := (gnomonref07_Of.f a0).bind fun bt1 => (if bt1.2.2.2.2.2.2 = true then ((gnomonref05_DocCmp.f k a1_0 l1_1 a1_2 a1_3 l1_4 a1_5).bind fun bt2 => (if bt2.2 = 0 then (if bt2.1 > 0 then (some (0, false, 2)) else ((gnomonref08_DocNearest.f k a0 a1_0 l1_1 a1_2).bind fun bt3 => ((gnomonref08_DocNearest.f k a0 a1_3 l1_4 a1_5).bind fun bt4 => (if bt3.1 = bt4.1 then (some (bt3.1, true, 0)) else (some (0, false, 0)))))) else (some (0, false, 2)))) else (some (0, false, 1)))
theorem gnomonref08_DocDecide.mono : ∀ a0 a1 a2 a3 a4 a5 a6 k, LeO (gnomonref08_DocDecide.f k a0 a1 a2 a3 a4 a5 a6) (gnomonref08_DocDecide.f (k + 1) a0 a1 a2 a3 a4 a5 a6) := by
 intro a0 a1 a2 a3 a4 a5 a6 k
 unfold gnomonref08_DocDecide.f
 repeat' first
  | (with_reducible exact gnomonref05_DocCmp.mono _ _ _ _ _ _ _)
  | (with_reducible exact gnomonref08_DocNearest.mono _ _ _ _ _)
  | (with_reducible exact LeO.refl _)
  | (with_reducible exact LeO.none _)
  | (with_reducible refine LeO.ite ?_ ?_)
  | (with_reducible refine LeO.bind ?_ (fun _ => ?_))
theorem gnomonref08_DocDecide.c {k : Nat} {a0 : Int} {a1_0 : Bool} {l1_1 : List Int} {a1_2 : Int} {a1_3 : Bool} {l1_4 : List Int} {a1_5 : Int} {r : Int × Bool × Int} (h : gnomonref08_DocDecide.f k a0 a1_0 l1_1 a1_2 a1_3 l1_4 a1_5 = some r) : Con Tryz.prog Gw 114 [.s (.i .i64 a0), .ag [.b a1_0, .sl .u64 l1_1, .i .i64 a1_2, .b a1_3, .sl .u64 l1_4, .i .i64 a1_5]] (· = .tu [.s (.i .u64 r.1), .s (.b r.2.1), .s (.i .i64 r.2.2)]) := by
 unfold gnomonref08_DocDecide.f at h
 obtain ⟨bt1, A1, h⟩ := bnd h
 rcases ite_e h with ⟨c2, h⟩ | ⟨c2, h⟩
 ·obtain ⟨bt2, A3, h⟩ := bnd h
  rcases ite_e h with ⟨c4, h⟩ | ⟨c4, h⟩
  ·rcases ite_e h with ⟨c5, h⟩ | ⟨c5, h⟩
   ·have h := si h; subst h
    exact pth Tryz.func114 [.r (.tu [.ag [.i .u64 bt1.1, .i .i64 bt1.2.1, .i .i64 bt1.2.2.1, .i .i64 bt1.2.2.2.1, .i .u64 bt1.2.2.2.2.1, .i .u64 bt1.2.2.2.2.2.1], .s (.b bt1.2.2.2.2.2.2)]), .br false, .r (.tu [.s (.i .i64 bt2.1), .s (.i .i64 bt2.2)]), .br false, .br false, .br false, .br true] (fun e => ai (gnomonref07_Of.c A1) (ai (nt1 c2) (ai (gnomonref05_DocCmp.c A3) (ai (n0 c4) (ai (n0 c4) (ai (n0 c4) (ai (d1 c5) e))))))) (by kernel_rfl)
   ·obtain ⟨bt3, A6, h⟩ := bnd h
    obtain ⟨bt4, A7, h⟩ := bnd h
    rcases ite_e h with ⟨c8, h⟩ | ⟨c8, h⟩
    ·have h := si h; subst h
     exact pth Tryz.func114 [.r (.tu [.ag [.i .u64 bt1.1, .i .i64 bt1.2.1, .i .i64 bt1.2.2.1, .i .i64 bt1.2.2.2.1, .i .u64 bt1.2.2.2.2.1, .i .u64 bt1.2.2.2.2.2.1], .s (.b bt1.2.2.2.2.2.2)]), .br false, .r (.tu [.s (.i .i64 bt2.1), .s (.i .i64 bt2.2)]), .br false, .br false, .br false, .br false, .r (.tu [.s (.i .u64 bt3.1), .s (.i .i64 bt3.2)]), .r (.tu [.s (.i .u64 bt4.1), .s (.i .i64 bt4.2)]), .br false] (fun e => ai (gnomonref07_Of.c A1) (ai (nt1 c2) (ai (gnomonref05_DocCmp.c A3) (ai (n0 c4) (ai (n0 c4) (ai (n0 c4) (ai (d0 c5) (ai (gnomonref08_DocNearest.c A6) (ai (gnomonref08_DocNearest.c A7) (ai (n0 c8) e)))))))))) (by kernel_rfl)
    ·have h := si h; subst h
     exact pth Tryz.func114 [.r (.tu [.ag [.i .u64 bt1.1, .i .i64 bt1.2.1, .i .i64 bt1.2.2.1, .i .i64 bt1.2.2.2.1, .i .u64 bt1.2.2.2.2.1, .i .u64 bt1.2.2.2.2.2.1], .s (.b bt1.2.2.2.2.2.2)]), .br false, .r (.tu [.s (.i .i64 bt2.1), .s (.i .i64 bt2.2)]), .br false, .br false, .br false, .br false, .r (.tu [.s (.i .u64 bt3.1), .s (.i .i64 bt3.2)]), .r (.tu [.s (.i .u64 bt4.1), .s (.i .i64 bt4.2)]), .br true] (fun e => ai (gnomonref07_Of.c A1) (ai (nt1 c2) (ai (gnomonref05_DocCmp.c A3) (ai (n0 c4) (ai (n0 c4) (ai (n0 c4) (ai (d0 c5) (ai (gnomonref08_DocNearest.c A6) (ai (gnomonref08_DocNearest.c A7) (ai (n1 c8) e)))))))))) (by kernel_rfl)
  ·have h := si h; subst h
   exact pth Tryz.func114 [.r (.tu [.ag [.i .u64 bt1.1, .i .i64 bt1.2.1, .i .i64 bt1.2.2.1, .i .i64 bt1.2.2.2.1, .i .u64 bt1.2.2.2.2.1, .i .u64 bt1.2.2.2.2.2.1], .s (.b bt1.2.2.2.2.2.2)]), .br false, .r (.tu [.s (.i .i64 bt2.1), .s (.i .i64 bt2.2)]), .br true, .br true, .br true, .br true] (fun e => ai (gnomonref07_Of.c A1) (ai (nt1 c2) (ai (gnomonref05_DocCmp.c A3) (ai (n1 c4) (ai (n1 c4) (ai (n1 c4) (ai tt e))))))) (by kernel_rfl)
 ·have h := si h; subst h
  exact pth Tryz.func114 [.r (.tu [.ag [.i .u64 bt1.1, .i .i64 bt1.2.1, .i .i64 bt1.2.2.1, .i .i64 bt1.2.2.2.1, .i .u64 bt1.2.2.2.2.1, .i .u64 bt1.2.2.2.2.2.1], .s (.b bt1.2.2.2.2.2.2)]), .br true] (fun e => ai (gnomonref07_Of.c A1) (ai (nt0 (z0 c2)) e)) (by kernel_rfl)
def gnomonref07_finite.f (a0 : Int) (a1 : Int) : Option (Int) := (gnomonref07_Check.f a0 a1).bind fun t1 => (if t1 = 0 then ((gnomonref07_Of.f a0).bind fun bt2 => ((gnomonref07_Cut.f bt2.1 bt2.2.1 bt2.2.2.1 bt2.2.2.2.1 bt2.2.2.2.2.1 bt2.2.2.2.2.2.1 a1).bind fun bt3 => (if bt3.2 ≥ bt2.2.2.2.2.1 then (some 6) else (some 0)))) else (some t1))
theorem gnomonref07_finite.c {a0 : Int} {a1 : Int} {r : Int} (h : gnomonref07_finite.f a0 a1 = some r) : Con Tryz.prog Gw 145 [.s (.i .i64 a0), .s (.i .u64 a1)] (· = .s (.i .i64 r)) := by
 unfold gnomonref07_finite.f at h
 obtain ⟨t1, A1, h⟩ := bnd h
 rcases ite_e h with ⟨c2, h⟩ | ⟨c2, h⟩
 ·obtain ⟨bt2, A3, h⟩ := bnd h
  obtain ⟨bt3, A4, h⟩ := bnd h
  rcases ite_e h with ⟨c5, h⟩ | ⟨c5, h⟩
  ·have h := si h; subst h
   exact pth Tryz.func145 [.r (.s (.i .i64 t1)), .br false, .r (.tu [.ag [.i .u64 bt2.1, .i .i64 bt2.2.1, .i .i64 bt2.2.2.1, .i .i64 bt2.2.2.2.1, .i .u64 bt2.2.2.2.2.1, .i .u64 bt2.2.2.2.2.2.1], .s (.b bt2.2.2.2.2.2.2)]), .r (.tu [.s (.b bt3.1), .s (.i .u64 bt3.2)]), .br true] (fun e => ai (gnomonref07_Check.c A1) (ai (n0 c2) (ai (gnomonref07_Of.c A3) (ai (gnomonref07_Cut.c A4) (ai (d1 c5) e))))) (by kernel_rfl)
  ·have h := si h; subst h
   exact pth Tryz.func145 [.r (.s (.i .i64 t1)), .br false, .r (.tu [.ag [.i .u64 bt2.1, .i .i64 bt2.2.1, .i .i64 bt2.2.2.1, .i .i64 bt2.2.2.2.1, .i .u64 bt2.2.2.2.2.1, .i .u64 bt2.2.2.2.2.2.1], .s (.b bt2.2.2.2.2.2.2)]), .r (.tu [.s (.b bt3.1), .s (.i .u64 bt3.2)]), .br false] (fun e => ai (gnomonref07_Check.c A1) (ai (n0 c2) (ai (gnomonref07_Of.c A3) (ai (gnomonref07_Cut.c A4) (ai (d0 c5) e))))) (by kernel_rfl)
 ·have h := si h; subst h
  exact pth Tryz.func145 [.r (.s (.i .i64 t1)), .br true] (fun e => ai (gnomonref07_Check.c A1) (ai (n1 c2) e)) (by kernel_rfl)
def gnomonref07_Whole.f (k : Nat) (a0_0 : Int) (a0_1 : Int) (a0_2 : Int) (a0_3 : Int) (a0_4 : Int) (a0_5 : Int) (a1 : Int) : Option (Bool × List Int) := (gnomonref07_Cut.f a0_0 a0_1 a0_2 a0_3 a0_4 a0_5 a1).bind fun bt1 => ((gnomonref07_Parts.f a0_0 a0_1 a0_2 a0_3 a0_4 a0_5 bt1.2).bind fun bt2 => ((gnomonref01_Word.f k bt2.1).bind fun t3 => ((gnomonref01_Shl.f k t3 (wrap64 (bt2.2 - a0_2))).bind fun t4 => ((gnomonref04_Mk.f k bt1.1 t4).bind fun bt5 => (some (bt5.1, bt5.2))))))
theorem gnomonref07_Whole.mono : ∀ a0 a1 a2 a3 a4 a5 a6 k, LeO (gnomonref07_Whole.f k a0 a1 a2 a3 a4 a5 a6) (gnomonref07_Whole.f (k + 1) a0 a1 a2 a3 a4 a5 a6) := by
 intro a0 a1 a2 a3 a4 a5 a6 k
 unfold gnomonref07_Whole.f
 repeat' first
  | (with_reducible exact gnomonref01_Shl.mono _ _ _)
  | (with_reducible exact gnomonref01_Word.mono _ _)
  | (with_reducible exact gnomonref04_Mk.mono _ _ _)
  | (with_reducible exact LeO.refl _)
  | (with_reducible exact LeO.none _)
  | (with_reducible refine LeO.ite ?_ ?_)
  | (with_reducible refine LeO.bind ?_ (fun _ => ?_))
theorem gnomonref07_Whole.c {k : Nat} {a0_0 : Int} {a0_1 : Int} {a0_2 : Int} {a0_3 : Int} {a0_4 : Int} {a0_5 : Int} {a1 : Int} {r : Bool × List Int} (h : gnomonref07_Whole.f k a0_0 a0_1 a0_2 a0_3 a0_4 a0_5 a1 = some r) : Con Tryz.prog Gw 147 [.ag [.i .u64 a0_0, .i .i64 a0_1, .i .i64 a0_2, .i .i64 a0_3, .i .u64 a0_4, .i .u64 a0_5], .s (.i .u64 a1)] (· = .ag [.b r.1, .sl .u32 r.2]) := by
 unfold gnomonref07_Whole.f at h
 obtain ⟨bt1, A1, h⟩ := bnd h
 obtain ⟨bt2, A2, h⟩ := bnd h
 obtain ⟨t3, A3, h⟩ := bnd h
 obtain ⟨t4, A4, h⟩ := bnd h
 obtain ⟨bt5, A5, h⟩ := bnd h
 have h := si h; subst h
 exact pth Tryz.func147 [.r (.tu [.s (.b bt1.1), .s (.i .u64 bt1.2)]), .r (.tu [.s (.i .u64 bt2.1), .s (.i .i64 bt2.2)]), .r (.s (.sl .u32 t3)), .r (.s (.sl .u32 t4)), .r (.ag [.b bt5.1, .sl .u32 bt5.2])] (fun e => ai (gnomonref07_Cut.c A1) (ai (gnomonref07_Parts.c A2) (ai (gnomonref01_Word.c A3) (ai (gnomonref01_Shl.c A4) (ai (gnomonref04_Mk.c A5) e))))) (by kernel_rfl)
end Go.Proofs.YtelfmddcjlocpaaGreatDoor.PLib
