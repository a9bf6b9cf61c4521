/- Functions of the program as plain Lean functions (definitions as the print's), and that the machine's calls do what they do (contracts 'X.c', by Px). Condition: math/bits' table is laid. -/
import Derived.Test.YtelfmddcjlocpaaGreatDoorKRoundQuotedPxL0
import Derived.Test.YtelfmddcjlocpaaGreatDoorKRoundQuotedPxL1
import Derived.Test.YtelfmddcjlocpaaGreatDoorKRoundQuotedPRefx0
import Derived.Test.YtelfmddcjlocpaaGreatDoorKRoundQuotedPRfzx0
import Derived.Test.YtelfmddcjlocpaaGreatDoorKRoundQuotedPxRfz
import Derived.Test.YtelfmddcjlocpaaGreatDoorKRoundQuotedGivenD
import Derived.Test.YtelfmddcjlocpaaGreatDoorKRoundQuotedPxA
import Derived.Laws.CopyOwn
import Derived.Laws.MakeOwn
set_option linter.unusedVariables false
namespace Go.Proofs.YtelfmddcjlocpaaGreatDoor.PLib
open Go Go.RowKit Go.Proofs.YtelfmddcjlocpaaGreatDoorW.PrintWords Go.Proofs.YtelfmddcjlocpaaGreatDoorW.PrintMore Go.Proofs.YtelfmddcjlocpaaGreatDoor.Given Go.Proofs.YtelfmddcjlocpaaGreatDoor.Px Go.Proofs.YtelfmddcjlocpaaGreatDoor.PRef Go.Proofs.YtelfmddcjlocpaaGreatDoor.PRfz
def gnomonref04_To.f (k : Nat) (a0_0 : Bool) (l0_1 : List Int) : Option (Bool × List Int) := if a0_0 = true then ((gnomonref01_To.f k l0_1).bind fun t160 => (some (decide ((l0_1.length : Int) > 0), t160))) else ((gnomonref01_To.f k l0_1).bind fun t163 => (some (false, t163)))
theorem gnomonref04_To.mono : ∀ a0 a1 k, LeO (gnomonref04_To.f k a0 a1) (gnomonref04_To.f (k + 1) a0 a1) := by
 intro a0 a1 k
 unfold gnomonref04_To.f
 repeat' first
   | (with_reducible exact gnomonref01_To.mono _ _)
   | (with_reducible exact LeO.refl _)
   | (with_reducible exact LeO.none _)
   | (with_reducible refine LeO.ite ?_ ?_)
   | (with_reducible refine LeO.bind ?_ (fun _ => ?_))
   | exact gnomonref01_To.mono _ _
   | exact LeO.none _
   | refine LeO.ite ?_ ?_
   | refine LeO.bind ?_ (fun _ => ?_)
theorem gnomonref04_To.c {k : Nat} {a0_0 : Bool} {l0_1 : List Int} {r : Bool × List Int} (h : gnomonref04_To.f k a0_0 l0_1 = some r) : Con Tryz.prog Gw 130 [.ag [.b a0_0, .sl .u32 l0_1]] (· = .ag [.b r.1, .sl .u64 r.2]) := by
 unfold gnomonref04_To.f at h
 rcases ite_e h with ⟨c1, h⟩ | ⟨c1, h⟩
 ·obtain ⟨t160, A2, h⟩ := bnd h
  have h := si h; subst h
  exact pth Tryz.func130 [.br true, .br true, .br true, .br true, .br true, .r (.s (.sl .u64 t160))] (fun e => ai c1 (ai c1 (ai c1 (ai c1 (ai c1 (ai (gnomonref01_To.c A2) e)))))) (by kernel_rfl)
 ·obtain ⟨t163, A3, h⟩ := bnd h
  have h := si h; subst h
  exact pth Tryz.func130 [.br false, .br false, .br false, .br false, .br false, .r (.s (.sl .u64 t163))] (fun e => ai (z0 c1) (ai (z0 c1) (ai (z0 c1) (ai (z0 c1) (ai (z0 c1) (ai (gnomonref01_To.c A3) e)))))) (by kernel_rfl)
def gnomonref04_Mk.f (k : Nat) (a0 : Bool) (l1 : List Int) : Option (Bool × List Int) := (gnomonref01_Norm.f k l1).bind fun t167 => (if a0 = true then (some (decide ((t167.length : Int) > 0), t167)) else (some (false, t167)))
theorem gnomonref04_Mk.mono : ∀ a0 a1 k, LeO (gnomonref04_Mk.f k a0 a1) (gnomonref04_Mk.f (k + 1) a0 a1) := by
 intro a0 a1 k
 unfold gnomonref04_Mk.f
 repeat' first
   | (with_reducible exact gnomonref01_Norm.mono _ _)
   | (with_reducible exact LeO.refl _)
   | (with_reducible exact LeO.none _)
   | (with_reducible refine LeO.ite ?_ ?_)
   | (with_reducible refine LeO.bind ?_ (fun _ => ?_))
   | exact gnomonref01_Norm.mono _ _
   | exact LeO.none _
   | refine LeO.ite ?_ ?_
   | refine LeO.bind ?_ (fun _ => ?_)
theorem gnomonref04_Mk.c {k : Nat} {a0 : Bool} {l1 : List Int} {r : Bool × List Int} (h : gnomonref04_Mk.f k a0 l1 = some r) : Con Tryz.prog Gw 131 [.s (.b a0), .s (.sl .u32 l1)] (· = .ag [.b r.1, .sl .u32 r.2]) := by
 unfold gnomonref04_Mk.f at h
 obtain ⟨t167, A1, h⟩ := bnd h
 rcases ite_e h with ⟨c2, h⟩ | ⟨c2, h⟩
 ·have h := si h; subst h
  exact pth Tryz.func131 [.r (.s (.sl .u32 t167)), .br true, .br true, .br true, .br true] (fun e => ai (gnomonref01_Norm.c A1) (ai c2 (ai c2 (ai c2 (ai c2 e))))) (by kernel_rfl)
 ·have h := si h; subst h
  exact pth Tryz.func131 [.r (.s (.sl .u32 t167)), .br false, .br false, .br false, .br false] (fun e => ai (gnomonref01_Norm.c A1) (ai (z0 c2) (ai (z0 c2) (ai (z0 c2) (ai (z0 c2) e))))) (by kernel_rfl)
mutual
def gnomonref05_Told.j0 : Nat → Int → Bool → Bool → List Int → Option (Bool × List Int × Int × Int)
 | 0, _, _, _, _ => none
 | k + 1, x1, x18, x171000, x171001 => if x18 = true then (some (false, ([] : List Int), 0, 5)) else ((gnomonref01_Zeros.f k x171001).bind fun t172 => ((gnomonref01_Shr.f k x171001 t172).bind fun t173 => (if (t173.length : Int) > 16384 then (gnomonref05_Told.j1 k x1 t172 t173 true x171000 x171001) else (if (wrap64 (x1 + t172)) < (-1048576) then (gnomonref05_Told.j1 k x1 t172 t173 true x171000 x171001) else (gnomonref05_Told.j1 k x1 t172 t173 (decide ((wrap64 (x1 + t172)) > 1048576)) x171000 x171001)))))
def gnomonref05_Told.j1 : Nat → Int → Int → List Int → Bool → Bool → List Int → Option (Bool × List Int × Int × Int)
 | 0, _, _, _, _, _, _ => none
 | k + 1, x1, x6, x7, x41, x171000, x171001 => if x41 = true then (some (false, ([] : List Int), 0, 5)) else ((gnomonref04_Mk.f k x171000 x7).bind fun bt176 => ((gnomonref04_To.f k bt176.1 bt176.2).bind fun bt180 => (some (bt180.1, bt180.2, wrap64 (x1 + x6), 0))))
end
def gnomonref05_Told.f (k : Nat) (a0_0 : Bool) (l0_1 : List Int) (a1 : Int) : Option (Bool × List Int × Int × Int) := if (l0_1.length : Int) = 0 then (some (false, ([] : List Int), 0, 0)) else (if a1 > 1048576 then (gnomonref05_Told.j0 k a1 true a0_0 l0_1) else (gnomonref05_Told.j0 k a1 (decide (a1 < (-1099511627776))) a0_0 l0_1))
theorem gnomonref05_Told.mono_l : ∀ k, (∀ y0 y1 y2 y3, LeO (gnomonref05_Told.j0 k y0 y1 y2 y3) (gnomonref05_Told.j0 (k + 1) y0 y1 y2 y3)) ∧ (∀ y0 y1 y2 y3 y4 y5, LeO (gnomonref05_Told.j1 k y0 y1 y2 y3 y4 y5) (gnomonref05_Told.j1 (k + 1) y0 y1 y2 y3 y4 y5))
 | 0 => ⟨fun _ _ _ _ r h => by simp [gnomonref05_Told.j0] at h, fun _ _ _ _ _ _ r h => by simp [gnomonref05_Told.j1] at h⟩
 | k + 1 => by
  obtain ⟨ih0, ih1⟩ := gnomonref05_Told.mono_l k
  refine ⟨?_, ?_⟩
  ·intro y0 y1 y2 y3
   unfold gnomonref05_Told.j0
   repeat' first
   | (with_reducible exact ih0 _ _ _ _)
   | (with_reducible exact ih1 _ _ _ _ _ _)
   | (with_reducible exact gnomonref01_Shr.mono _ _ _)
   | (with_reducible exact gnomonref01_Zeros.mono _ _)
   | (with_reducible exact gnomonref04_Mk.mono _ _ _)
   | (with_reducible exact gnomonref04_To.mono _ _ _)
   | (with_reducible exact LeO.refl _)
   | (with_reducible exact LeO.none _)
   | (with_reducible refine LeO.ite ?_ ?_)
   | (with_reducible refine LeO.bind ?_ (fun _ => ?_))
   | exact ih0 _ _ _ _
   | exact ih1 _ _ _ _ _ _
   | exact gnomonref01_Shr.mono _ _ _
   | exact gnomonref01_Zeros.mono _ _
   | exact gnomonref04_Mk.mono _ _ _
   | exact gnomonref04_To.mono _ _ _
   | exact LeO.none _
   | refine LeO.ite ?_ ?_
   | refine LeO.bind ?_ (fun _ => ?_)
  ·intro y0 y1 y2 y3 y4 y5
   unfold gnomonref05_Told.j1
   repeat' first
   | (with_reducible exact ih0 _ _ _ _)
   | (with_reducible exact ih1 _ _ _ _ _ _)
   | (with_reducible exact gnomonref01_Shr.mono _ _ _)
   | (with_reducible exact gnomonref01_Zeros.mono _ _)
   | (with_reducible exact gnomonref04_Mk.mono _ _ _)
   | (with_reducible exact gnomonref04_To.mono _ _ _)
   | (with_reducible exact LeO.refl _)
   | (with_reducible exact LeO.none _)
   | (with_reducible refine LeO.ite ?_ ?_)
   | (with_reducible refine LeO.bind ?_ (fun _ => ?_))
   | exact ih0 _ _ _ _
   | exact ih1 _ _ _ _ _ _
   | exact gnomonref01_Shr.mono _ _ _
   | exact gnomonref01_Zeros.mono _ _
   | exact gnomonref04_Mk.mono _ _ _
   | exact gnomonref04_To.mono _ _ _
   | exact LeO.none _
   | refine LeO.ite ?_ ?_
   | refine LeO.bind ?_ (fun _ => ?_)
theorem gnomonref05_Told.mono : ∀ a0 a1 a2 k, LeO (gnomonref05_Told.f k a0 a1 a2) (gnomonref05_Told.f (k + 1) a0 a1 a2) := by
 intro a0 a1 a2 k
 obtain ⟨ih0, ih1⟩ := gnomonref05_Told.mono_l k
 unfold gnomonref05_Told.f
 repeat' first
   | (with_reducible exact ih0 _ _ _ _)
   | (with_reducible exact ih1 _ _ _ _ _ _)
   | (with_reducible exact gnomonref01_Shr.mono _ _ _)
   | (with_reducible exact gnomonref01_Zeros.mono _ _)
   | (with_reducible exact gnomonref04_Mk.mono _ _ _)
   | (with_reducible exact gnomonref04_To.mono _ _ _)
   | (with_reducible exact LeO.refl _)
   | (with_reducible exact LeO.none _)
   | (with_reducible refine LeO.ite ?_ ?_)
   | (with_reducible refine LeO.bind ?_ (fun _ => ?_))
   | exact ih0 _ _ _ _
   | exact ih1 _ _ _ _ _ _
   | exact gnomonref01_Shr.mono _ _ _
   | exact gnomonref01_Zeros.mono _ _
   | exact gnomonref04_Mk.mono _ _ _
   | exact gnomonref04_To.mono _ _ _
   | exact LeO.none _
   | refine LeO.ite ?_ ?_
   | refine LeO.bind ?_ (fun _ => ?_)
theorem gnomonref05_Told.jc : ∀ k : Nat, (∀ (x1 : Int) (x18 : Bool) (x171000 : Bool) (x171001 : List Int) (r : Bool × List Int × Int × Int), gnomonref05_Told.j0 k x1 x18 x171000 x171001 = some r → Fin Tryz.prog Gw 86 (nav (bodyOf Tryz.f86) [1, 1, 0, 1] []) ⟨mkT 52 [(1, .s (.i .i64 x1)), (2, .s (.lo 0 0)), (4, .s (.lo 1 0)), (18, .s (.b x18))], [some (124, [.b x171000, .sl .u32 x171001]), some (26, [.b false, .sl .u64 ([]), .i .i64 0])]⟩ (· = .tu [.ag [.b r.1, .sl .u64 r.2.1, .i .i64 r.2.2.1], .s (.i .i64 r.2.2.2)])) ∧ (∀ (x1 : Int) (x6 : Int) (x7 : List Int) (x41 : Bool) (x171000 : Bool) (x171001 : List Int) (r : Bool × List Int × Int × Int), gnomonref05_Told.j1 k x1 x6 x7 x41 x171000 x171001 = some r → Fin Tryz.prog Gw 86 (nav (bodyOf Tryz.f86) [1, 1, 1, 1, 1, 0, 1] []) ⟨mkT 52 [(1, .s (.i .i64 x1)), (2, .s (.lo 0 0)), (4, .s (.lo 1 0)), (6, .s (.i .i64 x6)), (7, .s (.sl .u32 x7)), (41, .s (.b x41))], [some (124, [.b x171000, .sl .u32 x171001]), some (26, [.b false, .sl .u64 ([]), .i .i64 0])]⟩ (· = .tu [.ag [.b r.1, .sl .u64 r.2.1, .i .i64 r.2.2.1], .s (.i .i64 r.2.2.2)]))
 | 0 => ⟨(fun _ _ _ _ _ h => nn h), (fun _ _ _ _ _ _ _ h => nn h)⟩
 | k + 1 => by
  have ih := gnomonref05_Told.jc k
  refine ⟨?_, ?_⟩
  ·intro x1 x18 x171000 x171001 r h
   rw [gnomonref05_Told.j0] at h
   rcases ite_e h with ⟨c1, h⟩ | ⟨c1, h⟩
   ·have h := si h; subst h
    exact jth Tryz.func86 [.br true] (fun e => ai c1 e) (by kernel_rfl)
   ·obtain ⟨t172, A2, h⟩ := bnd h
    obtain ⟨t173, A3, h⟩ := bnd h
    rcases ite_e h with ⟨c4, h⟩ | ⟨c4, h⟩
    ·exact jth Tryz.func86 [.br false, .r (.s (.i .i64 t172)), .r (.s (.sl .u32 t173)), .br true, .br true, .br true, .br true, .br true, .br true, .br true, .br true, .br true, .br true, .cut 0 [1, 2, 4, 6, 7, 41] [0, 1] []] (fun _ => ai (z0 c1) (ai (gnomonref01_Zeros.c A2) (ai (gnomonref01_Shr.c A3) (ai (d1 c4) (ai (d1 c4) (ai (d1 c4) (ai (d1 c4) (ai (d1 c4) (ai tt (ai tt (ai tt (ai tt (ai tt (ih.2 _ _ _ _ _ _ _ h)))))))))))))) (by kernel_rfl)
    ·rcases ite_e h with ⟨c5, h⟩ | ⟨c5, h⟩
     ·exact jth Tryz.func86 [.br false, .r (.s (.i .i64 t172)), .r (.s (.sl .u32 t173)), .br false, .br false, .br false, .br false, .br false, .br true, .br true, .br true, .br true, .br true, .cut 0 [1, 2, 4, 6, 7, 41] [0, 1] []] (fun _ => ai (z0 c1) (ai (gnomonref01_Zeros.c A2) (ai (gnomonref01_Shr.c A3) (ai (d0 c4) (ai (d0 c4) (ai (d0 c4) (ai (d0 c4) (ai (d0 c4) (ai (d1 c5) (ai (d1 c5) (ai (d1 c5) (ai (d1 c5) (ai (d1 c5) (ih.2 _ _ _ _ _ _ _ h)))))))))))))) (by kernel_rfl)
     ·exact jth Tryz.func86 [.br false, .r (.s (.i .i64 t172)), .r (.s (.sl .u32 t173)), .br false, .br false, .br false, .br false, .br false, .br false, .br false, .br false, .br false, .br false, .cut 0 [1, 2, 4, 6, 7, 41] [0, 1] []] (fun _ => ai (z0 c1) (ai (gnomonref01_Zeros.c A2) (ai (gnomonref01_Shr.c A3) (ai (d0 c4) (ai (d0 c4) (ai (d0 c4) (ai (d0 c4) (ai (d0 c4) (ai (d0 c5) (ai (d0 c5) (ai (d0 c5) (ai (d0 c5) (ai (d0 c5) (ih.2 _ _ _ _ _ _ _ h)))))))))))))) (by kernel_rfl)
  ·intro x1 x6 x7 x41 x171000 x171001 r h
   rw [gnomonref05_Told.j1] at h
   rcases ite_e h with ⟨c1, h⟩ | ⟨c1, h⟩
   ·have h := si h; subst h
    exact jth Tryz.func86 [.br true] (fun e => ai c1 e) (by kernel_rfl)
   ·obtain ⟨bt176, A2, h⟩ := bnd h
    obtain ⟨bt180, A3, h⟩ := bnd h
    have h := si h; subst h
    exact jth Tryz.func86 [.br false, .r (.ag [.b bt176.1, .sl .u32 bt176.2]), .r (.ag [.b bt180.1, .sl .u64 bt180.2])] (fun e => ai (z0 c1) (ai (gnomonref04_Mk.c A2) (ai (gnomonref04_To.c A3) e))) (by kernel_rfl)
theorem gnomonref05_Told.c {k : Nat} {a0_0 : Bool} {l0_1 : List Int} {a1 : Int} {r : Bool × List Int × Int × Int} (h : gnomonref05_Told.f k a0_0 l0_1 a1 = some r) : Con Tryz.prog Gw 86 [.ag [.b a0_0, .sl .u32 l0_1], .s (.i .i64 a1)] (· = .tu [.ag [.b r.1, .sl .u64 r.2.1, .i .i64 r.2.2.1], .s (.i .i64 r.2.2.2)]) := by
 unfold gnomonref05_Told.f at h
 rcases ite_e h with ⟨c1, h⟩ | ⟨c1, h⟩
 ·have h := si h; subst h
  exact pth Tryz.func86 [.br true] (fun e => ai (q1 c1) e) (by kernel_rfl)
 ·rcases ite_e h with ⟨c2, h⟩ | ⟨c2, h⟩
  ·exact pth Tryz.func86 [.br false, .br true, .br true, .br true, .cut 0 [1, 2, 4, 18] [0, 1] []] (fun _ => ai (q0 c1) (ai (d1 c2) (ai (d1 c2) (ai (d1 c2) ((gnomonref05_Told.jc k).1 _ _ _ _ _ h))))) (by kernel_rfl)
  ·exact pth Tryz.func86 [.br false, .br false, .br false, .br false, .cut 0 [1, 2, 4, 18] [0, 1] []] (fun _ => ai (q0 c1) (ai (d0 c2) (ai (d0 c2) (ai (d0 c2) ((gnomonref05_Told.jc k).1 _ _ _ _ _ h))))) (by kernel_rfl)
def gnomonref04_From.f (k : Nat) (a0_0 : Bool) (l0_1 : List Int) : Option (Bool × List Int) := (gnomonref01_From.f k l0_1).bind fun t200 => ((gnomonref04_Mk.f k a0_0 t200).bind fun bt203 => (some (bt203.1, bt203.2)))
theorem gnomonref04_From.mono : ∀ a0 a1 k, LeO (gnomonref04_From.f k a0 a1) (gnomonref04_From.f (k + 1) a0 a1) := by
 intro a0 a1 k
 unfold gnomonref04_From.f
 repeat' first
   | (with_reducible exact gnomonref01_From.mono _ _)
   | (with_reducible exact gnomonref04_Mk.mono _ _ _)
   | (with_reducible exact LeO.refl _)
   | (with_reducible exact LeO.none _)
   | (with_reducible refine LeO.ite ?_ ?_)
   | (with_reducible refine LeO.bind ?_ (fun _ => ?_))
   | exact gnomonref01_From.mono _ _
   | exact gnomonref04_Mk.mono _ _ _
   | exact LeO.none _
   | refine LeO.ite ?_ ?_
   | refine LeO.bind ?_ (fun _ => ?_)
theorem gnomonref04_From.c {k : Nat} {a0_0 : Bool} {l0_1 : List Int} {r : Bool × List Int} (h : gnomonref04_From.f k a0_0 l0_1 = some r) : Con Tryz.prog Gw 87 [.ag [.b a0_0, .sl .u64 l0_1]] (· = .ag [.b r.1, .sl .u32 r.2]) := by
 unfold gnomonref04_From.f at h
 obtain ⟨t200, A1, h⟩ := bnd h
 obtain ⟨bt203, A2, h⟩ := bnd h
 have h := si h; subst h
 exact pth Tryz.func87 [.r (.s (.sl .u32 t200)), .r (.ag [.b bt203.1, .sl .u32 bt203.2])] (fun e => ai (gnomonref01_From.c A1) (ai (gnomonref04_Mk.c A2) e)) (by kernel_rfl)
def gnomonref05_DocScale.j0 : Nat → Int → Bool → Bool → List Int → Int → Option (Bool × List Int × Int × Int)
 | 0, _, _, _, _, _ => none
 | k + 1, x1, x18, x208000, x208001, x208002 => if x18 = true then (some (false, ([] : List Int), 0, 5)) else ((gnomonref04_From.f k x208000 x208001).bind fun bt211 => ((gnomonref05_Told.f k bt211.1 bt211.2 (wrap64 (x208002 + x1))).bind fun bt215 => (some (bt215.1, bt215.2.1, bt215.2.2.1, bt215.2.2.2))))
def gnomonref05_DocScale.f (k : Nat) (a0_0 : Bool) (l0_1 : List Int) (a0_2 : Int) (a1 : Int) : Option (Bool × List Int × Int × Int) := (gnomonref05_DocForm.f k a0_0 l0_1 a0_2).bind fun t209 => (if t209 = true then ((gnomonref05_Nought.f a0_0 l0_1 a0_2).bind fun t210 => (if t210 = true then (some (false, ([] : List Int), 0, 0)) else (if a1 > 2097152 then (gnomonref05_DocScale.j0 k a1 true a0_0 l0_1 a0_2) else (gnomonref05_DocScale.j0 k a1 (decide (a1 < (-2097152))) a0_0 l0_1 a0_2)))) else (some (false, ([] : List Int), 0, 2)))
theorem gnomonref05_DocScale.mono_l : ∀ k, (∀ y0 y1 y2 y3 y4, LeO (gnomonref05_DocScale.j0 k y0 y1 y2 y3 y4) (gnomonref05_DocScale.j0 (k + 1) y0 y1 y2 y3 y4))
 | 0 => fun _ _ _ _ _ r h => by simp [gnomonref05_DocScale.j0] at h
 | k + 1 => by
  have ih0 := gnomonref05_DocScale.mono_l k
  ·intro y0 y1 y2 y3 y4
   unfold gnomonref05_DocScale.j0
   repeat' first
   | (with_reducible exact ih0 _ _ _ _ _)
   | (with_reducible exact gnomonref04_From.mono _ _ _)
   | (with_reducible exact gnomonref05_DocForm.mono _ _ _ _)
   | (with_reducible exact gnomonref05_Told.mono _ _ _ _)
   | (with_reducible exact LeO.refl _)
   | (with_reducible exact LeO.none _)
   | (with_reducible refine LeO.ite ?_ ?_)
   | (with_reducible refine LeO.bind ?_ (fun _ => ?_))
   | exact ih0 _ _ _ _ _
   | exact gnomonref04_From.mono _ _ _
   | exact gnomonref05_DocForm.mono _ _ _ _
   | exact gnomonref05_Told.mono _ _ _ _
   | exact LeO.none _
   | refine LeO.ite ?_ ?_
   | refine LeO.bind ?_ (fun _ => ?_)
theorem gnomonref05_DocScale.mono : ∀ a0 a1 a2 a3 k, LeO (gnomonref05_DocScale.f k a0 a1 a2 a3) (gnomonref05_DocScale.f (k + 1) a0 a1 a2 a3) := by
 intro a0 a1 a2 a3 k
 have ih0 := gnomonref05_DocScale.mono_l k
 unfold gnomonref05_DocScale.f
 repeat' first
   | (with_reducible exact ih0 _ _ _ _ _)
   | (with_reducible exact gnomonref04_From.mono _ _ _)
   | (with_reducible exact gnomonref05_DocForm.mono _ _ _ _)
   | (with_reducible exact gnomonref05_Told.mono _ _ _ _)
   | (with_reducible exact LeO.refl _)
   | (with_reducible exact LeO.none _)
   | (with_reducible refine LeO.ite ?_ ?_)
   | (with_reducible refine LeO.bind ?_ (fun _ => ?_))
   | exact ih0 _ _ _ _ _
   | exact gnomonref04_From.mono _ _ _
   | exact gnomonref05_DocForm.mono _ _ _ _
   | exact gnomonref05_Told.mono _ _ _ _
   | exact LeO.none _
   | refine LeO.ite ?_ ?_
   | refine LeO.bind ?_ (fun _ => ?_)
theorem gnomonref05_DocScale.jc : ∀ k : Nat, (∀ (x1 : Int) (x18 : Bool) (x208000 : Bool) (x208001 : List Int) (x208002 : Int) (r : Bool × List Int × Int × Int), gnomonref05_DocScale.j0 k x1 x18 x208000 x208001 x208002 = some r → Fin Tryz.prog Gw 42 (nav (bodyOf Tryz.f42) [1, 1, 1, 0, 1] []) ⟨mkT 30 [(1, .s (.i .i64 x1)), (2, .s (.lo 0 0)), (4, .s (.lo 1 0)), (18, .s (.b x18))], [some (26, [.b x208000, .sl .u64 x208001, .i .i64 x208002]), some (26, [.b false, .sl .u64 ([]), .i .i64 0])]⟩ (· = .tu [.ag [.b r.1, .sl .u64 r.2.1, .i .i64 r.2.2.1], .s (.i .i64 r.2.2.2)]))
 | 0 => (fun _ _ _ _ _ _ h => nn h)
 | k + 1 => by
  have ih := gnomonref05_DocScale.jc k
  ·intro x1 x18 x208000 x208001 x208002 r h
   rw [gnomonref05_DocScale.j0] at h
   rcases ite_e h with ⟨c1, h⟩ | ⟨c1, h⟩
   ·have h := si h; subst h
    exact jth Tryz.func42 [.br true] (fun e => ai c1 e) (by kernel_rfl)
   ·obtain ⟨bt211, A2, h⟩ := bnd h
    obtain ⟨bt215, A3, h⟩ := bnd h
    have h := si h; subst h
    exact jth Tryz.func42 [.br false, .r (.ag [.b bt211.1, .sl .u32 bt211.2]), .r (.tu [.ag [.b bt215.1, .sl .u64 bt215.2.1, .i .i64 bt215.2.2.1], .s (.i .i64 bt215.2.2.2)])] (fun e => ai (z0 c1) (ai (gnomonref04_From.c A2) (ai (gnomonref05_Told.c A3) e))) (by kernel_rfl)
theorem gnomonref05_DocScale.c {k : Nat} {a0_0 : Bool} {l0_1 : List Int} {a0_2 : Int} {a1 : Int} {r : Bool × List Int × Int × Int} (h : gnomonref05_DocScale.f k a0_0 l0_1 a0_2 a1 = some r) : Con Tryz.prog Gw 42 [.ag [.b a0_0, .sl .u64 l0_1, .i .i64 a0_2], .s (.i .i64 a1)] (· = .tu [.ag [.b r.1, .sl .u64 r.2.1, .i .i64 r.2.2.1], .s (.i .i64 r.2.2.2)]) := by
 unfold gnomonref05_DocScale.f at h
 obtain ⟨t209, A1, h⟩ := bnd h
 rcases ite_e h with ⟨c2, h⟩ | ⟨c2, h⟩
 ·obtain ⟨t210, A3, h⟩ := bnd h
  rcases ite_e h with ⟨c4, h⟩ | ⟨c4, h⟩
  ·have h := si h; subst h
   exact pth Tryz.func42 [.r (.s (.b t209)), .br false, .r (.s (.b t210)), .br true] (fun e => ai (gnomonref05_DocForm.c A1) (ai (nt1 c2) (ai (gnomonref05_Nought.c A3) (ai c4 e)))) (by kernel_rfl)
  ·rcases ite_e h with ⟨c5, h⟩ | ⟨c5, h⟩
   ·exact pth Tryz.func42 [.r (.s (.b t209)), .br false, .r (.s (.b t210)), .br false, .br true, .br true, .br true, .cut 0 [1, 2, 4, 18] [0, 1] []] (fun _ => ai (gnomonref05_DocForm.c A1) (ai (nt1 c2) (ai (gnomonref05_Nought.c A3) (ai (z0 c4) (ai (d1 c5) (ai (d1 c5) (ai (d1 c5) (gnomonref05_DocScale.jc k _ _ _ _ _ _ h)))))))) (by kernel_rfl)
   ·exact pth Tryz.func42 [.r (.s (.b t209)), .br false, .r (.s (.b t210)), .br false, .br false, .br false, .br false, .cut 0 [1, 2, 4, 18] [0, 1] []] (fun _ => ai (gnomonref05_DocForm.c A1) (ai (nt1 c2) (ai (gnomonref05_Nought.c A3) (ai (z0 c4) (ai (d0 c5) (ai (d0 c5) (ai (d0 c5) (gnomonref05_DocScale.jc k _ _ _ _ _ _ h)))))))) (by kernel_rfl)
 ·have h := si h; subst h
  exact pth Tryz.func42 [.r (.s (.b t209)), .br true] (fun e => ai (gnomonref05_DocForm.c A1) (ai (nt0 (z0 c2)) e)) (by kernel_rfl)
def gnomonref04_Of.f (k : Nat) (a0 : Int) : Option (Bool × List Int) := if a0 < 0 then ((gnomonref01_Word.f k (IntKind.u64.wrap (wrap64 (-(wrap64 (a0 + 1)))))).bind fun t236 => ((gnomonref01_Word.f k 1).bind fun t239 => ((gnomonref01_Add.f k t236 t239).bind fun t242 => ((gnomonref04_Mk.f k true t242).bind fun bt245 => (some (bt245.1, bt245.2)))))) else ((gnomonref01_Word.f k (IntKind.u64.wrap (a0))).bind fun t249 => ((gnomonref04_Mk.f k false t249).bind fun bt252 => (some (bt252.1, bt252.2))))
theorem gnomonref04_Of.mono : ∀ a0 k, LeO (gnomonref04_Of.f k a0) (gnomonref04_Of.f (k + 1) a0) := by
 intro a0 k
 unfold gnomonref04_Of.f
 repeat' first
   | (with_reducible exact gnomonref01_Add.mono _ _ _)
   | (with_reducible exact gnomonref01_Word.mono _ _)
   | (with_reducible exact gnomonref04_Mk.mono _ _ _)
   | (with_reducible exact LeO.refl _)
   | (with_reducible exact LeO.none _)
   | (with_reducible refine LeO.ite ?_ ?_)
   | (with_reducible refine LeO.bind ?_ (fun _ => ?_))
   | exact gnomonref01_Add.mono _ _ _
   | exact gnomonref01_Word.mono _ _
   | exact gnomonref04_Mk.mono _ _ _
   | exact LeO.none _
   | refine LeO.ite ?_ ?_
   | refine LeO.bind ?_ (fun _ => ?_)
theorem gnomonref04_Of.c {k : Nat} {a0 : Int} {r : Bool × List Int} (h : gnomonref04_Of.f k a0 = some r) : Con Tryz.prog Gw 88 [.s (.i .i64 a0)] (· = .ag [.b r.1, .sl .u32 r.2]) := by
 unfold gnomonref04_Of.f at h
 rcases ite_e h with ⟨c1, h⟩ | ⟨c1, h⟩
 ·obtain ⟨t236, A2, h⟩ := bnd h
  obtain ⟨t239, A3, h⟩ := bnd h
  obtain ⟨t242, A4, h⟩ := bnd h
  obtain ⟨bt245, A5, h⟩ := bnd h
  have h := si h; subst h
  exact pth Tryz.func88 [.br true, .r (.s (.sl .u32 t236)), .r (.s (.sl .u32 t239)), .r (.s (.sl .u32 t242)), .r (.ag [.b bt245.1, .sl .u32 bt245.2])] (fun e => ai (d1 c1) (ai (gnomonref01_Word.c A2) (ai (gnomonref01_Word.c A3) (ai (gnomonref01_Add.c A4) (ai (gnomonref04_Mk.c A5) e))))) (by kernel_rfl)
 ·obtain ⟨t249, A6, h⟩ := bnd h
  obtain ⟨bt252, A7, h⟩ := bnd h
  have h := si h; subst h
  exact pth Tryz.func88 [.br false, .r (.s (.sl .u32 t249)), .r (.ag [.b bt252.1, .sl .u32 bt252.2])] (fun e => ai (d0 c1) (ai (gnomonref01_Word.c A6) (ai (gnomonref04_Mk.c A7) e))) (by kernel_rfl)
def gnomonref05_DocOf.f (k : Nat) (a0 : Int) : Option (Bool × List Int × Int) := (gnomonref04_Of.f k a0).bind fun bt257 => ((gnomonref05_Told.f k bt257.1 bt257.2 0).bind fun bt261 => (some (bt261.1, bt261.2.1, bt261.2.2.1)))
theorem gnomonref05_DocOf.mono : ∀ a0 k, LeO (gnomonref05_DocOf.f k a0) (gnomonref05_DocOf.f (k + 1) a0) := by
 intro a0 k
 unfold gnomonref05_DocOf.f
 repeat' first
   | (with_reducible exact gnomonref04_Of.mono _ _)
   | (with_reducible exact gnomonref05_Told.mono _ _ _ _)
   | (with_reducible exact LeO.refl _)
   | (with_reducible exact LeO.none _)
   | (with_reducible refine LeO.ite ?_ ?_)
   | (with_reducible refine LeO.bind ?_ (fun _ => ?_))
   | exact gnomonref04_Of.mono _ _
   | exact gnomonref05_Told.mono _ _ _ _
   | exact LeO.none _
   | refine LeO.ite ?_ ?_
   | refine LeO.bind ?_ (fun _ => ?_)
theorem gnomonref05_DocOf.c {k : Nat} {a0 : Int} {r : Bool × List Int × Int} (h : gnomonref05_DocOf.f k a0 = some r) : Con Tryz.prog Gw 43 [.s (.i .i64 a0)] (· = .ag [.b r.1, .sl .u64 r.2.1, .i .i64 r.2.2]) := by
 unfold gnomonref05_DocOf.f at h
 obtain ⟨bt257, A1, h⟩ := bnd h
 obtain ⟨bt261, A2, h⟩ := bnd h
 have h := si h; subst h
 exact pth Tryz.func43 [.r (.ag [.b bt257.1, .sl .u32 bt257.2]), .r (.tu [.ag [.b bt261.1, .sl .u64 bt261.2.1, .i .i64 bt261.2.2.1], .s (.i .i64 bt261.2.2.2)])] (fun e => ai (gnomonref04_Of.c A1) (ai (gnomonref05_Told.c A2) e)) (by kernel_rfl)
def gnomonlaw08_num.f (k : Nat) (a0 : Int) (a1 : Int) : Option (Bool × List Int × Int) := (gnomonref05_DocOf.f k a0).bind fun bt269 => ((gnomonref05_DocScale.f k bt269.1 bt269.2.1 bt269.2.2 a1).bind fun bt274 => (some (bt274.1, bt274.2.1, bt274.2.2.1)))
theorem gnomonlaw08_num.mono : ∀ a0 a1 k, LeO (gnomonlaw08_num.f k a0 a1) (gnomonlaw08_num.f (k + 1) a0 a1) := by
 intro a0 a1 k
 unfold gnomonlaw08_num.f
 repeat' first
   | (with_reducible exact gnomonref05_DocOf.mono _ _)
   | (with_reducible exact gnomonref05_DocScale.mono _ _ _ _ _)
   | (with_reducible exact LeO.refl _)
   | (with_reducible exact LeO.none _)
   | (with_reducible refine LeO.ite ?_ ?_)
   | (with_reducible refine LeO.bind ?_ (fun _ => ?_))
   | exact gnomonref05_DocOf.mono _ _
   | exact gnomonref05_DocScale.mono _ _ _ _ _
   | exact LeO.none _
   | refine LeO.ite ?_ ?_
   | refine LeO.bind ?_ (fun _ => ?_)
theorem gnomonlaw08_num.c {k : Nat} {a0 : Int} {a1 : Int} {r : Bool × List Int × Int} (h : gnomonlaw08_num.f k a0 a1 = some r) : Con Tryz.prog Gw 12 [.s (.i .i64 a0), .s (.i .i64 a1)] (· = .ag [.b r.1, .sl .u64 r.2.1, .i .i64 r.2.2]) := by
 unfold gnomonlaw08_num.f at h
 obtain ⟨bt269, A1, h⟩ := bnd h
 obtain ⟨bt274, A2, h⟩ := bnd h
 have h := si h; subst h
 exact pth Tryz.func12 [.r (.ag [.b bt269.1, .sl .u64 bt269.2.1, .i .i64 bt269.2.2]), .r (.tu [.ag [.b bt274.1, .sl .u64 bt274.2.1, .i .i64 bt274.2.2.1], .s (.i .i64 bt274.2.2.2)])] (fun e => ai (gnomonref05_DocOf.c A1) (ai (gnomonref05_DocScale.c A2) e)) (by kernel_rfl)
def gnomonlaw08_awake.f (k : Nat)  : Option (Bool) := (gnomonlaw08_num.f k 9007199254740995 0).bind fun bt667 => ((round_Nearest.f k 64 bt667.1 bt667.2.1 bt667.2.2).bind fun bt672 => ((gnomonlaw08_num.f k (-1) 0).bind fun bt674 => ((round_Nearest.f k 32 bt674.1 bt674.2.1 bt674.2.2).bind fun bt679 => (if bt672.1 = 4845873199050653698 then (if bt672.2 = 0 then (if bt679.1 = 3212836864 then (some (bt679.2 == 0)) else (some false)) else (some false)) else (some false)))))
theorem gnomonlaw08_awake.mono : ∀ k, LeO (gnomonlaw08_awake.f k ) (gnomonlaw08_awake.f (k + 1) ) := by
 intro  k
 unfold gnomonlaw08_awake.f
 repeat' first
   | (with_reducible exact gnomonlaw08_num.mono _ _ _)
   | (with_reducible exact round_Nearest.mono _ _ _ _ _)
   | (with_reducible exact LeO.refl _)
   | (with_reducible exact LeO.none _)
   | (with_reducible refine LeO.ite ?_ ?_)
   | (with_reducible refine LeO.bind ?_ (fun _ => ?_))
   | exact gnomonlaw08_num.mono _ _ _
   | exact round_Nearest.mono _ _ _ _ _
   | exact LeO.none _
   | refine LeO.ite ?_ ?_
   | refine LeO.bind ?_ (fun _ => ?_)
theorem gnomonlaw08_awake.c {k : Nat} {r : Bool} (h : gnomonlaw08_awake.f k = some r) : Con Tryz.prog Gw 13 [] (· = .s (.b r)) := by
 unfold gnomonlaw08_awake.f at h
 obtain ⟨bt667, A1, h⟩ := bnd h
 obtain ⟨bt672, A2, h⟩ := bnd h
 obtain ⟨bt674, A3, h⟩ := bnd h
 obtain ⟨bt679, A4, h⟩ := bnd h
 rcases ite_e h with ⟨c5, h⟩ | ⟨c5, h⟩
 ·rcases ite_e h with ⟨c6, h⟩ | ⟨c6, h⟩
  ·rcases ite_e h with ⟨c7, h⟩ | ⟨c7, h⟩
   ·have h := si h; subst h
    exact pth Tryz.func13 [.r (.ag [.b bt667.1, .sl .u64 bt667.2.1, .i .i64 bt667.2.2]), .r (.tu [.s (.i .u64 bt672.1), .s (.i .i64 bt672.2)]), .r (.ag [.b bt674.1, .sl .u64 bt674.2.1, .i .i64 bt674.2.2]), .r (.tu [.s (.i .u64 bt679.1), .s (.i .i64 bt679.2)]), .br true, .br true, .br true, .br true, .br true, .br true, .br true, .br true, .br true] (fun e => ai (gnomonlaw08_num.c A1) (ai (round_Nearest.c A2) (ai (gnomonlaw08_num.c A3) (ai (round_Nearest.c A4) (ai (q1 c5) (ai (q1 c5) (ai (q1 c5) (ai (q1 c6) (ai (q1 c6) (ai (q1 c6) (ai (q1 c7) (ai (q1 c7) (ai (q1 c7) e))))))))))))) (by kernel_rfl)
   ·have h := si h; subst h
    exact pth Tryz.func13 [.r (.ag [.b bt667.1, .sl .u64 bt667.2.1, .i .i64 bt667.2.2]), .r (.tu [.s (.i .u64 bt672.1), .s (.i .i64 bt672.2)]), .r (.ag [.b bt674.1, .sl .u64 bt674.2.1, .i .i64 bt674.2.2]), .r (.tu [.s (.i .u64 bt679.1), .s (.i .i64 bt679.2)]), .br true, .br true, .br true, .br true, .br true, .br true, .br false, .br false, .br false] (fun e => ai (gnomonlaw08_num.c A1) (ai (round_Nearest.c A2) (ai (gnomonlaw08_num.c A3) (ai (round_Nearest.c A4) (ai (q1 c5) (ai (q1 c5) (ai (q1 c5) (ai (q1 c6) (ai (q1 c6) (ai (q1 c6) (ai (q0 c7) (ai (q0 c7) (ai (q0 c7) e))))))))))))) (by kernel_rfl)
  ·have h := si h; subst h
   exact pth Tryz.func13 [.r (.ag [.b bt667.1, .sl .u64 bt667.2.1, .i .i64 bt667.2.2]), .r (.tu [.s (.i .u64 bt672.1), .s (.i .i64 bt672.2)]), .r (.ag [.b bt674.1, .sl .u64 bt674.2.1, .i .i64 bt674.2.2]), .r (.tu [.s (.i .u64 bt679.1), .s (.i .i64 bt679.2)]), .br true, .br true, .br true, .br false, .br false, .br false, .br false, .br false, .br false] (fun e => ai (gnomonlaw08_num.c A1) (ai (round_Nearest.c A2) (ai (gnomonlaw08_num.c A3) (ai (round_Nearest.c A4) (ai (q1 c5) (ai (q1 c5) (ai (q1 c5) (ai (q0 c6) (ai (q0 c6) (ai (q0 c6) (ai ff (ai ff (ai ff e))))))))))))) (by kernel_rfl)
 ·have h := si h; subst h
  exact pth Tryz.func13 [.r (.ag [.b bt667.1, .sl .u64 bt667.2.1, .i .i64 bt667.2.2]), .r (.tu [.s (.i .u64 bt672.1), .s (.i .i64 bt672.2)]), .r (.ag [.b bt674.1, .sl .u64 bt674.2.1, .i .i64 bt674.2.2]), .r (.tu [.s (.i .u64 bt679.1), .s (.i .i64 bt679.2)]), .br false, .br false, .br false, .br false, .br false, .br false, .br false, .br false, .br false] (fun e => ai (gnomonlaw08_num.c A1) (ai (round_Nearest.c A2) (ai (gnomonlaw08_num.c A3) (ai (round_Nearest.c A4) (ai (q0 c5) (ai (q0 c5) (ai (q0 c5) (ai ff (ai ff (ai ff (ai ff (ai ff (ai ff e))))))))))))) (by kernel_rfl)
end Go.Proofs.YtelfmddcjlocpaaGreatDoor.PLib
