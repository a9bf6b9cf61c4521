/- Functions of the program as plain Lean functions (definitions as the print's), and that the machine's calls do what they do (contracts 'X.c', by Px). Condition: math/bits' table is laid. -/
import Derived.Test.YtelfmddcjlocpaaDoorKRoundInsidePxBr
import Derived.Test.YtelfmddcjlocpaaDoorKRoundInsidePRefx0
import Derived.Test.YtelfmddcjlocpaaDoorKRoundInsidePxRef
set_option linter.unusedVariables false
namespace Go.Proofs.YtelfmddcjlocpaaDoor.PLib
open Go Go.RowKit Go.Proofs.YtelfmddcjlocpaaDoorW.PrintWords Go.Proofs.YtelfmddcjlocpaaDoorW.PrintMore Go.Proofs.YtelfmddcjlocpaaDoor.Given Go.Proofs.YtelfmddcjlocpaaDoor.Px Go.Proofs.YtelfmddcjlocpaaDoor.PRef
def gnomonlaw08_format.f (a0 : Bool) : Option (Int) := if a0 = true then (some 32) else (some 64)
theorem gnomonlaw08_format.c {a0 : Bool} {r : Int} (h : gnomonlaw08_format.f a0 = some r) : Con Tryd.prog Gw 8 [.s (.b a0)] (· = .s (.i .i64 r)) := by
 unfold gnomonlaw08_format.f at h
 rcases ite_e h with ⟨c1, h⟩ | ⟨c1, h⟩
 ·have h := si h; subst h
  exact pth Tryd.func8 [.br true] (fun e => ai c1 e) (by kernel_rfl)
 ·have h := si h; subst h
  exact pth Tryd.func8 [.br false] (fun e => ai (z0 c1) e) (by kernel_rfl)
def gnomonref01_DocForm.f (l0 : List Int) : Option (Bool) := if (l0.length : Int) ≤ 8192 then (if (l0.length : Int) = 0 then (some true) else (if 0 ≤ (wrap64 ((l0.length : Int) - 1)) then (if (wrap64 ((l0.length : Int) - 1)) < (l0.length : Int) then (some ((rd l0 (wrap64 ((l0.length : Int) - 1))) != 0)) else (none)) else (none))) else (some false)
theorem gnomonref01_DocForm.c {l0 : List Int} {r : Bool} (h : gnomonref01_DocForm.f l0 = some r) : Con Tryd.prog Gw 38 [.s (.sl .u64 l0)] (· = .s (.b r)) := by
 unfold gnomonref01_DocForm.f at h
 rcases ite_e h with ⟨c1, h⟩ | ⟨c1, h⟩
 ·rcases ite_e h with ⟨c2, h⟩ | ⟨c2, h⟩
  ·have h := si h; subst h
   exact pth Tryd.func38 [.br true, .br true, .br true, .br true, .br true, .br true, .br true, .br true, .br true, .br true, .br true, .br true, .br true, .br true] (fun e => ai (d1 c1) (ai (d1 c1) (ai (d1 c1) (ai (d1 c1) (ai (q1 c2) (ai (q1 c2) (ai (q1 c2) (ai (q1 c2) (ai (q1 c2) (ai (q1 c2) (ai (q1 c2) (ai (d1 c1) (ai (q1 c2) (ai (d1 c1) e)))))))))))))) (by kernel_rfl)
  ·rcases ite_e h with ⟨c3, h⟩ | ⟨c3, h⟩
   ·rcases ite_e h with ⟨c4, h⟩ | ⟨c4, h⟩
    ·have h := si h; subst h
     exact pth Tryd.func38 [.br true, .br true, .br true, .br true, .br false, .br false, .br false, .br false, .br false, .br false, .br false, .br true, .br false, .br true] (fun e => ai (d1 c1) (ai (d1 c1) (ai (d1 c1) (ai (d1 c1) (ai (q0 c2) (ai (q0 c2) (ai (q0 c2) (ai (q0 c2) (ai (q0 c2) (ai c3 (ai c4 (ai (q0 c2) (ai (q0 c2) (ai (d1 c1) (ai (q0 c2) (ai (d1 c1) e)))))))))))))))) (by kernel_rfl)
    ·cases h
   ·cases h
 ·have h := si h; subst h
  exact pth Tryd.func38 [.br false, .br false, .br false, .br false, .br false, .br false] (fun e => ai (d0 c1) (ai (d0 c1) (ai (d0 c1) (ai (d0 c1) (ai (d0 c1) (ai (d0 c1) e)))))) (by kernel_rfl)
def gnomonref05_DocForm.j0 : Nat → Bool → Bool → List Int → Int → Option (Bool)
 | 0, _, _, _, _ => none
 | k + 1, x17, x103000, x103001, x103002 => if x17 = true then (some false) else (if (x103001.length : Int) = 0 then (if x103000 = true then (some false) else (some (x103002 == 0))) else (if 0 < (x103001.length : Int) then (some ((Go.bits .and .u64 (rd x103001 0) 1) == 1)) else (none)))
def gnomonref05_DocForm.f (k : Nat) (a0_0 : Bool) (l0_1 : List Int) (a0_2 : Int) : Option (Bool) := (gnomonref01_DocForm.f l0_1).bind fun t103 => (if t103 = true then (if a0_2 < (-1048576) then (gnomonref05_DocForm.j0 k true a0_0 l0_1 a0_2) else (gnomonref05_DocForm.j0 k (decide (a0_2 > 1048576)) a0_0 l0_1 a0_2)) else (gnomonref05_DocForm.j0 k true a0_0 l0_1 a0_2))
theorem gnomonref05_DocForm.mono_l : ∀ k, (∀ y0 y1 y2 y3, LeO (gnomonref05_DocForm.j0 k y0 y1 y2 y3) (gnomonref05_DocForm.j0 (k + 1) y0 y1 y2 y3))
 | 0 => fun _ _ _ _ r h => by simp [gnomonref05_DocForm.j0] at h
 | k + 1 => by
  have ih0 := gnomonref05_DocForm.mono_l k
  ·intro y0 y1 y2 y3
   unfold gnomonref05_DocForm.j0
   repeat' first
   | (with_reducible exact ih0 _ _ _ _)
   | (with_reducible exact LeO.refl _)
   | (with_reducible exact LeO.none _)
   | (with_reducible refine LeO.ite ?_ ?_)
   | (with_reducible refine LeO.bind ?_ (fun _ => ?_))
   | exact ih0 _ _ _ _
   | exact LeO.none _
   | refine LeO.ite ?_ ?_
   | refine LeO.bind ?_ (fun _ => ?_)
theorem gnomonref05_DocForm.mono : ∀ a0 a1 a2 k, LeO (gnomonref05_DocForm.f k a0 a1 a2) (gnomonref05_DocForm.f (k + 1) a0 a1 a2) := by
 intro a0 a1 a2 k
 have ih0 := gnomonref05_DocForm.mono_l k
 unfold gnomonref05_DocForm.f
 repeat' first
   | (with_reducible exact ih0 _ _ _ _)
   | (with_reducible exact LeO.refl _)
   | (with_reducible exact LeO.none _)
   | (with_reducible refine LeO.ite ?_ ?_)
   | (with_reducible refine LeO.bind ?_ (fun _ => ?_))
   | exact ih0 _ _ _ _
   | exact LeO.none _
   | refine LeO.ite ?_ ?_
   | refine LeO.bind ?_ (fun _ => ?_)
theorem gnomonref05_DocForm.jc : ∀ k : Nat, (∀ (x17 : Bool) (x103000 : Bool) (x103001 : List Int) (x103002 : Int) (r : Bool), gnomonref05_DocForm.j0 k x17 x103000 x103001 x103002 = some r → Fin Tryd.prog Gw 12 (nav (bodyOf Tryd.f12) [1, 0, 1] []) ⟨mkT 39 [(1, .s (.lo 0 0)), (17, .s (.b x17))], [some (26, [.b x103000, .sl .u64 x103001, .i .i64 x103002])]⟩ (· = .s (.b r)))
 | 0 => (fun _ _ _ _ _ h => nn h)
 | k + 1 => by
  have ih := gnomonref05_DocForm.jc k
  ·intro x17 x103000 x103001 x103002 r h
   rw [gnomonref05_DocForm.j0] at h
   rcases ite_e h with ⟨c1, h⟩ | ⟨c1, h⟩
   ·have h := si h; subst h
    exact jth Tryd.func12 [.br true] (fun e => ai c1 e) (by kernel_rfl)
   ·rcases ite_e h with ⟨c2, h⟩ | ⟨c2, h⟩
    ·rcases ite_e h with ⟨c3, h⟩ | ⟨c3, h⟩
     ·have h := si h; subst h
      exact jth Tryd.func12 [.br false, .br true, .br false, .br false, .br false, .br false] (fun e => ai (z0 c1) (ai (q1 c2) (ai (nt1 c3) (ai (nt1 c3) (ai (nt1 c3) (ai (nt1 c3) e)))))) (by kernel_rfl)
     ·have h := si h; subst h
      exact jth Tryd.func12 [.br false, .br true, .br true, .br true, .br true, .br true] (fun e => ai (z0 c1) (ai (q1 c2) (ai (nt0 (z0 c3)) (ai (nt0 (z0 c3)) (ai (nt0 (z0 c3)) (ai (nt0 (z0 c3)) e)))))) (by kernel_rfl)
    ·rcases ite_e h with ⟨c4, h⟩ | ⟨c4, h⟩
     ·have h := si h; subst h
      exact jth Tryd.func12 [.br false, .br false] (fun e => ai (z0 c1) (ai (q0 c2) (ai (by decide : (0 : Int) ≤ 0) (ai c4 e)))) (by kernel_rfl)
     ·cases h
theorem gnomonref05_DocForm.c {k : Nat} {a0_0 : Bool} {l0_1 : List Int} {a0_2 : Int} {r : Bool} (h : gnomonref05_DocForm.f k a0_0 l0_1 a0_2 = some r) : Con Tryd.prog Gw 12 [.ag [.b a0_0, .sl .u64 l0_1, .i .i64 a0_2]] (· = .s (.b r)) := by
 unfold gnomonref05_DocForm.f at h
 obtain ⟨t103, A1, h⟩ := bnd h
 rcases ite_e h with ⟨c2, h⟩ | ⟨c2, h⟩
 ·rcases ite_e h with ⟨c3, h⟩ | ⟨c3, h⟩
  ·exact pth Tryd.func12 [.r (.s (.b t103)), .br false, .br false, .br false, .br false, .br true, .br true, .br true, .br true, .cut 0 [1, 17] [0] []] (fun _ => ai (gnomonref01_DocForm.c A1) (ai (nt1 c2) (ai (nt1 c2) (ai (nt1 c2) (ai (nt1 c2) (ai (d1 c3) (ai (d1 c3) (ai (d1 c3) (ai (d1 c3) (gnomonref05_DocForm.jc k _ _ _ _ _ h)))))))))) (by kernel_rfl)
  ·exact pth Tryd.func12 [.r (.s (.b t103)), .br false, .br false, .br false, .br false, .br false, .br false, .br false, .br false, .cut 0 [1, 17] [0] []] (fun _ => ai (gnomonref01_DocForm.c A1) (ai (nt1 c2) (ai (nt1 c2) (ai (nt1 c2) (ai (nt1 c2) (ai (d0 c3) (ai (d0 c3) (ai (d0 c3) (ai (d0 c3) (gnomonref05_DocForm.jc k _ _ _ _ _ h)))))))))) (by kernel_rfl)
 ·exact pth Tryd.func12 [.r (.s (.b t103)), .br true, .br true, .br true, .br true, .br true, .br true, .br true, .br true, .cut 0 [1, 17] [0] []] (fun _ => ai (gnomonref01_DocForm.c A1) (ai (nt0 (z0 c2)) (ai (nt0 (z0 c2)) (ai (nt0 (z0 c2)) (ai (nt0 (z0 c2)) (ai tt (ai tt (ai tt (ai tt (gnomonref05_DocForm.jc k _ _ _ _ _ h)))))))))) (by kernel_rfl)
def gnomonref05_Nought.f (a0_0 : Bool) (l0_1 : List Int) (a0_2 : Int) : Option (Bool) := some ((l0_1.length : Int) == 0)
theorem gnomonref05_Nought.c {a0_0 : Bool} {l0_1 : List Int} {a0_2 : Int} {r : Bool} (h : gnomonref05_Nought.f a0_0 l0_1 a0_2 = some r) : Con Tryd.prog Gw 15 [.ag [.b a0_0, .sl .u64 l0_1, .i .i64 a0_2]] (· = .s (.b r)) := by
 unfold gnomonref05_Nought.f at h
 have h := si h; subst h
 exact pth Tryd.func15 [] (fun e => e) (by kernel_rfl)
def gnomonref04_To.f (k : Nat) (a0_0 : Bool) (l0_1 : List Int) : Option (Bool × List Int) := if a0_0 = true then ((gnomonref01_To.f k l0_1).bind fun t160 => (some (decide ((l0_1.length : Int) > 0), t160))) else ((gnomonref01_To.f k l0_1).bind fun t163 => (some (false, t163)))
theorem gnomonref04_To.mono : ∀ a0 a1 k, LeO (gnomonref04_To.f k a0 a1) (gnomonref04_To.f (k + 1) a0 a1) := by
 intro a0 a1 k
 unfold gnomonref04_To.f
 repeat' first
   | (with_reducible exact gnomonref01_To.mono _ _)
   | (with_reducible exact LeO.refl _)
   | (with_reducible exact LeO.none _)
   | (with_reducible refine LeO.ite ?_ ?_)
   | (with_reducible refine LeO.bind ?_ (fun _ => ?_))
   | exact gnomonref01_To.mono _ _
   | exact LeO.none _
   | refine LeO.ite ?_ ?_
   | refine LeO.bind ?_ (fun _ => ?_)
theorem gnomonref04_To.c {k : Nat} {a0_0 : Bool} {l0_1 : List Int} {r : Bool × List Int} (h : gnomonref04_To.f k a0_0 l0_1 = some r) : Con Tryd.prog Gw 98 [.ag [.b a0_0, .sl .u32 l0_1]] (· = .ag [.b r.1, .sl .u64 r.2]) := by
 unfold gnomonref04_To.f at h
 rcases ite_e h with ⟨c1, h⟩ | ⟨c1, h⟩
 ·obtain ⟨t160, A2, h⟩ := bnd h
  have h := si h; subst h
  exact pth Tryd.func98 [.br true, .br true, .br true, .br true, .br true, .r (.s (.sl .u64 t160))] (fun e => ai c1 (ai c1 (ai c1 (ai c1 (ai c1 (ai (gnomonref01_To.c A2) e)))))) (by kernel_rfl)
 ·obtain ⟨t163, A3, h⟩ := bnd h
  have h := si h; subst h
  exact pth Tryd.func98 [.br false, .br false, .br false, .br false, .br false, .r (.s (.sl .u64 t163))] (fun e => ai (z0 c1) (ai (z0 c1) (ai (z0 c1) (ai (z0 c1) (ai (z0 c1) (ai (gnomonref01_To.c A3) e)))))) (by kernel_rfl)
def gnomonref04_Mk.f (k : Nat) (a0 : Bool) (l1 : List Int) : Option (Bool × List Int) := (gnomonref01_Norm.f k l1).bind fun t167 => (if a0 = true then (some (decide ((t167.length : Int) > 0), t167)) else (some (false, t167)))
theorem gnomonref04_Mk.mono : ∀ a0 a1 k, LeO (gnomonref04_Mk.f k a0 a1) (gnomonref04_Mk.f (k + 1) a0 a1) := by
 intro a0 a1 k
 unfold gnomonref04_Mk.f
 repeat' first
   | (with_reducible exact gnomonref01_Norm.mono _ _)
   | (with_reducible exact LeO.refl _)
   | (with_reducible exact LeO.none _)
   | (with_reducible refine LeO.ite ?_ ?_)
   | (with_reducible refine LeO.bind ?_ (fun _ => ?_))
   | exact gnomonref01_Norm.mono _ _
   | exact LeO.none _
   | refine LeO.ite ?_ ?_
   | refine LeO.bind ?_ (fun _ => ?_)
theorem gnomonref04_Mk.c {k : Nat} {a0 : Bool} {l1 : List Int} {r : Bool × List Int} (h : gnomonref04_Mk.f k a0 l1 = some r) : Con Tryd.prog Gw 99 [.s (.b a0), .s (.sl .u32 l1)] (· = .ag [.b r.1, .sl .u32 r.2]) := by
 unfold gnomonref04_Mk.f at h
 obtain ⟨t167, A1, h⟩ := bnd h
 rcases ite_e h with ⟨c2, h⟩ | ⟨c2, h⟩
 ·have h := si h; subst h
  exact pth Tryd.func99 [.r (.s (.sl .u32 t167)), .br true, .br true, .br true, .br true] (fun e => ai (gnomonref01_Norm.c A1) (ai c2 (ai c2 (ai c2 (ai c2 e))))) (by kernel_rfl)
 ·have h := si h; subst h
  exact pth Tryd.func99 [.r (.s (.sl .u32 t167)), .br false, .br false, .br false, .br false] (fun e => ai (gnomonref01_Norm.c A1) (ai (z0 c2) (ai (z0 c2) (ai (z0 c2) (ai (z0 c2) e))))) (by kernel_rfl)
mutual
def gnomonref05_Told.j0 : Nat → Int → Bool → Bool → List Int → Option (Bool × List Int × Int × Int)
 | 0, _, _, _, _ => none
 | k + 1, x1, x18, x171000, x171001 => if x18 = true then (some (false, ([] : List Int), 0, 5)) else ((gnomonref01_Zeros.f k x171001).bind fun t172 => ((gnomonref01_Shr.f k x171001 t172).bind fun t173 => (if (t173.length : Int) > 16384 then (gnomonref05_Told.j1 k x1 t172 t173 true x171000 x171001) else (if (wrap64 (x1 + t172)) < (-1048576) then (gnomonref05_Told.j1 k x1 t172 t173 true x171000 x171001) else (gnomonref05_Told.j1 k x1 t172 t173 (decide ((wrap64 (x1 + t172)) > 1048576)) x171000 x171001)))))
def gnomonref05_Told.j1 : Nat → Int → Int → List Int → Bool → Bool → List Int → Option (Bool × List Int × Int × Int)
 | 0, _, _, _, _, _, _ => none
 | k + 1, x1, x6, x7, x41, x171000, x171001 => if x41 = true then (some (false, ([] : List Int), 0, 5)) else ((gnomonref04_Mk.f k x171000 x7).bind fun bt176 => ((gnomonref04_To.f k bt176.1 bt176.2).bind fun bt180 => (some (bt180.1, bt180.2, wrap64 (x1 + x6), 0))))
end
def gnomonref05_Told.f (k : Nat) (a0_0 : Bool) (l0_1 : List Int) (a1 : Int) : Option (Bool × List Int × Int × Int) := if (l0_1.length : Int) = 0 then (some (false, ([] : List Int), 0, 0)) else (if a1 > 1048576 then (gnomonref05_Told.j0 k a1 true a0_0 l0_1) else (gnomonref05_Told.j0 k a1 (decide (a1 < (-1099511627776))) a0_0 l0_1))
theorem gnomonref05_Told.mono_l : ∀ k, (∀ y0 y1 y2 y3, LeO (gnomonref05_Told.j0 k y0 y1 y2 y3) (gnomonref05_Told.j0 (k + 1) y0 y1 y2 y3)) ∧ (∀ y0 y1 y2 y3 y4 y5, LeO (gnomonref05_Told.j1 k y0 y1 y2 y3 y4 y5) (gnomonref05_Told.j1 (k + 1) y0 y1 y2 y3 y4 y5))
 | 0 => ⟨fun _ _ _ _ r h => by simp [gnomonref05_Told.j0] at h, fun _ _ _ _ _ _ r h => by simp [gnomonref05_Told.j1] at h⟩
 | k + 1 => by
  obtain ⟨ih0, ih1⟩ := gnomonref05_Told.mono_l k
  refine ⟨?_, ?_⟩
  ·intro y0 y1 y2 y3
   unfold gnomonref05_Told.j0
   repeat' first
   | (with_reducible exact ih0 _ _ _ _)
   | (with_reducible exact ih1 _ _ _ _ _ _)
   | (with_reducible exact gnomonref01_Shr.mono _ _ _)
   | (with_reducible exact gnomonref01_Zeros.mono _ _)
   | (with_reducible exact gnomonref04_Mk.mono _ _ _)
   | (with_reducible exact gnomonref04_To.mono _ _ _)
   | (with_reducible exact LeO.refl _)
   | (with_reducible exact LeO.none _)
   | (with_reducible refine LeO.ite ?_ ?_)
   | (with_reducible refine LeO.bind ?_ (fun _ => ?_))
   | exact ih0 _ _ _ _
   | exact ih1 _ _ _ _ _ _
   | exact gnomonref01_Shr.mono _ _ _
   | exact gnomonref01_Zeros.mono _ _
   | exact gnomonref04_Mk.mono _ _ _
   | exact gnomonref04_To.mono _ _ _
   | exact LeO.none _
   | refine LeO.ite ?_ ?_
   | refine LeO.bind ?_ (fun _ => ?_)
  ·intro y0 y1 y2 y3 y4 y5
   unfold gnomonref05_Told.j1
   repeat' first
   | (with_reducible exact ih0 _ _ _ _)
   | (with_reducible exact ih1 _ _ _ _ _ _)
   | (with_reducible exact gnomonref01_Shr.mono _ _ _)
   | (with_reducible exact gnomonref01_Zeros.mono _ _)
   | (with_reducible exact gnomonref04_Mk.mono _ _ _)
   | (with_reducible exact gnomonref04_To.mono _ _ _)
   | (with_reducible exact LeO.refl _)
   | (with_reducible exact LeO.none _)
   | (with_reducible refine LeO.ite ?_ ?_)
   | (with_reducible refine LeO.bind ?_ (fun _ => ?_))
   | exact ih0 _ _ _ _
   | exact ih1 _ _ _ _ _ _
   | exact gnomonref01_Shr.mono _ _ _
   | exact gnomonref01_Zeros.mono _ _
   | exact gnomonref04_Mk.mono _ _ _
   | exact gnomonref04_To.mono _ _ _
   | exact LeO.none _
   | refine LeO.ite ?_ ?_
   | refine LeO.bind ?_ (fun _ => ?_)
theorem gnomonref05_Told.mono : ∀ a0 a1 a2 k, LeO (gnomonref05_Told.f k a0 a1 a2) (gnomonref05_Told.f (k + 1) a0 a1 a2) := by
 intro a0 a1 a2 k
 obtain ⟨ih0, ih1⟩ := gnomonref05_Told.mono_l k
 unfold gnomonref05_Told.f
 repeat' first
   | (with_reducible exact ih0 _ _ _ _)
   | (with_reducible exact ih1 _ _ _ _ _ _)
   | (with_reducible exact gnomonref01_Shr.mono _ _ _)
   | (with_reducible exact gnomonref01_Zeros.mono _ _)
   | (with_reducible exact gnomonref04_Mk.mono _ _ _)
   | (with_reducible exact gnomonref04_To.mono _ _ _)
   | (with_reducible exact LeO.refl _)
   | (with_reducible exact LeO.none _)
   | (with_reducible refine LeO.ite ?_ ?_)
   | (with_reducible refine LeO.bind ?_ (fun _ => ?_))
   | exact ih0 _ _ _ _
   | exact ih1 _ _ _ _ _ _
   | exact gnomonref01_Shr.mono _ _ _
   | exact gnomonref01_Zeros.mono _ _
   | exact gnomonref04_Mk.mono _ _ _
   | exact gnomonref04_To.mono _ _ _
   | exact LeO.none _
   | refine LeO.ite ?_ ?_
   | refine LeO.bind ?_ (fun _ => ?_)
theorem gnomonref05_Told.jc : ∀ k : Nat, (∀ (x1 : Int) (x18 : Bool) (x171000 : Bool) (x171001 : List Int) (r : Bool × List Int × Int × Int), gnomonref05_Told.j0 k x1 x18 x171000 x171001 = some r → Fin Tryd.prog Gw 65 (nav (bodyOf Tryd.f65) [1, 1, 0, 1] []) ⟨mkT 52 [(1, .s (.i .i64 x1)), (2, .s (.lo 0 0)), (4, .s (.lo 1 0)), (18, .s (.b x18))], [some (114, [.b x171000, .sl .u32 x171001]), some (26, [.b false, .sl .u64 ([]), .i .i64 0])]⟩ (· = .tu [.ag [.b r.1, .sl .u64 r.2.1, .i .i64 r.2.2.1], .s (.i .i64 r.2.2.2)])) ∧ (∀ (x1 : Int) (x6 : Int) (x7 : List Int) (x41 : Bool) (x171000 : Bool) (x171001 : List Int) (r : Bool × List Int × Int × Int), gnomonref05_Told.j1 k x1 x6 x7 x41 x171000 x171001 = some r → Fin Tryd.prog Gw 65 (nav (bodyOf Tryd.f65) [1, 1, 1, 1, 1, 0, 1] []) ⟨mkT 52 [(1, .s (.i .i64 x1)), (2, .s (.lo 0 0)), (4, .s (.lo 1 0)), (6, .s (.i .i64 x6)), (7, .s (.sl .u32 x7)), (41, .s (.b x41))], [some (114, [.b x171000, .sl .u32 x171001]), some (26, [.b false, .sl .u64 ([]), .i .i64 0])]⟩ (· = .tu [.ag [.b r.1, .sl .u64 r.2.1, .i .i64 r.2.2.1], .s (.i .i64 r.2.2.2)]))
 | 0 => ⟨(fun _ _ _ _ _ h => nn h), (fun _ _ _ _ _ _ _ h => nn h)⟩
 | k + 1 => by
  have ih := gnomonref05_Told.jc k
  refine ⟨?_, ?_⟩
  ·intro x1 x18 x171000 x171001 r h
   rw [gnomonref05_Told.j0] at h
   rcases ite_e h with ⟨c1, h⟩ | ⟨c1, h⟩
   ·have h := si h; subst h
    exact jth Tryd.func65 [.br true] (fun e => ai c1 e) (by kernel_rfl)
   ·obtain ⟨t172, A2, h⟩ := bnd h
    obtain ⟨t173, A3, h⟩ := bnd h
    rcases ite_e h with ⟨c4, h⟩ | ⟨c4, h⟩
    ·exact jth Tryd.func65 [.br false, .r (.s (.i .i64 t172)), .r (.s (.sl .u32 t173)), .br true, .br true, .br true, .br true, .br true, .br true, .br true, .br true, .br true, .br true, .cut 0 [1, 2, 4, 6, 7, 41] [0, 1] []] (fun _ => ai (z0 c1) (ai (gnomonref01_Zeros.c A2) (ai (gnomonref01_Shr.c A3) (ai (d1 c4) (ai (d1 c4) (ai (d1 c4) (ai (d1 c4) (ai (d1 c4) (ai tt (ai tt (ai tt (ai tt (ai tt (ih.2 _ _ _ _ _ _ _ h)))))))))))))) (by kernel_rfl)
    ·rcases ite_e h with ⟨c5, h⟩ | ⟨c5, h⟩
     ·exact jth Tryd.func65 [.br false, .r (.s (.i .i64 t172)), .r (.s (.sl .u32 t173)), .br false, .br false, .br false, .br false, .br false, .br true, .br true, .br true, .br true, .br true, .cut 0 [1, 2, 4, 6, 7, 41] [0, 1] []] (fun _ => ai (z0 c1) (ai (gnomonref01_Zeros.c A2) (ai (gnomonref01_Shr.c A3) (ai (d0 c4) (ai (d0 c4) (ai (d0 c4) (ai (d0 c4) (ai (d0 c4) (ai (d1 c5) (ai (d1 c5) (ai (d1 c5) (ai (d1 c5) (ai (d1 c5) (ih.2 _ _ _ _ _ _ _ h)))))))))))))) (by kernel_rfl)
     ·exact jth Tryd.func65 [.br false, .r (.s (.i .i64 t172)), .r (.s (.sl .u32 t173)), .br false, .br false, .br false, .br false, .br false, .br false, .br false, .br false, .br false, .br false, .cut 0 [1, 2, 4, 6, 7, 41] [0, 1] []] (fun _ => ai (z0 c1) (ai (gnomonref01_Zeros.c A2) (ai (gnomonref01_Shr.c A3) (ai (d0 c4) (ai (d0 c4) (ai (d0 c4) (ai (d0 c4) (ai (d0 c4) (ai (d0 c5) (ai (d0 c5) (ai (d0 c5) (ai (d0 c5) (ai (d0 c5) (ih.2 _ _ _ _ _ _ _ h)))))))))))))) (by kernel_rfl)
  ·intro x1 x6 x7 x41 x171000 x171001 r h
   rw [gnomonref05_Told.j1] at h
   rcases ite_e h with ⟨c1, h⟩ | ⟨c1, h⟩
   ·have h := si h; subst h
    exact jth Tryd.func65 [.br true] (fun e => ai c1 e) (by kernel_rfl)
   ·obtain ⟨bt176, A2, h⟩ := bnd h
    obtain ⟨bt180, A3, h⟩ := bnd h
    have h := si h; subst h
    exact jth Tryd.func65 [.br false, .r (.ag [.b bt176.1, .sl .u32 bt176.2]), .r (.ag [.b bt180.1, .sl .u64 bt180.2])] (fun e => ai (z0 c1) (ai (gnomonref04_Mk.c A2) (ai (gnomonref04_To.c A3) e))) (by kernel_rfl)
theorem gnomonref05_Told.c {k : Nat} {a0_0 : Bool} {l0_1 : List Int} {a1 : Int} {r : Bool × List Int × Int × Int} (h : gnomonref05_Told.f k a0_0 l0_1 a1 = some r) : Con Tryd.prog Gw 65 [.ag [.b a0_0, .sl .u32 l0_1], .s (.i .i64 a1)] (· = .tu [.ag [.b r.1, .sl .u64 r.2.1, .i .i64 r.2.2.1], .s (.i .i64 r.2.2.2)]) := by
 unfold gnomonref05_Told.f at h
 rcases ite_e h with ⟨c1, h⟩ | ⟨c1, h⟩
 ·have h := si h; subst h
  exact pth Tryd.func65 [.br true] (fun e => ai (q1 c1) e) (by kernel_rfl)
 ·rcases ite_e h with ⟨c2, h⟩ | ⟨c2, h⟩
  ·exact pth Tryd.func65 [.br false, .br true, .br true, .br true, .cut 0 [1, 2, 4, 18] [0, 1] []] (fun _ => ai (q0 c1) (ai (d1 c2) (ai (d1 c2) (ai (d1 c2) ((gnomonref05_Told.jc k).1 _ _ _ _ _ h))))) (by kernel_rfl)
  ·exact pth Tryd.func65 [.br false, .br false, .br false, .br false, .cut 0 [1, 2, 4, 18] [0, 1] []] (fun _ => ai (q0 c1) (ai (d0 c2) (ai (d0 c2) (ai (d0 c2) ((gnomonref05_Told.jc k).1 _ _ _ _ _ h))))) (by kernel_rfl)
def gnomonref04_From.f (k : Nat) (a0_0 : Bool) (l0_1 : List Int) : Option (Bool × List Int) := (gnomonref01_From.f k l0_1).bind fun t200 => ((gnomonref04_Mk.f k a0_0 t200).bind fun bt203 => (some (bt203.1, bt203.2)))
theorem gnomonref04_From.mono : ∀ a0 a1 k, LeO (gnomonref04_From.f k a0 a1) (gnomonref04_From.f (k + 1) a0 a1) := by
 intro a0 a1 k
 unfold gnomonref04_From.f
 repeat' first
   | (with_reducible exact gnomonref01_From.mono _ _)
   | (with_reducible exact gnomonref04_Mk.mono _ _ _)
   | (with_reducible exact LeO.refl _)
   | (with_reducible exact LeO.none _)
   | (with_reducible refine LeO.ite ?_ ?_)
   | (with_reducible refine LeO.bind ?_ (fun _ => ?_))
   | exact gnomonref01_From.mono _ _
   | exact gnomonref04_Mk.mono _ _ _
   | exact LeO.none _
   | refine LeO.ite ?_ ?_
   | refine LeO.bind ?_ (fun _ => ?_)
theorem gnomonref04_From.c {k : Nat} {a0_0 : Bool} {l0_1 : List Int} {r : Bool × List Int} (h : gnomonref04_From.f k a0_0 l0_1 = some r) : Con Tryd.prog Gw 66 [.ag [.b a0_0, .sl .u64 l0_1]] (· = .ag [.b r.1, .sl .u32 r.2]) := by
 unfold gnomonref04_From.f at h
 obtain ⟨t200, A1, h⟩ := bnd h
 obtain ⟨bt203, A2, h⟩ := bnd h
 have h := si h; subst h
 exact pth Tryd.func66 [.r (.s (.sl .u32 t200)), .r (.ag [.b bt203.1, .sl .u32 bt203.2])] (fun e => ai (gnomonref01_From.c A1) (ai (gnomonref04_Mk.c A2) e)) (by kernel_rfl)
def gnomonref05_DocScale.j0 : Nat → Int → Bool → Bool → List Int → Int → Option (Bool × List Int × Int × Int)
 | 0, _, _, _, _, _ => none
 | k + 1, x1, x18, x208000, x208001, x208002 => if x18 = true then (some (false, ([] : List Int), 0, 5)) else ((gnomonref04_From.f k x208000 x208001).bind fun bt211 => ((gnomonref05_Told.f k bt211.1 bt211.2 (wrap64 (x208002 + x1))).bind fun bt215 => (some (bt215.1, bt215.2.1, bt215.2.2.1, bt215.2.2.2))))
def gnomonref05_DocScale.f (k : Nat) (a0_0 : Bool) (l0_1 : List Int) (a0_2 : Int) (a1 : Int) : Option (Bool × List Int × Int × Int) := (gnomonref05_DocForm.f k a0_0 l0_1 a0_2).bind fun t209 => (if t209 = true then ((gnomonref05_Nought.f a0_0 l0_1 a0_2).bind fun t210 => (if t210 = true then (some (false, ([] : List Int), 0, 0)) else (if a1 > 2097152 then (gnomonref05_DocScale.j0 k a1 true a0_0 l0_1 a0_2) else (gnomonref05_DocScale.j0 k a1 (decide (a1 < (-2097152))) a0_0 l0_1 a0_2)))) else (some (false, ([] : List Int), 0, 2)))
theorem gnomonref05_DocScale.mono_l : ∀ k, (∀ y0 y1 y2 y3 y4, LeO (gnomonref05_DocScale.j0 k y0 y1 y2 y3 y4) (gnomonref05_DocScale.j0 (k + 1) y0 y1 y2 y3 y4))
 | 0 => fun _ _ _ _ _ r h => by simp [gnomonref05_DocScale.j0] at h
 | k + 1 => by
  have ih0 := gnomonref05_DocScale.mono_l k
  ·intro y0 y1 y2 y3 y4
   unfold gnomonref05_DocScale.j0
   repeat' first
   | (with_reducible exact ih0 _ _ _ _ _)
   | (with_reducible exact gnomonref04_From.mono _ _ _)
   | (with_reducible exact gnomonref05_DocForm.mono _ _ _ _)
   | (with_reducible exact gnomonref05_Told.mono _ _ _ _)
   | (with_reducible exact LeO.refl _)
   | (with_reducible exact LeO.none _)
   | (with_reducible refine LeO.ite ?_ ?_)
   | (with_reducible refine LeO.bind ?_ (fun _ => ?_))
   | exact ih0 _ _ _ _ _
   | exact gnomonref04_From.mono _ _ _
   | exact gnomonref05_DocForm.mono _ _ _ _
   | exact gnomonref05_Told.mono _ _ _ _
   | exact LeO.none _
   | refine LeO.ite ?_ ?_
   | refine LeO.bind ?_ (fun _ => ?_)
theorem gnomonref05_DocScale.mono : ∀ a0 a1 a2 a3 k, LeO (gnomonref05_DocScale.f k a0 a1 a2 a3) (gnomonref05_DocScale.f (k + 1) a0 a1 a2 a3) := by
 intro a0 a1 a2 a3 k
 have ih0 := gnomonref05_DocScale.mono_l k
 unfold gnomonref05_DocScale.f
 repeat' first
   | (with_reducible exact ih0 _ _ _ _ _)
   | (with_reducible exact gnomonref04_From.mono _ _ _)
   | (with_reducible exact gnomonref05_DocForm.mono _ _ _ _)
   | (with_reducible exact gnomonref05_Told.mono _ _ _ _)
   | (with_reducible exact LeO.refl _)
   | (with_reducible exact LeO.none _)
   | (with_reducible refine LeO.ite ?_ ?_)
   | (with_reducible refine LeO.bind ?_ (fun _ => ?_))
   | exact ih0 _ _ _ _ _
   | exact gnomonref04_From.mono _ _ _
   | exact gnomonref05_DocForm.mono _ _ _ _
   | exact gnomonref05_Told.mono _ _ _ _
   | exact LeO.none _
   | refine LeO.ite ?_ ?_
   | refine LeO.bind ?_ (fun _ => ?_)
theorem gnomonref05_DocScale.jc : ∀ k : Nat, (∀ (x1 : Int) (x18 : Bool) (x208000 : Bool) (x208001 : List Int) (x208002 : Int) (r : Bool × List Int × Int × Int), gnomonref05_DocScale.j0 k x1 x18 x208000 x208001 x208002 = some r → Fin Tryd.prog Gw 36 (nav (bodyOf Tryd.f36) [1, 1, 1, 0, 1] []) ⟨mkT 30 [(1, .s (.i .i64 x1)), (2, .s (.lo 0 0)), (4, .s (.lo 1 0)), (18, .s (.b x18))], [some (26, [.b x208000, .sl .u64 x208001, .i .i64 x208002]), some (26, [.b false, .sl .u64 ([]), .i .i64 0])]⟩ (· = .tu [.ag [.b r.1, .sl .u64 r.2.1, .i .i64 r.2.2.1], .s (.i .i64 r.2.2.2)]))
 | 0 => (fun _ _ _ _ _ _ h => nn h)
 | k + 1 => by
  have ih := gnomonref05_DocScale.jc k
  ·intro x1 x18 x208000 x208001 x208002 r h
   rw [gnomonref05_DocScale.j0] at h
   rcases ite_e h with ⟨c1, h⟩ | ⟨c1, h⟩
   ·have h := si h; subst h
    exact jth Tryd.func36 [.br true] (fun e => ai c1 e) (by kernel_rfl)
   ·obtain ⟨bt211, A2, h⟩ := bnd h
    obtain ⟨bt215, A3, h⟩ := bnd h
    have h := si h; subst h
    exact jth Tryd.func36 [.br false, .r (.ag [.b bt211.1, .sl .u32 bt211.2]), .r (.tu [.ag [.b bt215.1, .sl .u64 bt215.2.1, .i .i64 bt215.2.2.1], .s (.i .i64 bt215.2.2.2)])] (fun e => ai (z0 c1) (ai (gnomonref04_From.c A2) (ai (gnomonref05_Told.c A3) e))) (by kernel_rfl)
theorem gnomonref05_DocScale.c {k : Nat} {a0_0 : Bool} {l0_1 : List Int} {a0_2 : Int} {a1 : Int} {r : Bool × List Int × Int × Int} (h : gnomonref05_DocScale.f k a0_0 l0_1 a0_2 a1 = some r) : Con Tryd.prog Gw 36 [.ag [.b a0_0, .sl .u64 l0_1, .i .i64 a0_2], .s (.i .i64 a1)] (· = .tu [.ag [.b r.1, .sl .u64 r.2.1, .i .i64 r.2.2.1], .s (.i .i64 r.2.2.2)]) := by
 unfold gnomonref05_DocScale.f at h
 obtain ⟨t209, A1, h⟩ := bnd h
 rcases ite_e h with ⟨c2, h⟩ | ⟨c2, h⟩
 ·obtain ⟨t210, A3, h⟩ := bnd h
  rcases ite_e h with ⟨c4, h⟩ | ⟨c4, h⟩
  ·have h := si h; subst h
   exact pth Tryd.func36 [.r (.s (.b t209)), .br false, .r (.s (.b t210)), .br true] (fun e => ai (gnomonref05_DocForm.c A1) (ai (nt1 c2) (ai (gnomonref05_Nought.c A3) (ai c4 e)))) (by kernel_rfl)
  ·rcases ite_e h with ⟨c5, h⟩ | ⟨c5, h⟩
   ·exact pth Tryd.func36 [.r (.s (.b t209)), .br false, .r (.s (.b t210)), .br false, .br true, .br true, .br true, .cut 0 [1, 2, 4, 18] [0, 1] []] (fun _ => ai (gnomonref05_DocForm.c A1) (ai (nt1 c2) (ai (gnomonref05_Nought.c A3) (ai (z0 c4) (ai (d1 c5) (ai (d1 c5) (ai (d1 c5) (gnomonref05_DocScale.jc k _ _ _ _ _ _ h)))))))) (by kernel_rfl)
   ·exact pth Tryd.func36 [.r (.s (.b t209)), .br false, .r (.s (.b t210)), .br false, .br false, .br false, .br false, .cut 0 [1, 2, 4, 18] [0, 1] []] (fun _ => ai (gnomonref05_DocForm.c A1) (ai (nt1 c2) (ai (gnomonref05_Nought.c A3) (ai (z0 c4) (ai (d0 c5) (ai (d0 c5) (ai (d0 c5) (gnomonref05_DocScale.jc k _ _ _ _ _ _ h)))))))) (by kernel_rfl)
 ·have h := si h; subst h
  exact pth Tryd.func36 [.r (.s (.b t209)), .br true] (fun e => ai (gnomonref05_DocForm.c A1) (ai (nt0 (z0 c2)) e)) (by kernel_rfl)
def gnomonref04_Of.f (k : Nat) (a0 : Int) : Option (Bool × List Int) := if a0 < 0 then ((gnomonref01_Word.f k (IntKind.u64.wrap (wrap64 (-(wrap64 (a0 + 1)))))).bind fun t236 => ((gnomonref01_Word.f k 1).bind fun t239 => ((gnomonref01_Add.f k t236 t239).bind fun t242 => ((gnomonref04_Mk.f k true t242).bind fun bt245 => (some (bt245.1, bt245.2)))))) else ((gnomonref01_Word.f k (IntKind.u64.wrap (a0))).bind fun t249 => ((gnomonref04_Mk.f k false t249).bind fun bt252 => (some (bt252.1, bt252.2))))
theorem gnomonref04_Of.mono : ∀ a0 k, LeO (gnomonref04_Of.f k a0) (gnomonref04_Of.f (k + 1) a0) := by
 intro a0 k
 unfold gnomonref04_Of.f
 repeat' first
   | (with_reducible exact gnomonref01_Add.mono _ _ _)
   | (with_reducible exact gnomonref01_Word.mono _ _)
   | (with_reducible exact gnomonref04_Mk.mono _ _ _)
   | (with_reducible exact LeO.refl _)
   | (with_reducible exact LeO.none _)
   | (with_reducible refine LeO.ite ?_ ?_)
   | (with_reducible refine LeO.bind ?_ (fun _ => ?_))
   | exact gnomonref01_Add.mono _ _ _
   | exact gnomonref01_Word.mono _ _
   | exact gnomonref04_Mk.mono _ _ _
   | exact LeO.none _
   | refine LeO.ite ?_ ?_
   | refine LeO.bind ?_ (fun _ => ?_)
theorem gnomonref04_Of.c {k : Nat} {a0 : Int} {r : Bool × List Int} (h : gnomonref04_Of.f k a0 = some r) : Con Tryd.prog Gw 67 [.s (.i .i64 a0)] (· = .ag [.b r.1, .sl .u32 r.2]) := by
 unfold gnomonref04_Of.f at h
 rcases ite_e h with ⟨c1, h⟩ | ⟨c1, h⟩
 ·obtain ⟨t236, A2, h⟩ := bnd h
  obtain ⟨t239, A3, h⟩ := bnd h
  obtain ⟨t242, A4, h⟩ := bnd h
  obtain ⟨bt245, A5, h⟩ := bnd h
  have h := si h; subst h
  exact pth Tryd.func67 [.br true, .r (.s (.sl .u32 t236)), .r (.s (.sl .u32 t239)), .r (.s (.sl .u32 t242)), .r (.ag [.b bt245.1, .sl .u32 bt245.2])] (fun e => ai (d1 c1) (ai (gnomonref01_Word.c A2) (ai (gnomonref01_Word.c A3) (ai (gnomonref01_Add.c A4) (ai (gnomonref04_Mk.c A5) e))))) (by kernel_rfl)
 ·obtain ⟨t249, A6, h⟩ := bnd h
  obtain ⟨bt252, A7, h⟩ := bnd h
  have h := si h; subst h
  exact pth Tryd.func67 [.br false, .r (.s (.sl .u32 t249)), .r (.ag [.b bt252.1, .sl .u32 bt252.2])] (fun e => ai (d0 c1) (ai (gnomonref01_Word.c A6) (ai (gnomonref04_Mk.c A7) e))) (by kernel_rfl)
def gnomonref05_DocOf.f (k : Nat) (a0 : Int) : Option (Bool × List Int × Int) := (gnomonref04_Of.f k a0).bind fun bt257 => ((gnomonref05_Told.f k bt257.1 bt257.2 0).bind fun bt261 => (some (bt261.1, bt261.2.1, bt261.2.2.1)))
theorem gnomonref05_DocOf.mono : ∀ a0 k, LeO (gnomonref05_DocOf.f k a0) (gnomonref05_DocOf.f (k + 1) a0) := by
 intro a0 k
 unfold gnomonref05_DocOf.f
 repeat' first
   | (with_reducible exact gnomonref04_Of.mono _ _)
   | (with_reducible exact gnomonref05_Told.mono _ _ _ _)
   | (with_reducible exact LeO.refl _)
   | (with_reducible exact LeO.none _)
   | (with_reducible refine LeO.ite ?_ ?_)
   | (with_reducible refine LeO.bind ?_ (fun _ => ?_))
   | exact gnomonref04_Of.mono _ _
   | exact gnomonref05_Told.mono _ _ _ _
   | exact LeO.none _
   | refine LeO.ite ?_ ?_
   | refine LeO.bind ?_ (fun _ => ?_)
theorem gnomonref05_DocOf.c {k : Nat} {a0 : Int} {r : Bool × List Int × Int} (h : gnomonref05_DocOf.f k a0 = some r) : Con Tryd.prog Gw 37 [.s (.i .i64 a0)] (· = .ag [.b r.1, .sl .u64 r.2.1, .i .i64 r.2.2]) := by
 unfold gnomonref05_DocOf.f at h
 obtain ⟨bt257, A1, h⟩ := bnd h
 obtain ⟨bt261, A2, h⟩ := bnd h
 have h := si h; subst h
 exact pth Tryd.func37 [.r (.ag [.b bt257.1, .sl .u32 bt257.2]), .r (.tu [.ag [.b bt261.1, .sl .u64 bt261.2.1, .i .i64 bt261.2.2.1], .s (.i .i64 bt261.2.2.2)])] (fun e => ai (gnomonref04_Of.c A1) (ai (gnomonref05_Told.c A2) e)) (by kernel_rfl)
def gnomonlaw08_num.f (k : Nat) (a0 : Int) (a1 : Int) : Option (Bool × List Int × Int) := (gnomonref05_DocOf.f k a0).bind fun bt269 => ((gnomonref05_DocScale.f k bt269.1 bt269.2.1 bt269.2.2 a1).bind fun bt274 => (some (bt274.1, bt274.2.1, bt274.2.2.1)))
theorem gnomonlaw08_num.mono : ∀ a0 a1 k, LeO (gnomonlaw08_num.f k a0 a1) (gnomonlaw08_num.f (k + 1) a0 a1) := by
 intro a0 a1 k
 unfold gnomonlaw08_num.f
 repeat' first
   | (with_reducible exact gnomonref05_DocOf.mono _ _)
   | (with_reducible exact gnomonref05_DocScale.mono _ _ _ _ _)
   | (with_reducible exact LeO.refl _)
   | (with_reducible exact LeO.none _)
   | (with_reducible refine LeO.ite ?_ ?_)
   | (with_reducible refine LeO.bind ?_ (fun _ => ?_))
   | exact gnomonref05_DocOf.mono _ _
   | exact gnomonref05_DocScale.mono _ _ _ _ _
   | exact LeO.none _
   | refine LeO.ite ?_ ?_
   | refine LeO.bind ?_ (fun _ => ?_)
theorem gnomonlaw08_num.c {k : Nat} {a0 : Int} {a1 : Int} {r : Bool × List Int × Int} (h : gnomonlaw08_num.f k a0 a1 = some r) : Con Tryd.prog Gw 10 [.s (.i .i64 a0), .s (.i .i64 a1)] (· = .ag [.b r.1, .sl .u64 r.2.1, .i .i64 r.2.2]) := by
 unfold gnomonlaw08_num.f at h
 obtain ⟨bt269, A1, h⟩ := bnd h
 obtain ⟨bt274, A2, h⟩ := bnd h
 have h := si h; subst h
 exact pth Tryd.func10 [.r (.ag [.b bt269.1, .sl .u64 bt269.2.1, .i .i64 bt269.2.2]), .r (.tu [.ag [.b bt274.1, .sl .u64 bt274.2.1, .i .i64 bt274.2.2.1], .s (.i .i64 bt274.2.2.2)])] (fun e => ai (gnomonref05_DocOf.c A1) (ai (gnomonref05_DocScale.c A2) e)) (by kernel_rfl)
def dyadic_nought.f (a0_0 : Bool) (l0_1 : List Int) (a0_2 : Int) : Option (Bool) := some ((l0_1.length : Int) == 0)
theorem dyadic_nought.c {a0_0 : Bool} {l0_1 : List Int} {a0_2 : Int} {r : Bool} (h : dyadic_nought.f a0_0 l0_1 a0_2 = some r) : Con Tryd.prog Gw 58 [.ag [.b a0_0, .sl .u64 l0_1, .i .i64 a0_2]] (· = .s (.b r)) := by
 unfold dyadic_nought.f at h
 have h := si h; subst h
 exact pth Tryd.func58 [] (fun e => e) (by kernel_rfl)
def nat_Form.f (l0 : List Int) : Option (Bool) := if (l0.length : Int) ≤ 8192 then (if (l0.length : Int) = 0 then (some true) else (if 0 ≤ (wrap64 ((l0.length : Int) - 1)) then (if (wrap64 ((l0.length : Int) - 1)) < (l0.length : Int) then (some ((rd l0 (wrap64 ((l0.length : Int) - 1))) != 0)) else (none)) else (none))) else (some false)
theorem nat_Form.c {l0 : List Int} {r : Bool} (h : nat_Form.f l0 = some r) : Con Tryd.prog Gw 104 [.s (.sl .u64 l0)] (· = .s (.b r)) := by
 unfold nat_Form.f at h
 rcases ite_e h with ⟨c1, h⟩ | ⟨c1, h⟩
 ·rcases ite_e h with ⟨c2, h⟩ | ⟨c2, h⟩
  ·have h := si h; subst h
   exact pth Tryd.func104 [.br true, .br true, .br true, .br true, .br true, .br true, .br true, .br true, .br true, .br true, .br true, .br true, .br true, .br true] (fun e => ai (d1 c1) (ai (d1 c1) (ai (d1 c1) (ai (d1 c1) (ai (q1 c2) (ai (q1 c2) (ai (q1 c2) (ai (q1 c2) (ai (q1 c2) (ai (q1 c2) (ai (q1 c2) (ai (d1 c1) (ai (q1 c2) (ai (d1 c1) e)))))))))))))) (by kernel_rfl)
  ·rcases ite_e h with ⟨c3, h⟩ | ⟨c3, h⟩
   ·rcases ite_e h with ⟨c4, h⟩ | ⟨c4, h⟩
    ·have h := si h; subst h
     exact pth Tryd.func104 [.br true, .br true, .br true, .br true, .br false, .br false, .br false, .br false, .br false, .br false, .br false, .br true, .br false, .br true] (fun e => ai (d1 c1) (ai (d1 c1) (ai (d1 c1) (ai (d1 c1) (ai (q0 c2) (ai (q0 c2) (ai (q0 c2) (ai (q0 c2) (ai (q0 c2) (ai c3 (ai c4 (ai (q0 c2) (ai (q0 c2) (ai (d1 c1) (ai (q0 c2) (ai (d1 c1) e)))))))))))))))) (by kernel_rfl)
    ·cases h
   ·cases h
 ·have h := si h; subst h
  exact pth Tryd.func104 [.br false, .br false, .br false, .br false, .br false, .br false] (fun e => ai (d0 c1) (ai (d0 c1) (ai (d0 c1) (ai (d0 c1) (ai (d0 c1) (ai (d0 c1) e)))))) (by kernel_rfl)
def num_Form.f (a0_0 : Bool) (l0_1 : List Int) : Option (Bool) := (nat_Form.f l0_1).bind fun t284 => (if t284 = true then (if a0_0 = true then (some (!((l0_1.length : Int) == 0))) else (some (!false))) else (some false))
theorem num_Form.c {a0_0 : Bool} {l0_1 : List Int} {r : Bool} (h : num_Form.f a0_0 l0_1 = some r) : Con Tryd.prog Gw 70 [.ag [.b a0_0, .sl .u64 l0_1]] (· = .s (.b r)) := by
 unfold num_Form.f at h
 obtain ⟨t284, A1, h⟩ := bnd h
 rcases ite_e h with ⟨c2, h⟩ | ⟨c2, h⟩
 ·rcases ite_e h with ⟨c3, h⟩ | ⟨c3, h⟩
  ·have h := si h; subst h
   exact pth Tryd.func70 [.r (.s (.b t284)), .br true, .br true, .br true, .br true, .br true, .br true, .br true, .br true, .br true, .br true, .br true] (fun e => ai (nat_Form.c A1) (ai c2 (ai c2 (ai c2 (ai c3 (ai c3 (ai c3 (ai c3 (ai c2 (ai c3 (ai c2 (ai c2 e)))))))))))) (by kernel_rfl)
  ·have h := si h; subst h
   exact pth Tryd.func70 [.r (.s (.b t284)), .br true, .br true, .br true, .br false, .br false, .br false, .br false, .br true, .br false, .br true, .br true] (fun e => ai (nat_Form.c A1) (ai c2 (ai c2 (ai c2 (ai (z0 c3) (ai (z0 c3) (ai (z0 c3) (ai (z0 c3) (ai c2 (ai (z0 c3) (ai c2 (ai c2 e)))))))))))) (by kernel_rfl)
 ·have h := si h; subst h
  exact pth Tryd.func70 [.r (.s (.b t284)), .br false, .br false, .br false, .br false, .br false, .br false] (fun e => ai (nat_Form.c A1) (ai (z0 c2) (ai (z0 c2) (ai (z0 c2) (ai (z0 c2) (ai (z0 c2) (ai (z0 c2) e))))))) (by kernel_rfl)
def dyadic_Form.j0 : Nat → Bool → Bool → List Int → Int → Option (Bool)
 | 0, _, _, _, _ => none
 | k + 1, x16, x286000, x286001, x286002 => if x16 = true then (some false) else ((dyadic_nought.f x286000 x286001 x286002).bind fun t287 => (if t287 = true then (some (x286002 == 0)) else (if 0 < (x286001.length : Int) then (some ((Go.bits .and .u64 (rd x286001 0) 1) == 1)) else (none))))
def dyadic_Form.f (k : Nat) (a0_0 : Bool) (l0_1 : List Int) (a0_2 : Int) : Option (Bool) := (num_Form.f a0_0 l0_1).bind fun t286 => (if t286 = true then (if a0_2 < (-1048576) then (dyadic_Form.j0 k true a0_0 l0_1 a0_2) else (dyadic_Form.j0 k (decide (a0_2 > 1048576)) a0_0 l0_1 a0_2)) else (dyadic_Form.j0 k true a0_0 l0_1 a0_2))
theorem dyadic_Form.mono_l : ∀ k, (∀ y0 y1 y2 y3, LeO (dyadic_Form.j0 k y0 y1 y2 y3) (dyadic_Form.j0 (k + 1) y0 y1 y2 y3))
 | 0 => fun _ _ _ _ r h => by simp [dyadic_Form.j0] at h
 | k + 1 => by
  have ih0 := dyadic_Form.mono_l k
  ·intro y0 y1 y2 y3
   unfold dyadic_Form.j0
   repeat' first
   | (with_reducible exact ih0 _ _ _ _)
   | (with_reducible exact LeO.refl _)
   | (with_reducible exact LeO.none _)
   | (with_reducible refine LeO.ite ?_ ?_)
   | (with_reducible refine LeO.bind ?_ (fun _ => ?_))
   | exact ih0 _ _ _ _
   | exact LeO.none _
   | refine LeO.ite ?_ ?_
   | refine LeO.bind ?_ (fun _ => ?_)
theorem dyadic_Form.mono : ∀ a0 a1 a2 k, LeO (dyadic_Form.f k a0 a1 a2) (dyadic_Form.f (k + 1) a0 a1 a2) := by
 intro a0 a1 a2 k
 have ih0 := dyadic_Form.mono_l k
 unfold dyadic_Form.f
 repeat' first
   | (with_reducible exact ih0 _ _ _ _)
   | (with_reducible exact LeO.refl _)
   | (with_reducible exact LeO.none _)
   | (with_reducible refine LeO.ite ?_ ?_)
   | (with_reducible refine LeO.bind ?_ (fun _ => ?_))
   | exact ih0 _ _ _ _
   | exact LeO.none _
   | refine LeO.ite ?_ ?_
   | refine LeO.bind ?_ (fun _ => ?_)
theorem dyadic_Form.jc : ∀ k : Nat, (∀ (x16 : Bool) (x286000 : Bool) (x286001 : List Int) (x286002 : Int) (r : Bool), dyadic_Form.j0 k x16 x286000 x286001 x286002 = some r → Fin Tryd.prog Gw 40 (nav (bodyOf Tryd.f40) [1, 0, 1] []) ⟨mkT 29 [(1, .s (.lo 0 0)), (16, .s (.b x16))], [some (26, [.b x286000, .sl .u64 x286001, .i .i64 x286002])]⟩ (· = .s (.b r)))
 | 0 => (fun _ _ _ _ _ h => nn h)
 | k + 1 => by
  have ih := dyadic_Form.jc k
  ·intro x16 x286000 x286001 x286002 r h
   rw [dyadic_Form.j0] at h
   rcases ite_e h with ⟨c1, h⟩ | ⟨c1, h⟩
   ·have h := si h; subst h
    exact jth Tryd.func40 [.br true] (fun e => ai c1 e) (by kernel_rfl)
   ·obtain ⟨t287, A2, h⟩ := bnd h
    rcases ite_e h with ⟨c3, h⟩ | ⟨c3, h⟩
    ·have h := si h; subst h
     exact jth Tryd.func40 [.br false, .r (.s (.b t287)), .br true] (fun e => ai (z0 c1) (ai (dyadic_nought.c A2) (ai c3 e))) (by kernel_rfl)
    ·rcases ite_e h with ⟨c4, h⟩ | ⟨c4, h⟩
     ·have h := si h; subst h
      exact jth Tryd.func40 [.br false, .r (.s (.b t287)), .br false] (fun e => ai (z0 c1) (ai (dyadic_nought.c A2) (ai (z0 c3) (ai (by decide : (0 : Int) ≤ 0) (ai c4 e))))) (by kernel_rfl)
     ·cases h
theorem dyadic_Form.c {k : Nat} {a0_0 : Bool} {l0_1 : List Int} {a0_2 : Int} {r : Bool} (h : dyadic_Form.f k a0_0 l0_1 a0_2 = some r) : Con Tryd.prog Gw 40 [.ag [.b a0_0, .sl .u64 l0_1, .i .i64 a0_2]] (· = .s (.b r)) := by
 unfold dyadic_Form.f at h
 obtain ⟨t286, A1, h⟩ := bnd h
 rcases ite_e h with ⟨c2, h⟩ | ⟨c2, h⟩
 ·rcases ite_e h with ⟨c3, h⟩ | ⟨c3, h⟩
  ·exact pth Tryd.func40 [.r (.s (.b t286)), .br false, .br false, .br false, .br false, .br true, .br true, .br true, .br true, .cut 0 [1, 16] [0] []] (fun _ => ai (num_Form.c A1) (ai (nt1 c2) (ai (nt1 c2) (ai (nt1 c2) (ai (nt1 c2) (ai (d1 c3) (ai (d1 c3) (ai (d1 c3) (ai (d1 c3) (dyadic_Form.jc k _ _ _ _ _ h)))))))))) (by kernel_rfl)
  ·exact pth Tryd.func40 [.r (.s (.b t286)), .br false, .br false, .br false, .br false, .br false, .br false, .br false, .br false, .cut 0 [1, 16] [0] []] (fun _ => ai (num_Form.c A1) (ai (nt1 c2) (ai (nt1 c2) (ai (nt1 c2) (ai (nt1 c2) (ai (d0 c3) (ai (d0 c3) (ai (d0 c3) (ai (d0 c3) (dyadic_Form.jc k _ _ _ _ _ h)))))))))) (by kernel_rfl)
 ·exact pth Tryd.func40 [.r (.s (.b t286)), .br true, .br true, .br true, .br true, .br true, .br true, .br true, .br true, .cut 0 [1, 16] [0] []] (fun _ => ai (num_Form.c A1) (ai (nt0 (z0 c2)) (ai (nt0 (z0 c2)) (ai (nt0 (z0 c2)) (ai (nt0 (z0 c2)) (ai tt (ai tt (ai tt (ai tt (dyadic_Form.jc k _ _ _ _ _ h)))))))))) (by kernel_rfl)
def num_Sign.f (a0_0 : Bool) (l0_1 : List Int) : Option (Int) := (nat_Bits.f l0_1).bind fun t290 => (if t290 = 0 then (some 0) else (if a0_0 = true then (some (-1)) else (some 1)))
theorem num_Sign.c {a0_0 : Bool} {l0_1 : List Int} {r : Int} (h : num_Sign.f a0_0 l0_1 = some r) : Con Tryd.prog Gw 68 [.ag [.b a0_0, .sl .u64 l0_1]] (· = .s (.i .i64 r)) := by
 unfold num_Sign.f at h
 obtain ⟨t290, A1, h⟩ := bnd h
 rcases ite_e h with ⟨c2, h⟩ | ⟨c2, h⟩
 ·have h := si h; subst h
  exact pth Tryd.func68 [.r (.s (.i .i64 t290)), .br true] (fun e => ai (nat_Bits.c A1) (ai (q1 c2) e)) (by kernel_rfl)
 ·rcases ite_e h with ⟨c3, h⟩ | ⟨c3, h⟩
  ·have h := si h; subst h
   exact pth Tryd.func68 [.r (.s (.i .i64 t290)), .br false, .br true] (fun e => ai (nat_Bits.c A1) (ai (q0 c2) (ai c3 e))) (by kernel_rfl)
  ·have h := si h; subst h
   exact pth Tryd.func68 [.r (.s (.i .i64 t290)), .br false, .br false] (fun e => ai (nat_Bits.c A1) (ai (q0 c2) (ai (z0 c3) e))) (by kernel_rfl)
def dyadic_top.f (a0_0 : Bool) (l0_1 : List Int) (a0_2 : Int) : Option (Int) := (nat_Bits.f l0_1).bind fun t292 => (some (wrap64 ((wrap64 (a0_2 + t292)) - 1)))
theorem dyadic_top.c {a0_0 : Bool} {l0_1 : List Int} {a0_2 : Int} {r : Int} (h : dyadic_top.f a0_0 l0_1 a0_2 = some r) : Con Tryd.prog Gw 103 [.ag [.b a0_0, .sl .u64 l0_1, .i .i64 a0_2]] (· = .s (.i .i64 r)) := by
 unfold dyadic_top.f at h
 obtain ⟨t292, A1, h⟩ := bnd h
 have h := si h; subst h
 exact pth Tryd.func103 [.r (.s (.i .i64 t292))] (fun e => ai (nat_Bits.c A1) e) (by kernel_rfl)
def dyadic_size.f (a0_0 : Bool) (l0_1 : List Int) (a0_2 : Int) (a1_0 : Bool) (l1_1 : List Int) (a1_2 : Int) : Option (Int) := (dyadic_top.f a0_0 l0_1 a0_2).bind fun t295 => ((dyadic_top.f a1_0 l1_1 a1_2).bind fun t296 => (if t295 < t296 then (some (-1)) else (if t295 > t296 then (some 1) else ((nat_Shl.f l0_1 (wrap64 (a0_2 - (mn a0_2 a1_2)))).bind fun bt297 => ((nat_Shl.f l1_1 (wrap64 (a1_2 - (mn a0_2 a1_2)))).bind fun bt301 => ((nat_Cmp.f bt297.1 bt301.1).bind fun t305 => (some t305)))))))
theorem dyadic_size.c {a0_0 : Bool} {l0_1 : List Int} {a0_2 : Int} {a1_0 : Bool} {l1_1 : List Int} {a1_2 : Int} {r : Int} (h : dyadic_size.f a0_0 l0_1 a0_2 a1_0 l1_1 a1_2 = some r) : Con Tryd.prog Gw 69 [.ag [.b a0_0, .sl .u64 l0_1, .i .i64 a0_2], .ag [.b a1_0, .sl .u64 l1_1, .i .i64 a1_2]] (· = .s (.i .i64 r)) := by
 unfold dyadic_size.f at h
 obtain ⟨t295, A1, h⟩ := bnd h
 obtain ⟨t296, A2, h⟩ := bnd h
 rcases ite_e h with ⟨c3, h⟩ | ⟨c3, h⟩
 ·have h := si h; subst h
  exact pth Tryd.func69 [.r (.s (.i .i64 t295)), .r (.s (.i .i64 t296)), .br true] (fun e => ai (dyadic_top.c A1) (ai (dyadic_top.c A2) (ai (d1 c3) e))) (by kernel_rfl)
 ·rcases ite_e h with ⟨c4, h⟩ | ⟨c4, h⟩
  ·have h := si h; subst h
   exact pth Tryd.func69 [.r (.s (.i .i64 t295)), .r (.s (.i .i64 t296)), .br false, .br true] (fun e => ai (dyadic_top.c A1) (ai (dyadic_top.c A2) (ai (d0 c3) (ai (d1 c4) e)))) (by kernel_rfl)
  ·obtain ⟨bt297, A5, h⟩ := bnd h
   obtain ⟨bt301, A6, h⟩ := bnd h
   obtain ⟨t305, A7, h⟩ := bnd h
   have h := si h; subst h
   exact pth Tryd.func69 [.r (.s (.i .i64 t295)), .r (.s (.i .i64 t296)), .br false, .br false, .r (.tu [.s (.sl .u64 bt297.1), .s (.i .i64 bt297.2)]), .r (.tu [.s (.sl .u64 bt301.1), .s (.i .i64 bt301.2)]), .r (.s (.i .i64 t305))] (fun e => ai (dyadic_top.c A1) (ai (dyadic_top.c A2) (ai (d0 c3) (ai (d0 c4) (ai (nat_Shl.c A5) (ai (nat_Shl.c A6) (ai (nat_Cmp.c A7) e))))))) (by kernel_rfl)
def dyadic_Cmp.j0 : Nat → Bool → Bool → List Int → Int → Bool → List Int → Int → Option (Int × Int)
 | 0, _, _, _, _, _, _, _ => none
 | k + 1, x15, x307000, x307001, x307002, x308000, x308001, x308002 => if x15 = true then (some (0, 2)) else ((num_Sign.f x307000 x307001).bind fun t310 => ((num_Sign.f x308000 x308001).bind fun t311 => (if t310 < t311 then (some ((-1), 0)) else (if t310 > t311 then (some (1, 0)) else (if t310 = 0 then (some (0, 0)) else ((dyadic_size.f x307000 x307001 x307002 x308000 x308001 x308002).bind fun t312 => (some (wrap64 (t310 * t312), 0))))))))
def dyadic_Cmp.f (k : Nat) (a0_0 : Bool) (l0_1 : List Int) (a0_2 : Int) (a1_0 : Bool) (l1_1 : List Int) (a1_2 : Int) : Option (Int × Int) := (dyadic_Form.f k a0_0 l0_1 a0_2).bind fun t308 => (if t308 = true then ((dyadic_Form.f k a1_0 l1_1 a1_2).bind fun t309 => (dyadic_Cmp.j0 k (!t309) a0_0 l0_1 a0_2 a1_0 l1_1 a1_2)) else (dyadic_Cmp.j0 k true a0_0 l0_1 a0_2 a1_0 l1_1 a1_2))
theorem dyadic_Cmp.jc : ∀ k : Nat, (∀ (x15 : Bool) (x307000 : Bool) (x307001 : List Int) (x307002 : Int) (x308000 : Bool) (x308001 : List Int) (x308002 : Int) (r : Int × Int), dyadic_Cmp.j0 k x15 x307000 x307001 x307002 x308000 x308001 x308002 = some r → Fin Tryd.prog Gw 39 (nav (bodyOf Tryd.f39) [1, 0, 1] []) ⟨mkT 38 [(2, .s (.lo 0 0)), (3, .s (.lo 1 0)), (15, .s (.b x15))], [some (26, [.b x307000, .sl .u64 x307001, .i .i64 x307002]), some (26, [.b x308000, .sl .u64 x308001, .i .i64 x308002])]⟩ (· = .tu [.s (.i .i64 r.1), .s (.i .i64 r.2)]))
 | 0 => (fun _ _ _ _ _ _ _ _ h => nn h)
 | k + 1 => by
  have ih := dyadic_Cmp.jc k
  ·intro x15 x307000 x307001 x307002 x308000 x308001 x308002 r h
   rw [dyadic_Cmp.j0] at h
   rcases ite_e h with ⟨c1, h⟩ | ⟨c1, h⟩
   ·have h := si h; subst h
    exact jth Tryd.func39 [.br true] (fun e => ai c1 e) (by kernel_rfl)
   ·obtain ⟨t310, A2, h⟩ := bnd h
    obtain ⟨t311, A3, h⟩ := bnd h
    rcases ite_e h with ⟨c4, h⟩ | ⟨c4, h⟩
    ·have h := si h; subst h
     exact jth Tryd.func39 [.br false, .r (.s (.i .i64 t310)), .r (.s (.i .i64 t311)), .br true] (fun e => ai (z0 c1) (ai (num_Sign.c A2) (ai (num_Sign.c A3) (ai (d1 c4) e)))) (by kernel_rfl)
    ·rcases ite_e h with ⟨c5, h⟩ | ⟨c5, h⟩
     ·have h := si h; subst h
      exact jth Tryd.func39 [.br false, .r (.s (.i .i64 t310)), .r (.s (.i .i64 t311)), .br false, .br true] (fun e => ai (z0 c1) (ai (num_Sign.c A2) (ai (num_Sign.c A3) (ai (d0 c4) (ai (d1 c5) e))))) (by kernel_rfl)
     ·rcases ite_e h with ⟨c6, h⟩ | ⟨c6, h⟩
      ·have h := si h; subst h
       exact jth Tryd.func39 [.br false, .r (.s (.i .i64 t310)), .r (.s (.i .i64 t311)), .br false, .br false, .br true] (fun e => ai (z0 c1) (ai (num_Sign.c A2) (ai (num_Sign.c A3) (ai (d0 c4) (ai (d0 c5) (ai (q1 c6) e)))))) (by kernel_rfl)
      ·obtain ⟨t312, A7, h⟩ := bnd h
       have h := si h; subst h
       exact jth Tryd.func39 [.br false, .r (.s (.i .i64 t310)), .r (.s (.i .i64 t311)), .br false, .br false, .br false, .r (.s (.i .i64 t312))] (fun e => ai (z0 c1) (ai (num_Sign.c A2) (ai (num_Sign.c A3) (ai (d0 c4) (ai (d0 c5) (ai (q0 c6) (ai (dyadic_size.c A7) e))))))) (by kernel_rfl)
theorem dyadic_Cmp.c {k : Nat} {a0_0 : Bool} {l0_1 : List Int} {a0_2 : Int} {a1_0 : Bool} {l1_1 : List Int} {a1_2 : Int} {r : Int × Int} (h : dyadic_Cmp.f k a0_0 l0_1 a0_2 a1_0 l1_1 a1_2 = some r) : Con Tryd.prog Gw 39 [.ag [.b a0_0, .sl .u64 l0_1, .i .i64 a0_2], .ag [.b a1_0, .sl .u64 l1_1, .i .i64 a1_2]] (· = .tu [.s (.i .i64 r.1), .s (.i .i64 r.2)]) := by
 unfold dyadic_Cmp.f at h
 obtain ⟨t308, A1, h⟩ := bnd h
 rcases ite_e h with ⟨c2, h⟩ | ⟨c2, h⟩
 ·obtain ⟨t309, A3, h⟩ := bnd h
  exact pth Tryd.func39 [.r (.s (.b t308)), .br false, .br false, .r (.s (.b t309)), .br false, .br false, .cut 0 [2, 3, 15] [0, 1] []] (fun _ => ai (dyadic_Form.c A1) (ai (nt1 c2) (ai (nt1 c2) (ai (dyadic_Form.c A3) (ai (nt1 c2) (ai (nt1 c2) (dyadic_Cmp.jc k _ _ _ _ _ _ _ _ h))))))) (by kernel_rfl)
 ·exact pth Tryd.func39 [.r (.s (.b t308)), .br true, .br true, .br true, .br true, .cut 0 [2, 3, 15] [0, 1] []] (fun _ => ai (dyadic_Form.c A1) (ai (nt0 (z0 c2)) (ai (nt0 (z0 c2)) (ai (nt0 (z0 c2)) (ai (nt0 (z0 c2)) (dyadic_Cmp.jc k _ _ _ _ _ _ _ _ h)))))) (by kernel_rfl)
def gnomonlaw08_at.f (k : Nat) (a0_0 : Bool) (l0_1 : List Int) (a0_2 : Int) (a1_0 : Bool) (l1_1 : List Int) (a1_2 : Int) : Option (Int) := (dyadic_Cmp.f k a0_0 l0_1 a0_2 a1_0 l1_1 a1_2).bind fun bt315 => (if bt315.2 = 0 then (some bt315.1) else (some 2))
theorem gnomonlaw08_at.c {k : Nat} {a0_0 : Bool} {l0_1 : List Int} {a0_2 : Int} {a1_0 : Bool} {l1_1 : List Int} {a1_2 : Int} {r : Int} (h : gnomonlaw08_at.f k a0_0 l0_1 a0_2 a1_0 l1_1 a1_2 = some r) : Con Tryd.prog Gw 13 [.ag [.b a0_0, .sl .u64 l0_1, .i .i64 a0_2], .ag [.b a1_0, .sl .u64 l1_1, .i .i64 a1_2]] (· = .s (.i .i64 r)) := by
 unfold gnomonlaw08_at.f at h
 obtain ⟨bt315, A1, h⟩ := bnd h
 rcases ite_e h with ⟨c2, h⟩ | ⟨c2, h⟩
 ·have h := si h; subst h
  exact pth Tryd.func13 [.r (.tu [.s (.i .i64 bt315.1), .s (.i .i64 bt315.2)]), .br false] (fun e => ai (dyadic_Cmp.c A1) (ai (n0 c2) e)) (by kernel_rfl)
 ·have h := si h; subst h
  exact pth Tryd.func13 [.r (.tu [.s (.i .i64 bt315.1), .s (.i .i64 bt315.2)]), .br true] (fun e => ai (dyadic_Cmp.c A1) (ai (n1 c2) e)) (by kernel_rfl)
def round_of.f (a0 : Int) : Option (Int × Int × Int) := if a0 = 32 then (some (24, (-149), 31)) else (if a0 = 64 then (some (53, (-1074), 63)) else (some (0, 0, 0)))
theorem round_of.c {a0 : Int} {r : Int × Int × Int} (h : round_of.f a0 = some r) : Con Tryd.prog Gw 34 [.s (.i .i64 a0)] (· = .ag [.i .i64 r.1, .i .i64 r.2.1, .i .i64 r.2.2]) := by
 unfold round_of.f at h
 rcases ite_e h with ⟨c1, h⟩ | ⟨c1, h⟩
 ·have h := si h; subst h
  exact pth Tryd.func34 [.br true] (fun e => ai (q1 c1) e) (by kernel_rfl)
 ·rcases ite_e h with ⟨c2, h⟩ | ⟨c2, h⟩
  ·have h := si h; subst h
   exact pth Tryd.func34 [.br false, .br true] (fun e => ai (q0 c1) (ai (q1 c2) e)) (by kernel_rfl)
  ·have h := si h; subst h
   exact pth Tryd.func34 [.br false, .br false] (fun e => ai (q0 c1) (ai (q0 c2) e)) (by kernel_rfl)
def round_widths_signed.f (a0_0 : Int) (a0_1 : Int) (a0_2 : Int) (a1 : Bool) (a2 : Int) : Option (Int) := if a1 = true then (if 0 ≤ a0_2 then (some (Go.bits .or .u64 a2 (shl .u64 1 a0_2))) else (none)) else (some a2)
theorem round_widths_signed.c {a0_0 : Int} {a0_1 : Int} {a0_2 : Int} {a1 : Bool} {a2 : Int} {r : Int} (h : round_widths_signed.f a0_0 a0_1 a0_2 a1 a2 = some r) : Con Tryd.prog Gw 41 [.ag [.i .i64 a0_0, .i .i64 a0_1, .i .i64 a0_2], .s (.b a1), .s (.i .u64 a2)] (· = .s (.i .u64 r)) := by
 unfold round_widths_signed.f at h
 rcases ite_e h with ⟨c1, h⟩ | ⟨c1, h⟩
 ·rcases ite_e h with ⟨c2, h⟩ | ⟨c2, h⟩
  ·have h := si h; subst h
   exact pth Tryd.func41 [.br true] (fun e => ai c1 (ai c2 e)) (by kernel_rfl)
  ·cases h
 ·have h := si h; subst h
  exact pth Tryd.func41 [.br false] (fun e => ai (z0 c1) e) (by kernel_rfl)
def num_whole.f (a0 : Bool) (l1 : List Int) : Option (Bool × List Int) := if a0 = true then (some (decide ((l1.length : Int) > 0), l1)) else (some (false, l1))
theorem num_whole.c {a0 : Bool} {l1 : List Int} {r : Bool × List Int} (h : num_whole.f a0 l1 = some r) : Con Tryd.prog Gw 112 [.s (.b a0), .s (.sl .u64 l1)] (· = .ag [.b r.1, .sl .u64 r.2]) := by
 unfold num_whole.f at h
 rcases ite_e h with ⟨c1, h⟩ | ⟨c1, h⟩
 ·have h := si h; subst h
  exact pth Tryd.func112 [.br true, .br true, .br true, .br true] (fun e => ai c1 (ai c1 (ai c1 (ai c1 e)))) (by kernel_rfl)
 ·have h := si h; subst h
  exact pth Tryd.func112 [.br false, .br false, .br false, .br false] (fun e => ai (z0 c1) (ai (z0 c1) (ai (z0 c1) (ai (z0 c1) e)))) (by kernel_rfl)
def num_told.f (a0 : Bool) (l1 : List Int) (a2 : Int) : Option (Bool × List Int × Int) := if a2 = 0 then ((num_whole.f a0 l1).bind fun bt321 => (some (bt321.1, bt321.2, 0))) else (some (false, ([] : List Int), a2))
theorem num_told.c {a0 : Bool} {l1 : List Int} {a2 : Int} {r : Bool × List Int × Int} (h : num_told.f a0 l1 a2 = some r) : Con Tryd.prog Gw 89 [.s (.b a0), .s (.sl .u64 l1), .s (.i .i64 a2)] (· = .tu [.ag [.b r.1, .sl .u64 r.2.1], .s (.i .i64 r.2.2)]) := by
 unfold num_told.f at h
 rcases ite_e h with ⟨c1, h⟩ | ⟨c1, h⟩
 ·obtain ⟨bt321, A2, h⟩ := bnd h
  have h := si h; subst h
  exact pth Tryd.func89 [.br false, .r (.ag [.b bt321.1, .sl .u64 bt321.2])] (fun e => ai (n0 c1) (ai (num_whole.c A2) e)) (by kernel_rfl)
 ·have h := si h; subst h
  exact pth Tryd.func89 [.br true] (fun e => ai (n1 c1) e) (by kernel_rfl)
def num_Shl.f (a0_0 : Bool) (l0_1 : List Int) (a1 : Int) : Option (Bool × List Int × Int) := if a1 < 0 then (some (false, ([] : List Int), 1)) else ((num_Form.f a0_0 l0_1).bind fun t327 => (if t327 = true then ((nat_Shl.f l0_1 a1).bind fun bt328 => ((num_told.f a0_0 bt328.1 bt328.2).bind fun bt332 => (some (bt332.1, bt332.2.1, bt332.2.2)))) else (some (false, ([] : List Int), 2))))
theorem num_Shl.c {a0_0 : Bool} {l0_1 : List Int} {a1 : Int} {r : Bool × List Int × Int} (h : num_Shl.f a0_0 l0_1 a1 = some r) : Con Tryd.prog Gw 60 [.ag [.b a0_0, .sl .u64 l0_1], .s (.i .i64 a1)] (· = .tu [.ag [.b r.1, .sl .u64 r.2.1], .s (.i .i64 r.2.2)]) := by
 unfold num_Shl.f at h
 rcases ite_e h with ⟨c1, h⟩ | ⟨c1, h⟩
 ·have h := si h; subst h
  exact pth Tryd.func60 [.br true] (fun e => ai (d1 c1) e) (by kernel_rfl)
 ·obtain ⟨t327, A2, h⟩ := bnd h
  rcases ite_e h with ⟨c3, h⟩ | ⟨c3, h⟩
  ·obtain ⟨bt328, A4, h⟩ := bnd h
   obtain ⟨bt332, A5, h⟩ := bnd h
   have h := si h; subst h
   exact pth Tryd.func60 [.br false, .r (.s (.b t327)), .br false, .r (.tu [.s (.sl .u64 bt328.1), .s (.i .i64 bt328.2)]), .r (.tu [.ag [.b bt332.1, .sl .u64 bt332.2.1], .s (.i .i64 bt332.2.2)])] (fun e => ai (d0 c1) (ai (num_Form.c A2) (ai (nt1 c3) (ai (nat_Shl.c A4) (ai (num_told.c A5) e))))) (by kernel_rfl)
  ·have h := si h; subst h
   exact pth Tryd.func60 [.br false, .r (.s (.b t327)), .br true] (fun e => ai (d0 c1) (ai (num_Form.c A2) (ai (nt0 (z0 c3)) e))) (by kernel_rfl)
def round_widths_infinity.f (a0_0 : Int) (a0_1 : Int) (a0_2 : Int) : Option (Int) := if 0 ≤ a0_2 then (if 0 ≤ (wrap64 (a0_0 - 1)) then (some (IntKind.u64.wrap ((shl .u64 1 a0_2) - (shl .u64 1 (wrap64 (a0_0 - 1)))))) else (none)) else (none)
theorem round_widths_infinity.c {a0_0 : Int} {a0_1 : Int} {a0_2 : Int} {r : Int} (h : round_widths_infinity.f a0_0 a0_1 a0_2 = some r) : Con Tryd.prog Gw 72 [.ag [.i .i64 a0_0, .i .i64 a0_1, .i .i64 a0_2]] (· = .s (.i .u64 r)) := by
 unfold round_widths_infinity.f at h
 rcases ite_e h with ⟨c1, h⟩ | ⟨c1, h⟩
 ·rcases ite_e h with ⟨c2, h⟩ | ⟨c2, h⟩
  ·have h := si h; subst h
   exact pth Tryd.func72 [] (fun e => ai c1 (ai c2 e)) (by kernel_rfl)
  ·cases h
 ·cases h
end Go.Proofs.YtelfmddcjlocpaaDoor.PLib
