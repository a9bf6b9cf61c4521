/- slices.Clone and dyadic.twin on rows of limbs of any length. Conditions: rows of less than 2^40 limbs. -/
import Derived.Test.YtelfmddcjlocpaaDoorKRoundDecidedGJ
namespace Go.Proofs.YtelfmddcjlocpaaDoor.GK
open Go.RowKit Go.Proofs.YtelfmddcjlocpaaDoorW.PrintWords Go.Proofs.YtelfmddcjlocpaaDoorW.PrintMore Go.Proofs.YtelfmddcjlocpaaDoorW.PrintLast Go.Proofs.YtelfmddcjlocpaaDoor.Num Go.Proofs.YtelfmddcjlocpaaDoor.Ref Go.Proofs.YtelfmddcjlocpaaDoor.GBase Go.Proofs.YtelfmddcjlocpaaDoor.GTab Go.Proofs.YtelfmddcjlocpaaDoor.GTh Go.Proofs.YtelfmddcjlocpaaDoor.GA Go.Proofs.YtelfmddcjlocpaaDoor.GB Go.Proofs.YtelfmddcjlocpaaDoor.GC Go.Proofs.YtelfmddcjlocpaaDoor.GG Go.Proofs.YtelfmddcjlocpaaDoor.GH Go.Proofs.YtelfmddcjlocpaaDoor.GJ
theorem At.set {w : World} {G o n x : Nat} (h : At w G o n x) {g : Nat} (hg : G ≠ g) (k : Nat) (v : Value) : At (w.setCell ⟨g, k, none⟩ v) G o n x :=
 ⟨h.big, fun j hj => (World.cell?_setCell_other _ _ _ _ (fun e => hg (congrArg Addr.block e).symm)).trans (h.cell j hj)⟩
theorem Rw.set {w : World} {A : Option Addr} {n c x : Nat} (h : Rw w A n c x) {g : Nat} (hg : ∀ G o, A = some ⟨G, o, none⟩ → G ≠ g) (k : Nat) (v : Value) : Rw (w.setCell ⟨g, k, none⟩ v) A n c x :=
 ⟨h.cap, h.row.imp id (fun ⟨G, o, e, q⟩ => ⟨G, o, e, At.set q (hg G o e) k v⟩)⟩
end Go.Proofs.YtelfmddcjlocpaaDoor.GK
