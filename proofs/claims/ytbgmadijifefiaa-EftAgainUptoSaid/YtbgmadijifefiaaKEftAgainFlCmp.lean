/- Comparisons of binary64 words told by whole numbers; sums with what lies above the greatest number. Plain Lean. Conditions: as each lemma says. -/
import Derived.Test.YtbgmadijifefiaaKEftAgainFlWalk
namespace Fl
open Ieee Go
theorem read_nan {w : Nat} (h : INF < sz w) : ∃ s f, double.read w = .nan s f := by
  unfold Format.read
  simp only [d_sign, d_binade, d_inf, d_least]
  change ∃ s f, (if sz w < 2^52 then Datum.number (ng w) (sz w) (-1074) else if sz w < INF then _ else if sz w = INF then _ else _) = _
  have hI : INF = 9218868437227405312 := by decide
  rw [if_neg (by omega), if_neg (by omega), if_neg (by omega)]
  exact ⟨_, _, rfl⟩
end Fl
