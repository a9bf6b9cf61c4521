/- The law BinaryNames over its printed functions: the classes' numbers and the two quiet NaNs are as the document says. No condition. -/
import Derived.Test.YthpnmkclboennaaPBinaryNamesx2
namespace Go.Proofs.Ythpnmkclboennaa.Pure
open Go.RowKit Go.Proofs.Ythpnmkclboennaa.PBinaryNames Go.Proofs.YthpnmkclboennaaW.PrintWords Go.Proofs.YthpnmkclboennaaW.PrintLast

theorem BinaryNames : gnomonlaw07_BinaryNames.Pure := by
  show gnomonlaw07_BinaryNames.f = some true
  decide +kernel

end Go.Proofs.Ythpnmkclboennaa.Pure
