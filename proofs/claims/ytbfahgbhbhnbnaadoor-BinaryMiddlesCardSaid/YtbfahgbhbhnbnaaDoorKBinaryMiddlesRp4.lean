/- The order of dyadics as the order of their values; Decide; calls on given numbers. Plain Lean over the printed functions. Conditions: numbers in form. -/
import Derived.Test.YtbfahgbhbhnbnaaDoorKBinaryMiddlesRp3
namespace Go.Proofs.YtbfahgbhbhnbnaaDoor.Rp4
open Go.RowKit Go.Proofs.YtbfahgbhbhnbnaaDoorW.PrintWords Go.Proofs.YtbfahgbhbhnbnaaDoorW.PrintMore Go.Proofs.YtbfahgbhbhnbnaaDoor.Num Go.Proofs.YtbfahgbhbhnbnaaDoor.PLib Go.Proofs.YtbfahgbhbhnbnaaDoor.Ref Go.Proofs.YtbfahgbhbhnbnaaDoor.GTh Go.Proofs.YtbfahgbhbhnbnaaDoor.Given Go.Proofs.YtbfahgbhbhnbnaaDoor.Rp1 Go.Proofs.YtbfahgbhbhnbnaaDoor.Rp2 Go.Proofs.YtbfahgbhbhnbnaaDoor.Rp3 Go.Proofs.YtbfahgbhbhnbnaaDoor.BinLaw Go.Proofs.YtbfahgbhbhnbnaaDoor.Fm8
def vs (neg : Bool) (m : Nat) (x E : Int) : Int := if neg then -((m * 2^(x - E).toNat : Nat) : Int) else ((m * 2^(x - E).toNat : Nat) : Int)
end Go.Proofs.YtbfahgbhbhnbnaaDoor.Rp4
