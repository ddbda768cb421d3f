import Derived.Test.YtebickoieipjpaaLaw04a
import Derived.Test.YtebickoieipjpaaLaw04b
import Derived.Test.YtebickoieipjpaaLaw04c
import Derived.Test.YtebickoieipjpaaRowRec
namespace Go.Proofs.Ytebickoieipjpaa
open Go.RowKit Go.Gi Go.GiRow
theorem recCuts_any (r : RecR) (A : Option Addr) (c : Nat) (B : Option Addr) (d : Nat) (cut : Int) (more : List UInt8) (w : World) (hA : RdRows StR.cells 4 w A r.txs) (hD : RdRows DiR.cells 2 w B r.dirty) (hw : RecW r)
    (hl : r.txs.length ≤ 9223372036854775807) (hd : r.dirty.length ≤ 9223372036854775807) (hm : more.length ≤ 140737488351232) :
    Calls Try.prog 3 #[r.val A c B d, .int .i64 cut, .string (bs more)] w fun e w' => e = .returned (.bool true) ∧ Below w.heap.size w w' := by
  by_cases hr : recOk r
  · by_cases hm0 : more = []
    · exact recCuts_same r A c B d cut more w hA hD hw hl hd hm hr hm0
    · exact recCuts_more r A c B d cut more w hA hD hw hl hd hm hr hm0
  · exact recCuts_no r A c B d cut more w hA hD hw hl hd hm hr
end Go.Proofs.Ytebickoieipjpaa
