/- agg.One: how one aggregate lies; (One).sort, (*Acc).Count's kind of cell: walked. -/
import Derived.Test.YtjnlonemnjljiaaDoorAggTotal
import Derived.Test.YtjnlonemnjljiaaDoorVals
namespace Go.Proofs.YtjnlonemnjljiaaDoor
open Go.ChangeShapes Go.WideShapes Go.ChangeAt Go.RowKit

structure One where
  what : ByteArray
  type : Int
  sum : Int
  edge : Val
def oneCells (o : One) : List Value := [.string o.what, .int .i64 o.type, .int .i64 (hiOf o.sum), .int .u64 (loOf o.sum), .int .i64 o.edge.type, .int .i64 o.edge.n, .string o.edge.s]
def isCount (s : ByteArray) : Prop := s.data.toList = [99, 111, 117, 110, 116]
instance (s : ByteArray) : Decidable (isCount s) := inferInstanceAs (Decidable (_ = _))
/-- What one is of. -/
def sortOf (o : One) : One := ⟨o.what, if isCount o.what then 0 else o.type, 0, noVal⟩
end Go.Proofs.YtjnlonemnjljiaaDoor
