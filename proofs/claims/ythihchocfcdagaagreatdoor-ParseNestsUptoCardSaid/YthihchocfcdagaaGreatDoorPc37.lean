/- Parts: Plain: what Program reads of lines that go on with the one ahead, and of some that do not. No condition. -/
import Derived.Test.YthihchocfcdagaaGreatDoorPc09
namespace Go.Proofs.YthihchocfcdagaaGreatDoor
section
def manyQ (s:ByteArray) (k F:Nat):Bool:=match programQ s false F with
 | .ok n _=>decide (ndSize n≤8000) && decide ((bareNd n).kids.length=k)
 |_=>false
end
end Go.Proofs.YthihchocfcdagaaGreatDoor
