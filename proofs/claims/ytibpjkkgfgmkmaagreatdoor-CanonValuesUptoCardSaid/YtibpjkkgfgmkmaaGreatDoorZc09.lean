/- Steps (Su). Conditions: as stated. -/
import Derived.Test.YtibpjkkgfgmkmaaGreatDoorZc08
namespace Go.Proofs.YtibpjkkgfgmkmaaGreatDoor
section
def stepQ (s:ByteArray) (module:Bool) (f:Nat) (R:(x:Fn)→PM x.Out):(x:Fn)→PM x.Out
 | .arguments from'=>ak5 s f R from'
 | .paren t=>ax9 s R t
 | .array=>aE2 s f R
 | .template b=>an5 b
 |x=>bU9 s module f R x
def runQ (s:ByteArray) (module:Bool):Nat→(x:Fn)→PM x.Out
 |0,_=>outP
 |f+1,x=>stepQ s module f (runQ s module f) x
def aB9 (s:ByteArray) (m:Bool) (f:Nat):Res Nd:=aO3 (aK1 s (runQ s m f)) (ps0 m)
end
end Go.Proofs.YtibpjkkgfgmkmaaGreatDoor
