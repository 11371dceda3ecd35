/- Steps (Su). Conditions: as stated. -/
import Derived.Test.YtnobjeelihkjmaaGreatDoorZt08
namespace Go.Proofs.YtnobjeelihkjmaaGreatDoor
section
def stepQ (s:ByteArray) (module:Bool) (f:Nat) (R:(x:Fn)→PM x.Out):(x:Fn)→PM x.Out
 | .arguments from'=>ai3 s f R from'
 | .paren t=>az0 s R t
 | .object=>aw2 s f R
 | .prop=>ba3 s module R
 | .members cls=>aq6 s R cls
 | .takeKey _=>ar6 s
 | .unary=>aK2 s R
 | .base t calls=>aA7 R t calls
 | .assigned n=>an2 s n
 | .leftHand=>af1 s f R
 | .new _=>outP
 | .arrowOf _=>outP
 | .body _ _ _=>outP
 | .params _=>outP
 | .param _ _=>outP
 | .optional _=>outP
 | .chain _=>outP
 | .block=>outP
 |x=>cf5 s module f R x
def runQ (s:ByteArray) (module:Bool):Nat→(x:Fn)→PM x.Out
 |0,_=>outP
 |f+1,x=>stepQ s module f (runQ s module f) x
def aY9 (s:ByteArray) (m:Bool) (f:Nat):Res Nd:=az6 (aM3 s (runQ s m f)) (ps0 m)
def ao5 (s:ByteArray) (m:Bool) (f:Nat):Res Nd:=az6 (runQ s m f .program) (ps0 m)
end
end Go.Proofs.YtnobjeelihkjmaaGreatDoor
