/- Steps (Su). Conditions: as stated. -/
import Derived.Test.YtnobjeelihkjmaaGreatDoorZk08
namespace Go.Proofs.YtnobjeelihkjmaaGreatDoor
section
def stepQ (s:ByteArray) (module:Bool) (f:Nat) (R:(x:Fn)→PM x.Out):(x:Fn)→PM x.Out
 | .arguments from'=>an1 s f R from'
 | .paren t=>aP9 s R t
 | .callable text from' id of=>aj7 R text from' id of
 | .formals of=>av7 s f of
 | .function=>ar0 s R
 | .object=>aE6 s f R
 | .prop=>aQ2 s R
 | .members cls=>ag1 s R cls
 | .takeKey _=>ax6 s
 | .method m=>aw1 s R m
 | .element2=>an5 s R
 | .cls must=>aC9 s f R must
 | .unary=>aR1 s R
 | .base t calls=>bi4 R t calls
 | .assigned n=>an2 s R n
 | .leftHand=>al3 s f R
 | .new _=>outP
 | .arrowOf _=>outP
 | .body _ _ _=>outP
 | .params _=>outP
 | .param _ _=>outP
 | .optional _=>outP
 | .chain _=>outP
 | .block=>outP
 | .args=>outP
 | .index=>outP
 | .inner=>outP
 | .innerAssign=>outP
 | .program=>outP
 | .statement _ _=>outP
 | .simple _=>outP
 | .modular _ _=>outP
 |x=>bM2 s module f R x
def runQ (s:ByteArray) (module:Bool):Nat→(x:Fn)→PM x.Out
 |0,_=>outP
 |f+1,x=>stepQ s module f (runQ s module f) x
def aS7 (s:ByteArray) (m:Bool) (f:Nat):Res Nd:=aQ5 (aN8 s (runQ s m f)) (ps0 m)
end
end Go.Proofs.YtnobjeelihkjmaaGreatDoor
