/- Steps (Su Rh Rj Rn). Conditions: as stated. -/
import Derived.Test.YtcgbkjhoifhnnaaGreatDoorZe08
set_option maxRecDepth 100000
namespace Go.Proofs.YtcgbkjhoifhnnaaGreatDoor
section
def stepQ (s:ByteArray) (module:Bool) (f:Nat) (R:(x:Fn)→PM x.Out):(x:Fn)→PM x.Out
 | .arguments from'=>ak7 s f R from'
 | .declaration must=>af7 R must
 | .funcs must=>aD9 s module R must
 | .callable text from' id of=>ai5 R text from' id of
 | .formals of=>aq7 s f of
 | .function=>an8 s R
 | .statement t list=>aa9 s module R t list
 | .statements dir top e=>ao4 s f R dir top e
 | .alone=>aD1 s R
 | .head=>aS1 s R
 | .binding=>aq5 s module
 | .declared t none=>ah7 s R t
 | .branch t=>av4 s R t
 | .cls must=>aD6 s module must
 |x=>bL5 s module f R x
def runQ (s:ByteArray) (module:Bool):Nat→(x:Fn)→PM x.Out
 |0,_=>outP
 |f+1,x=>stepQ s module f (runQ s module f) x
def bg8 (s:ByteArray) (m:Bool) (f:Nat):Res Nd:=aA0 (aO0 s (runQ s m f)) (ps0 m)
def ai6 (s:ByteArray) (m:Bool) (f:Nat):Res Nd:=aA0 (runQ s m f .program) (ps0 m)
end
section
def sumQ:Res Nd→Option (Int × Nat × Nat)
 | .ok n q=>some (n.kind,n.kids.length,q.cms.length)
 |_=>none
def badQ:Res Nd→Option (Int × Int)
 | .bad c i=>some (c,i)
 |_=>none
theorem bE8:(sumQ (ai6 ⟨#[97,32,47,47,32,99,10,43,43,98]⟩ false 40)).map (·.2)=some (2,1):=by decide+kernel
theorem bE9:(sumQ (bg8 ⟨#[40,97,44,32,98,41,32,61,62,32,97]⟩ false 40)).map (·.1)=some 22:=by decide+kernel
theorem bF0:badQ (ai6 ⟨#[97,32,63,63,32,98,32,124,124,32,99]⟩ false 40)=some (1001,7):=by decide+kernel
end
section
def opsL:List ByteArray:= [⟨#[124,124]⟩,⟨#[38,38]⟩,⟨#[124]⟩,⟨#[94]⟩,⟨#[38]⟩,⟨#[61,61]⟩,⟨#[33,61]⟩,⟨#[61,61,61]⟩,⟨#[33,61,61]⟩,⟨#[60]⟩,⟨#[62]⟩,⟨#[60,61]⟩,⟨#[62,61]⟩,⟨#[105,110]⟩,⟨#[105,110,115,116,97,110,99,101,111,102]⟩,⟨#[60,60]⟩,⟨#[62,62]⟩,⟨#[62,62,62]⟩,⟨#[43]⟩,⟨#[45]⟩,⟨#[42]⟩,⟨#[47]⟩,⟨#[37]⟩,⟨#[42,42]⟩,⟨#[63,63]⟩]
end
section
open Go.RowKit
theorem bj8 (x:Int) (w:World):Calls Tryz.prog 13 #[.int .i64 x] w fun e w'=>e= .returned (.int .i64 x)∧w'=w:=by
 go_enter Tryz.func13,Tryz.ntmps13
 go_wp2_with fail
 go_ret
 exact⟨rfl,rfl⟩
end
end Go.Proofs.YtcgbkjhoifhnnaaGreatDoor
