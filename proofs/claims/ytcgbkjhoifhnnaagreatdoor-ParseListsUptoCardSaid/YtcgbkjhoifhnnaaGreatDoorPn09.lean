/- Steps (Su Rh Rj Rn). Conditions: as stated. -/
import Derived.Test.YtcgbkjhoifhnnaaGreatDoorPn08
set_option maxRecDepth 100000
namespace Go.Proofs.YtcgbkjhoifhnnaaGreatDoor
section
def stepQ (s:ByteArray) (module:Bool) (f:Nat) (R:(x:Fn)→PM x.Out):(x:Fn)→PM x.Out
 | .arguments from'=>ag9 s f R from'
 | .paren t=>aE5 s R t
 | .array=>aC0 s f R
 | .object=>au5 s f R
 | .prop=>aK9 s module R
 | .members cls=>ap7 s R cls
 | .takeKey _=>aq3 s
 |x=>bJ8 s module f R x
def runQ (s:ByteArray) (module:Bool):Nat→(x:Fn)→PM x.Out
 |0,_=>outP
 |f+1,x=>stepQ s module f (runQ s module f) x
def aA6 (s:ByteArray) (m:Bool) (f:Nat):Res Nd:=az5 (aH1 s (runQ s m f)) (ps0 m)
def aq2 (s:ByteArray) (m:Bool) (f:Nat):Res Nd:=az5 (runQ s m f .program) (ps0 m)
end
section
def sumQ:Res Nd→Option (Int × Nat × Nat)
 | .ok n q=>some (n.kind,n.kids.length,q.cms.length)
 |_=>none
def badQ:Res Nd→Option (Int × Int)
 | .bad c i=>some (c,i)
 |_=>none
theorem bE4:(sumQ (aq2 ⟨#[97,32,47,47,32,99,10,43,43,98]⟩ false 40)).map (·.2)=some (2,1):=by decide+kernel
theorem bE5:(sumQ (aA6 ⟨#[40,97,44,32,98,41,32,61,62,32,97]⟩ false 40)).map (·.1)=some 22:=by decide+kernel
theorem bE6:badQ (aq2 ⟨#[97,32,63,63,32,98,32,124,124,32,99]⟩ false 40)=some (1001,7):=by decide+kernel
end
section
def opsL:List ByteArray:= [⟨#[124,124]⟩,⟨#[38,38]⟩,⟨#[124]⟩,⟨#[94]⟩,⟨#[38]⟩,⟨#[61,61]⟩,⟨#[33,61]⟩,⟨#[61,61,61]⟩,⟨#[33,61,61]⟩,⟨#[60]⟩,⟨#[62]⟩,⟨#[60,61]⟩,⟨#[62,61]⟩,⟨#[105,110]⟩,⟨#[105,110,115,116,97,110,99,101,111,102]⟩,⟨#[60,60]⟩,⟨#[62,62]⟩,⟨#[62,62,62]⟩,⟨#[43]⟩,⟨#[45]⟩,⟨#[42]⟩,⟨#[47]⟩,⟨#[37]⟩,⟨#[42,42]⟩,⟨#[63,63]⟩]
end
section
open Go.RowKit
theorem bk2 (x:Int) (w:World):Calls Tryz.prog 13 #[.int .i64 x] w fun e w'=>e= .returned (.int .i64 x)∧w'=w:=by
 go_enter Tryz.func13,Tryz.ntmps13
 go_wp2_with fail
 go_ret
 exact⟨rfl,rfl⟩
end
end Go.Proofs.YtcgbkjhoifhnnaaGreatDoor
