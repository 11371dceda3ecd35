/- Parts: Plain: what Program reads of lines that go on with the one ahead, and of some that do not. No condition. | Plain: what Program reads where a line's end ends a statement. No condition. -/
import Derived.Test.YthihchocfcdagaaGreatDoorPn09
namespace Go.Proofs.YthihchocfcdagaaGreatDoor
section
def goF:List ByteArray:= [⟨#[43,32,98]⟩,⟨#[45,32,98]⟩,⟨#[42,32,98]⟩,⟨#[47,32,98]⟩,⟨#[40,98,41]⟩,⟨#[91,98,93]⟩,⟨#[96,98,96]⟩,⟨#[46,98]⟩,⟨#[63,46,98]⟩,⟨#[63,32,98,32,58,32,99]⟩,⟨#[44,32,98]⟩,⟨#[61,32,98]⟩,⟨#[61,61,61,32,98]⟩,⟨#[105,110,32,98]⟩,⟨#[105,110,115,116,97,110,99,101,111,102,32,98]⟩,⟨#[38,38,32,98]⟩,⟨#[47,98,47,99]⟩]
def sameQ (s t:ByteArray) (F:Nat):Bool:=match programQ s false F,programQ t false F with
 | .ok n _,.ok m _=>decide (ndSize n≤8000) && decide (ndSize m≤8000) && sameNd (.mk 0 ⟨#[]⟩ (bareNd n).kids 0 0) (.mk 0 ⟨#[]⟩ (bareNd m).kids 0 0) && decide ((bareNd n).kids.length=1)
 |_,_=>false
def manyQ (s:ByteArray) (k F:Nat):Bool:=match programQ s false F with
 | .ok n _=>decide (ndSize n≤8000) && decide ((bareNd n).kids.length=k)
 |_=>false
set_option maxRecDepth 100000 in
theorem go_all: ∀f ∈ goF,sameQ (⟨#[97,10]⟩++f) (⟨#[97,32]⟩++f) 60=true:=by decide+kernel
set_option maxRecDepth 100000 in
theorem go_up:manyQ ⟨#[97,10,43,43,98]⟩ 2 60=true:=by decide+kernel
set_option maxRecDepth 100000 in
theorem go_down:manyQ ⟨#[97,10,45,45,10,98]⟩ 2 60=true:=by decide+kernel
end
section
def reH:List ByteArray:= [⟨#[114,101,116,117,114,110]⟩,⟨#[98,114,101,97,107]⟩,⟨#[99,111,110,116,105,110,117,101]⟩,⟨#[121,105,101,108,100]⟩,⟨#[97,115,121,110,99]⟩]
def reT (h:ByteArray):ByteArray:=(⟨#[102,117,110,99,116,105,111,110,42,32,102,40,41,32,123,32]⟩++h)++⟨#[10,97,32,125]⟩
def bodyQ (s:ByteArray) (F:Nat):Option Nat:=match programQ s false F with
 | .ok n _=>if ndSize n≤8000 then (match (bareNd n).kids with
  | [.mk _ _ (.mk _ _ [_,_,.mk _ _ ks _ _] _ _::_) _ _]=>some ks.length
  |_=>none) else none
 |_=>none
def codeP (s:ByteArray) (F:Nat):Option Int:=match programQ s false F with
 | .bad c _=>some c
 |_=>none
set_option maxRecDepth 100000 in
theorem re_all: ∀h ∈ reH,bodyQ (reT h) 60=some 2:=by decide+kernel
set_option maxRecDepth 100000 in
theorem re_throw:codeP ⟨#[116,104,114,111,119,10,97]⟩ 60=some 1001:=by decide+kernel
set_option maxRecDepth 100000 in
theorem re_arrow:codeP ⟨#[97,10,61,62,32,98]⟩ 60=some 1001:=by decide+kernel
set_option maxRecDepth 100000 in
theorem re_async:codeP ⟨#[97,115,121,110,99,32,97,10,61,62,32,98]⟩ 60=some 1001:=by decide+kernel
set_option maxRecDepth 100000 in
theorem re_up:manyQ ⟨#[97,10,43,43,10,98]⟩ 2 60=true:=by decide+kernel
end
end Go.Proofs.YthihchocfcdagaaGreatDoor
