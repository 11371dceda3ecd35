/- Steps (Ra Rg). Conditions: as stated. -/
import Derived.Test.YtnobjeelihkjmaaGreatDoorZk09
import Derived.Test.YtnobjeelihkjmaaGreatDoorZk22
import Derived.Test.YtnobjeelihkjmaaGreatDoorZk21
import Derived.Test.YtnobjeelihkjmaaGreatDoorZk20
import Derived.Test.YtnobjeelihkjmaaGreatDoorZk26
import Derived.Test.YtnobjeelihkjmaaGreatDoorZk17
import Derived.Test.YtnobjeelihkjmaaGreatDoorZk25
import Derived.Test.YtnobjeelihkjmaaGreatDoorZk31
import Derived.Test.YtnobjeelihkjmaaGreatDoorZk40
import Derived.Test.YtnobjeelihkjmaaGreatDoorZk12
set_option maxRecDepth 100000
namespace Go.Proofs.YtnobjeelihkjmaaGreatDoor
section
open Go.RowKit
theorem ad1.out {E:PE} {R:(x:Fn)→PM x.Out} {x:Fn} (h: ∀p,R x p= .out):ad1 E R x:=by
 cases x<;>(dsimp only [ad1,CN,CV];intros;rename_i hn;exact absurd (h _) hn)
theorem bA3 {E:PE} (hE:E.Ok): ∀f,f≤1073741824→∀x,ad1 E (runQ E.s E.m f) x
 |0,_=>fun _=>ad1.out fun _=>rfl
 |f+1,hf=>fun x=>by
  have hR:Env E (runQ E.s E.m f):=⟨hE,bA3 hE f (by omega)⟩
  exact match x with
  | .expression=>fun _ _ _ h hne=>S.expression hR f (by omega) h hne
  | .assign=>fun _ _ _ h hne=>S.assign hR h hne
  | .cond=>fun _ _ _ h hne=>S.cond hR h hne
  | .unary=>fun _ _ _ h hne=>S.unaO hR h hne
  | .spread=>fun _ _ _ h hne=>S.spread hR h hne
  | .assigned n=>fun _ _ _ v hn h hne=>S.asgC hR n v hn h hne
  | .binary least nullish=>fun _ _ _ _ h hne=>S.binary hR f least nullish h hne
  | .operand least=>fun _ _ _ h hne=>S.operand hR least h hne
  | .link n calls templates=>fun _ _ _ v hn h hne=>S.link hR n calls templates v hn h hne
  | .leftHand=>fun _ _ _ h hne=>S.lefO hR f h hne
  | .base t calls=>fun _ _ _ h hne=>S.basO hR t calls h hne
  | .primary t=>fun _ _ _ h hne=>S.primary hR t h hne
  | .named t=>fun _ _ _ h hne=>S.named hR t h hne
  | .paren t=>fun _ _ _ h hne=>S.parenR hR t h hne
  | .statements dir top e=>fun _ _ _ _ hend h hne=>S.statements hR f (by omega) dir top e hend h hne
  | .arguments from'=>fun _ _ _ h hne=>S.arguments hR f from' h hne
  | .callable text from' id of=>fun _ _ _ v hn h hne=>S.callable hR text from' id of v hn h hne
  | .formals of=>fun _ _ _ h hne=>S.formals hR f of h hne
  | .function=>fun _ _ _ h hne=>S.function hR h hne
  | .object=>fun _ _ _ h hne=>S.objectX hR f h hne
  | .prop=>fun _ _ _ h hne=>S.propC hR h hne
  | .members cls=>fun _ _ _ h hne=>S.membersC hR cls h hne
  | .takeKey cls=>fun _ _ _ h hne=>S.takeKey hR cls h hne
  | .method m=>fun _ _ _ v hm h hne=>S.methodC hR m v hm h hne
  | .element2=>fun _ _ _ h hne=>S.element2C hR h hne
  | .cls must=>fun _ _ _ h hne=>S.clsC hR f must h hne
  | .array=>ad1.out fun _=>rfl
  | .template _=>ad1.out fun _=>rfl
  | .yield=>ad1.out fun _=>rfl
  | .returned _=>ad1.out fun _=>rfl
  | .jump _=>ad1.out fun _=>rfl
  | .declaration _=>ad1.out fun _=>rfl
  | .funcs _=>ad1.out fun _=>rfl
  | .new _=>ad1.out fun _=>rfl
  | .arrowOf _=>ad1.out fun _=>rfl
  | .body _ _ _=>ad1.out fun _=>rfl
  | .params _=>ad1.out fun _=>rfl
  | .param _ _=>ad1.out fun _=>rfl
  | .optional _=>ad1.out fun _=>rfl
  | .chain _=>ad1.out fun _=>rfl
  | .block=>ad1.out fun _=>rfl
  | .args=>ad1.out fun _=>rfl
  | .index=>ad1.out fun _=>rfl
  | .inner=>ad1.out fun _=>rfl
  | .innerAssign=>ad1.out fun _=>rfl
  | .program=>ad1.out fun _=>rfl
  | .statement _ _=>ad1.out fun _=>rfl
  | .simple _=>ad1.out fun _=>rfl
  | .modular _ _=>ad1.out fun _=>rfl
  | .binding=>ad1.out fun _=>rfl
  | .arrayPattern=>ad1.out fun _=>rfl
  | .objectPattern=>ad1.out fun _=>rfl
  | .alone=>ad1.out fun _=>rfl
  | .head=>ad1.out fun _=>rfl
  | .element1=>ad1.out fun _=>rfl
  | .takeText=>ad1.out fun _=>rfl
  | .fromText=>ad1.out fun _=>rfl
  | .outer=>ad1.out fun _=>rfl
  | .plain _=>ad1.out fun _=>rfl
  | .element _ _ _=>ad1.out fun _=>rfl
  | .defaulted _=>ad1.out fun _=>rfl
  | .declared _ _=>ad1.out fun _=>rfl
  | .branch _=>ad1.out fun _=>rfl
  | .tried _=>ad1.out fun _=>rfl
  | .switched _=>ad1.out fun _=>rfl
  | .loop _=>ad1.out fun _=>rfl
  | .through _ _ _=>ad1.out fun _=>rfl
  | .counted _ _=>ad1.out fun _=>rfl
  | .imported _=>ad1.out fun _=>rfl
  | .specs _=>ad1.out fun _=>rfl
  | .exported _=>ad1.out fun _=>rfl
  | .defaultOf _=>ad1.out fun _=>rfl
  | .markup _=>ad1.out fun _=>rfl
  | .attr _=>ad1.out fun _=>rfl
  | .children _=>ad1.out fun _=>rfl
  | .closing _ _=>ad1.out fun _=>rfl
  | .jname _=>ad1.out fun _=>rfl
end
section
open Go.RowKit
theorem br1 (s:ByteArray) (m:Bool) (f:Nat) (hs:s.size≤1048576) (hf:f≤1073741824) (w:World) (hx:Lx w) (hne:aS7 s m f≠ .out):
  Calls Tryz.prog 11 #[.string s,.bool m] w fun e w'=>ExA (aS7 s m f) e w'∧Below w.heap.size w w':=
 br0 hs w hx (fun E F w1 p hE h1 h2 hst hn=>by
  subst h1 h2
  exact S.expr1 ⟨hE,bA3 hE f hf⟩ hst hn) hne
end
end Go.Proofs.YtnobjeelihkjmaaGreatDoor
