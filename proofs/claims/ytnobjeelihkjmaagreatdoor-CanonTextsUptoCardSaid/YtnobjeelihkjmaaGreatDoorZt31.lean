/- Steps (Ra Rg). Conditions: as stated. -/
import Derived.Test.YtnobjeelihkjmaaGreatDoorZt09
import Derived.Test.YtnobjeelihkjmaaGreatDoorZt21
import Derived.Test.YtnobjeelihkjmaaGreatDoorZt20
import Derived.Test.YtnobjeelihkjmaaGreatDoorZt19
import Derived.Test.YtnobjeelihkjmaaGreatDoorZt25
import Derived.Test.YtnobjeelihkjmaaGreatDoorZt17
import Derived.Test.YtnobjeelihkjmaaGreatDoorZt24
import Derived.Test.YtnobjeelihkjmaaGreatDoorZt30
import Derived.Test.YtnobjeelihkjmaaGreatDoorZt12
set_option maxRecDepth 100000
namespace Go.Proofs.YtnobjeelihkjmaaGreatDoor
section
open Go.RowKit
theorem ad8.out {E:PE} {R:(x:Fn)→PM x.Out} {x:Fn} (h: ∀p,R x p= .out):ad8 E R x:=by
 cases x<;>(dsimp only [ad8,CN,CV];intros;rename_i hn;exact absurd (h _) hn)
theorem bt4 {E:PE} (hE:E.Ok): ∀f,f≤1073741824→∀x,ad8 E (runQ E.s E.m f) x
 |0,_=>fun _=>ad8.out fun _=>rfl
 |f+1,hf=>fun x=>by
  have hR:Env E (runQ E.s E.m f):=⟨hE,bt4 hE f (by omega)⟩
  exact match x with
  | .expression=>fun _ _ _ h hne=>S.expression hR f (by omega) h hne
  | .inner=>fun _ _ _ h hne=>S.inner hR h hne
  | .innerAssign=>fun _ _ _ h hne=>S.innerAssign hR h hne
  | .assign=>fun _ _ _ h hne=>S.assign hR h hne
  | .cond=>fun _ _ _ h hne=>S.cond hR h hne
  | .unary=>fun _ _ _ h hne=>S.unaO hR h hne
  | .args=>fun _ _ _ h hne=>S.args hR h hne
  | .spread=>fun _ _ _ h hne=>S.spread hR h hne
  | .index=>fun _ _ _ h hne=>S.index hR h hne
  | .program=>fun _ _ _ h hne=>S.program hR h hne
  | .assigned n=>fun _ _ _ v hn h hne=>S.asgO hR n v hn h hne
  | .binary least nullish=>fun _ _ _ _ h hne=>S.binary hR f least nullish h hne
  | .operand least=>fun _ _ _ h hne=>S.operand hR least h hne
  | .link n calls templates=>fun _ _ _ v hn h hne=>S.link hR n calls templates v hn h hne
  | .leftHand=>fun _ _ _ h hne=>S.lefO hR f h hne
  | .base t calls=>fun _ _ _ h hne=>S.basO hR t calls h hne
  | .primary t=>fun _ _ _ h hne=>S.primary hR t h hne
  | .named t=>fun _ _ _ h hne=>S.named hR t h hne
  | .paren t=>fun _ _ _ h hne=>S.parenR hR t h hne
  | .statements dir top e=>fun _ _ _ _ hend h hne=>S.statements hR f (by omega) dir top e hend h hne
  | .statement t list=>fun _ _ _ h hne=>S.statement hR t list h hne
  | .simple t=>fun _ _ _ h hne=>S.simple hR t h hne
  | .arguments from'=>fun _ _ _ h hne=>S.arguments hR f from' h hne
  | .modular t top=>fun _ _ _ h hne=>S.modular t top h hne
  | .object=>fun _ _ _ h hne=>S.objectX hR f h hne
  | .prop=>fun _ _ _ h hne=>S.propX hR h hne
  | .members cls=>fun _ _ _ h hne=>S.membersX hR cls h hne
  | .takeKey cls=>fun _ _ _ h hne=>S.takeKey hR cls h hne
  | .array=>ad8.out fun _=>rfl
  | .template _=>ad8.out fun _=>rfl
  | .yield=>ad8.out fun _=>rfl
  | .returned _=>ad8.out fun _=>rfl
  | .jump _=>ad8.out fun _=>rfl
  | .declaration _=>ad8.out fun _=>rfl
  | .funcs _=>ad8.out fun _=>rfl
  | .callable _ _ _ _=>ad8.out fun _=>rfl
  | .formals _=>ad8.out fun _=>rfl
  | .function=>ad8.out fun _=>rfl
  | .new _=>ad8.out fun _=>rfl
  | .arrowOf _=>ad8.out fun _=>rfl
  | .body _ _ _=>ad8.out fun _=>rfl
  | .params _=>ad8.out fun _=>rfl
  | .param _ _=>ad8.out fun _=>rfl
  | .optional _=>ad8.out fun _=>rfl
  | .chain _=>ad8.out fun _=>rfl
  | .block=>ad8.out fun _=>rfl
  | .binding=>ad8.out fun _=>rfl
  | .arrayPattern=>ad8.out fun _=>rfl
  | .objectPattern=>ad8.out fun _=>rfl
  | .element2=>ad8.out fun _=>rfl
  | .alone=>ad8.out fun _=>rfl
  | .head=>ad8.out fun _=>rfl
  | .element1=>ad8.out fun _=>rfl
  | .takeText=>ad8.out fun _=>rfl
  | .fromText=>ad8.out fun _=>rfl
  | .outer=>ad8.out fun _=>rfl
  | .plain _=>ad8.out fun _=>rfl
  | .element _ _ _=>ad8.out fun _=>rfl
  | .method _=>ad8.out fun _=>rfl
  | .defaulted _=>ad8.out fun _=>rfl
  | .cls _=>ad8.out fun _=>rfl
  | .declared _ _=>ad8.out fun _=>rfl
  | .branch _=>ad8.out fun _=>rfl
  | .tried _=>ad8.out fun _=>rfl
  | .switched _=>ad8.out fun _=>rfl
  | .loop _=>ad8.out fun _=>rfl
  | .through _ _ _=>ad8.out fun _=>rfl
  | .counted _ _=>ad8.out fun _=>rfl
  | .imported _=>ad8.out fun _=>rfl
  | .specs _=>ad8.out fun _=>rfl
  | .exported _=>ad8.out fun _=>rfl
  | .defaultOf _=>ad8.out fun _=>rfl
  | .markup _=>ad8.out fun _=>rfl
  | .attr _=>ad8.out fun _=>rfl
  | .children _=>ad8.out fun _=>rfl
  | .closing _ _=>ad8.out fun _=>rfl
  | .jname _=>ad8.out fun _=>rfl
end
section
open Go.RowKit
theorem bC4 (s:ByteArray) (m:Bool) (f:Nat) (hs:s.size≤1048576) (hf:f≤1073741824) (w:World) (hx:Lx w) (hne:aY9 s m f≠ .out):
  Calls Tryz.prog 11 #[.string s,.bool m] w fun e w'=>ExA (aY9 s m f) e w'∧Below w.heap.size w w':=
 bC3 hs w hx (fun E F w1 p hE h1 h2 hst hn=>by
  subst h1 h2
  exact S.expr1 ⟨hE,bt4 hE f hf⟩ hst hn) hne
theorem aX5 (s:ByteArray) (m:Bool) (f:Nat) (hs:s.size≤1048576) (hf:f≤1073741824) (w:World) (hx:Lx w) (hne:ao5 s m f≠ .out):
  Calls Tryz.prog 14 #[.string s,.bool m] w fun e w'=>PgA (ao5 s m f) e w'∧Below w.heap.size w w':=
 aX4 hs w hx (fun E F w1 p hE h1 h2 hst hn=>by
  subst h1 h2
  exact bt4 hE f hf .program F w1 p hst hn) hne
end
end Go.Proofs.YtnobjeelihkjmaaGreatDoor
