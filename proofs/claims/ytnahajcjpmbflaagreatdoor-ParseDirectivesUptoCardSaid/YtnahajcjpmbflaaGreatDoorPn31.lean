/- Steps (Ra Rg). Conditions: as stated. -/
import Derived.Test.YtnahajcjpmbflaaGreatDoorPn09
import Derived.Test.YtnahajcjpmbflaaGreatDoorPn13
import Derived.Test.YtnahajcjpmbflaaGreatDoorPn14
import Derived.Test.YtnahajcjpmbflaaGreatDoorPn21
import Derived.Test.YtnahajcjpmbflaaGreatDoorPn23
import Derived.Test.YtnahajcjpmbflaaGreatDoorPn24
import Derived.Test.YtnahajcjpmbflaaGreatDoorPn22
import Derived.Test.YtnahajcjpmbflaaGreatDoorPn29
import Derived.Test.YtnahajcjpmbflaaGreatDoorPn19
import Derived.Test.YtnahajcjpmbflaaGreatDoorPn18
import Derived.Test.YtnahajcjpmbflaaGreatDoorPn26
import Derived.Test.YtnahajcjpmbflaaGreatDoorPn27
import Derived.Test.YtnahajcjpmbflaaGreatDoorPn28
import Derived.Test.YtnahajcjpmbflaaGreatDoorPn30
import Derived.Test.YtnahajcjpmbflaaGreatDoorPn12
set_option maxRecDepth 100000
namespace Go.Proofs.YtnahajcjpmbflaaGreatDoor
section
open Go.RowKit
theorem Holds.out {E:PE} {R:(x:Fn)→PM x.Out} {x:Fn} (h: ∀p,R x p= .out):Holds E R x:=by
 cases x<;>(dsimp only [Holds];intros;rename_i hn;exact absurd (h _) hn)
theorem holdsQ {E:PE} (hE:E.Ok): ∀f,f≤1073741824→∀x,Holds E (runQ E.s E.m f) x
 |0,_=>fun _=>Holds.out fun _=>rfl
 |f+1,hf=>fun x=>by
  have hR:Env E (runQ E.s E.m f):=⟨hE,holdsQ hE f (by omega)⟩
  exact match x with
  | .expression=>fun _ _ _ h hne=>S.expression hR f (by omega) h hne
  | .inner=>fun _ _ _ h hne=>S.inner hR h hne
  | .innerAssign=>fun _ _ _ h hne=>S.innerAssign hR h hne
  | .assign=>fun _ _ _ h hne=>S.assign hR h hne
  | .cond=>fun _ _ _ h hne=>S.cond hR h hne
  | .unary=>fun _ _ _ h hne=>S.unary hR h hne
  | .args=>fun _ _ _ h hne=>S.args hR h hne
  | .spread=>fun _ _ _ h hne=>S.spread hR h hne
  | .index=>fun _ _ _ h hne=>S.index hR h hne
  | .program=>fun _ _ _ h hne=>S.program hR h hne
  | .arrowOf t=>fun _ _ _ h hne=>S.arrowOf hR t h hne
  | .body text from' ps=>fun _ _ _ v hn h hne=>S.body hR text from' ps v hn h hne
  | .assigned n=>fun _ _ _ v hn h hne=>S.assigned hR n v hn h hne
  | .param n last=>fun _ _ _ v hn h hne=>S.param n last v hn h hne
  | .params n=>fun _ _ _ v hn h hne=>S.params hR n v hn h hne
  | .binary least nullish=>fun _ _ _ _ h hne=>S.binary hR f least nullish h hne
  | .operand least=>fun _ _ _ h hne=>S.operand hR least h hne
  | .link n calls templates=>fun _ _ _ v hn h hne=>S.link hR n calls templates v hn h hne
  | .optional n=>fun _ _ _ v hn h hne=>S.optional hR n v hn h hne
  | .chain n=>fun _ _ _ v hn h hne=>S.chain hR f n v hn h hne
  | .leftHand=>fun _ _ _ h hne=>S.leftHand hR f h hne
  | .base t calls=>fun _ _ _ h hne=>S.base hR t calls h hne
  | .new from'=>fun _ _ _ h hne=>S.new hR f from' h hne
  | .primary t=>fun _ _ _ h hne=>S.primary hR t h hne
  | .named t=>fun _ _ _ h hne=>S.named hR t h hne
  | .paren t=>fun _ _ _ h hne=>S.parenR hR t h hne
  | .statements dir top e=>fun _ _ _ _ hend h hne=>S.statementsD hR f (by omega) dir top e hend h hne
  | .statement t list=>fun _ _ _ h hne=>S.statementX hR t list h hne
  | .simple t=>fun _ _ _ h hne=>S.simple hR t h hne
  | .arguments from'=>fun _ _ _ h hne=>S.arguments hR f from' h hne
  | .template b=>fun _ _ _ h hne=>S.template hR b h hne
  | .yield=>fun _ _ _ h hne=>S.yield hR h hne
  | .returned t=>fun _ _ _ h hne=>S.returned hR t h hne
  | .jump t=>fun _ _ _ h hne=>S.jump hR t h hne
  | .declaration must=>fun _ _ _ h hne=>S.declaration hR must h hne
  | .funcs must=>fun _ _ _ h hne=>S.funcs hR must h hne
  | .callable text from' id of=>fun _ _ _ v hn h hne=>S.callable hR text from' id of v hn h hne
  | .formals of=>fun _ _ _ h hne=>S.formals hR f of h hne
  | .function=>fun _ _ _ h hne=>S.function hR h hne
  | .block=>fun _ _ _ h hne=>S.block hR h hne
  | .modular t top=>fun _ _ _ h hne=>S.modular t top h hne
  | .switched t=>fun _ _ _ h hne=>S.switched hR f (by omega) t h hne
  | .head=>fun _ _ _ h hne=>S.head hR h hne
  | .array=>Holds.out fun _=>rfl
  | .binding=>Holds.out fun _=>rfl
  | .arrayPattern=>Holds.out fun _=>rfl
  | .objectPattern=>Holds.out fun _=>rfl
  | .object=>Holds.out fun _=>rfl
  | .prop=>Holds.out fun _=>rfl
  | .element2=>Holds.out fun _=>rfl
  | .alone=>Holds.out fun _=>rfl
  | .element1=>Holds.out fun _=>rfl
  | .takeText=>Holds.out fun _=>rfl
  | .fromText=>Holds.out fun _=>rfl
  | .outer=>Holds.out fun _=>rfl
  | .plain _=>Holds.out fun _=>rfl
  | .element _ _ _=>Holds.out fun _=>rfl
  | .takeKey _=>Holds.out fun _=>rfl
  | .members _=>Holds.out fun _=>rfl
  | .method _=>Holds.out fun _=>rfl
  | .defaulted _=>Holds.out fun _=>rfl
  | .cls _=>Holds.out fun _=>rfl
  | .declared _ _=>Holds.out fun _=>rfl
  | .branch _=>Holds.out fun _=>rfl
  | .tried _=>Holds.out fun _=>rfl
  | .loop _=>Holds.out fun _=>rfl
  | .through _ _ _=>Holds.out fun _=>rfl
  | .counted _ _=>Holds.out fun _=>rfl
  | .imported _=>Holds.out fun _=>rfl
  | .specs _=>Holds.out fun _=>rfl
  | .exported _=>Holds.out fun _=>rfl
  | .defaultOf _=>Holds.out fun _=>rfl
  | .markup _=>Holds.out fun _=>rfl
  | .attr _=>Holds.out fun _=>rfl
  | .children _=>Holds.out fun _=>rfl
  | .closing _ _=>Holds.out fun _=>rfl
  | .jname _=>Holds.out fun _=>rfl
end
section
open Go.RowKit
theorem Expr_tie (s:ByteArray) (m:Bool) (f:Nat) (hs:s.size≤1048576) (hf:f≤1073741824) (w:World) (hx:Lx w) (hne:exprQ s m f≠ .out):
  Calls Tryz.prog 14 #[.string s,.bool m] w fun e w'=>ExA (exprQ s m f) e w'∧Below w.heap.size w w':=
 Expr_any hs w hx (fun E F w1 p hE h1 h2 hst hn=>by
  subst h1 h2
  exact S.expr1 ⟨hE,holdsQ hE f hf⟩ hst hn) hne
theorem Program_tie (s:ByteArray) (m:Bool) (f:Nat) (hs:s.size≤1048576) (hf:f≤1073741824) (w:World) (hx:Lx w) (hne:programQ s m f≠ .out):
  Calls Tryz.prog 13 #[.string s,.bool m] w fun e w'=>PgA (programQ s m f) e w'∧Below w.heap.size w w':=
 Program_any hs w hx (fun E F w1 p hE h1 h2 hst hn=>by
  subst h1 h2
  exact holdsQ hE f hf .program F w1 p hst hn) hne
end
end Go.Proofs.YtnahajcjpmbflaaGreatDoor
