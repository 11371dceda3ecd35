/- Steps (Ra Rg). Conditions: as stated. -/
import Derived.Test.YtibpjkkgfgmkmaaGreatDoorZc09
import Derived.Test.YtibpjkkgfgmkmaaGreatDoorZc13
import Derived.Test.YtibpjkkgfgmkmaaGreatDoorZc14
import Derived.Test.YtibpjkkgfgmkmaaGreatDoorZc21
import Derived.Test.YtibpjkkgfgmkmaaGreatDoorZc23
import Derived.Test.YtibpjkkgfgmkmaaGreatDoorZc24
import Derived.Test.YtibpjkkgfgmkmaaGreatDoorZc22
import Derived.Test.YtibpjkkgfgmkmaaGreatDoorZc28
import Derived.Test.YtibpjkkgfgmkmaaGreatDoorZc19
import Derived.Test.YtibpjkkgfgmkmaaGreatDoorZc18
import Derived.Test.YtibpjkkgfgmkmaaGreatDoorZc27
import Derived.Test.YtibpjkkgfgmkmaaGreatDoorZc29
import Derived.Test.YtibpjkkgfgmkmaaGreatDoorZc26
import Derived.Test.YtibpjkkgfgmkmaaGreatDoorZc12
set_option maxRecDepth 100000
namespace Go.Proofs.YtibpjkkgfgmkmaaGreatDoor
section
open Go.RowKit
theorem ad6.out {E:PE} {R:(x:Fn)→PM x.Out} {x:Fn} (h: ∀p,R x p= .out):ad6 E R x:=by
 cases x<;>(dsimp only [ad6,CN,CV];intros;rename_i hn;exact absurd (h _) hn)
theorem bF7 {E:PE} (hE:E.Ok): ∀f,f≤1073741824→∀x,ad6 E (runQ E.s E.m f) x
 |0,_=>fun _=>ad6.out fun _=>rfl
 |f+1,hf=>fun x=>by
  have hR:Env E (runQ E.s E.m f):=⟨hE,bF7 hE f (by omega)⟩
  exact match x with
  | .expression=>fun _ _ _ h hne=>S.expression hR f (by omega) h hne
  | .inner=>fun _ _ _ h hne=>S.inner hR h hne
  | .innerAssign=>fun _ _ _ h hne=>S.innerAssign hR h hne
  | .assign=>fun _ _ _ h hne=>S.assign hR h hne
  | .cond=>fun _ _ _ h hne=>S.cond hR h hne
  | .unary=>fun _ _ _ h hne=>S.unary hR h hne
  | .args=>fun _ _ _ h hne=>S.args hR h hne
  | .spread=>fun _ _ _ h hne=>S.spread hR h hne
  | .index=>fun _ _ _ h hne=>S.index hR h hne
  | .program=>fun _ _ _ h hne=>S.program hR h hne
  | .arrowOf t=>fun _ _ _ h hne=>S.arrowOf hR t h hne
  | .body text from' ps=>fun _ _ _ v hn h hne=>S.body hR text from' ps v hn h hne
  | .assigned n=>fun _ _ _ v hn h hne=>S.assigned hR n v hn h hne
  | .param n last=>fun _ _ _ v hn h hne=>S.param n last v hn h hne
  | .params n=>fun _ _ _ v hn h hne=>S.params hR n v hn h hne
  | .binary least nullish=>fun _ _ _ _ h hne=>S.binary hR f least nullish h hne
  | .operand least=>fun _ _ _ h hne=>S.operand hR least h hne
  | .link n calls templates=>fun _ _ _ v hn h hne=>S.link hR n calls templates v hn h hne
  | .optional n=>fun _ _ _ v hn h hne=>S.optional hR n v hn h hne
  | .chain n=>fun _ _ _ v hn h hne=>S.chain hR f n v hn h hne
  | .leftHand=>fun _ _ _ h hne=>S.leftHand hR f h hne
  | .base t calls=>fun _ _ _ h hne=>S.base hR t calls h hne
  | .new from'=>fun _ _ _ h hne=>S.new hR f from' h hne
  | .primary t=>fun _ _ _ h hne=>S.primary hR t h hne
  | .named t=>fun _ _ _ h hne=>S.named hR t h hne
  | .paren t=>fun _ _ _ h hne=>S.parenR hR t h hne
  | .statements dir top e=>fun _ _ _ _ hend h hne=>S.statements hR f (by omega) dir top e hend h hne
  | .statement t list=>fun _ _ _ h hne=>S.statement hR t list h hne
  | .simple t=>fun _ _ _ h hne=>S.simple hR t h hne
  | .arguments from'=>fun _ _ _ h hne=>S.arguments hR f from' h hne
  | .array=>fun _ _ _ h hne=>S.array hR f h hne
  | .block=>fun _ _ _ h hne=>S.block hR h hne
  | .modular t top=>fun _ _ _ h hne=>S.modular t top h hne
  | .template b=>fun _ _ _ h hne=>S.template hR b h hne
  | .yield=>ad6.out fun _=>rfl
  | .returned _=>ad6.out fun _=>rfl
  | .jump _=>ad6.out fun _=>rfl
  | .declaration _=>ad6.out fun _=>rfl
  | .funcs _=>ad6.out fun _=>rfl
  | .callable _ _ _ _=>ad6.out fun _=>rfl
  | .formals _=>ad6.out fun _=>rfl
  | .function=>ad6.out fun _=>rfl
  | .binding=>ad6.out fun _=>rfl
  | .arrayPattern=>ad6.out fun _=>rfl
  | .objectPattern=>ad6.out fun _=>rfl
  | .object=>ad6.out fun _=>rfl
  | .prop=>ad6.out fun _=>rfl
  | .element2=>ad6.out fun _=>rfl
  | .alone=>ad6.out fun _=>rfl
  | .head=>ad6.out fun _=>rfl
  | .element1=>ad6.out fun _=>rfl
  | .takeText=>ad6.out fun _=>rfl
  | .fromText=>ad6.out fun _=>rfl
  | .outer=>ad6.out fun _=>rfl
  | .plain _=>ad6.out fun _=>rfl
  | .element _ _ _=>ad6.out fun _=>rfl
  | .takeKey _=>ad6.out fun _=>rfl
  | .members _=>ad6.out fun _=>rfl
  | .method _=>ad6.out fun _=>rfl
  | .defaulted _=>ad6.out fun _=>rfl
  | .cls _=>ad6.out fun _=>rfl
  | .declared _ _=>ad6.out fun _=>rfl
  | .branch _=>ad6.out fun _=>rfl
  | .tried _=>ad6.out fun _=>rfl
  | .switched _=>ad6.out fun _=>rfl
  | .loop _=>ad6.out fun _=>rfl
  | .through _ _ _=>ad6.out fun _=>rfl
  | .counted _ _=>ad6.out fun _=>rfl
  | .imported _=>ad6.out fun _=>rfl
  | .specs _=>ad6.out fun _=>rfl
  | .exported _=>ad6.out fun _=>rfl
  | .defaultOf _=>ad6.out fun _=>rfl
  | .markup _=>ad6.out fun _=>rfl
  | .attr _=>ad6.out fun _=>rfl
  | .children _=>ad6.out fun _=>rfl
  | .closing _ _=>ad6.out fun _=>rfl
  | .jname _=>ad6.out fun _=>rfl
end
section
open Go.RowKit
theorem bw7 (s:ByteArray) (m:Bool) (f:Nat) (hs:s.size≤1048576) (hf:f≤1073741824) (w:World) (hx:Lx w) (hne:aB9 s m f≠ .out):
  Calls Tryz.prog 10 #[.string s,.bool m] w fun e w'=>ExA (aB9 s m f) e w'∧Below w.heap.size w w':=
 bw6 hs w hx (fun E F w1 p hE h1 h2 hst hn=>by
  subst h1 h2
  exact S.expr1 ⟨hE,bF7 hE f hf⟩ hst hn) hne
end
end Go.Proofs.YtibpjkkgfgmkmaaGreatDoor
