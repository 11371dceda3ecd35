/- Steps (Ra Rg). Conditions: as stated. -/
import Derived.Test.YtcgbkjhoifhnnaaGreatDoorZe09
import Derived.Test.YtcgbkjhoifhnnaaGreatDoorZe13
import Derived.Test.YtcgbkjhoifhnnaaGreatDoorZe14
import Derived.Test.YtcgbkjhoifhnnaaGreatDoorZe21
import Derived.Test.YtcgbkjhoifhnnaaGreatDoorZe23
import Derived.Test.YtcgbkjhoifhnnaaGreatDoorZe24
import Derived.Test.YtcgbkjhoifhnnaaGreatDoorZe22
import Derived.Test.YtcgbkjhoifhnnaaGreatDoorZe28
import Derived.Test.YtcgbkjhoifhnnaaGreatDoorZe19
import Derived.Test.YtcgbkjhoifhnnaaGreatDoorZe18
import Derived.Test.YtcgbkjhoifhnnaaGreatDoorZe26
import Derived.Test.YtcgbkjhoifhnnaaGreatDoorZe27
import Derived.Test.YtcgbkjhoifhnnaaGreatDoorZe29
import Derived.Test.YtcgbkjhoifhnnaaGreatDoorZe30
import Derived.Test.YtcgbkjhoifhnnaaGreatDoorZe31
import Derived.Test.YtcgbkjhoifhnnaaGreatDoorZe12
set_option maxRecDepth 100000
namespace Go.Proofs.YtcgbkjhoifhnnaaGreatDoor
section
open Go.RowKit
theorem ag3.out {E:PE} {R:(x:Fn)→PM x.Out} {x:Fn} (h: ∀p,R x p= .out):ag3 E R x:=by
 cases x<;>(dsimp only [ag3,CN,CV];intros;rename_i hn;exact absurd (h _) hn)
theorem bh5 {E:PE} (hE:E.Ok): ∀f,f≤1073741824→∀x,ag3 E (runQ E.s E.m f) x
 |0,_=>fun _=>ag3.out fun _=>rfl
 |f+1,hf=>fun x=>by
  have hR:Env E (runQ E.s E.m f):=⟨hE,bh5 hE f (by omega)⟩
  exact match x with
  | .expression=>fun _ _ _ h hne=>S.expression hR f (by omega) h hne
  | .inner=>fun _ _ _ h hne=>S.inner hR h hne
  | .innerAssign=>fun _ _ _ h hne=>S.innerAssign hR h hne
  | .assign=>fun _ _ _ h hne=>S.assign hR h hne
  | .cond=>fun _ _ _ h hne=>S.cond hR h hne
  | .unary=>fun _ _ _ h hne=>S.unary hR h hne
  | .args=>fun _ _ _ h hne=>S.args hR h hne
  | .spread=>fun _ _ _ h hne=>S.spread hR h hne
  | .index=>fun _ _ _ h hne=>S.index hR h hne
  | .program=>fun _ _ _ h hne=>S.program hR h hne
  | .arrowOf t=>fun _ _ _ h hne=>S.arrowOf hR t h hne
  | .body text from' ps=>fun _ _ _ v hn h hne=>S.body hR text from' ps v hn h hne
  | .assigned n=>fun _ _ _ v hn h hne=>S.assigned hR n v hn h hne
  | .param n last=>fun _ _ _ v hn h hne=>S.param n last v hn h hne
  | .params n=>fun _ _ _ v hn h hne=>S.params hR n v hn h hne
  | .binary least nullish=>fun _ _ _ _ h hne=>S.binary hR f least nullish h hne
  | .operand least=>fun _ _ _ h hne=>S.operand hR least h hne
  | .link n calls templates=>fun _ _ _ v hn h hne=>S.link hR n calls templates v hn h hne
  | .optional n=>fun _ _ _ v hn h hne=>S.optional hR n v hn h hne
  | .chain n=>fun _ _ _ v hn h hne=>S.chain hR f n v hn h hne
  | .leftHand=>fun _ _ _ h hne=>S.leftHand hR f h hne
  | .base t calls=>fun _ _ _ h hne=>S.base hR t calls h hne
  | .new from'=>fun _ _ _ h hne=>S.new hR f from' h hne
  | .primary t=>fun _ _ _ h hne=>S.primary hR t h hne
  | .named t=>fun _ _ _ h hne=>S.named hR t h hne
  | .paren t=>fun _ _ _ h hne=>S.paren hR t h hne
  | .statements dir top e=>fun _ _ _ _ hend h hne=>S.statementsD hR f (by omega) dir top e hend h hne
  | .statement t list=>fun _ _ _ h hne=>S.statementV hR t list h hne
  | .simple t=>fun _ _ _ h hne=>S.simple hR t h hne
  | .arguments from'=>fun _ _ _ h hne=>S.arguments hR f from' h hne
  | .declaration must=>fun _ _ _ h hne=>S.declarationX hR must h hne
  | .funcs must=>fun _ _ _ h hne=>S.funcs hR must h hne
  | .callable text from' id of=>fun _ _ _ v hn h hne=>S.callable hR text from' id of v hn h hne
  | .formals of=>fun _ _ _ h hne=>S.formals hR f of h hne
  | .function=>fun _ _ _ h hne=>S.function hR h hne
  | .block=>fun _ _ _ h hne=>S.block hR h hne
  | .modular t top=>fun _ _ _ h hne=>S.modular t top h hne
  | .alone=>fun _ _ _ h hne=>S.alone hR h hne
  | .head=>fun _ _ _ h hne=>S.head hR h hne
  | .binding=>fun _ _ _ h hne=>S.bindingX hR h hne
  | .declared t none=>fun _ _ _ v hv h hne=>by obtain rfl:v= .pointer none:=hv;exact S.declaredX hR t h hne
  | .branch t=>fun _ _ _ h hne=>S.branchX hR t h hne
  | .cls must=>fun _ _ _ h hne=>S.clsX hR must h hne
  | .array=>ag3.out fun _=>rfl
  | .template _=>ag3.out fun _=>rfl
  | .yield=>ag3.out fun _=>rfl
  | .returned _=>ag3.out fun _=>rfl
  | .jump _=>ag3.out fun _=>rfl
  | .declared _ (some _)=>ag3.out fun _=>rfl
  | .arrayPattern=>ag3.out fun _=>rfl
  | .objectPattern=>ag3.out fun _=>rfl
  | .object=>ag3.out fun _=>rfl
  | .prop=>ag3.out fun _=>rfl
  | .element2=>ag3.out fun _=>rfl
  | .element1=>ag3.out fun _=>rfl
  | .takeText=>ag3.out fun _=>rfl
  | .fromText=>ag3.out fun _=>rfl
  | .outer=>ag3.out fun _=>rfl
  | .plain _=>ag3.out fun _=>rfl
  | .element _ _ _=>ag3.out fun _=>rfl
  | .takeKey _=>ag3.out fun _=>rfl
  | .members _=>ag3.out fun _=>rfl
  | .method _=>ag3.out fun _=>rfl
  | .defaulted _=>ag3.out fun _=>rfl
  | .tried _=>ag3.out fun _=>rfl
  | .switched _=>ag3.out fun _=>rfl
  | .loop _=>ag3.out fun _=>rfl
  | .through _ _ _=>ag3.out fun _=>rfl
  | .counted _ _=>ag3.out fun _=>rfl
  | .imported _=>ag3.out fun _=>rfl
  | .specs _=>ag3.out fun _=>rfl
  | .exported _=>ag3.out fun _=>rfl
  | .defaultOf _=>ag3.out fun _=>rfl
  | .markup _=>ag3.out fun _=>rfl
  | .attr _=>ag3.out fun _=>rfl
  | .children _=>ag3.out fun _=>rfl
  | .closing _ _=>ag3.out fun _=>rfl
  | .jname _=>ag3.out fun _=>rfl
end
section
open Go.RowKit
theorem bn7 (s:ByteArray) (m:Bool) (f:Nat) (hs:s.size≤1048576) (hf:f≤1073741824) (w:World) (hx:Lx w) (hne:bg8 s m f≠ .out):
  Calls Tryz.prog 12 #[.string s,.bool m] w fun e w'=>ExA (bg8 s m f) e w'∧Below w.heap.size w w':=
 bn6 hs w hx (fun E F w1 p hE h1 h2 hst hn=>by
  subst h1 h2
  exact S.expr1 ⟨hE,bh5 hE f hf⟩ hst hn) hne
theorem aQ6 (s:ByteArray) (m:Bool) (f:Nat) (hs:s.size≤1048576) (hf:f≤1073741824) (w:World) (hx:Lx w) (hne:ai6 s m f≠ .out):
  Calls Tryz.prog 11 #[.string s,.bool m] w fun e w'=>PgA (ai6 s m f) e w'∧Below w.heap.size w w':=
 aQ5 hs w hx (fun E F w1 p hE h1 h2 hst hn=>by
  subst h1 h2
  exact bh5 hE f hf .program F w1 p hst hn) hne
end
end Go.Proofs.YtcgbkjhoifhnnaaGreatDoor
