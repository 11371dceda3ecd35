/- Steps (Ps Pt St). Conditions: as stated. -/
import Derived.Test.YtibpjkkgfgmkmaaGreatDoorZc03
import Derived.Test.YtibpjkkgfgmkmaaGreatDoorZc06
import Derived.Test.YtibpjkkgfgmkmaaGreatDoorZc05
import Derived.Test.YtibpjkkgfgmkmaaGreatDoorZc04
namespace Go.Proofs.YtibpjkkgfgmkmaaGreatDoor
section
structure Ps where
 at':Int
 tok:Tk
 ahead:List Cm
 goal:Int
 cms:List Cm
 flags:Int
 nest:Int
 arrow:Int
 commas:List (Int × Int)
inductive Res (α:Type) where
 |ok (a:α) (p:Ps)
 |bad (code place:Int)
 |out
def PM (α:Type):=Ps→Res α
def PM.pure {α:Type} (a:α):PM α:=fun p=> .ok a p
def PM.bind {α β:Type} (x:PM α) (f:α→PM β):PM β:=fun p=>match x p with
 | .ok a q=>f a q
 | .bad c i=> .bad c i
 | .out=> .out
instance:Monad PM:= { pure:=PM.pure,bind:=PM.bind }
def bJ6 {α:Type} (code place:Int):PM α:=fun _=> .bad code place
def outP {α:Type} :PM α:=fun _=> .out
def getP:PM Ps:=fun p=> .ok p p
def modP (f:Ps→Ps):PM Unit:=fun p=> .ok () (f p)
def ofO {α:Type} (o:Option α):PM α:=match o with
 |some a=>pure a
 |none=>outP
def hasF (f k:Int):Bool:= !(bits .and .i64 f k==0)
def setF (f on off:Int):Int:=bits .or .i64 (bits .andNot .i64 f off) on
def punctT (t:Tk) (x:ByteArray):Bool:=decide (t.kind=5) && decide (t.text=x)
def nameT (t:Tk) (x:ByteArray):Bool:=decide (t.kind=1) && decide (t.text=x)
def ah2 (kind:Int) (t:Tk):Nd:= .mk kind t.text [] t.from' t.till
def af1 (t:Tk):Bool:=decide (t.kind=5) && ak3 t.text [⟨#[61]⟩,⟨#[43,61]⟩,⟨#[45,61]⟩,⟨#[42,61]⟩,⟨#[47,61]⟩,⟨#[37,61]⟩,⟨#[42,42,61]⟩,⟨#[60,60,61]⟩,⟨#[62,62,61]⟩,⟨#[62,62,62,61]⟩,⟨#[38,61]⟩,⟨#[124,61]⟩,⟨#[94,61]⟩,⟨#[38,38,61]⟩,⟨#[124,124,61]⟩,⟨#[63,63,61]⟩]
def aD0 (n:Nd):Bool:=decide (n.kind=29) && (decide (n.text=⟨#[124,124]⟩)||decide (n.text=⟨#[38,38]⟩))
def bf0 (n:Nd):Bool:=
 if n.kind=1 then decide (n.text≠⟨#[101,118,97,108]⟩) && decide (n.text≠⟨#[97,114,103,117,109,101,110,116,115]⟩)
 else if n.kind=38∨n.kind=39 then decide (n.text=⟨#[]⟩) else false
def aP1:Nat→Nd→Bool
 |0,_=>false
 |f+1,n=>if n.kind=26∧n.kids.length=1 then aP1 f (n.kids.headD .zero) else bf0 n
def aj8 (n:Nd):Bool:=aP1 (aa0 n) n
def okI (i:Int):Bool:=decide (0≤i) && decide (i≤16777216)
def hasC (c:List (Int × Int)) (k:Int):Bool:=c.any fun e=>decide (e.1=k)
section
variable (s:ByteArray) (module:Bool)
def tkOf (kind:Int) (q n:Nat) (line:Bool):Tk:=⟨kind,s.extract q (q+n),q,((q+n:Nat):Int),line⟩
def bd6 (goal:Int):PM Tk:=fun p=>
 if p.at'<0∨(s.size:Int)<p.at' then .out
 else match nxt s p.at'.toNat goal with
  | .fine kind q n line []=> .ok (tkOf s kind q n line) { p with tok:=tkOf s kind q n line,ahead:= [],goal:=goal }
  |_=> .out
def am8 (goal:Int) (p:Ps):Bool:=decide (p.goal≠0∧(p.goal=goal∨(goal≤2∧p.goal≤2∧Lib.hasPrefix p.tok.text.data.toList [47]=false)))
def ac5 (goal:Int):PM Tk:=fun p=>if am8 goal p then .ok p.tok p else bd6 s goal p
def af4:PM Tk:=fun p=>if 4194304<p.cms.length+p.ahead.length then .out else .ok p.tok { p with cms:=p.cms++p.ahead,at':=p.tok.till,goal:=0,ahead:= [] }
def oddP {α:Type} :PM α:=fun p=> .bad 1001 p.tok.from'
def bq5 (place:Int):Tk:=match nxt s place.toNat 1 with
 | .bad _ _=>⟨-1,⟨#[]⟩,0,0,false⟩
 | .fine kind q n line _=>tkOf s kind q n line
def NxO.okB:NxO→Bool
 | .fine _ _ _ _ []=>true
 |_=>false
theorem NxO.ok_of {o:NxO} (h:o.okB=true): ∃kind q n line,o= .fine kind q n line []:=by
 cases o with
 |bad a b=>cases h
 |fine k q n l cs=>
  cases cs with
  |nil=>exact⟨k,q,n,l,rfl⟩
  |cons c cs=>cases h
def ax5 (place:Int):PM Tk:=if place<0∨(s.size:Int)<place∨(nxt s place.toNat 1).okB=false then outP else return bq5 s place
def isP (x:ByteArray):PM Bool:=do
 let t←ac5 s 1
 if punctT t x then do
  let _←af4
  return true
 else return false
def au1 (x:ByteArray):PM Tk:=do
 let t←ac5 s 1
 if punctT t x then af4 else oddP
def bw4 (x:ByteArray):PM Bool:=do
 let t←ac5 s 1
 if nameT t x then do
  let _←af4
  return true
 else return false
def bi2 (x:ByteArray):PM Unit:=do
 let b←bw4 s x
 if b then return () else oddP
def al5 (flags:Int) (t:Tk):Bool:=decide (t.kind=1) && !aa1 t.text module && (!hasF flags 4||decide (t.text≠⟨#[97,119,97,105,116]⟩))
def al2:PM Nd:=do
 let t←ac5 s 1
 let p←getP
 if al5 module p.flags t then do
  let u←af4
  return ah2 1 u
 else oddP
def af3 (kind:Int) (text:ByteArray) (from':Int) (kids:List Nd):PM Nd:=fun p=> .ok (.mk kind text kids from' p.at') p
def az2 {α:Type} (on off:Int) (x:PM α):PM α:=fun p=>PM.bind x (fun a q=> .ok a { q with flags:=p.flags }) { p with flags:=setF p.flags on off }
def ag4 {α:Type} (place:Int) (x:PM α):PM α:=fun p=>
 if 4000≤p.nest then .bad 1002 place
 else PM.bind x (fun a q=>if q.nest≤0 then .out else .ok a { q with nest:=q.nest - 1 }) { p with nest:=p.nest+1 }
def ap1:PM Unit:=do
 let t←ac5 s 1
 if punctT t ⟨#[59]⟩ then do
  let _←af4
  return ()
 else if !punctT t ⟨#[125]⟩ && decide (t.kind≠0) && !t.line then oddP else return ()
def aC0 {α:Type} (closing:ByteArray) (goal:Int) (one:α→PM α):Nat→α→Bool→PM (α × Bool)
 |0,_,_=>outP
 |f+1,a,comma=>do
  let t←ac5 s goal
  if punctT t closing then do
   let _←af4
   return (a,comma)
  else do
   let b←one a
   let u←ac5 s 1
   if punctT u closing then do
    let _←af4
    return (b,false)
   else do
    let _←au1 s ⟨#[44]⟩
    aC0 closing goal one f b true
def as8 (n:Nd):PM Unit:=if aj8 n then return () else bJ6 1003 n.from'
def bn5 (n:Nd):PM Nd:=if aj8 n && decide (aa0 n≤4194304) then return n else outP
def at5 (n:Nd):PM Nd:=do
 let p←getP
 if !p.commas.isEmpty && (decide (n.kind=11)||decide (n.kind=12)) then outP else bn5 n
def am9 (n:Nd):PM Unit:=if n.kind=18 then do
  let t←ac5 s 1
  if punctT t ⟨#[44]⟩ then do
   let q←getP
   if 4194304<q.commas.length∨okI n.from'=false∨okI n.till=false then outP else modP fun q=> { q with commas:=(n.from',n.till)::q.commas }
  else return ()
 else return ()
def ah3:PM (Tk × Int):=do
 let t←ac5 s 1
 let p←getP
 if decide (t.kind≠5) && !nameT t ⟨#[105,110,115,116,97,110,99,101,111,102]⟩ && (!nameT t ⟨#[105,110]⟩|| !hasF p.flags 1) then return (t,0)
 else return (t,ab2 t.text)
def ap0 (private':Bool):PM Nd:=do
 let t←ac5 s 1
 if t.kind=1 then do
  let u←af4
  return ah2 1 u
 else if t.kind≠2∨private'=false then oddP
 else do
  let u←af4
  return ah2 2 u
end
end
section
structure Mb where
 from':Int
 static:Bool
 kind:ByteArray
 key:Nd
 block:Bool
def Mb.text (m:Mb):ByteArray:=if m.static=false then m.kind else if m.kind=⟨#[]⟩ then ⟨#[115,116,97,116,105,99]⟩ else ⟨#[115,116,97,116,105,99,32]⟩++m.kind
def endB (e:Nat) (t:Tk):Bool:=if e=0 then decide (t.kind=0) else if e=1 then punctT t ⟨#[125]⟩ else punctT t ⟨#[125]⟩||nameT t ⟨#[99,97,115,101]⟩||nameT t ⟨#[100,101,102,97,117,108,116]⟩
inductive Fn where
 |expression|inner|innerAssign|assign|yield|cond|unary|args|spread|index|array|function|binding|arrayPattern|objectPattern|object|prop|element2
 |alone|block|head|element1|takeText|fromText|program
 |arrowOf (t:Tk)|body (text:ByteArray) (from':Int) (params:Nd)|assigned (n:Nd)
 |param (n:Nd) (last:Bool)|plain (n:Nd)|element (of:Int) (k:Nd) (last:Bool)|params (args:Nd)
 |binary (least:Int) (nullish:Bool)|operand (least:Int)|arguments (from':Int)
 |link (n:Nd) (calls templates:Bool)|optional (n:Nd)|chain (n:Nd)|leftHand|base (t:Tk) (calls:Bool)|new (from':Int)
 |template (tagged:Bool)|primary (t:Tk)|named (t:Tk)|paren (t:Tk)
 |takeKey (cls:Bool)|members (cls:Bool)|method (m:Mb)|callable (text:ByteArray) (from':Int) (id:Nd) (of:ByteArray)|formals (of:ByteArray)|defaulted (n:Nd)
 |funcs (must:Bool)|cls (must:Bool)
 |statements (dir top:Bool) (e:Nat)|statement (t:Tk) (list:Bool)|simple (t:Tk)|declaration (must:Bool)|declared (t:Tk) (first:Option Nd)
 |branch (t:Tk)|returned (t:Tk)|jump (t:Tk)|tried (t:Tk)|switched (t:Tk)|loop (t:Tk)|through (t:Tk) (text:ByteArray) (first:Nd)|counted (t:Tk) (first:Nd)
 |modular (t:Tk) (top:Bool)|imported (t:Tk)|outer|specs (imports:Bool)|exported (t:Tk)|defaultOf (t:Tk)
 |markup (from':Int)|attr (t:Tk)|children (of:ByteArray)|closing (of:ByteArray) (from':Int)|jname (points:Bool)
@[reducible] def Fn.Out:Fn→Type
 | .param _ _=>Unit
 | .plain _=>Unit
 | .element _ _ _=>Unit
 | .closing _ _=>Unit
 | .link _ _ _=>Nd × Bool
 | .members _=>Mb
 | .statements _ _ _=>List Nd
 |_=>Nd
section
variable (s:ByteArray) (module:Bool) (f:Nat) (R:(x:Fn)→PM x.Out)
def af9:PM Nd:=do
 let n←R .assign
 let t←ac5 s 1
 if punctT t ⟨#[44]⟩ then seqL f [n] n.from' else return n
where
 seqL:Nat→List Nd→Int→PM Nd
 |0,_,_=>outP
 |g+1,kids,from'=>do
  let b←isP s ⟨#[44]⟩
  if b then do
   let k←R .assign
   seqL g (kids++ [k]) from'
  else af3 32 ⟨#[]⟩ from' kids
def ai2:PM Nd:=do
 let t←ac5 s 2
 ag4 t.from' (do
  let p←getP
  if hasF p.flags 2 && nameT t ⟨#[121,105,101,108,100]⟩ then R .yield
  else do
   let one←single t
   if one then R (.arrowOf t)
   else do
    modP fun q=> { q with arrow:=t.from' }
    let n←R .cond
    R (.assigned n))
where
 single (t:Tk):PM Bool:=do
  let p←getP
  let u←(if nameT t ⟨#[97,115,121,110,99]⟩ then do
    let next←ax5 s t.till
    if !next.line && al5 module p.flags next then return next else return t
   else return t)
  let next←ax5 s u.till
  if !al5 module p.flags u|| !punctT next ⟨#[61,62]⟩||next.line then return false
  else do
   as8 (ah2 1 u)
   return true
def aw6 (t:Tk):PM Nd:=do
 let _←af4
 let id←ac5 s 1
 if punctT id ⟨#[61,62]⟩ then do
  let ps←af3 21 ⟨#[]⟩ t.from' [ah2 1 t]
  R (.body ⟨#[]⟩ t.from' ps)
 else do
  let _←af4
  let ps←af3 21 ⟨#[]⟩ id.from' [ah2 1 id]
  R (.body ⟨#[97,115,121,110,99]⟩ t.from' ps)
def bm5 (text:ByteArray) (from':Int) (params:Nd):PM Nd:=do
 let _←au1 s ⟨#[61,62]⟩
 let n←az2 (if text=⟨#[97,115,121,110,99]⟩ then 4 else 0) 2 (do
  let t←ac5 s 2
  if punctT t ⟨#[123]⟩ then R .function else R .assign)
 af3 22 text from' [params,n]
def am7 (n:Nd):PM Nd:=
 if n.kind=22 then return n
 else do
  let t←ac5 s 1
  if af1 t then do
   let m←(if t.text=⟨#[61]⟩ then at5 n else do
    as8 n
    return n)
   let _←af4
   let right←R .assign
   af3 30 t.text m.from' [m,right]
  else return n
def aS9 (n:Nd) (_:Bool):PM Unit:=if okI n.from' && ((decide (n.kind=1) && aj8 n)||decide (n.kind=0)) then return () else outP
def bS6 (_:Nd):PM Unit:=outP
def bx8 (_:Int) (_:Nd) (_:Bool):PM Unit:=outP
def am2 (args:Nd):PM Nd:=
 if args.kids.all (fun k=>okI k.from' && decide (k.kind≠18) && decide (k.kind≠30)) && okI args.till && decide (args.kids.length≤16777216) then do
  askL args.kids
  let ks←mapL args.kids
  return .mk 21 ⟨#[]⟩ ks args.from' args.till
 else outP
where
 askL:List Nd→PM Unit
 | []=>return ()
 |k::ks=>do
  R (.param k ks.isEmpty)
  askL ks
 mapL:List Nd→PM (List Nd)
 | []=>return []
 |k::ks=>do
  let y←at5 k
  let ys←mapL ks
  return y::ys
def aV6:PM Nd:=do
 let n←R (.binary 1 false)
 if n.kind=22 then return n
 else do
  let b←isP s ⟨#[63]⟩
  if b then do
   let then'←R .innerAssign
   let _←au1 s ⟨#[58]⟩
   let other←R .assign
   af3 31 ⟨#[]⟩ n.from' [n,then',other]
  else return n
def ae1 (least:Int) (nullish:Bool):PM Nd:=do
 let n←R (.operand least)
 if n.kind=22 then return n else opsL f n
where
 opsL:Nat→Nd→PM Nd
 |0,_=>outP
 |g+1,n=>do
  let r←ah3 s
  if r.2<least∨r.2=0 then return n
  else if (decide (r.1.text=⟨#[63,63]⟩) && aD0 n)||((decide (r.1.text=⟨#[124,124]⟩)||decide (r.1.text=⟨#[38,38]⟩)) && nullish)||(decide (r.1.text=⟨#[42,42]⟩) && (decide (n.kind=27)||decide (n.kind=34))) then oddP
  else do
   let _←af4
   let right←(if r.1.text=⟨#[42,42]⟩ then do
    let u←ac5 s 2
    ag4 u.from' (R (.binary r.2 false))
   else R (.binary (r.2+1) (decide (r.1.text=⟨#[63,63]⟩))))
   let m←af3 29 r.1.text n.from' [n,right]
   opsL g m
def aq4 (least:Int):PM Nd:=do
 let t←ac5 s 2
 if t.kind≠2 then R .unary
 else do
  let _←af4
  let next←ac5 s 1
  let p←getP
  if decide (8<least)|| !hasF p.flags 1|| !nameT next ⟨#[105,110]⟩ then bJ6 1001 t.from'
  else return ah2 2 t
def av8:PM Nd:=do
 let _←af4
 let u←ac5 s 2
 ag4 u.from' (R .unary)
def aH9:PM Nd:=do
 let t←ac5 s 2
 if nameT t ⟨#[100,101,108,101,116,101]⟩||nameT t ⟨#[118,111,105,100]⟩||nameT t ⟨#[116,121,112,101,111,102]⟩||punctT t ⟨#[43]⟩||punctT t ⟨#[45]⟩||punctT t ⟨#[126]⟩||punctT t ⟨#[33]⟩ then do
  let n←av8 s R
  af3 27 t.text t.from' [n]
 else do
  let p←getP
  if nameT t ⟨#[97,119,97,105,116]⟩ && hasF p.flags 4 then do
   let n←av8 s R
   af3 34 ⟨#[]⟩ t.from' [n]
  else if punctT t ⟨#[43,43]⟩||punctT t ⟨#[45,45]⟩ then do
   let n←av8 s R
   as8 n
   af3 28 (t.text++⟨#[120]⟩) t.from' [n]
  else do
   let n←R .leftHand
   if n.kind=22 then return n
   else do
    let u←ac5 s 1
    if (punctT u ⟨#[43,43]⟩||punctT u ⟨#[45,45]⟩) && !u.line then do
     as8 n
     let _←af4
     af3 28 (⟨#[120]⟩++u.text) n.from' [n]
    else return n
def aV0:PM Nd:=do
 let t←au1 s ⟨#[40]⟩
 R (.arguments t.from')
def bg7 (from':Int):PM Nd:=do
 let r←az2 1 0 (aC0 s ⟨#[41]⟩ 2 (fun kids=>do
  let k←R .spread
  am9 s k
  return kids++ [k]) f [] false)
 af3 36 ⟨#[]⟩ from' r.1
def aw0:PM Nd:=do
 let t←ac5 s 2
 if punctT t ⟨#[46,46,46]⟩ then do
  let _←af4
  let n←R .assign
  af3 18 ⟨#[]⟩ t.from' [n]
 else R .assign
def aS0:PM Nd:=do
 let n←R .inner
 let _←au1 s ⟨#[93]⟩
 return n
def aN6 (n:Nd) (calls templates:Bool):PM (Nd × Bool):=do
 let t←ac5 s 1
 if punctT t ⟨#[46]⟩ then do
  let _←af4
  let k←ap0 s (decide (n.kind≠6)||decide (n.text≠⟨#[115,117,112,101,114]⟩))
  let m←af3 38 ⟨#[]⟩ n.from' [n,k]
  return (m,true)
 else if punctT t ⟨#[91]⟩ then do
  let _←af4
  let k←R .index
  let m←af3 39 ⟨#[]⟩ n.from' [n,k]
  return (m,true)
 else if punctT t ⟨#[40]⟩ && calls then do
  let k←R .args
  let m←af3 35 ⟨#[]⟩ n.from' [n,k]
  return (m,true)
 else if t.kind=7∨t.kind=8 then (if templates then do
   let k←R (.template true)
   let m←af3 10 ⟨#[]⟩ n.from' [n,k]
   return (m,true)
  else oddP)
 else return (n,false)
def as2 (n:Nd):PM Nd:=do
 let t←ac5 s 1
 if punctT t ⟨#[91]⟩ then do
  let _←af4
  let k←R .index
  af3 39 ⟨#[63,46]⟩ n.from' [n,k]
 else if punctT t ⟨#[40]⟩ then do
  let k←R .args
  af3 35 ⟨#[63,46]⟩ n.from' [n,k]
 else do
  let k←ap0 s true
  af3 38 ⟨#[63,46]⟩ n.from' [n,k]
def aE7 (n:Nd):PM Nd:=chainL f n
where
 chainL:Nat→Nd→PM Nd
 |0,_=>outP
 |g+1,n=>do
  let b←isP s ⟨#[63,46]⟩
  if b then do
   let m←R (.optional n)
   chainL g m
  else do
   let r←R (.link n true false)
   if r.2 then chainL g r.1 else af3 40 ⟨#[]⟩ r.1.from' [r.1]
def ao2 (n:Nd):Bool:=decide (n.kind=37) && decide (((n.kids.drop 1).headD .zero).kind=0)
def ae5:PM Nd:=do
 let t←ac5 s 2
 let p←getP
 let may:=decide (t.from'=p.arrow)
 let n←R (.base t true)
 if n.kind=22 then return n
 else if may && decide (n.kind=1) && decide (n.text=⟨#[97,115,121,110,99]⟩) then (if okI n.from' && okI n.till && decide (t.text.size≤16777216) then (if n.till - n.from'=t.text.size then do
   let next←ac5 s 1
   if punctT next ⟨#[40]⟩ && !next.line then do
    let args←R .args
    let next←ac5 s 1
    if punctT next ⟨#[61,62]⟩ && !next.line then do
     let ps←R (.params args)
     R (.body ⟨#[97,115,121,110,99]⟩ n.from' ps)
    else do
     let m←af3 35 ⟨#[]⟩ n.from' [n,args]
     linkL f m
   else linkL f n
  else linkL f n) else outP)
 else linkL f n
where
 linkL:Nat→Nd→PM Nd
 |0,_=>outP
 |g+1,n=>do
  let next←ac5 s 1
  if punctT next ⟨#[63,46]⟩ then (if n.kind=37∧n.kids.length<2 then outP else if ao2 n then oddP else R (.chain n))
  else do
   let r←R (.link n true true)
   if r.2 then linkL g r.1 else return r.1
def au9 (t:Tk) (calls:Bool):PM Nd:=
 if nameT t ⟨#[110,101,119]⟩ then do
  let _←af4
  R (.new t.from')
 else if nameT t ⟨#[115,117,112,101,114]⟩ then do
  let u←af4
  let next←ac5 s 1
  if !punctT next ⟨#[46]⟩ && !punctT next ⟨#[91]⟩ && (!calls|| !punctT next ⟨#[40]⟩) then oddP
  else do
   let r←R (.link (ah2 6 u) calls false)
   return r.1
 else if nameT t ⟨#[105,109,112,111,114,116]⟩ then do
  let _←af4
  let b←(if module then isP s ⟨#[46]⟩ else return false)
  if b then do
   bi2 s ⟨#[109,101,116,97]⟩
   af3 7 ⟨#[105,109,112,111,114,116,46,109,101,116,97]⟩ t.from' []
  else if !calls then do
   let _←ac5 s 1
   oddP
  else do
   let _←au1 s ⟨#[40]⟩
   let n←R .innerAssign
   let _←isP s ⟨#[44]⟩
   let _←au1 s ⟨#[41]⟩
   af3 41 ⟨#[]⟩ t.from' [n]
 else R (.primary t)
def newS (from':Int):PM Nd:=do
 let b←isP s ⟨#[46]⟩
 if b then do
  bi2 s ⟨#[116,97,114,103,101,116]⟩
  af3 7 ⟨#[110,101,119,46,116,97,114,103,101,116]⟩ from' []
 else do
  let t←ac5 s 2
  let n←ag4 t.from' (do
   let n←R (.base t false)
   if n.kind=37∧n.kids.length<2 then outP else moreL f n (!ao2 n))
  let next←ac5 s 1
  if punctT next ⟨#[40]⟩ then do
   let a←R .args
   af3 37 ⟨#[]⟩ from' [n,a]
  else af3 37 ⟨#[]⟩ from' [n,.zero]
where
 moreL:Nat→Nd→Bool→PM Nd
 |0,_,_=>outP
 |g+1,n,more=>if more then do
   let r←R (.link n false true)
   moreL g r.1 r.2
  else return n
def ag0 (t:Tk):PM Nd:=
 if t.kind=3∨t.kind=4 then do
  let u←af4
  return ah2 t.kind u
 else if t.kind=6 then do
  let u←af4
  return ah2 5 u
 else if t.kind=7∨t.kind=8 then R (.template false)
 else if t.kind=1 then R (.named t)
 else if punctT t ⟨#[91]⟩ then R .array
 else if punctT t ⟨#[123]⟩ then R .object
 else if punctT t ⟨#[40]⟩ then R (.paren t)
 else if punctT t ⟨#[60]⟩ then R .element1
 else oddP
def aF9 (t:Tk):PM Nd:=
 if ak3 t.text [⟨#[116,104,105,115]⟩,⟨#[110,117,108,108]⟩,⟨#[116,114,117,101]⟩,⟨#[102,97,108,115,101]⟩] then do
  let u←af4
  return ah2 6 u
 else if t.text=⟨#[102,117,110,99,116,105,111,110]⟩ then R (.funcs false)
 else if t.text=⟨#[99,108,97,115,115]⟩ then R (.cls false)
 else if t.text=⟨#[97,115,121,110,99]⟩ then do
  let next←ax5 s t.till
  if nameT next ⟨#[102,117,110,99,116,105,111,110]⟩ && !next.line then R (.funcs false) else al2 s module
 else al2 s module
def bS2 (t:Tk):PM Nd:=do
 let p←getP
 let _←af4
 let args←R (.arguments t.from')
 let arrow←(if t.from'=p.arrow then do
  let next←ac5 s 1
  return (punctT next ⟨#[61,62]⟩ && !next.line)
 else return false)
 if arrow then do
  let ps←R (.params args)
  R (.body ⟨#[]⟩ t.from' ps)
 else outP
def aS1:PM Nd:=az2 1 0 (R .expression)
def al6:PM Nd:=az2 1 0 (R .assign)
def ay2:PM Nd:=do
 let kids←R (.statements true module 0)
 let _←af4
 return .mk 86 ⟨#[]⟩ kids 0 s.size
def ah4 (dir top:Bool) (e:Nat):PM (List Nd):=partL f dir []
where
 partL:Nat→Bool→List Nd→PM (List Nd)
 |0,_,_=>outP
 |g+1,dir,kids=>do
  let t←ac5 s 2
  if endB e t then return kids
  else do
   let n←ag4 t.from' (do
    let m←R (.modular t top)
    if m.kind=0 then R (.statement t true) else return m)
   if dir && decide (n.kind=57) then do
    let k←ofO n.kids.head?
    if k.kind=4 then outP else partL g false (kids++ [n])
   else partL g false (kids++ [n])
def aQ2:PM Nd:=do
 let o←au1 s ⟨#[123]⟩
 let kids←R (.statements false false 1)
 let _←af4
 af3 58 ⟨#[]⟩ o.from' kids
def kwW:List ByteArray:= [⟨#[97,115,121,110,99]⟩,⟨#[118,97,114]⟩,⟨#[108,101,116]⟩,⟨#[99,111,110,115,116]⟩,⟨#[102,117,110,99,116,105,111,110]⟩,⟨#[99,108,97,115,115]⟩,⟨#[105,102]⟩,⟨#[102,111,114]⟩,⟨#[119,104,105,108,101]⟩,⟨#[100,111]⟩,⟨#[114,101,116,117,114,110]⟩,⟨#[98,114,101,97,107]⟩,⟨#[99,111,110,116,105,110,117,101]⟩,⟨#[116,104,114,111,119]⟩,⟨#[116,114,121]⟩,⟨#[115,119,105,116,99,104]⟩,⟨#[100,101,98,117,103,103,101,114]⟩]
def ap4 (t:Tk) (list:Bool):PM Nd:=
 if !list then outP
 else if punctT t ⟨#[123]⟩ then R .block
 else if punctT t ⟨#[59]⟩ then do
  let _←af4
  af3 59 ⟨#[]⟩ t.from' []
 else if t.kind≠1 then R (.simple t)
 else if ak3 t.text kwW then outP
 else do
  let next←ax5 s t.till
  let p←getP
  if al5 module p.flags t && punctT next ⟨#[58]⟩ then do
   let _←af4
   let _←au1 s ⟨#[58]⟩
   let n←R .alone
   af3 76 t.text t.from' [n]
  else R (.simple t)
def aH2 (t:Tk):PM Nd:=do
 let n←R .expression
 ap1 s
 af3 57 ⟨#[]⟩ t.from' [n]
def ax6 (_:Tk) (top:Bool):PM Nd:=if top then outP else return .zero
def bU9:(x:Fn)→PM x.Out
 | .expression=>af9 s f R
 | .inner=>aS1 R
 | .innerAssign=>al6 R
 | .assign=>ai2 s module R
 | .yield=>outP
 | .cond=>aV6 s R
 | .unary=>aH9 s R
 | .args=>aV0 s R
 | .spread=>aw0 s R
 | .index=>aS0 s R
 | .array=>outP
 | .function=>outP
 | .binding=>outP
 | .arrayPattern=>outP
 | .objectPattern=>outP
 | .object=>outP
 | .prop=>outP
 | .element2=>outP
 | .alone=>outP
 | .block=>aQ2 s R
 | .head=>outP
 | .element1=>outP
 | .takeText=>outP
 | .fromText=>outP
 | .program=>ay2 s module R
 | .arrowOf t=>aw6 s R t
 | .body text from' params=>bm5 s R text from' params
 | .assigned n=>am7 s R n
 | .param n last=>aS9 n last
 | .plain n=>bS6 n
 | .element of k last=>bx8 of k last
 | .params args=>am2 R args
 | .binary least nullish=>ae1 s f R least nullish
 | .operand least=>aq4 s R least
 | .arguments from'=>bg7 s f R from'
 | .link n calls templates=>aN6 s R n calls templates
 | .optional n=>as2 s R n
 | .chain n=>aE7 s f R n
 | .leftHand=>ae5 s f R
 | .base t calls=>au9 s module R t calls
 | .new from'=>newS s f R from'
 | .template _=>outP
 | .primary t=>ag0 R t
 | .named t=>aF9 s module R t
 | .paren t=>bS2 s R t
 | .takeKey _=>outP
 | .members _=>outP
 | .method _=>outP
 | .callable _ _ _ _=>outP
 | .formals _=>outP
 | .defaulted _=>outP
 | .funcs _=>outP
 | .cls _=>outP
 | .statements dir top e=>ah4 s f R dir top e
 | .statement t list=>ap4 s module R t list
 | .simple t=>aH2 s R t
 | .declaration _=>outP
 | .declared _ _=>outP
 | .branch _=>outP
 | .returned _=>outP
 | .jump _=>outP
 | .tried _=>outP
 | .switched _=>outP
 | .loop _=>outP
 | .through _ _ _=>outP
 | .counted _ _=>outP
 | .modular t top=>ax6 t top
 | .imported _=>outP
 | .outer=>outP
 | .specs _=>outP
 | .exported _=>outP
 | .defaultOf _=>outP
 | .markup _=>outP
 | .attr _=>outP
 | .children _=>outP
 | .closing _ _=>outP
 | .jname _=>outP
end
def ps0 (module:Bool):Ps:=⟨0,Tk.zero,[],0,[],if module then 5 else 1,0,-1,[]⟩
end
section
section
variable (s:ByteArray) (module:Bool) (f:Nat) (R:(x:Fn)→PM x.Out)
def ak5 (from':Int):PM Nd:=do
 let r←az2 1 0 (aC0 s ⟨#[41]⟩ 2 (fun kids=>if 4194304<kids.length then outP else do
  let k←R .spread
  am9 s k
  return kids++ [k]) f [] false)
 af3 36 ⟨#[]⟩ from' r.1
def aj9 (n:Nd):PM Bool:=if 4194304<n.kids.length then outP else match n.kids.getLast? with
 |none=>outP
 |some m=>do
  let t←ax5 s m.till
  return punctT t ⟨#[44]⟩
def aT0 (args:Nd) (last:Nd):Nd:=match args.kids with
 | [k]=> .mk 26 ⟨#[]⟩ [k] args.from' args.till
 |ks=> .mk 26 ⟨#[]⟩ [.mk 32 ⟨#[]⟩ ks (ks.headD .zero).from' last.till] args.from' args.till
def be8 (args:Nd):PM Nd:=if (args.kids.isEmpty||args.kids.any (fun k=>decide (k.kind=18)))=true then outP else do
 let b←aj9 s args
 if b then outP else return aT0 args (args.kids.getLastD .zero)
def ax9 (t:Tk):PM Nd:=do
 let p←getP
 let _←af4
 let args←R (.arguments t.from')
 let arrow←(if t.from'=p.arrow then do
  let next←ac5 s 1
  return (punctT next ⟨#[61,62]⟩ && !next.line)
 else return false)
 if arrow then do
  let ps←R (.params args)
  R (.body ⟨#[]⟩ t.from' ps)
 else be8 s args
def aq6:Nat→List Nd→PM (List Nd)
 |0,_=>outP
 |g+1,kids=>if 4194304<kids.length then outP else do
  let t←ac5 s 2
  if punctT t ⟨#[93]⟩ then return kids
  else do
   let b←isP s ⟨#[44]⟩
   if b then aq6 g (kids++ [.zero])
   else do
    let k←R .spread
    am9 s k
    let u←ac5 s 1
    if punctT u ⟨#[93]⟩ then aq6 g (kids++ [k])
    else do
     let _←au1 s ⟨#[44]⟩
     aq6 g (kids++ [k])
def aE2:PM Nd:=do
 let t←af4
 let kids←az2 1 0 (aq6 s R f [])
 let _←af4
 af3 11 ⟨#[]⟩ t.from' kids
end
def ay4 (t:Tk) (k:Nat):Nd:= .mk 9 (t.text.extract 1 (t.text.size - k)) [] t.from' t.till
def an5 (tagged:Bool):PM Nd:=do
 let p←getP
 if (tagged=false∧(p.tok.text.extract 1 (p.tok.text.size - 1)).data.toList.contains 92=true)∨p.tok.kind=8∨p.tok.kind=10∨p.tok.text.size<2∨16777216<p.tok.text.size then outP
 else do
  let _←af4
  af3 8 ⟨#[]⟩ p.tok.from' [.mk 9 (p.tok.text.extract 1 (p.tok.text.size - 1)) [] p.tok.from' p.tok.till]
def bn9:List Nd→Bool
 | [k]=>decide (k.kind=45)
 |_=>false
mutual
def ad9:Nd→Bool
 | .mk k _ ks _ _=> !(decide (k=13) && bn9 ks) && ag5 ks
def ag5:List Nd→Bool
 | []=>true
 |k::ks=>ad9 k && ag5 ks
end
def aO3 (x:PM Nd):PM Nd:=do
 let n←x
 if ad9 n=false then outP else if 4194304<aa0 n then outP else if 8000<af7 n then bJ6 1002 0 else return n
def aK1 (s:ByteArray) (R:(x:Fn)→PM x.Out):PM Nd:=do
 let n←R .expression
 let t←ac5 s 1
 if t.kind=0 then return n else oddP
end
end Go.Proofs.YtibpjkkgfgmkmaaGreatDoor
