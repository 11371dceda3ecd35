/- Steps (Ps Pt St). Conditions: as stated. -/
import Derived.Test.YtnahajcjpmbflaaGreatDoorPn03
import Derived.Test.YtnahajcjpmbflaaGreatDoorPn06
import Derived.Test.YtnahajcjpmbflaaGreatDoorPn05
import Derived.Test.YtnahajcjpmbflaaGreatDoorPn04
namespace Go.Proofs.YtnahajcjpmbflaaGreatDoor
section
structure Ps where
 at':Int
 tok:Tk
 ahead:List Cm
 goal:Int
 cms:List Cm
 flags:Int
 nest:Int
 arrow:Int
 commas:List (Int × Int)
inductive Res (α:Type) where
 |ok (a:α) (p:Ps)
 |bad (code place:Int)
 |out
def PM (α:Type):=Ps→Res α
def PM.pure {α:Type} (a:α):PM α:=fun p=> .ok a p
def PM.bind {α β:Type} (x:PM α) (f:α→PM β):PM β:=fun p=>match x p with
 | .ok a q=>f a q
 | .bad c i=> .bad c i
 | .out=> .out
instance:Monad PM:= { pure:=PM.pure,bind:=PM.bind }
def failP {α:Type} (code place:Int):PM α:=fun _=> .bad code place
def outP {α:Type} :PM α:=fun _=> .out
def getP:PM Ps:=fun p=> .ok p p
def modP (f:Ps→Ps):PM Unit:=fun p=> .ok () (f p)
def ofO {α:Type} (o:Option α):PM α:=match o with
 |some a=>pure a
 |none=>outP
def hasF (f k:Int):Bool:= !(bits .and .i64 f k==0)
def setF (f on off:Int):Int:=bits .or .i64 (bits .andNot .i64 f off) on
def punctT (t:Tk) (x:ByteArray):Bool:=decide (t.kind=5) && decide (t.text=x)
def nameT (t:Tk) (x:ByteArray):Bool:=decide (t.kind=1) && decide (t.text=x)
def leafN (kind:Int) (t:Tk):Nd:= .mk kind t.text [] t.from' t.till
def assigningT (t:Tk):Bool:=decide (t.kind=5) && oneOf t.text [⟨#[61]⟩,⟨#[43,61]⟩,⟨#[45,61]⟩,⟨#[42,61]⟩,⟨#[47,61]⟩,⟨#[37,61]⟩,⟨#[42,42,61]⟩,⟨#[60,60,61]⟩,⟨#[62,62,61]⟩,⟨#[62,62,62,61]⟩,⟨#[38,61]⟩,⟨#[124,61]⟩,⟨#[94,61]⟩,⟨#[38,38,61]⟩,⟨#[124,124,61]⟩,⟨#[63,63,61]⟩]
def logicalN (n:Nd):Bool:=decide (n.kind=29) && (decide (n.text=⟨#[124,124]⟩)||decide (n.text=⟨#[38,38]⟩))
def plainN (n:Nd):Bool:=
 if n.kind=1 then decide (n.text≠⟨#[101,118,97,108]⟩) && decide (n.text≠⟨#[97,114,103,117,109,101,110,116,115]⟩)
 else if n.kind=38∨n.kind=39 then decide (n.text=⟨#[]⟩) else false
def targetF:Nat→Nd→Bool
 |0,_=>false
 |f+1,n=>if n.kind=26∧n.kids.length=1 then targetF f (n.kids.headD .zero) else plainN n
def targetB (n:Nd):Bool:=targetF (ndSize n) n
def okI (i:Int):Bool:=decide (0≤i) && decide (i≤16777216)
def hasC (c:List (Int × Int)) (k:Int):Bool:=c.any fun e=>decide (e.1=k)
section
variable (s:ByteArray) (module:Bool)
def tkOf (kind:Int) (q n:Nat) (line:Bool):Tk:=⟨kind,s.extract q (q+n),q,((q+n:Nat):Int),line⟩
def freshP (goal:Int):PM Tk:=fun p=>
 if p.at'<0∨(s.size:Int)<p.at' then .out
 else match nxt s p.at'.toNat goal with
  | .bad place code=> .bad code place
  | .fine kind q n line cs=> .ok (tkOf s kind q n line) { p with tok:=tkOf s kind q n line,ahead:=cs,goal:=goal }
def cachedB (goal:Int) (p:Ps):Bool:=decide (p.goal≠0∧(p.goal=goal∨(goal≤2∧p.goal≤2∧Lib.hasPrefix p.tok.text.data.toList [47]=false)))
def peekP (goal:Int):PM Tk:=fun p=>if cachedB goal p then .ok p.tok p else freshP s goal p
def takeP:PM Tk:=fun p=>if 4194304<p.cms.length+p.ahead.length then .out else .ok p.tok { p with cms:=p.cms++p.ahead,at':=p.tok.till,goal:=0,ahead:= [] }
def oddP {α:Type} :PM α:=fun p=> .bad 1001 p.tok.from'
def lookT (place:Int):Tk:=match nxt s place.toNat 1 with
 | .bad _ _=>⟨-1,⟨#[]⟩,0,0,false⟩
 | .fine kind q n line _=>tkOf s kind q n line
def lookP (place:Int):PM Tk:=if place<0∨(s.size:Int)<place then outP else return lookT s place
def isP (x:ByteArray):PM Bool:=do
 let t←peekP s 1
 if punctT t x then do
  let _←takeP
  return true
 else return false
def wantP (x:ByteArray):PM Tk:=do
 let t←peekP s 1
 if punctT t x then takeP else oddP
def wordP (x:ByteArray):PM Bool:=do
 let t←peekP s 1
 if nameT t x then do
  let _←takeP
  return true
 else return false
def mustP (x:ByteArray):PM Unit:=do
 let b←wordP s x
 if b then return () else oddP
def identB (flags:Int) (t:Tk):Bool:=decide (t.kind=1) && !reservedB t.text module && (!hasF flags 4||decide (t.text≠⟨#[97,119,97,105,116]⟩))
def takeIdentP:PM Nd:=do
 let t←peekP s 1
 let p←getP
 if identB module p.flags t then do
  let u←takeP
  return leafN 1 u
 else oddP
def nodeP (kind:Int) (text:ByteArray) (from':Int) (kids:List Nd):PM Nd:=fun p=> .ok (.mk kind text kids from' p.at') p
def withP {α:Type} (on off:Int) (x:PM α):PM α:=fun p=>PM.bind x (fun a q=> .ok a { q with flags:=p.flags }) { p with flags:=setF p.flags on off }
def deeperP {α:Type} (place:Int) (x:PM α):PM α:=fun p=>
 if 4000≤p.nest then .bad 1002 place
 else PM.bind x (fun a q=>if q.nest≤0 then .out else .ok a { q with nest:=q.nest - 1 }) { p with nest:=p.nest+1 }
def semicolonP:PM Unit:=do
 let t←peekP s 1
 if punctT t ⟨#[59]⟩ then do
  let _←takeP
  return ()
 else if !punctT t ⟨#[125]⟩ && decide (t.kind≠0) && !t.line then oddP else return ()
def listP {α:Type} (closing:ByteArray) (goal:Int) (one:α→PM α):Nat→α→Bool→PM (α × Bool)
 |0,_,_=>outP
 |f+1,a,comma=>do
  let t←peekP s goal
  if punctT t closing then do
   let _←takeP
   return (a,comma)
  else do
   let b←one a
   let u←peekP s 1
   if punctT u closing then do
    let _←takeP
    return (b,false)
   else do
    let _←wantP s ⟨#[44]⟩
    listP closing goal one f b true
def targetP (n:Nd):PM Unit:=if targetB n then return () else failP 1003 n.from'
def coverP (n:Nd):PM Nd:=if targetB n && decide (ndSize n≤4194304) then return n else outP
def patternP (n:Nd):PM Nd:=do
 let p←getP
 if !p.commas.isEmpty && (decide (n.kind=11)||decide (n.kind=12)) then outP else coverP n
def commaP (n:Nd):PM Unit:=if n.kind=18 then do
  let t←peekP s 1
  if punctT t ⟨#[44]⟩ then outP else return ()
 else return ()
def operatorP:PM (Tk × Int):=do
 let t←peekP s 1
 let p←getP
 if decide (t.kind≠5) && !nameT t ⟨#[105,110,115,116,97,110,99,101,111,102]⟩ && (!nameT t ⟨#[105,110]⟩|| !hasF p.flags 1) then return (t,0)
 else return (t,levelB t.text)
def propertyP (private':Bool):PM Nd:=do
 let t←peekP s 1
 if t.kind=1 then do
  let u←takeP
  return leafN 1 u
 else if t.kind≠2∨private'=false then oddP
 else do
  let u←takeP
  return leafN 2 u
end
end
section
structure Mb where
 from':Int
 static:Bool
 kind:ByteArray
 key:Nd
 block:Bool
def Mb.text (m:Mb):ByteArray:=if m.static=false then m.kind else if m.kind=⟨#[]⟩ then ⟨#[115,116,97,116,105,99]⟩ else ⟨#[115,116,97,116,105,99,32]⟩++m.kind
def endB (e:Nat) (t:Tk):Bool:=if e=0 then decide (t.kind=0) else if e=1 then punctT t ⟨#[125]⟩ else punctT t ⟨#[125]⟩||nameT t ⟨#[99,97,115,101]⟩||nameT t ⟨#[100,101,102,97,117,108,116]⟩
inductive Fn where
 |expression|inner|innerAssign|assign|yield|cond|unary|args|spread|index|array|function|binding|arrayPattern|objectPattern|object|prop|element2
 |alone|block|head|element1|takeText|fromText|program
 |arrowOf (t:Tk)|body (text:ByteArray) (from':Int) (params:Nd)|assigned (n:Nd)
 |param (n:Nd) (last:Bool)|plain (n:Nd)|element (of:Int) (k:Nd) (last:Bool)|params (args:Nd)
 |binary (least:Int) (nullish:Bool)|operand (least:Int)|arguments (from':Int)
 |link (n:Nd) (calls templates:Bool)|optional (n:Nd)|chain (n:Nd)|leftHand|base (t:Tk) (calls:Bool)|new (from':Int)
 |template (tagged:Bool)|primary (t:Tk)|named (t:Tk)|paren (t:Tk)
 |takeKey (cls:Bool)|members (cls:Bool)|method (m:Mb)|callable (text:ByteArray) (from':Int) (id:Nd) (of:ByteArray)|formals (of:ByteArray)|defaulted (n:Nd)
 |funcs (must:Bool)|cls (must:Bool)
 |statements (dir top:Bool) (e:Nat)|statement (t:Tk) (list:Bool)|simple (t:Tk)|declaration (must:Bool)|declared (t:Tk) (first:Option Nd)
 |branch (t:Tk)|returned (t:Tk)|jump (t:Tk)|tried (t:Tk)|switched (t:Tk)|loop (t:Tk)|through (t:Tk) (text:ByteArray) (first:Nd)|counted (t:Tk) (first:Nd)
 |modular (t:Tk) (top:Bool)|imported (t:Tk)|outer|specs (imports:Bool)|exported (t:Tk)|defaultOf (t:Tk)
 |markup (from':Int)|attr (t:Tk)|children (of:ByteArray)|closing (of:ByteArray) (from':Int)|jname (points:Bool)
@[reducible] def Fn.Out:Fn→Type
 | .param _ _=>Unit
 | .plain _=>Unit
 | .element _ _ _=>Unit
 | .closing _ _=>Unit
 | .link _ _ _=>Nd × Bool
 | .members _=>Mb
 | .statements _ _ _=>List Nd
 |_=>Nd
section
variable (s:ByteArray) (module:Bool) (f:Nat) (R:(x:Fn)→PM x.Out)
def expressionS:PM Nd:=do
 let n←R .assign
 let t←peekP s 1
 if punctT t ⟨#[44]⟩ then seqL f [n] n.from' else return n
where
 seqL:Nat→List Nd→Int→PM Nd
 |0,_,_=>outP
 |g+1,kids,from'=>do
  let b←isP s ⟨#[44]⟩
  if b then do
   let k←R .assign
   seqL g (kids++ [k]) from'
  else nodeP 32 ⟨#[]⟩ from' kids
def assignS:PM Nd:=do
 let t←peekP s 2
 deeperP t.from' (do
  let p←getP
  if hasF p.flags 2 && nameT t ⟨#[121,105,101,108,100]⟩ then R .yield
  else do
   let one←single t
   if one then R (.arrowOf t)
   else do
    modP fun q=> { q with arrow:=t.from' }
    let n←R .cond
    R (.assigned n))
where
 single (t:Tk):PM Bool:=do
  let p←getP
  let u←(if nameT t ⟨#[97,115,121,110,99]⟩ then do
    let next←lookP s t.till
    if !next.line && identB module p.flags next then return next else return t
   else return t)
  let next←lookP s u.till
  if !identB module p.flags u|| !punctT next ⟨#[61,62]⟩||next.line then return false
  else do
   targetP (leafN 1 u)
   return true
def arrowOfS (t:Tk):PM Nd:=do
 let _←takeP
 let id←peekP s 1
 if punctT id ⟨#[61,62]⟩ then do
  let ps←nodeP 21 ⟨#[]⟩ t.from' [leafN 1 t]
  R (.body ⟨#[]⟩ t.from' ps)
 else do
  let _←takeP
  let ps←nodeP 21 ⟨#[]⟩ id.from' [leafN 1 id]
  R (.body ⟨#[97,115,121,110,99]⟩ t.from' ps)
def bodyS (text:ByteArray) (from':Int) (params:Nd):PM Nd:=do
 let _←wantP s ⟨#[61,62]⟩
 let n←withP (if text=⟨#[97,115,121,110,99]⟩ then 4 else 0) 2 (do
  let t←peekP s 2
  if punctT t ⟨#[123]⟩ then R .function else R .assign)
 nodeP 22 text from' [params,n]
def yieldS:PM Nd:=do
 let y←takeP
 let t←peekP s 2
 if t.line||decide (t.kind=0)||(decide (t.kind=5) && oneOf t.text [⟨#[41]⟩,⟨#[93]⟩,⟨#[125]⟩,⟨#[44]⟩,⟨#[59]⟩,⟨#[58]⟩])||nameT t ⟨#[105,110]⟩ then nodeP 33 ⟨#[]⟩ y.from' [.zero]
 else if punctT t ⟨#[42]⟩ then do
  let _←takeP
  let n←R .assign
  nodeP 33 ⟨#[42]⟩ y.from' [n]
 else do
  let n←R .assign
  nodeP 33 ⟨#[]⟩ y.from' [n]
def assignedS (n:Nd):PM Nd:=
 if n.kind=22 then return n
 else do
  let t←peekP s 1
  if assigningT t then do
   let m←(if t.text=⟨#[61]⟩ then patternP n else do
    targetP n
    return n)
   let _←takeP
   let right←R .assign
   nodeP 30 t.text m.from' [m,right]
  else return n
def paramS (n:Nd) (_:Bool):PM Unit:=if okI n.from' && ((decide (n.kind=1) && targetB n)||decide (n.kind=0)) then return () else outP
def plainS (_:Nd):PM Unit:=outP
def elementS (_:Int) (_:Nd) (_:Bool):PM Unit:=outP
def paramsS (args:Nd):PM Nd:=
 if args.kids.all (fun k=>okI k.from' && decide (k.kind≠18) && decide (k.kind≠30)) && okI args.till && decide (args.kids.length≤16777216) then do
  askL args.kids
  let ks←mapL args.kids
  return .mk 21 ⟨#[]⟩ ks args.from' args.till
 else outP
where
 askL:List Nd→PM Unit
 | []=>return ()
 |k::ks=>do
  R (.param k ks.isEmpty)
  askL ks
 mapL:List Nd→PM (List Nd)
 | []=>return []
 |k::ks=>do
  let y←patternP k
  let ys←mapL ks
  return y::ys
def condS:PM Nd:=do
 let n←R (.binary 1 false)
 if n.kind=22 then return n
 else do
  let b←isP s ⟨#[63]⟩
  if b then do
   let then'←R .innerAssign
   let _←wantP s ⟨#[58]⟩
   let other←R .assign
   nodeP 31 ⟨#[]⟩ n.from' [n,then',other]
  else return n
def binaryS (least:Int) (nullish:Bool):PM Nd:=do
 let n←R (.operand least)
 if n.kind=22 then return n else opsL f n
where
 opsL:Nat→Nd→PM Nd
 |0,_=>outP
 |g+1,n=>do
  let r←operatorP s
  if r.2<least∨r.2=0 then return n
  else if (decide (r.1.text=⟨#[63,63]⟩) && logicalN n)||((decide (r.1.text=⟨#[124,124]⟩)||decide (r.1.text=⟨#[38,38]⟩)) && nullish)||(decide (r.1.text=⟨#[42,42]⟩) && (decide (n.kind=27)||decide (n.kind=34))) then oddP
  else do
   let _←takeP
   let right←(if r.1.text=⟨#[42,42]⟩ then do
    let u←peekP s 2
    deeperP u.from' (R (.binary r.2 false))
   else R (.binary (r.2+1) (decide (r.1.text=⟨#[63,63]⟩))))
   let m←nodeP 29 r.1.text n.from' [n,right]
   opsL g m
def operandS (least:Int):PM Nd:=do
 let t←peekP s 2
 if t.kind≠2 then R .unary
 else do
  let _←takeP
  let next←peekP s 1
  let p←getP
  if decide (8<least)|| !hasF p.flags 1|| !nameT next ⟨#[105,110]⟩ then failP 1001 t.from'
  else return leafN 2 t
def prefixS:PM Nd:=do
 let _←takeP
 let u←peekP s 2
 deeperP u.from' (R .unary)
def unaryS:PM Nd:=do
 let t←peekP s 2
 if nameT t ⟨#[100,101,108,101,116,101]⟩||nameT t ⟨#[118,111,105,100]⟩||nameT t ⟨#[116,121,112,101,111,102]⟩||punctT t ⟨#[43]⟩||punctT t ⟨#[45]⟩||punctT t ⟨#[126]⟩||punctT t ⟨#[33]⟩ then do
  let n←prefixS s R
  nodeP 27 t.text t.from' [n]
 else do
  let p←getP
  if nameT t ⟨#[97,119,97,105,116]⟩ && hasF p.flags 4 then do
   let n←prefixS s R
   nodeP 34 ⟨#[]⟩ t.from' [n]
  else if punctT t ⟨#[43,43]⟩||punctT t ⟨#[45,45]⟩ then do
   let n←prefixS s R
   targetP n
   nodeP 28 (t.text++⟨#[120]⟩) t.from' [n]
  else do
   let n←R .leftHand
   if n.kind=22 then return n
   else do
    let u←peekP s 1
    if (punctT u ⟨#[43,43]⟩||punctT u ⟨#[45,45]⟩) && !u.line then do
     targetP n
     let _←takeP
     nodeP 28 (⟨#[120]⟩++u.text) n.from' [n]
    else return n
def argsS:PM Nd:=do
 let t←wantP s ⟨#[40]⟩
 R (.arguments t.from')
def argumentsS (from':Int):PM Nd:=do
 let r←withP 1 0 (listP s ⟨#[41]⟩ 2 (fun kids=>do
  let k←R .spread
  commaP s k
  return kids++ [k]) f [] false)
 nodeP 36 ⟨#[]⟩ from' r.1
def spreadS:PM Nd:=do
 let t←peekP s 2
 if punctT t ⟨#[46,46,46]⟩ then do
  let _←takeP
  let n←R .assign
  nodeP 18 ⟨#[]⟩ t.from' [n]
 else R .assign
def indexS:PM Nd:=do
 let n←R .inner
 let _←wantP s ⟨#[93]⟩
 return n
def linkS (n:Nd) (calls templates:Bool):PM (Nd × Bool):=do
 let t←peekP s 1
 if punctT t ⟨#[46]⟩ then do
  let _←takeP
  let k←propertyP s (decide (n.kind≠6)||decide (n.text≠⟨#[115,117,112,101,114]⟩))
  let m←nodeP 38 ⟨#[]⟩ n.from' [n,k]
  return (m,true)
 else if punctT t ⟨#[91]⟩ then do
  let _←takeP
  let k←R .index
  let m←nodeP 39 ⟨#[]⟩ n.from' [n,k]
  return (m,true)
 else if punctT t ⟨#[40]⟩ && calls then do
  let k←R .args
  let m←nodeP 35 ⟨#[]⟩ n.from' [n,k]
  return (m,true)
 else if t.kind=7∨t.kind=8 then (if templates then do
   let k←R (.template true)
   let m←nodeP 10 ⟨#[]⟩ n.from' [n,k]
   return (m,true)
  else oddP)
 else return (n,false)
def optionalS (n:Nd):PM Nd:=do
 let t←peekP s 1
 if punctT t ⟨#[91]⟩ then do
  let _←takeP
  let k←R .index
  nodeP 39 ⟨#[63,46]⟩ n.from' [n,k]
 else if punctT t ⟨#[40]⟩ then do
  let k←R .args
  nodeP 35 ⟨#[63,46]⟩ n.from' [n,k]
 else do
  let k←propertyP s true
  nodeP 38 ⟨#[63,46]⟩ n.from' [n,k]
def chainS (n:Nd):PM Nd:=chainL f n
where
 chainL:Nat→Nd→PM Nd
 |0,_=>outP
 |g+1,n=>do
  let b←isP s ⟨#[63,46]⟩
  if b then do
   let m←R (.optional n)
   chainL g m
  else do
   let r←R (.link n true false)
   if r.2 then chainL g r.1 else nodeP 40 ⟨#[]⟩ r.1.from' [r.1]
def bareNew (n:Nd):Bool:=decide (n.kind=37) && decide (((n.kids.drop 1).headD .zero).kind=0)
def leftHandS:PM Nd:=do
 let t←peekP s 2
 let p←getP
 let may:=decide (t.from'=p.arrow)
 let n←R (.base t true)
 if n.kind=22 then return n
 else if may && decide (n.kind=1) && decide (n.text=⟨#[97,115,121,110,99]⟩) then (if okI n.from' && okI n.till && decide (t.text.size≤16777216) then (if n.till - n.from'=t.text.size then do
   let next←peekP s 1
   if punctT next ⟨#[40]⟩ && !next.line then do
    let args←R .args
    let next←peekP s 1
    if punctT next ⟨#[61,62]⟩ && !next.line then do
     let ps←R (.params args)
     R (.body ⟨#[97,115,121,110,99]⟩ n.from' ps)
    else do
     let m←nodeP 35 ⟨#[]⟩ n.from' [n,args]
     linkL f m
   else linkL f n
  else linkL f n) else outP)
 else linkL f n
where
 linkL:Nat→Nd→PM Nd
 |0,_=>outP
 |g+1,n=>do
  let next←peekP s 1
  if punctT next ⟨#[63,46]⟩ then (if n.kind=37∧n.kids.length<2 then outP else if bareNew n then oddP else R (.chain n))
  else do
   let r←R (.link n true true)
   if r.2 then linkL g r.1 else return r.1
def baseS (t:Tk) (calls:Bool):PM Nd:=
 if nameT t ⟨#[110,101,119]⟩ then do
  let _←takeP
  R (.new t.from')
 else if nameT t ⟨#[115,117,112,101,114]⟩ then do
  let u←takeP
  let next←peekP s 1
  if !punctT next ⟨#[46]⟩ && !punctT next ⟨#[91]⟩ && (!calls|| !punctT next ⟨#[40]⟩) then oddP
  else do
   let r←R (.link (leafN 6 u) calls false)
   return r.1
 else if nameT t ⟨#[105,109,112,111,114,116]⟩ then do
  let _←takeP
  let b←(if module then isP s ⟨#[46]⟩ else return false)
  if b then do
   mustP s ⟨#[109,101,116,97]⟩
   nodeP 7 ⟨#[105,109,112,111,114,116,46,109,101,116,97]⟩ t.from' []
  else if !calls then do
   let _←peekP s 1
   oddP
  else do
   let _←wantP s ⟨#[40]⟩
   let n←R .innerAssign
   let _←isP s ⟨#[44]⟩
   let _←wantP s ⟨#[41]⟩
   nodeP 41 ⟨#[]⟩ t.from' [n]
 else R (.primary t)
def newS (from':Int):PM Nd:=do
 let b←isP s ⟨#[46]⟩
 if b then do
  mustP s ⟨#[116,97,114,103,101,116]⟩
  nodeP 7 ⟨#[110,101,119,46,116,97,114,103,101,116]⟩ from' []
 else do
  let t←peekP s 2
  let n←deeperP t.from' (do
   let n←R (.base t false)
   if n.kind=37∧n.kids.length<2 then outP else moreL f n (!bareNew n))
  let next←peekP s 1
  if punctT next ⟨#[40]⟩ then do
   let a←R .args
   nodeP 37 ⟨#[]⟩ from' [n,a]
  else nodeP 37 ⟨#[]⟩ from' [n,.zero]
where
 moreL:Nat→Nd→Bool→PM Nd
 |0,_,_=>outP
 |g+1,n,more=>if more then do
   let r←R (.link n false true)
   moreL g r.1 r.2
  else return n
def primaryS (t:Tk):PM Nd:=
 if t.kind=3∨t.kind=4 then do
  let u←takeP
  return leafN t.kind u
 else if t.kind=6 then do
  let u←takeP
  return leafN 5 u
 else if t.kind=7∨t.kind=8 then R (.template false)
 else if t.kind=1 then R (.named t)
 else if punctT t ⟨#[91]⟩ then R .array
 else if punctT t ⟨#[123]⟩ then R .object
 else if punctT t ⟨#[40]⟩ then R (.paren t)
 else if punctT t ⟨#[60]⟩ then R .element1
 else oddP
def namedS (t:Tk):PM Nd:=
 if oneOf t.text [⟨#[116,104,105,115]⟩,⟨#[110,117,108,108]⟩,⟨#[116,114,117,101]⟩,⟨#[102,97,108,115,101]⟩] then do
  let u←takeP
  return leafN 6 u
 else if t.text=⟨#[102,117,110,99,116,105,111,110]⟩ then R (.funcs false)
 else if t.text=⟨#[99,108,97,115,115]⟩ then R (.cls false)
 else if t.text=⟨#[97,115,121,110,99]⟩ then do
  let next←lookP s t.till
  if nameT next ⟨#[102,117,110,99,116,105,111,110]⟩ && !next.line then R (.funcs false) else takeIdentP s module
 else takeIdentP s module
def parenS (t:Tk):PM Nd:=do
 let p←getP
 let _←takeP
 let args←R (.arguments t.from')
 let arrow←(if t.from'=p.arrow then do
  let next←peekP s 1
  return (punctT next ⟨#[61,62]⟩ && !next.line)
 else return false)
 if arrow then do
  let ps←R (.params args)
  R (.body ⟨#[]⟩ t.from' ps)
 else outP
def innerS:PM Nd:=withP 1 0 (R .expression)
def innerAssignS:PM Nd:=withP 1 0 (R .assign)
def functionS:PM Nd:=withP 1 0 (do
 let _←peekP s 2
 let o←wantP s ⟨#[123]⟩
 let kids←R (.statements true false 1)
 let _←takeP
 nodeP 58 ⟨#[]⟩ o.from' kids)
def programS:PM Nd:=do
 let kids←R (.statements true module 0)
 let _←takeP
 return .mk 86 ⟨#[]⟩ kids 0 s.size
def statementsS (dir top:Bool) (e:Nat):PM (List Nd):=partL f dir []
where
 partL:Nat→Bool→List Nd→PM (List Nd)
 |0,_,_=>outP
 |g+1,dir,kids=>do
  let t←peekP s 2
  if endB e t then return kids
  else do
   let n←deeperP t.from' (do
    let m←R (.modular t top)
    if m.kind=0 then R (.statement t true) else return m)
   if dir && decide (n.kind=57) then do
    let k←ofO n.kids.head?
    if k.kind=4 then outP else partL g false (kids++ [n])
   else partL g false (kids++ [n])
def blockS:PM Nd:=do
 let o←wantP s ⟨#[123]⟩
 let kids←R (.statements false false 1)
 let _←takeP
 nodeP 58 ⟨#[]⟩ o.from' kids
def headS:PM Nd:=do
 let _←wantP s ⟨#[40]⟩
 let n←R .inner
 let _←wantP s ⟨#[41]⟩
 return n
def kwW:List ByteArray:= [⟨#[97,115,121,110,99]⟩,⟨#[118,97,114]⟩,⟨#[108,101,116]⟩,⟨#[99,111,110,115,116]⟩,⟨#[102,117,110,99,116,105,111,110]⟩,⟨#[99,108,97,115,115]⟩,⟨#[105,102]⟩,⟨#[102,111,114]⟩,⟨#[119,104,105,108,101]⟩,⟨#[100,111]⟩,⟨#[114,101,116,117,114,110]⟩,⟨#[98,114,101,97,107]⟩,⟨#[99,111,110,116,105,110,117,101]⟩,⟨#[116,104,114,111,119]⟩,⟨#[116,114,121]⟩,⟨#[115,119,105,116,99,104]⟩,⟨#[100,101,98,117,103,103,101,114]⟩]
def statementS (t:Tk) (list:Bool):PM Nd:=
 if !list then outP
 else if punctT t ⟨#[123]⟩ then R .block
 else if punctT t ⟨#[59]⟩ then do
  let _←takeP
  nodeP 59 ⟨#[]⟩ t.from' []
 else if t.kind≠1 then R (.simple t)
 else if oneOf t.text kwW then outP
 else do
  let next←lookP s t.till
  let p←getP
  if identB module p.flags t && punctT next ⟨#[58]⟩ then do
   let _←takeP
   let _←wantP s ⟨#[58]⟩
   let n←R .alone
   nodeP 76 t.text t.from' [n]
  else R (.simple t)
def simpleS (t:Tk):PM Nd:=do
 let n←R .expression
 semicolonP s
 nodeP 57 ⟨#[]⟩ t.from' [n]
def returnedS (t:Tk):PM Nd:=do
 let _←takeP
 let u←peekP s 2
 let n←(if !u.line && decide (u.kind≠0) && !punctT u ⟨#[59]⟩ && !punctT u ⟨#[125]⟩ then R .expression else return .zero)
 semicolonP s
 nodeP 68 ⟨#[]⟩ t.from' [n]
def jumpS (t:Tk):PM Nd:=do
 let _←takeP
 let u←peekP s 1
 let p←getP
 let label←(if !u.line && identB module p.flags u then do
   let v←takeP
   return v.text
  else return ⟨#[]⟩)
 semicolonP s
 nodeP (if t.text=⟨#[99,111,110,116,105,110,117,101]⟩ then 70 else 69) label t.from' []
def modularS (_:Tk) (top:Bool):PM Nd:=if top then outP else return .zero
def stepP:(x:Fn)→PM x.Out
 | .expression=>expressionS s f R
 | .inner=>innerS R
 | .innerAssign=>innerAssignS R
 | .assign=>assignS s module R
 | .yield=>outP
 | .cond=>condS s R
 | .unary=>unaryS s R
 | .args=>argsS s R
 | .spread=>spreadS s R
 | .index=>indexS s R
 | .array=>outP
 | .function=>outP
 | .binding=>outP
 | .arrayPattern=>outP
 | .objectPattern=>outP
 | .object=>outP
 | .prop=>outP
 | .element2=>outP
 | .alone=>outP
 | .block=>blockS s R
 | .head=>outP
 | .element1=>outP
 | .takeText=>outP
 | .fromText=>outP
 | .program=>programS s module R
 | .arrowOf t=>arrowOfS s R t
 | .body text from' params=>bodyS s R text from' params
 | .assigned n=>assignedS s R n
 | .param n last=>paramS n last
 | .plain n=>plainS n
 | .element of k last=>elementS of k last
 | .params args=>paramsS R args
 | .binary least nullish=>binaryS s f R least nullish
 | .operand least=>operandS s R least
 | .arguments from'=>argumentsS s f R from'
 | .link n calls templates=>linkS s R n calls templates
 | .optional n=>optionalS s R n
 | .chain n=>chainS s f R n
 | .leftHand=>leftHandS s f R
 | .base t calls=>baseS s module R t calls
 | .new from'=>newS s f R from'
 | .template _=>outP
 | .primary t=>primaryS R t
 | .named t=>namedS s module R t
 | .paren t=>parenS s R t
 | .takeKey _=>outP
 | .members _=>outP
 | .method _=>outP
 | .callable _ _ _ _=>outP
 | .formals _=>outP
 | .defaulted _=>outP
 | .funcs _=>outP
 | .cls _=>outP
 | .statements dir top e=>statementsS s f R dir top e
 | .statement t list=>statementS s module R t list
 | .simple t=>simpleS s R t
 | .declaration _=>outP
 | .declared _ _=>outP
 | .branch _=>outP
 | .returned _=>outP
 | .jump _=>outP
 | .tried _=>outP
 | .switched _=>outP
 | .loop _=>outP
 | .through _ _ _=>outP
 | .counted _ _=>outP
 | .modular t top=>modularS t top
 | .imported _=>outP
 | .outer=>outP
 | .specs _=>outP
 | .exported _=>outP
 | .defaultOf _=>outP
 | .markup _=>outP
 | .attr _=>outP
 | .children _=>outP
 | .closing _ _=>outP
 | .jname _=>outP
end
def ps0 (module:Bool):Ps:=⟨0,Tk.zero,[],0,[],if module then 5 else 1,0,-1,[]⟩
end
section
section
variable (s:ByteArray) (module:Bool) (f:Nat) (R:(x:Fn)→PM x.Out)
def argumentsQ (from':Int):PM Nd:=do
 let r←withP 1 0 (listP s ⟨#[41]⟩ 2 (fun kids=>if 4194304<kids.length then outP else do
  let k←R .spread
  commaP s k
  return kids++ [k]) f [] false)
 nodeP 36 ⟨#[]⟩ from' r.1
def trailingQ (n:Nd):PM Bool:=if 4194304<n.kids.length then outP else match n.kids.getLast? with
 |none=>outP
 |some m=>do
  let t←lookP s m.till
  return punctT t ⟨#[44]⟩
def parenN (args:Nd) (last:Nd):Nd:=match args.kids with
 | [k]=> .mk 26 ⟨#[]⟩ [k] args.from' args.till
 |ks=> .mk 26 ⟨#[]⟩ [.mk 32 ⟨#[]⟩ ks (ks.headD .zero).from' last.till] args.from' args.till
def parenX (args:Nd):PM Nd:=if (args.kids.isEmpty||args.kids.any (fun k=>decide (k.kind=18)))=true then outP else do
 let b←trailingQ s args
 if b then outP else return parenN args (args.kids.getLastD .zero)
def parenQ (t:Tk):PM Nd:=do
 let p←getP
 let _←takeP
 let args←R (.arguments t.from')
 let arrow←(if t.from'=p.arrow then do
  let next←peekP s 1
  return (punctT next ⟨#[61,62]⟩ && !next.line)
 else return false)
 if arrow then do
  let ps←R (.params args)
  R (.body ⟨#[]⟩ t.from' ps)
 else parenX s args
end
def templateQ (tagged:Bool):PM Nd:=do
 let p←getP
 if tagged=false∨p.tok.kind=8∨p.tok.kind=10∨p.tok.text.size<2∨16777216<p.tok.text.size then outP
 else do
  let _←takeP
  nodeP 8 ⟨#[]⟩ p.tok.from' [.mk 9 (p.tok.text.extract 1 (p.tok.text.size - 1)) [] p.tok.from' p.tok.till]
def declarationQ (R:(x:Fn)→PM x.Out) (must:Bool):PM Nd:=do
 let p←getP
 if nameT p.tok ⟨#[99,108,97,115,115]⟩ then outP
 else do
  let n←R (.funcs must)
  nodeP 20 ⟨#[]⟩ p.tok.from' [n]
def funcsQ (s:ByteArray) (module:Bool) (R:(x:Fn)→PM x.Out) (must:Bool):PM Nd:=if must=false then outP else do
 let p←getP
 let a←wordP s ⟨#[97,115,121,110,99]⟩
 if a then outP
 else do
  mustP s ⟨#[102,117,110,99,116,105,111,110]⟩
  let b←isP s ⟨#[42]⟩
  if b then do
   let id←takeIdentP s module
   R (.callable ⟨#[42]⟩ p.tok.from' id ⟨#[]⟩)
  else do
   let id←takeIdentP s module
   R (.callable ⟨#[]⟩ p.tok.from' id ⟨#[]⟩)
def throwQ (s:ByteArray) (R:(x:Fn)→PM x.Out) (t:Tk):PM Nd:=do
 let _←takeP
 let u←peekP s 2
 if u.line then oddP
 else do
  let n←R .expression
  semicolonP s
  nodeP 71 ⟨#[]⟩ t.from' [n]
def asyncQ (s:ByteArray) (module:Bool) (R:(x:Fn)→PM x.Out) (t:Tk):PM Nd:=do
 let a←lookP s t.till
 if nameT a ⟨#[102,117,110,99,116,105,111,110]⟩ && !a.line then outP
 else do
  let next←lookP s t.till
  let p←getP
  if identB module p.flags t && punctT next ⟨#[58]⟩ then outP else R (.simple t)
def statementQ (s:ByteArray) (module:Bool) (R:(x:Fn)→PM x.Out) (t:Tk) (list:Bool):PM Nd:=
 if list=false∨t.kind≠1 then statementS s module R t list
 else if t.text=⟨#[102,117,110,99,116,105,111,110]⟩ then R (.declaration true)
 else if t.text=⟨#[114,101,116,117,114,110]⟩ then R (.returned t)
 else if t.text=⟨#[98,114,101,97,107]⟩ then R (.jump t)
 else if t.text=⟨#[99,111,110,116,105,110,117,101]⟩ then R (.jump t)
 else if t.text=⟨#[116,104,114,111,119]⟩ then throwQ s R t
 else if t.text=⟨#[97,115,121,110,99]⟩ then asyncQ s module R t
 else if t.text=⟨#[115,119,105,116,99,104]⟩ then R (.switched t)
 else statementS s module R t list
def fromK (l:List Nd) (d:Int):Int:=match l.head? with
 |some k=>k.from'
 |none=>d
def tillK (l:List Nd) (d:Int):Int:=match l.getLast? with
 |some k=>k.till
 |none=>d
def caseN (l:List Nd) (d:Int):Nd:= .mk 58 ⟨#[]⟩ l (fromK l d) (tillK l d)
def casesL (s:ByteArray) (R:(x:Fn)→PM x.Out) (from':Int) (of:Nd) (op:Int):Nat→Bool→List Nd→PM Nd
 |0,_,_=>outP
 |g+1,plain,kids=>do
  let c←peekP s 2
  let b←isP s ⟨#[125]⟩
  if b then do
   let cs←nodeP 74 ⟨#[]⟩ op kids
   nodeP 73 ⟨#[]⟩ from' [of,cs]
  else if nameT c ⟨#[99,97,115,101]⟩ then do
   let _←takeP
   let x←R .inner
   let u←wantP s ⟨#[58]⟩
   let list←R (.statements false false 2)
   if 4194304<list.length then outP else do
    let k←nodeP 75 ⟨#[]⟩ c.from' [x,caseN list u.till]
    casesL s R from' of op g plain (kids++ [k])
  else if nameT c ⟨#[100,101,102,97,117,108,116]⟩ && !plain then do
   let _←takeP
   let u←wantP s ⟨#[58]⟩
   let list←R (.statements false false 2)
   if 4194304<list.length then outP else do
    let k←nodeP 75 ⟨#[]⟩ c.from' [.zero,caseN list u.till]
    casesL s R from' of op g true (kids++ [k])
  else oddP
def switchedQ (s:ByteArray) (f:Nat) (R:(x:Fn)→PM x.Out) (t:Tk):PM Nd:=do
 let _←takeP
 let of←R .head
 let o←wantP s ⟨#[123]⟩
 casesL s R t.from' of o.from' f false []
def formalsQ (s:ByteArray) (f:Nat) (of:ByteArray):PM Nd:=if of≠⟨#[]⟩ then outP else do
 let o←wantP s ⟨#[40]⟩
 let _←listP s ⟨#[41]⟩ 1 (fun _:Unit=>outP) f () false
 nodeP 21 ⟨#[]⟩ o.from' []
def callableQ (R:(x:Fn)→PM x.Out) (text:ByteArray) (from':Int) (id:Nd) (of:ByteArray):PM Nd:=
 if of≠⟨#[]⟩∨id.kids≠ [] then outP
 else if text=⟨#[42]⟩ then withP 3 6 (do
  let params←R (.formals ⟨#[]⟩)
  let body←R .function
  nodeP 19 text from' [id,params,body])
 else if text=⟨#[]⟩ then withP 1 6 (do
  let params←R (.formals ⟨#[]⟩)
  let body←R .function
  nodeP 19 text from' [id,params,body])
 else outP
def dirL (s:ByteArray) (R:(x:Fn)→PM x.Out) (top:Bool) (e:Nat):Nat→Bool→List Nd→PM (List Nd)
 |0,_,_=>outP
 |g+1,dir,kids=>do
  let t←peekP s 2
  if endB e t then return kids
  else do
   let n←deeperP t.from' (do
    let m←R (.modular t top)
    if m.kind=0 then R (.statement t true) else return m)
   if dir && decide (n.kind=57) then do
    let k←ofO n.kids.head?
    if k.kind=4 then dirL s R top e g true (kids++ [.mk 78 k.text [] n.from' n.till]) else dirL s R top e g false (kids++ [n])
   else dirL s R top e g false (kids++ [n])
def statementsQ (s:ByteArray) (f:Nat) (R:(x:Fn)→PM x.Out) (dir top:Bool) (e:Nat):PM (List Nd):=dirL s R top e f dir []
mutual
def noProp:Nd→Bool
 | .mk k _ ks _ _=> !decide (k=13) && noProps ks
def noProps:List Nd→Bool
 | []=>true
 |k::ks=>noProp k && noProps ks
end
def readQ (x:PM Nd):PM Nd:=do
 let n←x
 if noProp n=false then outP else if 4194304<ndSize n then outP else if 8000<ndDeep n then failP 1002 0 else return n
def expr1S (s:ByteArray) (R:(x:Fn)→PM x.Out):PM Nd:=do
 let n←R .expression
 let t←peekP s 1
 if t.kind=0 then return n else oddP
end
end Go.Proofs.YtnahajcjpmbflaaGreatDoor
