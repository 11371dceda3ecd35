/- Steps (Ps Pt St Stl Sto). Conditions: as stated. -/
import Derived.Test.YtnobjeelihkjmaaGreatDoorZt03
import Derived.Test.YtnobjeelihkjmaaGreatDoorZt06
import Derived.Test.YtnobjeelihkjmaaGreatDoorZt05
import Derived.Test.YtnobjeelihkjmaaGreatDoorZt04
namespace Go.Proofs.YtnobjeelihkjmaaGreatDoor
section
structure Ps where
 at':Int
 tok:Tk
 ahead:List Cm
 goal:Int
 cms:List Cm
 flags:Int
 nest:Int
 arrow:Int
 commas:List (Int × Int)
inductive Res (α:Type) where
 |ok (a:α) (p:Ps)
 |bad (code place:Int)
 |out
def PM (α:Type):=Ps→Res α
def PM.pure {α:Type} (a:α):PM α:=fun p=> .ok a p
def PM.bind {α β:Type} (x:PM α) (f:α→PM β):PM β:=fun p=>match x p with
 | .ok a q=>f a q
 | .bad c i=> .bad c i
 | .out=> .out
instance:Monad PM:= { pure:=PM.pure,bind:=PM.bind }
def bQ7 {α:Type} (code place:Int):PM α:=fun _=> .bad code place
def outP {α:Type} :PM α:=fun _=> .out
def getP:PM Ps:=fun p=> .ok p p
def modP (f:Ps→Ps):PM Unit:=fun p=> .ok () (f p)
def ofO {α:Type} (o:Option α):PM α:=match o with
 |some a=>pure a
 |none=>outP
def hasF (f k:Int):Bool:= !(bits .and .i64 f k==0)
def setF (f on off:Int):Int:=bits .or .i64 (bits .andNot .i64 f off) on
def punctT (t:Tk) (x:ByteArray):Bool:=decide (t.kind=5) && decide (t.text=x)
def nameT (t:Tk) (x:ByteArray):Bool:=decide (t.kind=1) && decide (t.text=x)
def ag1 (kind:Int) (t:Tk):Nd:= .mk kind t.text [] t.from' t.till
def ae0 (t:Tk):Bool:=decide (t.kind=5) && ak5 t.text [⟨#[61]⟩,⟨#[43,61]⟩,⟨#[45,61]⟩,⟨#[42,61]⟩,⟨#[47,61]⟩,⟨#[37,61]⟩,⟨#[42,42,61]⟩,⟨#[60,60,61]⟩,⟨#[62,62,61]⟩,⟨#[62,62,62,61]⟩,⟨#[38,61]⟩,⟨#[124,61]⟩,⟨#[94,61]⟩,⟨#[38,38,61]⟩,⟨#[124,124,61]⟩,⟨#[63,63,61]⟩]
def aE7 (n:Nd):Bool:=decide (n.kind=29) && (decide (n.text=⟨#[124,124]⟩)||decide (n.text=⟨#[38,38]⟩))
def bi5 (n:Nd):Bool:=
 if n.kind=1 then decide (n.text≠⟨#[101,118,97,108]⟩) && decide (n.text≠⟨#[97,114,103,117,109,101,110,116,115]⟩)
 else if n.kind=38∨n.kind=39 then decide (n.text=⟨#[]⟩) else false
def aR0:Nat→Nd→Bool
 |0,_=>false
 |f+1,n=>if n.kind=26∧n.kids.length=1 then aR0 f (n.kids.headD .zero) else bi5 n
def ar7 (n:Nd):Bool:=aR0 (aa0 n) n
def okI (i:Int):Bool:=decide (0≤i) && decide (i≤16777216)
def hasC (c:List (Int × Int)) (k:Int):Bool:=c.any fun e=>decide (e.1=k)
section
variable (s:ByteArray) (module:Bool)
def tkOf (kind:Int) (q n:Nat) (line:Bool):Tk:=⟨kind,s.extract q (q+n),q,((q+n:Nat):Int),line⟩
def bg9 (goal:Int):PM Tk:=fun p=>
 if p.at'<0∨(s.size:Int)<p.at' then .out
 else match nxt s p.at'.toNat goal with
  | .fine kind q n line []=> .ok (tkOf s kind q n line) { p with tok:=tkOf s kind q n line,ahead:= [],goal:=goal }
  |_=> .out
def an3 (goal:Int) (p:Ps):Bool:=decide (p.goal≠0∧(p.goal=goal∨(goal≤2∧p.goal≤2∧Lib.hasPrefix p.tok.text.data.toList [47]=false)))
def ab7 (goal:Int):PM Tk:=fun p=>if an3 goal p then .ok p.tok p else bg9 s goal p
def ae7:PM Tk:=fun p=>if 4194304<p.cms.length+p.ahead.length then .out else .ok p.tok { p with cms:=p.cms++p.ahead,at':=p.tok.till,goal:=0,ahead:= [] }
def oddP {α:Type} :PM α:=fun p=> .bad 1001 p.tok.from'
def bv4 (place:Int):Tk:=match nxt s place.toNat 1 with
 | .bad _ _=>⟨-1,⟨#[]⟩,0,0,false⟩
 | .fine kind q n line _=>tkOf s kind q n line
def NxO.okB:NxO→Bool
 | .fine _ _ _ _ []=>true
 |_=>false
theorem NxO.ok_of {o:NxO} (h:o.okB=true): ∃kind q n line,o= .fine kind q n line []:=by
 cases o with
 |bad a b=>cases h
 |fine k q n l cs=>
  cases cs with
  |nil=>exact⟨k,q,n,l,rfl⟩
  |cons c cs=>cases h
def ay6 (place:Int):PM Tk:=if place<0∨(s.size:Int)<place∨(nxt s place.toNat 1).okB=false then outP else return bv4 s place
def isP (x:ByteArray):PM Bool:=do
 let t←ab7 s 1
 if punctT t x then do
  let _←ae7
  return true
 else return false
def av1 (x:ByteArray):PM Tk:=do
 let t←ab7 s 1
 if punctT t x then ae7 else oddP
def bC1 (x:ByteArray):PM Bool:=do
 let t←ab7 s 1
 if nameT t x then do
  let _←ae7
  return true
 else return false
def bm0 (x:ByteArray):PM Unit:=do
 let b←bC1 s x
 if b then return () else oddP
def ak3 (flags:Int) (t:Tk):Bool:=decide (t.kind=1) && !aa2 t.text module && (!hasF flags 4||decide (t.text≠⟨#[97,119,97,105,116]⟩))
def am4:PM Nd:=do
 let t←ab7 s 1
 let p←getP
 if ak3 module p.flags t then do
  let u←ae7
  return ag1 1 u
 else oddP
def af2 (kind:Int) (text:ByteArray) (from':Int) (kids:List Nd):PM Nd:=fun p=> .ok (.mk kind text kids from' p.at') p
def ax3 {α:Type} (on off:Int) (x:PM α):PM α:=fun p=>PM.bind x (fun a q=> .ok a { q with flags:=p.flags }) { p with flags:=setF p.flags on off }
def ag9 {α:Type} (place:Int) (x:PM α):PM α:=fun p=>
 if 4000≤p.nest then .bad 1002 place
 else PM.bind x (fun a q=>if q.nest≤0 then .out else .ok a { q with nest:=q.nest - 1 }) { p with nest:=p.nest+1 }
def am3:PM Unit:=do
 let t←ab7 s 1
 if punctT t ⟨#[59]⟩ then do
  let _←ae7
  return ()
 else if !punctT t ⟨#[125]⟩ && decide (t.kind≠0) && !t.line then oddP else return ()
def ao8 {α:Type} (closing:ByteArray) (goal:Int) (one:α→PM α):Nat→α→Bool→PM (α × Bool)
 |0,_,_=>outP
 |f+1,a,comma=>do
  let t←ab7 s goal
  if punctT t closing then do
   let _←ae7
   return (a,comma)
  else do
   let b←one a
   let u←ab7 s 1
   if punctT u closing then do
    let _←ae7
    return (b,false)
   else do
    let _←av1 s ⟨#[44]⟩
    ao8 closing goal one f b true
def at8 (n:Nd):PM Unit:=if ar7 n then return () else bQ7 1003 n.from'
def bZ1 (n:Nd):PM Nd:=if ar7 n && decide (aa0 n≤4194304) then return n else outP
def bi3 (n:Nd):PM Nd:=do
 let p←getP
 if !p.commas.isEmpty && (decide (n.kind=11)||decide (n.kind=12)) then outP else bZ1 n
def al4 (n:Nd):PM Unit:=if n.kind=18 then do
  let t←ab7 s 1
  if punctT t ⟨#[44]⟩ then do
   let q←getP
   if 4194304<q.commas.length∨okI n.from'=false∨okI n.till=false then outP else modP fun q=> { q with commas:=(n.from',n.till)::q.commas }
  else return ()
 else return ()
def ai2:PM (Tk × Int):=do
 let t←ab7 s 1
 let p←getP
 if decide (t.kind≠5) && !nameT t ⟨#[105,110,115,116,97,110,99,101,111,102]⟩ && (!nameT t ⟨#[105,110]⟩|| !hasF p.flags 1) then return (t,0)
 else return (t,ab2 t.text)
def ap7 (private':Bool):PM Nd:=do
 let t←ab7 s 1
 if t.kind=1 then do
  let u←ae7
  return ag1 1 u
 else if t.kind≠2∨private'=false then oddP
 else do
  let u←ae7
  return ag1 2 u
end
end
section
structure Mb where
 from':Int
 static:Bool
 kind:ByteArray
 key:Nd
 block:Bool
def Mb.text (m:Mb):ByteArray:=if m.static=false then m.kind else if m.kind=⟨#[]⟩ then ⟨#[115,116,97,116,105,99]⟩ else ⟨#[115,116,97,116,105,99,32]⟩++m.kind
def endB (e:Nat) (t:Tk):Bool:=if e=0 then decide (t.kind=0) else if e=1 then punctT t ⟨#[125]⟩ else punctT t ⟨#[125]⟩||nameT t ⟨#[99,97,115,101]⟩||nameT t ⟨#[100,101,102,97,117,108,116]⟩
inductive Fn where
 |expression|inner|innerAssign|assign|yield|cond|unary|args|spread|index|array|function|binding|arrayPattern|objectPattern|object|prop|element2
 |alone|block|head|element1|takeText|fromText|program
 |arrowOf (t:Tk)|body (text:ByteArray) (from':Int) (params:Nd)|assigned (n:Nd)
 |param (n:Nd) (last:Bool)|plain (n:Nd)|element (of:Int) (k:Nd) (last:Bool)|params (args:Nd)
 |binary (least:Int) (nullish:Bool)|operand (least:Int)|arguments (from':Int)
 |link (n:Nd) (calls templates:Bool)|optional (n:Nd)|chain (n:Nd)|leftHand|base (t:Tk) (calls:Bool)|new (from':Int)
 |template (tagged:Bool)|primary (t:Tk)|named (t:Tk)|paren (t:Tk)
 |takeKey (cls:Bool)|members (cls:Bool)|method (m:Mb)|callable (text:ByteArray) (from':Int) (id:Nd) (of:ByteArray)|formals (of:ByteArray)|defaulted (n:Nd)
 |funcs (must:Bool)|cls (must:Bool)
 |statements (dir top:Bool) (e:Nat)|statement (t:Tk) (list:Bool)|simple (t:Tk)|declaration (must:Bool)|declared (t:Tk) (first:Option Nd)
 |branch (t:Tk)|returned (t:Tk)|jump (t:Tk)|tried (t:Tk)|switched (t:Tk)|loop (t:Tk)|through (t:Tk) (text:ByteArray) (first:Nd)|counted (t:Tk) (first:Nd)
 |modular (t:Tk) (top:Bool)|imported (t:Tk)|outer|specs (imports:Bool)|exported (t:Tk)|defaultOf (t:Tk)
 |markup (from':Int)|attr (t:Tk)|children (of:ByteArray)|closing (of:ByteArray) (from':Int)|jname (points:Bool)
@[reducible] def Fn.Out:Fn→Type
 | .param _ _=>Unit
 | .plain _=>Unit
 | .element _ _ _=>Unit
 | .closing _ _=>Unit
 | .link _ _ _=>Nd × Bool
 | .members _=>Mb
 | .statements _ _ _=>List Nd
 |_=>Nd
section
variable (s:ByteArray) (module:Bool) (f:Nat) (R:(x:Fn)→PM x.Out)
def ag0:PM Nd:=do
 let n←R .assign
 let t←ab7 s 1
 if punctT t ⟨#[44]⟩ then seqL f [n] n.from' else return n
where
 seqL:Nat→List Nd→Int→PM Nd
 |0,_,_=>outP
 |g+1,kids,from'=>do
  let b←isP s ⟨#[44]⟩
  if b then do
   let k←R .assign
   seqL g (kids++ [k]) from'
  else af2 32 ⟨#[]⟩ from' kids
def ag8:PM Nd:=do
 let t←ab7 s 2
 ag9 t.from' (do
  let p←getP
  if hasF p.flags 2 && nameT t ⟨#[121,105,101,108,100]⟩ then R .yield
  else do
   let one←single t
   if one then R (.arrowOf t)
   else do
    modP fun q=> { q with arrow:=t.from' }
    let n←R .cond
    R (.assigned n))
where
 single (t:Tk):PM Bool:=do
  let p←getP
  let u←(if nameT t ⟨#[97,115,121,110,99]⟩ then do
    let next←ay6 s t.till
    if !next.line && ak3 module p.flags next then return next else return t
   else return t)
  let next←ay6 s u.till
  if !ak3 module p.flags u|| !punctT next ⟨#[61,62]⟩||next.line then return false
  else do
   at8 (ag1 1 u)
   return true
def bD1 (t:Tk):PM Nd:=do
 let _←ae7
 let id←ab7 s 1
 if punctT id ⟨#[61,62]⟩ then do
  let ps←af2 21 ⟨#[]⟩ t.from' [ag1 1 t]
  R (.body ⟨#[]⟩ t.from' ps)
 else do
  let _←ae7
  let ps←af2 21 ⟨#[]⟩ id.from' [ag1 1 id]
  R (.body ⟨#[97,115,121,110,99]⟩ t.from' ps)
def ce8 (text:ByteArray) (from':Int) (params:Nd):PM Nd:=do
 let _←av1 s ⟨#[61,62]⟩
 let n←ax3 (if text=⟨#[97,115,121,110,99]⟩ then 4 else 0) 2 (do
  let t←ab7 s 2
  if punctT t ⟨#[123]⟩ then R .function else R .assign)
 af2 22 text from' [params,n]
def bq0 (n:Nd):PM Nd:=
 if n.kind=22 then return n
 else do
  let t←ab7 s 1
  if ae0 t then do
   let m←(if t.text=⟨#[61]⟩ then bi3 n else do
    at8 n
    return n)
   let _←ae7
   let right←R .assign
   af2 30 t.text m.from' [m,right]
  else return n
def aU9 (n:Nd) (_:Bool):PM Unit:=if okI n.from' && ((decide (n.kind=1) && ar7 n)||decide (n.kind=0)) then return () else outP
def cc5 (_:Nd):PM Unit:=outP
def bE2 (_:Int) (_:Nd) (_:Bool):PM Unit:=outP
def bT9 (args:Nd):PM Nd:=
 if args.kids.all (fun k=>okI k.from' && decide (k.kind≠18) && decide (k.kind≠30)) && okI args.till && decide (args.kids.length≤16777216) then do
  askL args.kids
  let ks←mapL args.kids
  return .mk 21 ⟨#[]⟩ ks args.from' args.till
 else outP
where
 askL:List Nd→PM Unit
 | []=>return ()
 |k::ks=>do
  R (.param k ks.isEmpty)
  askL ks
 mapL:List Nd→PM (List Nd)
 | []=>return []
 |k::ks=>do
  let y←bi3 k
  let ys←mapL ks
  return y::ys
def aY1:PM Nd:=do
 let n←R (.binary 1 false)
 if n.kind=22 then return n
 else do
  let b←isP s ⟨#[63]⟩
  if b then do
   let then'←R .innerAssign
   let _←av1 s ⟨#[58]⟩
   let other←R .assign
   af2 31 ⟨#[]⟩ n.from' [n,then',other]
  else return n
def ae5 (least:Int) (nullish:Bool):PM Nd:=do
 let n←R (.operand least)
 if n.kind=22 then return n else opsL f n
where
 opsL:Nat→Nd→PM Nd
 |0,_=>outP
 |g+1,n=>do
  let r←ai2 s
  if r.2<least∨r.2=0 then return n
  else if (decide (r.1.text=⟨#[63,63]⟩) && aE7 n)||((decide (r.1.text=⟨#[124,124]⟩)||decide (r.1.text=⟨#[38,38]⟩)) && nullish)||(decide (r.1.text=⟨#[42,42]⟩) && (decide (n.kind=27)||decide (n.kind=34))) then oddP
  else do
   let _←ae7
   let right←(if r.1.text=⟨#[42,42]⟩ then do
    let u←ab7 s 2
    ag9 u.from' (R (.binary r.2 false))
   else R (.binary (r.2+1) (decide (r.1.text=⟨#[63,63]⟩))))
   let m←af2 29 r.1.text n.from' [n,right]
   opsL g m
def ar4 (least:Int):PM Nd:=do
 let t←ab7 s 2
 if t.kind≠2 then R .unary
 else do
  let _←ae7
  let next←ab7 s 1
  let p←getP
  if decide (8<least)|| !hasF p.flags 1|| !nameT next ⟨#[105,110]⟩ then bQ7 1001 t.from'
  else return ag1 2 t
def ba2:PM Nd:=do
 let _←ae7
 let u←ab7 s 2
 ag9 u.from' (R .unary)
def cd9:PM Nd:=do
 let t←ab7 s 2
 if nameT t ⟨#[100,101,108,101,116,101]⟩||nameT t ⟨#[118,111,105,100]⟩||nameT t ⟨#[116,121,112,101,111,102]⟩||punctT t ⟨#[43]⟩||punctT t ⟨#[45]⟩||punctT t ⟨#[126]⟩||punctT t ⟨#[33]⟩ then do
  let n←ba2 s R
  af2 27 t.text t.from' [n]
 else do
  let p←getP
  if nameT t ⟨#[97,119,97,105,116]⟩ && hasF p.flags 4 then do
   let n←ba2 s R
   af2 34 ⟨#[]⟩ t.from' [n]
  else if punctT t ⟨#[43,43]⟩||punctT t ⟨#[45,45]⟩ then do
   let n←ba2 s R
   at8 n
   af2 28 (t.text++⟨#[120]⟩) t.from' [n]
  else do
   let n←R .leftHand
   if n.kind=22 then return n
   else do
    let u←ab7 s 1
    if (punctT u ⟨#[43,43]⟩||punctT u ⟨#[45,45]⟩) && !u.line then do
     at8 n
     let _←ae7
     af2 28 (⟨#[120]⟩++u.text) n.from' [n]
    else return n
def aX8:PM Nd:=do
 let t←av1 s ⟨#[40]⟩
 R (.arguments t.from')
def bk6 (from':Int):PM Nd:=do
 let r←ax3 1 0 (ao8 s ⟨#[41]⟩ 2 (fun kids=>do
  let k←R .spread
  al4 s k
  return kids++ [k]) f [] false)
 af2 36 ⟨#[]⟩ from' r.1
def ax0:PM Nd:=do
 let t←ab7 s 2
 if punctT t ⟨#[46,46,46]⟩ then do
  let _←ae7
  let n←R .assign
  af2 18 ⟨#[]⟩ t.from' [n]
 else R .assign
def aT7:PM Nd:=do
 let n←R .inner
 let _←av1 s ⟨#[93]⟩
 return n
def aP8 (n:Nd) (calls templates:Bool):PM (Nd × Bool):=do
 let t←ab7 s 1
 if punctT t ⟨#[46]⟩ then do
  let _←ae7
  let k←ap7 s (decide (n.kind≠6)||decide (n.text≠⟨#[115,117,112,101,114]⟩))
  let m←af2 38 ⟨#[]⟩ n.from' [n,k]
  return (m,true)
 else if punctT t ⟨#[91]⟩ then do
  let _←ae7
  let k←R .index
  let m←af2 39 ⟨#[]⟩ n.from' [n,k]
  return (m,true)
 else if punctT t ⟨#[40]⟩ && calls then do
  let k←R .args
  let m←af2 35 ⟨#[]⟩ n.from' [n,k]
  return (m,true)
 else if t.kind=7∨t.kind=8 then (if templates then do
   let k←R (.template true)
   let m←af2 10 ⟨#[]⟩ n.from' [n,k]
   return (m,true)
  else oddP)
 else return (n,false)
def at3 (n:Nd):PM Nd:=do
 let t←ab7 s 1
 if punctT t ⟨#[91]⟩ then do
  let _←ae7
  let k←R .index
  af2 39 ⟨#[63,46]⟩ n.from' [n,k]
 else if punctT t ⟨#[40]⟩ then do
  let k←R .args
  af2 35 ⟨#[63,46]⟩ n.from' [n,k]
 else do
  let k←ap7 s true
  af2 38 ⟨#[63,46]⟩ n.from' [n,k]
def bY9 (n:Nd):PM Nd:=chainL f n
where
 chainL:Nat→Nd→PM Nd
 |0,_=>outP
 |g+1,n=>do
  let b←isP s ⟨#[63,46]⟩
  if b then do
   let m←R (.optional n)
   chainL g m
  else do
   let r←R (.link n true false)
   if r.2 then chainL g r.1 else af2 40 ⟨#[]⟩ r.1.from' [r.1]
def bO9 (n:Nd):Bool:=decide (n.kind=37) && decide (((n.kids.drop 1).headD .zero).kind=0)
def bu9:PM Nd:=do
 let t←ab7 s 2
 let p←getP
 let may:=decide (t.from'=p.arrow)
 let n←R (.base t true)
 if n.kind=22 then return n
 else if may && decide (n.kind=1) && decide (n.text=⟨#[97,115,121,110,99]⟩) then (if okI n.from' && okI n.till && decide (t.text.size≤16777216) then (if n.till - n.from'=t.text.size then do
   let next←ab7 s 1
   if punctT next ⟨#[40]⟩ && !next.line then do
    let args←R .args
    let next←ab7 s 1
    if punctT next ⟨#[61,62]⟩ && !next.line then do
     let ps←R (.params args)
     R (.body ⟨#[97,115,121,110,99]⟩ n.from' ps)
    else do
     let m←af2 35 ⟨#[]⟩ n.from' [n,args]
     linkL f m
   else linkL f n
  else linkL f n) else outP)
 else linkL f n
where
 linkL:Nat→Nd→PM Nd
 |0,_=>outP
 |g+1,n=>do
  let next←ab7 s 1
  if punctT next ⟨#[63,46]⟩ then (if n.kind=37∧n.kids.length<2 then outP else if bO9 n then oddP else R (.chain n))
  else do
   let r←R (.link n true true)
   if r.2 then linkL g r.1 else return r.1
def ce7 (t:Tk) (calls:Bool):PM Nd:=
 if nameT t ⟨#[110,101,119]⟩ then do
  let _←ae7
  R (.new t.from')
 else if nameT t ⟨#[115,117,112,101,114]⟩ then do
  let u←ae7
  let next←ab7 s 1
  if !punctT next ⟨#[46]⟩ && !punctT next ⟨#[91]⟩ && (!calls|| !punctT next ⟨#[40]⟩) then oddP
  else do
   let r←R (.link (ag1 6 u) calls false)
   return r.1
 else if nameT t ⟨#[105,109,112,111,114,116]⟩ then do
  let _←ae7
  let b←(if module then isP s ⟨#[46]⟩ else return false)
  if b then do
   bm0 s ⟨#[109,101,116,97]⟩
   af2 7 ⟨#[105,109,112,111,114,116,46,109,101,116,97]⟩ t.from' []
  else if !calls then do
   let _←ab7 s 1
   oddP
  else do
   let _←av1 s ⟨#[40]⟩
   let n←R .innerAssign
   let _←isP s ⟨#[44]⟩
   let _←av1 s ⟨#[41]⟩
   af2 41 ⟨#[]⟩ t.from' [n]
 else R (.primary t)
def newS (from':Int):PM Nd:=do
 let b←isP s ⟨#[46]⟩
 if b then do
  bm0 s ⟨#[116,97,114,103,101,116]⟩
  af2 7 ⟨#[110,101,119,46,116,97,114,103,101,116]⟩ from' []
 else do
  let t←ab7 s 2
  let n←ag9 t.from' (do
   let n←R (.base t false)
   if n.kind=37∧n.kids.length<2 then outP else moreL f n (!bO9 n))
  let next←ab7 s 1
  if punctT next ⟨#[40]⟩ then do
   let a←R .args
   af2 37 ⟨#[]⟩ from' [n,a]
  else af2 37 ⟨#[]⟩ from' [n,.zero]
where
 moreL:Nat→Nd→Bool→PM Nd
 |0,_,_=>outP
 |g+1,n,more=>if more then do
   let r←R (.link n false true)
   moreL g r.1 r.2
  else return n
def ai6 (t:Tk):PM Nd:=
 if t.kind=3∨t.kind=4 then do
  let u←ae7
  return ag1 t.kind u
 else if t.kind=6 then do
  let u←ae7
  return ag1 5 u
 else if t.kind=7∨t.kind=8 then R (.template false)
 else if t.kind=1 then R (.named t)
 else if punctT t ⟨#[91]⟩ then R .array
 else if punctT t ⟨#[123]⟩ then R .object
 else if punctT t ⟨#[40]⟩ then R (.paren t)
 else if punctT t ⟨#[60]⟩ then R .element1
 else oddP
def aI2 (t:Tk):PM Nd:=
 if ak5 t.text [⟨#[116,104,105,115]⟩,⟨#[110,117,108,108]⟩,⟨#[116,114,117,101]⟩,⟨#[102,97,108,115,101]⟩] then do
  let u←ae7
  return ag1 6 u
 else if t.text=⟨#[102,117,110,99,116,105,111,110]⟩ then R (.funcs false)
 else if t.text=⟨#[99,108,97,115,115]⟩ then R (.cls false)
 else if t.text=⟨#[97,115,121,110,99]⟩ then do
  let next←ay6 s t.till
  if nameT next ⟨#[102,117,110,99,116,105,111,110]⟩ && !next.line then R (.funcs false) else am4 s module
 else am4 s module
def cc1 (t:Tk):PM Nd:=do
 let p←getP
 let _←ae7
 let args←R (.arguments t.from')
 let arrow←(if t.from'=p.arrow then do
  let next←ab7 s 1
  return (punctT next ⟨#[61,62]⟩ && !next.line)
 else return false)
 if arrow then do
  let ps←R (.params args)
  R (.body ⟨#[]⟩ t.from' ps)
 else outP
def aT8:PM Nd:=ax3 1 0 (R .expression)
def am5:PM Nd:=ax3 1 0 (R .assign)
def ar5:PM Nd:=do
 let kids←R (.statements true module 0)
 let _←ae7
 return .mk 86 ⟨#[]⟩ kids 0 s.size
def ac7 (dir top:Bool) (e:Nat):PM (List Nd):=partL f dir []
where
 partL:Nat→Bool→List Nd→PM (List Nd)
 |0,_,_=>outP
 |g+1,dir,kids=>do
  let t←ab7 s 2
  if endB e t then return kids
  else do
   let n←ag9 t.from' (do
    let m←R (.modular t top)
    if m.kind=0 then R (.statement t true) else return m)
   if dir && decide (n.kind=57) then do
    let k←ofO n.kids.head?
    if k.kind=4 then outP else partL g false (kids++ [n])
   else partL g false (kids++ [n])
def aR9:PM Nd:=do
 let o←av1 s ⟨#[123]⟩
 let kids←R (.statements false false 1)
 let _←ae7
 af2 58 ⟨#[]⟩ o.from' kids
def kwW:List ByteArray:= [⟨#[97,115,121,110,99]⟩,⟨#[118,97,114]⟩,⟨#[108,101,116]⟩,⟨#[99,111,110,115,116]⟩,⟨#[102,117,110,99,116,105,111,110]⟩,⟨#[99,108,97,115,115]⟩,⟨#[105,102]⟩,⟨#[102,111,114]⟩,⟨#[119,104,105,108,101]⟩,⟨#[100,111]⟩,⟨#[114,101,116,117,114,110]⟩,⟨#[98,114,101,97,107]⟩,⟨#[99,111,110,116,105,110,117,101]⟩,⟨#[116,104,114,111,119]⟩,⟨#[116,114,121]⟩,⟨#[115,119,105,116,99,104]⟩,⟨#[100,101,98,117,103,103,101,114]⟩]
def ai7 (t:Tk) (list:Bool):PM Nd:=
 if !list then outP
 else if punctT t ⟨#[123]⟩ then R .block
 else if punctT t ⟨#[59]⟩ then do
  let _←ae7
  af2 59 ⟨#[]⟩ t.from' []
 else if t.kind≠1 then R (.simple t)
 else if ak5 t.text kwW then outP
 else do
  let next←ay6 s t.till
  let p←getP
  if ak3 module p.flags t && punctT next ⟨#[58]⟩ then do
   let _←ae7
   let _←av1 s ⟨#[58]⟩
   let n←R .alone
   af2 76 t.text t.from' [n]
  else R (.simple t)
def aw9 (t:Tk):PM Nd:=do
 let n←R .expression
 am3 s
 af2 57 ⟨#[]⟩ t.from' [n]
def ay7 (_:Tk) (top:Bool):PM Nd:=if top then outP else return .zero
def cf5:(x:Fn)→PM x.Out
 | .expression=>ag0 s f R
 | .inner=>aT8 R
 | .innerAssign=>am5 R
 | .assign=>ag8 s module R
 | .yield=>outP
 | .cond=>aY1 s R
 | .unary=>cd9 s R
 | .args=>aX8 s R
 | .spread=>ax0 s R
 | .index=>aT7 s R
 | .array=>outP
 | .function=>outP
 | .binding=>outP
 | .arrayPattern=>outP
 | .objectPattern=>outP
 | .object=>outP
 | .prop=>outP
 | .element2=>outP
 | .alone=>outP
 | .block=>aR9 s R
 | .head=>outP
 | .element1=>outP
 | .takeText=>outP
 | .fromText=>outP
 | .program=>ar5 s module R
 | .arrowOf t=>bD1 s R t
 | .body text from' params=>ce8 s R text from' params
 | .assigned n=>bq0 s R n
 | .param n last=>aU9 n last
 | .plain n=>cc5 n
 | .element of k last=>bE2 of k last
 | .params args=>bT9 R args
 | .binary least nullish=>ae5 s f R least nullish
 | .operand least=>ar4 s R least
 | .arguments from'=>bk6 s f R from'
 | .link n calls templates=>aP8 s R n calls templates
 | .optional n=>at3 s R n
 | .chain n=>bY9 s f R n
 | .leftHand=>bu9 s f R
 | .base t calls=>ce7 s module R t calls
 | .new from'=>newS s f R from'
 | .template _=>outP
 | .primary t=>ai6 R t
 | .named t=>aI2 s module R t
 | .paren t=>cc1 s R t
 | .takeKey _=>outP
 | .members _=>outP
 | .method _=>outP
 | .callable _ _ _ _=>outP
 | .formals _=>outP
 | .defaulted _=>outP
 | .funcs _=>outP
 | .cls _=>outP
 | .statements dir top e=>ac7 s f R dir top e
 | .statement t list=>ai7 s module R t list
 | .simple t=>aw9 s R t
 | .declaration _=>outP
 | .declared _ _=>outP
 | .branch _=>outP
 | .returned _=>outP
 | .jump _=>outP
 | .tried _=>outP
 | .switched _=>outP
 | .loop _=>outP
 | .through _ _ _=>outP
 | .counted _ _=>outP
 | .modular t top=>ay7 t top
 | .imported _=>outP
 | .outer=>outP
 | .specs _=>outP
 | .exported _=>outP
 | .defaultOf _=>outP
 | .markup _=>outP
 | .attr _=>outP
 | .children _=>outP
 | .closing _ _=>outP
 | .jname _=>outP
end
def ps0 (module:Bool):Ps:=⟨0,Tk.zero,[],0,[],if module then 5 else 1,0,-1,[]⟩
end
section
section
variable (s:ByteArray) (module:Bool) (f:Nat) (R:(x:Fn)→PM x.Out)
def ai3 (from':Int):PM Nd:=do
 let r←ax3 1 0 (ao8 s ⟨#[41]⟩ 2 (fun kids=>if 4194304<kids.length then outP else do
  let k←R .spread
  al4 s k
  return kids++ [k]) f [] false)
 af2 36 ⟨#[]⟩ from' r.1
def al0 (n:Nd):PM Bool:=if 4194304<n.kids.length then outP else match n.kids.getLast? with
 |none=>outP
 |some m=>do
  let t←ay6 s m.till
  return punctT t ⟨#[44]⟩
def aV0 (args:Nd) (last:Nd):Nd:=match args.kids with
 | [k]=> .mk 26 ⟨#[]⟩ [k] args.from' args.till
 |ks=> .mk 26 ⟨#[]⟩ [.mk 32 ⟨#[]⟩ ks (ks.headD .zero).from' last.till] args.from' args.till
def bi1 (args:Nd):PM Nd:=if (args.kids.isEmpty||args.kids.any (fun k=>decide (k.kind=18)))=true then outP else do
 let b←al0 s args
 if b then outP else return aV0 args (args.kids.getLastD .zero)
def az0 (t:Tk):PM Nd:=do
 let p←getP
 let _←ae7
 let args←R (.arguments t.from')
 let arrow←(if t.from'=p.arrow then do
  let next←ab7 s 1
  return (punctT next ⟨#[61,62]⟩ && !next.line)
 else return false)
 if arrow then do
  let ps←R (.params args)
  R (.body ⟨#[]⟩ t.from' ps)
 else bi1 s args
def aC5:Nat→List Nd→PM (List Nd)
 |0,_=>outP
 |g+1,kids=>if 4194304<kids.length then outP else do
  let t←ab7 s 2
  if punctT t ⟨#[93]⟩ then return kids
  else do
   let b←isP s ⟨#[44]⟩
   if b then aC5 g (kids++ [.zero])
   else do
    let k←R .spread
    al4 s k
    let u←ab7 s 1
    if punctT u ⟨#[93]⟩ then aC5 g (kids++ [k])
    else do
     let _←av1 s ⟨#[44]⟩
     aC5 g (kids++ [k])
def bf8:PM Nd:=do
 let t←ae7
 let kids←ax3 1 0 (aC5 s R f [])
 let _←ae7
 af2 11 ⟨#[]⟩ t.from' kids
end
def aA2 (tagged:Bool):PM Nd:=do
 let p←getP
 if (tagged=false∧(p.tok.text.extract 1 (p.tok.text.size - 1)).data.toList.contains 92=true)∨p.tok.kind=8∨p.tok.kind=10∨p.tok.text.size<2∨16777216<p.tok.text.size then outP
 else do
  let _←ae7
  af2 8 ⟨#[]⟩ p.tok.from' [.mk 9 (p.tok.text.extract 1 (p.tok.text.size - 1)) [] p.tok.from' p.tok.till]
def br9:List Nd→Bool
 | [k]=>decide (k.kind=45)
 |_=>false
mutual
def ad9:Nd→Bool
 | .mk k _ ks _ _=> !(decide (k=13) && br9 ks) && ab6 ks
def ab6:List Nd→Bool
 | []=>true
 |k::ks=>ad9 k && ab6 ks
end
def az6 (x:PM Nd):PM Nd:=do
 let n←x
 if ad9 n=false then outP else if 4194304<aa0 n then outP else if 8000<af9 n then bQ7 1002 0 else return n
def aM3 (s:ByteArray) (R:(x:Fn)→PM x.Out):PM Nd:=do
 let n←R .expression
 let t←ab7 s 1
 if t.kind=0 then return n else oddP
end
section
section
variable (s:ByteArray) (module:Bool) (f:Nat) (R:(x:Fn)→PM x.Out)
def ar6:PM Nd:=do
 let t←ab7 s 1
 if t.kind=1 then do
  let _←ae7
  return ag1 1 t
 else if t.kind=4 then do
  let _←ae7
  return ag1 4 t
 else outP
def aj1 (x:ByteArray):PM Unit:=do
 let t←ab7 s 1
 if nameT t x then outP else return ()
def aU1 (k:PM Mb):List ByteArray→PM Mb
 | []=>k
 |x::l=>do
  aj1 s x
  aU1 k l
def aw0 (from':Int):PM Mb:=do
 aj1 s ⟨#[97,115,121,110,99]⟩
 let b←isP s ⟨#[42]⟩
 if b then outP else do
  let k←R (.takeKey false)
  return ⟨from',false,⟨#[]⟩,k,false⟩
def aq6 (cls:Bool):PM Mb:=if cls then outP else do
 let t←ab7 s 1
 aU1 s (aw0 s R t.from') [⟨#[103,101,116]⟩,⟨#[115,101,116]⟩]
def ba3:PM Nd:=do
 let m←R (.members false)
 let t←ab7 s 1
 if punctT t ⟨#[40]⟩=true∨m.kind≠⟨#[]⟩ then outP
 else if punctT t ⟨#[58]⟩ then do
  let _←ae7
  let n←R .assign
  af2 13 ⟨#[]⟩ m.from' [m.key,n]
 else do
  let p←getP
  if m.key.kind≠1∨ak3 module p.flags ⟨1,m.key.text,0,0,false⟩=false then oddP
  else if punctT t ⟨#[61]⟩ then outP
  else af2 13 ⟨#[115,104,111,114,116]⟩ m.from' [m.key]
def aP6 (kids:List Nd):PM (List Nd):=if 4194304<kids.length then outP else do
 let t←ab7 s 1
 if punctT t ⟨#[46,46,46]⟩ then do
  let k←R .spread
  al4 s k
  return kids++ [k]
 else do
  let k←R .prop
  return kids++ [k]
def aw2:PM Nd:=do
 let t←ae7
 let r←ax3 1 0 (ao8 s ⟨#[125]⟩ 1 (aP6 s R) f [] false)
 af2 12 ⟨#[]⟩ t.from' r.1
end
end
section
section
variable (s:ByteArray) (f:Nat) (R:(x:Fn)→PM x.Out)
def aK2:PM Nd:=do
 let t←ab7 s 2
 if nameT t ⟨#[100,101,108,101,116,101]⟩||nameT t ⟨#[118,111,105,100]⟩||nameT t ⟨#[116,121,112,101,111,102]⟩||punctT t ⟨#[43]⟩||punctT t ⟨#[45]⟩||punctT t ⟨#[126]⟩||punctT t ⟨#[33]⟩ then outP
 else do
  let p←getP
  if nameT t ⟨#[97,119,97,105,116]⟩ && hasF p.flags 4 then outP
  else if punctT t ⟨#[43,43]⟩||punctT t ⟨#[45,45]⟩ then outP
  else do
   let n←R .leftHand
   if n.kind=22 then return n
   else do
    let u←ab7 s 1
    if punctT u ⟨#[43,43]⟩||punctT u ⟨#[45,45]⟩ then outP else return n
def aA7 (t:Tk) (_:Bool):PM Nd:=
 if nameT t ⟨#[110,101,119]⟩ then outP
 else if nameT t ⟨#[115,117,112,101,114]⟩ then outP
 else if nameT t ⟨#[105,109,112,111,114,116]⟩ then outP
 else R (.primary t)
def an2 (n:Nd):PM Nd:=
 if n.kind=22 then return n
 else do
  let t←ab7 s 1
  if ae0 t then outP else return n
def af1:PM Nd:=do
 let t←ab7 s 2
 let p←getP
 let may:=decide (t.from'=p.arrow)
 let n←R (.base t true)
 if n.kind=22 then return n
 else if may && decide (n.kind=1) && decide (n.text=⟨#[97,115,121,110,99]⟩) then outP
 else linkL f n
where
 linkL:Nat→Nd→PM Nd
 |0,_=>outP
 |g+1,n=>do
  let next←ab7 s 1
  if punctT next ⟨#[63,46]⟩ then outP
  else do
   let r←R (.link n true true)
   if r.2 then linkL g r.1 else return r.1
end
end
end Go.Proofs.YtnobjeelihkjmaaGreatDoor
