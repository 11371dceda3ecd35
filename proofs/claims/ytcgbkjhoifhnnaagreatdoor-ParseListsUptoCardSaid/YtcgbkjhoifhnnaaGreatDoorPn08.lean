/- Steps (Ps Pt St Stl). Conditions: as stated. -/
import Derived.Test.YtcgbkjhoifhnnaaGreatDoorPn03
import Derived.Test.YtcgbkjhoifhnnaaGreatDoorPn06
import Derived.Test.YtcgbkjhoifhnnaaGreatDoorPn05
import Derived.Test.YtcgbkjhoifhnnaaGreatDoorPn04
namespace Go.Proofs.YtcgbkjhoifhnnaaGreatDoor
section
structure Ps where
 at':Int
 tok:Tk
 ahead:List Cm
 goal:Int
 cms:List Cm
 flags:Int
 nest:Int
 arrow:Int
 commas:List (Int × Int)
inductive Res (α:Type) where
 |ok (a:α) (p:Ps)
 |bad (code place:Int)
 |out
def PM (α:Type):=Ps→Res α
def PM.pure {α:Type} (a:α):PM α:=fun p=> .ok a p
def PM.bind {α β:Type} (x:PM α) (f:α→PM β):PM β:=fun p=>match x p with
 | .ok a q=>f a q
 | .bad c i=> .bad c i
 | .out=> .out
instance:Monad PM:= { pure:=PM.pure,bind:=PM.bind }
def bz3 {α:Type} (code place:Int):PM α:=fun _=> .bad code place
def outP {α:Type} :PM α:=fun _=> .out
def getP:PM Ps:=fun p=> .ok p p
def modP (f:Ps→Ps):PM Unit:=fun p=> .ok () (f p)
def ofO {α:Type} (o:Option α):PM α:=match o with
 |some a=>pure a
 |none=>outP
def hasF (f k:Int):Bool:= !(bits .and .i64 f k==0)
def setF (f on off:Int):Int:=bits .or .i64 (bits .andNot .i64 f off) on
def punctT (t:Tk) (x:ByteArray):Bool:=decide (t.kind=5) && decide (t.text=x)
def nameT (t:Tk) (x:ByteArray):Bool:=decide (t.kind=1) && decide (t.text=x)
def ad6 (kind:Int) (t:Tk):Nd:= .mk kind t.text [] t.from' t.till
def ah6 (t:Tk):Bool:=decide (t.kind=5) && aj1 t.text [⟨#[61]⟩,⟨#[43,61]⟩,⟨#[45,61]⟩,⟨#[42,61]⟩,⟨#[47,61]⟩,⟨#[37,61]⟩,⟨#[42,42,61]⟩,⟨#[60,60,61]⟩,⟨#[62,62,61]⟩,⟨#[62,62,62,61]⟩,⟨#[38,61]⟩,⟨#[124,61]⟩,⟨#[94,61]⟩,⟨#[38,38,61]⟩,⟨#[124,124,61]⟩,⟨#[63,63,61]⟩]
def aB3 (n:Nd):Bool:=decide (n.kind=29) && (decide (n.text=⟨#[124,124]⟩)||decide (n.text=⟨#[38,38]⟩))
def aZ7 (n:Nd):Bool:=
 if n.kind=1 then decide (n.text≠⟨#[101,118,97,108]⟩) && decide (n.text≠⟨#[97,114,103,117,109,101,110,116,115]⟩)
 else if n.kind=38∨n.kind=39 then decide (n.text=⟨#[]⟩) else false
def aL7:Nat→Nd→Bool
 |0,_=>false
 |f+1,n=>if n.kind=26∧n.kids.length=1 then aL7 f (n.kids.headD .zero) else aZ7 n
def aj5 (n:Nd):Bool:=aL7 (aa1 n) n
def okI (i:Int):Bool:=decide (0≤i) && decide (i≤16777216)
def hasC (c:List (Int × Int)) (k:Int):Bool:=c.any fun e=>decide (e.1=k)
section
variable (s:ByteArray) (module:Bool)
def tkOf (kind:Int) (q n:Nat) (line:Bool):Tk:=⟨kind,s.extract q (q+n),q,((q+n:Nat):Int),line⟩
def aY5 (goal:Int):PM Tk:=fun p=>
 if p.at'<0∨(s.size:Int)<p.at' then .out
 else match nxt s p.at'.toNat goal with
  | .bad place code=> .bad code place
  | .fine kind q n line cs=> .ok (tkOf s kind q n line) { p with tok:=tkOf s kind q n line,ahead:=cs,goal:=goal }
def am7 (goal:Int) (p:Ps):Bool:=decide (p.goal≠0∧(p.goal=goal∨(goal≤2∧p.goal≤2∧Lib.hasPrefix p.tok.text.data.toList [47]=false)))
def ab5 (goal:Int):PM Tk:=fun p=>if am7 goal p then .ok p.tok p else aY5 s goal p
def af1:PM Tk:=fun p=>if 4194304<p.cms.length+p.ahead.length then .out else .ok p.tok { p with cms:=p.cms++p.ahead,at':=p.tok.till,goal:=0,ahead:= [] }
def oddP {α:Type} :PM α:=fun p=> .bad 1001 p.tok.from'
def bj7 (place:Int):Tk:=match nxt s place.toNat 1 with
 | .bad _ _=>⟨-1,⟨#[]⟩,0,0,false⟩
 | .fine kind q n line _=>tkOf s kind q n line
def ax2 (place:Int):PM Tk:=if place<0∨(s.size:Int)<place then outP else return bj7 s place
def isP (x:ByteArray):PM Bool:=do
 let t←ab5 s 1
 if punctT t x then do
  let _←af1
  return true
 else return false
def at6 (x:ByteArray):PM Tk:=do
 let t←ab5 s 1
 if punctT t x then af1 else oddP
def bo3 (x:ByteArray):PM Bool:=do
 let t←ab5 s 1
 if nameT t x then do
  let _←af1
  return true
 else return false
def bc3 (x:ByteArray):PM Unit:=do
 let b←bo3 s x
 if b then return () else oddP
def ai8 (flags:Int) (t:Tk):Bool:=decide (t.kind=1) && !aa0 t.text module && (!hasF flags 4||decide (t.text≠⟨#[97,119,97,105,116]⟩))
def ak6:PM Nd:=do
 let t←ab5 s 1
 let p←getP
 if ai8 module p.flags t then do
  let u←af1
  return ad6 1 u
 else oddP
def ae8 (kind:Int) (text:ByteArray) (from':Int) (kids:List Nd):PM Nd:=fun p=> .ok (.mk kind text kids from' p.at') p
def av4 {α:Type} (on off:Int) (x:PM α):PM α:=fun p=>PM.bind x (fun a q=> .ok a { q with flags:=p.flags }) { p with flags:=setF p.flags on off }
def ag4 {α:Type} (place:Int) (x:PM α):PM α:=fun p=>
 if 4000≤p.nest then .bad 1002 place
 else PM.bind x (fun a q=>if q.nest≤0 then .out else .ok a { q with nest:=q.nest - 1 }) { p with nest:=p.nest+1 }
def ap1:PM Unit:=do
 let t←ab5 s 1
 if punctT t ⟨#[59]⟩ then do
  let _←af1
  return ()
 else if !punctT t ⟨#[125]⟩ && decide (t.kind≠0) && !t.line then oddP else return ()
def ao4 {α:Type} (closing:ByteArray) (goal:Int) (one:α→PM α):Nat→α→Bool→PM (α × Bool)
 |0,_,_=>outP
 |f+1,a,comma=>do
  let t←ab5 s goal
  if punctT t closing then do
   let _←af1
   return (a,comma)
  else do
   let b←one a
   let u←ab5 s 1
   if punctT u closing then do
    let _←af1
    return (b,false)
   else do
    let _←at6 s ⟨#[44]⟩
    ao4 closing goal one f b true
def as1 (n:Nd):PM Unit:=if aj5 n then return () else bz3 1003 n.from'
def bh0 (n:Nd):PM Nd:=if aj5 n && decide (aa1 n≤4194304) then return n else outP
def at1 (n:Nd):PM Nd:=do
 let p←getP
 if !p.commas.isEmpty && (decide (n.kind=11)||decide (n.kind=12)) then outP else bh0 n
def ah1 (n:Nd):PM Unit:=if n.kind=18 then do
  let t←ab5 s 1
  if punctT t ⟨#[44]⟩ then do
   let q←getP
   if 4194304<q.commas.length∨okI n.from'=false∨okI n.till=false then outP else modP fun q=> { q with commas:=(n.from',n.till)::q.commas }
  else return ()
 else return ()
def aj2:PM (Tk × Int):=do
 let t←ab5 s 1
 let p←getP
 if decide (t.kind≠5) && !nameT t ⟨#[105,110,115,116,97,110,99,101,111,102]⟩ && (!nameT t ⟨#[105,110]⟩|| !hasF p.flags 1) then return (t,0)
 else return (t,ac8 t.text)
def ap0 (private':Bool):PM Nd:=do
 let t←ab5 s 1
 if t.kind=1 then do
  let u←af1
  return ad6 1 u
 else if t.kind≠2∨private'=false then oddP
 else do
  let u←af1
  return ad6 2 u
end
end
section
structure Mb where
 from':Int
 static:Bool
 kind:ByteArray
 key:Nd
 block:Bool
def Mb.text (m:Mb):ByteArray:=if m.static=false then m.kind else if m.kind=⟨#[]⟩ then ⟨#[115,116,97,116,105,99]⟩ else ⟨#[115,116,97,116,105,99,32]⟩++m.kind
def endB (e:Nat) (t:Tk):Bool:=if e=0 then decide (t.kind=0) else if e=1 then punctT t ⟨#[125]⟩ else punctT t ⟨#[125]⟩||nameT t ⟨#[99,97,115,101]⟩||nameT t ⟨#[100,101,102,97,117,108,116]⟩
inductive Fn where
 |expression|inner|innerAssign|assign|yield|cond|unary|args|spread|index|array|function|binding|arrayPattern|objectPattern|object|prop|element2
 |alone|block|head|element1|takeText|fromText|program
 |arrowOf (t:Tk)|body (text:ByteArray) (from':Int) (params:Nd)|assigned (n:Nd)
 |param (n:Nd) (last:Bool)|plain (n:Nd)|element (of:Int) (k:Nd) (last:Bool)|params (args:Nd)
 |binary (least:Int) (nullish:Bool)|operand (least:Int)|arguments (from':Int)
 |link (n:Nd) (calls templates:Bool)|optional (n:Nd)|chain (n:Nd)|leftHand|base (t:Tk) (calls:Bool)|new (from':Int)
 |template (tagged:Bool)|primary (t:Tk)|named (t:Tk)|paren (t:Tk)
 |takeKey (cls:Bool)|members (cls:Bool)|method (m:Mb)|callable (text:ByteArray) (from':Int) (id:Nd) (of:ByteArray)|formals (of:ByteArray)|defaulted (n:Nd)
 |funcs (must:Bool)|cls (must:Bool)
 |statements (dir top:Bool) (e:Nat)|statement (t:Tk) (list:Bool)|simple (t:Tk)|declaration (must:Bool)|declared (t:Tk) (first:Option Nd)
 |branch (t:Tk)|returned (t:Tk)|jump (t:Tk)|tried (t:Tk)|switched (t:Tk)|loop (t:Tk)|through (t:Tk) (text:ByteArray) (first:Nd)|counted (t:Tk) (first:Nd)
 |modular (t:Tk) (top:Bool)|imported (t:Tk)|outer|specs (imports:Bool)|exported (t:Tk)|defaultOf (t:Tk)
 |markup (from':Int)|attr (t:Tk)|children (of:ByteArray)|closing (of:ByteArray) (from':Int)|jname (points:Bool)
@[reducible] def Fn.Out:Fn→Type
 | .param _ _=>Unit
 | .plain _=>Unit
 | .element _ _ _=>Unit
 | .closing _ _=>Unit
 | .link _ _ _=>Nd × Bool
 | .members _=>Mb
 | .statements _ _ _=>List Nd
 |_=>Nd
section
variable (s:ByteArray) (module:Bool) (f:Nat) (R:(x:Fn)→PM x.Out)
def af6:PM Nd:=do
 let n←R .assign
 let t←ab5 s 1
 if punctT t ⟨#[44]⟩ then seqL f [n] n.from' else return n
where
 seqL:Nat→List Nd→Int→PM Nd
 |0,_,_=>outP
 |g+1,kids,from'=>do
  let b←isP s ⟨#[44]⟩
  if b then do
   let k←R .assign
   seqL g (kids++ [k]) from'
  else ae8 32 ⟨#[]⟩ from' kids
def ah4:PM Nd:=do
 let t←ab5 s 2
 ag4 t.from' (do
  let p←getP
  if hasF p.flags 2 && nameT t ⟨#[121,105,101,108,100]⟩ then R .yield
  else do
   let one←single t
   if one then R (.arrowOf t)
   else do
    modP fun q=> { q with arrow:=t.from' }
    let n←R .cond
    R (.assigned n))
where
 single (t:Tk):PM Bool:=do
  let p←getP
  let u←(if nameT t ⟨#[97,115,121,110,99]⟩ then do
    let next←ax2 s t.till
    if !next.line && ai8 module p.flags next then return next else return t
   else return t)
  let next←ax2 s u.till
  if !ai8 module p.flags u|| !punctT next ⟨#[61,62]⟩||next.line then return false
  else do
   as1 (ad6 1 u)
   return true
def av9 (t:Tk):PM Nd:=do
 let _←af1
 let id←ab5 s 1
 if punctT id ⟨#[61,62]⟩ then do
  let ps←ae8 21 ⟨#[]⟩ t.from' [ad6 1 t]
  R (.body ⟨#[]⟩ t.from' ps)
 else do
  let _←af1
  let ps←ae8 21 ⟨#[]⟩ id.from' [ad6 1 id]
  R (.body ⟨#[97,115,121,110,99]⟩ t.from' ps)
def bf8 (text:ByteArray) (from':Int) (params:Nd):PM Nd:=do
 let _←at6 s ⟨#[61,62]⟩
 let n←av4 (if text=⟨#[97,115,121,110,99]⟩ then 4 else 0) 2 (do
  let t←ab5 s 2
  if punctT t ⟨#[123]⟩ then R .function else R .assign)
 ae8 22 text from' [params,n]
def am6 (n:Nd):PM Nd:=
 if n.kind=22 then return n
 else do
  let t←ab5 s 1
  if ah6 t then do
   let m←(if t.text=⟨#[61]⟩ then at1 n else do
    as1 n
    return n)
   let _←af1
   let right←R .assign
   ae8 30 t.text m.from' [m,right]
  else return n
def aP4 (n:Nd) (_:Bool):PM Unit:=if okI n.from' && ((decide (n.kind=1) && aj5 n)||decide (n.kind=0)) then return () else outP
def bH6 (_:Nd):PM Unit:=outP
def bq1 (_:Int) (_:Nd) (_:Bool):PM Unit:=outP
def al7 (args:Nd):PM Nd:=
 if args.kids.all (fun k=>okI k.from' && decide (k.kind≠18) && decide (k.kind≠30)) && okI args.till && decide (args.kids.length≤16777216) then do
  askL args.kids
  let ks←mapL args.kids
  return .mk 21 ⟨#[]⟩ ks args.from' args.till
 else outP
where
 askL:List Nd→PM Unit
 | []=>return ()
 |k::ks=>do
  R (.param k ks.isEmpty)
  askL ks
 mapL:List Nd→PM (List Nd)
 | []=>return []
 |k::ks=>do
  let y←at1 k
  let ys←mapL ks
  return y::ys
def aR5:PM Nd:=do
 let n←R (.binary 1 false)
 if n.kind=22 then return n
 else do
  let b←isP s ⟨#[63]⟩
  if b then do
   let then'←R .innerAssign
   let _←at6 s ⟨#[58]⟩
   let other←R .assign
   ae8 31 ⟨#[]⟩ n.from' [n,then',other]
  else return n
def ao2 (least:Int) (nullish:Bool):PM Nd:=do
 let n←R (.operand least)
 if n.kind=22 then return n else opsL f n
where
 opsL:Nat→Nd→PM Nd
 |0,_=>outP
 |g+1,n=>do
  let r←aj2 s
  if r.2<least∨r.2=0 then return n
  else if (decide (r.1.text=⟨#[63,63]⟩) && aB3 n)||((decide (r.1.text=⟨#[124,124]⟩)||decide (r.1.text=⟨#[38,38]⟩)) && nullish)||(decide (r.1.text=⟨#[42,42]⟩) && (decide (n.kind=27)||decide (n.kind=34))) then oddP
  else do
   let _←af1
   let right←(if r.1.text=⟨#[42,42]⟩ then do
    let u←ab5 s 2
    ag4 u.from' (R (.binary r.2 false))
   else R (.binary (r.2+1) (decide (r.1.text=⟨#[63,63]⟩))))
   let m←ae8 29 r.1.text n.from' [n,right]
   opsL g m
def am1 (least:Int):PM Nd:=do
 let t←ab5 s 2
 if t.kind≠2 then R .unary
 else do
  let _←af1
  let next←ab5 s 1
  let p←getP
  if decide (8<least)|| !hasF p.flags 1|| !nameT next ⟨#[105,110]⟩ then bz3 1001 t.from'
  else return ad6 2 t
def au9:PM Nd:=do
 let _←af1
 let u←ab5 s 2
 ag4 u.from' (R .unary)
def ay8:PM Nd:=do
 let t←ab5 s 2
 if nameT t ⟨#[100,101,108,101,116,101]⟩||nameT t ⟨#[118,111,105,100]⟩||nameT t ⟨#[116,121,112,101,111,102]⟩||punctT t ⟨#[43]⟩||punctT t ⟨#[45]⟩||punctT t ⟨#[126]⟩||punctT t ⟨#[33]⟩ then do
  let n←au9 s R
  ae8 27 t.text t.from' [n]
 else do
  let p←getP
  if nameT t ⟨#[97,119,97,105,116]⟩ && hasF p.flags 4 then do
   let n←au9 s R
   ae8 34 ⟨#[]⟩ t.from' [n]
  else if punctT t ⟨#[43,43]⟩||punctT t ⟨#[45,45]⟩ then do
   let n←au9 s R
   as1 n
   ae8 28 (t.text++⟨#[120]⟩) t.from' [n]
  else do
   let n←R .leftHand
   if n.kind=22 then return n
   else do
    let u←ab5 s 1
    if (punctT u ⟨#[43,43]⟩||punctT u ⟨#[45,45]⟩) && !u.line then do
     as1 n
     let _←af1
     ae8 28 (⟨#[120]⟩++u.text) n.from' [n]
    else return n
def aR0:PM Nd:=do
 let t←at6 s ⟨#[40]⟩
 R (.arguments t.from')
def bb2 (from':Int):PM Nd:=do
 let r←av4 1 0 (ao4 s ⟨#[41]⟩ 2 (fun kids=>do
  let k←R .spread
  ah1 s k
  return kids++ [k]) f [] false)
 ae8 36 ⟨#[]⟩ from' r.1
def an5:PM Nd:=do
 let t←ab5 s 2
 if punctT t ⟨#[46,46,46]⟩ then do
  let _←af1
  let n←R .assign
  ae8 18 ⟨#[]⟩ t.from' [n]
 else R .assign
def aO0:PM Nd:=do
 let n←R .inner
 let _←at6 s ⟨#[93]⟩
 return n
def aK5 (n:Nd) (calls templates:Bool):PM (Nd × Bool):=do
 let t←ab5 s 1
 if punctT t ⟨#[46]⟩ then do
  let _←af1
  let k←ap0 s (decide (n.kind≠6)||decide (n.text≠⟨#[115,117,112,101,114]⟩))
  let m←ae8 38 ⟨#[]⟩ n.from' [n,k]
  return (m,true)
 else if punctT t ⟨#[91]⟩ then do
  let _←af1
  let k←R .index
  let m←ae8 39 ⟨#[]⟩ n.from' [n,k]
  return (m,true)
 else if punctT t ⟨#[40]⟩ && calls then do
  let k←R .args
  let m←ae8 35 ⟨#[]⟩ n.from' [n,k]
  return (m,true)
 else if t.kind=7∨t.kind=8 then (if templates then do
   let k←R (.template true)
   let m←ae8 10 ⟨#[]⟩ n.from' [n,k]
   return (m,true)
  else oddP)
 else return (n,false)
def ar6 (n:Nd):PM Nd:=do
 let t←ab5 s 1
 if punctT t ⟨#[91]⟩ then do
  let _←af1
  let k←R .index
  ae8 39 ⟨#[63,46]⟩ n.from' [n,k]
 else if punctT t ⟨#[40]⟩ then do
  let k←R .args
  ae8 35 ⟨#[63,46]⟩ n.from' [n,k]
 else do
  let k←ap0 s true
  ae8 38 ⟨#[63,46]⟩ n.from' [n,k]
def aC6 (n:Nd):PM Nd:=chainL f n
where
 chainL:Nat→Nd→PM Nd
 |0,_=>outP
 |g+1,n=>do
  let b←isP s ⟨#[63,46]⟩
  if b then do
   let m←R (.optional n)
   chainL g m
  else do
   let r←R (.link n true false)
   if r.2 then chainL g r.1 else ae8 40 ⟨#[]⟩ r.1.from' [r.1]
def ao1 (n:Nd):Bool:=decide (n.kind=37) && decide (((n.kids.drop 1).headD .zero).kind=0)
def ad4:PM Nd:=do
 let t←ab5 s 2
 let p←getP
 let may:=decide (t.from'=p.arrow)
 let n←R (.base t true)
 if n.kind=22 then return n
 else if may && decide (n.kind=1) && decide (n.text=⟨#[97,115,121,110,99]⟩) then (if okI n.from' && okI n.till && decide (t.text.size≤16777216) then (if n.till - n.from'=t.text.size then do
   let next←ab5 s 1
   if punctT next ⟨#[40]⟩ && !next.line then do
    let args←R .args
    let next←ab5 s 1
    if punctT next ⟨#[61,62]⟩ && !next.line then do
     let ps←R (.params args)
     R (.body ⟨#[97,115,121,110,99]⟩ n.from' ps)
    else do
     let m←ae8 35 ⟨#[]⟩ n.from' [n,args]
     linkL f m
   else linkL f n
  else linkL f n) else outP)
 else linkL f n
where
 linkL:Nat→Nd→PM Nd
 |0,_=>outP
 |g+1,n=>do
  let next←ab5 s 1
  if punctT next ⟨#[63,46]⟩ then (if n.kind=37∧n.kids.length<2 then outP else if ao1 n then oddP else R (.chain n))
  else do
   let r←R (.link n true true)
   if r.2 then linkL g r.1 else return r.1
def aC3 (t:Tk) (calls:Bool):PM Nd:=
 if nameT t ⟨#[110,101,119]⟩ then do
  let _←af1
  R (.new t.from')
 else if nameT t ⟨#[115,117,112,101,114]⟩ then do
  let u←af1
  let next←ab5 s 1
  if !punctT next ⟨#[46]⟩ && !punctT next ⟨#[91]⟩ && (!calls|| !punctT next ⟨#[40]⟩) then oddP
  else do
   let r←R (.link (ad6 6 u) calls false)
   return r.1
 else if nameT t ⟨#[105,109,112,111,114,116]⟩ then do
  let _←af1
  let b←(if module then isP s ⟨#[46]⟩ else return false)
  if b then do
   bc3 s ⟨#[109,101,116,97]⟩
   ae8 7 ⟨#[105,109,112,111,114,116,46,109,101,116,97]⟩ t.from' []
  else if !calls then do
   let _←ab5 s 1
   oddP
  else do
   let _←at6 s ⟨#[40]⟩
   let n←R .innerAssign
   let _←isP s ⟨#[44]⟩
   let _←at6 s ⟨#[41]⟩
   ae8 41 ⟨#[]⟩ t.from' [n]
 else R (.primary t)
def newS (from':Int):PM Nd:=do
 let b←isP s ⟨#[46]⟩
 if b then do
  bc3 s ⟨#[116,97,114,103,101,116]⟩
  ae8 7 ⟨#[110,101,119,46,116,97,114,103,101,116]⟩ from' []
 else do
  let t←ab5 s 2
  let n←ag4 t.from' (do
   let n←R (.base t false)
   if n.kind=37∧n.kids.length<2 then outP else moreL f n (!ao1 n))
  let next←ab5 s 1
  if punctT next ⟨#[40]⟩ then do
   let a←R .args
   ae8 37 ⟨#[]⟩ from' [n,a]
  else ae8 37 ⟨#[]⟩ from' [n,.zero]
where
 moreL:Nat→Nd→Bool→PM Nd
 |0,_,_=>outP
 |g+1,n,more=>if more then do
   let r←R (.link n false true)
   moreL g r.1 r.2
  else return n
def aj4 (t:Tk):PM Nd:=
 if t.kind=3∨t.kind=4 then do
  let u←af1
  return ad6 t.kind u
 else if t.kind=6 then do
  let u←af1
  return ad6 5 u
 else if t.kind=7∨t.kind=8 then R (.template false)
 else if t.kind=1 then R (.named t)
 else if punctT t ⟨#[91]⟩ then R .array
 else if punctT t ⟨#[123]⟩ then R .object
 else if punctT t ⟨#[40]⟩ then R (.paren t)
 else if punctT t ⟨#[60]⟩ then R .element1
 else oddP
def aE1 (t:Tk):PM Nd:=
 if aj1 t.text [⟨#[116,104,105,115]⟩,⟨#[110,117,108,108]⟩,⟨#[116,114,117,101]⟩,⟨#[102,97,108,115,101]⟩] then do
  let u←af1
  return ad6 6 u
 else if t.text=⟨#[102,117,110,99,116,105,111,110]⟩ then R (.funcs false)
 else if t.text=⟨#[99,108,97,115,115]⟩ then R (.cls false)
 else if t.text=⟨#[97,115,121,110,99]⟩ then do
  let next←ax2 s t.till
  if nameT next ⟨#[102,117,110,99,116,105,111,110]⟩ && !next.line then R (.funcs false) else ak6 s module
 else ak6 s module
def bH3 (t:Tk):PM Nd:=do
 let p←getP
 let _←af1
 let args←R (.arguments t.from')
 let arrow←(if t.from'=p.arrow then do
  let next←ab5 s 1
  return (punctT next ⟨#[61,62]⟩ && !next.line)
 else return false)
 if arrow then do
  let ps←R (.params args)
  R (.body ⟨#[]⟩ t.from' ps)
 else outP
def aO1:PM Nd:=av4 1 0 (R .expression)
def al1:PM Nd:=av4 1 0 (R .assign)
def ay0:PM Nd:=do
 let kids←R (.statements true module 0)
 let _←af1
 return .mk 86 ⟨#[]⟩ kids 0 s.size
def ag8 (dir top:Bool) (e:Nat):PM (List Nd):=partL f dir []
where
 partL:Nat→Bool→List Nd→PM (List Nd)
 |0,_,_=>outP
 |g+1,dir,kids=>do
  let t←ab5 s 2
  if endB e t then return kids
  else do
   let n←ag4 t.from' (do
    let m←R (.modular t top)
    if m.kind=0 then R (.statement t true) else return m)
   if dir && decide (n.kind=57) then do
    let k←ofO n.kids.head?
    if k.kind=4 then outP else partL g false (kids++ [n])
   else partL g false (kids++ [n])
def aM6:PM Nd:=do
 let o←at6 s ⟨#[123]⟩
 let kids←R (.statements false false 1)
 let _←af1
 ae8 58 ⟨#[]⟩ o.from' kids
def kwW:List ByteArray:= [⟨#[97,115,121,110,99]⟩,⟨#[118,97,114]⟩,⟨#[108,101,116]⟩,⟨#[99,111,110,115,116]⟩,⟨#[102,117,110,99,116,105,111,110]⟩,⟨#[99,108,97,115,115]⟩,⟨#[105,102]⟩,⟨#[102,111,114]⟩,⟨#[119,104,105,108,101]⟩,⟨#[100,111]⟩,⟨#[114,101,116,117,114,110]⟩,⟨#[98,114,101,97,107]⟩,⟨#[99,111,110,116,105,110,117,101]⟩,⟨#[116,104,114,111,119]⟩,⟨#[116,114,121]⟩,⟨#[115,119,105,116,99,104]⟩,⟨#[100,101,98,117,103,103,101,114]⟩]
def ap3 (t:Tk) (list:Bool):PM Nd:=
 if !list then outP
 else if punctT t ⟨#[123]⟩ then R .block
 else if punctT t ⟨#[59]⟩ then do
  let _←af1
  ae8 59 ⟨#[]⟩ t.from' []
 else if t.kind≠1 then R (.simple t)
 else if aj1 t.text kwW then outP
 else do
  let next←ax2 s t.till
  let p←getP
  if ai8 module p.flags t && punctT next ⟨#[58]⟩ then do
   let _←af1
   let _←at6 s ⟨#[58]⟩
   let n←R .alone
   ae8 76 t.text t.from' [n]
  else R (.simple t)
def aF2 (t:Tk):PM Nd:=do
 let n←R .expression
 ap1 s
 ae8 57 ⟨#[]⟩ t.from' [n]
def ax4 (_:Tk) (top:Bool):PM Nd:=if top then outP else return .zero
def bJ8:(x:Fn)→PM x.Out
 | .expression=>af6 s f R
 | .inner=>aO1 R
 | .innerAssign=>al1 R
 | .assign=>ah4 s module R
 | .yield=>outP
 | .cond=>aR5 s R
 | .unary=>ay8 s R
 | .args=>aR0 s R
 | .spread=>an5 s R
 | .index=>aO0 s R
 | .array=>outP
 | .function=>outP
 | .binding=>outP
 | .arrayPattern=>outP
 | .objectPattern=>outP
 | .object=>outP
 | .prop=>outP
 | .element2=>outP
 | .alone=>outP
 | .block=>aM6 s R
 | .head=>outP
 | .element1=>outP
 | .takeText=>outP
 | .fromText=>outP
 | .program=>ay0 s module R
 | .arrowOf t=>av9 s R t
 | .body text from' params=>bf8 s R text from' params
 | .assigned n=>am6 s R n
 | .param n last=>aP4 n last
 | .plain n=>bH6 n
 | .element of k last=>bq1 of k last
 | .params args=>al7 R args
 | .binary least nullish=>ao2 s f R least nullish
 | .operand least=>am1 s R least
 | .arguments from'=>bb2 s f R from'
 | .link n calls templates=>aK5 s R n calls templates
 | .optional n=>ar6 s R n
 | .chain n=>aC6 s f R n
 | .leftHand=>ad4 s f R
 | .base t calls=>aC3 s module R t calls
 | .new from'=>newS s f R from'
 | .template _=>outP
 | .primary t=>aj4 R t
 | .named t=>aE1 s module R t
 | .paren t=>bH3 s R t
 | .takeKey _=>outP
 | .members _=>outP
 | .method _=>outP
 | .callable _ _ _ _=>outP
 | .formals _=>outP
 | .defaulted _=>outP
 | .funcs _=>outP
 | .cls _=>outP
 | .statements dir top e=>ag8 s f R dir top e
 | .statement t list=>ap3 s module R t list
 | .simple t=>aF2 s R t
 | .declaration _=>outP
 | .declared _ _=>outP
 | .branch _=>outP
 | .returned _=>outP
 | .jump _=>outP
 | .tried _=>outP
 | .switched _=>outP
 | .loop _=>outP
 | .through _ _ _=>outP
 | .counted _ _=>outP
 | .modular t top=>ax4 t top
 | .imported _=>outP
 | .outer=>outP
 | .specs _=>outP
 | .exported _=>outP
 | .defaultOf _=>outP
 | .markup _=>outP
 | .attr _=>outP
 | .children _=>outP
 | .closing _ _=>outP
 | .jname _=>outP
end
def ps0 (module:Bool):Ps:=⟨0,Tk.zero,[],0,[],if module then 5 else 1,0,-1,[]⟩
end
section
section
variable (s:ByteArray) (module:Bool) (f:Nat) (R:(x:Fn)→PM x.Out)
def ag9 (from':Int):PM Nd:=do
 let r←av4 1 0 (ao4 s ⟨#[41]⟩ 2 (fun kids=>if 4194304<kids.length then outP else do
  let k←R .spread
  ah1 s k
  return kids++ [k]) f [] false)
 ae8 36 ⟨#[]⟩ from' r.1
def aj6 (n:Nd):PM Bool:=if 4194304<n.kids.length then outP else match n.kids.getLast? with
 |none=>outP
 |some m=>do
  let t←ax2 s m.till
  return punctT t ⟨#[44]⟩
def aP5 (args:Nd) (last:Nd):Nd:=match args.kids with
 | [k]=> .mk 26 ⟨#[]⟩ [k] args.from' args.till
 |ks=> .mk 26 ⟨#[]⟩ [.mk 32 ⟨#[]⟩ ks (ks.headD .zero).from' last.till] args.from' args.till
def bl0 (args:Nd):PM Nd:=if (args.kids.isEmpty||args.kids.any (fun k=>decide (k.kind=18)))=true then outP else do
 let b←aj6 s args
 if b then outP else return aP5 args (args.kids.getLastD .zero)
def aE5 (t:Tk):PM Nd:=do
 let p←getP
 let _←af1
 let args←R (.arguments t.from')
 let arrow←(if t.from'=p.arrow then do
  let next←ab5 s 1
  return (punctT next ⟨#[61,62]⟩ && !next.line)
 else return false)
 if arrow then do
  let ps←R (.params args)
  R (.body ⟨#[]⟩ t.from' ps)
 else bl0 s args
def aq7:Nat→List Nd→PM (List Nd)
 |0,_=>outP
 |g+1,kids=>if 4194304<kids.length then outP else do
  let t←ab5 s 2
  if punctT t ⟨#[93]⟩ then return kids
  else do
   let b←isP s ⟨#[44]⟩
   if b then aq7 g (kids++ [.zero])
   else do
    let k←R .spread
    ah1 s k
    let u←ab5 s 1
    if punctT u ⟨#[93]⟩ then aq7 g (kids++ [k])
    else do
     let _←at6 s ⟨#[44]⟩
     aq7 g (kids++ [k])
def aC0:PM Nd:=do
 let t←af1
 let kids←av4 1 0 (aq7 s R f [])
 let _←af1
 ae8 11 ⟨#[]⟩ t.from' kids
end
def ay7 (tagged:Bool):PM Nd:=do
 let p←getP
 if tagged=false∨p.tok.kind=8∨p.tok.kind=10∨p.tok.text.size<2∨16777216<p.tok.text.size then outP
 else do
  let _←af1
  ae8 8 ⟨#[]⟩ p.tok.from' [.mk 9 (p.tok.text.extract 1 (p.tok.text.size - 1)) [] p.tok.from' p.tok.till]
def bh2:List Nd→Bool
 | [k]=>decide (k.kind=45)
 |_=>false
mutual
def an2:Nd→Bool
 | .mk k _ ks _ _=> !(decide (k=13) && bh2 ks) && ak2 ks
def ak2:List Nd→Bool
 | []=>true
 |k::ks=>an2 k && ak2 ks
end
def az5 (x:PM Nd):PM Nd:=do
 let n←x
 if an2 n=false then outP else if 4194304<aa1 n then outP else if 8000<af3 n then bz3 1002 0 else return n
def aH1 (s:ByteArray) (R:(x:Fn)→PM x.Out):PM Nd:=do
 let n←R .expression
 let t←ab5 s 1
 if t.kind=0 then return n else oddP
end
section
section
variable (s:ByteArray) (module:Bool) (f:Nat) (R:(x:Fn)→PM x.Out)
def aq3:PM Nd:=do
 let t←ab5 s 1
 if t.kind=1 then do
  let _←af1
  return ad6 1 t
 else outP
def ah2 (x:ByteArray):PM Unit:=do
 let t←ab5 s 1
 if nameT t x then outP else return ()
def aO5 (k:PM Mb):List ByteArray→PM Mb
 | []=>k
 |x::l=>do
  ah2 s x
  aO5 k l
def au3 (from':Int):PM Mb:=do
 ah2 s ⟨#[97,115,121,110,99]⟩
 let b←isP s ⟨#[42]⟩
 if b then outP else do
  let k←R (.takeKey false)
  return ⟨from',false,⟨#[]⟩,k,false⟩
def ap7 (cls:Bool):PM Mb:=if cls then outP else do
 let t←ab5 s 1
 aO5 s (au3 s R t.from') [⟨#[103,101,116]⟩,⟨#[115,101,116]⟩]
def aK9:PM Nd:=do
 let m←R (.members false)
 let t←ab5 s 1
 if punctT t ⟨#[40]⟩=true∨m.kind≠⟨#[]⟩ then outP
 else if punctT t ⟨#[58]⟩ then do
  let _←af1
  let n←R .assign
  ae8 13 ⟨#[]⟩ m.from' [m.key,n]
 else do
  let p←getP
  if m.key.kind≠1∨ai8 module p.flags ⟨1,m.key.text,0,0,false⟩=false then oddP
  else if punctT t ⟨#[61]⟩ then outP
  else ae8 13 ⟨#[115,104,111,114,116]⟩ m.from' [m.key]
def aK3 (kids:List Nd):PM (List Nd):=if 4194304<kids.length then outP else do
 let t←ab5 s 1
 if punctT t ⟨#[46,46,46]⟩ then do
  let k←R .spread
  ah1 s k
  return kids++ [k]
 else do
  let k←R .prop
  return kids++ [k]
def au5:PM Nd:=do
 let t←af1
 let r←av4 1 0 (ao4 s ⟨#[125]⟩ 1 (aK3 s R) f [] false)
 ae8 12 ⟨#[]⟩ t.from' r.1
end
end
end Go.Proofs.YtcgbkjhoifhnnaaGreatDoor
