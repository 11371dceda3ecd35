/- Steps (Ps Pt St Stn). Conditions: as stated. -/
import Derived.Test.YtcgbkjhoifhnnaaGreatDoorZe03
import Derived.Test.YtcgbkjhoifhnnaaGreatDoorZe06
import Derived.Test.YtcgbkjhoifhnnaaGreatDoorZe05
import Derived.Test.YtcgbkjhoifhnnaaGreatDoorZe04
namespace Go.Proofs.YtcgbkjhoifhnnaaGreatDoor
section
structure Ps where
 at':Int
 tok:Tk
 ahead:List Cm
 goal:Int
 cms:List Cm
 flags:Int
 nest:Int
 arrow:Int
 commas:List (Int × Int)
inductive Res (α:Type) where
 |ok (a:α) (p:Ps)
 |bad (code place:Int)
 |out
def PM (α:Type):=Ps→Res α
def PM.pure {α:Type} (a:α):PM α:=fun p=> .ok a p
def PM.bind {α β:Type} (x:PM α) (f:α→PM β):PM β:=fun p=>match x p with
 | .ok a q=>f a q
 | .bad c i=> .bad c i
 | .out=> .out
instance:Monad PM:= { pure:=PM.pure,bind:=PM.bind }
def by1 {α:Type} (code place:Int):PM α:=fun _=> .bad code place
def outP {α:Type} :PM α:=fun _=> .out
def getP:PM Ps:=fun p=> .ok p p
def modP (f:Ps→Ps):PM Unit:=fun p=> .ok () (f p)
def ofO {α:Type} (o:Option α):PM α:=match o with
 |some a=>pure a
 |none=>outP
def hasF (f k:Int):Bool:= !(bits .and .i64 f k==0)
def setF (f on off:Int):Int:=bits .or .i64 (bits .andNot .i64 f off) on
def punctT (t:Tk) (x:ByteArray):Bool:=decide (t.kind=5) && decide (t.text=x)
def nameT (t:Tk) (x:ByteArray):Bool:=decide (t.kind=1) && decide (t.text=x)
def aa8 (kind:Int) (t:Tk):Nd:= .mk kind t.text [] t.from' t.till
def ae6 (t:Tk):Bool:=decide (t.kind=5) && ag1 t.text [⟨#[61]⟩,⟨#[43,61]⟩,⟨#[45,61]⟩,⟨#[42,61]⟩,⟨#[47,61]⟩,⟨#[37,61]⟩,⟨#[42,42,61]⟩,⟨#[60,60,61]⟩,⟨#[62,62,61]⟩,⟨#[62,62,62,61]⟩,⟨#[38,61]⟩,⟨#[124,61]⟩,⟨#[94,61]⟩,⟨#[38,38,61]⟩,⟨#[124,124,61]⟩,⟨#[63,63,61]⟩]
def aC5 (n:Nd):Bool:=decide (n.kind=29) && (decide (n.text=⟨#[124,124]⟩)||decide (n.text=⟨#[38,38]⟩))
def aB0 (n:Nd):Bool:=
 if n.kind=1 then decide (n.text≠⟨#[101,118,97,108]⟩) && decide (n.text≠⟨#[97,114,103,117,109,101,110,116,115]⟩)
 else if n.kind=38∨n.kind=39 then decide (n.text=⟨#[]⟩) else false
def aM4:Nat→Nd→Bool
 |0,_=>false
 |f+1,n=>if n.kind=26∧n.kids.length=1 then aM4 f (n.kids.headD .zero) else aB0 n
def ah1 (n:Nd):Bool:=aM4 (aa2 n) n
def okI (i:Int):Bool:=decide (0≤i) && decide (i≤16777216)
def hasC (c:List (Int × Int)) (k:Int):Bool:=c.any fun e=>decide (e.1=k)
section
variable (s:ByteArray) (module:Bool)
def tkOf (kind:Int) (q n:Nat) (line:Bool):Tk:=⟨kind,s.extract q (q+n),q,((q+n:Nat):Int),line⟩
def aY6 (goal:Int):PM Tk:=fun p=>
 if p.at'<0∨(s.size:Int)<p.at' then .out
 else match nxt s p.at'.toNat goal with
  | .bad place code=> .bad code place
  | .fine kind q n line cs=> .ok (tkOf s kind q n line) { p with tok:=tkOf s kind q n line,ahead:=cs,goal:=goal }
def an6 (goal:Int) (p:Ps):Bool:=decide (p.goal≠0∧(p.goal=goal∨(goal≤2∧p.goal≤2∧Lib.hasPrefix p.tok.text.data.toList [47]=false)))
def ab2 (goal:Int):PM Tk:=fun p=>if an6 goal p then .ok p.tok p else aY6 s goal p
def af3:PM Tk:=fun p=>if 4194304<p.cms.length+p.ahead.length then .out else .ok p.tok { p with cms:=p.cms++p.ahead,at':=p.tok.till,goal:=0,ahead:= [] }
def oddP {α:Type} :PM α:=fun p=> .bad 1001 p.tok.from'
def bj4 (place:Int):Tk:=match nxt s place.toNat 1 with
 | .bad _ _=>⟨-1,⟨#[]⟩,0,0,false⟩
 | .fine kind q n line _=>tkOf s kind q n line
def az9 (place:Int):PM Tk:=if place<0∨(s.size:Int)<place then outP else return bj4 s place
def isP (x:ByteArray):PM Bool:=do
 let t←ab2 s 1
 if punctT t x then do
  let _←af3
  return true
 else return false
def am9 (x:ByteArray):PM Tk:=do
 let t←ab2 s 1
 if punctT t x then af3 else oddP
def aG9 (x:ByteArray):PM Bool:=do
 let t←ab2 s 1
 if nameT t x then do
  let _←af3
  return true
 else return false
def aF0 (x:ByteArray):PM Unit:=do
 let b←aG9 s x
 if b then return () else oddP
def aj0 (flags:Int) (t:Tk):Bool:=decide (t.kind=1) && !aa0 t.text module && (!hasF flags 4||decide (t.text≠⟨#[97,119,97,105,116]⟩))
def ae2:PM Nd:=do
 let t←ab2 s 1
 let p←getP
 if aj0 module p.flags t then do
  let u←af3
  return aa8 1 u
 else oddP
def ac7 (kind:Int) (text:ByteArray) (from':Int) (kids:List Nd):PM Nd:=fun p=> .ok (.mk kind text kids from' p.at') p
def an0 {α:Type} (on off:Int) (x:PM α):PM α:=fun p=>PM.bind x (fun a q=> .ok a { q with flags:=p.flags }) { p with flags:=setF p.flags on off }
def ag4 {α:Type} (place:Int) (x:PM α):PM α:=fun p=>
 if 4000≤p.nest then .bad 1002 place
 else PM.bind x (fun a q=>if q.nest≤0 then .out else .ok a { q with nest:=q.nest - 1 }) { p with nest:=p.nest+1 }
def ae7:PM Unit:=do
 let t←ab2 s 1
 if punctT t ⟨#[59]⟩ then do
  let _←af3
  return ()
 else if !punctT t ⟨#[125]⟩ && decide (t.kind≠0) && !t.line then oddP else return ()
def as0 {α:Type} (closing:ByteArray) (goal:Int) (one:α→PM α):Nat→α→Bool→PM (α × Bool)
 |0,_,_=>outP
 |f+1,a,comma=>do
  let t←ab2 s goal
  if punctT t closing then do
   let _←af3
   return (a,comma)
  else do
   let b←one a
   let u←ab2 s 1
   if punctT u closing then do
    let _←af3
    return (b,false)
   else do
    let _←am9 s ⟨#[44]⟩
    as0 closing goal one f b true
def am2 (n:Nd):PM Unit:=if ah1 n then return () else by1 1003 n.from'
def aY3 (n:Nd):PM Nd:=if ah1 n && decide (aa2 n≤4194304) then return n else outP
def ao7 (n:Nd):PM Nd:=do
 let p←getP
 if !p.commas.isEmpty && (decide (n.kind=11)||decide (n.kind=12)) then outP else aY3 n
def ap7 (n:Nd):PM Unit:=if n.kind=18 then do
  let t←ab2 s 1
  if punctT t ⟨#[44]⟩ then do
   let q←getP
   if 4194304<q.commas.length∨okI n.from'=false∨okI n.till=false then outP else modP fun q=> { q with commas:=(n.from',n.till)::q.commas }
  else return ()
 else return ()
def ai0:PM (Tk × Int):=do
 let t←ab2 s 1
 let p←getP
 if decide (t.kind≠5) && !nameT t ⟨#[105,110,115,116,97,110,99,101,111,102]⟩ && (!nameT t ⟨#[105,110]⟩|| !hasF p.flags 1) then return (t,0)
 else return (t,ad6 t.text)
def aq2 (private':Bool):PM Nd:=do
 let t←ab2 s 1
 if t.kind=1 then do
  let u←af3
  return aa8 1 u
 else if t.kind≠2∨private'=false then oddP
 else do
  let u←af3
  return aa8 2 u
end
end
section
structure Mb where
 from':Int
 static:Bool
 kind:ByteArray
 key:Nd
 block:Bool
def Mb.text (m:Mb):ByteArray:=if m.static=false then m.kind else if m.kind=⟨#[]⟩ then ⟨#[115,116,97,116,105,99]⟩ else ⟨#[115,116,97,116,105,99,32]⟩++m.kind
def endB (e:Nat) (t:Tk):Bool:=if e=0 then decide (t.kind=0) else if e=1 then punctT t ⟨#[125]⟩ else punctT t ⟨#[125]⟩||nameT t ⟨#[99,97,115,101]⟩||nameT t ⟨#[100,101,102,97,117,108,116]⟩
inductive Fn where
 |expression|inner|innerAssign|assign|yield|cond|unary|args|spread|index|array|function|binding|arrayPattern|objectPattern|object|prop|element2
 |alone|block|head|element1|takeText|fromText|program
 |arrowOf (t:Tk)|body (text:ByteArray) (from':Int) (params:Nd)|assigned (n:Nd)
 |param (n:Nd) (last:Bool)|plain (n:Nd)|element (of:Int) (k:Nd) (last:Bool)|params (args:Nd)
 |binary (least:Int) (nullish:Bool)|operand (least:Int)|arguments (from':Int)
 |link (n:Nd) (calls templates:Bool)|optional (n:Nd)|chain (n:Nd)|leftHand|base (t:Tk) (calls:Bool)|new (from':Int)
 |template (tagged:Bool)|primary (t:Tk)|named (t:Tk)|paren (t:Tk)
 |takeKey (cls:Bool)|members (cls:Bool)|method (m:Mb)|callable (text:ByteArray) (from':Int) (id:Nd) (of:ByteArray)|formals (of:ByteArray)|defaulted (n:Nd)
 |funcs (must:Bool)|cls (must:Bool)
 |statements (dir top:Bool) (e:Nat)|statement (t:Tk) (list:Bool)|simple (t:Tk)|declaration (must:Bool)|declared (t:Tk) (first:Option Nd)
 |branch (t:Tk)|returned (t:Tk)|jump (t:Tk)|tried (t:Tk)|switched (t:Tk)|loop (t:Tk)|through (t:Tk) (text:ByteArray) (first:Nd)|counted (t:Tk) (first:Nd)
 |modular (t:Tk) (top:Bool)|imported (t:Tk)|outer|specs (imports:Bool)|exported (t:Tk)|defaultOf (t:Tk)
 |markup (from':Int)|attr (t:Tk)|children (of:ByteArray)|closing (of:ByteArray) (from':Int)|jname (points:Bool)
@[reducible] def Fn.Out:Fn→Type
 | .param _ _=>Unit
 | .plain _=>Unit
 | .element _ _ _=>Unit
 | .closing _ _=>Unit
 | .link _ _ _=>Nd × Bool
 | .members _=>Mb
 | .statements _ _ _=>List Nd
 |_=>Nd
section
variable (s:ByteArray) (module:Bool) (f:Nat) (R:(x:Fn)→PM x.Out)
def ag8:PM Nd:=do
 let n←R .assign
 let t←ab2 s 1
 if punctT t ⟨#[44]⟩ then seqL f [n] n.from' else return n
where
 seqL:Nat→List Nd→Int→PM Nd
 |0,_,_=>outP
 |g+1,kids,from'=>do
  let b←isP s ⟨#[44]⟩
  if b then do
   let k←R .assign
   seqL g (kids++ [k]) from'
  else ac7 32 ⟨#[]⟩ from' kids
def ai7:PM Nd:=do
 let t←ab2 s 2
 ag4 t.from' (do
  let p←getP
  if hasF p.flags 2 && nameT t ⟨#[121,105,101,108,100]⟩ then R .yield
  else do
   let one←single t
   if one then R (.arrowOf t)
   else do
    modP fun q=> { q with arrow:=t.from' }
    let n←R .cond
    R (.assigned n))
where
 single (t:Tk):PM Bool:=do
  let p←getP
  let u←(if nameT t ⟨#[97,115,121,110,99]⟩ then do
    let next←az9 s t.till
    if !next.line && aj0 module p.flags next then return next else return t
   else return t)
  let next←az9 s u.till
  if !aj0 module p.flags u|| !punctT next ⟨#[61,62]⟩||next.line then return false
  else do
   am2 (aa8 1 u)
   return true
def ax5 (t:Tk):PM Nd:=do
 let _←af3
 let id←ab2 s 1
 if punctT id ⟨#[61,62]⟩ then do
  let ps←ac7 21 ⟨#[]⟩ t.from' [aa8 1 t]
  R (.body ⟨#[]⟩ t.from' ps)
 else do
  let _←af3
  let ps←ac7 21 ⟨#[]⟩ id.from' [aa8 1 id]
  R (.body ⟨#[97,115,121,110,99]⟩ t.from' ps)
def bf1 (text:ByteArray) (from':Int) (params:Nd):PM Nd:=do
 let _←am9 s ⟨#[61,62]⟩
 let n←an0 (if text=⟨#[97,115,121,110,99]⟩ then 4 else 0) 2 (do
  let t←ab2 s 2
  if punctT t ⟨#[123]⟩ then R .function else R .assign)
 ac7 22 text from' [params,n]
def aj8 (n:Nd):PM Nd:=
 if n.kind=22 then return n
 else do
  let t←ab2 s 1
  if ae6 t then do
   let m←(if t.text=⟨#[61]⟩ then ao7 n else do
    am2 n
    return n)
   let _←af3
   let right←R .assign
   ac7 30 t.text m.from' [m,right]
  else return n
def aP3 (n:Nd) (_:Bool):PM Unit:=if okI n.from' && ((decide (n.kind=1) && ah1 n)||decide (n.kind=0)) then return () else outP
def bI9 (_:Nd):PM Unit:=outP
def bo8 (_:Int) (_:Nd) (_:Bool):PM Unit:=outP
def am1 (args:Nd):PM Nd:=
 if args.kids.all (fun k=>okI k.from' && decide (k.kind≠18) && decide (k.kind≠30)) && okI args.till && decide (args.kids.length≤16777216) then do
  askL args.kids
  let ks←mapL args.kids
  return .mk 21 ⟨#[]⟩ ks args.from' args.till
 else outP
where
 askL:List Nd→PM Unit
 | []=>return ()
 |k::ks=>do
  R (.param k ks.isEmpty)
  askL ks
 mapL:List Nd→PM (List Nd)
 | []=>return []
 |k::ks=>do
  let y←ao7 k
  let ys←mapL ks
  return y::ys
def aK8:PM Nd:=do
 let n←R (.binary 1 false)
 if n.kind=22 then return n
 else do
  let b←isP s ⟨#[63]⟩
  if b then do
   let then'←R .innerAssign
   let _←am9 s ⟨#[58]⟩
   let other←R .assign
   ac7 31 ⟨#[]⟩ n.from' [n,then',other]
  else return n
def ak9 (least:Int) (nullish:Bool):PM Nd:=do
 let n←R (.operand least)
 if n.kind=22 then return n else opsL f n
where
 opsL:Nat→Nd→PM Nd
 |0,_=>outP
 |g+1,n=>do
  let r←ai0 s
  if r.2<least∨r.2=0 then return n
  else if (decide (r.1.text=⟨#[63,63]⟩) && aC5 n)||((decide (r.1.text=⟨#[124,124]⟩)||decide (r.1.text=⟨#[38,38]⟩)) && nullish)||(decide (r.1.text=⟨#[42,42]⟩) && (decide (n.kind=27)||decide (n.kind=34))) then oddP
  else do
   let _←af3
   let right←(if r.1.text=⟨#[42,42]⟩ then do
    let u←ab2 s 2
    ag4 u.from' (R (.binary r.2 false))
   else R (.binary (r.2+1) (decide (r.1.text=⟨#[63,63]⟩))))
   let m←ac7 29 r.1.text n.from' [n,right]
   opsL g m
def am7 (least:Int):PM Nd:=do
 let t←ab2 s 2
 if t.kind≠2 then R .unary
 else do
  let _←af3
  let next←ab2 s 1
  let p←getP
  if decide (8<least)|| !hasF p.flags 1|| !nameT next ⟨#[105,110]⟩ then by1 1001 t.from'
  else return aa8 2 t
def aw5:PM Nd:=do
 let _←af3
 let u←ab2 s 2
 ag4 u.from' (R .unary)
def aq4:PM Nd:=do
 let t←ab2 s 2
 if nameT t ⟨#[100,101,108,101,116,101]⟩||nameT t ⟨#[118,111,105,100]⟩||nameT t ⟨#[116,121,112,101,111,102]⟩||punctT t ⟨#[43]⟩||punctT t ⟨#[45]⟩||punctT t ⟨#[126]⟩||punctT t ⟨#[33]⟩ then do
  let n←aw5 s R
  ac7 27 t.text t.from' [n]
 else do
  let p←getP
  if nameT t ⟨#[97,119,97,105,116]⟩ && hasF p.flags 4 then do
   let n←aw5 s R
   ac7 34 ⟨#[]⟩ t.from' [n]
  else if punctT t ⟨#[43,43]⟩||punctT t ⟨#[45,45]⟩ then do
   let n←aw5 s R
   am2 n
   ac7 28 (t.text++⟨#[120]⟩) t.from' [n]
  else do
   let n←R .leftHand
   if n.kind=22 then return n
   else do
    let u←ab2 s 1
    if (punctT u ⟨#[43,43]⟩||punctT u ⟨#[45,45]⟩) && !u.line then do
     am2 n
     let _←af3
     ac7 28 (⟨#[120]⟩++u.text) n.from' [n]
    else return n
def aQ8:PM Nd:=do
 let t←am9 s ⟨#[40]⟩
 R (.arguments t.from')
def bb0 (from':Int):PM Nd:=do
 let r←an0 1 0 (as0 s ⟨#[41]⟩ 2 (fun kids=>do
  let k←R .spread
  ap7 s k
  return kids++ [k]) f [] false)
 ac7 36 ⟨#[]⟩ from' r.1
def aw9:PM Nd:=do
 let t←ab2 s 2
 if punctT t ⟨#[46,46,46]⟩ then do
  let _←af3
  let n←R .assign
  ac7 18 ⟨#[]⟩ t.from' [n]
 else R .assign
def aO3:PM Nd:=do
 let n←R .inner
 let _←am9 s ⟨#[93]⟩
 return n
def aE7 (n:Nd) (calls templates:Bool):PM (Nd × Bool):=do
 let t←ab2 s 1
 if punctT t ⟨#[46]⟩ then do
  let _←af3
  let k←aq2 s (decide (n.kind≠6)||decide (n.text≠⟨#[115,117,112,101,114]⟩))
  let m←ac7 38 ⟨#[]⟩ n.from' [n,k]
  return (m,true)
 else if punctT t ⟨#[91]⟩ then do
  let _←af3
  let k←R .index
  let m←ac7 39 ⟨#[]⟩ n.from' [n,k]
  return (m,true)
 else if punctT t ⟨#[40]⟩ && calls then do
  let k←R .args
  let m←ac7 35 ⟨#[]⟩ n.from' [n,k]
  return (m,true)
 else if t.kind=7∨t.kind=8 then (if templates then do
   let k←R (.template true)
   let m←ac7 10 ⟨#[]⟩ n.from' [n,k]
   return (m,true)
  else oddP)
 else return (n,false)
def as7 (n:Nd):PM Nd:=do
 let t←ab2 s 1
 if punctT t ⟨#[91]⟩ then do
  let _←af3
  let k←R .index
  ac7 39 ⟨#[63,46]⟩ n.from' [n,k]
 else if punctT t ⟨#[40]⟩ then do
  let k←R .args
  ac7 35 ⟨#[63,46]⟩ n.from' [n,k]
 else do
  let k←aq2 s true
  ac7 38 ⟨#[63,46]⟩ n.from' [n,k]
def aD5 (n:Nd):PM Nd:=chainL f n
where
 chainL:Nat→Nd→PM Nd
 |0,_=>outP
 |g+1,n=>do
  let b←isP s ⟨#[63,46]⟩
  if b then do
   let m←R (.optional n)
   chainL g m
  else do
   let r←R (.link n true false)
   if r.2 then chainL g r.1 else ac7 40 ⟨#[]⟩ r.1.from' [r.1]
def ap0 (n:Nd):Bool:=decide (n.kind=37) && decide (((n.kids.drop 1).headD .zero).kind=0)
def ad4:PM Nd:=do
 let t←ab2 s 2
 let p←getP
 let may:=decide (t.from'=p.arrow)
 let n←R (.base t true)
 if n.kind=22 then return n
 else if may && decide (n.kind=1) && decide (n.text=⟨#[97,115,121,110,99]⟩) then (if okI n.from' && okI n.till && decide (t.text.size≤16777216) then (if n.till - n.from'=t.text.size then do
   let next←ab2 s 1
   if punctT next ⟨#[40]⟩ && !next.line then do
    let args←R .args
    let next←ab2 s 1
    if punctT next ⟨#[61,62]⟩ && !next.line then do
     let ps←R (.params args)
     R (.body ⟨#[97,115,121,110,99]⟩ n.from' ps)
    else do
     let m←ac7 35 ⟨#[]⟩ n.from' [n,args]
     linkL f m
   else linkL f n
  else linkL f n) else outP)
 else linkL f n
where
 linkL:Nat→Nd→PM Nd
 |0,_=>outP
 |g+1,n=>do
  let next←ab2 s 1
  if punctT next ⟨#[63,46]⟩ then (if n.kind=37∧n.kids.length<2 then outP else if ap0 n then oddP else R (.chain n))
  else do
   let r←R (.link n true true)
   if r.2 then linkL g r.1 else return r.1
def aK4 (t:Tk) (calls:Bool):PM Nd:=
 if nameT t ⟨#[110,101,119]⟩ then do
  let _←af3
  R (.new t.from')
 else if nameT t ⟨#[115,117,112,101,114]⟩ then do
  let u←af3
  let next←ab2 s 1
  if !punctT next ⟨#[46]⟩ && !punctT next ⟨#[91]⟩ && (!calls|| !punctT next ⟨#[40]⟩) then oddP
  else do
   let r←R (.link (aa8 6 u) calls false)
   return r.1
 else if nameT t ⟨#[105,109,112,111,114,116]⟩ then do
  let _←af3
  let b←(if module then isP s ⟨#[46]⟩ else return false)
  if b then do
   aF0 s ⟨#[109,101,116,97]⟩
   ac7 7 ⟨#[105,109,112,111,114,116,46,109,101,116,97]⟩ t.from' []
  else if !calls then do
   let _←ab2 s 1
   oddP
  else do
   let _←am9 s ⟨#[40]⟩
   let n←R .innerAssign
   let _←isP s ⟨#[44]⟩
   let _←am9 s ⟨#[41]⟩
   ac7 41 ⟨#[]⟩ t.from' [n]
 else R (.primary t)
def newS (from':Int):PM Nd:=do
 let b←isP s ⟨#[46]⟩
 if b then do
  aF0 s ⟨#[116,97,114,103,101,116]⟩
  ac7 7 ⟨#[110,101,119,46,116,97,114,103,101,116]⟩ from' []
 else do
  let t←ab2 s 2
  let n←ag4 t.from' (do
   let n←R (.base t false)
   if n.kind=37∧n.kids.length<2 then outP else moreL f n (!ap0 n))
  let next←ab2 s 1
  if punctT next ⟨#[40]⟩ then do
   let a←R .args
   ac7 37 ⟨#[]⟩ from' [n,a]
  else ac7 37 ⟨#[]⟩ from' [n,.zero]
where
 moreL:Nat→Nd→Bool→PM Nd
 |0,_,_=>outP
 |g+1,n,more=>if more then do
   let r←R (.link n false true)
   moreL g r.1 r.2
  else return n
def am8 (t:Tk):PM Nd:=
 if t.kind=3∨t.kind=4 then do
  let u←af3
  return aa8 t.kind u
 else if t.kind=6 then do
  let u←af3
  return aa8 5 u
 else if t.kind=7∨t.kind=8 then R (.template false)
 else if t.kind=1 then R (.named t)
 else if punctT t ⟨#[91]⟩ then R .array
 else if punctT t ⟨#[123]⟩ then R .object
 else if punctT t ⟨#[40]⟩ then R (.paren t)
 else if punctT t ⟨#[60]⟩ then R .element1
 else oddP
def aF1 (t:Tk):PM Nd:=
 if ag1 t.text [⟨#[116,104,105,115]⟩,⟨#[110,117,108,108]⟩,⟨#[116,114,117,101]⟩,⟨#[102,97,108,115,101]⟩] then do
  let u←af3
  return aa8 6 u
 else if t.text=⟨#[102,117,110,99,116,105,111,110]⟩ then R (.funcs false)
 else if t.text=⟨#[99,108,97,115,115]⟩ then R (.cls false)
 else if t.text=⟨#[97,115,121,110,99]⟩ then do
  let next←az9 s t.till
  if nameT next ⟨#[102,117,110,99,116,105,111,110]⟩ && !next.line then R (.funcs false) else ae2 s module
 else ae2 s module
def aP4 (t:Tk):PM Nd:=do
 let p←getP
 let _←af3
 let args←R (.arguments t.from')
 let arrow←(if t.from'=p.arrow then do
  let next←ab2 s 1
  return (punctT next ⟨#[61,62]⟩ && !next.line)
 else return false)
 if arrow then do
  let ps←R (.params args)
  R (.body ⟨#[]⟩ t.from' ps)
 else outP
def aE2:PM Nd:=an0 1 0 (R .expression)
def ah9:PM Nd:=an0 1 0 (R .assign)
def an8:PM Nd:=an0 1 0 (do
 let _←ab2 s 2
 let o←am9 s ⟨#[123]⟩
 let kids←R (.statements true false 1)
 let _←af3
 ac7 58 ⟨#[]⟩ o.from' kids)
def ar6:PM Nd:=do
 let kids←R (.statements true module 0)
 let _←af3
 return .mk 86 ⟨#[]⟩ kids 0 s.size
def ai2 (dir top:Bool) (e:Nat):PM (List Nd):=partL f dir []
where
 partL:Nat→Bool→List Nd→PM (List Nd)
 |0,_,_=>outP
 |g+1,dir,kids=>do
  let t←ab2 s 2
  if endB e t then return kids
  else do
   let n←ag4 t.from' (do
    let m←R (.modular t top)
    if m.kind=0 then R (.statement t true) else return m)
   if dir && decide (n.kind=57) then do
    let k←ofO n.kids.head?
    if k.kind=4 then outP else partL g false (kids++ [n])
   else partL g false (kids++ [n])
def aD1:PM Nd:=do
 let t←ab2 s 2
 ag4 t.from' (R (.statement t false))
def aN1:PM Nd:=do
 let o←am9 s ⟨#[123]⟩
 let kids←R (.statements false false 1)
 let _←af3
 ac7 58 ⟨#[]⟩ o.from' kids
def aS1:PM Nd:=do
 let _←am9 s ⟨#[40]⟩
 let n←R .inner
 let _←am9 s ⟨#[41]⟩
 return n
def kwW:List ByteArray:= [⟨#[97,115,121,110,99]⟩,⟨#[118,97,114]⟩,⟨#[108,101,116]⟩,⟨#[99,111,110,115,116]⟩,⟨#[102,117,110,99,116,105,111,110]⟩,⟨#[99,108,97,115,115]⟩,⟨#[105,102]⟩,⟨#[102,111,114]⟩,⟨#[119,104,105,108,101]⟩,⟨#[100,111]⟩,⟨#[114,101,116,117,114,110]⟩,⟨#[98,114,101,97,107]⟩,⟨#[99,111,110,116,105,110,117,101]⟩,⟨#[116,104,114,111,119]⟩,⟨#[116,114,121]⟩,⟨#[115,119,105,116,99,104]⟩,⟨#[100,101,98,117,103,103,101,114]⟩]
def ai4 (t:Tk) (list:Bool):PM Nd:=
 if !list then outP
 else if punctT t ⟨#[123]⟩ then R .block
 else if punctT t ⟨#[59]⟩ then do
  let _←af3
  ac7 59 ⟨#[]⟩ t.from' []
 else if t.kind≠1 then R (.simple t)
 else if ag1 t.text kwW then outP
 else do
  let next←az9 s t.till
  let p←getP
  if aj0 module p.flags t && punctT next ⟨#[58]⟩ then do
   let _←af3
   let _←am9 s ⟨#[58]⟩
   let n←R .alone
   ac7 76 t.text t.from' [n]
  else R (.simple t)
def aw8 (t:Tk):PM Nd:=do
 let n←R .expression
 ae7 s
 ac7 57 ⟨#[]⟩ t.from' [n]
def af7 (must:Bool):PM Nd:=do
 let p←getP
 if nameT p.tok ⟨#[99,108,97,115,115]⟩ then do
  let n←R (.cls must)
  ac7 24 ⟨#[]⟩ p.tok.from' [n]
 else do
  let n←R (.funcs must)
  ac7 20 ⟨#[]⟩ p.tok.from' [n]
def ay6 (_:Tk) (top:Bool):PM Nd:=if top then outP else return .zero
def bL5:(x:Fn)→PM x.Out
 | .expression=>ag8 s f R
 | .inner=>aE2 R
 | .innerAssign=>ah9 R
 | .assign=>ai7 s module R
 | .yield=>outP
 | .cond=>aK8 s R
 | .unary=>aq4 s R
 | .args=>aQ8 s R
 | .spread=>aw9 s R
 | .index=>aO3 s R
 | .array=>outP
 | .function=>outP
 | .binding=>outP
 | .arrayPattern=>outP
 | .objectPattern=>outP
 | .object=>outP
 | .prop=>outP
 | .element2=>outP
 | .alone=>outP
 | .block=>aN1 s R
 | .head=>outP
 | .element1=>outP
 | .takeText=>outP
 | .fromText=>outP
 | .program=>ar6 s module R
 | .arrowOf t=>ax5 s R t
 | .body text from' params=>bf1 s R text from' params
 | .assigned n=>aj8 s R n
 | .param n last=>aP3 n last
 | .plain n=>bI9 n
 | .element of k last=>bo8 of k last
 | .params args=>am1 R args
 | .binary least nullish=>ak9 s f R least nullish
 | .operand least=>am7 s R least
 | .arguments from'=>bb0 s f R from'
 | .link n calls templates=>aE7 s R n calls templates
 | .optional n=>as7 s R n
 | .chain n=>aD5 s f R n
 | .leftHand=>ad4 s f R
 | .base t calls=>aK4 s module R t calls
 | .new from'=>newS s f R from'
 | .template _=>outP
 | .primary t=>am8 R t
 | .named t=>aF1 s module R t
 | .paren t=>aP4 s R t
 | .takeKey _=>outP
 | .members _=>outP
 | .method _=>outP
 | .callable _ _ _ _=>outP
 | .formals _=>outP
 | .defaulted _=>outP
 | .funcs _=>outP
 | .cls _=>outP
 | .statements dir top e=>ai2 s f R dir top e
 | .statement t list=>ai4 s module R t list
 | .simple t=>aw8 s R t
 | .declaration _=>outP
 | .declared _ _=>outP
 | .branch _=>outP
 | .returned _=>outP
 | .jump _=>outP
 | .tried _=>outP
 | .switched _=>outP
 | .loop _=>outP
 | .through _ _ _=>outP
 | .counted _ _=>outP
 | .modular t top=>ay6 t top
 | .imported _=>outP
 | .outer=>outP
 | .specs _=>outP
 | .exported _=>outP
 | .defaultOf _=>outP
 | .markup _=>outP
 | .attr _=>outP
 | .children _=>outP
 | .closing _ _=>outP
 | .jname _=>outP
end
def ps0 (module:Bool):Ps:=⟨0,Tk.zero,[],0,[],if module then 5 else 1,0,-1,[]⟩
end
section
section
variable (s:ByteArray) (module:Bool) (f:Nat) (R:(x:Fn)→PM x.Out)
def ak7 (from':Int):PM Nd:=do
 let r←an0 1 0 (as0 s ⟨#[41]⟩ 2 (fun kids=>if 4194304<kids.length then outP else do
  let k←R .spread
  ap7 s k
  return kids++ [k]) f [] false)
 ac7 36 ⟨#[]⟩ from' r.1
end
def aD9 (s:ByteArray) (module:Bool) (R:(x:Fn)→PM x.Out) (must:Bool):PM Nd:=if must=false then outP else do
 let p←getP
 let a←aG9 s ⟨#[97,115,121,110,99]⟩
 if a then outP
 else do
  aF0 s ⟨#[102,117,110,99,116,105,111,110]⟩
  let b←isP s ⟨#[42]⟩
  if b then do
   let id←ae2 s module
   R (.callable ⟨#[42]⟩ p.tok.from' id ⟨#[]⟩)
  else do
   let id←ae2 s module
   R (.callable ⟨#[]⟩ p.tok.from' id ⟨#[]⟩)
def aB3 (s:ByteArray) (R:(x:Fn)→PM x.Out) (t:Tk):PM Nd:=do
 let _←af3
 let u←ab2 s 2
 if u.line then oddP
 else do
  let n←R .expression
  ae7 s
  ac7 71 ⟨#[]⟩ t.from' [n]
def aq7 (s:ByteArray) (f:Nat) (of:ByteArray):PM Nd:=if of≠⟨#[]⟩ then outP else do
 let o←am9 s ⟨#[40]⟩
 let _←as0 s ⟨#[41]⟩ 1 (fun _:Unit=>outP) f () false
 ac7 21 ⟨#[]⟩ o.from' []
def ai5 (R:(x:Fn)→PM x.Out) (text:ByteArray) (from':Int) (id:Nd) (of:ByteArray):PM Nd:=
 if of≠⟨#[]⟩∨id.kids≠ [] then outP
 else if text=⟨#[42]⟩ then an0 3 6 (do
  let params←R (.formals ⟨#[]⟩)
  let body←R .function
  ac7 19 text from' [id,params,body])
 else if text=⟨#[]⟩ then an0 1 6 (do
  let params←R (.formals ⟨#[]⟩)
  let body←R .function
  ac7 19 text from' [id,params,body])
 else outP
def dirL (s:ByteArray) (R:(x:Fn)→PM x.Out) (top:Bool) (e:Nat):Nat→Bool→List Nd→PM (List Nd)
 |0,_,_=>outP
 |g+1,dir,kids=>do
  let t←ab2 s 2
  if endB e t then return kids
  else do
   let n←ag4 t.from' (do
    let m←R (.modular t top)
    if m.kind=0 then R (.statement t true) else return m)
   if dir && decide (n.kind=57) then do
    let k←ofO n.kids.head?
    if k.kind=4 then dirL s R top e g true (kids++ [.mk 78 k.text [] n.from' n.till]) else dirL s R top e g false (kids++ [n])
   else dirL s R top e g false (kids++ [n])
def ao4 (s:ByteArray) (f:Nat) (R:(x:Fn)→PM x.Out) (dir top:Bool) (e:Nat):PM (List Nd):=dirL s R top e f dir []
def bg3:List Nd→Bool
 | [k]=>decide (k.kind=45)
 |_=>false
mutual
def aj3:Nd→Bool
 | .mk k _ ks _ _=> !(decide (k=13) && bg3 ks) && ap2 ks
def ap2:List Nd→Bool
 | []=>true
 |k::ks=>aj3 k && ap2 ks
end
def aA0 (x:PM Nd):PM Nd:=do
 let n←x
 if aj3 n=false then outP else if 4194304<aa2 n then outP else if 8000<ag7 n then by1 1002 0 else return n
def aO0 (s:ByteArray) (R:(x:Fn)→PM x.Out):PM Nd:=do
 let n←R .expression
 let t←ab2 s 1
 if t.kind=0 then return n else oddP
end
section
def bd9:Nd→Int→Nd
 | .mk k t ks f _,u=> .mk k t ks f u
section
variable (s:ByteArray) (module:Bool) (R:(x:Fn)→PM x.Out)
def aq5:PM Nd:=do
 let t←ab2 s 1
 ag4 t.from' (if punctT t ⟨#[91]⟩=true∨punctT t ⟨#[123]⟩=true then outP else ae2 s module)
def ah7 (t:Tk):PM Nd:=do
 let id←R .binding
 let b←isP s ⟨#[61]⟩
 if b then do
  let v←R .assign
  let k←ac7 61 ⟨#[]⟩ id.from' [id,v]
  let c←isP s ⟨#[44]⟩
  if c then outP else ac7 60 t.text t.from' [k]
 else if t.text=⟨#[99,111,110,115,116]⟩∨id.kind≠1 then outP
 else do
  let k←ac7 61 ⟨#[]⟩ id.from' [id,.zero]
  let c←isP s ⟨#[44]⟩
  if c then outP else ac7 60 t.text t.from' [k]
def av4 (t:Tk):PM Nd:=do
 let _←af3
 let test←R .head
 let then'←R .alone
 let u←ab2 s 2
 if nameT u ⟨#[101,108,115,101]⟩ then outP else ac7 62 ⟨#[]⟩ t.from' [test,then',.zero]
def aD6 (must:Bool):PM Nd:=if must=false then outP else do
 let p←getP
 aF0 s ⟨#[99,108,97,115,115]⟩
 let _←ab2 s 1
 let id←ae2 s module
 let b←aG9 s ⟨#[101,120,116,101,110,100,115]⟩
 if b then outP else do
  let o←am9 s ⟨#[123]⟩
  let c←isP s ⟨#[125]⟩
  if c then do
   let body←ac7 25 ⟨#[]⟩ o.from' []
   ac7 23 ⟨#[]⟩ p.tok.from' [id,.zero,body]
  else outP
def varN (t:Tk):PM Nd:=do
 let _←af3
 let n←R (.declared t none)
 ae7 s
 let q←getP
 return bd9 n q.at'
def aB4 (t:Tk):PM Nd:=do
 let _←af3
 let test←R .head
 let body←R .alone
 ac7 66 ⟨#[]⟩ t.from' [test,body]
def doN (t:Tk):PM Nd:=do
 let _←af3
 let body←R .alone
 let _←ab2 s 2
 aF0 s ⟨#[119,104,105,108,101]⟩
 let test←R .head
 let u←ab2 s 2
 if punctT u ⟨#[59]⟩ then do
  let _←af3
  ac7 67 ⟨#[]⟩ t.from' [body,test]
 else ac7 67 ⟨#[]⟩ t.from' [body,test]
def al6 (t:Tk):PM Nd:=do
 let _←af3
 ae7 s
 ac7 77 ⟨#[]⟩ t.from' []
def aH9 (t:Tk):PM Nd:=if t.kind≠1∨ag1 t.text kwW=true then outP else do
 let next←az9 s t.till
 let p←getP
 if aj0 module p.flags t && punctT next ⟨#[58]⟩ then outP else R (.simple t)
def aa9 (t:Tk) (list:Bool):PM Nd:=
 if list=false then aH9 s module R t
 else if t.kind≠1∨ag1 t.text kwW=false then ai4 s module R t list
 else if t.text=⟨#[118,97,114]⟩ then varN s R t
 else if t.text=⟨#[108,101,116]⟩ then varN s R t
 else if t.text=⟨#[102,117,110,99,116,105,111,110]⟩ then R (.declaration true)
 else if t.text=⟨#[99,108,97,115,115]⟩ then R (.declaration true)
 else if t.text=⟨#[105,102]⟩ then R (.branch t)
 else if t.text=⟨#[119,104,105,108,101]⟩ then aB4 R t
 else if t.text=⟨#[100,111]⟩ then doN s R t
 else if t.text=⟨#[116,104,114,111,119]⟩ then aB3 s R t
 else if t.text=⟨#[100,101,98,117,103,103,101,114]⟩ then al6 s t
 else outP
end
end
end Go.Proofs.YtcgbkjhoifhnnaaGreatDoor
