/- Steps (Ps Pt St Stl Sto Stk). Conditions: as stated. -/
import Derived.Test.YtnobjeelihkjmaaGreatDoorZk03
import Derived.Test.YtnobjeelihkjmaaGreatDoorZk06
import Derived.Test.YtnobjeelihkjmaaGreatDoorZk05
import Derived.Test.YtnobjeelihkjmaaGreatDoorZk04
namespace Go.Proofs.YtnobjeelihkjmaaGreatDoor
section
structure Ps where
 at':Int
 tok:Tk
 ahead:List Cm
 goal:Int
 cms:List Cm
 flags:Int
 nest:Int
 arrow:Int
 commas:List (Int × Int)
inductive Res (α:Type) where
 |ok (a:α) (p:Ps)
 |bad (code place:Int)
 |out
def PM (α:Type):=Ps→Res α
def PM.pure {α:Type} (a:α):PM α:=fun p=> .ok a p
def PM.bind {α β:Type} (x:PM α) (f:α→PM β):PM β:=fun p=>match x p with
 | .ok a q=>f a q
 | .bad c i=> .bad c i
 | .out=> .out
instance:Monad PM:= { pure:=PM.pure,bind:=PM.bind }
def bC7 {α:Type} (code place:Int):PM α:=fun _=> .bad code place
def outP {α:Type} :PM α:=fun _=> .out
def getP:PM Ps:=fun p=> .ok p p
def modP (f:Ps→Ps):PM Unit:=fun p=> .ok () (f p)
def ofO {α:Type} (o:Option α):PM α:=match o with
 |some a=>pure a
 |none=>outP
def hasF (f k:Int):Bool:= !(bits .and .i64 f k==0)
def setF (f on off:Int):Int:=bits .or .i64 (bits .andNot .i64 f off) on
def aa2 (t:Tk) (x:ByteArray):Bool:=decide (t.kind=5) && decide (t.text=x)
def ae7 (t:Tk) (x:ByteArray):Bool:=decide (t.kind=1) && decide (t.text=x)
def ar1 (kind:Int) (t:Tk):Nd:= .mk kind t.text [] t.from' t.till
def an3 (t:Tk):Bool:=decide (t.kind=5) && ao0 t.text [⟨#[61]⟩,⟨#[43,61]⟩,⟨#[45,61]⟩,⟨#[42,61]⟩,⟨#[47,61]⟩,⟨#[37,61]⟩,⟨#[42,42,61]⟩,⟨#[60,60,61]⟩,⟨#[62,62,61]⟩,⟨#[62,62,62,61]⟩,⟨#[38,61]⟩,⟨#[124,61]⟩,⟨#[94,61]⟩,⟨#[38,38,61]⟩,⟨#[124,124,61]⟩,⟨#[63,63,61]⟩]
def aB5 (n:Nd):Bool:=decide (n.kind=29) && (decide (n.text=⟨#[124,124]⟩)||decide (n.text=⟨#[38,38]⟩))
def aJ0 (n:Nd):Bool:=
 if n.kind=1 then decide (n.text≠⟨#[101,118,97,108]⟩) && decide (n.text≠⟨#[97,114,103,117,109,101,110,116,115]⟩)
 else if n.kind=38∨n.kind=39 then decide (n.text=⟨#[]⟩) else false
def aG3:Nat→Nd→Bool
 |0,_=>false
 |f+1,n=>if n.kind=26∧n.kids.length=1 then aG3 f (n.kids.headD .zero) else aJ0 n
def af1 (n:Nd):Bool:=aG3 (aa4 n) n
def bK5 (k:Nd):Bool:=
 let j:=if k.kind=45∧k.kids.length=2 then k.kids.headD .zero else k
 decide (j.kind=1) && aJ0 j
section
variable (whole:Nd→Int ⊕ Nd)
def bH3 (r:Nd):Int ⊕ Nd:=
 if¬(r.kind=30∧r.text=⟨#[61]⟩∧r.kids.length=2) then whole r
 else match r.kids with
  | [a,b]=>if a.kind=42∨a.kind=43 then .inr (.mk 45 ⟨#[]⟩ [a,b] r.from' r.till)
   else match whole a with
    | .inl e=> .inl e
    | .inr x=> .inr (.mk 45 ⟨#[]⟩ [x,b] r.from' r.till)
  |_=> .inl 0
def propC (m:Nat) (i:Nat) (r:Nd):Int ⊕ Nd:=
 if r.kind=18∧i+1=m∧r.kids.length=1 then (if af1 (r.kids.headD .zero) then .inr (.mk 46 ⟨#[]⟩ r.kids r.from' r.till) else .inl r.from')
 else if r.kind=13∧r.text=⟨#[]⟩∧r.kids.length=2 then match r.kids with
  | [a,b]=>(match bH3 whole b with
   | .inl e=> .inl e
   | .inr x=> .inr (.mk 44 ⟨#[]⟩ [a,x] r.from' r.till))
  |_=> .inl 0
 else if r.kind=13∧r.text=⟨#[115,104,111,114,116]⟩∧r.kids.length=1 then (if bK5 (r.kids.headD .zero) then .inr (.mk 44 ⟨#[115,104,111,114,116]⟩ r.kids r.from' r.till) else .inl (r.kids.headD .zero).from')
 else .inl r.from'
end
def okI (i:Int):Bool:=decide (0≤i) && decide (i≤16777216)
def hasC (c:List (Int × Int)) (k:Int):Bool:=c.any fun e=>decide (e.1=k)
section
variable (s:ByteArray) (module:Bool)
def tkOf (kind:Int) (q n:Nat) (line:Bool):Tk:=⟨kind,s.extract q (q+n),q,((q+n:Nat):Int),line⟩
def bk1 (goal:Int):PM Tk:=fun p=>
 if p.at'<0∨(s.size:Int)<p.at' then .out
 else match nxt s p.at'.toNat goal with
  | .fine kind q n line []=> .ok (tkOf s kind q n line) { p with tok:=tkOf s kind q n line,ahead:= [],goal:=goal }
  |_=> .out
def aq6 (goal:Int) (p:Ps):Bool:=decide (p.goal≠0∧(p.goal=goal∨(goal≤2∧p.goal≤2∧Lib.hasPrefix p.tok.text.data.toList [47]=false)))
def ac8 (goal:Int):PM Tk:=fun p=>if aq6 goal p then .ok p.tok p else bk1 s goal p
def ad7:PM Tk:=fun p=>if 4194304<p.cms.length+p.ahead.length then .out else .ok p.tok { p with cms:=p.cms++p.ahead,at':=p.tok.till,goal:=0,ahead:= [] }
def oddP {α:Type} :PM α:=fun p=> .bad 1001 p.tok.from'
def bv6 (place:Int):Tk:=match nxt s place.toNat 1 with
 | .bad _ _=>⟨-1,⟨#[]⟩,0,0,false⟩
 | .fine kind q n line _=>tkOf s kind q n line
def NxO.okB:NxO→Bool
 | .fine _ _ _ _ []=>true
 |_=>false
theorem NxO.ok_of {o:NxO} (h:o.okB=true): ∃kind q n line,o= .fine kind q n line []:=by
 cases o with
 |bad a b=>cases h
 |fine k q n l cs=>
  cases cs with
  |nil=>exact⟨k,q,n,l,rfl⟩
  |cons c cs=>cases h
def aE0 (place:Int):PM Tk:=if place<0∨(s.size:Int)<place∨(nxt s place.toNat 1).okB=false then outP else return bv6 s place
def isP (x:ByteArray):PM Bool:=do
 let t←ac8 s 1
 if aa2 t x then do
  let _←ad7
  return true
 else return false
def ap6 (x:ByteArray):PM Tk:=do
 let t←ac8 s 1
 if aa2 t x then ad7 else oddP
def bh6 (x:ByteArray):PM Bool:=do
 let t←ac8 s 1
 if ae7 t x then do
  let _←ad7
  return true
 else return false
def aT3 (x:ByteArray):PM Unit:=do
 let b←bh6 s x
 if b then return () else oddP
def am4 (flags:Int) (t:Tk):Bool:=decide (t.kind=1) && !aa1 t.text module && (!hasF flags 4||decide (t.text≠⟨#[97,119,97,105,116]⟩))
def ak8:PM Nd:=do
 let t←ac8 s 1
 let p←getP
 if am4 module p.flags t then do
  let u←ad7
  return ar1 1 u
 else oddP
def ac7 (kind:Int) (text:ByteArray) (from':Int) (kids:List Nd):PM Nd:=fun p=> .ok (.mk kind text kids from' p.at') p
def am2 {α:Type} (on off:Int) (x:PM α):PM α:=fun p=>PM.bind x (fun a q=> .ok a { q with flags:=p.flags }) { p with flags:=setF p.flags on off }
def ah2 {α:Type} (place:Int) (x:PM α):PM α:=fun p=>
 if 4000≤p.nest then .bad 1002 place
 else PM.bind x (fun a q=>if q.nest≤0 then .out else .ok a { q with nest:=q.nest - 1 }) { p with nest:=p.nest+1 }
def ao3:PM Unit:=do
 let t←ac8 s 1
 if aa2 t ⟨#[59]⟩ then do
  let _←ad7
  return ()
 else if !aa2 t ⟨#[125]⟩ && decide (t.kind≠0) && !t.line then oddP else return ()
def ar3 {α:Type} (closing:ByteArray) (goal:Int) (one:α→PM α):Nat→α→Bool→PM (α × Bool)
 |0,_,_=>outP
 |f+1,a,comma=>do
  let t←ac8 s goal
  if aa2 t closing then do
   let _←ad7
   return (a,comma)
  else do
   let b←one a
   let u←ac8 s 1
   if aa2 u closing then do
    let _←ad7
    return (b,false)
   else do
    let _←ap6 s ⟨#[44]⟩
    ar3 closing goal one f b true
def as1 (n:Nd):PM Unit:=if af1 n then return () else bC7 1003 n.from'
def bH7 (n:Nd):PM Nd:=if af1 n && decide (aa4 n≤4194304) then return n else outP
def bb2 (n:Nd):PM Nd:=do
 let p←getP
 if !p.commas.isEmpty && (decide (n.kind=11)||decide (n.kind=12)) then outP else bH7 n
def ap8 (n:Nd):PM Unit:=if n.kind=18 then do
  let t←ac8 s 1
  if aa2 t ⟨#[44]⟩ then do
   let q←getP
   if 4194304<q.commas.length∨okI n.from'=false∨okI n.till=false then outP else modP fun q=> { q with commas:=(n.from',n.till)::q.commas }
  else return ()
 else return ()
def al6:PM (Tk × Int):=do
 let t←ac8 s 1
 let p←getP
 if decide (t.kind≠5) && !ae7 t ⟨#[105,110,115,116,97,110,99,101,111,102]⟩ && (!ae7 t ⟨#[105,110]⟩|| !hasF p.flags 1) then return (t,0)
 else return (t,ad3 t.text)
def ao2 (private':Bool):PM Nd:=do
 let t←ac8 s 1
 if t.kind=1 then do
  let u←ad7
  return ar1 1 u
 else if t.kind≠2∨private'=false then oddP
 else do
  let u←ad7
  return ar1 2 u
end
end
section
structure Mb where
 from':Int
 static:Bool
 kind:ByteArray
 key:Nd
 block:Bool
def Mb.text (m:Mb):ByteArray:=if m.static=false then m.kind else if m.kind=⟨#[]⟩ then ⟨#[115,116,97,116,105,99]⟩ else ⟨#[115,116,97,116,105,99,32]⟩++m.kind
def endB (e:Nat) (t:Tk):Bool:=if e=0 then decide (t.kind=0) else if e=1 then aa2 t ⟨#[125]⟩ else aa2 t ⟨#[125]⟩||ae7 t ⟨#[99,97,115,101]⟩||ae7 t ⟨#[100,101,102,97,117,108,116]⟩
inductive Fn where
 |expression|inner|innerAssign|assign|yield|cond|unary|args|spread|index|array|function|binding|arrayPattern|objectPattern|object|prop|element2
 |alone|block|head|element1|takeText|fromText|program
 |arrowOf (t:Tk)|body (text:ByteArray) (from':Int) (params:Nd)|assigned (n:Nd)
 |param (n:Nd) (last:Bool)|plain (n:Nd)|element (of:Int) (k:Nd) (last:Bool)|params (args:Nd)
 |binary (least:Int) (nullish:Bool)|operand (least:Int)|arguments (from':Int)
 |link (n:Nd) (calls templates:Bool)|optional (n:Nd)|chain (n:Nd)|leftHand|base (t:Tk) (calls:Bool)|new (from':Int)
 |template (tagged:Bool)|primary (t:Tk)|named (t:Tk)|paren (t:Tk)
 |takeKey (cls:Bool)|members (cls:Bool)|method (m:Mb)|callable (text:ByteArray) (from':Int) (id:Nd) (of:ByteArray)|formals (of:ByteArray)|defaulted (n:Nd)
 |funcs (must:Bool)|cls (must:Bool)
 |statements (dir top:Bool) (e:Nat)|statement (t:Tk) (list:Bool)|simple (t:Tk)|declaration (must:Bool)|declared (t:Tk) (first:Option Nd)
 |branch (t:Tk)|returned (t:Tk)|jump (t:Tk)|tried (t:Tk)|switched (t:Tk)|loop (t:Tk)|through (t:Tk) (text:ByteArray) (first:Nd)|counted (t:Tk) (first:Nd)
 |modular (t:Tk) (top:Bool)|imported (t:Tk)|outer|specs (imports:Bool)|exported (t:Tk)|defaultOf (t:Tk)
 |markup (from':Int)|attr (t:Tk)|children (of:ByteArray)|closing (of:ByteArray) (from':Int)|jname (points:Bool)
@[reducible] def Fn.Out:Fn→Type
 | .param _ _=>Unit
 | .plain _=>Unit
 | .element _ _ _=>Unit
 | .closing _ _=>Unit
 | .link _ _ _=>Nd × Bool
 | .members _=>Mb
 | .statements _ _ _=>List Nd
 |_=>Nd
section
variable (s:ByteArray) (module:Bool) (f:Nat) (R:(x:Fn)→PM x.Out)
def ah3:PM Nd:=do
 let n←R .assign
 let t←ac8 s 1
 if aa2 t ⟨#[44]⟩ then seqL f [n] n.from' else return n
where
 seqL:Nat→List Nd→Int→PM Nd
 |0,_,_=>outP
 |g+1,kids,from'=>do
  let b←isP s ⟨#[44]⟩
  if b then do
   let k←R .assign
   seqL g (kids++ [k]) from'
  else ac7 32 ⟨#[]⟩ from' kids
def al0:PM Nd:=do
 let t←ac8 s 2
 ah2 t.from' (do
  let p←getP
  if hasF p.flags 2 && ae7 t ⟨#[121,105,101,108,100]⟩ then R .yield
  else do
   let one←single t
   if one then R (.arrowOf t)
   else do
    modP fun q=> { q with arrow:=t.from' }
    let n←R .cond
    R (.assigned n))
where
 single (t:Tk):PM Bool:=do
  let p←getP
  let u←(if ae7 t ⟨#[97,115,121,110,99]⟩ then do
    let next←aE0 s t.till
    if !next.line && am4 module p.flags next then return next else return t
   else return t)
  let next←aE0 s u.till
  if !am4 module p.flags u|| !aa2 next ⟨#[61,62]⟩||next.line then return false
  else do
   as1 (ar1 1 u)
   return true
def br6 (t:Tk):PM Nd:=do
 let _←ad7
 let id←ac8 s 1
 if aa2 id ⟨#[61,62]⟩ then do
  let ps←ac7 21 ⟨#[]⟩ t.from' [ar1 1 t]
  R (.body ⟨#[]⟩ t.from' ps)
 else do
  let _←ad7
  let ps←ac7 21 ⟨#[]⟩ id.from' [ar1 1 id]
  R (.body ⟨#[97,115,121,110,99]⟩ t.from' ps)
def bL6 (text:ByteArray) (from':Int) (params:Nd):PM Nd:=do
 let _←ap6 s ⟨#[61,62]⟩
 let n←am2 (if text=⟨#[97,115,121,110,99]⟩ then 4 else 0) 2 (do
  let t←ac8 s 2
  if aa2 t ⟨#[123]⟩ then R .function else R .assign)
 ac7 22 text from' [params,n]
def bi2 (n:Nd):PM Nd:=
 if n.kind=22 then return n
 else do
  let t←ac8 s 1
  if an3 t then do
   let m←(if t.text=⟨#[61]⟩ then bb2 n else do
    as1 n
    return n)
   let _←ad7
   let right←R .assign
   ac7 30 t.text m.from' [m,right]
  else return n
def aP7 (n:Nd) (_:Bool):PM Unit:=if okI n.from' && ((decide (n.kind=1) && af1 n)||decide (n.kind=0)) then return () else outP
def bK0 (_:Nd):PM Unit:=outP
def bs4 (_:Int) (_:Nd) (_:Bool):PM Unit:=outP
def bF1 (args:Nd):PM Nd:=
 if args.kids.all (fun k=>okI k.from' && decide (k.kind≠18) && decide (k.kind≠30)) && okI args.till && decide (args.kids.length≤16777216) then do
  askL args.kids
  let ks←mapL args.kids
  return .mk 21 ⟨#[]⟩ ks args.from' args.till
 else outP
where
 askL:List Nd→PM Unit
 | []=>return ()
 |k::ks=>do
  R (.param k ks.isEmpty)
  askL ks
 mapL:List Nd→PM (List Nd)
 | []=>return []
 |k::ks=>do
  let y←bb2 k
  let ys←mapL ks
  return y::ys
def bj3:PM Nd:=do
 let n←R (.binary 1 false)
 if n.kind=22 then return n
 else do
  let b←isP s ⟨#[63]⟩
  if b then do
   let then'←R .innerAssign
   let _←ap6 s ⟨#[58]⟩
   let other←R .assign
   ac7 31 ⟨#[]⟩ n.from' [n,then',other]
  else return n
def at4 (least:Int) (nullish:Bool):PM Nd:=do
 let n←R (.operand least)
 if n.kind=22 then return n else opsL f n
where
 opsL:Nat→Nd→PM Nd
 |0,_=>outP
 |g+1,n=>do
  let r←al6 s
  if r.2<least∨r.2=0 then return n
  else if (decide (r.1.text=⟨#[63,63]⟩) && aB5 n)||((decide (r.1.text=⟨#[124,124]⟩)||decide (r.1.text=⟨#[38,38]⟩)) && nullish)||(decide (r.1.text=⟨#[42,42]⟩) && (decide (n.kind=27)||decide (n.kind=34))) then oddP
  else do
   let _←ad7
   let right←(if r.1.text=⟨#[42,42]⟩ then do
    let u←ac8 s 2
    ah2 u.from' (R (.binary r.2 false))
   else R (.binary (r.2+1) (decide (r.1.text=⟨#[63,63]⟩))))
   let m←ac7 29 r.1.text n.from' [n,right]
   opsL g m
def aw4 (least:Int):PM Nd:=do
 let t←ac8 s 2
 if t.kind≠2 then R .unary
 else do
  let _←ad7
  let next←ac8 s 1
  let p←getP
  if decide (8<least)|| !hasF p.flags 1|| !ae7 next ⟨#[105,110]⟩ then bC7 1001 t.from'
  else return ar1 2 t
def aT8:PM Nd:=do
 let _←ad7
 let u←ac8 s 2
 ah2 u.from' (R .unary)
def bK8:PM Nd:=do
 let t←ac8 s 2
 if ae7 t ⟨#[100,101,108,101,116,101]⟩||ae7 t ⟨#[118,111,105,100]⟩||ae7 t ⟨#[116,121,112,101,111,102]⟩||aa2 t ⟨#[43]⟩||aa2 t ⟨#[45]⟩||aa2 t ⟨#[126]⟩||aa2 t ⟨#[33]⟩ then do
  let n←aT8 s R
  ac7 27 t.text t.from' [n]
 else do
  let p←getP
  if ae7 t ⟨#[97,119,97,105,116]⟩ && hasF p.flags 4 then do
   let n←aT8 s R
   ac7 34 ⟨#[]⟩ t.from' [n]
  else if aa2 t ⟨#[43,43]⟩||aa2 t ⟨#[45,45]⟩ then do
   let n←aT8 s R
   as1 n
   ac7 28 (t.text++⟨#[120]⟩) t.from' [n]
  else do
   let n←R .leftHand
   if n.kind=22 then return n
   else do
    let u←ac8 s 1
    if (aa2 u ⟨#[43,43]⟩||aa2 u ⟨#[45,45]⟩) && !u.line then do
     as1 n
     let _←ad7
     ac7 28 (⟨#[120]⟩++u.text) n.from' [n]
    else return n
def bi1:PM Nd:=do
 let t←ap6 s ⟨#[40]⟩
 R (.arguments t.from')
def bc7 (from':Int):PM Nd:=do
 let r←am2 1 0 (ar3 s ⟨#[41]⟩ 2 (fun kids=>do
  let k←R .spread
  ap8 s k
  return kids++ [k]) f [] false)
 ac7 36 ⟨#[]⟩ from' r.1
def aG0:PM Nd:=do
 let t←ac8 s 2
 if aa2 t ⟨#[46,46,46]⟩ then do
  let _←ad7
  let n←R .assign
  ac7 18 ⟨#[]⟩ t.from' [n]
 else R .assign
def aO2:PM Nd:=do
 let n←R .inner
 let _←ap6 s ⟨#[93]⟩
 return n
def bm1 (n:Nd) (calls templates:Bool):PM (Nd × Bool):=do
 let t←ac8 s 1
 if aa2 t ⟨#[46]⟩ then do
  let _←ad7
  let k←ao2 s (decide (n.kind≠6)||decide (n.text≠⟨#[115,117,112,101,114]⟩))
  let m←ac7 38 ⟨#[]⟩ n.from' [n,k]
  return (m,true)
 else if aa2 t ⟨#[91]⟩ then do
  let _←ad7
  let k←R .index
  let m←ac7 39 ⟨#[]⟩ n.from' [n,k]
  return (m,true)
 else if aa2 t ⟨#[40]⟩ && calls then do
  let k←R .args
  let m←ac7 35 ⟨#[]⟩ n.from' [n,k]
  return (m,true)
 else if t.kind=7∨t.kind=8 then (if templates then do
   let k←R (.template true)
   let m←ac7 10 ⟨#[]⟩ n.from' [n,k]
   return (m,true)
  else oddP)
 else return (n,false)
def ar5 (n:Nd):PM Nd:=do
 let t←ac8 s 1
 if aa2 t ⟨#[91]⟩ then do
  let _←ad7
  let k←R .index
  ac7 39 ⟨#[63,46]⟩ n.from' [n,k]
 else if aa2 t ⟨#[40]⟩ then do
  let k←R .args
  ac7 35 ⟨#[63,46]⟩ n.from' [n,k]
 else do
  let k←ao2 s true
  ac7 38 ⟨#[63,46]⟩ n.from' [n,k]
def bH5 (n:Nd):PM Nd:=chainL f n
where
 chainL:Nat→Nd→PM Nd
 |0,_=>outP
 |g+1,n=>do
  let b←isP s ⟨#[63,46]⟩
  if b then do
   let m←R (.optional n)
   chainL g m
  else do
   let r←R (.link n true false)
   if r.2 then chainL g r.1 else ac7 40 ⟨#[]⟩ r.1.from' [r.1]
def bB3 (n:Nd):Bool:=decide (n.kind=37) && decide (((n.kids.drop 1).headD .zero).kind=0)
def bl9:PM Nd:=do
 let t←ac8 s 2
 let p←getP
 let may:=decide (t.from'=p.arrow)
 let n←R (.base t true)
 if n.kind=22 then return n
 else if may && decide (n.kind=1) && decide (n.text=⟨#[97,115,121,110,99]⟩) then (if okI n.from' && okI n.till && decide (t.text.size≤16777216) then (if n.till - n.from'=t.text.size then do
   let next←ac8 s 1
   if aa2 next ⟨#[40]⟩ && !next.line then do
    let args←R .args
    let next←ac8 s 1
    if aa2 next ⟨#[61,62]⟩ && !next.line then do
     let ps←R (.params args)
     R (.body ⟨#[97,115,121,110,99]⟩ n.from' ps)
    else do
     let m←ac7 35 ⟨#[]⟩ n.from' [n,args]
     linkL f m
   else linkL f n
  else linkL f n) else outP)
 else linkL f n
where
 linkL:Nat→Nd→PM Nd
 |0,_=>outP
 |g+1,n=>do
  let next←ac8 s 1
  if aa2 next ⟨#[63,46]⟩ then (if n.kind=37∧n.kids.length<2 then outP else if bB3 n then oddP else R (.chain n))
  else do
   let r←R (.link n true true)
   if r.2 then linkL g r.1 else return r.1
def bL5 (t:Tk) (calls:Bool):PM Nd:=
 if ae7 t ⟨#[110,101,119]⟩ then do
  let _←ad7
  R (.new t.from')
 else if ae7 t ⟨#[115,117,112,101,114]⟩ then do
  let u←ad7
  let next←ac8 s 1
  if !aa2 next ⟨#[46]⟩ && !aa2 next ⟨#[91]⟩ && (!calls|| !aa2 next ⟨#[40]⟩) then oddP
  else do
   let r←R (.link (ar1 6 u) calls false)
   return r.1
 else if ae7 t ⟨#[105,109,112,111,114,116]⟩ then do
  let _←ad7
  let b←(if module then isP s ⟨#[46]⟩ else return false)
  if b then do
   aT3 s ⟨#[109,101,116,97]⟩
   ac7 7 ⟨#[105,109,112,111,114,116,46,109,101,116,97]⟩ t.from' []
  else if !calls then do
   let _←ac8 s 1
   oddP
  else do
   let _←ap6 s ⟨#[40]⟩
   let n←R .innerAssign
   let _←isP s ⟨#[44]⟩
   let _←ap6 s ⟨#[41]⟩
   ac7 41 ⟨#[]⟩ t.from' [n]
 else R (.primary t)
def newS (from':Int):PM Nd:=do
 let b←isP s ⟨#[46]⟩
 if b then do
  aT3 s ⟨#[116,97,114,103,101,116]⟩
  ac7 7 ⟨#[110,101,119,46,116,97,114,103,101,116]⟩ from' []
 else do
  let t←ac8 s 2
  let n←ah2 t.from' (do
   let n←R (.base t false)
   if n.kind=37∧n.kids.length<2 then outP else moreL f n (!bB3 n))
  let next←ac8 s 1
  if aa2 next ⟨#[40]⟩ then do
   let a←R .args
   ac7 37 ⟨#[]⟩ from' [n,a]
  else ac7 37 ⟨#[]⟩ from' [n,.zero]
where
 moreL:Nat→Nd→Bool→PM Nd
 |0,_,_=>outP
 |g+1,n,more=>if more then do
   let r←R (.link n false true)
   moreL g r.1 r.2
  else return n
def aw8 (t:Tk):PM Nd:=
 if t.kind=3∨t.kind=4 then do
  let u←ad7
  return ar1 t.kind u
 else if t.kind=6 then do
  let u←ad7
  return ar1 5 u
 else if t.kind=7∨t.kind=8 then R (.template false)
 else if t.kind=1 then R (.named t)
 else if aa2 t ⟨#[91]⟩ then R .array
 else if aa2 t ⟨#[123]⟩ then R .object
 else if aa2 t ⟨#[40]⟩ then R (.paren t)
 else if aa2 t ⟨#[60]⟩ then R .element1
 else oddP
def aP3 (t:Tk):PM Nd:=
 if ao0 t.text [⟨#[116,104,105,115]⟩,⟨#[110,117,108,108]⟩,⟨#[116,114,117,101]⟩,⟨#[102,97,108,115,101]⟩] then do
  let u←ad7
  return ar1 6 u
 else if t.text=⟨#[102,117,110,99,116,105,111,110]⟩ then R (.funcs false)
 else if t.text=⟨#[99,108,97,115,115]⟩ then R (.cls false)
 else if t.text=⟨#[97,115,121,110,99]⟩ then do
  let next←aE0 s t.till
  if ae7 next ⟨#[102,117,110,99,116,105,111,110]⟩ && !next.line then R (.funcs false) else ak8 s module
 else ak8 s module
def bJ7 (t:Tk):PM Nd:=do
 let p←getP
 let _←ad7
 let args←R (.arguments t.from')
 let arrow←(if t.from'=p.arrow then do
  let next←ac8 s 1
  return (aa2 next ⟨#[61,62]⟩ && !next.line)
 else return false)
 if arrow then do
  let ps←R (.params args)
  R (.body ⟨#[]⟩ t.from' ps)
 else outP
def aO3:PM Nd:=am2 1 0 (R .expression)
def aj9:PM Nd:=am2 1 0 (R .assign)
def ar0:PM Nd:=am2 1 0 (do
 let _←ac8 s 2
 let o←ap6 s ⟨#[123]⟩
 let kids←R (.statements true false 1)
 let _←ad7
 ac7 58 ⟨#[]⟩ o.from' kids)
def aw9:PM Nd:=do
 let kids←R (.statements true module 0)
 let _←ad7
 return .mk 86 ⟨#[]⟩ kids 0 s.size
def ag3 (dir top:Bool) (e:Nat):PM (List Nd):=partL f dir []
where
 partL:Nat→Bool→List Nd→PM (List Nd)
 |0,_,_=>outP
 |g+1,dir,kids=>do
  let t←ac8 s 2
  if endB e t then return kids
  else do
   let n←ah2 t.from' (do
    let m←R (.modular t top)
    if m.kind=0 then R (.statement t true) else return m)
   if dir && decide (n.kind=57) then do
    let k←ofO n.kids.head?
    if k.kind=4 then outP else partL g false (kids++ [n])
   else partL g false (kids++ [n])
def aM7:PM Nd:=do
 let o←ap6 s ⟨#[123]⟩
 let kids←R (.statements false false 1)
 let _←ad7
 ac7 58 ⟨#[]⟩ o.from' kids
def kwW:List ByteArray:= [⟨#[97,115,121,110,99]⟩,⟨#[118,97,114]⟩,⟨#[108,101,116]⟩,⟨#[99,111,110,115,116]⟩,⟨#[102,117,110,99,116,105,111,110]⟩,⟨#[99,108,97,115,115]⟩,⟨#[105,102]⟩,⟨#[102,111,114]⟩,⟨#[119,104,105,108,101]⟩,⟨#[100,111]⟩,⟨#[114,101,116,117,114,110]⟩,⟨#[98,114,101,97,107]⟩,⟨#[99,111,110,116,105,110,117,101]⟩,⟨#[116,104,114,111,119]⟩,⟨#[116,114,121]⟩,⟨#[115,119,105,116,99,104]⟩,⟨#[100,101,98,117,103,103,101,114]⟩]
def ao5 (t:Tk) (list:Bool):PM Nd:=
 if !list then outP
 else if aa2 t ⟨#[123]⟩ then R .block
 else if aa2 t ⟨#[59]⟩ then do
  let _←ad7
  ac7 59 ⟨#[]⟩ t.from' []
 else if t.kind≠1 then R (.simple t)
 else if ao0 t.text kwW then outP
 else do
  let next←aE0 s t.till
  let p←getP
  if am4 module p.flags t && aa2 next ⟨#[58]⟩ then do
   let _←ad7
   let _←ap6 s ⟨#[58]⟩
   let n←R .alone
   ac7 76 t.text t.from' [n]
  else R (.simple t)
def aF9 (t:Tk):PM Nd:=do
 let n←R .expression
 ao3 s
 ac7 57 ⟨#[]⟩ t.from' [n]
def aw2 (_:Tk) (top:Bool):PM Nd:=if top then outP else return .zero
def bM2:(x:Fn)→PM x.Out
 | .expression=>ah3 s f R
 | .inner=>aO3 R
 | .innerAssign=>aj9 R
 | .assign=>al0 s module R
 | .yield=>outP
 | .cond=>bj3 s R
 | .unary=>bK8 s R
 | .args=>bi1 s R
 | .spread=>aG0 s R
 | .index=>aO2 s R
 | .array=>outP
 | .function=>outP
 | .binding=>outP
 | .arrayPattern=>outP
 | .objectPattern=>outP
 | .object=>outP
 | .prop=>outP
 | .element2=>outP
 | .alone=>outP
 | .block=>aM7 s R
 | .head=>outP
 | .element1=>outP
 | .takeText=>outP
 | .fromText=>outP
 | .program=>aw9 s module R
 | .arrowOf t=>br6 s R t
 | .body text from' params=>bL6 s R text from' params
 | .assigned n=>bi2 s R n
 | .param n last=>aP7 n last
 | .plain n=>bK0 n
 | .element of k last=>bs4 of k last
 | .params args=>bF1 R args
 | .binary least nullish=>at4 s f R least nullish
 | .operand least=>aw4 s R least
 | .arguments from'=>bc7 s f R from'
 | .link n calls templates=>bm1 s R n calls templates
 | .optional n=>ar5 s R n
 | .chain n=>bH5 s f R n
 | .leftHand=>bl9 s f R
 | .base t calls=>bL5 s module R t calls
 | .new from'=>newS s f R from'
 | .template _=>outP
 | .primary t=>aw8 R t
 | .named t=>aP3 s module R t
 | .paren t=>bJ7 s R t
 | .takeKey _=>outP
 | .members _=>outP
 | .method _=>outP
 | .callable _ _ _ _=>outP
 | .formals _=>outP
 | .defaulted _=>outP
 | .funcs _=>outP
 | .cls _=>outP
 | .statements dir top e=>ag3 s f R dir top e
 | .statement t list=>ao5 s module R t list
 | .simple t=>aF9 s R t
 | .declaration _=>outP
 | .declared _ _=>outP
 | .branch _=>outP
 | .returned _=>outP
 | .jump _=>outP
 | .tried _=>outP
 | .switched _=>outP
 | .loop _=>outP
 | .through _ _ _=>outP
 | .counted _ _=>outP
 | .modular t top=>aw2 t top
 | .imported _=>outP
 | .outer=>outP
 | .specs _=>outP
 | .exported _=>outP
 | .defaultOf _=>outP
 | .markup _=>outP
 | .attr _=>outP
 | .children _=>outP
 | .closing _ _=>outP
 | .jname _=>outP
end
def ps0 (module:Bool):Ps:=⟨0,Tk.zero,[],0,[],if module then 5 else 1,0,-1,[]⟩
end
section
section
variable (s:ByteArray) (module:Bool) (f:Nat) (R:(x:Fn)→PM x.Out)
def an1 (from':Int):PM Nd:=do
 let r←am2 1 0 (ar3 s ⟨#[41]⟩ 2 (fun kids=>if 4194304<kids.length then outP else do
  let k←R .spread
  ap8 s k
  return kids++ [k]) f [] false)
 ac7 36 ⟨#[]⟩ from' r.1
def am1 (n:Nd):PM Bool:=if 4194304<n.kids.length then outP else match n.kids.getLast? with
 |none=>outP
 |some m=>do
  let t←aE0 s m.till
  return aa2 t ⟨#[44]⟩
def aP8 (args:Nd) (last:Nd):Nd:=match args.kids with
 | [k]=> .mk 26 ⟨#[]⟩ [k] args.from' args.till
 |ks=> .mk 26 ⟨#[]⟩ [.mk 32 ⟨#[]⟩ ks (ks.headD .zero).from' last.till] args.from' args.till
def bA6 (args:Nd):PM Nd:=if (args.kids.isEmpty||args.kids.any (fun k=>decide (k.kind=18)))=true then outP else do
 let b←am1 s args
 if b then outP else return aP8 args (args.kids.getLastD .zero)
def aP9 (t:Tk):PM Nd:=do
 let p←getP
 let _←ad7
 let args←R (.arguments t.from')
 let arrow←(if t.from'=p.arrow then do
  let next←ac8 s 1
  return (aa2 next ⟨#[61,62]⟩ && !next.line)
 else return false)
 if arrow then do
  let ps←R (.params args)
  R (.body ⟨#[]⟩ t.from' ps)
 else bA6 s args
def az5:Nat→List Nd→PM (List Nd)
 |0,_=>outP
 |g+1,kids=>if 4194304<kids.length then outP else do
  let t←ac8 s 2
  if aa2 t ⟨#[93]⟩ then return kids
  else do
   let b←isP s ⟨#[44]⟩
   if b then az5 g (kids++ [.zero])
   else do
    let k←R .spread
    ap8 s k
    let u←ac8 s 1
    if aa2 u ⟨#[93]⟩ then az5 g (kids++ [k])
    else do
     let _←ap6 s ⟨#[44]⟩
     az5 g (kids++ [k])
def aY9:PM Nd:=do
 let t←ad7
 let kids←am2 1 0 (az5 s R f [])
 let _←ad7
 ac7 11 ⟨#[]⟩ t.from' kids
end
def ax7 (tagged:Bool):PM Nd:=do
 let p←getP
 if (tagged=false∧(p.tok.text.extract 1 (p.tok.text.size - 1)).data.toList.contains 92=true)∨p.tok.kind=8∨p.tok.kind=10∨p.tok.text.size<2∨16777216<p.tok.text.size then outP
 else do
  let _←ad7
  ac7 8 ⟨#[]⟩ p.tok.from' [.mk 9 (p.tok.text.extract 1 (p.tok.text.size - 1)) [] p.tok.from' p.tok.till]
def av7 (s:ByteArray) (f:Nat) (of:ByteArray):PM Nd:=if of≠⟨#[]⟩ then outP else do
 let o←ap6 s ⟨#[40]⟩
 let _←ar3 s ⟨#[41]⟩ 1 (fun _:Unit=>outP) f () false
 ac7 21 ⟨#[]⟩ o.from' []
def aj7 (R:(x:Fn)→PM x.Out) (text:ByteArray) (from':Int) (id:Nd) (of:ByteArray):PM Nd:=
 if of≠⟨#[]⟩∨id.kids≠ [] then outP
 else if text=⟨#[42]⟩ then am2 3 6 (do
  let params←R (.formals ⟨#[]⟩)
  let body←R .function
  ac7 19 text from' [id,params,body])
 else if text=⟨#[]⟩ then am2 1 6 (do
  let params←R (.formals ⟨#[]⟩)
  let body←R .function
  ac7 19 text from' [id,params,body])
 else outP
def bj5:List Nd→Bool
 | [k]=>decide (k.kind=45)
 |_=>false
mutual
def aw3:Nd→Bool
 | .mk k _ ks _ _=> !(decide (k=13) && bj5 ks) && aE4 ks
def aE4:List Nd→Bool
 | []=>true
 |k::ks=>aw3 k && aE4 ks
end
def aQ5 (x:PM Nd):PM Nd:=do
 let n←x
 if aw3 n=false then outP else if 4194304<aa4 n then outP else if 8000<af3 n then bC7 1002 0 else return n
def aN8 (s:ByteArray) (R:(x:Fn)→PM x.Out):PM Nd:=do
 let n←R .expression
 let t←ac8 s 1
 if t.kind=0 then return n else oddP
end
section
section
variable (s:ByteArray) (module:Bool) (f:Nat) (R:(x:Fn)→PM x.Out)
def ax6:PM Nd:=do
 let t←ac8 s 1
 if t.kind=1 then do
  let _←ad7
  return ar1 1 t
 else if t.kind=4 then do
  let _←ad7
  return ar1 4 t
 else outP
def ag2 (x:ByteArray):PM Unit:=do
 let t←ac8 s 1
 if ae7 t x then outP else return ()
def aO7 (k:PM Mb):List ByteArray→PM Mb
 | []=>k
 |x::l=>do
  ag2 s x
  aO7 k l
def be0 (kids:List Nd):PM (List Nd):=if 4194304<kids.length then outP else do
 let t←ac8 s 1
 if aa2 t ⟨#[46,46,46]⟩ then do
  let k←R .spread
  ap8 s k
  return kids++ [k]
 else do
  let k←R .prop
  return kids++ [k]
def aE6:PM Nd:=do
 let t←ad7
 let r←am2 1 0 (ar3 s ⟨#[125]⟩ 1 (be0 s R) f [] false)
 ac7 12 ⟨#[]⟩ t.from' r.1
end
end
section
section
variable (s:ByteArray) (f:Nat) (R:(x:Fn)→PM x.Out)
def aR1:PM Nd:=do
 let t←ac8 s 2
 if ae7 t ⟨#[100,101,108,101,116,101]⟩||ae7 t ⟨#[118,111,105,100]⟩||ae7 t ⟨#[116,121,112,101,111,102]⟩||aa2 t ⟨#[43]⟩||aa2 t ⟨#[45]⟩||aa2 t ⟨#[126]⟩||aa2 t ⟨#[33]⟩ then outP
 else do
  let p←getP
  if ae7 t ⟨#[97,119,97,105,116]⟩ && hasF p.flags 4 then outP
  else if aa2 t ⟨#[43,43]⟩||aa2 t ⟨#[45,45]⟩ then outP
  else do
   let n←R .leftHand
   if n.kind=22 then return n
   else do
    let u←ac8 s 1
    if aa2 u ⟨#[43,43]⟩||aa2 u ⟨#[45,45]⟩ then outP else return n
def bi4 (t:Tk) (_:Bool):PM Nd:=
 if ae7 t ⟨#[110,101,119]⟩ then outP
 else if ae7 t ⟨#[115,117,112,101,114]⟩ then outP
 else if ae7 t ⟨#[105,109,112,111,114,116]⟩ then outP
 else R (.primary t)
def al3:PM Nd:=do
 let t←ac8 s 2
 let p←getP
 let may:=decide (t.from'=p.arrow)
 let n←R (.base t true)
 if n.kind=22 then return n
 else if may && decide (n.kind=1) && decide (n.text=⟨#[97,115,121,110,99]⟩) then outP
 else linkL f n
where
 linkL:Nat→Nd→PM Nd
 |0,_=>outP
 |g+1,n=>do
  let next←ac8 s 1
  if aa2 next ⟨#[63,46]⟩ then outP
  else do
   let r←R (.link n true true)
   if r.2 then linkL g r.1 else return r.1
end
end
section
section
variable (s:ByteArray) (module:Bool) (f:Nat) (R:(x:Fn)→PM x.Out)
def ai3 (cls:Bool) (from':Int):PM Mb:=do
 ag2 s ⟨#[97,115,121,110,99]⟩
 let b←isP s ⟨#[42]⟩
 if b then outP else do
  let k←R (.takeKey cls)
  return ⟨from',false,⟨#[]⟩,k,false⟩
def ag1 (cls:Bool):PM Mb:=do
 let t←ac8 s 1
 if cls then do
  ag2 s ⟨#[115,116,97,116,105,99]⟩
  aO7 s (ai3 s R cls t.from') [⟨#[103,101,116]⟩,⟨#[115,101,116]⟩]
 else aO7 s (ai3 s R cls t.from') [⟨#[103,101,116]⟩,⟨#[115,101,116]⟩]
def aQ2:PM Nd:=do
 let m←R (.members false)
 let t←ac8 s 1
 if aa2 t ⟨#[40]⟩ then R (.method m)
 else if m.kind≠⟨#[]⟩ then outP
 else if aa2 t ⟨#[58]⟩ then do
  let _←ad7
  let n←R .assign
  ac7 13 ⟨#[]⟩ m.from' [m.key,n]
 else outP
def aw1 (m:Mb):PM Nd:=if m.kind≠⟨#[]⟩∨m.static=true then outP else do
 let t←ac8 s 1
 let g←R (.callable ⟨#[]⟩ t.from' .zero ⟨#[]⟩)
 ac7 15 ⟨#[]⟩ m.from' [m.key,g]
def an5:PM Nd:=do
 let m←R (.members true)
 if m.block=true then outP
 else do
  let t←ac8 s 1
  if aa2 t ⟨#[40]⟩ then R (.method m) else outP
def clsL (from' of:Int):Nat→List Nd→PM Nd
 |0,_=>outP
 |g+1,kids=>if 4194304<kids.length then outP else do
  let b←isP s ⟨#[125]⟩
  if b then do
   let body←ac7 25 ⟨#[]⟩ of kids
   ac7 23 ⟨#[]⟩ from' [.zero,.zero,body]
  else do
   let c←isP s ⟨#[59]⟩
   if c then outP else do
    let k←R .element2
    clsL from' of g (kids++ [k])
def aC9 (must:Bool):PM Nd:=if must=true then outP else do
 let p←getP
 aT3 s ⟨#[99,108,97,115,115]⟩
 let t←ac8 s 1
 if aa2 t ⟨#[123]⟩=false then outP else do
  let b←bh6 s ⟨#[101,120,116,101,110,100,115]⟩
  if b then outP else do
   let o←ap6 s ⟨#[123]⟩
   clsL s R p.tok.from' o.from' f []
def ay3 (n:Nd):Option Nd:=if n.kind≠12 then none else match n.kids with
 | [.mk 13 t [k,v] f u]=>if t=⟨#[]⟩∧af1 v=true∧v.kind≠30∧aa4 n≤4194304 then some (.mk 43 ⟨#[]⟩ [.mk 44 ⟨#[]⟩ [k,v] f u] n.from' n.till) else none
 |_=>none
def ar6 (n:Nd):PM Nd:=do
 let p←getP
 if p.commas.isEmpty=false then outP else ofO (ay3 n)
def an2 (n:Nd):PM Nd:=
 if n.kind=22 then return n
 else do
  let t←ac8 s 1
  if an3 t then (if t.text≠⟨#[61]⟩ then outP else do
   let m←ar6 n
   let _←ad7
   let right←R .assign
   ac7 30 t.text m.from' [m,right])
  else return n
end
end
end Go.Proofs.YtnobjeelihkjmaaGreatDoor
