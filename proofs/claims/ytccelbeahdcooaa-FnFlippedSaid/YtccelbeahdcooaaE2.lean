/- The engine, part 2: the abstract interpreter of the model's code. -/
import Derived.Test.YtccelbeahdcooaaE1
namespace Go.Proofs.Ytccelbeahdcooaa.Eng
open Go

structure TD where
 size:Nat
 bytes:Nat
 agg:Bool
 desc:TypeDesc
 zero:List Value
 own:List TypeId

abbrev TT:=TypeId→Option TD

def Ty.dflt:(t:Ty)→t.den
 | .int _=>(0:Int)
 | .bool=>false
 | .str=>(⟨#[]⟩:ByteArray)
 | .sl e=>([]:List e.den)
 | .pair a b=>(a.dflt,b.dflt)

def tyFs (rec:TypeId→Option Ty):List Field→Option Ty
 | []=>none
 | [f]=>rec f.type
 | f::g::fs=>(rec f.type).bind fun a=>(tyFs rec (g::fs)).map fun b=>Ty.pair a b

def tyOf (tt:TT):Nat→TypeId→Option Ty
 | 0,_=>none
 | k+1,t =>
  match tt t with
  | none=>none
  | some d =>
   match d.desc with
   | .int ik=>some (.int ik)
   | .bool=>some .bool
   | .string=>some .str
   | .slice e=>(tyOf tt k e).map Ty.sl
   | .struct fs=>tyFs (tyOf tt k) fs.toList
   | _=>none

def nilV:Value:=.slice none 0 0

def Ty.toAVs (fr:Bool):(t:Ty)→t.den→List AV
 | .int k,x=>[.t true (.int k) x]
 | .bool,x=>[.t true .bool x]
 | .str,x=>[.t true .str x]
 | .sl e,x=>[.t fr (.sl e) x]
 | .pair a b,x=>a.toAVs fr x.1++b.toAVs fr x.2

def Ty.toNests (id row sz:Nat):(t:Ty)→Nat→t.den→List AV
 | .int k,_,x=>[.t true (.int k) x]
 | .bool,_,x=>[.t true .bool x]
 | .str,_,x=>[.t true .str x]
 | .sl e,off,x=>if e.flat then [.nest id row sz off] else [.t true (.sl e) x]
 | .pair a b,off,x=>a.toNests id row sz off x.1++b.toNests id row sz (off+a.cells) x.2

def Ty.ofAVs:(t:Ty)→List AV→Option (t.den×Bool×List AV)
 | .int k,.t _ (.int k') x::r=>if k'=k then some (x,true,r) else none
 | .bool,.t _ .bool x::r=>some (x,true,r)
 | .str,.t _ .str x::r=>some (x,true,r)
 | .sl e,.t fr (.sl e') x::r=>if h:e'=e then some (h ▸ x,fr,r) else none
 | .sl _,.raw (.slice _ 0 _)::r=>some ([],true,r)
 | .pair a b,l=>(a.ofAVs l).bind fun p=>(b.ofAVs p.2.2).map fun q=>((p.1,q.1),p.2.1&&q.2.1,q.2.2)
 | _,_=>none

def Ty.putOwn (H:List AObj):(t:Ty)→List TypeId→Nat→t.den→Nat→List AV→Option (t.den×List (Nat×Nat)×List Nat)
 | .int k,_,off,old,sub,vs=>if off<sub∨sub+vs.length≤off then some (old,[],[]) else
  match vs[off - sub]? with
  | some (.t _ (.int k') x)=>if k'=k then some (x,[],[]) else none
  | _=>none
 | .bool,_,off,old,sub,vs=>if off<sub∨sub+vs.length≤off then some (old,[],[]) else
  match vs[off - sub]? with
  | some (.t _ .bool x)=>some (x,[],[])
  | _=>none
 | .str,_,off,old,sub,vs=>if off<sub∨sub+vs.length≤off then some (old,[],[]) else
  match vs[off - sub]? with
  | some (.t _ .str x)=>some (x,[],[])
  | _=>none
 | .sl e,Es,off,old,sub,vs=>if off<sub∨sub+vs.length≤off then some (old,[],[]) else
  match vs[off - sub]? with
  | some (.raw (.slice none 0 0))=>some ([],[],[off])
  | some (.all k sz) =>
   match H[k]? with
   | some (.rows E' _ e' l)=>if h:e'=e∧e.flat=true∧sz=e.cells∧E'=Es.headD 0 then some (h.1 ▸ l,[(k,off)],[]) else none
   | _=>none
  | _=>none
 | .pair a b,Es,off,old,sub,vs=>(a.putOwn H (Es.take a.slices) off old.1 sub vs).bind fun p=>(b.putOwn H (Es.drop a.slices) (off+a.cells) old.2 sub vs).map fun q=>((p.1,q.1),p.2.1++q.2.1,p.2.2++q.2.2)

def AV.ofValue:Value→AV
 | .int k n=>.t true (.int k) n
 | .bool b=>.t true .bool b
 | .string s=>.t true .str s
 | v=>.raw v

def AV.toValue:AV→Option Value
 | .t _ (.int k) n=>some (.int k n)
 | .t _ .bool b=>some (.bool b)
 | .t _ .str s=>some (.string s)
 | .raw v=>some v
 | _=>none

def AV.asBool:AV→Option Bool
 | .t _ .bool b=>some b
 | .raw (.bool b)=>some b
 | _=>none

def AV.asInt:AV→Option Int
 | .t _ (.int _) n=>some n
 | _=>none

def AV.cells:AV→List AV
 | .agg cs=>cs
 | a=>[a]

def AV.isCell:AV→Bool
 | .t ..=>true
 | .raw v=>v.oneCell'
 | .all ..=>true
 | .arr ..=>true
 | .pre ..=>true
 | .ptr ..=>true
 | .rop ..=>true
 | .fn ..=>true
 | _=>false

structure St where
 slots:List AV
 heap:List AObj
 base:Nat
 killed:List Nat

def St.ev (st:St):Operand→AV
 | .tmp t=>st.slots.getD t .junk
 | .const v=>.ofValue v
 | .global g=>.raw (.pointer (some ⟨g,0,none⟩))
 | .func f=>.fn f []

def St.put (st:St) (d:Option Tmp) (v:AV):St :=
 match d with
 | some d=>{ st with slots:=st.slots.set d v }
 | none=>st

def St.known (st:St) (c:Operand) (b:Bool):St :=
 match c with
 | .tmp t=>st.put (some t) (.t true .bool b)
 | _=>st

def St.new (st:St) (o:AObj):St:={ st with heap:=st.heap++[o] }

def AObj.kill (K:Nat→Bool):AObj→AObj
 | .box cs=>.box (cs.map (AV.kill1 K))
 | o=>o
def St.kill (st:St) (ks:List Nat):St :=
 { slots:=st.slots.map (AV.kill ks.contains),heap:=st.heap.map (AObj.kill ks.contains),base:=st.base,killed:=(ks.filter fun i=>decide (i<st.base)&&!st.killed.contains i)++st.killed }

def view1 (H:List AObj):AV→AV
 | .all id sz =>
  match H[id]? with
  | some (.rows _ fr e l)=>if e.cells=sz then .t fr (.sl e) l else .junk
  | _=>.junk
 | .arr id sz lo n =>
  match H[id]? with
  | some (.rows _ fr e l)=>if e.cells=sz then .t fr (.sl e) ((l.drop lo).take n) else .junk
  | _=>.junk
 | .pre id sz n =>
  match H[id]? with
  | some (.rows _ fr e l)=>if e.cells=sz then .t fr (.sl e) (l.take n) else .junk
  | _=>.junk
 | a=>a
def pureO (H:List AObj) (a:AV):AV :=
 match view1 H a with
 | .t _ ty x=>.t ty.flat ty x
 | .raw v=>.raw v
 | .fn f []=>.fn f []
 | _=>.junk
def slOnly:Option AV→AV
 | some (.t _ (.sl e) l)=>.t false (.sl e) l
 | _=>.junk
def pure1 (H:List AObj) (a:AV):AV :=
 match a with
 | .all id sz =>
  match H[id]? with
  | some (.deep _ _ e l)=>if e.cells=sz then .t false (.sl e) l else .junk
  | _=>pureO H (.all id sz)
 | .pre id sz n =>
  match H[id]? with
  | some (.deep _ _ e l)=>if e.cells=sz then .t false (.sl e) (l.take n) else .junk
  | _=>pureO H (.pre id sz n)
 | .nest id row sz off =>
  match H[id]? with
  | some (.deep _ _ e l)=>if e.cells=sz then slOnly ((e.toAVs false (l.getD row e.dflt))[off]?) else .junk
  | _=>.junk
 | a=>pureO H a
def view (H:List AObj):AV→AV
 | .agg cs=>.agg (cs.map (pure1 H))
 | a=>pure1 H a

def St.freeze1 (st:St) (a:AV):AV×St :=
 match a with
 | .all id sz =>
  match st.heap[id]? with
  | some (.rows _ fr e l)=>if e.cells=sz then (.t fr (.sl e) l,{ st with heap:=st.heap.set id .dead }) else (a,st)
  | _=>(a,st)
 | .arr id sz lo n =>
  match st.heap[id]? with
  | some (.rows _ fr e l)=>if e.cells=sz then (.t fr (.sl e) ((l.drop lo).take n),{ st with heap:=st.heap.set id .dead }) else (a,st)
  | _=>(a,st)
 | .pre id sz n =>
  match st.heap[id]? with
  | some (.rows _ fr e l)=>if e.cells=sz then (.t fr (.sl e) (l.take n),{ st with heap:=st.heap.set id .dead }) else (a,st)
  | _=>(a,st)
 | a=>(a,st)
def St.freezeL:List AV→St→List AV×St
 | [],st=>([],st)
 | a::r,st=>let p:=st.freeze1 a;let q:=St.freezeL r p.2;(p.1::q.1,q.2)

def AV.len (H:List AObj) (a:AV):Option Nat :=
 match a with
 | .raw (.slice none 0 0)=>some 0
 | .t _ .str s=>some s.size
 | .t _ (.sl _) l=>some l.length
 | .arr _ _ _ n=>some n
 | .pre _ _ n=>some n
 | .all id sz =>
  match H[id]? with
  | some (.rows _ _ e l)=>if e.cells=sz then some l.length else none
  | some (.deep _ _ e l)=>if e.cells=sz then some l.length else none
  | _=>none
 | .nest id row sz off =>
  match H[id]? with
  | some (.deep _ _ e l)=>if e.cells=sz then
   match slOnly ((e.toAVs false (l.getD row e.dflt))[off]?) with
   | .t _ (.sl _) y=>some y.length
   | _=>none
   else none
  | _=>none
 | _=>none

def lenOk:TypeDesc→AV→Bool
 | .string,.t _ .str _=>true
 | .slice _,.t _ (.sl _) _=>true
 | .slice _,.all _ _=>true
 | .slice _,.arr _ _ _ _=>true
 | .slice _,.pre _ _ _=>true
 | .slice _,.nest _ _ _ _=>true
 | .slice _,.raw (.slice none 0 0)=>true
 | _,_=>false

def pureSem {α:Type} (P:Program):Sem α→Option α
 | .pure a=>some a
 | .program k=>pureSem P (k P)
 | _=>none

def strInts (s:ByteArray):List Int:=s.data.toList.map fun b=>(b.toNat:Int)
def bt (s:ByteArray) (i:Int):Int:=if h:i.toNat<s.size then ((s[i.toNat]'h).toNat:Int) else 0

def binSp:BinOp→Value→Value→Option (Bool×Value)
 | .add,.string a,.string b=>some (decide (((a.size+b.size:Nat):Int)≤IntKind.i64.max),.string (a++b))
 | .quo,.int k a,.int k' b=>if k=k' then some (decide (b ≠ 0),.int k (k.wrap (a.tdiv b))) else none
 | .rem,.int k a,.int k' b=>if k=k' then some (decide (b ≠ 0),.int k (a.tmod b)) else none
 | .shl,.int k a,.int _ b=>some (decide (0≤b),.int k (k.wrap (a*2 ^ (min b.toNat k.bits))))
 | .shr,.int k a,.int _ b=>some (decide (0≤b),.int k (a.fdiv (2 ^ (min b.toNat k.bits))))
 | _,_,_=>none

abbrev Summ:=List AV→List AObj→Option (AV×List AObj×List Nat×Bool)
abbrev Tab:=FuncId→Option Summ

def setRange (cs:List AV) (i:Nat) (vs:List AV):List AV:=cs.take i++vs++cs.drop (i+vs.length)

def fieldOf (tt:TT) (s:TypeId) (f:Nat):Option (Nat×TD) :=
 (tt s).bind fun d=>match d.desc with
  | .struct fs=>(fs[f]?).bind fun fd=>(tt fd.type).bind fun e=>if e.size=0 then none else some (fd.offset,e)
  | _=>none

def descOf (tt:TT) (t:TypeId):Option TypeDesc:=(tt t).bind fun d=>some d.desc

def elemOf' (tt:TT) (t:TypeId):Option (TypeId×TD) :=
 (tt t).bind fun d=>match d.desc with
  | .slice e=>(tt e).map fun x=>(e,x)
  | _=>none

def packed (d:TD) (cs:List AV):Option AV :=
 if cs.length=d.size then (if d.agg then some (.agg cs) else match cs with | [c]=>some c | _=>none) else none

def readRows (e:Ty):Nat→List AV→Option (List e.den×Bool)
 | 0,[]=>some ([],true)
 | n+1,cs =>
  match e.ofAVs cs with
  | some (x,f,r)=>(readRows e n r).map fun p=>(x::p.1,f&&p.2)
  | none=>none
 | _,_=>none

def fillAV (cs:List AV) (place:Nat→Option (Nat×Nat)):List (Nat×AV)→Option (List AV)
 | []=>some cs
 | (i,a)::r =>
  match place i with
  | some (off,size)=>if a.cells.length=size&&decide (off+size≤cs.length)&&a.cells.all AV.isCell then fillAV (setRange cs off a.cells) place r else none
  | none=>none

def MAXB:Nat:=140737488355328

def eqNil:BinOp→Option Bool
 | .eql=>some false
 | .neq=>some true
 | _=>none

def eqFs (tt:TT):Nat→List Field→List AV→List AV→Option Bool
 | _,[],[],[]=>some true
 | k,f::fs,a::as,b::bs =>
  if f.offset=k then
   if f.name ≠ "_" then
    match descOf tt f.type,a,b with
    | some (.int _),.t _ (.int k1) x,.t _ (.int k2) y=>if k1=k2 then (eqFs tt (k+1) fs as bs).map fun r=>((x:Int)==y)&&r else none
    | some .bool,.t _ .bool x,.t _ .bool y=>(eqFs tt (k+1) fs as bs).map fun r=>((x:Bool)==y)&&r
    | some .string,.t _ .str x,.t _ .str y=>(eqFs tt (k+1) fs as bs).map fun r=>((x:ByteArray).toList==(y:ByteArray).toList)&&r
    | _,_,_=>none
   else none
  else none
 | _,_,_,_=>none
def cmpSp (P:Program) (tt:TT) (H:List AObj) (op:BinOp) (t:TypeId) (a b:AV):Option (Bool×Bool) :=
 match view1 H a,b with
 | .t _ (.sl _) l,.raw (.slice none 0 0) =>
  match elemOf' tt t with
  | some _=>(eqNil op).map fun b=>(decide (0<l.length),b)
  | none=>none
 | .agg as,.agg bs =>
  match descOf tt t with
  | some (.struct fs) =>
   if P.eqGuardType P.depth t||P.stoodInHeld t then none
   else match eqFs tt 0 fs.toList as bs,op with
    | some b,.eql=>some (true,b)
    | some b,.neq=>some (true,!b)
    | _,_=>none
  | _=>none
 | _,_=>none

def quietOp (QF:FuncId→Bool) (o:Oper):Bool :=
 match o.op with
 | .move _ | .assign _ | .pick .. | .load .. | .nilCheck _ | .fieldAddr .. | .field .. | .indexAddr .. | .index .. | .extract .. | .slice _ _ _ _ none | .makeFunc .. | .binOp .. | .unOp .. | .convert .. | .build ..=>true
 | .call c =>
  match c.callee with
  | .builtin .len | .builtin .max | .builtin .min=>true
  | .value (.func g)=>QF g
  | _=>false
 | _=>false

def dstAt (ops:Array Oper) (i:Nat):Option Tmp:=(ops[i]?).bind (·.dst)
def directAt (ops:Array Oper) (i j:Nat):Bool:=((ops[i]?).map fun o=>o.after.any fun e=>e.on==j&&Region.binds .any e).getD false
def readsOf (ops:Array Oper) (o:Oper):List Tmp :=
 (o.op.operands.toList.filterMap fun | .tmp t=>some t | _=>none)++(match o.guard with
  | some (j,_)=>(dstAt ops j).toList
  | none=>[])

def drawOk (QF:FuncId→Bool) (ops:Array Oper):Bool :=
 (List.range ops.size).all fun i =>
  match ops[i]? with
  | none=>false
  | some o =>
   (o.after.all fun e=>!Region.binds .any e||decide (e.on<i)) &&
   ((List.range ops.size).all fun j=>decide (j=i)||!(dstAt ops j==o.dst)||o.dst.isNone) &&
   (if quietOp QF o then
    (readsOf ops o).all fun t=>(List.range ops.size).all fun j=>!(dstAt ops j==some t)||(decide (j ≠ i)&&(if j<i then directAt ops i j else directAt ops j i))
   else o.guard.isNone&&(List.range ops.size).all fun j=>decide (j=i)||(if j<i then directAt ops i j else directAt ops j i))

def namesOf1:AV→List Nat
 | .all id _=>[id]
 | .arr id _ _ _=>[id]
 | .pre id _ _=>[id]
 | .ptr id _ _ _=>[id]
 | .nest id _ _ _=>[id]
 | _=>[]
def namesOf:AV→List Nat
 | .agg cs=>cs.flatMap namesOf1
 | .fn _ cs=>cs.flatMap namesOf1
 | a=>namesOf1 a
def dedup:List Nat→List Nat→List Nat
 | acc,[]=>acc.reverse
 | acc,i::r=>cond (acc.contains i) (dedup acc r) (dedup (i::acc) r)
def winIds (args:List AV) (H:List AObj):List Nat :=
 let l:=dedup [] (args.flatMap namesOf)
 dedup [] (l++l.flatMap fun (i:Nat)=>match (H[i]?:Option AObj) with
  | some (.box cs)=>cs.flatMap namesOf1
  | _=>[])
def still1:AV→Bool
 | .agg _=>false
 | .tup _=>false
 | .fn _ _=>false
 | _=>true
def still:AV→Bool
 | .agg cs=>cs.all still1
 | .fn _ cs=>cs.all still1
 | .tup _=>false
 | _=>true
def objStill:AObj→Bool
 | .box cs=>cs.all still1
 | _=>true
def objNames:AObj→List Nat
 | .box cs=>cs.flatMap namesOf1
 | _=>[]
def behind (H:List AObj) (l:List Nat):List Nat:=l++l.flatMap fun (i:Nat)=>match (H[i]?:Option AObj) with
 | some o=>objNames o
 | none=>[]

def flOp (o:Oper):Bool :=
 o.guard.isNone&&match o.op with
 | .move _ | .assign _ | .load .. | .nilCheck _ | .fieldAddr .. | .field .. | .indexAddr .. | .index .. | .extract .. | .binOp .. | .unOp .. | .convert .. | .slice _ _ _ _ none=>true
 | .call c=>match c.callee with
  | .builtin .len=>true
  | _=>false
 | _=>false
def barAt (QF:FuncId→Bool) (ops:Array Oper) (i:Nat):Bool:=((ops[i]?).map fun o=>!quietOp QF o).getD false
def reachAt (ops:Array Oper):Nat→Nat→Nat→Bool
 | 0,i,j=>directAt ops i j
 | n+1,i,j=>((ops[i]?).map fun o=>o.after.any fun e=>Region.binds .any e&&(e.on==j||(Nat.blt j e.on&&reachAt ops n e.on j))).getD false
def parkOp (o:Oper):Bool:=o.guard.isNone&&o.dst.isSome&&match o.op with
 | .alloc _=>true
 | .buildSlice _ len parts=>len==0&&parts.isEmpty
 | _=>false
def parkAt (ops:Array Oper) (i:Nat):Bool:=((ops[i]?).map parkOp).getD false
def preB (QF:FuncId→Bool) (ops:Array Oper) (i b:Nat):Bool:=(List.range i).any fun k=>barAt QF ops k&&decide (b≤k)&&(k==b||!parkAt ops k)&&reachAt ops 9 i k
def sucB (QF:FuncId→Bool) (ops:Array Oper) (i b:Nat):Bool:=(List.range (b+1)).any fun k=>barAt QF ops k&&decide (i<k)&&(k==b||!parkAt ops b)&&reachAt ops 9 k i
def zedAt (QF:FuncId→Bool) (ops:Array Oper) (i:Nat):Bool :=
 (List.range ops.size).all fun b=>!barAt QF ops b||decide (b=i)||(if b<i then preB QF ops i b||(parkAt ops i&&!parkAt ops b) else sucB QF ops i b||(parkAt ops b&&!parkAt ops i))
def flAt (QF:FuncId→Bool) (ops:Array Oper) (i:Nat):Bool:=!barAt QF ops i&&!zedAt QF ops i
def hangs (ops:Array Oper) (o:Oper) (j:Nat):Bool:=o.after.any fun e=>Region.binds .any e&&(e.on==j||reachAt ops 9 e.on j)
def readsH (o:Oper):Bool:=match o.op with
 | .move _ | .assign _ | .nilCheck _ | .fieldAddr .. | .field .. | .index .. | .extract .. | .unOp ..=>false
 | _=>true
def isStore (o:Oper):Bool:=match o.op with
 | .store ..=>true
 | _=>false
def baseAt (QF:FuncId→Bool) (ops:Array Oper):Nat→Nat→Nat
 | 0,_=>0
 | n+1,i=>match ops[i]? with
  | none=>0
  | some o=>(readsOf ops o).foldl (fun m t=>(List.range i).foldl (fun m j=>if dstAt ops j==some t then max m (if flAt QF ops j then baseAt QF ops n j else j+1) else m) m) 0
def bsAt (QF:FuncId→Bool) (ops:Array Oper) (i:Nat):Nat:=baseAt QF ops 8 i
def floatOk0 (QF:FuncId→Bool) (ops:Array Oper):Bool :=
 (List.range ops.size).all fun i =>
  match ops[i]? with
  | none=>false
  | some o =>
   (o.after.all fun e=>!Region.binds .any e||decide (e.on<i)) &&
   ((List.range ops.size).all fun j=>decide (j=i)||!(dstAt ops j==o.dst)||o.dst.isNone) &&
   ((readsOf ops o).all fun t=>(List.range ops.size).all fun j=>!(dstAt ops j==some t)||(decide (j ≠ i)&&(!flAt QF ops j||decide (j<i))&&(if j<i then directAt ops i j else directAt ops j i))) &&
   (!barAt QF ops i||zedAt QF ops i) &&
   (!flAt QF ops i||(flOp o&&(bsAt QF ops i==0||(barAt QF ops (bsAt QF ops i - 1)&&!parkAt ops (bsAt QF ops i - 1)&&reachAt ops 9 i (bsAt QF ops i - 1))) &&
    (readsOf ops o).all fun t=>(List.range ops.size).all fun j=>!(dstAt ops j==some t)||(if decide (j<i) then (if flAt QF ops j then decide (bsAt QF ops j≤bsAt QF ops i) else decide (j<bsAt QF ops i)) else !flAt QF ops j)))

def parkOk (QF:FuncId→Bool) (ops:Array Oper):Bool :=
 (List.range ops.size).all fun i=>flAt QF ops i||(List.range i).all fun p=>!parkAt ops p||(List.range p).all fun j=>flAt QF ops j||barAt QF ops j||reachAt ops 9 p j||reachAt ops 9 i j
def floatOk (QF:FuncId→Bool) (ops:Array Oper):Bool:=floatOk0 QF ops&&parkOk QF ops

section
variable {R:Type} (P:Program) (tt:TT) (S:Tab)

def deepNames (H:List AObj):AV→List Nat
 | .all id _=>match H[id]? with
  | some (.deep ..)=>[id]
  | _=>[]
 | _=>[]
def touched (st:St) (o:Oper):Option (List Nat) :=
 match o.op with
 | .alloc _=>some []
 | .box _ _=>some []
 | .makeSlice ..=>some []
 | .buildSlice _ _ parts=>some (parts.toList.flatMap fun p=>(st.ev p.2).cells.flatMap namesOf1)
 | .call c =>
  match c.callee with
  | .builtin .append=>match c.args.toList with
   | [s,x]=>some (namesOf (st.ev s)++deepNames st.heap (st.ev x))
   | _=>none
  | .value f=>match st.ev f with
   | .fn _ caps=>some (winIds (c.args.toList.map st.ev++caps) st.heap)
   | _=>none
  | _=>none
 | _=>none

def killsOf (st:St) (o:Oper):List Nat :=
 match o.op with
 | .call c =>
  match c.callee with
  | .builtin .append=>match c.args.toList with
   | [s,_]=>namesOf (st.ev s)
   | _=>[]
  | .value f=>match st.ev f with
   | .fn g caps=>match S g with
    | some s=>match s (c.args.toList.map st.ev++caps) st.heap with
     | some (_,_,ks,_)=>ks
     | none=>[]
    | none=>[]
   | _=>[]
  | _=>[]
 | _=>[]
def lightAt (ops:Array Oper) (j:Nat):Bool:=((ops[j]?).map fun o=>!readsH o).getD false

def St.read (st:St) (n:Nat):AV→Option (List AV)
 | .ptr id row sz sub =>
  match st.heap[id]? with
  | some (.box cs)=>if row=0 then (if decide (sub+n≤cs.length) then some ((cs.drop sub).take n) else none) else none
  | some (.rows _ fr e l)=>if e.cells=sz&&decide (sub+n≤sz) then some (((e.toAVs fr (l.getD row e.dflt)).drop sub).take n) else none
  | some (.deep _ _ e l)=>if e.cells=sz&&decide (sub+n≤sz) then some (((e.toNests id row sz 0 (l.getD row e.dflt)).drop sub).take n) else none
  | _=>none
 | .rop fr e l row off=>if decide (off+n≤e.cells) then some (((e.toAVs fr (l.getD row e.dflt)).drop off).take n) else none
 | _=>none

def St.write (st:St) (p:AV) (vs:List AV):Option St :=
 match p with
 | .ptr id row sz sub =>
  match st.heap[id]? with
  | some (.box cs)=>if row=0 then (if decide (sub+vs.length≤cs.length)&&vs.all AV.isCell then some { st with heap:=st.heap.set id (.box (setRange cs sub vs)) } else none) else none
  | some (.rows E fr e l) =>
   if e.cells=sz&&decide (sub+vs.length≤sz) then
    match e.ofAVs (setRange (e.toAVs fr (l.getD row e.dflt)) sub vs) with
    | some (x,f,[])=>some { st with heap:=st.heap.set id (.rows E (fr&&f) e (l.set row x)) }
    | _=>none
   else none
  | some (.deep E Es e l) =>
   if e.cells=sz&&decide (sub+vs.length≤sz) then
    match e.putOwn [] Es 0 (l.getD row e.dflt) sub vs with
    | some (x,[],[])=>some { st with heap:=st.heap.set id (.deep E Es e (l.set row x)) }
    | _=>none
   else none
  | _=>none
 | _=>none
def AV.noN1 (id:Nat):AV→Bool
 | .nest i _ _ _=>!(i==id)
 | .agg _=>false
 | .tup _=>false
 | .fn _ _=>false
 | _=>true
def AV.dropN1 (id:Nat):AV→AV
 | .nest i row sz off=>if i=id then .junk else .nest i row sz off
 | .agg _=>.junk
 | .tup _=>.junk
 | .fn _ _=>.junk
 | a=>a
def AV.dropN2 (id:Nat):AV→AV
 | .agg cs=>.agg (cs.map (AV.dropN1 id))
 | a=>a.dropN1 id
def AV.dropN (id:Nat):AV→AV
 | .agg cs=>.agg (cs.map (AV.dropN1 id))
 | .fn f cs=>.fn f (cs.map (AV.dropN1 id))
 | .tup cs=>.tup (cs.map (AV.dropN2 id))
 | a=>a.dropN1 id
def AObj.noN (id:Nat):AObj→Bool
 | .box cs=>cs.all (AV.noN1 id)
 | _=>true
def distinct:List Nat→Bool
 | []=>true
 | i::r=>!r.contains i&&distinct r
def deadAll:List (Nat×Nat)→List AObj→List AObj
 | [],H=>H
 | p::r,H=>deadAll r (H.set p.1 .dead)
def St.storeOwn (st:St) (id row sz sub:Nat) (vs:List AV):Option St :=
 match st.heap[id]? with
 | some (.deep E Es e l) =>
  if e.cells=sz&&decide (sub+vs.length≤sz) then
   match e.putOwn st.heap Es 0 (l.getD row e.dflt) sub vs with
   | some (x,ts,_)=>if distinct (ts.map (·.1))&&st.heap.all (AObj.noN id) then some { st with slots:=st.slots.map (AV.dropN id),heap:=(deadAll ts st.heap).set id (.deep E Es e (l.set row x)),killed:=(if id<st.base&&!st.killed.contains id then [id] else [])++st.killed } else none
   | none=>none
  else none
 | _=>none

def buildOwn (st:St) (E:TypeId) (d:TD) (e:Ty) (len:Nat) (parts:List (Nat×AV)):Option St :=
 if e.cells=d.size∧len=1∧d.size≤16777216 then
  match fillAV (List.replicate (len*d.size) .junk) (fun i=>some (i*d.size,d.size)) parts with
  | some cs =>
   match e.putOwn st.heap d.own 0 e.dflt 0 cs with
   | some (x,ts,_)=>if distinct (ts.map (·.1))&&decide (cs.length=e.cells) then some { st with heap:=deadAll ts st.heap++[.deep E d.own e [x]] } else none
   | none=>none
  | none=>none
 else none
def appendOwn (st:St) (E:TypeId) (d:TD) (e:Ty):AV→AV→Option (Bool×AV×St)
 | .all id sz,.all id2 sz2 =>
  match st.heap[id]?,st.heap[id2]? with
  | some (.deep E' Es e' l),some (.deep E2 Es2 e2 ys) =>
   if h:e'=e∧e2=e∧E'=E∧E2=E∧Es2=Es∧sz=e.cells∧sz2=e.cells∧e.cells=d.size∧0<d.bytes∧id ≠ id2 then
    some (decide ((l.length+ys.length)*d.bytes≤MAXB),.all id sz,{ (st.kill [id]) with heap:=((st.kill [id]).heap.set id2 .dead).set id (.deep E Es e ((h.1 ▸ l)++(h.2.1 ▸ ys))) })
   else none
  | _,_=>none
 | .raw (.slice none 0 0),.all id2 sz2 =>
  match st.heap[id2]? with
  | some (.deep E2 Es2 e2 ys) =>
   if e2=e∧E2=E∧sz2=e.cells∧e.cells=d.size∧0<d.bytes then
    some (decide (ys.length*d.bytes≤MAXB),.all st.heap.length sz2,{ st with heap:=st.heap.set id2 .dead++[.deep E2 Es2 e2 ys] })
   else none
  | _=>none
 | _,_=>none

def arrK (tt:TT) (d:TD):Option IntKind :=
 match d.desc with
 | .array n t=>match tt t with
  | some e=>match e.desc with
   | .int k=>if 0<n∧n≤1000∧d.size=n∧e.size=1∧d.agg=true then some k else none
   | _=>none
  | none=>none
 | _=>none
def intRow (k:IntKind):List AV→Option (List Int)
 | []=>some []
 | .t _ (.int k') x::r=>if k'=k then (intRow k r).map fun l=>(x:Int)::l else none
 | _=>none
def arrAVs (k:IntKind) (l:List Int) (n:Nat):List AV:=(List.range n).map fun i=>.t true (.int k) (l.getD i 0)
def boxOr (tt:TT) (E:TypeId) (cs:List AV):AObj :=
 match (tt E).bind (arrK tt) with
 | some k=>match intRow k cs with
  | some l=>if 0<l.length∧l.length≤1000 then .rows E true (.int k) l else .box cs
  | none=>.box cs
 | none=>.box cs
def arrLoad (tt:TT) (d:TD) (H:List AObj):AV→Option (Bool×AV)
 | .ptr id 0 1 0=>match H[id]?,arrK tt d with
  | some (.rows _ _ (.int k') l),some k=>if k'=k then some (decide (l.length=d.size),.agg (arrAVs k l d.size)) else none
  | _,_=>none
 | _=>none
def arrStore (tt:TT) (d:TD) (st:St) (cs:List AV):AV→Option (Bool×St)
 | .ptr id 0 1 0=>match st.heap[id]?,arrK tt d with
  | some (.rows E fr (.int k') l),some k=>if k'=k then (intRow k' cs).map fun l'=>(decide (l.length=l'.length),{ st with heap:=st.heap.set id (.rows E fr (.int k') l') }) else none
  | _,_=>none
 | _=>none
def arrAddr (tt:TT) (t:TypeId) (H:List AObj) (x:AV) (n:Int):Option (Bool×AV) :=
 match x with
 | .ptr id 0 1 0=>match tt t,H[id]? with
  | some d,some (.rows _ _ (.int k') l)=>match arrK tt d with
   | some k=>if k'=k then some (decide (0≤n∧n<(d.size:Int)∧n<(l.length:Int)),.ptr id n.toNat 1 0) else none
   | none=>none
  | _,_=>none
 | _=>none
def arrIdx (tt:TT) (t:TypeId) (x:AV) (n:Int):Option (Bool×AV) :=
 match x,tt t with
 | .agg cs,some d=>match arrK tt d with
  | some k=>(intRow k cs).bind fun l=>if l.length=d.size then some (decide (0≤n∧n<(d.size:Int)),.t true (.int k) (l.getD n.toNat 0)) else none
  | none=>none
 | _,_=>none
def cutAV (lo:Option Operand) (id sz:Nat) (l h:Int):AV:=match lo with
 | none=>.pre id sz h.toNat
 | some _=>.arr id sz l.toNat (h.toNat - l.toNat)

def evalOp (st:St) (o:Oper) (K:AV→St→Option R):Option R :=
 match o.op with
 | .move x=>K (st.ev x) st
 | .assign x=>K (st.ev x) st
 | .pick c a b =>
  match (st.ev c).asBool with
  | some v=>cond v (K (st.ev a) st) (K (st.ev b) st)
  | none=>none
 | .alloc E =>
  match tt E with
  | some d=>K (.ptr st.heap.length 0 1 0) (st.new (boxOr tt E (d.zero.map AV.ofValue)))
  | none=>none
 | .box E x=>if (st.ev x).cells.all AV.isCell then K (.ptr st.heap.length 0 1 0) (st.new (boxOr tt E (st.ev x).cells)) else none
 | .build t parts =>
  match tt t with
  | some d =>
   match d.desc with
   | .struct fs =>
    if fs.toList.all (fun f=>(tt f.type).isSome) then
    match fillAV (d.zero.map AV.ofValue) (fun i=>(fieldOf tt t i).map fun p=>(p.1,p.2.size)) (parts.toList.map fun p=>(p.1,st.ev p.2)) with
    | some cs=>K (.agg cs) st
    | none=>none
    else none
   | .array _ _ =>
    if (arrK tt d).isSome then
    match fillAV (d.zero.map AV.ofValue) (fun i=>some (i*1,1)) (parts.toList.map fun p=>(p.1,st.ev p.2)) with
    | some cs=>K (.agg cs) st
    | none=>none
    else none
   | _=>none
  | none=>none
 | .buildSlice t len parts =>
  match elemOf' tt t with
  | some (E,d) =>
   match tyOf tt 9 E with
   | some e =>
    if !d.own.isEmpty then
     match buildOwn st E d e len (parts.toList.map fun p=>(p.1,st.ev p.2)) with
     | some st'=>K (.all st.heap.length e.cells) st'
     | none=>none
    else if e.cells=d.size&&decide (len*d.size≤16777216) then
     match fillAV (List.replicate (len*d.size) .junk) (fun i=>some (i*d.size,d.size)) (parts.toList.map fun p=>(p.1,st.ev p.2)) with
     | some cs =>
      let q:=St.freezeL cs st
      match readRows e len q.1 with
      | some (l,f)=>K (.all q.2.heap.length e.cells) (q.2.new (.rows E f e l))
      | none=>none
     | none=>none
    else none
   | none=>none
  | none=>none
 | .load t a =>
  match tt t with
  | some d=>match st.read d.size (st.ev a) with
   | some cs=>match packed d cs with
    | some v=>K v st
    | none=>none
   | none=>match arrLoad tt d st.heap (st.ev a) with
    | some (b,v)=>cond b (K v st) none
    | none=>none
  | none=>none
 | .store t a x =>
  match tt t with
  | some d =>
   if (st.ev x).cells.length=d.size&&(st.ev x).cells.all AV.isCell then
    match st.ev a with
    | .ptr id row sz sub =>
     match st.heap[id]? with
     | some (.rows ..) =>
      let q:=St.freezeL (st.ev x).cells st
      match q.2.write (.ptr id row sz sub) q.1 with
      | some st'=>K (.raw undef) st'
      | none=>match arrStore tt d st (st.ev x).cells (.ptr id row sz sub) with
       | some (b,st')=>cond b (K (.raw undef) st') none
       | none=>none
     | some (.box ..) =>
      match st.write (.ptr id row sz sub) (st.ev x).cells with
      | some st'=>K (.raw undef) st'
      | none=>none
     | some (.deep ..) =>
      match st.write (.ptr id row sz sub) (st.ev x).cells with
      | some st'=>K (.raw undef) st'
      | none=>match st.storeOwn id row sz sub (st.ev x).cells with
       | some st'=>K (.raw undef) st'
       | none=>none
     | _=>none
    | _=>none
   else none
  | none=>none
 | .nilCheck x =>
  match st.ev x with
  | .ptr id row sz sub=>K (.ptr id row sz sub) st
  | .rop fr e l row off=>K (.rop fr e l row off) st
  | _=>none
 | .fieldAddr s x f =>
  match fieldOf tt s f,st.ev x with
  | some (off,_),.ptr id row sz sub=>K (.ptr id row sz (sub+off)) st
  | some (off,_),.rop fr e l row o=>K (.rop fr e l row (o+off)) st
  | _,_=>none
 | .field s x f =>
  match fieldOf tt s f,st.ev x with
  | some (off,d),.agg cs=>match packed d ((cs.drop off).take d.size) with
   | some v=>K v st
   | none=>none
  | _,_=>none
 | .indexAddr t x i =>
  match elemOf' tt t,(st.ev i).asInt with
  | some (_,d),some n =>
   match st.ev x with
   | .t fr (.sl e) l=>if e.cells=d.size then cond (decide (0≤n∧n<(l.length:Int))) (K (.rop fr e l n.toNat 0) st) none else none
   | .all id sz =>
    match st.heap[id]? with
    | some (.rows _ _ e l)=>if e.cells=d.size&&e.cells=sz then cond (decide (0≤n∧n<(l.length:Int))) (K (.ptr id n.toNat sz 0) st) none else none
    | some (.deep _ _ e l)=>if e.cells=d.size&&e.cells=sz then cond (decide (0≤n∧n<(l.length:Int))) (K (.ptr id n.toNat sz 0) st) none else none
    | _=>none
   | .arr id sz lo k =>
    match st.heap[id]? with
    | some (.rows _ _ e _)=>if e.cells=d.size&&e.cells=sz then cond (decide (0≤n∧n<(k:Int))) (K (.ptr id (lo+n.toNat) sz 0) st) none else none
    | _=>none
   | .pre id sz k =>
    match st.heap[id]? with
    | some (.rows _ _ e l)=>if e.cells=d.size&&e.cells=sz then cond (decide (0≤n∧n<(k:Int)∧n<(l.length:Int))) (K (.ptr id n.toNat sz 0) st) none else none
    | _=>none
   | _=>none
  | none,some n=>match arrAddr tt t st.heap (st.ev x) n with
   | some (b,v)=>cond b (K v st) none
   | none=>none
  | _,_=>none
 | .index t x i =>
  match descOf tt t,st.ev x,(st.ev i).asInt with
  | some .string,.t _ .str s,some n=>cond (decide (0≤n∧n<(s.size:Int))) (K (.t true (.int .u8) (bt s n)) st) none
  | some (.array _ _),y,some n=>match arrIdx tt t y n with
   | some (b,v)=>cond b (K v st) none
   | none=>none
  | _,_,_=>none
 | .extract x i =>
  match st.ev x with
  | .tup cs=>match cs[i]? with
   | some c=>K c st
   | none=>none
  | _=>none
 | .slice t x lo hi mx =>
  match mx with
  | some m =>
   match lo,hi with
   | none,some h =>
    match st.ev x with
    | .arr id sz o _ =>
     match elemOf' tt t,(st.ev x).len st.heap,(st.ev h).asInt,(st.ev m).asInt with
     | some (_,d),some n,some hh,some mm=>if sz=d.size then cond (decide (0≤hh∧hh≤mm∧mm≤(n:Int))) (K (.arr id sz o hh.toNat) st) none else none
     | _,_,_,_=>none
    | .all id sz =>
     match elemOf' tt t,(st.ev x).len st.heap,(st.ev h).asInt,(st.ev m).asInt with
     | some (_,d),some n,some hh,some mm=>if sz=d.size then cond (decide (0≤hh∧hh≤mm∧mm≤(n:Int))) (K (.arr id sz 0 hh.toNat) st) none else none
     | _,_,_,_=>none
    | _ =>
     match elemOf' tt t,(st.ev x).len st.heap,(st.ev h).asInt,(st.ev m).asInt with
     | some (E,_),some _,some 0,some 0 =>
      match tyOf tt 9 E with
      | some e=>if lenOk (.slice E) (st.ev x) then K (.all st.heap.length e.cells) (st.new (.rows E true e [])) else none
      | none=>none
     | _,_,_,_=>none
   | some lo', some h =>
    match st.ev x with
    | .all id sz =>
     match elemOf' tt t,(st.ev x).len st.heap,(st.ev lo').asInt,(st.ev h).asInt,(st.ev m).asInt with
     | some (_,d),some n,some ll,some hh,some mm=>if sz=d.size then cond (decide (0≤ll∧ll≤hh∧hh≤mm∧mm≤(n:Int))) (K (.arr id sz ll.toNat (hh.toNat - ll.toNat)) st) none else none
     | _,_,_,_,_=>none
    | .t fr (.sl e) xs =>
     match elemOf' tt t,(st.ev lo').asInt,(st.ev h).asInt,(st.ev m).asInt with
     | some (_,d),some ll,some hh,some mm=>if e.cells=d.size then cond (decide (0≤ll∧ll≤hh∧hh≤mm∧mm≤(xs.length:Int))) (K (.t fr (.sl e) ((xs.take hh.toNat).drop ll.toNat)) st) none else none
     | _,_,_,_=>none
    | _=>none
   | _,_=>none
  | none =>
   match (st.ev x).len st.heap with
   | none=>none
   | some n =>
    match (match hi with | none=>some (n:Int) | some h=>(st.ev h).asInt),(match lo with | none=>some (0:Int) | some h=>(st.ev h).asInt) with
    | some h,some l =>
     match descOf tt t,st.ev x with
     | some .string,.t _ .str s=>cond (decide (0≤l∧l≤h∧h≤(n:Int))) (K (.t true .str (s.extract l.toNat h.toNat)) st) none
     | some (.slice E),.t fr (.sl e) xs=>match tt E with
      | some d=>if e.cells=d.size then cond (decide (0≤l∧l≤h∧h≤(n:Int))) (K (.t fr (.sl e) ((xs.take h.toNat).drop l.toNat)) st) none else none
      | none=>none
     | some (.slice E),.all id sz=>match tt E with
      | some d=>if sz=d.size then cond (decide (0≤l∧l≤h∧h≤(n:Int))) (K (cutAV lo id sz l h) st) none else none
      | none=>none
     | some (.slice E),.arr id sz o _=>match tt E with
      | some d=>if sz=d.size then cond (decide (0≤l∧l≤h∧h≤(n:Int))) (K (.arr id sz (o+l.toNat) (h.toNat - l.toNat)) st) none else none
      | none=>none
     | some (.slice E),.pre id sz _=>match tt E,st.heap[id]? with
      | some d,some (.rows _ _ e xs)=>if sz=d.size&&e.cells=sz then cond (decide (0≤l∧l≤h∧h≤(xs.length:Int))) (K (cutAV lo id sz l h) st) none else none
      | _,_=>none
     | _,_=>none
    | _,_=>none
 | .makeSlice t l c =>
  match elemOf' tt t,(st.ev l).asInt,(st.ev c).asInt with
  | some (E,d),some n,some m =>
   match tyOf tt 9 E with
   | some e =>
    if !d.own.isEmpty then
     match e.putOwn [] d.own 0 e.dflt 0 (d.zero.map AV.ofValue) with
     | some (z,[],_)=>if e.cells=d.size then cond (decide (0≤n∧n=m∧n.toNat*d.bytes≤MAXB∧n≤9223372036854775807)) (K (.all st.heap.length e.cells) (st.new (.deep E d.own e (List.replicate n.toNat z)))) none else none
     | _=>none
    else match e.ofAVs (d.zero.map AV.ofValue) with
    | some (z,f,[])=>if e.cells=d.size then cond (decide (0≤n∧n=m∧n.toNat*d.bytes≤MAXB∧n≤9223372036854775807)) (K (.all st.heap.length e.cells) (st.new (.rows E f e (List.replicate n.toNat z)))) none else none
    | _=>none
   | none=>none
  | _,_,_=>none
 | .makeFunc (.func f) first captured =>
  if first.isEmpty&&(captured.toList.map st.ev).all AV.isCell then K (.fn f (captured.toList.map st.ev)) st else none
 | .binOp op t x y _ =>
  match (st.ev x).toValue,(st.ev y).toValue with
  | some a,some b=>match binSp op a b with
   | some (c,v)=>cond c (K (.ofValue v) st) none
   | none=>match pureSem P (do eqGuard op t x y a b;binOp op t a b) with
    | some v=>K (.ofValue v) st
    | none=>none
  | _,_ =>
   match cmpSp P tt st.heap op t (st.ev x) (st.ev y) with
   | some (c,b)=>cond c (K (.t true .bool b) st) none
   | none=>none
 | .unOp op _ x =>
  match (st.ev x).toValue with
  | some a=>match pureSem P (Op.unary op a) with
   | some v=>K (.ofValue v) st
   | none=>none
  | none=>none
 | .convert src dst x =>
  match (st.ev x).toValue with
  | some a=>match pureSem P (convert src dst a) with
   | some v=>K (.ofValue v) st
   | none=>none
  | none =>
   match view1 st.heap (st.ev x),descOf tt src,descOf tt dst with
   | .t _ (.sl (.int .u8)) l,some (.slice E),some .string=>match descOf tt E with
    | some (.int .u8)=>K (.t true .str ⟨(l.map fun n=>UInt8.ofNat n.toNat).toArray⟩) st
    | _=>none
   | _,_,_=>none
 | .call c =>
  match c.callee with
  | .builtin .len=>match c.args.toList,c.argTypes.toList with
   | [x],[t]=>match descOf tt t,(st.ev x).len st.heap with
    | some d,some n=>if lenOk d (st.ev x) then K (.t true (.int .i64) (n:Int)) st else none
    | _,_=>none
   | _,_=>none
  | .builtin .max=>match (c.args.toList.map fun x=>(st.ev x).toValue) with
   | [some u,some v]=>match pureSem P (Builtin.max_ c.argTypes o.type #[u,v]) with
    | some v=>K (.ofValue v) st
    | none=>none
   | _=>none
  | .builtin .min=>match (c.args.toList.map fun x=>(st.ev x).toValue) with
   | [some u,some v]=>match pureSem P (Builtin.min_ c.argTypes o.type #[u,v]) with
    | some v=>K (.ofValue v) st
    | none=>none
   | _=>none
  | .builtin .clear =>
   match c.args.toList,c.argTypes.toList with
   | [x],[t] =>
    match elemOf' tt t with
    | some (_,d) =>
     match (match st.ev x with
      | .all id sz=>some (id,sz,0,none)
      | .arr id sz lo n=>some (id,sz,lo,some n)
      | _=>(none:Option (Nat×Nat×Nat×Option Nat))) with
     | some (id,sz,lo,n) =>
      match st.heap[id]? with
      | some (.rows E fr e l) =>
       match e.ofAVs (d.zero.map AV.ofValue) with
       | some (z,true,[])=>if sz=e.cells&&e.cells=d.size then K (.raw undef) { st with heap:=st.heap.set id (.rows E fr e (l.take lo++List.replicate (n.getD l.length) z++l.drop (lo+n.getD l.length))) } else none
       | _=>none
      | _=>none
     | none=>none
    | none=>none
   | _,_=>none
  | .builtin .append =>
   match c.args.toList,c.argTypes.toList with
   | [s,x],[t,t'] =>
    if t=t' then (
     match elemOf' tt t with
     | some (E,d) =>
      match tyOf tt 9 E with
      | some e =>
       if !d.own.isEmpty then
        match appendOwn st E d e (st.ev s) (st.ev x) with
        | some (b,v,st')=>cond b (K v st') none
        | none=>none
       else match (e.sl).ofAVs [view1 st.heap (st.ev x)],st.ev s with
       | some (ys,f,[]),.all id sz =>
        match st.heap[id]? with
        | some (.rows E' fr e' l) =>
         if h:e'=e∧E'=E∧sz=e.cells∧e.cells=d.size∧0<d.bytes then
          cond (decide ((l.length+ys.length)*d.bytes≤MAXB)) (let st1:=st.kill [id];K (.all id sz) { st1 with heap:=st1.heap.set id (.rows E (fr&&(f||e.flat)) e ((h.1 ▸ l)++ys)) }) none
         else none
        | _=>none
       | some (ys,f,[]),.raw (.slice none 0 0) =>
        if e.cells=d.size∧0<d.bytes then
         cond (decide (ys.length*d.bytes≤MAXB)) (K (.all st.heap.length e.cells) (st.new (.rows E (f||e.flat) e ys))) none
        else none
       | some (ys,f,[]),.pre id sz n =>
        match st.heap[id]? with
        | some (.rows E' fr e' l) =>
         if h:e'=e∧E'=E∧sz=e.cells∧e.cells=d.size∧(!fr||f||e.flat)=true then
          cond (decide (n+ys.length≤l.length)) (K (.pre id sz (n+ys.length)) { st with heap:=st.heap.set id (.rows E fr e ((h.1 ▸ l.take n)++ys++(h.1 ▸ l.drop (n+ys.length)))) }) none
         else none
        | _=>none
       | _,_=>none
      | none=>none
     | none=>none)
    else
     match descOf tt t', st.ev x,elemOf' tt t with
     | some .string,.t _ .str y,some (E,d) =>
      match descOf tt E,st.ev s with
      | some (.int .u8),.all id sz =>
       match st.heap[id]? with
       | some (.rows E' fr (.int .u8) l) =>
        if E'=E∧sz=1∧d.size=1∧d.bytes=1 then
         match d.zero with
         | [.int .u8 0]=>cond (decide (l.length+y.size≤MAXB)) (let st1:=st.kill [id];K (.all id sz) { st1 with heap:=st1.heap.set id (.rows E fr (.int .u8) (l++strInts y)) }) none
         | _=>none
        else none
       | _=>none
      | _,_=>none
     | _,_,_=>none
   | _,_=>none
  | .value f =>
   match st.ev f with
   | .fn g caps =>
    match S g with
    | some s=>match s (c.args.toList.map st.ev++caps) st.heap with
     | some (r,H', [],b)=>cond b (K r { st with heap:=H' }) none
     | some (r,H', k::ks,b)=>cond b (let st1:=st.kill (k::ks);K r { st1 with heap:=H' }) none
     | none=>none
    | none=>none
   | _=>none
  | _=>none
 | _=>none

def execOps (ops:Array Oper):List Oper→St→(St→Option R)→Option R
 | [],st,K=>K st
 | o::rest,st,K =>
  match o.guard with
  | none=>evalOp P tt S st o (fun v st'=>execOps ops rest (st'.put o.dst v) K)
  | some (j,want) =>
   match (ops[j]?).bind (·.dst) with
   | none=>none
   | some d =>
    match st.slots.getD d .junk with
    | .t true .bool b =>
     cond b
      (if want then evalOp P tt S (st.put (some d) (.t true .bool true)) o (fun v st'=>execOps ops rest (st'.put o.dst v) K) else execOps ops rest ((st.put (some d) (.t true .bool true)).put o.dst (.raw undef)) K)
      (if want then execOps ops rest ((st.put (some d) (.t true .bool false)).put o.dst (.raw undef)) K else evalOp P tt S (st.put (some d) (.t true .bool false)) o (fun v st'=>execOps ops rest (st'.put o.dst v) K))
    | .raw (.tuple _)=>execOps ops rest (st.put o.dst (.raw undef)) K
    | _=>none

def usable (H:List AObj) (U:List Nat) (id:Nat):Bool :=
 match H[id]? with
 | some ob=>objStill ob&&(objNames ob).all U.contains
 | none=>false
def execFl:List (Oper×Bool)→Nat→List (Nat×List Nat)→St→(List (Nat×List Nat)→St→Option R)→Option R
 | [],_,used,st,K=>K used st
 | (o,fl)::rest,k,used,st,K =>
  if fl then evalOp P tt S st o (fun v st' =>
   if still v&&(o.op.operands.toList.all fun x=>still (st.ev x)) then
    (if readsH o then
     (if (behind st.heap (o.op.operands.toList.flatMap (fun x=>namesOf (st.ev x))++namesOf v)).all (usable st.heap (behind st.heap (o.op.operands.toList.flatMap (fun x=>namesOf (st.ev x))++namesOf v))) then
      execFl rest (k+1) ((k,behind st.heap (o.op.operands.toList.flatMap (fun x=>namesOf (st.ev x))++namesOf v))::used) (st'.put o.dst v) K else none)
    else (if (o.op.operands.toList.flatMap (fun x=>namesOf (st.ev x))++namesOf v).all (fun i=>decide (i<st.heap.length)) then execFl rest (k+1) ((k,o.op.operands.toList.flatMap (fun x=>namesOf (st.ev x))++namesOf v)::used) (st'.put o.dst v) K else none))
   else none)
  else execFl rest (k+1) used st K

def lateL (os:List (Oper×Option Nat)) (b:Nat):List (Oper×Bool):=os.map fun p=>(p.1,p.2==some b)
def execCore (QF:FuncId→Bool) (ops:Array Oper) (os:List (Oper×Option Nat)):Nat→List (Nat×List Nat)→List (Oper×Option Nat)→St→(St→Option R)→Option R
 | _,_,[],st,K=>K st
 | k,used,(o,fl)::rest,st,K =>
  if fl.isSome then execCore QF ops os (k+1) used rest st K
  else if quietOp QF o then execOps P tt S ops [o] st (fun st'=>execCore QF ops os (k+1) used rest st' K)
  else match touched st o with
   | some T=>if used.all (fun p=>hangs ops o p.1||(p.2.all fun id=>!T.contains id)||(lightAt ops p.1&&p.2.all fun id=>!(killsOf S st o).contains id)) then execOps P tt S ops [o] st (fun st'=>execFl P tt S (lateL os (k+1)) 0 used st' (fun used' st''=>execCore QF ops os (k+1) used' rest st'' K)) else none
   | none=>if isStore o&&used.all (fun p=>hangs ops o p.1||p.2.isEmpty) then execOps P tt S ops [o] st (fun st'=>execFl P tt S (lateL os (k+1)) 0 used st' (fun used' st''=>execCore QF ops os (k+1) used' rest st'' K)) else none

def execF (QF:FuncId→Bool) (ops:Array Oper) (st:St) (K:St→Option R):Option R :=
 let os:=ops.toList.zipIdx.map fun p=>(p.1,if flAt QF ops p.2 then some (bsAt QF ops p.2) else none)
 execFl P tt S (lateL os 0) 0 [] st (fun used st'=>execCore P tt S QF ops os 0 used os st' K)

inductive Ex where
 | normal | exit (id:Nat) | ret

structure Scrub where
 keep:List Nat
 frz:List Nat:=[]
 mat:List (Nat×TypeId×Ty):=[]

inductive Tree where
 | leaf (e:Ex) (st:St)
 | br (b:Bool) (x y:Tree)
 | fail
def Tree.run:Tree→(Ex→St→Option R)→Option R
 | .leaf e st,K=>K e st
 | .br b x y,K=>cond b (x.run K) (y.run K)
 | .fail,_=>none
def Tree.res:Tree→Option (Ex×St)
 | .leaf e st=>some (e,st)
 | .br b x y=>cond b x.res y.res
 | .fail=>none

def iterD (f:St→Option (Ex×St)) (g:St→St):Nat→St→Option (Ex×St)
 | 0,_=>none
 | n+1,st=>match f (g st) with
  | some (.normal,st')=>iterD f g n st'
  | some (e,st')=>some (e,g st')
  | none=>none

def keepOnly (keep:List Nat):Nat→List AV→List AV
 | _,[]=>[]
 | i,a::r=>(if keep.contains i then a else .junk)::keepOnly keep (i+1) r

def St.scrub (s:Scrub) (h:Nat) (st:St):St :=
 { slots:=(keepOnly s.keep 0 st.slots).map (AV.kill fun id=>decide (h≤id)),heap:=(st.heap.take h).map (AObj.kill fun id=>decide (h≤id)),base:=st.base,killed:=st.killed }

def idsOf:Nat→Nat→List TypeId
 | 0,_=>[]
 | n+1,c=>cond (c==0) [] (c % 1000::idsOf n (c / 1000))
def rowsOr (E:TypeId) (ty:Ty):List TypeId→AObj
 | []=>.rows E true ty []
 | i::r=>.deep E (i::r) ty []
def nilRows (E:TypeId) (ty:Ty):AObj:=rowsOr (E % 10000000) ty (idsOf 6 (E / 10000000))
def matSlot (st:St) (m:Nat×TypeId×Ty):St :=
 match st.slots.getD m.1 .junk with
 | .raw (.slice none 0 0)=>{ st with slots:=st.slots.set m.1 (.all st.heap.length m.2.2.cells),heap:=st.heap++[nilRows m.2.1 m.2.2] }
 | .all id sz=>cond (m.2.1==1000000) { (st.freeze1 (.all id sz)).2 with slots:=(st.freeze1 (.all id sz)).2.slots.set m.1 (st.freeze1 (.all id sz)).1 } st
 | _=>st
def matCell (st:St) (b j:Nat) (E:TypeId) (ty:Ty):St :=
 match st.heap[b]? with
 | some (.box cs) =>
  match cs[j]? with
  | some (.raw (.slice none 0 0))=>{ st with heap:=(st.heap++[nilRows E ty]).set b (AObj.box (cs.set j (.all st.heap.length ty.cells))) }
  | _=>st
 | _=>st
def matOne (st:St) (m:Nat×TypeId×Ty):St :=
 cond (Nat.ble 2000000 m.1) (match st.slots.getD ((m.1 - 2000000) / 1000) .junk with
  | .ptr b _ _ _=>matCell st b ((m.1 - 2000000) % 1000) m.2.1 m.2.2
  | _=>st) (matSlot st m)

def execC (QF:FuncId→Bool) (L:Nat→St→Option Tree):Nat→Code→St→(Ex→St→Option R)→Option R
  | _,.skip,st,K=>K .normal st
  | _,.region _ ops draw,st,K =>
    if draw&&!drawOk QF ops then (if floatOk QF ops then execF P tt S QF ops st (K .normal) else none)
    else execOps P tt S ops ops.toList st (K .normal)
  | b,.seq x y,st,K=>execC QF L b x st (fun e st'=>match e with
    | .normal=>execC QF L b y st' K
    | e=>K e st')
  | b,.cond c x y,st,K =>
    match (st.ev c).asBool with
    | some v => cond v
        (execC QF L b x (st.known c true) K)
        (execC QF L b y (st.known c false) K)
    | none=>none
  | _,.block id x,st,K=>execC QF L id x st (fun e st'=>match e with
    | .exit id'=>if id'=id then K .normal st' else K (.exit id') st'
    | e=>K e st')
  | b,.loop _,st,K =>
    match L b st with
    | some t=>t.run K
    | none=>none
  | _,.exit id,st,K=>K (.exit id) st
  | _,.label _,st,K=>K .normal st
  | _,.ret,st,K=>K .ret st
  | _,_,_,_=>none

def loopsIn:Nat→Code→List (Nat×Code)
 | b,.seq x y=>loopsIn b x++loopsIn b y
 | b,.cond _ x y=>loopsIn b x++loopsIn b y
 | _,.block id x=>loopsIn id x
 | b,.loop x=>[(b,x)]
 | _,_=>[]
end
def bodyOf (fn:Func):Code:=match fn.body with
 | some c=>c
 | none=>.skip
end Go.Proofs.Ytccelbeahdcooaa.Eng
