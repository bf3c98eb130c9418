/- The engine, part 19: regions whose order is open. -/
import Derived.Test.YtccelbeahdcooaaE15
import Derived.Orders
namespace Go.Proofs.Ytccelbeahdcooaa.Eng
open Go Go.RowKit
set_option linter.unusedSimpArgs false
set_option linter.unusedVariables false

section
variable {R:Type} (P:Program) (tt:TT) (S:Tab)
def evalOpG (ev:Operand→AV) (H:List AObj) (o:Oper) (K:AV→Option R):Option R :=
 match o.op with
 | .move x=>K (ev x)
 | .assign x=>K (ev x)
 | .pick c a b =>
  match (ev c).asBool with
  | some v=>cond v (K (ev a)) (K (ev b))
  | none=>none
 | .build t parts =>
  match tt t with
  | some d =>
   match d.desc with
   | .struct fs =>
    if fs.toList.all (fun f=>(tt f.type).isSome) then
    match fillAV (d.zero.map AV.ofValue) (fun i=>(fieldOf tt t i).map fun p=>(p.1,p.2.size)) (parts.toList.map fun p=>(p.1,ev p.2)) with
    | some cs=>K (.agg cs)
    | none=>none
    else none
   | .array _ _ =>
    if (arrK tt d).isSome then
    match fillAV (d.zero.map AV.ofValue) (fun i=>some (i*1,1)) (parts.toList.map fun p=>(p.1,ev p.2)) with
    | some cs=>K (.agg cs)
    | none=>none
    else none
   | _=>none
  | none=>none
 | .load t a =>
  match tt t with
  | some d=>match St.read ⟨[],H,0,[]⟩ d.size (ev a) with
   | some cs=>match packed d cs with
    | some v=>K v
    | none=>none
   | none=>match arrLoad tt d H (ev a) with
    | some (b,v)=>cond b (K v) none
    | none=>none
  | none=>none
 | .nilCheck x =>
  match ev x with
  | .ptr id row sz sub=>K (.ptr id row sz sub)
  | .rop fr e l row off=>K (.rop fr e l row off)
  | _=>none
 | .fieldAddr s x f =>
  match fieldOf tt s f,ev x with
  | some (off,_),.ptr id row sz sub=>K (.ptr id row sz (sub+off))
  | some (off,_),.rop fr e l row o=>K (.rop fr e l row (o+off))
  | _,_=>none
 | .field s x f =>
  match fieldOf tt s f,ev x with
  | some (off,d),.agg cs=>match packed d ((cs.drop off).take d.size) with
   | some v=>K v
   | none=>none
  | _,_=>none
 | .indexAddr t x i =>
  match elemOf' tt t,(ev i).asInt with
  | some (_,d),some n =>
   match ev x with
   | .t fr (.sl e) l=>if e.cells=d.size then cond (decide (0≤n∧n<(l.length:Int))) (K (.rop fr e l n.toNat 0)) none else none
   | .all id sz =>
    match H[id]? with
    | some (.rows _ _ e l)=>if e.cells=d.size&&e.cells=sz then cond (decide (0≤n∧n<(l.length:Int))) (K (.ptr id n.toNat sz 0)) none else none
    | some (.deep _ _ e l)=>if e.cells=d.size&&e.cells=sz then cond (decide (0≤n∧n<(l.length:Int))) (K (.ptr id n.toNat sz 0)) none else none
    | _=>none
   | .arr id sz lo k =>
    match H[id]? with
    | some (.rows _ _ e _)=>if e.cells=d.size&&e.cells=sz then cond (decide (0≤n∧n<(k:Int))) (K (.ptr id (lo+n.toNat) sz 0)) none else none
    | _=>none
   | .pre id sz k =>
    match H[id]? with
    | some (.rows _ _ e l)=>if e.cells=d.size&&e.cells=sz then cond (decide (0≤n∧n<(k:Int)∧n<(l.length:Int))) (K (.ptr id n.toNat sz 0)) none else none
    | _=>none
   | _=>none
  | none,some n=>match arrAddr tt t H (ev x) n with
   | some (b,v)=>cond b (K v) none
   | none=>none
  | _,_=>none
 | .index t x i =>
  match descOf tt t,ev x,(ev i).asInt with
  | some .string,.t _ .str s,some n=>cond (decide (0≤n∧n<(s.size:Int))) (K (.t true (.int .u8) (bt s n))) none
  | some (.array _ _),y,some n=>match arrIdx tt t y n with
   | some (b,v)=>cond b (K v) none
   | none=>none
  | _,_,_=>none
 | .extract x i =>
  match ev x with
  | .tup cs=>match cs[i]? with
   | some c=>K c
   | none=>none
  | _=>none
 | .slice t x lo hi mx =>
  match mx with
  | some _=>none
  | none =>
   match (ev x).len H with
   | none=>none
   | some n =>
    match (match hi with | none=>some (n:Int) | some h=>(ev h).asInt),(match lo with | none=>some (0:Int) | some h=>(ev h).asInt) with
    | some h,some l =>
     match descOf tt t,ev x with
     | some .string,.t _ .str s=>cond (decide (0≤l∧l≤h∧h≤(n:Int))) (K (.t true .str (s.extract l.toNat h.toNat))) none
     | some (.slice E),.t fr (.sl e) xs=>match tt E with
      | some d=>if e.cells=d.size then cond (decide (0≤l∧l≤h∧h≤(n:Int))) (K (.t fr (.sl e) ((xs.take h.toNat).drop l.toNat))) none else none
      | none=>none
     | some (.slice E),.all id sz=>match tt E with
      | some d=>if sz=d.size then cond (decide (0≤l∧l≤h∧h≤(n:Int))) (K (cutAV lo id sz l h)) none else none
      | none=>none
     | some (.slice E),.arr id sz o _=>match tt E with
      | some d=>if sz=d.size then cond (decide (0≤l∧l≤h∧h≤(n:Int))) (K (.arr id sz (o+l.toNat) (h.toNat - l.toNat))) none else none
      | none=>none
     | some (.slice E),.pre id sz _=>match tt E,H[id]? with
      | some d,some (.rows _ _ e xs)=>if sz=d.size&&e.cells=sz then cond (decide (0≤l∧l≤h∧h≤(xs.length:Int))) (K (cutAV lo id sz l h)) none else none
      | _,_=>none
     | _,_=>none
    | _,_=>none
 | .makeFunc (.func f) first captured =>
  if first.isEmpty&&(captured.toList.map ev).all AV.isCell then K (.fn f (captured.toList.map ev)) else none
 | .binOp op t x y _ =>
  match (ev x).toValue,(ev y).toValue with
  | some a,some b=>match binSp op a b with
   | some (c,v)=>cond c (K (.ofValue v)) none
   | none=>match pureSem P (do eqGuard op t x y a b;binOp op t a b) with
    | some v=>K (.ofValue v)
    | none=>none
  | _,_ =>
   match cmpSp P tt H op t (ev x) (ev y) with
   | some (c,b)=>cond c (K (.t true .bool b)) none
   | none=>none
 | .unOp op _ x =>
  match (ev x).toValue with
  | some a=>match pureSem P (Op.unary op a) with
   | some v=>K (.ofValue v)
   | none=>none
  | none=>none
 | .convert src dst x =>
  match (ev x).toValue with
  | some a=>match pureSem P (convert src dst a) with
   | some v=>K (.ofValue v)
   | none=>none
  | none =>
   match view1 H (ev x),descOf tt src,descOf tt dst with
   | .t _ (.sl (.int .u8)) l,some (.slice E),some .string=>match descOf tt E with
    | some (.int .u8)=>K (.t true .str ⟨(l.map fun n=>UInt8.ofNat n.toNat).toArray⟩)
    | _=>none
   | _,_,_=>none
 | .call c =>
  match c.callee with
  | .builtin .len=>match c.args.toList,c.argTypes.toList with
   | [x],[t]=>match descOf tt t,(ev x).len H with
    | some d,some n=>if lenOk d (ev x) then K (.t true (.int .i64) (n:Int)) else none
    | _,_=>none
   | _,_=>none
  | .builtin .max=>match (c.args.toList.map fun x=>(ev x).toValue) with
   | [some u,some v]=>match pureSem P (Builtin.max_ c.argTypes o.type #[u,v]) with
    | some v=>K (.ofValue v)
    | none=>none
   | _=>none
  | .builtin .min=>match (c.args.toList.map fun x=>(ev x).toValue) with
   | [some u,some v]=>match pureSem P (Builtin.min_ c.argTypes o.type #[u,v]) with
    | some v=>K (.ofValue v)
    | none=>none
   | _=>none
  | .value f =>
   match ev f with
   | .fn g caps =>
    match S g with
    | some s=>match s (c.args.toList.map ev++caps) H with
     | some (r,_,_,b)=>cond b (K r) none
     | none=>none
    | none=>none
   | _=>none
  | _=>none
 | _=>none

end

def QuietTab (S:Tab) (QF:FuncId→Bool):Prop:=∀ g s,QF g=true→S g=some s→∀ args H r H' ks b,s args H=some (r,H', ks,b)→H'=H∧ks=[]

section
variable {P:Program} {tt:TT} {S:Tab} {QF:FuncId→Bool} {R:Type} {R':Type}

theorem evalOp_G (hQ:QuietTab S QF) {o:Oper} (hq:quietOp QF o=true) (st:St) (K:AV→St→Option R):evalOp P tt S st o K=evalOpG P tt S st.ev st.heap o (fun v=>K v st):=by
 have hread:∀ n p,St.read ⟨[],st.heap,0,[]⟩ n p=st.read n p:=fun n p=>by cases p<;>rfl
 unfold quietOp at hq
 cases ho:o.op with
 | call c =>
  rw [ho] at hq
  simp only at hq
  cases hc:c.callee with
  | builtin b=>cases b<;>simp [hc] at hq<;>simp only [evalOp,evalOpG,ho,hc]<;>rfl
  | value f =>
   cases f with
   | func g =>
    simp only [hc] at hq
    simp only [evalOp,evalOpG,ho,hc,St.ev]
    cases hs:S g with
    | none=>rfl
    | some s =>
     simp only []
     cases hr:s (c.args.toList.map st.ev++[]) st.heap with
     | none=>rfl
     | some p =>
      obtain ⟨r,H', ks,b⟩:=p
      obtain ⟨rfl,rfl⟩:=hQ g s hq hs _ _ _ _ _ _ hr
      rfl
   | _=>simp [hc] at hq
  | invoke r m=>simp [hc] at hq
 | load t a=>simp only [evalOp,evalOpG,ho,hread]<;>rfl
 | slice t x lo hi mx =>
  cases mx with
  | some m=>rw [ho] at hq;simp at hq
  | none=>simp only [evalOp,evalOpG,ho]<;>rfl
 | makeFunc f a b=>cases f<;>simp only [evalOp,evalOpG,ho]<;>rfl
 | alloc _=>rw [ho] at hq;simp at hq
 | _=>first | (simp only [evalOp,evalOpG,ho];done) | (simp only [evalOp,evalOpG,ho];rfl) | (rw [ho] at hq;simp at hq)
end
end Go.Proofs.Ytccelbeahdcooaa.Eng
