/- The engine, part 3: what the interpreter's small functions are worth in the model. -/
import Derived.Test.YtccelbeahdcooaaE2
namespace Go.Proofs.Ytccelbeahdcooaa.Eng
open Go

def aggOf:TypeDesc→Bool
 | .struct _=>true
 | .array _ _=>true
 | _=>false
structure TDok (P:Program) (t:TypeId) (d:TD):Prop where
 ex:∃ i,P.info? t=some i∧i.size=d.size∧i.bytes=d.bytes∧∃ z,i.zero=some z∧z.cells.toList=d.zero∧(d.agg=false→d.zero=[z])
 und:P.underlying t=some d.desc
 agg:d.agg=aggOf d.desc
 one:d.zero.all (·.oneCell')=true
 len:d.zero.length=d.size

theorem TDok.mk' {P:Program} {t:TypeId} {size bytes:Nat} {agg:Bool} {desc:TypeDesc} {zero:List Value} {own:List TypeId} {z:Value} (h1:(P.info? t).map (fun i=>(i.size,i.bytes,i.zero))=some (size,bytes,some z)) (h2:P.underlying t=some desc)
  (h3:agg=aggOf desc) (h4:zero.all (·.oneCell')=true) (h5:zero.length=size) (h6:z.cells.toList=zero) (h7:agg=false→zero=[z]):TDok P t ⟨size,bytes,agg,desc,zero,own⟩:=by
 obtain ⟨i,hi,he⟩:=Option.map_eq_some_iff.1 h1
 simp only [Prod.mk.injEq] at he
 exact ⟨⟨i,hi,he.1,he.2.1,z,he.2.2,h6,h7⟩,h2,h3,h4,h5⟩

def TTok (P:Program) (tt:TT):Prop:=∀ t d,tt t=some d→TDok P t d
def TT.deep (tt:TT) (os:TypeId→List TypeId):TT:=fun t=>(tt t).map fun d=>{ d with own:=os t }
theorem TTok.deep {P:Program} {tt:TT} (h:TTok P tt) (os:TypeId→List TypeId):TTok P (tt.deep os):=by
 intro t d hd
 obtain ⟨d0,h0,rfl⟩:=Option.map_eq_some_iff.1 hd
 have:=h t d0 h0
 exact ⟨this.ex,this.und,this.agg,this.one,this.len⟩

section
variable {η:Env} {h:Nat} {w:World}

theorem Lay.down {Zs:Bool→Nat→Prop} (hz:∀ b,Zs true b→Zs false b) {f g:Bool} (hfg:g=true→f=true) {ty:Ty} {x:ty.den} {c:Nat→Option Value} (hl:Lay (Zs f) w ty x c):Lay (Zs g) w ty x c:=by
 refine Lay.mono (fun b hb=>?_) (fun _ _=>rfl) ty x c hl
 cases g with
 | true=>rw [hfg rfl] at hb;exact hb
 | false=>cases f with
  | true=>exact hz b hb
  | false=>exact hb

theorem toAVs_length (fr:Bool):∀ (t:Ty) (x:t.den),(t.toAVs fr x).length=t.cells:=by
 intro t
 induction t with
 | pair a b iha ihb=>intro x;simp only [Ty.toAVs,List.length_append,iha,ihb,Ty.cells]
 | _=>intro x;rfl

theorem one_eq {c:Nat→Option Value} {v:Value} (h:c 0=some v):∀ j,j<1→c j=(fun j=>if j=0 then some v else none) j:=by
 intro j hj;obtain rfl:j=0:=by omega
 simp [h]

theorem lay_one {Z:Nat→Prop} {t:Ty} (h1:t.cells=1) {x:t.den} {c:Nat→Option Value} (hl:Lay Z w t x c):∃ v,c 0=some v∧v.oneCell'=true∧Lay Z w t x (fun j=>if j=0 then some v else none):=by
 obtain ⟨v,hv,ho⟩:=hl.got t x c 0 (by omega)
 exact ⟨v,hv,ho,Lay.congr t x _ _ (by rw [h1];exact one_eq hv) hl⟩

theorem toAVs_rel (fr:Bool):∀ (t:Ty) (x:t.den) (c:Nat→Option Value),Lay (η.Z fr) w t x c→∀ j a,(t.toAVs fr x)[j]? = some a→∃ v,c j=some v∧v.oneCell'=true∧AVR η h w a v:=by
  intro t
  induction t with
  | pair a b iha ihb =>
    intro x c hl j y hj
    simp only [Ty.toAVs] at hj
    by_cases hlt:j<(a.toAVs fr x.1).length
    · rw [List.getElem?_append_left hlt] at hj
      exact iha x.1 c hl.1 j y hj
    · rw [List.getElem?_append_right (by omega)] at hj
      obtain ⟨v,hv,h1,h2⟩:=ihb x.2 _ hl.2 _ y hj
      refine ⟨v,?_,h1,h2⟩
      rw [← hv]
      show c j=c (a.cells+(j - _))
      rw [toAVs_length] at hlt ⊢
      congr 1;omega
  | int k =>
    intro x c hl j y hj
    cases j with
    | zero => obtain rfl : _ = y := by simpa [Ty.toAVs] using hj
              obtain ⟨v,hv,ho,hl'⟩:=lay_one rfl hl
              exact ⟨v,hv,ho,.t rfl (Lay.of_flat _ _ _ rfl hl')⟩
    | succ j=>simp [Ty.toAVs] at hj
  | bool =>
    intro x c hl j y hj
    cases j with
    | zero => obtain rfl : _ = y := by simpa [Ty.toAVs] using hj
              obtain ⟨v,hv,ho,hl'⟩:=lay_one rfl hl
              exact ⟨v,hv,ho,.t rfl (Lay.of_flat _ _ _ rfl hl')⟩
    | succ j=>simp [Ty.toAVs] at hj
  | str =>
    intro x c hl j y hj
    cases j with
    | zero => obtain rfl : _ = y := by simpa [Ty.toAVs] using hj
              obtain ⟨v,hv,ho,hl'⟩:=lay_one rfl hl
              exact ⟨v,hv,ho,.t rfl (Lay.of_flat _ _ _ rfl hl')⟩
    | succ j=>simp [Ty.toAVs] at hj
  | sl e ih =>
    intro x c hl j y hj
    cases j with
    | zero => obtain rfl : _ = y := by simpa [Ty.toAVs] using hj
              obtain ⟨v,hv,ho,hl'⟩:=lay_one rfl hl
              exact ⟨v,hv,ho,.t rfl hl'⟩
    | succ j=>simp [Ty.toAVs] at hj

theorem ofAVs_rel (hz:∀ b,η.Z true b→η.Z false b):∀ (t:Ty) (cs:List AV) (x:t.den) (f:Bool) (r:List AV) (c:Nat→Option Value),t.ofAVs cs=some (x,f,r) →
  (∀ j a,cs[j]? = some a→∃ v,c j=some v∧AVR η h w a v)→Lay (η.Z f) w t x c∧t.cells≤cs.length∧r=cs.drop t.cells:=by
 intro t
 induction t with
 | int k =>
  intro cs x f r c ho hc
  match cs,ho with
  | .t fr (.int k') y::r', ho =>
   simp only [Ty.ofAVs] at ho
   split at ho
   ·rename_i hk;subst hk
    simp only [Option.some.injEq,Prod.mk.injEq] at ho
    obtain ⟨rfl,rfl,rfl⟩:=ho
    obtain ⟨v,hv,ha⟩:=hc 0 _ rfl
    cases ha with
    | t h1 hl=>simp only [Lay,if_true] at hl ⊢;exact ⟨hv.trans hl,by simp [Ty.cells],by simp [Ty.cells]⟩
   ·cases ho
 | bool =>
  intro cs x f r c ho hc
  match cs,ho with
  | .t fr .bool y::r', ho =>
   simp only [Ty.ofAVs,Option.some.injEq,Prod.mk.injEq] at ho
   obtain ⟨rfl,rfl,rfl⟩:=ho
   obtain ⟨v,hv,ha⟩:=hc 0 _ rfl
   cases ha with
   | t h1 hl=>simp only [Lay,if_true] at hl ⊢;exact ⟨hv.trans hl,by simp [Ty.cells],by simp [Ty.cells]⟩
 | str =>
  intro cs x f r c ho hc
  match cs,ho with
  | .t fr .str y::r', ho =>
   simp only [Ty.ofAVs,Option.some.injEq,Prod.mk.injEq] at ho
   obtain ⟨rfl,rfl,rfl⟩:=ho
   obtain ⟨v,hv,ha⟩:=hc 0 _ rfl
   cases ha with
   | t h1 hl=>simp only [Lay,if_true] at hl ⊢;exact ⟨hv.trans hl,by simp [Ty.cells],by simp [Ty.cells]⟩
 | sl e ih =>
  intro cs x f r c ho hc
  match cs,ho with
  | .t fr (.sl e') y::r', ho =>
   simp only [Ty.ofAVs] at ho
   split at ho
   ·rename_i he;subst he
    simp only [Option.some.injEq,Prod.mk.injEq] at ho
    obtain ⟨rfl,rfl,rfl⟩:=ho
    obtain ⟨v,hv,ha⟩:=hc 0 _ rfl
    cases ha with
    | t h1 hl =>
     refine ⟨Lay.congr _ _ _ _ (fun j hj=>?_) hl,by simp [Ty.cells],by simp [Ty.cells]⟩
     obtain rfl:j=0:=by simp only [Ty.cells] at hj;omega
     simp [hv]
   ·cases ho
  | .raw (.slice A 0 c0)::r', ho =>
   simp only [Ty.ofAVs,Option.some.injEq,Prod.mk.injEq] at ho
   obtain ⟨rfl,rfl,rfl⟩:=ho
   obtain ⟨v,hv,ha⟩:=hc 0 _ rfl
   cases ha with
   | raw=>exact ⟨⟨A,c0,hv,by simp,.inl rfl⟩,by simp [Ty.cells],by simp [Ty.cells]⟩
 | pair a b iha ihb =>
  intro cs x f r c ho hc
  simp only [Ty.ofAVs] at ho
  obtain ⟨⟨x1,f1,r1⟩,h1,ho⟩:=Option.bind_eq_some_iff.1 ho
  obtain ⟨⟨x2,f2,r2⟩,h2,ho⟩:=Option.map_eq_some_iff.1 ho
  simp only [Prod.mk.injEq] at ho
  obtain ⟨rfl,rfl,rfl⟩:=ho
  obtain ⟨l1,n1,e1⟩:=iha cs x1 f1 r1 c h1 hc
  obtain ⟨l2,n2,e2⟩:=ihb r1 x2 f2 r2 (fun j=>c (a.cells+j)) h2 (fun j y hj=>hc (a.cells+j) y (by rw [e1,List.getElem?_drop] at hj;exact hj))
  refine ⟨⟨Lay.down hz (by simp;exact fun p _=>p) l1,Lay.down hz (by simp) l2⟩,?_,?_⟩
  ·simp only [Ty.cells];rw [e1,List.length_drop] at n2;omega
  ·rw [e2,e1,List.drop_drop];rfl

theorem ofValue_rel (v:Value):AVR η h w (.ofValue v) v:=by
 cases v with
 | int k n=>exact .t rfl (by simp [Lay])
 | bool b=>exact .t rfl (by simp [Lay])
 | string s=>exact .t rfl (by simp [Lay])
 | _=>exact .raw _

theorem toValue_rel {a:AV} {v u:Value} (hr:AVR η h w a v) (ht:a.toValue=some u):v=u:=by
 cases hr with
 | @t fr ty x v h1 hl =>
  cases ty with
  | int k=>simp only [AV.toValue,Option.some.injEq] at ht;simp only [Lay,if_true,Option.some.injEq] at hl;rw [hl,← ht]
  | bool=>simp only [AV.toValue,Option.some.injEq] at ht;simp only [Lay,if_true,Option.some.injEq] at hl;rw [hl,← ht]
  | str=>simp only [AV.toValue,Option.some.injEq] at ht;simp only [Lay,if_true,Option.some.injEq] at hl;rw [hl,← ht]
  | sl e=>simp [AV.toValue] at ht
  | pair a b=>simp [AV.toValue] at ht
 | raw=>simpa [AV.toValue] using ht
 | _=>simp [AV.toValue] at ht

theorem asBool_rel {a:AV} {v:Value} {b:Bool} (hr:AVR η h w a v) (ht:a.asBool=some b):v=.bool b:=by
 cases hr with
 | @t fr ty x v h1 hl =>
  cases ty with
  | bool=>simp only [AV.asBool,Option.some.injEq] at ht;simp only [Lay,if_true,Option.some.injEq] at hl;rw [hl,← ht]
  | _=>simp [AV.asBool] at ht
 | raw v=>cases v<;>simp [AV.asBool] at ht;rw [ht]
 | _=>simp [AV.asBool] at ht

theorem asInt_rel {a:AV} {v:Value} {n:Int} (hr:AVR η h w a v) (ht:a.asInt=some n):∃ k,v=.int k n:=by
 cases hr with
 | @t fr ty x v h1 hl =>
  cases ty with
  | int k=>simp only [AV.asInt,Option.some.injEq] at ht;simp only [Lay,if_true,Option.some.injEq] at hl;exact ⟨k,by rw [hl,← ht]⟩
  | _=>simp [AV.asInt] at ht
 | _=>simp [AV.asInt] at ht

theorem cell_rel {a:AV} {v:Value} (hr:AVR η h w a v) (hc:a.isCell=true) (hv:∀ id,id<h→∃ A n c,η.hv id=.slice A n c):v.oneCell'=true:=by
 cases hr with
 | @t fr ty x v h1 hl=>obtain ⟨u,hu,ho⟩:=hl.got ty x _ 0 (by omega);simp only [if_true,Option.some.injEq] at hu;rw [hu];exact ho
 | raw=>simpa [AV.isCell] using hc
 | all hid=>obtain ⟨A,n,c,e⟩:=hv _ hid;rw [e];rfl
 | arr=>rfl
 | pre=>rfl
 | ptr=>rfl
 | rop=>rfl
 | fn=>rfl
 | agg=>simp [AV.isCell] at hc
 | tup=>simp [AV.isCell] at hc
 | nest=>simp [AV.isCell] at hc
 | junk=>simp [AV.isCell] at hc

theorem pureSem_run {α:Type} (P:Program):∀ (s:Sem α) (x:α),pureSem P s=some x→∀ w,s.run P w=.ok x w:=by
 intro s
 induction s with
 | pure a=>intro x hx w;simp only [pureSem,Option.some.injEq] at hx;rw [hx];rfl
 | program k ih=>intro x hx w;simp only [pureSem] at hx;exact ih P x hx w
 | _=>intro x hx;simp [pureSem] at hx
end
end Go.Proofs.Ytccelbeahdcooaa.Eng
