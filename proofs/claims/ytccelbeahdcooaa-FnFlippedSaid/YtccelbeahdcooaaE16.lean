/- The engine, part 16: functions' contracts. -/
import Derived.Test.YtccelbeahdcooaaE36
namespace Go.Proofs.Ytccelbeahdcooaa.Eng
open Go Go.RowKit
set_option linter.unusedSimpArgs false
set_option linter.unusedVariables false

def resOne (tt:TT) (st:St):ResultVar→Option AV
 | .tmp t=>some (st.slots.getD t .junk)
 | .cell a t =>
  match tt t with
  | some d=>match st.slots.getD a .junk with
   | .ptr id row sz sub=>(st.read d.size (.ptr id row sz sub)).bind (packed d)
   | _=>none
  | none=>none
def resList (tt:TT) (st:St):List ResultVar→Option (List AV)
 | []=>some []
 | x::r=>(resOne tt st x).bind fun a=>(resList tt st r).map fun l=>a::l
def resAV (tt:TT) (fn:Func) (st:St):Option AV :=
 (resList tt st fn.results.toList).map fun l=>match l with
  | [x]=>x
  | l=>.tup l

def resVal (tmps:Array Value):ResultVar→Sem Value
 | .tmp t=>pure (tmps.getD t undef)
 | .cell a t=>do loadVar t (← asAddr (tmps.getD a undef))
theorem results_eq (fn:Func) (tmps:Array Value):results fn tmps=(do
  let vs ← fn.results.mapM (resVal tmps)
  pure (if h:vs.size=1 then vs[0] else .tuple vs)):=by
 unfold results
 congr 1

def startSlots (fn:Func) (args:List AV):List AV:=args++List.replicate (fn.ntmps - args.length) (.raw undef)

def resSlots (fn:Func):List Nat:=fn.results.toList.map fun
 | .tmp t=>t
 | .cell a _=>a
def finM (tt:TT) (fn:Func) (e:Ex) (st:St):Option (AV×List AObj×List Nat) :=
 match e with
 | .exit _=>none
 | _=>(resAV tt fn (st.compact (resSlots fn))).map fun r=>((matR false tt fn.resultTypes.toList r (st.compact (resSlots fn))).1,(matR false tt fn.resultTypes.toList r (st.compact (resSlots fn))).2.heap,(matR false tt fn.resultTypes.toList r (st.compact (resSlots fn))).2.killed)

def runM (P:Program) (tt:TT) (S:Tab) (QF:FuncId→Bool) (L:Nat→St→Option Tree) (fn:Func) (args:List AV) (H:List AObj):Option (AV×List AObj×List Nat) :=
 match fn.body with
 | some c=>execC P tt S QF L 0 c { slots:=startSlots fn args,heap:=H,base:=H.length,killed:=[] } (finM tt fn)
 | none=>none

section
variable {P:Program} {N:Nat→Prop} {w0:World} {η0:Env} {h0:Nat} {we:World} {R:Type}
variable {η:Env} {st:St} {a:Act} {w:World} {r:R} {tt:TT} {S:Tab} {QF:FuncId→Bool}

theorem resOne_rel [DF] (hT:TTok P tt) (s:SR N w0 η0 h0 we η st a w) {x:ResultVar} {r:AV} (h:resOne tt st x=some r) :
  ∃ v,(resVal a.tmps x).run P w=.ok v w∧AVR η st.heap.length w r v:=by
 cases x with
 | tmp t =>
  simp only [resOne,Option.some.injEq] at h
  subst h
  exact ⟨_,rfl,ev_slot s t⟩
 | cell b t =>
  simp only [resOne] at h
  split at h
  ·rename_i d hd
   split at h
   ·rename_i id row sz sub hp
    obtain ⟨cs,h1,h2⟩:=Option.bind_eq_some_iff.1 h
    have hr:=ev_slot s b
    rw [hp] at hr
    obtain ⟨ad,e1,e2,e3⟩:=read_rel (S:=st.slots) (bs:=st.base) (kl:=st.killed) s.inv h1 hr
    obtain ⟨vs,v1,v2,v3⟩:=vals_of e3
    obtain ⟨p1,p2,p3⟩:=packed_rel h2 v1 v3
    have hl:=run_loadVar' (hT t d hd) w vs (by omega) v2 p2
    exact ⟨_,by simp [resVal,e1,asAddr,hl],p3⟩
   ·cases h
  ·cases h

theorem resList_rel [DF] (hT:TTok P tt) (s:SR N w0 η0 h0 we η st a w):∀ (l:List ResultVar) (rs:List AV),resList tt st l=some rs →
    ∃ vs:List Value,(l.mapM (resVal a.tmps)).run P w=.ok vs w∧vs.length=rs.length∧∀ i r,rs[i]? = some r→AVR η st.heap.length w r (vs.getD i undef):=by
  intro l
  induction l with
  | nil =>
    intro rs h
    simp only [resList,Option.some.injEq] at h
    subst h
    exact ⟨[],rfl,rfl,fun i r hi=>by simp at hi⟩
  | cons x l ih =>
    intro rs h
    simp only [resList] at h
    obtain ⟨r0,h1,h2⟩:=Option.bind_eq_some_iff.1 h
    obtain ⟨rs', h3,rfl⟩:=Option.map_eq_some_iff.1 h2
    obtain ⟨v,hv,rv⟩:=resOne_rel hT s h1
    obtain ⟨vs,q1,q2,q3⟩:=ih rs' h3
    refine ⟨v::vs,?_,by simp [q2],fun i r hi=>?_⟩
    · rw [List.mapM_cons,Sem.run_bind,hv]
      simp [q1]
    · cases i with
      | zero => obtain rfl : r0 = r := by simpa using hi
                exact rv
      | succ i=>simpa using q3 i r (by simpa using hi)

theorem resAV_rel [DF] (hT:TTok P tt) (s:SR N w0 η0 h0 we η st a w) {fn:Func} {r:AV} (h:resAV tt fn st=some r):∃ v,(results fn a.tmps).run P w=.ok v w∧AVR η st.heap.length w r v:=by
 simp only [resAV] at h
 obtain ⟨rs,h1,h2⟩:=Option.map_eq_some_iff.1 h
 obtain ⟨vs,q1,q2,q3⟩:=resList_rel hT s _ _ h1
 have hrun:(results fn a.tmps).run P w=.ok (if h:vs.toArray.size=1 then vs.toArray[0] else .tuple vs.toArray) w:=by
  rw [results_eq,Array.mapM_eq_mapM_toList]
  simp [q1]
 refine ⟨_,hrun,?_⟩
 match rs,vs,q2,q3,h2 with
 | [x],[v],_,q3,h2 =>
  simp only at h2
  subst h2
  simpa using q3 0 x rfl
 | [],[],_,_,h2 =>
  simp only at h2
  subst h2
  exact .tup rfl (fun i c hc=>by simp at hc)
 | x::y::l,vs,q2,q3,h2 =>
  simp only at h2
  subst h2
  have hne:¬ vs.toArray.size=1:=by simp;rw [q2];simp
  rw [dif_neg hne]
  exact .tup (by simpa using q2) (fun i c hc=>by
   have:=q3 i c hc
   simpa [Array.getD_eq_getD_getElem?,List.getD_eq_getElem?_getD] using this)

theorem SR.start [DF] {args:List AV} {H:List AObj} (I:Inv N w0 η H w) {vs:Array Value} (hl:vs.size=args.length) (hr:∀ i c,args[i]? = some c→AVR η H.length w c (vs.getD i undef)) (fn:Func) :
  SR N w0 η H.length w η { slots:=startSlots fn args,heap:=H,base:=H.length,killed:=[] } { tmps:=vs++Array.replicate (fn.ntmps - vs.size) undef,defers:=default } w:=by
 refine ⟨I,⟨fun id hid _=>⟨hid,rfl,rfl,rfl⟩,fun _ _ h=>h,fun _ _ _=>rfl,fun _ h=>.inl h,fun _ _ _=>rfl⟩,⟨by simp [startSlots,hl],fun i c hc=>?_,rfl⟩,rfl⟩
 simp only [startSlots] at hc
 by_cases hlt:i<args.length
 ·rw [List.getElem?_append_left hlt] at hc
  have e:(vs++Array.replicate (fn.ntmps - vs.size) undef).getD i undef=vs.getD i undef:=by
   rw [Array.getD_eq_getD_getElem?,Array.getElem?_append_left (by omega),← Array.getD_eq_getD_getElem?]
  rw [e];exact hr i c hc
 ·rw [List.getElem?_append_right (by omega)] at hc
  have h2:c=.raw undef∧i - args.length<fn.ntmps - args.length:=by simp [List.getElem?_replicate] at hc;exact ⟨hc.2.symm,hc.1⟩
  have e:(vs++Array.replicate (fn.ntmps - vs.size) undef).getD i undef=undef:=getD_some (by
   rw [Array.getElem?_append_right (by omega),Array.getElem?_replicate,if_pos (by omega)])
  rw [e,h2.1];exact .raw _

theorem runM_sound (G:Good P tt S QF) {f:FuncId} {fn:Func} (hf:P.funcs[f]? = some fn) {L:Nat→St→Option Tree} (hL:∀ p∈loopsIn 0 (bodyOf fn),LoopWp P (L p.1) p.2) {args:List AV} {H:List AObj} {r:AV} {H':List AObj} {ks:List Nat}
  (h:runM P tt S QF L fn args H=some (r,H', ks)) (I:Inv N w0 η H w) {vs:Array Value} (hl:vs.size=args.length) (hr:∀ i c,args[i]? = some c→AVR η H.length w c (vs.getD i undef)) :
  Calls P f vs w fun e w'=>∃ v η', e=.returned v∧Inv N w0 η' H' w'∧Ext ks.contains η H.length w η' H'.length w'∧AVR η' H'.length w' r v:=by
 simp only [runM] at h
 split at h
 ·rename_i c hc
  refine calls_of_wp hf hc ?_
  have fin:∀ (st':St) (η':Env) (a':Act) (w':World),(resAV tt fn (st'.compact (resSlots fn))).map (fun r=>((matR false tt fn.resultTypes.toList r (st'.compact (resSlots fn))).1,(matR false tt fn.resultTypes.toList r (st'.compact (resSlots fn))).2.heap,(matR false tt fn.resultTypes.toList r (st'.compact (resSlots fn))).2.killed))=some (r,H', ks)→SR N w0 η H.length w η' st' a' w'→a'.defers=[]∧∃ v,(results fn a'.tmps).run P w'=.ok v w'∧∃ v1 η', Ending.returned v=.returned v1∧Inv N w0 η' H' w'∧Ext ks.contains η H.length w η' H'.length w'∧AVR η' H'.length w' r v1:=by
   intro st' η' a' w' hk s'
   obtain ⟨η', s'⟩:=s'.compact (resSlots fn)
   obtain ⟨r1,g1,g2⟩:=Option.map_eq_some_iff.1 hk
   simp only [Prod.mk.injEq] at g2
   obtain ⟨rfl,rfl,rfl⟩:=g2
   obtain ⟨v,v1,v2⟩:=resAV_rel G.types s' g1
   obtain ⟨η2,s2,v3⟩:=s'.matR (tt:=tt) (ro:=false) (ts:=fn.resultTypes.toList) v2
   exact ⟨s'.sl.defers,v,v1,v,η2,rfl,s2.inv,s2.ext,v3⟩
  refine execC_sound G L c 0 _ _ _ η _ w (by simpa [bodyOf,hc] using hL) h ?_ (SR.start I hl hr fn)
  intro e st' η' a' w' hk s'
  cases e with
  | normal=>exact fin st' η' a' w' hk s'
  | ret=>exact fin st' η' a' w' hk s'
  | exit id=>simp [finM] at hk
 ·cases h

theorem MContract.of_run (G:Good P tt S QF) {f:FuncId} {fn:Func} (hf:P.funcs[f]? = some fn) {L:Nat→St→Option Tree} (hL:∀ p∈loopsIn 0 (bodyOf fn),LoopWp P (L p.1) p.2) {sm:Summ} (h:∀ args H r H' ks,sm args H=some (r,H', ks,true)→runM P tt S QF L fn args H=some (r,H', ks)):MContract P f sm:=by
 intro args H r H' Kf hsm N w0 η w vs I hl hr
 exact runM_sound G hf hL (h args H _ _ _ hsm) I hl hr

def toRes1 (H:List AObj) (a:AV) (Hn:List AObj):Option (AV×List AObj×List AObj) :=
 match a with
 | .all id sz =>
  match H[id]? with
  | some (.rows E fr e l)=>if e.cells=sz then some (.all Hn.length sz,H.set id .dead,Hn++[.rows E fr e l]) else none
  | some (.deep E Es e l)=>if e.cells=sz then some (.all Hn.length sz,H.set id .dead,Hn++[.deep E Es e l]) else none
  | _=>none
 | .arr id sz lo n =>
  match H[id]? with
  | some (.rows E fr e l)=>if e.cells=sz then some (.arr Hn.length sz lo n,H.set id .dead,Hn++[.rows E fr e l]) else none
  | _=>none
 | .ptr id row sz sub =>
  match H[id]? with
  | some (.rows E fr e l)=>if e.cells=sz then some (.ptr Hn.length row sz sub,H.set id .dead,Hn++[.rows E fr e l]) else none
  | _=>none
 | .pre id sz n =>
  match H[id]? with
  | some (.rows E fr e l)=>if e.cells=sz then some (.all Hn.length sz,H.set id .dead,Hn++[.rows E fr e (l.take n)]) else none
  | _=>none
 | .t fr ty x=>some (.t fr ty x,H,Hn)
 | .raw v=>some (.raw v,H,Hn)
 | _=>none
def toResL (H:List AObj):List AV→List AObj→Option (List AV×List AObj×List AObj)
 | [],Hn=>some ([],H,Hn)
 | a::r,Hn=>(toRes1 H a Hn).bind fun p=>(toResL p.2.1 r p.2.2).map fun q=>(p.1::q.1,q.2)
def toRes2 (H:List AObj) (a:AV) (Hn:List AObj):Option (AV×List AObj×List AObj) :=
 match a with
 | .agg cs=>(toResL H cs Hn).map fun q=>(.agg q.1,q.2)
 | a=>toRes1 H a Hn
def toResT (H:List AObj):List AV→List AObj→Option (List AV×List AObj×List AObj)
 | [],Hn=>some ([],H,Hn)
 | a::r,Hn=>(toRes2 H a Hn).bind fun p=>(toResT p.2.1 r p.2.2).map fun q=>(p.1::q.1,q.2)
def toRes (H:List AObj) (a:AV):Option (AV×List AObj) :=
 match a with
 | .tup cs=>(toResT H cs []).map fun q=>(.tup q.1,q.2.2)
 | a=>(toRes2 H a []).map fun q=>(q.1,q.2.2)
end
end Go.Proofs.Ytccelbeahdcooaa.Eng
