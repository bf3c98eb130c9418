/- The engine, part 37: functions that turn what they are handed, with read-only answers. -/
import Derived.Test.YtccelbeahdcooaaE30
namespace Go.Proofs.Ytccelbeahdcooaa.Eng
open Go Go.RowKit
set_option linter.unusedSimpArgs false
set_option linter.unusedVariables false

def AV.bare1:AV→Bool
 | .t _ _ _=>true
 | .raw _=>true
 | _=>false
def AV.bare2:AV→Bool
 | .agg cs=>cs.all AV.bare1
 | a=>a.bare1
def AV.bare:AV→Bool
 | .tup cs=>cs.all AV.bare2
 | a=>a.bare2

theorem AVR.bare1 {η η':Env} (hz:η'.Z=η.Z) {h h':Nat} {w:World} {a:AV} {v:Value} (hb:a.bare1=true) (r:AVR η h w a v):AVR η' h' w a v:=by
 cases r with
 | t h1 hl=>exact .t h1 (by rw [hz];exact hl)
 | raw=>exact .raw _
 | _=>simp [AV.bare1] at hb
theorem AVR.bare2 {η η':Env} (hz:η'.Z=η.Z) {h h':Nat} {w:World} {a:AV} {v:Value} (hb:a.bare2=true) (r:AVR η h w a v):AVR η' h' w a v:=by
 cases r with
 | t h1 hl=>exact .t h1 (by rw [hz];exact hl)
 | raw=>exact .raw _
 | agg hsz hc =>
  simp only [AV.bare2,List.all_eq_true] at hb
  exact .agg hsz (fun i c hi=>(hc i c hi).bare1 hz (hb c (List.mem_of_getElem? hi)))
 | _=>simp [AV.bare2,AV.bare1] at hb
theorem AVR.bare {η η':Env} (hz:η'.Z=η.Z) {h h':Nat} {w:World} {a:AV} {v:Value} (hb:a.bare=true) (r:AVR η h w a v):AVR η' h' w a v:=by
 cases r with
 | t h1 hl=>exact .t h1 (by rw [hz];exact hl)
 | raw=>exact .raw _
 | agg hsz hc=>exact AVR.bare2 hz hb (.agg hsz hc)
 | tup hsz hc =>
  simp only [AV.bare,List.all_eq_true] at hb
  exact .tup hsz (fun i c hi=>(hc i c hi).bare2 hz (hb c (List.mem_of_getElem? hi)))
 | _=>simp [AV.bare,AV.bare2,AV.bare1] at hb

def finMR (tt:TT) (fn:Func) (dl:List AV) (e:Ex) (st:St):Option (AV×List AObj×List Nat) :=
 match e with
 | .exit _=>none
 | _=>(resAV tt fn (st.compact (resSlots fn))).bind fun r0 =>
  let p:=roRes true (st.compact (resSlots fn)) (coer true tt fn.resultTypes.toList r0)
  cond p.1.bare (some (p.1,((St.freezeL dl p.2).2.compact []).heap,((St.freezeL dl p.2).2.compact []).killed)) none

def runMR (P:Program) (tt:TT) (S:Tab) (QF:FuncId→Bool) (L:Nat→St→Option Tree) (fn:Func) (args:List AV) (H:List AObj) (dl:List AV:=[]):Option (AV×List AObj×List Nat) :=
 match fn.body with
 | some c=>execC P tt S QF L 0 c { slots:=startSlots fn args,heap:=H,base:=H.length,killed:=[] } (finMR tt fn dl)
 | none=>none

section
variable {P:Program} {N:Nat→Prop} {w0:World} {η:Env} {w:World} {tt:TT} {S:Tab} {QF:FuncId→Bool}

theorem runMR_sound (G:Good P tt S QF) {f:FuncId} {fn:Func} (hf:P.funcs[f]? = some fn) {L:Nat→St→Option Tree} (hL:∀ p∈loopsIn 0 (bodyOf fn),LoopWp P (L p.1) p.2) {args:List AV} {H:List AObj} {r:AV} {H':List AObj} {ks:List Nat} {dl:List AV}
    (h:runMR P tt S QF L fn args H dl=some (r,H', ks)) (I:Inv N w0 η H w) {vs:Array Value} (hl:vs.size=args.length) (hr:∀ i c,args[i]? = some c→AVR η H.length w c (vs.getD i undef)) :
    Calls P f vs w fun e w'=>∃ v η', e=.returned v∧Inv N w0 η' H' w'∧Ext ks.contains η H.length w η' H'.length w'∧AVR η' H'.length w' r v:=by
  simp only [runMR] at h
  split at h
  · rename_i c hc
    refine calls_of_wp hf hc ?_
    have fin : ∀ (st' : St) (η' : Env) (a' : Act) (w' : World), ((resAV tt fn (st'.compact (resSlots fn))).bind fun r0 =>
        let p:=roRes true (st'.compact (resSlots fn)) (coer true tt fn.resultTypes.toList r0)
        cond p.1.bare (some (p.1,((St.freezeL dl p.2).2.compact []).heap,((St.freezeL dl p.2).2.compact []).killed)) none)=some (r,H', ks)→SR N w0 η H.length w η' st' a' w' →
        a'.defers=[]∧∃ v,(results fn a'.tmps).run P w'=.ok v w'∧∃ v1 η', Ending.returned v=.returned v1∧Inv N w0 η' H' w'∧Ext ks.contains η H.length w η' H'.length w'∧AVR η' H'.length w' r v1:=by
      intro st' η' a' w' hk s'
      obtain ⟨η', s'⟩:=s'.compact (resSlots fn)
      obtain ⟨r1,g1,g2⟩:=Option.bind_eq_some_iff.1 hk
      simp only at g2
      obtain ⟨v,v1,v2⟩:=resAV_rel G.types s' g1
      obtain ⟨η2,s2,r2⟩:=s'.roRes true (coer true tt fn.resultTypes.toList r1)
      cases hb:(roRes true (st'.compact (resSlots fn)) (coer true tt fn.resultTypes.toList r1)).1.bare with
      | false=>rw [hb] at g2;cases g2
      | true =>
        rw [hb] at g2
        simp only [cond_true,Option.some.injEq,Prod.mk.injEq] at g2
        obtain ⟨rfl,rfl,rfl⟩:=g2
        obtain ⟨η4,s4,x4,_⟩:=s2.freezeL dl
        obtain ⟨η3,s3,hz⟩:=s4.compactZ []
        exact ⟨s'.sl.defers,v,v1,v,η3,rfl,s3.inv,s3.ext,((r2 _ (coer_rel v2)).ext x4).bare hz hb⟩
    refine execC_sound G L c 0 _ _ _ η _ w (by simpa [bodyOf,hc] using hL) h ?_ (SR.start I hl hr fn)
    intro e st' η' a' w' hk s'
    cases e with
    | normal=>exact fin st' η' a' w' hk s'
    | ret=>exact fin st' η' a' w' hk s'
    | exit id=>simp [finMR] at hk
  · cases h

theorem MContract.of_dataRD (dl:List AV) (G:Good P tt S QF) {f:FuncId} {fn:Func} (hf:P.funcs[f]? = some fn) {L:Nat→St→Option Tree} (hL:∀ p∈loopsIn 0 (bodyOf fn),LoopWp P (L p.1) p.2)
  (s:SS) (pre:s.den→Bool) (g:s.den→AV×List AObj×List Nat) (h:∀ d,pre d=true→runMR P tt S QF L fn (shsMk s.sl d.1) (ohsMk s.hp d.2) dl=some (g d)):MContract P f (msum s pre g):=by
 intro args H r H' Kf hsm N w0 η w vs I hl hr
 simp only [msum] at hsm
 split at hsm
 ·rename_i x y hx hy
  simp only [Option.some.injEq,Prod.mk.injEq] at hsm
  obtain ⟨h1,h2,h3,hp⟩:=hsm
  obtain rfl:=ohsRd_eq _ _ _ hy
  obtain ⟨q1,q2⟩:=shsRdC_rel I (h:=(ohsMk s.hp y).length) s.sl args x hx
  have hrun:=h (x,y) hp
  have e:g (x,y)=(r,H', Kf):=by rw [← h1,← h2,← h3]
  rw [e] at hrun
  exact runMR_sound G hf hL hrun I (by rw [hl];exact q1.symm) (q2 (fun i=>vs.getD i undef) hr)
 ·cases hsm

theorem MContract.of_dataR (G:Good P tt S QF) {f:FuncId} {fn:Func} (hf:P.funcs[f]? = some fn) {L:Nat→St→Option Tree} (hL:∀ p∈loopsIn 0 (bodyOf fn),LoopWp P (L p.1) p.2)
  (s:SS) (pre:s.den→Bool) (g:s.den→AV×List AObj×List Nat) (h:∀ d,pre d=true→runMR P tt S QF L fn (shsMk s.sl d.1) (ohsMk s.hp d.2)=some (g d)):MContract P f (msum s pre g):=.of_dataRD [] G hf hL s pre g h
end
end Go.Proofs.Ytccelbeahdcooaa.Eng
