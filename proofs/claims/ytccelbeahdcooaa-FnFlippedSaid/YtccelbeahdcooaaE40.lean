/- The engine, part 40: functions that only read what they are handed. -/
import Derived.Test.YtccelbeahdcooaaE37
namespace Go.Proofs.Ytccelbeahdcooaa.Eng
open Go Go.RowKit
set_option linter.unusedSimpArgs false
set_option linter.unusedVariables false

def AObj.bareO:AObj→Bool
 | .box cs=>cs.all AV.bare1
 | _=>true
def winQ (s:Summ):Summ:=fun args H =>
 match win winIds s args H with
 | some (r,_,_,b)=>cond (H.all objStill&&(winIds args H).all fun i=>(H.getD i .dead).bareO) (some (r,H,[],b)) none
 | none=>none
def QuietS (s:Summ):Prop:=∀ args H r H' ks b,s args H=some (r,H', ks,b)→H'=H∧ks=[]

theorem ren1_bare {f:Nat→Option Nat} {a:AV} (h:a.bare1=true):a.ren1 f=a:=by
 cases a<;>first | rfl | simp [AV.bare1] at h
theorem ren_bareO {f:Nat→Option Nat} {o:AObj} (h:o.bareO=true):o.ren f=o:=by
 cases o with
 | box cs =>
  simp only [AObj.ren]
  rw [map_keep]
  intro c hc
  exact ren1_bare (List.all_eq_true.1 h c hc)
 | _=>rfl

theorem win_quiet {s:Summ} (hq:QuietS s) {args:List AV} {H:List AObj} {r:AV} {H':List AObj} {ks:List Nat} {b:Bool} (h:win winIds s args H=some (r,H', ks,b))
  (h1:H.all objStill=true) (h2:((winIds args H).all fun i=>(H.getD i .dead).bareO)=true):H'=H∧ks=[]:=by
 simp only [win] at h
 split at h
 ·rename_i hchk
  split at h
  ·rename_i r0 H0 ks0 b0 hs
   split at h
   ·rename_i hk
    simp only [Option.some.injEq,Prod.mk.injEq] at h
    obtain ⟨_,rfl,rfl,_⟩:=h
    obtain ⟨rfl,rfl⟩:=hq _ _ _ _ _ _ hs
    refine ⟨?_,rfl⟩
    apply List.ext_getElem?
    intro i
    simp only [place,List.length_map,List.map_nil]
    have hd:(((winIds args H).map fun i=>(H.getD i .dead).ren (pos (winIds args H))).drop (winIds args H).length).map (AObj.ren fun j=>some (back (winIds args H) H.length j))=[]:=by
     rw [List.drop_of_length_le (by simp)];rfl
    rw [hd,List.append_nil,List.getElem?_map,List.getElem?_zipIdx]
    cases ho:H[i]? with
    | none=>rfl
    | some o =>
     simp only [Option.map_some,Nat.zero_add,Option.some.injEq]
     cases hp:pos (winIds args H) i with
     | none =>
      simp only
      exact objStill_kill (List.all_eq_true.1 h1 o (List.mem_of_getElem? ho)) (fun _ _=>rfl)
     | some j =>
      have hj:=pos_get _ _ _ hp
      have hb:=List.all_eq_true.1 h2 i (List.mem_of_getElem? hj)
      have hg:H.getD i .dead=o:=by simp [List.getD_eq_getElem?_getD,ho]
      rw [hg] at hb
      simp only [List.getD_eq_getElem?_getD,List.getElem?_map,hj,Option.map_some,Option.getD_some,ho]
      rw [ren_bareO hb,ren_bareO hb]
   ·cases h
  ·cases h
 ·cases h

section
variable {P:Program} {tt:TT} {S:Tab} {QF:FuncId→Bool}

theorem MContract.winQ {g:FuncId} {s:Summ} (hm:MContract P g s) (hq:QuietS s):MContract P g (Eng.winQ s):=by
 intro args H r H' Kf hsm
 simp only [Eng.winQ] at hsm
 split at hsm
 ·rename_i r0 H0 ks0 b0 hs
  cases hc:(H.all objStill&&(winIds args H).all fun i=>(H.getD i .dead).bareO) with
  | false=>rw [hc] at hsm;cases hsm
  | true =>
   rw [hc] at hsm
   simp only [cond_true,Option.some.injEq,Prod.mk.injEq] at hsm
   obtain ⟨rfl,rfl,rfl,rfl⟩:=hsm
   simp only [Bool.and_eq_true] at hc
   obtain ⟨rfl,rfl⟩:=win_quiet hq hs hc.1 hc.2
   exact hm.win winIds args _ _ _ _ hs
 ·cases hsm

theorem winQ_quiet (s:Summ):QuietS (Eng.winQ s):=by
 intro args H r H' ks b h
 simp only [Eng.winQ] at h
 split at h
 ·cases hc:(H.all objStill&&(winIds args H).all fun i=>(H.getD i .dead).bareO) with
  | false=>rw [hc] at h;cases h
  | true =>
   rw [hc] at h
   simp only [cond_true,Option.some.injEq,Prod.mk.injEq] at h
   exact ⟨h.2.1.symm,h.2.2.1.symm⟩
 ·cases h
theorem winQ_local (s:Summ):LocalS (Eng.winQ s):=by
 intro args H r H' ks b h
 obtain ⟨rfl,rfl⟩:=winQ_quiet s _ _ _ _ _ _ h
 exact ⟨fun k hk=>(nomatch hk),Nat.le_refl _,fun id o ho _ _ _=>ho⟩
theorem QuietS.orElse {a b:Summ} (ha:QuietS a) (hb:QuietS b):QuietS (orElseS a b):=by
 intro args H r H' ks c h
 simp only [orElseS] at h
 split at h
 ·rename_i r0 h0
  simp only [Option.some.injEq] at h
  subst h
  exact ha args H r H' ks c h0
 ·exact hb args H r H' ks c h
theorem msum_quiet {s:SS} {pre:s.den→Bool} {g:s.den→AV×List AObj×List Nat} (h:∀ d,(g d).2.1=ohsMk s.hp d.2∧(g d).2.2=[]):QuietS (msum s pre g):=by
 intro args H r H' ks b e
 simp only [msum] at e
 split at e
 ·rename_i x y hx hy
  simp only [Option.some.injEq,Prod.mk.injEq] at e
  obtain ⟨_,rfl,rfl,_⟩:=e
  obtain ⟨h1,h2⟩:=h (x,y)
  rw [h1,h2]
  exact ⟨(ohsRd_eq _ _ _ hy).symm,rfl⟩
 ·cases e
theorem Good.addMQ (G:Good P tt S QF) {f:FuncId} {s:Summ} (hm:MContract P f s) (hl:LocalS s) (hc:Callable P f) (hq:QuietS s):Good P tt (Tab.add S f s) (qadd QF f):=by
 refine ⟨G.types,G.tab.add hm hc,fun k s' hk hs=>?_,G.loc.add hl,G.mixed⟩
 simp only [Tab.add] at hs
 cases hb:(k==f) with
 | true =>
  rw [hb] at hs
  simp only [cond_true,Option.some.injEq] at hs
  subst hs
  exact hq
 | false =>
  rw [hb] at hs
  simp only [qadd,hb,cond_false] at hk
  exact G.quiet k s' hk hs
end
end Go.Proofs.Ytccelbeahdcooaa.Eng
