/- The engine, part 40: functions that only read what they are handed. -/
import Derived.Test.YtccelbeahdcooaaE37
namespace Go.Proofs.Ytccelbeahdcooaa.Eng
open Go Go.RowKit
set_option linter.unusedSimpArgs false
set_option linter.unusedVariables false

def AObj.bareO:AObj→Bool
 | .box cs=>cs.all AV.bare1
 | _=>true
def winQ (s:Summ):Summ:=fun args H =>
 match win A0B s args H with
 | some (r,_,_,b)=>cond (H.all A0S&&(A0B args H).all fun i=>(H.getD i .dead).bareO) (some (r,H,[],b)) none
 | none=>none
def QuietS (s:Summ):Prop:=∀ args H r H' ks b,s args H=some (r,H', ks,b)→H'=H∧ks=[]

theorem A6H {f:Nat→Option Nat} {a:AV} (h:a.bare1=true):a.ren1 f=a:=by
 cases a<;>first | rfl | simp [AV.bare1] at h
theorem A4x {f:Nat→Option Nat} {o:AObj} (h:o.bareO=true):o.ren f=o:=by
 cases o with
 | box cs =>
  simp only [AObj.ren]
  rw [A2i]
  intro c hc
  exact A6H (List.all_eq_true.1 h c hc)
 | _=>rfl

theorem A6K {s:Summ} (hq:QuietS s) {args:List AV} {H:List AObj} {r:AV} {H':List AObj} {ks:List Nat} {b:Bool} (h:win A0B s args H=some (r,H', ks,b))
  (h1:H.all A0S=true) (h2:((A0B args H).all fun i=>(H.getD i .dead).bareO)=true):H'=H∧ks=[]:=by
 simp only [win] at h
 split at h
 ·rename_i hchk
  split at h
  ·rename_i r0 H0 ks0 b0 hs
   split at h
   ·rename_i hk
    simp only [Option.some.injEq,Prod.mk.injEq] at h
    obtain ⟨_,rfl,rfl,_⟩:=h
    obtain ⟨rfl,rfl⟩:=hq _ _ _ _ _ _ hs
    refine ⟨?_,rfl⟩
    apply List.ext_getElem?
    intro i
    simp only [place,List.length_map,List.map_nil]
    have hd:(((A0B args H).map fun i=>(H.getD i .dead).ren (pos (A0B args H))).drop (A0B args H).length).map (AObj.ren fun j=>some (back (A0B args H) H.length j))=[]:=by
     rw [List.drop_of_length_le (by simp)];rfl
    rw [hd,List.append_nil,List.getElem?_map,List.getElem?_zipIdx]
    cases ho:H[i]? with
    | none=>rfl
    | some o =>
     simp only [Option.map_some,Nat.zero_add,Option.some.injEq]
     cases hp:pos (A0B args H) i with
     | none =>
      simp only
      exact A07 (List.all_eq_true.1 h1 o (List.mem_of_getElem? ho)) (fun _ _=>rfl)
     | some j =>
      have hj:=A0U _ _ _ hp
      have hb:=List.all_eq_true.1 h2 i (List.mem_of_getElem? hj)
      have hg:H.getD i .dead=o:=by simp [List.getD_eq_getElem?_getD,ho]
      rw [hg] at hb
      simp only [List.getD_eq_getElem?_getD,List.getElem?_map,hj,Option.map_some,Option.getD_some,ho]
      rw [A4x hb,A4x hb]
   ·cases h
  ·cases h
 ·cases h

section
variable {P:Program} {tt:TT} {S:Tab} {QF:FuncId→Bool}

theorem MContract.winQ {g:FuncId} {s:Summ} (hm:MContract P g s) (hq:QuietS s):MContract P g (Eng.winQ s):=by
 intro args H r H' Kf hsm
 simp only [Eng.winQ] at hsm
 split at hsm
 ·rename_i r0 H0 ks0 b0 hs
  cases hc:(H.all A0S&&(A0B args H).all fun i=>(H.getD i .dead).bareO) with
  | false=>rw [hc] at hsm;cases hsm
  | true =>
   rw [hc] at hsm
   simp only [cond_true,Option.some.injEq,Prod.mk.injEq] at hsm
   obtain ⟨rfl,rfl,rfl,rfl⟩:=hsm
   simp only [Bool.and_eq_true] at hc
   obtain ⟨rfl,rfl⟩:=A6K hq hs hc.1 hc.2
   exact hm.win A0B args _ _ _ _ hs
 ·cases hsm

theorem QuietS.orElse {a b:Summ} (ha:QuietS a) (hb:QuietS b):QuietS (A2t a b):=by
 intro args H r H' ks c h
 simp only [A2t] at h
 split at h
 ·rename_i r0 h0
  simp only [Option.some.injEq] at h
  subst h
  exact ha args H r H' ks c h0
 ·exact hb args H r H' ks c h
end
end Go.Proofs.Ytccelbeahdcooaa.Eng
