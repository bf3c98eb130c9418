/- The engine, part 40: functions that only read what they are handed. -/
import Derived.Test.YtgglehejlddghaaGreatE37
namespace Go.Proofs.YtgglehejlddghaaGreat.Eng
open Go Go.RowKit
set_option linter.unusedSimpArgs false
set_option linter.unusedVariables false

def AObj.bareO:AObj→Bool
 | .box cs=>cs.all AV.bare1
 | _=>true
def winQ (s:Summ):Summ:=fun args H =>
 match win F0 s args H with
 | some (r,_,_,b)=>cond (H.all A0G&&(F0 args H).all fun i=>(H.getD i .dead).bareO) (some (r,H,[],b)) none
 | none=>none
def QuietS (s:Summ):Prop:=∀ args H r H' ks b,s args H=some (r,H', ks,b)→H'=H∧ks=[]

theorem A6u {f:Nat→Option Nat} {a:AV} (h:a.bare1=true):a.ren1 f=a:=by
 cases a<;>first | rfl | simp [AV.bare1] at h
theorem A4s {f:Nat→Option Nat} {o:AObj} (h:o.bareO=true):o.ren f=o:=by
 cases o with
 | box cs =>
  simp only [AObj.ren]
  rw [A13]
  intro c hc
  exact A6u (List.all_eq_true.1 h c hc)
 | _=>rfl

theorem A6y {s:Summ} (hq:QuietS s) {args:List AV} {H:List AObj} {r:AV} {H':List AObj} {ks:List Nat} {b:Bool} (h:win F0 s args H=some (r,H', ks,b))
  (h1:H.all A0G=true) (h2:((F0 args H).all fun i=>(H.getD i .dead).bareO)=true):H'=H∧ks=[]:=by
 simp only [win] at h
 split at h
 ·rename_i hchk
  split at h
  ·rename_i r0 H0 ks0 b0 hs
   split at h
   ·rename_i hk
    simp only [Option.some.injEq,Prod.mk.injEq] at h
    obtain ⟨_,rfl,rfl,_⟩:=h
    obtain ⟨rfl,rfl⟩:=hq _ _ _ _ _ _ hs
    refine ⟨?_,rfl⟩
    apply List.ext_getElem?
    intro i
    simp only [place,List.length_map,List.map_nil]
    have hd:(((F0 args H).map fun i=>(H.getD i .dead).ren (pos (F0 args H))).drop (F0 args H).length).map (AObj.ren fun j=>some (back (F0 args H) H.length j))=[]:=by
     rw [List.drop_of_length_le (by simp)];rfl
    rw [hd,List.append_nil,List.getElem?_map,List.getElem?_zipIdx]
    cases ho:H[i]? with
    | none=>rfl
    | some o =>
     simp only [Option.map_some,Nat.zero_add,Option.some.injEq]
     cases hp:pos (F0 args H) i with
     | none =>
      simp only
      exact A02 (List.all_eq_true.1 h1 o (List.mem_of_getElem? ho)) (fun _ _=>rfl)
     | some j =>
      have hj:=A0R _ _ _ hp
      have hb:=List.all_eq_true.1 h2 i (List.mem_of_getElem? hj)
      have hg:H.getD i .dead=o:=by simp [List.getD_eq_getElem?_getD,ho]
      rw [hg] at hb
      simp only [List.getD_eq_getElem?_getD,List.getElem?_map,hj,Option.map_some,Option.getD_some,ho]
      rw [A4s hb,A4s hb]
   ·cases h
  ·cases h
 ·cases h

section
variable {P:Program} {tt:TT} {S:Tab} {QF:FuncId→Bool}

theorem MContract.winQ {g:FuncId} {s:Summ} (hm:MContract P g s) (hq:QuietS s):MContract P g (Eng.winQ s):=by
 intro args H r H' Kf hsm
 simp only [Eng.winQ] at hsm
 split at hsm
 ·rename_i r0 H0 ks0 b0 hs
  cases hc:(H.all A0G&&(F0 args H).all fun i=>(H.getD i .dead).bareO) with
  | false=>rw [hc] at hsm;cases hsm
  | true =>
   rw [hc] at hsm
   simp only [cond_true,Option.some.injEq,Prod.mk.injEq] at hsm
   obtain ⟨rfl,rfl,rfl,rfl⟩:=hsm
   simp only [Bool.and_eq_true] at hc
   obtain ⟨rfl,rfl⟩:=A6y hq hs hc.1 hc.2
   exact hm.win F0 args _ _ _ _ hs
 ·cases hsm

theorem A5Z (s:Summ):QuietS (Eng.winQ s):=by
 intro args H r H' ks b h
 simp only [Eng.winQ] at h
 split at h
 ·cases hc:(H.all A0G&&(F0 args H).all fun i=>(H.getD i .dead).bareO) with
  | false=>rw [hc] at h;cases h
  | true =>
   rw [hc] at h
   simp only [cond_true,Option.some.injEq,Prod.mk.injEq] at h
   exact ⟨h.2.1.symm,h.2.2.1.symm⟩
 ·cases h
theorem A7w (s:Summ):A0K (Eng.winQ s):=by
 intro args H r H' ks b h
 obtain ⟨rfl,rfl⟩:=A5Z s _ _ _ _ _ _ h
 exact ⟨fun k hk=>(nomatch hk),Nat.le_refl _,fun id o ho _ _ _=>ho⟩
theorem QuietS.orElse {a b:Summ} (ha:QuietS a) (hb:QuietS b):QuietS (A2g a b):=by
 intro args H r H' ks c h
 simp only [A2g] at h
 split at h
 ·rename_i r0 h0
  simp only [Option.some.injEq] at h
  subst h
  exact ha args H r H' ks c h0
 ·exact hb args H r H' ks c h
theorem A7p {s:SS} {pre:s.den→Bool} {g:s.den→AV×List AObj×List Nat} (h:∀ d,(g d).2.1=A15 s.hp d.2∧(g d).2.2=[]):QuietS (msum s pre g):=by
 intro args H r H' ks b e
 simp only [msum] at e
 split at e
 ·rename_i x y hx hy
  simp only [Option.some.injEq,Prod.mk.injEq] at e
  obtain ⟨_,rfl,rfl,_⟩:=e
  obtain ⟨h1,h2⟩:=h (x,y)
  rw [h1,h2]
  exact ⟨(A2J _ _ _ hy).symm,rfl⟩
 ·cases e
theorem Good.addMQ (G:Good P tt S QF) {f:FuncId} {s:Summ} (hm:MContract P f s) (hl:A0K s) (hc:Callable P f) (hq:QuietS s):Good P tt (Tab.add S f s) (qadd QF f):=by
 refine ⟨G.types,G.tab.add hm hc,fun k s' hk hs=>?_,G.loc.add hl,G.mixed⟩
 simp only [Tab.add] at hs
 cases hb:(k==f) with
 | true =>
  rw [hb] at hs
  simp only [cond_true,Option.some.injEq] at hs
  subst hs
  exact hq
 | false =>
  rw [hb] at hs
  simp only [qadd,hb,cond_false] at hk
  exact G.quiet k s' hk hs
end
end Go.Proofs.YtgglehejlddghaaGreat.Eng
