/- The engine, part 29: a contract over some objects serves in every heap that has them. -/
import Derived.Test.YtccelbeahdcooaaE28
namespace Go.Proofs.Ytccelbeahdcooaa.Eng
open Go Go.RowKit
set_option linter.unusedSimpArgs false
set_option linter.unusedVariables false

section
variable {P:Program} {N:Nat→Prop} {w0:World} {η η':Env} {h h':Nat} {w w':World} {f:Nat→Option Nat}

def back (is:List Nat) (h j:Nat):Nat :=
 match is[j]? with
 | some i=>i
 | none=>h+(j - is.length)
def place (is:List Nat) (H H':List AObj) (K:List Nat):List AObj :=
 (H.zipIdx.map fun p=>match pos is p.2 with
  | some j=>(H'.getD j .dead).ren (fun j=>some (back is H.length j))
  | none=>p.1.kill K.contains)++(H'.drop is.length).map (AObj.ren (fun j=>some (back is H.length j)))

def win (ids:List AV→List AObj→List Nat) (s:Summ):Summ:=fun args H =>
 let is:=ids args H
 if nodupB is&&is.all (fun i=>decide (i<H.length)) then
  match s (args.map (AV.ren (pos is))) (is.map fun i=>(H.getD i .dead).ren (pos is)) with
  | some (r,H', ks,b) =>
   if decide (is.length≤H'.length) then
    some (r.ren (fun j=>some (back is H.length j)),place is H H' (ks.map (back is H.length)),ks.map (back is H.length),b)
   else none
  | none=>none
 else none

theorem place_len {is:List Nat} {H H':List AObj} {K:List Nat}:(place is H H' K).length=H.length+(H'.length - is.length):=by simp [place]
theorem place_get {is:List Nat} {H H':List AObj} {K:List Nat} {i:Nat} {o:AObj} (h:(place is H H' K)[i]? = some o) (hk:is.length≤H'.length) :
  (∃ j,i<H.length∧pos is i=some j∧o=(H'.getD j .dead).ren (fun j=>some (back is H.length j))) ∨
  (∃ o0,H[i]? = some o0∧pos is i=none∧o=o0.kill K.contains) ∨
  (∃ o0,H.length≤i∧H'[is.length+(i - H.length)]? = some o0∧o=o0.ren (fun j=>some (back is H.length j))):=by
 simp only [place] at h
 by_cases hi:i<H.length
 ·rw [List.getElem?_append_left (by simpa using hi)] at h
  rw [List.getElem?_map,List.getElem?_zipIdx,List.getElem?_eq_getElem hi] at h
  simp only [Option.map_some,Nat.zero_add,Option.some.injEq] at h
  cases hp:pos is i with
  | some j=>rw [hp] at h;exact .inl ⟨j,hi,rfl,h.symm⟩
  | none=>rw [hp] at h;exact .inr (.inl ⟨H[i],List.getElem?_eq_getElem hi,rfl,h.symm⟩)
 ·rw [List.getElem?_append_right (by simpa using hi)] at h
  obtain ⟨o0,h1,h2⟩:=getElem?_map_some h
  rw [List.getElem?_drop] at h1
  simp only [List.length_map,List.length_zipIdx] at h1
  exact .inr (.inr ⟨o0,by omega,h1,h2.symm⟩)

theorem MContract.win {g:FuncId} {s:Summ} (hm:MContract P g s) (ids:List AV→List AObj→List Nat):MContract P g (Eng.win ids s):=by
 intro args H r H' Kf hsm N w0 η w vs I hl hr
 simp only [Eng.win] at hsm
 generalize ids args H=is at hsm
 split at hsm
 ·rename_i hchk
  simp only [Bool.and_eq_true,List.all_eq_true,decide_eq_true_eq] at hchk
  obtain ⟨hnd,hlt⟩:=hchk
  split at hsm
  ·rename_i r0 H0 ks b0 hs
   split at hsm
   ·rename_i hk
    simp only [decide_eq_true_eq] at hk
    simp only [Option.some.injEq,Prod.mk.injEq] at hsm
    obtain ⟨rfl,rfl,rfl,rfl⟩:=hsm
    -- the small world
    let Hs:List AObj:=is.map fun i=>(H.getD i .dead).ren (pos is)
    let ηs:Env:=⟨fun j=>η.ι (is.getD j 0),fun j=>η.hv (is.getD j 0),fun j=>η.ln (is.getD j 0),η.Z,fun j=>η.nv (is.getD j 0),fun b=>(η.O b).bind fun k=>(pos is k.1).map fun j=>(j,k.2)⟩
    let N':Nat→Prop:=fun b=>(b<w.heap.size∧¬ η.Z true b∧∀ j o,Hs[j]? = some o→o.mat ηs j→b ≠ ηs.ι j)∧ηs.O b=none
    have hgetD:∀ {j id:Nat},is[j]? = some id→is.getD j 0=id:=fun {j id} hj=>by simp [List.getD_eq_getElem?_getD,hj]
    have hsl:Hs.length=is.length:=by simp [Hs]
    have hsg:∀ {j:Nat} {o:AObj},Hs[j]? = some o→∃ id o0,is[j]? = some id∧H[id]? = some o0∧o=o0.ren (pos is):=by
     intro j o ho
     obtain ⟨id,h1,h2⟩:=getElem?_map_some ho
     have:=hlt id (List.mem_of_getElem? h1)
     refine ⟨id,H[id],h1,List.getElem?_eq_getElem this,?_⟩
     rw [← h2,List.getD_eq_getElem?_getD,List.getElem?_eq_getElem this];rfl
    have xs:Rn (pos is) η H.length w ηs is.length w:=by
     refine ⟨fun id j hp hid=>?_,fun _ _ hz=>hz,fun _ _ _=>rfl,fun id j hp hid=>?_⟩
     rotate_left
     ·have hj:=pos_get is id j hp
      simp only [ηs,hgetD hj]
     have hj:=pos_get is id j hp
     have:=(List.getElem?_eq_some_iff.1 hj).1
     exact ⟨this,by simp only [ηs,hgetD hj],by simp only [ηs,hgetD hj],by simp only [ηs,hgetD hj]⟩
    have Is:Inv N' w ηs Hs w:=by
     refine ⟨fun k hk=>hk.1.1,⟨rfl,rfl,rfl,Nat.le_refl _,fun _ _=>rfl⟩,I.zlt,I.zsub,fun b hz hn=>hn.1.2.1 hz,fun j=>I.hvs _,fun j o ho=>?_,fun j o ho hm=>?_,fun i j y z hy hz my mz he=>?_,fun b k hb=>?_,fun _ _ _=>I.nvs _ _ _⟩
     ·obtain ⟨id,o0,h1,h2,rfl⟩:=hsg ho
      rw [hsl]
      exact (I.obj id o0 h2).ren xs (hlt id (List.mem_of_getElem? h1)) (pos_of is id j hnd h1) (fun _=>rfl) ⟨trivial,fun b r o hb=>⟨by simp only [ηs,hb,Option.bind_some,pos_of is id j hnd h1,Option.map_some],rfl⟩⟩
     ·obtain ⟨id,o0,h1,h2,rfl⟩:=hsg ho
      have hm0:o0.mat η id:=(mat_congr (by simp only [ηs,hgetD h1])).1 (mat_ren.1 hm)
      obtain ⟨a1,a2,a3⟩:=I.own id o0 h2 hm0
      refine ⟨fun hn=>hn.1.2.2 j _ ho hm rfl,?_,?_⟩
      ·simp only [ηs,hgetD h1];exact a2
      ·simp only [ηs,hgetD h1];exact a3
     ·obtain ⟨id,o0,h1,h2,rfl⟩:=hsg hy
      obtain ⟨id', o1,h3,h4,rfl⟩:=hsg hz
      have m0:o0.mat η id:=(mat_congr (by simp only [ηs,hgetD h1])).1 (mat_ren.1 my)
      have m1:o1.mat η id':=(mat_congr (by simp only [ηs,hgetD h3])).1 (mat_ren.1 mz)
      simp only [ηs,hgetD h1,hgetD h3] at he
      have:=I.inj id id' o0 o1 h2 h4 m0 m1 he
      subst this
      have e1:=pos_of is id i hnd h1
      have e2:=pos_of is id j hnd h3
      rw [e1] at e2
      exact Option.some.inj e2
     ·have hb':=hb
      simp only [ηs] at hb
      obtain ⟨k0,hk0,_⟩:=Option.bind_eq_some_iff.1 hb
      obtain ⟨d1,d2,d3,d4⟩:=I.dep b k0 hk0
      refine ⟨fun hn=>(by rw [hn.2] at hb';cases hb'),d2,d3,fun j o ho hm=>?_⟩
      obtain ⟨id,o0,h1,h2,rfl⟩:=hsg ho
      have hm0:o0.mat η id:=(mat_congr (by simp only [ηs,hgetD h1])).1 (mat_ren.1 hm)
      simp only [ηs,hgetD h1]
      exact d4 id o0 h2 hm0
    have hNN:∀ b,N b→N' b:=by
     intro b hb
     refine ⟨⟨I.lt hb,fun hz=>I.znew b hz hb,fun j o ho hm he=>?_⟩,?_⟩
     rotate_left
     ·cases e:η.O b with
      | none=>simp only [ηs,e];rfl
      | some q=>exact absurd hb (I.dep b q e).1
     obtain ⟨id,o0,h1,h2,rfl⟩:=hsg ho
     have m0:o0.mat η id:=(mat_congr (by simp only [ηs,hgetD h1])).1 (mat_ren.1 hm)
     have:=(I.own id o0 h2 m0).1
     simp only [ηs,hgetD h1] at he
     exact this (he ▸ hb)
    refine (hm _ _ _ _ _ hs N' w ηs w vs Is (by simpa using hl) (fun i c hc=>?_)).mono ?_
    ·obtain ⟨y,hy,rfl⟩:=getElem?_map_some hc
     have:=(hr i y hy).ren xs
     show AVR ηs Hs.length w _ _
     rw [hsl];exact this
    rintro e w' ⟨v,ηs', rfl,J,x,ra⟩
    have x':Ext ks.contains ηs is.length w ηs' H0.length w':=by
     have e:(is.map fun i=>(H.getD i .dead).ren (pos is)).length=is.length:=by simp
     rw [e] at x;exact x
    let bk:=back is H.length
    let η':Env:=⟨fun id=>match pos is id with | some j=>ηs'.ι j | none=>if id<H.length then η.ι id else ηs'.ι (is.length+(id - H.length)),
     fun id=>match pos is id with | some j=>ηs'.hv j | none=>if id<H.length then η.hv id else ηs'.hv (is.length+(id - H.length)),
     fun id=>match pos is id with | some j=>ηs'.ln j | none=>if id<H.length then η.ln id else ηs'.ln (is.length+(id - H.length)),ηs'.Z,
     fun id=>match pos is id with | some j=>ηs'.nv j | none=>if id<H.length then η.nv id else ηs'.nv (is.length+(id - H.length)),
     fun b=>match (η.O b).bind (fun q=>if pos is q.1=none then some q else none) with | some q=>some q | none=>(ηs'.O b).map fun q=>(bk q.1,q.2)⟩
    have hpos_lt:∀ {id j:Nat},pos is id=some j→id<H.length∧j<is.length:=fun {id j} hp=>by
     have hj:=pos_get is id j hp
     exact ⟨hlt id (List.mem_of_getElem? hj),(List.getElem?_eq_some_iff.1 hj).1⟩
    have hpos_ge:∀ {id:Nat},H.length≤id→pos is id=none:=fun {id} hge=>by
     cases hp:pos is id with
     | none=>rfl
     | some j=>have:=(hpos_lt hp).1;omega
    have ein:∀ {id j:Nat},pos is id=some j→η'.ι id=ηs'.ι j∧η'.hv id=ηs'.hv j∧η'.ln id=ηs'.ln j:=fun {id j} hp=>by simp [η', hp]
    have eout:∀ {id:Nat},pos is id=none→id<H.length→η'.ι id=η.ι id∧η'.hv id=η.hv id∧η'.ln id=η.ln id:=fun {id} hp hi=>by simp [η', hp,hi]
    have enew:∀ {id:Nat},H.length≤id→η'.ι id=ηs'.ι (is.length+(id - H.length))∧η'.hv id=ηs'.hv (is.length+(id - H.length))∧η'.ln id=ηs'.ln (is.length+(id - H.length)):=fun {id} hge=>by
     simp [η', hpos_ge hge,Nat.not_lt.2 hge]
    have vin:∀ {id j:Nat},pos is id=some j→η'.nv id=ηs'.nv j:=fun {id j} hp=>by simp [η', hp]
    have vout:∀ {id:Nat},pos is id=none→id<H.length→η'.nv id=η.nv id:=fun {id} hp hi=>by simp [η', hp,hi]
    have vnew:∀ {id:Nat},H.length≤id→η'.nv id=ηs'.nv (is.length+(id - H.length)):=fun {id} hge=>by
     simp [η', hpos_ge hge,Nat.not_lt.2 hge]
    have outerO:∀ {b:Nat} {q:Nat×Nat×Nat},η.O b=some q→pos is q.1=none→N' b:=by
     intro b q hb hq
     obtain ⟨d1,d2,d3,d4⟩:=I.dep b q hb
     refine ⟨⟨d3,fun hz=>d2 (I.zsub _ hz),fun j o ho' hm' he=>?_⟩,by simp only [ηs,hb,Option.bind_some,hq,Option.map_none]⟩
     obtain ⟨id', o1,h1,h2,rfl⟩:=hsg ho'
     have m1:o1.mat η id':=(mat_congr (by simp only [ηs,hgetD h1])).1 (mat_ren.1 hm')
     simp only [ηs,hgetD h1] at he
     exact d4 id' o1 h2 m1 he.symm
    have oout:∀ {b:Nat} {q:Nat×Nat×Nat},η.O b=some q→pos is q.1=none→η'.O b=some q:=fun {b q} hb hq=>by simp [η', hb,hq]
    have oin:∀ {b:Nat} {q:Nat×Nat×Nat},ηs'.O b=some q→η'.O b=some (bk q.1,q.2):=fun {b q} hb=>by
     have hn:(η.O b).bind (fun q=>if pos is q.1=none then some q else none)=none:=by
      cases e:η.O b with
      | none=>rfl
      | some q0 =>
       by_cases hq:pos is q0.1=none
       ·exact absurd (outerO e hq) (J.dep b q hb).1
       ·simp [hq]
     simp only [η', hn,hb,Option.map_some]
    have hlen:(place is H H0 (ks.map bk)).length=H.length+(H0.length - is.length):=place_len
    have xb:Rn (fun j=>some (bk j)) ηs' H0.length w' η' (place is H H0 (ks.map bk)).length w':=by
     refine ⟨fun j id hj hlt'=>?_,fun _ _ hz=>hz,fun _ _ _=>rfl,fun j id hj hlt'=>?_⟩
     rotate_left
     ·obtain rfl:=Option.some.inj hj
      cases hg:is[j]? with
      | some i =>
       have hb:bk j=i:=by simp [bk,back,hg]
       rw [hb]
       exact vin (pos_of is i j hnd hg)
      | none =>
       have hge:is.length≤j:=List.getElem?_eq_none_iff.1 hg
       have hb:bk j=H.length+(j - is.length):=by simp [bk,back,hg]
       rw [hb]
       have q2:=vnew (id:=H.length+(j - is.length)) (by omega)
       have e:is.length+(H.length+(j - is.length) - H.length)=j:=by omega
       rw [e] at q2
       exact q2
     obtain rfl:=Option.some.inj hj
     rw [hlen]
     cases hg:is[j]? with
     | some i =>
      have hb:bk j=i:=by simp [bk,back,hg]
      rw [hb]
      have hp:=pos_of is i j hnd hg
      obtain ⟨q1,q2,q3⟩:=ein hp
      exact ⟨by have:=(hpos_lt hp).1;omega,q1,q2,q3⟩
     | none =>
      have hge:is.length≤j:=List.getElem?_eq_none_iff.1 hg
      have hb:bk j=H.length+(j - is.length):=by simp [bk,back,hg]
      rw [hb]
      obtain ⟨q1,q2,q3⟩:=enew (id:=H.length+(j - is.length)) (by omega)
      have e:is.length+(H.length+(j - is.length) - H.length)=j:=by omega
      rw [e] at q1 q2 q3
      exact ⟨by omega,q1,q2,q3⟩
    have xo:Ext (ks.map bk).contains η H.length w η' (place is H H0 (ks.map bk)).length w':=by
     refine ⟨fun id hid hK=>?_,fun fr b hz=>x'.z fr b hz,fun fr b hz=>x'.same fr b hz,fun b hz=>x'.zold b hz,fun id hid hK=>?_⟩
     rotate_left
     ·cases hp:pos is id with
      | none=>exact vout hp hid
      | some j =>
       have hj:=pos_get is id j hp
       have hnk:ks.contains j=false:=by
        rw [Bool.eq_false_iff]
        intro hc
        have:bk j=id:=by simp [bk,back,hj]
        have hm':id∈ks.map bk:=List.mem_map.2 ⟨j,by simpa using hc,this⟩
        rw [Bool.eq_false_iff] at hK
        exact hK (by simpa using hm')
       have p2:=x'.nn j (hpos_lt hp).2 hnk
       simp only [ηs,hgetD hj] at p2
       exact (vin hp).trans p2
     refine ⟨by rw [hlen];omega,?_⟩
     cases hp:pos is id with
     | none=>exact eout hp hid
     | some j =>
      have hj:=pos_get is id j hp
      have hnk:ks.contains j=false:=by
       rw [Bool.eq_false_iff]
       intro hc
       have:bk j=id:=by simp [bk,back,hj]
       have hm':id∈ks.map bk:=List.mem_map.2 ⟨j,by simpa using hc,this⟩
       rw [Bool.eq_false_iff] at hK
       exact hK (by simpa using hm')
      obtain ⟨p1,p2,p3,p4⟩:=x'.nm j (hpos_lt hp).2 hnk
      obtain ⟨q1,q2,q3⟩:=ein hp
      simp only [ηs,hgetD hj] at p2 p3 p4
      exact ⟨q1.trans p2,q2.trans p3,q3.trans p4⟩
    have outer:∀ {id:Nat} {o0:AObj},H[id]? = some o0→pos is id=none→o0.mat η id→N' (η.ι id):=by
     intro id o0 ho hp hm0
     obtain ⟨a1,a2,a3⟩:=I.own id o0 ho hm0
     refine ⟨⟨a3,fun hz=>a2 (I.zsub _ hz),fun j o ho' hm' he=>?_⟩,by simp only [ηs,I.O_own ho hm0];rfl⟩
     obtain ⟨id', o1,h1,h2,rfl⟩:=hsg ho'
     have m1:o1.mat η id':=(mat_congr (by simp only [ηs,hgetD h1])).1 (mat_ren.1 hm')
     simp only [ηs,hgetD h1] at he
     have:=I.inj id id' o0 o1 ho h2 hm0 m1 he
     subst this
     rw [pos_of is id j hnd h1] at hp
     cases hp
    have getD0:∀ {j:Nat},j<H0.length→H0[j]? = some (H0.getD j .dead):=fun {j} hj=>by simp [List.getD_eq_getElem?_getD,hj]
    refine ⟨v,η', rfl,⟨I.nlt,⟨J.fr.os.trans I.fr.os,J.fr.tape.trans I.fr.tape,J.fr.output.trans I.fr.output,Nat.le_trans I.fr.size J.fr.size,fun k hk=>(J.fr.block k (hNN k hk)).trans (I.fr.block k hk)⟩,
     J.zlt,J.zsub,fun b hz hn=>J.znew b hz (hNN b hn),fun id=>?_,fun id o ho=>?_,fun id o ho hm=>?_,fun i j y z hy hz my mz he=>?_,fun b q hb=>?_,fun id r o=>?_⟩,xo,?_⟩
    ·show ∃ A n c,η'.hv id=.slice A n c
     simp only [η']
     split
     ·exact J.hvs _
     ·split
      ·exact I.hvs _
      ·exact J.hvs _
    ·rcases place_get ho hk with ⟨j,hi,hp,rfl⟩ | ⟨o0,h1,hp,rfl⟩ | ⟨o0,hge,h1,rfl⟩
     ·have hj:j<H0.length:=by have:=(hpos_lt hp).2;omega
      have hbk:bk j=id:=by have:=pos_get is id j hp;simp [bk,back,this]
      exact (J.obj j _ (getD0 hj)).ren xb hj (by rw [hbk]) (fun _=>rfl) ⟨trivial,fun b r o hb=>⟨by rw [oin hb,hbk],rfl⟩⟩
     ·have hid:=(List.getElem?_eq_some_iff.1 h1).1
      -- an object outside of the window
      have R:=I.obj id o0 h1
      have hb:o0.mat η id→w'.heap[η.ι id]? = w.heap[η.ι id]?:=fun hm0=>J.fr.block _ (outer h1 hp hm0)
      obtain ⟨q1,q2,q3⟩:=eout hp hid
      cases o0 with
      | dead=>trivial
      | box cs =>
       obtain ⟨hl0,c,E,hc,hs0,hr0⟩:=R
       refine ⟨q3.trans hl0,c,E,by rw [q1,hb trivial];exact hc,by simpa using hs0,fun k a ha=>?_⟩
       obtain ⟨a0,ha0,rfl⟩:=getElem?_map_some ha
       exact ⟨(hr0 k a0 ha0).1.kill1 xo,(hr0 k a0 ha0).2⟩
      | rows E fr e l =>
       obtain ⟨hl0,hr0⟩:=R
       refine ⟨q3.trans hl0,?_⟩
       rcases hr0 with ⟨p1,p2⟩ | ⟨c,cap,p1,p2,p3,p4,p5,p6⟩
       ·exact .inl ⟨by rw [q2];exact p1,p2⟩
       ·refine .inr ⟨c,cap,by rw [q2,q1];exact p1,?_,p3,p4,p5,fun i y hy=>lay_cell_mono xo.z xo.same (p6 i y hy)⟩
        rw [q1,hb (not_nul p1 p4.1)];exact p2
      | deep E Es e l =>
       obtain ⟨hl0,hr0⟩:=R
       have v2:=vout hp hid
       refine ⟨q3.trans hl0,?_⟩
       rcases hr0 with ⟨p1,p2⟩ | ⟨c,cap,p1,p2,p3,p4,p5,p6⟩
       ·exact .inl ⟨by rw [q2];exact p1,p2⟩
       ·refine .inr ⟨c,cap,by rw [q2,q1];exact p1,?_,p3,p4,p5,fun i y hy=>Own.ren (by rw [v2]) (fun b r o hb=>⟨oout hb hp,J.fr.block _ (outerO hb hp)⟩) _ _ _ _ _ (p6 i y hy)⟩
        rw [q1,hb (not_nul p1 p4.1)];exact p2
      | hole E Es e l row off =>
       obtain ⟨hl0,c,cap,p1,p2,p3,p4,p5,p6⟩:=R
       have v2:=vout hp hid
       refine ⟨q3.trans hl0,c,cap,by rw [q2,q1];exact p1,?_,p3,p4,p5,fun i y hy=>Own.ren (η:=η.holeAt id row off) (η':=η'.holeAt id row off) (holeAt_eq v2) (fun b r o hb=>⟨oout hb hp,J.fr.block _ (outerO hb hp)⟩) _ _ _ _ _ (p6 i y hy)⟩
       rw [q1,hb (not_nul p1 p4.1)];exact p2
     ·have hj:=(List.getElem?_eq_some_iff.1 h1).1
      have hg:is[is.length+(id - H.length)]? = none:=List.getElem?_eq_none_iff.2 (by omega)
      have hbk:bk (is.length+(id - H.length))=id:=by simp only [bk,back,hg];omega
      exact (J.obj _ o0 h1).ren xb hj (by rw [hbk]) (fun _=>rfl) ⟨trivial,fun b r o hb=>⟨by rw [oin hb,hbk],rfl⟩⟩
    ·rcases place_get ho hk with ⟨j,hi,hp,rfl⟩ | ⟨o0,h1,hp,rfl⟩ | ⟨o0,hge,h1,rfl⟩
     ·have hj:j<H0.length:=by have:=(hpos_lt hp).2;omega
      obtain ⟨q1,q2,q3⟩:=ein hp
      obtain ⟨a1,a2,a3⟩:=J.own j _ (getD0 hj) ((mat_congr q2).1 (mat_ren.1 hm))
      rw [q1];exact ⟨fun hn=>a1 (hNN _ hn),a2,a3⟩
     ·have hid:=(List.getElem?_eq_some_iff.1 h1).1
      obtain ⟨q1,q2,q3⟩:=eout hp hid
      have m0:o0.mat η id:=(mat_congr q2).1 (mat_kill.1 hm)
      obtain ⟨a1,a2,a3⟩:=I.own id o0 h1 m0
      have hN:=outer h1 hp m0
      rw [q1]
      refine ⟨a1,fun hz=>?_,Nat.lt_of_lt_of_le a3 J.fr.size⟩
      rcases x'.zold _ hz with h | h
      ·exact a2 h
      ·exact J.znew _ h hN
     ·obtain ⟨q1,q2,q3⟩:=enew hge
      obtain ⟨a1,a2,a3⟩:=J.own _ o0 h1 ((mat_congr q2).1 (mat_ren.1 hm))
      rw [q1];exact ⟨fun hn=>a1 (hNN _ hn),a2,a3⟩
    rotate_left
    ·-- blocks behind deep rows
     have hcase:(η.O b=some q∧pos is q.1=none)∨∃ q0,ηs'.O b=some q0:=by
      simp only [η'] at hb
      split at hb
      ·rename_i q1 hq1
       obtain ⟨q2,h2,h3⟩:=Option.bind_eq_some_iff.1 hq1
       split at h3
       ·rename_i hn
        obtain rfl:=Option.some.inj h3
        obtain rfl:=Option.some.inj hb
        exact .inl ⟨h2,hn⟩
       ·cases h3
      ·obtain ⟨q0,h0,_⟩:=Option.map_eq_some_iff.1 hb
       exact .inr ⟨q0,h0⟩
     rcases hcase with ⟨h1,h2⟩ | ⟨q0,h1⟩
     ·obtain ⟨d1,d2,d3,d4⟩:=I.dep b q h1
      have hN:=outerO h1 h2
      refine ⟨d1,fun hz=>?_,Nat.lt_of_lt_of_le d3 J.fr.size,fun id o ho hm=>?_⟩
      ·rcases x'.zold _ hz with h | h
       ·exact d2 h
       ·exact J.znew _ h hN
      ·rcases place_get ho hk with ⟨j,hi,hp,rfl⟩ | ⟨o0,g1,hp,rfl⟩ | ⟨o0,hge,g1,rfl⟩
       ·have hj:j<H0.length:=by have:=(hpos_lt hp).2;omega
        obtain ⟨e1,e2,e3⟩:=ein hp
        have:=(J.own j _ (getD0 hj) ((mat_congr e2).1 (mat_ren.1 hm))).1
        rw [e1];intro he;exact this (he ▸ hN)
       ·have hid:=(List.getElem?_eq_some_iff.1 g1).1
        obtain ⟨e1,e2,e3⟩:=eout hp hid
        rw [e1];exact d4 id o0 g1 ((mat_congr e2).1 (mat_kill.1 hm))
       ·obtain ⟨e1,e2,e3⟩:=enew hge
        have:=(J.own _ o0 g1 ((mat_congr e2).1 (mat_ren.1 hm))).1
        rw [e1];intro he;exact this (he ▸ hN)
     ·obtain ⟨d1,d2,d3,d4⟩:=J.dep b q0 h1
      refine ⟨fun hn=>d1 (hNN _ hn),d2,d3,fun id o ho hm=>?_⟩
      rcases place_get ho hk with ⟨j,hi,hp,rfl⟩ | ⟨o0,g1,hp,rfl⟩ | ⟨o0,hge,g1,rfl⟩
      ·have hj:j<H0.length:=by have:=(hpos_lt hp).2;omega
       obtain ⟨e1,e2,e3⟩:=ein hp
       rw [e1];exact d4 j _ (getD0 hj) ((mat_congr e2).1 (mat_ren.1 hm))
      ·have hid:=(List.getElem?_eq_some_iff.1 g1).1
       obtain ⟨e1,e2,e3⟩:=eout hp hid
       rw [e1];intro he;exact d1 (he ▸ outer g1 hp ((mat_congr e2).1 (mat_kill.1 hm)))
      ·obtain ⟨e1,e2,e3⟩:=enew hge
       rw [e1];exact d4 _ o0 g1 ((mat_congr e2).1 (mat_ren.1 hm))
    ·cases hp:pos is id with
     | some j=>rw [vin hp];exact J.nvs _ _ _
     | none =>
      by_cases hid:id<H.length
      ·rw [vout hp hid];exact I.nvs _ _ _
      ·rw [vnew (Nat.le_of_not_lt hid)];exact J.nvs _ _ _
    rotate_left
    ·-- each object's place in the small heap,or outside of it
     have cls:∀ {i:Nat} {y:AObj},(place is H H0 (ks.map bk))[i]? = some y→y.mat η' i→(∃ j o0,H0[j]? = some o0∧o0.mat ηs' j∧η'.ι i=ηs'.ι j∧bk j=i)∨(∃ o0,H[i]? = some o0∧pos is i=none∧o0.mat η i∧η'.ι i=η.ι i):=by
      intro i y hy my
      rcases place_get hy hk with ⟨j,hi,hp,rfl⟩ | ⟨o0,h1,hp,rfl⟩ | ⟨o0,hge,h1,rfl⟩
      ·have hj:j<H0.length:=by have:=(hpos_lt hp).2;omega
       obtain ⟨q1,q2,q3⟩:=ein hp
       exact .inl ⟨j,_,getD0 hj,(mat_congr q2).1 (mat_ren.1 my),q1,by have:=pos_get is i j hp;simp [bk,back,this]⟩
      ·obtain ⟨q1,q2,q3⟩:=eout hp (List.getElem?_eq_some_iff.1 h1).1
       exact .inr ⟨o0,h1,hp,(mat_congr q2).1 (mat_kill.1 my),q1⟩
      ·obtain ⟨q1,q2,q3⟩:=enew hge
       refine .inl ⟨_,o0,h1,(mat_congr q2).1 (mat_ren.1 my),q1,?_⟩
       have hg:is[is.length+(i - H.length)]? = none:=List.getElem?_eq_none_iff.2 (by omega)
       simp only [bk,back,hg];omega
     rcases cls hy my with ⟨a,oa,a1,a2,a3,a4⟩ | ⟨oa,a1,a2,a3,a4⟩<;>rcases cls hz mz with ⟨b,ob,b1,b2,b3,b4⟩ | ⟨ob,b1,b2,b3,b4⟩
     ·rw [a3,b3] at he
      have:=J.inj a b oa ob a1 b1 a2 b2 he
      subst this;rw [← a4,← b4]
     ·rw [a3,b4] at he
      exact absurd (outer b1 b2 b3) (he ▸ (J.own a oa a1 a2).1)
     ·rw [a4,b3] at he
      exact absurd (outer a1 a2 a3) (he ▸ (J.own b ob b1 b2).1)
     ·rw [a4,b4] at he
      exact I.inj i j oa ob a1 b1 a3 b3 he
    ·exact ra.ren xb
   ·cases hsm
  ·cases hsm
 ·cases hsm
theorem win_local (s:Summ):LocalS (win winIds s):=by
 intro args H r H' ks b h
 simp only [win] at h
 split at h
 ·split at h
  ·rename_i r0 H0 ks0 b0 hs
   split at h
   ·simp only [Option.some.injEq,Prod.mk.injEq] at h
    obtain ⟨_,rfl,rfl,_⟩:=h
    refine ⟨fun k hk=>?_,by rw [place_len];omega,fun id o ho hid hst hnm=>?_⟩
    ·obtain ⟨j,_,rfl⟩:=List.mem_map.1 hk
     simp only [back]
     split
     ·rename_i i hi;exact .inl (List.mem_of_getElem? hi)
     ·exact .inr (by omega)
    ·have hlt:=(List.getElem?_eq_some_iff.1 ho).1
     have hp:pos (winIds args H) id=none:=by
      cases hp:pos (winIds args H) id with
      | none=>rfl
      | some j=>exact absurd (List.mem_of_getElem? (pos_get _ _ _ hp)) hid
     simp only [place]
     rw [List.getElem?_append_left (by simpa using hlt),List.getElem?_map,List.getElem?_zipIdx,ho]
     simp only [Option.map_some,Nat.zero_add,hp]
     rw [objStill_kill hst (fun j hj=>by
      obtain ⟨h1,h2⟩:=hnm j hj
      rw [Bool.eq_false_iff]
      intro hcn
      obtain ⟨q,_,hq⟩:=List.mem_map.1 (by simpa using hcn)
      simp only [back] at hq
      split at hq
      ·rename_i i hi;subst hq;exact h2 (List.mem_of_getElem? hi)
      ·omega)]
   ·cases h
  ·cases h
 ·cases h
end
end Go.Proofs.Ytccelbeahdcooaa.Eng
