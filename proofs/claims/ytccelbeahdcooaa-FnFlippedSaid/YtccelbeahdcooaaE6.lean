/- The engine, part 6: writes. -/
import Derived.Test.YtccelbeahdcooaaE5
namespace Go.Proofs.Ytccelbeahdcooaa.Eng
open Go Go.RowKit
set_option linter.unusedSimpArgs false

section
variable {P:Program} {N:Nat→Prop} {w0:World} {η0:Env} {h0:Nat} {we:World} {η:Env} {st:St} {a:Act} {w:World}

theorem set_some {H:List AObj} {id i:Nat} {o x:AObj} (h:(H.set id o)[i]? = some x):(i=id∧id<H.length∧x=o)∨(i ≠ id∧H[i]? = some x):=by
 rw [List.getElem?_set] at h
 split at h
 ·rename_i he;subst he
  split at h
  ·exact .inl ⟨rfl,by assumption,by simpa using h.symm⟩
  ·cases h
 ·rename_i he;exact .inr ⟨fun e=>he e.symm,h⟩

theorem Inv.setRow {H:List AObj} (I:Inv N w0 η H w) {id:Nat} {o o':AObj} (ho:H[id]? = some o) (hm:o.mat η id) (c:Array Value)
  (hx:(∀ h,Ext NoK η h w η h (w.setRow (η.ι id) c))→ObjR η H.length (w.setRow (η.ι id) c) id o') (hf:∀ η', η'.hv=η.hv→(o'.mat η' id→o.mat η' id)) :
  Inv N w0 η (H.set id o') (w.setRow (η.ι id) c)∧∀ h,Ext NoK η h w η h (w.setRow (η.ι id) c):=by
 obtain ⟨n1,n2,n3⟩:=I.own id o ho hm
 have hz:∀ f b,η.Z f b→b ≠ η.ι id:=fun f b hb e=>n2 (I.zfalse (e ▸ hb))
 have x:∀ h,Ext NoK η h w η h (w.setRow (η.ι id) c):=fun h=>⟨fun _ hi _=>⟨hi,rfl,rfl,rfl⟩,fun _ _ hb=>hb,fun f b hb=>setRow_other w _ b c (hz f b hb),fun _ h=>.inl h,fun _ _ _=>rfl⟩
 have hs:(w.setRow (η.ι id) c).heap.size=w.heap.size:=by simp [World.setRow]
 have hlen:(H.set id o').length=H.length:=by simp
 refine ⟨⟨I.nlt,⟨I.fr.os,I.fr.tape,I.fr.output,by rw [hs];exact I.fr.size,fun k hk=>?_⟩,by rw [hs];exact I.zlt,I.zsub,I.znew,I.hvs,fun i y hy=>?_,fun i y hy hmy=>?_,fun i j y z hy hz' my mz he=>?_,fun b k hb=>?_,I.nvs⟩,x⟩
 ·rw [setRow_other w _ k c (fun e=>by subst e;exact n1 hk)];exact I.fr.block k hk
 ·rw [hlen]
  rcases set_some hy with ⟨rfl,_,rfl⟩ | ⟨hne,hy⟩
  ·exact hx x
  ·refine (I.obj i y hy).mono (x _) (List.getElem?_eq_some_iff.1 hy).1 (fun hmi=>setRow_other w _ _ c (fun e=>hne ?_)) ⟨trivial,fun b r q hb=>⟨hb,setRow_other w _ _ c fun e=>(I.dep b _ hb).2.2.2 id o ho hm e.symm⟩⟩
   exact I.inj i id y o hy ho hmi hm e
 ·rw [hs]
  rcases set_some hy with ⟨rfl,_,rfl⟩ | ⟨hne,hy⟩
  ·exact ⟨n1,n2,n3⟩
  ·exact I.own i y hy hmy
 ·rcases set_some hy with ⟨rfl,_,e1⟩ | ⟨hne,g1⟩<;>rcases set_some hz' with ⟨e2,_,e3⟩ | ⟨hne', g2⟩
  ·exact e2.symm
  ·exact I.inj _ j o z ho g2 hm mz he
  ·subst e2;exact I.inj i _ y o g1 ho my hm he
  ·exact I.inj i j y z g1 g2 my mz he
 ·obtain ⟨d1,d2,d3,d4⟩:=I.dep b k hb
  refine ⟨d1,d2,by rw [hs];exact d3,fun i y hy hmy=>?_⟩
  rcases set_some hy with ⟨rfl,_,e1⟩ | ⟨hne,hy⟩
  ·exact d4 _ o ho hm
  ·exact d4 i y hy hmy

theorem setRange_length {cs vs:List AV} {i:Nat} (h:i+vs.length≤cs.length):(setRange cs i vs).length=cs.length:=by
 simp only [setRange,List.length_append,List.length_take,List.length_drop];omega

theorem seg_get {α:Type} {l vs:List α} {i j:Nat} (h:i+vs.length≤l.length) :
  (l.take i++vs++l.drop (i+vs.length))[j]? = if j<i then l[j]? else if j<i+vs.length then vs[j - i]? else l[j]?:=by
 have hi:(l.take i).length=i:=by simp;omega
 split
 ·rename_i h1
  rw [List.append_assoc,List.getElem?_append_left (by omega),List.getElem?_take,if_pos h1]
 ·rename_i h1
  split
  ·rename_i h2
   rw [List.append_assoc,List.getElem?_append_right (by omega),List.getElem?_append_left (by omega),hi]
  ·rename_i h2
   rw [List.getElem?_append_right (by simp;omega),List.getElem?_drop]
   congr 1;simp;omega

theorem putOwn_rel {η':Env} {w':World} {h id row sub:Nat} {H:List AObj} {vs:List AV} (hob:∀ (k:Nat) (E:TypeId) (fr:Bool) (e:Ty) (l:List e.den),H[k]? = some (.rows E fr e l)→ObjR η h w k (.rows E fr e l)):∀ (t:Ty) (Es:List TypeId) (off:Nat) (old x:t.den) (ts:List (Nat×Nat)) (ns:List Nat) (c c':Nat→Option Value),
  t.putOwn H Es off old sub vs=some (x,ts,ns) →
  ((∀ j,j<t.cells→sub≤off+j∧off+j<sub+vs.length)∨(Own η w id row t Es off old c∧(∀ o,(o<sub∨sub+vs.length≤o)→η'.nv id row o=η.nv id row o) ∧
   (∀ b o,(o<sub∨sub+vs.length≤o)→η.O b=some (id,row,o)→η'.O b=some (id,row,o)∧w'.heap[b]? = w.heap[b]?))) →
  (∀ j,j<t.cells→(off+j<sub∨sub+vs.length≤off+j)→c' j=c j) →
  (∀ j,j<t.cells→sub≤off+j→∀ a,vs[off+j - sub]? = some a→∃ v,c' j=some v∧AVR η h w a v) →
  (∀ k o,(k,o)∈ts→η'.nv id row o=η.hv k∧(¬ nulV (η.hv k)→η'.O (η.ι k)=some (id,row,o)∧w'.heap[η.ι k]? = w.heap[η.ι k]?)) →
  (∀ o∈ns,η'.nv id row o=nilV)→Own η' w' id row t Es off x c':=by
 intro t
 induction t with
 | int k =>
  intro Es off old x ts ns c c' ho hown hkeep hnew _ _
  simp only [Ty.putOwn] at ho
  split at ho
  ·rename_i hr
   simp only [Option.some.injEq,Prod.mk.injEq] at ho
   obtain ⟨rfl,rfl,rfl⟩:=ho
   rcases hown with hown | hown
   ·have:=hown 0 (by simp [Ty.cells]);simp only [Nat.add_zero] at this;omega
   ·have:=hkeep 0 (by simp [Ty.cells]) hr
    show c' 0=_
    rw [this];exact hown.1
  ·rename_i hr
   split at ho
   ·rename_i f k' y hv
    split at ho
    ·rename_i hk;subst hk
     simp only [Option.some.injEq,Prod.mk.injEq] at ho
     obtain ⟨rfl,rfl,rfl⟩:=ho
     obtain ⟨v,hv', ha⟩:=hnew 0 (by simp [Ty.cells]) (by omega) _ hv
     cases ha with
     | t h1 hl=>simp only [Lay,if_true] at hl;exact hv'.trans hl
    ·cases ho
   ·cases ho
 | bool =>
  intro Es off old x ts ns c c' ho hown hkeep hnew _ _
  simp only [Ty.putOwn] at ho
  split at ho
  ·rename_i hr
   simp only [Option.some.injEq,Prod.mk.injEq] at ho
   obtain ⟨rfl,rfl,rfl⟩:=ho
   rcases hown with hown | hown
   ·have:=hown 0 (by simp [Ty.cells]);simp only [Nat.add_zero] at this;omega
   ·have:=hkeep 0 (by simp [Ty.cells]) hr
    show c' 0=_
    rw [this];exact hown.1
  ·rename_i hr
   split at ho
   ·rename_i f y hv
    simp only [Option.some.injEq,Prod.mk.injEq] at ho
    obtain ⟨rfl,rfl,rfl⟩:=ho
    obtain ⟨v,hv', ha⟩:=hnew 0 (by simp [Ty.cells]) (by omega) _ hv
    cases ha with
    | t h1 hl=>simp only [Lay,if_true] at hl;exact hv'.trans hl
   ·cases ho
 | str =>
  intro Es off old x ts ns c c' ho hown hkeep hnew _ _
  simp only [Ty.putOwn] at ho
  split at ho
  ·rename_i hr
   simp only [Option.some.injEq,Prod.mk.injEq] at ho
   obtain ⟨rfl,rfl,rfl⟩:=ho
   rcases hown with hown | hown
   ·have:=hown 0 (by simp [Ty.cells]);simp only [Nat.add_zero] at this;omega
   ·have:=hkeep 0 (by simp [Ty.cells]) hr
    show c' 0=_
    rw [this];exact hown.1
  ·rename_i hr
   split at ho
   ·rename_i f y hv
    simp only [Option.some.injEq,Prod.mk.injEq] at ho
    obtain ⟨rfl,rfl,rfl⟩:=ho
    obtain ⟨v,hv', ha⟩:=hnew 0 (by simp [Ty.cells]) (by omega) _ hv
    cases ha with
    | t h1 hl=>simp only [Lay,if_true] at hl;exact hv'.trans hl
   ·cases ho
 | sl e _ =>
  intro Es off old x ts ns c c' ho hown hkeep hnew hts hns
  simp only [Ty.putOwn] at ho
  split at ho
  ·rename_i hr
   simp only [Option.some.injEq,Prod.mk.injEq] at ho
   obtain ⟨rfl,rfl,rfl⟩:=ho
   rcases hown with hown | hown
   ·have:=hown 0 (by simp [Ty.cells]);simp only [Nat.add_zero] at this;omega
   ·have hc:=hkeep 0 (by simp [Ty.cells]) hr
    obtain ⟨⟨h0,h2⟩,hnv,hO⟩:=hown
    refine ⟨by rw [hc,h0,hnv off hr],?_⟩
    rcases h2 with ⟨h3,h4⟩ | ⟨h1,b,d,cap,q1,q2,q3,q4,q5,q6,q7⟩
    ·exact .inl ⟨by rw [hnv off hr];exact h3,h4⟩
    ·obtain ⟨k1,k2⟩:=hO b _ hr q2
     exact .inr ⟨h1,b,d,cap,by rw [hnv off hr];exact q1,k1,k2.trans q3,q4,q5,q6,fun i y hy=>Lay.of_flat _ _ _ h1 (q7 i y hy)⟩
  ·rename_i hr
   split at ho
   ·rename_i hv
    simp only [Option.some.injEq,Prod.mk.injEq] at ho
    obtain ⟨rfl,rfl,rfl⟩:=ho
    obtain ⟨v,hv', ha⟩:=hnew 0 (by simp [Ty.cells]) (by omega) _ hv
    have hn:=hns off (by simp)
    cases ha with
    | raw=>exact ⟨by rw [hv', hn];rfl,.inl ⟨by rw [hn];exact nul_nil,rfl⟩⟩
   ·rename_i k sz hv
    split at ho
    ·rename_i E' fr e' l hH
     split at ho
     ·rename_i hh
      obtain ⟨he,hfl,hsz,hE⟩:=hh
      subst he
      simp only [Option.some.injEq,Prod.mk.injEq] at ho
      obtain ⟨rfl,rfl,rfl⟩:=ho
      obtain ⟨v,hv', ha⟩:=hnew 0 (by simp [Ty.cells]) (by omega) _ hv
      obtain ⟨t1,t2⟩:=hts k off (by simp)
      cases ha with
      | all hid =>
       refine ⟨by rw [hv', t1],?_⟩
       obtain ⟨hl,R⟩:=hob k _ _ _ _ hH
       rcases R with ⟨r1,r2⟩ | ⟨cc,cap,r1,r2,r3,r4,r5,r6⟩
       ·exact .inl ⟨by rw [t1];exact r1,r2⟩
       ·obtain ⟨o1,o2⟩:=t2 (not_nul r1 r4.1)
        exact .inr ⟨hfl,η.ι k,cc,cap,by rw [t1];exact r1,o1,by rw [o2,r2,hE],r3,r4,r5,fun i y hy=>Lay.of_flat _ _ _ hfl (r6 i y hy)⟩
     ·cases ho
    ·cases ho
   ·cases ho
 | pair a b iha ihb =>
  intro Es off old x ts ns c c' ho hown hkeep hnew hts hns
  simp only [Ty.putOwn] at ho
  obtain ⟨p,hp,hq⟩:=Option.bind_eq_some_iff.1 ho
  obtain ⟨q,hq1,hq2⟩:=Option.map_eq_some_iff.1 hq
  simp only [Prod.mk.injEq] at hq2
  obtain ⟨rfl,rfl,rfl⟩:=hq2
  have hc:(Ty.pair a b).cells=a.cells+b.cells:=rfl
  refine ⟨iha _ _ _ _ _ _ c c' hp ?_ (fun j hj=>hkeep j (by omega)) (fun j hj=>hnew j (by omega)) (fun k o hm=>hts k o (List.mem_append_left _ hm)) (fun o hm=>hns o (List.mem_append_left _ hm)),
   ihb _ _ _ _ _ _ (fun j=>c (a.cells+j)) (fun j=>c' (a.cells+j)) hq1 ?_ (fun j hj hr=>hkeep (a.cells+j) (by omega) (by rw [← Nat.add_assoc];exact hr)) (fun j hj hs y hy=>hnew (a.cells+j) (by omega) (by omega) y (by rw [← Nat.add_assoc];exact hy)) (fun k o hm=>hts k o (List.mem_append_right _ hm)) (fun o hm=>hns o (List.mem_append_right _ hm))⟩
  ·rcases hown with h1 | h1
   ·exact .inl fun j hj=>h1 j (by omega)
   ·exact .inr ⟨h1.1.1,h1.2⟩
  ·rcases hown with h1 | h1
   ·exact .inl fun j hj=>by have:=h1 (a.cells+j) (by omega);omega
   ·exact .inr ⟨h1.1.2,h1.2⟩

theorem seg_cells {us:List Value} {c:Array Value} {p:Nat} (hfit:p+us.length≤c.size):∀ k,(c.toList.take p++us++c.toList.drop (p+us.length)).toArray[k]? = if k<p then c[k]? else if k<p+us.length then us[k - p]? else c[k]?:=by
 intro k
 simp only [List.getElem?_toArray]
 rw [seg_get (by simpa using hfit)]
 simp only [Array.getElem?_toList]

theorem write_rel {H:List AObj} {S:List AV} {bs:Nat} {kl:List Nat} (I:Inv N w0 η H w) {p:AV} {v:Value} {vs:List AV} {st':St} (hr:St.write ⟨S,H,bs,kl⟩ p vs=some st') (r:AVR η H.length w p v)
  {us:List Value} (hl:us.length=vs.length) (hu:∀ j c,vs[j]? = some c→AVR η H.length w c (us.getD j undef)) (h1:∀ u∈us,u.oneCell'=true) :
  ∃ ad w', v=.pointer (some ad)∧(storeCells ad us).run P w=.ok () w'∧Inv N w0 η st'.heap w'∧(∀ h,Ext NoK η h w η h w')∧st'.slots=S∧st'.killed=kl∧st'.heap.length=H.length∧st'.base=bs:=by
 cases r with
 | @ptr id row sz sub hid hrow =>
  simp only [St.write] at hr
  cases ho:H[id]? with
  | none=>rw [ho] at hr;cases hr
  | some o =>
   have R:=I.obj id o ho
   rw [ho] at hr
   cases o with
   | dead=>cases hr
   | hole E Es e l row off=>cases hr
   | box cs0 =>
    obtain ⟨hln,c,E,hc,hs,hcs⟩:=R
    obtain rfl:row=0:=by omega
    simp only [if_true] at hr
    split at hr
    ·rename_i hle
     obtain rfl:=Option.some.inj hr
     simp only [Bool.and_eq_true,decide_eq_true_eq] at hle
     obtain ⟨hle,hcell⟩:=hle
     have hrun:=run_storeCells_at P (η.ι id) (0*sz+sub) E us 0 c w hc (by omega) h1
     have J:=I.setRow (o:=.box cs0) (o':=.box (setRange cs0 sub vs)) ho trivial (c.toList.take (0*sz+sub+0)++us++c.toList.drop (0*sz+sub+0+us.length)).toArray ?_ (fun _ _ _=>trivial)
     ·exact ⟨_,_,rfl,hrun,J.1,J.2,rfl,rfl,by simp,rfl⟩
     ·intro x
      refine ⟨hln,_,E,setRow_heap w _ c _ E (0,0) hc,?_,fun j y hy=>?_⟩
      ·rw [setRange_length hle];simp;omega
      ·have e1 : (c.toList.take (0 * sz + sub + 0) ++ us ++ c.toList.drop (0 * sz + sub + 0 + us.length)).toArray.getD j undef = if j < sub then c.getD j undef else if j < sub + us.length then us.getD (j - sub) undef else c.getD j undef := by
        rw [Array.getD_eq_getD_getElem?]
        simp only [List.getElem?_toArray,Nat.zero_mul,Nat.zero_add,Nat.add_zero]
        rw [seg_get (by simp;omega)]
        split
        ·simp [Array.getD_eq_getD_getElem?]
        ·split
         ·simp [List.getD_eq_getElem?_getD]
         ·simp [Array.getD_eq_getD_getElem?]
       rw [e1]
       simp only [setRange] at hy
       rw [seg_get (by omega)] at hy
       split at hy
       ·rename_i hj;rw [if_pos hj];exact ⟨((hcs j y hy).1).ext (x _),(hcs j y hy).2⟩
       ·rename_i hj;rw [if_neg hj]
        split at hy
        ·rename_i hj2;rw [if_pos (by omega)]
         refine ⟨(hu _ y hy).ext (x _),?_⟩
         have hlt:j - sub<us.length:=by omega
         rw [List.getD_eq_getElem?_getD,List.getElem?_eq_getElem hlt]
         exact h1 _ (List.getElem_mem hlt)
        ·rename_i hj2;rw [if_neg (by omega)];exact ⟨((hcs j y hy).1).ext (x _),(hcs j y hy).2⟩
    ·cases hr
   | rows E fr e l =>
    obtain ⟨hln,R⟩:=R
    simp only at hr
    split at hr
    ·rename_i hle
     simp only [Bool.and_eq_true,decide_eq_true_eq] at hle
     obtain ⟨hsz,hle⟩:=hle
     rcases R with ⟨_,rfl⟩ | ⟨c,cap,g1,g2,g3,g4,g5,g6⟩
     ·simp at hln;omega
     ·split at hr
      ·rename_i x f hof
       obtain rfl:=Option.some.inj hr
       have hrl:row<l.length:=by omega
       have hfit:row*sz+sub+0+us.length≤c.size:=by
        have:(row+1)*sz≤cap*sz:=Nat.mul_le_mul_right _ (by omega)
        rw [Nat.add_mul] at this
        rw [g5,hsz];omega
       have hrun:=run_storeCells_at P (η.ι id) (row*sz+sub) E us 0 c w g2 hfit h1
       have J:=I.setRow (o:=.rows E fr e l) (o':=.rows E (fr&&f) e (l.set row x)) ho (not_nul g1 g4.1)
        (c.toList.take (row*sz+sub+0)++us++c.toList.drop (row*sz+sub+0+us.length)).toArray ?_ (fun η' h hm=>hm)
       ·exact ⟨_,_,rfl,hrun,J.1,J.2,rfl,rfl,by simp,rfl⟩
       ·intro xx
        have hcell:∀ k,(c.toList.take (row*sz+sub+0)++us++c.toList.drop (row*sz+sub+0+us.length)).toArray[k]? = if k<row*sz+sub then c[k]? else if k<row*sz+sub+us.length then us[k - (row*sz+sub)]? else c[k]?:=by
         intro k
         simp only [List.getElem?_toArray]
         rw [seg_get (by simpa using hfit)]
         simp only [Nat.add_zero,Array.getElem?_toList]
        have hrow6:=g6 row _ (getD_get e.dflt hrl)
        have ofr:=ofAVs_rel (η:=η) (h:=H.length) (w:=w) I.zsub e _ x f [] (fun j=>(c.toList.take (row*sz+sub+0)++us++c.toList.drop (row*sz+sub+0+us.length)).toArray[row*e.cells+j]?) hof (fun j y hy=>by
         simp only [setRange] at hy
         rw [seg_get (by rw [toAVs_length];omega)] at hy
         rw [hcell,hsz]
         split at hy
         ·rename_i hj
          rw [if_pos (by omega)]
          obtain ⟨u,a1,a2,a3⟩:=toAVs_rel (h:=H.length) fr e _ _ hrow6 j y hy
          exact ⟨u,by rw [← a1,hsz],a3⟩
         ·rename_i hj
          rw [if_neg (by omega)]
          split at hy
          ·rename_i hj2
           rw [if_pos (by omega)]
           refine ⟨_,?_,hu _ y hy⟩
           have hlt:j - sub<us.length:=by omega
           rw [List.getD_eq_getElem?_getD,show row*sz+j - (row*sz+sub)=j - sub by omega,List.getElem?_eq_getElem hlt];rfl
          ·rename_i hj2
           rw [if_neg (by omega)]
           obtain ⟨u,a1,a2,a3⟩:=toAVs_rel (h:=H.length) fr e _ _ hrow6 j y hy
           exact ⟨u,by rw [← a1,hsz],a3⟩)
        refine ⟨by rw [hln];simp,.inr ⟨_,cap,by rw [g1];simp,setRow_heap w _ c _ E (0,0) g2,by simpa using g3,g4,?_,fun i y hy=>?_⟩⟩
        ·have:us.length≤c.size:=by omega
         simp only [List.size_toArray,List.length_append,List.length_take,List.length_drop,Array.length_toList]
         omega
        ·rw [List.getElem?_set] at hy
         split at hy
         ·rename_i he
          subst he
          obtain rfl:=Option.some.inj hy
          exact lay_cell_mono (xx 0).z (xx 0).same (Lay.down I.zsub (by simp) ofr.1)
         ·rename_i hne
          have l6:=lay_cell_mono (xx 0).z (xx 0).same (Lay.down I.zsub (g:=fr&&f) (by simp;exact fun p _=>p) (g6 i y hy))
          refine Lay.congr e y _ _ (fun j hj=>?_) l6
          rw [hcell,hsz]
          rw [hsz] at hj
          rcases Nat.lt_or_gt_of_ne hne with hlt | hlt
          ·have:(row+1)*sz≤i*sz:=Nat.mul_le_mul_right _ hlt
           rw [Nat.add_mul] at this
           rw [if_neg (by omega),if_neg (by omega)]
          ·have:(i+1)*sz≤row*sz:=Nat.mul_le_mul_right _ hlt
           rw [Nat.add_mul] at this
           rw [if_pos (by omega)]
      ·cases hr
    ·cases hr
   | deep E Es e l =>
    obtain ⟨hln,R⟩:=R
    simp only at hr
    split at hr
    ·rename_i hle
     simp only [Bool.and_eq_true,decide_eq_true_eq] at hle
     obtain ⟨hsz,hle⟩:=hle
     rcases R with ⟨_,rfl⟩ | ⟨c,cap,g1,g2,g3,g4,g5,g6⟩
     ·simp at hln;omega
     ·split at hr
      ·rename_i x hof
       obtain rfl:=Option.some.inj hr
       have hrl:row<l.length:=by omega
       have hfit:row*sz+sub+0+us.length≤c.size:=by
        have:(row+1)*sz≤cap*sz:=Nat.mul_le_mul_right _ (by omega)
        rw [Nat.add_mul] at this
        rw [g5,hsz];omega
       have hrun:=run_storeCells_at P (η.ι id) (row*sz+sub) E us 0 c w g2 hfit h1
       have J:=I.setRow (o:=.deep E Es e l) (o':=.deep E Es e (l.set row x)) ho (not_nul g1 g4.1)
        (c.toList.take (row*sz+sub+0)++us++c.toList.drop (row*sz+sub+0+us.length)).toArray ?_ (fun η' h hm=>hm)
       ·exact ⟨_,_,rfl,hrun,J.1,J.2,rfl,rfl,by simp,rfl⟩
       ·intro xx
        have hcell:∀ k,(c.toList.take (row*sz+sub+0)++us++c.toList.drop (row*sz+sub+0+us.length)).toArray[k]? = if k<row*sz+sub then c[k]? else if k<row*sz+sub+us.length then us[k - (row*sz+sub)]? else c[k]?:=by
         intro k
         simp only [List.getElem?_toArray]
         rw [seg_get (by simpa using hfit)]
         simp only [Nat.add_zero,Array.getElem?_toList]
        have hrow6:=g6 row _ (getD_get e.dflt hrl)
        have hok:OKeep η w η (w.setRow (η.ι id) (c.toList.take (row*sz+sub+0)++us++c.toList.drop (row*sz+sub+0+us.length)).toArray) id:=⟨trivial,fun b r q hb=>⟨hb,setRow_other w _ _ _ fun e=>(I.dep b _ hb).2.2.2 id _ ho (not_nul g1 g4.1) e.symm⟩⟩
        have ofr:=putOwn_rel (η:=η) (η':=η) (h:=H.length) (w:=w) (w':=w.setRow (η.ι id) (c.toList.take (row*sz+sub+0)++us++c.toList.drop (row*sz+sub+0+us.length)).toArray) (id:=id) (row:=row) (sub:=sub) (H:=[]) (vs:=vs) (fun k E fr e l hk=>by simp at hk) e Es 0 _ x [] [] _ (fun j=>(c.toList.take (row*sz+sub+0)++us++c.toList.drop (row*sz+sub+0+us.length)).toArray[row*e.cells+j]?) hof (.inr ⟨hrow6,fun _ _=>rfl,fun b o _ hb=>hok.2 b _ _ hb⟩) (fun j hj hr=>by
         simp only [Nat.zero_add] at hr
         rw [hcell,hsz]
         by_cases h1:row*sz+j<row*sz+sub
         ·rw [if_pos h1]
         ·rw [if_neg h1,if_neg (by omega)]) (fun j hj hs y hy=>by
         simp only [Nat.zero_add] at hs hy
         have hlt:j - sub<vs.length:=(List.getElem?_eq_some_iff.1 hy).1
         refine ⟨us.getD (j - sub) undef,?_,hu _ y hy⟩
         rw [hcell,hsz,if_neg (by omega),if_pos (by omega),List.getD_eq_getElem?_getD,show row*sz+j - (row*sz+sub)=j - sub by omega,List.getElem?_eq_getElem (by omega)];rfl) (fun k o hm=>by simp at hm) (fun o hm=>by simp at hm)
        refine ⟨by rw [hln];simp,.inr ⟨_,cap,by rw [g1];simp,setRow_heap w _ c _ E (0,0) g2,by simpa using g3,g4,?_,fun i y hy=>?_⟩⟩
        ·have:us.length≤c.size:=by omega
         simp only [List.size_toArray,List.length_append,List.length_take,List.length_drop,Array.length_toList]
         omega
        ·rw [List.getElem?_set] at hy
         split at hy
         ·rename_i he
          subst he
          obtain rfl:=Option.some.inj hy
          exact ofr
         ·rename_i hne
          have l6:=Own.mono rfl hok (xx 0).z (xx 0).same _ _ _ _ _ (g6 i y hy)
          refine Own.congr _ _ _ _ _ _ (fun j hj=>?_) l6
          rw [hcell,hsz]
          rw [hsz] at hj
          rcases Nat.lt_or_gt_of_ne hne with hlt | hlt
          ·have:(row+1)*sz≤i*sz:=Nat.mul_le_mul_right _ hlt
           rw [Nat.add_mul] at this
           rw [if_neg (by omega),if_neg (by omega)]
          ·have:(i+1)*sz≤row*sz:=Nat.mul_le_mul_right _ hlt
           rw [Nat.add_mul] at this
           rw [if_pos (by omega)]
      ·cases hr
    ·cases hr
 | _=>simp [St.write] at hr
end
end Go.Proofs.Ytccelbeahdcooaa.Eng
