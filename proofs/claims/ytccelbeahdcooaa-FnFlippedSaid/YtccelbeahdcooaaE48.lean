/- The engine, part 48: rows of deep objects take over what objects hold. -/
import Derived.Test.YtccelbeahdcooaaE6
namespace Go.Proofs.Ytccelbeahdcooaa.Eng
open Go Go.RowKit
set_option linter.unusedSimpArgs false
set_option linter.unusedVariables false

section
variable {P:Program} {N:Nat→Prop} {w0:World} {η0:Env} {h0:Nat} {we:World} {η:Env} {st:St} {a:Act} {w:World}

theorem ObjR.owners {η':Env} {h:Nat} {w w':World} (hι:η'.ι=η.ι) (hhv:η'.hv=η.hv) (hln:η'.ln=η.ln) (hZ:η'.Z=η.Z) (hw:∀ f b,η.Z f b→w'.heap[b]? = w.heap[b]?) {id:Nat} {o:AObj}
  (hn:∀ E Es e l,o=.deep E Es e l→η'.nv id=η.nv id) (hn2:∀ E Es e l row off,o=.hole E Es e l row off→η'.nv id=η.nv id) (ha:∀ cs,o=.box cs→∀ (a:AV) (v:Value),AVR η h w a v→a∈cs→AVR η' h w' a v)
  (hb:o.mat η id→w'.heap[η.ι id]? = w.heap[η.ι id]?) (hO:∀ b r q,η.O b=some (id,r,q)→η'.O b=some (id,r,q)∧w'.heap[b]? = w.heap[b]?) (R:ObjR η h w id o):ObjR η' h w' id o:=by
 cases o with
 | dead=>trivial
 | box cs =>
  obtain ⟨h1,c,E,h2,h3,h4⟩:=R
  exact ⟨by rw [hln];exact h1,c,E,by rw [hι,hb trivial];exact h2,h3,fun j a hj=>⟨ha cs rfl _ _ (h4 j a hj).1 (List.mem_of_getElem? hj),(h4 j a hj).2⟩⟩
 | rows E fr e l =>
  obtain ⟨h1,h2⟩:=R
  refine ⟨by rw [hln];exact h1,?_⟩
  rcases h2 with ⟨p1,p2⟩ | ⟨c,cap,p1,p2,p3,p4,p5,p6⟩
  ·exact .inl ⟨by rw [hhv];exact p1,p2⟩
  ·exact .inr ⟨c,cap,by rw [hhv,hι];exact p1,by rw [hι,hb (not_nul p1 p4.1)];exact p2,p3,p4,p5,fun i y hy=>by rw [hZ];exact Lay.mono (fun _ h=>h) (hw fr) _ _ _ (p6 i y hy)⟩
 | deep E Es e l =>
  obtain ⟨h1,h2⟩:=R
  refine ⟨by rw [hln];exact h1,?_⟩
  rcases h2 with ⟨p1,p2⟩ | ⟨c,cap,p1,p2,p3,p4,p5,p6⟩
  ·exact .inl ⟨by rw [hhv];exact p1,p2⟩
  ·exact .inr ⟨c,cap,by rw [hhv,hι];exact p1,by rw [hι,hb (not_nul p1 p4.1)];exact p2,p3,p4,p5,fun i y hy=>Own.ren (hn _ _ _ _ rfl) hO _ _ _ _ _ (p6 i y hy)⟩
 | hole E Es e l row off =>
  obtain ⟨h1,c,cap,p1,p2,p3,p4,p5,p6⟩:=R
  exact ⟨by rw [hln];exact h1,c,cap,by rw [hhv,hι];exact p1,by rw [hι,hb (not_nul p1 p4.1)];exact p2,p3,p4,p5,fun i y hy=>Own.ren (η:=η.holeAt id row off) (η':=η'.holeAt id row off) (holeAt_eq (hn2 _ _ _ _ _ _ rfl)) hO _ _ _ _ _ (p6 i y hy)⟩

theorem AVR.owners {η':Env} {h:Nat} {w:World} (hι:η'.ι=η.ι) (hhv:η'.hv=η.hv) (hln:η'.ln=η.ln) (hZ:η'.Z=η.Z) (hn:η'.nv=η.nv) {a:AV} {v:Value} (r:AVR η h w a v):AVR η' h w a v :=
 r.ext ⟨fun id hi _=>⟨hi,by rw [hι],by rw [hhv],by rw [hln]⟩,fun f b hb=>by rw [hZ];exact hb,fun _ _ _=>rfl,fun b hb=>by rw [hZ] at hb;exact .inl hb,fun id _ _=>by rw [hn]⟩

open Classical in
noncomputable def Env.own1 (η:Env) (k:Nat) (q:Nat×Nat×Nat):Env:={ η with O:=fun b=>if b=η.ι k∧¬ nulV (η.hv k) then some q else η.O b }

theorem Inv.own1 {H:List AObj} (I:Inv N w0 η H w) {k:Nat} {E:TypeId} {fr:Bool} {e:Ty} {l:List e.den} (hk:H[k]? = some (.rows E fr e l)) (q:Nat×Nat×Nat) :
  Inv N w0 (η.own1 k q) (H.set k .dead) w∧(∀ b p,η.O b=some p→(η.own1 k q).O b=some p)∧(¬ nulV (η.hv k)→(η.own1 k q).O (η.ι k)=some q):=by
 have hO:∀ b p,η.O b=some p→(η.own1 k q).O b=some p:=by
  intro b p hb
  simp only [Env.own1]
  rw [if_neg]
  ·exact hb
  ·rintro ⟨rfl,hn⟩
   exact (I.dep _ _ hb).2.2.2 k _ hk hn rfl
 have hm:∀ (i:Nat) (o:AObj),o.mat (η.own1 k q) i↔o.mat η i:=fun i o=>by cases o<;>exact Iff.rfl
 have hget:∀ (i:Nat) (o:AObj),(H.set k .dead)[i]? = some o→o.mat η i→i ≠ k∧H[i]? = some o:=by
  intro i o ho hmi
  rcases set_some ho with ⟨rfl,_,rfl⟩ | ⟨hne,ho⟩
  ·exact hmi.elim
  ·exact ⟨hne,ho⟩
 refine ⟨⟨I.nlt,I.fr,I.zlt,I.zsub,I.znew,I.hvs,fun i o ho=>?_,fun i o ho hmi=>I.own i o (hget i o ho ((hm i o).1 hmi)).2 ((hm i o).1 hmi),fun i j y z hy hz my mz he=>I.inj i j y z (hget i y hy ((hm i y).1 my)).2 (hget j z hz ((hm j z).1 mz)).2 ((hm i y).1 my) ((hm j z).1 mz) he,fun b p hb=>?_,I.nvs⟩,hO,fun hn=>by simp [Env.own1,hn]⟩
 ·rw [List.length_set]
  rcases set_some ho with ⟨rfl,_,rfl⟩ | ⟨hne,ho⟩
  ·trivial
  ·exact ObjR.owners (η:=η) (η':=η.own1 k q) rfl rfl rfl rfl (fun _ _ _=>rfl) (fun _ _ _ _ _=>rfl) (fun _ _ _ _ _ _ _=>rfl) (fun _ _ a v r _=>AVR.owners (η:=η) (η':=η.own1 k q) rfl rfl rfl rfl rfl r) (fun _=>rfl) (fun b r s hb=>⟨hO _ _ hb,rfl⟩) (I.obj i o ho)
 ·simp only [Env.own1] at hb
  split at hb
  ·rename_i hc
   obtain ⟨rfl,hn⟩:=hc
   obtain ⟨a1,a2,a3⟩:=I.own k _ hk hn
   refine ⟨a1,a2,a3,fun i o ho hmi he=>?_⟩
   obtain ⟨hne,ho'⟩:=hget i o ho ((hm i o).1 hmi)
   exact hne (I.inj i k o _ ho' hk ((hm i o).1 hmi) hn he)
  ·obtain ⟨d1,d2,d3,d4⟩:=I.dep b p hb
   exact ⟨d1,d2,d3,fun i o ho hmi=>d4 i o (hget i o ho ((hm i o).1 hmi)).2 ((hm i o).1 hmi)⟩

theorem deadAll_length:∀ (ts:List (Nat×Nat)) (H:List AObj),(deadAll ts H).length=H.length:=by
 intro ts
 induction ts with
 | nil=>intro H;rfl
 | cons p ts ih=>intro H;simp only [deadAll,ih,List.length_set]
theorem deadAll_get:∀ (ts:List (Nat×Nat)) (H:List AObj) (i:Nat),i ∉ ts.map (·.1)→(deadAll ts H)[i]? = H[i]?:=by
 intro ts
 induction ts with
 | nil=>intro H i _;rfl
 | cons p ts ih =>
  intro H i hi
  simp only [List.map_cons,List.mem_cons,not_or] at hi
  simp only [deadAll]
  rw [ih _ _ hi.2,List.getElem?_set_ne (fun e=>hi.1 e.symm)]

theorem Inv.ownAll (id row:Nat):∀ (ts:List (Nat×Nat)) (η:Env) (H:List AObj),Inv N w0 η H w→distinct (ts.map (·.1))=true→(∀ k o,(k,o)∈ts→∃ E fr e l,H[k]? = some (.rows E fr e l)) →
  ∃ η', Inv N w0 η' (deadAll ts H) w∧η'.ι=η.ι∧η'.hv=η.hv∧η'.ln=η.ln∧η'.Z=η.Z∧η'.nv=η.nv∧(∀ b p,η.O b=some p→η'.O b=some p)∧∀ k o,(k,o)∈ts→¬ nulV (η.hv k)→η'.O (η.ι k)=some (id,row,o):=by
 intro ts
 induction ts with
 | nil=>intro η H I _ _;exact ⟨η,I,rfl,rfl,rfl,rfl,rfl,fun _ _ h=>h,fun k o h=>by simp at h⟩
 | cons p ts ih =>
  obtain ⟨k,o⟩:=p
  intro η H I hd hr
  simp only [List.map_cons,distinct,Bool.and_eq_true,Bool.not_eq_true'] at hd
  obtain ⟨E,fr,e,l,hk⟩:=hr k o (by simp)
  obtain ⟨I1,o1,o2⟩:=I.own1 hk (id,row,o)
  obtain ⟨η', I2,e1,e2,e3,e4,e5,e6,e7⟩:=ih _ _ I1 hd.2 (fun k' o' hm=>by
   obtain ⟨E', fr', e', l', hk'⟩:=hr k' o' (by simp [hm])
   refine ⟨E', fr', e', l', ?_⟩
   rw [List.getElem?_set_ne]
   ·exact hk'
   ·rintro rfl
    have:k∈ts.map (·.1):=List.mem_map.2 ⟨_,hm,rfl⟩
    rw [Bool.eq_false_iff] at hd
    exact hd.1 (by simpa using this))
  refine ⟨η', I2,e1,e2,e3,e4,e5,fun b p hb=>e6 b p (o1 b p hb),fun k' o' hm hn=>?_⟩
  rcases List.mem_cons.1 hm with h | h
  ·cases h;exact e6 _ _ (o2 hn)
  ·exact e7 k' o' h hn

theorem putOwn_took {H:List AObj} {sub:Nat} {vs:List AV}:∀ (t:Ty) (Es:List TypeId) (off:Nat) (old x:t.den) (ts:List (Nat×Nat)) (ns:List Nat),t.putOwn H Es off old sub vs=some (x,ts,ns) →
  (∀ k o,(k,o)∈ts→(∃ E fr e l,H[k]? = some (.rows E fr e l))∧sub≤o∧o<sub+vs.length∧off≤o)∧(∀ o∈ns,sub≤o∧o<sub+vs.length∧off≤o)∧(∀ k o,(k,o)∈ts→o<off+t.cells)∧(∀ o∈ns,o<off+t.cells)∧(∀ k o k', (k,o)∈ts→(k', o)∈ts→k=k')∧(∀ k o,(k,o)∈ts→o ∉ ns):=by
 have triv:∀ {off c:Nat},(∀ k o,(k,o)∈([]:List (Nat×Nat))→(∃ E fr e l,H[k]? = some (AObj.rows E fr e l))∧sub≤o∧o<sub+vs.length∧off≤o)∧(∀ o∈([]:List Nat),sub≤o∧o<sub+vs.length∧off≤o)∧(∀ k o,(k,o)∈([]:List (Nat×Nat))→o<c)∧(∀ o∈([]:List Nat),o<c)∧(∀ k o k', (k,o)∈([]:List (Nat×Nat))→(k', o)∈([]:List (Nat×Nat))→k=k')∧(∀ k o,(k,o)∈([]:List (Nat×Nat))→o ∉ ([]:List Nat)) :=
  ⟨fun k o h=>by simp at h,fun o h=>by simp at h,fun k o h=>by simp at h,fun o h=>by simp at h,fun k o k' h=>by simp at h,fun k o h=>by simp at h⟩
 intro t
 induction t with
 | int k =>
  intro Es off old x ts ns h
  simp only [Ty.putOwn] at h
  split at h
  ·simp only [Option.some.injEq,Prod.mk.injEq] at h;obtain ⟨_,rfl,rfl⟩:=h;exact triv
  ·split at h
   ·split at h
    ·simp only [Option.some.injEq,Prod.mk.injEq] at h;obtain ⟨_,rfl,rfl⟩:=h;exact triv
    ·cases h
   ·cases h
 | bool =>
  intro Es off old x ts ns h
  simp only [Ty.putOwn] at h
  split at h
  ·simp only [Option.some.injEq,Prod.mk.injEq] at h;obtain ⟨_,rfl,rfl⟩:=h;exact triv
  ·split at h
   ·simp only [Option.some.injEq,Prod.mk.injEq] at h;obtain ⟨_,rfl,rfl⟩:=h;exact triv
   ·cases h
 | str =>
  intro Es off old x ts ns h
  simp only [Ty.putOwn] at h
  split at h
  ·simp only [Option.some.injEq,Prod.mk.injEq] at h;obtain ⟨_,rfl,rfl⟩:=h;exact triv
  ·split at h
   ·simp only [Option.some.injEq,Prod.mk.injEq] at h;obtain ⟨_,rfl,rfl⟩:=h;exact triv
   ·cases h
 | sl e _ =>
  intro Es off old x ts ns h
  simp only [Ty.putOwn] at h
  split at h
  ·simp only [Option.some.injEq,Prod.mk.injEq] at h;obtain ⟨_,rfl,rfl⟩:=h;exact triv
  ·rename_i hr
   split at h
   ·simp only [Option.some.injEq,Prod.mk.injEq] at h
    obtain ⟨_,rfl,rfl⟩:=h
    refine ⟨fun k o h=>by simp at h,fun o h=>?_,fun k o h=>by simp at h,fun o h=>?_,fun k o k' h=>by simp at h,fun k o h=>by simp at h⟩
    ·simp only [List.mem_singleton] at h;omega
    ·simp only [List.mem_singleton] at h;simp [Ty.cells];omega
   ·split at h
    ·rename_i E' fr e' l hk
     split at h
     ·rename_i hh
      simp only [Option.some.injEq,Prod.mk.injEq] at h
      obtain ⟨_,rfl,rfl⟩:=h
      refine ⟨fun k o h=>?_,fun o h=>by simp at h,fun k o h=>?_,fun o h=>by simp at h,fun k o k' h h'=>?_,fun k o _ h=>by simp at h⟩
      ·simp only [List.mem_singleton,Prod.mk.injEq] at h
       obtain ⟨rfl,rfl⟩:=h
       exact ⟨⟨_,_,_,_,hk⟩,by omega,by omega,Nat.le_refl _⟩
      ·simp only [List.mem_singleton,Prod.mk.injEq] at h;simp [Ty.cells];omega
      ·simp only [List.mem_singleton,Prod.mk.injEq] at h h'
       rw [h.1,h'.1]
     ·cases h
    ·cases h
   ·cases h
 | pair a b iha ihb =>
  intro Es off old x ts ns h
  simp only [Ty.putOwn] at h
  obtain ⟨p,hp,hq⟩:=Option.bind_eq_some_iff.1 h
  obtain ⟨q,hq1,hq2⟩:=Option.map_eq_some_iff.1 hq
  simp only [Prod.mk.injEq] at hq2
  obtain ⟨_,rfl,rfl⟩:=hq2
  obtain ⟨a1,a2,a3,a4,a5,a6⟩:=iha _ _ _ _ _ _ hp
  obtain ⟨b1,b2,b3,b4,b5,b6⟩:=ihb _ _ _ _ _ _ hq1
  have hc:(Ty.pair a b).cells=a.cells+b.cells:=rfl
  refine ⟨fun k o hm=>?_,fun o hm=>?_,fun k o hm=>?_,fun o hm=>?_,fun k o k' h1 h2=>?_,fun k o h1 h2=>?_⟩
  ·rcases List.mem_append.1 hm with hm | hm
   ·exact a1 k o hm
   ·obtain ⟨r1,r2,r3,r4⟩:=b1 k o hm;exact ⟨r1,r2,r3,by omega⟩
  ·rcases List.mem_append.1 hm with hm | hm
   ·exact a2 o hm
   ·obtain ⟨r2,r3,r4⟩:=b2 o hm;exact ⟨r2,r3,by omega⟩
  ·rcases List.mem_append.1 hm with hm | hm
   ·have:=a3 k o hm;omega
   ·have:=b3 k o hm;omega
  ·rcases List.mem_append.1 hm with hm | hm
   ·have:=a4 o hm;omega
   ·have:=b4 o hm;omega
  ·rcases List.mem_append.1 h1 with h1 | h1<;>rcases List.mem_append.1 h2 with h2 | h2
   ·exact a5 k o k' h1 h2
   ·have:=a3 k o h1;have:=(b1 k' o h2).2.2.2;omega
   ·have:=a3 k' o h2;have:=(b1 k o h1).2.2.2;omega
   ·exact b5 k o k' h1 h2
  ·rcases List.mem_append.1 h1 with h1 | h1<;>rcases List.mem_append.1 h2 with h2 | h2
   ·exact a6 k o h1 h2
   ·have:=a3 k o h1;have:=(b2 o h2).2.2;omega
   ·have:=a4 o h2;have:=(b1 k o h1).2.2.2;omega
   ·exact b6 k o h1 h2

def Env.reNv (η:Env) (id row:Nat) (f:Nat→Value):Env:={ η with nv:=fun i r o=>if i=id∧r=row then f o else η.nv i r o }

theorem AVR.noN1 {η':Env} {h id:Nat} {w w':World} (hι:η'.ι=η.ι) (hhv:η'.hv=η.hv) (hln:η'.ln=η.ln) (hZ:η'.Z=η.Z) (hw:∀ f b,η.Z f b→w'.heap[b]? = w.heap[b]?) (hn:∀ i,i ≠ id→η'.nv i=η.nv i)
  {a:AV} {v:Value} (hN:a.noN1 id=true) (r:AVR η h w a v):AVR η' h w' a v:=by
 have x:Ext (fun i=>i==id) η h w η' h w':=⟨fun i hi _=>⟨hi,by rw [hι],by rw [hhv],by rw [hln]⟩,fun f b hb=>by rw [hZ];exact hb,hw,fun b hb=>by rw [hZ] at hb;exact .inl hb,fun i _ hk=>hn i (by simpa using hk)⟩
 cases r with
 | nest hid hr =>
  rename_i i row sz off
  have hne:i ≠ id:=by simpa [AV.noN1] using hN
  rw [← hn i hne]
  exact .nest hid (by rw [hln];exact hr)
 | all hid=>rw [← hhv];exact .all hid
 | arr hid hn' hlo hA=>exact .arr hid hn' (by rw [hln];exact hlo) (by rw [hι];exact hA)
 | pre hid hv hn' hc=>exact .pre hid (by rw [hhv];exact hv) hn' hc
 | ptr hid hr=>rw [← hι];exact .ptr hid (by rw [hln];exact hr)
 | t h1 hl=>exact AVR.kill1 x (.t h1 hl)
 | raw=>exact .raw _
 | rop hr hz hl=>exact AVR.kill1 x (.rop hr hz hl)
 | junk=>exact .junk _
 | agg=>simp [AV.noN1] at hN
 | tup=>simp [AV.noN1] at hN
 | fn=>simp [AV.noN1] at hN
theorem AVR.dropN1 {η':Env} {h id:Nat} {w w':World} (hι:η'.ι=η.ι) (hhv:η'.hv=η.hv) (hln:η'.ln=η.ln) (hZ:η'.Z=η.Z) (hw:∀ f b,η.Z f b→w'.heap[b]? = w.heap[b]?) (hn:∀ i,i ≠ id→η'.nv i=η.nv i)
  {a:AV} {v:Value} (r:AVR η h w a v):AVR η' h w' (a.dropN1 id) v:=by
 cases r with
 | @nest i row sz off hid hr =>
  simp only [AV.dropN1]
  split
  ·exact .junk _
  ·rename_i hne;rw [← hn i hne];exact .nest hid (by rw [hln];exact hr)
 | all hid=>exact AVR.noN1 hι hhv hln hZ hw hn rfl (.all hid)
 | arr a b c d=>exact AVR.noN1 hι hhv hln hZ hw hn rfl (.arr a b c d)
 | pre a b c d=>exact AVR.noN1 hι hhv hln hZ hw hn rfl (.pre a b c d)
 | ptr a b=>exact AVR.noN1 hι hhv hln hZ hw hn rfl (.ptr a b)
 | t a b=>exact AVR.noN1 hι hhv hln hZ hw hn rfl (.t a b)
 | raw=>exact .raw _
 | rop a b c=>exact AVR.noN1 hι hhv hln hZ hw hn rfl (.rop a b c)
 | junk=>exact .junk _
 | agg=>exact .junk _
 | tup=>exact .junk _
 | fn=>exact .junk _
theorem AVR.dropN2 {η':Env} {h id:Nat} {w w':World} (hι:η'.ι=η.ι) (hhv:η'.hv=η.hv) (hln:η'.ln=η.ln) (hZ:η'.Z=η.Z) (hw:∀ f b,η.Z f b→w'.heap[b]? = w.heap[b]?) (hn:∀ i,i ≠ id→η'.nv i=η.nv i)
  {a:AV} {v:Value} (r:AVR η h w a v):AVR η' h w' (a.dropN2 id) v:=by
 have one:∀ b,AVR η h w b v→AVR η' h w' (b.dropN1 id) v:=fun b r=>r.dropN1 hι hhv hln hZ hw hn
 cases r with
 | agg hsz hc =>
  refine .agg (by simpa using hsz) (fun i c hi=>?_)
  obtain ⟨y,hy,rfl⟩:=getElem?_map_some hi
  exact (hc i y hy).dropN1 hι hhv hln hZ hw hn
 | all hid=>exact one _ (.all hid)
 | arr a b c d=>exact one _ (.arr a b c d)
 | pre a b c d=>exact one _ (.pre a b c d)
 | ptr a b=>exact one _ (.ptr a b)
 | nest a b=>exact one _ (.nest a b)
 | t a b=>exact one _ (.t a b)
 | raw=>exact .raw _
 | rop a b c=>exact one _ (.rop a b c)
 | junk=>exact .junk _
 | tup=>exact .junk _
 | fn=>exact .junk _
theorem AVR.dropN {η':Env} {h id:Nat} {w w':World} (hι:η'.ι=η.ι) (hhv:η'.hv=η.hv) (hln:η'.ln=η.ln) (hZ:η'.Z=η.Z) (hw:∀ f b,η.Z f b→w'.heap[b]? = w.heap[b]?) (hn:∀ i,i ≠ id→η'.nv i=η.nv i)
  {a:AV} {v:Value} (r:AVR η h w a v):AVR η' h w' (a.dropN id) v:=by
 have one:∀ b,AVR η h w b v→AVR η' h w' (b.dropN1 id) v:=fun b r=>r.dropN1 hι hhv hln hZ hw hn
 cases r with
 | agg hsz hc =>
  refine .agg (by simpa using hsz) (fun i c hi=>?_)
  obtain ⟨y,hy,rfl⟩:=getElem?_map_some hi
  exact (hc i y hy).dropN1 hι hhv hln hZ hw hn
 | fn hsz hc =>
  refine .fn (by simpa using hsz) (fun i c hi=>?_)
  obtain ⟨y,hy,rfl⟩:=getElem?_map_some hi
  exact (hc i y hy).dropN1 hι hhv hln hZ hw hn
 | tup hsz hc =>
  refine .tup (by simpa using hsz) (fun i c hi=>?_)
  obtain ⟨y,hy,rfl⟩:=getElem?_map_some hi
  exact (hc i y hy).dropN2 hι hhv hln hZ hw hn
 | all hid=>exact one _ (.all hid)
 | arr a b c d=>exact one _ (.arr a b c d)
 | pre a b c d=>exact one _ (.pre a b c d)
 | ptr a b=>exact one _ (.ptr a b)
 | nest a b=>exact one _ (.nest a b)
 | t a b=>exact one _ (.t a b)
 | raw=>exact .raw _
 | rop a b c=>exact one _ (.rop a b c)
 | junk=>exact .junk _

theorem Inv.setDeep {H:List AObj} (I:Inv N w0 η H w) {id row:Nat} {E:TypeId} {Es:List TypeId} {e:Ty} {l l':List e.den} (ho:H[id]? = some (.deep E Es e l)) (hm:¬ nulV (η.hv id)) (c:Array Value) (f:Nat→Value)
  (hf:∀ o,∃ A n c,f o=.slice A n c) (hN:H.all (AObj.noN id)=true) (hx:ObjR (η.reNv id row f) H.length (w.setRow (η.ι id) c) id (.deep E Es e l')) :
  Inv N w0 (η.reNv id row f) (H.set id (.deep E Es e l')) (w.setRow (η.ι id) c)∧(∀ h,Ext (fun i=>i==id) η h w (η.reNv id row f) h (w.setRow (η.ι id) c)) ∧
   ∀ h a v,AVR η h w a v→AVR (η.reNv id row f) h (w.setRow (η.ι id) c) (a.dropN id) v:=by
 obtain ⟨n1,n2,n3⟩:=I.own id _ ho hm
 have hz:∀ f b,η.Z f b→(w.setRow (η.ι id) c).heap[b]? = w.heap[b]?:=fun f b hb=>setRow_other w _ b c fun e=>n2 (I.zfalse (e ▸ hb))
 have hn:∀ i,i ≠ id→(η.reNv id row f).nv i=η.nv i:=fun i hi=>by funext r o;simp [Env.reNv,hi]
 have hs:(w.setRow (η.ι id) c).heap.size=w.heap.size:=by simp [World.setRow]
 have hmat:∀ (i:Nat) (o:AObj),o.mat (η.reNv id row f) i↔o.mat η i:=fun i o=>by cases o<;>exact Iff.rfl
 have hget:∀ (i:Nat) (o:AObj),(H.set id (.deep E Es e l'))[i]? = some o→o.mat η i→∃ o0,H[i]? = some o0∧o0.mat η i:=by
  intro i o h hmi
  rcases set_some h with ⟨rfl,_,rfl⟩ | ⟨hne,h⟩
  ·exact ⟨_,ho,hm⟩
  ·exact ⟨_,h,hmi⟩
 refine ⟨⟨I.nlt,⟨I.fr.os,I.fr.tape,I.fr.output,by rw [hs];exact I.fr.size,fun k hk=>?_⟩,by rw [hs];exact I.zlt,I.zsub,I.znew,I.hvs,fun i y hy=>?_,fun i y hy hmy=>?_,fun i j y z hy hz' my mz he=>?_,fun b k hb=>?_,fun i r o=>?_⟩,fun h=>⟨fun i hi _=>⟨hi,rfl,rfl,rfl⟩,fun _ _ h=>h,hz,fun _ h=>.inl h,fun i _ hk=>hn i (by simpa using hk)⟩,fun h a v r=>AVR.dropN (η:=η) (η':=η.reNv id row f) rfl rfl rfl rfl hz hn r⟩
 ·rw [setRow_other w _ k c (fun e=>by subst e;exact n1 hk)];exact I.fr.block k hk
 ·rw [List.length_set]
  rcases set_some hy with ⟨rfl,_,rfl⟩ | ⟨hne,hy⟩
  ·exact hx
  ·refine ObjR.owners (η:=η) (η':=η.reNv id row f) rfl rfl rfl rfl hz (fun _ _ _ _ _=>hn i hne) (fun _ _ _ _ _ _ _=>hn i hne) (fun cs e a v r hb=>?_) (fun hmi=>setRow_other w _ _ c (fun e=>hne ?_)) (fun b r q hb=>⟨hb,setRow_other w _ _ c fun e=>(I.dep b _ hb).2.2.2 id _ ho hm e.symm⟩) (I.obj i y hy)
   ·subst e;exact AVR.noN1 (η:=η) (η':=η.reNv id row f) rfl rfl rfl rfl hz hn (List.all_eq_true.1 (List.all_eq_true.1 hN _ (List.mem_of_getElem? hy)) a hb) r
   ·exact I.inj i id y _ hy ho hmi hm e
 ·rw [hs]
  obtain ⟨o0,g1,g2⟩:=hget i y hy ((hmat i y).1 hmy)
  exact I.own i o0 g1 g2
 ·obtain ⟨o0,g1,g2⟩:=hget i y hy ((hmat i y).1 my)
  obtain ⟨o1,g3,g4⟩:=hget j z hz' ((hmat j z).1 mz)
  exact I.inj i j o0 o1 g1 g3 g2 g4 he
 ·obtain ⟨d1,d2,d3,d4⟩:=I.dep b k hb
  refine ⟨d1,d2,by rw [hs];exact d3,fun i y hy hmy=>?_⟩
  obtain ⟨o0,g1,g2⟩:=hget i y hy ((hmat i y).1 hmy)
  exact d4 i o0 g1 g2
 ·simp only [Env.reNv]
  split
  ·exact hf o
  ·exact I.nvs _ _ _

theorem deadAll_noN {id:Nat}:∀ (ts:List (Nat×Nat)) (H:List AObj),H.all (AObj.noN id)=true→(deadAll ts H).all (AObj.noN id)=true:=by
 intro ts
 induction ts with
 | nil=>intro H h;exact h
 | cons p ts ih =>
  intro H h
  refine ih _ (List.all_eq_true.2 fun o ho=>?_)
  rcases List.mem_or_eq_of_mem_set ho with h1 | rfl
  ·exact List.all_eq_true.1 h o h1
  ·rfl
def newNv (ts:List (Nat×Nat)) (ns:List Nat) (hv old:Nat→Value) (o:Nat):Value :=
 match ts.find? (fun p=>p.2==o) with
 | some p=>hv p.1
 | none=>if ns.contains o then nilV else old o
theorem newNv_ts {ts:List (Nat×Nat)} {ns:List Nat} {hv old:Nat→Value} (hu:∀ k o k', (k,o)∈ts→(k', o)∈ts→k=k') {k o:Nat} (h:(k,o)∈ts):newNv ts ns hv old o=hv k:=by
 unfold newNv
 split
 ·rename_i p hp
  have h1:=List.mem_of_find?_eq_some hp
  have h2:p.2=o:=by simpa using List.find?_some hp
  rw [hu p.1 o k (by rw [← h2];exact h1) h]
 ·rename_i hp
  have:=List.find?_eq_none.1 hp _ h
  simp at this
theorem newNv_ns {ts:List (Nat×Nat)} {ns:List Nat} {hv old:Nat→Value} (hu:∀ k o,(k,o)∈ts→o ∉ ns) {o:Nat} (h:o∈ns):newNv ts ns hv old o=nilV:=by
 unfold newNv
 split
 ·rename_i p hp
  have h1:=List.mem_of_find?_eq_some hp
  have h2:p.2=o:=by simpa using List.find?_some hp
  exact absurd h (hu p.1 o (by rw [← h2];exact h1))
 ·rw [if_pos (by simpa using h)]
theorem newNv_old {ts:List (Nat×Nat)} {ns:List Nat} {hv old:Nat→Value} {o:Nat} (h1:∀ k,(k,o) ∉ ts) (h2:o ∉ ns):newNv ts ns hv old o=old o:=by
 unfold newNv
 split
 ·rename_i p hp
  have h3:=List.mem_of_find?_eq_some hp
  have h4:p.2=o:=by simpa using List.find?_some hp
  exact absurd (by rw [← h4];exact h3) (h1 p.1)
 ·rw [if_neg (by simpa using h2)]
theorem newNv_sl {ts:List (Nat×Nat)} {ns:List Nat} {hv old:Nat→Value} (h1:∀ k,∃ A n c,hv k=.slice A n c) (h2:∀ o,∃ A n c,old o=.slice A n c) (o:Nat):∃ A n c,newNv ts ns hv old o=.slice A n c:=by
 unfold newNv
 split
 ·exact h1 _
 ·split
  ·exact ⟨none,0,0,rfl⟩
  ·exact h2 o

theorem storeOwn_rel (I:Inv N w0 η st.heap w) {id row sz sub:Nat} {vs:List AV} {st':St} (h:st.storeOwn id row sz sub vs=some st') {v:Value} (r:AVR η st.heap.length w (.ptr id row sz sub) v)
  {us:List Value} (hl:us.length=vs.length) (hu:∀ j c,vs[j]? = some c→AVR η st.heap.length w c (us.getD j undef)) (h1:∀ u∈us,u.oneCell'=true) :
  ∃ ad w' η', v=.pointer (some ad)∧(storeCells ad us).run P w=.ok () w'∧Inv N w0 η' st'.heap w'∧Ext (fun i=>i==id) η st.heap.length w η' st.heap.length w' ∧
   (∀ (c:AV) u,AVR η st.heap.length w c u→AVR η' st.heap.length w' (c.dropN id) u)∧st'.slots=st.slots.map (AV.dropN id)∧st'.heap.length=st.heap.length∧st'.base=st.base ∧
   ∀ i:Nat,i<st.base→st'.killed.contains i=false→st.killed.contains i=false∧i ≠ id:=by
 cases r with
 | ptr hid hrow =>
  simp only [St.storeOwn] at h
  split at h
  ·rename_i E Es e l ho
   split at h
   ·rename_i hle
    simp only [Bool.and_eq_true,decide_eq_true_eq] at hle
    obtain ⟨hsz,hle⟩:=hle
    split at h
    ·rename_i x ts ns hput
     split at h
     ·rename_i hchk
      simp only [Bool.and_eq_true] at hchk
      obtain ⟨hd,hN⟩:=hchk
      obtain rfl:=Option.some.inj h
      obtain ⟨hln,R⟩:=I.obj id _ ho
      rcases R with ⟨_,rfl⟩ | ⟨c,cap,g1,g2,g3,g4,g5,g6⟩
      ·simp at hln;omega
      ·have hrl:row<l.length:=by omega
       have hm:=not_nul g1 g4.1
       obtain ⟨k1,k2,k3,k4,k5,k6⟩:=putOwn_took _ _ _ _ _ _ _ hput
       obtain ⟨η1,I1,e1,e2,e3,e4,e5,e6,e7⟩:=Inv.ownAll id row ts η st.heap I hd (fun k o hm=>(k1 k o hm).1)
       have hidt:id ∉ ts.map (·.1):=by
        intro hmem
        obtain ⟨p,hp,hpe⟩:=List.mem_map.1 hmem
        obtain ⟨⟨E', fr', e', l', hk⟩,_⟩:=k1 p.1 p.2 hp
        rw [hpe,ho] at hk;cases hk
       have ho1:(deadAll ts st.heap)[id]? = some (.deep E Es e l):=by rw [deadAll_get ts _ _ hidt];exact ho
       have hfit:row*sz+sub+us.length≤c.size:=by
        have:(row+1)*sz≤cap*sz:=Nat.mul_le_mul_right _ (by omega)
        rw [Nat.add_mul] at this
        rw [g5,hsz];omega
       have hrun:=run_storeCells_at P (η.ι id) (row*sz+sub) E us 0 c w g2 (by omega) h1
       simp only [Nat.add_zero] at hrun
       have hcell:=seg_cells (us:=us) (c:=c) hfit
       let f:Nat→Value:=newNv ts ns η.hv (η.nv id row)
       have hf:∀ o,∃ A n c,f o=.slice A n c:=newNv_sl I.hvs (I.nvs id row)
       have hOb:∀ b r q,η.O b=some (id,r,q)→(w.setRow (η.ι id) (c.toList.take (row*sz+sub)++us++c.toList.drop (row*sz+sub+us.length)).toArray).heap[b]? = w.heap[b]?:=fun b r q hb =>
        setRow_other w _ _ _ fun e=>(I.dep b _ hb).2.2.2 id _ ho hm e.symm
       have J:=I1.setDeep (row:=row) (l':=l.set row x) ho1 (by rw [e2];exact hm) (c.toList.take (row*sz+sub)++us++c.toList.drop (row*sz+sub+us.length)).toArray f hf (deadAll_noN ts _ hN) ?_
       ·rw [e1] at J
        obtain ⟨J1,J2,J3⟩:=J
        have xx:Ext (fun i=>i==id) η st.heap.length w (η1.reNv id row f) st.heap.length (w.setRow (η.ι id) (c.toList.take (row*sz+sub)++us++c.toList.drop (row*sz+sub+us.length)).toArray) :=
         ⟨fun i hi hk=>⟨hi,by simp only [Env.reNv,e1],by simp only [Env.reNv,e2],by simp only [Env.reNv,e3]⟩,fun f b hb=>by simp only [Env.reNv,e4];exact hb,fun f b hb=>(J2 0).same f b (by rw [e4];exact hb),fun b hb=>.inl (by simp only [Env.reNv,e4] at hb;exact hb),fun i hi hk=>((J2 (i+1)).nn i (by omega) hk).trans (by rw [e5])⟩
        refine ⟨_,_,_,rfl,hrun,J1,xx,fun y u hu'=>?_,rfl,by simp [deadAll_length],rfl,fun i hi hk=>?_⟩
        ·exact J3 _ _ _ (AVR.owners e1 e2 e3 e4 e5 hu')
        ·rw [Bool.eq_false_iff] at hk ⊢
         simp only [List.contains_eq_mem,decide_eq_true_eq,ne_eq,List.mem_append,not_or] at hk ⊢
         refine ⟨hk.2,fun e=>?_⟩
         subst e
         refine hk.1 ?_
         rw [if_pos]
         ·simp
         ·simp [hi,hk.2]
       ·rw [e1,deadAll_length]
        refine ⟨by simp only [Env.reNv,e3,List.length_set];exact hln,.inr ⟨_,cap,by simp only [Env.reNv,e1,e2,List.length_set];exact g1,by simp only [Env.reNv,e1];exact setRow_heap w _ c _ E (0,0) g2,by simpa using g3,g4,?_,fun i y hy=>?_⟩⟩
        ·simp only [List.size_toArray,List.length_append,List.length_take,List.length_drop,Array.length_toList]
         omega
        ·rw [List.getElem?_set] at hy
         split at hy
         ·rename_i he
          subst he
          obtain rfl:x=y:=by simpa [hrl] using hy
          refine putOwn_rel (η:=η) (w:=w) (h:=st.heap.length) (H:=st.heap) (vs:=vs) (sub:=sub) (fun k E fr e l hk=>I.obj k _ hk) e Es 0 _ x ts ns _ _ hput (.inr ⟨g6 row _ (getD_get e.dflt hrl),fun o hr=>?_,fun b o hr hb=>⟨e6 b _ hb,hOb b _ _ hb⟩⟩) (fun j hj hr=>?_) (fun j hj hs y hy=>?_) (fun k o hm=>⟨?_,fun hn=>⟨e7 k o hm hn,?_⟩⟩) (fun o hm=>?_)
          ·simp only [Env.reNv,and_self,if_true]
           exact newNv_old (fun k hm=>by have:=(k1 k o hm).2;omega) (fun hm=>by have:=k2 o hm;omega)
          ·simp only [Nat.zero_add] at hr
           rw [hcell,hsz]
           by_cases h1:row*sz+j<row*sz+sub
           ·rw [if_pos h1]
           ·rw [if_neg h1,if_neg (by omega)]
          ·simp only [Nat.zero_add] at hs hy
           have hlt:j - sub<vs.length:=(List.getElem?_eq_some_iff.1 hy).1
           refine ⟨us.getD (j - sub) undef,?_,hu _ y hy⟩
           rw [hcell,hsz,if_neg (by omega),if_pos (by omega),List.getD_eq_getElem?_getD,show row*sz+j - (row*sz+sub)=j - sub by omega,List.getElem?_eq_getElem (by omega)];rfl
          ·simp only [Env.reNv,and_self,if_true]
           exact newNv_ts k5 hm
          ·obtain ⟨⟨E', fr', e', l', hk⟩,_⟩:=k1 k o hm
           refine setRow_other w _ _ _ fun e=>?_
           have:=I.inj k id _ _ hk ho hn (not_nul g1 g4.1) e
           subst this
           rw [ho] at hk;cases hk
          ·simp only [Env.reNv,and_self,if_true]
           exact newNv_ns k6 hm
         ·rename_i hne
          have l6:Own (η1.reNv id row f) (w.setRow (η.ι id) (c.toList.take (row*sz+sub)++us++c.toList.drop (row*sz+sub+us.length)).toArray) id i e Es 0 y (fun j=>c[i*e.cells+j]?) :=
           Own.renRow (η:=η) (η':=η1.reNv id row f) (fun o=>by simp only [Env.reNv];rw [if_neg (fun h=>hne h.2.symm),e5]) (fun b o hb=>⟨e6 b _ hb,hOb b _ _ hb⟩) _ _ _ _ _ (g6 i y hy)
          refine Own.congr _ _ _ _ _ _ (fun j hj=>?_) l6
          rw [hcell,hsz]
          rw [hsz] at hj
          rcases Nat.lt_or_gt_of_ne hne with hlt | hlt
          ·have:(row+1)*sz≤i*sz:=Nat.mul_le_mul_right _ hlt
           rw [Nat.add_mul] at this
           rw [if_neg (by omega),if_neg (by omega)]
          ·have:(i+1)*sz≤row*sz:=Nat.mul_le_mul_right _ hlt
           rw [Nat.add_mul] at this
           rw [if_pos (by omega)]
     ·cases h
    ·cases h
   ·cases h
  ·cases h
end
end Go.Proofs.Ytccelbeahdcooaa.Eng
