/- The engine, part 49: a slice in a deep row is lent to a call. -/
import Derived.Test.YtccelbeahdcooaaE40
namespace Go.Proofs.Ytccelbeahdcooaa.Eng
open Go Go.RowKit
set_option linter.unusedSimpArgs false
set_option linter.unusedVariables false

def Ty.slAt:(t:Ty)→List TypeId→Nat→t.den→Option ((e:Ty)×(TypeId×List e.den))
 | .sl e,Es,0,l=>some ⟨e,(Es.headD 0,l)⟩
 | .pair a b,Es,k,x=>if k<a.cells then a.slAt (Es.take a.slices) k x.1 else b.slAt (Es.drop a.slices) (k - a.cells) x.2
 | _,_,_,_=>none
def Ty.slSet:(t:Ty)→Nat→t.den→(e:Ty)→List e.den→Option t.den
 | .sl e,0,_,e', l=>if h:e'=e then some (h ▸ l) else none
 | .pair a b,k,x,e', l=>if k<a.cells then (a.slSet k x.1 e' l).map fun y=>(y,x.2) else (b.slSet (k - a.cells) x.2 e' l).map fun y=>(x.1,y)
 | _,_,_,_,_=>none
def nestAt:List AV→Option (Nat×Nat×Nat×Nat×Nat)
 | []=>none
 | .nest id row sz off::_=>some (0,id,row,sz,off)
 | _::r=>(nestAt r).map fun p=>(p.1+1,p.2)
def lendS (s:Summ):Summ:=fun args H =>
 match nestAt args with
 | some (p,id,row,sz,off) =>
  match H[id]? with
  | some (.deep E Es e l) =>
   if e.cells=sz then
    match e.slAt Es off (l.getD row e.dflt) with
    | some ⟨e', (E', l')⟩ =>
     if e'.flat=true then
      match s (args.set p (.all H.length e'.cells)) (H.set id .dead++[.rows E' true e' l']) with
      | some (r,H', ks,b) =>
       if !ks.contains id&&!ks.contains H.length then
        match H'[H.length]?,H'[id]? with
        | some (.rows E2 _ e2 l2),some .dead =>
         if h:e2=e'∧E2=E' then
          match e.slSet off (l.getD row e.dflt) e' (h.1 ▸ l2) with
          | some y=>some (r,(H'.set H.length .dead).set id (.deep E Es e (l.set row y)),ks,b)
          | none=>none
         else none
        | _,_=>none
       else none
      | none=>none
     else none
    | none=>none
   else none
  | _=>none
 | none=>none
def orLend (s:Summ):Summ:=fun args H=>match s args H with
 | some r=>some r
 | none=>lendS s args H

section
variable {P:Program} {N:Nat→Prop} {w0:World} {η:Env} {w:World}

theorem nestAt_get:∀ (as:List AV) (p id row sz off:Nat),nestAt as=some (p,id,row,sz,off)→as[p]? = some (.nest id row sz off):=by
 intro as
 induction as with
 | nil=>intro p id row sz off h;simp [nestAt] at h
 | cons x as ih =>
  intro p id row sz off h
  unfold nestAt at h
  split at h
  ·rename_i h0;cases h0
  ·rename_i id0 row0 sz0 off0 r0 h0
   cases h0
   simp only [Option.some.injEq,Prod.mk.injEq] at h
   obtain ⟨rfl,rfl,rfl,rfl,rfl⟩:=h
   rfl
  ·rename_i y r0 _ h0
   cases h0
   obtain ⟨q,h1,h2⟩:=Option.map_eq_some_iff.1 h
   obtain ⟨q1,q2,q3,q4,q5⟩:=q
   simp only [Prod.mk.injEq] at h2
   obtain ⟨rfl,rfl,rfl,rfl,rfl⟩:=h2
   simpa using ih _ _ _ _ _ h1

theorem Own.renRng {η η':Env} {w w':World} {id row:Nat}:∀ (t:Ty) (Es:List TypeId) (off:Nat) (x:t.den) (c:Nat→Option Value),(∀ o,off≤o→o<off+t.cells→η'.nv id row o=η.nv id row o) →
  (∀ b o,off≤o→o<off+t.cells→η.O b=some (id,row,o)→η'.O b=some (id,row,o)∧w'.heap[b]? = w.heap[b]?)→Own η w id row t Es off x c→Own η' w' id row t Es off x c:=by
 intro t
 induction t with
 | int k=>intro Es off x c _ _ h;exact h
 | bool=>intro Es off x c _ _ h;exact h
 | str=>intro Es off x c _ _ h;exact h
 | sl e _ =>
  intro Es off l c hn ho h
  obtain ⟨h0,h2⟩:=h
  have hn:=hn off (Nat.le_refl _) (by simp [Ty.cells])
  refine ⟨by rw [hn];exact h0,?_⟩
  rcases h2 with ⟨h3,h4⟩ | ⟨h1,b,d,cap,q1,q2,q3,q4,q5,q6,q7⟩
  ·exact .inl ⟨by rw [hn];exact h3,h4⟩
  ·obtain ⟨k1,k2⟩:=ho b _ (Nat.le_refl _) (by simp [Ty.cells]) q2
   exact .inr ⟨h1,b,d,cap,by rw [hn];exact q1,k1,k2.trans q3,q4,q5,q6,fun i y hy=>Lay.of_flat _ _ _ h1 (q7 i y hy)⟩
 | pair a b iha ihb =>
  intro Es off x c hn ho h
  have hc:(Ty.pair a b).cells=a.cells+b.cells:=rfl
  exact ⟨iha _ _ _ _ (fun o h1 h2=>hn o h1 (by omega)) (fun b o h1 h2=>ho b o h1 (by omega)) h.1,ihb _ _ _ _ (fun o h1 h2=>hn o (by omega) (by omega)) (fun b o h1 h2=>ho b o (by omega) (by omega)) h.2⟩

def NestR (η:Env) (w:World) (id row o:Nat) (E:TypeId) (e:Ty) (l:List e.den):Prop :=
  (nulV (η.nv id row o) ∧ l = []) ∨ e.flat = true ∧ ∃ b d cap, η.nv id row o = .slice (some ⟨b, 0, none⟩) l.length cap ∧ η.O b = some (id, row, o) ∧ w.heap[b]? = some (.cells d E (0, 0)) ∧ l.length ≤ cap ∧ (0 < cap ∧ cap ≤ maxLen) ∧ d.size = cap * e.cells ∧
        ∀ i x,l[i]? = some x→Lay (η.Z true) w e x (fun j=>d[i*e.cells+j]?)

theorem Own.slAt {id row:Nat}:∀ (t:Ty) (Es:List TypeId) (off:Nat) (x:t.den) (c:Nat→Option Value) (k:Nat) (e:Ty) (E:TypeId) (l:List e.den),Own η w id row t Es off x c→t.slAt Es k x=some ⟨e,(E,l)⟩→k<t.cells∧NestR η w id row (off+k) E e l:=by
 intro t
 induction t with
 | int _=>intro Es off x c k e E l _ h;cases k<;>simp [Ty.slAt] at h
 | bool=>intro Es off x c k e E l _ h;cases k<;>simp [Ty.slAt] at h
 | str=>intro Es off x c k e E l _ h;cases k<;>simp [Ty.slAt] at h
 | sl e0 _ =>
  intro Es off x c k e E l ho h
  cases k with
  | zero =>
   simp only [Ty.slAt,Option.some.injEq] at h
   obtain ⟨rfl,h⟩:=Sigma.mk.inj h
   have h:=eq_of_heq h
   simp only [Prod.mk.injEq] at h
   obtain ⟨rfl,rfl⟩:=h
   exact ⟨by simp [Ty.cells],ho.2⟩
  | succ k=>simp [Ty.slAt] at h
 | pair a b iha ihb =>
  intro Es off x c k e E l ho h
  have hc:(Ty.pair a b).cells=a.cells+b.cells:=rfl
  simp only [Ty.slAt] at h
  split at h
  ·obtain ⟨h1,h2⟩:=iha _ _ _ _ _ _ _ _ ho.1 h
   exact ⟨by omega,h2⟩
  ·obtain ⟨h1,h2⟩:=ihb _ _ _ _ _ _ _ _ ho.2 h
   refine ⟨by omega,?_⟩
   rwa [show off+a.cells+(k - a.cells)=off+k by omega] at h2

theorem Own.slSet {η':Env} {w':World} {id row:Nat}:∀ (t:Ty) (Es:List TypeId) (off:Nat) (x y:t.den) (c:Nat→Option Value) (k:Nat) (e:Ty) (E:TypeId) (l l2:List e.den),Own η w id row t Es off x c→t.slAt Es k x=some ⟨e,(E,l)⟩→t.slSet k x e l2=some y →
  (∀ o,η'.nv id row o=η.nv id row o)→(∀ b o,o ≠ off+k→η.O b=some (id,row,o)→η'.O b=some (id,row,o)∧w'.heap[b]? = w.heap[b]?)→NestR η' w' id row (off+k) E e l2→Own η' w' id row t Es off y c:=by
 intro t
 induction t with
 | int _=>intro Es off x y c k e E l l2 _ h;cases k<;>simp [Ty.slAt] at h
 | bool=>intro Es off x y c k e E l l2 _ h;cases k<;>simp [Ty.slAt] at h
 | str=>intro Es off x y c k e E l l2 _ h;cases k<;>simp [Ty.slAt] at h
 | sl e0 _ =>
  intro Es off x y c k e E l l2 ho h hs hn _ hN
  cases k with
  | zero =>
   simp only [Ty.slAt,Option.some.injEq] at h
   obtain ⟨rfl,h⟩:=Sigma.mk.inj h
   have h:=eq_of_heq h
   simp only [Prod.mk.injEq] at h
   obtain ⟨rfl,rfl⟩:=h
   simp only [Ty.slSet,dite_true,Option.some.injEq] at hs
   subst hs
   exact ⟨by rw [hn];exact ho.1,hN⟩
  | succ k=>simp [Ty.slAt] at h
 | pair a b iha ihb =>
  intro Es off x y c k e E l l2 ho h hs hn hO hN
  have hc:(Ty.pair a b).cells=a.cells+b.cells:=rfl
  simp only [Ty.slAt] at h
  simp only [Ty.slSet] at hs
  split at h
  ·rename_i hk
   rw [if_pos hk] at hs
   obtain ⟨z,hz,rfl⟩:=Option.map_eq_some_iff.1 hs
   exact ⟨iha _ _ _ _ _ _ _ _ _ _ ho.1 h hz hn hO hN,Own.renRng _ _ _ _ _ (fun o _ _=>hn o) (fun b o h1 h2 hb=>hO b o (by omega) hb) ho.2⟩
  ·rename_i hk
   rw [if_neg hk] at hs
   obtain ⟨z,hz,rfl⟩:=Option.map_eq_some_iff.1 hs
   have e1:off+a.cells+(k - a.cells)=off+k:=by omega
   exact ⟨Own.renRng _ _ _ _ _ (fun o _ _=>hn o) (fun b o h1 h2 hb=>hO b o (by omega) hb) ho.1,ihb _ _ _ _ _ _ _ _ _ _ ho.2 h hz hn (fun b o h1 hb=>hO b o (by omega) hb) (by rw [e1];exact hN)⟩

open Classical in
noncomputable def Env.lent (η:Env) (id k b n:Nat) (v:Value):Env:={ η.upd k b v n with O:=fun b=>if (η.O b).any (fun q=>q.1==id) then none else η.O b }
open Classical in
noncomputable def Env.back (η η':Env) (id:Nat):Env:={ η' with O:=fun b=>if (η.O b).any (fun q=>q.1==id) then η.O b else η'.O b }

theorem MContract.lend {f:FuncId} {s:Summ} (hm:MContract P f s):MContract P f (lendS s):=by
 intro args H r H' Kf hsm N w0 η w vs I hl hr
 unfold lendS at hsm
 split at hsm
 case h_2=>cases hsm
 rename_i p id row sz off hna
 split at hsm
 case h_2=>cases hsm
 rename_i E Es e l hH
 split at hsm
 case isFalse=>cases hsm
 rename_i hsz
 split at hsm
 case h_2=>cases hsm
 rename_i e' E' l' hat
 split at hsm
 case isFalse=>cases hsm
 rename_i hfl
 split at hsm
 case h_2=>cases hsm
 rename_i r0 H0 ks b0 hs
 split at hsm
 case isFalse=>cases hsm
 rename_i hks
 simp only [Bool.and_eq_true,Bool.not_eq_true'] at hks
 obtain ⟨hk1,hk2⟩:=hks
 split at hsm
 case h_2=>cases hsm
 rename_i E2 fr2 e2 l2 hA hB
 split at hsm
 case isFalse=>cases hsm
 rename_i hc
 obtain ⟨rfl,rfl⟩:=hc
 split at hsm
 case h_2=>cases hsm
 rename_i y hset
 simp only [Option.some.injEq,Prod.mk.injEq] at hsm
 obtain ⟨rfl,rfl,rfl,rfl⟩:=hsm
 simp only at hset
 have hpa:=nestAt_get _ _ _ _ _ _ hna
 have hid:id<H.length:=(List.getElem?_eq_some_iff.1 hH).1
 -- the row
 have hnr:=hr p _ hpa
 generalize hpv:vs.getD p undef=pv at hnr
 cases hnr with
 | nest _ hrow =>
 obtain ⟨hln,R⟩:=I.obj id _ hH
 have hrl:row<l.length:=by rw [← hln];exact hrow
 rcases R with ⟨_,rfl⟩ | ⟨c,cap,g1,g2,g3,g4,g5,g6⟩
 ·simp at hrl
 have hmat:=not_nul g1 g4.1
 have hown:=g6 row _ (getD_get e.dflt hrl)
 obtain ⟨hoff,hN⟩:=Own.slAt _ _ _ _ _ _ _ _ _ hown hat
 rw [Nat.zero_add] at hN
 obtain ⟨A0,n0,c0,hnv0⟩:=I.nvs id row off
 -- its block
 let bk:Nat:=(blk (η.nv id row off)).getD 0
 let η1:Env:=η.lent id H.length bk l'.length (η.nv id row off)
 let H1:List AObj:=H.set id .dead++[.rows E2 true e2 l']
 let N1:Nat→Prop:=fun b=>N b∨b=η.ι id∨((∃ r o,η.O b=some (id,r,o))∧blk (η.nv id row off) ≠ some b)
 have any_iff:∀ b,(η.O b).any (fun q=>q.1==id)=true↔∃ r o,η.O b=some (id,r,o):=by
  intro b
  cases hb:η.O b with
  | none=>simp
  | some q =>
   obtain ⟨q1,q2,q3⟩:=q
   simp only [Option.any_some,beq_iff_eq,Option.some.injEq,Prod.mk.injEq]
   exact ⟨fun h=>⟨q2,q3,h,rfl,rfl⟩,fun ⟨_,_,h,_,_⟩=>h⟩
 have hb0:∀ b,blk (η.nv id row off)=some b→η.O b=some (id,row,off)∧bk=b:=by
  intro b hb
  rcases hN with ⟨h1,_⟩ | ⟨_,b', d,cp,q1,q2,_,_,q5,_⟩
  ·exact absurd h1 (blk_mat hb)
  ·have:=blk_own hb
   rw [q1] at this
   simp only [Value.ownBlock,Option.some.injEq] at this
   subst this
   exact ⟨q2,by simp only [bk,hb];rfl⟩
 have hN1lt:∀ b,N1 b→b<w.heap.size:=by
  rintro b (h | rfl | ⟨⟨r,o,h⟩,_⟩)
  ·exact I.lt h
  ·exact (I.own id _ hH hmat).2.2
  ·exact (I.dep b _ h).2.2.1
 have hN1Z:∀ b,N1 b→¬ N b→¬ η.Z false b:=by
  rintro b (h | rfl | ⟨⟨r,o,h⟩,_⟩) hn
  ·exact absurd h hn
  ·exact (I.own id _ hH hmat).2.1
  ·exact (I.dep b _ h).2.1
 have hl1:H1.length=H.length+1:=by simp [H1]
 have eo:∀ i,i<H.length→η1.ι i=η.ι i∧η1.hv i=η.hv i∧η1.ln i=η.ln i:=fun i hi=>by simp [η1,Env.lent,Env.upd,Nat.ne_of_lt hi]
 have ek:η1.ι H.length=bk∧η1.hv H.length=η.nv id row off∧η1.ln H.length=l'.length:=by simp [η1,Env.lent,Env.upd]
 have hO1n:∀ b,(∃ r o,η.O b=some (id,r,o))→η1.O b=none:=fun b h=>by
  simp only [η1,Env.lent];rw [if_pos ((any_iff b).2 h)]
 have hO1:∀ b,(¬ ∃ r o,η.O b=some (id,r,o))→η1.O b=η.O b:=fun b h=>by
  simp only [η1,Env.lent];rw [if_neg (fun h'=>h ((any_iff b).1 h'))]
 have x1:Ext NoK η H.length w η1 (H.length+1) w :=
  ⟨fun i hi _=>⟨by omega,(eo i hi).1,(eo i hi).2.1,(eo i hi).2.2⟩,fun _ _ h=>h,fun _ _ _=>rfl,fun _ h=>.inl h,fun _ _ _=>rfl⟩
 have get1:∀ i o,H1[i]? = some o→(i<H.length∧i ≠ id∧H[i]? = some o)∨(i=id∧o=.dead)∨(i=H.length∧o=.rows E2 true e2 l'):=by
  intro i o ho
  rcases heap_append_some ho with ⟨hlt,ho⟩ | ⟨rfl,rfl⟩
  ·rcases set_some ho with ⟨h1,_,h2⟩ | ⟨hne,ho⟩
   ·exact .inr (.inl ⟨h1,h2⟩)
   ·exact .inl ⟨by simpa using hlt,hne,ho⟩
  ·exact .inr (.inr ⟨by simp,rfl⟩)
 have m1:∀ (i:Nat) (o:AObj),i<H.length→(o.mat η1 i↔o.mat η i):=fun i o hi=>by cases o<;>simp only [AObj.mat,(eo i hi).2.1]
 have kmat:¬ nulV (η.nv id row off)→blk (η.nv id row off)=some bk:=by
  intro hn
  rcases hN with ⟨h1,_⟩ | ⟨_,b', d,cp,q1,q2,_,_,q5,_⟩
  ·exact absurd h1 hn
  ·have : blk (η.nv id row off) = some b' := by
    rw [q1];cases cp with
    | zero=>omega
    | succ c=>rfl
   rw [this,← (hb0 b' this).2]
 have kN1:¬ nulV (η.nv id row off)→¬ N1 bk∧¬ η.Z false bk∧bk<w.heap.size:=by
  intro hn
  have hb:=kmat hn
  obtain ⟨h1,_⟩:=hb0 bk hb
  obtain ⟨d1,d2,d3,d4⟩:=I.dep bk _ h1
  refine ⟨?_,d2,d3⟩
  rintro (h | h | ⟨_,h⟩)
  ·exact d1 h
  ·exact d4 id _ hH hmat h.symm
  ·exact h hb
 have I1:Inv N1 w η1 H1 w:=by
  refine ⟨hN1lt,⟨rfl,rfl,rfl,Nat.le_refl _,fun _ _=>rfl⟩,I.zlt,I.zsub,fun b hz hn=>?_,fun i=>?_,fun i o ho=>?_,fun i o ho hm'=>?_,fun i j y z hy hz my mz he=>?_,fun b q hb=>?_,I.nvs⟩
  ·by_cases h:N b
   ·exact I.znew b hz h
   ·exact hN1Z b hn h (I.zsub b hz)
  ·by_cases hi:i=H.length
   ·subst hi;rw [ek.2.1];exact I.nvs _ _ _
   ·have:η1.hv i=η.hv i:=by simp [η1,Env.lent,Env.upd,hi]
    rw [this];exact I.hvs i
  ·rw [hl1]
   rcases get1 i o ho with ⟨hi,hne,ho⟩ | ⟨rfl,rfl⟩ | ⟨rfl,rfl⟩
   ·refine (I.obj i o ho).mono x1 hi (fun _=>rfl) ⟨trivial,fun b r q hb=>⟨?_,rfl⟩⟩
    rw [hO1 b]
    ·exact hb
    ·rintro ⟨r', o', h⟩;rw [hb] at h;cases h;exact hne rfl
   ·trivial
   ·refine ⟨ek.2.2,?_⟩
    rcases hN with ⟨h1,h2⟩ | ⟨_,b', d,cp,q1,q2,q3,q4,q5,q6,q7⟩
    ·exact .inl ⟨by rw [ek.2.1];exact h1,h2⟩
    ·have hb : blk (η.nv id row off) = some b' := by
      rw [q1];cases cp with
      | zero=>omega
      | succ c=>rfl
     have hbk:=(hb0 b' hb).2
     exact .inr ⟨d,cp,by rw [ek.2.1,ek.1,hbk];exact q1,by rw [ek.1,hbk];exact q3,q4,q5,q6,q7⟩
  ·rcases get1 i o ho with ⟨hi,hne,ho⟩ | ⟨rfl,rfl⟩ | ⟨rfl,rfl⟩
   ·have hmi:=(m1 i o hi).1 hm'
    obtain ⟨a1,a2,a3⟩:=I.own i o ho hmi
    rw [(eo i hi).1]
    refine ⟨?_,a2,a3⟩
    rintro (h | h | ⟨⟨r,q,h⟩,_⟩)
    ·exact a1 h
    ·exact hne (I.inj i id o _ ho hH hmi hmat h)
    ·exact (I.dep _ _ h).2.2.2 i o ho hmi rfl
   ·exact hm'.elim
   ·have hm2 : ¬ nulV (η.nv id row off) := by
     have:¬ nulV (η1.hv H.length):=hm'
     rwa [ek.2.1] at this
    rw [ek.1];exact kN1 hm2
  ·rcases get1 i y hy with ⟨hi,hne,hy⟩ | ⟨rfl,rfl⟩ | ⟨rfl,rfl⟩
   ·rcases get1 j z hz with ⟨hj,hne', hz⟩ | ⟨rfl,rfl⟩ | ⟨rfl,rfl⟩
    ·rw [(eo i hi).1,(eo j hj).1] at he
     exact I.inj i j y z hy hz ((m1 i y hi).1 my) ((m1 j z hj).1 mz) he
    ·exact mz.elim
    ·have hm2 : ¬ nulV (η.nv id row off) := by
      have:¬ nulV (η1.hv H.length):=mz
      rwa [ek.2.1] at this
     rw [(eo i hi).1,ek.1] at he
     exact absurd he ((I.dep bk _ (hb0 bk (kmat hm2)).1).2.2.2 i y hy ((m1 i y hi).1 my))
   ·exact my.elim
   ·rcases get1 j z hz with ⟨hj,hne', hz⟩ | ⟨rfl,rfl⟩ | ⟨rfl,rfl⟩
    ·have hm2 : ¬ nulV (η.nv id row off) := by
      have:¬ nulV (η1.hv H.length):=my
      rwa [ek.2.1] at this
     rw [(eo j hj).1,ek.1] at he
     exact absurd he.symm ((I.dep bk _ (hb0 bk (kmat hm2)).1).2.2.2 j z hz ((m1 j z hj).1 mz))
    ·exact mz.elim
    ·rfl
  ·by_cases hid':∃ r o,η.O b=some (id,r,o)
   ·rw [hO1n b hid'] at hb;cases hb
   ·rw [hO1 b hid'] at hb
    obtain ⟨d1,d2,d3,d4⟩:=I.dep b q hb
    refine ⟨?_,d2,d3,fun i o ho hm'=>?_⟩
    ·rintro (h | h | ⟨h,_⟩)
     ·exact d1 h
     ·exact d4 id _ hH hmat h.symm
     ·exact hid' h
    ·rcases get1 i o ho with ⟨hi,hne,ho⟩ | ⟨rfl,rfl⟩ | ⟨rfl,rfl⟩
     ·rw [(eo i hi).1];exact d4 i o ho ((m1 i o hi).1 hm')
     ·exact hm'.elim
     ·have hm2 : ¬ nulV (η.nv id row off) := by
       have:¬ nulV (η1.hv H.length):=hm'
       rwa [ek.2.1] at this
      rw [ek.1]
      rintro rfl
      exact hid' ⟨_,_,(hb0 bk (kmat hm2)).1⟩
 refine (hm _ _ _ _ _ hs N1 w η1 w vs I1 (by simpa using hl) (fun i c hc=>?_)).mono ?_
 ·show AVR η1 H1.length w _ _
  rw [hl1]
  rw [List.getElem?_set] at hc
  split at hc
  ·rename_i hip
   subst hip
   split at hc
   ·obtain rfl:=Option.some.inj hc
    rw [hpv]
    have:=@AVR.all η1 (H.length+1) w H.length e2.cells (by omega)
    rwa [ek.2.1] at this
   ·cases hc
  ·exact (hr i c hc).ext x1
 rintro ee w' ⟨v,η2,rfl,J,x,ra⟩
 have x:Ext ks.contains η1 H1.length w η2 H0.length w':=x
 obtain ⟨n1,n2,n3,n4⟩:=x.nm id (by omega) hk1
 obtain ⟨k1,k2,k3,k4⟩:=x.nm H.length (by omega) hk2
 have nvid:η2.nv id=η.nv id:=x.nn id (by omega) hk1
 rw [(eo id hid).1] at n2;rw [(eo id hid).2.1] at n3;rw [(eo id hid).2.2] at n4
 rw [ek.1] at k2;rw [ek.2.1] at k3;rw [ek.2.2] at k4
 have hne:H.length ≠ id:=by omega
 have keep:∀ b,N1 b→w'.heap[b]? = w.heap[b]?:=fun b h=>J.fr.block b h
 have mk2:¬ nulV (η.nv id row off)→(AObj.rows E2 fr2 e2 l2).mat η2 H.length:=fun h=>by show ¬ nulV (η2.hv H.length);rw [k3];exact h
 have hO2:∀ b q,η2.O b=some q→¬ ∃ r o,η.O b=some (id,r,o):=by
  intro b q hb hex
  by_cases hbk:blk (η.nv id row off)=some b
  ·have h1:=J.O_own hA (mk2 (blk_mat hbk))
   rw [k2,(hb0 b hbk).2,hb] at h1;cases h1
  ·exact (J.dep b q hb).1 (.inr (.inr ⟨hex,hbk⟩))
 let η3:Env:=η.back η2 id
 have hO3i:∀ b r o,η.O b=some (id,r,o)→η3.O b=some (id,r,o):=fun b r o h=>by
  simp only [η3,Env.back];rw [if_pos ((any_iff b).2 ⟨r,o,h⟩)];exact h
 have hO3:∀ b,(¬ ∃ r o,η.O b=some (id,r,o))→η3.O b=η2.O b:=fun b h=>by
  simp only [η3,Env.back];rw [if_neg (fun h'=>h ((any_iff b).1 h'))]
 let H3:List AObj:=(H0.set H.length .dead).set id (.deep E Es e (l.set row y))
 have hl3:H3.length=H0.length:=by simp [H3]
 have get3:∀ i o,H3[i]? = some o→(i=id∧o=.deep E Es e (l.set row y))∨(i ≠ id∧i=H.length∧o=.dead)∨(i ≠ id∧i ≠ H.length∧H0[i]? = some o):=by
  intro i o ho
  rcases set_some ho with ⟨h1,_,h2⟩ | ⟨h1,ho⟩
  ·exact .inl ⟨h1,h2⟩
  ·rcases set_some ho with ⟨h2,_,h3⟩ | ⟨h2,ho⟩
   ·exact .inr (.inl ⟨h1,h2,h3⟩)
   ·exact .inr (.inr ⟨h1,h2,ho⟩)
 have m3:∀ (i:Nat) (o:AObj),o.mat η3 i↔o.mat η2 i:=fun i o=>by cases o<;>exact Iff.rfl
 have x3:Ext NoK η2 H0.length w' η3 H0.length w':=⟨fun i hi _=>⟨hi,rfl,rfl,rfl⟩,fun _ _ h=>h,fun _ _ _=>rfl,fun _ h=>.inl h,fun _ _ _=>rfl⟩
 have hmain:N1 (η.ι id):=.inr (.inl rfl)
 have hZ':∀ b,N1 b→¬ η.Z false b→¬ η2.Z false b:=by
  intro b hb hz hz2
  rcases x.zold b hz2 with h | h
  ·exact hz h
  ·exact J.znew b h hb
 obtain ⟨a1,a2,a3⟩:=I.own id _ hH hmat
 have I3:Inv N w0 η3 H3 w':=by
  refine ⟨I.nlt,⟨J.fr.os.trans I.fr.os,J.fr.tape.trans I.fr.tape,J.fr.output.trans I.fr.output,Nat.le_trans I.fr.size J.fr.size,fun k hk=>(keep k (.inl hk)).trans (I.fr.block k hk)⟩,J.zlt,J.zsub,fun b hz hn=>J.znew b hz (.inl hn),J.hvs,fun i o ho=>?_,fun i o ho hm'=>?_,fun i j y z hy hz my mz he=>?_,fun b q hb=>?_,J.nvs⟩
  ·rw [hl3]
   rcases get3 i o ho with ⟨rfl,rfl⟩ | ⟨_,rfl,rfl⟩ | ⟨h1,h2,ho⟩
   ·refine ⟨by show η2.ln i=_;rw [n4,List.length_set];exact hln,.inr ⟨c,cap,by show η2.hv i=.slice (some ⟨η2.ι i,0,none⟩) _ _;rw [n3,n2,List.length_set];exact g1,by show w'.heap[η2.ι i]? = _;rw [n2,keep _ hmain];exact g2,by simpa using g3,g4,g5,fun j z hz=>?_⟩⟩
    rw [List.getElem?_set] at hz
    split at hz
    ·rename_i hj
     subst hj
     obtain rfl:y=z:=by simpa [hrl] using hz
     refine Own.slSet (η:=η) (w:=w) _ _ _ _ _ _ _ _ _ _ _ hown hat hset (fun o=>by show η2.nv i row o=_;rw [nvid]) (fun b o hne' hb=>⟨hO3i b _ _ hb,keep b (.inr (.inr ⟨⟨_,_,hb⟩,fun hbk=>?_⟩))⟩) ?_
     ·have:=(hb0 b hbk).1
      rw [hb] at this
      simp only [Option.some.injEq,Prod.mk.injEq] at this
      exact hne' (by omega)
     ·rw [Nat.zero_add]
      obtain ⟨_,R2⟩:=J.obj _ _ hA
      have e1:η3.nv i row off=η.nv i row off:=by show η2.nv i row off=_;rw [nvid]
      rcases R2 with ⟨r1,r2⟩ | ⟨c2,cap2,r1,r2,r3,r4,r5,r6⟩
      ·exact .inl ⟨by rw [e1,← k3];exact r1,r2⟩
      ·have hn:¬ nulV (η.nv i row off):=by rw [← k3];exact not_nul r1 r4.1
       rw [k2] at r2
       refine .inr ⟨hfl,bk,c2,cap2,by rw [e1,← k3,r1,k2],hO3i _ _ _ (hb0 bk (kmat hn)).1,r2,r3,r4,r5,fun i y hy=>Lay.of_flat _ _ _ hfl (r6 i y hy)⟩
    ·rename_i hj
     refine Own.renRow (η:=η) (w:=w) (fun o=>by show η2.nv i j o=_;rw [nvid]) (fun b o hb=>⟨hO3i b _ _ hb,keep b (.inr (.inr ⟨⟨_,_,hb⟩,fun hbk=>?_⟩))⟩) _ _ _ _ _ (g6 j z hz)
     have:=(hb0 b hbk).1
     rw [hb] at this
     simp only [Option.some.injEq,Prod.mk.injEq] at this
     exact hj this.2.1.symm
   ·trivial
   ·exact (J.obj i o ho).mono x3 (List.getElem?_eq_some_iff.1 ho).1 (fun _=>rfl) ⟨trivial,fun b r q hb=>⟨by rw [hO3 b (hO2 b _ hb)];exact hb,rfl⟩⟩
  ·rcases get3 i o ho with ⟨rfl,rfl⟩ | ⟨_,rfl,rfl⟩ | ⟨h1,h2,ho⟩
   ·show ¬ N (η2.ι i)∧¬ η2.Z false (η2.ι i)∧η2.ι i<w'.heap.size
    rw [n2]
    exact ⟨a1,hZ' _ hmain a2,Nat.lt_of_lt_of_le a3 J.fr.size⟩
   ·exact hm'.elim
   ·obtain ⟨q1,q2,q3⟩:=J.own i o ho ((m3 i o).1 hm')
    exact ⟨fun h=>q1 (.inl h),q2,q3⟩
  ·have he2:η2.ι i=η2.ι j:=he
   rcases get3 i y hy with ⟨ei,ey⟩ | ⟨_,_,ey⟩ | ⟨h1,h2,hy2⟩
   ·rcases get3 j z hz with ⟨ej,ez⟩ | ⟨_,_,ez⟩ | ⟨h3,h4,hz2⟩
    ·rw [ei,ej]
    ·rw [ez] at mz;exact mz.elim
    ·have:=(J.own j z hz2 ((m3 j z).1 mz)).1
     rw [← he2,ei,n2] at this
     exact absurd hmain this
   ·rw [ey] at my;exact my.elim
   ·rcases get3 j z hz with ⟨ej,ez⟩ | ⟨_,_,ez⟩ | ⟨h3,h4,hz2⟩
    ·have:=(J.own i y hy2 ((m3 i y).1 my)).1
     rw [he2,ej,n2] at this
     exact absurd hmain this
    ·rw [ez] at mz;exact mz.elim
    ·exact J.inj i j y z hy2 hz2 ((m3 i y).1 my) ((m3 j z).1 mz) he2
  ·by_cases hex:∃ r o,η.O b=some (id,r,o)
   ·obtain ⟨r,o,hro⟩:=hex
    obtain ⟨d1,d2,d3,d4⟩:=I.dep b _ hro
    by_cases hbk:blk (η.nv id row off)=some b
    ·obtain ⟨e1,e2'⟩:=hb0 b hbk
     obtain ⟨q1,q2,q3⟩:=J.own _ _ hA (mk2 (blk_mat hbk))
     rw [k2,e2'] at q1 q2 q3
     refine ⟨d1,q2,q3,fun i o' ho hm'=>?_⟩
     show η2.ι i ≠ b
     rcases get3 i o' ho with ⟨rfl,rfl⟩ | ⟨_,rfl,rfl⟩ | ⟨h1,h2,ho⟩
     ·rw [n2];exact d4 i _ hH hmat
     ·exact hm'.elim
     ·intro he
      exact h2 (J.inj i H.length o' _ ho hA ((m3 i o').1 hm') (mk2 (blk_mat hbk)) (by rw [he,k2,e2']))
    ·have hb1:N1 b:=.inr (.inr ⟨⟨_,_,hro⟩,hbk⟩)
     refine ⟨d1,hZ' b hb1 d2,Nat.lt_of_lt_of_le d3 J.fr.size,fun i o' ho hm'=>?_⟩
     show η2.ι i ≠ b
     rcases get3 i o' ho with ⟨rfl,rfl⟩ | ⟨_,rfl,rfl⟩ | ⟨h1,h2,ho⟩
     ·rw [n2];exact d4 i _ hH hmat
     ·exact hm'.elim
     ·intro he
      exact (J.own i o' ho ((m3 i o').1 hm')).1 (he ▸ hb1)
   ·rw [hO3 b hex] at hb
    obtain ⟨d1,d2,d3,d4⟩:=J.dep b q hb
    refine ⟨fun h=>d1 (.inl h),d2,d3,fun i o' ho hm'=>?_⟩
    show η2.ι i ≠ b
    rcases get3 i o' ho with ⟨rfl,rfl⟩ | ⟨_,rfl,rfl⟩ | ⟨h1,h2,ho⟩
    ·rw [n2];intro he;exact d1 (he ▸ hmain)
    ·exact hm'.elim
    ·exact d4 i o' ho ((m3 i o').1 hm')
 refine ⟨v,η3,rfl,I3,⟨fun i hi hk=>?_,fun f b hz=>x.z f b hz,fun f b hz=>x.same f b hz,fun b hz=>x.zold b hz,fun i hi hk=>?_⟩,?_⟩
 ·obtain ⟨q1,q2,q3,q4⟩:=x.nm i (by omega) hk
  obtain ⟨o1,o2,o3⟩:=eo i hi
  exact ⟨by rw [show (List.length ((H0.set H.length AObj.dead).set id (AObj.deep E Es e (l.set row y))))=H0.length from hl3];exact q1,q2.trans o1,q3.trans o2,q4.trans o3⟩
 ·exact x.nn i (by omega) hk
 ·rw [show (List.length ((H0.set H.length AObj.dead).set id (AObj.deep E Es e (l.set row y))))=H0.length from hl3]
  exact ra.ext x3

theorem MContract.orLend {f:FuncId} {s:Summ} (hm:MContract P f s):MContract P f (Eng.orLend s):=by
 intro args H r H' Kf hsm
 unfold Eng.orLend at hsm
 split at hsm
 ·rename_i q hq
  obtain rfl:=Option.some.inj hsm
  exact hm args H r H' Kf hq
 ·exact hm.lend args H r H' Kf hsm

theorem mem_dedup:∀ (l acc:List Nat) (i:Nat),i∈dedup acc l↔i∈acc∨i∈l:=by
 intro l
 induction l with
 | nil=>intro acc i;simp [dedup]
 | cons x l ih =>
  intro acc i
  simp only [dedup]
  cases hc:acc.contains x with
  | true =>
   simp only [cond_true,ih,List.mem_cons]
   have hx:x∈acc:=by simpa using hc
   exact ⟨fun h=>h.elim .inl fun h=>.inr (.inr h),fun h=>h.elim .inl fun h=>h.elim (fun h=>.inl (h ▸ hx)) .inr⟩
  | false =>
   simp only [cond_false,ih,List.mem_cons]
   exact ⟨fun h=>h.elim (fun h=>h.elim (fun h=>.inr (.inl h)) .inl) fun h=>.inr (.inr h),fun h=>h.elim (fun h=>.inl (.inr h)) fun h=>h.elim (fun h=>.inl (.inl h)) .inr⟩
theorem mem_winIds {args:List AV} {H:List AObj} {i:Nat}:i∈winIds args H↔i∈args.flatMap namesOf∨∃ j∈args.flatMap namesOf,∃ cs,H[j]? = some (.box cs)∧i∈cs.flatMap namesOf1:=by
 simp only [winIds,mem_dedup,List.not_mem_nil,false_or,List.mem_append]
 refine or_congr Iff.rfl ?_
 rw [List.mem_flatMap]
 refine exists_congr fun j=>?_
 rw [mem_dedup]
 simp only [List.not_mem_nil,false_or]
 refine and_congr_right fun _=>?_
 constructor
 ·intro h
  split at h
  ·rename_i cs hcs;exact ⟨cs,hcs,h⟩
  ·simp at h
 ·rintro ⟨cs,hcs,h⟩
  rw [hcs];exact h

theorem lendS_local {s:Summ} (hl:LocalS s):LocalS (lendS s):=by
 intro args H r H' ks b h
 unfold lendS at h
 split at h
 case h_2=>cases h
 rename_i p id row sz off hna
 split at h
 case h_2=>cases h
 rename_i E Es e l hH
 split at h
 case isFalse=>cases h
 split at h
 case h_2=>cases h
 rename_i e' E' l' hat
 split at h
 case isFalse=>cases h
 split at h
 case h_2=>cases h
 rename_i r0 H0 ks0 b0 hs
 split at h
 case isFalse=>cases h
 rename_i hks
 simp only [Bool.and_eq_true,Bool.not_eq_true'] at hks
 split at h
 case h_2=>cases h
 split at h
 case isFalse=>cases h
 split at h
 case h_2=>cases h
 simp only [Option.some.injEq,Prod.mk.injEq] at h
 obtain ⟨_,rfl,rfl,_⟩:=h
 have hpa:=nestAt_get _ _ _ _ _ _ hna
 have hid:id<H.length:=(List.getElem?_eq_some_iff.1 hH).1
 have hidw:id∈winIds args H:=mem_winIds.2 (.inl (List.mem_flatMap.2 ⟨_,List.mem_of_getElem? hpa,by simp [namesOf,namesOf1]⟩))
 have hl1:(H.set id .dead++[AObj.rows E' true e' l']).length=H.length+1:=by simp
 have hn:∀ i,i∈(args.set p (.all H.length e'.cells)).flatMap namesOf→i∈args.flatMap namesOf∨i=H.length:=by
  intro i hi
  obtain ⟨a,ha,hia⟩:=List.mem_flatMap.1 hi
  rcases List.mem_or_eq_of_mem_set ha with h1 | rfl
  ·exact .inl (List.mem_flatMap.2 ⟨a,h1,hia⟩)
  ·right;simpa [namesOf,namesOf1] using hia
 have hw:∀ i,i∈winIds (args.set p (.all H.length e'.cells)) (H.set id .dead++[AObj.rows E' true e' l'])→i∈winIds args H∨i=H.length:=by
  intro i hi
  rcases mem_winIds.1 hi with h | ⟨j,hj,cs,hcs,h⟩
  ·exact (hn i h).imp (fun h=>mem_winIds.2 (.inl h)) (fun h=>h)
  ·rcases heap_append_some hcs with ⟨_,hcs⟩ | ⟨_,hcs⟩
   ·rcases set_some hcs with ⟨_,_,hcs⟩ | ⟨_,hcs⟩
    ·cases hcs
    ·rcases hn j hj with h1 | h1
     ·exact .inl (mem_winIds.2 (.inr ⟨j,h1,cs,hcs,h⟩))
     ·have:=(List.getElem?_eq_some_iff.1 hcs).1;omega
   ·cases hcs
 obtain ⟨l1,l2,l3⟩:=hl _ _ _ _ _ _ hs
 refine ⟨fun k hk=>?_,by simp;omega,fun i o ho hi hst hnm=>?_⟩
 ·rcases l1 k hk with h | h
  ·rcases hw k h with h | h
   ·exact .inl h
   ·exfalso
    have:=hks.2
    rw [Bool.eq_false_iff] at this
    exact this (by simpa using h ▸ hk)
  ·right;omega
 ·have hlt:=(List.getElem?_eq_some_iff.1 ho).1
  have hne:id ≠ i:=fun e=>hi (e ▸ hidw)
  rw [List.getElem?_set_ne hne,List.getElem?_set_ne (by omega)]
  refine l3 i o ?_ (fun h=>(hw i h).elim hi (by omega)) hst (fun j hj=>?_)
  ·rw [List.getElem?_append_left (by simpa using hlt),List.getElem?_set_ne hne];exact ho
  ·obtain ⟨h1,h2⟩:=hnm j hj
   exact ⟨by omega,fun h=>(hw j h).elim h2 (by omega)⟩
theorem orLend_local {s:Summ} (hl:LocalS s):LocalS (orLend s):=by
 intro args H r H' ks b h
 unfold orLend at h
 split at h
 ·rename_i q hq
  obtain rfl:=Option.some.inj h
  exact hl _ _ _ _ _ _ hq
 ·exact lendS_local hl _ _ _ _ _ _ h
theorem liftH_quiet {l:List PSh} {pre:pshsDen l→Bool} {g:pshsDen l→AV×List AObj} (hq:∀ d,(g d).2=[]):QuietS (liftH l pre g):=by
 intro args H r H' ks b h
 simp only [liftH,sumOf] at h
 split at h
 ·rename_i r0 Hn b0 hs
  obtain ⟨d,_,hd⟩:=Option.map_eq_some_iff.1 hs
  have hqd:=hq d
  simp only [Prod.mk.injEq] at hd
  rw [hd.2.1] at hqd
  subst hqd
  split at h
  ·simp only [Option.some.injEq,Prod.mk.injEq] at h
   obtain ⟨_,h2,h3,_⟩:=h
   exact ⟨by rw [← h2,List.append_nil],h3.symm⟩
  ·cases h
 ·cases h
end
end Go.Proofs.Ytccelbeahdcooaa.Eng
