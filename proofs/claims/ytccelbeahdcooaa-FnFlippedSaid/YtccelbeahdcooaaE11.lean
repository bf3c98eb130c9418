/- The engine, part 11: growing worlds, adopted rows, append. -/
import Derived.Lib.AppendStr
import Derived.Test.YtccelbeahdcooaaE10
namespace Go.Proofs.Ytccelbeahdcooaa.Eng
open Go Go.RowKit
set_option linter.unusedSimpArgs false
set_option linter.unusedVariables false

section
variable {P:Program} {N:Nat→Prop} {w0:World} {η0:Env} {h0:Nat} {we:World} {R:Type}
variable {η:Env} {st:St} {a:Act} {w:World} {o:Oper} {next:Act→World→Prop} {Q:Exit→Act→World→Prop} {K:AV→St→Option R} {r:R} {tt:TT} {S:Tab}

theorem Inv.lt {H:List AObj} (I:Inv N w0 η H w) {k:Nat} (h:N k):k<w.heap.size:=Nat.lt_of_lt_of_le (I.nlt k h) I.fr.size

theorem Inv.O_ge {H:List AObj} (I:Inv N w0 η H w) {k:Nat} (h:w.heap.size≤k):η.O k=none:=by
 cases e:η.O k with
 | none=>rfl
 | some q=>have:=(I.dep k q e).2.2.1;omega
theorem Inv.O_own {H:List AObj} (I:Inv N w0 η H w) {id:Nat} {o:AObj} (ho:H[id]? = some o) (hm:o.mat η id):η.O (η.ι id)=none:=by
 cases e:η.O (η.ι id) with
 | none=>rfl
 | some q=>exact absurd rfl ((I.dep _ q e).2.2.2 id o ho hm)
theorem Inv.grow {H:List AObj} (I:Inv N w0 η H w) {w':World} (b:Below w.heap.size w w'):Inv N w0 η H w'∧∀ h,Ext NoK η h w η h w':=by
 have x:∀ h,Ext NoK η h w η h w':=fun h=>⟨fun _ hi _=>⟨hi,rfl,rfl,rfl⟩,fun _ _ hz=>hz,fun f k hz=>b.block k (I.zlt f k hz),fun _ h=>.inl h,fun _ _ _=>rfl⟩
 refine ⟨⟨I.nlt,⟨b.os.trans I.fr.os,b.tape.trans I.fr.tape,b.output.trans I.fr.output,Nat.le_trans I.fr.size b.size,fun k hk=>(b.block k (I.lt hk)).trans (I.fr.block k hk)⟩,
  fun f k hk=>Nat.lt_of_lt_of_le (I.zlt f k hk) b.size,I.zsub,I.znew,I.hvs,
  fun id o ho=>(I.obj id o ho).mono (x _) (List.getElem?_eq_some_iff.1 ho).1 (fun hm=>b.block _ (I.own id o ho hm).2.2) ⟨trivial,fun k r q hk=>⟨hk,b.block _ (I.dep k _ hk).2.2.1⟩⟩,fun id o ho hm=>?_,I.inj,fun k q hk=>?_,I.nvs⟩,x⟩
 rotate_left
 ·obtain ⟨d1,d2,d3,d4⟩:=I.dep k q hk
  exact ⟨d1,d2,Nat.lt_of_lt_of_le d3 b.size,d4⟩
 obtain ⟨a1,a2,a3⟩:=I.own id o ho hm
 exact ⟨a1,a2,Nat.lt_of_lt_of_le a3 b.size⟩

theorem Ext.upd (η:Env) (h:Nat) (w:World) (b:Nat) (v:Value) (n:Nat):Ext NoK η h w (η.upd h b v n) (h+1) w:=by
 refine ⟨fun id hid _=>⟨by omega,?_,?_,?_⟩,fun f c hc=>hc,fun f c hc=>rfl,fun _ h=>.inl h,fun _ _ _=>rfl⟩<;>simp [Env.upd,Nat.ne_of_lt hid]

theorem Inv.adopt {H:List AObj} (I:Inv N w0 η H w) (o:AObj) (b:Nat) (v:Value) (n:Nat) (hv:∃ A n c,v=.slice A n c)
  (hr:Ext NoK η H.length w (η.upd H.length b v n) (H.length+1) w→ObjR (η.upd H.length b v n) (H.length+1) w H.length o)
  (hm:o.mat (η.upd H.length b v n) H.length→¬ N b∧¬ η.Z false b∧b<w.heap.size∧∀ id o,H[id]? = some o→o.mat η id→η.ι id ≠ b)
  (hO:o.mat (η.upd H.length b v n) H.length→η.O b=none):Inv N w0 (η.upd H.length b v n) (H++[o]) w:=by
 have x:=Ext.upd η H.length w b v n
 have eo:∀ i,i<H.length→(η.upd H.length b v n).ι i=η.ι i:=fun i hi=>by simp [Env.upd,Nat.ne_of_lt hi]
 have en:(η.upd H.length b v n).ι H.length=b:=by simp [Env.upd]
 refine ⟨I.nlt,I.fr,I.zlt,I.zsub,I.znew,fun id=>?_,fun id x' hx=>?_,fun id x' hx hm'=>?_,fun id id' x1 x2 h1 h2 m1 m2 he=>?_,fun k q hk=>?_,I.nvs⟩
 ·simp only [Env.upd];split
  ·exact hv
  ·exact I.hvs id
 ·rw [List.length_append,List.length_singleton]
  rcases heap_append_some hx with ⟨hlt,hx⟩ | ⟨rfl,rfl⟩
  ·exact (I.obj id x' hx).mono x hlt (fun hm=>rfl) ⟨trivial,fun k r q hk=>⟨hk,rfl⟩⟩
  ·exact hr x
 ·rcases heap_append_some hx with ⟨hlt,hx⟩ | ⟨rfl,rfl⟩
  ·rw [eo _ hlt];exact I.own id x' hx ((mat_iff x hlt).1 hm')
  ·rw [en];obtain ⟨q1,q2,q3,_⟩:=hm hm';exact ⟨q1,q2,q3⟩
 ·rcases heap_append_some h1 with ⟨l1,g1⟩ | ⟨rfl,e1⟩<;>rcases heap_append_some h2 with ⟨l2,g2⟩ | ⟨rfl,e2⟩
  ·rw [eo _ l1,eo _ l2] at he
   exact I.inj id id' x1 x2 g1 g2 ((mat_iff x l1).1 m1) ((mat_iff x l2).1 m2) he
  ·rw [eo _ l1,en] at he
   rw [e2] at m2
   exact absurd he ((hm m2).2.2.2 id x1 g1 ((mat_iff x l1).1 m1))
  ·rw [eo _ l2,en] at he
   rw [e1] at m1
   exact absurd he.symm ((hm m1).2.2.2 id' x2 g2 ((mat_iff x l2).1 m2))
  ·rfl
 ·obtain ⟨d1,d2,d3,d4⟩:=I.dep k q hk
  refine ⟨d1,d2,d3,fun i y hy hmy=>?_⟩
  rcases heap_append_some hy with ⟨hlt,hy⟩ | ⟨rfl,rfl⟩
  ·rw [eo _ hlt];exact d4 i y hy ((mat_iff x hlt).1 hmy)
  ·rw [en];intro e;subst e
   have h1:=hO hmy
   have h2:η.O b=some q:=hk
   rw [h1] at h2;cases h2

theorem ObjR.killed {Kf:Nat→Bool} {η η':Env} {h h':Nat} {w w':World} (x:Ext Kf η h w η' h' w') {id:Nat} (hid:id<h) (hk:Kf id=false) {o:AObj}
  (hb:o.mat η id→w'.heap[η.ι id]? = w.heap[η.ι id]?) (r:ObjR η h w id o) (hO:OKeep η w η' w' id):ObjR η' h' w' id (o.kill Kf):=by
 obtain ⟨p1,p2,p3,p4⟩:=x.nm id hid hk
 cases o with
 | dead=>trivial
 | box cs =>
  obtain ⟨hl,c,E,hc,hs,hr⟩:=r
  refine ⟨p4.trans hl,c,E,?_,by simpa using hs,fun j a ha=>?_⟩
  ·rw [p2,hb trivial];exact hc
  ·obtain ⟨y,hy,rfl⟩:=getElem?_map_some ha
   exact ⟨(hr j y hy).1.kill1 x,(hr j y hy).2⟩
 | rows E fr e l =>
  obtain ⟨hl,hr⟩:=r
  refine ⟨p4.trans hl,?_⟩
  rcases hr with ⟨h1,h2⟩ | ⟨c,cap,h1,h2,h3,h4,h5,h6⟩
  ·exact .inl ⟨by rw [p3];exact h1,h2⟩
  ·refine .inr ⟨c,cap,?_,?_,h3,h4,h5,fun i y hy=>lay_cell_mono x.z x.same (h6 i y hy)⟩
   ·rw [p2,p3];exact h1
   ·rw [p2,hb (not_nul h1 h4.1)];exact h2
 | deep E Es e l =>
  obtain ⟨hl,hr⟩:=r
  refine ⟨p4.trans hl,?_⟩
  rcases hr with ⟨h1,h2⟩ | ⟨c,cap,h1,h2,h3,h4,h5,h6⟩
  ·exact .inl ⟨by rw [p3];exact h1,h2⟩
  ·refine .inr ⟨c,cap,?_,?_,h3,h4,h5,fun i y hy=>Own.mono (x.nn id hid hk) hO x.z x.same _ _ _ _ _ (h6 i y hy)⟩
   ·rw [p2,p3];exact h1
   ·rw [p2,hb (not_nul h1 h4.1)];exact h2
 | hole E Es e l row off =>
  obtain ⟨hl,c,cap,h1,h2,h3,h4,h5,h6⟩:=r
  refine ⟨p4.trans hl,c,cap,?_,?_,h3,h4,h5,fun i y hy=>Own.mono (η:=η.holeAt id row off) (η':=η'.holeAt id row off) (holeAt_eq (x.nn id hid hk)) hO x.z x.same _ _ _ _ _ (h6 i y hy)⟩
  ·rw [p2,p3];exact h1
  ·rw [p2,hb (not_nul h1 h4.1)];exact h2

theorem mat_kill {Kf:Nat→Bool} {η:Env} {id:Nat} {o:AObj}:(o.kill Kf).mat η id↔o.mat η id:=by cases o<;>exact Iff.rfl

def blk:Value→Option Nat
 | .slice (some a) _ (_+1)=>some a.block
 | _=>none
theorem blk_own {v:Value} {g:Nat} (h:blk v=some g):v.ownBlock=some g:=by
 unfold blk at h
 split at h
 ·exact h
 ·cases h
theorem blk_mat {v:Value} {g:Nat} (h:blk v=some g):¬ nulV v:=by
 rintro ⟨A,rfl⟩;simp [blk] at h
def ownR (w:World) (E:TypeId) (size:Nat) (v:Value) (n:Nat) (xs:List Value):Prop :=
 (w.ownsRow 0 E size v n xs∧blk v=v.ownBlock)∨(nulV v∧n=0∧xs=[])
theorem ownR.len {w:World} {E:TypeId} {size:Nat} {v:Value} {n:Nat} {xs:List Value} (h:ownR w E size v n xs):xs.length=n*size:=by
 rcases h with h | ⟨_,rfl,rfl⟩
 ·exact h.1.1
 ·simp
theorem ownR.lt {w:World} {E:TypeId} {size:Nat} {v:Value} {n:Nat} {xs:List Value} (h:ownR w E size v n xs) {g:Nat} (hg:blk v=some g):g<w.heap.size:=by
 rcases h with h | ⟨h,_⟩
 ·exact (h.1.lt g (blk_own hg)).2
 ·exact absurd h (blk_mat hg)
theorem ownR.isSl {w:World} {E:TypeId} {size:Nat} {v:Value} {n:Nat} {xs:List Value} (h:ownR w E size v n xs):∃ A n c,v=.slice A n c:=by
 rcases h with ⟨h,_⟩ | ⟨⟨A,h⟩,_⟩
 ·rcases h.2 with ⟨e,_⟩ | ⟨g,cap,cur,e,_⟩<;>exact ⟨_,_,_,e⟩
 ·exact ⟨_,_,_,h⟩
theorem ownR.mat {w:World} {E:TypeId} {size:Nat} {v:Value} {n:Nat} {xs:List Value} (h:ownR w E size v n xs) (hm:¬ nulV v):∃ g,blk v=some g:=by
 rcases h with ⟨h,hb⟩ | ⟨h,_⟩
 ·rcases h.2 with ⟨e,_⟩ | ⟨g,cap,cur,e,_⟩
  ·exact absurd ⟨_,e⟩ hm
  ·exact ⟨g,by rw [hb,e];rfl⟩
 ·exact absurd h hm
theorem ownR_nil (w:World) (E:TypeId) (size:Nat):ownR w E size (.slice none 0 0) 0 []:=.inr ⟨nul_nil,rfl,rfl⟩
theorem ownR_of {w:World} {E:TypeId} {size:Nat} {v:Value} {n:Nat} {xs:List Value} (h:w.ownsRow 0 E size v n xs):ownR w E size v n xs:=by
 rcases h.2 with ⟨rfl,rfl⟩ | ⟨g,cap,cur,rfl,r⟩
 ·exact .inr ⟨nul_nil,rfl,List.eq_nil_of_length_eq_zero (by simpa using h.1)⟩
 ·cases cap with
  | zero =>
   obtain rfl:n=0:=by have:=r.2.2.1;omega
   exact .inr ⟨⟨_,rfl⟩,rfl,List.eq_nil_of_length_eq_zero (by simpa using h.1)⟩
  | succ c=>exact .inl ⟨h,rfl⟩

theorem rows_of_owns {h:Nat} {id:Nat} {E:TypeId} {f:Bool} {e:Ty} {l:List e.den} {v:Value} {xs:List Value} (ho:ownR w E e.cells v l.length xs) (hhv:η.hv id=v) (hln:η.ln id=l.length) (hι:∀ g,blk v=some g→η.ι id=g)
  (hl:∀ i x,l[i]? = some x→Lay (η.Z f) w e x (fun j=>xs[i*e.cells+j]?)):ObjR η h w id (.rows E f e l):=by
 refine ⟨hln,?_⟩
 rcases ho with ⟨⟨o1,o2⟩,hbk⟩ | ⟨h1,h2,_⟩
 case inr=>exact .inl ⟨by rw [hhv];exact h1,List.eq_nil_of_length_eq_zero h2⟩
 rcases o2 with ⟨rfl,hn⟩ | ⟨g,cap,cur,rfl,_,hg,hnc,hcm,hcs,htake⟩
 ·exact .inl ⟨by rw [hhv];exact nul_nil,List.eq_nil_of_length_eq_zero hn⟩
 ·have hb:=hι g (by rw [hbk];rfl)
  have hc0:0<cap:=by cases cap with
   | zero=>simp [blk,Value.ownBlock] at hbk
   | succ c=>omega
  refine .inr ⟨cur,cap,by rw [hhv,hb],by rw [hb];exact hg,hnc,⟨hc0,hcm⟩,hcs,fun i x hx=>?_⟩
  refine Lay.congr e x _ _ (fun j hj=>?_) (hl i x hx)
  have hi:=(List.getElem?_eq_some_iff.1 hx).1
  have:(i+1)*e.cells≤l.length*e.cells:=Nat.mul_le_mul_right _ hi
  rw [Nat.add_mul,Nat.one_mul] at this
  rw [← htake,List.getElem?_take,if_pos (by omega)]
  simp

theorem owns_of_rows {H:List AObj} (I:Inv N w0 η H w) {id:Nat} {E:TypeId} {f:Bool} {e:Ty} {l:List e.den} (ho:H[id]? = some (.rows E f e l)) :
  ∃ xs,ownR w E e.cells (η.hv id) l.length xs∧(∀ g,blk (η.hv id)=some g→η.ι id=g)∧∀ i x,l[i]? = some x→Lay (η.Z f) w e x (fun j=>xs[i*e.cells+j]?):=by
 obtain ⟨h1,h2⟩:=I.obj id _ ho
 rcases h2 with ⟨h2,rfl⟩ | ⟨c,cap,q1,q2,q3,q4,q5,q6⟩
 ·exact ⟨[],.inr ⟨h2,rfl,rfl⟩,fun g hg=>absurd h2 (blk_mat hg),fun i x hx=>by simp at hx⟩
 ·have hle:l.length*e.cells≤c.size:=by rw [q5];exact Nat.mul_le_mul_right _ q3
  refine ⟨c.toList.take (l.length*e.cells),ownR_of ⟨by simp;exact Nat.min_eq_left hle,.inr ⟨_,cap,c,q1,Nat.zero_le _,q2,q3,q4.2,q5,rfl⟩⟩,fun g hg=>by have:=blk_own hg;rw [q1] at this;simpa [Value.ownBlock] using this,fun i x hx=>?_⟩
  refine Lay.congr e x _ _ (fun j hj=>?_) (q6 i x hx)
  have hi:=(List.getElem?_eq_some_iff.1 hx).1
  have:(i+1)*e.cells≤l.length*e.cells:=Nat.mul_le_mul_right _ hi
  rw [Nat.add_mul,Nat.one_mul] at this
  rw [List.getElem?_take,if_pos (by omega)]
  simp

theorem rows_append {Z:Nat→Prop} {e:Ty} {l ys:List e.den} {xs news:List Value} (hx:xs.length=l.length*e.cells) (h1:∀ i x,l[i]? = some x→Lay Z w e x (fun j=>xs[i*e.cells+j]?)) (h2:∀ i x,ys[i]? = some x→Lay Z w e x (fun j=>news[i*e.cells+j]?)) :
  ∀ i x,(l++ys)[i]? = some x→Lay Z w e x (fun j=>(xs++news)[i*e.cells+j]?):=by
 intro i x hi
 by_cases hlt:i<l.length
 ·rw [List.getElem?_append_left hlt] at hi
  refine Lay.congr e x _ _ (fun j hj=>?_) (h1 i x hi)
  have:(i+1)*e.cells≤l.length*e.cells:=Nat.mul_le_mul_right _ hlt
  rw [Nat.add_mul,Nat.one_mul] at this
  rw [List.getElem?_append_left (by omega)]
 ·rw [List.getElem?_append_right (by omega)] at hi
  refine Lay.congr e x _ _ (fun j hj=>?_) (h2 _ x hi)
  have:i*e.cells=l.length*e.cells+(i - l.length)*e.cells:=by rw [← Nat.add_mul];congr 1;omega
  rw [List.getElem?_append_right (by omega)]
  congr 1;omega

theorem killed_spec {ks:List Nat} {i:Nat} (hi:i<st.base) (hk:(st.kill ks).killed.contains i=false):st.killed.contains i=false∧ks.contains i=false:=by
 simp only [St.kill,List.contains_eq_mem,List.mem_append,List.mem_filter,decide_eq_false_iff_not,not_or,not_and,Bool.and_eq_true,decide_eq_true_eq,Bool.not_eq_true', decide_eq_false_iff_not] at hk ⊢
 exact ⟨hk.2,fun h=>hk.2 (Classical.byContradiction fun h2=>absurd (hk.1 h) (by simp [hi,h2]))⟩

theorem SR.append [DF] (s:SR N w0 η0 h0 we η st a w) {id:Nat} {E:TypeId} {fr f:Bool} {e:Ty} {l ys:List e.den} (ho:st.heap[id]? = some (.rows E fr e l)) {xs news:List Value} (hxs:ownR w E e.cells (η.hv id) l.length xs)
  (hι:∀ g,blk (η.hv id)=some g→η.ι id=g) (hl:∀ i x,l[i]? = some x→Lay (η.Z fr) w e x (fun j=>xs[i*e.cells+j]?)) (hys:∀ i x,ys[i]? = some x→Lay (η.Z f) w e x (fun j=>news[i*e.cells+j]?))
  {v':Value} {w':World} (own:ownR w' E e.cells v' (l.length+ys.length) (xs++news)) (hg:w.grownBy w' (blk (η.hv id))) (hat:∀ g,blk v'=some g→blk (η.hv id)=some g∨g=w.heap.size) :
  ∃ η', SR N w0 η0 h0 we η' { (st.kill [id]) with heap:=(st.kill [id]).heap.set id (.rows E (fr&&f) e (l++ys)) } a w'∧AVR η' st.heap.length w' (.all id e.cells) v':=by
 have I:=s.inv
 have hid:id<st.heap.length:=(List.getElem?_eq_some_iff.1 ho).1
 -- the object's block,before
 have hown:∀ g,blk (η.hv id)=some g→¬ N g∧¬ η.Z false g∧g<w.heap.size:=by
  intro g hgb
  have e1:=hι g hgb
  have:=I.own id _ ho (blk_mat hgb)
  rw [e1] at this;exact this
 have hv':∃ A n c,v'=.slice A n c:=own.isSl
 let b':=(blk v').getD (η.ι id)
 let η':=η.upd id b' v' (l.length+ys.length)
 have hz:∀ fl k,η.Z fl k→w'.heap[k]? = w.heap[k]?:=fun fl k hk=>hg.block k (I.zlt fl k hk) (fun e=>(hown k e.symm).2.1 (I.zfalse hk))
 have x:Ext [id].contains η st.heap.length w η' st.heap.length w':=by
  refine ⟨fun i hi hk=>⟨hi,?_,?_,?_⟩,fun _ _ h=>h,hz,fun _ h=>.inl h,fun _ _ _=>rfl⟩ <;>
  ·have:i ≠ id:=by simpa using hk
   simp [η', Env.upd,this]
 -- other objects' blocks stay
 have hob:∀ i y,st.heap[i]? = some y→i ≠ id→y.mat η i→w'.heap[η.ι i]? = w.heap[η.ι i]?:=by
  intro i y hy hne hm
  refine hg.block _ (I.own i y hy hm).2.2 (fun e=>hne ?_)
  have e1:=hι _ e.symm
  exact I.inj i id y _ hy ho hm (blk_mat e.symm) e1.symm
 have hbn:∀ g,blk v'=some g→¬ N g∧¬ η.Z false g∧g<w'.heap.size∧∀ i y,st.heap[i]? = some y→i ≠ id→y.mat η i→η.ι i ≠ g:=by
  intro g hgb
  have hlt:g<w'.heap.size:=own.lt hgb
  rcases hat g hgb with hgb | hgb
  ·obtain ⟨q1,q2,q3⟩:=hown g hgb
   refine ⟨q1,q2,hlt,fun i y hy hne hm e=>hne ?_⟩
   have e1:=hι _ hgb
   exact I.inj i id y _ hy ho hm (blk_mat hgb) (e.trans e1.symm)
  ·subst hgb
   exact ⟨fun hn=>by have:=I.lt hn;omega,fun hzz=>by have:=I.zlt _ _ hzz;omega,hlt,fun i y hy hne hm e=>by have:=(I.own i y hy hm).2.2;omega⟩
 have hbι:∀ g,blk v'=some g→η'.ι id=g:=fun g hgb=>by simp [η', Env.upd,b', hgb]
 have hlen:((st.kill [id]).heap.set id (.rows E (fr&&f) e (l++ys))).length=st.heap.length:=by simp [St.kill]
 have hget:∀ i y,((st.kill [id]).heap.set id (.rows E (fr&&f) e (l++ys)))[i]? = some y→(i=id∧y=.rows E (fr&&f) e (l++ys))∨(i ≠ id∧∃ y0,st.heap[i]? = some y0∧y=y0.kill [id].contains):=by
  intro i y hy
  rcases set_some hy with ⟨q1,_,q2⟩ | ⟨hne,hy⟩
  ·exact .inl ⟨q1,q2⟩
  ·obtain ⟨y0,h1,h2⟩:=getElem?_map_some (l:=st.heap) (f:=AObj.kill [id].contains) hy
   exact .inr ⟨hne,y0,h1,h2.symm⟩
 have hmo:∀ i y0,i ≠ id→((y0:AObj).kill [id].contains).mat η' i→y0.mat η i:=by
  intro i y0 hne hm
  rw [mat_kill] at hm
  cases y0<;>simp [AObj.mat,η', Env.upd,hne] at hm ⊢<;>exact hm
 have hmat':(AObj.rows E (fr&&f) e (l++ys)).mat η' id→∃ g,blk v'=some g:=by
  intro hm
  simp [AObj.mat,η', Env.upd] at hm
  exact own.mat hm
 have J:Inv N w0 η' ((st.kill [id]).heap.set id (.rows E (fr&&f) e (l++ys))) w':=by
  refine ⟨I.nlt,⟨hg.os.trans I.fr.os,hg.tape.trans I.fr.tape,hg.output.trans I.fr.output,Nat.le_trans I.fr.size hg.size,fun k hk=>?_⟩,fun fl k hk=>Nat.lt_of_lt_of_le (I.zlt fl k hk) hg.size,I.zsub,I.znew,fun i=>?_,fun i y hy=>?_,fun i y hy hm=>?_,fun i j y z hy hz my mz he=>?_,fun k q hk=>?_,I.nvs⟩
  ·rw [hg.block k (I.lt hk) (fun e=>(hown k e.symm).1 hk)];exact I.fr.block k hk
  ·simp only [η', Env.upd];split
   ·exact hv'
   ·exact I.hvs i
  ·rw [hlen]
   rcases hget i y hy with ⟨rfl,rfl⟩ | ⟨hne,y0,h1,rfl⟩
   ·refine rows_of_owns (v:=v') (xs:=xs++news) (by simpa using own) (by simp [η', Env.upd]) (by simp [η', Env.upd]) hbι ?_
    have e1:η'.Z=η.Z:=rfl
    rw [e1]
    refine rows_append hxs.len (fun k z hz'=>?_) (fun k z hz'=>?_)
    ·exact Lay.mono (fun _ h=>h) (hz _) _ _ _ (Lay.down I.zsub (by simp;exact fun p _=>p) (hl k z hz'))
    ·exact Lay.mono (fun _ h=>h) (hz _) _ _ _ (Lay.down I.zsub (by simp) (hys k z hz'))
   ·exact (I.obj i y0 h1).killed x (List.getElem?_eq_some_iff.1 h1).1 (by simpa using hne) (hob i y0 h1 hne) ⟨trivial,fun k r q hk=>⟨hk,hg.block _ (I.dep k _ hk).2.2.1 fun e=>(I.dep k _ hk).2.2.2 id _ ho (blk_mat e.symm) (hι _ e.symm)⟩⟩
  ·rcases hget i y hy with ⟨rfl,rfl⟩ | ⟨hne,y0,h1,rfl⟩
   ·obtain ⟨g,hgb⟩:=hmat' hm
    rw [hbι g hgb]
    obtain ⟨q1,q2,q3,_⟩:=hbn g hgb
    exact ⟨q1,q2,q3⟩
   ·have e1:η'.ι i=η.ι i:=by simp [η', Env.upd,hne]
    obtain ⟨q1,q2,q3⟩:=I.own i y0 h1 (hmo i y0 hne hm)
    rw [e1]
    exact ⟨q1,q2,Nat.lt_of_lt_of_le q3 hg.size⟩
  ·rcases hget i y hy with ⟨rfl,rfl⟩ | ⟨hne,y0,h1,rfl⟩<;>rcases hget j z hz with ⟨e2,rfl⟩ | ⟨hne', z0,h2,rfl⟩
   ·exact e2.symm
   ·obtain ⟨g,hgb⟩:=hmat' my
    rw [hbι g hgb] at he
    have e1:η'.ι j=η.ι j:=by simp [η', Env.upd,hne']
    rw [e1] at he
    exact absurd he.symm ((hbn g hgb).2.2.2 j z0 h2 hne' (hmo j z0 hne' mz))
   ·subst e2
    obtain ⟨g,hgb⟩:=hmat' mz
    rw [hbι g hgb] at he
    have e1:η'.ι i=η.ι i:=by simp [η', Env.upd,hne]
    rw [e1] at he
    exact absurd he ((hbn g hgb).2.2.2 i y0 h1 hne (hmo i y0 hne my))
   ·have e1:η'.ι i=η.ι i:=by simp [η', Env.upd,hne]
    have e2:η'.ι j=η.ι j:=by simp [η', Env.upd,hne']
    rw [e1,e2] at he
    exact I.inj i j y0 z0 h1 h2 (hmo i y0 hne my) (hmo j z0 hne' mz) he
  ·obtain ⟨d1,d2,d3,d4⟩:=I.dep k q hk
   refine ⟨d1,d2,Nat.lt_of_lt_of_le d3 hg.size,fun i y hy hm=>?_⟩
   rcases hget i y hy with ⟨rfl,rfl⟩ | ⟨hne,y0,h1,rfl⟩
   ·obtain ⟨g,hgb⟩:=hmat' hm
    rw [hbι g hgb]
    rcases hat g hgb with hg2 | rfl
    ·rw [← hι g hg2];exact d4 i _ ho (blk_mat hg2)
    ·omega
   ·have e1:η'.ι i=η.ι i:=by simp [η', Env.upd,hne]
    rw [e1];exact d4 i y0 h1 (hmo i y0 hne hm)
 refine ⟨η', ⟨J,?_,?_,s.base⟩,?_⟩
 ·rw [hlen]
  exact s.ext.trans x (fun i hi hk=>killed_spec (by rw [s.base];exact hi) hk)
 ·rw [hlen];exact s.sl.kill x
 ·have:=@AVR.all η' st.heap.length w' id e.cells hid
  have e1:η'.hv id=v':=by simp [η', Env.upd]
  rwa [e1] at this
end
end Go.Proofs.Ytccelbeahdcooaa.Eng
