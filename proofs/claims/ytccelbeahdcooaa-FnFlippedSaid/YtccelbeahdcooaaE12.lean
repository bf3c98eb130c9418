/- The engine, part 12: appends, made rows, cuts, calls. -/
import Derived.Test.YtccelbeahdcooaaE11
namespace Go.Proofs.Ytccelbeahdcooaa.Eng
open Go Go.RowKit
set_option linter.unusedSimpArgs false
set_option linter.unusedVariables false

section
variable {P:Program} {N:Nat→Prop} {w0:World} {η0:Env} {h0:Nat} {we:World} {R:Type}
variable {η:Env} {st:St} {a:Act} {w:World} {o:Oper} {next:Act→World→Prop} {Q:Exit→Act→World→Prop} {K:AV→St→Option R} {r:R} {tt:TT} {S:Tab}

structure Reads (η:Env) (w:World) (fr:Bool) (e:Ty) (l:List e.den) (A:Option Addr) (news:List Value):Prop where
 len:news.length=l.length*e.cells
 at_:∀ ad,A=some ad→∀ j u,news[j]? = some u→w.cell? (ad.add j)=some u
 some_:A=none→l=[]
 one:∀ u∈news,u.oneCell'=true
 lay:∀ i x,l[i]? = some x→Lay (η.Z fr) w e x (fun j=>news[i*e.cells+j]?)

theorem reads_nil {fr:Bool} {e:Ty} {A:Option Addr}:Reads η w fr e [] A []:=⟨by simp,fun _ _ j u h=>by simp at h,fun _=>rfl,fun u h=>by simp at h,fun i x h=>by simp at h⟩

theorem divmod_lt {n c j:Nat} (hc:0<c) (h:j<n*c):j / c<n∧j % c<c∧j=j / c*c+j % c:=by
 refine ⟨Nat.div_lt_of_lt_mul (by rwa [Nat.mul_comm]),Nat.mod_lt _ hc,?_⟩
 have:=Nat.div_add_mod j c
 rw [Nat.mul_comm] at this;exact this.symm

theorem reads_of {fr:Bool} {e:Ty} {l:List e.den} {ad:Addr} (hl:∀ i x,l[i]? = some x→Lay (η.Z fr) w e x (fun j=>w.cell? (ad.add (i*e.cells+j)))):∃ news,Reads η w fr e l (some ad) news:=by
 have hc:∀ j,j<l.length*e.cells→∃ u,w.cell? (ad.add j)=some u∧u.oneCell'=true:=by
  intro j hj
  obtain ⟨h1,h2,h3⟩:=divmod_lt e.cells_pos hj
  obtain ⟨u,hu,ho⟩:=(hl _ _ (List.getElem?_eq_getElem h1)).got e _ _ (j % e.cells) h2
  exact ⟨u,by rw [← h3] at hu;exact hu,ho⟩
 have hget:∀ j,j<l.length*e.cells→((List.range (l.length*e.cells)).map fun j=>(w.cell? (ad.add j)).getD undef)[j]? = w.cell? (ad.add j):=by
  intro j hj
  obtain ⟨u,hu,_⟩:=hc j hj
  simp [List.getElem?_map,List.getElem?_range hj,hu]
 refine ⟨(List.range (l.length*e.cells)).map fun j=>(w.cell? (ad.add j)).getD undef,by simp,fun ad' h j u hj=>?_,fun h=>(by cases h),fun u hu=>?_,fun i x hx=>?_⟩
 ·obtain rfl:=Option.some.inj h
  have hlt:j<l.length*e.cells:=by have:=(List.getElem?_eq_some_iff.1 hj).1;simpa using this
  rw [hget j hlt] at hj;exact hj
 ·obtain ⟨j,hj,rfl⟩:=List.mem_map.1 hu
  obtain ⟨v,hv,ho⟩:=hc j (by simpa using hj)
  simp [hv,ho]
 ·refine Lay.congr e x _ _ (fun j hj=>?_) (hl i x hx)
  have hi:=(List.getElem?_eq_some_iff.1 hx).1
  have:(i+1)*e.cells≤l.length*e.cells:=Nat.mul_le_mul_right _ hi
  rw [Nat.add_mul,Nat.one_mul] at this
  rw [hget _ (by omega)]

theorem lay_reads {fr:Bool} {e:Ty} {l:List e.den} {v:Value} (hl:Lay (η.Z fr) w (.sl e) l (fun j=>if j=0 then some v else none)):∃ A c news,v=.slice A l.length c∧l.length≤c∧Reads η w fr e l A news:=by
 obtain ⟨A,cap,h1,h2,h3⟩:=hl
 simp only [if_true,Option.some.injEq] at h1
 rcases h3 with rfl | ⟨ad,rfl,hz,h3⟩
 ·exact ⟨A,cap,[],h1,h2,reads_nil⟩
 ·obtain ⟨news,hr⟩:=reads_of h3
  exact ⟨_,cap,news,h1,h2,hr⟩

theorem obj_reads {H:List AObj} (I:Inv N w0 η H w) {id:Nat} {E:TypeId} {fr:Bool} {e:Ty} {l:List e.den} (ho:H[id]? = some (.rows E fr e l)) (hne:l ≠ []) :
  ∃ cap,η.hv id=.slice (some ⟨η.ι id,0,none⟩) l.length cap∧l.length≤cap∧∀ i x,l[i]? = some x→Lay (η.Z fr) w e x (fun j=>w.cell? ⟨η.ι id,i*e.cells+j,none⟩):=by
 obtain ⟨h1,h2⟩:=I.obj id _ ho
 rcases h2 with ⟨_,rfl⟩ | ⟨c,cap,q1,q2,q3,q4,q5,q6⟩
 ·exact absurd rfl hne
 ·exact ⟨cap,q1,q3,fun i x hx=>Lay.congr e x _ _ (fun j _=>by rw [cell_block q2]) (q6 i x hx)⟩

theorem view1_reads {H:List AObj} (I:Inv N w0 η H w) {x:AV} {v:Value} (r:AVR η H.length w x v) {fr:Bool} {e:Ty} {l:List e.den} (hv:view1 H x=.t fr (.sl e) l):∃ A c news,v=.slice A l.length c∧l.length≤c∧Reads η w fr e l A news:=by
 cases r with
 | @t fr' ty y v h1 hl =>
  simp only [view1,AV.t.injEq] at hv
  obtain ⟨rfl,rfl,hv⟩:=hv
  obtain rfl:=eq_of_heq hv
  exact lay_reads hl
 | @all id sz hid =>
  simp only [view1] at hv
  split at hv
  ·rename_i E fr' e' l' ho
   split at hv
   ·simp only [AV.t.injEq,Ty.sl.injEq] at hv
    obtain ⟨rfl,rfl,hv⟩:=hv
    obtain rfl:=eq_of_heq hv
    by_cases hne:l'=[]
    ·subst hne
     rcases (all_rel I ho).2 with ⟨⟨B,e1⟩,_⟩ | ⟨cap,e1,e2⟩
     ·exact ⟨B,0,[],by rw [e1];rfl,Nat.le_refl _,reads_nil⟩
     ·exact ⟨_,cap,[],e1,e2,reads_nil⟩
    ·obtain ⟨cap,q1,q2,q3⟩:=obj_reads I ho hne
     obtain ⟨news,hr⟩:=reads_of (ad:=⟨η.ι id,0,none⟩) (fun i x hx=>Lay.congr e' x _ _ (fun j _=>by rw [addr_at,Nat.zero_add]) (q3 i x hx))
     exact ⟨_,cap,news,q1,q2,hr⟩
   ·cases hv
  ·cases hv
 | @arr id sz lo n cap A hid hn hlo hA =>
  simp only [view1] at hv
  split at hv
  ·rename_i E fr' e' l' ho
   split at hv
   ·rename_i hsz
    simp only [AV.t.injEq,Ty.sl.injEq] at hv
    obtain ⟨rfl,rfl,hv⟩:=hv
    obtain rfl:=eq_of_heq hv
    have hln:=(all_rel I ho).1
    have hlen:((l'.drop lo).take n).length=n:=by simp;omega
    by_cases h0:n=0
    ·subst h0
     exact ⟨A,cap,[],by rw [hlen],by simp,by simpa using reads_nil⟩
    ·obtain rfl:=hA (by omega)
     have hne:l' ≠ []:=fun e=>by rw [e] at hln;simp at hln;omega
     obtain ⟨cap', q1,q2,q3⟩:=obj_reads I ho hne
     obtain ⟨news,hr⟩:=reads_of (ad:=⟨η.ι id,lo*sz,none⟩) (l:=(l'.drop lo).take n) (e:=e') (fr:=fr') (η:=η) (w:=w) (fun i x hx=>by
      obtain ⟨g1,g2⟩:=take_drop_get hx
      refine Lay.congr e' x _ _ (fun j _=>?_) (q3 _ x g2)
      rw [addr_at,Nat.add_mul,hsz,Nat.add_assoc])
     exact ⟨_,cap,news,by rw [hlen],by rw [hlen];exact hn,hr⟩
   ·cases hv
  ·cases hv
 | @pre id sz n m cap A hid hvv hn hc =>
  simp only [view1] at hv
  split at hv
  ·rename_i E fr' e' l' ho
   split at hv
   ·rename_i hsz
    simp only [AV.t.injEq,Ty.sl.injEq] at hv
    obtain ⟨rfl,rfl,hv⟩:=hv
    obtain rfl:=eq_of_heq hv
    rcases (all_rel I ho).2 with ⟨⟨B,e1⟩,rfl⟩ | ⟨cap', e1,e2⟩
    ·rw [e1,Value.slice.injEq] at hvv
     obtain ⟨rfl,rfl,rfl⟩:=hvv
     obtain rfl:n=0:=by omega
     exact ⟨B,0,[],rfl,by simp,by simpa using reads_nil⟩
    ·rw [e1,Value.slice.injEq] at hvv
     obtain ⟨rfl,rfl,rfl⟩:=hvv
     have hlen:(l'.take n).length=n:=by simp;omega
     by_cases hne:l'=[]
     ·subst hne
      obtain rfl:n=0:=by simpa using hn
      exact ⟨some ⟨η.ι id,0,none⟩,cap', [],rfl,by simp,by simpa using reads_nil⟩
     ·obtain ⟨cap2,q1,q2,q3⟩:=obj_reads I ho hne
      obtain ⟨news,hr⟩:=reads_of (ad:=⟨η.ι id,0,none⟩) (l:=l'.take n) (e:=e') (fr:=fr') (η:=η) (w:=w) (fun i x hx=>by
       have hx':l'[i]? = some x:=by
        rw [List.getElem?_take] at hx
        split at hx
        ·exact hx
        ·cases hx
       exact Lay.congr e' x _ _ (fun j _=>by rw [addr_at,Nat.zero_add]) (q3 _ x hx'))
      exact ⟨some ⟨η.ι id,0,none⟩,cap', news,by rw [hlen],by rw [hlen];exact hc,hr⟩
   ·cases hv
  ·cases hv
 | raw v=>simp [view1] at hv
 | ptr=>simp [view1] at hv
 | rop=>simp [view1] at hv
 | nest=>simp [view1] at hv
 | agg=>simp [view1] at hv
 | tup=>simp [view1] at hv
 | fn=>simp [view1] at hv
 | junk=>simp [view1] at hv

theorem ofAVs_view {H:List AObj} (I:Inv N w0 η H w) {x:AV} {v:Value} (r:AVR η H.length w x v) {f:Bool} {e:Ty} {l:List e.den} (hv:e.sl.ofAVs [view1 H x]=some (l,f,[])):∃ A c news,v=.slice A l.length c∧l.length≤c∧Reads η w f e l A news:=by
 generalize hx:view1 H x=y at hv
 match y,hv with
 | .t fr (.sl e') z,hv =>
  simp only [Ty.ofAVs] at hv
  split at hv
  ·rename_i he;subst he
   simp only [Option.some.injEq,Prod.mk.injEq] at hv
   obtain ⟨rfl,rfl,_⟩:=hv
   exact view1_reads I r hx
  ·cases hv
 | .raw (.slice A 0 c0),hv =>
  simp only [Ty.ofAVs,Option.some.injEq,Prod.mk.injEq] at hv
  obtain ⟨rfl,rfl,_⟩:=hv
  cases r with
  | raw v =>
   simp only [view1,AV.raw.injEq] at hx
   subst hx
   exact ⟨A,c0,[],rfl,Nat.zero_le _,reads_nil⟩
  | all hid=>simp only [view1] at hx;split at hx<;>(try split at hx)<;>cases hx
  | arr=>simp only [view1] at hx;split at hx<;>(try split at hx)<;>cases hx
  | pre=>simp only [view1] at hx;split at hx<;>(try split at hx)<;>cases hx
  | t=>simp [view1] at hx
  | ptr=>simp [view1] at hx
  | rop=>simp [view1] at hx
  | nest=>simp [view1] at hx
  | agg=>simp [view1] at hx
  | tup=>simp [view1] at hx
  | fn=>simp [view1] at hx
  | junk=>simp [view1] at hx

theorem run_append_zero {t ty E:TypeId} {d:TD} (ht:P.underlying t=some (.slice E)) (td:TDok P E d) {b:Option Addr} {n cap:Nat} (hn:n≤cap) {A:Option Addr} {c:Nat} :
  (Builtin.append_ #[t,t] ty #[.slice b n cap,.slice A 0 c]).run P w=.ok (.slice b n cap) w:=by
 have h1:(Builtin.firstCells d.size 0 (.slice A 0 c)).run P w=.ok #[] w:=by
  cases A<;>simp [Builtin.firstCells,loadCells,loadCellsFrom]
 have hu:=run_underlying ht w
 have hs:=run_sizeOf' td w
 cases b<;>simp [Builtin.append_,hu,hs,Builtin.lenOf,hn,h1,storeCells]

theorem run_append_nul {t ty E:TypeId} {i:TypeInfo} {z:Value} (ht:P.underlying t=some (.slice E)) (hi:P.info? E=some i) (hz:i.zero=some z) (b ad:Addr) {n c:Nat} {news:List Value} (hl:news.length=n*i.size) (hnews:∀ j v,news[j]? = some v→w.cell? (ad.add j)=some v)
  (h0:0<n) (h63:(n:Int)≤9223372036854775807) (h48:n*i.bytes≤281474976710656) :
  (Builtin.append_ #[t,t] ty #[.slice (some b) 0 0,.slice (some ad) n c]).run P w=(Builtin.append_ #[t,t] ty #[.slice none 0 0,.slice (some ad) n c]).run P w:=by
 rw [run_append_nil (P:=P) w t ty E i z ht hi hz ad n c news hl hnews h0 h63 h48,
  run_append_grow (P:=P) w t ty E i z ht hi hz b 0 0 [] (by simp) (fun j v hv=>by simp at hv) ad n c news hl hnews (by omega) (by omega) (by rw [Nat.zero_add,nextslicecap_zero h0];exact h48)]
 simp
theorem run_append_any0 {t ty E:TypeId} {d:TD} (ht:P.underlying t=some (.slice E)) (td:TDok P E d) {e:Ty} (hsz:e.cells=d.size) (hb:0<d.bytes) {v:Value} {n:Nat} {xs:List Value} (own:w.ownsRow 0 E e.cells v n xs)
  {fr:Bool} {l:List e.den} {A:Option Addr} {c:Nat} {news:List Value} (hr:Reads η w fr e l A news) (hlim:(n+l.length)*d.bytes≤MAXB) :
  ∃ v' w', (Builtin.append_ #[t,t] ty #[v,.slice A l.length c]).run P w=.ok v' w'∧w'.ownsRow 0 E e.cells v' (n+l.length) (xs++news)∧w.grownBy w' v.ownBlock∧(v'.ownBlock=v.ownBlock∨v'.ownBlock=some w.heap.size):=by
 obtain ⟨i,h1,h2,h3,z,h4,h5,_⟩:=td.ex
 cases A with
 | some ad =>
  have hm:n+l.length≤maxLen:=by
   have:(n+l.length)*1≤(n+l.length)*d.bytes:=Nat.mul_le_mul_left _ hb
   simp only [MAXB] at hlim;simp only [maxLen];omega
  obtain ⟨v', w', q1,q2,q3,q4,q5⟩:=run_append_own_at (P:=P) w 0 t ty E i z e.cells d.bytes ht h1 h4 (by omega) h3 (by rw [hsz,← Array.length_toList,h5,td.len]) e.cells_pos v n xs own ad l.length c news hr.len (hr.at_ ad rfl) hr.one hm hlim (Nat.zero_le _)
  exact ⟨v', w', q1,q2,q3,q5⟩
 | none =>
  obtain rfl:=hr.some_ rfl
  have hn0:news=[]:=List.eq_nil_of_length_eq_zero (by simpa using hr.len)
  subst hn0
  refine ⟨v,w,?_,by simpa using own,⟨rfl,rfl,rfl,Nat.le_refl _,fun _ _ _=>rfl⟩,.inl rfl⟩
  rcases own.2 with ⟨rfl,rfl⟩ | ⟨g,cap,cur,rfl,_,_,hnc,_⟩
  ·exact run_append_zero ht td (Nat.le_refl _)
  ·exact run_append_zero ht td hnc

theorem run_append_any {t ty E:TypeId} {d:TD} (ht:P.underlying t=some (.slice E)) (td:TDok P E d) {e:Ty} (hsz:e.cells=d.size) (hb:0<d.bytes) {v:Value} {n:Nat} {xs:List Value} (own:ownR w E e.cells v n xs)
  {fr:Bool} {l:List e.den} {A:Option Addr} {c:Nat} {news:List Value} (hr:Reads η w fr e l A news) (hlim:(n+l.length)*d.bytes≤MAXB) :
  ∃ v' w', (Builtin.append_ #[t,t] ty #[v,.slice A l.length c]).run P w=.ok v' w'∧ownR w' E e.cells v' (n+l.length) (xs++news)∧w.grownBy w' (blk v)∧(∀ g,blk v'=some g→blk v=some g∨g=w.heap.size):=by
 rcases own with ⟨own,hbk⟩ | ⟨⟨B,rfl⟩,rfl,rfl⟩
 ·obtain ⟨v', w', q1,q2,q3,q4⟩:=run_append_any0 (ty:=ty) (c:=c) ht td hsz hb own hr hlim
  refine ⟨v', w', q1,ownR_of q2,by rw [hbk];exact q3,fun g hg=>?_⟩
  rw [hbk]
  rcases q4 with q4 | q4
  ·exact .inl (by rw [← q4];exact blk_own hg)
  ·right;have:=blk_own hg;rw [q4] at this;exact (Option.some.inj this).symm
 ·have hkk:blk (.slice B 0 0)=none:=by cases B<;>rfl
  by_cases hl0:l=[]
  ·subst hl0
   have hn0:news=[]:=List.eq_nil_of_length_eq_zero (by simpa using hr.len)
   subst hn0
   exact ⟨_,w,run_append_zero ht td (Nat.le_refl _),.inr ⟨⟨B,rfl⟩,rfl,rfl⟩,⟨rfl,rfl,rfl,Nat.le_refl _,fun _ _ _=>rfl⟩,fun g hg=>.inl hg⟩
  ·obtain ⟨v', w', q1,q2,q3,q4⟩:=run_append_any0 (v:=.slice none 0 0) (n:=0) (xs:=[]) (ty:=ty) (c:=c) ht td hsz hb (World.ownsRow_nil w 0 E e.cells) hr hlim
   have e:(Builtin.append_ #[t,t] ty #[.slice B 0 0,.slice A l.length c]).run P w=(Builtin.append_ #[t,t] ty #[.slice none 0 0,.slice A l.length c]).run P w:=by
    cases B with
    | none=>rfl
    | some b =>
     obtain ⟨i,h1,h2,h3,z,h4,h5,_⟩:=td.ex
     cases A with
     | none=>exact absurd (hr.some_ rfl) hl0
     | some ad =>
      have hpos:0<l.length:=List.length_pos_iff.2 hl0
      have hle:l.length*1≤l.length*d.bytes:=Nat.mul_le_mul_left _ hb
      simp only [Nat.zero_add,MAXB] at hlim
      exact run_append_nul ht h1 h4 b ad (by rw [hr.len,h2,hsz]) (hr.at_ ad rfl) hpos (by omega) (by rw [h3];omega)
   refine ⟨v', w', by rw [e];exact q1,ownR_of q2,by rw [hkk];exact q3,fun g hg=>?_⟩
   rcases q4 with q4 | q4
   ·have:=blk_own hg;rw [q4] at this;simp [Value.ownBlock] at this
   ·right;have:=blk_own hg;rw [q4] at this;exact (Option.some.inj this).symm

theorem run_call_append {c:Call} (hcal:c.callee=.builtin .append) {sx x:Operand} {t u:TypeId} (hx:c.args.toList=[sx,x]) (ht:c.argTypes.toList=[t,u]) (ho:o.op=.call c) {v':Value} {w':World}
  (h:(Builtin.append_ #[t,u] o.type #[a.eval sx,a.eval x]).run P w=.ok v' w'):(execOp a.eval o).run P w=.ok (.value v') w':=by
 have ea:c.args=#[sx,x]:=by rw [← Array.toArray_toList (xs:=c.args),hx]
 have et:c.argTypes=#[t,u]:=by rw [← Array.toArray_toList (xs:=c.argTypes),ht]
 simp [execOp,ho,resolve,hcal,ea,et,invoke,builtin,h]

theorem lay_or {Z:Bool→Nat→Prop} {w:World} {f:Bool} {e:Ty} {x:e.den} {c:Nat→Option Value} (h:Lay (Z f) w e x c):Lay (Z (f||e.flat)) w e x c:=by
 cases hf:e.flat with
 | false=>simpa using h
 | true=>exact Lay.of_flat e x _ hf h
theorem op_append [DF] (hT:TTok P tt) (s:SR N w0 η0 h0 we η st a w) {c:Call} (ho:o.op=.call c) (hcal:c.callee=.builtin .append) {sx x:Operand} {t:TypeId} (hx:c.args.toList=[sx,x]) (ht:c.argTypes.toList=[t,t])
  {E:TypeId} {d:TD} (he:elemOf' tt t=some (E,d)) {e:Ty} {ys:List e.den} {f:Bool} (hv:e.sl.ofAVs [view1 st.heap (st.ev x)]=some (ys,f,[])) {id:Nat} (hs:st.ev sx=.all id e.cells) {fr:Bool} {l:List e.den}
  (hob:st.heap[id]? = some (.rows E fr e l)) (hsz:e.cells=d.size) (hb:0<d.bytes) (hlim:(l.length+ys.length)*d.bytes≤MAXB)
  (hk:K (.all id e.cells) { (st.kill [id]) with heap:=(st.kill [id]).heap.set id (.rows E (fr&&(f||e.flat)) e (l++ys)) }=some r) (hp:Post N w0 η0 h0 we K r o a next):o.wp P a w next Q:=by
 obtain ⟨hu,td⟩:=elemOf_spec hT he
 obtain ⟨A,cp,news,e1,e2,hr⟩:=ofAVs_view s.inv (s.ev x) hv
 obtain ⟨xs,o1,o2,o3⟩:=owns_of_rows s.inv hob
 have hsv:=s.ev sx
 rw [hs] at hsv
 generalize hg:a.eval sx=u at hsv
 cases hsv with
 | all hid =>
  obtain ⟨v', w', q1,q2,q3,q4⟩:=run_append_any (c:=cp) (ty:=o.type) hu td hsz hb o1 hr hlim
  obtain ⟨η', s', ra⟩:=s.append (f:=f||e.flat) hob o1 o2 o3 (fun i y hy=>lay_or (hr.lay i y hy)) q2 q3 q4
  refine wp_value (run_call_append hcal hx ht ho (by rw [hg,e1];exact q1)) (hp _ _ _ _ _ hk s' ?_)
  have:({ (st.kill [id]) with heap:=(st.kill [id]).heap.set id (.rows E (fr&&(f||e.flat)) e (l++ys)) }:St).heap.length=st.heap.length:=by simp [St.kill]
  rw [this];exact ra

theorem SR.adoptRows [DF] (s:SR N w0 η0 h0 we η st a w) {E:TypeId} {f:Bool} {e:Ty} {l:List e.den} {v:Value} {xs:List Value} (own:ownR w E e.cells v l.length xs) (hl:∀ i x,l[i]? = some x→Lay (η.Z f) w e x (fun j=>xs[i*e.cells+j]?))
  (hf:∀ g,blk v=some g→¬ N g∧¬ η.Z false g∧(∀ id o,st.heap[id]? = some o→o.mat η id→η.ι id ≠ g)∧η.O g=none) :
  ∃ η', SR N w0 η0 h0 we η' (st.new (.rows E f e l)) a w∧AVR η' (st.new (.rows E f e l)).heap.length w (.all st.heap.length e.cells) v∧Ext NoK η st.heap.length w η' (st.new (.rows E f e l)).heap.length w∧η'.Z=η.Z∧η'.ι st.heap.length=(blk v).getD 0:=by
 have hv:∃ A n c,v=.slice A n c:=own.isSl
 let b:=(blk v).getD 0
 have x:=Ext.upd η st.heap.length w b v l.length
 have I':=s.inv.adopt (.rows E f e l) b v l.length hv (fun x=>rows_of_owns (v:=v) (xs:=xs) own (by simp [Env.upd]) (by simp [Env.upd]) (fun g hg=>by simp [Env.upd,b,hg]) hl) (fun hm=>by
  simp only [AObj.mat,Env.upd,if_true] at hm
  obtain ⟨g,hg⟩:=own.mat hm
  have hb:b=g:=by simp [b,hg]
  rw [hb]
  obtain ⟨q1,q2,q3,_⟩:=hf g hg
  exact ⟨q1,q2,own.lt hg,q3⟩) (fun hm=>by
  simp only [AObj.mat,Env.upd,if_true] at hm
  obtain ⟨g,hg⟩:=own.mat hm
  have hb:b=g:=by simp [b,hg]
  rw [hb];exact (hf g hg).2.2.2)
 have el:(st.new (.rows E f e l)).heap.length=st.heap.length+1:=by simp [St.new]
 refine ⟨η.upd st.heap.length b v l.length,⟨I', ?_,?_,s.base⟩,?_,?_,rfl,by simp [Env.upd,b]⟩
 ·rw [el];exact s.ext.trans x (fun id _ hk=>⟨hk,rfl⟩)
 ·rw [el];exact s.sl.ext x
 ·have:=@AVR.all (η.upd st.heap.length b v l.length) (st.new (.rows E f e l)).heap.length w st.heap.length e.cells (by rw [el];omega)
  have e2:(η.upd st.heap.length b v l.length).hv st.heap.length=v:=by simp [Env.upd]
  rwa [e2] at this
 ·rw [el];exact x

theorem SR.grow [DF] (s:SR N w0 η0 h0 we η st a w) {w':World} (b:Below w.heap.size w w'):SR N w0 η0 h0 we η st a w'∧Ext NoK η st.heap.length w η st.heap.length w':=by
 obtain ⟨I,x⟩:=s.inv.grow b
 exact ⟨⟨I,s.ext.trans (x _) (fun id _ hk=>⟨hk,rfl⟩),s.sl.ext (x _),s.base⟩,x _⟩

theorem op_append_nil [DF] (hT:TTok P tt) (s:SR N w0 η0 h0 we η st a w) {c:Call} (ho:o.op=.call c) (hcal:c.callee=.builtin .append) {sx x:Operand} {t:TypeId} (hx:c.args.toList=[sx,x]) (ht:c.argTypes.toList=[t,t])
  {E:TypeId} {d:TD} (he:elemOf' tt t=some (E,d)) {e:Ty} {ys:List e.den} {f:Bool} (hv:e.sl.ofAVs [view1 st.heap (st.ev x)]=some (ys,f,[])) (hs:st.ev sx=.raw (.slice none 0 0))
  (hsz:e.cells=d.size) (hb:0<d.bytes) (hlim:ys.length*d.bytes≤MAXB)
  (hk:K (.all st.heap.length e.cells) (st.new (.rows E (f||e.flat) e ys))=some r) (hp:Post N w0 η0 h0 we K r o a next):o.wp P a w next Q:=by
 obtain ⟨hu,td⟩:=elemOf_spec hT he
 obtain ⟨A,cp,news,e1,e2,hr⟩:=ofAVs_view s.inv (s.ev x) hv
 have hsv:=s.ev sx
 rw [hs] at hsv
 generalize hg:a.eval sx=u at hsv
 cases hsv with
 | raw =>
  obtain ⟨v', w', q1,q2,q3,q4⟩:=run_append_any (c:=cp) (ty:=o.type) hu td hsz hb (ownR_nil w E e.cells) hr (by simpa using hlim)
  have bl:Below w.heap.size w w':=⟨q3.os,q3.tape,q3.output,q3.size,fun k hk=>q3.block k hk (by simp [blk])⟩
  obtain ⟨s1,x1⟩:=s.grow bl
  obtain ⟨η', s', ra,_⟩:=s1.adoptRows (E:=E) (f:=f||e.flat) (l:=ys) (v:=v') (xs:=news) (by simpa using q2) (fun i y hy=>lay_cell_mono x1.z x1.same (lay_or (hr.lay i y hy))) (fun g hgb=>by
   rcases q4 g hgb with q4 | rfl
   ·simp [blk] at q4
   ·exact ⟨fun hn=>by have:=s.inv.lt hn;omega,fun hz=>by have:=s.inv.zlt _ _ hz;omega,fun id ob hob hm e=>by have:=(s.inv.own id ob hob hm).2.2;omega,s.inv.O_ge (Nat.le_refl _)⟩)
  exact wp_value (run_call_append hcal hx ht ho (by rw [hg,e1];exact q1)) (hp _ _ _ _ _ hk s' ra)

theorem SR.adoptNil [DF] (s:SR N w0 η0 h0 we η st a w) (o:AObj) (sz:Nat) (ho:(∃ E ty,o=.rows E true ty [])∨∃ E Es ty,o=.deep E Es ty []) :
  ∃ η', SR N w0 η0 h0 we η' (st.new o) a w∧AVR η' (st.new o).heap.length w (.all st.heap.length sz) (.slice none 0 0)∧Ext NoK η st.heap.length w η' (st.new o).heap.length w:=by
 have x:=Ext.upd η st.heap.length w 0 nilV 0
 have el:(st.new o).heap.length=st.heap.length+1:=by simp [St.new]
 have hnul:nulV ((η.upd st.heap.length 0 nilV 0).hv st.heap.length):=⟨none,by simp [Env.upd,nilV]⟩
 have hmat:¬ o.mat (η.upd st.heap.length 0 nilV 0) st.heap.length:=by
  rcases ho with ⟨E,ty,rfl⟩ | ⟨E,Es,ty,rfl⟩<;>exact fun h=>h hnul
 have I':=s.inv.adopt o 0 nilV 0 ⟨none,0,0,rfl⟩ (fun x=>by
  rcases ho with ⟨E,ty,rfl⟩ | ⟨E,Es,ty,rfl⟩<;>exact ⟨by simp [Env.upd],.inl ⟨hnul,rfl⟩⟩) (fun hm=>absurd hm hmat) (fun hm=>absurd hm hmat)
 refine ⟨η.upd st.heap.length 0 nilV 0,⟨I', ?_,?_,s.base⟩,?_,by rw [el];exact x⟩
 ·rw [el];exact s.ext.trans x (fun id _ hk=>⟨hk,rfl⟩)
 ·rw [el];exact s.sl.ext x
 ·have:=@AVR.all (η.upd st.heap.length 0 nilV 0) (st.new o).heap.length w st.heap.length sz (by rw [el];omega)
  have e2:(η.upd st.heap.length 0 nilV 0).hv st.heap.length=.slice none 0 0:=by simp [Env.upd,nilV]
  rwa [e2] at this
theorem rowsOr_nil (E:TypeId) (ty:Ty) (Es:List TypeId):(∃ E' ty', rowsOr E ty Es=.rows E' true ty' [])∨∃ E' Es' ty', rowsOr E ty Es=.deep E' Es' ty' []:=by
 cases Es with
 | nil=>exact .inl ⟨_,_,rfl⟩
 | cons i r=>exact .inr ⟨_,_,_,rfl⟩

theorem Own.layT {id row:Nat}:∀ (t:Ty) (Es:List TypeId) (off:Nat) (x:t.den) (c:Nat→Option Value),Own η w id row t Es off x c→Lay (fun _=>True) w t x c:=by
 intro t
 induction t with
 | int k=>intro Es off x c h;exact h
 | bool=>intro Es off x c h;exact h
 | str=>intro Es off x c h;exact h
 | sl e _ =>
  intro Es off l c h
  obtain ⟨h0,h2⟩:=h
  rcases h2 with ⟨⟨A,h3⟩,rfl⟩ | ⟨h1,b,d,cap,q1,q2,q3,q4,q5,q6,q7⟩
  ·exact ⟨A,0,by rw [h0,h3];rfl,Nat.le_refl _,.inl rfl⟩
  ·refine ⟨_,cap,by rw [h0,q1],q4,.inr ⟨_,rfl,trivial,fun i y hy=>?_⟩⟩
   refine Lay.congr e y _ _ (fun j _=>?_) (Lay.of_flat e y _ h1 (q7 i y hy))
   rw [addr_at,cell_block q3,Nat.zero_add]
 | pair a b iha ihb=>intro Es off x c h;exact ⟨iha _ _ _ _ h.1,ihb _ _ _ _ h.2⟩

theorem deep_of_owns {h:Nat} {id:Nat} {E:TypeId} {Es:List TypeId} {e:Ty} {l:List e.den} {v:Value} {xs:List Value} (ho:ownR w E e.cells v l.length xs) (hhv:η.hv id=v) (hln:η.ln id=l.length) (hι:∀ g,blk v=some g→η.ι id=g)
  (hl:∀ i x,l[i]? = some x→Own η w id i e Es 0 x (fun j=>xs[i*e.cells+j]?)):ObjR η h w id (.deep E Es e l):=by
 refine ⟨hln,?_⟩
 rcases ho with ⟨⟨o1,o2⟩,hbk⟩ | ⟨h1,h2,_⟩
 case inr=>exact .inl ⟨by rw [hhv];exact h1,List.eq_nil_of_length_eq_zero h2⟩
 rcases o2 with ⟨rfl,hn⟩ | ⟨g,cap,cur,rfl,_,hg,hnc,hcm,hcs,htake⟩
 ·exact .inl ⟨by rw [hhv];exact nul_nil,List.eq_nil_of_length_eq_zero hn⟩
 ·have hb:=hι g (by rw [hbk];rfl)
  have hc0:0<cap:=by cases cap with
   | zero=>simp [blk,Value.ownBlock] at hbk
   | succ c=>omega
  refine .inr ⟨cur,cap,by rw [hhv,hb],by rw [hb];exact hg,hnc,⟨hc0,hcm⟩,hcs,fun i x hx=>?_⟩
  refine Own.congr e _ _ x _ _ (fun j hj=>?_) (hl i x hx)
  have hi:=(List.getElem?_eq_some_iff.1 hx).1
  have:(i+1)*e.cells≤l.length*e.cells:=Nat.mul_le_mul_right _ hi
  rw [Nat.add_mul,Nat.one_mul] at this
  rw [← htake,List.getElem?_take,if_pos (by omega)]
  simp

theorem owns_of_deep {H:List AObj} (I:Inv N w0 η H w) {id:Nat} {E:TypeId} {Es:List TypeId} {e:Ty} {l:List e.den} (ho:H[id]? = some (.deep E Es e l)) :
  ∃ A cap xs,η.hv id=.slice A l.length cap∧l.length≤cap∧Reads { η with Z:=fun _ _=>True } w false e l A xs∧ownR w E e.cells (η.hv id) l.length xs∧(∀ g,blk (η.hv id)=some g→η.ι id=g)∧∀ i x,l[i]? = some x→Own η w id i e Es 0 x (fun j=>xs[i*e.cells+j]?):=by
 obtain ⟨h1,h2⟩:=I.obj id _ ho
 rcases h2 with ⟨⟨A,h2⟩,rfl⟩ | ⟨c,cap,q1,q2,q3,q4,q5,q6⟩
 ·exact ⟨A,0,[],h2,Nat.le_refl _,reads_nil,.inr ⟨⟨A,h2⟩,rfl,rfl⟩,fun g hg=>absurd ⟨A,h2⟩ (blk_mat hg),fun i x hx=>by simp at hx⟩
 ·have hle:l.length*e.cells≤c.size:=by rw [q5];exact Nat.mul_le_mul_right _ q3
  have hget:∀ j,j<l.length*e.cells→(c.toList.take (l.length*e.cells))[j]? = c[j]?:=fun j hj=>by rw [List.getElem?_take,if_pos hj];simp
  have hown:∀ i x,l[i]? = some x→Own η w id i e Es 0 x (fun j=>(c.toList.take (l.length*e.cells))[i*e.cells+j]?):=fun i x hx=>by
   refine Own.congr e _ _ x _ _ (fun j hj=>?_) (q6 i x hx)
   have hi:=(List.getElem?_eq_some_iff.1 hx).1
   have:(i+1)*e.cells≤l.length*e.cells:=Nat.mul_le_mul_right _ hi
   rw [Nat.add_mul,Nat.one_mul] at this
   rw [hget _ (by omega)]
  have hlay:∀ i x,l[i]? = some x→Lay (fun _=>True) w e x (fun j=>(c.toList.take (l.length*e.cells))[i*e.cells+j]?):=fun i x hx=>(hown i x hx).layT
  refine ⟨some ⟨η.ι id,0,none⟩,cap,c.toList.take (l.length*e.cells),q1,q3,⟨by simp;exact Nat.min_eq_left hle,fun ad had j u hj=>?_,fun h=>(by cases h),fun u hu=>?_,hlay⟩,
   ownR_of ⟨by simp;exact Nat.min_eq_left hle,.inr ⟨_,cap,c,q1,Nat.zero_le _,q2,q3,q4.2,q5,rfl⟩⟩,fun g hg=>by have:=blk_own hg;rw [q1] at this;simpa [Value.ownBlock] using this,hown⟩
  ·obtain rfl:=Option.some.inj had
   have hlt:j<l.length*e.cells:=by have:=(List.getElem?_eq_some_iff.1 hj).1;simp at this;omega
   rw [addr_at,cell_block q2,Nat.zero_add,← hget j hlt];exact hj
  ·obtain ⟨j,hj⟩:=List.mem_iff_getElem?.1 hu
   have hlt:j<l.length*e.cells:=by have:=(List.getElem?_eq_some_iff.1 hj).1;simp at this;omega
   obtain ⟨d1,d2,d3⟩:=divmod_lt e.cells_pos hlt
   obtain ⟨v,hv,hov⟩:=(hlay _ _ (List.getElem?_eq_getElem d1)).got e _ _ (j % e.cells) d2
   rw [← d3,hj] at hv
   obtain rfl:=Option.some.inj hv
   exact hov

theorem SR.appendD [DF] (s:SR N w0 η0 h0 we η st a w) {id id2:Nat} {E:TypeId} {Es:List TypeId} {e:Ty} {l ys:List e.den} (ho:st.heap[id]? = some (.deep E Es e l)) (ho2:st.heap[id2]? = some (.deep E Es e ys)) (hne2:id ≠ id2)
  {xs news:List Value} (hxs:ownR w E e.cells (η.hv id) l.length xs) (hι:∀ g,blk (η.hv id)=some g→η.ι id=g) (hl:∀ i x,l[i]? = some x→Own η w id i e Es 0 x (fun j=>xs[i*e.cells+j]?)) (hys:∀ i x,ys[i]? = some x→Own η w id2 i e Es 0 x (fun j=>news[i*e.cells+j]?))
  {v':Value} {w':World} (own:ownR w' E e.cells v' (l.length+ys.length) (xs++news)) (hg:w.grownBy w' (blk (η.hv id))) (hat:∀ g,blk v'=some g→blk (η.hv id)=some g∨g=w.heap.size) :
  ∃ η', SR N w0 η0 h0 we η' { (st.kill [id]) with heap:=((st.kill [id]).heap.set id2 .dead).set id (.deep E Es e (l++ys)) } a w'∧AVR η' st.heap.length w' (.all id e.cells) v':=by
 have I:=s.inv
 have hid:id<st.heap.length:=(List.getElem?_eq_some_iff.1 ho).1
 have hown:∀ g,blk (η.hv id)=some g→¬ N g∧¬ η.Z false g∧g<w.heap.size:=by
  intro g hgb
  have e1:=hι g hgb
  have:=I.own id _ ho (blk_mat hgb)
  rw [e1] at this;exact this
 have hv':∃ A n c,v'=.slice A n c:=own.isSl
 let b':=(blk v').getD (η.ι id)
 let η':Env:={ η.upd id b' v' (l.length+ys.length) with
  nv:=fun i=>if i=id then (fun r o=>if r<l.length then η.nv id r o else η.nv id2 (r - l.length) o) else η.nv i
  O:=fun b=>(η.O b).map fun q=>if q.1=id2 then (id,l.length+q.2.1,q.2.2) else q }
 have hz:∀ fl k,η.Z fl k→w'.heap[k]? = w.heap[k]?:=fun fl k hk=>hg.block k (I.zlt fl k hk) (fun e=>(hown k e.symm).2.1 (I.zfalse hk))
 have x:Ext [id].contains η st.heap.length w η' st.heap.length w':=by
  refine ⟨fun i hi hk=>⟨hi,?_,?_,?_⟩,fun _ _ h=>h,hz,fun _ h=>.inl h,fun i _ hk=>?_⟩ <;>
  ·have:i ≠ id:=by simpa using hk
   simp [η', Env.upd,this]
 have hob:∀ i y,st.heap[i]? = some y→i ≠ id→y.mat η i→w'.heap[η.ι i]? = w.heap[η.ι i]?:=by
  intro i y hy hne hm
  refine hg.block _ (I.own i y hy hm).2.2 (fun e=>hne ?_)
  have e1:=hι _ e.symm
  exact I.inj i id y _ hy ho hm (blk_mat e.symm) e1.symm
 have hdep:∀ b q,η.O b=some q→w'.heap[b]? = w.heap[b]?:=fun b q hb=>hg.block _ (I.dep b _ hb).2.2.1 fun e=>(I.dep b _ hb).2.2.2 id _ ho (blk_mat e.symm) (hι _ e.symm)
 have hO1:∀ b i r o,η.O b=some (i,r,o)→i ≠ id2→η'.O b=some (i,r,o):=fun b i r o hb hi=>by simp only [η', hb,Option.map_some,if_neg hi]
 have hO2:∀ b r o,η.O b=some (id2,r,o)→η'.O b=some (id,l.length+r,o):=fun b r o hb=>by simp [η', hb]
 have hbn:∀ g,blk v'=some g→¬ N g∧¬ η.Z false g∧g<w'.heap.size∧∀ i y,st.heap[i]? = some y→i ≠ id→y.mat η i→η.ι i ≠ g:=by
  intro g hgb
  have hlt:g<w'.heap.size:=own.lt hgb
  rcases hat g hgb with hgb | hgb
  ·obtain ⟨q1,q2,q3⟩:=hown g hgb
   refine ⟨q1,q2,hlt,fun i y hy hne hm e=>hne ?_⟩
   have e1:=hι _ hgb
   exact I.inj i id y _ hy ho hm (blk_mat hgb) (e.trans e1.symm)
  ·subst hgb
   exact ⟨fun hn=>by have:=I.lt hn;omega,fun hzz=>by have:=I.zlt _ _ hzz;omega,hlt,fun i y hy hne hm e=>by have:=(I.own i y hy hm).2.2;omega⟩
 have hbι:∀ g,blk v'=some g→η'.ι id=g:=fun g hgb=>by simp [η', Env.upd,b', hgb]
 have hlen:(((st.kill [id]).heap.set id2 .dead).set id (.deep E Es e (l++ys))).length=st.heap.length:=by simp [St.kill]
 have hget:∀ i y,(((st.kill [id]).heap.set id2 .dead).set id (.deep E Es e (l++ys)))[i]? = some y→(i=id∧y=.deep E Es e (l++ys))∨(i ≠ id∧i=id2∧y=.dead)∨(i ≠ id∧i ≠ id2∧∃ y0,st.heap[i]? = some y0∧y=y0.kill [id].contains):=by
  intro i y hy
  rcases set_some hy with ⟨q1,_,q2⟩ | ⟨hne,hy⟩
  ·exact .inl ⟨q1,q2⟩
  ·rcases set_some hy with ⟨q1,_,q2⟩ | ⟨hne', hy⟩
   ·exact .inr (.inl ⟨hne,q1,q2⟩)
   ·obtain ⟨y0,h1,h2⟩:=getElem?_map_some (l:=st.heap) (f:=AObj.kill [id].contains) hy
    exact .inr (.inr ⟨hne,hne', y0,h1,h2.symm⟩)
 have hmo:∀ i y0,i ≠ id→((y0:AObj).kill [id].contains).mat η' i→y0.mat η i:=by
  intro i y0 hne hm
  rw [mat_kill] at hm
  cases y0<;>simp [AObj.mat,η', Env.upd,hne] at hm ⊢<;>exact hm
 have hmat':(AObj.deep E Es e (l++ys)).mat η' id→∃ g,blk v'=some g:=by
  intro hm
  simp [AObj.mat,η', Env.upd] at hm
  exact own.mat hm
 have hιo:∀ i,i ≠ id→η'.ι i=η.ι i:=fun i hne=>by simp [η', Env.upd,hne]
 have J:Inv N w0 η' (((st.kill [id]).heap.set id2 .dead).set id (.deep E Es e (l++ys))) w':=by
  refine ⟨I.nlt,⟨hg.os.trans I.fr.os,hg.tape.trans I.fr.tape,hg.output.trans I.fr.output,Nat.le_trans I.fr.size hg.size,fun k hk=>?_⟩,fun fl k hk=>Nat.lt_of_lt_of_le (I.zlt fl k hk) hg.size,I.zsub,I.znew,fun i=>?_,fun i y hy=>?_,fun i y hy hm=>?_,fun i j y z hy hz my mz he=>?_,fun k q hk=>?_,fun i r o=>?_⟩
  ·rw [hg.block k (I.lt hk) (fun e=>(hown k e.symm).1 hk)];exact I.fr.block k hk
  ·simp only [η', Env.upd];split
   ·exact hv'
   ·exact I.hvs i
  ·rw [hlen]
   rcases hget i y hy with ⟨rfl,rfl⟩ | ⟨hne,rfl,rfl⟩ | ⟨hne,hne2', y0,h1,rfl⟩
   ·refine deep_of_owns (v:=v') (xs:=xs++news) (by simpa using own) (by simp [η', Env.upd]) (by simp [η', Env.upd]) hbι (fun k z hz'=>?_)
    by_cases hlt:k<l.length
    ·rw [List.getElem?_append_left hlt] at hz'
     refine Own.congr e _ _ z _ _ (fun j hj=>?_) (Own.renRow (η:=η) (id:=i) (row:=k) (fun o=>by simp [η', hlt]) (fun b o hb=>⟨hO1 b _ _ _ hb hne2,hdep b _ hb⟩) _ _ _ _ _ (hl k z hz'))
     have:(k+1)*e.cells≤l.length*e.cells:=Nat.mul_le_mul_right _ hlt
     rw [Nat.add_mul,Nat.one_mul] at this
     rw [List.getElem?_append_left (by rw [hxs.len];omega)]
    ·rw [List.getElem?_append_right (by omega)] at hz'
     refine Own.congr e _ _ z _ _ (fun j hj=>?_) (Own.renRow (η:=η) (id:=id2) (row:=k - l.length) (row':=k) (fun o=>by simp [η', hlt]) (fun b o hb=>⟨by rw [hO2 b _ _ hb,show l.length+(k - l.length)=k by omega],hdep b _ hb⟩) _ _ _ _ _ (hys _ z hz'))
     have:k*e.cells=l.length*e.cells+(k - l.length)*e.cells:=by rw [← Nat.add_mul];congr 1;omega
     rw [List.getElem?_append_right (by rw [hxs.len];omega)]
     congr 1;rw [hxs.len];omega
   ·trivial
   ·have hk:=(I.obj i y0 h1).killed x (List.getElem?_eq_some_iff.1 h1).1 (by simpa using hne) (hob i y0 h1 hne) ⟨trivial,fun k r q hk=>⟨hO1 k _ _ _ hk hne2', hdep k _ hk⟩⟩
    exact hk
  ·rcases hget i y hy with ⟨rfl,rfl⟩ | ⟨hne,rfl,rfl⟩ | ⟨hne,hne2', y0,h1,rfl⟩
   ·obtain ⟨g,hgb⟩:=hmat' hm
    rw [hbι g hgb]
    obtain ⟨q1,q2,q3,_⟩:=hbn g hgb
    exact ⟨q1,q2,q3⟩
   ·exact hm.elim
   ·obtain ⟨q1,q2,q3⟩:=I.own i y0 h1 (hmo i y0 hne hm)
    rw [hιo i hne]
    exact ⟨q1,q2,Nat.lt_of_lt_of_le q3 hg.size⟩
  ·rcases hget i y hy with ⟨rfl,rfl⟩ | ⟨_,_,rfl⟩ | ⟨hne,_,y0,h1,rfl⟩
   ·rcases hget j z hz with ⟨e2,rfl⟩ | ⟨_,_,rfl⟩ | ⟨hne', _,z0,h2,rfl⟩
    ·exact e2.symm
    ·exact mz.elim
    ·obtain ⟨g,hgb⟩:=hmat' my
     rw [hbι g hgb,hιo j hne'] at he
     exact absurd he.symm ((hbn g hgb).2.2.2 j z0 h2 hne' (hmo j z0 hne' mz))
   ·exact my.elim
   ·rcases hget j z hz with ⟨e2,rfl⟩ | ⟨_,_,rfl⟩ | ⟨hne', _,z0,h2,rfl⟩
    ·subst e2
     obtain ⟨g,hgb⟩:=hmat' mz
     rw [hbι g hgb,hιo i hne] at he
     exact absurd he ((hbn g hgb).2.2.2 i y0 h1 hne (hmo i y0 hne my))
    ·exact mz.elim
    ·rw [hιo i hne,hιo j hne'] at he
     exact I.inj i j y0 z0 h1 h2 (hmo i y0 hne my) (hmo j z0 hne' mz) he
  ·simp only [η'] at hk
   obtain ⟨q0,hq0,_⟩:=Option.map_eq_some_iff.1 hk
   obtain ⟨d1,d2,d3,d4⟩:=I.dep k q0 hq0
   refine ⟨d1,d2,Nat.lt_of_lt_of_le d3 hg.size,fun i y hy hm=>?_⟩
   rcases hget i y hy with ⟨rfl,rfl⟩ | ⟨hne,rfl,rfl⟩ | ⟨hne,hne2', y0,h1,rfl⟩
   ·obtain ⟨g,hgb⟩:=hmat' hm
    rw [hbι g hgb]
    rcases hat g hgb with hg2 | rfl
    ·rw [← hι g hg2];exact d4 i _ ho (blk_mat hg2)
    ·omega
   ·exact hm.elim
   ·rw [hιo i hne];exact d4 i y0 h1 (hmo i y0 hne hm)
  ·by_cases hi:i=id
   ·subst hi
    by_cases hr:r<l.length
    ·have e1:η'.nv i r o=η.nv i r o:=by simp [η', hr]
     rw [e1];exact I.nvs _ _ _
    ·have e1:η'.nv i r o=η.nv id2 (r - l.length) o:=by simp [η', hr]
     rw [e1];exact I.nvs _ _ _
   ·have e1:η'.nv i r o=η.nv i r o:=by simp [η', hi]
    rw [e1];exact I.nvs _ _ _
 refine ⟨η', ⟨J,?_,?_,s.base⟩,?_⟩
 ·rw [hlen]
  exact s.ext.trans x (fun i hi hk=>killed_spec (by rw [s.base];exact hi) hk)
 ·rw [hlen];exact s.sl.kill x
 ·have:=@AVR.all η' st.heap.length w' id e.cells hid
  have e1:η'.hv id=v':=by simp [η', Env.upd]
  rwa [e1] at this

def Env.rekey (η:Env) (id k:Nat):Env:={ η with nv:=fun i=>if i=k then η.nv id else η.nv i,O:=fun b=>(η.O b).map fun q=>if q.1=id then (k,q.2) else q }
theorem Inv.rekey {H:List AObj} (I:Inv N w0 η H w) {id k:Nat} (hd:∀ o,H[id]? = some o→o=.dead) (hk:H.length≤k):Inv N w0 (η.rekey id k) H w∧∀ h,h≤k→Ext NoK η h w (η.rekey id k) h w:=by
 have hm:∀ (i:Nat) (o:AObj),o.mat (η.rekey id k) i↔o.mat η i:=fun i o=>by cases o<;>exact Iff.rfl
 have hn:∀ i,i<k→(η.rekey id k).nv i=η.nv i:=fun i hi=>by simp [Env.rekey,Nat.ne_of_lt hi]
 have x:∀ h,h≤k→Ext NoK η h w (η.rekey id k) h w:=fun h hh=>ext_owners rfl rfl rfl rfl (fun i hi=>hn i (by omega))
 refine ⟨⟨I.nlt,I.fr,I.zlt,I.zsub,I.znew,I.hvs,fun i o ho=>?_,fun i o ho m=>I.own i o ho ((hm i o).1 m),fun i j y z hy hz my mz he=>I.inj i j y z hy hz ((hm i y).1 my) ((hm j z).1 mz) he,fun b q hb=>?_,fun i r o=>?_⟩,x⟩
 ·have hi:=(List.getElem?_eq_some_iff.1 ho).1
  by_cases he:i=id
  ·subst he;rw [hd o ho];trivial
  ·exact (I.obj i o ho).mono (x _ hk) hi (fun _=>rfl) ⟨trivial,fun b r q hb=>⟨by simp [Env.rekey,hb,he],rfl⟩⟩
 ·simp only [Env.rekey] at hb
  obtain ⟨q0,h0,_⟩:=Option.map_eq_some_iff.1 hb
  obtain ⟨d1,d2,d3,d4⟩:=I.dep b q0 h0
  exact ⟨d1,d2,d3,fun i o ho m=>d4 i o ho ((hm i o).1 m)⟩
 ·simp only [Env.rekey]
  split<;>exact I.nvs _ _ _

theorem Inv.setDead {H:List AObj} (I:Inv N w0 η H w) (id:Nat):Inv N w0 η (H.set id .dead) w:=by
 refine ⟨I.nlt,I.fr,I.zlt,I.zsub,I.znew,I.hvs,fun i y hy=>?_,fun i y hy hm=>?_,fun i j y z hy hz my mz he=>?_,fun b k hb=>?_,I.nvs⟩
 rotate_left 3
 ·obtain ⟨d1,d2,d3,d4⟩:=I.dep b k hb
  refine ⟨d1,d2,d3,fun i y hy hm=>?_⟩
  rcases set_some hy with ⟨rfl,_,rfl⟩ | ⟨hne,hy⟩
  ·exact hm.elim
  ·exact d4 i y hy hm
 ·rw [List.length_set]
  rcases set_some hy with ⟨rfl,_,rfl⟩ | ⟨hne,hy⟩
  ·trivial
  ·exact I.obj i y hy
 ·rcases set_some hy with ⟨rfl,_,rfl⟩ | ⟨hne,hy⟩
  ·exact hm.elim
  ·exact I.own i y hy hm
 ·rcases set_some hy with ⟨rfl,_,rfl⟩ | ⟨hne,hy⟩
  ·exact my.elim
  ·rcases set_some hz with ⟨rfl,_,rfl⟩ | ⟨hne', hz⟩
   ·exact mz.elim
   ·exact I.inj i j y z hy hz my mz he

theorem SR.moveAdopt [DF] (s:SR N w0 η0 h0 we η st a w) {id2:Nat} {E:TypeId} {Es:List TypeId} {e:Ty} {ys:List e.den} (ho2:st.heap[id2]? = some (.deep E Es e ys)) {v:Value} {news:List Value} (own:ownR w E e.cells v ys.length news)
  (hys:∀ i x,ys[i]? = some x→Own η w id2 i e Es 0 x (fun j=>news[i*e.cells+j]?)) (hf:∀ g,blk v=some g→¬ N g∧¬ η.Z false g∧(∀ id o,st.heap[id]? = some o→o.mat η id→η.ι id ≠ g)∧η.O g=none) :
  ∃ η', SR N w0 η0 h0 we η' { st with heap:=st.heap.set id2 .dead++[.deep E Es e ys] } a w∧AVR η' (st.heap.length+1) w (.all st.heap.length e.cells) v:=by
 have I2:=s.inv.setDead id2
 obtain ⟨I3,x3⟩:=I2.rekey (id:=id2) (k:=st.heap.length) (fun o h=>by
  rcases set_some h with ⟨_,_,h⟩ | ⟨h,_⟩
  ·exact h
  ·exact absurd rfl h) (by simp)
 have hv:∃ A n c,v=.slice A n c:=own.isSl
 let b:=(blk v).getD 0
 have el:(st.heap.set id2 AObj.dead).length=st.heap.length:=by simp
 have A:=I3.adopt (.deep E Es e ys) b v ys.length hv (fun x=>by
  rw [el]
  refine deep_of_owns (v:=v) (xs:=news) own (by simp [Env.upd]) (by simp [Env.upd]) (fun g hg=>by simp [Env.upd,b,hg]) (fun i x hx=>?_)
  exact Own.renRow (η:=η) (id:=id2) (row:=i) (fun o=>by simp [Env.upd,Env.rekey]) (fun b o hb=>⟨by simp [Env.upd,Env.rekey,hb],rfl⟩) _ _ _ _ _ (hys i x hx)) (fun hm=>by
  rw [el] at hm
  have hm':¬ nulV v:=by simpa [AObj.mat,Env.upd] using hm
  obtain ⟨g,hg⟩:=own.mat hm'
  have hb:b=g:=by simp [b,hg]
  rw [hb]
  obtain ⟨q1,q2,q3,_⟩:=hf g hg
  refine ⟨q1,q2,own.lt hg,fun i o ho hmi=>?_⟩
  rcases set_some ho with ⟨_,_,rfl⟩ | ⟨_,ho⟩
  ·exact hmi.elim
  ·exact q3 i o ho (by cases o<;>exact hmi)) (fun hm=>by
  rw [el] at hm
  have hm':¬ nulV v:=by simpa [AObj.mat,Env.upd] using hm
  obtain ⟨g,hg⟩:=own.mat hm'
  have hb:b=g:=by simp [b,hg]
  have:=(hf g hg).2.2.2
  rw [hb];simp [Env.rekey,this])
 rw [el] at A
 have x:Ext NoK η st.heap.length w ((η.rekey id2 st.heap.length).upd st.heap.length b v ys.length) (st.heap.length+1) w :=
  (x3 _ (Nat.le_refl _)).trans (Ext.upd _ _ _ _ _ _) (fun _ _ _=>⟨rfl,rfl⟩)
 refine ⟨_,⟨A,?_,?_,s.base⟩,?_⟩
 ·simp only [List.length_append,List.length_set,List.length_singleton];exact s.ext.trans x (fun _ _ hk=>⟨hk,rfl⟩)
 ·simp only [List.length_append,List.length_set,List.length_singleton];exact s.sl.ext x
 ·have:=@AVR.all ((η.rekey id2 st.heap.length).upd st.heap.length b v ys.length) (st.heap.length+1) w st.heap.length e.cells (by omega)
  have e2:((η.rekey id2 st.heap.length).upd st.heap.length b v ys.length).hv st.heap.length=v:=by simp [Env.upd]
  rwa [e2] at this

theorem op_appendOwn [DF] (hT:TTok P tt) (s:SR N w0 η0 h0 we η st a w) {c:Call} (ho:o.op=.call c) (hcal:c.callee=.builtin .append) {sx x:Operand} {t:TypeId} (hx:c.args.toList=[sx,x]) (ht:c.argTypes.toList=[t,t])
  {E:TypeId} {d:TD} (he:elemOf' tt t=some (E,d)) {e:Ty} {v:AV} {st':St} (ha:appendOwn st E d e (st.ev sx) (st.ev x)=some (true,v,st'))
  (hk:K v st'=some r) (hp:Post N w0 η0 h0 we K r o a next):o.wp P a w next Q:=by
 obtain ⟨hu,td⟩:=elemOf_spec hT he
 have hsv:=s.ev sx
 have hxv:=s.ev x
 unfold appendOwn at ha
 split at ha
 ·rename_i id sz id2 sz2 hs1 hs2
  split at ha
  ·rename_i E' Es e' l E2 Es2 e2 ys h1 h2
   split at ha
   ·rename_i hc
    obtain ⟨rfl,rfl,rfl,rfl,rfl,rfl,rfl,hsz,hb,hne⟩:=hc
    simp only [Option.some.injEq,Prod.mk.injEq,decide_eq_true_eq] at ha
    obtain ⟨hlim,rfl,rfl⟩:=ha
    rw [hs1] at hsv
    rw [hs2] at hxv
    generalize hg:a.eval sx=u at hsv
    generalize hgx:a.eval x=ux at hxv
    cases hsv with
    | all hid =>
     cases hxv with
     | all hid2 =>
      obtain ⟨A1,cp1,xs,a1,a2,a3,o1,o2,o3⟩:=owns_of_deep s.inv h1
      obtain ⟨A2,cp2,news,b1,b2,b3,o4,o5,o6⟩:=owns_of_deep s.inv h2
      obtain ⟨v', w', q1,q2,q3,q4⟩:=run_append_any (c:=cp2) (ty:=o.type) hu td hsz hb o1 b3 hlim
      obtain ⟨η', s', ra⟩:=s.appendD h1 h2 hne o1 o2 o3 o6 q2 q3 q4
      refine wp_value (run_call_append hcal hx ht ho (by rw [hg,hgx,b1];exact q1)) (hp _ _ _ _ _ hk s' ?_)
      simp only [List.length_set,St.kill,List.length_map]
      exact ra
   ·cases ha
  ·cases ha
 ·rename_i id2 sz2 hs1 hs2
  split at ha
  ·rename_i E2 Es2 e2 ys h2
   split at ha
   ·rename_i hc
    obtain ⟨rfl,rfl,rfl,hsz,hb⟩:=hc
    simp only [Option.some.injEq,Prod.mk.injEq,decide_eq_true_eq] at ha
    obtain ⟨hlim,rfl,rfl⟩:=ha
    rw [hs1] at hsv
    rw [hs2] at hxv
    generalize hg:a.eval sx=u at hsv
    generalize hgx:a.eval x=ux at hxv
    cases hsv with
    | raw =>
     cases hxv with
     | all hid2 =>
      obtain ⟨A2,cp2,news,b1,b2,b3,o4,o5,o6⟩:=owns_of_deep s.inv h2
      obtain ⟨v', w', q1,q2,q3,q4⟩:=run_append_any (c:=cp2) (ty:=o.type) hu td hsz hb (ownR_nil w E2 e2.cells) b3 (by simpa using hlim)
      have bl:Below w.heap.size w w':=⟨q3.os,q3.tape,q3.output,q3.size,fun k hk=>q3.block k hk (by simp [blk])⟩
      obtain ⟨s1,x1⟩:=s.grow bl
      obtain ⟨η', s', ra⟩:=s1.moveAdopt h2 (v:=v') (news:=news) (by simpa using q2) (fun i y hy=>Own.renRow (fun _=>rfl) (fun b o hb=>⟨hb,bl.block b (s.inv.dep b _ hb).2.2.1⟩) _ _ _ _ _ (o6 i y hy)) (fun g hgb=>by
       rcases q4 g hgb with q4 | rfl
       ·simp [blk] at q4
       ·exact ⟨fun hn=>by have:=s.inv.lt hn;omega,fun hz=>by have:=s.inv.zlt _ _ hz;omega,fun id ob hob hm e=>by have:=(s.inv.own id ob hob hm).2.2;omega,s.inv.O_ge (Nat.le_refl _)⟩)
      refine wp_value (run_call_append hcal hx ht ho (by rw [hg,hgx,b1];exact q1)) (hp _ _ _ _ _ hk s' ?_)
      simp only [List.length_append,List.length_set,List.length_singleton]
      exact ra
   ·cases ha
  ·cases ha
 ·cases ha
end
end Go.Proofs.Ytccelbeahdcooaa.Eng
