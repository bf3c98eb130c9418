/- The engine, part 12: appends, made rows, cuts, calls. -/
import Derived.Test.YtcofibhklbfgoaaGreatE11
namespace Go.Proofs.YtcofibhklbfgoaaGreat.Eng
open Go Go.RowKit
set_option linter.unusedSimpArgs false
set_option linter.unusedVariables false

section
variable {P:Program} {N:Nat→Prop} {w0:World} {η0:Env} {h0:Nat} {we:World} {R:Type}
variable {η:Env} {st:St} {a:Act} {w:World} {o:Oper} {next:Act→World→Prop} {Q:Exit→Act→World→Prop} {K:AV→St→Option R} {r:R} {tt:TT} {S:Tab}

structure Reads (η:Env) (w:World) (fr:Bool) (e:Ty) (l:List e.den) (A:Option Addr) (news:List Value):Prop where
 len:news.length=l.length*e.cells
 at_:∀ ad,A=some ad→∀ j u,news[j]? = some u→w.cell? (ad.add j)=some u
 some_:A=none→l=[]
 one:∀ u∈news,u.oneCell'=true
 lay:∀ i x,l[i]? = some x→Lay (η.Z fr) w e x (fun j=>news[i*e.cells+j]?)

theorem A0D {fr:Bool} {e:Ty} {A:Option Addr}:Reads η w fr e [] A []:=⟨by simp,fun _ _ j u h=>by simp at h,fun _=>rfl,fun u h=>by simp at h,fun i x h=>by simp at h⟩

theorem A5d {n c j:Nat} (hc:0<c) (h:j<n*c):j / c<n∧j % c<c∧j=j / c*c+j % c:=by
 refine ⟨Nat.div_lt_of_lt_mul (by rwa [Nat.mul_comm]),Nat.mod_lt _ hc,?_⟩
 have:=Nat.div_add_mod j c
 rw [Nat.mul_comm] at this;exact this.symm

theorem A2e {fr:Bool} {e:Ty} {l:List e.den} {ad:Addr} (hl:∀ i x,l[i]? = some x→Lay (η.Z fr) w e x (fun j=>w.cell? (ad.add (i*e.cells+j)))):∃ news,Reads η w fr e l (some ad) news:=by
 have hc:∀ j,j<l.length*e.cells→∃ u,w.cell? (ad.add j)=some u∧u.oneCell'=true:=by
  intro j hj
  obtain ⟨h1,h2,h3⟩:=A5d e.cells_pos hj
  obtain ⟨u,hu,ho⟩:=(hl _ _ (List.getElem?_eq_getElem h1)).got e _ _ (j % e.cells) h2
  exact ⟨u,by rw [← h3] at hu;exact hu,ho⟩
 have hget:∀ j,j<l.length*e.cells→((List.range (l.length*e.cells)).map fun j=>(w.cell? (ad.add j)).getD undef)[j]? = w.cell? (ad.add j):=by
  intro j hj
  obtain ⟨u,hu,_⟩:=hc j hj
  simp [List.getElem?_map,List.getElem?_range hj,hu]
 refine ⟨(List.range (l.length*e.cells)).map fun j=>(w.cell? (ad.add j)).getD undef,by simp,fun ad' h j u hj=>?_,fun h=>(by cases h),fun u hu=>?_,fun i x hx=>?_⟩
 ·obtain rfl:=Option.some.inj h
  have hlt:j<l.length*e.cells:=by have:=(List.getElem?_eq_some_iff.1 hj).1;simpa using this
  rw [hget j hlt] at hj;exact hj
 ·obtain ⟨j,hj,rfl⟩:=List.mem_map.1 hu
  obtain ⟨v,hv,ho⟩:=hc j (by simpa using hj)
  simp [hv,ho]
 ·refine Lay.congr e x _ _ (fun j hj=>?_) (hl i x hx)
  have hi:=(List.getElem?_eq_some_iff.1 hx).1
  have:(i+1)*e.cells≤l.length*e.cells:=Nat.mul_le_mul_right _ hi
  rw [Nat.add_mul,Nat.one_mul] at this
  rw [hget _ (by omega)]

theorem A5j {fr:Bool} {e:Ty} {l:List e.den} {v:Value} (hl:Lay (η.Z fr) w (.sl e) l (fun j=>if j=0 then some v else none)):∃ A c news,v=.slice A l.length c∧l.length≤c∧Reads η w fr e l A news:=by
 obtain ⟨A,cap,h1,h2,h3⟩:=hl
 simp only [if_true,Option.some.injEq] at h1
 rcases h3 with rfl | ⟨ad,rfl,hz,h3⟩
 ·exact ⟨A,cap,[],h1,h2,A0D⟩
 ·obtain ⟨news,hr⟩:=A2e h3
  exact ⟨_,cap,news,h1,h2,hr⟩

theorem A2o {H:List AObj} (I:Inv N w0 η H w) {id:Nat} {E:TypeId} {fr:Bool} {e:Ty} {l:List e.den} (ho:H[id]? = some (.rows E fr e l)) (hne:l ≠ []) :
  ∃ cap,η.hv id=.slice (some ⟨η.ι id,0,none⟩) l.length cap∧l.length≤cap∧∀ i x,l[i]? = some x→Lay (η.Z fr) w e x (fun j=>w.cell? ⟨η.ι id,i*e.cells+j,none⟩):=by
 obtain ⟨h1,h2⟩:=I.obj id _ ho
 rcases h2 with ⟨_,rfl⟩ | ⟨c,cap,q1,q2,q3,q4,q5,q6⟩
 ·exact absurd rfl hne
 ·exact ⟨cap,q1,q3,fun i x hx=>Lay.congr e x _ _ (fun j _=>by rw [D6 q2]) (q6 i x hx)⟩

theorem A0x {H:List AObj} (I:Inv N w0 η H w) {x:AV} {v:Value} (r:AVR η H.length w x v) {fr:Bool} {e:Ty} {l:List e.den} (hv:B2 H x=.t fr (.sl e) l):∃ A c news,v=.slice A l.length c∧l.length≤c∧Reads η w fr e l A news:=by
 cases r with
 | @t fr' ty y v h1 hl =>
  simp only [B2,AV.t.injEq] at hv
  obtain ⟨rfl,rfl,hv⟩:=hv
  obtain rfl:=eq_of_heq hv
  exact A5j hl
 | @all id sz hid =>
  simp only [B2] at hv
  split at hv
  ·rename_i E fr' e' l' ho
   split at hv
   ·simp only [AV.t.injEq,Ty.sl.injEq] at hv
    obtain ⟨rfl,rfl,hv⟩:=hv
    obtain rfl:=eq_of_heq hv
    by_cases hne:l'=[]
    ·subst hne
     rcases (A0R I ho).2 with ⟨⟨B,e1⟩,_⟩ | ⟨cap,e1,e2⟩
     ·exact ⟨B,0,[],by rw [e1];rfl,Nat.le_refl _,A0D⟩
     ·exact ⟨_,cap,[],e1,e2,A0D⟩
    ·obtain ⟨cap,q1,q2,q3⟩:=A2o I ho hne
     obtain ⟨news,hr⟩:=A2e (ad:=⟨η.ι id,0,none⟩) (fun i x hx=>Lay.congr e' x _ _ (fun j _=>by rw [E3,Nat.zero_add]) (q3 i x hx))
     exact ⟨_,cap,news,q1,q2,hr⟩
   ·cases hv
  ·cases hv
 | @arr id sz lo n cap A hid hn hlo hA =>
  simp only [B2] at hv
  split at hv
  ·rename_i E fr' e' l' ho
   split at hv
   ·rename_i hsz
    simp only [AV.t.injEq,Ty.sl.injEq] at hv
    obtain ⟨rfl,rfl,hv⟩:=hv
    obtain rfl:=eq_of_heq hv
    have hln:=(A0R I ho).1
    have hlen:((l'.drop lo).take n).length=n:=by simp;omega
    by_cases h0:n=0
    ·subst h0
     exact ⟨A,cap,[],by rw [hlen],by simp,by simpa using A0D⟩
    ·obtain rfl:=hA (by omega)
     have hne:l' ≠ []:=fun e=>by rw [e] at hln;simp at hln;omega
     obtain ⟨cap', q1,q2,q3⟩:=A2o I ho hne
     obtain ⟨news,hr⟩:=A2e (ad:=⟨η.ι id,lo*sz,none⟩) (l:=(l'.drop lo).take n) (e:=e') (fr:=fr') (η:=η) (w:=w) (fun i x hx=>by
      obtain ⟨g1,g2⟩:=F0 hx
      refine Lay.congr e' x _ _ (fun j _=>?_) (q3 _ x g2)
      rw [E3,Nat.add_mul,hsz,Nat.add_assoc])
     exact ⟨_,cap,news,by rw [hlen],by rw [hlen];exact hn,hr⟩
   ·cases hv
  ·cases hv
 | @pre id sz n m cap A hid hvv hn hc =>
  simp only [B2] at hv
  split at hv
  ·rename_i E fr' e' l' ho
   split at hv
   ·rename_i hsz
    simp only [AV.t.injEq,Ty.sl.injEq] at hv
    obtain ⟨rfl,rfl,hv⟩:=hv
    obtain rfl:=eq_of_heq hv
    rcases (A0R I ho).2 with ⟨⟨B,e1⟩,rfl⟩ | ⟨cap', e1,e2⟩
    ·rw [e1,Value.slice.injEq] at hvv
     obtain ⟨rfl,rfl,rfl⟩:=hvv
     obtain rfl:n=0:=by omega
     exact ⟨B,0,[],rfl,by simp,by simpa using A0D⟩
    ·rw [e1,Value.slice.injEq] at hvv
     obtain ⟨rfl,rfl,rfl⟩:=hvv
     have hlen:(l'.take n).length=n:=by simp;omega
     by_cases hne:l'=[]
     ·subst hne
      obtain rfl:n=0:=by simpa using hn
      exact ⟨some ⟨η.ι id,0,none⟩,cap', [],rfl,by simp,by simpa using A0D⟩
     ·obtain ⟨cap2,q1,q2,q3⟩:=A2o I ho hne
      obtain ⟨news,hr⟩:=A2e (ad:=⟨η.ι id,0,none⟩) (l:=l'.take n) (e:=e') (fr:=fr') (η:=η) (w:=w) (fun i x hx=>by
       have hx':l'[i]? = some x:=by
        rw [List.getElem?_take] at hx
        split at hx
        ·exact hx
        ·cases hx
       exact Lay.congr e' x _ _ (fun j _=>by rw [E3,Nat.zero_add]) (q3 _ x hx'))
      exact ⟨some ⟨η.ι id,0,none⟩,cap', news,by rw [hlen],by rw [hlen];exact hc,hr⟩
   ·cases hv
  ·cases hv
 | raw v=>simp [B2] at hv
 | ptr=>simp [B2] at hv
 | rop=>simp [B2] at hv
 | agg=>simp [B2] at hv
 | tup=>simp [B2] at hv
 | fn=>simp [B2] at hv
 | junk=>simp [B2] at hv

theorem A1V {H:List AObj} (I:Inv N w0 η H w) {x:AV} {v:Value} (r:AVR η H.length w x v) {f:Bool} {e:Ty} {l:List e.den} (hv:e.sl.ofAVs [B2 H x]=some (l,f,[])):∃ A c news,v=.slice A l.length c∧l.length≤c∧Reads η w f e l A news:=by
 generalize hx:B2 H x=y at hv
 match y,hv with
 | .t fr (.sl e') z,hv =>
  simp only [Ty.ofAVs] at hv
  split at hv
  ·rename_i he;subst he
   simp only [Option.some.injEq,Prod.mk.injEq] at hv
   obtain ⟨rfl,rfl,_⟩:=hv
   exact A0x I r hx
  ·cases hv
 | .raw (.slice A 0 c0),hv =>
  simp only [Ty.ofAVs,Option.some.injEq,Prod.mk.injEq] at hv
  obtain ⟨rfl,rfl,_⟩:=hv
  cases r with
  | raw v =>
   simp only [B2,AV.raw.injEq] at hx
   subst hx
   exact ⟨A,c0,[],rfl,Nat.zero_le _,A0D⟩
  | all hid=>simp only [B2] at hx;split at hx<;>(try split at hx)<;>cases hx
  | arr=>simp only [B2] at hx;split at hx<;>(try split at hx)<;>cases hx
  | pre=>simp only [B2] at hx;split at hx<;>(try split at hx)<;>cases hx
  | t=>simp [B2] at hx
  | ptr=>simp [B2] at hx
  | rop=>simp [B2] at hx
  | agg=>simp [B2] at hx
  | tup=>simp [B2] at hx
  | fn=>simp [B2] at hx
  | junk=>simp [B2] at hx

theorem A0s {t ty E:TypeId} {d:TD} (ht:P.underlying t=some (.slice E)) (td:TDok P E d) {b:Option Addr} {n cap:Nat} (hn:n≤cap) {A:Option Addr} {c:Nat} :
  (Builtin.append_ #[t,t] ty #[.slice b n cap,.slice A 0 c]).run P w=.ok (.slice b n cap) w:=by
 have h1:(Builtin.firstCells d.size 0 (.slice A 0 c)).run P w=.ok #[] w:=by
  cases A<;>simp [Builtin.firstCells,loadCells,loadCellsFrom]
 have hu:=run_underlying ht w
 have hs:=C7 td w
 cases b<;>simp [Builtin.append_,hu,hs,Builtin.lenOf,hn,h1,storeCells]

theorem A26 {t ty E:TypeId} {i:TypeInfo} {z:Value} (ht:P.underlying t=some (.slice E)) (hi:P.info? E=some i) (hz:i.zero=some z) (b ad:Addr) {n c:Nat} {news:List Value} (hl:news.length=n*i.size) (hnews:∀ j v,news[j]? = some v→w.cell? (ad.add j)=some v)
  (h0:0<n) (h63:(n:Int)≤9223372036854775807) (h48:n*i.bytes≤281474976710656) :
  (Builtin.append_ #[t,t] ty #[.slice (some b) 0 0,.slice (some ad) n c]).run P w=(Builtin.append_ #[t,t] ty #[.slice none 0 0,.slice (some ad) n c]).run P w:=by
 rw [run_append_nil (P:=P) w t ty E i z ht hi hz ad n c news hl hnews h0 h63 h48,
  run_append_grow (P:=P) w t ty E i z ht hi hz b 0 0 [] (by simp) (fun j v hv=>by simp at hv) ad n c news hl hnews (by omega) (by omega) (by rw [Nat.zero_add,nextslicecap_zero h0];exact h48)]
 simp
theorem A1x {t ty E:TypeId} {d:TD} (ht:P.underlying t=some (.slice E)) (td:TDok P E d) {e:Ty} (hsz:e.cells=d.size) (hb:0<d.bytes) {v:Value} {n:Nat} {xs:List Value} (own:w.ownsRow 0 E e.cells v n xs)
  {fr:Bool} {l:List e.den} {A:Option Addr} {c:Nat} {news:List Value} (hr:Reads η w fr e l A news) (hlim:(n+l.length)*d.bytes≤MAXB) :
  ∃ v' w', (Builtin.append_ #[t,t] ty #[v,.slice A l.length c]).run P w=.ok v' w'∧w'.ownsRow 0 E e.cells v' (n+l.length) (xs++news)∧w.grownBy w' v.ownBlock∧(v'.ownBlock=v.ownBlock∨v'.ownBlock=some w.heap.size):=by
 obtain ⟨i,h1,h2,h3,z,h4,h5,_⟩:=td.ex
 cases A with
 | some ad =>
  have hm:n+l.length≤maxLen:=by
   have:(n+l.length)*1≤(n+l.length)*d.bytes:=Nat.mul_le_mul_left _ hb
   simp only [MAXB] at hlim;simp only [maxLen];omega
  obtain ⟨v', w', q1,q2,q3,q4,q5⟩:=run_append_own_at (P:=P) w 0 t ty E i z e.cells d.bytes ht h1 h4 (by omega) h3 (by rw [hsz,← Array.length_toList,h5,td.len]) e.cells_pos v n xs own ad l.length c news hr.len (hr.at_ ad rfl) hr.one hm hlim (Nat.zero_le _)
  exact ⟨v', w', q1,q2,q3,q5⟩
 | none =>
  obtain rfl:=hr.some_ rfl
  have hn0:news=[]:=List.eq_nil_of_length_eq_zero (by simpa using hr.len)
  subst hn0
  refine ⟨v,w,?_,by simpa using own,⟨rfl,rfl,rfl,Nat.le_refl _,fun _ _ _=>rfl⟩,.inl rfl⟩
  rcases own.2 with ⟨rfl,rfl⟩ | ⟨g,cap,cur,rfl,_,_,hnc,_⟩
  ·exact A0s ht td (Nat.le_refl _)
  ·exact A0s ht td hnc

theorem A1G {t ty E:TypeId} {d:TD} (ht:P.underlying t=some (.slice E)) (td:TDok P E d) {e:Ty} (hsz:e.cells=d.size) (hb:0<d.bytes) {v:Value} {n:Nat} {xs:List Value} (own:ownR w E e.cells v n xs)
  {fr:Bool} {l:List e.den} {A:Option Addr} {c:Nat} {news:List Value} (hr:Reads η w fr e l A news) (hlim:(n+l.length)*d.bytes≤MAXB) :
  ∃ v' w', (Builtin.append_ #[t,t] ty #[v,.slice A l.length c]).run P w=.ok v' w'∧ownR w' E e.cells v' (n+l.length) (xs++news)∧w.grownBy w' (blk v)∧(∀ g,blk v'=some g→blk v=some g∨g=w.heap.size):=by
 rcases own with ⟨own,hbk⟩ | ⟨⟨B,rfl⟩,rfl,rfl⟩
 ·obtain ⟨v', w', q1,q2,q3,q4⟩:=A1x (ty:=ty) (c:=c) ht td hsz hb own hr hlim
  refine ⟨v', w', q1,A2c q2,by rw [hbk];exact q3,fun g hg=>?_⟩
  rw [hbk]
  rcases q4 with q4 | q4
  ·exact .inl (by rw [← q4];exact A0E hg)
  ·right;have:=A0E hg;rw [q4] at this;exact (Option.some.inj this).symm
 ·have hkk:blk (.slice B 0 0)=none:=by cases B<;>rfl
  by_cases hl0:l=[]
  ·subst hl0
   have hn0:news=[]:=List.eq_nil_of_length_eq_zero (by simpa using hr.len)
   subst hn0
   exact ⟨_,w,A0s ht td (Nat.le_refl _),.inr ⟨⟨B,rfl⟩,rfl,rfl⟩,⟨rfl,rfl,rfl,Nat.le_refl _,fun _ _ _=>rfl⟩,fun g hg=>.inl hg⟩
  ·obtain ⟨v', w', q1,q2,q3,q4⟩:=A1x (v:=.slice none 0 0) (n:=0) (xs:=[]) (ty:=ty) (c:=c) ht td hsz hb (World.ownsRow_nil w 0 E e.cells) hr hlim
   have e:(Builtin.append_ #[t,t] ty #[.slice B 0 0,.slice A l.length c]).run P w=(Builtin.append_ #[t,t] ty #[.slice none 0 0,.slice A l.length c]).run P w:=by
    cases B with
    | none=>rfl
    | some b =>
     obtain ⟨i,h1,h2,h3,z,h4,h5,_⟩:=td.ex
     cases A with
     | none=>exact absurd (hr.some_ rfl) hl0
     | some ad =>
      have hpos:0<l.length:=List.length_pos_iff.2 hl0
      have hle:l.length*1≤l.length*d.bytes:=Nat.mul_le_mul_left _ hb
      simp only [Nat.zero_add,MAXB] at hlim
      exact A26 ht h1 h4 b ad (by rw [hr.len,h2,hsz]) (hr.at_ ad rfl) hpos (by omega) (by rw [h3];omega)
   refine ⟨v', w', by rw [e];exact q1,A2c q2,by rw [hkk];exact q3,fun g hg=>?_⟩
   rcases q4 with q4 | q4
   ·have:=A0E hg;rw [q4] at this;simp [Value.ownBlock] at this
   ·right;have:=A0E hg;rw [q4] at this;exact (Option.some.inj this).symm

theorem E8 {c:Call} (hcal:c.callee=.builtin .append) {sx x:Operand} {t u:TypeId} (hx:c.args.toList=[sx,x]) (ht:c.argTypes.toList=[t,u]) (ho:o.op=.call c) {v':Value} {w':World}
  (h:(Builtin.append_ #[t,u] o.type #[a.eval sx,a.eval x]).run P w=.ok v' w'):(execOp a.eval o).run P w=.ok (.value v') w':=by
 have ea:c.args=#[sx,x]:=by rw [← Array.toArray_toList (xs:=c.args),hx]
 have et:c.argTypes=#[t,u]:=by rw [← Array.toArray_toList (xs:=c.argTypes),ht]
 simp [execOp,ho,resolve,hcal,ea,et,invoke,builtin,h]

theorem A5K {Z:Bool→Nat→Prop} {w:World} {f:Bool} {e:Ty} {x:e.den} {c:Nat→Option Value} (h:Lay (Z f) w e x c):Lay (Z (f||e.flat)) w e x c:=by
 cases hf:e.flat with
 | false=>simpa using h
 | true=>exact Lay.of_flat e x _ hf h
theorem A5m (hT:TTok P tt) (s:SR N w0 η0 h0 we η st a w) {c:Call} (ho:o.op=.call c) (hcal:c.callee=.builtin .append) {sx x:Operand} {t:TypeId} (hx:c.args.toList=[sx,x]) (ht:c.argTypes.toList=[t,t])
  {E:TypeId} {d:TD} (he:B7 tt t=some (E,d)) {e:Ty} {ys:List e.den} {f:Bool} (hv:e.sl.ofAVs [B2 st.heap (st.ev x)]=some (ys,f,[])) {id:Nat} (hs:st.ev sx=.all id e.cells) {fr:Bool} {l:List e.den}
  (hob:st.heap[id]? = some (.rows E fr e l)) (hsz:e.cells=d.size) (hb:0<d.bytes) (hlim:(l.length+ys.length)*d.bytes≤MAXB)
  (hk:K (.all id e.cells) { (st.kill [id]) with heap:=(st.kill [id]).heap.set id (.rows E (fr&&(f||e.flat)) e (l++ys)) }=some r) (hp:Post N w0 η0 h0 we K r o a next):o.wp P a w next Q:=by
 obtain ⟨hu,td⟩:=C9 hT he
 obtain ⟨A,cp,news,e1,e2,hr⟩:=A1V s.inv (s.ev x) hv
 obtain ⟨xs,o1,o2,o3⟩:=A2d s.inv hob
 have hsv:=s.ev sx
 rw [hs] at hsv
 generalize hg:a.eval sx=u at hsv
 cases hsv with
 | all hid =>
  obtain ⟨v', w', q1,q2,q3,q4⟩:=A1G (c:=cp) (ty:=o.type) hu td hsz hb o1 hr hlim
  obtain ⟨η', s', ra⟩:=s.append (f:=f||e.flat) hob o1 o2 o3 (fun i y hy=>A5K (hr.lay i y hy)) q2 q3 q4
  refine A6 (E8 hcal hx ht ho (by rw [hg,e1];exact q1)) (hp _ _ _ _ _ hk s' ?_)
  have:({ (st.kill [id]) with heap:=(st.kill [id]).heap.set id (.rows E (fr&&(f||e.flat)) e (l++ys)) }:St).heap.length=st.heap.length:=by simp [St.kill]
  rw [this];exact ra

theorem SR.adoptRows (s:SR N w0 η0 h0 we η st a w) {E:TypeId} {f:Bool} {e:Ty} {l:List e.den} {v:Value} {xs:List Value} (own:ownR w E e.cells v l.length xs) (hl:∀ i x,l[i]? = some x→Lay (η.Z f) w e x (fun j=>xs[i*e.cells+j]?))
  (hf:∀ g,blk v=some g→¬ N g∧¬ η.Z false g∧∀ id o,st.heap[id]? = some o→o.mat η id→η.ι id ≠ g) :
  ∃ η', SR N w0 η0 h0 we η' (st.new (.rows E f e l)) a w∧AVR η' (st.new (.rows E f e l)).heap.length w (.all st.heap.length e.cells) v∧Ext NoK η st.heap.length w η' (st.new (.rows E f e l)).heap.length w∧η'.Z=η.Z∧η'.ι st.heap.length=(blk v).getD 0:=by
 have hv:∃ A n c,v=.slice A n c:=own.isSl
 let b:=(blk v).getD 0
 have x:=Ext.upd η st.heap.length w b v l.length
 have I':=s.inv.adopt (.rows E f e l) b v l.length hv (fun x=>A2g (v:=v) (xs:=xs) own (by simp [Env.upd]) (by simp [Env.upd]) (fun g hg=>by simp [Env.upd,b,hg]) hl) (fun hm=>by
  simp only [AObj.mat,Env.upd,if_true] at hm
  obtain ⟨g,hg⟩:=own.mat hm
  have hb:b=g:=by simp [b,hg]
  rw [hb]
  obtain ⟨q1,q2,q3⟩:=hf g hg
  exact ⟨q1,q2,own.lt hg,q3⟩)
 have el:(st.new (.rows E f e l)).heap.length=st.heap.length+1:=by simp [St.new]
 refine ⟨η.upd st.heap.length b v l.length,⟨I', ?_,?_,s.base⟩,?_,?_,rfl,by simp [Env.upd,b]⟩
 ·rw [el];exact s.ext.trans x (fun id _ hk=>⟨hk,rfl⟩)
 ·rw [el];exact s.sl.ext x
 ·have:=@AVR.all (η.upd st.heap.length b v l.length) (st.new (.rows E f e l)).heap.length w st.heap.length e.cells (by rw [el];omega)
  have e2:(η.upd st.heap.length b v l.length).hv st.heap.length=v:=by simp [Env.upd]
  rwa [e2] at this
 ·rw [el];exact x

theorem SR.grow (s:SR N w0 η0 h0 we η st a w) {w':World} (b:Below w.heap.size w w'):SR N w0 η0 h0 we η st a w'∧Ext NoK η st.heap.length w η st.heap.length w':=by
 obtain ⟨I,x⟩:=s.inv.grow b
 exact ⟨⟨I,s.ext.trans (x _) (fun id _ hk=>⟨hk,rfl⟩),s.sl.ext (x _),s.base⟩,x _⟩

theorem A3n (hT:TTok P tt) (s:SR N w0 η0 h0 we η st a w) {c:Call} (ho:o.op=.call c) (hcal:c.callee=.builtin .append) {sx x:Operand} {t:TypeId} (hx:c.args.toList=[sx,x]) (ht:c.argTypes.toList=[t,t])
  {E:TypeId} {d:TD} (he:B7 tt t=some (E,d)) {e:Ty} {ys:List e.den} {f:Bool} (hv:e.sl.ofAVs [B2 st.heap (st.ev x)]=some (ys,f,[])) (hs:st.ev sx=.raw (.slice none 0 0))
  (hsz:e.cells=d.size) (hb:0<d.bytes) (hlim:ys.length*d.bytes≤MAXB)
  (hk:K (.all st.heap.length e.cells) (st.new (.rows E (f||e.flat) e ys))=some r) (hp:Post N w0 η0 h0 we K r o a next):o.wp P a w next Q:=by
 obtain ⟨hu,td⟩:=C9 hT he
 obtain ⟨A,cp,news,e1,e2,hr⟩:=A1V s.inv (s.ev x) hv
 have hsv:=s.ev sx
 rw [hs] at hsv
 generalize hg:a.eval sx=u at hsv
 cases hsv with
 | raw =>
  obtain ⟨v', w', q1,q2,q3,q4⟩:=A1G (c:=cp) (ty:=o.type) hu td hsz hb (A2b w E e.cells) hr (by simpa using hlim)
  have bl:Below w.heap.size w w':=⟨q3.os,q3.tape,q3.output,q3.size,fun k hk=>q3.block k hk (by simp [blk])⟩
  obtain ⟨s1,x1⟩:=s.grow bl
  obtain ⟨η', s', ra,_⟩:=s1.adoptRows (E:=E) (f:=f||e.flat) (l:=ys) (v:=v') (xs:=news) (by simpa using q2) (fun i y hy=>A7 x1.z x1.same (A5K (hr.lay i y hy))) (fun g hgb=>by
   rcases q4 g hgb with q4 | rfl
   ·simp [blk] at q4
   ·exact ⟨fun hn=>by have:=s.inv.lt hn;omega,fun hz=>by have:=s.inv.zlt _ _ hz;omega,fun id ob hob hm e=>by have:=(s.inv.own id ob hob hm).2.2;omega⟩)
  exact A6 (E8 hcal hx ht ho (by rw [hg,e1];exact q1)) (hp _ _ _ _ _ hk s' ra)
end
end Go.Proofs.YtcofibhklbfgoaaGreat.Eng
