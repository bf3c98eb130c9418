/- The engine, part 9: freezing, stores, literals, cuts. -/
import Derived.Test.YtccelbeahdcooaaE8
namespace Go.Proofs.Ytccelbeahdcooaa.Eng
open Go Go.RowKit
set_option linter.unusedSimpArgs false
set_option linter.unusedVariables false

section
variable {P:Program} {N:Nat→Prop} {w0:World} {η0:Env} {h0:Nat} {we:World} {R:Type}
variable {η:Env} {st:St} {a:Act} {w:World} {o:Oper} {next:Act→World→Prop} {Q:Exit→Act→World→Prop} {K:AV→St→Option R} {r:R} {tt:TT} {S:Tab}

def Env.freeze (η:Env) (id:Nat):Env:={ η with Z:=fun f b=>η.Z f b∨(b=η.ι id∧¬ nulV (η.hv id)) }

theorem Inv.freeze {H:List AObj} (I:Inv N w0 η H w) {id:Nat} {E:TypeId} {fr:Bool} {e:Ty} {l:List e.den} (ho:H[id]? = some (.rows E fr e l)) :
  Inv N w0 (η.freeze id) (H.set id .dead) w∧(∀ h,Ext NoK η h w (η.freeze id) h w)∧∀ h,AVR (η.freeze id) h w (.t fr (.sl e) l) (η.hv id):=by
 have x:∀ h,Ext NoK η h w (η.freeze id) h w:=fun h=>⟨fun _ hi _=>⟨hi,rfl,rfl,rfl⟩,fun _ _ hz=>.inl hz,fun _ _ _=>rfl,fun _ h=>h.imp (fun h=>h) .inr,fun _ _ _=>rfl⟩
 have hown:¬ nulV (η.hv id)→¬ N (η.ι id)∧¬ η.Z false (η.ι id)∧η.ι id<w.heap.size:=fun hne=>I.own id _ ho hne
 refine ⟨⟨I.nlt,I.fr,?_,?_,?_,I.hvs,fun i y hy=>?_,fun i y hy hm=>?_,fun i j y z hy hz my mz he=>?_,fun b k hb=>?_,I.nvs⟩,x,fun h=>?_⟩
 ·rintro f b (hb | ⟨rfl,hne⟩)
  ·exact I.zlt f b hb
  ·exact (hown hne).2.2
 ·rintro b (hb | hb)
  ·exact .inl (I.zsub b hb)
  ·exact .inr hb
 ·rintro b (hb | ⟨rfl,hne⟩)
  ·exact I.znew b hb
  ·exact (hown hne).1
 ·rw [List.length_set]
  rcases set_some hy with ⟨rfl,_,rfl⟩ | ⟨hne,hy⟩
  ·trivial
  ·exact (I.obj i y hy).mono (x _) (List.getElem?_eq_some_iff.1 hy).1 (fun _=>rfl) ⟨trivial,fun b r q hb=>⟨hb,rfl⟩⟩
 ·rcases set_some hy with ⟨rfl,_,rfl⟩ | ⟨hne,hy⟩
  ·exact hm.elim
  ·have hm':y.mat η i:=hm
   obtain ⟨a1,a2,a3⟩:=I.own i y hy hm'
   refine ⟨a1,?_,a3⟩
   rintro (hb | ⟨hb,hnil⟩)
   ·exact a2 hb
   ·exact hne (I.inj i id y _ hy ho hm' hnil hb)
 ·rcases set_some hy with ⟨rfl,_,rfl⟩ | ⟨hne,hy⟩
  ·exact my.elim
  ·rcases set_some hz with ⟨rfl,_,rfl⟩ | ⟨hne', hz⟩
   ·exact mz.elim
   ·exact I.inj i j y z hy hz my mz he
 ·obtain ⟨d1,d2,d3,d4⟩:=I.dep b k hb
  refine ⟨d1,?_,d3,fun i y hy hm=>?_⟩
  ·rintro (hz | ⟨he,hnil⟩)
   ·exact d2 hz
   ·exact d4 id _ ho hnil he.symm
  ·rcases set_some hy with ⟨rfl,_,rfl⟩ | ⟨hne,hy⟩
   ·exact hm.elim
   ·exact d4 i y hy hm
 ·obtain ⟨g1,g2⟩:=I.obj id _ ho
  refine .t rfl ?_
  rcases g2 with ⟨⟨B,g2⟩,rfl⟩ | ⟨c,cap,q1,q2,q3,q4,q5,q6⟩
  ·exact ⟨B,0,by simp [g2],Nat.le_refl _,.inl rfl⟩
  ·refine ⟨_,cap,by simp [q1];rfl,q3,.inr ⟨_,rfl,.inr ⟨rfl,not_nul q1 q4.1⟩,fun i y hy=>?_⟩⟩
   refine lay_cell_mono (x h).z (x h).same (Lay.congr e y _ _ (fun j _=>?_) (q6 i y hy))
   rw [addr_at,cell_block q2,Nat.zero_add]

theorem Inv.freezeArr {H:List AObj} (I:Inv N w0 η H w) {id:Nat} {E:TypeId} {fr:Bool} {e:Ty} {l:List e.den} (ho:H[id]? = some (.rows E fr e l)) {sz lo n:Nat} (hsz:e.cells=sz) {v:Value} (r:AVR η H.length w (.arr id sz lo n) v) :
  ∀ h,AVR (η.freeze id) h w (.t fr (.sl e) ((l.drop lo).take n)) v:=by
 intro h
 obtain ⟨J,x,ra⟩:=I.freeze ho
 cases r with
 | @arr _ _ _ _ cap A hid hn hlo hA =>
  obtain ⟨g1,g2⟩:=I.obj id _ ho
  have hlen:((l.drop lo).take n).length=n:=by simp;omega
  refine .t rfl ⟨A,cap,by simp [hlen],by rw [hlen];exact hn,?_⟩
  by_cases h0:n=0
  ·subst h0;exact .inl (by simp)
  ·right
   obtain rfl:=hA (by omega)
   rcases g2 with ⟨g2,rfl⟩ | ⟨c,cp,q1,q2,q3,q4,q5,q6⟩
   ·simp at g1;omega
   ·refine ⟨_,rfl,.inr ⟨rfl,not_nul q1 q4.1⟩,fun i y hy=>?_⟩
    obtain ⟨z1,z2⟩:=take_drop_get hy
    refine lay_cell_mono (x h).z (x h).same (Lay.congr e y _ _ (fun j _=>?_) (q6 _ y z2))
    rw [addr_at,cell_block q2]
    congr 1;rw [Nat.add_mul,hsz];omega

theorem Inv.freezePre {H:List AObj} (I:Inv N w0 η H w) {id:Nat} {E:TypeId} {fr:Bool} {e:Ty} {l:List e.den} (ho:H[id]? = some (.rows E fr e l)) {sz n:Nat} (hsz:e.cells=sz) {v:Value} (r:AVR η H.length w (.pre id sz n) v) :
  ∀ h,AVR (η.freeze id) h w (.t fr (.sl e) (l.take n)) v:=by
 intro h
 obtain ⟨J,x,ra⟩:=I.freeze ho
 cases r with
 | @pre _ _ _ m cap A hid hv hn hc =>
  obtain ⟨g1,g2⟩:=I.obj id _ ho
  rcases g2 with ⟨⟨B,g2⟩,rfl⟩ | ⟨c,cp,q1,q2,q3,q4,q5,q6⟩
  ·rw [g2,Value.slice.injEq] at hv
   obtain ⟨rfl,rfl,rfl⟩:=hv
   obtain rfl:n=0:=by omega
   exact .t rfl ⟨B,0,by simp,by simp,.inl (by simp)⟩
  ·rw [q1,Value.slice.injEq] at hv
   obtain ⟨rfl,rfl,rfl⟩:=hv
   have hlen:(l.take n).length=n:=by simp;omega
   refine .t rfl ⟨some ⟨η.ι id,0,none⟩,cp,by simp [hlen],by rw [hlen];exact hc,.inr ⟨_,rfl,.inr ⟨rfl,not_nul q1 q4.1⟩,fun i y hy=>?_⟩⟩
   have hy':l[i]? = some y:=by
    rw [List.getElem?_take] at hy
    split at hy
    ·exact hy
    ·cases hy
   refine lay_cell_mono (x h).z (x h).same (Lay.congr e y _ _ (fun j _=>?_) (q6 i y hy'))
   rw [addr_at,cell_block q2,Nat.zero_add]

theorem SR.freeze1 [DF] (s:SR N w0 η0 h0 we η st a w) (c:AV) :
  ∃ η', SR N w0 η0 h0 we η' (st.freeze1 c).2 a w∧Ext NoK η st.heap.length w η' (st.freeze1 c).2.heap.length w∧(∀ v,AVR η st.heap.length w c v→AVR η' (st.freeze1 c).2.heap.length w (st.freeze1 c).1 v)∧(st.freeze1 c).2.heap.length=st.heap.length:=by
 have triv:∃ η', SR N w0 η0 h0 we η' st a w∧Ext NoK η st.heap.length w η' st.heap.length w∧(∀ v,AVR η st.heap.length w c v→AVR η' st.heap.length w c v)∧st.heap.length=st.heap.length:=⟨η,s,Ext.refl,fun _ h=>h,rfl⟩
 cases c with
 | all id sz =>
  simp only [St.freeze1]
  split
  ·rename_i E fr e l ho
   split
   ·rename_i hsz
    obtain ⟨J,x,ra⟩:=s.inv.freeze ho
    refine ⟨η.freeze id,⟨J,?_,?_,s.base⟩,?_,fun v hv=>?_,by simp⟩
    ·simp only [List.length_set];exact s.ext.trans (x _) (fun id _ hk=>⟨hk,rfl⟩)
    ·simp only [List.length_set];exact s.sl.ext (x _)
    ·simp only [List.length_set];exact x _
    ·cases hv with
     | all hid=>exact ra _
   ·exact triv
  ·exact triv
 | arr id sz lo n =>
  simp only [St.freeze1]
  split
  ·rename_i E fr e l ho
   split
   ·rename_i hsz
    obtain ⟨J,x,_⟩:=s.inv.freeze ho
    refine ⟨η.freeze id,⟨J,?_,?_,s.base⟩,?_,fun v hv=>?_,by simp⟩
    ·simp only [List.length_set];exact s.ext.trans (x _) (fun id _ hk=>⟨hk,rfl⟩)
    ·simp only [List.length_set];exact s.sl.ext (x _)
    ·simp only [List.length_set];exact x _
    ·exact s.inv.freezeArr ho hsz hv _
   ·exact triv
  ·exact triv
 | pre id sz n =>
  simp only [St.freeze1]
  split
  ·rename_i E fr e l ho
   split
   ·rename_i hsz
    obtain ⟨J,x,_⟩:=s.inv.freeze ho
    refine ⟨η.freeze id,⟨J,?_,?_,s.base⟩,?_,fun v hv=>?_,by simp⟩
    ·simp only [List.length_set];exact s.ext.trans (x _) (fun id _ hk=>⟨hk,rfl⟩)
    ·simp only [List.length_set];exact s.sl.ext (x _)
    ·simp only [List.length_set];exact x _
    ·exact s.inv.freezePre ho hsz hv _
   ·exact triv
  ·exact triv
 | _=>exact triv

theorem SR.freezeL [DF]:∀ (cs:List AV) (st:St) (η:Env),SR N w0 η0 h0 we η st a w →
  ∃ η', SR N w0 η0 h0 we η' (St.freezeL cs st).2 a w∧Ext NoK η st.heap.length w η' (St.freezeL cs st).2.heap.length w∧(St.freezeL cs st).1.length=cs.length∧(St.freezeL cs st).2.heap.length=st.heap.length ∧
   ∀ (f:Nat→Value),(∀ j c,cs[j]? = some c→AVR η st.heap.length w c (f j))→∀ j c,(St.freezeL cs st).1[j]? = some c→AVR η' (St.freezeL cs st).2.heap.length w c (f j):=by
 intro cs
 induction cs with
 | nil=>intro st η s;exact ⟨η,s,Ext.refl,rfl,rfl,fun f _ j c hj=>by simp [St.freezeL] at hj⟩
 | cons c r ih =>
  intro st η s
  obtain ⟨η1,s1,x1,r1,l1⟩:=s.freeze1 c
  obtain ⟨η2,s2,x2,l2,l3,r2⟩:=ih _ η1 s1
  refine ⟨η2,s2,x1.trans x2 (fun _ _ _=>⟨rfl,rfl⟩),by simp [St.freezeL,l2],by simp only [St.freezeL];rw [l3,l1],fun f hf j y hj=>?_⟩
  simp only [St.freezeL] at hj ⊢
  cases j with
  | zero =>
   obtain rfl:(st.freeze1 c).1=y:=by simpa using hj
   exact (r1 _ (hf 0 c rfl)).ext x2
  | succ j =>
   have hj':(St.freezeL r (st.freeze1 c).2).1[j]? = some y:=by simpa using hj
   exact r2 (fun j=>f (j+1)) (fun j d hd=>(hf (j+1) d hd).ext x1) j y hj'

theorem run_storeVar' {t:TypeId} {d:TD} (td:TDok P t d) {ad:Addr} {v:Value} {w':World} (hs:v.cells.size=d.size) (h:(storeCells ad v.cells.toList).run P w=.ok () w'):(storeVar t ad v).run P w=.ok () w':=by
 simp [storeVar,run_sizeOf' td,hs,h]

theorem op_store [DF] (hT:TTok P tt) (s:SR N w0 η0 h0 we η st a w) {t:TypeId} {x y:Operand} (ho:o.op=.store t x y) {d:TD} (hd:tt t=some d) (hlen:(st.ev y).cells.length=d.size) (hall:(st.ev y).cells.all AV.isCell=true)
    {st':St} (hw:(∃ id row sz sub,st.ev x=.ptr id row sz sub∧((St.freezeL (st.ev y).cells st).2.write (.ptr id row sz sub) (St.freezeL (st.ev y).cells st).1=some st'∨st.write (.ptr id row sz sub) (st.ev y).cells=some st')))
    (hk:K (.raw undef) st'=some r) (hp:Post N w0 η0 h0 we K r o a next):o.wp P a w next Q:=by
  have td:=hT t d hd
  obtain ⟨id,row,sz,sub,ex,hw⟩:=hw
  obtain ⟨c1,c2⟩:=cells_rel s.inv.hvs (s.ev y) hall
  have hx:=s.ev x
  rw [ex] at hx
  have fin : ∀ (st1 : St) (η1 : Env) (cs : List AV), SR N w0 η0 h0 we η1 st1 a w → Ext NoK η st.heap.length w η1 st1.heap.length w → cs.length = (st.ev y).cells.length →
      (∀ j c,cs[j]? = some c→AVR η1 st1.heap.length w c ((a.eval y).cells.getD j undef))→st1.write (.ptr id row sz sub) cs=some st'→o.wp P a w next Q:=by
    intro st1 η1 cs s1 x1 hl hr hwr
    obtain ⟨ad,w', e1,e2,e3,e4,e5,e6,e7,e8⟩:=write_rel (P:=P) (S:=st1.slots) (bs:=st1.base) (kl:=st1.killed) (us:=(a.eval y).cells.toList) s1.inv hwr (hx.ext x1) (by simp;omega)
      (fun j c hj=>by have:=hr j c hj;simpa [List.getD_eq_getElem?_getD,Array.getD_eq_getD_getElem?] using this) (fun u hu=>by
        obtain ⟨j,hj⟩:=List.mem_iff_getElem?.1 hu
        have hjl:j<(st.ev y).cells.length:=by rw [← c1];have:=(List.getElem?_eq_some_iff.1 hj).1;simpa using this
        have h2:=(c2 j _ (List.getElem?_eq_getElem hjl)).2
        rw [getD_some (by rw [← Array.getElem?_toList];exact hj)] at h2;exact h2)
    refine wp_skip' (w':=w') ?_ (hp _ _ η1 w' undef hk ⟨e3,?_,?_,by rw [e8];exact s1.base⟩ (.raw _))
    · have:=run_storeVar' td (by rw [c1,hlen]) e2
      simp [execOp,ho,e1,Instr.storeAt,Instr.sureAddr,this]
    · rw [e6,e7];exact s1.ext.trans (e4 _) (fun id _ hk=>⟨hk,rfl⟩)
    · rw [e5,e7];exact s1.sl.ext (e4 _)
  rcases hw with hw | hw
  · obtain ⟨η1,s1,x1,l1,l2,r1⟩:=SR.freezeL (st.ev y).cells st η s
    exact fin _ η1 _ s1 x1 l1 (r1 (fun j=>(a.eval y).cells.getD j undef) (fun j c hj=>(c2 j c hj).1)) hw
  · exact fin st η _ s Ext.refl rfl (fun j c hj=>(c2 j c hj).1) hw

theorem op_storeArr [DF] (hT:TTok P tt) (s:SR N w0 η0 h0 we η st a w) {t:TypeId} {x y:Operand} (ho:o.op=.store t x y) {d:TD} (hd:tt t=some d) (hlen:(st.ev y).cells.length=d.size) (hall:(st.ev y).cells.all AV.isCell=true)
  {b:Bool} {st':St} (hw:arrStore tt d st (st.ev y).cells (st.ev x)=some (b,st')) (hk:cond b (K (.raw undef) st') none=some r) (hp:Post N w0 η0 h0 we K r o a next):o.wp P a w next Q:=by
 have td:=hT t d hd
 obtain ⟨rfl,hk⟩:=cond_none hk
 obtain ⟨c1,c2⟩:=cells_rel s.inv.hvs (s.ev y) hall
 unfold arrStore at hw
 split at hw
 ·rename_i id hx
  split at hw
  ·rename_i E fr k' l k hob hak
   split at hw
   ·rename_i hkk
    obtain ⟨l', hl', hw⟩:=Option.map_eq_some_iff.1 hw
    simp only [Prod.mk.injEq,decide_eq_true_eq] at hw
    obtain ⟨hll,rfl⟩:=hw
    have hr:=s.ev x
    rw [hx] at hr
    obtain ⟨hid,e1,hln,h0,c,cap,g1,g2,g3,g4,g5,g6⟩:=arr_rel s.inv hr hob
    obtain ⟨m1,m2⟩:=intRow_rel _ _ hl'
    have hul:(a.eval y).cells.size=l'.length:=by rw [c1,m1]
    have hone:∀ u∈(a.eval y).cells.toList,u.oneCell'=true:=fun u hu=>by
     obtain ⟨j,hj⟩:=List.mem_iff_getElem?.1 hu
     have hjl:j<(st.ev y).cells.length:=by rw [← c1];have:=(List.getElem?_eq_some_iff.1 hj).1;simpa using this
     have h2:=(c2 j _ (List.getElem?_eq_getElem hjl)).2
     rw [getD_some (by rw [← Array.getElem?_toList];exact hj)] at h2;exact h2
    have hfit:0+(a.eval y).cells.toList.length≤c.size:=by rw [Array.length_toList,hul,g5];omega
    have hrun:=run_storeCells_at P (η.ι id) 0 E (a.eval y).cells.toList 0 c w g2 (by omega) hone
    have J:=s.inv.setRow (o:=.rows E fr (.int k') l) (o':=.rows E fr (.int k') l') hob (not_nul g1 g4.1)
     (c.toList.take (0+0)++(a.eval y).cells.toList++c.toList.drop (0+0+(a.eval y).cells.toList.length)).toArray ?_ (fun η' h hm=>hm)
    ·obtain ⟨J1,J2⟩:=J
     refine wp_skip' (w':=w.setRow (η.ι id) _) ?_ (hp _ _ η _ undef hk ⟨J1,?_,?_,s.base⟩ (.raw _))
     ·have:=run_storeVar' td (by rw [c1,hlen]) hrun
      simp [execOp,ho,e1,Instr.storeAt,Instr.sureAddr,this]
     ·have e2:(st.heap.set id (.rows E fr (.int k') l')).length=st.heap.length:=by simp
      show Ext _ _ _ _ _ (st.heap.set id (.rows E fr (.int k') l')).length _
      rw [e2];exact s.ext.trans (J2 _) (fun id _ hk=>⟨hk,rfl⟩)
     ·have e2:(st.heap.set id (.rows E fr (.int k') l')).length=st.heap.length:=by simp
      show SlotsR _ (st.heap.set id (.rows E fr (.int k') l')).length _ _ _
      rw [e2];exact s.sl.ext (J2 _)
    ·intro xx
     have hcell:∀ q,(c.toList.take (0+0)++(a.eval y).cells.toList++c.toList.drop (0+0+(a.eval y).cells.toList.length)).toArray[q]? = if q<0 then c[q]? else if q<0+(a.eval y).cells.toList.length then (a.eval y).cells.toList[q - 0]? else c[q]?:=seg_cells hfit
     refine ⟨by rw [hln,hll],.inr ⟨_,cap,by rw [g1,hll],setRow_heap w _ c _ E (0,0) g2,by omega,g4,?_,fun i z hz=>?_⟩⟩
     ·simp only [List.size_toArray,List.length_append,List.length_take,List.length_drop,Array.length_toList,Ty.cells,Nat.mul_one] at hfit ⊢
      omega
     ·obtain ⟨f2,h3⟩:=m2 i z hz
      have h4:=int_rel (c2 i _ h3).1
      have hlt:i<l'.length:=(List.getElem?_eq_some_iff.1 hz).1
      show (c.toList.take (0+0)++(a.eval y).cells.toList++c.toList.drop (0+0+(a.eval y).cells.toList.length)).toArray[i*1+0]? = some (.int k' z)
      rw [Nat.mul_one,hcell,if_neg (by omega),if_pos (by rw [Array.length_toList];omega),Nat.sub_zero,Array.getElem?_toList,Nat.add_zero,getElem?_getD (by omega),h4]
   ·cases hw
  ·cases hw
 ·cases hw

theorem op_storeOwn [DF] (hT:TTok P tt) (s:SR N w0 η0 h0 we η st a w) {t:TypeId} {x y:Operand} (ho:o.op=.store t x y) {d:TD} (hd:tt t=some d) (hlen:(st.ev y).cells.length=d.size) (hall:(st.ev y).cells.all AV.isCell=true)
  {st':St} {id row sz sub:Nat} (ex:st.ev x=.ptr id row sz sub) (hw:st.storeOwn id row sz sub (st.ev y).cells=some st')
  (hk:K (.raw undef) st'=some r) (hp:Post N w0 η0 h0 we K r o a next):o.wp P a w next Q:=by
 have td:=hT t d hd
 obtain ⟨c1,c2⟩:=cells_rel s.inv.hvs (s.ev y) hall
 have hx:=s.ev x
 rw [ex] at hx
 obtain ⟨ad,w', η', e1,e2,e3,e4,e5,e6,e7,e8,e9⟩:=storeOwn_rel (P:=P) s.inv hw hx (us:=(a.eval y).cells.toList) (by simp;omega)
  (fun j c hj=>by have:=(c2 j c hj).1;simpa [List.getD_eq_getElem?_getD,Array.getD_eq_getD_getElem?] using this) (fun u hu=>by
   obtain ⟨j,hj⟩:=List.mem_iff_getElem?.1 hu
   have hjl:j<(st.ev y).cells.length:=by rw [← c1];have:=(List.getElem?_eq_some_iff.1 hj).1;simpa using this
   have h2:=(c2 j _ (List.getElem?_eq_getElem hjl)).2
   rw [getD_some (by rw [← Array.getElem?_toList];exact hj)] at h2;exact h2)
 refine wp_skip' (w':=w') ?_ (hp _ _ η' w' undef hk ⟨e3,?_,⟨by rw [e6,List.length_map];exact s.sl.size,fun i c hc=>?_,s.sl.defers⟩,by rw [e8];exact s.base⟩ (.raw _))
 ·have:=run_storeVar' td (by rw [c1,hlen]) e2
  simp [execOp,ho,e1,Instr.storeAt,Instr.sureAddr,this]
 ·rw [e7]
  exact s.ext.trans e4 (fun i hi hk=>by
   obtain ⟨h1,h2⟩:=e9 i (by rw [s.base];exact hi) hk
   exact ⟨h1,by simpa using h2⟩)
 ·rw [e6] at hc
  rw [e7]
  obtain ⟨y,hy,rfl⟩:=getElem?_map_some hc
  exact e5 y _ (s.sl.slot i y hy)

theorem foldl_set (vs:Array Value) (off:Nat):∀ (n:Nat) (l:List Value) (k:Nat) (cs:Array Value),l.length=n→off+k+n≤cs.size →
  ((l.zipIdx k).foldl (fun cs (c,j)=>cs.setIfInBounds (off+j) c) cs).size=cs.size ∧
  ∀ j,((l.zipIdx k).foldl (fun cs (c,j)=>cs.setIfInBounds (off+j) c) cs).getD j undef=if off+k≤j∧j<off+k+n then l.getD (j - (off+k)) undef else cs.getD j undef:=by
 intro n
 induction n with
 | zero =>
  intro l k cs hl _
  obtain rfl:=List.eq_nil_of_length_eq_zero hl
  refine ⟨rfl,fun j=>?_⟩
  rw [if_neg (by omega)];rfl
 | succ n ih =>
  intro l k cs hl hle
  match l,hl with
  | v::l,hl =>
   obtain ⟨h1,h2⟩:=ih l (k+1) (cs.setIfInBounds (off+k) v) (by simpa using hl) (by simp;omega)
   simp only [List.zipIdx_cons,List.foldl_cons]
   refine ⟨by rw [h1];simp,fun j=>?_⟩
   rw [h2 j]
   by_cases hj:j=off+k
   ·subst hj
    rw [if_neg (by omega),if_pos (by omega)]
    simp [Array.getD_eq_getD_getElem?,Array.getElem?_setIfInBounds,show off+k<cs.size by omega]
   ·by_cases hj2:off+(k+1)≤j∧j<off+(k+1)+n
    ·rw [if_pos hj2,if_pos (by omega)]
     have:j - (off+k)=(j - (off+(k+1)))+1:=by omega
     rw [this];simp [List.getD_eq_getElem?_getD]
    ·rw [if_neg hj2,if_neg (by omega)]
     simp [Array.getD_eq_getD_getElem?,Array.getElem?_setIfInBounds,Ne.symm hj]

theorem setRange_getD {cs vs:List AV} {i j:Nat} (h:i+vs.length≤cs.length) {y:AV} (hy:(setRange cs i vs)[j]? = some y) :
  (i≤j∧j<i+vs.length∧vs[j - i]? = some y)∨(¬ (i≤j∧j<i+vs.length)∧cs[j]? = some y):=by
 simp only [setRange] at hy
 rw [seg_get h] at hy
 split at hy
 ·exact .inr ⟨by omega,hy⟩
 ·split at hy
  ·exact .inl ⟨by omega,by omega,hy⟩
  ·exact .inr ⟨by omega,hy⟩

theorem fill_rel (hvs:∀ id,∃ A n c,η.hv id=.slice A n c) {h:Nat} {place:Nat→Option (Nat×Nat)} (place':Nat→Option (Nat×Nat)) (hpl:∀ i p,place i=some p→place' i=some p):∀ (ps:List (Nat×AV)) (us:List (Nat×Value)) (cs cs':List AV) (vs:Array Value),
  fillAV cs place ps=some cs'→us.length=ps.length→(∀ (k i:Nat) (c:AV),ps[k]? = some (i,c)→∃ u,us[k]? = some (i,u)∧AVR η h w c u)→vs.size=cs.length→(∀ j c,cs[j]? = some c→AVR η h w c (vs.getD j undef)) →
  ∃ vs', Instr.fill place' vs us=some vs'∧vs'.size=cs'.length∧cs'.length=cs.length∧∀ j c,cs'[j]? = some c→AVR η h w c (vs'.getD j undef):=by
 intro ps
 induction ps with
 | nil =>
  intro us cs cs' vs hf hl _ hs hr
  obtain rfl:=List.eq_nil_of_length_eq_zero (by simpa using hl)
  simp only [fillAV,Option.some.injEq] at hf
  subst hf
  exact ⟨vs,rfl,hs,rfl,hr⟩
 | cons p ps ih =>
  intro us cs cs' vs hf hl hu hs hr
  obtain ⟨i,c⟩:=p
  obtain ⟨u,hu0,ru⟩:=hu 0 i c rfl
  match us,hl with
  | (i', u')::us,hl =>
   simp only [List.getElem?_cons_zero,Option.some.injEq,Prod.mk.injEq] at hu0
   obtain ⟨rfl,rfl⟩:=hu0
   simp only [fillAV] at hf
   split at hf
   ·rename_i off size hplace
    split at hf
    ·rename_i hc
     simp only [Bool.and_eq_true,decide_eq_true_eq,beq_iff_eq] at hc
     obtain ⟨⟨hc1,hc2⟩,hc3⟩:=hc
     obtain ⟨g1,g2⟩:=cells_rel hvs ru hc3
     have hl2:off+c.cells.length≤cs.length:=by omega
     obtain ⟨q1,q2⟩:=foldl_set u'.cells off u'.cells.size u'.cells.toList 0 vs (by simp) (by omega)
     obtain ⟨vs', v1,v2,v3,v4⟩:=ih us (setRange cs off c.cells) cs' _ hf (by simpa using hl) (fun k j d hk=>by simpa using hu (k+1) j d (by simpa using hk))
      (by rw [q1,hs,setRange_length hl2]) (fun j d hj=>by
       rw [q2 j]
       rcases setRange_getD hl2 hj with ⟨h1,h2,h3⟩ | ⟨h1,h3⟩
       ·rw [if_pos (by omega)]
        have:=(g2 _ d h3).1
        simpa [List.getD_eq_getElem?_getD,Array.getD_eq_getD_getElem?] using this
       ·rw [if_neg (by omega)];exact hr j d h3)
     refine ⟨vs', ?_,v2,by rw [v3,setRange_length hl2],v4⟩
     have hn1:¬ (u'.cells.size ≠ size):=by omega
     have hn2:¬ (off+u'.cells.size > vs.size):=by omega
     simp only [Instr.fill,hpl _ _ hplace]
     rw [if_neg (by simp;omega)]
     rw [← Array.toList_zipIdx,Array.foldl_toList] at v1
     exact v1
    ·cases hf
   ·cases hf
end
end Go.Proofs.Ytccelbeahdcooaa.Eng
