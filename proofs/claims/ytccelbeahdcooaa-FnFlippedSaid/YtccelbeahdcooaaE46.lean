/- The engine, part 46: ends of functions that turn what they are handed: prefixes become all rows, killed names told alike. -/
import Derived.Test.YtccelbeahdcooaaE38
namespace Go.Proofs.Ytccelbeahdcooaa.Eng
open Go Go.RowKit
set_option linter.unusedSimpArgs false
set_option linter.unusedVariables false

section
variable {P:Program} {N:Nat→Prop} {w0:World} {η:Env} {w:World} {tt:TT} {S:Tab} {QF:FuncId→Bool}
theorem Inv.cutAt {H:List AObj} (I:Inv N w0 η H w) {id:Nat} {E:TypeId} {fr:Bool} {e:Ty} {l:List e.den} (ho:H[id]? = some (.rows E fr e l)) (n:Nat) :
  Inv N w0 (η.upd id (η.ι id) (cutV (η.hv id) n) (l.take n).length) ((H.map (AObj.kill (List.contains [id]))).set id (.rows E fr e (l.take n))) w ∧
  Ext (List.contains [id]) η H.length w (η.upd id (η.ι id) (cutV (η.hv id) n) (l.take n).length) H.length w ∧
  ∀ v sz,AVR η H.length w (.pre id sz n) v→AVR (η.upd id (η.ι id) (cutV (η.hv id) n) (l.take n).length) H.length w (.all id sz) v:=by
 have hid:id<H.length:=(List.getElem?_eq_some_iff.1 ho).1
 generalize hη:η.upd id (η.ι id) (cutV (η.hv id) n) (l.take n).length=η'
 have hι:∀ i,η'.ι i=η.ι i:=fun i=>by rw [← hη];simp only [Env.upd];split<;>simp_all
 have hhv:∀ i,i ≠ id→η'.hv i=η.hv i:=fun i hi=>by rw [← hη];simp [Env.upd,hi]
 have hln:∀ i,i ≠ id→η'.ln i=η.ln i:=fun i hi=>by rw [← hη];simp [Env.upd,hi]
 have hv0:η'.hv id=cutV (η.hv id) n:=by rw [← hη];simp [Env.upd]
 have hl0:η'.ln id=(l.take n).length:=by rw [← hη];simp [Env.upd]
 have hZ:η'.Z=η.Z:=by rw [← hη];rfl
 have hO:η'.O=η.O:=by rw [← hη];rfl
 have hNv:η'.nv=η.nv:=by rw [← hη];rfl
 have x:Ext (List.contains [id]) η H.length w η' H.length w:=by
  refine ⟨fun i hi hk=>?_,fun f b h=>by rw [hZ];exact h,fun _ _ _=>rfl,fun b h=>.inl (by rw [hZ] at h;exact h),fun i _ _=>by rw [hNv]⟩
  have:i ≠ id:=by simpa using hk
  exact ⟨hi,hι i,hhv i this,hln i this⟩
 have hget:∀ i y,((H.map (AObj.kill (List.contains [id]))).set id (.rows E fr e (l.take n)))[i]? = some y→(i=id∧y=.rows E fr e (l.take n))∨(i ≠ id∧∃ y0,H[i]? = some y0∧y=y0.kill (List.contains [id])):=by
  intro i y hy
  rcases set_some hy with ⟨q1,_,q2⟩ | ⟨hne,hy⟩
  ·exact .inl ⟨q1,q2⟩
  ·obtain ⟨y0,h1,h2⟩:=getElem?_map_some (l:=H) (f:=AObj.kill (List.contains [id])) hy
   exact .inr ⟨hne,y0,h1,h2.symm⟩
 have hm0:(AObj.rows E fr e (l.take n)).mat η' id→(AObj.rows E fr e l).mat η id:=fun h hn=>h (by
  obtain ⟨A,hA⟩:=hn
  exact ⟨A,by rw [hv0,hA];simp [cutV]⟩)
 have hmo:∀ i y0,i ≠ id→((y0:AObj).kill (List.contains [id])).mat η' i→y0.mat η i:=by
  intro i y0 hne hm
  rw [mat_kill] at hm
  cases y0<;>simp only [AObj.mat,hhv i hne] at hm ⊢<;>exact hm
 have hlen:((H.map (AObj.kill (List.contains [id]))).set id (.rows E fr e (l.take n))).length=H.length:=by simp
 refine ⟨⟨I.nlt,I.fr,by rw [hZ];exact I.zlt,by rw [hZ];exact I.zsub,by rw [hZ];exact I.znew,fun i=>?_,fun i y hy=>?_,fun i y hy hm=>?_,fun i j y z hy hz my mz he=>?_,fun b q hb=>?_,by rw [hNv];exact I.nvs⟩,x,fun v sz hv=>?_⟩
 ·by_cases hi:i=id
  ·subst hi
   obtain ⟨A,m,c,hA⟩:=I.hvs i
   exact ⟨A,min n m,c,by rw [hv0,hA];rfl⟩
  ·rw [hhv i hi];exact I.hvs i
 ·rw [hlen]
  rcases hget i y hy with ⟨rfl,rfl⟩ | ⟨hne,y0,h1,rfl⟩
  ·obtain ⟨q1,q2⟩:=I.obj i _ ho
   refine ⟨hl0,?_⟩
   rcases q2 with ⟨⟨B,q2⟩,rfl⟩ | ⟨c,cap,q2,q3,q4,q5,q6,q7⟩
   ·exact .inl ⟨⟨B,by rw [hv0,q2];simp [cutV]⟩,by simp⟩
   ·refine .inr ⟨c,cap,by rw [hv0,q2,hι];simp [cutV],by rw [hι];exact q3,by simp;omega,q5,q6,fun k y hk=>?_⟩
    rw [hZ]
    refine q7 k y ?_
    rw [List.getElem?_take] at hk
    split at hk
    ·exact hk
    ·cases hk
  ·exact (I.obj i y0 h1).killed x (List.getElem?_eq_some_iff.1 h1).1 (by simpa using hne) (fun _=>rfl) ⟨trivial,fun b r q hb=>⟨by rw [hO];exact hb,rfl⟩⟩
 ·rw [hι,hZ]
  rcases hget i y hy with ⟨rfl,rfl⟩ | ⟨hne,y0,h1,rfl⟩
  ·exact I.own i _ ho (hm0 hm)
  ·exact I.own i y0 h1 (hmo i y0 hne hm)
 ·rw [hι,hι] at he
  rcases hget i y hy with ⟨rfl,rfl⟩ | ⟨hne,y0,h1,rfl⟩<;>rcases hget j z hz with ⟨e2,rfl⟩ | ⟨hne', z0,h2,rfl⟩
  ·exact e2.symm
  ·exact I.inj i j _ z0 ho h2 (hm0 my) (hmo j z0 hne' mz) he
  ·subst e2;exact I.inj i j y0 _ h1 ho (hmo i y0 hne my) (hm0 mz) he
  ·exact I.inj i j y0 z0 h1 h2 (hmo i y0 hne my) (hmo j z0 hne' mz) he
 ·rw [hO] at hb
  obtain ⟨d1,d2,d3,d4⟩:=I.dep b q hb
  refine ⟨d1,by rw [hZ];exact d2,d3,fun i y hy hm=>?_⟩
  rw [hι]
  rcases hget i y hy with ⟨rfl,rfl⟩ | ⟨hne,y0,h1,rfl⟩
  ·exact d4 i _ ho (hm0 hm)
  ·exact d4 i y0 h1 (hmo i y0 hne hm)
 ·cases hv with
  | @pre _ _ _ m cap A _ hvv hn hc =>
   have:=@AVR.all η' H.length w id sz hid
   rw [hv0,hvv] at this
   simpa [cutV,Nat.min_eq_left hn] using this

end

section
variable {P:Program} {N:Nat→Prop} {w0:World} {η:Env} {w:World} {tt:TT} {S:Tab} {QF:FuncId→Bool}
theorem Inv.kill_dead {H:List AObj} (I:Inv N w0 η H w) (k:Nat):Inv N w0 η (H.set k .dead) w:=by
 refine ⟨I.nlt,I.fr,I.zlt,I.zsub,I.znew,I.hvs,fun i y hy=>?_,fun i y hy hm=>?_,fun i j y z hy hz my mz he=>?_,fun b q hb=>?_,I.nvs⟩
 rotate_left 3
 ·obtain ⟨d1,d2,d3,d4⟩:=I.dep b q hb
  refine ⟨d1,d2,d3,fun i y hy hm=>?_⟩
  rcases set_some hy with ⟨rfl,_,rfl⟩ | ⟨hne,hy⟩
  ·exact hm.elim
  ·exact d4 i y hy hm
 ·rw [List.length_set]
  rcases set_some hy with ⟨rfl,_,rfl⟩ | ⟨hne,hy⟩
  ·trivial
  ·exact I.obj i y hy
 ·rcases set_some hy with ⟨rfl,_,rfl⟩ | ⟨hne,hy⟩
  ·exact hm.elim
  ·exact I.own i y hy hm
 ·rcases set_some hy with ⟨rfl,_,rfl⟩ | ⟨hne,hy⟩
  ·exact my.elim
  ·rcases set_some hz with ⟨rfl,_,rfl⟩ | ⟨hne', hz⟩
   ·exact mz.elim
   ·exact I.inj i j y z hy hz my mz he
theorem Inv.renameAt {H:List AObj} (I:Inv N w0 η H w) {t k:Nat} (ht:t<H.length) (hne:k ≠ t) {E:TypeId} {fr:Bool} {e:Ty} {l:List e.den} (ho:H[k]? = some (.rows E fr e l)) :
  Inv N w0 (η.upd t (η.ι k) (η.hv k) (η.ln k)) ((((H.set k .dead).map (AObj.kill (List.contains [t]))).set t (.rows E fr e l))) w ∧
  Ext (List.contains [t]) η H.length w (η.upd t (η.ι k) (η.hv k) (η.ln k)) H.length w ∧
  ∀ v sz,AVR η H.length w (.all k sz) v→AVR (η.upd t (η.ι k) (η.hv k) (η.ln k)) H.length w (.all t sz) v:=by
 have I2:=I.kill_dead k
 generalize hη:η.upd t (η.ι k) (η.hv k) (η.ln k)=η'
 have hι:∀ i,i ≠ t→η'.ι i=η.ι i:=fun i hi=>by rw [← hη];simp [Env.upd,hi]
 have hhv:∀ i,i ≠ t→η'.hv i=η.hv i:=fun i hi=>by rw [← hη];simp [Env.upd,hi]
 have hln:∀ i,i ≠ t→η'.ln i=η.ln i:=fun i hi=>by rw [← hη];simp [Env.upd,hi]
 have hι0:η'.ι t=η.ι k:=by rw [← hη];simp [Env.upd]
 have hv0:η'.hv t=η.hv k:=by rw [← hη];simp [Env.upd]
 have hl0:η'.ln t=η.ln k:=by rw [← hη];simp [Env.upd]
 have hZ:η'.Z=η.Z:=by rw [← hη];rfl
 have hO:η'.O=η.O:=by rw [← hη];rfl
 have hNv:η'.nv=η.nv:=by rw [← hη];rfl
 have x:Ext (List.contains [t]) η H.length w η' H.length w:=by
  refine ⟨fun i hi hk=>?_,fun f b h=>by rw [hZ];exact h,fun _ _ _=>rfl,fun b h=>.inl (by rw [hZ] at h;exact h),fun i _ _=>by rw [hNv]⟩
  have:i ≠ t:=by simpa using hk
  exact ⟨hi,hι i this,hhv i this,hln i this⟩
 have hget:∀ i y,(((H.set k .dead).map (AObj.kill (List.contains [t]))).set t (.rows E fr e l))[i]? = some y→(i=t∧y=.rows E fr e l)∨(i ≠ t∧∃ y0,(H.set k .dead)[i]? = some y0∧y=y0.kill (List.contains [t])):=by
  intro i y hy
  rcases set_some hy with ⟨q1,_,q2⟩ | ⟨hne,hy⟩
  ·exact .inl ⟨q1,q2⟩
  ·obtain ⟨y0,h1,h2⟩:=getElem?_map_some (l:=H.set k .dead) (f:=AObj.kill (List.contains [t])) hy
   exact .inr ⟨hne,y0,h1,h2.symm⟩
 have hm0:(AObj.rows E fr e l).mat η' t→(AObj.rows E fr e l).mat η k:=fun h=>by simpa [AObj.mat,hv0] using h
 have hmo:∀ i y0,i ≠ t→((y0:AObj).kill (List.contains [t])).mat η' i→y0.mat η i:=by
  intro i y0 hne hm
  rw [mat_kill] at hm
  cases y0<;>simp only [AObj.mat,hhv i hne] at hm ⊢<;>exact hm
 have hlen:(((H.set k .dead).map (AObj.kill (List.contains [t]))).set t (.rows E fr e l)).length=H.length:=by simp
 have apart:∀ i y0,(H.set k .dead)[i]? = some y0→y0.mat η i→(AObj.rows E fr e l).mat η k→η.ι i ≠ η.ι k:=by
  intro i y0 hy hm hk he
  rcases set_some hy with ⟨rfl,_,rfl⟩ | ⟨hik,hy⟩
  ·exact hm.elim
  ·exact hik (I.inj i k y0 _ hy ho hm hk he)
 refine ⟨⟨I.nlt,I.fr,by rw [hZ];exact I.zlt,by rw [hZ];exact I.zsub,by rw [hZ];exact I.znew,fun i=>?_,fun i y hy=>?_,fun i y hy hm=>?_,fun i j y z hy hz my mz he=>?_,fun b q hb=>?_,by rw [hNv];exact I.nvs⟩,x,fun v sz hv=>?_⟩
 ·by_cases hi:i=t
  ·subst hi;rw [hv0];exact I.hvs k
  ·rw [hhv i hi];exact I.hvs i
 ·rw [hlen]
  rcases hget i y hy with ⟨rfl,rfl⟩ | ⟨hni,y0,h1,rfl⟩
  ·obtain ⟨q1,q2⟩:=I.obj k _ ho
   refine ⟨by rw [hl0];exact q1,?_⟩
   rcases q2 with ⟨q2,q3⟩ | ⟨c,cap,q2,q3,q4,q5,q6,q7⟩
   ·exact .inl ⟨by rw [hv0];exact q2,q3⟩
   ·exact .inr ⟨c,cap,by rw [hv0,q2,hι0],by rw [hι0];exact q3,q4,q5,q6,fun m y hm=>by rw [hZ];exact q7 m y hm⟩
  ·have hl:i<(H.set k .dead).length:=(List.getElem?_eq_some_iff.1 h1).1
   have R:=I2.obj i y0 h1
   rw [List.length_set] at R hl
   exact R.killed x hl (by simpa using hni) (fun _=>rfl) ⟨trivial,fun b r q hb=>⟨by rw [hO];exact hb,rfl⟩⟩
 ·rw [hZ]
  rcases hget i y hy with ⟨rfl,rfl⟩ | ⟨hni,y0,h1,rfl⟩
  ·rw [hι0];exact I.own k _ ho (hm0 hm)
  ·rw [hι i hni];exact I2.own i y0 h1 (hmo i y0 hni hm)
 ·rcases hget i y hy with ⟨rfl,rfl⟩ | ⟨hni,y0,h1,rfl⟩<;>rcases hget j z hz with ⟨e2,rfl⟩ | ⟨hnj,z0,h2,rfl⟩
  ·exact e2.symm
  ·rw [hι0,hι j hnj] at he
   exact absurd he.symm (apart j z0 h2 (hmo j z0 hnj mz) (hm0 my))
  ·subst e2
   rw [hι0,hι i hni] at he
   exact absurd he (apart i y0 h1 (hmo i y0 hni my) (hm0 mz))
  ·rw [hι i hni,hι j hnj] at he
   exact I2.inj i j y0 z0 h1 h2 (hmo i y0 hni my) (hmo j z0 hnj mz) he
 ·rw [hO] at hb
  obtain ⟨d1,d2,d3,d4⟩:=I2.dep b q hb
  refine ⟨d1,by rw [hZ];exact d2,d3,fun i y hy hm=>?_⟩
  rcases hget i y hy with ⟨rfl,rfl⟩ | ⟨hni,y0,h1,rfl⟩
  ·rw [hι0];exact (I.dep b q hb).2.2.2 k _ ho (hm0 hm)
  ·rw [hι i hni];exact d4 i y0 h1 (hmo i y0 hni hm)
 ·cases hv with
  | all hid =>
   have:=@AVR.all η' H.length w t sz ht
   rwa [hv0] at this
end

def cutCell (st:St) (b j:Nat):St :=
 match st.heap[b]? with
 | some (.box cs) =>
  match cs[j]? with
  | some (.pre id sz n) =>
   match st.heap[id]? with
   | some (.rows E fr e l)=>{ st.kill [id] with heap:=((st.kill [id]).heap.set id (.rows E fr e (l.take n))).set b (.box ((cs.map (AV.kill1 (List.contains [id]))).set j (.all id sz))) }
   | _=>st
  | _=>st
 | _=>st
def renCell (st:St) (b j t:Nat):St :=
 match st.heap[b]? with
 | some (.box cs) =>
  match cs[j]? with
  | some (.all k sz) =>
   match st.heap[k]? with
   | some (.rows E fr e l) =>
    cond (!(k==t)&&!(b==t)&&Nat.blt t st.heap.length) { st.kill [t] with heap:=(((st.heap.set k .dead).map (AObj.kill (List.contains [t]))).set t (.rows E fr e l)).set b (.box ((cs.map (AV.kill1 (List.contains [t]))).set j (.all t sz))) } st
   | _=>st
  | _=>st
 | _=>st
def normCells:List (Nat×Nat×Nat×TypeId×Ty)→St→St
 | [],st=>st
 | m::r,st=>normCells r (renCell (matCell (cutCell st m.1 m.2.1) m.1 m.2.1 m.2.2.2.1 m.2.2.2.2) m.1 m.2.1 m.2.2.1)

section
variable {P:Program} {N:Nat→Prop} {w0:World} {η η0:Env} {h0:Nat} {we:World} {w:World} {st:St} {a:Act}
theorem SR.cutCell [DF] (s:SR N w0 η0 h0 we η st a w) (b j:Nat):∃ η', SR N w0 η0 h0 we η' (Eng.cutCell st b j) a w:=by
 unfold Eng.cutCell
 split
 ·rename_i cs hb
  split
  ·rename_i id sz n hj
   split
   ·rename_i E fr e l ho
    obtain ⟨J,y,q⟩:=s.inv.cutAt ho n
    have hne:b ≠ id:=fun h=>by subst h;rw [hb] at ho;cases ho
    have hb2:((st.heap.map (AObj.kill (List.contains [id]))).set id (.rows E fr e (l.take n)))[b]? = some (.box (cs.map (AV.kill1 (List.contains [id])))):=by
     rw [List.getElem?_set_ne (Ne.symm hne),List.getElem?_map,hb];rfl
    have hl:((st.heap.map (AObj.kill (List.contains [id]))).set id (.rows E fr e (l.take n))).length=st.heap.length:=by simp
    have J2:=J.recell (j:=j) hb2 (a:=.all id sz) (fun c E' f hc=>by
     rw [hl]
     have hι:(η.upd id (η.ι id) (cutV (η.hv id) n) (l.take n).length).ι b=η.ι b:=by simp [Env.upd,hne]
     rw [hι] at hc
     obtain ⟨_,c', E2,g2,g3,g4⟩:=s.inv.obj b _ hb
     rw [g2] at hc
     cases hc
     exact q _ sz (g4 j _ hj).1)
    refine ⟨_,J2,?_,?_,s.base⟩
    ·simp only [List.length_set,List.length_map,St.kill]
     exact s.ext.trans y (fun i hi hk=>killed_spec (by rw [s.base];exact hi) hk)
    ·simp only [List.length_set,List.length_map,St.kill]
     exact s.sl.kill y
   ·exact ⟨η,s⟩
  ·exact ⟨η,s⟩
 ·exact ⟨η,s⟩
theorem SR.renCell [DF] (s:SR N w0 η0 h0 we η st a w) (b j t:Nat):∃ η', SR N w0 η0 h0 we η' (Eng.renCell st b j t) a w:=by
 unfold Eng.renCell
 split
 ·rename_i cs hb
  split
  ·rename_i k sz hj
   split
   ·rename_i E fr e l ho
    cases hc:(!(k==t)&&!(b==t)&&Nat.blt t st.heap.length) with
    | false=>exact ⟨η,s⟩
    | true =>
     simp only [Bool.and_eq_true,Bool.not_eq_true', beq_eq_false_iff_ne] at hc
     obtain ⟨⟨hkt,hbt⟩,htl⟩:=hc
     have htl:t<st.heap.length:=Nat.le_of_ble_eq_true htl
     simp only [cond_true]
     obtain ⟨J,y,q⟩:=s.inv.renameAt htl hkt ho
     have hbk:b ≠ k:=fun h=>by subst h;rw [hb] at ho;cases ho
     have hb2:(((st.heap.set k .dead).map (AObj.kill (List.contains [t]))).set t (.rows E fr e l))[b]? = some (.box (cs.map (AV.kill1 (List.contains [t])))):=by
      rw [List.getElem?_set_ne (Ne.symm hbt),List.getElem?_map,List.getElem?_set_ne (Ne.symm hbk),hb];rfl
     have hl:(((st.heap.set k .dead).map (AObj.kill (List.contains [t]))).set t (.rows E fr e l)).length=st.heap.length:=by simp
     have J2:=J.recell (j:=j) hb2 (a:=.all t sz) (fun c E' f hc=>by
      rw [hl]
      have hι:(η.upd t (η.ι k) (η.hv k) (η.ln k)).ι b=η.ι b:=by simp [Env.upd,hbt]
      rw [hι] at hc
      obtain ⟨_,c', E2,g2,g3,g4⟩:=s.inv.obj b _ hb
      rw [g2] at hc
      cases hc
      exact q _ sz (g4 j _ hj).1)
     refine ⟨_,J2,?_,?_,s.base⟩
     ·simp only [List.length_set,List.length_map,St.kill]
      exact s.ext.trans y (fun i hi hk=>killed_spec (by rw [s.base];exact hi) hk)
     ·simp only [List.length_set,List.length_map,St.kill]
      exact s.sl.kill y
   ·exact ⟨η,s⟩
  ·exact ⟨η,s⟩
 ·exact ⟨η,s⟩
theorem SR.normCells [DF]:∀ (nb:List (Nat×Nat×Nat×TypeId×Ty)) (st:St) (η:Env),SR N w0 η0 h0 we η st a w→∃ η', SR N w0 η0 h0 we η' (Eng.normCells nb st) a w:=by
 intro nb
 induction nb with
 | nil=>intro st η s;exact ⟨η,s⟩
 | cons m r ih =>
  intro st η s
  obtain ⟨η1,s1⟩:=s.cutCell m.1 m.2.1
  obtain ⟨η2,s2⟩:=s1.matCell m.1 m.2.1 m.2.2.2.1 m.2.2.2.2
  obtain ⟨η3,s3⟩:=s2.renCell m.1 m.2.1 m.2.2.1
  exact ih _ η3 s3
end

def normR (p:AV×List AObj×List Nat):AV×List AObj×List Nat :=
 match p.1 with
 | .pre id sz n =>
  match p.2.1[id]? with
  | some (.rows E fr e l)=>(.all id sz,(p.2.1.map (AObj.kill (List.contains [id]))).set id (.rows E fr e (l.take n)),id::p.2.2)
  | _=>p
 | _=>p
def endM (kx:List Nat) (p:AV×List AObj×List Nat):Option (AV×List AObj×List Nat) :=
 cond ((normR p).2.2.all kx.contains) (some ((normR p).1,(normR p).2.1,kx)) none

section
variable {P:Program} {N:Nat→Prop} {w0:World} {w:World} {tt:TT} {S:Tab} {QF:FuncId→Bool}
theorem Ext.weaken {K K':Nat→Bool} {η η':Env} {h h':Nat} {w w':World} (x:Ext K η h w η' h' w') (hk:∀ i,K' i=false→K i=false):Ext K' η h w η' h' w' :=
 ⟨fun i hi h=>x.nm i hi (hk i h),x.z,x.same,x.zold,fun i hi h=>x.nn i hi (hk i h)⟩
theorem ext_cons {η0 η η':Env} {h0 h h':Nat} {we w w':World} {ks:List Nat} {id:Nat} (x:Ext ks.contains η0 h0 we η h w) (y:Ext (List.contains [id]) η h w η' h' w'):Ext (id::ks).contains η0 h0 we η' h' w':=by
 refine x.trans y (fun i hi hk=>?_)
 simp only [List.contains_cons,Bool.or_eq_false_iff] at hk
 exact ⟨hk.2,by simpa using hk.1⟩
theorem normR_rel {η0 η:Env} {h0:Nat} {we:World} {r:AV} {H:List AObj} {ks:List Nat} {v:Value} (I:Inv N w0 η H w) (x:Ext ks.contains η0 h0 we η H.length w) (ra:AVR η H.length w r v) :
  ∃ η', Inv N w0 η' (normR (r,H,ks)).2.1 w∧Ext (normR (r,H,ks)).2.2.contains η0 h0 we η' (normR (r,H,ks)).2.1.length w∧AVR η' (normR (r,H,ks)).2.1.length w (normR (r,H,ks)).1 v:=by
 simp only [normR]
 split
 ·rename_i id sz n
  split
  ·rename_i E fr e l ho
   obtain ⟨J,y,q⟩:=I.cutAt ho n
   have hl:((H.map (AObj.kill (List.contains [id]))).set id (.rows E fr e (l.take n))).length=H.length:=by simp
   refine ⟨_,J,?_,?_⟩
   ·rw [hl];exact ext_cons x y
   ·rw [hl];exact q v sz ra
  ·exact ⟨η,I,x,ra⟩
 ·exact ⟨η,I,x,ra⟩
theorem endM_rel {η0 η:Env} {h0:Nat} {we:World} {kx:List Nat} {r:AV} {H:List AObj} {ks:List Nat} {v:Value} (I:Inv N w0 η H w) (x:Ext ks.contains η0 h0 we η H.length w) (ra:AVR η H.length w r v)
  {r':AV} {H':List AObj} {ks':List Nat} (h:endM kx (r,H,ks)=some (r', H', ks')):∃ η', Inv N w0 η' H' w∧Ext ks'.contains η0 h0 we η' H'.length w∧AVR η' H'.length w r' v:=by
 obtain ⟨η1,I1,x1,r1⟩:=normR_rel I x ra
 have wk:∀ (l:List Nat),l.all kx.contains=true→∀ i,kx.contains i=false→l.contains i=false:=fun l hl i hi=>by
  rw [List.all_eq_true] at hl
  cases hc:l.contains i with
  | false=>rfl
  | true =>
   have hm:i∈l:=by simpa using hc
   rw [hl i hm] at hi;cases hi
 simp only [endM] at h
 cases hc:((normR (r,H,ks)).2.2.all kx.contains) with
 | false=>rw [hc] at h;cases h
 | true =>
  rw [hc] at h
  simp only [cond_true,Option.some.injEq,Prod.mk.injEq] at h
  obtain ⟨rfl,rfl,rfl⟩:=h
  exact ⟨η1,I1,x1.weaken (wk _ hc),r1⟩

def runE (mr:Bool) (P:Program) (tt:TT) (S:Tab) (QF:FuncId→Bool) (L:Nat→St→Option Tree) (fn:Func) (args:List AV) (H:List AObj) (dl:List AV) (kx:List Nat) (nb:List (Nat×Nat×Nat×TypeId×Ty)):Option (AV×List AObj×List Nat) :=
 match fn.body with
 | some c=>execC P tt S QF L 0 c { slots:=startSlots fn args,heap:=H,base:=H.length,killed:=[] } (fun e st=>(match mr with
  | true=>finMR tt fn dl e (normCells nb st)
  | false=>finM tt fn e (normCells nb st)).bind (endM kx))
 | none=>none

theorem finM_rel [DF] (G:Good P tt S QF) {fn:Func} {η0 η:Env} {h0:Nat} {we:World} {st:St} {a:Act} (s:SR N w0 η0 h0 we η st a w) {e:Ex} {p:AV×List AObj×List Nat} (h:finM tt fn e st=some p) :
  a.defers=default∧∃ v,(results fn a.tmps).run P w=.ok v w∧∃ η', Inv N w0 η' p.2.1 w∧Ext p.2.2.contains η0 h0 we η' p.2.1.length w∧AVR η' p.2.1.length w p.1 v:=by
 have key:(resAV tt fn (st.compact (resSlots fn))).map (fun r=>((matR false tt fn.resultTypes.toList r (st.compact (resSlots fn))).1,(matR false tt fn.resultTypes.toList r (st.compact (resSlots fn))).2.heap,(matR false tt fn.resultTypes.toList r (st.compact (resSlots fn))).2.killed))=some p:=by
  cases e with
  | exit id=>simp [finM] at h
  | _=>exact h
 obtain ⟨η', s'⟩:=s.compact (resSlots fn)
 obtain ⟨r1,g1,rfl⟩:=Option.map_eq_some_iff.1 key
 obtain ⟨v,v1,v2⟩:=resAV_rel G.types s' g1
 obtain ⟨η2,s2,v3⟩:=s'.matR (tt:=tt) (ro:=false) (ts:=fn.resultTypes.toList) v2
 exact ⟨s'.sl.defers,v,v1,η2,s2.inv,s2.ext,v3⟩
theorem finMR_rel [DF] (G:Good P tt S QF) {fn:Func} {η0 η:Env} {h0:Nat} {we:World} {st:St} {a:Act} (s:SR N w0 η0 h0 we η st a w) {e:Ex} {dl:List AV} {p:AV×List AObj×List Nat} (h:finMR tt fn dl e st=some p) :
    a.defers=default∧∃ v,(results fn a.tmps).run P w=.ok v w∧∃ η', Inv N w0 η' p.2.1 w∧Ext p.2.2.contains η0 h0 we η' p.2.1.length w∧AVR η' p.2.1.length w p.1 v:=by
  have key : ((resAV tt fn (st.compact (resSlots fn))).bind fun r0 =>
        let p:=roRes true (st.compact (resSlots fn)) (coer true tt fn.resultTypes.toList r0)
        cond p.1.bare (some (p.1,((St.freezeL dl p.2).2.compact []).heap,((St.freezeL dl p.2).2.compact []).killed)) none)=some p:=by
    cases e with
    | exit id=>simp [finMR] at h
    | _=>exact h
  obtain ⟨η', s'⟩:=s.compact (resSlots fn)
  obtain ⟨r1,g1,g2⟩:=Option.bind_eq_some_iff.1 key
  simp only at g2
  obtain ⟨v,v1,v2⟩:=resAV_rel G.types s' g1
  obtain ⟨η2,s2,r2⟩:=s'.roRes true (coer true tt fn.resultTypes.toList r1)
  cases hb:(roRes true (st.compact (resSlots fn)) (coer true tt fn.resultTypes.toList r1)).1.bare with
  | false=>rw [hb] at g2;cases g2
  | true =>
    rw [hb] at g2
    simp only [cond_true,Option.some.injEq] at g2
    subst g2
    obtain ⟨η4,s4,x4,_⟩:=s2.freezeL dl
    obtain ⟨η3,s3,hz⟩:=s4.compactZ []
    exact ⟨s'.sl.defers,v,v1,η3,s3.inv,s3.ext,((r2 _ (coer_rel v2)).ext x4).bare hz hb⟩

theorem runE_sound (G:Good P tt S QF) {f:FuncId} {fn:Func} (hf:P.funcs[f]? = some fn) {L:Nat→St→Option Tree} (hL:∀ p∈loopsIn 0 (bodyOf fn),LoopWp P (L p.1) p.2) {mr:Bool} {args:List AV} {H:List AObj} {r:AV} {H':List AObj} {ks:List Nat} {dl:List AV} {kx:List Nat} {nb:List (Nat×Nat×Nat×TypeId×Ty)} {η:Env}
    (h:runE mr P tt S QF L fn args H dl kx nb=some (r,H', ks)) (I:Inv N w0 η H w) {vs:Array Value} (hl:vs.size=args.length) (hr:∀ i c,args[i]? = some c→AVR η H.length w c (vs.getD i undef)) :
    Calls P f vs w fun e w'=>∃ v η', e=.returned v∧Inv N w0 η' H' w'∧Ext ks.contains η H.length w η' H'.length w'∧AVR η' H'.length w' r v:=by
  simp only [runE] at h
  split at h
  · rename_i c hc
    refine calls_of_wp hf hc ?_
    have fin : ∀ (e : Ex) (st' : St) (η' : Env) (a' : Act) (w' : World), ((match mr with
        | true=>finMR tt fn dl e (normCells nb st')
        | false=>finM tt fn e (normCells nb st')).bind (endM kx))=some (r,H', ks)→SR N w0 η H.length w η' st' a' w' →
        a'.defers=[]∧∃ v,(results fn a'.tmps).run P w'=.ok v w'∧∃ v1 η', Ending.returned v=.returned v1∧Inv N w0 η' H' w'∧Ext ks.contains η H.length w η' H'.length w'∧AVR η' H'.length w' r v1:=by
      intro e st' η' a' w' hk s'
      obtain ⟨η', s'⟩:=SR.normCells nb st' η' s'
      obtain ⟨⟨r0,H0,k0⟩,h1,h2⟩:=Option.bind_eq_some_iff.1 hk
      have h3:a'.defers=[]∧∃ v,(results fn a'.tmps).run P w'=.ok v w'∧∃ η', Inv N w0 η' H0 w'∧Ext k0.contains η H.length w η' H0.length w'∧AVR η' H0.length w' r0 v:=by
        cases mr with
        | true=>exact finMR_rel G s' h1
        | false=>exact finM_rel G s' h1
      obtain ⟨d,v,hv,η2,J,x,ra⟩:=h3
      obtain ⟨η3,J3,x3,r3⟩:=endM_rel J x ra h2
      exact ⟨d,v,hv,v,η3,rfl,J3,x3,r3⟩
    refine execC_sound G L c 0 _ _ _ η _ w (by simpa [bodyOf,hc] using hL) h ?_ (SR.start I hl hr fn)
    intro e st' η' a' w' hk s'
    cases e with
    | normal=>exact fin .normal st' η' a' w' hk s'
    | ret=>exact fin .ret st' η' a' w' hk s'
    | exit id=>cases mr<;>simp [finM,finMR] at hk
  · cases h

theorem MContract.of_dataE (mr:Bool) (dl:List AV) (kx:List Nat) (nb:List (Nat×Nat×Nat×TypeId×Ty)) (G:Good P tt S QF) {f:FuncId} {fn:Func} (hf:P.funcs[f]? = some fn) {L:Nat→St→Option Tree} (hL:∀ p∈loopsIn 0 (bodyOf fn),LoopWp P (L p.1) p.2)
  (s:SS) (pre:s.den→Bool) (g:s.den→AV×List AObj×List Nat) (h:∀ d,pre d=true→runE mr P tt S QF L fn (shsMk s.sl d.1) (ohsMk s.hp d.2) dl kx nb=some (g d)):MContract P f (msum s pre g):=by
 intro args H r H' Kf hsm N w0 η w vs I hl hr
 simp only [msum] at hsm
 split at hsm
 ·rename_i x y hx hy
  simp only [Option.some.injEq,Prod.mk.injEq] at hsm
  obtain ⟨h1,h2,h3,hp⟩:=hsm
  obtain rfl:=ohsRd_eq _ _ _ hy
  obtain ⟨q1,q2⟩:=shsRdC_rel I (h:=(ohsMk s.hp y).length) s.sl args x hx
  have hrun:=h (x,y) hp
  have e:g (x,y)=(r,H', Kf):=by rw [← h1,← h2,← h3]
  rw [e] at hrun
  exact runE_sound G hf hL hrun I (by rw [hl];exact q1.symm) (q2 (fun i=>vs.getD i undef) hr)
 ·cases hsm
end
end Go.Proofs.Ytccelbeahdcooaa.Eng
