/- The engine, part 46: ends of functions that turn what they are handed: prefixes become all rows, killed names told alike. -/
import Derived.Test.YtccelbeahdcooaaE38
namespace Go.Proofs.Ytccelbeahdcooaa.Eng
open Go Go.RowKit
set_option linter.unusedSimpArgs false
set_option linter.unusedVariables false

section
variable {P:Program} {N:Nat→Prop} {w0:World} {η:Env} {w:World} {tt:TT} {S:Tab} {QF:FuncId→Bool}
theorem Inv.cutAt {H:List AObj} (I:Inv N w0 η H w) {id:Nat} {E:TypeId} {fr:Bool} {e:Ty} {l:List e.den} (ho:H[id]? = some (.rows E fr e l)) (n:Nat) :
  Inv N w0 (η.upd id (η.ι id) (A1G (η.hv id) n) (l.take n).length) ((H.map (AObj.kill (List.contains [id]))).set id (.rows E fr e (l.take n))) w ∧
  Ext (List.contains [id]) η H.length w (η.upd id (η.ι id) (A1G (η.hv id) n) (l.take n).length) H.length w ∧
  ∀ v sz,AVR η H.length w (.pre id sz n) v→AVR (η.upd id (η.ι id) (A1G (η.hv id) n) (l.take n).length) H.length w (.all id sz) v:=by
 have hid:id<H.length:=(List.getElem?_eq_some_iff.1 ho).1
 generalize hη:η.upd id (η.ι id) (A1G (η.hv id) n) (l.take n).length=η'
 have hι:∀ i,η'.ι i=η.ι i:=fun i=>by rw [← hη];simp only [Env.upd];split<;>simp_all
 have hhv:∀ i,i ≠ id→η'.hv i=η.hv i:=fun i hi=>by rw [← hη];simp [Env.upd,hi]
 have hln:∀ i,i ≠ id→η'.ln i=η.ln i:=fun i hi=>by rw [← hη];simp [Env.upd,hi]
 have hv0:η'.hv id=A1G (η.hv id) n:=by rw [← hη];simp [Env.upd]
 have hl0:η'.ln id=(l.take n).length:=by rw [← hη];simp [Env.upd]
 have hZ:η'.Z=η.Z:=by rw [← hη];rfl
 have hO:η'.O=η.O:=by rw [← hη];rfl
 have hNv:η'.nv=η.nv:=by rw [← hη];rfl
 have x:Ext (List.contains [id]) η H.length w η' H.length w:=by
  refine ⟨fun i hi hk=>?_,fun f b h=>by rw [hZ];exact h,fun _ _ _=>rfl,fun b h=>.inl (by rw [hZ] at h;exact h),fun i _ _=>by rw [hNv]⟩
  have:i ≠ id:=by simpa using hk
  exact ⟨hi,hι i,hhv i this,hln i this⟩
 have hget:∀ i y,((H.map (AObj.kill (List.contains [id]))).set id (.rows E fr e (l.take n)))[i]? = some y→(i=id∧y=.rows E fr e (l.take n))∨(i ≠ id∧∃ y0,H[i]? = some y0∧y=y0.kill (List.contains [id])):=by
  intro i y hy
  rcases A5 hy with ⟨q1,_,q2⟩ | ⟨hne,hy⟩
  ·exact .inl ⟨q1,q2⟩
  ·obtain ⟨y0,h1,h2⟩:=A3 (l:=H) (f:=AObj.kill (List.contains [id])) hy
   exact .inr ⟨hne,y0,h1,h2.symm⟩
 have hm0:(AObj.rows E fr e (l.take n)).mat η' id→(AObj.rows E fr e l).mat η id:=fun h hn=>h (by
  obtain ⟨A,hA⟩:=hn
  exact ⟨A,by rw [hv0,hA];simp [A1G]⟩)
 have hmo:∀ i y0,i ≠ id→((y0:AObj).kill (List.contains [id])).mat η' i→y0.mat η i:=by
  intro i y0 hne hm
  rw [H9] at hm
  cases y0<;>simp only [AObj.mat,hhv i hne] at hm ⊢<;>exact hm
 have hlen:((H.map (AObj.kill (List.contains [id]))).set id (.rows E fr e (l.take n))).length=H.length:=by simp
 refine ⟨⟨I.nlt,I.fr,by rw [hZ];exact I.zlt,by rw [hZ];exact I.zsub,by rw [hZ];exact I.znew,fun i=>?_,fun i y hy=>?_,fun i y hy hm=>?_,fun i j y z hy hz my mz he=>?_,fun b q hb=>?_,by rw [hNv];exact I.nvs⟩,x,fun v sz hv=>?_⟩
 ·by_cases hi:i=id
  ·subst hi
   obtain ⟨A,m,c,hA⟩:=I.hvs i
   exact ⟨A,min n m,c,by rw [hv0,hA];rfl⟩
  ·rw [hhv i hi];exact I.hvs i
 ·rw [hlen]
  rcases hget i y hy with ⟨rfl,rfl⟩ | ⟨hne,y0,h1,rfl⟩
  ·obtain ⟨q1,q2⟩:=I.obj i _ ho
   refine ⟨hl0,?_⟩
   rcases q2 with ⟨⟨B,q2⟩,rfl⟩ | ⟨c,cap,q2,q3,q4,q5,q6,q7⟩
   ·exact .inl ⟨⟨B,by rw [hv0,q2];simp [A1G]⟩,by simp⟩
   ·refine .inr ⟨c,cap,by rw [hv0,q2,hι];simp [A1G],by rw [hι];exact q3,by simp;omega,q5,q6,fun k y hk=>?_⟩
    rw [hZ]
    refine q7 k y ?_
    rw [List.getElem?_take] at hk
    split at hk
    ·exact hk
    ·cases hk
  ·exact (I.obj i y0 h1).killed x (List.getElem?_eq_some_iff.1 h1).1 (by simpa using hne) (fun _=>rfl) ⟨trivial,fun b r q hb=>⟨by rw [hO];exact hb,rfl⟩⟩
 ·rw [hι,hZ]
  rcases hget i y hy with ⟨rfl,rfl⟩ | ⟨hne,y0,h1,rfl⟩
  ·exact I.own i _ ho (hm0 hm)
  ·exact I.own i y0 h1 (hmo i y0 hne hm)
 ·rw [hι,hι] at he
  rcases hget i y hy with ⟨rfl,rfl⟩ | ⟨hne,y0,h1,rfl⟩<;>rcases hget j z hz with ⟨e2,rfl⟩ | ⟨hne', z0,h2,rfl⟩
  ·exact e2.symm
  ·exact I.inj i j _ z0 ho h2 (hm0 my) (hmo j z0 hne' mz) he
  ·subst e2;exact I.inj i j y0 _ h1 ho (hmo i y0 hne my) (hm0 mz) he
  ·exact I.inj i j y0 z0 h1 h2 (hmo i y0 hne my) (hmo j z0 hne' mz) he
 ·rw [hO] at hb
  obtain ⟨d1,d2,d3,d4⟩:=I.dep b q hb
  refine ⟨d1,by rw [hZ];exact d2,d3,fun i y hy hm=>?_⟩
  rw [hι]
  rcases hget i y hy with ⟨rfl,rfl⟩ | ⟨hne,y0,h1,rfl⟩
  ·exact d4 i _ ho (hm0 hm)
  ·exact d4 i y0 h1 (hmo i y0 hne hm)
 ·cases hv with
  | @pre _ _ _ m cap A _ hvv hn hc =>
   have:=@AVR.all η' H.length w id sz hid
   rw [hv0,hvv] at this
   simpa [A1G,Nat.min_eq_left hn] using this

end

section
variable {P:Program} {N:Nat→Prop} {w0:World} {η:Env} {w:World} {tt:TT} {S:Tab} {QF:FuncId→Bool}
theorem Inv.kill_dead {H:List AObj} (I:Inv N w0 η H w) (k:Nat):Inv N w0 η (H.set k .dead) w:=by
 refine ⟨I.nlt,I.fr,I.zlt,I.zsub,I.znew,I.hvs,fun i y hy=>?_,fun i y hy hm=>?_,fun i j y z hy hz my mz he=>?_,fun b q hb=>?_,I.nvs⟩
 rotate_left 3
 ·obtain ⟨d1,d2,d3,d4⟩:=I.dep b q hb
  refine ⟨d1,d2,d3,fun i y hy hm=>?_⟩
  rcases A5 hy with ⟨rfl,_,rfl⟩ | ⟨hne,hy⟩
  ·exact hm.elim
  ·exact d4 i y hy hm
 ·rw [List.length_set]
  rcases A5 hy with ⟨rfl,_,rfl⟩ | ⟨hne,hy⟩
  ·trivial
  ·exact I.obj i y hy
 ·rcases A5 hy with ⟨rfl,_,rfl⟩ | ⟨hne,hy⟩
  ·exact hm.elim
  ·exact I.own i y hy hm
 ·rcases A5 hy with ⟨rfl,_,rfl⟩ | ⟨hne,hy⟩
  ·exact my.elim
  ·rcases A5 hz with ⟨rfl,_,rfl⟩ | ⟨hne', hz⟩
   ·exact mz.elim
   ·exact I.inj i j y z hy hz my mz he
theorem Inv.renameAt {H:List AObj} (I:Inv N w0 η H w) {t k:Nat} (ht:t<H.length) (hne:k ≠ t) {E:TypeId} {fr:Bool} {e:Ty} {l:List e.den} (ho:H[k]? = some (.rows E fr e l)) :
  Inv N w0 (η.upd t (η.ι k) (η.hv k) (η.ln k)) ((((H.set k .dead).map (AObj.kill (List.contains [t]))).set t (.rows E fr e l))) w ∧
  Ext (List.contains [t]) η H.length w (η.upd t (η.ι k) (η.hv k) (η.ln k)) H.length w ∧
  ∀ v sz,AVR η H.length w (.all k sz) v→AVR (η.upd t (η.ι k) (η.hv k) (η.ln k)) H.length w (.all t sz) v:=by
 have I2:=I.kill_dead k
 generalize hη:η.upd t (η.ι k) (η.hv k) (η.ln k)=η'
 have hι:∀ i,i ≠ t→η'.ι i=η.ι i:=fun i hi=>by rw [← hη];simp [Env.upd,hi]
 have hhv:∀ i,i ≠ t→η'.hv i=η.hv i:=fun i hi=>by rw [← hη];simp [Env.upd,hi]
 have hln:∀ i,i ≠ t→η'.ln i=η.ln i:=fun i hi=>by rw [← hη];simp [Env.upd,hi]
 have hι0:η'.ι t=η.ι k:=by rw [← hη];simp [Env.upd]
 have hv0:η'.hv t=η.hv k:=by rw [← hη];simp [Env.upd]
 have hl0:η'.ln t=η.ln k:=by rw [← hη];simp [Env.upd]
 have hZ:η'.Z=η.Z:=by rw [← hη];rfl
 have hO:η'.O=η.O:=by rw [← hη];rfl
 have hNv:η'.nv=η.nv:=by rw [← hη];rfl
 have x:Ext (List.contains [t]) η H.length w η' H.length w:=by
  refine ⟨fun i hi hk=>?_,fun f b h=>by rw [hZ];exact h,fun _ _ _=>rfl,fun b h=>.inl (by rw [hZ] at h;exact h),fun i _ _=>by rw [hNv]⟩
  have:i ≠ t:=by simpa using hk
  exact ⟨hi,hι i this,hhv i this,hln i this⟩
 have hget:∀ i y,(((H.set k .dead).map (AObj.kill (List.contains [t]))).set t (.rows E fr e l))[i]? = some y→(i=t∧y=.rows E fr e l)∨(i ≠ t∧∃ y0,(H.set k .dead)[i]? = some y0∧y=y0.kill (List.contains [t])):=by
  intro i y hy
  rcases A5 hy with ⟨q1,_,q2⟩ | ⟨hne,hy⟩
  ·exact .inl ⟨q1,q2⟩
  ·obtain ⟨y0,h1,h2⟩:=A3 (l:=H.set k .dead) (f:=AObj.kill (List.contains [t])) hy
   exact .inr ⟨hne,y0,h1,h2.symm⟩
 have hm0:(AObj.rows E fr e l).mat η' t→(AObj.rows E fr e l).mat η k:=fun h=>by simpa [AObj.mat,hv0] using h
 have hmo:∀ i y0,i ≠ t→((y0:AObj).kill (List.contains [t])).mat η' i→y0.mat η i:=by
  intro i y0 hne hm
  rw [H9] at hm
  cases y0<;>simp only [AObj.mat,hhv i hne] at hm ⊢<;>exact hm
 have hlen:(((H.set k .dead).map (AObj.kill (List.contains [t]))).set t (.rows E fr e l)).length=H.length:=by simp
 have apart:∀ i y0,(H.set k .dead)[i]? = some y0→y0.mat η i→(AObj.rows E fr e l).mat η k→η.ι i ≠ η.ι k:=by
  intro i y0 hy hm hk he
  rcases A5 hy with ⟨rfl,_,rfl⟩ | ⟨hik,hy⟩
  ·exact hm.elim
  ·exact hik (I.inj i k y0 _ hy ho hm hk he)
 refine ⟨⟨I.nlt,I.fr,by rw [hZ];exact I.zlt,by rw [hZ];exact I.zsub,by rw [hZ];exact I.znew,fun i=>?_,fun i y hy=>?_,fun i y hy hm=>?_,fun i j y z hy hz my mz he=>?_,fun b q hb=>?_,by rw [hNv];exact I.nvs⟩,x,fun v sz hv=>?_⟩
 ·by_cases hi:i=t
  ·subst hi;rw [hv0];exact I.hvs k
  ·rw [hhv i hi];exact I.hvs i
 ·rw [hlen]
  rcases hget i y hy with ⟨rfl,rfl⟩ | ⟨hni,y0,h1,rfl⟩
  ·obtain ⟨q1,q2⟩:=I.obj k _ ho
   refine ⟨by rw [hl0];exact q1,?_⟩
   rcases q2 with ⟨q2,q3⟩ | ⟨c,cap,q2,q3,q4,q5,q6,q7⟩
   ·exact .inl ⟨by rw [hv0];exact q2,q3⟩
   ·exact .inr ⟨c,cap,by rw [hv0,q2,hι0],by rw [hι0];exact q3,q4,q5,q6,fun m y hm=>by rw [hZ];exact q7 m y hm⟩
  ·have hl:i<(H.set k .dead).length:=(List.getElem?_eq_some_iff.1 h1).1
   have R:=I2.obj i y0 h1
   rw [List.length_set] at R hl
   exact R.killed x hl (by simpa using hni) (fun _=>rfl) ⟨trivial,fun b r q hb=>⟨by rw [hO];exact hb,rfl⟩⟩
 ·rw [hZ]
  rcases hget i y hy with ⟨rfl,rfl⟩ | ⟨hni,y0,h1,rfl⟩
  ·rw [hι0];exact I.own k _ ho (hm0 hm)
  ·rw [hι i hni];exact I2.own i y0 h1 (hmo i y0 hni hm)
 ·rcases hget i y hy with ⟨rfl,rfl⟩ | ⟨hni,y0,h1,rfl⟩<;>rcases hget j z hz with ⟨e2,rfl⟩ | ⟨hnj,z0,h2,rfl⟩
  ·exact e2.symm
  ·rw [hι0,hι j hnj] at he
   exact absurd he.symm (apart j z0 h2 (hmo j z0 hnj mz) (hm0 my))
  ·subst e2
   rw [hι0,hι i hni] at he
   exact absurd he (apart i y0 h1 (hmo i y0 hni my) (hm0 mz))
  ·rw [hι i hni,hι j hnj] at he
   exact I2.inj i j y0 z0 h1 h2 (hmo i y0 hni my) (hmo j z0 hnj mz) he
 ·rw [hO] at hb
  obtain ⟨d1,d2,d3,d4⟩:=I2.dep b q hb
  refine ⟨d1,by rw [hZ];exact d2,d3,fun i y hy hm=>?_⟩
  rcases hget i y hy with ⟨rfl,rfl⟩ | ⟨hni,y0,h1,rfl⟩
  ·rw [hι0];exact (I.dep b q hb).2.2.2 k _ ho (hm0 hm)
  ·rw [hι i hni];exact d4 i y0 h1 (hmo i y0 hni hm)
 ·cases hv with
  | all hid =>
   have:=@AVR.all η' H.length w t sz ht
   rwa [hv0] at this
end

def cutCell (st:St) (b j:Nat):St :=
 match st.heap[b]? with
 | some (.box cs) =>
  match cs[j]? with
  | some (.pre id sz n) =>
   match st.heap[id]? with
   | some (.rows E fr e l)=>{ st.kill [id] with heap:=((st.kill [id]).heap.set id (.rows E fr e (l.take n))).set b (.box ((cs.map (AV.kill1 (List.contains [id]))).set j (.all id sz))) }
   | _=>st
  | _=>st
 | _=>st
def renCell (st:St) (b j t:Nat):St :=
 match st.heap[b]? with
 | some (.box cs) =>
  match cs[j]? with
  | some (.all k sz) =>
   match st.heap[k]? with
   | some (.rows E fr e l) =>
    cond (!(k==t)&&!(b==t)&&Nat.blt t st.heap.length) { st.kill [t] with heap:=(((st.heap.set k .dead).map (AObj.kill (List.contains [t]))).set t (.rows E fr e l)).set b (.box ((cs.map (AV.kill1 (List.contains [t]))).set j (.all t sz))) } st
   | _=>st
  | _=>st
 | _=>st
def normCells:List (Nat×Nat×Nat×TypeId×Ty)→St→St
 | [],st=>st
 | m::r,st=>normCells r (renCell (matCell (cutCell st m.1 m.2.1) m.1 m.2.1 m.2.2.2.1 m.2.2.2.2) m.1 m.2.1 m.2.2.1)

section
variable {P:Program} {N:Nat→Prop} {w0:World} {η η0:Env} {h0:Nat} {we:World} {w:World} {st:St} {a:Act}
theorem SR.cutCell [DF] (s:SR N w0 η0 h0 we η st a w) (b j:Nat):∃ η', SR N w0 η0 h0 we η' (Eng.cutCell st b j) a w:=by
 unfold Eng.cutCell
 split
 ·rename_i cs hb
  split
  ·rename_i id sz n hj
   split
   ·rename_i E fr e l ho
    obtain ⟨J,y,q⟩:=s.inv.cutAt ho n
    have hne:b ≠ id:=fun h=>by subst h;rw [hb] at ho;cases ho
    have hb2:((st.heap.map (AObj.kill (List.contains [id]))).set id (.rows E fr e (l.take n)))[b]? = some (.box (cs.map (AV.kill1 (List.contains [id])))):=by
     rw [List.getElem?_set_ne (Ne.symm hne),List.getElem?_map,hb];rfl
    have hl:((st.heap.map (AObj.kill (List.contains [id]))).set id (.rows E fr e (l.take n))).length=st.heap.length:=by simp
    have J2:=J.recell (j:=j) hb2 (a:=.all id sz) (fun c E' f hc=>by
     rw [hl]
     have hι:(η.upd id (η.ι id) (A1G (η.hv id) n) (l.take n).length).ι b=η.ι b:=by simp [Env.upd,hne]
     rw [hι] at hc
     obtain ⟨_,c', E2,g2,g3,g4⟩:=s.inv.obj b _ hb
     rw [g2] at hc
     cases hc
     exact q _ sz (g4 j _ hj).1)
    refine ⟨_,J2,?_,?_,s.base⟩
    ·simp only [List.length_set,List.length_map,St.kill]
     exact s.ext.trans y (fun i hi hk=>A1b (by rw [s.base];exact hi) hk)
    ·simp only [List.length_set,List.length_map,St.kill]
     exact s.sl.kill y
   ·exact ⟨η,s⟩
  ·exact ⟨η,s⟩
 ·exact ⟨η,s⟩
theorem SR.renCell [DF] (s:SR N w0 η0 h0 we η st a w) (b j t:Nat):∃ η', SR N w0 η0 h0 we η' (Eng.renCell st b j t) a w:=by
 unfold Eng.renCell
 split
 ·rename_i cs hb
  split
  ·rename_i k sz hj
   split
   ·rename_i E fr e l ho
    cases hc:(!(k==t)&&!(b==t)&&Nat.blt t st.heap.length) with
    | false=>exact ⟨η,s⟩
    | true =>
     simp only [Bool.and_eq_true,Bool.not_eq_true', beq_eq_false_iff_ne] at hc
     obtain ⟨⟨hkt,hbt⟩,htl⟩:=hc
     have htl:t<st.heap.length:=Nat.le_of_ble_eq_true htl
     simp only [cond_true]
     obtain ⟨J,y,q⟩:=s.inv.renameAt htl hkt ho
     have hbk:b ≠ k:=fun h=>by subst h;rw [hb] at ho;cases ho
     have hb2:(((st.heap.set k .dead).map (AObj.kill (List.contains [t]))).set t (.rows E fr e l))[b]? = some (.box (cs.map (AV.kill1 (List.contains [t])))):=by
      rw [List.getElem?_set_ne (Ne.symm hbt),List.getElem?_map,List.getElem?_set_ne (Ne.symm hbk),hb];rfl
     have hl:(((st.heap.set k .dead).map (AObj.kill (List.contains [t]))).set t (.rows E fr e l)).length=st.heap.length:=by simp
     have J2:=J.recell (j:=j) hb2 (a:=.all t sz) (fun c E' f hc=>by
      rw [hl]
      have hι:(η.upd t (η.ι k) (η.hv k) (η.ln k)).ι b=η.ι b:=by simp [Env.upd,hbt]
      rw [hι] at hc
      obtain ⟨_,c', E2,g2,g3,g4⟩:=s.inv.obj b _ hb
      rw [g2] at hc
      cases hc
      exact q _ sz (g4 j _ hj).1)
     refine ⟨_,J2,?_,?_,s.base⟩
     ·simp only [List.length_set,List.length_map,St.kill]
      exact s.ext.trans y (fun i hi hk=>A1b (by rw [s.base];exact hi) hk)
     ·simp only [List.length_set,List.length_map,St.kill]
      exact s.sl.kill y
   ·exact ⟨η,s⟩
  ·exact ⟨η,s⟩
 ·exact ⟨η,s⟩
theorem SR.normCells [DF]:∀ (nb:List (Nat×Nat×Nat×TypeId×Ty)) (st:St) (η:Env),SR N w0 η0 h0 we η st a w→∃ η', SR N w0 η0 h0 we η' (Eng.normCells nb st) a w:=by
 intro nb
 induction nb with
 | nil=>intro st η s;exact ⟨η,s⟩
 | cons m r ih =>
  intro st η s
  obtain ⟨η1,s1⟩:=s.cutCell m.1 m.2.1
  obtain ⟨η2,s2⟩:=s1.matCell m.1 m.2.1 m.2.2.2.1 m.2.2.2.2
  obtain ⟨η3,s3⟩:=s2.renCell m.1 m.2.1 m.2.2.1
  exact ih _ η3 s3
end

section
variable {P:Program} {N:Nat→Prop} {w0:World} {w:World} {tt:TT} {S:Tab} {QF:FuncId→Bool}
end
end Go.Proofs.Ytccelbeahdcooaa.Eng
