/- The engine, part 23: loops, functions. -/
import Derived.Test.YtccelbeahdcooaaE33
import Derived.Scope
namespace Go.Proofs.Ytccelbeahdcooaa.Eng
open Go Go.RowKit
set_option linter.unusedSimpArgs false
set_option linter.unusedVariables false

section
variable {P:Program} {N:Nat→Prop} {w0:World} {η0:Env} {h0:Nat} {we:World} {R:Type}
variable {η:Env} {st:St} {a:Act} {w:World} {o:Oper} {next:Act→World→Prop} {Q:Exit→Act→World→Prop} {r:R} {tt:TT} {S:Tab} {QF:FuncId→Bool}

structure Good (P:Program) (tt:TT) (S:Tab) (QF:FuncId→Bool):Prop where
 types:TTok P tt
 tab:TabOk P S
 quiet:QuietTab S QF
 loc:LocalTab S
 mixed:P.follows .mixedOrders=true

theorem Good.deep {P:Program} {tt:TT} {S:Tab} {QF:FuncId→Bool} (G:Good P tt S QF) (os:TypeId→List TypeId):Good P (tt.deep os) S QF:=⟨G.types.deep os,G.tab,G.quiet,G.loc,G.mixed⟩

theorem SR.drawn [DF] (s:SR N w0 η0 h0 we η st a w):SR N w0 η0 h0 we η st a { w with drawn:=w.drawn+1 }:=by
 have x:Ext NoK η st.heap.length w η st.heap.length { w with drawn:=w.drawn+1 }:=⟨fun id hid _=>⟨hid,rfl,rfl,rfl⟩,fun _ _ hz=>hz,fun _ _ _=>rfl,fun _ h=>.inl h,fun _ _ _=>rfl⟩
 refine ⟨⟨s.inv.nlt,⟨s.inv.fr.os,s.inv.fr.tape,s.inv.fr.output,s.inv.fr.size,s.inv.fr.block⟩,s.inv.zlt,s.inv.zsub,s.inv.znew,s.inv.hvs,fun i y hy=>?_,s.inv.own,s.inv.inj,s.inv.dep,s.inv.nvs⟩,⟨s.ext.nm,s.ext.z,s.ext.same,s.ext.zold,s.ext.nn⟩,⟨s.sl.size,fun i c hc=>(s.sl.slot i c hc).ext x,s.sl.defers⟩,s.base⟩
 have R:=s.inv.obj i y hy
 cases y with
 | dead=>trivial
 | box cs =>
  obtain ⟨hl,c,E,hc,hs,hr⟩:=R
  exact ⟨hl,c,E,hc,hs,fun j a ha=>⟨(hr j a ha).1.ext x,(hr j a ha).2⟩⟩
 | rows E fr e l =>
  obtain ⟨hl,hr⟩:=R
  refine ⟨hl,?_⟩
  rcases hr with ⟨h1,h2⟩ | ⟨c,cap,h1,h2,h3,h4,h5,h6⟩
  ·exact .inl ⟨h1,h2⟩
  ·exact .inr ⟨c,cap,h1,h2,h3,h4,h5,fun i y hy=>lay_cell_mono x.z x.same (h6 i y hy)⟩
 | deep E Es e l =>
  obtain ⟨hl,hr⟩:=R
  refine ⟨hl,?_⟩
  rcases hr with ⟨h1,h2⟩ | ⟨c,cap,h1,h2,h3,h4,h5,h6⟩
  ·exact .inl ⟨h1,h2⟩
  ·exact .inr ⟨c,cap,h1,h2,h3,h4,h5,fun i y hy=>Own.mono (w:=w) (w':={ w with drawn:=w.drawn+1 }) (η:=η) (η':=η) rfl ⟨trivial,fun b r q hb=>⟨hb,rfl⟩⟩ x.z x.same _ _ _ _ _ (h6 i y hy)⟩
 | hole E Es e l row off =>
  obtain ⟨hl,c,cap,h1,h2,h3,h4,h5,h6⟩:=R
  exact ⟨hl,c,cap,h1,h2,h3,h4,h5,fun k y hy=>Own.mono (w:=w) (w':={ w with drawn:=w.drawn+1 }) (η:=η.holeAt i row off) (η':=η.holeAt i row off) rfl ⟨trivial,fun b r q hb=>⟨hb,rfl⟩⟩ x.z x.same _ _ _ _ _ (h6 k y hy)⟩

theorem keepOnly_get (keep:List Nat):∀ (l:List AV) (i j:Nat) (c:AV),(keepOnly keep i l)[j]? = some c→c=.junk∨l[j]? = some c:=by
 intro l
 induction l with
 | nil=>intro i j c h;simp [keepOnly] at h
 | cons x l ih =>
  intro i j c h
  simp only [keepOnly] at h
  cases j with
  | zero =>
   simp only [List.getElem?_cons_zero,Option.some.injEq] at h
   split at h
   ·exact .inr (by rw [h];rfl)
   ·exact .inl h.symm
  | succ j=>simpa using ih (i+1) j c (by simpa using h)

theorem keepOnly_length (keep:List Nat):∀ (l:List AV) (i:Nat),(keepOnly keep i l).length=l.length:=by
 intro l
 induction l with
 | nil=>intro i;rfl
 | cons x l ih=>intro i;simp [keepOnly,ih]

theorem cut_ext {h m:Nat}:Ext (fun id=>decide (h≤id)) η m w η (min h m) w :=
 ⟨fun id hi hk=>⟨by simp at hk;omega,rfl,rfl,rfl⟩,fun _ _ hz=>hz,fun _ _ _=>rfl,fun _ h=>.inl h,fun _ _ _=>rfl⟩

theorem SR.scrub [DF] (s:SR N w0 η0 h0 we η st a w) (sc:Scrub) {h:Nat} (hb:st.base≤h):SR N w0 η0 h0 we η (st.scrub sc h) a w:=by
 have x:Ext (fun id=>decide (h≤id)) η st.heap.length w η (min h st.heap.length) w:=cut_ext
 have hlen:(st.scrub sc h).heap.length=min h st.heap.length:=by simp [St.scrub]
 have hget:∀ i y,(st.scrub sc h).heap[i]? = some y→i<h∧∃ y0,st.heap[i]? = some y0∧y=y0.kill fun id=>decide (h≤id):=by
  intro i y hy
  obtain ⟨y0,h1,h2⟩:=getElem?_map_some (l:=st.heap.take h) (f:=AObj.kill fun id=>decide (h≤id)) hy
  rw [List.getElem?_take] at h1
  split at h1
  ·exact ⟨by assumption,y0,h1,h2.symm⟩
  ·cases h1
 refine ⟨⟨s.inv.nlt,s.inv.fr,s.inv.zlt,s.inv.zsub,s.inv.znew,s.inv.hvs,fun i y hy=>?_,fun i y hy hm=>?_,fun i j y z hy hz my mz he=>?_,fun k q hk=>?_,s.inv.nvs⟩,?_,⟨?_,fun i c hc=>?_,s.sl.defers⟩,s.base⟩
 ·obtain ⟨hlt,y0,h1,rfl⟩:=hget i y hy
  rw [hlen]
  exact (s.inv.obj i y0 h1).killed x (List.getElem?_eq_some_iff.1 h1).1 (by simpa using hlt) (fun _=>rfl) ⟨trivial,fun b r q hb=>⟨hb,rfl⟩⟩
 ·obtain ⟨hlt,y0,h1,rfl⟩:=hget i y hy
  exact s.inv.own i y0 h1 (mat_kill.1 hm)
 ·obtain ⟨_,y0,h1,rfl⟩:=hget i y hy
  obtain ⟨_,z0,h2,rfl⟩:=hget j z hz
  exact s.inv.inj i j y0 z0 h1 h2 (mat_kill.1 my) (mat_kill.1 mz) he
 ·obtain ⟨d1,d2,d3,d4⟩:=s.inv.dep k q hk
  refine ⟨d1,d2,d3,fun i y hy hm=>?_⟩
  obtain ⟨_,y0,h1,rfl⟩:=hget i y hy
  exact d4 i y0 h1 (mat_kill.1 hm)
 ·rw [hlen]
  refine ⟨fun id hid hk=>?_,s.ext.z,s.ext.same,s.ext.zold,s.ext.nn⟩
  obtain ⟨p1,p2,p3,p4⟩:=s.ext.nm id hid hk
  have:=s.base
  exact ⟨by omega,p2,p3,p4⟩
 ·simp [St.scrub,keepOnly_length,s.sl.size]
 ·rw [hlen]
  obtain ⟨y,hy,rfl⟩:=getElem?_map_some (l:=keepOnly sc.keep 0 st.slots) (f:=AV.kill fun id=>decide (h≤id)) hc
  rcases keepOnly_get sc.keep st.slots 0 i y hy with rfl | hy
  ·exact .junk _
  ·exact (s.sl.slot i y hy).kill x

theorem SR.matCell [DF] (s:SR N w0 η0 h0 we η st a w) (b j:Nat) (E:TypeId) (ty:Ty):∃ η', SR N w0 η0 h0 we η' (Eng.matCell st b j E ty) a w:=by
 unfold Eng.matCell
 split
 ·rename_i cs hb
  split
  ·rename_i hj
   obtain ⟨η', s', ra,x⟩:=s.adoptNil (nilRows E ty) ty.cells (rowsOr_nil _ _ _)
   have hlt:=(List.getElem?_eq_some_iff.1 hb).1
   have hb':(st.heap++[nilRows E ty])[b]? = some (.box cs):=by rw [List.getElem?_append_left hlt];exact hb
   have hι:η'.ι b=η.ι b:=(x.nm b hlt rfl).2.1
   have J:=s'.inv.recell (j:=j) hb' (a:=.all st.heap.length ty.cells) (fun c E' f hc=>by
    rw [hι] at hc
    obtain ⟨_,c', E2,g2,g3,g4⟩:=s.inv.obj b _ hb
    rw [g2] at hc
    cases hc
    have:=(g4 j _ hj).1
    generalize c.getD j undef=u at this ⊢
    cases this with
    | raw=>exact ra)
   refine ⟨η', J,?_,?_,s'.base⟩
   ·have:=s'.ext;simpa [St.new] using this
   ·have:=s'.sl;simpa [St.new] using this
  ·exact ⟨η,s⟩
 ·exact ⟨η,s⟩
theorem SR.matOne [DF] (s:SR N w0 η0 h0 we η st a w) (m:Nat×TypeId×Ty):∃ η', SR N w0 η0 h0 we η' (Eng.matOne st m) a w:=by
 simp only [Eng.matOne]
 cases Nat.ble 2000000 m.1 with
 | true =>
  simp only [cond_true]
  split
  ·exact s.matCell _ _ _ _
  ·exact ⟨η,s⟩
 | false =>
 simp only [cond_false,Eng.matSlot]
 split
 ·rename_i hraw
  have hr:=ev_slot s m.1
  rw [hraw] at hr
  generalize hgv:a.tmps.getD m.1 undef=u at hr
  cases hr with
  | raw =>
   obtain ⟨η', s', ra,_⟩:=s.adoptNil (nilRows m.2.1 m.2.2) m.2.2.cells (rowsOr_nil _ _ _)
   exact ⟨η', s'.refine' m.1 (by rw [hgv];exact ra)⟩
 ·rename_i id sz hall
  have hr:=ev_slot s m.1
  rw [hall] at hr
  cases hc:(m.2.1==1000000) with
  | false=>exact ⟨η,s⟩
  | true =>
   obtain ⟨η', s', _,r1,_⟩:=s.freeze1 (.all id sz)
   exact ⟨η', s'.refine' m.1 (r1 _ hr)⟩
 ·exact ⟨η,s⟩

theorem SR.matAll [DF]:∀ (ms:List (Nat×TypeId×Ty)) (st:St) (η:Env),SR N w0 η0 h0 we η st a w→∃ η', SR N w0 η0 h0 we η' (ms.foldl Eng.matOne st) a w:=by
 intro ms
 induction ms with
 | nil=>intro st η s;exact ⟨η,s⟩
 | cons m ms ih =>
  intro st η s
  obtain ⟨η1,s1⟩:=s.matOne m
  exact ih _ _ s1

theorem wp_loop_fuel {c:Code} (J:Nat→Act→World→Prop) (h0:∀ a w,¬ J 0 a w) (round:∀ n a w,J (n+1) a w→c.wp P (Exit.then (J n) Q) a w):∀ n a w,J n a w→(Code.loop c).wp P Q a w:=by
 intro n a w hJ b k cs
 have key:∀ n a w,J n a w→∃ e a' w', Q e a' w'∧Arrives P (lone (b.at a (.code c::.inLoop c::k)) cs w) b k cs e a' w':=by
  intro n
  induction n with
  | zero=>intro a w hJ;exact absurd hJ (h0 a w)
  | succ n ih =>
   intro a w hJ
   obtain ⟨e,a₁,w₁,hq,harr⟩:=round n a w hJ b (.inLoop c::k) cs
   cases e with
   | normal =>
    obtain ⟨e₂,a₂,w₂,hq₂,harr₂⟩:=ih a₁ w₁ hq
    exact ⟨e₂,a₂,w₂,hq₂,.of_steps (Steps.trans harr (.one step_inLoop)) harr₂⟩
   | exit id=>exact ⟨_,a₁,w₁,hq,.pass (x:=.inLoop c) rfl (fun _ _=>.inl (by simp)) harr⟩
   | goto l=>exact ⟨_,a₁,w₁,hq,.pass (x:=.inLoop c) rfl (fun _ _=>.inl (by simp)) harr⟩
   | ret=>exact ⟨_,a₁,w₁,hq,.pass (x:=.inLoop c) rfl (fun _ _=>.inl (by simp)) harr⟩
   | panic ch=>exact ⟨_,a₁,w₁,hq,.pass (x:=.inLoop c) rfl (fun _ _=>.inl (by simp)) harr⟩
   | outgrown=>exact ⟨_,a₁,w₁,hq,.pass (x:=.inLoop c) rfl (fun _ _=>.inl (by simp)) harr⟩
 obtain ⟨e,a', w', hq,harr⟩:=key n a w hJ
 exact ⟨e,a', w', hq,.of_steps (.one step_loop) harr⟩

def Ex.toExit:Ex→Exit
 | .normal=>.normal
 | .exit id=>.exit id
 | .ret=>.ret

theorem Tree.run_res (t:Tree) (K:Ex→St→Option R):t.run K=t.res.bind fun p=>K p.1 p.2:=by
 induction t with
 | leaf e st=>rfl
 | br b x y ihx ihy=>cases b<;>simp [Tree.run,Tree.res,ihx,ihy]
 | fail=>rfl

def LoopWp (P:Program) (l:St→Option Tree) (x:Code):Prop :=
 ∀ [DF] st t,l st=some t→∀ p,t.res=some p→∀ N w0 η0 h0 we η a w (Q:Exit→Act→World→Prop),SR N w0 η0 h0 we η st a w →
  (∀ η' a' w', SR N w0 η0 h0 we η' p.2 a' w'→Q p.1.toExit a' w')→(Code.loop x).wp P Q a w

theorem execC_sound [DF] (G:Good P tt S QF) (L:Nat→St→Option Tree) (c:Code):∀ (b:Nat) (st:St) (K:Ex→St→Option R) (Q:Exit→Act→World→Prop) (η:Env) (a:Act) (w:World),(∀ p∈loopsIn b c,LoopWp P (L p.1) p.2)→execC P tt S QF L b c st K=some r →
  (∀ e st' η' a' w', K e st'=some r→SR N w0 η0 h0 we η' st' a' w'→Q e.toExit a' w')→SR N w0 η0 h0 we η st a w→c.wp P Q a w:=by
 induction c with
 | skip=>intro b st K Q η a w hL h hq s;simp only [execC] at h;exact wp_skip (hq _ _ _ _ _ h s)
 | region id ops draw =>
  intro b st K Q η a w hL h hq s
  simp only [execC] at h
  cases draw with
  | true =>
   simp only [Bool.true_and] at h
   split at h
   ·split at h
    ·rename_i hfo
     simp only [execF] at h
     have hln:(osOf QF ops).length=ops.size:=by simp [osOf]
     have DK:=floatOk_spec hfo
     obtain ⟨used,A0,a1,a2,a3,a4,a5,a6,a7,a9⟩:=execFl_spec G.quiet DK _ 0 [] st (lateL_get 0) h
     obtain ⟨F,V,f0,v0,f1,f4,f2,f5⟩:=execCore_spec G.quiet DK (osOf QF ops) 0 used A0 osOf_get a1
     rw [hln,Nat.zero_add] at f1 f2 f4 f5
     refine wp_region_any G.mixed ?_
     refine float_sound G.types G.tab G.quiet G.loc DK (V:=V) (F:=F) (stI:=st) (by rw [f0];exact a3) (by rw [f0];exact a4) (by rw [f0];exact a5) (by rw [f0];exact a6)
      (fun t ht=>by rw [f0];exact a7 t (fun j _ hj=>ht j hj)) (fun i o ho hf=>by
       rcases DK.late i o ho hf with h0 | ⟨b,h0,hb,_⟩
       ·rw [h0,f0,v0];exact a9 i o (Nat.zero_le _) ho hf h0
       ·rw [h0];exact f5 b (Nat.zero_le _) (bar_lt hb) hb i o ho hf h0) (fun i hi=>f4 i (Nat.zero_le _) hi) (fun i o ho=>f2 i o (Nat.zero_le _) (Array.getElem?_eq_some_iff.1 ho).1 ho) (fun η' a' w' s'=>hq _ _ _ _ _ f1 s') s.drawn
    ·cases h
   ·rename_i hd
    obtain ⟨tr,st', t,hk⟩:=execOps_trace ops _ st (K .normal) r h
    obtain ⟨F,f0,fl,fs⟩:=t.states
    refine wp_region_any G.mixed ?_
    refine draw_sound G.types G.tab G.quiet (drawOk_spec (by simpa using hd)) (F:=F) (fun i o ho=>fs i o (by simpa using ho)) (fun η' a' w' s'=>?_) (by rw [f0];exact s.drawn)
    have e:F ops.size=st':=by rw [← fl];simp
    rw [e] at s'
    exact hq _ _ _ _ _ hk s'
  | false =>
   simp only [Bool.false_and,Bool.false_eq_true,if_false] at h
   exact wp_region_list (execOps_sound G.types G.tab ops ops.toList st (K .normal) η a w s h (fun st' η' a' w' hk s'=>hq _ _ _ _ _ hk s'))
 | seq x y ihx ihy =>
  intro b st K Q η a w hL h hq s
  simp only [execC] at h
  refine wp_seq (ihx b st _ _ η a w (fun p hp=>hL p (by simp [loopsIn,hp])) h ?_ s)
  intro e st' η' a' w' hk s'
  cases e with
  | normal=>exact ihy b st' K Q η' a' w' (fun p hp=>hL p (by simp [loopsIn,hp])) hk hq s'
  | exit id=>exact hq _ _ _ _ _ hk s'
  | ret=>exact hq _ _ _ _ _ hk s'
 | cond c x y ihx ihy =>
  intro b st K Q η a w hL h hq s
  simp only [execC] at h
  split at h
  ·rename_i v hc
   have hv:=asBool_rel (s.ev c) hc
   have s1:∀ u,v=u→SR N w0 η0 h0 we η (st.known c u) a w:=by
    intro u hu
    cases c with
    | tmp t=>exact s.refine' t (by have:a.tmps.getD t undef=.bool v:=hv;rw [this,hu];exact .t rfl (by simp [Lay]))
    | _=>exact s
   rcases cond_some h with ⟨rfl,h⟩ | ⟨rfl,h⟩
   ·exact wp_cond_true hv (ihx b _ K Q η a w (fun p hp=>hL p (by simp [loopsIn,hp])) h hq (s1 _ rfl))
   ·exact wp_cond_false hv (ihy b _ K Q η a w (fun p hp=>hL p (by simp [loopsIn,hp])) h hq (s1 _ rfl))
  ·cases h
 | block id x ih =>
  intro b st K Q η a w hL h hq s
  simp only [execC] at h
  refine wp_block (ih id st _ _ η a w hL h ?_ s)
  intro e st' η' a' w' hk s'
  cases e with
  | normal=>exact hq _ _ _ _ _ hk s'
  | ret=>exact hq _ _ _ _ _ hk s'
  | exit id' =>
   simp only at hk
   simp only [Ex.toExit,Exit.inBlock]
   split at hk
   ·rename_i he;rw [if_pos he];exact hq .normal _ _ _ _ hk s'
   ·rename_i he;rw [if_neg he];exact hq (.exit id') _ _ _ _ hk s'
 | loop x ih =>
  intro b st K Q η a w hL h hq s
  simp only [execC] at h
  split at h
  ·rename_i t ht
   rw [Tree.run_res] at h
   obtain ⟨p,hp,h⟩:=Option.bind_eq_some_iff.1 h
   exact hL (b,x) (by simp [loopsIn]) st t ht p hp N w0 η0 h0 we η a w Q s (fun η' a' w' s'=>hq _ _ _ _ _ h s')
  ·cases h
 | exit id=>intro b st K Q η a w hL h hq s;simp only [execC] at h;exact wp_exit (hq _ _ _ _ _ h s)
 | label l=>intro b st K Q η a w hL h hq s;simp only [execC] at h;exact wp_label (hq _ _ _ _ _ h s)
 | ret=>intro b st K Q η a w hL h hq s;simp only [execC] at h;exact wp_ret (hq _ _ _ _ _ h s)
 | _=>intro b st K Q η a w hL h;simp [execC] at h

end
end Go.Proofs.Ytccelbeahdcooaa.Eng
