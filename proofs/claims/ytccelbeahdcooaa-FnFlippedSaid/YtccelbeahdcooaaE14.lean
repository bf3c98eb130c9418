/- The engine, part 14: every operation. -/
import Derived.Test.YtccelbeahdcooaaE13
namespace Go.Proofs.Ytccelbeahdcooaa.Eng
open Go Go.RowKit
set_option linter.unusedSimpArgs false
set_option linter.unusedVariables false

section
variable {P:Program} {N:Nat→Prop} {w0:World} {η0:Env} {h0:Nat} {we:World} {R:Type}
variable {η:Env} {st:St} {a:Act} {w:World} {o:Oper} {next:Act→World→Prop} {Q:Exit→Act→World→Prop} {K:AV→St→Option R} {r:R} {tt:TT} {S:Tab}

theorem map_two {α β:Type} {f:α→β} {l:List α} {p q:β} (h:l.map f=[p,q]):∃ x y,l=[x,y]∧f x=p∧f y=q:=by
 cases l with
 | nil=>simp at h
 | cons x l =>
  cases l with
  | nil=>simp at h
  | cons y l =>
   cases l with
   | nil=>simp at h;exact ⟨x,y,rfl,h.1,h.2⟩
   | cons z l=>simp at h

theorem evalOp_sound [DF] (hT:TTok P tt) (hS:TabOk P S) (s:SR N w0 η0 h0 we η st a w) (h:evalOp P tt S st o K=some r) (hp:Post N w0 η0 h0 we K r o a next):o.wp P a w next Q:=by
 cases ho:o.op with
 | move x=>simp only [evalOp,ho] at h;exact op_move s (.inl ho) h hp
 | assign x=>simp only [evalOp,ho] at h;exact op_move s (.inr ho) h hp
 | pick c x y =>
  simp only [evalOp,ho] at h
  split at h
  ·rename_i v hc;exact op_pick s ho hc h hp
  ·cases h
 | alloc E =>
  simp only [evalOp,ho] at h
  split at h
  ·rename_i d hd;exact op_alloc hT s ho hd h hp
  ·cases h
 | box E x =>
  simp only [evalOp,ho] at h
  split at h
  ·rename_i hc;exact op_box s ho hc h hp
  ·cases h
 | build t parts =>
  simp only [evalOp,ho] at h
  split at h
  ·rename_i d hd
   split at h
   ·rename_i fs hfs
    split at h
    ·rename_i hall
     split at h
     ·rename_i cs hf;exact op_build hT s ho hd hfs hall hf h hp
     ·cases h
    ·cases h
   ·split at h
    ·rename_i hak
     split at h
     ·rename_i cs hf;exact op_buildArr hT s ho hd hak hf h hp
     ·cases h
    ·cases h
   ·cases h
  ·cases h
 | buildSlice t len parts =>
  simp only [evalOp,ho] at h
  split at h
  ·rename_i E d he
   split at h
   ·rename_i e hty
    split at h
    ·split at h
     ·rename_i st' hb;exact op_buildOwn hT s ho he hb h hp
     ·cases h
    split at h
    ·rename_i hc
     simp only [Bool.and_eq_true,beq_iff_eq,decide_eq_true_eq] at hc
     split at h
     ·rename_i cs hf
      split at h
      ·rename_i l f hr;exact op_buildSlice hT s ho he hc.1 hc.2 hf hr h hp
      ·cases h
     ·cases h
    ·cases h
   ·cases h
  ·cases h
 | load t x =>
  simp only [evalOp,ho] at h
  split at h
  ·rename_i d hd
   split at h
   ·rename_i cs hr
    split at h
    ·rename_i v hv;exact op_load hT s ho hd hr hv h hp
    ·cases h
   ·split at h
    ·rename_i b v hv;exact op_loadArr hT s ho hd hv h hp
    ·cases h
  ·cases h
 | store t x y =>
  simp only [evalOp,ho] at h
  split at h
  ·rename_i d hd
   split at h
   ·rename_i hc
    simp only [Bool.and_eq_true,beq_iff_eq,decide_eq_true_eq] at hc
    split at h
    ·rename_i id row sz sub hx
     split at h
     ·split at h
      ·rename_i st' hw;exact op_store hT s ho hd hc.1 hc.2 ⟨id,row,sz,sub,hx,.inl hw⟩ h hp
      ·split at h
       ·rename_i b st' hw;exact op_storeArr hT s ho hd hc.1 hc.2 (by rw [hx];exact hw) h hp
       ·cases h
     ·split at h
      ·rename_i st' hw;exact op_store hT s ho hd hc.1 hc.2 ⟨id,row,sz,sub,hx,.inr hw⟩ h hp
      ·cases h
     ·split at h
      ·rename_i st' hw;exact op_store hT s ho hd hc.1 hc.2 ⟨id,row,sz,sub,hx,.inr hw⟩ h hp
      ·split at h
       ·rename_i st' hw;exact op_storeOwn hT s ho hd hc.1 hc.2 hx hw h hp
       ·cases h
     ·cases h
    ·cases h
   ·cases h
  ·cases h
 | nilCheck x =>
  simp only [evalOp,ho] at h
  split at h
  ·rename_i id row sz sub hx;exact op_nilCheck s ho hx (.inl ⟨_,_,_,_,rfl⟩) h hp
  ·rename_i fr e l row off hx;exact op_nilCheck s ho hx (.inr ⟨_,_,_,_,_,rfl⟩) h hp
  ·cases h
 | fieldAddr t x f =>
  simp only [evalOp,ho] at h
  split at h
  ·rename_i off d id row sz sub hf hx;exact op_fieldAddr hT s ho hf hx (.inl ⟨_,_,_,_,rfl,rfl⟩) h hp
  ·rename_i off d fr e l row o' hf hx;exact op_fieldAddr hT s ho hf hx (.inr ⟨_,_,_,_,_,rfl,rfl⟩) h hp
  ·cases h
 | field t x f =>
  simp only [evalOp,ho] at h
  split at h
  ·rename_i off d cs hf hx
   split at h
   ·rename_i v hv;exact op_field hT s ho hf hx hv h hp
   ·cases h
  ·cases h
 | indexAddr t x i =>
  simp only [evalOp,ho] at h
  split at h
  ·rename_i E d n he hi
   split at h
   ·rename_i fr e l hx
    split at h
    ·rename_i hsz
     obtain ⟨hb,h⟩:=cond_none h
     simp only [decide_eq_true_eq] at hb
     exact op_indexAddr hT s ho he hi (.inl ⟨fr,e,l,hx,hsz,hb.1,hb.2,rfl⟩) h hp
    ·cases h
   ·rename_i id sz hx
    split at h
    ·rename_i E' fr e l hob
     split at h
     ·rename_i hc
      simp only [Bool.and_eq_true,beq_iff_eq,decide_eq_true_eq] at hc
      obtain ⟨hb,h⟩:=cond_none h
      simp only [decide_eq_true_eq] at hb
      exact op_indexAddr hT s ho he hi (.inr (.inl ⟨id,sz,e,l,hx,.inl ⟨E', fr,hob⟩,hc.1,hc.2,hb.1,hb.2,rfl⟩)) h hp
     ·cases h
    ·rename_i E' Es e l hob
     split at h
     ·rename_i hc
      simp only [Bool.and_eq_true,beq_iff_eq,decide_eq_true_eq] at hc
      obtain ⟨hb,h⟩:=cond_none h
      simp only [decide_eq_true_eq] at hb
      exact op_indexAddr hT s ho he hi (.inr (.inl ⟨id,sz,e,l,hx,.inr ⟨E', Es,hob⟩,hc.1,hc.2,hb.1,hb.2,rfl⟩)) h hp
     ·cases h
    ·cases h
   ·rename_i id sz lo k hx
    split at h
    ·rename_i E' fr e l hob
     split at h
     ·rename_i hc
      simp only [Bool.and_eq_true,beq_iff_eq,decide_eq_true_eq] at hc
      obtain ⟨hb,h⟩:=cond_none h
      simp only [decide_eq_true_eq] at hb
      exact op_indexAddr hT s ho he hi (.inr (.inr (.inl ⟨id,sz,lo,k,hx,by omega,hb.1,hb.2,rfl⟩))) h hp
     ·cases h
    ·cases h
   ·rename_i id sz k hx
    split at h
    ·rename_i E' fr e l hob
     split at h
     ·rename_i hc
      simp only [Bool.and_eq_true,beq_iff_eq,decide_eq_true_eq] at hc
      obtain ⟨hb,h⟩:=cond_none h
      simp only [decide_eq_true_eq] at hb
      exact op_indexAddr hT s ho he hi (.inr (.inr (.inr ⟨id,sz,k,E', fr,e,l,hx,hob,hc.1,hc.2,hb.1,hb.2.1,hb.2.2,rfl⟩))) h hp
     ·cases h
    ·cases h
   ·cases h
  ·rename_i n he hi
   split at h
   ·rename_i b v hv;exact op_addrArr hT s ho hi hv h hp
   ·cases h
  ·cases h
 | index t x i =>
  simp only [evalOp,ho] at h
  split at h
  ·rename_i fr s' n hd hx hi
   obtain ⟨hb,h⟩:=cond_none h
   simp only [decide_eq_true_eq] at hb
   exact op_index hT s ho hd hx hi hb.1 hb.2 h hp
  ·rename_i m E n hd hi
   split at h
   ·rename_i b v hv;exact op_idxArr hT s ho hi hv h hp
   ·cases h
  ·cases h
 | extract x i =>
  simp only [evalOp,ho] at h
  split at h
  ·rename_i cs hx
   split at h
   ·rename_i c hc;exact op_extract s ho hx hc h hp
   ·cases h
  ·cases h
 | slice t x lo hi mx =>
  simp only [evalOp,ho] at h
  split at h
  ·split at h
   ·split at h
    ·rename_i id sz q k hx
     split at h
     ·rename_i E d n hh mm he hn e1 e2
      split at h
      ·obtain ⟨hc,h⟩:=cond_none h
       simp only [decide_eq_true_eq] at hc
       exact op_slice3 hT s ho he hn e1 e2 hc.1 hc.2.1 hc.2.2 (.inl ⟨k,hx⟩) h hp
      ·cases h
     ·cases h
    ·rename_i id sz hx
     split at h
     ·rename_i E d n hh mm he hn e1 e2
      split at h
      ·obtain ⟨hc,h⟩:=cond_none h
       simp only [decide_eq_true_eq] at hc
       exact op_slice3 hT s ho he hn e1 e2 hc.1 hc.2.1 hc.2.2 (.inr ⟨hx,rfl⟩) h hp
      ·cases h
     ·cases h
    ·split at h
     ·rename_i he hn h1 h2
      split at h
      ·split at h
       ·rename_i hok;exact op_slice0 hT s ho he hn hok h1 h2 h hp
       ·cases h
      ·cases h
     ·cases h
   ·split at h
    ·rename_i id sz hx
     split at h
     ·rename_i E d n ll hh mm he hn e0 e1 e2
      split at h
      ·rename_i hsz
       obtain ⟨hc,h⟩:=cond_none h
       simp only [decide_eq_true_eq] at hc
       exact op_slice4 hT s ho he hn e0 e1 e2 hc.1 hc.2.1 hc.2.2.1 hc.2.2.2 hsz hx h hp
      ·cases h
     ·cases h
    ·rename_i fr e xs hx
     split at h
     ·rename_i E d ll hh mm he e0 e1 e2
      split at h
      ·rename_i hsz
       obtain ⟨hc,h⟩:=cond_none h
       simp only [decide_eq_true_eq] at hc
       exact op_sliceT hT s ho he e0 e1 e2 hc.1 hc.2.1 hc.2.2.1 hc.2.2.2 hsz hx h hp
      ·cases h
     ·cases h
    ·cases h
   ·cases h
  ·rename_i hmx
   split at h
   ·cases h
   ·rename_i n hn
    split at h
    ·rename_i hh ll ehh ell
     have b1:BoundOk st lo 0 ll:=by
      cases lo with
      | none=>simp only [Option.some.injEq] at ell;exact .inl ⟨rfl,ell.symm⟩
      | some y=>exact .inr ⟨y,rfl,ell⟩
     have b2:BoundOk st hi n hh:=by
      cases hi with
      | none=>simp only [Option.some.injEq] at ehh;exact .inl ⟨rfl,ehh.symm⟩
      | some y=>exact .inr ⟨y,rfl,ehh⟩
     split at h
     ·rename_i fr b hd hx
      obtain ⟨hb,hk⟩:=cond_none h
      simp only [decide_eq_true_eq] at hb
      rw [hx] at hn
      simp only [AV.len,Option.some.injEq] at hn
      subst hn
      exact op_slice_str hT s ho hd hx b1 b2 hb.1 hb.2.1 hb.2.2 hk hp
     ·rename_i E fr e xs hd hx
      split at h
      ·rename_i d hE
       split at h
       ·rename_i hsz
        obtain ⟨hb,h⟩:=cond_none h
        simp only [decide_eq_true_eq] at hb
        exact op_slice hT s ho hd hE hn b1 b2 hb.1 hb.2.1 hb.2.2 (.inl ⟨fr,e,xs,hx,hsz,rfl⟩) h hp
       ·cases h
      ·cases h
     ·rename_i E id sz hd hx
      split at h
      ·rename_i d hE
       split at h
       ·rename_i hsz
        obtain ⟨hb,h⟩:=cond_none h
        simp only [decide_eq_true_eq] at hb
        have hn':=hn
        rw [hx] at hn'
        simp only [AV.len] at hn'
        split at hn'
        ·rename_i E' fr e xs hob
         split at hn'
         ·rename_i hes
          simp only [Option.some.injEq] at hn'
          exact op_sliceFull hT s ho hd hE hn b1 b2 hb.1 hb.2.1 (.inl ⟨_,_,hob⟩) (by omega) (.inl hx) hsz h hp
         ·cases hn'
        ·rename_i E' Es e xs hob
         split at hn'
         ·rename_i hes
          simp only [Option.some.injEq] at hn'
          exact op_sliceFull hT s ho hd hE hn b1 b2 hb.1 hb.2.1 (.inr ⟨_,_,hob⟩) (by omega) (.inl hx) hsz h hp
         ·cases hn'
        ·cases hn'
       ·cases h
      ·cases h
     ·rename_i E id sz q k hd hx
      split at h
      ·rename_i d hE
       split at h
       ·rename_i hsz
        obtain ⟨hb,h⟩:=cond_none h
        simp only [decide_eq_true_eq] at hb
        exact op_slice hT s ho hd hE hn b1 b2 hb.1 hb.2.1 hb.2.2 (.inr ⟨id,sz,q,k,hx,hsz,rfl⟩) h hp
       ·cases h
      ·cases h
     ·rename_i E id sz k hd hx
      split at h
      ·rename_i d E' fr e xs hE hob
       split at h
       ·rename_i hc
        simp only [Bool.and_eq_true,beq_iff_eq,decide_eq_true_eq] at hc
        obtain ⟨hb,h⟩:=cond_none h
        simp only [decide_eq_true_eq] at hb
        exact op_sliceFull hT s ho hd hE hn b1 b2 hb.1 hb.2.1 (.inl ⟨_,_,hob⟩) hb.2.2 (.inr ⟨k,hx⟩) hc.1 h hp
       ·cases h
      ·cases h
     ·cases h
    ·cases h
 | makeSlice t l c =>
  simp only [evalOp,ho] at h
  split at h
  ·rename_i E d n m he hl hc
   split at h
   ·rename_i e hty
    split at h
    ·split at h
     ·rename_i z ns hz
      split at h
      ·rename_i hsz
       obtain ⟨hb,h⟩:=cond_none h
       simp only [decide_eq_true_eq] at hb
       exact op_makeOwn hT s ho he hl hc hz hsz hb.1 hb.2.1 hb.2.2.1 hb.2.2.2 h hp
      ·cases h
     ·cases h
    split at h
    ·rename_i z f hz
     split at h
     ·rename_i hsz
      obtain ⟨hb,h⟩:=cond_none h
      simp only [decide_eq_true_eq] at hb
      exact op_makeSlice hT s ho he hl hc hz hsz hb.1 hb.2.1 hb.2.2.1 hb.2.2.2 h hp
     ·cases h
    ·cases h
   ·cases h
  ·cases h
 | makeFunc f first captured =>
  cases f with
  | func f =>
   simp only [evalOp,ho] at h
   split at h
   ·rename_i hc
    simp only [Bool.and_eq_true] at hc
    exact op_makeFunc s ho hc.1 h hp
   ·cases h
  | _=>simp [evalOp,ho] at h
 | binOp op t x y t' =>
  simp only [evalOp,ho] at h
  split at h
  ·rename_i u v hx hy
   split at h
   ·rename_i c z hz
    cases c with
    | true=>exact op_binOp s ho hx hy (binSp_pure hz) h hp
    | false=>cases h
   ·split at h
    ·rename_i z hz;exact op_binOp s ho hx hy hz h hp
    ·cases h
  ·split at h
   ·rename_i c b hb
    obtain ⟨hc,h⟩:=cond_none h
    subst hc
    exact op_cmp hT s ho hb h hp
   ·cases h
 | unOp op t x =>
  simp only [evalOp,ho] at h
  split at h
  ·rename_i u hx
   split at h
   ·rename_i z hz;exact op_unOp s ho hx hz h hp
   ·cases h
  ·cases h
 | convert t u x =>
  simp only [evalOp,ho] at h
  split at h
  ·rename_i v hx
   split at h
   ·rename_i z hz;exact op_convert s ho hx hz h hp
   ·cases h
  ·split at h
   ·rename_i fr l E hx ht hu
    split at h
    ·rename_i hE;exact op_bytesToString hT s ho hx ht hE hu h hp
    ·cases h
   ·cases h
 | call c =>
  simp only [evalOp,ho] at h
  split at h
  ·rename_i hcal
   split at h
   ·rename_i x t hx ht
    split at h
    ·rename_i d n hd hl
     split at h
     ·rename_i hok;exact op_len hT s ho hcal hx ht hd hl hok h hp
     ·cases h
    ·cases h
   ·cases h
  ·rename_i hcal
   split at h
   ·rename_i u v huv
    split at h
    ·rename_i z hz
     obtain ⟨x,y,hx,hu1,hu2⟩:=map_two huv
     exact op_minmax s ho hx hu1 hu2 (.inl ⟨hcal,hz⟩) h hp
    ·cases h
   ·cases h
  ·rename_i hcal
   split at h
   ·rename_i u v huv
    split at h
    ·rename_i z hz
     obtain ⟨x,y,hx,hu1,hu2⟩:=map_two huv
     exact op_minmax s ho hx hu1 hu2 (.inr ⟨hcal,hz⟩) h hp
    ·cases h
   ·cases h
  ·rename_i hcal
   split at h
   ·rename_i x t hx ht
    split at h
    ·rename_i E d he
     split at h
     ·rename_i id sz lo n hv
      have hv':(st.ev x=.all id sz∧lo=0∧n=none)∨∃ k,st.ev x=.arr id sz lo k∧n=some k:=by
       split at hv
       ·rename_i i2 s2 h2
        simp only [Option.some.injEq,Prod.mk.injEq] at hv
        obtain ⟨rfl,rfl,rfl,rfl⟩:=hv
        exact .inl ⟨h2,rfl,rfl⟩
       ·rename_i i2 s2 l2 k2 h2
        simp only [Option.some.injEq,Prod.mk.injEq] at hv
        obtain ⟨rfl,rfl,rfl,rfl⟩:=hv
        exact .inr ⟨_,h2,rfl⟩
       ·cases hv
      split at h
      ·rename_i E' fr e l hob
       split at h
       ·rename_i z hz
        split at h
        ·rename_i hc
         simp only [Bool.and_eq_true,beq_iff_eq,decide_eq_true_eq] at hc
         exact op_clear hT s ho hcal hx ht he hv' hob hz hc.1 hc.2 h hp
        ·cases h
       ·cases h
      ·cases h
     ·cases h
    ·cases h
   ·cases h
  ·rename_i hcal
   split at h
   ·rename_i sx x t t' hx ht
    split at h
    ·rename_i htt
     subst htt
     split at h
     ·rename_i E d he
      split at h
      ·rename_i e hty
       split at h
       ·split at h
        ·rename_i b v st' ha
         obtain ⟨rfl,h⟩:=cond_none h
         exact op_appendOwn hT s ho hcal hx ht he ha h hp
        ·cases h
       split at h
       ·rename_i ys f id sz hv hs
        split at h
        ·rename_i E' fr e' l hob
         split at h
         ·rename_i hc
          obtain ⟨rfl,rfl,rfl,h4,h5⟩:=hc
          obtain ⟨hb,h⟩:=cond_none h
          simp only [decide_eq_true_eq] at hb
          exact op_append hT s ho hcal hx ht he hv hs hob h4 h5 hb h hp
         ·cases h
        ·cases h
       ·rename_i ys f hv hs
        split at h
        ·rename_i hc
         obtain ⟨hb,h⟩:=cond_none h
         simp only [decide_eq_true_eq] at hb
         exact op_append_nil hT s ho hcal hx ht he hv hs hc.1 hc.2 hb h hp
        ·cases h
       ·rename_i ys f id sz n hv hs
        split at h
        ·rename_i E' fr e' l hob
         split at h
         ·rename_i hc
          obtain ⟨rfl,rfl,rfl,h4,h5⟩:=hc
          obtain ⟨hb,h⟩:=cond_none h
          simp only [decide_eq_true_eq] at hb
          exact op_append_pre hT s ho hcal hx ht he hv hs hob h4 h5 hb h hp
         ·cases h
        ·cases h
       ·cases h
      ·cases h
     ·cases h
    ·split at h
     ·rename_i fr0 y E d hu hy he
      split at h
      ·rename_i id sz hE hs
       split at h
       ·rename_i E' fr l hob
        split at h
        ·rename_i hc
         obtain ⟨rfl,rfl,h3,h4⟩:=hc
         split at h
         ·rename_i hz
          obtain ⟨hb,h⟩:=cond_none h
          simp only [decide_eq_true_eq] at hb
          exact op_append_str hT s ho hcal hx ht hu he hE h3 h4 hz hy hs hob hb h hp
         ·cases h
        ·cases h
       ·cases h
      ·cases h
     ·cases h
   ·cases h
  ·rename_i fx hcal
   split at h
   ·rename_i g caps hf
    split at h
    ·rename_i sm hg
     split at h
     ·rename_i rv H' b hsm
      cases b with
      | true=>exact op_call hS s ho hcal hf hg hsm (.inl ⟨rfl,h⟩) hp
      | false=>cases h
     ·rename_i rv H' k ks b hsm
      cases b with
      | true=>exact op_call hS s ho hcal hf hg hsm (.inr h) hp
      | false=>cases h
     ·cases h
    ·cases h
   ·cases h
  ·cases h
 | _=>simp [evalOp,ho] at h
end
end Go.Proofs.Ytccelbeahdcooaa.Eng
