/- What the functions that FnScanned reaches compute: further. -/
import Derived.Test.YtccelbeahdcooaaFScannedA
namespace Go.Proofs.Ytccelbeahdcooaa.Eng
open Go Go.RowKit
set_option linter.unusedSimpArgs false
set_option linter.unusedVariables false
set_option maxRecDepth 10000
theorem w64c (n:Int) (h1:0≤n) (h2:n<9223372036854775808):IntKind.wrap .i64 n=n:=wrap64 (by omega) h2
theorem words0_ok (c l:List Int) (hc:c.length=64) (hl:l.length=64):(it_iwordsOf_0 c 0 l).1=0∧(it_iwordsOf_0 c 0 l).2.length=64:=by
 refine itX_inv (v:=(c,(0:Int),l)) (fun v:V_iwordsOf_0=>v.1=c∧(0≤v.2.1∧v.2.1≤16)∧v.2.2.length=64) (fun a:A_iwordsOf_0=>a.1=0∧a.2.length=64) (fun v:V_iwordsOf_0=>(16 - v.2.1).toNat) ?_ ⟨rfl,⟨by simp only;omega,by simp only;omega⟩,hl⟩ (by simp only;decide)
 rintro ⟨c', i,m⟩ ⟨h1,h2,h3⟩
 simp only at h1 h2 h3
 subst h1
 by_cases hi:i<16
 ·obtain ⟨m', e, hm⟩ : ∃ m' : List Int, ss_iwordsOf_0 c' i m = .inl (c', i + 1, m') ∧ m'.length = 64 := by
   apply Exists.intro
   constructor
   ·simp only [ss_iwordsOf_0,w64c (4*i) (by omega) (by omega),w64c (4*i+1) (by omega) (by omega),w64c (4*i+2) (by omega) (by omega),w64c (4*i+3) (by omega) (by omega),w64c (i+1) (by omega) (by omega),decide_eq_true hi,cond_true]
    rw [decide_eq_true (by omega),decide_eq_true (by omega),decide_eq_true (by omega),decide_eq_true (by omega),decide_eq_true (by omega)]
    rfl
   ·simp only [List.length_set];exact h3
  exact .inl ⟨(c', i+1,m'),e,⟨rfl,by simp only;omega,hm⟩,by simp only;omega⟩
 ·refine .inr ⟨(0,m),?_,rfl,h3⟩
  simp only [ss_iwordsOf_0,decide_eq_false hi,cond_false]
theorem words1_ok (l:List Int) (hl:l.length=64):(it_iwordsOf_1 16 l).1=0∧(it_iwordsOf_1 16 l).2.length=64:=by
 refine itX_inv (v:=((16:Int),l)) (fun v:V_iwordsOf_1=>(16≤v.1∧v.1≤64)∧v.2.length=64) (fun a:A_iwordsOf_1=>a.1=0∧a.2.length=64) (fun v:V_iwordsOf_1=>(64 - v.1).toNat) ?_ ⟨⟨by simp only;omega,by simp only;omega⟩,hl⟩ (by simp only;decide)
 rintro ⟨i,m⟩ ⟨h2,h3⟩
 simp only at h2 h3
 by_cases hi:i<64
 ·obtain ⟨m', e, hm⟩ : ∃ m' : List Int, ss_iwordsOf_1 i m = .inl (i + 1, m') ∧ m'.length = 64 := by
   apply Exists.intro
   constructor
   ·simp only [ss_iwordsOf_1,w64c (i - 15) (by omega) (by omega),w64c (i - 2) (by omega) (by omega),w64c (i - 16) (by omega) (by omega),w64c (i - 7) (by omega) (by omega),w64c (i+1) (by omega) (by omega),decide_eq_true hi,cond_true]
    rw [decide_eq_true (by omega),decide_eq_true (by omega),decide_eq_true (by omega),decide_eq_true (by omega),decide_eq_true (by omega)]
    rfl
   ·simp only [List.length_set];exact h3
  exact .inl ⟨(i+1,m'),e,⟨by simp only;omega,hm⟩,by simp only;omega⟩
 ·refine .inr ⟨(0,m),?_,rfl,h3⟩
  simp only [ss_iwordsOf_1,decide_eq_false hi,cond_false]
theorem words_ok (c:List Int) (hc:c.length=64):q_iwordsOf c=true∧(iwordsOf c).length=64:=by
 obtain ⟨a1,a2⟩:=words0_ok c (List.replicate 64 0) hc (by simp)
 obtain ⟨b1,b2⟩:=words1_ok _ a2
 exact ⟨by simp only [q_iwordsOf,a1,b1];rfl,b2⟩
theorem turn0_ok (h k ws v:List Int) (hk:k.length=64) (hw:ws.length=64) (hv:v.length=8):(it_iturnBlock_0 0 h k ws v).1=0∧(it_iturnBlock_0 0 h k ws v).2.1=h∧(it_iturnBlock_0 0 h k ws v).2.2.1=k∧(it_iturnBlock_0 0 h k ws v).2.2.2.length=8:=by
 refine itX_inv (v:=((0:Int),h,k,ws,v)) (fun x:V_iturnBlock_0=>(0≤x.1∧x.1≤64)∧x.2.1=h∧x.2.2.1=k∧x.2.2.2.1=ws∧x.2.2.2.2.length=8) (fun a:A_iturnBlock_0=>a.1=0∧a.2.1=h∧a.2.2.1=k∧a.2.2.2.length=8) (fun x:V_iturnBlock_0=>(64 - x.1).toNat) ?_ ⟨⟨by simp only;omega,by simp only;omega⟩,rfl,rfl,rfl,hv⟩ (by simp only;decide)
 rintro ⟨i,h', k', ws', v'⟩ ⟨h2,h3,h4,h5,h6⟩
 simp only at h2 h3 h4 h5 h6
 subst h3;subst h4;subst h5
 by_cases hi:i<64
 ·obtain ⟨m', e, hm⟩ : ∃ m' : List Int, ss_iturnBlock_0 i h' k' ws' v' = .inl (i + 1, h', k', ws', m') ∧ m'.length = 8 := by
   apply Exists.intro
   constructor
   ·simp only [ss_iturnBlock_0,w64c (i+1) (by omega) (by omega),decide_eq_true hi,cond_true,h6,hk,hw]
    rw [show decide (0≤i∧i<((64:Nat):Int)∧i<((64:Nat):Int))=true from decide_eq_true (by omega)]
    rfl
   ·rfl
  exact .inl ⟨(i+1,h', k', ws', m'),e,⟨by simp only;omega,rfl,rfl,rfl,hm⟩,by simp only;omega⟩
 ·refine .inr ⟨(0,h', k', v'),?_,rfl,rfl,rfl,h6⟩
  simp only [ss_iturnBlock_0,decide_eq_false hi,cond_false]
theorem turn1_ok (h k v:List Int) (hh:h.length=8) (hv:v.length=8):(it_iturnBlock_1 0 h k v).1=0∧(it_iturnBlock_1 0 h k v).2.1.length=8∧(it_iturnBlock_1 0 h k v).2.2=k:=by
 refine itX_inv (v:=((0:Int),h,k,v)) (fun x:V_iturnBlock_1=>(0≤x.1∧x.1≤8)∧x.2.1.length=8∧x.2.2.1=k∧x.2.2.2.length=8) (fun a:A_iturnBlock_1=>a.1=0∧a.2.1.length=8∧a.2.2=k) (fun x:V_iturnBlock_1=>(8 - x.1).toNat) ?_ ⟨⟨by simp only;omega,by simp only;omega⟩,hh,rfl,hv⟩ (by simp only;decide)
 rintro ⟨i,h', k', v'⟩ ⟨h2,h3,h4,h6⟩
 simp only at h2 h3 h4 h6
 subst h4
 by_cases hi:i<8
 ·obtain ⟨m', e, hm⟩ : ∃ m' : List Int, ss_iturnBlock_1 i h' k' v' = .inl (i + 1, m', k', v') ∧ m'.length = 8 := by
   apply Exists.intro
   constructor
   ·simp only [ss_iturnBlock_1,w64c (i+1) (by omega) (by omega),decide_eq_true hi,cond_true,h6,h3]
    rw [show decide (0≤i∧i<((8:Nat):Int)∧i<((8:Nat):Int))=true from decide_eq_true (by omega)]
    rfl
   ·simp only [List.length_set];exact h3
  exact .inl ⟨(i+1,m', k', v'),e,⟨by simp only;omega,hm,rfl,h6⟩,by simp only;omega⟩
 ·refine .inr ⟨(0,h', k'),?_,rfl,h3,rfl⟩
  simp only [ss_iturnBlock_1,decide_eq_false hi,cond_false]
theorem turn_ok (c h:List Int) (hc:c.length=64) (hh:h.length=8):q_iturnBlock c h irounds=true∧(iturnBlock c h irounds).1.length=8∧(iturnBlock c h irounds).2=irounds:=by
 obtain ⟨q,hw⟩:=words_ok c hc
 obtain ⟨a1,a2,a3,a4⟩:=turn0_ok h irounds (iwordsOf c) [h.getD 0 0,h.getD 1 0,h.getD 2 0,h.getD 3 0,h.getD 4 0,h.getD 5 0,h.getD 6 0,h.getD 7 0] rfl hw rfl
 have e:k1_iturnBlock c h irounds=it_iturnBlock_0 0 h irounds (iwordsOf c) [h.getD 0 0,h.getD 1 0,h.getD 2 0,h.getD 3 0,h.getD 4 0,h.getD 5 0,h.getD 6 0,h.getD 7 0]:=rfl
 rw [← e] at a1 a2 a3 a4
 obtain ⟨b1,b2,b3⟩:=turn1_ok (k1_iturnBlock c h irounds).2.1 (k1_iturnBlock c h irounds).2.2.1 (k1_iturnBlock c h irounds).2.2.2 (by rw [a2];exact hh) a4
 refine ⟨?_,b2,b3.trans a3⟩
 have e2:(k2_iturnBlock c h irounds).1=0:=b1
 simp only [q_iturnBlock,q,a1,e2,decide_eq_true hh,Bool.true_and,beq_self_eq_true,Bool.and_true]
 rfl
attribute [local go_sem] Oper.semAt_some
noncomputable def cupto {m:Nat} (k:Nat) (hk:k≤m):List (Fin m):=(List.range k).attach.map fun i=>⟨i.1,by have:=List.mem_range.1 i.2;omega⟩
theorem cupto_length {m:Nat} (k:Nat) (hk:k≤m):(cupto k hk).length=k:=by simp [cupto]
theorem cupto_succ {m:Nat} (k:Nat) (hk:k+1≤m):cupto (k+1) hk=cupto k (by omega)++[(⟨k,by omega⟩:Fin m)]:=by
 apply List.ext_getElem
 ·simp [cupto_length]
 ·intro i h1 h2
  simp only [cupto_length] at h1
  rcases Nat.lt_or_ge i k with h | h
  ·rw [List.getElem_append_left (by rw [cupto_length];exact h)];simp [cupto]
  ·have e:i=k:=by omega
   subst e
   rw [List.getElem_append_right (by rw [cupto_length];omega)];simp [cupto]
set_option maxRecDepth 100000 in
set_option maxHeartbeats 2000000 in
theorem chunk_in (F:Fence) (n:Nat) (h168:F.fn 168) (hro:F.round=none) (hn:1≤n) (l Bs Bn m cap:Nat) (ad:Addr) (hcap:64*m≤cap) (hm:m≤1000000000000) (J Jx:List (Fin m)→World→Prop)
  (hY:∀ pre x W,J pre W→pre.length<m→YieldAt F (n - 1) Try.prog l #[.slice (some (ad.add (64*x.1))) 64 64] W fun e W' =>
   (e=.returned (.bool true)∧J (pre++[x]) W'∧(W'.cell? ⟨Bs,0,none⟩=W.cell? ⟨Bs,0,none⟩∧W'.cell? ⟨Bn,0,none⟩=W.cell? ⟨Bn,0,none⟩))∨(e=.returned (.bool false)∧Jx (pre++[x]) W'))
  (W:World) (hJ:AbidesFrom W.heap.size J) (hBs:W.cell? ⟨Bs,0,none⟩=some (.slice (some ad) (64*m) cap)) (hBn:W.cell? ⟨Bn,0,none⟩=some (.int .i64 64)) (h0:J [] W) :
  CallsIn F n Try.prog 168 #[.func (.yield l) #[] #[],.pointer (some ⟨Bs,0,none⟩),.pointer (some ⟨Bn,0,none⟩)] W fun e W'=>(∃ v,e=.returned v) ∧
   ((∃ xs,xs=cupto (m:=m) m (Nat.le_refl _)∧J xs W')∨(∃ pre,True∧Jx pre W')):=by
 refine callsIn_of_wp Try.func168 rfl h168 ?_ hro
 simp only [Try.ntmps168,List.size_toArray,List.length_cons,List.length_nil,Nat.reduceAdd,Nat.reduceSub,Array.replicate_succ,Array.replicate_zero,List.push_toArray,List.append_toArray,List.nil_append,List.cons_append]
 gi_wp2
 gi_loopw [4] (fun i wr=>∃ k:Nat,∃ hk:k≤m,i=.int .i64 ((64*k:Nat):Int)∧J (cupto k hk) wr∧wr.cell? ⟨Bs,0,none⟩=some (.slice (some ad) (64*m) cap)∧wr.cell? ⟨Bn,0,none⟩=some (.int .i64 64))
  (fun i _=>64*m - (intOf i).toNat)
 case atStart=>exact ⟨0,Nat.zero_le _,rfl,h0,hBs,hBn⟩
 case round =>
  obtain ⟨k,hk,rfl,hJs,hs,hnn⟩:=hrel
  by_cases hlt:k<m
  ·have hc1:((64*k:Nat):Int)<((64*m:Nat):Int):=by omega
   have hc2:(0:Int)≤((64*k:Nat):Int):=by omega
   gi_wp2
   have hc3:((64*k:Nat):Int)≤((64*m:Nat):Int):=by omega
   have hc4:64*k≤64*m:=by omega
   have hc5:¬ cap=64*k:=by omega
   have hmin:¬ ((64*m - 64*k:Nat):Int)<64:=by omega
   have hJ2:J (cupto k hk) wr.drew:=hJ _ _ _ none hJs ⟨rfl,rfl,rfl,Nat.le_refl _,fun _ _ _=>rfl⟩ (fun r e=>by cases e)
   obtain ⟨fn,tmps,assign,body,hy,hR⟩:=hY _ ⟨k,hlt⟩ wr.drew hJ2 (by rw [cupto_length];exact hlt)
   dsimp only at hy
   have e1:IntKind.wrap .i64 (64*(k:Int)+64)=64*(k:Int)+64:=by rw [wrap64 (by omega) (by omega)]
   have e2:(0:Int)≤64*(k:Int)+64:=by omega
   have e3:64*(k:Int)+64≤(cap:Int):=by omega
   gi_region
   all_goals (rw [if_neg (show ¬ ((64*m - 64*k:Nat):Int)<64 by omega)])
   all_goals (gi_wp2)
   all_goals (
    refine hR.mono ?_
    rintro e W3 (⟨rfl,hJ3,hk1,hk2⟩ | ⟨rfl,hJx3⟩)
    ·gi_wp2
     go_roundw
     case rel=>exact ⟨k+1,by omega,by congr 1,by rw [cupto_succ];exact hJ3,hk1.trans hs,hk2.trans hnn⟩
     case measure=>simp [intOf];omega
    ·gi_wp2
     refine bodyPost_ret (results_none rfl _ _ _) rfl ?_
     exact ⟨⟨_,rfl⟩,.inr ⟨_,trivial,hJx3⟩⟩)
  ·obtain rfl:k=m:=by omega
   gi_wp2
   go_end0
   exact ⟨⟨_,rfl⟩,.inl ⟨_,rfl,hJs⟩⟩
theorem chunk_stops (n:Nat) (hn:1≤n) (Bs Bn m cap:Nat) (ad:Addr) (hcap:64*m≤cap) (hm:m≤1000000000000) (w:World) (hBs:w.cell? ⟨Bs,0,none⟩=some (.slice (some ad) (64*m) cap)) (hBn:w.cell? ⟨Bn,0,none⟩=some (.int .i64 64)) (hs:Bs<w.heap.size) (hnn:Bn<w.heap.size) :
  SeqStopsK Fence.wide n Try.prog 168 #[.pointer (some ⟨Bs,0,none⟩),.pointer (some ⟨Bn,0,none⟩)] (fun x:Fin m=>#[Value.slice (some (ad.add (64*x.1))) 64 64]) (fun A B=>B.cell? ⟨Bs,0,none⟩=A.cell? ⟨Bs,0,none⟩∧B.cell? ⟨Bn,0,none⟩=A.cell? ⟨Bn,0,none⟩) (fun xs=>xs=cupto m (Nat.le_refl _)) (fun _=>True) m w :=
 fun l J Jx W hW hJ _ hY h0=>chunk_in Fence.wide n trivial rfl hn l Bs Bn m cap ad hcap hm J Jx hY W hJ ((hW.cell (p:=⟨Bs,0,none⟩) hs).trans hBs) ((hW.cell (p:=⟨Bn,0,none⟩) hnn).trans hBn) h0

/-- The digest's text. -/
noncomputable def sqL:Code→Code
 | .seq x _=>x
 | c=>c
noncomputable def sqR:Code→Code
 | .seq _ y=>y
 | c=>c
noncomputable def blk1:Code→Code
 | .block _ x=>x
 | c=>c
noncomputable def rfA:Code→Code
 | .rangeFunc _ _ a _=>a
 | c=>c
noncomputable def rfB:Code→Code
 | .rangeFunc _ _ _ b=>b
 | c=>c
noncomputable def opsOf:Code→Array Oper
 | .region _ o _=>o
 | _=>#[]
noncomputable def dc0:Code:=sqL (bodyOf Try.f115)
noncomputable def dc1:Code:=sqL (sqR (bodyOf Try.f115))
noncomputable def dc2:Code:=sqL (sqR (sqR (bodyOf Try.f115)))
noncomputable def dops3:Array Oper:=opsOf (sqL (sqL (sqR (sqR (sqR (bodyOf Try.f115))))))
noncomputable def drng:Code:=blk1 (sqR (sqL (sqR (sqR (sqR (bodyOf Try.f115))))))
noncomputable def dc4:Code:=sqR (sqR (sqR (sqR (bodyOf Try.f115))))
noncomputable def dasg:Array Oper:=opsOf (rfA drng)
noncomputable def drb:Array Oper:=opsOf (blk1 (rfB drng))
theorem dig_body:Try.f115.body=some (.seq dc0 (.seq dc1 (.seq dc2 (.seq (.seq (.region 3 dops3 false) (.block 0 (.rangeFunc (.tmp 13) #[14] (.region 4 dasg false) (.block 1 (.region 5 drb false))))) dc4)))):=by kernel_rfl

/-- slices.Chunk, run in place. -/
noncomputable def inl149:Summ:=fun args H=>(runM Try.prog tt S31 QF31 (fun _ _=>none) Try.f149 args H).map fun p=>(p.1,p.2.1,p.2.2,true)
theorem inl149_ok:MContract Try.prog 149 inl149:=MContract.of_run G31 (fn:=Try.f149) (by kernel_rfl) (L:=fun _ _=>none) (hl0 (L:=fun _ _=>none) (b:=0) (x:=bodyOf Try.f149) (by kernel_rfl)) (fun args H r H' ks h=>by
 obtain ⟨p,h1,h2⟩:=Option.map_eq_some_iff.1 h
 simp only [Prod.mk.injEq] at h2
 obtain ⟨rfl,rfl,rfl,_⟩:=h2
 exact h1)
noncomputable def SC:Tab:=Tab.add S31 149 inl149
theorem SC_ok:TabOk Try.prog SC:=G31.tab.add inl149_ok (cbl Try.f149)

noncomputable def hinit:List Int:=[1779033703,3144134277,1013904242,2773480762,1359893119,2600822924,528734635,1541459225]
noncomputable def tB (E:TypeId) (fr:Bool) (l:List Int):AObj:=.rows E fr (.int .u32) l
noncomputable def stR (a0:List Int):St:=⟨[.t false t_sy a0,.raw undef,.t true .str ⟨#[]⟩,.ptr 0 0 1 0,.ptr 2 0 1 0,.raw undef,.raw undef,.raw undef,.raw undef,.agg (arrAVs .u32 hinit 8),.ptr 1 0 1 0,.t false t_sy a0,.t true t_sy (iPadded a0),.fn 168 [.ptr 3 0 1 0,.ptr 4 0 1 0]]++List.replicate 25 (.raw undef),
 [tB 158 true hinit,tB 176 true irounds,.box [.ptr 1 0 1 0],.box [.t true t_sy (iPadded a0)],.box [(.t true (.int .i64) (64:Int):AV)]],0,[]⟩
noncomputable def dK3 (e:Ex) (s:St):Option (Ex×St):=match e with
 | .normal=>execOps Try.prog tt SC dops3 dops3.toList s fun s=>some (Ex.normal,s)
 | _=>none
noncomputable def dK2 (e:Ex) (s:St):Option (Ex×St):=match e with
 | .normal=>execC Try.prog tt S31 QF31 (fun _ _=>none) 0 dc2 s dK3
 | _=>none
noncomputable def dK1 (e:Ex) (s:St):Option (Ex×St):=match e with
 | .normal=>execC Try.prog tt S31 QF31 (fun _ _=>none) 0 dc1 s dK2
 | _=>none
theorem dig_run (a0:List Int):execC Try.prog tt S31 QF31 (fun _ _=>none) 0 dc0 ⟨startSlots Try.f115 [.t false t_sy a0],[],0,[]⟩ dK1=cond (q_iPadded a0) (some (.normal,stR a0)) none:=by kernel_rfl

/-- One block's turn. -/
noncomputable def stB (c h k:List Int):St:=⟨[.junk,.junk,.junk,.ptr 0 0 1 0,.ptr 2 0 1 0,.t false t_sy c]++List.replicate 33 .junk,[tB 158 true h,tB 176 true k,.box [.ptr 1 0 1 0]],3,[]⟩
noncomputable def stB' (c h k:List Int):St:=⟨[.junk,.junk,.junk,.ptr 0 0 1 0,.ptr 2 0 1 0,.t false t_sy c]++List.replicate 9 .junk++[.t false t_sy c,.ptr 1 0 1 0,.tup []]++List.replicate 21 .junk,[tB 158 true (iturnBlock c h k).1,tB 176 true (iturnBlock c h k).2,.box [.ptr 1 0 1 0]],3,[]⟩
theorem dig_round (c h k:List Int):execOps Try.prog tt S31 drb drb.toList (stB c h k) (fun s=>some s)=cond (q_iturnBlock c h k) (some (stB' c h k)) none:=by kernel_rfl

/-- The digest's bytes. -/
noncomputable def digBytes (h:List Int):List Int:=h.flatMap fun x=>[IntKind.wrap .u8 (Int.fdiv x (2 ^ (24))),IntKind.wrap .u8 (Int.fdiv x (2 ^ (16))),IntKind.wrap .u8 (Int.fdiv x (2 ^ (8))),IntKind.wrap .u8 x]
noncomputable def digStr (h:List Int):ByteArray:=⟨((digBytes h).map fun n=>UInt8.ofNat n.toNat).toArray⟩
noncomputable def dLoop:Code:=match loopsIn 0 dc4 with
 | p::_=>p.2
 | _=>.skip
noncomputable def dL:Nat→St→Option Tree:=fun b=>match b with
 | 2=>fun st=>(iterD (fun s=>execC Try.prog tt S31 QF31 (fun _ _=>none) 2 dLoop s (fun e s'=>some (e,s'))) (fun s=>s) 9 st).map fun p=>.leaf p.1 p.2
 | _=>fun _=>none
theorem dL_ok:∀ p∈loopsIn 0 dc4,LoopWp Try.prog (dL p.1) p.2:=hl1 (i:=2) (c:=dLoop) (by kernel_rfl) (LoopWp.iter G31 (fun _ _=>none) (hl0 (L:=fun _ _=>none) (b:=2) (x:=dLoop) (by kernel_rfl)) 9)
noncomputable def stT (h:List Int):St:=⟨[.junk,.junk,.junk,.ptr 0 0 1 0]++List.replicate 35 .junk,[tB 158 true h],1,[]⟩
noncomputable def dKT (e:Ex) (s:St):Option ByteArray:=match e with
 | .ret=>match s.slots with
  | _::_::.t true .str x::_=>some x
  | _=>none
 | _=>none
theorem dig_tail (x0 x1 x2 x3 x4 x5 x6 x7:Int):execC Try.prog tt S31 QF31 dL 0 dc4 (stT [x0,x1,x2,x3,x4,x5,x6,x7]) dKT=some (digStr [x0,x1,x2,x3,x4,x5,x6,x7]):=by kernel_rfl
/-- An array of words in the world. -/
noncomputable def arrAt (W:World) (b:Nat) (E:TypeId) (l:List Int):Prop:=∃ c:Array Value,W.heap[b]? = some (.cells c E (0,0))∧l.length≤c.size∧0<c.size∧c.size≤maxLen∧∀ (i:Nat) (x:Int),l[i]? = some x→c[i]? = some (.int .u32 x)
theorem arrAt.lt {W:World} {b:Nat} {E:TypeId} {l:List Int} (h:arrAt W b E l):b<W.heap.size:=by
 obtain ⟨c,h1,_⟩:=h
 exact (Array.getElem?_eq_some_iff.1 h1).1
theorem arrAt.keep {W W':World} {b:Nat} {E:TypeId} {l:List Int} (h:arrAt W b E l) (hw:W'.heap[b]? = W.heap[b]?):arrAt W' b E l:=by
 obtain ⟨c,h1,h2⟩:=h
 exact ⟨c,hw.trans h1,h2⟩
theorem arrAt.of {N:Nat→Prop} {w0 W:World} {η:Env} {H:List AObj} (I:Inv N w0 η H W) {id:Nat} {E:TypeId} {fr:Bool} {l:List Int} (ho:H[id]? = some (.rows E fr (.int .u32) l)) (h0:0<l.length):arrAt W (η.ι id) E l:=by
 obtain ⟨hln,R⟩:=I.obj id _ ho
 rcases R with ⟨_,h⟩ | ⟨c,cap,g1,g2,g3,g4,g5,g6⟩
 ·rw [show l=[] from h] at h0;simp at h0
 ·have e:c.size=cap:=by simpa [Ty.cells] using g5
  refine ⟨c,g2,by omega,by omega,by omega,fun i x hx=>?_⟩
  have:=g6 i x hx
  simpa [Lay,Ty.cells] using this
theorem arrAt.obj {W:World} {b:Nat} {E:TypeId} {l:List Int} (h:arrAt W b E l):∃ cap:Nat,∀ (η:Env) (hh id:Nat),η.ι id=b→η.hv id=.slice (some ⟨b,0,none⟩) l.length cap→η.ln id=l.length→ObjR η hh W id (.rows E true (.int .u32) l):=by
 obtain ⟨c,h1,h2,h3,h4,h5⟩:=h
 refine ⟨c.size,fun η hh id e1 e2 e3=>⟨e3,.inr ⟨c,c.size,by rw [e1];exact e2,by rw [e1];exact h1,h2,⟨h3,h4⟩,by simp [Ty.cells],fun i x hx=>?_⟩⟩⟩
 show c[i*1+0]? = some (.int .u32 x)
 rw [Nat.mul_one];exact h5 i x hx
theorem not_nulV_slice {a:Option Addr} {n c:Nat} (h:0<n):¬ nulV (.slice a n c):=by
 rintro ⟨A,e⟩;cases e;omega
/-- What the world has between two blocks: the state, the constants, the pointer to these. -/
structure DI (w w1:World) (bh bk bx:Nat) (h:List Int) (W:World):Prop where
 fr:Fr (·<w.heap.size) w W
 sz:w1.heap.size≤W.heap.size
 old:∀ b c E f,b ≠ bh→b ≠ bk→b ≠ bx→w1.heap[b]? = some (.cells c E f)→W.heap[b]? = some (.cells c E f)
 ah:arrAt W bh 158 h
 ak:arrAt W bk 176 irounds
 px:∃ (c:Array Value) (E:TypeId),W.heap[bx]? = some (.cells c E (0,0))∧c.size=1∧c.getD 0 undef=.pointer (some ⟨bk,0,none⟩)

noncomputable def NB (W:World) (bh bk bx:Nat):Nat→Prop:=fun b=>b<W.heap.size∧b ≠ bh∧b ≠ bk∧b ≠ bx
theorem DI.inv {w w1 W:World} {bh bk bx:Nat} {h:List Int} (D:DI w w1 bh bk bx h W) (h8:h.length=8) (d1:bh ≠ bk) (d2:bh ≠ bx) (d3:bk ≠ bx) {bd:Nat} (z1:bd<W.heap.size) (z2:bd ≠ bh) (z3:bd ≠ bk) (z4:bd ≠ bx) :
  ∃ η:Env,η.ι 0=bh∧η.ι 1=bk∧η.ι 2=bx∧(∀ f b,η.Z f b↔f=false∧b=bd)∧η.ln 0=8∧η.ln 1=64∧η.ln 2=1∧Inv (NB W bh bk bx) W η [tB 158 true h,tB 176 true irounds,.box [.ptr 1 0 1 0]] W:=by
 obtain ⟨c1,o1⟩:=D.ah.obj
 obtain ⟨c2,o2⟩:=D.ak.obj
 obtain ⟨cx,Ex,x1,x2,x3⟩:=D.px
 refine ⟨{ ι:=fun i=>if i=0 then bh else if i=1 then bk else bx,hv:=fun i=>if i=0 then .slice (some ⟨bh,0,none⟩) h.length c1 else if i=1 then .slice (some ⟨bk,0,none⟩) irounds.length c2 else nilV,ln:=fun i=>if i=0 then 8 else if i=1 then 64 else 1,Z:=fun f b=>f=false∧b=bd,nv:=fun _ _ _=>nilV,O:=fun _=>none },rfl,rfl,rfl,fun f b=>Iff.rfl,rfl,rfl,rfl,?_⟩
 refine ⟨fun k hk=>hk.1,⟨rfl,rfl,rfl,Nat.le_refl _,fun _ _=>rfl⟩,fun f b hb=>by rw [hb.2];exact z1,fun b hb=>(by cases hb.1),fun b hb=>(by cases hb.1),fun id=>?_,fun id o ho=>?_,fun id o ho hm=>?_,fun i j y z hy hz my mz he=>?_,fun b k hk=>(by cases hk),fun _ _ _=>⟨none,0,0,rfl⟩⟩
 ·simp only []
  split
  ·exact ⟨_,_,_,rfl⟩
  ·split
   ·exact ⟨_,_,_,rfl⟩
   ·exact ⟨none,0,0,rfl⟩
 ·match id,ho with
  | 0,ho=>simp only [List.getElem?_cons_zero,Option.some.injEq] at ho;subst ho;exact o1 _ _ 0 rfl rfl (by simp [h8])
  | 1,ho=>simp only [List.getElem?_cons_succ,List.getElem?_cons_zero,Option.some.injEq] at ho;subst ho;exact o2 _ _ 1 rfl rfl rfl
  | 2,ho =>
   simp only [List.getElem?_cons_succ,List.getElem?_cons_zero,Option.some.injEq] at ho
   subst ho
   refine ⟨rfl,cx,Ex,x1,x2,fun j a hj=>?_⟩
   match j,hj with
   | 0,hj =>
    simp only [List.getElem?_cons_zero,Option.some.injEq] at hj
    subst hj
    rw [x3]
    exact ⟨.ptr (by simp) (by simp),rfl⟩
   | j+1,hj=>simp at hj
  | k+3,ho=>simp at ho
 ·match id,ho with
  | 0,ho=>exact ⟨fun hn=>hn.2.1 rfl,fun hz=>z2 hz.2.symm,D.ah.lt⟩
  | 1,ho=>exact ⟨fun hn=>hn.2.2.1 rfl,fun hz=>z3 hz.2.symm,D.ak.lt⟩
  | 2,ho=>exact ⟨fun hn=>hn.2.2.2 rfl,fun hz=>z4 hz.2.symm,(Array.getElem?_eq_some_iff.1 x1).1⟩
  | k+3,ho=>simp at ho
 ·match i,j,hy,hz with
  | 0,0,_,_=>rfl
  | 0,1,_,_=>exact absurd he d1
  | 0,2,_,_=>exact absurd he d2
  | 1,0,_,_=>exact absurd he.symm d1
  | 1,1,_,_=>rfl
  | 1,2,_,_=>exact absurd he d3
  | 2,0,_,_=>exact absurd he.symm d2
  | 2,1,_,_=>exact absurd he.symm d3
  | 2,2,_,_=>rfl
  | k+3,_,hy,_=>simp at hy
  | _,k+3,_,hz=>simp at hz
/-- The invariant does not mind what is done to others' blocks. -/
theorem DI.from {m:Nat} (w w1:World) (bh bk bx:Nat) (f:List (Fin m)→List Int) (hw:w.heap.size≤w1.heap.size) (l1:bh<w1.heap.size) (l2:bk<w1.heap.size) (l3:bx<w1.heap.size):OwnFrom w1.heap.size (fun pre W=>DI w w1 bh bk bx (f pre) W):=by
 intro s W W' row D hg hr
 have same:∀ b,b<w1.heap.size→W'.heap[b]? = W.heap[b]?:=fun b hb=>by
  refine hg.block b (Nat.lt_of_lt_of_le hb D.sz) (fun e=>?_)
  have:=(hr b e.symm).1
  omega
 refine ⟨⟨hg.os.trans D.fr.os,hg.tape.trans D.fr.tape,hg.output.trans D.fr.output,Nat.le_trans D.fr.size hg.size,fun k hk=>(same k (Nat.lt_of_lt_of_le hk hw)).trans (D.fr.block k hk)⟩,Nat.le_trans D.sz hg.size,fun b c E g h1 h2 h3 hb=>(same b (Array.getElem?_eq_some_iff.1 hb).1).trans (D.old b c E g h1 h2 h3 hb),D.ah.keep (same _ l1),D.ak.keep (same _ l2),?_⟩
 obtain ⟨c,E,x1,x2,x3⟩:=D.px
 exact ⟨c,E,(same _ l3).trans x1,x2,x3⟩
theorem mat_rows {N:Nat→Prop} {w0 W:World} {η:Env} {H:List AObj} (I:Inv N w0 η H W) {id:Nat} {E:TypeId} {fr:Bool} {e:Ty} {l:List e.den} (ho:H[id]? = some (.rows E fr e l)) (h0:0<l.length):(AObj.rows E fr e l).mat η id:=by
 obtain ⟨hln,R⟩:=I.obj id _ ho
 rcases R with ⟨_,h⟩ | ⟨c,cap,g1,g2,g3,g4,g5,g6⟩
 ·rw [h] at h0;simp at h0
 ·exact not_nul g1 g4.1
theorem px_of {N:Nat→Prop} {w0 W:World} {η:Env} {H:List AObj} (I:Inv N w0 η H W) {id:Nat} (ho:H[id]? = some (.box [.ptr 1 0 1 0])) {bk:Nat} (hk:η.ι 1=bk):∃ (c:Array Value) (E:TypeId),W.heap[η.ι id]? = some (.cells c E (0,0))∧c.size=1∧c.getD 0 undef=.pointer (some ⟨bk,0,none⟩):=by
 obtain ⟨_,c,E,g1,g2,g3⟩:=I.obj id _ ho
 refine ⟨c,E,g1,g2,?_⟩
 have h:=(g3 0 _ rfl).1
 generalize c.getD 0 undef=v at h
 cases h with
 | ptr hid hr=>rw [hk]
theorem stB_slot {c h k:List Int} {i:Nat} {x:AV} (hx:(stB c h k).slots[i]? = some x):(i=3∧x=.ptr 0 0 1 0)∨(i=4∧x=.ptr 2 0 1 0)∨(i=5∧x=.t false t_sy c)∨x=.junk:=by
 match i,hx with
 | 0,hx=>simp only [stB,List.cons_append,List.getElem?_cons_zero,Option.some.injEq] at hx;exact .inr (.inr (.inr hx.symm))
 | 1,hx=>simp only [stB,List.cons_append,List.getElem?_cons_succ,List.getElem?_cons_zero,Option.some.injEq] at hx;exact .inr (.inr (.inr hx.symm))
 | 2,hx=>simp only [stB,List.cons_append,List.getElem?_cons_succ,List.getElem?_cons_zero,Option.some.injEq] at hx;exact .inr (.inr (.inr hx.symm))
 | 3,hx=>simp only [stB,List.cons_append,List.getElem?_cons_succ,List.getElem?_cons_zero,Option.some.injEq] at hx;exact .inl ⟨rfl,hx.symm⟩
 | 4,hx=>simp only [stB,List.cons_append,List.getElem?_cons_succ,List.getElem?_cons_zero,Option.some.injEq] at hx;exact .inr (.inl ⟨rfl,hx.symm⟩)
 | 5,hx=>simp only [stB,List.cons_append,List.getElem?_cons_succ,List.getElem?_cons_zero,Option.some.injEq] at hx;exact .inr (.inr (.inl ⟨rfl,hx.symm⟩))
 | i+6,hx =>
  simp only [stB,List.cons_append,List.getElem?_cons_succ,List.nil_append] at hx
  exact .inr (.inr (.inr (List.eq_of_mem_replicate (List.mem_of_getElem? hx))))
theorem round_ok {w w1 W:World} {bh bk bx bd:Nat} {h:List Int} (D:DI w w1 bh bk bx h W) (h8:h.length=8) (d1:bh ≠ bk) (d2:bh ≠ bx) (d3:bk ≠ bx) (z1:bd<W.heap.size) (z2:bd ≠ bh) (z3:bd ≠ bk) (z4:bd ≠ bx)
  (g1:w.heap.size≤bh) (g2:w.heap.size≤bk) (g3:w.heap.size≤bx) (n l:Nat) {a1:Act} (a2:a1.tmps.size=39) (a3:a1.tmps.getD 3 undef=.pointer (some ⟨bh,0,none⟩)) (a4:a1.tmps.getD 4 undef=.pointer (some ⟨bx,0,none⟩)) (a5:a1.defers=[])
  {c:List Int} (hc:c.length=64) (hl:Lay (fun b=>b=bd) W t_sy c (fun j=>if j=0 then some (a1.tmps.getD 5 undef) else none)) {Q:Exit→Act→World→Prop}
  (hQ:∀ a' W', KeepsOthers W W'→(∀ b,b<W.heap.size→b ≠ bh→b ≠ bk→b ≠ bx→W'.heap[b]? = W.heap[b]?)→DI w w1 bh bk bx (iturnBlock c h irounds).1 W'→Q .normal a' W') :
  (Code.block 1 (.region 5 drb false)).wpIn (Fence.wide.inRound l) n Try.prog Q a1 W:=by
 obtain ⟨η,e0,e1,e2,hZ,n0,n1,n2,I⟩:=D.inv h8 d1 d2 d3 z1 z2 z3 z4
 obtain ⟨q,t8,tk⟩:=turn_ok c h hc h8
 refine wpIn_block (wpIn_region_list ?_)
 have s:SR (NB W bh bk bx) W η 3 W η (stB c h irounds) a1 W:=by
  refine ⟨I,Ext.refl,⟨by rw [a2];simp [stB],fun i x hx=>?_,a5⟩,rfl⟩
  rcases stB_slot hx with ⟨rfl,rfl⟩ | ⟨rfl,rfl⟩ | ⟨rfl,rfl⟩ | rfl
  ·rw [a3,← e0];exact .ptr (η:=η) (row:=0) (sz:=1) (sub:=0) (by simp [stB]) (by rw [n0];decide)
  ·rw [a4,← e2];exact .ptr (η:=η) (row:=0) (sz:=1) (sub:=0) (by simp [stB]) (by rw [n2];decide)
  ·refine .t rfl (Lay.mono (fun b hb=>(hZ _ _).2 ⟨rfl,hb⟩) (fun _ _=>rfl) _ _ _ hl)
  ·exact .junk _
 have hrun:=(dig_round c h irounds).trans (by rw [q];rfl:_=some (stB' c h irounds))
 have key:=execOps_in (Q:=Exit.inBlock 1 Q) (F:=Fence.wide.inRound l) (n:=n) G31.types G31.tab (.inr ⟨l,rfl⟩) drb [] drb.toList (stB c h irounds) (fun s=>some s) η a1 W s (by kernel_rfl) hrun (fun st' η' a' W' hk s'=>?_)
 ·rwa [List.append_nil] at key
 ·simp only [Option.some.injEq] at hk
  subst hk
  show Q .normal a' W'
  have nm:∀ id,id<3→η'.ι id=η.ι id:=fun id hid=>(s'.ext.nm id hid rfl).2.1
  have I':=s'.inv
  have other:∀ b,b<W.heap.size→b ≠ bh→b ≠ bk→b ≠ bx→W'.heap[b]? = W.heap[b]?:=fun b h1 h2 h3 h4=>I'.fr.block b ⟨h1,h2,h3,h4⟩
  have ah:=arrAt.of I' (id:=0) (E:=158) (fr:=true) (l:=(iturnBlock c h irounds).1) rfl (by rw [t8];decide)
  have ak:=arrAt.of I' (id:=1) (E:=176) (fr:=true) (l:=(iturnBlock c h irounds).2) rfl (by rw [tk];decide)
  have px:=px_of I' (id:=2) rfl (bk:=bk) (by rw [nm 1 (by decide),e1])
  rw [nm 0 (by decide),e0] at ah
  rw [nm 1 (by decide),e1,tk] at ak
  rw [nm 2 (by decide),e2] at px
  refine hQ a' W' ⟨I'.fr.size,fun k o hk ho=>?_⟩ other ⟨⟨I'.fr.os.trans D.fr.os,I'.fr.tape.trans D.fr.tape,I'.fr.output.trans D.fr.output,Nat.le_trans D.fr.size I'.fr.size,fun k hk=>?_⟩,Nat.le_trans D.sz I'.fr.size,fun b cc E f h1 h2 h3 hb=>?_,ah,ak,px⟩
  ·have hlt:=(Array.getElem?_eq_some_iff.1 hk).1
   obtain ⟨c1,x1,_⟩:=D.ah
   obtain ⟨c2,x2,_⟩:=D.ak
   obtain ⟨c3,E3,x3,_⟩:=D.px
   refine (other k hlt ?_ ?_ ?_).trans hk
   ·rintro rfl;rw [x1] at hk;cases hk;cases ho
   ·rintro rfl;rw [x2] at hk;cases hk;cases ho
   ·rintro rfl;rw [x3] at hk;cases hk;cases ho
  ·have:=D.fr.size
   exact (other k (by omega) (by omega) (by omega) (by omega)).trans (D.fr.block k hk)
  ·have h0:=D.old b cc E f h1 h2 h3 hb
   exact (other b (Array.getElem?_eq_some_iff.1 h0).1 h1 h2 h3).trans h0
theorem two_of {vs:Array Value} {x y:Value} (hs:vs.size=2) (h0:vs.getD 0 undef=x) (h1:vs.getD 1 undef=y):vs=#[x,y]:=by
 apply Array.ext
 ·simp [hs]
 ·intro i h2 h3
  match i,h2 with
  | 0,h2=>rw [← h0];simp [Array.getD,hs]
  | 1,h2=>rw [← h1];simp [Array.getD,hs]
  | k+2,h2=>omega
noncomputable def digH (p:List Int):List Int:=(List.range (p.length / 64)).foldl (fun h i=>(iturnBlock ((p.drop (64*i)).take 64) h irounds).1) hinit
noncomputable def iDigest (a0:List Int):ByteArray:=digStr (digH (iPadded a0))
noncomputable def q_iDigest (a0:List Int):Bool:=q_iPadded a0&&(decide ((iPadded a0).length % 64=0)&&(decide (0<(iPadded a0).length)&&decide ((iPadded a0).length≤64000000000000)))
noncomputable abbrev P_iDigest:List PSh:=[.t t_sy]
noncomputable abbrev g_iDigest:pshsDen P_iDigest→AV×List AObj:=fun d=>(.t true .str (iDigest d.1),[])
noncomputable abbrev pre_iDigest:pshsDen P_iDigest→Bool:=fun d=>q_iDigest d.1
noncomputable def digL (p:List Int) {m:Nat} (pre:List (Fin m)):List Int:=pre.foldl (fun h x=>(iturnBlock ((p.drop (64*x.1)).take 64) h irounds).1) hinit
theorem chunk_len {p:List Int} {m:Nat} (hm:64*m=p.length) (x:Fin m):((p.drop (64*x.1)).take 64).length=64:=by
 have:=x.2
 simp only [List.length_take,List.length_drop]
 omega
theorem digL_len {p:List Int} {m:Nat} (hm:64*m=p.length):∀ (pre:List (Fin m)) (h:List Int),h.length=8→(pre.foldl (fun h (x:Fin m)=>(iturnBlock ((p.drop (64*x.1)).take 64) h irounds).1) h).length=8
 | [],h,h8=>h8
 | x::pre,h,h8=>digL_len hm pre _ (turn_ok _ _ (chunk_len hm x) h8).2.1
theorem digL_snoc (p:List Int) {m:Nat} (pre:List (Fin m)) (x:Fin m):digL p (pre++[x])=(iturnBlock ((p.drop (64*x.1)).take 64) (digL p pre) irounds).1:=by simp [digL]
theorem digL_all (p:List Int) {m:Nat} (hm:m=p.length / 64):digL p (cupto m (Nat.le_refl _))=digH p:=by
 have e:(cupto m (Nat.le_refl _)).map (fun x:Fin m=>x.1)=List.range m:=by simp [cupto]
 have:=List.foldl_map (f:=fun x:Fin m=>x.1) (g:=fun h i=>(iturnBlock ((p.drop (64*i)).take 64) h irounds).1) (l:=cupto m (Nat.le_refl _)) (init:=hinit)
 rw [e] at this
 rw [digL,← this,digH,hm]
theorem stT_slot {h:List Int} {i:Nat} {x:AV} (hx:(stT h).slots[i]? = some x):(i=3∧x=.ptr 0 0 1 0)∨x=.junk:=by
 match i,hx with
 | 0,hx=>simp only [stT,List.cons_append,List.getElem?_cons_zero,Option.some.injEq] at hx;exact .inr hx.symm
 | 1,hx=>simp only [stT,List.cons_append,List.getElem?_cons_succ,List.getElem?_cons_zero,Option.some.injEq] at hx;exact .inr hx.symm
 | 2,hx=>simp only [stT,List.cons_append,List.getElem?_cons_succ,List.getElem?_cons_zero,Option.some.injEq] at hx;exact .inr hx.symm
 | 3,hx=>simp only [stT,List.cons_append,List.getElem?_cons_succ,List.getElem?_cons_zero,Option.some.injEq] at hx;exact .inl ⟨rfl,hx.symm⟩
 | i+4,hx =>
  simp only [stT,List.cons_append,List.getElem?_cons_succ,List.nil_append] at hx
  exact .inr (List.eq_of_mem_replicate (List.mem_of_getElem? hx))
/-- What comes behind the range. -/
theorem tail_ok {w w1 W:World} {bh bk bx D:Nat} {h:List Int} (I0:DI w w1 bh bk bx h W) (h8:h.length=8) (g1:w.heap.size≤bh) (hD:w1.heap.size≤D) (hw:w.heap.size≤w1.heap.size) (hDb:D ≠ bh) (hd:W.heap[D]? = some (.deferred (some []))) {a:Act} (a2:a.tmps.size=39) (a3:a.tmps.getD 3 undef=.pointer (some ⟨bh,0,none⟩))
  {R:Ending→World→Prop} (hR:∀ W', (W'.os=w.os∧W'.tape=w.tape∧W'.output=w.output∧w.heap.size≤W'.heap.size∧∀ k,k<w.heap.size→W'.heap[k]? = w.heap[k]?)→R (.returned (.string (digStr h))) W') (n:Nat) :
  dc4.wpIn Fence.wide n Try.prog (bodyPostM Fence.wide n Try.prog Try.f115 R) { a with defers:=[{ target:=.collected D,args:=#[] }] } W:=by
 obtain ⟨c1,o1⟩:=I0.ah.obj
 have hDl:D<W.heap.size:=(Array.getElem?_eq_some_iff.1 hd).1
 let η:Env:={ ι:=fun _=>bh,hv:=fun i=>if i=0 then .slice (some ⟨bh,0,none⟩) h.length c1 else nilV,ln:=fun _=>h.length,Z:=fun _ _=>False,nv:=fun _ _ _=>nilV,O:=fun _=>none }
 letI:DF:=⟨[{ target:=.collected D,args:=#[] }]⟩
 have I:Inv (fun b=>b<w.heap.size∨b=D) W η [tB 158 true h] W:=by
  refine ⟨fun k hk=>?_,⟨rfl,rfl,rfl,Nat.le_refl _,fun _ _=>rfl⟩,fun _ _ hb=>hb.elim,fun _ hb=>hb.elim,fun _ hb=>hb.elim,fun id=>?_,fun id o ho=>?_,fun id o ho hm=>?_,fun i j y z hy hz my mz he=>?_,fun b k hk=>(by cases hk),fun _ _ _=>⟨none,0,0,rfl⟩⟩
  ·rcases hk with hk | hk
   ·exact Nat.lt_of_lt_of_le hk I0.fr.size
   ·rw [hk];exact hDl
  ·show ∃ A n c,(if id=0 then _ else _)=_
   split
   ·exact ⟨_,_,_,rfl⟩
   ·exact ⟨none,0,0,rfl⟩
  ·match id,ho with
   | 0,ho=>simp only [List.getElem?_cons_zero,Option.some.injEq] at ho;subst ho;exact o1 η _ 0 rfl rfl rfl
   | k+1,ho=>simp at ho
  ·match id,ho with
   | 0,ho=>exact ⟨fun hn=>hn.elim (fun h=>by have:bh<w.heap.size:=h;omega) (fun h=>hDb h.symm),fun hz=>hz.elim,I0.ah.lt⟩
   | k+1,ho=>simp at ho
  ·match i,j,hy,hz with
   | 0,0,_,_=>rfl
   | k+1,_,hy,_=>simp at hy
   | _,k+1,_,hz=>simp at hz
 have s:SR (fun b=>b<w.heap.size∨b=D) W η 1 W η (stT h) { a with defers:=[{ target:=.collected D,args:=#[] }] } W:=by
  refine ⟨I,Ext.refl,⟨by rw [a2];simp [stT],fun i x hx=>?_,rfl⟩,rfl⟩
  rcases stT_slot hx with ⟨rfl,rfl⟩ | rfl
  ·rw [a3];exact .ptr (η:=η) (row:=0) (sz:=1) (sub:=0) (by simp [stT]) (by show 0<h.length;omega)
  ·exact .junk _
 have hrun:execC Try.prog tt S31 QF31 dL 0 dc4 (stT h) dKT=some (digStr h):=by
  match h,h8 with
  | [x0,x1,x2,x3,x4,x5,x6,x7],_=>exact dig_tail x0 x1 x2 x3 x4 x5 x6 x7
 refine wpIn_wide.2 (execC_sound G31 dL dc4 0 (stT h) dKT _ η _ W dL_ok hrun (fun e st' η' a' W' hk s'=>?_) s)
 cases e with
 | normal=>simp [dKT] at hk
 | exit id=>simp [dKT] at hk
 | ret =>
  have hsl:∃ u v f r,st'.slots=u::v::.t f .str (digStr h)::r:=by
   simp only [dKT] at hk
   split at hk
   ·rename_i u v x r e
    simp only [Option.some.injEq] at hk
    exact ⟨u,v,true,r,by rw [e,hk]⟩
   ·cases hk
  obtain ⟨u,v,f,r,hsl⟩:=hsl
  have h2:=s'.sl.slot 2 _ (by rw [hsl];rfl)
  have hv:a'.tmps.getD 2 undef=.string (digStr h):=by
   generalize a'.tmps.getD 2 undef=y at h2
   cases h2 with
   | t _ hl=>simpa [Lay] using hl
  have hdd:W'.heap[D]? = some (.deferred (some [])):=(s'.inv.fr.block D (.inr rfl)).trans hd
  show LeavesInM Fence.wide n Try.prog Try.f115 a'.tmps R a'.defers .returning W'
  rw [show a'.defers=[{ target:=.collected D,args:=#[] }] from s'.sl.defers]
  refine ⟨by simp,.inl ⟨D,_,rfl,run_takeDeferred hdd,?_⟩⟩
  refine ⟨.string (digStr h),?_,hR _ ⟨?_,?_,?_,?_,fun k hk=>?_⟩⟩
  ·rw [results_tmp (t:=2) (by kernel_rfl) a'.tmps Try.prog _];exact congrArg (fun v=>Result.ok v _) hv
  ·exact s'.inv.fr.os.trans I0.fr.os
  ·exact s'.inv.fr.tape.trans I0.fr.tape
  ·exact s'.inv.fr.output.trans I0.fr.output
  ·have:=s'.inv.fr.size;have:=I0.fr.size;simp;omega
  ·have hne:k ≠ D:=by omega
   rw [World.putObj_heap_other hne]
   exact (s'.inv.fr.block k (.inl hk)).trans (I0.fr.block k hk)
theorem ptr_is {η:Env} {h:Nat} {w:World} {i:Nat} {v:Value} (r:AVR η h w (.ptr i 0 1 0) v):v=.pointer (some ⟨η.ι i,0,none⟩):=by
 cases r with
 | ptr hid hrr=>rfl
theorem fn_two {η:Env} {h:Nat} {w:World} {f:FuncId} {i j:Nat} {v:Value} (r:AVR η h w (.fn f [.ptr i 0 1 0,.ptr j 0 1 0]) v):v=.func (.func f) #[] #[.pointer (some ⟨η.ι i,0,none⟩),.pointer (some ⟨η.ι j,0,none⟩)]:=by
 cases r with
 | fn hsz hcs =>
  rw [two_of hsz (ptr_is (hcs 0 _ rfl)) (ptr_is (hcs 1 _ rfl))]
theorem asg_is:∃ o,dasg.toList=[o]∧o.op=.assign (.tmp 14)∧o.dst=some 5∧o.guard=none:=by
 have h0:dasg.toList.length=1:=by kernel_rfl
 have h1:dasg.toList.map (fun o=>o.op)=[.assign (.tmp 14)]:=by kernel_rfl
 have h2:dasg.toList.map (fun o=>o.dst)=[some 5]:=by kernel_rfl
 have h3:dasg.toList.map (fun o=>o.guard)=[none]:=by kernel_rfl
 obtain ⟨o,e⟩:=List.length_eq_one_iff.1 h0
 rw [e] at h1 h2 h3
 exact ⟨o,e,by simpa using h1,by simpa using h2,by simpa using h3⟩
theorem set_getD {a:Array Value} {i j:Nat} {v:Value} (h:i ≠ j):(a.setIfInBounds i v).getD j undef=a.getD j undef:=by
 simp only [Array.getD_eq_getD_getElem?,Array.getElem?_setIfInBounds,if_neg h]
theorem set_getD_self {a:Array Value} {i:Nat} {v:Value} (h:i<a.size):(a.setIfInBounds i v).getD i undef=v:=by
 simp [Array.getD_eq_getD_getElem?,Array.getElem?_setIfInBounds,h]
theorem c_iDigest:PContract Try.prog 115 (sumOf P_iDigest pre_iDigest g_iDigest):=by
 refine PContract.of_calls _ _ _ (fun d hd w vs hl hr=>?_)
 obtain ⟨a0,_⟩:=d
 have hq:q_iDigest a0=true:=hd
 simp only [q_iDigest,Bool.and_eq_true,decide_eq_true_eq] at hq
 obtain ⟨qp,qm,q0,ql⟩:=hq
 obtain ⟨p,hp⟩:∃ p,p=iPadded a0:=⟨_,rfl⟩
 obtain ⟨m,hm⟩:∃ m,m=p.length / 64:=⟨_,rfl⟩
 have hm64:64*m=p.length:=by rw [← hp] at qm;omega
 show Calls Try.prog 115 vs w fun e w'=>∃ v η', e=.returned v∧Inv (·<w.heap.size) w η' [] w'∧AVR η' 0 w' (.t true .str (iDigest a0)) v
 refine callsIn_wide.1 (callsIn_of_wp_marks (n:=5) (F:=Fence.wide) (fn:=Try.f115) (by kernel_rfl) dig_body trivial ?_)
 have s0:=SR.start (Inv.empty w) hl hr Try.f115
 have hrun:=(dig_run a0).trans (by rw [qp];rfl:_=some (Ex.normal,stR a0))
 refine wpIn_seq (wpIn_wide.2 (execC_sound G31 (fun _ _=>none) dc0 0 _ dK1 _ _ _ w (hl0 (L:=fun _ _=>none) (b:=0) (x:=dc0) (by kernel_rfl)) hrun (fun e st1 η1 a1 w1 hk s1=>?_) s0))
 cases e with
 | exit id=>cases hk
 | ret=>cases hk
 | normal =>
 refine wpIn_seq (wpIn_wide.2 (execC_sound G31 (fun _ _=>none) dc1 0 _ dK2 _ _ _ w1 (hl0 (L:=fun _ _=>none) (b:=0) (x:=dc1) (by kernel_rfl)) hk (fun e st2 η2 a2 w2 hk s2=>?_) s1))
 cases e with
 | exit id=>cases hk
 | ret=>cases hk
 | normal =>
 refine wpIn_seq (wpIn_wide.2 (execC_sound G31 (fun _ _=>none) dc2 0 _ dK3 _ _ _ w2 (hl0 (L:=fun _ _=>none) (b:=0) (x:=dc2) (by kernel_rfl)) hk (fun e st3 η3 a3 w3 hk s3=>?_) s2))
 cases e with
 | exit id=>cases hk
 | ret=>cases hk
 | normal =>
 refine wpIn_seq (wpIn_seq (wpIn_wide.2 (wp_region_list (execOps_sound G31.types SC_ok dops3 dops3.toList _ _ _ _ w3 s3 hk (fun st4 η aR W1 hk sR=>?_)))))
 obtain rfl:stR a0=st4:=by simpa using hk.symm
 clear hk s1 s2 s3
 have I1:=sR.inv
 -- the objects
 obtain ⟨bh,ebh⟩:∃ bh,bh=η.ι 0:=⟨_,rfl⟩
 obtain ⟨bk,ebk⟩:∃ bk,bk=η.ι 1:=⟨_,rfl⟩
 obtain ⟨bx,ebx⟩:∃ bx,bx=η.ι 2:=⟨_,rfl⟩
 obtain ⟨Bs,eBs⟩:∃ bs,bs=η.ι 3:=⟨_,rfl⟩
 obtain ⟨Bn,eBn⟩:∃ bn,bn=η.ι 4:=⟨_,rfl⟩
 have h0':(stR a0).heap[0]? = some (.rows 158 true (.int .u32) hinit):=rfl
 have h1':(stR a0).heap[1]? = some (.rows 176 true (.int .u32) irounds):=rfl
 have h2':(stR a0).heap[2]? = some (.box [.ptr 1 0 1 0]):=rfl
 have h3':(stR a0).heap[3]? = some (.box [.t true t_sy (iPadded a0)]):=rfl
 have h4':(stR a0).heap[4]? = some (.box [(.t true (.int .i64) (64:Int):AV)]):=rfl
 have m0:=mat_rows I1 h0' (by decide)
 have m1:=mat_rows I1 h1' (by decide)
 have d1:bh ≠ bk:=fun e=>absurd (I1.inj 0 1 _ _ h0' h1' m0 m1 (ebh ▸ ebk ▸ e)) (by decide)
 have d2:bh ≠ bx:=fun e=>absurd (I1.inj 0 2 _ _ h0' h2' m0 trivial (ebh ▸ ebx ▸ e)) (by decide)
 have d3:bk ≠ bx:=fun e=>absurd (I1.inj 1 2 _ _ h1' h2' m1 trivial (ebk ▸ ebx ▸ e)) (by decide)
 have s0':Bs ≠ bh:=fun e=>absurd (I1.inj 3 0 _ _ h3' h0' trivial m0 (eBs ▸ ebh ▸ e)) (by decide)
 have s1':Bs ≠ bk:=fun e=>absurd (I1.inj 3 1 _ _ h3' h1' trivial m1 (eBs ▸ ebk ▸ e)) (by decide)
 have s2':Bs ≠ bx:=fun e=>absurd (I1.inj 3 2 _ _ h3' h2' trivial trivial (eBs ▸ ebx ▸ e)) (by decide)
 have n0':Bn ≠ bh:=fun e=>absurd (I1.inj 4 0 _ _ h4' h0' trivial m0 (eBn ▸ ebh ▸ e)) (by decide)
 have n1':Bn ≠ bk:=fun e=>absurd (I1.inj 4 1 _ _ h4' h1' trivial m1 (eBn ▸ ebk ▸ e)) (by decide)
 have n2':Bn ≠ bx:=fun e=>absurd (I1.inj 4 2 _ _ h4' h2' trivial trivial (eBn ▸ ebx ▸ e)) (by decide)
 obtain ⟨o0a,o0b,l0⟩:=I1.own 0 _ h0' m0
 obtain ⟨o1a,o1b,l1⟩:=I1.own 1 _ h1' m1
 obtain ⟨o2a,o2b,l2⟩:=I1.own 2 _ h2' trivial
 obtain ⟨o3a,o3b,l3⟩:=I1.own 3 _ h3' trivial
 obtain ⟨o4a,o4b,l4⟩:=I1.own 4 _ h4' trivial
 rw [← ebh] at o0a o0b l0
 rw [← ebk] at o1a o1b l1
 rw [← ebx] at o2a o2b l2
 rw [← eBs] at o3a o3b l3
 rw [← eBn] at o4a o4b l4
 have g0:w.heap.size≤bh:=Nat.not_lt.1 o0a
 have g1:w.heap.size≤bk:=Nat.not_lt.1 o1a
 have g2:w.heap.size≤bx:=Nat.not_lt.1 o2a
 have hww:w.heap.size≤W1.heap.size:=I1.fr.size
 -- the slots
 have t3:aR.tmps.getD 3 undef=.pointer (some ⟨bh,0,none⟩):=by
  have h:=sR.sl.slot 3 (.ptr 0 0 1 0) rfl
  generalize aR.tmps.getD 3 undef=v at h
  cases h with
  | ptr hid hrr=>rw [ebh]
 have t4:aR.tmps.getD 4 undef=.pointer (some ⟨bx,0,none⟩):=by
  have h:=sR.sl.slot 4 (.ptr 2 0 1 0) rfl
  generalize aR.tmps.getD 4 undef=v at h
  cases h with
  | ptr hid hrr=>rw [ebx]
 have t13:aR.tmps.getD 13 undef=.func (.func 168) #[] #[.pointer (some ⟨Bs,0,none⟩),.pointer (some ⟨Bn,0,none⟩)]:=by
  rw [eBs,eBn]
  exact fn_two (sR.sl.slot 13 (.fn 168 [.ptr 3 0 1 0,.ptr 4 0 1 0]) rfl)
 have tsz:aR.tmps.size=39:=by rw [sR.sl.size];rfl
 -- the padded bytes
 obtain ⟨_,c3,E3,g3,z3,x3⟩:=I1.obj 3 _ h3'
 obtain ⟨_,c4,E4,g4,z4,x4⟩:=I1.obj 4 _ h4'
 rw [← eBs] at g3
 rw [← eBn] at g4
 have y3:=(x3 0 _ rfl).1
 have y4:=(x4 0 _ rfl).1
 have v4:c4.getD 0 undef=.int .i64 64:=int_rel y4
 obtain ⟨ad,cap,v3,hcap,hzt,hcell⟩:∃ (ad:Addr) (cap:Nat),c3.getD 0 undef=.slice (some ad) (64*m) cap∧64*m≤cap∧η.Z true ad.block∧∀ (i:Nat) (x:Int),p[i]? = some x→W1.cell? (ad.add i)=some (.int .u8 x):=by
  rw [← hp] at y3
  generalize c3.getD 0 undef=v at y3
  cases y3 with
  | t _ hlay =>
   obtain ⟨A,cap,e1,e2,e3⟩:=hlay
   simp only [if_true,Option.some.injEq] at e1
   rcases e3 with rfl | ⟨ad,rfl,hz,hcs⟩
   ·rw [← hp] at q0;simp at q0
   ·refine ⟨ad,cap,by rw [e1,hm64],by rw [hm64];exact e2,hz,fun i x hx=>?_⟩
    have h:=hcs i x hx
    simp only [Lay,Ty.cells,Nat.mul_one,Nat.add_zero] at h
    exact h
 have hzf:η.Z false ad.block:=I1.zsub _ hzt
 have b0:ad.block ≠ bh:=fun e=>o0b (e ▸ hzf)
 have b1:ad.block ≠ bk:=fun e=>o1b (e ▸ hzf)
 have b2:ad.block ≠ bx:=fun e=>o2b (e ▸ hzf)
 have bl:ad.block<W1.heap.size:=I1.zlt _ _ hzf
 obtain ⟨cd,Ed,fd,gd⟩:∃ cd Ed fd,W1.heap[ad.block]? = some (.cells cd Ed fd):=by
  obtain ⟨x,hx⟩:∃ x,p[0]? = some x:=by cases p with
   | nil=>rw [← hp] at q0;simp at q0
   | cons x _=>exact ⟨x,rfl⟩
  have h:=hcell 0 x hx
  obtain ⟨o,ho,hc⟩:=cells_of_cell h
  rw [addr_block] at ho
  cases o with
  | cells a b c=>exact ⟨a,b,c,ho⟩
  | _=>cases hc
 have cs:W1.cell? ⟨Bs,0,none⟩=some (.slice (some ad) (64*m) cap):=by rw [cell_block g3,← v3];exact getElem?_getD (by rw [z3];simp)
 have cn:W1.cell? ⟨Bn,0,none⟩=some (.int .i64 64):=by rw [cell_block g4,← v4];exact getElem?_getD (by rw [z4];simp)
 have D0:DI w W1 bh bk bx hinit W1:=by
  refine ⟨I1.fr,Nat.le_refl _,fun _ _ _ _ _ _ _ h=>h,?_,?_,?_⟩
  ·rw [ebh];exact arrAt.of I1 h0' (by decide)
  ·rw [ebk];exact arrAt.of I1 h1' (by decide)
  ·rw [ebx];exact px_of I1 h2' ebk.symm
 refine wpIn_block (wpIn_rangeFunc_ownF (F:=Fence.wide) (n:=5) rfl (by decide) (gf:=168) (lb:=#[.pointer (some ⟨Bs,0,none⟩),.pointer (some ⟨Bn,0,none⟩)]) t13 trivial (enters_of Try.func168 (by kernel_rfl) rfl)
  (chunk_stops 4 (by decide) Bs Bn m cap ad hcap (by rw [← hp] at ql;omega) W1 cs cn l3 l4) (fun h k=>⟨k.1.trans h.1,k.2.trans h.2⟩) (fun W l o o' hwl ho hc _=>?_) (Below.refl _ _) (fun _=>rfl)
  (fun pre W=>DI w W1 bh bk bx (digL p pre) W) (fun _ _ _=>False) (DI.from w W1 bh bk bx (digL p) hww l0 l1 l2) (fun _ _ _ _ _ h=>h.elim) D0
  (fun x=>{ tmps:=(aR.tmps.setIfInBounds 14 (.slice (some (ad.add (64*x.1))) 64 64)).setIfInBounds 5 (.slice (some (ad.add (64*x.1))) 64 64),defers:=[] })
  (fun l x W K hK=>?_) (fun l pre x W D hlen=>?_) (fun Dd xs W hD hS D hdd=>?_) (fun _ _ _ _ _ _ h _=>h.elim))
 ·have k1:Bs ≠ l:=by omega
  have k2:Bn ≠ l:=by omega
  exact ⟨World.cell?_of_block (World.putObj_heap_other k1),World.cell?_of_block (World.putObj_heap_other k2)⟩
 ·obtain ⟨o,e,e1,e2,e3⟩:=asg_is
  have ez:((#[14]:Array Tmp).zip #[Value.slice (some (ad.add (64*x.1))) 64 64]).foldl (fun t (p,v)=>t.setIfInBounds p v) aR.tmps=aR.tmps.setIfInBounds 14 (.slice (some (ad.add (64*x.1))) 64 64):=by simp
  refine wpIn_region_list ?_
  rw [e,ez]
  have ev:(aR.tmps.setIfInBounds 14 (Value.slice (some (ad.add (64*x.1))) 64 64)).getD 14 undef=.slice (some (ad.add (64*x.1))) 64 64:=set_getD_self (by rw [tsz];decide)
  refine wpListIn_plain e3 (fun Kc hKc=>wp_in (.inr ⟨l,rfl⟩) (by simp [notDefer,e1]) (wp_value (w':=W) (x:=.slice (some (ad.add (64*x.1))) 64 64) (by simp only [execOp,e1,Act.eval,ev];rfl) (hKc _ _ ?_)))
  rw [e2]
  exact hK
 ·refine round_ok D (digL_len hm64 pre hinit rfl) d1 d2 d3 (bd:=ad.block) (Nat.lt_of_lt_of_le bl D.sz) b0 b1 b2 g0 g1 g2 _ l (c:=(p.drop (64*x.1)).take 64) ?_ ?_ ?_ rfl (chunk_len hm64 x) ?_ (fun a' W' ko oth DI'=>⟨ko,⟨?_,?_⟩,?_⟩)
  ·show ((aR.tmps.setIfInBounds 14 _).setIfInBounds 5 _).size=39
   simp [tsz]
  ·show ((aR.tmps.setIfInBounds 14 _).setIfInBounds 5 _).getD 3 undef=_
   rw [set_getD (by decide),set_getD (by decide)];exact t3
  ·show ((aR.tmps.setIfInBounds 14 _).setIfInBounds 5 _).getD 4 undef=_
   rw [set_getD (by decide),set_getD (by decide)];exact t4
  ·have e5:((aR.tmps.setIfInBounds 14 (Value.slice (some (ad.add (64*x.1))) 64 64)).setIfInBounds 5 (Value.slice (some (ad.add (64*x.1))) 64 64)).getD 5 undef=.slice (some (ad.add (64*x.1))) 64 64:=set_getD_self (by rw [Array.size_setIfInBounds,tsz];decide)
   refine ⟨some (ad.add (64*x.1)),64,?_,by rw [chunk_len hm64 x];exact Nat.le_refl _,.inr ⟨_,rfl,addr_block _ _,fun i y hy=>?_⟩⟩
   ·rw [chunk_len hm64 x]
    exact congrArg some e5
   ·rw [List.getElem?_take] at hy
    split at hy
    ·rw [List.getElem?_drop] at hy
     have h1:=hcell _ y hy
     have h2:W.cell? (ad.add (64*x.1+i))=W1.cell? (ad.add (64*x.1+i)):=World.cell?_of_block (by rw [addr_block,gd];exact D.old _ _ _ _ b0 b1 b2 gd)
     show W.cell? ((ad.add (64*x.1)).add (i*1+0))=some (.int .u8 y)
     rw [addr_add,Nat.mul_one,Nat.add_zero,h2];exact h1
    ·cases hy
  ·have hl3:Bs<W.heap.size:=Nat.lt_of_lt_of_le l3 D.sz
   exact World.cell?_of_block (oth Bs hl3 s0' s1' s2')
  ·have hl4:Bn<W.heap.size:=Nat.lt_of_lt_of_le l4 D.sz
   exact World.cell?_of_block (oth Bn hl4 n0' n1' n2')
  ·show DI w W1 bh bk bx (digL p (pre++[x])) W'
   rw [digL_snoc];exact DI'
 ·show dc4.wpIn Fence.wide 5 Try.prog _ { aR with defers:={ target:=.collected Dd,args:=#[] }::aR.defers } W
  rw [show aR.defers=[] from sR.sl.defers]
  subst hS
  refine tail_ok D (digL_len hm64 _ hinit rfl) g0 hD hww (by omega) hdd tsz t3 (fun W' hW'=>?_) 5
  obtain ⟨w1', w2', w3', w4', w5'⟩:=hW'
  refine ⟨.string _,{ ι:=fun _=>0,hv:=fun _=>nilV,ln:=fun _=>0,Z:=fun _ _=>False,nv:=fun _ _ _=>nilV,O:=fun _=>none },rfl,⟨fun _ h=>h,⟨w1', w2', w3', w4', w5'⟩,fun _ _ hb=>hb.elim,fun _ hb=>hb.elim,fun _ hb=>hb.elim,fun _=>⟨none,0,0,rfl⟩,fun id o h=>by simp at h,fun id o h=>by simp at h,fun id id' o o' h=>by simp at h,fun b k h=>(by cases h),fun _ _ _=>⟨none,0,0,rfl⟩⟩,?_⟩
  rw [digL_all p hm,hp]
  exact .t rfl (by simp [Lay,iDigest])
noncomputable def S32:Tab:=Tab.add S31 115 (lift (sumOf P_iDigest pre_iDigest g_iDigest))
noncomputable def QF32:FuncId→Bool:=qadd QF31 115
theorem G32:Good Try.prog tt S32 QF32:=G31.addQ c_iDigest (cbl Try.f115) (fun _=>rfl)

noncomputable abbrev P_iputRec:List PSh:=[.agg [(.int .i64),(.int .i64),tq3]]
noncomputable def iputRec (a0:Int) (a1:Int) (a2:Lq1):List Int:=(cond (decide (((a2.length:Nat):Int) > (0:Int))) (((iputNum_nil (((iputOps a2 (iputNum a1 (iputNum_nil a0))).length:Nat):Int))++(iputOps a2 (iputNum a1 (iputNum_nil a0))))++strInts ((iDigest (iputOps a2 (iputNum a1 (iputNum_nil a0)))).extract (0:Int).toNat (4:Int).toNat)) (((iputNum_nil (((iputNum a1 (iputNum_nil a0)).length:Nat):Int))++(iputNum a1 (iputNum_nil a0)))++strInts ((iDigest (iputNum a1 (iputNum_nil a0))).extract (0:Int).toNat (4:Int).toNat)))
noncomputable abbrev e_iputRec (r:List Int):AV×List AObj:=((.t true t_sy r),[])
noncomputable abbrev g_iputRec:pshsDen P_iputRec→AV×List AObj:=fun d=>e_iputRec (iputRec d.1.1 d.1.2.1 d.1.2.2.1)
noncomputable def q_iputRec (a0:Int) (a1:Int) (a2:Lq1):Bool:=(q_iputNum a1 (iputNum_nil a0))&&(cond (decide (((a2.length:Nat):Int) > (0:Int))) ((q_iputOps a2 (iputNum a1 (iputNum_nil a0)))&&((decide (((iputNum_nil (((iputOps a2 (iputNum a1 (iputNum_nil a0))).length:Nat):Int)).length+(iputOps a2 (iputNum a1 (iputNum_nil a0))).length)*1≤MAXB))&&((q_iDigest (iputOps a2 (iputNum a1 (iputNum_nil a0))))&&((decide (0≤(0:Int)∧(0:Int)≤(4:Int)∧(4:Int)≤(((iDigest (iputOps a2 (iputNum a1 (iputNum_nil a0)))).size:Nat):Int)))&&(decide (((iputNum_nil (((iputOps a2 (iputNum a1 (iputNum_nil a0))).length:Nat):Int))++(iputOps a2 (iputNum a1 (iputNum_nil a0)))).length+((iDigest (iputOps a2 (iputNum a1 (iputNum_nil a0)))).extract (0:Int).toNat (4:Int).toNat).size≤MAXB)))))) ((decide (((iputNum_nil (((iputNum a1 (iputNum_nil a0)).length:Nat):Int)).length+(iputNum a1 (iputNum_nil a0)).length)*1≤MAXB))&&((q_iDigest (iputNum a1 (iputNum_nil a0)))&&((decide (0≤(0:Int)∧(0:Int)≤(4:Int)∧(4:Int)≤(((iDigest (iputNum a1 (iputNum_nil a0))).size:Nat):Int)))&&(decide (((iputNum_nil (((iputNum a1 (iputNum_nil a0)).length:Nat):Int))++(iputNum a1 (iputNum_nil a0))).length+((iDigest (iputNum a1 (iputNum_nil a0))).extract (0:Int).toNat (4:Int).toNat).size≤MAXB))))))
noncomputable abbrev pre_iputRec:pshsDen P_iputRec→Bool:=fun d=>q_iputRec d.1.1 d.1.2.1 d.1.2.2.1
theorem run_iputRec:RunP true G32 (fun _ _=>none) Try.f67 P_iputRec pre_iputRec g_iputRec:=by
 rintro ⟨⟨a0,⟨a1,⟨a2,_⟩⟩⟩,_⟩ hp
 change q_iputRec a0 a1 a2=true at hp
 unfold q_iputRec at hp
 refine Eq.trans (b:=(cond (q_iputNum a1 (iputNum_nil a0)) (cond (decide (((a2.length:Nat):Int) > (0:Int))) (cond (q_iputOps a2 (iputNum a1 (iputNum_nil a0))) (cond (decide (((iputNum_nil (((iputOps a2 (iputNum a1 (iputNum_nil a0))).length:Nat):Int)).length+(iputOps a2 (iputNum a1 (iputNum_nil a0))).length)*1≤MAXB)) (cond (q_iDigest (iputOps a2 (iputNum a1 (iputNum_nil a0)))) (cond (decide (0≤(0:Int)∧(0:Int)≤(4:Int)∧(4:Int)≤(((iDigest (iputOps a2 (iputNum a1 (iputNum_nil a0)))).size:Nat):Int))) (cond (decide (((iputNum_nil (((iputOps a2 (iputNum a1 (iputNum_nil a0))).length:Nat):Int))++(iputOps a2 (iputNum a1 (iputNum_nil a0)))).length+((iDigest (iputOps a2 (iputNum a1 (iputNum_nil a0)))).extract (0:Int).toNat (4:Int).toNat).size≤MAXB)) (some (e_iputRec (((iputNum_nil (((iputOps a2 (iputNum a1 (iputNum_nil a0))).length:Nat):Int))++(iputOps a2 (iputNum a1 (iputNum_nil a0))))++strInts ((iDigest (iputOps a2 (iputNum a1 (iputNum_nil a0)))).extract (0:Int).toNat (4:Int).toNat)))) none) none) none) none) none) (cond (decide (((iputNum_nil (((iputNum a1 (iputNum_nil a0)).length:Nat):Int)).length+(iputNum a1 (iputNum_nil a0)).length)*1≤MAXB)) (cond (q_iDigest (iputNum a1 (iputNum_nil a0))) (cond (decide (0≤(0:Int)∧(0:Int)≤(4:Int)∧(4:Int)≤(((iDigest (iputNum a1 (iputNum_nil a0))).size:Nat):Int))) (cond (decide (((iputNum_nil (((iputNum a1 (iputNum_nil a0)).length:Nat):Int))++(iputNum a1 (iputNum_nil a0))).length+((iDigest (iputNum a1 (iputNum_nil a0))).extract (0:Int).toNat (4:Int).toNat).size≤MAXB)) (some (e_iputRec (((iputNum_nil (((iputNum a1 (iputNum_nil a0)).length:Nat):Int))++(iputNum a1 (iputNum_nil a0)))++strInts ((iDigest (iputNum a1 (iputNum_nil a0))).extract (0:Int).toNat (4:Int).toNat)))) none) none) none) none)) none)) (by kernel_rfl) ?_
 exact (cndA hp fun hp=>(cndE e_iputRec hp (fun hp=>(cndA hp fun hp=>(cndA hp fun hp=>(cndA hp fun hp=>(cndA hp fun hp=>(cndT hp fun _h=>rfl)))))) (fun hp=>(cndA hp fun hp=>(cndA hp fun hp=>(cndA hp fun hp=>(cndT hp fun _h=>rfl)))))))
theorem c_iputRec:PContract Try.prog 67 (sumOf P_iputRec pre_iputRec g_iputRec):=pcD true G32 hlz run_iputRec
noncomputable def S33:Tab:=Tab.add S32 67 (lift (sumOf P_iputRec pre_iputRec g_iputRec))
noncomputable def QF33:FuncId→Bool:=qadd QF32 67
theorem G33:Good Try.prog tt S33 QF33:=G32.addQ c_iputRec (cbl Try.f67) (fun _=>rfl)

noncomputable abbrev P_iPutRec:List PSh:=[.agg [(.int .i64),(.int .i64),tq3]]
noncomputable def iPutRec (a0:Int) (a1:Int) (a2:Lq1):List Int:=(cond (!(iRecOk a0 a1 a2)) [] (iputRec a0 a1 a2))
noncomputable abbrev e_iPutRec (r:List Int):AV×List AObj:=((.t true t_sy r),[])
noncomputable abbrev g_iPutRec:pshsDen P_iPutRec→AV×List AObj:=fun d=>e_iPutRec (iPutRec d.1.1 d.1.2.1 d.1.2.2.1)
noncomputable def q_iPutRec (a0:Int) (a1:Int) (a2:Lq1):Bool:=(q_iRecOk a0 a1 a2)&&(cond (!(iRecOk a0 a1 a2)) true (q_iputRec a0 a1 a2))
noncomputable abbrev pre_iPutRec:pshsDen P_iPutRec→Bool:=fun d=>q_iPutRec d.1.1 d.1.2.1 d.1.2.2.1
theorem run_iPutRec:RunP true G33 (fun _ _=>none) Try.f18 P_iPutRec pre_iPutRec g_iPutRec:=by
 rintro ⟨⟨a0,⟨a1,⟨a2,_⟩⟩⟩,_⟩ hp
 change q_iPutRec a0 a1 a2=true at hp
 unfold q_iPutRec at hp
 refine Eq.trans (b:=(cond (q_iRecOk a0 a1 a2) (cond (!(iRecOk a0 a1 a2)) (some (e_iPutRec [])) (cond (q_iputRec a0 a1 a2) (some (e_iPutRec (iputRec a0 a1 a2))) none)) none)) (by kernel_rfl) ?_
 exact (cndA hp fun hp=>(cndE e_iPutRec hp (fun hp=>rfl) (fun hp=>(cndT hp fun _h=>rfl))))
theorem c_iPutRec:PContract Try.prog 18 (sumOf P_iPutRec pre_iPutRec g_iPutRec):=pcD true G33 hlz run_iPutRec
noncomputable def S34:Tab:=Tab.add S33 18 (lift (sumOf P_iPutRec pre_iPutRec g_iPutRec))
noncomputable def QF34:FuncId→Bool:=qadd QF33 18
theorem G34:Good Try.prog tt S34 QF34:=G33.addQ c_iPutRec (cbl Try.f18) (fun _=>rfl)

noncomputable abbrev jS48:List Sh:=.junk::.junk::jS46
noncomputable abbrev jS54:List Sh:=.junk::.junk::.junk::.junk::.junk::.junk::jS48
noncomputable abbrev u49:=((),(),u47)
noncomputable abbrev u56:=((),(),(),(),(),(),(),u49)
noncomputable abbrev jA48:List AV:=.junk::.junk::jA46
noncomputable abbrev jA54:List AV:=.junk::.junk::.junk::.junk::.junk::.junk::jA48
noncomputable abbrev P_iGetNum:List PSh:=[.t t_sy,.t (.int .i64)]
noncomputable abbrev S_iGetNum_0:SS:=⟨(.t false t_sy::.t true (.int .i64)::.junk::.junk::.junk::.junk::.junk::.t true (.int .i64)::.t true (.int .i64)::jS46),[]⟩
noncomputable abbrev E_iGetNum_0_0:SS:=⟨(.junk::.junk::.junk::.junk::.t true (.int .i64)::.t true (.int .i64)::.t true .bool::jS48),[]⟩
noncomputable abbrev E_iGetNum_0_1:SS:=⟨(.junk::jS54),[]⟩
noncomputable def st_iGetNum_0 (x0:List Int) (x1:Int) (x7:Int) (x8:Int):RT S_iGetNum_0.den:=(.br (decide (x8<(5:Int))) (.br (decide (x1<((x0.length:Nat):Int))) (.br (decide (0≤x1∧x1<((x0.length:Nat):Int))) (.br (decide (0≤(IntKind.wrap .u64 (IntKind.wrap .i64 ((7:Int)*x8))))) (.br (decide ((IntKind.wrap .i64 (x0.getD x1.toNat (0:Int)))<(128:Int))) (.br ((IntKind.wrap .i64 (x0.getD x1.toNat (0:Int)))==(0:Int)) (.br (decide (x8 > (0:Int))) (.done .ret E_iGetNum_0_0 (((),(),(),(),(0:Int),(0:Int),false,u49),())) (.br (decide ((ior .i64 x7 (IntKind.wrap .i64 ((iand .i64 (IntKind.wrap .i64 (x0.getD x1.toNat (0:Int))) (127:Int))*2 ^ (min (Int.toNat (IntKind.wrap .u64 (IntKind.wrap .i64 ((7:Int)*x8)))) (IntKind.bits .i64))))) > (1000000000:Int))) (.done .ret E_iGetNum_0_0 (((),(),(),(),(0:Int),(0:Int),false,u49),())) (.done .ret E_iGetNum_0_0 (((),(),(),(),ior .i64 x7 (IntKind.wrap .i64 ((iand .i64 (IntKind.wrap .i64 (x0.getD x1.toNat (0:Int))) (127:Int))*2 ^ (min (Int.toNat (IntKind.wrap .u64 (IntKind.wrap .i64 ((7:Int)*x8)))) (IntKind.bits .i64)))),IntKind.wrap .i64 (x1+(1:Int)),true,u49),())))) (.br (decide ((ior .i64 x7 (IntKind.wrap .i64 ((iand .i64 (IntKind.wrap .i64 (x0.getD x1.toNat (0:Int))) (127:Int))*2 ^ (min (Int.toNat (IntKind.wrap .u64 (IntKind.wrap .i64 ((7:Int)*x8)))) (IntKind.bits .i64))))) > (1000000000:Int))) (.done .ret E_iGetNum_0_0 (((),(),(),(),(0:Int),(0:Int),false,u49),())) (.done .ret E_iGetNum_0_0 (((),(),(),(),ior .i64 x7 (IntKind.wrap .i64 ((iand .i64 (IntKind.wrap .i64 (x0.getD x1.toNat (0:Int))) (127:Int))*2 ^ (min (Int.toNat (IntKind.wrap .u64 (IntKind.wrap .i64 ((7:Int)*x8)))) (IntKind.bits .i64)))),IntKind.wrap .i64 (x1+(1:Int)),true,u49),())))) (.next ((x0,IntKind.wrap .i64 (x1+(1:Int)),(),(),(),(),(),ior .i64 x7 (IntKind.wrap .i64 ((iand .i64 (IntKind.wrap .i64 (x0.getD x1.toNat (0:Int))) (127:Int))*2 ^ (min (Int.toNat (IntKind.wrap .u64 (IntKind.wrap .i64 ((7:Int)*x8)))) (IntKind.bits .i64)))),IntKind.wrap .i64 (x8+(1:Int)),u47),()))) .fail) .fail) (.done (.exit 0) E_iGetNum_0_1 ((u56),()))) (.done (.exit 0) E_iGetNum_0_1 ((u56),())))
noncomputable abbrev V_iGetNum_0:=(List Int)×(Int)×(Int)×(Int)
noncomputable abbrev A_iGetNum_0:=Nat×(Int)×(Int)×(Bool)
noncomputable def fl_iGetNum_0:A_iGetNum_0:=(99,((0:Int):Int),((0:Int):Int),(false:Bool))
noncomputable def ss_iGetNum_0 (x0:List Int) (x1:Int) (x7:Int) (x8:Int):V_iGetNum_0 ⊕ A_iGetNum_0:=(cond (decide (x8<(5:Int))) (cond (decide (x1<((x0.length:Nat):Int))) (cond (decide (0≤x1∧x1<((x0.length:Nat):Int))) (cond (decide (0≤(IntKind.wrap .u64 (IntKind.wrap .i64 ((7:Int)*x8))))) (cond (decide ((IntKind.wrap .i64 (x0.getD x1.toNat (0:Int)))<(128:Int))) (cond ((IntKind.wrap .i64 (x0.getD x1.toNat (0:Int)))==(0:Int)) (cond (decide (x8 > (0:Int))) (.inr (0,(0:Int),(0:Int),false)) (cond (decide ((ior .i64 x7 (IntKind.wrap .i64 ((iand .i64 (IntKind.wrap .i64 (x0.getD x1.toNat (0:Int))) (127:Int))*2 ^ (min (Int.toNat (IntKind.wrap .u64 (IntKind.wrap .i64 ((7:Int)*x8)))) (IntKind.bits .i64))))) > (1000000000:Int))) (.inr (0,(0:Int),(0:Int),false)) (.inr (0,ior .i64 x7 (IntKind.wrap .i64 ((iand .i64 (IntKind.wrap .i64 (x0.getD x1.toNat (0:Int))) (127:Int))*2 ^ (min (Int.toNat (IntKind.wrap .u64 (IntKind.wrap .i64 ((7:Int)*x8)))) (IntKind.bits .i64)))),IntKind.wrap .i64 (x1+(1:Int)),true)))) (cond (decide ((ior .i64 x7 (IntKind.wrap .i64 ((iand .i64 (IntKind.wrap .i64 (x0.getD x1.toNat (0:Int))) (127:Int))*2 ^ (min (Int.toNat (IntKind.wrap .u64 (IntKind.wrap .i64 ((7:Int)*x8)))) (IntKind.bits .i64))))) > (1000000000:Int))) (.inr (0,(0:Int),(0:Int),false)) (.inr (0,ior .i64 x7 (IntKind.wrap .i64 ((iand .i64 (IntKind.wrap .i64 (x0.getD x1.toNat (0:Int))) (127:Int))*2 ^ (min (Int.toNat (IntKind.wrap .u64 (IntKind.wrap .i64 ((7:Int)*x8)))) (IntKind.bits .i64)))),IntKind.wrap .i64 (x1+(1:Int)),true)))) (.inl (x0,IntKind.wrap .i64 (x1+(1:Int)),ior .i64 x7 (IntKind.wrap .i64 ((iand .i64 (IntKind.wrap .i64 (x0.getD x1.toNat (0:Int))) (127:Int))*2 ^ (min (Int.toNat (IntKind.wrap .u64 (IntKind.wrap .i64 ((7:Int)*x8)))) (IntKind.bits .i64)))),IntKind.wrap .i64 (x8+(1:Int))))) (.inr fl_iGetNum_0)) (.inr fl_iGetNum_0)) (.inr (1,((0:Int):Int),((0:Int):Int),(false:Bool)))) (.inr (1,((0:Int):Int),((0:Int):Int),(false:Bool))))
noncomputable def it_iGetNum_0 (x0:List Int) (x1:Int) (x7:Int) (x8:Int):A_iGetNum_0:=itX (fun v:V_iGetNum_0=>ss_iGetNum_0 v.1 v.2.1 v.2.2.1 v.2.2.2) fl_iGetNum_0 (x0,x1,x7,x8)
noncomputable def ct_iGetNum_0 (a:A_iGetNum_0):CT:=(.br (a.1==0) (.done .ret E_iGetNum_0_0 (((),(),(),(),a.2.1,a.2.2.1,a.2.2.2,u49),())) (.br (a.1==1) (.done (.exit 0) E_iGetNum_0_1 ((u56),())) .fail))
noncomputable def T_iGetNum_0 (x0:List Int) (x1:Int) (x7:Int) (x8:Int):CT:=ct_iGetNum_0 (it_iGetNum_0 x0 x1 x7 x8)
noncomputable abbrev ap_iGetNum_0 {α:Sort _} (f:(List Int)→Int→Int→Int→α) (d:S_iGetNum_0.den):α:=f d.1.1 d.1.2.1 d.1.2.2.2.2.2.2.2.1 d.1.2.2.2.2.2.2.2.2.1
noncomputable abbrev sp_iGetNum_0:S_iGetNum_0.den→RT S_iGetNum_0.den:=(ap_iGetNum_0 st_iGetNum_0)
noncomputable def body_iGetNum_0:Code:=((loopsIn 0 (bodyOf Try.f76)).getD 0 (0,.skip)).2
noncomputable abbrev pv_iGetNum_0 (v:V_iGetNum_0):S_iGetNum_0.den:=((v.1,v.2.1,(),(),(),(),(),v.2.2.1,v.2.2.2,u47),())
theorem rl_iGetNum_0:(∀ v:V_iGetNum_0,(st_iGetNum_0 v.1 v.2.1 v.2.2.1 v.2.2.2).val=relS pv_iGetNum_0 ct_iGetNum_0 (ss_iGetNum_0 v.1 v.2.1 v.2.2.1 v.2.2.2))∧∀ a:A_iGetNum_0,CEnd S_iGetNum_0.den (ct_iGetNum_0 a):=⟨fun v=>by repeat' first | apply relB | rfl,fun a=>(cendB (cendD (by simp)) (cendB (cendD (by simp)) cendF))⟩
noncomputable def ox_iGetNum_0 (x0:List Int) (x1:Int) (x7:Int) (x8:Int):Option (Ex×St):=(cond (decide (x8<(5:Int))) (cond (decide (x1<((x0.length:Nat):Int))) (cond (decide (0≤x1∧x1<((x0.length:Nat):Int))) (cond (decide (0≤(IntKind.wrap .u64 (IntKind.wrap .i64 ((7:Int)*x8))))) (cond (decide ((IntKind.wrap .i64 (x0.getD x1.toNat (0:Int)))<(128:Int))) (cond ((IntKind.wrap .i64 (x0.getD x1.toNat (0:Int)))==(0:Int)) (cond (decide (x8 > (0:Int))) (some (.ret,(⟨(.junk::.junk::.junk::.junk::(.t true (.int .i64) (0:Int))::(.t true (.int .i64) (0:Int))::(.t true .bool false)::jA48),[],0,[]⟩:St))) (cond (decide ((ior .i64 x7 (IntKind.wrap .i64 ((iand .i64 (IntKind.wrap .i64 (x0.getD x1.toNat (0:Int))) (127:Int))*2 ^ (min (Int.toNat (IntKind.wrap .u64 (IntKind.wrap .i64 ((7:Int)*x8)))) (IntKind.bits .i64))))) > (1000000000:Int))) (some (.ret,(⟨(.junk::.junk::.junk::.junk::(.t true (.int .i64) (0:Int))::(.t true (.int .i64) (0:Int))::(.t true .bool false)::jA48),[],0,[]⟩:St))) (some (.ret,(⟨(.junk::.junk::.junk::.junk::(.t true (.int .i64) (ior .i64 x7 (IntKind.wrap .i64 ((iand .i64 (IntKind.wrap .i64 (x0.getD x1.toNat (0:Int))) (127:Int))*2 ^ (min (Int.toNat (IntKind.wrap .u64 (IntKind.wrap .i64 ((7:Int)*x8)))) (IntKind.bits .i64))))))::(.t true (.int .i64) (IntKind.wrap .i64 (x1+(1:Int))))::(.t true .bool true)::jA48),[],0,[]⟩:St))))) (cond (decide ((ior .i64 x7 (IntKind.wrap .i64 ((iand .i64 (IntKind.wrap .i64 (x0.getD x1.toNat (0:Int))) (127:Int))*2 ^ (min (Int.toNat (IntKind.wrap .u64 (IntKind.wrap .i64 ((7:Int)*x8)))) (IntKind.bits .i64))))) > (1000000000:Int))) (some (.ret,(⟨(.junk::.junk::.junk::.junk::(.t true (.int .i64) (0:Int))::(.t true (.int .i64) (0:Int))::(.t true .bool false)::jA48),[],0,[]⟩:St))) (some (.ret,(⟨(.junk::.junk::.junk::.junk::(.t true (.int .i64) (ior .i64 x7 (IntKind.wrap .i64 ((iand .i64 (IntKind.wrap .i64 (x0.getD x1.toNat (0:Int))) (127:Int))*2 ^ (min (Int.toNat (IntKind.wrap .u64 (IntKind.wrap .i64 ((7:Int)*x8)))) (IntKind.bits .i64))))))::(.t true (.int .i64) (IntKind.wrap .i64 (x1+(1:Int))))::(.t true .bool true)::jA48),[],0,[]⟩:St))))) (some (.normal,(⟨((.t false t_sy x0)::(.t true (.int .i64) (IntKind.wrap .i64 (x1+(1:Int))))::.junk::.junk::.junk::.junk::.junk::(.t true (.int .i64) (ior .i64 x7 (IntKind.wrap .i64 ((iand .i64 (IntKind.wrap .i64 (x0.getD x1.toNat (0:Int))) (127:Int))*2 ^ (min (Int.toNat (IntKind.wrap .u64 (IntKind.wrap .i64 ((7:Int)*x8)))) (IntKind.bits .i64))))))::(.t true (.int .i64) (IntKind.wrap .i64 (x8+(1:Int))))::jA46),[],0,[]⟩:St)))) none) none) (some ((.exit 0),(⟨(.junk::jA54),[],0,[]⟩:St)))) (some ((.exit 0),(⟨(.junk::jA54),[],0,[]⟩:St))))
theorem rdA_iGetNum_0:RdA G34 (fun _ _=>none) 0 body_iGetNum_0 S_iGetNum_0 0 [] (kepts [4,5,6] [(0,[])]) (ap_iGetNum_0 ox_iGetNum_0):=by
 intro d
 kernel_rfl
theorem rdB_iGetNum_0:∀ d:S_iGetNum_0.den,(ap_iGetNum_0 ox_iGetNum_0) d=(sp_iGetNum_0 d).opt 0 []:=by
 intro d
 kernel_rfl
noncomputable abbrev say_iGetNum_0:St→Option Tree:=S_iGetNum_0.say 0 [] [] (ap_iGetNum_0 T_iGetNum_0)
theorem lw_iGetNum_0:LoopWp Try.prog say_iGetNum_0 body_iGetNum_0:=SS.wp2 hlz [] sp_iGetNum_0 rdA_iGetNum_0 rdB_iGetNum_0 _ (fun d=>Runs.ofI2 (step:=sp_iGetNum_0) pv_iGetNum_0 rl_iGetNum_0 rfl (d.1.1,d.1.2.1,d.1.2.2.2.2.2.2.2.1,d.1.2.2.2.2.2.2.2.2.1))
noncomputable def iGetNum (a0:List Int) (a1:Int):Int×Int×Bool:=(cond (!(iinRange a1 (0:Int) (IntKind.wrap .i64 (((a0.length:Nat):Int) - (1:Int))))) ((0:Int),(0:Int),false) (cond ((it_iGetNum_0 a0 a1 (0:Int) (0:Int)).1==0) (((it_iGetNum_0 a0 a1 (0:Int) (0:Int)).2.1),((it_iGetNum_0 a0 a1 (0:Int) (0:Int)).2.2.1),((it_iGetNum_0 a0 a1 (0:Int) (0:Int)).2.2.2)) ((0:Int),(0:Int),false)))
noncomputable abbrev e_iGetNum (r:Int×Int×Bool):AV×List AObj:=((.tup [(.t true (.int .i64) r.1),(.t true (.int .i64) r.2.1),(.t true .bool r.2.2)]),[])
noncomputable abbrev g_iGetNum:pshsDen P_iGetNum→AV×List AObj:=fun d=>e_iGetNum (iGetNum d.1 d.2.1)
noncomputable def q_iGetNum (a0:List Int) (a1:Int):Bool:=cond (!(iinRange a1 (0:Int) (IntKind.wrap .i64 (((a0.length:Nat):Int) - (1:Int))))) true (cond ((it_iGetNum_0 a0 a1 (0:Int) (0:Int)).1==0) true ((it_iGetNum_0 a0 a1 (0:Int) (0:Int)).1==1))
noncomputable abbrev pre_iGetNum:pshsDen P_iGetNum→Bool:=fun d=>q_iGetNum d.1 d.2.1
noncomputable abbrev L_iGetNum:Nat→St→Option Tree:=fun b=>match b with | 0=>say_iGetNum_0 | _=>fun _=>none
theorem run_iGetNum:RunP true G34 (L_iGetNum) Try.f76 P_iGetNum pre_iGetNum g_iGetNum:=by
 rintro ⟨a0,⟨a1,_⟩⟩ hp
 change q_iGetNum a0 a1=true at hp
 unfold q_iGetNum at hp
 refine Eq.trans (b:=(cond (!(iinRange a1 (0:Int) (IntKind.wrap .i64 (((a0.length:Nat):Int) - (1:Int))))) (some (e_iGetNum ((0:Int),(0:Int),false))) (cond ((it_iGetNum_0 a0 a1 (0:Int) (0:Int)).1==0) (some (e_iGetNum (((it_iGetNum_0 a0 a1 (0:Int) (0:Int)).2.1),((it_iGetNum_0 a0 a1 (0:Int) (0:Int)).2.2.1),((it_iGetNum_0 a0 a1 (0:Int) (0:Int)).2.2.2)))) (cond ((it_iGetNum_0 a0 a1 (0:Int) (0:Int)).1==1) (some (e_iGetNum ((0:Int),(0:Int),false))) none)))) (by kernel_rfl) ?_
 exact (cndE e_iGetNum hp (fun hp=>rfl) (fun hp=>(cndE e_iGetNum hp (fun hp=>rfl) (fun hp=>(cndT hp fun _h=>rfl)))))
theorem c_iGetNum:PContract Try.prog 76 (sumOf P_iGetNum pre_iGetNum g_iGetNum):=pcD true G34 (hl1 (i:=0) (by kernel_rfl) lw_iGetNum_0) run_iGetNum
noncomputable def S35:Tab:=Tab.add S34 76 (lift (sumOf P_iGetNum pre_iGetNum g_iGetNum))
noncomputable def QF35:FuncId→Bool:=qadd QF34 76
theorem G35:Good Try.prog tt S35 QF35:=G34.addQ c_iGetNum (cbl Try.f76) (fun _=>rfl)

noncomputable abbrev SM_igetter_num:SS:=⟨[.ptr 0 0 1 0],[.box [.t false t_sy,.t true (.int .i64),.t true .bool]]⟩
noncomputable def igetter_num (p0:List Int) (p1:Int) (p2:Bool):Int×(List Int)×Int×Bool:=(cond p2 ((0:Int),p0,p1,true) (cond (!((iGetNum p0 p1).2.2)) ((0:Int),p0,p1,true) (((iGetNum p0 p1).1),p0,((iGetNum p0 p1).2.1),p2)))
noncomputable abbrev e_igetter_num (r:Int×(List Int)×Int×Bool):AV×List AObj×List Nat:=((.t true (.int .i64) r.1),[(.box [(.t false t_sy r.2.1),(.t true (.int .i64) r.2.2.1),(.t true .bool r.2.2.2)])],[])
noncomputable abbrev g_igetter_num:SM_igetter_num.den→AV×List AObj×List Nat:=fun d=>e_igetter_num (igetter_num d.2.1.1 d.2.1.2.1 d.2.1.2.2.1)
noncomputable def q_igetter_num (p0:List Int) (p1:Int) (p2:Bool):Bool:=q_iGetNum p0 p1
noncomputable abbrev pre_igetter_num:SM_igetter_num.den→Bool:=fun d=>q_igetter_num d.2.1.1 d.2.1.2.1 d.2.1.2.2.1
theorem run_igetter_num:RunM G35 (fun _ _=>none) Try.f77 SM_igetter_num pre_igetter_num g_igetter_num:=by
 rintro ⟨⟨_,_⟩,⟨⟨p0,p1,p2,_⟩,_⟩⟩ hp
 change q_igetter_num p0 p1 p2=true at hp
 unfold q_igetter_num at hp
 refine Eq.trans (b:=(cond (q_iGetNum p0 p1) (cond p2 (some (e_igetter_num ((0:Int),p0,p1,true))) (cond (!((iGetNum p0 p1).2.2)) (some (e_igetter_num ((0:Int),p0,p1,true))) (some (e_igetter_num (((iGetNum p0 p1).1),p0,((iGetNum p0 p1).2.1),p2))))) none)) (by kernel_rfl) ?_
 exact (cndT hp fun _h=>(cndG e_igetter_num (fun _h=>rfl) (fun _h=>(cndG e_igetter_num (fun _h=>rfl) (fun _h=>rfl)))))
noncomputable abbrev m_igetter_num:=win winIds (msum SM_igetter_num pre_igetter_num g_igetter_num)
theorem c_igetter_num:MContract Try.prog 77 m_igetter_num:=(mcM G35 hlz run_igetter_num).win winIds
noncomputable def S36:Tab:=Tab.add S35 77 (m_igetter_num)
noncomputable def QF36:FuncId→Bool:=QF35
theorem G36:Good Try.prog tt S36 QF36:=G35.addM c_igetter_num (win_local _) (cbl Try.f77) (by kernel_rfl)

noncomputable abbrev P_iGetText:List PSh:=[.t t_sy,.t (.int .i64)]
noncomputable def iGetText (a0:List Int) (a1:Int):ByteArray×Int×Bool:=(cond (!((iGetNum a0 a1).2.2)) (bE,(0:Int),false) (cond (decide (((iGetNum a0 a1).1) > (IntKind.wrap .i64 (((a0.length:Nat):Int) - ((iGetNum a0 a1).2.1))))) (bE,(0:Int),false) ((⟨(((a0.take (IntKind.wrap .i64 (((iGetNum a0 a1).2.1)+((iGetNum a0 a1).1))).toNat).drop ((iGetNum a0 a1).2.1).toNat).map fun n=>UInt8.ofNat n.toNat).toArray⟩:ByteArray),IntKind.wrap .i64 (((iGetNum a0 a1).2.1)+((iGetNum a0 a1).1)),true)))
noncomputable abbrev e_iGetText (r:ByteArray×Int×Bool):AV×List AObj:=((.tup [(.t true .str r.1),(.t true (.int .i64) r.2.1),(.t true .bool r.2.2)]),[])
noncomputable abbrev g_iGetText:pshsDen P_iGetText→AV×List AObj:=fun d=>e_iGetText (iGetText d.1 d.2.1)
noncomputable def q_iGetText (a0:List Int) (a1:Int):Bool:=(q_iGetNum a0 a1)&&(cond (!((iGetNum a0 a1).2.2)) true (cond (decide (((iGetNum a0 a1).1) > (IntKind.wrap .i64 (((a0.length:Nat):Int) - ((iGetNum a0 a1).2.1))))) true (decide (0≤((iGetNum a0 a1).2.1)∧((iGetNum a0 a1).2.1)≤(IntKind.wrap .i64 (((iGetNum a0 a1).2.1)+((iGetNum a0 a1).1)))∧(IntKind.wrap .i64 (((iGetNum a0 a1).2.1)+((iGetNum a0 a1).1)))≤((a0.length:Nat):Int)))))
noncomputable abbrev pre_iGetText:pshsDen P_iGetText→Bool:=fun d=>q_iGetText d.1 d.2.1
theorem run_iGetText:RunP true G36 (fun _ _=>none) Try.f155 P_iGetText pre_iGetText g_iGetText:=by
 rintro ⟨a0,⟨a1,_⟩⟩ hp
 change q_iGetText a0 a1=true at hp
 unfold q_iGetText at hp
 refine Eq.trans (b:=(cond (q_iGetNum a0 a1) (cond (!((iGetNum a0 a1).2.2)) (some (e_iGetText ((⟨#[]⟩:ByteArray),(0:Int),false))) (cond (decide (((iGetNum a0 a1).1) > (IntKind.wrap .i64 (((a0.length:Nat):Int) - ((iGetNum a0 a1).2.1))))) (some (e_iGetText ((⟨#[]⟩:ByteArray),(0:Int),false))) (cond (decide (0≤((iGetNum a0 a1).2.1)∧((iGetNum a0 a1).2.1)≤(IntKind.wrap .i64 (((iGetNum a0 a1).2.1)+((iGetNum a0 a1).1)))∧(IntKind.wrap .i64 (((iGetNum a0 a1).2.1)+((iGetNum a0 a1).1)))≤((a0.length:Nat):Int))) (some (e_iGetText ((⟨(((a0.take (IntKind.wrap .i64 (((iGetNum a0 a1).2.1)+((iGetNum a0 a1).1))).toNat).drop ((iGetNum a0 a1).2.1).toNat).map fun n=>UInt8.ofNat n.toNat).toArray⟩:ByteArray),IntKind.wrap .i64 (((iGetNum a0 a1).2.1)+((iGetNum a0 a1).1)),true))) none))) none)) (by kernel_rfl) ?_
 exact (cndA hp fun hp=>(cndE e_iGetText hp (fun hp=>rfl) (fun hp=>(cndE e_iGetText hp (fun hp=>rfl) (fun hp=>(cndT hp fun _h=>rfl))))))
theorem c_iGetText:PContract Try.prog 155 (sumOf P_iGetText pre_iGetText g_iGetText):=pcD true G36 hlz run_iGetText
noncomputable def S37:Tab:=Tab.add S36 155 (lift (sumOf P_iGetText pre_iGetText g_iGetText))
noncomputable def QF37:FuncId→Bool:=qadd QF36 155
theorem G37:Good Try.prog tt S37 QF37:=G36.addQ c_iGetText (cbl Try.f155) (fun _=>rfl)

noncomputable abbrev SM_igetter_text:SS:=⟨[.ptr 0 0 1 0],[.box [.t false t_sy,.t true (.int .i64),.t true .bool]]⟩
noncomputable def igetter_text (p0:List Int) (p1:Int) (p2:Bool):ByteArray×(List Int)×Int×Bool:=(cond p2 (bE,p0,p1,true) (cond (!((iGetText p0 p1).2.2)) (bE,p0,p1,true) (((iGetText p0 p1).1),p0,((iGetText p0 p1).2.1),p2)))
noncomputable abbrev e_igetter_text (r:ByteArray×(List Int)×Int×Bool):AV×List AObj×List Nat:=((.t true .str r.1),[(.box [(.t false t_sy r.2.1),(.t true (.int .i64) r.2.2.1),(.t true .bool r.2.2.2)])],[])
noncomputable abbrev g_igetter_text:SM_igetter_text.den→AV×List AObj×List Nat:=fun d=>e_igetter_text (igetter_text d.2.1.1 d.2.1.2.1 d.2.1.2.2.1)
noncomputable def q_igetter_text (p0:List Int) (p1:Int) (p2:Bool):Bool:=q_iGetText p0 p1
noncomputable abbrev pre_igetter_text:SM_igetter_text.den→Bool:=fun d=>q_igetter_text d.2.1.1 d.2.1.2.1 d.2.1.2.2.1
theorem run_igetter_text:RunM G37 (fun _ _=>none) Try.f120 SM_igetter_text pre_igetter_text g_igetter_text:=by
 rintro ⟨⟨_,_⟩,⟨⟨p0,p1,p2,_⟩,_⟩⟩ hp
 change q_igetter_text p0 p1 p2=true at hp
 unfold q_igetter_text at hp
 refine Eq.trans (b:=(cond (q_iGetText p0 p1) (cond p2 (some (e_igetter_text ((⟨#[]⟩:ByteArray),p0,p1,true))) (cond (!((iGetText p0 p1).2.2)) (some (e_igetter_text ((⟨#[]⟩:ByteArray),p0,p1,true))) (some (e_igetter_text (((iGetText p0 p1).1),p0,((iGetText p0 p1).2.1),p2))))) none)) (by kernel_rfl) ?_
 exact (cndT hp fun _h=>(cndG e_igetter_text (fun _h=>rfl) (fun _h=>(cndG e_igetter_text (fun _h=>rfl) (fun _h=>rfl)))))
noncomputable abbrev m_igetter_text:=win winIds (msum SM_igetter_text pre_igetter_text g_igetter_text)
theorem c_igetter_text:MContract Try.prog 120 m_igetter_text:=(mcM G37 hlz run_igetter_text).win winIds
noncomputable def S38:Tab:=Tab.add S37 120 (m_igetter_text)
noncomputable def QF38:FuncId→Bool:=QF37
theorem G38:Good Try.prog tt S38 QF38:=G37.addM c_igetter_text (win_local _) (cbl Try.f120) (by kernel_rfl)

noncomputable abbrev u17:=((),u16)
noncomputable abbrev jA16:List AV:=.junk::.junk::jA14
noncomputable abbrev SM_igetter_ops:SS:=⟨[.ptr 0 0 1 0],[.box [.t false t_sy,.t true (.int .i64),.t true .bool]]⟩
noncomputable abbrev S_igetter_ops_0:SS:=⟨(.ptr 0 0 1 0::.junk::.junk::.junk::.all 1 3::.junk::.junk::.junk::.junk::.junk::.junk::.junk::.junk::.t true (.int .i64)::.t true (.int .i64)::jS16),[.box [.t false t_sy,.t true (.int .i64),.t true .bool],.rows 124 true tq4]⟩
noncomputable abbrev E_igetter_ops_0_0:SS:=⟨(.junk::.junk::.junk::.junk::.all 1 3::jS26),[.box [.t false t_sy,.t true (.int .i64),.t true .bool],.rows 124 true tq4]⟩
noncomputable def k1_igetter_ops (p0:List Int) (p1:Int) (p2:Bool):=igetter_text ((igetter_num p0 p1 p2).2.1) ((igetter_num p0 p1 p2).2.2.1) ((igetter_num p0 p1 p2).2.2.2)
noncomputable def k2_igetter_ops (p0:List Int) (p1:Int) (p2:Bool):=igetter_text ((k1_igetter_ops p0 p1 p2).2.1) ((k1_igetter_ops p0 p1 p2).2.2.1) ((k1_igetter_ops p0 p1 p2).2.2.2)
noncomputable def st_igetter_ops_0 (x13:Int) (x14:Int) (p0:List Int) (p1:Int) (p2:Bool) (h1:Lq1):RT S_igetter_ops_0.den:=(.br (decide (x14<x13)) (.br (q_igetter_num p0 p1 p2) (.br (q_igetter_text ((igetter_num p0 p1 p2).2.1) ((igetter_num p0 p1 p2).2.2.1) ((igetter_num p0 p1 p2).2.2.2)) (.br (q_igetter_text ((k1_igetter_ops p0 p1 p2).2.1) ((k1_igetter_ops p0 p1 p2).2.2.1) ((k1_igetter_ops p0 p1 p2).2.2.2)) (.br (decide ((h1.length+[(((igetter_num p0 p1 p2).1),(((k1_igetter_ops p0 p1 p2).1),((k2_igetter_ops p0 p1 p2).1)))].length)*40≤MAXB)) (.next (((),(),(),(),(),(),(),(),(),(),(),(),(),x13,IntKind.wrap .i64 (x14+(1:Int)),u17),((((k2_igetter_ops p0 p1 p2).2.1),((k2_igetter_ops p0 p1 p2).2.2.1),((k2_igetter_ops p0 p1 p2).2.2.2),()),h1++[(((igetter_num p0 p1 p2).1),(((k1_igetter_ops p0 p1 p2).1),((k2_igetter_ops p0 p1 p2).1)))],()))) .fail) .fail) .fail) .fail) (.done (.exit 0) E_igetter_ops_0_0 ((u32),((p0,p1,p2,()),h1,()))))
noncomputable abbrev V_igetter_ops_0:=(Int)×(Int)×(List Int)×(Int)×(Bool)×(Lq1)
noncomputable abbrev A_igetter_ops_0:=Nat×(List Int)×(Int)×(Bool)×(Lq1)
noncomputable def fl_igetter_ops_0:A_igetter_ops_0:=(99,([]:List Int),((0:Int):Int),(false:Bool),([]:Lq1))
noncomputable def ss_igetter_ops_0 (x13:Int) (x14:Int) (p0:List Int) (p1:Int) (p2:Bool) (h1:Lq1):V_igetter_ops_0 ⊕ A_igetter_ops_0:=(cond (decide (x14<x13)) (cond (q_igetter_num p0 p1 p2) (cond (q_igetter_text ((igetter_num p0 p1 p2).2.1) ((igetter_num p0 p1 p2).2.2.1) ((igetter_num p0 p1 p2).2.2.2)) (cond (q_igetter_text ((k1_igetter_ops p0 p1 p2).2.1) ((k1_igetter_ops p0 p1 p2).2.2.1) ((k1_igetter_ops p0 p1 p2).2.2.2)) (cond (decide ((h1.length+[(((igetter_num p0 p1 p2).1),(((k1_igetter_ops p0 p1 p2).1),((k2_igetter_ops p0 p1 p2).1)))].length)*40≤MAXB)) (.inl (x13,IntKind.wrap .i64 (x14+(1:Int)),((k2_igetter_ops p0 p1 p2).2.1),((k2_igetter_ops p0 p1 p2).2.2.1),((k2_igetter_ops p0 p1 p2).2.2.2),h1++[(((igetter_num p0 p1 p2).1),(((k1_igetter_ops p0 p1 p2).1),((k2_igetter_ops p0 p1 p2).1)))])) (.inr fl_igetter_ops_0)) (.inr fl_igetter_ops_0)) (.inr fl_igetter_ops_0)) (.inr fl_igetter_ops_0)) (.inr (0,p0,p1,p2,h1)))
noncomputable def it_igetter_ops_0 (x13:Int) (x14:Int) (p0:List Int) (p1:Int) (p2:Bool) (h1:Lq1):A_igetter_ops_0:=itX (fun v:V_igetter_ops_0=>ss_igetter_ops_0 v.1 v.2.1 v.2.2.1 v.2.2.2.1 v.2.2.2.2.1 v.2.2.2.2.2) fl_igetter_ops_0 (x13,x14,p0,p1,p2,h1)
noncomputable def ct_igetter_ops_0 (a:A_igetter_ops_0):CT:=(.br (a.1==0) (.done (.exit 0) E_igetter_ops_0_0 ((u32),((a.2.1,a.2.2.1,a.2.2.2.1,()),a.2.2.2.2,()))) .fail)
noncomputable def T_igetter_ops_0 (x13:Int) (x14:Int) (p0:List Int) (p1:Int) (p2:Bool) (h1:Lq1):CT:=ct_igetter_ops_0 (it_igetter_ops_0 x13 x14 p0 p1 p2 h1)
noncomputable abbrev ap_igetter_ops_0 {α:Sort _} (f:Int→Int→(List Int)→Int→Bool→(Lq1)→α) (d:S_igetter_ops_0.den):α:=f d.1.2.2.2.2.2.2.2.2.2.2.2.2.2.1 d.1.2.2.2.2.2.2.2.2.2.2.2.2.2.2.1 d.2.1.1 d.2.1.2.1 d.2.1.2.2.1 d.2.2.1
noncomputable abbrev sp_igetter_ops_0:S_igetter_ops_0.den→RT S_igetter_ops_0.den:=(ap_igetter_ops_0 st_igetter_ops_0)
noncomputable def body_igetter_ops_0:Code:=((loopsIn 0 (bodyOf Try.f78)).getD 0 (0,.skip)).2
noncomputable abbrev pv_igetter_ops_0 (v:V_igetter_ops_0):S_igetter_ops_0.den:=(((),(),(),(),(),(),(),(),(),(),(),(),(),v.1,v.2.1,u17),((v.2.2.1,v.2.2.2.1,v.2.2.2.2.1,()),v.2.2.2.2.2,()))
theorem rl_igetter_ops_0:(∀ v:V_igetter_ops_0,(st_igetter_ops_0 v.1 v.2.1 v.2.2.1 v.2.2.2.1 v.2.2.2.2.1 v.2.2.2.2.2).val=relS pv_igetter_ops_0 ct_igetter_ops_0 (ss_igetter_ops_0 v.1 v.2.1 v.2.2.1 v.2.2.2.1 v.2.2.2.2.1 v.2.2.2.2.2))∧∀ a:A_igetter_ops_0,CEnd S_igetter_ops_0.den (ct_igetter_ops_0 a):=⟨fun v=>(relB (relB (relB (relB (relB rfl rfl) rfl) rfl) rfl) rfl),fun a=>(cendB (cendD (by simp)) cendF)⟩
noncomputable def ox_igetter_ops_0 (x13:Int) (x14:Int) (p0:List Int) (p1:Int) (p2:Bool) (h1:Lq1):Option (Ex×St):=(cond (decide (x14<x13)) (cond (q_igetter_num p0 p1 p2) (cond (q_igetter_text ((igetter_num p0 p1 p2).2.1) ((igetter_num p0 p1 p2).2.2.1) ((igetter_num p0 p1 p2).2.2.2)) (cond (q_igetter_text ((k1_igetter_ops p0 p1 p2).2.1) ((k1_igetter_ops p0 p1 p2).2.2.1) ((k1_igetter_ops p0 p1 p2).2.2.2)) (cond (decide ((h1.length+[(((igetter_num p0 p1 p2).1),(((k1_igetter_ops p0 p1 p2).1),((k2_igetter_ops p0 p1 p2).1)))].length)*40≤MAXB)) (some (.normal,(⟨((.ptr 0 0 1 0)::.junk::.junk::.junk::(.all 1 3)::.junk::.junk::.junk::.junk::.junk::.junk::.junk::.junk::(.t true (.int .i64) x13)::(.t true (.int .i64) (IntKind.wrap .i64 (x14+(1:Int))))::jA16),[(.box [(.t false t_sy ((k2_igetter_ops p0 p1 p2).2.1)),(.t true (.int .i64) ((k2_igetter_ops p0 p1 p2).2.2.1)),(.t true .bool ((k2_igetter_ops p0 p1 p2).2.2.2))]),(.rows 124 true tq4 (h1++[(((igetter_num p0 p1 p2).1),(((k1_igetter_ops p0 p1 p2).1),((k2_igetter_ops p0 p1 p2).1)))]))],1,[]⟩:St))) none) none) none) none) (some ((.exit 0),(⟨(.junk::.junk::.junk::.junk::(.all 1 3)::jA26),[(.box [(.t false t_sy p0),(.t true (.int .i64) p1),(.t true .bool p2)]),(.rows 124 true tq4 h1)],1,[]⟩:St))))
theorem rdA_igetter_ops_0:RdA G38 (fun _ _=>none) 0 body_igetter_ops_0 S_igetter_ops_0 1 [] (kepts [] [(0,[4])]) (ap_igetter_ops_0 ox_igetter_ops_0):=by
 intro d
 kernel_rfl
theorem rdB_igetter_ops_0:∀ d:S_igetter_ops_0.den,(ap_igetter_ops_0 ox_igetter_ops_0) d=(sp_igetter_ops_0 d).opt 1 []:=by
 intro d
 kernel_rfl
noncomputable abbrev say_igetter_ops_0:St→Option Tree:=S_igetter_ops_0.say 1 [] [(4,124,tq4)] (ap_igetter_ops_0 T_igetter_ops_0)
theorem lw_igetter_ops_0:LoopWp Try.prog say_igetter_ops_0 body_igetter_ops_0:=SS.wp2 hlz [(4,124,tq4)] sp_igetter_ops_0 rdA_igetter_ops_0 rdB_igetter_ops_0 _ (fun d=>Runs.ofI2 (step:=sp_igetter_ops_0) pv_igetter_ops_0 rl_igetter_ops_0 rfl (d.1.2.2.2.2.2.2.2.2.2.2.2.2.2.1,d.1.2.2.2.2.2.2.2.2.2.2.2.2.2.2.1,d.2.1.1,d.2.1.2.1,d.2.1.2.2.1,d.2.2.1))
noncomputable def k3_igetter_ops (p0:List Int) (p1:Int) (p2:Bool):=it_igetter_ops_0 ((igetter_num p0 p1 p2).1) (0:Int) ((igetter_num p0 p1 p2).2.1) ((igetter_num p0 p1 p2).2.2.1) ((igetter_num p0 p1 p2).2.2.2) ([]:Lq1)
noncomputable def igetter_ops (p0:List Int) (p1:Int) (p2:Bool):(List Int)×Int×Bool×Lq1:=(cond (decide (((igetter_num p0 p1 p2).1) > (8:Int))) (((igetter_num p0 p1 p2).2.1),((igetter_num p0 p1 p2).2.2.1),true,([]:Lq1)) (((k3_igetter_ops p0 p1 p2).2.1),((k3_igetter_ops p0 p1 p2).2.2.1),((k3_igetter_ops p0 p1 p2).2.2.2.1),((k3_igetter_ops p0 p1 p2).2.2.2.2)))
noncomputable abbrev e_igetter_ops (r:(List Int)×Int×Bool×Lq1):AV×List AObj×List Nat:=((.all 1 3),[(.box [(.t false t_sy r.1),(.t true (.int .i64) r.2.1),(.t true .bool r.2.2.1)]),(.rows 124 true tq4 r.2.2.2)],[])
noncomputable abbrev g_igetter_ops:SM_igetter_ops.den→AV×List AObj×List Nat:=fun d=>e_igetter_ops (igetter_ops d.2.1.1 d.2.1.2.1 d.2.1.2.2.1)
noncomputable def q_igetter_ops (p0:List Int) (p1:Int) (p2:Bool):Bool:=(q_igetter_num p0 p1 p2)&&(cond (decide (((igetter_num p0 p1 p2).1) > (8:Int))) true ((k3_igetter_ops p0 p1 p2).1==0))
noncomputable abbrev pre_igetter_ops:SM_igetter_ops.den→Bool:=fun d=>q_igetter_ops d.2.1.1 d.2.1.2.1 d.2.1.2.2.1
noncomputable abbrev L_igetter_ops:Nat→St→Option Tree:=fun b=>match b with | 0=>say_igetter_ops_0 | _=>fun _=>none
theorem run_igetter_ops:RunM G38 (L_igetter_ops) Try.f78 SM_igetter_ops pre_igetter_ops g_igetter_ops:=by
 rintro ⟨⟨_,_⟩,⟨⟨p0,p1,p2,_⟩,_⟩⟩ hp
 change q_igetter_ops p0 p1 p2=true at hp
 unfold q_igetter_ops at hp
 refine Eq.trans (b:=(cond (q_igetter_num p0 p1 p2) (cond (decide (((igetter_num p0 p1 p2).1) > (8:Int))) (some (e_igetter_ops (((igetter_num p0 p1 p2).2.1),((igetter_num p0 p1 p2).2.2.1),true,([]:Lq1)))) (cond ((k3_igetter_ops p0 p1 p2).1==0) (some (e_igetter_ops (((k3_igetter_ops p0 p1 p2).2.1),((k3_igetter_ops p0 p1 p2).2.2.1),((k3_igetter_ops p0 p1 p2).2.2.2.1),((k3_igetter_ops p0 p1 p2).2.2.2.2)))) none)) none)) (by kernel_rfl) ?_
 exact (cndA hp fun hp=>(cndE e_igetter_ops hp (fun hp=>rfl) (fun hp=>(cndT hp fun _h=>rfl))))
noncomputable abbrev m_igetter_ops:=win winIds (msum SM_igetter_ops pre_igetter_ops g_igetter_ops)
theorem c_igetter_ops:MContract Try.prog 78 m_igetter_ops:=(mcM G38 (hl1 (i:=0) (by kernel_rfl) lw_igetter_ops_0) run_igetter_ops).win winIds
noncomputable def S39:Tab:=Tab.add S38 78 (m_igetter_ops)
noncomputable def QF39:FuncId→Bool:=QF38
theorem G39:Good Try.prog tt S39 QF39:=G38.addM c_igetter_ops (win_local _) (cbl Try.f78) (by kernel_rfl)

noncomputable abbrev P_bytes_Equal:List PSh:=[.t t_sy,.t t_sy]
noncomputable def bytes_Equal (a0:List Int) (a1:List Int):Bool:=((⟨(a0.map fun n=>UInt8.ofNat n.toNat).toArray⟩:ByteArray).toList==(⟨(a1.map fun n=>UInt8.ofNat n.toNat).toArray⟩:ByteArray).toList)
noncomputable abbrev e_bytes_Equal (r:Bool):AV×List AObj:=((.t true .bool r),[])
noncomputable abbrev g_bytes_Equal:pshsDen P_bytes_Equal→AV×List AObj:=fun d=>e_bytes_Equal (bytes_Equal d.1 d.2.1)
noncomputable abbrev pre_bytes_Equal:pshsDen P_bytes_Equal→Bool:=fun d=>true
theorem run_bytes_Equal:RunP true G39 (fun _ _=>none) Try.f79 P_bytes_Equal pre_bytes_Equal g_bytes_Equal:=by
 rintro ⟨a0,⟨a1,_⟩⟩ hp
 kernel_rfl
theorem c_bytes_Equal:PContract Try.prog 79 (sumOf P_bytes_Equal pre_bytes_Equal g_bytes_Equal):=pcD true G39 hlz run_bytes_Equal
noncomputable def S40:Tab:=Tab.add S39 79 (lift (sumOf P_bytes_Equal pre_bytes_Equal g_bytes_Equal))
noncomputable def QF40:FuncId→Bool:=qadd QF39 79
theorem G40:Good Try.prog tt S40 QF40:=G39.addQ c_bytes_Equal (cbl Try.f79) (fun _=>rfl)

noncomputable abbrev P_iGetRec:List PSh:=[.t t_sy,.t (.int .i64)]
noncomputable def k1_iGetRec (a0:List Int) (a1:Int):=igetter_num ((a0.take (IntKind.wrap .i64 (((iGetNum a0 a1).2.1)+((iGetNum a0 a1).1))).toNat).drop ((iGetNum a0 a1).2.1).toNat) (0:Int) false
noncomputable def k2_iGetRec (a0:List Int) (a1:Int):=igetter_ops ((igetter_num ((k1_iGetRec a0 a1).2.1) ((k1_iGetRec a0 a1).2.2.1) ((k1_iGetRec a0 a1).2.2.2)).2.1) ((igetter_num ((k1_iGetRec a0 a1).2.1) ((k1_iGetRec a0 a1).2.2.1) ((k1_iGetRec a0 a1).2.2.2)).2.2.1) ((igetter_num ((k1_iGetRec a0 a1).2.1) ((k1_iGetRec a0 a1).2.2.1) ((k1_iGetRec a0 a1).2.2.2)).2.2.2)
noncomputable def k3_iGetRec (a0:List Int) (a1:Int):=iRecOk ((k1_iGetRec a0 a1).1) ((igetter_num ((k1_iGetRec a0 a1).2.1) ((k1_iGetRec a0 a1).2.2.1) ((k1_iGetRec a0 a1).2.2.2)).1) ((k2_iGetRec a0 a1).2.2.2)
noncomputable def k4_iGetRec (a0:List Int) (a1:Int):=iputRec ((k1_iGetRec a0 a1).1) ((igetter_num ((k1_iGetRec a0 a1).2.1) ((k1_iGetRec a0 a1).2.2.1) ((k1_iGetRec a0 a1).2.2.2)).1) ((k2_iGetRec a0 a1).2.2.2)
noncomputable def k5_iGetRec (a0:List Int) (a1:Int):=bytes_Equal (k4_iGetRec a0 a1) ((a0.take (IntKind.wrap .i64 ((IntKind.wrap .i64 (((iGetNum a0 a1).2.1)+((iGetNum a0 a1).1)))+(4:Int))).toNat).drop a1.toNat)
noncomputable def k6_iGetRec (a0:List Int) (a1:Int):=iRecOk ((k1_iGetRec a0 a1).1) ((igetter_num ((k1_iGetRec a0 a1).2.1) ((k1_iGetRec a0 a1).2.2.1) ((k1_iGetRec a0 a1).2.2.2)).1) []
noncomputable def k7_iGetRec (a0:List Int) (a1:Int):=iputRec ((k1_iGetRec a0 a1).1) ((igetter_num ((k1_iGetRec a0 a1).2.1) ((k1_iGetRec a0 a1).2.2.1) ((k1_iGetRec a0 a1).2.2.2)).1) []
noncomputable def k8_iGetRec (a0:List Int) (a1:Int):=bytes_Equal (k7_iGetRec a0 a1) ((a0.take (IntKind.wrap .i64 ((IntKind.wrap .i64 (((iGetNum a0 a1).2.1)+((iGetNum a0 a1).1)))+(4:Int))).toNat).drop a1.toNat)
noncomputable def iGetRec (a0:List Int) (a1:Int):Int×Int×Int×Bool×Lq1:=(cond (!((iGetNum a0 a1).2.2)) ((0:Int),(0:Int),a1,false,([]:Lq1)) (cond (decide (((iGetNum a0 a1).1) > (IntKind.wrap .i64 ((IntKind.wrap .i64 (((a0.length:Nat):Int) - ((iGetNum a0 a1).2.1))) - (4:Int))))) ((0:Int),(0:Int),a1,false,([]:Lq1)) (cond (((k1_iGetRec a0 a1).1)==(1:Int)) (cond ((k2_iGetRec a0 a1).2.2.1) ((0:Int),(0:Int),a1,false,([]:Lq1)) (cond (!(k3_iGetRec a0 a1)) ((0:Int),(0:Int),a1,false,([]:Lq1)) (cond (!(k5_iGetRec a0 a1)) ((0:Int),(0:Int),a1,false,([]:Lq1)) (((k1_iGetRec a0 a1).1),((igetter_num ((k1_iGetRec a0 a1).2.1) ((k1_iGetRec a0 a1).2.2.1) ((k1_iGetRec a0 a1).2.2.2)).1),IntKind.wrap .i64 ((IntKind.wrap .i64 (((iGetNum a0 a1).2.1)+((iGetNum a0 a1).1)))+(4:Int)),true,((k2_iGetRec a0 a1).2.2.2))))) (cond ((igetter_num ((k1_iGetRec a0 a1).2.1) ((k1_iGetRec a0 a1).2.2.1) ((k1_iGetRec a0 a1).2.2.2)).2.2.2) ((0:Int),(0:Int),a1,false,([]:Lq1)) (cond (!(k6_iGetRec a0 a1)) ((0:Int),(0:Int),a1,false,([]:Lq1)) (cond (!(k8_iGetRec a0 a1)) ((0:Int),(0:Int),a1,false,([]:Lq1)) (((k1_iGetRec a0 a1).1),((igetter_num ((k1_iGetRec a0 a1).2.1) ((k1_iGetRec a0 a1).2.2.1) ((k1_iGetRec a0 a1).2.2.2)).1),IntKind.wrap .i64 ((IntKind.wrap .i64 (((iGetNum a0 a1).2.1)+((iGetNum a0 a1).1)))+(4:Int)),true,([]:Lq1))))))))
noncomputable abbrev e_iGetRec (r:Int×Int×Int×Bool×Lq1):AV×List AObj:=((.tup [(.agg [(.t true (.int .i64) r.1),(.t true (.int .i64) r.2.1),(.all 0 3)]),(.t true (.int .i64) r.2.2.1),(.t true .bool r.2.2.2.1)]),[(.rows 124 true tq4 r.2.2.2.2)])
noncomputable abbrev g_iGetRec:pshsDen P_iGetRec→AV×List AObj:=fun d=>e_iGetRec (iGetRec d.1 d.2.1)
noncomputable def q_iGetRec (a0:List Int) (a1:Int):Bool:=(q_iGetNum a0 a1)&&(cond (!((iGetNum a0 a1).2.2)) true (cond (decide (((iGetNum a0 a1).1) > (IntKind.wrap .i64 ((IntKind.wrap .i64 (((a0.length:Nat):Int) - ((iGetNum a0 a1).2.1))) - (4:Int))))) true ((decide (0≤((iGetNum a0 a1).2.1)∧((iGetNum a0 a1).2.1)≤(IntKind.wrap .i64 (((iGetNum a0 a1).2.1)+((iGetNum a0 a1).1)))∧(IntKind.wrap .i64 (((iGetNum a0 a1).2.1)+((iGetNum a0 a1).1)))≤((a0.length:Nat):Int)))&&((q_igetter_num ((a0.take (IntKind.wrap .i64 (((iGetNum a0 a1).2.1)+((iGetNum a0 a1).1))).toNat).drop ((iGetNum a0 a1).2.1).toNat) (0:Int) false)&&((q_igetter_num ((k1_iGetRec a0 a1).2.1) ((k1_iGetRec a0 a1).2.2.1) ((k1_iGetRec a0 a1).2.2.2))&&(cond (((k1_iGetRec a0 a1).1)==(1:Int)) ((q_igetter_ops ((igetter_num ((k1_iGetRec a0 a1).2.1) ((k1_iGetRec a0 a1).2.2.1) ((k1_iGetRec a0 a1).2.2.2)).2.1) ((igetter_num ((k1_iGetRec a0 a1).2.1) ((k1_iGetRec a0 a1).2.2.1) ((k1_iGetRec a0 a1).2.2.2)).2.2.1) ((igetter_num ((k1_iGetRec a0 a1).2.1) ((k1_iGetRec a0 a1).2.2.1) ((k1_iGetRec a0 a1).2.2.2)).2.2.2))&&(cond ((k2_iGetRec a0 a1).2.2.1) true ((q_iRecOk ((k1_iGetRec a0 a1).1) ((igetter_num ((k1_iGetRec a0 a1).2.1) ((k1_iGetRec a0 a1).2.2.1) ((k1_iGetRec a0 a1).2.2.2)).1) ((k2_iGetRec a0 a1).2.2.2))&&(cond (!(k3_iGetRec a0 a1)) true ((q_iputRec ((k1_iGetRec a0 a1).1) ((igetter_num ((k1_iGetRec a0 a1).2.1) ((k1_iGetRec a0 a1).2.2.1) ((k1_iGetRec a0 a1).2.2.2)).1) ((k2_iGetRec a0 a1).2.2.2))&&(decide (0≤a1∧a1≤(IntKind.wrap .i64 ((IntKind.wrap .i64 (((iGetNum a0 a1).2.1)+((iGetNum a0 a1).1)))+(4:Int)))∧(IntKind.wrap .i64 ((IntKind.wrap .i64 (((iGetNum a0 a1).2.1)+((iGetNum a0 a1).1)))+(4:Int)))≤((a0.length:Nat):Int)))))))) (cond ((igetter_num ((k1_iGetRec a0 a1).2.1) ((k1_iGetRec a0 a1).2.2.1) ((k1_iGetRec a0 a1).2.2.2)).2.2.2) true ((q_iRecOk ((k1_iGetRec a0 a1).1) ((igetter_num ((k1_iGetRec a0 a1).2.1) ((k1_iGetRec a0 a1).2.2.1) ((k1_iGetRec a0 a1).2.2.2)).1) [])&&(cond (!(k6_iGetRec a0 a1)) true ((q_iputRec ((k1_iGetRec a0 a1).1) ((igetter_num ((k1_iGetRec a0 a1).2.1) ((k1_iGetRec a0 a1).2.2.1) ((k1_iGetRec a0 a1).2.2.2)).1) [])&&(decide (0≤a1∧a1≤(IntKind.wrap .i64 ((IntKind.wrap .i64 (((iGetNum a0 a1).2.1)+((iGetNum a0 a1).1)))+(4:Int)))∧(IntKind.wrap .i64 ((IntKind.wrap .i64 (((iGetNum a0 a1).2.1)+((iGetNum a0 a1).1)))+(4:Int)))≤((a0.length:Nat):Int)))))))))))))
noncomputable abbrev pre_iGetRec:pshsDen P_iGetRec→Bool:=fun d=>q_iGetRec d.1 d.2.1
theorem run_iGetRec:RunP false G40 (fun _ _=>none) Try.f28 P_iGetRec pre_iGetRec g_iGetRec:=by
 rintro ⟨a0,⟨a1,_⟩⟩ hp
 change q_iGetRec a0 a1=true at hp
 unfold q_iGetRec at hp
 refine Eq.trans (b:=(cond (q_iGetNum a0 a1) (cond (!((iGetNum a0 a1).2.2)) (some (e_iGetRec ((0:Int),(0:Int),a1,false,([]:Lq1)))) (cond (decide (((iGetNum a0 a1).1) > (IntKind.wrap .i64 ((IntKind.wrap .i64 (((a0.length:Nat):Int) - ((iGetNum a0 a1).2.1))) - (4:Int))))) (some (e_iGetRec ((0:Int),(0:Int),a1,false,([]:Lq1)))) (cond (decide (0≤((iGetNum a0 a1).2.1)∧((iGetNum a0 a1).2.1)≤(IntKind.wrap .i64 (((iGetNum a0 a1).2.1)+((iGetNum a0 a1).1)))∧(IntKind.wrap .i64 (((iGetNum a0 a1).2.1)+((iGetNum a0 a1).1)))≤((a0.length:Nat):Int))) (cond (q_igetter_num ((a0.take (IntKind.wrap .i64 (((iGetNum a0 a1).2.1)+((iGetNum a0 a1).1))).toNat).drop ((iGetNum a0 a1).2.1).toNat) (0:Int) false) (cond (q_igetter_num ((k1_iGetRec a0 a1).2.1) ((k1_iGetRec a0 a1).2.2.1) ((k1_iGetRec a0 a1).2.2.2)) (cond (((k1_iGetRec a0 a1).1)==(1:Int)) (cond (q_igetter_ops ((igetter_num ((k1_iGetRec a0 a1).2.1) ((k1_iGetRec a0 a1).2.2.1) ((k1_iGetRec a0 a1).2.2.2)).2.1) ((igetter_num ((k1_iGetRec a0 a1).2.1) ((k1_iGetRec a0 a1).2.2.1) ((k1_iGetRec a0 a1).2.2.2)).2.2.1) ((igetter_num ((k1_iGetRec a0 a1).2.1) ((k1_iGetRec a0 a1).2.2.1) ((k1_iGetRec a0 a1).2.2.2)).2.2.2)) (cond ((k2_iGetRec a0 a1).2.2.1) (some (e_iGetRec ((0:Int),(0:Int),a1,false,([]:Lq1)))) (cond (q_iRecOk ((k1_iGetRec a0 a1).1) ((igetter_num ((k1_iGetRec a0 a1).2.1) ((k1_iGetRec a0 a1).2.2.1) ((k1_iGetRec a0 a1).2.2.2)).1) ((k2_iGetRec a0 a1).2.2.2)) (cond (!(k3_iGetRec a0 a1)) (some (e_iGetRec ((0:Int),(0:Int),a1,false,([]:Lq1)))) (cond (q_iputRec ((k1_iGetRec a0 a1).1) ((igetter_num ((k1_iGetRec a0 a1).2.1) ((k1_iGetRec a0 a1).2.2.1) ((k1_iGetRec a0 a1).2.2.2)).1) ((k2_iGetRec a0 a1).2.2.2)) (cond (decide (0≤a1∧a1≤(IntKind.wrap .i64 ((IntKind.wrap .i64 (((iGetNum a0 a1).2.1)+((iGetNum a0 a1).1)))+(4:Int)))∧(IntKind.wrap .i64 ((IntKind.wrap .i64 (((iGetNum a0 a1).2.1)+((iGetNum a0 a1).1)))+(4:Int)))≤((a0.length:Nat):Int))) (cond (!(k5_iGetRec a0 a1)) (some (e_iGetRec ((0:Int),(0:Int),a1,false,([]:Lq1)))) (some (e_iGetRec (((k1_iGetRec a0 a1).1),((igetter_num ((k1_iGetRec a0 a1).2.1) ((k1_iGetRec a0 a1).2.2.1) ((k1_iGetRec a0 a1).2.2.2)).1),IntKind.wrap .i64 ((IntKind.wrap .i64 (((iGetNum a0 a1).2.1)+((iGetNum a0 a1).1)))+(4:Int)),true,((k2_iGetRec a0 a1).2.2.2))))) none) none)) none)) none) (cond ((igetter_num ((k1_iGetRec a0 a1).2.1) ((k1_iGetRec a0 a1).2.2.1) ((k1_iGetRec a0 a1).2.2.2)).2.2.2) (some (e_iGetRec ((0:Int),(0:Int),a1,false,([]:Lq1)))) (cond (q_iRecOk ((k1_iGetRec a0 a1).1) ((igetter_num ((k1_iGetRec a0 a1).2.1) ((k1_iGetRec a0 a1).2.2.1) ((k1_iGetRec a0 a1).2.2.2)).1) []) (cond (!(k6_iGetRec a0 a1)) (some (e_iGetRec ((0:Int),(0:Int),a1,false,([]:Lq1)))) (cond (q_iputRec ((k1_iGetRec a0 a1).1) ((igetter_num ((k1_iGetRec a0 a1).2.1) ((k1_iGetRec a0 a1).2.2.1) ((k1_iGetRec a0 a1).2.2.2)).1) []) (cond (decide (0≤a1∧a1≤(IntKind.wrap .i64 ((IntKind.wrap .i64 (((iGetNum a0 a1).2.1)+((iGetNum a0 a1).1)))+(4:Int)))∧(IntKind.wrap .i64 ((IntKind.wrap .i64 (((iGetNum a0 a1).2.1)+((iGetNum a0 a1).1)))+(4:Int)))≤((a0.length:Nat):Int))) (cond (!(k8_iGetRec a0 a1)) (some (e_iGetRec ((0:Int),(0:Int),a1,false,([]:Lq1)))) (some (e_iGetRec (((k1_iGetRec a0 a1).1),((igetter_num ((k1_iGetRec a0 a1).2.1) ((k1_iGetRec a0 a1).2.2.1) ((k1_iGetRec a0 a1).2.2.2)).1),IntKind.wrap .i64 ((IntKind.wrap .i64 (((iGetNum a0 a1).2.1)+((iGetNum a0 a1).1)))+(4:Int)),true,([]:Lq1))))) none) none)) none))) none) none) none))) none)) (by kernel_rfl) ?_
 exact (cndA hp fun hp=>(cndE e_iGetRec hp (fun hp=>rfl) (fun hp=>(cndE e_iGetRec hp (fun hp=>rfl) (fun hp=>(cndA hp fun hp=>(cndA hp fun hp=>(cndA hp fun hp=>(cndE e_iGetRec hp (fun hp=>(cndA hp fun hp=>(cndE e_iGetRec hp (fun hp=>rfl) (fun hp=>(cndA hp fun hp=>(cndE e_iGetRec hp (fun hp=>rfl) (fun hp=>(cndA hp fun hp=>(cndT hp fun _h=>(cndG e_iGetRec (fun _h=>rfl) (fun _h=>rfl))))))))))) (fun hp=>(cndE e_iGetRec hp (fun hp=>rfl) (fun hp=>(cndA hp fun hp=>(cndE e_iGetRec hp (fun hp=>rfl) (fun hp=>(cndA hp fun hp=>(cndT hp fun _h=>(cndG e_iGetRec (fun _h=>rfl) (fun _h=>rfl)))))))))))))))))))
theorem c_iGetRec:PContract Try.prog 28 (sumOf P_iGetRec pre_iGetRec g_iGetRec):=pcD false G40 hlz run_iGetRec
noncomputable def S41:Tab:=Tab.add S40 28 (lift (sumOf P_iGetRec pre_iGetRec g_iGetRec))
noncomputable def QF41:FuncId→Bool:=QF40
theorem G41:Good Try.prog tt S41 QF41:=G40.add c_iGetRec (cbl Try.f28) (by kernel_rfl)

noncomputable abbrev jS23:List Sh:=.junk::jS22
noncomputable abbrev u24:=((),u23)
noncomputable abbrev P_iReadRecs:List PSh:=[.t t_sy]
noncomputable abbrev S_iReadRecs_0:SS:=⟨(.t false t_sy::.junk::.junk::.junk::.all 0 3::.t true (.int .i64)::jS23),[.deep 30 [124] tq6]⟩
noncomputable abbrev E_iReadRecs_0_0:SS:=⟨(.junk::.junk::.junk::.junk::.all 0 3::.t true (.int .i64)::jS23),[.deep 30 [124] tq6]⟩
noncomputable def st_iReadRecs_0 (x0:List Int) (x5:Int) (h0:Lq2):RT S_iReadRecs_0.den:=(.br (decide (x5<((x0.length:Nat):Int))) (.br (q_iGetRec x0 x5) (.br (!((iGetRec x0 x5).2.2.2.1)) (.done (.exit 0) E_iReadRecs_0_0 (((),(),(),(),(),x5,u24),(h0,()))) (.br (decide ((h0.length+[(((iGetRec x0 x5).1),(((iGetRec x0 x5).2.1),((iGetRec x0 x5).2.2.2.2)))].length)*40≤MAXB)) (.next ((x0,(),(),(),(),((iGetRec x0 x5).2.2.1),u24),(h0++[(((iGetRec x0 x5).1),(((iGetRec x0 x5).2.1),((iGetRec x0 x5).2.2.2.2)))],()))) .fail)) .fail) (.done (.exit 0) E_iReadRecs_0_0 (((),(),(),(),(),x5,u24),(h0,()))))
noncomputable abbrev V_iReadRecs_0:=(List Int)×(Int)×(Lq2)
noncomputable abbrev A_iReadRecs_0:=Nat×(Int)×(Lq2)
noncomputable def fl_iReadRecs_0:A_iReadRecs_0:=(99,((0:Int):Int),([]:Lq2))
noncomputable def ss_iReadRecs_0 (x0:List Int) (x5:Int) (h0:Lq2):V_iReadRecs_0 ⊕ A_iReadRecs_0:=(cond (decide (x5<((x0.length:Nat):Int))) (cond (q_iGetRec x0 x5) (cond (!((iGetRec x0 x5).2.2.2.1)) (.inr (0,x5,h0)) (cond (decide ((h0.length+[(((iGetRec x0 x5).1),(((iGetRec x0 x5).2.1),((iGetRec x0 x5).2.2.2.2)))].length)*40≤MAXB)) (.inl (x0,((iGetRec x0 x5).2.2.1),h0++[(((iGetRec x0 x5).1),(((iGetRec x0 x5).2.1),((iGetRec x0 x5).2.2.2.2)))])) (.inr fl_iReadRecs_0))) (.inr fl_iReadRecs_0)) (.inr (0,x5,h0)))
noncomputable def it_iReadRecs_0 (x0:List Int) (x5:Int) (h0:Lq2):A_iReadRecs_0:=itX (fun v:V_iReadRecs_0=>ss_iReadRecs_0 v.1 v.2.1 v.2.2) fl_iReadRecs_0 (x0,x5,h0)
noncomputable def ct_iReadRecs_0 (a:A_iReadRecs_0):CT:=(.br (a.1==0) (.done (.exit 0) E_iReadRecs_0_0 (((),(),(),(),(),a.2.1,u24),(a.2.2,()))) .fail)
noncomputable def T_iReadRecs_0 (x0:List Int) (x5:Int) (h0:Lq2):CT:=ct_iReadRecs_0 (it_iReadRecs_0 x0 x5 h0)
noncomputable abbrev sp_iReadRecs_0:S_iReadRecs_0.den→RT S_iReadRecs_0.den:=(fun d=>st_iReadRecs_0 d.1.1 d.1.2.2.2.2.2.1 d.2.1)
noncomputable def body_iReadRecs_0:Code:=((loopsIn 0 (bodyOf Try.f32)).getD 0 (0,.skip)).2
noncomputable abbrev pv_iReadRecs_0 (v:V_iReadRecs_0):S_iReadRecs_0.den:=((v.1,(),(),(),(),v.2.1,u24),(v.2.2,()))
theorem rl_iReadRecs_0:(∀ v:V_iReadRecs_0,(st_iReadRecs_0 v.1 v.2.1 v.2.2).val=relS pv_iReadRecs_0 ct_iReadRecs_0 (ss_iReadRecs_0 v.1 v.2.1 v.2.2))∧∀ a:A_iReadRecs_0,CEnd S_iReadRecs_0.den (ct_iReadRecs_0 a):=⟨fun v=>(relB (relB (relB rfl (relB rfl rfl)) rfl) rfl),fun a=>(cendB (cendD (by simp)) cendF)⟩
theorem rdA_iReadRecs_0:RdA (G41.deep ow) (fun _ _=>none) 0 body_iReadRecs_0 S_iReadRecs_0 0 [] (kepts [] [(0,[4,5])]) (fun d=>(sp_iReadRecs_0 d).opt 0 []):=by
 intro d
 kernel_rfl
noncomputable abbrev say_iReadRecs_0:St→Option Tree:=S_iReadRecs_0.say 0 [] [(4,1240000030,tq6)] (fun d=>T_iReadRecs_0 d.1.1 d.1.2.2.2.2.2.1 d.2.1)
theorem lw_iReadRecs_0:LoopWp Try.prog say_iReadRecs_0 body_iReadRecs_0:=SS.wp2 hlz [(4,1240000030,tq6)] sp_iReadRecs_0 rdA_iReadRecs_0 (fun d=>rfl) _ (fun d=>Runs.ofI2 (step:=sp_iReadRecs_0) pv_iReadRecs_0 rl_iReadRecs_0 rfl (d.1.1,d.1.2.2.2.2.2.1,d.2.1))
noncomputable def iReadRecs (a0:List Int):Int×Lq2:=(((it_iReadRecs_0 a0 (0:Int) ([]:Lq2)).2.1),((it_iReadRecs_0 a0 (0:Int) ([]:Lq2)).2.2))
noncomputable abbrev e_iReadRecs (r:Int×Lq2):AV×List AObj:=((.tup [(.all 0 3),(.t true (.int .i64) r.1)]),[(.deep 30 [124] tq6 r.2)])
noncomputable abbrev g_iReadRecs:pshsDen P_iReadRecs→AV×List AObj:=fun d=>e_iReadRecs (iReadRecs d.1)
noncomputable def q_iReadRecs (a0:List Int):Bool:=((it_iReadRecs_0 a0 (0:Int) ([]:Lq2)).1==0)
noncomputable abbrev pre_iReadRecs:pshsDen P_iReadRecs→Bool:=fun d=>q_iReadRecs d.1
noncomputable abbrev L_iReadRecs:Nat→St→Option Tree:=fun b=>match b with | 0=>say_iReadRecs_0 | _=>fun _=>none
theorem run_iReadRecs:RunP false (G41.deep ow) (L_iReadRecs) Try.f32 P_iReadRecs pre_iReadRecs g_iReadRecs:=by
 rintro ⟨a0,_⟩ hp
 change q_iReadRecs a0=true at hp
 unfold q_iReadRecs at hp
 refine Eq.trans (b:=(cond ((it_iReadRecs_0 a0 (0:Int) ([]:Lq2)).1==0) (some (e_iReadRecs (((it_iReadRecs_0 a0 (0:Int) ([]:Lq2)).2.1),((it_iReadRecs_0 a0 (0:Int) ([]:Lq2)).2.2)))) none)) (by kernel_rfl) ?_
 exact (cndT hp fun _h=>rfl)
theorem c_iReadRecs:PContract Try.prog 32 (sumOf P_iReadRecs pre_iReadRecs g_iReadRecs):=pcD false (G41.deep ow) (hl1 (i:=0) (by kernel_rfl) lw_iReadRecs_0) run_iReadRecs
noncomputable def S42:Tab:=Tab.add S41 32 (lift (sumOf P_iReadRecs pre_iReadRecs g_iReadRecs))
noncomputable def QF42:FuncId→Bool:=QF41
theorem G42:Good Try.prog tt S42 QF42:=G41.add c_iReadRecs (cbl Try.f32) (by kernel_rfl)

noncomputable abbrev jS20:List Sh:=.junk::.junk::.junk::.junk::jS16
noncomputable abbrev jS21:List Sh:=.junk::jS20
noncomputable abbrev jS25:List Sh:=.junk::.junk::jS23
noncomputable abbrev u21:=((),(),u19)
noncomputable abbrev P_lsameOps:List PSh:=[.t tq3,.t tq3]
noncomputable abbrev S_lsameOps_0:SS:=⟨(.t false tq3::.t false tq3::.junk::.junk::.junk::.t true (.int .i64)::jS20),[]⟩
noncomputable abbrev E_lsameOps_0_0:SS:=⟨(.junk::.junk::.junk::.junk::.t true .bool::jS21),[]⟩
noncomputable abbrev E_lsameOps_0_1:SS:=⟨(.junk::jS25),[]⟩
noncomputable def st_lsameOps_0 (x0:Lq1) (x1:Lq1) (x5:Int):RT S_lsameOps_0.den:=(.br (decide (x5<((x0.length:Nat):Int))) (.br (decide (0≤x5∧x5<((x0.length:Nat):Int))) (.br (decide (0≤x5∧x5<((x1.length:Nat):Int))) (.br (!((((x0.getD x5.toNat ((0:Int),(bE,bE))).1)==((x1.getD x5.toNat ((0:Int),(bE,bE))).1))&&(((((x0.getD x5.toNat ((0:Int),(bE,bE))).2).1).toList==(((x1.getD x5.toNat ((0:Int),(bE,bE))).2).1).toList)&&(((((x0.getD x5.toNat ((0:Int),(bE,bE))).2).2).toList==(((x1.getD x5.toNat ((0:Int),(bE,bE))).2).2).toList)&&true)))) (.done .ret E_lsameOps_0_0 (((),(),(),(),false,u22),())) (.next ((x0,x1,(),(),(),IntKind.wrap .i64 (x5+(1:Int)),u21),()))) .fail) .fail) (.done (.exit 0) E_lsameOps_0_1 ((u27),())))
noncomputable abbrev V_lsameOps_0:=(Lq1)×(Lq1)×(Int)
noncomputable abbrev A_lsameOps_0:=Nat×(Bool)
noncomputable def fl_lsameOps_0:A_lsameOps_0:=(99,(false:Bool))
noncomputable def ss_lsameOps_0 (x0:Lq1) (x1:Lq1) (x5:Int):V_lsameOps_0 ⊕ A_lsameOps_0:=(cond (decide (x5<((x0.length:Nat):Int))) (cond (decide (0≤x5∧x5<((x0.length:Nat):Int))) (cond (decide (0≤x5∧x5<((x1.length:Nat):Int))) (cond (!((((x0.getD x5.toNat ((0:Int),(bE,bE))).1)==((x1.getD x5.toNat ((0:Int),(bE,bE))).1))&&(((((x0.getD x5.toNat ((0:Int),(bE,bE))).2).1).toList==(((x1.getD x5.toNat ((0:Int),(bE,bE))).2).1).toList)&&(((((x0.getD x5.toNat ((0:Int),(bE,bE))).2).2).toList==(((x1.getD x5.toNat ((0:Int),(bE,bE))).2).2).toList)&&true)))) (.inr (0,false)) (.inl (x0,x1,IntKind.wrap .i64 (x5+(1:Int))))) (.inr fl_lsameOps_0)) (.inr fl_lsameOps_0)) (.inr (1,(false:Bool))))
noncomputable def it_lsameOps_0 (x0:Lq1) (x1:Lq1) (x5:Int):A_lsameOps_0:=itX (fun v:V_lsameOps_0=>ss_lsameOps_0 v.1 v.2.1 v.2.2) fl_lsameOps_0 (x0,x1,x5)
noncomputable def ct_lsameOps_0 (a:A_lsameOps_0):CT:=(.br (a.1==0) (.done .ret E_lsameOps_0_0 (((),(),(),(),a.2,u22),())) (.br (a.1==1) (.done (.exit 0) E_lsameOps_0_1 ((u27),())) .fail))
noncomputable def T_lsameOps_0 (x0:Lq1) (x1:Lq1) (x5:Int):CT:=ct_lsameOps_0 (it_lsameOps_0 x0 x1 x5)
noncomputable abbrev sp_lsameOps_0:S_lsameOps_0.den→RT S_lsameOps_0.den:=(fun d=>st_lsameOps_0 d.1.1 d.1.2.1 d.1.2.2.2.2.2.1)
noncomputable def body_lsameOps_0:Code:=((loopsIn 0 (bodyOf Try.f80)).getD 0 (0,.skip)).2
noncomputable abbrev pv_lsameOps_0 (v:V_lsameOps_0):S_lsameOps_0.den:=((v.1,v.2.1,(),(),(),v.2.2,u21),())
theorem rl_lsameOps_0:(∀ v:V_lsameOps_0,(st_lsameOps_0 v.1 v.2.1 v.2.2).val=relS pv_lsameOps_0 ct_lsameOps_0 (ss_lsameOps_0 v.1 v.2.1 v.2.2))∧∀ a:A_lsameOps_0,CEnd S_lsameOps_0.den (ct_lsameOps_0 a):=⟨fun v=>(relB (relB (relB (relB rfl rfl) rfl) rfl) rfl),fun a=>(cendB (cendD (by simp)) (cendB (cendD (by simp)) cendF))⟩
theorem rdA_lsameOps_0:RdA G42 (fun _ _=>none) 0 body_lsameOps_0 S_lsameOps_0 0 [] (kepts [4] [(0,[])]) (fun d=>(sp_lsameOps_0 d).opt 0 []):=by
 intro d
 kernel_rfl
noncomputable abbrev say_lsameOps_0:St→Option Tree:=S_lsameOps_0.say 0 [] [] (fun d=>T_lsameOps_0 d.1.1 d.1.2.1 d.1.2.2.2.2.2.1)
theorem lw_lsameOps_0:LoopWp Try.prog say_lsameOps_0 body_lsameOps_0:=SS.wp2 hlz [] sp_lsameOps_0 rdA_lsameOps_0 (fun d=>rfl) _ (fun d=>Runs.ofI2 (step:=sp_lsameOps_0) pv_lsameOps_0 rl_lsameOps_0 rfl (d.1.1,d.1.2.1,d.1.2.2.2.2.2.1))
noncomputable def lsameOps (a0:Lq1) (a1:Lq1):Bool:=(cond (((a0.length:Nat):Int) != ((a1.length:Nat):Int)) false (cond ((it_lsameOps_0 a0 a1 (0:Int)).1==0) ((it_lsameOps_0 a0 a1 (0:Int)).2) true))
noncomputable abbrev e_lsameOps (r:Bool):AV×List AObj:=((.t true .bool r),[])
noncomputable abbrev g_lsameOps:pshsDen P_lsameOps→AV×List AObj:=fun d=>e_lsameOps (lsameOps d.1 d.2.1)
noncomputable def q_lsameOps (a0:Lq1) (a1:Lq1):Bool:=cond (((a0.length:Nat):Int) != ((a1.length:Nat):Int)) true (cond ((it_lsameOps_0 a0 a1 (0:Int)).1==0) true ((it_lsameOps_0 a0 a1 (0:Int)).1==1))
noncomputable abbrev pre_lsameOps:pshsDen P_lsameOps→Bool:=fun d=>q_lsameOps d.1 d.2.1
noncomputable abbrev L_lsameOps:Nat→St→Option Tree:=fun b=>match b with | 0=>say_lsameOps_0 | _=>fun _=>none
theorem run_lsameOps:RunP true G42 (L_lsameOps) Try.f80 P_lsameOps pre_lsameOps g_lsameOps:=by
 rintro ⟨a0,⟨a1,_⟩⟩ hp
 change q_lsameOps a0 a1=true at hp
 unfold q_lsameOps at hp
 refine Eq.trans (b:=(cond (((a0.length:Nat):Int) != ((a1.length:Nat):Int)) (some (e_lsameOps false)) (cond ((it_lsameOps_0 a0 a1 (0:Int)).1==0) (some (e_lsameOps ((it_lsameOps_0 a0 a1 (0:Int)).2))) (cond ((it_lsameOps_0 a0 a1 (0:Int)).1==1) (some (e_lsameOps true)) none)))) (by kernel_rfl) ?_
 exact (cndE e_lsameOps hp (fun hp=>rfl) (fun hp=>(cndE e_lsameOps hp (fun hp=>rfl) (fun hp=>(cndT hp fun _h=>rfl)))))
theorem c_lsameOps:PContract Try.prog 80 (sumOf P_lsameOps pre_lsameOps g_lsameOps):=pcD true G42 (hl1 (i:=0) (by kernel_rfl) lw_lsameOps_0) run_lsameOps
noncomputable def S43:Tab:=Tab.add S42 80 (lift (sumOf P_lsameOps pre_lsameOps g_lsameOps))
noncomputable def QF43:FuncId→Bool:=qadd QF42 80
theorem G43:Good Try.prog tt S43 QF43:=G42.addQ c_lsameOps (cbl Try.f80) (fun _=>rfl)

noncomputable abbrev P_lsameRec:List PSh:=[.agg [(.int .i64),(.int .i64),tq3],.agg [(.int .i64),(.int .i64),tq3]]
noncomputable def lsameRec (a0:Int) (a1:Int) (a2:Lq1) (a3:Int) (a4:Int) (a5:Lq1):Bool:=(cond (a0==a3) (cond (a1==a4) (lsameOps a2 a5) false) false)
noncomputable abbrev e_lsameRec (r:Bool):AV×List AObj:=((.t true .bool r),[])
noncomputable abbrev g_lsameRec:pshsDen P_lsameRec→AV×List AObj:=fun d=>e_lsameRec (lsameRec d.1.1 d.1.2.1 d.1.2.2.1 d.2.1.1 d.2.1.2.1 d.2.1.2.2.1)
noncomputable def q_lsameRec (a0:Int) (a1:Int) (a2:Lq1) (a3:Int) (a4:Int) (a5:Lq1):Bool:=cond (a0==a3) (cond (a1==a4) (q_lsameOps a2 a5) true) true
noncomputable abbrev pre_lsameRec:pshsDen P_lsameRec→Bool:=fun d=>q_lsameRec d.1.1 d.1.2.1 d.1.2.2.1 d.2.1.1 d.2.1.2.1 d.2.1.2.2.1
theorem run_lsameRec:RunP true G43 (fun _ _=>none) Try.f30 P_lsameRec pre_lsameRec g_lsameRec:=by
 rintro ⟨⟨a0,⟨a1,⟨a2,_⟩⟩⟩,⟨⟨a3,⟨a4,⟨a5,_⟩⟩⟩,_⟩⟩ hp
 change q_lsameRec a0 a1 a2 a3 a4 a5=true at hp
 unfold q_lsameRec at hp
 refine Eq.trans (b:=(cond (a0==a3) (cond (a1==a4) (cond (q_lsameOps a2 a5) (some (e_lsameRec (lsameOps a2 a5))) none) (some (e_lsameRec false))) (some (e_lsameRec false)))) (by kernel_rfl) ?_
 exact (cndE e_lsameRec hp (fun hp=>(cndE e_lsameRec hp (fun hp=>(cndT hp fun _h=>rfl)) (fun hp=>rfl))) (fun hp=>rfl))
theorem c_lsameRec:PContract Try.prog 30 (sumOf P_lsameRec pre_lsameRec g_lsameRec):=pcD true G43 hlz run_lsameRec
noncomputable def S44:Tab:=Tab.add S43 30 (lift (sumOf P_lsameRec pre_lsameRec g_lsameRec))
noncomputable def QF44:FuncId→Bool:=qadd QF43 30
theorem G44:Good Try.prog tt S44 QF44:=G43.addQ c_lsameRec (cbl Try.f30) (fun _=>rfl)

noncomputable abbrev P_lsameRecs:List PSh:=[.t tq5,.t tq5]
noncomputable abbrev S_lsameRecs_0:SS:=⟨(.t false tq5::.t false tq5::.junk::.junk::.junk::.t true (.int .i64)::jS21),[]⟩
noncomputable abbrev E_lsameRecs_0_0:SS:=⟨(.junk::.junk::.junk::.junk::.t true .bool::jS22),[]⟩
noncomputable abbrev E_lsameRecs_0_1:SS:=⟨(.junk::jS26),[]⟩
noncomputable def k1_lsameRecs (x0:Lq2) (x1:Lq2) (x5:Int):=lsameRec ((x0.getD x5.toNat ((0:Int),((0:Int),[]))).1) (((x0.getD x5.toNat ((0:Int),((0:Int),[]))).2).1) (((x0.getD x5.toNat ((0:Int),((0:Int),[]))).2).2) ((x1.getD x5.toNat ((0:Int),((0:Int),[]))).1) (((x1.getD x5.toNat ((0:Int),((0:Int),[]))).2).1) (((x1.getD x5.toNat ((0:Int),((0:Int),[]))).2).2)
noncomputable def st_lsameRecs_0 (x0:Lq2) (x1:Lq2) (x5:Int):RT S_lsameRecs_0.den:=(.br (decide (x5<((x0.length:Nat):Int))) (.br (decide (0≤x5∧x5<((x0.length:Nat):Int))) (.br (decide (0≤x5∧x5<((x1.length:Nat):Int))) (.br (q_lsameRec ((x0.getD x5.toNat ((0:Int),((0:Int),[]))).1) (((x0.getD x5.toNat ((0:Int),((0:Int),[]))).2).1) (((x0.getD x5.toNat ((0:Int),((0:Int),[]))).2).2) ((x1.getD x5.toNat ((0:Int),((0:Int),[]))).1) (((x1.getD x5.toNat ((0:Int),((0:Int),[]))).2).1) (((x1.getD x5.toNat ((0:Int),((0:Int),[]))).2).2)) (.br (!(k1_lsameRecs x0 x1 x5)) (.done .ret E_lsameRecs_0_0 (((),(),(),(),false,u23),())) (.next ((x0,x1,(),(),(),IntKind.wrap .i64 (x5+(1:Int)),u22),()))) .fail) .fail) .fail) (.done (.exit 0) E_lsameRecs_0_1 ((u28),())))
noncomputable abbrev V_lsameRecs_0:=(Lq2)×(Lq2)×(Int)
noncomputable abbrev A_lsameRecs_0:=Nat×(Bool)
noncomputable def fl_lsameRecs_0:A_lsameRecs_0:=(99,(false:Bool))
noncomputable def ss_lsameRecs_0 (x0:Lq2) (x1:Lq2) (x5:Int):V_lsameRecs_0 ⊕ A_lsameRecs_0:=(cond (decide (x5<((x0.length:Nat):Int))) (cond (decide (0≤x5∧x5<((x0.length:Nat):Int))) (cond (decide (0≤x5∧x5<((x1.length:Nat):Int))) (cond (q_lsameRec ((x0.getD x5.toNat ((0:Int),((0:Int),[]))).1) (((x0.getD x5.toNat ((0:Int),((0:Int),[]))).2).1) (((x0.getD x5.toNat ((0:Int),((0:Int),[]))).2).2) ((x1.getD x5.toNat ((0:Int),((0:Int),[]))).1) (((x1.getD x5.toNat ((0:Int),((0:Int),[]))).2).1) (((x1.getD x5.toNat ((0:Int),((0:Int),[]))).2).2)) (cond (!(k1_lsameRecs x0 x1 x5)) (.inr (0,false)) (.inl (x0,x1,IntKind.wrap .i64 (x5+(1:Int))))) (.inr fl_lsameRecs_0)) (.inr fl_lsameRecs_0)) (.inr fl_lsameRecs_0)) (.inr (1,(false:Bool))))
noncomputable def it_lsameRecs_0 (x0:Lq2) (x1:Lq2) (x5:Int):A_lsameRecs_0:=itX (fun v:V_lsameRecs_0=>ss_lsameRecs_0 v.1 v.2.1 v.2.2) fl_lsameRecs_0 (x0,x1,x5)
noncomputable def ct_lsameRecs_0 (a:A_lsameRecs_0):CT:=(.br (a.1==0) (.done .ret E_lsameRecs_0_0 (((),(),(),(),a.2,u23),())) (.br (a.1==1) (.done (.exit 0) E_lsameRecs_0_1 ((u28),())) .fail))
noncomputable def T_lsameRecs_0 (x0:Lq2) (x1:Lq2) (x5:Int):CT:=ct_lsameRecs_0 (it_lsameRecs_0 x0 x1 x5)
noncomputable abbrev sp_lsameRecs_0:S_lsameRecs_0.den→RT S_lsameRecs_0.den:=(fun d=>st_lsameRecs_0 d.1.1 d.1.2.1 d.1.2.2.2.2.2.1)
noncomputable def body_lsameRecs_0:Code:=((loopsIn 0 (bodyOf Try.f33)).getD 0 (0,.skip)).2
noncomputable abbrev pv_lsameRecs_0 (v:V_lsameRecs_0):S_lsameRecs_0.den:=((v.1,v.2.1,(),(),(),v.2.2,u22),())
theorem rl_lsameRecs_0:(∀ v:V_lsameRecs_0,(st_lsameRecs_0 v.1 v.2.1 v.2.2).val=relS pv_lsameRecs_0 ct_lsameRecs_0 (ss_lsameRecs_0 v.1 v.2.1 v.2.2))∧∀ a:A_lsameRecs_0,CEnd S_lsameRecs_0.den (ct_lsameRecs_0 a):=⟨fun v=>(relB (relB (relB (relB (relB rfl rfl) rfl) rfl) rfl) rfl),fun a=>(cendB (cendD (by simp)) (cendB (cendD (by simp)) cendF))⟩
theorem rdA_lsameRecs_0:RdA G44 (fun _ _=>none) 0 body_lsameRecs_0 S_lsameRecs_0 0 [] (kepts [4] [(0,[])]) (fun d=>(sp_lsameRecs_0 d).opt 0 []):=by
 intro d
 kernel_rfl
noncomputable abbrev say_lsameRecs_0:St→Option Tree:=S_lsameRecs_0.say 0 [] [] (fun d=>T_lsameRecs_0 d.1.1 d.1.2.1 d.1.2.2.2.2.2.1)
theorem lw_lsameRecs_0:LoopWp Try.prog say_lsameRecs_0 body_lsameRecs_0:=SS.wp2 hlz [] sp_lsameRecs_0 rdA_lsameRecs_0 (fun d=>rfl) _ (fun d=>Runs.ofI2 (step:=sp_lsameRecs_0) pv_lsameRecs_0 rl_lsameRecs_0 rfl (d.1.1,d.1.2.1,d.1.2.2.2.2.2.1))
noncomputable def lsameRecs (a0:Lq2) (a1:Lq2):Bool:=(cond (((a0.length:Nat):Int) != ((a1.length:Nat):Int)) false (cond ((it_lsameRecs_0 a0 a1 (0:Int)).1==0) ((it_lsameRecs_0 a0 a1 (0:Int)).2) true))
noncomputable abbrev e_lsameRecs (r:Bool):AV×List AObj:=((.t true .bool r),[])
noncomputable abbrev g_lsameRecs:pshsDen P_lsameRecs→AV×List AObj:=fun d=>e_lsameRecs (lsameRecs d.1 d.2.1)
noncomputable def q_lsameRecs (a0:Lq2) (a1:Lq2):Bool:=cond (((a0.length:Nat):Int) != ((a1.length:Nat):Int)) true (cond ((it_lsameRecs_0 a0 a1 (0:Int)).1==0) true ((it_lsameRecs_0 a0 a1 (0:Int)).1==1))
noncomputable abbrev pre_lsameRecs:pshsDen P_lsameRecs→Bool:=fun d=>q_lsameRecs d.1 d.2.1
noncomputable abbrev L_lsameRecs:Nat→St→Option Tree:=fun b=>match b with | 0=>say_lsameRecs_0 | _=>fun _=>none
theorem run_lsameRecs:RunP true G44 (L_lsameRecs) Try.f33 P_lsameRecs pre_lsameRecs g_lsameRecs:=by
 rintro ⟨a0,⟨a1,_⟩⟩ hp
 change q_lsameRecs a0 a1=true at hp
 unfold q_lsameRecs at hp
 refine Eq.trans (b:=(cond (((a0.length:Nat):Int) != ((a1.length:Nat):Int)) (some (e_lsameRecs false)) (cond ((it_lsameRecs_0 a0 a1 (0:Int)).1==0) (some (e_lsameRecs ((it_lsameRecs_0 a0 a1 (0:Int)).2))) (cond ((it_lsameRecs_0 a0 a1 (0:Int)).1==1) (some (e_lsameRecs true)) none)))) (by kernel_rfl) ?_
 exact (cndE e_lsameRecs hp (fun hp=>rfl) (fun hp=>(cndE e_lsameRecs hp (fun hp=>rfl) (fun hp=>(cndT hp fun _h=>rfl)))))
theorem c_lsameRecs:PContract Try.prog 33 (sumOf P_lsameRecs pre_lsameRecs g_lsameRecs):=pcD true G44 (hl1 (i:=0) (by kernel_rfl) lw_lsameRecs_0) run_lsameRecs
noncomputable def S45:Tab:=Tab.add S44 33 (lift (sumOf P_lsameRecs pre_lsameRecs g_lsameRecs))
noncomputable def QF45:FuncId→Bool:=qadd QF44 33
theorem G45:Good Try.prog tt S45 QF45:=G44.addQ c_lsameRecs (cbl Try.f33) (fun _=>rfl)

noncomputable abbrev P_lat:List PSh:=[.t t_sy,.t (.int .i64)]
noncomputable def lat (a0:List Int) (a1:Int):Int:=(cond (decide (a1<((a0.length:Nat):Int))) (IntKind.wrap .i64 (a0.getD a1.toNat (0:Int))) (Int.tmod (IntKind.wrap .i64 ((IntKind.wrap .i64 (a1*(31:Int)))+(IntKind.wrap .i64 (((a0.length:Nat):Int)*(7:Int))))) (256:Int)))
noncomputable abbrev e_lat (r:Int):AV×List AObj:=((.t true (.int .i64) r),[])
noncomputable abbrev g_lat:pshsDen P_lat→AV×List AObj:=fun d=>e_lat (lat d.1 d.2.1)
noncomputable def q_lat (a0:List Int) (a1:Int):Bool:=cond (decide (a1<((a0.length:Nat):Int))) (decide (0≤a1∧a1<((a0.length:Nat):Int))) true
noncomputable abbrev pre_lat:pshsDen P_lat→Bool:=fun d=>q_lat d.1 d.2.1
theorem run_lat:RunP true G45 (fun _ _=>none) Try.f29 P_lat pre_lat g_lat:=by
 rintro ⟨a0,⟨a1,_⟩⟩ hp
 change q_lat a0 a1=true at hp
 unfold q_lat at hp
 refine Eq.trans (b:=(cond (decide (a1<((a0.length:Nat):Int))) (cond (decide (0≤a1∧a1<((a0.length:Nat):Int))) (some (e_lat (IntKind.wrap .i64 (a0.getD a1.toNat (0:Int))))) none) (some (e_lat (Int.tmod (IntKind.wrap .i64 ((IntKind.wrap .i64 (a1*(31:Int)))+(IntKind.wrap .i64 (((a0.length:Nat):Int)*(7:Int))))) (256:Int)))))) (by kernel_rfl) ?_
 exact (cndE e_lat hp (fun hp=>(cndT hp fun _h=>rfl)) (fun hp=>rfl))
theorem c_lat:PContract Try.prog 29 (sumOf P_lat pre_lat g_lat):=pcD true G45 hlz run_lat
noncomputable def S46:Tab:=Tab.add S45 29 (lift (sumOf P_lat pre_lat g_lat))
noncomputable def QF46:FuncId→Bool:=qadd QF45 29
theorem G46:Good Try.prog tt S46 QF46:=G45.addQ c_lat (cbl Try.f29) (fun _=>rfl)


end Go.Proofs.Ytccelbeahdcooaa.Eng
