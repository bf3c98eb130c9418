/- What the functions that FnFlipped reaches compute: further. -/
import Derived.Test.YtccelbeahdcooaaFFlippedA
namespace Go.Proofs.Ytccelbeahdcooaa.Eng
open Go Go.RowKit
set_option linter.unusedSimpArgs false
set_option linter.unusedVariables false
set_option maxRecDepth 10000
theorem O8 (n:Int) (h1:0≤n) (h2:n<9223372036854775808):IntKind.wrap .i64 n=n:=wrap64 (by omega) h2
theorem B7b (c l:List Int) (hc:c.length=64) (hl:l.length=64):(M8 c 0 l).1=0∧(M8 c 0 l).2.length=64:=by
 refine itX_inv (v:=(c,(0:Int),l)) (fun v:Q2=>v.1=c∧(0≤v.2.1∧v.2.1≤16)∧v.2.2.length=64) (fun a:P7=>a.1=0∧a.2.length=64) (fun v:Q2=>(16 - v.2.1).toNat) ?_ ⟨rfl,⟨by simp only;omega,by simp only;omega⟩,hl⟩ (by simp only;decide)
 rintro ⟨c', i,m⟩ ⟨h1,h2,h3⟩
 simp only at h1 h2 h3
 subst h1
 by_cases hi:i<16
 ·obtain ⟨m', e, hm⟩ : ∃ m' : List Int, N6 c' i m = .inl (c', i + 1, m') ∧ m'.length = 64 := by
   apply Exists.intro
   constructor
   ·simp only [N6,O8 (4*i) (by omega) (by omega),O8 (4*i+1) (by omega) (by omega),O8 (4*i+2) (by omega) (by omega),O8 (4*i+3) (by omega) (by omega),O8 (i+1) (by omega) (by omega),decide_eq_true hi,cond_true]
    rw [decide_eq_true (by omega),decide_eq_true (by omega),decide_eq_true (by omega),decide_eq_true (by omega),decide_eq_true (by omega)]
    rfl
   ·simp only [List.length_set];exact h3
  exact .inl ⟨(c', i+1,m'),e,⟨rfl,by simp only;omega,hm⟩,by simp only;omega⟩
 ·refine .inr ⟨(0,m),?_,rfl,h3⟩
  simp only [N6,decide_eq_false hi,cond_false]
theorem B7c (l:List Int) (hl:l.length=64):(M9 16 l).1=0∧(M9 16 l).2.length=64:=by
 refine itX_inv (v:=((16:Int),l)) (fun v:Q3=>(16≤v.1∧v.1≤64)∧v.2.length=64) (fun a:P8=>a.1=0∧a.2.length=64) (fun v:Q3=>(64 - v.1).toNat) ?_ ⟨⟨by simp only;omega,by simp only;omega⟩,hl⟩ (by simp only;decide)
 rintro ⟨i,m⟩ ⟨h2,h3⟩
 simp only at h2 h3
 by_cases hi:i<64
 ·obtain ⟨m', e, hm⟩ : ∃ m' : List Int, N7 i m = .inl (i + 1, m') ∧ m'.length = 64 := by
   apply Exists.intro
   constructor
   ·simp only [N7,O8 (i - 15) (by omega) (by omega),O8 (i - 2) (by omega) (by omega),O8 (i - 16) (by omega) (by omega),O8 (i - 7) (by omega) (by omega),O8 (i+1) (by omega) (by omega),decide_eq_true hi,cond_true]
    rw [decide_eq_true (by omega),decide_eq_true (by omega),decide_eq_true (by omega),decide_eq_true (by omega),decide_eq_true (by omega)]
    rfl
   ·simp only [List.length_set];exact h3
  exact .inl ⟨(i+1,m'),e,⟨by simp only;omega,hm⟩,by simp only;omega⟩
 ·refine .inr ⟨(0,m),?_,rfl,h3⟩
  simp only [N7,decide_eq_false hi,cond_false]
theorem B8d (c:List Int) (hc:c.length=64):Z0 c=true∧(A2P c).length=64:=by
 obtain ⟨a1,a2⟩:=B7b c (List.replicate 64 0) hc (by simp)
 obtain ⟨b1,b2⟩:=B7c _ a2
 exact ⟨by simp only [Z0,a1,b1];rfl,b2⟩
theorem B5g (h k ws v:List Int) (hk:k.length=64) (hw:ws.length=64) (hv:v.length=8):(B6 0 h k ws v).1=0∧(B6 0 h k ws v).2.1=h∧(B6 0 h k ws v).2.2.1=k∧(B6 0 h k ws v).2.2.2.length=8:=by
 refine itX_inv (v:=((0:Int),h,k,ws,v)) (fun x:K3=>(0≤x.1∧x.1≤64)∧x.2.1=h∧x.2.2.1=k∧x.2.2.2.1=ws∧x.2.2.2.2.length=8) (fun a:K1=>a.1=0∧a.2.1=h∧a.2.2.1=k∧a.2.2.2.length=8) (fun x:K3=>(64 - x.1).toNat) ?_ ⟨⟨by simp only;omega,by simp only;omega⟩,rfl,rfl,rfl,hv⟩ (by simp only;decide)
 rintro ⟨i,h', k', ws', v'⟩ ⟨h2,h3,h4,h5,h6⟩
 simp only at h2 h3 h4 h5 h6
 subst h3;subst h4;subst h5
 by_cases hi:i<64
 ·obtain ⟨m', e, hm⟩ : ∃ m' : List Int, H9 i h' k' ws' v' = .inl (i + 1, h', k', ws', m') ∧ m'.length = 8 := by
   apply Exists.intro
   constructor
   ·simp only [H9,O8 (i+1) (by omega) (by omega),decide_eq_true hi,cond_true,h6,hk,hw]
    rw [show decide (0≤i∧i<((64:Nat):Int)∧i<((64:Nat):Int))=true from decide_eq_true (by omega)]
    rfl
   ·rfl
  exact .inl ⟨(i+1,h', k', ws', m'),e,⟨by simp only;omega,rfl,rfl,rfl,hm⟩,by simp only;omega⟩
 ·refine .inr ⟨(0,h', k', v'),?_,rfl,rfl,rfl,h6⟩
  simp only [H9,decide_eq_false hi,cond_false]
theorem B8c (h k v:List Int) (hh:h.length=8) (hv:v.length=8):(D5 0 h k v).1=0∧(D5 0 h k v).2.1.length=8∧(D5 0 h k v).2.2=k:=by
 refine itX_inv (v:=((0:Int),h,k,v)) (fun x:K4=>(0≤x.1∧x.1≤8)∧x.2.1.length=8∧x.2.2.1=k∧x.2.2.2.length=8) (fun a:K2=>a.1=0∧a.2.1.length=8∧a.2.2=k) (fun x:K4=>(8 - x.1).toNat) ?_ ⟨⟨by simp only;omega,by simp only;omega⟩,hh,rfl,hv⟩ (by simp only;decide)
 rintro ⟨i,h', k', v'⟩ ⟨h2,h3,h4,h6⟩
 simp only at h2 h3 h4 h6
 subst h4
 by_cases hi:i<8
 ·obtain ⟨m', e, hm⟩ : ∃ m' : List Int, I4 i h' k' v' = .inl (i + 1, m', k', v') ∧ m'.length = 8 := by
   apply Exists.intro
   constructor
   ·simp only [I4,O8 (i+1) (by omega) (by omega),decide_eq_true hi,cond_true,h6,h3]
    rw [show decide (0≤i∧i<((8:Nat):Int)∧i<((8:Nat):Int))=true from decide_eq_true (by omega)]
    rfl
   ·simp only [List.length_set];exact h3
  exact .inl ⟨(i+1,m', k', v'),e,⟨by simp only;omega,hm,rfl,h6⟩,by simp only;omega⟩
 ·refine .inr ⟨(0,h', k'),?_,rfl,h3,rfl⟩
  simp only [I4,decide_eq_false hi,cond_false]
theorem B0M (c h:List Int) (hc:c.length=64) (hh:h.length=8):V8 c h irounds=true∧(D3 c h irounds).1.length=8∧(D3 c h irounds).2=irounds:=by
 obtain ⟨q,hw⟩:=B8d c hc
 obtain ⟨a1,a2,a3,a4⟩:=B5g h irounds (A2P c) [h.getD 0 0,h.getD 1 0,h.getD 2 0,h.getD 3 0,h.getD 4 0,h.getD 5 0,h.getD 6 0,h.getD 7 0] rfl hw rfl
 have e:C0 c h irounds=B6 0 h irounds (A2P c) [h.getD 0 0,h.getD 1 0,h.getD 2 0,h.getD 3 0,h.getD 4 0,h.getD 5 0,h.getD 6 0,h.getD 7 0]:=rfl
 rw [← e] at a1 a2 a3 a4
 obtain ⟨b1,b2,b3⟩:=B8c (C0 c h irounds).2.1 (C0 c h irounds).2.2.1 (C0 c h irounds).2.2.2 (by rw [a2];exact hh) a4
 refine ⟨?_,b2,b3.trans a3⟩
 have e2:(A1j c h irounds).1=0:=b1
 simp only [V8,q,a1,e2,decide_eq_true hh,Bool.true_and,beq_self_eq_true,Bool.and_true]
 rfl
attribute [local go_sem] Oper.semAt_some
noncomputable def cupto {m:Nat} (k:Nat) (hk:k≤m):List (Fin m):=(List.range k).attach.map fun i=>⟨i.1,by have:=List.mem_range.1 i.2;omega⟩
theorem A0B {m:Nat} (k:Nat) (hk:k≤m):(cupto k hk).length=k:=by simp [cupto]
theorem B5C {m:Nat} (k:Nat) (hk:k+1≤m):cupto (k+1) hk=cupto k (by omega)++[(⟨k,by omega⟩:Fin m)]:=by
 apply List.ext_getElem
 ·simp [A0B]
 ·intro i h1 h2
  simp only [A0B] at h1
  rcases Nat.lt_or_ge i k with h | h
  ·rw [List.getElem_append_left (by rw [A0B];exact h)];simp [cupto]
  ·have e:i=k:=by omega
   subst e
   rw [List.getElem_append_right (by rw [A0B];omega)];simp [cupto]
set_option maxRecDepth 100000 in
set_option maxHeartbeats 2000000 in
theorem B7x (F:Fence) (n:Nat) (h168:F.fn 168) (hro:F.round=none) (hn:1≤n) (l Bs Bn m cap:Nat) (ad:Addr) (hcap:64*m≤cap) (hm:m≤1000000000000) (J Jx:List (Fin m)→World→Prop)
  (hY:∀ pre x W,J pre W→pre.length<m→YieldAt F (n - 1) Try.prog l #[.slice (some (ad.add (64*x.1))) 64 64] W fun e W' =>
   (e=.returned (.bool true)∧J (pre++[x]) W'∧(W'.cell? ⟨Bs,0,none⟩=W.cell? ⟨Bs,0,none⟩∧W'.cell? ⟨Bn,0,none⟩=W.cell? ⟨Bn,0,none⟩))∨(e=.returned (.bool false)∧Jx (pre++[x]) W'))
  (W:World) (hJ:AbidesFrom W.heap.size J) (hBs:W.cell? ⟨Bs,0,none⟩=some (.slice (some ad) (64*m) cap)) (hBn:W.cell? ⟨Bn,0,none⟩=some (.int .i64 64)) (h0:J [] W) :
  CallsIn F n Try.prog 168 #[.func (.yield l) #[] #[],.pointer (some ⟨Bs,0,none⟩),.pointer (some ⟨Bn,0,none⟩)] W fun e W'=>(∃ v,e=.returned v) ∧
   ((∃ xs,xs=cupto (m:=m) m (Nat.le_refl _)∧J xs W')∨(∃ pre,True∧Jx pre W')):=by
 refine callsIn_of_wp Try.func168 rfl h168 ?_ hro
 simp only [Try.ntmps168,List.size_toArray,List.length_cons,List.length_nil,Nat.reduceAdd,Nat.reduceSub,Array.replicate_succ,Array.replicate_zero,List.push_toArray,List.append_toArray,List.nil_append,List.cons_append]
 gi_wp2
 gi_loopw [4] (fun i wr=>∃ k:Nat,∃ hk:k≤m,i=.int .i64 ((64*k:Nat):Int)∧J (cupto k hk) wr∧wr.cell? ⟨Bs,0,none⟩=some (.slice (some ad) (64*m) cap)∧wr.cell? ⟨Bn,0,none⟩=some (.int .i64 64))
  (fun i _=>64*m - (intOf i).toNat)
 case atStart=>exact ⟨0,Nat.zero_le _,rfl,h0,hBs,hBn⟩
 case round =>
  obtain ⟨k,hk,rfl,hJs,hs,hnn⟩:=hrel
  by_cases hlt:k<m
  ·have hc1:((64*k:Nat):Int)<((64*m:Nat):Int):=by omega
   have hc2:(0:Int)≤((64*k:Nat):Int):=by omega
   gi_wp2
   have hc3:((64*k:Nat):Int)≤((64*m:Nat):Int):=by omega
   have hc4:64*k≤64*m:=by omega
   have hc5:¬ cap=64*k:=by omega
   have hmin:¬ ((64*m - 64*k:Nat):Int)<64:=by omega
   have hJ2:J (cupto k hk) wr.drew:=hJ _ _ _ none hJs ⟨rfl,rfl,rfl,Nat.le_refl _,fun _ _ _=>rfl⟩ (fun r e=>by cases e)
   obtain ⟨fn,tmps,assign,body,hy,hR⟩:=hY _ ⟨k,hlt⟩ wr.drew hJ2 (by rw [A0B];exact hlt)
   dsimp only at hy
   have e1:IntKind.wrap .i64 (64*(k:Int)+64)=64*(k:Int)+64:=by rw [wrap64 (by omega) (by omega)]
   have e2:(0:Int)≤64*(k:Int)+64:=by omega
   have e3:64*(k:Int)+64≤(cap:Int):=by omega
   gi_region
   all_goals (rw [if_neg (show ¬ ((64*m - 64*k:Nat):Int)<64 by omega)])
   all_goals (gi_wp2)
   all_goals (
    refine hR.mono ?_
    rintro e W3 (⟨rfl,hJ3,hk1,hk2⟩ | ⟨rfl,hJx3⟩)
    ·gi_wp2
     go_roundw
     case rel=>exact ⟨k+1,by omega,by congr 1,by rw [B5C];exact hJ3,hk1.trans hs,hk2.trans hnn⟩
     case measure=>simp [intOf];omega
    ·gi_wp2
     refine bodyPost_ret (results_none rfl _ _ _) rfl ?_
     exact ⟨⟨_,rfl⟩,.inr ⟨_,trivial,hJx3⟩⟩)
  ·obtain rfl:k=m:=by omega
   gi_wp2
   go_end0
   exact ⟨⟨_,rfl⟩,.inl ⟨_,rfl,hJs⟩⟩
theorem B4b (n:Nat) (hn:1≤n) (Bs Bn m cap:Nat) (ad:Addr) (hcap:64*m≤cap) (hm:m≤1000000000000) (w:World) (hBs:w.cell? ⟨Bs,0,none⟩=some (.slice (some ad) (64*m) cap)) (hBn:w.cell? ⟨Bn,0,none⟩=some (.int .i64 64)) (hs:Bs<w.heap.size) (hnn:Bn<w.heap.size) :
  SeqStopsK Fence.wide n Try.prog 168 #[.pointer (some ⟨Bs,0,none⟩),.pointer (some ⟨Bn,0,none⟩)] (fun x:Fin m=>#[Value.slice (some (ad.add (64*x.1))) 64 64]) (fun A B=>B.cell? ⟨Bs,0,none⟩=A.cell? ⟨Bs,0,none⟩∧B.cell? ⟨Bn,0,none⟩=A.cell? ⟨Bn,0,none⟩) (fun xs=>xs=cupto m (Nat.le_refl _)) (fun _=>True) m w :=
 fun l J Jx W hW hJ _ hY h0=>B7x Fence.wide n trivial rfl hn l Bs Bn m cap ad hcap hm J Jx hY W hJ ((hW.cell (p:=⟨Bs,0,none⟩) hs).trans hBs) ((hW.cell (p:=⟨Bn,0,none⟩) hnn).trans hBn) h0

noncomputable def sqL:Code→Code
 | .seq x _=>x
 | c=>c
noncomputable def sqR:Code→Code
 | .seq _ y=>y
 | c=>c
noncomputable def C0h:Code→Code
 | .block _ x=>x
 | c=>c
noncomputable def rfA:Code→Code
 | .rangeFunc _ _ a _=>a
 | c=>c
noncomputable def rfB:Code→Code
 | .rangeFunc _ _ _ b=>b
 | c=>c
noncomputable def B74:Code→Array Oper
 | .region _ o _=>o
 | _=>#[]
noncomputable def dc0:Code:=sqL (bodyOf Try.f115)
noncomputable def dc1:Code:=sqL (sqR (bodyOf Try.f115))
noncomputable def dc2:Code:=sqL (sqR (sqR (bodyOf Try.f115)))
noncomputable def B4e:Array Oper:=B74 (sqL (sqL (sqR (sqR (sqR (bodyOf Try.f115))))))
noncomputable def drng:Code:=C0h (sqR (sqL (sqR (sqR (sqR (bodyOf Try.f115))))))
noncomputable def dc4:Code:=sqR (sqR (sqR (sqR (bodyOf Try.f115))))
noncomputable def dasg:Array Oper:=B74 (rfA drng)
noncomputable def drb:Array Oper:=B74 (C0h (rfB drng))
theorem B7B:Try.f115.body=some (.seq dc0 (.seq dc1 (.seq dc2 (.seq (.seq (.region 3 B4e false) (.block 0 (.rangeFunc (.tmp 13) #[14] (.region 4 dasg false) (.block 1 (.region 5 drb false))))) dc4)))):=by kernel_rfl

noncomputable def B7N:Summ:=fun args H=>(runM Try.prog tt S31 B2T aLn Try.f149 args H).map fun p=>(p.1,p.2.1,p.2.2,true)
theorem B6X:aPM 149 B7N:=MContract.of_run G31 (fn:=Try.f149) (by kernel_rfl) (L:=fun _ _=>none) (hl0 (L:=fun _ _=>none) (b:=0) (x:=bodyOf Try.f149) (by kernel_rfl)) (fun args H r H' ks h=>by
 obtain ⟨p,h1,h2⟩:=Option.map_eq_some_iff.1 h
 simp only [Prod.mk.injEq] at h2
 obtain ⟨rfl,rfl,rfl,_⟩:=h2
 exact h1)
noncomputable def SC:Tab:=Tab.add S31 149 B7N
theorem C0c:TabOk Try.prog SC:=G31.tab.add B6X (cbl Try.f149)

noncomputable def hinit:List Int:=[1779033703,3144134277,1013904242,2773480762,1359893119,2600822924,528734635,1541459225]
noncomputable def tB (E:TypeId) (fr:Bool) (l:List Int):AObj:=.rows E fr (.int .u32) l
noncomputable def stR (a0:List Int):St:=⟨[.t false B5 a0,.raw undef,.t true .str ⟨#[]⟩,.ptr 0 0 1 0,.ptr 2 0 1 0,.raw undef,.raw undef,.raw undef,.raw undef,.agg (arrAVs .u32 hinit 8),.ptr 1 0 1 0,.t false B5 a0,.t true B5 (M1 a0),.fn 168 [.ptr 3 0 1 0,.ptr 4 0 1 0]]++List.replicate 25 (.raw undef),
 [tB 158 true hinit,tB 176 true irounds,.box [.ptr 1 0 1 0],.box [.t true B5 (M1 a0)],.box [(ti (64:Int):AV)]],0,[]⟩
noncomputable def dK3 (e:Ex) (s:St):Option (Ex×St):=match e with
 | .normal=>execOps Try.prog tt SC B4e B4e.toList s fun s=>some (Ex.normal,s)
 | _=>none
noncomputable def dK2 (e:Ex) (s:St):Option (Ex×St):=match e with
 | .normal=>execC Try.prog tt S31 B2T aLn 0 dc2 s dK3
 | _=>none
noncomputable def dK1 (e:Ex) (s:St):Option (Ex×St):=match e with
 | .normal=>execC Try.prog tt S31 B2T aLn 0 dc1 s dK2
 | _=>none
theorem B8k (a0:List Int):execC Try.prog tt S31 B2T aLn 0 dc0 ⟨startSlots Try.f115 [.t false B5 a0],[],0,[]⟩ dK1=cond (V7 a0) (some (.normal,stR a0)) none:=by kernel_rfl

noncomputable def stB (c h k:List Int):St:=⟨[.junk,.junk,.junk,.ptr 0 0 1 0,.ptr 2 0 1 0,.t false B5 c]++List.replicate 33 .junk,[tB 158 true h,tB 176 true k,.box [.ptr 1 0 1 0]],3,[]⟩
noncomputable def C05 (c h k:List Int):St:=⟨[.junk,.junk,.junk,.ptr 0 0 1 0,.ptr 2 0 1 0,.t false B5 c]++List.replicate 9 .junk++[.t false B5 c,.ptr 1 0 1 0,.tup []]++List.replicate 21 .junk,[tB 158 true (D3 c h k).1,tB 176 true (D3 c h k).2,.box [.ptr 1 0 1 0]],3,[]⟩
theorem B6R (c h k:List Int):execOps Try.prog tt S31 drb drb.toList (stB c h k) (fun s=>some s)=cond (V8 c h k) (some (C05 c h k)) none:=by kernel_rfl

noncomputable def E1 (h:List Int):List Int:=h.flatMap fun x=>[IntKind.wrap .u8 (Int.fdiv x (2 ^ (24))),IntKind.wrap .u8 (Int.fdiv x (2 ^ (16))),IntKind.wrap .u8 (Int.fdiv x (2 ^ (8))),IntKind.wrap .u8 x]
noncomputable def A7S (h:List Int):ByteArray:=⟨((E1 h).map fun n=>UInt8.ofNat n.toNat).toArray⟩
noncomputable def B7y:Code:=match loopsIn 0 dc4 with
 | p::_=>p.2
 | _=>.skip
noncomputable def dL:Nat→St→Option Tree:=fun b=>match b with
 | 2=>fun st=>(iterD (fun s=>execC Try.prog tt S31 B2T aLn 2 B7y s (fun e s'=>some (e,s'))) (fun s=>s) 9 st).map fun p=>.leaf p.1 p.2
 | _=>fun _=>none
theorem C0k:∀ p∈loopsIn 0 dc4,aPL (dL p.1) p.2:=hl1 (i:=2) (c:=B7y) (by kernel_rfl) (LoopWp.iter G31 aLn (hl0 (L:=fun _ _=>none) (b:=2) (x:=B7y) (by kernel_rfl)) 9)
noncomputable def stT (h:List Int):St:=⟨[.junk,.junk,.junk,.ptr 0 0 1 0]++List.replicate 35 .junk,[tB 158 true h],1,[]⟩
noncomputable def dKT (e:Ex) (s:St):Option ByteArray:=match e with
 | .ret=>match s.slots with
  | _::_::.t true .str x::_=>some x
  | _=>none
 | _=>none
theorem B7D (x0 x1 x2 x3 x4 x5 x6 x7:Int):execC Try.prog tt S31 B2T dL 0 dc4 (stT [x0,x1,x2,x3,x4,x5,x6,x7]) dKT=some (A7S [x0,x1,x2,x3,x4,x5,x6,x7]):=by kernel_rfl
noncomputable def arrAt (W:World) (b:Nat) (E:TypeId) (l:List Int):Prop:=∃ c:Array Value,W.heap[b]? = some (.cells c E (0,0))∧l.length≤c.size∧0<c.size∧c.size≤maxLen∧∀ (i:Nat) (x:Int),l[i]? = some x→c[i]? = some (.int .u32 x)
theorem arrAt.lt {W:World} {b:Nat} {E:TypeId} {l:List Int} (h:arrAt W b E l):b<W.heap.size:=by
 obtain ⟨c,h1,_⟩:=h
 exact (Array.getElem?_eq_some_iff.1 h1).1
theorem arrAt.keep {W W':World} {b:Nat} {E:TypeId} {l:List Int} (h:arrAt W b E l) (hw:W'.heap[b]? = W.heap[b]?):arrAt W' b E l:=by
 obtain ⟨c,h1,h2⟩:=h
 exact ⟨c,hw.trans h1,h2⟩
theorem arrAt.of {N:Nat→Prop} {w0 W:World} {η:Env} {H:List AObj} (I:Inv N w0 η H W) {id:Nat} {E:TypeId} {fr:Bool} {l:List Int} (ho:H[id]? = some (.rows E fr (.int .u32) l)) (h0:0<l.length):arrAt W (η.ι id) E l:=by
 obtain ⟨hln,R⟩:=I.obj id _ ho
 rcases R with ⟨_,h⟩ | ⟨c,cap,g1,g2,g3,g4,g5,g6⟩
 ·rw [show l=[] from h] at h0;simp at h0
 ·have e:c.size=cap:=by simpa [Ty.cells] using g5
  refine ⟨c,g2,by omega,by omega,by omega,fun i x hx=>?_⟩
  have:=g6 i x hx
  simpa [Lay,Ty.cells] using this
theorem arrAt.obj {W:World} {b:Nat} {E:TypeId} {l:List Int} (h:arrAt W b E l):∃ cap:Nat,∀ (η:Env) (hh id:Nat),η.ι id=b→η.hv id=.slice (some ⟨b,0,none⟩) l.length cap→η.ln id=l.length→ObjR η hh W id (.rows E true (.int .u32) l):=by
 obtain ⟨c,h1,h2,h3,h4,h5⟩:=h
 refine ⟨c.size,fun η hh id e1 e2 e3=>⟨e3,.inr ⟨c,c.size,by rw [e1];exact e2,by rw [e1];exact h1,h2,⟨h3,h4⟩,by simp [Ty.cells],fun i x hx=>?_⟩⟩⟩
 show c[i*1+0]? = some (.int .u32 x)
 rw [Nat.mul_one];exact h5 i x hx
structure DI (w w1:World) (bh bk bx:Nat) (h:List Int) (W:World):Prop where
 fr:Fr (·<w.heap.size) w W
 sz:w1.heap.size≤W.heap.size
 old:∀ b c E f,b ≠ bh→b ≠ bk→b ≠ bx→w1.heap[b]? = some (.cells c E f)→W.heap[b]? = some (.cells c E f)
 ah:arrAt W bh 158 h
 ak:arrAt W bk 176 irounds
 px:∃ (c:Array Value) (E:TypeId),W.heap[bx]? = some (.cells c E (0,0))∧c.size=1∧c.getD 0 undef=.pointer (some ⟨bk,0,none⟩)

noncomputable def NB (W:World) (bh bk bx:Nat):Nat→Prop:=fun b=>b<W.heap.size∧b ≠ bh∧b ≠ bk∧b ≠ bx
theorem DI.inv {w w1 W:World} {bh bk bx:Nat} {h:List Int} (D:DI w w1 bh bk bx h W) (h8:h.length=8) (d1:bh ≠ bk) (d2:bh ≠ bx) (d3:bk ≠ bx) {bd:Nat} (z1:bd<W.heap.size) (z2:bd ≠ bh) (z3:bd ≠ bk) (z4:bd ≠ bx) :
  ∃ η:Env,η.ι 0=bh∧η.ι 1=bk∧η.ι 2=bx∧(∀ f b,η.Z f b↔f=false∧b=bd)∧η.ln 0=8∧η.ln 1=64∧η.ln 2=1∧Inv (NB W bh bk bx) W η [tB 158 true h,tB 176 true irounds,.box [.ptr 1 0 1 0]] W:=by
 obtain ⟨c1,o1⟩:=D.ah.obj
 obtain ⟨c2,o2⟩:=D.ak.obj
 obtain ⟨cx,Ex,x1,x2,x3⟩:=D.px
 refine ⟨{ ι:=fun i=>if i=0 then bh else if i=1 then bk else bx,hv:=fun i=>if i=0 then .slice (some ⟨bh,0,none⟩) h.length c1 else if i=1 then .slice (some ⟨bk,0,none⟩) irounds.length c2 else nilV,ln:=fun i=>if i=0 then 8 else if i=1 then 64 else 1,Z:=fun f b=>f=false∧b=bd,nv:=fun _ _ _=>nilV,O:=fun _=>none },rfl,rfl,rfl,fun f b=>Iff.rfl,rfl,rfl,rfl,?_⟩
 refine ⟨fun k hk=>hk.1,⟨rfl,rfl,rfl,Nat.le_refl _,fun _ _=>rfl⟩,fun f b hb=>by rw [hb.2];exact z1,fun b hb=>(by cases hb.1),fun b hb=>(by cases hb.1),fun id=>?_,fun id o ho=>?_,fun id o ho hm=>?_,fun i j y z hy hz my mz he=>?_,fun b k hk=>(by cases hk),fun _ _ _=>⟨none,0,0,rfl⟩⟩
 ·simp only []
  split
  ·exact ⟨_,_,_,rfl⟩
  ·split
   ·exact ⟨_,_,_,rfl⟩
   ·exact ⟨none,0,0,rfl⟩
 ·match id,ho with
  | 0,ho=>simp only [List.getElem?_cons_zero,Option.some.injEq] at ho;subst ho;exact o1 _ _ 0 rfl rfl (by simp [h8])
  | 1,ho=>simp only [List.getElem?_cons_succ,List.getElem?_cons_zero,Option.some.injEq] at ho;subst ho;exact o2 _ _ 1 rfl rfl rfl
  | 2,ho =>
   simp only [List.getElem?_cons_succ,List.getElem?_cons_zero,Option.some.injEq] at ho
   subst ho
   refine ⟨rfl,cx,Ex,x1,x2,fun j a hj=>?_⟩
   match j,hj with
   | 0,hj =>
    simp only [List.getElem?_cons_zero,Option.some.injEq] at hj
    subst hj
    rw [x3]
    exact ⟨.ptr (by simp) (by simp),rfl⟩
   | j+1,hj=>simp at hj
  | k+3,ho=>simp at ho
 ·match id,ho with
  | 0,ho=>exact ⟨fun hn=>hn.2.1 rfl,fun hz=>z2 hz.2.symm,D.ah.lt⟩
  | 1,ho=>exact ⟨fun hn=>hn.2.2.1 rfl,fun hz=>z3 hz.2.symm,D.ak.lt⟩
  | 2,ho=>exact ⟨fun hn=>hn.2.2.2 rfl,fun hz=>z4 hz.2.symm,(Array.getElem?_eq_some_iff.1 x1).1⟩
  | k+3,ho=>simp at ho
 ·match i,j,hy,hz with
  | 0,0,_,_=>rfl
  | 0,1,_,_=>exact absurd he d1
  | 0,2,_,_=>exact absurd he d2
  | 1,0,_,_=>exact absurd he.symm d1
  | 1,1,_,_=>rfl
  | 1,2,_,_=>exact absurd he d3
  | 2,0,_,_=>exact absurd he.symm d2
  | 2,1,_,_=>exact absurd he.symm d3
  | 2,2,_,_=>rfl
  | k+3,_,hy,_=>simp at hy
  | _,k+3,_,hz=>simp at hz
theorem DI.from {m:Nat} (w w1:World) (bh bk bx:Nat) (f:List (Fin m)→List Int) (hw:w.heap.size≤w1.heap.size) (l1:bh<w1.heap.size) (l2:bk<w1.heap.size) (l3:bx<w1.heap.size):OwnFrom w1.heap.size (fun pre W=>DI w w1 bh bk bx (f pre) W):=by
 intro s W W' row D hg hr
 have same:∀ b,b<w1.heap.size→W'.heap[b]? = W.heap[b]?:=fun b hb=>by
  refine hg.block b (Nat.lt_of_lt_of_le hb D.sz) (fun e=>?_)
  have:=(hr b e.symm).1
  omega
 refine ⟨⟨hg.os.trans D.fr.os,hg.tape.trans D.fr.tape,hg.output.trans D.fr.output,Nat.le_trans D.fr.size hg.size,fun k hk=>(same k (Nat.lt_of_lt_of_le hk hw)).trans (D.fr.block k hk)⟩,Nat.le_trans D.sz hg.size,fun b c E g h1 h2 h3 hb=>(same b (Array.getElem?_eq_some_iff.1 hb).1).trans (D.old b c E g h1 h2 h3 hb),D.ah.keep (same _ l1),D.ak.keep (same _ l2),?_⟩
 obtain ⟨c,E,x1,x2,x3⟩:=D.px
 exact ⟨c,E,(same _ l3).trans x1,x2,x3⟩
theorem B4J {N:Nat→Prop} {w0 W:World} {η:Env} {H:List AObj} (I:Inv N w0 η H W) {id:Nat} {E:TypeId} {fr:Bool} {e:Ty} {l:List e.den} (ho:H[id]? = some (.rows E fr e l)) (h0:0<l.length):(AObj.rows E fr e l).mat η id:=by
 obtain ⟨hln,R⟩:=I.obj id _ ho
 rcases R with ⟨_,h⟩ | ⟨c,cap,g1,g2,g3,g4,g5,g6⟩
 ·rw [h] at h0;simp at h0
 ·exact not_nul g1 g4.1
theorem B8Y {N:Nat→Prop} {w0 W:World} {η:Env} {H:List AObj} (I:Inv N w0 η H W) {id:Nat} (ho:H[id]? = some (.box [.ptr 1 0 1 0])) {bk:Nat} (hk:η.ι 1=bk):∃ (c:Array Value) (E:TypeId),W.heap[η.ι id]? = some (.cells c E (0,0))∧c.size=1∧c.getD 0 undef=.pointer (some ⟨bk,0,none⟩):=by
 obtain ⟨_,c,E,g1,g2,g3⟩:=I.obj id _ ho
 refine ⟨c,E,g1,g2,?_⟩
 have h:=(g3 0 _ rfl).1
 generalize c.getD 0 undef=v at h
 cases h with
 | ptr hid hr=>rw [hk]
theorem B8a {c h k:List Int} {i:Nat} {x:AV} (hx:(stB c h k).slots[i]? = some x):(i=3∧x=.ptr 0 0 1 0)∨(i=4∧x=.ptr 2 0 1 0)∨(i=5∧x=.t false B5 c)∨x=.junk:=by
 match i,hx with
 | 0,hx=>simp only [stB,List.cons_append,List.getElem?_cons_zero,Option.some.injEq] at hx;exact .inr (.inr (.inr hx.symm))
 | 1,hx=>simp only [stB,List.cons_append,List.getElem?_cons_succ,List.getElem?_cons_zero,Option.some.injEq] at hx;exact .inr (.inr (.inr hx.symm))
 | 2,hx=>simp only [stB,List.cons_append,List.getElem?_cons_succ,List.getElem?_cons_zero,Option.some.injEq] at hx;exact .inr (.inr (.inr hx.symm))
 | 3,hx=>simp only [stB,List.cons_append,List.getElem?_cons_succ,List.getElem?_cons_zero,Option.some.injEq] at hx;exact .inl ⟨rfl,hx.symm⟩
 | 4,hx=>simp only [stB,List.cons_append,List.getElem?_cons_succ,List.getElem?_cons_zero,Option.some.injEq] at hx;exact .inr (.inl ⟨rfl,hx.symm⟩)
 | 5,hx=>simp only [stB,List.cons_append,List.getElem?_cons_succ,List.getElem?_cons_zero,Option.some.injEq] at hx;exact .inr (.inr (.inl ⟨rfl,hx.symm⟩))
 | i+6,hx =>
  simp only [stB,List.cons_append,List.getElem?_cons_succ,List.nil_append] at hx
  exact .inr (.inr (.inr (List.eq_of_mem_replicate (List.mem_of_getElem? hx))))
theorem B77 {w w1 W:World} {bh bk bx bd:Nat} {h:List Int} (D:DI w w1 bh bk bx h W) (h8:h.length=8) (d1:bh ≠ bk) (d2:bh ≠ bx) (d3:bk ≠ bx) (z1:bd<W.heap.size) (z2:bd ≠ bh) (z3:bd ≠ bk) (z4:bd ≠ bx)
  (g1:w.heap.size≤bh) (g2:w.heap.size≤bk) (g3:w.heap.size≤bx) (n l:Nat) {a1:Act} (a2:a1.tmps.size=39) (a3:a1.tmps.getD 3 undef=.pointer (some ⟨bh,0,none⟩)) (a4:a1.tmps.getD 4 undef=.pointer (some ⟨bx,0,none⟩)) (a5:a1.defers=[])
  {c:List Int} (hc:c.length=64) (hl:Lay (fun b=>b=bd) W B5 c (fun j=>if j=0 then some (a1.tmps.getD 5 undef) else none)) {Q:Exit→Act→World→Prop}
  (hQ:∀ a' W', KeepsOthers W W'→(∀ b,b<W.heap.size→b ≠ bh→b ≠ bk→b ≠ bx→W'.heap[b]? = W.heap[b]?)→DI w w1 bh bk bx (D3 c h irounds).1 W'→Q .normal a' W') :
  (Code.block 1 (.region 5 drb false)).wpIn (Fence.wide.inRound l) n Try.prog Q a1 W:=by
 obtain ⟨η,e0,e1,e2,hZ,n0,n1,n2,I⟩:=D.inv h8 d1 d2 d3 z1 z2 z3 z4
 obtain ⟨q,t8,tk⟩:=B0M c h hc h8
 refine wpIn_block (wpIn_region_list ?_)
 have s:SR (NB W bh bk bx) W η 3 W η (stB c h irounds) a1 W:=by
  refine ⟨I,Ext.refl,⟨by rw [a2];simp [stB],fun i x hx=>?_,a5⟩,rfl⟩
  rcases B8a hx with ⟨rfl,rfl⟩ | ⟨rfl,rfl⟩ | ⟨rfl,rfl⟩ | rfl
  ·rw [a3,← e0];exact .ptr (η:=η) (row:=0) (sz:=1) (sub:=0) (by simp [stB]) (by rw [n0];decide)
  ·rw [a4,← e2];exact .ptr (η:=η) (row:=0) (sz:=1) (sub:=0) (by simp [stB]) (by rw [n2];decide)
  ·refine .t rfl (Lay.mono (fun b hb=>(hZ _ _).2 ⟨rfl,hb⟩) (fun _ _=>rfl) _ _ _ hl)
  ·exact .junk _
 have hrun:=(B6R c h irounds).trans (by rw [q];rfl:_=some (C05 c h irounds))
 have key:=execOps_in (Q:=Exit.inBlock 1 Q) (F:=Fence.wide.inRound l) (n:=n) G31.types G31.tab (.inr ⟨l,rfl⟩) drb [] drb.toList (stB c h irounds) (fun s=>some s) η a1 W s (by kernel_rfl) hrun (fun st' η' a' W' hk s'=>?_)
 ·rwa [List.append_nil] at key
 ·simp only [Option.some.injEq] at hk
  subst hk
  show Q .normal a' W'
  have nm:∀ id,id<3→η'.ι id=η.ι id:=fun id hid=>(s'.ext.nm id hid rfl).2.1
  have I':=s'.inv
  have other:∀ b,b<W.heap.size→b ≠ bh→b ≠ bk→b ≠ bx→W'.heap[b]? = W.heap[b]?:=fun b h1 h2 h3 h4=>I'.fr.block b ⟨h1,h2,h3,h4⟩
  have ah:=arrAt.of I' (id:=0) (E:=158) (fr:=true) (l:=(D3 c h irounds).1) rfl (by rw [t8];decide)
  have ak:=arrAt.of I' (id:=1) (E:=176) (fr:=true) (l:=(D3 c h irounds).2) rfl (by rw [tk];decide)
  have px:=B8Y I' (id:=2) rfl (bk:=bk) (by rw [nm 1 (by decide),e1])
  rw [nm 0 (by decide),e0] at ah
  rw [nm 1 (by decide),e1,tk] at ak
  rw [nm 2 (by decide),e2] at px
  refine hQ a' W' ⟨I'.fr.size,fun k o hk ho=>?_⟩ other ⟨⟨I'.fr.os.trans D.fr.os,I'.fr.tape.trans D.fr.tape,I'.fr.output.trans D.fr.output,Nat.le_trans D.fr.size I'.fr.size,fun k hk=>?_⟩,Nat.le_trans D.sz I'.fr.size,fun b cc E f h1 h2 h3 hb=>?_,ah,ak,px⟩
  ·have hlt:=(Array.getElem?_eq_some_iff.1 hk).1
   obtain ⟨c1,x1,_⟩:=D.ah
   obtain ⟨c2,x2,_⟩:=D.ak
   obtain ⟨c3,E3,x3,_⟩:=D.px
   refine (other k hlt ?_ ?_ ?_).trans hk
   ·rintro rfl;rw [x1] at hk;cases hk;cases ho
   ·rintro rfl;rw [x2] at hk;cases hk;cases ho
   ·rintro rfl;rw [x3] at hk;cases hk;cases ho
  ·have:=D.fr.size
   exact (other k (by omega) (by omega) (by omega) (by omega)).trans (D.fr.block k hk)
  ·have h0:=D.old b cc E f h1 h2 h3 hb
   exact (other b (Array.getElem?_eq_some_iff.1 h0).1 h1 h2 h3).trans h0
theorem B9m {vs:Array Value} {x y:Value} (hs:vs.size=2) (h0:vs.getD 0 undef=x) (h1:vs.getD 1 undef=y):vs=#[x,y]:=by
 apply Array.ext
 ·simp [hs]
 ·intro i h2 h3
  match i,h2 with
  | 0,h2=>rw [← h0];simp [Array.getD,hs]
  | 1,h2=>rw [← h1];simp [Array.getD,hs]
  | k+2,h2=>omega
noncomputable def B6P (p:List Int):List Int:=(List.range (p.length / 64)).foldl (fun h i=>(D3 ((p.drop (64*i)).take 64) h irounds).1) hinit
noncomputable def C6 (a0:List Int):ByteArray:=A7S (B6P (M1 a0))
noncomputable def H5 (a0:List Int):Bool:=let z1:=M1 a0;V7 a0&&(decide (z1.length % 64=0)&&(decide (0<z1.length)&&decide (z1.length≤64000000000000)))
abbrev A6z:List PSh:=[.t B5]
noncomputable abbrev B2E:pshsDen A6z→AV×List AObj:=fun d=>(.t true .str (C6 d.1),[])
noncomputable abbrev B0h:pshsDen A6z→Bool:=fun d=>H5 d.1
noncomputable def B4c (p:List Int) {m:Nat} (pre:List (Fin m)):List Int:=pre.foldl (fun h x=>(D3 ((p.drop (64*x.1)).take 64) h irounds).1) hinit
theorem A6G {p:List Int} {m:Nat} (hm:64*m=p.length) (x:Fin m):((p.drop (64*x.1)).take 64).length=64:=by
 have:=x.2
 simp only [List.length_take,List.length_drop]
 omega
theorem B0U {p:List Int} {m:Nat} (hm:64*m=p.length):∀ (pre:List (Fin m)) (h:List Int),h.length=8→(pre.foldl (fun h (x:Fin m)=>(D3 ((p.drop (64*x.1)).take 64) h irounds).1) h).length=8
 | [],h,h8=>h8
 | x::pre,h,h8=>B0U hm pre _ (B0M _ _ (A6G hm x) h8).2.1
theorem B6Q (p:List Int) {m:Nat} (pre:List (Fin m)) (x:Fin m):B4c p (pre++[x])=(D3 ((p.drop (64*x.1)).take 64) (B4c p pre) irounds).1:=by simp [B4c]
theorem B7A (p:List Int) {m:Nat} (hm:m=p.length / 64):B4c p (cupto m (Nat.le_refl _))=B6P p:=by
 have e:(cupto m (Nat.le_refl _)).map (fun x:Fin m=>x.1)=List.range m:=by simp [cupto]
 have:=List.foldl_map (f:=fun x:Fin m=>x.1) (g:=fun h i=>(D3 ((p.drop (64*i)).take 64) h irounds).1) (l:=cupto m (Nat.le_refl _)) (init:=hinit)
 rw [e] at this
 rw [B4c,← this,B6P,hm]
theorem B8b {h:List Int} {i:Nat} {x:AV} (hx:(stT h).slots[i]? = some x):(i=3∧x=.ptr 0 0 1 0)∨x=.junk:=by
 match i,hx with
 | 0,hx=>simp only [stT,List.cons_append,List.getElem?_cons_zero,Option.some.injEq] at hx;exact .inr hx.symm
 | 1,hx=>simp only [stT,List.cons_append,List.getElem?_cons_succ,List.getElem?_cons_zero,Option.some.injEq] at hx;exact .inr hx.symm
 | 2,hx=>simp only [stT,List.cons_append,List.getElem?_cons_succ,List.getElem?_cons_zero,Option.some.injEq] at hx;exact .inr hx.symm
 | 3,hx=>simp only [stT,List.cons_append,List.getElem?_cons_succ,List.getElem?_cons_zero,Option.some.injEq] at hx;exact .inl ⟨rfl,hx.symm⟩
 | i+4,hx =>
  simp only [stT,List.cons_append,List.getElem?_cons_succ,List.nil_append] at hx
  exact .inr (List.eq_of_mem_replicate (List.mem_of_getElem? hx))
theorem B8G {w w1 W:World} {bh bk bx D:Nat} {h:List Int} (I0:DI w w1 bh bk bx h W) (h8:h.length=8) (g1:w.heap.size≤bh) (hD:w1.heap.size≤D) (hw:w.heap.size≤w1.heap.size) (hDb:D ≠ bh) (hd:W.heap[D]? = some (.deferred (some []))) {a:Act} (a2:a.tmps.size=39) (a3:a.tmps.getD 3 undef=.pointer (some ⟨bh,0,none⟩))
  {R:Ending→World→Prop} (hR:∀ W', (W'.os=w.os∧W'.tape=w.tape∧W'.output=w.output∧w.heap.size≤W'.heap.size∧∀ k,k<w.heap.size→W'.heap[k]? = w.heap[k]?)→R (.returned (.string (A7S h))) W') (n:Nat) :
  dc4.wpIn Fence.wide n Try.prog (bodyPostM Fence.wide n Try.prog Try.f115 R) { a with defers:=[{ target:=.collected D,args:=#[] }] } W:=by
 obtain ⟨c1,o1⟩:=I0.ah.obj
 have hDl:D<W.heap.size:=(Array.getElem?_eq_some_iff.1 hd).1
 let η:Env:={ ι:=fun _=>bh,hv:=fun i=>if i=0 then .slice (some ⟨bh,0,none⟩) h.length c1 else nilV,ln:=fun _=>h.length,Z:=fun _ _=>False,nv:=fun _ _ _=>nilV,O:=fun _=>none }
 letI:DF:=⟨[{ target:=.collected D,args:=#[] }]⟩
 have I:Inv (fun b=>b<w.heap.size∨b=D) W η [tB 158 true h] W:=by
  refine ⟨fun k hk=>?_,⟨rfl,rfl,rfl,Nat.le_refl _,fun _ _=>rfl⟩,fun _ _ hb=>hb.elim,fun _ hb=>hb.elim,fun _ hb=>hb.elim,fun id=>?_,fun id o ho=>?_,fun id o ho hm=>?_,fun i j y z hy hz my mz he=>?_,fun b k hk=>(by cases hk),fun _ _ _=>⟨none,0,0,rfl⟩⟩
  ·rcases hk with hk | hk
   ·exact Nat.lt_of_lt_of_le hk I0.fr.size
   ·rw [hk];exact hDl
  ·show ∃ A n c,(if id=0 then _ else _)=_
   split
   ·exact ⟨_,_,_,rfl⟩
   ·exact ⟨none,0,0,rfl⟩
  ·match id,ho with
   | 0,ho=>simp only [List.getElem?_cons_zero,Option.some.injEq] at ho;subst ho;exact o1 η _ 0 rfl rfl rfl
   | k+1,ho=>simp at ho
  ·match id,ho with
   | 0,ho=>exact ⟨fun hn=>hn.elim (fun h=>by have:bh<w.heap.size:=h;omega) (fun h=>hDb h.symm),fun hz=>hz.elim,I0.ah.lt⟩
   | k+1,ho=>simp at ho
  ·match i,j,hy,hz with
   | 0,0,_,_=>rfl
   | k+1,_,hy,_=>simp at hy
   | _,k+1,_,hz=>simp at hz
 have s:SR (fun b=>b<w.heap.size∨b=D) W η 1 W η (stT h) { a with defers:=[{ target:=.collected D,args:=#[] }] } W:=by
  refine ⟨I,Ext.refl,⟨by rw [a2];simp [stT],fun i x hx=>?_,rfl⟩,rfl⟩
  rcases B8b hx with ⟨rfl,rfl⟩ | rfl
  ·rw [a3];exact .ptr (η:=η) (row:=0) (sz:=1) (sub:=0) (by simp [stT]) (by show 0<h.length;omega)
  ·exact .junk _
 have hrun:execC Try.prog tt S31 B2T dL 0 dc4 (stT h) dKT=some (A7S h):=by
  match h,h8 with
  | [x0,x1,x2,x3,x4,x5,x6,x7],_=>exact B7D x0 x1 x2 x3 x4 x5 x6 x7
 refine wpIn_wide.2 (execC_sound G31 dL dc4 0 (stT h) dKT _ η _ W C0k hrun (fun e st' η' a' W' hk s'=>?_) s)
 cases e with
 | normal=>simp [dKT] at hk
 | exit id=>simp [dKT] at hk
 | ret =>
  have hsl:∃ u v f r,st'.slots=u::v::.t f .str (A7S h)::r:=by
   simp only [dKT] at hk
   split at hk
   ·rename_i u v x r e
    simp only [Option.some.injEq] at hk
    exact ⟨u,v,true,r,by rw [e,hk]⟩
   ·cases hk
  obtain ⟨u,v,f,r,hsl⟩:=hsl
  have h2:=s'.sl.slot 2 _ (by rw [hsl];rfl)
  have hv:a'.tmps.getD 2 undef=.string (A7S h):=by
   generalize a'.tmps.getD 2 undef=y at h2
   cases h2 with
   | t _ hl=>simpa [Lay] using hl
  have hdd:W'.heap[D]? = some (.deferred (some [])):=(s'.inv.fr.block D (.inr rfl)).trans hd
  show LeavesInM Fence.wide n Try.prog Try.f115 a'.tmps R a'.defers .returning W'
  rw [show a'.defers=[{ target:=.collected D,args:=#[] }] from s'.sl.defers]
  refine ⟨by simp,.inl ⟨D,_,rfl,run_takeDeferred hdd,?_⟩⟩
  refine ⟨.string (A7S h),?_,hR _ ⟨?_,?_,?_,?_,fun k hk=>?_⟩⟩
  ·rw [results_tmp (t:=2) (by kernel_rfl) a'.tmps Try.prog _];exact congrArg (fun v=>Result.ok v _) hv
  ·exact s'.inv.fr.os.trans I0.fr.os
  ·exact s'.inv.fr.tape.trans I0.fr.tape
  ·exact s'.inv.fr.output.trans I0.fr.output
  ·have:=s'.inv.fr.size;have:=I0.fr.size;simp;omega
  ·have hne:k ≠ D:=by omega
   rw [World.putObj_heap_other hne]
   exact (s'.inv.fr.block k (.inl hk)).trans (I0.fr.block k hk)
theorem B76 {η:Env} {h:Nat} {w:World} {i:Nat} {v:Value} (r:AVR η h w (.ptr i 0 1 0) v):v=.pointer (some ⟨η.ι i,0,none⟩):=by
 cases r with
 | ptr hid hrr=>rfl
theorem B85 {η:Env} {h:Nat} {w:World} {f:FuncId} {i j:Nat} {v:Value} (r:AVR η h w (.fn f [.ptr i 0 1 0,.ptr j 0 1 0]) v):v=.func (.func f) #[] #[.pointer (some ⟨η.ι i,0,none⟩),.pointer (some ⟨η.ι j,0,none⟩)]:=by
 cases r with
 | fn hsz hcs =>
  rw [B9m hsz (B76 (hcs 0 _ rfl)) (B76 (hcs 1 _ rfl))]
theorem B8Z:∃ o,dasg.toList=[o]∧o.op=.assign (.tmp 14)∧o.dst=some 5∧o.guard=none:=by
 have h0:dasg.toList.length=1:=by kernel_rfl
 have h1:dasg.toList.map (fun o=>o.op)=[.assign (.tmp 14)]:=by kernel_rfl
 have h2:dasg.toList.map (fun o=>o.dst)=[some 5]:=by kernel_rfl
 have h3:dasg.toList.map (fun o=>o.guard)=[none]:=by kernel_rfl
 obtain ⟨o,e⟩:=List.length_eq_one_iff.1 h0
 rw [e] at h1 h2 h3
 exact ⟨o,e,by simpa using h1,by simpa using h2,by simpa using h3⟩
theorem A9i {a:Array Value} {i j:Nat} {v:Value} (h:i ≠ j):(a.setIfInBounds i v).getD j undef=a.getD j undef:=by
 simp only [Array.getD_eq_getD_getElem?,Array.getElem?_setIfInBounds,if_neg h]
theorem A7K {a:Array Value} {i:Nat} {v:Value} (h:i<a.size):(a.setIfInBounds i v).getD i undef=v:=by
 simp [Array.getD_eq_getD_getElem?,Array.getElem?_setIfInBounds,h]
theorem B6v:aPP 115 (sumOf A6z B0h B2E):=by
 refine PContract.of_calls _ _ _ (fun d hd w vs hl hr=>?_)
 obtain ⟨a0,_⟩:=d
 have hq:H5 a0=true:=hd
 simp only [H5,Bool.and_eq_true,decide_eq_true_eq] at hq
 obtain ⟨qp,qm,q0,ql⟩:=hq
 obtain ⟨p,hp⟩:∃ p,p=M1 a0:=⟨_,rfl⟩
 obtain ⟨m,hm⟩:∃ m,m=p.length / 64:=⟨_,rfl⟩
 have hm64:64*m=p.length:=by rw [← hp] at qm;omega
 show Calls Try.prog 115 vs w fun e w'=>∃ v η', e=.returned v∧Inv (·<w.heap.size) w η' [] w'∧AVR η' 0 w' (.t true .str (C6 a0)) v
 refine callsIn_wide.1 (callsIn_of_wp_marks (n:=5) (F:=Fence.wide) (fn:=Try.f115) (by kernel_rfl) B7B trivial ?_)
 have s0:=SR.start (Inv.empty w) hl hr Try.f115
 have hrun:=(B8k a0).trans (by rw [qp];rfl:_=some (Ex.normal,stR a0))
 refine wpIn_seq (wpIn_wide.2 (execC_sound G31 aLn dc0 0 _ dK1 _ _ _ w (hl0 (L:=fun _ _=>none) (b:=0) (x:=dc0) (by kernel_rfl)) hrun (fun e st1 η1 a1 w1 hk s1=>?_) s0))
 cases e with
 | exit id=>cases hk
 | ret=>cases hk
 | normal =>
 refine wpIn_seq (wpIn_wide.2 (execC_sound G31 aLn dc1 0 _ dK2 _ _ _ w1 (hl0 (L:=fun _ _=>none) (b:=0) (x:=dc1) (by kernel_rfl)) hk (fun e st2 η2 a2 w2 hk s2=>?_) s1))
 cases e with
 | exit id=>cases hk
 | ret=>cases hk
 | normal =>
 refine wpIn_seq (wpIn_wide.2 (execC_sound G31 aLn dc2 0 _ dK3 _ _ _ w2 (hl0 (L:=fun _ _=>none) (b:=0) (x:=dc2) (by kernel_rfl)) hk (fun e st3 η3 a3 w3 hk s3=>?_) s2))
 cases e with
 | exit id=>cases hk
 | ret=>cases hk
 | normal =>
 refine wpIn_seq (wpIn_seq (wpIn_wide.2 (wp_region_list (execOps_sound G31.types C0c B4e B4e.toList _ _ _ _ w3 s3 hk (fun st4 η aR W1 hk sR=>?_)))))
 obtain rfl:stR a0=st4:=by simpa using hk.symm
 clear hk s1 s2 s3
 have I1:=sR.inv
 -- the objects
 obtain ⟨bh,ebh⟩:∃ bh,bh=η.ι 0:=⟨_,rfl⟩
 obtain ⟨bk,ebk⟩:∃ bk,bk=η.ι 1:=⟨_,rfl⟩
 obtain ⟨bx,ebx⟩:∃ bx,bx=η.ι 2:=⟨_,rfl⟩
 obtain ⟨Bs,eBs⟩:∃ bs,bs=η.ι 3:=⟨_,rfl⟩
 obtain ⟨Bn,eBn⟩:∃ bn,bn=η.ι 4:=⟨_,rfl⟩
 have h0':(stR a0).heap[0]? = some (.rows 158 true (.int .u32) hinit):=rfl
 have h1':(stR a0).heap[1]? = some (.rows 176 true (.int .u32) irounds):=rfl
 have h2':(stR a0).heap[2]? = some (.box [.ptr 1 0 1 0]):=rfl
 have h3':(stR a0).heap[3]? = some (.box [.t true B5 (M1 a0)]):=rfl
 have h4':(stR a0).heap[4]? = some (.box [(ti (64:Int):AV)]):=rfl
 have m0:=B4J I1 h0' (by decide)
 have m1:=B4J I1 h1' (by decide)
 have d1:bh ≠ bk:=fun e=>absurd (I1.inj 0 1 _ _ h0' h1' m0 m1 (ebh ▸ ebk ▸ e)) (by decide)
 have d2:bh ≠ bx:=fun e=>absurd (I1.inj 0 2 _ _ h0' h2' m0 trivial (ebh ▸ ebx ▸ e)) (by decide)
 have d3:bk ≠ bx:=fun e=>absurd (I1.inj 1 2 _ _ h1' h2' m1 trivial (ebk ▸ ebx ▸ e)) (by decide)
 have s0':Bs ≠ bh:=fun e=>absurd (I1.inj 3 0 _ _ h3' h0' trivial m0 (eBs ▸ ebh ▸ e)) (by decide)
 have s1':Bs ≠ bk:=fun e=>absurd (I1.inj 3 1 _ _ h3' h1' trivial m1 (eBs ▸ ebk ▸ e)) (by decide)
 have s2':Bs ≠ bx:=fun e=>absurd (I1.inj 3 2 _ _ h3' h2' trivial trivial (eBs ▸ ebx ▸ e)) (by decide)
 have n0':Bn ≠ bh:=fun e=>absurd (I1.inj 4 0 _ _ h4' h0' trivial m0 (eBn ▸ ebh ▸ e)) (by decide)
 have n1':Bn ≠ bk:=fun e=>absurd (I1.inj 4 1 _ _ h4' h1' trivial m1 (eBn ▸ ebk ▸ e)) (by decide)
 have n2':Bn ≠ bx:=fun e=>absurd (I1.inj 4 2 _ _ h4' h2' trivial trivial (eBn ▸ ebx ▸ e)) (by decide)
 obtain ⟨o0a,o0b,l0⟩:=I1.own 0 _ h0' m0
 obtain ⟨o1a,o1b,l1⟩:=I1.own 1 _ h1' m1
 obtain ⟨o2a,o2b,l2⟩:=I1.own 2 _ h2' trivial
 obtain ⟨o3a,o3b,l3⟩:=I1.own 3 _ h3' trivial
 obtain ⟨o4a,o4b,l4⟩:=I1.own 4 _ h4' trivial
 rw [← ebh] at o0a o0b l0
 rw [← ebk] at o1a o1b l1
 rw [← ebx] at o2a o2b l2
 rw [← eBs] at o3a o3b l3
 rw [← eBn] at o4a o4b l4
 have g0:w.heap.size≤bh:=Nat.not_lt.1 o0a
 have g1:w.heap.size≤bk:=Nat.not_lt.1 o1a
 have g2:w.heap.size≤bx:=Nat.not_lt.1 o2a
 have hww:w.heap.size≤W1.heap.size:=I1.fr.size
 -- the slots
 have t3:aR.tmps.getD 3 undef=.pointer (some ⟨bh,0,none⟩):=by
  have h:=sR.sl.slot 3 (.ptr 0 0 1 0) rfl
  generalize aR.tmps.getD 3 undef=v at h
  cases h with
  | ptr hid hrr=>rw [ebh]
 have t4:aR.tmps.getD 4 undef=.pointer (some ⟨bx,0,none⟩):=by
  have h:=sR.sl.slot 4 (.ptr 2 0 1 0) rfl
  generalize aR.tmps.getD 4 undef=v at h
  cases h with
  | ptr hid hrr=>rw [ebx]
 have t13:aR.tmps.getD 13 undef=.func (.func 168) #[] #[.pointer (some ⟨Bs,0,none⟩),.pointer (some ⟨Bn,0,none⟩)]:=by
  rw [eBs,eBn]
  exact B85 (sR.sl.slot 13 (.fn 168 [.ptr 3 0 1 0,.ptr 4 0 1 0]) rfl)
 have tsz:aR.tmps.size=39:=by rw [sR.sl.size];rfl
 -- the padded bytes
 obtain ⟨_,c3,E3,g3,z3,x3⟩:=I1.obj 3 _ h3'
 obtain ⟨_,c4,E4,g4,z4,x4⟩:=I1.obj 4 _ h4'
 rw [← eBs] at g3
 rw [← eBn] at g4
 have y3:=(x3 0 _ rfl).1
 have y4:=(x4 0 _ rfl).1
 have v4:c4.getD 0 undef=.int .i64 64:=int_rel y4
 obtain ⟨ad,cap,v3,hcap,hzt,hcell⟩:∃ (ad:Addr) (cap:Nat),c3.getD 0 undef=.slice (some ad) (64*m) cap∧64*m≤cap∧η.Z true ad.block∧∀ (i:Nat) (x:Int),p[i]? = some x→W1.cell? (ad.add i)=some (.int .u8 x):=by
  rw [← hp] at y3
  generalize c3.getD 0 undef=v at y3
  cases y3 with
  | t _ hlay =>
   obtain ⟨A,cap,e1,e2,e3⟩:=hlay
   simp only [if_true,Option.some.injEq] at e1
   rcases e3 with rfl | ⟨ad,rfl,hz,hcs⟩
   ·rw [← hp] at q0;simp at q0
   ·refine ⟨ad,cap,by rw [e1,hm64],by rw [hm64];exact e2,hz,fun i x hx=>?_⟩
    have h:=hcs i x hx
    simp only [Lay,Ty.cells,Nat.mul_one,Nat.add_zero] at h
    exact h
 have hzf:η.Z false ad.block:=I1.zsub _ hzt
 have b0:ad.block ≠ bh:=fun e=>o0b (e ▸ hzf)
 have b1:ad.block ≠ bk:=fun e=>o1b (e ▸ hzf)
 have b2:ad.block ≠ bx:=fun e=>o2b (e ▸ hzf)
 have bl:ad.block<W1.heap.size:=I1.zlt _ _ hzf
 obtain ⟨cd,Ed,fd,gd⟩:∃ cd Ed fd,W1.heap[ad.block]? = some (.cells cd Ed fd):=by
  obtain ⟨x,hx⟩:∃ x,p[0]? = some x:=by cases p with
   | nil=>rw [← hp] at q0;simp at q0
   | cons x _=>exact ⟨x,rfl⟩
  have h:=hcell 0 x hx
  obtain ⟨o,ho,hc⟩:=cells_of_cell h
  rw [addr_block] at ho
  cases o with
  | cells a b c=>exact ⟨a,b,c,ho⟩
  | _=>cases hc
 have cs:W1.cell? ⟨Bs,0,none⟩=some (.slice (some ad) (64*m) cap):=by rw [cell_block g3,← v3];exact getElem?_getD (by rw [z3];simp)
 have cn:W1.cell? ⟨Bn,0,none⟩=some (.int .i64 64):=by rw [cell_block g4,← v4];exact getElem?_getD (by rw [z4];simp)
 have D0:DI w W1 bh bk bx hinit W1:=by
  refine ⟨I1.fr,Nat.le_refl _,fun _ _ _ _ _ _ _ h=>h,?_,?_,?_⟩
  ·rw [ebh];exact arrAt.of I1 h0' (by decide)
  ·rw [ebk];exact arrAt.of I1 h1' (by decide)
  ·rw [ebx];exact B8Y I1 h2' ebk.symm
 refine wpIn_block (wpIn_rangeFunc_ownF (F:=Fence.wide) (n:=5) rfl (by decide) (gf:=168) (lb:=#[.pointer (some ⟨Bs,0,none⟩),.pointer (some ⟨Bn,0,none⟩)]) t13 trivial (enters_of Try.func168 (by kernel_rfl) rfl)
  (B4b 4 (by decide) Bs Bn m cap ad hcap (by rw [← hp] at ql;omega) W1 cs cn l3 l4) (fun h k=>⟨k.1.trans h.1,k.2.trans h.2⟩) (fun W l o o' hwl ho hc _=>?_) (Below.refl _ _) (fun _=>rfl)
  (fun pre W=>DI w W1 bh bk bx (B4c p pre) W) (fun _ _ _=>False) (DI.from w W1 bh bk bx (B4c p) hww l0 l1 l2) (fun _ _ _ _ _ h=>h.elim) D0
  (fun x=>{ tmps:=(aR.tmps.setIfInBounds 14 (.slice (some (ad.add (64*x.1))) 64 64)).setIfInBounds 5 (.slice (some (ad.add (64*x.1))) 64 64),defers:=[] })
  (fun l x W K hK=>?_) (fun l pre x W D hlen=>?_) (fun Dd xs W hD hS D hdd=>?_) (fun _ _ _ _ _ _ h _=>h.elim))
 ·have k1:Bs ≠ l:=by omega
  have k2:Bn ≠ l:=by omega
  exact ⟨World.cell?_of_block (World.putObj_heap_other k1),World.cell?_of_block (World.putObj_heap_other k2)⟩
 ·obtain ⟨o,e,e1,e2,e3⟩:=B8Z
  have ez:((#[14]:Array Tmp).zip #[Value.slice (some (ad.add (64*x.1))) 64 64]).foldl (fun t (p,v)=>t.setIfInBounds p v) aR.tmps=aR.tmps.setIfInBounds 14 (.slice (some (ad.add (64*x.1))) 64 64):=by simp
  refine wpIn_region_list ?_
  rw [e,ez]
  have ev:(aR.tmps.setIfInBounds 14 (Value.slice (some (ad.add (64*x.1))) 64 64)).getD 14 undef=.slice (some (ad.add (64*x.1))) 64 64:=A7K (by rw [tsz];decide)
  refine wpListIn_plain e3 (fun Kc hKc=>wp_in (.inr ⟨l,rfl⟩) (by simp [notDefer,e1]) (wp_value (w':=W) (x:=.slice (some (ad.add (64*x.1))) 64 64) (by simp only [execOp,e1,Act.eval,ev];rfl) (hKc _ _ ?_)))
  rw [e2]
  exact hK
 ·refine B77 D (B0U hm64 pre hinit rfl) d1 d2 d3 (bd:=ad.block) (Nat.lt_of_lt_of_le bl D.sz) b0 b1 b2 g0 g1 g2 _ l (c:=(p.drop (64*x.1)).take 64) ?_ ?_ ?_ rfl (A6G hm64 x) ?_ (fun a' W' ko oth DI'=>⟨ko,⟨?_,?_⟩,?_⟩)
  ·show ((aR.tmps.setIfInBounds 14 _).setIfInBounds 5 _).size=39
   simp [tsz]
  ·show ((aR.tmps.setIfInBounds 14 _).setIfInBounds 5 _).getD 3 undef=_
   rw [A9i (by decide),A9i (by decide)];exact t3
  ·show ((aR.tmps.setIfInBounds 14 _).setIfInBounds 5 _).getD 4 undef=_
   rw [A9i (by decide),A9i (by decide)];exact t4
  ·have e5:((aR.tmps.setIfInBounds 14 (Value.slice (some (ad.add (64*x.1))) 64 64)).setIfInBounds 5 (Value.slice (some (ad.add (64*x.1))) 64 64)).getD 5 undef=.slice (some (ad.add (64*x.1))) 64 64:=A7K (by rw [Array.size_setIfInBounds,tsz];decide)
   refine ⟨some (ad.add (64*x.1)),64,?_,by rw [A6G hm64 x];exact Nat.le_refl _,.inr ⟨_,rfl,addr_block _ _,fun i y hy=>?_⟩⟩
   ·rw [A6G hm64 x]
    exact congrArg some e5
   ·rw [List.getElem?_take] at hy
    split at hy
    ·rw [List.getElem?_drop] at hy
     have h1:=hcell _ y hy
     have h2:W.cell? (ad.add (64*x.1+i))=W1.cell? (ad.add (64*x.1+i)):=World.cell?_of_block (by rw [addr_block,gd];exact D.old _ _ _ _ b0 b1 b2 gd)
     show W.cell? ((ad.add (64*x.1)).add (i*1+0))=some (.int .u8 y)
     rw [addr_add,Nat.mul_one,Nat.add_zero,h2];exact h1
    ·cases hy
  ·have hl3:Bs<W.heap.size:=Nat.lt_of_lt_of_le l3 D.sz
   exact World.cell?_of_block (oth Bs hl3 s0' s1' s2')
  ·have hl4:Bn<W.heap.size:=Nat.lt_of_lt_of_le l4 D.sz
   exact World.cell?_of_block (oth Bn hl4 n0' n1' n2')
  ·show DI w W1 bh bk bx (B4c p (pre++[x])) W'
   rw [B6Q];exact DI'
 ·show dc4.wpIn Fence.wide 5 Try.prog _ { aR with defers:={ target:=.collected Dd,args:=#[] }::aR.defers } W
  rw [show aR.defers=[] from sR.sl.defers]
  subst hS
  refine B8G D (B0U hm64 _ hinit rfl) g0 hD hww (by omega) hdd tsz t3 (fun W' hW'=>?_) 5
  obtain ⟨w1', w2', w3', w4', w5'⟩:=hW'
  refine ⟨.string _,{ ι:=fun _=>0,hv:=fun _=>nilV,ln:=fun _=>0,Z:=fun _ _=>False,nv:=fun _ _ _=>nilV,O:=fun _=>none },rfl,⟨fun _ h=>h,⟨w1', w2', w3', w4', w5'⟩,fun _ _ hb=>hb.elim,fun _ hb=>hb.elim,fun _ hb=>hb.elim,fun _=>⟨none,0,0,rfl⟩,fun id o h=>by simp at h,fun id o h=>by simp at h,fun id id' o o' h=>by simp at h,fun b k h=>(by cases h),fun _ _ _=>⟨none,0,0,rfl⟩⟩,?_⟩
  rw [B7A p hm,hp]
  exact .t rfl (by simp [Lay,C6])
noncomputable def S32:Tab:=Tab.add S31 115 (lift (sumOf A6z B0h B2E))
noncomputable def B9J:FuncId→Bool:=qadd B2T 115
theorem G32:aPG S32 B9J:=G31.addQ B6v (cbl Try.f115) (fun _=>rfl)

abbrev A1u:List PSh:=[.agg [(.int .i64),(.int .i64),tq2]]
noncomputable def A6N (a0 a1:Int) (a2:Lq1):List Int:=let z1:=D2 a1 (A8 a0);let z2:=A1i a2 z1;(cond (decide ((a2.length:Int) > (0:Int))) (((A8 ((z2.length:Nat):Int))++z2)++strInts ((C6 z2).extract (0:Int).toNat (4:Int).toNat)) (((A8 ((z1.length:Nat):Int))++z1)++strInts ((C6 z1).extract (0:Int).toNat (4:Int).toNat)))
noncomputable abbrev A3b (r:List Int):AV×List AObj:=((.all 0 1),[(.rows 5 true (.int .u8) r)])
noncomputable abbrev A5Q:pshsDen A1u→AV×List AObj:=fun d=>A3b (A6N d.1.1 d.1.2.1 d.1.2.2.1)
noncomputable def A0j (a0 a1:Int) (a2:Lq1):Bool:=let z1:=D2 a1 (A8 a0);let z2:=A1i a2 z1;let z3:=A8 ((z2.length:Nat):Int);let z4:=A8 ((z1.length:Nat):Int);(C4 a1 (A8 a0))&&(cond (decide ((a2.length:Int) > (0:Int))) ((A0i a2 z1)&&((decide ((z3.length+z2.length)*1≤MAXB))&&((H5 z2)&&((decide (0≤(0:Int)∧(0:Int)≤(4:Int)∧(4:Int)≤(((C6 z2).size:Nat):Int)))&&(decide ((z3++z2).length+((C6 z2).extract (0:Int).toNat (4:Int).toNat).size≤MAXB)))))) ((decide ((z4.length+z1.length)*1≤MAXB))&&((H5 z1)&&((decide (0≤(0:Int)∧(0:Int)≤(4:Int)∧(4:Int)≤(((C6 z1).size:Nat):Int)))&&(decide ((z4++z1).length+((C6 z1).extract (0:Int).toNat (4:Int).toNat).size≤MAXB))))))
noncomputable abbrev A3C:pshsDen A1u→Bool:=fun d=>A0j d.1.1 d.1.2.1 d.1.2.2.1
theorem B2t:RunP false G32 aLn Try.f67 A1u A3C A5Q:=by
 rintro ⟨⟨a0,⟨a1,⟨a2,_⟩⟩⟩,_⟩ hp
 change A0j a0 a1 a2=true at hp
 unfold A0j at hp
 refine Eq.trans (b:=(let z1:=D2 a1 (A8 a0);let z2:=A1i a2 z1;let z3:=A8 ((z2.length:Nat):Int);let z4:=A8 ((z1.length:Nat):Int);let z5:=(C6 z2).extract (0:Int).toNat (4:Int).toNat;let z6:=(C6 z1).extract (0:Int).toNat (4:Int).toNat;cond (C4 a1 (A8 a0)) (cond (decide ((a2.length:Int) > (0:Int))) (cond (A0i a2 z1) (cond (decide ((z3.length+z2.length)*1≤MAXB)) (cond (H5 z2) (cond (decide (0≤(0:Int)∧(0:Int)≤(4:Int)∧(4:Int)≤(((C6 z2).size:Nat):Int))) (cond (decide ((z3++z2).length+z5.size≤MAXB)) (some (A3b ((z3++z2)++strInts z5))) none) none) none) none) none) (cond (decide ((z4.length+z1.length)*1≤MAXB)) (cond (H5 z1) (cond (decide (0≤(0:Int)∧(0:Int)≤(4:Int)∧(4:Int)≤(((C6 z1).size:Nat):Int))) (cond (decide ((z4++z1).length+z6.size≤MAXB)) (some (A3b ((z4++z1)++strInts z6))) none) none) none) none)) none)) (by kernel_rfl) ?_
 exact (cndA hp fun hp=>(K5 A3b hp (fun hp=>(cndA hp fun hp=>(cndA hp fun hp=>(cndA hp fun hp=>(cndA hp fun hp=>(cndT hp fun _h=>rfl)))))) (fun hp=>(cndA hp fun hp=>(cndA hp fun hp=>(cndA hp fun hp=>(cndT hp fun _h=>rfl)))))))
theorem B39:aPP 67 (sumOf A1u A3C A5Q):=pcD false G32 hlz B2t
noncomputable def S33:Tab:=Tab.add S32 67 (lift (sumOf A1u A3C A5Q))
noncomputable def B9K:FuncId→Bool:=B9J
theorem G33:aPG S33 B9K:=G32.add B39 (cbl Try.f67) (by kernel_rfl)

abbrev A3S:List PSh:=[.agg [(.int .i64),(.int .i64),tq2]]
noncomputable def A3c (a0 a1:Int) (a2:Lq1):List Int:=(cond (!(X2 a0 a1 a2)) ([]:List Int) (A6N a0 a1 a2))
noncomputable abbrev A6H (r:List Int):AV×List AObj:=((.all 0 1),[(.rows 5 true (.int .u8) r)])
noncomputable abbrev A9C:pshsDen A3S→AV×List AObj:=fun d=>A6H (A3c d.1.1 d.1.2.1 d.1.2.2.1)
noncomputable def T4 (a0 a1:Int) (a2:Lq1):Bool:=(F9 a0 a1 a2)&&(cond (!(X2 a0 a1 a2)) true (A0j a0 a1 a2))
noncomputable abbrev A53:pshsDen A3S→Bool:=fun d=>T4 d.1.1 d.1.2.1 d.1.2.2.1
theorem B4S:RunP false G33 aLn Try.f18 A3S A53 A9C:=by
 rintro ⟨⟨a0,⟨a1,⟨a2,_⟩⟩⟩,_⟩ hp
 change T4 a0 a1 a2=true at hp
 unfold T4 at hp
 refine Eq.trans (b:=(cond (F9 a0 a1 a2) (cond (!(X2 a0 a1 a2)) (some (A6H ([]:List Int))) (cond (A0j a0 a1 a2) (some (A6H (A6N a0 a1 a2))) none)) none)) (by kernel_rfl) ?_
 exact (cndA hp fun hp=>(K5 A6H hp (fun hp=>rfl) (fun hp=>(cndT hp fun _h=>rfl))))
theorem B6z:aPP 18 (sumOf A3S A53 A9C):=pcD false G33 hlz B4S
noncomputable def S34:Tab:=Tab.add S33 18 (lift (sumOf A3S A53 A9C))
noncomputable def B9L:FuncId→Bool:=B9K
theorem G34:aPG S34 B9L:=G33.add B6z (cbl Try.f18) (by kernel_rfl)

abbrev B3V:List PSh:=[.t B5,.t (.int .i64)]
noncomputable def lat (a0:List Int) (a1:Int):Int:=(cond (decide (a1<(a0.length:Int))) (IntKind.wrap .i64 (a0.getD a1.toNat (0:Int))) (Int.tmod (IntKind.wrap .i64 ((IntKind.wrap .i64 (a1*(31:Int)))+(IntKind.wrap .i64 ((a0.length:Int)*(7:Int))))) (256:Int)))
noncomputable abbrev B6d (r:Int):AV×List AObj:=((ti r),[])
noncomputable abbrev B7J:pshsDen B3V→AV×List AObj:=fun d=>B6d (lat d.1 d.2.1)
noncomputable def A5k (a0:List Int) (a1:Int):Bool:=cond (decide (a1<(a0.length:Int))) (decide (0≤a1∧a1<(a0.length:Int))) true
noncomputable abbrev B3o:pshsDen B3V→Bool:=fun d=>A5k d.1 d.2.1
theorem B8F:RunP true G34 aLn Try.f29 B3V B3o B7J:=by
 rintro ⟨a0,⟨a1,_⟩⟩ hp
 change A5k a0 a1=true at hp
 unfold A5k at hp
 refine Eq.trans (b:=(cond (decide (a1<(a0.length:Int))) (cond (decide (0≤a1∧a1<(a0.length:Int))) (some (B6d (IntKind.wrap .i64 (a0.getD a1.toNat (0:Int))))) none) (some (B6d (Int.tmod (IntKind.wrap .i64 ((IntKind.wrap .i64 (a1*(31:Int)))+(IntKind.wrap .i64 ((a0.length:Int)*(7:Int))))) (256:Int)))))) (by kernel_rfl) ?_
 exact (K5 B6d hp (fun hp=>(cndT hp fun _h=>rfl)) (fun hp=>rfl))
theorem C0j:aPP 29 (sumOf B3V B3o B7J):=pcD true G34 hlz B8F
noncomputable def S35:Tab:=Tab.add S34 29 (lift (sumOf B3V B3o B7J))
noncomputable def B9M:FuncId→Bool:=qadd B9L 29
theorem G35:aPG S35 B9M:=G34.addQ C0j (cbl Try.f29) (fun _=>rfl)

abbrev B8u:List Sh:=.junk::.junk::B8t
abbrev C0N:List Sh:=.junk::.junk::.junk::.junk::.junk::.junk::B8u
abbrev u49:=((),(),u47)
abbrev u56:=((),(),(),(),(),(),(),u49)
abbrev B7T:List AV:=.junk::.junk::B8p
abbrev C0x:List AV:=.junk::.junk::.junk::.junk::.junk::.junk::B7T
abbrev A3P:List PSh:=[.t B5,.t (.int .i64)]
abbrev L1:SS:=⟨(.t false B5::tI::.junk::.junk::.junk::.junk::.junk::tI::tI::B8t),[]⟩
abbrev R8:SS:=⟨(.junk::.junk::.junk::.junk::tI::tI::.t true .bool::B8u),[]⟩
abbrev A3m:SS:=⟨(.junk::C0N),[]⟩
noncomputable def A9k (x0:List Int) (x1 x7 x8:Int):RT L1.den:=let z2:=IntKind.wrap .i64 ((7:Int)*x8);let z3:=IntKind.wrap .i64 (x0.getD x1.toNat (0:Int));let z1:=iand .i64 z3 (127:Int);let z4:=IntKind.bits .i64;(.br (decide (x8<(5:Int))) (.br (decide (x1<(x0.length:Int))) (.br (decide (0≤x1∧x1<(x0.length:Int))) (.br (decide (0≤(IntKind.wrap .u64 z2))) (.br (decide (z3<(128:Int))) (.br (z3==(0:Int)) (.br (decide (x8 > (0:Int))) (.done .ret R8 (((),(),(),(),(0:Int),(0:Int),false,u49),())) (.br (decide ((ior .i64 x7 (IntKind.wrap .i64 (z1*2 ^ (min (Int.toNat (IntKind.wrap .u64 z2)) z4)))) > (1000000000:Int))) (.done .ret R8 (((),(),(),(),(0:Int),(0:Int),false,u49),())) (.done .ret R8 (((),(),(),(),ior .i64 x7 (IntKind.wrap .i64 (z1*2 ^ (min (Int.toNat (IntKind.wrap .u64 z2)) z4))),IntKind.wrap .i64 (x1+(1:Int)),true,u49),())))) (.br (decide ((ior .i64 x7 (IntKind.wrap .i64 (z1*2 ^ (min (Int.toNat (IntKind.wrap .u64 z2)) z4)))) > (1000000000:Int))) (.done .ret R8 (((),(),(),(),(0:Int),(0:Int),false,u49),())) (.done .ret R8 (((),(),(),(),ior .i64 x7 (IntKind.wrap .i64 (z1*2 ^ (min (Int.toNat (IntKind.wrap .u64 z2)) z4))),IntKind.wrap .i64 (x1+(1:Int)),true,u49),())))) (.next ((x0,IntKind.wrap .i64 (x1+(1:Int)),(),(),(),(),(),ior .i64 x7 (IntKind.wrap .i64 (z1*2 ^ (min (Int.toNat (IntKind.wrap .u64 z2)) z4))),IntKind.wrap .i64 (x8+(1:Int)),u47),()))) .fail) .fail) (.done (.exit 0) A3m ((u56),()))) (.done (.exit 0) A3m ((u56),())))
abbrev A28:=(List Int)×(Int)×(Int)×(Int)
abbrev A1s:=Nat×(Int)×(Int)×(Bool)
def A4y:A1s:=(99,((0:Int):Int),((0:Int):Int),(false:Bool))
noncomputable def A0Q (x0:List Int) (x1 x7 x8:Int):A28 ⊕ A1s:=let z2:=IntKind.wrap .i64 ((7:Int)*x8);let z3:=IntKind.wrap .i64 (x0.getD x1.toNat (0:Int));let z1:=iand .i64 z3 (127:Int);let z4:=IntKind.bits .i64;(cond (decide (x8<(5:Int))) (cond (decide (x1<(x0.length:Int))) (cond (decide (0≤x1∧x1<(x0.length:Int))) (cond (decide (0≤(IntKind.wrap .u64 z2))) (cond (decide (z3<(128:Int))) (cond (z3==(0:Int)) (cond (decide (x8 > (0:Int))) (.inr (0,(0:Int),(0:Int),false)) (cond (decide ((ior .i64 x7 (IntKind.wrap .i64 (z1*2 ^ (min (Int.toNat (IntKind.wrap .u64 z2)) z4)))) > (1000000000:Int))) (.inr (0,(0:Int),(0:Int),false)) (.inr (0,ior .i64 x7 (IntKind.wrap .i64 (z1*2 ^ (min (Int.toNat (IntKind.wrap .u64 z2)) z4))),IntKind.wrap .i64 (x1+(1:Int)),true)))) (cond (decide ((ior .i64 x7 (IntKind.wrap .i64 (z1*2 ^ (min (Int.toNat (IntKind.wrap .u64 z2)) z4)))) > (1000000000:Int))) (.inr (0,(0:Int),(0:Int),false)) (.inr (0,ior .i64 x7 (IntKind.wrap .i64 (z1*2 ^ (min (Int.toNat (IntKind.wrap .u64 z2)) z4))),IntKind.wrap .i64 (x1+(1:Int)),true)))) (.inl (x0,IntKind.wrap .i64 (x1+(1:Int)),ior .i64 x7 (IntKind.wrap .i64 (z1*2 ^ (min (Int.toNat (IntKind.wrap .u64 z2)) z4))),IntKind.wrap .i64 (x8+(1:Int))))) (.inr A4y)) (.inr A4y)) (.inr (1,((0:Int):Int),((0:Int):Int),(false:Bool)))) (.inr (1,((0:Int):Int),((0:Int):Int),(false:Bool))))
noncomputable def Q5 (x0:List Int) (x1 x7 x8:Int):A1s:=itX (fun v:A28=>A0Q v.1 v.2.1 v.2.2.1 v.2.2.2) A4y (x0,x1,x7,x8)
noncomputable def A4n (a:A1s):CT:=(.br (a.1==0) (.done .ret R8 (((),(),(),(),a.2.1,a.2.2.1,a.2.2.2,u49),())) (.br (a.1==1) (.done (.exit 0) A3m ((u56),())) .fail))
noncomputable def B3Z (x0:List Int) (x1 x7 x8:Int):CT:=A4n (Q5 x0 x1 x7 x8)
noncomputable abbrev A13 {α:Sort _} (f:(List Int)→Int→Int→Int→α) (d:L1.den):α:=f d.1.1 d.1.2.1 d.1.2.2.2.2.2.2.2.1 d.1.2.2.2.2.2.2.2.2.1
noncomputable abbrev A4W:L1.den→RT L1.den:=(A13 A9k)
noncomputable def A5F:Code:=((loopsIn 0 (bodyOf Try.f76)).getD 0 (0,.skip)).2
noncomputable abbrev A8V (v:A28):L1.den:=((v.1,v.2.1,(),(),(),(),(),v.2.2.1,v.2.2.2,u47),())
theorem B3y:(∀ v:A28,(A9k v.1 v.2.1 v.2.2.1 v.2.2.2).val=relS A8V A4n (A0Q v.1 v.2.1 v.2.2.1 v.2.2.2))∧∀ a:A1s,CEnd L1.den (A4n a):=⟨fun v=>by repeat' first | apply relB | rfl,fun a=>(cendB aCD (cendB aCD cendF))⟩
noncomputable def A8G (x0:List Int) (x1 x7 x8:Int):Option (Ex×St):=let z2:=IntKind.wrap .i64 (x0.getD x1.toNat (0:Int));let z3:=(⟨(.junk::.junk::.junk::.junk::(ti (0:Int))::(ti (0:Int))::(.t true .bool false)::B7T),[],0,[]⟩:St);let z4:=IntKind.wrap .i64 ((7:Int)*x8);let z5:=iand .i64 z2 (127:Int);let z6:=IntKind.bits .i64;let z7:=ti (IntKind.wrap .i64 (x1+(1:Int)));let z1:=(⟨(.junk::.junk::.junk::.junk::(ti (ior .i64 x7 (IntKind.wrap .i64 (z5*2 ^ (min (Int.toNat (IntKind.wrap .u64 z4)) z6)))))::z7::(.t true .bool true)::B7T),[],0,[]⟩:St);let z8:=(⟨(.junk::C0x),[],0,[]⟩:St);(cond (decide (x8<(5:Int))) (cond (decide (x1<(x0.length:Int))) (cond (decide (0≤x1∧x1<(x0.length:Int))) (cond (decide (0≤(IntKind.wrap .u64 z4))) (cond (decide (z2<(128:Int))) (cond (z2==(0:Int)) (cond (decide (x8 > (0:Int))) (some (.ret,z3)) (cond (decide ((ior .i64 x7 (IntKind.wrap .i64 (z5*2 ^ (min (Int.toNat (IntKind.wrap .u64 z4)) z6)))) > (1000000000:Int))) (some (.ret,z3)) (some (.ret,z1)))) (cond (decide ((ior .i64 x7 (IntKind.wrap .i64 (z5*2 ^ (min (Int.toNat (IntKind.wrap .u64 z4)) z6)))) > (1000000000:Int))) (some (.ret,z3)) (some (.ret,z1)))) (some (.normal,(⟨((.t false B5 x0)::z7::.junk::.junk::.junk::.junk::.junk::(ti (ior .i64 x7 (IntKind.wrap .i64 (z5*2 ^ (min (Int.toNat (IntKind.wrap .u64 z4)) z6)))))::(ti (IntKind.wrap .i64 (x8+(1:Int))))::B8p),[],0,[]⟩:St)))) none) none) (some ((.exit 0),z8))) (some ((.exit 0),z8)))
theorem B10:RdA G35 aLn 0 A5F L1 0 [] (kepts [4,5,6] [(0,[])]) (A13 A8G):=by
 intro d
 kernel_rfl
theorem B2d:∀ d:L1.den,(A13 A8G) d=(A4W d).opt 0 []:=by
 intro d
 kernel_rfl
noncomputable abbrev A7x:St→Option Tree:=L1.say 0 [] [] (A13 B3Z)
theorem B3b:aPL A7x A5F:=SS.wp2 hlz [] A4W B10 B2d _ (fun d=>Runs.ofI2 (step:=A4W) A8V B3y rfl (d.1.1,d.1.2.1,d.1.2.2.2.2.2.2.2.1,d.1.2.2.2.2.2.2.2.2.1))
noncomputable def B9 (a0:List Int) (a1:Int):Int×Int×Bool:=let z1:=Q5 a0 a1 (0:Int) (0:Int);(cond (!(R6 a1 (0:Int) (IntKind.wrap .i64 ((a0.length:Int) - (1:Int))))) ((0:Int),(0:Int),false) (cond (z1.1==0) ((z1.2.1),(z1.2.2.1),(z1.2.2.2)) ((0:Int),(0:Int),false)))
noncomputable abbrev A34 (r:Int×Int×Bool):AV×List AObj:=((.tup [(ti r.1),(ti r.2.1),(.t true .bool r.2.2)]),[])
noncomputable abbrev A9z:pshsDen A3P→AV×List AObj:=fun d=>A34 (B9 d.1 d.2.1)
noncomputable def O4 (a0:List Int) (a1:Int):Bool:=let z1:=Q5 a0 a1 (0:Int) (0:Int);cond (!(R6 a1 (0:Int) (IntKind.wrap .i64 ((a0.length:Int) - (1:Int))))) true (cond (z1.1==0) true (z1.1==1))
noncomputable abbrev A50:pshsDen A3P→Bool:=fun d=>O4 d.1 d.2.1
noncomputable abbrev B6l:Nat→St→Option Tree:=fun b=>match b with | 0=>A7x | _=>fun _=>none
theorem B4P:RunP true G35 (B6l) Try.f76 A3P A50 A9z:=by
 rintro ⟨a0,⟨a1,_⟩⟩ hp
 change O4 a0 a1=true at hp
 unfold O4 at hp
 refine Eq.trans (b:=(let z1:=Q5 a0 a1 (0:Int) (0:Int);let z2:=A34 ((0:Int),(0:Int),false);cond (!(R6 a1 (0:Int) (IntKind.wrap .i64 ((a0.length:Int) - (1:Int))))) (some z2) (cond (z1.1==0) (some (A34 ((z1.2.1),(z1.2.2.1),(z1.2.2.2)))) (cond (z1.1==1) (some z2) none)))) (by kernel_rfl) ?_
 exact (K5 A34 hp (fun hp=>rfl) (fun hp=>(K5 A34 hp (fun hp=>rfl) (fun hp=>(cndT hp fun _h=>rfl)))))
theorem B6w:aPP 76 (sumOf A3P A50 A9z):=pcD true G35 (hl1 (i:=0) (by kernel_rfl) B3b) B4P
noncomputable def S36:Tab:=Tab.add S35 76 (lift (sumOf A3P A50 A9z))
noncomputable def B9N:FuncId→Bool:=qadd B9M 76
theorem G36:aPG S36 B9N:=G35.addQ B6w (cbl Try.f76) (fun _=>rfl)

abbrev A0p:SS:=⟨[.ptr 0 0 1 0],[.box [.t false B5,tI,.t true .bool]]⟩
noncomputable def A6 (p0:List Int) (p1:Int) (p2:Bool):Int×(List Int)×Int×Bool:=let z1:=B9 p0 p1;(cond p2 ((0:Int),p0,p1,true) (cond (!(z1.2.2)) ((0:Int),p0,p1,true) ((z1.1),p0,(z1.2.1),p2)))
noncomputable abbrev X7 (r:Int×(List Int)×Int×Bool):AV×List AObj×List Nat:=((ti r.1),[(.box [(.t false B5 r.2.1),(ti r.2.2.1),(.t true .bool r.2.2.2)])],[])
noncomputable abbrev A7d:A0p.den→AV×List AObj×List Nat:=fun d=>X7 (A6 d.2.1.1 d.2.1.2.1 d.2.1.2.2.1)
noncomputable def B8 (p0:List Int) (p1:Int) (p2:Bool):Bool:=O4 p0 p1
noncomputable abbrev A5e:A0p.den→Bool:=fun d=>B8 d.2.1.1 d.2.1.2.1 d.2.1.2.2.1
theorem B0B:RunM G36 aLn Try.f77 A0p A5e A7d:=by
 rintro ⟨⟨_,_⟩,⟨⟨p0,p1,p2,_⟩,_⟩⟩ hp
 change B8 p0 p1 p2=true at hp
 unfold B8 at hp
 refine Eq.trans (b:=(let z1:=X7 ((0:Int),p0,p1,true);let z2:=B9 p0 p1;cond (O4 p0 p1) (cond p2 (some z1) (cond (!(z2.2.2)) (some z1) (some (X7 ((z2.1),p0,(z2.2.1),p2))))) none)) (by kernel_rfl) ?_
 exact (cndT hp fun _h=>(N9 X7 (fun _h=>rfl) (fun _h=>(N9 X7 (fun _h=>rfl) (fun _h=>rfl)))))
noncomputable abbrev A7h:=win winIds (msum A0p A5e A7d)
theorem B1N:aPM 77 A7h:=(mcM G36 hlz B0B).win winIds
noncomputable def S37:Tab:=Tab.add S36 77 (A7h)
noncomputable def B9O:FuncId→Bool:=B9N
theorem G37:aPG S37 B9O:=G36.addM B1N (win_local _) (cbl Try.f77) (by kernel_rfl)

abbrev A2o:List PSh:=[.t B5,.t (.int .i64)]
noncomputable def A5T (a0:List Int) (a1:Int):ByteArray×Int×Bool:=(cond (!((B9 a0 a1).2.2)) (bE,(0:Int),false) (cond (decide (((B9 a0 a1).1) > (IntKind.wrap .i64 ((a0.length:Int) - ((B9 a0 a1).2.1))))) (bE,(0:Int),false) ((⟨(((a0.take (IntKind.wrap .i64 (((B9 a0 a1).2.1)+((B9 a0 a1).1))).toNat).drop ((B9 a0 a1).2.1).toNat).map fun n=>UInt8.ofNat n.toNat).toArray⟩:ByteArray),IntKind.wrap .i64 (((B9 a0 a1).2.1)+((B9 a0 a1).1)),true)))
noncomputable abbrev A0V (r:ByteArray×Int×Bool):AV×List AObj:=((.tup [(.t true .str r.1),(ti r.2.1),(.t true .bool r.2.2)]),[])
noncomputable abbrev A7T:pshsDen A2o→AV×List AObj:=fun d=>A0V (A5T d.1 d.2.1)
noncomputable def Y9 (a0:List Int) (a1:Int):Bool:=let z1:=B9 a0 a1;let z2:=IntKind.wrap .i64 ((z1.2.1)+(z1.1));(O4 a0 a1)&&(cond (!(z1.2.2)) true (cond (decide ((z1.1) > (IntKind.wrap .i64 ((a0.length:Int) - (z1.2.1))))) true (decide (0≤(z1.2.1)∧(z1.2.1)≤z2∧z2≤(a0.length:Int)))))
noncomputable abbrev A4M:pshsDen A2o→Bool:=fun d=>Y9 d.1 d.2.1
theorem B3I:RunP true G37 aLn Try.f155 A2o A4M A7T:=by
 rintro ⟨a0,⟨a1,_⟩⟩ hp
 change Y9 a0 a1=true at hp
 unfold Y9 at hp
 refine Eq.trans (b:=(cond (O4 a0 a1) (cond (!((B9 a0 a1).2.2)) (some (A0V ((⟨#[]⟩:ByteArray),(0:Int),false))) (cond (decide (((B9 a0 a1).1) > (IntKind.wrap .i64 ((a0.length:Int) - ((B9 a0 a1).2.1))))) (some (A0V ((⟨#[]⟩:ByteArray),(0:Int),false))) (cond (decide (0≤((B9 a0 a1).2.1)∧((B9 a0 a1).2.1)≤(IntKind.wrap .i64 (((B9 a0 a1).2.1)+((B9 a0 a1).1)))∧(IntKind.wrap .i64 (((B9 a0 a1).2.1)+((B9 a0 a1).1)))≤(a0.length:Int))) (some (A0V ((⟨(((a0.take (IntKind.wrap .i64 (((B9 a0 a1).2.1)+((B9 a0 a1).1))).toNat).drop ((B9 a0 a1).2.1).toNat).map fun n=>UInt8.ofNat n.toNat).toArray⟩:ByteArray),IntKind.wrap .i64 (((B9 a0 a1).2.1)+((B9 a0 a1).1)),true))) none))) none)) (by kernel_rfl) ?_
 exact (cndA hp fun hp=>(K5 A0V hp (fun hp=>rfl) (fun hp=>(K5 A0V hp (fun hp=>rfl) (fun hp=>(cndT hp fun _h=>rfl))))))
theorem B5s:aPP 155 (sumOf A2o A4M A7T):=pcD true G37 hlz B3I
noncomputable def S38:Tab:=Tab.add S37 155 (lift (sumOf A2o A4M A7T))
noncomputable def B9P:FuncId→Bool:=qadd B9O 155
theorem G38:aPG S38 B9P:=G37.addQ B5s (cbl Try.f155) (fun _=>rfl)

abbrev Y0:SS:=⟨[.ptr 0 0 1 0],[.box [.t false B5,tI,.t true .bool]]⟩
noncomputable def Q4 (p0:List Int) (p1:Int) (p2:Bool):ByteArray×(List Int)×Int×Bool:=let z1:=A5T p0 p1;(cond p2 (bE,p0,p1,true) (cond (!(z1.2.2)) (bE,p0,p1,true) ((z1.1),p0,(z1.2.1),p2)))
noncomputable abbrev O1 (r:ByteArray×(List Int)×Int×Bool):AV×List AObj×List Nat:=((.t true .str r.1),[(.box [(.t false B5 r.2.1),(ti r.2.2.1),(.t true .bool r.2.2.2)])],[])
noncomputable abbrev A5P:Y0.den→AV×List AObj×List Nat:=fun d=>O1 (Q4 d.2.1.1 d.2.1.2.1 d.2.1.2.2.1)
noncomputable def C3 (p0:List Int) (p1:Int) (p2:Bool):Bool:=Y9 p0 p1
noncomputable abbrev A4b:Y0.den→Bool:=fun d=>C3 d.2.1.1 d.2.1.2.1 d.2.1.2.2.1
theorem A90:RunM G38 aLn Try.f120 Y0 A4b A5P:=by
 rintro ⟨⟨_,_⟩,⟨⟨p0,p1,p2,_⟩,_⟩⟩ hp
 change C3 p0 p1 p2=true at hp
 unfold C3 at hp
 refine Eq.trans (b:=(let z1:=A5T p0 p1;cond (Y9 p0 p1) (cond p2 (some (O1 ((⟨#[]⟩:ByteArray),p0,p1,true))) (cond (!(z1.2.2)) (some (O1 ((⟨#[]⟩:ByteArray),p0,p1,true))) (some (O1 ((z1.1),p0,(z1.2.1),p2))))) none)) (by kernel_rfl) ?_
 exact (cndT hp fun _h=>(N9 O1 (fun _h=>rfl) (fun _h=>(N9 O1 (fun _h=>rfl) (fun _h=>rfl)))))
noncomputable abbrev A5Y:=win winIds (msum Y0 A4b A5P)
theorem B0T:aPM 120 A5Y:=(mcM G38 hlz A90).win winIds
noncomputable def S39:Tab:=Tab.add S38 120 (A5Y)
noncomputable def B9Q:FuncId→Bool:=B9P
theorem G39:aPG S39 B9Q:=G38.addM B0T (win_local _) (cbl Try.f120) (by kernel_rfl)

abbrev u17:=((),u16)
abbrev C1c:List AV:=.junk::.junk::C0r
abbrev A0q:SS:=⟨[.ptr 0 0 1 0],[.box [.t false B5,tI,.t true .bool]]⟩
abbrev E7:SS:=⟨(.ptr 0 0 1 0::.junk::.junk::.junk::.all 1 3::.junk::.junk::.junk::.junk::.junk::.junk::.junk::.junk::tI::tI::B7W),[.box [.t false B5,tI,.t true .bool],.rows 124 true tq3]⟩
abbrev A25:SS:=⟨(.junk::.junk::.junk::.junk::.all 1 3::B9c),[.box [.t false B5,tI,.t true .bool],.rows 124 true tq3]⟩
noncomputable def B4 (p0:List Int) (p1:Int) (p2:Bool):=let z1:=A6 p0 p1 p2;Q4 (z1.2.1) (z1.2.2.1) (z1.2.2.2)
noncomputable def B7 (p0:List Int) (p1:Int) (p2:Bool):=let z1:=B4 p0 p1 p2;Q4 (z1.2.1) (z1.2.2.1) (z1.2.2.2)
noncomputable def A4f (x13 x14:Int) (p0:List Int) (p1:Int) (p2:Bool) (h1:Lq1):RT E7.den:=let z1:=B4 p0 p1 p2;let z2:=B7 p0 p1 p2;let z3:=A6 p0 p1 p2;(.br (decide (x14<x13)) (.br (B8 p0 p1 p2) (.br (C3 (z3.2.1) (z3.2.2.1) (z3.2.2.2)) (.br (C3 (z1.2.1) (z1.2.2.1) (z1.2.2.2)) (.br (decide ((h1.length+[((z3.1),((z1.1),(z2.1)))].length)*40≤MAXB)) (.next (((),(),(),(),(),(),(),(),(),(),(),(),(),x13,IntKind.wrap .i64 (x14+(1:Int)),u17),(((z2.2.1),(z2.2.2.1),(z2.2.2.2),()),h1++[((z3.1),((z1.1),(z2.1)))],()))) .fail) .fail) .fail) .fail) (.done (.exit 0) A25 ((u32),((p0,p1,p2,()),h1,()))))
abbrev R5:=(Int)×(Int)×(List Int)×(Int)×(Bool)×(Lq1)
abbrev K9:=Nat×(List Int)×(Int)×(Bool)×(Lq1)
def O2:K9:=(99,([]:List Int),((0:Int):Int),(false:Bool),([]:Lq1))
noncomputable def W9 (x13 x14:Int) (p0:List Int) (p1:Int) (p2:Bool) (h1:Lq1):R5 ⊕ K9:=let z1:=B4 p0 p1 p2;let z2:=B7 p0 p1 p2;let z3:=A6 p0 p1 p2;(cond (decide (x14<x13)) (cond (B8 p0 p1 p2) (cond (C3 (z3.2.1) (z3.2.2.1) (z3.2.2.2)) (cond (C3 (z1.2.1) (z1.2.2.1) (z1.2.2.2)) (cond (decide ((h1.length+[((z3.1),((z1.1),(z2.1)))].length)*40≤MAXB)) (.inl (x13,IntKind.wrap .i64 (x14+(1:Int)),(z2.2.1),(z2.2.2.1),(z2.2.2.2),h1++[((z3.1),((z1.1),(z2.1)))])) (.inr O2)) (.inr O2)) (.inr O2)) (.inr O2)) (.inr (0,p0,p1,p2,h1)))
noncomputable def H4 (x13 x14:Int) (p0:List Int) (p1:Int) (p2:Bool) (h1:Lq1):K9:=itX (fun v:R5=>W9 v.1 v.2.1 v.2.2.1 v.2.2.2.1 v.2.2.2.2.1 v.2.2.2.2.2) O2 (x13,x14,p0,p1,p2,h1)
noncomputable def A0U (a:K9):CT:=(.br (a.1==0) (.done (.exit 0) A25 ((u32),((a.2.1,a.2.2.1,a.2.2.2.1,()),a.2.2.2.2,()))) .fail)
noncomputable def B0t (x13 x14:Int) (p0:List Int) (p1:Int) (p2:Bool) (h1:Lq1):CT:=A0U (H4 x13 x14 p0 p1 p2 h1)
noncomputable abbrev V3 {α:Sort _} (f:Int→Int→(List Int)→Int→Bool→Lq1→α) (d:E7.den):α:=f d.1.2.2.2.2.2.2.2.2.2.2.2.2.2.1 d.1.2.2.2.2.2.2.2.2.2.2.2.2.2.2.1 d.2.1.1 d.2.1.2.1 d.2.1.2.2.1 d.2.2.1
noncomputable abbrev A09:E7.den→RT E7.den:=(V3 A4f)
noncomputable def A2C:Code:=((loopsIn 0 (bodyOf Try.f78)).getD 0 (0,.skip)).2
noncomputable abbrev A4c (v:R5):E7.den:=(((),(),(),(),(),(),(),(),(),(),(),(),(),v.1,v.2.1,u17),((v.2.2.1,v.2.2.2.1,v.2.2.2.2.1,()),v.2.2.2.2.2,()))
theorem A9Z:(∀ v:R5,(A4f v.1 v.2.1 v.2.2.1 v.2.2.2.1 v.2.2.2.2.1 v.2.2.2.2.2).val=relS A4c A0U (W9 v.1 v.2.1 v.2.2.1 v.2.2.2.1 v.2.2.2.2.1 v.2.2.2.2.2))∧∀ a:K9,CEnd E7.den (A0U a):=⟨fun v=>(relB (relB (relB (relB (relB rfl rfl) rfl) rfl) rfl) rfl),fun a=>(cendB aCD cendF)⟩
noncomputable def A39 (x13 x14:Int) (p0:List Int) (p1:Int) (p2:Bool) (h1:Lq1):Option (Ex×St):=let z1:=B4 p0 p1 p2;let z2:=B7 p0 p1 p2;let z3:=A6 p0 p1 p2;(cond (decide (x14<x13)) (cond (B8 p0 p1 p2) (cond (C3 (z3.2.1) (z3.2.2.1) (z3.2.2.2)) (cond (C3 (z1.2.1) (z1.2.2.1) (z1.2.2.2)) (cond (decide ((h1.length+[((z3.1),((z1.1),(z2.1)))].length)*40≤MAXB)) (some (.normal,(⟨((.ptr 0 0 1 0)::.junk::.junk::.junk::(.all 1 3)::.junk::.junk::.junk::.junk::.junk::.junk::.junk::.junk::(ti x13)::(ti (IntKind.wrap .i64 (x14+(1:Int))))::C1c),[(.box [(.t false B5 (z2.2.1)),(ti (z2.2.2.1)),(.t true .bool (z2.2.2.2))]),(.rows 124 true tq3 (h1++[((z3.1),((z1.1),(z2.1)))]))],1,[]⟩:St))) none) none) none) none) (some ((.exit 0),(⟨(.junk::.junk::.junk::.junk::(.all 1 3)::C0s),[(.box [(.t false B5 p0),(ti p1),(.t true .bool p2)]),(.rows 124 true tq3 h1)],1,[]⟩:St))))
theorem A88:RdA G39 aLn 0 A2C E7 1 [] (kepts [] [(0,[4])]) (V3 A39):=by
 intro d
 kernel_rfl
theorem A9b:∀ d:E7.den,(V3 A39) d=(A09 d).opt 1 []:=by
 intro d
 kernel_rfl
noncomputable abbrev A3h:St→Option Tree:=E7.say 1 [] [(4,124,tq3)] (V3 B0t)
theorem A9O:aPL A3h A2C:=SS.wp2 hlz [(4,124,tq3)] A09 A88 A9b _ (fun d=>Runs.ofI2 (step:=A09) A4c A9Z rfl (d.1.2.2.2.2.2.2.2.2.2.2.2.2.2.1,d.1.2.2.2.2.2.2.2.2.2.2.2.2.2.2.1,d.2.1.1,d.2.1.2.1,d.2.1.2.2.1,d.2.2.1))
noncomputable def A0H (p0:List Int) (p1:Int) (p2:Bool):=let z1:=A6 p0 p1 p2;H4 (z1.1) (0:Int) (z1.2.1) (z1.2.2.1) (z1.2.2.2) ([]:Lq1)
noncomputable def J6 (p0:List Int) (p1:Int) (p2:Bool):(List Int)×Int×Bool×Lq1:=let z1:=A0H p0 p1 p2;let z2:=A6 p0 p1 p2;(cond (decide ((z2.1) > (8:Int))) ((z2.2.1),(z2.2.2.1),true,([]:Lq1)) ((z1.2.1),(z1.2.2.1),(z1.2.2.2.1),(z1.2.2.2.2)))
noncomputable abbrev A1f (r:(List Int)×Int×Bool×Lq1):AV×List AObj×List Nat:=((.all 1 3),[(.box [(.t false B5 r.1),(ti r.2.1),(.t true .bool r.2.2.1)]),(.rows 124 true tq3 r.2.2.2)],[])
noncomputable abbrev A7e:A0q.den→AV×List AObj×List Nat:=fun d=>A1f (J6 d.2.1.1 d.2.1.2.1 d.2.1.2.2.1)
noncomputable def N5 (p0:List Int) (p1:Int) (p2:Bool):Bool:=(B8 p0 p1 p2)&&(cond (decide (((A6 p0 p1 p2).1) > (8:Int))) true ((A0H p0 p1 p2).1==0))
noncomputable abbrev A5f:A0q.den→Bool:=fun d=>N5 d.2.1.1 d.2.1.2.1 d.2.1.2.2.1
noncomputable abbrev B1I:Nat→St→Option Tree:=fun b=>match b with | 0=>A3h | _=>fun _=>none
theorem B0C:RunM G39 (B1I) Try.f78 A0q A5f A7e:=by
 rintro ⟨⟨_,_⟩,⟨⟨p0,p1,p2,_⟩,_⟩⟩ hp
 change N5 p0 p1 p2=true at hp
 unfold N5 at hp
 refine Eq.trans (b:=(let z1:=A0H p0 p1 p2;let z2:=A6 p0 p1 p2;cond (B8 p0 p1 p2) (cond (decide ((z2.1) > (8:Int))) (some (A1f ((z2.2.1),(z2.2.2.1),true,([]:Lq1)))) (cond (z1.1==0) (some (A1f ((z1.2.1),(z1.2.2.1),(z1.2.2.2.1),(z1.2.2.2.2)))) none)) none)) (by kernel_rfl) ?_
 exact (cndA hp fun hp=>(K5 A1f hp (fun hp=>rfl) (fun hp=>(cndT hp fun _h=>rfl))))
noncomputable abbrev A7i:=win winIds (msum A0q A5f A7e)
theorem B1O:aPM 78 A7i:=(mcM G39 (hl1 (i:=0) (by kernel_rfl) A9O) B0C).win winIds
noncomputable def S40:Tab:=Tab.add S39 78 (A7i)
noncomputable def B9R:FuncId→Bool:=B9Q
theorem G40:aPG S40 B9R:=G39.addM B1O (win_local _) (cbl Try.f78) (by kernel_rfl)

abbrev A3U:List PSh:=[.agg [(.int .i64),(.int .i64),tq2]]
noncomputable def A0F (a0 a1:Int) (a2:Lq1):List Int:=let z1:=D2 a1 (A8 a0);let z2:=A1i a2 z1;(cond (decide ((a2.length:Int) > (0:Int))) (((A8 ((z2.length:Nat):Int))++z2)++strInts ((C6 z2).extract (0:Int).toNat (4:Int).toNat)) (((A8 ((z1.length:Nat):Int))++z1)++strInts ((C6 z1).extract (0:Int).toNat (4:Int).toNat)))
noncomputable abbrev A6J (r:List Int):AV×List AObj:=((.t true B5 r),[])
noncomputable abbrev A9E:pshsDen A3U→AV×List AObj:=fun d=>A6J (A0F d.1.1 d.1.2.1 d.1.2.2.1)
noncomputable def O5 (a0 a1:Int) (a2:Lq1):Bool:=let z1:=D2 a1 (A8 a0);let z2:=A1i a2 z1;let z3:=A8 ((z2.length:Nat):Int);let z4:=A8 ((z1.length:Nat):Int);(C4 a1 (A8 a0))&&(cond (decide ((a2.length:Int) > (0:Int))) ((A0i a2 z1)&&((decide ((z3.length+z2.length)*1≤MAXB))&&((H5 z2)&&((decide (0≤(0:Int)∧(0:Int)≤(4:Int)∧(4:Int)≤(((C6 z2).size:Nat):Int)))&&(decide ((z3++z2).length+((C6 z2).extract (0:Int).toNat (4:Int).toNat).size≤MAXB)))))) ((decide ((z4.length+z1.length)*1≤MAXB))&&((H5 z1)&&((decide (0≤(0:Int)∧(0:Int)≤(4:Int)∧(4:Int)≤(((C6 z1).size:Nat):Int)))&&(decide ((z4++z1).length+((C6 z1).extract (0:Int).toNat (4:Int).toNat).size≤MAXB))))))
noncomputable abbrev A55:pshsDen A3U→Bool:=fun d=>O5 d.1.1 d.1.2.1 d.1.2.2.1
theorem B4W:RunP true G40 aLn Try.f67 A3U A55 A9E:=by
 rintro ⟨⟨a0,⟨a1,⟨a2,_⟩⟩⟩,_⟩ hp
 change O5 a0 a1 a2=true at hp
 unfold O5 at hp
 refine Eq.trans (b:=(let z1:=D2 a1 (A8 a0);let z2:=A1i a2 z1;let z3:=A8 ((z2.length:Nat):Int);let z4:=A8 ((z1.length:Nat):Int);let z5:=(C6 z2).extract (0:Int).toNat (4:Int).toNat;let z6:=(C6 z1).extract (0:Int).toNat (4:Int).toNat;cond (C4 a1 (A8 a0)) (cond (decide ((a2.length:Int) > (0:Int))) (cond (A0i a2 z1) (cond (decide ((z3.length+z2.length)*1≤MAXB)) (cond (H5 z2) (cond (decide (0≤(0:Int)∧(0:Int)≤(4:Int)∧(4:Int)≤(((C6 z2).size:Nat):Int))) (cond (decide ((z3++z2).length+z5.size≤MAXB)) (some (A6J ((z3++z2)++strInts z5))) none) none) none) none) none) (cond (decide ((z4.length+z1.length)*1≤MAXB)) (cond (H5 z1) (cond (decide (0≤(0:Int)∧(0:Int)≤(4:Int)∧(4:Int)≤(((C6 z1).size:Nat):Int))) (cond (decide ((z4++z1).length+z6.size≤MAXB)) (some (A6J ((z4++z1)++strInts z6))) none) none) none) none)) none)) (by kernel_rfl) ?_
 exact (cndA hp fun hp=>(K5 A6J hp (fun hp=>(cndA hp fun hp=>(cndA hp fun hp=>(cndA hp fun hp=>(cndA hp fun hp=>(cndT hp fun _h=>rfl)))))) (fun hp=>(cndA hp fun hp=>(cndA hp fun hp=>(cndA hp fun hp=>(cndT hp fun _h=>rfl)))))))
theorem B6D:aPP 67 (sumOf A3U A55 A9E):=pcD true G40 hlz B4W
noncomputable def S41:Tab:=Tab.add S40 67 (lift (sumOf A3U A55 A9E))
noncomputable def B9S:FuncId→Bool:=qadd B9R 67
theorem G41:aPG S41 B9S:=G40.addQ B6D (cbl Try.f67) (fun _=>rfl)

abbrev X5:List PSh:=[.t B5,.t B5]
noncomputable def M0 (a0 a1:List Int):Bool:=((⟨(a0.map fun n=>UInt8.ofNat n.toNat).toArray⟩:ByteArray).toList==(⟨(a1.map fun n=>UInt8.ofNat n.toNat).toArray⟩:ByteArray).toList)
noncomputable abbrev B1R (r:Bool):AV×List AObj:=((.t true .bool r),[])
noncomputable abbrev A3y:pshsDen X5→AV×List AObj:=fun d=>B1R (M0 d.1 d.2.1)
noncomputable abbrev A1Y:pshsDen X5→Bool:=fun d=>true
theorem B0A:RunP true G41 aLn Try.f79 X5 A1Y A3y:=by
 rintro ⟨a0,⟨a1,_⟩⟩ hp
 kernel_rfl
theorem B1M:aPP 79 (sumOf X5 A1Y A3y):=pcD true G41 hlz B0A
noncomputable def S42:Tab:=Tab.add S41 79 (lift (sumOf X5 A1Y A3y))
noncomputable def B9T:FuncId→Bool:=qadd B9S 79
theorem G42:aPG S42 B9T:=G41.addQ B1M (cbl Try.f79) (fun _=>rfl)

abbrev A3Q:List PSh:=[.t B5,.t (.int .i64)]
noncomputable def N3 (a0:List Int) (a1:Int):=let z1:=B9 a0 a1;A6 ((a0.take (IntKind.wrap .i64 ((z1.2.1)+(z1.1))).toNat).drop (z1.2.1).toNat) (0:Int) false
noncomputable def Q8 (a0:List Int) (a1:Int):=let z2:=N3 a0 a1;let z1:=A6 (z2.2.1) (z2.2.2.1) (z2.2.2.2);J6 (z1.2.1) (z1.2.2.1) (z1.2.2.2)
noncomputable def A2Q (a0:List Int) (a1:Int):=let z1:=N3 a0 a1;X2 (z1.1) ((A6 (z1.2.1) (z1.2.2.1) (z1.2.2.2)).1) ((Q8 a0 a1).2.2.2)
noncomputable def A72 (a0:List Int) (a1:Int):=let z1:=N3 a0 a1;A0F (z1.1) ((A6 (z1.2.1) (z1.2.2.1) (z1.2.2.2)).1) ((Q8 a0 a1).2.2.2)
noncomputable def A4J (a0:List Int) (a1:Int):=M0 (A72 a0 a1) ((a0.take (IntKind.wrap .i64 ((IntKind.wrap .i64 (((B9 a0 a1).2.1)+((B9 a0 a1).1)))+(4:Int))).toNat).drop a1.toNat)
noncomputable def A2R (a0:List Int) (a1:Int):=let z1:=N3 a0 a1;X2 (z1.1) ((A6 (z1.2.1) (z1.2.2.1) (z1.2.2.2)).1) []
noncomputable def A73 (a0:List Int) (a1:Int):=let z1:=N3 a0 a1;A0F (z1.1) ((A6 (z1.2.1) (z1.2.2.1) (z1.2.2.2)).1) []
noncomputable def A4K (a0:List Int) (a1:Int):=M0 (A73 a0 a1) ((a0.take (IntKind.wrap .i64 ((IntKind.wrap .i64 (((B9 a0 a1).2.1)+((B9 a0 a1).1)))+(4:Int))).toNat).drop a1.toNat)
noncomputable def A1h (a0:List Int) (a1:Int):Int×Int×Int×Bool×Lq1:=let z2:=N3 a0 a1;let z1:=A6 (z2.2.1) (z2.2.2.1) (z2.2.2.2);let z3:=B9 a0 a1;let z4:=(IntKind.wrap .i64 ((z3.2.1)+(z3.1)))+(4:Int);(cond (!(z3.2.2)) ((0:Int),(0:Int),a1,false,([]:Lq1)) (cond (decide ((z3.1) > (IntKind.wrap .i64 ((IntKind.wrap .i64 ((a0.length:Int) - (z3.2.1))) - (4:Int))))) ((0:Int),(0:Int),a1,false,([]:Lq1)) (cond ((z2.1)==(1:Int)) (cond ((Q8 a0 a1).2.2.1) ((0:Int),(0:Int),a1,false,([]:Lq1)) (cond (!(A2Q a0 a1)) ((0:Int),(0:Int),a1,false,([]:Lq1)) (cond (!(A4J a0 a1)) ((0:Int),(0:Int),a1,false,([]:Lq1)) ((z2.1),(z1.1),IntKind.wrap .i64 z4,true,((Q8 a0 a1).2.2.2))))) (cond (z1.2.2.2) ((0:Int),(0:Int),a1,false,([]:Lq1)) (cond (!(A2R a0 a1)) ((0:Int),(0:Int),a1,false,([]:Lq1)) (cond (!(A4K a0 a1)) ((0:Int),(0:Int),a1,false,([]:Lq1)) ((z2.1),(z1.1),IntKind.wrap .i64 z4,true,([]:Lq1))))))))
noncomputable abbrev J9 (r:Int×Int×Int×Bool×Lq1):AV×List AObj:=((.tup [(.agg [(ti r.1),(ti r.2.1),(.all 0 3)]),(ti r.2.2.1),(.t true .bool r.2.2.2.1)]),[(.rows 124 true tq3 r.2.2.2.2)])
noncomputable abbrev A9A:pshsDen A3Q→AV×List AObj:=fun d=>J9 (A1h d.1 d.2.1)
noncomputable def A0h (a0:List Int) (a1:Int):Bool:=let z3:=N3 a0 a1;let z1:=A6 (z3.2.1) (z3.2.2.1) (z3.2.2.2);let z5:=B9 a0 a1;let z2:=IntKind.wrap .i64 ((z5.2.1)+(z5.1));let z6:=Q8 a0 a1;let z7:=IntKind.wrap .i64 (z2+(4:Int));let z4:=decide (0≤a1∧a1≤z7∧z7≤(a0.length:Int));(O4 a0 a1)&&(cond (!(z5.2.2)) true (cond (decide ((z5.1) > (IntKind.wrap .i64 ((IntKind.wrap .i64 ((a0.length:Int) - (z5.2.1))) - (4:Int))))) true ((decide (0≤(z5.2.1)∧(z5.2.1)≤z2∧z2≤(a0.length:Int)))&&((B8 ((a0.take z2.toNat).drop (z5.2.1).toNat) (0:Int) false)&&((B8 (z3.2.1) (z3.2.2.1) (z3.2.2.2))&&(cond ((z3.1)==(1:Int)) ((N5 (z1.2.1) (z1.2.2.1) (z1.2.2.2))&&(cond (z6.2.2.1) true ((F9 (z3.1) (z1.1) (z6.2.2.2))&&(cond (!(A2Q a0 a1)) true ((O5 (z3.1) (z1.1) (z6.2.2.2))&&z4))))) (cond (z1.2.2.2) true ((F9 (z3.1) (z1.1) [])&&(cond (!(A2R a0 a1)) true ((O5 (z3.1) (z1.1) [])&&z4))))))))))
noncomputable abbrev A51:pshsDen A3Q→Bool:=fun d=>A0h d.1 d.2.1
theorem B4Q:RunP false G42 aLn Try.f28 A3Q A51 A9A:=by
 rintro ⟨a0,⟨a1,_⟩⟩ hp
 change A0h a0 a1=true at hp
 unfold A0h at hp
 refine Eq.trans (b:=(let z3:=J9 ((0:Int),(0:Int),a1,false,([]:Lq1));let z4:=N3 a0 a1;let z1:=A6 (z4.2.1) (z4.2.2.1) (z4.2.2.2);let z6:=B9 a0 a1;let z2:=IntKind.wrap .i64 ((z6.2.1)+(z6.1));let z7:=(Q8 a0 a1).2.2.2;let z8:=IntKind.wrap .i64 (z2+(4:Int));let z5:=decide (0≤a1∧a1≤z8∧z8≤(a0.length:Int));cond (O4 a0 a1) (cond (!(z6.2.2)) (some z3) (cond (decide ((z6.1) > (IntKind.wrap .i64 ((IntKind.wrap .i64 ((a0.length:Int) - (z6.2.1))) - (4:Int))))) (some z3) (cond (decide (0≤(z6.2.1)∧(z6.2.1)≤z2∧z2≤(a0.length:Int))) (cond (B8 ((a0.take z2.toNat).drop (z6.2.1).toNat) (0:Int) false) (cond (B8 (z4.2.1) (z4.2.2.1) (z4.2.2.2)) (cond ((z4.1)==(1:Int)) (cond (N5 (z1.2.1) (z1.2.2.1) (z1.2.2.2)) (cond ((Q8 a0 a1).2.2.1) (some z3) (cond (F9 (z4.1) (z1.1) z7) (cond (!(A2Q a0 a1)) (some z3) (cond (O5 (z4.1) (z1.1) z7) (cond z5 (cond (!(A4J a0 a1)) (some z3) (some (J9 ((z4.1),(z1.1),IntKind.wrap .i64 (z2+(4:Int)),true,z7)))) none) none)) none)) none) (cond (z1.2.2.2) (some z3) (cond (F9 (z4.1) (z1.1) []) (cond (!(A2R a0 a1)) (some z3) (cond (O5 (z4.1) (z1.1) []) (cond z5 (cond (!(A4K a0 a1)) (some z3) (some (J9 ((z4.1),(z1.1),IntKind.wrap .i64 (z2+(4:Int)),true,([]:Lq1))))) none) none)) none))) none) none) none))) none)) (by kernel_rfl) ?_
 exact (cndA hp fun hp=>(K5 J9 hp (fun hp=>rfl) (fun hp=>(K5 J9 hp (fun hp=>rfl) (fun hp=>(cndA hp fun hp=>(cndA hp fun hp=>(cndA hp fun hp=>(K5 J9 hp (fun hp=>(cndA hp fun hp=>(K5 J9 hp (fun hp=>rfl) (fun hp=>(cndA hp fun hp=>(K5 J9 hp (fun hp=>rfl) (fun hp=>(cndA hp fun hp=>(cndT hp fun _h=>(N9 J9 (fun _h=>rfl) (fun _h=>rfl))))))))))) (fun hp=>(K5 J9 hp (fun hp=>rfl) (fun hp=>(cndA hp fun hp=>(K5 J9 hp (fun hp=>rfl) (fun hp=>(cndA hp fun hp=>(cndT hp fun _h=>(N9 J9 (fun _h=>rfl) (fun _h=>rfl)))))))))))))))))))
theorem B6x:aPP 28 (sumOf A3Q A51 A9A):=pcD false G42 hlz B4Q
noncomputable def S43:Tab:=Tab.add S42 28 (lift (sumOf A3Q A51 A9A))
noncomputable def B9U:FuncId→Bool:=B9T
theorem G43:aPG S43 B9U:=G42.add B6x (cbl Try.f28) (by kernel_rfl)

abbrev B9f:List Sh:=.junk::C0N
abbrev C0O:List Sh:=.junk::.junk::B9f
abbrev C0P:List Sh:=.junk::.junk::.junk::.junk::.junk::.junk::C0O
abbrev u58:=((),(),u56)
abbrev u65:=((),(),(),(),(),(),(),u58)
abbrev B9a:List AV:=.junk::C0x
abbrev B9b:List AV:=.junk::.junk::B9a
abbrev C0y:List AV:=.junk::.junk::.junk::.junk::.junk::.junk::B9b
abbrev A3X:List PSh:=[.t B5,.t (.int .i64)]
abbrev L6:SS:=⟨(.t false B5::tI::.junk::.junk::.junk::.junk::.junk::tI::tI::B9f),[]⟩
abbrev R9:SS:=⟨(.junk::.junk::.junk::.junk::tI::tI::.t true .bool::C0O),[]⟩
abbrev X4:SS:=⟨(.junk::C0P),[]⟩
noncomputable def A9p (x0:List Int) (x1 x7 x8:Int):RT L6.den:=let z2:=IntKind.wrap .i64 ((7:Int)*x8);let z3:=IntKind.wrap .i64 (x1+x8);let z1:=IntKind.wrap .i64 (x0.getD (z3.toNat) (0:Int));let z4:=iand .i64 z1 (127:Int);let z5:=IntKind.bits .i64;(.br (decide (x8<(5:Int))) (.br (decide (x1 ≥ (0:Int))) (.br (decide (x1<(x0.length:Int))) (.br (decide (z3<(x0.length:Int))) (.br (decide (0≤z3∧z3<(x0.length:Int))) (.br (decide (0≤(IntKind.wrap .u64 z2))) (.br (decide (z1 > (127:Int))) (.next ((x0,x1,(),(),(),(),(),ior .i64 x7 (IntKind.wrap .i64 (z4*2 ^ (min (Int.toNat (IntKind.wrap .u64 z2)) z5))),IntKind.wrap .i64 (x8+(1:Int)),u56),())) (.br (decide (x8 > (0:Int))) (.br (z1==(0:Int)) (.done .ret R9 (((),(),(),(),(0:Int),(0:Int),false,u58),())) (.br (decide ((ior .i64 x7 (IntKind.wrap .i64 (z4*2 ^ (min (Int.toNat (IntKind.wrap .u64 z2)) z5)))) > (1000000000:Int))) (.done .ret R9 (((),(),(),(),(0:Int),(0:Int),false,u58),())) (.done .ret R9 (((),(),(),(),ior .i64 x7 (IntKind.wrap .i64 (z4*2 ^ (min (Int.toNat (IntKind.wrap .u64 z2)) z5))),IntKind.wrap .i64 (z3+(1:Int)),true,u58),())))) (.br (decide ((ior .i64 x7 (IntKind.wrap .i64 (z4*2 ^ (min (Int.toNat (IntKind.wrap .u64 z2)) z5)))) > (1000000000:Int))) (.done .ret R9 (((),(),(),(),(0:Int),(0:Int),false,u58),())) (.done .ret R9 (((),(),(),(),ior .i64 x7 (IntKind.wrap .i64 (z4*2 ^ (min (Int.toNat (IntKind.wrap .u64 z2)) z5))),IntKind.wrap .i64 (z3+(1:Int)),true,u58),()))))) .fail) .fail) (.done (.exit 0) X4 ((u65),()))) (.done (.exit 0) X4 ((u65),()))) (.done (.exit 0) X4 ((u65),()))) (.done (.exit 0) X4 ((u65),())))
abbrev A1B:=(List Int)×(Int)×(Int)×(Int)
abbrev Z6:=Nat×(Int)×(Int)×(Bool)
def A4B:Z6:=(99,((0:Int):Int),((0:Int):Int),(false:Bool))
noncomputable def X0 (x0:List Int) (x1 x7 x8:Int):A1B ⊕ Z6:=let z2:=IntKind.wrap .i64 ((7:Int)*x8);let z3:=IntKind.wrap .i64 (x1+x8);let z1:=IntKind.wrap .i64 (x0.getD (z3.toNat) (0:Int));let z4:=iand .i64 z1 (127:Int);let z5:=IntKind.bits .i64;(cond (decide (x8<(5:Int))) (cond (decide (x1 ≥ (0:Int))) (cond (decide (x1<(x0.length:Int))) (cond (decide (z3<(x0.length:Int))) (cond (decide (0≤z3∧z3<(x0.length:Int))) (cond (decide (0≤(IntKind.wrap .u64 z2))) (cond (decide (z1 > (127:Int))) (.inl (x0,x1,ior .i64 x7 (IntKind.wrap .i64 (z4*2 ^ (min (Int.toNat (IntKind.wrap .u64 z2)) z5))),IntKind.wrap .i64 (x8+(1:Int)))) (cond (decide (x8 > (0:Int))) (cond (z1==(0:Int)) (.inr (0,(0:Int),(0:Int),false)) (cond (decide ((ior .i64 x7 (IntKind.wrap .i64 (z4*2 ^ (min (Int.toNat (IntKind.wrap .u64 z2)) z5)))) > (1000000000:Int))) (.inr (0,(0:Int),(0:Int),false)) (.inr (0,ior .i64 x7 (IntKind.wrap .i64 (z4*2 ^ (min (Int.toNat (IntKind.wrap .u64 z2)) z5))),IntKind.wrap .i64 (z3+(1:Int)),true)))) (cond (decide ((ior .i64 x7 (IntKind.wrap .i64 (z4*2 ^ (min (Int.toNat (IntKind.wrap .u64 z2)) z5)))) > (1000000000:Int))) (.inr (0,(0:Int),(0:Int),false)) (.inr (0,ior .i64 x7 (IntKind.wrap .i64 (z4*2 ^ (min (Int.toNat (IntKind.wrap .u64 z2)) z5))),IntKind.wrap .i64 (z3+(1:Int)),true))))) (.inr A4B)) (.inr A4B)) (.inr (1,((0:Int):Int),((0:Int):Int),(false:Bool)))) (.inr (1,((0:Int):Int),((0:Int):Int),(false:Bool)))) (.inr (1,((0:Int):Int),((0:Int):Int),(false:Bool)))) (.inr (1,((0:Int):Int),((0:Int):Int),(false:Bool))))
noncomputable def M4 (x0:List Int) (x1 x7 x8:Int):Z6:=itX (fun v:A1B=>X0 v.1 v.2.1 v.2.2.1 v.2.2.2) A4B (x0,x1,x7,x8)
noncomputable def A4s (a:Z6):CT:=(.br (a.1==0) (.done .ret R9 (((),(),(),(),a.2.1,a.2.2.1,a.2.2.2,u58),())) (.br (a.1==1) (.done (.exit 0) X4 ((u65),())) .fail))
noncomputable def B34 (x0:List Int) (x1 x7 x8:Int):CT:=A4s (M4 x0 x1 x7 x8)
noncomputable abbrev A16 {α:Sort _} (f:(List Int)→Int→Int→Int→α) (d:L6.den):α:=f d.1.1 d.1.2.1 d.1.2.2.2.2.2.2.2.1 d.1.2.2.2.2.2.2.2.2.1
noncomputable abbrev A41:L6.den→RT L6.den:=(A16 A9p)
noncomputable def A5J:Code:=((loopsIn 0 (bodyOf Try.f83)).getD 0 (0,.skip)).2
noncomputable abbrev A80 (v:A1B):L6.den:=((v.1,v.2.1,(),(),(),(),(),v.2.2.1,v.2.2.2,u56),())
theorem B3D:(∀ v:A1B,(A9p v.1 v.2.1 v.2.2.1 v.2.2.2).val=relS A80 A4s (X0 v.1 v.2.1 v.2.2.1 v.2.2.2))∧∀ a:Z6,CEnd L6.den (A4s a):=⟨fun v=>by repeat' first | apply relB | rfl,fun a=>(cendB aCD (cendB aCD cendF))⟩
noncomputable def A8L (x0:List Int) (x1 x7 x8:Int):Option (Ex×St):=let z3:=(⟨(.junk::.junk::.junk::.junk::(ti (0:Int))::(ti (0:Int))::(.t true .bool false)::B9b),[],0,[]⟩:St);let z4:=IntKind.wrap .i64 ((7:Int)*x8);let z5:=IntKind.wrap .i64 (x1+x8);let z1:=IntKind.wrap .i64 (x0.getD (z5.toNat) (0:Int));let z6:=(⟨(.junk::C0y),[],0,[]⟩:St);let z7:=iand .i64 z1 (127:Int);let z8:=IntKind.bits .i64;let z2:=(⟨(.junk::.junk::.junk::.junk::(ti (ior .i64 x7 (IntKind.wrap .i64 (z7*2 ^ (min (Int.toNat (IntKind.wrap .u64 z4)) z8)))))::(ti (IntKind.wrap .i64 (z5+(1:Int))))::(.t true .bool true)::B9b),[],0,[]⟩:St);(cond (decide (x8<(5:Int))) (cond (decide (x1 ≥ (0:Int))) (cond (decide (x1<(x0.length:Int))) (cond (decide (z5<(x0.length:Int))) (cond (decide (0≤z5∧z5<(x0.length:Int))) (cond (decide (0≤(IntKind.wrap .u64 z4))) (cond (decide (z1 > (127:Int))) (some (.normal,(⟨((.t false B5 x0)::(ti x1)::.junk::.junk::.junk::.junk::.junk::(ti (ior .i64 x7 (IntKind.wrap .i64 (z7*2 ^ (min (Int.toNat (IntKind.wrap .u64 z4)) z8)))))::(ti (IntKind.wrap .i64 (x8+(1:Int))))::B9a),[],0,[]⟩:St))) (cond (decide (x8 > (0:Int))) (cond (z1==(0:Int)) (some (.ret,z3)) (cond (decide ((ior .i64 x7 (IntKind.wrap .i64 (z7*2 ^ (min (Int.toNat (IntKind.wrap .u64 z4)) z8)))) > (1000000000:Int))) (some (.ret,z3)) (some (.ret,z2)))) (cond (decide ((ior .i64 x7 (IntKind.wrap .i64 (z7*2 ^ (min (Int.toNat (IntKind.wrap .u64 z4)) z8)))) > (1000000000:Int))) (some (.ret,z3)) (some (.ret,z2))))) none) none) (some ((.exit 0),z6))) (some ((.exit 0),z6))) (some ((.exit 0),z6))) (some ((.exit 0),z6)))
theorem B18:RdA G43 aLn 0 A5J L6 0 [] (kepts [4,5,6] [(0,[])]) (A16 A8L):=by
 intro d
 kernel_rfl
theorem B2i:∀ d:L6.den,(A16 A8L) d=(A41 d).opt 0 []:=by
 intro d
 kernel_rfl
noncomputable abbrev A7F:St→Option Tree:=L6.say 0 [] [] (A16 B34)
theorem B3j:aPL A7F A5J:=SS.wp2 hlz [] A41 B18 B2i _ (fun d=>Runs.ofI2 (step:=A41) A80 B3D rfl (d.1.1,d.1.2.1,d.1.2.2.2.2.2.2.2.1,d.1.2.2.2.2.2.2.2.2.1))
noncomputable def A4 (a0:List Int) (a1:Int):Int×Int×Bool:=let z1:=M4 a0 a1 (0:Int) (0:Int);(cond (z1.1==0) ((z1.2.1),(z1.2.2.1),(z1.2.2.2)) ((0:Int),(0:Int),false))
noncomputable abbrev A6K (r:Int×Int×Bool):AV×List AObj:=((.tup [(ti r.1),(ti r.2.1),(.t true .bool r.2.2)]),[])
noncomputable abbrev A9H:pshsDen A3X→AV×List AObj:=fun d=>A6K (A4 d.1 d.2.1)
noncomputable def D8 (a0:List Int) (a1:Int):Bool:=let z1:=M4 a0 a1 (0:Int) (0:Int);cond (z1.1==0) true (z1.1==1)
noncomputable abbrev A59:pshsDen A3X→Bool:=fun d=>D8 d.1 d.2.1
noncomputable abbrev B6r:Nat→St→Option Tree:=fun b=>match b with | 0=>A7F | _=>fun _=>none
theorem B4Z:RunP true G43 (B6r) Try.f83 A3X A59 A9H:=by
 rintro ⟨a0,⟨a1,_⟩⟩ hp
 change D8 a0 a1=true at hp
 unfold D8 at hp
 refine Eq.trans (b:=(let z1:=M4 a0 a1 (0:Int) (0:Int);cond (z1.1==0) (some (A6K ((z1.2.1),(z1.2.2.1),(z1.2.2.2)))) (cond (z1.1==1) (some (A6K ((0:Int),(0:Int),false))) none))) (by kernel_rfl) ?_
 exact (K5 A6K hp (fun hp=>rfl) (fun hp=>(cndT hp fun _h=>rfl)))
theorem B6G:aPP 83 (sumOf A3X A59 A9H):=pcD true G43 (hl1 (i:=0) (by kernel_rfl) B3j) B4Z
noncomputable def S44:Tab:=Tab.add S43 83 (lift (sumOf A3X A59 A9H))
noncomputable def B9V:FuncId→Bool:=qadd B9U 83
theorem G44:aPG S44 B9V:=G43.addQ B6G (cbl Try.f83) (fun _=>rfl)

abbrev B9d:List Sh:=.junk::C0J
abbrev B88:List AV:=.junk::C0u
abbrev A30:List PSh:=[.t B5]
noncomputable def A2H:Code:=((loopsIn 0 (bodyOf Try.f109)).getD 0 (0,.skip)).2
noncomputable def A2I:Code:=((loopsIn 0 (bodyOf Try.f109)).getD 1 (0,.skip)).2
abbrev P3:SS:=⟨(.t false B5::.junk::.junk::.all 0 1::B9d),[.rows 5 true (.int .u8)]⟩
abbrev A60:SS:=⟨(.t false B5::.junk::.junk::.all 0 1::B9d),[.rows 5 true (.int .u8)]⟩
noncomputable def A9r (x0 h0:List Int):RT P3.den:=(.br ((Int.tmod (h0.length:Int) (64:Int)) != (56:Int)) (.br (decide ((h0.length+[(0:Int)].length)*1≤MAXB)) (.next ((x0,u34),(h0++[(0:Int)],()))) .fail) (.done (.exit 0) A60 ((x0,u34),(h0,()))))
abbrev A1D:=(List Int)×(List Int)
abbrev Z7:=Nat×(List Int)×(List Int)
def A8z:Z7:=(99,([]:List Int),([]:List Int))
noncomputable def A2g (x0 h0:List Int):A1D ⊕ Z7:=(cond ((Int.tmod (h0.length:Int) (64:Int)) != (56:Int)) (cond (decide ((h0.length+[(0:Int)].length)*1≤MAXB)) (.inl (x0,h0++[(0:Int)])) (.inr A8z)) (.inr (0,x0,h0)))
noncomputable def D7 (x0 h0:List Int):Z7:=itX (fun v:A1D=>A2g v.1 v.2) A8z (x0,h0)
noncomputable def A4u (a:Z7):CT:=(.br (a.1==0) (.done (.exit 0) A60 ((a.2.1,u34),(a.2.2,()))) .fail)
noncomputable def B36 (x0 h0:List Int):CT:=A4u (D7 x0 h0)
noncomputable abbrev A43:P3.den→RT P3.den:=(fun d=>A9r d.1.1 d.2.1)
noncomputable abbrev A82 (v:A1D):P3.den:=((v.1,u34),(v.2,()))
theorem B3F:(∀ v:A1D,(A9r v.1 v.2).val=relS A82 A4u (A2g v.1 v.2))∧∀ a:Z7,CEnd P3.den (A4u a):=⟨fun v=>(relB (relB rfl rfl) rfl),fun a=>(cendB aCD cendF)⟩
noncomputable def A8N (x0 h0:List Int):Option (Ex×St):=(cond ((Int.tmod (h0.length:Int) (64:Int)) != (56:Int)) (cond (decide ((h0.length+[(0:Int)].length)*1≤MAXB)) (some (.normal,(⟨((.t false B5 x0)::.junk::.junk::(.all 0 1)::B88),[(.rows 5 true (.int .u8) (h0++[(0:Int)]))],0,[]⟩:St))) none) (some ((.exit 0),(⟨((.t false B5 x0)::.junk::.junk::(.all 0 1)::B88),[(.rows 5 true (.int .u8) h0)],0,[]⟩:St))))
theorem B2a:RdA G44 aLn 0 A2H P3 0 [] (kepts [] [(0,[0,3])]) (fun d=>A8N d.1.1 d.2.1):=by
 intro d
 kernel_rfl
theorem B2k:∀ d:P3.den,(fun d=>A8N d.1.1 d.2.1) d=(A43 d).opt 0 []:=by
 intro d
 kernel_rfl
noncomputable abbrev A7H:St→Option Tree:=P3.say 0 [] [] (fun d=>B36 d.1.1 d.2.1)
theorem B3l:aPL A7H A2H:=SS.wp2 hlz [] A43 B2a B2k _ (fun d=>Runs.ofI2 (step:=A43) A82 B3F rfl (d.1.1,d.2.1))
abbrev P4:SS:=⟨(.junk::.junk::.junk::.all 0 1::tI::tI::B5N),[.rows 5 true (.int .u8)]⟩
abbrev A61:SS:=⟨(.junk::.junk::.junk::.all 0 1::B9d),[.rows 5 true (.int .u8)]⟩
noncomputable def A9s (x4 x5:Int) (h0:List Int):RT P4.den:=(.br (decide (x5 ≥ (0:Int))) (.br (decide (0≤(IntKind.wrap .u64 x5))) (.br (decide ((h0.length+[IntKind.wrap .u8 (Int.fdiv x4 (2 ^ (min (Int.toNat (IntKind.wrap .u64 x5)) (IntKind.bits .i64))))].length)*1≤MAXB)) (.next (((),(),(),(),x4,IntKind.wrap .i64 (x5 - (8:Int)),u29),(h0++[IntKind.wrap .u8 (Int.fdiv x4 (2 ^ (min (Int.toNat (IntKind.wrap .u64 x5)) (IntKind.bits .i64))))],()))) .fail) .fail) (.done (.exit 2) A61 ((u35),(h0,()))))
abbrev A1E:=(Int)×(Int)×(List Int)
abbrev Z8:=Nat×(List Int)
def A4C:Z8:=(99,([]:List Int))
noncomputable def A2h (x4 x5:Int) (h0:List Int):A1E ⊕ Z8:=(cond (decide (x5 ≥ (0:Int))) (cond (decide (0≤(IntKind.wrap .u64 x5))) (cond (decide ((h0.length+[IntKind.wrap .u8 (Int.fdiv x4 (2 ^ (min (Int.toNat (IntKind.wrap .u64 x5)) (IntKind.bits .i64))))].length)*1≤MAXB)) (.inl (x4,IntKind.wrap .i64 (x5 - (8:Int)),h0++[IntKind.wrap .u8 (Int.fdiv x4 (2 ^ (min (Int.toNat (IntKind.wrap .u64 x5)) (IntKind.bits .i64))))])) (.inr A4C)) (.inr A4C)) (.inr (0,h0)))
noncomputable def Q7 (x4 x5:Int) (h0:List Int):Z8:=itX (fun v:A1E=>A2h v.1 v.2.1 v.2.2) A4C (x4,x5,h0)
noncomputable def A4v (a:Z8):CT:=(.br (a.1==0) (.done (.exit 2) A61 ((u35),(a.2,()))) .fail)
noncomputable def B37 (x4 x5:Int) (h0:List Int):CT:=A4v (Q7 x4 x5 h0)
noncomputable abbrev A44:P4.den→RT P4.den:=(fun d=>A9s d.1.2.2.2.2.1 d.1.2.2.2.2.2.1 d.2.1)
noncomputable abbrev A83 (v:A1E):P4.den:=(((),(),(),(),v.1,v.2.1,u29),(v.2.2,()))
theorem B3G:(∀ v:A1E,(A9s v.1 v.2.1 v.2.2).val=relS A83 A4v (A2h v.1 v.2.1 v.2.2))∧∀ a:Z8,CEnd P4.den (A4v a):=⟨fun v=>(relB (relB (relB rfl rfl) rfl) rfl),fun a=>(cendB aCD cendF)⟩
noncomputable def A8O (x4 x5:Int) (h0:List Int):Option (Ex×St):=(cond (decide (x5 ≥ (0:Int))) (cond (decide (0≤(IntKind.wrap .u64 x5))) (cond (decide ((h0.length+[IntKind.wrap .u8 (Int.fdiv x4 (2 ^ (min (Int.toNat (IntKind.wrap .u64 x5)) (IntKind.bits .i64))))].length)*1≤MAXB)) (some (.normal,(⟨(.junk::.junk::.junk::(.all 0 1)::(ti x4)::(ti (IntKind.wrap .i64 (x5 - (8:Int))))::B7Q),[(.rows 5 true (.int .u8) (h0++[IntKind.wrap .u8 (Int.fdiv x4 (2 ^ (min (Int.toNat (IntKind.wrap .u64 x5)) (IntKind.bits .i64))))]))],0,[]⟩:St))) none) none) (some ((.exit 2),(⟨(.junk::.junk::.junk::(.all 0 1)::B88),[(.rows 5 true (.int .u8) h0)],0,[]⟩:St))))
theorem B2b:RdA G44 aLn 2 A2I P4 0 [] (kepts [] [(2,[3])]) (fun d=>A8O d.1.2.2.2.2.1 d.1.2.2.2.2.2.1 d.2.1):=by
 intro d
 kernel_rfl
theorem B2l:∀ d:P4.den,(fun d=>A8O d.1.2.2.2.2.1 d.1.2.2.2.2.2.1 d.2.1) d=(A44 d).opt 0 []:=by
 intro d
 kernel_rfl
noncomputable abbrev A7I:St→Option Tree:=P4.say 0 [] [] (fun d=>B37 d.1.2.2.2.2.1 d.1.2.2.2.2.2.1 d.2.1)
theorem B3m:aPL A7I A2I:=SS.wp2 hlz [] A44 B2b B2l _ (fun d=>Runs.ofI2 (step:=A44) A83 B3G rfl (d.1.2.2.2.2.1,d.1.2.2.2.2.2.1,d.2.1))
noncomputable def A01 (a0:List Int):=let z1:=D7 a0 ((([]:List Int)++a0)++[(128:Int)]);Q7 (IntKind.wrap .i64 ((((z1.2.1).length:Nat):Int)*(8:Int))) (56:Int) (z1.2.2)
noncomputable def F5 (a0:List Int):List Int:=((A01 a0).2)
noncomputable abbrev B2B (r:List Int):AV×List AObj:=((.t true B5 r),[])
noncomputable abbrev A9K:pshsDen A30→AV×List AObj:=fun d=>B2B (F5 d.1)
noncomputable def A04 (a0:List Int):Bool:=let z1:=([]:List Int);(decide ((z1.length+a0.length)*1≤MAXB))&&((decide (((z1++a0).length+[(128:Int)].length)*1≤MAXB))&&(((D7 a0 ((z1++a0)++[(128:Int)])).1==0)&&((A01 a0).1==0)))
noncomputable abbrev A6c:pshsDen A30→Bool:=fun d=>A04 d.1
noncomputable abbrev B6t:Nat→St→Option Tree:=fun b=>match b with | 0=>A7H | 2=>A7I | _=>fun _=>none
theorem B42:RunP true G44 (B6t) Try.f109 A30 A6c A9K:=by
 rintro ⟨a0,_⟩ hp
 change A04 a0=true at hp
 unfold A04 at hp
 refine Eq.trans (b:=(let z1:=([]:List Int);cond (decide ((z1.length+a0.length)*1≤MAXB)) (cond (decide (((z1++a0).length+[(128:Int)].length)*1≤MAXB)) (cond ((D7 a0 ((z1++a0)++[(128:Int)])).1==0) (cond ((A01 a0).1==0) (some (B2B ((A01 a0).2))) none) none) none) none)) (by kernel_rfl) ?_
 exact (cndA hp fun hp=>(cndA hp fun hp=>(cndA hp fun hp=>(cndT hp fun _h=>rfl))))
theorem B6J:aPP 109 (sumOf A30 A6c A9K):=pcD true G44 (by
  rw [show loopsIn 0 (bodyOf Try.f109)=[(0,A2H),(2,A2I)] by kernel_rfl];intro p hp;simp only [List.mem_cons,List.mem_nil_iff,or_false] at hp
  rcases hp with rfl | rfl
  ·exact B3l
  ·exact B3m) B42
noncomputable def S45:Tab:=Tab.add S44 109 (lift (sumOf A30 A6c A9K))
noncomputable def B9W:FuncId→Bool:=qadd B9V 109
theorem G45:aPG S45 B9W:=G44.addQ B6J (cbl Try.f109) (fun _=>rfl)

abbrev A23:Ty:=.sl (.int .i64)
abbrev B0P:List PSh:=[]
noncomputable def A5o :List Int:=[(1116352408:Int),(1899447441:Int),(3049323471:Int),(3921009573:Int),(961987163:Int),(1508970993:Int),(2453635748:Int),(2870763221:Int),(3624381080:Int),(310598401:Int),(607225278:Int),(1426881987:Int),(1925078388:Int),(2162078206:Int),(2614888103:Int),(3248222580:Int),(3835390401:Int),(4022224774:Int),(264347078:Int),(604807628:Int),(770255983:Int),(1249150122:Int),(1555081692:Int),(1996064986:Int),(2554220882:Int),(2821834349:Int),(2952996808:Int),(3210313671:Int),(3336571891:Int),(3584528711:Int),(113926993:Int),(338241895:Int),(666307205:Int),(773529912:Int),(1294757372:Int),(1396182291:Int),(1695183700:Int),(1986661051:Int),(2177026350:Int),(2456956037:Int),(2730485921:Int),(2820302411:Int),(3259730800:Int),(3345764771:Int),(3516065817:Int),(3600352804:Int),(4094571909:Int),(275423344:Int),(430227734:Int),(506948616:Int),(659060556:Int),(883997877:Int),(958139571:Int),(1322822218:Int),(1537002063:Int),(1747873779:Int),(1955562222:Int),(2024104815:Int),(2227730452:Int),(2361852424:Int),(2428436474:Int),(2756734187:Int),(3204031479:Int),(3329325298:Int)]
noncomputable abbrev B84 (r:List Int):AV×List AObj:=((.t true A23 r),[])
noncomputable abbrev B5G:pshsDen B0P→AV×List AObj:=fun d=>B84 (A5o )
noncomputable abbrev B1l:pshsDen B0P→Bool:=fun d=>true
theorem B79:RunP true G45 aLn Try.f110 B0P B1l B5G:=by
 rintro _ hp
 kernel_rfl
theorem B82:aPP 110 (sumOf B0P B1l B5G):=pcD true G45 hlz B79
noncomputable def S46:Tab:=Tab.add S45 110 (lift (sumOf B0P B1l B5G))
noncomputable def B9X:FuncId→Bool:=qadd B9W 110
theorem G46:aPG S46 B9X:=G45.addQ B82 (cbl Try.f110) (fun _=>rfl)

abbrev A31:List PSh:=[.t (.int .i64),.t (.int .i64)]
noncomputable def B3 (a0 a1:Int):Int:=(iand .i64 (ior .i64 (Int.fdiv a0 (2 ^ (min (Int.toNat (IntKind.wrap .u64 a1)) (IntKind.bits .i64)))) (IntKind.wrap .i64 (a0*2 ^ (min (Int.toNat (IntKind.wrap .u64 (IntKind.wrap .i64 ((32:Int) - a1)))) (IntKind.bits .i64))))) (4294967295:Int))
noncomputable abbrev B2C (r:Int):AV×List AObj:=((ti r),[])
noncomputable abbrev A9L:pshsDen A31→AV×List AObj:=fun d=>B2C (B3 d.1 d.2.1)
noncomputable def B0 (a0 a1:Int):Bool:=(decide (0≤(IntKind.wrap .u64 a1)))&&(decide (0≤(IntKind.wrap .u64 (IntKind.wrap .i64 ((32:Int) - a1)))))
noncomputable abbrev A6d:pshsDen A31→Bool:=fun d=>B0 d.1 d.2.1
theorem B44:RunP true G46 aLn Try.f146 A31 A6d A9L:=by
 rintro ⟨a0,⟨a1,_⟩⟩ hp
 change B0 a0 a1=true at hp
 unfold B0 at hp
 refine Eq.trans (b:=(let z1:=IntKind.wrap .i64 ((32:Int) - a1);cond (decide (0≤(IntKind.wrap .u64 a1))) (cond (decide (0≤(IntKind.wrap .u64 z1))) (some (B2C (iand .i64 (ior .i64 (Int.fdiv a0 (2 ^ (min (Int.toNat (IntKind.wrap .u64 a1)) (IntKind.bits .i64)))) (IntKind.wrap .i64 (a0*2 ^ (min (Int.toNat (IntKind.wrap .u64 z1)) (IntKind.bits .i64))))) (4294967295:Int)))) none) none)) (by kernel_rfl) ?_
 exact (cndA hp fun hp=>(cndT hp fun _h=>rfl))
theorem B6L:aPP 146 (sumOf A31 A6d A9L):=pcD true G46 hlz B44
noncomputable def S47:Tab:=Tab.add S46 146 (lift (sumOf A31 A6d A9L))
noncomputable def B9Y:FuncId→Bool:=qadd B9X 146
theorem G47:aPG S47 B9Y:=G46.addQ B6L (cbl Try.f146) (fun _=>rfl)

abbrev C0R:List Sh:=.junk::.junk::.junk::.junk::.junk::.junk::.junk::.junk::B7Z
abbrev C0S:List Sh:=.junk::C0R
abbrev u97:=((),(),(),(),u93)
abbrev C0A:List AV:=.junk::.junk::.junk::.junk::.junk::.junk::.junk::.junk::B7U
abbrev C0B:List AV:=.junk::C0A
abbrev C1p:List Sh:=.junk::.junk::.junk::.junk::.junk::.junk::.junk::B7Z
abbrev u96:=((),(),(),u93)
abbrev C1h:List AV:=.junk::.junk::.junk::.junk::.junk::.junk::.junk::B7U
abbrev A2v:List PSh:=[.t B5]
noncomputable def A1S:Code:=((loopsIn 0 (bodyOf Try.f145)).getD 0 (0,.skip)).2
noncomputable def A1T:Code:=((loopsIn 0 (bodyOf Try.f145)).getD 1 (0,.skip)).2
abbrev L8:SS:=⟨(.t false B5::.junk::.junk::.all 0 1::tI::C0R),[.rows 3 true (.int .i64)]⟩
abbrev A5v:SS:=⟨(.junk::.junk::.junk::.all 0 1::C0S),[.rows 3 true (.int .i64)]⟩
noncomputable def A7Q (x0:List Int) (x4:Int) (h0:List Int):RT L8.den:=let z1:=IntKind.wrap .i64 ((4:Int)*x4);let z3:=IntKind.wrap .i64 (z1+(3:Int));let z4:=IntKind.wrap .i64 (z1+(1:Int));let z5:=IntKind.wrap .i64 (z1+(2:Int));let z2:=ior .i64 (ior .i64 (IntKind.wrap .i64 ((IntKind.wrap .i64 (x0.getD (z1.toNat) (0:Int)))*2 ^ (24))) (IntKind.wrap .i64 ((IntKind.wrap .i64 (x0.getD (z4.toNat) (0:Int)))*2 ^ (16)))) (IntKind.wrap .i64 ((IntKind.wrap .i64 (x0.getD (z5.toNat) (0:Int)))*2 ^ (8)));let z6:=IntKind.wrap .i64 (x0.getD (z3.toNat) (0:Int));(.br (decide (x4<(16:Int))) (.br (decide (0≤z1∧z1<(x0.length:Int))) (.br (decide (0≤z4∧z4<(x0.length:Int))) (.br (decide (0≤z5∧z5<(x0.length:Int))) (.br (decide (0≤z3∧z3<(x0.length:Int))) (.br (decide ((h0.length+[ior .i64 z2 z6].length)*8≤MAXB)) (.next ((x0,(),(),(),IntKind.wrap .i64 (x4+(1:Int)),u97),(h0++[ior .i64 z2 z6],()))) .fail) .fail) .fail) .fail) .fail) (.done (.exit 0) A5v ((B6a),(h0,()))))
abbrev A0w:=(List Int)×(Int)×(List Int)
abbrev V1:=Nat×(List Int)
def T3:V1:=(99,([]:List Int))
noncomputable def A1q (x0:List Int) (x4:Int) (h0:List Int):A0w ⊕ V1:=let z1:=IntKind.wrap .i64 ((4:Int)*x4);let z3:=IntKind.wrap .i64 (z1+(3:Int));let z4:=IntKind.wrap .i64 (z1+(1:Int));let z5:=IntKind.wrap .i64 (z1+(2:Int));let z2:=ior .i64 (ior .i64 (IntKind.wrap .i64 ((IntKind.wrap .i64 (x0.getD (z1.toNat) (0:Int)))*2 ^ (24))) (IntKind.wrap .i64 ((IntKind.wrap .i64 (x0.getD (z4.toNat) (0:Int)))*2 ^ (16)))) (IntKind.wrap .i64 ((IntKind.wrap .i64 (x0.getD (z5.toNat) (0:Int)))*2 ^ (8)));let z6:=IntKind.wrap .i64 (x0.getD (z3.toNat) (0:Int));(cond (decide (x4<(16:Int))) (cond (decide (0≤z1∧z1<(x0.length:Int))) (cond (decide (0≤z4∧z4<(x0.length:Int))) (cond (decide (0≤z5∧z5<(x0.length:Int))) (cond (decide (0≤z3∧z3<(x0.length:Int))) (cond (decide ((h0.length+[ior .i64 z2 z6].length)*8≤MAXB)) (.inl (x0,IntKind.wrap .i64 (x4+(1:Int)),h0++[ior .i64 z2 z6])) (.inr T3)) (.inr T3)) (.inr T3)) (.inr T3)) (.inr T3)) (.inr (0,h0)))
noncomputable def J7 (x0:List Int) (x4:Int) (h0:List Int):V1:=itX (fun v:A0w=>A1q v.1 v.2.1 v.2.2) T3 (x0,x4,h0)
noncomputable def A3v (a:V1):CT:=(.br (a.1==0) (.done (.exit 0) A5v ((B6a),(a.2,()))) .fail)
noncomputable def B2Z (x0:List Int) (x4:Int) (h0:List Int):CT:=A3v (J7 x0 x4 h0)
noncomputable abbrev A3L:L8.den→RT L8.den:=(fun d=>A7Q d.1.1 d.1.2.2.2.2.1 d.2.1)
noncomputable abbrev A7u (v:A0w):L8.den:=((v.1,(),(),(),v.2.1,u97),(v.2.2,()))
theorem B2r:(∀ v:A0w,(A7Q v.1 v.2.1 v.2.2).val=relS A7u A3v (A1q v.1 v.2.1 v.2.2))∧∀ a:V1,CEnd L8.den (A3v a):=⟨fun v=>by repeat' first | apply relB | rfl,fun a=>(cendB aCD cendF)⟩
noncomputable def A7n (x0:List Int) (x4:Int) (h0:List Int):Option (Ex×St):=let z1:=IntKind.wrap .i64 ((4:Int)*x4);let z3:=IntKind.wrap .i64 (z1+(3:Int));let z4:=IntKind.wrap .i64 (z1+(1:Int));let z5:=IntKind.wrap .i64 (z1+(2:Int));let z2:=ior .i64 (ior .i64 (IntKind.wrap .i64 ((IntKind.wrap .i64 (x0.getD (z1.toNat) (0:Int)))*2 ^ (24))) (IntKind.wrap .i64 ((IntKind.wrap .i64 (x0.getD (z4.toNat) (0:Int)))*2 ^ (16)))) (IntKind.wrap .i64 ((IntKind.wrap .i64 (x0.getD (z5.toNat) (0:Int)))*2 ^ (8)));let z6:=IntKind.wrap .i64 (x0.getD (z3.toNat) (0:Int));(cond (decide (x4<(16:Int))) (cond (decide (0≤z1∧z1<(x0.length:Int))) (cond (decide (0≤z4∧z4<(x0.length:Int))) (cond (decide (0≤z5∧z5<(x0.length:Int))) (cond (decide (0≤z3∧z3<(x0.length:Int))) (cond (decide ((h0.length+[ior .i64 z2 z6].length)*8≤MAXB)) (some (.normal,(⟨((.t false B5 x0)::.junk::.junk::(.all 0 1)::(ti (IntKind.wrap .i64 (x4+(1:Int))))::C0A),[(.rows 3 true (.int .i64) (h0++[ior .i64 z2 z6]))],0,[]⟩:St))) none) none) none) none) none) (some ((.exit 0),(⟨(.junk::.junk::.junk::(.all 0 1)::C0B),[(.rows 3 true (.int .i64) h0)],0,[]⟩:St))))
theorem B1u:RdA G47 aLn 0 A1S L8 0 [] (kepts [] [(0,[3])]) (fun d=>A7n d.1.1 d.1.2.2.2.2.1 d.2.1):=by
 intro d
 kernel_rfl
theorem B1A:∀ d:L8.den,(fun d=>A7n d.1.1 d.1.2.2.2.2.1 d.2.1) d=(A3L d).opt 0 []:=by
 intro d
 kernel_rfl
noncomputable abbrev A6n:St→Option Tree:=L8.say 0 [] [] (fun d=>B2Z d.1.1 d.1.2.2.2.2.1 d.2.1)
theorem B1Y:aPL A6n A1S:=SS.wp2 hlz [] A3L B1u B1A _ (fun d=>Runs.ofI2 (step:=A3L) A7u B2r rfl (d.1.1,d.1.2.2.2.2.1,d.2.1))
abbrev L9:SS:=⟨(.junk::.junk::.junk::.all 0 1::.junk::tI::C1p),[.rows 3 true (.int .i64)]⟩
abbrev A5w:SS:=⟨(.junk::.junk::.junk::.all 0 1::C0S),[.rows 3 true (.int .i64)]⟩
noncomputable def A7R (x5:Int) (h0:List Int):RT L9.den:=let z4:=IntKind.wrap .i64 (x5 - (15:Int));let z2:=h0.getD (z4.toNat) (0:Int);let z5:=IntKind.wrap .i64 (x5 - (16:Int));let z6:=IntKind.wrap .i64 (x5 - (2:Int));let z3:=h0.getD (z6.toNat) (0:Int);let z7:=IntKind.wrap .i64 (x5 - (7:Int));let z1:=IntKind.wrap .i64 ((IntKind.wrap .i64 ((IntKind.wrap .i64 ((h0.getD (z5.toNat) (0:Int))+(ixor .i64 (ixor .i64 (B3 z2 (7:Int)) (B3 z2 (18:Int))) (Int.fdiv z2 (2 ^ (3))))))+(h0.getD (z7.toNat) (0:Int))))+(ixor .i64 (ixor .i64 (B3 z3 (17:Int)) (B3 z3 (19:Int))) (Int.fdiv z3 (2 ^ (10)))));(.br (decide (x5<(64:Int))) (.br (decide (0≤z4∧z4<(h0.length:Int))) (.br (decide (0≤z6∧z6<(h0.length:Int))) (.br (B0 z2 (7:Int)) (.br (B0 z2 (18:Int)) (.br (B0 z3 (17:Int)) (.br (B0 z3 (19:Int)) (.br (decide (0≤z5∧z5<(h0.length:Int))) (.br (decide (0≤z7∧z7<(h0.length:Int))) (.br (decide ((h0.length+[iand .i64 z1 (4294967295:Int)].length)*8≤MAXB)) (.next (((),(),(),(),(),IntKind.wrap .i64 (x5+(1:Int)),u96),(h0++[iand .i64 z1 (4294967295:Int)],()))) .fail) .fail) .fail) .fail) .fail) .fail) .fail) .fail) .fail) (.done (.exit 2) A5w ((B6a),(h0,()))))
abbrev A0x:=(Int)×(List Int)
abbrev V2:=Nat×(List Int)
def F2:V2:=(99,([]:List Int))
noncomputable def A1r (x5:Int) (h0:List Int):A0x ⊕ V2:=let z4:=IntKind.wrap .i64 (x5 - (15:Int));let z2:=h0.getD (z4.toNat) (0:Int);let z5:=IntKind.wrap .i64 (x5 - (16:Int));let z6:=IntKind.wrap .i64 (x5 - (2:Int));let z3:=h0.getD (z6.toNat) (0:Int);let z7:=IntKind.wrap .i64 (x5 - (7:Int));let z1:=IntKind.wrap .i64 ((IntKind.wrap .i64 ((IntKind.wrap .i64 ((h0.getD (z5.toNat) (0:Int))+(ixor .i64 (ixor .i64 (B3 z2 (7:Int)) (B3 z2 (18:Int))) (Int.fdiv z2 (2 ^ (3))))))+(h0.getD (z7.toNat) (0:Int))))+(ixor .i64 (ixor .i64 (B3 z3 (17:Int)) (B3 z3 (19:Int))) (Int.fdiv z3 (2 ^ (10)))));(cond (decide (x5<(64:Int))) (cond (decide (0≤z4∧z4<(h0.length:Int))) (cond (decide (0≤z6∧z6<(h0.length:Int))) (cond (B0 z2 (7:Int)) (cond (B0 z2 (18:Int)) (cond (B0 z3 (17:Int)) (cond (B0 z3 (19:Int)) (cond (decide (0≤z5∧z5<(h0.length:Int))) (cond (decide (0≤z7∧z7<(h0.length:Int))) (cond (decide ((h0.length+[iand .i64 z1 (4294967295:Int)].length)*8≤MAXB)) (.inl (IntKind.wrap .i64 (x5+(1:Int)),h0++[iand .i64 z1 (4294967295:Int)])) (.inr F2)) (.inr F2)) (.inr F2)) (.inr F2)) (.inr F2)) (.inr F2)) (.inr F2)) (.inr F2)) (.inr F2)) (.inr (0,h0)))
noncomputable def J8 (x5:Int) (h0:List Int):V2:=itX (fun v:A0x=>A1r v.1 v.2) F2 (x5,h0)
noncomputable def A3w (a:V2):CT:=(.br (a.1==0) (.done (.exit 2) A5w ((B6a),(a.2,()))) .fail)
noncomputable def B20 (x5:Int) (h0:List Int):CT:=A3w (J8 x5 h0)
noncomputable abbrev A3M:L9.den→RT L9.den:=(fun d=>A7R d.1.2.2.2.2.2.1 d.2.1)
noncomputable abbrev A7v (v:A0x):L9.den:=(((),(),(),(),(),v.1,u96),(v.2,()))
theorem B2s:(∀ v:A0x,(A7R v.1 v.2).val=relS A7v A3w (A1r v.1 v.2))∧∀ a:V2,CEnd L9.den (A3w a):=⟨fun v=>by repeat' first | apply relB | rfl,fun a=>(cendB aCD cendF)⟩
noncomputable def A7o (x5:Int) (h0:List Int):Option (Ex×St):=let z4:=IntKind.wrap .i64 (x5 - (15:Int));let z2:=h0.getD (z4.toNat) (0:Int);let z5:=IntKind.wrap .i64 (x5 - (16:Int));let z6:=IntKind.wrap .i64 (x5 - (2:Int));let z3:=h0.getD (z6.toNat) (0:Int);let z7:=IntKind.wrap .i64 (x5 - (7:Int));let z1:=IntKind.wrap .i64 ((IntKind.wrap .i64 ((IntKind.wrap .i64 ((h0.getD (z5.toNat) (0:Int))+(ixor .i64 (ixor .i64 (B3 z2 (7:Int)) (B3 z2 (18:Int))) (Int.fdiv z2 (2 ^ (3))))))+(h0.getD (z7.toNat) (0:Int))))+(ixor .i64 (ixor .i64 (B3 z3 (17:Int)) (B3 z3 (19:Int))) (Int.fdiv z3 (2 ^ (10)))));(cond (decide (x5<(64:Int))) (cond (decide (0≤z4∧z4<(h0.length:Int))) (cond (decide (0≤z6∧z6<(h0.length:Int))) (cond (B0 z2 (7:Int)) (cond (B0 z2 (18:Int)) (cond (B0 z3 (17:Int)) (cond (B0 z3 (19:Int)) (cond (decide (0≤z5∧z5<(h0.length:Int))) (cond (decide (0≤z7∧z7<(h0.length:Int))) (cond (decide ((h0.length+[iand .i64 z1 (4294967295:Int)].length)*8≤MAXB)) (some (.normal,(⟨(.junk::.junk::.junk::(.all 0 1)::.junk::(ti (IntKind.wrap .i64 (x5+(1:Int))))::C1h),[(.rows 3 true (.int .i64) (h0++[iand .i64 z1 (4294967295:Int)]))],0,[]⟩:St))) none) none) none) none) none) none) none) none) none) (some ((.exit 2),(⟨(.junk::.junk::.junk::(.all 0 1)::C0B),[(.rows 3 true (.int .i64) h0)],0,[]⟩:St))))
theorem B1v:RdA G47 aLn 2 A1T L9 0 [] (kepts [] [(2,[3])]) (fun d=>A7o d.1.2.2.2.2.2.1 d.2.1):=by
 intro d
 kernel_rfl
theorem B1B:∀ d:L9.den,(fun d=>A7o d.1.2.2.2.2.2.1 d.2.1) d=(A3M d).opt 0 []:=by
 intro d
 kernel_rfl
noncomputable abbrev A6o:St→Option Tree:=L9.say 0 [] [] (fun d=>B20 d.1.2.2.2.2.2.1 d.2.1)
theorem B1Z:aPL A6o A1T:=SS.wp2 hlz [] A3M B1v B1B _ (fun d=>Runs.ofI2 (step:=A3M) A7v B2s rfl (d.1.2.2.2.2.2.1,d.2.1))
noncomputable def F1 (a0:List Int):List Int:=((J8 (16:Int) ((J7 a0 (0:Int) ([]:List Int)).2)).2)
noncomputable abbrev B0Y (r:List Int):AV×List AObj:=((.t true A23 r),[])
noncomputable abbrev A70:pshsDen A2v→AV×List AObj:=fun d=>B0Y (F1 d.1)
noncomputable def Z2 (a0:List Int):Bool:=let z1:=J7 a0 (0:Int) ([]:List Int);(z1.1==0)&&((J8 (16:Int) (z1.2)).1==0)
noncomputable abbrev A4T:pshsDen A2v→Bool:=fun d=>Z2 d.1
noncomputable abbrev B5m:Nat→St→Option Tree:=fun b=>match b with | 0=>A6n | 2=>A6o | _=>fun _=>none
theorem B3R:RunP true G47 (B5m) Try.f145 A2v A4T A70:=by
 rintro ⟨a0,_⟩ hp
 change Z2 a0=true at hp
 unfold Z2 at hp
 refine Eq.trans (b:=(let z1:=J7 a0 (0:Int) ([]:List Int);let z2:=J8 (16:Int) (z1.2);cond (z1.1==0) (cond (z2.1==0) (some (B0Y (z2.2))) none) none)) (by kernel_rfl) ?_
 exact (cndA hp fun hp=>(cndT hp fun _h=>rfl))
theorem B5B:aPP 145 (sumOf A2v A4T A70):=pcD true G47 (by
  rw [show loopsIn 0 (bodyOf Try.f145)=[(0,A1S),(2,A1T)] by kernel_rfl];intro p hp;simp only [List.mem_cons,List.mem_nil_iff,or_false] at hp
  rcases hp with rfl | rfl
  ·exact B1Y
  ·exact B1Z) B3R
noncomputable def S48:Tab:=Tab.add S47 145 (lift (sumOf A2v A4T A70))
noncomputable def B9Z:FuncId→Bool:=qadd B9Y 145
theorem G48:aPG S48 B9Z:=G47.addQ B5B (cbl Try.f145) (fun _=>rfl)

abbrev B8V:List Sh:=.junk::.junk::.junk::.junk::.junk::.junk::.junk::.junk::.junk::.junk::.junk::B7V
abbrev B8W:List Sh:=.junk::B8V
abbrev B9n:=((),(),(),(),(),(),(),(),(),(),B69)
abbrev B9o:=((),(),(),(),(),(),(),(),(),B9n)
abbrev B8R:List AV:=.junk::.junk::.junk::.junk::.junk::.junk::.junk::.junk::.junk::.junk::.junk::B7P
abbrev B8S:List AV:=.junk::B8R
abbrev C0D:List Sh:=.junk::.junk::B7V
abbrev C06:=((),B69)
abbrev C07:=((),B9o)
abbrev C0q:List AV:=.junk::.junk::B7P
abbrev A2u:List PSh:=[.t A23,.t B5,.t A23]
noncomputable def A1Q:Code:=((loopsIn 0 (bodyOf Try.f111)).getD 0 (0,.skip)).2
noncomputable def A1R:Code:=((loopsIn 0 (bodyOf Try.f111)).getD 1 (0,.skip)).2
abbrev I7:SS:=⟨(.t false A23::.junk::.t false A23::.junk::.junk::.junk::.junk::.t true A23::.all 0 1::tI::B8V),[.rows 3 true (.int .i64)]⟩
abbrev A5t:SS:=⟨(.t false A23::.junk::.junk::.junk::.junk::.junk::.junk::.junk::.all 0 1::B8W),[.rows 3 true (.int .i64)]⟩
noncomputable def A7O (x0 x2 x7:List Int) (x9:Int) (h0:List Int):RT I7.den:=let z2:=h0.getD ((4:Int).toNat) (0:Int);let z1:=IntKind.wrap .i64 ((IntKind.wrap .i64 ((IntKind.wrap .i64 ((IntKind.wrap .i64 ((h0.getD ((7:Int).toNat) (0:Int))+(ixor .i64 (ixor .i64 (B3 z2 (6:Int)) (B3 z2 (11:Int))) (B3 z2 (25:Int)))))+(ixor .i64 (iand .i64 z2 (h0.getD ((5:Int).toNat) (0:Int))) (iand .i64 (ixor .i64 (4294967295:Int) z2) (h0.getD ((6:Int).toNat) (0:Int))))))+(x2.getD x9.toNat (0:Int))))+(x7.getD x9.toNat (0:Int)));let z3:=h0.getD ((0:Int).toNat) (0:Int);let z4:=decide (0≤(1:Int)∧(1:Int)<(h0.length:Int));let z5:=decide (0≤(2:Int)∧(2:Int)<(h0.length:Int));let z6:=decide (0≤(5:Int)∧(5:Int)<(h0.length:Int));let z7:=decide (0≤(6:Int)∧(6:Int)<(h0.length:Int));let z8:=h0.getD ((1:Int).toNat) (0:Int);let z9:=h0.getD ((2:Int).toNat) (0:Int);(.br (decide (x9<(64:Int))) (.br (decide (0≤(4:Int)∧(4:Int)<(h0.length:Int))) (.br (B0 z2 (6:Int)) (.br (B0 z2 (11:Int)) (.br (B0 z2 (25:Int)) (.br z6 (.br z7 (.br (decide (0≤(7:Int)∧(7:Int)<(h0.length:Int))) (.br (decide (0≤x9∧x9<(x2.length:Int))) (.br (decide (0≤x9∧x9<(x7.length:Int))) (.br (decide (0≤(0:Int)∧(0:Int)<(h0.length:Int))) (.br (B0 z3 (2:Int)) (.br (B0 z3 (13:Int)) (.br (B0 z3 (22:Int)) (.br z4 (.br z5 (.br z4 (.br z5 (.br z4 (.br z5 (.br (decide (0≤(3:Int)∧(3:Int)<(h0.length:Int))) (.br z6 (.br z7 (.next ((x0,(),x2,(),(),(),(),x7,(),IntKind.wrap .i64 (x9+(1:Int)),B9n),([iand .i64 (IntKind.wrap .i64 (z1+(IntKind.wrap .i64 ((ixor .i64 (ixor .i64 (B3 z3 (2:Int)) (B3 z3 (13:Int))) (B3 z3 (22:Int)))+(ixor .i64 (ixor .i64 (iand .i64 z3 z8) (iand .i64 z3 z9)) (iand .i64 z8 z9)))))) (4294967295:Int),h0.getD ((0:Int).toNat) (0:Int),h0.getD ((1:Int).toNat) (0:Int),h0.getD ((2:Int).toNat) (0:Int),iand .i64 (IntKind.wrap .i64 ((h0.getD ((3:Int).toNat) (0:Int))+z1)) (4294967295:Int),h0.getD ((4:Int).toNat) (0:Int),h0.getD ((5:Int).toNat) (0:Int),h0.getD ((6:Int).toNat) (0:Int)],()))) .fail) .fail) .fail) .fail) .fail) .fail) .fail) .fail) .fail) .fail) .fail) .fail) .fail) .fail) .fail) .fail) .fail) .fail) .fail) .fail) .fail) .fail) (.done (.exit 0) A5t ((x0,B9o),(h0,()))))
abbrev A0u:=(List Int)×(List Int)×(List Int)×(Int)×(List Int)
abbrev U9:=Nat×(List Int)×(List Int)
def A9:U9:=(99,([]:List Int),([]:List Int))
noncomputable def A1o (x0 x2 x7:List Int) (x9:Int) (h0:List Int):A0u ⊕ U9:=let z2:=h0.getD ((4:Int).toNat) (0:Int);let z1:=IntKind.wrap .i64 ((IntKind.wrap .i64 ((IntKind.wrap .i64 ((IntKind.wrap .i64 ((h0.getD ((7:Int).toNat) (0:Int))+(ixor .i64 (ixor .i64 (B3 z2 (6:Int)) (B3 z2 (11:Int))) (B3 z2 (25:Int)))))+(ixor .i64 (iand .i64 z2 (h0.getD ((5:Int).toNat) (0:Int))) (iand .i64 (ixor .i64 (4294967295:Int) z2) (h0.getD ((6:Int).toNat) (0:Int))))))+(x2.getD x9.toNat (0:Int))))+(x7.getD x9.toNat (0:Int)));let z3:=h0.getD ((0:Int).toNat) (0:Int);let z4:=decide (0≤(1:Int)∧(1:Int)<(h0.length:Int));let z5:=decide (0≤(2:Int)∧(2:Int)<(h0.length:Int));let z6:=decide (0≤(5:Int)∧(5:Int)<(h0.length:Int));let z7:=decide (0≤(6:Int)∧(6:Int)<(h0.length:Int));let z8:=h0.getD ((1:Int).toNat) (0:Int);let z9:=h0.getD ((2:Int).toNat) (0:Int);(cond (decide (x9<(64:Int))) (cond (decide (0≤(4:Int)∧(4:Int)<(h0.length:Int))) (cond (B0 z2 (6:Int)) (cond (B0 z2 (11:Int)) (cond (B0 z2 (25:Int)) (cond z6 (cond z7 (cond (decide (0≤(7:Int)∧(7:Int)<(h0.length:Int))) (cond (decide (0≤x9∧x9<(x2.length:Int))) (cond (decide (0≤x9∧x9<(x7.length:Int))) (cond (decide (0≤(0:Int)∧(0:Int)<(h0.length:Int))) (cond (B0 z3 (2:Int)) (cond (B0 z3 (13:Int)) (cond (B0 z3 (22:Int)) (cond z4 (cond z5 (cond z4 (cond z5 (cond z4 (cond z5 (cond (decide (0≤(3:Int)∧(3:Int)<(h0.length:Int))) (cond z6 (cond z7 (.inl (x0,x2,x7,IntKind.wrap .i64 (x9+(1:Int)),[iand .i64 (IntKind.wrap .i64 (z1+(IntKind.wrap .i64 ((ixor .i64 (ixor .i64 (B3 z3 (2:Int)) (B3 z3 (13:Int))) (B3 z3 (22:Int)))+(ixor .i64 (ixor .i64 (iand .i64 z3 z8) (iand .i64 z3 z9)) (iand .i64 z8 z9)))))) (4294967295:Int),h0.getD ((0:Int).toNat) (0:Int),h0.getD ((1:Int).toNat) (0:Int),h0.getD ((2:Int).toNat) (0:Int),iand .i64 (IntKind.wrap .i64 ((h0.getD ((3:Int).toNat) (0:Int))+z1)) (4294967295:Int),h0.getD ((4:Int).toNat) (0:Int),h0.getD ((5:Int).toNat) (0:Int),h0.getD ((6:Int).toNat) (0:Int)])) (.inr A9)) (.inr A9)) (.inr A9)) (.inr A9)) (.inr A9)) (.inr A9)) (.inr A9)) (.inr A9)) (.inr A9)) (.inr A9)) (.inr A9)) (.inr A9)) (.inr A9)) (.inr A9)) (.inr A9)) (.inr A9)) (.inr A9)) (.inr A9)) (.inr A9)) (.inr A9)) (.inr A9)) (.inr A9)) (.inr (0,x0,h0)))
noncomputable def C5 (x0 x2 x7:List Int) (x9:Int) (h0:List Int):U9:=itX (fun v:A0u=>A1o v.1 v.2.1 v.2.2.1 v.2.2.2.1 v.2.2.2.2) A9 (x0,x2,x7,x9,h0)
noncomputable def A3t (a:U9):CT:=(.br (a.1==0) (.done (.exit 0) A5t ((a.2.1,B9o),(a.2.2,()))) .fail)
noncomputable def B2X (x0 x2 x7:List Int) (x9:Int) (h0:List Int):CT:=A3t (C5 x0 x2 x7 x9 h0)
noncomputable abbrev A1d {α:Sort _} (f:(List Int)→(List Int)→(List Int)→Int→(List Int)→α) (d:I7.den):α:=f d.1.1 d.1.2.2.1 d.1.2.2.2.2.2.2.2.1 d.1.2.2.2.2.2.2.2.2.2.1 d.2.1
noncomputable abbrev A3J:I7.den→RT I7.den:=(A1d A7O)
noncomputable abbrev A7s (v:A0u):I7.den:=((v.1,(),v.2.1,(),(),(),(),v.2.2.1,(),v.2.2.2.1,B9n),(v.2.2.2.2,()))
theorem B2p:(∀ v:A0u,(A7O v.1 v.2.1 v.2.2.1 v.2.2.2.1 v.2.2.2.2).val=relS A7s A3t (A1o v.1 v.2.1 v.2.2.1 v.2.2.2.1 v.2.2.2.2))∧∀ a:U9,CEnd I7.den (A3t a):=⟨fun v=>by repeat' first | apply relB | rfl,fun a=>(cendB aCD cendF)⟩
noncomputable def A7l (x0 x2 x7:List Int) (x9:Int) (h0:List Int):Option (Ex×St):=let z2:=h0.getD ((4:Int).toNat) (0:Int);let z1:=IntKind.wrap .i64 ((IntKind.wrap .i64 ((IntKind.wrap .i64 ((IntKind.wrap .i64 ((h0.getD ((7:Int).toNat) (0:Int))+(ixor .i64 (ixor .i64 (B3 z2 (6:Int)) (B3 z2 (11:Int))) (B3 z2 (25:Int)))))+(ixor .i64 (iand .i64 z2 (h0.getD ((5:Int).toNat) (0:Int))) (iand .i64 (ixor .i64 (4294967295:Int) z2) (h0.getD ((6:Int).toNat) (0:Int))))))+(x2.getD x9.toNat (0:Int))))+(x7.getD x9.toNat (0:Int)));let z3:=h0.getD ((0:Int).toNat) (0:Int);let z4:=decide (0≤(1:Int)∧(1:Int)<(h0.length:Int));let z5:=decide (0≤(2:Int)∧(2:Int)<(h0.length:Int));let z6:=decide (0≤(5:Int)∧(5:Int)<(h0.length:Int));let z7:=decide (0≤(6:Int)∧(6:Int)<(h0.length:Int));let z8:=h0.getD ((1:Int).toNat) (0:Int);let z9:=h0.getD ((2:Int).toNat) (0:Int);(cond (decide (x9<(64:Int))) (cond (decide (0≤(4:Int)∧(4:Int)<(h0.length:Int))) (cond (B0 z2 (6:Int)) (cond (B0 z2 (11:Int)) (cond (B0 z2 (25:Int)) (cond z6 (cond z7 (cond (decide (0≤(7:Int)∧(7:Int)<(h0.length:Int))) (cond (decide (0≤x9∧x9<(x2.length:Int))) (cond (decide (0≤x9∧x9<(x7.length:Int))) (cond (decide (0≤(0:Int)∧(0:Int)<(h0.length:Int))) (cond (B0 z3 (2:Int)) (cond (B0 z3 (13:Int)) (cond (B0 z3 (22:Int)) (cond z4 (cond z5 (cond z4 (cond z5 (cond z4 (cond z5 (cond (decide (0≤(3:Int)∧(3:Int)<(h0.length:Int))) (cond z6 (cond z7 (some (.normal,(⟨((.t false A23 x0)::.junk::(.t false A23 x2)::.junk::.junk::.junk::.junk::(.t true A23 x7)::(.all 0 1)::(ti (IntKind.wrap .i64 (x9+(1:Int))))::B8R),[(.rows 3 true (.int .i64) [iand .i64 (IntKind.wrap .i64 (z1+(IntKind.wrap .i64 ((ixor .i64 (ixor .i64 (B3 z3 (2:Int)) (B3 z3 (13:Int))) (B3 z3 (22:Int)))+(ixor .i64 (ixor .i64 (iand .i64 z3 z8) (iand .i64 z3 z9)) (iand .i64 z8 z9)))))) (4294967295:Int),h0.getD ((0:Int).toNat) (0:Int),h0.getD ((1:Int).toNat) (0:Int),h0.getD ((2:Int).toNat) (0:Int),iand .i64 (IntKind.wrap .i64 ((h0.getD ((3:Int).toNat) (0:Int))+z1)) (4294967295:Int),h0.getD ((4:Int).toNat) (0:Int),h0.getD ((5:Int).toNat) (0:Int),h0.getD ((6:Int).toNat) (0:Int)])],0,[]⟩:St))) none) none) none) none) none) none) none) none) none) none) none) none) none) none) none) none) none) none) none) none) none) none) (some ((.exit 0),(⟨((.t false A23 x0)::.junk::.junk::.junk::.junk::.junk::.junk::.junk::(.all 0 1)::B8S),[(.rows 3 true (.int .i64) h0)],0,[]⟩:St))))
theorem B1s:RdA G48 aLn 0 A1Q I7 0 [] (kepts [] [(0,[0,8])]) (A1d A7l):=by
 intro d
 kernel_rfl
theorem B1y:∀ d:I7.den,(A1d A7l) d=(A3J d).opt 0 []:=by
 intro d
 kernel_rfl
noncomputable abbrev A6l:St→Option Tree:=I7.say 0 [] [] (A1d B2X)
theorem B1W:aPL A6l A1Q:=SS.wp2 hlz [] A3J B1s B1y _ (fun d=>Runs.ofI2 (step:=A3J) A7s B2p rfl (d.1.1,d.1.2.2.1,d.1.2.2.2.2.2.2.2.1,d.1.2.2.2.2.2.2.2.2.2.1,d.2.1))
abbrev I8:SS:=⟨(.t false A23::.junk::.junk::.junk::.junk::.junk::.junk::.junk::.all 0 1::.junk::.junk::.junk::.junk::.junk::.junk::.junk::.junk::.junk::tI::C0D),[.rows 3 true (.int .i64)]⟩
abbrev A5u:SS:=⟨(.junk::.junk::.junk::.junk::.junk::.junk::.junk::.junk::.all 0 1::B8W),[.rows 3 true (.int .i64)]⟩
noncomputable def A7P (x0:List Int) (x18:Int) (h0:List Int):RT I8.den:=let z1:=decide (0≤x18∧x18<(h0.length:Int));(.br (decide (x18<(8:Int))) (.br z1 (.br (decide (0≤x18∧x18<(x0.length:Int))) (.br z1 (.next ((x0,(),(),(),(),(),(),(),(),(),(),(),(),(),(),(),(),(),IntKind.wrap .i64 (x18+(1:Int)),C06),(h0.set x18.toNat (iand .i64 (IntKind.wrap .i64 ((h0.getD x18.toNat (0:Int))+(x0.getD x18.toNat (0:Int)))) (4294967295:Int)),()))) .fail) .fail) .fail) (.done (.exit 2) A5u ((C07),(h0,()))))
abbrev A0v:=(List Int)×(Int)×(List Int)
abbrev V0:=Nat×(List Int)
def A1g:V0:=(99,([]:List Int))
noncomputable def A1p (x0:List Int) (x18:Int) (h0:List Int):A0v ⊕ V0:=let z1:=decide (0≤x18∧x18<(h0.length:Int));(cond (decide (x18<(8:Int))) (cond z1 (cond (decide (0≤x18∧x18<(x0.length:Int))) (cond z1 (.inl (x0,IntKind.wrap .i64 (x18+(1:Int)),h0.set x18.toNat (iand .i64 (IntKind.wrap .i64 ((h0.getD x18.toNat (0:Int))+(x0.getD x18.toNat (0:Int)))) (4294967295:Int)))) (.inr A1g)) (.inr A1g)) (.inr A1g)) (.inr (0,h0)))
noncomputable def N2 (x0:List Int) (x18:Int) (h0:List Int):V0:=itX (fun v:A0v=>A1p v.1 v.2.1 v.2.2) A1g (x0,x18,h0)
noncomputable def A3u (a:V0):CT:=(.br (a.1==0) (.done (.exit 2) A5u ((C07),(a.2,()))) .fail)
noncomputable def B2Y (x0:List Int) (x18:Int) (h0:List Int):CT:=A3u (N2 x0 x18 h0)
noncomputable abbrev A1e {α:Sort _} (f:(List Int)→Int→(List Int)→α) (d:I8.den):α:=f d.1.1 d.1.2.2.2.2.2.2.2.2.2.2.2.2.2.2.2.2.2.2.1 d.2.1
noncomputable abbrev A3K:I8.den→RT I8.den:=(A1e A7P)
noncomputable abbrev A7t (v:A0v):I8.den:=((v.1,(),(),(),(),(),(),(),(),(),(),(),(),(),(),(),(),(),v.2.1,C06),(v.2.2,()))
theorem B2q:(∀ v:A0v,(A7P v.1 v.2.1 v.2.2).val=relS A7t A3u (A1p v.1 v.2.1 v.2.2))∧∀ a:V0,CEnd I8.den (A3u a):=⟨fun v=>(relB (relB (relB (relB rfl rfl) rfl) rfl) rfl),fun a=>(cendB aCD cendF)⟩
noncomputable def A7m (x0:List Int) (x18:Int) (h0:List Int):Option (Ex×St):=let z1:=decide (0≤x18∧x18<(h0.length:Int));(cond (decide (x18<(8:Int))) (cond z1 (cond (decide (0≤x18∧x18<(x0.length:Int))) (cond z1 (some (.normal,(⟨((.t false A23 x0)::.junk::.junk::.junk::.junk::.junk::.junk::.junk::(.all 0 1)::.junk::.junk::.junk::.junk::.junk::.junk::.junk::.junk::.junk::(ti (IntKind.wrap .i64 (x18+(1:Int))))::C0q),[(.rows 3 true (.int .i64) (h0.set x18.toNat (iand .i64 (IntKind.wrap .i64 ((h0.getD x18.toNat (0:Int))+(x0.getD x18.toNat (0:Int)))) (4294967295:Int))))],0,[]⟩:St))) none) none) none) (some ((.exit 2),(⟨(.junk::.junk::.junk::.junk::.junk::.junk::.junk::.junk::(.all 0 1)::B8S),[(.rows 3 true (.int .i64) h0)],0,[]⟩:St))))
theorem B1t:RdA G48 aLn 2 A1R I8 0 [] (kepts [] [(2,[8])]) (A1e A7m):=by
 intro d
 kernel_rfl
theorem B1z:∀ d:I8.den,(A1e A7m) d=(A3K d).opt 0 []:=by
 intro d
 kernel_rfl
noncomputable abbrev A6m:St→Option Tree:=I8.say 0 [] [] (A1e B2Y)
theorem B1X:aPL A6m A1R:=SS.wp2 hlz [] A3K B1t B1z _ (fun d=>Runs.ofI2 (step:=A3K) A7t B2q rfl (d.1.1,d.1.2.2.2.2.2.2.2.2.2.2.2.2.2.2.2.2.2.2.1,d.2.1))
noncomputable def A0f (a0 a1 a2:List Int):=let z1:=C5 a0 a2 (F1 a1) (0:Int) (([]:List Int)++a0);N2 (z1.2.1) (0:Int) (z1.2.2)
noncomputable def A0O (a0 a1 a2:List Int):List Int:=((A0f a0 a1 a2).2)
noncomputable abbrev B0X (r:List Int):AV×List AObj:=((.t true A23 r),[])
noncomputable abbrev A7Z:pshsDen A2u→AV×List AObj:=fun d=>B0X (A0O d.1 d.2.1 d.2.2.1)
noncomputable def U6 (a0 a1 a2:List Int):Bool:=(Z2 a1)&&((decide ((([]:List Int).length+a0.length)*8≤MAXB))&&(((C5 a0 a2 (F1 a1) (0:Int) (([]:List Int)++a0)).1==0)&&((A0f a0 a1 a2).1==0)))
noncomputable abbrev A4S:pshsDen A2u→Bool:=fun d=>U6 d.1 d.2.1 d.2.2.1
noncomputable abbrev B5l:Nat→St→Option Tree:=fun b=>match b with | 0=>A6l | 2=>A6m | _=>fun _=>none
theorem B3Q:RunP true G48 (B5l) Try.f111 A2u A4S A7Z:=by
 rintro ⟨a0,⟨a1,⟨a2,_⟩⟩⟩ hp
 change U6 a0 a1 a2=true at hp
 unfold U6 at hp
 refine Eq.trans (b:=(let z1:=A0f a0 a1 a2;cond (Z2 a1) (cond (decide ((([]:List Int).length+a0.length)*8≤MAXB)) (cond ((C5 a0 a2 (F1 a1) (0:Int) (([]:List Int)++a0)).1==0) (cond (z1.1==0) (some (B0X (z1.2))) none) none) none) none)) (by kernel_rfl) ?_
 exact (cndA hp fun hp=>(cndA hp fun hp=>(cndA hp fun hp=>(cndT hp fun _h=>rfl))))
theorem B5A:aPP 111 (sumOf A2u A4S A7Z):=pcD true G48 (by
  rw [show loopsIn 0 (bodyOf Try.f111)=[(0,A1Q),(2,A1R)] by kernel_rfl];intro p hp;simp only [List.mem_cons,List.mem_nil_iff,or_false] at hp
  rcases hp with rfl | rfl
  ·exact B1W
  ·exact B1X) B3Q
noncomputable def S49:Tab:=Tab.add S48 111 (lift (sumOf A2u A4S A7Z))
noncomputable def B90:FuncId→Bool:=qadd B9Z 111
theorem G49:aPG S49 B90:=G48.addQ B5A (cbl Try.f111) (fun _=>rfl)

abbrev C1n:List Sh:=.junk::.junk::.junk::.junk::.junk::B8u
abbrev u54:=((),(),(),(),(),u49)
abbrev C1f:List AV:=.junk::.junk::.junk::.junk::.junk::B7T
abbrev C0M:List Sh:=.junk::.junk::.junk::B8u
abbrev C1m:List Sh:=.junk::C0M
abbrev u52:=((),(),(),u49)
abbrev u61:=((),(),(),u58)
abbrev C0w:List AV:=.junk::.junk::.junk::B7T
abbrev C1e:List AV:=.junk::C0w
abbrev A3W:List PSh:=[.t B5]
noncomputable def A2F:Code:=((loopsIn 0 (bodyOf Try.f65)).getD 0 (0,.skip)).2
noncomputable def A2G:Code:=((loopsIn 0 (bodyOf Try.f65)).getD 1 (0,.skip)).2
abbrev L4:SS:=⟨(.junk::.junk::.junk::.t true B5::.t true A23::.t true A23::tI::C1n),[]⟩
abbrev A6X:SS:=⟨(.junk::.junk::.junk::.junk::.t true A23::B9f),[]⟩
noncomputable def A9n (x3 x4 x5:List Int) (x6:Int):RT L4.den:=let z1:=IntKind.wrap .i64 (x6+(64:Int));let z2:=(x3.take z1.toNat).drop x6.toNat;(.br (decide (x6<(x3.length:Int))) (.br (decide (0≤x6∧x6≤z1∧z1≤(x3.length:Int))) (.br (U6 x4 z2 x5) (.next (((),(),(),x3,(A0O x4 z2 x5),x5,IntKind.wrap .i64 (x6+(64:Int)),u54),())) .fail) .fail) (.done (.exit 0) A6X (((),(),(),(),x4,u56),())))
abbrev A1z:=(List Int)×(List Int)×(List Int)×(Int)
abbrev Z4:=Nat×(List Int)
def A4A:Z4:=(99,([]:List Int))
noncomputable def A2d (x3 x4 x5:List Int) (x6:Int):A1z ⊕ Z4:=let z1:=IntKind.wrap .i64 (x6+(64:Int));let z2:=(x3.take z1.toNat).drop x6.toNat;(cond (decide (x6<(x3.length:Int))) (cond (decide (0≤x6∧x6≤z1∧z1≤(x3.length:Int))) (cond (U6 x4 z2 x5) (.inl (x3,(A0O x4 z2 x5),x5,IntKind.wrap .i64 (x6+(64:Int)))) (.inr A4A)) (.inr A4A)) (.inr (0,x4)))
noncomputable def A0G (x3 x4 x5:List Int) (x6:Int):Z4:=itX (fun v:A1z=>A2d v.1 v.2.1 v.2.2.1 v.2.2.2) A4A (x3,x4,x5,x6)
noncomputable def A4q (a:Z4):CT:=(.br (a.1==0) (.done (.exit 0) A6X (((),(),(),(),a.2,u56),())) .fail)
noncomputable def B32 (x3 x4 x5:List Int) (x6:Int):CT:=A4q (A0G x3 x4 x5 x6)
noncomputable abbrev A14 {α:Sort _} (f:(List Int)→(List Int)→(List Int)→Int→α) (d:L4.den):α:=f d.1.2.2.2.1 d.1.2.2.2.2.1 d.1.2.2.2.2.2.1 d.1.2.2.2.2.2.2.1
noncomputable abbrev A4Z:L4.den→RT L4.den:=(A14 A9n)
noncomputable abbrev A8Y (v:A1z):L4.den:=(((),(),(),v.1,v.2.1,v.2.2.1,v.2.2.2,u54),())
theorem B3B:(∀ v:A1z,(A9n v.1 v.2.1 v.2.2.1 v.2.2.2).val=relS A8Y A4q (A2d v.1 v.2.1 v.2.2.1 v.2.2.2))∧∀ a:Z4,CEnd L4.den (A4q a):=⟨fun v=>(relB (relB (relB rfl rfl) rfl) rfl),fun a=>(cendB aCD cendF)⟩
noncomputable def A8J (x3 x4 x5:List Int) (x6:Int):Option (Ex×St):=let z1:=IntKind.wrap .i64 (x6+(64:Int));let z2:=(x3.take z1.toNat).drop x6.toNat;(cond (decide (x6<(x3.length:Int))) (cond (decide (0≤x6∧x6≤z1∧z1≤(x3.length:Int))) (cond (U6 x4 z2 x5) (some (.normal,(⟨(.junk::.junk::.junk::(.t true B5 x3)::(.t true A23 (A0O x4 z2 x5))::(.t true A23 x5)::(ti z1)::C1f),[],0,[]⟩:St))) none) none) (some ((.exit 0),(⟨(.junk::.junk::.junk::.junk::(.t true A23 x4)::B9a),[],0,[]⟩:St))))
theorem B16:RdA G49 aLn 0 A2F L4 0 [] (kepts [] [(0,[4])]) (A14 A8J):=by
 intro d
 kernel_rfl
theorem B2g:∀ d:L4.den,(A14 A8J) d=(A4Z d).opt 0 []:=by
 intro d
 kernel_rfl
noncomputable abbrev A7D:St→Option Tree:=L4.say 0 [] [(4,1000000,.bool)] (A14 B32)
theorem B3h:aPL A7D A2F:=SS.wp2 hlz [(4,1000000,.bool)] A4Z B16 B2g _ (fun d=>Runs.ofI2 (step:=A4Z) A8Y B3B rfl (d.1.2.2.2.1,d.1.2.2.2.2.1,d.1.2.2.2.2.2.1,d.1.2.2.2.2.2.2.1))
abbrev L5:SS:=⟨(.junk::.junk::.junk::.junk::.t true A23::.junk::.junk::.all 0 1::tI::C0M),[.rows 5 true (.int .u8)]⟩
abbrev A6Y:SS:=⟨(.junk::.junk::.junk::.junk::.junk::.junk::.junk::.all 0 1::C1m),[.rows 5 true (.int .u8)]⟩
noncomputable def A9o (x4:List Int) (x8:Int) (h0:List Int):RT L5.den:=let z1:=x4.getD x8.toNat (0:Int);let z2:=decide (0≤x8∧x8<(x4.length:Int));let z3:=Int.fdiv z1 (2 ^ (24));let z4:=Int.fdiv z1 (2 ^ (16));let z5:=Int.fdiv z1 (2 ^ (8));(.br (decide (x8<(8:Int))) (.br z2 (.br z2 (.br z2 (.br z2 (.br (decide ((h0.length+[IntKind.wrap .u8 z3,IntKind.wrap .u8 z4,IntKind.wrap .u8 z5,IntKind.wrap .u8 z1].length)*1≤MAXB)) (.next (((),(),(),(),x4,(),(),(),IntKind.wrap .i64 (x8+(1:Int)),u52),(h0++[IntKind.wrap .u8 z3,IntKind.wrap .u8 z4,IntKind.wrap .u8 z5,IntKind.wrap .u8 z1],()))) .fail) .fail) .fail) .fail) .fail) (.done (.exit 2) A6Y ((u61),(h0,()))))
abbrev A1A:=(List Int)×(Int)×(List Int)
abbrev Z5:=Nat×(List Int)
def V5:Z5:=(99,([]:List Int))
noncomputable def A2e (x4:List Int) (x8:Int) (h0:List Int):A1A ⊕ Z5:=let z1:=x4.getD x8.toNat (0:Int);let z2:=decide (0≤x8∧x8<(x4.length:Int));let z3:=Int.fdiv z1 (2 ^ (24));let z4:=Int.fdiv z1 (2 ^ (16));let z5:=Int.fdiv z1 (2 ^ (8));(cond (decide (x8<(8:Int))) (cond z2 (cond z2 (cond z2 (cond z2 (cond (decide ((h0.length+[IntKind.wrap .u8 z3,IntKind.wrap .u8 z4,IntKind.wrap .u8 z5,IntKind.wrap .u8 z1].length)*1≤MAXB)) (.inl (x4,IntKind.wrap .i64 (x8+(1:Int)),h0++[IntKind.wrap .u8 z3,IntKind.wrap .u8 z4,IntKind.wrap .u8 z5,IntKind.wrap .u8 z1])) (.inr V5)) (.inr V5)) (.inr V5)) (.inr V5)) (.inr V5)) (.inr (0,h0)))
noncomputable def Q6 (x4:List Int) (x8:Int) (h0:List Int):Z5:=itX (fun v:A1A=>A2e v.1 v.2.1 v.2.2) V5 (x4,x8,h0)
noncomputable def A4r (a:Z5):CT:=(.br (a.1==0) (.done (.exit 2) A6Y ((u61),(a.2,()))) .fail)
noncomputable def B33 (x4:List Int) (x8:Int) (h0:List Int):CT:=A4r (Q6 x4 x8 h0)
noncomputable abbrev A15 {α:Sort _} (f:(List Int)→Int→(List Int)→α) (d:L5.den):α:=f d.1.2.2.2.2.1 d.1.2.2.2.2.2.2.2.2.1 d.2.1
noncomputable abbrev A40:L5.den→RT L5.den:=(A15 A9o)
noncomputable abbrev A8Z (v:A1A):L5.den:=(((),(),(),(),v.1,(),(),(),v.2.1,u52),(v.2.2,()))
theorem B3C:(∀ v:A1A,(A9o v.1 v.2.1 v.2.2).val=relS A8Z A4r (A2e v.1 v.2.1 v.2.2))∧∀ a:Z5,CEnd L5.den (A4r a):=⟨fun v=>by repeat' first | apply relB | rfl,fun a=>(cendB aCD cendF)⟩
noncomputable def A8K (x4:List Int) (x8:Int) (h0:List Int):Option (Ex×St):=let z1:=x4.getD x8.toNat (0:Int);let z2:=decide (0≤x8∧x8<(x4.length:Int));let z3:=Int.fdiv z1 (2 ^ (24));let z4:=Int.fdiv z1 (2 ^ (16));let z5:=Int.fdiv z1 (2 ^ (8));(cond (decide (x8<(8:Int))) (cond z2 (cond z2 (cond z2 (cond z2 (cond (decide ((h0.length+[IntKind.wrap .u8 z3,IntKind.wrap .u8 z4,IntKind.wrap .u8 z5,IntKind.wrap .u8 z1].length)*1≤MAXB)) (some (.normal,(⟨(.junk::.junk::.junk::.junk::(.t true A23 x4)::.junk::.junk::(.all 0 1)::(ti (IntKind.wrap .i64 (x8+(1:Int))))::C0w),[(.rows 5 true (.int .u8) (h0++[IntKind.wrap .u8 z3,IntKind.wrap .u8 z4,IntKind.wrap .u8 z5,IntKind.wrap .u8 z1]))],0,[]⟩:St))) none) none) none) none) none) (some ((.exit 2),(⟨(.junk::.junk::.junk::.junk::.junk::.junk::.junk::(.all 0 1)::C1e),[(.rows 5 true (.int .u8) h0)],0,[]⟩:St))))
theorem B17:RdA G49 aLn 2 A2G L5 0 [] (kepts [] [(2,[7])]) (A15 A8K):=by
 intro d
 kernel_rfl
theorem B2h:∀ d:L5.den,(A15 A8K) d=(A40 d).opt 0 []:=by
 intro d
 kernel_rfl
noncomputable abbrev A7E:St→Option Tree:=L5.say 0 [] [] (A15 B33)
theorem B3i:aPL A7E A2G:=SS.wp2 hlz [] A40 B17 B2h _ (fun d=>Runs.ofI2 (step:=A40) A8Z B3C rfl (d.1.2.2.2.2.1,d.1.2.2.2.2.2.2.2.2.1,d.2.1))
noncomputable def Y6 (a0:List Int):=A0G (F5 a0) [(1779033703:Int),(3144134277:Int),(1013904242:Int),(2773480762:Int),(1359893119:Int),(2600822924:Int),(528734635:Int),(1541459225:Int)] A5o (0:Int)
noncomputable def A0M (a0:List Int):ByteArray:=(⟨(((Q6 ((Y6 a0).2) (0:Int) ([]:List Int)).2).map fun n=>UInt8.ofNat n.toNat).toArray⟩:ByteArray)
noncomputable abbrev B2A (r:ByteArray):AV×List AObj:=((.t true .str r),[])
noncomputable abbrev A9G:pshsDen A3W→AV×List AObj:=fun d=>B2A (A0M d.1)
noncomputable def A0k (a0:List Int):Bool:=(A04 a0)&&(((Y6 a0).1==0)&&((Q6 ((Y6 a0).2) (0:Int) ([]:List Int)).1==0))
noncomputable abbrev A58:pshsDen A3W→Bool:=fun d=>A0k d.1
noncomputable abbrev B6q:Nat→St→Option Tree:=fun b=>match b with | 0=>A7D | 2=>A7E | _=>fun _=>none
theorem B4Y:RunP true G49 (B6q) Try.f65 A3W A58 A9G:=by
 rintro ⟨a0,_⟩ hp
 change A0k a0=true at hp
 unfold A0k at hp
 refine Eq.trans (b:=(cond (A04 a0) (cond ((Y6 a0).1==0) (cond ((Q6 ((Y6 a0).2) (0:Int) ([]:List Int)).1==0) (some (B2A (⟨(((Q6 ((Y6 a0).2) (0:Int) ([]:List Int)).2).map fun n=>UInt8.ofNat n.toNat).toArray⟩:ByteArray))) none) none) none)) (by kernel_rfl) ?_
 exact (cndA hp fun hp=>(cndA hp fun hp=>(cndT hp fun _h=>rfl)))
theorem B6F:aPP 65 (sumOf A3W A58 A9G):=pcD true G49 (by
  rw [show loopsIn 0 (bodyOf Try.f65)=[(0,A2F),(2,A2G)] by kernel_rfl];intro p hp;simp only [List.mem_cons,List.mem_nil_iff,or_false] at hp
  rcases hp with rfl | rfl
  ·exact B3h
  ·exact B3i) B4Y
noncomputable def S50:Tab:=Tab.add S49 65 (lift (sumOf A3W A58 A9G))
noncomputable def B91:FuncId→Bool:=qadd B90 65
theorem G50:aPG S50 B91:=G49.addQ B6F (cbl Try.f65) (fun _=>rfl)

abbrev A2t:List PSh:=[.t B5,.t (.int .i64)]
noncomputable def A0N (a0:List Int) (a1:Int):ByteArray×Int×Bool:=(cond (!((A4 a0 a1).2.2)) (bE,(0:Int),false) (cond (decide (((A4 a0 a1).1) > (IntKind.wrap .i64 ((a0.length:Int) - ((A4 a0 a1).2.1))))) (bE,(0:Int),false) ((⟨(((a0.take (IntKind.wrap .i64 (((A4 a0 a1).2.1)+((A4 a0 a1).1))).toNat).drop ((A4 a0 a1).2.1).toNat).map fun n=>UInt8.ofNat n.toNat).toArray⟩:ByteArray),IntKind.wrap .i64 (((A4 a0 a1).2.1)+((A4 a0 a1).1)),true)))
noncomputable abbrev A0Y (r:ByteArray×Int×Bool):AV×List AObj:=((.tup [(.t true .str r.1),(ti r.2.1),(.t true .bool r.2.2)]),[])
noncomputable abbrev A7Y:pshsDen A2t→AV×List AObj:=fun d=>A0Y (A0N d.1 d.2.1)
noncomputable def K8 (a0:List Int) (a1:Int):Bool:=let z1:=A4 a0 a1;let z2:=IntKind.wrap .i64 ((z1.2.1)+(z1.1));(D8 a0 a1)&&(cond (!(z1.2.2)) true (cond (decide ((z1.1) > (IntKind.wrap .i64 ((a0.length:Int) - (z1.2.1))))) true (decide (0≤(z1.2.1)∧(z1.2.1)≤z2∧z2≤(a0.length:Int)))))
noncomputable abbrev A4R:pshsDen A2t→Bool:=fun d=>K8 d.1 d.2.1
theorem B3O:RunP true G50 aLn Try.f123 A2t A4R A7Y:=by
 rintro ⟨a0,⟨a1,_⟩⟩ hp
 change K8 a0 a1=true at hp
 unfold K8 at hp
 refine Eq.trans (b:=(cond (D8 a0 a1) (cond (!((A4 a0 a1).2.2)) (some (A0Y ((⟨#[]⟩:ByteArray),(0:Int),false))) (cond (decide (((A4 a0 a1).1) > (IntKind.wrap .i64 ((a0.length:Int) - ((A4 a0 a1).2.1))))) (some (A0Y ((⟨#[]⟩:ByteArray),(0:Int),false))) (cond (decide (0≤((A4 a0 a1).2.1)∧((A4 a0 a1).2.1)≤(IntKind.wrap .i64 (((A4 a0 a1).2.1)+((A4 a0 a1).1)))∧(IntKind.wrap .i64 (((A4 a0 a1).2.1)+((A4 a0 a1).1)))≤(a0.length:Int))) (some (A0Y ((⟨(((a0.take (IntKind.wrap .i64 (((A4 a0 a1).2.1)+((A4 a0 a1).1))).toNat).drop ((A4 a0 a1).2.1).toNat).map fun n=>UInt8.ofNat n.toNat).toArray⟩:ByteArray),IntKind.wrap .i64 (((A4 a0 a1).2.1)+((A4 a0 a1).1)),true))) none))) none)) (by kernel_rfl) ?_
 exact (cndA hp fun hp=>(K5 A0Y hp (fun hp=>rfl) (fun hp=>(K5 A0Y hp (fun hp=>rfl) (fun hp=>(cndT hp fun _h=>rfl))))))
theorem B5y:aPP 123 (sumOf A2t A4R A7Y):=pcD true G50 hlz B3O
noncomputable def S51:Tab:=Tab.add S50 123 (lift (sumOf A2t A4R A7Y))
noncomputable def B92:FuncId→Bool:=qadd B91 123
theorem G51:aPG S51 B92:=G50.addQ B5y (cbl Try.f123) (fun _=>rfl)

abbrev A8k:List PSh:=[.t (.int .i64),.t (.int .i64),.t (.int .i64)]
noncomputable def I6 (a0 a1 a2:Int):Bool:=(cond (decide (a0 ≥ a1)) (decide (a0≤a2)) false)
noncomputable abbrev B0G (r:Bool):AV×List AObj:=((.t true .bool r),[])
noncomputable abbrev B29:pshsDen A8k→AV×List AObj:=fun d=>B0G (I6 d.1 d.2.1 d.2.2.1)
noncomputable abbrev A9T:pshsDen A8k→Bool:=fun d=>true
theorem B65:RunP true G51 aLn Try.f72 A8k A9T B29:=by
 rintro ⟨a0,⟨a1,⟨a2,_⟩⟩⟩ hp
 refine Eq.trans (b:=(cond (decide (a0 ≥ a1)) (some (B0G (decide (a0≤a2)))) (some (B0G false)))) (by kernel_rfl) ?_
 exact (N9 B0G (fun _h=>rfl) (fun _h=>rfl))
theorem B8i:aPP 72 (sumOf A8k A9T B29):=pcD true G51 hlz B65
noncomputable def S52:Tab:=Tab.add S51 72 (lift (sumOf A8k A9T B29))
noncomputable def B93:FuncId→Bool:=qadd B92 72
theorem G52:aPG S52 B93:=G51.addQ B8i (cbl Try.f72) (fun _=>rfl)

abbrev C0G:List Sh:=.junk::B7X
abbrev C0H:List Sh:=.junk::C0G
abbrev u25:=((),(),u23)
abbrev u24:=((),u23)
noncomputable def A4U (s:ByteArray) (i:Nat):Bool:=let z1:=IntKind.wrap .i64 (bt s (i:Int));I6 z1 97 122||I6 z1 48 57
abbrev A5A:List PSh:=[.t .str]
abbrev Y4:SS:=⟨(.t true .str::.junk::.junk::tI::C0G),[]⟩
abbrev A8e:SS:=⟨(.junk::.junk::.t true .bool::C0H),[]⟩
abbrev A8f:SS:=⟨(.t true .str::B9c),[]⟩
noncomputable def A6x (x0:ByteArray) (x3:Int):RT Y4.den:=let z1:=decide (0≤x3∧x3<(x0.size:Int));let z2:=IntKind.wrap .i64 (bt x0 x3);(.br (decide (x3<(x0.size:Int))) (.br z1 (.br (!(I6 z2 (97:Int) (122:Int))) (.br z1 (.br (!(I6 z2 (48:Int) (57:Int))) (.done .ret A8e (((),(),false,u25),())) (.next ((x0,(),(),IntKind.wrap .i64 (x3+(1:Int)),u24),()))) .fail) (.next ((x0,(),(),IntKind.wrap .i64 (x3+(1:Int)),u24),()))) .fail) (.done (.exit 0) A8f ((x0,u27),())))
noncomputable def A2x (x0:ByteArray) (x3:Int):CT:=(.br (decide (0≤x3)&&okS x0) (.br (allF (A4U x0) (x0.size - x3.toNat) x3.toNat) (.done (.exit 0) A8f ((x0,u27),())) (.done .ret A8e (((),(),false,u25),()))) .fail)
noncomputable abbrev A1L:Y4.den→RT Y4.den:=(fun d=>A6x d.1.1 d.1.2.2.2.1)
noncomputable abbrev B0f (x0:ByteArray) (x3:Int):Y4.den:=((x0,(),(),x3,u24),())
noncomputable def A64:Code:=((loopsIn 0 (bodyOf Try.f154)).getD 0 (0,.skip)).2
theorem B5o (x0:ByteArray) (x3:Int):(A2x x0 x3).val (D:=Y4.den)=.fail∨Runs A1L (B0f x0 x3) (A2x x0 x3).val:=by
 cases hc:(decide (0≤x3)&&okS x0) with
 | false=>left;simp only [A2x,CT.val,hc,cond_false]
 | true =>
  right
  simp only [A2x,CT.val,hc,cond_true]
  simp only [Bool.and_eq_true,decide_eq_true_eq] at hc
  obtain ⟨i,rfl⟩:=Int.eq_ofNat_of_zero_le hc.1
  have hs:=okS_le hc.2
  simp only [Int.toNat_natCast]
  refine Runs.scan (fun j=>B0f x0 (j:Int)) (x0.size) (A4U x0) (fun i hi=>?_) (fun i hi=>?_) ⟨_,_,_,rfl,by simp⟩ ⟨_,_,_,rfl,by simp⟩ _ _ rfl
  ·
   have h0a:decide ((i:Int)<(x0.size:Int))=true:=decide_eq_true (by omega)
   have h0b:decide (0≤(i:Int)∧(i:Int)<(x0.size:Int))=true:=decide_eq_true (by omega)
   simp only [A1L,A6x,RT.val,h0a,h0b,cond_true,wrapS i (by omega),Int.toNat_natCast]
   simp only [A4U]
   cases I6 (IntKind.wrap .i64 (bt x0 (i:Int))) 97 122<;>cases I6 (IntKind.wrap .i64 (bt x0 (i:Int))) 48 57<;>rfl
  ·have h1:decide ((i:Int)<(x0.size:Int))=false:=decide_eq_false (by omega)
   simp only [A1L,A6x,RT.val,h1,cond_false]
theorem B3q:RdA G52 aLn 0 A64 Y4 0 [] (kepts [2] [(0,[0])]) (fun d=>(A1L d).opt 0 []):=by
 intro d
 kernel_rfl
noncomputable abbrev A9e:St→Option Tree:=Y4.say 0 [] [] (fun d=>A2x d.1.1 d.1.2.2.2.1)
theorem B4z:aPL A9e A64:=SS.wp2 hlz [] A1L B3q (fun d=>rfl) _ (fun d=>B5o d.1.1 d.1.2.2.2.1)
noncomputable def A08 (a0:ByteArray):Bool:=(cond (allF (A4U a0) (a0.size - (0:Int).toNat) (0:Int).toNat) (I6 (a0.size:Int) (1:Int) (12:Int)) false)
noncomputable abbrev A8t (r:Bool):AV×List AObj:=((.t true .bool r),[])
noncomputable abbrev B04:pshsDen A5A→AV×List AObj:=fun d=>A8t (A08 d.1)
noncomputable def A6f (a0:ByteArray):Bool:=okS a0
noncomputable abbrev A77:pshsDen A5A→Bool:=fun d=>A6f d.1
noncomputable abbrev B7e:Nat→St→Option Tree:=fun b=>match b with | 0=>A9e | _=>fun _=>none
theorem B5X:RunP true G52 (B7e) Try.f154 A5A A77 B04:=by
 rintro ⟨a0,_⟩ hp
 change A6f a0=true at hp
 unfold A6f at hp
 refine Eq.trans (b:=(cond (decide (0≤(0:Int))&&okS a0) (cond (allF (A4U a0) (a0.size - (0:Int).toNat) (0:Int).toNat) (some (A8t (I6 (a0.size:Int) (1:Int) (12:Int)))) (some (A8t false))) none)) (by kernel_rfl) ?_
 exact (cndT (by first | rfl | decide | exact hp | (simp only [Bool.and_eq_true] at hp;simp only [hp];done) | (simp [*];done) | (simp [okL] at hp;simp [okL,MAXB];omega) | (simp_all;done) | (simp at *;omega)) (fun _h=>(N9 A8t (fun _h=>rfl) (fun _h=>rfl))))
theorem B7n:aPP 154 (sumOf A5A A77 B04):=pcD true G52 (hl1 (i:=0) (by kernel_rfl) B4z) B5X
noncomputable def S53:Tab:=Tab.add S52 154 (lift (sumOf A5A A77 B04))
noncomputable def B94:FuncId→Bool:=qadd B93 154
theorem G53:aPG S53 B94:=G52.addQ B7n (cbl Try.f154) (fun _=>rfl)

abbrev A8l:List PSh:=[.agg [(.int .i64),.str,.str]]
noncomputable def A6s (a0:Int) (a1 a2:ByteArray):Bool:=let z1:=decide ((a2.size:Int)≤(20:Int));(cond (!(I6 a0 (1:Int) (3:Int))) false (cond (a0==(2:Int)) (cond (!(a2.toList==bE.toList)) false (cond (A08 a1) z1 false)) (cond (A08 a1) z1 false)))
noncomputable abbrev A0D (r:Bool):AV×List AObj:=((.t true .bool r),[])
noncomputable abbrev B3a:pshsDen A8l→AV×List AObj:=fun d=>A0D (A6s d.1.1 d.1.2.1 d.1.2.2.1)
noncomputable def A6Q (a0:Int) (a1 a2:ByteArray):Bool:=okS a1
noncomputable abbrev A9U:pshsDen A8l→Bool:=fun d=>A6Q d.1.1 d.1.2.1 d.1.2.2.1
theorem B66:RunP true G53 aLn Try.f118 A8l A9U B3a:=by
 rintro ⟨⟨a0,⟨a1,⟨a2,_⟩⟩⟩,_⟩ hp
 change A6Q a0 a1 a2=true at hp
 unfold A6Q at hp
 refine Eq.trans (b:=(let z1:=A0D (decide ((a2.size:Int)≤(20:Int)));cond (!(I6 a0 (1:Int) (3:Int))) (some (A0D false)) (cond (a0==(2:Int)) (cond (!(a2.toList==(⟨#[]⟩:ByteArray).toList)) (some (A0D false)) (cond (A6f a1) (cond (A08 a1) (some z1) (some (A0D false))) none)) (cond (A6f a1) (cond (A08 a1) (some z1) (some (A0D false))) none)))) (by kernel_rfl) ?_
 exact (N9 A0D (fun _h=>rfl) (fun _h=>(N9 A0D (fun _h=>(N9 A0D (fun _h=>rfl) (fun _h=>(cndT (by first | rfl | decide | exact hp | (simp only [Bool.and_eq_true] at hp;simp only [hp];done) | (simp [*];done) | (simp [okL] at hp;simp [okL,MAXB];omega) | (simp_all;done) | (simp at *;omega)) (fun _h=>(N9 A0D (fun _h=>rfl) (fun _h=>rfl))))))) (fun _h=>(cndT (by first | rfl | decide | exact hp | (simp only [Bool.and_eq_true] at hp;simp only [hp];done) | (simp [*];done) | (simp [okL] at hp;simp [okL,MAXB];omega) | (simp_all;done) | (simp at *;omega)) (fun _h=>(N9 A0D (fun _h=>rfl) (fun _h=>rfl))))))))
theorem B8j:aPP 118 (sumOf A8l A9U B3a):=pcD true G53 hlz B66
noncomputable def S54:Tab:=Tab.add S53 118 (lift (sumOf A8l A9U B3a))
noncomputable def B95:FuncId→Bool:=qadd B94 118
theorem G54:aPG S54 B95:=G53.addQ B8j (cbl Try.f118) (fun _=>rfl)

abbrev C0K:List Sh:=.junk::B9e
abbrev C1l:List Sh:=.junk::.junk::C0K
abbrev u37:=((),u36)
abbrev C0v:List AV:=.junk::B89
abbrev C1d:List AV:=.junk::.junk::C0v
noncomputable def A21 (l:Lq1) (i:Nat):Bool:=let z1:=l.getD i dOp;A6s z1.1 z1.2.1 z1.2.2&&(decide (i=0)||Op.bytesLess (l.getD (i - 1) dOp).2.1.toList z1.2.1.toList)
abbrev A5B:List PSh:=[.t tq2]
abbrev T9:SS:=⟨(.t false tq2::.junk::.junk::tI::B9e),[]⟩
abbrev A4h:SS:=⟨(.junk::.junk::.t true .bool::C0K),[]⟩
abbrev A8g:SS:=⟨(.t false tq2::C1l),[]⟩
noncomputable def A6y (x0:Lq1) (x3:Int):RT T9.den:=let z1:=x0.getD x3.toNat ((0:Int),(bE,bE));let z2:=IntKind.wrap .i64 (x3 - (1:Int));let z3:=decide (0≤x3∧x3<(x0.length:Int));(.br (decide (x3<(x0.length:Int))) (.br z3 (.br (A6Q (z1.1) ((z1.2).1) ((z1.2).2)) (.br (!(A6s (z1.1) ((z1.2).1) ((z1.2).2))) (.done .ret A4h (((),(),false,u35),())) (.br (decide (x3 > (0:Int))) (.br (decide (0≤z2∧z2<(x0.length:Int))) (.br z3 (.br (!(Op.bytesLess (((x0.getD (z2.toNat) ((0:Int),(bE,bE))).2).1).toList ((z1.2).1).toList)) (.done .ret A4h (((),(),false,u35),())) (.next ((x0,(),(),IntKind.wrap .i64 (x3+(1:Int)),u34),()))) .fail) .fail) (.next ((x0,(),(),IntKind.wrap .i64 (x3+(1:Int)),u34),())))) .fail) .fail) (.done (.exit 0) A8g ((x0,u37),())))
noncomputable def A2y (x0:Lq1) (x3:Int):CT:=(.br (decide (0≤x3)&&E9 x0) (.br (allF (A21 x0) (x0.length - x3.toNat) x3.toNat) (.done (.exit 0) A8g ((x0,u37),())) (.done .ret A4h (((),(),false,u35),()))) .fail)
noncomputable abbrev A1M:T9.den→RT T9.den:=(fun d=>A6y d.1.1 d.1.2.2.2.1)
noncomputable abbrev B0g (x0:Lq1) (x3:Int):T9.den:=((x0,(),(),x3,u34),())
noncomputable def A65:Code:=((loopsIn 0 (bodyOf Try.f73)).getD 0 (0,.skip)).2
theorem B5p (x0:Lq1) (x3:Int):(A2y x0 x3).val (D:=T9.den)=.fail∨Runs A1M (B0g x0 x3) (A2y x0 x3).val:=by
 cases hc:(decide (0≤x3)&&E9 x0) with
 | false=>left;simp only [A2y,CT.val,hc,cond_false]
 | true =>
  right
  simp only [A2y,CT.val,hc,cond_true]
  simp only [Bool.and_eq_true,decide_eq_true_eq] at hc
  obtain ⟨i,rfl⟩:=Int.eq_ofNat_of_zero_le hc.1
  have hs:=A0g hc.2
  simp only [Int.toNat_natCast]
  refine Runs.scan (fun j=>B0g x0 (j:Int)) (x0.length) (A21 x0) (fun i hi=>?_) (fun i hi=>?_) ⟨_,_,_,rfl,by simp⟩ ⟨_,_,_,rfl,by simp⟩ _ _ rfl
  ·
   have h0a:decide ((i:Int)<(x0.length:Int))=true:=decide_eq_true (by omega)
   have h0b:decide (0≤(i:Int)∧(i:Int)<(x0.length:Int))=true:=decide_eq_true (by omega)
   simp only [A1M,A6y,RT.val,h0a,h0b,cond_true,wrapS i (by omega),Int.toNat_natCast]
   have hq:A6Q (x0.getD i dOp).1 (x0.getD i dOp).2.1 (x0.getD i dOp).2.2=true:=(A5Z hc.2 i hi).1
   simp only [dOp] at hq
   simp only [hq,cond_true,A21,dOp]
   cases A6s (x0.getD i ((0:Int),((⟨#[]⟩:ByteArray),(⟨#[]⟩:ByteArray)))).1 (x0.getD i ((0:Int),((⟨#[]⟩:ByteArray),(⟨#[]⟩:ByteArray)))).2.1 (x0.getD i ((0:Int),((⟨#[]⟩:ByteArray),(⟨#[]⟩:ByteArray)))).2.2 with
   | false=>rfl
   | true =>
    cases i with
    | zero=>rfl
    | succ i =>
     have h3:decide (((i+1:Nat):Int) > 0)=true:=decide_eq_true (by omega)
     have h4:IntKind.wrap .i64 (((i+1:Nat):Int) - 1)=(i:Int):=by have:=wrap64 (n:=((i+1:Nat):Int) - 1) (by omega) (by omega);omega
     have h5:decide (0≤(i:Int)∧(i:Int)<(x0.length:Int))=true:=decide_eq_true (by omega)
     have h6:decide (i+1=0)=false:=by simp
     simp only [h3,h4,h5,h6,cond_true,Bool.true_and,Bool.false_or,Int.toNat_natCast,Nat.add_sub_cancel,Bool.not_true,cond_false]
     cases Op.bytesLess (x0.getD i ((0:Int),((⟨#[]⟩:ByteArray),(⟨#[]⟩:ByteArray)))).2.1.toList (x0.getD (i+1) ((0:Int),((⟨#[]⟩:ByteArray),(⟨#[]⟩:ByteArray)))).2.1.toList<;>rfl
  ·have h1:decide ((i:Int)<(x0.length:Int))=false:=decide_eq_false (by omega)
   simp only [A1M,A6y,RT.val,h1,cond_false]
noncomputable def B0b (x0:Lq1) (x3:Int):Option (Ex×St):=let z1:=x0.getD x3.toNat ((0:Int),(bE,bE));let z2:=(⟨((.t false tq2 x0)::.junk::.junk::(ti (IntKind.wrap .i64 (x3+(1:Int))))::B89),[],0,[]⟩:St);let z3:=IntKind.wrap .i64 (x3 - (1:Int));let z4:=(⟨(.junk::.junk::(.t true .bool false)::C0v),[],0,[]⟩:St);let z5:=decide (0≤x3∧x3<(x0.length:Int));(cond (decide (x3<(x0.length:Int))) (cond z5 (cond (A6Q (z1.1) ((z1.2).1) ((z1.2).2)) (cond (!(A6s (z1.1) ((z1.2).1) ((z1.2).2))) (some (.ret,z4)) (cond (decide (x3 > (0:Int))) (cond (decide (0≤z3∧z3<(x0.length:Int))) (cond z5 (cond (!(Op.bytesLess (((x0.getD (z3.toNat) ((0:Int),(bE,bE))).2).1).toList ((z1.2).1).toList)) (some (.ret,z4)) (some (.normal,z2))) none) none) (some (.normal,z2)))) none) none) (some ((.exit 0),(⟨((.t false tq2 x0)::C1d),[],0,[]⟩:St))))
theorem B3r:RdA G54 aLn 0 A65 T9 0 [] (kepts [2] [(0,[0])]) (fun d=>B0b d.1.1 d.1.2.2.2.1):=by
 intro d
 kernel_rfl
theorem B3v:∀ d:T9.den,(fun d=>B0b d.1.1 d.1.2.2.2.1) d=(A1M d).opt 0 []:=by
 intro d
 kernel_rfl
noncomputable abbrev A9f:St→Option Tree:=T9.say 0 [] [] (fun d=>A2y d.1.1 d.1.2.2.2.1)
theorem B4A:aPL A9f A65:=SS.wp2 hlz [] A1M B3r B3v _ (fun d=>B5p d.1.1 d.1.2.2.2.1)
noncomputable def J0 (a0:Lq1):Bool:=(cond (allF (A21 a0) (a0.length - (0:Int).toNat) (0:Int).toNat) (I6 (a0.length:Int) (1:Int) (8:Int)) false)
noncomputable abbrev A8u (r:Bool):AV×List AObj:=((.t true .bool r),[])
noncomputable abbrev B05:pshsDen A5B→AV×List AObj:=fun d=>A8u (J0 d.1)
noncomputable def A2V (a0:Lq1):Bool:=E9 a0
noncomputable abbrev A78:pshsDen A5B→Bool:=fun d=>A2V d.1
noncomputable abbrev B7f:Nat→St→Option Tree:=fun b=>match b with | 0=>A9f | _=>fun _=>none
theorem B5Y:RunP true G54 (B7f) Try.f73 A5B A78 B05:=by
 rintro ⟨a0,_⟩ hp
 change A2V a0=true at hp
 unfold A2V at hp
 refine Eq.trans (b:=(cond (decide (0≤(0:Int))&&E9 a0) (cond (allF (A21 a0) (a0.length - (0:Int).toNat) (0:Int).toNat) (some (A8u (I6 (a0.length:Int) (1:Int) (8:Int)))) (some (A8u false))) none)) (by kernel_rfl) ?_
 exact (cndT (by first | rfl | decide | exact hp | (simp only [Bool.and_eq_true] at hp;simp only [hp];done) | (simp [*];done) | (simp [okL] at hp;simp [okL,MAXB];omega) | (simp_all;done) | (simp at *;omega)) (fun _h=>(N9 A8u (fun _h=>rfl) (fun _h=>rfl))))
theorem B7o:aPP 73 (sumOf A5B A78 B05):=pcD true G54 (hl1 (i:=0) (by kernel_rfl) B4A) B5Y
noncomputable def S55:Tab:=Tab.add S54 73 (lift (sumOf A5B A78 B05))
noncomputable def B96:FuncId→Bool:=qadd B95 73
theorem G55:aPG S55 B96:=G54.addQ B7o (cbl Try.f73) (fun _=>rfl)

abbrev C1o:List Sh:=.junk::.junk::.junk::.junk::.junk::.junk::.junk::.junk::.junk::.junk::.junk::.junk::.junk::.junk::.junk::.junk::.junk::C0P
abbrev u81:=((),(),(),(),(),(),(),(),(),(),(),(),(),(),(),(),u65)
abbrev u84:=((),(),u82)
abbrev C1g:List AV:=.junk::.junk::.junk::.junk::.junk::.junk::.junk::.junk::.junk::.junk::.junk::.junk::.junk::.junk::.junk::.junk::.junk::C0y
abbrev A3Y:List PSh:=[.t B5]
abbrev L7:SS:=⟨(.t false B5::.junk::.junk::.junk::.all 0 3::tI::tI::.junk::.all 1 3::tI::C1o),[.rows 124 true tq3,.rows 124 true tq3]⟩
abbrev A1b:SS:=⟨(.junk::.junk::.all 0 3::.t true .bool::C0Q),[.rows 124 true tq3]⟩
abbrev A6Z:SS:=⟨(.t false B5::.junk::.junk::.junk::.all 0 3::.junk::tI::.junk::.all 1 3::B8v),[.rows 124 true tq3,.rows 124 true tq3]⟩
noncomputable def A9q (x0:List Int) (x5 x6 x9:Int) (h0 h1:Lq1):RT L7.den:=let z3:=A4 x0 x6;let z1:=A0N x0 (z3.2.1);let z2:=A0N x0 (z1.2.1);(.br (decide (x9<x5)) (.br (D8 x0 x6) (.br (K8 x0 (z3.2.1)) (.br (K8 x0 (z1.2.1)) (.br (!(z3.2.2)) (.done .ret A1b (((),(),(),false,u87),(h0,()))) (.br (!(z1.2.2)) (.done .ret A1b (((),(),(),false,u87),(h0,()))) (.br (!(z2.2.2)) (.done .ret A1b (((),(),(),false,u87),(h0,()))) (.br (decide ((h1.length+[((z3.1),((z1.1),(z2.1)))].length)*40≤MAXB)) (.next ((x0,(),(),(),(),x5,(z2.2.1),(),(),IntKind.wrap .i64 (x9+(1:Int)),u81),(h0,h1++[((z3.1),((z1.1),(z2.1)))],()))) .fail)))) .fail) .fail) .fail) (.done (.exit 0) A6Z ((x0,(),(),(),(),(),x6,u84),(h0,h1,()))))
abbrev A1C:=(List Int)×(Int)×(Int)×(Int)×Lq1×(Lq1)
abbrev A1t:=Nat×(Bool)×Lq1×(List Int)×(Int)×(Lq1)
def A0E:A1t:=(99,(false:Bool),([]:Lq1),([]:List Int),((0:Int):Int),([]:Lq1))
noncomputable def A2f (x0:List Int) (x5 x6 x9:Int) (h0 h1:Lq1):A1C ⊕ A1t:=let z3:=A4 x0 x6;let z1:=A0N x0 (z3.2.1);let z2:=A0N x0 (z1.2.1);let z4:=([]:List Int);(cond (decide (x9<x5)) (cond (D8 x0 x6) (cond (K8 x0 (z3.2.1)) (cond (K8 x0 (z1.2.1)) (cond (!(z3.2.2)) (.inr (0,false,h0,z4,((0:Int):Int),([]:Lq1))) (cond (!(z1.2.2)) (.inr (0,false,h0,z4,((0:Int):Int),([]:Lq1))) (cond (!(z2.2.2)) (.inr (0,false,h0,z4,((0:Int):Int),([]:Lq1))) (cond (decide ((h1.length+[((z3.1),((z1.1),(z2.1)))].length)*40≤MAXB)) (.inl (x0,x5,(z2.2.1),IntKind.wrap .i64 (x9+(1:Int)),h0,h1++[((z3.1),((z1.1),(z2.1)))])) (.inr A0E))))) (.inr A0E)) (.inr A0E)) (.inr A0E)) (.inr (1,(false:Bool),h0,x0,x6,h1)))
noncomputable def A2b (x0:List Int) (x5 x6 x9:Int) (h0 h1:Lq1):A1t:=itX (fun v:A1C=>A2f v.1 v.2.1 v.2.2.1 v.2.2.2.1 v.2.2.2.2.1 v.2.2.2.2.2) A0E (x0,x5,x6,x9,h0,h1)
noncomputable def A4t (a:A1t):CT:=(.br (a.1==0) (.done .ret A1b (((),(),(),a.2.1,u87),(a.2.2.1,()))) (.br (a.1==1) (.done (.exit 0) A6Z ((a.2.2.2.1,(),(),(),(),(),a.2.2.2.2.1,u84),(a.2.2.1,a.2.2.2.2.2,()))) .fail))
noncomputable def B35 (x0:List Int) (x5 x6 x9:Int) (h0 h1:Lq1):CT:=A4t (A2b x0 x5 x6 x9 h0 h1)
noncomputable abbrev A17 {α:Sort _} (f:(List Int)→Int→Int→Int→Lq1→Lq1→α) (d:L7.den):α:=f d.1.1 d.1.2.2.2.2.2.1 d.1.2.2.2.2.2.2.1 d.1.2.2.2.2.2.2.2.2.2.1 d.2.1 d.2.2.1
noncomputable abbrev A42:L7.den→RT L7.den:=(A17 A9q)
noncomputable def A5K:Code:=((loopsIn 0 (bodyOf Try.f84)).getD 0 (0,.skip)).2
noncomputable abbrev A81 (v:A1C):L7.den:=((v.1,(),(),(),(),v.2.1,v.2.2.1,(),(),v.2.2.2.1,u81),(v.2.2.2.2.1,v.2.2.2.2.2,()))
theorem B3E:(∀ v:A1C,(A9q v.1 v.2.1 v.2.2.1 v.2.2.2.1 v.2.2.2.2.1 v.2.2.2.2.2).val=relS A81 A4t (A2f v.1 v.2.1 v.2.2.1 v.2.2.2.1 v.2.2.2.2.1 v.2.2.2.2.2))∧∀ a:A1t,CEnd L7.den (A4t a):=⟨fun v=>by repeat' first | apply relB | rfl,fun a=>(cendB aCD (cendB aCD cendF))⟩
noncomputable def A8M (x0:List Int) (x5 x6 x9:Int) (h0 h1:Lq1):Option (Ex×St):=let z2:=(⟨(.junk::.junk::(.all 0 3)::(.t true .bool false)::C0z),[(.rows 124 true tq3 h0)],0,[]⟩:St);let z4:=A4 x0 x6;let z1:=A0N x0 (z4.2.1);let z3:=A0N x0 (z1.2.1);(cond (decide (x9<x5)) (cond (D8 x0 x6) (cond (K8 x0 (z4.2.1)) (cond (K8 x0 (z1.2.1)) (cond (!(z4.2.2)) (some (.ret,z2)) (cond (!(z1.2.2)) (some (.ret,z2)) (cond (!(z3.2.2)) (some (.ret,z2)) (cond (decide ((h1.length+[((z4.1),((z1.1),(z3.1)))].length)*40≤MAXB)) (some (.normal,(⟨((.t false B5 x0)::.junk::.junk::.junk::(.all 0 3)::(ti x5)::(ti (z3.2.1))::.junk::(.all 1 3)::(ti (IntKind.wrap .i64 (x9+(1:Int))))::C1g),[(.rows 124 true tq3 h0),(.rows 124 true tq3 (h1++[((z4.1),((z1.1),(z3.1)))]))],0,[]⟩:St))) none)))) none) none) none) (some ((.exit 0),(⟨((.t false B5 x0)::.junk::.junk::.junk::(.all 0 3)::.junk::(ti x6)::.junk::(.all 1 3)::B8q),[(.rows 124 true tq3 h0),(.rows 124 true tq3 h1)],0,[]⟩:St))))
theorem B19:RdA G55 aLn 0 A5K L7 0 [] (kepts [2,3] [(0,[0,4,6,8])]) (A17 A8M):=by
 intro d
 kernel_rfl
theorem B2j:∀ d:L7.den,(A17 A8M) d=(A42 d).opt 0 []:=by
 intro d
 kernel_rfl
noncomputable abbrev A7G:St→Option Tree:=L7.say 0 [] [] (A17 B35)
theorem B3k:aPL A7G A5K:=SS.wp2 hlz [] A42 B19 B2j _ (fun d=>Runs.ofI2 (step:=A42) A81 B3E rfl (d.1.1,d.1.2.2.2.2.2.1,d.1.2.2.2.2.2.2.1,d.1.2.2.2.2.2.2.2.2.2.1,d.2.1,d.2.2.1))
noncomputable def A4H (a0:List Int):=let z1:=A4 a0 (0:Int);A2b a0 (z1.1) (z1.2.1) (0:Int) ([]:Lq1) ([]:Lq1)
noncomputable def B0L (a0:List Int):Lq1×Bool:=let z1:=A4H a0;let z2:=A4 a0 (0:Int);(cond (!(z2.2.2)) (([]:Lq1),false) (cond (decide ((z2.1) > (8:Int))) (([]:Lq1),false) (cond (z1.1==0) ((z1.2.2.1),(z1.2.1)) (cond ((z1.2.2.2.2.1) != (((z1.2.2.2.1).length:Nat):Int)) ((z1.2.2.1),false) (cond (!(J0 (z1.2.2.2.2.2))) ((z1.2.2.1),false) ((z1.2.2.2.2.2),true))))))
noncomputable abbrev T0 (r:Lq1×Bool):AV×List AObj:=((.tup [(.t true tq2 r.1),(.t true .bool r.2)]),[])
noncomputable abbrev A9I:pshsDen A3Y→AV×List AObj:=fun d=>T0 (B0L d.1)
noncomputable def A03 (a0:List Int):Bool:=let z1:=A4H a0;let z2:=A4 a0 (0:Int);(D8 a0 (0:Int))&&(cond (!(z2.2.2)) true (cond (decide ((z2.1) > (8:Int))) true (cond (z1.1==0) true ((z1.1==1)&&(cond ((z1.2.2.2.2.1) != (((z1.2.2.2.1).length:Nat):Int)) true (A2V (z1.2.2.2.2.2)))))))
noncomputable abbrev A6a:pshsDen A3Y→Bool:=fun d=>A03 d.1
noncomputable abbrev B6s:Nat→St→Option Tree:=fun b=>match b with | 0=>A7G | _=>fun _=>none
theorem B40:RunP true G55 (B6s) Try.f84 A3Y A6a A9I:=by
 rintro ⟨a0,_⟩ hp
 change A03 a0=true at hp
 unfold A03 at hp
 refine Eq.trans (b:=(let z1:=A4H a0;let z2:=T0 ((z1.2.2.1),false);let z3:=T0 (([]:Lq1),false);let z4:=A4 a0 (0:Int);cond (D8 a0 (0:Int)) (cond (!(z4.2.2)) (some z3) (cond (decide ((z4.1) > (8:Int))) (some z3) (cond (z1.1==0) (some (T0 ((z1.2.2.1),(z1.2.1)))) (cond (z1.1==1) (cond ((z1.2.2.2.2.1) != (((z1.2.2.2.1).length:Nat):Int)) (some z2) (cond (A2V (z1.2.2.2.2.2)) (cond (!(J0 (z1.2.2.2.2.2))) (some z2) (some (T0 ((z1.2.2.2.2.2),true)))) none)) none)))) none)) (by kernel_rfl) ?_
 exact (cndA hp fun hp=>(K5 T0 hp (fun hp=>rfl) (fun hp=>(K5 T0 hp (fun hp=>rfl) (fun hp=>(K5 T0 hp (fun hp=>rfl) (fun hp=>(cndA hp fun hp=>(K5 T0 hp (fun hp=>rfl) (fun hp=>(cndT hp fun _h=>(N9 T0 (fun _h=>rfl) (fun _h=>rfl)))))))))))))
theorem B6H:aPP 84 (sumOf A3Y A6a A9I):=pcD true G55 (hl1 (i:=0) (by kernel_rfl) B3k) B40
noncomputable def S56:Tab:=Tab.add S55 84 (lift (sumOf A3Y A6a A9I))
noncomputable def B97:FuncId→Bool:=qadd B96 84
theorem G56:aPG S56 B97:=G55.addQ B6H (cbl Try.f84) (fun _=>rfl)

abbrev A5C:List PSh:=[.agg [(.int .i64),(.int .i64),tq2]]
noncomputable def E5 (a0 a1:Int) (a2:Lq1):Bool:=(cond (!(I6 a1 (1:Int) (1000000:Int))) false (cond (a0==(1:Int)) (J0 a2) (cond (a0==(2:Int)) ((a2.length:Int)==(0:Int)) (cond (a0==(3:Int)) ((a2.length:Int)==(0:Int)) false))))
noncomputable abbrev A0C (r:Bool):AV×List AObj:=((.t true .bool r),[])
noncomputable abbrev B06:pshsDen A5C→AV×List AObj:=fun d=>A0C (E5 d.1.1 d.1.2.1 d.1.2.2.1)
noncomputable def A0I (a0 a1:Int) (a2:Lq1):Bool:=E9 a2
noncomputable abbrev A79:pshsDen A5C→Bool:=fun d=>A0I d.1.1 d.1.2.1 d.1.2.2.1
theorem B5Z:RunP true G56 aLn Try.f26 A5C A79 B06:=by
 rintro ⟨⟨a0,⟨a1,⟨a2,_⟩⟩⟩,_⟩ hp
 change A0I a0 a1 a2=true at hp
 unfold A0I at hp
 refine Eq.trans (b:=(let z1:=A0C ((a2.length:Int)==(0:Int));cond (!(I6 a1 (1:Int) (1000000:Int))) (some (A0C false)) (cond (a0==(1:Int)) (cond (A2V a2) (some (A0C (J0 a2))) none) (cond (a0==(2:Int)) (some z1) (cond (a0==(3:Int)) (some z1) (some (A0C false))))))) (by kernel_rfl) ?_
 exact (N9 A0C (fun _h=>rfl) (fun _h=>(N9 A0C (fun _h=>(cndT (by first | rfl | decide | exact hp | (simp only [Bool.and_eq_true] at hp;simp only [hp];done) | (simp [*];done) | (simp [okL] at hp;simp [okL,MAXB];omega) | (simp_all;done) | (simp at *;omega)) (fun _h=>rfl))) (fun _h=>(N9 A0C (fun _h=>rfl) (fun _h=>(N9 A0C (fun _h=>rfl) (fun _h=>rfl))))))))
theorem B7p:aPP 26 (sumOf A5C A79 B06):=pcD true G56 hlz B5Z
noncomputable def S57:Tab:=Tab.add S56 26 (lift (sumOf A5C A79 B06))
noncomputable def B98:FuncId→Bool:=qadd B97 26
theorem G57:aPG S57 B98:=G56.addQ B7p (cbl Try.f26) (fun _=>rfl)


end Go.Proofs.Ytccelbeahdcooaa.Eng
