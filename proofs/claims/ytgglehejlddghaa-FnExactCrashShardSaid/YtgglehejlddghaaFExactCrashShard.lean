/- What the functions that FnExactCrashShard reaches compute: further. -/
import Derived.Test.YtgglehejlddghaaFExactCrashShardC
namespace Go.Proofs.Ytgglehejlddghaa.Eng
open Go Go.RowKit
set_option linter.unusedSimpArgs false
set_option linter.unusedVariables false
set_option maxRecDepth 10000
abbrev tq7:Ty:=.pair (.int .i64) (.pair (.sl (.pair (.int .i64) (.pair (.int .i64) (.sl (.pair (.int .i64) (.pair .str .str)))))) (.pair (.int .i64) (.pair (.sl (.pair .str .str)) (.sl (.pair (.int .i64) (.pair (.int .i64) (.sl (.pair (.int .i64) (.pair .str .str)))))))))
abbrev A8g:List PSh:=[.agg [(.int .i64),tq3,(.int .i64),tq6,tq3],.t (.int .i64)]
noncomputable def A75 (a0:Int) (a1:Lq1) (a2:Int) (a3:LBBe) (a4:Lq1) (a5:Int):=let z1:=B2Q a0 a1 a2 a3 a4;B4n (z1.1) (z1.2.2.1) (z1.2.1) (z1.2.2.2.1) (z1.2.2.2.2) a5
noncomputable def Q1 (a0:Int) (a1:Lq1) (a2:Int) (a3:LBBe) (a4:Lq1) (a5:Int):=let z1:=B2Q a0 a1 a2 a3 a4;B4b (z1.1) (z1.2.2.1) (z1.2.1) (z1.2.2.2.1) (z1.2.2.2.2) a5
noncomputable def A76 (a0:Int) (a1:Lq1) (a2:Int) (a3:LBBe) (a4:Lq1) (a5:Int):=let z1:=Q1 a0 a1 a2 a3 a4 a5;let z2:=A75 a0 a1 a2 a3 a4 a5;B6d (z1.1) (z1.2.2.1) (z1.2.1) (z1.2.2.2.1) (z1.2.2.2.2) (z2.1) (z2.2.1) (z2.2.2.1) (z2.2.2.2.1) (z2.2.2.2.2)
noncomputable def A77 (a0:Int) (a1:Lq1) (a2:Int) (a3:LBBe) (a4:Lq1):=let z1:=B2Q a0 a1 a2 a3 a4;B6d (z1.1) (z1.2.2.1) (z1.2.1) (z1.2.2.2.1) (z1.2.2.2.2) (z1.1) (z1.2.2.1) (z1.2.1) (z1.2.2.2.1) (z1.2.2.2.2)
noncomputable def A78 (a0:Int) (a1:Lq1) (a2:Int) (a3:LBBe) (a4:Lq1):=let z1:=B2Q a0 a1 a2 a3 a4;U4 (z1.1) (z1.2.1) (1:Int) (z1.2.2.1) (z1.2.2.2.1) (z1.2.2.2.2)
noncomputable def V6 (a0:Int) (a1:Lq1) (a2:Int) (a3:LBBe) (a4:Lq1) (a5:Int):=let z1:=Q1 a0 a1 a2 a3 a4 a5;U4 (z1.1) (z1.2.1) (1:Int) (z1.2.2.1) (z1.2.2.2.1) (z1.2.2.2.2)
noncomputable def A79 (a0:Int) (a1:Lq1) (a2:Int) (a3:LBBe) (a4:Lq1) (a5:Int):=let z1:=V6 a0 a1 a2 a3 a4 a5;let z2:=Q1 a0 a1 a2 a3 a4 a5;B87 (z2.1) (z1.2.1) (z2.2.1) (z1.2.2.1) (z1.2.2.2) (1:Int)
noncomputable def W5 (a0:Int) (a1:Lq1) (a2:Int) (a3:LBBe) (a4:Lq1) (a5:Int):Bool:=let z1:=A79 a0 a1 a2 a3 a4 a5;let z2:=!(A76 a0 a1 a2 a3 a4 a5);let z3:=z1 != ((V6 a0 a1 a2 a3 a4 a5).1);let z4:=decide (z1<(0:Int));(cond (decide ((B1g a0 a1 a2 a3 a4 (1048576:Int))<(0:Int))) true (cond z2 false (cond (!(A77 a0 a1 a2 a3 a4)) false (cond (decide (((A78 a0 a1 a2 a3 a4).1)<(0:Int))) false (cond z2 false (cond z4 false (cond z3 false (cond z2 false (cond z4 false (cond z3 false true))))))))))
noncomputable abbrev H9 (r:Bool):AV×List AObj:=((.t true .bool r),[])
noncomputable abbrev B38:H7 A8g→AV×List AObj:=fun d=>H9 (W5 d.1.1 d.1.2.1 d.1.2.2.1 d.1.2.2.2.1 d.1.2.2.2.2.1 d.2.1)
noncomputable def R8 (a0:Int) (a1:Lq1) (a2:Int) (a3:LBBe) (a4:Lq1) (a5:Int):Bool:=let z2:=B2Q a0 a1 a2 a3 a4;let z3:=Q1 a0 a1 a2 a3 a4 a5;let z4:=V6 a0 a1 a2 a3 a4 a5;let z5:=A75 a0 a1 a2 a3 a4 a5;let z1:=A70 (z3.1) (z3.2.2.1) (z3.2.1) (z3.2.2.2.1) (z3.2.2.2.2) (z5.1) (z5.2.1) (z5.2.2.1) (z5.2.2.2.1) (z5.2.2.2.2);let z6:=!(A76 a0 a1 a2 a3 a4 a5);let z7:=B1L a0 a1 a2 a3 a4;let z8:=A7J (z2.1) (z2.2.2.1) (z2.2.1) (z2.2.2.2.1) (z2.2.2.2.2) a5;let z9:=A9d (z3.1) (z4.2.1) (z3.2.1) (z4.2.2.1) (z4.2.2.2) (1:Int);let z10:=A79 a0 a1 a2 a3 a4 a5;(B1K a0 a1 a2 a3 a4 (1048576:Int))&&(cond (decide ((B1g a0 a1 a2 a3 a4 (1048576:Int))<(0:Int))) true (z7&&((A7K (z2.1) (z2.2.2.1) (z2.2.1) (z2.2.2.2.1) (z2.2.2.2.2) a5)&&(z7&&(z8&&(z1&&(cond z6 true (z7&&((A70 (z2.1) (z2.2.2.1) (z2.2.1) (z2.2.2.2.1) (z2.2.2.2.2) (z2.1) (z2.2.2.1) (z2.2.1) (z2.2.2.2.1) (z2.2.2.2.2))&&(cond (!(A77 a0 a1 a2 a3 a4)) true ((A0n (z2.1) (z2.2.1) (1:Int) (z2.2.2.1) (z2.2.2.2.1) (z2.2.2.2.2))&&(cond (decide (((A78 a0 a1 a2 a3 a4).1)<(0:Int))) true (z1&&(cond z6 true ((A0n (z3.1) (z3.2.1) (1:Int) (z3.2.2.1) (z3.2.2.2.1) (z3.2.2.2.2))&&(z9&&(cond (decide (z10<(0:Int))) true (cond (z10 != (z4.1)) true (z7&&(z8&&(z1&&(cond z6 true z9))))))))))))))))))))))
noncomputable abbrev U5:H7 A8g→Bool:=fun d=>R8 d.1.1 d.1.2.1 d.1.2.2.1 d.1.2.2.2.1 d.1.2.2.2.2.1 d.2.1
theorem B9p:A7C true G95 aLn Try.f9 A8g U5 B38:=by
 rintro ⟨⟨a0,⟨a1,⟨a2,⟨a3,⟨a4,_⟩⟩⟩⟩⟩,⟨a5,_⟩⟩ hp
 change R8 a0 a1 a2 a3 a4 a5=true at hp
 unfold R8 at hp
 refine Eq.trans (b:=(let z2:=B2Q a0 a1 a2 a3 a4;let z3:=Q1 a0 a1 a2 a3 a4 a5;let z4:=V6 a0 a1 a2 a3 a4 a5;let z5:=A75 a0 a1 a2 a3 a4 a5;let z1:=A70 (z3.1) (z3.2.2.1) (z3.2.1) (z3.2.2.2.1) (z3.2.2.2.2) (z5.1) (z5.2.1) (z5.2.2.1) (z5.2.2.2.1) (z5.2.2.2.2);let z6:=A79 a0 a1 a2 a3 a4 a5;let z7:=!(A76 a0 a1 a2 a3 a4 a5);let z8:=B1L a0 a1 a2 a3 a4;let z9:=A7J (z2.1) (z2.2.2.1) (z2.2.1) (z2.2.2.2.1) (z2.2.2.2.2) a5;let z10:=A9d (z3.1) (z4.2.1) (z3.2.1) (z4.2.2.1) (z4.2.2.2) (1:Int);let z11:=decide (z6<(0:Int));cond (B1K a0 a1 a2 a3 a4 (1048576:Int)) (cond (decide ((B1g a0 a1 a2 a3 a4 (1048576:Int))<(0:Int))) (some (H9 true)) (cond z8 (cond (A7K (z2.1) (z2.2.2.1) (z2.2.1) (z2.2.2.2.1) (z2.2.2.2.2) a5) (cond z8 (cond z9 (cond z1 (cond z7 (some (H9 false)) (cond z8 (cond (A70 (z2.1) (z2.2.2.1) (z2.2.1) (z2.2.2.2.1) (z2.2.2.2.2) (z2.1) (z2.2.2.1) (z2.2.1) (z2.2.2.2.1) (z2.2.2.2.2)) (cond (!(A77 a0 a1 a2 a3 a4)) (some (H9 false)) (cond (A0n (z2.1) (z2.2.1) (1:Int) (z2.2.2.1) (z2.2.2.2.1) (z2.2.2.2.2)) (cond (decide (((A78 a0 a1 a2 a3 a4).1)<(0:Int))) (some (H9 false)) (cond z1 (cond z7 (some (H9 false)) (cond (A0n (z3.1) (z3.2.1) (1:Int) (z3.2.2.1) (z3.2.2.2.1) (z3.2.2.2.2)) (cond z10 (cond z11 (some (H9 false)) (cond (z6 != (z4.1)) (some (H9 false)) (cond z8 (cond z9 (cond z1 (cond z7 (some (H9 false)) (cond z10 (cond z11 (some (H9 false)) (cond (z6 != (z4.1)) (some (H9 false)) (some (H9 true)))) none)) none) none) none))) none) none)) none)) none)) none) none)) none) none) none) none) none)) none)) (by kernel_rfl) ?_
 exact (A7D hp fun hp=>(L8 H9 hp (fun hp=>rfl) (fun hp=>(A7D hp fun hp=>(A7D hp fun hp=>(A7D hp fun hp=>(A7D hp fun hp=>(A7D hp fun hp=>(L8 H9 hp (fun hp=>rfl) (fun hp=>(A7D hp fun hp=>(A7D hp fun hp=>(L8 H9 hp (fun hp=>rfl) (fun hp=>(A7D hp fun hp=>(L8 H9 hp (fun hp=>rfl) (fun hp=>(A7D hp fun hp=>(L8 H9 hp (fun hp=>rfl) (fun hp=>(A7D hp fun hp=>(A7D hp fun hp=>(L8 H9 hp (fun hp=>rfl) (fun hp=>(L8 H9 hp (fun hp=>rfl) (fun hp=>(A7D hp fun hp=>(A7D hp fun hp=>(A7D hp fun hp=>(L8 H9 hp (fun hp=>rfl) (fun hp=>(A7F hp fun _h=>(Q2 H9 (fun _h=>rfl) (fun _h=>(Q2 H9 (fun _h=>rfl) (fun _h=>rfl))))))))))))))))))))))))))))))))))))
theorem C0O:aPP 9 (A22 A8g U5 B38):=pcD true G95 hlz B9p
noncomputable abbrev L9:=(Int)×(Int)×Lq2
noncomputable abbrev W2:=(Int)×(List L9)×(Int)×LBBe×List L9
noncomputable def D3I (l:Lq2):Prop:=B5Q l=true
noncomputable def D5H (x:L9):Prop:=D3I x.2.2
noncomputable def C4k (l:List L9):Prop:=l.length≤9223372036854775807∧∀ x∈l,D5H x
noncomputable abbrev W8:=ByteArray×ByteArray
noncomputable def C4j (l:List W8):Prop:=l.length≤9223372036854775807∧∀ p∈l,C4l p.1=true∧C4l p.2=true
noncomputable def C4m (x:W2):Prop:=C4k x.2.1∧C4j x.2.2.2.1∧C4k x.2.2.2.2
noncomputable def D4B (l:Lq2):Prop:=A7I l=true
noncomputable def D4C (x:L9):Prop:=D4B x.2.2
noncomputable def A8a (l:List L9):Prop:=l.length≤1048576∧∀ x∈l,D4C x
noncomputable def C7S (l:List W8):Prop:=l.length≤1048576∧∀ p∈l,okS p.1=true∧okS p.2=true
noncomputable def B9b (x:W2):Prop:=A8a x.2.1∧C7S x.2.2.2.1∧A8a x.2.2.2.2
noncomputable def I5:L9:=((0:Int),((0:Int),([]:Lq2)))
theorem Q3 {α:Type} {l:List α} {i:Nat} (h:i<l.length) (d:α):l.getD i d∈l:=by
 simp [List.getD_eq_getElem?_getD,h]
theorem M4 {α:Type} {l:List α} {i:Nat} (hi:i<l.length) (d:α):l.take (i+1)=l.take i++[l.getD i d]:=by
 rw [List.take_add_one,List.getElem?_eq_getElem hi];simp [List.getD_eq_getElem?_getD,hi]
theorem D7h {V A α:Type} {ss:V→V ⊕ A} {fa:A} (pk:Int→Nat→V) (l:List α) (d:α) (sz:α→Int→Int) (Q:α→Prop) (bad:A) (good:Int→A) (M:Int) (hn:l.length<4611686018427387904) {b:Int} (h0:0≤b) (h1:b≤M)
  (hstep:∀ i c,i<l.length→0≤c→c≤M→ss (pk c i)=cond (decide (sz (l.getD i d) c<0)) (.inr bad) (.inl (pk (sz (l.getD i d) c) (i+1))))
  (hQ:∀ x∈l,∀ c,0≤c→c≤M→0≤sz x c→sz x c≤c∧Q x) (hlast:∀ c,ss (pk c l.length)=.inr (good c)) :
  itX ss fa (pk b 0)=bad∨∃ c,itX ss fa (pk b 0)=good c∧0≤c∧c≤b∧∀ x∈l,Q x:=by
 rw [A6s]
 have key:∀ k N i c,i+k=l.length→k<N→0≤c→c≤b→(∀ x∈l.take i,Q x)→itN ss fa N (pk c i)=bad∨∃ c', itN ss fa N (pk c i)=good c'∧0≤c'∧c'≤b∧∀ x∈l,Q x:=by
  intro k
  induction k with
  | zero =>
   intro N i c hi hN c0 c1 hq
   obtain ⟨N,rfl⟩:∃ M,N=M+1:=⟨N - 1,by omega⟩
   obtain rfl:i=l.length:=by omega
   rw [A6P,hlast c]
   rw [List.take_length] at hq
   exact .inr ⟨c,rfl,c0,c1,hq⟩
  | succ k ih =>
   intro N i c hi hN c0 c1 hq
   obtain ⟨N,rfl⟩:∃ M,N=M+1:=⟨N - 1,by omega⟩
   have hlt:i<l.length:=by omega
   rw [A6P,hstep i c hlt c0 (by omega)]
   by_cases hneg:sz (l.getD i d) c<0
   ·rw [decide_eq_true hneg];exact .inl rfl
   ·rw [decide_eq_false hneg]
    obtain ⟨q1,q2⟩:=hQ _ (Q3 hlt d) c c0 (by omega) (by omega)
    refine ih N (i+1) _ (by omega) (by omega) (by omega) (by omega) (fun x hx=>?_)
    rw [M4 hlt d] at hx
    rcases List.mem_append.1 hx with hx | hx
    ·exact hq x hx
    ·simp only [List.mem_singleton] at hx;rw [hx];exact q2
 exact key l.length _ 0 b (by omega) hn h0 (Int.le_refl _) (by simp)
theorem D0q (k:Int) (s v:ByteArray) (b:Int) (h0:0≤b) (h1:b≤1048576) (hs:C4l s=true) (hv:C4l v=true) (h:0≤D0i k s v b):D0i k s v b≤b∧okS s=true∧okS v=true:=by
 simp only [C4l,decide_eq_true_eq] at hs hv
 have e1:=A6J (n:=b - (s.size:Int)) (by omega) (by omega)
 simp only [D0i,e1] at h ⊢
 cases hd:decide (b - (s.size:Int)<0) with
 | true=>rw [hd] at h;simp at h
 | false =>
  rw [hd] at h
  have:=of_decide_eq_false hd
  have e2:=A6J (n:=b - (s.size:Int) - (v.size:Int)) (by omega) (by omega)
  simp only [cond_false,e2] at h ⊢
  cases hd2:decide (b - (s.size:Int) - (v.size:Int)<0) with
  | true=>rw [hd2] at h;simp at h
  | false =>
   have:=of_decide_eq_false hd2
   simp only [cond_false,okS,decide_eq_true_eq]
   omega
theorem D4x (l:Lq2) (b:Int) (h0:0≤b) (h1:b≤1048576) (hb:B5Q l=true) (h:0≤B1H l b):B1H l b≤b∧A7I l=true:=by
 have hl:l.length≤9223372036854775807:=by simp only [B5Q,Bool.and_eq_true,decide_eq_true_eq] at hb;exact hb.1
 have e1:=A6J (n:=b - (l.length:Int)) (by omega) (by omega)
 simp only [B1H,e1,Int.toNat_zero,Nat.sub_zero] at h ⊢
 cases hd:decide (b - (l.length:Int)<0) with
 | true=>rw [hd] at h;simp at h
 | false =>
  rw [hd] at h
  have:=of_decide_eq_false hd
  simp only [cond_false] at h ⊢
  cases hi:A7x (szN (W4 l) l.length 0 (b - (l.length:Int))) with
  | false=>rw [hi] at h;simp at h
  | true =>
   obtain ⟨r1,r2,r3⟩:=D1W (M:=1048576) (Q:=fun i=>okS (l.getD i dOp).2.1=true∧okS (l.getD i dOp).2.2=true) l.length 0 (b - (l.length:Int)) (fun j b' _ hj q0 q1 hf=>by
    obtain ⟨p1,p2⟩:=C98 hb j (by omega)
    obtain ⟨s1,s2,s3⟩:=D0q _ _ _ b' q0 q1 p1 p2 hf
    exact ⟨⟨s2,s3⟩,s1⟩) (by omega) (by omega) hi
   simp only [cond_true]
   exact ⟨by omega,D6i (by omega) (fun i hi=>r1 i (Nat.zero_le _) (by omega))⟩
theorem D7w {l:Lq2} {b:Int} (hb:D3I l) (h0:0≤b) (h1:b≤1048576):C1F l b=true∧(0≤B1H l b→B1H l b≤b∧D4B l):=⟨decide_eq_true ⟨h0,h1,D3J hb⟩,fun h=>D4x l b h0 h1 hb h⟩
theorem C9m {x:L9} {b:Int} (hx:D5H x) (h0:0≤b) (h1:b≤1048576):B8g x.1 x.2.1 x.2.2 b=true∧(0≤B7j x.1 x.2.1 x.2.2 b→B7j x.1 x.2.1 x.2.2 b≤b∧D4C x):=by
 obtain ⟨a1,a2⟩:=D7w hx h0 h1
 refine ⟨a1,fun h=>?_⟩
 simp only [B7j] at h ⊢
 by_cases hd:B1H x.2.2 b<0
 ·rw [decide_eq_true hd] at h;simp at h
 ·rw [decide_eq_false hd];exact a2 (by omega)
theorem D1X {l:List L9} {b:Int} (hb:C4k l) (h0:0≤b) (h1:b≤1048576):B0L l b=true∧(0≤Z5 l b→Z5 l b≤b∧A8a l):=by
 obtain ⟨h2,h3⟩:=hb
 have hdj:(((0:Int),((0:Int),([]:Lq2))):L9)=I5:=rfl
 have e1:=A6J (n:=b - (l.length:Int)) (by omega) (by omega)
 simp only [B0L,Z5,e1]
 by_cases hd:b - (l.length:Int)<0
 ·rw [decide_eq_true hd];simp
 rw [decide_eq_false hd]
 simp only [cond_false]
 have key:A8p l (b - (l.length:Int)) 0=(0,-1,0)∨∃ c,A8p l (b - (l.length:Int)) 0=(1,0,c)∧0≤c∧c≤b - (l.length:Int)∧∀ x∈l,D4C x:=by
  refine D7h (fun c i=>(l,c,(i:Int))) l I5 (fun x c=>B7j x.1 x.2.1 x.2.2 c) D4C (0,-1,0) (fun c=>(1,0,c)) b (by omega) (by omega) (by omega) (fun i c hi c0 c1=>?_) (fun x hx c c0 c1 h=>(C9m (h3 x hx) c0 (by omega)).2 h) (fun c=>?_)
  ·have q1:=(C9m (h3 _ (Q3 hi I5)) c0 (by omega)).1
   have e1:decide ((i:Int)<(l.length:Int))=true:=decide_eq_true (by omega)
   have e2:decide (0≤(i:Int)∧(i:Int)<(l.length:Int))=true:=decide_eq_true (by omega)
   simp only [B0S,hdj,e1,e2,cond_true,Int.toNat_natCast,q1,A7z i (by omega)]
  ·have e1:decide ((l.length:Int)<(l.length:Int))=false:=decide_eq_false (by omega)
   simp only [B0S,e1,cond_false]
 rcases key with h | ⟨c,h,c0,c1,hj⟩
 ·rw [h];exact ⟨rfl,fun h=>by simp at h⟩
 ·rw [h];exact ⟨rfl,fun _=>⟨by show c≤b;omega,by omega,hj⟩⟩
noncomputable def D2n:W8:=(bE,bE)
theorem D3n (s v:ByteArray) (b:Int) (h0:0≤b) (h1:b≤1048576) (hs:C4l s=true) (hv:C4l v=true) (h:0≤C2o s v b):C2o s v b≤b∧okS s=true∧okS v=true:=by
 simp only [C4l,decide_eq_true_eq] at hs hv
 have e1:=A6J (n:=b - (s.size:Int)) (by omega) (by omega)
 simp only [C2o,e1] at h ⊢
 cases hd:decide (b - (s.size:Int)<0) with
 | true=>rw [hd] at h;simp at h
 | false =>
  rw [hd] at h
  have:=of_decide_eq_false hd
  have e2:=A6J (n:=b - (s.size:Int) - (v.size:Int)) (by omega) (by omega)
  simp only [cond_false,e2] at h ⊢
  cases hd2:decide (b - (s.size:Int) - (v.size:Int)<0) with
  | true=>rw [hd2] at h;simp at h
  | false =>
   have:=of_decide_eq_false hd2
   simp only [cond_false,okS,decide_eq_true_eq]
   omega
theorem D3m {l:List W8} {b:Int} (hb:C4j l) (h0:0≤b) (h1:b≤1048576):B3A l b=true∧(0≤B0m l b→B0m l b≤b∧C7S l):=by
 obtain ⟨hl,hp⟩:=hb
 refine ⟨decide_eq_true ⟨h0,h1,hl⟩,fun h=>?_⟩
 have e1:=A6J (n:=b - (l.length:Int)) (by omega) (by omega)
 simp only [B0m,e1,Int.toNat_zero,Nat.sub_zero] at h ⊢
 cases hd:decide (b - (l.length:Int)<0) with
 | true=>rw [hd] at h;simp at h
 | false =>
  rw [hd] at h
  have:=of_decide_eq_false hd
  simp only [cond_false] at h ⊢
  cases hi:A7x (szN (Q9 l) l.length 0 (b - (l.length:Int))) with
  | false=>rw [hi] at h;simp at h
  | true =>
   obtain ⟨r1,r2,r3⟩:=D1W (M:=1048576) (Q:=fun i=>okS (l.getD i D2n).1=true∧okS (l.getD i D2n).2=true) l.length 0 (b - (l.length:Int)) (fun j b' _ hj q0 q1 hf=>by
    obtain ⟨p1,p2⟩:=hp _ (Q3 (show j<l.length by omega) D2n)
    obtain ⟨s1,s2,s3⟩:=D3n _ _ b' q0 q1 p1 p2 hf
    exact ⟨⟨s2,s3⟩,s1⟩) (by omega) (by omega) hi
   simp only [cond_true]
   refine ⟨by omega,by omega,fun p hm=>?_⟩
   obtain ⟨i,hi,e⟩:=List.getElem_of_mem hm
   have:=r1 i (Nat.zero_le _) (by omega)
   rw [List.getD_eq_getElem?_getD,List.getElem?_eq_getElem hi,Option.getD_some,e] at this
   exact this
theorem D4y {x:W2} {b:Int} (hx:C4m x) (h0:0≤b) (h1:b≤1048576):B1K x.1 x.2.1 x.2.2.1 x.2.2.2.1 x.2.2.2.2 b=true∧(0≤B1g x.1 x.2.1 x.2.2.1 x.2.2.2.1 x.2.2.2.2 b→B1g x.1 x.2.1 x.2.2.1 x.2.2.2.1 x.2.2.2.2 b≤b∧B9b x):=by
 simp only [B1K,B1g]
 obtain ⟨q0,a0⟩:=D1X (b:=b) (hx.1) (by omega) (by omega)
 generalize hc0:Z5 x.2.1 b=c0 at *
 by_cases hd0:c0<0
 ·simp only [q0,decide_eq_true hd0,cond_true,Bool.true_and]
  exact ⟨trivial,fun h=>by simp at h⟩
 obtain ⟨m0,k0⟩:=a0 (by omega)
 simp only [q0,decide_eq_false hd0,cond_false,Bool.true_and]
 obtain ⟨q1,a1⟩:=D3m (b:=c0) (hx.2.1) (by omega) (by omega)
 generalize hc1:B0m x.2.2.2.1 c0=c1 at *
 by_cases hd1:c1<0
 ·simp only [q1,decide_eq_true hd1,cond_true,Bool.true_and]
  exact ⟨trivial,fun h=>by simp at h⟩
 obtain ⟨m1,k1⟩:=a1 (by omega)
 simp only [q1,decide_eq_false hd1,cond_false,Bool.true_and]
 obtain ⟨q2,a2⟩:=D1X (b:=c1) (hx.2.2) (by omega) (by omega)
 generalize hc2:Z5 x.2.2.2.2 c1=c2 at *
 by_cases hd2:c2<0
 ·rw [decide_eq_true hd2]
  exact ⟨q2,fun h=>by simp at h⟩
 obtain ⟨m2,k2⟩:=a2 (by omega)
 rw [decide_eq_false hd2]
 exact ⟨q2,fun _=>⟨by simp only [cond_false];omega,k0,k1,k2⟩⟩
noncomputable def W7 {α:Type} (w:α→Nat) (l:List α):Nat:=(l.map w).sum
noncomputable def V9 (r:L9):Nat:=2+3*r.2.2.length
theorem D7b {l:Lq2} {b:Int} (h0:0≤b) (h1:b≤1048576) (hb:B5Q l=true) (h:0≤B1H l b):B1H l b+(l.length:Int)≤b:=by
 have hl:l.length≤9223372036854775807:=by simp only [B5Q,Bool.and_eq_true,decide_eq_true_eq] at hb;exact hb.1
 have e1:=A6J (n:=b - (l.length:Int)) (by omega) (by omega)
 simp only [B1H,e1,Int.toNat_zero,Nat.sub_zero] at h ⊢
 cases hd:decide (b - (l.length:Int)<0) with
 | true=>rw [hd] at h;simp at h
 | false =>
  rw [hd] at h
  have:=of_decide_eq_false hd
  simp only [cond_false] at h ⊢
  cases hi:A7x (szN (W4 l) l.length 0 (b - (l.length:Int))) with
  | false=>rw [hi] at h;simp at h
  | true =>
   obtain ⟨r1,r2,r3⟩:=D1W (M:=1048576) (Q:=fun i=>True) l.length 0 (b - (l.length:Int)) (fun j b' _ hj q0 q1 hf=>by
    obtain ⟨p1,p2⟩:=C98 hb j (by omega)
    obtain ⟨s1,s2,s3⟩:=D0q _ _ _ b' q0 q1 p1 p2 hf
    exact ⟨trivial,s1⟩) (by omega) (by omega) hi
   simp only [cond_true]
   omega
theorem C6u {α:Type} (w:α→Nat) (l:List α) (x:α):W7 w (l++[x])=W7 w l+w x:=by simp [W7]
theorem D3o {l:List L9} {b:Int} (hl:C4k l) (h0:0≤b) (h1:b≤1048576) (h:0≤Z5 l b):3*Z5 l b+(W7 V9 l:Int)≤3*b:=by
 obtain ⟨h2,h3⟩:=hl
 have e1:=A6J (n:=b - (l.length:Int)) (by omega) (by omega)
 simp only [Z5,e1] at h ⊢
 by_cases hd:b - (l.length:Int)<0
 ·rw [decide_eq_true hd] at h;simp at h
 ·rw [decide_eq_false hd] at h ⊢
  simp only [cond_false] at h ⊢
  have key:(A8p l (b - (l.length:Int)) 0=(0,-1,0))∨∃ c,A8p l (b - (l.length:Int)) 0=(1,0,c)∧3*c+(W7 V9 l:Int)≤3*b:=by
   refine A6Q (fun v:B34=>∃ (i:Nat) (c:Int),v=(l,c,(i:Int))∧i≤l.length∧0≤c∧c≤b∧3*c+(W7 V9 (l.take i):Int)≤3*(b - (l.length:Int))+2*(i:Int)) (fun a:B1Q=>a=(0,-1,0)∨∃ c,a=(1,0,c)∧3*c+(W7 V9 l:Int)≤3*b) (fun v=>l.length - v.2.2.toNat) ?_ ⟨0,_,rfl,Nat.zero_le _,by omega,by omega,by simp [W7]⟩ (by simp;omega)
   rintro v ⟨i,c,rfl,hi,c0,c1,hj⟩
   by_cases hlt:i<l.length
   ·have e1:decide ((i:Int)<(l.length:Int))=true:=decide_eq_true (by omega)
    have e2:decide (0≤(i:Int)∧(i:Int)<(l.length:Int))=true:=decide_eq_true (by omega)
    have hbr:=h3 _ (Q3 hlt I5)
    obtain ⟨q1,q2⟩:=C9m hbr c0 (by omega)
    have hdj:((0:Int),((0:Int),([]:Lq2)))=I5:=rfl
    simp only [B0S,hdj,e1,e2,cond_true,Int.toNat_natCast,q1,A7z i (by omega)]
    by_cases hn:B7j (l.getD i I5).1 (l.getD i I5).2.1 (l.getD i I5).2.2 c<0
    ·simp only [decide_eq_true hn,cond_true]
     exact .inr ⟨_,rfl,.inl rfl⟩
    ·simp only [decide_eq_false hn,cond_false]
     obtain ⟨r1,r2⟩:=q2 (by omega)
     have r3:B7j (l.getD i I5).1 (l.getD i I5).2.1 (l.getD i I5).2.2 c+((l.getD i I5).2.2.length:Int)≤c:=by
      simp only [B7j] at hn ⊢
      by_cases hz:B1H (l.getD i I5).2.2 c<0
      ·rw [decide_eq_true hz] at hn;simp at hn
      ·rw [decide_eq_false hz];exact D7b c0 (by omega) hbr (by omega)
     refine .inl ⟨_,rfl,⟨i+1,_,rfl,by omega,by omega,by omega,?_⟩,by simp only [Int.toNat_natCast];omega⟩
     rw [M4 hlt I5,C6u,Int.natCast_add]
     simp only [V9] at *
     omega
   ·obtain rfl:i=l.length:=by omega
    have e1:decide ((l.length:Int)<(l.length:Int))=false:=decide_eq_false (by omega)
    simp only [B0S,e1,cond_false]
    rw [List.take_length] at hj
    exact .inr ⟨_,rfl,.inr ⟨_,rfl,by omega⟩⟩
  rcases key with e | ⟨c,e,hc⟩
  ·rw [e] at h;simp at h
  ·rw [e];exact hc
theorem D5s {x:W2} (hb:C4m x) (h:0≤B1g x.1 x.2.1 x.2.2.1 x.2.2.2.1 x.2.2.2.2 1048576):W7 V9 x.2.1≤3145728∧W7 V9 x.2.2.2.2≤3145728:=by
 obtain ⟨b1,b2,b3⟩:=hb
 simp only [B1g] at h
 by_cases hd:Z5 x.2.1 1048576<0
 ·rw [decide_eq_true hd] at h;simp at h
 rw [decide_eq_false hd] at h
 simp only [cond_false] at h
 have y1:=D3o b1 (b:=1048576) (by decide) (by decide) (by omega)
 obtain ⟨z1,_⟩:=(D1X b1 (b:=1048576) (by decide) (by decide)).2 (by omega)
 generalize Z5 x.2.1 1048576=c at *
 by_cases hd2:B0m x.2.2.2.1 c<0
 ·rw [decide_eq_true hd2] at h;simp at h
 rw [decide_eq_false hd2] at h
 simp only [cond_false] at h
 obtain ⟨z2,_⟩:=(D3m b2 (b:=c) (by omega) (by omega)).2 (by omega)
 generalize B0m x.2.2.2.1 c=d at *
 by_cases hd3:Z5 x.2.2.2.2 d<0
 ·rw [decide_eq_true hd3] at h;simp at h
 have y3:=D3o b3 (b:=d) (by omega) (by omega) (by omega)
 omega
theorem D6W {V A α β:Type} {ss:V→V ⊕ A} {fa:A} (pk:Nat→List β→V) (l:List α) (d:α) (e:β) (f:α→β) (last:List β→A) (hn:l.length<4611686018427387904)
  (h:∀ i r,i<l.length→r.length=l.length→ss (pk i r)=.inl (pk (i+1) (r.set i (f (l.getD i d))))) (hl:∀ r,r.length=l.length→ss (pk l.length r)=.inr (last r)):itX ss fa (pk 0 (List.replicate l.length e))=last (l.map f):=by
 rw [A6s]
 have key:∀ k N i r,i+k=l.length→k<N→r.length=l.length→r.take i=(l.map f).take i→itN ss fa N (pk i r)=last (l.map f):=by
  intro k
  induction k with
  | zero =>
   intro N i r hi hN hr ht
   obtain ⟨M,rfl⟩:∃ M,N=M+1:=⟨N - 1,by omega⟩
   obtain rfl:i=l.length:=by omega
   rw [A6P,hl r hr]
   have e1:r.take l.length=r:=List.take_of_length_le (by omega)
   have e2:(l.map f).take l.length=l.map f:=List.take_of_length_le (by simp)
   rw [e1,e2] at ht
   rw [ht]
  | succ k ih =>
   intro N i r hi hN hr ht
   obtain ⟨M,rfl⟩:∃ M,N=M+1:=⟨N - 1,by omega⟩
   rw [A6P,h i r (by omega) hr]
   refine ih M (i+1) _ (by omega) (by omega) (by rw [List.length_set];exact hr) ?_
   have hlt:i<l.length:=by omega
   rw [List.take_add_one,List.take_add_one,List.take_set_of_le (Nat.le_refl _),ht]
   congr 1
   simp [List.getElem?_set,hr,hlt,List.getD_eq_getElem?_getD]
 exact key l.length _ 0 _ (by omega) hn (by simp) (by simp)
theorem D4z (l:Lq2):C8D l=l:=by
 have e:=A7G (fun o:Int×ByteArray×ByteArray=>(C6H o.1 o.2.1 o.2.2)) dOp l l.length 0 (List.replicate l.length dOp) (by simp) (by simp)
 simp only [List.take_zero,List.nil_append,List.drop_zero] at e
 have e2:l.map (fun o:Int×ByteArray×ByteArray=>(C6H o.1 o.2.1 o.2.2))=l:=by
  rw [show (fun o:Int×ByteArray×ByteArray=>(C6H o.1 o.2.1 o.2.2))=id from funext fun _=>rfl,List.map_id]
 rw [e2] at e
 exact e
theorem D7x {l:Lq2} (h:D4B l):C1G l=true∧C8D l=l:=⟨D0k h,D4z l⟩
theorem D4D {l:List L9} (h:A8a l):B0M l=true∧B89 l=l:=by
 obtain ⟨hl,h3⟩:=h
 have hdj:(((0:Int),((0:Int),([]:Lq2))):L9)=I5:=rfl
 have key:B2H l 0 (List.replicate l.length I5)=(0,l.map fun x=>x):=by
  refine D6W (fun i r=>(l,(i:Int),r)) l I5 I5 (fun x=>x) (fun r=>(0,r)) (by omega) (fun i r hi hr=>?_) (fun r hr=>?_)
  ·have e1:decide ((i:Int)<(l.length:Int))=true:=decide_eq_true (by omega)
   have e2:decide (0≤(i:Int)∧(i:Int)<(l.length:Int))=true:=decide_eq_true (by omega)
   have e3:decide (0≤(i:Int)∧(i:Int)<(r.length:Int))=true:=decide_eq_true (by omega)
   have ho:=h3 _ (Q3 hi I5)
   have o2:=ho
   obtain ⟨qE2,toE2⟩:=D7x o2
   have q1:B8h (l.getD i I5).1 (l.getD i I5).2.1 (l.getD i I5).2.2=true:=by
    exact qE2
   simp only [B5i,hdj,e1,e2,e3,cond_true,Int.toNat_natCast,q1,A7z i (by omega),D03,toE2]
  ·have e1:decide ((l.length:Int)<(l.length:Int))=false:=decide_eq_false (by omega)
   simp only [B5i,e1,cond_false]
 rw [List.map_id'] at key
 simp only [B0M,B89,hdj,Int.toNat_natCast,key]
 refine ⟨?_,trivial⟩
 rw [Bool.and_eq_true]
 exact ⟨decide_eq_true ⟨by omega,trivial,by simp only [MAXB];omega,by omega⟩,rfl⟩
theorem D6t {l:List W8} (h:C7S l):B3B l=true∧C4I l=l:=by
 refine ⟨decide_eq_true h.1,?_⟩
 have e:=A7G (fun o:W8=>(B88 o.1 o.2)) D2n l l.length 0 (List.replicate l.length D2n) (by simp) (by simp)
 simp only [List.take_zero,List.nil_append,List.drop_zero] at e
 have e2:l.map (fun o:W8=>(B88 o.1 o.2))=l:=by
  rw [show (fun o:W8=>(B88 o.1 o.2))=id from funext fun _=>rfl,List.map_id]
 rw [e2] at e
 exact e
theorem D6u {x:W2} (h:B9b x):B1L x.1 x.2.1 x.2.2.1 x.2.2.2.1 x.2.2.2.2=true∧B2Q x.1 x.2.1 x.2.2.1 x.2.2.2.1 x.2.2.2.2=(x.1,x.2.2.1,x.2.1,x.2.2.2.1,x.2.2.2.2):=by
 obtain ⟨o1,o3,o4⟩:=h
 obtain ⟨qE1,toE1⟩:=D4D o1
 obtain ⟨qE3,toE3⟩:=D6t o3
 obtain ⟨qE4,toE4⟩:=D4D o4
 simp only [B1L,B2Q,qE1,qE3,qE4,toE1,toE3,toE4,Bool.and_self]
 exact ⟨trivial,trivial⟩
noncomputable def C5q {A:Type} (f:Nat→Option A) (last:A):Nat→Nat→A
 | 0,_=>last
 | k+1,i=>match f i with
  | some a=>a
  | none=>C5q f last k (i+1)
theorem D2B {V A:Type} {ss:V→V ⊕ A} {fa:A} (pk:Nat→V) (n:Nat) (f:Nat→Option A) (last:A) (hn:n<4611686018427387904)
  (h:∀ i,i<n→ss (pk i)=(match f i with | some a=>.inr a | none=>.inl (pk (i+1)))) (hl:ss (pk n)=.inr last):itX ss fa (pk 0)=C5q f last n 0:=by
 rw [A6s]
 have key:∀ k N i,i+k=n→k<N→itN ss fa N (pk i)=C5q f last k i:=by
  intro k
  induction k with
  | zero =>
   intro N i hi hN
   obtain ⟨M,rfl⟩:∃ M,N=M+1:=⟨N - 1,by omega⟩
   obtain rfl:i=n:=by omega
   rw [A6P,hl];rfl
  | succ k ih =>
   intro N i hi hN
   obtain ⟨M,rfl⟩:∃ M,N=M+1:=⟨N - 1,by omega⟩
   rw [A6P,h i (by omega)]
   simp only [C5q]
   cases hf:f i with
   | some a=>rfl
   | none=>exact ih M (i+1) (by omega) (by omega)
 exact key n _ 0 (by omega) hn
theorem D45 (k:Int) (s v:ByteArray):D0h k s v k s v=true:=by simp [D0h]
theorem D3X (l:Lq2):C5W l l=true:=by
 have e:A4H (B1F l l) (l.length - (0:Int).toNat) (0:Int).toNat=true:=C5D _ _ (fun j _ _=>by simp [B1F,D45])
 simp only [C5W,e,cond_true]
 simp
theorem D7f {l:Lq2} (h:D4B l):C1E l l=true∧C5W l l=true:=⟨D0k h,D3X l⟩
theorem C67 {A:Type} (f:Nat→Option A) (last:A):∀ k i,(∃ j a,i≤j∧j<i+k∧f j=some a∧(∀ m,i≤m→m<j→f m=none)∧C5q f last k i=a)∨((∀ j,i≤j→j<i+k→f j=none)∧C5q f last k i=last):=by
 intro k
 induction k with
 | zero=>intro i;exact .inr ⟨fun j h1 h2=>by omega,rfl⟩
 | succ k ih =>
  intro i
  simp only [C5q]
  cases hf:f i with
  | some a=>exact .inl ⟨i,a,Nat.le_refl _,by omega,hf,fun m h1 h2=>by omega,rfl⟩
  | none =>
   rcases ih (i+1) with ⟨j,a,h1,h2,h3,h4,h5⟩ | ⟨h1,h2⟩
   ·refine .inl ⟨j,a,by omega,by omega,h3,fun m m1 m2=>?_,h5⟩
    by_cases hm:m=i
    ·rw [hm];exact hf
    ·exact h4 m (by omega) m2
   ·refine .inr ⟨fun j j1 j2=>?_,h2⟩
    by_cases hj:j=i
    ·rw [hj];exact hf
    ·exact h1 j (by omega) (by omega)
theorem C7O {l:List L9} (h:A8a l):B0K l l=true∧B6Z l l=true:=by
 obtain ⟨hl,h3⟩:=h
 have hdj:(((0:Int),((0:Int),([]:Lq2))):L9)=I5:=rfl
 have e0:∀ x:Int,(x != x)=false:=fun x=>by simp
 have e9:∀ x:Bool,(x==x)=true:=fun x=>by simp
 have key:B2G l l 0=C5q (fun _=>none) (1,false) l.length 0:=by
  refine D2B (fun i=>(l,l,(i:Int))) l.length _ _ (by omega) (fun i hi=>?_) ?_
  ·have e1:decide ((i:Int)<(l.length:Int))=true:=decide_eq_true (by omega)
   have e2:decide (0≤(i:Int)∧(i:Int)<(l.length:Int))=true:=decide_eq_true (by omega)
   have ho:=h3 _ (Q3 hi I5)
   have o2:=ho
   obtain ⟨qE2,toE2⟩:=D7f o2
   have q1:B6p (l.getD i I5).1 (l.getD i I5).2.1 (l.getD i I5).2.2 (l.getD i I5).1 (l.getD i I5).2.1 (l.getD i I5).2.2=true:=by
    first | exact qE2 | (simp only [B6p,e0,cond_false];exact qE2)
   have q2:C8C (l.getD i I5).1 (l.getD i I5).2.1 (l.getD i I5).2.2 (l.getD i I5).1 (l.getD i I5).2.1 (l.getD i I5).2.2=true:=by
    simp only [C8C,e0,e9,toE2,cond_false,Bool.not_true]
   simp only [B5h,hdj,e1,e2,cond_true,cond_false,Bool.not_true,Int.toNat_natCast,q1,q2,A7z i (by omega)]
  ·have e1:decide ((l.length:Int)<(l.length:Int))=false:=decide_eq_false (by omega)
   simp only [B5h,e1,cond_false]
 have k2:C5q (fun _=>none) ((1,false):A9Q) l.length 0=(1,false):=by
  rcases C67 (fun _=>none) ((1,false):A9Q) l.length 0 with ⟨j,a,_,_,h3,_⟩ | ⟨_,h⟩
  ·cases h3
  ·exact h
 rw [k2] at key
 simp only [B0K,B6Z,key,e0,cond_false]
 exact ⟨rfl,rfl⟩
theorem D51 {l:List W8} (h:C7S l):B1J l l=true∧B4h l l=true:=by
 refine ⟨decide_eq_true h.1,?_⟩
 have e:A4H (A0m l l) (l.length - (0:Int).toNat) (0:Int).toNat=true:=C5D _ _ (fun j _ _=>by simp [A0m,C2n])
 simp only [B4h,e,cond_true]
 simp
theorem D3Y {x:W2} (h:B9b x):A70 x.1 x.2.1 x.2.2.1 x.2.2.2.1 x.2.2.2.2 x.1 x.2.1 x.2.2.1 x.2.2.2.1 x.2.2.2.2=true∧B6d x.1 x.2.1 x.2.2.1 x.2.2.2.1 x.2.2.2.2 x.1 x.2.1 x.2.2.1 x.2.2.2.1 x.2.2.2.2=true:=by
 obtain ⟨o1,o3,o4⟩:=h
 obtain ⟨qE1,toE1⟩:=C7O o1
 obtain ⟨qE3,toE3⟩:=D51 o3
 obtain ⟨qE4,toE4⟩:=C7O o4
 have e0:∀ x:Int,(x != x)=false:=fun x=>by simp
 simp only [A70,B6d,e0,qE1,toE1,qE3,toE3,qE4,toE4,cond_false,Bool.not_true,Bool.and_self]
 exact ⟨trivial,trivial⟩
noncomputable def C3w (k:ByteArray) (ops:Lq2):Bool:=ops.any fun x=>k.toList==x.2.1.toList
noncomputable def B86 (l ops:Lq2):Bool:=l.any fun o=>C3w o.2.1 ops
noncomputable def B2P (held:List L9) (ops:Lq2):Bool:=held.any fun r=>B86 r.2.2 ops
noncomputable def misses (m:LBBe) (o:Int×ByteArray×ByteArray):Bool:=cond (o.1 != 3) false (cond (!((B2Y m o.2.1).2==(!(o.2.2.toList==bE.toList)))) true (!((B2Y m o.2.1).1.toList==o.2.2.toList)))
noncomputable def B9a (m:LBBe) (ops:Lq2):Bool:=!(ops.any (misses m))
noncomputable def N8 (t:Int) (r:L9):Bool:=r.2.1==t
noncomputable def isK (k:ByteArray) (p:ByteArray×ByteArray):Bool:=p.1.toList==k.toList
noncomputable def dP:ByteArray×ByteArray:=(bE,bE)
noncomputable def B2R (k:ByteArray) (p:ByteArray×ByteArray):Bool:=!(Op.bytesLess p.1.toList k.toList||p.1.toList==k.toList)
noncomputable def D2U (l:LBBe) (k v:ByteArray):LBBe :=
 cond (decide (l.findIdx (isK k)<l.length)) (l.set (l.findIdx (isK k)) ((l.getD (l.findIdx (isK k)) dP).1,v)) (l.take (l.findIdx (B2R k))++((k,v)::l.drop (l.findIdx (B2R k))))
noncomputable def C5F (l:LBBe) (k:ByteArray):LBBe:=l.filter fun p=>!isK k p
noncomputable def C2s (l:LBBe) (o:Int×ByteArray×ByteArray):LBBe:=cond (o.1==1) (D2U l o.2.1 o.2.2) (cond (o.1==2) (C5F l o.2.1) l)
noncomputable def B8v (kn:Bool) (m:List W8) (held:List L9) (r:L9):Option (List W8×List L9) :=
 cond (!(B1O r.1 r.2.1 r.2.2)) none (cond (r.1==1)
  (cond kn none (cond (B2P held r.2.2) none (cond (!(B9a m r.2.2)) none (some (m,held++[((1:Int),(r.2.1,r.2.2))])))))
  (cond (!(held.any (N8 r.2.1))) (cond (r.1==3) (cond kn none (some (m,held))) none)
   (cond (r.1==2) (cond (decide (((((held.getD (held.findIdx (N8 r.2.1)) I5).2.2.foldl C2s m).length:Nat):Int)≤60)) (some ((held.getD (held.findIdx (N8 r.2.1)) I5).2.2.foldl C2s m,held.eraseIdx (held.findIdx (N8 r.2.1)))) none)
    (cond (decide ((m.length:Int)≤60)) (some (m,held.eraseIdx (held.findIdx (N8 r.2.1)))) none))))
noncomputable def B0N (l:List L9):Nat→Option (List W8×List L9)
 | 0=>some ([],[])
 | i+1=>(B0N l i).bind fun s=>B8v ((l.take i).any (N8 (l.getD i I5).2.1)) s.1 s.2 (l.getD i I5)
noncomputable def T2 (l:List L9):List W8×List L9×Bool:=match B0N l l.length with
 | none=>([],[],false)
 | some s=>(s.1,s.2,true)
noncomputable def C8P (l:List L9):Prop:=(l.map (·.2.1)).Nodup
noncomputable abbrev RepOk (l:List L9) (i:Nat) (m:List W8) (held:List L9):Prop:=C8P held∧(∀ x∈held,A7I x.2.2=true∧(l.take i).any (N8 x.2.1)=true)∧held.length≤i∧m.length≤60
theorem C75 {l:List L9} {i:Nat} {t:Int} (h:(l.take i).any (N8 t)=true):(l.take (i+1)).any (N8 t)=true:=by
 obtain ⟨x,hx,hp⟩:=List.any_eq_true.1 h
 exact List.any_eq_true.2 ⟨x,List.mem_of_mem_take (i:=i) (by rw [List.take_take,Nat.min_eq_left (by omega)];exact hx),hp⟩
theorem RepOk.hone {l:List L9} {i:Nat} {m:List W8} {held:List L9} (h:RepOk l i m held):C8P held:=h.1
theorem RepOk.hmem {l:List L9} {i:Nat} {m:List W8} {held:List L9} (h:RepOk l i m held):∀ x∈held,A7I x.2.2=true∧(l.take i).any (N8 x.2.1)=true:=h.2.1
theorem RepOk.hlen {l:List L9} {i:Nat} {m:List W8} {held:List L9} (h:RepOk l i m held):held.length≤i:=h.2.2.1
theorem RepOk.hml {l:List L9} {i:Nat} {m:List W8} {held:List L9} (h:RepOk l i m held):m.length≤60:=h.2.2.2
theorem D7a {l:List L9} {i:Nat} {m m':List W8} {held h':List L9} (hi:i<l.length) (hr:∀ x∈l,A7I x.2.2=true) (I:RepOk l i m held) (h:B8v ((l.take i).any (N8 (l.getD i I5).2.1)) m held (l.getD i I5)=some (m', h')):RepOk l (i+1) m' h':=by
 have hx:(l.take (i+1)).any (N8 (l.getD i I5).2.1)=true:=by
  refine List.any_eq_true.2 ⟨l.getD i I5,?_,by simp [N8]⟩
  rw [M4 hi I5];simp
 have sub:∀ k,RepOk l (i+1) m (held.eraseIdx k):=fun k=>by
  have hsub:(held.eraseIdx k).Sublist held:=List.eraseIdx_sublist _ _
  exact ⟨List.Nodup.sublist (hsub.map _) I.hone,fun x hx=>⟨(I.hmem x (hsub.subset hx)).1,C75 (I.hmem x (hsub.subset hx)).2⟩,by have:=hsub.length_le;have:=I.hlen;omega,I.hml⟩
 simp only [B8v] at h
 cases hok:B1O (l.getD i I5).1 (l.getD i I5).2.1 (l.getD i I5).2.2 with
 | false=>rw [hok] at h;simp at h
 | true =>
  simp only [hok,Bool.not_true,cond_false] at h
  cases hk:((l.getD i I5).1==1) with
  | true =>
   simp only [hk,cond_true] at h
   cases hkn:(l.take i).any (N8 (l.getD i I5).2.1) with
   | true=>rw [hkn] at h;simp at h
   | false =>
    rw [hkn] at h
    cases hlk:B2P held (l.getD i I5).2.2 with
    | true=>rw [hlk] at h;simp at h
    | false =>
     rw [hlk] at h
     cases hmt:B9a m (l.getD i I5).2.2 with
     | false=>rw [hmt] at h;simp at h
     | true =>
      rw [hmt] at h
      simp only [Bool.not_true,cond_false,Option.some.injEq,Prod.mk.injEq] at h
      obtain ⟨rfl,rfl⟩:=h
      refine ⟨?_,fun x hm=>?_,by rw [List.length_append];have:=I.hlen;simp;omega,I.hml⟩
      ·simp only [C8P,List.map_append,List.map_cons,List.map_nil]
       rw [List.nodup_append]
       refine ⟨I.hone,by simp,fun a ha b hb=>?_⟩
       simp only [List.mem_singleton] at hb
       subst hb
       intro e
       obtain ⟨x,hx1,hx2⟩:=List.mem_map.1 ha
       have:=(I.hmem x hx1).2
       rw [show x.2.1=(l.getD i I5).2.1 from hx2.trans e,hkn] at this
       cases this
      ·rcases List.mem_append.1 hm with hm | hm
       ·exact ⟨(I.hmem x hm).1,C75 (I.hmem x hm).2⟩
       ·simp only [List.mem_singleton] at hm
        subst hm
        have hq:=hr _ (Q3 hi I5)
        exact ⟨hq,hx⟩
  | false =>
   simp only [hk,cond_false] at h
   cases ha:held.any (N8 (l.getD i I5).2.1) with
   | false =>
    simp only [ha,Bool.not_false,cond_true] at h
    cases h3:((l.getD i I5).1==3) with
    | false=>rw [h3] at h;simp at h
    | true =>
     rw [h3] at h
     cases hkn:(l.take i).any (N8 (l.getD i I5).2.1) with
     | true=>rw [hkn] at h;simp at h
     | false =>
      rw [hkn] at h
      simp only [cond_true,cond_false,Option.some.injEq,Prod.mk.injEq] at h
      obtain ⟨rfl,rfl⟩:=h
      exact ⟨I.hone,fun x hx=>⟨(I.hmem x hx).1,C75 (I.hmem x hx).2⟩,by have:=I.hlen;omega,I.hml⟩
   | true =>
    simp only [ha,Bool.not_true,cond_false] at h
    cases h2:((l.getD i I5).1==2) with
    | true =>
     simp only [h2,cond_true] at h
     by_cases hc:((((held.getD (held.findIdx (N8 (l.getD i I5).2.1)) I5).2.2.foldl C2s m).length:Nat):Int)≤60
     ·rw [decide_eq_true hc] at h
      simp only [cond_true,Option.some.injEq,Prod.mk.injEq] at h
      obtain ⟨rfl,rfl⟩:=h
      have:=sub (held.findIdx (N8 (l.getD i I5).2.1))
      exact ⟨this.hone,this.hmem,this.hlen,by omega⟩
     ·rw [decide_eq_false hc] at h;simp at h
    | false =>
     simp only [h2,cond_false] at h
     by_cases hc:(m.length:Int)≤60
     ·rw [decide_eq_true hc] at h
      simp only [cond_true,Option.some.injEq,Prod.mk.injEq] at h
      obtain ⟨rfl,rfl⟩:=h
      exact sub _
     ·rw [decide_eq_false hc] at h;simp at h
theorem D1w {l:List L9} (hr:∀ x∈l,A7I x.2.2=true):∀ i,i≤l.length→∀ m held,B0N l i=some (m,held)→RepOk l i m held:=by
 intro i
 induction i with
 | zero =>
  intro _ m held h
  simp only [B0N,Option.some.injEq,Prod.mk.injEq] at h
  obtain ⟨rfl,rfl⟩:=h
  exact ⟨by simp [C8P],fun x hx=>by simp at hx,by simp,by simp⟩
 | succ i ih =>
  intro hi m held h
  simp only [B0N] at h
  cases hp:B0N l i with
  | none=>rw [hp] at h;cases h
  | some s =>
   rw [hp] at h
   exact D7a (by omega) hr (ih (by omega) s.1 s.2 (by rw [hp])) h
theorem B2E {V A α:Type} {ss:V→V ⊕ A} {fa:A} (pk:Nat→V) (l:List α) (d:α) (p:α→Bool) (good:Nat→A) (last:A) (hn:l.length<4611686018427387904)
  (h:∀ i,i<l.length→ss (pk i)=cond (p (l.getD i d)) (.inr (good i)) (.inl (pk (i+1)))) (hl:ss (pk l.length)=.inr last) :
  itX ss fa (pk 0)=cond (decide (l.findIdx p<l.length)) (good (l.findIdx p)) last:=by
 rw [D2B pk l.length (fun i=>cond (p (l.getD i d)) (some (good i)) none) last hn (fun i hi=>by rw [h i hi];cases p (l.getD i d)<;>rfl) hl]
 rcases C67 (fun i=>cond (p (l.getD i d)) (some (good i)) none) last l.length 0 with ⟨j,a,h1,h2,h3,h4,h5⟩ | ⟨h1,h2⟩
 ·have hj:j<l.length:=by omega
  have hg:l.getD j d=l[j]:=by simp [List.getD_eq_getElem?_getD,hj]
  have hp:p l[j]=true:=by
   cases hc:p (l.getD j d) with
   | true=>rw [hg] at hc;exact hc
   | false=>simp only [hc,cond_false] at h3;cases h3
  have hf:l.findIdx p=j:=by
   rw [List.findIdx_eq hj]
   refine ⟨hp,fun m hm=>?_⟩
   have:=h4 m (by omega) hm
   have hgm:l.getD m d=l[m]:=by simp [List.getD_eq_getElem?_getD,Nat.lt_trans hm hj]
   rw [← hgm]
   cases hc:p (l.getD m d) with
   | false=>rfl
   | true=>simp only [hc,cond_true] at this;cases this
  rw [h5,hf,decide_eq_true hj]
  rw [hg,hp] at h3
  exact (Option.some.inj h3).symm
 ·have hf : ¬ l.findIdx p < l.length := by
   intro hlt
   have hp:=List.findIdx_getElem (w:=hlt)
   have:=h1 (l.findIdx p) (by omega) (by omega)
   have hg:l.getD (l.findIdx p) d=l[l.findIdx p]:=by simp [List.getD_eq_getElem?_getD,hlt]
   rw [hg,hp] at this
   cases this
  rw [h2,decide_eq_false hf];rfl
theorem B1s (l:List L9) (i:Nat):l.getD i ((0:Int),((0:Int),[]))=l.getD i I5:=rfl
theorem C2m (l:List L9) (t:Int) (hl:l.length≤1099511627776):B5f l t=true∧C0b l t=cond (decide (l.findIdx (N8 t)<l.length)) ((l.findIdx (N8 t):Nat):Int) (-1):=by
 have e:B58 l t 0=cond (decide (l.findIdx (N8 t)<l.length)) (0,((l.findIdx (N8 t):Nat):Int)) (1,0):=by
  refine B2E (ss:=fun v:B5l=>B6x v.1 v.2.1 v.2.2) (fa:=C3j) (fun i=>((l,t,(i:Int)):B5l)) l I5 (N8 t) (fun i=>((0,(i:Int)):B5k)) _ (by omega) (fun i hi=>?_) ?_
  ·have h1:decide ((i:Int)<(l.length:Int))=true:=decide_eq_true (by omega)
   have h2:decide (0≤(i:Int)∧(i:Int)<(l.length:Int))=true:=decide_eq_true (by omega)
   simp only [B6x,h1,h2,cond_true,Int.toNat_natCast,A7z i (by omega),B1s,N8]
  ·have h1:decide ((l.length:Int)<(l.length:Int))=false:=decide_eq_false (by omega)
   simp only [B6x,h1,cond_false]
 simp only [B5f,C0b,e]
 cases decide (l.findIdx (N8 t)<l.length)<;>exact ⟨rfl,rfl⟩
theorem D6h (l:List L9) (t:Int) (hl:l.length≤1099511627776):decide (C0b l t<0)=!(l.any (N8 t)):=by
 rw [(C2m l t hl).2]
 cases ha:l.any (N8 t) with
 | true =>
  rw [decide_eq_true (List.findIdx_lt_length.2 (List.any_eq_true.1 ha))]
  exact decide_eq_false (by simp only [cond_true];omega)
 | false =>
  have:¬ l.findIdx (N8 t)<l.length:=by
   intro hc
   obtain ⟨x,hx,hp⟩:=List.findIdx_lt_length.1 hc
   rw [List.any_eq_true.2 ⟨x,hx,hp⟩] at ha
   cases ha
  rw [decide_eq_false this]
  rfl
theorem D33 {l:List Int} (hl:l.length≤1048576) (x:Int):A8Q l x=true∧B3D l x=decide (x∈l):=by
 have key:B11 l x 0=(0,true)∧x∈l∨B11 l x 0=(1,false)∧x ∉ l:=by
  refine A6Q (fun v:B5P=>∃ i:Nat,v=(l,x,(i:Int))∧i≤l.length∧x ∉ l.take i) (fun a:B3f=>a=(0,true)∧x∈l∨a=(1,false)∧x ∉ l) (fun v=>l.length - v.2.2.toNat) ?_ ⟨0,rfl,Nat.zero_le _,by simp⟩ (by simp;omega)
  rintro v ⟨i,rfl,hi,hx⟩
  by_cases hlt:i<l.length
  ·have e1:decide ((i:Int)<(l.length:Int))=true:=decide_eq_true (by omega)
   have e2:decide (0≤(i:Int)∧(i:Int)<(l.length:Int))=true:=decide_eq_true (by omega)
   simp only [B66,e1,e2,cond_true,Int.toNat_natCast,A7z i (by omega)]
   cases hc:(l.getD i 0==x) with
   | true=>exact .inr ⟨_,rfl,.inl ⟨rfl,by have:=Q3 hlt 0;simp only [beq_iff_eq] at hc;rw [hc] at this;exact this⟩⟩
   | false =>
    refine .inl ⟨_,rfl,⟨i+1,rfl,by omega,?_⟩,by simp only [Int.toNat_natCast];omega⟩
    rw [M4 hlt 0]
    simp only [beq_eq_false_iff_ne] at hc
    simp only [List.mem_append,List.mem_singleton,not_or]
    exact ⟨hx,fun h=>hc h.symm⟩
  ·obtain rfl:i=l.length:=by omega
   have e1:decide ((l.length:Int)<(l.length:Int))=false:=decide_eq_false (by omega)
   simp only [B66,e1,cond_false]
   rw [List.take_length] at hx
   exact .inr ⟨_,rfl,.inr ⟨rfl,hx⟩⟩
 simp only [A8Q,B3D]
 rcases key with ⟨h1,h2⟩ | ⟨h1,h2⟩
 ·rw [h1,decide_eq_true h2];exact ⟨rfl,rfl⟩
 ·rw [h1,decide_eq_false h2];exact ⟨rfl,rfl⟩
theorem B5e {V A α:Type} {ss:V→V ⊕ A} {fa:A} (pk:Nat→V) (l:List α) (d:α) (p:α→Bool) (good last:A) (hn:l.length<4611686018427387904)
  (h:∀ i,i<l.length→ss (pk i)=cond (p (l.getD i d)) (.inr good) (.inl (pk (i+1)))) (hl:ss (pk l.length)=.inr last):itX ss fa (pk 0)=cond (l.any p) good last:=by
 rw [B2E pk l d p (fun _=>good) last hn h hl]
 cases ha:l.any p with
 | true=>rw [decide_eq_true (List.findIdx_lt_length.2 (List.any_eq_true.1 ha))]
 | false =>
  rw [decide_eq_false]
  intro hc
  obtain ⟨x,hx,hp⟩:=List.findIdx_lt_length.1 hc
  rw [List.any_eq_true.2 ⟨x,hx,hp⟩] at ha
  cases ha
theorem B80 (l:Lq2) (i:Nat):l.getD i ((0:Int),((⟨#[]⟩:ByteArray),(⟨#[]⟩:ByteArray)))=l.getD i dOp:=rfl
theorem D5d (held:List L9) (ops:Lq2) (i k:Nat) (hi:i<held.length) (hk:k<(held.getD i I5).2.2.length) (ho:ops.length≤1048576) :
  B0j held ops (i:Int) (k:Int) 0=cond (C3w ((held.getD i I5).2.2.getD k dOp).2.1 ops) (0,true,[],[],0,0) (1,false,held,ops,(i:Int),(k:Int)):=by
 refine B5e (ss:=fun v:A9z=>A8W v.1 v.2.1 v.2.2.1 v.2.2.2.1 v.2.2.2.2) (fa:=B0a) (fun m=>((held,ops,(i:Int),(k:Int),(m:Int)):A9z)) ops dOp (fun x=>((held.getD i I5).2.2.getD k dOp).2.1.toList==x.2.1.toList) _ _ (by omega) (fun m hm=>?_) ?_
 ·have h1:decide ((m:Int)<(ops.length:Int))=true:=decide_eq_true (by omega)
  have h2:decide (0≤(i:Int)∧(i:Int)<(held.length:Int))=true:=decide_eq_true (by omega)
  have h3:decide (0≤(k:Int)∧(k:Int)<(((held.getD (i:Int).toNat ((0:Int),((0:Int),[]))).2.2.length:Nat):Int))=true:=decide_eq_true (show 0≤(k:Int)∧(k:Int)<(((held.getD i I5).2.2.length:Nat):Int) by omega)
  have h4:decide (0≤(m:Int)∧(m:Int)<(ops.length:Int))=true:=decide_eq_true (by omega)
  show A8W held ops (i:Int) (k:Int) (m:Int)=_
  simp only [A8W,h1,h2,h3,h4,cond_true]
  simp only [B1s,B80,Int.toNat_natCast,A7z m (by omega)]
 ·have h1:decide ((ops.length:Int)<(ops.length:Int))=false:=decide_eq_false (by omega)
  simp only [A8W,h1,cond_false]
theorem D34 (held:List L9) (ops:Lq2) (i:Nat) (hi:i<held.length) (hk:(held.getD i I5).2.2.length≤1048576) (ho:ops.length≤1048576) :
  B0i held ops (i:Int) 0=cond (B86 (held.getD i I5).2.2 ops) (0,true,[],[],0) (1,false,held,ops,(i:Int)):=by
 have h2:decide (0≤(i:Int)∧(i:Int)<(held.length:Int))=true:=decide_eq_true (by omega)
 refine B5e (ss:=fun v:A9y=>A72 v.1 v.2.1 v.2.2.1 v.2.2.2) (fa:=B2D) (fun k=>((held,ops,(i:Int),(k:Int)):A9y)) (held.getD i I5).2.2 dOp (fun o=>C3w o.2.1 ops) _ _ (by omega) (fun k hk2=>?_) ?_
 ·have h1:decide ((k:Int)<(((held.getD (i:Int).toNat ((0:Int),((0:Int),[]))).2.2.length:Nat):Int))=true:=decide_eq_true (show (k:Int)<(((held.getD i I5).2.2.length:Nat):Int) by omega)
  show A72 held ops (i:Int) (k:Int)=_
  simp only [A72,h1,h2,cond_true,D5d held ops i k hi hk2 ho]
  cases C3w ((held.getD i I5).2.2.getD k dOp).2.1 ops
  ·simp only [cond_false,A7z k (by omega)];rfl
  ·rfl
 ·have h1:decide ((((held.getD i I5).2.2.length:Nat):Int)<(((held.getD (i:Int).toNat ((0:Int),((0:Int),[]))).2.2.length:Nat):Int))=false:=decide_eq_false (show ¬ (((held.getD i I5).2.2.length:Nat):Int)<(((held.getD i I5).2.2.length:Nat):Int) by omega)
  show A72 held ops (i:Int) (((held.getD i I5).2.2.length:Nat):Int)=_
  simp only [A72,h1,h2,cond_true,cond_false]
theorem D2F (held:List L9) (ops:Lq2) (hl:held.length≤1099511627776) (hh:∀ r∈held,r.2.2.length≤1048576) (ho:ops.length≤1048576):A8v held ops=true∧B0Q held ops=B2P held ops:=by
 have e:B0h held ops 0=cond (B2P held ops) (0,true) (1,false):=by
  refine B5e (ss:=fun v:A9x=>B0y v.1 v.2.1 v.2.2) (fa:=B54) (fun i=>((held,ops,(i:Int)):A9x)) held I5 (fun r=>B86 r.2.2 ops) _ _ (by omega) (fun i hi=>?_) ?_
  ·have h1:decide ((i:Int)<(held.length:Int))=true:=decide_eq_true (by omega)
   simp only [B0y,h1,cond_true,D34 held ops i hi (hh _ (Q3 hi I5)) ho]
   cases B86 (held.getD i I5).2.2 ops
   ·simp only [cond_false,A7z i (by omega)];rfl
   ·rfl
  ·have h1:decide ((held.length:Int)<(held.length:Int))=false:=decide_eq_false (by omega)
   simp only [B0y,h1,cond_false]
 simp only [A8v,B0Q,e]
 cases B2P held ops<;>exact ⟨rfl,rfl⟩
noncomputable def D53 (l:LBBe) (k:ByteArray):Option ByteArray:=(l.find? (isK k)).map (·.2)
theorem B1r (l:LBBe) (i:Nat):l.getD i ((⟨#[]⟩:ByteArray),(⟨#[]⟩:ByteArray))=l.getD i dP:=rfl
theorem C8d {α:Type} (p:α→Bool) (d:α):∀ l:List α,l.find? p=cond (decide (l.findIdx p<l.length)) (some (l.getD (l.findIdx p) d)) none
 | []=>by simp
 | x::l=>by
  have ih:=C8d p d l
  cases h:p x with
  | true=>simp [List.find?_cons,List.findIdx_cons,h]
  | false =>
   simp only [List.find?_cons,List.findIdx_cons,h,List.length_cons,cond_false,List.getD_cons_succ]
   rw [ih]
   by_cases hl:l.findIdx p<l.length
   ·rw [decide_eq_true hl,decide_eq_true (show l.findIdx p+1<l.length+1 by omega)]
   ·rw [decide_eq_false hl,decide_eq_false (show ¬ l.findIdx p+1<l.length+1 by omega)]
theorem C5c (l:LBBe) (k:ByteArray) (hl:l.length≤1099511627776):B18 l k=true∧B2Y l k=(match D53 l k with | some v=>(v,true) | none=>((⟨#[]⟩:ByteArray),false)):=by
 have e:B2J l k 0=cond (decide (l.findIdx (isK k)<l.length)) (0,(l.getD (l.findIdx (isK k)) dP).2,true) (1,(⟨#[]⟩:ByteArray),false):=by
  refine B2E (ss:=fun v:B1U=>B25 v.1 v.2.1 v.2.2) (fa:=B5b) (fun i=>((l,k,(i:Int)):B1U)) l dP (isK k) (fun i=>((0,(l.getD i dP).2,true):B1R)) _ (by omega) (fun i hi=>?_) ?_
  ·have h1:decide ((i:Int)<(l.length:Int))=true:=decide_eq_true (by omega)
   have h2:decide (0≤(i:Int)∧(i:Int)<(l.length:Int))=true:=decide_eq_true (by omega)
   simp only [B25,h1,h2,cond_true,Int.toNat_natCast,A7z i (by omega),B1r,isK]
  ·have h1:decide ((l.length:Int)<(l.length:Int))=false:=decide_eq_false (by omega)
   simp only [B25,h1,cond_false]
 simp only [B18,B2Y,e,D53,C8d (isK k) dP l]
 cases decide (l.findIdx (isK k)<l.length)<;>exact ⟨rfl,rfl⟩
theorem D3j (m:LBBe) (ops:Lq2) (hm:m.length≤1099511627776) (ho:ops.length≤1048576):B2W m ops=true∧B9t m ops=B9a m ops:=by
 have e:B4f m ops 0=cond (ops.any (misses m)) (0,false) (1,false):=by
  refine B5e (ss:=fun v:B3m=>B4w v.1 v.2.1 v.2.2) (fa:=A99) (fun i=>((m,ops,(i:Int)):B3m)) ops dOp (misses m) _ _ (by omega) (fun i hi=>?_) ?_
  ·have h1:decide ((i:Int)<(ops.length:Int))=true:=decide_eq_true (by omega)
   have h2:decide (0≤(i:Int)∧(i:Int)<(ops.length:Int))=true:=decide_eq_true (by omega)
   simp only [B4w,C2j,B80,Int.toNat_natCast,h1,h2,cond_true,A7z i (by omega),(C5c m _ hm).1,misses]
   generalize ((ops.getD i dOp).1 != 3)=a
   generalize (!((B2Y m (ops.getD i dOp).2.1).2==(!((ops.getD i dOp).2.2.toList==(⟨#[]⟩:ByteArray).toList))))=b
   generalize (!((B2Y m (ops.getD i dOp).2.1).1.toList==(ops.getD i dOp).2.2.toList))=c
   cases a<;>cases b<;>cases c<;>rfl
  ·have h1:decide ((ops.length:Int)<(ops.length:Int))=false:=decide_eq_false (by omega)
   simp only [B4w,h1,cond_false]
 simp only [B2W,B9t,e,B9a]
 cases ops.any (misses m)<;>exact ⟨rfl,rfl⟩
theorem C2T {α:Type} (l:List α) (k:Nat):(l.drop k).take (l.length - k)=l.drop k:=List.take_of_length_le (by simp)
theorem D2A {V A α β:Type} {ss:V→V ⊕ A} {fa:A} (pk:Nat→β→V) (l:List α) (d:α) (f:β→α→β) (last:β→A) (ok:Nat→β→Prop) (hn:l.length<4611686018427387904)
  (h:∀ i b,i<l.length→ok i b→ss (pk i b)=.inl (pk (i+1) (f b (l.getD i d)))∧ok (i+1) (f b (l.getD i d))) (hl:∀ b,ok l.length b→ss (pk l.length b)=.inr (last b)) {b:β} (h0:ok 0 b):itX ss fa (pk 0 b)=last (l.foldl f b):=by
 rw [A6s]
 have key:∀ k N i b,i+k=l.length→k<N→ok i b→itN ss fa N (pk i b)=last ((l.drop i).foldl f b):=by
  intro k
  induction k with
  | zero =>
   intro N i b hi hN ho
   obtain ⟨M,rfl⟩:∃ M,N=M+1:=⟨N - 1,by omega⟩
   obtain rfl:i=l.length:=by omega
   rw [A6P,hl b ho,List.drop_length];rfl
  | succ k ih =>
   intro N i b hi hN ho
   obtain ⟨M,rfl⟩:∃ M,N=M+1:=⟨N - 1,by omega⟩
   have hlt:i<l.length:=by omega
   obtain ⟨h1,h2⟩:=h i b hlt ho
   rw [A6P,h1]
   simp only
   rw [ih M (i+1) _ (by omega) (by omega) h2,List.drop_eq_getElem_cons hlt,List.foldl_cons]
   simp [List.getD_eq_getElem?_getD,hlt]
 have:=key l.length _ 0 b (by omega) hn h0
 simpa using this
theorem D2o (l:LBBe) (k:ByteArray):(C5F l k).length≤l.length:=List.length_filter_le _ _
theorem B1Z {α:Type} (p:α→Bool) (l:List α):l.findIdx p≤l.length:=List.findIdx_le_length
theorem D6m (l:LBBe) (k v:ByteArray):(D2U l k v).length≤l.length+1:=by
 simp only [D2U]
 cases decide (l.findIdx (isK k)<l.length)
 ·have:=B1Z (B2R k) l
  simp only [cond_false,List.length_append,List.length_take,List.length_cons,List.length_drop];omega
 ·simp
theorem D2c (l:LBBe) (o:Int×ByteArray×ByteArray):(C2s l o).length≤l.length+1:=by
 simp only [C2s]
 cases o.1==1
 ·cases o.1==2
  ·simp
  ·have:=D2o l o.2.1;simp only [cond_true,cond_false];omega
 ·exact D6m _ _ _
theorem D1T (l:LBBe) (k v:ByteArray) (hl:l.length≤1099511627776):B19 l k v=true∧C7U l k v=D2U l k v:=by
 have hlt:∀ i:Nat,i<l.length→decide ((i:Int)<(l.length:Int))=true∧decide (0≤(i:Int)∧(i:Int)<(l.length:Int))=true:=fun i hi=>⟨decide_eq_true (by omega),decide_eq_true (by omega)⟩
 have hge:decide ((l.length:Int)<(l.length:Int))=false:=decide_eq_false (by omega)
 have e0:B0F l k v 0 l=cond (decide (l.findIdx (isK k)<l.length)) (0,l.set (l.findIdx (isK k)) ((l.getD (l.findIdx (isK k)) dP).1,v),([]:LBBe),(⟨#[]⟩:ByteArray),(⟨#[]⟩:ByteArray)) (1,([]:LBBe),l,k,v):=by
  refine B2E (ss:=fun v:B1V=>B26 v.1 v.2.1 v.2.2.1 v.2.2.2.1 v.2.2.2.2) (fa:=B5c) (fun i=>((l,k,v,(i:Int),l):B1V)) l dP (isK k) (fun i=>((0,l.set i ((l.getD i dP).1,v),[],⟨#[]⟩,⟨#[]⟩):B1S)) _ (by omega) (fun i hi=>?_) ?_
  ·obtain ⟨h1,h2⟩:=hlt i hi
   simp only [B26,h1,h2,cond_true,Int.toNat_natCast,A7z i (by omega),B1r]
   rfl
  ·simp only [B26,hge,cond_false]
 have e1:B84 l k v 0=(0,l,k,v,((l.findIdx (B2R k):Nat):Int)):=by
  have h:=B2E (ss:=fun v:B1W=>B27 v.1 v.2.1 v.2.2.1 v.2.2.2) (fa:=B8R) (fun i=>((l,k,v,(i:Int)):B1W)) l dP (B2R k) (fun i=>(0,l,k,v,(i:Int))) (0,l,k,v,(l.length:Int)) (by omega) (fun i hi=>?_) ?_
  ·refine h.trans ?_
   by_cases hc:l.findIdx (B2R k)<l.length
   ·rw [decide_eq_true hc];rfl
   ·have:=B1Z (B2R k) l
    have he:l.findIdx (B2R k)=l.length:=by omega
    rw [decide_eq_false hc,he];rfl
  ·obtain ⟨h1,h2⟩:=hlt i hi
   simp only [B27,h1,h2,cond_true,Int.toNat_natCast,A7z i (by omega),B1r,B2R]
   cases (Op.bytesLess (l.getD i dP).1.toList k.toList||(l.getD i dP).1.toList==k.toList)<;>rfl
  ·simp only [B27,hge,cond_false]
 have hle:=B1Z (B2R k) l
 simp only [B19,C7U,B85,List.nil_append,e0]
 cases hc:decide (l.findIdx (isK k)<l.length) with
 | true =>
  simp only [cond_true,D2U,hc]
  refine ⟨?_,rfl⟩
  have e:decide ((([]:LBBe).length+l.length)*32≤MAXB)=true:=decide_eq_true (by simp [MAXB];omega)
  rw [e];rfl
 | false =>
  have f1:((1:Nat)==0)=false:=rfl
  have f2:((1:Nat)==1)=true:=rfl
  have f3:((0:Nat)==0)=true:=rfl
  simp only [cond_false,f1,f2,f3,e1,D2U,hc,Int.toNat_natCast,Bool.true_and,Int.toNat_zero,List.drop_zero,List.take_length]
  refine ⟨?_,by rw [List.append_assoc];rfl⟩
  simp only [Bool.and_eq_true,decide_eq_true_eq,MAXB,List.length_nil,List.length_take,List.length_append,List.length_cons,List.length_drop]
  refine ⟨decide_eq_true (by omega),?_,?_,?_,?_,?_⟩<;>omega
theorem D1S (l:LBBe) (k:ByteArray) (hl:l.length≤1099511627776):B17 l k=true∧C7T l k=C5F l k:=by
 have h:B2I l k 0 []=(0,C5F l k):=by
  refine A7p (fun v:B35=>∃ i:Nat,v=(l,k,(i:Int),(l.take i).filter (fun p=>!isK k p))∧i≤l.length) (fun v=>(0,v.2.2.2++(l.drop v.2.2.1.toNat).filter (fun p=>!isK k p))) (fun v=>l.length - v.2.2.1.toNat) (fun v hv=>?_) ⟨0,rfl,by omega⟩ (by simp;omega)
  obtain ⟨i,rfl,hi⟩:=hv
  by_cases hlt:i<l.length
  ·left
   have h1:decide ((i:Int)<(l.length:Int))=true:=decide_eq_true (by omega)
   have h2:decide (0≤(i:Int)∧(i:Int)<(l.length:Int))=true:=decide_eq_true (by omega)
   have hfl:=List.length_filter_le (fun p=>!isK k p) (l.take i)
   rw [List.length_take] at hfl
   have h3:∀ x:ByteArray×ByteArray,decide ((((l.take i).filter (fun p=>!isK k p)).length+[x].length)*32≤MAXB)=true:=fun x=>decide_eq_true (by simp only [MAXB,List.length_singleton];omega)
   have hd:l.drop i=l.getD i dP::l.drop (i+1):=by rw [List.drop_eq_getElem_cons hlt];simp [List.getD_eq_getElem?_getD,hlt]
   have ht:l.take (i+1)=l.take i++[l.getD i dP]:=M4 hlt dP
   refine ⟨(l,k,((i+1:Nat):Int),(l.take (i+1)).filter (fun p=>!isK k p)),?_,⟨i+1,rfl,by omega⟩,?_,by simp only [Int.toNat_natCast];omega⟩
   ·simp only [B5j,h1,h2,h3,cond_true,Int.toNat_natCast,A7z i (by omega),B1r,ht,List.filter_append,List.filter_cons,List.filter_nil]
    show cond (!isK k (l.getD i dP)) _ _=_
    cases isK k (l.getD i dP)<;>simp
   ·simp only [Int.toNat_natCast,ht,hd,List.filter_append,List.filter_cons,List.filter_nil]
    cases isK k (l.getD i dP)<;>simp
  ·right
   obtain rfl:i=l.length:=by omega
   have h1:decide ((l.length:Int)<(l.length:Int))=false:=decide_eq_false (by omega)
   simp only [B5j,h1,cond_false,Int.toNat_natCast,List.drop_length,List.filter_nil,List.append_nil]
 exact ⟨by simp only [B17,h];rfl,by simp only [C7T,h]⟩
theorem D3i (m:LBBe) (l:Lq2) (hm:m.length≤1000000000) (hl:l.length≤1000000000):B2V m l=true∧B9s m l=l.foldl C2s m:=by
 have h:B4e l 0 m=(0,l.foldl C2s m):=by
  refine D2A (ss:=fun v:B3l=>B4v v.1 v.2.1 v.2.2) (fa:=A8Z) (fun i b=>((l,(i:Int),b):B3l)) l dOp C2s (fun b=>((0,b):B3e)) (fun i b=>b.length≤m.length+i) (by omega) (fun i b hi hb=>⟨?_,by have:=D2c b (l.getD i dOp);omega⟩) (fun b hb=>?_) (by simp)
  ·have h1:decide ((i:Int)<(l.length:Int))=true:=decide_eq_true (by omega)
   have h2:decide (0≤(i:Int)∧(i:Int)<(l.length:Int))=true:=decide_eq_true (by omega)
   have e:l.getD i ((0:Int),((⟨#[]⟩:ByteArray),(⟨#[]⟩:ByteArray)))=l.getD i dOp:=rfl
   obtain ⟨p1,p2⟩:=D1T b (l.getD i dOp).2.1 (l.getD i dOp).2.2 (by omega)
   obtain ⟨d1,d2⟩:=D1S b (l.getD i dOp).2.1 (by omega)
   simp only [B4v,h1,h2,cond_true,Int.toNat_natCast,A7z i (by omega),e,C2i,C2l,p1,p2,d1,d2,C2s]
   cases (l.getD i dOp).1==1<;>cases (l.getD i dOp).1==2<;>rfl
  ·have h1:decide ((l.length:Int)<(l.length:Int))=false:=decide_eq_false (by omega)
   simp only [B4v,h1,cond_false]
 have hq:decide ((([]:LBBe).length+m.length)*32≤MAXB)=true:=decide_eq_true (by simp [MAXB];omega)
 simp only [B2V,B9s,List.nil_append,h,hq]
 exact ⟨rfl,trivial⟩
theorem D6k (r:L9) (m:List W8) (held:List L9) (seen:List Int) (hr:A7I r.2.2=true) (hm:m.length≤1000) (hh:held.length≤1048576) (ho:∀ x∈held,A7I x.2.2=true) (hs:seen.length≤1048576) :
  A80 r.1 r.2.1 r.2.2 m held seen=true∧(match B8v (decide (r.2.1∈seen)) m held r with
   | none=>(B8q r.1 r.2.1 r.2.2 m held seen).1=false
   | some (m', h')=>∃ s', B8q r.1 r.2.1 r.2.2 m held seen=(true,m', h', s')∧(s'=seen++[r.2.1]∨s'=seen∧held.any (N8 r.2.1)=true)):=by
 have a1:=(C2m held r.2.1 (by omega)).1
 have a2:=D6h held r.2.1 (by omega)
 have hl:=A8e hr
 obtain ⟨b1,b2⟩:=D33 hs r.2.1
 obtain ⟨c1,c2⟩:=D2F held r.2.2 (by omega) (fun x hx=>A8e (ho x hx)) hl
 obtain ⟨d1,d2⟩:=D3j m r.2.2 (by omega) hl
 have f1:decide ((held.length+[(r.1,(r.2.1,r.2.2))].length)*40≤MAXB)=true:=decide_eq_true (by simp only [List.length_singleton,MAXB];omega)
 have f2:decide ((seen.length+[r.2.1].length)*8≤MAXB)=true:=decide_eq_true (by simp only [List.length_singleton,MAXB];omega)
 have f3:U8 r.1 r.2.1 r.2.2=true:=decide_eq_true (by simp only [List.length_nil,MAXB];omega)
 have f4:A8A r.1 r.2.1 r.2.2=(r.1,r.2.1,r.2.2):=rfl
 have g0:B4k r.1 r.2.1 r.2.2=true:=hr
 simp only [A80,B8q,B8v,a1,a2,b1,b2,c1,c2,d1,d2,f2,f3,f4,g0,Bool.true_and,Bool.and_true]
 cases hok:B1O r.1 r.2.1 r.2.2 with
 | false=>exact ⟨rfl,rfl⟩
 | true =>
  simp only [Bool.not_true,cond_false]
  cases hk:(r.1==1) with
  | true =>
   have hk1:r.1=1:=by simpa using hk
   simp only [cond_true]
   cases decide (r.2.1∈seen) with
   | true=>exact ⟨rfl,rfl⟩
   | false =>
    cases B2P held r.2.2 with
    | true=>exact ⟨rfl,rfl⟩
    | false =>
     cases B9a m r.2.2 with
     | false=>exact ⟨rfl,rfl⟩
     | true=>exact ⟨f1,_,by rw [hk1];rfl,.inl rfl⟩
  | false =>
   simp only [cond_false]
   cases ha:held.any (N8 r.2.1) with
   | false =>
    simp only [Bool.not_false,cond_true]
    cases (r.1==3) with
    | false=>exact ⟨rfl,rfl⟩
    | true=>cases decide (r.2.1∈seen) with
     | true=>exact ⟨rfl,rfl⟩
     | false=>exact ⟨rfl,_,rfl,.inl rfl⟩
   | true =>
    have hlt:=List.findIdx_lt_length.2 (List.any_eq_true.1 ha)
    have e1:C0b held r.2.1=((held.findIdx (N8 r.2.1):Nat):Int):=by rw [(C2m held r.2.1 (by omega)).2,decide_eq_true hlt];rfl
    generalize hi:held.findIdx (N8 r.2.1)=i at hlt e1 ⊢
    have e2:=A7z i (by omega)
    have e3:=C2T held (i+1)
    have e4:[]++held.take i++held.drop (i+1)=held.eraseIdx i:=by rw [List.nil_append,List.eraseIdx_eq_take_drop_succ]
    have q0:decide (0≤(i:Int)∧(i:Int)<(held.length:Int))=true:=decide_eq_true (by omega)
    have q1:decide (0≤(0:Int)∧(0:Int)≤(i:Int)∧(i:Int)≤(held.length:Int))=true:=decide_eq_true (by omega)
    have q2:decide (0≤((i+1:Nat):Int)∧((i+1:Nat):Int)≤(held.length:Int)∧(held.length:Int)≤(held.length:Int))=true:=decide_eq_true (by omega)
    have q3:decide ((([]:List L9).length+(held.take i).length)*40≤MAXB)=true:=decide_eq_true (by simp only [List.length_nil,List.length_take,MAXB];omega)
    have q4:decide ((([]++held.take i).length+(held.drop (i+1)).length)*40≤MAXB)=true:=decide_eq_true (by simp only [List.nil_append,List.length_drop,List.length_take,MAXB];omega)
    obtain ⟨s1,s2⟩:=D3i m (held.getD i I5).2.2 (by omega) (by have:=A8e (ho _ (Q3 hlt I5));omega)
    simp only [Bool.not_true,cond_false,e1,e2,Int.toNat_natCast,e3,e4,q0,q1,q2,q3,q4,B1s,s1,s2,Bool.true_and,Bool.and_true]
    cases (r.1==2) with
    | true =>
     simp only [cond_true]
     refine ⟨trivial,?_⟩
     cases decide (((((held.getD i I5).2.2.foldl C2s m).length:Nat):Int)≤60) with
     | true=>exact ⟨_,rfl,.inr ⟨rfl,trivial⟩⟩
     | false=>rfl
    | false =>
     simp only [cond_false]
     refine ⟨trivial,?_⟩
     cases decide ((m.length:Int)≤60) with
     | true=>exact ⟨_,rfl,.inr ⟨rfl,trivial⟩⟩
     | false=>rfl
theorem D5g {l:List L9} {i:Nat} (h:B0N l i=none):∀ k,B0N l (i+k)=none:=by
 intro k
 induction k with
 | zero=>exact h
 | succ k ih=>rw [Nat.add_succ];simp only [B0N,ih,Option.bind_none]
theorem C80 {l:List L9} {i:Nat} (hi:i<l.length) {m:List W8} {held:List L9} (hp:B0N l i=some (m,held)) (hs:B8v ((l.take i).any (N8 (l.getD i I5).2.1)) m held (l.getD i I5)=none):B0N l l.length=none:=by
 have h1:B0N l (i+1)=none:=by simp only [B0N,hp,Option.bind_some];exact hs
 have:=D5g h1 (l.length - (i+1))
 rwa [show i+1+(l.length - (i+1))=l.length by omega] at this
theorem D3k (l:List L9) (hl:l.length≤1048576) (hr:∀ x∈l,A7I x.2.2=true):((P0 l).1=0∧(P0 l).2.1=false∧(P0 l).2.2.1=[]∧(P0 l).2.2.2.1=[]∧B0N l l.length=none)∨((P0 l).1=1∧B0N l l.length=some ((P0 l).2.2.2.2.1,(P0 l).2.2.2.2.2.1)):=by
 refine A6Q (ss:=fun v:A9k=>A8U v.1 v.2.1 v.2.2.1 v.2.2.2.1 v.2.2.2.2) (fa:=B0E)
  (fun v=>∃ (i:Nat) (m:List W8) (held:List L9) (seen:List Int),v=(l,(i:Int),m,held,seen)∧i≤l.length∧B0N l i=some (m,held)∧seen.length≤i∧∀ t,t∈seen↔(l.take i).any (N8 t)=true)
  (fun a:A8c=>(a.1=0∧a.2.1=false∧a.2.2.1=[]∧a.2.2.2.1=[]∧B0N l l.length=none)∨(a.1=1∧B0N l l.length=some (a.2.2.2.2.1,a.2.2.2.2.2.1))) (fun v=>l.length - v.2.1.toNat) ?_ ⟨0,[],[],[],rfl,Nat.zero_le _,rfl,by simp,by simp⟩ (by simp;omega)
 rintro v ⟨i,m,held,seen,rfl,hi,hp,hs,hse⟩
 by_cases hlt:i<l.length
 ·have e1:decide ((i:Int)<(l.length:Int))=true:=decide_eq_true (by omega)
  have e2:decide (0≤(i:Int)∧(i:Int)<(l.length:Int))=true:=decide_eq_true (by omega)
  have I:=D1w hr i hi m held hp
  have o:=D6k (l.getD i I5) m held seen (hr _ (Q3 hlt I5)) (by have:=I.hml;omega) (by have:=I.hlen;omega) (fun x hx=>(I.hmem x hx).1) (by omega)
  have hkn:decide ((l.getD i I5).2.1∈seen)=(l.take i).any (N8 (l.getD i I5).2.1):=by
   cases hc:(l.take i).any (N8 (l.getD i I5).2.1) with
   | true=>exact decide_eq_true ((hse _).2 hc)
   | false=>exact decide_eq_false (fun h=>by rw [(hse _).1 h] at hc;cases hc)
  rw [hkn] at o
  obtain ⟨o1,o2⟩:=o
  simp only [A8U,B2M,e1,e2,cond_true,Int.toNat_natCast,B1s,o1,A7z i (by omega)]
  cases hst:B8v ((l.take i).any (N8 (l.getD i I5).2.1)) m held (l.getD i I5) with
  | none =>
   rw [hst] at o2
   simp only [o2,Bool.not_false,cond_true]
   exact .inr ⟨_,rfl,.inl ⟨rfl,rfl,rfl,rfl,C80 hlt hp hst⟩⟩
  | some s =>
   obtain ⟨m', h'⟩:=s
   rw [hst] at o2
   obtain ⟨s', o3,o4⟩:=o2
   simp only [o3,Bool.not_true,cond_false]
   refine .inl ⟨_,rfl,⟨i+1,m', h', s', rfl,by omega,by simp only [B0N,hp,Option.bind_some];exact hst,?_,fun t=>?_⟩,by simp only [Int.toNat_natCast];omega⟩
   ·rcases o4 with rfl | ⟨rfl,_⟩
    ·rw [List.length_append];simp;omega
    ·omega
   ·rw [M4 hlt I5,List.any_append,Bool.or_eq_true]
    have hone:([l.getD i I5].any (N8 t)=true)↔(l.getD i I5).2.1=t:=by simp [N8]
    rw [hone]
    rcases o4 with rfl | ⟨rfl,hany⟩
    ·rw [List.mem_append,hse t,List.mem_singleton]
     exact or_congr Iff.rfl eq_comm
    ·rw [hse t]
     refine ⟨.inl,?_⟩
     rintro (h | h)
     ·exact h
     ·subst h
      obtain ⟨x,hx1,hx2⟩:=List.any_eq_true.1 hany
      have:=(I.hmem x hx1).2
      rw [show x.2.1=(l.getD i I5).2.1 from beq_iff_eq.1 hx2] at this
      exact this
 ·obtain rfl:i=l.length:=by omega
  have e1:decide ((l.length:Int)<(l.length:Int))=false:=decide_eq_false (by omega)
  simp only [A8U,e1,cond_false]
  exact .inr ⟨_,rfl,.inr ⟨rfl,hp⟩⟩
theorem C5d (l:List L9) (hl:l.length≤1048576) (hr:∀ x∈l,A7I x.2.2=true):N0 l=true∧R9 l=T2 l:=by
 simp only [N0,R9,T2]
 rcases D3k l hl hr with ⟨h1,h2,h3,h4,h5⟩ | ⟨h1,h2⟩
 ·rw [h1,h2,h3,h4,h5];exact ⟨rfl,rfl⟩
 ·rw [h1,h2];exact ⟨rfl,rfl⟩
theorem A9a {l:List L9} (h:A8a l):∀ x∈l,A7I x.2.2=true:=fun x hx=>h.2 x hx
theorem D31 (s:ByteArray) (i:Nat):C1K s i=B82 s i:=by
 have hb:0≤bt s (i:Int)∧bt s (i:Int)<256:=by
  unfold bt
  split
  ·have:=UInt8.toNat_lt s[(i:Int).toNat];omega
  ·simp
 have e:=A6J (n:=bt s (i:Int)) (by omega) (by omega)
 simp only [C1K,B82,X1,B57,e]
 generalize bt s (i:Int)=c
 by_cases h1:c ≥ 97<;>by_cases h2:c≤122<;>by_cases h3:c ≥ 48<;>by_cases h4:c≤57<;>simp [h1,h2,h3,h4]
theorem D32 (s:ByteArray):C3S s=B7i s:=by
 have e:A4H (C1K s) (s.size - (0:Int).toNat) (0:Int).toNat=A4H (B82 s) (s.size - (0:Int).toNat) (0:Int).toNat:=C74 _ _ (fun j _ _=>D31 s j)
 simp only [C3S,B7i,C7Q,A8o,X1,e]
 cases A4H (B82 s) (s.size - (0:Int).toNat) (0:Int).toNat<;>cases decide ((s.size:Int) ≥ 1)<;>cases decide ((s.size:Int)≤12)<;>rfl
theorem D5f (k:Int) (s v:ByteArray):C9k k s v=C8z k s v:=by
 simp only [C9k,C8z,D32,C76,X1]
 cases B7i s with
 | false =>
  by_cases h1:k=1<;>by_cases h2:k=2<;>by_cases h3:k=3<;>by_cases h4:v=⟨#[]⟩<;>by_cases h5:k ≥ 1<;>by_cases h6:k≤3<;>simp [h1,h2,h3,h4,h5,h6]<;>omega
 | true =>
  by_cases h2:k=2
  ·subst h2
   by_cases h4:v=⟨#[]⟩
   ·subst h4;simp [ByteArray.size]
   ·simp [h4]
  ·by_cases h1:k=1
   ·subst h1;simp
   ·by_cases h3:k=3
    ·subst h3;simp
    ·by_cases h5:k ≥ 1<;>by_cases h6:k≤3<;>simp [h1,h2,h3,h5,h6]<;>omega
theorem D5e (l:Lq2) (i:Nat):C65 l i=C6F l i:=by
 simp only [C65,C6F,D5f]
 rw [← D0A,Bool.not_not]
theorem D37 (l:Lq2):C9h l=C8y l:=by
 have e:A4H (C65 l) (l.length - (0:Int).toNat) (0:Int).toNat=A4H (C6F l) (l.length - (0:Int).toNat) (0:Int).toNat:=C74 _ _ (fun j _ _=>D5e l j)
 simp only [C9h,C8y,e]
 rfl
theorem D4a (k t:Int) (l:Lq2):B1O k t l=D0Y k t l:=by
 simp only [B1O,D0Y,C6G,D37]
 rw [show A8o t 1 1000000=X1 t 1 1000000 from rfl]
 cases X1 t 1 1000000<;>simp
theorem B9o (l:List L9) (t:Int) (hl:l.length≤1099511627776):Y8 l t=true∧A7X l t=cond (decide (l.reverse.findIdx (N8 t)<l.length)) ((l.length:Int) - 1 - ((l.reverse.findIdx (N8 t):Nat):Int)) (-1):=by
 have e0:=A6J (n:=(l.length:Int) - 1) (by omega) (by omega)
 have e:B10 l t ((l.length:Int) - 1)=cond (decide (l.reverse.findIdx (N8 t)<l.reverse.length)) (0,(l.length:Int) - 1 - ((l.reverse.findIdx (N8 t):Nat):Int)) (1,0):=by
  have:=B2E (ss:=fun v:B1C=>B2b v.1 v.2.1 v.2.2) (fa:=B6X) (fun i=>((l,t,(l.length:Int) - 1 - (i:Int)):B1C)) l.reverse I5 (N8 t) (fun i=>((0,(l.length:Int) - 1 - (i:Int)):B3d)) (1,0) (by rw [List.length_reverse];omega) (fun i hi=>by
   rw [List.length_reverse] at hi
   have h1:decide ((l.length:Int) - 1 - (i:Int) ≥ 0)=true:=decide_eq_true (by omega)
   have h2:decide (0≤(l.length:Int) - 1 - (i:Int)∧(l.length:Int) - 1 - (i:Int)<(l.length:Int))=true:=decide_eq_true (by omega)
   have h3:((l.length:Int) - 1 - (i:Int)).toNat=l.length - 1 - i:=by omega
   have h4:l.reverse.getD i I5=l.getD (l.length - 1 - i) I5:=by
    simp only [List.getD_eq_getElem?_getD]
    rw [List.getElem?_reverse hi]
   have h6:(l.length:Int) - 1 - (i:Int) - 1=(l.length:Int) - 1 - ((i+1:Nat):Int):=by omega
   have h5:=A6J (n:=(l.length:Int) - 1 - ((i+1:Nat):Int)) (by omega) (by omega)
   simp only [B2b,h1,h2,cond_true,h3,h5,B1s,h4,N8,h6]) (by
   rw [List.length_reverse]
   have h1:decide ((l.length:Int) - 1 - (l.length:Int) ≥ 0)=false:=decide_eq_false (by omega)
   simp only [B2b,h1,cond_false])
  have e2:B10 l t ((l.length:Int) - 1)=itX (fun v:B1C=>B2b v.1 v.2.1 v.2.2) B6X (l,t,(l.length:Int) - 1 - ((0:Nat):Int)):=by
   rw [show (l.length:Int) - 1 - ((0:Nat):Int)=(l.length:Int) - 1 by omega];rfl
  exact e2.trans this
 rw [List.length_reverse] at e
 simp only [Y8,A7X,e0,e]
 cases decide (l.reverse.findIdx (N8 t)<l.length)<;>exact ⟨rfl,rfl⟩
theorem D0l (l:List L9) (t:Int) (hl:l.length≤1099511627776):decide (A7X l t<0)=!(l.any (N8 t))∧decide (A7X l t ≥ 0)=l.any (N8 t):=by
 rw [(B9o l t hl).2]
 cases ha:l.any (N8 t) with
 | true =>
  have:l.reverse.findIdx (N8 t)<l.length:=by
   rw [← List.length_reverse]
   refine List.findIdx_lt_length.2 ?_
   obtain ⟨x,hx,hp⟩:=List.any_eq_true.1 ha
   exact ⟨x,List.mem_reverse.2 hx,hp⟩
  rw [decide_eq_true this]
  exact ⟨decide_eq_false (by simp only [cond_true];omega),decide_eq_true (by simp only [cond_true];omega)⟩
 | false =>
  have:¬ l.reverse.findIdx (N8 t)<l.length:=by
   intro hc
   rw [← List.length_reverse] at hc
   obtain ⟨x,hx,hp⟩:=List.findIdx_lt_length.1 hc
   rw [List.any_eq_true.2 ⟨x,List.mem_reverse.1 hx,hp⟩] at ha
   cases ha
  rw [decide_eq_false this]
  exact ⟨rfl,rfl⟩
theorem D3p (a b:ByteArray):(a.toList==b.toList)=(b.toList==a.toList):=by
 rw [C76,C76];exact decide_eq_decide.2 eq_comm
theorem D6Q (ops l:Lq2) (held:List L9) (n i k m:Int) (o:Int×ByteArray×ByteArray) (ho:ops.length≤1048576) :
  B4F ops held n i l m k ops (ops.length:Int) 0 o.1 o.2.1 o.2.2=cond (C3w o.2.1 ops) (0,true,[],[],0,0,[],0,0) (1,false,ops,held,n,i,l,m,k):=by
 refine B5e (ss:=fun v:A8G=>A9u v.1 v.2.1 v.2.2.1 v.2.2.2.1 v.2.2.2.2.1 v.2.2.2.2.2.1 v.2.2.2.2.2.2.1 v.2.2.2.2.2.2.2.1 v.2.2.2.2.2.2.2.2.1 v.2.2.2.2.2.2.2.2.2 o.1 o.2.1 o.2.2) (fa:=B4C) (fun j=>((ops,held,n,i,l,m,k,ops,(ops.length:Int),(j:Int)):A8G)) ops dOp (fun x=>o.2.1.toList==x.2.1.toList) _ _ (by omega) (fun j hj=>?_) ?_
 ·have h1:decide ((j:Int)<(ops.length:Int))=true:=decide_eq_true (by omega)
  have h4:decide (0≤(j:Int)∧(j:Int)<(ops.length:Int))=true:=decide_eq_true (by omega)
  simp only [A9u,B80,Int.toNat_natCast,h1,h4,cond_true,A7z j (by omega),D3p _ o.2.1]
 ·have h1:decide ((ops.length:Int)<(ops.length:Int))=false:=decide_eq_false (by omega)
  simp only [A9u,h1,cond_false]
theorem D54 (ops l:Lq2) (held:List L9) (n i:Int) (hl:l.length≤1048576) (ho:ops.length≤1048576) :
  B4E ops held n i l (l.length:Int) 0=cond (B86 l ops) (0,true,[],[],0,0) (1,false,ops,held,n,i):=by
 refine B5e (ss:=fun v:A8F=>A9t v.1 v.2.1 v.2.2.1 v.2.2.2.1 v.2.2.2.2.1 v.2.2.2.2.2.1 v.2.2.2.2.2.2) (fa:=B1p) (fun k=>((ops,held,n,i,l,(l.length:Int),(k:Int)):A8F)) l dOp (fun o=>C3w o.2.1 ops) _ _ (by omega) (fun k hk=>?_) ?_
 ·have h1:decide ((k:Int)<(l.length:Int))=true:=decide_eq_true (by omega)
  have h2:decide (0≤(k:Int)∧(k:Int)<(l.length:Int))=true:=decide_eq_true (by omega)
  simp only [A9t,B3R,B80,Int.toNat_natCast,h1,h2,cond_true,D6Q ops l held n i (k:Int) (l.length:Int) (l.getD k dOp) ho]
  cases C3w (l.getD k dOp).2.1 ops
  ·simp only [cond_false,A7z k (by omega)];rfl
  ·rfl
 ·have h1:decide ((l.length:Int)<(l.length:Int))=false:=decide_eq_false (by omega)
  simp only [A9t,h1,cond_false]
theorem D0W (held:List L9) (ops:Lq2) (hl:held.length≤1099511627776) (hh:∀ r∈held,r.2.2.length≤1048576) (ho:ops.length≤1048576):U7 held ops=true∧A0f held ops=B2P held ops:=by
 have e:A9m ops held (held.length:Int) 0=cond (B2P held ops) (0,true) (1,false):=by
  refine B5e (ss:=fun v:A8E=>A9s v.1 v.2.1 v.2.2.1 v.2.2.2) (fa:=B1o) (fun i=>((ops,held,(held.length:Int),(i:Int)):A8E)) held I5 (fun r=>B86 r.2.2 ops) _ _ (by omega) (fun i hi=>?_) ?_
  ·have h1:decide ((i:Int)<(held.length:Int))=true:=decide_eq_true (by omega)
   have h2:decide (0≤(i:Int)∧(i:Int)<(held.length:Int))=true:=decide_eq_true (by omega)
   simp only [A9s,B3S,B1s,Int.toNat_natCast,h1,h2,cond_true,D54 ops (held.getD i I5).2.2 held (held.length:Int) (i:Int) (hh _ (Q3 hi I5)) ho]
   cases B86 (held.getD i I5).2.2 ops
   ·simp only [cond_false,A7z i (by omega)];rfl
   ·rfl
  ·have h1:decide ((held.length:Int)<(held.length:Int))=false:=decide_eq_false (by omega)
   simp only [A9s,h1,cond_false]
 simp only [U7,A0f,e]
 cases B2P held ops<;>exact ⟨rfl,rfl⟩
theorem C6S (l:LBBe) (k:ByteArray) (hl:l.length≤1099511627776):B0J l k=true∧B3Q l k=cond (decide (l.findIdx (isK k)<l.length)) ((l.findIdx (isK k):Nat):Int) (-1):=by
 have e:L4 l (l.length:Int) 0 k=cond (decide (l.findIdx (isK k)<l.length)) (0,((l.findIdx (isK k):Nat):Int)) (1,0):=by
  refine B2E (ss:=fun v:K5=>L6 v.1 v.2.1 v.2.2 k) (fa:=P7) (fun i=>((l,(l.length:Int),(i:Int)):K5)) l dP (isK k) (fun i=>((0,(i:Int)):K3)) _ (by omega) (fun i hi=>?_) ?_
  ·have h1:decide ((i:Int)<(l.length:Int))=true:=decide_eq_true (by omega)
   have h2:decide (0≤(i:Int)∧(i:Int)<(l.length:Int))=true:=decide_eq_true (by omega)
   simp only [L6,h1,h2,cond_true,Int.toNat_natCast,A7z i (by omega),B1r,Q5,C5V]
   rfl
  ·have h1:decide ((l.length:Int)<(l.length:Int))=false:=decide_eq_false (by omega)
   simp only [L6,h1,cond_false]
 simp only [B0J,B3Q,L0,O8,e]
 cases decide (l.findIdx (isK k)<l.length)<;>exact ⟨rfl,rfl⟩
theorem C4G (l:LBBe) (k:ByteArray) (hl:l.length≤1099511627776):B15 l k=true∧C4F l k=(match D53 l k with | some v=>(v,true) | none=>((⟨#[]⟩:ByteArray),false)):=by
 obtain ⟨p1,p2⟩:=C6S l k hl
 simp only [B15,C4F,p1,p2,D53,C8d (isK k) dP l,Bool.true_and]
 cases hc:decide (l.findIdx (isK k)<l.length) with
 | true =>
  have hlt:=of_decide_eq_true hc
  have g1:decide (((l.findIdx (isK k):Nat):Int)<0)=false:=decide_eq_false (by omega)
  have g2:decide (0≤((l.findIdx (isK k):Nat):Int)∧((l.findIdx (isK k):Nat):Int)<(l.length:Int))=true:=decide_eq_true (by omega)
  simp only [cond_true,g1,g2,cond_false,Int.toNat_natCast]
  exact ⟨trivial,rfl⟩
 | false=>exact ⟨rfl,rfl⟩
theorem D2w (m:LBBe) (k:ByteArray) (hm:m.length≤1099511627776):C4F m k=B2Y m k:=by
 rw [(C5c m k hm).2,(C4G m k hm).2]
 all_goals (cases D53 m k<;>rfl)
theorem D2y (m:LBBe) (ops:Lq2) (hm:m.length≤1099511627776) (ho:ops.length≤1048576):B0p m ops=true∧B4D m ops=B9a m ops:=by
 have e:B4d m ops (ops.length:Int) 0=cond (ops.any (misses m)) (0,false) (1,false):=by
  refine B5e (ss:=fun v:B3k=>B4u v.1 v.2.1 v.2.2.1 v.2.2.2) (fa:=B6W) (fun i=>((m,ops,(ops.length:Int),(i:Int)):B3k)) ops dOp (misses m) _ _ (by omega) (fun i hi=>?_) ?_
  ·have h1:decide ((i:Int)<(ops.length:Int))=true:=decide_eq_true (by omega)
   have h2:decide (0≤(i:Int)∧(i:Int)<(ops.length:Int))=true:=decide_eq_true (by omega)
   simp only [B4u,C2h,B80,Int.toNat_natCast,h1,h2,cond_true,A7z i (by omega),(C4G m _ hm).1,D2w m _ hm,misses]
   generalize ((ops.getD i dOp).1 != 3)=a
   generalize (!((B2Y m (ops.getD i dOp).2.1).2==(!((ops.getD i dOp).2.2.toList==(⟨#[]⟩:ByteArray).toList))))=b
   generalize (!((B2Y m (ops.getD i dOp).2.1).1.toList==(ops.getD i dOp).2.2.toList))=c
   cases a<;>cases b<;>cases c<;>rfl
  ·have h1:decide ((ops.length:Int)<(ops.length:Int))=false:=decide_eq_false (by omega)
   simp only [B4u,h1,cond_false]
 simp only [B0p,B4D,e,B9a]
 cases ops.any (misses m)<;>exact ⟨rfl,rfl⟩
theorem D6j {l:List L9} (h:C8P l) {i j:Nat} (hi:i<l.length) (hj:j<l.length) (e:(l.getD i I5).2.1=(l.getD j I5).2.1):i=j:=by
 have hg:∀ k (hk:k<l.length),(l.getD k I5).2.1=(l.map (·.2.1))[k]'(by simpa using hk):=fun k hk=>by simp [List.getD_eq_getElem?_getD,hk]
 rw [hg i hi,hg j hj] at e
 exact (List.getElem_inj h).1 e
theorem D6B {l:List L9} (h:C8P l) (t:Int) (hl:l.length≤1099511627776) (ha:l.any (N8 t)=true):C0b l t=((l.findIdx (N8 t):Nat):Int)∧A7X l t=((l.findIdx (N8 t):Nat):Int)∧l.findIdx (N8 t)<l.length∧(l.getD (l.findIdx (N8 t)) I5).2.1=t:=by
 have h1:=List.findIdx_lt_length.2 (List.any_eq_true.1 ha)
 have h2:l.reverse.findIdx (N8 t)<l.length:=by
  rw [← List.length_reverse]
  refine List.findIdx_lt_length.2 ?_
  obtain ⟨x,hx,hp⟩:=List.any_eq_true.1 ha
  exact ⟨x,List.mem_reverse.2 hx,hp⟩
 have p1:N8 t (l.getD (l.findIdx (N8 t)) I5)=true:=by
  have:=List.findIdx_getElem (w:=h1)
  rw [List.getD_eq_getElem?_getD,List.getElem?_eq_getElem h1];exact this
 have p2:N8 t (l.getD (l.length - 1 - l.reverse.findIdx (N8 t)) I5)=true:=by
  have h3:l.reverse.findIdx (N8 t)<l.reverse.length:=by rw [List.length_reverse];exact h2
  have:=List.findIdx_getElem (w:=h3)
  have e:l.reverse.getD (l.reverse.findIdx (N8 t)) I5=l.getD (l.length - 1 - l.reverse.findIdx (N8 t)) I5:=by
   simp only [List.getD_eq_getElem?_getD]
   rw [List.getElem?_reverse h2]
  rw [← e,List.getD_eq_getElem?_getD,List.getElem?_eq_getElem h3];exact this
 have p1':(l.getD (l.findIdx (N8 t)) I5).2.1=t:=beq_iff_eq.1 (show ((l.getD (l.findIdx (N8 t)) I5).2.1==t)=true from p1)
 have p2':(l.getD (l.length - 1 - l.reverse.findIdx (N8 t)) I5).2.1=t:=beq_iff_eq.1 (show ((l.getD (l.length - 1 - l.reverse.findIdx (N8 t)) I5).2.1==t)=true from p2)
 have hij:=D6j h (i:=l.findIdx (N8 t)) (j:=l.length - 1 - l.reverse.findIdx (N8 t)) h1 (by omega) (by rw [p1', p2'])
 refine ⟨by rw [(C2m l t hl).2,decide_eq_true h1];rfl,?_,h1,p1'⟩
 rw [(B9o l t hl).2,decide_eq_true h2]
 simp only [cond_true]
 omega
theorem D01 (l:LBBe) (k v:ByteArray) (hl:l.length≤1099511627776):B16 k v l=true∧C7R k v l=D2U l k v:=by
 obtain ⟨p1,p2⟩:=C6S l k hl
 have e1:B2F k v 0 l=(0,k,v,((l.findIdx (B2R k):Nat):Int),l):=by
  have h:=B2E (ss:=fun u:B1T=>B22 u.1 u.2.1 u.2.2.1 u.2.2.2) (fa:=B8P) (fun i=>((k,v,(i:Int),l):B1T)) l dP (B2R k) (fun i=>((0,k,v,(i:Int),l):B1P)) (0,k,v,(l.length:Int),l) (by omega) (fun i hi=>?_) ?_
  ·refine h.trans ?_
   by_cases hc:l.findIdx (B2R k)<l.length
   ·rw [decide_eq_true hc];rfl
   ·have:=B1Z (B2R k) l
    have he:l.findIdx (B2R k)=l.length:=by omega
    rw [decide_eq_false hc,he];rfl
  ·have h1:decide ((i:Int)<(l.length:Int))=true:=decide_eq_true (by omega)
   have h2:decide (0≤(i:Int)∧(i:Int)<(l.length:Int))=true:=decide_eq_true (by omega)
   simp only [B22,h1,h2,cond_true,Int.toNat_natCast,A7z i (by omega),B1r,B2R]
   cases (Op.bytesLess (l.getD i dP).1.toList k.toList||(l.getD i dP).1.toList==k.toList)<;>rfl
  ·have h1:decide ((l.length:Int)<(l.length:Int))=false:=decide_eq_false (by omega)
   simp only [B22,h1,cond_false]
 have hle:=B1Z (B2R k) l
 simp only [B16,C7R,p1,p2,C3v,e1,D39,D8V,D2U,Int.toNat_natCast]
 cases hc:decide (l.findIdx (isK k)<l.length) with
 | true =>
  have hlt:=of_decide_eq_true hc
  have g1:decide (((l.findIdx (isK k):Nat):Int) ≥ 0)=true:=decide_eq_true (by omega)
  have g2:decide (0≤((l.findIdx (isK k):Nat):Int)∧((l.findIdx (isK k):Nat):Int)<(l.length:Int))=true:=decide_eq_true (by omega)
  simp only [cond_true,g1,g2,Int.toNat_natCast,Bool.true_and]
  exact ⟨trivial,rfl⟩
 | false =>
  have g1:decide ((-1:Int) ≥ 0)=false:=by decide
  have g2:decide (0≤((l.findIdx (B2R k):Nat):Int)∧((l.findIdx (B2R k):Nat):Int)≤(l.length:Int))=true:=decide_eq_true (by omega)
  have g3:decide ((l.length+1)*32≤140737488355328)=true:=decide_eq_true (by omega)
  simp only [cond_false,g1,g2,g3,Bool.true_and]
  exact ⟨rfl,rfl⟩
theorem D4A {α:Type} {p:α→Bool} {x:α} (h:p x=false):[x].filter p=[]:=by simp [List.filter_cons,h]
theorem D8T {α:Type} {p:α→Bool} {x:α} (h:p x=true):[x].filter p=[x]:=by simp [List.filter_cons,h]
theorem D0L (l:LBBe) (k:ByteArray) (hl:l.length≤1099511627776) (j:Nat) (hj:j<l.length) (hpre:(l.take j).filter (fun p=>!isK k p)=l.take j) (hat:isK k (l.getD j dP)=true) :
  ∃ r:LBBe,A0g ((j:Nat):Int) (((j+1:Nat):Int)) l k=(0,(((C5F l k).length:Nat):Int),r)∧r.length=l.length∧r.take (C5F l k).length=C5F l k:=by
 refine A6Q (fun v:O6=>∃ (m:Nat) (r:LBBe),v=(((((l.take m).filter (fun p=>!isK k p)).length:Nat):Int),(m:Int),r)∧m≤l.length∧((l.take m).filter (fun p=>!isK k p)).length<m∧r.length=l.length∧r.take ((l.take m).filter (fun p=>!isK k p)).length=(l.take m).filter (fun p=>!isK k p)∧r.drop m=l.drop m)
  (fun a:N2=>∃ r:LBBe,a=(0,(((C5F l k).length:Nat):Int),r)∧r.length=l.length∧r.take (C5F l k).length=C5F l k) (fun v=>l.length - v.2.1.toNat) ?_ ⟨j+1,l,?_,by omega,?_,rfl,?_,rfl⟩ (by simp;omega)
 ·rintro v ⟨m,r,rfl,hm,hlt2,hr,ht,hd⟩
  by_cases hlt:m<l.length
  ·left
   have h1:decide ((m:Int)<(r.length:Int))=true:=decide_eq_true (by omega)
   have h2:decide (0≤(m:Int)∧(m:Int)<(r.length:Int))=true:=decide_eq_true (by omega)
   have h3:decide (0≤((((l.take m).filter (fun p=>!isK k p)).length:Nat):Int)∧((((l.take m).filter (fun p=>!isK k p)).length:Nat):Int)<(r.length:Int))=true:=decide_eq_true (by omega)
   have hg:r.getD m dP=l.getD m dP:=by
    have:=congrArg (fun x:LBBe=>x[0]?) hd
    simp only [List.getElem?_drop,Nat.add_zero] at this
    simp only [List.getD_eq_getElem?_getD,this]
   have htk:l.take (m+1)=l.take m++[l.getD m dP]:=M4 hlt dP
   have hdd:∀ x:LBBe,x.drop m=l.drop m→x.drop (m+1)=l.drop (m+1):=fun x hx=>by
    rw [← List.drop_drop,← List.drop_drop,hx]
   cases hc:isK k (l.getD m dP) with
   | true =>
    have hf:(l.take (m+1)).filter (fun p=>!isK k p)=(l.take m).filter (fun p=>!isK k p):=by rw [htk,List.filter_append,D4A (by rw [hc];rfl),List.append_nil]
    refine ⟨(((((l.take (m+1)).filter (fun p=>!isK k p)).length:Nat):Int),((m+1:Nat):Int),r),?_,⟨m+1,r,rfl,by omega,by rw [hf];omega,hr,by rw [hf];exact ht,hdd r hd⟩,by simp only [Int.toNat_natCast];omega⟩
    have hk:M3 (m:Int) r k=true:=by simp only [M3,B5p,B1r,Int.toNat_natCast,hg];exact hc
    simp only [O5,h1,h2,hk,cond_true,Bool.not_true,cond_false,A7z m (by omega),hf]
   | false =>
    have hf:(l.take (m+1)).filter (fun p=>!isK k p)=(l.take m).filter (fun p=>!isK k p)++[l.getD m dP]:=by rw [htk,List.filter_append,D8T (by rw [hc];rfl)]
    refine ⟨(((((l.take (m+1)).filter (fun p=>!isK k p)).length:Nat):Int),((m+1:Nat):Int),r.set ((l.take m).filter (fun p=>!isK k p)).length (l.getD m dP)),?_,⟨m+1,_,rfl,by omega,by rw [hf];simp;omega,by simp [hr],?_,hdd _ ?_⟩,by simp only [Int.toNat_natCast];omega⟩
    ·have hk:M3 (m:Int) r k=false:=by simp only [M3,B5p,B1r,Int.toNat_natCast,hg];exact hc
     have hfl:(((l.take m).filter (fun p=>!isK k p))++[l.getD m dP]).length=((l.take m).filter (fun p=>!isK k p)).length+1:=by simp
     simp only [O5,h1,h2,h3,hk,cond_true,Bool.not_false,A7z m (by omega),A7z ((l.take m).filter (fun p=>!isK k p)).length (by omega),hf,hfl,Int.toNat_natCast,B1r,hg]
    ·rw [hf,List.length_append,List.length_singleton,List.take_add_one,List.take_set_of_le (Nat.le_refl _),ht]
     congr 1
     simp [List.getElem?_set,show ((l.take m).filter (fun p=>!isK k p)).length<r.length by omega]
    ·rw [List.drop_set_of_lt hlt2];exact hd
  ·right
   obtain rfl:m=l.length:=by omega
   have h1:decide ((l.length:Int)<(r.length:Int))=false:=decide_eq_false (by omega)
   rw [List.take_length] at ht
   refine ⟨(0,(((C5F l k).length:Nat):Int),r),?_,r,rfl,hr,ht⟩
   simp only [O5,h1,cond_false,List.take_length]
   rfl
 ·rw [M4 hj dP,List.filter_append,hpre,D4A (by rw [hat];rfl),List.append_nil,List.length_take];congr 2;omega
 ·rw [M4 hj dP,List.filter_append,hpre,D4A (by rw [hat];rfl),List.append_nil,List.length_take];omega
 ·rw [M4 hj dP,List.filter_append,hpre,D4A (by rw [hat];rfl),List.append_nil,List.length_take,Nat.min_eq_left (by omega)]
theorem D0X (l:LBBe) (k:ByteArray) (hl:l.length≤1099511627776):B14 l k=true∧C7P l k=C5F l k:=by
 have e:L3 (l.length:Int) 0 l k=cond (decide (l.findIdx (isK k)<l.length)) (0,((l.findIdx (isK k):Nat):Int)) (1,0):=by
  refine B2E (ss:=fun v:K4=>L5 v.1 v.2 l k) (fa:=P6) (fun i=>(((l.length:Int),(i:Int)):K4)) l dP (isK k) (fun i=>((0,(i:Int)):K2)) _ (by omega) (fun i hi=>?_) ?_
  ·have h1:decide ((i:Int)<(l.length:Int))=true:=decide_eq_true (by omega)
   have h2:decide (0≤(i:Int)∧(i:Int)<(l.length:Int))=true:=decide_eq_true (by omega)
   simp only [L5,h1,h2,cond_true,Int.toNat_natCast,A7z i (by omega),B1r,Q4,B5p]
   rfl
  ·have h1:decide ((l.length:Int)<(l.length:Int))=false:=decide_eq_false (by omega)
   simp only [L5,h1,cond_false]
 have hq:J8 l=true:=decide_eq_true (by simp [MAXB];omega)
 have hdf:M7 l k=true∧(T0 l k).1=C5F l k:=by
  have hidx:J6 l k=true∧K1 l k=cond (decide (l.findIdx (isK k)<l.length)) ((l.findIdx (isK k):Nat):Int) (-1):=by
   simp only [J6,K1,e]
   cases decide (l.findIdx (isK k)<l.length)<;>exact ⟨rfl,rfl⟩
  simp only [M7,T0,U2,hidx.1,hidx.2,Bool.true_and]
  cases hc:decide (l.findIdx (isK k)<l.length) with
  | false =>
   have hge:=of_decide_eq_false hc
   simp only [cond_false,show ((-1:Int)==-1)=true from rfl,cond_true]
   refine ⟨trivial,?_⟩
   symm
   apply List.filter_eq_self.2
   intro p hp
   have:=List.findIdx_eq_length.1 (show l.findIdx (isK k)=l.length by have:=B1Z (isK k) l;omega) p hp
   rw [this];rfl
  | true =>
   have hlt:=of_decide_eq_true hc
   have hat:isK k (l.getD (l.findIdx (isK k)) dP)=true:=by
    have:=List.findIdx_getElem (w:=hlt)
    simpa [List.getD_eq_getElem?_getD,hlt] using this
   have hpre:(l.take (l.findIdx (isK k))).filter (fun p=>!isK k p)=l.take (l.findIdx (isK k)):=by
    apply List.filter_eq_self.2
    intro p hp
    obtain ⟨i,hi,rfl⟩:=List.mem_iff_getElem.1 hp
    rw [List.length_take] at hi
    have:=List.not_of_lt_findIdx (p:=isK k) (xs:=l) (i:=i) (by omega)
    simpa using this
   obtain ⟨r,r1,r2,r3⟩:=D0L l k hl _ hlt hpre hat
   have hne:(((l.findIdx (isK k):Nat):Int)==-1)=false:=by simp only [beq_eq_false_iff_ne];omega
   have hdl:=D2o l k
   simp only [cond_true,hne,cond_false,A7z _ (show l.findIdx (isK k)<9223372036854775807 by omega),r1,Int.toNat_natCast]
   constructor
   ·simp only [Bool.and_eq_true,decide_eq_true_eq,List.length_append,List.length_take,List.length_replicate,List.length_drop]
    refine ⟨rfl,?_,?_⟩<;>omega
   ·rw [r3,List.append_assoc,List.take_left']
    rfl
 simp only [B14,C7P,L2,hq,hdf.1,hdf.2,Bool.and_self]
 exact ⟨trivial,trivial⟩
theorem D2x (m:LBBe) (l:Lq2) (hm:m.length≤1000000000) (hl:l.length≤1000000000):B2U m l=true∧B81 m l=l.foldl C2s m:=by
 have h:B4c l (l.length:Int) 0 m=(0,l.foldl C2s m):=by
  refine D2A (ss:=fun v:B3j=>B4t v.1 v.2.1 v.2.2.1 v.2.2.2) (fa:=B37) (fun i b=>((l,(l.length:Int),(i:Int),b):B3j)) l dOp C2s (fun b=>((0,b):B3c)) (fun i b=>b.length≤m.length+i) (by omega) (fun i b hi hb=>⟨?_,by have:=D2c b (l.getD i dOp);omega⟩) (fun b hb=>?_) (by simp)
  ·have h1:decide ((i:Int)<(l.length:Int))=true:=decide_eq_true (by omega)
   have h2:decide (0≤(i:Int)∧(i:Int)<(l.length:Int))=true:=decide_eq_true (by omega)
   have e:l.getD i ((0:Int),((⟨#[]⟩:ByteArray),(⟨#[]⟩:ByteArray)))=l.getD i dOp:=rfl
   obtain ⟨p1,p2⟩:=D01 b (l.getD i dOp).2.1 (l.getD i dOp).2.2 (by omega)
   obtain ⟨d1,d2⟩:=D0X b (l.getD i dOp).2.1 (by omega)
   simp only [B4t,h1,h2,cond_true,Int.toNat_natCast,A7z i (by omega),e,C2g,C2k,p1,p2,d1,d2,C2s]
   cases (l.getD i dOp).1==1<;>cases (l.getD i dOp).1==2<;>rfl
  ·have h1:decide ((l.length:Int)<(l.length:Int))=false:=decide_eq_false (by omega)
   simp only [B4t,h1,cond_false]
 have hq:J8 m=true:=decide_eq_true (by simp [MAXB];omega)
 simp only [B2U,B81,L2,h,hq]
 exact ⟨rfl,trivial⟩
theorem D50 (h:List L9) (k:Nat) (hk:k<h.length) (hl:h.length≤1099511627776):M9 (k:Int) ((k+1:Nat):Int) h=true∧R3 (k:Int) ((k+1:Nat):Int) h=h.eraseIdx k:=by
 have e0:((k:Int)==((k+1:Nat):Int))=false:=beq_eq_false_iff_ne.2 (by omega)
 have e1:=C2T h (k+1)
 have e2:(h.drop (k+1)).length=h.length - (k+1):=List.length_drop
 have e3:(h.take k++h.drop (k+1)).length=k+(h.drop (k+1)).length:=by rw [List.length_append,List.length_take];omega
 simp only [M9,R3,Int.toNat_natCast,e0,cond_false,e1]
 have e4:(h.take k++h.drop (k+1)++h.drop (k+(h.drop (k+1)).length)).take (k+(h.drop (k+1)).length)=h.take k++h.drop (k+1):=List.take_left' e3
 have e5:(h.take k++h.drop (k+1)++h.drop (k+(h.drop (k+1)).length)).length=h.length:=by
  simp only [List.length_append,List.length_take,List.length_drop];omega
 refine ⟨?_,?_⟩
 ·rw [e5]
  simp only [Bool.and_eq_true,decide_eq_true_eq]
  refine ⟨by omega,by omega,by omega,by omega,by omega⟩
 ·rw [e4,List.append_assoc,List.take_left' e3,List.eraseIdx_eq_take_drop_succ]
theorem D5G (r:L9) (ahead:List L9) (m:List W8) (held:List L9) (hr:A7I r.2.2=true) (hok:B1O r.1 r.2.1 r.2.2=true) (hm:m.length≤1000) (hh:held.length≤1048576) (ha:ahead.length≤1048576) (ho:∀ x∈held,A7I x.2.2=true) (h1:C8P held) :
  R7 r.1 r.2.1 r.2.2 ahead m held=true∧(match B8v (ahead.any (N8 r.2.1)) m held r with
   | none=>(B0e r.1 r.2.1 r.2.2 ahead m held).1=false
   | some (m', h')=>B0e r.1 r.2.1 r.2.2 ahead m held=(true,m', h')):=by
 have a1:=(B9o held r.2.1 (by omega)).1
 have a2:=(D0l held r.2.1 (by omega)).1
 have a3:=(B9o ahead r.2.1 (by omega)).1
 have a4:=(D0l ahead r.2.1 (by omega)).2
 have hl:=A8e hr
 obtain ⟨c1,c2⟩:=D0W held r.2.2 (by omega) (fun x hx=>A8e (ho x hx)) hl
 obtain ⟨d1,d2⟩:=D2y m r.2.2 (by omega) hl
 have f1:decide ((held.length+[((1:Int),(r.2.1,r.2.2))].length)*40≤MAXB)=true:=decide_eq_true (by simp only [List.length_singleton,MAXB];omega)
 have f3:K0 r.2.2=true:=decide_eq_true (by simp only [List.length_nil,MAXB];omega)
 have f4:L1 r.2.2=r.2.2:=rfl
 simp only [R7,B0e,B8v,a1,a2,a3,a4,c1,c2,d1,d2,f1,f3,f4,hok,Bool.true_and,Bool.and_true,Bool.not_true,cond_false]
 cases hk:(r.1==1) with
 | true =>
  simp only [cond_true]
  cases ahead.any (N8 r.2.1) with
  | true=>first | exact ⟨rfl,rfl⟩ | exact ⟨trivial,rfl⟩
  | false =>
   cases B2P held r.2.2 with
   | true=>first | exact ⟨rfl,rfl⟩ | exact ⟨trivial,rfl⟩
   | false =>
    cases B9a m r.2.2 with
    | false=>first | exact ⟨rfl,rfl⟩ | exact ⟨trivial,rfl⟩
    | true=>first | exact ⟨rfl,rfl⟩ | exact ⟨trivial,rfl⟩
 | false =>
  simp only [cond_false]
  cases ha2:held.any (N8 r.2.1) with
  | false =>
   simp only [Bool.not_false,cond_true]
   cases (r.1==3) with
   | false=>first | exact ⟨rfl,rfl⟩ | exact ⟨trivial,rfl⟩
   | true=>cases ahead.any (N8 r.2.1) with
    | true=>first | exact ⟨rfl,rfl⟩ | exact ⟨trivial,rfl⟩
    | false=>first | exact ⟨rfl,rfl⟩ | exact ⟨trivial,rfl⟩
  | true =>
   obtain ⟨_,e1,hlt,_⟩:=D6B h1 r.2.1 (by omega) ha2
   generalize hi:held.findIdx (N8 r.2.1)=i at hlt e1 ⊢
   have e2:=A7z i (by omega)
   have q0:decide (0≤(i:Int)∧(i:Int)<(held.length:Int))=true:=decide_eq_true (by omega)
   obtain ⟨s1,s2⟩:=D2x m (held.getD i I5).2.2 (by omega) (by have:=A8e (ho _ (Q3 hlt I5));omega)
   obtain ⟨t1,t2⟩:=D50 held i hlt (by omega)
   simp only [Bool.not_true,cond_false,e1,e2,Int.toNat_natCast,q0,B1s,s1,s2,t1,t2,Bool.true_and,Bool.and_true]
   cases (r.1==2) with
   | true =>
    simp only [cond_true]
    refine ⟨trivial,?_⟩
    cases decide (((((held.getD i I5).2.2.foldl C2s m).length:Nat):Int)≤60) with
    | true=>rfl
    | false=>rfl
   | false =>
    simp only [cond_false]
    refine ⟨trivial,?_⟩
    cases decide ((m.length:Int)≤60) with
    | true=>rfl
    | false=>rfl
theorem B83 (l:List L9) (hl:l.length≤1048576) (hr:∀ x∈l,A7I x.2.2=true):X5 l=true∧B0c l=T2 l:=by
 have key:((U3 l).1=0∧(U3 l).2.1=false∧B0N l l.length=none)∨((U3 l).1=1∧B0N l l.length=some ((U3 l).2.2.1,(U3 l).2.2.2)):=by
  refine A6Q (ss:=fun v:A9j=>A8T v.1 v.2.1 v.2.2.1 v.2.2.2.1 v.2.2.2.2.1 v.2.2.2.2.2) (fa:=A7N)
   (fun v=>∃ (i:Nat) (m:List W8) (held:List L9),v=(l,l,(l.length:Int),(i:Int),m,held)∧i≤l.length∧B0N l i=some (m,held))
   (fun a:A8b=>(a.1=0∧a.2.1=false∧B0N l l.length=none)∨(a.1=1∧B0N l l.length=some (a.2.2.1,a.2.2.2))) (fun v=>l.length - v.2.2.2.1.toNat) ?_ ⟨0,[],[],rfl,Nat.zero_le _,rfl⟩ (by simp;omega)
  rintro v ⟨i,m,held,rfl,hi,hp⟩
  by_cases hlt:i<l.length
  ·have e1:decide ((i:Int)<(l.length:Int))=true:=decide_eq_true (by omega)
   have e2:decide (0≤(i:Int)∧(i:Int)<(l.length:Int))=true:=decide_eq_true (by omega)
   have e3:decide (0≤(0:Int)∧(0:Int)≤(i:Int)∧(i:Int)≤(l.length:Int))=true:=decide_eq_true (by omega)
   have I:=D1w hr i hi m held hp
   have g0:B6o (l.getD i I5).1 (l.getD i I5).2.1 (l.getD i I5).2.2=true:=hr _ (Q3 hlt I5)
   simp only [A8T,B2K,B2O,e1,e2,e3,cond_true,Int.toNat_natCast,Int.toNat_zero,List.drop_zero,B1s,g0,← D4a,A7z i (by omega)]
   cases hok:B1O (l.getD i I5).1 (l.getD i I5).2.1 (l.getD i I5).2.2 with
   | false =>
    simp only [Bool.not_false,cond_true]
    exact .inr ⟨_,rfl,.inl ⟨rfl,rfl,C80 hlt hp (by simp only [B8v,hok,Bool.not_false,cond_true])⟩⟩
   | true =>
    obtain ⟨o1,o2⟩:=D5G (l.getD i I5) (l.take i) m held (hr _ (Q3 hlt I5)) hok (by have:=I.hml;omega) (by have:=I.hlen;omega) (by rw [List.length_take];omega) (fun x hx=>(I.hmem x hx).1) I.hone
    simp only [Bool.not_true,cond_false,o1,cond_true]
    cases hst:B8v ((l.take i).any (N8 (l.getD i I5).2.1)) m held (l.getD i I5) with
    | none =>
     rw [hst] at o2
     simp only [o2,Bool.not_false,cond_true]
     exact .inr ⟨_,rfl,.inl ⟨rfl,rfl,C80 hlt hp hst⟩⟩
    | some s =>
     obtain ⟨m', h'⟩:=s
     rw [hst] at o2
     simp only [o2,Bool.not_true,cond_false]
     exact .inl ⟨_,rfl,⟨i+1,m', h', rfl,by omega,by simp only [B0N,hp,Option.bind_some];exact hst⟩,by simp only [Int.toNat_natCast];omega⟩
  ·obtain rfl:i=l.length:=by omega
   have e1:decide ((l.length:Int)<(l.length:Int))=false:=decide_eq_false (by omega)
   simp only [A8T,e1,cond_false]
   exact .inr ⟨_,rfl,.inr ⟨rfl,hp⟩⟩
 simp only [X5,B0c,T2]
 rcases key with ⟨h1,h2,h5⟩ | ⟨h1,h2⟩
 ·rw [h1,h2,h5];exact ⟨rfl,rfl⟩
 ·rw [h1,h2];exact ⟨rfl,rfl⟩
theorem C6n {l:List L9} (h:A8a l):(T2 l).1.length≤60∧(T2 l).2.1.length≤l.length∧∀ x∈(T2 l).2.1,x.2.2.length≤1048576:=by
 simp only [T2]
 cases hp:B0N l l.length with
 | none=>exact ⟨by simp,by simp,fun x hx=>by simp at hx⟩
 | some s =>
  have I:=D1w (A9a h) l.length (Nat.le_refl _) s.1 s.2 (by rw [hp])
  exact ⟨I.hml,I.hlen,fun x hx=>A8e (I.hmem x hx).1⟩
noncomputable def B7v {α:Type} (q:α→α→Bool) (a b:List α):Bool:=(a.zip b).all fun p=>q p.1 p.2
noncomputable def A81 {α:Type} (q:α→α→Bool) (a b:List α):Bool:=cond ((a.length:Int) != (b.length:Int)) false (B7v q a b)
noncomputable def qP (x y:ByteArray×ByteArray):Bool:=(x.1.toList==y.1.toList)&&((x.2.toList==y.2.toList)&&true)
theorem D6x {α:Type} (a b:List α) (d:α) {i:Nat} (ha:i<a.length) (hb:i<b.length):(a.zip b).getD i (d,d)=(a.getD i d,b.getD i d):=by
 have hz:i<(a.zip b).length:=by rw [List.length_zip];omega
 simp only [List.getD_eq_getElem?_getD,List.getElem?_eq_getElem hz,List.getElem?_eq_getElem ha,List.getElem?_eq_getElem hb,Option.getD_some,List.getElem_zip]
theorem C2f {V A α:Type} {ss:V→V ⊕ A} {fa:A} (pk:Nat→V) (a b:List α) (d:α) (q:α→α→Bool) (bad last:A) (hab:a.length=b.length) (hn:a.length<4611686018427387904)
  (h:∀ i,i<a.length→ss (pk i)=cond (q (a.getD i d) (b.getD i d)) (.inl (pk (i+1))) (.inr bad)) (hl:ss (pk a.length)=.inr last):itX ss fa (pk 0)=cond (B7v q a b) last bad:=by
 have hz:(a.zip b).length=a.length:=by rw [List.length_zip];omega
 rw [B5e pk (a.zip b) (d,d) (fun p=>!(q p.1 p.2)) bad last (by omega) (fun i hi=>by
  rw [hz] at hi
  rw [h i hi,D6x a b d hi (by omega)]
  cases q (a.getD i d) (b.getD i d)<;>rfl) (by rw [hz];exact hl)]
 have:(a.zip b).any (fun p=>!(q p.1 p.2))=!(B7v q a b):=by
  simp only [B7v,List.all_eq_not_any_not,Bool.not_not]
 rw [this]
 cases B7v q a b<;>rfl
theorem C00 {α:Type} {a b:List α} (h:a.length=b.length):((a.length:Int) != (b.length:Int))=false:=by
 rw [h];simp
theorem C1a {α:Type} {a b:List α} (h:¬ a.length=b.length):((a.length:Int) != (b.length:Int))=true:=by
 simp only [bne_iff_ne,ne_eq];omega
theorem C9j (a b:List W8) (hl:a.length≤1099511627776):A71 a b=true∧B0R a b=A81 qP a b:=by
 simp only [A71,B0R,A81]
 by_cases hab:a.length=b.length
 ·have e : A8q a b 0 = cond (B7v qP a b) (1, false) (0, false) := by
   refine C2f (ss:=fun v:A7M=>A8x v.1 v.2.1 v.2.2) (fa:=A9L) (fun i=>((a,b,(i:Int)):A7M)) a b dP qP _ _ hab (by omega) (fun i hi=>?_) ?_
   ·have h1:decide ((i:Int)<(a.length:Int))=true:=decide_eq_true (by omega)
    have h2:decide (0≤(i:Int)∧(i:Int)<(a.length:Int))=true:=decide_eq_true (by omega)
    have h3:decide (0≤(i:Int)∧(i:Int)<(b.length:Int))=true:=decide_eq_true (by omega)
    simp only [A8x,h1,h2,h3,cond_true,Int.toNat_natCast,A7z i (by omega),B1r,qP]
    generalize ((a.getD i dP).1.toList==(b.getD i dP).1.toList&&((a.getD i dP).2.toList==(b.getD i dP).2.toList&&true))=z
    cases z<;>rfl
   ·have h1:decide ((a.length:Int)<(a.length:Int))=false:=decide_eq_false (by omega)
    simp only [A8x,h1,cond_false]
  rw [C00 hab,e]
  cases B7v qP a b<;>exact ⟨rfl,rfl⟩
 ·rw [C1a hab];exact ⟨rfl,rfl⟩
theorem B9T (a b:List W8) (hl:a.length≤1099511627776):P1 a b=true∧W6 a b=A81 qP a b:=by
 simp only [P1,W6,A81]
 by_cases hab:a.length=b.length
 ·have e : R6 a b ((a.length : Nat) : Int) 0 = cond (B7v qP a b) (1, false) (0, false) := by
   refine C2f (ss:=fun v:P2=>T1 v.1 v.2.1 v.2.2.1 v.2.2.2) (fa:=Z4) (fun i=>((a,b,(a.length:Int),(i:Int)):P2)) a b dP qP _ _ hab (by omega) (fun i hi=>?_) ?_
   ·have h1:decide ((i:Int)<(a.length:Int))=true:=decide_eq_true (by omega)
    have h2:decide (0≤(i:Int)∧(i:Int)<(a.length:Int))=true:=decide_eq_true (by omega)
    have h3:decide (0≤(i:Int)∧(i:Int)<(b.length:Int))=true:=decide_eq_true (by omega)
    simp only [T1,h1,h2,h3,cond_true,Int.toNat_natCast,A7z i (by omega),B1r,qP]
    generalize ((a.getD i dP).1.toList==(b.getD i dP).1.toList&&((a.getD i dP).2.toList==(b.getD i dP).2.toList&&true))=z
    cases z<;>rfl
   ·have h1:decide ((a.length:Int)<(a.length:Int))=false:=decide_eq_false (by omega)
    simp only [T1,h1,cond_false]
  rw [C00 hab,e]
  cases B7v qP a b<;>exact ⟨rfl,rfl⟩
 ·rw [C1a hab];exact ⟨rfl,rfl⟩
noncomputable def qO (x y:Int×ByteArray×ByteArray):Bool:=(x.1==y.1)&&((x.2.1.toList==y.2.1.toList)&&((x.2.2.toList==y.2.2.toList)&&true))
noncomputable def qR (x y:L9):Bool:=cond (x.1 != y.1) false (cond (x.2.1 != y.2.1) false (A81 qO x.2.2 y.2.2))
theorem D1U (a b:Lq2) (hl:a.length≤1099511627776):A8w a b=true∧B9v a b=A81 qO a b:=by
 simp only [A8w,B9v,A81]
 by_cases hab:a.length=b.length
 ·have e : A9n a b 0 = cond (B7v qO a b) (1, false) (0, false) := by
   refine C2f (ss:=fun v:A8H=>A9v v.1 v.2.1 v.2.2) (fa:=B1q) (fun i=>((a,b,(i:Int)):A8H)) a b dOp qO _ _ hab (by omega) (fun i hi=>?_) ?_
   ·have h1:decide ((i:Int)<(a.length:Int))=true:=decide_eq_true (by omega)
    have h2:decide (0≤(i:Int)∧(i:Int)<(a.length:Int))=true:=decide_eq_true (by omega)
    have h3:decide (0≤(i:Int)∧(i:Int)<(b.length:Int))=true:=decide_eq_true (by omega)
    simp only [A9v,h1,h2,h3,cond_true,Int.toNat_natCast,A7z i (by omega),B80,qO]
    generalize ((a.getD i dOp).1==(b.getD i dOp).1&&((a.getD i dOp).2.1.toList==(b.getD i dOp).2.1.toList&&((a.getD i dOp).2.2.toList==(b.getD i dOp).2.2.toList&&true)))=z
    cases z<;>rfl
   ·have h1:decide ((a.length:Int)<(a.length:Int))=false:=decide_eq_false (by omega)
    simp only [A9v,h1,cond_false]
  rw [C00 hab,e]
  cases B7v qO a b<;>exact ⟨rfl,rfl⟩
 ·rw [C1a hab];exact ⟨rfl,rfl⟩
theorem C96 (a b:List L9) (hl:a.length≤1099511627776) (ho:∀ x∈a,x.2.2.length≤1048576):A8z a b=true∧B4o a b=A81 qR a b:=by
 simp only [A8z,B4o,A81]
 by_cases hab:a.length=b.length
 ·have e : A8O a b 0 = cond (B7v qR a b) (1, false) (0, false) := by
   refine C2f (ss:=fun v:A8d=>A8X v.1 v.2.1 v.2.2) (fa:=P5) (fun i=>((a,b,(i:Int)):A8d)) a b I5 qR _ _ hab (by omega) (fun i hi=>?_) ?_
   ·have h1:decide ((i:Int)<(a.length:Int))=true:=decide_eq_true (by omega)
    have h2:decide (0≤(i:Int)∧(i:Int)<(a.length:Int))=true:=decide_eq_true (by omega)
    have h3:decide (0≤(i:Int)∧(i:Int)<(b.length:Int))=true:=decide_eq_true (by omega)
    obtain ⟨o1,o2⟩:=D1U (a.getD i I5).2.2 (b.getD i I5).2.2 (by have:=ho _ (Q3 hi I5);omega)
    simp only [A8X,B2N,h1,h2,h3,cond_true,Int.toNat_natCast,A7z i (by omega),B1s,o1,o2,qR]
    cases ((a.getD i I5).1 != (b.getD i I5).1)<;>cases ((a.getD i I5).2.1 != (b.getD i I5).2.1)<;>cases A81 qO (a.getD i I5).2.2 (b.getD i I5).2.2<;>rfl
   ·have h1:decide ((a.length:Int)<(a.length:Int))=false:=decide_eq_false (by omega)
    simp only [A8X,h1,cond_false]
  rw [C00 hab,e]
  cases B7v qR a b<;>exact ⟨rfl,rfl⟩
 ·rw [C1a hab];exact ⟨rfl,rfl⟩
theorem C9G (a b:Lq2) (hl:a.length≤1099511627776):R1 a b=true∧A8R a b=A81 qO a b:=by
 simp only [R1,A8R,A81]
 by_cases hab:a.length=b.length
 ·have e : V5 a b ((a.length : Nat) : Int) 0 = cond (B7v qO a b) (1, false) (0, false) := by
   refine C2f (ss:=fun v:R4=>V8 v.1 v.2.1 v.2.2.1 v.2.2.2) (fa:=A74) (fun i=>((a,b,(a.length:Int),(i:Int)):R4)) a b dOp qO _ _ hab (by omega) (fun i hi=>?_) ?_
   ·have h1:decide ((i:Int)<(a.length:Int))=true:=decide_eq_true (by omega)
    have h2:decide (0≤(i:Int)∧(i:Int)<(a.length:Int))=true:=decide_eq_true (by omega)
    have h3:decide (0≤(i:Int)∧(i:Int)<(b.length:Int))=true:=decide_eq_true (by omega)
    simp only [V8,h1,h2,h3,cond_true,Int.toNat_natCast,A7z i (by omega),B80,qO]
    generalize ((a.getD i dOp).1==(b.getD i dOp).1&&((a.getD i dOp).2.1.toList==(b.getD i dOp).2.1.toList&&((a.getD i dOp).2.2.toList==(b.getD i dOp).2.2.toList&&true)))=z
    cases z<;>rfl
   ·have h1:decide ((a.length:Int)<(a.length:Int))=false:=decide_eq_false (by omega)
    simp only [V8,h1,cond_false]
  rw [C00 hab,e]
  cases B7v qO a b<;>exact ⟨rfl,rfl⟩
 ·rw [C1a hab];exact ⟨rfl,rfl⟩
theorem D4v (x y:L9) (hl:x.2.2.length≤1048576):B0q x.1 x.2.1 x.2.2 y.1 y.2.1 y.2.2=true∧C4H x.1 x.2.1 x.2.2 y.1 y.2.1 y.2.2=qR x y:=by
 obtain ⟨o1,o2⟩:=C9G x.2.2 y.2.2 (by omega)
 simp only [B0q,C4H,o1,o2,qR,bne]
 cases (x.1==y.1)<;>cases (x.2.1==y.2.1)<;>exact ⟨rfl,rfl⟩
theorem C01 (a b:List L9) (hl:a.length≤1099511627776) (ho:∀ x∈a,x.2.2.length≤1048576):J0 a b=true∧L7 a b=A81 qR a b:=by
 simp only [J0,L7,A81]
 by_cases hab:a.length=b.length
 ·have e : K7 b a ((a.length : Nat) : Int) 0 = cond (B7v qR a b) (1, false) (0, false) := by
   refine C2f (ss:=fun v:J4=>K8 v.1 v.2.1 v.2.2.1 v.2.2.2) (fa:=K6) (fun i=>((b,a,(a.length:Int),(i:Int)):J4)) a b I5 qR _ _ hab (by omega) (fun i hi=>?_) ?_
   ·have h1:decide ((i:Int)<(a.length:Int))=true:=decide_eq_true (by omega)
    have h2:decide (0≤(i:Int)∧(i:Int)<(a.length:Int))=true:=decide_eq_true (by omega)
    have h3:decide (0≤(i:Int)∧(i:Int)<(b.length:Int))=true:=decide_eq_true (by omega)
    obtain ⟨o1,o2⟩:=D4v (a.getD i I5) (b.getD i I5) (ho _ (Q3 hi I5))
    simp only [K8,M6,h1,h2,h3,cond_true,Int.toNat_natCast,A7z i (by omega),B1s,o1,o2]
    cases qR (a.getD i I5) (b.getD i I5)<;>rfl
   ·have h1:decide ((a.length:Int)<(a.length:Int))=false:=decide_eq_false (by omega)
    simp only [K8,h1,cond_false]
  rw [C00 hab,e]
  cases B7v qR a b<;>exact ⟨rfl,rfl⟩
 ·rw [C1a hab];exact ⟨rfl,rfl⟩
theorem D1V {x:W2} (h:B9b x):B1M x.1 x.2.1 x.2.2.1 x.2.2.2.1 x.2.2.2.2=true∧B1I x.1 x.2.1 x.2.2.1 x.2.2.2.1 x.2.2.2.2=true∧B8j x.1 x.2.1 x.2.2.1 x.2.2.2.1 x.2.2.2.2=B0d x.1 x.2.1 x.2.2.1 x.2.2.2.1 x.2.2.2.2:=by
 obtain ⟨h1,h3,h4⟩:=h
 obtain ⟨s1,s2⟩:=C5d x.2.1 h1.1 (A9a h1)
 obtain ⟨i1,i2⟩:=B83 x.2.1 h1.1 (A9a h1)
 obtain ⟨r1,r2,r3⟩:=C6n h1
 have hl1:=h1.1
 have hl4:=h4.1
 obtain ⟨a1,a2⟩:=C9j (T2 x.2.1).1 x.2.2.2.1 (by omega)
 obtain ⟨b1,b2⟩:=B9T (T2 x.2.1).1 x.2.2.2.1 (by omega)
 obtain ⟨c1,c2⟩:=C96 (T2 x.2.1).2.1 x.2.2.2.2 (by omega) r3
 obtain ⟨d1,d2⟩:=C01 (T2 x.2.1).2.1 x.2.2.2.2 (by omega) r3
 have w1:=A6J (n:=(x.2.1.length:Int)+(x.2.2.2.2.length:Int)) (by omega) (by omega)
 have w2:=A6J (n:=(x.2.1.length:Int)+(((T2 x.2.1).2.1.length:Nat):Int)) (by omega) (by omega)
 have n1:∀ z:Int,D0g z=X1 z 0 7:=fun z=>rfl
 have n2:∀ z p q:Int,A8o z p q=X1 z p q:=fun z p q=>rfl
 simp only [B1M,B1I,B8j,B0d,s1,s2,i1,i2,a1,a2,b1,b2,c1,c2,d1,d2,w1,w2,n1,n2,Bool.true_and]
 cases X1 x.1 0 7 with
 | false=>exact ⟨rfl,rfl,rfl⟩
 | true =>
  simp only [Bool.not_true,cond_false]
  cases X1 x.2.2.1 0 (x.2.1.length:Int) with
  | false =>
   simp only [Bool.not_false,cond_true,cond_false]
   cases decide ((x.2.1.length:Int) > 300)<;>first | exact ⟨rfl,rfl,rfl⟩ | exact ⟨rfl,trivial,rfl⟩ | exact ⟨trivial,rfl,rfl⟩ | exact ⟨trivial,trivial,rfl⟩ | exact ⟨rfl,rfl,trivial⟩ | (simp)
  | true =>
   simp only [Bool.not_true,cond_false]
   cases hrep:(T2 x.2.1).2.2 with
   | false=>cases decide ((x.2.1.length:Int) > 300)<;>cases decide ((x.2.1.length:Int)+(x.2.2.2.2.length:Int) > 300)<;>exact ⟨rfl,rfl,rfl⟩
   | true =>
    simp only [cond_true]
    cases A81 qP (T2 x.2.1).1 x.2.2.2.1 with
    | false=>cases decide ((x.2.1.length:Int) > 300)<;>cases decide ((x.2.1.length:Int)+(x.2.2.2.2.length:Int) > 300)<;>exact ⟨rfl,rfl,rfl⟩
    | true =>
     simp only [cond_true]
     cases hs:A81 qR (T2 x.2.1).2.1 x.2.2.2.2 with
     | false=>cases decide ((x.2.1.length:Int) > 300)<;>cases decide ((x.2.1.length:Int)+(x.2.2.2.2.length:Int) > 300)<;>exact ⟨rfl,rfl,rfl⟩
     | true =>
      have hlen:(T2 x.2.1).2.1.length=x.2.2.2.2.length:=by
       by_cases he:(T2 x.2.1).2.1.length=x.2.2.2.2.length
       ·exact he
       ·simp only [A81,C1a he,cond_true] at hs;cases hs
      rw [hlen]
      by_cases g1:(x.2.1.length:Int) > 300
      ·rw [decide_eq_true g1,decide_eq_true (show (x.2.1.length:Int)+(x.2.2.2.2.length:Int) > 300 by omega)]
       exact ⟨rfl,rfl,rfl⟩
      ·rw [decide_eq_false g1]
       by_cases g2:(x.2.1.length:Int)+(x.2.2.2.2.length:Int) > 300
       ·rw [decide_eq_true g2,decide_eq_false (show ¬ (x.2.1.length:Int)+(x.2.2.2.2.length:Int)≤300 by omega)]
        exact ⟨rfl,rfl,rfl⟩
       ·rw [decide_eq_false g2,decide_eq_true (show (x.2.1.length:Int)+(x.2.2.2.2.length:Int)≤300 by omega)]
        exact ⟨rfl,rfl,rfl⟩
theorem C07 {l:List L9} (hl:A8a l):A8s l=true∧B3w l=l:=by
 have h1:=hl.1
 have e:B2L l=(0,l):=by
  refine A6Q (ss:=fun v:B1f=>B0x v.1 v.2.1 v.2.2.1 v.2.2.2) (fa:=A96)
   (fun v=>∃ i:Nat,v=(l,(l.length:Int),(i:Int),l.take i)∧i≤l.length) (fun a=>a=(0,l)) (fun v=>l.length - v.2.2.1.toNat) ?_ ⟨0,rfl,Nat.zero_le _⟩ (by simp;omega)
  rintro v ⟨i,rfl,hi⟩
  by_cases hlt:i<l.length
  ·have e1:decide ((i:Int)<(l.length:Int))=true:=decide_eq_true (by omega)
   have e2:decide (0≤(i:Int)∧(i:Int)<(l.length:Int))=true:=decide_eq_true (by omega)
   have ho:=A8e (A9a hl _ (Q3 hlt I5))
   have f3:K0 (l.getD i I5).2.2=true:=decide_eq_true (by simp only [List.length_nil,MAXB];omega)
   have f4:L1 (l.getD i I5).2.2=(l.getD i I5).2.2:=rfl
   have f1:decide (((l.take i).length+[((l.getD i I5).1,((l.getD i I5).2.1,(l.getD i I5).2.2))].length)*40≤MAXB)=true:=decide_eq_true (by simp only [List.length_singleton,List.length_take,MAXB];omega)
   refine .inl ⟨(l,(l.length:Int),((i+1:Nat):Int),l.take (i+1)),?_,⟨i+1,rfl,by omega⟩,by simp only [Int.toNat_natCast];omega⟩
   rw [M4 hlt I5]
   simp only [B0x,e1,e2,cond_true,Int.toNat_natCast,B1s,f3,f4,f1,A7z i (by omega)]
  ·obtain rfl:i=l.length:=by omega
   have e1:decide ((l.length:Int)<(l.length:Int))=false:=decide_eq_false (by omega)
   simp only [B0x,e1,cond_false,List.take_length]
   exact .inr ⟨_,rfl,rfl⟩
 simp only [A8s,B3w,e]
 exact ⟨rfl,trivial⟩
theorem D55 {x:W2} (h1:A8a x.2.1) (h3:x.2.2.2.1.length≤1048576) (h4:A8a x.2.2.2.2):U6 x.1 x.2.1 x.2.2.1 x.2.2.2.1 x.2.2.2.2=true∧A8y x.1 x.2.1 x.2.2.1 x.2.2.2.1 x.2.2.2.2=(x.1,x.2.2.1,x.2.1,x.2.2.2.1,x.2.2.2.2):=by
 obtain ⟨a1,a2⟩:=C07 h1
 obtain ⟨b1,b2⟩:=C07 h4
 have c1:J8 x.2.2.2.1=true:=decide_eq_true (by simp only [List.length_nil,MAXB];omega)
 have c2:L2 x.2.2.2.1=x.2.2.2.1:=rfl
 simp only [U6,A8y,a1,a2,b1,b2,c1,c2,Bool.and_self]
 exact ⟨trivial,trivial⟩
theorem C1J {l:List L9} (hl:A8a l):X6 l=true∧B0v l=l:=by
 have h1:=hl.1
 have e:A8N l 0 []=(0,l):=by
  refine A6Q (ss:=fun v:A9l=>A8V v.1 v.2.1 v.2.2) (fa:=A8M)
   (fun v=>∃ i:Nat,v=(l,(i:Int),l.take i)∧i≤l.length) (fun a=>a=(0,l)) (fun v=>l.length - v.2.1.toNat) ?_ ⟨0,rfl,Nat.zero_le _⟩ (by simp;omega)
  rintro v ⟨i,rfl,hi⟩
  by_cases hlt:i<l.length
  ·have e1:decide ((i:Int)<(l.length:Int))=true:=decide_eq_true (by omega)
   have e2:decide (0≤(i:Int)∧(i:Int)<(l.length:Int))=true:=decide_eq_true (by omega)
   have ho:=A8e (A9a hl _ (Q3 hlt I5))
   have f3:U8 (l.getD i I5).1 (l.getD i I5).2.1 (l.getD i I5).2.2=true:=decide_eq_true (by simp only [List.length_nil,MAXB];omega)
   have f4:A8A (l.getD i I5).1 (l.getD i I5).2.1 (l.getD i I5).2.2=l.getD i I5:=rfl
   have f1:decide (((l.take i).length+[((l.getD i I5).1,((l.getD i I5).2.1,(l.getD i I5).2.2))].length)*40≤MAXB)=true:=decide_eq_true (by simp only [List.length_singleton,List.length_take,MAXB];omega)
   refine .inl ⟨(l,((i+1:Nat):Int),l.take (i+1)),?_,⟨i+1,rfl,by omega⟩,by simp only [Int.toNat_natCast];omega⟩
   rw [M4 hlt I5]
   simp only [A8V,B6a,e1,e2,cond_true,Int.toNat_natCast,B1s,f3,f4,f1,A7z i (by omega)]
  ·obtain rfl:i=l.length:=by omega
   have e1:decide ((l.length:Int)<(l.length:Int))=false:=decide_eq_false (by omega)
   simp only [A8V,e1,cond_false,List.take_length]
   exact .inr ⟨_,rfl,rfl⟩
 simp only [X6,B0v,e]
 exact ⟨rfl,trivial⟩
theorem D68 {x:W2} (h:B9b x):B3C x.1 x.2.1 x.2.2.1 x.2.2.2.1 x.2.2.2.2=true∧B9u x.1 x.2.1 x.2.2.1 x.2.2.2.1 x.2.2.2.2=x:=by
 obtain ⟨h1,h2,h4⟩:=h
 obtain ⟨a1,a2⟩:=C1J h1
 obtain ⟨b1,b2⟩:=C1J h4
 have h2:=h2.1
 have m:decide ((([]:List W8).length+x.2.2.2.1.length)*32≤MAXB)=true:=decide_eq_true (by simp only [List.length_nil,MAXB];omega)
 simp only [B3C,B9u,a1,a2,b1,b2,m,Bool.and_self]
 exact ⟨trivial,rfl⟩
noncomputable def shW (x:W2):Prop:=A8a x.2.1∧x.2.2.2.1.length≤1048576∧A8a x.2.2.2.2
noncomputable def D0o (r:L9):Prop:=r.2.2.length≤1048576
noncomputable def N3 {α:Type} (mk:Int→α→Int×α):Int→List α→Int×List α
 | k,[]=>(k,[])
 | k,x::r=>((N3 mk (mk k x).1 r).1,(mk k x).2::(N3 mk (mk k x).1 r).2)
noncomputable def B12 (k:Int) (r:L9):Int×L9:=((A8r (k+1+1) r.2.2).1,(k,k+1,(A8r (k+1+1) r.2.2).2))
theorem C52 {α:Type} (mk:Int→α→Int×α):∀ (l:List α) (k:Int),(N3 mk k l).2.length=l.length:=by
 intro l
 induction l with
 | nil=>intro k;rfl
 | cons y l ih=>intro k;simp only [N3,List.length_cons,ih]
theorem C51 {α:Type} (mk:Int→α→Int×α) (wt:α→Nat) (ok:α→Prop) (hw:∀ k x,0≤k→k+(wt x:Int)≤10000000→ok x→(mk k x).1=k+(wt x:Int)) :
  ∀ (l:List α) (k:Int),(∀ x∈l,ok x)→0≤k→k+(W7 wt l:Int)≤10000000→(N3 mk k l).1=k+(W7 wt l:Int):=by
 intro l
 induction l with
 | nil=>intro k _ _ _;simp [N3,W7]
 | cons y l ih =>
  intro k ho h0 h1
  have e:W7 wt (y::l)=wt y+W7 wt l:=by simp [W7]
  rw [e,Int.natCast_add] at h1
  simp only [N3]
  rw [hw k y h0 (by omega) (ho y (by simp)),ih _ (fun x hx=>ho x (by simp [hx])) (by omega) (by omega),e,Int.natCast_add]
  omega
theorem B6y {α:Type} (w:α→Nat) (l:List α) (i:Nat):W7 w l=W7 w (l.take i)+W7 w (l.drop i):=by
 simp only [W7]
 rw [← List.sum_append,← List.map_append,List.take_append_drop]
theorem B2A {α:Type} {l:List α} {i:Nat} (h:i<l.length) (d:α):l.drop i=l.getD i d::l.drop (i+1):=by
 rw [List.drop_eq_getElem_cons h]
 simp [List.getD_eq_getElem?_getD,h]
theorem C8O {α:Type} (mk:Int→α→Int×α) (x:α):∀ (l:List α) (k:Int),N3 mk k (l++[x])=((mk (N3 mk k l).1 x).1,(N3 mk k l).2++[(mk (N3 mk k l).1 x).2]):=by
 intro l
 induction l with
 | nil=>intro k;rfl
 | cons y l ih=>intro k;simp only [List.cons_append,N3,ih]
theorem D69 {α:Type} (a b:List α) (y x:α):(a++y::b).set a.length x=a++x::b:=by
 rw [List.set_append_right _ _ (Nat.le_refl _),Nat.sub_self];rfl
theorem D67 {α:Type} (d:α) (mk:Int→α→Int×α) (wt:α→Nat) (ok:α→Prop) {ss:Int→Int→List α→(Int×Int×List α) ⊕ (Nat×Int×List α)} {fl:Nat×Int×List α}
  (hw:∀ k x,0≤k→k+(wt x:Int)≤10000000→ok x→(mk k x).1=k+(wt x:Int))
  (hs:∀ (k:Int) (i:Nat) (h:List α),i<h.length→h.length≤1048576→0≤k→k+(wt (h.getD i d):Int)≤10000000→ok (h.getD i d)→ss k (i:Int) h=.inl ((mk k (h.getD i d)).1,((i+1:Nat):Int),h.set i (mk k (h.getD i d)).2))
  (he:∀ (k:Int) (h:List α),h.length≤1048576→ss k (h.length:Int) h=.inr (0,k,h))
  {l:List α} (hl:l.length≤1048576) (hok:∀ x∈l,ok x) {k:Int} (h0:0≤k) (h1:k+(W7 wt l:Int)≤10000000) :
  itX (fun v=>ss v.1 v.2.1 v.2.2) fl (k,0,l)=(0,N3 mk k l):=by
 refine A6Q (fun v:Int×Int×List α=>∃ i:Nat,i≤l.length∧v=((N3 mk k (l.take i)).1,(i:Int),(N3 mk k (l.take i)).2++l.drop i)) (fun a=>a=(0,N3 mk k l)) (fun v=>l.length - v.2.1.toNat) ?_ ⟨0,Nat.zero_le _,by simp [N3]⟩ (by simp;omega)
 rintro v ⟨i,hi,rfl⟩
 have hlen:((N3 mk k (l.take i)).2++l.drop i).length=l.length:=by rw [List.length_append,C52,List.length_take,List.length_drop];omega
 have hlm:(N3 mk k (l.take i)).2.length=i:=by rw [C52,List.length_take];omega
 have hf:(N3 mk k (l.take i)).1=k+(W7 wt (l.take i):Int):=C51 mk wt ok hw _ k (fun x hx=>hok x (List.mem_of_mem_take hx)) h0 (by have:=B6y wt l i;omega)
 by_cases hlt:i<l.length
 ·have hg : ((N3 mk k (l.take i)).2 ++ l.drop i).getD i d = l.getD i d := by
   rw [B2A hlt d]
   simp [List.getD_eq_getElem?_getD,hlm]
  have hsum:W7 wt l=W7 wt (l.take i)+(wt (l.getD i d)+W7 wt (l.drop (i+1))):=by
   rw [B6y wt l i,B2A hlt d];simp [W7]
  have:=hs (N3 mk k (l.take i)).1 i ((N3 mk k (l.take i)).2++l.drop i) (by omega) (by omega) (by rw [hf];omega) (by rw [hg,hf];omega) (by rw [hg];exact hok _ (Q3 hlt d))
  rw [hg] at this
  refine .inl ⟨_,this,⟨i+1,by omega,?_⟩,by simp only [Int.toNat_natCast];omega⟩
  rw [M4 hlt d,C8O,B2A hlt d]
  have e:=D69 (N3 mk k (l.take i)).2 (l.drop (i+1)) (l.getD i d) (mk (N3 mk k (l.take i)).1 (l.getD i d)).2
  rw [hlm] at e
  rw [e]
  simp only [List.append_assoc,List.cons_append,List.nil_append]
 ·obtain rfl:i=l.length:=by omega
  have:=he (N3 mk k (l.take l.length)).1 ((N3 mk k (l.take l.length)).2++l.drop l.length) (by omega)
  rw [hlen] at this
  refine .inr ⟨_,this,?_⟩
  simp [List.take_length]
theorem D7d {α:Type} (el:Int→α) (c:Int) (hc:0≤c∧c≤100000) (d:α) (f:Nat→Int×List α→Int×List α)
  (hf:∀ i k (h:List α),i<h.length→0≤k→k≤100000*((i:Int)+100)→h.length≤1048576→f i (k,h)=(k+c,h.set i (el k))) :
  ∀ n i k (h:List α),i+n=h.length→0≤k→k≤100000*((i:Int)+100)→h.length≤1048576 →
   (foldN f n i (k,h)).1=k+c*(n:Int)∧(foldN f n i (k,h)).2.length=h.length∧(∀ j,i≤j→j<h.length→(foldN f n i (k,h)).2.getD j d=el (k+c*((j - i:Nat):Int)))∧∀ j,j<i→(foldN f n i (k,h)).2.getD j d=h.getD j d:=by
 intro n
 induction n with
 | zero=>intro i k h hi h0 h1 h2;exact ⟨by simp [foldN],rfl,fun j hj hl=>by omega,fun j _=>rfl⟩
 | succ n ih =>
  intro i k h hi h0 h1 h2
  simp only [foldN]
  rw [hf i k h (by omega) h0 h1 h2]
  obtain ⟨q1,q2,q3,q4⟩:=ih (i+1) (k+c) (h.set i (el k)) (by simp;omega) (by omega) (by omega) (by simpa using h2)
  refine ⟨?_,by rw [q2];simp,fun j hj hl=>?_,fun j hj=>?_⟩
  ·rw [q1,Int.natCast_add,Int.mul_add];simp;omega
  ·by_cases e:j=i
   ·subst e
    rw [q4 j (by omega)]
    have:j<h.length:=hl
    simp [List.getD_eq_getElem?_getD,this]
   ·rw [q3 j (by omega) (by simpa using hl)]
    congr 1
    have:((j - i:Nat):Int)=((j - (i+1):Nat):Int)+1:=by omega
    rw [this,Int.mul_add];omega
  ·rw [q4 j (by omega)]
   have:i ≠ j:=by omega
   simp [List.getD_eq_getElem?_getD,List.getElem?_set_ne this]
theorem C4E {α:Type} {l:List α} {i:Nat} (hi:i<l.length) (x d:α):(l.set i x).getD i d=x:=by
 simp [List.getD_eq_getElem?_getD,hi]
theorem C1c (l:Lq2) (k:Int) (h:l.length≤1048576) (h0:0≤k) (h1:k≤10000000):(A8r k l).1=k+3*(l.length:Int)∧(A8r k l).2.length=l.length:=by
 obtain ⟨q1,q2,_⟩:=D7d (fun k=>(k,I9 (k+1),I9 (k+1+1))) 3 (by omega) dOp O1 (fun i k h hi h0 h1 h2=>by
  have w1:wI (k+(1:Int))=k+1:=A6J (by omega) (by omega)
  have w2:wI (k+1+(1:Int))=k+1+1:=A6J (by omega) (by omega)
  have w3:wI (k+1+1+(1:Int))=k+3:=by rw [A6J (by omega) (by omega)];omega
  simp only [O1,w1,w2,w3,List.set_set,C4E hi]) l.length 0 k l (by omega) h0 (by omega) h
 have e1:A8r k l=foldN O1 l.length 0 (k,l):=rfl
 rw [e1];exact ⟨q1,q2⟩
theorem C53 (k:Int) (r:L9) (h0:0≤k) (h1:k+(V9 r:Int)≤10000000) (hj:D0o r):(B12 k r).1=k+(V9 r:Int):=by
 simp only [V9] at h1 ⊢
 have m1:=(C1c r.2.2 (k+1+1) hj (by omega) (by omega)).1
 simp only [B12]
 rw [m1]
 omega
theorem D6l {k:Int} {l:Lq2} (h:l.length≤1048576) (h0:0≤k) (h1:k≤10000000):B0s k l=true∧B0r (A8r k l).2 k=true:=by
 have h2:=(C1c l k h h0 h1).2
 exact ⟨by simp only [B0s,okL];simp;omega,by simp only [B0r,okL,h2];simp;omega⟩
theorem D36 {α:Type} (mk:Int→α→Int×α) (d:α):∀ (l:List α) (k:Int) (i:Nat),i<l.length→(N3 mk k l).2.getD i d=(mk (N3 mk k (l.take i)).1 (l.getD i d)).2:=by
 intro l
 induction l with
 | nil=>intro k i h;simp at h
 | cons y l ih =>
  intro k i h
  cases i with
  | zero=>simp [N3]
  | succ i =>
   simp only [N3,List.getD_cons_succ,List.take_succ_cons]
   exact ih _ i (by simpa using h)
theorem D6R {α:Type} (d:α) (mk:Int→α→Int×α) (wt:α→Nat) (ok:α→Prop) {ss:List α→Int→Int→(List α×Int×Int) ⊕ (Nat×Int×Int)} {fl:Nat×Int×Int} {z:Int}
  (hw:∀ k x,0≤k→k+(wt x:Int)≤10000000→ok x→(mk k x).1=k+(wt x:Int))
  (hs:∀ (k:Int) (i:Nat) (h:List α) (x:α),i<h.length→h.length≤1048576→0≤k→k+(wt x:Int)≤10000000→ok x→h.getD i d=(mk k x).2→ss h k (i:Int)=.inl (h,(mk k x).1,((i+1:Nat):Int)))
  (he:∀ (k:Int) (h:List α),h.length≤1048576→ss h k (h.length:Int)=.inr (1,z,k))
  {l:List α} (hl:l.length≤1048576) (hok:∀ x∈l,ok x) {k:Int} (h0:0≤k) (h1:k+(W7 wt l:Int)≤10000000) :
  itX (fun v=>ss v.1 v.2.1 v.2.2) fl ((N3 mk k l).2,k,0)=(1,z,(N3 mk k l).1):=by
 have hl2:=C52 mk l k
 refine A6Q (fun v:List α×Int×Int=>∃ i:Nat,i≤l.length∧v=((N3 mk k l).2,(N3 mk k (l.take i)).1,(i:Int))) (fun a=>a=(1,z,(N3 mk k l).1)) (fun v=>l.length - v.2.2.toNat) ?_ ⟨0,Nat.zero_le _,by simp [N3]⟩ (by simp;omega)
 rintro v ⟨i,hi,rfl⟩
 have hf:(N3 mk k (l.take i)).1=k+(W7 wt (l.take i):Int):=C51 mk wt ok hw _ k (fun x hx=>hok x (List.mem_of_mem_take hx)) h0 (by have:=B6y wt l i;omega)
 by_cases hlt:i<l.length
 ·have hsum : W7 wt l = W7 wt (l.take i) + (wt (l.getD i d) + W7 wt (l.drop (i + 1))) := by
   rw [B6y wt l i,B2A hlt d];simp [W7]
  have:=hs (N3 mk k (l.take i)).1 i (N3 mk k l).2 (l.getD i d) (by omega) (by omega) (by rw [hf];omega) (by rw [hf];omega) (hok _ (Q3 hlt d)) (D36 mk d l k i hlt)
  refine .inl ⟨_,this,⟨i+1,by omega,?_⟩,by simp only [Int.toNat_natCast];omega⟩
  rw [M4 hlt d,C8O]
 ·obtain rfl:i=l.length:=by omega
  have:=he (N3 mk k (l.take l.length)).1 (N3 mk k l).2 (by omega)
  rw [hl2] at this
  refine .inr ⟨_,this,?_⟩
  rw [List.take_length]
theorem D8U {α:Type} (el:Int→α) (c:Int) (hc:0≤c∧c≤100000) (d:α) (x:List α) (hx:x.length≤1048576) (g:Nat→Int→Int ⊕ Unit)
  (hg:∀ i k,i<x.length→0≤k→k≤100000*((i:Int)+100)→x.getD i d=el k→g i k=.inl (k+c)) :
  ∀ n i k,i+n=x.length→0≤k→k≤100000*((i:Int)+100)→(∀ j,i≤j→j<x.length→x.getD j d=el (k+c*((j - i:Nat):Int)))→loopN g n i k=.inl (k+c*(n:Int)):=by
 intro n
 induction n with
 | zero=>intro i k hi h0 h1 he;simp [loopN]
 | succ n ih =>
  intro i k hi h0 h1 he
  have h2:=he i (Nat.le_refl _) (by omega)
  rw [Nat.sub_self] at h2
  simp only [loopN]
  rw [hg i k (by omega) h0 h1 (by simpa using h2)]
  simp only
  rw [ih (i+1) (k+c) (by omega) (by omega) (by omega) (fun j hj hl=>by
   rw [he j (by omega) hl]
   congr 1
   have:((j - i:Nat):Int)=((j - (i+1):Nat):Int)+1:=by omega
   rw [this,Int.mul_add];omega)]
  rw [Int.natCast_add,Int.mul_add];congr 1;simp;omega
theorem heldmark {α:Type} (el:Int→α) (c:Int) (hc:0≤c∧c≤100000) (d:α) (f:Nat→Int×List α→Int×List α) (g:List α→Nat→Int→Int ⊕ Unit)
  (hf:∀ i k (h:List α),i<h.length→0≤k→k≤100000*((i:Int)+100)→h.length≤1048576→f i (k,h)=(k+c,h.set i (el k)))
  (hg:∀ (x:List α) i k,x.length≤1048576→i<x.length→0≤k→k≤100000*((i:Int)+100)→x.getD i d=el k→g x i k=.inl (k+c)) (h:List α) (hh:h.length≤1048576) (k:Int) (h0:0≤k) (h1:k≤10000000) :
  (foldN f h.length 0 (k,h)).1=k+c*(h.length:Int)∧(foldN f h.length 0 (k,h)).2.length=h.length∧loopN (g (foldN f h.length 0 (k,h)).2) (foldN f h.length 0 (k,h)).2.length 0 k=.inl (k+c*(h.length:Int)):=by
 obtain ⟨q1,q2,q3,_⟩:=D7d el c hc d f hf h.length 0 k h (by omega) h0 (by omega) hh
 refine ⟨q1,q2,?_⟩
 have:=D8U el c hc d (foldN f h.length 0 (k,h)).2 (by rw [q2];exact hh) (g (foldN f h.length 0 (k,h)).2) (fun i k hi=>hg _ i k (by rw [q2];exact hh) hi) (foldN f h.length 0 (k,h)).2.length 0 k (by omega) h0 (by omega) (fun j hj hl=>q3 j hj (by rw [q2] at hl;exact hl))
 rw [this,q2]
theorem D38 (l:Lq2) (k:Int) (h:l.length≤1048576) (h0:0≤k) (h1:k≤10000000):B75 (A8r k l).2 k=(A8r k l).1:=by
 obtain ⟨q1,q2,q3⟩:=heldmark (fun k=>(k,I9 (k+1),I9 (k+1+1))) 3 (by omega) dOp O1 O7 (fun i k h hi h0 h1 h2=>by
  have w1:wI (k+(1:Int))=k+1:=A6J (by omega) (by omega)
  have w2:wI (k+1+(1:Int))=k+1+1:=A6J (by omega) (by omega)
  have w3:wI (k+1+1+(1:Int))=k+3:=by rw [A6J (by omega) (by omega)];omega
  simp only [O1,w1,w2,w3,List.set_set,C4E hi]) (fun x i k hx hi h0 h1 he=>by
  have w1:wI (k+(1:Int))=k+1:=A6J (by omega) (by omega)
  have w2:wI (k+1+(1:Int))=k+1+1:=A6J (by omega) (by omega)
  have w3:wI (k+1+1+(1:Int))=k+3:=by rw [A6J (by omega) (by omega)];omega
  simp only [dOp] at he
  have e:(k != k)=false:=by simp
  simp only [O7,he,e,cond_false,w1,w2,w3,beq_self_eq_true,Bool.not_true]) l h k h0 h1
 have e1:A8r k l=foldN O1 l.length 0 (k,l):=rfl
 have e2:∀ x,B75 x k=cond (A7x (loopN (O7 x) x.length 0 k)) (A7o (-1) (loopN (O7 x) x.length 0 k)) (-1:Int):=fun x=>rfl
 rw [e1,e2,q3,q1];rfl
theorem C2W {l:List L9} (hl:l.length≤1048576) (ho:∀ r∈l,D0o r) {k:Int} (h0:0≤k) (h1:k+(W7 V9 l:Int)≤10000000) :
  A8u k l=true∧B0G k l=N3 B12 k l∧(N3 B12 k l).1=k+(W7 V9 l:Int)∧A8t (N3 B12 k l).2 k=true∧A8P (N3 B12 k l).2 k=(N3 B12 k l).1:=by
 have hdj:((0:Int),((0:Int),([]:Lq2)))=I5:=rfl
 have e1:B0g k 0 l=(0,N3 B12 k l):=by
  refine D67 I5 B12 V9 D0o C53 (fun k i h hi hl h0 h1 ho=>?_) (fun k h hl=>?_) hl ho h0 h1
  ·have c1:decide ((i:Int)<(h.length:Int))=true:=decide_eq_true (by omega)
   have c2:decide (0≤(i:Int)∧(i:Int)<(h.length:Int))=true:=decide_eq_true (by omega)
   have s1:(h.getD i I5).2.2.length≤1048576:=ho
   simp only [V9] at h1
   have w1:wI (k+(1:Int))=k+1:=A6J (by omega) (by omega)
   have w2:wI (k+1+(1:Int))=k+1+1:=A6J (by omega) (by omega)
   have q1:=(D6l s1 (k:=k+1+1) (by omega) (by omega)).1
   simp only [B24,hdj,c1,c2,cond_true,Int.toNat_natCast,List.length_set,C4E hi,List.set_set,w1,w2,q1,A7z i (by omega)]
   rfl
  ·have c1:decide ((h.length:Int)<(h.length:Int))=false:=decide_eq_false (by omega)
   simp only [B24,c1,cond_false]
 have e2:B0f (N3 B12 k l).2 k 0=(1,0,(N3 B12 k l).1):=by
  refine D6R I5 B12 V9 D0o C53 (fun k i h x hi hl h0 h1 ho hg=>?_) (fun k h hl=>?_) hl ho h0 h1
  ·have c1:decide ((i:Int)<(h.length:Int))=true:=decide_eq_true (by omega)
   have c2:decide (0≤(i:Int)∧(i:Int)<(h.length:Int))=true:=decide_eq_true (by omega)
   have s1:x.2.2.length≤1048576:=ho
   simp only [V9] at h1
   have w1:wI (k+(1:Int))=k+1:=A6J (by omega) (by omega)
   have w2:wI (k+1+(1:Int))=k+1+1:=A6J (by omega) (by omega)
   have m1:=(C1c x.2.2 (k+1+1) s1 (by omega) (by omega)).1
   have q1:=(D6l s1 (k:=k+1+1) (by omega) (by omega)).2
   have q3:=D38 x.2.2 (k+1+1) s1 (by omega) (by omega)
   have n2:∀ y:Int,(y != y)=false:=fun y=>by simp
   have d1:decide ((A8r (k+1+1) x.2.2).1<0)=false:=decide_eq_false (by omega)
   simp only [B12] at hg
   simp only [B23,hdj,c1,c2,cond_true,Int.toNat_natCast,hg,n2,cond_false,w1,w2,q1,q3,d1,A7z i (by omega)]
   rfl
  ·have c1:decide ((h.length:Int)<(h.length:Int))=false:=decide_eq_false (by omega)
   simp only [B23,c1,cond_false]
 refine ⟨by simp only [A8u,e1];rfl,by simp only [B0G,e1],C51 B12 V9 D0o C53 l k ho h0 h1,by simp only [A8t,e2];rfl,by simp only [A8P,e2];rfl⟩
theorem D0p {l:List L9} (h:A8a l):∀ r∈l,D0o r:=fun r hr=>A8e (h.2 r hr)
theorem D2T (l:LBBe) (k:Int) (h:l.length≤1048576) (h0:0≤k) (h1:k≤10000000):(Q0 k l).1=k+2*(l.length:Int)∧(Q0 k l).2.length=l.length∧B0l (Q0 k l).2 k=(Q0 k l).1:=by
 obtain ⟨q1,q2,q3⟩:=heldmark (fun k=>(I9 k,I9 (k+1))) 2 (by omega) dP O3 N4 (fun i k h hi h0 h1 h2=>by
  have w1:wI (k+(1:Int))=k+1:=A6J (by omega) (by omega)
  have w2:wI (k+1+(1:Int))=k+2:=by rw [A6J (by omega) (by omega)];omega
  simp only [O3,w1,w2,List.set_set,C4E hi]) (fun x i k hx hi h0 h1 he=>by
  have w1:wI (k+(1:Int))=k+1:=A6J (by omega) (by omega)
  have w2:wI (k+1+(1:Int))=k+2:=by rw [A6J (by omega) (by omega)];omega
  simp only [dP] at he
  simp only [N4,he,cond_false,w1,w2,beq_self_eq_true,Bool.not_true]) l h k h0 h1
 have e1:Q0 k l=foldN O3 l.length 0 (k,l):=rfl
 rw [e1]
 refine ⟨q1,q2,?_⟩
 have e2:∀ x,B0l x k=cond (A7x (loopN (N4 x) x.length 0 k)) (A7o (-1) (loopN (N4 x) x.length 0 k)) (-1:Int):=fun x=>rfl
 rw [e2,q3,q1];rfl
theorem D1d {l:List W8} {k:Int} (h:l.length≤1048576) (h0:0≤k) (h1:k≤10000000):A9e k l=true∧(Q0 k l).1=k+2*(l.length:Int)∧A9c (Q0 k l).2 k=true∧B0l (Q0 k l).2 k=(Q0 k l).1:=by
 obtain ⟨a,b,c⟩:=D2T l k h h0 h1
 exact ⟨by simp only [A9e,okL];simp;omega,a,by simp only [A9c,okL,b];simp;omega,c⟩
theorem C5r {x:W2} (h:shW x) (hw:W7 V9 x.2.1≤3145728∧W7 V9 x.2.2.2.2≤3145728) (a b a' b':Int) :
  A0n a b 1 x.2.1 x.2.2.2.1 x.2.2.2.2=true∧0≤(U4 a b 1 x.2.1 x.2.2.2.1 x.2.2.2.2).1 ∧
   A9d a' (U4 a b 1 x.2.1 x.2.2.2.1 x.2.2.2.2).2.1 b' (U4 a b 1 x.2.1 x.2.2.2.1 x.2.2.2.2).2.2.1 (U4 a b 1 x.2.1 x.2.2.2.1 x.2.2.2.2).2.2.2 1=true ∧
   B87 a' (U4 a b 1 x.2.1 x.2.2.2.1 x.2.2.2.2).2.1 b' (U4 a b 1 x.2.1 x.2.2.2.1 x.2.2.2.2).2.2.1 (U4 a b 1 x.2.1 x.2.2.2.1 x.2.2.2.2).2.2.2 1=(U4 a b 1 x.2.1 x.2.2.2.1 x.2.2.2.2).1:=by
 obtain ⟨h1,h2,h3⟩:=h
 obtain ⟨m1,m2,m3,m4,m5⟩:=C2W h1.1 (D0p h1) (k:=1) (by decide) (by omega)
 obtain ⟨p1,p2,p3,p4⟩:=D1d (l:=x.2.2.2.1) (k:=(N3 B12 1 x.2.1).1) (by omega) (by omega) (by omega)
 obtain ⟨n1,n2,n3,n4,n5⟩:=C2W h3.1 (D0p h3) (k:=(Q0 (N3 B12 1 x.2.1).1 x.2.2.2.1).1) (by omega) (by omega)
 have d1:decide ((N3 B12 1 x.2.1).1<0)=false:=decide_eq_false (by omega)
 have d2:decide ((Q0 (N3 B12 1 x.2.1).1 x.2.2.2.1).1<0)=false:=decide_eq_false (by omega)
 have d3:decide ((N3 B12 (Q0 (N3 B12 1 x.2.1).1 x.2.2.2.1).1 x.2.2.2.2).1<0)=false:=decide_eq_false (by omega)
 simp only [A0n,U4,A9d,B87,m1,m2,m4,m5,p1,p3,p4,n1,n2,n4,n5,d1,d2,d3,cond_false,Bool.and_self]
 refine ⟨trivial,by omega,trivial,trivial⟩
theorem D6s {x:W2} (h:B9b x):shW x:=⟨h.1,h.2.1.1,h.2.2⟩
noncomputable abbrev D3B (x:W2):Prop:=(0≤x.1∧x.1≤7)∧(0≤x.2.2.1∧x.2.2.1≤(x.2.1.length:Int))∧(x.2.1.length:Int)+(x.2.2.2.2.length:Int)≤300∧B0N x.2.1 x.2.1.length=some (x.2.2.2.1,x.2.2.2.2)
theorem D7g (z p q:Int):X1 z p q=decide (p≤z∧z≤q):=by
 by_cases h1:p≤z
 ·by_cases h2:z≤q
  ·rw [decide_eq_true (And.intro h1 h2)];simp [X1,h1,h2]
  ·rw [decide_eq_false (fun h=>h2 h.2)];simp [X1,h1,h2]
 ·rw [decide_eq_false (fun h=>h1 h.1)];simp [X1,h1]
theorem D7c {α:Type} (q:α→α→Bool) (hq:∀ x y,q x y=true→x=y):∀ (a b:List α),a.length=b.length→B7v q a b=true→a=b:=by
 intro a
 induction a with
 | nil=>intro b h _;cases b with
  | nil=>rfl
  | cons y b=>simp at h
 | cons x a ih=>intro b h hz;cases b with
  | nil=>simp at h
  | cons y b =>
   simp only [B7v,List.zip_cons_cons,List.all_cons,Bool.and_eq_true] at hz
   rw [hq x y hz.1,ih b (by simpa using h) hz.2]
theorem C9i {α:Type} (q:α→α→Bool) (hq:∀ x y,q x y=true→x=y) {a b:List α} (h:A81 q a b=true):a=b:=by
 by_cases hl:a.length=b.length
 ·simp only [A81,C00 hl,cond_false] at h
  exact D7c q hq a b hl h
 ·simp only [A81,C1a hl,cond_true] at h;cases h
theorem D6o (x y:W8):qP x y=true↔x=y:=by
 simp only [qP,C76,Bool.and_true,Bool.and_eq_true,decide_eq_true_eq]
 exact ⟨fun h=>Prod.ext h.1 h.2,fun h=>by rw [h];exact ⟨rfl,rfl⟩⟩
theorem D5t {α:Type} (q:α→α→Bool):∀ (a:List α),(∀ x∈a,q x x=true)→B7v q a a=true:=by
 intro a
 induction a with
 | nil=>intro _;rfl
 | cons x a ih =>
  intro h
  simp only [B7v,List.zip_cons_cons,List.all_cons,Bool.and_eq_true]
  exact ⟨h x (by simp),ih (fun y hy=>h y (by simp [hy]))⟩
theorem C3T {α:Type} (q:α→α→Bool) {a:List α} (h:∀ x∈a,q x x=true):A81 q a a=true:=by
 simp only [A81,C00 (a:=a) (b:=a) rfl,cond_false]
 exact D5t q a h
theorem D0n (a b:List W8):A81 qP a b=true↔a=b :=
 ⟨C9i qP (fun x y h=>(D6o x y).1 h),fun h=>by rw [h];exact C3T qP (fun x _=>(D6o x x).2 rfl)⟩
theorem D6n (x y:Int×ByteArray×ByteArray):qO x y=true↔x=y:=by
 simp only [qO,C76,Bool.and_true,Bool.and_eq_true,decide_eq_true_eq,beq_iff_eq]
 exact ⟨fun h=>Prod.ext h.1 (Prod.ext h.2.1 h.2.2),fun h=>by rw [h];exact ⟨rfl,rfl,rfl⟩⟩
theorem D0m (a b:Lq2):A81 qO a b=true↔a=b :=
 ⟨C9i qO (fun x y h=>(D6n x y).1 h),fun h=>by rw [h];exact C3T qO (fun x _=>(D6n x x).2 rfl)⟩
theorem D6p (x y:L9):qR x y=true↔x=y:=by
 simp only [qR,bne]
 constructor
 ·intro h
  cases h1:(x.1==y.1) with
  | false=>rw [h1] at h;simp at h
  | true =>
   rw [h1] at h
   cases h2:(x.2.1==y.2.1) with
   | false=>rw [h2] at h;simp at h
   | true =>
    rw [h2] at h
    exact Prod.ext (beq_iff_eq.1 h1) (Prod.ext (beq_iff_eq.1 h2) ((D0m _ _).1 h))
 ·rintro rfl
  rw [beq_self_eq_true,beq_self_eq_true]
  exact (D0m _ _).2 rfl
theorem D5q (a b:List L9):A81 qR a b=true↔a=b :=
 ⟨C9i qR (fun x y h=>(D6p x y).1 h),fun h=>by rw [h];exact C3T qR (fun x _=>(D6p x x).2 rfl)⟩
theorem D3l {x:W2} (h1:A8a x.2.1) (hl3:x.2.2.2.1.length≤1048576) (hl4:x.2.2.2.2.length≤1048576):B0d x.1 x.2.1 x.2.2.1 x.2.2.2.1 x.2.2.2.2=true↔D3B x:=by
 obtain ⟨i1,i2⟩:=B83 x.2.1 h1.1 (A9a h1)
 obtain ⟨r1,r2,r3⟩:=C6n h1
 have hl1:=h1.1
 obtain ⟨b1,b2⟩:=B9T (T2 x.2.1).1 x.2.2.2.1 (by omega)
 obtain ⟨d1,d2⟩:=C01 (T2 x.2.1).2.1 x.2.2.2.2 (by omega) r3
 have w1:=A6J (n:=(x.2.1.length:Int)+(x.2.2.2.2.length:Int)) (by omega) (by omega)
 have n1:D0g x.1=X1 x.1 0 7:=rfl
 have n2:A8o x.2.2.1 0 (x.2.1.length:Int)=X1 x.2.2.1 0 (x.2.1.length:Int):=rfl
 simp only [B0d,i2,b2,d2,w1,n1,n2,D7g,D3B]
 by_cases g1:0≤x.1∧x.1≤7
 ·by_cases g2:0≤x.2.2.1∧x.2.2.1≤(x.2.1.length:Int)
  ·by_cases g3:(x.2.1.length:Int)+(x.2.2.2.2.length:Int) > 300
   ·rw [decide_eq_true g1,decide_eq_true g2,decide_eq_true g3]
    exact ⟨fun h=>absurd h (by simp),fun h=>absurd h.2.2.1 (by omega)⟩
   ·rw [decide_eq_true g1,decide_eq_true g2,decide_eq_false g3]
    simp only [Bool.not_true,cond_false,T2]
    cases hp:B0N x.2.1 x.2.1.length with
    | none=>exact ⟨fun h=>absurd h (by simp),fun h=>absurd h.2.2.2 (by simp)⟩
    | some s =>
     simp only [cond_true]
     cases hP:A81 qP s.1 x.2.2.2.1 with
     | false =>
      refine ⟨fun h=>absurd h (by simp),fun h=>?_⟩
      have e:=Option.some.inj h.2.2.2
      rw [e,(D0n _ _).2 rfl] at hP;cases hP
     | true =>
      simp only [cond_true]
      rw [D5q]
      have e1:=(D0n _ _).1 hP
      exact ⟨fun h=>⟨g1,g2,by omega,by rw [show s=(s.1,s.2) from rfl,e1,h]⟩,fun h=>by rw [Option.some.inj h.2.2.2]⟩
  ·rw [decide_eq_true g1,decide_eq_false g2]
   exact ⟨fun h=>absurd h (by simp),fun h=>absurd h.2.1 g2⟩
 ·rw [decide_eq_false g1]
  exact ⟨fun h=>absurd h (by simp),fun h=>absurd h.1 g1⟩
theorem C97 {x:W2} (h:B9b x):B0d x.1 x.2.1 x.2.2.1 x.2.2.2.1 x.2.2.2.2=true↔D3B x:=D3l h.1 h.2.1.1 h.2.2.1
noncomputable def A7S (x:W2) (keep:Int):Nat:=(x.2.2.1+min (max keep 0) ((x.2.1.length:Int) - x.2.2.1)).toNat
noncomputable def A9E (x:W2) (keep:Int):W2:=(x.1,x.2.1.take (A7S x keep),((A7S x keep:Nat):Int),(T2 (x.2.1.take (A7S x keep))).1,(T2 (x.2.1.take (A7S x keep))).2.1)
theorem C1b {l:List L9} (h:A8a l) (n:Nat):A8a (l.take n):=⟨by rw [List.length_take];have:=h.1;omega,fun x hx=>h.2 x (List.mem_of_mem_take hx)⟩
theorem C99 {x:W2} (hs:0≤x.2.2.1∧x.2.2.1≤(x.2.1.length:Int)) (keep:Int):A7S x keep≤x.2.1.length:=by
 simp only [A7S];omega
theorem D6r {x:W2} (h1:A8a x.2.1) (hs:0≤x.2.2.1∧x.2.2.1≤(x.2.1.length:Int)) (keep:Int) :
  B1N keep x.1 x.2.1 x.2.2.1 x.2.2.2.1 x.2.2.2.2=true∧C5s keep x.1 x.2.1 x.2.2.1 x.2.2.2.1 x.2.2.2.2=A9E x keep:=by
 have hl:=h1.1
 have w0:=A6J (n:=(x.2.1.length:Int) - x.2.2.1) (by omega) (by omega)
 have w1:=A6J (n:=x.2.2.1+((x.2.1.length:Int) - x.2.2.1)) (by omega) (by omega)
 have w2:=A6J (n:=x.2.2.1+(0:Int)) (by omega) (by omega)
 have dz:∀ l:List L9,l.drop (0:Int).toNat=l:=fun l=>rfl
 have rep:∀ n,N0 (x.2.1.take n)=true∧R9 (x.2.1.take n)=T2 (x.2.1.take n):=fun n=>C5d _ (by rw [List.length_take];omega) (A9a (C1b h1 n))
 have d1:decide ((0:Int)≤0∧0≤x.2.2.1+((x.2.1.length:Int) - x.2.2.1)∧x.2.2.1+((x.2.1.length:Int) - x.2.2.1)≤(x.2.1.length:Int))=true:=decide_eq_true (by omega)
 have d2:decide ((0:Int)≤0∧0≤x.2.2.1+0∧x.2.2.1+0≤(x.2.1.length:Int))=true:=decide_eq_true (by omega)
 have hres:∀ n:Nat,n=A7S x keep→(x.1,x.2.1.take n,(((x.2.1.take n).length:Nat):Int),(T2 (x.2.1.take n)).1,(T2 (x.2.1.take n)).2.1)=A9E x keep:=fun n hn=>by
  subst hn
  have:=C99 hs keep
  simp only [A9E,List.length_take,Nat.min_eq_left this]
 simp only [B1N,C5s,B6Y,B4g,w0,w1,w2,dz,(rep _).1,(rep _).2,Bool.and_true]
 by_cases hk:keep<0
 ·rw [decide_eq_true hk,decide_eq_false (show ¬ (0:Int) > (x.2.1.length:Int) - x.2.2.1 by omega)]
  exact ⟨d2,hres _ (by simp only [A7S];omega)⟩
 ·rw [decide_eq_false hk]
  by_cases hg:keep > (x.2.1.length:Int) - x.2.2.1
  ·rw [decide_eq_true hg]
   exact ⟨d1,hres _ (by simp only [A7S];omega)⟩
  ·rw [decide_eq_false hg]
   have w3:=A6J (n:=x.2.2.1+keep) (by omega) (by omega)
   simp only [w3,cond_false]
   exact ⟨decide_eq_true (by omega),hres _ (by simp only [A7S];omega)⟩
theorem D6S {x:W2} (h1:A8a x.2.1) (hs:0≤x.2.2.1∧x.2.2.1≤(x.2.1.length:Int)) (keep:Int) :
  A7Z keep x.1 x.2.2.1 x.2.1 x.2.2.2.1 x.2.2.2.2=true∧B5d keep x.1 x.2.2.1 x.2.1 x.2.2.2.1 x.2.2.2.2=(x.1,A7S x keep,((A7S x keep:Nat):Int),(A9E x keep).2.2.2.1,(A9E x keep).2.2.2.2,x.2.1,x.2.2.2.1,x.2.2.2.2):=by
 have hl:=h1.1
 have w0:=A6J (n:=(x.2.1.length:Int) - x.2.2.1) (by omega) (by omega)
 have hn:x.2.2.1+(if (x.2.1.length:Int) - x.2.2.1<(if (0:Int) > keep then (0:Int) else keep) then (x.2.1.length:Int) - x.2.2.1 else (if (0:Int) > keep then (0:Int) else keep))=((A7S x keep:Nat):Int):=by
  simp only [A7S]
  split<;>split<;>omega
 have hle:=C99 hs keep
 have w1:=A6J (n:=((A7S x keep:Nat):Int)) (by omega) (by omega)
 have dz:∀ l:List L9,l.drop (0:Int).toNat=l:=fun l=>rfl
 have ht:=C1b h1 (A7S x keep)
 obtain ⟨r1,r2⟩:=B83 _ ht.1 (A9a ht)
 have e1:decide ((0:Int)≤0∧(0:Int)≤((A7S x keep:Nat):Int)∧((A7S x keep:Nat):Int)≤(x.2.1.length:Int))=true:=decide_eq_true (by omega)
 simp only [A7Z,B5d,B4G,w0,hn,w1,Int.toNat_natCast,dz,r1,r2,e1,Bool.and_self]
 exact ⟨trivial,rfl⟩
theorem D2W {l:List L9} (h:A8a l):A8a (T2 l).2.1:=by
 have h1:=h.1
 simp only [T2]
 cases hp:B0N l l.length with
 | none=>exact ⟨by simp,fun x hx=>by simp at hx⟩
 | some s =>
  have I:=D1w (A9a h) l.length (Nat.le_refl _) s.1 s.2 (by rw [hp])
  have h2:=I.hlen
  exact ⟨by simp only;omega,fun x hx=>(I.hmem x hx).1⟩
theorem D5r {x:W2} (h:A8a x.2.1) (keep:Int):shW (A9E x keep):=by
 have ht:=C1b h (A7S x keep)
 obtain ⟨r1,r2,r3⟩:=C6n ht
 exact ⟨ht,by simp only [A9E];omega,D2W ht⟩
theorem D4w {α:Type} (w:α→Nat):∀ (l:List α) (k:Nat),W7 w (l.eraseIdx k)≤W7 w l:=by
 intro l
 induction l with
 | nil=>intro k;simp [W7]
 | cons x l ih =>
  intro k
  cases k with
  | zero=>simp [W7]
  | succ k=>have:=ih k;simp only [W7,List.eraseIdx_cons_succ,List.map_cons,List.sum_cons] at this ⊢;omega
theorem D7v {kn:Bool} {m m':List W8} {held h':List L9} {r:L9} (h:B8v kn m held r=some (m', h')):W7 V9 h'≤W7 V9 held+V9 r:=by
 have he:=D4w V9 held (held.findIdx (N8 r.2.1))
 have hs:=C6u V9 held ((1:Int),(r.2.1,r.2.2))
 have hr:V9 ((1:Int),(r.2.1,r.2.2))=V9 r:=rfl
 have fin:∀ {a b:List W8} {c d:List L9},some (a,c)=some (b,d)→c=d:=fun h=>by simp only [Option.some.injEq,Prod.mk.injEq] at h;exact h.2
 revert h
 simp only [B8v]
 generalize held.eraseIdx (held.findIdx (N8 r.2.1))=e at *
 generalize held++[((1:Int),(r.2.1,r.2.2))]=g at *
 cases B1O r.1 r.2.1 r.2.2
 ·intro h;cases h
 cases (r.1==1)
 ·cases held.any (N8 r.2.1)
  ·cases (r.1==3)
   ·intro h;cases h
   cases kn
   ·intro h;rw [← fin h];omega
   ·intro h;cases h
  ·cases (r.1==2)
   ·cases decide ((m.length:Int)≤60)
    ·intro h;cases h
    ·intro h;rw [← fin h];omega
   ·cases decide (((((held.getD (held.findIdx (N8 r.2.1)) I5).2.2.foldl C2s m).length:Nat):Int)≤60)
    ·intro h;cases h
    ·intro h;rw [← fin h];omega
 ·cases kn
  ·cases B2P held r.2.2
   ·cases B9a m r.2.2
    ·intro h;cases h
    ·intro h;rw [← fin h];omega
   ·intro h;cases h
  ·intro h;cases h
theorem D9e (l:List L9):∀ i,i≤l.length→∀ m held,B0N l i=some (m,held)→W7 V9 held≤W7 V9 (l.take i):=by
 intro i
 induction i with
 | zero=>intro _ m held h;simp only [B0N,Option.some.injEq,Prod.mk.injEq] at h;rw [← h.2];simp [W7]
 | succ i ih =>
  intro hi m held h
  simp only [B0N] at h
  cases hp:B0N l i with
  | none=>rw [hp] at h;simp at h
  | some s =>
   rw [hp] at h
   simp only [Option.bind_some] at h
   have h1:=ih (by omega) s.1 s.2 (by rw [hp])
   have h2:=D7v h
   rw [M4 (show i<l.length by omega) I5,C6u]
   omega
theorem D6q (l:List L9):W7 V9 (T2 l).2.1≤W7 V9 l:=by
 simp only [T2]
 cases hp:B0N l l.length with
 | none=>simp [W7]
 | some s =>
  have:=D9e l l.length (Nat.le_refl _) s.1 s.2 (by rw [hp])
  rw [List.take_length] at this
  exact this
theorem D6L {x:W2} (keep:Int):W7 V9 (A9E x keep).2.1≤W7 V9 x.2.1∧W7 V9 (A9E x keep).2.2.2.2≤W7 V9 x.2.1:=by
 have h1:=B6y V9 x.2.1 (A7S x keep)
 have h2:=D6q (x.2.1.take (A7S x keep))
 simp only [A9E]
 omega
theorem D6P {l:List W8} (h:l.length≤1048576):B1J l l=true∧B4h l l=true:=by
 refine ⟨decide_eq_true h,?_⟩
 have e:A4H (A0m l l) (l.length - (0:Int).toNat) (0:Int).toNat=true:=C5D _ _ (fun j _ _=>by simp [A0m,C2n])
 simp only [B4h,e,cond_true]
 simp
theorem D52 {x:W2} (h:shW x):A70 x.1 x.2.1 x.2.2.1 x.2.2.2.1 x.2.2.2.2 x.1 x.2.1 x.2.2.1 x.2.2.2.1 x.2.2.2.2=true∧B6d x.1 x.2.1 x.2.2.1 x.2.2.2.1 x.2.2.2.2 x.1 x.2.1 x.2.2.1 x.2.2.2.1 x.2.2.2.2=true:=by
 obtain ⟨o1,o3,o4⟩:=h
 have e0:∀ x:Int,(x != x)=false:=fun x=>by simp
 obtain ⟨qE1,toE1⟩:=C7O o1
 obtain ⟨qE3,toE3⟩:=D6P o3
 obtain ⟨qE4,toE4⟩:=C7O o4
 simp only [A70,B6d,e0,qE1,toE1,qE3,toE3,qE4,toE4,cond_false,Bool.not_true,Bool.and_self]
 exact ⟨trivial,trivial⟩
theorem D4N {l:Lq2} (h:A2N tq4 l=true):D3I l:=D4O h
theorem C77 {l:List L9} (h:A2N tq3 l=true):C4k l:=by
 have h:(decide (l.length≤maxLen)&&l.all fun x=>((Lit.int .i64 x.1).wf&&((Lit.int .i64 x.2.1).wf&&A2N tq4 x.2.2)))=true:=h
 have hm:maxLen=9223372036854775807:=by decide
 rw [hm] at h
 simp only [Bool.and_eq_true,decide_eq_true_eq,List.all_eq_true] at h
 exact ⟨h.1,fun x hx=>D4N (h.2 x hx).2.2⟩
theorem D2d {l:List W8} (h:A2N tq6 l=true):C4j l:=by
 have h:(decide (l.length≤maxLen)&&l.all fun o=>(decide (o.1.size≤maxLen)&&decide (o.2.size≤maxLen)))=true:=h
 have hm:maxLen=9223372036854775807:=by decide
 rw [hm] at h
 simp only [Bool.and_eq_true,decide_eq_true_eq,List.all_eq_true] at h
 simp only [C4j,C4l,decide_eq_true_eq]
 exact ⟨h.1,fun o ho=>h.2 o ho⟩
theorem C6x {x:W2} (h:A2N tq7 x=true):C4m x:=by
 have h:((Lit.int .i64 x.1).wf&&(A2N tq3 x.2.1&&((Lit.int .i64 x.2.2.1).wf&&(A2N tq6 x.2.2.2.1&&A2N tq3 x.2.2.2.2))))=true:=h
 simp only [Bool.and_eq_true] at h
 exact ⟨C77 h.2.1,D2d h.2.2.2.1,C77 h.2.2.2.2⟩
theorem C0S (x:W2) (keep:Int) (hb:C4m x):R8 x.1 x.2.1 x.2.2.1 x.2.2.2.1 x.2.2.2.2 keep=true∧W5 x.1 x.2.1 x.2.2.1 x.2.2.2.1 x.2.2.2.2 keep=true:=by
 obtain ⟨z1,z2⟩:=D4y hb (b:=1048576) (by omega) (by omega)
 by_cases hd:B1g x.1 x.2.1 x.2.2.1 x.2.2.2.1 x.2.2.2.2 1048576<0
 ·simp only [R8,W5,z1,decide_eq_true hd,cond_true]
  exact ⟨rfl,trivial⟩
 ·obtain ⟨_,ho⟩:=z2 (by omega)
  have hw:=D5s hb (by omega)
  obtain ⟨t1,t2⟩:=D6u ho
  obtain ⟨e1,e2⟩:=D3Y ho
  obtain ⟨c1,c2,c3⟩:=D1V ho
  obtain ⟨i1,i2⟩:=D55 ho.1 ho.2.1.1 ho.2.2
  obtain ⟨s1,s2⟩:=D68 ho
  obtain ⟨m1,m2,m3,m4⟩:=C5r (D6s ho) hw x.1 x.2.2.1 x.1 x.2.2.1
  have hs:A7K x.1 x.2.1 x.2.2.1 x.2.2.2.1 x.2.2.2.2 keep=true∧A7J x.1 x.2.1 x.2.2.1 x.2.2.2.1 x.2.2.2.2 keep=true∧∃ y:W2,B4n x.1 x.2.1 x.2.2.1 x.2.2.2.1 x.2.2.2.2 keep=(y.1,y.2.1,y.2.2.1,y.2.2.2.1,y.2.2.2.2)∧B4b x.1 x.2.1 x.2.2.1 x.2.2.2.1 x.2.2.2.2 keep=(y.1,y.2.2.1,y.2.1,y.2.2.2.1,y.2.2.2.2)∧shW y∧W7 V9 y.2.1≤3145728∧W7 V9 y.2.2.2.2≤3145728:=by
   by_cases hok:B0d x.1 x.2.1 x.2.2.1 x.2.2.2.1 x.2.2.2.2=true
   ·have R:=(C97 ho).1 hok
    obtain ⟨a1,a2⟩:=D6r ho.1 R.2.1 keep
    obtain ⟨b1,b2⟩:=D6S ho.1 R.2.1 keep
    have W:=D5r ho.1 keep
    have hcw:=D6L (x:=x) keep
    obtain ⟨j1,j2⟩:=D55 W.1 W.2.1 W.2.2
    have hj:(x.2.1.take (A7S x keep))=(A9E x keep).2.1:=rfl
    have hj2:((A7S x keep:Nat):Int)=(A9E x keep).2.2.1:=rfl
    have hj1:x.1=(A9E x keep).1:=rfl
    refine ⟨?_,?_,A9E x keep,?_,?_,W,by omega,by omega⟩
    ·simp only [A7K,s1,s2,c1,c3,hok,a1,cond_true,Bool.and_self]
    ·simp only [A7J,B0k,i1,i2,c2,hok,b1,b2,hj,hj2,cond_true,Bool.and_self,Bool.true_and]
     exact j1
    ·simp only [B4n,B59,s2,c3,hok,a2,cond_true]
    ·simp only [B4b,B0k,B6b,i2,hok,b2,hj,hj2,cond_true]
     rw [show A8y x.1 (A9E x keep).2.1 (A9E x keep).2.2.1 (A9E x keep).2.2.2.1 (A9E x keep).2.2.2.2=_ from j2]
   ·have hok:B0d x.1 x.2.1 x.2.2.1 x.2.2.2.1 x.2.2.2.2=false:=by simpa using hok
    refine ⟨?_,?_,x,?_,?_,D6s ho,hw⟩
    ·simp only [A7K,s1,c1,c3,hok,cond_false,Bool.and_self]
    ·simp only [A7J,i1,i2,c2,hok,cond_false,Bool.and_self]
    ·simp only [B4n,s2,c3,hok,cond_false]
    ·simp only [B4b,B6c,i2,hok,cond_false]
  obtain ⟨q1,q2,y,r1,r2,hy,hyw⟩:=hs
  obtain ⟨f1,f2⟩:=D52 hy
  obtain ⟨n1,n2,n3,n4⟩:=C5r hy hyw y.1 y.2.2.1 y.1 y.2.2.1
  have d1:decide ((U4 x.1 x.2.2.1 1 x.2.1 x.2.2.2.1 x.2.2.2.2).1<0)=false:=decide_eq_false (by omega)
  have d2:decide ((U4 y.1 y.2.2.1 1 y.2.1 y.2.2.2.1 y.2.2.2.2).1<0)=false:=decide_eq_false (by omega)
  have nn:∀ x:Int,(x != x)=false:=fun x=>by simp
  simp only [R8,W5,A75,Q1,A76,A77,A78,V6,A79,z1,decide_eq_false hd,t1,t2,e1,e2,q1,q2,r1,r2,f1,f2,m1,n1,n3,n4,d1,d2,nn,cond_false,Bool.not_true,Bool.and_self]
  exact ⟨trivial,trivial⟩
theorem B6B (a0:Int) (a1:List L9) (a2:Int) (a3:List W8) (a4:List L9) (a5:Int) (h:A2N tq7 (a0,(a1,(a2,(a3,a4))))=true) (_:A2N (.int .i64) a5=true):U5 ((a0,a1,a2,a3,a4,()),a5,())=true:=(C0S (a0,a1,a2,a3,a4) a5 (C6x h)).1
theorem B7b (a0:Int) (a1:List L9) (a2:Int) (a3:List W8) (a4:List L9) (a5:Int) (h:A2N tq7 (a0,(a1,(a2,(a3,a4))))=true) (_:A2N (.int .i64) a5=true):W5 a0 a1 a2 a3 a4 a5=true:=(C0S (a0,a1,a2,a3,a4) a5 (C6x h)).2

end Go.Proofs.Ytgglehejlddghaa.Eng
