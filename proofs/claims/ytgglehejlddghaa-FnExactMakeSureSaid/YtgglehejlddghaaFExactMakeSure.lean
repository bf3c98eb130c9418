/- What the functions that FnExactMakeSure reaches compute: further. -/
import Derived.Test.YtgglehejlddghaaFExactMakeSureC
namespace Go.Proofs.Ytgglehejlddghaa.Eng
open Go Go.RowKit
set_option linter.unusedSimpArgs false
set_option linter.unusedVariables false
set_option maxRecDepth 10000
abbrev tq7:Ty:=.pair (.int .i64) (.pair (.sl (.pair (.int .i64) (.pair (.int .i64) (.sl (.pair (.int .i64) (.pair .str .str)))))) (.pair (.int .i64) (.pair (.sl (.pair .str .str)) (.sl (.pair (.int .i64) (.pair (.int .i64) (.sl (.pair (.int .i64) (.pair .str .str)))))))))
abbrev A8M:List PSh:=[.agg [(.int .i64),tq3,(.int .i64),tq6,tq3]]
noncomputable def A8h (a0:Int) (a1:Lq1) (a2:Int) (a3:LBBe) (a4:Lq1):=let z1:=B2v a0 a1 a2 a3 a4;C1X (z1.1) (z1.2.2.1) (z1.2.1) (z1.2.2.2.1) (z1.2.2.2.2)
noncomputable def U3 (a0:Int) (a1:Lq1) (a2:Int) (a3:LBBe) (a4:Lq1):=let z1:=B2v a0 a1 a2 a3 a4;C1K (z1.1) (z1.2.2.1) (z1.2.1) (z1.2.2.2.1) (z1.2.2.2.2)
noncomputable def A8i (a0:Int) (a1:Lq1) (a2:Int) (a3:LBBe) (a4:Lq1):=let z1:=U3 a0 a1 a2 a3 a4;let z2:=A8h a0 a1 a2 a3 a4;C0B (z1.1) (z1.2.2.1) (z1.2.1) (z1.2.2.2.1) (z1.2.2.2.2) (z2.1) (z2.2.1) (z2.2.2.1) (z2.2.2.2.1) (z2.2.2.2.2)
noncomputable def A8j (a0:Int) (a1:Lq1) (a2:Int) (a3:LBBe) (a4:Lq1):=let z1:=B2v a0 a1 a2 a3 a4;C0B (z1.1) (z1.2.2.1) (z1.2.1) (z1.2.2.2.1) (z1.2.2.2.2) (z1.1) (z1.2.2.1) (z1.2.1) (z1.2.2.2.1) (z1.2.2.2.2)
noncomputable def A8k (a0:Int) (a1:Lq1) (a2:Int) (a3:LBBe) (a4:Lq1):=let z1:=B2v a0 a1 a2 a3 a4;T9 (z1.1) (z1.2.1) (1:Int) (z1.2.2.1) (z1.2.2.2.1) (z1.2.2.2.2)
noncomputable def Z7 (a0:Int) (a1:Lq1) (a2:Int) (a3:LBBe) (a4:Lq1):=let z1:=U3 a0 a1 a2 a3 a4;T9 (z1.1) (z1.2.1) (1:Int) (z1.2.2.1) (z1.2.2.2.1) (z1.2.2.2.2)
noncomputable def A8l (a0:Int) (a1:Lq1) (a2:Int) (a3:LBBe) (a4:Lq1):=let z1:=Z7 a0 a1 a2 a3 a4;let z2:=U3 a0 a1 a2 a3 a4;B8G (z2.1) (z1.2.1) (z2.2.1) (z1.2.2.1) (z1.2.2.2) (1:Int)
noncomputable def A0l (a0:Int) (a1:Lq1) (a2:Int) (a3:LBBe) (a4:Lq1):Bool:=let z1:=A8l a0 a1 a2 a3 a4;let z2:=!(A8i a0 a1 a2 a3 a4);let z3:=z1 != ((Z7 a0 a1 a2 a3 a4).1);let z4:=decide (z1<(0:Int));(cond (decide ((B0Z a0 a1 a2 a3 a4 (1048576:Int))<(0:Int))) true (cond z2 false (cond (!(A8j a0 a1 a2 a3 a4)) false (cond (decide (((A8k a0 a1 a2 a3 a4).1)<(0:Int))) false (cond z2 false (cond z4 false (cond z3 false (cond z2 false (cond z4 false (cond z3 false true))))))))))
noncomputable abbrev I4 (r:Bool):AV×List AObj:=((.t true .bool r),[])
noncomputable abbrev B5J:H7 A8M→AV×List AObj:=fun d=>I4 (A0l d.1.1 d.1.2.1 d.1.2.2.1 d.1.2.2.2.1 d.1.2.2.2.2.1)
noncomputable def V5 (a0:Int) (a1:Lq1) (a2:Int) (a3:LBBe) (a4:Lq1):Bool:=let z2:=B2v a0 a1 a2 a3 a4;let z3:=U3 a0 a1 a2 a3 a4;let z4:=Z7 a0 a1 a2 a3 a4;let z5:=A8h a0 a1 a2 a3 a4;let z1:=A8X (z3.1) (z3.2.2.1) (z3.2.1) (z3.2.2.2.1) (z3.2.2.2.2) (z5.1) (z5.2.1) (z5.2.2.1) (z5.2.2.2.1) (z5.2.2.2.2);let z6:=B1r a0 a1 a2 a3 a4;let z7:=!(A8i a0 a1 a2 a3 a4);let z8:=A8Z (z3.1) (z4.2.1) (z3.2.1) (z4.2.2.1) (z4.2.2.2) (1:Int);let z9:=A99 (z2.1) (z2.2.2.1) (z2.2.1) (z2.2.2.2.1) (z2.2.2.2.2);let z10:=A8l a0 a1 a2 a3 a4;(B1q a0 a1 a2 a3 a4 (1048576:Int))&&(cond (decide ((B0Z a0 a1 a2 a3 a4 (1048576:Int))<(0:Int))) true (z6&&((B0e (z2.1) (z2.2.2.1) (z2.2.1) (z2.2.2.2.1) (z2.2.2.2.2))&&(z6&&(z9&&(z1&&(cond z7 true (z6&&((A8X (z2.1) (z2.2.2.1) (z2.2.1) (z2.2.2.2.1) (z2.2.2.2.2) (z2.1) (z2.2.2.1) (z2.2.1) (z2.2.2.2.1) (z2.2.2.2.2))&&(cond (!(A8j a0 a1 a2 a3 a4)) true ((A0b (z2.1) (z2.2.1) (1:Int) (z2.2.2.1) (z2.2.2.2.1) (z2.2.2.2.2))&&(cond (decide (((A8k a0 a1 a2 a3 a4).1)<(0:Int))) true (z1&&(cond z7 true ((A0b (z3.1) (z3.2.1) (1:Int) (z3.2.2.1) (z3.2.2.2.1) (z3.2.2.2.2))&&(z8&&(cond (decide (z10<(0:Int))) true (cond (z10 != (z4.1)) true (z6&&(z9&&(z1&&(cond z7 true z8))))))))))))))))))))))
noncomputable abbrev X5:H7 A8M→Bool:=fun d=>V5 d.1.1 d.1.2.1 d.1.2.2.1 d.1.2.2.2.1 d.1.2.2.2.2.1
theorem C09:A7B true G93 aLn Try.f8 A8M X5 B5J:=by
 rintro ⟨⟨a0,⟨a1,⟨a2,⟨a3,⟨a4,_⟩⟩⟩⟩⟩,_⟩ hp
 change V5 a0 a1 a2 a3 a4=true at hp
 unfold V5 at hp
 refine Eq.trans (b:=(let z2:=B2v a0 a1 a2 a3 a4;let z3:=U3 a0 a1 a2 a3 a4;let z4:=Z7 a0 a1 a2 a3 a4;let z5:=A8h a0 a1 a2 a3 a4;let z1:=A8X (z3.1) (z3.2.2.1) (z3.2.1) (z3.2.2.2.1) (z3.2.2.2.2) (z5.1) (z5.2.1) (z5.2.2.1) (z5.2.2.2.1) (z5.2.2.2.2);let z6:=A8l a0 a1 a2 a3 a4;let z7:=B1r a0 a1 a2 a3 a4;let z8:=!(A8i a0 a1 a2 a3 a4);let z9:=A8Z (z3.1) (z4.2.1) (z3.2.1) (z4.2.2.1) (z4.2.2.2) (1:Int);let z10:=A99 (z2.1) (z2.2.2.1) (z2.2.1) (z2.2.2.2.1) (z2.2.2.2.2);let z11:=decide (z6<(0:Int));cond (B1q a0 a1 a2 a3 a4 (1048576:Int)) (cond (decide ((B0Z a0 a1 a2 a3 a4 (1048576:Int))<(0:Int))) (some (I4 true)) (cond z7 (cond (B0e (z2.1) (z2.2.2.1) (z2.2.1) (z2.2.2.2.1) (z2.2.2.2.2)) (cond z7 (cond z10 (cond z1 (cond z8 (some (I4 false)) (cond z7 (cond (A8X (z2.1) (z2.2.2.1) (z2.2.1) (z2.2.2.2.1) (z2.2.2.2.2) (z2.1) (z2.2.2.1) (z2.2.1) (z2.2.2.2.1) (z2.2.2.2.2)) (cond (!(A8j a0 a1 a2 a3 a4)) (some (I4 false)) (cond (A0b (z2.1) (z2.2.1) (1:Int) (z2.2.2.1) (z2.2.2.2.1) (z2.2.2.2.2)) (cond (decide (((A8k a0 a1 a2 a3 a4).1)<(0:Int))) (some (I4 false)) (cond z1 (cond z8 (some (I4 false)) (cond (A0b (z3.1) (z3.2.1) (1:Int) (z3.2.2.1) (z3.2.2.2.1) (z3.2.2.2.2)) (cond z9 (cond z11 (some (I4 false)) (cond (z6 != (z4.1)) (some (I4 false)) (cond z7 (cond z10 (cond z1 (cond z8 (some (I4 false)) (cond z9 (cond z11 (some (I4 false)) (cond (z6 != (z4.1)) (some (I4 false)) (some (I4 true)))) none)) none) none) none))) none) none)) none)) none)) none) none)) none) none) none) none) none)) none)) (by kernel_rfl) ?_
 exact (A7C hp fun hp=>(M2 I4 hp (fun hp=>rfl) (fun hp=>(A7C hp fun hp=>(A7C hp fun hp=>(A7C hp fun hp=>(A7C hp fun hp=>(A7C hp fun hp=>(M2 I4 hp (fun hp=>rfl) (fun hp=>(A7C hp fun hp=>(A7C hp fun hp=>(M2 I4 hp (fun hp=>rfl) (fun hp=>(A7C hp fun hp=>(M2 I4 hp (fun hp=>rfl) (fun hp=>(A7C hp fun hp=>(M2 I4 hp (fun hp=>rfl) (fun hp=>(A7C hp fun hp=>(A7C hp fun hp=>(M2 I4 hp (fun hp=>rfl) (fun hp=>(M2 I4 hp (fun hp=>rfl) (fun hp=>(A7C hp fun hp=>(A7C hp fun hp=>(A7C hp fun hp=>(M2 I4 hp (fun hp=>rfl) (fun hp=>(A7E hp fun _h=>(P9 I4 (fun _h=>rfl) (fun _h=>(P9 I4 (fun _h=>rfl) (fun _h=>rfl))))))))))))))))))))))))))))))))))))
theorem C2M:aPP 8 (A21 A8M X5 B5J):=pcD true G93 hlz C09
noncomputable abbrev M9:=(Int)×(Int)×Lq2
noncomputable abbrev B4e:=(Int)×(List M9)×(Int)×LBBe×List M9
noncomputable def D24 (l:Lq2):Prop:=B5u l=true
noncomputable def D41 (x:M9):Prop:=D24 x.2.2
noncomputable def C3R (l:List M9):Prop:=l.length≤9223372036854775807∧∀ x∈l,D41 x
noncomputable abbrev A0n:=ByteArray×ByteArray
noncomputable def C3Q (l:List A0n):Prop:=l.length≤9223372036854775807∧∀ p∈l,C3S p.1=true∧C3S p.2=true
noncomputable def C3T (x:B4e):Prop:=C3R x.2.1∧C3Q x.2.2.2.1∧C3R x.2.2.2.2
noncomputable def D3W (l:Lq2):Prop:=A0h l=true
noncomputable def D3X (x:M9):Prop:=D3W x.2.2
noncomputable def B4o (l:List M9):Prop:=l.length≤1048576∧∀ x∈l,D3X x
noncomputable def C7k (l:List A0n):Prop:=l.length≤1048576∧∀ p∈l,okS p.1=true∧okS p.2=true
noncomputable def B8J (x:B4e):Prop:=B4o x.2.1∧C7k x.2.2.2.1∧B4o x.2.2.2.2
noncomputable def I5:M9:=((0:Int),((0:Int),([]:Lq2)))
theorem Q1 {α:Type} {l:List α} {i:Nat} (h:i<l.length) (d:α):l.getD i d∈l:=by
 simp [List.getD_eq_getElem?_getD,h]
theorem M8 {α:Type} {l:List α} {i:Nat} (hi:i<l.length) (d:α):l.take (i+1)=l.take i++[l.getD i d]:=by
 rw [List.take_add_one,List.getElem?_eq_getElem hi];simp [List.getD_eq_getElem?_getD,hi]
theorem D6p {V A α:Type} {ss:V→V ⊕ A} {fa:A} (pk:Int→Nat→V) (l:List α) (d:α) (sz:α→Int→Int) (Q:α→Prop) (bad:A) (good:Int→A) (M:Int) (hn:l.length<4611686018427387904) {b:Int} (h0:0≤b) (h1:b≤M)
  (hstep:∀ i c,i<l.length→0≤c→c≤M→ss (pk c i)=cond (decide (sz (l.getD i d) c<0)) (.inr bad) (.inl (pk (sz (l.getD i d) c) (i+1))))
  (hQ:∀ x∈l,∀ c,0≤c→c≤M→0≤sz x c→sz x c≤c∧Q x) (hlast:∀ c,ss (pk c l.length)=.inr (good c)) :
  itX ss fa (pk b 0)=bad∨∃ c,itX ss fa (pk b 0)=good c∧0≤c∧c≤b∧∀ x∈l,Q x:=by
 rw [A6s]
 have key:∀ k N i c,i+k=l.length→k<N→0≤c→c≤b→(∀ x∈l.take i,Q x)→itN ss fa N (pk c i)=bad∨∃ c', itN ss fa N (pk c i)=good c'∧0≤c'∧c'≤b∧∀ x∈l,Q x:=by
  intro k
  induction k with
  | zero =>
   intro N i c hi hN c0 c1 hq
   obtain ⟨N,rfl⟩:∃ M,N=M+1:=⟨N - 1,by omega⟩
   obtain rfl:i=l.length:=by omega
   rw [A6P,hlast c]
   rw [List.take_length] at hq
   exact .inr ⟨c,rfl,c0,c1,hq⟩
  | succ k ih =>
   intro N i c hi hN c0 c1 hq
   obtain ⟨N,rfl⟩:∃ M,N=M+1:=⟨N - 1,by omega⟩
   have hlt:i<l.length:=by omega
   rw [A6P,hstep i c hlt c0 (by omega)]
   by_cases hneg:sz (l.getD i d) c<0
   ·rw [decide_eq_true hneg];exact .inl rfl
   ·rw [decide_eq_false hneg]
    obtain ⟨q1,q2⟩:=hQ _ (Q1 hlt d) c c0 (by omega) (by omega)
    refine ih N (i+1) _ (by omega) (by omega) (by omega) (by omega) (fun x hx=>?_)
    rw [M8 hlt d] at hx
    rcases List.mem_append.1 hx with hx | hx
    ·exact hq x hx
    ·simp only [List.mem_singleton] at hx;rw [hx];exact q2
 exact key l.length _ 0 b (by omega) hn h0 (Int.le_refl _) (by simp)
theorem C9L (k:Int) (s v:ByteArray) (b:Int) (h0:0≤b) (h1:b≤1048576) (hs:C3S s=true) (hv:C3S v=true) (h:0≤C9F k s v b):C9F k s v b≤b∧okS s=true∧okS v=true:=by
 simp only [C3S,decide_eq_true_eq] at hs hv
 have e1:=A6J (n:=b - (s.size:Int)) (by omega) (by omega)
 simp only [C9F,e1] at h ⊢
 cases hd:decide (b - (s.size:Int)<0) with
 | true=>rw [hd] at h;simp at h
 | false =>
  rw [hd] at h
  have:=of_decide_eq_false hd
  have e2:=A6J (n:=b - (s.size:Int) - (v.size:Int)) (by omega) (by omega)
  simp only [cond_false,e2] at h ⊢
  cases hd2:decide (b - (s.size:Int) - (v.size:Int)<0) with
  | true=>rw [hd2] at h;simp at h
  | false =>
   have:=of_decide_eq_false hd2
   simp only [cond_false,okS,decide_eq_true_eq]
   omega
theorem D3R (l:Lq2) (b:Int) (h0:0≤b) (h1:b≤1048576) (hb:B5u l=true) (h:0≤B1o l b):B1o l b≤b∧A0h l=true:=by
 have hl:l.length≤9223372036854775807:=by simp only [B5u,Bool.and_eq_true,decide_eq_true_eq] at hb;exact hb.1
 have e1:=A6J (n:=b - (l.length:Int)) (by omega) (by omega)
 simp only [B1o,e1,Int.toNat_zero,Nat.sub_zero] at h ⊢
 cases hd:decide (b - (l.length:Int)<0) with
 | true=>rw [hd] at h;simp at h
 | false =>
  rw [hd] at h
  have:=of_decide_eq_false hd
  simp only [cond_false] at h ⊢
  cases hi:A7w (szN (V4 l) l.length 0 (b - (l.length:Int))) with
  | false=>rw [hi] at h;simp at h
  | true =>
   obtain ⟨r1,r2,r3⟩:=D1h (M:=1048576) (Q:=fun i=>okS (l.getD i dOp).2.1=true∧okS (l.getD i dOp).2.2=true) l.length 0 (b - (l.length:Int)) (fun j b' _ hj q0 q1 hf=>by
    obtain ⟨p1,p2⟩:=C9x hb j (by omega)
    obtain ⟨s1,s2,s3⟩:=C9L _ _ _ b' q0 q1 p1 p2 hf
    exact ⟨⟨s2,s3⟩,s1⟩) (by omega) (by omega) hi
   simp only [cond_true]
   exact ⟨by omega,D5A (by omega) (fun i hi=>r1 i (Nat.zero_le _) (by omega))⟩
theorem D6D {l:Lq2} {b:Int} (hb:D24 l) (h0:0≤b) (h1:b≤1048576):C06 l b=true∧(0≤B1o l b→B1o l b≤b∧D3W l):=⟨decide_eq_true ⟨h0,h1,D25 hb⟩,fun h=>D3R l b h0 h1 hb h⟩
theorem C8L {x:M9} {b:Int} (hx:D41 x) (h0:0≤b) (h1:b≤1048576):B7R x.1 x.2.1 x.2.2 b=true∧(0≤B6R x.1 x.2.1 x.2.2 b→B6R x.1 x.2.1 x.2.2 b≤b∧D3X x):=by
 obtain ⟨a1,a2⟩:=D6D hx h0 h1
 refine ⟨a1,fun h=>?_⟩
 simp only [B6R] at h ⊢
 by_cases hd:B1o x.2.2 b<0
 ·rw [decide_eq_true hd] at h;simp at h
 ·rw [decide_eq_false hd];exact a2 (by omega)
theorem D1i {l:List M9} {b:Int} (hb:C3R l) (h0:0≤b) (h1:b≤1048576):B0x l b=true∧(0≤Y3 l b→Y3 l b≤b∧B4o l):=by
 obtain ⟨h2,h3⟩:=hb
 have hdj:(((0:Int),((0:Int),([]:Lq2))):M9)=I5:=rfl
 have e1:=A6J (n:=b - (l.length:Int)) (by omega) (by omega)
 simp only [B0x,Y3,e1]
 by_cases hd:b - (l.length:Int)<0
 ·rw [decide_eq_true hd];simp
 rw [decide_eq_false hd]
 simp only [cond_false]
 have key:A72 l (b - (l.length:Int)) 0=(0,-1,0)∨∃ c,A72 l (b - (l.length:Int)) 0=(1,0,c)∧0≤c∧c≤b - (l.length:Int)∧∀ x∈l,D3X x:=by
  refine D6p (fun c i=>(l,c,(i:Int))) l I5 (fun x c=>B6R x.1 x.2.1 x.2.2 c) D3X (0,-1,0) (fun c=>(1,0,c)) b (by omega) (by omega) (by omega) (fun i c hi c0 c1=>?_) (fun x hx c c0 c1 h=>(C8L (h3 x hx) c0 (by omega)).2 h) (fun c=>?_)
  ·have q1:=(C8L (h3 _ (Q1 hi I5)) c0 (by omega)).1
   have e1:decide ((i:Int)<(l.length:Int))=true:=decide_eq_true (by omega)
   have e2:decide (0≤(i:Int)∧(i:Int)<(l.length:Int))=true:=decide_eq_true (by omega)
   simp only [B0D,hdj,e1,e2,cond_true,Int.toNat_natCast,q1,A7y i (by omega)]
  ·have e1:decide ((l.length:Int)<(l.length:Int))=false:=decide_eq_false (by omega)
   simp only [B0D,e1,cond_false]
 rcases key with h | ⟨c,h,c0,c1,hj⟩
 ·rw [h];exact ⟨rfl,fun h=>by simp at h⟩
 ·rw [h];exact ⟨rfl,fun _=>⟨by show c≤b;omega,by omega,hj⟩⟩
noncomputable def D1K:A0n:=(bE,bE)
theorem D2J (s v:ByteArray) (b:Int) (h0:0≤b) (h1:b≤1048576) (hs:C3S s=true) (hv:C3S v=true) (h:0≤C1T s v b):C1T s v b≤b∧okS s=true∧okS v=true:=by
 simp only [C3S,decide_eq_true_eq] at hs hv
 have e1:=A6J (n:=b - (s.size:Int)) (by omega) (by omega)
 simp only [C1T,e1] at h ⊢
 cases hd:decide (b - (s.size:Int)<0) with
 | true=>rw [hd] at h;simp at h
 | false =>
  rw [hd] at h
  have:=of_decide_eq_false hd
  have e2:=A6J (n:=b - (s.size:Int) - (v.size:Int)) (by omega) (by omega)
  simp only [cond_false,e2] at h ⊢
  cases hd2:decide (b - (s.size:Int) - (v.size:Int)<0) with
  | true=>rw [hd2] at h;simp at h
  | false =>
   have:=of_decide_eq_false hd2
   simp only [cond_false,okS,decide_eq_true_eq]
   omega
theorem D2I {l:List A0n} {b:Int} (hb:C3Q l) (h0:0≤b) (h1:b≤1048576):B3i l b=true∧(0≤A96 l b→A96 l b≤b∧C7k l):=by
 obtain ⟨hl,hp⟩:=hb
 refine ⟨decide_eq_true ⟨h0,h1,hl⟩,fun h=>?_⟩
 have e1:=A6J (n:=b - (l.length:Int)) (by omega) (by omega)
 simp only [A96,e1,Int.toNat_zero,Nat.sub_zero] at h ⊢
 cases hd:decide (b - (l.length:Int)<0) with
 | true=>rw [hd] at h;simp at h
 | false =>
  rw [hd] at h
  have:=of_decide_eq_false hd
  simp only [cond_false] at h ⊢
  cases hi:A7w (szN (Q7 l) l.length 0 (b - (l.length:Int))) with
  | false=>rw [hi] at h;simp at h
  | true =>
   obtain ⟨r1,r2,r3⟩:=D1h (M:=1048576) (Q:=fun i=>okS (l.getD i D1K).1=true∧okS (l.getD i D1K).2=true) l.length 0 (b - (l.length:Int)) (fun j b' _ hj q0 q1 hf=>by
    obtain ⟨p1,p2⟩:=hp _ (Q1 (show j<l.length by omega) D1K)
    obtain ⟨s1,s2,s3⟩:=D2J _ _ b' q0 q1 p1 p2 hf
    exact ⟨⟨s2,s3⟩,s1⟩) (by omega) (by omega) hi
   simp only [cond_true]
   refine ⟨by omega,by omega,fun p hm=>?_⟩
   obtain ⟨i,hi,e⟩:=List.getElem_of_mem hm
   have:=r1 i (Nat.zero_le _) (by omega)
   rw [List.getD_eq_getElem?_getD,List.getElem?_eq_getElem hi,Option.getD_some,e] at this
   exact this
theorem D3S {x:B4e} {b:Int} (hx:C3T x) (h0:0≤b) (h1:b≤1048576):B1q x.1 x.2.1 x.2.2.1 x.2.2.2.1 x.2.2.2.2 b=true∧(0≤B0Z x.1 x.2.1 x.2.2.1 x.2.2.2.1 x.2.2.2.2 b→B0Z x.1 x.2.1 x.2.2.1 x.2.2.2.1 x.2.2.2.2 b≤b∧B8J x):=by
 simp only [B1q,B0Z]
 obtain ⟨q0,a0⟩:=D1i (b:=b) (hx.1) (by omega) (by omega)
 generalize hc0:Y3 x.2.1 b=c0 at *
 by_cases hd0:c0<0
 ·simp only [q0,decide_eq_true hd0,cond_true,Bool.true_and]
  exact ⟨trivial,fun h=>by simp at h⟩
 obtain ⟨m0,k0⟩:=a0 (by omega)
 simp only [q0,decide_eq_false hd0,cond_false,Bool.true_and]
 obtain ⟨q1,a1⟩:=D2I (b:=c0) (hx.2.1) (by omega) (by omega)
 generalize hc1:A96 x.2.2.2.1 c0=c1 at *
 by_cases hd1:c1<0
 ·simp only [q1,decide_eq_true hd1,cond_true,Bool.true_and]
  exact ⟨trivial,fun h=>by simp at h⟩
 obtain ⟨m1,k1⟩:=a1 (by omega)
 simp only [q1,decide_eq_false hd1,cond_false,Bool.true_and]
 obtain ⟨q2,a2⟩:=D1i (b:=c1) (hx.2.2) (by omega) (by omega)
 generalize hc2:Y3 x.2.2.2.2 c1=c2 at *
 by_cases hd2:c2<0
 ·rw [decide_eq_true hd2]
  exact ⟨q2,fun h=>by simp at h⟩
 obtain ⟨m2,k2⟩:=a2 (by omega)
 rw [decide_eq_false hd2]
 exact ⟨q2,fun _=>⟨by simp only [cond_false];omega,k0,k1,k2⟩⟩
noncomputable def A9z {α:Type} (w:α→Nat) (l:List α):Nat:=(l.map w).sum
noncomputable def B2P (r:M9):Nat:=2+3*r.2.2.length
theorem D6j {l:Lq2} {b:Int} (h0:0≤b) (h1:b≤1048576) (hb:B5u l=true) (h:0≤B1o l b):B1o l b+(l.length:Int)≤b:=by
 have hl:l.length≤9223372036854775807:=by simp only [B5u,Bool.and_eq_true,decide_eq_true_eq] at hb;exact hb.1
 have e1:=A6J (n:=b - (l.length:Int)) (by omega) (by omega)
 simp only [B1o,e1,Int.toNat_zero,Nat.sub_zero] at h ⊢
 cases hd:decide (b - (l.length:Int)<0) with
 | true=>rw [hd] at h;simp at h
 | false =>
  rw [hd] at h
  have:=of_decide_eq_false hd
  simp only [cond_false] at h ⊢
  cases hi:A7w (szN (V4 l) l.length 0 (b - (l.length:Int))) with
  | false=>rw [hi] at h;simp at h
  | true =>
   obtain ⟨r1,r2,r3⟩:=D1h (M:=1048576) (Q:=fun i=>True) l.length 0 (b - (l.length:Int)) (fun j b' _ hj q0 q1 hf=>by
    obtain ⟨p1,p2⟩:=C9x hb j (by omega)
    obtain ⟨s1,s2,s3⟩:=C9L _ _ _ b' q0 q1 p1 p2 hf
    exact ⟨trivial,s1⟩) (by omega) (by omega) hi
   simp only [cond_true]
   omega
theorem D4M {α:Type} (w:α→Nat) (l:List α) (x:α):A9z w (l++[x])=A9z w l+w x:=by simp [A9z]
theorem D2K {l:List M9} {b:Int} (hl:C3R l) (h0:0≤b) (h1:b≤1048576) (h:0≤Y3 l b):3*Y3 l b+(A9z B2P l:Int)≤3*b:=by
 obtain ⟨h2,h3⟩:=hl
 have e1:=A6J (n:=b - (l.length:Int)) (by omega) (by omega)
 simp only [Y3,e1] at h ⊢
 by_cases hd:b - (l.length:Int)<0
 ·rw [decide_eq_true hd] at h;simp at h
 ·rw [decide_eq_false hd] at h ⊢
  simp only [cond_false] at h ⊢
  have key:(A72 l (b - (l.length:Int)) 0=(0,-1,0))∨∃ c,A72 l (b - (l.length:Int)) 0=(1,0,c)∧3*c+(A9z B2P l:Int)≤3*b:=by
   refine A6Q (fun v:B3N=>∃ (i:Nat) (c:Int),v=(l,c,(i:Int))∧i≤l.length∧0≤c∧c≤b∧3*c+(A9z B2P (l.take i):Int)≤3*(b - (l.length:Int))+2*(i:Int)) (fun a:B1u=>a=(0,-1,0)∨∃ c,a=(1,0,c)∧3*c+(A9z B2P l:Int)≤3*b) (fun v=>l.length - v.2.2.toNat) ?_ ⟨0,_,rfl,Nat.zero_le _,by omega,by omega,by simp [A9z]⟩ (by simp;omega)
   rintro v ⟨i,c,rfl,hi,c0,c1,hj⟩
   by_cases hlt:i<l.length
   ·have e1:decide ((i:Int)<(l.length:Int))=true:=decide_eq_true (by omega)
    have e2:decide (0≤(i:Int)∧(i:Int)<(l.length:Int))=true:=decide_eq_true (by omega)
    have hbr:=h3 _ (Q1 hlt I5)
    obtain ⟨q1,q2⟩:=C8L hbr c0 (by omega)
    have hdj:((0:Int),((0:Int),([]:Lq2)))=I5:=rfl
    simp only [B0D,hdj,e1,e2,cond_true,Int.toNat_natCast,q1,A7y i (by omega)]
    by_cases hn:B6R (l.getD i I5).1 (l.getD i I5).2.1 (l.getD i I5).2.2 c<0
    ·simp only [decide_eq_true hn,cond_true]
     exact .inr ⟨_,rfl,.inl rfl⟩
    ·simp only [decide_eq_false hn,cond_false]
     obtain ⟨r1,r2⟩:=q2 (by omega)
     have r3:B6R (l.getD i I5).1 (l.getD i I5).2.1 (l.getD i I5).2.2 c+((l.getD i I5).2.2.length:Int)≤c:=by
      simp only [B6R] at hn ⊢
      by_cases hz:B1o (l.getD i I5).2.2 c<0
      ·rw [decide_eq_true hz] at hn;simp at hn
      ·rw [decide_eq_false hz];exact D6j c0 (by omega) hbr (by omega)
     refine .inl ⟨_,rfl,⟨i+1,_,rfl,by omega,by omega,by omega,?_⟩,by simp only [Int.toNat_natCast];omega⟩
     rw [M8 hlt I5,D4M,Int.natCast_add]
     simp only [B2P] at *
     omega
   ·obtain rfl:i=l.length:=by omega
    have e1:decide ((l.length:Int)<(l.length:Int))=false:=decide_eq_false (by omega)
    simp only [B0D,e1,cond_false]
    rw [List.take_length] at hj
    exact .inr ⟨_,rfl,.inr ⟨_,rfl,by omega⟩⟩
  rcases key with e | ⟨c,e,hc⟩
  ·rw [e] at h;simp at h
  ·rw [e];exact hc
theorem D4N {x:B4e} (hb:C3T x) (h:0≤B0Z x.1 x.2.1 x.2.2.1 x.2.2.2.1 x.2.2.2.2 1048576):A9z B2P x.2.1≤3145728∧A9z B2P x.2.2.2.2≤3145728:=by
 obtain ⟨b1,b2,b3⟩:=hb
 simp only [B0Z] at h
 by_cases hd:Y3 x.2.1 1048576<0
 ·rw [decide_eq_true hd] at h;simp at h
 rw [decide_eq_false hd] at h
 simp only [cond_false] at h
 have y1:=D2K b1 (b:=1048576) (by decide) (by decide) (by omega)
 obtain ⟨z1,_⟩:=(D1i b1 (b:=1048576) (by decide) (by decide)).2 (by omega)
 generalize Y3 x.2.1 1048576=c at *
 by_cases hd2:A96 x.2.2.2.1 c<0
 ·rw [decide_eq_true hd2] at h;simp at h
 rw [decide_eq_false hd2] at h
 simp only [cond_false] at h
 obtain ⟨z2,_⟩:=(D2I b2 (b:=c) (by omega) (by omega)).2 (by omega)
 generalize A96 x.2.2.2.1 c=d at *
 by_cases hd3:Y3 x.2.2.2.2 d<0
 ·rw [decide_eq_true hd3] at h;simp at h
 have y3:=D2K b3 (b:=d) (by omega) (by omega) (by omega)
 omega
theorem D54 {V A α β:Type} {ss:V→V ⊕ A} {fa:A} (pk:Nat→List β→V) (l:List α) (d:α) (e:β) (f:α→β) (last:List β→A) (hn:l.length<4611686018427387904)
  (h:∀ i r,i<l.length→r.length=l.length→ss (pk i r)=.inl (pk (i+1) (r.set i (f (l.getD i d))))) (hl:∀ r,r.length=l.length→ss (pk l.length r)=.inr (last r)):itX ss fa (pk 0 (List.replicate l.length e))=last (l.map f):=by
 rw [A6s]
 have key:∀ k N i r,i+k=l.length→k<N→r.length=l.length→r.take i=(l.map f).take i→itN ss fa N (pk i r)=last (l.map f):=by
  intro k
  induction k with
  | zero =>
   intro N i r hi hN hr ht
   obtain ⟨M,rfl⟩:∃ M,N=M+1:=⟨N - 1,by omega⟩
   obtain rfl:i=l.length:=by omega
   rw [A6P,hl r hr]
   have e1:r.take l.length=r:=List.take_of_length_le (by omega)
   have e2:(l.map f).take l.length=l.map f:=List.take_of_length_le (by simp)
   rw [e1,e2] at ht
   rw [ht]
  | succ k ih =>
   intro N i r hi hN hr ht
   obtain ⟨M,rfl⟩:∃ M,N=M+1:=⟨N - 1,by omega⟩
   rw [A6P,h i r (by omega) hr]
   refine ih M (i+1) _ (by omega) (by omega) (by rw [List.length_set];exact hr) ?_
   have hlt:i<l.length:=by omega
   rw [List.take_add_one,List.take_add_one,List.take_set_of_le (Nat.le_refl _),ht]
   congr 1
   simp [List.getElem?_set,hr,hlt,List.getD_eq_getElem?_getD]
 exact key l.length _ 0 _ (by omega) hn (by simp) (by simp)
theorem D3T (l:Lq2):C74 l=l:=by
 have e:=A7F (fun o:Int×ByteArray×ByteArray=>(C6a o.1 o.2.1 o.2.2)) dOp l l.length 0 (List.replicate l.length dOp) (by simp) (by simp)
 simp only [List.take_zero,List.nil_append,List.drop_zero] at e
 have e2:l.map (fun o:Int×ByteArray×ByteArray=>(C6a o.1 o.2.1 o.2.2))=l:=by
  rw [show (fun o:Int×ByteArray×ByteArray=>(C6a o.1 o.2.1 o.2.2))=id from funext fun _=>rfl,List.map_id]
 rw [e2] at e
 exact e
theorem D6E {l:Lq2} (h:D3W l):C07 l=true∧C74 l=l:=⟨C9H h,D3T l⟩
theorem D3Y {l:List M9} (h:B4o l):B0y l=true∧B8I l=l:=by
 obtain ⟨hl,h3⟩:=h
 have hdj:(((0:Int),((0:Int),([]:Lq2))):M9)=I5:=rfl
 have key:B2n l 0 (List.replicate l.length I5)=(0,l.map fun x=>x):=by
  refine D54 (fun i r=>(l,(i:Int),r)) l I5 I5 (fun x=>x) (fun r=>(0,r)) (by omega) (fun i r hi hr=>?_) (fun r hr=>?_)
  ·have e1:decide ((i:Int)<(l.length:Int))=true:=decide_eq_true (by omega)
   have e2:decide (0≤(i:Int)∧(i:Int)<(l.length:Int))=true:=decide_eq_true (by omega)
   have e3:decide (0≤(i:Int)∧(i:Int)<(r.length:Int))=true:=decide_eq_true (by omega)
   have ho:=h3 _ (Q1 hi I5)
   have o2:=ho
   obtain ⟨qE2,toE2⟩:=D6E o2
   have q1:B7S (l.getD i I5).1 (l.getD i I5).2.1 (l.getD i I5).2.2=true:=by
    exact qE2
   simp only [B4W,hdj,e1,e2,e3,cond_true,Int.toNat_natCast,q1,A7y i (by omega),D0p,toE2]
  ·have e1:decide ((l.length:Int)<(l.length:Int))=false:=decide_eq_false (by omega)
   simp only [B4W,e1,cond_false]
 rw [List.map_id'] at key
 simp only [B0y,B8I,hdj,Int.toNat_natCast,key]
 refine ⟨?_,trivial⟩
 rw [Bool.and_eq_true]
 exact ⟨decide_eq_true ⟨by omega,trivial,by simp only [MAXB];omega,by omega⟩,rfl⟩
theorem D5F {l:List A0n} (h:C7k l):B3j l=true∧C4g l=l:=by
 refine ⟨decide_eq_true h.1,?_⟩
 have e:=A7F (fun o:A0n=>(B8H o.1 o.2)) D1K l l.length 0 (List.replicate l.length D1K) (by simp) (by simp)
 simp only [List.take_zero,List.nil_append,List.drop_zero] at e
 have e2:l.map (fun o:A0n=>(B8H o.1 o.2))=l:=by
  rw [show (fun o:A0n=>(B8H o.1 o.2))=id from funext fun _=>rfl,List.map_id]
 rw [e2] at e
 exact e
theorem D5G {x:B4e} (h:B8J x):B1r x.1 x.2.1 x.2.2.1 x.2.2.2.1 x.2.2.2.2=true∧B2v x.1 x.2.1 x.2.2.1 x.2.2.2.1 x.2.2.2.2=(x.1,x.2.2.1,x.2.1,x.2.2.2.1,x.2.2.2.2):=by
 obtain ⟨o1,o3,o4⟩:=h
 obtain ⟨qE1,toE1⟩:=D3Y o1
 obtain ⟨qE3,toE3⟩:=D5F o3
 obtain ⟨qE4,toE4⟩:=D3Y o4
 simp only [B1r,B2v,qE1,qE3,qE4,toE1,toE3,toE4,Bool.and_self]
 exact ⟨trivial,trivial⟩
noncomputable def C4X {A:Type} (f:Nat→Option A) (last:A):Nat→Nat→A
 | 0,_=>last
 | k+1,i=>match f i with
  | some a=>a
  | none=>C4X f last k (i+1)
theorem D1Z {V A:Type} {ss:V→V ⊕ A} {fa:A} (pk:Nat→V) (n:Nat) (f:Nat→Option A) (last:A) (hn:n<4611686018427387904)
  (h:∀ i,i<n→ss (pk i)=(match f i with | some a=>.inr a | none=>.inl (pk (i+1)))) (hl:ss (pk n)=.inr last):itX ss fa (pk 0)=C4X f last n 0:=by
 rw [A6s]
 have key:∀ k N i,i+k=n→k<N→itN ss fa N (pk i)=C4X f last k i:=by
  intro k
  induction k with
  | zero =>
   intro N i hi hN
   obtain ⟨M,rfl⟩:∃ M,N=M+1:=⟨N - 1,by omega⟩
   obtain rfl:i=n:=by omega
   rw [A6P,hl];rfl
  | succ k ih =>
   intro N i hi hN
   obtain ⟨M,rfl⟩:∃ M,N=M+1:=⟨N - 1,by omega⟩
   rw [A6P,h i (by omega)]
   simp only [C4X]
   cases hf:f i with
   | some a=>rfl
   | none=>exact ih M (i+1) (by omega) (by omega)
 exact key n _ 0 (by omega) hn
theorem D4q (k:Int) (s v:ByteArray):C9E k s v k s v=true:=by simp [C9E]
theorem D3i (l:Lq2):C5s l l=true:=by
 have e:A4G (B1m l l) (l.length - (0:Int).toNat) (0:Int).toNat=true:=C9w _ _ (fun j _ _=>by simp [B1m,D4q])
 simp only [C5s,e,cond_true]
 simp
theorem D6n {l:Lq2} (h:D3W l):C05 l l=true∧C5s l l=true:=⟨C9H h,D3i l⟩
theorem C6A {A:Type} (f:Nat→Option A) (last:A):∀ k i,(∃ j a,i≤j∧j<i+k∧f j=some a∧(∀ m,i≤m→m<j→f m=none)∧C4X f last k i=a)∨((∀ j,i≤j→j<i+k→f j=none)∧C4X f last k i=last):=by
 intro k
 induction k with
 | zero=>intro i;exact .inr ⟨fun j h1 h2=>by omega,rfl⟩
 | succ k ih =>
  intro i
  simp only [C4X]
  cases hf:f i with
  | some a=>exact .inl ⟨i,a,Nat.le_refl _,by omega,hf,fun m h1 h2=>by omega,rfl⟩
  | none =>
   rcases ih (i+1) with ⟨j,a,h1,h2,h3,h4,h5⟩ | ⟨h1,h2⟩
   ·refine .inl ⟨j,a,by omega,by omega,h3,fun m m1 m2=>?_,h5⟩
    by_cases hm:m=i
    ·rw [hm];exact hf
    ·exact h4 m (by omega) m2
   ·refine .inr ⟨fun j j1 j2=>?_,h2⟩
    by_cases hj:j=i
    ·rw [hj];exact hf
    ·exact h1 j (by omega) (by omega)
theorem D3U {l:List M9} (h:B4o l):B0w l l=true∧B6A l l=true:=by
 obtain ⟨hl,h3⟩:=h
 have hdj:(((0:Int),((0:Int),([]:Lq2))):M9)=I5:=rfl
 have e0:∀ x:Int,(x != x)=false:=fun x=>by simp
 have e9:∀ x:Bool,(x==x)=true:=fun x=>by simp
 have key:B2m l l 0=C4X (fun _=>none) (1,false) l.length 0:=by
  refine D1Z (fun i=>(l,l,(i:Int))) l.length _ _ (by omega) (fun i hi=>?_) ?_
  ·have e1:decide ((i:Int)<(l.length:Int))=true:=decide_eq_true (by omega)
   have e2:decide (0≤(i:Int)∧(i:Int)<(l.length:Int))=true:=decide_eq_true (by omega)
   have ho:=h3 _ (Q1 hi I5)
   have o2:=ho
   obtain ⟨qE2,toE2⟩:=D6n o2
   have q1:B52 (l.getD i I5).1 (l.getD i I5).2.1 (l.getD i I5).2.2 (l.getD i I5).1 (l.getD i I5).2.1 (l.getD i I5).2.2=true:=by
    first | exact qE2 | (simp only [B52,e0,cond_false];exact qE2)
   have q2:C73 (l.getD i I5).1 (l.getD i I5).2.1 (l.getD i I5).2.2 (l.getD i I5).1 (l.getD i I5).2.1 (l.getD i I5).2.2=true:=by
    simp only [C73,e0,e9,toE2,cond_false,Bool.not_true]
   simp only [B4V,hdj,e1,e2,cond_true,cond_false,Bool.not_true,Int.toNat_natCast,q1,q2,A7y i (by omega)]
  ·have e1:decide ((l.length:Int)<(l.length:Int))=false:=decide_eq_false (by omega)
   simp only [B4V,e1,cond_false]
 have k2:C4X (fun _=>none) ((1,false):A9D) l.length 0=(1,false):=by
  rcases C6A (fun _=>none) ((1,false):A9D) l.length 0 with ⟨j,a,_,_,h3,_⟩ | ⟨_,h⟩
  ·cases h3
  ·exact h
 rw [k2] at key
 simp only [B0w,B6A,key,e0,cond_false]
 exact ⟨rfl,rfl⟩
theorem D5l {l:List A0n} (h:C7k l):B3h l l=true∧B7F l l=true:=by
 refine ⟨decide_eq_true h.1,?_⟩
 have e:A4G (A8U l l) (l.length - (0:Int).toNat) (0:Int).toNat=true:=C9w _ _ (fun j _ _=>by simp [A8U,C4f])
 simp only [B7F,e,cond_true]
 simp
theorem C7D {x:B4e} (h:B8J x):A8X x.1 x.2.1 x.2.2.1 x.2.2.2.1 x.2.2.2.2 x.1 x.2.1 x.2.2.1 x.2.2.2.1 x.2.2.2.2=true∧C0B x.1 x.2.1 x.2.2.1 x.2.2.2.1 x.2.2.2.2 x.1 x.2.1 x.2.2.1 x.2.2.2.1 x.2.2.2.2=true:=by
 obtain ⟨o1,o3,o4⟩:=h
 obtain ⟨qE1,toE1⟩:=D3U o1
 obtain ⟨qE3,toE3⟩:=D5l o3
 obtain ⟨qE4,toE4⟩:=D3U o4
 have e0:∀ x:Int,(x != x)=false:=fun x=>by simp
 simp only [A8X,C0B,e0,qE1,toE1,qE3,toE3,qE4,toE4,cond_false,Bool.not_true,Bool.and_self]
 exact ⟨trivial,trivial⟩
noncomputable def C23 (k:ByteArray) (ops:Lq2):Bool:=ops.any fun x=>k.toList==x.2.1.toList
noncomputable def B8F (l ops:Lq2):Bool:=l.any fun o=>C23 o.2.1 ops
noncomputable def B3z (held:List M9) (ops:Lq2):Bool:=held.any fun r=>B8F r.2.2 ops
noncomputable def misses (m:LBBe) (o:Int×ByteArray×ByteArray):Bool:=cond (o.1 != 3) false (cond (!((B2D m o.2.1).2==(!(o.2.2.toList==bE.toList)))) true (!((B2D m o.2.1).1.toList==o.2.2.toList)))
noncomputable def C0C (m:LBBe) (ops:Lq2):Bool:=!(ops.any (misses m))
noncomputable def O4 (t:Int) (r:M9):Bool:=r.2.1==t
noncomputable def isK (k:ByteArray) (p:ByteArray×ByteArray):Bool:=p.1.toList==k.toList
noncomputable def dP:ByteArray×ByteArray:=(bE,bE)
noncomputable def B2w (k:ByteArray) (p:ByteArray×ByteArray):Bool:=!(Op.bytesLess p.1.toList k.toList||p.1.toList==k.toList)
noncomputable def D2i (l:LBBe) (k v:ByteArray):LBBe :=
 cond (decide (l.findIdx (isK k)<l.length)) (l.set (l.findIdx (isK k)) ((l.getD (l.findIdx (isK k)) dP).1,v)) (l.take (l.findIdx (B2w k))++((k,v)::l.drop (l.findIdx (B2w k))))
noncomputable def C5a (l:LBBe) (k:ByteArray):LBBe:=l.filter fun p=>!isK k p
noncomputable def C2L (l:LBBe) (o:Int×ByteArray×ByteArray):LBBe:=cond (o.1==1) (D2i l o.2.1 o.2.2) (cond (o.1==2) (C5a l o.2.1) l)
noncomputable def C1B (kn:Bool) (m:List A0n) (held:List M9) (r:M9):Option (List A0n×List M9) :=
 cond (!(B2E r.1 r.2.1 r.2.2)) none (cond (r.1==1)
  (cond kn none (cond (B3z held r.2.2) none (cond (!(C0C m r.2.2)) none (some (m,held++[((1:Int),(r.2.1,r.2.2))])))))
  (cond (!(held.any (O4 r.2.1))) (cond (r.1==3) (cond kn none (some (m,held))) none)
   (cond (r.1==2) (cond (decide (((((held.getD (held.findIdx (O4 r.2.1)) I5).2.2.foldl C2L m).length:Nat):Int)≤60)) (some ((held.getD (held.findIdx (O4 r.2.1)) I5).2.2.foldl C2L m,held.eraseIdx (held.findIdx (O4 r.2.1)))) none)
    (cond (decide ((m.length:Int)≤60)) (some (m,held.eraseIdx (held.findIdx (O4 r.2.1)))) none))))
noncomputable def B32 (l:List M9):Nat→Option (List A0n×List M9)
 | 0=>some ([],[])
 | i+1=>(B32 l i).bind fun s=>C1B ((l.take i).any (O4 (l.getD i I5).2.1)) s.1 s.2 (l.getD i I5)
noncomputable def A9r (l:List M9):List A0n×List M9×Bool:=match B32 l l.length with
 | none=>([],[],false)
 | some s=>(s.1,s.2,true)
noncomputable def C8f (l:List M9):Prop:=(l.map (·.2.1)).Nodup
noncomputable abbrev RepOk (l:List M9) (i:Nat) (m:List A0n) (held:List M9):Prop:=C8f held∧(∀ x∈held,A0h x.2.2=true∧(l.take i).any (O4 x.2.1)=true)∧held.length≤i∧m.length≤60
theorem C7x {l:List M9} {i:Nat} {t:Int} (h:(l.take i).any (O4 t)=true):(l.take (i+1)).any (O4 t)=true:=by
 obtain ⟨x,hx,hp⟩:=List.any_eq_true.1 h
 exact List.any_eq_true.2 ⟨x,List.mem_of_mem_take (i:=i) (by rw [List.take_take,Nat.min_eq_left (by omega)];exact hx),hp⟩
theorem RepOk.hone {l:List M9} {i:Nat} {m:List A0n} {held:List M9} (h:RepOk l i m held):C8f held:=h.1
theorem RepOk.hmem {l:List M9} {i:Nat} {m:List A0n} {held:List M9} (h:RepOk l i m held):∀ x∈held,A0h x.2.2=true∧(l.take i).any (O4 x.2.1)=true:=h.2.1
theorem RepOk.hlen {l:List M9} {i:Nat} {m:List A0n} {held:List M9} (h:RepOk l i m held):held.length≤i:=h.2.2.1
theorem RepOk.hml {l:List M9} {i:Nat} {m:List A0n} {held:List M9} (h:RepOk l i m held):m.length≤60:=h.2.2.2
theorem D6i {l:List M9} {i:Nat} {m m':List A0n} {held h':List M9} (hi:i<l.length) (hr:∀ x∈l,A0h x.2.2=true) (I:RepOk l i m held) (h:C1B ((l.take i).any (O4 (l.getD i I5).2.1)) m held (l.getD i I5)=some (m', h')):RepOk l (i+1) m' h':=by
 have hx:(l.take (i+1)).any (O4 (l.getD i I5).2.1)=true:=by
  refine List.any_eq_true.2 ⟨l.getD i I5,?_,by simp [O4]⟩
  rw [M8 hi I5];simp
 have sub:∀ k,RepOk l (i+1) m (held.eraseIdx k):=fun k=>by
  have hsub:(held.eraseIdx k).Sublist held:=List.eraseIdx_sublist _ _
  exact ⟨List.Nodup.sublist (hsub.map _) I.hone,fun x hx=>⟨(I.hmem x (hsub.subset hx)).1,C7x (I.hmem x (hsub.subset hx)).2⟩,by have:=hsub.length_le;have:=I.hlen;omega,I.hml⟩
 simp only [C1B] at h
 cases hok:B2E (l.getD i I5).1 (l.getD i I5).2.1 (l.getD i I5).2.2 with
 | false=>rw [hok] at h;simp at h
 | true =>
  simp only [hok,Bool.not_true,cond_false] at h
  cases hk:((l.getD i I5).1==1) with
  | true =>
   simp only [hk,cond_true] at h
   cases hkn:(l.take i).any (O4 (l.getD i I5).2.1) with
   | true=>rw [hkn] at h;simp at h
   | false =>
    rw [hkn] at h
    cases hlk:B3z held (l.getD i I5).2.2 with
    | true=>rw [hlk] at h;simp at h
    | false =>
     rw [hlk] at h
     cases hmt:C0C m (l.getD i I5).2.2 with
     | false=>rw [hmt] at h;simp at h
     | true =>
      rw [hmt] at h
      simp only [Bool.not_true,cond_false,Option.some.injEq,Prod.mk.injEq] at h
      obtain ⟨rfl,rfl⟩:=h
      refine ⟨?_,fun x hm=>?_,by rw [List.length_append];have:=I.hlen;simp;omega,I.hml⟩
      ·simp only [C8f,List.map_append,List.map_cons,List.map_nil]
       rw [List.nodup_append]
       refine ⟨I.hone,by simp,fun a ha b hb=>?_⟩
       simp only [List.mem_singleton] at hb
       subst hb
       intro e
       obtain ⟨x,hx1,hx2⟩:=List.mem_map.1 ha
       have:=(I.hmem x hx1).2
       rw [show x.2.1=(l.getD i I5).2.1 from hx2.trans e,hkn] at this
       cases this
      ·rcases List.mem_append.1 hm with hm | hm
       ·exact ⟨(I.hmem x hm).1,C7x (I.hmem x hm).2⟩
       ·simp only [List.mem_singleton] at hm
        subst hm
        have hq:=hr _ (Q1 hi I5)
        exact ⟨hq,hx⟩
  | false =>
   simp only [hk,cond_false] at h
   cases ha:held.any (O4 (l.getD i I5).2.1) with
   | false =>
    simp only [ha,Bool.not_false,cond_true] at h
    cases h3:((l.getD i I5).1==3) with
    | false=>rw [h3] at h;simp at h
    | true =>
     rw [h3] at h
     cases hkn:(l.take i).any (O4 (l.getD i I5).2.1) with
     | true=>rw [hkn] at h;simp at h
     | false =>
      rw [hkn] at h
      simp only [cond_true,cond_false,Option.some.injEq,Prod.mk.injEq] at h
      obtain ⟨rfl,rfl⟩:=h
      exact ⟨I.hone,fun x hx=>⟨(I.hmem x hx).1,C7x (I.hmem x hx).2⟩,by have:=I.hlen;omega,I.hml⟩
   | true =>
    simp only [ha,Bool.not_true,cond_false] at h
    cases h2:((l.getD i I5).1==2) with
    | true =>
     simp only [h2,cond_true] at h
     by_cases hc:((((held.getD (held.findIdx (O4 (l.getD i I5).2.1)) I5).2.2.foldl C2L m).length:Nat):Int)≤60
     ·rw [decide_eq_true hc] at h
      simp only [cond_true,Option.some.injEq,Prod.mk.injEq] at h
      obtain ⟨rfl,rfl⟩:=h
      have:=sub (held.findIdx (O4 (l.getD i I5).2.1))
      exact ⟨this.hone,this.hmem,this.hlen,by omega⟩
     ·rw [decide_eq_false hc] at h;simp at h
    | false =>
     simp only [h2,cond_false] at h
     by_cases hc:(m.length:Int)≤60
     ·rw [decide_eq_true hc] at h
      simp only [cond_true,Option.some.injEq,Prod.mk.injEq] at h
      obtain ⟨rfl,rfl⟩:=h
      exact sub _
     ·rw [decide_eq_false hc] at h;simp at h
theorem D3v {l:List M9} (hr:∀ x∈l,A0h x.2.2=true):∀ i,i≤l.length→∀ m held,B32 l i=some (m,held)→RepOk l i m held:=by
 intro i
 induction i with
 | zero =>
  intro _ m held h
  simp only [B32,Option.some.injEq,Prod.mk.injEq] at h
  obtain ⟨rfl,rfl⟩:=h
  exact ⟨by simp [C8f],fun x hx=>by simp at hx,by simp,by simp⟩
 | succ i ih =>
  intro hi m held h
  simp only [B32] at h
  cases hp:B32 l i with
  | none=>rw [hp] at h;cases h
  | some s =>
   rw [hp] at h
   exact D6i (by omega) hr (ih (by omega) s.1 s.2 (by rw [hp])) h
theorem B2k {V A α:Type} {ss:V→V ⊕ A} {fa:A} (pk:Nat→V) (l:List α) (d:α) (p:α→Bool) (good:Nat→A) (last:A) (hn:l.length<4611686018427387904)
  (h:∀ i,i<l.length→ss (pk i)=cond (p (l.getD i d)) (.inr (good i)) (.inl (pk (i+1)))) (hl:ss (pk l.length)=.inr last) :
  itX ss fa (pk 0)=cond (decide (l.findIdx p<l.length)) (good (l.findIdx p)) last:=by
 rw [D1Z pk l.length (fun i=>cond (p (l.getD i d)) (some (good i)) none) last hn (fun i hi=>by rw [h i hi];cases p (l.getD i d)<;>rfl) hl]
 rcases C6A (fun i=>cond (p (l.getD i d)) (some (good i)) none) last l.length 0 with ⟨j,a,h1,h2,h3,h4,h5⟩ | ⟨h1,h2⟩
 ·have hj:j<l.length:=by omega
  have hg:l.getD j d=l[j]:=by simp [List.getD_eq_getElem?_getD,hj]
  have hp:p l[j]=true:=by
   cases hc:p (l.getD j d) with
   | true=>rw [hg] at hc;exact hc
   | false=>simp only [hc,cond_false] at h3;cases h3
  have hf:l.findIdx p=j:=by
   rw [List.findIdx_eq hj]
   refine ⟨hp,fun m hm=>?_⟩
   have:=h4 m (by omega) hm
   have hgm:l.getD m d=l[m]:=by simp [List.getD_eq_getElem?_getD,Nat.lt_trans hm hj]
   rw [← hgm]
   cases hc:p (l.getD m d) with
   | false=>rfl
   | true=>simp only [hc,cond_true] at this;cases this
  rw [h5,hf,decide_eq_true hj]
  rw [hg,hp] at h3
  exact (Option.some.inj h3).symm
 ·have hf : ¬ l.findIdx p < l.length := by
   intro hlt
   have hp:=List.findIdx_getElem (w:=hlt)
   have:=h1 (l.findIdx p) (by omega) (by omega)
   have hg:l.getD (l.findIdx p) d=l[l.findIdx p]:=by simp [List.getD_eq_getElem?_getD,hlt]
   rw [hg,hp] at this
   cases this
  rw [h2,decide_eq_false hf];rfl
theorem B1a (l:List M9) (i:Nat):l.getD i ((0:Int),((0:Int),[]))=l.getD i I5:=rfl
theorem C1S (l:List M9) (t:Int) (hl:l.length≤1099511627776):B4T l t=true∧B9H l t=cond (decide (l.findIdx (O4 t)<l.length)) ((l.findIdx (O4 t):Nat):Int) (-1):=by
 have e:B5O l t 0=cond (decide (l.findIdx (O4 t)<l.length)) (0,((l.findIdx (O4 t):Nat):Int)) (1,0):=by
  refine B2k (ss:=fun v:B4Z=>B6a v.1 v.2.1 v.2.2) (fa:=C2Q) (fun i=>((l,t,(i:Int)):B4Z)) l I5 (O4 t) (fun i=>((0,(i:Int)):B4Y)) _ (by omega) (fun i hi=>?_) ?_
  ·have h1:decide ((i:Int)<(l.length:Int))=true:=decide_eq_true (by omega)
   have h2:decide (0≤(i:Int)∧(i:Int)<(l.length:Int))=true:=decide_eq_true (by omega)
   simp only [B6a,h1,h2,cond_true,Int.toNat_natCast,A7y i (by omega),B1a,O4]
  ·have h1:decide ((l.length:Int)<(l.length:Int))=false:=decide_eq_false (by omega)
   simp only [B6a,h1,cond_false]
 simp only [B4T,B9H,e]
 cases decide (l.findIdx (O4 t)<l.length)<;>exact ⟨rfl,rfl⟩
theorem D5z (l:List M9) (t:Int) (hl:l.length≤1099511627776):decide (B9H l t<0)=!(l.any (O4 t)):=by
 rw [(C1S l t hl).2]
 cases ha:l.any (O4 t) with
 | true =>
  rw [decide_eq_true (List.findIdx_lt_length.2 (List.any_eq_true.1 ha))]
  exact decide_eq_false (by simp only [cond_true];omega)
 | false =>
  have:¬ l.findIdx (O4 t)<l.length:=by
   intro hc
   obtain ⟨x,hx,hp⟩:=List.findIdx_lt_length.1 hc
   rw [List.any_eq_true.2 ⟨x,hx,hp⟩] at ha
   cases ha
  rw [decide_eq_false this]
  rfl
theorem D3n {l:List Int} (hl:l.length≤1048576) (x:Int):A8A l x=true∧B3l l x=decide (x∈l):=by
 have key:B1G l x 0=(0,true)∧x∈l∨B1G l x 0=(1,false)∧x ∉ l:=by
  refine A6Q (fun v:B5t=>∃ i:Nat,v=(l,x,(i:Int))∧i≤l.length∧x ∉ l.take i) (fun a:B2W=>a=(0,true)∧x∈l∨a=(1,false)∧x ∉ l) (fun v=>l.length - v.2.2.toNat) ?_ ⟨0,rfl,Nat.zero_le _,by simp⟩ (by simp;omega)
  rintro v ⟨i,rfl,hi,hx⟩
  by_cases hlt:i<l.length
  ·have e1:decide ((i:Int)<(l.length:Int))=true:=decide_eq_true (by omega)
   have e2:decide (0≤(i:Int)∧(i:Int)<(l.length:Int))=true:=decide_eq_true (by omega)
   simp only [B6H,e1,e2,cond_true,Int.toNat_natCast,A7y i (by omega)]
   cases hc:(l.getD i 0==x) with
   | true=>exact .inr ⟨_,rfl,.inl ⟨rfl,by have:=Q1 hlt 0;simp only [beq_iff_eq] at hc;rw [hc] at this;exact this⟩⟩
   | false =>
    refine .inl ⟨_,rfl,⟨i+1,rfl,by omega,?_⟩,by simp only [Int.toNat_natCast];omega⟩
    rw [M8 hlt 0]
    simp only [beq_eq_false_iff_ne] at hc
    simp only [List.mem_append,List.mem_singleton,not_or]
    exact ⟨hx,fun h=>hc h.symm⟩
  ·obtain rfl:i=l.length:=by omega
   have e1:decide ((l.length:Int)<(l.length:Int))=false:=decide_eq_false (by omega)
   simp only [B6H,e1,cond_false]
   rw [List.take_length] at hx
   exact .inr ⟨_,rfl,.inr ⟨rfl,hx⟩⟩
 simp only [A8A,B3l]
 rcases key with ⟨h1,h2⟩ | ⟨h1,h2⟩
 ·rw [h1,decide_eq_true h2];exact ⟨rfl,rfl⟩
 ·rw [h1,decide_eq_false h2];exact ⟨rfl,rfl⟩
theorem B4S {V A α:Type} {ss:V→V ⊕ A} {fa:A} (pk:Nat→V) (l:List α) (d:α) (p:α→Bool) (good last:A) (hn:l.length<4611686018427387904)
  (h:∀ i,i<l.length→ss (pk i)=cond (p (l.getD i d)) (.inr good) (.inl (pk (i+1)))) (hl:ss (pk l.length)=.inr last):itX ss fa (pk 0)=cond (l.any p) good last:=by
 rw [B2k pk l d p (fun _=>good) last hn h hl]
 cases ha:l.any p with
 | true=>rw [decide_eq_true (List.findIdx_lt_length.2 (List.any_eq_true.1 ha))]
 | false =>
  rw [decide_eq_false]
  intro hc
  obtain ⟨x,hx,hp⟩:=List.findIdx_lt_length.1 hc
  rw [List.any_eq_true.2 ⟨x,hx,hp⟩] at ha
  cases ha
theorem B8A (l:Lq2) (i:Nat):l.getD i ((0:Int),((⟨#[]⟩:ByteArray),(⟨#[]⟩:ByteArray)))=l.getD i dOp:=rfl
theorem D4y (held:List M9) (ops:Lq2) (i k:Nat) (hi:i<held.length) (hk:k<(held.getD i I5).2.2.length) (ho:ops.length≤1048576) :
  A94 held ops (i:Int) (k:Int) 0=cond (C23 ((held.getD i I5).2.2.getD k dOp).2.1 ops) (0,true,[],[],0,0) (1,false,held,ops,(i:Int),(k:Int)):=by
 refine B4S (ss:=fun v:A9l=>A8G v.1 v.2.1 v.2.2.1 v.2.2.2.1 v.2.2.2.2) (fa:=A9X) (fun m=>((held,ops,(i:Int),(k:Int),(m:Int)):A9l)) ops dOp (fun x=>((held.getD i I5).2.2.getD k dOp).2.1.toList==x.2.1.toList) _ _ (by omega) (fun m hm=>?_) ?_
 ·have h1:decide ((m:Int)<(ops.length:Int))=true:=decide_eq_true (by omega)
  have h2:decide (0≤(i:Int)∧(i:Int)<(held.length:Int))=true:=decide_eq_true (by omega)
  have h3:decide (0≤(k:Int)∧(k:Int)<(((held.getD (i:Int).toNat ((0:Int),((0:Int),[]))).2.2.length:Nat):Int))=true:=decide_eq_true (show 0≤(k:Int)∧(k:Int)<(((held.getD i I5).2.2.length:Nat):Int) by omega)
  have h4:decide (0≤(m:Int)∧(m:Int)<(ops.length:Int))=true:=decide_eq_true (by omega)
  show A8G held ops (i:Int) (k:Int) (m:Int)=_
  simp only [A8G,h1,h2,h3,h4,cond_true]
  simp only [B1a,B8A,Int.toNat_natCast,A7y m (by omega)]
 ·have h1:decide ((ops.length:Int)<(ops.length:Int))=false:=decide_eq_false (by omega)
  simp only [A8G,h1,cond_false]
theorem D3o (held:List M9) (ops:Lq2) (i:Nat) (hi:i<held.length) (hk:(held.getD i I5).2.2.length≤1048576) (ho:ops.length≤1048576) :
  A93 held ops (i:Int) 0=cond (B8F (held.getD i I5).2.2 ops) (0,true,[],[],0) (1,false,held,ops,(i:Int)):=by
 have h2:decide (0≤(i:Int)∧(i:Int)<(held.length:Int))=true:=decide_eq_true (by omega)
 refine B4S (ss:=fun v:A9k=>A7M v.1 v.2.1 v.2.2.1 v.2.2.2) (fa:=B2j) (fun k=>((held,ops,(i:Int),(k:Int)):A9k)) (held.getD i I5).2.2 dOp (fun o=>C23 o.2.1 ops) _ _ (by omega) (fun k hk2=>?_) ?_
 ·have h1:decide ((k:Int)<(((held.getD (i:Int).toNat ((0:Int),((0:Int),[]))).2.2.length:Nat):Int))=true:=decide_eq_true (show (k:Int)<(((held.getD i I5).2.2.length:Nat):Int) by omega)
  show A7M held ops (i:Int) (k:Int)=_
  simp only [A7M,h1,h2,cond_true,D4y held ops i k hi hk2 ho]
  cases C23 ((held.getD i I5).2.2.getD k dOp).2.1 ops
  ·simp only [cond_false,A7y k (by omega)];rfl
  ·rfl
 ·have h1:decide ((((held.getD i I5).2.2.length:Nat):Int)<(((held.getD (i:Int).toNat ((0:Int),((0:Int),[]))).2.2.length:Nat):Int))=false:=decide_eq_false (show ¬ (((held.getD i I5).2.2.length:Nat):Int)<(((held.getD i I5).2.2.length:Nat):Int) by omega)
  show A7M held ops (i:Int) (((held.getD i I5).2.2.length:Nat):Int)=_
  simp only [A7M,h1,h2,cond_true,cond_false]
theorem D13 (held:List M9) (ops:Lq2) (hl:held.length≤1099511627776) (hh:∀ r∈held,r.2.2.length≤1048576) (ho:ops.length≤1048576):A78 held ops=true∧B0B held ops=B3z held ops:=by
 have e:A92 held ops 0=cond (B3z held ops) (0,true) (1,false):=by
  refine B4S (ss:=fun v:A9j=>B0k v.1 v.2.1 v.2.2) (fa:=B5I) (fun i=>((held,ops,(i:Int)):A9j)) held I5 (fun r=>B8F r.2.2 ops) _ _ (by omega) (fun i hi=>?_) ?_
  ·have h1:decide ((i:Int)<(held.length:Int))=true:=decide_eq_true (by omega)
   simp only [B0k,h1,cond_true,D3o held ops i hi (hh _ (Q1 hi I5)) ho]
   cases B8F (held.getD i I5).2.2 ops
   ·simp only [cond_false,A7y i (by omega)];rfl
   ·rfl
  ·have h1:decide ((held.length:Int)<(held.length:Int))=false:=decide_eq_false (by omega)
   simp only [B0k,h1,cond_false]
 simp only [A78,B0B,e]
 cases B3z held ops<;>exact ⟨rfl,rfl⟩
noncomputable def D5m (l:LBBe) (k:ByteArray):Option ByteArray:=(l.find? (isK k)).map (·.2)
theorem B09 (l:LBBe) (i:Nat):l.getD i ((⟨#[]⟩:ByteArray),(⟨#[]⟩:ByteArray))=l.getD i dP:=rfl
theorem C7F {α:Type} (p:α→Bool) (d:α):∀ l:List α,l.find? p=cond (decide (l.findIdx p<l.length)) (some (l.getD (l.findIdx p) d)) none
 | []=>by simp
 | x::l=>by
  have ih:=C7F p d l
  cases h:p x with
  | true=>simp [List.find?_cons,List.findIdx_cons,h]
  | false =>
   simp only [List.find?_cons,List.findIdx_cons,h,List.length_cons,cond_false,List.getD_cons_succ]
   rw [ih]
   by_cases hl:l.findIdx p<l.length
   ·rw [decide_eq_true hl,decide_eq_true (show l.findIdx p+1<l.length+1 by omega)]
   ·rw [decide_eq_false hl,decide_eq_false (show ¬ l.findIdx p+1<l.length+1 by omega)]
theorem C4K (l:LBBe) (k:ByteArray) (hl:l.length≤1099511627776):B1N l k=true∧B2D l k=(match D5m l k with | some v=>(v,true) | none=>((⟨#[]⟩:ByteArray),false)):=by
 have e:B2p l k 0=cond (decide (l.findIdx (isK k)<l.length)) (0,(l.getD (l.findIdx (isK k)) dP).2,true) (1,(⟨#[]⟩:ByteArray),false):=by
  refine B2k (ss:=fun v:B1y=>B2L v.1 v.2.1 v.2.2) (fa:=B4Q) (fun i=>((l,k,(i:Int)):B1y)) l dP (isK k) (fun i=>((0,(l.getD i dP).2,true):B1v)) _ (by omega) (fun i hi=>?_) ?_
  ·have h1:decide ((i:Int)<(l.length:Int))=true:=decide_eq_true (by omega)
   have h2:decide (0≤(i:Int)∧(i:Int)<(l.length:Int))=true:=decide_eq_true (by omega)
   simp only [B2L,h1,h2,cond_true,Int.toNat_natCast,A7y i (by omega),B09,isK]
  ·have h1:decide ((l.length:Int)<(l.length:Int))=false:=decide_eq_false (by omega)
   simp only [B2L,h1,cond_false]
 simp only [B1N,B2D,e,D5m,C7F (isK k) dP l]
 cases decide (l.findIdx (isK k)<l.length)<;>exact ⟨rfl,rfl⟩
theorem D2G (m:LBBe) (ops:Lq2) (hm:m.length≤1099511627776) (ho:ops.length≤1048576):B2B m ops=true∧B80 m ops=C0C m ops:=by
 have e:B3W m ops 0=cond (ops.any (misses m)) (0,false) (1,false):=by
  refine B4S (ss:=fun v:B23=>B4c v.1 v.2.1 v.2.2) (fa:=A9W) (fun i=>((m,ops,(i:Int)):B23)) ops dOp (misses m) _ _ (by omega) (fun i hi=>?_) ?_
  ·have h1:decide ((i:Int)<(ops.length:Int))=true:=decide_eq_true (by omega)
   have h2:decide (0≤(i:Int)∧(i:Int)<(ops.length:Int))=true:=decide_eq_true (by omega)
   simp only [B4c,C1P,B8A,Int.toNat_natCast,h1,h2,cond_true,A7y i (by omega),(C4K m _ hm).1,misses]
   generalize ((ops.getD i dOp).1 != 3)=a
   generalize (!((B2D m (ops.getD i dOp).2.1).2==(!((ops.getD i dOp).2.2.toList==(⟨#[]⟩:ByteArray).toList))))=b
   generalize (!((B2D m (ops.getD i dOp).2.1).1.toList==(ops.getD i dOp).2.2.toList))=c
   cases a<;>cases b<;>cases c<;>rfl
  ·have h1:decide ((ops.length:Int)<(ops.length:Int))=false:=decide_eq_false (by omega)
   simp only [B4c,h1,cond_false]
 simp only [B2B,B80,e,C0C]
 cases ops.any (misses m)<;>exact ⟨rfl,rfl⟩
theorem C2o {α:Type} (l:List α) (k:Nat):(l.drop k).take (l.length - k)=l.drop k:=List.take_of_length_le (by simp)
theorem D1Y {V A α β:Type} {ss:V→V ⊕ A} {fa:A} (pk:Nat→β→V) (l:List α) (d:α) (f:β→α→β) (last:β→A) (ok:Nat→β→Prop) (hn:l.length<4611686018427387904)
  (h:∀ i b,i<l.length→ok i b→ss (pk i b)=.inl (pk (i+1) (f b (l.getD i d)))∧ok (i+1) (f b (l.getD i d))) (hl:∀ b,ok l.length b→ss (pk l.length b)=.inr (last b)) {b:β} (h0:ok 0 b):itX ss fa (pk 0 b)=last (l.foldl f b):=by
 rw [A6s]
 have key:∀ k N i b,i+k=l.length→k<N→ok i b→itN ss fa N (pk i b)=last ((l.drop i).foldl f b):=by
  intro k
  induction k with
  | zero =>
   intro N i b hi hN ho
   obtain ⟨M,rfl⟩:∃ M,N=M+1:=⟨N - 1,by omega⟩
   obtain rfl:i=l.length:=by omega
   rw [A6P,hl b ho,List.drop_length];rfl
  | succ k ih =>
   intro N i b hi hN ho
   obtain ⟨M,rfl⟩:∃ M,N=M+1:=⟨N - 1,by omega⟩
   have hlt:i<l.length:=by omega
   obtain ⟨h1,h2⟩:=h i b hlt ho
   rw [A6P,h1]
   simp only
   rw [ih M (i+1) _ (by omega) (by omega) h2,List.drop_eq_getElem_cons hlt,List.foldl_cons]
   simp [List.getD_eq_getElem?_getD,hlt]
 have:=key l.length _ 0 b (by omega) hn h0
 simpa using this
theorem D1L (l:LBBe) (k:ByteArray):(C5a l k).length≤l.length:=List.length_filter_le _ _
theorem B1D {α:Type} (p:α→Bool) (l:List α):l.findIdx p≤l.length:=List.findIdx_le_length
theorem D5E (l:LBBe) (k v:ByteArray):(D2i l k v).length≤l.length+1:=by
 simp only [D2i]
 cases decide (l.findIdx (isK k)<l.length)
 ·have:=B1D (B2w k) l
  simp only [cond_false,List.length_append,List.length_take,List.length_cons,List.length_drop];omega
 ·simp
theorem D1x (l:LBBe) (o:Int×ByteArray×ByteArray):(C2L l o).length≤l.length+1:=by
 simp only [C2L]
 cases o.1==1
 ·cases o.1==2
  ·simp
  ·have:=D1L l o.2.1;simp only [cond_true,cond_false];omega
 ·exact D5E _ _ _
theorem D1d (l:LBBe) (k v:ByteArray) (hl:l.length≤1099511627776):B1O l k v=true∧C7m l k v=D2i l k v:=by
 have hlt:∀ i:Nat,i<l.length→decide ((i:Int)<(l.length:Int))=true∧decide (0≤(i:Int)∧(i:Int)<(l.length:Int))=true:=fun i hi=>⟨decide_eq_true (by omega),decide_eq_true (by omega)⟩
 have hge:decide ((l.length:Int)<(l.length:Int))=false:=decide_eq_false (by omega)
 have e0:B0r l k v 0 l=cond (decide (l.findIdx (isK k)<l.length)) (0,l.set (l.findIdx (isK k)) ((l.getD (l.findIdx (isK k)) dP).1,v),([]:LBBe),(⟨#[]⟩:ByteArray),(⟨#[]⟩:ByteArray)) (1,([]:LBBe),l,k,v):=by
  refine B2k (ss:=fun v:B1z=>B2M v.1 v.2.1 v.2.2.1 v.2.2.2.1 v.2.2.2.2) (fa:=B4R) (fun i=>((l,k,v,(i:Int),l):B1z)) l dP (isK k) (fun i=>((0,l.set i ((l.getD i dP).1,v),[],⟨#[]⟩,⟨#[]⟩):B1w)) _ (by omega) (fun i hi=>?_) ?_
  ·obtain ⟨h1,h2⟩:=hlt i hi
   simp only [B2M,h1,h2,cond_true,Int.toNat_natCast,A7y i (by omega),B09]
   rfl
  ·simp only [B2M,hge,cond_false]
 have e1:B8D l k v 0=(0,l,k,v,((l.findIdx (B2w k):Nat):Int)):=by
  have h:=B2k (ss:=fun v:B1A=>B2N v.1 v.2.1 v.2.2.1 v.2.2.2) (fa:=B8r) (fun i=>((l,k,v,(i:Int)):B1A)) l dP (B2w k) (fun i=>(0,l,k,v,(i:Int))) (0,l,k,v,(l.length:Int)) (by omega) (fun i hi=>?_) ?_
  ·refine h.trans ?_
   by_cases hc:l.findIdx (B2w k)<l.length
   ·rw [decide_eq_true hc];rfl
   ·have:=B1D (B2w k) l
    have he:l.findIdx (B2w k)=l.length:=by omega
    rw [decide_eq_false hc,he];rfl
  ·obtain ⟨h1,h2⟩:=hlt i hi
   simp only [B2N,h1,h2,cond_true,Int.toNat_natCast,A7y i (by omega),B09,B2w]
   cases (Op.bytesLess (l.getD i dP).1.toList k.toList||(l.getD i dP).1.toList==k.toList)<;>rfl
  ·simp only [B2N,hge,cond_false]
 have hle:=B1D (B2w k) l
 simp only [B1O,C7m,B8E,List.nil_append,e0]
 cases hc:decide (l.findIdx (isK k)<l.length) with
 | true =>
  simp only [cond_true,D2i,hc]
  refine ⟨?_,rfl⟩
  have e:decide ((([]:LBBe).length+l.length)*32≤MAXB)=true:=decide_eq_true (by simp [MAXB];omega)
  rw [e];rfl
 | false =>
  have f1:((1:Nat)==0)=false:=rfl
  have f2:((1:Nat)==1)=true:=rfl
  have f3:((0:Nat)==0)=true:=rfl
  simp only [cond_false,f1,f2,f3,e1,D2i,hc,Int.toNat_natCast,Bool.true_and,Int.toNat_zero,List.drop_zero,List.take_length]
  refine ⟨?_,by rw [List.append_assoc];rfl⟩
  simp only [Bool.and_eq_true,decide_eq_true_eq,MAXB,List.length_nil,List.length_take,List.length_append,List.length_cons,List.length_drop]
  refine ⟨decide_eq_true (by omega),?_,?_,?_,?_,?_⟩<;>omega
theorem D1c (l:LBBe) (k:ByteArray) (hl:l.length≤1099511627776):B1M l k=true∧C7l l k=C5a l k:=by
 have h:B2o l k 0 []=(0,C5a l k):=by
  refine A7o (fun v:B3O=>∃ i:Nat,v=(l,k,(i:Int),(l.take i).filter (fun p=>!isK k p))∧i≤l.length) (fun v=>(0,v.2.2.2++(l.drop v.2.2.1.toNat).filter (fun p=>!isK k p))) (fun v=>l.length - v.2.2.1.toNat) (fun v hv=>?_) ⟨0,rfl,by omega⟩ (by simp;omega)
  obtain ⟨i,rfl,hi⟩:=hv
  by_cases hlt:i<l.length
  ·left
   have h1:decide ((i:Int)<(l.length:Int))=true:=decide_eq_true (by omega)
   have h2:decide (0≤(i:Int)∧(i:Int)<(l.length:Int))=true:=decide_eq_true (by omega)
   have hfl:=List.length_filter_le (fun p=>!isK k p) (l.take i)
   rw [List.length_take] at hfl
   have h3:∀ x:ByteArray×ByteArray,decide ((((l.take i).filter (fun p=>!isK k p)).length+[x].length)*32≤MAXB)=true:=fun x=>decide_eq_true (by simp only [MAXB,List.length_singleton];omega)
   have hd:l.drop i=l.getD i dP::l.drop (i+1):=by rw [List.drop_eq_getElem_cons hlt];simp [List.getD_eq_getElem?_getD,hlt]
   have ht:l.take (i+1)=l.take i++[l.getD i dP]:=M8 hlt dP
   refine ⟨(l,k,((i+1:Nat):Int),(l.take (i+1)).filter (fun p=>!isK k p)),?_,⟨i+1,rfl,by omega⟩,?_,by simp only [Int.toNat_natCast];omega⟩
   ·simp only [B4X,h1,h2,h3,cond_true,Int.toNat_natCast,A7y i (by omega),B09,ht,List.filter_append,List.filter_cons,List.filter_nil]
    show cond (!isK k (l.getD i dP)) _ _=_
    cases isK k (l.getD i dP)<;>simp
   ·simp only [Int.toNat_natCast,ht,hd,List.filter_append,List.filter_cons,List.filter_nil]
    cases isK k (l.getD i dP)<;>simp
  ·right
   obtain rfl:i=l.length:=by omega
   have h1:decide ((l.length:Int)<(l.length:Int))=false:=decide_eq_false (by omega)
   simp only [B4X,h1,cond_false,Int.toNat_natCast,List.drop_length,List.filter_nil,List.append_nil]
 exact ⟨by simp only [B1M,h];rfl,by simp only [C7l,h]⟩
theorem D2F (m:LBBe) (l:Lq2) (hm:m.length≤1000000000) (hl:l.length≤1000000000):B2A m l=true∧B8Z m l=l.foldl C2L m:=by
 have h:B3V l 0 m=(0,l.foldl C2L m):=by
  refine D1Y (ss:=fun v:B22=>B4b v.1 v.2.1 v.2.2) (fa:=A8J) (fun i b=>((l,(i:Int),b):B22)) l dOp C2L (fun b=>((0,b):B2V)) (fun i b=>b.length≤m.length+i) (by omega) (fun i b hi hb=>⟨?_,by have:=D1x b (l.getD i dOp);omega⟩) (fun b hb=>?_) (by simp)
  ·have h1:decide ((i:Int)<(l.length:Int))=true:=decide_eq_true (by omega)
   have h2:decide (0≤(i:Int)∧(i:Int)<(l.length:Int))=true:=decide_eq_true (by omega)
   have e:l.getD i ((0:Int),((⟨#[]⟩:ByteArray),(⟨#[]⟩:ByteArray)))=l.getD i dOp:=rfl
   obtain ⟨p1,p2⟩:=D1d b (l.getD i dOp).2.1 (l.getD i dOp).2.2 (by omega)
   obtain ⟨d1,d2⟩:=D1c b (l.getD i dOp).2.1 (by omega)
   simp only [B4b,h1,h2,cond_true,Int.toNat_natCast,A7y i (by omega),e,C1O,C1R,p1,p2,d1,d2,C2L]
   cases (l.getD i dOp).1==1<;>cases (l.getD i dOp).1==2<;>rfl
  ·have h1:decide ((l.length:Int)<(l.length:Int))=false:=decide_eq_false (by omega)
   simp only [B4b,h1,cond_false]
 have hq:decide ((([]:LBBe).length+m.length)*32≤MAXB)=true:=decide_eq_true (by simp [MAXB];omega)
 simp only [B2A,B8Z,List.nil_append,h,hq]
 exact ⟨rfl,trivial⟩
theorem D5C (r:M9) (m:List A0n) (held:List M9) (seen:List Int) (hr:A0h r.2.2=true) (hm:m.length≤1000) (hh:held.length≤1048576) (ho:∀ x∈held,A0h x.2.2=true) (hs:seen.length≤1048576) :
  A8K r.1 r.2.1 r.2.2 m held seen=true∧(match C1B (decide (r.2.1∈seen)) m held r with
   | none=>(B70 r.1 r.2.1 r.2.2 m held seen).1=false
   | some (m', h')=>∃ s', B70 r.1 r.2.1 r.2.2 m held seen=(true,m', h', s')∧(s'=seen++[r.2.1]∨s'=seen∧held.any (O4 r.2.1)=true)):=by
 have a1:=(C1S held r.2.1 (by omega)).1
 have a2:=D5z held r.2.1 (by omega)
 have hl:=A7T hr
 obtain ⟨b1,b2⟩:=D3n hs r.2.1
 obtain ⟨c1,c2⟩:=D13 held r.2.2 (by omega) (fun x hx=>A7T (ho x hx)) hl
 obtain ⟨d1,d2⟩:=D2G m r.2.2 (by omega) hl
 have f1:decide ((held.length+[(r.1,(r.2.1,r.2.2))].length)*40≤MAXB)=true:=decide_eq_true (by simp only [List.length_singleton,MAXB];omega)
 have f2:decide ((seen.length+[r.2.1].length)*8≤MAXB)=true:=decide_eq_true (by simp only [List.length_singleton,MAXB];omega)
 have f3:U1 r.1 r.2.1 r.2.2=true:=decide_eq_true (by simp only [List.length_nil,MAXB];omega)
 have f4:A8e r.1 r.2.1 r.2.2=(r.1,r.2.1,r.2.2):=rfl
 have g0:B3Z r.1 r.2.1 r.2.2=true:=hr
 simp only [A8K,B70,C1B,a1,a2,b1,b2,c1,c2,d1,d2,f2,f3,f4,g0,Bool.true_and,Bool.and_true]
 cases hok:B2E r.1 r.2.1 r.2.2 with
 | false=>exact ⟨rfl,rfl⟩
 | true =>
  simp only [Bool.not_true,cond_false]
  cases hk:(r.1==1) with
  | true =>
   have hk1:r.1=1:=by simpa using hk
   simp only [cond_true]
   cases decide (r.2.1∈seen) with
   | true=>exact ⟨rfl,rfl⟩
   | false =>
    cases B3z held r.2.2 with
    | true=>exact ⟨rfl,rfl⟩
    | false =>
     cases C0C m r.2.2 with
     | false=>exact ⟨rfl,rfl⟩
     | true=>exact ⟨f1,_,by rw [hk1];rfl,.inl rfl⟩
  | false =>
   simp only [cond_false]
   cases ha:held.any (O4 r.2.1) with
   | false =>
    simp only [Bool.not_false,cond_true]
    cases (r.1==3) with
    | false=>exact ⟨rfl,rfl⟩
    | true=>cases decide (r.2.1∈seen) with
     | true=>exact ⟨rfl,rfl⟩
     | false=>exact ⟨rfl,_,rfl,.inl rfl⟩
   | true =>
    have hlt:=List.findIdx_lt_length.2 (List.any_eq_true.1 ha)
    have e1:B9H held r.2.1=((held.findIdx (O4 r.2.1):Nat):Int):=by rw [(C1S held r.2.1 (by omega)).2,decide_eq_true hlt];rfl
    generalize hi:held.findIdx (O4 r.2.1)=i at hlt e1 ⊢
    have e2:=A7y i (by omega)
    have e3:=C2o held (i+1)
    have e4:[]++held.take i++held.drop (i+1)=held.eraseIdx i:=by rw [List.nil_append,List.eraseIdx_eq_take_drop_succ]
    have q0:decide (0≤(i:Int)∧(i:Int)<(held.length:Int))=true:=decide_eq_true (by omega)
    have q1:decide (0≤(0:Int)∧(0:Int)≤(i:Int)∧(i:Int)≤(held.length:Int))=true:=decide_eq_true (by omega)
    have q2:decide (0≤((i+1:Nat):Int)∧((i+1:Nat):Int)≤(held.length:Int)∧(held.length:Int)≤(held.length:Int))=true:=decide_eq_true (by omega)
    have q3:decide ((([]:List M9).length+(held.take i).length)*40≤MAXB)=true:=decide_eq_true (by simp only [List.length_nil,List.length_take,MAXB];omega)
    have q4:decide ((([]++held.take i).length+(held.drop (i+1)).length)*40≤MAXB)=true:=decide_eq_true (by simp only [List.nil_append,List.length_drop,List.length_take,MAXB];omega)
    obtain ⟨s1,s2⟩:=D2F m (held.getD i I5).2.2 (by omega) (by have:=A7T (ho _ (Q1 hlt I5));omega)
    simp only [Bool.not_true,cond_false,e1,e2,Int.toNat_natCast,e3,e4,q0,q1,q2,q3,q4,B1a,s1,s2,Bool.true_and,Bool.and_true]
    cases (r.1==2) with
    | true =>
     simp only [cond_true]
     refine ⟨trivial,?_⟩
     cases decide (((((held.getD i I5).2.2.foldl C2L m).length:Nat):Int)≤60) with
     | true=>exact ⟨_,rfl,.inr ⟨rfl,trivial⟩⟩
     | false=>rfl
    | false =>
     simp only [cond_false]
     refine ⟨trivial,?_⟩
     cases decide ((m.length:Int)≤60) with
     | true=>exact ⟨_,rfl,.inr ⟨rfl,trivial⟩⟩
     | false=>rfl
theorem D4B {l:List M9} {i:Nat} (h:B32 l i=none):∀ k,B32 l (i+k)=none:=by
 intro k
 induction k with
 | zero=>exact h
 | succ k ih=>rw [Nat.add_succ];simp only [B32,ih,Option.bind_none]
theorem C8q {l:List M9} {i:Nat} (hi:i<l.length) {m:List A0n} {held:List M9} (hp:B32 l i=some (m,held)) (hs:C1B ((l.take i).any (O4 (l.getD i I5).2.1)) m held (l.getD i I5)=none):B32 l l.length=none:=by
 have h1:B32 l (i+1)=none:=by simp only [B32,hp,Option.bind_some];exact hs
 have:=D4B h1 (l.length - (i+1))
 rwa [show i+1+(l.length - (i+1))=l.length by omega] at this
theorem D2H (l:List M9) (hl:l.length≤1048576) (hr:∀ x∈l,A0h x.2.2=true):((O9 l).1=0∧(O9 l).2.1=false∧(O9 l).2.2.1=[]∧(O9 l).2.2.2.1=[]∧B32 l l.length=none)∨((O9 l).1=1∧B32 l l.length=some ((O9 l).2.2.2.2.1,(O9 l).2.2.2.2.2.1)):=by
 refine A6Q (ss:=fun v:A86=>A8E v.1 v.2.1 v.2.2.1 v.2.2.2.1 v.2.2.2.2) (fa:=B0q)
  (fun v=>∃ (i:Nat) (m:List A0n) (held:List M9) (seen:List Int),v=(l,(i:Int),m,held,seen)∧i≤l.length∧B32 l i=some (m,held)∧seen.length≤i∧∀ t,t∈seen↔(l.take i).any (O4 t)=true)
  (fun a:A7R=>(a.1=0∧a.2.1=false∧a.2.2.1=[]∧a.2.2.2.1=[]∧B32 l l.length=none)∨(a.1=1∧B32 l l.length=some (a.2.2.2.2.1,a.2.2.2.2.2.1))) (fun v=>l.length - v.2.1.toNat) ?_ ⟨0,[],[],[],rfl,Nat.zero_le _,rfl,by simp,by simp⟩ (by simp;omega)
 rintro v ⟨i,m,held,seen,rfl,hi,hp,hs,hse⟩
 by_cases hlt:i<l.length
 ·have e1:decide ((i:Int)<(l.length:Int))=true:=decide_eq_true (by omega)
  have e2:decide (0≤(i:Int)∧(i:Int)<(l.length:Int))=true:=decide_eq_true (by omega)
  have I:=D3v hr i hi m held hp
  have o:=D5C (l.getD i I5) m held seen (hr _ (Q1 hlt I5)) (by have:=I.hml;omega) (by have:=I.hlen;omega) (fun x hx=>(I.hmem x hx).1) (by omega)
  have hkn:decide ((l.getD i I5).2.1∈seen)=(l.take i).any (O4 (l.getD i I5).2.1):=by
   cases hc:(l.take i).any (O4 (l.getD i I5).2.1) with
   | true=>exact decide_eq_true ((hse _).2 hc)
   | false=>exact decide_eq_false (fun h=>by rw [(hse _).1 h] at hc;cases hc)
  rw [hkn] at o
  obtain ⟨o1,o2⟩:=o
  simp only [A8E,B2s,e1,e2,cond_true,Int.toNat_natCast,B1a,o1,A7y i (by omega)]
  cases hst:C1B ((l.take i).any (O4 (l.getD i I5).2.1)) m held (l.getD i I5) with
  | none =>
   rw [hst] at o2
   simp only [o2,Bool.not_false,cond_true]
   exact .inr ⟨_,rfl,.inl ⟨rfl,rfl,rfl,rfl,C8q hlt hp hst⟩⟩
  | some s =>
   obtain ⟨m', h'⟩:=s
   rw [hst] at o2
   obtain ⟨s', o3,o4⟩:=o2
   simp only [o3,Bool.not_true,cond_false]
   refine .inl ⟨_,rfl,⟨i+1,m', h', s', rfl,by omega,by simp only [B32,hp,Option.bind_some];exact hst,?_,fun t=>?_⟩,by simp only [Int.toNat_natCast];omega⟩
   ·rcases o4 with rfl | ⟨rfl,_⟩
    ·rw [List.length_append];simp;omega
    ·omega
   ·rw [M8 hlt I5,List.any_append,Bool.or_eq_true]
    have hone:([l.getD i I5].any (O4 t)=true)↔(l.getD i I5).2.1=t:=by simp [O4]
    rw [hone]
    rcases o4 with rfl | ⟨rfl,hany⟩
    ·rw [List.mem_append,hse t,List.mem_singleton]
     exact or_congr Iff.rfl eq_comm
    ·rw [hse t]
     refine ⟨.inl,?_⟩
     rintro (h | h)
     ·exact h
     ·subst h
      obtain ⟨x,hx1,hx2⟩:=List.any_eq_true.1 hany
      have:=(I.hmem x hx1).2
      rw [show x.2.1=(l.getD i I5).2.1 from beq_iff_eq.1 hx2] at this
      exact this
 ·obtain rfl:i=l.length:=by omega
  have e1:decide ((l.length:Int)<(l.length:Int))=false:=decide_eq_false (by omega)
  simp only [A8E,e1,cond_false]
  exact .inr ⟨_,rfl,.inr ⟨rfl,hp⟩⟩
theorem D1e (l:List M9) (hl:l.length≤1048576) (hr:∀ x∈l,A0h x.2.2=true):A8c l=true∧B1P l=A9r l:=by
 simp only [A8c,B1P,A9r]
 rcases D2H l hl hr with ⟨h1,h2,h3,h4,h5⟩ | ⟨h1,h2⟩
 ·rw [h1,h2,h3,h4,h5];exact ⟨rfl,rfl⟩
 ·rw [h1,h2];exact ⟨rfl,rfl⟩
theorem B5Q {l:List M9} (h:B4o l):∀ x∈l,A0h x.2.2=true:=fun x hx=>h.2 x hx
theorem D3l (s:ByteArray) (i:Nat):C1c s i=B8C s i:=by
 have hb:0≤bt s (i:Int)∧bt s (i:Int)<256:=by
  unfold bt
  split
  ·have:=UInt8.toNat_lt s[(i:Int).toNat];omega
  ·simp
 have e:=A6J (n:=bt s (i:Int)) (by omega) (by omega)
 simp only [C1c,B8C,A7P,B5N,e]
 generalize bt s (i:Int)=c
 by_cases h1:c ≥ 97<;>by_cases h2:c≤122<;>by_cases h3:c ≥ 48<;>by_cases h4:c≤57<;>simp [h1,h2,h3,h4]
theorem D3m (s:ByteArray):C3q s=B6Q s:=by
 have e:A4G (C1c s) (s.size - (0:Int).toNat) (0:Int).toNat=A4G (B8C s) (s.size - (0:Int).toNat) (0:Int).toNat:=C7w _ _ (fun j _ _=>D3l s j)
 simp only [C3q,B6Q,C7i,A8w,A7P,e]
 cases A4G (B8C s) (s.size - (0:Int).toNat) (0:Int).toNat<;>cases decide ((s.size:Int) ≥ 1)<;>cases decide ((s.size:Int)≤12)<;>rfl
theorem D4A (k:Int) (s v:ByteArray):C8J k s v=C70 k s v:=by
 simp only [C8J,C70,D3m,D23,A7P]
 cases B6Q s with
 | false =>
  by_cases h1:k=1<;>by_cases h2:k=2<;>by_cases h3:k=3<;>by_cases h4:v=⟨#[]⟩<;>by_cases h5:k ≥ 1<;>by_cases h6:k≤3<;>simp [h1,h2,h3,h4,h5,h6]<;>omega
 | true =>
  by_cases h2:k=2
  ·subst h2
   by_cases h4:v=⟨#[]⟩
   ·subst h4;simp [ByteArray.size]
   ·simp [h4]
  ·by_cases h1:k=1
   ·subst h1;simp
   ·by_cases h3:k=3
    ·subst h3;simp
    ·by_cases h5:k ≥ 1<;>by_cases h6:k≤3<;>simp [h1,h2,h3,h5,h6]<;>omega
theorem D4z (l:Lq2) (i:Nat):C6y l i=C58 l i:=by
 simp only [C6y,C58,D4A]
 rw [← C9V,Bool.not_not]
theorem D3r (l:Lq2):C8H l=C7Z l:=by
 have e:A4G (C6y l) (l.length - (0:Int).toNat) (0:Int).toNat=A4G (C58 l) (l.length - (0:Int).toNat) (0:Int).toNat:=C7w _ _ (fun j _ _=>D4z l j)
 simp only [C8H,C7Z,e]
 rfl
theorem D3u (k t:Int) (l:Lq2):B2E k t l=D0j k t l:=by
 simp only [B2E,D0j,C59,D3r]
 rw [show A8w t 1 1000000=A7P t 1 1000000 from rfl]
 cases A7P t 1 1000000<;>simp
theorem B8W (l:List M9) (t:Int) (hl:l.length≤1099511627776):X6 l t=true∧A7J l t=cond (decide (l.reverse.findIdx (O4 t)<l.length)) ((l.length:Int) - 1 - ((l.reverse.findIdx (O4 t):Nat):Int)) (-1):=by
 have e0:=A6J (n:=(l.length:Int) - 1) (by omega) (by omega)
 have e:B1F l t ((l.length:Int) - 1)=cond (decide (l.reverse.findIdx (O4 t)<l.reverse.length)) (0,(l.length:Int) - 1 - ((l.reverse.findIdx (O4 t):Nat):Int)) (1,0):=by
  have:=B2k (ss:=fun v:B1k=>B1R v.1 v.2.1 v.2.2) (fa:=B6z) (fun i=>((l,t,(l.length:Int) - 1 - (i:Int)):B1k)) l.reverse I5 (O4 t) (fun i=>((0,(l.length:Int) - 1 - (i:Int)):B2U)) (1,0) (by rw [List.length_reverse];omega) (fun i hi=>by
   rw [List.length_reverse] at hi
   have h1:decide ((l.length:Int) - 1 - (i:Int) ≥ 0)=true:=decide_eq_true (by omega)
   have h2:decide (0≤(l.length:Int) - 1 - (i:Int)∧(l.length:Int) - 1 - (i:Int)<(l.length:Int))=true:=decide_eq_true (by omega)
   have h3:((l.length:Int) - 1 - (i:Int)).toNat=l.length - 1 - i:=by omega
   have h4:l.reverse.getD i I5=l.getD (l.length - 1 - i) I5:=by
    simp only [List.getD_eq_getElem?_getD]
    rw [List.getElem?_reverse hi]
   have h6:(l.length:Int) - 1 - (i:Int) - 1=(l.length:Int) - 1 - ((i+1:Nat):Int):=by omega
   have h5:=A6J (n:=(l.length:Int) - 1 - ((i+1:Nat):Int)) (by omega) (by omega)
   simp only [B1R,h1,h2,cond_true,h3,h5,B1a,h4,O4,h6]) (by
   rw [List.length_reverse]
   have h1:decide ((l.length:Int) - 1 - (l.length:Int) ≥ 0)=false:=decide_eq_false (by omega)
   simp only [B1R,h1,cond_false])
  have e2:B1F l t ((l.length:Int) - 1)=itX (fun v:B1k=>B1R v.1 v.2.1 v.2.2) B6z (l,t,(l.length:Int) - 1 - ((0:Nat):Int)):=by
   rw [show (l.length:Int) - 1 - ((0:Nat):Int)=(l.length:Int) - 1 by omega];rfl
  exact e2.trans this
 rw [List.length_reverse] at e
 simp only [X6,A7J,e0,e]
 cases decide (l.reverse.findIdx (O4 t)<l.length)<;>exact ⟨rfl,rfl⟩
theorem C9I (l:List M9) (t:Int) (hl:l.length≤1099511627776):decide (A7J l t<0)=!(l.any (O4 t))∧decide (A7J l t ≥ 0)=l.any (O4 t):=by
 rw [(B8W l t hl).2]
 cases ha:l.any (O4 t) with
 | true =>
  have:l.reverse.findIdx (O4 t)<l.length:=by
   rw [← List.length_reverse]
   refine List.findIdx_lt_length.2 ?_
   obtain ⟨x,hx,hp⟩:=List.any_eq_true.1 ha
   exact ⟨x,List.mem_reverse.2 hx,hp⟩
  rw [decide_eq_true this]
  exact ⟨decide_eq_false (by simp only [cond_true];omega),decide_eq_true (by simp only [cond_true];omega)⟩
 | false =>
  have:¬ l.reverse.findIdx (O4 t)<l.length:=by
   intro hc
   rw [← List.length_reverse] at hc
   obtain ⟨x,hx,hp⟩:=List.findIdx_lt_length.1 hc
   rw [List.any_eq_true.2 ⟨x,List.mem_reverse.1 hx,hp⟩] at ha
   cases ha
  rw [decide_eq_false this]
  exact ⟨rfl,rfl⟩
theorem D2L (a b:ByteArray):(a.toList==b.toList)=(b.toList==a.toList):=by
 rw [D23,D23];exact decide_eq_decide.2 eq_comm
theorem D5Z (ops l:Lq2) (held:List M9) (n i k m:Int) (o:Int×ByteArray×ByteArray) (ho:ops.length≤1048576) :
  B4m ops held n i l m k ops (ops.length:Int) 0 o.1 o.2.1 o.2.2=cond (C23 o.2.1 ops) (0,true,[],[],0,0,[],0,0) (1,false,ops,held,n,i,l,m,k):=by
 refine B4S (ss:=fun v:A8p=>A9g v.1 v.2.1 v.2.2.1 v.2.2.2.1 v.2.2.2.2.1 v.2.2.2.2.2.1 v.2.2.2.2.2.2.1 v.2.2.2.2.2.2.2.1 v.2.2.2.2.2.2.2.2.1 v.2.2.2.2.2.2.2.2.2 o.1 o.2.1 o.2.2) (fa:=B4j) (fun j=>((ops,held,n,i,l,m,k,ops,(ops.length:Int),(j:Int)):A8p)) ops dOp (fun x=>o.2.1.toList==x.2.1.toList) _ _ (by omega) (fun j hj=>?_) ?_
 ·have h1:decide ((j:Int)<(ops.length:Int))=true:=decide_eq_true (by omega)
  have h4:decide (0≤(j:Int)∧(j:Int)<(ops.length:Int))=true:=decide_eq_true (by omega)
  simp only [A9g,B8A,Int.toNat_natCast,h1,h4,cond_true,A7y j (by omega),D2L _ o.2.1]
 ·have h1:decide ((ops.length:Int)<(ops.length:Int))=false:=decide_eq_false (by omega)
  simp only [A9g,h1,cond_false]
theorem D5n (ops l:Lq2) (held:List M9) (n i:Int) (hl:l.length≤1048576) (ho:ops.length≤1048576) :
  B4l ops held n i l (l.length:Int) 0=cond (B8F l ops) (0,true,[],[],0,0) (1,false,ops,held,n,i):=by
 refine B4S (ss:=fun v:A8o=>A9f v.1 v.2.1 v.2.2.1 v.2.2.2.1 v.2.2.2.2.1 v.2.2.2.2.2.1 v.2.2.2.2.2.2) (fa:=B07) (fun k=>((ops,held,n,i,l,(l.length:Int),(k:Int)):A8o)) l dOp (fun o=>C23 o.2.1 ops) _ _ (by omega) (fun k hk=>?_) ?_
 ·have h1:decide ((k:Int)<(l.length:Int))=true:=decide_eq_true (by omega)
  have h2:decide (0≤(k:Int)∧(k:Int)<(l.length:Int))=true:=decide_eq_true (by omega)
  simp only [A9f,B3x,B8A,Int.toNat_natCast,h1,h2,cond_true,D5Z ops l held n i (k:Int) (l.length:Int) (l.getD k dOp) ho]
  cases C23 (l.getD k dOp).2.1 ops
  ·simp only [cond_false,A7y k (by omega)];rfl
  ·rfl
 ·have h1:decide ((l.length:Int)<(l.length:Int))=false:=decide_eq_false (by omega)
  simp only [A9f,h1,cond_false]
theorem D0h (held:List M9) (ops:Lq2) (hl:held.length≤1099511627776) (hh:∀ r∈held,r.2.2.length≤1048576) (ho:ops.length≤1048576):U0 held ops=true∧Z3 held ops=B3z held ops:=by
 have e:A88 ops held (held.length:Int) 0=cond (B3z held ops) (0,true) (1,false):=by
  refine B4S (ss:=fun v:A8n=>A9e v.1 v.2.1 v.2.2.1 v.2.2.2) (fa:=B06) (fun i=>((ops,held,(held.length:Int),(i:Int)):A8n)) held I5 (fun r=>B8F r.2.2 ops) _ _ (by omega) (fun i hi=>?_) ?_
  ·have h1:decide ((i:Int)<(held.length:Int))=true:=decide_eq_true (by omega)
   have h2:decide (0≤(i:Int)∧(i:Int)<(held.length:Int))=true:=decide_eq_true (by omega)
   simp only [A9e,B3y,B1a,Int.toNat_natCast,h1,h2,cond_true,D5n ops (held.getD i I5).2.2 held (held.length:Int) (i:Int) (hh _ (Q1 hi I5)) ho]
   cases B8F (held.getD i I5).2.2 ops
   ·simp only [cond_false,A7y i (by omega)];rfl
   ·rfl
  ·have h1:decide ((held.length:Int)<(held.length:Int))=false:=decide_eq_false (by omega)
   simp only [A9e,h1,cond_false]
 simp only [U0,Z3,e]
 cases B3z held ops<;>exact ⟨rfl,rfl⟩
theorem C6l (l:LBBe) (k:ByteArray) (hl:l.length≤1099511627776):B0v l k=true∧B3w l k=cond (decide (l.findIdx (isK k)<l.length)) ((l.findIdx (isK k):Nat):Int) (-1):=by
 have e:L4 l (l.length:Int) 0 k=cond (decide (l.findIdx (isK k)<l.length)) (0,((l.findIdx (isK k):Nat):Int)) (1,0):=by
  refine B2k (ss:=fun v:K5=>L6 v.1 v.2.1 v.2.2 k) (fa:=P6) (fun i=>((l,(l.length:Int),(i:Int)):K5)) l dP (isK k) (fun i=>((0,(i:Int)):K3)) _ (by omega) (fun i hi=>?_) ?_
  ·have h1:decide ((i:Int)<(l.length:Int))=true:=decide_eq_true (by omega)
   have h2:decide (0≤(i:Int)∧(i:Int)<(l.length:Int))=true:=decide_eq_true (by omega)
   simp only [L6,h1,h2,cond_true,Int.toNat_natCast,A7y i (by omega),B09,Q3,C5r]
   rfl
  ·have h1:decide ((l.length:Int)<(l.length:Int))=false:=decide_eq_false (by omega)
   simp only [L6,h1,cond_false]
 simp only [B0v,B3w,L0,O7,e]
 cases decide (l.findIdx (isK k)<l.length)<;>exact ⟨rfl,rfl⟩
theorem C4d (l:LBBe) (k:ByteArray) (hl:l.length≤1099511627776):B1K l k=true∧C4c l k=(match D5m l k with | some v=>(v,true) | none=>((⟨#[]⟩:ByteArray),false)):=by
 obtain ⟨p1,p2⟩:=C6l l k hl
 simp only [B1K,C4c,p1,p2,D5m,C7F (isK k) dP l,Bool.true_and]
 cases hc:decide (l.findIdx (isK k)<l.length) with
 | true =>
  have hlt:=of_decide_eq_true hc
  have g1:decide (((l.findIdx (isK k):Nat):Int)<0)=false:=decide_eq_false (by omega)
  have g2:decide (0≤((l.findIdx (isK k):Nat):Int)∧((l.findIdx (isK k):Nat):Int)<(l.length:Int))=true:=decide_eq_true (by omega)
  simp only [cond_true,g1,g2,cond_false,Int.toNat_natCast]
  exact ⟨trivial,rfl⟩
 | false=>exact ⟨rfl,rfl⟩
theorem D1T (m:LBBe) (k:ByteArray) (hm:m.length≤1099511627776):C4c m k=B2D m k:=by
 rw [(C4K m k hm).2,(C4d m k hm).2]
 all_goals (cases D5m m k<;>rfl)
theorem D1V (m:LBBe) (ops:Lq2) (hm:m.length≤1099511627776) (ho:ops.length≤1048576):B0a m ops=true∧B4k m ops=C0C m ops:=by
 have e:B3U m ops (ops.length:Int) 0=cond (ops.any (misses m)) (0,false) (1,false):=by
  refine B4S (ss:=fun v:B21=>B4a v.1 v.2.1 v.2.2.1 v.2.2.2) (fa:=B6y) (fun i=>((m,ops,(ops.length:Int),(i:Int)):B21)) ops dOp (misses m) _ _ (by omega) (fun i hi=>?_) ?_
  ·have h1:decide ((i:Int)<(ops.length:Int))=true:=decide_eq_true (by omega)
   have h2:decide (0≤(i:Int)∧(i:Int)<(ops.length:Int))=true:=decide_eq_true (by omega)
   simp only [B4a,C1N,B8A,Int.toNat_natCast,h1,h2,cond_true,A7y i (by omega),(C4d m _ hm).1,D1T m _ hm,misses]
   generalize ((ops.getD i dOp).1 != 3)=a
   generalize (!((B2D m (ops.getD i dOp).2.1).2==(!((ops.getD i dOp).2.2.toList==(⟨#[]⟩:ByteArray).toList))))=b
   generalize (!((B2D m (ops.getD i dOp).2.1).1.toList==(ops.getD i dOp).2.2.toList))=c
   cases a<;>cases b<;>cases c<;>rfl
  ·have h1:decide ((ops.length:Int)<(ops.length:Int))=false:=decide_eq_false (by omega)
   simp only [B4a,h1,cond_false]
 simp only [B0a,B4k,e,C0C]
 cases ops.any (misses m)<;>exact ⟨rfl,rfl⟩
theorem D5B {l:List M9} (h:C8f l) {i j:Nat} (hi:i<l.length) (hj:j<l.length) (e:(l.getD i I5).2.1=(l.getD j I5).2.1):i=j:=by
 have hg:∀ k (hk:k<l.length),(l.getD k I5).2.1=(l.map (·.2.1))[k]'(by simpa using hk):=fun k hk=>by simp [List.getD_eq_getElem?_getD,hk]
 rw [hg i hi,hg j hj] at e
 exact (List.getElem_inj h).1 e
theorem D5M {l:List M9} (h:C8f l) (t:Int) (hl:l.length≤1099511627776) (ha:l.any (O4 t)=true):B9H l t=((l.findIdx (O4 t):Nat):Int)∧A7J l t=((l.findIdx (O4 t):Nat):Int)∧l.findIdx (O4 t)<l.length∧(l.getD (l.findIdx (O4 t)) I5).2.1=t:=by
 have h1:=List.findIdx_lt_length.2 (List.any_eq_true.1 ha)
 have h2:l.reverse.findIdx (O4 t)<l.length:=by
  rw [← List.length_reverse]
  refine List.findIdx_lt_length.2 ?_
  obtain ⟨x,hx,hp⟩:=List.any_eq_true.1 ha
  exact ⟨x,List.mem_reverse.2 hx,hp⟩
 have p1:O4 t (l.getD (l.findIdx (O4 t)) I5)=true:=by
  have:=List.findIdx_getElem (w:=h1)
  rw [List.getD_eq_getElem?_getD,List.getElem?_eq_getElem h1];exact this
 have p2:O4 t (l.getD (l.length - 1 - l.reverse.findIdx (O4 t)) I5)=true:=by
  have h3:l.reverse.findIdx (O4 t)<l.reverse.length:=by rw [List.length_reverse];exact h2
  have:=List.findIdx_getElem (w:=h3)
  have e:l.reverse.getD (l.reverse.findIdx (O4 t)) I5=l.getD (l.length - 1 - l.reverse.findIdx (O4 t)) I5:=by
   simp only [List.getD_eq_getElem?_getD]
   rw [List.getElem?_reverse h2]
  rw [← e,List.getD_eq_getElem?_getD,List.getElem?_eq_getElem h3];exact this
 have p1':(l.getD (l.findIdx (O4 t)) I5).2.1=t:=beq_iff_eq.1 (show ((l.getD (l.findIdx (O4 t)) I5).2.1==t)=true from p1)
 have p2':(l.getD (l.length - 1 - l.reverse.findIdx (O4 t)) I5).2.1=t:=beq_iff_eq.1 (show ((l.getD (l.length - 1 - l.reverse.findIdx (O4 t)) I5).2.1==t)=true from p2)
 have hij:=D5B h (i:=l.findIdx (O4 t)) (j:=l.length - 1 - l.reverse.findIdx (O4 t)) h1 (by omega) (by rw [p1', p2'])
 refine ⟨by rw [(C1S l t hl).2,decide_eq_true h1];rfl,?_,h1,p1'⟩
 rw [(B8W l t hl).2,decide_eq_true h2]
 simp only [cond_true]
 omega
theorem D0n (l:LBBe) (k v:ByteArray) (hl:l.length≤1099511627776):B1L k v l=true∧C7j k v l=D2i l k v:=by
 obtain ⟨p1,p2⟩:=C6l l k hl
 have e1:B2l k v 0 l=(0,k,v,((l.findIdx (B2w k):Nat):Int),l):=by
  have h:=B2k (ss:=fun u:B1x=>B2I u.1 u.2.1 u.2.2.1 u.2.2.2) (fa:=B8p) (fun i=>((k,v,(i:Int),l):B1x)) l dP (B2w k) (fun i=>((0,k,v,(i:Int),l):B1t)) (0,k,v,(l.length:Int),l) (by omega) (fun i hi=>?_) ?_
  ·refine h.trans ?_
   by_cases hc:l.findIdx (B2w k)<l.length
   ·rw [decide_eq_true hc];rfl
   ·have:=B1D (B2w k) l
    have he:l.findIdx (B2w k)=l.length:=by omega
    rw [decide_eq_false hc,he];rfl
  ·have h1:decide ((i:Int)<(l.length:Int))=true:=decide_eq_true (by omega)
   have h2:decide (0≤(i:Int)∧(i:Int)<(l.length:Int))=true:=decide_eq_true (by omega)
   simp only [B2I,h1,h2,cond_true,Int.toNat_natCast,A7y i (by omega),B09,B2w]
   cases (Op.bytesLess (l.getD i dP).1.toList k.toList||(l.getD i dP).1.toList==k.toList)<;>rfl
  ·have h1:decide ((l.length:Int)<(l.length:Int))=false:=decide_eq_false (by omega)
   simp only [B2I,h1,cond_false]
 have hle:=B1D (B2w k) l
 simp only [B1L,C7j,p1,p2,C22,e1,D3t,D70,D2i,Int.toNat_natCast]
 cases hc:decide (l.findIdx (isK k)<l.length) with
 | true =>
  have hlt:=of_decide_eq_true hc
  have g1:decide (((l.findIdx (isK k):Nat):Int) ≥ 0)=true:=decide_eq_true (by omega)
  have g2:decide (0≤((l.findIdx (isK k):Nat):Int)∧((l.findIdx (isK k):Nat):Int)<(l.length:Int))=true:=decide_eq_true (by omega)
  simp only [cond_true,g1,g2,Int.toNat_natCast,Bool.true_and]
  exact ⟨trivial,rfl⟩
 | false =>
  have g1:decide ((-1:Int) ≥ 0)=false:=by decide
  have g2:decide (0≤((l.findIdx (B2w k):Nat):Int)∧((l.findIdx (B2w k):Nat):Int)≤(l.length:Int))=true:=decide_eq_true (by omega)
  have g3:decide ((l.length+1)*32≤140737488355328)=true:=decide_eq_true (by omega)
  simp only [cond_false,g1,g2,g3,Bool.true_and]
  exact ⟨rfl,rfl⟩
theorem D3V {α:Type} {p:α→Bool} {x:α} (h:p x=false):[x].filter p=[]:=by simp [List.filter_cons,h]
theorem D7Y {α:Type} {p:α→Bool} {x:α} (h:p x=true):[x].filter p=[x]:=by simp [List.filter_cons,h]
theorem C96 (l:LBBe) (k:ByteArray) (hl:l.length≤1099511627776) (j:Nat) (hj:j<l.length) (hpre:(l.take j).filter (fun p=>!isK k p)=l.take j) (hat:isK k (l.getD j dP)=true) :
  ∃ r:LBBe,Z4 ((j:Nat):Int) (((j+1:Nat):Int)) l k=(0,(((C5a l k).length:Nat):Int),r)∧r.length=l.length∧r.take (C5a l k).length=C5a l k:=by
 refine A6Q (fun v:O5=>∃ (m:Nat) (r:LBBe),v=(((((l.take m).filter (fun p=>!isK k p)).length:Nat):Int),(m:Int),r)∧m≤l.length∧((l.take m).filter (fun p=>!isK k p)).length<m∧r.length=l.length∧r.take ((l.take m).filter (fun p=>!isK k p)).length=(l.take m).filter (fun p=>!isK k p)∧r.drop m=l.drop m)
  (fun a:N0=>∃ r:LBBe,a=(0,(((C5a l k).length:Nat):Int),r)∧r.length=l.length∧r.take (C5a l k).length=C5a l k) (fun v=>l.length - v.2.1.toNat) ?_ ⟨j+1,l,?_,by omega,?_,rfl,?_,rfl⟩ (by simp;omega)
 ·rintro v ⟨m,r,rfl,hm,hlt2,hr,ht,hd⟩
  by_cases hlt:m<l.length
  ·left
   have h1:decide ((m:Int)<(r.length:Int))=true:=decide_eq_true (by omega)
   have h2:decide (0≤(m:Int)∧(m:Int)<(r.length:Int))=true:=decide_eq_true (by omega)
   have h3:decide (0≤((((l.take m).filter (fun p=>!isK k p)).length:Nat):Int)∧((((l.take m).filter (fun p=>!isK k p)).length:Nat):Int)<(r.length:Int))=true:=decide_eq_true (by omega)
   have hg:r.getD m dP=l.getD m dP:=by
    have:=congrArg (fun x:LBBe=>x[0]?) hd
    simp only [List.getElem?_drop,Nat.add_zero] at this
    simp only [List.getD_eq_getElem?_getD,this]
   have htk:l.take (m+1)=l.take m++[l.getD m dP]:=M8 hlt dP
   have hdd:∀ x:LBBe,x.drop m=l.drop m→x.drop (m+1)=l.drop (m+1):=fun x hx=>by
    rw [← List.drop_drop,← List.drop_drop,hx]
   cases hc:isK k (l.getD m dP) with
   | true =>
    have hf:(l.take (m+1)).filter (fun p=>!isK k p)=(l.take m).filter (fun p=>!isK k p):=by rw [htk,List.filter_append,D3V (by rw [hc];rfl),List.append_nil]
    refine ⟨(((((l.take (m+1)).filter (fun p=>!isK k p)).length:Nat):Int),((m+1:Nat):Int),r),?_,⟨m+1,r,rfl,by omega,by rw [hf];omega,hr,by rw [hf];exact ht,hdd r hd⟩,by simp only [Int.toNat_natCast];omega⟩
    have hk:M1 (m:Int) r k=true:=by simp only [M1,B43,B09,Int.toNat_natCast,hg];exact hc
    simp only [O3,h1,h2,hk,cond_true,Bool.not_true,cond_false,A7y m (by omega),hf]
   | false =>
    have hf:(l.take (m+1)).filter (fun p=>!isK k p)=(l.take m).filter (fun p=>!isK k p)++[l.getD m dP]:=by rw [htk,List.filter_append,D7Y (by rw [hc];rfl)]
    refine ⟨(((((l.take (m+1)).filter (fun p=>!isK k p)).length:Nat):Int),((m+1:Nat):Int),r.set ((l.take m).filter (fun p=>!isK k p)).length (l.getD m dP)),?_,⟨m+1,_,rfl,by omega,by rw [hf];simp;omega,by simp [hr],?_,hdd _ ?_⟩,by simp only [Int.toNat_natCast];omega⟩
    ·have hk:M1 (m:Int) r k=false:=by simp only [M1,B43,B09,Int.toNat_natCast,hg];exact hc
     have hfl:(((l.take m).filter (fun p=>!isK k p))++[l.getD m dP]).length=((l.take m).filter (fun p=>!isK k p)).length+1:=by simp
     simp only [O3,h1,h2,h3,hk,cond_true,Bool.not_false,A7y m (by omega),A7y ((l.take m).filter (fun p=>!isK k p)).length (by omega),hf,hfl,Int.toNat_natCast,B09,hg]
    ·rw [hf,List.length_append,List.length_singleton,List.take_add_one,List.take_set_of_le (Nat.le_refl _),ht]
     congr 1
     simp [List.getElem?_set,show ((l.take m).filter (fun p=>!isK k p)).length<r.length by omega]
    ·rw [List.drop_set_of_lt hlt2];exact hd
  ·right
   obtain rfl:m=l.length:=by omega
   have h1:decide ((l.length:Int)<(r.length:Int))=false:=decide_eq_false (by omega)
   rw [List.take_length] at ht
   refine ⟨(0,(((C5a l k).length:Nat):Int),r),?_,r,rfl,hr,ht⟩
   simp only [O3,h1,cond_false,List.take_length]
   rfl
 ·rw [M8 hj dP,List.filter_append,hpre,D3V (by rw [hat];rfl),List.append_nil,List.length_take];congr 2;omega
 ·rw [M8 hj dP,List.filter_append,hpre,D3V (by rw [hat];rfl),List.append_nil,List.length_take];omega
 ·rw [M8 hj dP,List.filter_append,hpre,D3V (by rw [hat];rfl),List.append_nil,List.length_take,Nat.min_eq_left (by omega)]
theorem D0i (l:LBBe) (k:ByteArray) (hl:l.length≤1099511627776):B1J l k=true∧C7h l k=C5a l k:=by
 have e:L3 (l.length:Int) 0 l k=cond (decide (l.findIdx (isK k)<l.length)) (0,((l.findIdx (isK k):Nat):Int)) (1,0):=by
  refine B2k (ss:=fun v:K4=>L5 v.1 v.2 l k) (fa:=P5) (fun i=>(((l.length:Int),(i:Int)):K4)) l dP (isK k) (fun i=>((0,(i:Int)):K2)) _ (by omega) (fun i hi=>?_) ?_
  ·have h1:decide ((i:Int)<(l.length:Int))=true:=decide_eq_true (by omega)
   have h2:decide (0≤(i:Int)∧(i:Int)<(l.length:Int))=true:=decide_eq_true (by omega)
   simp only [L5,h1,h2,cond_true,Int.toNat_natCast,A7y i (by omega),B09,Q2,B43]
   rfl
  ·have h1:decide ((l.length:Int)<(l.length:Int))=false:=decide_eq_false (by omega)
   simp only [L5,h1,cond_false]
 have hq:J7 l=true:=decide_eq_true (by simp [MAXB];omega)
 have hdf:M5 l k=true∧(R6 l k).1=C5a l k:=by
  have hidx:J5 l k=true∧K1 l k=cond (decide (l.findIdx (isK k)<l.length)) ((l.findIdx (isK k):Nat):Int) (-1):=by
   simp only [J5,K1,e]
   cases decide (l.findIdx (isK k)<l.length)<;>exact ⟨rfl,rfl⟩
  simp only [M5,R6,T7,hidx.1,hidx.2,Bool.true_and]
  cases hc:decide (l.findIdx (isK k)<l.length) with
  | false =>
   have hge:=of_decide_eq_false hc
   simp only [cond_false,show ((-1:Int)==-1)=true from rfl,cond_true]
   refine ⟨trivial,?_⟩
   symm
   apply List.filter_eq_self.2
   intro p hp
   have:=List.findIdx_eq_length.1 (show l.findIdx (isK k)=l.length by have:=B1D (isK k) l;omega) p hp
   rw [this];rfl
  | true =>
   have hlt:=of_decide_eq_true hc
   have hat:isK k (l.getD (l.findIdx (isK k)) dP)=true:=by
    have:=List.findIdx_getElem (w:=hlt)
    simpa [List.getD_eq_getElem?_getD,hlt] using this
   have hpre:(l.take (l.findIdx (isK k))).filter (fun p=>!isK k p)=l.take (l.findIdx (isK k)):=by
    apply List.filter_eq_self.2
    intro p hp
    obtain ⟨i,hi,rfl⟩:=List.mem_iff_getElem.1 hp
    rw [List.length_take] at hi
    have:=List.not_of_lt_findIdx (p:=isK k) (xs:=l) (i:=i) (by omega)
    simpa using this
   obtain ⟨r,r1,r2,r3⟩:=C96 l k hl _ hlt hpre hat
   have hne:(((l.findIdx (isK k):Nat):Int)==-1)=false:=by simp only [beq_eq_false_iff_ne];omega
   have hdl:=D1L l k
   simp only [cond_true,hne,cond_false,A7y _ (show l.findIdx (isK k)<9223372036854775807 by omega),r1,Int.toNat_natCast]
   constructor
   ·simp only [Bool.and_eq_true,decide_eq_true_eq,List.length_append,List.length_take,List.length_replicate,List.length_drop]
    refine ⟨rfl,?_,?_⟩<;>omega
   ·rw [r3,List.append_assoc,List.take_left']
    rfl
 simp only [B1J,C7h,L2,hq,hdf.1,hdf.2,Bool.and_self]
 exact ⟨trivial,trivial⟩
theorem D1U (m:LBBe) (l:Lq2) (hm:m.length≤1000000000) (hl:l.length≤1000000000):B2z m l=true∧B8B m l=l.foldl C2L m:=by
 have h:B3T l (l.length:Int) 0 m=(0,l.foldl C2L m):=by
  refine D1Y (ss:=fun v:B20=>B39 v.1 v.2.1 v.2.2.1 v.2.2.2) (fa:=B3Q) (fun i b=>((l,(l.length:Int),(i:Int),b):B20)) l dOp C2L (fun b=>((0,b):B2T)) (fun i b=>b.length≤m.length+i) (by omega) (fun i b hi hb=>⟨?_,by have:=D1x b (l.getD i dOp);omega⟩) (fun b hb=>?_) (by simp)
  ·have h1:decide ((i:Int)<(l.length:Int))=true:=decide_eq_true (by omega)
   have h2:decide (0≤(i:Int)∧(i:Int)<(l.length:Int))=true:=decide_eq_true (by omega)
   have e:l.getD i ((0:Int),((⟨#[]⟩:ByteArray),(⟨#[]⟩:ByteArray)))=l.getD i dOp:=rfl
   obtain ⟨p1,p2⟩:=D0n b (l.getD i dOp).2.1 (l.getD i dOp).2.2 (by omega)
   obtain ⟨d1,d2⟩:=D0i b (l.getD i dOp).2.1 (by omega)
   simp only [B39,h1,h2,cond_true,Int.toNat_natCast,A7y i (by omega),e,C1M,C1Q,p1,p2,d1,d2,C2L]
   cases (l.getD i dOp).1==1<;>cases (l.getD i dOp).1==2<;>rfl
  ·have h1:decide ((l.length:Int)<(l.length:Int))=false:=decide_eq_false (by omega)
   simp only [B39,h1,cond_false]
 have hq:J7 m=true:=decide_eq_true (by simp [MAXB];omega)
 simp only [B2z,B8B,L2,h,hq]
 exact ⟨rfl,trivial⟩
theorem D5k (h:List M9) (k:Nat) (hk:k<h.length) (hl:h.length≤1099511627776):M7 (k:Int) ((k+1:Nat):Int) h=true∧R0 (k:Int) ((k+1:Nat):Int) h=h.eraseIdx k:=by
 have e0:((k:Int)==((k+1:Nat):Int))=false:=beq_eq_false_iff_ne.2 (by omega)
 have e1:=C2o h (k+1)
 have e2:(h.drop (k+1)).length=h.length - (k+1):=List.length_drop
 have e3:(h.take k++h.drop (k+1)).length=k+(h.drop (k+1)).length:=by rw [List.length_append,List.length_take];omega
 simp only [M7,R0,Int.toNat_natCast,e0,cond_false,e1]
 have e4:(h.take k++h.drop (k+1)++h.drop (k+(h.drop (k+1)).length)).take (k+(h.drop (k+1)).length)=h.take k++h.drop (k+1):=List.take_left' e3
 have e5:(h.take k++h.drop (k+1)++h.drop (k+(h.drop (k+1)).length)).length=h.length:=by
  simp only [List.length_append,List.length_take,List.length_drop];omega
 refine ⟨?_,?_⟩
 ·rw [e5]
  simp only [Bool.and_eq_true,decide_eq_true_eq]
  refine ⟨by omega,by omega,by omega,by omega,by omega⟩
 ·rw [e4,List.append_assoc,List.take_left' e3,List.eraseIdx_eq_take_drop_succ]
theorem D40 (r:M9) (ahead:List M9) (m:List A0n) (held:List M9) (hr:A0h r.2.2=true) (hok:B2E r.1 r.2.1 r.2.2=true) (hm:m.length≤1000) (hh:held.length≤1048576) (ha:ahead.length≤1048576) (ho:∀ x∈held,A0h x.2.2=true) (h1:C8f held) :
  R5 r.1 r.2.1 r.2.2 ahead m held=true∧(match C1B (ahead.any (O4 r.2.1)) m held r with
   | none=>(A9Z r.1 r.2.1 r.2.2 ahead m held).1=false
   | some (m', h')=>A9Z r.1 r.2.1 r.2.2 ahead m held=(true,m', h')):=by
 have a1:=(B8W held r.2.1 (by omega)).1
 have a2:=(C9I held r.2.1 (by omega)).1
 have a3:=(B8W ahead r.2.1 (by omega)).1
 have a4:=(C9I ahead r.2.1 (by omega)).2
 have hl:=A7T hr
 obtain ⟨c1,c2⟩:=D0h held r.2.2 (by omega) (fun x hx=>A7T (ho x hx)) hl
 obtain ⟨d1,d2⟩:=D1V m r.2.2 (by omega) hl
 have f1:decide ((held.length+[((1:Int),(r.2.1,r.2.2))].length)*40≤MAXB)=true:=decide_eq_true (by simp only [List.length_singleton,MAXB];omega)
 have f3:K0 r.2.2=true:=decide_eq_true (by simp only [List.length_nil,MAXB];omega)
 have f4:L1 r.2.2=r.2.2:=rfl
 simp only [R5,A9Z,C1B,a1,a2,a3,a4,c1,c2,d1,d2,f1,f3,f4,hok,Bool.true_and,Bool.and_true,Bool.not_true,cond_false]
 cases hk:(r.1==1) with
 | true =>
  simp only [cond_true]
  cases ahead.any (O4 r.2.1) with
  | true=>first | exact ⟨rfl,rfl⟩ | exact ⟨trivial,rfl⟩
  | false =>
   cases B3z held r.2.2 with
   | true=>first | exact ⟨rfl,rfl⟩ | exact ⟨trivial,rfl⟩
   | false =>
    cases C0C m r.2.2 with
    | false=>first | exact ⟨rfl,rfl⟩ | exact ⟨trivial,rfl⟩
    | true=>first | exact ⟨rfl,rfl⟩ | exact ⟨trivial,rfl⟩
 | false =>
  simp only [cond_false]
  cases ha2:held.any (O4 r.2.1) with
  | false =>
   simp only [Bool.not_false,cond_true]
   cases (r.1==3) with
   | false=>first | exact ⟨rfl,rfl⟩ | exact ⟨trivial,rfl⟩
   | true=>cases ahead.any (O4 r.2.1) with
    | true=>first | exact ⟨rfl,rfl⟩ | exact ⟨trivial,rfl⟩
    | false=>first | exact ⟨rfl,rfl⟩ | exact ⟨trivial,rfl⟩
  | true =>
   obtain ⟨_,e1,hlt,_⟩:=D5M h1 r.2.1 (by omega) ha2
   generalize hi:held.findIdx (O4 r.2.1)=i at hlt e1 ⊢
   have e2:=A7y i (by omega)
   have q0:decide (0≤(i:Int)∧(i:Int)<(held.length:Int))=true:=decide_eq_true (by omega)
   obtain ⟨s1,s2⟩:=D1U m (held.getD i I5).2.2 (by omega) (by have:=A7T (ho _ (Q1 hlt I5));omega)
   obtain ⟨t1,t2⟩:=D5k held i hlt (by omega)
   simp only [Bool.not_true,cond_false,e1,e2,Int.toNat_natCast,q0,B1a,s1,s2,t1,t2,Bool.true_and,Bool.and_true]
   cases (r.1==2) with
   | true =>
    simp only [cond_true]
    refine ⟨trivial,?_⟩
    cases decide (((((held.getD i I5).2.2.foldl C2L m).length:Nat):Int)≤60) with
    | true=>rfl
    | false=>rfl
   | false =>
    simp only [cond_false]
    refine ⟨trivial,?_⟩
    cases decide ((m.length:Int)≤60) with
    | true=>rfl
    | false=>rfl
theorem D0k (l:List M9) (hl:l.length≤1048576) (hr:∀ x∈l,A0h x.2.2=true):A8b l=true∧B1E l=A9r l:=by
 have key:((T8 l).1=0∧(T8 l).2.1=false∧B32 l l.length=none)∨((T8 l).1=1∧B32 l l.length=some ((T8 l).2.2.1,(T8 l).2.2.2)):=by
  refine A6Q (ss:=fun v:A85=>A8D v.1 v.2.1 v.2.2.1 v.2.2.2.1 v.2.2.2.2.1 v.2.2.2.2.2) (fa:=A0k)
   (fun v=>∃ (i:Nat) (m:List A0n) (held:List M9),v=(l,l,(l.length:Int),(i:Int),m,held)∧i≤l.length∧B32 l i=some (m,held))
   (fun a:A7Q=>(a.1=0∧a.2.1=false∧B32 l l.length=none)∨(a.1=1∧B32 l l.length=some (a.2.2.1,a.2.2.2))) (fun v=>l.length - v.2.2.2.1.toNat) ?_ ⟨0,[],[],rfl,Nat.zero_le _,rfl⟩ (by simp;omega)
  rintro v ⟨i,m,held,rfl,hi,hp⟩
  by_cases hlt:i<l.length
  ·have e1:decide ((i:Int)<(l.length:Int))=true:=decide_eq_true (by omega)
   have e2:decide (0≤(i:Int)∧(i:Int)<(l.length:Int))=true:=decide_eq_true (by omega)
   have e3:decide (0≤(0:Int)∧(0:Int)≤(i:Int)∧(i:Int)≤(l.length:Int))=true:=decide_eq_true (by omega)
   have I:=D3v hr i hi m held hp
   have g0:B51 (l.getD i I5).1 (l.getD i I5).2.1 (l.getD i I5).2.2=true:=hr _ (Q1 hlt I5)
   simp only [A8D,B2q,B2u,e1,e2,e3,cond_true,Int.toNat_natCast,Int.toNat_zero,List.drop_zero,B1a,g0,← D3u,A7y i (by omega)]
   cases hok:B2E (l.getD i I5).1 (l.getD i I5).2.1 (l.getD i I5).2.2 with
   | false =>
    simp only [Bool.not_false,cond_true]
    exact .inr ⟨_,rfl,.inl ⟨rfl,rfl,C8q hlt hp (by simp only [C1B,hok,Bool.not_false,cond_true])⟩⟩
   | true =>
    obtain ⟨o1,o2⟩:=D40 (l.getD i I5) (l.take i) m held (hr _ (Q1 hlt I5)) hok (by have:=I.hml;omega) (by have:=I.hlen;omega) (by rw [List.length_take];omega) (fun x hx=>(I.hmem x hx).1) I.hone
    simp only [Bool.not_true,cond_false,o1,cond_true]
    cases hst:C1B ((l.take i).any (O4 (l.getD i I5).2.1)) m held (l.getD i I5) with
    | none =>
     rw [hst] at o2
     simp only [o2,Bool.not_false,cond_true]
     exact .inr ⟨_,rfl,.inl ⟨rfl,rfl,C8q hlt hp hst⟩⟩
    | some s =>
     obtain ⟨m', h'⟩:=s
     rw [hst] at o2
     simp only [o2,Bool.not_true,cond_false]
     exact .inl ⟨_,rfl,⟨i+1,m', h', rfl,by omega,by simp only [B32,hp,Option.bind_some];exact hst⟩,by simp only [Int.toNat_natCast];omega⟩
  ·obtain rfl:i=l.length:=by omega
   have e1:decide ((l.length:Int)<(l.length:Int))=false:=decide_eq_false (by omega)
   simp only [A8D,e1,cond_false]
   exact .inr ⟨_,rfl,.inr ⟨rfl,hp⟩⟩
 simp only [A8b,B1E,A9r]
 rcases key with ⟨h1,h2,h5⟩ | ⟨h1,h2⟩
 ·rw [h1,h2,h5];exact ⟨rfl,rfl⟩
 ·rw [h1,h2];exact ⟨rfl,rfl⟩
theorem D4C {l:List M9} (h:B4o l):(A9r l).1.length≤60∧(A9r l).2.1.length≤l.length∧∀ x∈(A9r l).2.1,x.2.2.length≤1048576:=by
 simp only [A9r]
 cases hp:B32 l l.length with
 | none=>exact ⟨by simp,by simp,fun x hx=>by simp at hx⟩
 | some s =>
  have I:=D3v (B5Q h) l.length (Nat.le_refl _) s.1 s.2 (by rw [hp])
  exact ⟨I.hml,I.hlen,fun x hx=>A7T (I.hmem x hx).1⟩
noncomputable def C1C {α:Type} (q:α→α→Bool) (a b:List α):Bool:=(a.zip b).all fun p=>q p.1 p.2
noncomputable def B33 {α:Type} (q:α→α→Bool) (a b:List α):Bool:=cond ((a.length:Int) != (b.length:Int)) false (C1C q a b)
noncomputable def qP (x y:ByteArray×ByteArray):Bool:=(x.1.toList==y.1.toList)&&((x.2.toList==y.2.toList)&&true)
theorem D5I {α:Type} (a b:List α) (d:α) {i:Nat} (ha:i<a.length) (hb:i<b.length):(a.zip b).getD i (d,d)=(a.getD i d,b.getD i d):=by
 have hz:i<(a.zip b).length:=by rw [List.length_zip];omega
 simp only [List.getD_eq_getElem?_getD,List.getElem?_eq_getElem hz,List.getElem?_eq_getElem ha,List.getElem?_eq_getElem hb,Option.getD_some,List.getElem_zip]
theorem C1L {V A α:Type} {ss:V→V ⊕ A} {fa:A} (pk:Nat→V) (a b:List α) (d:α) (q:α→α→Bool) (bad last:A) (hab:a.length=b.length) (hn:a.length<4611686018427387904)
  (h:∀ i,i<a.length→ss (pk i)=cond (q (a.getD i d) (b.getD i d)) (.inl (pk (i+1))) (.inr bad)) (hl:ss (pk a.length)=.inr last):itX ss fa (pk 0)=cond (C1C q a b) last bad:=by
 have hz:(a.zip b).length=a.length:=by rw [List.length_zip];omega
 rw [B4S pk (a.zip b) (d,d) (fun p=>!(q p.1 p.2)) bad last (by omega) (fun i hi=>by
  rw [hz] at hi
  rw [h i hi,D5I a b d hi (by omega)]
  cases q (a.getD i d) (b.getD i d)<;>rfl) (by rw [hz];exact hl)]
 have:(a.zip b).any (fun p=>!(q p.1 p.2))=!(C1C q a b):=by
  simp only [C1C,List.all_eq_not_any_not,Bool.not_not]
 rw [this]
 cases C1C q a b<;>rfl
theorem C5c {α:Type} {a b:List α} (h:a.length=b.length):((a.length:Int) != (b.length:Int))=false:=by
 rw [h];simp
theorem C24 {α:Type} {a b:List α} (h:¬ a.length=b.length):((a.length:Int) != (b.length:Int))=true:=by
 simp only [bne_iff_ne,ne_eq];omega
theorem C8I (a b:List A0n) (hl:a.length≤1099511627776):A7L a b=true∧B0C a b=B33 qP a b:=by
 simp only [A7L,B0C,B33]
 by_cases hab:a.length=b.length
 ·have e : A73 a b 0 = cond (C1C qP a b) (1, false) (0, false) := by
   refine C1L (ss:=fun v:A0j=>A8a v.1 v.2.1 v.2.2) (fa:=A9x) (fun i=>((a,b,(i:Int)):A0j)) a b dP qP _ _ hab (by omega) (fun i hi=>?_) ?_
   ·have h1:decide ((i:Int)<(a.length:Int))=true:=decide_eq_true (by omega)
    have h2:decide (0≤(i:Int)∧(i:Int)<(a.length:Int))=true:=decide_eq_true (by omega)
    have h3:decide (0≤(i:Int)∧(i:Int)<(b.length:Int))=true:=decide_eq_true (by omega)
    simp only [A8a,h1,h2,h3,cond_true,Int.toNat_natCast,A7y i (by omega),B09,qP]
    generalize ((a.getD i dP).1.toList==(b.getD i dP).1.toList&&((a.getD i dP).2.toList==(b.getD i dP).2.toList&&true))=z
    cases z<;>rfl
   ·have h1:decide ((a.length:Int)<(a.length:Int))=false:=decide_eq_false (by omega)
    simp only [A8a,h1,cond_false]
  rw [C5c hab,e]
  cases C1C qP a b<;>exact ⟨rfl,rfl⟩
 ·rw [C24 hab];exact ⟨rfl,rfl⟩
theorem C6M (a b:List A0n) (hl:a.length≤1099511627776):P0 a b=true∧V6 a b=B33 qP a b:=by
 simp only [P0,V6,B33]
 by_cases hab:a.length=b.length
 ·have e : R4 a b ((a.length : Nat) : Int) 0 = cond (C1C qP a b) (1, false) (0, false) := by
   refine C1L (ss:=fun v:P1=>R7 v.1 v.2.1 v.2.2.1 v.2.2.2) (fa:=Y2) (fun i=>((a,b,(a.length:Int),(i:Int)):P1)) a b dP qP _ _ hab (by omega) (fun i hi=>?_) ?_
   ·have h1:decide ((i:Int)<(a.length:Int))=true:=decide_eq_true (by omega)
    have h2:decide (0≤(i:Int)∧(i:Int)<(a.length:Int))=true:=decide_eq_true (by omega)
    have h3:decide (0≤(i:Int)∧(i:Int)<(b.length:Int))=true:=decide_eq_true (by omega)
    simp only [R7,h1,h2,h3,cond_true,Int.toNat_natCast,A7y i (by omega),B09,qP]
    generalize ((a.getD i dP).1.toList==(b.getD i dP).1.toList&&((a.getD i dP).2.toList==(b.getD i dP).2.toList&&true))=z
    cases z<;>rfl
   ·have h1:decide ((a.length:Int)<(a.length:Int))=false:=decide_eq_false (by omega)
    simp only [R7,h1,cond_false]
  rw [C5c hab,e]
  cases C1C qP a b<;>exact ⟨rfl,rfl⟩
 ·rw [C24 hab];exact ⟨rfl,rfl⟩
noncomputable def qO (x y:Int×ByteArray×ByteArray):Bool:=(x.1==y.1)&&((x.2.1.toList==y.2.1.toList)&&((x.2.2.toList==y.2.2.toList)&&true))
noncomputable def qR (x y:M9):Bool:=cond (x.1 != y.1) false (cond (x.2.1 != y.2.1) false (B33 qO x.2.2 y.2.2))
theorem D1f (a b:Lq2) (hl:a.length≤1099511627776):A79 a b=true∧B81 a b=B33 qO a b:=by
 simp only [A79,B81,B33]
 by_cases hab:a.length=b.length
 ·have e : A89 a b 0 = cond (C1C qO a b) (1, false) (0, false) := by
   refine C1L (ss:=fun v:A8q=>A9h v.1 v.2.1 v.2.2) (fa:=B08) (fun i=>((a,b,(i:Int)):A8q)) a b dOp qO _ _ hab (by omega) (fun i hi=>?_) ?_
   ·have h1:decide ((i:Int)<(a.length:Int))=true:=decide_eq_true (by omega)
    have h2:decide (0≤(i:Int)∧(i:Int)<(a.length:Int))=true:=decide_eq_true (by omega)
    have h3:decide (0≤(i:Int)∧(i:Int)<(b.length:Int))=true:=decide_eq_true (by omega)
    simp only [A9h,h1,h2,h3,cond_true,Int.toNat_natCast,A7y i (by omega),B8A,qO]
    generalize ((a.getD i dOp).1==(b.getD i dOp).1&&((a.getD i dOp).2.1.toList==(b.getD i dOp).2.1.toList&&((a.getD i dOp).2.2.toList==(b.getD i dOp).2.2.toList&&true)))=z
    cases z<;>rfl
   ·have h1:decide ((a.length:Int)<(a.length:Int))=false:=decide_eq_false (by omega)
    simp only [A9h,h1,cond_false]
  rw [C5c hab,e]
  cases C1C qO a b<;>exact ⟨rfl,rfl⟩
 ·rw [C24 hab];exact ⟨rfl,rfl⟩
theorem C9v (a b:List M9) (hl:a.length≤1099511627776) (ho:∀ x∈a,x.2.2.length≤1048576):A8d a b=true∧B34 a b=B33 qR a b:=by
 simp only [A8d,B34,B33]
 by_cases hab:a.length=b.length
 ·have e : A8y a b 0 = cond (C1C qR a b) (1, false) (0, false) := by
   refine C1L (ss:=fun v:A7S=>A8H v.1 v.2.1 v.2.2) (fa:=P4) (fun i=>((a,b,(i:Int)):A7S)) a b I5 qR _ _ hab (by omega) (fun i hi=>?_) ?_
   ·have h1:decide ((i:Int)<(a.length:Int))=true:=decide_eq_true (by omega)
    have h2:decide (0≤(i:Int)∧(i:Int)<(a.length:Int))=true:=decide_eq_true (by omega)
    have h3:decide (0≤(i:Int)∧(i:Int)<(b.length:Int))=true:=decide_eq_true (by omega)
    obtain ⟨o1,o2⟩:=D1f (a.getD i I5).2.2 (b.getD i I5).2.2 (by have:=ho _ (Q1 hi I5);omega)
    simp only [A8H,B2t,h1,h2,h3,cond_true,Int.toNat_natCast,A7y i (by omega),B1a,o1,o2,qR]
    cases ((a.getD i I5).1 != (b.getD i I5).1)<;>cases ((a.getD i I5).2.1 != (b.getD i I5).2.1)<;>cases B33 qO (a.getD i I5).2.2 (b.getD i I5).2.2<;>rfl
   ·have h1:decide ((a.length:Int)<(a.length:Int))=false:=decide_eq_false (by omega)
    simp only [A8H,h1,cond_false]
  rw [C5c hab,e]
  cases C1C qR a b<;>exact ⟨rfl,rfl⟩
 ·rw [C24 hab];exact ⟨rfl,rfl⟩
theorem C83 (a b:Lq2) (hl:a.length≤1099511627776):Q9 a b=true∧A8B a b=B33 qO a b:=by
 simp only [Q9,A8B,B33]
 by_cases hab:a.length=b.length
 ·have e : U9 a b ((a.length : Nat) : Int) 0 = cond (C1C qO a b) (1, false) (0, false) := by
   refine C1L (ss:=fun v:R1=>V1 v.1 v.2.1 v.2.2.1 v.2.2.2) (fa:=A7O) (fun i=>((a,b,(a.length:Int),(i:Int)):R1)) a b dOp qO _ _ hab (by omega) (fun i hi=>?_) ?_
   ·have h1:decide ((i:Int)<(a.length:Int))=true:=decide_eq_true (by omega)
    have h2:decide (0≤(i:Int)∧(i:Int)<(a.length:Int))=true:=decide_eq_true (by omega)
    have h3:decide (0≤(i:Int)∧(i:Int)<(b.length:Int))=true:=decide_eq_true (by omega)
    simp only [V1,h1,h2,h3,cond_true,Int.toNat_natCast,A7y i (by omega),B8A,qO]
    generalize ((a.getD i dOp).1==(b.getD i dOp).1&&((a.getD i dOp).2.1.toList==(b.getD i dOp).2.1.toList&&((a.getD i dOp).2.2.toList==(b.getD i dOp).2.2.toList&&true)))=z
    cases z<;>rfl
   ·have h1:decide ((a.length:Int)<(a.length:Int))=false:=decide_eq_false (by omega)
    simp only [V1,h1,cond_false]
  rw [C5c hab,e]
  cases C1C qO a b<;>exact ⟨rfl,rfl⟩
 ·rw [C24 hab];exact ⟨rfl,rfl⟩
theorem D3Q (x y:M9) (hl:x.2.2.length≤1048576):B0b x.1 x.2.1 x.2.2 y.1 y.2.1 y.2.2=true∧C4e x.1 x.2.1 x.2.2 y.1 y.2.1 y.2.2=qR x y:=by
 obtain ⟨o1,o2⟩:=C83 x.2.2 y.2.2 (by omega)
 simp only [B0b,C4e,o1,o2,qR,bne]
 cases (x.1==y.1)<;>cases (x.2.1==y.2.1)<;>exact ⟨rfl,rfl⟩
theorem C7E (a b:List M9) (hl:a.length≤1099511627776) (ho:∀ x∈a,x.2.2.length≤1048576):J0 a b=true∧L7 a b=B33 qR a b:=by
 simp only [J0,L7,B33]
 by_cases hab:a.length=b.length
 ·have e : K7 b a ((a.length : Nat) : Int) 0 = cond (C1C qR a b) (1, false) (0, false) := by
   refine C1L (ss:=fun v:J4=>K8 v.1 v.2.1 v.2.2.1 v.2.2.2) (fa:=K6) (fun i=>((b,a,(a.length:Int),(i:Int)):J4)) a b I5 qR _ _ hab (by omega) (fun i hi=>?_) ?_
   ·have h1:decide ((i:Int)<(a.length:Int))=true:=decide_eq_true (by omega)
    have h2:decide (0≤(i:Int)∧(i:Int)<(a.length:Int))=true:=decide_eq_true (by omega)
    have h3:decide (0≤(i:Int)∧(i:Int)<(b.length:Int))=true:=decide_eq_true (by omega)
    obtain ⟨o1,o2⟩:=D3Q (a.getD i I5) (b.getD i I5) (ho _ (Q1 hi I5))
    simp only [K8,M4,h1,h2,h3,cond_true,Int.toNat_natCast,A7y i (by omega),B1a,o1,o2]
    cases qR (a.getD i I5) (b.getD i I5)<;>rfl
   ·have h1:decide ((a.length:Int)<(a.length:Int))=false:=decide_eq_false (by omega)
    simp only [K8,h1,cond_false]
  rw [C5c hab,e]
  cases C1C qR a b<;>exact ⟨rfl,rfl⟩
 ·rw [C24 hab];exact ⟨rfl,rfl⟩
theorem D1g {x:B4e} (h:B8J x):B1s x.1 x.2.1 x.2.2.1 x.2.2.2.1 x.2.2.2.2=true∧B1p x.1 x.2.1 x.2.2.1 x.2.2.2.1 x.2.2.2.2=true∧C1d x.1 x.2.1 x.2.2.1 x.2.2.2.1 x.2.2.2.2=B7C x.1 x.2.1 x.2.2.1 x.2.2.2.1 x.2.2.2.2:=by
 obtain ⟨h1,h3,h4⟩:=h
 obtain ⟨s1,s2⟩:=D1e x.2.1 h1.1 (B5Q h1)
 obtain ⟨i1,i2⟩:=D0k x.2.1 h1.1 (B5Q h1)
 obtain ⟨r1,r2,r3⟩:=D4C h1
 have hl1:=h1.1
 have hl4:=h4.1
 obtain ⟨a1,a2⟩:=C8I (A9r x.2.1).1 x.2.2.2.1 (by omega)
 obtain ⟨b1,b2⟩:=C6M (A9r x.2.1).1 x.2.2.2.1 (by omega)
 obtain ⟨c1,c2⟩:=C9v (A9r x.2.1).2.1 x.2.2.2.2 (by omega) r3
 obtain ⟨d1,d2⟩:=C7E (A9r x.2.1).2.1 x.2.2.2.2 (by omega) r3
 have w1:=A6J (n:=(x.2.1.length:Int)+(x.2.2.2.2.length:Int)) (by omega) (by omega)
 have w2:=A6J (n:=(x.2.1.length:Int)+(((A9r x.2.1).2.1.length:Nat):Int)) (by omega) (by omega)
 have n1:∀ z:Int,D1W z=A7P z 0 7:=fun z=>rfl
 have n2:∀ z p q:Int,A8w z p q=A7P z p q:=fun z p q=>rfl
 simp only [B1s,B1p,C1d,B7C,s1,s2,i1,i2,a1,a2,b1,b2,c1,c2,d1,d2,w1,w2,n1,n2,Bool.true_and]
 cases A7P x.1 0 7 with
 | false=>exact ⟨rfl,rfl,rfl⟩
 | true =>
  simp only [Bool.not_true,cond_false]
  cases A7P x.2.2.1 0 (x.2.1.length:Int) with
  | false =>
   simp only [Bool.not_false,cond_true,cond_false]
   cases decide ((x.2.1.length:Int) > 300)<;>first | exact ⟨rfl,rfl,rfl⟩ | exact ⟨rfl,trivial,rfl⟩ | exact ⟨trivial,rfl,rfl⟩ | exact ⟨trivial,trivial,rfl⟩ | exact ⟨rfl,rfl,trivial⟩ | (simp)
  | true =>
   simp only [Bool.not_true,cond_false]
   cases hrep:(A9r x.2.1).2.2 with
   | false=>cases decide ((x.2.1.length:Int) > 300)<;>cases decide ((x.2.1.length:Int)+(x.2.2.2.2.length:Int) > 300)<;>exact ⟨rfl,rfl,rfl⟩
   | true =>
    simp only [cond_true]
    cases B33 qP (A9r x.2.1).1 x.2.2.2.1 with
    | false=>cases decide ((x.2.1.length:Int) > 300)<;>cases decide ((x.2.1.length:Int)+(x.2.2.2.2.length:Int) > 300)<;>exact ⟨rfl,rfl,rfl⟩
    | true =>
     simp only [cond_true]
     cases hs:B33 qR (A9r x.2.1).2.1 x.2.2.2.2 with
     | false=>cases decide ((x.2.1.length:Int) > 300)<;>cases decide ((x.2.1.length:Int)+(x.2.2.2.2.length:Int) > 300)<;>exact ⟨rfl,rfl,rfl⟩
     | true =>
      have hlen:(A9r x.2.1).2.1.length=x.2.2.2.2.length:=by
       by_cases he:(A9r x.2.1).2.1.length=x.2.2.2.2.length
       ·exact he
       ·simp only [B33,C24 he,cond_true] at hs;cases hs
      rw [hlen]
      by_cases g1:(x.2.1.length:Int) > 300
      ·rw [decide_eq_true g1,decide_eq_true (show (x.2.1.length:Int)+(x.2.2.2.2.length:Int) > 300 by omega)]
       exact ⟨rfl,rfl,rfl⟩
      ·rw [decide_eq_false g1]
       by_cases g2:(x.2.1.length:Int)+(x.2.2.2.2.length:Int) > 300
       ·rw [decide_eq_true g2,decide_eq_false (show ¬ (x.2.1.length:Int)+(x.2.2.2.2.length:Int)≤300 by omega)]
        exact ⟨rfl,rfl,rfl⟩
       ·rw [decide_eq_false g2,decide_eq_true (show (x.2.1.length:Int)+(x.2.2.2.2.length:Int)≤300 by omega)]
        exact ⟨rfl,rfl,rfl⟩
theorem C0z {l:List M9} (hl:B4o l):A75 l=true∧B3d l=l:=by
 have h1:=hl.1
 have e:B2r l=(0,l):=by
  refine A6Q (ss:=fun v:B0Y=>B0j v.1 v.2.1 v.2.2.1 v.2.2.2) (fa:=A9T)
   (fun v=>∃ i:Nat,v=(l,(l.length:Int),(i:Int),l.take i)∧i≤l.length) (fun a=>a=(0,l)) (fun v=>l.length - v.2.2.1.toNat) ?_ ⟨0,rfl,Nat.zero_le _⟩ (by simp;omega)
  rintro v ⟨i,rfl,hi⟩
  by_cases hlt:i<l.length
  ·have e1:decide ((i:Int)<(l.length:Int))=true:=decide_eq_true (by omega)
   have e2:decide (0≤(i:Int)∧(i:Int)<(l.length:Int))=true:=decide_eq_true (by omega)
   have ho:=A7T (B5Q hl _ (Q1 hlt I5))
   have f3:K0 (l.getD i I5).2.2=true:=decide_eq_true (by simp only [List.length_nil,MAXB];omega)
   have f4:L1 (l.getD i I5).2.2=(l.getD i I5).2.2:=rfl
   have f1:decide (((l.take i).length+[((l.getD i I5).1,((l.getD i I5).2.1,(l.getD i I5).2.2))].length)*40≤MAXB)=true:=decide_eq_true (by simp only [List.length_singleton,List.length_take,MAXB];omega)
   refine .inl ⟨(l,(l.length:Int),((i+1:Nat):Int),l.take (i+1)),?_,⟨i+1,rfl,by omega⟩,by simp only [Int.toNat_natCast];omega⟩
   rw [M8 hlt I5]
   simp only [B0j,e1,e2,cond_true,Int.toNat_natCast,B1a,f3,f4,f1,A7y i (by omega)]
  ·obtain rfl:i=l.length:=by omega
   have e1:decide ((l.length:Int)<(l.length:Int))=false:=decide_eq_false (by omega)
   simp only [B0j,e1,cond_false,List.take_length]
   exact .inr ⟨_,rfl,rfl⟩
 simp only [A75,B3d,e]
 exact ⟨rfl,trivial⟩
theorem D6o {x:B4e} (h1:B4o x.2.1) (h3:x.2.2.2.1.length≤1048576) (h4:B4o x.2.2.2.2):A8W x.1 x.2.1 x.2.2.1 x.2.2.2.1 x.2.2.2.2=true∧B5M x.1 x.2.1 x.2.2.1 x.2.2.2.1 x.2.2.2.2=(x.1,x.2.2.1,x.2.1,x.2.2.2.1,x.2.2.2.2):=by
 obtain ⟨a1,a2⟩:=C0z h1
 obtain ⟨b1,b2⟩:=C0z h4
 have c1:J7 x.2.2.2.1=true:=decide_eq_true (by simp only [List.length_nil,MAXB];omega)
 have c2:L2 x.2.2.2.1=x.2.2.2.1:=rfl
 simp only [A8W,B5M,a1,a2,b1,b2,c1,c2,Bool.and_self]
 exact ⟨trivial,trivial⟩
theorem C1b {l:List M9} (hl:B4o l):W3 l=true∧B0h l=l:=by
 have h1:=hl.1
 have e:A8x l 0 []=(0,l):=by
  refine A6Q (ss:=fun v:A87=>A8F v.1 v.2.1 v.2.2) (fa:=A8v)
   (fun v=>∃ i:Nat,v=(l,(i:Int),l.take i)∧i≤l.length) (fun a=>a=(0,l)) (fun v=>l.length - v.2.1.toNat) ?_ ⟨0,rfl,Nat.zero_le _⟩ (by simp;omega)
  rintro v ⟨i,rfl,hi⟩
  by_cases hlt:i<l.length
  ·have e1:decide ((i:Int)<(l.length:Int))=true:=decide_eq_true (by omega)
   have e2:decide (0≤(i:Int)∧(i:Int)<(l.length:Int))=true:=decide_eq_true (by omega)
   have ho:=A7T (B5Q hl _ (Q1 hlt I5))
   have f3:U1 (l.getD i I5).1 (l.getD i I5).2.1 (l.getD i I5).2.2=true:=decide_eq_true (by simp only [List.length_nil,MAXB];omega)
   have f4:A8e (l.getD i I5).1 (l.getD i I5).2.1 (l.getD i I5).2.2=l.getD i I5:=rfl
   have f1:decide (((l.take i).length+[((l.getD i I5).1,((l.getD i I5).2.1,(l.getD i I5).2.2))].length)*40≤MAXB)=true:=decide_eq_true (by simp only [List.length_singleton,List.length_take,MAXB];omega)
   refine .inl ⟨(l,((i+1:Nat):Int),l.take (i+1)),?_,⟨i+1,rfl,by omega⟩,by simp only [Int.toNat_natCast];omega⟩
   rw [M8 hlt I5]
   simp only [A8F,B5P,e1,e2,cond_true,Int.toNat_natCast,B1a,f3,f4,f1,A7y i (by omega)]
  ·obtain rfl:i=l.length:=by omega
   have e1:decide ((l.length:Int)<(l.length:Int))=false:=decide_eq_false (by omega)
   simp only [A8F,e1,cond_false,List.take_length]
   exact .inr ⟨_,rfl,rfl⟩
 simp only [W3,B0h,e]
 exact ⟨rfl,trivial⟩
theorem D6g {x:B4e} (h:B8J x):B3k x.1 x.2.1 x.2.2.1 x.2.2.2.1 x.2.2.2.2=true∧C4Y x.1 x.2.1 x.2.2.1 x.2.2.2.1 x.2.2.2.2=x:=by
 obtain ⟨h1,h2,h4⟩:=h
 obtain ⟨a1,a2⟩:=C1b h1
 obtain ⟨b1,b2⟩:=C1b h4
 have h2:=h2.1
 have m:decide ((([]:List A0n).length+x.2.2.2.1.length)*32≤MAXB)=true:=decide_eq_true (by simp only [List.length_nil,MAXB];omega)
 simp only [B3k,C4Y,a1,a2,b1,b2,m,Bool.and_self]
 exact ⟨trivial,rfl⟩
noncomputable def C9J (r:M9):Prop:=r.2.2.length≤1048576
noncomputable def N2 {α:Type} (mk:Int→α→Int×α):Int→List α→Int×List α
 | k,[]=>(k,[])
 | k,x::r=>((N2 mk (mk k x).1 r).1,(mk k x).2::(N2 mk (mk k x).1 r).2)
noncomputable def B1H (k:Int) (r:M9):Int×M9:=((A74 (k+1+1) r.2.2).1,(k,k+1,(A74 (k+1+1) r.2.2).2))
theorem C5y {α:Type} (mk:Int→α→Int×α):∀ (l:List α) (k:Int),(N2 mk k l).2.length=l.length:=by
 intro l
 induction l with
 | nil=>intro k;rfl
 | cons y l ih=>intro k;simp only [N2,List.length_cons,ih]
theorem C5x {α:Type} (mk:Int→α→Int×α) (wt:α→Nat) (ok:α→Prop) (hw:∀ k x,0≤k→k+(wt x:Int)≤10000000→ok x→(mk k x).1=k+(wt x:Int)) :
  ∀ (l:List α) (k:Int),(∀ x∈l,ok x)→0≤k→k+(A9z wt l:Int)≤10000000→(N2 mk k l).1=k+(A9z wt l:Int):=by
 intro l
 induction l with
 | nil=>intro k _ _ _;simp [N2,A9z]
 | cons y l ih =>
  intro k ho h0 h1
  have e:A9z wt (y::l)=wt y+A9z wt l:=by simp [A9z]
  rw [e,Int.natCast_add] at h1
  simp only [N2]
  rw [hw k y h0 (by omega) (ho y (by simp)),ih _ (fun x hx=>ho x (by simp [hx])) (by omega) (by omega),e,Int.natCast_add]
  omega
theorem B9b {α:Type} (w:α→Nat) (l:List α) (i:Nat):A9z w l=A9z w (l.take i)+A9z w (l.drop i):=by
 simp only [A9z]
 rw [← List.sum_append,← List.map_append,List.take_append_drop]
theorem B2g {α:Type} {l:List α} {i:Nat} (h:i<l.length) (d:α):l.drop i=l.getD i d::l.drop (i+1):=by
 rw [List.drop_eq_getElem_cons h]
 simp [List.getD_eq_getElem?_getD,h]
theorem C8e {α:Type} (mk:Int→α→Int×α) (x:α):∀ (l:List α) (k:Int),N2 mk k (l++[x])=((mk (N2 mk k l).1 x).1,(N2 mk k l).2++[(mk (N2 mk k l).1 x).2]):=by
 intro l
 induction l with
 | nil=>intro k;rfl
 | cons y l ih=>intro k;simp only [List.cons_append,N2,ih]
theorem D6h {α:Type} (a b:List α) (y x:α):(a++y::b).set a.length x=a++x::b:=by
 rw [List.set_append_right _ _ (Nat.le_refl _),Nat.sub_self];rfl
theorem D6f {α:Type} (d:α) (mk:Int→α→Int×α) (wt:α→Nat) (ok:α→Prop) {ss:Int→Int→List α→(Int×Int×List α) ⊕ (Nat×Int×List α)} {fl:Nat×Int×List α}
  (hw:∀ k x,0≤k→k+(wt x:Int)≤10000000→ok x→(mk k x).1=k+(wt x:Int))
  (hs:∀ (k:Int) (i:Nat) (h:List α),i<h.length→h.length≤1048576→0≤k→k+(wt (h.getD i d):Int)≤10000000→ok (h.getD i d)→ss k (i:Int) h=.inl ((mk k (h.getD i d)).1,((i+1:Nat):Int),h.set i (mk k (h.getD i d)).2))
  (he:∀ (k:Int) (h:List α),h.length≤1048576→ss k (h.length:Int) h=.inr (0,k,h))
  {l:List α} (hl:l.length≤1048576) (hok:∀ x∈l,ok x) {k:Int} (h0:0≤k) (h1:k+(A9z wt l:Int)≤10000000) :
  itX (fun v=>ss v.1 v.2.1 v.2.2) fl (k,0,l)=(0,N2 mk k l):=by
 refine A6Q (fun v:Int×Int×List α=>∃ i:Nat,i≤l.length∧v=((N2 mk k (l.take i)).1,(i:Int),(N2 mk k (l.take i)).2++l.drop i)) (fun a=>a=(0,N2 mk k l)) (fun v=>l.length - v.2.1.toNat) ?_ ⟨0,Nat.zero_le _,by simp [N2]⟩ (by simp;omega)
 rintro v ⟨i,hi,rfl⟩
 have hlen:((N2 mk k (l.take i)).2++l.drop i).length=l.length:=by rw [List.length_append,C5y,List.length_take,List.length_drop];omega
 have hlm:(N2 mk k (l.take i)).2.length=i:=by rw [C5y,List.length_take];omega
 have hf:(N2 mk k (l.take i)).1=k+(A9z wt (l.take i):Int):=C5x mk wt ok hw _ k (fun x hx=>hok x (List.mem_of_mem_take hx)) h0 (by have:=B9b wt l i;omega)
 by_cases hlt:i<l.length
 ·have hg : ((N2 mk k (l.take i)).2 ++ l.drop i).getD i d = l.getD i d := by
   rw [B2g hlt d]
   simp [List.getD_eq_getElem?_getD,hlm]
  have hsum:A9z wt l=A9z wt (l.take i)+(wt (l.getD i d)+A9z wt (l.drop (i+1))):=by
   rw [B9b wt l i,B2g hlt d];simp [A9z]
  have:=hs (N2 mk k (l.take i)).1 i ((N2 mk k (l.take i)).2++l.drop i) (by omega) (by omega) (by rw [hf];omega) (by rw [hg,hf];omega) (by rw [hg];exact hok _ (Q1 hlt d))
  rw [hg] at this
  refine .inl ⟨_,this,⟨i+1,by omega,?_⟩,by simp only [Int.toNat_natCast];omega⟩
  rw [M8 hlt d,C8e,B2g hlt d]
  have e:=D6h (N2 mk k (l.take i)).2 (l.drop (i+1)) (l.getD i d) (mk (N2 mk k (l.take i)).1 (l.getD i d)).2
  rw [hlm] at e
  rw [e]
  simp only [List.append_assoc,List.cons_append,List.nil_append]
 ·obtain rfl:i=l.length:=by omega
  have:=he (N2 mk k (l.take l.length)).1 ((N2 mk k (l.take l.length)).2++l.drop l.length) (by omega)
  rw [hlen] at this
  refine .inr ⟨_,this,?_⟩
  simp [List.take_length]
theorem D6k {α:Type} (el:Int→α) (c:Int) (hc:0≤c∧c≤100000) (d:α) (f:Nat→Int×List α→Int×List α)
  (hf:∀ i k (h:List α),i<h.length→0≤k→k≤100000*((i:Int)+100)→h.length≤1048576→f i (k,h)=(k+c,h.set i (el k))) :
  ∀ n i k (h:List α),i+n=h.length→0≤k→k≤100000*((i:Int)+100)→h.length≤1048576 →
   (foldN f n i (k,h)).1=k+c*(n:Int)∧(foldN f n i (k,h)).2.length=h.length∧(∀ j,i≤j→j<h.length→(foldN f n i (k,h)).2.getD j d=el (k+c*((j - i:Nat):Int)))∧∀ j,j<i→(foldN f n i (k,h)).2.getD j d=h.getD j d:=by
 intro n
 induction n with
 | zero=>intro i k h hi h0 h1 h2;exact ⟨by simp [foldN],rfl,fun j hj hl=>by omega,fun j _=>rfl⟩
 | succ n ih =>
  intro i k h hi h0 h1 h2
  simp only [foldN]
  rw [hf i k h (by omega) h0 h1 h2]
  obtain ⟨q1,q2,q3,q4⟩:=ih (i+1) (k+c) (h.set i (el k)) (by simp;omega) (by omega) (by omega) (by simpa using h2)
  refine ⟨?_,by rw [q2];simp,fun j hj hl=>?_,fun j hj=>?_⟩
  ·rw [q1,Int.natCast_add,Int.mul_add];simp;omega
  ·by_cases e:j=i
   ·subst e
    rw [q4 j (by omega)]
    have:j<h.length:=hl
    simp [List.getD_eq_getElem?_getD,this]
   ·rw [q3 j (by omega) (by simpa using hl)]
    congr 1
    have:((j - i:Nat):Int)=((j - (i+1):Nat):Int)+1:=by omega
    rw [this,Int.mul_add];omega
  ·rw [q4 j (by omega)]
   have:i ≠ j:=by omega
   simp [List.getD_eq_getElem?_getD,List.getElem?_set_ne this]
theorem C4b {α:Type} {l:List α} {i:Nat} (hi:i<l.length) (x d:α):(l.set i x).getD i d=x:=by
 simp [List.getD_eq_getElem?_getD,hi]
theorem C0D (l:Lq2) (k:Int) (h:l.length≤1048576) (h0:0≤k) (h1:k≤10000000):(A74 k l).1=k+3*(l.length:Int)∧(A74 k l).2.length=l.length:=by
 obtain ⟨q1,q2,_⟩:=D6k (fun k=>(k,I9 (k+1),I9 (k+1+1))) 3 (by omega) dOp N9 (fun i k h hi h0 h1 h2=>by
  have w1:wI (k+(1:Int))=k+1:=A6J (by omega) (by omega)
  have w2:wI (k+1+(1:Int))=k+1+1:=A6J (by omega) (by omega)
  have w3:wI (k+1+1+(1:Int))=k+3:=by rw [A6J (by omega) (by omega)];omega
  simp only [N9,w1,w2,w3,List.set_set,C4b hi]) l.length 0 k l (by omega) h0 (by omega) h
 have e1:A74 k l=foldN N9 l.length 0 (k,l):=rfl
 rw [e1];exact ⟨q1,q2⟩
theorem C5z (k:Int) (r:M9) (h0:0≤k) (h1:k+(B2P r:Int)≤10000000) (hj:C9J r):(B1H k r).1=k+(B2P r:Int):=by
 simp only [B2P] at h1 ⊢
 have m1:=(C0D r.2.2 (k+1+1) hj (by omega) (by omega)).1
 simp only [B1H]
 rw [m1]
 omega
theorem D5D {k:Int} {l:Lq2} (h:l.length≤1048576) (h0:0≤k) (h1:k≤10000000):B0d k l=true∧B0c (A74 k l).2 k=true:=by
 have h2:=(C0D l k h h0 h1).2
 exact ⟨by simp only [B0d,okL];simp;omega,by simp only [B0c,okL,h2];simp;omega⟩
theorem D3q {α:Type} (mk:Int→α→Int×α) (d:α):∀ (l:List α) (k:Int) (i:Nat),i<l.length→(N2 mk k l).2.getD i d=(mk (N2 mk k (l.take i)).1 (l.getD i d)).2:=by
 intro l
 induction l with
 | nil=>intro k i h;simp at h
 | cons y l ih =>
  intro k i h
  cases i with
  | zero=>simp [N2]
  | succ i =>
   simp only [N2,List.getD_cons_succ,List.take_succ_cons]
   exact ih _ i (by simpa using h)
theorem D50 {α:Type} (d:α) (mk:Int→α→Int×α) (wt:α→Nat) (ok:α→Prop) {ss:List α→Int→Int→(List α×Int×Int) ⊕ (Nat×Int×Int)} {fl:Nat×Int×Int} {z:Int}
  (hw:∀ k x,0≤k→k+(wt x:Int)≤10000000→ok x→(mk k x).1=k+(wt x:Int))
  (hs:∀ (k:Int) (i:Nat) (h:List α) (x:α),i<h.length→h.length≤1048576→0≤k→k+(wt x:Int)≤10000000→ok x→h.getD i d=(mk k x).2→ss h k (i:Int)=.inl (h,(mk k x).1,((i+1:Nat):Int)))
  (he:∀ (k:Int) (h:List α),h.length≤1048576→ss h k (h.length:Int)=.inr (1,z,k))
  {l:List α} (hl:l.length≤1048576) (hok:∀ x∈l,ok x) {k:Int} (h0:0≤k) (h1:k+(A9z wt l:Int)≤10000000) :
  itX (fun v=>ss v.1 v.2.1 v.2.2) fl ((N2 mk k l).2,k,0)=(1,z,(N2 mk k l).1):=by
 have hl2:=C5y mk l k
 refine A6Q (fun v:List α×Int×Int=>∃ i:Nat,i≤l.length∧v=((N2 mk k l).2,(N2 mk k (l.take i)).1,(i:Int))) (fun a=>a=(1,z,(N2 mk k l).1)) (fun v=>l.length - v.2.2.toNat) ?_ ⟨0,Nat.zero_le _,by simp [N2]⟩ (by simp;omega)
 rintro v ⟨i,hi,rfl⟩
 have hf:(N2 mk k (l.take i)).1=k+(A9z wt (l.take i):Int):=C5x mk wt ok hw _ k (fun x hx=>hok x (List.mem_of_mem_take hx)) h0 (by have:=B9b wt l i;omega)
 by_cases hlt:i<l.length
 ·have hsum : A9z wt l = A9z wt (l.take i) + (wt (l.getD i d) + A9z wt (l.drop (i + 1))) := by
   rw [B9b wt l i,B2g hlt d];simp [A9z]
  have:=hs (N2 mk k (l.take i)).1 i (N2 mk k l).2 (l.getD i d) (by omega) (by omega) (by rw [hf];omega) (by rw [hf];omega) (hok _ (Q1 hlt d)) (D3q mk d l k i hlt)
  refine .inl ⟨_,this,⟨i+1,by omega,?_⟩,by simp only [Int.toNat_natCast];omega⟩
  rw [M8 hlt d,C8e]
 ·obtain rfl:i=l.length:=by omega
  have:=he (N2 mk k (l.take l.length)).1 (N2 mk k l).2 (by omega)
  rw [hl2] at this
  refine .inr ⟨_,this,?_⟩
  rw [List.take_length]
theorem D7Z {α:Type} (el:Int→α) (c:Int) (hc:0≤c∧c≤100000) (d:α) (x:List α) (hx:x.length≤1048576) (g:Nat→Int→Int ⊕ Unit)
  (hg:∀ i k,i<x.length→0≤k→k≤100000*((i:Int)+100)→x.getD i d=el k→g i k=.inl (k+c)) :
  ∀ n i k,i+n=x.length→0≤k→k≤100000*((i:Int)+100)→(∀ j,i≤j→j<x.length→x.getD j d=el (k+c*((j - i:Nat):Int)))→loopN g n i k=.inl (k+c*(n:Int)):=by
 intro n
 induction n with
 | zero=>intro i k hi h0 h1 he;simp [loopN]
 | succ n ih =>
  intro i k hi h0 h1 he
  have h2:=he i (Nat.le_refl _) (by omega)
  rw [Nat.sub_self] at h2
  simp only [loopN]
  rw [hg i k (by omega) h0 h1 (by simpa using h2)]
  simp only
  rw [ih (i+1) (k+c) (by omega) (by omega) (by omega) (fun j hj hl=>by
   rw [he j (by omega) hl]
   congr 1
   have:((j - i:Nat):Int)=((j - (i+1):Nat):Int)+1:=by omega
   rw [this,Int.mul_add];omega)]
  rw [Int.natCast_add,Int.mul_add];congr 1;simp;omega
theorem heldmark {α:Type} (el:Int→α) (c:Int) (hc:0≤c∧c≤100000) (d:α) (f:Nat→Int×List α→Int×List α) (g:List α→Nat→Int→Int ⊕ Unit)
  (hf:∀ i k (h:List α),i<h.length→0≤k→k≤100000*((i:Int)+100)→h.length≤1048576→f i (k,h)=(k+c,h.set i (el k)))
  (hg:∀ (x:List α) i k,x.length≤1048576→i<x.length→0≤k→k≤100000*((i:Int)+100)→x.getD i d=el k→g x i k=.inl (k+c)) (h:List α) (hh:h.length≤1048576) (k:Int) (h0:0≤k) (h1:k≤10000000) :
  (foldN f h.length 0 (k,h)).1=k+c*(h.length:Int)∧(foldN f h.length 0 (k,h)).2.length=h.length∧loopN (g (foldN f h.length 0 (k,h)).2) (foldN f h.length 0 (k,h)).2.length 0 k=.inl (k+c*(h.length:Int)):=by
 obtain ⟨q1,q2,q3,_⟩:=D6k el c hc d f hf h.length 0 k h (by omega) h0 (by omega) hh
 refine ⟨q1,q2,?_⟩
 have:=D7Z el c hc d (foldN f h.length 0 (k,h)).2 (by rw [q2];exact hh) (g (foldN f h.length 0 (k,h)).2) (fun i k hi=>hg _ i k (by rw [q2];exact hh) hi) (foldN f h.length 0 (k,h)).2.length 0 k (by omega) h0 (by omega) (fun j hj hl=>q3 j hj (by rw [q2] at hl;exact hl))
 rw [this,q2]
theorem D3s (l:Lq2) (k:Int) (h:l.length≤1048576) (h0:0≤k) (h1:k≤10000000):B7G (A74 k l).2 k=(A74 k l).1:=by
 obtain ⟨q1,q2,q3⟩:=heldmark (fun k=>(k,I9 (k+1),I9 (k+1+1))) 3 (by omega) dOp N9 O6 (fun i k h hi h0 h1 h2=>by
  have w1:wI (k+(1:Int))=k+1:=A6J (by omega) (by omega)
  have w2:wI (k+1+(1:Int))=k+1+1:=A6J (by omega) (by omega)
  have w3:wI (k+1+1+(1:Int))=k+3:=by rw [A6J (by omega) (by omega)];omega
  simp only [N9,w1,w2,w3,List.set_set,C4b hi]) (fun x i k hx hi h0 h1 he=>by
  have w1:wI (k+(1:Int))=k+1:=A6J (by omega) (by omega)
  have w2:wI (k+1+(1:Int))=k+1+1:=A6J (by omega) (by omega)
  have w3:wI (k+1+1+(1:Int))=k+3:=by rw [A6J (by omega) (by omega)];omega
  simp only [dOp] at he
  have e:(k != k)=false:=by simp
  simp only [O6,he,e,cond_false,w1,w2,w3,beq_self_eq_true,Bool.not_true]) l h k h0 h1
 have e1:A74 k l=foldN N9 l.length 0 (k,l):=rfl
 have e2:∀ x,B7G x k=cond (A7w (loopN (O6 x) x.length 0 k)) (A7n (-1) (loopN (O6 x) x.length 0 k)) (-1:Int):=fun x=>rfl
 rw [e1,e2,q3,q1];rfl
theorem C2r {l:List M9} (hl:l.length≤1048576) (ho:∀ r∈l,C9J r) {k:Int} (h0:0≤k) (h1:k+(A9z B2P l:Int)≤10000000) :
  A77 k l=true∧B0s k l=N2 B1H k l∧(N2 B1H k l).1=k+(A9z B2P l:Int)∧A76 (N2 B1H k l).2 k=true∧A8z (N2 B1H k l).2 k=(N2 B1H k l).1:=by
 have hdj:((0:Int),((0:Int),([]:Lq2)))=I5:=rfl
 have e1:A91 k 0 l=(0,N2 B1H k l):=by
  refine D6f I5 B1H B2P C9J C5z (fun k i h hi hl h0 h1 ho=>?_) (fun k h hl=>?_) hl ho h0 h1
  ·have c1:decide ((i:Int)<(h.length:Int))=true:=decide_eq_true (by omega)
   have c2:decide (0≤(i:Int)∧(i:Int)<(h.length:Int))=true:=decide_eq_true (by omega)
   have s1:(h.getD i I5).2.2.length≤1048576:=ho
   simp only [B2P] at h1
   have w1:wI (k+(1:Int))=k+1:=A6J (by omega) (by omega)
   have w2:wI (k+1+(1:Int))=k+1+1:=A6J (by omega) (by omega)
   have q1:=(D5D s1 (k:=k+1+1) (by omega) (by omega)).1
   simp only [B2K,hdj,c1,c2,cond_true,Int.toNat_natCast,List.length_set,C4b hi,List.set_set,w1,w2,q1,A7y i (by omega)]
   rfl
  ·have c1:decide ((h.length:Int)<(h.length:Int))=false:=decide_eq_false (by omega)
   simp only [B2K,c1,cond_false]
 have e2:A90 (N2 B1H k l).2 k 0=(1,0,(N2 B1H k l).1):=by
  refine D50 I5 B1H B2P C9J C5z (fun k i h x hi hl h0 h1 ho hg=>?_) (fun k h hl=>?_) hl ho h0 h1
  ·have c1:decide ((i:Int)<(h.length:Int))=true:=decide_eq_true (by omega)
   have c2:decide (0≤(i:Int)∧(i:Int)<(h.length:Int))=true:=decide_eq_true (by omega)
   have s1:x.2.2.length≤1048576:=ho
   simp only [B2P] at h1
   have w1:wI (k+(1:Int))=k+1:=A6J (by omega) (by omega)
   have w2:wI (k+1+(1:Int))=k+1+1:=A6J (by omega) (by omega)
   have m1:=(C0D x.2.2 (k+1+1) s1 (by omega) (by omega)).1
   have q1:=(D5D s1 (k:=k+1+1) (by omega) (by omega)).2
   have q3:=D3s x.2.2 (k+1+1) s1 (by omega) (by omega)
   have n2:∀ y:Int,(y != y)=false:=fun y=>by simp
   have d1:decide ((A74 (k+1+1) x.2.2).1<0)=false:=decide_eq_false (by omega)
   simp only [B1H] at hg
   simp only [B2J,hdj,c1,c2,cond_true,Int.toNat_natCast,hg,n2,cond_false,w1,w2,q1,q3,d1,A7y i (by omega)]
   rfl
  ·have c1:decide ((h.length:Int)<(h.length:Int))=false:=decide_eq_false (by omega)
   simp only [B2J,c1,cond_false]
 refine ⟨by simp only [A77,e1];rfl,by simp only [B0s,e1],C5x B1H B2P C9J C5z l k ho h0 h1,by simp only [A76,e2];rfl,by simp only [A8z,e2];rfl⟩
theorem C9K {l:List M9} (h:B4o l):∀ r∈l,C9J r:=fun r hr=>A7T (h.2 r hr)
theorem D2h (l:LBBe) (k:Int) (h:l.length≤1048576) (h0:0≤k) (h1:k≤10000000):(Q0 k l).1=k+2*(l.length:Int)∧(Q0 k l).2.length=l.length∧A95 (Q0 k l).2 k=(Q0 k l).1:=by
 obtain ⟨q1,q2,q3⟩:=heldmark (fun k=>(I9 k,I9 (k+1))) 2 (by omega) dP O1 N3 (fun i k h hi h0 h1 h2=>by
  have w1:wI (k+(1:Int))=k+1:=A6J (by omega) (by omega)
  have w2:wI (k+1+(1:Int))=k+2:=by rw [A6J (by omega) (by omega)];omega
  simp only [O1,w1,w2,List.set_set,C4b hi]) (fun x i k hx hi h0 h1 he=>by
  have w1:wI (k+(1:Int))=k+1:=A6J (by omega) (by omega)
  have w2:wI (k+1+(1:Int))=k+2:=by rw [A6J (by omega) (by omega)];omega
  simp only [dP] at he
  simp only [N3,he,cond_false,w1,w2,beq_self_eq_true,Bool.not_true]) l h k h0 h1
 have e1:Q0 k l=foldN O1 l.length 0 (k,l):=rfl
 rw [e1]
 refine ⟨q1,q2,?_⟩
 have e2:∀ x,A95 x k=cond (A7w (loopN (N3 x) x.length 0 k)) (A7n (-1) (loopN (N3 x) x.length 0 k)) (-1:Int):=fun x=>rfl
 rw [e2,q3,q1];rfl
theorem D0z {l:List A0n} {k:Int} (h:l.length≤1048576) (h0:0≤k) (h1:k≤10000000):A80 k l=true∧(Q0 k l).1=k+2*(l.length:Int)∧A8Y (Q0 k l).2 k=true∧A95 (Q0 k l).2 k=(Q0 k l).1:=by
 obtain ⟨a,b,c⟩:=D2h l k h h0 h1
 exact ⟨by simp only [A80,okL];simp;omega,a,by simp only [A8Y,okL,b];simp;omega,c⟩
theorem C6B {x:B4e} (h:B8J x) (hw:A9z B2P x.2.1≤3145728∧A9z B2P x.2.2.2.2≤3145728) (a b a' b':Int) :
  A0b a b 1 x.2.1 x.2.2.2.1 x.2.2.2.2=true∧0≤(T9 a b 1 x.2.1 x.2.2.2.1 x.2.2.2.2).1 ∧
   A8Z a' (T9 a b 1 x.2.1 x.2.2.2.1 x.2.2.2.2).2.1 b' (T9 a b 1 x.2.1 x.2.2.2.1 x.2.2.2.2).2.2.1 (T9 a b 1 x.2.1 x.2.2.2.1 x.2.2.2.2).2.2.2 1=true ∧
   B8G a' (T9 a b 1 x.2.1 x.2.2.2.1 x.2.2.2.2).2.1 b' (T9 a b 1 x.2.1 x.2.2.2.1 x.2.2.2.2).2.2.1 (T9 a b 1 x.2.1 x.2.2.2.1 x.2.2.2.2).2.2.2 1=(T9 a b 1 x.2.1 x.2.2.2.1 x.2.2.2.2).1:=by
 obtain ⟨h1,h2,h3⟩:=h
 have h2:=h2.1
 obtain ⟨m1,m2,m3,m4,m5⟩:=C2r h1.1 (C9K h1) (k:=1) (by decide) (by omega)
 obtain ⟨p1,p2,p3,p4⟩:=D0z (l:=x.2.2.2.1) (k:=(N2 B1H 1 x.2.1).1) (by omega) (by omega) (by omega)
 obtain ⟨n1,n2,n3,n4,n5⟩:=C2r h3.1 (C9K h3) (k:=(Q0 (N2 B1H 1 x.2.1).1 x.2.2.2.1).1) (by omega) (by omega)
 have d1:decide ((N2 B1H 1 x.2.1).1<0)=false:=decide_eq_false (by omega)
 have d2:decide ((Q0 (N2 B1H 1 x.2.1).1 x.2.2.2.1).1<0)=false:=decide_eq_false (by omega)
 have d3:decide ((N2 B1H (Q0 (N2 B1H 1 x.2.1).1 x.2.2.2.1).1 x.2.2.2.2).1<0)=false:=decide_eq_false (by omega)
 simp only [A0b,T9,A8Z,B8G,m1,m2,m4,m5,p1,p3,p4,n1,n2,n4,n5,d1,d2,d3,cond_false,Bool.and_self]
 refine ⟨trivial,by omega,trivial,trivial⟩
theorem D38 {l:Lq2} (h:A23 tq4 l=true):D24 l:=D39 h
theorem C7y {l:List M9} (h:A23 tq3 l=true):C3R l:=by
 have h:(decide (l.length≤maxLen)&&l.all fun x=>((Lit.int .i64 x.1).wf&&((Lit.int .i64 x.2.1).wf&&A23 tq4 x.2.2)))=true:=h
 have hm:maxLen=9223372036854775807:=by decide
 rw [hm] at h
 simp only [Bool.and_eq_true,decide_eq_true_eq,List.all_eq_true] at h
 exact ⟨h.1,fun x hx=>D38 (h.2 x hx).2.2⟩
theorem D1y {l:List A0n} (h:A23 tq6 l=true):C3Q l:=by
 have h:(decide (l.length≤maxLen)&&l.all fun o=>(decide (o.1.size≤maxLen)&&decide (o.2.size≤maxLen)))=true:=h
 have hm:maxLen=9223372036854775807:=by decide
 rw [hm] at h
 simp only [Bool.and_eq_true,decide_eq_true_eq,List.all_eq_true] at h
 simp only [C3Q,C3S,decide_eq_true_eq]
 exact ⟨h.1,fun o ho=>h.2 o ho⟩
theorem C50 {x:B4e} (h:A23 tq7 x=true):C3T x:=by
 have h:((Lit.int .i64 x.1).wf&&(A23 tq3 x.2.1&&((Lit.int .i64 x.2.2.1).wf&&(A23 tq6 x.2.2.2.1&&A23 tq3 x.2.2.2.2))))=true:=h
 simp only [Bool.and_eq_true] at h
 exact ⟨C7y h.2.1,D1y h.2.2.2.1,C7y h.2.2.2.2⟩
theorem C4k (x:B4e) (hb:C3T x):V5 x.1 x.2.1 x.2.2.1 x.2.2.2.1 x.2.2.2.2=true∧A0l x.1 x.2.1 x.2.2.1 x.2.2.2.1 x.2.2.2.2=true:=by
 obtain ⟨z1,z2⟩:=D3S hb (b:=1048576) (by omega) (by omega)
 by_cases hd:B0Z x.1 x.2.1 x.2.2.1 x.2.2.2.1 x.2.2.2.2 1048576<0
 ·simp only [V5,A0l,z1,decide_eq_true hd,cond_true]
  exact ⟨rfl,trivial⟩
 ·obtain ⟨_,ho⟩:=z2 (by omega)
  have hw:=D4N hb (by omega)
  obtain ⟨t1,t2⟩:=D5G ho
  obtain ⟨e1,e2⟩:=C7D ho
  obtain ⟨c1,c2,c3⟩:=D1g ho
  obtain ⟨i1,i2⟩:=D6o ho.1 ho.2.1.1 ho.2.2
  obtain ⟨s1,s2⟩:=D6g ho
  obtain ⟨m1,m2,m3,m4⟩:=C6B ho hw x.1 x.2.2.1 x.1 x.2.2.1
  have hs:B0e x.1 x.2.1 x.2.2.1 x.2.2.2.1 x.2.2.2.2=true∧A99 x.1 x.2.1 x.2.2.1 x.2.2.2.1 x.2.2.2.2=true∧∃ s:Int,C1X x.1 x.2.1 x.2.2.1 x.2.2.2.1 x.2.2.2.2=(x.1,x.2.1,s,x.2.2.2.1,x.2.2.2.2)∧C1K x.1 x.2.1 x.2.2.1 x.2.2.2.1 x.2.2.2.2=(x.1,s,x.2.1,x.2.2.2.1,x.2.2.2.2):=by
   simp only [B0e,A99,C1X,C1K,c1,c2,c3,i1,i2,s1,s2]
   refine ⟨rfl,rfl,?_⟩
   cases B7C x.1 x.2.1 x.2.2.1 x.2.2.2.1 x.2.2.2.2
   ·exact ⟨x.2.2.1,rfl,rfl⟩
   ·exact ⟨_,rfl,rfl⟩
  obtain ⟨q1,q2,s,r1,r2⟩:=hs
  have ho2:B8J (x.1,x.2.1,s,x.2.2.2.1,x.2.2.2.2):=ho
  obtain ⟨f1,f2⟩:=C7D ho2
  obtain ⟨n1,n2,n3,n4⟩:=C6B ho2 hw x.1 s x.1 s
  have d1:decide ((T9 x.1 x.2.2.1 1 x.2.1 x.2.2.2.1 x.2.2.2.2).1<0)=false:=decide_eq_false (by omega)
  have d2:decide ((T9 x.1 s 1 x.2.1 x.2.2.2.1 x.2.2.2.2).1<0)=false:=decide_eq_false (by simp only at n2;omega)
  have nn:∀ x:Int,(x != x)=false:=fun x=>by simp
  simp only [] at f1 f2 n1 n2 n3 n4
  simp only [V5,A0l,A8h,U3,A8i,A8j,A8k,Z7,A8l,z1,decide_eq_false hd,t1,t2,e1,e2,q1,q2,r1,r2,f1,f2,m1,n1,n3,n4,d1,d2,nn,cond_false,Bool.not_true,Bool.and_self]
  exact ⟨trivial,trivial⟩
theorem B7M (a0:Int) (a1:List M9) (a2:Int) (a3:List A0n) (a4:List M9) (h:A23 tq7 (a0,(a1,(a2,(a3,a4))))=true):X5 ((a0,a1,a2,a3,a4,()),())=true:=(C4k (a0,a1,a2,a3,a4) (C50 h)).1
theorem B8n (a0:Int) (a1:List M9) (a2:Int) (a3:List A0n) (a4:List M9) (h:A23 tq7 (a0,(a1,(a2,(a3,a4))))=true):A0l a0 a1 a2 a3 a4=true:=(C4k (a0,a1,a2,a3,a4) (C50 h)).2

end Go.Proofs.Ytgglehejlddghaa.Eng
