/- What the functions that FnExactHold reaches compute: further. -/
import Derived.Test.YtgglehejlddghaaGreatFExactHoldC
namespace Go.Proofs.YtgglehejlddghaaGreat.Eng
open Go Go.RowKit
set_option linter.unusedSimpArgs false
set_option linter.unusedVariables false
set_option maxRecDepth 10000
abbrev B25:List PSh:=[.agg [(.int .i64),tq3,(.int .i64),tq6,tq3],.t (.int .i64),.t tq4]
noncomputable def A9V (a0:Int) (a1:Lq1) (a2:Int) (a3:LBBe) (a4:Lq1) (a5:Int) (a6:Lq2):=let z1:=B3E a0 a1 a2 a3 a4;D5r (z1.1) (z1.2.2.1) (z1.2.1) (z1.2.2.2.1) (z1.2.2.2.2) a5 (B5y a6)
noncomputable def A0h (a0:Int) (a1:Lq1) (a2:Int) (a3:LBBe) (a4:Lq1) (a5:Int) (a6:Lq2):=let z1:=B3E a0 a1 a2 a3 a4;D4C (z1.1) (z1.2.2.1) (z1.2.1) (z1.2.2.2.1) (z1.2.2.2.2) a5 (B5y a6)
noncomputable def B15 (a0:Int) (a1:Lq1) (a2:Int) (a3:LBBe) (a4:Lq1) (a5:Int) (a6:Lq2):=let z1:=A0h a0 a1 a2 a3 a4 a5 a6;let z2:=A9V a0 a1 a2 a3 a4 a5 a6;B69 (z1.1) (z1.2.2.2.1) (z1.2.1) (z1.2.2.2.2.1) (z1.2.2.2.2.2) (z2.1) (z2.2.1) (z2.2.2.1) (z2.2.2.2.1) (z2.2.2.2.2.1)
noncomputable def B16 (a0:Int) (a1:Lq1) (a2:Int) (a3:LBBe) (a4:Lq1):=let z1:=B3E a0 a1 a2 a3 a4;B69 (z1.1) (z1.2.2.1) (z1.2.1) (z1.2.2.2.1) (z1.2.2.2.2) (z1.1) (z1.2.2.1) (z1.2.1) (z1.2.2.2.1) (z1.2.2.2.2)
noncomputable def B17 (a0:Int) (a1:Lq1) (a2:Int) (a3:LBBe) (a4:Lq1):=let z1:=B3E a0 a1 a2 a3 a4;O5 (z1.1) (z1.2.1) (1:Int) (z1.2.2.1) (z1.2.2.2.1) (z1.2.2.2.2)
noncomputable def A9W (a0:Int) (a1:Lq1) (a2:Int) (a3:LBBe) (a4:Lq1) (a5:Int) (a6:Lq2):=let z1:=A0h a0 a1 a2 a3 a4 a5 a6;O5 (z1.1) (z1.2.1) (1:Int) (z1.2.2.2.1) (z1.2.2.2.2.1) (z1.2.2.2.2.2)
noncomputable def B18 (a0:Int) (a1:Lq1) (a2:Int) (a3:LBBe) (a4:Lq1) (a5:Int) (a6:Lq2):=let z1:=A9W a0 a1 a2 a3 a4 a5 a6;let z2:=A0h a0 a1 a2 a3 a4 a5 a6;C0q (z2.1) (z1.2.1) (z2.2.1) (z1.2.2.1) (z1.2.2.2) (1:Int)
noncomputable def A9C (a0:Int) (a1:Lq1) (a2:Int) (a3:LBBe) (a4:Lq1) (a5:Int) (a6:Lq2):Bool:=let z1:=((A0h a0 a1 a2 a3 a4 a5 a6).2.2.1) != ((A9V a0 a1 a2 a3 a4 a5 a6).2.2.2.2.2);let z2:=B18 a0 a1 a2 a3 a4 a5 a6;let z3:=!(B15 a0 a1 a2 a3 a4 a5 a6);let z4:=z2 != ((A9W a0 a1 a2 a3 a4 a5 a6).1);let z5:=A9X a0 a1 a2 a3 a4 (1048576:Int);let z6:=decide (z2<(0:Int));(cond (decide (z5<(0:Int))) true (cond (decide ((A9D a6 z5)<(0:Int))) true (cond z3 false (cond z1 false (cond (!(B16 a0 a1 a2 a3 a4)) false (cond (!(C0p (B5y a6) (B5y a6))) false (cond (decide (((W2 ((B17 a0 a1 a2 a3 a4).1) (B5y a6)).1)<(0:Int))) false (cond z3 false (cond z1 false (cond z6 false (cond z4 false (cond z3 false (cond z1 false (cond z6 false (cond z4 false true)))))))))))))))
noncomputable abbrev H9 (r:Bool):AV×List AObj:=((.t true .bool r),[])
noncomputable abbrev C2l:D9 B25→AV×List AObj:=fun d=>H9 (A9C d.1.1 d.1.2.1 d.1.2.2.1 d.1.2.2.2.1 d.1.2.2.2.2.1 d.2.1 d.2.2.1)
noncomputable def A8j (a0:Int) (a1:Lq1) (a2:Int) (a3:LBBe) (a4:Lq1) (a5:Int) (a6:Lq2):Bool:=let z2:=B3E a0 a1 a2 a3 a4;let z3:=A0h a0 a1 a2 a3 a4 a5 a6;let z4:=A9V a0 a1 a2 a3 a4 a5 a6;let z1:=A8k (z3.1) (z3.2.2.2.1) (z3.2.1) (z3.2.2.2.2.1) (z3.2.2.2.2.2) (z4.1) (z4.2.1) (z4.2.2.1) (z4.2.2.2.1) (z4.2.2.2.2.1);let z5:=A9W a0 a1 a2 a3 a4 a5 a6;let z6:=!(B15 a0 a1 a2 a3 a4 a5 a6);let z8:=A9X a0 a1 a2 a3 a4 (1048576:Int);let z9:=B2r a0 a1 a2 a3 a4;let z10:=A9H (z3.1) (z5.2.1) (z3.2.1) (z5.2.2.1) (z5.2.2.2) (1:Int);let z11:=B5y a6;let z7:=B76 (z2.1) (z2.2.2.1) (z2.2.1) (z2.2.2.2.1) (z2.2.2.2.2) a5 z11;let z12:=B18 a0 a1 a2 a3 a4 a5 a6;let z13:=(B17 a0 a1 a2 a3 a4).1;let z14:=B7q a6;(B2q a0 a1 a2 a3 a4 (1048576:Int))&&(cond (decide (z8<(0:Int))) true ((B7p a6 z8)&&(cond (decide ((A9D a6 z8)<(0:Int))) true (z9&&(z14&&((B77 (z2.1) (z2.2.2.1) (z2.2.1) (z2.2.2.2.1) (z2.2.2.2.2) a5 z11)&&(z9&&(z14&&(z7&&(z1&&(cond z6 true (cond ((z3.2.2.1) != (z4.2.2.2.2.2)) true (z9&&((A8k (z2.1) (z2.2.2.1) (z2.2.1) (z2.2.2.2.1) (z2.2.2.2.2) (z2.1) (z2.2.2.1) (z2.2.1) (z2.2.2.2.1) (z2.2.2.2.2))&&(cond (!(B16 a0 a1 a2 a3 a4)) true (z14&&((B7n z11 z11)&&(cond (!(C0p z11 z11)) true ((A0p (z2.1) (z2.2.1) (1:Int) (z2.2.2.1) (z2.2.2.2.1) (z2.2.2.2.2))&&((A8S z13 z11)&&(cond (decide (((W2 z13 z11).1)<(0:Int))) true (z1&&(cond z6 true (cond ((z3.2.2.1) != (z4.2.2.2.2.2)) true ((A0p (z3.1) (z3.2.1) (1:Int) (z3.2.2.2.1) (z3.2.2.2.2.1) (z3.2.2.2.2.2))&&(z10&&(cond (decide (z12<(0:Int))) true (cond (z12 != (z5.1)) true (z9&&(z14&&(z7&&(z1&&(cond z6 true (cond ((z3.2.2.1) != (z4.2.2.2.2.2)) true z10))))))))))))))))))))))))))))))))))
noncomputable abbrev A9f:D9 B25→Bool:=fun d=>A8j d.1.1 d.1.2.1 d.1.2.2.1 d.1.2.2.2.1 d.1.2.2.2.2.1 d.2.1 d.2.2.1
theorem C73:A7X true D9T aLn Tryz.f3 B25 A9f C2l:=by
 rintro ⟨⟨a0,⟨a1,⟨a2,⟨a3,⟨a4,_⟩⟩⟩⟩⟩,⟨a5,⟨a6,_⟩⟩⟩ hp
 change A8j a0 a1 a2 a3 a4 a5 a6=true at hp
 unfold A8j at hp
 refine Eq.trans (b:=(let z2:=B3E a0 a1 a2 a3 a4;let z3:=A0h a0 a1 a2 a3 a4 a5 a6;let z4:=A9V a0 a1 a2 a3 a4 a5 a6;let z1:=A8k (z3.1) (z3.2.2.2.1) (z3.2.1) (z3.2.2.2.2.1) (z3.2.2.2.2.2) (z4.1) (z4.2.1) (z4.2.2.1) (z4.2.2.2.1) (z4.2.2.2.2.1);let z5:=A9W a0 a1 a2 a3 a4 a5 a6;let z6:=B18 a0 a1 a2 a3 a4 a5 a6;let z7:=!(B15 a0 a1 a2 a3 a4 a5 a6);let z9:=A9X a0 a1 a2 a3 a4 (1048576:Int);let z10:=B2r a0 a1 a2 a3 a4;let z11:=A9H (z3.1) (z5.2.1) (z3.2.1) (z5.2.2.1) (z5.2.2.2) (1:Int);let z12:=B5y a6;let z8:=B76 (z2.1) (z2.2.2.1) (z2.2.1) (z2.2.2.2.1) (z2.2.2.2.2) a5 z12;let z13:=(B17 a0 a1 a2 a3 a4).1;let z14:=B7q a6;let z15:=decide (z6<(0:Int));cond (B2q a0 a1 a2 a3 a4 (1048576:Int)) (cond (decide (z9<(0:Int))) (some (H9 true)) (cond (B7p a6 z9) (cond (decide ((A9D a6 z9)<(0:Int))) (some (H9 true)) (cond z10 (cond z14 (cond (B77 (z2.1) (z2.2.2.1) (z2.2.1) (z2.2.2.2.1) (z2.2.2.2.2) a5 z12) (cond z10 (cond z14 (cond z8 (cond z1 (cond z7 (some (H9 false)) (cond ((z3.2.2.1) != (z4.2.2.2.2.2)) (some (H9 false)) (cond z10 (cond (A8k (z2.1) (z2.2.2.1) (z2.2.1) (z2.2.2.2.1) (z2.2.2.2.2) (z2.1) (z2.2.2.1) (z2.2.1) (z2.2.2.2.1) (z2.2.2.2.2)) (cond (!(B16 a0 a1 a2 a3 a4)) (some (H9 false)) (cond z14 (cond (B7n z12 z12) (cond (!(C0p z12 z12)) (some (H9 false)) (cond (A0p (z2.1) (z2.2.1) (1:Int) (z2.2.2.1) (z2.2.2.2.1) (z2.2.2.2.2)) (cond (A8S z13 z12) (cond (decide (((W2 z13 z12).1)<(0:Int))) (some (H9 false)) (cond z1 (cond z7 (some (H9 false)) (cond ((z3.2.2.1) != (z4.2.2.2.2.2)) (some (H9 false)) (cond (A0p (z3.1) (z3.2.1) (1:Int) (z3.2.2.2.1) (z3.2.2.2.2.1) (z3.2.2.2.2.2)) (cond z11 (cond z15 (some (H9 false)) (cond (z6 != (z5.1)) (some (H9 false)) (cond z10 (cond z14 (cond z8 (cond z1 (cond z7 (some (H9 false)) (cond ((z3.2.2.1) != (z4.2.2.2.2.2)) (some (H9 false)) (cond z11 (cond z15 (some (H9 false)) (cond (z6 != (z5.1)) (some (H9 false)) (some (H9 true)))) none))) none) none) none) none))) none) none))) none)) none) none)) none) none)) none) none))) none) none) none) none) none) none) none)) none)) none)) (by kernel_rfl) ?_
 exact (A7Y hp fun hp=>(K9 H9 hp (fun hp=>rfl) (fun hp=>(A7Y hp fun hp=>(K9 H9 hp (fun hp=>rfl) (fun hp=>(A7Y hp fun hp=>(A7Y hp fun hp=>(A7Y hp fun hp=>(A7Y hp fun hp=>(A7Y hp fun hp=>(A7Y hp fun hp=>(A7Y hp fun hp=>(K9 H9 hp (fun hp=>rfl) (fun hp=>(K9 H9 hp (fun hp=>rfl) (fun hp=>(A7Y hp fun hp=>(A7Y hp fun hp=>(K9 H9 hp (fun hp=>rfl) (fun hp=>(A7Y hp fun hp=>(A7Y hp fun hp=>(K9 H9 hp (fun hp=>rfl) (fun hp=>(A7Y hp fun hp=>(A7Y hp fun hp=>(K9 H9 hp (fun hp=>rfl) (fun hp=>(A7Y hp fun hp=>(K9 H9 hp (fun hp=>rfl) (fun hp=>(K9 H9 hp (fun hp=>rfl) (fun hp=>(A7Y hp fun hp=>(A7Y hp fun hp=>(K9 H9 hp (fun hp=>rfl) (fun hp=>(K9 H9 hp (fun hp=>rfl) (fun hp=>(A7Y hp fun hp=>(A7Y hp fun hp=>(A7Y hp fun hp=>(A7Y hp fun hp=>(K9 H9 hp (fun hp=>rfl) (fun hp=>(K9 H9 hp (fun hp=>rfl) (fun hp=>(A70 hp fun _h=>(Q7 H9 (fun _h=>rfl) (fun _h=>(Q7 H9 (fun _h=>rfl) (fun _h=>rfl)))))))))))))))))))))))))))))))))))))))))))))))))))))
theorem C9T:aPP 3 (A19 B25 A9f C2l):=pcD true D9T hlz C73
noncomputable abbrev K3:=(Int)×(Int)×Lq2
noncomputable abbrev P7:=(Int)×(List K3)×(Int)×LBBe×List K3
noncomputable def D2w (l:Lq2):Prop:=B6M l=true
noncomputable def D72 (x:K3):Prop:=D2w x.2.2
noncomputable def C5K (l:List K3):Prop:=l.length≤9223372036854775807∧∀ x∈l,D72 x
noncomputable abbrev V9:=ByteArray×ByteArray
noncomputable def C5J (l:List V9):Prop:=l.length≤9223372036854775807∧∀ p∈l,C5L p.1=true∧C5L p.2=true
noncomputable def C5M (x:P7):Prop:=C5K x.2.1∧C5J x.2.2.2.1∧C5K x.2.2.2.2
noncomputable def D6N (l:Lq2):Prop:=T6 l=true
noncomputable def D6O (x:K3):Prop:=D6N x.2.2
noncomputable def A0o (l:List K3):Prop:=l.length≤1048576∧∀ x∈l,D6O x
noncomputable def C9B (l:List V9):Prop:=l.length≤1048576∧∀ p∈l,okS p.1=true∧okS p.2=true
noncomputable def B72 (x:P7):Prop:=A0o x.2.1∧C9B x.2.2.2.1∧A0o x.2.2.2.2
noncomputable def I5:K3:=((0:Int),((0:Int),([]:Lq2)))
theorem P3 {α:Type} {l:List α} {i:Nat} (h:i<l.length) (d:α):l.getD i d∈l:=by
 simp [List.getD_eq_getElem?_getD,h]
theorem L4 {α:Type} {l:List α} {i:Nat} (hi:i<l.length) (d:α):l.take (i+1)=l.take i++[l.getD i d]:=by
 rw [List.take_add_one,List.getElem?_eq_getElem hi];simp [List.getD_eq_getElem?_getD,hi]
theorem D9F {V A α:Type} {ss:V→V ⊕ A} {fa:A} (pk:Int→Nat→V) (l:List α) (d:α) (sz:α→Int→Int) (Q:α→Prop) (bad:A) (good:Int→A) (M:Int) (hn:l.length<4611686018427387904) {b:Int} (h0:0≤b) (h1:b≤M)
  (hstep:∀ i c,i<l.length→0≤c→c≤M→ss (pk c i)=cond (decide (sz (l.getD i d) c<0)) (.inr bad) (.inl (pk (sz (l.getD i d) c) (i+1))))
  (hQ:∀ x∈l,∀ c,0≤c→c≤M→0≤sz x c→sz x c≤c∧Q x) (hlast:∀ c,ss (pk c l.length)=.inr (good c)) :
  itX ss fa (pk b 0)=bad∨∃ c,itX ss fa (pk b 0)=good c∧0≤c∧c≤b∧∀ x∈l,Q x:=by
 rw [A6L]
 have key:∀ k N i c,i+k=l.length→k<N→0≤c→c≤b→(∀ x∈l.take i,Q x)→itN ss fa N (pk c i)=bad∨∃ c', itN ss fa N (pk c i)=good c'∧0≤c'∧c'≤b∧∀ x∈l,Q x:=by
  intro k
  induction k with
  | zero =>
   intro N i c hi hN c0 c1 hq
   obtain ⟨N,rfl⟩:∃ M,N=M+1:=⟨N - 1,by omega⟩
   obtain rfl:i=l.length:=by omega
   rw [A67,hlast c]
   rw [List.take_length] at hq
   exact .inr ⟨c,rfl,c0,c1,hq⟩
  | succ k ih =>
   intro N i c hi hN c0 c1 hq
   obtain ⟨N,rfl⟩:∃ M,N=M+1:=⟨N - 1,by omega⟩
   have hlt:i<l.length:=by omega
   rw [A67,hstep i c hlt c0 (by omega)]
   by_cases hneg:sz (l.getD i d) c<0
   ·rw [decide_eq_true hneg];exact .inl rfl
   ·rw [decide_eq_false hneg]
    obtain ⟨q1,q2⟩:=hQ _ (P3 hlt d) c c0 (by omega) (by omega)
    refine ih N (i+1) _ (by omega) (by omega) (by omega) (by omega) (fun x hx=>?_)
    rw [L4 hlt d] at hx
    rcases List.mem_append.1 hx with hx | hx
    ·exact hq x hx
    ·simp only [List.mem_singleton] at hx;rw [hx];exact q2
 exact key l.length _ 0 b (by omega) hn h0 (Int.le_refl _) (by simp)
theorem D2l (k:Int) (s v:ByteArray) (b:Int) (h0:0≤b) (h1:b≤1048576) (hs:C5L s=true) (hv:C5L v=true) (h:0≤D19 k s v b):D19 k s v b≤b∧okS s=true∧okS v=true:=by
 simp only [C5L,decide_eq_true_eq] at hs hv
 have e1:=A61 (n:=b - (s.size:Int)) (by omega) (by omega)
 simp only [D19,e1] at h ⊢
 cases hd:decide (b - (s.size:Int)<0) with
 | true=>rw [hd] at h;simp at h
 | false =>
  rw [hd] at h
  have:=of_decide_eq_false hd
  have e2:=A61 (n:=b - (s.size:Int) - (v.size:Int)) (by omega) (by omega)
  simp only [cond_false,e2] at h ⊢
  cases hd2:decide (b - (s.size:Int) - (v.size:Int)<0) with
  | true=>rw [hd2] at h;simp at h
  | false =>
   have:=of_decide_eq_false hd2
   simp only [cond_false,okS,decide_eq_true_eq]
   omega
theorem D6I (l:Lq2) (b:Int) (h0:0≤b) (h1:b≤1048576) (hb:B6M l=true) (h:0≤A9D l b):A9D l b≤b∧T6 l=true:=by
 have hl:l.length≤9223372036854775807:=by simp only [B6M,Bool.and_eq_true,decide_eq_true_eq] at hb;exact hb.1
 have e1:=A61 (n:=b - (l.length:Int)) (by omega) (by omega)
 simp only [A9D,e1,Int.toNat_zero,Nat.sub_zero] at h ⊢
 cases hd:decide (b - (l.length:Int)<0) with
 | true=>rw [hd] at h;simp at h
 | false =>
  rw [hd] at h
  have:=of_decide_eq_false hd
  simp only [cond_false] at h ⊢
  cases hi:A7S (szN (W7 l) l.length 0 (b - (l.length:Int))) with
  | false=>rw [hi] at h;simp at h
  | true =>
   obtain ⟨r1,r2,r3⟩:=D3Z (M:=1048576) (Q:=fun i=>okS (l.getD i dOp).2.1=true∧okS (l.getD i dOp).2.2=true) l.length 0 (b - (l.length:Int)) (fun j b' _ hj q0 q1 hf=>by
    obtain ⟨p1,p2⟩:=D1Y hb j (by omega)
    obtain ⟨s1,s2,s3⟩:=D2l _ _ _ b' q0 q1 p1 p2 hf
    exact ⟨⟨s2,s3⟩,s1⟩) (by omega) (by omega) hi
   simp only [cond_true]
   exact ⟨by omega,D8H (by omega) (fun i hi=>r1 i (Nat.zero_le _) (by omega))⟩
theorem D8O {l:Lq2} {b:Int} (hb:D2w l) (h0:0≤b) (h1:b≤1048576):B7p l b=true∧(0≤A9D l b→A9D l b≤b∧D6N l):=⟨decide_eq_true ⟨h0,h1,D5P hb⟩,fun h=>D6I l b h0 h1 hb h⟩
theorem D1a {x:K3} {b:Int} (hx:D72 x) (h0:0≤b) (h1:b≤1048576):B9t x.1 x.2.1 x.2.2 b=true∧(0≤B8p x.1 x.2.1 x.2.2 b→B8p x.1 x.2.1 x.2.2 b≤b∧D6O x):=by
 obtain ⟨a1,a2⟩:=D8O hx h0 h1
 refine ⟨a1,fun h=>?_⟩
 simp only [B8p] at h ⊢
 by_cases hd:A9D x.2.2 b<0
 ·rw [decide_eq_true hd] at h;simp at h
 ·rw [decide_eq_false hd];exact a2 (by omega)
theorem D30 {l:List K3} {b:Int} (hb:C5K l) (h0:0≤b) (h1:b≤1048576):B1p l b=true∧(0≤Z6 l b→Z6 l b≤b∧A0o l):=by
 obtain ⟨h2,h3⟩:=hb
 have hdj:(((0:Int),((0:Int),([]:Lq2))):K3)=I5:=rfl
 have e1:=A61 (n:=b - (l.length:Int)) (by omega) (by omega)
 simp only [B1p,Z6,e1]
 by_cases hd:b - (l.length:Int)<0
 ·rw [decide_eq_true hd];simp
 rw [decide_eq_false hd]
 simp only [cond_false]
 have key:A8F l (b - (l.length:Int)) 0=(0,-1,0)∨∃ c,A8F l (b - (l.length:Int)) 0=(1,0,c)∧0≤c∧c≤b - (l.length:Int)∧∀ x∈l,D6O x:=by
  refine D9F (fun c i=>(l,c,(i:Int))) l I5 (fun x c=>B8p x.1 x.2.1 x.2.2 c) D6O (0,-1,0) (fun c=>(1,0,c)) b (by omega) (by omega) (by omega) (fun i c hi c0 c1=>?_) (fun x hx c c0 c1 h=>(D1a (h3 x hx) c0 (by omega)).2 h) (fun c=>?_)
  ·have q1:=(D1a (h3 _ (P3 hi I5)) c0 (by omega)).1
   have e1:decide ((i:Int)<(l.length:Int))=true:=decide_eq_true (by omega)
   have e2:decide (0≤(i:Int)∧(i:Int)<(l.length:Int))=true:=decide_eq_true (by omega)
   simp only [B1v,hdj,e1,e2,cond_true,Int.toNat_natCast,q1,A7U i (by omega)]
  ·have e1:decide ((l.length:Int)<(l.length:Int))=false:=decide_eq_false (by omega)
   simp only [B1v,e1,cond_false]
 rcases key with h | ⟨c,h,c0,c1,hj⟩
 ·rw [h];exact ⟨rfl,fun h=>by simp at h⟩
 ·rw [h];exact ⟨rfl,fun _=>⟨by show c≤b;omega,by omega,hj⟩⟩
noncomputable def D4r:V9:=(bE,bE)
theorem D5v (s v:ByteArray) (b:Int) (h0:0≤b) (h1:b≤1048576) (hs:C5L s=true) (hv:C5L v=true) (h:0≤C3B s v b):C3B s v b≤b∧okS s=true∧okS v=true:=by
 simp only [C5L,decide_eq_true_eq] at hs hv
 have e1:=A61 (n:=b - (s.size:Int)) (by omega) (by omega)
 simp only [C3B,e1] at h ⊢
 cases hd:decide (b - (s.size:Int)<0) with
 | true=>rw [hd] at h;simp at h
 | false =>
  rw [hd] at h
  have:=of_decide_eq_false hd
  have e2:=A61 (n:=b - (s.size:Int) - (v.size:Int)) (by omega) (by omega)
  simp only [cond_false,e2] at h ⊢
  cases hd2:decide (b - (s.size:Int) - (v.size:Int)<0) with
  | true=>rw [hd2] at h;simp at h
  | false =>
   have:=of_decide_eq_false hd2
   simp only [cond_false,okS,decide_eq_true_eq]
   omega
theorem D5u {l:List V9} {b:Int} (hb:C5J l) (h0:0≤b) (h1:b≤1048576):B4t l b=true∧(0≤B0X l b→B0X l b≤b∧C9B l):=by
 obtain ⟨hl,hp⟩:=hb
 refine ⟨decide_eq_true ⟨h0,h1,hl⟩,fun h=>?_⟩
 have e1:=A61 (n:=b - (l.length:Int)) (by omega) (by omega)
 simp only [B0X,e1,Int.toNat_zero,Nat.sub_zero] at h ⊢
 cases hd:decide (b - (l.length:Int)<0) with
 | true=>rw [hd] at h;simp at h
 | false =>
  rw [hd] at h
  have:=of_decide_eq_false hd
  simp only [cond_false] at h ⊢
  cases hi:A7S (szN (R8 l) l.length 0 (b - (l.length:Int))) with
  | false=>rw [hi] at h;simp at h
  | true =>
   obtain ⟨r1,r2,r3⟩:=D3Z (M:=1048576) (Q:=fun i=>okS (l.getD i D4r).1=true∧okS (l.getD i D4r).2=true) l.length 0 (b - (l.length:Int)) (fun j b' _ hj q0 q1 hf=>by
    obtain ⟨p1,p2⟩:=hp _ (P3 (show j<l.length by omega) D4r)
    obtain ⟨s1,s2,s3⟩:=D5v _ _ b' q0 q1 p1 p2 hf
    exact ⟨⟨s2,s3⟩,s1⟩) (by omega) (by omega) hi
   simp only [cond_true]
   refine ⟨by omega,by omega,fun p hm=>?_⟩
   obtain ⟨i,hi,e⟩:=List.getElem_of_mem hm
   have:=r1 i (Nat.zero_le _) (by omega)
   rw [List.getD_eq_getElem?_getD,List.getElem?_eq_getElem hi,Option.getD_some,e] at this
   exact this
theorem D6J {x:P7} {b:Int} (hx:C5M x) (h0:0≤b) (h1:b≤1048576):B2q x.1 x.2.1 x.2.2.1 x.2.2.2.1 x.2.2.2.2 b=true∧(0≤A9X x.1 x.2.1 x.2.2.1 x.2.2.2.1 x.2.2.2.2 b→A9X x.1 x.2.1 x.2.2.1 x.2.2.2.1 x.2.2.2.2 b≤b∧B72 x):=by
 simp only [B2q,A9X]
 obtain ⟨q0,a0⟩:=D30 (b:=b) (hx.1) (by omega) (by omega)
 generalize hc0:Z6 x.2.1 b=c0 at *
 by_cases hd0:c0<0
 ·simp only [q0,decide_eq_true hd0,cond_true,Bool.true_and]
  exact ⟨trivial,fun h=>by simp at h⟩
 obtain ⟨m0,k0⟩:=a0 (by omega)
 simp only [q0,decide_eq_false hd0,cond_false,Bool.true_and]
 obtain ⟨q1,a1⟩:=D5u (b:=c0) (hx.2.1) (by omega) (by omega)
 generalize hc1:B0X x.2.2.2.1 c0=c1 at *
 by_cases hd1:c1<0
 ·simp only [q1,decide_eq_true hd1,cond_true,Bool.true_and]
  exact ⟨trivial,fun h=>by simp at h⟩
 obtain ⟨m1,k1⟩:=a1 (by omega)
 simp only [q1,decide_eq_false hd1,cond_false,Bool.true_and]
 obtain ⟨q2,a2⟩:=D30 (b:=c1) (hx.2.2) (by omega) (by omega)
 generalize hc2:Z6 x.2.2.2.2 c1=c2 at *
 by_cases hd2:c2<0
 ·rw [decide_eq_true hd2]
  exact ⟨q2,fun h=>by simp at h⟩
 obtain ⟨m2,k2⟩:=a2 (by omega)
 rw [decide_eq_false hd2]
 exact ⟨q2,fun _=>⟨by simp only [cond_false];omega,k0,k1,k2⟩⟩
noncomputable def A8Y {α:Type} (w:α→Nat) (l:List α):Nat:=(l.map w).sum
noncomputable def A9p (r:K3):Nat:=2+3*r.2.2.length
theorem D9z {l:Lq2} {b:Int} (h0:0≤b) (h1:b≤1048576) (hb:B6M l=true) (h:0≤A9D l b):A9D l b+(l.length:Int)≤b:=by
 have hl:l.length≤9223372036854775807:=by simp only [B6M,Bool.and_eq_true,decide_eq_true_eq] at hb;exact hb.1
 have e1:=A61 (n:=b - (l.length:Int)) (by omega) (by omega)
 simp only [A9D,e1,Int.toNat_zero,Nat.sub_zero] at h ⊢
 cases hd:decide (b - (l.length:Int)<0) with
 | true=>rw [hd] at h;simp at h
 | false =>
  rw [hd] at h
  have:=of_decide_eq_false hd
  simp only [cond_false] at h ⊢
  cases hi:A7S (szN (W7 l) l.length 0 (b - (l.length:Int))) with
  | false=>rw [hi] at h;simp at h
  | true =>
   obtain ⟨r1,r2,r3⟩:=D3Z (M:=1048576) (Q:=fun i=>True) l.length 0 (b - (l.length:Int)) (fun j b' _ hj q0 q1 hf=>by
    obtain ⟨p1,p2⟩:=D1Y hb j (by omega)
    obtain ⟨s1,s2,s3⟩:=D2l _ _ _ b' q0 q1 p1 p2 hf
    exact ⟨trivial,s1⟩) (by omega) (by omega) hi
   simp only [cond_true]
   omega
theorem C75 {α:Type} (w:α→Nat) (l:List α) (x:α):A8Y w (l++[x])=A8Y w l+w x:=by simp [A8Y]
theorem D5w {l:List K3} {b:Int} (hl:C5K l) (h0:0≤b) (h1:b≤1048576) (h:0≤Z6 l b):3*Z6 l b+(A8Y A9p l:Int)≤3*b:=by
 obtain ⟨h2,h3⟩:=hl
 have e1:=A61 (n:=b - (l.length:Int)) (by omega) (by omega)
 simp only [Z6,e1] at h ⊢
 by_cases hd:b - (l.length:Int)<0
 ·rw [decide_eq_true hd] at h;simp at h
 ·rw [decide_eq_false hd] at h ⊢
  simp only [cond_false] at h ⊢
  have key:(A8F l (b - (l.length:Int)) 0=(0,-1,0))∨∃ c,A8F l (b - (l.length:Int)) 0=(1,0,c)∧3*c+(A8Y A9p l:Int)≤3*b:=by
   refine A68 (fun v:B4Z=>∃ (i:Nat) (c:Int),v=(l,c,(i:Int))∧i≤l.length∧0≤c∧c≤b∧3*c+(A8Y A9p (l.take i):Int)≤3*(b - (l.length:Int))+2*(i:Int)) (fun a:B2x=>a=(0,-1,0)∨∃ c,a=(1,0,c)∧3*c+(A8Y A9p l:Int)≤3*b) (fun v=>l.length - v.2.2.toNat) ?_ ⟨0,_,rfl,Nat.zero_le _,by omega,by omega,by simp [A8Y]⟩ (by simp;omega)
   rintro v ⟨i,c,rfl,hi,c0,c1,hj⟩
   by_cases hlt:i<l.length
   ·have e1:decide ((i:Int)<(l.length:Int))=true:=decide_eq_true (by omega)
    have e2:decide (0≤(i:Int)∧(i:Int)<(l.length:Int))=true:=decide_eq_true (by omega)
    have hbr:=h3 _ (P3 hlt I5)
    obtain ⟨q1,q2⟩:=D1a hbr c0 (by omega)
    have hdj:((0:Int),((0:Int),([]:Lq2)))=I5:=rfl
    simp only [B1v,hdj,e1,e2,cond_true,Int.toNat_natCast,q1,A7U i (by omega)]
    by_cases hn:B8p (l.getD i I5).1 (l.getD i I5).2.1 (l.getD i I5).2.2 c<0
    ·simp only [decide_eq_true hn,cond_true]
     exact .inr ⟨_,rfl,.inl rfl⟩
    ·simp only [decide_eq_false hn,cond_false]
     obtain ⟨r1,r2⟩:=q2 (by omega)
     have r3:B8p (l.getD i I5).1 (l.getD i I5).2.1 (l.getD i I5).2.2 c+((l.getD i I5).2.2.length:Int)≤c:=by
      simp only [B8p] at hn ⊢
      by_cases hz:A9D (l.getD i I5).2.2 c<0
      ·rw [decide_eq_true hz] at hn;simp at hn
      ·rw [decide_eq_false hz];exact D9z c0 (by omega) hbr (by omega)
     refine .inl ⟨_,rfl,⟨i+1,_,rfl,by omega,by omega,by omega,?_⟩,by simp only [Int.toNat_natCast];omega⟩
     rw [L4 hlt I5,C75,Int.natCast_add]
     simp only [A9p] at *
     omega
   ·obtain rfl:i=l.length:=by omega
    have e1:decide ((l.length:Int)<(l.length:Int))=false:=decide_eq_false (by omega)
    simp only [B1v,e1,cond_false]
    rw [List.take_length] at hj
    exact .inr ⟨_,rfl,.inr ⟨_,rfl,by omega⟩⟩
  rcases key with e | ⟨c,e,hc⟩
  ·rw [e] at h;simp at h
  ·rw [e];exact hc
theorem D7N {x:P7} (hb:C5M x) (h:0≤A9X x.1 x.2.1 x.2.2.1 x.2.2.2.1 x.2.2.2.2 1048576):A8Y A9p x.2.1≤3145728∧A8Y A9p x.2.2.2.2≤3145728:=by
 obtain ⟨b1,b2,b3⟩:=hb
 simp only [A9X] at h
 by_cases hd:Z6 x.2.1 1048576<0
 ·rw [decide_eq_true hd] at h;simp at h
 rw [decide_eq_false hd] at h
 simp only [cond_false] at h
 have y1:=D5w b1 (b:=1048576) (by decide) (by decide) (by omega)
 obtain ⟨z1,_⟩:=(D30 b1 (b:=1048576) (by decide) (by decide)).2 (by omega)
 generalize Z6 x.2.1 1048576=c at *
 by_cases hd2:B0X x.2.2.2.1 c<0
 ·rw [decide_eq_true hd2] at h;simp at h
 rw [decide_eq_false hd2] at h
 simp only [cond_false] at h
 obtain ⟨z2,_⟩:=(D5u b2 (b:=c) (by omega) (by omega)).2 (by omega)
 generalize B0X x.2.2.2.1 c=d at *
 by_cases hd3:Z6 x.2.2.2.2 d<0
 ·rw [decide_eq_true hd3] at h;simp at h
 have y3:=D5w b3 (b:=d) (by omega) (by omega) (by omega)
 omega
theorem D9i {V A α β:Type} {ss:V→V ⊕ A} {fa:A} (pk:Nat→List β→V) (l:List α) (d:α) (e:β) (f:α→β) (last:List β→A) (hn:l.length<4611686018427387904)
  (h:∀ i r,i<l.length→r.length=l.length→ss (pk i r)=.inl (pk (i+1) (r.set i (f (l.getD i d))))) (hl:∀ r,r.length=l.length→ss (pk l.length r)=.inr (last r)):itX ss fa (pk 0 (List.replicate l.length e))=last (l.map f):=by
 rw [A6L]
 have key:∀ k N i r,i+k=l.length→k<N→r.length=l.length→r.take i=(l.map f).take i→itN ss fa N (pk i r)=last (l.map f):=by
  intro k
  induction k with
  | zero =>
   intro N i r hi hN hr ht
   obtain ⟨M,rfl⟩:∃ M,N=M+1:=⟨N - 1,by omega⟩
   obtain rfl:i=l.length:=by omega
   rw [A67,hl r hr]
   have e1:r.take l.length=r:=List.take_of_length_le (by omega)
   have e2:(l.map f).take l.length=l.map f:=List.take_of_length_le (by simp)
   rw [e1,e2] at ht
   rw [ht]
  | succ k ih =>
   intro N i r hi hN hr ht
   obtain ⟨M,rfl⟩:∃ M,N=M+1:=⟨N - 1,by omega⟩
   rw [A67,h i r (by omega) hr]
   refine ih M (i+1) _ (by omega) (by omega) (by rw [List.length_set];exact hr) ?_
   have hlt:i<l.length:=by omega
   rw [List.take_add_one,List.take_add_one,List.take_set_of_le (Nat.le_refl _),ht]
   congr 1
   simp [List.getElem?_set,hr,hlt,List.getD_eq_getElem?_getD]
 exact key l.length _ 0 _ (by omega) hn (by simp) (by simp)
theorem D6K (l:Lq2):B5y l=l:=by
 have e:=A71 (fun o:Int×ByteArray×ByteArray=>(C8i o.1 o.2.1 o.2.2)) dOp l l.length 0 (List.replicate l.length dOp) (by simp) (by simp)
 simp only [List.take_zero,List.nil_append,List.drop_zero] at e
 have e2:l.map (fun o:Int×ByteArray×ByteArray=>(C8i o.1 o.2.1 o.2.2))=l:=by
  rw [show (fun o:Int×ByteArray×ByteArray=>(C8i o.1 o.2.1 o.2.2))=id from funext fun _=>rfl,List.map_id]
 rw [e2] at e
 exact e
theorem D8P {l:Lq2} (h:D6N l):B7q l=true∧B5y l=l:=⟨D2c h,D6K l⟩
theorem D6P {l:List K3} (h:A0o l):B1q l=true∧C0s l=l:=by
 obtain ⟨hl,h3⟩:=h
 have hdj:(((0:Int),((0:Int),([]:Lq2))):K3)=I5:=rfl
 have key:B3v l 0 (List.replicate l.length I5)=(0,l.map fun x=>x):=by
  refine D9i (fun i r=>(l,(i:Int),r)) l I5 I5 (fun x=>x) (fun r=>(0,r)) (by omega) (fun i r hi hr=>?_) (fun r hr=>?_)
  ·have e1:decide ((i:Int)<(l.length:Int))=true:=decide_eq_true (by omega)
   have e2:decide (0≤(i:Int)∧(i:Int)<(l.length:Int))=true:=decide_eq_true (by omega)
   have e3:decide (0≤(i:Int)∧(i:Int)<(r.length:Int))=true:=decide_eq_true (by omega)
   have ho:=h3 _ (P3 hi I5)
   have o2:=ho
   obtain ⟨qE2,toE2⟩:=D8P o2
   have q1:B9u (l.getD i I5).1 (l.getD i I5).2.1 (l.getD i I5).2.2=true:=by
    exact qE2
   simp only [B6c,hdj,e1,e2,e3,cond_true,Int.toNat_natCast,q1,A7U i (by omega),D23,toE2]
  ·have e1:decide ((l.length:Int)<(l.length:Int))=false:=decide_eq_false (by omega)
   simp only [B6c,e1,cond_false]
 rw [List.map_id'] at key
 simp only [B1q,C0s,hdj,Int.toNat_natCast,key]
 refine ⟨?_,trivial⟩
 rw [Bool.and_eq_true]
 exact ⟨decide_eq_true ⟨by omega,trivial,by simp only [MAXB];omega,by omega⟩,rfl⟩
theorem D8Q {l:List V9} (h:C9B l):B4u l=true∧C6b l=l:=by
 refine ⟨decide_eq_true h.1,?_⟩
 have e:=A71 (fun o:V9=>(C0r o.1 o.2)) D4r l l.length 0 (List.replicate l.length D4r) (by simp) (by simp)
 simp only [List.take_zero,List.nil_append,List.drop_zero] at e
 have e2:l.map (fun o:V9=>(C0r o.1 o.2))=l:=by
  rw [show (fun o:V9=>(C0r o.1 o.2))=id from funext fun _=>rfl,List.map_id]
 rw [e2] at e
 exact e
theorem D8R {x:P7} (h:B72 x):B2r x.1 x.2.1 x.2.2.1 x.2.2.2.1 x.2.2.2.2=true∧B3E x.1 x.2.1 x.2.2.1 x.2.2.2.1 x.2.2.2.2=(x.1,x.2.2.1,x.2.1,x.2.2.2.1,x.2.2.2.2):=by
 obtain ⟨o1,o3,o4⟩:=h
 obtain ⟨qE1,toE1⟩:=D6P o1
 obtain ⟨qE3,toE3⟩:=D8Q o3
 obtain ⟨qE4,toE4⟩:=D6P o4
 simp only [B2r,B3E,qE1,qE3,qE4,toE1,toE3,toE4,Bool.and_self]
 exact ⟨trivial,trivial⟩
theorem D7l (k:Int) (s v:ByteArray):D18 k s v k s v=true:=by simp [D18]
theorem D53 (l:Lq2):C0p l l=true:=by
 have e:A4W (B2k l l) (l.length - (0:Int).toNat) (0:Int).toNat=true:=C67 _ _ (fun j _ _=>by simp [B2k,D7l])
 simp only [C0p,e,cond_true]
 simp
theorem D8m {l:Lq2} (h:D6N l):B7n l l=true∧C0p l l=true:=⟨D2c h,D53 l⟩
noncomputable def C6T {A:Type} (f:Nat→Option A) (last:A):Nat→Nat→A
 | 0,_=>last
 | k+1,i=>match f i with
  | some a=>a
  | none=>C6T f last k (i+1)
theorem D4F {V A:Type} {ss:V→V ⊕ A} {fa:A} (pk:Nat→V) (n:Nat) (f:Nat→Option A) (last:A) (hn:n<4611686018427387904)
  (h:∀ i,i<n→ss (pk i)=(match f i with | some a=>.inr a | none=>.inl (pk (i+1)))) (hl:ss (pk n)=.inr last):itX ss fa (pk 0)=C6T f last n 0:=by
 rw [A6L]
 have key:∀ k N i,i+k=n→k<N→itN ss fa N (pk i)=C6T f last k i:=by
  intro k
  induction k with
  | zero =>
   intro N i hi hN
   obtain ⟨M,rfl⟩:∃ M,N=M+1:=⟨N - 1,by omega⟩
   obtain rfl:i=n:=by omega
   rw [A67,hl];rfl
  | succ k ih =>
   intro N i hi hN
   obtain ⟨M,rfl⟩:∃ M,N=M+1:=⟨N - 1,by omega⟩
   rw [A67,h i (by omega)]
   simp only [C6T]
   cases hf:f i with
   | some a=>rfl
   | none=>exact ih M (i+1) (by omega) (by omega)
 exact key n _ 0 (by omega) hn
theorem C8K {A:Type} (f:Nat→Option A) (last:A):∀ k i,(∃ j a,i≤j∧j<i+k∧f j=some a∧(∀ m,i≤m→m<j→f m=none)∧C6T f last k i=a)∨((∀ j,i≤j→j<i+k→f j=none)∧C6T f last k i=last):=by
 intro k
 induction k with
 | zero=>intro i;exact .inr ⟨fun j h1 h2=>by omega,rfl⟩
 | succ k ih =>
  intro i
  simp only [C6T]
  cases hf:f i with
  | some a=>exact .inl ⟨i,a,Nat.le_refl _,by omega,hf,fun m h1 h2=>by omega,rfl⟩
  | none =>
   rcases ih (i+1) with ⟨j,a,h1,h2,h3,h4,h5⟩ | ⟨h1,h2⟩
   ·refine .inl ⟨j,a,by omega,by omega,h3,fun m m1 m2=>?_,h5⟩
    by_cases hm:m=i
    ·rw [hm];exact hf
    ·exact h4 m (by omega) m2
   ·refine .inr ⟨fun j j1 j2=>?_,h2⟩
    by_cases hj:j=i
    ·rw [hj];exact hf
    ·exact h1 j (by omega) (by omega)
theorem C9w {l:List K3} (h:A0o l):B1o l l=true∧B71 l l=true:=by
 obtain ⟨hl,h3⟩:=h
 have hdj:(((0:Int),((0:Int),([]:Lq2))):K3)=I5:=rfl
 have e0:∀ x:Int,(x != x)=false:=fun x=>by simp
 have e9:∀ x:Bool,(x==x)=true:=fun x=>by simp
 have key:B3u l l 0=C6T (fun _=>none) (1,false) l.length 0:=by
  refine D4F (fun i=>(l,l,(i:Int))) l.length _ _ (by omega) (fun i hi=>?_) ?_
  ·have e1:decide ((i:Int)<(l.length:Int))=true:=decide_eq_true (by omega)
   have e2:decide (0≤(i:Int)∧(i:Int)<(l.length:Int))=true:=decide_eq_true (by omega)
   have ho:=h3 _ (P3 hi I5)
   have o2:=ho
   obtain ⟨qE2,toE2⟩:=D8m o2
   have q1:B7o (l.getD i I5).1 (l.getD i I5).2.1 (l.getD i I5).2.2 (l.getD i I5).1 (l.getD i I5).2.1 (l.getD i I5).2.2=true:=by
    first | exact qE2 | (simp only [B7o,e0,cond_false];exact qE2)
   have q2:D0q (l.getD i I5).1 (l.getD i I5).2.1 (l.getD i I5).2.2 (l.getD i I5).1 (l.getD i I5).2.1 (l.getD i I5).2.2=true:=by
    simp only [D0q,e0,e9,toE2,cond_false,Bool.not_true]
   simp only [B6b,hdj,e1,e2,cond_true,cond_false,Bool.not_true,Int.toNat_natCast,q1,q2,A7U i (by omega)]
  ·have e1:decide ((l.length:Int)<(l.length:Int))=false:=decide_eq_false (by omega)
   simp only [B6b,e1,cond_false]
 have k2:C6T (fun _=>none) ((1,false):B0r) l.length 0=(1,false):=by
  rcases C8K (fun _=>none) ((1,false):B0r) l.length 0 with ⟨j,a,_,_,h3,_⟩ | ⟨_,h⟩
  ·cases h3
  ·exact h
 rw [k2] at key
 simp only [B1o,B71,key,e0,cond_false]
 exact ⟨rfl,rfl⟩
theorem D8n {l:List V9} (h:C9B l):B2p l l=true∧B5a l l=true:=by
 refine ⟨decide_eq_true h.1,?_⟩
 have e:A4W (A0n l l) (l.length - (0:Int).toNat) (0:Int).toNat=true:=C67 _ _ (fun j _ _=>by simp [A0n,C3A])
 simp only [B5a,e,cond_true]
 simp
theorem D54 {x:P7} (h:B72 x):A8k x.1 x.2.1 x.2.2.1 x.2.2.2.1 x.2.2.2.2 x.1 x.2.1 x.2.2.1 x.2.2.2.1 x.2.2.2.2=true∧B69 x.1 x.2.1 x.2.2.1 x.2.2.2.1 x.2.2.2.2 x.1 x.2.1 x.2.2.1 x.2.2.2.1 x.2.2.2.2=true:=by
 obtain ⟨o1,o3,o4⟩:=h
 obtain ⟨qE1,toE1⟩:=C9w o1
 obtain ⟨qE3,toE3⟩:=D8n o3
 obtain ⟨qE4,toE4⟩:=C9w o4
 have e0:∀ x:Int,(x != x)=false:=fun x=>by simp
 simp only [A8k,B69,e0,qE1,toE1,qE3,toE3,qE4,toE4,cond_false,Bool.not_true,Bool.and_self]
 exact ⟨trivial,trivial⟩
noncomputable def C4R (k:ByteArray) (ops:Lq2):Bool:=ops.any fun x=>k.toList==x.2.1.toList
noncomputable def C0o (l ops:Lq2):Bool:=l.any fun o=>C4R o.2.1 ops
noncomputable def A8p (held:List K3) (ops:Lq2):Bool:=held.any fun r=>C0o r.2.2 ops
noncomputable def misses (m:LBBe) (o:Int×ByteArray×ByteArray):Bool:=cond (o.1 != 3) false (cond (!((B3L m o.2.1).2==(!(o.2.2.toList==bE.toList)))) true (!((B3L m o.2.1).1.toList==o.2.2.toList)))
noncomputable def B1B (m:LBBe) (ops:Lq2):Bool:=!(ops.any (misses m))
noncomputable def J8 (t:Int) (r:K3):Bool:=r.2.1==t
noncomputable def isK (k:ByteArray) (p:ByteArray×ByteArray):Bool:=p.1.toList==k.toList
noncomputable def dP:ByteArray×ByteArray:=(bE,bE)
noncomputable def B3F (k:ByteArray) (p:ByteArray×ByteArray):Bool:=!(Op.bytesLess p.1.toList k.toList||p.1.toList==k.toList)
noncomputable def D41 (l:LBBe) (k v:ByteArray):LBBe :=
 cond (decide (l.findIdx (isK k)<l.length)) (l.set (l.findIdx (isK k)) ((l.getD (l.findIdx (isK k)) dP).1,v)) (l.take (l.findIdx (B3F k))++((k,v)::l.drop (l.findIdx (B3F k))))
noncomputable def C7b (l:LBBe) (k:ByteArray):LBBe:=l.filter fun p=>!isK k p
noncomputable def C3H (l:LBBe) (o:Int×ByteArray×ByteArray):LBBe:=cond (o.1==1) (D41 l o.2.1 o.2.2) (cond (o.1==2) (C7b l o.2.1) l)
noncomputable def B5P (kn:Bool) (m:List V9) (held:List K3) (r:K3):Option (List V9×List K3) :=
 cond (!(A9L r.1 r.2.1 r.2.2)) none (cond (r.1==1)
  (cond kn none (cond (A8p held r.2.2) none (cond (!(B1B m r.2.2)) none (some (m,held++[((1:Int),(r.2.1,r.2.2))])))))
  (cond (!(held.any (J8 r.2.1))) (cond (r.1==3) (cond kn none (some (m,held))) none)
   (cond (r.1==2) (cond (decide (((((held.getD (held.findIdx (J8 r.2.1)) I5).2.2.foldl C3H m).length:Nat):Int)≤60)) (some ((held.getD (held.findIdx (J8 r.2.1)) I5).2.2.foldl C3H m,held.eraseIdx (held.findIdx (J8 r.2.1)))) none)
    (cond (decide ((m.length:Int)≤60)) (some (m,held.eraseIdx (held.findIdx (J8 r.2.1)))) none))))
noncomputable def B1T (l:List K3):Nat→Option (List V9×List K3)
 | 0=>some ([],[])
 | i+1=>(B1T l i).bind fun s=>B5P ((l.take i).any (J8 (l.getD i I5).2.1)) s.1 s.2 (l.getD i I5)
noncomputable def A8V (l:List K3):List V9×List K3×Bool:=match B1T l l.length with
 | none=>([],[],false)
 | some s=>(s.1,s.2,true)
noncomputable def C6f (l:List K3):Prop:=(l.map (·.2.1)).Nodup
noncomputable abbrev RepOk (l:List K3) (i:Nat) (m:List V9) (held:List K3):Prop:=C6f held∧(∀ x∈held,T6 x.2.2=true∧(l.take i).any (J8 x.2.1)=true)∧held.length≤i∧m.length≤60
theorem C9Q {l:List K3} {i:Nat} {t:Int} (h:(l.take i).any (J8 t)=true):(l.take (i+1)).any (J8 t)=true:=by
 obtain ⟨x,hx,hp⟩:=List.any_eq_true.1 h
 exact List.any_eq_true.2 ⟨x,List.mem_of_mem_take (i:=i) (by rw [List.take_take,Nat.min_eq_left (by omega)];exact hx),hp⟩
theorem RepOk.hone {l:List K3} {i:Nat} {m:List V9} {held:List K3} (h:RepOk l i m held):C6f held:=h.1
theorem RepOk.hmem {l:List K3} {i:Nat} {m:List V9} {held:List K3} (h:RepOk l i m held):∀ x∈held,T6 x.2.2=true∧(l.take i).any (J8 x.2.1)=true:=h.2.1
theorem RepOk.hlen {l:List K3} {i:Nat} {m:List V9} {held:List K3} (h:RepOk l i m held):held.length≤i:=h.2.2.1
theorem RepOk.hml {l:List K3} {i:Nat} {m:List V9} {held:List K3} (h:RepOk l i m held):m.length≤60:=h.2.2.2
theorem D9y {l:List K3} {i:Nat} {m m':List V9} {held h':List K3} (hi:i<l.length) (hr:∀ x∈l,T6 x.2.2=true) (I:RepOk l i m held) (h:B5P ((l.take i).any (J8 (l.getD i I5).2.1)) m held (l.getD i I5)=some (m', h')):RepOk l (i+1) m' h':=by
 have hx:(l.take (i+1)).any (J8 (l.getD i I5).2.1)=true:=by
  refine List.any_eq_true.2 ⟨l.getD i I5,?_,by simp [J8]⟩
  rw [L4 hi I5];simp
 have sub:∀ k,RepOk l (i+1) m (held.eraseIdx k):=fun k=>by
  have hsub:(held.eraseIdx k).Sublist held:=List.eraseIdx_sublist _ _
  exact ⟨List.Nodup.sublist (hsub.map _) I.hone,fun x hx=>⟨(I.hmem x (hsub.subset hx)).1,C9Q (I.hmem x (hsub.subset hx)).2⟩,by have:=hsub.length_le;have:=I.hlen;omega,I.hml⟩
 simp only [B5P] at h
 cases hok:A9L (l.getD i I5).1 (l.getD i I5).2.1 (l.getD i I5).2.2 with
 | false=>rw [hok] at h;simp at h
 | true =>
  simp only [hok,Bool.not_true,cond_false] at h
  cases hk:((l.getD i I5).1==1) with
  | true =>
   simp only [hk,cond_true] at h
   cases hkn:(l.take i).any (J8 (l.getD i I5).2.1) with
   | true=>rw [hkn] at h;simp at h
   | false =>
    rw [hkn] at h
    cases hlk:A8p held (l.getD i I5).2.2 with
    | true=>rw [hlk] at h;simp at h
    | false =>
     rw [hlk] at h
     cases hmt:B1B m (l.getD i I5).2.2 with
     | false=>rw [hmt] at h;simp at h
     | true =>
      rw [hmt] at h
      simp only [Bool.not_true,cond_false,Option.some.injEq,Prod.mk.injEq] at h
      obtain ⟨rfl,rfl⟩:=h
      refine ⟨?_,fun x hm=>?_,by rw [List.length_append];have:=I.hlen;simp;omega,I.hml⟩
      ·simp only [C6f,List.map_append,List.map_cons,List.map_nil]
       rw [List.nodup_append]
       refine ⟨I.hone,by simp,fun a ha b hb=>?_⟩
       simp only [List.mem_singleton] at hb
       subst hb
       intro e
       obtain ⟨x,hx1,hx2⟩:=List.mem_map.1 ha
       have:=(I.hmem x hx1).2
       rw [show x.2.1=(l.getD i I5).2.1 from hx2.trans e,hkn] at this
       cases this
      ·rcases List.mem_append.1 hm with hm | hm
       ·exact ⟨(I.hmem x hm).1,C9Q (I.hmem x hm).2⟩
       ·simp only [List.mem_singleton] at hm
        subst hm
        have hq:=hr _ (P3 hi I5)
        exact ⟨hq,hx⟩
  | false =>
   simp only [hk,cond_false] at h
   cases ha:held.any (J8 (l.getD i I5).2.1) with
   | false =>
    simp only [ha,Bool.not_false,cond_true] at h
    cases h3:((l.getD i I5).1==3) with
    | false=>rw [h3] at h;simp at h
    | true =>
     rw [h3] at h
     cases hkn:(l.take i).any (J8 (l.getD i I5).2.1) with
     | true=>rw [hkn] at h;simp at h
     | false =>
      rw [hkn] at h
      simp only [cond_true,cond_false,Option.some.injEq,Prod.mk.injEq] at h
      obtain ⟨rfl,rfl⟩:=h
      exact ⟨I.hone,fun x hx=>⟨(I.hmem x hx).1,C9Q (I.hmem x hx).2⟩,by have:=I.hlen;omega,I.hml⟩
   | true =>
    simp only [ha,Bool.not_true,cond_false] at h
    cases h2:((l.getD i I5).1==2) with
    | true =>
     simp only [h2,cond_true] at h
     by_cases hc:((((held.getD (held.findIdx (J8 (l.getD i I5).2.1)) I5).2.2.foldl C3H m).length:Nat):Int)≤60
     ·rw [decide_eq_true hc] at h
      simp only [cond_true,Option.some.injEq,Prod.mk.injEq] at h
      obtain ⟨rfl,rfl⟩:=h
      have:=sub (held.findIdx (J8 (l.getD i I5).2.1))
      exact ⟨this.hone,this.hmem,this.hlen,by omega⟩
     ·rw [decide_eq_false hc] at h;simp at h
    | false =>
     simp only [h2,cond_false] at h
     by_cases hc:(m.length:Int)≤60
     ·rw [decide_eq_true hc] at h
      simp only [cond_true,Option.some.injEq,Prod.mk.injEq] at h
      obtain ⟨rfl,rfl⟩:=h
      exact sub _
     ·rw [decide_eq_false hc] at h;simp at h
theorem D0M {l:List K3} (hr:∀ x∈l,T6 x.2.2=true):∀ i,i≤l.length→∀ m held,B1T l i=some (m,held)→RepOk l i m held:=by
 intro i
 induction i with
 | zero =>
  intro _ m held h
  simp only [B1T,Option.some.injEq,Prod.mk.injEq] at h
  obtain ⟨rfl,rfl⟩:=h
  exact ⟨by simp [C6f],fun x hx=>by simp at hx,by simp,by simp⟩
 | succ i ih =>
  intro hi m held h
  simp only [B1T] at h
  cases hp:B1T l i with
  | none=>rw [hp] at h;cases h
  | some s =>
   rw [hp] at h
   exact D9y (by omega) hr (ih (by omega) s.1 s.2 (by rw [hp])) h
theorem B3s {V A α:Type} {ss:V→V ⊕ A} {fa:A} (pk:Nat→V) (l:List α) (d:α) (p:α→Bool) (good:Nat→A) (last:A) (hn:l.length<4611686018427387904)
  (h:∀ i,i<l.length→ss (pk i)=cond (p (l.getD i d)) (.inr (good i)) (.inl (pk (i+1)))) (hl:ss (pk l.length)=.inr last) :
  itX ss fa (pk 0)=cond (decide (l.findIdx p<l.length)) (good (l.findIdx p)) last:=by
 rw [D4F pk l.length (fun i=>cond (p (l.getD i d)) (some (good i)) none) last hn (fun i hi=>by rw [h i hi];cases p (l.getD i d)<;>rfl) hl]
 rcases C8K (fun i=>cond (p (l.getD i d)) (some (good i)) none) last l.length 0 with ⟨j,a,h1,h2,h3,h4,h5⟩ | ⟨h1,h2⟩
 ·have hj:j<l.length:=by omega
  have hg:l.getD j d=l[j]:=by simp [List.getD_eq_getElem?_getD,hj]
  have hp:p l[j]=true:=by
   cases hc:p (l.getD j d) with
   | true=>rw [hg] at hc;exact hc
   | false=>simp only [hc,cond_false] at h3;cases h3
  have hf:l.findIdx p=j:=by
   rw [List.findIdx_eq hj]
   refine ⟨hp,fun m hm=>?_⟩
   have:=h4 m (by omega) hm
   have hgm:l.getD m d=l[m]:=by simp [List.getD_eq_getElem?_getD,Nat.lt_trans hm hj]
   rw [← hgm]
   cases hc:p (l.getD m d) with
   | false=>rfl
   | true=>simp only [hc,cond_true] at this;cases this
  rw [h5,hf,decide_eq_true hj]
  rw [hg,hp] at h3
  exact (Option.some.inj h3).symm
 ·have hf : ¬ l.findIdx p < l.length := by
   intro hlt
   have hp:=List.findIdx_getElem (w:=hlt)
   have:=h1 (l.findIdx p) (by omega) (by omega)
   have hg:l.getD (l.findIdx p) d=l[l.findIdx p]:=by simp [List.getD_eq_getElem?_getD,hlt]
   rw [hg,hp] at this
   cases this
  rw [h2,decide_eq_false hf];rfl
theorem A8Z (l:List K3) (i:Nat):l.getD i ((0:Int),((0:Int),[]))=l.getD i I5:=rfl
theorem B9f (l:List K3) (t:Int) (hl:l.length≤1099511627776):B3K l t=true∧B3O l t=cond (decide (l.findIdx (J8 t)<l.length)) ((l.findIdx (J8 t):Nat):Int) (-1):=by
 have e:B65 l t 0=cond (decide (l.findIdx (J8 t)<l.length)) (0,((l.findIdx (J8 t):Nat):Int)) (1,0):=by
  refine B3s (ss:=fun v:B6f=>B7z v.1 v.2.1 v.2.2) (fa:=C4E) (fun i=>((l,t,(i:Int)):B6f)) l I5 (J8 t) (fun i=>((0,(i:Int)):B6e)) _ (by omega) (fun i hi=>?_) ?_
  ·have h1:decide ((i:Int)<(l.length:Int))=true:=decide_eq_true (by omega)
   have h2:decide (0≤(i:Int)∧(i:Int)<(l.length:Int))=true:=decide_eq_true (by omega)
   simp only [B7z,h1,h2,cond_true,Int.toNat_natCast,A7U i (by omega),A8Z,J8]
  ·have h1:decide ((l.length:Int)<(l.length:Int))=false:=decide_eq_false (by omega)
   simp only [B7z,h1,cond_false]
 simp only [B3K,B3O,e]
 cases decide (l.findIdx (J8 t)<l.length)<;>exact ⟨rfl,rfl⟩
theorem D4J (l:List K3) (t:Int) (hl:l.length≤1099511627776):decide (B3O l t<0)=!(l.any (J8 t)):=by
 rw [(B9f l t hl).2]
 cases ha:l.any (J8 t) with
 | true =>
  rw [decide_eq_true (List.findIdx_lt_length.2 (List.any_eq_true.1 ha))]
  exact decide_eq_false (by simp only [cond_true];omega)
 | false =>
  have:¬ l.findIdx (J8 t)<l.length:=by
   intro hc
   obtain ⟨x,hx,hp⟩:=List.findIdx_lt_length.1 hc
   rw [List.any_eq_true.2 ⟨x,hx,hp⟩] at ha
   cases ha
  rw [decide_eq_false this]
  rfl
theorem D6b {l:List Int} (hl:l.length≤1048576) (x:Int):A9h l x=true∧B4y l x=decide (x∈l):=by
 have key:B2K l x 0=(0,true)∧x∈l∨B2K l x 0=(1,false)∧x ∉ l:=by
  refine A68 (fun v:B6L=>∃ i:Nat,v=(l,x,(i:Int))∧i≤l.length∧x ∉ l.take i) (fun a:B35=>a=(0,true)∧x∈l∨a=(1,false)∧x ∉ l) (fun v=>l.length - v.2.2.toNat) ?_ ⟨0,rfl,Nat.zero_le _,by simp⟩ (by simp;omega)
  rintro v ⟨i,rfl,hi,hx⟩
  by_cases hlt:i<l.length
  ·have e1:decide ((i:Int)<(l.length:Int))=true:=decide_eq_true (by omega)
   have e2:decide (0≤(i:Int)∧(i:Int)<(l.length:Int))=true:=decide_eq_true (by omega)
   simp only [B8d,e1,e2,cond_true,Int.toNat_natCast,A7U i (by omega)]
   cases hc:(l.getD i 0==x) with
   | true=>exact .inr ⟨_,rfl,.inl ⟨rfl,by have:=P3 hlt 0;simp only [beq_iff_eq] at hc;rw [hc] at this;exact this⟩⟩
   | false =>
    refine .inl ⟨_,rfl,⟨i+1,rfl,by omega,?_⟩,by simp only [Int.toNat_natCast];omega⟩
    rw [L4 hlt 0]
    simp only [beq_eq_false_iff_ne] at hc
    simp only [List.mem_append,List.mem_singleton,not_or]
    exact ⟨hx,fun h=>hc h.symm⟩
  ·obtain rfl:i=l.length:=by omega
   have e1:decide ((l.length:Int)<(l.length:Int))=false:=decide_eq_false (by omega)
   simp only [B8d,e1,cond_false]
   rw [List.take_length] at hx
   exact .inr ⟨_,rfl,.inr ⟨rfl,hx⟩⟩
 simp only [A9h,B4y]
 rcases key with ⟨h1,h2⟩ | ⟨h1,h2⟩
 ·rw [h1,decide_eq_true h2];exact ⟨rfl,rfl⟩
 ·rw [h1,decide_eq_false h2];exact ⟨rfl,rfl⟩
theorem B58 {V A α:Type} {ss:V→V ⊕ A} {fa:A} (pk:Nat→V) (l:List α) (d:α) (p:α→Bool) (good last:A) (hn:l.length<4611686018427387904)
  (h:∀ i,i<l.length→ss (pk i)=cond (p (l.getD i d)) (.inr good) (.inl (pk (i+1)))) (hl:ss (pk l.length)=.inr last):itX ss fa (pk 0)=cond (l.any p) good last:=by
 rw [B3s pk l d p (fun _=>good) last hn h hl]
 cases ha:l.any p with
 | true=>rw [decide_eq_true (List.findIdx_lt_length.2 (List.any_eq_true.1 ha))]
 | false =>
  rw [decide_eq_false]
  intro hc
  obtain ⟨x,hx,hp⟩:=List.findIdx_lt_length.1 hc
  rw [List.any_eq_true.2 ⟨x,hx,hp⟩] at ha
  cases ha
theorem C0i (l:Lq2) (i:Nat):l.getD i ((0:Int),((⟨#[]⟩:ByteArray),(⟨#[]⟩:ByteArray)))=l.getD i dOp:=rfl
theorem D7t (held:List K3) (ops:Lq2) (i k:Nat) (hi:i<held.length) (hk:k<(held.getD i I5).2.2.length) (ho:ops.length≤1048576) :
  B0V held ops (i:Int) (k:Int) 0=cond (C4R ((held.getD i I5).2.2.getD k dOp).2.1 ops) (0,true,[],[],0,0) (1,false,held,ops,(i:Int),(k:Int)):=by
 refine B58 (ss:=fun v:B0a=>A9n v.1 v.2.1 v.2.2.1 v.2.2.2.1 v.2.2.2.2) (fa:=B0N) (fun m=>((held,ops,(i:Int),(k:Int),(m:Int)):B0a)) ops dOp (fun x=>((held.getD i I5).2.2.getD k dOp).2.1.toList==x.2.1.toList) _ _ (by omega) (fun m hm=>?_) ?_
 ·have h1:decide ((m:Int)<(ops.length:Int))=true:=decide_eq_true (by omega)
  have h2:decide (0≤(i:Int)∧(i:Int)<(held.length:Int))=true:=decide_eq_true (by omega)
  have h3:decide (0≤(k:Int)∧(k:Int)<(((held.getD (i:Int).toNat ((0:Int),((0:Int),[]))).2.2.length:Nat):Int))=true:=decide_eq_true (show 0≤(k:Int)∧(k:Int)<(((held.getD i I5).2.2.length:Nat):Int) by omega)
  have h4:decide (0≤(m:Int)∧(m:Int)<(ops.length:Int))=true:=decide_eq_true (by omega)
  show A9n held ops (i:Int) (k:Int) (m:Int)=_
  simp only [A9n,h1,h2,h3,h4,cond_true]
  simp only [A8Z,C0i,Int.toNat_natCast,A7U m (by omega)]
 ·have h1:decide ((ops.length:Int)<(ops.length:Int))=false:=decide_eq_false (by omega)
  simp only [A9n,h1,cond_false]
theorem D6d (held:List K3) (ops:Lq2) (i:Nat) (hi:i<held.length) (hk:(held.getD i I5).2.2.length≤1048576) (ho:ops.length≤1048576) :
  B0U held ops (i:Int) 0=cond (C0o (held.getD i I5).2.2 ops) (0,true,[],[],0) (1,false,held,ops,(i:Int)):=by
 have h2:decide (0≤(i:Int)∧(i:Int)<(held.length:Int))=true:=decide_eq_true (by omega)
 refine B58 (ss:=fun v:A99=>A8m v.1 v.2.1 v.2.2.1 v.2.2.2) (fa:=B3r) (fun k=>((held,ops,(i:Int),(k:Int)):A99)) (held.getD i I5).2.2 dOp (fun o=>C4R o.2.1 ops) _ _ (by omega) (fun k hk2=>?_) ?_
 ·have h1:decide ((k:Int)<(((held.getD (i:Int).toNat ((0:Int),((0:Int),[]))).2.2.length:Nat):Int))=true:=decide_eq_true (show (k:Int)<(((held.getD i I5).2.2.length:Nat):Int) by omega)
  show A8m held ops (i:Int) (k:Int)=_
  simp only [A8m,h1,h2,cond_true,D7t held ops i k hi hk2 ho]
  cases C4R ((held.getD i I5).2.2.getD k dOp).2.1 ops
  ·simp only [cond_false,A7U k (by omega)];rfl
  ·rfl
 ·have h1:decide ((((held.getD i I5).2.2.length:Nat):Int)<(((held.getD (i:Int).toNat ((0:Int),((0:Int),[]))).2.2.length:Nat):Int))=false:=decide_eq_false (show ¬ (((held.getD i I5).2.2.length:Nat):Int)<(((held.getD i I5).2.2.length:Nat):Int) by omega)
  show A8m held ops (i:Int) (((held.getD i I5).2.2.length:Nat):Int)=_
  simp only [A8m,h1,h2,cond_true,cond_false]
theorem C8h (held:List K3) (ops:Lq2) (hl:held.length≤1099511627776) (hh:∀ r∈held,r.2.2.length≤1048576) (ho:ops.length≤1048576):Y9 held ops=true∧A8v held ops=A8p held ops:=by
 have e:B0T held ops 0=cond (A8p held ops) (0,true) (1,false):=by
  refine B58 (ss:=fun v:A98=>B1a v.1 v.2.1 v.2.2) (fa:=B61) (fun i=>((held,ops,(i:Int)):A98)) held I5 (fun r=>C0o r.2.2 ops) _ _ (by omega) (fun i hi=>?_) ?_
  ·have h1:decide ((i:Int)<(held.length:Int))=true:=decide_eq_true (by omega)
   simp only [B1a,h1,cond_true,D6d held ops i hi (hh _ (P3 hi I5)) ho]
   cases C0o (held.getD i I5).2.2 ops
   ·simp only [cond_false,A7U i (by omega)];rfl
   ·rfl
  ·have h1:decide ((held.length:Int)<(held.length:Int))=false:=decide_eq_false (by omega)
   simp only [B1a,h1,cond_false]
 simp only [Y9,A8v,e]
 cases A8p held ops<;>exact ⟨rfl,rfl⟩
noncomputable def D8p (l:LBBe) (k:ByteArray):Option ByteArray:=(l.find? (isK k)).map (·.2)
theorem B14 (l:LBBe) (i:Nat):l.getD i ((⟨#[]⟩:ByteArray),(⟨#[]⟩:ByteArray))=l.getD i dP:=rfl
theorem C9Z {α:Type} (p:α→Bool) (d:α):∀ l:List α,l.find? p=cond (decide (l.findIdx p<l.length)) (some (l.getD (l.findIdx p) d)) none
 | []=>by simp
 | x::l=>by
  have ih:=C9Z p d l
  cases h:p x with
  | true=>simp [List.find?_cons,List.findIdx_cons,h]
  | false =>
   simp only [List.find?_cons,List.findIdx_cons,h,List.length_cons,cond_false,List.getD_cons_succ]
   rw [ih]
   by_cases hl:l.findIdx p<l.length
   ·rw [decide_eq_true hl,decide_eq_true (show l.findIdx p+1<l.length+1 by omega)]
   ·rw [decide_eq_false hl,decide_eq_false (show ¬ l.findIdx p+1<l.length+1 by omega)]
theorem C6G (l:LBBe) (k:ByteArray) (hl:l.length≤1099511627776):B2S l k=true∧B3L l k=(match D8p l k with | some v=>(v,true) | none=>((⟨#[]⟩:ByteArray),false)):=by
 have e:B3x l k 0=cond (decide (l.findIdx (isK k)<l.length)) (0,(l.getD (l.findIdx (isK k)) dP).2,true) (1,(⟨#[]⟩:ByteArray),false):=by
  refine B3s (ss:=fun v:B2B=>B3U v.1 v.2.1 v.2.2) (fa:=B56) (fun i=>((l,k,(i:Int)):B2B)) l dP (isK k) (fun i=>((0,(l.getD i dP).2,true):B2y)) _ (by omega) (fun i hi=>?_) ?_
  ·have h1:decide ((i:Int)<(l.length:Int))=true:=decide_eq_true (by omega)
   have h2:decide (0≤(i:Int)∧(i:Int)<(l.length:Int))=true:=decide_eq_true (by omega)
   simp only [B3U,h1,h2,cond_true,Int.toNat_natCast,A7U i (by omega),B14,isK]
  ·have h1:decide ((l.length:Int)<(l.length:Int))=false:=decide_eq_false (by omega)
   simp only [B3U,h1,cond_false]
 simp only [B2S,B3L,e,D8p,C9Z (isK k) dP l]
 cases decide (l.findIdx (isK k)<l.length)<;>exact ⟨rfl,rfl⟩
theorem C8H (m:LBBe) (ops:Lq2) (hm:m.length≤1099511627776) (ho:ops.length≤1048576):B03 m ops=true∧B5G m ops=B1B m ops:=by
 have e:B49 m ops 0=cond (ops.any (misses m)) (0,false) (1,false):=by
  refine B58 (ss:=fun v:B4c=>B5o v.1 v.2.1 v.2.2) (fa:=B0M) (fun i=>((m,ops,(i:Int)):B4c)) ops dOp (misses m) _ _ (by omega) (fun i hi=>?_) ?_
  ·have h1:decide ((i:Int)<(ops.length:Int))=true:=decide_eq_true (by omega)
   have h2:decide (0≤(i:Int)∧(i:Int)<(ops.length:Int))=true:=decide_eq_true (by omega)
   simp only [B5o,C3x,C0i,Int.toNat_natCast,h1,h2,cond_true,A7U i (by omega),(C6G m _ hm).1,misses]
   generalize ((ops.getD i dOp).1 != 3)=a
   generalize (!((B3L m (ops.getD i dOp).2.1).2==(!((ops.getD i dOp).2.2.toList==(⟨#[]⟩:ByteArray).toList))))=b
   generalize (!((B3L m (ops.getD i dOp).2.1).1.toList==(ops.getD i dOp).2.2.toList))=c
   cases a<;>cases b<;>cases c<;>rfl
  ·have h1:decide ((ops.length:Int)<(ops.length:Int))=false:=decide_eq_false (by omega)
   simp only [B5o,h1,cond_false]
 simp only [B03,B5G,e,B1B]
 cases ops.any (misses m)<;>exact ⟨rfl,rfl⟩
theorem C4a {α:Type} (l:List α) (k:Nat):(l.drop k).take (l.length - k)=l.drop k:=List.take_of_length_le (by simp)
theorem D4E {V A α β:Type} {ss:V→V ⊕ A} {fa:A} (pk:Nat→β→V) (l:List α) (d:α) (f:β→α→β) (last:β→A) (ok:Nat→β→Prop) (hn:l.length<4611686018427387904)
  (h:∀ i b,i<l.length→ok i b→ss (pk i b)=.inl (pk (i+1) (f b (l.getD i d)))∧ok (i+1) (f b (l.getD i d))) (hl:∀ b,ok l.length b→ss (pk l.length b)=.inr (last b)) {b:β} (h0:ok 0 b):itX ss fa (pk 0 b)=last (l.foldl f b):=by
 rw [A6L]
 have key:∀ k N i b,i+k=l.length→k<N→ok i b→itN ss fa N (pk i b)=last ((l.drop i).foldl f b):=by
  intro k
  induction k with
  | zero =>
   intro N i b hi hN ho
   obtain ⟨M,rfl⟩:∃ M,N=M+1:=⟨N - 1,by omega⟩
   obtain rfl:i=l.length:=by omega
   rw [A67,hl b ho,List.drop_length];rfl
  | succ k ih =>
   intro N i b hi hN ho
   obtain ⟨M,rfl⟩:∃ M,N=M+1:=⟨N - 1,by omega⟩
   have hlt:i<l.length:=by omega
   obtain ⟨h1,h2⟩:=h i b hlt ho
   rw [A67,h1]
   simp only
   rw [ih M (i+1) _ (by omega) (by omega) h2,List.drop_eq_getElem_cons hlt,List.foldl_cons]
   simp [List.getD_eq_getElem?_getD,hlt]
 have:=key l.length _ 0 b (by omega) hn h0
 simpa using this
theorem D4s (l:LBBe) (k:ByteArray):(C7b l k).length≤l.length:=List.length_filter_le _ _
theorem B2G {α:Type} (p:α→Bool) (l:List α):l.findIdx p≤l.length:=List.findIdx_le_length
theorem D8J (l:LBBe) (k v:ByteArray):(D41 l k v).length≤l.length+1:=by
 simp only [D41]
 cases decide (l.findIdx (isK k)<l.length)
 ·have:=B2G (B3F k) l
  simp only [cond_false,List.length_append,List.length_take,List.length_cons,List.length_drop];omega
 ·simp
theorem D4g (l:LBBe) (o:Int×ByteArray×ByteArray):(C3H l o).length≤l.length+1:=by
 simp only [C3H]
 cases o.1==1
 ·cases o.1==2
  ·simp
  ·have:=D4s l o.2.1;simp only [cond_true,cond_false];omega
 ·exact D8J _ _ _
theorem D3U (l:LBBe) (k v:ByteArray) (hl:l.length≤1099511627776):B2T l k v=true∧C9D l k v=D41 l k v:=by
 have hlt:∀ i:Nat,i<l.length→decide ((i:Int)<(l.length:Int))=true∧decide (0≤(i:Int)∧(i:Int)<(l.length:Int))=true:=fun i hi=>⟨decide_eq_true (by omega),decide_eq_true (by omega)⟩
 have hge:decide ((l.length:Int)<(l.length:Int))=false:=decide_eq_false (by omega)
 have e0:B1i l k v 0 l=cond (decide (l.findIdx (isK k)<l.length)) (0,l.set (l.findIdx (isK k)) ((l.getD (l.findIdx (isK k)) dP).1,v),([]:LBBe),(⟨#[]⟩:ByteArray),(⟨#[]⟩:ByteArray)) (1,([]:LBBe),l,k,v):=by
  refine B3s (ss:=fun v:B2C=>B3V v.1 v.2.1 v.2.2.1 v.2.2.2.1 v.2.2.2.2) (fa:=B57) (fun i=>((l,k,v,(i:Int),l):B2C)) l dP (isK k) (fun i=>((0,l.set i ((l.getD i dP).1,v),[],⟨#[]⟩,⟨#[]⟩):B2z)) _ (by omega) (fun i hi=>?_) ?_
  ·obtain ⟨h1,h2⟩:=hlt i hi
   simp only [B3V,h1,h2,cond_true,Int.toNat_natCast,A7U i (by omega),B14]
   rfl
  ·simp only [B3V,hge,cond_false]
 have e1:C0l l k v 0=(0,l,k,v,((l.findIdx (B3F k):Nat):Int)):=by
  have h:=B3s (ss:=fun v:B2D=>B3W v.1 v.2.1 v.2.2.1 v.2.2.2) (fa:=B97) (fun i=>((l,k,v,(i:Int)):B2D)) l dP (B3F k) (fun i=>(0,l,k,v,(i:Int))) (0,l,k,v,(l.length:Int)) (by omega) (fun i hi=>?_) ?_
  ·refine h.trans ?_
   by_cases hc:l.findIdx (B3F k)<l.length
   ·rw [decide_eq_true hc];rfl
   ·have:=B2G (B3F k) l
    have he:l.findIdx (B3F k)=l.length:=by omega
    rw [decide_eq_false hc,he];rfl
  ·obtain ⟨h1,h2⟩:=hlt i hi
   simp only [B3W,h1,h2,cond_true,Int.toNat_natCast,A7U i (by omega),B14,B3F]
   cases (Op.bytesLess (l.getD i dP).1.toList k.toList||(l.getD i dP).1.toList==k.toList)<;>rfl
  ·simp only [B3W,hge,cond_false]
 have hle:=B2G (B3F k) l
 simp only [B2T,C9D,C0m,List.nil_append,e0]
 cases hc:decide (l.findIdx (isK k)<l.length) with
 | true =>
  simp only [cond_true,D41,hc]
  refine ⟨?_,rfl⟩
  have e:decide ((([]:LBBe).length+l.length)*32≤MAXB)=true:=decide_eq_true (by simp [MAXB];omega)
  rw [e];rfl
 | false =>
  have f1:((1:Nat)==0)=false:=rfl
  have f2:((1:Nat)==1)=true:=rfl
  have f3:((0:Nat)==0)=true:=rfl
  simp only [cond_false,f1,f2,f3,e1,D41,hc,Int.toNat_natCast,Bool.true_and,Int.toNat_zero,List.drop_zero,List.take_length]
  refine ⟨?_,by rw [List.append_assoc];rfl⟩
  simp only [Bool.and_eq_true,decide_eq_true_eq,MAXB,List.length_nil,List.length_take,List.length_append,List.length_cons,List.length_drop]
  refine ⟨decide_eq_true (by omega),?_,?_,?_,?_,?_⟩<;>omega
theorem D3T (l:LBBe) (k:ByteArray) (hl:l.length≤1099511627776):B2R l k=true∧C9C l k=C7b l k:=by
 have h:B3w l k 0 []=(0,C7b l k):=by
  refine A7K (fun v:B40=>∃ i:Nat,v=(l,k,(i:Int),(l.take i).filter (fun p=>!isK k p))∧i≤l.length) (fun v=>(0,v.2.2.2++(l.drop v.2.2.1.toNat).filter (fun p=>!isK k p))) (fun v=>l.length - v.2.2.1.toNat) (fun v hv=>?_) ⟨0,rfl,by omega⟩ (by simp;omega)
  obtain ⟨i,rfl,hi⟩:=hv
  by_cases hlt:i<l.length
  ·left
   have h1:decide ((i:Int)<(l.length:Int))=true:=decide_eq_true (by omega)
   have h2:decide (0≤(i:Int)∧(i:Int)<(l.length:Int))=true:=decide_eq_true (by omega)
   have hfl:=List.length_filter_le (fun p=>!isK k p) (l.take i)
   rw [List.length_take] at hfl
   have h3:∀ x:ByteArray×ByteArray,decide ((((l.take i).filter (fun p=>!isK k p)).length+[x].length)*32≤MAXB)=true:=fun x=>decide_eq_true (by simp only [MAXB,List.length_singleton];omega)
   have hd:l.drop i=l.getD i dP::l.drop (i+1):=by rw [List.drop_eq_getElem_cons hlt];simp [List.getD_eq_getElem?_getD,hlt]
   have ht:l.take (i+1)=l.take i++[l.getD i dP]:=L4 hlt dP
   refine ⟨(l,k,((i+1:Nat):Int),(l.take (i+1)).filter (fun p=>!isK k p)),?_,⟨i+1,rfl,by omega⟩,?_,by simp only [Int.toNat_natCast];omega⟩
   ·simp only [B6d,h1,h2,h3,cond_true,Int.toNat_natCast,A7U i (by omega),B14,ht,List.filter_append,List.filter_cons,List.filter_nil]
    show cond (!isK k (l.getD i dP)) _ _=_
    cases isK k (l.getD i dP)<;>simp
   ·simp only [Int.toNat_natCast,ht,hd,List.filter_append,List.filter_cons,List.filter_nil]
    cases isK k (l.getD i dP)<;>simp
  ·right
   obtain rfl:i=l.length:=by omega
   have h1:decide ((l.length:Int)<(l.length:Int))=false:=decide_eq_false (by omega)
   simp only [B6d,h1,cond_false,Int.toNat_natCast,List.drop_length,List.filter_nil,List.append_nil]
 exact ⟨by simp only [B2R,h];rfl,by simp only [C9C,h]⟩
theorem D5q (m:LBBe) (l:Lq2) (hm:m.length≤1000000000) (hl:l.length≤1000000000):B3J m l=true∧C0H m l=l.foldl C3H m:=by
 have h:B48 l 0 m=(0,l.foldl C3H m):=by
  refine D4E (ss:=fun v:B4b=>B5n v.1 v.2.1 v.2.2) (fa:=A9s) (fun i b=>((l,(i:Int),b):B4b)) l dOp C3H (fun b=>((0,b):B34)) (fun i b=>b.length≤m.length+i) (by omega) (fun i b hi hb=>⟨?_,by have:=D4g b (l.getD i dOp);omega⟩) (fun b hb=>?_) (by simp)
  ·have h1:decide ((i:Int)<(l.length:Int))=true:=decide_eq_true (by omega)
   have h2:decide (0≤(i:Int)∧(i:Int)<(l.length:Int))=true:=decide_eq_true (by omega)
   have e:l.getD i ((0:Int),((⟨#[]⟩:ByteArray),(⟨#[]⟩:ByteArray)))=l.getD i dOp:=rfl
   obtain ⟨p1,p2⟩:=D3U b (l.getD i dOp).2.1 (l.getD i dOp).2.2 (by omega)
   obtain ⟨d1,d2⟩:=D3T b (l.getD i dOp).2.1 (by omega)
   simp only [B5n,h1,h2,cond_true,Int.toNat_natCast,A7U i (by omega),e,C3w,C3z,p1,p2,d1,d2,C3H]
   cases (l.getD i dOp).1==1<;>cases (l.getD i dOp).1==2<;>rfl
  ·have h1:decide ((l.length:Int)<(l.length:Int))=false:=decide_eq_false (by omega)
   simp only [B5n,h1,cond_false]
 have hq:decide ((([]:LBBe).length+m.length)*32≤MAXB)=true:=decide_eq_true (by simp [MAXB];omega)
 simp only [B3J,C0H,List.nil_append,h,hq]
 exact ⟨rfl,trivial⟩
theorem D4Y (r:K3) (m:List V9) (held:List K3) (seen:List Int) (hr:T6 r.2.2=true) (hm:m.length≤1000) (hh:held.length≤1048576) (ho:∀ x∈held,T6 x.2.2=true) (hs:seen.length≤1048576) :
  A8L r.1 r.2.1 r.2.2 m held seen=true∧(match B5P (decide (r.2.1∈seen)) m held r with
   | none=>(B6k r.1 r.2.1 r.2.2 m held seen).1=false
   | some (m', h')=>∃ s', B6k r.1 r.2.1 r.2.2 m held seen=(true,m', h', s')∧(s'=seen++[r.2.1]∨s'=seen∧held.any (J8 r.2.1)=true)):=by
 have a1:=(B9f held r.2.1 (by omega)).1
 have a2:=D4J held r.2.1 (by omega)
 have hl:=P0 hr
 obtain ⟨b1,b2⟩:=D6b hs r.2.1
 obtain ⟨c1,c2⟩:=C8h held r.2.2 (by omega) (fun x hx=>P0 (ho x hx)) hl
 obtain ⟨d1,d2⟩:=C8H m r.2.2 (by omega) hl
 have f1:decide ((held.length+[(r.1,(r.2.1,r.2.2))].length)*40≤MAXB)=true:=decide_eq_true (by simp only [List.length_singleton,MAXB];omega)
 have f2:decide ((seen.length+[r.2.1].length)*8≤MAXB)=true:=decide_eq_true (by simp only [List.length_singleton,MAXB];omega)
 have f3:O8 r.1 r.2.1 r.2.2=true:=decide_eq_true (by simp only [List.length_nil,MAXB];omega)
 have f4:V3 r.1 r.2.1 r.2.2=(r.1,r.2.1,r.2.2):=rfl
 have g0:B5d r.1 r.2.1 r.2.2=true:=hr
 simp only [A8L,B6k,B5P,a1,a2,b1,b2,c1,c2,d1,d2,f2,f3,f4,g0,Bool.true_and,Bool.and_true]
 cases hok:A9L r.1 r.2.1 r.2.2 with
 | false=>exact ⟨rfl,rfl⟩
 | true =>
  simp only [Bool.not_true,cond_false]
  cases hk:(r.1==1) with
  | true =>
   have hk1:r.1=1:=by simpa using hk
   simp only [cond_true]
   cases decide (r.2.1∈seen) with
   | true=>exact ⟨rfl,rfl⟩
   | false =>
    cases A8p held r.2.2 with
    | true=>exact ⟨rfl,rfl⟩
    | false =>
     cases B1B m r.2.2 with
     | false=>exact ⟨rfl,rfl⟩
     | true=>exact ⟨f1,_,by rw [hk1];rfl,.inl rfl⟩
  | false =>
   simp only [cond_false]
   cases ha:held.any (J8 r.2.1) with
   | false =>
    simp only [Bool.not_false,cond_true]
    cases (r.1==3) with
    | false=>exact ⟨rfl,rfl⟩
    | true=>cases decide (r.2.1∈seen) with
     | true=>exact ⟨rfl,rfl⟩
     | false=>exact ⟨rfl,_,rfl,.inl rfl⟩
   | true =>
    have hlt:=List.findIdx_lt_length.2 (List.any_eq_true.1 ha)
    have e1:B3O held r.2.1=((held.findIdx (J8 r.2.1):Nat):Int):=by rw [(B9f held r.2.1 (by omega)).2,decide_eq_true hlt];rfl
    generalize hi:held.findIdx (J8 r.2.1)=i at hlt e1 ⊢
    have e2:=A7U i (by omega)
    have e3:=C4a held (i+1)
    have e4:[]++held.take i++held.drop (i+1)=held.eraseIdx i:=by rw [List.nil_append,List.eraseIdx_eq_take_drop_succ]
    have q0:decide (0≤(i:Int)∧(i:Int)<(held.length:Int))=true:=decide_eq_true (by omega)
    have q1:decide (0≤(0:Int)∧(0:Int)≤(i:Int)∧(i:Int)≤(held.length:Int))=true:=decide_eq_true (by omega)
    have q2:decide (0≤((i+1:Nat):Int)∧((i+1:Nat):Int)≤(held.length:Int)∧(held.length:Int)≤(held.length:Int))=true:=decide_eq_true (by omega)
    have q3:decide ((([]:List K3).length+(held.take i).length)*40≤MAXB)=true:=decide_eq_true (by simp only [List.length_nil,List.length_take,MAXB];omega)
    have q4:decide ((([]++held.take i).length+(held.drop (i+1)).length)*40≤MAXB)=true:=decide_eq_true (by simp only [List.nil_append,List.length_drop,List.length_take,MAXB];omega)
    obtain ⟨s1,s2⟩:=D5q m (held.getD i I5).2.2 (by omega) (by have:=P0 (ho _ (P3 hlt I5));omega)
    simp only [Bool.not_true,cond_false,e1,e2,Int.toNat_natCast,e3,e4,q0,q1,q2,q3,q4,A8Z,s1,s2,Bool.true_and,Bool.and_true]
    cases (r.1==2) with
    | true =>
     simp only [cond_true]
     refine ⟨trivial,?_⟩
     cases decide (((((held.getD i I5).2.2.foldl C3H m).length:Nat):Int)≤60) with
     | true=>exact ⟨_,rfl,.inr ⟨rfl,trivial⟩⟩
     | false=>rfl
    | false =>
     simp only [cond_false]
     refine ⟨trivial,?_⟩
     cases decide ((m.length:Int)≤60) with
     | true=>exact ⟨_,rfl,.inr ⟨rfl,trivial⟩⟩
     | false=>rfl
theorem D7x {l:List K3} {i:Nat} (h:B1T l i=none):∀ k,B1T l (i+k)=none:=by
 intro k
 induction k with
 | zero=>exact h
 | succ k ih=>rw [Nat.add_succ];simp only [B1T,ih,Option.bind_none]
theorem D0N {l:List K3} {i:Nat} (hi:i<l.length) {m:List V9} {held:List K3} (hp:B1T l i=some (m,held)) (hs:B5P ((l.take i).any (J8 (l.getD i I5).2.1)) m held (l.getD i I5)=none):B1T l l.length=none:=by
 have h1:B1T l (i+1)=none:=by simp only [B1T,hp,Option.bind_some];exact hs
 have:=D7x h1 (l.length - (i+1))
 rwa [show i+1+(l.length - (i+1))=l.length by omega] at this
theorem D5s (l:List K3) (hl:l.length≤1048576) (hr:∀ x∈l,T6 x.2.2=true):((P4 l).1=0∧(P4 l).2.1=false∧(P4 l).2.2.1=[]∧(P4 l).2.2.2.1=[]∧B1T l l.length=none)∨((P4 l).1=1∧B1T l l.length=some ((P4 l).2.2.2.2.1,(P4 l).2.2.2.2.2.1)):=by
 refine A68 (ss:=fun v:A9Q=>A9l v.1 v.2.1 v.2.2.1 v.2.2.2.1 v.2.2.2.2) (fa:=B1h)
  (fun v=>∃ (i:Nat) (m:List V9) (held:List K3) (seen:List Int),v=(l,(i:Int),m,held,seen)∧i≤l.length∧B1T l i=some (m,held)∧seen.length≤i∧∀ t,t∈seen↔(l.take i).any (J8 t)=true)
  (fun a:A8s=>(a.1=0∧a.2.1=false∧a.2.2.1=[]∧a.2.2.2.1=[]∧B1T l l.length=none)∨(a.1=1∧B1T l l.length=some (a.2.2.2.2.1,a.2.2.2.2.2.1))) (fun v=>l.length - v.2.1.toNat) ?_ ⟨0,[],[],[],rfl,Nat.zero_le _,rfl,by simp,by simp⟩ (by simp;omega)
 rintro v ⟨i,m,held,seen,rfl,hi,hp,hs,hse⟩
 by_cases hlt:i<l.length
 ·have e1:decide ((i:Int)<(l.length:Int))=true:=decide_eq_true (by omega)
  have e2:decide (0≤(i:Int)∧(i:Int)<(l.length:Int))=true:=decide_eq_true (by omega)
  have I:=D0M hr i hi m held hp
  have o:=D4Y (l.getD i I5) m held seen (hr _ (P3 hlt I5)) (by have:=I.hml;omega) (by have:=I.hlen;omega) (fun x hx=>(I.hmem x hx).1) (by omega)
  have hkn:decide ((l.getD i I5).2.1∈seen)=(l.take i).any (J8 (l.getD i I5).2.1):=by
   cases hc:(l.take i).any (J8 (l.getD i I5).2.1) with
   | true=>exact decide_eq_true ((hse _).2 hc)
   | false=>exact decide_eq_false (fun h=>by rw [(hse _).1 h] at hc;cases hc)
  rw [hkn] at o
  obtain ⟨o1,o2⟩:=o
  simp only [A9l,B3A,e1,e2,cond_true,Int.toNat_natCast,A8Z,o1,A7U i (by omega)]
  cases hst:B5P ((l.take i).any (J8 (l.getD i I5).2.1)) m held (l.getD i I5) with
  | none =>
   rw [hst] at o2
   simp only [o2,Bool.not_false,cond_true]
   exact .inr ⟨_,rfl,.inl ⟨rfl,rfl,rfl,rfl,D0N hlt hp hst⟩⟩
  | some s =>
   obtain ⟨m', h'⟩:=s
   rw [hst] at o2
   obtain ⟨s', o3,o4⟩:=o2
   simp only [o3,Bool.not_true,cond_false]
   refine .inl ⟨_,rfl,⟨i+1,m', h', s', rfl,by omega,by simp only [B1T,hp,Option.bind_some];exact hst,?_,fun t=>?_⟩,by simp only [Int.toNat_natCast];omega⟩
   ·rcases o4 with rfl | ⟨rfl,_⟩
    ·rw [List.length_append];simp;omega
    ·omega
   ·rw [L4 hlt I5,List.any_append,Bool.or_eq_true]
    have hone:([l.getD i I5].any (J8 t)=true)↔(l.getD i I5).2.1=t:=by simp [J8]
    rw [hone]
    rcases o4 with rfl | ⟨rfl,hany⟩
    ·rw [List.mem_append,hse t,List.mem_singleton]
     exact or_congr Iff.rfl eq_comm
    ·rw [hse t]
     refine ⟨.inl,?_⟩
     rintro (h | h)
     ·exact h
     ·subst h
      obtain ⟨x,hx1,hx2⟩:=List.any_eq_true.1 hany
      have:=(I.hmem x hx1).2
      rw [show x.2.1=(l.getD i I5).2.1 from beq_iff_eq.1 hx2] at this
      exact this
 ·obtain rfl:i=l.length:=by omega
  have e1:decide ((l.length:Int)<(l.length:Int))=false:=decide_eq_false (by omega)
  simp only [A9l,e1,cond_false]
  exact .inr ⟨_,rfl,.inr ⟨rfl,hp⟩⟩
theorem D3V (l:List K3) (hl:l.length≤1048576) (hr:∀ x∈l,T6 x.2.2=true):A8T l=true∧B2U l=A8V l:=by
 simp only [A8T,B2U,A8V]
 rcases D5s l hl hr with ⟨h1,h2,h3,h4,h5⟩ | ⟨h1,h2⟩
 ·rw [h1,h2,h3,h4,h5];exact ⟨rfl,rfl⟩
 ·rw [h1,h2];exact ⟨rfl,rfl⟩
theorem B0Y {l:List K3} (h:A0o l):∀ x∈l,T6 x.2.2=true:=fun x hx=>h.2 x hx
theorem D59 (s:ByteArray) (i:Nat):C2X s i=C0k s i:=by
 have hb:0≤bt s (i:Int)∧bt s (i:Int)<256:=by
  unfold bt
  split
  ·have:=UInt8.toNat_lt s[(i:Int).toNat];omega
  ·simp
 have e:=A61 (n:=bt s (i:Int)) (by omega) (by omega)
 simp only [C2X,C0k,P1,B64,e]
 generalize bt s (i:Int)=c
 by_cases h1:c ≥ 97<;>by_cases h2:c≤122<;>by_cases h3:c ≥ 48<;>by_cases h4:c≤57<;>simp [h1,h2,h3,h4]
theorem D6a (s:ByteArray):C5f s=B8n s:=by
 have e:A4W (C2X s) (s.size - (0:Int).toNat) (0:Int).toNat=A4W (C0k s) (s.size - (0:Int).toNat) (0:Int).toNat:=C9P _ _ (fun j _ _=>D59 s j)
 simp only [C5f,B8n,C9y,A8E,P1,e]
 cases A4W (C0k s) (s.size - (0:Int).toNat) (0:Int).toNat<;>cases decide ((s.size:Int) ≥ 1)<;>cases decide ((s.size:Int)≤12)<;>rfl
theorem D7v (k:Int) (s v:ByteArray):D08 k s v=D0l k s v:=by
 simp only [D08,D0l,D6a,C9R,P1]
 cases B8n s with
 | false =>
  by_cases h1:k=1<;>by_cases h2:k=2<;>by_cases h3:k=3<;>by_cases h4:v=⟨#[]⟩<;>by_cases h5:k ≥ 1<;>by_cases h6:k≤3<;>simp [h1,h2,h3,h4,h5,h6]<;>omega
 | true =>
  by_cases h2:k=2
  ·subst h2
   by_cases h4:v=⟨#[]⟩
   ·subst h4;simp [ByteArray.size]
   ·simp [h4]
  ·by_cases h1:k=1
   ·subst h1;simp
   ·by_cases h3:k=3
    ·subst h3;simp
    ·by_cases h5:k ≥ 1<;>by_cases h6:k≤3<;>simp [h1,h2,h3,h5,h6]<;>omega
theorem D7u (l:Lq2) (i:Nat):C8I l i=C58 l i:=by
 simp only [C8I,C58,D7v]
 rw [← D2x,Bool.not_not]
theorem C4S (l:Lq2):B3M l=B8o l:=by
 have e:A4W (C8I l) (l.length - (0:Int).toNat) (0:Int).toNat=A4W (C58 l) (l.length - (0:Int).toNat) (0:Int).toNat:=C9P _ _ (fun j _ _=>D7u l j)
 simp only [B3M,B8o,e]
 rfl
theorem D6l (k t:Int) (l:Lq2):A9L k t l=D2Y k t l:=by
 simp only [A9L,D2Y,C1a,C4S]
 rw [show A8E t 1 1000000=P1 t 1 1000000 from rfl]
 cases P1 t 1 1000000<;>simp
theorem B2u (l:List K3) (t:Int) (hl:l.length≤1099511627776):R3 l t=true∧Q8 l t=cond (decide (l.reverse.findIdx (J8 t)<l.length)) ((l.length:Int) - 1 - ((l.reverse.findIdx (J8 t):Nat):Int)) (-1):=by
 have e0:=A61 (n:=(l.length:Int) - 1) (by omega) (by omega)
 have e:B2J l t ((l.length:Int) - 1)=cond (decide (l.reverse.findIdx (J8 t)<l.reverse.length)) (0,(l.length:Int) - 1 - ((l.reverse.findIdx (J8 t):Nat):Int)) (1,0):=by
  have:=B3s (ss:=fun v:B2i=>B2W v.1 v.2.1 v.2.2) (fa:=B7Z) (fun i=>((l,t,(l.length:Int) - 1 - (i:Int)):B2i)) l.reverse I5 (J8 t) (fun i=>((0,(l.length:Int) - 1 - (i:Int)):B33)) (1,0) (by rw [List.length_reverse];omega) (fun i hi=>by
   rw [List.length_reverse] at hi
   have h1:decide ((l.length:Int) - 1 - (i:Int) ≥ 0)=true:=decide_eq_true (by omega)
   have h2:decide (0≤(l.length:Int) - 1 - (i:Int)∧(l.length:Int) - 1 - (i:Int)<(l.length:Int))=true:=decide_eq_true (by omega)
   have h3:((l.length:Int) - 1 - (i:Int)).toNat=l.length - 1 - i:=by omega
   have h4:l.reverse.getD i I5=l.getD (l.length - 1 - i) I5:=by
    simp only [List.getD_eq_getElem?_getD]
    rw [List.getElem?_reverse hi]
   have h6:(l.length:Int) - 1 - (i:Int) - 1=(l.length:Int) - 1 - ((i+1:Nat):Int):=by omega
   have h5:=A61 (n:=(l.length:Int) - 1 - ((i+1:Nat):Int)) (by omega) (by omega)
   simp only [B2W,h1,h2,cond_true,h3,h5,A8Z,h4,J8,h6]) (by
   rw [List.length_reverse]
   have h1:decide ((l.length:Int) - 1 - (l.length:Int) ≥ 0)=false:=decide_eq_false (by omega)
   simp only [B2W,h1,cond_false])
  have e2:B2J l t ((l.length:Int) - 1)=itX (fun v:B2i=>B2W v.1 v.2.1 v.2.2) B7Z (l,t,(l.length:Int) - 1 - ((0:Nat):Int)):=by
   rw [show (l.length:Int) - 1 - ((0:Nat):Int)=(l.length:Int) - 1 by omega];rfl
  exact e2.trans this
 rw [List.length_reverse] at e
 simp only [R3,Q8,e0,e]
 cases decide (l.reverse.findIdx (J8 t)<l.length)<;>exact ⟨rfl,rfl⟩
theorem C3F (l:List K3) (t:Int) (hl:l.length≤1099511627776):decide (Q8 l t<0)=!(l.any (J8 t))∧decide (Q8 l t ≥ 0)=l.any (J8 t):=by
 rw [(B2u l t hl).2]
 cases ha:l.any (J8 t) with
 | true =>
  have:l.reverse.findIdx (J8 t)<l.length:=by
   rw [← List.length_reverse]
   refine List.findIdx_lt_length.2 ?_
   obtain ⟨x,hx,hp⟩:=List.any_eq_true.1 ha
   exact ⟨x,List.mem_reverse.2 hx,hp⟩
  rw [decide_eq_true this]
  exact ⟨decide_eq_false (by simp only [cond_true];omega),decide_eq_true (by simp only [cond_true];omega)⟩
 | false =>
  have:¬ l.reverse.findIdx (J8 t)<l.length:=by
   intro hc
   rw [← List.length_reverse] at hc
   obtain ⟨x,hx,hp⟩:=List.findIdx_lt_length.1 hc
   rw [List.any_eq_true.2 ⟨x,List.mem_reverse.1 hx,hp⟩] at ha
   cases ha
  rw [decide_eq_false this]
  exact ⟨rfl,rfl⟩
theorem D5x (a b:ByteArray):(a.toList==b.toList)=(b.toList==a.toList):=by
 rw [C9R,C9R];exact decide_eq_decide.2 eq_comm
theorem D9d (ops l:Lq2) (held:List K3) (n i k m:Int) (o:Int×ByteArray×ByteArray) (ho:ops.length≤1048576) :
  B5x ops held n i l m k ops (ops.length:Int) 0 o.1 o.2.1 o.2.2=cond (C4R o.2.1 ops) (0,true,[],[],0,0,[],0,0) (1,false,ops,held,n,i,l,m,k):=by
 refine B58 (ss:=fun v:A84=>A94 v.1 v.2.1 v.2.2.1 v.2.2.2.1 v.2.2.2.2.1 v.2.2.2.2.2.1 v.2.2.2.2.2.2.1 v.2.2.2.2.2.2.2.1 v.2.2.2.2.2.2.2.2.1 v.2.2.2.2.2.2.2.2.2 o.1 o.2.1 o.2.2) (fa:=B5v) (fun j=>((ops,held,n,i,l,m,k,ops,(ops.length:Int),(j:Int)):A84)) ops dOp (fun x=>o.2.1.toList==x.2.1.toList) _ _ (by omega) (fun j hj=>?_) ?_
 ·have h1:decide ((j:Int)<(ops.length:Int))=true:=decide_eq_true (by omega)
  have h4:decide (0≤(j:Int)∧(j:Int)<(ops.length:Int))=true:=decide_eq_true (by omega)
  simp only [A94,C0i,Int.toNat_natCast,h1,h4,cond_true,A7U j (by omega),D5x _ o.2.1]
 ·have h1:decide ((ops.length:Int)<(ops.length:Int))=false:=decide_eq_false (by omega)
  simp only [A94,h1,cond_false]
theorem D8q (ops l:Lq2) (held:List K3) (n i:Int) (hl:l.length≤1048576) (ho:ops.length≤1048576) :
  B5w ops held n i l (l.length:Int) 0=cond (C0o l ops) (0,true,[],[],0,0) (1,false,ops,held,n,i):=by
 refine B58 (ss:=fun v:A83=>A93 v.1 v.2.1 v.2.2.1 v.2.2.2.1 v.2.2.2.2.1 v.2.2.2.2.2.1 v.2.2.2.2.2.2) (fa:=B12) (fun k=>((ops,held,n,i,l,(l.length:Int),(k:Int)):A83)) l dOp (fun o=>C4R o.2.1 ops) _ _ (by omega) (fun k hk=>?_) ?_
 ·have h1:decide ((k:Int)<(l.length:Int))=true:=decide_eq_true (by omega)
  have h2:decide (0≤(k:Int)∧(k:Int)<(l.length:Int))=true:=decide_eq_true (by omega)
  simp only [A93,B4L,C0i,Int.toNat_natCast,h1,h2,cond_true,D9d ops l held n i (k:Int) (l.length:Int) (l.getD k dOp) ho]
  cases C4R (l.getD k dOp).2.1 ops
  ·simp only [cond_false,A7U k (by omega)];rfl
  ·rfl
 ·have h1:decide ((l.length:Int)<(l.length:Int))=false:=decide_eq_false (by omega)
  simp only [A93,h1,cond_false]
theorem C55 (held:List K3) (ops:Lq2) (hl:held.length≤1099511627776) (hh:∀ r∈held,r.2.2.length≤1048576) (ho:ops.length≤1048576):Q4 held ops=true∧W8 held ops=A8p held ops:=by
 have e:A9S ops held (held.length:Int) 0=cond (A8p held ops) (0,true) (1,false):=by
  refine B58 (ss:=fun v:A82=>A92 v.1 v.2.1 v.2.2.1 v.2.2.2) (fa:=B11) (fun i=>((ops,held,(held.length:Int),(i:Int)):A82)) held I5 (fun r=>C0o r.2.2 ops) _ _ (by omega) (fun i hi=>?_) ?_
  ·have h1:decide ((i:Int)<(held.length:Int))=true:=decide_eq_true (by omega)
   have h2:decide (0≤(i:Int)∧(i:Int)<(held.length:Int))=true:=decide_eq_true (by omega)
   simp only [A92,B4M,A8Z,Int.toNat_natCast,h1,h2,cond_true,D8q ops (held.getD i I5).2.2 held (held.length:Int) (i:Int) (hh _ (P3 hi I5)) ho]
   cases C0o (held.getD i I5).2.2 ops
   ·simp only [cond_false,A7U i (by omega)];rfl
   ·rfl
  ·have h1:decide ((held.length:Int)<(held.length:Int))=false:=decide_eq_false (by omega)
   simp only [A92,h1,cond_false]
 simp only [Q4,W8,e]
 cases A8p held ops<;>exact ⟨rfl,rfl⟩
theorem C8t (l:LBBe) (k:ByteArray) (hl:l.length≤1099511627776):B1n l k=true∧B4K l k=cond (decide (l.findIdx (isK k)<l.length)) ((l.findIdx (isK k):Nat):Int) (-1):=by
 have e:L8 l (l.length:Int) 0 k=cond (decide (l.findIdx (isK k)<l.length)) (0,((l.findIdx (isK k):Nat):Int)) (1,0):=by
  refine B3s (ss:=fun v:K8=>M0 v.1 v.2.1 v.2.2 k) (fa:=Q3) (fun i=>((l,(l.length:Int),(i:Int)):K8)) l dP (isK k) (fun i=>((0,(i:Int)):K6)) _ (by omega) (fun i hi=>?_) ?_
  ·have h1:decide ((i:Int)<(l.length:Int))=true:=decide_eq_true (by omega)
   have h2:decide (0≤(i:Int)∧(i:Int)<(l.length:Int))=true:=decide_eq_true (by omega)
   simp only [M0,h1,h2,cond_true,Int.toNat_natCast,A7U i (by omega),B14,R1,C7s]
   rfl
  ·have h1:decide ((l.length:Int)<(l.length:Int))=false:=decide_eq_false (by omega)
   simp only [M0,h1,cond_false]
 simp only [B1n,B4K,L5,O9,e]
 cases decide (l.findIdx (isK k)<l.length)<;>exact ⟨rfl,rfl⟩
theorem C57 (l:LBBe) (k:ByteArray) (hl:l.length≤1099511627776):B2P l k=true∧C56 l k=(match D8p l k with | some v=>(v,true) | none=>((⟨#[]⟩:ByteArray),false)):=by
 obtain ⟨p1,p2⟩:=C8t l k hl
 simp only [B2P,C56,p1,p2,D8p,C9Z (isK k) dP l,Bool.true_and]
 cases hc:decide (l.findIdx (isK k)<l.length) with
 | true =>
  have hlt:=of_decide_eq_true hc
  have g1:decide (((l.findIdx (isK k):Nat):Int)<0)=false:=decide_eq_false (by omega)
  have g2:decide (0≤((l.findIdx (isK k):Nat):Int)∧((l.findIdx (isK k):Nat):Int)<(l.length:Int))=true:=decide_eq_true (by omega)
  simp only [cond_true,g1,g2,cond_false,Int.toNat_natCast]
  exact ⟨trivial,rfl⟩
 | false=>exact ⟨rfl,rfl⟩
theorem D4A (m:LBBe) (k:ByteArray) (hm:m.length≤1099511627776):C56 m k=B3L m k:=by
 rw [(C6G m k hm).2,(C57 m k hm).2]
 all_goals (cases D8p m k<;>rfl)
theorem C8g (m:LBBe) (ops:Lq2) (hm:m.length≤1099511627776) (ho:ops.length≤1048576):A9g m ops=true∧B4o m ops=B1B m ops:=by
 have e:B47 m ops (ops.length:Int) 0=cond (ops.any (misses m)) (0,false) (1,false):=by
  refine B58 (ss:=fun v:B4a=>B5m v.1 v.2.1 v.2.2.1 v.2.2.2) (fa:=B7Y) (fun i=>((m,ops,(ops.length:Int),(i:Int)):B4a)) ops dOp (misses m) _ _ (by omega) (fun i hi=>?_) ?_
  ·have h1:decide ((i:Int)<(ops.length:Int))=true:=decide_eq_true (by omega)
   have h2:decide (0≤(i:Int)∧(i:Int)<(ops.length:Int))=true:=decide_eq_true (by omega)
   simp only [B5m,C3v,C0i,Int.toNat_natCast,h1,h2,cond_true,A7U i (by omega),(C57 m _ hm).1,D4A m _ hm,misses]
   generalize ((ops.getD i dOp).1 != 3)=a
   generalize (!((B3L m (ops.getD i dOp).2.1).2==(!((ops.getD i dOp).2.2.toList==(⟨#[]⟩:ByteArray).toList))))=b
   generalize (!((B3L m (ops.getD i dOp).2.1).1.toList==(ops.getD i dOp).2.2.toList))=c
   cases a<;>cases b<;>cases c<;>rfl
  ·have h1:decide ((ops.length:Int)<(ops.length:Int))=false:=decide_eq_false (by omega)
   simp only [B5m,h1,cond_false]
 simp only [A9g,B4o,e,B1B]
 cases ops.any (misses m)<;>exact ⟨rfl,rfl⟩
theorem D4X {l:List K3} (h:C6f l) {i j:Nat} (hi:i<l.length) (hj:j<l.length) (e:(l.getD i I5).2.1=(l.getD j I5).2.1):i=j:=by
 have hg:∀ k (hk:k<l.length),(l.getD k I5).2.1=(l.map (·.2.1))[k]'(by simpa using hk):=fun k hk=>by simp [List.getD_eq_getElem?_getD,hk]
 rw [hg i hi,hg j hj] at e
 exact (List.getElem_inj h).1 e
theorem D8X {l:List K3} (h:C6f l) (t:Int) (hl:l.length≤1099511627776) (ha:l.any (J8 t)=true):B3O l t=((l.findIdx (J8 t):Nat):Int)∧Q8 l t=((l.findIdx (J8 t):Nat):Int)∧l.findIdx (J8 t)<l.length∧(l.getD (l.findIdx (J8 t)) I5).2.1=t:=by
 have h1:=List.findIdx_lt_length.2 (List.any_eq_true.1 ha)
 have h2:l.reverse.findIdx (J8 t)<l.length:=by
  rw [← List.length_reverse]
  refine List.findIdx_lt_length.2 ?_
  obtain ⟨x,hx,hp⟩:=List.any_eq_true.1 ha
  exact ⟨x,List.mem_reverse.2 hx,hp⟩
 have p1:J8 t (l.getD (l.findIdx (J8 t)) I5)=true:=by
  have:=List.findIdx_getElem (w:=h1)
  rw [List.getD_eq_getElem?_getD,List.getElem?_eq_getElem h1];exact this
 have p2:J8 t (l.getD (l.length - 1 - l.reverse.findIdx (J8 t)) I5)=true:=by
  have h3:l.reverse.findIdx (J8 t)<l.reverse.length:=by rw [List.length_reverse];exact h2
  have:=List.findIdx_getElem (w:=h3)
  have e:l.reverse.getD (l.reverse.findIdx (J8 t)) I5=l.getD (l.length - 1 - l.reverse.findIdx (J8 t)) I5:=by
   simp only [List.getD_eq_getElem?_getD]
   rw [List.getElem?_reverse h2]
  rw [← e,List.getD_eq_getElem?_getD,List.getElem?_eq_getElem h3];exact this
 have p1':(l.getD (l.findIdx (J8 t)) I5).2.1=t:=beq_iff_eq.1 (show ((l.getD (l.findIdx (J8 t)) I5).2.1==t)=true from p1)
 have p2':(l.getD (l.length - 1 - l.reverse.findIdx (J8 t)) I5).2.1=t:=beq_iff_eq.1 (show ((l.getD (l.length - 1 - l.reverse.findIdx (J8 t)) I5).2.1==t)=true from p2)
 have hij:=D4X h (i:=l.findIdx (J8 t)) (j:=l.length - 1 - l.reverse.findIdx (J8 t)) h1 (by omega) (by rw [p1', p2'])
 refine ⟨by rw [(B9f l t hl).2,decide_eq_true h1];rfl,?_,h1,p1'⟩
 rw [(B2u l t hl).2,decide_eq_true h2]
 simp only [cond_true]
 omega
theorem D21 (l:LBBe) (k v:ByteArray) (hl:l.length≤1099511627776):B2Q k v l=true∧C9z k v l=D41 l k v:=by
 obtain ⟨p1,p2⟩:=C8t l k hl
 have e1:B3t k v 0 l=(0,k,v,((l.findIdx (B3F k):Nat):Int),l):=by
  have h:=B3s (ss:=fun u:B2A=>B3R u.1 u.2.1 u.2.2.1 u.2.2.2) (fa:=B95) (fun i=>((k,v,(i:Int),l):B2A)) l dP (B3F k) (fun i=>((0,k,v,(i:Int),l):B2w)) (0,k,v,(l.length:Int),l) (by omega) (fun i hi=>?_) ?_
  ·refine h.trans ?_
   by_cases hc:l.findIdx (B3F k)<l.length
   ·rw [decide_eq_true hc];rfl
   ·have:=B2G (B3F k) l
    have he:l.findIdx (B3F k)=l.length:=by omega
    rw [decide_eq_false hc,he];rfl
  ·have h1:decide ((i:Int)<(l.length:Int))=true:=decide_eq_true (by omega)
   have h2:decide (0≤(i:Int)∧(i:Int)<(l.length:Int))=true:=decide_eq_true (by omega)
   simp only [B3R,h1,h2,cond_true,Int.toNat_natCast,A7U i (by omega),B14,B3F]
   cases (Op.bytesLess (l.getD i dP).1.toList k.toList||(l.getD i dP).1.toList==k.toList)<;>rfl
  ·have h1:decide ((l.length:Int)<(l.length:Int))=false:=decide_eq_false (by omega)
   simp only [B3R,h1,cond_false]
 have hle:=B2G (B3F k) l
 simp only [B2Q,C9z,p1,p2,C4Q,e1,D6i,E1o,D41,Int.toNat_natCast]
 cases hc:decide (l.findIdx (isK k)<l.length) with
 | true =>
  have hlt:=of_decide_eq_true hc
  have g1:decide (((l.findIdx (isK k):Nat):Int) ≥ 0)=true:=decide_eq_true (by omega)
  have g2:decide (0≤((l.findIdx (isK k):Nat):Int)∧((l.findIdx (isK k):Nat):Int)<(l.length:Int))=true:=decide_eq_true (by omega)
  simp only [cond_true,g1,g2,Int.toNat_natCast,Bool.true_and]
  exact ⟨trivial,rfl⟩
 | false =>
  have g1:decide ((-1:Int) ≥ 0)=false:=by decide
  have g2:decide (0≤((l.findIdx (B3F k):Nat):Int)∧((l.findIdx (B3F k):Nat):Int)≤(l.length:Int))=true:=decide_eq_true (by omega)
  have g3:decide ((l.length+1)*32≤140737488355328)=true:=decide_eq_true (by omega)
  simp only [cond_false,g1,g2,g3,Bool.true_and]
  exact ⟨rfl,rfl⟩
theorem D6M {α:Type} {p:α→Bool} {x:α} (h:p x=false):[x].filter p=[]:=by simp [List.filter_cons,h]
theorem E1l {α:Type} {p:α→Bool} {x:α} (h:p x=true):[x].filter p=[x]:=by simp [List.filter_cons,h]
theorem D2J (l:LBBe) (k:ByteArray) (hl:l.length≤1099511627776) (j:Nat) (hj:j<l.length) (hpre:(l.take j).filter (fun p=>!isK k p)=l.take j) (hat:isK k (l.getD j dP)=true) :
  ∃ r:LBBe,A0g ((j:Nat):Int) (((j+1:Nat):Int)) l k=(0,(((C7b l k).length:Nat):Int),r)∧r.length=l.length∧r.take (C7b l k).length=C7b l k:=by
 refine A68 (fun v:O6=>∃ (m:Nat) (r:LBBe),v=(((((l.take m).filter (fun p=>!isK k p)).length:Nat):Int),(m:Int),r)∧m≤l.length∧((l.take m).filter (fun p=>!isK k p)).length<m∧r.length=l.length∧r.take ((l.take m).filter (fun p=>!isK k p)).length=(l.take m).filter (fun p=>!isK k p)∧r.drop m=l.drop m)
  (fun a:N2=>∃ r:LBBe,a=(0,(((C7b l k).length:Nat):Int),r)∧r.length=l.length∧r.take (C7b l k).length=C7b l k) (fun v=>l.length - v.2.1.toNat) ?_ ⟨j+1,l,?_,by omega,?_,rfl,?_,rfl⟩ (by simp;omega)
 ·rintro v ⟨m,r,rfl,hm,hlt2,hr,ht,hd⟩
  by_cases hlt:m<l.length
  ·left
   have h1:decide ((m:Int)<(r.length:Int))=true:=decide_eq_true (by omega)
   have h2:decide (0≤(m:Int)∧(m:Int)<(r.length:Int))=true:=decide_eq_true (by omega)
   have h3:decide (0≤((((l.take m).filter (fun p=>!isK k p)).length:Nat):Int)∧((((l.take m).filter (fun p=>!isK k p)).length:Nat):Int)<(r.length:Int))=true:=decide_eq_true (by omega)
   have hg:r.getD m dP=l.getD m dP:=by
    have:=congrArg (fun x:LBBe=>x[0]?) hd
    simp only [List.getElem?_drop,Nat.add_zero] at this
    simp only [List.getD_eq_getElem?_getD,this]
   have htk:l.take (m+1)=l.take m++[l.getD m dP]:=L4 hlt dP
   have hdd:∀ x:LBBe,x.drop m=l.drop m→x.drop (m+1)=l.drop (m+1):=fun x hx=>by
    rw [← List.drop_drop,← List.drop_drop,hx]
   cases hc:isK k (l.getD m dP) with
   | true =>
    have hf:(l.take (m+1)).filter (fun p=>!isK k p)=(l.take m).filter (fun p=>!isK k p):=by rw [htk,List.filter_append,D6M (by rw [hc];rfl),List.append_nil]
    refine ⟨(((((l.take (m+1)).filter (fun p=>!isK k p)).length:Nat):Int),((m+1:Nat):Int),r),?_,⟨m+1,r,rfl,by omega,by rw [hf];omega,hr,by rw [hf];exact ht,hdd r hd⟩,by simp only [Int.toNat_natCast];omega⟩
    have hk:M5 (m:Int) r k=true:=by simp only [M5,B6j,B14,Int.toNat_natCast,hg];exact hc
    simp only [O4,h1,h2,hk,cond_true,Bool.not_true,cond_false,A7U m (by omega),hf]
   | false =>
    have hf:(l.take (m+1)).filter (fun p=>!isK k p)=(l.take m).filter (fun p=>!isK k p)++[l.getD m dP]:=by rw [htk,List.filter_append,E1l (by rw [hc];rfl)]
    refine ⟨(((((l.take (m+1)).filter (fun p=>!isK k p)).length:Nat):Int),((m+1:Nat):Int),r.set ((l.take m).filter (fun p=>!isK k p)).length (l.getD m dP)),?_,⟨m+1,_,rfl,by omega,by rw [hf];simp;omega,by simp [hr],?_,hdd _ ?_⟩,by simp only [Int.toNat_natCast];omega⟩
    ·have hk:M5 (m:Int) r k=false:=by simp only [M5,B6j,B14,Int.toNat_natCast,hg];exact hc
     have hfl:(((l.take m).filter (fun p=>!isK k p))++[l.getD m dP]).length=((l.take m).filter (fun p=>!isK k p)).length+1:=by simp
     simp only [O4,h1,h2,h3,hk,cond_true,Bool.not_false,A7U m (by omega),A7U ((l.take m).filter (fun p=>!isK k p)).length (by omega),hf,hfl,Int.toNat_natCast,B14,hg]
    ·rw [hf,List.length_append,List.length_singleton,List.take_add_one,List.take_set_of_le (Nat.le_refl _),ht]
     congr 1
     simp [List.getElem?_set,show ((l.take m).filter (fun p=>!isK k p)).length<r.length by omega]
    ·rw [List.drop_set_of_lt hlt2];exact hd
  ·right
   obtain rfl:m=l.length:=by omega
   have h1:decide ((l.length:Int)<(r.length:Int))=false:=decide_eq_false (by omega)
   rw [List.take_length] at ht
   refine ⟨(0,(((C7b l k).length:Nat):Int),r),?_,r,rfl,hr,ht⟩
   simp only [O4,h1,cond_false,List.take_length]
   rfl
 ·rw [L4 hj dP,List.filter_append,hpre,D6M (by rw [hat];rfl),List.append_nil,List.length_take];congr 2;omega
 ·rw [L4 hj dP,List.filter_append,hpre,D6M (by rw [hat];rfl),List.append_nil,List.length_take];omega
 ·rw [L4 hj dP,List.filter_append,hpre,D6M (by rw [hat];rfl),List.append_nil,List.length_take,Nat.min_eq_left (by omega)]
theorem D2X (l:LBBe) (k:ByteArray) (hl:l.length≤1099511627776):B2O l k=true∧C9x l k=C7b l k:=by
 have e:L7 (l.length:Int) 0 l k=cond (decide (l.findIdx (isK k)<l.length)) (0,((l.findIdx (isK k):Nat):Int)) (1,0):=by
  refine B3s (ss:=fun v:K7=>L9 v.1 v.2 l k) (fa:=Q2) (fun i=>(((l.length:Int),(i:Int)):K7)) l dP (isK k) (fun i=>((0,(i:Int)):K5)) _ (by omega) (fun i hi=>?_) ?_
  ·have h1:decide ((i:Int)<(l.length:Int))=true:=decide_eq_true (by omega)
   have h2:decide (0≤(i:Int)∧(i:Int)<(l.length:Int))=true:=decide_eq_true (by omega)
   simp only [L9,h1,h2,cond_true,Int.toNat_natCast,A7U i (by omega),B14,R0,B6j]
   rfl
  ·have h1:decide ((l.length:Int)<(l.length:Int))=false:=decide_eq_false (by omega)
   simp only [L9,h1,cond_false]
 have hq:K1 l=true:=decide_eq_true (by simp [MAXB];omega)
 have hdf:M8 l k=true∧(T8 l k).1=C7b l k:=by
  have hidx:J9 l k=true∧K4 l k=cond (decide (l.findIdx (isK k)<l.length)) ((l.findIdx (isK k):Nat):Int) (-1):=by
   simp only [J9,K4,e]
   cases decide (l.findIdx (isK k)<l.length)<;>exact ⟨rfl,rfl⟩
  simp only [M8,T8,V0,hidx.1,hidx.2,Bool.true_and]
  cases hc:decide (l.findIdx (isK k)<l.length) with
  | false =>
   have hge:=of_decide_eq_false hc
   simp only [cond_false,show ((-1:Int)==-1)=true from rfl,cond_true]
   refine ⟨trivial,?_⟩
   symm
   apply List.filter_eq_self.2
   intro p hp
   have:=List.findIdx_eq_length.1 (show l.findIdx (isK k)=l.length by have:=B2G (isK k) l;omega) p hp
   rw [this];rfl
  | true =>
   have hlt:=of_decide_eq_true hc
   have hat:isK k (l.getD (l.findIdx (isK k)) dP)=true:=by
    have:=List.findIdx_getElem (w:=hlt)
    simpa [List.getD_eq_getElem?_getD,hlt] using this
   have hpre:(l.take (l.findIdx (isK k))).filter (fun p=>!isK k p)=l.take (l.findIdx (isK k)):=by
    apply List.filter_eq_self.2
    intro p hp
    obtain ⟨i,hi,rfl⟩:=List.mem_iff_getElem.1 hp
    rw [List.length_take] at hi
    have:=List.not_of_lt_findIdx (p:=isK k) (xs:=l) (i:=i) (by omega)
    simpa using this
   obtain ⟨r,r1,r2,r3⟩:=D2J l k hl _ hlt hpre hat
   have hne:(((l.findIdx (isK k):Nat):Int)==-1)=false:=by simp only [beq_eq_false_iff_ne];omega
   have hdl:=D4s l k
   simp only [cond_true,hne,cond_false,A7U _ (show l.findIdx (isK k)<9223372036854775807 by omega),r1,Int.toNat_natCast]
   constructor
   ·simp only [Bool.and_eq_true,decide_eq_true_eq,List.length_append,List.length_take,List.length_replicate,List.length_drop]
    refine ⟨rfl,?_,?_⟩<;>omega
   ·rw [r3,List.append_assoc,List.take_left']
    rfl
 simp only [B2O,C9x,L6,hq,hdf.1,hdf.2,Bool.and_self]
 exact ⟨trivial,trivial⟩
theorem D4B (m:LBBe) (l:Lq2) (hm:m.length≤1000000000) (hl:l.length≤1000000000):B3I m l=true∧C0j m l=l.foldl C3H m:=by
 have h:B46 l (l.length:Int) 0 m=(0,l.foldl C3H m):=by
  refine D4E (ss:=fun v:B39=>B5l v.1 v.2.1 v.2.2.1 v.2.2.2) (fa:=B43) (fun i b=>((l,(l.length:Int),(i:Int),b):B39)) l dOp C3H (fun b=>((0,b):B32)) (fun i b=>b.length≤m.length+i) (by omega) (fun i b hi hb=>⟨?_,by have:=D4g b (l.getD i dOp);omega⟩) (fun b hb=>?_) (by simp)
  ·have h1:decide ((i:Int)<(l.length:Int))=true:=decide_eq_true (by omega)
   have h2:decide (0≤(i:Int)∧(i:Int)<(l.length:Int))=true:=decide_eq_true (by omega)
   have e:l.getD i ((0:Int),((⟨#[]⟩:ByteArray),(⟨#[]⟩:ByteArray)))=l.getD i dOp:=rfl
   obtain ⟨p1,p2⟩:=D21 b (l.getD i dOp).2.1 (l.getD i dOp).2.2 (by omega)
   obtain ⟨d1,d2⟩:=D2X b (l.getD i dOp).2.1 (by omega)
   simp only [B5l,h1,h2,cond_true,Int.toNat_natCast,A7U i (by omega),e,C3u,C3y,p1,p2,d1,d2,C3H]
   cases (l.getD i dOp).1==1<;>cases (l.getD i dOp).1==2<;>rfl
  ·have h1:decide ((l.length:Int)<(l.length:Int))=false:=decide_eq_false (by omega)
   simp only [B5l,h1,cond_false]
 have hq:K1 m=true:=decide_eq_true (by simp [MAXB];omega)
 simp only [B3I,C0j,L6,h,hq]
 exact ⟨rfl,trivial⟩
theorem D8l (h:List K3) (k:Nat) (hk:k<h.length) (hl:h.length≤1099511627776):N0 (k:Int) ((k+1:Nat):Int) h=true∧T1 (k:Int) ((k+1:Nat):Int) h=h.eraseIdx k:=by
 have e0:((k:Int)==((k+1:Nat):Int))=false:=beq_eq_false_iff_ne.2 (by omega)
 have e1:=C4a h (k+1)
 have e2:(h.drop (k+1)).length=h.length - (k+1):=List.length_drop
 have e3:(h.take k++h.drop (k+1)).length=k+(h.drop (k+1)).length:=by rw [List.length_append,List.length_take];omega
 simp only [N0,T1,Int.toNat_natCast,e0,cond_false,e1]
 have e4:(h.take k++h.drop (k+1)++h.drop (k+(h.drop (k+1)).length)).take (k+(h.drop (k+1)).length)=h.take k++h.drop (k+1):=List.take_left' e3
 have e5:(h.take k++h.drop (k+1)++h.drop (k+(h.drop (k+1)).length)).length=h.length:=by
  simp only [List.length_append,List.length_take,List.length_drop];omega
 refine ⟨?_,?_⟩
 ·rw [e5]
  simp only [Bool.and_eq_true,decide_eq_true_eq]
  refine ⟨by omega,by omega,by omega,by omega,by omega⟩
 ·rw [e4,List.append_assoc,List.take_left' e3,List.eraseIdx_eq_take_drop_succ]
theorem D71 (r:K3) (ahead:List K3) (m:List V9) (held:List K3) (hr:T6 r.2.2=true) (hok:A9L r.1 r.2.1 r.2.2=true) (hm:m.length≤1000) (hh:held.length≤1048576) (ha:ahead.length≤1048576) (ho:∀ x∈held,T6 x.2.2=true) (h1:C6f held) :
  T7 r.1 r.2.1 r.2.2 ahead m held=true∧(match B5P (ahead.any (J8 r.2.1)) m held r with
   | none=>(B0Q r.1 r.2.1 r.2.2 ahead m held).1=false
   | some (m', h')=>B0Q r.1 r.2.1 r.2.2 ahead m held=(true,m', h')):=by
 have a1:=(B2u held r.2.1 (by omega)).1
 have a2:=(C3F held r.2.1 (by omega)).1
 have a3:=(B2u ahead r.2.1 (by omega)).1
 have a4:=(C3F ahead r.2.1 (by omega)).2
 have hl:=P0 hr
 obtain ⟨c1,c2⟩:=C55 held r.2.2 (by omega) (fun x hx=>P0 (ho x hx)) hl
 obtain ⟨d1,d2⟩:=C8g m r.2.2 (by omega) hl
 have f1:decide ((held.length+[((1:Int),(r.2.1,r.2.2))].length)*40≤MAXB)=true:=decide_eq_true (by simp only [List.length_singleton,MAXB];omega)
 have f3:J0 r.2.2=true:=decide_eq_true (by simp only [List.length_nil,MAXB];omega)
 have f4:J5 r.2.2=r.2.2:=rfl
 simp only [T7,B0Q,B5P,a1,a2,a3,a4,c1,c2,d1,d2,f1,f3,f4,hok,Bool.true_and,Bool.and_true,Bool.not_true,cond_false]
 cases hk:(r.1==1) with
 | true =>
  simp only [cond_true]
  cases ahead.any (J8 r.2.1) with
  | true=>first | exact ⟨rfl,rfl⟩ | exact ⟨trivial,rfl⟩
  | false =>
   cases A8p held r.2.2 with
   | true=>first | exact ⟨rfl,rfl⟩ | exact ⟨trivial,rfl⟩
   | false =>
    cases B1B m r.2.2 with
    | false=>first | exact ⟨rfl,rfl⟩ | exact ⟨trivial,rfl⟩
    | true=>first | exact ⟨rfl,rfl⟩ | exact ⟨trivial,rfl⟩
 | false =>
  simp only [cond_false]
  cases ha2:held.any (J8 r.2.1) with
  | false =>
   simp only [Bool.not_false,cond_true]
   cases (r.1==3) with
   | false=>first | exact ⟨rfl,rfl⟩ | exact ⟨trivial,rfl⟩
   | true=>cases ahead.any (J8 r.2.1) with
    | true=>first | exact ⟨rfl,rfl⟩ | exact ⟨trivial,rfl⟩
    | false=>first | exact ⟨rfl,rfl⟩ | exact ⟨trivial,rfl⟩
  | true =>
   obtain ⟨_,e1,hlt,_⟩:=D8X h1 r.2.1 (by omega) ha2
   generalize hi:held.findIdx (J8 r.2.1)=i at hlt e1 ⊢
   have e2:=A7U i (by omega)
   have q0:decide (0≤(i:Int)∧(i:Int)<(held.length:Int))=true:=decide_eq_true (by omega)
   obtain ⟨s1,s2⟩:=D4B m (held.getD i I5).2.2 (by omega) (by have:=P0 (ho _ (P3 hlt I5));omega)
   obtain ⟨t1,t2⟩:=D8l held i hlt (by omega)
   simp only [Bool.not_true,cond_false,e1,e2,Int.toNat_natCast,q0,A8Z,s1,s2,t1,t2,Bool.true_and,Bool.and_true]
   cases (r.1==2) with
   | true =>
    simp only [cond_true]
    refine ⟨trivial,?_⟩
    cases decide (((((held.getD i I5).2.2.foldl C3H m).length:Nat):Int)≤60) with
    | true=>rfl
    | false=>rfl
   | false =>
    simp only [cond_false]
    refine ⟨trivial,?_⟩
    cases decide ((m.length:Int)≤60) with
    | true=>rfl
    | false=>rfl
theorem C59 (l:List K3) (hl:l.length≤1048576) (hr:∀ x∈l,T6 x.2.2=true):A8P l=true∧B2H l=A8V l:=by
 have key:((V1 l).1=0∧(V1 l).2.1=false∧B1T l l.length=none)∨((V1 l).1=1∧B1T l l.length=some ((V1 l).2.2.1,(V1 l).2.2.2)):=by
  refine A68 (ss:=fun v:A9O=>A9k v.1 v.2.1 v.2.2.1 v.2.2.2.1 v.2.2.2.2.1 v.2.2.2.2.2) (fa:=A78)
   (fun v=>∃ (i:Nat) (m:List V9) (held:List K3),v=(l,l,(l.length:Int),(i:Int),m,held)∧i≤l.length∧B1T l i=some (m,held))
   (fun a:A8q=>(a.1=0∧a.2.1=false∧B1T l l.length=none)∨(a.1=1∧B1T l l.length=some (a.2.2.1,a.2.2.2))) (fun v=>l.length - v.2.2.2.1.toNat) ?_ ⟨0,[],[],rfl,Nat.zero_le _,rfl⟩ (by simp;omega)
  rintro v ⟨i,m,held,rfl,hi,hp⟩
  by_cases hlt:i<l.length
  ·have e1:decide ((i:Int)<(l.length:Int))=true:=decide_eq_true (by omega)
   have e2:decide (0≤(i:Int)∧(i:Int)<(l.length:Int))=true:=decide_eq_true (by omega)
   have e3:decide (0≤(0:Int)∧(0:Int)≤(i:Int)∧(i:Int)≤(l.length:Int))=true:=decide_eq_true (by omega)
   have I:=D0M hr i hi m held hp
   have g0:B7m (l.getD i I5).1 (l.getD i I5).2.1 (l.getD i I5).2.2=true:=hr _ (P3 hlt I5)
   simp only [A9k,B3y,B3C,e1,e2,e3,cond_true,Int.toNat_natCast,Int.toNat_zero,List.drop_zero,A8Z,g0,← D6l,A7U i (by omega)]
   cases hok:A9L (l.getD i I5).1 (l.getD i I5).2.1 (l.getD i I5).2.2 with
   | false =>
    simp only [Bool.not_false,cond_true]
    exact .inr ⟨_,rfl,.inl ⟨rfl,rfl,D0N hlt hp (by simp only [B5P,hok,Bool.not_false,cond_true])⟩⟩
   | true =>
    obtain ⟨o1,o2⟩:=D71 (l.getD i I5) (l.take i) m held (hr _ (P3 hlt I5)) hok (by have:=I.hml;omega) (by have:=I.hlen;omega) (by rw [List.length_take];omega) (fun x hx=>(I.hmem x hx).1) I.hone
    simp only [Bool.not_true,cond_false,o1,cond_true]
    cases hst:B5P ((l.take i).any (J8 (l.getD i I5).2.1)) m held (l.getD i I5) with
    | none =>
     rw [hst] at o2
     simp only [o2,Bool.not_false,cond_true]
     exact .inr ⟨_,rfl,.inl ⟨rfl,rfl,D0N hlt hp hst⟩⟩
    | some s =>
     obtain ⟨m', h'⟩:=s
     rw [hst] at o2
     simp only [o2,Bool.not_true,cond_false]
     exact .inl ⟨_,rfl,⟨i+1,m', h', rfl,by omega,by simp only [B1T,hp,Option.bind_some];exact hst⟩,by simp only [Int.toNat_natCast];omega⟩
  ·obtain rfl:i=l.length:=by omega
   have e1:decide ((l.length:Int)<(l.length:Int))=false:=decide_eq_false (by omega)
   simp only [A9k,e1,cond_false]
   exact .inr ⟨_,rfl,.inr ⟨rfl,hp⟩⟩
 simp only [A8P,B2H,A8V]
 rcases key with ⟨h1,h2,h5⟩ | ⟨h1,h2⟩
 ·rw [h1,h2,h5];exact ⟨rfl,rfl⟩
 ·rw [h1,h2];exact ⟨rfl,rfl⟩
theorem D2f {l:List K3} (h:A0o l):(A8V l).1.length≤60∧(A8V l).2.1.length≤l.length∧∀ x∈(A8V l).2.1,x.2.2.length≤1048576:=by
 simp only [A8V]
 cases hp:B1T l l.length with
 | none=>exact ⟨by simp,by simp,fun x hx=>by simp at hx⟩
 | some s =>
  have I:=D0M (B0Y h) l.length (Nat.le_refl _) s.1 s.2 (by rw [hp])
  exact ⟨I.hml,I.hlen,fun x hx=>P0 (I.hmem x hx).1⟩
noncomputable def B8B {α:Type} (q:α→α→Bool) (a b:List α):Bool:=(a.zip b).all fun p=>q p.1 p.2
noncomputable def A9t {α:Type} (q:α→α→Bool) (a b:List α):Bool:=cond ((a.length:Int) != (b.length:Int)) false (B8B q a b)
noncomputable def qP (x y:ByteArray×ByteArray):Bool:=(x.1.toList==y.1.toList)&&((x.2.toList==y.2.toList)&&true)
theorem D8T {α:Type} (a b:List α) (d:α) {i:Nat} (ha:i<a.length) (hb:i<b.length):(a.zip b).getD i (d,d)=(a.getD i d,b.getD i d):=by
 have hz:i<(a.zip b).length:=by rw [List.length_zip];omega
 simp only [List.getD_eq_getElem?_getD,List.getElem?_eq_getElem hz,List.getElem?_eq_getElem ha,List.getElem?_eq_getElem hb,Option.getD_some,List.getElem_zip]
theorem C3t {V A α:Type} {ss:V→V ⊕ A} {fa:A} (pk:Nat→V) (a b:List α) (d:α) (q:α→α→Bool) (bad last:A) (hab:a.length=b.length) (hn:a.length<4611686018427387904)
  (h:∀ i,i<a.length→ss (pk i)=cond (q (a.getD i d) (b.getD i d)) (.inl (pk (i+1))) (.inr bad)) (hl:ss (pk a.length)=.inr last):itX ss fa (pk 0)=cond (B8B q a b) last bad:=by
 have hz:(a.zip b).length=a.length:=by rw [List.length_zip];omega
 rw [B58 pk (a.zip b) (d,d) (fun p=>!(q p.1 p.2)) bad last (by omega) (fun i hi=>by
  rw [hz] at hi
  rw [h i hi,D8T a b d hi (by omega)]
  cases q (a.getD i d) (b.getD i d)<;>rfl) (by rw [hz];exact hl)]
 have:(a.zip b).any (fun p=>!(q p.1 p.2))=!(B8B q a b):=by
  simp only [B8B,List.all_eq_not_any_not,Bool.not_not]
 rw [this]
 cases B8B q a b<;>rfl
theorem C2i {α:Type} {a b:List α} (h:a.length=b.length):((a.length:Int) != (b.length:Int))=false:=by
 rw [h];simp
theorem C2r {α:Type} {a b:List α} (h:¬ a.length=b.length):((a.length:Int) != (b.length:Int))=true:=by
 simp only [bne_iff_ne,ne_eq];omega
theorem D07 (a b:List V9) (hl:a.length≤1099511627776):A8l a b=true∧B1t a b=A9t qP a b:=by
 simp only [A8l,B1t,A9t]
 by_cases hab:a.length=b.length
 ·have e : A8G a b 0 = cond (B8B qP a b) (1, false) (0, false) := by
   refine C3t (ss:=fun v:A77=>A8O v.1 v.2.1 v.2.2) (fa:=B0l) (fun i=>((a,b,(i:Int)):A77)) a b dP qP _ _ hab (by omega) (fun i hi=>?_) ?_
   ·have h1:decide ((i:Int)<(a.length:Int))=true:=decide_eq_true (by omega)
    have h2:decide (0≤(i:Int)∧(i:Int)<(a.length:Int))=true:=decide_eq_true (by omega)
    have h3:decide (0≤(i:Int)∧(i:Int)<(b.length:Int))=true:=decide_eq_true (by omega)
    simp only [A8O,h1,h2,h3,cond_true,Int.toNat_natCast,A7U i (by omega),B14,qP]
    generalize ((a.getD i dP).1.toList==(b.getD i dP).1.toList&&((a.getD i dP).2.toList==(b.getD i dP).2.toList&&true))=z
    cases z<;>rfl
   ·have h1:decide ((a.length:Int)<(a.length:Int))=false:=decide_eq_false (by omega)
    simp only [A8O,h1,cond_false]
  rw [C2i hab,e]
  cases B8B qP a b<;>exact ⟨rfl,rfl⟩
 ·rw [C2r hab];exact ⟨rfl,rfl⟩
theorem C09 (a b:List V9) (hl:a.length≤1099511627776):P5 a b=true∧X0 a b=A9t qP a b:=by
 simp only [P5,X0,A9t]
 by_cases hab:a.length=b.length
 ·have e : T5 a b ((a.length : Nat) : Int) 0 = cond (B8B qP a b) (1, false) (0, false) := by
   refine C3t (ss:=fun v:P8=>T9 v.1 v.2.1 v.2.2.1 v.2.2.2) (fa:=Z5) (fun i=>((a,b,(a.length:Int),(i:Int)):P8)) a b dP qP _ _ hab (by omega) (fun i hi=>?_) ?_
   ·have h1:decide ((i:Int)<(a.length:Int))=true:=decide_eq_true (by omega)
    have h2:decide (0≤(i:Int)∧(i:Int)<(a.length:Int))=true:=decide_eq_true (by omega)
    have h3:decide (0≤(i:Int)∧(i:Int)<(b.length:Int))=true:=decide_eq_true (by omega)
    simp only [T9,h1,h2,h3,cond_true,Int.toNat_natCast,A7U i (by omega),B14,qP]
    generalize ((a.getD i dP).1.toList==(b.getD i dP).1.toList&&((a.getD i dP).2.toList==(b.getD i dP).2.toList&&true))=z
    cases z<;>rfl
   ·have h1:decide ((a.length:Int)<(a.length:Int))=false:=decide_eq_false (by omega)
    simp only [T9,h1,cond_false]
  rw [C2i hab,e]
  cases B8B qP a b<;>exact ⟨rfl,rfl⟩
 ·rw [C2r hab];exact ⟨rfl,rfl⟩
noncomputable def qO (x y:Int×ByteArray×ByteArray):Bool:=(x.1==y.1)&&((x.2.1.toList==y.2.1.toList)&&((x.2.2.toList==y.2.2.toList)&&true))
noncomputable def qR (x y:K3):Bool:=cond (x.1 != y.1) false (cond (x.2.1 != y.2.1) false (A9t qO x.2.2 y.2.2))
theorem D3W (a b:Lq2) (hl:a.length≤1099511627776):A8N a b=true∧C0J a b=A9t qO a b:=by
 simp only [A8N,C0J,A9t]
 by_cases hab:a.length=b.length
 ·have e : A9U a b 0 = cond (B8B qO a b) (1, false) (0, false) := by
   refine C3t (ss:=fun v:A85=>A96 v.1 v.2.1 v.2.2) (fa:=B13) (fun i=>((a,b,(i:Int)):A85)) a b dOp qO _ _ hab (by omega) (fun i hi=>?_) ?_
   ·have h1:decide ((i:Int)<(a.length:Int))=true:=decide_eq_true (by omega)
    have h2:decide (0≤(i:Int)∧(i:Int)<(a.length:Int))=true:=decide_eq_true (by omega)
    have h3:decide (0≤(i:Int)∧(i:Int)<(b.length:Int))=true:=decide_eq_true (by omega)
    simp only [A96,h1,h2,h3,cond_true,Int.toNat_natCast,A7U i (by omega),C0i,qO]
    generalize ((a.getD i dOp).1==(b.getD i dOp).1&&((a.getD i dOp).2.1.toList==(b.getD i dOp).2.1.toList&&((a.getD i dOp).2.2.toList==(b.getD i dOp).2.2.toList&&true)))=z
    cases z<;>rfl
   ·have h1:decide ((a.length:Int)<(a.length:Int))=false:=decide_eq_false (by omega)
    simp only [A96,h1,cond_false]
  rw [C2i hab,e]
  cases B8B qO a b<;>exact ⟨rfl,rfl⟩
 ·rw [C2r hab];exact ⟨rfl,rfl⟩
theorem D1W (a b:List K3) (hl:a.length≤1099511627776) (ho:∀ x∈a,x.2.2.length≤1048576):A8U a b=true∧B5g a b=A9t qR a b:=by
 simp only [A8U,B5g,A9t]
 by_cases hab:a.length=b.length
 ·have e : A9d a b 0 = cond (B8B qR a b) (1, false) (0, false) := by
   refine C3t (ss:=fun v:A8t=>A9o v.1 v.2.1 v.2.2) (fa:=Q1) (fun i=>((a,b,(i:Int)):A8t)) a b I5 qR _ _ hab (by omega) (fun i hi=>?_) ?_
   ·have h1:decide ((i:Int)<(a.length:Int))=true:=decide_eq_true (by omega)
    have h2:decide (0≤(i:Int)∧(i:Int)<(a.length:Int))=true:=decide_eq_true (by omega)
    have h3:decide (0≤(i:Int)∧(i:Int)<(b.length:Int))=true:=decide_eq_true (by omega)
    obtain ⟨o1,o2⟩:=D3W (a.getD i I5).2.2 (b.getD i I5).2.2 (by have:=ho _ (P3 hi I5);omega)
    simp only [A9o,B3B,h1,h2,h3,cond_true,Int.toNat_natCast,A7U i (by omega),A8Z,o1,o2,qR]
    cases ((a.getD i I5).1 != (b.getD i I5).1)<;>cases ((a.getD i I5).2.1 != (b.getD i I5).2.1)<;>cases A9t qO (a.getD i I5).2.2 (b.getD i I5).2.2<;>rfl
   ·have h1:decide ((a.length:Int)<(a.length:Int))=false:=decide_eq_false (by omega)
    simp only [A9o,h1,cond_false]
  rw [C2i hab,e]
  cases B8B qR a b<;>exact ⟨rfl,rfl⟩
 ·rw [C2r hab];exact ⟨rfl,rfl⟩
theorem D1v (a b:Lq2) (hl:a.length≤1099511627776):T0 a b=true∧A9i a b=A9t qO a b:=by
 simp only [T0,A9i,A9t]
 by_cases hab:a.length=b.length
 ·have e : W0 a b ((a.length : Nat) : Int) 0 = cond (B8B qO a b) (1, false) (0, false) := by
   refine C3t (ss:=fun v:T2=>W4 v.1 v.2.1 v.2.2.1 v.2.2.2) (fa:=A8o) (fun i=>((a,b,(a.length:Int),(i:Int)):T2)) a b dOp qO _ _ hab (by omega) (fun i hi=>?_) ?_
   ·have h1:decide ((i:Int)<(a.length:Int))=true:=decide_eq_true (by omega)
    have h2:decide (0≤(i:Int)∧(i:Int)<(a.length:Int))=true:=decide_eq_true (by omega)
    have h3:decide (0≤(i:Int)∧(i:Int)<(b.length:Int))=true:=decide_eq_true (by omega)
    simp only [W4,h1,h2,h3,cond_true,Int.toNat_natCast,A7U i (by omega),C0i,qO]
    generalize ((a.getD i dOp).1==(b.getD i dOp).1&&((a.getD i dOp).2.1.toList==(b.getD i dOp).2.1.toList&&((a.getD i dOp).2.2.toList==(b.getD i dOp).2.2.toList&&true)))=z
    cases z<;>rfl
   ·have h1:decide ((a.length:Int)<(a.length:Int))=false:=decide_eq_false (by omega)
    simp only [W4,h1,cond_false]
  rw [C2i hab,e]
  cases B8B qO a b<;>exact ⟨rfl,rfl⟩
 ·rw [C2r hab];exact ⟨rfl,rfl⟩
theorem D6G (x y:K3) (hl:x.2.2.length≤1048576):B01 x.1 x.2.1 x.2.2 y.1 y.2.1 y.2.2=true∧C6a x.1 x.2.1 x.2.2 y.1 y.2.1 y.2.2=qR x y:=by
 obtain ⟨o1,o2⟩:=D1v x.2.2 y.2.2 (by omega)
 simp only [B01,C6a,o1,o2,qR,bne]
 cases (x.1==y.1)<;>cases (x.2.1==y.2.1)<;>exact ⟨rfl,rfl⟩
theorem C2j (a b:List K3) (hl:a.length≤1099511627776) (ho:∀ x∈a,x.2.2.length≤1048576):J4 a b=true∧M1 a b=A9t qR a b:=by
 simp only [J4,M1,A9t]
 by_cases hab:a.length=b.length
 ·have e : L1 b a ((a.length : Nat) : Int) 0 = cond (B8B qR a b) (1, false) (0, false) := by
   refine C3t (ss:=fun v:J7=>L2 v.1 v.2.1 v.2.2.1 v.2.2.2) (fa:=L0) (fun i=>((b,a,(a.length:Int),(i:Int)):J7)) a b I5 qR _ _ hab (by omega) (fun i hi=>?_) ?_
   ·have h1:decide ((i:Int)<(a.length:Int))=true:=decide_eq_true (by omega)
    have h2:decide (0≤(i:Int)∧(i:Int)<(a.length:Int))=true:=decide_eq_true (by omega)
    have h3:decide (0≤(i:Int)∧(i:Int)<(b.length:Int))=true:=decide_eq_true (by omega)
    obtain ⟨o1,o2⟩:=D6G (a.getD i I5) (b.getD i I5) (ho _ (P3 hi I5))
    simp only [L2,M7,h1,h2,h3,cond_true,Int.toNat_natCast,A7U i (by omega),A8Z,o1,o2]
    cases qR (a.getD i I5) (b.getD i I5)<;>rfl
   ·have h1:decide ((a.length:Int)<(a.length:Int))=false:=decide_eq_false (by omega)
    simp only [L2,h1,cond_false]
  rw [C2i hab,e]
  cases B8B qR a b<;>exact ⟨rfl,rfl⟩
 ·rw [C2r hab];exact ⟨rfl,rfl⟩
theorem D3X {x:P7} (h:B72 x):B2s x.1 x.2.1 x.2.2.1 x.2.2.2.1 x.2.2.2.2=true∧B2o x.1 x.2.1 x.2.2.1 x.2.2.2.1 x.2.2.2.2=true∧B9x x.1 x.2.1 x.2.2.1 x.2.2.2.1 x.2.2.2.2=B0P x.1 x.2.1 x.2.2.1 x.2.2.2.1 x.2.2.2.2:=by
 obtain ⟨h1,h3,h4⟩:=h
 obtain ⟨s1,s2⟩:=D3V x.2.1 h1.1 (B0Y h1)
 obtain ⟨i1,i2⟩:=C59 x.2.1 h1.1 (B0Y h1)
 obtain ⟨r1,r2,r3⟩:=D2f h1
 have hl1:=h1.1
 have hl4:=h4.1
 obtain ⟨a1,a2⟩:=D07 (A8V x.2.1).1 x.2.2.2.1 (by omega)
 obtain ⟨b1,b2⟩:=C09 (A8V x.2.1).1 x.2.2.2.1 (by omega)
 obtain ⟨c1,c2⟩:=D1W (A8V x.2.1).2.1 x.2.2.2.2 (by omega) r3
 obtain ⟨d1,d2⟩:=C2j (A8V x.2.1).2.1 x.2.2.2.2 (by omega) r3
 have w1:=A61 (n:=(x.2.1.length:Int)+(x.2.2.2.2.length:Int)) (by omega) (by omega)
 have w2:=A61 (n:=(x.2.1.length:Int)+(((A8V x.2.1).2.1.length:Nat):Int)) (by omega) (by omega)
 have n1:∀ z:Int,D17 z=P1 z 0 7:=fun z=>rfl
 have n2:∀ z p q:Int,A8E z p q=P1 z p q:=fun z p q=>rfl
 simp only [B2s,B2o,B9x,B0P,s1,s2,i1,i2,a1,a2,b1,b2,c1,c2,d1,d2,w1,w2,n1,n2,Bool.true_and]
 cases P1 x.1 0 7 with
 | false=>exact ⟨rfl,rfl,rfl⟩
 | true =>
  simp only [Bool.not_true,cond_false]
  cases P1 x.2.2.1 0 (x.2.1.length:Int) with
  | false =>
   simp only [Bool.not_false,cond_true,cond_false]
   cases decide ((x.2.1.length:Int) > 300)<;>first | exact ⟨rfl,rfl,rfl⟩ | exact ⟨rfl,trivial,rfl⟩ | exact ⟨trivial,rfl,rfl⟩ | exact ⟨trivial,trivial,rfl⟩ | exact ⟨rfl,rfl,trivial⟩ | (simp)
  | true =>
   simp only [Bool.not_true,cond_false]
   cases hrep:(A8V x.2.1).2.2 with
   | false=>cases decide ((x.2.1.length:Int) > 300)<;>cases decide ((x.2.1.length:Int)+(x.2.2.2.2.length:Int) > 300)<;>exact ⟨rfl,rfl,rfl⟩
   | true =>
    simp only [cond_true]
    cases A9t qP (A8V x.2.1).1 x.2.2.2.1 with
    | false=>cases decide ((x.2.1.length:Int) > 300)<;>cases decide ((x.2.1.length:Int)+(x.2.2.2.2.length:Int) > 300)<;>exact ⟨rfl,rfl,rfl⟩
    | true =>
     simp only [cond_true]
     cases hs:A9t qR (A8V x.2.1).2.1 x.2.2.2.2 with
     | false=>cases decide ((x.2.1.length:Int) > 300)<;>cases decide ((x.2.1.length:Int)+(x.2.2.2.2.length:Int) > 300)<;>exact ⟨rfl,rfl,rfl⟩
     | true =>
      have hlen:(A8V x.2.1).2.1.length=x.2.2.2.2.length:=by
       by_cases he:(A8V x.2.1).2.1.length=x.2.2.2.2.length
       ·exact he
       ·simp only [A9t,C2r he,cond_true] at hs;cases hs
      rw [hlen]
      by_cases g1:(x.2.1.length:Int) > 300
      ·rw [decide_eq_true g1,decide_eq_true (show (x.2.1.length:Int)+(x.2.2.2.2.length:Int) > 300 by omega)]
       exact ⟨rfl,rfl,rfl⟩
      ·rw [decide_eq_false g1]
       by_cases g2:(x.2.1.length:Int)+(x.2.2.2.2.length:Int) > 300
       ·rw [decide_eq_true g2,decide_eq_false (show ¬ (x.2.1.length:Int)+(x.2.2.2.2.length:Int)≤300 by omega)]
        exact ⟨rfl,rfl,rfl⟩
       ·rw [decide_eq_false g2,decide_eq_true (show (x.2.1.length:Int)+(x.2.2.2.2.length:Int)≤300 by omega)]
        exact ⟨rfl,rfl,rfl⟩
theorem C2p {l:List K3} (hl:A0o l):A8H l=true∧B4p l=l:=by
 have h1:=hl.1
 have e:B3z l=(0,l):=by
  refine A68 (ss:=fun v:B1S=>B09 v.1 v.2.1 v.2.2.1 v.2.2.2) (fa:=B0J)
   (fun v=>∃ i:Nat,v=(l,(l.length:Int),(i:Int),l.take i)∧i≤l.length) (fun a=>a=(0,l)) (fun v=>l.length - v.2.2.1.toNat) ?_ ⟨0,rfl,Nat.zero_le _⟩ (by simp;omega)
  rintro v ⟨i,rfl,hi⟩
  by_cases hlt:i<l.length
  ·have e1:decide ((i:Int)<(l.length:Int))=true:=decide_eq_true (by omega)
   have e2:decide (0≤(i:Int)∧(i:Int)<(l.length:Int))=true:=decide_eq_true (by omega)
   have ho:=P0 (B0Y hl _ (P3 hlt I5))
   have f3:J0 (l.getD i I5).2.2=true:=decide_eq_true (by simp only [List.length_nil,MAXB];omega)
   have f4:J5 (l.getD i I5).2.2=(l.getD i I5).2.2:=rfl
   have f1:decide (((l.take i).length+[((l.getD i I5).1,((l.getD i I5).2.1,(l.getD i I5).2.2))].length)*40≤MAXB)=true:=decide_eq_true (by simp only [List.length_singleton,List.length_take,MAXB];omega)
   refine .inl ⟨(l,(l.length:Int),((i+1:Nat):Int),l.take (i+1)),?_,⟨i+1,rfl,by omega⟩,by simp only [Int.toNat_natCast];omega⟩
   rw [L4 hlt I5]
   simp only [B09,e1,e2,cond_true,Int.toNat_natCast,A8Z,f3,f4,f1,A7U i (by omega)]
  ·obtain rfl:i=l.length:=by omega
   have e1:decide ((l.length:Int)<(l.length:Int))=false:=decide_eq_false (by omega)
   simp only [B09,e1,cond_false,List.take_length]
   exact .inr ⟨_,rfl,rfl⟩
 simp only [A8H,B4p,e]
 exact ⟨rfl,trivial⟩
theorem D9D {x:P7} (h1:A0o x.2.1) (h3:x.2.2.2.1.length≤1048576) (h4:A0o x.2.2.2.2):A9F x.1 x.2.1 x.2.2.1 x.2.2.2.1 x.2.2.2.2=true∧B2m x.1 x.2.1 x.2.2.1 x.2.2.2.1 x.2.2.2.2=(x.1,x.2.2.1,x.2.1,x.2.2.2.1,x.2.2.2.2):=by
 obtain ⟨a1,a2⟩:=C2p h1
 obtain ⟨b1,b2⟩:=C2p h4
 have c1:K1 x.2.2.2.1=true:=decide_eq_true (by simp only [List.length_nil,MAXB];omega)
 have c2:L6 x.2.2.2.1=x.2.2.2.1:=rfl
 simp only [A9F,B2m,a1,a2,b1,b2,c1,c2,Bool.and_self]
 exact ⟨trivial,trivial⟩
theorem C2W {l:List K3} (hl:A0o l):X7 l=true∧B07 l=l:=by
 have h1:=hl.1
 have e:A9c l 0 []=(0,l):=by
  refine A68 (ss:=fun v:A9R=>A9m v.1 v.2.1 v.2.2) (fa:=A9a)
   (fun v=>∃ i:Nat,v=(l,(i:Int),l.take i)∧i≤l.length) (fun a=>a=(0,l)) (fun v=>l.length - v.2.1.toNat) ?_ ⟨0,rfl,Nat.zero_le _⟩ (by simp;omega)
  rintro v ⟨i,rfl,hi⟩
  by_cases hlt:i<l.length
  ·have e1:decide ((i:Int)<(l.length:Int))=true:=decide_eq_true (by omega)
   have e2:decide (0≤(i:Int)∧(i:Int)<(l.length:Int))=true:=decide_eq_true (by omega)
   have ho:=P0 (B0Y hl _ (P3 hlt I5))
   have f3:O8 (l.getD i I5).1 (l.getD i I5).2.1 (l.getD i I5).2.2=true:=decide_eq_true (by simp only [List.length_nil,MAXB];omega)
   have f4:V3 (l.getD i I5).1 (l.getD i I5).2.1 (l.getD i I5).2.2=l.getD i I5:=rfl
   have f1:decide (((l.take i).length+[((l.getD i I5).1,((l.getD i I5).2.1,(l.getD i I5).2.2))].length)*40≤MAXB)=true:=decide_eq_true (by simp only [List.length_singleton,List.length_take,MAXB];omega)
   refine .inl ⟨(l,((i+1:Nat):Int),l.take (i+1)),?_,⟨i+1,rfl,by omega⟩,by simp only [Int.toNat_natCast];omega⟩
   rw [L4 hlt I5]
   simp only [A9m,B66,e1,e2,cond_true,Int.toNat_natCast,A8Z,f3,f4,f1,A7U i (by omega)]
  ·obtain rfl:i=l.length:=by omega
   have e1:decide ((l.length:Int)<(l.length:Int))=false:=decide_eq_false (by omega)
   simp only [A9m,e1,cond_false,List.take_length]
   exact .inr ⟨_,rfl,rfl⟩
 simp only [X7,B07,e]
 exact ⟨rfl,trivial⟩
theorem D9w {x:P7} (h:B72 x):B4v x.1 x.2.1 x.2.2.1 x.2.2.2.1 x.2.2.2.2=true∧C0I x.1 x.2.1 x.2.2.1 x.2.2.2.1 x.2.2.2.2=(x.1,x.2.2.1,x.2.1,x.2.2.2.1,x.2.2.2.2):=by
 obtain ⟨h1,h2,h4⟩:=h
 obtain ⟨a1,a2⟩:=C2W h1
 obtain ⟨b1,b2⟩:=C2W h4
 have h2:=h2.1
 have m:decide ((([]:List V9).length+x.2.2.2.1.length)*32≤MAXB)=true:=decide_eq_true (by simp only [List.length_nil,MAXB];omega)
 simp only [B4v,C0I,a1,a2,b1,b2,m,Bool.and_self]
 exact ⟨trivial,rfl⟩
noncomputable def shW (x:P7):Prop:=A0o x.2.1∧x.2.2.2.1.length≤1048576∧A0o x.2.2.2.2
noncomputable def D2j (r:K3):Prop:=r.2.2.length≤1048576
noncomputable def N3 {α:Type} (mk:Int→α→Int×α):Int→List α→Int×List α
 | k,[]=>(k,[])
 | k,x::r=>((N3 mk (mk k x).1 r).1,(mk k x).2::(N3 mk (mk k x).1 r).2)
noncomputable def B2M (k:Int) (r:K3):Int×K3:=((W2 (k+1+1) r.2.2).1,(k,k+1,(W2 (k+1+1) r.2.2).2))
theorem C7z {α:Type} (mk:Int→α→Int×α):∀ (l:List α) (k:Int),(N3 mk k l).2.length=l.length:=by
 intro l
 induction l with
 | nil=>intro k;rfl
 | cons y l ih=>intro k;simp only [N3,List.length_cons,ih]
theorem C7y {α:Type} (mk:Int→α→Int×α) (wt:α→Nat) (ok:α→Prop) (hw:∀ k x,0≤k→k+(wt x:Int)≤10000000→ok x→(mk k x).1=k+(wt x:Int)) :
  ∀ (l:List α) (k:Int),(∀ x∈l,ok x)→0≤k→k+(A8Y wt l:Int)≤10000000→(N3 mk k l).1=k+(A8Y wt l:Int):=by
 intro l
 induction l with
 | nil=>intro k _ _ _;simp [N3,A8Y]
 | cons y l ih =>
  intro k ho h0 h1
  have e:A8Y wt (y::l)=wt y+A8Y wt l:=by simp [A8Y]
  rw [e,Int.natCast_add] at h1
  simp only [N3]
  rw [hw k y h0 (by omega) (ho y (by simp)),ih _ (fun x hx=>ho x (by simp [hx])) (by omega) (by omega),e,Int.natCast_add]
  omega
theorem C0U {α:Type} (w:α→Nat) (l:List α) (i:Nat):A8Y w l=A8Y w (l.take i)+A8Y w (l.drop i):=by
 simp only [A8Y]
 rw [← List.sum_append,← List.map_append,List.take_append_drop]
theorem B3o {α:Type} {l:List α} {i:Nat} (h:i<l.length) (d:α):l.drop i=l.getD i d::l.drop (i+1):=by
 rw [List.drop_eq_getElem_cons h]
 simp [List.getD_eq_getElem?_getD,h]
theorem D0B {α:Type} (mk:Int→α→Int×α) (x:α):∀ (l:List α) (k:Int),N3 mk k (l++[x])=((mk (N3 mk k l).1 x).1,(N3 mk k l).2++[(mk (N3 mk k l).1 x).2]):=by
 intro l
 induction l with
 | nil=>intro k;rfl
 | cons y l ih=>intro k;simp only [List.cons_append,N3,ih]
theorem D9x {α:Type} (a b:List α) (y x:α):(a++y::b).set a.length x=a++x::b:=by
 rw [List.set_append_right _ _ (Nat.le_refl _),Nat.sub_self];rfl
theorem D9s {α:Type} (d:α) (mk:Int→α→Int×α) (wt:α→Nat) (ok:α→Prop) {ss:Int→Int→List α→(Int×Int×List α) ⊕ (Nat×Int×List α)} {fl:Nat×Int×List α}
  (hw:∀ k x,0≤k→k+(wt x:Int)≤10000000→ok x→(mk k x).1=k+(wt x:Int))
  (hs:∀ (k:Int) (i:Nat) (h:List α),i<h.length→h.length≤1048576→0≤k→k+(wt (h.getD i d):Int)≤10000000→ok (h.getD i d)→ss k (i:Int) h=.inl ((mk k (h.getD i d)).1,((i+1:Nat):Int),h.set i (mk k (h.getD i d)).2))
  (he:∀ (k:Int) (h:List α),h.length≤1048576→ss k (h.length:Int) h=.inr (0,k,h))
  {l:List α} (hl:l.length≤1048576) (hok:∀ x∈l,ok x) {k:Int} (h0:0≤k) (h1:k+(A8Y wt l:Int)≤10000000) :
  itX (fun v=>ss v.1 v.2.1 v.2.2) fl (k,0,l)=(0,N3 mk k l):=by
 refine A68 (fun v:Int×Int×List α=>∃ i:Nat,i≤l.length∧v=((N3 mk k (l.take i)).1,(i:Int),(N3 mk k (l.take i)).2++l.drop i)) (fun a=>a=(0,N3 mk k l)) (fun v=>l.length - v.2.1.toNat) ?_ ⟨0,Nat.zero_le _,by simp [N3]⟩ (by simp;omega)
 rintro v ⟨i,hi,rfl⟩
 have hlen:((N3 mk k (l.take i)).2++l.drop i).length=l.length:=by rw [List.length_append,C7z,List.length_take,List.length_drop];omega
 have hlm:(N3 mk k (l.take i)).2.length=i:=by rw [C7z,List.length_take];omega
 have hf:(N3 mk k (l.take i)).1=k+(A8Y wt (l.take i):Int):=C7y mk wt ok hw _ k (fun x hx=>hok x (List.mem_of_mem_take hx)) h0 (by have:=C0U wt l i;omega)
 by_cases hlt:i<l.length
 ·have hg : ((N3 mk k (l.take i)).2 ++ l.drop i).getD i d = l.getD i d := by
   rw [B3o hlt d]
   simp [List.getD_eq_getElem?_getD,hlm]
  have hsum:A8Y wt l=A8Y wt (l.take i)+(wt (l.getD i d)+A8Y wt (l.drop (i+1))):=by
   rw [C0U wt l i,B3o hlt d];simp [A8Y]
  have:=hs (N3 mk k (l.take i)).1 i ((N3 mk k (l.take i)).2++l.drop i) (by omega) (by omega) (by rw [hf];omega) (by rw [hg,hf];omega) (by rw [hg];exact hok _ (P3 hlt d))
  rw [hg] at this
  refine .inl ⟨_,this,⟨i+1,by omega,?_⟩,by simp only [Int.toNat_natCast];omega⟩
  rw [L4 hlt d,D0B,B3o hlt d]
  have e:=D9x (N3 mk k (l.take i)).2 (l.drop (i+1)) (l.getD i d) (mk (N3 mk k (l.take i)).1 (l.getD i d)).2
  rw [hlm] at e
  rw [e]
  simp only [List.append_assoc,List.cons_append,List.nil_append]
 ·obtain rfl:i=l.length:=by omega
  have:=he (N3 mk k (l.take l.length)).1 ((N3 mk k (l.take l.length)).2++l.drop l.length) (by omega)
  rw [hlen] at this
  refine .inr ⟨_,this,?_⟩
  simp [List.take_length]
theorem D9B {α:Type} (el:Int→α) (c:Int) (hc:0≤c∧c≤100000) (d:α) (f:Nat→Int×List α→Int×List α)
  (hf:∀ i k (h:List α),i<h.length→0≤k→k≤100000*((i:Int)+100)→h.length≤1048576→f i (k,h)=(k+c,h.set i (el k))) :
  ∀ n i k (h:List α),i+n=h.length→0≤k→k≤100000*((i:Int)+100)→h.length≤1048576 →
   (foldN f n i (k,h)).1=k+c*(n:Int)∧(foldN f n i (k,h)).2.length=h.length∧(∀ j,i≤j→j<h.length→(foldN f n i (k,h)).2.getD j d=el (k+c*((j - i:Nat):Int)))∧∀ j,j<i→(foldN f n i (k,h)).2.getD j d=h.getD j d:=by
 intro n
 induction n with
 | zero=>intro i k h hi h0 h1 h2;exact ⟨by simp [foldN],rfl,fun j hj hl=>by omega,fun j _=>rfl⟩
 | succ n ih =>
  intro i k h hi h0 h1 h2
  simp only [foldN]
  rw [hf i k h (by omega) h0 h1 h2]
  obtain ⟨q1,q2,q3,q4⟩:=ih (i+1) (k+c) (h.set i (el k)) (by simp;omega) (by omega) (by omega) (by simpa using h2)
  refine ⟨?_,by rw [q2];simp,fun j hj hl=>?_,fun j hj=>?_⟩
  ·rw [q1,Int.natCast_add,Int.mul_add];simp;omega
  ·by_cases e:j=i
   ·subst e
    rw [q4 j (by omega)]
    have:j<h.length:=hl
    simp [List.getD_eq_getElem?_getD,this]
   ·rw [q3 j (by omega) (by simpa using hl)]
    congr 1
    have:((j - i:Nat):Int)=((j - (i+1):Nat):Int)+1:=by omega
    rw [this,Int.mul_add];omega
  ·rw [q4 j (by omega)]
   have:i ≠ j:=by omega
   simp [List.getD_eq_getElem?_getD,List.getElem?_set_ne this]
theorem C54 {α:Type} {l:List α} {i:Nat} (hi:i<l.length) (x d:α):(l.set i x).getD i d=x:=by
 simp [List.getD_eq_getElem?_getD,hi]
theorem B73 (l:Lq2) (k:Int) (h:l.length≤1048576) (h0:0≤k) (h1:k≤10000000):(W2 k l).1=k+3*(l.length:Int)∧(W2 k l).2.length=l.length:=by
 obtain ⟨q1,q2,_⟩:=D9B (fun k=>(k,I9 (k+1),I9 (k+1+1))) 3 (by omega) dOp O0 (fun i k h hi h0 h1 h2=>by
  have w1:wI (k+(1:Int))=k+1:=A61 (by omega) (by omega)
  have w2:wI (k+1+(1:Int))=k+1+1:=A61 (by omega) (by omega)
  have w3:wI (k+1+1+(1:Int))=k+3:=by rw [A61 (by omega) (by omega)];omega
  simp only [O0,w1,w2,w3,List.set_set,C54 hi]) l.length 0 k l (by omega) h0 (by omega) h
 have e1:W2 k l=foldN O0 l.length 0 (k,l):=rfl
 rw [e1];exact ⟨q1,q2⟩
theorem C7A (k:Int) (r:K3) (h0:0≤k) (h1:k+(A9p r:Int)≤10000000) (hj:D2j r):(B2M k r).1=k+(A9p r:Int):=by
 simp only [A9p] at h1 ⊢
 have m1:=(B73 r.2.2 (k+1+1) hj (by omega) (by omega)).1
 simp only [B2M]
 rw [m1]
 omega
theorem D6h {k:Int} {l:Lq2} (h:l.length≤1048576) (h0:0≤k) (h1:k≤10000000):A8S k l=true∧B02 (W2 k l).2 k=true:=by
 have h2:=(B73 l k h h0 h1).2
 exact ⟨by simp only [A8S,okL];simp;omega,by simp only [B02,okL,h2];simp;omega⟩
theorem D6f {α:Type} (mk:Int→α→Int×α) (d:α):∀ (l:List α) (k:Int) (i:Nat),i<l.length→(N3 mk k l).2.getD i d=(mk (N3 mk k (l.take i)).1 (l.getD i d)).2:=by
 intro l
 induction l with
 | nil=>intro k i h;simp at h
 | cons y l ih =>
  intro k i h
  cases i with
  | zero=>simp [N3]
  | succ i =>
   simp only [N3,List.getD_cons_succ,List.take_succ_cons]
   exact ih _ i (by simpa using h)
theorem D9e {α:Type} (d:α) (mk:Int→α→Int×α) (wt:α→Nat) (ok:α→Prop) {ss:List α→Int→Int→(List α×Int×Int) ⊕ (Nat×Int×Int)} {fl:Nat×Int×Int} {z:Int}
  (hw:∀ k x,0≤k→k+(wt x:Int)≤10000000→ok x→(mk k x).1=k+(wt x:Int))
  (hs:∀ (k:Int) (i:Nat) (h:List α) (x:α),i<h.length→h.length≤1048576→0≤k→k+(wt x:Int)≤10000000→ok x→h.getD i d=(mk k x).2→ss h k (i:Int)=.inl (h,(mk k x).1,((i+1:Nat):Int)))
  (he:∀ (k:Int) (h:List α),h.length≤1048576→ss h k (h.length:Int)=.inr (1,z,k))
  {l:List α} (hl:l.length≤1048576) (hok:∀ x∈l,ok x) {k:Int} (h0:0≤k) (h1:k+(A8Y wt l:Int)≤10000000) :
  itX (fun v=>ss v.1 v.2.1 v.2.2) fl ((N3 mk k l).2,k,0)=(1,z,(N3 mk k l).1):=by
 have hl2:=C7z mk l k
 refine A68 (fun v:List α×Int×Int=>∃ i:Nat,i≤l.length∧v=((N3 mk k l).2,(N3 mk k (l.take i)).1,(i:Int))) (fun a=>a=(1,z,(N3 mk k l).1)) (fun v=>l.length - v.2.2.toNat) ?_ ⟨0,Nat.zero_le _,by simp [N3]⟩ (by simp;omega)
 rintro v ⟨i,hi,rfl⟩
 have hf:(N3 mk k (l.take i)).1=k+(A8Y wt (l.take i):Int):=C7y mk wt ok hw _ k (fun x hx=>hok x (List.mem_of_mem_take hx)) h0 (by have:=C0U wt l i;omega)
 by_cases hlt:i<l.length
 ·have hsum : A8Y wt l = A8Y wt (l.take i) + (wt (l.getD i d) + A8Y wt (l.drop (i + 1))) := by
   rw [C0U wt l i,B3o hlt d];simp [A8Y]
  have:=hs (N3 mk k (l.take i)).1 i (N3 mk k l).2 (l.getD i d) (by omega) (by omega) (by rw [hf];omega) (by rw [hf];omega) (hok _ (P3 hlt d)) (D6f mk d l k i hlt)
  refine .inl ⟨_,this,⟨i+1,by omega,?_⟩,by simp only [Int.toNat_natCast];omega⟩
  rw [L4 hlt d,D0B]
 ·obtain rfl:i=l.length:=by omega
  have:=he (N3 mk k (l.take l.length)).1 (N3 mk k l).2 (by omega)
  rw [hl2] at this
  refine .inr ⟨_,this,?_⟩
  rw [List.take_length]
theorem E1m {α:Type} (el:Int→α) (c:Int) (hc:0≤c∧c≤100000) (d:α) (x:List α) (hx:x.length≤1048576) (g:Nat→Int→Int ⊕ Unit)
  (hg:∀ i k,i<x.length→0≤k→k≤100000*((i:Int)+100)→x.getD i d=el k→g i k=.inl (k+c)) :
  ∀ n i k,i+n=x.length→0≤k→k≤100000*((i:Int)+100)→(∀ j,i≤j→j<x.length→x.getD j d=el (k+c*((j - i:Nat):Int)))→loopN g n i k=.inl (k+c*(n:Int)):=by
 intro n
 induction n with
 | zero=>intro i k hi h0 h1 he;simp [loopN]
 | succ n ih =>
  intro i k hi h0 h1 he
  have h2:=he i (Nat.le_refl _) (by omega)
  rw [Nat.sub_self] at h2
  simp only [loopN]
  rw [hg i k (by omega) h0 h1 (by simpa using h2)]
  simp only
  rw [ih (i+1) (k+c) (by omega) (by omega) (by omega) (fun j hj hl=>by
   rw [he j (by omega) hl]
   congr 1
   have:((j - i:Nat):Int)=((j - (i+1):Nat):Int)+1:=by omega
   rw [this,Int.mul_add];omega)]
  rw [Int.natCast_add,Int.mul_add];congr 1;simp;omega
theorem heldmark {α:Type} (el:Int→α) (c:Int) (hc:0≤c∧c≤100000) (d:α) (f:Nat→Int×List α→Int×List α) (g:List α→Nat→Int→Int ⊕ Unit)
  (hf:∀ i k (h:List α),i<h.length→0≤k→k≤100000*((i:Int)+100)→h.length≤1048576→f i (k,h)=(k+c,h.set i (el k)))
  (hg:∀ (x:List α) i k,x.length≤1048576→i<x.length→0≤k→k≤100000*((i:Int)+100)→x.getD i d=el k→g x i k=.inl (k+c)) (h:List α) (hh:h.length≤1048576) (k:Int) (h0:0≤k) (h1:k≤10000000) :
  (foldN f h.length 0 (k,h)).1=k+c*(h.length:Int)∧(foldN f h.length 0 (k,h)).2.length=h.length∧loopN (g (foldN f h.length 0 (k,h)).2) (foldN f h.length 0 (k,h)).2.length 0 k=.inl (k+c*(h.length:Int)):=by
 obtain ⟨q1,q2,q3,_⟩:=D9B el c hc d f hf h.length 0 k h (by omega) h0 (by omega) hh
 refine ⟨q1,q2,?_⟩
 have:=E1m el c hc d (foldN f h.length 0 (k,h)).2 (by rw [q2];exact hh) (g (foldN f h.length 0 (k,h)).2) (fun i k hi=>hg _ i k (by rw [q2];exact hh) hi) (foldN f h.length 0 (k,h)).2.length 0 k (by omega) h0 (by omega) (fun j hj hl=>q3 j hj (by rw [q2] at hl;exact hl))
 rw [this,q2]
theorem D6g (l:Lq2) (k:Int) (h:l.length≤1048576) (h0:0≤k) (h1:k≤10000000):B9g (W2 k l).2 k=(W2 k l).1:=by
 obtain ⟨q1,q2,q3⟩:=heldmark (fun k=>(k,I9 (k+1),I9 (k+1+1))) 3 (by omega) dOp O0 O7 (fun i k h hi h0 h1 h2=>by
  have w1:wI (k+(1:Int))=k+1:=A61 (by omega) (by omega)
  have w2:wI (k+1+(1:Int))=k+1+1:=A61 (by omega) (by omega)
  have w3:wI (k+1+1+(1:Int))=k+3:=by rw [A61 (by omega) (by omega)];omega
  simp only [O0,w1,w2,w3,List.set_set,C54 hi]) (fun x i k hx hi h0 h1 he=>by
  have w1:wI (k+(1:Int))=k+1:=A61 (by omega) (by omega)
  have w2:wI (k+1+(1:Int))=k+1+1:=A61 (by omega) (by omega)
  have w3:wI (k+1+1+(1:Int))=k+3:=by rw [A61 (by omega) (by omega)];omega
  simp only [dOp] at he
  have e:(k != k)=false:=by simp
  simp only [O7,he,e,cond_false,w1,w2,w3,beq_self_eq_true,Bool.not_true]) l h k h0 h1
 have e1:W2 k l=foldN O0 l.length 0 (k,l):=rfl
 have e2:∀ x,B9g x k=cond (A7S (loopN (O7 x) x.length 0 k)) (A7J (-1) (loopN (O7 x) x.length 0 k)) (-1:Int):=fun x=>rfl
 rw [e1,e2,q3,q1];rfl
theorem C4f {l:List K3} (hl:l.length≤1048576) (ho:∀ r∈l,D2j r) {k:Int} (h0:0≤k) (h1:k+(A8Y A9p l:Int)≤10000000) :
  A8J k l=true∧B1j k l=N3 B2M k l∧(N3 B2M k l).1=k+(A8Y A9p l:Int)∧A8I (N3 B2M k l).2 k=true∧A9e (N3 B2M k l).2 k=(N3 B2M k l).1:=by
 have hdj:((0:Int),((0:Int),([]:Lq2)))=I5:=rfl
 have e1:B0S k 0 l=(0,N3 B2M k l):=by
  refine D9s I5 B2M A9p D2j C7A (fun k i h hi hl h0 h1 ho=>?_) (fun k h hl=>?_) hl ho h0 h1
  ·have c1:decide ((i:Int)<(h.length:Int))=true:=decide_eq_true (by omega)
   have c2:decide (0≤(i:Int)∧(i:Int)<(h.length:Int))=true:=decide_eq_true (by omega)
   have s1:(h.getD i I5).2.2.length≤1048576:=ho
   simp only [A9p] at h1
   have w1:wI (k+(1:Int))=k+1:=A61 (by omega) (by omega)
   have w2:wI (k+1+(1:Int))=k+1+1:=A61 (by omega) (by omega)
   have q1:=(D6h s1 (k:=k+1+1) (by omega) (by omega)).1
   simp only [B3T,hdj,c1,c2,cond_true,Int.toNat_natCast,List.length_set,C54 hi,List.set_set,w1,w2,q1,A7U i (by omega)]
   rfl
  ·have c1:decide ((h.length:Int)<(h.length:Int))=false:=decide_eq_false (by omega)
   simp only [B3T,c1,cond_false]
 have e2:B0R (N3 B2M k l).2 k 0=(1,0,(N3 B2M k l).1):=by
  refine D9e I5 B2M A9p D2j C7A (fun k i h x hi hl h0 h1 ho hg=>?_) (fun k h hl=>?_) hl ho h0 h1
  ·have c1:decide ((i:Int)<(h.length:Int))=true:=decide_eq_true (by omega)
   have c2:decide (0≤(i:Int)∧(i:Int)<(h.length:Int))=true:=decide_eq_true (by omega)
   have s1:x.2.2.length≤1048576:=ho
   simp only [A9p] at h1
   have w1:wI (k+(1:Int))=k+1:=A61 (by omega) (by omega)
   have w2:wI (k+1+(1:Int))=k+1+1:=A61 (by omega) (by omega)
   have m1:=(B73 x.2.2 (k+1+1) s1 (by omega) (by omega)).1
   have q1:=(D6h s1 (k:=k+1+1) (by omega) (by omega)).2
   have q3:=D6g x.2.2 (k+1+1) s1 (by omega) (by omega)
   have n2:∀ y:Int,(y != y)=false:=fun y=>by simp
   have d1:decide ((W2 (k+1+1) x.2.2).1<0)=false:=decide_eq_false (by omega)
   simp only [B2M] at hg
   simp only [B3S,hdj,c1,c2,cond_true,Int.toNat_natCast,hg,n2,cond_false,w1,w2,q1,q3,d1,A7U i (by omega)]
   rfl
  ·have c1:decide ((h.length:Int)<(h.length:Int))=false:=decide_eq_false (by omega)
   simp only [B3S,c1,cond_false]
 refine ⟨by simp only [A8J,e1];rfl,by simp only [B1j,e1],C7y B2M A9p D2j C7A l k ho h0 h1,by simp only [A8I,e2];rfl,by simp only [A9e,e2];rfl⟩
theorem D2k {l:List K3} (h:A0o l):∀ r∈l,D2j r:=fun r hr=>P0 (h.2 r hr)
theorem D40 (l:LBBe) (k:Int) (h:l.length≤1048576) (h0:0≤k) (h1:k≤10000000):(Q9 k l).1=k+2*(l.length:Int)∧(Q9 k l).2.length=l.length∧B0W (Q9 k l).2 k=(Q9 k l).1:=by
 obtain ⟨q1,q2,q3⟩:=heldmark (fun k=>(I9 k,I9 (k+1))) 2 (by omega) dP O2 N4 (fun i k h hi h0 h1 h2=>by
  have w1:wI (k+(1:Int))=k+1:=A61 (by omega) (by omega)
  have w2:wI (k+1+(1:Int))=k+2:=by rw [A61 (by omega) (by omega)];omega
  simp only [O2,w1,w2,List.set_set,C54 hi]) (fun x i k hx hi h0 h1 he=>by
  have w1:wI (k+(1:Int))=k+1:=A61 (by omega) (by omega)
  have w2:wI (k+1+(1:Int))=k+2:=by rw [A61 (by omega) (by omega)];omega
  simp only [dP] at he
  simp only [N4,he,cond_false,w1,w2,beq_self_eq_true,Bool.not_true]) l h k h0 h1
 have e1:Q9 k l=foldN O2 l.length 0 (k,l):=rfl
 rw [e1]
 refine ⟨q1,q2,?_⟩
 have e2:∀ x,B0W x k=cond (A7S (loopN (N4 x) x.length 0 k)) (A7J (-1) (loopN (N4 x) x.length 0 k)) (-1:Int):=fun x=>rfl
 rw [e2,q3,q1];rfl
theorem D3e {l:List V9} {k:Int} (h:l.length≤1048576) (h0:0≤k) (h1:k≤10000000):A9I k l=true∧(Q9 k l).1=k+2*(l.length:Int)∧A9G (Q9 k l).2 k=true∧B0W (Q9 k l).2 k=(Q9 k l).1:=by
 obtain ⟨a,b,c⟩:=D40 l k h h0 h1
 exact ⟨by simp only [A9I,okL];simp;omega,a,by simp only [A9G,okL,b];simp;omega,c⟩
theorem C6U {x:P7} (h:shW x) (hw:A8Y A9p x.2.1≤3200000∧A8Y A9p x.2.2.2.2≤3200000) (a b a' b':Int) :
  A0p a b 1 x.2.1 x.2.2.2.1 x.2.2.2.2=true∧0≤(O5 a b 1 x.2.1 x.2.2.2.1 x.2.2.2.2).1∧(O5 a b 1 x.2.1 x.2.2.2.1 x.2.2.2.2).1≤9000000 ∧
   A9H a' (O5 a b 1 x.2.1 x.2.2.2.1 x.2.2.2.2).2.1 b' (O5 a b 1 x.2.1 x.2.2.2.1 x.2.2.2.2).2.2.1 (O5 a b 1 x.2.1 x.2.2.2.1 x.2.2.2.2).2.2.2 1=true ∧
   C0q a' (O5 a b 1 x.2.1 x.2.2.2.1 x.2.2.2.2).2.1 b' (O5 a b 1 x.2.1 x.2.2.2.1 x.2.2.2.2).2.2.1 (O5 a b 1 x.2.1 x.2.2.2.1 x.2.2.2.2).2.2.2 1=(O5 a b 1 x.2.1 x.2.2.2.1 x.2.2.2.2).1:=by
 obtain ⟨h1,h2,h3⟩:=h
 obtain ⟨m1,m2,m3,m4,m5⟩:=C4f h1.1 (D2k h1) (k:=1) (by decide) (by omega)
 obtain ⟨p1,p2,p3,p4⟩:=D3e (l:=x.2.2.2.1) (k:=(N3 B2M 1 x.2.1).1) (by omega) (by omega) (by omega)
 obtain ⟨n1,n2,n3,n4,n5⟩:=C4f h3.1 (D2k h3) (k:=(Q9 (N3 B2M 1 x.2.1).1 x.2.2.2.1).1) (by omega) (by omega)
 have d1:decide ((N3 B2M 1 x.2.1).1<0)=false:=decide_eq_false (by omega)
 have d2:decide ((Q9 (N3 B2M 1 x.2.1).1 x.2.2.2.1).1<0)=false:=decide_eq_false (by omega)
 have d3:decide ((N3 B2M (Q9 (N3 B2M 1 x.2.1).1 x.2.2.2.1).1 x.2.2.2.2).1<0)=false:=decide_eq_false (by omega)
 simp only [A0p,O5,A9H,C0q,m1,m2,m4,m5,p1,p3,p4,n1,n2,n4,n5,d1,d2,d3,cond_false,Bool.and_self]
 refine ⟨trivial,by omega,by omega,trivial,trivial⟩
theorem D6H {x:P7} (h:B72 x):shW x:=⟨h.1,h.2.1.1,h.2.2⟩
noncomputable abbrev B6E (x:P7):Prop:=(0≤x.1∧x.1≤7)∧(0≤x.2.2.1∧x.2.2.1≤(x.2.1.length:Int))∧(x.2.1.length:Int)+(x.2.2.2.2.length:Int)≤300∧B1T x.2.1 x.2.1.length=some (x.2.2.2.1,x.2.2.2.2)
theorem D8s (z p q:Int):P1 z p q=decide (p≤z∧z≤q):=by
 by_cases h1:p≤z
 ·by_cases h2:z≤q
  ·rw [decide_eq_true (And.intro h1 h2)];simp [P1,h1,h2]
  ·rw [decide_eq_false (fun h=>h2 h.2)];simp [P1,h1,h2]
 ·rw [decide_eq_false (fun h=>h1 h.1)];simp [P1,h1]
theorem D9A {α:Type} (q:α→α→Bool) (hq:∀ x y,q x y=true→x=y):∀ (a b:List α),a.length=b.length→B8B q a b=true→a=b:=by
 intro a
 induction a with
 | nil=>intro b h _;cases b with
  | nil=>rfl
  | cons y b=>simp at h
 | cons x a ih=>intro b h hz;cases b with
  | nil=>simp at h
  | cons y b =>
   simp only [B8B,List.zip_cons_cons,List.all_cons,Bool.and_eq_true] at hz
   rw [hq x y hz.1,ih b (by simpa using h) hz.2]
theorem D06 {α:Type} (q:α→α→Bool) (hq:∀ x y,q x y=true→x=y) {a b:List α} (h:A9t q a b=true):a=b:=by
 by_cases hl:a.length=b.length
 ·simp only [A9t,C2i hl,cond_false] at h
  exact D9A q hq a b hl h
 ·simp only [A9t,C2r hl,cond_true] at h;cases h
theorem D8L (x y:V9):qP x y=true↔x=y:=by
 simp only [qP,C9R,Bool.and_true,Bool.and_eq_true,decide_eq_true_eq]
 exact ⟨fun h=>Prod.ext h.1 h.2,fun h=>by rw [h];exact ⟨rfl,rfl⟩⟩
theorem D7O {α:Type} (q:α→α→Bool):∀ (a:List α),(∀ x∈a,q x x=true)→B8B q a a=true:=by
 intro a
 induction a with
 | nil=>intro _;rfl
 | cons x a ih =>
  intro h
  simp only [B8B,List.zip_cons_cons,List.all_cons,Bool.and_eq_true]
  exact ⟨h x (by simp),ih (fun y hy=>h y (by simp [hy]))⟩
theorem C5g {α:Type} (q:α→α→Bool) {a:List α} (h:∀ x∈a,q x x=true):A9t q a a=true:=by
 simp only [A9t,C2i (a:=a) (b:=a) rfl,cond_false]
 exact D7O q a h
theorem D2i (a b:List V9):A9t qP a b=true↔a=b :=
 ⟨D06 qP (fun x y h=>(D8L x y).1 h),fun h=>by rw [h];exact C5g qP (fun x _=>(D8L x x).2 rfl)⟩
theorem D8K (x y:Int×ByteArray×ByteArray):qO x y=true↔x=y:=by
 simp only [qO,C9R,Bool.and_true,Bool.and_eq_true,decide_eq_true_eq,beq_iff_eq]
 exact ⟨fun h=>Prod.ext h.1 (Prod.ext h.2.1 h.2.2),fun h=>by rw [h];exact ⟨rfl,rfl,rfl⟩⟩
theorem D2h (a b:Lq2):A9t qO a b=true↔a=b :=
 ⟨D06 qO (fun x y h=>(D8K x y).1 h),fun h=>by rw [h];exact C5g qO (fun x _=>(D8K x x).2 rfl)⟩
theorem D8M (x y:K3):qR x y=true↔x=y:=by
 simp only [qR,bne]
 constructor
 ·intro h
  cases h1:(x.1==y.1) with
  | false=>rw [h1] at h;simp at h
  | true =>
   rw [h1] at h
   cases h2:(x.2.1==y.2.1) with
   | false=>rw [h2] at h;simp at h
   | true =>
    rw [h2] at h
    exact Prod.ext (beq_iff_eq.1 h1) (Prod.ext (beq_iff_eq.1 h2) ((D2h _ _).1 h))
 ·rintro rfl
  rw [beq_self_eq_true,beq_self_eq_true]
  exact (D2h _ _).2 rfl
theorem D7K (a b:List K3):A9t qR a b=true↔a=b :=
 ⟨D06 qR (fun x y h=>(D8M x y).1 h),fun h=>by rw [h];exact C5g qR (fun x _=>(D8M x x).2 rfl)⟩
theorem D5t {x:P7} (h1:A0o x.2.1) (hl3:x.2.2.2.1.length≤1048576) (hl4:x.2.2.2.2.length≤1048576):B0P x.1 x.2.1 x.2.2.1 x.2.2.2.1 x.2.2.2.2=true↔B6E x:=by
 obtain ⟨i1,i2⟩:=C59 x.2.1 h1.1 (B0Y h1)
 obtain ⟨r1,r2,r3⟩:=D2f h1
 have hl1:=h1.1
 obtain ⟨b1,b2⟩:=C09 (A8V x.2.1).1 x.2.2.2.1 (by omega)
 obtain ⟨d1,d2⟩:=C2j (A8V x.2.1).2.1 x.2.2.2.2 (by omega) r3
 have w1:=A61 (n:=(x.2.1.length:Int)+(x.2.2.2.2.length:Int)) (by omega) (by omega)
 have n1:D17 x.1=P1 x.1 0 7:=rfl
 have n2:A8E x.2.2.1 0 (x.2.1.length:Int)=P1 x.2.2.1 0 (x.2.1.length:Int):=rfl
 simp only [B0P,i2,b2,d2,w1,n1,n2,D8s,B6E]
 by_cases g1:0≤x.1∧x.1≤7
 ·by_cases g2:0≤x.2.2.1∧x.2.2.1≤(x.2.1.length:Int)
  ·by_cases g3:(x.2.1.length:Int)+(x.2.2.2.2.length:Int) > 300
   ·rw [decide_eq_true g1,decide_eq_true g2,decide_eq_true g3]
    exact ⟨fun h=>absurd h (by simp),fun h=>absurd h.2.2.1 (by omega)⟩
   ·rw [decide_eq_true g1,decide_eq_true g2,decide_eq_false g3]
    simp only [Bool.not_true,cond_false,A8V]
    cases hp:B1T x.2.1 x.2.1.length with
    | none=>exact ⟨fun h=>absurd h (by simp),fun h=>absurd h.2.2.2 (by simp)⟩
    | some s =>
     simp only [cond_true]
     cases hP:A9t qP s.1 x.2.2.2.1 with
     | false =>
      refine ⟨fun h=>absurd h (by simp),fun h=>?_⟩
      have e:=Option.some.inj h.2.2.2
      rw [e,(D2i _ _).2 rfl] at hP;cases hP
     | true =>
      simp only [cond_true]
      rw [D7K]
      have e1:=(D2i _ _).1 hP
      exact ⟨fun h=>⟨g1,g2,by omega,by rw [show s=(s.1,s.2) from rfl,e1,h]⟩,fun h=>by rw [Option.some.inj h.2.2.2]⟩
  ·rw [decide_eq_true g1,decide_eq_false g2]
   exact ⟨fun h=>absurd h (by simp),fun h=>absurd h.2.1 g2⟩
 ·rw [decide_eq_false g1]
  exact ⟨fun h=>absurd h (by simp),fun h=>absurd h.1 g1⟩
theorem D1X {x:P7} (h:B72 x):B0P x.1 x.2.1 x.2.2.1 x.2.2.2.1 x.2.2.2.2=true↔B6E x:=D5t h.1 h.2.1.1 h.2.2.1
noncomputable def ofK (k:Int):Int:=cond (k==0) 2 (cond (k==2) 3 4)
noncomputable def B2L (l:List K3) (t:Int):Int:=l.foldl (fun k r=>cond (J8 t r) r.1 k) 0
noncomputable def B9j (x:P7) (t:Int):Int:=cond (x.2.2.2.2.any (J8 t)) 1 (ofK (B2L x.2.1 t))
noncomputable def B1m (h:List K3):Nat:=(h.map fun r=>r.2.2.length).sum
noncomputable def B0m (x:P7) (t:Int) (ops:Lq2):Int×P7 :=
 cond (!(P1 t 1 1000000)) (5,x) (cond (!(B3M ops)) (5,x) (cond (B9j x t != 2) (B9j x t,x) (cond (A8p x.2.2.2.2 ops) (2,x) (cond (!(B1B x.2.2.2.1 ops)) (2,x)
  (cond (decide (((x.2.2.2.1.length+ops.length+B1m x.2.2.2.2:Nat):Int) > 60)) (2,x) (cond (decide ((x.2.1.length:Int)+(x.2.2.2.2.length:Int)+2 > 300)) (2,x)
   (1,(x.1,x.2.1++[((1:Int),(t,ops))],x.2.2.1,x.2.2.2.1,x.2.2.2.2++[((1:Int),(t,ops))]))))))))
theorem D2g {x:P7} (h1:A0o x.2.1) (hr:B6E x):RepOk x.2.1 x.2.1.length x.2.2.2.1 x.2.2.2.2:=D0M (B0Y h1) _ (Nat.le_refl _) _ _ hr.2.2.2
theorem D6k {r:K3} (h:A9L r.1 r.2.1 r.2.2=true):r.1=1∨r.1=2∨r.1=3:=by
 simp only [A9L] at h
 cases h1:(r.1==1) with
 | true=>exact .inl (beq_iff_eq.1 h1)
 | false =>
  cases h2:(r.1==2) with
  | true=>exact .inr (.inl (beq_iff_eq.1 h2))
  | false =>
   cases h3:(r.1==3) with
   | true=>exact .inr (.inr (beq_iff_eq.1 h3))
   | false=>rw [h1,h2,h3] at h;revert h;cases P1 r.2.1 1 1000000<;>simp
theorem B68 (l:List K3) (r:K3) (t:Int):B2L (l++[r]) t=cond (J8 t r) r.1 (B2L l t):=by simp [B2L]
theorem D61 {h:List K3} (h1:C6f h) (s t:Int) (ha:h.any (J8 s)=true):(h.eraseIdx (h.findIdx (J8 s))).any (J8 t)=cond (t==s) false (h.any (J8 t)):=by
 have hlt:=List.findIdx_lt_length.2 (List.any_eq_true.1 ha)
 have hs:(h.getD (h.findIdx (J8 s)) I5).2.1=s:=by
  have:=List.findIdx_getElem (w:=hlt)
  rw [List.getD_eq_getElem?_getD,List.getElem?_eq_getElem hlt]
  exact beq_iff_eq.1 this
 generalize h.findIdx (J8 s)=k at hlt hs
 have gd:∀ j (hj:j<h.length),h.getD j I5=h[j]:=fun j hj=>by rw [List.getD_eq_getElem?_getD,List.getElem?_eq_getElem hj];rfl
 cases hts:(t==s) with
 | true =>
  obtain rfl:t=s:=beq_iff_eq.1 hts
  simp only [cond_true]
  cases hc:(h.eraseIdx k).any (J8 t) with
  | false=>rfl
  | true =>
   obtain ⟨x,hx,hp⟩:=List.any_eq_true.1 hc
   obtain ⟨j,hj,hne,e⟩:=List.mem_eraseIdx_iff_getElem.1 hx
   have:=D4X h1 hj hlt (by rw [gd j hj,e,hs];exact beq_iff_eq.1 hp)
   exact absurd this hne
 | false =>
  simp only [cond_false]
  have hne:t ≠ s:=by simpa using hts
  cases hb:h.any (J8 t) with
  | true =>
   obtain ⟨x,hx,hp⟩:=List.any_eq_true.1 hb
   obtain ⟨j,hj,e⟩:=List.mem_iff_getElem.1 hx
   refine List.any_eq_true.2 ⟨x,List.mem_eraseIdx_iff_getElem.2 ⟨j,hj,?_,e⟩,hp⟩
   rintro rfl
   rw [gd j hj,e] at hs
   exact hne ((beq_iff_eq.1 (show (x.2.1==t)=true from hp)).symm.trans hs)
  | false =>
   cases hc:(h.eraseIdx k).any (J8 t) with
   | false=>rfl
   | true =>
    obtain ⟨x,hx,hp⟩:=List.any_eq_true.1 hc
    rw [List.any_eq_true.2 ⟨x,List.mem_of_mem_eraseIdx hx,hp⟩] at hb
    cases hb
theorem C5H (l:List K3) (r:K3) (t:Int):(l++[r]).any (J8 t)=(l.any (J8 t)||J8 t r):=by simp
theorem D7M {kn:Bool} {m m':List V9} {held h':List K3} {r:K3} {l:List K3} (h1:C6f held) (hh:∀ t,held.any (J8 t)=(B2L l t==1)) (h:B5P kn m held r=some (m', h')) :
  (r.1=1∨r.1=2∨r.1=3)∧∀ t,h'.any (J8 t)=(B2L (l++[r]) t==1):=by
 simp only [B5P] at h
 cases hok:A9L r.1 r.2.1 r.2.2 with
 | false=>rw [hok] at h;simp at h
 | true =>
  have hkd:=D6k hok
  refine ⟨hkd,fun t=>?_⟩
  rw [B68]
  simp only [hok,Bool.not_true,cond_false] at h
  have keep:∀ b:Bool,r.1 ≠ 1→held.any (J8 r.2.1)=false→held.any (J8 t)=(cond (J8 t r) r.1 (B2L l t)==1):=fun _ hne ha=>by
   cases hi:J8 t r with
   | false=>exact hh t
   | true =>
    obtain rfl:r.2.1=t:=beq_iff_eq.1 hi
    rw [ha]
    exact (beq_eq_false_iff_ne.2 hne).symm
  have gone:r.1 ≠ 1→held.any (J8 r.2.1)=true→(held.eraseIdx (held.findIdx (J8 r.2.1))).any (J8 t)=(cond (J8 t r) r.1 (B2L l t)==1):=fun hne ha=>by
   rw [D61 h1 _ t ha]
   cases hi:J8 t r with
   | false =>
    have:(t==r.2.1)=false:=by
     have:(r.2.1==t)=false:=hi
     rw [beq_eq_false_iff_ne] at this ⊢
     exact fun e=>this e.symm
    rw [this];exact hh t
   | true =>
    obtain rfl:r.2.1=t:=beq_iff_eq.1 hi
    rw [beq_self_eq_true]
    exact (beq_eq_false_iff_ne.2 hne).symm
  cases hk:(r.1==1) with
  | true =>
   have hk1:r.1=1:=beq_iff_eq.1 hk
   simp only [hk,cond_true] at h
   cases kn with
   | true=>simp at h
   | false =>
    cases hlk:A8p held r.2.2 with
    | true=>rw [hlk] at h;simp at h
    | false =>
     rw [hlk] at h
     cases hmt:B1B m r.2.2 with
     | false=>rw [hmt] at h;simp at h
     | true =>
      rw [hmt] at h
      simp only [Bool.not_true,cond_false,Option.some.injEq,Prod.mk.injEq] at h
      obtain ⟨rfl,rfl⟩:=h
      rw [C5H,hh t]
      show (B2L l t==1||J8 t r)=_
      cases J8 t r with
      | false=>simp
      | true=>rw [hk1];simp
  | false =>
   have hne:r.1 ≠ 1:=by simpa using hk
   simp only [hk,cond_false] at h
   cases ha:held.any (J8 r.2.1) with
   | false =>
    simp only [ha,Bool.not_false,cond_true] at h
    cases h3:(r.1==3) with
    | false=>rw [h3] at h;simp at h
    | true =>
     rw [h3] at h
     cases kn with
     | true=>simp at h
     | false =>
      simp only [cond_true,cond_false,Option.some.injEq,Prod.mk.injEq] at h
      obtain ⟨rfl,rfl⟩:=h
      exact keep true hne ha
   | true =>
    simp only [ha,Bool.not_true,cond_false] at h
    cases h2:(r.1==2) with
    | true =>
     simp only [h2,cond_true] at h
     by_cases hc:((((held.getD (held.findIdx (J8 r.2.1)) I5).2.2.foldl C3H m).length:Nat):Int)≤60
     ·rw [decide_eq_true hc] at h
      simp only [cond_true,Option.some.injEq,Prod.mk.injEq] at h
      obtain ⟨rfl,rfl⟩:=h
      exact gone hne ha
     ·rw [decide_eq_false hc] at h;simp at h
    | false =>
     simp only [h2,cond_false] at h
     by_cases hc:(m.length:Int)≤60
     ·rw [decide_eq_true hc] at h
      simp only [cond_true,Option.some.injEq,Prod.mk.injEq] at h
      obtain ⟨rfl,rfl⟩:=h
      exact gone hne ha
     ·rw [decide_eq_false hc] at h;simp at h
theorem D8N {l:List K3} (hr:∀ x∈l,T6 x.2.2=true):∀ i,i≤l.length→∀ m held,B1T l i=some (m,held)→(∀ x∈l.take i,x.1=1∨x.1=2∨x.1=3)∧∀ t,held.any (J8 t)=(B2L (l.take i) t==1):=by
 intro i
 induction i with
 | zero =>
  intro _ m held h
  simp only [B1T,Option.some.injEq,Prod.mk.injEq] at h
  obtain ⟨rfl,rfl⟩:=h
  exact ⟨fun x hx=>by simp at hx,fun t=>rfl⟩
 | succ i ih =>
  intro hi m held h
  simp only [B1T] at h
  cases hp:B1T l i with
  | none=>rw [hp] at h;cases h
  | some s =>
   rw [hp] at h
   obtain ⟨k1,k2⟩:=ih (by omega) s.1 s.2 (by rw [hp])
   have I:=D0M hr i (by omega) s.1 s.2 (by rw [hp])
   have e:l.take (i+1)=l.take i++[l.getD i I5]:=L4 (by omega) I5
   obtain ⟨o1,o2⟩:=D7M I.hone k2 h
   rw [e]
   refine ⟨fun x hx=>?_,o2⟩
   rcases List.mem_append.1 hx with hx | hx
   ·exact k1 x hx
   ·rw [List.mem_singleton.1 hx];exact o1
theorem D0O {x:P7} (hl:A0o x.2.1) (h:B6E x):(∀ r∈x.2.1,r.1=1∨r.1=2∨r.1=3)∧∀ t,x.2.2.2.2.any (J8 t)=(B2L x.2.1 t==1):=by
 have:=D8N (B0Y hl) x.2.1.length (Nat.le_refl _) _ _ h.2.2.2
 rwa [List.take_length] at this
noncomputable def D0C (l:List K3) (t:Int):Int:=l.foldl (fun o r=>cond (J8 t r&&(r.1==3)) 4 (cond (J8 t r&&(r.1==2)) 3 o)) 2
theorem D2e (l:List K3) (r:K3) (t:Int):D0C (l++[r]) t=cond (J8 t r&&(r.1==3)) 4 (cond (J8 t r&&(r.1==2)) 3 (D0C l t)):=by simp [D0C]
theorem D9r (l:List K3) (t:Int) (hl:l.length≤1099511627776):decide (B3O l t ≥ 0)=l.any (J8 t):=by
 have h:=D4J l t hl
 have e:decide (B3O l t ≥ 0)=!(decide (B3O l t<0)):=by
  by_cases h:B3O l t<0
  ·rw [decide_eq_true h,decide_eq_false (by omega)];rfl
  ·rw [decide_eq_false h,decide_eq_true (by omega)];rfl
 rw [e,h,Bool.not_not]
theorem D7J (x:P7) (t:Int) (hl:x.2.1.length≤1099511627776) (hh:x.2.2.2.2.length≤1099511627776):A8M x.1 x.2.1 x.2.2.1 x.2.2.2.1 x.2.2.2.2 t=true ∧
  B2v x.1 x.2.1 x.2.2.1 x.2.2.2.1 x.2.2.2.2 t=cond (x.2.2.2.2.any (J8 t)) 1 (D0C x.2.1 t):=by
 have e:A9T t 2 0 x.1 x.2.1 x.2.2.1 x.2.2.2.1 x.2.2.2.2=(0,D0C x.2.1 t):=by
  refine A68 (ss:=fun v:B0H=>A95 v.1 v.2.1 v.2.2 x.1 x.2.1 x.2.2.1 x.2.2.2.1 x.2.2.2.2) (fa:=P6)
   (fun v=>∃ i:Nat,v=(t,D0C (x.2.1.take i) t,(i:Int))∧i≤x.2.1.length) (fun a=>a=(0,D0C x.2.1 t)) (fun v=>x.2.1.length - v.2.2.toNat) ?_ ⟨0,rfl,Nat.zero_le _⟩ (by simp;omega)
  rintro v ⟨i,rfl,hi⟩
  by_cases hlt:i<x.2.1.length
  ·have e1:decide ((i:Int)<(x.2.1.length:Int))=true:=decide_eq_true (by omega)
   have e2:decide (0≤(i:Int)∧(i:Int)<(x.2.1.length:Int))=true:=decide_eq_true (by omega)
   have e3:D0C (x.2.1.take (i+1)) t=_:=(congrArg (D0C · t) (L4 hlt I5)).trans (D2e _ _ _)
   refine .inl ⟨(t,D0C (x.2.1.take (i+1)) t,((i+1:Nat):Int)),?_,⟨i+1,rfl,by omega⟩,by simp only [Int.toNat_natCast];omega⟩
   rw [e3]
   simp only [A95,e1,e2,cond_true,Int.toNat_natCast,A8Z,A7U i (by omega),J8]
   generalize (x.2.1.getD i I5).1=kd
   cases ((x.2.1.getD i I5).2.1==t) with
   | false=>simp only [cond_false,Bool.false_and]
   | true =>
    simp only [cond_true,Bool.true_and]
    cases (kd==2)<;>cases (kd==3)<;>rfl
  ·obtain rfl:i=x.2.1.length:=by omega
   have e1:decide ((x.2.1.length:Int)<(x.2.1.length:Int))=false:=decide_eq_false (by omega)
   simp only [A95,e1,cond_false,List.take_length]
   exact .inr ⟨_,rfl,rfl⟩
 have a1:=(B9f x.2.2.2.2 t hh).1
 have a2:=D9r x.2.2.2.2 t hh
 simp only [A8M,B2v,a1,a2,e]
 cases x.2.2.2.2.any (J8 t)<;>first | exact ⟨rfl,rfl⟩ | exact ⟨trivial,rfl⟩ | simp
theorem C6V {α:Type} {P:List α→Prop} (h0:P []) (hs:∀ l x,P l→P (l++[x])) (l:List α):P l:=by
 rw [← List.reverse_reverse l]
 induction l.reverse with
 | nil=>exact h0
 | cons x l ih=>rw [List.reverse_cons];exact hs _ _ ih
theorem D9v (t:Int) (l:List K3):(∀ x∈l,x.1=1∨x.1=2∨x.1=3)→B2L l t ≠ 1→D0C l t=ofK (B2L l t):=by
 induction l using C6V with
 | h0=>intro _ _;rfl
 | hs l r ih =>
  intro h
  have hr:=h r (by simp)
  rw [B68,D2e]
  cases J8 t r with
  | false=>exact ih (fun x hx=>h x (by simp [hx]))
  | true =>
   simp only [cond_true,Bool.true_and]
   intro hn
   rcases hr with e | e | e
   ·exact absurd e hn
   ·rw [e];rfl
   ·rw [e];rfl
theorem D8I {x:P7} (h1:A0o x.2.1) (hr:B6E x) (t:Int):(A8M x.1 x.2.1 x.2.2.1 x.2.2.2.1 x.2.2.2.2 t=true∧B2v x.1 x.2.1 x.2.2.1 x.2.2.2.1 x.2.2.2.2 t=B9j x t):=by
 have hl1:=h1.1
 have hl4:=hr.2.2.1
 obtain ⟨k1,k2⟩:=D0O h1 hr
 obtain ⟨s1,s2⟩:=D7J x t (by omega) (by omega)
 refine ⟨s1,?_⟩
 rw [s2,B9j,k2 t]
 cases hc:(B2L x.2.1 t==1) with
 | true=>rfl
 | false =>
  simp only [cond_false]
  exact D9v t x.2.1 k1 (by simpa using hc)
theorem D2d (h:List K3) (r:K3):B1m (h++[r])=B1m h+r.2.2.length:=by simp [B1m]
theorem D7s (x:P7) (ops:Lq2) (hm:x.2.2.2.1.length≤1048576) (hh:x.2.2.2.2.length≤1048576) (ho:∀ r∈x.2.2.2.2,r.2.2.length≤1048576) (hl:ops.length≤1048576) :
  B4x x.1 x.2.1 x.2.2.1 x.2.2.2.1 x.2.2.2.2 ops=true∧C3G x.1 x.2.1 x.2.2.1 x.2.2.2.1 x.2.2.2.2 ops=((x.2.2.2.1.length+ops.length+B1m x.2.2.2.2:Nat):Int):=by
 have bnd:∀ l:List K3,(∀ r∈l,r.2.2.length≤1048576)→B1m l≤l.length*1048576:=by
  intro l
  induction l with
  | nil=>intro _;simp [B1m]
  | cons y l ih =>
   intro h
   have a1:=h y (by simp)
   have a2:=ih (fun r hr=>h r (by simp [hr]))
   simp only [B1m,List.map_cons,List.sum_cons,List.length_cons] at a2 ⊢
   omega
 have e0:=A61 (n:=(x.2.2.2.1.length:Int)+(ops.length:Int)) (by omega) (by omega)
 have e:B59 ((x.2.2.2.1.length:Int)+(ops.length:Int)) 0 x.1 x.2.1 x.2.2.1 x.2.2.2.1 x.2.2.2.2=(0,((x.2.2.2.1.length+ops.length+B1m x.2.2.2.2:Nat):Int)):=by
  refine A68 (ss:=fun v:B41=>B3X v.1 v.2 x.1 x.2.1 x.2.2.1 x.2.2.2.1 x.2.2.2.2) (fa:=B98)
   (fun v=>∃ i:Nat,v=(((x.2.2.2.1.length+ops.length+B1m (x.2.2.2.2.take i):Nat):Int),(i:Int))∧i≤x.2.2.2.2.length) (fun a=>a=(0,((x.2.2.2.1.length+ops.length+B1m x.2.2.2.2:Nat):Int))) (fun v=>x.2.2.2.2.length - v.2.toNat) ?_ ⟨0,by simp [B1m],Nat.zero_le _⟩ (by simp;omega)
  rintro v ⟨i,rfl,hi⟩
  by_cases hlt:i<x.2.2.2.2.length
  ·have e1:decide ((i:Int)<(x.2.2.2.2.length:Int))=true:=decide_eq_true (by omega)
   have e2:decide (0≤(i:Int)∧(i:Int)<(x.2.2.2.2.length:Int))=true:=decide_eq_true (by omega)
   have e3:B1m (x.2.2.2.2.take (i+1))=B1m (x.2.2.2.2.take i)+(x.2.2.2.2.getD i I5).2.2.length:=by rw [L4 hlt I5,D2d]
   have b1:=bnd (x.2.2.2.2.take i) (fun r hr=>ho r (List.mem_of_mem_take hr))
   rw [List.length_take] at b1
   have b2:=ho _ (P3 hlt I5)
   refine .inl ⟨(((x.2.2.2.1.length+ops.length+B1m (x.2.2.2.2.take (i+1)):Nat):Int),((i+1:Nat):Int)),?_,⟨i+1,rfl,by omega⟩,by simp only [Int.toNat_natCast];omega⟩
   rw [e3]
   have w1:=A61 (n:=((x.2.2.2.1.length+ops.length+B1m (x.2.2.2.2.take i):Nat):Int)+(((x.2.2.2.2.getD i I5).2.2.length:Nat):Int)) (by omega) (by omega)
   simp only [B3X,e1,e2,cond_true,Int.toNat_natCast,A8Z,A7U i (by omega),w1]
   congr 2
   omega
  ·obtain rfl:i=x.2.2.2.2.length:=by omega
   have e1:decide ((x.2.2.2.2.length:Int)<(x.2.2.2.2.length:Int))=false:=decide_eq_false (by omega)
   simp only [B3X,e1,cond_false,List.take_length]
   exact .inr ⟨_,rfl,rfl⟩
 have k1:C0n x.1 x.2.1 x.2.2.1 x.2.2.2.1 x.2.2.2.2 ops=B59 (wI ((x.2.2.2.1.length:Int)+(ops.length:Int))) 0 x.1 x.2.1 x.2.2.1 x.2.2.2.1 x.2.2.2.2:=rfl
 simp only [B4x,C3G,k1,e0,e]
 exact ⟨rfl,trivial⟩
theorem D9t (r:K3) (m:List V9) (held:List K3):D3Y r.1 r.2.1 r.2.2 m held=B6k r.1 r.2.1 r.2.2 m held []∧B9v r.1 r.2.1 r.2.2 m held=A8L r.1 r.2.1 r.2.2 m held []:=⟨rfl,rfl⟩
theorem D6L {r:K3} {m m':List V9} {held h':List K3} (id sure:Int) (log:List K3) (hr:T6 r.2.2=true) (hm:m.length≤1000) (hh:held.length≤1048576) (ho:∀ x∈held,T6 x.2.2=true) (hl:log.length≤1048576)
  (hs:B5P false m held r=some (m', h')):B2t r.1 r.2.1 r.2.2 id sure log m held=true∧C23 r.1 r.2.1 r.2.2 id sure log m held=(id,sure,log++[r],m', h'):=by
 obtain ⟨o1,o2⟩:=D4Y r m held [] hr hm hh ho (by simp)
 rw [show decide (r.2.1∈([]:List Int))=false from by simp,hs] at o2
 obtain ⟨s', o3,_⟩:=o2
 obtain ⟨n1,n2⟩:=D9t r m held
 have hl2:=P0 hr
 have f3:O8 r.1 r.2.1 r.2.2=true:=decide_eq_true (by simp only [List.length_nil,MAXB];omega)
 have f4:V3 r.1 r.2.1 r.2.2=(r.1,r.2.1,r.2.2):=rfl
 have f1:decide ((log.length+[(r.1,(r.2.1,r.2.2))].length)*40≤MAXB)=true:=decide_eq_true (by simp only [List.length_singleton,MAXB];omega)
 simp only [B2t,C23,n1,n2,o1,o3,f3,f4,f1,Bool.and_self]
 exact ⟨trivial,trivial⟩
theorem D7L {x:P7} {t:Int} {ops:Lq2} (ht:P1 t 1 1000000=true) (ho:B3M ops=true) (hl:A8p x.2.2.2.2 ops=false) (hm:B1B x.2.2.2.1 ops=true) :
  B5P false x.2.2.2.1 x.2.2.2.2 ((1:Int),(t,ops))=some (x.2.2.2.1,x.2.2.2.2++[((1:Int),(t,ops))]):=by
 have hr:A9L 1 t ops=true:=by simp only [A9L,ht,ho];rfl
 simp only [B5P,hr,hl,hm]
 rfl
theorem D9S {x:P7} (h1:A0o x.2.1) (hr:B6E x) (t:Int) (ops:Lq2) (ho:T6 ops=true) :
  B4w t ops x.1 x.2.2.1 x.2.1 x.2.2.2.1 x.2.2.2.2=true∧C9E t ops x.1 x.2.2.1 x.2.1 x.2.2.2.1 x.2.2.2.2 =
   ((B0m x t ops).1,(B0m x t ops).2.1,(B0m x t ops).2.2.2.1,(B0m x t ops).2.2.1,(B0m x t ops).2.2.2.2.1,(B0m x t ops).2.2.2.2.2):=by
 have I:=D2g h1 hr
 have hl:=P0 ho
 have hm:=I.hml
 have hh:=hr.2.2.1
 have hho:∀ r∈x.2.2.2.2,T6 r.2.2=true:=fun r hx=>(I.hmem r hx).1
 obtain ⟨a1,a2⟩:=D8I h1 hr t
 obtain ⟨b1,b2⟩:=C8h x.2.2.2.2 ops (by omega) (fun r hx=>P0 (hho r hx)) hl
 obtain ⟨c1,c2⟩:=C8H x.2.2.2.1 ops (by omega) hl
 obtain ⟨d1,d2⟩:=D7s x ops (by omega) (by omega) (fun r hx=>P0 (hho r hx)) hl
 have w1:=A61 (n:=(x.2.1.length:Int)+(x.2.2.2.2.length:Int)) (by omega) (by omega)
 have w2:=A61 (n:=(x.2.1.length:Int)+(x.2.2.2.2.length:Int)+2) (by omega) (by omega)
 have g0:B7r ops=true:=ho
 have g1:A8K ops=true:=decide_eq_true (by simp only [List.length_nil,MAXB];omega)
 have g2:B06 ops=ops:=rfl
 simp only [B4w,C9E,B0m,a1,a2,b1,b2,c1,c2,d1,d2,w1,w2,g0,g1,g2,Bool.true_and]
 cases ht:P1 t 1 1000000 with
 | false=>exact ⟨rfl,rfl⟩
 | true =>
  cases hok:B3M ops with
  | false=>exact ⟨rfl,rfl⟩
  | true =>
   cases hout:(B9j x t != 2) with
   | true=>exact ⟨rfl,rfl⟩
   | false =>
    cases hlk:A8p x.2.2.2.2 ops with
    | true=>exact ⟨rfl,rfl⟩
    | false =>
     cases hmt:B1B x.2.2.2.1 ops with
     | false=>exact ⟨rfl,rfl⟩
     | true =>
      obtain ⟨z1,z2⟩:=D6L (r:=((1:Int),(t,ops))) x.1 x.2.2.1 x.2.1 ho (by omega) (by omega) hho (by omega) (D7L (x:=x) ht hok hlk hmt)
      simp only at z1 z2
      simp only [z1,z2]
      cases decide (((x.2.2.2.1.length+ops.length+B1m x.2.2.2.2:Nat):Int) > 60)<;>cases decide ((x.2.1.length:Int)+(x.2.2.2.2.length:Int)+2 > 300)<;>exact ⟨rfl,rfl⟩
theorem D6c {t:Int} {l:List K3} (h:l.any (J8 t)=false):B2L l t=0:=by
 induction l using C6V with
 | h0=>rfl
 | hs l r ih =>
  rw [C5H,Bool.or_eq_false_iff] at h
  rw [B68,h.2]
  exact ih h.1
theorem D6j (t:Int) (l:List K3) (hl:l.length≤1099511627776) (ha:l.any (J8 t)=true):decide (0≤Q8 l t∧Q8 l t<(l.length:Int))=true∧(l.getD (Q8 l t).toNat I5).1=B2L l t:=by
 have h2:l.reverse.findIdx (J8 t)<l.length:=by
  rw [← List.length_reverse]
  refine List.findIdx_lt_length.2 ?_
  obtain ⟨x,hx,hp⟩:=List.any_eq_true.1 ha
  exact ⟨x,List.mem_reverse.2 hx,hp⟩
 rw [(B2u l t hl).2,decide_eq_true h2]
 simp only [cond_true]
 refine ⟨decide_eq_true (by omega),?_⟩
 have e3:((l.length:Int) - 1 - ((l.reverse.findIdx (J8 t):Nat):Int)).toNat=l.length - 1 - l.reverse.findIdx (J8 t):=by omega
 rw [e3]
 clear e3 h2 hl
 induction l using C6V with
 | h0=>cases ha
 | hs l r ih =>
  rw [B68,List.reverse_append,List.reverse_cons,List.reverse_nil,List.nil_append,List.singleton_append,List.findIdx_cons]
  cases hr:J8 t r with
  | true=>simp [List.getD_eq_getElem?_getD]
  | false =>
   simp only [cond_false]
   rw [C5H,hr,Bool.or_false] at ha
   rw [← ih ha]
   have h2:l.reverse.findIdx (J8 t)<l.reverse.length:=by
    refine List.findIdx_lt_length.2 ?_
    obtain ⟨x,hx,hp⟩:=List.any_eq_true.1 ha
    exact ⟨x,List.mem_reverse.2 hx,hp⟩
   rw [List.length_reverse] at h2
   have e4:(l++[r]).length - 1 - (l.reverse.findIdx (J8 t)+1)=l.length - 1 - l.reverse.findIdx (J8 t):=by rw [List.length_append];simp;omega
   rw [e4]
   simp only [List.getD_eq_getElem?_getD]
   rw [List.getElem?_append_left (by omega)]
theorem D8G (t:Int) (l:List K3):(∀ x∈l,x.1=1∨x.1=2∨x.1=3)→(B2L l t=0∧l.any (J8 t)=false)∨((B2L l t=1∨B2L l t=2∨B2L l t=3)∧l.any (J8 t)=true):=by
 induction l using C6V with
 | h0=>intro _;exact .inl ⟨rfl,rfl⟩
 | hs l r ih =>
  intro h
  have:=ih (fun x hx=>h x (by simp [hx]))
  rw [B68,C5H]
  cases hr:J8 t r with
  | true=>exact .inr ⟨h r (by simp),by simp⟩
  | false=>simp only [cond_false,Bool.or_false];exact this
theorem D7w {x:P7} (h1:A0o x.2.1) (hr:B6E x) (t:Int):W9 x.1 x.2.1 x.2.2.1 x.2.2.2.1 x.2.2.2.2 t=true∧A9b x.1 x.2.1 x.2.2.1 x.2.2.2.1 x.2.2.2.2 t=B9j x t:=by
 have hl1:=h1.1
 have hl4:=hr.2.2.1
 obtain ⟨hk,_⟩:=D0O h1 hr
 obtain ⟨a1,_⟩:=B2u x.2.2.2.2 t (by omega)
 obtain ⟨_,a3⟩:=C3F x.2.2.2.2 t (by omega)
 obtain ⟨b1,_⟩:=B2u x.2.1 t (by omega)
 obtain ⟨b2,_⟩:=C3F x.2.1 t (by omega)
 simp only [W9,A9b,a1,a3,b1,b2,Bool.true_and,A8Z,B9j]
 cases x.2.2.2.2.any (J8 t) with
 | true=>exact ⟨rfl,rfl⟩
 | false =>
  simp only [cond_false]
  cases ha:x.2.1.any (J8 t) with
  | false=>rw [D6c ha];exact ⟨rfl,rfl⟩
  | true =>
   obtain ⟨c1,c2⟩:=D6j t x.2.1 (by omega) ha
   simp only [Bool.not_true,cond_false,c1,c2]
   refine ⟨trivial,?_⟩
   rcases D8G t x.2.1 hk with ⟨_,h⟩ | ⟨h,_⟩
   ·rw [ha] at h;cases h
   ·rcases h with h | h | h<;>rw [h]<;>rfl
theorem D4Z:∀ l:List K3,(∀ r∈l,r.2.2.length≤1048576)→B1m l≤l.length*1048576:=by
 intro l
 induction l with
 | nil=>intro _;simp [B1m]
 | cons y l ih =>
  intro h
  have a1:=h y (by simp)
  have a2:=ih (fun r hr=>h r (by simp [hr]))
  simp only [B1m,List.map_cons,List.sum_cons,List.length_cons] at a2 ⊢
  omega
theorem D55 {x:P7} (h1:A0o x.2.1) (hr:B6E x) (ops:Lq2) (ho:T6 ops=true) :
  A8Q x.1 x.2.1 x.2.2.1 x.2.2.2.1 x.2.2.2.2 ops=true∧B2I x.1 x.2.1 x.2.2.1 x.2.2.2.1 x.2.2.2.2 ops =
   (cond (A8p x.2.2.2.2 ops) false (cond (!(B1B x.2.2.2.1 ops)) false (cond (decide (((x.2.2.2.1.length+ops.length+B1m x.2.2.2.2:Nat):Int) > 60)) false (cond (decide ((x.2.1.length:Int)+(x.2.2.2.2.length:Int)+2 > 300)) false true)))):=by
 have I:=D2g h1 hr
 have hl:=P0 ho
 have hm:=I.hml
 have hh:=hr.2.2.1
 have hho:∀ r∈x.2.2.2.2,r.2.2.length≤1048576:=fun r hx=>P0 (I.hmem r hx).1
 have hbn:=D4Z _ hho
 have w0:=A61 (n:=(x.2.2.2.1.length:Int)+(ops.length:Int)) (by omega) (by omega)
 have e:A8h x.1 x.2.1 x.2.2.1 x.2.2.2.1 x.2.2.2.2 ops=(0,x.1,x.2.1,x.2.2.1,x.2.2.2.1,x.2.2.2.2,ops,((x.2.2.2.1.length+ops.length+B1m x.2.2.2.2:Nat):Int)):=by
  simp only [A8h,w0]
  refine A68 (fun v:A9P=>∃ i:Nat,v=(x.1,x.2.1,x.2.2.1,x.2.2.2.1,x.2.2.2.2,ops,((x.2.2.2.1.length+ops.length+B1m (x.2.2.2.2.take i):Nat):Int),x.2.2.2.2,(x.2.2.2.2.length:Int),(i:Int))∧i≤x.2.2.2.2.length)
   (fun a:A8r=>a=(0,x.1,x.2.1,x.2.2.1,x.2.2.2.1,x.2.2.2.2,ops,((x.2.2.2.1.length+ops.length+B1m x.2.2.2.2:Nat):Int))) (fun v=>x.2.2.2.2.length - v.2.2.2.2.2.2.2.2.2.toNat) ?_ ⟨0,by simp [B1m],Nat.zero_le _⟩ (by simp;omega)
  rintro v ⟨i,rfl,hi⟩
  by_cases hlt:i<x.2.2.2.2.length
  ·have e1:decide ((i:Int)<(x.2.2.2.2.length:Int))=true:=decide_eq_true (by omega)
   have e2:decide (0≤(i:Int)∧(i:Int)<(x.2.2.2.2.length:Int))=true:=decide_eq_true (by omega)
   have e3:B1m (x.2.2.2.2.take (i+1))=B1m (x.2.2.2.2.take i)+(x.2.2.2.2.getD i I5).2.2.length:=by rw [L4 hlt I5,D2d]
   have b1:=D4Z (x.2.2.2.2.take i) (fun r hr=>hho r (List.mem_of_mem_take hr))
   rw [List.length_take] at b1
   have b2:=hho _ (P3 hlt I5)
   refine .inl ⟨(x.1,x.2.1,x.2.2.1,x.2.2.2.1,x.2.2.2.2,ops,((x.2.2.2.1.length+ops.length+B1m (x.2.2.2.2.take (i+1)):Nat):Int),x.2.2.2.2,(x.2.2.2.2.length:Int),((i+1:Nat):Int)),?_,⟨i+1,rfl,by omega⟩,by simp only [Int.toNat_natCast];omega⟩
   rw [e3]
   have w1:=A61 (n:=((x.2.2.2.1.length+ops.length+B1m (x.2.2.2.2.take i):Nat):Int)+(((x.2.2.2.2.getD i I5).2.2.length:Nat):Int)) (by omega) (by omega)
   simp only [B1u,e1,e2,cond_true,Int.toNat_natCast,A8Z,A7U i (by omega),w1]
   congr 3
   first | omega | (congr 5;omega) | (congr 6;omega) | (congr 4;omega) | (congr 3;omega)
  ·obtain rfl:i=x.2.2.2.2.length:=by omega
   have e1:decide ((x.2.2.2.2.length:Int)<(x.2.2.2.2.length:Int))=false:=decide_eq_false (by omega)
   simp only [B1u,e1,cond_false,List.take_length]
   exact .inr ⟨_,rfl,rfl⟩
 obtain ⟨b1,b2⟩:=C55 x.2.2.2.2 ops (by omega) hho hl
 obtain ⟨c1,c2⟩:=C8g x.2.2.2.1 ops (by omega) hl
 have w1:=A61 (n:=(x.2.1.length:Int)+(x.2.2.2.2.length:Int)) (by omega) (by omega)
 have w2:=A61 (n:=(x.2.1.length:Int)+(x.2.2.2.2.length:Int)+2) (by omega) (by omega)
 simp only [A8Q,B2I,B3D,B67,e,b1,b2,c1,c2,w1,w2]
 cases A8p x.2.2.2.2 ops with
 | true=>exact ⟨rfl,rfl⟩
 | false =>
  cases B1B x.2.2.2.1 ops with
  | false=>exact ⟨rfl,rfl⟩
  | true =>
   by_cases g1:((x.2.2.2.1.length+ops.length+B1m x.2.2.2.2:Nat):Int) > 60
   ·rw [decide_eq_true g1,decide_eq_false (show ¬ ((x.2.2.2.1.length+ops.length+B1m x.2.2.2.2:Nat):Int)≤60 by omega)]
    exact ⟨rfl,rfl⟩
   ·rw [decide_eq_false g1,decide_eq_true (show ((x.2.2.2.1.length+ops.length+B1m x.2.2.2.2:Nat):Int)≤60 by omega)]
    by_cases g2:(x.2.1.length:Int)+(x.2.2.2.2.length:Int)+2 > 300
    ·rw [decide_eq_true g2,decide_eq_false (show ¬ (x.2.1.length:Int)+(x.2.2.2.2.length:Int)+2≤300 by omega)]
     exact ⟨rfl,rfl⟩
    ·rw [decide_eq_false g2,decide_eq_true (show (x.2.1.length:Int)+(x.2.2.2.2.length:Int)+2≤300 by omega)]
     exact ⟨rfl,rfl⟩
theorem D9E {x:P7} (h1:A0o x.2.1) (hr:B6E x) (t:Int) (ops:Lq2) (ho:T6 ops=true) :
  A8R t ops x.1 x.2.2.1 x.2.1 x.2.2.2.1 x.2.2.2.2=true∧B70 t ops x.1 x.2.2.1 x.2.1 x.2.2.2.1 x.2.2.2.2 =
   ((B0m x t ops).1,(B0m x t ops).2.1,(B0m x t ops).2.2.2.1,(B0m x t ops).2.2.1,(B0m x t ops).2.2.2.2.1,(B0m x t ops).2.2.2.2.2):=by
 have hl:=P0 ho
 have hh:=hr.2.2.1
 obtain ⟨a1,a2⟩:=D7w h1 hr t
 obtain ⟨f1,f2⟩:=D55 h1 hr ops ho
 have g0:B7l ops=true:=ho
 have g3:∀ t:Int,C1a t=P1 t 1 1000000:=fun t=>rfl
 have c1:J0 ops=true:=decide_eq_true (by simp only [List.length_nil,MAXB];omega)
 have c2:J5 ops=ops:=rfl
 have m1:decide ((x.2.1.length+[((1:Int),(t,ops))].length)*40≤MAXB)=true:=decide_eq_true (by simp only [List.length_singleton,MAXB];omega)
 have m2:decide ((x.2.2.2.2.length+[((1:Int),(t,ops))].length)*40≤MAXB)=true:=decide_eq_true (by simp only [List.length_singleton,MAXB];omega)
 simp only [A8R,B70,B0m,a1,a2,f1,f2,g0,g3,c1,c2,m1,m2,C4S,Bool.true_and]
 cases P1 t 1 1000000 with
 | false=>exact ⟨rfl,rfl⟩
 | true =>
  cases B8o ops with
  | false=>exact ⟨rfl,rfl⟩
  | true =>
   cases (B9j x t != 2) with
   | true=>exact ⟨rfl,rfl⟩
   | false =>
    cases A8p x.2.2.2.2 ops with
    | true=>exact ⟨rfl,rfl⟩
    | false =>
     cases B1B x.2.2.2.1 ops with
     | false=>exact ⟨rfl,rfl⟩
     | true=>cases decide (((x.2.2.2.1.length+ops.length+B1m x.2.2.2.2:Nat):Int) > 60)<;>cases decide ((x.2.1.length:Int)+(x.2.2.2.2.length:Int)+2 > 300)<;>exact ⟨rfl,rfl⟩
theorem D2W (x:P7) (t:Int) (ops:Lq2):((B0m x t ops).2=x∧((B0m x t ops).1=1→B9j x t=1)) ∨
  ((B0m x t ops).1=1∧(B0m x t ops).2=(x.1,x.2.1++[((1:Int),(t,ops))],x.2.2.1,x.2.2.2.1,x.2.2.2.2++[((1:Int),(t,ops))])∧B9j x t=2∧P1 t 1 1000000=true∧B3M ops=true):=by
 have n5:(5:Int)=1→B9j x t=1:=fun h=>absurd h (by decide)
 have n2:(2:Int)=1→B9j x t=1:=fun h=>absurd h (by decide)
 simp only [B0m]
 cases P1 t 1 1000000 with
 | false=>exact .inl ⟨rfl,n5⟩
 | true=>cases B3M ops with
  | false=>exact .inl ⟨rfl,n5⟩
  | true=>cases ho:(B9j x t != 2) with
   | true=>exact .inl ⟨rfl,fun h=>h⟩
   | false=>cases A8p x.2.2.2.2 ops with
    | true=>exact .inl ⟨rfl,n2⟩
    | false=>cases (!(B1B x.2.2.2.1 ops)) with
     | true=>exact .inl ⟨rfl,n2⟩
     | false=>cases decide (((x.2.2.2.1.length+ops.length+B1m x.2.2.2.2:Nat):Int) > 60) with
      | true=>exact .inl ⟨rfl,n2⟩
      | false=>cases decide ((x.2.1.length:Int)+(x.2.2.2.2.length:Int)+2 > 300) with
       | true=>exact .inl ⟨rfl,n2⟩
       | false=>exact .inr ⟨rfl,rfl,by simpa using ho,rfl,rfl⟩
theorem D9u {ops:Lq2} (h:B3M ops=true):ops.length≤8:=by
 rw [C4S] at h
 simp only [B8o] at h
 cases ha:A4W (C58 ops) (ops.length - (0:Int).toNat) (0:Int).toNat with
 | false=>rw [ha] at h;cases h
 | true =>
  rw [ha] at h
  have h2:P1 (ops.length:Int) 1 8=true:=h
  rw [D8s] at h2
  have:=of_decide_eq_true h2
  omega
theorem E1n {x:P7} (h:B72 x) (hr:B6E x) (t:Int) {ops:Lq2} (ho:T6 ops=true) (hw:A8Y A9p x.2.1≤3145728∧A8Y A9p x.2.2.2.2≤3145728) :
  shW (B0m x t ops).2∧A8Y A9p (B0m x t ops).2.2.1≤3200000∧A8Y A9p (B0m x t ops).2.2.2.2.2≤3200000:=by
 rcases D2W x t ops with ⟨e,_⟩ | ⟨_,e,_,_,hok⟩
 ·rw [e];exact ⟨D6H h,by omega,by omega⟩
 ·rw [e]
  have h8:=D9u hok
  have hh:=hr.2.2.1
  have ap:∀ l:List K3,A0o l→l.length≤300→A0o (l++[((1:Int),(t,ops))]):=fun l hl h3=>⟨by simp;omega,fun y hy=>by
   rcases List.mem_append.1 hy with hy | hy
   ·exact hl.2 y hy
   ·rw [List.mem_singleton.1 hy];exact ho⟩
  refine ⟨⟨ap _ h.1 (by omega),h.2.1.1,ap _ h.2.2 (by omega)⟩,?_,?_⟩
  ·rw [C75];simp only [A9p];omega
  ·rw [C75];simp only [A9p];omega
theorem D9c {l:List V9} (h:l.length≤1048576):B2p l l=true∧B5a l l=true:=by
 refine ⟨decide_eq_true h,?_⟩
 have e:A4W (A0n l l) (l.length - (0:Int).toNat) (0:Int).toNat=true:=C67 _ _ (fun j _ _=>by simp [A0n,C3A])
 simp only [B5a,e,cond_true]
 simp
theorem D8o {x:P7} (h:shW x):A8k x.1 x.2.1 x.2.2.1 x.2.2.2.1 x.2.2.2.2 x.1 x.2.1 x.2.2.1 x.2.2.2.1 x.2.2.2.2=true∧B69 x.1 x.2.1 x.2.2.1 x.2.2.2.1 x.2.2.2.2 x.1 x.2.1 x.2.2.1 x.2.2.2.1 x.2.2.2.2=true:=by
 obtain ⟨o1,o3,o4⟩:=h
 have e0:∀ x:Int,(x != x)=false:=fun x=>by simp
 obtain ⟨qE1,toE1⟩:=C9w o1
 obtain ⟨qE3,toE3⟩:=D9c o3
 obtain ⟨qE4,toE4⟩:=C9w o4
 simp only [A8k,B69,e0,qE1,toE1,qE3,toE3,qE4,toE4,cond_false,Bool.not_true,Bool.and_self]
 exact ⟨trivial,trivial⟩
theorem C68 {l:Lq2} (h:A2W tq4 l=true):D2w l:=D62 h
theorem C9S {l:List K3} (h:A2W tq3 l=true):C5K l:=by
 have h:(decide (l.length≤maxLen)&&l.all fun x=>((Lit.int .i64 x.1).wf&&((Lit.int .i64 x.2.1).wf&&A2W tq4 x.2.2)))=true:=h
 have hm:maxLen=9223372036854775807:=by decide
 rw [hm] at h
 simp only [Bool.and_eq_true,decide_eq_true_eq,List.all_eq_true] at h
 exact ⟨h.1,fun x hx=>C68 (h.2 x hx).2.2⟩
theorem D4h {l:List V9} (h:A2W tq6 l=true):C5J l:=by
 have h:(decide (l.length≤maxLen)&&l.all fun o=>(decide (o.1.size≤maxLen)&&decide (o.2.size≤maxLen)))=true:=h
 have hm:maxLen=9223372036854775807:=by decide
 rw [hm] at h
 simp only [Bool.and_eq_true,decide_eq_true_eq,List.all_eq_true] at h
 simp only [C5J,C5L,decide_eq_true_eq]
 exact ⟨h.1,fun o ho=>h.2 o ho⟩
theorem C78 {x:P7} (h:A2W tq7 x=true):C5M x:=by
 have h:((Lit.int .i64 x.1).wf&&(A2W tq3 x.2.1&&((Lit.int .i64 x.2.2.1).wf&&(A2W tq6 x.2.2.2.1&&A2W tq3 x.2.2.2.2))))=true:=h
 simp only [Bool.and_eq_true] at h
 exact ⟨C9S h.2.1,D4h h.2.2.2.1,C9S h.2.2.2.2⟩
theorem D0k (x:P7) (t:Int) (ops:Lq2) (hb:C5M x) (hbo:D2w ops):A8j x.1 x.2.1 x.2.2.1 x.2.2.2.1 x.2.2.2.2 t ops=true∧A9C x.1 x.2.1 x.2.2.1 x.2.2.2.1 x.2.2.2.2 t ops=true:=by
 obtain ⟨z1,z2⟩:=D6J hb (b:=1048576) (by omega) (by omega)
 by_cases hd:A9X x.1 x.2.1 x.2.2.1 x.2.2.2.1 x.2.2.2.2 1048576<0
 ·simp only [A8j,A9C,z1,decide_eq_true hd,cond_true]
  exact ⟨rfl,trivial⟩
 obtain ⟨hle,ho⟩:=z2 (by omega)
 obtain ⟨y1,y2⟩:=D8O hbo (b:=A9X x.1 x.2.1 x.2.2.1 x.2.2.2.1 x.2.2.2.2 1048576) (by omega) hle
 by_cases hd2:A9D ops (A9X x.1 x.2.1 x.2.2.1 x.2.2.2.1 x.2.2.2.2 1048576)<0
 ·simp only [A8j,A9C,z1,decide_eq_false hd,y1,decide_eq_true hd2,cond_true,cond_false]
  exact ⟨rfl,trivial⟩
 obtain ⟨_,hops⟩:=y2 (by omega)
 have hops':T6 ops=true:=hops
 have hol:=P0 hops'
 have hw:=D7N hb (by omega)
 obtain ⟨t1,t2⟩:=D8R ho
 obtain ⟨v1,v2⟩:=D8P hops
 obtain ⟨g1,g2⟩:=D8m hops
 obtain ⟨e1,e2⟩:=D54 ho
 obtain ⟨c1,c2,c3⟩:=D3X ho
 obtain ⟨i1,i2⟩:=D9D ho.1 ho.2.1.1 ho.2.2
 obtain ⟨s1,s2⟩:=D9w ho
 obtain ⟨m1,m2,m2', m3,m4⟩:=C6U (D6H ho) ⟨by omega,by omega⟩ x.1 x.2.2.1 x.1 x.2.2.1
 have hs:B77 x.1 x.2.1 x.2.2.1 x.2.2.2.1 x.2.2.2.2 t ops=true∧B76 x.1 x.2.1 x.2.2.1 x.2.2.2.1 x.2.2.2.2 t ops=true∧∃ (c:Int) (y:P7),D5r x.1 x.2.1 x.2.2.1 x.2.2.2.1 x.2.2.2.2 t ops=(y.1,y.2.1,y.2.2.1,y.2.2.2.1,y.2.2.2.2,c)∧D4C x.1 x.2.1 x.2.2.1 x.2.2.2.1 x.2.2.2.2 t ops=(y.1,y.2.2.1,c,y.2.1,y.2.2.2.1,y.2.2.2.2)∧shW y∧A8Y A9p y.2.1≤3200000∧A8Y A9p y.2.2.2.2≤3200000:=by
  by_cases hok:B0P x.1 x.2.1 x.2.2.1 x.2.2.2.1 x.2.2.2.2=true
  ·have R:=(D1X ho).1 hok
   obtain ⟨a1,a2⟩:=D9S ho.1 R t ops hops'
   obtain ⟨b1,b2⟩:=D9E ho.1 R t ops hops'
   refine ⟨?_,?_,(B0m x t ops).1,(B0m x t ops).2,?_,?_,E1n ho R t hops' hw⟩
   ·simp only [B77,s1,s2,c1,c3,hok,a1,Bool.not_true,cond_false,Bool.and_self]
   ·simp only [B76,i1,i2,c2,hok,b1,Bool.not_true,cond_false,Bool.and_self]
   ·simp only [D5r,D0p,s2,c3,hok,a2,Bool.not_true,cond_false]
   ·simp only [D4C,D0o,i2,hok,b2,Bool.not_true,cond_false]
  ·have hok:B0P x.1 x.2.1 x.2.2.1 x.2.2.2.1 x.2.2.2.2=false:=by simpa using hok
   refine ⟨?_,?_,5,x,?_,?_,D6H ho,by omega,by omega⟩
   ·simp only [B77,s1,c1,c3,hok,Bool.not_false,cond_true,Bool.and_self]
   ·simp only [B76,i1,c2,hok,Bool.not_false,cond_true,Bool.and_self]
   ·simp only [D5r,s2,c3,hok,Bool.not_false,cond_true]
   ·simp only [D4C,i2,hok,Bool.not_false,cond_true]
 obtain ⟨q1,q2,c,y,r1,r2,hy,hyw⟩:=hs
 obtain ⟨f1,f2⟩:=D8o hy
 obtain ⟨n1,n2,_,n3,n4⟩:=C6U hy hyw y.1 y.2.2.1 y.1 y.2.2.1
 have d1:decide ((O5 x.1 x.2.2.1 1 x.2.1 x.2.2.2.1 x.2.2.2.2).1<0)=false:=decide_eq_false (by omega)
 have d2:decide ((O5 y.1 y.2.2.1 1 y.2.1 y.2.2.2.1 y.2.2.2.2).1<0)=false:=decide_eq_false (by omega)
 have om:=(B73 ops (O5 x.1 x.2.2.1 1 x.2.1 x.2.2.2.1 x.2.2.2.2).1 hol m2 (by omega)).1
 have oq:=(D6h hol (k:=(O5 x.1 x.2.2.1 1 x.2.1 x.2.2.2.1 x.2.2.2.2).1) m2 (by omega)).1
 have d3:decide ((W2 (O5 x.1 x.2.2.1 1 x.2.1 x.2.2.2.1 x.2.2.2.2).1 ops).1<0)=false:=decide_eq_false (by omega)
 have nn:∀ x:Int,(x != x)=false:=fun x=>by simp
 simp only [A8j,A9C,A9V,A0h,B15,B16,B17,A9W,B18,z1,y1,decide_eq_false hd,decide_eq_false hd2,t1,t2,v1,v2,g1,g2,e1,e2,q1,q2,r1,r2,f1,f2,m1,n1,n3,n4,oq,d1,d2,d3,nn,cond_false,Bool.not_true,Bool.and_self]
 exact ⟨trivial,trivial⟩
theorem C3I (a0:Int) (a1:List K3) (a2:Int) (a3:List V9) (a4:List K3) (a5:Int) (a6:Lq2) (h:A2W tq7 (a0,(a1,(a2,(a3,a4))))=true) (_:A2W (.int .i64) a5=true) (h6:A2W tq4 a6=true):A9f ((a0,a1,a2,a3,a4,()),a5,a6,())=true:=(D0k (a0,a1,a2,a3,a4) a5 a6 (C78 h) (C68 h6)).1
theorem C4D (a0:Int) (a1:List K3) (a2:Int) (a3:List V9) (a4:List K3) (a5:Int) (a6:Lq2) (h:A2W tq7 (a0,(a1,(a2,(a3,a4))))=true) (_:A2W (.int .i64) a5=true) (h6:A2W tq4 a6=true):A9C a0 a1 a2 a3 a4 a5 a6=true:=(D0k (a0,a1,a2,a3,a4) a5 a6 (C78 h) (C68 h6)).2

end Go.Proofs.YtgglehejlddghaaGreat.Eng
