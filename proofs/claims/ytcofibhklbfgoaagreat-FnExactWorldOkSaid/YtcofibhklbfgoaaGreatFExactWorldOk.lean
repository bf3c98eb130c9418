/- What the functions that FnExactWorldOk reaches compute: further. -/
import Derived.Test.YtcofibhklbfgoaaGreatFExactWorldOkE
namespace Go.Proofs.YtcofibhklbfgoaaGreat.Eng
open Go Go.RowKit
set_option linter.unusedSimpArgs false
set_option linter.unusedVariables false
set_option maxRecDepth 10000
abbrev G0C:Ty:=.pair (.int .i64) (.pair (.int .i64) (.pair (.int .i64) (.pair (.sl (.pair (.int .i64) (.pair (.sl (.pair (.int .i64) (.pair .str .str))) (.pair (.int .i64) (.sl (.int .i64)))))) (.pair (.sl (.pair (.int .i64) .bool)) (.int .i64)))))
abbrev F7O:Ty:=.pair (.pair (.int .i64) (.pair (.int .i64) (.pair (.int .i64) (.pair (.sl (.pair (.int .i64) (.pair (.sl (.pair (.int .i64) (.pair .str .str))) (.pair (.int .i64) (.sl (.int .i64)))))) (.pair (.sl (.pair (.int .i64) .bool)) (.int .i64)))))) (.pair (.sl (.pair (.int .i64) (.pair (.sl (.pair (.int .i64) (.pair (.int .i64) (.sl (.pair (.int .i64) (.pair .str .str)))))) (.pair (.int .i64) (.pair (.sl (.pair .str .str)) (.sl (.pair (.int .i64) (.pair (.int .i64) (.sl (.pair (.int .i64) (.pair .str .str))))))))))) (.pair (.sl (.pair (.int .i64) (.pair (.int .i64) (.pair (.int .i64) (.pair (.sl (.pair (.int .i64) (.pair .str .str))) .bool))))) (.pair (.sl (.pair (.int .i64) (.pair (.int .i64) (.pair (.int .i64) (.pair (.sl (.pair (.int .i64) (.pair .str .str))) .bool))))) (.sl (.pair (.int .i64) (.sl (.pair (.int .i64) (.pair .str .str))))))))
abbrev B00:List PSh:=[.agg [(.int .i64),(.int .i64),(.int .i64),tq5,K4,(.int .i64),tq3,tq4,tq4,tq9]]
noncomputable def A93 (a0 a1 a2:Int) (a3:LT1) (a4:LIbe) (a5:Int) (a6:LT3) (a7 a8:LT2) (a9:Lq6):=let z1:=B88 a0 a1 a2 a3 a4 a5 a6 a7 a8 a9;D8n (z1.1) (z1.2.1) (z1.2.2.1) (z1.2.2.2.1) (z1.2.2.2.2.1) (z1.2.2.2.2.2.1) (z1.2.2.2.2.2.2.1) (z1.2.2.2.2.2.2.2.1) (z1.2.2.2.2.2.2.2.2.1) (z1.2.2.2.2.2.2.2.2.2)
noncomputable def A94 (a0 a1 a2:Int) (a3:LT1) (a4:LIbe) (a5:Int) (a6:LT3) (a7 a8:LT2) (a9:Lq6):=let z1:=B88 a0 a1 a2 a3 a4 a5 a6 a7 a8 a9;D7B (z1.1) (z1.2.1) (z1.2.2.1) (z1.2.2.2.1) (z1.2.2.2.2.1) (z1.2.2.2.2.2.1) (z1.2.2.2.2.2.2.1) (z1.2.2.2.2.2.2.2.1) (z1.2.2.2.2.2.2.2.2.1) (z1.2.2.2.2.2.2.2.2.2)
noncomputable def B4r (a0 a1 a2:Int) (a3:LT1) (a4:LIbe) (a5:Int) (a6:LT3) (a7 a8:LT2) (a9:Lq6):=let z1:=B88 a0 a1 a2 a3 a4 a5 a6 a7 a8 a9;D7I (z1.1) (z1.2.1) (z1.2.2.1) (z1.2.2.2.1) (z1.2.2.2.2.1) (z1.2.2.2.2.2.1) (z1.2.2.2.2.2.2.1) (z1.2.2.2.2.2.2.2.1) (z1.2.2.2.2.2.2.2.2.1) (z1.2.2.2.2.2.2.2.2.2) (z1.1) (z1.2.1) (z1.2.2.1) (z1.2.2.2.1) (z1.2.2.2.2.1) (z1.2.2.2.2.2.1) (z1.2.2.2.2.2.2.1) (z1.2.2.2.2.2.2.2.1) (z1.2.2.2.2.2.2.2.2.1) (z1.2.2.2.2.2.2.2.2.2)
noncomputable def A8q (a0 a1 a2:Int) (a3:LT1) (a4:LIbe) (a5:Int) (a6:LT3) (a7 a8:LT2) (a9:Lq6):Bool:=(cond (decide ((C2P a0 a1 a2 a3 a4 a5 a6 a7 a8 a9 (1048576:Int))<(0:Int))) true (cond (!((A94 a0 a1 a2 a3 a4 a5 a6 a7 a8 a9)==(A93 a0 a1 a2 a3 a4 a5 a6 a7 a8 a9))) false (cond (!(B4r a0 a1 a2 a3 a4 a5 a6 a7 a8 a9)) false true)))
noncomputable abbrev T3 (r:Bool):AV×List AObj:=((.t true .bool r),[])
noncomputable abbrev C37:F5 B00→AV×List AObj:=fun d=>T3 (A8q d.1.1 d.1.2.1 d.1.2.2.1 d.1.2.2.2.1 d.1.2.2.2.2.1 d.1.2.2.2.2.2.1 d.1.2.2.2.2.2.2.1 d.1.2.2.2.2.2.2.2.1 d.1.2.2.2.2.2.2.2.2.1 d.1.2.2.2.2.2.2.2.2.2.1)
noncomputable def A7d (a0 a1 a2:Int) (a3:LT1) (a4:LIbe) (a5:Int) (a6:LT3) (a7 a8:LT2) (a9:Lq6):Bool:=let z1:=B88 a0 a1 a2 a3 a4 a5 a6 a7 a8 a9;let z2:=B4E a0 a1 a2 a3 a4 a5 a6 a7 a8 a9;(B4B a0 a1 a2 a3 a4 a5 a6 a7 a8 a9 (1048576:Int))&&(cond (decide ((C2P a0 a1 a2 a3 a4 a5 a6 a7 a8 a9 (1048576:Int))<(0:Int))) true (z2&&((B4H (z1.1) (z1.2.1) (z1.2.2.1) (z1.2.2.2.1) (z1.2.2.2.2.1) (z1.2.2.2.2.2.1) (z1.2.2.2.2.2.2.1) (z1.2.2.2.2.2.2.2.1) (z1.2.2.2.2.2.2.2.2.1) (z1.2.2.2.2.2.2.2.2.2))&&(z2&&((B4u (z1.1) (z1.2.1) (z1.2.2.1) (z1.2.2.2.1) (z1.2.2.2.2.1) (z1.2.2.2.2.2.1) (z1.2.2.2.2.2.2.1) (z1.2.2.2.2.2.2.2.1) (z1.2.2.2.2.2.2.2.2.1) (z1.2.2.2.2.2.2.2.2.2))&&(cond (!((A94 a0 a1 a2 a3 a4 a5 a6 a7 a8 a9)==(A93 a0 a1 a2 a3 a4 a5 a6 a7 a8 a9))) true (z2&&(B4y (z1.1) (z1.2.1) (z1.2.2.1) (z1.2.2.2.1) (z1.2.2.2.2.1) (z1.2.2.2.2.2.1) (z1.2.2.2.2.2.2.1) (z1.2.2.2.2.2.2.2.1) (z1.2.2.2.2.2.2.2.2.1) (z1.2.2.2.2.2.2.2.2.2) (z1.1) (z1.2.1) (z1.2.2.1) (z1.2.2.2.1) (z1.2.2.2.2.1) (z1.2.2.2.2.2.1) (z1.2.2.2.2.2.2.1) (z1.2.2.2.2.2.2.2.1) (z1.2.2.2.2.2.2.2.2.1) (z1.2.2.2.2.2.2.2.2.2)))))))))
noncomputable abbrev A7w:F5 B00→Bool:=fun d=>A7d d.1.1 d.1.2.1 d.1.2.2.1 d.1.2.2.2.1 d.1.2.2.2.2.1 d.1.2.2.2.2.2.1 d.1.2.2.2.2.2.2.1 d.1.2.2.2.2.2.2.2.1 d.1.2.2.2.2.2.2.2.2.1 d.1.2.2.2.2.2.2.2.2.2.1
theorem D3V:A6Q true F7Q aLn Tryz.f4 B00 A7w C37:=by
 rintro ⟨⟨a0,⟨a1,⟨a2,⟨a3,⟨a4,⟨a5,⟨a6,⟨a7,⟨a8,⟨a9,_⟩⟩⟩⟩⟩⟩⟩⟩⟩⟩,_⟩ hp
 change A7d a0 a1 a2 a3 a4 a5 a6 a7 a8 a9=true at hp
 unfold A7d at hp
 refine Eq.trans (b:=(let z1:=B88 a0 a1 a2 a3 a4 a5 a6 a7 a8 a9;let z2:=B4E a0 a1 a2 a3 a4 a5 a6 a7 a8 a9;cond (B4B a0 a1 a2 a3 a4 a5 a6 a7 a8 a9 (1048576:Int)) (cond (decide ((C2P a0 a1 a2 a3 a4 a5 a6 a7 a8 a9 (1048576:Int))<(0:Int))) (some (T3 true)) (cond z2 (cond (B4H (z1.1) (z1.2.1) (z1.2.2.1) (z1.2.2.2.1) (z1.2.2.2.2.1) (z1.2.2.2.2.2.1) (z1.2.2.2.2.2.2.1) (z1.2.2.2.2.2.2.2.1) (z1.2.2.2.2.2.2.2.2.1) (z1.2.2.2.2.2.2.2.2.2)) (cond z2 (cond (B4u (z1.1) (z1.2.1) (z1.2.2.1) (z1.2.2.2.1) (z1.2.2.2.2.1) (z1.2.2.2.2.2.1) (z1.2.2.2.2.2.2.1) (z1.2.2.2.2.2.2.2.1) (z1.2.2.2.2.2.2.2.2.1) (z1.2.2.2.2.2.2.2.2.2)) (cond (!((A94 a0 a1 a2 a3 a4 a5 a6 a7 a8 a9)==(A93 a0 a1 a2 a3 a4 a5 a6 a7 a8 a9))) (some (T3 false)) (cond z2 (cond (B4y (z1.1) (z1.2.1) (z1.2.2.1) (z1.2.2.2.1) (z1.2.2.2.2.1) (z1.2.2.2.2.2.1) (z1.2.2.2.2.2.2.1) (z1.2.2.2.2.2.2.2.1) (z1.2.2.2.2.2.2.2.2.1) (z1.2.2.2.2.2.2.2.2.2) (z1.1) (z1.2.1) (z1.2.2.1) (z1.2.2.2.1) (z1.2.2.2.2.1) (z1.2.2.2.2.2.1) (z1.2.2.2.2.2.2.1) (z1.2.2.2.2.2.2.2.1) (z1.2.2.2.2.2.2.2.2.1) (z1.2.2.2.2.2.2.2.2.2)) (cond (!(B4r a0 a1 a2 a3 a4 a5 a6 a7 a8 a9)) (some (T3 false)) (some (T3 true))) none) none)) none) none) none) none)) none)) (by kernel_rfl) ?_
 exact (A6R hp fun hp=>(H7 T3 hp (fun hp=>rfl) (fun hp=>(A6R hp fun hp=>(A6R hp fun hp=>(A6R hp fun hp=>(A6R hp fun hp=>(H7 T3 hp (fun hp=>rfl) (fun hp=>(A6R hp fun hp=>(A6T hp fun _h=>(L7 T3 (fun _h=>rfl) (fun _h=>rfl)))))))))))))
theorem D7i:aPP 4 (A2z B00 A7w C37):=pcD true F7Q hlz D3V
noncomputable abbrev A9N:=Int×Lq2×Int×List Int
noncomputable abbrev O3:=(Int)×(Int)×Lq2
noncomputable abbrev X0:=(Int)×(List O3)×(Int)×LBBe×List O3
noncomputable abbrev A8V:=(Int)×(Int)×(Int)×Lq2×Bool
noncomputable abbrev T0:=(Int)×Lq2
noncomputable def F4b (j:A9N):Prop:=C4y j.2.1=true∧j.2.2.2.length≤9223372036854775807
noncomputable def D3g (l:List A9N):Prop:=l.length≤9223372036854775807∧∀ j∈l,F4b j
noncomputable def E2h (l:Lq2):Prop:=C4y l=true
noncomputable def F4c (x:O3):Prop:=E2h x.2.2
noncomputable def E1N (l:List O3):Prop:=l.length≤9223372036854775807∧∀ x∈l,F4c x
noncomputable abbrev A9b:=ByteArray×ByteArray
noncomputable def D7b (l:List A9b):Prop:=l.length≤9223372036854775807∧∀ p∈l,D7c p.1=true∧D7c p.2=true
noncomputable def E8Q (x:X0):Prop:=E1N x.2.1∧D7b x.2.2.2.1∧E1N x.2.2.2.2
noncomputable def D8W (l:List X0):Prop:=l.length≤9223372036854775807∧∀ x∈l,E8Q x
noncomputable def F2n (x:A8V):Prop:=E2h x.2.2.2.1
noncomputable def D7d (l:List A8V):Prop:=l.length≤9223372036854775807∧∀ x∈l,F2n x
noncomputable def E8O (x:T0):Prop:=E2h x.2
noncomputable def D8V (l:List T0):Prop:=l.length≤9223372036854775807∧∀ x∈l,E8O x
noncomputable def E2k (a3:List A9N) (a4:LIbe) (a6:List X0) (a7 a8:List A8V) (a9:List T0):Prop:=D3g a3∧a4.length≤9223372036854775807∧D8W a6∧D7d a7∧D7d a8∧D8V a9
noncomputable def C4i (j:A9N):Prop:=Q9 j.2.1=true∧j.2.2.2.length≤1048576
noncomputable def E5U (l:Lq2):Prop:=Q9 l=true
noncomputable def F2x (x:O3):Prop:=E5U x.2.2
noncomputable def D6c (l:List O3):Prop:=l.length≤1048576∧∀ x∈l,F2x x
noncomputable def E1Y (l:List A9b):Prop:=l.length≤1048576∧∀ p∈l,okS p.1=true∧okS p.2=true
noncomputable def D7Q (x:X0):Prop:=D6c x.2.1∧E1Y x.2.2.2.1∧D6c x.2.2.2.2
noncomputable def D7R (l:List X0):Prop:=l.length≤1048576∧∀ x∈l,D7Q x
noncomputable def E7d (x:A8V):Prop:=E5U x.2.2.2.1
noncomputable def D3B (l:List A8V):Prop:=l.length≤1048576∧∀ x∈l,E7d x
noncomputable def E1X (x:T0):Prop:=E5U x.2
noncomputable def D1B (l:List T0):Prop:=l.length≤1048576∧∀ x∈l,E1X x
noncomputable def E7e (a3:List A9N) (a4:LIbe) (a6:List X0) (a7 a8:List A8V) (a9:List T0):Prop:=a3.length≤1048576∧(∀ j∈a3,C4i j)∧a4.length≤1048576∧D7R a6∧D3B a7∧D3B a8∧D1B a9
theorem F3Q (k:Int) (s v:ByteArray) (b:Int) (h0:0≤b) (h1:b≤1048576) (hs:D7c s=true) (hv:D7c v=true) (h:0≤E5S k s v b):E5S k s v b≤b∧okS s=true∧okS v=true:=by
 simp only [D7c,decide_eq_true_eq] at hs hv
 have e1:=A50 (n:=b - (s.size:Int)) (by omega) (by omega)
 simp only [E5S,e1] at h ⊢
 cases hd:decide (b - (s.size:Int)<0) with
 | true=>rw [hd] at h;simp at h
 | false =>
  rw [hd] at h
  have:=of_decide_eq_false hd
  have e2:=A50 (n:=b - (s.size:Int) - (v.size:Int)) (by omega) (by omega)
  simp only [cond_false,e2] at h ⊢
  cases hd2:decide (b - (s.size:Int) - (v.size:Int)<0) with
  | true=>rw [hd2] at h;simp at h
  | false =>
   have:=of_decide_eq_false hd2
   simp only [cond_false,okS,decide_eq_true_eq]
   omega
theorem E4d (l:Lq2) (b:Int) (h0:0≤b) (h1:b≤1048576) (hb:C4y l=true) (h:0≤Y5 l b):Y5 l b≤b∧Q9 l=true:=by
 have hl:l.length≤9223372036854775807:=by simp only [C4y,Bool.and_eq_true,decide_eq_true_eq] at hb;exact hb.1
 have e1:=A50 (n:=b - (l.length:Int)) (by omega) (by omega)
 simp only [Y5,e1,Int.toNat_zero,Nat.sub_zero] at h ⊢
 cases hd:decide (b - (l.length:Int)<0) with
 | true=>rw [hd] at h;simp at h
 | false =>
  rw [hd] at h
  have:=of_decide_eq_false hd
  simp only [cond_false] at h ⊢
  cases hi:A6L (szN (A7o l) l.length 0 (b - (l.length:Int))) with
  | false=>rw [hi] at h;simp at h
  | true =>
   obtain ⟨r1,r2,r3⟩:=F2A (M:=1048576) (Q:=fun i=>okS (l.getD i dOp).2.1=true∧okS (l.getD i dOp).2.2=true) l.length 0 (b - (l.length:Int)) (fun j b' _ hj q0 q1 hf=>by
    obtain ⟨p1,p2⟩:=F2W hb j (by omega)
    obtain ⟨s1,s2,s3⟩:=F3Q _ _ _ b' q0 q1 p1 p2 hf
    exact ⟨⟨s2,s3⟩,s1⟩) (by omega) (by omega) hi
   simp only [cond_true]
   exact ⟨by omega,F4T (by omega) (fun i hi=>r1 i (Nat.zero_le _) (by omega))⟩
theorem F0E {l:List Int} {b:Int} (hl:l.length≤9223372036854775807) (h0:0≤b) (h1:b≤1048576) (h:0≤C4f l b):C4f l b≤b∧l.length≤1048576:=by
 have e1:=A50 (n:=b - (l.length:Int)) (by omega) (by omega)
 simp only [C4f,e1] at h ⊢
 by_cases hd:b - (l.length:Int)<0
 ·rw [decide_eq_true hd] at h;simp at h
 ·rw [decide_eq_false hd];simp only [cond_false];omega
theorem F2i {j:A9N} {b:Int} (hj:F4b j) (h0:0≤b) (h1:b≤1048576):C6K j.1 j.2.1 j.2.2.1 j.2.2.2 b=true∧(0≤D59 j.1 j.2.1 j.2.2.1 j.2.2.2 b→D59 j.1 j.2.1 j.2.2.1 j.2.2.2 b≤b∧C4i j):=by
 obtain ⟨h2,h3⟩:=hj
 refine ⟨decide_eq_true ⟨h0,h1,E2i h2⟩,fun h=>?_⟩
 simp only [D59] at h ⊢
 by_cases hd:Y5 j.2.1 b<0
 ·rw [decide_eq_true hd] at h;simp at h
 ·obtain ⟨s1,s2⟩:=E4d _ b h0 h1 h2 (by omega)
  rw [decide_eq_false hd] at h ⊢
  simp only [cond_false] at h ⊢
  by_cases hd2:C4f j.2.2.2 (Y5 j.2.1 b)<0
  ·rw [decide_eq_true hd2] at h;simp at h
  ·obtain ⟨t1,t2⟩:=F0E h3 (by omega) (by omega) (by omega:0≤C4f j.2.2.2 (Y5 j.2.1 b))
   rw [decide_eq_false hd2]
   simp only [cond_false]
   exact ⟨by omega,s2,t2⟩
theorem J0 {α:Type} {l:List α} {i:Nat} (h:i<l.length) (d:α):l.getD i d∈l:=by
 simp [List.getD_eq_getElem?_getD,h]
noncomputable def A0e:A9N:=(0,[],0,[])
theorem L9 {α:Type} {l:List α} {i:Nat} (hi:i<l.length) (d:α):l.take (i+1)=l.take i++[l.getD i d]:=by
 rw [List.take_add_one,List.getElem?_eq_getElem hi];simp [List.getD_eq_getElem?_getD,hi]
theorem E00 {l:List A9N} {b:Int} (hl:D3g l) (h0:0≤b) (h1:b≤1048576):B7H l b=true∧(0≤B2K l b→B2K l b≤b∧l.length≤1048576∧∀ j∈l,C4i j):=by
 obtain ⟨h2,h3⟩:=hl
 have e1:=A50 (n:=b - (l.length:Int)) (by omega) (by omega)
 simp only [B7H,B2K,e1]
 by_cases hd:b - (l.length:Int)<0
 ·rw [decide_eq_true hd];simp
 ·rw [decide_eq_false hd]
  simp only [cond_false]
  have key:(B2H l (b - (l.length:Int)) 0=(0,-1,0))∨∃ c,B2H l (b - (l.length:Int)) 0=(1,0,c)∧0≤c∧c≤b∧∀ j∈l,C4i j:=by
   refine A58 (fun v:B8X=>∃ (i:Nat) (c:Int),v=(l,c,(i:Int))∧i≤l.length∧0≤c∧c≤b∧∀ j∈l.take i,C4i j) (fun a:B4K=>a=(0,-1,0)∨∃ c,a=(1,0,c)∧0≤c∧c≤b∧∀ j∈l,C4i j) (fun v=>l.length - v.2.2.toNat) ?_ ⟨0,_,rfl,Nat.zero_le _,by omega,by omega,by simp⟩ (by simp;omega)
   rintro v ⟨i,c,rfl,hi,c0,c1,hj⟩
   by_cases hlt:i<l.length
   ·have e1:decide ((i:Int)<(l.length:Int))=true:=decide_eq_true (by omega)
    have e2:decide (0≤(i:Int)∧(i:Int)<(l.length:Int))=true:=decide_eq_true (by omega)
    obtain ⟨q1,q2⟩:=F2i (h3 _ (J0 hlt A0e)) c0 (by omega)
    have hdj:((0:Int),(([]:Lq2),((0:Int),([]:List Int))))=A0e:=rfl
    simp only [C04,hdj,e1,e2,cond_true,Int.toNat_natCast,q1,A6N i (by omega)]
    by_cases hn:D59 (l.getD i A0e).1 (l.getD i A0e).2.1 (l.getD i A0e).2.2.1 (l.getD i A0e).2.2.2 c<0
    ·simp only [decide_eq_true hn,cond_true]
     exact .inr ⟨_,rfl,.inl rfl⟩
    ·simp only [decide_eq_false hn,cond_false]
     obtain ⟨r1,r2⟩:=q2 (by omega)
     refine .inl ⟨_,rfl,⟨i+1,_,rfl,by omega,by omega,by omega,fun j hj2=>?_⟩,by simp only [Int.toNat_natCast];omega⟩
     rw [L9 hlt A0e] at hj2
     rcases List.mem_append.1 hj2 with h | h
     ·exact hj j h
     ·simp only [List.mem_singleton] at h;rw [h];exact r2
   ·obtain rfl:i=l.length:=by omega
    have e1:decide ((l.length:Int)<(l.length:Int))=false:=decide_eq_false (by omega)
    simp only [C04,e1,cond_false]
    rw [List.take_length] at hj
    exact .inr ⟨_,rfl,.inr ⟨c,rfl,c0,c1,hj⟩⟩
  rcases key with h | ⟨c,h,c0,c1,hj⟩
  ·rw [h];exact ⟨rfl,fun h=>by simp at h⟩
  ·rw [h];exact ⟨rfl,fun _=>⟨c1,by omega,hj⟩⟩
theorem E8h {a3:List A9N} {a4:LIbe} (hb:D3g a3) (h4:a4.length≤9223372036854775807) (a0 a1 a2 a5:Int):B4z a0 a1 a2 a3 a4 a5 1048576=true∧(0≤B3R a0 a1 a2 a3 a4 a5 1048576→a3.length≤1048576∧(∀ j∈a3,C4i j)∧a4.length≤1048576):=by
 obtain ⟨z1,z2⟩:=E00 hb (b:=1048576) (by decide) (by decide)
 refine ⟨z1,fun h=>?_⟩
 simp only [B3R] at h
 by_cases hd:B2K a3 1048576<0
 ·rw [decide_eq_true hd] at h;simp at h
 ·obtain ⟨y1,y2,y3⟩:=z2 (by omega)
  rw [decide_eq_false hd] at h
  simp only [cond_false] at h
  by_cases hd2:B7z a4 (B2K a3 1048576)<0
  ·rw [decide_eq_true hd2] at h;simp at h
  ·refine ⟨y2,y3,?_⟩
   generalize B2K a3 1048576=c at *
   have e1:=A50 (n:=c - (a4.length:Int)) (by omega) (by omega)
   simp only [B7z,e1] at hd2
   by_cases hd3:c - (a4.length:Int)<0
   ·rw [decide_eq_true hd3] at hd2;simp at hd2
   ·omega
theorem F4Y {a3:List A9N} {a4:LIbe} (hb:D3g a3) (h4:a4.length≤9223372036854775807) (a0 a1 a2 a5:Int):B4z a0 a1 a2 a3 a4 a5 1048576=true∧(0≤B3R a0 a1 a2 a3 a4 a5 1048576→B3R a0 a1 a2 a3 a4 a5 1048576≤1048576∧a3.length≤1048576∧(∀ j∈a3,C4i j)∧a4.length≤1048576):=by
 obtain ⟨z1,z2⟩:=E8h hb h4 a0 a1 a2 a5
 refine ⟨z1,fun h=>⟨?_,z2 h⟩⟩
 obtain ⟨_,y⟩:=E00 hb (b:=1048576) (by decide) (by decide)
 simp only [B3R] at h ⊢
 by_cases hd:B2K a3 1048576<0
 ·rw [decide_eq_true hd] at h;simp at h
 ·obtain ⟨y1,_⟩:=y (by omega)
  rw [decide_eq_false hd] at h ⊢
  simp only [cond_false] at h ⊢
  generalize B2K a3 1048576=c at *
  have e1:=A50 (n:=c - (a4.length:Int)) (by omega) (by omega)
  simp only [B7z,e1] at h ⊢
  by_cases hd3:c - (a4.length:Int)<0
  ·simp only [decide_eq_true hd3,cond_true] at h ⊢;simp
  ·simp only [decide_eq_false hd3,cond_false] at h ⊢;omega
noncomputable def L6:X0:=((0:Int),(([]:List O3),((0:Int),(([]:LBBe),([]:List O3)))))
theorem E6T {V A α:Type} {ss:V→V ⊕ A} {fa:A} (pk:Int→Nat→V) (l:List α) (d:α) (sz:α→Int→Int) (Q:α→Prop) (bad:A) (good:Int→A) (M:Int) (hn:l.length<4611686018427387904) {b:Int} (h0:0≤b) (h1:b≤M)
  (hstep:∀ i c,i<l.length→0≤c→c≤M→ss (pk c i)=cond (decide (sz (l.getD i d) c<0)) (.inr bad) (.inl (pk (sz (l.getD i d) c) (i+1))))
  (hQ:∀ x∈l,∀ c,0≤c→c≤M→0≤sz x c→sz x c≤c∧Q x) (hlast:∀ c,ss (pk c l.length)=.inr (good c)) :
  itX ss fa (pk b 0)=bad∨∃ c,itX ss fa (pk b 0)=good c∧0≤c∧c≤b∧∀ x∈l,Q x:=by
 rw [A3Z]
 have key:∀ k N i c,i+k=l.length→k<N→0≤c→c≤b→(∀ x∈l.take i,Q x)→itN ss fa N (pk c i)=bad∨∃ c', itN ss fa N (pk c i)=good c'∧0≤c'∧c'≤b∧∀ x∈l,Q x:=by
  intro k
  induction k with
  | zero =>
   intro N i c hi hN c0 c1 hq
   obtain ⟨N,rfl⟩:∃ M,N=M+1:=⟨N - 1,by omega⟩
   obtain rfl:i=l.length:=by omega
   rw [A56,hlast c]
   rw [List.take_length] at hq
   exact .inr ⟨c,rfl,c0,c1,hq⟩
  | succ k ih =>
   intro N i c hi hN c0 c1 hq
   obtain ⟨N,rfl⟩:∃ M,N=M+1:=⟨N - 1,by omega⟩
   have hlt:i<l.length:=by omega
   rw [A56,hstep i c hlt c0 (by omega)]
   by_cases hneg:sz (l.getD i d) c<0
   ·rw [decide_eq_true hneg];exact .inl rfl
   ·rw [decide_eq_false hneg]
    obtain ⟨q1,q2⟩:=hQ _ (J0 hlt d) c c0 (by omega) (by omega)
    refine ih N (i+1) _ (by omega) (by omega) (by omega) (by omega) (fun x hx=>?_)
    rw [L9 hlt d] at hx
    rcases List.mem_append.1 hx with hx | hx
    ·exact hq x hx
    ·simp only [List.mem_singleton] at hx;rw [hx];exact q2
 exact key l.length _ 0 b (by omega) hn h0 (Int.le_refl _) (by simp)
noncomputable def I5:O3:=((0:Int),((0:Int),([]:Lq2)))
theorem F2j {l:Lq2} {b:Int} (hb:E2h l) (h0:0≤b) (h1:b≤1048576):B3S l b=true∧(0≤Y5 l b→Y5 l b≤b∧E5U l):=⟨decide_eq_true ⟨h0,h1,E2i hb⟩,fun h=>E4d l b h0 h1 hb h⟩
theorem F0G {x:O3} {b:Int} (hx:F4c x) (h0:0≤b) (h1:b≤1048576):C6L x.1 x.2.1 x.2.2 b=true∧(0≤D6a x.1 x.2.1 x.2.2 b→D6a x.1 x.2.1 x.2.2 b≤b∧F2x x):=by
 obtain ⟨a1,a2⟩:=F2j hx h0 h1
 refine ⟨a1,fun h=>?_⟩
 simp only [D6a] at h ⊢
 by_cases hd:Y5 x.2.2 b<0
 ·rw [decide_eq_true hd] at h;simp at h
 ·rw [decide_eq_false hd];exact a2 (by omega)
theorem F2B {l:List O3} {b:Int} (hb:E1N l) (h0:0≤b) (h1:b≤1048576):B2R l b=true∧(0≤B1h l b→B1h l b≤b∧D6c l):=by
 obtain ⟨h2,h3⟩:=hb
 have hdj:(((0:Int),((0:Int),([]:Lq2))):O3)=I5:=rfl
 have e1:=A50 (n:=b - (l.length:Int)) (by omega) (by omega)
 simp only [B2R,B1h,e1]
 by_cases hd:b - (l.length:Int)<0
 ·rw [decide_eq_true hd];simp
 rw [decide_eq_false hd]
 simp only [cond_false]
 have key:B2I l (b - (l.length:Int)) 0=(0,-1,0)∨∃ c,B2I l (b - (l.length:Int)) 0=(1,0,c)∧0≤c∧c≤b - (l.length:Int)∧∀ x∈l,F2x x:=by
  refine E6T (fun c i=>(l,c,(i:Int))) l I5 (fun x c=>D6a x.1 x.2.1 x.2.2 c) F2x (0,-1,0) (fun c=>(1,0,c)) b (by omega) (by omega) (by omega) (fun i c hi c0 c1=>?_) (fun x hx c c0 c1 h=>(F0G (h3 x hx) c0 (by omega)).2 h) (fun c=>?_)
  ·have q1:=(F0G (h3 _ (J0 hi I5)) c0 (by omega)).1
   have e1:decide ((i:Int)<(l.length:Int))=true:=decide_eq_true (by omega)
   have e2:decide (0≤(i:Int)∧(i:Int)<(l.length:Int))=true:=decide_eq_true (by omega)
   simp only [C05,hdj,e1,e2,cond_true,Int.toNat_natCast,q1,A6N i (by omega)]
  ·have e1:decide ((l.length:Int)<(l.length:Int))=false:=decide_eq_false (by omega)
   simp only [C05,e1,cond_false]
 rcases key with h | ⟨c,h,c0,c1,hj⟩
 ·rw [h];exact ⟨rfl,fun h=>by simp at h⟩
 ·rw [h];exact ⟨rfl,fun _=>⟨by show c≤b;omega,by omega,hj⟩⟩
noncomputable def E9d:A9b:=(bE,bE)
theorem F0F (s v:ByteArray) (b:Int) (h0:0≤b) (h1:b≤1048576) (hs:D7c s=true) (hv:D7c v=true) (h:0≤D3y s v b):D3y s v b≤b∧okS s=true∧okS v=true:=by
 simp only [D7c,decide_eq_true_eq] at hs hv
 have e1:=A50 (n:=b - (s.size:Int)) (by omega) (by omega)
 simp only [D3y,e1] at h ⊢
 cases hd:decide (b - (s.size:Int)<0) with
 | true=>rw [hd] at h;simp at h
 | false =>
  rw [hd] at h
  have:=of_decide_eq_false hd
  have e2:=A50 (n:=b - (s.size:Int) - (v.size:Int)) (by omega) (by omega)
  simp only [cond_false,e2] at h ⊢
  cases hd2:decide (b - (s.size:Int) - (v.size:Int)<0) with
  | true=>rw [hd2] at h;simp at h
  | false =>
   have:=of_decide_eq_false hd2
   simp only [cond_false,okS,decide_eq_true_eq]
   omega
theorem F4Z {l:List A9b} {b:Int} (hb:D7b l) (h0:0≤b) (h1:b≤1048576):B7J l b=true∧(0≤B6r l b→B6r l b≤b∧E1Y l):=by
 obtain ⟨hl,hp⟩:=hb
 refine ⟨decide_eq_true ⟨h0,h1,hl⟩,fun h=>?_⟩
 have e1:=A50 (n:=b - (l.length:Int)) (by omega) (by omega)
 simp only [B6r,e1,Int.toNat_zero,Nat.sub_zero] at h ⊢
 cases hd:decide (b - (l.length:Int)<0) with
 | true=>rw [hd] at h;simp at h
 | false =>
  rw [hd] at h
  have:=of_decide_eq_false hd
  simp only [cond_false] at h ⊢
  cases hi:A6L (szN (U1 l) l.length 0 (b - (l.length:Int))) with
  | false=>rw [hi] at h;simp at h
  | true =>
   obtain ⟨r1,r2,r3⟩:=F2A (M:=1048576) (Q:=fun i=>okS (l.getD i E9d).1=true∧okS (l.getD i E9d).2=true) l.length 0 (b - (l.length:Int)) (fun j b' _ hj q0 q1 hf=>by
    obtain ⟨p1,p2⟩:=hp _ (J0 (show j<l.length by omega) E9d)
    obtain ⟨s1,s2,s3⟩:=F0F _ _ b' q0 q1 p1 p2 hf
    exact ⟨⟨s2,s3⟩,s1⟩) (by omega) (by omega) hi
   simp only [cond_true]
   refine ⟨by omega,by omega,fun p hm=>?_⟩
   obtain ⟨i,hi,e⟩:=List.getElem_of_mem hm
   have:=r1 i (Nat.zero_le _) (by omega)
   rw [List.getD_eq_getElem?_getD,List.getElem?_eq_getElem hi,Option.getD_some,e] at this
   exact this
theorem E4f {x:X0} {b:Int} (hx:E8Q x) (h0:0≤b) (h1:b≤1048576):B4A x.1 x.2.1 x.2.2.1 x.2.2.2.1 x.2.2.2.2 b=true∧(0≤C2O x.1 x.2.1 x.2.2.1 x.2.2.2.1 x.2.2.2.2 b→C2O x.1 x.2.1 x.2.2.1 x.2.2.2.1 x.2.2.2.2 b≤b∧D7Q x):=by
 simp only [B4A,C2O]
 obtain ⟨q0,a0⟩:=F2B (b:=b) (hx.1) (by omega) (by omega)
 generalize hc0:B1h x.2.1 b=c0 at *
 by_cases hd0:c0<0
 ·simp only [q0,decide_eq_true hd0,cond_true,Bool.true_and]
  exact ⟨trivial,fun h=>by simp at h⟩
 obtain ⟨m0,k0⟩:=a0 (by omega)
 simp only [q0,decide_eq_false hd0,cond_false,Bool.true_and]
 obtain ⟨q1,a1⟩:=F4Z (b:=c0) (hx.2.1) (by omega) (by omega)
 generalize hc1:B6r x.2.2.2.1 c0=c1 at *
 by_cases hd1:c1<0
 ·simp only [q1,decide_eq_true hd1,cond_true,Bool.true_and]
  exact ⟨trivial,fun h=>by simp at h⟩
 obtain ⟨m1,k1⟩:=a1 (by omega)
 simp only [q1,decide_eq_false hd1,cond_false,Bool.true_and]
 obtain ⟨q2,a2⟩:=F2B (b:=c1) (hx.2.2) (by omega) (by omega)
 generalize hc2:B1h x.2.2.2.2 c1=c2 at *
 by_cases hd2:c2<0
 ·rw [decide_eq_true hd2]
  exact ⟨q2,fun h=>by simp at h⟩
 obtain ⟨m2,k2⟩:=a2 (by omega)
 rw [decide_eq_false hd2]
 exact ⟨q2,fun _=>⟨by simp only [cond_false];omega,k0,k1,k2⟩⟩
theorem F3S {l:List X0} {b:Int} (hb:D8W l) (h0:0≤b) (h1:b≤1048576):B2n l b=true∧(0≤B44 l b→B44 l b≤b∧D7R l):=by
 obtain ⟨h2,h3⟩:=hb
 have hdj:(((0:Int),(([]:List O3),((0:Int),(([]:LBBe),([]:List O3))))):X0)=L6:=rfl
 have e1:=A50 (n:=b - (l.length:Int)) (by omega) (by omega)
 simp only [B2n,B44,e1]
 by_cases hd:b - (l.length:Int)<0
 ·rw [decide_eq_true hd];simp
 rw [decide_eq_false hd]
 simp only [cond_false]
 have key:A9n l (b - (l.length:Int)) 0=(0,-1,0)∨∃ c,A9n l (b - (l.length:Int)) 0=(1,0,c)∧0≤c∧c≤b - (l.length:Int)∧∀ x∈l,D7Q x:=by
  refine E6T (fun c i=>(l,c,(i:Int))) l L6 (fun x c=>C2O x.1 x.2.1 x.2.2.1 x.2.2.2.1 x.2.2.2.2 c) D7Q (0,-1,0) (fun c=>(1,0,c)) b (by omega) (by omega) (by omega) (fun i c hi c0 c1=>?_) (fun x hx c c0 c1 h=>(E4f (h3 x hx) c0 (by omega)).2 h) (fun c=>?_)
  ·have q1:=(E4f (h3 _ (J0 hi L6)) c0 (by omega)).1
   have e1:decide ((i:Int)<(l.length:Int))=true:=decide_eq_true (by omega)
   have e2:decide (0≤(i:Int)∧(i:Int)<(l.length:Int))=true:=decide_eq_true (by omega)
   simp only [B6M,hdj,e1,e2,cond_true,Int.toNat_natCast,q1,A6N i (by omega)]
  ·have e1:decide ((l.length:Int)<(l.length:Int))=false:=decide_eq_false (by omega)
   simp only [B6M,e1,cond_false]
 rcases key with h | ⟨c,h,c0,c1,hj⟩
 ·rw [h];exact ⟨rfl,fun h=>by simp at h⟩
 ·rw [h];exact ⟨rfl,fun _=>⟨by show c≤b;omega,by omega,hj⟩⟩
noncomputable abbrev F94:=Int×Int×Int×Lq2×Bool
noncomputable def P3:F94:=(0,0,0,[],false)
theorem E5Y {x:A8V} {b:Int} (hx:F2n x) (h0:0≤b) (h1:b≤1048576):C1n x.1 x.2.1 x.2.2.1 x.2.2.2.1 x.2.2.2.2 b=true∧(0≤C7U x.1 x.2.1 x.2.2.1 x.2.2.2.1 x.2.2.2.2 b→C7U x.1 x.2.1 x.2.2.1 x.2.2.2.1 x.2.2.2.2 b≤b∧E7d x):=by
 obtain ⟨a1,a2⟩:=F2j hx h0 h1
 refine ⟨a1,fun h=>?_⟩
 simp only [C7U] at h ⊢
 by_cases hd:Y5 x.2.2.2.1 b<0
 ·rw [decide_eq_true hd] at h;simp at h
 ·rw [decide_eq_false hd];exact a2 (by omega)
theorem F0H {l:List A8V} {b:Int} (hb:D7d l) (h0:0≤b) (h1:b≤1048576):A97 l b=true∧(0≤A8E l b→A8E l b≤b∧D3B l):=by
 obtain ⟨h2,h3⟩:=hb
 have hdj:(((0:Int),((0:Int),((0:Int),(([]:Lq2),false)))):A8V)=P3:=rfl
 have e1:=A50 (n:=b - (l.length:Int)) (by omega) (by omega)
 simp only [A97,A8E,e1]
 by_cases hd:b - (l.length:Int)<0
 ·rw [decide_eq_true hd];simp
 rw [decide_eq_false hd]
 simp only [cond_false]
 have key:B0M l (b - (l.length:Int)) 0=(0,-1,0)∨∃ c,B0M l (b - (l.length:Int)) 0=(1,0,c)∧0≤c∧c≤b - (l.length:Int)∧∀ x∈l,E7d x:=by
  refine E6T (fun c i=>(l,c,(i:Int))) l P3 (fun x c=>C7U x.1 x.2.1 x.2.2.1 x.2.2.2.1 x.2.2.2.2 c) E7d (0,-1,0) (fun c=>(1,0,c)) b (by omega) (by omega) (by omega) (fun i c hi c0 c1=>?_) (fun x hx c c0 c1 h=>(E5Y (h3 x hx) c0 (by omega)).2 h) (fun c=>?_)
  ·have q1:=(E5Y (h3 _ (J0 hi P3)) c0 (by omega)).1
   have e1:decide ((i:Int)<(l.length:Int))=true:=decide_eq_true (by omega)
   have e2:decide (0≤(i:Int)∧(i:Int)<(l.length:Int))=true:=decide_eq_true (by omega)
   simp only [B8s,hdj,e1,e2,cond_true,Int.toNat_natCast,q1,A6N i (by omega)]
  ·have e1:decide ((l.length:Int)<(l.length:Int))=false:=decide_eq_false (by omega)
   simp only [B8s,e1,cond_false]
 rcases key with h | ⟨c,h,c0,c1,hj⟩
 ·rw [h];exact ⟨rfl,fun h=>by simp at h⟩
 ·rw [h];exact ⟨rfl,fun _=>⟨by show c≤b;omega,by omega,hj⟩⟩
noncomputable def N8:T0:=((0:Int),([]:Lq2))
theorem E4e {x:T0} {b:Int} (hx:E8O x) (h0:0≤b) (h1:b≤1048576):B7I x.1 x.2 b=true∧(0≤C2N x.1 x.2 b→C2N x.1 x.2 b≤b∧E1X x):=by
 obtain ⟨a1,a2⟩:=F2j hx h0 h1
 refine ⟨a1,fun h=>?_⟩
 simp only [C2N] at h ⊢
 by_cases hd:Y5 x.2 b<0
 ·rw [decide_eq_true hd] at h;simp at h
 ·rw [decide_eq_false hd];exact a2 (by omega)
theorem F3R {l:List T0} {b:Int} (hb:D8V l) (h0:0≤b) (h1:b≤1048576):B2m l b=true∧(0≤B2L l b→B2L l b≤b∧D1B l):=by
 obtain ⟨h2,h3⟩:=hb
 have hdj:(((0:Int),([]:Lq2)):T0)=N8:=rfl
 have e1:=A50 (n:=b - (l.length:Int)) (by omega) (by omega)
 simp only [B2m,B2L,e1]
 by_cases hd:b - (l.length:Int)<0
 ·rw [decide_eq_true hd];simp
 rw [decide_eq_false hd]
 simp only [cond_false]
 have key:A9m l (b - (l.length:Int)) 0=(0,-1,0)∨∃ c,A9m l (b - (l.length:Int)) 0=(1,0,c)∧0≤c∧c≤b - (l.length:Int)∧∀ x∈l,E1X x:=by
  refine E6T (fun c i=>(l,c,(i:Int))) l N8 (fun x c=>C2N x.1 x.2 c) E1X (0,-1,0) (fun c=>(1,0,c)) b (by omega) (by omega) (by omega) (fun i c hi c0 c1=>?_) (fun x hx c c0 c1 h=>(E4e (h3 x hx) c0 (by omega)).2 h) (fun c=>?_)
  ·have q1:=(E4e (h3 _ (J0 hi N8)) c0 (by omega)).1
   have e1:decide ((i:Int)<(l.length:Int))=true:=decide_eq_true (by omega)
   have e2:decide (0≤(i:Int)∧(i:Int)<(l.length:Int))=true:=decide_eq_true (by omega)
   simp only [B6L,hdj,e1,e2,cond_true,Int.toNat_natCast,q1,A6N i (by omega)]
  ·have e1:decide ((l.length:Int)<(l.length:Int))=false:=decide_eq_false (by omega)
   simp only [B6L,e1,cond_false]
 rcases key with h | ⟨c,h,c0,c1,hj⟩
 ·rw [h];exact ⟨rfl,fun h=>by simp at h⟩
 ·rw [h];exact ⟨rfl,fun _=>⟨by show c≤b;omega,by omega,hj⟩⟩
theorem E8i {a3:List A9N} {a4:LIbe} {a6:List X0} {a7 a8:List A8V} {a9:List T0} (hb:E2k a3 a4 a6 a7 a8 a9) (a0 a1 a2 a5:Int):B4B a0 a1 a2 a3 a4 a5 a6 a7 a8 a9 1048576=true∧(0≤C2P a0 a1 a2 a3 a4 a5 a6 a7 a8 a9 1048576→E7e a3 a4 a6 a7 a8 a9):=by
 obtain ⟨b1,b2,b3,b4,b5,b6⟩:=hb
 obtain ⟨q0,x0⟩:=F4Y b1 b2 a0 a1 a2 a5
 simp only [B4B,C2P]
 generalize B3R a0 a1 a2 a3 a4 a5 1048576=c0 at *
 by_cases d0:c0<0
 ·simp only [q0,decide_eq_true d0,cond_true,Bool.true_and]
  exact ⟨trivial,fun h=>by simp at h⟩
 obtain ⟨m0,k0⟩:=x0 (by omega)
 simp only [q0,decide_eq_false d0,cond_false,Bool.true_and]
 obtain ⟨q1,x1⟩:=F3S (b:=c0) b3 (by omega) (by omega)
 generalize B44 a6 c0=c1 at *
 by_cases d1:c1<0
 ·simp only [q1,decide_eq_true d1,cond_true,Bool.true_and]
  exact ⟨trivial,fun h=>by simp at h⟩
 obtain ⟨m1,k1⟩:=x1 (by omega)
 simp only [q1,decide_eq_false d1,cond_false,Bool.true_and]
 obtain ⟨q2,x2⟩:=F0H (b:=c1) b4 (by omega) (by omega)
 generalize A8E a7 c1=c2 at *
 by_cases d2:c2<0
 ·simp only [q2,decide_eq_true d2,cond_true,Bool.true_and]
  exact ⟨trivial,fun h=>by simp at h⟩
 obtain ⟨m2,k2⟩:=x2 (by omega)
 simp only [q2,decide_eq_false d2,cond_false,Bool.true_and]
 obtain ⟨q3,x3⟩:=F0H (b:=c2) b5 (by omega) (by omega)
 generalize A8E a8 c2=c3 at *
 by_cases d3:c3<0
 ·simp only [q3,decide_eq_true d3,cond_true,Bool.true_and]
  exact ⟨trivial,fun h=>by simp at h⟩
 obtain ⟨m3,k3⟩:=x3 (by omega)
 simp only [q3,decide_eq_false d3,cond_false,Bool.true_and]
 obtain ⟨q4,x4⟩:=F3R (b:=c3) b6 (by omega) (by omega)
 generalize B2L a9 c3=c4 at *
 by_cases d4:c4<0
 ·rw [decide_eq_true d4]
  exact ⟨q4,fun h=>by simp at h⟩
 obtain ⟨m4,k4⟩:=x4 (by omega)
 exact ⟨q4,fun _=>⟨k0.1,k0.2.1,k0.2.2,k1,k2,k3,k4⟩⟩
noncomputable def A8i {A:Type} (f:Nat→Option A) (last:A):Nat→Nat→A
 | 0,_=>last
 | k+1,i=>match f i with
  | some a=>a
  | none=>A8i f last k (i+1)
theorem A7v {V A:Type} {ss:V→V ⊕ A} {fa:A} (pk:Nat→V) (n:Nat) (f:Nat→Option A) (last:A) (hn:n<4611686018427387904)
  (h:∀ i,i<n→ss (pk i)=(match f i with | some a=>.inr a | none=>.inl (pk (i+1)))) (hl:ss (pk n)=.inr last):itX ss fa (pk 0)=A8i f last n 0:=by
 rw [A3Z]
 have key:∀ k N i,i+k=n→k<N→itN ss fa N (pk i)=A8i f last k i:=by
  intro k
  induction k with
  | zero =>
   intro N i hi hN
   obtain ⟨M,rfl⟩:∃ M,N=M+1:=⟨N - 1,by omega⟩
   obtain rfl:i=n:=by omega
   rw [A56,hl];rfl
  | succ k ih =>
   intro N i hi hN
   obtain ⟨M,rfl⟩:∃ M,N=M+1:=⟨N - 1,by omega⟩
   rw [A56,h i (by omega)]
   simp only [A8i]
   cases hf:f i with
   | some a=>rfl
   | none=>exact ih M (i+1) (by omega) (by omega)
 exact key n _ 0 (by omega) hn
theorem F3p (k:Int) (s v:ByteArray):E5R k s v k s v=true:=by simp [E5R]
theorem E2v (l:Lq2):B7y l l=true:=by
 have e:A4a (B4o l l) (l.length - (0:Int).toNat) (0:Int).toNat=true:=D3f _ _ (fun j _ _=>by simp [B4o,F3p])
 simp only [B7y,e,cond_true]
 simp
theorem E9n (l:List Int):D7F l l=true:=by
 have e:A4a (B1V l l) (l.length - (0:Int).toNat) (0:Int).toNat=true:=D3f _ _ fun j _ _=>by simp [B1V]
 simp only [D7F,e,cond_true]
 simp
theorem A7M {A:Type} (f:Nat→Option A) (last:A):∀ k i,(∃ j a,i≤j∧j<i+k∧f j=some a∧(∀ m,i≤m→m<j→f m=none)∧A8i f last k i=a)∨((∀ j,i≤j→j<i+k→f j=none)∧A8i f last k i=last):=by
 intro k
 induction k with
 | zero=>intro i;exact .inr ⟨fun j h1 h2=>by omega,rfl⟩
 | succ k ih =>
  intro i
  simp only [A8i]
  cases hf:f i with
  | some a=>exact .inl ⟨i,a,Nat.le_refl _,by omega,hf,fun m h1 h2=>by omega,rfl⟩
  | none =>
   rcases ih (i+1) with ⟨j,a,h1,h2,h3,h4,h5⟩ | ⟨h1,h2⟩
   ·refine .inl ⟨j,a,by omega,by omega,h3,fun m m1 m2=>?_,h5⟩
    by_cases hm:m=i
    ·rw [hm];exact hf
    ·exact h4 m (by omega) m2
   ·refine .inr ⟨fun j j1 j2=>?_,h2⟩
    by_cases hj:j=i
    ·rw [hj];exact hf
    ·exact h1 j (by omega) (by omega)
theorem E9o {l:List A9N} (hl:l.length≤1048576) (h:∀ j∈l,C4i j):B7E l l=true∧D3x l l=true:=by
 have key:B6e l l 0=A8i (fun _=>none) (1,false) l.length 0:=by
  refine A7v (fun i=>(l,l,(i:Int))) l.length _ _ (by omega) (fun i hi=>?_) ?_
  ·have e1:decide ((i:Int)<(l.length:Int))=true:=decide_eq_true (by omega)
   have e2:decide (0≤(i:Int)∧(i:Int)<(l.length:Int))=true:=decide_eq_true (by omega)
   obtain ⟨o1,o2⟩:=h _ (J0 hi A0e)
   have hdj:((0:Int),(([]:Lq2),((0:Int),([]:List Int))))=A0e:=rfl
   have q1:okL (l.getD i A0e).2.2.2=true:=decide_eq_true o2
   have e0:∀ x:Int,(x != x)=false:=fun x=>by simp
   simp only [C02,hdj,e1,e2,cond_true,Int.toNat_natCast,C6J,E6V,B2j,C1m,e0,E2v,E9n,D3A o1,q1,cond_false,Bool.not_true,Bool.true_and,A6N i (by omega)]
  ·have e1:decide ((l.length:Int)<(l.length:Int))=false:=decide_eq_false (by omega)
   simp only [C02,e1,cond_false]
 have k2:A8i (fun _=>none) ((1,false):B1o) l.length 0=(1,false):=by
  rcases A7M (fun _=>none) ((1,false):B1o) l.length 0 with ⟨j,a,_,_,h3,_⟩ | ⟨_,h⟩
  ·cases h3
  ·exact h
 rw [k2] at key
 have e0:∀ x:Int,(x != x)=false:=fun x=>by simp
 simp only [B7E,D3x,key,e0,cond_false]
 exact ⟨rfl,rfl⟩
theorem E4h (l:Lq2):C2Q l=l:=by
 have e:=A6U (fun o:Int×ByteArray×ByteArray=>(E0o o.1 o.2.1 o.2.2)) dOp l l.length 0 (List.replicate l.length dOp) (by simp) (by simp)
 simp only [List.take_zero,List.nil_append,List.drop_zero] at e
 have e2:l.map (fun o:Int×ByteArray×ByteArray=>(E0o o.1 o.2.1 o.2.2))=l:=by
  rw [show (fun o:Int×ByteArray×ByteArray=>(E0o o.1 o.2.1 o.2.2))=id from funext fun _=>rfl,List.map_id]
 rw [e2] at e
 exact e
theorem F0I (l:List Int):E1V l=l:=by
 have e:=A6U (fun o:Int=>o) (0:Int) l l.length 0 (List.replicate l.length 0) (by simp) (by simp)
 simp only [List.take_zero,List.nil_append,List.drop_zero] at e
 have e2:l.map (fun o:Int=>o)=l:=by
  rw [show (fun o:Int=>o)=id from funext fun _=>rfl,List.map_id]
 rw [e2] at e
 exact e
theorem F4A {α:Type} {l:List α} {i:Nat} (hi:i<l.length) (x d:α):(l.set i x).getD i d=x:=by
 simp [List.getD_eq_getElem?_getD,hi]
theorem F0J {l:List A9N} (hl:l.length≤1048576) (h:∀ j∈l,C4i j):B7K l=true∧D7J l=l:=by
 have key:B6g l 0 (List.replicate l.length A0e)=(0,l):=by
  refine A58 (fun v:B8Y=>∃ (i:Nat) (r:List A9N),v=(l,(i:Int),r)∧i≤l.length∧r.length=l.length∧r.take i=l.take i) (fun a:B4L=>a=(0,l)) (fun v=>l.length - v.2.1.toNat) ?_ ⟨0,_,rfl,Nat.zero_le _,by simp,by simp⟩ (by simp;omega)
  rintro v ⟨i,r,rfl,hi,hr,ht⟩
  by_cases hlt:i<l.length
  ·have e1:decide ((i:Int)<(l.length:Int))=true:=decide_eq_true (by omega)
   have e2:decide (0≤(i:Int)∧(i:Int)<(l.length:Int))=true:=decide_eq_true (by omega)
   have e3:decide (0≤(i:Int)∧(i:Int)<(r.length:Int))=true:=decide_eq_true (by omega)
   obtain ⟨o1,o2⟩:=h _ (J0 hlt A0e)
   have hdj:((0:Int),(([]:Lq2),((0:Int),([]:List Int))))=A0e:=rfl
   have q1:C3c (l.getD i A0e).1 (l.getD i A0e).2.1 (l.getD i A0e).2.2.1 (l.getD i A0e).2.2.2=true:=by
    simp only [C3c,B2o,C1o,D3A o1,Bool.true_and]
    exact decide_eq_true o2
   simp only [C06,hdj,e1,e2,e3,cond_true,Int.toNat_natCast,q1,A6N i (by omega),E6W,E4h,F0I]
   refine .inl ⟨_,rfl,⟨i+1,_,rfl,by omega,by rw [List.length_set];exact hr,?_⟩,by simp only [Int.toNat_natCast];omega⟩
   rw [L9 (by rw [List.length_set];omega) A0e,L9 hlt A0e,F4A (by omega),List.take_set_of_le (Nat.le_refl _),ht]
  ·obtain rfl:i=l.length:=by omega
   have e1:decide ((l.length:Int)<(l.length:Int))=false:=decide_eq_false (by omega)
   simp only [C06,e1,cond_false]
   rw [← hr,List.take_length,hr,List.take_length] at ht
   exact .inr ⟨_,rfl,by rw [ht]⟩
 have hdj:((0:Int),(([]:Lq2),((0:Int),([]:List Int))))=A0e:=rfl
 simp only [B7K,D7J,hdj,Int.toNat_natCast,key]
 refine ⟨?_,trivial⟩
 rw [Bool.and_eq_true]
 exact ⟨decide_eq_true ⟨by omega,trivial,by simp only [MAXB];omega,by omega⟩,rfl⟩
theorem E4g (l:LIbe):C7V l=l:=by
 have e:=A6U (fun o:Int×Bool=>(B7A o.1 o.2)) ((0:Int),false) l l.length 0 (List.replicate l.length ((0:Int),false)) (by simp) (by simp)
 simp only [List.take_zero,List.nil_append,List.drop_zero] at e
 have e2:l.map (fun o:Int×Bool=>(B7A o.1 o.2))=l:=by
  rw [show (fun o:Int×Bool=>(B7A o.1 o.2))=id from funext fun _=>rfl,List.map_id]
 rw [e2] at e
 exact e
theorem E2u (l:LIbe):C2M l l=true:=by
 have e:A4a (A76 l l) (l.length - (0:Int).toNat) (0:Int).toNat=true:=D3f _ _ fun j _ _=>by simp [A76,C6r]
 simp only [C2M,e,cond_true]
 simp
theorem E6y {a3:List A9N} {a4:LIbe} (h3:a3.length≤1048576) (hj:∀ j∈a3,C4i j) (h4:a4.length≤1048576) (a0 a1 a2 a5:Int):B4v a0 a1 a2 a3 a4 a5 a0 a1 a2 a3 a4 a5=true∧C6s a0 a1 a2 a3 a4 a5 a0 a1 a2 a3 a4 a5=true∧B4C a0 a1 a2 a3 a4 a5=true∧D1y a0 a1 a2 a3 a4 a5=(a0,a1,a2,a3,a4,a5):=by
 obtain ⟨e1,e2⟩:=E9o h3 hj
 obtain ⟨t1,t2⟩:=F0J h3 hj
 have e0:∀ x:Int,(x != x)=false:=fun x=>by simp
 have e3:okL a4=true:=decide_eq_true h4
 simp only [B4v,C6s,B4C,D1y,e0,e1,e2,t1,t2,E4g,E2u,B2P,B2S,e3,cond_false,Bool.not_true,Bool.and_self]
 exact ⟨trivial,trivial,trivial,trivial⟩
theorem F1E {l:Lq2} (h:E5U l):B2j l l=true∧B7y l l=true:=⟨D3A h,E2v l⟩
theorem F2q {l:List O3} (h:D6c l):B2Q l l=true∧C4e l l=true:=by
 obtain ⟨hl,h3⟩:=h
 have hdj:(((0:Int),((0:Int),([]:Lq2))):O3)=I5:=rfl
 have e0:∀ x:Int,(x != x)=false:=fun x=>by simp
 have e9:∀ x:Bool,(x==x)=true:=fun x=>by simp
 have key:B6f l l 0=A8i (fun _=>none) (1,false) l.length 0:=by
  refine A7v (fun i=>(l,l,(i:Int))) l.length _ _ (by omega) (fun i hi=>?_) ?_
  ·have e1:decide ((i:Int)<(l.length:Int))=true:=decide_eq_true (by omega)
   have e2:decide (0≤(i:Int)∧(i:Int)<(l.length:Int))=true:=decide_eq_true (by omega)
   have ho:=h3 _ (J0 hi I5)
   have o2:=ho
   obtain ⟨qE2,toE2⟩:=F1E o2
   have q1:C3b (l.getD i I5).1 (l.getD i I5).2.1 (l.getD i I5).2.2 (l.getD i I5).1 (l.getD i I5).2.1 (l.getD i I5).2.2=true:=by
    first | exact qE2 | (simp only [C3b,e0,cond_false];exact qE2)
   have q2:E2Z (l.getD i I5).1 (l.getD i I5).2.1 (l.getD i I5).2.2 (l.getD i I5).1 (l.getD i I5).2.1 (l.getD i I5).2.2=true:=by
    simp only [E2Z,e0,e9,toE2,cond_false,Bool.not_true]
   simp only [C03,hdj,e1,e2,cond_true,cond_false,Bool.not_true,Int.toNat_natCast,q1,q2,A6N i (by omega)]
  ·have e1:decide ((l.length:Int)<(l.length:Int))=false:=decide_eq_false (by omega)
   simp only [C03,e1,cond_false]
 have k2:A8i (fun _=>none) ((1,false):B1p) l.length 0=(1,false):=by
  rcases A7M (fun _=>none) ((1,false):B1p) l.length 0 with ⟨j,a,_,_,h3,_⟩ | ⟨_,h⟩
  ·cases h3
  ·exact h
 rw [k2] at key
 simp only [B2Q,C4e,key,e0,cond_false]
 exact ⟨rfl,rfl⟩
theorem F4z {l:List A9b} (h:E1Y l):B7F l l=true∧C6u l l=true:=by
 refine ⟨decide_eq_true h.1,?_⟩
 have e:A4a (A91 l l) (l.length - (0:Int).toNat) (0:Int).toNat=true:=D3f _ _ (fun j _ _=>by simp [A91,D7G])
 simp only [C6u,e,cond_true]
 simp
theorem F3r {l:List X0} (h:D7R l):B2l l l=true∧C1k l l=true:=by
 obtain ⟨hl,h3⟩:=h
 have hdj:(((0:Int),(([]:List O3),((0:Int),(([]:LBBe),([]:List O3))))):X0)=L6:=rfl
 have e0:∀ x:Int,(x != x)=false:=fun x=>by simp
 have e9:∀ x:Bool,(x==x)=true:=fun x=>by simp
 have key:B14 l l 0=A8i (fun _=>none) (1,false) l.length 0:=by
  refine A7v (fun i=>(l,l,(i:Int))) l.length _ _ (by omega) (fun i hi=>?_) ?_
  ·have e1:decide ((i:Int)<(l.length:Int))=true:=decide_eq_true (by omega)
   have e2:decide (0≤(i:Int)∧(i:Int)<(l.length:Int))=true:=decide_eq_true (by omega)
   have ho:=h3 _ (J0 hi L6)
   obtain ⟨o1,o3,o4⟩:=ho
   obtain ⟨qE1,toE1⟩:=F2q o1
   obtain ⟨qE3,toE3⟩:=F4z o3
   obtain ⟨qE4,toE4⟩:=F2q o4
   have q1:B4x (l.getD i L6).1 (l.getD i L6).2.1 (l.getD i L6).2.2.1 (l.getD i L6).2.2.2.1 (l.getD i L6).2.2.2.2 (l.getD i L6).1 (l.getD i L6).2.1 (l.getD i L6).2.2.1 (l.getD i L6).2.2.2.1 (l.getD i L6).2.2.2.2=true:=by
    simp only [B4x,e0,qE1,toE1,qE3,toE3,qE4,toE4,cond_false,Bool.not_true,Bool.and_self]
   have q2:D1x (l.getD i L6).1 (l.getD i L6).2.1 (l.getD i L6).2.2.1 (l.getD i L6).2.2.2.1 (l.getD i L6).2.2.2.2 (l.getD i L6).1 (l.getD i L6).2.1 (l.getD i L6).2.2.1 (l.getD i L6).2.2.2.1 (l.getD i L6).2.2.2.2=true:=by
    simp only [D1x,e0,e9,toE1,toE3,toE4,cond_false,Bool.not_true]
   simp only [B6K,hdj,e1,e2,cond_true,cond_false,Bool.not_true,Int.toNat_natCast,q1,q2,A6N i (by omega)]
  ·have e1:decide ((l.length:Int)<(l.length:Int))=false:=decide_eq_false (by omega)
   simp only [B6K,e1,cond_false]
 have k2:A8i (fun _=>none) ((1,false):A8K) l.length 0=(1,false):=by
  rcases A7M (fun _=>none) ((1,false):A8K) l.length 0 with ⟨j,a,_,_,h3,_⟩ | ⟨_,h⟩
  ·cases h3
  ·exact h
 rw [k2] at key
 simp only [B2l,C1k,key,e0,cond_false]
 exact ⟨rfl,rfl⟩
theorem E1U {V A α β:Type} {ss:V→V ⊕ A} {fa:A} (pk:Nat→List β→V) (l:List α) (d:α) (e:β) (f:α→β) (last:List β→A) (hn:l.length<4611686018427387904)
  (h:∀ i r,i<l.length→r.length=l.length→ss (pk i r)=.inl (pk (i+1) (r.set i (f (l.getD i d))))) (hl:∀ r,r.length=l.length→ss (pk l.length r)=.inr (last r)):itX ss fa (pk 0 (List.replicate l.length e))=last (l.map f):=by
 rw [A3Z]
 have key:∀ k N i r,i+k=l.length→k<N→r.length=l.length→r.take i=(l.map f).take i→itN ss fa N (pk i r)=last (l.map f):=by
  intro k
  induction k with
  | zero =>
   intro N i r hi hN hr ht
   obtain ⟨M,rfl⟩:∃ M,N=M+1:=⟨N - 1,by omega⟩
   obtain rfl:i=l.length:=by omega
   rw [A56,hl r hr]
   have e1:r.take l.length=r:=List.take_of_length_le (by omega)
   have e2:(l.map f).take l.length=l.map f:=List.take_of_length_le (by simp)
   rw [e1,e2] at ht
   rw [ht]
  | succ k ih =>
   intro N i r hi hN hr ht
   obtain ⟨M,rfl⟩:∃ M,N=M+1:=⟨N - 1,by omega⟩
   rw [A56,h i r (by omega) hr]
   refine ih M (i+1) _ (by omega) (by omega) (by rw [List.length_set];exact hr) ?_
   have hlt:i<l.length:=by omega
   rw [List.take_add_one,List.take_add_one,List.take_set_of_le (Nat.le_refl _),ht]
   congr 1
   simp [List.getElem?_set,hr,hlt,List.getD_eq_getElem?_getD]
 exact key l.length _ 0 _ (by omega) hn (by simp) (by simp)
theorem F2k {l:Lq2} (h:E5U l):B2o l=true∧C2Q l=l:=⟨D3A h,E4h l⟩
theorem F2C {l:List O3} (h:D6c l):B2T l=true∧C7X l=l:=by
 obtain ⟨hl,h3⟩:=h
 have hdj:(((0:Int),((0:Int),([]:Lq2))):O3)=I5:=rfl
 have key:B6h l 0 (List.replicate l.length I5)=(0,l.map fun x=>x):=by
  refine E1U (fun i r=>(l,(i:Int),r)) l I5 I5 (fun x=>x) (fun r=>(0,r)) (by omega) (fun i r hi hr=>?_) (fun r hr=>?_)
  ·have e1:decide ((i:Int)<(l.length:Int))=true:=decide_eq_true (by omega)
   have e2:decide (0≤(i:Int)∧(i:Int)<(l.length:Int))=true:=decide_eq_true (by omega)
   have e3:decide (0≤(i:Int)∧(i:Int)<(r.length:Int))=true:=decide_eq_true (by omega)
   have ho:=h3 _ (J0 hi I5)
   have o2:=ho
   obtain ⟨qE2,toE2⟩:=F2k o2
   have q1:C6M (l.getD i I5).1 (l.getD i I5).2.1 (l.getD i I5).2.2=true:=by
    exact qE2
   simp only [C07,hdj,e1,e2,e3,cond_true,Int.toNat_natCast,q1,A6N i (by omega),E6X,toE2]
  ·have e1:decide ((l.length:Int)<(l.length:Int))=false:=decide_eq_false (by omega)
   simp only [C07,e1,cond_false]
 rw [List.map_id'] at key
 simp only [B2T,C7X,hdj,Int.toNat_natCast,key]
 refine ⟨?_,trivial⟩
 rw [Bool.and_eq_true]
 exact ⟨decide_eq_true ⟨by omega,trivial,by simp only [MAXB];omega,by omega⟩,rfl⟩
theorem F40 {l:List A9b} (h:E1Y l):B7M l=true∧D7L l=l:=by
 refine ⟨decide_eq_true h.1,?_⟩
 have e:=A6U (fun o:A9b=>(C7W o.1 o.2)) E9d l l.length 0 (List.replicate l.length E9d) (by simp) (by simp)
 simp only [List.take_zero,List.nil_append,List.drop_zero] at e
 have e2:l.map (fun o:A9b=>(C7W o.1 o.2))=l:=by
  rw [show (fun o:A9b=>(C7W o.1 o.2))=id from funext fun _=>rfl,List.map_id]
 rw [e2] at e
 exact e
theorem F3U {l:List X0} (h:D7R l):B2q l=true∧C6w l=l:=by
 obtain ⟨hl,h3⟩:=h
 have hdj:(((0:Int),(([]:List O3),((0:Int),(([]:LBBe),([]:List O3))))):X0)=L6:=rfl
 have key:B16 l 0 (List.replicate l.length L6)=(0,l.map fun x=>x):=by
  refine E1U (fun i r=>(l,(i:Int),r)) l L6 L6 (fun x=>x) (fun r=>(0,r)) (by omega) (fun i r hi hr=>?_) (fun r hr=>?_)
  ·have e1:decide ((i:Int)<(l.length:Int))=true:=decide_eq_true (by omega)
   have e2:decide (0≤(i:Int)∧(i:Int)<(l.length:Int))=true:=decide_eq_true (by omega)
   have e3:decide (0≤(i:Int)∧(i:Int)<(r.length:Int))=true:=decide_eq_true (by omega)
   have ho:=h3 _ (J0 hi L6)
   obtain ⟨o1,o3,o4⟩:=ho
   obtain ⟨qE1,toE1⟩:=F2C o1
   obtain ⟨qE3,toE3⟩:=F40 o3
   obtain ⟨qE4,toE4⟩:=F2C o4
   have q1:B4D (l.getD i L6).1 (l.getD i L6).2.1 (l.getD i L6).2.2.1 (l.getD i L6).2.2.2.1 (l.getD i L6).2.2.2.2=true:=by
    simp only [B4D,qE1,qE3,qE4,Bool.and_self]
   simp only [B6O,hdj,e1,e2,e3,cond_true,Int.toNat_natCast,q1,A6N i (by omega),D7M,toE1,toE3,toE4]
  ·have e1:decide ((l.length:Int)<(l.length:Int))=false:=decide_eq_false (by omega)
   simp only [B6O,e1,cond_false]
 rw [List.map_id'] at key
 simp only [B2q,C6w,hdj,Int.toNat_natCast,key]
 refine ⟨?_,trivial⟩
 rw [Bool.and_eq_true]
 exact ⟨decide_eq_true ⟨by omega,trivial,by simp only [MAXB];omega,by omega⟩,rfl⟩
theorem E9p {l:List A8V} (h:D3B l):A96 l l=true∧B6q l l=true:=by
 obtain ⟨hl,h3⟩:=h
 have hdj:(((0:Int),((0:Int),((0:Int),(([]:Lq2),false)))):A8V)=P3:=rfl
 have e0:∀ x:Int,(x != x)=false:=fun x=>by simp
 have e9:∀ x:Bool,(x==x)=true:=fun x=>by simp
 have key:B3L l l 0=A8i (fun _=>none) (1,false) l.length 0:=by
  refine A7v (fun i=>(l,l,(i:Int))) l.length _ _ (by omega) (fun i hi=>?_) ?_
  ·have e1:decide ((i:Int)<(l.length:Int))=true:=decide_eq_true (by omega)
   have e2:decide (0≤(i:Int)∧(i:Int)<(l.length:Int))=true:=decide_eq_true (by omega)
   have ho:=h3 _ (J0 hi P3)
   have o3:=ho
   obtain ⟨qE3,toE3⟩:=F1E o3
   have q1:B7G (l.getD i P3).1 (l.getD i P3).2.1 (l.getD i P3).2.2.1 (l.getD i P3).2.2.2.1 (l.getD i P3).2.2.2.2 (l.getD i P3).1 (l.getD i P3).2.1 (l.getD i P3).2.2.1 (l.getD i P3).2.2.2.1 (l.getD i P3).2.2.2.2=true:=by
    first | exact qE3 | (simp only [B7G,e0,cond_false];exact qE3)
   have q2:D7H (l.getD i P3).1 (l.getD i P3).2.1 (l.getD i P3).2.2.1 (l.getD i P3).2.2.2.1 (l.getD i P3).2.2.2.2 (l.getD i P3).1 (l.getD i P3).2.1 (l.getD i P3).2.2.1 (l.getD i P3).2.2.2.1 (l.getD i P3).2.2.2.2=true:=by
    simp only [D7H,e0,e9,toE3,cond_false,Bool.not_true]
   simp only [B8r,hdj,e1,e2,cond_true,cond_false,Bool.not_true,Int.toNat_natCast,q1,q2,A6N i (by omega)]
  ·have e1:decide ((l.length:Int)<(l.length:Int))=false:=decide_eq_false (by omega)
   simp only [B8r,e1,cond_false]
 have k2:A8i (fun _=>none) ((1,false):A9M) l.length 0=(1,false):=by
  rcases A7M (fun _=>none) ((1,false):A9M) l.length 0 with ⟨j,a,_,_,h3,_⟩ | ⟨_,h⟩
  ·cases h3
  ·exact h
 rw [k2] at key
 simp only [A96,B6q,key,e0,cond_false]
 exact ⟨rfl,rfl⟩
theorem F0L {l:List A8V} (h:D3B l):A98 l=true∧C2R l=l:=by
 obtain ⟨hl,h3⟩:=h
 have hdj:(((0:Int),((0:Int),((0:Int),(([]:Lq2),false)))):A8V)=P3:=rfl
 have key:B3M l 0 (List.replicate l.length P3)=(0,l.map fun x=>x):=by
  refine E1U (fun i r=>(l,(i:Int),r)) l P3 P3 (fun x=>x) (fun r=>(0,r)) (by omega) (fun i r hi hr=>?_) (fun r hr=>?_)
  ·have e1:decide ((i:Int)<(l.length:Int))=true:=decide_eq_true (by omega)
   have e2:decide (0≤(i:Int)∧(i:Int)<(l.length:Int))=true:=decide_eq_true (by omega)
   have e3:decide (0≤(i:Int)∧(i:Int)<(r.length:Int))=true:=decide_eq_true (by omega)
   have ho:=h3 _ (J0 hi P3)
   have o3:=ho
   obtain ⟨qE3,toE3⟩:=F2k o3
   have q1:C1p (l.getD i P3).1 (l.getD i P3).2.1 (l.getD i P3).2.2.1 (l.getD i P3).2.2.2.1 (l.getD i P3).2.2.2.2=true:=by
    exact qE3
   simp only [B8t,hdj,e1,e2,e3,cond_true,Int.toNat_natCast,q1,A6N i (by omega),E1W,toE3]
  ·have e1:decide ((l.length:Int)<(l.length:Int))=false:=decide_eq_false (by omega)
   simp only [B8t,e1,cond_false]
 rw [List.map_id'] at key
 simp only [A98,C2R,hdj,Int.toNat_natCast,key]
 refine ⟨?_,trivial⟩
 rw [Bool.and_eq_true]
 exact ⟨decide_eq_true ⟨by omega,trivial,by simp only [MAXB];omega,by omega⟩,rfl⟩
theorem F3q {l:List T0} (h:D1B l):B2k l l=true∧C6t l l=true:=by
 obtain ⟨hl,h3⟩:=h
 have hdj:(((0:Int),([]:Lq2)):T0)=N8:=rfl
 have e0:∀ x:Int,(x != x)=false:=fun x=>by simp
 have e9:∀ x:Bool,(x==x)=true:=fun x=>by simp
 have key:B13 l l 0=A8i (fun _=>none) (1,false) l.length 0:=by
  refine A7v (fun i=>(l,l,(i:Int))) l.length _ _ (by omega) (fun i hi=>?_) ?_
  ·have e1:decide ((i:Int)<(l.length:Int))=true:=decide_eq_true (by omega)
   have e2:decide (0≤(i:Int)∧(i:Int)<(l.length:Int))=true:=decide_eq_true (by omega)
   have ho:=h3 _ (J0 hi N8)
   have o1:=ho
   obtain ⟨qE1,toE1⟩:=F1E o1
   have q1:B4w (l.getD i N8).1 (l.getD i N8).2 (l.getD i N8).1 (l.getD i N8).2=true:=by
    first | exact qE1 | (simp only [B4w,e0,cond_false];exact qE1)
   have q2:D1w (l.getD i N8).1 (l.getD i N8).2 (l.getD i N8).1 (l.getD i N8).2=true:=by
    simp only [D1w,e0,e9,toE1,cond_false,Bool.not_true]
   simp only [B6J,hdj,e1,e2,cond_true,cond_false,Bool.not_true,Int.toNat_natCast,q1,q2,A6N i (by omega)]
  ·have e1:decide ((l.length:Int)<(l.length:Int))=false:=decide_eq_false (by omega)
   simp only [B6J,e1,cond_false]
 have k2:A8i (fun _=>none) ((1,false):A8J) l.length 0=(1,false):=by
  rcases A7M (fun _=>none) ((1,false):A8J) l.length 0 with ⟨j,a,_,_,h3,_⟩ | ⟨_,h⟩
  ·cases h3
  ·exact h
 rw [k2] at key
 simp only [B2k,C6t,key,e0,cond_false]
 exact ⟨rfl,rfl⟩
theorem F3T {l:List T0} (h:D1B l):B2p l=true∧C6v l=l:=by
 obtain ⟨hl,h3⟩:=h
 have hdj:(((0:Int),([]:Lq2)):T0)=N8:=rfl
 have key:B15 l 0 (List.replicate l.length N8)=(0,l.map fun x=>x):=by
  refine E1U (fun i r=>(l,(i:Int),r)) l N8 N8 (fun x=>x) (fun r=>(0,r)) (by omega) (fun i r hi hr=>?_) (fun r hr=>?_)
  ·have e1:decide ((i:Int)<(l.length:Int))=true:=decide_eq_true (by omega)
   have e2:decide (0≤(i:Int)∧(i:Int)<(l.length:Int))=true:=decide_eq_true (by omega)
   have e3:decide (0≤(i:Int)∧(i:Int)<(r.length:Int))=true:=decide_eq_true (by omega)
   have ho:=h3 _ (J0 hi N8)
   have o1:=ho
   obtain ⟨qE1,toE1⟩:=F2k o1
   have q1:B7L (l.getD i N8).1 (l.getD i N8).2=true:=by
    exact qE1
   simp only [B6N,hdj,e1,e2,e3,cond_true,Int.toNat_natCast,q1,A6N i (by omega),D7K,toE1]
  ·have e1:decide ((l.length:Int)<(l.length:Int))=false:=decide_eq_false (by omega)
   simp only [B6N,e1,cond_false]
 rw [List.map_id'] at key
 simp only [B2p,C6v,hdj,Int.toNat_natCast,key]
 refine ⟨?_,trivial⟩
 rw [Bool.and_eq_true]
 exact ⟨decide_eq_true ⟨by omega,trivial,by simp only [MAXB];omega,by omega⟩,rfl⟩
theorem E6z {a3:List A9N} {a4:LIbe} {a6:List X0} {a7 a8:List A8V} {a9:List T0} (h:E7e a3 a4 a6 a7 a8 a9) (a0 a1 a2 a5:Int) :
  B4y a0 a1 a2 a3 a4 a5 a6 a7 a8 a9 a0 a1 a2 a3 a4 a5 a6 a7 a8 a9=true∧D7I a0 a1 a2 a3 a4 a5 a6 a7 a8 a9 a0 a1 a2 a3 a4 a5 a6 a7 a8 a9=true∧B4E a0 a1 a2 a3 a4 a5 a6 a7 a8 a9=true∧B88 a0 a1 a2 a3 a4 a5 a6 a7 a8 a9=(a0,a1,a2,a3,a4,a5,a6,a7,a8,a9):=by
 obtain ⟨h3,hj,h4,h6,h7,h8,h9⟩:=h
 obtain ⟨c1,c2,c3,c4⟩:=E6y h3 hj h4 a0 a1 a2 a5
 obtain ⟨s1,s2⟩:=F3r h6
 obtain ⟨s3,s4⟩:=F3U h6
 obtain ⟨w1,w2⟩:=E9p h7
 obtain ⟨w3,w4⟩:=F0L h7
 obtain ⟨u1,u2⟩:=E9p h8
 obtain ⟨u3,u4⟩:=F0L h8
 obtain ⟨o1,o2⟩:=F3q h9
 obtain ⟨o3,o4⟩:=F3T h9
 simp only [B4y,D7I,B4E,B88,c1,c2,c3,c4,s1,s2,s3,s4,w1,w2,w3,w4,u1,u2,u3,u4,o1,o2,o3,o4,cond_false,Bool.not_true,Bool.and_self]
 exact ⟨trivial,trivial,trivial,trivial⟩
noncomputable def dCh:Int×Bool:=(0,false)
noncomputable def chP (log:LIbe) (tx:Int):Nat×Int:=A8i (fun i=>cond ((log.getD i dCh).1==tx) (some (0,(i:Int))) none) (1,0) log.length 0
noncomputable def D7k (log:LIbe) (tx:Int):Int:=cond ((chP log tx).1==0) (chP log tx).2 (-1)
theorem E5I (log:LIbe) (tx:Int):(∃ j:Nat,j<log.length∧chP log tx=(0,(j:Int)))∨chP log tx=(1,0):=by
 rcases A7M (fun i=>cond ((log.getD i dCh).1==tx) (some ((0:Nat),(i:Int))) none) (1,0) log.length 0 with ⟨j,a,_,h2,h3,_,h5⟩ | ⟨_,h⟩
 ·refine .inl ⟨j,by omega,?_⟩
  rw [chP,h5]
  cases hc:((log.getD j dCh).1==tx) with
  | true=>simp only [hc,cond_true,Option.some.injEq] at h3;exact h3.symm
  | false=>simp only [hc,cond_false] at h3;cases h3
 ·exact .inr h
theorem F6N (log:LIbe) (tx:Int):(cond ((chP log tx).1==0) true ((chP log tx).1==1))=true:=by
 rcases E5I log tx with ⟨j,h1,h2⟩ | h
 ·rw [h2];rfl
 ·rw [h];rfl
theorem E35 (a0 a1 a2:Int) (a3:List A9N) {a4:LIbe} (a5:Int) (hl:a4.length≤1048576) (tx:Int):A0g a0 a1 a2 a3 a4 a5 tx=true∧B0d a0 a1 a2 a3 a4 a5 tx=D7k a4 tx:=by
 have e:B0k tx 0 a0 a1 a2 a3 a4 a5=chP a4 tx:=by
  refine A7v (fun i=>(tx,(i:Int))) a4.length _ _ (by omega) (fun i hi=>?_) ?_
  ·have e1:decide ((i:Int)<(a4.length:Int))=true:=decide_eq_true (by omega)
   have e2:decide (0≤(i:Int)∧(i:Int)<(a4.length:Int))=true:=decide_eq_true (by omega)
   simp only [B39,e1,e2,cond_true,Int.toNat_natCast,A6N i (by omega),dCh]
   cases ((a4.getD i (0,false)).1==tx)<;>rfl
  ·have e1:decide ((a4.length:Int)<(a4.length:Int))=false:=decide_eq_false (by omega)
   simp only [B39,e1,cond_false]
 simp only [A0g,B0d,e]
 exact ⟨F6N a4 tx,rfl⟩
theorem E2T (a0 a1 a2:Int) (a3:List A9N) {a4:LIbe} (a5:Int) (hl:a4.length≤1048576) (tx:Int):O2 tx a0 a1 a2 a3 a4 a5=true∧U2 tx a0 a1 a2 a3 a4 a5=D7k a4 tx:=by
 have e:O6 a4 (a4.length:Int) 0 tx=chP a4 tx:=by
  refine A7v (fun i=>(a4,(a4.length:Int),(i:Int))) a4.length _ _ (by omega) (fun i hi=>?_) ?_
  ·have e1:decide ((i:Int)<(a4.length:Int))=true:=decide_eq_true (by omega)
   have e2:decide (0≤(i:Int)∧(i:Int)<(a4.length:Int))=true:=decide_eq_true (by omega)
   simp only [T4,A7G,B6b,e1,e2,cond_true,Int.toNat_natCast,A6N i (by omega),dCh]
   cases ((a4.getD i (0,false)).1==tx)<;>rfl
  ·have e1:decide ((a4.length:Int)<(a4.length:Int))=false:=decide_eq_false (by omega)
   simp only [T4,e1,cond_false]
 simp only [O2,U2,N9,A0h,e]
 exact ⟨F6N a4 tx,rfl⟩
noncomputable def F42 (L ys:List Int) (i:Nat):Option (Nat×Bool):=cond (!decide (ys.getD i 0∈L)) (some (0,false)) (cond (decide ((i:Int) > 0)) (cond (decide (ys.getD (i - 1) 0 ≥ ys.getD i 0)) (some (0,false)) none) none)
noncomputable def F3W (L ys:List Int):Nat×Bool:=A8i (F42 L ys) (1,false) ys.length 0
noncomputable def F7j (log:LIbe) (st ch:Int):Bool:=cond (st==1) (decide (ch<0)) (cond (st==2) (cond (decide (ch ≥ 0)) (log.getD ch.toNat dCh).2 false) (cond (st==3) (cond (decide (ch ≥ 0)) (!(log.getD ch.toNat dCh).2) false) false))
noncomputable def E9G (a0 a1 a2:Int) (a4:LIbe) (j:A9N):Bool:=L0 j.1 (wI (a1*1000)) (wI (wI (wI (a1*1000)+a2) - 1))&&(B0c j.2.1&&((F3W (A9q j.2.1 a0) j.2.2.2).1==1&&F7j a4 j.2.2.1 (D7k a4 j.1)))
noncomputable def F3B (a3:List A9N) (i:Nat):Bool:=cond (decide ((i:Int) > 0)) (!decide ((a3.getD (i - 1) A0e).1 ≥ (a3.getD i A0e).1)) true
noncomputable def shO (n:Int) (o:Int×ByteArray×ByteArray):Int:=C2G o.2.1 n
theorem E5V {l:Lq2} (h:Q9 l=true) {o:Int×ByteArray×ByteArray} (ho:o∈l):o.2.1.size≤1048576:=(F3y h o ho).1
theorem F7h (s:ByteArray) (i:Int):∃ n:Nat,bt s i=(n:Int)∧n<256:=by
 unfold bt
 split
 ·exact ⟨_,rfl,UInt8.toNat_lt _⟩
 ·exact ⟨0,rfl,by decide⟩
theorem E8k (n:Nat):IntKind.wrap .u32 (n:Int)=((n % 4294967296:Nat):Int):=by
 show (if (false&&decide ((n:Int) % (2 ^ 32:Int) ≥ (2 ^ 31:Int)))=true then (n:Int) % (2 ^ 32:Int) - (2 ^ 32:Int) else (n:Int) % (2 ^ 32:Int))=_
 simp only [Bool.false_and,Bool.false_eq_true,if_false];omega
theorem E4j {a b:Nat} (ha:a<4294967296) (hb:b<4294967296):a ^^^ b<4294967296:=Nat.xor_lt_two_pow (n:=32) ha hb
theorem F2w (n:Nat) (h:n<4294967296):(BitVec.ofInt 32 (n:Int)).toNat=n:=by
 simp [BitVec.toNat_ofInt];omega
theorem F7l {a b:Nat} (ha:a<4294967296) (hb:b<4294967296):ixor .u32 (a:Int) (b:Int)=((a ^^^ b:Nat):Int):=by
 have h:=E4j ha hb
 show IntKind.wrap .u32 (((BitVec.ofInt 32 (a:Int) ^^^ BitVec.ofInt 32 (b:Int)).toNat:Nat):Int)=_
 rw [BitVec.toNat_xor,F2w a ha,F2w b hb,E8k,Nat.mod_eq_of_lt h]
theorem D3z (n:Nat) (h:n<18446744073709551616):(BitVec.ofInt 64 (n:Int)).toNat=n:=by
 simp [BitVec.toNat_ofInt];omega
theorem F7m {a b:Nat} (ha:a<4294967296) (hb:b<4294967296):ixor .i64 (a:Int) (b:Int)=((a ^^^ b:Nat):Int):=by
 have h:=E4j ha hb
 show wI (((BitVec.ofInt 64 (a:Int) ^^^ BitVec.ofInt 64 (b:Int)).toNat:Nat):Int)=_
 rw [BitVec.toNat_xor,D3z a (by omega),D3z b (by omega)]
 exact A50 (by omega) (by omega)
theorem F7k (n:Nat) (h:n<9223372036854775808):iand .i64 (n:Int) 4294967295=((n % 4294967296:Nat):Int):=by
 show wI (((BitVec.ofInt 64 (n:Int) &&& BitVec.ofInt 64 ((4294967295:Nat):Int)).toNat:Nat):Int)=_
 rw [BitVec.toNat_and,D3z n (by omega),D3z 4294967295 (by omega),show (4294967295:Nat)=2 ^ 32 - 1 from rfl,Nat.and_two_pow_sub_one_eq_mod]
 exact A50 (by omega) (by omega)
theorem F4C {s:ByteArray} (hs:s.size≤1048576):∃ h:Nat,h<4294967296∧C2I s 2166136261 0=(0,(h:Int))∧C2J s 2166136261 0=(0,(h:Int)):=by
 have key:=A6y (ss:=fun v:C5Y=>C3x v.1 v.2.1 v.2.2) (fa:=D5z) (tt:=fun v:C5Z=>C3y v.1 v.2.1 v.2.2) (fb:=D5A) (v:=(s,2166136261,0)) (w:=(s,2166136261,0))
  (fun v w=>∃ h i:Nat,v=(s,(h:Int),(i:Int))∧w=(s,(h:Int),(i:Int))∧h<4294967296∧i≤s.size) (fun a b=>∃ h:Nat,h<4294967296∧a=(0,(h:Int))∧b=(0,(h:Int))) (fun v=>s.size - v.2.2.toNat) (fun v w hr=>by
   obtain ⟨h,i,rfl,rfl,h1,h2⟩:=hr
   by_cases hi:i<s.size
   ·have e1:decide ((i:Int)<(s.size:Int))=true:=decide_eq_true (by omega)
    have e2:decide (0≤(i:Int)∧(i:Int)<(s.size:Int))=true:=decide_eq_true (by omega)
    obtain ⟨b,hb,hb2⟩:=F7h s (i:Int)
    have w1:IntKind.wrap .u32 (b:Int)=(b:Int):=by rw [E8k];omega
    have w2:wI (b:Int)=(b:Int):=A50 (by omega) (by omega)
    have hx:=E4j h1 (show b<4294967296 by omega)
    have c1:((h ^^^ b:Nat):Int)*16777619=(((h ^^^ b)*16777619:Nat):Int):=by simp
    have w3:wI ((((h ^^^ b)*16777619:Nat):Int))=(((h ^^^ b)*16777619:Nat):Int):=A50 (by omega) (by omega)
    refine .inl ⟨(s,(((h ^^^ b)*16777619 % 4294967296:Nat):Int),((i+1:Nat):Int)),(s,(((h ^^^ b)*16777619 % 4294967296:Nat):Int),((i+1:Nat):Int)),?_,?_,⟨_,i+1,rfl,rfl,Nat.mod_lt _ (by decide),by omega⟩,by simp only [Int.toNat_natCast];omega⟩
    ·simp only [C3x,e1,e2,cond_true,hb,w1,F7l h1 (show b<4294967296 by omega),c1,E8k,A6N i (by omega)]
    ·simp only [C3y,e1,e2,cond_true,hb,w2,F7m h1 (show b<4294967296 by omega),c1,w3,F7k _ (show (h ^^^ b)*16777619<9223372036854775808 by omega),A6N i (by omega)]
   ·have e1:decide ((i:Int)<(s.size:Int))=false:=decide_eq_false (by omega)
    exact .inr ⟨_,_,by simp only [C3x,e1,cond_false],by simp only [C3y,e1,cond_false],h,h1,rfl,rfl⟩) ⟨2166136261,0,rfl,rfl,by decide,Nat.zero_le _⟩ (by simp;omega)
 obtain ⟨h,h1,h2,h3⟩:=key
 exact ⟨h,h1,h2,h3⟩
theorem D8C {s:ByteArray} (hs:s.size≤1048576) (n:Int):B4t s n=true∧B4G s n=true∧C2G s n=D2x s n∧0≤C2G s n∧(1≤n→C2G s n<n):=by
 obtain ⟨h,h1,h2,h3⟩:=F4C hs
 have w:wI (h:Int)=(h:Int):=A50 (by omega) (by omega)
 simp only [B4t,B4G,C2G,D2x,D3C,D3F,F2s,F2y,h2,h3,w]
 by_cases hn:n<1
 ·simp only [decide_eq_true hn,cond_true]
  exact ⟨trivial,trivial,trivial,Int.le_refl _,fun h=>by omega⟩
 ·have e:decide (n ≠ 0)=true:=decide_eq_true (by omega)
  simp only [decide_eq_false hn,cond_false,e]
  exact ⟨rfl,rfl,trivial,Int.tmod_nonneg _ (by omega),fun _=>Int.tmod_lt_of_pos _ (by omega)⟩
theorem D57 {l:List Int} (hl:l.length≤1048576) (x:Int):V3 l x=true∧A8j l x=decide (x∈l):=by
 have key:B43 l x 0=(0,true)∧x∈l∨B43 l x 0=(1,false)∧x ∉ l:=by
  refine A58 (fun v:C2c=>∃ i:Nat,v=(l,x,(i:Int))∧i≤l.length∧x ∉ l.take i) (fun a:B7a=>a=(0,true)∧x∈l∨a=(1,false)∧x ∉ l) (fun v=>l.length - v.2.2.toNat) ?_ ⟨0,rfl,Nat.zero_le _,by simp⟩ (by simp;omega)
  rintro v ⟨i,rfl,hi,hx⟩
  by_cases hlt:i<l.length
  ·have e1:decide ((i:Int)<(l.length:Int))=true:=decide_eq_true (by omega)
   have e2:decide (0≤(i:Int)∧(i:Int)<(l.length:Int))=true:=decide_eq_true (by omega)
   simp only [C4r,e1,e2,cond_true,Int.toNat_natCast,A6N i (by omega)]
   cases hc:(l.getD i 0==x) with
   | true=>exact .inr ⟨_,rfl,.inl ⟨rfl,by have:=J0 hlt 0;simp only [beq_iff_eq] at hc;rw [hc] at this;exact this⟩⟩
   | false =>
    refine .inl ⟨_,rfl,⟨i+1,rfl,by omega,?_⟩,by simp only [Int.toNat_natCast];omega⟩
    rw [L9 hlt 0]
    simp only [beq_eq_false_iff_ne] at hc
    simp only [List.mem_append,List.mem_singleton,not_or]
    exact ⟨hx,fun h=>hc h.symm⟩
  ·obtain rfl:i=l.length:=by omega
   have e1:decide ((l.length:Int)<(l.length:Int))=false:=decide_eq_false (by omega)
   simp only [C4r,e1,cond_false]
   rw [List.take_length] at hx
   exact .inr ⟨_,rfl,.inr ⟨rfl,hx⟩⟩
 simp only [V3,A8j]
 rcases key with ⟨h1,h2⟩ | ⟨h1,h2⟩
 ·rw [h1,decide_eq_true h2];exact ⟨rfl,rfl⟩
 ·rw [h1,decide_eq_false h2];exact ⟨rfl,rfl⟩
theorem F2z {α:Type} (a b:List α) (y x:α):(a++y::b).set a.length x=a++x::b:=by
 rw [List.set_append_right _ _ (Nat.le_refl _),Nat.sub_self];rfl
theorem F5Y {α:Type} {R:α→α→Prop} {l:List α} (h:l.Pairwise R) (i:Nat) (hi:i<l.length) (d:α):∀ x∈l.take i,R x (l.getD i d):=by
 intro x hx
 obtain ⟨j,hj,rfl⟩:=List.getElem_of_mem hx
 rw [List.length_take] at hj
 have:=List.pairwise_iff_getElem.1 h j i (by omega) hi (by omega)
 simpa [List.getD_eq_getElem?_getD,hi] using this
theorem F1J {l:List Int} (hl:l.length≤1048576) (hs:l.Pairwise (·<·)) (x:Int):A9H l x=true∧(B5f l x).Pairwise (·<·)∧(B5f l x).length≤l.length+1∧∀ z,z∈B5f l x↔z∈l∨z=x:=by
 obtain ⟨h1,h2⟩:=D57 hl x
 by_cases hx:x∈l
 ·simp only [A9H,B5f,h1,h2,decide_eq_true hx,cond_true,Bool.true_and]
  exact ⟨trivial,hs,by omega,fun z=>⟨.inl,fun h=>h.elim id (fun h=>h ▸ hx)⟩⟩
 ·have key : ∃ (k : Nat) (y : Int), C2K x (l.length : Int) (l ++ [x]) = (0, x, (k : Int), l.take k ++ y :: l.drop k) ∧ k ≤ l.length ∧ (∀ z ∈ l.drop k, x < z) ∧ ∀ z ∈ l.take k, z < x := by
   refine A58 (fun v:B3F=>∃ (k:Nat) (y:Int),v=(x,(k:Int),l.take k++y::l.drop k)∧k≤l.length∧∀ z∈l.drop k,x<z) (fun a:B0H=>∃ (k:Nat) (y:Int),a=(0,x,(k:Int),l.take k++y::l.drop k)∧k≤l.length∧(∀ z∈l.drop k,x<z)∧∀ z∈l.take k,z<x) (fun v=>v.2.1.toNat) ?_ ⟨l.length,x,by rw [List.take_length,List.drop_length],Nat.le_refl _,by simp⟩ (by simp;omega)
   rintro v ⟨k,y,rfl,hk,hd⟩
   have hlen:(l.take k++y::l.drop k).length=l.length+1:=by simp;omega
   cases k with
   | zero =>
    have e1:decide (((0:Nat):Int) > 0)=false:=by decide
    simp only [B6V,e1,cond_false]
    exact .inr ⟨_,rfl,0,y,rfl,Nat.zero_le _,hd,by simp⟩
   | succ k =>
    have hlt:k<l.length:=by omega
    have w:wI (((k+1:Nat):Int) - 1)=((k:Nat):Int):=by rw [A50 (by omega) (by omega)];omega
    have e1:decide (((k+1:Nat):Int) > 0)=true:=decide_eq_true (by omega)
    have e2:decide (0≤((k:Nat):Int)∧((k:Nat):Int)<(((l.take (k+1)++y::l.drop (k+1)).length:Nat):Int))=true:=decide_eq_true (by omega)
    have e3:decide (0≤((k+1:Nat):Int)∧((k+1:Nat):Int)<(((l.take (k+1)++y::l.drop (k+1)).length:Nat):Int))=true:=decide_eq_true (by omega)
    have hg:(l.take (k+1)++y::l.drop (k+1)).getD k 0=l.getD k 0:=by
     rw [List.getD_eq_getElem?_getD,List.getElem?_append_left (by rw [List.length_take];omega),List.getElem?_take_of_lt (by omega),← List.getD_eq_getElem?_getD]
    have hset:(l.take (k+1)++y::l.drop (k+1)).set (k+1) (l.getD k 0)=l.take k++l.getD k 0::l.drop k:=by
     have hk1:(l.take (k+1)).length=k+1:=by rw [List.length_take];omega
     have:=F2z (l.take (k+1)) (l.drop (k+1)) y (l.getD k 0)
     rw [hk1] at this
     rw [this,L9 hlt 0,List.append_assoc]
     have hd2:l.drop k=l.getD k 0::l.drop (k+1):=by
      rw [List.drop_eq_getElem_cons hlt];simp [List.getD_eq_getElem?_getD,hlt]
     rw [hd2];rfl
    simp only [B6V,w,e1,e2,e3,hg,hset,cond_true,Int.toNat_natCast]
    by_cases hgt:l.getD k 0 > x
    ·simp only [decide_eq_true hgt,cond_true]
     refine .inl ⟨_,rfl,⟨k,l.getD k 0,rfl,by omega,fun z hz=>?_⟩,by simp only [Int.toNat_natCast];omega⟩
     have hd2:l.drop k=l.getD k 0::l.drop (k+1):=by
      rw [List.drop_eq_getElem_cons hlt];simp [List.getD_eq_getElem?_getD,hlt]
     rw [hd2] at hz
     rcases List.mem_cons.1 hz with rfl | hz
     ·exact hgt
     ·exact hd z hz
    ·simp only [decide_eq_false hgt,cond_false]
     refine .inr ⟨_,rfl,k+1,y,rfl,hk,hd,fun z hz=>?_⟩
     have hzl:z∈l:=List.mem_of_mem_take hz
     have hne:z ≠ x:=fun h=>hx (h ▸ hzl)
     rw [L9 hlt 0] at hz
     rcases List.mem_append.1 hz with hz | hz
     ·have:=F5Y hs k hlt 0 z hz;omega
     ·simp only [List.mem_singleton] at hz;omega
  obtain ⟨k,y,e,hk,hd,ht⟩:=key
  have hlen:(l.take k++y::l.drop k).length=l.length+1:=by simp;omega
  have w:wI ((((([]:List Int)++l)++[x]).length:Int) - 1)=(l.length:Int):=by rw [List.nil_append,List.length_append,List.length_singleton,A50 (by omega) (by omega)];omega
  have hk1:(l.take k).length=k:=by rw [List.length_take];omega
  have hset:=F2z (l.take k) (l.drop k) y x
  rw [hk1] at hset
  have m1:decide ((([]:List Int).length+l.length)*8≤MAXB)=true:=decide_eq_true (by simp only [List.length_nil,MAXB];omega)
  have m2:decide (((([]:List Int)++l).length+[x].length)*8≤MAXB)=true:=decide_eq_true (by simp only [List.nil_append,List.length_singleton,MAXB];omega)
  have m3:decide (0≤(k:Int)∧(k:Int)<(((l.take k++y::l.drop k).length:Nat):Int))=true:=decide_eq_true (by omega)
  have k1:B6n l x=(0,x,(k:Int),l.take k++y::l.drop k):=by rw [B6n,w,List.nil_append,e]
  simp only [A9H,B5f,h1,h2,decide_eq_false hx,cond_false,m1,m2,k1,m3,Int.toNat_natCast,hset,Bool.true_and]
  have hs':=hs
  rw [← List.take_append_drop k l,List.pairwise_append] at hs'
  obtain ⟨p1,p2,p3⟩:=hs'
  refine ⟨rfl,List.pairwise_append.2 ⟨p1,List.pairwise_cons.2 ⟨hd,p2⟩,fun a ha b hb=>?_⟩,by simp;omega,fun z=>?_⟩
  ·rcases List.mem_cons.1 hb with rfl | hb
   ·exact ht a ha
   ·exact p3 a ha b hb
  ·have : z ∈ l ↔ z ∈ l.take k ∨ z ∈ l.drop k := by
    rw [← List.mem_append,List.take_append_drop]
   rw [this,List.mem_append,List.mem_cons]
   constructor
   ·rintro (h | h | h)
    ·exact .inl (.inl h)
    ·exact .inr h
    ·exact .inl (.inr h)
   ·rintro ((h | h) | h)
    ·exact .inl h
    ·exact .inr (.inr h)
    ·exact .inr (.inl h)
theorem E36 {l:Lq2} (ho:Q9 l=true) (n:Int):A9G l n=true∧(A9q l n).Pairwise (·<·)∧∀ z,z∈A9q l n↔z∈l.map (shO n):=by
 have hl:=A7a ho
 have key:∃ r:List Int,B17 l n [] 0=(0,r)∧r.Pairwise (·<·)∧∀ z,z∈r↔z∈l.map (shO n):=by
  refine A58 (fun v:B3C=>∃ (i:Nat) (r:List Int),v=(l,n,r,(i:Int))∧i≤l.length∧r.Pairwise (·<·)∧r.length≤i∧∀ z,z∈r↔z∈(l.take i).map (shO n)) (fun a:B0F=>∃ r:List Int,a=(0,r)∧r.Pairwise (·<·)∧∀ z,z∈r↔z∈l.map (shO n)) (fun v=>l.length - v.2.2.2.toNat) ?_ ⟨0,[],rfl,Nat.zero_le _,.nil,Nat.le_refl _,by simp⟩ (by simp;omega)
  rintro v ⟨i,r,rfl,hi,hp,hr,hm⟩
  by_cases hlt:i<l.length
  ·have e1:decide ((i:Int)<(l.length:Int))=true:=decide_eq_true (by omega)
   have e2:decide (0≤(i:Int)∧(i:Int)<(l.length:Int))=true:=decide_eq_true (by omega)
   have hk:=E5V ho (J0 hlt dOp)
   obtain ⟨_,q1,q2,_⟩:=D8C hk n
   obtain ⟨p1,p2,p3,p4⟩:=F1J (l:=r) (by omega) hp (D2x (l.getD i dOp).2.1 n)
   have hd:((0:Int),((⟨#[]⟩:ByteArray),(⟨#[]⟩:ByteArray)))=dOp:=rfl
   simp only [B6S,C7P,hd,e1,e2,cond_true,Int.toNat_natCast,q1,p1,A6N i (by omega)]
   refine .inl ⟨_,rfl,⟨i+1,_,rfl,by omega,p2,by omega,fun z=>?_⟩,by simp only [Int.toNat_natCast];omega⟩
   rw [p4,hm,L9 hlt dOp,List.map_append,List.mem_append,← q2]
   simp only [List.map_cons,List.map_nil,List.mem_singleton,shO]
  ·obtain rfl:i=l.length:=by omega
   have e1:decide ((l.length:Int)<(l.length:Int))=false:=decide_eq_false (by omega)
   simp only [B6S,e1,cond_false]
   rw [List.take_length] at hm
   exact .inr ⟨_,rfl,r,rfl,hp,hm⟩
 obtain ⟨r,e,h1,h2⟩:=key
 simp only [A9G,A9q,e]
 exact ⟨rfl,h1,h2⟩
theorem E6P {l:Lq2} (ho:Q9 l=true) (n:Int):B12 n l (l.length:Int) 0 []=(0,l.map (shO n)):=by
 have hl:=A7a ho
 refine A58 (fun v:B3B=>∃ i:Nat,v=(n,l,(l.length:Int),(i:Int),(l.take i).map (shO n))∧i≤l.length) (fun a:B0E=>a=(0,l.map (shO n))) (fun v=>l.length - v.2.2.2.1.toNat) ?_ ⟨0,by simp,Nat.zero_le _⟩ (by simp;omega)
 rintro v ⟨i,rfl,hi⟩
 by_cases hlt:i<l.length
 ·have e1:decide ((i:Int)<(l.length:Int))=true:=decide_eq_true (by omega)
  have e2:decide (0≤(i:Int)∧(i:Int)<(l.length:Int))=true:=decide_eq_true (by omega)
  have hm:∀ x:Int,decide ((((l.take i).map (shO n)).length+[x].length)*8≤MAXB)=true:=fun x=>decide_eq_true (by simp only [List.length_map,List.length_take,List.length_singleton,MAXB];omega)
  have hk:=E5V ho (J0 hlt dOp)
  have hq:=(D8C hk n).1
  simp only [dOp] at hq
  simp only [B6H,e1,e2,cond_true,Int.toNat_natCast,hq,hm,C7N,A6N i (by omega)]
  refine .inl ⟨_,rfl,⟨i+1,?_,by omega⟩,by simp only [Int.toNat_natCast];omega⟩
  rw [L9 hlt dOp,List.map_append]
  rfl
 ·obtain rfl:i=l.length:=by omega
  have e1:decide ((l.length:Int)<(l.length:Int))=false:=decide_eq_false (by omega)
  simp only [B6H,e1,cond_false]
  exact .inr ⟨_,rfl,by rw [List.take_length]⟩
theorem E2U {l:Lq2} (ho:Q9 l=true) (n:Int):A9F l n=true∧C1j l n=Lib.compact (A46 (l.map (shO n))):=by
 have hl:=A7a ho
 have q1:∀ x:List Int,x.length=l.length→D8c x=true:=fun x hx=>decide_eq_true (by omega)
 simp only [A9F,C1j,C0Y,E6P ho n,B38,A7e,q1 _ (by simp:(l.map (shO n)).length=l.length),q1 (A46 (l.map (shO n))) (by simp [A46]),E9a]
 refine ⟨?_,?_⟩
 ·simp
 ·rw [Int.toNat_natCast,List.drop_zero,List.take_left]
theorem F5X {α:Type} {R:α→α→Prop} {h:List α} {x:α} (h1:h.Pairwise R) (h2:∀ y∈h,R y x):(h++[x]).Pairwise R:=by
 rw [List.pairwise_append]
 exact ⟨h1,by simp,fun a ha b hb=>by simp at hb;subst hb;exact h2 a ha⟩
theorem E9b {zs:List Int} (hs:zs.Pairwise (·≤·)):∀ m,m≤zs.length→(∀ x∈Lib.compactUpTo zs.toArray m,x∈zs)∧(∀ j,j<m→zs.getD j 0∈Lib.compactUpTo zs.toArray m)∧(Lib.compactUpTo zs.toArray m).Pairwise (·<·)∧(∀ x∈Lib.compactUpTo zs.toArray m,x≤zs.getD (m - 1) 0):=by
 have hg:∀ j,j<zs.length→zs.toArray[j]! = zs.getD j 0:=fun j hj=>by
  rw [getElem!_pos zs.toArray j (by simpa using hj)];simp [List.getD_eq_getElem?_getD,hj]
 intro m
 induction m with
 | zero=>intro _;exact ⟨fun x hx=>by simp [Lib.compactUpTo] at hx,fun j hj=>by omega,by simp [Lib.compactUpTo],fun x hx=>by simp [Lib.compactUpTo] at hx⟩
 | succ m ih =>
  intro hm
  obtain ⟨i1,i2,i3,i4⟩:=ih (by omega)
  rw [Lib.compactUpTo_succ]
  have hmz:zs.getD m 0∈zs:=J0 (by omega) _
  by_cases hk:Lib.keeps zs.toArray m=true
  ·rw [if_pos hk,hg m (by omega)]
   have hlt:∀ x∈Lib.compactUpTo zs.toArray m,x<zs.getD m 0:=by
    intro x hx
    have hm0:0<m:=by
     cases m with
     | zero=>simp [Lib.compactUpTo] at hx
     | succ m=>omega
    have h1:=i4 x hx
    have h2:=List.pairwise_iff_getElem.1 hs (m - 1) m (by omega) (by omega) (by omega)
    have e1:zs.getD (m - 1) 0=zs[m - 1]:=by simp [List.getD_eq_getElem?_getD,show m - 1<zs.length by omega]
    have e2:zs.getD m 0=zs[m]:=by simp [List.getD_eq_getElem?_getD,show m<zs.length by omega]
    have h3:zs.getD m 0 ≠ zs.getD (m - 1) 0:=by
     simp only [Lib.keeps,decide_eq_true_eq] at hk
     rcases hk with hk | hk
     ·omega
     ·rw [hg m (by omega),hg (m - 1) (by omega)] at hk;exact hk
    rw [e1] at h1 h3
    rw [e2] at h3 ⊢
    omega
   refine ⟨fun x hx=>?_,fun j hj=>?_,F5X i3 hlt,fun x hx=>?_⟩
   ·rcases List.mem_append.1 hx with hx | hx
    ·exact i1 x hx
    ·simp at hx;rw [hx];simpa using hmz
   ·by_cases e:j=m
    ·subst e;simp
    ·exact List.mem_append_left _ (i2 j (by omega))
   ·rw [Nat.add_sub_cancel]
    rcases List.mem_append.1 hx with hx | hx
    ·exact Int.le_of_lt (hlt x hx)
    ·simp only [List.mem_singleton] at hx;rw [hx];exact Int.le_refl _
  ·have hk':Lib.keeps zs.toArray m=false:=by simpa using hk
   have hm0:¬ m=0:=by
    intro e;subst e;simp [Lib.keeps] at hk
   have heq:zs.getD m 0=zs.getD (m - 1) 0:=by
    simp only [Lib.keeps,decide_eq_false_iff_not,not_or,Classical.not_not] at hk'
    rw [hg m (by omega),hg (m - 1) (by omega)] at hk'
    exact hk'.2
   rw [if_neg hk,List.append_nil]
   refine ⟨i1,fun j hj=>?_,i3,fun x hx=>?_⟩
   ·by_cases e:j=m
    ·subst e;rw [heq];exact i2 (j - 1) (by omega)
    ·exact i2 j (by omega)
   ·rw [Nat.add_sub_cancel,heq];exact i4 x hx
theorem E8g (l:List Int):(A46 l).Pairwise (·≤·):=by
 have h:=List.pairwise_mergeSort (le:=fun x y:Int=>decide (x≤y)) (fun a b c h1 h2=>by simp at *;omega) (fun a b=>by simp;omega) l
 exact h.imp (fun h=>by simpa using h)
theorem E5X (l:List Int) (x:Int):x∈A46 l↔x∈l:=by simp [A46]
theorem E6v (l:List Int):(Lib.compact (A46 l)).Pairwise (·<·)∧∀ x,x∈Lib.compact (A46 l)↔x∈l:=by
 obtain ⟨i1,i2,i3,_⟩:=E9b (E8g l) (A46 l).length (Nat.le_refl _)
 refine ⟨i3,fun x=>⟨fun h=>(E5X l x).1 (i1 x h),fun h=>?_⟩⟩
 obtain ⟨j,hj,e⟩:=List.getElem_of_mem ((E5X l x).2 h)
 have:=i2 j hj
 rw [List.getD_eq_getElem?_getD,List.getElem?_eq_getElem hj,Option.getD_some,e] at this
 exact this
theorem E39:∀ a b:List Int,a.Pairwise (·<·)→b.Pairwise (·<·)→(∀ x,x∈a↔x∈b)→a=b
 | [],[],_,_,_=>rfl
 | [],y::b,_,_,h=>absurd ((h y).2 List.mem_cons_self) (by simp)
 | x::a,[],_,_,h=>absurd ((h x).1 List.mem_cons_self) (by simp)
 | x::a,y::b,ha,hb,h=>by
  obtain ⟨a1,a2⟩:=List.pairwise_cons.1 ha
  obtain ⟨b1,b2⟩:=List.pairwise_cons.1 hb
  have hxy:x=y:=by
   rcases List.mem_cons.1 ((h x).1 List.mem_cons_self) with h1 | h1
   ·exact h1
   ·rcases List.mem_cons.1 ((h y).2 List.mem_cons_self) with h2 | h2
    ·exact h2.symm
    ·have:=b1 x h1;have:=a1 y h2;omega
  subst hxy
  rw [E39 a b a2 b2 fun z=>⟨fun hz=>?_,fun hz=>?_⟩]
  ·rcases List.mem_cons.1 ((h z).1 (List.mem_cons_of_mem _ hz)) with h1 | h1
   ·have:=a1 z hz;omega
   ·exact h1
  ·rcases List.mem_cons.1 ((h z).2 (List.mem_cons_of_mem _ hz)) with h1 | h1
   ·have:=b1 z hz;omega
   ·exact h1
theorem C9l (zs:Array Int):∀ m,(Lib.compactUpTo zs m).length≤m
 | 0=>by simp [Lib.compactUpTo]
 | m+1=>by
  have:=C9l zs m
  rw [Lib.compactUpTo_succ]
  by_cases hk:Lib.keeps zs m=true
  ·rw [if_pos hk,List.length_append];simp;omega
  ·rw [if_neg hk,List.append_nil];omega
theorem E9c (l:List Int):(Lib.compact (A46 l)).length≤l.length:=by
 have h:=C9l (A46 l).toArray (A46 l).length
 have e:(A46 l).length=l.length:=by simp [A46]
 rw [e] at h
 exact Nat.le_trans (Nat.le_of_eq (by simp [Lib.compact,e])) h
theorem D48 {l:Lq2} (ho:Q9 l=true) (n:Int):A9G l n=true∧A9F l n=true∧C1j l n=A9q l n∧(A9q l n).length≤1048576:=by
 obtain ⟨s1,s2,s3⟩:=E36 ho n
 obtain ⟨i1,i2⟩:=E2U ho n
 obtain ⟨c1,c2⟩:=E6v (l.map (shO n))
 have e:C1j l n=A9q l n:=by rw [i2];exact E39 _ _ c1 s2 (fun z=>by rw [c2,s3])
 refine ⟨s1,i1,e,?_⟩
 have hc:=E9c (l.map (shO n))
 have hl:=A7a ho
 rw [← e,i2]
 rw [List.length_map] at hc
 omega
theorem E2n (log:LIbe) (tx:Int):D7k log tx=-1∨0≤D7k log tx∧D7k log tx<(log.length:Int):=by
 rcases E5I log tx with ⟨j,h1,h2⟩ | h
 ·right;simp only [D7k,h2];show 0≤(j:Int)∧(j:Int)<_;omega
 ·left;simp only [D7k,h];rfl
theorem F50 {L ys:List Int} (hL:L.length≤1048576) (hy:ys.length≤1048576) (a0 a1 a2:Int) (a3:List A9N) (a4:LIbe) (a5 b0:Int) (b1:Lq2) (b2:Int):C7M L 0 a0 a1 a2 a3 a4 a5 b0 b1 b2 ys=F3W L ys:=by
 refine A7v (fun i=>(L,(i:Int))) ys.length _ _ (by omega) (fun i hi=>?_) ?_
 ·have e1:decide ((i:Int)<(ys.length:Int))=true:=decide_eq_true (by omega)
  have e2:decide (0≤(i:Int)∧(i:Int)<(ys.length:Int))=true:=decide_eq_true (by omega)
  obtain ⟨q1,q2⟩:=D57 hL (ys.getD i 0)
  simp only [C09,e1,e2,cond_true,Int.toNat_natCast,q1,q2,A6N i (by omega),F42]
  cases i with
  | zero=>cases decide (ys.getD 0 0∈L)<;>rfl
  | succ k =>
   have w:wI (((k+1:Nat):Int) - 1)=((k:Nat):Int):=by rw [A50 (by omega) (by omega)];omega
   have e3:decide (((k+1:Nat):Int) > 0)=true:=decide_eq_true (by omega)
   have e4:decide (0≤((k:Nat):Int)∧((k:Nat):Int)<(ys.length:Int))=true:=decide_eq_true (by omega)
   simp only [w,e3,e4,cond_true,Int.toNat_natCast,Nat.add_sub_cancel]
   cases decide (ys.getD (k+1) 0∈L)<;>cases decide (ys.getD k 0 ≥ ys.getD (k+1) 0)<;>rfl
 ·have e1:decide ((ys.length:Int)<(ys.length:Int))=false:=decide_eq_false (by omega)
  simp only [C09,e1,cond_false]
theorem F4X (x:Int):((x==1)=true∧(x==2)=false∧(x==3)=false∧L0 x 1 3=true)∨((x==1)=false∧(x==2)=true∧(x==3)=false∧L0 x 1 3=true)∨((x==1)=false∧(x==2)=false∧(x==3)=true∧L0 x 1 3=true)∨((x==1)=false∧(x==2)=false∧(x==3)=false∧L0 x 1 3=false):=by
 by_cases h1:x=1
 ·subst h1;exact .inl ⟨rfl,rfl,rfl,rfl⟩
 by_cases h2:x=2
 ·subst h2;exact .inr (.inl ⟨rfl,rfl,rfl,rfl⟩)
 by_cases h3:x=3
 ·subst h3;exact .inr (.inr (.inl ⟨rfl,rfl,rfl,rfl⟩))
 refine .inr (.inr (.inr ⟨by simpa using h1,by simpa using h2,by simpa using h3,?_⟩))
 simp only [L0]
 by_cases h4:x ≥ 1
 ·rw [decide_eq_true h4,decide_eq_false (by omega)];rfl
 ·rw [decide_eq_false h4];rfl
theorem E4k (L ys:List Int):F3W L ys=(0,false)∨F3W L ys=(1,false):=by
 rcases A7M (F42 L ys) (1,false) ys.length 0 with ⟨j,a,_,h2,h3,_,h5⟩ | ⟨_,h⟩
 ·left
  rw [F3W,h5]
  simp only [F42] at h3
  revert h3
  cases (!decide (ys.getD j 0∈L))<;>cases decide ((j:Int) > 0)<;>cases decide (ys.getD (j - 1) 0 ≥ ys.getD j 0)<;>simp [eq_comm]
 ·exact .inr h
theorem F5Z (a0 a1 a2:Int) {a3:List A9N} {a4:LIbe} (a5:Int) (hl:a4.length≤1048576) (h3:a3.length≤1048576) {i:Nat} (hi:i<a3.length) (hj:C4i (a3.getD i A0e)):B5d a0 a1 a2 a3 a4 a5 (i:Int)=true∧D3H a0 a1 a2 a3 a4 a5 (i:Int)=(E9G a0 a1 a2 a4 (a3.getD i A0e)&&F3B a3 i):=by
 have hdj:((0:Int),(([]:Lq2),((0:Int),([]:List Int))))=A0e:=rfl
 have e2:decide (0≤(i:Int)∧(i:Int)<(a3.length:Int))=true:=decide_eq_true (by omega)
 have hw:decide ((i:Int) > 0)=true→decide (0≤wI ((i:Int) - 1)∧wI ((i:Int) - 1)<(a3.length:Int))=true∧(wI ((i:Int) - 1)).toNat=i - 1:=fun h=>by
  have:=of_decide_eq_true h
  have w:wI ((i:Int) - 1)=(i:Int) - 1:=A50 (by omega) (by omega)
  rw [w]
  exact ⟨decide_eq_true (by omega),by omega⟩
 obtain ⟨o1,o2⟩:=hj
 obtain ⟨s1,s2,s3,s4⟩:=D48 o1 a0
 obtain ⟨c1,c2⟩:=E35 a0 a1 a2 a3 a5 hl (a3.getD i A0e).1
 have hr:=E2n a4 (a3.getD i A0e).1
 have hy:=F50 s4 o2 a0 a1 a2 a3 a4 a5 (a3.getD i A0e).1 (a3.getD i A0e).2.1 (a3.getD i A0e).2.2.1
 simp only [B5d,D3H,C7Q,C7R,C7S,B0v,hdj,Int.toNat_natCast,e2,s1,c1,c2,o1,hy,E9G,F7j,F3B,dCh,Bool.true_and]
 generalize a3.getD i A0e=j at *
 generalize D7k a4 j.1=ch at *
 have hneg:decide (ch<0)=!decide (ch ≥ 0):=by
  by_cases h:ch<0
  ·rw [decide_eq_true h,decide_eq_false (by omega)];rfl
  ·rw [decide_eq_false h,decide_eq_true (by omega)];rfl
 rw [hneg]
 have hrd:decide (ch ≥ 0)=true→decide (0≤ch∧ch<(a4.length:Int))=true:=fun h=>by
  have:=of_decide_eq_true h
  exact decide_eq_true (by omega)
 generalize decide (0≤ch∧ch<(a4.length:Int))=q at hrd
 generalize decide (ch ≥ 0)=g at hrd
 generalize (a4.getD ch.toNat (0,false)).2=b
 generalize L0 j.1 (wI (a1*1000)) (wI (wI (wI (a1*1000)+a2) - 1))=r
 generalize B0c j.2.1=p
 have hst:=F4X j.2.2.1
 generalize (j.2.2.1==1)=t1 at hst ⊢
 generalize (j.2.2.1==2)=t2 at hst ⊢
 generalize (j.2.2.1==3)=t3 at hst ⊢
 generalize L0 j.2.2.1 1 3=t4 at hst ⊢
 generalize hz:decide ((i:Int) > 0)=z at hw
 generalize decide (0≤wI ((i:Int) - 1)∧wI ((i:Int) - 1)<(a3.length:Int))=wq at hw
 generalize (wI ((i:Int) - 1)).toNat=wn at hw
 rcases E4k (A9q j.2.1 a0) j.2.2.2 with e | e<;>rw [e]
 all_goals cases z with
  | true =>
   obtain ⟨rfl,rfl⟩:=hw rfl
   generalize decide ((a3.getD (i - 1) A0e).1 ≥ j.1)=od
   cases g with
   | true=>obtain rfl:=hrd rfl;rcases hst with ⟨rfl,rfl,rfl,rfl⟩ | ⟨rfl,rfl,rfl,rfl⟩ | ⟨rfl,rfl,rfl,rfl⟩ | ⟨rfl,rfl,rfl,rfl⟩<;>cases r<;>cases p<;>cases od<;>cases b<;>exact ⟨rfl,rfl⟩
   | false=>rcases hst with ⟨rfl,rfl,rfl,rfl⟩ | ⟨rfl,rfl,rfl,rfl⟩ | ⟨rfl,rfl,rfl,rfl⟩ | ⟨rfl,rfl,rfl,rfl⟩<;>cases r<;>cases p<;>cases od<;>cases b<;>exact ⟨rfl,rfl⟩
  | false =>
   cases g with
   | true=>obtain rfl:=hrd rfl;rcases hst with ⟨rfl,rfl,rfl,rfl⟩ | ⟨rfl,rfl,rfl,rfl⟩ | ⟨rfl,rfl,rfl,rfl⟩ | ⟨rfl,rfl,rfl,rfl⟩<;>cases r<;>cases p<;>cases b<;>exact ⟨rfl,rfl⟩
   | false=>rcases hst with ⟨rfl,rfl,rfl,rfl⟩ | ⟨rfl,rfl,rfl,rfl⟩ | ⟨rfl,rfl,rfl,rfl⟩ | ⟨rfl,rfl,rfl,rfl⟩<;>cases r<;>cases p<;>cases b<;>exact ⟨rfl,rfl⟩
theorem E4I {l:List Int} (hl:l.length≤1048576) (x:Int):N7 l x=true∧Y0 l x=decide (x∈l):=by
 have e:Z0 l x (l.length:Int) 0=A8i (fun i=>cond (x==l.getD i 0) (some (0,(i:Int))) none) (1,0) l.length 0:=by
  refine A7v (fun i=>(l,x,(l.length:Int),(i:Int))) l.length _ _ (by omega) (fun i hi=>?_) ?_
  ·have e1:decide ((i:Int)<(l.length:Int))=true:=decide_eq_true (by omega)
   have e2:decide (0≤(i:Int)∧(i:Int)<(l.length:Int))=true:=decide_eq_true (by omega)
   simp only [A8h,e1,e2,cond_true,Int.toNat_natCast,A6N i (by omega)]
   cases (x==l.getD i 0)<;>rfl
  ·have e1:decide ((l.length:Int)<(l.length:Int))=false:=decide_eq_false (by omega)
   simp only [A8h,e1,cond_false]
 simp only [N7,Y0,Z7,B2Z,e]
 rcases A7M (fun i=>cond (x==l.getD i 0) (some ((0:Nat),(i:Int))) none) (1,0) l.length 0 with ⟨j,a,_,h2,h3,_,h5⟩ | ⟨h1,h2⟩
 ·cases hc:(x==l.getD j 0) with
  | true =>
   simp only [hc,cond_true,Option.some.injEq] at h3
   rw [h5,← h3]
   have hm:x∈l:=by
    simp only [beq_iff_eq] at hc
    rw [hc];exact J0 (by omega) 0
   rw [decide_eq_true hm]
   exact ⟨rfl,decide_eq_true (by show (j:Int) ≥ 0;omega)⟩
  | false=>simp only [hc,cond_false] at h3;cases h3
 ·rw [h2]
  have hm:x ∉ l:=by
   intro hm
   obtain ⟨j,hj,e⟩:=List.getElem_of_mem hm
   have:=h1 j (Nat.zero_le _) (by omega)
   have hg:l.getD j 0=x:=by simp [List.getD_eq_getElem?_getD,hj,e]
   simp only [hg,beq_self_eq_true,cond_true] at this
   cases this
  rw [decide_eq_false hm]
  exact ⟨rfl,rfl⟩
theorem F5M {L ys:List Int} (hL:L.length≤1048576) (hy:ys.length≤1048576) (a0 a1 a2:Int) (a3:List A9N) (a4:LIbe) (a5 b0:Int) (b1:Lq2) (b2:Int):B6c L ys (ys.length:Int) 0 a0 a1 a2 a3 a4 a5 b0 b1 b2 ys=F3W L ys:=by
 refine A7v (fun i=>(L,ys,(ys.length:Int),(i:Int))) ys.length _ _ (by omega) (fun i hi=>?_) ?_
 ·have e1:decide ((i:Int)<(ys.length:Int))=true:=decide_eq_true (by omega)
  have e2:decide (0≤(i:Int)∧(i:Int)<(ys.length:Int))=true:=decide_eq_true (by omega)
  obtain ⟨q1,q2⟩:=E4I hL (ys.getD i 0)
  simp only [B1k,e1,e2,cond_true,Int.toNat_natCast,q1,q2,A6N i (by omega),F42]
  cases i with
  | zero=>cases decide (ys.getD 0 0∈L)<;>rfl
  | succ k =>
   have w:wI (((k+1:Nat):Int) - 1)=((k:Nat):Int):=by rw [A50 (by omega) (by omega)];omega
   have e3:decide (((k+1:Nat):Int) > 0)=true:=decide_eq_true (by omega)
   have e4:decide (0≤((k:Nat):Int)∧((k:Nat):Int)<(ys.length:Int))=true:=decide_eq_true (by omega)
   have e5:decide (ys.getD (k+1) 0≤ys.getD k 0)=decide (ys.getD k 0 ≥ ys.getD (k+1) 0):=rfl
   simp only [w,e3,e4,e5,cond_true,Int.toNat_natCast,Nat.add_sub_cancel]
   cases decide (ys.getD (k+1) 0∈L)<;>cases decide (ys.getD k 0 ≥ ys.getD (k+1) 0)<;>rfl
 ·have e1:decide ((ys.length:Int)<(ys.length:Int))=false:=decide_eq_false (by omega)
  simp only [B1k,e1,cond_false]
theorem F1H (s:ByteArray) (i:Nat):D2w s i=C7K s i:=by
 have hb:0≤bt s (i:Int)∧bt s (i:Int)<256:=by
  unfold bt
  split
  ·have:=UInt8.toNat_lt s[(i:Int).toNat];omega
  ·simp
 have e:=A50 (n:=bt s (i:Int)) (by omega) (by omega)
 simp only [D2w,C7K,L0,C2H,e]
 generalize bt s (i:Int)=c
 by_cases h1:c ≥ 97<;>by_cases h2:c≤122<;>by_cases h3:c ≥ 48<;>by_cases h4:c≤57<;>simp [h1,h2,h3,h4]
theorem F1I (s:ByteArray):D6H s=C4P s:=by
 have e:A4a (D2w s) (s.size - (0:Int).toNat) (0:Int).toNat=A4a (C7K s) (s.size - (0:Int).toNat) (0:Int).toNat:=E2f _ _ (fun j _ _=>F1H s j)
 simp only [D6H,C4P,E1S,M4,L0,e]
 cases A4a (C7K s) (s.size - (0:Int).toNat) (0:Int).toNat<;>cases decide ((s.size:Int) ≥ 1)<;>cases decide ((s.size:Int)≤12)<;>rfl
theorem F3A (k:Int) (s v:ByteArray):E38 k s v=E2V k s v:=by
 simp only [E38,E2V,F1I,F1a,L0]
 cases C4P s with
 | false =>
  by_cases h1:k=1<;>by_cases h2:k=2<;>by_cases h3:k=3<;>by_cases h4:v=⟨#[]⟩<;>by_cases h5:k ≥ 1<;>by_cases h6:k≤3<;>simp [h1,h2,h3,h4,h5,h6]<;>omega
 | true =>
  by_cases h2:k=2
  ·subst h2
   by_cases h4:v=⟨#[]⟩
   ·subst h4;simp [ByteArray.size]
   ·simp [h4]
  ·by_cases h1:k=1
   ·subst h1;simp
   ·by_cases h3:k=3
    ·subst h3;simp
    ·by_cases h5:k ≥ 1<;>by_cases h6:k≤3<;>simp [h1,h2,h3,h5,h6]<;>omega
theorem F3z (l:Lq2) (i:Nat):E0O l i=E0k l i:=by
 simp only [E0O,E0k,F3A]
 rw [← E6j,Bool.not_not]
theorem C7Y (l:Lq2):B0c l=B7w l:=by
 have e:A4a (E0O l) (l.length - (0:Int).toNat) (0:Int).toNat=A4a (E0k l) (l.length - (0:Int).toNat) (0:Int).toNat:=E2f _ _ (fun j _ _=>F3z l j)
 simp only [B0c,B7w,e]
 rfl
theorem F5K (a0 a1 a2:Int) (a3:List A9N) {a4:LIbe} (a5:Int) (hl:a4.length≤1048576) {j:A9N} (hj:C4i j):A62 j.1 j.2.1 j.2.2.1 j.2.2.2 a0 a1 a2 a3 a4 a5=true∧C0W j.1 j.2.1 j.2.2.1 j.2.2.2 a0 a1 a2 a3 a4 a5=E9G a0 a1 a2 a4 j:=by
 obtain ⟨o1,o2⟩:=hj
 obtain ⟨s1,s2,s3,s4⟩:=D48 o1 a0
 obtain ⟨c1,c2⟩:=E2T a0 a1 a2 a3 a5 hl j.1
 have hr:=E2n a4 j.1
 have hin:∀ x y z:Int,M4 x y z=L0 x y z:=fun _ _ _=>rfl
 have hy:=F5M s4 o2 a0 a1 a2 a3 a4 a5 j.1 j.2.1 j.2.2.1
 simp only [A62,C0W,B36,B37,B0u,B3H,hin,← C7Y,s2,s3,c1,c2,o1,hy,E9G,F7j,dCh]
 generalize D7k a4 j.1=ch at *
 have hrd:decide (ch ≥ 0)=true→decide (0≤ch∧ch<(a4.length:Int))=true:=fun h=>by
  have:=of_decide_eq_true h
  exact decide_eq_true (by omega)
 generalize hq:decide (0≤ch∧ch<(a4.length:Int))=q at hrd
 generalize decide (ch ≥ 0)=g at hrd
 generalize decide (ch<0)=g2
 generalize (a4.getD ch.toNat (0,false)).2=b
 generalize L0 j.1 (wI (a1*1000)) (wI (wI (wI (a1*1000)+a2) - 1))=r
 generalize B0c j.2.1=p
 generalize (j.2.2.1==1)=t1
 generalize (j.2.2.1==2)=t2
 generalize (j.2.2.1==3)=t3
 rcases E4k (A9q j.2.1 a0) j.2.2.2 with e | e<;>rw [e]
 ·cases r<;>cases p<;>exact ⟨rfl,rfl⟩
 ·cases g with
  | true=>obtain rfl:=hrd rfl;cases r<;>cases p<;>cases t1<;>cases t2<;>cases t3<;>exact ⟨rfl,rfl⟩
  | false=>cases r<;>cases p<;>cases t1<;>cases t2<;>cases t3<;>exact ⟨rfl,rfl⟩
theorem E6w (a0 a1 a2:Int) {a3:List A9N} {a4:LIbe} (a5:Int) (h3:a3.length≤1048576) (hj:∀ j∈a3,C4i j) (h4:a4.length≤1048576):B4F a0 a1 a2 a3 a4 a5=true∧B4s a0 a1 a2 a3 a4 a5=true∧C6o a0 a1 a2 a3 a4 a5=C3d a0 a1 a2 a3 a4 a5:=by
 have hin:∀ x y z:Int,M4 x y z=L0 x y z:=fun _ _ _=>rfl
 have nb:∀ x y:Int,(x != y)=!(x==y):=fun _ _=>rfl
 -- choices
 have f0:∃ f:Nat→Option (Nat×Bool),B3N 0 a0 a1 a2 a3 a4 a5=A8i f (1,false) a4.length 0∧B3I a4 (a4.length:Int) 0 a0 a1 a2 a3 a4 a5=A8i f (1,false) a4.length 0∧∀ i,f i=none∨f i=some (0,false):=by
  refine ⟨fun i=>cond (!L0 (a4.getD i dCh).1 1000 (wI (wI (wI (a1*1000)+a2) - 1))) (some (0,false)) (cond (D7k a4 (a4.getD i dCh).1 != (i:Int)) (some (0,false)) none),?_,?_,fun i=>?_⟩
  ·refine A7v (fun i=>((i:Int))) a4.length _ _ (by omega) (fun i hi=>?_) ?_
   ·have e1:decide ((i:Int)<(a4.length:Int))=true:=decide_eq_true (by omega)
    have e2:decide (0≤(i:Int)∧(i:Int)<(a4.length:Int))=true:=decide_eq_true (by omega)
    obtain ⟨c1,c2⟩:=E35 a0 a1 a2 a3 a5 h4 (a4.getD i dCh).1
    simp only [dCh] at c1 c2
    simp only [B8u,C4b,e1,e2,cond_true,Int.toNat_natCast,c1,c2,A6N i (by omega),dCh]
    cases L0 (a4.getD i (0,false)).1 1000 (wI (wI (wI (a1*1000)+a2) - 1))<;>cases (D7k a4 (a4.getD i (0,false)).1 != (i:Int))<;>rfl
   ·have e1:decide ((a4.length:Int)<(a4.length:Int))=false:=decide_eq_false (by omega)
    simp only [B8u,e1,cond_false]
  ·refine A7v (fun i=>(a4,(a4.length:Int),(i:Int))) a4.length _ _ (by omega) (fun i hi=>?_) ?_
   ·have e1:decide ((i:Int)<(a4.length:Int))=true:=decide_eq_true (by omega)
    have e2:decide (0≤(i:Int)∧(i:Int)<(a4.length:Int))=true:=decide_eq_true (by omega)
    obtain ⟨c1,c2⟩:=E2T a0 a1 a2 a3 a5 h4 (a4.getD i dCh).1
    simp only [dCh] at c1 c2
    simp only [B8o,C39,B3H,hin,e1,e2,cond_true,Int.toNat_natCast,c1,c2,A6N i (by omega),dCh]
    cases L0 (a4.getD i (0,false)).1 1000 (wI (wI (wI (a1*1000)+a2) - 1))<;>cases (D7k a4 (a4.getD i (0,false)).1 != (i:Int))<;>rfl
   ·have e1:decide ((a4.length:Int)<(a4.length:Int))=false:=decide_eq_false (by omega)
    simp only [B8o,e1,cond_false]
  ·dsimp only
   generalize L0 (a4.getD i dCh).1 1000 (wI (wI (wI (a1*1000)+a2) - 1))=u
   generalize (D7k a4 (a4.getD i dCh).1 != (i:Int))=u2
   cases u<;>cases u2<;>first | exact .inl rfl | exact .inr rfl
 have f1:∃ f:Nat→Option (Nat×Bool),B3O 0 a0 a1 a2 a3 a4 a5=A8i f (1,false) a3.length 0∧B3J a3 (a3.length:Int) 0 a0 a1 a2 a3 a4 a5=A8i f (1,false) a3.length 0∧∀ i,f i=none∨f i=some (0,false):=by
  have hdj:((0:Int),(([]:Lq2),((0:Int),([]:List Int))))=A0e:=rfl
  refine ⟨fun i=>cond (E9G a0 a1 a2 a4 (a3.getD i A0e)&&F3B a3 i) none (some (0,false)),?_,?_,fun i=>?_⟩
  ·refine A7v (fun i=>((i:Int))) a3.length _ _ (by omega) (fun i hi=>?_) ?_
   ·have e1:decide ((i:Int)<(a3.length:Int))=true:=decide_eq_true (by omega)
    obtain ⟨c1,c2⟩:=F5Z a0 a1 a2 a5 h4 h3 hi (hj _ (J0 hi A0e))
    simp only [B8v,e1,cond_true,c1,c2,A6N i (by omega)]
    cases (E9G a0 a1 a2 a4 (a3.getD i A0e)&&F3B a3 i)<;>rfl
   ·have e1:decide ((a3.length:Int)<(a3.length:Int))=false:=decide_eq_false (by omega)
    simp only [B8v,e1,cond_false]
  ·refine A7v (fun i=>(a3,(a3.length:Int),(i:Int))) a3.length _ _ (by omega) (fun i hi=>?_) ?_
   ·have e1:decide ((i:Int)<(a3.length:Int))=true:=decide_eq_true (by omega)
    have e2:decide (0≤(i:Int)∧(i:Int)<(a3.length:Int))=true:=decide_eq_true (by omega)
    obtain ⟨c1,c2⟩:=F5K a0 a1 a2 a3 a5 h4 (hj _ (J0 hi A0e))
    simp only [B8p,C4d,hdj,e1,e2,cond_true,Int.toNat_natCast,c1,c2,A6N i (by omega),F3B]
    generalize E9G a0 a1 a2 a4 (a3.getD i A0e)=jb
    cases i with
    | zero=>cases jb<;>rfl
    | succ k =>
     have w:wI (((k+1:Nat):Int) - 1)=((k:Nat):Int):=by rw [A50 (by omega) (by omega)];omega
     have e3:decide (((k+1:Nat):Int) > 0)=true:=decide_eq_true (by omega)
     have e4:decide (0≤((k:Nat):Int)∧((k:Nat):Int)<(a3.length:Int))=true:=decide_eq_true (by omega)
     have e5:decide ((a3.getD (k+1) A0e).1≤(a3.getD k A0e).1)=decide ((a3.getD k A0e).1 ≥ (a3.getD (k+1) A0e).1):=rfl
     simp only [w,e3,e4,e5,cond_true,Int.toNat_natCast,Nat.add_sub_cancel]
     cases jb<;>cases decide ((a3.getD k A0e).1 ≥ (a3.getD (k+1) A0e).1)<;>rfl
   ·have e1:decide ((a3.length:Int)<(a3.length:Int))=false:=decide_eq_false (by omega)
    simp only [B8p,e1,cond_false]
  ·dsimp only
   generalize (E9G a0 a1 a2 a4 (a3.getD i A0e)&&F3B a3 i)=u
   cases u<;>first | exact .inl rfl | exact .inr rfl
 have two:∀ (f:Nat→Option (Nat×Bool)) (n:Nat),(∀ i,f i=none∨f i=some (0,false))→A8i f (1,false) n 0=(0,false)∨A8i f (1,false) n 0=(1,false):=by
  intro f n h
  rcases A7M f (1,false) n 0 with ⟨j,a,_,_,h3,_,h5⟩ | ⟨_,h5⟩
  ·rcases h j with h | h
   ·rw [h] at h3;cases h3
   ·rw [h] at h3;exact .inl (by rw [h5];exact (Option.some.inj h3).symm)
  ·exact .inr h5
 obtain ⟨f,s0,i0,r0⟩:=f0
 obtain ⟨g,s1,i1,r1⟩:=f1
 have t0:=two f a4.length r0
 have t1:=two g a3.length r1
 simp only [B4F,B4s,C3d,C6o,hin,s0,i0,s1,i1]
 generalize L0 a0 1 8=b0
 generalize L0 a1 1 900=b1
 generalize L0 a2 0 999=b2
 generalize decide ((a4.length:Int) > 1000)=b3
 generalize L0 a5 0 (a4.length:Int)=b4
 generalize A8i f (1,false) a4.length 0=x0 at t0
 generalize A8i g (1,false) a3.length 0=x1 at t1
 rcases t0 with rfl | rfl<;>rcases t1 with rfl | rfl<;>cases b0<;>cases b1<;>cases b2<;>cases b3<;>cases b4<;>exact ⟨rfl,rfl,trivial⟩
noncomputable def C8P (n:Int) (x:A8V):Bool:=cond (!(C8z x.1 x.2.1 x.2.2.1 x.2.2.2.1 x.2.2.2.2)) true (decide (x.2.1 ≥ n))
theorem B11 {V A α:Type} {ss:V→V ⊕ A} {fa:A} (pk:Nat→V) (l:List α) (d:α) (p:α→Bool) (good:Nat→A) (last:A) (hn:l.length<4611686018427387904)
  (h:∀ i,i<l.length→ss (pk i)=cond (p (l.getD i d)) (.inr (good i)) (.inl (pk (i+1)))) (hl:ss (pk l.length)=.inr last) :
  itX ss fa (pk 0)=cond (decide (l.findIdx p<l.length)) (good (l.findIdx p)) last:=by
 rw [A7v pk l.length (fun i=>cond (p (l.getD i d)) (some (good i)) none) last hn (fun i hi=>by rw [h i hi];cases p (l.getD i d)<;>rfl) hl]
 rcases A7M (fun i=>cond (p (l.getD i d)) (some (good i)) none) last l.length 0 with ⟨j,a,h1,h2,h3,h4,h5⟩ | ⟨h1,h2⟩
 ·have hj:j<l.length:=by omega
  have hg:l.getD j d=l[j]:=by simp [List.getD_eq_getElem?_getD,hj]
  have hp:p l[j]=true:=by
   cases hc:p (l.getD j d) with
   | true=>rw [hg] at hc;exact hc
   | false=>simp only [hc,cond_false] at h3;cases h3
  have hf:l.findIdx p=j:=by
   rw [List.findIdx_eq hj]
   refine ⟨hp,fun m hm=>?_⟩
   have:=h4 m (by omega) hm
   have hgm:l.getD m d=l[m]:=by simp [List.getD_eq_getElem?_getD,Nat.lt_trans hm hj]
   rw [← hgm]
   cases hc:p (l.getD m d) with
   | false=>rfl
   | true=>simp only [hc,cond_true] at this;cases this
  rw [h5,hf,decide_eq_true hj]
  rw [hg,hp] at h3
  exact (Option.some.inj h3).symm
 ·have hf : ¬ l.findIdx p < l.length := by
   intro hlt
   have hp:=List.findIdx_getElem (w:=hlt)
   have:=h1 (l.findIdx p) (by omega) (by omega)
   have hg:l.getD (l.findIdx p) d=l[l.findIdx p]:=by simp [List.getD_eq_getElem?_getD,hlt]
   rw [hg,hp] at this
   cases this
  rw [h2,decide_eq_false hf];rfl
theorem A92 {V A α:Type} {ss:V→V ⊕ A} {fa:A} (pk:Nat→V) (l:List α) (d:α) (p:α→Bool) (good last:A) (hn:l.length<4611686018427387904)
  (h:∀ i,i<l.length→ss (pk i)=cond (p (l.getD i d)) (.inr good) (.inl (pk (i+1)))) (hl:ss (pk l.length)=.inr last):itX ss fa (pk 0)=cond (l.any p) good last:=by
 rw [B11 pk l d p (fun _=>good) last hn h hl]
 cases ha:l.any p with
 | true=>rw [decide_eq_true (List.findIdx_lt_length.2 (List.any_eq_true.1 ha))]
 | false =>
  rw [decide_eq_false]
  intro hc
  obtain ⟨x,hx,hp⟩:=List.findIdx_lt_length.1 hc
  rw [List.any_eq_true.2 ⟨x,hx,hp⟩] at ha
  cases ha
theorem E9u (l:List A8V) (i:Nat):l.getD i ((0:Int),((0:Int),((0:Int),([],false))))=l.getD i P3:=rfl
theorem F0M (k s t:Int) (l:Lq2) (y:Bool):C8z k s t l y=E1R k s t l y:=by
 simp only [C8z,E1R,D1u,E0l,C7Y]
 rfl
theorem E4i (a0 a1 a2:Int) (a3:List A9N) (a4:LIbe) (a5:Int) (a6:List X0) (a7 a8:List A8V) (a9:List T0) {l:List A8V} (h:D3B l) :
  (A8F a0 a1 a2 a3 a4 a5 a6 a7 a8 a9 l=true∧R7 l a0 a1 a2 a3 a4 a5 a6 a7 a8 a9=true)∧B2W a0 a1 a2 a3 a4 a5 a6 a7 a8 a9 l=Q5 l a0 a1 a2 a3 a4 a5 a6 a7 a8 a9:=by
 obtain ⟨hl,ho⟩:=h
 have e:B19 l 0 a0 a1 a2 a3 a4 a5 a6 a7 a8 a9=cond (l.any (C8P (a6.length:Int))) (0,false,[]) (1,false,l):=by
  refine A92 (fun i=>((l,(i:Int)):B3E)) l P3 (C8P (a6.length:Int)) (0,false,[]) (1,false,l) (by omega) (fun i hi=>?_) ?_
  ·have h1:decide ((i:Int)<(l.length:Int))=true:=decide_eq_true (by omega)
   have h2:decide (0≤(i:Int)∧(i:Int)<(l.length:Int))=true:=decide_eq_true (by omega)
   have h3:Q9 (l.getD i P3).2.2.2.1=true:=ho _ (J0 hi P3)
   simp only [B6U,C0X,B7N,h1,h2,h3,cond_true,Int.toNat_natCast,A6N i (by omega),E9u,C8P]
   cases C8z (l.getD i P3).1 (l.getD i P3).2.1 (l.getD i P3).2.2.1 (l.getD i P3).2.2.2.1 (l.getD i P3).2.2.2.2<;>rfl
  ·have h1:decide ((l.length:Int)<(l.length:Int))=false:=decide_eq_false (by omega)
   simp only [B6U,h1,cond_false]
 have f:B3h l l (l.length:Int) 0 a0 a1 a2 a3 a4 a5 a6 a7 a8 a9=cond (l.any (C8P (a6.length:Int))) (0,false,[]) (1,false,l):=by
  refine A92 (fun i=>((l,l,(l.length:Int),(i:Int)):A72)) l P3 (C8P (a6.length:Int)) (0,false,[]) (1,false,l) (by omega) (fun i hi=>?_) ?_
  ·have h1:decide ((i:Int)<(l.length:Int))=true:=decide_eq_true (by omega)
   have h2:decide (0≤(i:Int)∧(i:Int)<(l.length:Int))=true:=decide_eq_true (by omega)
   have h3:Q9 (l.getD i P3).2.2.2.1=true:=ho _ (J0 hi P3)
   simp only [A86,B6l,C1l,← F0M,h1,h2,h3,cond_true,Int.toNat_natCast,A6N i (by omega),E9u,C8P]
   cases C8z (l.getD i P3).1 (l.getD i P3).2.1 (l.getD i P3).2.2.1 (l.getD i P3).2.2.2.1 (l.getD i P3).2.2.2.2<;>rfl
  ·have h1:decide ((l.length:Int)<(l.length:Int))=false:=decide_eq_false (by omega)
   simp only [A86,h1,cond_false]
 simp only [A8F,R7,B2W,Q5,B1b,e,f]
 cases l.any (C8P (a6.length:Int))<;>refine ⟨⟨?_,?_⟩,?_⟩<;>first | rfl | trivial
noncomputable def D9t (t:Int) (o:T0):Bool:=o.1==t
noncomputable def B45 (l:List T0) (t:Int):Int:=cond (decide (l.findIdx (D9t t)<l.length)) ((l.findIdx (D9t t):Nat):Int) (-1)
theorem C6n (l:List T0) (i:Nat):l.getD i ((0:Int),[])=l.getD i N8:=rfl
theorem F0B (a0 a1 a2:Int) (a3:List A9N) (a4:LIbe) (a5:Int) (a6:List X0) (a7 a8:List A8V) {a9:List T0} (hl:a9.length≤1048576) (t:Int):Q7 a0 a1 a2 a3 a4 a5 a6 a7 a8 a9 t=true∧B7P a0 a1 a2 a3 a4 a5 a6 a7 a8 a9 t=B45 a9 t:=by
 have e:B18 t 0 a0 a1 a2 a3 a4 a5 a6 a7 a8 a9=cond (decide (a9.findIdx (D9t t)<a9.length)) (0,((a9.findIdx (D9t t):Nat):Int)) (1,0):=by
  refine B11 (fun i=>((t,(i:Int)):B3D)) a9 N8 (D9t t) (fun i=>((0,(i:Int)):B0G)) _ (by omega) (fun i hi=>?_) ?_
  ·have h1:decide ((i:Int)<(a9.length:Int))=true:=decide_eq_true (by omega)
   have h2:decide (0≤(i:Int)∧(i:Int)<(a9.length:Int))=true:=decide_eq_true (by omega)
   simp only [B6T,h1,h2,cond_true,Int.toNat_natCast,A6N i (by omega),C6n,D9t]
  ·have h1:decide ((a9.length:Int)<(a9.length:Int))=false:=decide_eq_false (by omega)
   simp only [B6T,h1,cond_false]
 simp only [Q7,B7P,e,B45]
 cases decide (a9.findIdx (D9t t)<a9.length)<;>exact ⟨rfl,rfl⟩
theorem E4J (a0 a1 a2:Int) (a3:List A9N) (a4:LIbe) (a5:Int) (a6:List X0) (a7 a8:List A8V) {a9:List T0} (hl:a9.length≤1048576) (t:Int):K8 t a0 a1 a2 a3 a4 a5 a6 a7 a8 a9=true∧A79 t a0 a1 a2 a3 a4 a5 a6 a7 a8 a9=B45 a9 t:=by
 have e:P6 a9 (a9.length:Int) 0 t=cond (decide (a9.findIdx (D9t t)<a9.length)) (0,((a9.findIdx (D9t t):Nat):Int)) (1,0):=by
  refine B11 (fun i=>((a9,(a9.length:Int),(i:Int)):Q1)) a9 N8 (D9t t) (fun i=>((0,(i:Int)):N6)) _ (by omega) (fun i hi=>?_) ?_
  ·have h1:decide ((i:Int)<(a9.length:Int))=true:=decide_eq_true (by omega)
   have h2:decide (0≤(i:Int)∧(i:Int)<(a9.length:Int))=true:=decide_eq_true (by omega)
   simp only [U3,A8b,B7x,h1,h2,cond_true,Int.toNat_natCast,A6N i (by omega),C6n,D9t]
  ·have h1:decide ((a9.length:Int)<(a9.length:Int))=false:=decide_eq_false (by omega)
   simp only [U3,h1,cond_false]
 simp only [K8,A79,O7,A7f,e,B45]
 cases decide (a9.findIdx (D9t t)<a9.length)<;>exact ⟨rfl,rfl⟩
noncomputable def E4E (p:Nat→Bool):Nat→Nat→Bool
 | 0,_=>false
 | k+1,i=>cond (p i) true (E4E p k (i+1))
noncomputable def F4S (a1 a2:Int):Int:=wI ((wI ((wI (a1*(1000:Int)))+a2)) - (1:Int))
noncomputable def C2U (a1 a2:Int) (l:List T0) (i:Nat):Bool:=cond (!(B0c (l.getD i N8).2)) true (cond (B45 l (l.getD i N8).1 != (i:Int)) true (!(L0 (l.getD i N8).1 1000 (F4S a1 a2))))
theorem F3P {A:Type} (p:Nat→Bool) (bad last:A):∀ k i,A8i (fun j=>cond (p j) (some bad) none) last k i=cond (E4E p k i) bad last:=by
 intro k
 induction k with
 | zero=>intro i;rfl
 | succ k ih =>
  intro i
  simp only [A8i,E4E]
  cases p i with
  | true=>rfl
  | false=>exact ih (i+1)
theorem D7D {V A:Type} {ss:V→V ⊕ A} {fa:A} (pk:Nat→V) (n:Nat) (p:Nat→Bool) (bad last:A) (hn:n<4611686018427387904)
  (h:∀ i,i<n→ss (pk i)=cond (p i) (.inr bad) (.inl (pk (i+1)))) (hl:ss (pk n)=.inr last):itX ss fa (pk 0)=cond (E4E p n 0) bad last:=by
 rw [A7v pk n (fun j=>cond (p j) (some bad) none) last hn (fun i hi=>?_) hl,F3P]
 rw [h i hi]
 cases p i<;>rfl
noncomputable def D3c {α:Type} (q:α→α→Bool) (a b:List α):Bool:=(a.zip b).all fun p=>q p.1 p.2
noncomputable def B64 {α:Type} (q:α→α→Bool) (a b:List α):Bool:=cond ((a.length:Int) != (b.length:Int)) false (D3c q a b)
noncomputable def qO (x y:Int×ByteArray×ByteArray):Bool:=(x.1==y.1)&&((x.2.1.toList==y.2.1.toList)&&((x.2.2.toList==y.2.2.toList)&&true))
noncomputable def D54 (l:List T0) (j:A9N):Bool:=cond (decide (B45 l j.1<0)) true (!(B64 qO (l.getD (B45 l j.1).toNat N8).2 j.2.1))
theorem E9s (l:List A9N) (i:Nat):l.getD i ((0:Int),([],((0:Int),[])))=l.getD i A0e:=rfl
theorem E9X {l:List T0} {t:Int} (h:¬ B45 l t<0):0≤B45 l t∧B45 l t<(l.length:Int):=by
 simp only [B45] at h ⊢
 by_cases hd:l.findIdx (D9t t)<l.length
 ·rw [decide_eq_true hd];simp only [cond_true];omega
 ·rw [decide_eq_false hd] at h;simp at h
theorem F43 {α:Type} (a b:List α) (d:α) {i:Nat} (ha:i<a.length) (hb:i<b.length):(a.zip b).getD i (d,d)=(a.getD i d,b.getD i d):=by
 have hz:i<(a.zip b).length:=by rw [List.length_zip];omega
 simp only [List.getD_eq_getElem?_getD,List.getElem?_eq_getElem hz,List.getElem?_eq_getElem ha,List.getElem?_eq_getElem hb,Option.getD_some,List.getElem_zip]
theorem D3p {V A α:Type} {ss:V→V ⊕ A} {fa:A} (pk:Nat→V) (a b:List α) (d:α) (q:α→α→Bool) (bad last:A) (hab:a.length=b.length) (hn:a.length<4611686018427387904)
  (h:∀ i,i<a.length→ss (pk i)=cond (q (a.getD i d) (b.getD i d)) (.inl (pk (i+1))) (.inr bad)) (hl:ss (pk a.length)=.inr last):itX ss fa (pk 0)=cond (D3c q a b) last bad:=by
 have hz:(a.zip b).length=a.length:=by rw [List.length_zip];omega
 rw [A92 pk (a.zip b) (d,d) (fun p=>!(q p.1 p.2)) bad last (by omega) (fun i hi=>by
  rw [hz] at hi
  rw [h i hi,F43 a b d hi (by omega)]
  cases q (a.getD i d) (b.getD i d)<;>rfl) (by rw [hz];exact hl)]
 have:(a.zip b).any (fun p=>!(q p.1 p.2))=!(D3c q a b):=by
  simp only [D3c,List.all_eq_not_any_not,Bool.not_not]
 rw [this]
 cases D3c q a b<;>rfl
theorem C7I (l:Lq2) (i:Nat):l.getD i ((0:Int),((⟨#[]⟩:ByteArray),(⟨#[]⟩:ByteArray)))=l.getD i dOp:=rfl
theorem D82 {α:Type} {a b:List α} (h:a.length=b.length):((a.length:Int) != (b.length:Int))=false:=by
 rw [h];simp
theorem D6b {α:Type} {a b:List α} (h:¬ a.length=b.length):((a.length:Int) != (b.length:Int))=true:=by
 simp only [bne_iff_ne,ne_eq];omega
theorem D8o (a b:Lq2) (hl:a.length≤1099511627776):X8 a b=true∧C3i a b=B64 qO a b:=by
 simp only [X8,C3i,B64]
 by_cases hab:a.length=b.length
 ·have e : B0o a b 0 = cond (D3c qO a b) (1, false) (0, false) := by
   refine D3p (ss:=fun v:A9f=>B0B v.1 v.2.1 v.2.2) (fa:=B34) (fun i=>((a,b,(i:Int)):A9f)) a b dOp qO _ _ hab (by omega) (fun i hi=>?_) ?_
   ·have h1:decide ((i:Int)<(a.length:Int))=true:=decide_eq_true (by omega)
    have h2:decide (0≤(i:Int)∧(i:Int)<(a.length:Int))=true:=decide_eq_true (by omega)
    have h3:decide (0≤(i:Int)∧(i:Int)<(b.length:Int))=true:=decide_eq_true (by omega)
    simp only [B0B,h1,h2,h3,cond_true,Int.toNat_natCast,A6N i (by omega),C7I,qO]
    generalize ((a.getD i dOp).1==(b.getD i dOp).1&&((a.getD i dOp).2.1.toList==(b.getD i dOp).2.1.toList&&((a.getD i dOp).2.2.toList==(b.getD i dOp).2.2.toList&&true)))=z
    cases z<;>rfl
   ·have h1:decide ((a.length:Int)<(a.length:Int))=false:=decide_eq_false (by omega)
    simp only [B0B,h1,cond_false]
  rw [D82 hab,e]
  cases D3c qO a b<;>exact ⟨rfl,rfl⟩
 ·rw [D6b hab];exact ⟨rfl,rfl⟩
noncomputable def D58 (l:List T0) (c:Int×Bool):Bool:=decide (B45 l c.1<0)
theorem D4v (a b:Lq2) (hl:a.length≤1099511627776):N3 a b=true∧A7P a b=B64 qO a b:=by
 simp only [N3,A7P,B64]
 by_cases hab:a.length=b.length
 ·have e : Y9 a b ((a.length : Nat) : Int) 0 = cond (D3c qO a b) (1, false) (0, false) := by
   refine D3p (ss:=fun v:U6=>Z2 v.1 v.2.1 v.2.2.1 v.2.2.2) (fa:=A8g) (fun i=>((a,b,(a.length:Int),(i:Int)):U6)) a b dOp qO _ _ hab (by omega) (fun i hi=>?_) ?_
   ·have h1:decide ((i:Int)<(a.length:Int))=true:=decide_eq_true (by omega)
    have h2:decide (0≤(i:Int)∧(i:Int)<(a.length:Int))=true:=decide_eq_true (by omega)
    have h3:decide (0≤(i:Int)∧(i:Int)<(b.length:Int))=true:=decide_eq_true (by omega)
    simp only [Z2,h1,h2,h3,cond_true,Int.toNat_natCast,A6N i (by omega),C7I,qO]
    generalize ((a.getD i dOp).1==(b.getD i dOp).1&&((a.getD i dOp).2.1.toList==(b.getD i dOp).2.1.toList&&((a.getD i dOp).2.2.toList==(b.getD i dOp).2.2.toList&&true)))=z
    cases z<;>rfl
   ·have h1:decide ((a.length:Int)<(a.length:Int))=false:=decide_eq_false (by omega)
    simp only [Z2,h1,cond_false]
  rw [D82 hab,e]
  cases D3c qO a b<;>exact ⟨rfl,rfl⟩
 ·rw [D6b hab];exact ⟨rfl,rfl⟩
theorem E9Y (a0 a1 a2:Int) {a3:List A9N} {a4:LIbe} (a5:Int) (a6:List X0) (a7 a8:List A8V) {a9:List T0} (h3:a3.length≤1048576) (h4:a4.length≤1048576) (h9:D1B a9) :
  (A99 a0 a1 a2 a3 a4 a5 a6 a7 a8 a9=true∧Z6 a0 a1 a2 a3 a4 a5 a6 a7 a8 a9=true)∧B7Q a0 a1 a2 a3 a4 a5 a6 a7 a8 a9=A9l a0 a1 a2 a3 a4 a5 a6 a7 a8 a9:=by
 obtain ⟨hl,ho⟩:=h9
 have sb:∀ t,Q7 a0 a1 a2 a3 a4 a5 a6 a7 a8 a9 t=true∧B7P a0 a1 a2 a3 a4 a5 a6 a7 a8 a9 t=B45 a9 t:=fun t=>F0B a0 a1 a2 a3 a4 a5 a6 a7 a8 hl t
 have ib:∀ t,K8 t a0 a1 a2 a3 a4 a5 a6 a7 a8 a9=true∧A79 t a0 a1 a2 a3 a4 a5 a6 a7 a8 a9=B45 a9 t:=fun t=>E4J a0 a1 a2 a3 a4 a5 a6 a7 a8 hl t
 have olen:∀ i,i<a9.length→(a9.getD i N8).2.length≤1099511627776:=fun i hi=>by have:=A7a (ho _ (J0 hi N8));omega
 have s0:B0l 0 a0 a1 a2 a3 a4 a5 a6 a7 a8 a9=cond (E4E (C2U a1 a2 a9) a9.length 0) (0,false) (1,false):=by
  refine D7D (fun i=>((i:Int):B1Q)) a9.length (C2U a1 a2 a9) (0,false) (1,false) (by omega) (fun i hi=>?_) ?_
  ·have h1:decide ((i:Int)<(a9.length:Int))=true:=decide_eq_true (by omega)
   have h2:decide (0≤(i:Int)∧(i:Int)<(a9.length:Int))=true:=decide_eq_true (by omega)
   have h3:Q9 (a9.getD i N8).2=true:=ho _ (J0 hi N8)
   simp only [B4a,B8g,B8i,B0v,(sb _).1,(sb _).2,h1,h2,h3,cond_true,Int.toNat_natCast,A6N i (by omega),C6n,C2U,F4S]
   generalize L0 (a9.getD i N8).1 1000 _=b1
   generalize (B45 a9 (a9.getD i N8).1 != (i:Int))=b2
   cases B0c (a9.getD i N8).2<;>cases b1<;>cases b2<;>rfl
  ·have h1:decide ((a9.length:Int)<(a9.length:Int))=false:=decide_eq_false (by omega)
   simp only [B4a,h1,cond_false]
 have s1:B0m 0 a0 a1 a2 a3 a4 a5 a6 a7 a8 a9=cond (a3.any (D54 a9)) (0,false) (1,false):=by
  refine A92 (fun i=>((i:Int):B1R)) a3 A0e (D54 a9) (0,false) (1,false) (by omega) (fun i hi=>?_) ?_
  ·have h1:decide ((i:Int)<(a3.length:Int))=true:=decide_eq_true (by omega)
   have h2:decide (0≤(i:Int)∧(i:Int)<(a3.length:Int))=true:=decide_eq_true (by omega)
   simp only [B4b,B3Q,B8j,(sb _).1,(sb _).2,h1,h2,cond_true,Int.toNat_natCast,A6N i (by omega),C6n,E9s,D54]
   by_cases hn:B45 a9 (a3.getD i A0e).1<0
   ·simp only [decide_eq_true hn,cond_true]
   ·have hr:=E9X hn
    obtain ⟨o1,o2⟩:=D8o (a9.getD (B45 a9 (a3.getD i A0e).1).toNat N8).2 (a3.getD i A0e).2.1 (olen _ (by omega))
    simp only [decide_eq_false hn,decide_eq_true hr,o1,o2,cond_true,cond_false]
  ·have h1:decide ((a3.length:Int)<(a3.length:Int))=false:=decide_eq_false (by omega)
   simp only [B4b,h1,cond_false]
 have s2:B0n 0 a0 a1 a2 a3 a4 a5 a6 a7 a8 a9=cond (a4.any (D58 a9)) (0,false) (1,false):=by
  refine A92 (fun i=>((i:Int):B1S)) a4 ((0:Int),false) (D58 a9) (0,false) (1,false) (by omega) (fun i hi=>?_) ?_
  ·have h1:decide ((i:Int)<(a4.length:Int))=true:=decide_eq_true (by omega)
   have h2:decide (0≤(i:Int)∧(i:Int)<(a4.length:Int))=true:=decide_eq_true (by omega)
   simp only [B4c,B8k,(sb _).1,(sb _).2,h1,h2,cond_true,Int.toNat_natCast,A6N i (by omega),D58]
  ·have h1:decide ((a4.length:Int)<(a4.length:Int))=false:=decide_eq_false (by omega)
   simp only [B4c,h1,cond_false]
 have i0:B3e a9 (a9.length:Int) 0 a0 a1 a2 a3 a4 a5 a6 a7 a8 a9=cond (E4E (C2U a1 a2 a9) a9.length 0) (0,false) (1,false):=by
  refine D7D (fun i=>((a9,(a9.length:Int),(i:Int)):A7Z)) a9.length (C2U a1 a2 a9) (0,false) (1,false) (by omega) (fun i hi=>?_) ?_
  ·have h1:decide ((i:Int)<(a9.length:Int))=true:=decide_eq_true (by omega)
   have h2:decide (0≤(i:Int)∧(i:Int)<(a9.length:Int))=true:=decide_eq_true (by omega)
   have h3:Q9 (a9.getD i N8).2=true:=ho _ (J0 hi N8)
   have h4:∀ x y z,M4 x y z=L0 x y z:=fun _ _ _=>rfl
   simp only [A83,B09,B1a,B0u,← C7Y,B7v,h4,(ib _).1,(ib _).2,h1,h2,h3,cond_true,Int.toNat_natCast,A6N i (by omega),C6n,C2U,F4S]
   generalize L0 (a9.getD i N8).1 1000 _=b1
   generalize (B45 a9 (a9.getD i N8).1 != (i:Int))=b2
   cases B0c (a9.getD i N8).2<;>cases b1<;>cases b2<;>rfl
  ·have h1:decide ((a9.length:Int)<(a9.length:Int))=false:=decide_eq_false (by omega)
   simp only [A83,h1,cond_false]
 have i1:B3f a4 (a4.length:Int) 0 a0 a1 a2 a3 a4 a5 a6 a7 a8 a9=cond (a4.any (D58 a9)) (0,false) (1,false):=by
  refine A92 (fun i=>((a4,(a4.length:Int),(i:Int)):A70)) a4 ((0:Int),false) (D58 a9) (0,false) (1,false) (by omega) (fun i hi=>?_) ?_
  ·have h1:decide ((i:Int)<(a4.length:Int))=true:=decide_eq_true (by omega)
   have h2:decide (0≤(i:Int)∧(i:Int)<(a4.length:Int))=true:=decide_eq_true (by omega)
   simp only [A84,B1d,(ib _).1,(ib _).2,h1,h2,cond_true,Int.toNat_natCast,A6N i (by omega),D58]
  ·have h1:decide ((a4.length:Int)<(a4.length:Int))=false:=decide_eq_false (by omega)
   simp only [A84,h1,cond_false]
 have i2:B3g a3 (a3.length:Int) 0 a0 a1 a2 a3 a4 a5 a6 a7 a8 a9=cond (a3.any (D54 a9)) (0,false) (1,false):=by
  refine A92 (fun i=>((a3,(a3.length:Int),(i:Int)):A71)) a3 A0e (D54 a9) (0,false) (1,false) (by omega) (fun i hi=>?_) ?_
  ·have h1:decide ((i:Int)<(a3.length:Int))=true:=decide_eq_true (by omega)
   have h2:decide (0≤(i:Int)∧(i:Int)<(a3.length:Int))=true:=decide_eq_true (by omega)
   simp only [A85,A8D,B1f,(ib _).1,(ib _).2,h1,h2,cond_true,Int.toNat_natCast,A6N i (by omega),C6n,E9s,D54]
   by_cases hn:B45 a9 (a3.getD i A0e).1<0
   ·simp only [decide_eq_true hn,cond_true]
   ·have hr:=E9X hn
    obtain ⟨o1,o2⟩:=D4v (a9.getD (B45 a9 (a3.getD i A0e).1).toNat N8).2 (a3.getD i A0e).2.1 (olen _ (by omega))
    simp only [decide_eq_false hn,decide_eq_true hr,o1,o2,cond_true,cond_false]
  ·have h1:decide ((a3.length:Int)<(a3.length:Int))=false:=decide_eq_false (by omega)
   simp only [A85,h1,cond_false]
 simp only [A99,Z6,B7Q,A9l,B1c,B1e,B1g,s0,s1,s2,i0,i1,i2]
 generalize E4E (C2U a1 a2 a9) a9.length 0=b0
 generalize a3.any (D54 a9)=b1
 generalize a4.any (D58 a9)=b2
 cases b0<;>cases b1<;>cases b2<;>exact ⟨⟨rfl,rfl⟩,rfl⟩
noncomputable def C3h (l:List X0) (i:Nat):Bool:=let z1:=l.getD i L6;cond (z1.1 != (i:Int)) true (!(C3e z1.1 z1.2.1 z1.2.2.1 z1.2.2.2.1 z1.2.2.2.2))
noncomputable def D56 (k:ByteArray) (ops:Lq2):Bool:=ops.any fun x=>k.toList==x.2.1.toList
noncomputable def C7T (l ops:Lq2):Bool:=l.any fun o=>D56 o.2.1 ops
noncomputable def B8l (held:List O3) (ops:Lq2):Bool:=held.any fun r=>C7T r.2.2 ops
noncomputable def misses (m:LBBe) (o:Int×ByteArray×ByteArray):Bool:=cond (o.1 != 3) false (cond (!((B6z m o.2.1).2==(!(o.2.2.toList==bE.toList)))) true (!((B6z m o.2.1).1.toList==o.2.2.toList)))
noncomputable def D1A (m:LBBe) (ops:Lq2):Bool:=!(ops.any (misses m))
noncomputable def P9 (t:Int) (r:O3):Bool:=r.2.1==t
noncomputable def isK (k:ByteArray) (p:ByteArray×ByteArray):Bool:=p.1.toList==k.toList
noncomputable def dP:ByteArray×ByteArray:=(bE,bE)
noncomputable def B6s (k:ByteArray) (p:ByteArray×ByteArray):Bool:=!(Op.bytesLess p.1.toList k.toList||p.1.toList==k.toList)
noncomputable def E9Z (l:LBBe) (k v:ByteArray):LBBe :=
 cond (decide (l.findIdx (isK k)<l.length)) (l.set (l.findIdx (isK k)) ((l.getD (l.findIdx (isK k)) dP).1,v)) (l.take (l.findIdx (B6s k))++((k,v)::l.drop (l.findIdx (B6s k))))
noncomputable def D81 (l:LBBe) (k:ByteArray):LBBe:=l.filter fun p=>!isK k p
noncomputable def D5o (l:LBBe) (o:Int×ByteArray×ByteArray):LBBe:=cond (o.1==1) (E9Z l o.2.1 o.2.2) (cond (o.1==2) (D81 l o.2.1) l)
noncomputable def D3b (kn:Bool) (m:List A9b) (held:List O3) (r:O3):Option (List A9b×List O3) :=
 cond (!(B6A r.1 r.2.1 r.2.2)) none (cond (r.1==1)
  (cond kn none (cond (B8l held r.2.2) none (cond (!(D1A m r.2.2)) none (some (m,held++[((1:Int),(r.2.1,r.2.2))])))))
  (cond (!(held.any (P9 r.2.1))) (cond (r.1==3) (cond kn none (some (m,held))) none)
   (cond (r.1==2) (cond (decide (((((held.getD (held.findIdx (P9 r.2.1)) I5).2.2.foldl D5o m).length:Nat):Int)≤60)) (some ((held.getD (held.findIdx (P9 r.2.1)) I5).2.2.foldl D5o m,held.eraseIdx (held.findIdx (P9 r.2.1)))) none)
    (cond (decide ((m.length:Int)≤60)) (some (m,held.eraseIdx (held.findIdx (P9 r.2.1)))) none))))
noncomputable def B9i (l:List O3):Nat→Option (List A9b×List O3)
 | 0=>some ([],[])
 | i+1=>(B9i l i).bind fun s=>D3b ((l.take i).any (P9 (l.getD i I5).2.1)) s.1 s.2 (l.getD i I5)
noncomputable def B0V (l:List O3):List A9b×List O3×Bool:=match B9i l l.length with
 | none=>([],[],false)
 | some s=>(s.1,s.2,true)
noncomputable def E3g (l:List O3):Prop:=(l.map (·.2.1)).Nodup
noncomputable abbrev RepOk (l:List O3) (i:Nat) (m:List A9b) (held:List O3):Prop:=E3g held∧(∀ x∈held,Q9 x.2.2=true∧(l.take i).any (P9 x.2.1)=true)∧held.length≤i∧m.length≤60
theorem E2g {l:List O3} {i:Nat} {t:Int} (h:(l.take i).any (P9 t)=true):(l.take (i+1)).any (P9 t)=true:=by
 obtain ⟨x,hx,hp⟩:=List.any_eq_true.1 h
 exact List.any_eq_true.2 ⟨x,List.mem_of_mem_take (i:=i) (by rw [List.take_take,Nat.min_eq_left (by omega)];exact hx),hp⟩
theorem RepOk.hone {l:List O3} {i:Nat} {m:List A9b} {held:List O3} (h:RepOk l i m held):E3g held:=h.1
theorem RepOk.hmem {l:List O3} {i:Nat} {m:List A9b} {held:List O3} (h:RepOk l i m held):∀ x∈held,Q9 x.2.2=true∧(l.take i).any (P9 x.2.1)=true:=h.2.1
theorem RepOk.hlen {l:List O3} {i:Nat} {m:List A9b} {held:List O3} (h:RepOk l i m held):held.length≤i:=h.2.2.1
theorem RepOk.hml {l:List O3} {i:Nat} {m:List A9b} {held:List O3} (h:RepOk l i m held):m.length≤60:=h.2.2.2
theorem F51 {l:List O3} {i:Nat} {m m':List A9b} {held h':List O3} (hi:i<l.length) (hr:∀ x∈l,Q9 x.2.2=true) (I:RepOk l i m held) (h:D3b ((l.take i).any (P9 (l.getD i I5).2.1)) m held (l.getD i I5)=some (m', h')):RepOk l (i+1) m' h':=by
 have hx:(l.take (i+1)).any (P9 (l.getD i I5).2.1)=true:=by
  refine List.any_eq_true.2 ⟨l.getD i I5,?_,by simp [P9]⟩
  rw [L9 hi I5];simp
 have sub:∀ k,RepOk l (i+1) m (held.eraseIdx k):=fun k=>by
  have hsub:(held.eraseIdx k).Sublist held:=List.eraseIdx_sublist _ _
  exact ⟨List.Nodup.sublist (hsub.map _) I.hone,fun x hx=>⟨(I.hmem x (hsub.subset hx)).1,E2g (I.hmem x (hsub.subset hx)).2⟩,by have:=hsub.length_le;have:=I.hlen;omega,I.hml⟩
 simp only [D3b] at h
 cases hok:B6A (l.getD i I5).1 (l.getD i I5).2.1 (l.getD i I5).2.2 with
 | false=>rw [hok] at h;simp at h
 | true =>
  simp only [hok,Bool.not_true,cond_false] at h
  cases hk:((l.getD i I5).1==1) with
  | true =>
   simp only [hk,cond_true] at h
   cases hkn:(l.take i).any (P9 (l.getD i I5).2.1) with
   | true=>rw [hkn] at h;simp at h
   | false =>
    rw [hkn] at h
    cases hlk:B8l held (l.getD i I5).2.2 with
    | true=>rw [hlk] at h;simp at h
    | false =>
     rw [hlk] at h
     cases hmt:D1A m (l.getD i I5).2.2 with
     | false=>rw [hmt] at h;simp at h
     | true =>
      rw [hmt] at h
      simp only [Bool.not_true,cond_false,Option.some.injEq,Prod.mk.injEq] at h
      obtain ⟨rfl,rfl⟩:=h
      refine ⟨?_,fun x hm=>?_,by rw [List.length_append];have:=I.hlen;simp;omega,I.hml⟩
      ·simp only [E3g,List.map_append,List.map_cons,List.map_nil]
       rw [List.nodup_append]
       refine ⟨I.hone,by simp,fun a ha b hb=>?_⟩
       simp only [List.mem_singleton] at hb
       subst hb
       intro e
       obtain ⟨x,hx1,hx2⟩:=List.mem_map.1 ha
       have:=(I.hmem x hx1).2
       rw [show x.2.1=(l.getD i I5).2.1 from hx2.trans e,hkn] at this
       cases this
      ·rcases List.mem_append.1 hm with hm | hm
       ·exact ⟨(I.hmem x hm).1,E2g (I.hmem x hm).2⟩
       ·simp only [List.mem_singleton] at hm
        subst hm
        have hq:=hr _ (J0 hi I5)
        exact ⟨hq,hx⟩
  | false =>
   simp only [hk,cond_false] at h
   cases ha:held.any (P9 (l.getD i I5).2.1) with
   | false =>
    simp only [ha,Bool.not_false,cond_true] at h
    cases h3:((l.getD i I5).1==3) with
    | false=>rw [h3] at h;simp at h
    | true =>
     rw [h3] at h
     cases hkn:(l.take i).any (P9 (l.getD i I5).2.1) with
     | true=>rw [hkn] at h;simp at h
     | false =>
      rw [hkn] at h
      simp only [cond_true,cond_false,Option.some.injEq,Prod.mk.injEq] at h
      obtain ⟨rfl,rfl⟩:=h
      exact ⟨I.hone,fun x hx=>⟨(I.hmem x hx).1,E2g (I.hmem x hx).2⟩,by have:=I.hlen;omega,I.hml⟩
   | true =>
    simp only [ha,Bool.not_true,cond_false] at h
    cases h2:((l.getD i I5).1==2) with
    | true =>
     simp only [h2,cond_true] at h
     by_cases hc:((((held.getD (held.findIdx (P9 (l.getD i I5).2.1)) I5).2.2.foldl D5o m).length:Nat):Int)≤60
     ·rw [decide_eq_true hc] at h
      simp only [cond_true,Option.some.injEq,Prod.mk.injEq] at h
      obtain ⟨rfl,rfl⟩:=h
      have:=sub (held.findIdx (P9 (l.getD i I5).2.1))
      exact ⟨this.hone,this.hmem,this.hlen,by omega⟩
     ·rw [decide_eq_false hc] at h;simp at h
    | false =>
     simp only [h2,cond_false] at h
     by_cases hc:(m.length:Int)≤60
     ·rw [decide_eq_true hc] at h
      simp only [cond_true,Option.some.injEq,Prod.mk.injEq] at h
      obtain ⟨rfl,rfl⟩:=h
      exact sub _
     ·rw [decide_eq_false hc] at h;simp at h
theorem F1Q {l:List O3} (hr:∀ x∈l,Q9 x.2.2=true):∀ i,i≤l.length→∀ m held,B9i l i=some (m,held)→RepOk l i m held:=by
 intro i
 induction i with
 | zero =>
  intro _ m held h
  simp only [B9i,Option.some.injEq,Prod.mk.injEq] at h
  obtain ⟨rfl,rfl⟩:=h
  exact ⟨by simp [E3g],fun x hx=>by simp at hx,by simp,by simp⟩
 | succ i ih =>
  intro hi m held h
  simp only [B9i] at h
  cases hp:B9i l i with
  | none=>rw [hp] at h;cases h
  | some s =>
   rw [hp] at h
   exact F51 (by omega) hr (ih (by omega) s.1 s.2 (by rw [hp])) h
theorem B8d (l:List O3) (i:Nat):l.getD i ((0:Int),((0:Int),[]))=l.getD i I5:=rfl
theorem D3w (l:List O3) (t:Int) (hl:l.length≤1099511627776):C0Z l t=true∧C9T l t=cond (decide (l.findIdx (P9 t)<l.length)) ((l.findIdx (P9 t):Nat):Int) (-1):=by
 have e:C2L l t 0=cond (decide (l.findIdx (P9 t)<l.length)) (0,((l.findIdx (P9 t):Nat):Int)) (1,0):=by
  refine B11 (ss:=fun v:C1b=>C3z v.1 v.2.1 v.2.2) (fa:=D5B) (fun i=>((l,t,(i:Int)):C1b)) l I5 (P9 t) (fun i=>((0,(i:Int)):C1a)) _ (by omega) (fun i hi=>?_) ?_
  ·have h1:decide ((i:Int)<(l.length:Int))=true:=decide_eq_true (by omega)
   have h2:decide (0≤(i:Int)∧(i:Int)<(l.length:Int))=true:=decide_eq_true (by omega)
   simp only [C3z,h1,h2,cond_true,Int.toNat_natCast,A6N i (by omega),B8d,P9]
  ·have h1:decide ((l.length:Int)<(l.length:Int))=false:=decide_eq_false (by omega)
   simp only [C3z,h1,cond_false]
 simp only [C0Z,C9T,e]
 cases decide (l.findIdx (P9 t)<l.length)<;>exact ⟨rfl,rfl⟩
theorem F4R (l:List O3) (t:Int) (hl:l.length≤1099511627776):decide (C9T l t<0)=!(l.any (P9 t)):=by
 rw [(D3w l t hl).2]
 cases ha:l.any (P9 t) with
 | true =>
  rw [decide_eq_true (List.findIdx_lt_length.2 (List.any_eq_true.1 ha))]
  exact decide_eq_false (by simp only [cond_true];omega)
 | false =>
  have:¬ l.findIdx (P9 t)<l.length:=by
   intro hc
   obtain ⟨x,hx,hp⟩:=List.findIdx_lt_length.1 hc
   rw [List.any_eq_true.2 ⟨x,hx,hp⟩] at ha
   cases ha
  rw [decide_eq_false this]
  rfl
theorem F3x (held:List O3) (ops:Lq2) (i k:Nat) (hi:i<held.length) (hk:k<(held.getD i I5).2.2.length) (ho:ops.length≤1048576) :
  B2c held ops (i:Int) (k:Int) 0=cond (D56 ((held.getD i I5).2.2.getD k dOp).2.1 ops) (0,true,[],[],0,0) (1,false,held,ops,(i:Int),(k:Int)):=by
 refine A92 (ss:=fun v:B0K=>A9v v.1 v.2.1 v.2.2.1 v.2.2.2.1 v.2.2.2.2) (fa:=B1X) (fun m=>((held,ops,(i:Int),(k:Int),(m:Int)):B0K)) ops dOp (fun x=>((held.getD i I5).2.2.getD k dOp).2.1.toList==x.2.1.toList) _ _ (by omega) (fun m hm=>?_) ?_
 ·have h1:decide ((m:Int)<(ops.length:Int))=true:=decide_eq_true (by omega)
  have h2:decide (0≤(i:Int)∧(i:Int)<(held.length:Int))=true:=decide_eq_true (by omega)
  have h3:decide (0≤(k:Int)∧(k:Int)<(((held.getD (i:Int).toNat ((0:Int),((0:Int),[]))).2.2.length:Nat):Int))=true:=decide_eq_true (show 0≤(k:Int)∧(k:Int)<(((held.getD i I5).2.2.length:Nat):Int) by omega)
  have h4:decide (0≤(m:Int)∧(m:Int)<(ops.length:Int))=true:=decide_eq_true (by omega)
  show A9v held ops (i:Int) (k:Int) (m:Int)=_
  simp only [A9v,h1,h2,h3,h4,cond_true]
  simp only [B8d,C7I,Int.toNat_natCast,A6N m (by omega)]
 ·have h1:decide ((ops.length:Int)<(ops.length:Int))=false:=decide_eq_false (by omega)
  simp only [A9v,h1,cond_false]
theorem F1K (held:List O3) (ops:Lq2) (i:Nat) (hi:i<held.length) (hk:(held.getD i I5).2.2.length≤1048576) (ho:ops.length≤1048576) :
  B2b held ops (i:Int) 0=cond (C7T (held.getD i I5).2.2 ops) (0,true,[],[],0) (1,false,held,ops,(i:Int)):=by
 have h2:decide (0≤(i:Int)∧(i:Int)<(held.length:Int))=true:=decide_eq_true (by omega)
 refine A92 (ss:=fun v:B0J=>A8e v.1 v.2.1 v.2.2.1 v.2.2.2) (fa:=B6a) (fun k=>((held,ops,(i:Int),(k:Int)):B0J)) (held.getD i I5).2.2 dOp (fun o=>D56 o.2.1 ops) _ _ (by omega) (fun k hk2=>?_) ?_
 ·have h1:decide ((k:Int)<(((held.getD (i:Int).toNat ((0:Int),((0:Int),[]))).2.2.length:Nat):Int))=true:=decide_eq_true (show (k:Int)<(((held.getD i I5).2.2.length:Nat):Int) by omega)
  show A8e held ops (i:Int) (k:Int)=_
  simp only [A8e,h1,h2,cond_true,F3x held ops i k hi hk2 ho]
  cases D56 ((held.getD i I5).2.2.getD k dOp).2.1 ops
  ·simp only [cond_false,A6N k (by omega)];rfl
  ·rfl
 ·have h1:decide ((((held.getD i I5).2.2.length:Nat):Int)<(((held.getD (i:Int).toNat ((0:Int),((0:Int),[]))).2.2.length:Nat):Int))=false:=decide_eq_false (show ¬ (((held.getD i I5).2.2.length:Nat):Int)<(((held.getD i I5).2.2.length:Nat):Int) by omega)
  show A8e held ops (i:Int) (((held.getD i I5).2.2.length:Nat):Int)=_
  simp only [A8e,h1,h2,cond_true,cond_false]
theorem E9I (held:List O3) (ops:Lq2) (hl:held.length≤1099511627776) (hh:∀ r∈held,r.2.2.length≤1048576) (ho:ops.length≤1048576):A8H held ops=true∧B2X held ops=B8l held ops:=by
 have e:B2a held ops 0=cond (B8l held ops) (0,true) (1,false):=by
  refine A92 (ss:=fun v:B0I=>B2w v.1 v.2.1 v.2.2) (fa:=C2B) (fun i=>((held,ops,(i:Int)):B0I)) held I5 (fun r=>C7T r.2.2 ops) _ _ (by omega) (fun i hi=>?_) ?_
  ·have h1:decide ((i:Int)<(held.length:Int))=true:=decide_eq_true (by omega)
   simp only [B2w,h1,cond_true,F1K held ops i hi (hh _ (J0 hi I5)) ho]
   cases C7T (held.getD i I5).2.2 ops
   ·simp only [cond_false,A6N i (by omega)];rfl
   ·rfl
  ·have h1:decide ((held.length:Int)<(held.length:Int))=false:=decide_eq_false (by omega)
   simp only [B2w,h1,cond_false]
 simp only [A8H,B2X,e]
 cases B8l held ops<;>exact ⟨rfl,rfl⟩
noncomputable def F4B (l:LBBe) (k:ByteArray):Option ByteArray:=(l.find? (isK k)).map (·.2)
theorem B35 (l:LBBe) (i:Nat):l.getD i ((⟨#[]⟩:ByteArray),(⟨#[]⟩:ByteArray))=l.getD i dP:=rfl
theorem E2x {α:Type} (p:α→Bool) (d:α):∀ l:List α,l.find? p=cond (decide (l.findIdx p<l.length)) (some (l.getD (l.findIdx p) d)) none
 | []=>by simp
 | x::l=>by
  have ih:=E2x p d l
  cases h:p x with
  | true=>simp [List.find?_cons,List.findIdx_cons,h]
  | false =>
   simp only [List.find?_cons,List.findIdx_cons,h,List.length_cons,cond_false,List.getD_cons_succ]
   rw [ih]
   by_cases hl:l.findIdx p<l.length
   ·rw [decide_eq_true hl,decide_eq_true (show l.findIdx p+1<l.length+1 by omega)]
   ·rw [decide_eq_false hl,decide_eq_false (show ¬ l.findIdx p+1<l.length+1 by omega)]
theorem D8m (l:LBBe) (k:ByteArray) (hl:l.length≤1099511627776):B5b l k=true∧B6z l k=(match F4B l k with | some v=>(v,true) | none=>((⟨#[]⟩:ByteArray),false)):=by
 have e:B6j l k 0=cond (decide (l.findIdx (isK k)<l.length)) (0,(l.getD (l.findIdx (isK k)) dP).2,true) (1,(⟨#[]⟩:ByteArray),false):=by
  refine B11 (ss:=fun v:B4P=>B6P v.1 v.2.1 v.2.2) (fa:=C0U) (fun i=>((l,k,(i:Int)):B4P)) l dP (isK k) (fun i=>((0,(l.getD i dP).2,true):B4M)) _ (by omega) (fun i hi=>?_) ?_
  ·have h1:decide ((i:Int)<(l.length:Int))=true:=decide_eq_true (by omega)
   have h2:decide (0≤(i:Int)∧(i:Int)<(l.length:Int))=true:=decide_eq_true (by omega)
   simp only [B6P,h1,h2,cond_true,Int.toNat_natCast,A6N i (by omega),B35,isK]
  ·have h1:decide ((l.length:Int)<(l.length:Int))=false:=decide_eq_false (by omega)
   simp only [B6P,h1,cond_false]
 simp only [B5b,B6z,e,F4B,E2x (isK k) dP l]
 cases decide (l.findIdx (isK k)<l.length)<;>exact ⟨rfl,rfl⟩
theorem F0C (m:LBBe) (ops:Lq2) (hm:m.length≤1099511627776) (ho:ops.length≤1048576):B6x m ops=true∧C8y m ops=D1A m ops:=by
 have e:B87 m ops 0=cond (ops.any (misses m)) (0,false) (1,false):=by
  refine A92 (ss:=fun v:B7j=>B9w v.1 v.2.1 v.2.2) (fa:=B1W) (fun i=>((m,ops,(i:Int)):B7j)) ops dOp (misses m) _ _ (by omega) (fun i hi=>?_) ?_
  ·have h1:decide ((i:Int)<(ops.length:Int))=true:=decide_eq_true (by omega)
   have h2:decide (0≤(i:Int)∧(i:Int)<(ops.length:Int))=true:=decide_eq_true (by omega)
   simp only [B9w,D3t,C7I,Int.toNat_natCast,h1,h2,cond_true,A6N i (by omega),(D8m m _ hm).1,misses]
   generalize ((ops.getD i dOp).1 != 3)=a
   generalize (!((B6z m (ops.getD i dOp).2.1).2==(!((ops.getD i dOp).2.2.toList==(⟨#[]⟩:ByteArray).toList))))=b
   generalize (!((B6z m (ops.getD i dOp).2.1).1.toList==(ops.getD i dOp).2.2.toList))=c
   cases a<;>cases b<;>cases c<;>rfl
  ·have h1:decide ((ops.length:Int)<(ops.length:Int))=false:=decide_eq_false (by omega)
   simp only [B9w,h1,cond_false]
 simp only [B6x,C8y,e,D1A]
 cases ops.any (misses m)<;>exact ⟨rfl,rfl⟩
theorem D4u {α:Type} (l:List α) (k:Nat):(l.drop k).take (l.length - k)=l.drop k:=List.take_of_length_le (by simp)
theorem E9A {V A α β:Type} {ss:V→V ⊕ A} {fa:A} (pk:Nat→β→V) (l:List α) (d:α) (f:β→α→β) (last:β→A) (ok:Nat→β→Prop) (hn:l.length<4611686018427387904)
  (h:∀ i b,i<l.length→ok i b→ss (pk i b)=.inl (pk (i+1) (f b (l.getD i d)))∧ok (i+1) (f b (l.getD i d))) (hl:∀ b,ok l.length b→ss (pk l.length b)=.inr (last b)) {b:β} (h0:ok 0 b):itX ss fa (pk 0 b)=last (l.foldl f b):=by
 rw [A3Z]
 have key:∀ k N i b,i+k=l.length→k<N→ok i b→itN ss fa N (pk i b)=last ((l.drop i).foldl f b):=by
  intro k
  induction k with
  | zero =>
   intro N i b hi hN ho
   obtain ⟨M,rfl⟩:∃ M,N=M+1:=⟨N - 1,by omega⟩
   obtain rfl:i=l.length:=by omega
   rw [A56,hl b ho,List.drop_length];rfl
  | succ k ih =>
   intro N i b hi hN ho
   obtain ⟨M,rfl⟩:∃ M,N=M+1:=⟨N - 1,by omega⟩
   have hlt:i<l.length:=by omega
   obtain ⟨h1,h2⟩:=h i b hlt ho
   rw [A56,h1]
   simp only
   rw [ih M (i+1) _ (by omega) (by omega) h2,List.drop_eq_getElem_cons hlt,List.foldl_cons]
   simp [List.getD_eq_getElem?_getD,hlt]
 have:=key l.length _ 0 b (by omega) hn h0
 simpa using this
theorem E9e (l:LBBe) (k:ByteArray):(D81 l k).length≤l.length:=List.length_filter_le _ _
theorem B40 {α:Type} (p:α→Bool) (l:List α):l.findIdx p≤l.length:=List.findIdx_le_length
theorem F4W (l:LBBe) (k v:ByteArray):(E9Z l k v).length≤l.length+1:=by
 simp only [E9Z]
 cases decide (l.findIdx (isK k)<l.length)
 ·have:=B40 (B6s k) l
  simp only [cond_false,List.length_append,List.length_take,List.length_cons,List.length_drop];omega
 ·simp
theorem E8M (l:LBBe) (o:Int×ByteArray×ByteArray):(D5o l o).length≤l.length+1:=by
 simp only [D5o]
 cases o.1==1
 ·cases o.1==2
  ·simp
  ·have:=E9e l o.2.1;simp only [cond_true,cond_false];omega
 ·exact F4W _ _ _
theorem E8e (l:LBBe) (k v:ByteArray) (hl:l.length≤1099511627776):B5c l k v=true∧E10 l k v=E9Z l k v:=by
 have hlt:∀ i:Nat,i<l.length→decide ((i:Int)<(l.length:Int))=true∧decide (0≤(i:Int)∧(i:Int)<(l.length:Int))=true:=fun i hi=>⟨decide_eq_true (by omega),decide_eq_true (by omega)⟩
 have hge:decide ((l.length:Int)<(l.length:Int))=false:=decide_eq_false (by omega)
 have e0:B2J l k v 0 l=cond (decide (l.findIdx (isK k)<l.length)) (0,l.set (l.findIdx (isK k)) ((l.getD (l.findIdx (isK k)) dP).1,v),([]:LBBe),(⟨#[]⟩:ByteArray),(⟨#[]⟩:ByteArray)) (1,([]:LBBe),l,k,v):=by
  refine B11 (ss:=fun v:B4Q=>B6Q v.1 v.2.1 v.2.2.1 v.2.2.2.1 v.2.2.2.2) (fa:=C0V) (fun i=>((l,k,v,(i:Int),l):B4Q)) l dP (isK k) (fun i=>((0,l.set i ((l.getD i dP).1,v),[],⟨#[]⟩,⟨#[]⟩):B4N)) _ (by omega) (fun i hi=>?_) ?_
  ·obtain ⟨h1,h2⟩:=hlt i hi
   simp only [B6Q,h1,h2,cond_true,Int.toNat_natCast,A6N i (by omega),B35]
   rfl
  ·simp only [B6Q,hge,cond_false]
 have e1:C7L l k v 0=(0,l,k,v,((l.findIdx (B6s k):Nat):Int)):=by
  have h:=B11 (ss:=fun v:B4R=>B6R v.1 v.2.1 v.2.2.1 v.2.2.2) (fa:=C7x) (fun i=>((l,k,v,(i:Int)):B4R)) l dP (B6s k) (fun i=>(0,l,k,v,(i:Int))) (0,l,k,v,(l.length:Int)) (by omega) (fun i hi=>?_) ?_
  ·refine h.trans ?_
   by_cases hc:l.findIdx (B6s k)<l.length
   ·rw [decide_eq_true hc];rfl
   ·have:=B40 (B6s k) l
    have he:l.findIdx (B6s k)=l.length:=by omega
    rw [decide_eq_false hc,he];rfl
  ·obtain ⟨h1,h2⟩:=hlt i hi
   simp only [B6R,h1,h2,cond_true,Int.toNat_natCast,A6N i (by omega),B35,B6s]
   cases (Op.bytesLess (l.getD i dP).1.toList k.toList||(l.getD i dP).1.toList==k.toList)<;>rfl
  ·simp only [B6R,hge,cond_false]
 have hle:=B40 (B6s k) l
 simp only [B5c,E10,C7O,List.nil_append,e0]
 cases hc:decide (l.findIdx (isK k)<l.length) with
 | true =>
  simp only [cond_true,E9Z,hc]
  refine ⟨?_,rfl⟩
  have e:decide ((([]:LBBe).length+l.length)*32≤MAXB)=true:=decide_eq_true (by simp [MAXB];omega)
  rw [e];rfl
 | false =>
  have f1:((1:Nat)==0)=false:=rfl
  have f2:((1:Nat)==1)=true:=rfl
  have f3:((0:Nat)==0)=true:=rfl
  simp only [cond_false,f1,f2,f3,e1,E9Z,hc,Int.toNat_natCast,Bool.true_and,Int.toNat_zero,List.drop_zero,List.take_length]
  refine ⟨?_,by rw [List.append_assoc];rfl⟩
  simp only [Bool.and_eq_true,decide_eq_true_eq,MAXB,List.length_nil,List.length_take,List.length_append,List.length_cons,List.length_drop]
  refine ⟨decide_eq_true (by omega),?_,?_,?_,?_,?_⟩<;>omega
theorem E8d (l:LBBe) (k:ByteArray) (hl:l.length≤1099511627776):B5a l k=true∧E1Z l k=D81 l k:=by
 have h:B6i l k 0 []=(0,D81 l k):=by
  refine A6D (fun v:B8Z=>∃ i:Nat,v=(l,k,(i:Int),(l.take i).filter (fun p=>!isK k p))∧i≤l.length) (fun v=>(0,v.2.2.2++(l.drop v.2.2.1.toNat).filter (fun p=>!isK k p))) (fun v=>l.length - v.2.2.1.toNat) (fun v hv=>?_) ⟨0,rfl,by omega⟩ (by simp;omega)
  obtain ⟨i,rfl,hi⟩:=hv
  by_cases hlt:i<l.length
  ·left
   have h1:decide ((i:Int)<(l.length:Int))=true:=decide_eq_true (by omega)
   have h2:decide (0≤(i:Int)∧(i:Int)<(l.length:Int))=true:=decide_eq_true (by omega)
   have hfl:=List.length_filter_le (fun p=>!isK k p) (l.take i)
   rw [List.length_take] at hfl
   have h3:∀ x:ByteArray×ByteArray,decide ((((l.take i).filter (fun p=>!isK k p)).length+[x].length)*32≤MAXB)=true:=fun x=>decide_eq_true (by simp only [MAXB,List.length_singleton];omega)
   have hd:l.drop i=l.getD i dP::l.drop (i+1):=by rw [List.drop_eq_getElem_cons hlt];simp [List.getD_eq_getElem?_getD,hlt]
   have ht:l.take (i+1)=l.take i++[l.getD i dP]:=L9 hlt dP
   refine ⟨(l,k,((i+1:Nat):Int),(l.take (i+1)).filter (fun p=>!isK k p)),?_,⟨i+1,rfl,by omega⟩,?_,by simp only [Int.toNat_natCast];omega⟩
   ·simp only [C08,h1,h2,h3,cond_true,Int.toNat_natCast,A6N i (by omega),B35,ht,List.filter_append,List.filter_cons,List.filter_nil]
    show cond (!isK k (l.getD i dP)) _ _=_
    cases isK k (l.getD i dP)<;>simp
   ·simp only [Int.toNat_natCast,ht,hd,List.filter_append,List.filter_cons,List.filter_nil]
    cases isK k (l.getD i dP)<;>simp
  ·right
   obtain rfl:i=l.length:=by omega
   have h1:decide ((l.length:Int)<(l.length:Int))=false:=decide_eq_false (by omega)
   simp only [C08,h1,cond_false,Int.toNat_natCast,List.drop_length,List.filter_nil,List.append_nil]
 exact ⟨by simp only [B5a,h];rfl,by simp only [E1Z,h]⟩
theorem F0A (m:LBBe) (l:Lq2) (hm:m.length≤1000000000) (hl:l.length≤1000000000):B6w m l=true∧C8x m l=l.foldl D5o m:=by
 have h:B86 l 0 m=(0,l.foldl D5o m):=by
  refine E9A (ss:=fun v:B7i=>B9v v.1 v.2.1 v.2.2) (fa:=A9C) (fun i b=>((l,(i:Int),b):B7i)) l dOp D5o (fun b=>((0,b):B69)) (fun i b=>b.length≤m.length+i) (by omega) (fun i b hi hb=>⟨?_,by have:=E8M b (l.getD i dOp);omega⟩) (fun b hb=>?_) (by simp)
  ·have h1:decide ((i:Int)<(l.length:Int))=true:=decide_eq_true (by omega)
   have h2:decide (0≤(i:Int)∧(i:Int)<(l.length:Int))=true:=decide_eq_true (by omega)
   have e:l.getD i ((0:Int),((⟨#[]⟩:ByteArray),(⟨#[]⟩:ByteArray)))=l.getD i dOp:=rfl
   obtain ⟨p1,p2⟩:=E8e b (l.getD i dOp).2.1 (l.getD i dOp).2.2 (by omega)
   obtain ⟨d1,d2⟩:=E8d b (l.getD i dOp).2.1 (by omega)
   simp only [B9v,h1,h2,cond_true,Int.toNat_natCast,A6N i (by omega),e,D3s,D3v,p1,p2,d1,d2,D5o]
   cases (l.getD i dOp).1==1<;>cases (l.getD i dOp).1==2<;>rfl
  ·have h1:decide ((l.length:Int)<(l.length:Int))=false:=decide_eq_false (by omega)
   simp only [B9v,h1,cond_false]
 have hq:decide ((([]:LBBe).length+m.length)*32≤MAXB)=true:=decide_eq_true (by simp [MAXB];omega)
 simp only [B6w,C8x,List.nil_append,h,hq]
 exact ⟨rfl,trivial⟩
theorem F4V (r:O3) (m:List A9b) (held:List O3) (seen:List Int) (hr:Q9 r.2.2=true) (hm:m.length≤1000) (hh:held.length≤1048576) (ho:∀ x∈held,Q9 x.2.2=true) (hs:seen.length≤1048576) :
  A9I r.1 r.2.1 r.2.2 m held seen=true∧(match D3b (decide (r.2.1∈seen)) m held r with
   | none=>(C6Z r.1 r.2.1 r.2.2 m held seen).1=false
   | some (m', h')=>∃ s', C6Z r.1 r.2.1 r.2.2 m held seen=(true,m', h', s')∧(s'=seen++[r.2.1]∨s'=seen∧held.any (P9 r.2.1)=true)):=by
 have a1:=(D3w held r.2.1 (by omega)).1
 have a2:=F4R held r.2.1 (by omega)
 have hl:=A7a hr
 obtain ⟨b1,b2⟩:=D57 hs r.2.1
 obtain ⟨c1,c2⟩:=E9I held r.2.2 (by omega) (fun x hx=>A7a (ho x hx)) hl
 obtain ⟨d1,d2⟩:=F0C m r.2.2 (by omega) hl
 have f1:decide ((held.length+[(r.1,(r.2.1,r.2.2))].length)*40≤MAXB)=true:=decide_eq_true (by simp only [List.length_singleton,MAXB];omega)
 have f2:decide ((seen.length+[r.2.1].length)*8≤MAXB)=true:=decide_eq_true (by simp only [List.length_singleton,MAXB];omega)
 have f3:A8G r.1 r.2.1 r.2.2=true:=decide_eq_true (by simp only [List.length_nil,MAXB];omega)
 have f4:B2u r.1 r.2.1 r.2.2=(r.1,r.2.1,r.2.2):=rfl
 have g0:B9e r.1 r.2.1 r.2.2=true:=hr
 simp only [A9I,C6Z,D3b,a1,a2,b1,b2,c1,c2,d1,d2,f2,f3,f4,g0,Bool.true_and,Bool.and_true]
 cases hok:B6A r.1 r.2.1 r.2.2 with
 | false=>exact ⟨rfl,rfl⟩
 | true =>
  simp only [Bool.not_true,cond_false]
  cases hk:(r.1==1) with
  | true =>
   have hk1:r.1=1:=by simpa using hk
   simp only [cond_true]
   cases decide (r.2.1∈seen) with
   | true=>exact ⟨rfl,rfl⟩
   | false =>
    cases B8l held r.2.2 with
    | true=>exact ⟨rfl,rfl⟩
    | false =>
     cases D1A m r.2.2 with
     | false=>exact ⟨rfl,rfl⟩
     | true=>exact ⟨f1,_,by rw [hk1];rfl,.inl rfl⟩
  | false =>
   simp only [cond_false]
   cases ha:held.any (P9 r.2.1) with
   | false =>
    simp only [Bool.not_false,cond_true]
    cases (r.1==3) with
    | false=>exact ⟨rfl,rfl⟩
    | true=>cases decide (r.2.1∈seen) with
     | true=>exact ⟨rfl,rfl⟩
     | false=>exact ⟨rfl,_,rfl,.inl rfl⟩
   | true =>
    have hlt:=List.findIdx_lt_length.2 (List.any_eq_true.1 ha)
    have e1:C9T held r.2.1=((held.findIdx (P9 r.2.1):Nat):Int):=by rw [(D3w held r.2.1 (by omega)).2,decide_eq_true hlt];rfl
    generalize hi:held.findIdx (P9 r.2.1)=i at hlt e1 ⊢
    have e2:=A6N i (by omega)
    have e3:=D4u held (i+1)
    have e4:[]++held.take i++held.drop (i+1)=held.eraseIdx i:=by rw [List.nil_append,List.eraseIdx_eq_take_drop_succ]
    have q0:decide (0≤(i:Int)∧(i:Int)<(held.length:Int))=true:=decide_eq_true (by omega)
    have q1:decide (0≤(0:Int)∧(0:Int)≤(i:Int)∧(i:Int)≤(held.length:Int))=true:=decide_eq_true (by omega)
    have q2:decide (0≤((i+1:Nat):Int)∧((i+1:Nat):Int)≤(held.length:Int)∧(held.length:Int)≤(held.length:Int))=true:=decide_eq_true (by omega)
    have q3:decide ((([]:List O3).length+(held.take i).length)*40≤MAXB)=true:=decide_eq_true (by simp only [List.length_nil,List.length_take,MAXB];omega)
    have q4:decide ((([]++held.take i).length+(held.drop (i+1)).length)*40≤MAXB)=true:=decide_eq_true (by simp only [List.nil_append,List.length_drop,List.length_take,MAXB];omega)
    obtain ⟨s1,s2⟩:=F0A m (held.getD i I5).2.2 (by omega) (by have:=A7a (ho _ (J0 hlt I5));omega)
    simp only [Bool.not_true,cond_false,e1,e2,Int.toNat_natCast,e3,e4,q0,q1,q2,q3,q4,B8d,s1,s2,Bool.true_and,Bool.and_true]
    cases (r.1==2) with
    | true =>
     simp only [cond_true]
     refine ⟨trivial,?_⟩
     cases decide (((((held.getD i I5).2.2.foldl D5o m).length:Nat):Int)≤60) with
     | true=>exact ⟨_,rfl,.inr ⟨rfl,trivial⟩⟩
     | false=>rfl
    | false =>
     simp only [cond_false]
     refine ⟨trivial,?_⟩
     cases decide ((m.length:Int)≤60) with
     | true=>exact ⟨_,rfl,.inr ⟨rfl,trivial⟩⟩
     | false=>rfl
theorem F3C {l:List O3} {i:Nat} (h:B9i l i=none):∀ k,B9i l (i+k)=none:=by
 intro k
 induction k with
 | zero=>exact h
 | succ k ih=>rw [Nat.add_succ];simp only [B9i,ih,Option.bind_none]
theorem E3G {l:List O3} {i:Nat} (hi:i<l.length) {m:List A9b} {held:List O3} (hp:B9i l i=some (m,held)) (hs:D3b ((l.take i).any (P9 (l.getD i I5).2.1)) m held (l.getD i I5)=none):B9i l l.length=none:=by
 have h1:B9i l (i+1)=none:=by simp only [B9i,hp,Option.bind_some];exact hs
 have:=F3C h1 (l.length - (i+1))
 rwa [show i+1+(l.length - (i+1))=l.length by omega] at this
theorem F0D (l:List O3) (hl:l.length≤1048576) (hr:∀ x∈l,Q9 x.2.2=true):((Q6 l).1=0∧(Q6 l).2.1=false∧(Q6 l).2.2.1=[]∧(Q6 l).2.2.2.1=[]∧B9i l l.length=none)∨((Q6 l).1=1∧B9i l l.length=some ((Q6 l).2.2.2.2.1,(Q6 l).2.2.2.2.2.1)):=by
 refine A58 (ss:=fun v:B0g=>A9u v.1 v.2.1 v.2.2.1 v.2.2.2.1 v.2.2.2.2) (fa:=B2G)
  (fun v=>∃ (i:Nat) (m:List A9b) (held:List O3) (seen:List Int),v=(l,(i:Int),m,held,seen)∧i≤l.length∧B9i l i=some (m,held)∧seen.length≤i∧∀ t,t∈seen↔(l.take i).any (P9 t)=true)
  (fun a:A8l=>(a.1=0∧a.2.1=false∧a.2.2.1=[]∧a.2.2.2.1=[]∧B9i l l.length=none)∨(a.1=1∧B9i l l.length=some (a.2.2.2.2.1,a.2.2.2.2.2.1))) (fun v=>l.length - v.2.1.toNat) ?_ ⟨0,[],[],[],rfl,Nat.zero_le _,rfl,by simp,by simp⟩ (by simp;omega)
 rintro v ⟨i,m,held,seen,rfl,hi,hp,hs,hse⟩
 by_cases hlt:i<l.length
 ·have e1:decide ((i:Int)<(l.length:Int))=true:=decide_eq_true (by omega)
  have e2:decide (0≤(i:Int)∧(i:Int)<(l.length:Int))=true:=decide_eq_true (by omega)
  have I:=F1Q hr i hi m held hp
  have o:=F4V (l.getD i I5) m held seen (hr _ (J0 hlt I5)) (by have:=I.hml;omega) (by have:=I.hlen;omega) (fun x hx=>(I.hmem x hx).1) (by omega)
  have hkn:decide ((l.getD i I5).2.1∈seen)=(l.take i).any (P9 (l.getD i I5).2.1):=by
   cases hc:(l.take i).any (P9 (l.getD i I5).2.1) with
   | true=>exact decide_eq_true ((hse _).2 hc)
   | false=>exact decide_eq_false (fun h=>by rw [(hse _).1 h] at hc;cases hc)
  rw [hkn] at o
  obtain ⟨o1,o2⟩:=o
  simp only [A9u,B6m,e1,e2,cond_true,Int.toNat_natCast,B8d,o1,A6N i (by omega)]
  cases hst:D3b ((l.take i).any (P9 (l.getD i I5).2.1)) m held (l.getD i I5) with
  | none =>
   rw [hst] at o2
   simp only [o2,Bool.not_false,cond_true]
   exact .inr ⟨_,rfl,.inl ⟨rfl,rfl,rfl,rfl,E3G hlt hp hst⟩⟩
  | some s =>
   obtain ⟨m', h'⟩:=s
   rw [hst] at o2
   obtain ⟨s', o3,o4⟩:=o2
   simp only [o3,Bool.not_true,cond_false]
   refine .inl ⟨_,rfl,⟨i+1,m', h', s', rfl,by omega,by simp only [B9i,hp,Option.bind_some];exact hst,?_,fun t=>?_⟩,by simp only [Int.toNat_natCast];omega⟩
   ·rcases o4 with rfl | ⟨rfl,_⟩
    ·rw [List.length_append];simp;omega
    ·omega
   ·rw [L9 hlt I5,List.any_append,Bool.or_eq_true]
    have hone:([l.getD i I5].any (P9 t)=true)↔(l.getD i I5).2.1=t:=by simp [P9]
    rw [hone]
    rcases o4 with rfl | ⟨rfl,hany⟩
    ·rw [List.mem_append,hse t,List.mem_singleton]
     exact or_congr Iff.rfl eq_comm
    ·rw [hse t]
     refine ⟨.inl,?_⟩
     rintro (h | h)
     ·exact h
     ·subst h
      obtain ⟨x,hx1,hx2⟩:=List.any_eq_true.1 hany
      have:=(I.hmem x hx1).2
      rw [show x.2.1=(l.getD i I5).2.1 from beq_iff_eq.1 hx2] at this
      exact this
 ·obtain rfl:i=l.length:=by omega
  have e1:decide ((l.length:Int)<(l.length:Int))=false:=decide_eq_false (by omega)
  simp only [A9u,e1,cond_false]
  exact .inr ⟨_,rfl,.inr ⟨rfl,hp⟩⟩
theorem E8f (l:List O3) (hl:l.length≤1048576) (hr:∀ x∈l,Q9 x.2.2=true):A8S l=true∧B5e l=B0V l:=by
 simp only [A8S,B5e,B0V]
 rcases F0D l hl hr with ⟨h1,h2,h3,h4,h5⟩ | ⟨h1,h2⟩
 ·rw [h1,h2,h3,h4,h5];exact ⟨rfl,rfl⟩
 ·rw [h1,h2];exact ⟨rfl,rfl⟩
theorem D6d {l:List O3} (h:D6c l):∀ x∈l,Q9 x.2.2=true:=fun x hx=>h.2 x hx
theorem F1P (k t:Int) (l:Lq2):B6A k t l=E6N k t l:=by
 simp only [B6A,E6N,D1u,C7Y]
 rw [show M4 t 1 1000000=L0 t 1 1000000 from rfl]
 cases L0 t 1 1000000<;>simp
theorem C8u (l:List O3) (t:Int) (hl:l.length≤1099511627776):A63 l t=true∧A8a l t=cond (decide (l.reverse.findIdx (P9 t)<l.length)) ((l.length:Int) - 1 - ((l.reverse.findIdx (P9 t):Nat):Int)) (-1):=by
 have e0:=A50 (n:=(l.length:Int) - 1) (by omega) (by omega)
 have e:B42 l t ((l.length:Int) - 1)=cond (decide (l.reverse.findIdx (P9 t)<l.reverse.length)) (0,(l.length:Int) - 1 - ((l.reverse.findIdx (P9 t):Nat):Int)) (1,0):=by
  have:=B11 (ss:=fun v:B4m=>B5h v.1 v.2.1 v.2.2) (fa:=C34) (fun i=>((l,t,(l.length:Int) - 1 - (i:Int)):B4m)) l.reverse I5 (P9 t) (fun i=>((0,(l.length:Int) - 1 - (i:Int)):B68)) (1,0) (by rw [List.length_reverse];omega) (fun i hi=>by
   rw [List.length_reverse] at hi
   have h1:decide ((l.length:Int) - 1 - (i:Int) ≥ 0)=true:=decide_eq_true (by omega)
   have h2:decide (0≤(l.length:Int) - 1 - (i:Int)∧(l.length:Int) - 1 - (i:Int)<(l.length:Int))=true:=decide_eq_true (by omega)
   have h3:((l.length:Int) - 1 - (i:Int)).toNat=l.length - 1 - i:=by omega
   have h4:l.reverse.getD i I5=l.getD (l.length - 1 - i) I5:=by
    simp only [List.getD_eq_getElem?_getD]
    rw [List.getElem?_reverse hi]
   have h6:(l.length:Int) - 1 - (i:Int) - 1=(l.length:Int) - 1 - ((i+1:Nat):Int):=by omega
   have h5:=A50 (n:=(l.length:Int) - 1 - ((i+1:Nat):Int)) (by omega) (by omega)
   simp only [B5h,h1,h2,cond_true,h3,h5,B8d,h4,P9,h6]) (by
   rw [List.length_reverse]
   have h1:decide ((l.length:Int) - 1 - (l.length:Int) ≥ 0)=false:=decide_eq_false (by omega)
   simp only [B5h,h1,cond_false])
  have e2:B42 l t ((l.length:Int) - 1)=itX (fun v:B4m=>B5h v.1 v.2.1 v.2.2) C34 (l,t,(l.length:Int) - 1 - ((0:Nat):Int)):=by
   rw [show (l.length:Int) - 1 - ((0:Nat):Int)=(l.length:Int) - 1 by omega];rfl
  exact e2.trans this
 rw [List.length_reverse] at e
 simp only [A63,A8a,e0,e]
 cases decide (l.reverse.findIdx (P9 t)<l.length)<;>exact ⟨rfl,rfl⟩
theorem E5W (l:List O3) (t:Int) (hl:l.length≤1099511627776):decide (A8a l t<0)=!(l.any (P9 t))∧decide (A8a l t ≥ 0)=l.any (P9 t):=by
 rw [(C8u l t hl).2]
 cases ha:l.any (P9 t) with
 | true =>
  have:l.reverse.findIdx (P9 t)<l.length:=by
   rw [← List.length_reverse]
   refine List.findIdx_lt_length.2 ?_
   obtain ⟨x,hx,hp⟩:=List.any_eq_true.1 ha
   exact ⟨x,List.mem_reverse.2 hx,hp⟩
  rw [decide_eq_true this]
  exact ⟨decide_eq_false (by simp only [cond_true];omega),decide_eq_true (by simp only [cond_true];omega)⟩
 | false =>
  have:¬ l.reverse.findIdx (P9 t)<l.length:=by
   intro hc
   rw [← List.length_reverse] at hc
   obtain ⟨x,hx,hp⟩:=List.findIdx_lt_length.1 hc
   rw [List.any_eq_true.2 ⟨x,List.mem_reverse.1 hx,hp⟩] at ha
   cases ha
  rw [decide_eq_false this]
  exact ⟨rfl,rfl⟩
theorem F0K (a b:ByteArray):(a.toList==b.toList)=(b.toList==a.toList):=by
 rw [F1a,F1a];exact decide_eq_decide.2 eq_comm
theorem F5J (ops l:Lq2) (held:List O3) (n i k m:Int) (o:Int×ByteArray×ByteArray) (ho:ops.length≤1048576) :
  B9Q ops held n i l m k ops (ops.length:Int) 0 o.1 o.2.1 o.2.2=cond (D56 o.2.1 ops) (0,true,[],[],0,0,[],0,0) (1,false,ops,held,n,i,l,m,k):=by
 refine A92 (ss:=fun v:A9e=>B0A v.1 v.2.1 v.2.2.1 v.2.2.2.1 v.2.2.2.2.1 v.2.2.2.2.2.1 v.2.2.2.2.2.2.1 v.2.2.2.2.2.2.2.1 v.2.2.2.2.2.2.2.2.1 v.2.2.2.2.2.2.2.2.2 o.1 o.2.1 o.2.2) (fa:=B9M) (fun j=>((ops,held,n,i,l,m,k,ops,(ops.length:Int),(j:Int)):A9e)) ops dOp (fun x=>o.2.1.toList==x.2.1.toList) _ _ (by omega) (fun j hj=>?_) ?_
 ·have h1:decide ((j:Int)<(ops.length:Int))=true:=decide_eq_true (by omega)
  have h4:decide (0≤(j:Int)∧(j:Int)<(ops.length:Int))=true:=decide_eq_true (by omega)
  simp only [B0A,C7I,Int.toNat_natCast,h1,h4,cond_true,A6N j (by omega),F0K _ o.2.1]
 ·have h1:decide ((ops.length:Int)<(ops.length:Int))=false:=decide_eq_false (by omega)
  simp only [B0A,h1,cond_false]
theorem F4D (ops l:Lq2) (held:List O3) (n i:Int) (hl:l.length≤1048576) (ho:ops.length≤1048576) :
  B9P ops held n i l (l.length:Int) 0=cond (C7T l ops) (0,true,[],[],0,0) (1,false,ops,held,n,i):=by
 refine A92 (ss:=fun v:A9d=>B0z v.1 v.2.1 v.2.2.1 v.2.2.2.1 v.2.2.2.2.1 v.2.2.2.2.2.1 v.2.2.2.2.2.2) (fa:=B33) (fun k=>((ops,held,n,i,l,(l.length:Int),(k:Int)):A9d)) l dOp (fun o=>D56 o.2.1 ops) _ _ (by omega) (fun k hk=>?_) ?_
 ·have h1:decide ((k:Int)<(l.length:Int))=true:=decide_eq_true (by omega)
  have h2:decide (0≤(k:Int)∧(k:Int)<(l.length:Int))=true:=decide_eq_true (by omega)
  simp only [B0z,B8f,C7I,Int.toNat_natCast,h1,h2,cond_true,F5J ops l held n i (k:Int) (l.length:Int) (l.getD k dOp) ho]
  cases D56 (l.getD k dOp).2.1 ops
  ·simp only [cond_false,A6N k (by omega)];rfl
  ·rfl
 ·have h1:decide ((l.length:Int)<(l.length:Int))=false:=decide_eq_false (by omega)
  simp only [B0z,h1,cond_false]
theorem E6L (held:List O3) (ops:Lq2) (hl:held.length≤1099511627776) (hh:∀ r∈held,r.2.2.length≤1048576) (ho:ops.length≤1048576):X7 held ops=true∧A7q held ops=B8l held ops:=by
 have e:B0j ops held (held.length:Int) 0=cond (B8l held ops) (0,true) (1,false):=by
  refine A92 (ss:=fun v:A9c=>B0y v.1 v.2.1 v.2.2.1 v.2.2.2) (fa:=B32) (fun i=>((ops,held,(held.length:Int),(i:Int)):A9c)) held I5 (fun r=>C7T r.2.2 ops) _ _ (by omega) (fun i hi=>?_) ?_
  ·have h1:decide ((i:Int)<(held.length:Int))=true:=decide_eq_true (by omega)
   have h2:decide (0≤(i:Int)∧(i:Int)<(held.length:Int))=true:=decide_eq_true (by omega)
   simp only [B0y,B8h,B8d,Int.toNat_natCast,h1,h2,cond_true,F4D ops (held.getD i I5).2.2 held (held.length:Int) (i:Int) (hh _ (J0 hi I5)) ho]
   cases C7T (held.getD i I5).2.2 ops
   ·simp only [cond_false,A6N i (by omega)];rfl
   ·rfl
  ·have h1:decide ((held.length:Int)<(held.length:Int))=false:=decide_eq_false (by omega)
   simp only [B0y,h1,cond_false]
 simp only [X7,A7q,e]
 cases B8l held ops<;>exact ⟨rfl,rfl⟩
theorem E0A (l:LBBe) (k:ByteArray) (hl:l.length≤1099511627776):B2O l k=true∧B8e l k=cond (decide (l.findIdx (isK k)<l.length)) ((l.findIdx (isK k):Nat):Int) (-1):=by
 have e:L3 l (l.length:Int) 0 k=cond (decide (l.findIdx (isK k)<l.length)) (0,((l.findIdx (isK k):Nat):Int)) (1,0):=by
  refine B11 (ss:=fun v:J9=>L5 v.1 v.2.1 v.2.2 k) (fa:=R6) (fun i=>((l,(l.length:Int),(i:Int)):J9)) l dP (isK k) (fun i=>((0,(i:Int)):J7)) _ (by omega) (fun i hi=>?_) ?_
  ·have h1:decide ((i:Int)<(l.length:Int))=true:=decide_eq_true (by omega)
   have h2:decide (0≤(i:Int)∧(i:Int)<(l.length:Int))=true:=decide_eq_true (by omega)
   simp only [L5,h1,h2,cond_true,Int.toNat_natCast,A6N i (by omega),B35,T6,D9s]
   rfl
  ·have h1:decide ((l.length:Int)<(l.length:Int))=false:=decide_eq_false (by omega)
   simp only [L5,h1,cond_false]
 simp only [B2O,B8e,K9,Q2,e]
 cases decide (l.findIdx (isK k)<l.length)<;>exact ⟨rfl,rfl⟩
theorem D7z (l:LBBe) (k:ByteArray) (hl:l.length≤1099511627776):B48 l k=true∧D7y l k=(match F4B l k with | some v=>(v,true) | none=>((⟨#[]⟩:ByteArray),false)):=by
 obtain ⟨p1,p2⟩:=E0A l k hl
 simp only [B48,D7y,p1,p2,F4B,E2x (isK k) dP l,Bool.true_and]
 cases hc:decide (l.findIdx (isK k)<l.length) with
 | true =>
  have hlt:=of_decide_eq_true hc
  have g1:decide (((l.findIdx (isK k):Nat):Int)<0)=false:=decide_eq_false (by omega)
  have g2:decide (0≤((l.findIdx (isK k):Nat):Int)∧((l.findIdx (isK k):Nat):Int)<(l.length:Int))=true:=decide_eq_true (by omega)
  simp only [cond_true,g1,g2,cond_false,Int.toNat_natCast]
  exact ⟨trivial,rfl⟩
 | false=>exact ⟨rfl,rfl⟩
theorem E9v (m:LBBe) (k:ByteArray) (hm:m.length≤1099511627776):D7y m k=B6z m k:=by
 rw [(D8m m k hm).2,(D7z m k hm).2]
 all_goals (cases F4B m k<;>rfl)
theorem E9x (m:LBBe) (ops:Lq2) (hm:m.length≤1099511627776) (ho:ops.length≤1048576):B2g m ops=true∧B9O m ops=D1A m ops:=by
 have e:B85 m ops (ops.length:Int) 0=cond (ops.any (misses m)) (0,false) (1,false):=by
  refine A92 (ss:=fun v:B7h=>B9u v.1 v.2.1 v.2.2.1 v.2.2.2) (fa:=C33) (fun i=>((m,ops,(ops.length:Int),(i:Int)):B7h)) ops dOp (misses m) _ _ (by omega) (fun i hi=>?_) ?_
  ·have h1:decide ((i:Int)<(ops.length:Int))=true:=decide_eq_true (by omega)
   have h2:decide (0≤(i:Int)∧(i:Int)<(ops.length:Int))=true:=decide_eq_true (by omega)
   simp only [B9u,D3r,C7I,Int.toNat_natCast,h1,h2,cond_true,A6N i (by omega),(D7z m _ hm).1,E9v m _ hm,misses]
   generalize ((ops.getD i dOp).1 != 3)=a
   generalize (!((B6z m (ops.getD i dOp).2.1).2==(!((ops.getD i dOp).2.2.toList==(⟨#[]⟩:ByteArray).toList))))=b
   generalize (!((B6z m (ops.getD i dOp).2.1).1.toList==(ops.getD i dOp).2.2.toList))=c
   cases a<;>cases b<;>cases c<;>rfl
  ·have h1:decide ((ops.length:Int)<(ops.length:Int))=false:=decide_eq_false (by omega)
   simp only [B9u,h1,cond_false]
 simp only [B2g,B9O,e,D1A]
 cases ops.any (misses m)<;>exact ⟨rfl,rfl⟩
theorem F4U {l:List O3} (h:E3g l) {i j:Nat} (hi:i<l.length) (hj:j<l.length) (e:(l.getD i I5).2.1=(l.getD j I5).2.1):i=j:=by
 have hg:∀ k (hk:k<l.length),(l.getD k I5).2.1=(l.map (·.2.1))[k]'(by simpa using hk):=fun k hk=>by simp [List.getD_eq_getElem?_getD,hk]
 rw [hg i hi,hg j hj] at e
 exact (List.getElem_inj h).1 e
theorem F5u {l:List O3} (h:E3g l) (t:Int) (hl:l.length≤1099511627776) (ha:l.any (P9 t)=true):C9T l t=((l.findIdx (P9 t):Nat):Int)∧A8a l t=((l.findIdx (P9 t):Nat):Int)∧l.findIdx (P9 t)<l.length∧(l.getD (l.findIdx (P9 t)) I5).2.1=t:=by
 have h1:=List.findIdx_lt_length.2 (List.any_eq_true.1 ha)
 have h2:l.reverse.findIdx (P9 t)<l.length:=by
  rw [← List.length_reverse]
  refine List.findIdx_lt_length.2 ?_
  obtain ⟨x,hx,hp⟩:=List.any_eq_true.1 ha
  exact ⟨x,List.mem_reverse.2 hx,hp⟩
 have p1:P9 t (l.getD (l.findIdx (P9 t)) I5)=true:=by
  have:=List.findIdx_getElem (w:=h1)
  rw [List.getD_eq_getElem?_getD,List.getElem?_eq_getElem h1];exact this
 have p2:P9 t (l.getD (l.length - 1 - l.reverse.findIdx (P9 t)) I5)=true:=by
  have h3:l.reverse.findIdx (P9 t)<l.reverse.length:=by rw [List.length_reverse];exact h2
  have:=List.findIdx_getElem (w:=h3)
  have e:l.reverse.getD (l.reverse.findIdx (P9 t)) I5=l.getD (l.length - 1 - l.reverse.findIdx (P9 t)) I5:=by
   simp only [List.getD_eq_getElem?_getD]
   rw [List.getElem?_reverse h2]
  rw [← e,List.getD_eq_getElem?_getD,List.getElem?_eq_getElem h3];exact this
 have p1':(l.getD (l.findIdx (P9 t)) I5).2.1=t:=beq_iff_eq.1 (show ((l.getD (l.findIdx (P9 t)) I5).2.1==t)=true from p1)
 have p2':(l.getD (l.length - 1 - l.reverse.findIdx (P9 t)) I5).2.1=t:=beq_iff_eq.1 (show ((l.getD (l.length - 1 - l.reverse.findIdx (P9 t)) I5).2.1==t)=true from p2)
 have hij:=F4U h (i:=l.findIdx (P9 t)) (j:=l.length - 1 - l.reverse.findIdx (P9 t)) h1 (by omega) (by rw [p1', p2'])
 refine ⟨by rw [(D3w l t hl).2,decide_eq_true h1];rfl,?_,h1,p1'⟩
 rw [(C8u l t hl).2,decide_eq_true h2]
 simp only [cond_true]
 omega
theorem E6S (l:LBBe) (k v:ByteArray) (hl:l.length≤1099511627776):B49 k v l=true∧E1T k v l=E9Z l k v:=by
 obtain ⟨p1,p2⟩:=E0A l k hl
 have e1:B6d k v 0 l=(0,k,v,((l.findIdx (B6s k):Nat):Int),l):=by
  have h:=B11 (ss:=fun u:B4O=>B6I u.1 u.2.1 u.2.2.1 u.2.2.2) (fa:=C7u) (fun i=>((k,v,(i:Int),l):B4O)) l dP (B6s k) (fun i=>((0,k,v,(i:Int),l):B4J)) (0,k,v,(l.length:Int),l) (by omega) (fun i hi=>?_) ?_
  ·refine h.trans ?_
   by_cases hc:l.findIdx (B6s k)<l.length
   ·rw [decide_eq_true hc];rfl
   ·have:=B40 (B6s k) l
    have he:l.findIdx (B6s k)=l.length:=by omega
    rw [decide_eq_false hc,he];rfl
  ·have h1:decide ((i:Int)<(l.length:Int))=true:=decide_eq_true (by omega)
   have h2:decide (0≤(i:Int)∧(i:Int)<(l.length:Int))=true:=decide_eq_true (by omega)
   simp only [B6I,h1,h2,cond_true,Int.toNat_natCast,A6N i (by omega),B35,B6s]
   cases (Op.bytesLess (l.getD i dP).1.toList k.toList||(l.getD i dP).1.toList==k.toList)<;>rfl
  ·have h1:decide ((l.length:Int)<(l.length:Int))=false:=decide_eq_false (by omega)
   simp only [B6I,h1,cond_false]
 have hle:=B40 (B6s k) l
 simp only [B49,E1T,p1,p2,D55,e1,F1O,F96,E9Z,Int.toNat_natCast]
 cases hc:decide (l.findIdx (isK k)<l.length) with
 | true =>
  have hlt:=of_decide_eq_true hc
  have g1:decide (((l.findIdx (isK k):Nat):Int) ≥ 0)=true:=decide_eq_true (by omega)
  have g2:decide (0≤((l.findIdx (isK k):Nat):Int)∧((l.findIdx (isK k):Nat):Int)<(l.length:Int))=true:=decide_eq_true (by omega)
  simp only [cond_true,g1,g2,Int.toNat_natCast,Bool.true_and]
  exact ⟨trivial,rfl⟩
 | false =>
  have g1:decide ((-1:Int) ≥ 0)=false:=by decide
  have g2:decide (0≤((l.findIdx (B6s k):Nat):Int)∧((l.findIdx (B6s k):Nat):Int)≤(l.length:Int))=true:=decide_eq_true (by omega)
  have g3:decide ((l.length+1)*32≤140737488355328)=true:=decide_eq_true (by omega)
  simp only [cond_false,g1,g2,g3,Bool.true_and]
  exact ⟨rfl,rfl⟩
theorem F2r {α:Type} {p:α→Bool} {x:α} (h:p x=false):[x].filter p=[]:=by simp [List.filter_cons,h]
theorem F95 {α:Type} {p:α→Bool} {x:α} (h:p x=true):[x].filter p=[x]:=by simp [List.filter_cons,h]
theorem E6x (l:LBBe) (k:ByteArray) (hl:l.length≤1099511627776) (j:Nat) (hj:j<l.length) (hpre:(l.take j).filter (fun p=>!isK k p)=l.take j) (hat:isK k (l.getD j dP)=true) :
  ∃ r:LBBe,A7r ((j:Nat):Int) (((j+1:Nat):Int)) l k=(0,(((D81 l k).length:Nat):Int),r)∧r.length=l.length∧r.take (D81 l k).length=D81 l k:=by
 refine A58 (fun v:Q0=>∃ (m:Nat) (r:LBBe),v=(((((l.take m).filter (fun p=>!isK k p)).length:Nat):Int),(m:Int),r)∧m≤l.length∧((l.take m).filter (fun p=>!isK k p)).length<m∧r.length=l.length∧r.take ((l.take m).filter (fun p=>!isK k p)).length=(l.take m).filter (fun p=>!isK k p)∧r.drop m=l.drop m)
  (fun a:N5=>∃ r:LBBe,a=(0,(((D81 l k).length:Nat):Int),r)∧r.length=l.length∧r.take (D81 l k).length=D81 l k) (fun v=>l.length - v.2.1.toNat) ?_ ⟨j+1,l,?_,by omega,?_,rfl,?_,rfl⟩ (by simp;omega)
 ·rintro v ⟨m,r,rfl,hm,hlt2,hr,ht,hd⟩
  by_cases hlt:m<l.length
  ·left
   have h1:decide ((m:Int)<(r.length:Int))=true:=decide_eq_true (by omega)
   have h2:decide (0≤(m:Int)∧(m:Int)<(r.length:Int))=true:=decide_eq_true (by omega)
   have h3:decide (0≤((((l.take m).filter (fun p=>!isK k p)).length:Nat):Int)∧((((l.take m).filter (fun p=>!isK k p)).length:Nat):Int)<(r.length:Int))=true:=decide_eq_true (by omega)
   have hg:r.getD m dP=l.getD m dP:=by
    have:=congrArg (fun x:LBBe=>x[0]?) hd
    simp only [List.getElem?_drop,Nat.add_zero] at this
    simp only [List.getD_eq_getElem?_getD,this]
   have htk:l.take (m+1)=l.take m++[l.getD m dP]:=L9 hlt dP
   have hdd:∀ x:LBBe,x.drop m=l.drop m→x.drop (m+1)=l.drop (m+1):=fun x hx=>by
    rw [← List.drop_drop,← List.drop_drop,hx]
   cases hc:isK k (l.getD m dP) with
   | true =>
    have hf:(l.take (m+1)).filter (fun p=>!isK k p)=(l.take m).filter (fun p=>!isK k p):=by rw [htk,List.filter_append,F2r (by rw [hc];rfl),List.append_nil]
    refine ⟨(((((l.take (m+1)).filter (fun p=>!isK k p)).length:Nat):Int),((m+1:Nat):Int),r),?_,⟨m+1,r,rfl,by omega,by rw [hf];omega,hr,by rw [hf];exact ht,hdd r hd⟩,by simp only [Int.toNat_natCast];omega⟩
    have hk:M5 (m:Int) r k=true:=by simp only [M5,C1i,B35,Int.toNat_natCast,hg];exact hc
    simp only [P8,h1,h2,hk,cond_true,Bool.not_true,cond_false,A6N m (by omega),hf]
   | false =>
    have hf:(l.take (m+1)).filter (fun p=>!isK k p)=(l.take m).filter (fun p=>!isK k p)++[l.getD m dP]:=by rw [htk,List.filter_append,F95 (by rw [hc];rfl)]
    refine ⟨(((((l.take (m+1)).filter (fun p=>!isK k p)).length:Nat):Int),((m+1:Nat):Int),r.set ((l.take m).filter (fun p=>!isK k p)).length (l.getD m dP)),?_,⟨m+1,_,rfl,by omega,by rw [hf];simp;omega,by simp [hr],?_,hdd _ ?_⟩,by simp only [Int.toNat_natCast];omega⟩
    ·have hk:M5 (m:Int) r k=false:=by simp only [M5,C1i,B35,Int.toNat_natCast,hg];exact hc
     have hfl:(((l.take m).filter (fun p=>!isK k p))++[l.getD m dP]).length=((l.take m).filter (fun p=>!isK k p)).length+1:=by simp
     simp only [P8,h1,h2,h3,hk,cond_true,Bool.not_false,A6N m (by omega),A6N ((l.take m).filter (fun p=>!isK k p)).length (by omega),hf,hfl,Int.toNat_natCast,B35,hg]
    ·rw [hf,List.length_append,List.length_singleton,List.take_add_one,List.take_set_of_le (Nat.le_refl _),ht]
     congr 1
     simp [List.getElem?_set,show ((l.take m).filter (fun p=>!isK k p)).length<r.length by omega]
    ·rw [List.drop_set_of_lt hlt2];exact hd
  ·right
   obtain rfl:m=l.length:=by omega
   have h1:decide ((l.length:Int)<(r.length:Int))=false:=decide_eq_false (by omega)
   rw [List.take_length] at ht
   refine ⟨(0,(((D81 l k).length:Nat):Int),r),?_,r,rfl,hr,ht⟩
   simp only [P8,h1,cond_false,List.take_length]
   rfl
 ·rw [L9 hj dP,List.filter_append,hpre,F2r (by rw [hat];rfl),List.append_nil,List.length_take];congr 2;omega
 ·rw [L9 hj dP,List.filter_append,hpre,F2r (by rw [hat];rfl),List.append_nil,List.length_take];omega
 ·rw [L9 hj dP,List.filter_append,hpre,F2r (by rw [hat];rfl),List.append_nil,List.length_take,Nat.min_eq_left (by omega)]
theorem E6M (l:LBBe) (k:ByteArray) (hl:l.length≤1099511627776):B47 l k=true∧E1Q l k=D81 l k:=by
 have e:L2 (l.length:Int) 0 l k=cond (decide (l.findIdx (isK k)<l.length)) (0,((l.findIdx (isK k):Nat):Int)) (1,0):=by
  refine B11 (ss:=fun v:J8=>L4 v.1 v.2 l k) (fa:=R5) (fun i=>(((l.length:Int),(i:Int)):J8)) l dP (isK k) (fun i=>((0,(i:Int)):J6)) _ (by omega) (fun i hi=>?_) ?_
  ·have h1:decide ((i:Int)<(l.length:Int))=true:=decide_eq_true (by omega)
   have h2:decide (0≤(i:Int)∧(i:Int)<(l.length:Int))=true:=decide_eq_true (by omega)
   simp only [L4,h1,h2,cond_true,Int.toNat_natCast,A6N i (by omega),B35,T5,C1i]
   rfl
  ·have h1:decide ((l.length:Int)<(l.length:Int))=false:=decide_eq_false (by omega)
   simp only [L4,h1,cond_false]
 have hq:M0 l=true:=decide_eq_true (by simp [MAXB];omega)
 have hdf:M9 l k=true∧(V4 l k).1=D81 l k:=by
  have hidx:I8 l k=true∧J5 l k=cond (decide (l.findIdx (isK k)<l.length)) ((l.findIdx (isK k):Nat):Int) (-1):=by
   simp only [I8,J5,e]
   cases decide (l.findIdx (isK k)<l.length)<;>exact ⟨rfl,rfl⟩
  simp only [M9,V4,X5,hidx.1,hidx.2,Bool.true_and]
  cases hc:decide (l.findIdx (isK k)<l.length) with
  | false =>
   have hge:=of_decide_eq_false hc
   simp only [cond_false,show ((-1:Int)==-1)=true from rfl,cond_true]
   refine ⟨trivial,?_⟩
   symm
   apply List.filter_eq_self.2
   intro p hp
   have:=List.findIdx_eq_length.1 (show l.findIdx (isK k)=l.length by have:=B40 (isK k) l;omega) p hp
   rw [this];rfl
  | true =>
   have hlt:=of_decide_eq_true hc
   have hat:isK k (l.getD (l.findIdx (isK k)) dP)=true:=by
    have:=List.findIdx_getElem (w:=hlt)
    simpa [List.getD_eq_getElem?_getD,hlt] using this
   have hpre:(l.take (l.findIdx (isK k))).filter (fun p=>!isK k p)=l.take (l.findIdx (isK k)):=by
    apply List.filter_eq_self.2
    intro p hp
    obtain ⟨i,hi,rfl⟩:=List.mem_iff_getElem.1 hp
    rw [List.length_take] at hi
    have:=List.not_of_lt_findIdx (p:=isK k) (xs:=l) (i:=i) (by omega)
    simpa using this
   obtain ⟨r,r1,r2,r3⟩:=E6x l k hl _ hlt hpre hat
   have hne:(((l.findIdx (isK k):Nat):Int)==-1)=false:=by simp only [beq_eq_false_iff_ne];omega
   have hdl:=E9e l k
   simp only [cond_true,hne,cond_false,A6N _ (show l.findIdx (isK k)<9223372036854775807 by omega),r1,Int.toNat_natCast]
   constructor
   ·simp only [Bool.and_eq_true,decide_eq_true_eq,List.length_append,List.length_take,List.length_replicate,List.length_drop]
    refine ⟨rfl,?_,?_⟩<;>omega
   ·rw [r3,List.append_assoc,List.take_left']
    rfl
 simp only [B47,E1Q,N4,hq,hdf.1,hdf.2,Bool.and_self]
 exact ⟨trivial,trivial⟩
theorem E9w (m:LBBe) (l:Lq2) (hm:m.length≤1000000000) (hl:l.length≤1000000000):B6v m l=true∧C7J m l=l.foldl D5o m:=by
 have h:B84 l (l.length:Int) 0 m=(0,l.foldl D5o m):=by
  refine E9A (ss:=fun v:B7g=>B9t v.1 v.2.1 v.2.2.1 v.2.2.2) (fa:=B81) (fun i b=>((l,(l.length:Int),(i:Int),b):B7g)) l dOp D5o (fun b=>((0,b):B67)) (fun i b=>b.length≤m.length+i) (by omega) (fun i b hi hb=>⟨?_,by have:=E8M b (l.getD i dOp);omega⟩) (fun b hb=>?_) (by simp)
  ·have h1:decide ((i:Int)<(l.length:Int))=true:=decide_eq_true (by omega)
   have h2:decide (0≤(i:Int)∧(i:Int)<(l.length:Int))=true:=decide_eq_true (by omega)
   have e:l.getD i ((0:Int),((⟨#[]⟩:ByteArray),(⟨#[]⟩:ByteArray)))=l.getD i dOp:=rfl
   obtain ⟨p1,p2⟩:=E6S b (l.getD i dOp).2.1 (l.getD i dOp).2.2 (by omega)
   obtain ⟨d1,d2⟩:=E6M b (l.getD i dOp).2.1 (by omega)
   simp only [B9t,h1,h2,cond_true,Int.toNat_natCast,A6N i (by omega),e,D3q,D3u,p1,p2,d1,d2,D5o]
   cases (l.getD i dOp).1==1<;>cases (l.getD i dOp).1==2<;>rfl
  ·have h1:decide ((l.length:Int)<(l.length:Int))=false:=decide_eq_false (by omega)
   simp only [B9t,h1,cond_false]
 have hq:M0 m=true:=decide_eq_true (by simp [MAXB];omega)
 simp only [B6v,C7J,N4,h,hq]
 exact ⟨rfl,trivial⟩
theorem F4y (h:List O3) (k:Nat) (hk:k<h.length) (hl:h.length≤1099511627776):N2 (k:Int) ((k+1:Nat):Int) h=true∧U5 (k:Int) ((k+1:Nat):Int) h=h.eraseIdx k:=by
 have e0:((k:Int)==((k+1:Nat):Int))=false:=beq_eq_false_iff_ne.2 (by omega)
 have e1:=D4u h (k+1)
 have e2:(h.drop (k+1)).length=h.length - (k+1):=List.length_drop
 have e3:(h.take k++h.drop (k+1)).length=k+(h.drop (k+1)).length:=by rw [List.length_append,List.length_take];omega
 simp only [N2,U5,Int.toNat_natCast,e0,cond_false,e1]
 have e4:(h.take k++h.drop (k+1)++h.drop (k+(h.drop (k+1)).length)).take (k+(h.drop (k+1)).length)=h.take k++h.drop (k+1):=List.take_left' e3
 have e5:(h.take k++h.drop (k+1)++h.drop (k+(h.drop (k+1)).length)).length=h.length:=by
  simp only [List.length_append,List.length_take,List.length_drop];omega
 refine ⟨?_,?_⟩
 ·rw [e5]
  simp only [Bool.and_eq_true,decide_eq_true_eq]
  refine ⟨by omega,by omega,by omega,by omega,by omega⟩
 ·rw [e4,List.append_assoc,List.take_left' e3,List.eraseIdx_eq_take_drop_succ]
theorem F4a (r:O3) (ahead:List O3) (m:List A9b) (held:List O3) (hr:Q9 r.2.2=true) (hok:B6A r.1 r.2.1 r.2.2=true) (hm:m.length≤1000) (hh:held.length≤1048576) (ha:ahead.length≤1048576) (ho:∀ x∈held,Q9 x.2.2=true) (h1:E3g held) :
  V2 r.1 r.2.1 r.2.2 ahead m held=true∧(match D3b (ahead.any (P9 r.2.1)) m held r with
   | none=>(B10 r.1 r.2.1 r.2.2 ahead m held).1=false
   | some (m', h')=>B10 r.1 r.2.1 r.2.2 ahead m held=(true,m', h')):=by
 have a1:=(C8u held r.2.1 (by omega)).1
 have a2:=(E5W held r.2.1 (by omega)).1
 have a3:=(C8u ahead r.2.1 (by omega)).1
 have a4:=(E5W ahead r.2.1 (by omega)).2
 have hl:=A7a hr
 obtain ⟨c1,c2⟩:=E6L held r.2.2 (by omega) (fun x hx=>A7a (ho x hx)) hl
 obtain ⟨d1,d2⟩:=E9x m r.2.2 (by omega) hl
 have f1:decide ((held.length+[((1:Int),(r.2.1,r.2.2))].length)*40≤MAXB)=true:=decide_eq_true (by simp only [List.length_singleton,MAXB];omega)
 have f3:M6 r.2.2=true:=decide_eq_true (by simp only [List.length_nil,MAXB];omega)
 have f4:N0 r.2.2=r.2.2:=rfl
 simp only [V2,B10,D3b,a1,a2,a3,a4,c1,c2,d1,d2,f1,f3,f4,hok,Bool.true_and,Bool.and_true,Bool.not_true,cond_false]
 cases hk:(r.1==1) with
 | true =>
  simp only [cond_true]
  cases ahead.any (P9 r.2.1) with
  | true=>first | exact ⟨rfl,rfl⟩ | exact ⟨trivial,rfl⟩
  | false =>
   cases B8l held r.2.2 with
   | true=>first | exact ⟨rfl,rfl⟩ | exact ⟨trivial,rfl⟩
   | false =>
    cases D1A m r.2.2 with
    | false=>first | exact ⟨rfl,rfl⟩ | exact ⟨trivial,rfl⟩
    | true=>first | exact ⟨rfl,rfl⟩ | exact ⟨trivial,rfl⟩
 | false =>
  simp only [cond_false]
  cases ha2:held.any (P9 r.2.1) with
  | false =>
   simp only [Bool.not_false,cond_true]
   cases (r.1==3) with
   | false=>first | exact ⟨rfl,rfl⟩ | exact ⟨trivial,rfl⟩
   | true=>cases ahead.any (P9 r.2.1) with
    | true=>first | exact ⟨rfl,rfl⟩ | exact ⟨trivial,rfl⟩
    | false=>first | exact ⟨rfl,rfl⟩ | exact ⟨trivial,rfl⟩
  | true =>
   obtain ⟨_,e1,hlt,_⟩:=F5u h1 r.2.1 (by omega) ha2
   generalize hi:held.findIdx (P9 r.2.1)=i at hlt e1 ⊢
   have e2:=A6N i (by omega)
   have q0:decide (0≤(i:Int)∧(i:Int)<(held.length:Int))=true:=decide_eq_true (by omega)
   obtain ⟨s1,s2⟩:=E9w m (held.getD i I5).2.2 (by omega) (by have:=A7a (ho _ (J0 hlt I5));omega)
   obtain ⟨t1,t2⟩:=F4y held i hlt (by omega)
   simp only [Bool.not_true,cond_false,e1,e2,Int.toNat_natCast,q0,B8d,s1,s2,t1,t2,Bool.true_and,Bool.and_true]
   cases (r.1==2) with
   | true =>
    simp only [cond_true]
    refine ⟨trivial,?_⟩
    cases decide (((((held.getD i I5).2.2.foldl D5o m).length:Nat):Int)≤60) with
    | true=>rfl
    | false=>rfl
   | false =>
    simp only [cond_false]
    refine ⟨trivial,?_⟩
    cases decide ((m.length:Int)≤60) with
    | true=>rfl
    | false=>rfl
theorem E6O (l:List O3) (hl:l.length≤1048576) (hr:∀ x∈l,Q9 x.2.2=true):A8R l=true∧B41 l=B0V l:=by
 have key:((X6 l).1=0∧(X6 l).2.1=false∧B9i l l.length=none)∨((X6 l).1=1∧B9i l l.length=some ((X6 l).2.2.1,(X6 l).2.2.2)):=by
  refine A58 (ss:=fun v:B0f=>A9t v.1 v.2.1 v.2.2.1 v.2.2.2.1 v.2.2.2.2.1 v.2.2.2.2.2) (fa:=A7O)
   (fun v=>∃ (i:Nat) (m:List A9b) (held:List O3),v=(l,l,(l.length:Int),(i:Int),m,held)∧i≤l.length∧B9i l i=some (m,held))
   (fun a:A8k=>(a.1=0∧a.2.1=false∧B9i l l.length=none)∨(a.1=1∧B9i l l.length=some (a.2.2.1,a.2.2.2))) (fun v=>l.length - v.2.2.2.1.toNat) ?_ ⟨0,[],[],rfl,Nat.zero_le _,rfl⟩ (by simp;omega)
  rintro v ⟨i,m,held,rfl,hi,hp⟩
  by_cases hlt:i<l.length
  ·have e1:decide ((i:Int)<(l.length:Int))=true:=decide_eq_true (by omega)
   have e2:decide (0≤(i:Int)∧(i:Int)<(l.length:Int))=true:=decide_eq_true (by omega)
   have e3:decide (0≤(0:Int)∧(0:Int)≤(i:Int)∧(i:Int)≤(l.length:Int))=true:=decide_eq_true (by omega)
   have I:=F1Q hr i hi m held hp
   have g0:C3a (l.getD i I5).1 (l.getD i I5).2.1 (l.getD i I5).2.2=true:=hr _ (J0 hlt I5)
   simp only [A9t,B6k,B6p,e1,e2,e3,cond_true,Int.toNat_natCast,Int.toNat_zero,List.drop_zero,B8d,g0,← F1P,A6N i (by omega)]
   cases hok:B6A (l.getD i I5).1 (l.getD i I5).2.1 (l.getD i I5).2.2 with
   | false =>
    simp only [Bool.not_false,cond_true]
    exact .inr ⟨_,rfl,.inl ⟨rfl,rfl,E3G hlt hp (by simp only [D3b,hok,Bool.not_false,cond_true])⟩⟩
   | true =>
    obtain ⟨o1,o2⟩:=F4a (l.getD i I5) (l.take i) m held (hr _ (J0 hlt I5)) hok (by have:=I.hml;omega) (by have:=I.hlen;omega) (by rw [List.length_take];omega) (fun x hx=>(I.hmem x hx).1) I.hone
    simp only [Bool.not_true,cond_false,o1,cond_true]
    cases hst:D3b ((l.take i).any (P9 (l.getD i I5).2.1)) m held (l.getD i I5) with
    | none =>
     rw [hst] at o2
     simp only [o2,Bool.not_false,cond_true]
     exact .inr ⟨_,rfl,.inl ⟨rfl,rfl,E3G hlt hp hst⟩⟩
    | some s =>
     obtain ⟨m', h'⟩:=s
     rw [hst] at o2
     simp only [o2,Bool.not_true,cond_false]
     exact .inl ⟨_,rfl,⟨i+1,m', h', rfl,by omega,by simp only [B9i,hp,Option.bind_some];exact hst⟩,by simp only [Int.toNat_natCast];omega⟩
  ·obtain rfl:i=l.length:=by omega
   have e1:decide ((l.length:Int)<(l.length:Int))=false:=decide_eq_false (by omega)
   simp only [A9t,e1,cond_false]
   exact .inr ⟨_,rfl,.inr ⟨rfl,hp⟩⟩
 simp only [A8R,B41,B0V]
 rcases key with ⟨h1,h2,h5⟩ | ⟨h1,h2⟩
 ·rw [h1,h2,h5];exact ⟨rfl,rfl⟩
 ·rw [h1,h2];exact ⟨rfl,rfl⟩
theorem F3D {l:List O3} (h:D6c l):(B0V l).1.length≤60∧(B0V l).2.1.length≤l.length∧∀ x∈(B0V l).2.1,x.2.2.length≤1048576:=by
 simp only [B0V]
 cases hp:B9i l l.length with
 | none=>exact ⟨by simp,by simp,fun x hx=>by simp at hx⟩
 | some s =>
  have I:=F1Q (D6d h) l.length (Nat.le_refl _) s.1 s.2 (by rw [hp])
  exact ⟨I.hml,I.hlen,fun x hx=>A7a (I.hmem x hx).1⟩
noncomputable def qP (x y:ByteArray×ByteArray):Bool:=(x.1.toList==y.1.toList)&&((x.2.toList==y.2.toList)&&true)
theorem E37 (a b:List A9b) (hl:a.length≤1099511627776):A8d a b=true∧B2Y a b=B64 qP a b:=by
 simp only [A8d,B2Y,B64]
 by_cases hab:a.length=b.length
 ·have e : A8C a b 0 = cond (D3c qP a b) (1, false) (0, false) := by
   refine D3p (ss:=fun v:A7N=>A8I v.1 v.2.1 v.2.2) (fa:=B08) (fun i=>((a,b,(i:Int)):A7N)) a b dP qP _ _ hab (by omega) (fun i hi=>?_) ?_
   ·have h1:decide ((i:Int)<(a.length:Int))=true:=decide_eq_true (by omega)
    have h2:decide (0≤(i:Int)∧(i:Int)<(a.length:Int))=true:=decide_eq_true (by omega)
    have h3:decide (0≤(i:Int)∧(i:Int)<(b.length:Int))=true:=decide_eq_true (by omega)
    simp only [A8I,h1,h2,h3,cond_true,Int.toNat_natCast,A6N i (by omega),B35,qP]
    generalize ((a.getD i dP).1.toList==(b.getD i dP).1.toList&&((a.getD i dP).2.toList==(b.getD i dP).2.toList&&true))=z
    cases z<;>rfl
   ·have h1:decide ((a.length:Int)<(a.length:Int))=false:=decide_eq_false (by omega)
    simp only [A8I,h1,cond_false]
  rw [D82 hab,e]
  cases D3c qP a b<;>exact ⟨rfl,rfl⟩
 ·rw [D6b hab];exact ⟨rfl,rfl⟩
theorem E06 (a b:List A9b) (hl:a.length≤1099511627776):Q8 a b=true∧Z8 a b=B64 qP a b:=by
 simp only [Q8,Z8,B64]
 by_cases hab:a.length=b.length
 ·have e : V1 a b ((a.length : Nat) : Int) 0 = cond (D3c qP a b) (1, false) (0, false) := by
   refine D3p (ss:=fun v:R1=>V5 v.1 v.2.1 v.2.2.1 v.2.2.2) (fa:=A69) (fun i=>((a,b,(a.length:Int),(i:Int)):R1)) a b dP qP _ _ hab (by omega) (fun i hi=>?_) ?_
   ·have h1:decide ((i:Int)<(a.length:Int))=true:=decide_eq_true (by omega)
    have h2:decide (0≤(i:Int)∧(i:Int)<(a.length:Int))=true:=decide_eq_true (by omega)
    have h3:decide (0≤(i:Int)∧(i:Int)<(b.length:Int))=true:=decide_eq_true (by omega)
    simp only [V5,h1,h2,h3,cond_true,Int.toNat_natCast,A6N i (by omega),B35,qP]
    generalize ((a.getD i dP).1.toList==(b.getD i dP).1.toList&&((a.getD i dP).2.toList==(b.getD i dP).2.toList&&true))=z
    cases z<;>rfl
   ·have h1:decide ((a.length:Int)<(a.length:Int))=false:=decide_eq_false (by omega)
    simp only [V5,h1,cond_false]
  rw [D82 hab,e]
  cases D3c qP a b<;>exact ⟨rfl,rfl⟩
 ·rw [D6b hab];exact ⟨rfl,rfl⟩
noncomputable def qR (x y:O3):Bool:=cond (x.1 != y.1) false (cond (x.2.1 != y.2.1) false (B64 qO x.2.2 y.2.2))
theorem E5F (a b:List O3) (hl:a.length≤1099511627776) (ho:∀ x∈a,x.2.2.length≤1048576):A8T a b=true∧B9o a b=B64 qR a b:=by
 simp only [A8T,B9o,B64]
 by_cases hab:a.length=b.length
 ·have e : A9o a b 0 = cond (D3c qR a b) (1, false) (0, false) := by
   refine D3p (ss:=fun v:A8m=>A9w v.1 v.2.1 v.2.2) (fa:=R4) (fun i=>((a,b,(i:Int)):A8m)) a b I5 qR _ _ hab (by omega) (fun i hi=>?_) ?_
   ·have h1:decide ((i:Int)<(a.length:Int))=true:=decide_eq_true (by omega)
    have h2:decide (0≤(i:Int)∧(i:Int)<(a.length:Int))=true:=decide_eq_true (by omega)
    have h3:decide (0≤(i:Int)∧(i:Int)<(b.length:Int))=true:=decide_eq_true (by omega)
    obtain ⟨o1,o2⟩:=D8o (a.getD i I5).2.2 (b.getD i I5).2.2 (by have:=ho _ (J0 hi I5);omega)
    simp only [A9w,B6o,h1,h2,h3,cond_true,Int.toNat_natCast,A6N i (by omega),B8d,o1,o2,qR]
    cases ((a.getD i I5).1 != (b.getD i I5).1)<;>cases ((a.getD i I5).2.1 != (b.getD i I5).2.1)<;>cases B64 qO (a.getD i I5).2.2 (b.getD i I5).2.2<;>rfl
   ·have h1:decide ((a.length:Int)<(a.length:Int))=false:=decide_eq_false (by omega)
    simp only [A9w,h1,cond_false]
  rw [D82 hab,e]
  cases D3c qR a b<;>exact ⟨rfl,rfl⟩
 ·rw [D6b hab];exact ⟨rfl,rfl⟩
theorem F2h (x y:O3) (hl:x.2.2.length≤1048576):B2i x.1 x.2.1 x.2.2 y.1 y.2.1 y.2.2=true∧D7C x.1 x.2.1 x.2.2 y.1 y.2.1 y.2.2=qR x y:=by
 obtain ⟨o1,o2⟩:=D4v x.2.2 y.2.2 (by omega)
 simp only [B2i,D7C,o1,o2,qR,bne]
 cases (x.1==y.1)<;>cases (x.2.1==y.2.1)<;>exact ⟨rfl,rfl⟩
theorem E2w (a b:List O3) (hl:a.length≤1099511627776) (ho:∀ x∈a,x.2.2.length≤1048576):I4 a b=true∧L8 a b=B64 qR a b:=by
 simp only [I4,L8,B64]
 by_cases hab:a.length=b.length
 ·have e : K2 b a ((a.length : Nat) : Int) 0 = cond (D3c qR a b) (1, false) (0, false) := by
   refine D3p (ss:=fun v:I6=>K3 v.1 v.2.1 v.2.2.1 v.2.2.2) (fa:=K1) (fun i=>((b,a,(a.length:Int),(i:Int)):I6)) a b I5 qR _ _ hab (by omega) (fun i hi=>?_) ?_
   ·have h1:decide ((i:Int)<(a.length:Int))=true:=decide_eq_true (by omega)
    have h2:decide (0≤(i:Int)∧(i:Int)<(a.length:Int))=true:=decide_eq_true (by omega)
    have h3:decide (0≤(i:Int)∧(i:Int)<(b.length:Int))=true:=decide_eq_true (by omega)
    obtain ⟨o1,o2⟩:=F2h (a.getD i I5) (b.getD i I5) (ho _ (J0 hi I5))
    simp only [K3,M8,h1,h2,h3,cond_true,Int.toNat_natCast,A6N i (by omega),B8d,o1,o2]
    cases qR (a.getD i I5) (b.getD i I5)<;>rfl
   ·have h1:decide ((a.length:Int)<(a.length:Int))=false:=decide_eq_false (by omega)
    simp only [K3,h1,cond_false]
  rw [D82 hab,e]
  cases D3c qR a b<;>exact ⟨rfl,rfl⟩
 ·rw [D6b hab];exact ⟨rfl,rfl⟩
theorem D8D {x:X0} (h:D7Q x):B2r x.1 x.2.1 x.2.2.1 x.2.2.2.1 x.2.2.2.2=true∧B2h x.1 x.2.1 x.2.2.1 x.2.2.2.1 x.2.2.2.2=true∧C3e x.1 x.2.1 x.2.2.1 x.2.2.2.1 x.2.2.2.2=D7A x.1 x.2.1 x.2.2.1 x.2.2.2.1 x.2.2.2.2:=by
 obtain ⟨h1,h3,h4⟩:=h
 obtain ⟨s1,s2⟩:=E8f x.2.1 h1.1 (D6d h1)
 obtain ⟨i1,i2⟩:=E6O x.2.1 h1.1 (D6d h1)
 obtain ⟨r1,r2,r3⟩:=F3D h1
 have hl1:=h1.1
 have hl4:=h4.1
 obtain ⟨a1,a2⟩:=E37 (B0V x.2.1).1 x.2.2.2.1 (by omega)
 obtain ⟨b1,b2⟩:=E06 (B0V x.2.1).1 x.2.2.2.1 (by omega)
 obtain ⟨c1,c2⟩:=E5F (B0V x.2.1).2.1 x.2.2.2.2 (by omega) r3
 obtain ⟨d1,d2⟩:=E2w (B0V x.2.1).2.1 x.2.2.2.2 (by omega) r3
 have w1:=A50 (n:=(x.2.1.length:Int)+(x.2.2.2.2.length:Int)) (by omega) (by omega)
 have w2:=A50 (n:=(x.2.1.length:Int)+(((B0V x.2.1).2.1.length:Nat):Int)) (by omega) (by omega)
 have n1:∀ z:Int,E0l z=L0 z 0 7:=fun z=>rfl
 have n2:∀ z p q:Int,M4 z p q=L0 z p q:=fun z p q=>rfl
 simp only [B2r,B2h,C3e,D7A,s1,s2,i1,i2,a1,a2,b1,b2,c1,c2,d1,d2,w1,w2,n1,n2,Bool.true_and]
 cases L0 x.1 0 7 with
 | false=>exact ⟨rfl,rfl,rfl⟩
 | true =>
  simp only [Bool.not_true,cond_false]
  cases L0 x.2.2.1 0 (x.2.1.length:Int) with
  | false =>
   simp only [Bool.not_false,cond_true,cond_false]
   cases decide ((x.2.1.length:Int) > 300)<;>first | exact ⟨rfl,rfl,rfl⟩ | exact ⟨rfl,trivial,rfl⟩ | exact ⟨trivial,rfl,rfl⟩ | exact ⟨trivial,trivial,rfl⟩ | exact ⟨rfl,rfl,trivial⟩ | (simp)
  | true =>
   simp only [Bool.not_true,cond_false]
   cases hrep:(B0V x.2.1).2.2 with
   | false=>cases decide ((x.2.1.length:Int) > 300)<;>cases decide ((x.2.1.length:Int)+(x.2.2.2.2.length:Int) > 300)<;>exact ⟨rfl,rfl,rfl⟩
   | true =>
    simp only [cond_true]
    cases B64 qP (B0V x.2.1).1 x.2.2.2.1 with
    | false=>cases decide ((x.2.1.length:Int) > 300)<;>cases decide ((x.2.1.length:Int)+(x.2.2.2.2.length:Int) > 300)<;>exact ⟨rfl,rfl,rfl⟩
    | true =>
     simp only [cond_true]
     cases hs:B64 qR (B0V x.2.1).2.1 x.2.2.2.2 with
     | false=>cases decide ((x.2.1.length:Int) > 300)<;>cases decide ((x.2.1.length:Int)+(x.2.2.2.2.length:Int) > 300)<;>exact ⟨rfl,rfl,rfl⟩
     | true =>
      have hlen:(B0V x.2.1).2.1.length=x.2.2.2.2.length:=by
       by_cases he:(B0V x.2.1).2.1.length=x.2.2.2.2.length
       ·exact he
       ·simp only [B64,D6b he,cond_true] at hs;cases hs
      rw [hlen]
      by_cases g1:(x.2.1.length:Int) > 300
      ·rw [decide_eq_true g1,decide_eq_true (show (x.2.1.length:Int)+(x.2.2.2.2.length:Int) > 300 by omega)]
       exact ⟨rfl,rfl,rfl⟩
      ·rw [decide_eq_false g1]
       by_cases g2:(x.2.1.length:Int)+(x.2.2.2.2.length:Int) > 300
       ·rw [decide_eq_true g2,decide_eq_false (show ¬ (x.2.1.length:Int)+(x.2.2.2.2.length:Int)≤300 by omega)]
        exact ⟨rfl,rfl,rfl⟩
       ·rw [decide_eq_false g2,decide_eq_true (show (x.2.1.length:Int)+(x.2.2.2.2.length:Int)≤300 by omega)]
        exact ⟨rfl,rfl,rfl⟩
theorem E9t (l:List X0) (i:Nat):l.getD i ((0:Int),([],((0:Int),([],[]))))=l.getD i L6:=rfl
theorem E8j (a0 a1 a2:Int) {a3:List A9N} {a4:LIbe} (a5:Int) {a6:List X0} {a7 a8:List A8V} {a9:List T0} (h:E7e a3 a4 a6 a7 a8 a9) :
  B4H a0 a1 a2 a3 a4 a5 a6 a7 a8 a9=true∧B4u a0 a1 a2 a3 a4 a5 a6 a7 a8 a9=true∧D7B a0 a1 a2 a3 a4 a5 a6 a7 a8 a9=D8n a0 a1 a2 a3 a4 a5 a6 a7 a8 a9:=by
 obtain ⟨h3,hj,h4,h6,h7,h8,h9⟩:=h
 obtain ⟨c1,c2,c3⟩:=E6w a0 a1 a2 a5 h3 hj h4
 obtain ⟨⟨n1,n2⟩,n3⟩:=E4i a0 a1 a2 a3 a4 a5 a6 a7 a8 a9 h7
 obtain ⟨⟨u1,u2⟩,u3⟩:=E4i a0 a1 a2 a3 a4 a5 a6 a7 a8 a9 h8
 obtain ⟨⟨o1,o2⟩,o3⟩:=E9Y a0 a1 a2 a5 a6 a7 a8 h3 h4 h9
 obtain ⟨hl,ho⟩:=h6
 have s:B3P 0 a0 a1 a2 a3 a4 a5 a6 a7 a8 a9=cond (E4E (C3h a6) a6.length 0) (0,false) (1,false):=by
  refine D7D (fun i=>((i:Int):B5M)) a6.length (C3h a6) (0,false) (1,false) (by omega) (fun i hi=>?_) ?_
  ·have h1:decide ((i:Int)<(a6.length:Int))=true:=decide_eq_true (by omega)
   have h2:decide (0≤(i:Int)∧(i:Int)<(a6.length:Int))=true:=decide_eq_true (by omega)
   obtain ⟨k1,k2,k3⟩:=D8D (ho _ (J0 hi L6))
   simp only [B8w,C4c,h1,h2,k1,cond_true,Int.toNat_natCast,A6N i (by omega),E9t,C3h]
   generalize ((a6.getD i L6).1 != (i:Int))=b1
   cases b1<;>cases C3e (a6.getD i L6).1 (a6.getD i L6).2.1 (a6.getD i L6).2.2.1 (a6.getD i L6).2.2.2.1 (a6.getD i L6).2.2.2.2<;>rfl
  ·have h1:decide ((a6.length:Int)<(a6.length:Int))=false:=decide_eq_false (by omega)
   simp only [B8w,h1,cond_false]
 have t:B3K a6 (a6.length:Int) 0 a0 a1 a2 a3 a4 a5 a6 a7 a8 a9=cond (E4E (C3h a6) a6.length 0) (0,false) (1,false):=by
  refine D7D (fun i=>((a6,(a6.length:Int),(i:Int)):B5L)) a6.length (C3h a6) (0,false) (1,false) (by omega) (fun i hi=>?_) ?_
  ·have h1:decide ((i:Int)<(a6.length:Int))=true:=decide_eq_true (by omega)
   have h2:decide (0≤(i:Int)∧(i:Int)<(a6.length:Int))=true:=decide_eq_true (by omega)
   obtain ⟨k1,k2,k3⟩:=D8D (ho _ (J0 hi L6))
   simp only [B8q,C4a,h1,h2,k2,← k3,cond_true,Int.toNat_natCast,A6N i (by omega),E9t,C3h]
   generalize ((a6.getD i L6).1 != (i:Int))=b1
   cases b1<;>cases C3e (a6.getD i L6).1 (a6.getD i L6).2.1 (a6.getD i L6).2.2.1 (a6.getD i L6).2.2.2.1 (a6.getD i L6).2.2.2.2<;>rfl
  ·have h1:decide ((a6.length:Int)<(a6.length:Int))=false:=decide_eq_false (by omega)
   simp only [B8q,h1,cond_false]
 simp only [B4H,B4u,D8n,D7B,s,t,c1,c2,c3,n1,n2,n3,u1,u2,u3,o1,o2,o3]
 generalize ((a6.length:Int) != a0)=b1
 generalize E4E (C3h a6) a6.length 0=b2
 cases C3d a0 a1 a2 a3 a4 a5<;>cases b1<;>cases b2<;>cases Q5 a7 a0 a1 a2 a3 a4 a5 a6 a7 a8 a9<;>cases Q5 a8 a0 a1 a2 a3 a4 a5 a6 a7 a8 a9<;>cases A9l a0 a1 a2 a3 a4 a5 a6 a7 a8 a9<;>exact ⟨rfl,rfl,rfl⟩
theorem F1b {l:List A9N} (h:A2C tq5 l=true):D3g l:=by
 have h:(decide (l.length≤maxLen)&&l.all fun j=>(Lit.int .i64 j.1).wf&&(A2C tq7 j.2.1&&((Lit.int .i64 j.2.2.1).wf&&(decide (j.2.2.2.length≤maxLen)&&j.2.2.2.all fun x=>(Lit.int .i64 x).wf))))=true:=h
 have hm:maxLen=9223372036854775807:=by decide
 rw [hm] at h
 simp only [Bool.and_eq_true,decide_eq_true_eq,List.all_eq_true] at h
 exact ⟨h.1,fun j hj=>⟨E5H (h.2 j hj).2.1,(h.2 j hj).2.2.2.1⟩⟩
theorem F2V {l:LIbe} (h:A2C K4 l=true):l.length≤9223372036854775807:=by
 have h:(decide (l.length≤maxLen)&&l.all fun j=>(Lit.int .i64 j.1).wf&&true)=true:=h
 have hm:maxLen=9223372036854775807:=by decide
 rw [hm] at h
 simp only [Bool.and_eq_true,decide_eq_true_eq] at h
 exact h.1
theorem E8N {a0 a1 a2:Int} {a3:List A9N} {a4:LIbe} {a5:Int} (h:A2C G0C (a0,(a1,(a2,(a3,(a4,a5)))))=true):D3g a3∧a4.length≤9223372036854775807:=by
 have h:((Lit.int .i64 a0).wf&&((Lit.int .i64 a1).wf&&((Lit.int .i64 a2).wf&&(A2C tq5 a3&&(A2C K4 a4&&(Lit.int .i64 a5).wf)))))=true:=h
 simp only [Bool.and_eq_true] at h
 exact ⟨F1b h.2.2.2.1,F2V h.2.2.2.2.1⟩
theorem D8U {l:Lq2} (h:A2C tq7 l=true):E2h l:=E5H h
theorem E2j {l:List O3} (h:A2C tq8 l=true):E1N l:=by
 have h:(decide (l.length≤maxLen)&&l.all fun x=>((Lit.int .i64 x.1).wf&&((Lit.int .i64 x.2.1).wf&&A2C tq7 x.2.2)))=true:=h
 have hm:maxLen=9223372036854775807:=by decide
 rw [hm] at h
 simp only [Bool.and_eq_true,decide_eq_true_eq,List.all_eq_true] at h
 exact ⟨h.1,fun x hx=>D8U (h.2 x hx).2.2⟩
theorem E8P {l:List A9b} (h:A2C Z3 l=true):D7b l:=by
 have h:(decide (l.length≤maxLen)&&l.all fun o=>(decide (o.1.size≤maxLen)&&decide (o.2.size≤maxLen)))=true:=h
 have hm:maxLen=9223372036854775807:=by decide
 rw [hm] at h
 simp only [Bool.and_eq_true,decide_eq_true_eq,List.all_eq_true] at h
 simp only [D7b,D7c,decide_eq_true_eq]
 exact ⟨h.1,fun o ho=>h.2 o ho⟩
theorem E6i {l:List X0} (h:A2C tq3 l=true):D8W l:=by
 have h:(decide (l.length≤maxLen)&&l.all fun x=>((Lit.int .i64 x.1).wf&&(A2C tq8 x.2.1&&((Lit.int .i64 x.2.2.1).wf&&(A2C Z3 x.2.2.2.1&&A2C tq8 x.2.2.2.2)))))=true:=h
 have hm:maxLen=9223372036854775807:=by decide
 rw [hm] at h
 simp only [Bool.and_eq_true,decide_eq_true_eq,List.all_eq_true] at h
 exact ⟨h.1,fun x hx=>⟨E2j (h.2 x hx).2.1,E8P (h.2 x hx).2.2.2.1,E2j (h.2 x hx).2.2.2.2⟩⟩
theorem D99 {l:List A8V} (h:A2C (.sl (.pair (.int .i64) (.pair (.int .i64) (.pair (.int .i64) (.pair tq7 (.bool)))))) l=true):D7d l:=by
 have h:(decide (l.length≤maxLen)&&l.all fun x=>((Lit.int .i64 x.1).wf&&((Lit.int .i64 x.2.1).wf&&((Lit.int .i64 x.2.2.1).wf&&(A2C tq7 x.2.2.2.1&&true)))))=true:=h
 have hm:maxLen=9223372036854775807:=by decide
 rw [hm] at h
 simp only [Bool.and_eq_true,decide_eq_true_eq,List.all_eq_true] at h
 exact ⟨h.1,fun x hx=>D8U (h.2 x hx).2.2.2.1⟩
theorem E6h {l:List T0} (h:A2C tq9 l=true):D8V l:=by
 have h:(decide (l.length≤maxLen)&&l.all fun x=>((Lit.int .i64 x.1).wf&&A2C tq7 x.2))=true:=h
 have hm:maxLen=9223372036854775807:=by decide
 rw [hm] at h
 simp only [Bool.and_eq_true,decide_eq_true_eq,List.all_eq_true] at h
 exact ⟨h.1,fun x hx=>D8U (h.2 x hx).2⟩
theorem E0a {a0 a1 a2:Int} {a3:List A9N} {a4:LIbe} {a5:Int} {a6:List X0} {a7 a8:List A8V} {a9:List T0} (h:A2C F7O ((a0,(a1,(a2,(a3,(a4,a5))))),(a6,(a7,(a8,a9))))=true):E2k a3 a4 a6 a7 a8 a9:=by
 have h:(A2C G0C (a0,(a1,(a2,(a3,(a4,a5)))))&&(A2C tq3 a6&&(A2C tq4 a7&&(A2C tq4 a8&&A2C tq9 a9))))=true:=h
 simp only [Bool.and_eq_true] at h
 obtain ⟨c1,c2⟩:=E8N h.1
 exact ⟨c1,c2,E6i h.2.1,D99 h.2.2.1,D99 h.2.2.2.1,E6h h.2.2.2.2⟩
theorem E01 (a0 a1 a2:Int) {a3:List A9N} {a4:LIbe} (a5:Int) {a6:List X0} {a7 a8:List A8V} {a9:List T0} (hb:E2k a3 a4 a6 a7 a8 a9):A7d a0 a1 a2 a3 a4 a5 a6 a7 a8 a9=true∧A8q a0 a1 a2 a3 a4 a5 a6 a7 a8 a9=true:=by
 obtain ⟨z1,z2⟩:=E8i hb a0 a1 a2 a5
 by_cases hd:C2P a0 a1 a2 a3 a4 a5 a6 a7 a8 a9 1048576<0
 ·simp only [A7d,A8q,z1,decide_eq_true hd,cond_true]
  exact ⟨rfl,trivial⟩
 ·have hk:=z2 (by omega)
  obtain ⟨e1,e2,e3,e4⟩:=E6z hk a0 a1 a2 a5
  obtain ⟨c1,c2,c3⟩:=E8j a0 a1 a2 a5 hk
  have e5:∀ x:Bool,(x==x)=true:=fun x=>by simp
  simp only [A7d,A8q,A93,A94,B4r,z1,decide_eq_false hd,e3,e4,c1,c2,c3,e1,e2,e5,cond_false,Bool.not_true,Bool.and_self]
  exact ⟨trivial,trivial⟩
theorem C8n (a0 a1 a2:Int) (a3:List A9N) (a4:LIbe) (a5:Int) (a6:List X0) (a7 a8:List A8V) (a9:List T0) (h:A2C F7O ((a0,(a1,(a2,(a3,(a4,a5))))),(a6,(a7,(a8,a9))))=true):A7w ((a0,a1,a2,a3,a4,a5,a6,a7,a8,a9,()),())=true:=(E01 a0 a1 a2 a5 (E0a h)).1
theorem C93 (a0 a1 a2:Int) (a3:List A9N) (a4:LIbe) (a5:Int) (a6:List X0) (a7 a8:List A8V) (a9:List T0) (h:A2C F7O ((a0,(a1,(a2,(a3,(a4,a5))))),(a6,(a7,(a8,a9))))=true):A8q a0 a1 a2 a3 a4 a5 a6 a7 a8 a9=true:=(E01 a0 a1 a2 a5 (E0a h)).2

end Go.Proofs.YtcofibhklbfgoaaGreat.Eng
