/- What the functions that FnExactCrashCoord reaches compute: further. -/
import Derived.Test.YtapikgcgahomlaaFExactCrashCoordC
namespace Go.Proofs.Ytapikgcgahomlaa.Eng
open Go Go.RowKit
set_option linter.unusedSimpArgs false
set_option linter.unusedVariables false
set_option maxRecDepth 10000
abbrev tq6:Ty:=.pair (.int .i64) (.pair (.int .i64) (.pair (.int .i64) (.pair (.sl (.pair (.int .i64) (.pair (.sl (.pair (.int .i64) (.pair .str .str))) (.pair (.int .i64) (.sl (.int .i64)))))) (.pair (.sl (.pair (.int .i64) .bool)) (.int .i64)))))
abbrev U9:List PSh:=[.agg [(.int .i64),(.int .i64),(.int .i64),tq2,tq4,(.int .i64)],.t (.int .i64)]
noncomputable def U2 (a0 a1 a2:Int) (a3:LT1) (a4:LIbe) (a5 a6:Int):=let z1:=A9P a0 a1 a2 a3 a4 a5;A76 (z1.1) (z1.2.1) (z1.2.2.1) (z1.2.2.2.2.1) (z1.2.2.2.2.2) (z1.2.2.2.1) a6
noncomputable def L8 (a0 a1 a2:Int) (a3:LT1) (a4:LIbe) (a5 a6:Int):=let z1:=A9P a0 a1 a2 a3 a4 a5;A7T (z1.1) (z1.2.1) (z1.2.2.1) (z1.2.2.2.2.1) (z1.2.2.2.2.2) (z1.2.2.2.1) a6
noncomputable def U3 (a0 a1 a2:Int) (a3:LT1) (a4:LIbe) (a5 a6:Int):=let z1:=L8 a0 a1 a2 a3 a4 a5 a6;let z2:=U2 a0 a1 a2 a3 a4 a5 a6;B6S (z1.1) (z1.2.1) (z1.2.2.1) (z1.2.2.2.2.1) (z1.2.2.2.2.2) (z1.2.2.2.1) (z2.1) (z2.2.1) (z2.2.2.1) (z2.2.2.2.1) (z2.2.2.2.2.1) (z2.2.2.2.2.2)
noncomputable def U4 (a0 a1 a2:Int) (a3:LT1) (a4:LIbe) (a5:Int):=let z1:=A9P a0 a1 a2 a3 a4 a5;B6S (z1.1) (z1.2.1) (z1.2.2.1) (z1.2.2.2.2.1) (z1.2.2.2.2.2) (z1.2.2.2.1) (z1.1) (z1.2.1) (z1.2.2.1) (z1.2.2.2.2.1) (z1.2.2.2.2.2) (z1.2.2.2.1)
noncomputable def U5 (a0 a1 a2:Int) (a3:LT1) (a4:LIbe) (a5:Int):=let z1:=A9P a0 a1 a2 a3 a4 a5;P9 (z1.1) (z1.2.1) (z1.2.2.1) (z1.2.2.2.1) (1:Int) (z1.2.2.2.2.1) (z1.2.2.2.2.2)
noncomputable def N6 (a0 a1 a2:Int) (a3:LT1) (a4:LIbe) (a5 a6:Int):=let z1:=L8 a0 a1 a2 a3 a4 a5 a6;P9 (z1.1) (z1.2.1) (z1.2.2.1) (z1.2.2.2.1) (1:Int) (z1.2.2.2.2.1) (z1.2.2.2.2.2)
noncomputable def U6 (a0 a1 a2:Int) (a3:LT1) (a4:LIbe) (a5 a6:Int):=let z1:=L8 a0 a1 a2 a3 a4 a5 a6;let z2:=N6 a0 a1 a2 a3 a4 a5 a6;B5h (z1.1) (z1.2.1) (z1.2.2.1) (z2.2.1) (z2.2.2) (z1.2.2.2.1) (1:Int)
noncomputable def O0 (a0 a1 a2:Int) (a3:LT1) (a4:LIbe) (a5 a6:Int):Bool:=let z1:=U6 a0 a1 a2 a3 a4 a5 a6;let z2:=!(U3 a0 a1 a2 a3 a4 a5 a6);let z3:=z1 != ((N6 a0 a1 a2 a3 a4 a5 a6).1);let z4:=decide (z1<(0:Int));(cond (decide ((A9O a0 a1 a2 a3 a4 a5 (1048576:Int))<(0:Int))) true (cond z2 false (cond (!(U4 a0 a1 a2 a3 a4 a5)) false (cond (decide (((U5 a0 a1 a2 a3 a4 a5).1)<(0:Int))) false (cond z2 false (cond z4 false (cond z3 false (cond z2 false (cond z4 false (cond z3 false true))))))))))
noncomputable abbrev H8 (r:Bool):AV×List AObj:=((.t true .bool r),[])
noncomputable abbrev B0R:H6 U9→AV×List AObj:=fun d=>H8 (O0 d.1.1 d.1.2.1 d.1.2.2.1 d.1.2.2.2.1 d.1.2.2.2.2.1 d.1.2.2.2.2.2.1 d.2.1)
noncomputable def M2 (a0 a1 a2:Int) (a3:LT1) (a4:LIbe) (a5 a6:Int):Bool:=let z2:=A9P a0 a1 a2 a3 a4 a5;let z3:=L8 a0 a1 a2 a3 a4 a5 a6;let z4:=U2 a0 a1 a2 a3 a4 a5 a6;let z1:=Z1 (z3.1) (z3.2.1) (z3.2.2.1) (z3.2.2.2.2.1) (z3.2.2.2.2.2) (z3.2.2.2.1) (z4.1) (z4.2.1) (z4.2.2.1) (z4.2.2.2.1) (z4.2.2.2.2.1) (z4.2.2.2.2.2);let z5:=N6 a0 a1 a2 a3 a4 a5 a6;let z6:=!(U3 a0 a1 a2 a3 a4 a5 a6);let z7:=M4 (z2.1) (z2.2.1) (z2.2.2.1) (z2.2.2.2.2.1) (z2.2.2.2.2.2) (z2.2.2.2.1) a6;let z8:=A8X a0 a1 a2 a3 a4 a5;let z9:=Z2 (z3.1) (z3.2.1) (z3.2.2.1) (z5.2.1) (z5.2.2) (z3.2.2.2.1) (1:Int);let z10:=U6 a0 a1 a2 a3 a4 a5 a6;(B0j a0 a1 a2 a3 a4 a5 (1048576:Int))&&(cond (decide ((A9O a0 a1 a2 a3 a4 a5 (1048576:Int))<(0:Int))) true (z8&&((O2 (z2.1) (z2.2.1) (z2.2.2.1) (z2.2.2.2.2.1) (z2.2.2.2.2.2) (z2.2.2.2.1) a6)&&(z8&&(z7&&(z1&&(cond z6 true (z8&&((Z1 (z2.1) (z2.2.1) (z2.2.2.1) (z2.2.2.2.2.1) (z2.2.2.2.2.2) (z2.2.2.2.1) (z2.1) (z2.2.1) (z2.2.2.1) (z2.2.2.2.2.1) (z2.2.2.2.2.2) (z2.2.2.2.1))&&(cond (!(U4 a0 a1 a2 a3 a4 a5)) true ((Q9 (z2.1) (z2.2.1) (z2.2.2.1) (z2.2.2.2.1) (1:Int) (z2.2.2.2.2.1) (z2.2.2.2.2.2))&&(cond (decide (((U5 a0 a1 a2 a3 a4 a5).1)<(0:Int))) true (z1&&(cond z6 true ((Q9 (z3.1) (z3.2.1) (z3.2.2.1) (z3.2.2.2.1) (1:Int) (z3.2.2.2.2.1) (z3.2.2.2.2.2))&&(z9&&(cond (decide (z10<(0:Int))) true (cond (z10 != (z5.1)) true (z8&&(z7&&(z1&&(cond z6 true z9))))))))))))))))))))))
noncomputable abbrev M9:H6 U9→Bool:=fun d=>M2 d.1.1 d.1.2.1 d.1.2.2.1 d.1.2.2.2.1 d.1.2.2.2.2.1 d.1.2.2.2.2.2.1 d.2.1
theorem B5u:A7s true G77 aLn Try.f10 U9 M9 B0R:=by
 rintro ⟨⟨a0,⟨a1,⟨a2,⟨a3,⟨a4,⟨a5,_⟩⟩⟩⟩⟩⟩,⟨a6,_⟩⟩ hp
 change M2 a0 a1 a2 a3 a4 a5 a6=true at hp
 unfold M2 at hp
 refine Eq.trans (b:=(let z2:=A9P a0 a1 a2 a3 a4 a5;let z3:=L8 a0 a1 a2 a3 a4 a5 a6;let z4:=N6 a0 a1 a2 a3 a4 a5 a6;let z5:=U2 a0 a1 a2 a3 a4 a5 a6;let z1:=Z1 (z3.1) (z3.2.1) (z3.2.2.1) (z3.2.2.2.2.1) (z3.2.2.2.2.2) (z3.2.2.2.1) (z5.1) (z5.2.1) (z5.2.2.1) (z5.2.2.2.1) (z5.2.2.2.2.1) (z5.2.2.2.2.2);let z6:=U6 a0 a1 a2 a3 a4 a5 a6;let z7:=!(U3 a0 a1 a2 a3 a4 a5 a6);let z8:=M4 (z2.1) (z2.2.1) (z2.2.2.1) (z2.2.2.2.2.1) (z2.2.2.2.2.2) (z2.2.2.2.1) a6;let z9:=A8X a0 a1 a2 a3 a4 a5;let z10:=Z2 (z3.1) (z3.2.1) (z3.2.2.1) (z4.2.1) (z4.2.2) (z3.2.2.2.1) (1:Int);let z11:=decide (z6<(0:Int));cond (B0j a0 a1 a2 a3 a4 a5 (1048576:Int)) (cond (decide ((A9O a0 a1 a2 a3 a4 a5 (1048576:Int))<(0:Int))) (some (H8 true)) (cond z9 (cond (O2 (z2.1) (z2.2.1) (z2.2.2.1) (z2.2.2.2.2.1) (z2.2.2.2.2.2) (z2.2.2.2.1) a6) (cond z9 (cond z8 (cond z1 (cond z7 (some (H8 false)) (cond z9 (cond (Z1 (z2.1) (z2.2.1) (z2.2.2.1) (z2.2.2.2.2.1) (z2.2.2.2.2.2) (z2.2.2.2.1) (z2.1) (z2.2.1) (z2.2.2.1) (z2.2.2.2.2.1) (z2.2.2.2.2.2) (z2.2.2.2.1)) (cond (!(U4 a0 a1 a2 a3 a4 a5)) (some (H8 false)) (cond (Q9 (z2.1) (z2.2.1) (z2.2.2.1) (z2.2.2.2.1) (1:Int) (z2.2.2.2.2.1) (z2.2.2.2.2.2)) (cond (decide (((U5 a0 a1 a2 a3 a4 a5).1)<(0:Int))) (some (H8 false)) (cond z1 (cond z7 (some (H8 false)) (cond (Q9 (z3.1) (z3.2.1) (z3.2.2.1) (z3.2.2.2.1) (1:Int) (z3.2.2.2.2.1) (z3.2.2.2.2.2)) (cond z10 (cond z11 (some (H8 false)) (cond (z6 != (z4.1)) (some (H8 false)) (cond z9 (cond z8 (cond z1 (cond z7 (some (H8 false)) (cond z10 (cond z11 (some (H8 false)) (cond (z6 != (z4.1)) (some (H8 false)) (some (H8 true)))) none)) none) none) none))) none) none)) none)) none)) none) none)) none) none) none) none) none)) none)) (by kernel_rfl) ?_
 exact (A7t hp fun hp=>(K6 H8 hp (fun hp=>rfl) (fun hp=>(A7t hp fun hp=>(A7t hp fun hp=>(A7t hp fun hp=>(A7t hp fun hp=>(A7t hp fun hp=>(K6 H8 hp (fun hp=>rfl) (fun hp=>(A7t hp fun hp=>(A7t hp fun hp=>(K6 H8 hp (fun hp=>rfl) (fun hp=>(A7t hp fun hp=>(K6 H8 hp (fun hp=>rfl) (fun hp=>(A7t hp fun hp=>(K6 H8 hp (fun hp=>rfl) (fun hp=>(A7t hp fun hp=>(A7t hp fun hp=>(K6 H8 hp (fun hp=>rfl) (fun hp=>(K6 H8 hp (fun hp=>rfl) (fun hp=>(A7t hp fun hp=>(A7t hp fun hp=>(A7t hp fun hp=>(K6 H8 hp (fun hp=>rfl) (fun hp=>(A7v hp fun _h=>(O8 H8 (fun _h=>rfl) (fun _h=>(O8 H8 (fun _h=>rfl) (fun _h=>rfl))))))))))))))))))))))))))))))))))))
theorem B6z:aPP 10 (A2W U9 M9 B0R):=pcD true G77 hlz B5u
noncomputable abbrev Q0:=Int×Lq1×Int×List Int
noncomputable def C6V (j:Q0):Prop:=B2k j.2.1=true∧j.2.2.2.length≤9223372036854775807
noncomputable def B4P (l:List Q0):Prop:=l.length≤9223372036854775807∧∀ j∈l,C6V j
noncomputable def A9Q (j:Q0):Prop:=Z9 j.2.1=true∧j.2.2.2.length≤1048576
theorem C4m (k:Int) (s v:ByteArray) (b:Int) (h0:0≤b) (h1:b≤1048576) (hs:C5T s=true) (hv:C5T v=true) (h:0≤C4i k s v b):C4i k s v b≤b∧okS s=true∧okS v=true:=by
 simp only [C5T,decide_eq_true_eq] at hs hv
 have e1:=A6A (n:=b - (s.size:Int)) (by omega) (by omega)
 simp only [C4i,e1] at h ⊢
 cases hd:decide (b - (s.size:Int)<0) with
 | true=>rw [hd] at h;simp at h
 | false =>
  rw [hd] at h
  have:=of_decide_eq_false hd
  have e2:=A6A (n:=b - (s.size:Int) - (v.size:Int)) (by omega) (by omega)
  simp only [cond_false,e2] at h ⊢
  cases hd2:decide (b - (s.size:Int) - (v.size:Int)<0) with
  | true=>rw [hd2] at h;simp at h
  | false =>
   have:=of_decide_eq_false hd2
   simp only [cond_false,okS,decide_eq_true_eq]
   omega
theorem C7y (l:Lq1) (b:Int) (h0:0≤b) (h1:b≤1048576) (hb:B2k l=true) (h:0≤A7Y l b):A7Y l b≤b∧Z9 l=true:=by
 have hl:l.length≤9223372036854775807:=by simp only [B2k,Bool.and_eq_true,decide_eq_true_eq] at hb;exact hb.1
 have e1:=A6A (n:=b - (l.length:Int)) (by omega) (by omega)
 simp only [A7Y,e1,Int.toNat_zero,Nat.sub_zero] at h ⊢
 cases hd:decide (b - (l.length:Int)<0) with
 | true=>rw [hd] at h;simp at h
 | false =>
  rw [hd] at h
  have:=of_decide_eq_false hd
  simp only [cond_false] at h ⊢
  cases hi:A7n (szN (N9 l) l.length 0 (b - (l.length:Int))) with
  | false=>rw [hi] at h;simp at h
  | true =>
   obtain ⟨r1,r2,r3⟩:=C7I (M:=1048576) (Q:=fun i=>okS (l.getD i dOp).2.1=true∧okS (l.getD i dOp).2.2=true) l.length 0 (b - (l.length:Int)) (fun j b' _ hj q0 q1 hf=>by
    obtain ⟨p1,p2⟩:=C4d hb j (by omega)
    obtain ⟨s1,s2,s3⟩:=C4m _ _ _ b' q0 q1 p1 p2 hf
    exact ⟨⟨s2,s3⟩,s1⟩) (by omega) (by omega) hi
   simp only [cond_true]
   exact ⟨by omega,C8F (by omega) (fun i hi=>r1 i (Nat.zero_le _) (by omega))⟩
theorem C6F {l:List Int} {b:Int} (hl:l.length≤9223372036854775807) (h0:0≤b) (h1:b≤1048576) (h:0≤A8e l b):A8e l b≤b∧l.length≤1048576:=by
 have e1:=A6A (n:=b - (l.length:Int)) (by omega) (by omega)
 simp only [A8e,e1] at h ⊢
 by_cases hd:b - (l.length:Int)<0
 ·rw [decide_eq_true hd] at h;simp at h
 ·rw [decide_eq_false hd];simp only [cond_false];omega
theorem C3t {j:Q0} {b:Int} (hj:C6V j) (h0:0≤b) (h1:b≤1048576):B4z j.1 j.2.1 j.2.2.1 j.2.2.2 b=true∧(0≤B2D j.1 j.2.1 j.2.2.1 j.2.2.2 b→B2D j.1 j.2.1 j.2.2.1 j.2.2.2 b≤b∧A9Q j):=by
 obtain ⟨h2,h3⟩:=hj
 refine ⟨decide_eq_true ⟨h0,h1,C6X h2⟩,fun h=>?_⟩
 simp only [B2D] at h ⊢
 by_cases hd:A7Y j.2.1 b<0
 ·rw [decide_eq_true hd] at h;simp at h
 ·obtain ⟨s1,s2⟩:=C7y _ b h0 h1 h2 (by omega)
  rw [decide_eq_false hd] at h ⊢
  simp only [cond_false] at h ⊢
  by_cases hd2:A8e j.2.2.2 (A7Y j.2.1 b)<0
  ·rw [decide_eq_true hd2] at h;simp at h
  ·obtain ⟨t1,t2⟩:=C6F h3 (by omega) (by omega) (by omega:0≤A8e j.2.2.2 (A7Y j.2.1 b))
   rw [decide_eq_false hd2]
   simp only [cond_false]
   exact ⟨by omega,s2,t2⟩
theorem P0 {α:Type} {l:List α} {i:Nat} (h:i<l.length) (d:α):l.getD i d∈l:=by
 simp [List.getD_eq_getElem?_getD,h]
noncomputable def I7:Q0:=(0,[],0,[])
theorem J8 {α:Type} {l:List α} {i:Nat} (hi:i<l.length) (d:α):l.take (i+1)=l.take i++[l.getD i d]:=by
 rw [List.take_add_one,List.getElem?_eq_getElem hi];simp [List.getD_eq_getElem?_getD,hi]
theorem C1H {l:List Q0} {b:Int} (hl:B4P l) (h0:0≤b) (h1:b≤1048576):B0k l b=true∧(0≤V7 l b→V7 l b≤b∧l.length≤1048576∧∀ j∈l,A9Q j):=by
 obtain ⟨h2,h3⟩:=hl
 have e1:=A6A (n:=b - (l.length:Int)) (by omega) (by omega)
 simp only [B0k,V7,e1]
 by_cases hd:b - (l.length:Int)<0
 ·rw [decide_eq_true hd];simp
 ·rw [decide_eq_false hd]
  simp only [cond_false]
  have key:(V6 l (b - (l.length:Int)) 0=(0,-1,0))∨∃ c,V6 l (b - (l.length:Int)) 0=(1,0,c)∧0≤c∧c≤b∧∀ j∈l,A9Q j:=by
   refine A7a (fun v:A82=>∃ (i:Nat) (c:Int),v=(l,c,(i:Int))∧i≤l.length∧0≤c∧c≤b∧∀ j∈l.take i,A9Q j) (fun a:A7D=>a=(0,-1,0)∨∃ c,a=(1,0,c)∧0≤c∧c≤b∧∀ j∈l,A9Q j) (fun v=>l.length - v.2.2.toNat) ?_ ⟨0,_,rfl,Nat.zero_le _,by omega,by omega,by simp⟩ (by simp;omega)
   rintro v ⟨i,c,rfl,hi,c0,c1,hj⟩
   by_cases hlt:i<l.length
   ·have e1:decide ((i:Int)<(l.length:Int))=true:=decide_eq_true (by omega)
    have e2:decide (0≤(i:Int)∧(i:Int)<(l.length:Int))=true:=decide_eq_true (by omega)
    obtain ⟨q1,q2⟩:=C3t (h3 _ (P0 hlt I7)) c0 (by omega)
    have hdj:((0:Int),(([]:Lq1),((0:Int),([]:List Int))))=I7:=rfl
    simp only [A8k,hdj,e1,e2,cond_true,Int.toNat_natCast,q1,A7p i (by omega)]
    by_cases hn:B2D (l.getD i I7).1 (l.getD i I7).2.1 (l.getD i I7).2.2.1 (l.getD i I7).2.2.2 c<0
    ·simp only [decide_eq_true hn,cond_true]
     exact .inr ⟨_,rfl,.inl rfl⟩
    ·simp only [decide_eq_false hn,cond_false]
     obtain ⟨r1,r2⟩:=q2 (by omega)
     refine .inl ⟨_,rfl,⟨i+1,_,rfl,by omega,by omega,by omega,fun j hj2=>?_⟩,by simp only [Int.toNat_natCast];omega⟩
     rw [J8 hlt I7] at hj2
     rcases List.mem_append.1 hj2 with h | h
     ·exact hj j h
     ·simp only [List.mem_singleton] at h;rw [h];exact r2
   ·obtain rfl:i=l.length:=by omega
    have e1:decide ((l.length:Int)<(l.length:Int))=false:=decide_eq_false (by omega)
    simp only [A8k,e1,cond_false]
    rw [List.take_length] at hj
    exact .inr ⟨_,rfl,.inr ⟨c,rfl,c0,c1,hj⟩⟩
  rcases key with h | ⟨c,h,c0,c1,hj⟩
  ·rw [h];exact ⟨rfl,fun h=>by simp at h⟩
  ·rw [h];exact ⟨rfl,fun _=>⟨c1,by omega,hj⟩⟩
theorem C5C {a3:List Q0} {a4:LIbe} (hb:B4P a3) (h4:a4.length≤9223372036854775807) (a0 a1 a2 a5:Int):B0j a0 a1 a2 a3 a4 a5 1048576=true∧(0≤A9O a0 a1 a2 a3 a4 a5 1048576→a3.length≤1048576∧(∀ j∈a3,A9Q j)∧a4.length≤1048576):=by
 obtain ⟨z1,z2⟩:=C1H hb (b:=1048576) (by decide) (by decide)
 refine ⟨z1,fun h=>?_⟩
 simp only [A9O] at h
 by_cases hd:V7 a3 1048576<0
 ·rw [decide_eq_true hd] at h;simp at h
 ·obtain ⟨y1,y2,y3⟩:=z2 (by omega)
  rw [decide_eq_false hd] at h
  simp only [cond_false] at h
  by_cases hd2:A8V a4 (V7 a3 1048576)<0
  ·rw [decide_eq_true hd2] at h;simp at h
  ·refine ⟨y2,y3,?_⟩
   generalize V7 a3 1048576=c at *
   have e1:=A6A (n:=c - (a4.length:Int)) (by omega) (by omega)
   simp only [A8V,e1] at hd2
   by_cases hd3:c - (a4.length:Int)<0
   ·rw [decide_eq_true hd3] at hd2;simp at hd2
   ·omega
noncomputable def A0p {α:Type} (w:α→Nat) (l:List α):Nat:=(l.map w).sum
noncomputable def A9c (j:Q0):Nat:=2+3*j.2.1.length+j.2.2.2.length
theorem C9g {l:Lq1} {b:Int} (h0:0≤b) (h1:b≤1048576) (hb:B2k l=true) (h:0≤A7Y l b):A7Y l b+(l.length:Int)≤b:=by
 have hl:l.length≤9223372036854775807:=by simp only [B2k,Bool.and_eq_true,decide_eq_true_eq] at hb;exact hb.1
 have e1:=A6A (n:=b - (l.length:Int)) (by omega) (by omega)
 simp only [A7Y,e1,Int.toNat_zero,Nat.sub_zero] at h ⊢
 cases hd:decide (b - (l.length:Int)<0) with
 | true=>rw [hd] at h;simp at h
 | false =>
  rw [hd] at h
  have:=of_decide_eq_false hd
  simp only [cond_false] at h ⊢
  cases hi:A7n (szN (N9 l) l.length 0 (b - (l.length:Int))) with
  | false=>rw [hi] at h;simp at h
  | true =>
   obtain ⟨r1,r2,r3⟩:=C7I (M:=1048576) (Q:=fun i=>True) l.length 0 (b - (l.length:Int)) (fun j b' _ hj q0 q1 hf=>by
    obtain ⟨p1,p2⟩:=C4d hb j (by omega)
    obtain ⟨s1,s2,s3⟩:=C4m _ _ _ b' q0 q1 p1 p2 hf
    exact ⟨trivial,s1⟩) (by omega) (by omega) hi
   simp only [cond_true]
   omega
theorem C8I {l:List Int} {b:Int} (hl:l.length≤9223372036854775807) (h0:0≤b) (h1:b≤1048576) (h:0≤A8e l b):A8e l b+(l.length:Int)≤b:=by
 have e1:=A6A (n:=b - (l.length:Int)) (by omega) (by omega)
 simp only [A8e,e1] at h ⊢
 by_cases hd:b - (l.length:Int)<0
 ·rw [decide_eq_true hd] at h;simp at h
 ·rw [decide_eq_false hd];simp only [cond_false];omega
theorem C9f {j:Q0} {b:Int} (hj:C6V j) (h0:0≤b) (h1:b≤1048576) (h:0≤B2D j.1 j.2.1 j.2.2.1 j.2.2.2 b):3*B2D j.1 j.2.1 j.2.2.1 j.2.2.2 b+(A9c j:Int)≤3*b+2:=by
 obtain ⟨h2,h3⟩:=hj
 simp only [B2D] at h ⊢
 by_cases hd:A7Y j.2.1 b<0
 ·rw [decide_eq_true hd] at h;simp at h
 ·have s1:=C9g h0 h1 h2 (by omega)
  rw [decide_eq_false hd] at h ⊢
  simp only [cond_false] at h ⊢
  by_cases hd2:A8e j.2.2.2 (A7Y j.2.1 b)<0
  ·rw [decide_eq_true hd2] at h;simp at h
  ·have t1:=C8I h3 (by omega) (by omega) (by omega:0≤A8e j.2.2.2 (A7Y j.2.1 b))
   rw [decide_eq_false hd2]
   simp only [cond_false,A9c]
   omega
theorem C8g {α:Type} (w:α→Nat) (l:List α) (x:α):A0p w (l++[x])=A0p w l+w x:=by simp [A0p]
theorem C8J {l:List Q0} {b:Int} (hl:B4P l) (h0:0≤b) (h1:b≤1048576) (h:0≤V7 l b):3*V7 l b+(A0p A9c l:Int)≤3*b:=by
 obtain ⟨h2,h3⟩:=hl
 have e1:=A6A (n:=b - (l.length:Int)) (by omega) (by omega)
 simp only [V7,e1] at h ⊢
 by_cases hd:b - (l.length:Int)<0
 ·rw [decide_eq_true hd] at h;simp at h
 ·rw [decide_eq_false hd] at h ⊢
  simp only [cond_false] at h ⊢
  have key:(V6 l (b - (l.length:Int)) 0=(0,-1,0))∨∃ c,V6 l (b - (l.length:Int)) 0=(1,0,c)∧3*c+(A0p A9c l:Int)≤3*b:=by
   refine A7a (fun v:A82=>∃ (i:Nat) (c:Int),v=(l,c,(i:Int))∧i≤l.length∧0≤c∧c≤b∧3*c+(A0p A9c (l.take i):Int)≤3*(b - (l.length:Int))+2*(i:Int)) (fun a:A7D=>a=(0,-1,0)∨∃ c,a=(1,0,c)∧3*c+(A0p A9c l:Int)≤3*b) (fun v=>l.length - v.2.2.toNat) ?_ ⟨0,_,rfl,Nat.zero_le _,by omega,by omega,by simp [A0p]⟩ (by simp;omega)
   rintro v ⟨i,c,rfl,hi,c0,c1,hj⟩
   by_cases hlt:i<l.length
   ·have e1:decide ((i:Int)<(l.length:Int))=true:=decide_eq_true (by omega)
    have e2:decide (0≤(i:Int)∧(i:Int)<(l.length:Int))=true:=decide_eq_true (by omega)
    obtain ⟨q1,q2⟩:=C3t (h3 _ (P0 hlt I7)) c0 (by omega)
    have hdj:((0:Int),(([]:Lq1),((0:Int),([]:List Int))))=I7:=rfl
    simp only [A8k,hdj,e1,e2,cond_true,Int.toNat_natCast,q1,A7p i (by omega)]
    by_cases hn:B2D (l.getD i I7).1 (l.getD i I7).2.1 (l.getD i I7).2.2.1 (l.getD i I7).2.2.2 c<0
    ·simp only [decide_eq_true hn,cond_true]
     exact .inr ⟨_,rfl,.inl rfl⟩
    ·simp only [decide_eq_false hn,cond_false]
     obtain ⟨r1,r2⟩:=q2 (by omega)
     have r3:=C9f (h3 _ (P0 hlt I7)) c0 (by omega) (by omega)
     refine .inl ⟨_,rfl,⟨i+1,_,rfl,by omega,by omega,by omega,?_⟩,by simp only [Int.toNat_natCast];omega⟩
     rw [J8 hlt I7,C8g,Int.natCast_add]
     omega
   ·obtain rfl:i=l.length:=by omega
    have e1:decide ((l.length:Int)<(l.length:Int))=false:=decide_eq_false (by omega)
    simp only [A8k,e1,cond_false]
    rw [List.take_length] at hj
    exact .inr ⟨_,rfl,.inr ⟨_,rfl,by omega⟩⟩
  rcases key with e | ⟨c,e,hc⟩
  ·rw [e] at h;simp at h
  ·rw [e];exact hc
theorem C8h {a3:List Q0} {a4:LIbe} (hb:B4P a3) (h4:a4.length≤9223372036854775807) (a0 a1 a2 a5:Int) (h:0≤A9O a0 a1 a2 a3 a4 a5 1048576):A0p A9c a3+2*a4.length≤3145728:=by
 simp only [A9O] at h
 by_cases hd:V7 a3 1048576<0
 ·rw [decide_eq_true hd] at h;simp at h
 ·have y1:=C8J hb (b:=1048576) (by decide) (by decide) (by omega)
  obtain ⟨z1,_,_⟩:=(C1H hb (b:=1048576) (by decide) (by decide)).2 (by omega)
  rw [decide_eq_false hd] at h
  simp only [cond_false] at h
  by_cases hd2:A8V a4 (V7 a3 1048576)<0
  ·rw [decide_eq_true hd2] at h;simp at h
  ·generalize V7 a3 1048576=c at *
   have e1:=A6A (n:=c - (a4.length:Int)) (by omega) (by omega)
   simp only [A8V,e1] at hd2
   by_cases hd3:c - (a4.length:Int)<0
   ·rw [decide_eq_true hd3] at hd2;simp at hd2
   ·omega
noncomputable def A7A {A:Type} (f:Nat→Option A) (last:A):Nat→Nat→A
 | 0,_=>last
 | k+1,i=>match f i with
  | some a=>a
  | none=>A7A f last k (i+1)
theorem Z7 {V A:Type} {ss:V→V ⊕ A} {fa:A} (pk:Nat→V) (n:Nat) (f:Nat→Option A) (last:A) (hn:n<4611686018427387904)
  (h:∀ i,i<n→ss (pk i)=(match f i with | some a=>.inr a | none=>.inl (pk (i+1)))) (hl:ss (pk n)=.inr last):itX ss fa (pk 0)=A7A f last n 0:=by
 rw [A4p]
 have key:∀ k N i,i+k=n→k<N→itN ss fa N (pk i)=A7A f last k i:=by
  intro k
  induction k with
  | zero =>
   intro N i hi hN
   obtain ⟨M,rfl⟩:∃ M,N=M+1:=⟨N - 1,by omega⟩
   obtain rfl:i=n:=by omega
   rw [A6G,hl];rfl
  | succ k ih =>
   intro N i hi hN
   obtain ⟨M,rfl⟩:∃ M,N=M+1:=⟨N - 1,by omega⟩
   rw [A6G,h i (by omega)]
   simp only [A7A]
   cases hf:f i with
   | some a=>rfl
   | none=>exact ih M (i+1) (by omega) (by omega)
 exact key n _ 0 (by omega) hn
theorem C73 (k:Int) (s v:ByteArray):C4h k s v k s v=true:=by simp [C4h]
theorem C69 (l:Lq1):C0K l l=true:=by
 have e:A4B (A8T l l) (l.length - (0:Int).toNat) (0:Int).toNat=true:=C0x _ _ (fun j _ _=>by simp [A8T,C73])
 simp only [C0K,e,cond_true]
 simp
theorem C6c (l:List Int):B9W l l=true:=by
 have e:A4B (A7R l l) (l.length - (0:Int).toNat) (0:Int).toNat=true:=C0x _ _ fun j _ _=>by simp [A7R]
 simp only [B9W,e,cond_true]
 simp
theorem A88 {A:Type} (f:Nat→Option A) (last:A):∀ k i,(∃ j a,i≤j∧j<i+k∧f j=some a∧(∀ m,i≤m→m<j→f m=none)∧A7A f last k i=a)∨((∀ j,i≤j→j<i+k→f j=none)∧A7A f last k i=last):=by
 intro k
 induction k with
 | zero=>intro i;exact .inr ⟨fun j h1 h2=>by omega,rfl⟩
 | succ k ih =>
  intro i
  simp only [A7A]
  cases hf:f i with
  | some a=>exact .inl ⟨i,a,Nat.le_refl _,by omega,hf,fun m h1 h2=>by omega,rfl⟩
  | none =>
   rcases ih (i+1) with ⟨j,a,h1,h2,h3,h4,h5⟩ | ⟨h1,h2⟩
   ·refine .inl ⟨j,a,by omega,by omega,h3,fun m m1 m2=>?_,h5⟩
    by_cases hm:m=i
    ·rw [hm];exact hf
    ·exact h4 m (by omega) m2
   ·refine .inr ⟨fun j j1 j2=>?_,h2⟩
    by_cases hj:j=i
    ·rw [hj];exact hf
    ·exact h1 j (by omega) (by omega)
theorem C6d {l:List Q0} (hl:l.length≤1048576) (h:∀ j∈l,A9Q j):B0i l l=true∧B7H l l=true:=by
 have key:A9J l l 0=A7A (fun _=>none) (1,false) l.length 0:=by
  refine Z7 (fun i=>(l,l,(i:Int))) l.length _ _ (by omega) (fun i hi=>?_) ?_
  ·have e1:decide ((i:Int)<(l.length:Int))=true:=decide_eq_true (by omega)
   have e2:decide (0≤(i:Int)∧(i:Int)<(l.length:Int))=true:=decide_eq_true (by omega)
   obtain ⟨o1,o2⟩:=h _ (P0 hi I7)
   have hdj:((0:Int),(([]:Lq1),((0:Int),([]:List Int))))=I7:=rfl
   have q1:okL (l.getD i I7).2.2.2=true:=decide_eq_true o2
   have e0:∀ x:Int,(x != x)=false:=fun x=>by simp
   simp only [B1L,hdj,e1,e2,cond_true,Int.toNat_natCast,B4x,C4Y,B4y,B1T,e0,C69,C6c,C4k o1,q1,cond_false,Bool.not_true,Bool.true_and,A7p i (by omega)]
  ·have e1:decide ((l.length:Int)<(l.length:Int))=false:=decide_eq_false (by omega)
   simp only [B1L,e1,cond_false]
 have k2:A7A (fun _=>none) ((1,false):A7C) l.length 0=(1,false):=by
  rcases A88 (fun _=>none) ((1,false):A7C) l.length 0 with ⟨j,a,_,_,h3,_⟩ | ⟨_,h⟩
  ·cases h3
  ·exact h
 rw [k2] at key
 have e0:∀ x:Int,(x != x)=false:=fun x=>by simp
 simp only [B0i,B7H,key,e0,cond_false]
 exact ⟨rfl,rfl⟩
theorem C7z (l:Lq1):C40 l=l:=by
 have e:=A7w (fun o:Int×ByteArray×ByteArray=>(C1m o.1 o.2.1 o.2.2)) dOp l l.length 0 (List.replicate l.length dOp) (by simp) (by simp)
 simp only [List.take_zero,List.nil_append,List.drop_zero] at e
 have e2:l.map (fun o:Int×ByteArray×ByteArray=>(C1m o.1 o.2.1 o.2.2))=l:=by
  rw [show (fun o:Int×ByteArray×ByteArray=>(C1m o.1 o.2.1 o.2.2))=id from funext fun _=>rfl,List.map_id]
 rw [e2] at e
 exact e
theorem C6G (l:List Int):C16 l=l:=by
 have e:=A7w (fun o:Int=>o) (0:Int) l l.length 0 (List.replicate l.length 0) (by simp) (by simp)
 simp only [List.take_zero,List.nil_append,List.drop_zero] at e
 have e2:l.map (fun o:Int=>o)=l:=by
  rw [show (fun o:Int=>o)=id from funext fun _=>rfl,List.map_id]
 rw [e2] at e
 exact e
theorem B6P {α:Type} {l:List α} {i:Nat} (hi:i<l.length) (x d:α):(l.set i x).getD i d=x:=by
 simp [List.getD_eq_getElem?_getD,hi]
theorem C6H {l:List Q0} (hl:l.length≤1048576) (h:∀ j∈l,A9Q j):B0l l=true∧B9X l=l:=by
 have key:A9K l 0 (List.replicate l.length I7)=(0,l):=by
  refine A7a (fun v:B0P=>∃ (i:Nat) (r:List Q0),v=(l,(i:Int),r)∧i≤l.length∧r.length=l.length∧r.take i=l.take i) (fun a:A81=>a=(0,l)) (fun v=>l.length - v.2.1.toNat) ?_ ⟨0,_,rfl,Nat.zero_le _,by simp,by simp⟩ (by simp;omega)
  rintro v ⟨i,r,rfl,hi,hr,ht⟩
  by_cases hlt:i<l.length
  ·have e1:decide ((i:Int)<(l.length:Int))=true:=decide_eq_true (by omega)
   have e2:decide (0≤(i:Int)∧(i:Int)<(l.length:Int))=true:=decide_eq_true (by omega)
   have e3:decide (0≤(i:Int)∧(i:Int)<(r.length:Int))=true:=decide_eq_true (by omega)
   obtain ⟨o1,o2⟩:=h _ (P0 hlt I7)
   have hdj:((0:Int),(([]:Lq1),((0:Int),([]:List Int))))=I7:=rfl
   have q1:B2M (l.getD i I7).1 (l.getD i I7).2.1 (l.getD i I7).2.2.1 (l.getD i I7).2.2.2=true:=by
    simp only [B2M,B4A,B1U,C4k o1,Bool.true_and]
    exact decide_eq_true o2
   simp only [B1M,hdj,e1,e2,e3,cond_true,Int.toNat_natCast,q1,A7p i (by omega),C4Z,C7z,C6G]
   refine .inl ⟨_,rfl,⟨i+1,_,rfl,by omega,by rw [List.length_set];exact hr,?_⟩,by simp only [Int.toNat_natCast];omega⟩
   rw [J8 (by rw [List.length_set];omega) I7,J8 hlt I7,B6P (by omega),List.take_set_of_le (Nat.le_refl _),ht]
  ·obtain rfl:i=l.length:=by omega
   have e1:decide ((l.length:Int)<(l.length:Int))=false:=decide_eq_false (by omega)
   simp only [B1M,e1,cond_false]
   rw [← hr,List.take_length,hr,List.take_length] at ht
   exact .inr ⟨_,rfl,by rw [ht]⟩
 have hdj:((0:Int),(([]:Lq1),((0:Int),([]:List Int))))=I7:=rfl
 simp only [B0l,B9X,hdj,Int.toNat_natCast,key]
 refine ⟨?_,trivial⟩
 rw [Bool.and_eq_true]
 exact ⟨decide_eq_true ⟨by omega,trivial,by simp only [MAXB];omega,by omega⟩,rfl⟩
theorem C3u (l:LIbe):B5i l=l:=by
 have e:=A7w (fun o:Int×Bool=>(B0g o.1 o.2)) ((0:Int),false) l l.length 0 (List.replicate l.length ((0:Int),false)) (by simp) (by simp)
 simp only [List.take_zero,List.nil_append,List.drop_zero] at e
 have e2:l.map (fun o:Int×Bool=>(B0g o.1 o.2))=l:=by
  rw [show (fun o:Int×Bool=>(B0g o.1 o.2))=id from funext fun _=>rfl,List.map_id]
 rw [e2] at e
 exact e
theorem C2o (l:LIbe):B2C l l=true:=by
 have e:A4B (T7 l l) (l.length - (0:Int).toNat) (0:Int).toNat=true:=C0x _ _ fun j _ _=>by simp [T7,B4r]
 simp only [B2C,e,cond_true]
 simp
theorem C1c {a3:List Q0} {a4:LIbe} (h3:a3.length≤1048576) (hj:∀ j∈a3,A9Q j) (h4:a4.length≤1048576) (a0 a1 a2 a5:Int):Z1 a0 a1 a2 a3 a4 a5 a0 a1 a2 a3 a4 a5=true∧B6S a0 a1 a2 a3 a4 a5 a0 a1 a2 a3 a4 a5=true∧A8X a0 a1 a2 a3 a4 a5=true∧A9P a0 a1 a2 a3 a4 a5=(a0,a1,a2,a5,a3,a4):=by
 obtain ⟨e1,e2⟩:=C6d h3 hj
 obtain ⟨t1,t2⟩:=C6H h3 hj
 have e0:∀ x:Int,(x != x)=false:=fun x=>by simp
 have e3:okL a4=true:=decide_eq_true h4
 simp only [Z1,B6S,A8X,A9P,e0,e1,e2,t1,t2,C3u,C2o,A8g,A8h,e3,cond_false,Bool.not_true,Bool.and_self]
 exact ⟨trivial,trivial,trivial,trivial⟩
noncomputable def dCh:Int×Bool:=(0,false)
noncomputable def chP (log:LIbe) (tx:Int):Nat×Int:=A7A (fun i=>cond ((log.getD i dCh).1==tx) (some (0,(i:Int))) none) (1,0) log.length 0
noncomputable def B0Q (log:LIbe) (tx:Int):Int:=cond ((chP log tx).1==0) (chP log tx).2 (-1)
theorem C4e (log:LIbe) (tx:Int):(∃ j:Nat,j<log.length∧chP log tx=(0,(j:Int)))∨chP log tx=(1,0):=by
 rcases A88 (fun i=>cond ((log.getD i dCh).1==tx) (some ((0:Nat),(i:Int))) none) (1,0) log.length 0 with ⟨j,a,_,h2,h3,_,h5⟩ | ⟨_,h⟩
 ·refine .inl ⟨j,by omega,?_⟩
  rw [chP,h5]
  cases hc:((log.getD j dCh).1==tx) with
  | true=>simp only [hc,cond_true,Option.some.injEq] at h3;exact h3.symm
  | false=>simp only [hc,cond_false] at h3;cases h3
 ·exact .inr h
theorem C9i (log:LIbe) (tx:Int):(cond ((chP log tx).1==0) true ((chP log tx).1==1))=true:=by
 rcases C4e log tx with ⟨j,h1,h2⟩ | h
 ·rw [h2];rfl
 ·rw [h];rfl
theorem C3m (a0 a1 a2:Int) (a3:List Q0) {a4:LIbe} (a5:Int) (hl:a4.length≤1048576) (tx:Int):O3 a0 a1 a2 a3 a4 a5 tx=true∧Z4 a0 a1 a2 a3 a4 a5 tx=B0Q a4 tx:=by
 have e:Z8 tx 0 a0 a1 a2 a3 a4 a5=chP a4 tx:=by
  refine Z7 (fun i=>(tx,(i:Int))) a4.length _ _ (by omega) (fun i hi=>?_) ?_
  ·have e1:decide ((i:Int)<(a4.length:Int))=true:=decide_eq_true (by omega)
   have e2:decide (0≤(i:Int)∧(i:Int)<(a4.length:Int))=true:=decide_eq_true (by omega)
   simp only [A8K,e1,e2,cond_true,Int.toNat_natCast,A7p i (by omega),dCh]
   cases ((a4.getD i (0,false)).1==tx)<;>rfl
  ·have e1:decide ((a4.length:Int)<(a4.length:Int))=false:=decide_eq_false (by omega)
   simp only [A8K,e1,cond_false]
 simp only [O3,Z4,e]
 exact ⟨C9i a4 tx,rfl⟩
theorem B84 (a0 a1 a2:Int) (a3:List Q0) {a4:LIbe} (a5:Int) (hl:a4.length≤1048576) (tx:Int):J9 tx a0 a1 a2 a3 a4 a5=true∧M0 tx a0 a1 a2 a3 a4 a5=B0Q a4 tx:=by
 have e:K1 a4 (a4.length:Int) 0 tx=chP a4 tx:=by
  refine Z7 (fun i=>(a4,(a4.length:Int),(i:Int))) a4.length _ _ (by omega) (fun i hi=>?_) ?_
  ·have e1:decide ((i:Int)<(a4.length:Int))=true:=decide_eq_true (by omega)
   have e2:decide (0≤(i:Int)∧(i:Int)<(a4.length:Int))=true:=decide_eq_true (by omega)
   simp only [L7,Q8,A9H,e1,e2,cond_true,Int.toNat_natCast,A7p i (by omega),dCh]
   cases ((a4.getD i (0,false)).1==tx)<;>rfl
  ·have e1:decide ((a4.length:Int)<(a4.length:Int))=false:=decide_eq_false (by omega)
   simp only [L7,e1,cond_false]
 simp only [J9,M0,J7,O4,e]
 exact ⟨C9i a4 tx,rfl⟩
noncomputable def C8M (L ys:List Int) (i:Nat):Option (Nat×Bool):=cond (!decide (ys.getD i 0∈L)) (some (0,false)) (cond (decide ((i:Int) > 0)) (cond (decide (ys.getD (i - 1) 0 ≥ ys.getD i 0)) (some (0,false)) none) none)
noncomputable def C7A (L ys:List Int):Nat×Bool:=A7A (C8M L ys) (1,false) ys.length 0
noncomputable def C81 (log:LIbe) (st ch:Int):Bool:=cond (st==1) (decide (ch<0)) (cond (st==2) (cond (decide (ch ≥ 0)) (log.getD ch.toNat dCh).2 false) (cond (st==3) (cond (decide (ch ≥ 0)) (!(log.getD ch.toNat dCh).2) false) false))
noncomputable def B7S (a0 a1 a2:Int) (a4:LIbe) (j:Q0):Bool:=I8 j.1 (wI (a1*1000)) (wI (wI (wI (a1*1000)+a2) - 1))&&(B3R j.2.1&&((C7A (R9 j.2.1 a0) j.2.2.2).1==1&&C81 a4 j.2.2.1 (B0Q a4 j.1)))
noncomputable def B92 (a3:List Q0) (i:Nat):Bool:=cond (decide ((i:Int) > 0)) (!decide ((a3.getD (i - 1) I7).1 ≥ (a3.getD i I7).1)) true
noncomputable def shO (n:Int) (o:Int×ByteArray×ByteArray):Int:=B2v o.2.1 n
theorem C4j {l:Lq1} (h:Z9 l=true) {o:Int×ByteArray×ByteArray} (ho:o∈l):o.2.1.size≤1048576:=(C75 h o ho).1
theorem C9m (s:ByteArray) (i:Int):∃ n:Nat,bt s i=(n:Int)∧n<256:=by
 unfold bt
 split
 ·exact ⟨_,rfl,UInt8.toNat_lt _⟩
 ·exact ⟨0,rfl,by decide⟩
theorem C5D (n:Nat):IntKind.wrap .u32 (n:Int)=((n % 4294967296:Nat):Int):=by
 show (if (false&&decide ((n:Int) % (2 ^ 32:Int) ≥ (2 ^ 31:Int)))=true then (n:Int) % (2 ^ 32:Int) - (2 ^ 32:Int) else (n:Int) % (2 ^ 32:Int))=_
 simp only [Bool.false_and,Bool.false_eq_true,if_false];omega
theorem C3v {a b:Nat} (ha:a<4294967296) (hb:b<4294967296):a ^^^ b<4294967296:=Nat.xor_lt_two_pow (n:=32) ha hb
theorem C7F (n:Nat) (h:n<4294967296):(BitVec.ofInt 32 (n:Int)).toNat=n:=by
 simp [BitVec.toNat_ofInt];omega
theorem C9o {a b:Nat} (ha:a<4294967296) (hb:b<4294967296):ixor .u32 (a:Int) (b:Int)=((a ^^^ b:Nat):Int):=by
 have h:=C3v ha hb
 show IntKind.wrap .u32 (((BitVec.ofInt 32 (a:Int) ^^^ BitVec.ofInt 32 (b:Int)).toNat:Nat):Int)=_
 rw [BitVec.toNat_xor,C7F a ha,C7F b hb,C5D,Nat.mod_eq_of_lt h]
theorem B7J (n:Nat) (h:n<18446744073709551616):(BitVec.ofInt 64 (n:Int)).toNat=n:=by
 simp [BitVec.toNat_ofInt];omega
theorem C9p {a b:Nat} (ha:a<4294967296) (hb:b<4294967296):ixor .i64 (a:Int) (b:Int)=((a ^^^ b:Nat):Int):=by
 have h:=C3v ha hb
 show wI (((BitVec.ofInt 64 (a:Int) ^^^ BitVec.ofInt 64 (b:Int)).toNat:Nat):Int)=_
 rw [BitVec.toNat_xor,B7J a (by omega),B7J b (by omega)]
 exact A6A (by omega) (by omega)
theorem C9n (n:Nat) (h:n<9223372036854775808):iand .i64 (n:Int) 4294967295=((n % 4294967296:Nat):Int):=by
 show wI (((BitVec.ofInt 64 (n:Int) &&& BitVec.ofInt 64 ((4294967295:Nat):Int)).toNat:Nat):Int)=_
 rw [BitVec.toNat_and,B7J n (by omega),B7J 4294967295 (by omega),show (4294967295:Nat)=2 ^ 32 - 1 from rfl,Nat.and_two_pow_sub_one_eq_mod]
 exact A6A (by omega) (by omega)
theorem C8B {s:ByteArray} (hs:s.size≤1048576):∃ h:Nat,h<4294967296∧B2x s 2166136261 0=(0,(h:Int))∧B2y s 2166136261 0=(0,(h:Int)):=by
 have key:=A7b (ss:=fun v:B4e=>B2W v.1 v.2.1 v.2.2) (fa:=B8S) (tt:=fun v:B4f=>B2X v.1 v.2.1 v.2.2) (fb:=B8T) (v:=(s,2166136261,0)) (w:=(s,2166136261,0))
  (fun v w=>∃ h i:Nat,v=(s,(h:Int),(i:Int))∧w=(s,(h:Int),(i:Int))∧h<4294967296∧i≤s.size) (fun a b=>∃ h:Nat,h<4294967296∧a=(0,(h:Int))∧b=(0,(h:Int))) (fun v=>s.size - v.2.2.toNat) (fun v w hr=>by
   obtain ⟨h,i,rfl,rfl,h1,h2⟩:=hr
   by_cases hi:i<s.size
   ·have e1:decide ((i:Int)<(s.size:Int))=true:=decide_eq_true (by omega)
    have e2:decide (0≤(i:Int)∧(i:Int)<(s.size:Int))=true:=decide_eq_true (by omega)
    obtain ⟨b,hb,hb2⟩:=C9m s (i:Int)
    have w1:IntKind.wrap .u32 (b:Int)=(b:Int):=by rw [C5D];omega
    have w2:wI (b:Int)=(b:Int):=A6A (by omega) (by omega)
    have hx:=C3v h1 (show b<4294967296 by omega)
    have c1:((h ^^^ b:Nat):Int)*16777619=(((h ^^^ b)*16777619:Nat):Int):=by simp
    have w3:wI ((((h ^^^ b)*16777619:Nat):Int))=(((h ^^^ b)*16777619:Nat):Int):=A6A (by omega) (by omega)
    refine .inl ⟨(s,(((h ^^^ b)*16777619 % 4294967296:Nat):Int),((i+1:Nat):Int)),(s,(((h ^^^ b)*16777619 % 4294967296:Nat):Int),((i+1:Nat):Int)),?_,?_,⟨_,i+1,rfl,rfl,Nat.mod_lt _ (by decide),by omega⟩,by simp only [Int.toNat_natCast];omega⟩
    ·simp only [B2W,e1,e2,cond_true,hb,w1,C9o h1 (show b<4294967296 by omega),c1,C5D,A7p i (by omega)]
    ·simp only [B2X,e1,e2,cond_true,hb,w2,C9p h1 (show b<4294967296 by omega),c1,w3,C9n _ (show (h ^^^ b)*16777619<9223372036854775808 by omega),A7p i (by omega)]
   ·have e1:decide ((i:Int)<(s.size:Int))=false:=decide_eq_false (by omega)
    exact .inr ⟨_,_,by simp only [B2W,e1,cond_false],by simp only [B2X,e1,cond_false],h,h1,rfl,rfl⟩) ⟨2166136261,0,rfl,rfl,by decide,Nat.zero_le _⟩ (by simp;omega)
 obtain ⟨h,h1,h2,h3⟩:=key
 exact ⟨h,h1,h2,h3⟩
theorem C0o {s:ByteArray} (hs:s.size≤1048576) (n:Int):A8W s n=true∧A8Z s n=true∧B2v s n=B7i s n∧0≤B2v s n∧(1≤n→B2v s n<n):=by
 obtain ⟨h,h1,h2,h3⟩:=C8B hs
 have w:wI (h:Int)=(h:Int):=A6A (by omega) (by omega)
 simp only [A8W,A8Z,B2v,B7i,B7K,B7N,C7D,C7G,h2,h3,w]
 by_cases hn:n<1
 ·simp only [decide_eq_true hn,cond_true]
  exact ⟨trivial,trivial,trivial,Int.le_refl _,fun h=>by omega⟩
 ·have e:decide (n ≠ 0)=true:=decide_eq_true (by omega)
  simp only [decide_eq_false hn,cond_false,e]
  exact ⟨rfl,rfl,trivial,Int.tmod_nonneg _ (by omega),fun _=>Int.tmod_lt_of_pos _ (by omega)⟩
theorem C2E {l:List Int} (hl:l.length≤1048576) (x:Int):A0b l x=true∧B1i l x=decide (x∈l):=by
 have key:A85 l x 0=(0,true)∧x∈l∨A85 l x 0=(1,false)∧x ∉ l:=by
  refine A7a (fun v:B2j=>∃ i:Nat,v=(l,x,(i:Int))∧i≤l.length∧x ∉ l.take i) (fun a:B0b=>a=(0,true)∧x∈l∨a=(1,false)∧x ∉ l) (fun v=>l.length - v.2.2.toNat) ?_ ⟨0,rfl,Nat.zero_le _,by simp⟩ (by simp;omega)
  rintro v ⟨i,rfl,hi,hx⟩
  by_cases hlt:i<l.length
  ·have e1:decide ((i:Int)<(l.length:Int))=true:=decide_eq_true (by omega)
   have e2:decide (0≤(i:Int)∧(i:Int)<(l.length:Int))=true:=decide_eq_true (by omega)
   simp only [B3v,e1,e2,cond_true,Int.toNat_natCast,A7p i (by omega)]
   cases hc:(l.getD i 0==x) with
   | true=>exact .inr ⟨_,rfl,.inl ⟨rfl,by have:=P0 hlt 0;simp only [beq_iff_eq] at hc;rw [hc] at this;exact this⟩⟩
   | false =>
    refine .inl ⟨_,rfl,⟨i+1,rfl,by omega,?_⟩,by simp only [Int.toNat_natCast];omega⟩
    rw [J8 hlt 0]
    simp only [beq_eq_false_iff_ne] at hc
    simp only [List.mem_append,List.mem_singleton,not_or]
    exact ⟨hx,fun h=>hc h.symm⟩
  ·obtain rfl:i=l.length:=by omega
   have e1:decide ((l.length:Int)<(l.length:Int))=false:=decide_eq_false (by omega)
   simp only [B3v,e1,cond_false]
   rw [List.take_length] at hx
   exact .inr ⟨_,rfl,.inr ⟨rfl,hx⟩⟩
 simp only [A0b,B1i]
 rcases key with ⟨h1,h2⟩ | ⟨h1,h2⟩
 ·rw [h1,decide_eq_true h2];exact ⟨rfl,rfl⟩
 ·rw [h1,decide_eq_false h2];exact ⟨rfl,rfl⟩
theorem C5A {α:Type} (a b:List α) (y x:α):(a++y::b).set a.length x=a++x::b:=by
 rw [List.set_append_right _ _ (Nat.le_refl _),Nat.sub_self];rfl
theorem C9c {α:Type} {R:α→α→Prop} {l:List α} (h:l.Pairwise R) (i:Nat) (hi:i<l.length) (d:α):∀ x∈l.take i,R x (l.getD i d):=by
 intro x hx
 obtain ⟨j,hj,rfl⟩:=List.getElem_of_mem hx
 rw [List.length_take] at hj
 have:=List.pairwise_iff_getElem.1 h j i (by omega) hi (by omega)
 simpa [List.getD_eq_getElem?_getD,hi] using this
theorem C7e {l:List Int} (hl:l.length≤1048576) (hs:l.Pairwise (·<·)) (x:Int):Y1 l x=true∧(A9a l x).Pairwise (·<·)∧(A9a l x).length≤l.length+1∧∀ z,z∈A9a l x↔z∈l∨z=x:=by
 obtain ⟨h1,h2⟩:=C2E hl x
 by_cases hx:x∈l
 ·simp only [Y1,A9a,h1,h2,decide_eq_true hx,cond_true,Bool.true_and]
  exact ⟨trivial,hs,by omega,fun z=>⟨.inl,fun h=>h.elim id (fun h=>h ▸ hx)⟩⟩
 ·have key : ∃ (k : Nat) (y : Int), B2z x (l.length : Int) (l ++ [x]) = (0, x, (k : Int), l.take k ++ y :: l.drop k) ∧ k ≤ l.length ∧ (∀ z ∈ l.drop k, x < z) ∧ ∀ z ∈ l.take k, z < x := by
   refine A7a (fun v:A8u=>∃ (k:Nat) (y:Int),v=(x,(k:Int),l.take k++y::l.drop k)∧k≤l.length∧∀ z∈l.drop k,x<z) (fun a:A0f=>∃ (k:Nat) (y:Int),a=(0,x,(k:Int),l.take k++y::l.drop k)∧k≤l.length∧(∀ z∈l.drop k,x<z)∧∀ z∈l.take k,z<x) (fun v=>v.2.1.toNat) ?_ ⟨l.length,x,by rw [List.take_length,List.drop_length],Nat.le_refl _,by simp⟩ (by simp;omega)
   rintro v ⟨k,y,rfl,hk,hd⟩
   have hlen:(l.take k++y::l.drop k).length=l.length+1:=by simp;omega
   cases k with
   | zero =>
    have e1:decide (((0:Nat):Int) > 0)=false:=by decide
    simp only [A91,e1,cond_false]
    exact .inr ⟨_,rfl,0,y,rfl,Nat.zero_le _,hd,by simp⟩
   | succ k =>
    have hlt:k<l.length:=by omega
    have w:wI (((k+1:Nat):Int) - 1)=((k:Nat):Int):=by rw [A6A (by omega) (by omega)];omega
    have e1:decide (((k+1:Nat):Int) > 0)=true:=decide_eq_true (by omega)
    have e2:decide (0≤((k:Nat):Int)∧((k:Nat):Int)<(((l.take (k+1)++y::l.drop (k+1)).length:Nat):Int))=true:=decide_eq_true (by omega)
    have e3:decide (0≤((k+1:Nat):Int)∧((k+1:Nat):Int)<(((l.take (k+1)++y::l.drop (k+1)).length:Nat):Int))=true:=decide_eq_true (by omega)
    have hg:(l.take (k+1)++y::l.drop (k+1)).getD k 0=l.getD k 0:=by
     rw [List.getD_eq_getElem?_getD,List.getElem?_append_left (by rw [List.length_take];omega),List.getElem?_take_of_lt (by omega),← List.getD_eq_getElem?_getD]
    have hset:(l.take (k+1)++y::l.drop (k+1)).set (k+1) (l.getD k 0)=l.take k++l.getD k 0::l.drop k:=by
     have hk1:(l.take (k+1)).length=k+1:=by rw [List.length_take];omega
     have:=C5A (l.take (k+1)) (l.drop (k+1)) y (l.getD k 0)
     rw [hk1] at this
     rw [this,J8 hlt 0,List.append_assoc]
     have hd2:l.drop k=l.getD k 0::l.drop (k+1):=by
      rw [List.drop_eq_getElem_cons hlt];simp [List.getD_eq_getElem?_getD,hlt]
     rw [hd2];rfl
    simp only [A91,w,e1,e2,e3,hg,hset,cond_true,Int.toNat_natCast]
    by_cases hgt:l.getD k 0 > x
    ·simp only [decide_eq_true hgt,cond_true]
     refine .inl ⟨_,rfl,⟨k,l.getD k 0,rfl,by omega,fun z hz=>?_⟩,by simp only [Int.toNat_natCast];omega⟩
     have hd2:l.drop k=l.getD k 0::l.drop (k+1):=by
      rw [List.drop_eq_getElem_cons hlt];simp [List.getD_eq_getElem?_getD,hlt]
     rw [hd2] at hz
     rcases List.mem_cons.1 hz with rfl | hz
     ·exact hgt
     ·exact hd z hz
    ·simp only [decide_eq_false hgt,cond_false]
     refine .inr ⟨_,rfl,k+1,y,rfl,hk,hd,fun z hz=>?_⟩
     have hzl:z∈l:=List.mem_of_mem_take hz
     have hne:z ≠ x:=fun h=>hx (h ▸ hzl)
     rw [J8 hlt 0] at hz
     rcases List.mem_append.1 hz with hz | hz
     ·have:=C9c hs k hlt 0 z hz;omega
     ·simp only [List.mem_singleton] at hz;omega
  obtain ⟨k,y,e,hk,hd,ht⟩:=key
  have hlen:(l.take k++y::l.drop k).length=l.length+1:=by simp;omega
  have w:wI ((((([]:List Int)++l)++[x]).length:Int) - 1)=(l.length:Int):=by rw [List.nil_append,List.length_append,List.length_singleton,A6A (by omega) (by omega)];omega
  have hk1:(l.take k).length=k:=by rw [List.length_take];omega
  have hset:=C5A (l.take k) (l.drop k) y x
  rw [hk1] at hset
  have m1:decide ((([]:List Int).length+l.length)*8≤MAXB)=true:=decide_eq_true (by simp only [List.length_nil,MAXB];omega)
  have m2:decide (((([]:List Int)++l).length+[x].length)*8≤MAXB)=true:=decide_eq_true (by simp only [List.nil_append,List.length_singleton,MAXB];omega)
  have m3:decide (0≤(k:Int)∧(k:Int)<(((l.take k++y::l.drop k).length:Nat):Int))=true:=decide_eq_true (by omega)
  have k1:A9M l x=(0,x,(k:Int),l.take k++y::l.drop k):=by rw [A9M,w,List.nil_append,e]
  simp only [Y1,A9a,h1,h2,decide_eq_false hx,cond_false,m1,m2,k1,m3,Int.toNat_natCast,hset,Bool.true_and]
  have hs':=hs
  rw [← List.take_append_drop k l,List.pairwise_append] at hs'
  obtain ⟨p1,p2,p3⟩:=hs'
  refine ⟨rfl,List.pairwise_append.2 ⟨p1,List.pairwise_cons.2 ⟨hd,p2⟩,fun a ha b hb=>?_⟩,by simp;omega,fun z=>?_⟩
  ·rcases List.mem_cons.1 hb with rfl | hb
   ·exact ht a ha
   ·exact p3 a ha b hb
  ·have : z ∈ l ↔ z ∈ l.take k ∨ z ∈ l.drop k := by
    rw [← List.mem_append,List.take_append_drop]
   rw [this,List.mem_append,List.mem_cons]
   constructor
   ·rintro (h | h | h)
    ·exact .inl (.inl h)
    ·exact .inr h
    ·exact .inl (.inr h)
   ·rintro ((h | h) | h)
    ·exact .inl h
    ·exact .inr (.inr h)
    ·exact .inr (.inl h)
theorem C3n {l:Lq1} (ho:Z9 l=true) (n:Int):Y0 l n=true∧(R9 l n).Pairwise (·<·)∧∀ z,z∈R9 l n↔z∈l.map (shO n):=by
 have hl:=A8f ho
 have key:∃ r:List Int,A7X l n [] 0=(0,r)∧r.Pairwise (·<·)∧∀ z,z∈r↔z∈l.map (shO n):=by
  refine A7a (fun v:A8t=>∃ (i:Nat) (r:List Int),v=(l,n,r,(i:Int))∧i≤l.length∧r.Pairwise (·<·)∧r.length≤i∧∀ z,z∈r↔z∈(l.take i).map (shO n)) (fun a:A0e=>∃ r:List Int,a=(0,r)∧r.Pairwise (·<·)∧∀ z,z∈r↔z∈l.map (shO n)) (fun v=>l.length - v.2.2.2.toNat) ?_ ⟨0,[],rfl,Nat.zero_le _,.nil,Nat.le_refl _,by simp⟩ (by simp;omega)
  rintro v ⟨i,r,rfl,hi,hp,hr,hm⟩
  by_cases hlt:i<l.length
  ·have e1:decide ((i:Int)<(l.length:Int))=true:=decide_eq_true (by omega)
   have e2:decide (0≤(i:Int)∧(i:Int)<(l.length:Int))=true:=decide_eq_true (by omega)
   have hk:=C4j ho (P0 hlt dOp)
   obtain ⟨_,q1,q2,_⟩:=C0o hk n
   obtain ⟨p1,p2,p3,p4⟩:=C7e (l:=r) (by omega) hp (B7i (l.getD i dOp).2.1 n)
   have hd:((0:Int),((⟨#[]⟩:ByteArray),(⟨#[]⟩:ByteArray)))=dOp:=rfl
   simp only [A90,B5d,hd,e1,e2,cond_true,Int.toNat_natCast,q1,p1,A7p i (by omega)]
   refine .inl ⟨_,rfl,⟨i+1,_,rfl,by omega,p2,by omega,fun z=>?_⟩,by simp only [Int.toNat_natCast];omega⟩
   rw [p4,hm,J8 hlt dOp,List.map_append,List.mem_append,← q2]
   simp only [List.map_cons,List.map_nil,List.mem_singleton,shO]
  ·obtain rfl:i=l.length:=by omega
   have e1:decide ((l.length:Int)<(l.length:Int))=false:=decide_eq_false (by omega)
   simp only [A90,e1,cond_false]
   rw [List.take_length] at hm
   exact .inr ⟨_,rfl,r,rfl,hp,hm⟩
 obtain ⟨r,e,h1,h2⟩:=key
 simp only [Y0,R9,e]
 exact ⟨rfl,h1,h2⟩
theorem C4U {l:Lq1} (ho:Z9 l=true) (n:Int):A7U n l (l.length:Int) 0 []=(0,l.map (shO n)):=by
 have hl:=A8f ho
 refine A7a (fun v:A8s=>∃ i:Nat,v=(n,l,(l.length:Int),(i:Int),(l.take i).map (shO n))∧i≤l.length) (fun a:A0d=>a=(0,l.map (shO n))) (fun v=>l.length - v.2.2.2.1.toNat) ?_ ⟨0,by simp,Nat.zero_le _⟩ (by simp;omega)
 rintro v ⟨i,rfl,hi⟩
 by_cases hlt:i<l.length
 ·have e1:decide ((i:Int)<(l.length:Int))=true:=decide_eq_true (by omega)
  have e2:decide (0≤(i:Int)∧(i:Int)<(l.length:Int))=true:=decide_eq_true (by omega)
  have hm:∀ x:Int,decide ((((l.take i).map (shO n)).length+[x].length)*8≤MAXB)=true:=fun x=>decide_eq_true (by simp only [List.length_map,List.length_take,List.length_singleton,MAXB];omega)
  have hk:=C4j ho (P0 hlt dOp)
  have hq:=(C0o hk n).1
  simp only [dOp] at hq
  simp only [A9X,e1,e2,cond_true,Int.toNat_natCast,hq,hm,B5c,A7p i (by omega)]
  refine .inl ⟨_,rfl,⟨i+1,?_,by omega⟩,by simp only [Int.toNat_natCast];omega⟩
  rw [J8 hlt dOp,List.map_append]
  rfl
 ·obtain rfl:i=l.length:=by omega
  have e1:decide ((l.length:Int)<(l.length:Int))=false:=decide_eq_false (by omega)
  simp only [A9X,e1,cond_false]
  exact .inr ⟨_,rfl,by rw [List.take_length]⟩
theorem C2B {l:Lq1} (ho:Z9 l=true) (n:Int):X7 l n=true∧B1R l n=Lib.compact (A5K (l.map (shO n))):=by
 have hl:=A8f ho
 have q1:∀ x:List Int,x.length=l.length→C0d x=true:=fun x hx=>decide_eq_true (by omega)
 simp only [X7,B1R,B1K,C4U ho n,A8I,P7,q1 _ (by simp:(l.map (shO n)).length=l.length),q1 (A5K (l.map (shO n))) (by simp [A5K]),C56]
 refine ⟨?_,?_⟩
 ·simp
 ·rw [Int.toNat_natCast,List.drop_zero,List.take_left]
theorem C9b {α:Type} {R:α→α→Prop} {h:List α} {x:α} (h1:h.Pairwise R) (h2:∀ y∈h,R y x):(h++[x]).Pairwise R:=by
 rw [List.pairwise_append]
 exact ⟨h1,by simp,fun a ha b hb=>by simp at hb;subst hb;exact h2 a ha⟩
theorem C57 {zs:List Int} (hs:zs.Pairwise (·≤·)):∀ m,m≤zs.length→(∀ x∈Lib.compactUpTo zs.toArray m,x∈zs)∧(∀ j,j<m→zs.getD j 0∈Lib.compactUpTo zs.toArray m)∧(Lib.compactUpTo zs.toArray m).Pairwise (·<·)∧(∀ x∈Lib.compactUpTo zs.toArray m,x≤zs.getD (m - 1) 0):=by
 have hg:∀ j,j<zs.length→zs.toArray[j]! = zs.getD j 0:=fun j hj=>by
  rw [getElem!_pos zs.toArray j (by simpa using hj)];simp [List.getD_eq_getElem?_getD,hj]
 intro m
 induction m with
 | zero=>intro _;exact ⟨fun x hx=>by simp [Lib.compactUpTo] at hx,fun j hj=>by omega,by simp [Lib.compactUpTo],fun x hx=>by simp [Lib.compactUpTo] at hx⟩
 | succ m ih =>
  intro hm
  obtain ⟨i1,i2,i3,i4⟩:=ih (by omega)
  rw [Lib.compactUpTo_succ]
  have hmz:zs.getD m 0∈zs:=P0 (by omega) _
  by_cases hk:Lib.keeps zs.toArray m=true
  ·rw [if_pos hk,hg m (by omega)]
   have hlt:∀ x∈Lib.compactUpTo zs.toArray m,x<zs.getD m 0:=by
    intro x hx
    have hm0:0<m:=by
     cases m with
     | zero=>simp [Lib.compactUpTo] at hx
     | succ m=>omega
    have h1:=i4 x hx
    have h2:=List.pairwise_iff_getElem.1 hs (m - 1) m (by omega) (by omega) (by omega)
    have e1:zs.getD (m - 1) 0=zs[m - 1]:=by simp [List.getD_eq_getElem?_getD,show m - 1<zs.length by omega]
    have e2:zs.getD m 0=zs[m]:=by simp [List.getD_eq_getElem?_getD,show m<zs.length by omega]
    have h3:zs.getD m 0 ≠ zs.getD (m - 1) 0:=by
     simp only [Lib.keeps,decide_eq_true_eq] at hk
     rcases hk with hk | hk
     ·omega
     ·rw [hg m (by omega),hg (m - 1) (by omega)] at hk;exact hk
    rw [e1] at h1 h3
    rw [e2] at h3 ⊢
    omega
   refine ⟨fun x hx=>?_,fun j hj=>?_,C9b i3 hlt,fun x hx=>?_⟩
   ·rcases List.mem_append.1 hx with hx | hx
    ·exact i1 x hx
    ·simp at hx;rw [hx];simpa using hmz
   ·by_cases e:j=m
    ·subst e;simp
    ·exact List.mem_append_left _ (i2 j (by omega))
   ·rw [Nat.add_sub_cancel]
    rcases List.mem_append.1 hx with hx | hx
    ·exact Int.le_of_lt (hlt x hx)
    ·simp only [List.mem_singleton] at hx;rw [hx];exact Int.le_refl _
  ·have hk':Lib.keeps zs.toArray m=false:=by simpa using hk
   have hm0:¬ m=0:=by
    intro e;subst e;simp [Lib.keeps] at hk
   have heq:zs.getD m 0=zs.getD (m - 1) 0:=by
    simp only [Lib.keeps,decide_eq_false_iff_not,not_or,Classical.not_not] at hk'
    rw [hg m (by omega),hg (m - 1) (by omega)] at hk'
    exact hk'.2
   rw [if_neg hk,List.append_nil]
   refine ⟨i1,fun j hj=>?_,i3,fun x hx=>?_⟩
   ·by_cases e:j=m
    ·subst e;rw [heq];exact i2 (j - 1) (by omega)
    ·exact i2 j (by omega)
   ·rw [Nat.add_sub_cancel,heq];exact i4 x hx
theorem C5B (l:List Int):(A5K l).Pairwise (·≤·):=by
 have h:=List.pairwise_mergeSort (le:=fun x y:Int=>decide (x≤y)) (fun a b c h1 h2=>by simp at *;omega) (fun a b=>by simp;omega) l
 exact h.imp (fun h=>by simpa using h)
theorem C4l (l:List Int) (x:Int):x∈A5K l↔x∈l:=by simp [A5K]
theorem C4J (l:List Int):(Lib.compact (A5K l)).Pairwise (·<·)∧∀ x,x∈Lib.compact (A5K l)↔x∈l:=by
 obtain ⟨i1,i2,i3,_⟩:=C57 (C5B l) (A5K l).length (Nat.le_refl _)
 refine ⟨i3,fun x=>⟨fun h=>(C4l l x).1 (i1 x h),fun h=>?_⟩⟩
 obtain ⟨j,hj,e⟩:=List.getElem_of_mem ((C4l l x).2 h)
 have:=i2 j hj
 rw [List.getD_eq_getElem?_getD,List.getElem?_eq_getElem hj,Option.getD_some,e] at this
 exact this
theorem C3q:∀ a b:List Int,a.Pairwise (·<·)→b.Pairwise (·<·)→(∀ x,x∈a↔x∈b)→a=b
 | [],[],_,_,_=>rfl
 | [],y::b,_,_,h=>absurd ((h y).2 List.mem_cons_self) (by simp)
 | x::a,[],_,_,h=>absurd ((h x).1 List.mem_cons_self) (by simp)
 | x::a,y::b,ha,hb,h=>by
  obtain ⟨a1,a2⟩:=List.pairwise_cons.1 ha
  obtain ⟨b1,b2⟩:=List.pairwise_cons.1 hb
  have hxy:x=y:=by
   rcases List.mem_cons.1 ((h x).1 List.mem_cons_self) with h1 | h1
   ·exact h1
   ·rcases List.mem_cons.1 ((h y).2 List.mem_cons_self) with h2 | h2
    ·exact h2.symm
    ·have:=b1 x h1;have:=a1 y h2;omega
  subst hxy
  rw [C3q a b a2 b2 fun z=>⟨fun hz=>?_,fun hz=>?_⟩]
  ·rcases List.mem_cons.1 ((h z).1 (List.mem_cons_of_mem _ hz)) with h1 | h1
   ·have:=a1 z hz;omega
   ·exact h1
  ·rcases List.mem_cons.1 ((h z).2 (List.mem_cons_of_mem _ hz)) with h1 | h1
   ·have:=b1 z hz;omega
   ·exact h1
theorem B5L (zs:Array Int):∀ m,(Lib.compactUpTo zs m).length≤m
 | 0=>by simp [Lib.compactUpTo]
 | m+1=>by
  have:=B5L zs m
  rw [Lib.compactUpTo_succ]
  by_cases hk:Lib.keeps zs m=true
  ·rw [if_pos hk,List.length_append];simp;omega
  ·rw [if_neg hk,List.append_nil];omega
theorem C58 (l:List Int):(Lib.compact (A5K l)).length≤l.length:=by
 have h:=B5L (A5K l).toArray (A5K l).length
 have e:(A5K l).length=l.length:=by simp [A5K]
 rw [e] at h
 exact Nat.le_trans (Nat.le_of_eq (by simp [Lib.compact,e])) h
theorem B8G {l:Lq1} (ho:Z9 l=true) (n:Int):Y0 l n=true∧X7 l n=true∧B1R l n=R9 l n∧(R9 l n).length≤1048576:=by
 obtain ⟨s1,s2,s3⟩:=C3n ho n
 obtain ⟨i1,i2⟩:=C2B ho n
 obtain ⟨c1,c2⟩:=C4J (l.map (shO n))
 have e:B1R l n=R9 l n:=by rw [i2];exact C3q _ _ c1 s2 (fun z=>by rw [c2,s3])
 refine ⟨s1,i1,e,?_⟩
 have hc:=C58 (l.map (shO n))
 have hl:=A8f ho
 rw [← e,i2]
 rw [List.length_map] at hc
 omega
theorem C2j (log:LIbe) (tx:Int):B0Q log tx=-1∨0≤B0Q log tx∧B0Q log tx<(log.length:Int):=by
 rcases C4e log tx with ⟨j,h1,h2⟩ | h
 ·right;simp only [B0Q,h2];show 0≤(j:Int)∧(j:Int)<_;omega
 ·left;simp only [B0Q,h];rfl
theorem C9e {L ys:List Int} (hL:L.length≤1048576) (hy:ys.length≤1048576) (a0 a1 a2:Int) (a3:List Q0) (a4:LIbe) (a5 b0:Int) (b1:Lq1) (b2:Int):B5b L 0 a0 a1 a2 a3 a4 a5 b0 b1 b2 ys=C7A L ys:=by
 refine Z7 (fun i=>(L,(i:Int))) ys.length _ _ (by omega) (fun i hi=>?_) ?_
 ·have e1:decide ((i:Int)<(ys.length:Int))=true:=decide_eq_true (by omega)
  have e2:decide (0≤(i:Int)∧(i:Int)<(ys.length:Int))=true:=decide_eq_true (by omega)
  obtain ⟨q1,q2⟩:=C2E hL (ys.getD i 0)
  simp only [B1N,e1,e2,cond_true,Int.toNat_natCast,q1,q2,A7p i (by omega),C8M]
  cases i with
  | zero=>cases decide (ys.getD 0 0∈L)<;>rfl
  | succ k =>
   have w:wI (((k+1:Nat):Int) - 1)=((k:Nat):Int):=by rw [A6A (by omega) (by omega)];omega
   have e3:decide (((k+1:Nat):Int) > 0)=true:=decide_eq_true (by omega)
   have e4:decide (0≤((k:Nat):Int)∧((k:Nat):Int)<(ys.length:Int))=true:=decide_eq_true (by omega)
   simp only [w,e3,e4,cond_true,Int.toNat_natCast,Nat.add_sub_cancel]
   cases decide (ys.getD (k+1) 0∈L)<;>cases decide (ys.getD k 0 ≥ ys.getD (k+1) 0)<;>rfl
 ·have e1:decide ((ys.length:Int)<(ys.length:Int))=false:=decide_eq_false (by omega)
  simp only [B1N,e1,cond_false]
theorem C8H (x:Int):((x==1)=true∧(x==2)=false∧(x==3)=false∧I8 x 1 3=true)∨((x==1)=false∧(x==2)=true∧(x==3)=false∧I8 x 1 3=true)∨((x==1)=false∧(x==2)=false∧(x==3)=true∧I8 x 1 3=true)∨((x==1)=false∧(x==2)=false∧(x==3)=false∧I8 x 1 3=false):=by
 by_cases h1:x=1
 ·subst h1;exact .inl ⟨rfl,rfl,rfl,rfl⟩
 by_cases h2:x=2
 ·subst h2;exact .inr (.inl ⟨rfl,rfl,rfl,rfl⟩)
 by_cases h3:x=3
 ·subst h3;exact .inr (.inr (.inl ⟨rfl,rfl,rfl,rfl⟩))
 refine .inr (.inr (.inr ⟨by simpa using h1,by simpa using h2,by simpa using h3,?_⟩))
 simp only [I8]
 by_cases h4:x ≥ 1
 ·rw [decide_eq_true h4,decide_eq_false (by omega)];rfl
 ·rw [decide_eq_false h4];rfl
theorem B9o (L ys:List Int):C7A L ys=(0,false)∨C7A L ys=(1,false):=by
 rcases A88 (C8M L ys) (1,false) ys.length 0 with ⟨j,a,_,h2,h3,_,h5⟩ | ⟨_,h⟩
 ·left
  rw [C7A,h5]
  simp only [C8M] at h3
  revert h3
  cases (!decide (ys.getD j 0∈L))<;>cases decide ((j:Int) > 0)<;>cases decide (ys.getD (j - 1) 0 ≥ ys.getD j 0)<;>simp [eq_comm]
 ·exact .inr h
theorem C9d (a0 a1 a2:Int) {a3:List Q0} {a4:LIbe} (a5:Int) (hl:a4.length≤1048576) (h3:a3.length≤1048576) {i:Nat} (hi:i<a3.length) (hj:A9Q (a3.getD i I7)):A87 a0 a1 a2 a3 a4 a5 (i:Int)=true∧B7P a0 a1 a2 a3 a4 a5 (i:Int)=(B7S a0 a1 a2 a4 (a3.getD i I7)&&B92 a3 i):=by
 have hdj:((0:Int),(([]:Lq1),((0:Int),([]:List Int))))=I7:=rfl
 have e2:decide (0≤(i:Int)∧(i:Int)<(a3.length:Int))=true:=decide_eq_true (by omega)
 have hw:decide ((i:Int) > 0)=true→decide (0≤wI ((i:Int) - 1)∧wI ((i:Int) - 1)<(a3.length:Int))=true∧(wI ((i:Int) - 1)).toNat=i - 1:=fun h=>by
  have:=of_decide_eq_true h
  have w:wI ((i:Int) - 1)=(i:Int) - 1:=A6A (by omega) (by omega)
  rw [w]
  exact ⟨decide_eq_true (by omega),by omega⟩
 obtain ⟨o1,o2⟩:=hj
 obtain ⟨s1,s2,s3,s4⟩:=B8G o1 a0
 obtain ⟨c1,c2⟩:=C3m a0 a1 a2 a3 a5 hl (a3.getD i I7).1
 have hr:=C2j a4 (a3.getD i I7).1
 have hy:=C9e s4 o2 a0 a1 a2 a3 a4 a5 (a3.getD i I7).1 (a3.getD i I7).2.1 (a3.getD i I7).2.2.1
 simp only [A87,B7P,B5e,B5f,B5g,B4B,hdj,Int.toNat_natCast,e2,s1,c1,c2,o1,hy,B7S,C81,B92,dCh,Bool.true_and]
 generalize a3.getD i I7=j at *
 generalize B0Q a4 j.1=ch at *
 have hneg:decide (ch<0)=!decide (ch ≥ 0):=by
  by_cases h:ch<0
  ·rw [decide_eq_true h,decide_eq_false (by omega)];rfl
  ·rw [decide_eq_false h,decide_eq_true (by omega)];rfl
 rw [hneg]
 have hrd:decide (ch ≥ 0)=true→decide (0≤ch∧ch<(a4.length:Int))=true:=fun h=>by
  have:=of_decide_eq_true h
  exact decide_eq_true (by omega)
 generalize decide (0≤ch∧ch<(a4.length:Int))=q at hrd
 generalize decide (ch ≥ 0)=g at hrd
 generalize (a4.getD ch.toNat (0,false)).2=b
 generalize I8 j.1 (wI (a1*1000)) (wI (wI (wI (a1*1000)+a2) - 1))=r
 generalize B3R j.2.1=p
 have hst:=C8H j.2.2.1
 generalize (j.2.2.1==1)=t1 at hst ⊢
 generalize (j.2.2.1==2)=t2 at hst ⊢
 generalize (j.2.2.1==3)=t3 at hst ⊢
 generalize I8 j.2.2.1 1 3=t4 at hst ⊢
 generalize hz:decide ((i:Int) > 0)=z at hw
 generalize decide (0≤wI ((i:Int) - 1)∧wI ((i:Int) - 1)<(a3.length:Int))=wq at hw
 generalize (wI ((i:Int) - 1)).toNat=wn at hw
 rcases B9o (R9 j.2.1 a0) j.2.2.2 with e | e<;>rw [e]
 all_goals cases z with
  | true =>
   obtain ⟨rfl,rfl⟩:=hw rfl
   generalize decide ((a3.getD (i - 1) I7).1 ≥ j.1)=od
   cases g with
   | true=>obtain rfl:=hrd rfl;rcases hst with ⟨rfl,rfl,rfl,rfl⟩ | ⟨rfl,rfl,rfl,rfl⟩ | ⟨rfl,rfl,rfl,rfl⟩ | ⟨rfl,rfl,rfl,rfl⟩<;>cases r<;>cases p<;>cases od<;>cases b<;>exact ⟨rfl,rfl⟩
   | false=>rcases hst with ⟨rfl,rfl,rfl,rfl⟩ | ⟨rfl,rfl,rfl,rfl⟩ | ⟨rfl,rfl,rfl,rfl⟩ | ⟨rfl,rfl,rfl,rfl⟩<;>cases r<;>cases p<;>cases od<;>cases b<;>exact ⟨rfl,rfl⟩
  | false =>
   cases g with
   | true=>obtain rfl:=hrd rfl;rcases hst with ⟨rfl,rfl,rfl,rfl⟩ | ⟨rfl,rfl,rfl,rfl⟩ | ⟨rfl,rfl,rfl,rfl⟩ | ⟨rfl,rfl,rfl,rfl⟩<;>cases r<;>cases p<;>cases b<;>exact ⟨rfl,rfl⟩
   | false=>rcases hst with ⟨rfl,rfl,rfl,rfl⟩ | ⟨rfl,rfl,rfl,rfl⟩ | ⟨rfl,rfl,rfl,rfl⟩ | ⟨rfl,rfl,rfl,rfl⟩<;>cases r<;>cases p<;>cases b<;>exact ⟨rfl,rfl⟩
theorem C3G {l:List Int} (hl:l.length≤1048576) (x:Int):J5 l x=true∧N3 l x=decide (x∈l):=by
 have e:N5 l x (l.length:Int) 0=A7A (fun i=>cond (x==l.getD i 0) (some (0,(i:Int))) none) (1,0) l.length 0:=by
  refine Z7 (fun i=>(l,x,(l.length:Int),(i:Int))) l.length _ _ (by omega) (fun i hi=>?_) ?_
  ·have e1:decide ((i:Int)<(l.length:Int))=true:=decide_eq_true (by omega)
   have e2:decide (0≤(i:Int)∧(i:Int)<(l.length:Int))=true:=decide_eq_true (by omega)
   simp only [U7,e1,e2,cond_true,Int.toNat_natCast,A7p i (by omega)]
   cases (x==l.getD i 0)<;>rfl
  ·have e1:decide ((l.length:Int)<(l.length:Int))=false:=decide_eq_false (by omega)
   simp only [U7,e1,cond_false]
 simp only [J5,N3,O1,A8i,e]
 rcases A88 (fun i=>cond (x==l.getD i 0) (some ((0:Nat),(i:Int))) none) (1,0) l.length 0 with ⟨j,a,_,h2,h3,_,h5⟩ | ⟨h1,h2⟩
 ·cases hc:(x==l.getD j 0) with
  | true =>
   simp only [hc,cond_true,Option.some.injEq] at h3
   rw [h5,← h3]
   have hm:x∈l:=by
    simp only [beq_iff_eq] at hc
    rw [hc];exact P0 (by omega) 0
   rw [decide_eq_true hm]
   exact ⟨rfl,decide_eq_true (by show (j:Int) ≥ 0;omega)⟩
  | false=>simp only [hc,cond_false] at h3;cases h3
 ·rw [h2]
  have hm:x ∉ l:=by
   intro hm
   obtain ⟨j,hj,e⟩:=List.getElem_of_mem hm
   have:=h1 j (Nat.zero_le _) (by omega)
   have hg:l.getD j 0=x:=by simp [List.getD_eq_getElem?_getD,hj,e]
   simp only [hg,beq_self_eq_true,cond_true] at this
   cases this
  rw [decide_eq_false hm]
  exact ⟨rfl,rfl⟩
theorem C83 {L ys:List Int} (hL:L.length≤1048576) (hy:ys.length≤1048576) (a0 a1 a2:Int) (a3:List Q0) (a4:LIbe) (a5 b0:Int) (b1:Lq1) (b2:Int):A9I L ys (ys.length:Int) 0 a0 a1 a2 a3 a4 a5 b0 b1 b2 ys=C7A L ys:=by
 refine Z7 (fun i=>(L,ys,(ys.length:Int),(i:Int))) ys.length _ _ (by omega) (fun i hi=>?_) ?_
 ·have e1:decide ((i:Int)<(ys.length:Int))=true:=decide_eq_true (by omega)
  have e2:decide (0≤(i:Int)∧(i:Int)<(ys.length:Int))=true:=decide_eq_true (by omega)
  obtain ⟨q1,q2⟩:=C3G hL (ys.getD i 0)
  simp only [A7B,e1,e2,cond_true,Int.toNat_natCast,q1,q2,A7p i (by omega),C8M]
  cases i with
  | zero=>cases decide (ys.getD 0 0∈L)<;>rfl
  | succ k =>
   have w:wI (((k+1:Nat):Int) - 1)=((k:Nat):Int):=by rw [A6A (by omega) (by omega)];omega
   have e3:decide (((k+1:Nat):Int) > 0)=true:=decide_eq_true (by omega)
   have e4:decide (0≤((k:Nat):Int)∧((k:Nat):Int)<(ys.length:Int))=true:=decide_eq_true (by omega)
   have e5:decide (ys.getD (k+1) 0≤ys.getD k 0)=decide (ys.getD k 0 ≥ ys.getD (k+1) 0):=rfl
   simp only [w,e3,e4,e5,cond_true,Int.toNat_natCast,Nat.add_sub_cancel]
   cases decide (ys.getD (k+1) 0∈L)<;>cases decide (ys.getD k 0 ≥ ys.getD (k+1) 0)<;>rfl
 ·have e1:decide ((ys.length:Int)<(ys.length:Int))=false:=decide_eq_false (by omega)
  simp only [A7B,e1,cond_false]
theorem C7c (s:ByteArray) (i:Nat):B7h s i=B49 s i:=by
 have hb:0≤bt s (i:Int)∧bt s (i:Int)<256:=by
  unfold bt
  split
  ·have:=UInt8.toNat_lt s[(i:Int).toNat];omega
  ·simp
 have e:=A6A (n:=bt s (i:Int)) (by omega) (by omega)
 simp only [B7h,B49,I8,B2w,e]
 generalize bt s (i:Int)=c
 by_cases h1:c ≥ 97<;>by_cases h2:c≤122<;>by_cases h3:c ≥ 48<;>by_cases h4:c≤57<;>simp [h1,h2,h3,h4]
theorem C7d (s:ByteArray):B9l s=B3I s:=by
 have e:A4B (B7h s) (s.size - (0:Int).toNat) (0:Int).toNat=A4B (B49 s) (s.size - (0:Int).toNat) (0:Int).toNat:=C2e _ _ (fun j _ _=>C7c s j)
 simp only [B9l,B3I,C15,J6,I8,e]
 cases A4B (B49 s) (s.size - (0:Int).toNat) (0:Int).toNat<;>cases decide ((s.size:Int) ≥ 1)<;>cases decide ((s.size:Int)≤12)<;>rfl
theorem C77 (k:Int) (s v:ByteArray):C3p k s v=C2C k s v:=by
 simp only [C3p,C2C,C7d,C9l,I8]
 cases B3I s with
 | false =>
  by_cases h1:k=1<;>by_cases h2:k=2<;>by_cases h3:k=3<;>by_cases h4:v=⟨#[]⟩<;>by_cases h5:k ≥ 1<;>by_cases h6:k≤3<;>simp [h1,h2,h3,h4,h5,h6]<;>omega
 | true =>
  by_cases h2:k=2
  ·subst h2
   by_cases h4:v=⟨#[]⟩
   ·subst h4;simp [ByteArray.size]
   ·simp [h4]
  ·by_cases h1:k=1
   ·subst h1;simp
   ·by_cases h3:k=3
    ·subst h3;simp
    ·by_cases h5:k ≥ 1<;>by_cases h6:k≤3<;>simp [h1,h2,h3,h5,h6]<;>omega
theorem C76 (l:Lq1) (i:Nat):C1B l i=C1i l i:=by
 simp only [C1B,C1i,C77]
 rw [← C4y,Bool.not_not]
theorem C7i (l:Lq1):B3R l=C0H l:=by
 have e:A4B (C1B l) (l.length - (0:Int).toNat) (0:Int).toNat=A4B (C1i l) (l.length - (0:Int).toNat) (0:Int).toNat:=C2e _ _ (fun j _ _=>C76 l j)
 simp only [B3R,C0H,e]
 rfl
theorem C7E (a0 a1 a2:Int) (a3:List Q0) {a4:LIbe} (a5:Int) (hl:a4.length≤1048576) {j:Q0} (hj:A9Q j):P1 j.1 j.2.1 j.2.2.1 j.2.2.2 a0 a1 a2 a3 a4 a5=true∧B1J j.1 j.2.1 j.2.2.1 j.2.2.2 a0 a1 a2 a3 a4 a5=B7S a0 a1 a2 a4 j:=by
 obtain ⟨o1,o2⟩:=hj
 obtain ⟨s1,s2,s3,s4⟩:=B8G o1 a0
 obtain ⟨c1,c2⟩:=B84 a0 a1 a2 a3 a5 hl j.1
 have hr:=C2j a4 j.1
 have hin:∀ x y z:Int,J6 x y z=I8 x y z:=fun _ _ _=>rfl
 have hy:=C83 s4 o2 a0 a1 a2 a3 a4 a5 j.1 j.2.1 j.2.2.1
 simp only [P1,B1J,A8G,A8H,B4w,A0g,hin,← C7i,s2,s3,c1,c2,o1,hy,B7S,C81,dCh]
 generalize B0Q a4 j.1=ch at *
 have hrd:decide (ch ≥ 0)=true→decide (0≤ch∧ch<(a4.length:Int))=true:=fun h=>by
  have:=of_decide_eq_true h
  exact decide_eq_true (by omega)
 generalize hq:decide (0≤ch∧ch<(a4.length:Int))=q at hrd
 generalize decide (ch ≥ 0)=g at hrd
 generalize decide (ch<0)=g2
 generalize (a4.getD ch.toNat (0,false)).2=b
 generalize I8 j.1 (wI (a1*1000)) (wI (wI (wI (a1*1000)+a2) - 1))=r
 generalize B3R j.2.1=p
 generalize (j.2.2.1==1)=t1
 generalize (j.2.2.1==2)=t2
 generalize (j.2.2.1==3)=t3
 rcases B9o (R9 j.2.1 a0) j.2.2.2 with e | e<;>rw [e]
 ·cases r<;>cases p<;>exact ⟨rfl,rfl⟩
 ·cases g with
  | true=>obtain rfl:=hrd rfl;cases r<;>cases p<;>cases t1<;>cases t2<;>cases t3<;>exact ⟨rfl,rfl⟩
  | false=>cases r<;>cases p<;>cases t1<;>cases t2<;>cases t3<;>exact ⟨rfl,rfl⟩
theorem B9J (a0 a1 a2:Int) {a3:List Q0} {a4:LIbe} (a5:Int) (h3:a3.length≤1048576) (hj:∀ j∈a3,A9Q j) (h4:a4.length≤1048576):A8Y a0 a1 a2 a3 a4 a5=true∧Z0 a0 a1 a2 a3 a4 a5=true∧A9G a0 a1 a2 a3 a4 a5=A9S a0 a1 a2 a3 a4 a5:=by
 have hin:∀ x y z:Int,J6 x y z=I8 x y z:=fun _ _ _=>rfl
 have nb:∀ x y:Int,(x != y)=!(x==y):=fun _ _=>rfl
 -- choices
 have f0:∃ f:Nat→Option (Nat×Bool),A8y 0 a0 a1 a2 a3 a4 a5=A7A f (1,false) a4.length 0∧A0h a4 (a4.length:Int) 0 a0 a1 a2 a3 a4 a5=A7A f (1,false) a4.length 0∧∀ i,f i=none∨f i=some (0,false):=by
  refine ⟨fun i=>cond (!I8 (a4.getD i dCh).1 1000 (wI (wI (wI (a1*1000)+a2) - 1))) (some (0,false)) (cond (B0Q a4 (a4.getD i dCh).1 != (i:Int)) (some (0,false)) none),?_,?_,fun i=>?_⟩
  ·refine Z7 (fun i=>((i:Int))) a4.length _ _ (by omega) (fun i hi=>?_) ?_
   ·have e1:decide ((i:Int)<(a4.length:Int))=true:=decide_eq_true (by omega)
    have e2:decide (0≤(i:Int)∧(i:Int)<(a4.length:Int))=true:=decide_eq_true (by omega)
    obtain ⟨c1,c2⟩:=C3m a0 a1 a2 a3 a5 h4 (a4.getD i dCh).1
    simp only [dCh] at c1 c2
    simp only [B0B,B3k,e1,e2,cond_true,Int.toNat_natCast,c1,c2,A7p i (by omega),dCh]
    cases I8 (a4.getD i (0,false)).1 1000 (wI (wI (wI (a1*1000)+a2) - 1))<;>cases (B0Q a4 (a4.getD i (0,false)).1 != (i:Int))<;>rfl
   ·have e1:decide ((a4.length:Int)<(a4.length:Int))=false:=decide_eq_false (by omega)
    simp only [B0B,e1,cond_false]
  ·refine Z7 (fun i=>(a4,(a4.length:Int),(i:Int))) a4.length _ _ (by omega) (fun i hi=>?_) ?_
   ·have e1:decide ((i:Int)<(a4.length:Int))=true:=decide_eq_true (by omega)
    have e2:decide (0≤(i:Int)∧(i:Int)<(a4.length:Int))=true:=decide_eq_true (by omega)
    obtain ⟨c1,c2⟩:=B84 a0 a1 a2 a3 a5 h4 (a4.getD i dCh).1
    simp only [dCh] at c1 c2
    simp only [A0k,B0S,A0g,hin,e1,e2,cond_true,Int.toNat_natCast,c1,c2,A7p i (by omega),dCh]
    cases I8 (a4.getD i (0,false)).1 1000 (wI (wI (wI (a1*1000)+a2) - 1))<;>cases (B0Q a4 (a4.getD i (0,false)).1 != (i:Int))<;>rfl
   ·have e1:decide ((a4.length:Int)<(a4.length:Int))=false:=decide_eq_false (by omega)
    simp only [A0k,e1,cond_false]
  ·dsimp only
   generalize I8 (a4.getD i dCh).1 1000 (wI (wI (wI (a1*1000)+a2) - 1))=u
   generalize (B0Q a4 (a4.getD i dCh).1 != (i:Int))=u2
   cases u<;>cases u2<;>first | exact .inl rfl | exact .inr rfl
 have f1:∃ f:Nat→Option (Nat×Bool),A8z 0 a0 a1 a2 a3 a4 a5=A7A f (1,false) a3.length 0∧A0i a3 (a3.length:Int) 0 a0 a1 a2 a3 a4 a5=A7A f (1,false) a3.length 0∧∀ i,f i=none∨f i=some (0,false):=by
  have hdj:((0:Int),(([]:Lq1),((0:Int),([]:List Int))))=I7:=rfl
  refine ⟨fun i=>cond (B7S a0 a1 a2 a4 (a3.getD i I7)&&B92 a3 i) none (some (0,false)),?_,?_,fun i=>?_⟩
  ·refine Z7 (fun i=>((i:Int))) a3.length _ _ (by omega) (fun i hi=>?_) ?_
   ·have e1:decide ((i:Int)<(a3.length:Int))=true:=decide_eq_true (by omega)
    obtain ⟨c1,c2⟩:=C9d a0 a1 a2 a5 h4 h3 hi (hj _ (P0 hi I7))
    simp only [B0C,e1,cond_true,c1,c2,A7p i (by omega)]
    cases (B7S a0 a1 a2 a4 (a3.getD i I7)&&B92 a3 i)<;>rfl
   ·have e1:decide ((a3.length:Int)<(a3.length:Int))=false:=decide_eq_false (by omega)
    simp only [B0C,e1,cond_false]
  ·refine Z7 (fun i=>(a3,(a3.length:Int),(i:Int))) a3.length _ _ (by omega) (fun i hi=>?_) ?_
   ·have e1:decide ((i:Int)<(a3.length:Int))=true:=decide_eq_true (by omega)
    have e2:decide (0≤(i:Int)∧(i:Int)<(a3.length:Int))=true:=decide_eq_true (by omega)
    obtain ⟨c1,c2⟩:=C7E a0 a1 a2 a3 a5 h4 (hj _ (P0 hi I7))
    simp only [A0l,B0T,hdj,e1,e2,cond_true,Int.toNat_natCast,c1,c2,A7p i (by omega),B92]
    generalize B7S a0 a1 a2 a4 (a3.getD i I7)=jb
    cases i with
    | zero=>cases jb<;>rfl
    | succ k =>
     have w:wI (((k+1:Nat):Int) - 1)=((k:Nat):Int):=by rw [A6A (by omega) (by omega)];omega
     have e3:decide (((k+1:Nat):Int) > 0)=true:=decide_eq_true (by omega)
     have e4:decide (0≤((k:Nat):Int)∧((k:Nat):Int)<(a3.length:Int))=true:=decide_eq_true (by omega)
     have e5:decide ((a3.getD (k+1) I7).1≤(a3.getD k I7).1)=decide ((a3.getD k I7).1 ≥ (a3.getD (k+1) I7).1):=rfl
     simp only [w,e3,e4,e5,cond_true,Int.toNat_natCast,Nat.add_sub_cancel]
     cases jb<;>cases decide ((a3.getD k I7).1 ≥ (a3.getD (k+1) I7).1)<;>rfl
   ·have e1:decide ((a3.length:Int)<(a3.length:Int))=false:=decide_eq_false (by omega)
    simp only [A0l,e1,cond_false]
  ·dsimp only
   generalize (B7S a0 a1 a2 a4 (a3.getD i I7)&&B92 a3 i)=u
   cases u<;>first | exact .inl rfl | exact .inr rfl
 have two:∀ (f:Nat→Option (Nat×Bool)) (n:Nat),(∀ i,f i=none∨f i=some (0,false))→A7A f (1,false) n 0=(0,false)∨A7A f (1,false) n 0=(1,false):=by
  intro f n h
  rcases A88 f (1,false) n 0 with ⟨j,a,_,_,h3,_,h5⟩ | ⟨_,h5⟩
  ·rcases h j with h | h
   ·rw [h] at h3;cases h3
   ·rw [h] at h3;exact .inl (by rw [h5];exact (Option.some.inj h3).symm)
  ·exact .inr h5
 obtain ⟨f,s0,i0,r0⟩:=f0
 obtain ⟨g,s1,i1,r1⟩:=f1
 have t0:=two f a4.length r0
 have t1:=two g a3.length r1
 simp only [A8Y,Z0,A9S,A9G,hin,s0,i0,s1,i1]
 generalize I8 a0 1 8=b0
 generalize I8 a1 1 900=b1
 generalize I8 a2 0 999=b2
 generalize decide ((a4.length:Int) > 1000)=b3
 generalize I8 a5 0 (a4.length:Int)=b4
 generalize A7A f (1,false) a4.length 0=x0 at t0
 generalize A7A g (1,false) a3.length 0=x1 at t1
 rcases t0 with rfl | rfl<;>rcases t1 with rfl | rfl<;>cases b0<;>cases b1<;>cases b2<;>cases b3<;>cases b4<;>exact ⟨rfl,rfl,trivial⟩
noncomputable def C3o (j:Q0):Prop:=j.2.1.length≤1048576∧j.2.2.2.length≤1048576
noncomputable def K2 {α:Type} (mk:Int→α→Int×α):Int→List α→Int×List α
 | k,[]=>(k,[])
 | k,x::r=>((K2 mk (mk k x).1 r).1,(mk k x).2::(K2 mk (mk k x).1 r).2)
noncomputable def B0V (k:Int) (j:Q0):Int×Q0:=((R8 ((K9 (k+1) j.2.1).1+1) j.2.2.2).1,(k,(K9 (k+1) j.2.1).2,(K9 (k+1) j.2.1).1,(R8 ((K9 (k+1) j.2.1).1+1) j.2.2.2).2))
theorem C0M {α:Type} (mk:Int→α→Int×α):∀ (l:List α) (k:Int),(K2 mk k l).2.length=l.length:=by
 intro l
 induction l with
 | nil=>intro k;rfl
 | cons y l ih=>intro k;simp only [K2,List.length_cons,ih]
theorem C0L {α:Type} (mk:Int→α→Int×α) (wt:α→Nat) (ok:α→Prop) (hw:∀ k x,0≤k→k+(wt x:Int)≤10000000→ok x→(mk k x).1=k+(wt x:Int)) :
  ∀ (l:List α) (k:Int),(∀ x∈l,ok x)→0≤k→k+(A0p wt l:Int)≤10000000→(K2 mk k l).1=k+(A0p wt l:Int):=by
 intro l
 induction l with
 | nil=>intro k _ _ _;simp [K2,A0p]
 | cons y l ih =>
  intro k ho h0 h1
  have e:A0p wt (y::l)=wt y+A0p wt l:=by simp [A0p]
  rw [e,Int.natCast_add] at h1
  simp only [K2]
  rw [hw k y h0 (by omega) (ho y (by simp)),ih _ (fun x hx=>ho x (by simp [hx])) (by omega) (by omega),e,Int.natCast_add]
  omega
theorem B5C {α:Type} (w:α→Nat) (l:List α) (i:Nat):A0p w l=A0p w (l.take i)+A0p w (l.drop i):=by
 simp only [A0p]
 rw [← List.sum_append,← List.map_append,List.take_append_drop]
theorem A9w {α:Type} {l:List α} {i:Nat} (h:i<l.length) (d:α):l.drop i=l.getD i d::l.drop (i+1):=by
 rw [List.drop_eq_getElem_cons h]
 simp [List.getD_eq_getElem?_getD,h]
theorem C2P {α:Type} (mk:Int→α→Int×α) (x:α):∀ (l:List α) (k:Int),K2 mk k (l++[x])=((mk (K2 mk k l).1 x).1,(K2 mk k l).2++[(mk (K2 mk k l).1 x).2]):=by
 intro l
 induction l with
 | nil=>intro k;rfl
 | cons y l ih=>intro k;simp only [List.cons_append,K2,ih]
theorem C89 {α:Type} (d:α) (mk:Int→α→Int×α) (wt:α→Nat) (ok:α→Prop) {ss:Int→Int→List α→(Int×Int×List α) ⊕ (Nat×Int×List α)} {fl:Nat×Int×List α}
  (hw:∀ k x,0≤k→k+(wt x:Int)≤10000000→ok x→(mk k x).1=k+(wt x:Int))
  (hs:∀ (k:Int) (i:Nat) (h:List α),i<h.length→h.length≤1048576→0≤k→k+(wt (h.getD i d):Int)≤10000000→ok (h.getD i d)→ss k (i:Int) h=.inl ((mk k (h.getD i d)).1,((i+1:Nat):Int),h.set i (mk k (h.getD i d)).2))
  (he:∀ (k:Int) (h:List α),h.length≤1048576→ss k (h.length:Int) h=.inr (0,k,h))
  {l:List α} (hl:l.length≤1048576) (hok:∀ x∈l,ok x) {k:Int} (h0:0≤k) (h1:k+(A0p wt l:Int)≤10000000) :
  itX (fun v=>ss v.1 v.2.1 v.2.2) fl (k,0,l)=(0,K2 mk k l):=by
 refine A7a (fun v:Int×Int×List α=>∃ i:Nat,i≤l.length∧v=((K2 mk k (l.take i)).1,(i:Int),(K2 mk k (l.take i)).2++l.drop i)) (fun a=>a=(0,K2 mk k l)) (fun v=>l.length - v.2.1.toNat) ?_ ⟨0,Nat.zero_le _,by simp [K2]⟩ (by simp;omega)
 rintro v ⟨i,hi,rfl⟩
 have hlen:((K2 mk k (l.take i)).2++l.drop i).length=l.length:=by rw [List.length_append,C0M,List.length_take,List.length_drop];omega
 have hlm:(K2 mk k (l.take i)).2.length=i:=by rw [C0M,List.length_take];omega
 have hf:(K2 mk k (l.take i)).1=k+(A0p wt (l.take i):Int):=C0L mk wt ok hw _ k (fun x hx=>hok x (List.mem_of_mem_take hx)) h0 (by have:=B5C wt l i;omega)
 by_cases hlt:i<l.length
 ·have hg : ((K2 mk k (l.take i)).2 ++ l.drop i).getD i d = l.getD i d := by
   rw [A9w hlt d]
   simp [List.getD_eq_getElem?_getD,hlm]
  have hsum:A0p wt l=A0p wt (l.take i)+(wt (l.getD i d)+A0p wt (l.drop (i+1))):=by
   rw [B5C wt l i,A9w hlt d];simp [A0p]
  have:=hs (K2 mk k (l.take i)).1 i ((K2 mk k (l.take i)).2++l.drop i) (by omega) (by omega) (by rw [hf];omega) (by rw [hg,hf];omega) (by rw [hg];exact hok _ (P0 hlt d))
  rw [hg] at this
  refine .inl ⟨_,this,⟨i+1,by omega,?_⟩,by simp only [Int.toNat_natCast];omega⟩
  rw [J8 hlt d,C2P,A9w hlt d]
  have e:=C5A (K2 mk k (l.take i)).2 (l.drop (i+1)) (l.getD i d) (mk (K2 mk k (l.take i)).1 (l.getD i d)).2
  rw [hlm] at e
  rw [e]
  simp only [List.append_assoc,List.cons_append,List.nil_append]
 ·obtain rfl:i=l.length:=by omega
  have:=he (K2 mk k (l.take l.length)).1 ((K2 mk k (l.take l.length)).2++l.drop l.length) (by omega)
  rw [hlen] at this
  refine .inr ⟨_,this,?_⟩
  simp [List.take_length]
theorem C9k {α:Type} (el:Int→α) (c:Int) (hc:0≤c∧c≤100000) (d:α) (f:Nat→Int×List α→Int×List α)
  (hf:∀ i k (h:List α),i<h.length→0≤k→k≤100000*((i:Int)+100)→h.length≤1048576→f i (k,h)=(k+c,h.set i (el k))) :
  ∀ n i k (h:List α),i+n=h.length→0≤k→k≤100000*((i:Int)+100)→h.length≤1048576 →
   (foldN f n i (k,h)).1=k+c*(n:Int)∧(foldN f n i (k,h)).2.length=h.length∧(∀ j,i≤j→j<h.length→(foldN f n i (k,h)).2.getD j d=el (k+c*((j - i:Nat):Int)))∧∀ j,j<i→(foldN f n i (k,h)).2.getD j d=h.getD j d:=by
 intro n
 induction n with
 | zero=>intro i k h hi h0 h1 h2;exact ⟨by simp [foldN],rfl,fun j hj hl=>by omega,fun j _=>rfl⟩
 | succ n ih =>
  intro i k h hi h0 h1 h2
  simp only [foldN]
  rw [hf i k h (by omega) h0 h1 h2]
  obtain ⟨q1,q2,q3,q4⟩:=ih (i+1) (k+c) (h.set i (el k)) (by simp;omega) (by omega) (by omega) (by simpa using h2)
  refine ⟨?_,by rw [q2];simp,fun j hj hl=>?_,fun j hj=>?_⟩
  ·rw [q1,Int.natCast_add,Int.mul_add];simp;omega
  ·by_cases e:j=i
   ·subst e
    rw [q4 j (by omega)]
    have:j<h.length:=hl
    simp [List.getD_eq_getElem?_getD,this]
   ·rw [q3 j (by omega) (by simpa using hl)]
    congr 1
    have:((j - i:Nat):Int)=((j - (i+1):Nat):Int)+1:=by omega
    rw [this,Int.mul_add];omega
  ·rw [q4 j (by omega)]
   have:i ≠ j:=by omega
   simp [List.getD_eq_getElem?_getD,List.getElem?_set_ne this]
theorem B3o (l:Lq1) (k:Int) (h:l.length≤1048576) (h0:0≤k) (h1:k≤10000000):(K9 k l).1=k+3*(l.length:Int)∧(K9 k l).2.length=l.length:=by
 obtain ⟨q1,q2,_⟩:=C9k (fun k=>(k,J4 (k+1),J4 (k+1+1))) 3 (by omega) dOp K3 (fun i k h hi h0 h1 h2=>by
  have w1:wI (k+(1:Int))=k+1:=A6A (by omega) (by omega)
  have w2:wI (k+1+(1:Int))=k+1+1:=A6A (by omega) (by omega)
  have w3:wI (k+1+1+(1:Int))=k+3:=by rw [A6A (by omega) (by omega)];omega
  simp only [K3,w1,w2,w3,List.set_set,B6P hi]) l.length 0 k l (by omega) h0 (by omega) h
 have e1:K9 k l=foldN K3 l.length 0 (k,l):=rfl
 rw [e1];exact ⟨q1,q2⟩
theorem D0L {α:Type} (el:Int→α) (c:Int) (hc:0≤c∧c≤100000) (d:α) (x:List α) (hx:x.length≤1048576) (g:Nat→Int→Int ⊕ Unit)
  (hg:∀ i k,i<x.length→0≤k→k≤100000*((i:Int)+100)→x.getD i d=el k→g i k=.inl (k+c)) :
  ∀ n i k,i+n=x.length→0≤k→k≤100000*((i:Int)+100)→(∀ j,i≤j→j<x.length→x.getD j d=el (k+c*((j - i:Nat):Int)))→loopN g n i k=.inl (k+c*(n:Int)):=by
 intro n
 induction n with
 | zero=>intro i k hi h0 h1 he;simp [loopN]
 | succ n ih =>
  intro i k hi h0 h1 he
  have h2:=he i (Nat.le_refl _) (by omega)
  rw [Nat.sub_self] at h2
  simp only [loopN]
  rw [hg i k (by omega) h0 h1 (by simpa using h2)]
  simp only
  rw [ih (i+1) (k+c) (by omega) (by omega) (by omega) (fun j hj hl=>by
   rw [he j (by omega) hl]
   congr 1
   have:((j - i:Nat):Int)=((j - (i+1):Nat):Int)+1:=by omega
   rw [this,Int.mul_add];omega)]
  rw [Int.natCast_add,Int.mul_add];congr 1;simp;omega
theorem heldmark {α:Type} (el:Int→α) (c:Int) (hc:0≤c∧c≤100000) (d:α) (f:Nat→Int×List α→Int×List α) (g:List α→Nat→Int→Int ⊕ Unit)
  (hf:∀ i k (h:List α),i<h.length→0≤k→k≤100000*((i:Int)+100)→h.length≤1048576→f i (k,h)=(k+c,h.set i (el k)))
  (hg:∀ (x:List α) i k,x.length≤1048576→i<x.length→0≤k→k≤100000*((i:Int)+100)→x.getD i d=el k→g x i k=.inl (k+c)) (h:List α) (hh:h.length≤1048576) (k:Int) (h0:0≤k) (h1:k≤10000000) :
  (foldN f h.length 0 (k,h)).1=k+c*(h.length:Int)∧(foldN f h.length 0 (k,h)).2.length=h.length∧loopN (g (foldN f h.length 0 (k,h)).2) (foldN f h.length 0 (k,h)).2.length 0 k=.inl (k+c*(h.length:Int)):=by
 obtain ⟨q1,q2,q3,_⟩:=C9k el c hc d f hf h.length 0 k h (by omega) h0 (by omega) hh
 refine ⟨q1,q2,?_⟩
 have:=D0L el c hc d (foldN f h.length 0 (k,h)).2 (by rw [q2];exact hh) (g (foldN f h.length 0 (k,h)).2) (fun i k hi=>hg _ i k (by rw [q2];exact hh) hi) (foldN f h.length 0 (k,h)).2.length 0 k (by omega) h0 (by omega) (fun j hj hl=>q3 j hj (by rw [q2] at hl;exact hl))
 rw [this,q2]
theorem B5a (l:List Int) (k:Int) (h:l.length≤1048576) (h0:0≤k) (h1:k≤10000000):(R8 k l).1=k+(l.length:Int)∧(R8 k l).2.length=l.length∧B1S (R8 k l).2 k=(R8 k l).1∧X9 k l=true∧X8 (R8 k l).2 k=true:=by
 obtain ⟨q1,q2,q3⟩:=heldmark (fun k=>k) 1 (by omega) (0:Int) L3 L2 (fun i k h hi h0 h1 h2=>by
  have w1:wI (k+(1:Int))=k+1:=A6A (by omega) (by omega)
  simp only [L3,w1]) (fun x i k hx hi h0 h1 he=>by
  have w1:wI (k+(1:Int))=k+1:=A6A (by omega) (by omega)
  have e:(k != k)=false:=by simp
  simp only [L2,he,e,cond_false,w1]) l h k h0 h1
 have e1:R8 k l=foldN L3 l.length 0 (k,l):=rfl
 have e2:∀ x,B1S x k=cond (A7n (loopN (L2 x) x.length 0 k)) (A7f (-1) (loopN (L2 x) x.length 0 k)) (-1:Int):=fun x=>rfl
 rw [e1]
 refine ⟨by rw [q1];omega,q2,by rw [e2,q3,q1];rfl,by simp only [X9,okL];simp;omega,by simp only [X8,okL,q2];simp;omega⟩
theorem B7I (k:Int) (j:Q0) (h0:0≤k) (h1:k+(A9c j:Int)≤10000000) (hj:C3o j):(B0V k j).1=k+(A9c j:Int):=by
 obtain ⟨s1,s2⟩:=hj
 simp only [A9c] at h1 ⊢
 have m1:=(B3o j.2.1 (k+1) s1 (by omega) (by omega)).1
 have m2:=(B5a j.2.2.2 ((K9 (k+1) j.2.1).1+1) s2 (by omega) (by omega)).1
 simp only [B0V]
 rw [m2,m1]
 omega
theorem C8G {k:Int} {l:Lq1} (h:l.length≤1048576) (h0:0≤k) (h1:k≤10000000):A75 k l=true∧A73 (K9 k l).2 k=true:=by
 have h2:=(B3o l k h h0 h1).2
 exact ⟨by simp only [A75,okL];simp;omega,by simp only [A73,okL,h2];simp;omega⟩
theorem C7h {α:Type} (mk:Int→α→Int×α) (d:α):∀ (l:List α) (k:Int) (i:Nat),i<l.length→(K2 mk k l).2.getD i d=(mk (K2 mk k (l.take i)).1 (l.getD i d)).2:=by
 intro l
 induction l with
 | nil=>intro k i h;simp at h
 | cons y l ih =>
  intro k i h
  cases i with
  | zero=>simp [K2]
  | succ i =>
   simp only [K2,List.getD_cons_succ,List.take_succ_cons]
   exact ih _ i (by simpa using h)
theorem C82 {α:Type} (d:α) (mk:Int→α→Int×α) (wt:α→Nat) (ok:α→Prop) {ss:List α→Int→Int→(List α×Int×Int) ⊕ (Nat×Int×Int)} {fl:Nat×Int×Int} {z:Int}
  (hw:∀ k x,0≤k→k+(wt x:Int)≤10000000→ok x→(mk k x).1=k+(wt x:Int))
  (hs:∀ (k:Int) (i:Nat) (h:List α) (x:α),i<h.length→h.length≤1048576→0≤k→k+(wt x:Int)≤10000000→ok x→h.getD i d=(mk k x).2→ss h k (i:Int)=.inl (h,(mk k x).1,((i+1:Nat):Int)))
  (he:∀ (k:Int) (h:List α),h.length≤1048576→ss h k (h.length:Int)=.inr (1,z,k))
  {l:List α} (hl:l.length≤1048576) (hok:∀ x∈l,ok x) {k:Int} (h0:0≤k) (h1:k+(A0p wt l:Int)≤10000000) :
  itX (fun v=>ss v.1 v.2.1 v.2.2) fl ((K2 mk k l).2,k,0)=(1,z,(K2 mk k l).1):=by
 have hl2:=C0M mk l k
 refine A7a (fun v:List α×Int×Int=>∃ i:Nat,i≤l.length∧v=((K2 mk k l).2,(K2 mk k (l.take i)).1,(i:Int))) (fun a=>a=(1,z,(K2 mk k l).1)) (fun v=>l.length - v.2.2.toNat) ?_ ⟨0,Nat.zero_le _,by simp [K2]⟩ (by simp;omega)
 rintro v ⟨i,hi,rfl⟩
 have hf:(K2 mk k (l.take i)).1=k+(A0p wt (l.take i):Int):=C0L mk wt ok hw _ k (fun x hx=>hok x (List.mem_of_mem_take hx)) h0 (by have:=B5C wt l i;omega)
 by_cases hlt:i<l.length
 ·have hsum : A0p wt l = A0p wt (l.take i) + (wt (l.getD i d) + A0p wt (l.drop (i + 1))) := by
   rw [B5C wt l i,A9w hlt d];simp [A0p]
  have:=hs (K2 mk k (l.take i)).1 i (K2 mk k l).2 (l.getD i d) (by omega) (by omega) (by rw [hf];omega) (by rw [hf];omega) (hok _ (P0 hlt d)) (C7h mk d l k i hlt)
  refine .inl ⟨_,this,⟨i+1,by omega,?_⟩,by simp only [Int.toNat_natCast];omega⟩
  rw [J8 hlt d,C2P]
 ·obtain rfl:i=l.length:=by omega
  have:=he (K2 mk k (l.take l.length)).1 (K2 mk k l).2 (by omega)
  rw [hl2] at this
  refine .inr ⟨_,this,?_⟩
  rw [List.take_length]
theorem C7j (l:Lq1) (k:Int) (h:l.length≤1048576) (h0:0≤k) (h1:k≤10000000):B4s (K9 k l).2 k=(K9 k l).1:=by
 obtain ⟨q1,q2,q3⟩:=heldmark (fun k=>(k,J4 (k+1),J4 (k+1+1))) 3 (by omega) dOp K3 K7 (fun i k h hi h0 h1 h2=>by
  have w1:wI (k+(1:Int))=k+1:=A6A (by omega) (by omega)
  have w2:wI (k+1+(1:Int))=k+1+1:=A6A (by omega) (by omega)
  have w3:wI (k+1+1+(1:Int))=k+3:=by rw [A6A (by omega) (by omega)];omega
  simp only [K3,w1,w2,w3,List.set_set,B6P hi]) (fun x i k hx hi h0 h1 he=>by
  have w1:wI (k+(1:Int))=k+1:=A6A (by omega) (by omega)
  have w2:wI (k+1+(1:Int))=k+1+1:=A6A (by omega) (by omega)
  have w3:wI (k+1+1+(1:Int))=k+3:=by rw [A6A (by omega) (by omega)];omega
  simp only [dOp] at he
  have e:(k != k)=false:=by simp
  simp only [K7,he,e,cond_false,w1,w2,w3,beq_self_eq_true,Bool.not_true]) l h k h0 h1
 have e1:K9 k l=foldN K3 l.length 0 (k,l):=rfl
 have e2:∀ x,B4s x k=cond (A7n (loopN (K7 x) x.length 0 k)) (A7f (-1) (loopN (K7 x) x.length 0 k)) (-1:Int):=fun x=>rfl
 rw [e1,e2,q3,q1];rfl
theorem C3O {l:List Q0} (hl:l.length≤1048576) (ho:∀ j∈l,C3o j) {k:Int} (h0:0≤k) (h1:k+(A0p A9c l:Int)≤10000000) :
  A74 k l=true∧B0f k l=K2 B0V k l∧(K2 B0V k l).1=k+(A0p A9c l:Int)∧A72 (K2 B0V k l).2 k=true∧A86 (K2 B0V k l).2 k=(K2 B0V k l).1:=by
 have hdj:((0:Int),(([]:Lq1),((0:Int),([]:List Int))))=I7:=rfl
 have e1:A7W k 0 l=(0,K2 B0V k l):=by
  refine C89 I7 B0V A9c C3o B7I (fun k i h hi hl h0 h1 ho=>?_) (fun k h hl=>?_) hl ho h0 h1
  ·have c1:decide ((i:Int)<(h.length:Int))=true:=decide_eq_true (by omega)
   have c2:decide (0≤(i:Int)∧(i:Int)<(h.length:Int))=true:=decide_eq_true (by omega)
   obtain ⟨s1,s2⟩:=ho
   have hw:=B7I k _ h0 h1 ⟨s1,s2⟩
   simp only [A9c] at h1
   have w1:wI (k+(1:Int))=k+1:=A6A (by omega) (by omega)
   have m1:=(B3o (h.getD i I7).2.1 (k+1) s1 (by omega) (by omega)).1
   have w2:wI ((K9 (k+1) (h.getD i I7).2.1).1+(1:Int))=(K9 (k+1) (h.getD i I7).2.1).1+1:=A6A (by omega) (by omega)
   have q1:=(C8G s1 (k:=k+1) (by omega) (by omega)).1
   have q2:=(B5a (h.getD i I7).2.2.2 ((K9 (k+1) (h.getD i I7).2.1).1+1) s2 (by omega) (by omega)).2.2.2.1
   simp only [A9Z,hdj,c1,c2,cond_true,Int.toNat_natCast,List.length_set,B6P hi,List.set_set,w1,w2,q1,q2,A7p i (by omega)]
   rfl
  ·have c1:decide ((h.length:Int)<(h.length:Int))=false:=decide_eq_false (by omega)
   simp only [A9Z,c1,cond_false]
 have e2:A7V (K2 B0V k l).2 k 0=(1,0,(K2 B0V k l).1):=by
  refine C82 I7 B0V A9c C3o B7I (fun k i h x hi hl h0 h1 ho hg=>?_) (fun k h hl=>?_) hl ho h0 h1
  ·have c1:decide ((i:Int)<(h.length:Int))=true:=decide_eq_true (by omega)
   have c2:decide (0≤(i:Int)∧(i:Int)<(h.length:Int))=true:=decide_eq_true (by omega)
   obtain ⟨s1,s2⟩:=ho
   simp only [A9c] at h1
   have w1:wI (k+(1:Int))=k+1:=A6A (by omega) (by omega)
   have m1:=(B3o x.2.1 (k+1) s1 (by omega) (by omega)).1
   have w2:wI ((K9 (k+1) x.2.1).1+(1:Int))=(K9 (k+1) x.2.1).1+1:=A6A (by omega) (by omega)
   have q1:=(C8G s1 (k:=k+1) (by omega) (by omega)).2
   have q3:=C7j x.2.1 (k+1) s1 (by omega) (by omega)
   obtain ⟨t1,_,t3,_,t5⟩:=B5a x.2.2.2 ((K9 (k+1) x.2.1).1+1) s2 (by omega) (by omega)
   have n1:(k != k)=false:=by simp
   have n2:∀ y:Int,(y != y)=false:=fun y=>by simp
   have d1:decide ((K9 (k+1) x.2.1).1<0)=false:=decide_eq_false (by omega)
   have d2:decide ((R8 ((K9 (k+1) x.2.1).1+1) x.2.2.2).1<0)=false:=decide_eq_false (by omega)
   simp only [B0V] at hg
   simp only [A9Y,hdj,c1,c2,cond_true,Int.toNat_natCast,hg,n2,cond_false,w1,w2,q1,q3,t3,t5,d1,d2,A7p i (by omega)]
   rfl
  ·have c1:decide ((h.length:Int)<(h.length:Int))=false:=decide_eq_false (by omega)
   simp only [A9Y,c1,cond_false]
 refine ⟨by simp only [A74,e1];rfl,by simp only [B0f,e1],C0L B0V A9c C3o B7I l k ho h0 h1,by simp only [A72,e2];rfl,by simp only [A86,e2];rfl⟩
theorem C2k (l:LIbe) (k:Int) (h:l.length≤1048576) (h0:0≤k) (h1:k≤10000000):(K8 k l).1=k+2*(l.length:Int)∧(K8 k l).2.length=l.length∧A8d (K8 k l).2 k=(K8 k l).1∧P3 k l=true∧P2 (K8 k l).2 k=true:=by
 obtain ⟨q1,q2,q3⟩:=heldmark (fun k=>(k,Int.tmod (k+1) 3==0)) 2 (by omega) ((0:Int),false) I9 I6 (fun i k h hi h0 h1 h2=>by
  have w1:wI (k+(1:Int))=k+1:=A6A (by omega) (by omega)
  have w2:wI (k+1+(1:Int))=k+2:=by rw [A6A (by omega) (by omega)];omega
  simp only [I9,w1,w2,List.set_set,B6P hi]) (fun x i k hx hi h0 h1 he=>by
  have w1:wI (k+(1:Int))=k+1:=A6A (by omega) (by omega)
  have w2:wI (k+1+(1:Int))=k+2:=by rw [A6A (by omega) (by omega)];omega
  have e:(k != k)=false:=by simp
  simp only [I6,he,e,cond_false,w1,w2,beq_self_eq_true,Bool.not_true]) l h k h0 h1
 have e1:K8 k l=foldN I9 l.length 0 (k,l):=rfl
 have e2:∀ x,A8d x k=cond (A7n (loopN (I6 x) x.length 0 k)) (A7f (-1) (loopN (I6 x) x.length 0 k)) (-1:Int):=fun x=>rfl
 rw [e1]
 refine ⟨q1,q2,by rw [e2,q3,q1];rfl,by simp only [P3,okL];simp;omega,by simp only [P2,okL,q2];simp;omega⟩
theorem C07 (a b c d a' b' c' d':Int) {jobs:List Q0} {log:LIbe} (h3:jobs.length≤1048576) (hj:∀ j∈jobs,C3o j) (h4:log.length≤1048576) (hw:A0p A9c jobs+2*log.length≤9000000) :
  Q9 a b c d 1 jobs log=true∧0≤(P9 a b c d 1 jobs log).1∧Z2 a' b' c' (P9 a b c d 1 jobs log).2.1 (P9 a b c d 1 jobs log).2.2 d' 1=true ∧
   B5h a' b' c' (P9 a b c d 1 jobs log).2.1 (P9 a b c d 1 jobs log).2.2 d' 1=(P9 a b c d 1 jobs log).1:=by
 obtain ⟨m1,m2,m3,m4,m5⟩:=C3O h3 hj (k:=1) (by decide) (by omega)
 have key:∀ k:Int,0≤k→k≤10000000→(K8 k log).1=k+2*(log.length:Int)∧A8d (K8 k log).2 k=(K8 k log).1∧P3 k log=true∧P2 (K8 k log).2 k=true:=by
  intro k k0 k1
  obtain ⟨t1,_,t3,t4,t5⟩:=C2k log k (by omega) k0 k1
  exact ⟨t1,t3,t4,t5⟩
 obtain ⟨t1,t3,t4,t5⟩:=key (K2 B0V 1 jobs).1 (by omega) (by omega)
 have d1:decide ((K2 B0V 1 jobs).1<0)=false:=decide_eq_false (by omega)
 have d2:decide ((K8 (K2 B0V 1 jobs).1 log).1<0)=false:=decide_eq_false (by omega)
 simp only [Q9,P9,Z2,B5h,m1,m2,m4,m5,t3,t4,t5,d1,d2,cond_false,Bool.and_self]
 refine ⟨trivial,by omega,trivial,trivial⟩
theorem C6E {j:Q0} (h:A9Q j):C3o j:=⟨A8f h.1,h.2⟩
structure JobR (n life next:Int) (log:LIbe) (j:Q0):Prop where
 lo:life*1000≤j.1
 hi:j.1≤life*1000+next - 1
 ops:B3R j.2.1=true
 yes:C7A (R9 j.2.1 n) j.2.2.2=(1,false)
 fin:C81 log j.2.2.1 (B0Q log j.1)=true
structure CR (n life next:Int) (jobs:List Q0) (log:LIbe) (sure:Int):Prop where
 n1:1≤n∧n≤8
 l1:1≤life∧life≤900
 x1:0≤next∧next≤999
 lg:log.length≤1000
 s1:0≤sure∧sure≤log.length
 tx:∀ i,i<log.length→1000≤(log.getD i dCh).1∧(log.getD i dCh).1≤life*1000+next - 1∧B0Q log (log.getD i dCh).1=(i:Int)
 jb:∀ i,i<jobs.length→JobR n life next log (jobs.getD i I7)
 jo:∀ i,i+1<jobs.length→(jobs.getD i I7).1<(jobs.getD (i+1) I7).1
noncomputable def C1k (log:LIbe) (sure keep:Int):Nat:=(sure+(if (log.length:Int) - sure<(if (0:Int) > keep then (0:Int) else keep) then (log.length:Int) - sure else (if (0:Int) > keep then (0:Int) else keep))).toNat
theorem C7H {f:Nat→Option (Nat×Bool)} {n:Nat} (h:∀ i,f i=none∨f i=some (0,false)):(A7A f (1,false) n 0=(1,false)∧∀ i,i<n→f i=none)∨(A7A f (1,false) n 0=(0,false)∧∃ i,i<n∧f i ≠ none):=by
 rcases A88 f (1,false) n 0 with ⟨j,a,_,h2,h3,_,h5⟩ | ⟨h4,h5⟩
 ·rcases h j with h | h
  ·rw [h] at h3;cases h3
  ·rw [h] at h3;exact .inr ⟨by rw [h5];exact (Option.some.inj h3).symm,j,by omega,by rw [h];simp⟩
 ·exact .inl ⟨h5,fun i hi=>h4 i (Nat.zero_le _) (by omega)⟩
theorem W4 {x a b:Int}:I8 x a b=true↔a≤x∧x≤b:=by
 simp only [I8]
 by_cases h:x ≥ a
 ·rw [decide_eq_true h];simp only [cond_true,decide_eq_true_eq];omega
 ·rw [decide_eq_false h];simp only [cond_false,Bool.false_eq_true,false_iff];omega
theorem B6R {x a b:Int} (h:¬ (a≤x∧x≤b)):I8 x a b=false:=by
 cases hb:I8 x a b with
 | false=>rfl
 | true=>exact absurd (W4.1 hb) h
theorem txw {life next:Int} (l1:1≤life∧life≤900) (x1:0≤next∧next≤999):wI (life*1000)=life*1000∧wI (wI (life*1000)+next)=life*1000+next∧wI (wI (wI (life*1000)+next) - 1)=life*1000+next - 1:=by
 have e1:wI (life*1000)=life*1000:=A6A (by omega) (by omega)
 have e2:wI (life*1000+next)=life*1000+next:=A6A (by omega) (by omega)
 have e3:wI (life*1000+next - 1)=life*1000+next - 1:=A6A (by omega) (by omega)
 rw [e1,e2,e3]
 exact ⟨rfl,rfl,rfl⟩
theorem C6g {n life next:Int} {log:LIbe} {j:Q0} (l1:1≤life∧life≤900) (x1:0≤next∧next≤999):B7S n life next log j=true↔JobR n life next log j:=by
 obtain ⟨w1,w2,w3⟩:=txw l1 x1
 simp only [B7S,Bool.and_eq_true,W4,beq_iff_eq]
 rw [w3,w1]
 constructor
 ·rintro ⟨⟨h1,h2⟩,h3,h4,h5⟩
  refine ⟨h1,h2,h3,?_,h5⟩
  rcases B9o (R9 j.2.1 n) j.2.2.2 with e | e
  ·rw [e] at h4;cases h4
  ·exact e
 ·rintro ⟨h1,h2,h3,h4,h5⟩
  exact ⟨⟨h1,h2⟩,h3,by rw [h4],h5⟩
theorem B9V {a0 a1 a2:Int} {a3:List Q0} {a4:LIbe} {a5:Int} (h3:a3.length≤1048576) (hj:∀ j∈a3,A9Q j) (h4:a4.length≤1048576):Z0 a0 a1 a2 a3 a4 a5=true∧(A9G a0 a1 a2 a3 a4 a5=true↔CR a0 a1 a2 a3 a4 a5):=by
  have hin:∀ x y z:Int,J6 x y z=I8 x y z:=fun _ _ _=>rfl
  have hdj:((0:Int),(([]:Lq1),((0:Int),([]:List Int))))=I7:=rfl
  have e0:A0h a4 (a4.length:Int) 0 a0 a1 a2 a3 a4 a5=A7A (fun i=>cond (!I8 (a4.getD i dCh).1 1000 (wI (wI (wI (a1*1000)+a2) - 1))) (some (0,false)) (cond (B0Q a4 (a4.getD i dCh).1 != (i:Int)) (some (0,false)) none)) (1,false) a4.length 0:=by
    refine Z7 (fun i=>(a4,(a4.length:Int),(i:Int))) a4.length _ _ (by omega) (fun i hi=>?_) ?_
    · have e1:decide ((i:Int)<(a4.length:Int))=true:=decide_eq_true (by omega)
      have e2:decide (0≤(i:Int)∧(i:Int)<(a4.length:Int))=true:=decide_eq_true (by omega)
      obtain ⟨c1,c2⟩:=B84 a0 a1 a2 a3 a5 h4 (a4.getD i dCh).1
      simp only [dCh] at c1 c2
      simp only [A0k,B0S,A0g,hin,e1,e2,cond_true,Int.toNat_natCast,c1,c2,A7p i (by omega),dCh]
      cases I8 (a4.getD i (0,false)).1 1000 (wI (wI (wI (a1*1000)+a2) - 1))<;>cases (B0Q a4 (a4.getD i (0,false)).1 != (i:Int))<;>rfl
    · have e1:decide ((a4.length:Int)<(a4.length:Int))=false:=decide_eq_false (by omega)
      simp only [A0k,e1,cond_false]
  have e1:A0i a3 (a3.length:Int) 0 a0 a1 a2 a3 a4 a5=A7A (fun i=>cond (B7S a0 a1 a2 a4 (a3.getD i I7)&&B92 a3 i) none (some (0,false))) (1,false) a3.length 0:=by
    refine Z7 (fun i=>(a3,(a3.length:Int),(i:Int))) a3.length _ _ (by omega) (fun i hi=>?_) ?_
    · have e1:decide ((i:Int)<(a3.length:Int))=true:=decide_eq_true (by omega)
      have e2:decide (0≤(i:Int)∧(i:Int)<(a3.length:Int))=true:=decide_eq_true (by omega)
      obtain ⟨c1,c2⟩:=C7E a0 a1 a2 a3 a5 h4 (hj _ (P0 hi I7))
      simp only [A0l,B0T,hdj,e1,e2,cond_true,Int.toNat_natCast,c1,c2,A7p i (by omega),B92]
      generalize B7S a0 a1 a2 a4 (a3.getD i I7)=jb
      cases i with
      | zero=>cases jb<;>rfl
      | succ k =>
        have w:wI (((k+1:Nat):Int) - 1)=((k:Nat):Int):=by rw [A6A (by omega) (by omega)];omega
        have e3:decide (((k+1:Nat):Int) > 0)=true:=decide_eq_true (by omega)
        have e4:decide (0≤((k:Nat):Int)∧((k:Nat):Int)<(a3.length:Int))=true:=decide_eq_true (by omega)
        have e5:decide ((a3.getD (k+1) I7).1≤(a3.getD k I7).1)=decide ((a3.getD k I7).1 ≥ (a3.getD (k+1) I7).1):=rfl
        simp only [w,e3,e4,e5,cond_true,Int.toNat_natCast,Nat.add_sub_cancel]
        cases jb<;>cases decide ((a3.getD k I7).1 ≥ (a3.getD (k+1) I7).1)<;>rfl
    · have e1:decide ((a3.length:Int)<(a3.length:Int))=false:=decide_eq_false (by omega)
      simp only [A0l,e1,cond_false]
  have two0:∀ i,(fun i:Nat=>cond (!I8 (a4.getD i dCh).1 1000 (wI (wI (wI (a1*1000)+a2) - 1))) (some ((0:Nat),false)) (cond (B0Q a4 (a4.getD i dCh).1 != (i:Int)) (some (0,false)) none)) i=none∨(fun i:Nat=>cond (!I8 (a4.getD i dCh).1 1000 (wI (wI (wI (a1*1000)+a2) - 1))) (some ((0:Nat),false)) (cond (B0Q a4 (a4.getD i dCh).1 != (i:Int)) (some (0,false)) none)) i=some (0,false):=by
    intro i
    dsimp only
    generalize I8 (a4.getD i dCh).1 1000 (wI (wI (wI (a1*1000)+a2) - 1))=u
    generalize (B0Q a4 (a4.getD i dCh).1 != (i:Int))=u2
    cases u<;>cases u2<;>first | exact .inl rfl | exact .inr rfl
  have two1:∀ i,(fun i:Nat=>cond (B7S a0 a1 a2 a4 (a3.getD i I7)&&B92 a3 i) none (some ((0:Nat),false))) i=none∨(fun i:Nat=>cond (B7S a0 a1 a2 a4 (a3.getD i I7)&&B92 a3 i) none (some ((0:Nat),false))) i=some (0,false):=by
    intro i
    dsimp only
    generalize (B7S a0 a1 a2 a4 (a3.getD i I7)&&B92 a3 i)=u
    cases u<;>first | exact .inl rfl | exact .inr rfl
  have s0:=C7H (n:=a4.length) two0
  have s1:=C7H (n:=a3.length) two1
  rw [← e0] at s0
  rw [← e1] at s1
  refine ⟨?_,?_⟩
  · simp only [Z0]
    rcases s0 with ⟨q0,_⟩ | ⟨q0,_⟩<;>rcases s1 with ⟨q1,_⟩ | ⟨q1,_⟩<;>rw [q0,q1]<;>cases (J6 a0 1 8)<;>cases (J6 a1 1 900)<;>cases (J6 a2 0 999)<;>cases decide ((a4.length:Int) > 1000)<;>cases (J6 a5 0 (a4.length:Int))<;>rfl
  simp only [A9G,hin]
  by_cases b0:1≤a0∧a0≤8
  case neg=>rw [B6R b0];simp only [Bool.not_false,cond_true,Bool.false_eq_true,false_iff];exact fun h=>b0 h.n1
  by_cases b1:1≤a1∧a1≤900
  case neg=>rw [B6R b1,W4.2 b0];simp only [Bool.not_false,Bool.not_true,cond_true,cond_false,Bool.false_eq_true,false_iff];exact fun h=>b1 h.l1
  by_cases b2:0≤a2∧a2≤999
  case neg=>rw [B6R b2,W4.2 b0,W4.2 b1];simp only [Bool.not_false,Bool.not_true,cond_true,cond_false,Bool.false_eq_true,false_iff];exact fun h=>b2 h.x1
  by_cases b3:(a4.length:Int) > 1000
  case pos=>rw [decide_eq_true b3,W4.2 b0,W4.2 b1,W4.2 b2];simp only [Bool.not_true,cond_true,cond_false,Bool.false_eq_true,false_iff];exact fun h=>by have:=h.lg;omega
  by_cases b4:0≤a5∧a5≤(a4.length:Int)
  case neg=>rw [B6R b4,decide_eq_false b3,W4.2 b0,W4.2 b1,W4.2 b2];simp only [Bool.not_false,Bool.not_true,cond_true,cond_false,Bool.false_eq_true,false_iff];exact fun h=>b4 h.s1
  rw [W4.2 b4,decide_eq_false b3,W4.2 b0,W4.2 b1,W4.2 b2]
  simp only [Bool.not_true,cond_false]
  obtain ⟨w1,w2,w3⟩:=txw b1 b2
  have pt:∀ i,i<a4.length→((fun i:Nat=>cond (!I8 (a4.getD i dCh).1 1000 (wI (wI (wI (a1*1000)+a2) - 1))) (some ((0:Nat),false)) (cond (B0Q a4 (a4.getD i dCh).1 != (i:Int)) (some (0,false)) none)) i=none↔(i<a4.length→1000≤(a4.getD i dCh).1∧(a4.getD i dCh).1≤a1*1000+a2 - 1∧B0Q a4 (a4.getD i dCh).1=(i:Int))):=by
    intro i hi
    dsimp only
    rw [w3]
    by_cases c1:1000≤(a4.getD i dCh).1∧(a4.getD i dCh).1≤a1*1000+a2 - 1
    · rw [W4.2 c1]
      simp only [Bool.not_true,cond_false]
      by_cases c2:B0Q a4 (a4.getD i dCh).1=(i:Int)
      · have:(B0Q a4 (a4.getD i dCh).1 != (i:Int))=false:=by rw [c2];simp
        rw [this];simp only [cond_false,true_iff];exact fun _=>⟨c1.1,c1.2,c2⟩
      · have:(B0Q a4 (a4.getD i dCh).1 != (i:Int))=true:=by simpa using c2
        rw [this];simp only [cond_true,reduceCtorEq,false_iff];exact fun h=>c2 (h hi).2.2
    · rw [B6R c1]
      simp only [Bool.not_false,cond_true,reduceCtorEq,false_iff];exact fun h=>c1 ⟨(h hi).1,(h hi).2.1⟩
  have ordI:∀ i,i<a3.length→(B92 a3 i=true↔(i=0∨(a3.getD (i - 1) I7).1<(a3.getD i I7).1)):=by
    intro i hi
    simp only [B92]
    by_cases h:(i:Int) > 0
    · rw [decide_eq_true h]
      simp only [cond_true,Bool.not_eq_true', decide_eq_false_iff_not]
      omega
    · rw [decide_eq_false h]
      simp only [cond_false,true_iff]
      omega
  rcases s0 with ⟨q0,r0⟩ | ⟨q0,i,hi,r0⟩
  case inr =>
    rw [q0]
    simp only [beq_self_eq_true,cond_true,Bool.false_eq_true,false_iff]
    exact fun h=>r0 ((pt i hi).2 (fun _=>h.tx i hi))
  rw [q0]
  rcases s1 with ⟨q1,r1⟩ | ⟨q1,i,hi,r1⟩
  · rw [q1]
    refine ⟨fun _=>⟨b0,b1,b2,by omega,b4,fun i hi=>(pt i hi).1 (r0 i hi) hi,fun i hi=>?_,fun i hi=>?_⟩,fun _=>rfl⟩
    · have:=r1 i hi
      try dsimp only at this
      cases hb:B7S a0 a1 a2 a4 (a3.getD i I7) with
      | true=>exact (C6g b1 b2).1 hb
      | false=>rw [hb] at this;cases this
    · have:=r1 (i+1) hi
      try dsimp only at this
      cases hb:B92 a3 (i+1) with
      | true => rcases (ordI (i + 1) hi).1 hb with h | h
                · omega
                · exact h
      | false=>rw [hb,Bool.and_false] at this;cases this
  · rw [q1]
    refine ⟨fun h=>(by cases h),fun h=>?_⟩
    exfalso
    apply r1
    try dsimp only
    rw [(C6g b1 b2).2 (h.jb i hi),(ordI i hi).2 (by
      cases i with
      | zero=>exact .inl rfl
      | succ i=>exact .inr (h.jo i hi))]
    rfl
theorem C6D (n life next:Int) {jobs:List Q0} {log:LIbe} (sure:Int) (h3:jobs.length≤1048576) (hj:∀ j∈jobs,A9Q j) (h4:log.length≤1048577):A80 n life next jobs log sure=true∧B2Q n life next jobs log sure=(n,life,next,sure,jobs,log):=by
 have hdj:((0:Int),(([]:Lq1),((0:Int),([]:List Int))))=I7:=rfl
 have key:B3J 0 n life next jobs log sure 0 0 0 0 n life next sure [] log=(0,jobs,log):=by
  refine A7a (fun v:A9u=>∃ i:Nat,v=((i:Int),jobs.take i,log)∧i≤jobs.length) (fun a:A78=>a=(0,jobs,log)) (fun v=>jobs.length - v.1.toNat) ?_ ⟨0,by simp,Nat.zero_le _⟩ (by simp;omega)
  rintro v ⟨i,rfl,hi⟩
  by_cases hlt:i<jobs.length
  ·have e1:decide ((i:Int)<(jobs.length:Int))=true:=decide_eq_true (by omega)
   have e2:decide (0≤(i:Int)∧(i:Int)<(jobs.length:Int))=true:=decide_eq_true (by omega)
   obtain ⟨o1,o2⟩:=hj _ (P0 hlt I7)
   have o3:=A8f o1
   have f3:Z3 (jobs.getD i I7).2.1=true:=decide_eq_true (by simp only [List.length_nil,MAXB];omega)
   have f4:B0n (jobs.getD i I7).2.1=(jobs.getD i I7).2.1:=by simp [B0n]
   have f5:decide ((([]:List Int).length+(jobs.getD i I7).2.2.2.length)*8≤MAXB)=true:=decide_eq_true (by simp only [List.length_nil,MAXB];omega)
   have f7:∀ x:Q0,decide (((jobs.take i).length+[x].length)*64≤MAXB)=true:=fun x=>decide_eq_true (by simp only [List.length_singleton,List.length_take,MAXB];omega)
   simp only [B0D,hdj,e1,e2,cond_true,Int.toNat_natCast,f3,f4,f5,f7,A7p i (by omega),List.nil_append]
   refine .inl ⟨_,rfl,⟨i+1,?_,by omega⟩,by simp only [Int.toNat_natCast];omega⟩
   rw [J8 hlt I7]
  ·obtain rfl:i=jobs.length:=by omega
   have e1:decide ((jobs.length:Int)<(jobs.length:Int))=false:=decide_eq_false (by omega)
   simp only [B0D,e1,cond_false]
   exact .inr ⟨_,rfl,by rw [List.take_length]⟩
 have m:decide ((([]:LIbe).length+log.length)*16≤MAXB)=true:=decide_eq_true (by simp only [List.length_nil,MAXB];omega)
 have e0:B3l n life next jobs log sure=(0,jobs,log):=key
 simp only [A80,B2Q,e0,m]
 exact ⟨rfl,trivial⟩
theorem C5y {m n life next:Int} {jobs:List Q0} {log:LIbe} {sure:Int} (D:CR n life next jobs log sure) (keep:Int) :
  R7 keep n life next sure jobs log=true∧((life=900∧A89 keep n life next sure jobs log=(false,n,life,next,sure,jobs,log))∨∃ k:Nat,life ≠ 900∧sure≤k∧k≤log.length∧(keep≤0→(k:Int)=sure)∧((log.length:Int) - sure≤keep→k=log.length)∧(0≤keep→keep≤(log.length:Int) - sure→(k:Int)=sure+keep)∧A89 keep n life next sure jobs log=(true,n,life+1,0,(k:Int),[],log.take k)):=by
 by_cases h9:life=900
 ·have e:(life==900)=true:=by simpa using h9
  simp only [R7,A89,e,cond_true]
  exact ⟨trivial,.inl ⟨h9,trivial⟩⟩
 have e:(life==900)=false:=by simpa using h9
 obtain ⟨s0,s1⟩:=D.s1
 have hl:=D.lg
 have w0:wI ((log.length:Int) - sure)=(log.length:Int) - sure:=A6A (by omega) (by omega)
 have w1:wI (sure+((log.length:Int) - sure))=(log.length:Int):=by rw [A6A (by omega) (by omega)];omega
 have w2:wI (sure+0)=sure:=by rw [A6A (by omega) (by omega)];omega
 have w4:wI (life+1)=life+1:=by have:=D.l1;exact A6A (by omega) (by omega)
 by_cases hk:keep<0
 ·have e1:decide (keep<0)=true:=decide_eq_true hk
  have e2:decide ((0:Int) > (log.length:Int) - sure)=false:=decide_eq_false (by omega)
  simp only [R7,A89,e,e1,e2,w0,w2,w4,cond_true,cond_false]
  refine ⟨decide_eq_true ⟨by omega,s0,s1⟩,.inr ⟨sure.toNat,h9,by omega,by omega,fun _=>by omega,fun _=>by omega,fun _ _=>by omega,rfl⟩⟩
 have e1:decide (keep<0)=false:=decide_eq_false hk
 by_cases hk2:keep > (log.length:Int) - sure
 ·have e2:decide (keep > (log.length:Int) - sure)=true:=decide_eq_true hk2
  simp only [R7,A89,e,e1,e2,w0,w1,w4,cond_true,cond_false,Int.toNat_natCast]
  exact ⟨decide_eq_true ⟨by omega,by omega,by omega⟩,.inr ⟨log.length,h9,by omega,Nat.le_refl _,fun _=>by omega,fun _=>rfl,fun _ _=>by omega,rfl⟩⟩
 have e2:decide (keep > (log.length:Int) - sure)=false:=decide_eq_false hk2
 have w3:wI (sure+keep)=sure+keep:=A6A (by omega) (by omega)
 simp only [R7,A89,e,e1,e2,w0,w3,w4,cond_true,cond_false]
 exact ⟨decide_eq_true ⟨by omega,by omega,by omega⟩,.inr ⟨(sure+keep).toNat,h9,by omega,by omega,fun _=>by omega,fun _=>by omega,fun _ _=>by omega,rfl⟩⟩
theorem C5z {n life next:Int} {jobs:List Q0} {log:LIbe} {sure:Int} (h3:jobs.length≤1048576) (hj:∀ j∈jobs,A9Q j) (h4:log.length≤1048576) (keep:Int):O2 n life next jobs log sure keep=true ∧
  ((CR n life next jobs log sure∧A9S n life next jobs log sure=true∧A76 n life next jobs log sure keep=cond (life != 900) (n,life+1,0,[],log.take (C1k log sure keep),(C1k log sure keep:Int)) (n,life,next,jobs,log,sure)) ∨
   (A9S n life next jobs log sure=false∧A76 n life next jobs log sure keep=(n,life,next,jobs,log,sure))):=by
 obtain ⟨c1,c2,c3⟩:=B9J n life next sure h3 hj h4
 obtain ⟨d1,d2⟩:=B9V (a0:=n) (a1:=life) (a2:=next) (a5:=sure) h3 hj h4
 obtain ⟨e1,e2⟩:=C6D n life next sure h3 hj (by omega:log.length≤1048577)
 cases hs:A9S n life next jobs log sure with
 | false =>
  simp only [O2,A76,e1,e2,c1,hs,cond_false,Bool.and_self]
  exact ⟨trivial,.inr ⟨trivial,trivial⟩⟩
 | true =>
  have D:=d2.1 (c3.trans hs)
  obtain ⟨f1,f2⟩:=C5y (m:=0) D keep
  simp only [O2,A76,B2A,e1,e2,c1,hs,f1,cond_true,Bool.and_self]
  refine ⟨trivial,.inl ⟨D,trivial,?_⟩⟩
  rcases f2 with ⟨h9,f2⟩ | ⟨k,h9,k1,k2,k3,k4,k5,f2⟩
  ·have hb:(life != 900)=false:=by simpa using h9
   rw [f2,hb];rfl
  ·have hb:(life != 900)=true:=by simpa using h9
   have hk:k=C1k log sure keep:=by
    have s:=D.s1
    simp only [C1k]
    split<;>split<;>omega
   rw [f2,hb,hk];rfl
theorem B6Q (n life next:Int) {jobs:List Q0} {log:LIbe} (sure:Int) (h3:jobs.length≤1048576) (hj:∀ j∈jobs,A9Q j) (h4:log.length≤1048577):N0 n life next jobs log sure=true∧Y9 n life next jobs log sure=(n,life,next,sure,jobs,log):=by
 have hdj:((0:Int),(([]:Lq1),((0:Int),([]:List Int))))=I7:=rfl
 have key:B1e jobs (jobs.length:Int) 0 n life next jobs log sure 0 0 0 0 n life next log sure []=(0,jobs):=by
  refine A7a (fun v:A7Q=>∃ i:Nat,v=(jobs,(jobs.length:Int),(i:Int),jobs.take i)∧i≤jobs.length) (fun a:W6=>a=(0,jobs)) (fun v=>jobs.length - v.2.2.1.toNat) ?_ ⟨0,by simp,Nat.zero_le _⟩ (by simp;omega)
  rintro v ⟨i,rfl,hi⟩
  by_cases hlt:i<jobs.length
  ·have e1:decide ((i:Int)<(jobs.length:Int))=true:=decide_eq_true (by omega)
   have e2:decide (0≤(i:Int)∧(i:Int)<(jobs.length:Int))=true:=decide_eq_true (by omega)
   obtain ⟨o1,o2⟩:=hj _ (P0 hlt I7)
   have o3:=A8f o1
   have f3:L0 (jobs.getD i I7).2.1=true:=decide_eq_true (by simp only [List.length_nil,MAXB];omega)
   have f4:T0 (jobs.getD i I7).2.1=(jobs.getD i I7).2.1:=rfl
   have f5:L1 (jobs.getD i I7).2.2.2=true:=decide_eq_true (by simp only [List.length_nil,MAXB];omega)
   have f6:T1 (jobs.getD i I7).2.2.2=(jobs.getD i I7).2.2.2:=rfl
   have f7:∀ x:Q0,decide (((jobs.take i).length+[x].length)*64≤MAXB)=true:=fun x=>decide_eq_true (by simp only [List.length_singleton,List.length_take,MAXB];omega)
   simp only [A8J,hdj,e1,e2,cond_true,Int.toNat_natCast,f3,f4,f5,f6,f7,A7p i (by omega)]
   refine .inl ⟨_,rfl,⟨i+1,?_,by omega⟩,by simp only [Int.toNat_natCast];omega⟩
   rw [J8 hlt I7]
  ·obtain rfl:i=jobs.length:=by omega
   have e1:decide ((jobs.length:Int)<(jobs.length:Int))=false:=decide_eq_false (by omega)
   simp only [A8J,e1,cond_false]
   exact .inr ⟨_,rfl,by rw [List.take_length]⟩
 have c1:K4 log=true:=decide_eq_true (by simp only [List.length_nil,MAXB];omega)
 have c2:P4 log=log:=rfl
 simp only [N0,Y9,B0z,key,c1,c2]
 exact ⟨rfl,trivial⟩
theorem C4T {n life next:Int} {jobs:List Q0} {log:LIbe} {sure:Int} (D:CR n life next jobs log sure) (h3:jobs.length≤1048576) (hj:∀ j∈jobs,A9Q j) (keep:Int) (hk:-9223372036854775808≤keep∧keep≤9223372036854775807):M4 n life next jobs log sure keep=true ∧
  A7T n life next jobs log sure keep=cond (life != 900) (n,life+1,0,(C1k log sure keep:Int),[],log.take (C1k log sure keep)) (n,life,next,sure,jobs,log):=by
 have h4:log.length≤1048576:=by have:=D.lg;omega
 obtain ⟨c1,c2⟩:=B9V (a0:=n) (a1:=life) (a2:=next) (a5:=sure) h3 hj h4
 have c3:=c2.2 D
 obtain ⟨d1,d2⟩:=B6Q n life next sure h3 hj (by omega:log.length≤1048577)
 cases hl:(life != 900) with
 | false =>
  simp only [M4,A7T,A9N,hl,d1,d2,cond_false,Bool.and_self]
  exact ⟨trivial,trivial⟩
 | true =>
  obtain ⟨s0,s1⟩:=D.s1
  have hl1:=D.l1
  have hlg:=D.lg
  have w0:wI ((log.length:Int) - sure)=(log.length:Int) - sure:=A6A (by omega) (by omega)
  have hm:∃ x:Int,(if (log.length:Int) - sure<(if (0:Int) > keep then (0:Int) else keep) then (log.length:Int) - sure else (if (0:Int) > keep then (0:Int) else keep))=x∧0≤x∧sure+x≤(log.length:Int):=⟨_,rfl,by split<;>split<;>omega,by split<;>split<;>omega⟩
  obtain ⟨x,hx,x0,x1⟩:=hm
  have w1:wI (sure+x)=sure+x:=A6A (by omega) (by omega)
  have w4:wI (life+1)=life+1:=A6A (by omega) (by omega)
  have hkn:C1k log sure keep=(sure+x).toNat:=by simp only [C1k,hx]
  have q1:U0 keep n life next sure jobs log=true:=by
   simp only [U0,w0,hx,w1]
   exact decide_eq_true ⟨by omega,by omega,by omega⟩
  have e1:B1I keep n life next sure jobs log=(n,life+1,0,sure+x,jobs,log.take (sure+x).toNat):=by
   simp only [B1I,w0,hx,w1,w4,Int.toNat_zero,List.drop_zero]
  obtain ⟨g1,g2⟩:=B6Q n (life+1) 0 (jobs:=[]) (log:=log.take (sure+x).toNat) (sure+x) (by simp) (fun j hj=>by simp at hj) (by simp;omega)
  simp only [M4,A7T,A9L,B2B,hl,c1,c3,d1,d2,q1,e1,g1,g2,hkn,cond_true,Bool.and_self]
  refine ⟨trivial,?_⟩
  rw [Int.toNat_of_nonneg (by omega)]
theorem C6W {l:List Q0} (h:A2H tq2 l=true):B4P l:=by
 have h:(decide (l.length≤maxLen)&&l.all fun j=>(Lit.int .i64 j.1).wf&&(A2H tq5 j.2.1&&((Lit.int .i64 j.2.2.1).wf&&(decide (j.2.2.2.length≤maxLen)&&j.2.2.2.all fun x=>(Lit.int .i64 x).wf))))=true:=h
 have hm:maxLen=9223372036854775807:=by decide
 rw [hm] at h
 simp only [Bool.and_eq_true,decide_eq_true_eq,List.all_eq_true] at h
 exact ⟨h.1,fun j hj=>⟨C7T (h.2 j hj).2.1,(h.2 j hj).2.2.2.1⟩⟩
theorem C7S {l:LIbe} (h:A2H tq4 l=true):l.length≤9223372036854775807:=by
 have h:(decide (l.length≤maxLen)&&l.all fun j=>(Lit.int .i64 j.1).wf&&true)=true:=h
 have hm:maxLen=9223372036854775807:=by decide
 rw [hm] at h
 simp only [Bool.and_eq_true,decide_eq_true_eq] at h
 exact h.1
theorem C06 {a0 a1 a2:Int} {a3:List Q0} {a4:LIbe} {a5:Int} (h:A2H tq6 (a0,(a1,(a2,(a3,(a4,a5)))))=true):B4P a3∧a4.length≤9223372036854775807:=by
 have h:((Lit.int .i64 a0).wf&&((Lit.int .i64 a1).wf&&((Lit.int .i64 a2).wf&&(A2H tq2 a3&&(A2H tq4 a4&&(Lit.int .i64 a5).wf)))))=true:=h
 simp only [Bool.and_eq_true] at h
 exact ⟨C6W h.2.2.2.1,C7S h.2.2.2.2.1⟩
theorem D1g {x:Int} (h:A2H (.int .i64) x=true):-9223372036854775808≤x∧x≤9223372036854775807:=by
 have h:(decide (IntKind.i64.min≤x)&&decide (x≤IntKind.i64.max))=true:=h
 have h1:IntKind.i64.min=-9223372036854775808:=rfl
 have h2:IntKind.i64.max=9223372036854775807:=rfl
 rw [h1,h2] at h
 simpa using h
theorem B6A (a0 a1 a2:Int) {a3:List Q0} {a4:LIbe} (a5 a6:Int) (hb:B4P a3∧a4.length≤9223372036854775807) (hk:-9223372036854775808≤a6∧a6≤9223372036854775807):M2 a0 a1 a2 a3 a4 a5 a6=true∧O0 a0 a1 a2 a3 a4 a5 a6=true:=by
 obtain ⟨z1,z2⟩:=C5C hb.1 hb.2 a0 a1 a2 a5
 by_cases hd:A9O a0 a1 a2 a3 a4 a5 1048576<0
 ·simp only [M2,O0,z1,decide_eq_true hd,cond_true]
  exact ⟨rfl,trivial⟩
 ·obtain ⟨y1,y2,y3⟩:=z2 (by omega)
  have hw:=C8h hb.1 hb.2 a0 a1 a2 a5 (by omega)
  have y4:a4.length≤1048577:=by omega
  obtain ⟨e1,e2,e3,e4⟩:=C1c y1 y2 y3 a0 a1 a2 a5
  obtain ⟨c1,c2,c3⟩:=B9J a0 a1 a2 a5 y1 y2 y3
  obtain ⟨m1,m2,m3,m4⟩:=C07 a0 a1 a2 a5 a0 a1 a2 a5 y1 (fun j h=>C6E (y2 j h)) y3 (by omega)
  have hs:O2 a0 a1 a2 a3 a4 a5 a6=true∧M4 a0 a1 a2 a3 a4 a5 a6=true∧∃ (l x s:Int) (js:List Q0) (lg:LIbe),A76 a0 a1 a2 a3 a4 a5 a6=(a0,l,x,js,lg,s)∧A7T a0 a1 a2 a3 a4 a5 a6=(a0,l,x,s,js,lg)∧(js=a3∨js=[])∧lg.length≤a4.length:=by
   obtain ⟨s1,s2⟩:=C5z (n:=a0) (life:=a1) (next:=a2) (sure:=a5) y1 y2 y3 a6
   obtain ⟨i1,i2⟩:=B6Q a0 a1 a2 a5 y1 y2 y4
   rcases s2 with ⟨D,h1,h2⟩ | ⟨h1,h2⟩
   ·obtain ⟨t1,t2⟩:=C4T D y1 y2 a6 hk
    refine ⟨s1,t1,?_⟩
    rw [h2,t2]
    cases (a1 != 900)
    ·exact ⟨_,_,_,_,_,rfl,rfl,.inl rfl,Nat.le_refl _⟩
    ·exact ⟨_,_,_,_,_,rfl,rfl,.inr rfl,by simp;omega⟩
   ·have h3:A9G a0 a1 a2 a3 a4 a5=false:=c3.trans h1
    refine ⟨s1,?_,⟨_,_,_,_,_,h2,?_,.inl rfl,Nat.le_refl _⟩⟩
    ·simp only [M4,i1,i2,c2,h3,cond_false];cases (a1 != 900)<;>rfl
    ·simp only [A7T,A9N,i2,h3,cond_false];cases (a1 != 900)<;>rfl
  obtain ⟨q1,q2,l,x,s,js,lg,r1,r2,hjs,hlg⟩:=hs
  have j1:js.length≤1048576:=by rcases hjs with rfl | rfl<;>first | exact y1 | simp
  have j2:∀ j∈js,A9Q j:=by rcases hjs with rfl | rfl<;>first | exact y2 | (intro j hj;simp at hj)
  have j3:A0p A9c js≤A0p A9c a3:=by rcases hjs with rfl | rfl<;>first | exact Nat.le_refl _ | simp [A0p]
  have j4:lg.length≤1048576:=by omega
  obtain ⟨f1,f2,_,_⟩:=C1c j1 j2 j4 a0 l x s
  obtain ⟨n1,n2,n3,n4⟩:=C07 a0 l x s a0 l x s j1 (fun j h=>C6E (j2 j h)) j4 (by omega)
  have d1:decide ((P9 a0 a1 a2 a5 1 a3 a4).1<0)=false:=decide_eq_false (by omega)
  have d2:decide ((P9 a0 l x s 1 js lg).1<0)=false:=decide_eq_false (by omega)
  have nn:∀ x:Int,(x != x)=false:=fun x=>by simp
  simp only [M2,O0,U2,L8,U3,U4,U5,N6,U6,z1,decide_eq_false hd,e1,e2,e3,e4,q1,q2,r1,r2,f1,f2,m1,n1,n3,n4,d1,d2,nn,cond_false,Bool.not_true,Bool.and_self]
  exact ⟨trivial,trivial⟩
theorem B20 (a0 a1 a2:Int) (a3:List Q0) (a4:LIbe) (a5 a6:Int) (h:A2H tq6 (a0,(a1,(a2,(a3,(a4,a5)))))=true) (h2:A2H (.int .i64) a6=true):M9 ((a0,a1,a2,a3,a4,a5,()),a6,())=true:=(B6A a0 a1 a2 a5 a6 (C06 h) (D1g h2)).1
theorem B3E (a0 a1 a2:Int) (a3:List Q0) (a4:LIbe) (a5 a6:Int) (h:A2H tq6 (a0,(a1,(a2,(a3,(a4,a5)))))=true) (h2:A2H (.int .i64) a6=true):O0 a0 a1 a2 a3 a4 a5 a6=true:=(B6A a0 a1 a2 a5 a6 (C06 h) (D1g h2)).2

end Go.Proofs.Ytapikgcgahomlaa.Eng
