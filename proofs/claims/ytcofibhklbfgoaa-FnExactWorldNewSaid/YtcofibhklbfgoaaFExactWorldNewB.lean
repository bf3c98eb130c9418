/- What the functions that FnExactWorldNew reaches compute: further. -/
import Derived.Test.YtcofibhklbfgoaaFExactWorldNewA
namespace Go.Proofs.Ytcofibhklbfgoaa.Eng
open Go Go.RowKit
set_option linter.unusedSimpArgs false
set_option linter.unusedVariables false
set_option maxRecDepth 10000
abbrev C0V:List Sh:=.junk::C1b
abbrev C1c:List Sh:=.junk::.junk::.junk::.junk::C0V
abbrev u36:=((),u35)
abbrev u40:=((),(),(),(),u36)
abbrev C0G:List AV:=.junk::C04
abbrev C05:List AV:=.junk::.junk::.junk::.junk::C0G
abbrev A9f:SS:=⟨[.all 0 4,tI],[.deep 124 [83,3] B7I]⟩
abbrev M6:SS:=⟨(.all 0 4::tI::.junk::.junk::.junk::tI::C0V),[.deep 124 [83,3] B7I]⟩
abbrev B2u:SS:=⟨(.junk::tI::C1c),[.deep 124 [83,3] B7I]⟩
noncomputable def B4a (x1 x5:Int) (h0:LT1):RT M6.den:=let z7:=(h0.getD x5.toNat ((0:Int),([],((0:Int),[])))).2;let z3:=h0.set x5.toNat (x1,(z7.1,((z7.2).1,(z7.2).2)));let z6:=z3.getD x5.toNat ((0:Int),([],((0:Int),[])));let z10:=wI (x1+(1:Int));let z4:=A7U z10 ((z6.2).1);let z1:=z3.set x5.toNat (z6.1,((z4.2),(z6.2).2));let z8:=z1.getD x5.toNat ((0:Int),([],((0:Int),[])));let z2:=z1.set x5.toNat (z8.1,((z8.2).1,((z4.1),((z8.2).2).2)));let z5:=z2.getD x5.toNat ((0:Int),([],((0:Int),[])));let z9:=wI ((z4.1)+(1:Int));let z11:=B4i z9 (((z5.2).2).2);(.br (decide (x5<(h0.length:Int))) (.br (decide (0≤x5∧x5<(h0.length:Int))) (.br (decide (0≤x5∧x5<((z3.length:Nat):Int))) (.br (O5 z10 ((z6.2).1)) (.br (decide (0≤x5∧x5<((z1.length:Nat):Int))) (.br (decide (0≤x5∧x5<((z2.length:Nat):Int))) (.br (A7x z9 (((z5.2).2).2)) (.next (((),(z11.1),(),(),(),wI (x5+(1:Int)),u36),(z2.set x5.toNat (z5.1,((z5.2).1,(((z5.2).2).1,(z11.2)))),()))) .fail) .fail) .fail) .fail) .fail) .fail) (.done (.exit 0) B2u (((),x1,u40),(h0,()))))
abbrev A8z:=(Int)×(Int)×LT1
abbrev Y6:=Nat×(Int)×LT1
def O0:Y6:=(99,((0:Int):Int),([]:LT1))
noncomputable def B32 (x1 x5:Int) (h0:LT1):A8z ⊕ Y6:=let z7:=(h0.getD x5.toNat ((0:Int),([],((0:Int),[])))).2;let z3:=h0.set x5.toNat (x1,(z7.1,((z7.2).1,(z7.2).2)));let z6:=z3.getD x5.toNat ((0:Int),([],((0:Int),[])));let z10:=wI (x1+(1:Int));let z4:=A7U z10 ((z6.2).1);let z1:=z3.set x5.toNat (z6.1,((z4.2),(z6.2).2));let z8:=z1.getD x5.toNat ((0:Int),([],((0:Int),[])));let z2:=z1.set x5.toNat (z8.1,((z8.2).1,((z4.1),((z8.2).2).2)));let z5:=z2.getD x5.toNat ((0:Int),([],((0:Int),[])));let z9:=wI ((z4.1)+(1:Int));let z11:=B4i z9 (((z5.2).2).2);(cond (decide (x5<(h0.length:Int))) (cond (decide (0≤x5∧x5<(h0.length:Int))) (cond (decide (0≤x5∧x5<((z3.length:Nat):Int))) (cond (O5 z10 ((z6.2).1)) (cond (decide (0≤x5∧x5<((z1.length:Nat):Int))) (cond (decide (0≤x5∧x5<((z2.length:Nat):Int))) (cond (A7x z9 (((z5.2).2).2)) (.inl ((z11.1),wI (x5+(1:Int)),z2.set x5.toNat (z5.1,((z5.2).1,(((z5.2).2).1,(z11.2)))))) (.inr O0)) (.inr O0)) (.inr O0)) (.inr O0)) (.inr O0)) (.inr O0)) (.inr (0,x1,h0)))
noncomputable def W4 (x1 x5:Int) (h0:LT1):Y6:=itX (fun v:A8z=>B32 v.1 v.2.1 v.2.2) O0 (x1,x5,h0)
noncomputable def A9R (a:Y6):CT:=(.br (a.1==0) (.done (.exit 0) B2u (((),a.2.1,u40),(a.2.2,()))) .fail)
noncomputable def B7W (x1 x5:Int) (h0:LT1):CT:=A9R (W4 x1 x5 h0)
noncomputable abbrev B0f:M6.den→RT M6.den:=(fun d=>B4a d.1.2.1 d.1.2.2.2.2.2.1 d.2.1)
noncomputable def B1q:Code:=((D4 0 (A1T Try.f61)).getD 0 (0,.skip)).2
noncomputable abbrev B3P (v:A8z):M6.den:=(((),v.1,(),(),(),v.2.1,u36),(v.2.2,()))
theorem B7v:(∀ v:A8z,(B4a v.1 v.2.1 v.2.2).val=A6u B3P A9R (B32 v.1 v.2.1 v.2.2))∧∀ a:Y6,CEnd M6.den (A9R a):=⟨fun v=>by repeat' first | apply A7n | rfl,fun a=>(A7c aCD A7e)⟩
noncomputable def B3y (x1 x5:Int) (h0:LT1):Option (Ex×St):=let z7:=(h0.getD x5.toNat ((0:Int),([],((0:Int),[])))).2;let z3:=h0.set x5.toNat (x1,(z7.1,((z7.2).1,(z7.2).2)));let z6:=z3.getD x5.toNat ((0:Int),([],((0:Int),[])));let z10:=wI (x1+(1:Int));let z4:=A7U z10 ((z6.2).1);let z1:=z3.set x5.toNat (z6.1,((z4.2),(z6.2).2));let z8:=z1.getD x5.toNat ((0:Int),([],((0:Int),[])));let z2:=z1.set x5.toNat (z8.1,((z8.2).1,((z4.1),((z8.2).2).2)));let z5:=z2.getD x5.toNat ((0:Int),([],((0:Int),[])));let z9:=wI ((z4.1)+(1:Int));let z11:=B4i z9 (((z5.2).2).2);(cond (decide (x5<(h0.length:Int))) (cond (decide (0≤x5∧x5<(h0.length:Int))) (cond (decide (0≤x5∧x5<((z3.length:Nat):Int))) (cond (O5 z10 ((z6.2).1)) (cond (decide (0≤x5∧x5<((z1.length:Nat):Int))) (cond (decide (0≤x5∧x5<((z2.length:Nat):Int))) (cond (A7x z9 (((z5.2).2).2)) (some (.normal,(⟨((.all 0 4)::(ti (z11.1))::.junk::.junk::.junk::(ti (wI (x5+(1:Int))))::C0G),[(.deep 124 [83,3] B7I (z2.set x5.toNat (z5.1,((z5.2).1,(((z5.2).2).1,(z11.2))))))],1,[]⟩:St))) none) none) none) none) none) none) (some ((.exit 0),(⟨(.junk::(ti x1)::C05),[(.deep 124 [83,3] B7I h0)],1,[]⟩:St))))
theorem B6A:RdA G31 aLn 0 B1q M6 1 [] (kepts [] [(0,[1])]) (fun d=>B3y d.1.2.1 d.1.2.2.2.2.2.1 d.2.1):=by
 intro d
 kernel_rfl
theorem B6G:∀ d:M6.den,(fun d=>B3y d.1.2.1 d.1.2.2.2.2.2.1 d.2.1) d=(B0f d).opt 1 []:=by
 intro d
 kernel_rfl
noncomputable abbrev B2R:St→Option Tree:=M6.say 1 [] [] (fun d=>B7W d.1.2.1 d.1.2.2.2.2.2.1 d.2.1)
theorem B7e:aPL B2R B1q:=SS.wp2 hlz [] B0f B6A B6G _ (fun d=>Runs.ofI2 (step:=B0f) B3P B7v rfl (d.1.2.1,d.1.2.2.2.2.2.1,d.2.1))
noncomputable def A8g (x1:Int) (h0:LT1):Int×LT1:=let z1:=W4 x1 (0:Int) h0;((z1.2.1),(z1.2.2))
noncomputable abbrev B6c (r:Int×LT1):AV×List AObj×List Nat:=((ti r.1),[(.deep 124 [83,3] B7I r.2)],[])
noncomputable abbrev B6f:A9f.den→AV×List AObj×List Nat:=fun d=>B6c (A8g d.1.2.1 d.2.1)
noncomputable def A7y (x1:Int) (h0:LT1):Bool:=((W4 x1 (0:Int) h0).1==0)
noncomputable abbrev B4B:A9f.den→Bool:=fun d=>A7y d.1.2.1 d.2.1
noncomputable abbrev B9g:Nat→St→Option Tree:=fun b=>match b with | 0=>B2R | _=>fun _=>none
theorem B8l:A7i G31 (B9g) Try.f61 A9f B4B B6f:=by
 rintro ⟨⟨_,x1,_⟩,⟨h0,_⟩⟩ hp
 change A7y x1 h0=true at hp
 unfold A7y at hp
 refine Eq.trans (b:=(let z1:=W4 x1 (0:Int) h0;cond (z1.1==0) (some (B6c ((z1.2.1),(z1.2.2)))) none)) (by kernel_rfl) ?_
 exact (A7m hp fun _h=>rfl)
noncomputable abbrev B6h:=win E7 (msum A9f B4B B6f)
theorem B9x:aPM 61 B6h:=(mcM G31 (hl1 (i:=0) (by kernel_rfl) B7e) B8l).win E7
noncomputable def S32:Tab:=Tab.add S31 61 (B6h)
noncomputable def C1B:FuncId→Bool:=C1A
theorem G32:aPG S32 C1B:=G31.addM B9x (A6W _) (cbl Try.f61) (by kernel_rfl)

abbrev C11:List Sh:=.junk::B63
abbrev C0H:List Sh:=.junk::B64
abbrev u24:=((),u23)

noncomputable def I7 (i:Nat) (b:Int×LIbe):Int×LIbe:=(wI ((wI (b.1+(1:Int)))+(1:Int)),(b.2.set i (b.1,(b.2.getD i ((0:Int),false)).2)).set i (((b.2.set i (b.1,(b.2.getD i ((0:Int),false)).2)).getD i ((0:Int),false)).1,((Int.tmod (wI (b.1+(1:Int))) (3:Int))==(0:Int))))
abbrev A0c:SS:=⟨[.all 0 2,tI],[.rows 111 true B5A]⟩
abbrev K3:SS:=⟨(.all 0 2::tI::.junk::.junk::.junk::tI::C11),[.rows 111 true B5A]⟩
abbrev A0j:SS:=⟨(.junk::tI::C0H),[.rows 111 true B5A]⟩
noncomputable def A71 (x1 x5:Int) (h0:LIbe):RT K3.den:=let z1:=h0.set x5.toNat (x1,(h0.getD x5.toNat ((0:Int),false)).2);let z2:=wI (x1+(1:Int));(.br (decide (x5<(h0.length:Int))) (.br (decide (0≤x5∧x5<(h0.length:Int))) (.br (decide (0≤x5∧x5<((z1.length:Nat):Int))) (.next (((),wI (z2+(1:Int)),(),(),(),wI (x5+(1:Int)),u24),(z1.set x5.toNat ((z1.getD x5.toNat ((0:Int),false)).1,((Int.tmod z2 (3:Int))==(0:Int))),()))) .fail) .fail) (.done (.exit 0) A0j (((),x1,u28),(h0,()))))
noncomputable def Q9 (x1 x5:Int) (h0:LIbe):CT:=(.br (decide (0≤x5)&&(decide (0≤x1∧x1≤100000*(x5+100))&&okL h0)) (.done (.exit 0) A0j (((),((foldN I7 (h0.length - x5.toNat) x5.toNat (x1,h0)).1),u28),(((foldN I7 (h0.length - x5.toNat) x5.toNat (x1,h0)).2),()))) .fail)
noncomputable abbrev L3:K3.den→RT K3.den:=(fun d=>A71 d.1.2.1 d.1.2.2.2.2.2.1 d.2.1)
noncomputable abbrev B0K (x1 x5:Int) (h0:LIbe):K3.den:=(((),x1,(),(),(),x5,u24),(h0,()))
noncomputable def A9c:Code:=((D4 0 (A1T Try.f62)).getD 0 (0,.skip)).2
theorem B5E (x1 x5:Int) (h0:LIbe):(Q9 x1 x5 h0).val (D:=K3.den)=.fail∨Runs L3 (B0K x1 x5 h0) (Q9 x1 x5 h0).val:=by
 cases hc:(decide (0≤x5)&&(decide (0≤x1∧x1≤100000*(x5+100))&&okL h0)) with
 | false=>left;simp only [Q9,CT.val,hc,cond_false]
 | true =>
  right
  simp only [Q9,CT.val,hc,cond_true]
  simp only [Bool.and_eq_true,decide_eq_true_eq] at hc
  obtain ⟨i,rfl⟩:=Int.eq_ofNat_of_zero_le hc.1
  have hs:=A69 hc.2.2
  have hk:=hc.2.1
  simp only [Int.toNat_natCast]
  refine Runs.foldN (step:=L3) (fun j b=>B0K b.1 (j:Int) b.2) (fun i b=>(0≤b.1∧b.1≤100000*((i:Int)+100))∧b.2.length=h0.length) (h0.length) I7
   (fin:=fun b=>((.done (.exit 0) A0j (((),b.1,u28),(b.2,()))):CT).val) (fun i b hi hb=>?_) (fun i b hi hb=>?_) (h0.length - i) i (x1,h0) rfl ⟨hk,rfl⟩
  ·obtain ⟨k,h⟩:=b
   obtain ⟨hb1,hb2⟩:=hb
   simp only at hb1 hb2
   have w1:wI (k+(1:Int))=k+(1:Int):=A6z (by omega) (by omega)
   have w2:wI (k+(1:Int)+(1:Int))=k+(1:Int)+(1:Int):=A6z (by omega) (by omega)
   have e0:(decide (0≤(i:Int)∧(i:Int)<(h.length:Int)))=true:=decide_eq_true (by (try simp only [List.length_set]);omega)
   have e1:(decide (0≤(i:Int)∧(i:Int)<(((h.set i (k,(h.getD i ((0:Int),false)).2)).length:Nat):Int)))=true:=decide_eq_true (by (try simp only [List.length_set]);omega)
   have h1:decide ((i:Int)<(h.length:Int))=true:=decide_eq_true (by omega)
   have v1:(I7 i (k,h)).1=k+(1:Int)+(1:Int):=by simp only [I7,w1,w2]
   have v2:(I7 i (k,h)).2.length=h.length:=by simp only [I7,List.length_set]
   refine ⟨⟨by rw [v1];omega,by rw [v2];exact hb2⟩,?_⟩
   simp only [L3,A71,RT.val,h1,e0,e1,cond_true,A7g i (by omega),Int.toNat_natCast]
   rfl
  ·have h1:decide ((i:Int)<(b.2.length:Int))=false:=decide_eq_false (by omega)
   exact ⟨by simp only [L3,A71,RT.val,h1,cond_false];rfl,_,_,_,rfl,by simp⟩
theorem B4V:RdA G32 aLn 0 A9c K3 1 [] (kepts [] [(0,[1])]) (fun d=>(L3 d).opt 1 []):=by
 intro d
 kernel_rfl
noncomputable abbrev A99:St→Option Tree:=K3.say 1 [] [] (fun d=>Q9 d.1.2.1 d.1.2.2.2.2.2.1 d.2.1)
theorem B5f:aPL A99 A9c:=SS.wp2 hlz [] L3 B4V (fun d=>rfl) _ (fun d=>B5E d.1.2.1 d.1.2.2.2.2.2.1 d.2.1)
noncomputable def A9m (x1:Int) (h0:LIbe):Int×LIbe:=let z1:=foldN I7 (h0.length - (0:Int).toNat) (0:Int).toNat (x1,h0);((z1.1),(z1.2))
noncomputable abbrev B3b (r:Int×LIbe):AV×List AObj×List Nat:=((ti r.1),[(.rows 111 true B5A r.2)],[])
noncomputable abbrev B3n:A0c.den→AV×List AObj×List Nat:=fun d=>B3b (A9m d.1.2.1 d.2.1)
noncomputable def O4 (x1:Int) (h0:LIbe):Bool:=okL h0&&decide (0≤x1∧x1≤10000000)
noncomputable abbrev B1E:A0c.den→Bool:=fun d=>O4 d.1.2.1 d.2.1
noncomputable abbrev B6Q:Nat→St→Option Tree:=fun b=>match b with | 0=>A99 | _=>fun _=>none
theorem B6a:A7i G32 (B6Q) Try.f62 A0c B1E B3n:=by
 rintro ⟨⟨_,x1,_⟩,⟨h0,_⟩⟩ hp
 change O4 x1 h0=true at hp
 unfold O4 at hp
 refine Eq.trans (b:=(let z1:=foldN I7 (h0.length - (0:Int).toNat) (0:Int).toNat (x1,h0);cond (decide (0≤(0:Int))&&(decide (0≤x1∧x1≤100000*((0:Int)+100))&&okL h0)) (some (B3b ((z1.1),(z1.2)))) none)) (by kernel_rfl) ?_
 exact (A7m (by first | rfl | decide | exact hp | (simp only [Bool.and_eq_true] at hp;simp only [hp];done) | (simp [*];done) | (simp [okL] at hp;simp [okL,MAXB];omega) | (simp_all;done) | (simp at *;omega)) (fun _h=>rfl))
noncomputable abbrev B3v:=win E7 (msum A0c B1E B3n)
theorem B6X:aPM 62 B3v:=(mcM G32 (hl1 (i:=0) (by kernel_rfl) B5f) B6a).win E7
noncomputable def S33:Tab:=Tab.add S32 62 (B3v)
noncomputable def C1C:FuncId→Bool:=C1B
theorem G33:aPG S33 C1C:=G32.addM B6X (A6W _) (cbl Try.f62) (by kernel_rfl)

abbrev A8r:SS:=⟨[.agg [.t true (.int .i64),.t true (.int .i64),.t true (.int .i64),.all 0 4,.all 1 2,.t true (.int .i64)],tI],[.deep 124 [83,3] B7I,.rows 111 true B5A]⟩
noncomputable def A8f (x0_0 x0_1 x0_2 x0_5 x1:Int) (h0:LT1) (h1:LIbe):Int×LT1×LIbe:=let z1:=A9m ((A8g x1 h0).1) h1;((z1.1),((A8g x1 h0).2),(z1.2))
noncomputable abbrev B44 (r:Int×LT1×LIbe):AV×List AObj×List Nat:=((ti r.1),[(.deep 124 [83,3] B7I r.2.1),(.rows 111 true B5A r.2.2)],[])
noncomputable abbrev B48:A8r.den→AV×List AObj×List Nat:=fun d=>B44 (A8f d.1.1.1 d.1.1.2.1 d.1.1.2.2.1 d.1.1.2.2.2.2.2.1 d.1.2.1 d.2.1 d.2.2.1)
noncomputable def X9 (x0_0 x0_1 x0_2 x0_5 x1:Int) (h0:LT1) (h1:LIbe):Bool:=(A7y x1 h0)&&(O4 ((A8g x1 h0).1) h1)
noncomputable abbrev B3G:A8r.den→Bool:=fun d=>X9 d.1.1.1 d.1.1.2.1 d.1.1.2.2.1 d.1.1.2.2.2.2.2.1 d.1.2.1 d.2.1 d.2.2.1
theorem B7D:A7i G33 aLn Try.f30 A8r B3G B48:=by
 rintro ⟨⟨⟨x0_0,x0_1,x0_2,_,_,x0_5,_⟩,x1,_⟩,⟨h0,h1,_⟩⟩ hp
 change X9 x0_0 x0_1 x0_2 x0_5 x1 h0 h1=true at hp
 unfold X9 at hp
 refine Eq.trans (b:=(let z1:=A8g x1 h0;let z2:=A9m (z1.1) h1;cond (A7y x1 h0) (cond (O4 (z1.1) h1) (some (B44 ((z2.1),(z1.2),(z2.2)))) none) none)) (by kernel_rfl) ?_
 exact (A7k hp fun hp=>(A7m hp fun _h=>rfl))
noncomputable abbrev B5g:=win E7 (msum A8r B3G B48)
theorem B8I:aPM 30 B5g:=(mcM G33 hlz B7D).win E7
noncomputable def S34:Tab:=Tab.add S33 30 (B5g)
noncomputable def C1D:FuncId→Bool:=C1C
theorem G34:aPG S34 C1D:=G33.addM B8I (A6W _) (cbl Try.f30) (by kernel_rfl)

abbrev C0T:List Sh:=.junk::C0H
abbrev C2y:List Sh:=.junk::.junk::C0U
abbrev u33:=((),(),u31)
abbrev u29:=((),u28)
abbrev C2l:List AV:=.junk::.junk::C0P
abbrev A8P:List PSh:=[.t tq8,.t (.int .i64)]
abbrev M7:SS:=⟨(.t false tq8::tI::.junk::.junk::.junk::tI::C0T),[]⟩
abbrev B2v:SS:=⟨(.junk::tI::C2y),[]⟩
noncomputable def B4b (x0:Lq1) (x1 x5:Int):RT M7.den:=(.br (decide (x5<(x0.length:Int))) (.br (decide (0≤x5∧x5<(x0.length:Int))) .fail .fail) (.done (.exit 0) B2v (((),x1,u33),())))
abbrev A8A:=(Lq1)×(Int)×(Int)
abbrev Y7:=Nat×(Int)
def A9U:Y7:=(99,((0:Int):Int))
noncomputable def B33 (x0:Lq1) (x1 x5:Int):A8A ⊕ Y7:=(cond (decide (x5<(x0.length:Int))) (cond (decide (0≤x5∧x5<(x0.length:Int))) (.inr A9U) (.inr A9U)) (.inr (0,x1)))
noncomputable def W5 (x0:Lq1) (x1 x5:Int):Y7:=itX (fun v:A8A=>B33 v.1 v.2.1 v.2.2) A9U (x0,x1,x5)
noncomputable def A9S (a:Y7):CT:=(.br (a.1==0) (.done (.exit 0) B2v (((),a.2,u33),())) .fail)
noncomputable def B7X (x0:Lq1) (x1 x5:Int):CT:=A9S (W5 x0 x1 x5)
noncomputable abbrev B0g:M7.den→RT M7.den:=(fun d=>B4b d.1.1 d.1.2.1 d.1.2.2.2.2.2.1)
noncomputable def B1r:Code:=((D4 0 (A1T Try.f63)).getD 0 (0,.skip)).2
noncomputable abbrev B3Q (v:A8A):M7.den:=((v.1,v.2.1,(),(),(),v.2.2,u29),())
theorem B7w:(∀ v:A8A,(B4b v.1 v.2.1 v.2.2).val=A6u B3Q A9S (B33 v.1 v.2.1 v.2.2))∧∀ a:Y7,CEnd M7.den (A9S a):=⟨fun v=>(A7n (A7n rfl rfl) rfl),fun a=>(A7c aCD A7e)⟩
noncomputable def B3z (x0:Lq1) (x1 x5:Int):Option (Ex×St):=(cond (decide (x5<(x0.length:Int))) (cond (decide (0≤x5∧x5<(x0.length:Int))) none none) (some ((.exit 0),(⟨(.junk::(ti x1)::C2l),[],0,[]⟩:St))))
theorem B6B:RdA G34 aLn 0 B1r M7 0 [] (kepts [] [(0,[1])]) (fun d=>B3z d.1.1 d.1.2.1 d.1.2.2.2.2.2.1):=by
 intro d
 kernel_rfl
theorem B6H:∀ d:M7.den,(fun d=>B3z d.1.1 d.1.2.1 d.1.2.2.2.2.2.1) d=(B0g d).opt 0 []:=by
 intro d
 kernel_rfl
noncomputable abbrev B2S:St→Option Tree:=M7.say 0 [] [] (fun d=>B7X d.1.1 d.1.2.1 d.1.2.2.2.2.2.1)
theorem B7f:aPL B2S B1r:=SS.wp2 hlz [] B0g B6B B6H _ (fun d=>Runs.ofI2 (step:=B0g) B3Q B7w rfl (d.1.1,d.1.2.1,d.1.2.2.2.2.2.1))
noncomputable def A7s (a0:Lq1) (a1:Int):Int:=((W5 a0 a1 (0:Int)).2)
noncomputable abbrev B6d (r:Int):AV×List AObj:=((ti r),[])
noncomputable abbrev B3o:E8 A8P→AV×List AObj:=fun d=>B6d (A7s d.1 d.2.1)
noncomputable def N4 (a0:Lq1) (a1:Int):Bool:=((W5 a0 a1 (0:Int)).1==0)
noncomputable abbrev B01:E8 A8P→Bool:=fun d=>N4 d.1 d.2.1
noncomputable abbrev B9h:Nat→St→Option Tree:=fun b=>match b with | 0=>B2S | _=>fun _=>none
theorem B8m:A7j true G34 (B9h) Try.f63 A8P B01 B3o:=by
 rintro ⟨a0,⟨a1,_⟩⟩ hp
 change N4 a0 a1=true at hp
 unfold N4 at hp
 refine Eq.trans (b:=(let z1:=W5 a0 a1 (0:Int);cond (z1.1==0) (some (B6d (z1.2))) none)) (by kernel_rfl) ?_
 exact (A7m hp fun _h=>rfl)
theorem B9y:aPP 63 (A2d A8P B01 B3o):=pcD true G34 (hl1 (i:=0) (by kernel_rfl) B7f) B8m
noncomputable def S35:Tab:=Tab.add S34 63 (lift (A2d A8P B01 B3o))
noncomputable def C1E:FuncId→Bool:=qadd C1D 63
theorem G35:aPG S35 C1E:=G34.addQ B9y (cbl Try.f63) (fun _=>rfl)

abbrev C0f:Ty:=.pair .str .str

noncomputable def J7 (i:Nat) (b:Int×LBBe):Int×LBBe:=(wI ((wI (b.1+(1:Int)))+(1:Int)),(b.2.set i ((H9 b.1),(b.2.getD i (bE,bE)).2)).set i (((b.2.set i ((H9 b.1),(b.2.getD i (bE,bE)).2)).getD i (bE,bE)).1,(H9 (wI (b.1+(1:Int))))))
abbrev A8s:SS:=⟨[.all 0 2,tI],[.rows 131 true C0f]⟩
abbrev N8:SS:=⟨(.all 0 2::tI::.junk::.junk::.junk::tI::C11),[.rows 131 true C0f]⟩
abbrev A74:SS:=⟨(.junk::tI::C0H),[.rows 131 true C0f]⟩
noncomputable def A9a (x1 x5:Int) (h0:LBBe):RT N8.den:=let z1:=h0.set x5.toNat ((H9 x1),(h0.getD x5.toNat (bE,bE)).2);let z2:=wI (x1+(1:Int));(.br (decide (x5<(h0.length:Int))) (.br (H8 x1) (.br (decide (0≤x5∧x5<(h0.length:Int))) (.br (H8 z2) (.br (decide (0≤x5∧x5<((z1.length:Nat):Int))) (.next (((),wI (z2+(1:Int)),(),(),(),wI (x5+(1:Int)),u24),(z1.set x5.toNat ((z1.getD x5.toNat (bE,bE)).1,(H9 z2)),()))) .fail) .fail) .fail) .fail) (.done (.exit 0) A74 (((),x1,u28),(h0,()))))
noncomputable def V7 (x1 x5:Int) (h0:LBBe):CT:=(.br (decide (0≤x5)&&(decide (0≤x1∧x1≤100000*(x5+100))&&okL h0)) (.done (.exit 0) A74 (((),((foldN J7 (h0.length - x5.toNat) x5.toNat (x1,h0)).1),u28),(((foldN J7 (h0.length - x5.toNat) x5.toNat (x1,h0)).2),()))) .fail)
noncomputable abbrev O8:N8.den→RT N8.den:=(fun d=>A9a d.1.2.1 d.1.2.2.2.2.2.1 d.2.1)
noncomputable abbrev B2F (x1 x5:Int) (h0:LBBe):N8.den:=(((),x1,(),(),(),x5,u24),(h0,()))
noncomputable def B0u:Code:=((D4 0 (A1T Try.f64)).getD 0 (0,.skip)).2
theorem B6T (x1 x5:Int) (h0:LBBe):(V7 x1 x5 h0).val (D:=N8.den)=.fail∨Runs O8 (B2F x1 x5 h0) (V7 x1 x5 h0).val:=by
 cases hc:(decide (0≤x5)&&(decide (0≤x1∧x1≤100000*(x5+100))&&okL h0)) with
 | false=>left;simp only [V7,CT.val,hc,cond_false]
 | true =>
  right
  simp only [V7,CT.val,hc,cond_true]
  simp only [Bool.and_eq_true,decide_eq_true_eq] at hc
  obtain ⟨i,rfl⟩:=Int.eq_ofNat_of_zero_le hc.1
  have hs:=A69 hc.2.2
  have hk:=hc.2.1
  simp only [Int.toNat_natCast]
  refine Runs.foldN (step:=O8) (fun j b=>B2F b.1 (j:Int) b.2) (fun i b=>(0≤b.1∧b.1≤100000*((i:Int)+100))∧b.2.length=h0.length) (h0.length) J7
   (fin:=fun b=>((.done (.exit 0) A74 (((),b.1,u28),(b.2,()))):CT).val) (fun i b hi hb=>?_) (fun i b hi hb=>?_) (h0.length - i) i (x1,h0) rfl ⟨hk,rfl⟩
  ·obtain ⟨k,h⟩:=b
   obtain ⟨hb1,hb2⟩:=hb
   simp only at hb1 hb2
   have w1:wI (k+(1:Int))=k+(1:Int):=A6z (by omega) (by omega)
   have w2:wI (k+(1:Int)+(1:Int))=k+(1:Int)+(1:Int):=A6z (by omega) (by omega)
   have e0:(H8 k)=true:=by simp only [H8,w1,w2];exact decide_eq_true (by omega)
   have e1:(decide (0≤(i:Int)∧(i:Int)<(h.length:Int)))=true:=decide_eq_true (by (try simp only [List.length_set]);omega)
   have e2:(H8 (wI (k+(1:Int))))=true:=by simp only [H8,w1,w2];exact decide_eq_true (by omega)
   have e3:(decide (0≤(i:Int)∧(i:Int)<(((h.set i ((H9 k),(h.getD i ((⟨#[]⟩:ByteArray),(⟨#[]⟩:ByteArray))).2)).length:Nat):Int)))=true:=decide_eq_true (by (try simp only [List.length_set]);omega)
   have h1:decide ((i:Int)<(h.length:Int))=true:=decide_eq_true (by omega)
   have v1:(J7 i (k,h)).1=k+(1:Int)+(1:Int):=by simp only [J7,w1,w2]
   have v2:(J7 i (k,h)).2.length=h.length:=by simp only [J7,List.length_set]
   refine ⟨⟨by rw [v1];omega,by rw [v2];exact hb2⟩,?_⟩
   simp only [O8,A9a,RT.val,h1,e0,e1,e2,e3,cond_true,A7g i (by omega),Int.toNat_natCast]
   rfl
  ·have h1:decide ((i:Int)<(b.2.length:Int))=false:=decide_eq_false (by omega)
   exact ⟨by simp only [O8,A9a,RT.val,h1,cond_false];rfl,_,_,_,rfl,by simp⟩
theorem B50:RdA G35 aLn 0 B0u N8 1 [] (kepts [] [(0,[1])]) (fun d=>(O8 d).opt 1 []):=by
 intro d
 kernel_rfl
noncomputable abbrev B1Q:St→Option Tree:=N8.say 1 [] [] (fun d=>V7 d.1.2.1 d.1.2.2.2.2.2.1 d.2.1)
theorem B6r:aPL B1Q B0u:=SS.wp2 hlz [] O8 B50 (fun d=>rfl) _ (fun d=>B6T d.1.2.1 d.1.2.2.2.2.2.1 d.2.1)
noncomputable def A90 (x1:Int) (h0:LBBe):Int×LBBe:=let z1:=foldN J7 (h0.length - (0:Int).toNat) (0:Int).toNat (x1,h0);((z1.1),(z1.2))
noncomputable abbrev B45 (r:Int×LBBe):AV×List AObj×List Nat:=((ti r.1),[(.rows 131 true C0f r.2)],[])
noncomputable abbrev B49:A8s.den→AV×List AObj×List Nat:=fun d=>B45 (A90 d.1.2.1 d.2.1)
noncomputable def P5 (x1:Int) (h0:LBBe):Bool:=okL h0&&decide (0≤x1∧x1≤10000000)
noncomputable abbrev B3H:A8s.den→Bool:=fun d=>P5 d.1.2.1 d.2.1
noncomputable abbrev B8x:Nat→St→Option Tree:=fun b=>match b with | 0=>B1Q | _=>fun _=>none
theorem B7E:A7i G35 (B8x) Try.f64 A8s B3H B49:=by
 rintro ⟨⟨_,x1,_⟩,⟨h0,_⟩⟩ hp
 change P5 x1 h0=true at hp
 unfold P5 at hp
 refine Eq.trans (b:=(let z1:=foldN J7 (h0.length - (0:Int).toNat) (0:Int).toNat (x1,h0);cond (decide (0≤(0:Int))&&(decide (0≤x1∧x1≤100000*((0:Int)+100))&&okL h0)) (some (B45 ((z1.1),(z1.2)))) none)) (by kernel_rfl) ?_
 exact (A7m (by first | rfl | decide | exact hp | (simp only [Bool.and_eq_true] at hp;simp only [hp];done) | (simp [*];done) | (simp [okL] at hp;simp [okL,MAXB];omega) | (simp_all;done) | (simp at *;omega)) (fun _h=>rfl))
noncomputable abbrev B5h:=win E7 (msum A8s B3H B49)
theorem B8J:aPM 64 B5h:=(mcM G35 (hl1 (i:=0) (by kernel_rfl) B6r) B7E).win E7
noncomputable def S36:Tab:=Tab.add S35 64 (orLend B5h)
noncomputable def C1F:FuncId→Bool:=C1E
theorem G36:aPG S36 C1F:=G35.addM B8J.orLend (A6K (A6W _)) (cbl Try.f64) (by kernel_rfl)


end Go.Proofs.Ytcofibhklbfgoaa.Eng
