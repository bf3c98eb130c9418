/- What the functions that FnExactWorldNew reaches compute: further. -/
import Derived.Test.YtcofibhklbfgoaaFExactWorldNewD
namespace Go.Proofs.Ytcofibhklbfgoaa.Eng
open Go Go.RowKit
set_option linter.unusedSimpArgs false
set_option linter.unusedVariables false
set_option maxRecDepth 10000
abbrev A7G:SS:=⟨[.all 0 2,tI],[.deep 80 [83] B99]⟩
abbrev L4:SS:=⟨(.all 0 2::tI::.junk::.junk::.junk::tI::B5M),[.deep 80 [83] B99]⟩
abbrev B0m:SS:=⟨(.junk::tI::C1a),[.deep 80 [83] B99]⟩
noncomputable def B1W (x1 x5:Int) (h0:Lq5):RT L4.den:=let z1:=h0.set x5.toNat (x1,(h0.getD x5.toNat ((0:Int),[])).2);let z2:=z1.getD x5.toNat ((0:Int),[]);let z3:=wI (x1+(1:Int));let z4:=A7U z3 (z2.2);(.br (decide (x5<(h0.length:Int))) (.br (decide (0≤x5∧x5<(h0.length:Int))) (.br (decide (0≤x5∧x5<((z1.length:Nat):Int))) (.br (O5 z3 (z2.2)) (.next (((),(z4.1),(),(),(),wI (x5+(1:Int)),u22),(z1.set x5.toNat (z2.1,(z4.2)),()))) .fail) .fail) .fail) (.done (.exit 0) B0m (((),x1,u26),(h0,()))))
abbrev A0f:=(Int)×(Int)×(Lq5)
abbrev T8:=Nat×(Int)×(Lq5)
def X1:T8:=(99,((0:Int):Int),([]:Lq5))
noncomputable def B1T (x1 x5:Int) (h0:Lq5):A0f ⊕ T8:=let z1:=h0.set x5.toNat (x1,(h0.getD x5.toNat ((0:Int),[])).2);let z2:=z1.getD x5.toNat ((0:Int),[]);let z3:=wI (x1+(1:Int));let z4:=A7U z3 (z2.2);(cond (decide (x5<(h0.length:Int))) (cond (decide (0≤x5∧x5<(h0.length:Int))) (cond (decide (0≤x5∧x5<((z1.length:Nat):Int))) (cond (O5 z3 (z2.2)) (.inl ((z4.1),wI (x5+(1:Int)),z1.set x5.toNat (z2.1,(z4.2)))) (.inr X1)) (.inr X1)) (.inr X1)) (.inr (0,x1,h0)))
noncomputable def R3 (x1 x5:Int) (h0:Lq5):T8:=itX (fun v:A0f=>B1T v.1 v.2.1 v.2.2) X1 (x1,x5,h0)
noncomputable def A78 (a:T8):CT:=(.br (a.1==0) (.done (.exit 0) B0m (((),a.2.1,u26),(a.2.2,()))) .fail)
noncomputable def B6m (x1 x5:Int) (h0:Lq5):CT:=A78 (R3 x1 x5 h0)
noncomputable abbrev A8o:L4.den→RT L4.den:=(fun d=>B1W d.1.2.1 d.1.2.2.2.2.2.1 d.2.1)
noncomputable def A9K:Code:=((D4 0 (A1T Try.f33)).getD 0 (0,.skip)).2
noncomputable abbrev B1I (v:A0f):L4.den:=(((),v.1,(),(),(),v.2.1,u22),(v.2.2,()))
theorem B57:(∀ v:A0f,(B1W v.1 v.2.1 v.2.2).val=A6u B1I A78 (B1T v.1 v.2.1 v.2.2))∧∀ a:T8,CEnd L4.den (A78 a):=⟨fun v=>(A7n (A7n (A7n (A7n rfl rfl) rfl) rfl) rfl),fun a=>(A7c aCD A7e)⟩
theorem B5q:RdA G38 aLn 0 A9K L4 1 [] (kepts [] [(0,[1])]) (fun d=>(A8o d).opt 1 []):=by
 intro d
 kernel_rfl
noncomputable abbrev B0N:St→Option Tree:=L4.say 1 [] [] (fun d=>B6m d.1.2.1 d.1.2.2.2.2.2.1 d.2.1)
theorem B5P:aPL B0N A9K:=SS.wp2 hlz [] A8o B5q (fun d=>rfl) _ (fun d=>Runs.ofI2 (step:=A8o) B1I B57 rfl (d.1.2.1,d.1.2.2.2.2.2.1,d.2.1))
noncomputable def B0I (x1:Int) (h0:Lq5):Int×Lq5:=let z1:=R3 x1 (0:Int) h0;((z1.2.1),(z1.2.2))
noncomputable abbrev B4q (r:Int×Lq5):AV×List AObj×List Nat:=((ti r.1),[(.deep 80 [83] B99 r.2)],[])
noncomputable abbrev B4s:A7G.den→AV×List AObj×List Nat:=fun d=>B4q (B0I d.1.2.1 d.2.1)
noncomputable def U5 (x1:Int) (h0:Lq5):Bool:=((R3 x1 (0:Int) h0).1==0)
noncomputable abbrev B2G:A7G.den→Bool:=fun d=>U5 d.1.2.1 d.2.1
noncomputable abbrev B7M:Nat→St→Option Tree:=fun b=>match b with | 0=>B0N | _=>fun _=>none
theorem B6M:A7i G38 (B7M) Try.f33 A7G B2G B4s:=by
 rintro ⟨⟨_,x1,_⟩,⟨h0,_⟩⟩ hp
 change U5 x1 h0=true at hp
 unfold U5 at hp
 refine Eq.trans (b:=(let z1:=R3 x1 (0:Int) h0;cond (z1.1==0) (some (B4q ((z1.2.1),(z1.2.2)))) none)) (by kernel_rfl) ?_
 exact (A7m hp fun _h=>rfl)
noncomputable abbrev B4u:=win E7 (msum A7G B2G B4s)
theorem B71:aPM 33 B4u:=(mcM G38 (hl1 (i:=0) (by kernel_rfl) B5P) B6M).win E7
noncomputable def S39:Tab:=Tab.add S38 33 (B4u)
noncomputable def C1I:FuncId→Bool:=C1H
theorem G39:aPG S39 C1I:=G38.addM B71 (A6W _) (cbl Try.f33) (by kernel_rfl)

abbrev A8u:SS:=⟨[.agg [.t true (.int .i64),.t true (.int .i64),.t true (.int .i64),.all 0 4,.all 1 2,.t true (.int .i64),.all 2 5,.all 3 5,.all 4 5,.all 5 2],tI],[.deep 124 [83,3] B7I,.rows 111 true B5A,.deep 53 [69,131,69] tq3,.deep 89 [83] tq9,.deep 89 [83] tq9,.deep 80 [83] B99]⟩
noncomputable def B2a (x0_0 x0_1 x0_2 x0_5 x1:Int) (h0:LT1) (h1:LIbe) (h2:LT2) (h3 h4:LT3) (h5:Lq5):Int×LT1×LIbe×LT2×LT3×LT3×Lq5:=let z2:=A8f x0_0 x0_1 x0_2 x0_5 x1 h0 h1;let z4:=A7t (z2.1) h2;let z1:=T3 (z4.1) h3;let z5:=T3 (z1.1) h4;let z3:=B0I (z5.1) h5;((z3.1),(z2.2.1),(z2.2.2),(z4.2),(z1.2),(z5.2),(z3.2))
noncomputable abbrev B47 (r:Int×LT1×LIbe×LT2×LT3×LT3×Lq5):AV×List AObj×List Nat:=((ti r.1),[(.deep 124 [83,3] B7I r.2.1),(.rows 111 true B5A r.2.2.1),(.deep 53 [69,131,69] tq3 r.2.2.2.1),(.deep 89 [83] tq9 r.2.2.2.2.1),(.deep 89 [83] tq9 r.2.2.2.2.2.1),(.deep 80 [83] B99 r.2.2.2.2.2.2)],[])
noncomputable abbrev B5b:A8u.den→AV×List AObj×List Nat:=fun d=>B47 (B2a d.1.1.1 d.1.1.2.1 d.1.1.2.2.1 d.1.1.2.2.2.2.2.1 d.1.2.1 d.2.1 d.2.2.1 d.2.2.2.1 d.2.2.2.2.1 d.2.2.2.2.2.1 d.2.2.2.2.2.2.1)
noncomputable def T5 (x0_0 x0_1 x0_2 x0_5 x1:Int) (h0:LT1) (h1:LIbe) (h2:LT2) (h3 h4:LT3) (h5:Lq5):Bool:=let z1:=(A8f x0_0 x0_1 x0_2 x0_5 x1 h0 h1).1;let z2:=(A7t z1 h2).1;let z3:=(T3 z2 h3).1;(X9 x0_0 x0_1 x0_2 x0_5 x1 h0 h1)&&((Q3 z1 h2)&&((P6 z2 h3)&&((P6 z3 h4)&&(U5 ((T3 z3 h4).1) h5))))
noncomputable abbrev B3J:A8u.den→Bool:=fun d=>T5 d.1.1.1 d.1.1.2.1 d.1.1.2.2.1 d.1.1.2.2.2.2.2.1 d.1.2.1 d.2.1 d.2.2.1 d.2.2.2.1 d.2.2.2.2.1 d.2.2.2.2.2.1 d.2.2.2.2.2.2.1
theorem B7G:A7i G39 aLn Try.f10 A8u B3J B5b:=by
 rintro ⟨⟨⟨x0_0,x0_1,x0_2,_,_,x0_5,_,_,_,_,_⟩,x1,_⟩,⟨h0,h1,h2,h3,h4,h5,_⟩⟩ hp
 change T5 x0_0 x0_1 x0_2 x0_5 x1 h0 h1 h2 h3 h4 h5=true at hp
 unfold T5 at hp
 refine Eq.trans (b:=(let z3:=A8f x0_0 x0_1 x0_2 x0_5 x1 h0 h1;let z1:=A7t (z3.1) h2;let z4:=T3 (z1.1) h3;let z2:=T3 (z4.1) h4;let z5:=B0I (z2.1) h5;cond (X9 x0_0 x0_1 x0_2 x0_5 x1 h0 h1) (cond (Q3 (z3.1) h2) (cond (P6 (z1.1) h3) (cond (P6 (z4.1) h4) (cond (U5 (z2.1) h5) (some (B47 ((z5.1),(z3.2.1),(z3.2.2),(z1.2),(z4.2),(z2.2),(z5.2)))) none) none) none) none) none)) (by kernel_rfl) ?_
 exact (A7k hp fun hp=>(A7k hp fun hp=>(A7k hp fun hp=>(A7k hp fun hp=>(A7m hp fun _h=>rfl)))))
noncomputable abbrev B5j:=win E7 (msum A8u B3J B5b)
theorem B8L:aPM 10 B5j:=(mcM G39 hlz B7G).win E7
noncomputable def S40:Tab:=Tab.add S39 10 (B5j)
noncomputable def C1J:FuncId→Bool:=C1I
theorem G40:aPG S40 C1J:=G39.addM B8L (A6W _) (cbl Try.f10) (by kernel_rfl)

abbrev C13:List Sh:=.junk::C0V
abbrev C14:List Sh:=.junk::C13
abbrev C2A:List Sh:=.junk::C1c
abbrev u38:=((),(),u36)
abbrev u37:=((),u36)
abbrev u41:=((),u40)
abbrev C1W:List AV:=.junk::.junk::C0G
abbrev C2m:List AV:=.junk::C0G
abbrev C2o:List AV:=.junk::C05

noncomputable def K4 (x0:Lq2) (i:Nat) (k:Int):Int ⊕ Unit:=(cond (((x0.getD i ((0:Int),(bE,bE))).1) != k) (.inr ()) (cond (!((((x0.getD i ((0:Int),(bE,bE))).2).1).toList==(H9 (wI (k+(1:Int)))).toList)) (.inr ()) (cond (!((((x0.getD i ((0:Int),(bE,bE))).2).2).toList==(H9 (wI ((wI (k+(1:Int)))+(1:Int)))).toList)) (.inr ()) (.inl (wI ((wI ((wI (k+(1:Int)))+(1:Int)))+(1:Int)))))))
abbrev A9G:List PSh:=[.t B4X,.t (.int .i64)]
abbrev O9:SS:=⟨(.t false B4X::tI::.junk::.junk::.junk::tI::C13),[]⟩
abbrev K6:SS:=⟨(.junk::.junk::.junk::.junk::tI::C14),[]⟩
abbrev A9x:SS:=⟨(.junk::tI::C2A),[]⟩
noncomputable def B08 (x0:Lq2) (x1 x5:Int):RT O9.den:=let z2:=x0.getD x5.toNat ((0:Int),(bE,bE));let z3:=decide (0≤x5∧x5<(x0.length:Int));let z4:=wI (x1+(1:Int));let z1:=wI (z4+(1:Int));(.br (decide (x5<(x0.length:Int))) (.br z3 (.br ((z2.1) != x1) (.done .ret K6 (((),(),(),(),(-1:Int),u38),())) (.br z3 (.br (H8 z4) (.br (!(((z2.2).1).toList==(H9 z4).toList)) (.done .ret K6 (((),(),(),(),(-1:Int),u38),())) (.br z3 (.br (H8 z1) (.br (!(((z2.2).2).toList==(H9 z1).toList)) (.done .ret K6 (((),(),(),(),(-1:Int),u38),())) (.next ((x0,wI (z1+(1:Int)),(),(),(),wI (x5+(1:Int)),u37),()))) .fail) .fail)) .fail) .fail)) .fail) (.done (.exit 0) A9x (((),x1,u41),())))
noncomputable def A7J (x0:Lq2) (x1 x5:Int):CT:=(.br (decide (0≤x5)&&(decide (0≤x1∧x1≤100000*(x5+100))&&okL x0)) (.br (A7f (loopN (K4 x0) (x0.length - x5.toNat) x5.toNat x1)) (.done (.exit 0) A9x (((),(A68 (-1) (loopN (K4 x0) (x0.length - x5.toNat) x5.toNat x1)),u41),())) (.done .ret K6 (((),(),(),(),(-1:Int),u38),()))) .fail)
noncomputable abbrev Q4:O9.den→RT O9.den:=(fun d=>B08 d.1.1 d.1.2.1 d.1.2.2.2.2.2.1)
noncomputable abbrev A8E (x0:Lq2) (x1 x5:Int):O9.den:=((x0,x1,(),(),(),x5,u37),())
noncomputable def B2z:Code:=((D4 0 (A1T Try.f70)).getD 0 (0,.skip)).2
theorem B8A (x0:Lq2) (x1 x5:Int):(A7J x0 x1 x5).val (D:=O9.den)=.fail∨Runs Q4 (A8E x0 x1 x5) (A7J x0 x1 x5).val:=by
 cases hc:(decide (0≤x5)&&(decide (0≤x1∧x1≤100000*(x5+100))&&okL x0)) with
 | false=>left;simp only [A7J,CT.val,hc,cond_false]
 | true =>
  right
  simp only [A7J,CT.val,hc,cond_true]
  simp only [Bool.and_eq_true,decide_eq_true_eq] at hc
  obtain ⟨i,rfl⟩:=Int.eq_ofNat_of_zero_le hc.1
  have hs:=A69 hc.2.2
  have hk:=hc.2.1
  simp only [Int.toNat_natCast]
  have h:=Runs.loopN (step:=Q4) (fun j b=>A8E x0 b (j:Int)) (fun i b=>0≤b∧b≤100000*((i:Int)+100)) (x0.length) (K4 x0)
   (fin:=fun b=>((.done (.exit 0) A9x (((),b,u41),())):CT).val) (bad:=fun _=>((.done .ret K6 (((),(),(),(),(-1:Int),u38),())):CT).val)
   (fun i b hi hb=>?_) (fun i b hi hb=>?_) (x0.length - i) i x1 rfl hk
  ·revert h
   cases loopN (K4 x0) (x0.length - i) i x1 with
   | inl b=>exact id
   | inr c=>exact id
  ·revert hb
   generalize b=k
   intro hb
   have w1:wI (k+(1:Int))=k+(1:Int):=A6z (by omega) (by omega)
   have w2:wI (k+(1:Int)+(1:Int))=k+(1:Int)+(1:Int):=A6z (by omega) (by omega)
   have w3:wI (k+(1:Int)+(1:Int)+(1:Int))=k+(1:Int)+(1:Int)+(1:Int):=A6z (by omega) (by omega)
   have e0:(decide (0≤(i:Int)∧(i:Int)<(x0.length:Int)))=true:=decide_eq_true (by omega)
   have e1:(decide (0≤(i:Int)∧(i:Int)<(x0.length:Int)))=true:=decide_eq_true (by omega)
   have e2:(H8 (wI (k+(1:Int))))=true:=by simp only [H8,w1,w2,w3];exact decide_eq_true (by omega)
   have e3:(decide (0≤(i:Int)∧(i:Int)<(x0.length:Int)))=true:=decide_eq_true (by omega)
   have e4:(H8 (wI ((wI (k+(1:Int)))+(1:Int))))=true:=by simp only [H8,w1,w2,w3];exact decide_eq_true (by omega)
   have h1:decide ((i:Int)<(x0.length:Int))=true:=decide_eq_true (by omega)
   have e:(Q4 (A8E x0 k (i:Int))).val=(cond (((x0.getD i ((0:Int),((⟨#[]⟩:ByteArray),(⟨#[]⟩:ByteArray)))).1) != k) ((.done .ret K6 (((),(),(),(),(-1:Int),u38),())):CT).val (cond (!((((x0.getD i ((0:Int),((⟨#[]⟩:ByteArray),(⟨#[]⟩:ByteArray)))).2).1).toList==(H9 (wI (k+(1:Int)))).toList)) ((.done .ret K6 (((),(),(),(),(-1:Int),u38),())):CT).val (cond (!((((x0.getD i ((0:Int),((⟨#[]⟩:ByteArray),(⟨#[]⟩:ByteArray)))).2).2).toList==(H9 (wI ((wI (k+(1:Int)))+(1:Int)))).toList)) ((.done .ret K6 (((),(),(),(),(-1:Int),u38),())):CT).val (.next (A8E x0 (wI ((wI ((wI (k+(1:Int)))+(1:Int)))+(1:Int))) ((i+1:Nat):Int)))))):=by
    simp only [Q4,B08,RT.val,h1,e0,e1,e2,e3,e4,cond_true,A7g i (by omega),Int.toNat_natCast]
    rfl
   cases g0:(((x0.getD i ((0:Int),((⟨#[]⟩:ByteArray),(⟨#[]⟩:ByteArray)))).1) != k) with
   | true=>exact .inr ⟨(),_,_,_,by simp only [K4,g0,cond_true,cond_false],by rw [e,g0];rfl,rfl,by simp⟩
   | false =>
    cases g1:(!((((x0.getD i ((0:Int),((⟨#[]⟩:ByteArray),(⟨#[]⟩:ByteArray)))).2).1).toList==(H9 (wI (k+(1:Int)))).toList)) with
    | true=>exact .inr ⟨(),_,_,_,by simp only [K4,g0,g1,cond_true,cond_false],by rw [e,g0,g1];rfl,rfl,by simp⟩
    | false =>
     cases g2:(!((((x0.getD i ((0:Int),((⟨#[]⟩:ByteArray),(⟨#[]⟩:ByteArray)))).2).2).toList==(H9 (wI ((wI (k+(1:Int)))+(1:Int)))).toList)) with
     | true=>exact .inr ⟨(),_,_,_,by simp only [K4,g0,g1,g2,cond_true,cond_false],by rw [e,g0,g1,g2];rfl,rfl,by simp⟩
     | false =>
      exact .inl ⟨wI ((wI ((wI (k+(1:Int)))+(1:Int)))+(1:Int)),by simp only [K4,g0,g1,g2,cond_false],by rw [w1,w2,w3];omega,by rw [e,g0,g1,g2];rfl⟩
  ·have h1:decide ((i:Int)<(x0.length:Int))=false:=decide_eq_false (by omega)
   exact ⟨by simp only [Q4,B08,RT.val,h1,cond_false];rfl,_,_,_,rfl,by simp⟩
noncomputable def B4w (x0:Lq2) (x1 x5:Int):Option (Ex×St):=let z1:=(⟨(.junk::.junk::.junk::.junk::(ti (-1:Int))::C1W),[],0,[]⟩:St);let z3:=x0.getD x5.toNat ((0:Int),(bE,bE));let z4:=decide (0≤x5∧x5<(x0.length:Int));let z5:=wI (x1+(1:Int));let z2:=wI (z5+(1:Int));(cond (decide (x5<(x0.length:Int))) (cond z4 (cond ((z3.1) != x1) (some (.ret,z1)) (cond z4 (cond (H8 z5) (cond (!(((z3.2).1).toList==(H9 z5).toList)) (some (.ret,z1)) (cond z4 (cond (H8 z2) (cond (!(((z3.2).2).toList==(H9 z2).toList)) (some (.ret,z1)) (some (.normal,(⟨((.t false B4X x0)::(ti (wI (z2+(1:Int))))::.junk::.junk::.junk::(ti (wI (x5+(1:Int))))::C2m),[],0,[]⟩:St)))) none) none)) none) none)) none) (some ((.exit 0),(⟨(.junk::(ti x1)::C2o),[],0,[]⟩:St))))
theorem B7m:RdA G40 aLn 0 B2z O9 0 [] (kepts [4] [(0,[1])]) (fun d=>B4w d.1.1 d.1.2.1 d.1.2.2.2.2.2.1):=by
 intro d
 kernel_rfl
theorem B7o:∀ d:O9.den,(fun d=>B4w d.1.1 d.1.2.1 d.1.2.2.2.2.2.1) d=(Q4 d).opt 0 []:=by
 intro d
 kernel_rfl
noncomputable abbrev B3W:St→Option Tree:=O9.say 0 [] [] (fun d=>A7J d.1.1 d.1.2.1 d.1.2.2.2.2.2.1)
theorem B75:aPL B3W B2z:=SS.wp2 hlz [] Q4 B7m B7o _ (fun d=>B8A d.1.1 d.1.2.1 d.1.2.2.2.2.2.1)
noncomputable def R6 (a0:Lq2) (a1:Int):Int:=let z1:=loopN (K4 a0) (a0.length - (0:Int).toNat) (0:Int).toNat a1;(cond (A7f z1) (A68 (-1) z1) (-1:Int))
noncomputable abbrev B11 (r:Int):AV×List AObj:=((ti r),[])
noncomputable abbrev B4Q:E8 A9G→AV×List AObj:=fun d=>B11 (R6 d.1 d.2.1)
noncomputable def J0 (a0:Lq2) (a1:Int):Bool:=okL a0&&decide (0≤a1∧a1≤10000000)
noncomputable abbrev B2i:E8 A9G→Bool:=fun d=>J0 d.1 d.2.1
noncomputable abbrev B9Q:Nat→St→Option Tree:=fun b=>match b with | 0=>B3W | _=>fun _=>none
theorem B85:A7j true G40 (B9Q) Try.f70 A9G B2i B4Q:=by
 rintro ⟨a0,⟨a1,_⟩⟩ hp
 change J0 a0 a1=true at hp
 unfold J0 at hp
 refine Eq.trans (b:=(let z1:=loopN (K4 a0) (a0.length - (0:Int).toNat) (0:Int).toNat a1;cond (decide (0≤(0:Int))&&(decide (0≤a1∧a1≤100000*((0:Int)+100))&&okL a0)) (cond (A7f z1) (some (B11 (A68 (-1) z1))) (some (B11 (-1:Int)))) none)) (by kernel_rfl) ?_
 exact (A7m (by first | rfl | decide | exact hp | (simp only [Bool.and_eq_true] at hp;simp only [hp];done) | (simp [*];done) | (simp [okL] at hp;simp [okL,MAXB];omega) | (simp_all;done) | (simp at *;omega)) (fun _h=>(P1 B11 (fun _h=>rfl) (fun _h=>rfl))))
theorem B90:aPP 70 (A2d A9G B2i B4Q):=pcD true G40 (hl1 (i:=0) (by kernel_rfl) B75) B85
noncomputable def S41:Tab:=Tab.add S40 70 (lift (A2d A9G B2i B4Q))
noncomputable def C1K:FuncId→Bool:=qadd C1J 70
theorem G41:aPG S41 C1K:=G40.addQ B90 (cbl Try.f70) (fun _=>rfl)

abbrev C2v:List Sh:=.junk::.junk::C1Z
abbrev C2w:List Sh:=.junk::.junk::C10
abbrev u16:=((),(),u14)
abbrev u20:=((),(),u18)

noncomputable def N0 (x0:List Int) (i:Nat) (k:Int):Int ⊕ Unit:=(cond ((x0.getD i (0:Int)) != k) (.inr ()) (.inl (wI (k+(1:Int)))))
abbrev A8M:List PSh:=[.t B9N,.t (.int .i64)]
abbrev Q0:SS:=⟨(.t false B9N::tI::.junk::.junk::.junk::tI::C2v),[]⟩
abbrev A0a:SS:=⟨(.junk::.junk::.junk::.junk::tI::C0S),[]⟩
abbrev A8Z:SS:=⟨(.junk::tI::C2w),[]⟩
noncomputable def B0i (x0:List Int) (x1 x5:Int):RT Q0.den:=(.br (decide (x5<(x0.length:Int))) (.br (decide (0≤x5∧x5<(x0.length:Int))) (.br ((x0.getD x5.toNat (0:Int)) != x1) (.done .ret A0a (((),(),(),(),(-1:Int),u17),())) (.next ((x0,wI (x1+(1:Int)),(),(),(),wI (x5+(1:Int)),u16),()))) .fail) (.done (.exit 0) A8Z (((),x1,u20),())))
noncomputable def Z1 (x0:List Int) (x1 x5:Int):CT:=(.br (decide (0≤x5)&&(decide (0≤x1∧x1≤100000*(x5+100))&&okL x0)) (.br (A7f (loopN (N0 x0) (x0.length - x5.toNat) x5.toNat x1)) (.done (.exit 0) A8Z (((),(A68 (-1) (loopN (N0 x0) (x0.length - x5.toNat) x5.toNat x1)),u20),())) (.done .ret A0a (((),(),(),(),(-1:Int),u17),()))) .fail)
noncomputable abbrev O6:Q0.den→RT Q0.den:=(fun d=>B0i d.1.1 d.1.2.1 d.1.2.2.2.2.2.1)
noncomputable abbrev A7V (x0:List Int) (x1 x5:Int):Q0.den:=((x0,x1,(),(),(),x5,u16),())
noncomputable def B1m:Code:=((D4 0 (A1T Try.f92)).getD 0 (0,.skip)).2
theorem B7O (x0:List Int) (x1 x5:Int):(Z1 x0 x1 x5).val (D:=Q0.den)=.fail∨Runs O6 (A7V x0 x1 x5) (Z1 x0 x1 x5).val:=by
 cases hc:(decide (0≤x5)&&(decide (0≤x1∧x1≤100000*(x5+100))&&okL x0)) with
 | false=>left;simp only [Z1,CT.val,hc,cond_false]
 | true =>
  right
  simp only [Z1,CT.val,hc,cond_true]
  simp only [Bool.and_eq_true,decide_eq_true_eq] at hc
  obtain ⟨i,rfl⟩:=Int.eq_ofNat_of_zero_le hc.1
  have hs:=A69 hc.2.2
  have hk:=hc.2.1
  simp only [Int.toNat_natCast]
  have h:=Runs.loopN (step:=O6) (fun j b=>A7V x0 b (j:Int)) (fun i b=>0≤b∧b≤100000*((i:Int)+100)) (x0.length) (N0 x0)
   (fin:=fun b=>((.done (.exit 0) A8Z (((),b,u20),())):CT).val) (bad:=fun _=>((.done .ret A0a (((),(),(),(),(-1:Int),u17),())):CT).val)
   (fun i b hi hb=>?_) (fun i b hi hb=>?_) (x0.length - i) i x1 rfl hk
  ·revert h
   cases loopN (N0 x0) (x0.length - i) i x1 with
   | inl b=>exact id
   | inr c=>exact id
  ·revert hb
   generalize b=k
   intro hb
   have w1:wI (k+(1:Int))=k+(1:Int):=A6z (by omega) (by omega)
   have e0:(decide (0≤(i:Int)∧(i:Int)<(x0.length:Int)))=true:=decide_eq_true (by omega)
   have h1:decide ((i:Int)<(x0.length:Int))=true:=decide_eq_true (by omega)
   have e:(O6 (A7V x0 k (i:Int))).val=(cond ((x0.getD i (0:Int)) != k) ((.done .ret A0a (((),(),(),(),(-1:Int),u17),())):CT).val (.next (A7V x0 (wI (k+(1:Int))) ((i+1:Nat):Int)))):=by
    simp only [O6,B0i,RT.val,h1,e0,cond_true,A7g i (by omega),Int.toNat_natCast]
    rfl
   cases g0:((x0.getD i (0:Int)) != k) with
   | true=>exact .inr ⟨(),_,_,_,by simp only [N0,g0,cond_true,cond_false],by rw [e,g0];rfl,rfl,by simp⟩
   | false =>
    exact .inl ⟨wI (k+(1:Int)),by simp only [N0,g0,cond_false],by rw [w1];omega,by rw [e,g0];rfl⟩
  ·have h1:decide ((i:Int)<(x0.length:Int))=false:=decide_eq_false (by omega)
   exact ⟨by simp only [O6,B0i,RT.val,h1,cond_false];rfl,_,_,_,rfl,by simp⟩
theorem B6w:RdA G41 aLn 0 B1m Q0 0 [] (kepts [4] [(0,[1])]) (fun d=>(O6 d).opt 0 []):=by
 intro d
 kernel_rfl
noncomputable abbrev B2N:St→Option Tree:=Q0.say 0 [] [] (fun d=>Z1 d.1.1 d.1.2.1 d.1.2.2.2.2.2.1)
theorem B7a:aPL B2N B1m:=SS.wp2 hlz [] O6 B6w (fun d=>rfl) _ (fun d=>B7O d.1.1 d.1.2.1 d.1.2.2.2.2.2.1)
noncomputable def B4h (a0:List Int) (a1:Int):Int:=let z1:=loopN (N0 a0) (a0.length - (0:Int).toNat) (0:Int).toNat a1;(cond (A7f z1) (A68 (-1) z1) (-1:Int))
noncomputable abbrev B0A (r:Int):AV×List AObj:=((ti r),[])
noncomputable abbrev B3k:E8 A8M→AV×List AObj:=fun d=>B0A (B4h d.1 d.2.1)
noncomputable def A7v (a0:List Int) (a1:Int):Bool:=okL a0&&decide (0≤a1∧a1≤10000000)
noncomputable abbrev B0Y:E8 A8M→Bool:=fun d=>A7v d.1 d.2.1
noncomputable abbrev B9c:Nat→St→Option Tree:=fun b=>match b with | 0=>B2N | _=>fun _=>none
theorem B8h:A7j true G41 (B9c) Try.f92 A8M B0Y B3k:=by
 rintro ⟨a0,⟨a1,_⟩⟩ hp
 change A7v a0 a1=true at hp
 unfold A7v at hp
 refine Eq.trans (b:=(let z1:=loopN (N0 a0) (a0.length - (0:Int).toNat) (0:Int).toNat a1;cond (decide (0≤(0:Int))&&(decide (0≤a1∧a1≤100000*((0:Int)+100))&&okL a0)) (cond (A7f z1) (some (B0A (A68 (-1) z1))) (some (B0A (-1:Int)))) none)) (by kernel_rfl) ?_
 exact (A7m (by first | rfl | decide | exact hp | (simp only [Bool.and_eq_true] at hp;simp only [hp];done) | (simp [*];done) | (simp [okL] at hp;simp [okL,MAXB];omega) | (simp_all;done) | (simp at *;omega)) (fun _h=>(P1 B0A (fun _h=>rfl) (fun _h=>rfl))))
theorem B9t:aPP 92 (A2d A8M B0Y B3k):=pcD true G41 (hl1 (i:=0) (by kernel_rfl) B7a) B8h
noncomputable def S42:Tab:=Tab.add S41 92 (lift (A2d A8M B0Y B3k))
noncomputable def C1L:FuncId→Bool:=qadd C1K 92
theorem G42:aPG S42 C1L:=G41.addQ B9t (cbl Try.f92) (fun _=>rfl)

abbrev C2B:List Sh:=.junk::C0W
abbrev C2C:List Sh:=.junk::C1d
abbrev u44:=((),u43)
abbrev u48:=((),u47)
abbrev C2p:List AV:=.junk::C0Q
abbrev C2q:List AV:=.junk::C06
abbrev A8N:List PSh:=[.t tq6,.t (.int .i64)]
abbrev M4:SS:=⟨(.t false tq6::tI::.junk::.junk::.junk::tI::C2B),[]⟩
abbrev U0:SS:=⟨(.junk::.junk::.junk::.junk::tI::C15),[]⟩
abbrev B2s:SS:=⟨(.junk::tI::C2C),[]⟩
noncomputable def B38 (x0:LT1) (x1 x5:Int):RT M4.den:=let z1:=x0.getD x5.toNat ((0:Int),([],((0:Int),[])));let z3:=decide (0≤x5∧x5<(x0.length:Int));let z5:=wI (x1+(1:Int));let z2:=R6 ((z1.2).1) z5;let z4:=wI (z2+(1:Int));let z6:=B4h (((z1.2).2).2) z4;(.br (decide (x5<(x0.length:Int))) (.br z3 (.br ((z1.1) != x1) (.done .ret U0 (((),(),(),(),(-1:Int),u45),())) (.br z3 (.br (J0 ((z1.2).1) z5) (.br (decide (z2<(0:Int))) (.done .ret U0 (((),(),(),(),(-1:Int),u45),())) (.br z3 (.br ((((z1.2).2).1) != z2) (.done .ret U0 (((),(),(),(),(-1:Int),u45),())) (.br z3 (.br (A7v (((z1.2).2).2) z4) (.br (decide (z6<(0:Int))) (.done .ret U0 (((),(),(),(),(-1:Int),u45),())) (.next ((x0,z6,(),(),(),wI (x5+(1:Int)),u44),()))) .fail) .fail)) .fail)) .fail) .fail)) .fail) (.done (.exit 0) B2s (((),x1,u48),())))
abbrev A8x:=LT1×(Int)×(Int)
abbrev Y4:=Nat×(Int)×(Int)
def N9:Y4:=(99,((0:Int):Int),((0:Int):Int))
noncomputable def B30 (x0:LT1) (x1 x5:Int):A8x ⊕ Y4:=let z1:=x0.getD x5.toNat ((0:Int),([],((0:Int),[])));let z3:=decide (0≤x5∧x5<(x0.length:Int));let z5:=wI (x1+(1:Int));let z2:=R6 ((z1.2).1) z5;let z4:=wI (z2+(1:Int));let z6:=B4h (((z1.2).2).2) z4;(cond (decide (x5<(x0.length:Int))) (cond z3 (cond ((z1.1) != x1) (.inr (0,(-1:Int),((0:Int):Int))) (cond z3 (cond (J0 ((z1.2).1) z5) (cond (decide (z2<(0:Int))) (.inr (0,(-1:Int),((0:Int):Int))) (cond z3 (cond ((((z1.2).2).1) != z2) (.inr (0,(-1:Int),((0:Int):Int))) (cond z3 (cond (A7v (((z1.2).2).2) z4) (cond (decide (z6<(0:Int))) (.inr (0,(-1:Int),((0:Int):Int))) (.inl (x0,z6,wI (x5+(1:Int))))) (.inr N9)) (.inr N9))) (.inr N9))) (.inr N9)) (.inr N9))) (.inr N9)) (.inr (1,((0:Int):Int),x1)))
noncomputable def W2 (x0:LT1) (x1 x5:Int):Y4:=itX (fun v:A8x=>B30 v.1 v.2.1 v.2.2) N9 (x0,x1,x5)
noncomputable def A9P (a:Y4):CT:=(.br (a.1==0) (.done .ret U0 (((),(),(),(),a.2.1,u45),())) (.br (a.1==1) (.done (.exit 0) B2s (((),a.2.2,u48),())) .fail))
noncomputable def B7U (x0:LT1) (x1 x5:Int):CT:=A9P (W2 x0 x1 x5)
noncomputable abbrev B0d:M4.den→RT M4.den:=(fun d=>B38 d.1.1 d.1.2.1 d.1.2.2.2.2.2.1)
noncomputable def B1n:Code:=((D4 0 (A1T Try.f66)).getD 0 (0,.skip)).2
noncomputable abbrev B3N (v:A8x):M4.den:=((v.1,v.2.1,(),(),(),v.2.2,u44),())
theorem B7t:(∀ v:A8x,(B38 v.1 v.2.1 v.2.2).val=A6u B3N A9P (B30 v.1 v.2.1 v.2.2))∧∀ a:Y4,CEnd M4.den (A9P a):=⟨fun v=>by repeat' first | apply A7n | rfl,fun a=>(A7c aCD (A7c aCD A7e))⟩
noncomputable def B3w (x0:LT1) (x1 x5:Int):Option (Ex×St):=let z1:=x0.getD x5.toNat ((0:Int),([],((0:Int),[])));let z3:=(⟨(.junk::.junk::.junk::.junk::(ti (-1:Int))::C1X),[],0,[]⟩:St);let z4:=decide (0≤x5∧x5<(x0.length:Int));let z6:=wI (x1+(1:Int));let z2:=R6 ((z1.2).1) z6;let z5:=wI (z2+(1:Int));let z7:=B4h (((z1.2).2).2) z5;(cond (decide (x5<(x0.length:Int))) (cond z4 (cond ((z1.1) != x1) (some (.ret,z3)) (cond z4 (cond (J0 ((z1.2).1) z6) (cond (decide (z2<(0:Int))) (some (.ret,z3)) (cond z4 (cond ((((z1.2).2).1) != z2) (some (.ret,z3)) (cond z4 (cond (A7v (((z1.2).2).2) z5) (cond (decide (z7<(0:Int))) (some (.ret,z3)) (some (.normal,(⟨((.t false tq6 x0)::(ti z7)::.junk::.junk::.junk::(ti (wI (x5+(1:Int))))::C2p),[],0,[]⟩:St)))) none) none)) none)) none) none)) none) (some ((.exit 0),(⟨(.junk::(ti x1)::C2q),[],0,[]⟩:St))))
theorem B6x:RdA G42 aLn 0 B1n M4 0 [] (kepts [4] [(0,[1])]) (fun d=>B3w d.1.1 d.1.2.1 d.1.2.2.2.2.2.1):=by
 intro d
 kernel_rfl
theorem B6E:∀ d:M4.den,(fun d=>B3w d.1.1 d.1.2.1 d.1.2.2.2.2.2.1) d=(B0d d).opt 0 []:=by
 intro d
 kernel_rfl
noncomputable abbrev B2O:St→Option Tree:=M4.say 0 [] [] (fun d=>B7U d.1.1 d.1.2.1 d.1.2.2.2.2.2.1)
theorem B7b:aPL B2O B1n:=SS.wp2 hlz [] B0d B6x B6E _ (fun d=>Runs.ofI2 (step:=B0d) B3N B7t rfl (d.1.1,d.1.2.1,d.1.2.2.2.2.2.1))
noncomputable def A7o (a0:LT1) (a1:Int):Int:=let z1:=W2 a0 a1 (0:Int);(cond (z1.1==0) (z1.2.1) (z1.2.2))
noncomputable abbrev B0B (r:Int):AV×List AObj:=((ti r),[])
noncomputable abbrev B3l:E8 A8N→AV×List AObj:=fun d=>B0B (A7o d.1 d.2.1)
noncomputable def A7w (a0:LT1) (a1:Int):Bool:=let z1:=W2 a0 a1 (0:Int);cond (z1.1==0) true (z1.1==1)
noncomputable abbrev B0Z:E8 A8N→Bool:=fun d=>A7w d.1 d.2.1
noncomputable abbrev B9d:Nat→St→Option Tree:=fun b=>match b with | 0=>B2O | _=>fun _=>none
theorem B8i:A7j true G42 (B9d) Try.f66 A8N B0Z B3l:=by
 rintro ⟨a0,⟨a1,_⟩⟩ hp
 change A7w a0 a1=true at hp
 unfold A7w at hp
 refine Eq.trans (b:=(let z1:=W2 a0 a1 (0:Int);cond (z1.1==0) (some (B0B (z1.2.1))) (cond (z1.1==1) (some (B0B (z1.2.2))) none))) (by kernel_rfl) ?_
 exact (Q5 B0B hp (fun hp=>rfl) (fun hp=>(A7m hp fun _h=>rfl)))
theorem B9u:aPP 66 (A2d A8N B0Z B3l):=pcD true G42 (hl1 (i:=0) (by kernel_rfl) B7b) B8i
noncomputable def S43:Tab:=Tab.add S42 66 (lift (A2d A8N B0Z B3l))
noncomputable def C1M:FuncId→Bool:=qadd C1L 66
theorem G43:aPG S43 C1M:=G42.addQ B9u (cbl Try.f66) (fun _=>rfl)

abbrev C12:List Sh:=.junk::C0U
abbrev u32:=((),u31)
abbrev C03:List AV:=.junk::.junk::.junk::.junk::.junk::.junk::.junk::.junk::.junk::.junk::.junk::.junk::.junk::.junk::.junk::.junk::.junk::.junk::.junk::.junk::.junk::.junk::.junk::.junk::.junk::.junk::.junk::.junk::[]
abbrev C1U:List AV:=.junk::.junk::.junk::.junk::.junk::.junk::.junk::.junk::.junk::.junk::.junk::.junk::.junk::.junk::.junk::.junk::.junk::.junk::.junk::.junk::.junk::.junk::.junk::.junk::.junk::.junk::.junk::[]
abbrev C1V:List AV:=.junk::C0P

noncomputable def I6 (x0:LIbe) (i:Nat) (k:Int):Int ⊕ Unit:=(cond (((x0.getD i ((0:Int),false)).1) != k) (.inr ()) (cond (!(((x0.getD i ((0:Int),false)).2)==((Int.tmod (wI (k+(1:Int))) (3:Int))==(0:Int)))) (.inr ()) (.inl (wI ((wI (k+(1:Int)))+(1:Int))))))
abbrev V1:List PSh:=[.t B4e,.t (.int .i64)]
abbrev J4:SS:=⟨(.t false B4e::tI::.junk::.junk::.junk::tI::C0H),[]⟩
abbrev K2:SS:=⟨(.junk::.junk::.junk::.junk::tI::C0T),[]⟩
abbrev A0i:SS:=⟨(.junk::tI::C12),[]⟩
noncomputable def A70 (x0:LIbe) (x1 x5:Int):RT J4.den:=let z1:=decide (0≤x5∧x5<(x0.length:Int));let z2:=x0.getD x5.toNat ((0:Int),false);let z3:=wI (x1+(1:Int));(.br (decide (x5<(x0.length:Int))) (.br z1 (.br ((z2.1) != x1) (.done .ret K2 (((),(),(),(),(-1:Int),u29),())) (.br z1 (.br (!((z2.2)==((Int.tmod z3 (3:Int))==(0:Int)))) (.done .ret K2 (((),(),(),(),(-1:Int),u29),())) (.next ((x0,wI (z3+(1:Int)),(),(),(),wI (x5+(1:Int)),u28),()))) .fail)) .fail) (.done (.exit 0) A0i (((),x1,u32),())))
noncomputable def Q8 (x0:LIbe) (x1 x5:Int):CT:=(.br (decide (0≤x5)&&(decide (0≤x1∧x1≤100000*(x5+100))&&okL x0)) (.br (A7f (loopN (I6 x0) (x0.length - x5.toNat) x5.toNat x1)) (.done (.exit 0) A0i (((),(A68 (-1) (loopN (I6 x0) (x0.length - x5.toNat) x5.toNat x1)),u32),())) (.done .ret K2 (((),(),(),(),(-1:Int),u29),()))) .fail)
noncomputable abbrev J8:J4.den→RT J4.den:=(fun d=>A70 d.1.1 d.1.2.1 d.1.2.2.2.2.2.1)
noncomputable abbrev U7 (x0:LIbe) (x1 x5:Int):J4.den:=((x0,x1,(),(),(),x5,u28),())
noncomputable def A9b:Code:=((D4 0 (A1T Try.f67)).getD 0 (0,.skip)).2
theorem B5D (x0:LIbe) (x1 x5:Int):(Q8 x0 x1 x5).val (D:=J4.den)=.fail∨Runs J8 (U7 x0 x1 x5) (Q8 x0 x1 x5).val:=by
 cases hc:(decide (0≤x5)&&(decide (0≤x1∧x1≤100000*(x5+100))&&okL x0)) with
 | false=>left;simp only [Q8,CT.val,hc,cond_false]
 | true =>
  right
  simp only [Q8,CT.val,hc,cond_true]
  simp only [Bool.and_eq_true,decide_eq_true_eq] at hc
  obtain ⟨i,rfl⟩:=Int.eq_ofNat_of_zero_le hc.1
  have hs:=A69 hc.2.2
  have hk:=hc.2.1
  simp only [Int.toNat_natCast]
  have h:=Runs.loopN (step:=J8) (fun j b=>U7 x0 b (j:Int)) (fun i b=>0≤b∧b≤100000*((i:Int)+100)) (x0.length) (I6 x0)
   (fin:=fun b=>((.done (.exit 0) A0i (((),b,u32),())):CT).val) (bad:=fun _=>((.done .ret K2 (((),(),(),(),(-1:Int),u29),())):CT).val)
   (fun i b hi hb=>?_) (fun i b hi hb=>?_) (x0.length - i) i x1 rfl hk
  ·revert h
   cases loopN (I6 x0) (x0.length - i) i x1 with
   | inl b=>exact id
   | inr c=>exact id
  ·revert hb
   generalize b=k
   intro hb
   have w1:wI (k+(1:Int))=k+(1:Int):=A6z (by omega) (by omega)
   have w2:wI (k+(1:Int)+(1:Int))=k+(1:Int)+(1:Int):=A6z (by omega) (by omega)
   have e0:(decide (0≤(i:Int)∧(i:Int)<(x0.length:Int)))=true:=decide_eq_true (by omega)
   have e1:(decide (0≤(i:Int)∧(i:Int)<(x0.length:Int)))=true:=decide_eq_true (by omega)
   have h1:decide ((i:Int)<(x0.length:Int))=true:=decide_eq_true (by omega)
   have e:(J8 (U7 x0 k (i:Int))).val=(cond (((x0.getD i ((0:Int),false)).1) != k) ((.done .ret K2 (((),(),(),(),(-1:Int),u29),())):CT).val (cond (!(((x0.getD i ((0:Int),false)).2)==((Int.tmod (wI (k+(1:Int))) (3:Int))==(0:Int)))) ((.done .ret K2 (((),(),(),(),(-1:Int),u29),())):CT).val (.next (U7 x0 (wI ((wI (k+(1:Int)))+(1:Int))) ((i+1:Nat):Int))))):=by
    simp only [J8,A70,RT.val,h1,e0,e1,cond_true,A7g i (by omega),Int.toNat_natCast]
    rfl
   cases g0:(((x0.getD i ((0:Int),false)).1) != k) with
   | true=>exact .inr ⟨(),_,_,_,by simp only [I6,g0,cond_true,cond_false],by rw [e,g0];rfl,rfl,by simp⟩
   | false =>
    cases g1:(!(((x0.getD i ((0:Int),false)).2)==((Int.tmod (wI (k+(1:Int))) (3:Int))==(0:Int)))) with
    | true=>exact .inr ⟨(),_,_,_,by simp only [I6,g0,g1,cond_true,cond_false],by rw [e,g0,g1];rfl,rfl,by simp⟩
    | false =>
     exact .inl ⟨wI ((wI (k+(1:Int)))+(1:Int)),by simp only [I6,g0,g1,cond_false],by rw [w1,w2];omega,by rw [e,g0,g1];rfl⟩
  ·have h1:decide ((i:Int)<(x0.length:Int))=false:=decide_eq_false (by omega)
   exact ⟨by simp only [J8,A70,RT.val,h1,cond_false];rfl,_,_,_,rfl,by simp⟩
noncomputable def B0J (x0:LIbe) (x1 x5:Int):Option (Ex×St):=let z1:=(⟨(.junk::.junk::.junk::.junk::(ti (-1:Int))::C03),[],0,[]⟩:St);let z2:=decide (0≤x5∧x5<(x0.length:Int));let z3:=x0.getD x5.toNat ((0:Int),false);let z4:=wI (x1+(1:Int));(cond (decide (x5<(x0.length:Int))) (cond z2 (cond ((z3.1) != x1) (some (.ret,z1)) (cond z2 (cond (!((z3.2)==((Int.tmod z4 (3:Int))==(0:Int)))) (some (.ret,z1)) (some (.normal,(⟨((.t false B4e x0)::(ti (wI (z4+(1:Int))))::.junk::.junk::.junk::(ti (wI (x5+(1:Int))))::C1U),[],0,[]⟩:St)))) none)) none) (some ((.exit 0),(⟨(.junk::(ti x1)::C1V),[],0,[]⟩:St))))
theorem B4U:RdA G43 aLn 0 A9b J4 0 [] (kepts [4] [(0,[1])]) (fun d=>B0J d.1.1 d.1.2.1 d.1.2.2.2.2.2.1):=by
 intro d
 kernel_rfl
theorem B4W:∀ d:J4.den,(fun d=>B0J d.1.1 d.1.2.1 d.1.2.2.2.2.2.1) d=(J8 d).opt 0 []:=by
 intro d
 kernel_rfl
noncomputable abbrev A98:St→Option Tree:=J4.say 0 [] [] (fun d=>Q8 d.1.1 d.1.2.1 d.1.2.2.2.2.2.1)
theorem B5e:aPL A98 A9b:=SS.wp2 hlz [] J8 B4U B4W _ (fun d=>B5D d.1.1 d.1.2.1 d.1.2.2.2.2.2.1)
noncomputable def A9l (a0:LIbe) (a1:Int):Int:=let z1:=loopN (I6 a0) (a0.length - (0:Int).toNat) (0:Int).toNat a1;(cond (A7f z1) (A68 (-1) z1) (-1:Int))
noncomputable abbrev A7O (r:Int):AV×List AObj:=((ti r),[])
noncomputable abbrev A9W:E8 V1→AV×List AObj:=fun d=>A7O (A9l d.1 d.2.1)
noncomputable def O3 (a0:LIbe) (a1:Int):Bool:=okL a0&&decide (0≤a1∧a1≤10000000)
noncomputable abbrev A8i:E8 V1→Bool:=fun d=>O3 d.1 d.2.1
noncomputable abbrev B6P:Nat→St→Option Tree:=fun b=>match b with | 0=>A98 | _=>fun _=>none
theorem B59:A7j true G43 (B6P) Try.f67 V1 A8i A9W:=by
 rintro ⟨a0,⟨a1,_⟩⟩ hp
 change O3 a0 a1=true at hp
 unfold O3 at hp
 refine Eq.trans (b:=(let z1:=loopN (I6 a0) (a0.length - (0:Int).toNat) (0:Int).toNat a1;cond (decide (0≤(0:Int))&&(decide (0≤a1∧a1≤100000*((0:Int)+100))&&okL a0)) (cond (A7f z1) (some (A7O (A68 (-1) z1))) (some (A7O (-1:Int)))) none)) (by kernel_rfl) ?_
 exact (A7m (by first | rfl | decide | exact hp | (simp only [Bool.and_eq_true] at hp;simp only [hp];done) | (simp [*];done) | (simp [okL] at hp;simp [okL,MAXB];omega) | (simp_all;done) | (simp at *;omega)) (fun _h=>(P1 A7O (fun _h=>rfl) (fun _h=>rfl))))
theorem B6W:aPP 67 (A2d V1 A8i A9W):=pcD true G43 (hl1 (i:=0) (by kernel_rfl) B5e) B59
noncomputable def S44:Tab:=Tab.add S43 67 (lift (A2d V1 A8i A9W))
noncomputable def C1N:FuncId→Bool:=qadd C1M 67
theorem G44:aPG S44 C1N:=G43.addQ B6W (cbl Try.f67) (fun _=>rfl)

abbrev A7C:List PSh:=[.agg [(.int .i64),(.int .i64),(.int .i64),tq6,B4e,(.int .i64)],.t (.int .i64)]
noncomputable def A8e (a0 a1 a2:Int) (a3:LT1) (a4:LIbe) (a5 a6:Int):Int:=let z1:=A9l a4 (A7o a3 a6);(cond (decide ((A7o a3 a6)<(0:Int))) (-1:Int) (cond (decide (z1<(0:Int))) (-1:Int) z1))
noncomputable abbrev A7P (r:Int):AV×List AObj:=((ti r),[])
noncomputable abbrev B14:E8 A7C→AV×List AObj:=fun d=>A7P (A8e d.1.1 d.1.2.1 d.1.2.2.1 d.1.2.2.2.1 d.1.2.2.2.2.1 d.1.2.2.2.2.2.1 d.2.1)
noncomputable def X8 (a0 a1 a2:Int) (a3:LT1) (a4:LIbe) (a5 a6:Int):Bool:=(A7w a3 a6)&&(cond (decide ((A7o a3 a6)<(0:Int))) true (O3 a4 (A7o a3 a6)))
noncomputable abbrev A92:E8 A7C→Bool:=fun d=>X8 d.1.1 d.1.2.1 d.1.2.2.1 d.1.2.2.2.1 d.1.2.2.2.2.1 d.1.2.2.2.2.2.1 d.2.1
theorem B7z:A7j true G44 aLn Try.f34 A7C A92 B14:=by
 rintro ⟨⟨a0,⟨a1,⟨a2,⟨a3,⟨a4,⟨a5,_⟩⟩⟩⟩⟩⟩,⟨a6,_⟩⟩ hp
 change X8 a0 a1 a2 a3 a4 a5 a6=true at hp
 unfold X8 at hp
 refine Eq.trans (b:=(let z1:=A7o a3 a6;let z2:=A7P (-1:Int);let z3:=A9l a4 z1;cond (A7w a3 a6) (cond (decide (z1<(0:Int))) (some z2) (cond (O3 a4 z1) (cond (decide (z3<(0:Int))) (some z2) (some (A7P z3))) none)) none)) (by kernel_rfl) ?_
 exact (A7k hp fun hp=>(Q5 A7P hp (fun hp=>rfl) (fun hp=>(A7m hp fun _h=>(P1 A7P (fun _h=>rfl) (fun _h=>rfl))))))
theorem B8E:aPP 34 (A2d A7C A92 B14):=pcD true G44 hlz B7z
noncomputable def S45:Tab:=Tab.add S44 34 (lift (A2d A7C A92 B14))
noncomputable def C1O:FuncId→Bool:=qadd C1N 34
theorem G45:aPG S45 C1O:=G44.addQ B8E (cbl Try.f34) (fun _=>rfl)

abbrev C2z:List Sh:=.junk::C14
abbrev u39:=((),u38)
abbrev C2n:List AV:=.junk::C1W
abbrev A8O:List PSh:=[.t tq8,.t (.int .i64)]
abbrev M5:SS:=⟨(.t false tq8::tI::.junk::.junk::.junk::tI::C1b),[]⟩
abbrev A0b:SS:=⟨(.junk::.junk::.junk::.junk::tI::C0V),[]⟩
abbrev B2t:SS:=⟨(.junk::tI::C2z),[]⟩
noncomputable def B39 (x0:Lq1) (x1 x5:Int):RT M5.den:=let z1:=x0.getD x5.toNat ((0:Int),((0:Int),[]));let z3:=decide (0≤x5∧x5<(x0.length:Int));let z4:=wI (x1+(1:Int));let z2:=wI (z4+(1:Int));let z5:=R6 ((z1.2).2) z2;(.br (decide (x5<(x0.length:Int))) (.br z3 (.br ((z1.1) != x1) (.done .ret A0b (((),(),(),(),(-1:Int),u36),())) (.br z3 (.br (((z1.2).1) != z4) (.done .ret A0b (((),(),(),(),(-1:Int),u36),())) (.br z3 (.br (J0 ((z1.2).2) z2) (.br (decide (z5<(0:Int))) (.done .ret A0b (((),(),(),(),(-1:Int),u36),())) (.next ((x0,z5,(),(),(),wI (x5+(1:Int)),u35),()))) .fail) .fail)) .fail)) .fail) (.done (.exit 0) B2t (((),x1,u39),())))
abbrev A8y:=(Lq1)×(Int)×(Int)
abbrev Y5:=Nat×(Int)×(Int)
def V9:Y5:=(99,((0:Int):Int),((0:Int):Int))
noncomputable def B31 (x0:Lq1) (x1 x5:Int):A8y ⊕ Y5:=let z1:=x0.getD x5.toNat ((0:Int),((0:Int),[]));let z3:=decide (0≤x5∧x5<(x0.length:Int));let z4:=wI (x1+(1:Int));let z2:=wI (z4+(1:Int));let z5:=R6 ((z1.2).2) z2;(cond (decide (x5<(x0.length:Int))) (cond z3 (cond ((z1.1) != x1) (.inr (0,(-1:Int),((0:Int):Int))) (cond z3 (cond (((z1.2).1) != z4) (.inr (0,(-1:Int),((0:Int):Int))) (cond z3 (cond (J0 ((z1.2).2) z2) (cond (decide (z5<(0:Int))) (.inr (0,(-1:Int),((0:Int):Int))) (.inl (x0,z5,wI (x5+(1:Int))))) (.inr V9)) (.inr V9))) (.inr V9))) (.inr V9)) (.inr (1,((0:Int):Int),x1)))
noncomputable def W3 (x0:Lq1) (x1 x5:Int):Y5:=itX (fun v:A8y=>B31 v.1 v.2.1 v.2.2) V9 (x0,x1,x5)
noncomputable def A9Q (a:Y5):CT:=(.br (a.1==0) (.done .ret A0b (((),(),(),(),a.2.1,u36),())) (.br (a.1==1) (.done (.exit 0) B2t (((),a.2.2,u39),())) .fail))
noncomputable def B7V (x0:Lq1) (x1 x5:Int):CT:=A9Q (W3 x0 x1 x5)
noncomputable abbrev B0e:M5.den→RT M5.den:=(fun d=>B39 d.1.1 d.1.2.1 d.1.2.2.2.2.2.1)
noncomputable def B1o:Code:=((D4 0 (A1T Try.f68)).getD 0 (0,.skip)).2
noncomputable abbrev B3O (v:A8y):M5.den:=((v.1,v.2.1,(),(),(),v.2.2,u35),())
theorem B7u:(∀ v:A8y,(B39 v.1 v.2.1 v.2.2).val=A6u B3O A9Q (B31 v.1 v.2.1 v.2.2))∧∀ a:Y5,CEnd M5.den (A9Q a):=⟨fun v=>by repeat' first | apply A7n | rfl,fun a=>(A7c aCD (A7c aCD A7e))⟩
noncomputable def B3x (x0:Lq1) (x1 x5:Int):Option (Ex×St):=let z1:=x0.getD x5.toNat ((0:Int),((0:Int),[]));let z2:=(⟨(.junk::.junk::.junk::.junk::(ti (-1:Int))::C0G),[],0,[]⟩:St);let z4:=decide (0≤x5∧x5<(x0.length:Int));let z5:=wI (x1+(1:Int));let z3:=wI (z5+(1:Int));let z6:=R6 ((z1.2).2) z3;(cond (decide (x5<(x0.length:Int))) (cond z4 (cond ((z1.1) != x1) (some (.ret,z2)) (cond z4 (cond (((z1.2).1) != z5) (some (.ret,z2)) (cond z4 (cond (J0 ((z1.2).2) z3) (cond (decide (z6<(0:Int))) (some (.ret,z2)) (some (.normal,(⟨((.t false tq8 x0)::(ti z6)::.junk::.junk::.junk::(ti (wI (x5+(1:Int))))::C04),[],0,[]⟩:St)))) none) none)) none)) none) (some ((.exit 0),(⟨(.junk::(ti x1)::C2n),[],0,[]⟩:St))))
theorem B6y:RdA G45 aLn 0 B1o M5 0 [] (kepts [4] [(0,[1])]) (fun d=>B3x d.1.1 d.1.2.1 d.1.2.2.2.2.2.1):=by
 intro d
 kernel_rfl
theorem B6F:∀ d:M5.den,(fun d=>B3x d.1.1 d.1.2.1 d.1.2.2.2.2.2.1) d=(B0e d).opt 0 []:=by
 intro d
 kernel_rfl
noncomputable abbrev B2P:St→Option Tree:=M5.say 0 [] [] (fun d=>B7V d.1.1 d.1.2.1 d.1.2.2.2.2.2.1)
theorem B7c:aPL B2P B1o:=SS.wp2 hlz [] B0e B6y B6F _ (fun d=>Runs.ofI2 (step:=B0e) B3O B7u rfl (d.1.1,d.1.2.1,d.1.2.2.2.2.2.1))
noncomputable def A7q (a0:Lq1) (a1:Int):Int:=let z1:=W3 a0 a1 (0:Int);(cond (z1.1==0) (z1.2.1) (z1.2.2))
noncomputable abbrev B0C (r:Int):AV×List AObj:=((ti r),[])
noncomputable abbrev B3m:E8 A8O→AV×List AObj:=fun d=>B0C (A7q d.1 d.2.1)
noncomputable def N3 (a0:Lq1) (a1:Int):Bool:=let z1:=W3 a0 a1 (0:Int);cond (z1.1==0) true (z1.1==1)
noncomputable abbrev B00:E8 A8O→Bool:=fun d=>N3 d.1 d.2.1
noncomputable abbrev B9e:Nat→St→Option Tree:=fun b=>match b with | 0=>B2P | _=>fun _=>none
theorem B8j:A7j true G45 (B9e) Try.f68 A8O B00 B3m:=by
 rintro ⟨a0,⟨a1,_⟩⟩ hp
 change N3 a0 a1=true at hp
 unfold N3 at hp
 refine Eq.trans (b:=(let z1:=W3 a0 a1 (0:Int);cond (z1.1==0) (some (B0C (z1.2.1))) (cond (z1.1==1) (some (B0C (z1.2.2))) none))) (by kernel_rfl) ?_
 exact (Q5 B0C hp (fun hp=>rfl) (fun hp=>(A7m hp fun _h=>rfl)))
theorem B9v:aPP 68 (A2d A8O B00 B3m):=pcD true G45 (hl1 (i:=0) (by kernel_rfl) B7c) B8j
noncomputable def S46:Tab:=Tab.add S45 68 (lift (A2d A8O B00 B3m))
noncomputable def C1P:FuncId→Bool:=qadd C1O 68
theorem G46:aPG S46 C1P:=G45.addQ B9v (cbl Try.f68) (fun _=>rfl)


noncomputable def J6 (x0:LBBe) (i:Nat) (k:Int):Int ⊕ Unit:=(cond (!(((x0.getD i (bE,bE)).1).toList==(H9 k).toList)) (.inr ()) (cond (!(((x0.getD i (bE,bE)).2).toList==(H9 (wI (k+(1:Int)))).toList)) (.inr ()) (.inl (wI ((wI (k+(1:Int)))+(1:Int))))))
abbrev A7D:List PSh:=[.t B8r,.t (.int .i64)]
abbrev K7:SS:=⟨(.t false B8r::tI::.junk::.junk::.junk::tI::C0H),[]⟩
abbrev N5:SS:=⟨(.junk::.junk::.junk::.junk::tI::C0T),[]⟩
abbrev A73:SS:=⟨(.junk::tI::C12),[]⟩
noncomputable def A89 (x0:LBBe) (x1 x5:Int):RT K7.den:=let z1:=wI (x1+(1:Int));let z2:=decide (0≤x5∧x5<(x0.length:Int));let z3:=x0.getD x5.toNat (bE,bE);(.br (decide (x5<(x0.length:Int))) (.br z2 (.br (H8 x1) (.br (!((z3.1).toList==(H9 x1).toList)) (.done .ret N5 (((),(),(),(),(-1:Int),u29),())) (.br z2 (.br (H8 z1) (.br (!((z3.2).toList==(H9 z1).toList)) (.done .ret N5 (((),(),(),(),(-1:Int),u29),())) (.next ((x0,wI (z1+(1:Int)),(),(),(),wI (x5+(1:Int)),u28),()))) .fail) .fail)) .fail) .fail) (.done (.exit 0) A73 (((),x1,u32),())))
noncomputable def V6 (x0:LBBe) (x1 x5:Int):CT:=(.br (decide (0≤x5)&&(decide (0≤x1∧x1≤100000*(x5+100))&&okL x0)) (.br (A7f (loopN (J6 x0) (x0.length - x5.toNat) x5.toNat x1)) (.done (.exit 0) A73 (((),(A68 (-1) (loopN (J6 x0) (x0.length - x5.toNat) x5.toNat x1)),u32),())) (.done .ret N5 (((),(),(),(),(-1:Int),u29),()))) .fail)
noncomputable abbrev M0:K7.den→RT K7.den:=(fun d=>A89 d.1.1 d.1.2.1 d.1.2.2.2.2.2.1)
noncomputable abbrev A0h (x0:LBBe) (x1 x5:Int):K7.den:=((x0,x1,(),(),(),x5,u28),())
noncomputable def B0s:Code:=((D4 0 (A1T Try.f69)).getD 0 (0,.skip)).2
theorem B6S (x0:LBBe) (x1 x5:Int):(V6 x0 x1 x5).val (D:=K7.den)=.fail∨Runs M0 (A0h x0 x1 x5) (V6 x0 x1 x5).val:=by
 cases hc:(decide (0≤x5)&&(decide (0≤x1∧x1≤100000*(x5+100))&&okL x0)) with
 | false=>left;simp only [V6,CT.val,hc,cond_false]
 | true =>
  right
  simp only [V6,CT.val,hc,cond_true]
  simp only [Bool.and_eq_true,decide_eq_true_eq] at hc
  obtain ⟨i,rfl⟩:=Int.eq_ofNat_of_zero_le hc.1
  have hs:=A69 hc.2.2
  have hk:=hc.2.1
  simp only [Int.toNat_natCast]
  have h:=Runs.loopN (step:=M0) (fun j b=>A0h x0 b (j:Int)) (fun i b=>0≤b∧b≤100000*((i:Int)+100)) (x0.length) (J6 x0)
   (fin:=fun b=>((.done (.exit 0) A73 (((),b,u32),())):CT).val) (bad:=fun _=>((.done .ret N5 (((),(),(),(),(-1:Int),u29),())):CT).val)
   (fun i b hi hb=>?_) (fun i b hi hb=>?_) (x0.length - i) i x1 rfl hk
  ·revert h
   cases loopN (J6 x0) (x0.length - i) i x1 with
   | inl b=>exact id
   | inr c=>exact id
  ·revert hb
   generalize b=k
   intro hb
   have w1:wI (k+(1:Int))=k+(1:Int):=A6z (by omega) (by omega)
   have w2:wI (k+(1:Int)+(1:Int))=k+(1:Int)+(1:Int):=A6z (by omega) (by omega)
   have e0:(decide (0≤(i:Int)∧(i:Int)<(x0.length:Int)))=true:=decide_eq_true (by omega)
   have e1:(H8 k)=true:=by simp only [H8,w1,w2];exact decide_eq_true (by omega)
   have e2:(decide (0≤(i:Int)∧(i:Int)<(x0.length:Int)))=true:=decide_eq_true (by omega)
   have e3:(H8 (wI (k+(1:Int))))=true:=by simp only [H8,w1,w2];exact decide_eq_true (by omega)
   have h1:decide ((i:Int)<(x0.length:Int))=true:=decide_eq_true (by omega)
   have e:(M0 (A0h x0 k (i:Int))).val=(cond (!(((x0.getD i ((⟨#[]⟩:ByteArray),(⟨#[]⟩:ByteArray))).1).toList==(H9 k).toList)) ((.done .ret N5 (((),(),(),(),(-1:Int),u29),())):CT).val (cond (!(((x0.getD i ((⟨#[]⟩:ByteArray),(⟨#[]⟩:ByteArray))).2).toList==(H9 (wI (k+(1:Int)))).toList)) ((.done .ret N5 (((),(),(),(),(-1:Int),u29),())):CT).val (.next (A0h x0 (wI ((wI (k+(1:Int)))+(1:Int))) ((i+1:Nat):Int))))):=by
    simp only [M0,A89,RT.val,h1,e0,e1,e2,e3,cond_true,A7g i (by omega),Int.toNat_natCast]
    rfl
   cases g0:(!(((x0.getD i ((⟨#[]⟩:ByteArray),(⟨#[]⟩:ByteArray))).1).toList==(H9 k).toList)) with
   | true=>exact .inr ⟨(),_,_,_,by simp only [J6,g0,cond_true,cond_false],by rw [e,g0];rfl,rfl,by simp⟩
   | false =>
    cases g1:(!(((x0.getD i ((⟨#[]⟩:ByteArray),(⟨#[]⟩:ByteArray))).2).toList==(H9 (wI (k+(1:Int)))).toList)) with
    | true=>exact .inr ⟨(),_,_,_,by simp only [J6,g0,g1,cond_true,cond_false],by rw [e,g0,g1];rfl,rfl,by simp⟩
    | false =>
     exact .inl ⟨wI ((wI (k+(1:Int)))+(1:Int)),by simp only [J6,g0,g1,cond_false],by rw [w1,w2];omega,by rw [e,g0,g1];rfl⟩
  ·have h1:decide ((i:Int)<(x0.length:Int))=false:=decide_eq_false (by omega)
   exact ⟨by simp only [M0,A89,RT.val,h1,cond_false];rfl,_,_,_,rfl,by simp⟩
noncomputable def B2B (x0:LBBe) (x1 x5:Int):Option (Ex×St):=let z1:=(⟨(.junk::.junk::.junk::.junk::(ti (-1:Int))::C03),[],0,[]⟩:St);let z2:=wI (x1+(1:Int));let z3:=decide (0≤x5∧x5<(x0.length:Int));let z4:=x0.getD x5.toNat (bE,bE);(cond (decide (x5<(x0.length:Int))) (cond z3 (cond (H8 x1) (cond (!((z4.1).toList==(H9 x1).toList)) (some (.ret,z1)) (cond z3 (cond (H8 z2) (cond (!((z4.2).toList==(H9 z2).toList)) (some (.ret,z1)) (some (.normal,(⟨((.t false B8r x0)::(ti (wI (z2+(1:Int))))::.junk::.junk::.junk::(ti (wI (x5+(1:Int))))::C1U),[],0,[]⟩:St)))) none) none)) none) none) (some ((.exit 0),(⟨(.junk::(ti x1)::C1V),[],0,[]⟩:St))))
theorem B5Y:RdA G46 aLn 0 B0s K7 0 [] (kepts [4] [(0,[1])]) (fun d=>B2B d.1.1 d.1.2.1 d.1.2.2.2.2.2.1):=by
 intro d
 kernel_rfl
theorem B52:∀ d:K7.den,(fun d=>B2B d.1.1 d.1.2.1 d.1.2.2.2.2.2.1) d=(M0 d).opt 0 []:=by
 intro d
 kernel_rfl
noncomputable abbrev B1O:St→Option Tree:=K7.say 0 [] [] (fun d=>V6 d.1.1 d.1.2.1 d.1.2.2.2.2.2.1)
theorem B6p:aPL B1O B0s:=SS.wp2 hlz [] M0 B5Y B52 _ (fun d=>B6S d.1.1 d.1.2.1 d.1.2.2.2.2.2.1)
noncomputable def A9Z (a0:LBBe) (a1:Int):Int:=let z1:=loopN (J6 a0) (a0.length - (0:Int).toNat) (0:Int).toNat a1;(cond (A7f z1) (A68 (-1) z1) (-1:Int))
noncomputable abbrev A9h (r:Int):AV×List AObj:=((ti r),[])
noncomputable abbrev B15:E8 A7D→AV×List AObj:=fun d=>A9h (A9Z d.1 d.2.1)
noncomputable def P3 (a0:LBBe) (a1:Int):Bool:=okL a0&&decide (0≤a1∧a1≤10000000)
noncomputable abbrev A93:E8 A7D→Bool:=fun d=>P3 d.1 d.2.1
noncomputable abbrev B8v:Nat→St→Option Tree:=fun b=>match b with | 0=>B1O | _=>fun _=>none
theorem B7A:A7j true G46 (B8v) Try.f69 A7D A93 B15:=by
 rintro ⟨a0,⟨a1,_⟩⟩ hp
 change P3 a0 a1=true at hp
 unfold P3 at hp
 refine Eq.trans (b:=(let z1:=loopN (J6 a0) (a0.length - (0:Int).toNat) (0:Int).toNat a1;cond (decide (0≤(0:Int))&&(decide (0≤a1∧a1≤100000*((0:Int)+100))&&okL a0)) (cond (A7f z1) (some (A9h (A68 (-1) z1))) (some (A9h (-1:Int)))) none)) (by kernel_rfl) ?_
 exact (A7m (by first | rfl | decide | exact hp | (simp only [Bool.and_eq_true] at hp;simp only [hp];done) | (simp [*];done) | (simp [okL] at hp;simp [okL,MAXB];omega) | (simp_all;done) | (simp at *;omega)) (fun _h=>(P1 A9h (fun _h=>rfl) (fun _h=>rfl))))
theorem B8F:aPP 69 (A2d A7D A93 B15):=pcD true G46 (hl1 (i:=0) (by kernel_rfl) B6p) B7A
noncomputable def S47:Tab:=Tab.add S46 69 (lift (A2d A7D A93 B15))
noncomputable def C1Q:FuncId→Bool:=qadd C1P 69
theorem G47:aPG S47 C1Q:=G46.addQ B8F (cbl Try.f69) (fun _=>rfl)

abbrev C17:List Sh:=.junk::.junk::.junk::.junk::C16
abbrev C1e:List Sh:=.junk::C17
abbrev C19:List Sh:=.junk::.junk::.junk::C1e
abbrev u54:=((),(),(),(),(),u49)
abbrev u53:=((),(),(),(),u49)
abbrev u57:=((),(),(),u54)
abbrev C0R:List AV:=.junk::.junk::.junk::.junk::.junk::C07
abbrev C2r:List AV:=.junk::.junk::.junk::.junk::C07
abbrev C1Y:List AV:=.junk::.junk::.junk::C0R
abbrev Z0:List PSh:=[.t tq4,.t (.int .i64)]
abbrev K0:SS:=⟨(.t false tq4::tI::.junk::.junk::.junk::tI::C17),[]⟩
abbrev L2:SS:=⟨(.junk::.junk::.junk::.junk::tI::C1e),[]⟩
abbrev B0l:SS:=⟨(.junk::tI::C19),[]⟩
noncomputable def B1V (x0:LT2) (x1 x5:Int):RT K0.den:=let z4:=decide (0≤x5∧x5<(x0.length:Int));let z5:=x0.getD x5.toNat ((0:Int),([],((0:Int),([],[]))));let z1:=z5.2;let z6:=wI (x1+(1:Int));let z3:=A7q (z1.1) z6;let z7:=wI (z3+(1:Int));let z2:=A9Z (((z1.2).2).1) z7;let z8:=A7q (((z1.2).2).2) z2;(.br (decide (x5<(x0.length:Int))) (.br z4 (.br ((z5.1) != x1) (.done .ret L2 (((),(),(),(),(-1:Int),u54),())) (.br z4 (.br (N3 (z1.1) z6) (.br (decide (z3<(0:Int))) (.done .ret L2 (((),(),(),(),(-1:Int),u54),())) (.br z4 (.br (((z1.2).1) != z3) (.done .ret L2 (((),(),(),(),(-1:Int),u54),())) (.br z4 (.br (P3 (((z1.2).2).1) z7) (.br (decide (z2<(0:Int))) (.done .ret L2 (((),(),(),(),(-1:Int),u54),())) (.br z4 (.br (N3 (((z1.2).2).2) z2) (.br (decide (z8<(0:Int))) (.done .ret L2 (((),(),(),(),(-1:Int),u54),())) (.next ((x0,z8,(),(),(),wI (x5+(1:Int)),u53),()))) .fail) .fail)) .fail) .fail)) .fail)) .fail) .fail)) .fail) (.done (.exit 0) B0l (((),x1,u57),())))
abbrev A0e:=LT2×(Int)×(Int)
abbrev T7:=Nat×(Int)×(Int)
def I8:T7:=(99,((0:Int):Int),((0:Int):Int))
noncomputable def Y0 (x0:LT2) (x1 x5:Int):A0e ⊕ T7:=let z4:=decide (0≤x5∧x5<(x0.length:Int));let z5:=x0.getD x5.toNat ((0:Int),([],((0:Int),([],[]))));let z1:=z5.2;let z6:=wI (x1+(1:Int));let z3:=A7q (z1.1) z6;let z7:=wI (z3+(1:Int));let z2:=A9Z (((z1.2).2).1) z7;let z8:=A7q (((z1.2).2).2) z2;(cond (decide (x5<(x0.length:Int))) (cond z4 (cond ((z5.1) != x1) (.inr (0,(-1:Int),((0:Int):Int))) (cond z4 (cond (N3 (z1.1) z6) (cond (decide (z3<(0:Int))) (.inr (0,(-1:Int),((0:Int):Int))) (cond z4 (cond (((z1.2).1) != z3) (.inr (0,(-1:Int),((0:Int):Int))) (cond z4 (cond (P3 (((z1.2).2).1) z7) (cond (decide (z2<(0:Int))) (.inr (0,(-1:Int),((0:Int):Int))) (cond z4 (cond (N3 (((z1.2).2).2) z2) (cond (decide (z8<(0:Int))) (.inr (0,(-1:Int),((0:Int):Int))) (.inl (x0,z8,wI (x5+(1:Int))))) (.inr I8)) (.inr I8))) (.inr I8)) (.inr I8))) (.inr I8))) (.inr I8)) (.inr I8))) (.inr I8)) (.inr (1,((0:Int):Int),x1)))
noncomputable def R1 (x0:LT2) (x1 x5:Int):T7:=itX (fun v:A0e=>Y0 v.1 v.2.1 v.2.2) I8 (x0,x1,x5)
noncomputable def A77 (a:T7):CT:=(.br (a.1==0) (.done .ret L2 (((),(),(),(),a.2.1,u54),())) (.br (a.1==1) (.done (.exit 0) B0l (((),a.2.2,u57),())) .fail))
noncomputable def B6l (x0:LT2) (x1 x5:Int):CT:=A77 (R1 x0 x1 x5)
noncomputable abbrev A8n:K0.den→RT K0.den:=(fun d=>B1V d.1.1 d.1.2.1 d.1.2.2.2.2.2.1)
noncomputable def A9J:Code:=((D4 0 (A1T Try.f35)).getD 0 (0,.skip)).2
noncomputable abbrev B1H (v:A0e):K0.den:=((v.1,v.2.1,(),(),(),v.2.2,u53),())
theorem B56:(∀ v:A0e,(B1V v.1 v.2.1 v.2.2).val=A6u B1H A77 (Y0 v.1 v.2.1 v.2.2))∧∀ a:T7,CEnd K0.den (A77 a):=⟨fun v=>by repeat' first | apply A7n | rfl,fun a=>(A7c aCD (A7c aCD A7e))⟩
noncomputable def B1C (x0:LT2) (x1 x5:Int):Option (Ex×St):=let z3:=(⟨(.junk::.junk::.junk::.junk::(ti (-1:Int))::C0R),[],0,[]⟩:St);let z5:=decide (0≤x5∧x5<(x0.length:Int));let z6:=x0.getD x5.toNat ((0:Int),([],((0:Int),([],[]))));let z1:=z6.2;let z7:=wI (x1+(1:Int));let z4:=A7q (z1.1) z7;let z8:=wI (z4+(1:Int));let z2:=A9Z (((z1.2).2).1) z8;let z9:=A7q (((z1.2).2).2) z2;(cond (decide (x5<(x0.length:Int))) (cond z5 (cond ((z6.1) != x1) (some (.ret,z3)) (cond z5 (cond (N3 (z1.1) z7) (cond (decide (z4<(0:Int))) (some (.ret,z3)) (cond z5 (cond (((z1.2).1) != z4) (some (.ret,z3)) (cond z5 (cond (P3 (((z1.2).2).1) z8) (cond (decide (z2<(0:Int))) (some (.ret,z3)) (cond z5 (cond (N3 (((z1.2).2).2) z2) (cond (decide (z9<(0:Int))) (some (.ret,z3)) (some (.normal,(⟨((.t false tq4 x0)::(ti z9)::.junk::.junk::.junk::(ti (wI (x5+(1:Int))))::C2r),[],0,[]⟩:St)))) none) none)) none) none)) none)) none) none)) none) (some ((.exit 0),(⟨(.junk::(ti x1)::C1Y),[],0,[]⟩:St))))
theorem B5p:RdA G47 aLn 0 A9J K0 0 [] (kepts [4] [(0,[1])]) (fun d=>B1C d.1.1 d.1.2.1 d.1.2.2.2.2.2.1):=by
 intro d
 kernel_rfl
theorem B5t:∀ d:K0.den,(fun d=>B1C d.1.1 d.1.2.1 d.1.2.2.2.2.2.1) d=(A8n d).opt 0 []:=by
 intro d
 kernel_rfl
noncomputable abbrev B0M:St→Option Tree:=K0.say 0 [] [] (fun d=>B6l d.1.1 d.1.2.1 d.1.2.2.2.2.2.1)
theorem B5O:aPL B0M A9J:=SS.wp2 hlz [] A8n B5p B5t _ (fun d=>Runs.ofI2 (step:=A8n) B1H B56 rfl (d.1.1,d.1.2.1,d.1.2.2.2.2.2.1))
noncomputable def A7r (a0:LT2) (a1:Int):Int:=let z1:=R1 a0 a1 (0:Int);(cond (z1.1==0) (z1.2.1) (z1.2.2))
noncomputable abbrev A8C (r:Int):AV×List AObj:=((ti r),[])
noncomputable abbrev B0R:E8 Z0→AV×List AObj:=fun d=>A8C (A7r d.1 d.2.1)
noncomputable def Q2 (a0:LT2) (a1:Int):Bool:=let z1:=R1 a0 a1 (0:Int);cond (z1.1==0) true (z1.1==1)
noncomputable abbrev A85:E8 Z0→Bool:=fun d=>Q2 d.1 d.2.1
noncomputable abbrev B7L:Nat→St→Option Tree:=fun b=>match b with | 0=>B0M | _=>fun _=>none
theorem B6L:A7j true G47 (B7L) Try.f35 Z0 A85 B0R:=by
 rintro ⟨a0,⟨a1,_⟩⟩ hp
 change Q2 a0 a1=true at hp
 unfold Q2 at hp
 refine Eq.trans (b:=(let z1:=R1 a0 a1 (0:Int);cond (z1.1==0) (some (A8C (z1.2.1))) (cond (z1.1==1) (some (A8C (z1.2.2))) none))) (by kernel_rfl) ?_
 exact (Q5 A8C hp (fun hp=>rfl) (fun hp=>(A7m hp fun _h=>rfl)))
theorem B70:aPP 35 (A2d Z0 A85 B0R):=pcD true G47 (hl1 (i:=0) (by kernel_rfl) B5O) B6L
noncomputable def S48:Tab:=Tab.add S47 35 (lift (A2d Z0 A85 B0R))
noncomputable def C1R:FuncId→Bool:=qadd C1Q 35
theorem G48:aPG S48 C1R:=G47.addQ B70 (cbl Try.f35) (fun _=>rfl)

abbrev C18:List Sh:=.junk::C1e
abbrev C2D:List Sh:=.junk::C18
abbrev C2E:List Sh:=.junk::.junk::C19
abbrev u56:=((),(),u54)
abbrev u55:=((),u54)
abbrev u59:=((),(),u57)
abbrev C2t:List AV:=.junk::.junk::C0R
abbrev C2s:List AV:=.junk::C0R
abbrev C2u:List AV:=.junk::.junk::C1Y
abbrev A7E:List PSh:=[.t tq7,.t (.int .i64)]
abbrev K8:SS:=⟨(.t false tq7::tI::.junk::.junk::.junk::tI::C18),[]⟩
abbrev N6:SS:=⟨(.junk::.junk::.junk::.junk::tI::C2D),[]⟩
abbrev B1c:SS:=⟨(.junk::tI::C2E),[]⟩
noncomputable def B2X (x0:LT3) (x1 x5:Int):RT K8.den:=let z1:=x0.getD x5.toNat ((0:Int),((0:Int),((0:Int),([],false))));let z3:=decide (0≤x5∧x5<(x0.length:Int));let z6:=wI (x1+(1:Int));let z4:=wI (z6+(1:Int));let z2:=wI (z4+(1:Int));let z5:=R6 ((((z1.2).2).2).1) z2;(.br (decide (x5<(x0.length:Int))) (.br z3 (.br ((z1.1) != x1) (.done .ret N6 (((),(),(),(),(-1:Int),u56),())) (.br z3 (.br (((z1.2).1) != z6) (.done .ret N6 (((),(),(),(),(-1:Int),u56),())) (.br z3 (.br ((((z1.2).2).1) != z4) (.done .ret N6 (((),(),(),(),(-1:Int),u56),())) (.br z3 (.br (J0 ((((z1.2).2).2).1) z2) (.br (decide (z5<(0:Int))) (.done .ret N6 (((),(),(),(),(-1:Int),u56),())) (.br z3 (.br (!(((((z1.2).2).2).2)==((Int.tmod z5 (3:Int))==(0:Int)))) (.done .ret N6 (((),(),(),(),(-1:Int),u56),())) (.next ((x0,wI (z5+(1:Int)),(),(),(),wI (x5+(1:Int)),u55),()))) .fail)) .fail) .fail)) .fail)) .fail)) .fail) (.done (.exit 0) B1c (((),x1,u59),())))
abbrev A7L:=LT3×(Int)×(Int)
abbrev U9:=Nat×(Int)×(Int)
def L8:U9:=(99,((0:Int):Int),((0:Int):Int))
noncomputable def B2V (x0:LT3) (x1 x5:Int):A7L ⊕ U9:=let z1:=x0.getD x5.toNat ((0:Int),((0:Int),((0:Int),([],false))));let z3:=decide (0≤x5∧x5<(x0.length:Int));let z6:=wI (x1+(1:Int));let z4:=wI (z6+(1:Int));let z2:=wI (z4+(1:Int));let z5:=R6 ((((z1.2).2).2).1) z2;(cond (decide (x5<(x0.length:Int))) (cond z3 (cond ((z1.1) != x1) (.inr (0,(-1:Int),((0:Int):Int))) (cond z3 (cond (((z1.2).1) != z6) (.inr (0,(-1:Int),((0:Int):Int))) (cond z3 (cond ((((z1.2).2).1) != z4) (.inr (0,(-1:Int),((0:Int):Int))) (cond z3 (cond (J0 ((((z1.2).2).2).1) z2) (cond (decide (z5<(0:Int))) (.inr (0,(-1:Int),((0:Int):Int))) (cond z3 (cond (!(((((z1.2).2).2).2)==((Int.tmod z5 (3:Int))==(0:Int)))) (.inr (0,(-1:Int),((0:Int):Int))) (.inl (x0,wI (z5+(1:Int)),wI (x5+(1:Int))))) (.inr L8))) (.inr L8)) (.inr L8))) (.inr L8))) (.inr L8))) (.inr L8)) (.inr (1,((0:Int):Int),x1)))
noncomputable def U1 (x0:LT3) (x1 x5:Int):U9:=itX (fun v:A7L=>B2V v.1 v.2.1 v.2.2) L8 (x0,x1,x5)
noncomputable def A82 (a:U9):CT:=(.br (a.1==0) (.done .ret N6 (((),(),(),(),a.2.1,u56),())) (.br (a.1==1) (.done (.exit 0) B1c (((),a.2.2,u59),())) .fail))
noncomputable def B6U (x0:LT3) (x1 x5:Int):CT:=A82 (U1 x0 x1 x5)
noncomputable abbrev A86:K8.den→RT K8.den:=(fun d=>B2X d.1.1 d.1.2.1 d.1.2.2.2.2.2.1)
noncomputable def B0t:Code:=((D4 0 (A1T Try.f36)).getD 0 (0,.skip)).2
noncomputable abbrev B2I (v:A7L):K8.den:=((v.1,v.2.1,(),(),(),v.2.2,u55),())
theorem B6I:(∀ v:A7L,(B2X v.1 v.2.1 v.2.2).val=A6u B2I A82 (B2V v.1 v.2.1 v.2.2))∧∀ a:U9,CEnd K8.den (A82 a):=⟨fun v=>by repeat' first | apply A7n | rfl,fun a=>(A7c aCD (A7c aCD A7e))⟩
noncomputable def B2C (x0:LT3) (x1 x5:Int):Option (Ex×St):=let z1:=x0.getD x5.toNat ((0:Int),((0:Int),((0:Int),([],false))));let z3:=(⟨(.junk::.junk::.junk::.junk::(ti (-1:Int))::C2t),[],0,[]⟩:St);let z4:=decide (0≤x5∧x5<(x0.length:Int));let z7:=wI (x1+(1:Int));let z5:=wI (z7+(1:Int));let z2:=wI (z5+(1:Int));let z6:=R6 ((((z1.2).2).2).1) z2;(cond (decide (x5<(x0.length:Int))) (cond z4 (cond ((z1.1) != x1) (some (.ret,z3)) (cond z4 (cond (((z1.2).1) != z7) (some (.ret,z3)) (cond z4 (cond ((((z1.2).2).1) != z5) (some (.ret,z3)) (cond z4 (cond (J0 ((((z1.2).2).2).1) z2) (cond (decide (z6<(0:Int))) (some (.ret,z3)) (cond z4 (cond (!(((((z1.2).2).2).2)==((Int.tmod z6 (3:Int))==(0:Int)))) (some (.ret,z3)) (some (.normal,(⟨((.t false tq7 x0)::(ti (wI (z6+(1:Int))))::.junk::.junk::.junk::(ti (wI (x5+(1:Int))))::C2s),[],0,[]⟩:St)))) none)) none) none)) none)) none)) none) (some ((.exit 0),(⟨(.junk::(ti x1)::C2u),[],0,[]⟩:St))))
theorem B5Z:RdA G48 aLn 0 B0t K8 0 [] (kepts [4] [(0,[1])]) (fun d=>B2C d.1.1 d.1.2.1 d.1.2.2.2.2.2.1):=by
 intro d
 kernel_rfl
theorem B53:∀ d:K8.den,(fun d=>B2C d.1.1 d.1.2.1 d.1.2.2.2.2.2.1) d=(A86 d).opt 0 []:=by
 intro d
 kernel_rfl
noncomputable abbrev B1P:St→Option Tree:=K8.say 0 [] [] (fun d=>B6U d.1.1 d.1.2.1 d.1.2.2.2.2.2.1)
theorem B6q:aPL B1P B0t:=SS.wp2 hlz [] A86 B5Z B53 _ (fun d=>Runs.ofI2 (step:=A86) B2I B6I rfl (d.1.1,d.1.2.1,d.1.2.2.2.2.2.1))
noncomputable def O1 (a0:LT3) (a1:Int):Int:=let z1:=U1 a0 a1 (0:Int);(cond (z1.1==0) (z1.2.1) (z1.2.2))
noncomputable abbrev A9i (r:Int):AV×List AObj:=((ti r),[])
noncomputable abbrev B16:E8 A7E→AV×List AObj:=fun d=>A9i (O1 d.1 d.2.1)
noncomputable def P4 (a0:LT3) (a1:Int):Bool:=let z1:=U1 a0 a1 (0:Int);cond (z1.1==0) true (z1.1==1)
noncomputable abbrev A94:E8 A7E→Bool:=fun d=>P4 d.1 d.2.1
noncomputable abbrev B8w:Nat→St→Option Tree:=fun b=>match b with | 0=>B1P | _=>fun _=>none
theorem B7B:A7j true G48 (B8w) Try.f36 A7E A94 B16:=by
 rintro ⟨a0,⟨a1,_⟩⟩ hp
 change P4 a0 a1=true at hp
 unfold P4 at hp
 refine Eq.trans (b:=(let z1:=U1 a0 a1 (0:Int);cond (z1.1==0) (some (A9i (z1.2.1))) (cond (z1.1==1) (some (A9i (z1.2.2))) none))) (by kernel_rfl) ?_
 exact (Q5 A9i hp (fun hp=>rfl) (fun hp=>(A7m hp fun _h=>rfl)))
theorem B8G:aPP 36 (A2d A7E A94 B16):=pcD true G48 (hl1 (i:=0) (by kernel_rfl) B6q) B7B
noncomputable def S49:Tab:=Tab.add S48 36 (lift (A2d A7E A94 B16))
noncomputable def C1S:FuncId→Bool:=qadd C1R 36
theorem G49:aPG S49 C1S:=G48.addQ B8G (cbl Try.f36) (fun _=>rfl)

abbrev C2x:List Sh:=.junk::C0T
abbrev u30:=((),u29)
abbrev C2j:List AV:=.junk::.junk::.junk::.junk::.junk::.junk::.junk::.junk::.junk::.junk::.junk::.junk::.junk::.junk::.junk::.junk::.junk::.junk::.junk::.junk::.junk::.junk::.junk::.junk::.junk::.junk::[]
abbrev C2i:List AV:=.junk::.junk::.junk::.junk::.junk::.junk::.junk::.junk::.junk::.junk::.junk::.junk::.junk::.junk::.junk::.junk::.junk::.junk::.junk::.junk::.junk::.junk::.junk::.junk::.junk::[]
abbrev C2k:List AV:=.junk::C03
abbrev Y9:List PSh:=[.t B7J,.t (.int .i64)]
abbrev J9:SS:=⟨(.t false B7J::tI::.junk::.junk::.junk::tI::C1a),[]⟩
abbrev A7A:SS:=⟨(.junk::.junk::.junk::.junk::tI::B64),[]⟩
abbrev B0k:SS:=⟨(.junk::tI::C2x),[]⟩
noncomputable def B1U (x0:Lq5) (x1 x5:Int):RT J9.den:=let z1:=x0.getD x5.toNat ((0:Int),[]);let z2:=wI (x1+(1:Int));let z3:=decide (0≤x5∧x5<(x0.length:Int));let z4:=R6 (z1.2) z2;(.br (decide (x5<(x0.length:Int))) (.br z3 (.br ((z1.1) != x1) (.done .ret A7A (((),(),(),(),(-1:Int),u27),())) (.br z3 (.br (J0 (z1.2) z2) (.br (decide (z4<(0:Int))) (.done .ret A7A (((),(),(),(),(-1:Int),u27),())) (.next ((x0,z4,(),(),(),wI (x5+(1:Int)),u26),()))) .fail) .fail)) .fail) (.done (.exit 0) B0k (((),x1,u30),())))
abbrev A0d:=(Lq5)×(Int)×(Int)
abbrev T6:=Nat×(Int)×(Int)
def X0:T6:=(99,((0:Int):Int),((0:Int):Int))
noncomputable def B1S (x0:Lq5) (x1 x5:Int):A0d ⊕ T6:=let z1:=x0.getD x5.toNat ((0:Int),[]);let z2:=wI (x1+(1:Int));let z3:=decide (0≤x5∧x5<(x0.length:Int));let z4:=R6 (z1.2) z2;(cond (decide (x5<(x0.length:Int))) (cond z3 (cond ((z1.1) != x1) (.inr (0,(-1:Int),((0:Int):Int))) (cond z3 (cond (J0 (z1.2) z2) (cond (decide (z4<(0:Int))) (.inr (0,(-1:Int),((0:Int):Int))) (.inl (x0,z4,wI (x5+(1:Int))))) (.inr X0)) (.inr X0))) (.inr X0)) (.inr (1,((0:Int):Int),x1)))
noncomputable def R0 (x0:Lq5) (x1 x5:Int):T6:=itX (fun v:A0d=>B1S v.1 v.2.1 v.2.2) X0 (x0,x1,x5)
noncomputable def A76 (a:T6):CT:=(.br (a.1==0) (.done .ret A7A (((),(),(),(),a.2.1,u27),())) (.br (a.1==1) (.done (.exit 0) B0k (((),a.2.2,u30),())) .fail))
noncomputable def B6k (x0:Lq5) (x1 x5:Int):CT:=A76 (R0 x0 x1 x5)
noncomputable abbrev A8m:J9.den→RT J9.den:=(fun d=>B1U d.1.1 d.1.2.1 d.1.2.2.2.2.2.1)
noncomputable def A9I:Code:=((D4 0 (A1T Try.f37)).getD 0 (0,.skip)).2
noncomputable abbrev B1G (v:A0d):J9.den:=((v.1,v.2.1,(),(),(),v.2.2,u26),())
theorem B55:(∀ v:A0d,(B1U v.1 v.2.1 v.2.2).val=A6u B1G A76 (B1S v.1 v.2.1 v.2.2))∧∀ a:T6,CEnd J9.den (A76 a):=⟨fun v=>by repeat' first | apply A7n | rfl,fun a=>(A7c aCD (A7c aCD A7e))⟩
noncomputable def B1B (x0:Lq5) (x1 x5:Int):Option (Ex×St):=let z1:=x0.getD x5.toNat ((0:Int),[]);let z2:=(⟨(.junk::.junk::.junk::.junk::(ti (-1:Int))::C2j),[],0,[]⟩:St);let z3:=wI (x1+(1:Int));let z4:=decide (0≤x5∧x5<(x0.length:Int));let z5:=R6 (z1.2) z3;(cond (decide (x5<(x0.length:Int))) (cond z4 (cond ((z1.1) != x1) (some (.ret,z2)) (cond z4 (cond (J0 (z1.2) z3) (cond (decide (z5<(0:Int))) (some (.ret,z2)) (some (.normal,(⟨((.t false B7J x0)::(ti z5)::.junk::.junk::.junk::(ti (wI (x5+(1:Int))))::C2i),[],0,[]⟩:St)))) none) none)) none) (some ((.exit 0),(⟨(.junk::(ti x1)::C2k),[],0,[]⟩:St))))
theorem B5o:RdA G49 aLn 0 A9I J9 0 [] (kepts [4] [(0,[1])]) (fun d=>B1B d.1.1 d.1.2.1 d.1.2.2.2.2.2.1):=by
 intro d
 kernel_rfl
theorem B5s:∀ d:J9.den,(fun d=>B1B d.1.1 d.1.2.1 d.1.2.2.2.2.2.1) d=(A8m d).opt 0 []:=by
 intro d
 kernel_rfl
noncomputable abbrev B0L:St→Option Tree:=J9.say 0 [] [] (fun d=>B6k d.1.1 d.1.2.1 d.1.2.2.2.2.2.1)
theorem B5N:aPL B0L A9I:=SS.wp2 hlz [] A8m B5o B5s _ (fun d=>Runs.ofI2 (step:=A8m) B1G B55 rfl (d.1.1,d.1.2.1,d.1.2.2.2.2.2.1))
noncomputable def A7p (a0:Lq5) (a1:Int):Int:=let z1:=R0 a0 a1 (0:Int);(cond (z1.1==0) (z1.2.1) (z1.2.2))
noncomputable abbrev A8B (r:Int):AV×List AObj:=((ti r),[])
noncomputable abbrev B0Q:E8 Y9→AV×List AObj:=fun d=>A8B (A7p d.1 d.2.1)
noncomputable def U4 (a0:Lq5) (a1:Int):Bool:=let z1:=R0 a0 a1 (0:Int);cond (z1.1==0) true (z1.1==1)
noncomputable abbrev A84:E8 Y9→Bool:=fun d=>U4 d.1 d.2.1
noncomputable abbrev B7K:Nat→St→Option Tree:=fun b=>match b with | 0=>B0L | _=>fun _=>none
theorem B6K:A7j true G49 (B7K) Try.f37 Y9 A84 B0Q:=by
 rintro ⟨a0,⟨a1,_⟩⟩ hp
 change U4 a0 a1=true at hp
 unfold U4 at hp
 refine Eq.trans (b:=(let z1:=R0 a0 a1 (0:Int);cond (z1.1==0) (some (A8B (z1.2.1))) (cond (z1.1==1) (some (A8B (z1.2.2))) none))) (by kernel_rfl) ?_
 exact (Q5 A8B hp (fun hp=>rfl) (fun hp=>(A7m hp fun _h=>rfl)))
theorem B7Z:aPP 37 (A2d Y9 A84 B0Q):=pcD true G49 (hl1 (i:=0) (by kernel_rfl) B5N) B6K
noncomputable def S50:Tab:=Tab.add S49 37 (lift (A2d Y9 A84 B0Q))
noncomputable def C1T:FuncId→Bool:=qadd C1S 37
theorem G50:aPG S50 C1T:=G49.addQ B7Z (cbl Try.f37) (fun _=>rfl)

abbrev A7F:List PSh:=[.agg [(.int .i64),(.int .i64),(.int .i64),tq6,B4e,(.int .i64),tq4,tq7,tq7,B7J],.t (.int .i64)]
noncomputable def B19 (a0 a1 a2:Int) (a3:LT1) (a4:LIbe) (a5:Int) (a6:LT2) (a7 a8:LT3) (a9:Lq5) (a10:Int):Int:=let z3:=A8e a0 a1 a2 a3 a4 a5 a10;let z1:=A7r a6 z3;let z2:=O1 a8 (O1 a7 z1);(cond (decide (z3<(0:Int))) (-1:Int) (cond (decide (z1<(0:Int))) (-1:Int) (cond (decide ((O1 a7 z1)<(0:Int))) (-1:Int) (cond (decide (z2<(0:Int))) (-1:Int) (cond (decide ((A7p a9 z2)<(0:Int))) (-1:Int) (A7p a9 z2))))))
noncomputable abbrev P2 (r:Int):AV×List AObj:=((ti r),[])
noncomputable abbrev B17:E8 A7F→AV×List AObj:=fun d=>P2 (B19 d.1.1 d.1.2.1 d.1.2.2.1 d.1.2.2.2.1 d.1.2.2.2.2.1 d.1.2.2.2.2.2.1 d.1.2.2.2.2.2.2.1 d.1.2.2.2.2.2.2.2.1 d.1.2.2.2.2.2.2.2.2.1 d.1.2.2.2.2.2.2.2.2.2.1 d.2.1)
noncomputable def T4 (a0 a1 a2:Int) (a3:LT1) (a4:LIbe) (a5:Int) (a6:LT2) (a7 a8:LT3) (a9:Lq5) (a10:Int):Bool:=let z2:=A8e a0 a1 a2 a3 a4 a5 a10;let z1:=A7r a6 z2;let z3:=O1 a7 z1;(X8 a0 a1 a2 a3 a4 a5 a10)&&(cond (decide (z2<(0:Int))) true ((Q2 a6 z2)&&(cond (decide (z1<(0:Int))) true ((P4 a7 z1)&&(cond (decide (z3<(0:Int))) true ((P4 a8 z3)&&(cond (decide ((O1 a8 z3)<(0:Int))) true (U4 a9 (O1 a8 z3)))))))))
noncomputable abbrev A95:E8 A7F→Bool:=fun d=>T4 d.1.1 d.1.2.1 d.1.2.2.1 d.1.2.2.2.1 d.1.2.2.2.2.1 d.1.2.2.2.2.2.1 d.1.2.2.2.2.2.2.1 d.1.2.2.2.2.2.2.2.1 d.1.2.2.2.2.2.2.2.2.1 d.1.2.2.2.2.2.2.2.2.2.1 d.2.1
theorem B7C:A7j true G50 aLn Try.f11 A7F A95 B17:=by
 rintro ⟨⟨a0,⟨a1,⟨a2,⟨a3,⟨a4,⟨a5,⟨a6,⟨a7,⟨a8,⟨a9,_⟩⟩⟩⟩⟩⟩⟩⟩⟩⟩,⟨a10,_⟩⟩ hp
 change T4 a0 a1 a2 a3 a4 a5 a6 a7 a8 a9 a10=true at hp
 unfold T4 at hp
 refine Eq.trans (b:=(let z3:=P2 (-1:Int);let z4:=A8e a0 a1 a2 a3 a4 a5 a10;let z1:=A7r a6 z4;let z5:=O1 a7 z1;let z2:=O1 a8 z5;cond (X8 a0 a1 a2 a3 a4 a5 a10) (cond (decide (z4<(0:Int))) (some z3) (cond (Q2 a6 z4) (cond (decide (z1<(0:Int))) (some z3) (cond (P4 a7 z1) (cond (decide (z5<(0:Int))) (some z3) (cond (P4 a8 z5) (cond (decide (z2<(0:Int))) (some z3) (cond (U4 a9 z2) (cond (decide ((A7p a9 z2)<(0:Int))) (some z3) (some (P2 (A7p a9 z2)))) none)) none)) none)) none)) none)) (by kernel_rfl) ?_
 exact (A7k hp fun hp=>(Q5 P2 hp (fun hp=>rfl) (fun hp=>(A7k hp fun hp=>(Q5 P2 hp (fun hp=>rfl) (fun hp=>(A7k hp fun hp=>(Q5 P2 hp (fun hp=>rfl) (fun hp=>(A7k hp fun hp=>(Q5 P2 hp (fun hp=>rfl) (fun hp=>(A7m hp fun _h=>(P1 P2 (fun _h=>rfl) (fun _h=>rfl)))))))))))))))
theorem B8H:aPP 11 (A2d A7F A95 B17):=pcD true G50 hlz B7C
noncomputable def S51:Tab:=Tab.add S50 11 (lift (A2d A7F A95 B17))
noncomputable def C2h:FuncId→Bool:=qadd C1T 11
theorem G51:aPG S51 C2h:=G50.addQ B8H (cbl Try.f11) (fun _=>rfl)

abbrev R9:List PSh:=[.t (.int .i64)]
noncomputable def Q6 (a0:Int):=let z1:=X2 a0;let z2:=A8l a0;B3u (z1.1) (z1.2.1) (z1.2.2.1) (z1.2.2.2.2.1) (z1.2.2.2.2.2.1) (z1.2.2.2.1) (z1.2.2.2.2.2.2.1) (z1.2.2.2.2.2.2.2.1) (z1.2.2.2.2.2.2.2.2.1) (z1.2.2.2.2.2.2.2.2.2) (z2.1) (z2.2.1) (z2.2.2.1) (z2.2.2.2.1) (z2.2.2.2.2.1) (z2.2.2.2.2.2.1) (z2.2.2.2.2.2.2.1) (z2.2.2.2.2.2.2.2.1) (z2.2.2.2.2.2.2.2.2.1) (z2.2.2.2.2.2.2.2.2.2)
noncomputable def M1 (a0:Int):=let z1:=X2 a0;B2a (z1.1) (z1.2.1) (z1.2.2.1) (z1.2.2.2.1) (1:Int) (z1.2.2.2.2.1) (z1.2.2.2.2.2.1) (z1.2.2.2.2.2.2.1) (z1.2.2.2.2.2.2.2.1) (z1.2.2.2.2.2.2.2.2.1) (z1.2.2.2.2.2.2.2.2.2)
noncomputable def Q7 (a0:Int):=let z1:=M1 a0;let z2:=X2 a0;B19 (z2.1) (z2.2.1) (z2.2.2.1) (z1.2.1) (z1.2.2.1) (z2.2.2.2.1) (z1.2.2.2.1) (z1.2.2.2.2.1) (z1.2.2.2.2.2.1) (z1.2.2.2.2.2.2) (1:Int)
noncomputable def R5 (a0:Int):Bool:=let z1:=Q7 a0;let z2:=z1 != ((M1 a0).1);let z3:=!(Q6 a0);let z4:=decide (z1<(0:Int));(cond z3 false (cond z4 false (cond z2 false (cond z3 false (cond z4 false (cond z2 false true))))))
noncomputable abbrev I4 (r:Bool):AV×List AObj:=((.t true .bool r),[])
noncomputable abbrev A9V:E8 R9→AV×List AObj:=fun d=>I4 (R5 d.1)
noncomputable def O2 (a0:Int):Bool:=let z3:=X2 a0;let z4:=M1 a0;let z2:=T4 (z3.1) (z3.2.1) (z3.2.2.1) (z4.2.1) (z4.2.2.1) (z3.2.2.2.1) (z4.2.2.2.1) (z4.2.2.2.2.1) (z4.2.2.2.2.2.1) (z4.2.2.2.2.2.2) (1:Int);let z5:=A8l a0;let z1:=A0n (z3.1) (z3.2.1) (z3.2.2.1) (z3.2.2.2.2.1) (z3.2.2.2.2.2.1) (z3.2.2.2.1) (z3.2.2.2.2.2.2.1) (z3.2.2.2.2.2.2.2.1) (z3.2.2.2.2.2.2.2.2.1) (z3.2.2.2.2.2.2.2.2.2) (z5.1) (z5.2.1) (z5.2.2.1) (z5.2.2.2.1) (z5.2.2.2.2.1) (z5.2.2.2.2.2.1) (z5.2.2.2.2.2.2.1) (z5.2.2.2.2.2.2.2.1) (z5.2.2.2.2.2.2.2.2.1) (z5.2.2.2.2.2.2.2.2.2);let z6:=!(Q6 a0);let z7:=Q7 a0;(R8 a0)&&((N2 a0)&&(z1&&(cond z6 true ((T5 (z3.1) (z3.2.1) (z3.2.2.1) (z3.2.2.2.1) (1:Int) (z3.2.2.2.2.1) (z3.2.2.2.2.2.1) (z3.2.2.2.2.2.2.1) (z3.2.2.2.2.2.2.2.1) (z3.2.2.2.2.2.2.2.2.1) (z3.2.2.2.2.2.2.2.2.2))&&(z2&&(cond (decide (z7<(0:Int))) true (cond (z7 != (z4.1)) true ((N2 a0)&&(z1&&(cond z6 true z2))))))))))
noncomputable abbrev L0:E8 R9→Bool:=fun d=>O2 d.1
theorem B3T:A7j true G51 aLn Try.f3 R9 L0 A9V:=by
 rintro ⟨a0,_⟩ hp
 change O2 a0=true at hp
 unfold O2 at hp
 refine Eq.trans (b:=(let z3:=X2 a0;let z4:=M1 a0;let z2:=T4 (z3.1) (z3.2.1) (z3.2.2.1) (z4.2.1) (z4.2.2.1) (z3.2.2.2.1) (z4.2.2.2.1) (z4.2.2.2.2.1) (z4.2.2.2.2.2.1) (z4.2.2.2.2.2.2) (1:Int);let z5:=A8l a0;let z1:=A0n (z3.1) (z3.2.1) (z3.2.2.1) (z3.2.2.2.2.1) (z3.2.2.2.2.2.1) (z3.2.2.2.1) (z3.2.2.2.2.2.2.1) (z3.2.2.2.2.2.2.2.1) (z3.2.2.2.2.2.2.2.2.1) (z3.2.2.2.2.2.2.2.2.2) (z5.1) (z5.2.1) (z5.2.2.1) (z5.2.2.2.1) (z5.2.2.2.2.1) (z5.2.2.2.2.2.1) (z5.2.2.2.2.2.2.1) (z5.2.2.2.2.2.2.2.1) (z5.2.2.2.2.2.2.2.2.1) (z5.2.2.2.2.2.2.2.2.2);let z6:=Q7 a0;let z7:=!(Q6 a0);let z8:=decide (z6<(0:Int));cond (R8 a0) (cond (N2 a0) (cond z1 (cond z7 (some (I4 false)) (cond (T5 (z3.1) (z3.2.1) (z3.2.2.1) (z3.2.2.2.1) (1:Int) (z3.2.2.2.2.1) (z3.2.2.2.2.2.1) (z3.2.2.2.2.2.2.1) (z3.2.2.2.2.2.2.2.1) (z3.2.2.2.2.2.2.2.2.1) (z3.2.2.2.2.2.2.2.2.2)) (cond z2 (cond z8 (some (I4 false)) (cond (z6 != (z4.1)) (some (I4 false)) (cond (N2 a0) (cond z1 (cond z7 (some (I4 false)) (cond z2 (cond z8 (some (I4 false)) (cond (z6 != (z4.1)) (some (I4 false)) (some (I4 true)))) none)) none) none))) none) none)) none) none) none)) (by kernel_rfl) ?_
 exact (A7k hp fun hp=>(A7k hp fun hp=>(A7k hp fun hp=>(Q5 I4 hp (fun hp=>rfl) (fun hp=>(A7k hp fun hp=>(A7k hp fun hp=>(Q5 I4 hp (fun hp=>rfl) (fun hp=>(Q5 I4 hp (fun hp=>rfl) (fun hp=>(A7k hp fun hp=>(A7k hp fun hp=>(Q5 I4 hp (fun hp=>rfl) (fun hp=>(A7m hp fun _h=>(P1 I4 (fun _h=>rfl) (fun _h=>(P1 I4 (fun _h=>rfl) (fun _h=>rfl))))))))))))))))))))
theorem B4I:aPP 3 (A2d R9 L0 A9V):=pcD true G51 hlz B3T
noncomputable abbrev B5F:=(Int)×(Int)×Lq2
noncomputable abbrev A75:=(Int)×(List B5F)×(Int)×LBBe×List B5F
noncomputable abbrev C2g:=Int×Lq2×Int×List Int
noncomputable def I5 {α:Type} (mk:Int→α→Int×α):Int→List α→Int×List α
 | k,[]=>(k,[])
 | k,x::r=>((I5 mk (mk k x).1 r).1,(mk k x).2::(I5 mk (mk k x).1 r).2)
noncomputable abbrev C0y:=ByteArray×ByteArray
noncomputable def L5:A75:=((0:Int),(([]:List B5F),((0:Int),(([]:LBBe),([]:List B5F)))))
noncomputable def A8q {α:Type} (w:α→Nat) (l:List α):Nat:=(l.map w).sum
theorem C0u {α:Type} (w:α→Nat) (l:List α) (x:α):A8q w (l++[x])=A8q w l+w x:=by simp [A8q]
theorem B5S {α:Type} (mk:Int→α→Int×α):∀ (l:List α) (k:Int),(I5 mk k l).2.length=l.length:=by
 intro l
 induction l with
 | nil=>intro k;rfl
 | cons y l ih=>intro k;simp only [I5,List.length_cons,ih]
theorem B5R {α:Type} (mk:Int→α→Int×α) (wt:α→Nat) (ok:α→Prop) (hw:∀ k x,0≤k→k+(wt x:Int)≤10000000→ok x→(mk k x).1=k+(wt x:Int)) :
  ∀ (l:List α) (k:Int),(∀ x∈l,ok x)→0≤k→k+(A8q wt l:Int)≤10000000→(I5 mk k l).1=k+(A8q wt l:Int):=by
 intro l
 induction l with
 | nil=>intro k _ _ _;simp [I5,A8q]
 | cons y l ih =>
  intro k ho h0 h1
  have e:A8q wt (y::l)=wt y+A8q wt l:=by simp [A8q]
  rw [e,Int.natCast_add] at h1
  simp only [I5]
  rw [hw k y h0 (by omega) (ho y (by simp)),ih _ (fun x hx=>ho x (by simp [hx])) (by omega) (by omega),e,Int.natCast_add]
  omega
theorem B2m {α:Type} (w:α→Nat) (l:List α) (i:Nat):A8q w l=A8q w (l.take i)+A8q w (l.drop i):=by
 simp only [A8q]
 rw [← List.sum_append,← List.map_append,List.take_append_drop]
theorem A7N {α:Type} {l:List α} {i:Nat} (h:i<l.length) (d:α):l.drop i=l.getD i d::l.drop (i+1):=by
 rw [List.drop_eq_getElem_cons h]
 simp [List.getD_eq_getElem?_getD,h]
theorem B5c {α:Type} {l:List α} {i:Nat} (h:i<l.length) (d:α):l.getD i d∈l:=by
 simp [List.getD_eq_getElem?_getD,h]
theorem B4d {α:Type} {l:List α} {i:Nat} (hi:i<l.length) (d:α):l.take (i+1)=l.take i++[l.getD i d]:=by
 rw [List.take_add_one,List.getElem?_eq_getElem hi];simp [List.getD_eq_getElem?_getD,hi]
theorem B7j {α:Type} (mk:Int→α→Int×α) (x:α):∀ (l:List α) (k:Int),I5 mk k (l++[x])=((mk (I5 mk k l).1 x).1,(I5 mk k l).2++[(mk (I5 mk k l).1 x).2]):=by
 intro l
 induction l with
 | nil=>intro k;rfl
 | cons y l ih=>intro k;simp only [List.cons_append,I5,ih]
theorem C0Z {α:Type} (a b:List α) (y x:α):(a++y::b).set a.length x=a++x::b:=by
 rw [List.set_append_right _ _ (Nat.le_refl _),Nat.sub_self];rfl
theorem C0X {α:Type} (d:α) (mk:Int→α→Int×α) (wt:α→Nat) (ok:α→Prop) {ss:Int→Int→List α→(Int×Int×List α) ⊕ (Nat×Int×List α)} {fl:Nat×Int×List α}
  (hw:∀ k x,0≤k→k+(wt x:Int)≤10000000→ok x→(mk k x).1=k+(wt x:Int))
  (hs:∀ (k:Int) (i:Nat) (h:List α),i<h.length→h.length≤1048576→0≤k→k+(wt (h.getD i d):Int)≤10000000→ok (h.getD i d)→ss k (i:Int) h=.inl ((mk k (h.getD i d)).1,((i+1:Nat):Int),h.set i (mk k (h.getD i d)).2))
  (he:∀ (k:Int) (h:List α),h.length≤1048576→ss k (h.length:Int) h=.inr (0,k,h))
  {l:List α} (hl:l.length≤1048576) (hok:∀ x∈l,ok x) {k:Int} (h0:0≤k) (h1:k+(A8q wt l:Int)≤10000000) :
  itX (fun v=>ss v.1 v.2.1 v.2.2) fl (k,0,l)=(0,I5 mk k l):=by
 refine A65 (fun v:Int×Int×List α=>∃ i:Nat,i≤l.length∧v=((I5 mk k (l.take i)).1,(i:Int),(I5 mk k (l.take i)).2++l.drop i)) (fun a=>a=(0,I5 mk k l)) (fun v=>l.length - v.2.1.toNat) ?_ ⟨0,Nat.zero_le _,by simp [I5]⟩ (by simp;omega)
 rintro v ⟨i,hi,rfl⟩
 have hlen:((I5 mk k (l.take i)).2++l.drop i).length=l.length:=by rw [List.length_append,B5S,List.length_take,List.length_drop];omega
 have hlm:(I5 mk k (l.take i)).2.length=i:=by rw [B5S,List.length_take];omega
 have hf:(I5 mk k (l.take i)).1=k+(A8q wt (l.take i):Int):=B5R mk wt ok hw _ k (fun x hx=>hok x (List.mem_of_mem_take hx)) h0 (by have:=B2m wt l i;omega)
 by_cases hlt:i<l.length
 ·have hg : ((I5 mk k (l.take i)).2 ++ l.drop i).getD i d = l.getD i d := by
   rw [A7N hlt d]
   simp [List.getD_eq_getElem?_getD,hlm]
  have hsum:A8q wt l=A8q wt (l.take i)+(wt (l.getD i d)+A8q wt (l.drop (i+1))):=by
   rw [B2m wt l i,A7N hlt d];simp [A8q]
  have:=hs (I5 mk k (l.take i)).1 i ((I5 mk k (l.take i)).2++l.drop i) (by omega) (by omega) (by rw [hf];omega) (by rw [hg,hf];omega) (by rw [hg];exact hok _ (B5c hlt d))
  rw [hg] at this
  refine .inl ⟨_,this,⟨i+1,by omega,?_⟩,by simp only [Int.toNat_natCast];omega⟩
  rw [B4d hlt d,B7j,A7N hlt d]
  have e:=C0Z (I5 mk k (l.take i)).2 (l.drop (i+1)) (l.getD i d) (mk (I5 mk k (l.take i)).1 (l.getD i d)).2
  rw [hlm] at e
  rw [e]
  simp only [List.append_assoc,List.cons_append,List.nil_append]
 ·obtain rfl:i=l.length:=by omega
  have:=he (I5 mk k (l.take l.length)).1 ((I5 mk k (l.take l.length)).2++l.drop l.length) (by omega)
  rw [hlen] at this
  refine .inr ⟨_,this,?_⟩
  simp [List.take_length]
theorem C0D {α:Type} {l:List α} {i:Nat} (hi:i<l.length) (x d:α):(l.set i x).getD i d=x:=by
 simp [List.getD_eq_getElem?_getD,hi]
theorem B94 {α:Type} (mk:Int→α→Int×α) (d:α):∀ (l:List α) (k:Int) (i:Nat),i<l.length→(I5 mk k l).2.getD i d=(mk (I5 mk k (l.take i)).1 (l.getD i d)).2:=by
 intro l
 induction l with
 | nil=>intro k i h;simp at h
 | cons y l ih =>
  intro k i h
  cases i with
  | zero=>simp [I5]
  | succ i =>
   simp only [I5,List.getD_cons_succ,List.take_succ_cons]
   exact ih _ i (by simpa using h)
theorem C0O {α:Type} (d:α) (mk:Int→α→Int×α) (wt:α→Nat) (ok:α→Prop) {ss:List α→Int→Int→(List α×Int×Int) ⊕ (Nat×Int×Int)} {fl:Nat×Int×Int} {z:Int}
  (hw:∀ k x,0≤k→k+(wt x:Int)≤10000000→ok x→(mk k x).1=k+(wt x:Int))
  (hs:∀ (k:Int) (i:Nat) (h:List α) (x:α),i<h.length→h.length≤1048576→0≤k→k+(wt x:Int)≤10000000→ok x→h.getD i d=(mk k x).2→ss h k (i:Int)=.inl (h,(mk k x).1,((i+1:Nat):Int)))
  (he:∀ (k:Int) (h:List α),h.length≤1048576→ss h k (h.length:Int)=.inr (1,z,k))
  {l:List α} (hl:l.length≤1048576) (hok:∀ x∈l,ok x) {k:Int} (h0:0≤k) (h1:k+(A8q wt l:Int)≤10000000) :
  itX (fun v=>ss v.1 v.2.1 v.2.2) fl ((I5 mk k l).2,k,0)=(1,z,(I5 mk k l).1):=by
 have hl2:=B5S mk l k
 refine A65 (fun v:List α×Int×Int=>∃ i:Nat,i≤l.length∧v=((I5 mk k l).2,(I5 mk k (l.take i)).1,(i:Int))) (fun a=>a=(1,z,(I5 mk k l).1)) (fun v=>l.length - v.2.2.toNat) ?_ ⟨0,Nat.zero_le _,by simp [I5]⟩ (by simp;omega)
 rintro v ⟨i,hi,rfl⟩
 have hf:(I5 mk k (l.take i)).1=k+(A8q wt (l.take i):Int):=B5R mk wt ok hw _ k (fun x hx=>hok x (List.mem_of_mem_take hx)) h0 (by have:=B2m wt l i;omega)
 by_cases hlt:i<l.length
 ·have hsum : A8q wt l = A8q wt (l.take i) + (wt (l.getD i d) + A8q wt (l.drop (i + 1))) := by
   rw [B2m wt l i,A7N hlt d];simp [A8q]
  have:=hs (I5 mk k (l.take i)).1 i (I5 mk k l).2 (l.getD i d) (by omega) (by omega) (by rw [hf];omega) (by rw [hf];omega) (hok _ (B5c hlt d)) (B94 mk d l k i hlt)
  refine .inl ⟨_,this,⟨i+1,by omega,?_⟩,by simp only [Int.toNat_natCast];omega⟩
  rw [B4d hlt d,B7j]
 ·obtain rfl:i=l.length:=by omega
  have:=he (I5 mk k (l.take l.length)).1 (I5 mk k l).2 (by omega)
  rw [hl2] at this
  refine .inr ⟨_,this,?_⟩
  rw [List.take_length]
noncomputable def C00 (l:Lq2):Prop:=C0I l=true
noncomputable def C2a (x:B5F):Prop:=C00 x.2.2
noncomputable def B95 (l:List B5F):Prop:=l.length≤1048576∧∀ x∈l,C2a x
noncomputable def C0d (l:List C0y):Prop:=l.length≤1048576∧∀ p∈l,okS p.1=true∧okS p.2=true
noncomputable def C0Y (x:A75):Prop:=B95 x.2.1∧C0d x.2.2.2.1∧B95 x.2.2.2.2
noncomputable def B9G (l:List A75):Prop:=l.length≤1048576∧∀ x∈l,C0Y x
noncomputable def B3Y {A:Type} (f:Nat→Option A) (last:A):Nat→Nat→A
 | 0,_=>last
 | k+1,i=>match f i with
  | some a=>a
  | none=>B3Y f last k (i+1)
theorem B9D {V A:Type} {ss:V→V ⊕ A} {fa:A} (pk:Nat→V) (n:Nat) (f:Nat→Option A) (last:A) (hn:n<4611686018427387904)
  (h:∀ i,i<n→ss (pk i)=(match f i with | some a=>.inr a | none=>.inl (pk (i+1)))) (hl:ss (pk n)=.inr last):itX ss fa (pk 0)=B3Y f last n 0:=by
 rw [A6j]
 have key:∀ k N i,i+k=n→k<N→itN ss fa N (pk i)=B3Y f last k i:=by
  intro k
  induction k with
  | zero =>
   intro N i hi hN
   obtain ⟨M,rfl⟩:∃ M,N=M+1:=⟨N - 1,by omega⟩
   obtain rfl:i=n:=by omega
   rw [A6E,hl];rfl
  | succ k ih =>
   intro N i hi hN
   obtain ⟨M,rfl⟩:∃ M,N=M+1:=⟨N - 1,by omega⟩
   rw [A6E,h i (by omega)]
   simp only [B3Y]
   cases hf:f i with
   | some a=>rfl
   | none=>exact ih M (i+1) (by omega) (by omega)
 exact key n _ 0 (by omega) hn
noncomputable def B43:B5F:=((0:Int),((0:Int),([]:Lq2)))
theorem C0o (k:Int) (s v:ByteArray):B8t k s v k s v=true:=by simp [B8t]
theorem B92 (l:Lq2):A8d l l=true:=by
 have e:A4E (A0l l l) (l.length - (0:Int).toNat) (0:Int).toNat=true:=B8s _ _ (fun j _ _=>by simp [A0l,C0o])
 simp only [A8d,e,cond_true]
 simp
theorem C02 {l:Lq2} (h:C00 l):Z8 l l=true∧A8d l l=true:=⟨C0q h,B92 l⟩
theorem B6j {A:Type} (f:Nat→Option A) (last:A):∀ k i,(∃ j a,i≤j∧j<i+k∧f j=some a∧(∀ m,i≤m→m<j→f m=none)∧B3Y f last k i=a)∨((∀ j,i≤j→j<i+k→f j=none)∧B3Y f last k i=last):=by
 intro k
 induction k with
 | zero=>intro i;exact .inr ⟨fun j h1 h2=>by omega,rfl⟩
 | succ k ih =>
  intro i
  simp only [B3Y]
  cases hf:f i with
  | some a=>exact .inl ⟨i,a,Nat.le_refl _,by omega,hf,fun m h1 h2=>by omega,rfl⟩
  | none =>
   rcases ih (i+1) with ⟨j,a,h1,h2,h3,h4,h5⟩ | ⟨h1,h2⟩
   ·refine .inl ⟨j,a,by omega,by omega,h3,fun m m1 m2=>?_,h5⟩
    by_cases hm:m=i
    ·rw [hm];exact hf
    ·exact h4 m (by omega) m2
   ·refine .inr ⟨fun j j1 j2=>?_,h2⟩
    by_cases hj:j=i
    ·rw [hj];exact hf
    ·exact h1 j (by omega) (by omega)
theorem C0a {l:List B5F} (h:B95 l):X7 l l=true∧B0H l l=true:=by
 obtain ⟨hl,h3⟩:=h
 have hdj:(((0:Int),((0:Int),([]:Lq2))):B5F)=B43:=rfl
 have e0:∀ x:Int,(x != x)=false:=fun x=>by simp
 have e9:∀ x:Bool,(x==x)=true:=fun x=>by simp
 have key:X3 l l 0=B3Y (fun _=>none) (1,false) l.length 0:=by
  refine B9D (fun i=>(l,l,(i:Int))) l.length _ _ (by omega) (fun i hi=>?_) ?_
  ·have e1:decide ((i:Int)<(l.length:Int))=true:=decide_eq_true (by omega)
   have e2:decide (0≤(i:Int)∧(i:Int)<(l.length:Int))=true:=decide_eq_true (by omega)
   have ho:=h3 _ (B5c hi B43)
   have o2:=ho
   obtain ⟨qE2,toE2⟩:=C02 o2
   have q1:A97 (l.getD i B43).1 (l.getD i B43).2.1 (l.getD i B43).2.2 (l.getD i B43).1 (l.getD i B43).2.1 (l.getD i B43).2.2=true:=by
    first | exact qE2 | (simp only [A97,e0,cond_false];exact qE2)
   have q2:B66 (l.getD i B43).1 (l.getD i B43).2.1 (l.getD i B43).2.2 (l.getD i B43).1 (l.getD i B43).2.1 (l.getD i B43).2.2=true:=by
    simp only [B66,e0,e9,toE2,cond_false,Bool.not_true]
   simp only [A9n,hdj,e1,e2,cond_true,cond_false,Bool.not_true,Int.toNat_natCast,q1,q2,A7h i (by omega)]
  ·have e1:decide ((l.length:Int)<(l.length:Int))=false:=decide_eq_false (by omega)
   simp only [A9n,e1,cond_false]
 have k2:B3Y (fun _=>none) ((1,false):U8) l.length 0=(1,false):=by
  rcases B6j (fun _=>none) ((1,false):U8) l.length 0 with ⟨j,a,_,_,h3,_⟩ | ⟨_,h⟩
  ·cases h3
  ·exact h
 rw [k2] at key
 simp only [X7,B0H,key,e0,cond_false]
 exact ⟨rfl,rfl⟩
theorem C0C {l:List C0y} (h:C0d l):A8k l l=true∧B1z l l=true:=by
 refine ⟨decide_eq_true h.1,?_⟩
 have e:A4E (T2 l l) (l.length - (0:Int).toNat) (0:Int).toNat=true:=B8s _ _ (fun j _ _=>by simp [T2,B5d])
 simp only [B1z,e,cond_true]
 simp
theorem C0p {l:List A75} (h:B9G l):W7 l l=true∧A9t l l=true:=by
 obtain ⟨hl,h3⟩:=h
 have hdj:(((0:Int),(([]:List B5F),((0:Int),(([]:LBBe),([]:List B5F))))):A75)=L5:=rfl
 have e0:∀ x:Int,(x != x)=false:=fun x=>by simp
 have e9:∀ x:Bool,(x==x)=true:=fun x=>by simp
 have key:W1 l l 0=B3Y (fun _=>none) (1,false) l.length 0:=by
  refine B9D (fun i=>(l,l,(i:Int))) l.length _ _ (by omega) (fun i hi=>?_) ?_
  ·have e1:decide ((i:Int)<(l.length:Int))=true:=decide_eq_true (by omega)
   have e2:decide (0≤(i:Int)∧(i:Int)<(l.length:Int))=true:=decide_eq_true (by omega)
   have ho:=h3 _ (B5c hi L5)
   obtain ⟨o1,o3,o4⟩:=ho
   obtain ⟨qE1,toE1⟩:=C0a o1
   obtain ⟨qE3,toE3⟩:=C0C o3
   obtain ⟨qE4,toE4⟩:=C0a o4
   have q1:A0m (l.getD i L5).1 (l.getD i L5).2.1 (l.getD i L5).2.2.1 (l.getD i L5).2.2.2.1 (l.getD i L5).2.2.2.2 (l.getD i L5).1 (l.getD i L5).2.1 (l.getD i L5).2.2.1 (l.getD i L5).2.2.2.1 (l.getD i L5).2.2.2.2=true:=by
    simp only [A0m,e0,qE1,toE1,qE3,toE3,qE4,toE4,cond_false,Bool.not_true,Bool.and_self]
   have q2:B3t (l.getD i L5).1 (l.getD i L5).2.1 (l.getD i L5).2.2.1 (l.getD i L5).2.2.2.1 (l.getD i L5).2.2.2.2 (l.getD i L5).1 (l.getD i L5).2.1 (l.getD i L5).2.2.1 (l.getD i L5).2.2.2.1 (l.getD i L5).2.2.2.2=true:=by
    simp only [B3t,e0,e9,toE1,toE3,toE4,cond_false,Bool.not_true]
   simp only [A7Y,hdj,e1,e2,cond_true,cond_false,Bool.not_true,Int.toNat_natCast,q1,q2,A7h i (by omega)]
  ·have e1:decide ((l.length:Int)<(l.length:Int))=false:=decide_eq_false (by omega)
   simp only [A7Y,e1,cond_false]
 have k2:B3Y (fun _=>none) ((1,false):P7) l.length 0=(1,false):=by
  rcases B6j (fun _=>none) ((1,false):P7) l.length 0 with ⟨j,a,_,_,h3,_⟩ | ⟨_,h⟩
  ·cases h3
  ·exact h
 rw [k2] at key
 simp only [W7,A9t,key,e0,cond_false]
 exact ⟨rfl,rfl⟩
noncomputable def shN (n:Nat):List A75:=(List.range n).map fun i:Nat=>((i:Int),[],0,[],[])
theorem B7H (n:Nat):shN (n+1)=shN n++[((n:Int),[],0,[],[])]:=by simp [shN,List.range_succ]
theorem B5w (n:Nat):(shN n).length=n:=by simp [shN]
noncomputable def B9F (x:A75):Prop:=x.2.1=[]∧x.2.2.2.1=[]∧x.2.2.2.2=[]
theorem B87 (n:Nat):∀ x∈shN n,B9F x:=by
 intro x hx
 obtain ⟨i,_,rfl⟩:=List.mem_map.1 hx
 exact ⟨rfl,rfl,rfl⟩
theorem C0F (a:Int):A9d a 1 8=decide (1≤a∧a≤8):=by
 simp only [A9d]
 by_cases h:1≤a∧a≤8
 ·rw [decide_eq_true h];simp;omega
 ·rw [decide_eq_false h];simp;omega
theorem C0E (a:Int):A9d a 0 7=decide (0≤a∧a≤7):=by
 simp only [A9d]
 by_cases h:0≤a∧a≤7
 ·rw [decide_eq_true h];simp;omega
 ·rw [decide_eq_false h];simp;omega
theorem C0e (n:Nat) (hn:n≤8) (p0 p1 p2 p5 r0 r1 r2:Int) (r3:List C2g) (r4:LIbe) (r5:Int):A9Y (n:Int) 0 p0 p1 p2 p5 r0 r1 r2 r3 r4 r5 []=(0,shN n):=by
 refine A65 (fun v:Z5=>∃ i:Nat,v=((n:Int),(i:Int),shN i)∧i≤n) (fun a=>a=(0,shN n)) (fun v=>n - v.2.1.toNat) ?_ ⟨0,rfl,Nat.zero_le _⟩ (by simp;omega)
 rintro v ⟨i,rfl,hi⟩
 by_cases hlt:i<n
 ·have e1:decide ((i:Int)<(n:Int))=true:=decide_eq_true (by omega)
  have e2:B1M (i:Int)=((i:Int),[],0,[],[]):=by
   simp only [B1M,C0E,decide_eq_true (show 0≤(i:Int)∧(i:Int)≤7 by omega)]
   rfl
  have e3:∀ x:A75,decide (((shN i).length+[x].length)*88≤MAXB)=true:=fun x=>decide_eq_true (by simp only [B5w,List.length_singleton,MAXB];omega)
  simp only [A7Z,e1,e2,e3,cond_true,A7h i (by omega)]
  exact .inl ⟨_,rfl,⟨i+1,by rw [B7H],by omega⟩,by simp only [Int.toNat_natCast];omega⟩
 ·obtain rfl:i=n:=by omega
  have e1:decide ((i:Int)<(i:Int))=false:=decide_eq_false (by omega)
  simp only [A7Z,e1,cond_false]
  exact .inr ⟨_,rfl,rfl⟩
theorem C0b (n:Nat) (hn:n≤8) (p0 p1 p2 p5 r0 r1 r2 r5:Int):A9X (n:Int) 0 p0 p1 p2 p5 r0 r1 r2 r5 []=(0,shN n):=by
 refine A65 (fun v:Z4=>∃ i:Nat,v=((n:Int),(i:Int),shN i)∧i≤n) (fun a=>a=(0,shN n)) (fun v=>n - v.2.1.toNat) ?_ ⟨0,rfl,Nat.zero_le _⟩ (by simp;omega)
 rintro v ⟨i,rfl,hi⟩
 by_cases hlt:i<n
 ·have e1:decide ((i:Int)<(n:Int))=true:=decide_eq_true (by omega)
  have e2:B1v (i:Int)=((i:Int),0):=by
   have h4:C0c (i:Int)=A9d (i:Int) 0 7:=rfl
   simp only [B1v,h4,C0E,decide_eq_true (show 0≤(i:Int)∧(i:Int)≤7 by omega)]
   rfl
  have e3:∀ x:A75,decide (((shN i).length+[x].length)*88≤MAXB)=true:=fun x=>decide_eq_true (by simp only [B5w,List.length_singleton,MAXB];omega)
  simp only [A7X,e1,e2,e3,cond_true,A7h i (by omega)]
  exact .inl ⟨_,rfl,⟨i+1,by rw [B7H],by omega⟩,by simp only [Int.toNat_natCast];omega⟩
 ·obtain rfl:i=n:=by omega
  have e1:decide ((i:Int)<(i:Int))=false:=decide_eq_false (by omega)
  simp only [A7X,e1,cond_false]
  exact .inr ⟨_,rfl,rfl⟩
theorem B1w (k:Int):W4 k 0 []=(0,k,[])∧W2 [] k 0=(1,0,k)∧A7S [] [] 0=(1,false):=⟨(A6j _ _ _).trans (by kernel_rfl),(A6j _ _ _).trans (by kernel_rfl),(A6j _ _ _).trans (by kernel_rfl)⟩
theorem A9w (k:Int):U2 k 0 []=(0,k,[])∧U1 [] k 0=(1,0,k)∧Z7 [] [] 0=(1,false):=⟨(A6j _ _ _).trans (by kernel_rfl),(A6j _ _ _).trans (by kernel_rfl),(A6j _ _ _).trans (by kernel_rfl)⟩
theorem A8h (k:Int):R3 k 0 []=(0,k,[])∧R0 [] k 0=(1,0,k)∧W0 [] [] 0=(1,false):=⟨(A6j _ _ _).trans (by kernel_rfl),(A6j _ _ _).trans (by kernel_rfl),(A6j _ _ _).trans (by kernel_rfl)⟩
theorem B9H (k:Int):W5 [] k 0=(0,k)∧W3 [] k 0=(1,0,k)∧X3 [] [] 0=(1,false):=⟨(A6j _ _ _).trans (by kernel_rfl),(A6j _ _ _).trans (by kernel_rfl),(A6j _ _ _).trans (by kernel_rfl)⟩
theorem B5T (k:Int) (h:0≤k∧k≤10000000):P5 k []=true∧A90 k []=(k,[])∧P3 [] k=true∧A9Z [] k=k∧O4 k []=true∧A9m k []=(k,[])∧O3 [] k=true∧A9l [] k=k:=by
 refine ⟨?_,rfl,?_,rfl,?_,rfl,?_,rfl⟩<;>simp [P5,P3,O4,O3,okL,h]
noncomputable def B1A (k:Int) (x:A75):Int×A75:=(k+2,(k,x.2.1,k+1,x.2.2.2.1,x.2.2.2.2))
theorem B88 (n:Nat) (hn:n≤8) :
  Q3 1 (shN n)=true∧A7t 1 (shN n)=I5 B1A 1 (shN n)∧(I5 B1A 1 (shN n)).1=1+2*(n:Int)∧Q2 (I5 B1A 1 (shN n)).2 1=true∧A7r (I5 B1A 1 (shN n)).2 1=(I5 B1A 1 (shN n)).1:=by
 have hdj:((0:Int),(([]:List B5F),((0:Int),(([]:List C0y),([]:List B5F)))))=L5:=rfl
 have hfst:∀ k x,0≤k→k+((2:Nat):Int)≤10000000→B9F x→(B1A k x).1=k+((2:Nat):Int):=fun k x _ _ _=>rfl
 have hsum:A8q (fun _:A75=>2) (shN n)=2*n:=by
  have:∀ m,A8q (fun _:A75=>2) (shN m)=2*m:=by
   intro m
   induction m with
   | zero=>rfl
   | succ m ih=>rw [B7H,C0u,ih];omega
  exact this n
 have e1:R4 1 0 (shN n)=(0,I5 B1A 1 (shN n)):=by
  refine C0X L5 B1A (fun _=>2) B9F hfst (fun k i h hi hl h0 h1 ho=>?_) (fun k h hl=>?_) (by rw [B5w];omega) (B87 n) (by decide) (by rw [hsum];omega)
  ·have c1:decide ((i:Int)<(h.length:Int))=true:=decide_eq_true (by omega)
   have c2:decide (0≤(i:Int)∧(i:Int)<(h.length:Int))=true:=decide_eq_true (by omega)
   obtain ⟨s1,s2,s3⟩:=ho
   have w1:wI (k+(1:Int))=k+1:=A6z (by omega) (by omega)
   have w2:wI (k+1+(1:Int))=k+2:=by rw [A6z (by omega) (by omega)];omega
   obtain ⟨p1,p2,_⟩:=B5T (k+2) (by omega)
   simp only [Y1,hdj,c1,c2,cond_true,Int.toNat_natCast,List.length_set,C0D hi,List.set_set,s1,s2,s3,w1,w2,N4,A7s,(B9H _).1,p1,p2,A7h i (by omega),beq_self_eq_true,B1A]
  ·have c1:decide ((h.length:Int)<(h.length:Int))=false:=decide_eq_false (by omega)
   simp only [Y1,c1,cond_false]
 have e2:R1 (I5 B1A 1 (shN n)).2 1 0=(1,0,(I5 B1A 1 (shN n)).1):=by
  refine C0O L5 B1A (fun _=>2) B9F hfst (fun k i h x hi hl h0 h1 ho hg=>?_) (fun k h hl=>?_) (by rw [B5w];omega) (B87 n) (by decide) (by rw [hsum];omega)
  ·have c1:decide ((i:Int)<(h.length:Int))=true:=decide_eq_true (by omega)
   have c2:decide (0≤(i:Int)∧(i:Int)<(h.length:Int))=true:=decide_eq_true (by omega)
   obtain ⟨s1,s2,s3⟩:=ho
   have w1:wI (k+(1:Int))=k+1:=A6z (by omega) (by omega)
   have w2:wI (k+1+(1:Int))=k+2:=by rw [A6z (by omega) (by omega)];omega
   obtain ⟨_,_,p1,p2,_⟩:=B5T (k+2) (by omega)
   have n1:∀ y:Int,(y != y)=false:=fun y=>by simp
   have b1:((1:Nat)==0)=false:=rfl
   have d1:decide (k+1<0)=false:=decide_eq_false (by omega)
   have d2:decide (k+2<0)=false:=decide_eq_false (by omega)
   simp only [B1A] at hg
   simp only [Y0,hdj,c1,c2,cond_true,cond_false,Int.toNat_natCast,hg,s1,s2,s3,n1,w1,w2,N3,A7q,(B9H _).2.1,b1,d1,d2,p1,p2,A7h i (by omega),beq_self_eq_true,B1A]
  ·have c1:decide ((h.length:Int)<(h.length:Int))=false:=decide_eq_false (by omega)
   simp only [Y0,c1,cond_false]
 refine ⟨by simp only [Q3,e1];rfl,by simp only [A7t,e1],?_,by simp only [Q2,e2];rfl,by simp only [A7r,e2];rfl⟩
 rw [B5R B1A (fun _=>2) B9F hfst (shN n) 1 (B87 n) (by decide) (by rw [hsum];omega),hsum]
 omega
theorem C0w (n:Nat) (hn:n≤8) (a b c d:Int) :
  A0n a b c [] [] d (shN n) [] [] [] a b c [] [] d (shN n) [] [] []=true∧B3u a b c [] [] d (shN n) [] [] [] a b c [] [] d (shN n) [] [] []=true ∧
  T5 a b c d 1 [] [] (shN n) [] [] []=true∧B2a a b c d 1 [] [] (shN n) [] [] []=(1+2*(n:Int),[],[],(I5 B1A 1 (shN n)).2,[],[],[]) ∧
  T4 a b c [] [] d (I5 B1A 1 (shN n)).2 [] [] [] 1=true∧B19 a b c [] [] d (I5 B1A 1 (shN n)).2 [] [] [] 1=1+2*(n:Int):=by
 obtain ⟨m1,m2,m3,m4,m5⟩:=B88 n hn
 have hsh:B9G (shN n):=⟨by rw [B5w];omega,fun x hx=>by
  obtain ⟨i,_,rfl⟩:=List.mem_map.1 hx
  exact ⟨⟨by simp,fun y hy=>by simp at hy⟩,⟨by simp,fun y hy=>by simp at hy⟩,⟨by simp,fun y hy=>by simp at hy⟩⟩⟩
 obtain ⟨g1,g2⟩:=C0p hsh
 have n1:∀ y:Int,(y != y)=false:=fun y=>by simp
 have b1:((1:Nat)==0)=false:=rfl
 have ch:B18 [] []=true∧X6 [] []=true:=⟨rfl,rfl⟩
 obtain ⟨_,_,_,_,p5,p6,p7,p8⟩:=B5T 1 (by decide)
 have d1:decide ((1:Int)<0)=false:=rfl
 have d2:decide (1+2*(n:Int)<0)=false:=decide_eq_false (by omega)
 have hm:I5 B1A 1 (shN n)=(1+2*(n:Int),(I5 B1A 1 (shN n)).2):=by rw [← m3]
 refine ⟨?_,?_,?_,?_,?_,?_⟩
 ·simp only [A0n,B3u,A8j,B1x,A9u,B4g,(B1w 0).2.2,W8,A7T,(A9w 0).2.2,A7u,B1y,(A8h 0).2.2,n1,b1,ch,g1,g2,cond_false,cond_true,Bool.not_true,beq_self_eq_true,Bool.and_self]
 ·simp only [B3u,B1x,B4g,(B1w 0).2.2,A7T,(A9w 0).2.2,B1y,(A8h 0).2.2,n1,b1,ch,g2,cond_false,Bool.not_true]
 ·simp only [T5,X9,A8f,A7y,A8g,(B1w _).1,p5,p6,m1,m2,m3,P6,T3,(A9w _).1,U5,(A8h _).1,beq_self_eq_true,Bool.and_self]
 ·simp only [B2a,A8f,A8g,(B1w _).1,p6,m2,m3,T3,(A9w _).1,B0I,(A8h _).1]
 ·simp only [T4,X8,A8e,A7w,A7o,(B1w _).2.1,p7,p8,d1,d2,m3,m4,m5,P4,O1,(A9w _).2.1,U4,(A8h _).2.1,b1,cond_false,beq_self_eq_true,Bool.and_self]
 ·simp only [B19,A8e,A7o,(B1w _).2.1,p8,d1,d2,m3,m5,O1,(A9w _).2.1,A7p,(A8h _).2.1,b1,cond_false]
theorem B5C (a0:Int):O2 a0=true∧R5 a0=true:=by
 have h0:A8X a0 1 8=A9d a0 1 8:=rfl
 have key:∃ (n:Nat) (a b c d:Int),n≤8∧R8 a0=true∧N2 a0=true∧A8l a0=(a,b,c,[],[],d,shN n,[],[],[])∧X2 a0=(a,b,c,d,[],[],shN n,[],[],[]):=by
  by_cases h:1≤a0∧a0≤8
  ·obtain ⟨n,rfl⟩:∃ n:Nat,a0=(n:Int):=⟨a0.toNat,by omega⟩
   have e1:A9d (n:Int) 1 8=true:=by rw [C0F];exact decide_eq_true h
   have e2:A9v (n:Int)=((n:Int),1,0,[],[],0):=by simp only [A9v,e1];rfl
   have e3:A9s (n:Int)=((n:Int),1,0,0):=by simp only [A9s,h0,e1];rfl
   have hn:n≤8:=by omega
   refine ⟨n,(n:Int),1,0,0,hn,?_,?_,?_,?_⟩
   ·simp only [R8,X5,e1,C0e n hn];rfl
   ·simp only [N2,X4,h0,e1,C0b n hn];rfl
   ·simp only [A8l,X5,e1,e2,C0e n hn];rfl
   ·simp only [X2,X4,h0,e1,e3,C0b n hn];rfl
  ·have e1:A9d a0 1 8=false:=by rw [C0F];exact decide_eq_false h
   refine ⟨0,0,0,0,0,by decide,?_,?_,?_,?_⟩
   ·simp only [R8,e1];rfl
   ·simp only [N2,h0,e1];rfl
   ·simp only [A8l,e1];rfl
   ·simp only [X2,h0,e1];rfl
 obtain ⟨n,a,b,c,d,hn,q1,q2,r1,r2⟩:=key
 obtain ⟨w1,w2,w3,w4,w5,w6⟩:=C0w n hn a b c d
 have n1:∀ y:Int,(y != y)=false:=fun y=>by simp
 have d2:decide (1+2*(n:Int)<0)=false:=decide_eq_false (by omega)
 simp only [O2,R5,Q6,M1,Q7,q1,q2,r1,r2,w1,w2,w3,w4,w5,w6,n1,d2,cond_false,Bool.not_true,Bool.and_self]
 exact ⟨trivial,trivial⟩
theorem B1F (a0:Int) (_:A2Y (.int .i64) a0=true):L0 (a0,())=true:=(B5C a0).1
theorem B12 (a0:Int) (_:A2Y (.int .i64) a0=true):R5 a0=true:=(B5C a0).2

end Go.Proofs.Ytcofibhklbfgoaa.Eng
