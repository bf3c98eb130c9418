/- What the functions that FnExactCrashCoord reaches compute: further. -/
import Derived.Test.YtapikgcgahomlaaFExactCrashCoordB
namespace Go.Proofs.Ytapikgcgahomlaa.Eng
open Go Go.RowKit
set_option linter.unusedSimpArgs false
set_option linter.unusedVariables false
set_option maxRecDepth 10000
abbrev D1z:List Sh:=.junk::C88
abbrev D1m:List AV:=.junk::C86
abbrev B1w:SS:=⟨[.all 0 4,tI],[.deep 48 [90,3] tq3]⟩
abbrev R3:SS:=⟨(.all 0 4::tI::.junk::.junk::.junk::tI::D1z),[.deep 48 [90,3] tq3]⟩
abbrev B5F:SS:=⟨(.junk::tI::C2D),[.deep 48 [90,3] tq3]⟩
noncomputable def B7w (x1 x5:Int) (h0:LT1):RT R3.den:=let z7:=(h0.getD x5.toNat ((0:Int),([],((0:Int),[])))).2;let z3:=h0.set x5.toNat (x1,(z7.1,((z7.2).1,(z7.2).2)));let z6:=z3.getD x5.toNat ((0:Int),([],((0:Int),[])));let z10:=wI (x1+(1:Int));let z4:=K9 z10 ((z6.2).1);let z1:=z3.set x5.toNat (z6.1,((z4.2),(z6.2).2));let z8:=z1.getD x5.toNat ((0:Int),([],((0:Int),[])));let z2:=z1.set x5.toNat (z8.1,((z8.2).1,((z4.1),((z8.2).2).2)));let z5:=z2.getD x5.toNat ((0:Int),([],((0:Int),[])));let z9:=wI ((z4.1)+(1:Int));let z11:=R8 z9 (((z5.2).2).2);(.br (decide (x5<(h0.length:Int))) (.br (decide (0≤x5∧x5<(h0.length:Int))) (.br (decide (0≤x5∧x5<((z3.length:Nat):Int))) (.br (A75 z10 ((z6.2).1)) (.br (decide (0≤x5∧x5<((z1.length:Nat):Int))) (.br (decide (0≤x5∧x5<((z2.length:Nat):Int))) (.br (X9 z9 (((z5.2).2).2)) (.next (((),(z11.1),(),(),(),wI (x5+(1:Int)),u36),(z2.set x5.toNat (z5.1,((z5.2).1,(((z5.2).2).1,(z11.2)))),()))) .fail) .fail) .fail) .fail) .fail) .fail) (.done (.exit 0) B5F (((),x1,u40),(h0,()))))
abbrev B0q:=(Int)×(Int)×LT1
abbrev A8m:=Nat×(Int)×LT1
def T9:A8m:=(99,((0:Int):Int),([]:LT1))
noncomputable def A9Z (x1 x5:Int) (h0:LT1):B0q ⊕ A8m:=let z7:=(h0.getD x5.toNat ((0:Int),([],((0:Int),[])))).2;let z3:=h0.set x5.toNat (x1,(z7.1,((z7.2).1,(z7.2).2)));let z6:=z3.getD x5.toNat ((0:Int),([],((0:Int),[])));let z10:=wI (x1+(1:Int));let z4:=K9 z10 ((z6.2).1);let z1:=z3.set x5.toNat (z6.1,((z4.2),(z6.2).2));let z8:=z1.getD x5.toNat ((0:Int),([],((0:Int),[])));let z2:=z1.set x5.toNat (z8.1,((z8.2).1,((z4.1),((z8.2).2).2)));let z5:=z2.getD x5.toNat ((0:Int),([],((0:Int),[])));let z9:=wI ((z4.1)+(1:Int));let z11:=R8 z9 (((z5.2).2).2);(cond (decide (x5<(h0.length:Int))) (cond (decide (0≤x5∧x5<(h0.length:Int))) (cond (decide (0≤x5∧x5<((z3.length:Nat):Int))) (cond (A75 z10 ((z6.2).1)) (cond (decide (0≤x5∧x5<((z1.length:Nat):Int))) (cond (decide (0≤x5∧x5<((z2.length:Nat):Int))) (cond (X9 z9 (((z5.2).2).2)) (.inl ((z11.1),wI (x5+(1:Int)),z2.set x5.toNat (z5.1,((z5.2).1,(((z5.2).2).1,(z11.2)))))) (.inr T9)) (.inr T9)) (.inr T9)) (.inr T9)) (.inr T9)) (.inr T9)) (.inr (0,x1,h0)))
noncomputable def A7W (x1 x5:Int) (h0:LT1):A8m:=itX (fun v:B0q=>A9Z v.1 v.2.1 v.2.2) T9 (x1,x5,h0)
noncomputable def B2o (a:A8m):CT:=(.br (a.1==0) (.done (.exit 0) B5F (((),a.2.1,u40),(a.2.2,()))) .fail)
noncomputable def C3B (x1 x5:Int) (h0:LT1):CT:=B2o (A7W x1 x5 h0)
noncomputable abbrev B2T:R3.den→RT R3.den:=(fun d=>B7w d.1.2.1 d.1.2.2.2.2.2.1 d.2.1)
noncomputable def B4k:Code:=((C9 0 (A0N Try.f78)).getD 0 (0,.skip)).2
noncomputable abbrev B7b (v:B0q):R3.den:=(((),v.1,(),(),(),v.2.1,u36),(v.2.2,()))
theorem C3a:(∀ v:B0q,(B7w v.1 v.2.1 v.2.2).val=A6u B7b B2o (A9Z v.1 v.2.1 v.2.2))∧∀ a:A8m,CEnd R3.den (B2o a):=⟨fun v=>by repeat' first | apply A7x | rfl,fun a=>(A7k aCD A7m)⟩
noncomputable def B6X (x1 x5:Int) (h0:LT1):Option (Ex×St):=let z7:=(h0.getD x5.toNat ((0:Int),([],((0:Int),[])))).2;let z3:=h0.set x5.toNat (x1,(z7.1,((z7.2).1,(z7.2).2)));let z6:=z3.getD x5.toNat ((0:Int),([],((0:Int),[])));let z10:=wI (x1+(1:Int));let z4:=K9 z10 ((z6.2).1);let z1:=z3.set x5.toNat (z6.1,((z4.2),(z6.2).2));let z8:=z1.getD x5.toNat ((0:Int),([],((0:Int),[])));let z2:=z1.set x5.toNat (z8.1,((z8.2).1,((z4.1),((z8.2).2).2)));let z5:=z2.getD x5.toNat ((0:Int),([],((0:Int),[])));let z9:=wI ((z4.1)+(1:Int));let z11:=R8 z9 (((z5.2).2).2);(cond (decide (x5<(h0.length:Int))) (cond (decide (0≤x5∧x5<(h0.length:Int))) (cond (decide (0≤x5∧x5<((z3.length:Nat):Int))) (cond (A75 z10 ((z6.2).1)) (cond (decide (0≤x5∧x5<((z1.length:Nat):Int))) (cond (decide (0≤x5∧x5<((z2.length:Nat):Int))) (cond (X9 z9 (((z5.2).2).2)) (some (.normal,(⟨((.all 0 4)::(ti (z11.1))::.junk::.junk::.junk::(ti (wI (x5+(1:Int))))::D1m),[(.deep 48 [90,3] tq3 (z2.set x5.toNat (z5.1,((z5.2).1,(((z5.2).2).1,(z11.2))))))],1,[]⟩:St))) none) none) none) none) none) none) (some ((.exit 0),(⟨(.junk::(ti x1)::C0I),[(.deep 48 [90,3] tq3 h0)],1,[]⟩:St))))
theorem C1T:RdA G69 aLn 0 B4k R3 1 [] (kepts [] [(0,[1])]) (fun d=>B6X d.1.2.1 d.1.2.2.2.2.2.1 d.2.1):=by
 intro d
 kernel_rfl
theorem C1Y:∀ d:R3.den,(fun d=>B6X d.1.2.1 d.1.2.2.2.2.2.1 d.2.1) d=(B2T d).opt 1 []:=by
 intro d
 kernel_rfl
noncomputable abbrev B5Y:St→Option Tree:=R3.say 1 [] [] (fun d=>C3B d.1.2.1 d.1.2.2.2.2.2.1 d.2.1)
theorem C2J:aPL B5Y B4k:=SS.wp2 hlz [] B2T C1T C1Y _ (fun d=>Runs.ofI2 (step:=B2T) B7b C3a rfl (d.1.2.1,d.1.2.2.2.2.2.1,d.2.1))
noncomputable def B0f (x1:Int) (h0:LT1):Int×LT1:=let z1:=A7W x1 (0:Int) h0;((z1.2.1),(z1.2.2))
noncomputable abbrev C1a (r:Int×LT1):AV×List AObj×List Nat:=((ti r.1),[(.deep 48 [90,3] tq3 r.2)],[])
noncomputable abbrev C1f:B1w.den→AV×List AObj×List Nat:=fun d=>C1a (B0f d.1.2.1 d.2.1)
noncomputable def A74 (x1:Int) (h0:LT1):Bool:=((A7W x1 (0:Int) h0).1==0)
noncomputable abbrev B8r:B1w.den→Bool:=fun d=>A74 d.1.2.1 d.2.1
noncomputable abbrev C5I:Nat→St→Option Tree:=fun b=>match b with | 0=>B5Y | _=>fun _=>none
theorem C37:A7r G69 (C5I) Try.f78 B1w B8r C1f:=by
 rintro ⟨⟨_,x1,_⟩,⟨h0,_⟩⟩ hp
 change A74 x1 h0=true at hp
 unfold A74 at hp
 refine Eq.trans (b:=(let z1:=A7W x1 (0:Int) h0;cond (z1.1==0) (some (C1a ((z1.2.1),(z1.2.2)))) none)) (by kernel_rfl) ?_
 exact (A7v hp fun _h=>rfl)
noncomputable abbrev C1o:=win E6 (msum B1w B8r C1f)
theorem C5Z:aPM 78 C1o:=(mcM G69 (hl1 (i:=0) (by kernel_rfl) C2J) C37).win E6
noncomputable def S70:Tab:=Tab.add S69 78 (C1o)
noncomputable def D0E:FuncId→Bool:=D0D
theorem G70:aPG S70 D0E:=G69.addM C5Z (A62 _) (cbl Try.f78) (by kernel_rfl)

abbrev C9A:List Sh:=.junk::C4W

noncomputable def I9 (i:Nat) (b:Int×LIbe):Int×LIbe:=(wI ((wI (b.1+(1:Int)))+(1:Int)),(b.2.set i (b.1,(b.2.getD i ((0:Int),false)).2)).set i (((b.2.set i (b.1,(b.2.getD i ((0:Int),false)).2)).getD i ((0:Int),false)).1,((Int.tmod (wI (b.1+(1:Int))) (3:Int))==(0:Int))))
abbrev A8E:SS:=⟨[.all 0 2,tI],[.rows 43 true W2]⟩
abbrev N8:SS:=⟨(.all 0 2::tI::.junk::.junk::.junk::tI::C87),[.rows 43 true W2]⟩
abbrev A8N:SS:=⟨(.junk::tI::C9A),[.rows 43 true W2]⟩
noncomputable def A93 (x1 x5:Int) (h0:LIbe):RT N8.den:=let z1:=h0.set x5.toNat (x1,(h0.getD x5.toNat ((0:Int),false)).2);let z2:=wI (x1+(1:Int));(.br (decide (x5<(h0.length:Int))) (.br (decide (0≤x5∧x5<(h0.length:Int))) (.br (decide (0≤x5∧x5<((z1.length:Nat):Int))) (.next (((),wI (z2+(1:Int)),(),(),(),wI (x5+(1:Int)),u24),(z1.set x5.toNat ((z1.getD x5.toNat ((0:Int),false)).1,((Int.tmod z2 (3:Int))==(0:Int))),()))) .fail) .fail) (.done (.exit 0) A8N (((),x1,u28),(h0,()))))
noncomputable def X0 (x1 x5:Int) (h0:LIbe):CT:=(.br (decide (0≤x5)&&(decide (0≤x1∧x1≤100000*(x5+100))&&okL h0)) (.done (.exit 0) A8N (((),((foldN I9 (h0.length - x5.toNat) x5.toNat (x1,h0)).1),u28),(((foldN I9 (h0.length - x5.toNat) x5.toNat (x1,h0)).2),()))) .fail)
noncomputable abbrev P8:N8.den→RT N8.den:=(fun d=>A93 d.1.2.1 d.1.2.2.2.2.2.1 d.2.1)
noncomputable abbrev B3r (x1 x5:Int) (h0:LIbe):N8.den:=(((),x1,(),(),(),x5,u24),(h0,()))
noncomputable def B1p:Code:=((C9 0 (A0N Try.f79)).getD 0 (0,.skip)).2
theorem C0v (x1 x5:Int) (h0:LIbe):(X0 x1 x5 h0).val (D:=N8.den)=.fail∨Runs P8 (B3r x1 x5 h0) (X0 x1 x5 h0).val:=by
 cases hc:(decide (0≤x5)&&(decide (0≤x1∧x1≤100000*(x5+100))&&okL h0)) with
 | false=>left;simp only [X0,CT.val,hc,cond_false]
 | true =>
  right
  simp only [X0,CT.val,hc,cond_true]
  simp only [Bool.and_eq_true,decide_eq_true_eq] at hc
  obtain ⟨i,rfl⟩:=Int.eq_ofNat_of_zero_le hc.1
  have hs:=A7g hc.2.2
  have hk:=hc.2.1
  simp only [Int.toNat_natCast]
  refine Runs.foldN (step:=P8) (fun j b=>B3r b.1 (j:Int) b.2) (fun i b=>(0≤b.1∧b.1≤100000*((i:Int)+100))∧b.2.length=h0.length) (h0.length) I9
   (fin:=fun b=>((.done (.exit 0) A8N (((),b.1,u28),(b.2,()))):CT).val) (fun i b hi hb=>?_) (fun i b hi hb=>?_) (h0.length - i) i (x1,h0) rfl ⟨hk,rfl⟩
  ·obtain ⟨k,h⟩:=b
   obtain ⟨hb1,hb2⟩:=hb
   simp only at hb1 hb2
   have w1:wI (k+(1:Int))=k+(1:Int):=A6A (by omega) (by omega)
   have w2:wI (k+(1:Int)+(1:Int))=k+(1:Int)+(1:Int):=A6A (by omega) (by omega)
   have e0:(decide (0≤(i:Int)∧(i:Int)<(h.length:Int)))=true:=decide_eq_true (by (try simp only [List.length_set]);omega)
   have e1:(decide (0≤(i:Int)∧(i:Int)<(((h.set i (k,(h.getD i ((0:Int),false)).2)).length:Nat):Int)))=true:=decide_eq_true (by (try simp only [List.length_set]);omega)
   have h1:decide ((i:Int)<(h.length:Int))=true:=decide_eq_true (by omega)
   have v1:(I9 i (k,h)).1=k+(1:Int)+(1:Int):=by simp only [I9,w1,w2]
   have v2:(I9 i (k,h)).2.length=h.length:=by simp only [I9,List.length_set]
   refine ⟨⟨by rw [v1];omega,by rw [v2];exact hb2⟩,?_⟩
   simp only [P8,A93,RT.val,h1,e0,e1,cond_true,A7o i (by omega),Int.toNat_natCast]
   rfl
  ·have h1:decide ((i:Int)<(b.2.length:Int))=false:=decide_eq_false (by omega)
   exact ⟨by simp only [P8,A93,RT.val,h1,cond_false];rfl,_,_,_,rfl,by simp⟩
theorem B9i:RdA G70 aLn 0 B1p N8 1 [] (kepts [] [(0,[1])]) (fun d=>(P8 d).opt 1 []):=by
 intro d
 kernel_rfl
noncomputable abbrev B2P:St→Option Tree:=N8.say 1 [] [] (fun d=>X0 d.1.2.1 d.1.2.2.2.2.2.1 d.2.1)
theorem B90:aPL B2P B1p:=SS.wp2 hlz [] P8 B9i (fun d=>rfl) _ (fun d=>C0v d.1.2.1 d.1.2.2.2.2.2.1 d.2.1)
noncomputable def K8 (x1:Int) (h0:LIbe):Int×LIbe:=let z1:=foldN I9 (h0.length - (0:Int).toNat) (0:Int).toNat (x1,h0);((z1.1),(z1.2))
noncomputable abbrev B6E (r:Int×LIbe):AV×List AObj×List Nat:=((ti r.1),[(.rows 43 true W2 r.2)],[])
noncomputable abbrev B6L:A8E.den→AV×List AObj×List Nat:=fun d=>B6E (K8 d.1.2.1 d.2.1)
noncomputable def P3 (x1:Int) (h0:LIbe):Bool:=okL h0&&decide (0≤x1∧x1≤10000000)
noncomputable abbrev B4v:A8E.den→Bool:=fun d=>P3 d.1.2.1 d.2.1
noncomputable abbrev C19:Nat→St→Option Tree:=fun b=>match b with | 0=>B2P | _=>fun _=>none
theorem C03:A7r G70 (C19) Try.f79 A8E B4v B6L:=by
 rintro ⟨⟨_,x1,_⟩,⟨h0,_⟩⟩ hp
 change P3 x1 h0=true at hp
 unfold P3 at hp
 refine Eq.trans (b:=(let z1:=foldN I9 (h0.length - (0:Int).toNat) (0:Int).toNat (x1,h0);cond (decide (0≤(0:Int))&&(decide (0≤x1∧x1≤100000*((0:Int)+100))&&okL h0)) (some (B6E ((z1.1),(z1.2)))) none)) (by kernel_rfl) ?_
 exact (A7v (by first | rfl | decide | exact hp | (simp only [Bool.and_eq_true] at hp;simp only [hp];done) | (simp [*];done) | (simp [okL] at hp;simp [okL,MAXB];omega) | (simp_all;done) | (simp at *;omega)) (fun _h=>rfl))
noncomputable abbrev B6V:=win E6 (msum A8E B4v B6L)
theorem C2i:aPM 79 B6V:=(mcM G70 (hl1 (i:=0) (by kernel_rfl) B90) C03).win E6
noncomputable def S71:Tab:=Tab.add S70 79 (B6V)
noncomputable def D0F:FuncId→Bool:=D0E
theorem G71:aPG S71 D0F:=G70.addM C2i (A62 _) (cbl Try.f79) (by kernel_rfl)

abbrev B0o:SS:=⟨[.agg [.t true (.int .i64),.t true (.int .i64),.t true (.int .i64),.all 0 4,.all 1 2,.t true (.int .i64)],tI],[.deep 48 [90,3] tq3,.rows 43 true W2]⟩
noncomputable def P9 (x0_0 x0_1 x0_2 x0_5 x1:Int) (h0:LT1) (h1:LIbe):Int×LT1×LIbe:=let z1:=K8 ((B0f x1 h0).1) h1;((z1.1),((B0f x1 h0).2),(z1.2))
noncomputable abbrev B9N (r:Int×LT1×LIbe):AV×List AObj×List Nat:=((ti r.1),[(.deep 48 [90,3] tq3 r.2.1),(.rows 43 true W2 r.2.2)],[])
noncomputable abbrev B9U:B0o.den→AV×List AObj×List Nat:=fun d=>B9N (P9 d.1.1.1 d.1.1.2.1 d.1.1.2.2.1 d.1.1.2.2.2.2.2.1 d.1.2.1 d.2.1 d.2.2.1)
noncomputable def Q9 (x0_0 x0_1 x0_2 x0_5 x1:Int) (h0:LT1) (h1:LIbe):Bool:=(A74 x1 h0)&&(P3 ((B0f x1 h0).1) h1)
noncomputable abbrev B63:B0o.den→Bool:=fun d=>Q9 d.1.1.1 d.1.1.2.1 d.1.1.2.2.1 d.1.1.2.2.2.2.2.1 d.1.2.1 d.2.1 d.2.2.1
theorem C3h:A7r G71 aLn Try.f35 B0o B63 B9U:=by
 rintro ⟨⟨⟨x0_0,x0_1,x0_2,_,_,x0_5,_⟩,x1,_⟩,⟨h0,h1,_⟩⟩ hp
 change Q9 x0_0 x0_1 x0_2 x0_5 x1 h0 h1=true at hp
 unfold Q9 at hp
 refine Eq.trans (b:=(let z1:=B0f x1 h0;let z2:=K8 (z1.1) h1;cond (A74 x1 h0) (cond (P3 (z1.1) h1) (some (B9N ((z2.1),(z1.2),(z2.2)))) none) none)) (by kernel_rfl) ?_
 exact (A7t hp fun hp=>(A7v hp fun _h=>rfl))
noncomputable abbrev B91:=win E6 (msum B0o B63 B9U)
theorem C4E:aPM 35 B91:=(mcM G71 hlz C3h).win E6
noncomputable def S72:Tab:=Tab.add S71 35 (B91)
noncomputable def D0G:FuncId→Bool:=D0F
theorem G72:aPG S72 D0G:=G71.addM C4E (A62 _) (cbl Try.f35) (by kernel_rfl)

abbrev D01:List Sh:=.junk::C2D
abbrev u41:=((),u40)
abbrev C9s:List AV:=.junk::C0I

noncomputable def K7 (x0:Lq1) (i:Nat) (k:Int):Int ⊕ Unit:=(cond (((x0.getD i ((0:Int),(bE,bE))).1) != k) (.inr ()) (cond (!((((x0.getD i ((0:Int),(bE,bE))).2).1).toList==(J4 (wI (k+(1:Int)))).toList)) (.inr ()) (cond (!((((x0.getD i ((0:Int),(bE,bE))).2).2).toList==(J4 (wI ((wI (k+(1:Int)))+(1:Int)))).toList)) (.inr ()) (.inl (wI ((wI ((wI (k+(1:Int)))+(1:Int)))+(1:Int)))))))
abbrev B17:List PSh:=[.t tq5,.t (.int .i64)]
abbrev V1:SS:=⟨(.t false tq5::tI::.junk::.junk::.junk::tI::D0Z),[]⟩
abbrev O6:SS:=⟨(.junk::.junk::.junk::.junk::tI::C9D),[]⟩
abbrev B1Z:SS:=⟨(.junk::tI::D01),[]⟩
noncomputable def B3X (x0:Lq1) (x1 x5:Int):RT V1.den:=let z2:=x0.getD x5.toNat ((0:Int),(bE,bE));let z3:=decide (0≤x5∧x5<(x0.length:Int));let z4:=wI (x1+(1:Int));let z1:=wI (z4+(1:Int));(.br (decide (x5<(x0.length:Int))) (.br z3 (.br ((z2.1) != x1) (.done .ret O6 (((),(),(),(),(-1:Int),u38),())) (.br z3 (.br (J0 z4) (.br (!(((z2.2).1).toList==(J4 z4).toList)) (.done .ret O6 (((),(),(),(),(-1:Int),u38),())) (.br z3 (.br (J0 z1) (.br (!(((z2.2).2).toList==(J4 z1).toList)) (.done .ret O6 (((),(),(),(),(-1:Int),u38),())) (.next ((x0,wI (z1+(1:Int)),(),(),(),wI (x5+(1:Int)),u37),()))) .fail) .fail)) .fail) .fail)) .fail) (.done (.exit 0) B1Z (((),x1,u41),())))
noncomputable def A9r (x0:Lq1) (x1 x5:Int):CT:=(.br (decide (0≤x5)&&(decide (0≤x1∧x1≤100000*(x5+100))&&okL x0)) (.br (A7n (loopN (K7 x0) (x0.length - x5.toNat) x5.toNat x1)) (.done (.exit 0) B1Z (((),(A7f (-1) (loopN (K7 x0) (x0.length - x5.toNat) x5.toNat x1)),u41),())) (.done .ret O6 (((),(),(),(),(-1:Int),u38),()))) .fail)
noncomputable abbrev W0:V1.den→RT V1.den:=(fun d=>B3X d.1.1 d.1.2.1 d.1.2.2.2.2.2.1)
noncomputable abbrev B0A (x0:Lq1) (x1 x5:Int):V1.den:=((x0,x1,(),(),(),x5,u37),())
noncomputable def B5I:Code:=((C9 0 (A0N Try.f84)).getD 0 (0,.skip)).2
theorem C4r (x0:Lq1) (x1 x5:Int):(A9r x0 x1 x5).val (D:=V1.den)=.fail∨Runs W0 (B0A x0 x1 x5) (A9r x0 x1 x5).val:=by
 cases hc:(decide (0≤x5)&&(decide (0≤x1∧x1≤100000*(x5+100))&&okL x0)) with
 | false=>left;simp only [A9r,CT.val,hc,cond_false]
 | true =>
  right
  simp only [A9r,CT.val,hc,cond_true]
  simp only [Bool.and_eq_true,decide_eq_true_eq] at hc
  obtain ⟨i,rfl⟩:=Int.eq_ofNat_of_zero_le hc.1
  have hs:=A7g hc.2.2
  have hk:=hc.2.1
  simp only [Int.toNat_natCast]
  have h:=Runs.loopN (step:=W0) (fun j b=>B0A x0 b (j:Int)) (fun i b=>0≤b∧b≤100000*((i:Int)+100)) (x0.length) (K7 x0)
   (fin:=fun b=>((.done (.exit 0) B1Z (((),b,u41),())):CT).val) (bad:=fun _=>((.done .ret O6 (((),(),(),(),(-1:Int),u38),())):CT).val)
   (fun i b hi hb=>?_) (fun i b hi hb=>?_) (x0.length - i) i x1 rfl hk
  ·revert h
   cases loopN (K7 x0) (x0.length - i) i x1 with
   | inl b=>exact id
   | inr c=>exact id
  ·revert hb
   generalize b=k
   intro hb
   have w1:wI (k+(1:Int))=k+(1:Int):=A6A (by omega) (by omega)
   have w2:wI (k+(1:Int)+(1:Int))=k+(1:Int)+(1:Int):=A6A (by omega) (by omega)
   have w3:wI (k+(1:Int)+(1:Int)+(1:Int))=k+(1:Int)+(1:Int)+(1:Int):=A6A (by omega) (by omega)
   have e0:(decide (0≤(i:Int)∧(i:Int)<(x0.length:Int)))=true:=decide_eq_true (by omega)
   have e1:(decide (0≤(i:Int)∧(i:Int)<(x0.length:Int)))=true:=decide_eq_true (by omega)
   have e2:(J0 (wI (k+(1:Int))))=true:=by simp only [J0,w1,w2,w3];exact decide_eq_true (by omega)
   have e3:(decide (0≤(i:Int)∧(i:Int)<(x0.length:Int)))=true:=decide_eq_true (by omega)
   have e4:(J0 (wI ((wI (k+(1:Int)))+(1:Int))))=true:=by simp only [J0,w1,w2,w3];exact decide_eq_true (by omega)
   have h1:decide ((i:Int)<(x0.length:Int))=true:=decide_eq_true (by omega)
   have e:(W0 (B0A x0 k (i:Int))).val=(cond (((x0.getD i ((0:Int),((⟨#[]⟩:ByteArray),(⟨#[]⟩:ByteArray)))).1) != k) ((.done .ret O6 (((),(),(),(),(-1:Int),u38),())):CT).val (cond (!((((x0.getD i ((0:Int),((⟨#[]⟩:ByteArray),(⟨#[]⟩:ByteArray)))).2).1).toList==(J4 (wI (k+(1:Int)))).toList)) ((.done .ret O6 (((),(),(),(),(-1:Int),u38),())):CT).val (cond (!((((x0.getD i ((0:Int),((⟨#[]⟩:ByteArray),(⟨#[]⟩:ByteArray)))).2).2).toList==(J4 (wI ((wI (k+(1:Int)))+(1:Int)))).toList)) ((.done .ret O6 (((),(),(),(),(-1:Int),u38),())):CT).val (.next (B0A x0 (wI ((wI ((wI (k+(1:Int)))+(1:Int)))+(1:Int))) ((i+1:Nat):Int)))))):=by
    simp only [W0,B3X,RT.val,h1,e0,e1,e2,e3,e4,cond_true,A7o i (by omega),Int.toNat_natCast]
    rfl
   cases g0:(((x0.getD i ((0:Int),((⟨#[]⟩:ByteArray),(⟨#[]⟩:ByteArray)))).1) != k) with
   | true=>exact .inr ⟨(),_,_,_,by simp only [K7,g0,cond_true,cond_false],by rw [e,g0];rfl,rfl,by simp⟩
   | false =>
    cases g1:(!((((x0.getD i ((0:Int),((⟨#[]⟩:ByteArray),(⟨#[]⟩:ByteArray)))).2).1).toList==(J4 (wI (k+(1:Int)))).toList)) with
    | true=>exact .inr ⟨(),_,_,_,by simp only [K7,g0,g1,cond_true,cond_false],by rw [e,g0,g1];rfl,rfl,by simp⟩
    | false =>
     cases g2:(!((((x0.getD i ((0:Int),((⟨#[]⟩:ByteArray),(⟨#[]⟩:ByteArray)))).2).2).toList==(J4 (wI ((wI (k+(1:Int)))+(1:Int)))).toList)) with
     | true=>exact .inr ⟨(),_,_,_,by simp only [K7,g0,g1,g2,cond_true,cond_false],by rw [e,g0,g1,g2];rfl,rfl,by simp⟩
     | false =>
      exact .inl ⟨wI ((wI ((wI (k+(1:Int)))+(1:Int)))+(1:Int)),by simp only [K7,g0,g1,g2,cond_false],by rw [w1,w2,w3];omega,by rw [e,g0,g1,g2];rfl⟩
  ·have h1:decide ((i:Int)<(x0.length:Int))=false:=decide_eq_false (by omega)
   exact ⟨by simp only [W0,B3X,RT.val,h1,cond_false];rfl,_,_,_,rfl,by simp⟩
noncomputable def B8k (x0:Lq1) (x1 x5:Int):Option (Ex×St):=let z1:=(⟨(.junk::.junk::.junk::.junk::(ti (-1:Int))::C9r),[],0,[]⟩:St);let z3:=x0.getD x5.toNat ((0:Int),(bE,bE));let z4:=decide (0≤x5∧x5<(x0.length:Int));let z5:=wI (x1+(1:Int));let z2:=wI (z5+(1:Int));(cond (decide (x5<(x0.length:Int))) (cond z4 (cond ((z3.1) != x1) (some (.ret,z1)) (cond z4 (cond (J0 z5) (cond (!(((z3.2).1).toList==(J4 z5).toList)) (some (.ret,z1)) (cond z4 (cond (J0 z2) (cond (!(((z3.2).2).toList==(J4 z2).toList)) (some (.ret,z1)) (some (.normal,(⟨((.t false tq5 x0)::(ti (wI (z2+(1:Int))))::.junk::.junk::.junk::(ti (wI (x5+(1:Int))))::D0P),[],0,[]⟩:St)))) none) none)) none) none)) none) (some ((.exit 0),(⟨(.junk::(ti x1)::C9s),[],0,[]⟩:St))))
theorem C2W:RdA G72 aLn 0 B5I V1 0 [] (kepts [4] [(0,[1])]) (fun d=>B8k d.1.1 d.1.2.1 d.1.2.2.2.2.2.1):=by
 intro d
 kernel_rfl
theorem C23:∀ d:V1.den,(fun d=>B8k d.1.1 d.1.2.1 d.1.2.2.2.2.2.1) d=(W0 d).opt 0 []:=by
 intro d
 kernel_rfl
noncomputable abbrev B7l:St→Option Tree:=V1.say 0 [] [] (fun d=>A9r d.1.1 d.1.2.1 d.1.2.2.2.2.2.1)
theorem C3J:aPL B7l B5I:=SS.wp2 hlz [] W0 C2W C23 _ (fun d=>C4r d.1.1 d.1.2.1 d.1.2.2.2.2.2.1)
noncomputable def B4s (a0:Lq1) (a1:Int):Int:=let z1:=loopN (K7 a0) (a0.length - (0:Int).toNat) (0:Int).toNat a1;(cond (A7n z1) (A7f (-1) z1) (-1:Int))
noncomputable abbrev B4X (r:Int):AV×List AObj:=((ti r),[])
noncomputable abbrev B8Y:H6 B17→AV×List AObj:=fun d=>B4X (B4s d.1 d.2.1)
noncomputable def A73 (a0:Lq1) (a1:Int):Bool:=okL a0&&decide (0≤a1∧a1≤10000000)
noncomputable abbrev B5n:H6 B17→Bool:=fun d=>A73 d.1 d.2.1
noncomputable abbrev C6J:Nat→St→Option Tree:=fun b=>match b with | 0=>B7l | _=>fun _=>none
theorem C5r:A7s true G72 (C6J) Try.f84 B17 B5n B8Y:=by
 rintro ⟨a0,⟨a1,_⟩⟩ hp
 change A73 a0 a1=true at hp
 unfold A73 at hp
 refine Eq.trans (b:=(let z1:=loopN (K7 a0) (a0.length - (0:Int).toNat) (0:Int).toNat a1;cond (decide (0≤(0:Int))&&(decide (0≤a1∧a1≤100000*((0:Int)+100))&&okL a0)) (cond (A7n z1) (some (B4X (A7f (-1) z1))) (some (B4X (-1:Int)))) none)) (by kernel_rfl) ?_
 exact (A7v (by first | rfl | decide | exact hp | (simp only [Bool.and_eq_true] at hp;simp only [hp];done) | (simp [*];done) | (simp [okL] at hp;simp [okL,MAXB];omega) | (simp_all;done) | (simp at *;omega)) (fun _h=>(O8 B4X (fun _h=>rfl) (fun _h=>rfl))))
theorem C62:aPP 84 (A2W B17 B5n B8Y):=pcD true G72 (hl1 (i:=0) (by kernel_rfl) C3J) C5r
noncomputable def S73:Tab:=Tab.add S72 84 (lift (A2W B17 B5n B8Y))
noncomputable def D0H:FuncId→Bool:=qadd D0G 84
theorem G73:aPG S73 D0H:=G72.addQ C62 (cbl Try.f84) (fun _=>rfl)


noncomputable def L2 (x0:List Int) (i:Nat) (k:Int):Int ⊕ Unit:=(cond ((x0.getD i (0:Int)) != k) (.inr ()) (.inl (wI (k+(1:Int)))))
abbrev B0H:List PSh:=[.t W3,.t (.int .i64)]
abbrev V8:SS:=⟨(.t false W3::tI::.junk::.junk::.junk::tI::D0X),[]⟩
abbrev A8B:SS:=⟨(.junk::.junk::.junk::.junk::tI::C7a),[]⟩
abbrev B03:SS:=⟨(.junk::tI::C8D),[]⟩
noncomputable def B2Y (x0:List Int) (x1 x5:Int):RT V8.den:=(.br (decide (x5<(x0.length:Int))) (.br (decide (0≤x5∧x5<(x0.length:Int))) (.br ((x0.getD x5.toNat (0:Int)) != x1) (.done .ret A8B (((),(),(),(),(-1:Int),u17),())) (.next ((x0,wI (x1+(1:Int)),(),(),(),wI (x5+(1:Int)),u16),()))) .fail) (.done (.exit 0) B03 (((),x1,u20),())))
noncomputable def A8p (x0:List Int) (x1 x5:Int):CT:=(.br (decide (0≤x5)&&(decide (0≤x1∧x1≤100000*(x5+100))&&okL x0)) (.br (A7n (loopN (L2 x0) (x0.length - x5.toNat) x5.toNat x1)) (.done (.exit 0) B03 (((),(A7f (-1) (loopN (L2 x0) (x0.length - x5.toNat) x5.toNat x1)),u20),())) (.done .ret A8B (((),(),(),(),(-1:Int),u17),()))) .fail)
noncomputable abbrev U1:V8.den→RT V8.den:=(fun d=>B2Y d.1.1 d.1.2.1 d.1.2.2.2.2.2.1)
noncomputable abbrev A9R (x0:List Int) (x1 x5:Int):V8.den:=((x0,x1,(),(),(),x5,u16),())
noncomputable def B4h:Code:=((C9 0 (A0N Try.f115)).getD 0 (0,.skip)).2
theorem C3w (x0:List Int) (x1 x5:Int):(A8p x0 x1 x5).val (D:=V8.den)=.fail∨Runs U1 (A9R x0 x1 x5) (A8p x0 x1 x5).val:=by
 cases hc:(decide (0≤x5)&&(decide (0≤x1∧x1≤100000*(x5+100))&&okL x0)) with
 | false=>left;simp only [A8p,CT.val,hc,cond_false]
 | true =>
  right
  simp only [A8p,CT.val,hc,cond_true]
  simp only [Bool.and_eq_true,decide_eq_true_eq] at hc
  obtain ⟨i,rfl⟩:=Int.eq_ofNat_of_zero_le hc.1
  have hs:=A7g hc.2.2
  have hk:=hc.2.1
  simp only [Int.toNat_natCast]
  have h:=Runs.loopN (step:=U1) (fun j b=>A9R x0 b (j:Int)) (fun i b=>0≤b∧b≤100000*((i:Int)+100)) (x0.length) (L2 x0)
   (fin:=fun b=>((.done (.exit 0) B03 (((),b,u20),())):CT).val) (bad:=fun _=>((.done .ret A8B (((),(),(),(),(-1:Int),u17),())):CT).val)
   (fun i b hi hb=>?_) (fun i b hi hb=>?_) (x0.length - i) i x1 rfl hk
  ·revert h
   cases loopN (L2 x0) (x0.length - i) i x1 with
   | inl b=>exact id
   | inr c=>exact id
  ·revert hb
   generalize b=k
   intro hb
   have w1:wI (k+(1:Int))=k+(1:Int):=A6A (by omega) (by omega)
   have e0:(decide (0≤(i:Int)∧(i:Int)<(x0.length:Int)))=true:=decide_eq_true (by omega)
   have h1:decide ((i:Int)<(x0.length:Int))=true:=decide_eq_true (by omega)
   have e:(U1 (A9R x0 k (i:Int))).val=(cond ((x0.getD i (0:Int)) != k) ((.done .ret A8B (((),(),(),(),(-1:Int),u17),())):CT).val (.next (A9R x0 (wI (k+(1:Int))) ((i+1:Nat):Int)))):=by
    simp only [U1,B2Y,RT.val,h1,e0,cond_true,A7o i (by omega),Int.toNat_natCast]
    rfl
   cases g0:((x0.getD i (0:Int)) != k) with
   | true=>exact .inr ⟨(),_,_,_,by simp only [L2,g0,cond_true,cond_false],by rw [e,g0];rfl,rfl,by simp⟩
   | false =>
    exact .inl ⟨wI (k+(1:Int)),by simp only [L2,g0,cond_false],by rw [w1];omega,by rw [e,g0];rfl⟩
  ·have h1:decide ((i:Int)<(x0.length:Int))=false:=decide_eq_false (by omega)
   exact ⟨by simp only [U1,B2Y,RT.val,h1,cond_false];rfl,_,_,_,rfl,by simp⟩
theorem C1Q:RdA G73 aLn 0 B4h V8 0 [] (kepts [4] [(0,[1])]) (fun d=>(U1 d).opt 0 []):=by
 intro d
 kernel_rfl
noncomputable abbrev B5V:St→Option Tree:=V8.say 0 [] [] (fun d=>A8p d.1.1 d.1.2.1 d.1.2.2.2.2.2.1)
theorem C2G:aPL B5V B4h:=SS.wp2 hlz [] U1 C1Q (fun d=>rfl) _ (fun d=>C3w d.1.1 d.1.2.1 d.1.2.2.2.2.2.1)
noncomputable def B1S (a0:List Int) (a1:Int):Int:=let z1:=loopN (L2 a0) (a0.length - (0:Int).toNat) (0:Int).toNat a1;(cond (A7n z1) (A7f (-1) z1) (-1:Int))
noncomputable abbrev B3b (r:Int):AV×List AObj:=((ti r),[])
noncomputable abbrev B6J:H6 B0H→AV×List AObj:=fun d=>B3b (B1S d.1 d.2.1)
noncomputable def X8 (a0:List Int) (a1:Int):Bool:=okL a0&&decide (0≤a1∧a1≤10000000)
noncomputable abbrev B3M:H6 B0H→Bool:=fun d=>X8 d.1 d.2.1
noncomputable abbrev C5F:Nat→St→Option Tree:=fun b=>match b with | 0=>B5V | _=>fun _=>none
theorem C34:A7s true G73 (C5F) Try.f115 B0H B3M B6J:=by
 rintro ⟨a0,⟨a1,_⟩⟩ hp
 change X8 a0 a1=true at hp
 unfold X8 at hp
 refine Eq.trans (b:=(let z1:=loopN (L2 a0) (a0.length - (0:Int).toNat) (0:Int).toNat a1;cond (decide (0≤(0:Int))&&(decide (0≤a1∧a1≤100000*((0:Int)+100))&&okL a0)) (cond (A7n z1) (some (B3b (A7f (-1) z1))) (some (B3b (-1:Int)))) none)) (by kernel_rfl) ?_
 exact (A7v (by first | rfl | decide | exact hp | (simp only [Bool.and_eq_true] at hp;simp only [hp];done) | (simp [*];done) | (simp [okL] at hp;simp [okL,MAXB];omega) | (simp_all;done) | (simp at *;omega)) (fun _h=>(O8 B3b (fun _h=>rfl) (fun _h=>rfl))))
theorem C5W:aPP 115 (A2W B0H B3M B6J):=pcD true G73 (hl1 (i:=0) (by kernel_rfl) C2G) C34
noncomputable def S74:Tab:=Tab.add S73 115 (lift (A2W B0H B3M B6J))
noncomputable def D0I:FuncId→Bool:=qadd D0H 115
theorem G74:aPG S74 D0I:=G73.addQ C5W (cbl Try.f115) (fun _=>rfl)

abbrev D02:List Sh:=.junk::.junk::.junk::D01
abbrev D1A:List Sh:=.junk::D02
abbrev D1B:List Sh:=.junk::D03
abbrev u45:=((),(),u43)
abbrev u44:=((),u43)
abbrev u48:=((),u47)
abbrev D1o:List AV:=.junk::.junk::.junk::.junk::C9s
abbrev D1n:List AV:=.junk::.junk::.junk::C9s
abbrev D1p:List AV:=.junk::D0R
abbrev B0I:List PSh:=[.t tq2,.t (.int .i64)]
abbrev R1:SS:=⟨(.t false tq2::tI::.junk::.junk::.junk::tI::D02),[]⟩
abbrev Z5:SS:=⟨(.junk::.junk::.junk::.junk::tI::D1A),[]⟩
abbrev B5E:SS:=⟨(.junk::tI::D1B),[]⟩
noncomputable def B7v (x0:LT1) (x1 x5:Int):RT R1.den:=let z1:=x0.getD x5.toNat ((0:Int),([],((0:Int),[])));let z3:=decide (0≤x5∧x5<(x0.length:Int));let z5:=wI (x1+(1:Int));let z2:=B4s ((z1.2).1) z5;let z4:=wI (z2+(1:Int));let z6:=B1S (((z1.2).2).2) z4;(.br (decide (x5<(x0.length:Int))) (.br z3 (.br ((z1.1) != x1) (.done .ret Z5 (((),(),(),(),(-1:Int),u45),())) (.br z3 (.br (A73 ((z1.2).1) z5) (.br (decide (z2<(0:Int))) (.done .ret Z5 (((),(),(),(),(-1:Int),u45),())) (.br z3 (.br ((((z1.2).2).1) != z2) (.done .ret Z5 (((),(),(),(),(-1:Int),u45),())) (.br z3 (.br (X8 (((z1.2).2).2) z4) (.br (decide (z6<(0:Int))) (.done .ret Z5 (((),(),(),(),(-1:Int),u45),())) (.next ((x0,z6,(),(),(),wI (x5+(1:Int)),u44),()))) .fail) .fail)) .fail)) .fail) .fail)) .fail) (.done (.exit 0) B5E (((),x1,u48),())))
abbrev B0p:=LT1×(Int)×(Int)
abbrev A8l:=Nat×(Int)×(Int)
def T8:A8l:=(99,((0:Int):Int),((0:Int):Int))
noncomputable def A9Y (x0:LT1) (x1 x5:Int):B0p ⊕ A8l:=let z1:=x0.getD x5.toNat ((0:Int),([],((0:Int),[])));let z3:=decide (0≤x5∧x5<(x0.length:Int));let z5:=wI (x1+(1:Int));let z2:=B4s ((z1.2).1) z5;let z4:=wI (z2+(1:Int));let z6:=B1S (((z1.2).2).2) z4;(cond (decide (x5<(x0.length:Int))) (cond z3 (cond ((z1.1) != x1) (.inr (0,(-1:Int),((0:Int):Int))) (cond z3 (cond (A73 ((z1.2).1) z5) (cond (decide (z2<(0:Int))) (.inr (0,(-1:Int),((0:Int):Int))) (cond z3 (cond ((((z1.2).2).1) != z2) (.inr (0,(-1:Int),((0:Int):Int))) (cond z3 (cond (X8 (((z1.2).2).2) z4) (cond (decide (z6<(0:Int))) (.inr (0,(-1:Int),((0:Int):Int))) (.inl (x0,z6,wI (x5+(1:Int))))) (.inr T8)) (.inr T8))) (.inr T8))) (.inr T8)) (.inr T8))) (.inr T8)) (.inr (1,((0:Int):Int),x1)))
noncomputable def A7V (x0:LT1) (x1 x5:Int):A8l:=itX (fun v:B0p=>A9Y v.1 v.2.1 v.2.2) T8 (x0,x1,x5)
noncomputable def B2n (a:A8l):CT:=(.br (a.1==0) (.done .ret Z5 (((),(),(),(),a.2.1,u45),())) (.br (a.1==1) (.done (.exit 0) B5E (((),a.2.2,u48),())) .fail))
noncomputable def C3A (x0:LT1) (x1 x5:Int):CT:=B2n (A7V x0 x1 x5)
noncomputable abbrev B2S:R1.den→RT R1.den:=(fun d=>B7v d.1.1 d.1.2.1 d.1.2.2.2.2.2.1)
noncomputable def B4i:Code:=((C9 0 (A0N Try.f80)).getD 0 (0,.skip)).2
noncomputable abbrev B7a (v:B0p):R1.den:=((v.1,v.2.1,(),(),(),v.2.2,u44),())
theorem C29:(∀ v:B0p,(B7v v.1 v.2.1 v.2.2).val=A6u B7a B2n (A9Y v.1 v.2.1 v.2.2))∧∀ a:A8l,CEnd R1.den (B2n a):=⟨fun v=>by repeat' first | apply A7x | rfl,fun a=>(A7k aCD (A7k aCD A7m))⟩
noncomputable def B6W (x0:LT1) (x1 x5:Int):Option (Ex×St):=let z1:=x0.getD x5.toNat ((0:Int),([],((0:Int),[])));let z3:=(⟨(.junk::.junk::.junk::.junk::(ti (-1:Int))::D1o),[],0,[]⟩:St);let z4:=decide (0≤x5∧x5<(x0.length:Int));let z6:=wI (x1+(1:Int));let z2:=B4s ((z1.2).1) z6;let z5:=wI (z2+(1:Int));let z7:=B1S (((z1.2).2).2) z5;(cond (decide (x5<(x0.length:Int))) (cond z4 (cond ((z1.1) != x1) (some (.ret,z3)) (cond z4 (cond (A73 ((z1.2).1) z6) (cond (decide (z2<(0:Int))) (some (.ret,z3)) (cond z4 (cond ((((z1.2).2).1) != z2) (some (.ret,z3)) (cond z4 (cond (X8 (((z1.2).2).2) z5) (cond (decide (z7<(0:Int))) (some (.ret,z3)) (some (.normal,(⟨((.t false tq2 x0)::(ti z7)::.junk::.junk::.junk::(ti (wI (x5+(1:Int))))::D1n),[],0,[]⟩:St)))) none) none)) none)) none) none)) none) (some ((.exit 0),(⟨(.junk::(ti x1)::D1p),[],0,[]⟩:St))))
theorem C1R:RdA G74 aLn 0 B4i R1 0 [] (kepts [4] [(0,[1])]) (fun d=>B6W d.1.1 d.1.2.1 d.1.2.2.2.2.2.1):=by
 intro d
 kernel_rfl
theorem C1X:∀ d:R1.den,(fun d=>B6W d.1.1 d.1.2.1 d.1.2.2.2.2.2.1) d=(B2S d).opt 0 []:=by
 intro d
 kernel_rfl
noncomputable abbrev B5W:St→Option Tree:=R1.say 0 [] [] (fun d=>C3A d.1.1 d.1.2.1 d.1.2.2.2.2.2.1)
theorem C2H:aPL B5W B4i:=SS.wp2 hlz [] B2S C1R C1X _ (fun d=>Runs.ofI2 (step:=B2S) B7a C29 rfl (d.1.1,d.1.2.1,d.1.2.2.2.2.2.1))
noncomputable def A86 (a0:LT1) (a1:Int):Int:=let z1:=A7V a0 a1 (0:Int);(cond (z1.1==0) (z1.2.1) (z1.2.2))
noncomputable abbrev B3c (r:Int):AV×List AObj:=((ti r),[])
noncomputable abbrev B6K:H6 B0I→AV×List AObj:=fun d=>B3c (A86 d.1 d.2.1)
noncomputable def A72 (a0:LT1) (a1:Int):Bool:=let z1:=A7V a0 a1 (0:Int);cond (z1.1==0) true (z1.1==1)
noncomputable abbrev B3N:H6 B0I→Bool:=fun d=>A72 d.1 d.2.1
noncomputable abbrev C5G:Nat→St→Option Tree:=fun b=>match b with | 0=>B5W | _=>fun _=>none
theorem C35:A7s true G74 (C5G) Try.f80 B0I B3N B6K:=by
 rintro ⟨a0,⟨a1,_⟩⟩ hp
 change A72 a0 a1=true at hp
 unfold A72 at hp
 refine Eq.trans (b:=(let z1:=A7V a0 a1 (0:Int);cond (z1.1==0) (some (B3c (z1.2.1))) (cond (z1.1==1) (some (B3c (z1.2.2))) none))) (by kernel_rfl) ?_
 exact (K6 B3c hp (fun hp=>rfl) (fun hp=>(A7v hp fun _h=>rfl)))
theorem C5X:aPP 80 (A2W B0I B3N B6K):=pcD true G74 (hl1 (i:=0) (by kernel_rfl) C2H) C35
noncomputable def S75:Tab:=Tab.add S74 80 (lift (A2W B0I B3N B6K))
noncomputable def D0J:FuncId→Bool:=qadd D0I 80
theorem G75:aPG S75 D0J:=G74.addQ C5X (cbl Try.f80) (fun _=>rfl)

abbrev D1x:List Sh:=.junk::C9A
abbrev u29:=((),u28)
abbrev D1k:List AV:=.junk::.junk::C85
abbrev D1j:List AV:=.junk::C85

noncomputable def I6 (x0:LIbe) (i:Nat) (k:Int):Int ⊕ Unit:=(cond (((x0.getD i ((0:Int),false)).1) != k) (.inr ()) (cond (!(((x0.getD i ((0:Int),false)).2)==((Int.tmod (wI (k+(1:Int))) (3:Int))==(0:Int)))) (.inr ()) (.inl (wI ((wI (k+(1:Int)))+(1:Int))))))
abbrev A7F:List PSh:=[.t tq4,.t (.int .i64)]
abbrev M1:SS:=⟨(.t false tq4::tI::.junk::.junk::.junk::tI::C9A),[]⟩
abbrev N7:SS:=⟨(.junk::.junk::.junk::.junk::tI::D1x),[]⟩
abbrev A8M:SS:=⟨(.junk::tI::C9B),[]⟩
noncomputable def A92 (x0:LIbe) (x1 x5:Int):RT M1.den:=let z1:=decide (0≤x5∧x5<(x0.length:Int));let z2:=x0.getD x5.toNat ((0:Int),false);let z3:=wI (x1+(1:Int));(.br (decide (x5<(x0.length:Int))) (.br z1 (.br ((z2.1) != x1) (.done .ret N7 (((),(),(),(),(-1:Int),u29),())) (.br z1 (.br (!((z2.2)==((Int.tmod z3 (3:Int))==(0:Int)))) (.done .ret N7 (((),(),(),(),(-1:Int),u29),())) (.next ((x0,wI (z3+(1:Int)),(),(),(),wI (x5+(1:Int)),u28),()))) .fail)) .fail) (.done (.exit 0) A8M (((),x1,u32),())))
noncomputable def W9 (x0:LIbe) (x1 x5:Int):CT:=(.br (decide (0≤x5)&&(decide (0≤x1∧x1≤100000*(x5+100))&&okL x0)) (.br (A7n (loopN (I6 x0) (x0.length - x5.toNat) x5.toNat x1)) (.done (.exit 0) A8M (((),(A7f (-1) (loopN (I6 x0) (x0.length - x5.toNat) x5.toNat x1)),u32),())) (.done .ret N7 (((),(),(),(),(-1:Int),u29),()))) .fail)
noncomputable abbrev N2:M1.den→RT M1.den:=(fun d=>A92 d.1.1 d.1.2.1 d.1.2.2.2.2.2.1)
noncomputable abbrev A7z (x0:LIbe) (x1 x5:Int):M1.den:=((x0,x1,(),(),(),x5,u28),())
noncomputable def B1o:Code:=((C9 0 (A0N Try.f81)).getD 0 (0,.skip)).2
theorem C0u (x0:LIbe) (x1 x5:Int):(W9 x0 x1 x5).val (D:=M1.den)=.fail∨Runs N2 (A7z x0 x1 x5) (W9 x0 x1 x5).val:=by
 cases hc:(decide (0≤x5)&&(decide (0≤x1∧x1≤100000*(x5+100))&&okL x0)) with
 | false=>left;simp only [W9,CT.val,hc,cond_false]
 | true =>
  right
  simp only [W9,CT.val,hc,cond_true]
  simp only [Bool.and_eq_true,decide_eq_true_eq] at hc
  obtain ⟨i,rfl⟩:=Int.eq_ofNat_of_zero_le hc.1
  have hs:=A7g hc.2.2
  have hk:=hc.2.1
  simp only [Int.toNat_natCast]
  have h:=Runs.loopN (step:=N2) (fun j b=>A7z x0 b (j:Int)) (fun i b=>0≤b∧b≤100000*((i:Int)+100)) (x0.length) (I6 x0)
   (fin:=fun b=>((.done (.exit 0) A8M (((),b,u32),())):CT).val) (bad:=fun _=>((.done .ret N7 (((),(),(),(),(-1:Int),u29),())):CT).val)
   (fun i b hi hb=>?_) (fun i b hi hb=>?_) (x0.length - i) i x1 rfl hk
  ·revert h
   cases loopN (I6 x0) (x0.length - i) i x1 with
   | inl b=>exact id
   | inr c=>exact id
  ·revert hb
   generalize b=k
   intro hb
   have w1:wI (k+(1:Int))=k+(1:Int):=A6A (by omega) (by omega)
   have w2:wI (k+(1:Int)+(1:Int))=k+(1:Int)+(1:Int):=A6A (by omega) (by omega)
   have e0:(decide (0≤(i:Int)∧(i:Int)<(x0.length:Int)))=true:=decide_eq_true (by omega)
   have e1:(decide (0≤(i:Int)∧(i:Int)<(x0.length:Int)))=true:=decide_eq_true (by omega)
   have h1:decide ((i:Int)<(x0.length:Int))=true:=decide_eq_true (by omega)
   have e:(N2 (A7z x0 k (i:Int))).val=(cond (((x0.getD i ((0:Int),false)).1) != k) ((.done .ret N7 (((),(),(),(),(-1:Int),u29),())):CT).val (cond (!(((x0.getD i ((0:Int),false)).2)==((Int.tmod (wI (k+(1:Int))) (3:Int))==(0:Int)))) ((.done .ret N7 (((),(),(),(),(-1:Int),u29),())):CT).val (.next (A7z x0 (wI ((wI (k+(1:Int)))+(1:Int))) ((i+1:Nat):Int))))):=by
    simp only [N2,A92,RT.val,h1,e0,e1,cond_true,A7o i (by omega),Int.toNat_natCast]
    rfl
   cases g0:(((x0.getD i ((0:Int),false)).1) != k) with
   | true=>exact .inr ⟨(),_,_,_,by simp only [I6,g0,cond_true,cond_false],by rw [e,g0];rfl,rfl,by simp⟩
   | false =>
    cases g1:(!(((x0.getD i ((0:Int),false)).2)==((Int.tmod (wI (k+(1:Int))) (3:Int))==(0:Int)))) with
    | true=>exact .inr ⟨(),_,_,_,by simp only [I6,g0,g1,cond_true,cond_false],by rw [e,g0,g1];rfl,rfl,by simp⟩
    | false =>
     exact .inl ⟨wI ((wI (k+(1:Int)))+(1:Int)),by simp only [I6,g0,g1,cond_false],by rw [w1,w2];omega,by rw [e,g0,g1];rfl⟩
  ·have h1:decide ((i:Int)<(x0.length:Int))=false:=decide_eq_false (by omega)
   exact ⟨by simp only [N2,A92,RT.val,h1,cond_false];rfl,_,_,_,rfl,by simp⟩
noncomputable def B3q (x0:LIbe) (x1 x5:Int):Option (Ex×St):=let z1:=(⟨(.junk::.junk::.junk::.junk::(ti (-1:Int))::D1k),[],0,[]⟩:St);let z2:=decide (0≤x5∧x5<(x0.length:Int));let z3:=x0.getD x5.toNat ((0:Int),false);let z4:=wI (x1+(1:Int));(cond (decide (x5<(x0.length:Int))) (cond z2 (cond ((z3.1) != x1) (some (.ret,z1)) (cond z2 (cond (!((z3.2)==((Int.tmod z4 (3:Int))==(0:Int)))) (some (.ret,z1)) (some (.normal,(⟨((.t false tq4 x0)::(ti (wI (z4+(1:Int))))::.junk::.junk::.junk::(ti (wI (x5+(1:Int))))::D1j),[],0,[]⟩:St)))) none)) none) (some ((.exit 0),(⟨(.junk::(ti x1)::C9q),[],0,[]⟩:St))))
theorem B9h:RdA G75 aLn 0 B1o M1 0 [] (kepts [4] [(0,[1])]) (fun d=>B3q d.1.1 d.1.2.1 d.1.2.2.2.2.2.1):=by
 intro d
 kernel_rfl
theorem B9k:∀ d:M1.den,(fun d=>B3q d.1.1 d.1.2.1 d.1.2.2.2.2.2.1) d=(N2 d).opt 0 []:=by
 intro d
 kernel_rfl
noncomputable abbrev B2O:St→Option Tree:=M1.say 0 [] [] (fun d=>W9 d.1.1 d.1.2.1 d.1.2.2.2.2.2.1)
theorem B9Z:aPL B2O B1o:=SS.wp2 hlz [] N2 B9h B9k _ (fun d=>C0u d.1.1 d.1.2.1 d.1.2.2.2.2.2.1)
noncomputable def A8d (a0:LIbe) (a1:Int):Int:=let z1:=loopN (I6 a0) (a0.length - (0:Int).toNat) (0:Int).toNat a1;(cond (A7n z1) (A7f (-1) z1) (-1:Int))
noncomputable abbrev A9x (r:Int):AV×List AObj:=((ti r),[])
noncomputable abbrev B2s:H6 A7F→AV×List AObj:=fun d=>A9x (A8d d.1 d.2.1)
noncomputable def P2 (a0:LIbe) (a1:Int):Bool:=okL a0&&decide (0≤a1∧a1≤10000000)
noncomputable abbrev B0h:H6 A7F→Bool:=fun d=>P2 d.1 d.2.1
noncomputable abbrev C18:Nat→St→Option Tree:=fun b=>match b with | 0=>B2O | _=>fun _=>none
theorem C02:A7s true G75 (C18) Try.f81 A7F B0h B2s:=by
 rintro ⟨a0,⟨a1,_⟩⟩ hp
 change P2 a0 a1=true at hp
 unfold P2 at hp
 refine Eq.trans (b:=(let z1:=loopN (I6 a0) (a0.length - (0:Int).toNat) (0:Int).toNat a1;cond (decide (0≤(0:Int))&&(decide (0≤a1∧a1≤100000*((0:Int)+100))&&okL a0)) (cond (A7n z1) (some (A9x (A7f (-1) z1))) (some (A9x (-1:Int)))) none)) (by kernel_rfl) ?_
 exact (A7v (by first | rfl | decide | exact hp | (simp only [Bool.and_eq_true] at hp;simp only [hp];done) | (simp [*];done) | (simp [okL] at hp;simp [okL,MAXB];omega) | (simp_all;done) | (simp at *;omega)) (fun _h=>(O8 A9x (fun _h=>rfl) (fun _h=>rfl))))
theorem C2h:aPP 81 (A2W A7F B0h B2s):=pcD true G75 (hl1 (i:=0) (by kernel_rfl) B9Z) C02
noncomputable def S76:Tab:=Tab.add S75 81 (lift (A2W A7F B0h B2s))
noncomputable def D0K:FuncId→Bool:=qadd D0J 81
theorem G76:aPG S76 D0K:=G75.addQ C2h (cbl Try.f81) (fun _=>rfl)

abbrev A9m:List PSh:=[.agg [(.int .i64),(.int .i64),(.int .i64),tq2,tq4,(.int .i64)],.t (.int .i64)]
noncomputable def B5h (a0 a1 a2:Int) (a3:LT1) (a4:LIbe) (a5 a6:Int):Int:=let z1:=A8d a4 (A86 a3 a6);(cond (decide ((A86 a3 a6)<(0:Int))) (-1:Int) (cond (decide (z1<(0:Int))) (-1:Int) z1))
noncomputable abbrev A9y (r:Int):AV×List AObj:=((ti r),[])
noncomputable abbrev B44:H6 A9m→AV×List AObj:=fun d=>A9y (B5h d.1.1 d.1.2.1 d.1.2.2.1 d.1.2.2.2.1 d.1.2.2.2.2.1 d.1.2.2.2.2.2.1 d.2.1)
noncomputable def Z2 (a0 a1 a2:Int) (a3:LT1) (a4:LIbe) (a5 a6:Int):Bool:=(A72 a3 a6)&&(cond (decide ((A86 a3 a6)<(0:Int))) true (P2 a4 (A86 a3 a6)))
noncomputable abbrev B2H:H6 A9m→Bool:=fun d=>Z2 d.1.1 d.1.2.1 d.1.2.2.1 d.1.2.2.2.1 d.1.2.2.2.2.1 d.1.2.2.2.2.2.1 d.2.1
theorem C3g:A7s true G76 aLn Try.f36 A9m B2H B44:=by
 rintro ⟨⟨a0,⟨a1,⟨a2,⟨a3,⟨a4,⟨a5,_⟩⟩⟩⟩⟩⟩,⟨a6,_⟩⟩ hp
 change Z2 a0 a1 a2 a3 a4 a5 a6=true at hp
 unfold Z2 at hp
 refine Eq.trans (b:=(let z1:=A86 a3 a6;let z2:=A9y (-1:Int);let z3:=A8d a4 z1;cond (A72 a3 a6) (cond (decide (z1<(0:Int))) (some z2) (cond (P2 a4 z1) (cond (decide (z3<(0:Int))) (some z2) (some (A9y z3))) none)) none)) (by kernel_rfl) ?_
 exact (A7t hp fun hp=>(K6 A9y hp (fun hp=>rfl) (fun hp=>(A7v hp fun _h=>(O8 A9y (fun _h=>rfl) (fun _h=>rfl))))))
theorem C4D:aPP 36 (A2W A9m B2H B44):=pcD true G76 hlz C3g
noncomputable def S77:Tab:=Tab.add S76 36 (lift (A2W A9m B2H B44))
noncomputable def D1h:FuncId→Bool:=qadd D0K 36
theorem G77:aPG S77 D1h:=G76.addQ C4D (cbl Try.f36) (fun _=>rfl)


end Go.Proofs.Ytapikgcgahomlaa.Eng
