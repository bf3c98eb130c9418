/- What the functions that FnExactWorldOk reaches compute: further. -/
import Derived.Test.YtcofibhklbfgoaaGreatFExactWorldOkC
namespace Go.Proofs.YtcofibhklbfgoaaGreat.Eng
open Go Go.RowKit
set_option linter.unusedSimpArgs false
set_option linter.unusedVariables false
set_option maxRecDepth 10000
abbrev F7o:List AV:=.junk::.junk::.junk::.junk::F5O
abbrev D0s:List PSh:=[.t Z3,.t tq7]
abbrev A9R:SS:=⟨(.junk::.junk::.junk::.junk::.junk::.all 0 2::.junk::.junk::.junk::.junk::.t false tq7::tI::tI::B9R),[.rows 105 true L1]⟩
abbrev D6M:SS:=⟨(.junk::.junk::.junk::.junk::.junk::.all 0 2::F7A),[.rows 105 true L1]⟩
noncomputable def D3q (x10:Lq2) (x12:Int) (h0:LBBe):=let z1:=(x10.getD x12.toNat ((0:Int),(bE,bE))).2;E1T (z1.1) (z1.2) h0
noncomputable def D3u (x10:Lq2) (x12:Int) (h0:LBBe):=E1Q h0 (((x10.getD x12.toNat ((0:Int),(bE,bE))).2).1)
noncomputable def E0T (x10:Lq2) (x11 x12:Int) (h0:LBBe):RT A9R.den:=let z1:=x10.getD x12.toNat ((0:Int),(bE,bE));(.br (decide (x12<x11)) (.br (decide (0≤x12∧x12<(x10.length:Int))) (.br ((z1.1)==(1:Int)) (.br (B49 ((z1.2).1) ((z1.2).2) h0) (.next (((),(),(),(),(),(),(),(),(),(),x10,x11,wI (x12+(1:Int)),u22),((D3q x10 x12 h0),()))) .fail) (.br ((z1.1)==(2:Int)) (.br (B47 h0 ((z1.2).1)) (.next (((),(),(),(),(),(),(),(),(),(),x10,x11,wI (x12+(1:Int)),u22),((D3u x10 x12 h0),()))) .fail) (.next (((),(),(),(),(),(),(),(),(),(),x10,x11,wI (x12+(1:Int)),u22),(h0,()))))) .fail) (.done (.exit 0) D6M ((u35),(h0,()))))
abbrev B7g:=(Lq2)×(Int)×(Int)×(LBBe)
abbrev B67:=Nat×(LBBe)
def B81:B67:=(99,([]:LBBe))
noncomputable def B9t (x10:Lq2) (x11 x12:Int) (h0:LBBe):B7g ⊕ B67:=let z1:=x10.getD x12.toNat ((0:Int),(bE,bE));(cond (decide (x12<x11)) (cond (decide (0≤x12∧x12<(x10.length:Int))) (cond ((z1.1)==(1:Int)) (cond (B49 ((z1.2).1) ((z1.2).2) h0) (.inl (x10,x11,wI (x12+(1:Int)),(D3q x10 x12 h0))) (.inr B81)) (cond ((z1.1)==(2:Int)) (cond (B47 h0 ((z1.2).1)) (.inl (x10,x11,wI (x12+(1:Int)),(D3u x10 x12 h0))) (.inr B81)) (.inl (x10,x11,wI (x12+(1:Int)),h0)))) (.inr B81)) (.inr (0,h0)))
noncomputable def B84 (x10:Lq2) (x11 x12:Int) (h0:LBBe):B67:=itX (fun v:B7g=>B9t v.1 v.2.1 v.2.2.1 v.2.2.2) B81 (x10,x11,x12,h0)
noncomputable def D08 (a:B67):CT:=(.br (a.1==0) (.done (.exit 0) D6M ((u35),(a.2,()))) .fail)
noncomputable def F03 (x10:Lq2) (x11 x12:Int) (h0:LBBe):CT:=D08 (B84 x10 x11 x12 h0)
noncomputable abbrev C3N {α:Sort _} (f:Lq2→Int→Int→LBBe→α) (d:A9R.den):α:=f d.1.2.2.2.2.2.2.2.2.2.2.1 d.1.2.2.2.2.2.2.2.2.2.2.2.1 d.1.2.2.2.2.2.2.2.2.2.2.2.2.1 d.2.1
noncomputable abbrev D2K:A9R.den→RT A9R.den:=(C3N E0T)
noncomputable def D4h:Code:=((C4 0 (A0y Tryz.f138)).getD 0 (0,.skip)).2
noncomputable abbrev E0H (v:B7g):A9R.den:=(((),(),(),(),(),(),(),(),(),(),v.1,v.2.1,v.2.2.1,u22),(v.2.2.2,()))
theorem E93:(∀ v:B7g,(E0T v.1 v.2.1 v.2.2.1 v.2.2.2).val=A5T E0H D08 (B9t v.1 v.2.1 v.2.2.1 v.2.2.2))∧∀ a:B67,CEnd A9R.den (D08 a):=⟨fun v=>by repeat' first | apply A6V | rfl,fun a=>(A6I aCD A6K)⟩
noncomputable def E0t (x10:Lq2) (x11 x12:Int) (h0:LBBe):Option (Ex×St):=let z1:=x10.getD x12.toNat ((0:Int),(bE,bE));let z2:=ti (wI (x12+(1:Int)));(cond (decide (x12<x11)) (cond (decide (0≤x12∧x12<(x10.length:Int))) (cond ((z1.1)==(1:Int)) (cond (B49 ((z1.2).1) ((z1.2).2) h0) (some (.normal,(⟨(.junk::.junk::.junk::.junk::.junk::(.all 0 2)::.junk::.junk::.junk::.junk::(.t false tq7 x10)::(ti x11)::z2::F7o),[(.rows 105 true L1 (D3q x10 x12 h0))],0,[]⟩:St))) none) (cond ((z1.1)==(2:Int)) (cond (B47 h0 ((z1.2).1)) (some (.normal,(⟨(.junk::.junk::.junk::.junk::.junk::(.all 0 2)::.junk::.junk::.junk::.junk::(.t false tq7 x10)::(ti x11)::z2::F7o),[(.rows 105 true L1 (D3u x10 x12 h0))],0,[]⟩:St))) none) (some (.normal,(⟨(.junk::.junk::.junk::.junk::.junk::(.all 0 2)::.junk::.junk::.junk::.junk::(.t false tq7 x10)::(ti x11)::z2::F7o),[(.rows 105 true L1 h0)],0,[]⟩:St))))) none) (some ((.exit 0),(⟨(.junk::.junk::.junk::.junk::.junk::(.all 0 2)::G0c),[(.rows 105 true L1 h0)],0,[]⟩:St))))
theorem E7f:RdA F48 aLn 0 D4h A9R 0 [] (kepts [] [(0,[5])]) (C3N E0t):=by
 intro d
 kernel_rfl
theorem E7s:∀ d:A9R.den,(C3N E0t) d=(D2K d).opt 0 []:=by
 intro d
 kernel_rfl
noncomputable abbrev D8p:St→Option Tree:=A9R.say 0 [] [] (C3N F03)
theorem E9J:aPL D8p D4h:=SS.wp2 hlz [] D2K E7f E7s _ (fun d=>Runs.ofI2 (step:=D2K) E0H E93 rfl (d.1.2.2.2.2.2.2.2.2.2.2.1,d.1.2.2.2.2.2.2.2.2.2.2.2.1,d.1.2.2.2.2.2.2.2.2.2.2.2.2.1,d.2.1))
noncomputable def C7J (a0:LBBe) (a1:Lq2):LBBe:=((B84 a1 (a1.length:Int) (0:Int) (N4 a0)).2)
noncomputable abbrev E9f (r:LBBe):AV×List AObj:=((.all 0 2),[(.rows 105 true L1 r)])
noncomputable abbrev E2y:F5 D0s→AV×List AObj:=fun d=>E9f (C7J d.1 d.2.1)
noncomputable def B6v (a0:LBBe) (a1:Lq2):Bool:=(M0 a0)&&((B84 a1 (a1.length:Int) (0:Int) (N4 a0)).1==0)
noncomputable abbrev D6e:F5 D0s→Bool:=fun d=>B6v d.1 d.2.1
noncomputable abbrev F3X:Nat→St→Option Tree:=fun b=>match b with | 0=>D8p | _=>fun _=>none
theorem F1U:A6Q false F48 (F3X) Tryz.f138 D0s D6e E2y:=by
 rintro ⟨a0,⟨a1,_⟩⟩ hp
 change B6v a0 a1=true at hp
 unfold B6v at hp
 refine Eq.trans (b:=(let z1:=B84 a1 (a1.length:Int) (0:Int) (N4 a0);cond (M0 a0) (cond (z1.1==0) (some (E9f (z1.2))) none) none)) (by kernel_rfl) ?_
 exact (A6R hp fun hp=>(A6T hp fun _h=>rfl))
theorem F4d:aPP 138 (A2z D0s D6e E2y):=pcD false F48 (hl1 (i:=0) (by kernel_rfl) E9J) F1U
noncomputable def F9t:Tab:=Tab.add F9s 138 (lift (A2z D0s D6e E2y))
noncomputable def F6c:FuncId→Bool:=F6b
theorem F6X:aPG F9t F6c:=F48.add F4d (cbl Tryz.f138) (by kernel_rfl)

abbrev B5H:SS:=⟨[.ptr 0 0 1 0,.agg [.t true (.int .i64),.t true (.int .i64),.t false tq7],.t false tq8],[.box [.nil,.nil]]⟩
noncomputable def E9z (x1_0 x1_1:Int) (x1_2:Lq2) (x2:Lq1):Bool×Lq1:=let z1:=decide ((A8a x2 x1_1) ≥ (0:Int));(cond (x1_0==(1:Int)) (cond z1 (false,([]:Lq1)) (cond (A7q [] x1_2) (false,([]:Lq1)) (cond (!(B9O [] x1_2)) (false,([]:Lq1)) (true,[((1:Int),(x1_1,(N0 x1_2)))])))) (cond (x1_0==(3:Int)) (!z1,([]:Lq1)) (false,([]:Lq1))))
noncomputable abbrev A0f (r:Bool×Lq1):AV×List AObj×List Nat:=((.t true .bool r.1),[(.box [(.raw (.slice none 0 0)),(.all 1 3)]),(.rows 108 true B4I r.2)],[])
noncomputable abbrev D4x:B5H.den→AV×List AObj×List Nat:=fun d=>A0f (E9z d.1.2.1.1 d.1.2.1.2.1 d.1.2.1.2.2.1 d.1.2.2.1)
noncomputable def C43 (x1_0 x1_1:Int) (x1_2:Lq2) (x2:Lq1):Bool:=(A63 x2 x1_1)&&(cond (x1_0==(1:Int)) (cond (decide ((A8a x2 x1_1) ≥ (0:Int))) true ((X7 [] x1_2)&&(cond (A7q [] x1_2) true ((B2g [] x1_2)&&(cond (!(B9O [] x1_2)) true ((M6 x1_2)&&(decide ([((1:Int),(x1_1,(N0 x1_2)))].length*40≤MAXB)))))))) ((A63 [] x1_1)&&(decide ((A8a [] x1_1)<(0:Int)))))
noncomputable abbrev C9w:B5H.den→Bool:=fun d=>C43 d.1.2.1.1 d.1.2.1.2.1 d.1.2.1.2.2.1 d.1.2.2.1
theorem E1K:A6O false [] [] [(0,1,99999,108,B4I)] F6X aLn Tryz.f97 B5H C9w D4x:=by
 rintro ⟨⟨_,⟨x1_0,x1_1,x1_2,_⟩,x2,_⟩,⟨⟨_,_,_⟩,_⟩⟩ hp
 change C43 x1_0 x1_1 x1_2 x2=true at hp
 unfold C43 at hp
 refine Eq.trans (b:=(let z1:=A0f (false,([]:Lq1));let z2:=decide ((A8a x2 x1_1) ≥ (0:Int));let z3:=N0 x1_2;cond (A63 x2 x1_1) (cond (x1_0==(1:Int)) (cond z2 (some z1) (cond (X7 [] x1_2) (cond (A7q [] x1_2) (some z1) (cond (B2g [] x1_2) (cond (!(B9O [] x1_2)) (some z1) (cond (M6 x1_2) (cond (decide ([((1:Int),(x1_1,z3))].length*40≤MAXB)) (some (A0f (true,[((1:Int),(x1_1,z3))]))) none) none)) none)) none)) (cond (A63 [] x1_1) (cond (decide ((A8a [] x1_1)<(0:Int))) (cond (x1_0==(3:Int)) (some (A0f (!z2,([]:Lq1)))) (some z1)) (cond (x1_0==(2:Int)) none none)) none)) none)) (by kernel_rfl) ?_
 exact (A6R hp fun hp=>(H7 A0f hp (fun hp=>(H7 A0f hp (fun hp=>rfl) (fun hp=>(A6R hp fun hp=>(H7 A0f hp (fun hp=>rfl) (fun hp=>(A6R hp fun hp=>(H7 A0f hp (fun hp=>rfl) (fun hp=>(A6R hp fun hp=>(A6T hp fun _h=>rfl))))))))))) (fun hp=>(A6R hp fun hp=>(A6T hp fun _h=>(L7 A0f (fun _h=>rfl) (fun _h=>rfl)))))))
noncomputable abbrev B8m:=win E7 (msum B5H C9w D4x)
theorem C4z:aPM 97 B8m:=(mcE false [] [] [(0,1,99999,108,B4I)]  F6X hlz E1K).win E7
noncomputable def F9u:Tab:=Tab.add F9t 97 (B8m)
noncomputable def F6d:FuncId→Bool:=F6c
theorem F6Y:aPG F9u F6d:=F6X.addM C4z (A6r _) (cbl Tryz.f97) (by kernel_rfl)

abbrev A8f:SS:=⟨[.all 0 3,tI,tI],[.rows 108 true B4I]⟩
noncomputable def U5 (x1 x2:Int) (h0:Lq1):Lq1:=let z1:=(h0.drop x2.toNat).take ((h0.length:Int).toNat - x2.toNat);let z2:=(h0.length:Int).toNat - ((x1.toNat+z1.length:Nat):Int).toNat;let z3:=(h0.take x1.toNat++z1)++h0.drop (x1.toNat+z1.length);(cond (x1==x2) h0 (((z3.take (((x1.toNat+z1.length:Nat):Int).toNat)++List.replicate z2 ((0:Int),((0:Int),[])))++z3.drop ((((x1.toNat+z1.length:Nat):Int).toNat)+z2)).take (x1.toNat+z1.length)))
noncomputable abbrev A8B (r:Lq1):AV×List AObj×List Nat:=((.all 0 3),[(.rows 108 true B4I r)],[0])
noncomputable abbrev B83:A8f.den→AV×List AObj×List Nat:=fun d=>A8B (U5 d.1.2.1 d.1.2.2.1 d.2.1)
noncomputable def N2 (x1 x2:Int) (h0:Lq1):Bool:=let z1:=(h0.drop x2.toNat).take ((h0.length:Int).toNat - x2.toNat);(decide (0≤x1∧x1≤x2∧x2≤(h0.length:Int)∧(h0.length:Int)≤(h0.length:Int)))&&(cond (x1==x2) true ((decide (0≤(0:Int)∧(0:Int)≤x1∧x1≤(h0.length:Int)))&&((decide (0≤x2∧x2≤(h0.length:Int)∧(h0.length:Int)≤(h0.length:Int)))&&((decide (x1.toNat+z1.length≤h0.length))&&(decide (0≤((x1.toNat+z1.length:Nat):Int)∧((x1.toNat+z1.length:Nat):Int)≤(h0.length:Int)∧(h0.length:Int)≤((((h0.take x1.toNat++z1)++h0.drop (x1.toNat+z1.length)).length:Nat):Int)))))))
noncomputable abbrev B6u:A8f.den→Bool:=fun d=>N2 d.1.2.1 d.1.2.2.1 d.2.1
theorem C8v:A6O false [] [0] [] F6Y aLn Tryz.f139 A8f B6u B83:=by
 rintro ⟨⟨_,x1,x2,_⟩,⟨h0,_⟩⟩ hp
 change N2 x1 x2 h0=true at hp
 unfold N2 at hp
 refine Eq.trans (b:=(let z1:=(h0.drop x2.toNat).take ((h0.length:Int).toNat - x2.toNat);let z2:=(h0.take x1.toNat++z1)++h0.drop (x1.toNat+z1.length);let z3:=(h0.length:Int).toNat - ((x1.toNat+z1.length:Nat):Int).toNat;cond (decide (0≤x1∧x1≤x2∧x2≤(h0.length:Int)∧(h0.length:Int)≤(h0.length:Int))) (cond (x1==x2) (some (A8B h0)) (cond (decide (0≤(0:Int)∧(0:Int)≤x1∧x1≤(h0.length:Int))) (cond (decide (0≤x2∧x2≤(h0.length:Int)∧(h0.length:Int)≤(h0.length:Int))) (cond (decide (x1.toNat+z1.length≤h0.length)) (cond (decide (0≤((x1.toNat+z1.length:Nat):Int)∧((x1.toNat+z1.length:Nat):Int)≤(h0.length:Int)∧(h0.length:Int)≤((z2.length:Nat):Int))) (some (A8B (((z2.take (((x1.toNat+z1.length:Nat):Int).toNat)++List.replicate z3 ((0:Int),((0:Int),[])))++z2.drop ((((x1.toNat+z1.length:Nat):Int).toNat)+z3)).take (x1.toNat+z1.length)))) none) none) none) none)) none)) (by kernel_rfl) ?_
 exact (A6R hp fun hp=>(H7 A8B hp (fun hp=>rfl) (fun hp=>(A6R hp fun hp=>(A6R hp fun hp=>(A6R hp fun hp=>(A6T hp fun _h=>rfl)))))))
noncomputable abbrev B9a:=win E7 (msum A8f B6u B83)
theorem D06:aPM 139 B9a:=(mcE false [] [0] []  F6Y hlz C8v).win E7
noncomputable def F9v:Tab:=Tab.add F9u 139 (B9a)
noncomputable def F6e:FuncId→Bool:=F6d
theorem F6Z:aPG F9v F6e:=F6Y.addM D06 (A6r _) (cbl Tryz.f139) (by kernel_rfl)

abbrev B04:SS:=⟨[.ptr 0 0 1 0,.agg [.t true (.int .i64),.t true (.int .i64),.t false tq7],.t false tq8],[.box [.nil,.all 1 3],.rows 108 true B4I]⟩
noncomputable def E2W (x1_0 x1_1:Int) (x1_2:Lq2) (x2 h1:Lq1):Bool×Lq1×LBBe:=let z3:=A8a h1 x1_1;let z1:=U5 z3 (wI (z3+(1:Int))) h1;let z2:=C7J [] (((h1.getD (z3.toNat) ((0:Int),((0:Int),[]))).2).2);let z4:=decide ((A8a x2 x1_1) ≥ (0:Int));(cond (x1_0==(1:Int)) (cond z4 (false,h1,([]:LBBe)) (cond (A7q h1 x1_2) (false,h1,([]:LBBe)) (cond (!(B9O [] x1_2)) (false,h1,([]:LBBe)) (true,h1++[((1:Int),(x1_1,(N0 x1_2)))],([]:LBBe))))) (cond (decide (z3<(0:Int))) (cond (x1_0==(3:Int)) (!z4,h1,([]:LBBe)) (false,h1,([]:LBBe))) (cond (x1_0==(2:Int)) (decide (((z2.length:Nat):Int)≤(60:Int)),z1,z2) (decide (((0:Nat):Int)≤(60:Int)),z1,([]:LBBe)))))
noncomputable abbrev M1 (r:Bool×Lq1×LBBe):AV×List AObj×List Nat:=((.t true .bool r.1),[(.box [(.all 2 2),(.all 1 3)]),(.rows 108 true B4I r.2.1),(.rows 105 true L1 r.2.2)],[1])
noncomputable abbrev C6l:B04.den→AV×List AObj×List Nat:=fun d=>M1 (E2W d.1.2.1.1 d.1.2.1.2.1 d.1.2.1.2.2.1 d.1.2.2.1 d.2.2.1)
noncomputable def B7D (x1_0 x1_1:Int) (x1_2:Lq2) (x2 h1:Lq1):Bool:=let z1:=A8a h1 x1_1;let z2:=N2 z1 (wI (z1+(1:Int))) h1;(A63 x2 x1_1)&&(cond (x1_0==(1:Int)) (cond (decide ((A8a x2 x1_1) ≥ (0:Int))) true ((X7 h1 x1_2)&&(cond (A7q h1 x1_2) true ((B2g [] x1_2)&&(cond (!(B9O [] x1_2)) true ((M6 x1_2)&&(decide ((h1.length+[((1:Int),(x1_1,(N0 x1_2)))].length)*40≤MAXB)))))))) ((A63 h1 x1_1)&&(cond (decide (z1<(0:Int))) true (cond (x1_0==(2:Int)) ((decide (0≤z1∧z1<(h1.length:Int)))&&((B6v [] (((h1.getD (z1.toNat) ((0:Int),((0:Int),[]))).2).2))&&z2)) z2))))
noncomputable abbrev C20:B04.den→Bool:=fun d=>B7D d.1.2.1.1 d.1.2.1.2.1 d.1.2.1.2.2.1 d.1.2.2.1 d.2.2.1
theorem D6F:A6O false [] [1] [(0,0,99999,105,L1)] F6Z aLn Tryz.f97 B04 C20 C6l:=by
 rintro ⟨⟨_,⟨x1_0,x1_1,x1_2,_⟩,x2,_⟩,⟨⟨_,_,_⟩,h1,_⟩⟩ hp
 change B7D x1_0 x1_1 x1_2 x2 h1=true at hp
 unfold B7D at hp
 refine Eq.trans (b:=(let z1:=A8a h1 x1_1;let z2:=M1 (false,h1,([]:LBBe));let z3:=((h1.getD (z1.toNat) ((0:Int),((0:Int),[]))).2).2;let z4:=wI (z1+(1:Int));let z5:=decide ((A8a x2 x1_1) ≥ (0:Int));let z6:=N2 z1 z4 h1;let z7:=U5 z1 z4 h1;let z8:=N0 x1_2;cond (A63 x2 x1_1) (cond (x1_0==(1:Int)) (cond z5 (some z2) (cond (X7 h1 x1_2) (cond (A7q h1 x1_2) (some z2) (cond (B2g [] x1_2) (cond (!(B9O [] x1_2)) (some z2) (cond (M6 x1_2) (cond (decide ((h1.length+[((1:Int),(x1_1,z8))].length)*40≤MAXB)) (some (M1 (true,h1++[((1:Int),(x1_1,z8))],([]:LBBe)))) none) none)) none)) none)) (cond (A63 h1 x1_1) (cond (decide (z1<(0:Int))) (cond (x1_0==(3:Int)) (some (M1 (!z5,h1,([]:LBBe)))) (some z2)) (cond (x1_0==(2:Int)) (cond (decide (0≤z1∧z1<(h1.length:Int))) (cond (B6v [] z3) (cond z6 (some (M1 (decide ((((C7J [] z3).length:Nat):Int)≤(60:Int)),z7,(C7J [] z3)))) none) none) none) (cond z6 (some (M1 (decide (((0:Nat):Int)≤(60:Int)),z7,([]:LBBe)))) none))) none)) none)) (by kernel_rfl) ?_
 exact (A6R hp fun hp=>(H7 M1 hp (fun hp=>(H7 M1 hp (fun hp=>rfl) (fun hp=>(A6R hp fun hp=>(H7 M1 hp (fun hp=>rfl) (fun hp=>(A6R hp fun hp=>(H7 M1 hp (fun hp=>rfl) (fun hp=>(A6R hp fun hp=>(A6T hp fun _h=>rfl))))))))))) (fun hp=>(A6R hp fun hp=>(H7 M1 hp (fun hp=>(L7 M1 (fun _h=>rfl) (fun _h=>rfl))) (fun hp=>(H7 M1 hp (fun hp=>(A6R hp fun hp=>(A6R hp fun hp=>(A6T hp fun _h=>rfl)))) (fun hp=>(A6T hp fun _h=>rfl)))))))))
noncomputable abbrev B7B:=win E7 (msum B04 C20 C6l)
theorem C6c:aPM 97 B7B:=(mcE false [] [1] [(0,0,99999,105,L1)]  F6Z hlz D6F).win E7
noncomputable def F9w:Tab:=Tab.add F9v 97 (A1N (B8m) (B7B))
noncomputable def F6f:FuncId→Bool:=F6e
theorem F60:aPG F9w F6f:=F6Z.addM (MContract.orElse C4z C6c) (A6e (A6r _) (A6r _)) (cbl Tryz.f97) (by kernel_rfl)

abbrev B05:SS:=⟨[.ptr 0 0 1 0,.agg [.t true (.int .i64),.t true (.int .i64),.t false tq7],.t false tq8],[.box [.all 1 2,.all 2 3],.rows 105 true L1,.rows 108 true B4I]⟩
noncomputable def B10 (x1_0 x1_1:Int) (x1_2:Lq2) (x2:Lq1) (h1:LBBe) (h2:Lq1):Bool×LBBe×Lq1:=let z3:=A8a h2 x1_1;let z1:=U5 z3 (wI (z3+(1:Int))) h2;let z2:=C7J h1 (((h2.getD (z3.toNat) ((0:Int),((0:Int),[]))).2).2);let z4:=decide ((A8a x2 x1_1) ≥ (0:Int));(cond (x1_0==(1:Int)) (cond z4 (false,h1,h2) (cond (A7q h2 x1_2) (false,h1,h2) (cond (!(B9O h1 x1_2)) (false,h1,h2) (true,h1,h2++[((1:Int),(x1_1,(N0 x1_2)))])))) (cond (decide (z3<(0:Int))) (cond (x1_0==(3:Int)) (!z4,h1,h2) (false,h1,h2)) (cond (x1_0==(2:Int)) (decide (((z2.length:Nat):Int)≤(60:Int)),z2,z1) (decide ((h1.length:Int)≤(60:Int)),h1,z1))))
noncomputable abbrev M2 (r:Bool×LBBe×Lq1):AV×List AObj×List Nat:=((.t true .bool r.1),[(.box [(.all 1 2),(.all 2 3)]),(.rows 105 true L1 r.2.1),(.rows 108 true B4I r.2.2)],[1,2])
noncomputable abbrev C6m:B05.den→AV×List AObj×List Nat:=fun d=>M2 (B10 d.1.2.1.1 d.1.2.1.2.1 d.1.2.1.2.2.1 d.1.2.2.1 d.2.2.1 d.2.2.2.1)
noncomputable def V2 (x1_0 x1_1:Int) (x1_2:Lq2) (x2:Lq1) (h1:LBBe) (h2:Lq1):Bool:=let z1:=A8a h2 x1_1;let z2:=N2 z1 (wI (z1+(1:Int))) h2;(A63 x2 x1_1)&&(cond (x1_0==(1:Int)) (cond (decide ((A8a x2 x1_1) ≥ (0:Int))) true ((X7 h2 x1_2)&&(cond (A7q h2 x1_2) true ((B2g h1 x1_2)&&(cond (!(B9O h1 x1_2)) true ((M6 x1_2)&&(decide ((h2.length+[((1:Int),(x1_1,(N0 x1_2)))].length)*40≤MAXB)))))))) ((A63 h2 x1_1)&&(cond (decide (z1<(0:Int))) true (cond (x1_0==(2:Int)) ((decide (0≤z1∧z1<(h2.length:Int)))&&((B6v h1 (((h2.getD (z1.toNat) ((0:Int),((0:Int),[]))).2).2))&&z2)) z2))))
noncomputable abbrev C21:B05.den→Bool:=fun d=>V2 d.1.2.1.1 d.1.2.1.2.1 d.1.2.1.2.2.1 d.1.2.2.1 d.2.2.1 d.2.2.2.1
theorem D6G:A6O false [] [1,2] [(0,0,1,105,L1)] F60 aLn Tryz.f97 B05 C21 C6m:=by
 rintro ⟨⟨_,⟨x1_0,x1_1,x1_2,_⟩,x2,_⟩,⟨⟨_,_,_⟩,h1,h2,_⟩⟩ hp
 change V2 x1_0 x1_1 x1_2 x2 h1 h2=true at hp
 unfold V2 at hp
 refine Eq.trans (b:=(let z1:=A8a h2 x1_1;let z2:=((h2.getD (z1.toNat) ((0:Int),((0:Int),[]))).2).2;let z3:=M2 (false,h1,h2);let z4:=wI (z1+(1:Int));let z5:=decide ((A8a x2 x1_1) ≥ (0:Int));let z6:=N2 z1 z4 h2;let z7:=U5 z1 z4 h2;let z8:=N0 x1_2;cond (A63 x2 x1_1) (cond (x1_0==(1:Int)) (cond z5 (some z3) (cond (X7 h2 x1_2) (cond (A7q h2 x1_2) (some z3) (cond (B2g h1 x1_2) (cond (!(B9O h1 x1_2)) (some z3) (cond (M6 x1_2) (cond (decide ((h2.length+[((1:Int),(x1_1,z8))].length)*40≤MAXB)) (some (M2 (true,h1,h2++[((1:Int),(x1_1,z8))]))) none) none)) none)) none)) (cond (A63 h2 x1_1) (cond (decide (z1<(0:Int))) (cond (x1_0==(3:Int)) (some (M2 (!z5,h1,h2))) (some z3)) (cond (x1_0==(2:Int)) (cond (decide (0≤z1∧z1<(h2.length:Int))) (cond (B6v h1 z2) (cond z6 (some (M2 (decide ((((C7J h1 z2).length:Nat):Int)≤(60:Int)),(C7J h1 z2),z7))) none) none) none) (cond z6 (some (M2 (decide ((h1.length:Int)≤(60:Int)),h1,z7))) none))) none)) none)) (by kernel_rfl) ?_
 exact (A6R hp fun hp=>(H7 M2 hp (fun hp=>(H7 M2 hp (fun hp=>rfl) (fun hp=>(A6R hp fun hp=>(H7 M2 hp (fun hp=>rfl) (fun hp=>(A6R hp fun hp=>(H7 M2 hp (fun hp=>rfl) (fun hp=>(A6R hp fun hp=>(A6T hp fun _h=>rfl))))))))))) (fun hp=>(A6R hp fun hp=>(H7 M2 hp (fun hp=>(L7 M2 (fun _h=>rfl) (fun _h=>rfl))) (fun hp=>(H7 M2 hp (fun hp=>(A6R hp fun hp=>(A6R hp fun hp=>(A6T hp fun _h=>rfl)))) (fun hp=>(A6T hp fun _h=>rfl)))))))))
noncomputable abbrev C6B:=win E7 (msum B05 C21 C6m)
theorem D80:aPM 97 C6B:=(mcE false [] [1,2] [(0,0,1,105,L1)]  F60 hlz D6G).win E7
noncomputable def F9x:Tab:=Tab.add F9w 97 (A1N (A1N (B8m) (B7B)) (C6B))
noncomputable def F6g:FuncId→Bool:=F6f
theorem F49:aPG F9x F6g:=F60.addM (MContract.orElse (MContract.orElse C4z C6c) D80) (A6e (A6e (A6r _) (A6r _)) (A6r _)) (cbl Tryz.f97) (by kernel_rfl)

abbrev G08:List AV:=.junk::.junk::.junk::F5O
abbrev B3y:List PSh:=[.t tq8]
abbrev T7:SS:=⟨(.t false tq8::.junk::.junk::.junk::.junk::.ptr 0 0 1 0::.junk::.junk::.t false tq8::tI::tI::F3v),[.box [.all 1 2,.all 2 3],.rows 105 true L1,.rows 108 true B4I]⟩
abbrev B5r:SS:=⟨(.junk::.junk::.nil::.nil::.t true .bool::D7E),[]⟩
abbrev C3E:SS:=⟨(.junk::.junk::.junk::.junk::.junk::.ptr 0 0 1 0::C95),[.box [.all 1 2,.all 2 3],.rows 105 true L1,.rows 108 true B4I]⟩
noncomputable def B6k (x8:Lq1) (x10:Int):=let z1:=x8.getD x10.toNat ((0:Int),((0:Int),[]));E6N (z1.1) ((z1.2).1) ((z1.2).2)
noncomputable def B6p (x0 x8:Lq1) (x10:Int) (h1:LBBe) (h2:Lq1):=let z1:=x8.getD x10.toNat ((0:Int),((0:Int),[]));B10 (z1.1) ((z1.2).1) ((z1.2).2) ((x0.take x10.toNat).drop (0:Int).toNat) h1 h2
noncomputable def C60 (x0 x8:Lq1) (x9 x10:Int) (h1:LBBe) (h2:Lq1):RT T7.den:=let z1:=x8.getD x10.toNat ((0:Int),((0:Int),[]));let z2:=B6p x0 x8 x10 h1 h2;(.br (decide (x10<x9)) (.br (decide (0≤x10∧x10<(x8.length:Int))) (.br (C3a (z1.1) ((z1.2).1) ((z1.2).2)) (.br (!(B6k x8 x10)) (.done .ret B5r (((),(),(),(),false,u27),())) (.br (decide (0≤(0:Int)∧(0:Int)≤x10∧x10≤(x0.length:Int))) (.br (V2 (z1.1) ((z1.2).1) ((z1.2).2) ((x0.take x10.toNat).drop (0:Int).toNat) h1 h2) (.br (!(z2.1)) (.done .ret B5r (((),(),(),(),false,u27),())) (.next ((x0,(),(),(),(),(),(),(),x8,x9,wI (x10+(1:Int)),u21),(((),(),()),(z2.2.1),(z2.2.2),())))) .fail) .fail)) .fail) .fail) (.done (.exit 0) C3E ((u32),(((),(),()),h1,h2,()))))
abbrev B0f:=(Lq1)×Lq1×(Int)×(Int)×LBBe×(Lq1)
abbrev A8k:=Nat×(Bool)×LBBe×(Lq1)
def A7O:A8k:=(99,(false:Bool),([]:LBBe),([]:Lq1))
noncomputable def A9t (x0 x8:Lq1) (x9 x10:Int) (h1:LBBe) (h2:Lq1):B0f ⊕ A8k:=let z1:=x8.getD x10.toNat ((0:Int),((0:Int),[]));let z2:=B6p x0 x8 x10 h1 h2;(cond (decide (x10<x9)) (cond (decide (0≤x10∧x10<(x8.length:Int))) (cond (C3a (z1.1) ((z1.2).1) ((z1.2).2)) (cond (!(B6k x8 x10)) (.inr (0,false,([]:LBBe),([]:Lq1))) (cond (decide (0≤(0:Int)∧(0:Int)≤x10∧x10≤(x0.length:Int))) (cond (V2 (z1.1) ((z1.2).1) ((z1.2).2) ((x0.take x10.toNat).drop (0:Int).toNat) h1 h2) (cond (!(z2.1)) (.inr (0,false,([]:LBBe),([]:Lq1))) (.inl (x0,x8,x9,wI (x10+(1:Int)),(z2.2.1),(z2.2.2)))) (.inr A7O)) (.inr A7O))) (.inr A7O)) (.inr A7O)) (.inr (1,(false:Bool),h1,h2)))
noncomputable def C6p (x0 x8:Lq1) (x9 x10:Int) (h1:LBBe) (h2:Lq1):A8k:=itX (fun v:B0f=>A9t v.1 v.2.1 v.2.2.1 v.2.2.2.1 v.2.2.2.2.1 v.2.2.2.2.2) A7O (x0,x8,x9,x10,h1,h2)
noncomputable def B7m (a:A8k):CT:=(.br (a.1==0) (.done .ret B5r (((),(),(),(),a.2.1,u27),())) (.br (a.1==1) (.done (.exit 0) C3E ((u32),(((),(),()),a.2.2.1,a.2.2.2,()))) .fail))
noncomputable def E02 (x0 x8:Lq1) (x9 x10:Int) (h1:LBBe) (h2:Lq1):CT:=B7m (C6p x0 x8 x9 x10 h1 h2)
noncomputable abbrev B2A {α:Sort _} (f:Lq1→Lq1→Int→Int→LBBe→Lq1→α) (d:T7.den):α:=f d.1.1 d.1.2.2.2.2.2.2.2.2.1 d.1.2.2.2.2.2.2.2.2.2.1 d.1.2.2.2.2.2.2.2.2.2.2.1 d.2.2.1 d.2.2.2.1
noncomputable abbrev B7R:T7.den→RT T7.den:=(B2A C60)
noncomputable def C2d:Code:=((C4 0 (A0y Tryz.f48)).getD 0 (0,.skip)).2
noncomputable abbrev C6G (v:B0f):T7.den:=((v.1,(),(),(),(),(),(),(),v.2.1,v.2.2.1,v.2.2.2.1,u21),(((),(),()),v.2.2.2.2.1,v.2.2.2.2.2,()))
theorem D90:(∀ v:B0f,(C60 v.1 v.2.1 v.2.2.1 v.2.2.2.1 v.2.2.2.2.1 v.2.2.2.2.2).val=A5T C6G B7m (A9t v.1 v.2.1 v.2.2.1 v.2.2.2.1 v.2.2.2.2.1 v.2.2.2.2.2))∧∀ a:A8k,CEnd T7.den (B7m a):=⟨fun v=>by repeat' first | apply A6V | rfl,fun a=>(A6I aCD (A6I aCD A6K))⟩
noncomputable def C6C (x0 x8:Lq1) (x9 x10:Int) (h1:LBBe) (h2:Lq1):Option (Ex×St):=let z1:=x8.getD x10.toNat ((0:Int),((0:Int),[]));let z2:=(⟨(.junk::.junk::(.raw (.slice none 0 0))::(.raw (.slice none 0 0))::(.t true .bool false)::F7p),[],0,[]⟩:St);let z3:=B6p x0 x8 x10 h1 h2;(cond (decide (x10<x9)) (cond (decide (0≤x10∧x10<(x8.length:Int))) (cond (C3a (z1.1) ((z1.2).1) ((z1.2).2)) (cond (!(B6k x8 x10)) (some (.ret,z2)) (cond (decide (0≤(0:Int)∧(0:Int)≤x10∧x10≤(x0.length:Int))) (cond (V2 (z1.1) ((z1.2).1) ((z1.2).2) ((x0.take x10.toNat).drop (0:Int).toNat) h1 h2) (cond (!(z3.1)) (some (.ret,z2)) (some (.normal,(⟨((.t false tq8 x0)::.junk::.junk::.junk::.junk::(.ptr 0 0 1 0)::.junk::.junk::(.t false tq8 x8)::(ti x9)::(ti (wI (x10+(1:Int))))::G08),[(.box [(.all 1 2),(.all 2 3)]),(.rows 105 true L1 (z3.2.1)),(.rows 108 true B4I (z3.2.2))],0,[]⟩:St)))) none) none)) none) none) (some ((.exit 0),(⟨(.junk::.junk::.junk::.junk::.junk::(.ptr 0 0 1 0)::F5Q),[(.box [(.all 1 2),(.all 2 3)]),(.rows 105 true L1 h1),(.rows 108 true B4I h2)],0,[]⟩:St))))
theorem D8d:RdA F49 aLn 0 C2d T7 0 [] (kepts [2,3,4] [(0,[5])]) (B2A C6C):=by
 intro d
 kernel_rfl
theorem D8g:∀ d:T7.den,(B2A C6C) d=(B7R d).opt 0 []:=by
 intro d
 kernel_rfl
noncomputable abbrev C4o:St→Option Tree:=T7.say 0 [] [(2005001,108,B4I),(2005000,105,L1)] (B2A E02)
theorem D9w:aPL C4o C2d:=SS.wp2 hlz [(2005001,108,B4I),(2005000,105,L1)] B7R D8d D8g _ (fun d=>Runs.ofI2 (step:=B7R) C6G D90 rfl (d.1.1,d.1.2.2.2.2.2.2.2.2.1,d.1.2.2.2.2.2.2.2.2.2.1,d.1.2.2.2.2.2.2.2.2.2.2.1,d.2.2.1,d.2.2.2.1))
noncomputable def X6 (a0:Lq1):=C6p a0 a0 (a0.length:Int) (0:Int) ([]:LBBe) ([]:Lq1)
noncomputable def B41 (a0:Lq1):LBBe×Lq1×Bool:=let z1:=X6 a0;(cond (z1.1==0) ([],[],(z1.2.1)) ((z1.2.2.1),(z1.2.2.2),true))
noncomputable abbrev B76 (r:LBBe×Lq1×Bool):AV×List AObj:=((.tup [(.t true Z3 r.1),(.t true tq8 r.2.1),(.t true .bool r.2.2)]),[])
noncomputable abbrev C4M:F5 B3y→AV×List AObj:=fun d=>B76 (B41 d.1)
noncomputable def A8R (a0:Lq1):Bool:=cond ((X6 a0).1==0) true ((X6 a0).1==1)
noncomputable abbrev B9V:F5 B3y→Bool:=fun d=>A8R d.1
noncomputable abbrev E4l:Nat→St→Option Tree:=fun b=>match b with | 0=>C4o | _=>fun _=>none
theorem E1J:A6Q true F49 (E4l) Tryz.f48 B3y B9V C4M:=by
 rintro ⟨a0,_⟩ hp
 change A8R a0=true at hp
 unfold A8R at hp
 refine Eq.trans (b:=(let z1:=X6 a0;cond (z1.1==0) (some (B76 ([],[],(z1.2.1)))) (cond (z1.1==1) (some (B76 ((z1.2.2.1),(z1.2.2.2),true))) none))) (by kernel_rfl) ?_
 exact (H7 B76 hp (fun hp=>rfl) (fun hp=>(A6T hp fun _h=>rfl)))
theorem E4F:aPP 48 (A2z B3y B9V C4M):=pcD true F49 (hl1 (i:=0) (by kernel_rfl) D9w) E1J
noncomputable def F9y:Tab:=Tab.add F9x 48 (lift (A2z B3y B9V C4M))
noncomputable def F6h:FuncId→Bool:=qadd F6g 48
theorem F5a:aPG F9y F6h:=F49.addQ E4F (cbl Tryz.f48) (fun _=>rfl)

abbrev A6W:List PSh:=[.t Z3,.t Z3]
abbrev N1:SS:=⟨(.t false Z3::.t false Z3::.junk::.junk::.junk::.junk::.junk::.junk::.junk::.junk::.junk::.junk::tI::tI::F4L),[]⟩
abbrev B3w:SS:=⟨(.junk::.junk::.junk::.junk::.t true .bool::B9R),[]⟩
abbrev B3x:SS:=⟨(.junk::C95),[]⟩
noncomputable def B5i (x0 x1:LBBe) (x12 x13:Int):RT N1.den:=let z1:=x0.getD x13.toNat (bE,bE);let z2:=x1.getD x13.toNat (bE,bE);(.br (decide (x13<x12)) (.br (decide (0≤x13∧x13<(x0.length:Int))) (.br (decide (0≤x13∧x13<(x1.length:Int))) (.br (!(((z1.1).toList==(z2.1).toList)&&(((z1.2).toList==(z2.2).toList)&&true))) (.done .ret B3w (((),(),(),(),false,u22),())) (.next ((x0,x1,(),(),(),(),(),(),(),(),(),(),x12,wI (x13+(1:Int)),u13),()))) .fail) .fail) (.done (.exit 0) B3x ((u27),())))
abbrev R1:=(LBBe)×LBBe×(Int)×(Int)
abbrev V8:=Nat×(Bool)
def A69:V8:=(99,(false:Bool))
noncomputable def V5 (x0 x1:LBBe) (x12 x13:Int):R1 ⊕ V8:=let z1:=x0.getD x13.toNat (bE,bE);let z2:=x1.getD x13.toNat (bE,bE);(cond (decide (x13<x12)) (cond (decide (0≤x13∧x13<(x0.length:Int))) (cond (decide (0≤x13∧x13<(x1.length:Int))) (cond (!(((z1.1).toList==(z2.1).toList)&&(((z1.2).toList==(z2.2).toList)&&true))) (.inr (0,false)) (.inl (x0,x1,x12,wI (x13+(1:Int))))) (.inr A69)) (.inr A69)) (.inr (1,(false:Bool))))
noncomputable def V1 (x0 x1:LBBe) (x12 x13:Int):V8:=itX (fun v:R1=>V5 v.1 v.2.1 v.2.2.1 v.2.2.2) A69 (x0,x1,x12,x13)
noncomputable def A9i (a:V8):CT:=(.br (a.1==0) (.done .ret B3w (((),(),(),(),a.2,u22),())) (.br (a.1==1) (.done (.exit 0) B3x ((u27),())) .fail))
noncomputable def C7b (x0 x1:LBBe) (x12 x13:Int):CT:=A9i (V1 x0 x1 x12 x13)
noncomputable abbrev B4S {α:Sort _} (f:LBBe→LBBe→Int→Int→α) (d:N1.den):α:=f d.1.1 d.1.2.1 d.1.2.2.2.2.2.2.2.2.2.2.2.2.1 d.1.2.2.2.2.2.2.2.2.2.2.2.2.2.1
noncomputable abbrev A9s:N1.den→RT N1.den:=(B4S B5i)
noncomputable def B21:Code:=((C4 0 (A0y Tryz.f49)).getD 0 (0,.skip)).2
noncomputable abbrev B46 (v:R1):N1.den:=((v.1,v.2.1,(),(),(),(),(),(),(),(),(),(),v.2.2.1,v.2.2.2,u13),())
theorem C6N:(∀ v:R1,(B5i v.1 v.2.1 v.2.2.1 v.2.2.2).val=A5T B46 A9i (V5 v.1 v.2.1 v.2.2.1 v.2.2.2))∧∀ a:V8,CEnd N1.den (A9i a):=⟨fun v=>(A6V (A6V (A6V (A6V rfl rfl) rfl) rfl) rfl),fun a=>(A6I aCD (A6I aCD A6K))⟩
theorem C44:RdA F5a aLn 0 B21 N1 0 [] (kepts [4] [(0,[])]) (fun d=>(A9s d).opt 0 []):=by
 intro d
 kernel_rfl
noncomputable abbrev B3T:St→Option Tree:=N1.say 0 [] [] (B4S C7b)
theorem C6x:aPL B3T B21:=SS.wp2 hlz [] A9s C44 (fun d=>rfl) _ (fun d=>Runs.ofI2 (step:=A9s) B46 C6N rfl (d.1.1,d.1.2.1,d.1.2.2.2.2.2.2.2.2.2.2.2.2.1,d.1.2.2.2.2.2.2.2.2.2.2.2.2.2.1))
noncomputable def Z8 (a0 a1:LBBe):Bool:=let z1:=V1 a0 a1 (a0.length:Int) (0:Int);(cond ((a0.length:Int) != (a1.length:Int)) false (cond (z1.1==0) (z1.2) true))
noncomputable abbrev V0 (r:Bool):AV×List AObj:=((.t true .bool r),[])
noncomputable abbrev B1Y:F5 A6W→AV×List AObj:=fun d=>V0 (Z8 d.1 d.2.1)
noncomputable def Q8 (a0 a1:LBBe):Bool:=let z1:=V1 a0 a1 (a0.length:Int) (0:Int);cond ((a0.length:Int) != (a1.length:Int)) true (cond (z1.1==0) true (z1.1==1))
noncomputable abbrev A95:F5 A6W→Bool:=fun d=>Q8 d.1 d.2.1
noncomputable abbrev D0r:Nat→St→Option Tree:=fun b=>match b with | 0=>B3T | _=>fun _=>none
theorem C8w:A6Q true F5a (D0r) Tryz.f49 A6W A95 B1Y:=by
 rintro ⟨a0,⟨a1,_⟩⟩ hp
 change Q8 a0 a1=true at hp
 unfold Q8 at hp
 refine Eq.trans (b:=(let z1:=V1 a0 a1 (a0.length:Int) (0:Int);cond ((a0.length:Int) != (a1.length:Int)) (some (V0 false)) (cond (z1.1==0) (some (V0 (z1.2))) (cond (z1.1==1) (some (V0 true)) none)))) (by kernel_rfl) ?_
 exact (H7 V0 hp (fun hp=>rfl) (fun hp=>(H7 V0 hp (fun hp=>rfl) (fun hp=>(A6T hp fun _h=>rfl)))))
theorem D07:aPP 49 (A2z A6W A95 B1Y):=pcD true F5a (hl1 (i:=0) (by kernel_rfl) C6x) C8w
noncomputable def F9z:Tab:=Tab.add F9y 49 (lift (A2z A6W A95 B1Y))
noncomputable def F6i:FuncId→Bool:=qadd F6h 49
theorem F5b:aPG F9z F6i:=F5a.addQ D07 (cbl Tryz.f49) (fun _=>rfl)

abbrev A7U:List PSh:=[.t tq7,.t tq7]
abbrev O4:SS:=⟨(.t false tq7::.t false tq7::.junk::.junk::.junk::.junk::.junk::.junk::.junk::.junk::.junk::.junk::tI::tI::F4L),[]⟩
abbrev B5t:SS:=⟨(.junk::.junk::.junk::.junk::.t true .bool::B9R),[]⟩
abbrev B5u:SS:=⟨(.junk::C95),[]⟩
noncomputable def B65 (x0 x1:Lq2) (x12 x13:Int):RT O4.den:=let z1:=x0.getD x13.toNat ((0:Int),(bE,bE));let z2:=x1.getD x13.toNat ((0:Int),(bE,bE));(.br (decide (x13<x12)) (.br (decide (0≤x13∧x13<(x0.length:Int))) (.br (decide (0≤x13∧x13<(x1.length:Int))) (.br (!(((z1.1)==(z2.1))&&((((z1.2).1).toList==((z2.2).1).toList)&&((((z1.2).2).toList==((z2.2).2).toList)&&true)))) (.done .ret B5t (((),(),(),(),false,u22),())) (.next ((x0,x1,(),(),(),(),(),(),(),(),(),(),x12,wI (x13+(1:Int)),u13),()))) .fail) .fail) (.done (.exit 0) B5u ((u27),())))
abbrev U6:=(Lq2)×Lq2×(Int)×(Int)
abbrev A0i:=Nat×(Bool)
def A8g:A0i:=(99,(false:Bool))
noncomputable def Z2 (x0 x1:Lq2) (x12 x13:Int):U6 ⊕ A0i:=let z1:=x0.getD x13.toNat ((0:Int),(bE,bE));let z2:=x1.getD x13.toNat ((0:Int),(bE,bE));(cond (decide (x13<x12)) (cond (decide (0≤x13∧x13<(x0.length:Int))) (cond (decide (0≤x13∧x13<(x1.length:Int))) (cond (!(((z1.1)==(z2.1))&&((((z1.2).1).toList==((z2.2).1).toList)&&((((z1.2).2).toList==((z2.2).2).toList)&&true)))) (.inr (0,false)) (.inl (x0,x1,x12,wI (x13+(1:Int))))) (.inr A8g)) (.inr A8g)) (.inr (1,(false:Bool))))
noncomputable def Y9 (x0 x1:Lq2) (x12 x13:Int):A0i:=itX (fun v:U6=>Z2 v.1 v.2.1 v.2.2.1 v.2.2.2) A8g (x0,x1,x12,x13)
noncomputable def B0S (a:A0i):CT:=(.br (a.1==0) (.done .ret B5t (((),(),(),(),a.2,u22),())) (.br (a.1==1) (.done (.exit 0) B5u ((u27),())) .fail))
noncomputable def D0N (x0 x1:Lq2) (x12 x13:Int):CT:=B0S (Y9 x0 x1 x12 x13)
noncomputable abbrev B6W {α:Sort _} (f:Lq2→Lq2→Int→Int→α) (d:O4.den):α:=f d.1.1 d.1.2.1 d.1.2.2.2.2.2.2.2.2.2.2.2.2.1 d.1.2.2.2.2.2.2.2.2.2.2.2.2.2.1
noncomputable abbrev B0X:O4.den→RT O4.den:=(B6W B65)
noncomputable def B4T:Code:=((C4 0 (A0y Tryz.f54)).getD 0 (0,.skip)).2
noncomputable abbrev B62 (v:U6):O4.den:=((v.1,v.2.1,(),(),(),(),(),(),(),(),(),(),v.2.2.1,v.2.2.2,u13),())
theorem D0a:(∀ v:U6,(B65 v.1 v.2.1 v.2.2.1 v.2.2.2).val=A5T B62 B0S (Z2 v.1 v.2.1 v.2.2.1 v.2.2.2))∧∀ a:A0i,CEnd O4.den (B0S a):=⟨fun v=>(A6V (A6V (A6V (A6V rfl rfl) rfl) rfl) rfl),fun a=>(A6I aCD (A6I aCD A6K))⟩
theorem C8s:RdA F5b aLn 0 B4T O4 0 [] (kepts [4] [(0,[])]) (fun d=>(B0X d).opt 0 []):=by
 intro d
 kernel_rfl
noncomputable abbrev B6B:St→Option Tree:=O4.say 0 [] [] (B6W D0N)
theorem C96:aPL B6B B4T:=SS.wp2 hlz [] B0X C8s (fun d=>rfl) _ (fun d=>Runs.ofI2 (step:=B0X) B62 D0a rfl (d.1.1,d.1.2.1,d.1.2.2.2.2.2.2.2.2.2.2.2.2.1,d.1.2.2.2.2.2.2.2.2.2.2.2.2.2.1))
noncomputable def A7P (a0 a1:Lq2):Bool:=let z1:=Y9 a0 a1 (a0.length:Int) (0:Int);(cond ((a0.length:Int) != (a1.length:Int)) false (cond (z1.1==0) (z1.2) true))
noncomputable abbrev Z5 (r:Bool):AV×List AObj:=((.t true .bool r),[])
noncomputable abbrev B4p:F5 A7U→AV×List AObj:=fun d=>Z5 (A7P d.1 d.2.1)
noncomputable def N3 (a0 a1:Lq2):Bool:=let z1:=Y9 a0 a1 (a0.length:Int) (0:Int);cond ((a0.length:Int) != (a1.length:Int)) true (cond (z1.1==0) true (z1.1==1))
noncomputable abbrev B2e:F5 A7U→Bool:=fun d=>N3 d.1 d.2.1
noncomputable abbrev D5i:Nat→St→Option Tree:=fun b=>match b with | 0=>B6B | _=>fun _=>none
theorem D2u:A6Q true F5b (D5i) Tryz.f54 A7U B2e B4p:=by
 rintro ⟨a0,⟨a1,_⟩⟩ hp
 change N3 a0 a1=true at hp
 unfold N3 at hp
 refine Eq.trans (b:=(let z1:=Y9 a0 a1 (a0.length:Int) (0:Int);cond ((a0.length:Int) != (a1.length:Int)) (some (Z5 false)) (cond (z1.1==0) (some (Z5 (z1.2))) (cond (z1.1==1) (some (Z5 true)) none)))) (by kernel_rfl) ?_
 exact (H7 Z5 hp (fun hp=>rfl) (fun hp=>(H7 Z5 hp (fun hp=>rfl) (fun hp=>(A6T hp fun _h=>rfl)))))
theorem D5s:aPP 54 (A2z A7U B2e B4p):=pcD true F5b (hl1 (i:=0) (by kernel_rfl) C96) D2u
noncomputable def F9A:Tab:=Tab.add F9z 54 (lift (A2z A7U B2e B4p))
noncomputable def F6j:FuncId→Bool:=qadd F6i 54
theorem F61:aPG F9A F6j:=F5b.addQ D5s (cbl Tryz.f54) (fun _=>rfl)

abbrev C1J:List PSh:=[.agg [(.int .i64),(.int .i64),tq7],.agg [(.int .i64),(.int .i64),tq7]]
noncomputable def D7C (a0 a1:Int) (a2:Lq2) (a3 a4:Int) (a5:Lq2):Bool:=(cond (a0==a3) (cond (a1==a4) (A7P a2 a5) false) false)
noncomputable abbrev B7p (r:Bool):AV×List AObj:=((.t true .bool r),[])
noncomputable abbrev D5H:F5 C1J→AV×List AObj:=fun d=>B7p (D7C d.1.1 d.1.2.1 d.1.2.2.1 d.2.1.1 d.2.1.2.1 d.2.1.2.2.1)
noncomputable def B2i (a0 a1:Int) (a2:Lq2) (a3 a4:Int) (a5:Lq2):Bool:=cond (a0==a3) (cond (a1==a4) (N3 a2 a5) true) true
noncomputable abbrev C74:F5 C1J→Bool:=fun d=>B2i d.1.1 d.1.2.1 d.1.2.2.1 d.2.1.1 d.2.1.2.1 d.2.1.2.2.1
theorem E7Q:A6Q true F61 aLn Tryz.f51 C1J C74 D5H:=by
 rintro ⟨⟨a0,⟨a1,⟨a2,_⟩⟩⟩,⟨⟨a3,⟨a4,⟨a5,_⟩⟩⟩,_⟩⟩ hp
 change B2i a0 a1 a2 a3 a4 a5=true at hp
 unfold B2i at hp
 refine Eq.trans (b:=(cond (a0==a3) (cond (a1==a4) (cond (N3 a2 a5) (some (B7p (A7P a2 a5))) none) (some (B7p false))) (some (B7p false)))) (by kernel_rfl) ?_
 exact (H7 B7p hp (fun hp=>(H7 B7p hp (fun hp=>(A6T hp fun _h=>rfl)) (fun hp=>rfl))) (fun hp=>rfl))
theorem F1h:aPP 51 (A2z C1J C74 D5H):=pcD true F61 hlz E7Q
noncomputable def F9B:Tab:=Tab.add F9A 51 (lift (A2z C1J C74 D5H))
noncomputable def F6k:FuncId→Bool:=qadd F6j 51
theorem F5c:aPG F9B F6k:=F61.addQ F1h (cbl Tryz.f51) (fun _=>rfl)

abbrev G07:List AV:=.junk::.junk::.junk::F7n
abbrev M7:SS:=⟨[.t false tq8,.t false tq8,.fn 51 []],[]⟩
abbrev H6:SS:=⟨(.junk::.t false tq8::.fn 51 []::.junk::.junk::.junk::.junk::.junk::.junk::.junk::.junk::.junk::.junk::.junk::.junk::.t false tq8::tI::tI::E9D),[]⟩
abbrev V9:SS:=⟨(.junk::.junk::.junk::.junk::.junk::.junk::.t true .bool::C95),[]⟩
abbrev W0:SS:=⟨(.junk::F7C),[]⟩
noncomputable def M8 (x1 x15:Lq1) (x17:Int):=let z1:=x15.getD x17.toNat ((0:Int),((0:Int),[]));let z2:=x1.getD x17.toNat ((0:Int),((0:Int),[]));D7C (z1.1) ((z1.2).1) ((z1.2).2) (z2.1) ((z2.2).1) ((z2.2).2)
noncomputable def Y4 (x1 x15:Lq1) (x16 x17:Int):RT H6.den:=let z1:=x15.getD x17.toNat ((0:Int),((0:Int),[]));let z2:=x1.getD x17.toNat ((0:Int),((0:Int),[]));(.br (decide (x17<x16)) (.br (decide (0≤x17∧x17<(x15.length:Int))) (.br (decide (0≤x17∧x17<(x1.length:Int))) (.br (B2i (z1.1) ((z1.2).1) ((z1.2).2) (z2.1) ((z2.2).1) ((z2.2).2)) (.br (!(M8 x1 x15 x17)) (.done .ret V9 (((),(),(),(),(),(),false,u26),())) (.next (((),x1,(),(),(),(),(),(),(),(),(),(),(),(),(),x15,x16,wI (x17+(1:Int)),u15),()))) .fail) .fail) .fail) (.done (.exit 0) W0 ((u33),())))
abbrev I6:=(Lq1)×Lq1×(Int)×(Int)
abbrev K5:=Nat×(Bool)
def K1:K5:=(99,(false:Bool))
noncomputable def K3 (x1 x15:Lq1) (x16 x17:Int):I6 ⊕ K5:=let z1:=x15.getD x17.toNat ((0:Int),((0:Int),[]));let z2:=x1.getD x17.toNat ((0:Int),((0:Int),[]));(cond (decide (x17<x16)) (cond (decide (0≤x17∧x17<(x15.length:Int))) (cond (decide (0≤x17∧x17<(x1.length:Int))) (cond (B2i (z1.1) ((z1.2).1) ((z1.2).2) (z2.1) ((z2.2).1) ((z2.2).2)) (cond (!(M8 x1 x15 x17)) (.inr (0,false)) (.inl (x1,x15,x16,wI (x17+(1:Int))))) (.inr K1)) (.inr K1)) (.inr K1)) (.inr (1,(false:Bool))))
noncomputable def K2 (x1 x15:Lq1) (x16 x17:Int):K5:=itX (fun v:I6=>K3 v.1 v.2.1 v.2.2.1 v.2.2.2) K1 (x1,x15,x16,x17)
noncomputable def P5 (a:K5):CT:=(.br (a.1==0) (.done .ret V9 (((),(),(),(),(),(),a.2,u26),())) (.br (a.1==1) (.done (.exit 0) W0 ((u33),())) .fail))
noncomputable def B0O (x1 x15:Lq1) (x16 x17:Int):CT:=P5 (K2 x1 x15 x16 x17)
noncomputable abbrev M3 {α:Sort _} (f:Lq1→Lq1→Int→Int→α) (d:H6.den):α:=f d.1.2.1 d.1.2.2.2.2.2.2.2.2.2.2.2.2.2.2.2.1 d.1.2.2.2.2.2.2.2.2.2.2.2.2.2.2.2.2.1 d.1.2.2.2.2.2.2.2.2.2.2.2.2.2.2.2.2.2.1
noncomputable abbrev P7:H6.den→RT H6.den:=(M3 Y4)
noncomputable def V7:Code:=((C4 0 (A0y Tryz.f50)).getD 0 (0,.skip)).2
noncomputable abbrev Y3 (v:I6):H6.den:=(((),v.1,(),(),(),(),(),(),(),(),(),(),(),(),(),v.2.1,v.2.2.1,v.2.2.2,u15),())
theorem B0w:(∀ v:I6,(Y4 v.1 v.2.1 v.2.2.1 v.2.2.2).val=A5T Y3 P5 (K3 v.1 v.2.1 v.2.2.1 v.2.2.2))∧∀ a:K5,CEnd H6.den (P5 a):=⟨fun v=>(A6V (A6V (A6V (A6V (A6V rfl rfl) rfl) rfl) rfl) rfl),fun a=>(A6I aCD (A6I aCD A6K))⟩
noncomputable def Y2 (x1 x15:Lq1) (x16 x17:Int):Option (Ex×St):=let z1:=x15.getD x17.toNat ((0:Int),((0:Int),[]));let z2:=x1.getD x17.toNat ((0:Int),((0:Int),[]));(cond (decide (x17<x16)) (cond (decide (0≤x17∧x17<(x15.length:Int))) (cond (decide (0≤x17∧x17<(x1.length:Int))) (cond (B2i (z1.1) ((z1.2).1) ((z1.2).2) (z2.1) ((z2.2).1) ((z2.2).2)) (cond (!(M8 x1 x15 x17)) (some (.ret,(⟨(.junk::.junk::.junk::.junk::.junk::.junk::(.t true .bool false)::F5Q),[],0,[]⟩:St))) (some (.normal,(⟨(.junk::(.t false tq8 x1)::(.fn 51 [])::.junk::.junk::.junk::.junk::.junk::.junk::.junk::.junk::.junk::.junk::.junk::.junk::(.t false tq8 x15)::(ti x16)::(ti (wI (x17+(1:Int))))::G07),[],0,[]⟩:St)))) none) none) none) (some ((.exit 0),(⟨(.junk::F7r),[],0,[]⟩:St))))
theorem B0a:RdA F5c aLn 0 V7 H6 0 [] (kepts [6] [(0,[])]) (M3 Y2):=by
 intro d
 kernel_rfl
theorem B0b:∀ d:H6.den,(M3 Y2) d=(P7 d).opt 0 []:=by
 intro d
 kernel_rfl
noncomputable abbrev X9:St→Option Tree:=H6.say 0 [] [] (M3 B0O)
theorem B0p:aPL X9 V7:=SS.wp2 hlz [] P7 B0a B0b _ (fun d=>Runs.ofI2 (step:=P7) Y3 B0w rfl (d.1.2.1,d.1.2.2.2.2.2.2.2.2.2.2.2.2.2.2.2.1,d.1.2.2.2.2.2.2.2.2.2.2.2.2.2.2.2.2.1,d.1.2.2.2.2.2.2.2.2.2.2.2.2.2.2.2.2.2.1))
noncomputable def L8 (x0 x1:Lq1):Bool:=let z1:=K2 x1 x0 (x0.length:Int) (0:Int);(cond ((x0.length:Int) != (x1.length:Int)) false (cond (z1.1==0) (z1.2) true))
noncomputable abbrev I9 (r:Bool):AV×List AObj×List Nat:=((.t true .bool r),[],[])
noncomputable abbrev A60:M7.den→AV×List AObj×List Nat:=fun d=>I9 (L8 d.1.1 d.1.2.1)
noncomputable def I4 (x0 x1:Lq1):Bool:=let z1:=K2 x1 x0 (x0.length:Int) (0:Int);cond ((x0.length:Int) != (x1.length:Int)) true (cond (z1.1==0) true (z1.1==1))
noncomputable abbrev Z1:M7.den→Bool:=fun d=>I4 d.1.1 d.1.2.1
noncomputable abbrev B1x:Nat→St→Option Tree:=fun b=>match b with | 0=>X9 | _=>fun _=>none
theorem B0W:A6P F5c (B1x) Tryz.f50 M7 Z1 A60:=by
 rintro ⟨⟨x0,x1,_,_⟩,_⟩ hp
 change I4 x0 x1=true at hp
 unfold I4 at hp
 refine Eq.trans (b:=(let z1:=K2 x1 x0 (x0.length:Int) (0:Int);cond ((x0.length:Int) != (x1.length:Int)) (some (I9 false)) (cond (z1.1==0) (some (I9 (z1.2))) (cond (z1.1==1) (some (I9 true)) none)))) (by kernel_rfl) ?_
 exact (H7 I9 hp (fun hp=>rfl) (fun hp=>(H7 I9 hp (fun hp=>rfl) (fun hp=>(A6T hp fun _h=>rfl)))))
noncomputable abbrev A61:=winQ (msum M7 Z1 A60)
theorem B1T:aPM 50 A61:=(mcM F5c (hl1 (i:=0) (by kernel_rfl) B0p) B0W).winQ (A6i fun d=>⟨rfl,rfl⟩)
noncomputable def F9C:Tab:=Tab.add F9B 50 (A61)
noncomputable def F6l:FuncId→Bool:=qadd F6k 50
theorem F62:aPG F9C F6l:=F5c.addMQ B1T (A6p _) (cbl Tryz.f50) (A4V _)

abbrev C1G:List PSh:=[.agg [(.int .i64),tq8,(.int .i64),Z3,tq8]]
noncomputable def D7A (a0:Int) (a1:Lq1) (a2:Int) (a3:LBBe) (a4:Lq1):Bool:=let z1:=B41 a1;(cond (!(E0l a0)) false (cond (!(M4 a2 (0:Int) (a1.length:Int))) false (cond (decide ((wI ((a1.length:Int)+(a4.length:Int))) > (300:Int))) false (cond (z1.2.2) (cond (Z8 (z1.1) a3) (L8 (z1.2.1) a4) false) false))))
noncomputable abbrev A7k (r:Bool):AV×List AObj:=((.t true .bool r),[])
noncomputable abbrev D5E:F5 C1G→AV×List AObj:=fun d=>A7k (D7A d.1.1 d.1.2.1 d.1.2.2.1 d.1.2.2.2.1 d.1.2.2.2.2.1)
noncomputable def B2h (a0:Int) (a1:Lq1) (a2:Int) (a3:LBBe) (a4:Lq1):Bool:=let z1:=B41 a1;cond (!(E0l a0)) true (cond (!(M4 a2 (0:Int) (a1.length:Int))) true (cond (decide ((wI ((a1.length:Int)+(a4.length:Int))) > (300:Int))) true ((A8R a1)&&(cond (z1.2.2) ((Q8 (z1.1) a3)&&(cond (Z8 (z1.1) a3) (I4 (z1.2.1) a4) true)) true))))
noncomputable abbrev C71:F5 C1G→Bool:=fun d=>B2h d.1.1 d.1.2.1 d.1.2.2.1 d.1.2.2.2.1 d.1.2.2.2.2.1
theorem E7N:A6Q true F62 aLn Tryz.f18 C1G C71 D5E:=by
 rintro ⟨⟨a0,⟨a1,⟨a2,⟨a3,⟨a4,_⟩⟩⟩⟩⟩,_⟩ hp
 change B2h a0 a1 a2 a3 a4=true at hp
 unfold B2h at hp
 refine Eq.trans (b:=(let z1:=B41 a1;cond (!(E0l a0)) (some (A7k false)) (cond (!(M4 a2 (0:Int) (a1.length:Int))) (some (A7k false)) (cond (decide ((wI ((a1.length:Int)+(a4.length:Int))) > (300:Int))) (some (A7k false)) (cond (A8R a1) (cond (z1.2.2) (cond (Q8 (z1.1) a3) (cond (Z8 (z1.1) a3) (cond (I4 (z1.2.1) a4) (some (A7k (L8 (z1.2.1) a4))) none) (some (A7k false))) none) (some (A7k false))) none))))) (by kernel_rfl) ?_
 exact (H7 A7k hp (fun hp=>rfl) (fun hp=>(H7 A7k hp (fun hp=>rfl) (fun hp=>(H7 A7k hp (fun hp=>rfl) (fun hp=>(A6R hp fun hp=>(H7 A7k hp (fun hp=>(A6R hp fun hp=>(H7 A7k hp (fun hp=>(A6T hp fun _h=>rfl)) (fun hp=>rfl)))) (fun hp=>rfl)))))))))
theorem F1e:aPP 18 (A2z C1G C71 D5E):=pcD true F62 hlz E7N
noncomputable def F9D:Tab:=Tab.add F9C 18 (lift (A2z C1G C71 D5E))
noncomputable def F6m:FuncId→Bool:=qadd F6l 18
theorem F63:aPG F9D F6m:=F62.addQ F1e (cbl Tryz.f18) (fun _=>rfl)

abbrev C5B:List PSh:=[.agg [(.int .i64),(.int .i64),(.int .i64),tq7,.bool]]
noncomputable def E1R (a0 a1 a2:Int) (a3:Lq2) (a4:Bool):Bool:=(cond (!(E0l a1)) false (cond (!(D1u a2)) false (cond (a0==(1:Int)) (cond (B7w a3) (!a4) false) (cond (a0==(2:Int)) ((a3.length:Int)==(0:Int)) (cond (a0==(3:Int)) ((a3.length:Int)==(0:Int)) (cond (a0==(4:Int)) (cond ((a3.length:Int)==(0:Int)) (!a4) false) false))))))
noncomputable abbrev U7 (r:Bool):AV×List AObj:=((.t true .bool r),[])
noncomputable abbrev D85:F5 C5B→AV×List AObj:=fun d=>U7 (E1R d.1.1 d.1.2.1 d.1.2.2.1 d.1.2.2.2.1 d.1.2.2.2.2.1)
noncomputable def C1l (a0 a1 a2:Int) (a3:Lq2) (a4:Bool):Bool:=Q9 a3
noncomputable abbrev D1J:F5 C5B→Bool:=fun d=>C1l d.1.1 d.1.2.1 d.1.2.2.1 d.1.2.2.2.1 d.1.2.2.2.2.1
theorem F0c:A6Q true F63 aLn Tryz.f52 C5B D1J D85:=by
 rintro ⟨⟨a0,⟨a1,⟨a2,⟨a3,⟨a4,_⟩⟩⟩⟩⟩,_⟩ hp
 change C1l a0 a1 a2 a3 a4=true at hp
 unfold C1l at hp
 refine Eq.trans (b:=(let z1:=U7 ((a3.length:Int)==(0:Int));cond (!(E0l a1)) (some (U7 false)) (cond (!(D1u a2)) (some (U7 false)) (cond (a0==(1:Int)) (cond (B0u a3) (cond (B7w a3) (some (U7 (!a4))) (some (U7 false))) none) (cond (a0==(2:Int)) (some z1) (cond (a0==(3:Int)) (some z1) (cond (a0==(4:Int)) (cond ((a3.length:Int)==(0:Int)) (some (U7 (!a4))) (some (U7 false))) (some (U7 false))))))))) (by kernel_rfl) ?_
 exact (L7 U7 (fun _h=>rfl) (fun _h=>(L7 U7 (fun _h=>rfl) (fun _h=>(L7 U7 (fun _h=>(A6T (by first | rfl | decide | exact hp | (simp only [Bool.and_eq_true] at hp;simp only [hp];done) | (simp [*];done) | (simp [okL] at hp;simp [okL,MAXB];omega) | (simp_all;done) | (simp at *;omega)) (fun _h=>(L7 U7 (fun _h=>rfl) (fun _h=>rfl))))) (fun _h=>(L7 U7 (fun _h=>rfl) (fun _h=>(L7 U7 (fun _h=>rfl) (fun _h=>(L7 U7 (fun _h=>(L7 U7 (fun _h=>rfl) (fun _h=>rfl))) (fun _h=>rfl))))))))))))
theorem F2Z:aPP 52 (A2z C5B D1J D85):=pcD true F63 hlz F0c
noncomputable def F9E:Tab:=Tab.add F9D 52 (lift (A2z C5B D1J D85))
noncomputable def F6n:FuncId→Bool:=qadd F6m 52
theorem F5d:aPG F9E F6n:=F63.addQ F2Z (cbl Tryz.f52) (fun _=>rfl)

abbrev u29:=((),u28)
abbrev B03:SS:=⟨[.ptr 0 0 1 0,.t false tq4],[.box [tI,tI,tI,.t false tq5,.t false K4,tI,.t false tq3,.t false tq4,.t false tq4,.t false tq9]]⟩
abbrev Q3:SS:=⟨(.ptr 0 0 1 0::.t false tq4::.junk::.junk::.junk::.junk::.junk::.t false tq4::tI::tI::F3v),[.box [tI,tI,tI,.t false tq5,.t false K4,tI,.t false tq3,.t false tq4,.t false tq4,.t false tq9]]⟩
abbrev B1w:SS:=⟨(.junk::.junk::.junk::.junk::.t true .bool::C95),[.box [tI,tI,tI,.t false tq5,.t false K4,tI,.t false tq3,.t false tq4,.t false tq4,.t false tq9]]⟩
abbrev B8G:SS:=⟨(.junk::.t false tq4::F7A),[.box [tI,tI,tI,.t false tq5,.t false K4,tI,.t false tq3,.t false tq4,.t false tq4,.t false tq9]]⟩
noncomputable def B6l (x7:LT2) (x9:Int):=let z1:=x7.getD x9.toNat ((0:Int),((0:Int),((0:Int),([],false))));E1R (z1.1) ((z1.2).1) (((z1.2).2).1) ((((z1.2).2).2).1) ((((z1.2).2).2).2)
noncomputable def C0s (x1 x7:LT2) (x8 x9 p0 p1 p2:Int) (p3:LT1) (p4:LIbe) (p5:Int) (p6:LT3) (p7 p8:LT2) (p9:Lq6):RT Q3.den:=let z1:=x7.getD x9.toNat ((0:Int),((0:Int),((0:Int),([],false))));(.br (decide (x9<x8)) (.br (decide (0≤x9∧x9<(x7.length:Int))) (.br (C1l (z1.1) ((z1.2).1) (((z1.2).2).1) ((((z1.2).2).2).1) ((((z1.2).2).2).2)) (.br (!(B6l x7 x9)) (.done .ret B1w (((),(),(),(),false,u26),((p0,p1,p2,p3,p4,p5,p6,p7,p8,p9,()),()))) (.br (decide (((z1.2).1) ≥ (p6.length:Int))) (.done .ret B1w (((),(),(),(),false,u26),((p0,p1,p2,p3,p4,p5,p6,p7,p8,p9,()),()))) (.next (((),x1,(),(),(),(),(),x7,x8,wI (x9+(1:Int)),u21),((p0,p1,p2,p3,p4,p5,p6,p7,p8,p9,()),()))))) .fail) .fail) (.done (.exit 0) B8G (((),x1,u29),((p0,p1,p2,p3,p4,p5,p6,p7,p8,p9,()),()))))
abbrev A72:=LT2×LT2×(Int)×(Int)
abbrev A7T:=Nat×(Bool)×LT2
def B3d:A7T:=(99,(false:Bool),([]:LT2))
noncomputable def A86 (x1 x7:LT2) (x8 x9 p0 p1 p2:Int) (p3:LT1) (p4:LIbe) (p5:Int) (p6:LT3) (p7 p8:LT2) (p9:Lq6):A72 ⊕ A7T:=let z1:=x7.getD x9.toNat ((0:Int),((0:Int),((0:Int),([],false))));(cond (decide (x9<x8)) (cond (decide (0≤x9∧x9<(x7.length:Int))) (cond (C1l (z1.1) ((z1.2).1) (((z1.2).2).1) ((((z1.2).2).2).1) ((((z1.2).2).2).2)) (cond (!(B6l x7 x9)) (.inr (0,false,([]:LT2))) (cond (decide (((z1.2).1) ≥ (p6.length:Int))) (.inr (0,false,([]:LT2))) (.inl (x1,x7,x8,wI (x9+(1:Int)))))) (.inr B3d)) (.inr B3d)) (.inr (1,(false:Bool),x1)))
noncomputable def B3h (x1 x7:LT2) (x8 x9 p0 p1 p2:Int) (p3:LT1) (p4:LIbe) (p5:Int) (p6:LT3) (p7 p8:LT2) (p9:Lq6):A7T:=itX (fun v:A72=>A86 v.1 v.2.1 v.2.2.1 v.2.2.2 p0 p1 p2 p3 p4 p5 p6 p7 p8 p9) B3d (x1,x7,x8,x9)
noncomputable def B3b (p0 p1 p2:Int) (p3:LT1) (p4:LIbe) (p5:Int) (p6:LT3) (p7 p8:LT2) (p9:Lq6) (a:A7T):CT:=(.br (a.1==0) (.done .ret B1w (((),(),(),(),a.2.1,u26),((p0,p1,p2,p3,p4,p5,p6,p7,p8,p9,()),()))) (.br (a.1==1) (.done (.exit 0) B8G (((),a.2.2,u29),((p0,p1,p2,p3,p4,p5,p6,p7,p8,p9,()),()))) .fail))
noncomputable def D5n (x1 x7:LT2) (x8 x9 p0 p1 p2:Int) (p3:LT1) (p4:LIbe) (p5:Int) (p6:LT3) (p7 p8:LT2) (p9:Lq6):CT:=(B3b p0 p1 p2 p3 p4 p5 p6 p7 p8 p9) (B3h x1 x7 x8 x9 p0 p1 p2 p3 p4 p5 p6 p7 p8 p9)
noncomputable abbrev C0b {α:Sort _} (f:LT2→LT2→Int→Int→Int→Int→Int→LT1→LIbe→Int→LT3→LT2→LT2→Lq6→α) (d:Q3.den):α:=f d.1.2.1 d.1.2.2.2.2.2.2.2.1 d.1.2.2.2.2.2.2.2.2.1 d.1.2.2.2.2.2.2.2.2.2.1 d.2.1.1 d.2.1.2.1 d.2.1.2.2.1 d.2.1.2.2.2.1 d.2.1.2.2.2.2.1 d.2.1.2.2.2.2.2.1 d.2.1.2.2.2.2.2.2.1 d.2.1.2.2.2.2.2.2.2.1 d.2.1.2.2.2.2.2.2.2.2.1 d.2.1.2.2.2.2.2.2.2.2.2.1
noncomputable abbrev B3n:Q3.den→RT Q3.den:=(C0b C0s)
noncomputable def B6Y:Code:=((C4 0 (A0y Tryz.f19)).getD 0 (0,.skip)).2
noncomputable abbrev C0o (p0 p1 p2:Int) (p3:LT1) (p4:LIbe) (p5:Int) (p6:LT3) (p7 p8:LT2) (p9:Lq6) (v:A72):Q3.den:=(((),v.1,(),(),(),(),(),v.2.1,v.2.2.1,v.2.2.2,u21),((p0,p1,p2,p3,p4,p5,p6,p7,p8,p9,()),()))
theorem D3T (p0 p1 p2:Int) (p3:LT1) (p4:LIbe) (p5:Int) (p6:LT3) (p7 p8:LT2) (p9:Lq6):(∀ v:A72,(C0s v.1 v.2.1 v.2.2.1 v.2.2.2 p0 p1 p2 p3 p4 p5 p6 p7 p8 p9).val=A5T (C0o p0 p1 p2 p3 p4 p5 p6 p7 p8 p9) (B3b p0 p1 p2 p3 p4 p5 p6 p7 p8 p9) (A86 v.1 v.2.1 v.2.2.1 v.2.2.2 p0 p1 p2 p3 p4 p5 p6 p7 p8 p9))∧∀ a:A7T,CEnd Q3.den ((B3b p0 p1 p2 p3 p4 p5 p6 p7 p8 p9) a):=⟨fun v=>(A6V (A6V (A6V (A6V rfl (A6V rfl rfl)) rfl) rfl) rfl),fun a=>(A6I aCD (A6I aCD A6K))⟩
theorem D2o:RdA F5d aLn 0 B6Y Q3 1 [] (kepts [4] [(0,[1])]) (fun d=>(B3n d).opt 1 []):=by
 intro d
 kernel_rfl
noncomputable abbrev B9n:St→Option Tree:=Q3.say 1 [] [] (C0b D5n)
theorem D3N:aPL B9n B6Y:=SS.wp2 hlz [] B3n D2o (fun d=>rfl) _ (fun d=>Runs.ofI2 (step:=B3n) (C0o d.2.1.1 d.2.1.2.1 d.2.1.2.2.1 d.2.1.2.2.2.1 d.2.1.2.2.2.2.1 d.2.1.2.2.2.2.2.1 d.2.1.2.2.2.2.2.2.1 d.2.1.2.2.2.2.2.2.2.1 d.2.1.2.2.2.2.2.2.2.2.1 d.2.1.2.2.2.2.2.2.2.2.2.1) (D3T d.2.1.1 d.2.1.2.1 d.2.1.2.2.1 d.2.1.2.2.2.1 d.2.1.2.2.2.2.1 d.2.1.2.2.2.2.2.1 d.2.1.2.2.2.2.2.2.1 d.2.1.2.2.2.2.2.2.2.1 d.2.1.2.2.2.2.2.2.2.2.1 d.2.1.2.2.2.2.2.2.2.2.2.1) rfl (d.1.2.1,d.1.2.2.2.2.2.2.2.1,d.1.2.2.2.2.2.2.2.2.1,d.1.2.2.2.2.2.2.2.2.2.1))
noncomputable def B1b (x1:LT2) (p0 p1 p2:Int) (p3:LT1) (p4:LIbe) (p5:Int) (p6:LT3) (p7 p8:LT2) (p9:Lq6):=B3h x1 x1 (x1.length:Int) (0:Int) p0 p1 p2 p3 p4 p5 p6 p7 p8 p9
noncomputable def Q5 (x1:LT2) (p0 p1 p2:Int) (p3:LT1) (p4:LIbe) (p5:Int) (p6:LT3) (p7 p8:LT2) (p9:Lq6):Bool:=let z1:=B1b x1 p0 p1 p2 p3 p4 p5 p6 p7 p8 p9;(cond (z1.1==0) (z1.2.1) (decide ((((z1.2.2).length:Nat):Int)≤(400:Int))))
noncomputable abbrev B2C (p0 p1 p2:Int) (p3:LT1) (p4:LIbe) (p5:Int) (p6:LT3) (p7 p8:LT2) (p9:Lq6) (r:Bool):AV×List AObj×List Nat:=((.t true .bool r),[(.box [(ti p0),(ti p1),(ti p2),(.t false tq5 p3),(.t false K4 p4),(ti p5),(.t false tq3 p6),(.t false tq4 p7),(.t false tq4 p8),(.t false tq9 p9)])],[])
noncomputable abbrev C6k:B03.den→AV×List AObj×List Nat:=fun d=>B2C d.2.1.1 d.2.1.2.1 d.2.1.2.2.1 d.2.1.2.2.2.1 d.2.1.2.2.2.2.1 d.2.1.2.2.2.2.2.1 d.2.1.2.2.2.2.2.2.1 d.2.1.2.2.2.2.2.2.2.1 d.2.1.2.2.2.2.2.2.2.2.1 d.2.1.2.2.2.2.2.2.2.2.2.1 (Q5 d.1.2.1 d.2.1.1 d.2.1.2.1 d.2.1.2.2.1 d.2.1.2.2.2.1 d.2.1.2.2.2.2.1 d.2.1.2.2.2.2.2.1 d.2.1.2.2.2.2.2.2.1 d.2.1.2.2.2.2.2.2.2.1 d.2.1.2.2.2.2.2.2.2.2.1 d.2.1.2.2.2.2.2.2.2.2.2.1)
noncomputable def R7 (x1:LT2) (p0 p1 p2:Int) (p3:LT1) (p4:LIbe) (p5:Int) (p6:LT3) (p7 p8:LT2) (p9:Lq6):Bool:=let z1:=B1b x1 p0 p1 p2 p3 p4 p5 p6 p7 p8 p9;cond (z1.1==0) true (z1.1==1)
noncomputable abbrev C2X:B03.den→Bool:=fun d=>R7 d.1.2.1 d.2.1.1 d.2.1.2.1 d.2.1.2.2.1 d.2.1.2.2.2.1 d.2.1.2.2.2.2.1 d.2.1.2.2.2.2.2.1 d.2.1.2.2.2.2.2.2.1 d.2.1.2.2.2.2.2.2.2.1 d.2.1.2.2.2.2.2.2.2.2.1 d.2.1.2.2.2.2.2.2.2.2.2.1
noncomputable abbrev D8R:Nat→St→Option Tree:=fun b=>match b with | 0=>B9n | _=>fun _=>none
theorem D6E:A6P F5d (D8R) Tryz.f19 B03 C2X C6k:=by
 rintro ⟨⟨_,x1,_⟩,⟨⟨p0,p1,p2,p3,p4,p5,p6,p7,p8,p9,_⟩,_⟩⟩ hp
 change R7 x1 p0 p1 p2 p3 p4 p5 p6 p7 p8 p9=true at hp
 unfold R7 at hp
 refine Eq.trans (b:=(let z1:=B1b x1 p0 p1 p2 p3 p4 p5 p6 p7 p8 p9;cond (z1.1==0) (some (B2C p0 p1 p2 p3 p4 p5 p6 p7 p8 p9 (z1.2.1))) (cond (z1.1==1) (some (B2C p0 p1 p2 p3 p4 p5 p6 p7 p8 p9 (decide ((((z1.2.2).length:Nat):Int)≤(400:Int))))) none))) (by kernel_rfl) ?_
 exact (H7 (B2C p0 p1 p2 p3 p4 p5 p6 p7 p8 p9) hp (fun hp=>rfl) (fun hp=>(A6T hp fun _h=>rfl)))
noncomputable abbrev C6A:=winQ (msum B03 C2X C6k)
theorem D8Z:aPM 19 C6A:=(mcM F5d (hl1 (i:=0) (by kernel_rfl) D3N) D6E).winQ (A6i fun d=>⟨rfl,rfl⟩)
noncomputable def F9F:Tab:=Tab.add F9E 19 (C6A)
noncomputable def F6o:FuncId→Bool:=qadd F6n 19
theorem F64:aPG F9F F6o:=F5d.addMQ D8Z (A6p _) (cbl Tryz.f19) (A4V _)

abbrev A8X:SS:=⟨[.ptr 0 0 1 0],[.box [tI,tI,tI,.t false tq5,.t false K4,tI,.t false tq3,.t false tq4,.t false tq4,.t false tq9]]⟩
noncomputable def B7v (p0 p1 p2:Int) (p3:LT1) (p4:LIbe) (p5:Int) (p6:LT3) (p7 p8:LT2) (p9:Lq6):Int:=(wI ((wI (p1*(1000:Int)))+p2))
noncomputable abbrev D5x (p0 p1 p2:Int) (p3:LT1) (p4:LIbe) (p5:Int) (p6:LT3) (p7 p8:LT2) (p9:Lq6) (r:Int):AV×List AObj×List Nat:=((ti r),[(.box [(ti p0),(ti p1),(ti p2),(.t false tq5 p3),(.t false K4 p4),(ti p5),(.t false tq3 p6),(.t false tq4 p7),(.t false tq4 p8),(.t false tq9 p9)])],[])
noncomputable abbrev C2C:A8X.den→AV×List AObj×List Nat:=fun d=>D5x d.2.1.1 d.2.1.2.1 d.2.1.2.2.1 d.2.1.2.2.2.1 d.2.1.2.2.2.2.1 d.2.1.2.2.2.2.2.1 d.2.1.2.2.2.2.2.2.1 d.2.1.2.2.2.2.2.2.2.1 d.2.1.2.2.2.2.2.2.2.2.1 d.2.1.2.2.2.2.2.2.2.2.2.1 (B7v d.2.1.1 d.2.1.2.1 d.2.1.2.2.1 d.2.1.2.2.2.1 d.2.1.2.2.2.2.1 d.2.1.2.2.2.2.2.1 d.2.1.2.2.2.2.2.2.1 d.2.1.2.2.2.2.2.2.2.1 d.2.1.2.2.2.2.2.2.2.2.1 d.2.1.2.2.2.2.2.2.2.2.2.1)
noncomputable abbrev B9b:A8X.den→Bool:=fun d=>true
theorem D2s:A6P F64 aLn Tryz.f44 A8X B9b C2C:=by
 rintro ⟨⟨_,_⟩,⟨⟨p0,p1,p2,p3,p4,p5,p6,p7,p8,p9,_⟩,_⟩⟩ hp
 kernel_rfl
noncomputable abbrev C2S:=winQ (msum A8X B9b C2C)
theorem D5p:aPM 44 C2S:=(mcM F64 hlz D2s).winQ (A6i fun d=>⟨rfl,rfl⟩)
noncomputable def F9G:Tab:=Tab.add F9F 44 (A1N (B9U) (C2S))
noncomputable def F6p:FuncId→Bool:=qadd F6o 44
theorem F65:aPG F9G F6p:=F64.addMQ (MContract.orElse C9k D5p) (A6e (A6p _) (A6p _)) (cbl Tryz.f44) (QuietS.orElse (A4V _) (A4V _))

abbrev A8Y:SS:=⟨[.agg [.t true (.int .i64),.t false tq7],.ptr 0 0 1 0],[.box [tI]]⟩
noncomputable def B7x (x0_0:Int) (x0_1:Lq2) (p0:Int):Bool:=(x0_0==p0)
noncomputable abbrev D5y (p0:Int) (r:Bool):AV×List AObj×List Nat:=((.t true .bool r),[(.box [(ti p0)])],[])
noncomputable abbrev C2D:A8Y.den→AV×List AObj×List Nat:=fun d=>D5y d.2.1.1 (B7x d.1.1.1 d.1.1.2.1 d.2.1.1)
noncomputable abbrev B9c:A8Y.den→Bool:=fun d=>true
theorem D2t:A6P F65 aLn Tryz.f100 A8Y B9c C2D:=by
 rintro ⟨⟨⟨x0_0,x0_1,_⟩,_,_⟩,⟨⟨p0,_⟩,_⟩⟩ hp
 kernel_rfl
noncomputable abbrev C2T:=winQ (msum A8Y B9c C2D)
theorem D5q:aPM 100 C2T:=(mcM F65 hlz D2t).winQ (A6i fun d=>⟨rfl,rfl⟩)
noncomputable def F9H:Tab:=Tab.add F9G 100 (C2T)
noncomputable def F6q:FuncId→Bool:=qadd F6p 100
theorem F5e:aPG F9H F6q:=F65.addMQ D5q (A6p _) (cbl Tryz.f100) (A4V _)

abbrev W3:SS:=⟨[.t false tq9,.fn 100 [0]],[.box [tI]]⟩
abbrev K7:SS:=⟨(.t false tq9::.fn 100 [0]::.junk::.junk::.junk::.junk::.junk::tI::tI::F3t),[.box [tI]]⟩
abbrev A9z:SS:=⟨(.junk::.junk::.junk::.junk::tI::E9D),[.box [tI]]⟩
abbrev A9A:SS:=⟨(.junk::D1v),[.box [tI]]⟩
noncomputable def A8b (x0:Lq6) (x8 p0:Int):=let z1:=x0.getD x8.toNat ((0:Int),[]);B7x (z1.1) (z1.2) p0
noncomputable def B0D (x0:Lq6) (x7 x8 p0:Int):RT K7.den:=(.br (decide (x8<x7)) (.br (decide (0≤x8∧x8<(x0.length:Int))) (.br (A8b x0 x8 p0) (.done .ret A9z (((),(),(),(),x8,u15),((p0,()),()))) (.next ((x0,(),(),(),(),(),(),x7,wI (x8+(1:Int)),u11),((p0,()),())))) .fail) (.done (.exit 0) A9A ((u20),((p0,()),()))))
abbrev Q1:=(Lq6)×(Int)×(Int)
abbrev N6:=Nat×(Int)
def B0i:N6:=(99,((0:Int):Int))
noncomputable def U3 (x0:Lq6) (x7 x8 p0:Int):Q1 ⊕ N6:=(cond (decide (x8<x7)) (cond (decide (0≤x8∧x8<(x0.length:Int))) (cond (A8b x0 x8 p0) (.inr (0,x8)) (.inl (x0,x7,wI (x8+(1:Int))))) (.inr B0i)) (.inr (1,((0:Int):Int))))
noncomputable def P6 (x0:Lq6) (x7 x8 p0:Int):N6:=itX (fun v:Q1=>U3 v.1 v.2.1 v.2.2 p0) B0i (x0,x7,x8)
noncomputable def A7j (p0:Int) (a:N6):CT:=(.br (a.1==0) (.done .ret A9z (((),(),(),(),a.2,u15),((p0,()),()))) (.br (a.1==1) (.done (.exit 0) A9A ((u20),((p0,()),()))) .fail))
noncomputable def C0z (x0:Lq6) (x7 x8 p0:Int):CT:=(A7j p0) (P6 x0 x7 x8 p0)
noncomputable abbrev B0h {α:Sort _} (f:Lq6→Int→Int→Int→α) (d:K7.den):α:=f d.1.1 d.1.2.2.2.2.2.2.2.1 d.1.2.2.2.2.2.2.2.2.1 d.2.1.1
noncomputable abbrev A7t:K7.den→RT K7.den:=(B0h B0D)
noncomputable def A9h:Code:=((C4 0 (A0y Tryz.f99)).getD 0 (0,.skip)).2
noncomputable abbrev B0t (p0:Int) (v:Q1):K7.den:=((v.1,(),(),(),(),(),(),v.2.1,v.2.2,u11),((p0,()),()))
theorem B9Z (p0:Int):(∀ v:Q1,(B0D v.1 v.2.1 v.2.2 p0).val=A5T (B0t p0) (A7j p0) (U3 v.1 v.2.1 v.2.2 p0))∧∀ a:N6,CEnd K7.den ((A7j p0) a):=⟨fun v=>(A6V (A6V (A6V rfl rfl) rfl) rfl),fun a=>(A6I aCD (A6I aCD A6K))⟩
theorem B9g:RdA F5e aLn 0 A9h K7 1 [] (kepts [4] [(0,[])]) (fun d=>(A7t d).opt 1 []):=by
 intro d
 kernel_rfl
noncomputable abbrev A9K:St→Option Tree:=K7.say 1 [] [] (B0h C0z)
theorem B9T:aPL A9K A9h:=SS.wp2 hlz [] A7t B9g (fun d=>rfl) _ (fun d=>Runs.ofI2 (step:=A7t) (B0t d.2.1.1) (B9Z d.2.1.1) rfl (d.1.1,d.1.2.2.2.2.2.2.2.1,d.1.2.2.2.2.2.2.2.2.1))
noncomputable def A7f (x0:Lq6) (p0:Int):Int:=let z1:=P6 x0 (x0.length:Int) (0:Int) p0;(cond (z1.1==0) (z1.2) (-1:Int))
noncomputable abbrev Y7 (p0 r:Int):AV×List AObj×List Nat:=((ti r),[(.box [(ti p0)])],[])
noncomputable abbrev B23:W3.den→AV×List AObj×List Nat:=fun d=>Y7 d.2.1.1 (A7f d.1.1 d.2.1.1)
noncomputable def O7 (x0:Lq6) (p0:Int):Bool:=let z1:=P6 x0 (x0.length:Int) (0:Int) p0;cond (z1.1==0) true (z1.1==1)
noncomputable abbrev B1j:W3.den→Bool:=fun d=>O7 d.1.1 d.2.1.1
noncomputable abbrev C3B:Nat→St→Option Tree:=fun b=>match b with | 0=>A9K | _=>fun _=>none
theorem C01:A6P F5e (C3B) Tryz.f99 W3 B1j B23:=by
 rintro ⟨⟨x0,_,_⟩,⟨⟨p0,_⟩,_⟩⟩ hp
 change O7 x0 p0=true at hp
 unfold O7 at hp
 refine Eq.trans (b:=(let z1:=P6 x0 (x0.length:Int) (0:Int) p0;cond (z1.1==0) (some (Y7 p0 (z1.2))) (cond (z1.1==1) (some (Y7 p0 (-1:Int))) none))) (by kernel_rfl) ?_
 exact (H7 (Y7 p0) hp (fun hp=>rfl) (fun hp=>(A6T hp fun _h=>rfl)))
noncomputable abbrev B25:=winQ (msum W3 B1j B23)
theorem C3D:aPM 99 B25:=(mcM F5e (hl1 (i:=0) (by kernel_rfl) B9T) C01).winQ (A6i fun d=>⟨rfl,rfl⟩)
noncomputable def F9I:Tab:=Tab.add F9H 99 (B25)
noncomputable def F6r:FuncId→Bool:=qadd F6q 99
theorem F66:aPG F9I F6r:=F5e.addMQ C3D (A6p _) (cbl Tryz.f99) (A4V _)

abbrev B02:SS:=⟨[.ptr 0 0 1 0,tI],[.box [tI,tI,tI,.t false tq5,.t false K4,tI,.t false tq3,.t false tq4,.t false tq4,.t false tq9]]⟩
noncomputable def A79 (x1 p0 p1 p2:Int) (p3:LT1) (p4:LIbe) (p5:Int) (p6:LT3) (p7 p8:LT2) (p9:Lq6):Int:=(A7f p9 x1)
noncomputable abbrev C6d (p0 p1 p2:Int) (p3:LT1) (p4:LIbe) (p5:Int) (p6:LT3) (p7 p8:LT2) (p9:Lq6) (r:Int):AV×List AObj×List Nat:=((ti r),[(.box [(ti p0),(ti p1),(ti p2),(.t false tq5 p3),(.t false K4 p4),(ti p5),(.t false tq3 p6),(.t false tq4 p7),(.t false tq4 p8),(.t false tq9 p9)])],[])
noncomputable abbrev C6j:B02.den→AV×List AObj×List Nat:=fun d=>C6d d.2.1.1 d.2.1.2.1 d.2.1.2.2.1 d.2.1.2.2.2.1 d.2.1.2.2.2.2.1 d.2.1.2.2.2.2.2.1 d.2.1.2.2.2.2.2.2.1 d.2.1.2.2.2.2.2.2.2.1 d.2.1.2.2.2.2.2.2.2.2.1 d.2.1.2.2.2.2.2.2.2.2.2.1 (A79 d.1.2.1 d.2.1.1 d.2.1.2.1 d.2.1.2.2.1 d.2.1.2.2.2.1 d.2.1.2.2.2.2.1 d.2.1.2.2.2.2.2.1 d.2.1.2.2.2.2.2.2.1 d.2.1.2.2.2.2.2.2.2.1 d.2.1.2.2.2.2.2.2.2.2.1 d.2.1.2.2.2.2.2.2.2.2.2.1)
noncomputable def K8 (x1 p0 p1 p2:Int) (p3:LT1) (p4:LIbe) (p5:Int) (p6:LT3) (p7 p8:LT2) (p9:Lq6):Bool:=O7 p9 x1
noncomputable abbrev C2W:B02.den→Bool:=fun d=>K8 d.1.2.1 d.2.1.1 d.2.1.2.1 d.2.1.2.2.1 d.2.1.2.2.2.1 d.2.1.2.2.2.2.1 d.2.1.2.2.2.2.2.1 d.2.1.2.2.2.2.2.2.1 d.2.1.2.2.2.2.2.2.2.1 d.2.1.2.2.2.2.2.2.2.2.1 d.2.1.2.2.2.2.2.2.2.2.2.1
theorem D6D:A6P F66 aLn Tryz.f53 B02 C2W C6j:=by
 rintro ⟨⟨_,x1,_⟩,⟨⟨p0,p1,p2,p3,p4,p5,p6,p7,p8,p9,_⟩,_⟩⟩ hp
 change K8 x1 p0 p1 p2 p3 p4 p5 p6 p7 p8 p9=true at hp
 unfold K8 at hp
 refine Eq.trans (b:=(cond (O7 p9 x1) (some (C6d p0 p1 p2 p3 p4 p5 p6 p7 p8 p9 (A7f p9 x1))) none)) (by kernel_rfl) ?_
 exact (A6T hp fun _h=>rfl)
noncomputable abbrev C6z:=winQ (msum B02 C2W C6j)
theorem D8Y:aPM 53 C6z:=(mcM F66 hlz D6D).winQ (A6i fun d=>⟨rfl,rfl⟩)
noncomputable def F9J:Tab:=Tab.add F9I 53 (C6z)
noncomputable def F6s:FuncId→Bool:=qadd F6r 53
theorem F2D:aPG F9J F6s:=F66.addMQ D8Y (A6p _) (cbl Tryz.f53) (A4V _)

abbrev G1w:List Sh:=.junk::F1G
abbrev F7L:List Sh:=.junk::.junk::.junk::.junk::.junk::.junk::.junk::G0y
abbrev u95:=((),(),(),(),(),(),u89)
abbrev u98:=((),(),u96)
abbrev F7x:List AV:=.junk::.junk::.junk::.junk::.junk::.junk::.junk::G0j
abbrev G1l:List AV:=.junk::E9C
abbrev B01:SS:=⟨[.ptr 0 0 1 0],[.box [tI,tI,tI,.t false tq5,.t false K4,tI,.t false tq3,.t false tq4,.t false tq4,.t false tq9]]⟩
noncomputable def B0P:Code:=((C4 0 (A0y Tryz.f20)).getD 0 (0,.skip)).2
noncomputable def B0Q:Code:=((C4 0 (A0y Tryz.f20)).getD 1 (0,.skip)).2
noncomputable def B0R:Code:=((C4 0 (A0y Tryz.f20)).getD 2 (0,.skip)).2
abbrev O8:SS:=⟨(.ptr 0 0 1 0::.junk::.junk::.junk::.junk::.junk::.junk::.junk::.junk::.junk::.junk::.junk::.junk::.t false tq9::tI::tI::G1w),[.box [tI,tI,tI,.t false tq5,.t false K4,tI,.t false tq3,.t false tq4,.t false tq4,.t false tq9]]⟩
abbrev A8s:SS:=⟨(.junk::.junk::.t true .bool::F7L),[.box [tI,tI,tI,.t false tq5,.t false K4,tI,.t false tq3,.t false tq4,.t false tq4,.t false tq9]]⟩
abbrev B8C:SS:=⟨(.ptr 0 0 1 0::F5V),[.box [tI,tI,tI,.t false tq5,.t false K4,tI,.t false tq3,.t false tq4,.t false tq4,.t false tq9]]⟩
noncomputable def B09 (x13:Lq6) (x15 p0 p1 p2:Int) (p3:LT1) (p4:LIbe) (p5:Int) (p6:LT3) (p7 p8:LT2) (p9:Lq6):=M4 ((x13.getD x15.toNat ((0:Int),[])).1) (1000:Int) (wI ((B7v p0 p1 p2 p3 p4 p5 p6 p7 p8 p9) - (1:Int)))
noncomputable def B1a (x13:Lq6) (x15 p0 p1 p2:Int) (p3:LT1) (p4:LIbe) (p5:Int) (p6:LT3) (p7 p8:LT2) (p9:Lq6):=A79 ((x13.getD x15.toNat ((0:Int),[])).1) p0 p1 p2 p3 p4 p5 p6 p7 p8 p9
noncomputable def C0p (x13:Lq6) (x14 x15 p0 p1 p2:Int) (p3:LT1) (p4:LIbe) (p5:Int) (p6:LT3) (p7 p8:LT2) (p9:Lq6):RT O8.den:=let z1:=x13.getD x15.toNat ((0:Int),[]);(.br (decide (x15<x14)) (.br (decide (0≤x15∧x15<(x13.length:Int))) (.br (B0u (z1.2)) (.br (!(B7w (z1.2))) (.done .ret A8s (((),(),false,u95),((p0,p1,p2,p3,p4,p5,p6,p7,p8,p9,()),()))) (.br (!(B09 x13 x15 p0 p1 p2 p3 p4 p5 p6 p7 p8 p9)) (.done .ret A8s (((),(),false,u95),((p0,p1,p2,p3,p4,p5,p6,p7,p8,p9,()),()))) (.br (K8 (z1.1) p0 p1 p2 p3 p4 p5 p6 p7 p8 p9) (.br ((B1a x13 x15 p0 p1 p2 p3 p4 p5 p6 p7 p8 p9) != x15) (.done .ret A8s (((),(),false,u95),((p0,p1,p2,p3,p4,p5,p6,p7,p8,p9,()),()))) (.next (((),(),(),(),(),(),(),(),(),(),(),(),(),x13,x14,wI (x15+(1:Int)),u82),((p0,p1,p2,p3,p4,p5,p6,p7,p8,p9,()),())))) .fail))) .fail) .fail) (.done (.exit 0) B8C ((u98),((p0,p1,p2,p3,p4,p5,p6,p7,p8,p9,()),()))))
abbrev A7Z:=(Lq6)×(Int)×(Int)
abbrev A7Q:=Nat×(Bool)
def A82:A7Q:=(99,(false:Bool))
noncomputable def A83 (x13:Lq6) (x14 x15 p0 p1 p2:Int) (p3:LT1) (p4:LIbe) (p5:Int) (p6:LT3) (p7 p8:LT2) (p9:Lq6):A7Z ⊕ A7Q:=let z1:=x13.getD x15.toNat ((0:Int),[]);(cond (decide (x15<x14)) (cond (decide (0≤x15∧x15<(x13.length:Int))) (cond (B0u (z1.2)) (cond (!(B7w (z1.2))) (.inr (0,false)) (cond (!(B09 x13 x15 p0 p1 p2 p3 p4 p5 p6 p7 p8 p9)) (.inr (0,false)) (cond (K8 (z1.1) p0 p1 p2 p3 p4 p5 p6 p7 p8 p9) (cond ((B1a x13 x15 p0 p1 p2 p3 p4 p5 p6 p7 p8 p9) != x15) (.inr (0,false)) (.inl (x13,x14,wI (x15+(1:Int))))) (.inr A82)))) (.inr A82)) (.inr A82)) (.inr (1,(false:Bool))))
noncomputable def B3e (x13:Lq6) (x14 x15 p0 p1 p2:Int) (p3:LT1) (p4:LIbe) (p5:Int) (p6:LT3) (p7 p8:LT2) (p9:Lq6):A7Q:=itX (fun v:A7Z=>A83 v.1 v.2.1 v.2.2 p0 p1 p2 p3 p4 p5 p6 p7 p8 p9) A82 (x13,x14,x15)
noncomputable def B28 (p0 p1 p2:Int) (p3:LT1) (p4:LIbe) (p5:Int) (p6:LT3) (p7 p8:LT2) (p9:Lq6) (a:A7Q):CT:=(.br (a.1==0) (.done .ret A8s (((),(),a.2,u95),((p0,p1,p2,p3,p4,p5,p6,p7,p8,p9,()),()))) (.br (a.1==1) (.done (.exit 0) B8C ((u98),((p0,p1,p2,p3,p4,p5,p6,p7,p8,p9,()),()))) .fail))
noncomputable def D5k (x13:Lq6) (x14 x15 p0 p1 p2:Int) (p3:LT1) (p4:LIbe) (p5:Int) (p6:LT3) (p7 p8:LT2) (p9:Lq6):CT:=(B28 p0 p1 p2 p3 p4 p5 p6 p7 p8 p9) (B3e x13 x14 x15 p0 p1 p2 p3 p4 p5 p6 p7 p8 p9)
noncomputable abbrev A8Z {α:Sort _} (f:Lq6→Int→Int→Int→Int→Int→LT1→LIbe→Int→LT3→LT2→LT2→Lq6→α) (d:O8.den):α:=f d.1.2.2.2.2.2.2.2.2.2.2.2.2.2.1 d.1.2.2.2.2.2.2.2.2.2.2.2.2.2.2.1 d.1.2.2.2.2.2.2.2.2.2.2.2.2.2.2.2.1 d.2.1.1 d.2.1.2.1 d.2.1.2.2.1 d.2.1.2.2.2.1 d.2.1.2.2.2.2.1 d.2.1.2.2.2.2.2.1 d.2.1.2.2.2.2.2.2.1 d.2.1.2.2.2.2.2.2.2.1 d.2.1.2.2.2.2.2.2.2.2.1 d.2.1.2.2.2.2.2.2.2.2.2.1
noncomputable abbrev B3k:O8.den→RT O8.den:=(A8Z C0p)
noncomputable abbrev C0l (p0 p1 p2:Int) (p3:LT1) (p4:LIbe) (p5:Int) (p6:LT3) (p7 p8:LT2) (p9:Lq6) (v:A7Z):O8.den:=(((),(),(),(),(),(),(),(),(),(),(),(),(),v.1,v.2.1,v.2.2,u82),((p0,p1,p2,p3,p4,p5,p6,p7,p8,p9,()),()))
theorem D3Q (p0 p1 p2:Int) (p3:LT1) (p4:LIbe) (p5:Int) (p6:LT3) (p7 p8:LT2) (p9:Lq6):(∀ v:A7Z,(C0p v.1 v.2.1 v.2.2 p0 p1 p2 p3 p4 p5 p6 p7 p8 p9).val=A5T (C0l p0 p1 p2 p3 p4 p5 p6 p7 p8 p9) (B28 p0 p1 p2 p3 p4 p5 p6 p7 p8 p9) (A83 v.1 v.2.1 v.2.2 p0 p1 p2 p3 p4 p5 p6 p7 p8 p9))∧∀ a:A7Q,CEnd O8.den ((B28 p0 p1 p2 p3 p4 p5 p6 p7 p8 p9) a):=⟨fun v=>by repeat' first | apply A6V | rfl,fun a=>(A6I aCD (A6I aCD A6K))⟩
noncomputable def C0g (x13:Lq6) (x14 x15 p0 p1 p2:Int) (p3:LT1) (p4:LIbe) (p5:Int) (p6:LT3) (p7 p8:LT2) (p9:Lq6):Option (Ex×St):=let z1:=(⟨(.junk::.junk::(.t true .bool false)::F7x),[(.box [(ti p0),(ti p1),(ti p2),(.t false tq5 p3),(.t false K4 p4),(ti p5),(.t false tq3 p6),(.t false tq4 p7),(.t false tq4 p8),(.t false tq9 p9)])],1,[]⟩:St);let z2:=x13.getD x15.toNat ((0:Int),[]);(cond (decide (x15<x14)) (cond (decide (0≤x15∧x15<(x13.length:Int))) (cond (B0u (z2.2)) (cond (!(B7w (z2.2))) (some (.ret,z1)) (cond (!(B09 x13 x15 p0 p1 p2 p3 p4 p5 p6 p7 p8 p9)) (some (.ret,z1)) (cond (K8 (z2.1) p0 p1 p2 p3 p4 p5 p6 p7 p8 p9) (cond ((B1a x13 x15 p0 p1 p2 p3 p4 p5 p6 p7 p8 p9) != x15) (some (.ret,z1)) (some (.normal,(⟨((.ptr 0 0 1 0)::.junk::.junk::.junk::.junk::.junk::.junk::.junk::.junk::.junk::.junk::.junk::.junk::(.t false tq9 x13)::(ti x14)::(ti (wI (x15+(1:Int))))::G1l),[(.box [(ti p0),(ti p1),(ti p2),(.t false tq5 p3),(.t false K4 p4),(ti p5),(.t false tq3 p6),(.t false tq4 p7),(.t false tq4 p8),(.t false tq9 p9)])],1,[]⟩:St)))) none))) none) none) (some ((.exit 0),(⟨((.ptr 0 0 1 0)::F5T),[(.box [(ti p0),(ti p1),(ti p2),(.t false tq5 p3),(.t false K4 p4),(ti p5),(.t false tq3 p6),(.t false tq4 p7),(.t false tq4 p8),(.t false tq9 p9)])],1,[]⟩:St))))
theorem D2l:RdA F2D aLn 0 B0P O8 1 [] (kepts [2] [(0,[0])]) (A8Z C0g):=by
 intro d
 kernel_rfl
theorem D2p:∀ d:O8.den,(A8Z C0g) d=(B3k d).opt 1 []:=by
 intro d
 kernel_rfl
noncomputable abbrev B9k:St→Option Tree:=O8.say 1 [] [] (A8Z D5k)
theorem D3K:aPL B9k B0P:=SS.wp2 hlz [] B3k D2l D2p _ (fun d=>Runs.ofI2 (step:=B3k) (C0l d.2.1.1 d.2.1.2.1 d.2.1.2.2.1 d.2.1.2.2.2.1 d.2.1.2.2.2.2.1 d.2.1.2.2.2.2.2.1 d.2.1.2.2.2.2.2.2.1 d.2.1.2.2.2.2.2.2.2.1 d.2.1.2.2.2.2.2.2.2.2.1 d.2.1.2.2.2.2.2.2.2.2.2.1) (D3Q d.2.1.1 d.2.1.2.1 d.2.1.2.2.1 d.2.1.2.2.2.1 d.2.1.2.2.2.2.1 d.2.1.2.2.2.2.2.1 d.2.1.2.2.2.2.2.2.1 d.2.1.2.2.2.2.2.2.2.1 d.2.1.2.2.2.2.2.2.2.2.1 d.2.1.2.2.2.2.2.2.2.2.2.1) rfl (d.1.2.2.2.2.2.2.2.2.2.2.2.2.2.1,d.1.2.2.2.2.2.2.2.2.2.2.2.2.2.2.1,d.1.2.2.2.2.2.2.2.2.2.2.2.2.2.2.2.1))
abbrev O9:SS:=⟨(.ptr 0 0 1 0::.junk::.junk::.junk::.junk::.junk::.junk::.junk::.junk::.junk::.junk::.junk::.junk::.junk::.junk::.junk::.junk::.junk::.junk::.junk::.junk::.junk::.junk::.junk::.junk::.junk::.junk::.junk::.junk::.junk::.junk::.junk::.junk::.junk::.junk::.junk::.junk::.junk::.junk::.junk::.junk::.junk::.junk::.junk::.junk::.junk::.junk::.junk::.t false K4::tI::tI::F3w),[.box [tI,tI,tI,.t false tq5,.t false K4,tI,.t false tq3,.t false tq4,.t false tq4,.t false tq9]]⟩
abbrev B8D:SS:=⟨(.junk::.junk::.t true .bool::F7L),[.box [tI,tI,tI,.t false tq5,.t false K4,tI,.t false tq3,.t false tq4,.t false tq4,.t false tq9]]⟩
abbrev B8E:SS:=⟨(.ptr 0 0 1 0::F5V),[.box [tI,tI,tI,.t false tq5,.t false K4,tI,.t false tq3,.t false tq4,.t false tq4,.t false tq9]]⟩
noncomputable def B1d (x48:LIbe) (x50 p0 p1 p2:Int) (p3:LT1) (p4:LIbe) (p5:Int) (p6:LT3) (p7 p8:LT2) (p9:Lq6):=A79 ((x48.getD x50.toNat ((0:Int),false)).1) p0 p1 p2 p3 p4 p5 p6 p7 p8 p9
noncomputable def C0q (x48:LIbe) (x49 x50 p0 p1 p2:Int) (p3:LT1) (p4:LIbe) (p5:Int) (p6:LT3) (p7 p8:LT2) (p9:Lq6):RT O9.den:=(.br (decide (x50<x49)) (.br (decide (0≤x50∧x50<(x48.length:Int))) (.br (K8 ((x48.getD x50.toNat ((0:Int),false)).1) p0 p1 p2 p3 p4 p5 p6 p7 p8 p9) (.br (decide ((B1d x48 x50 p0 p1 p2 p3 p4 p5 p6 p7 p8 p9)<(0:Int))) (.done .ret B8D (((),(),false,u95),((p0,p1,p2,p3,p4,p5,p6,p7,p8,p9,()),()))) (.next (((),(),(),(),(),(),(),(),(),(),(),(),(),(),(),(),(),(),(),(),(),(),(),(),(),(),(),(),(),(),(),(),(),(),(),(),(),(),(),(),(),(),(),(),(),(),(),(),x48,x49,wI (x50+(1:Int)),u47),((p0,p1,p2,p3,p4,p5,p6,p7,p8,p9,()),())))) .fail) .fail) (.done (.exit 2) B8E ((u98),((p0,p1,p2,p3,p4,p5,p6,p7,p8,p9,()),()))))
abbrev A70:=(LIbe)×(Int)×(Int)
abbrev A7R:=Nat×(Bool)
def B3c:A7R:=(99,(false:Bool))
noncomputable def A84 (x48:LIbe) (x49 x50 p0 p1 p2:Int) (p3:LT1) (p4:LIbe) (p5:Int) (p6:LT3) (p7 p8:LT2) (p9:Lq6):A70 ⊕ A7R:=(cond (decide (x50<x49)) (cond (decide (0≤x50∧x50<(x48.length:Int))) (cond (K8 ((x48.getD x50.toNat ((0:Int),false)).1) p0 p1 p2 p3 p4 p5 p6 p7 p8 p9) (cond (decide ((B1d x48 x50 p0 p1 p2 p3 p4 p5 p6 p7 p8 p9)<(0:Int))) (.inr (0,false)) (.inl (x48,x49,wI (x50+(1:Int))))) (.inr B3c)) (.inr B3c)) (.inr (1,(false:Bool))))
noncomputable def B3f (x48:LIbe) (x49 x50 p0 p1 p2:Int) (p3:LT1) (p4:LIbe) (p5:Int) (p6:LT3) (p7 p8:LT2) (p9:Lq6):A7R:=itX (fun v:A70=>A84 v.1 v.2.1 v.2.2 p0 p1 p2 p3 p4 p5 p6 p7 p8 p9) B3c (x48,x49,x50)
noncomputable def B29 (p0 p1 p2:Int) (p3:LT1) (p4:LIbe) (p5:Int) (p6:LT3) (p7 p8:LT2) (p9:Lq6) (a:A7R):CT:=(.br (a.1==0) (.done .ret B8D (((),(),a.2,u95),((p0,p1,p2,p3,p4,p5,p6,p7,p8,p9,()),()))) (.br (a.1==1) (.done (.exit 2) B8E ((u98),((p0,p1,p2,p3,p4,p5,p6,p7,p8,p9,()),()))) .fail))
noncomputable def D5l (x48:LIbe) (x49 x50 p0 p1 p2:Int) (p3:LT1) (p4:LIbe) (p5:Int) (p6:LT3) (p7 p8:LT2) (p9:Lq6):CT:=(B29 p0 p1 p2 p3 p4 p5 p6 p7 p8 p9) (B3f x48 x49 x50 p0 p1 p2 p3 p4 p5 p6 p7 p8 p9)
noncomputable abbrev A80 {α:Sort _} (f:LIbe→Int→Int→Int→Int→Int→LT1→LIbe→Int→LT3→LT2→LT2→Lq6→α) (d:O9.den):α:=f d.1.2.2.2.2.2.2.2.2.2.2.2.2.2.2.2.2.2.2.2.2.2.2.2.2.2.2.2.2.2.2.2.2.2.2.2.2.2.2.2.2.2.2.2.2.2.2.2.2.1 d.1.2.2.2.2.2.2.2.2.2.2.2.2.2.2.2.2.2.2.2.2.2.2.2.2.2.2.2.2.2.2.2.2.2.2.2.2.2.2.2.2.2.2.2.2.2.2.2.2.2.1 d.1.2.2.2.2.2.2.2.2.2.2.2.2.2.2.2.2.2.2.2.2.2.2.2.2.2.2.2.2.2.2.2.2.2.2.2.2.2.2.2.2.2.2.2.2.2.2.2.2.2.2.1 d.2.1.1 d.2.1.2.1 d.2.1.2.2.1 d.2.1.2.2.2.1 d.2.1.2.2.2.2.1 d.2.1.2.2.2.2.2.1 d.2.1.2.2.2.2.2.2.1 d.2.1.2.2.2.2.2.2.2.1 d.2.1.2.2.2.2.2.2.2.2.1 d.2.1.2.2.2.2.2.2.2.2.2.1
noncomputable abbrev B3l:O9.den→RT O9.den:=(A80 C0q)
noncomputable abbrev C0m (p0 p1 p2:Int) (p3:LT1) (p4:LIbe) (p5:Int) (p6:LT3) (p7 p8:LT2) (p9:Lq6) (v:A70):O9.den:=(((),(),(),(),(),(),(),(),(),(),(),(),(),(),(),(),(),(),(),(),(),(),(),(),(),(),(),(),(),(),(),(),(),(),(),(),(),(),(),(),(),(),(),(),(),(),(),(),v.1,v.2.1,v.2.2,u47),((p0,p1,p2,p3,p4,p5,p6,p7,p8,p9,()),()))
theorem D3R (p0 p1 p2:Int) (p3:LT1) (p4:LIbe) (p5:Int) (p6:LT3) (p7 p8:LT2) (p9:Lq6):(∀ v:A70,(C0q v.1 v.2.1 v.2.2 p0 p1 p2 p3 p4 p5 p6 p7 p8 p9).val=A5T (C0m p0 p1 p2 p3 p4 p5 p6 p7 p8 p9) (B29 p0 p1 p2 p3 p4 p5 p6 p7 p8 p9) (A84 v.1 v.2.1 v.2.2 p0 p1 p2 p3 p4 p5 p6 p7 p8 p9))∧∀ a:A7R,CEnd O9.den ((B29 p0 p1 p2 p3 p4 p5 p6 p7 p8 p9) a):=⟨fun v=>(A6V (A6V (A6V (A6V rfl rfl) rfl) rfl) rfl),fun a=>(A6I aCD (A6I aCD A6K))⟩
noncomputable def C0h (x48:LIbe) (x49 x50 p0 p1 p2:Int) (p3:LT1) (p4:LIbe) (p5:Int) (p6:LT3) (p7 p8:LT2) (p9:Lq6):Option (Ex×St):=(cond (decide (x50<x49)) (cond (decide (0≤x50∧x50<(x48.length:Int))) (cond (K8 ((x48.getD x50.toNat ((0:Int),false)).1) p0 p1 p2 p3 p4 p5 p6 p7 p8 p9) (cond (decide ((B1d x48 x50 p0 p1 p2 p3 p4 p5 p6 p7 p8 p9)<(0:Int))) (some (.ret,(⟨(.junk::.junk::(.t true .bool false)::F7x),[(.box [(ti p0),(ti p1),(ti p2),(.t false tq5 p3),(.t false K4 p4),(ti p5),(.t false tq3 p6),(.t false tq4 p7),(.t false tq4 p8),(.t false tq9 p9)])],1,[]⟩:St))) (some (.normal,(⟨((.ptr 0 0 1 0)::.junk::.junk::.junk::.junk::.junk::.junk::.junk::.junk::.junk::.junk::.junk::.junk::.junk::.junk::.junk::.junk::.junk::.junk::.junk::.junk::.junk::.junk::.junk::.junk::.junk::.junk::.junk::.junk::.junk::.junk::.junk::.junk::.junk::.junk::.junk::.junk::.junk::.junk::.junk::.junk::.junk::.junk::.junk::.junk::.junk::.junk::.junk::(.t false K4 x48)::(ti x49)::(ti (wI (x50+(1:Int))))::E9B),[(.box [(ti p0),(ti p1),(ti p2),(.t false tq5 p3),(.t false K4 p4),(ti p5),(.t false tq3 p6),(.t false tq4 p7),(.t false tq4 p8),(.t false tq9 p9)])],1,[]⟩:St)))) none) none) (some ((.exit 2),(⟨((.ptr 0 0 1 0)::F5T),[(.box [(ti p0),(ti p1),(ti p2),(.t false tq5 p3),(.t false K4 p4),(ti p5),(.t false tq3 p6),(.t false tq4 p7),(.t false tq4 p8),(.t false tq9 p9)])],1,[]⟩:St))))
theorem D2m:RdA F2D aLn 2 B0Q O9 1 [] (kepts [2] [(2,[0])]) (A80 C0h):=by
 intro d
 kernel_rfl
theorem D2q:∀ d:O9.den,(A80 C0h) d=(B3l d).opt 1 []:=by
 intro d
 kernel_rfl
noncomputable abbrev B9l:St→Option Tree:=O9.say 1 [] [] (A80 D5l)
theorem D3L:aPL B9l B0Q:=SS.wp2 hlz [] B3l D2m D2q _ (fun d=>Runs.ofI2 (step:=B3l) (C0m d.2.1.1 d.2.1.2.1 d.2.1.2.2.1 d.2.1.2.2.2.1 d.2.1.2.2.2.2.1 d.2.1.2.2.2.2.2.1 d.2.1.2.2.2.2.2.2.1 d.2.1.2.2.2.2.2.2.2.1 d.2.1.2.2.2.2.2.2.2.2.1 d.2.1.2.2.2.2.2.2.2.2.2.1) (D3R d.2.1.1 d.2.1.2.1 d.2.1.2.2.1 d.2.1.2.2.2.1 d.2.1.2.2.2.2.1 d.2.1.2.2.2.2.2.1 d.2.1.2.2.2.2.2.2.1 d.2.1.2.2.2.2.2.2.2.1 d.2.1.2.2.2.2.2.2.2.2.1 d.2.1.2.2.2.2.2.2.2.2.2.1) rfl (d.1.2.2.2.2.2.2.2.2.2.2.2.2.2.2.2.2.2.2.2.2.2.2.2.2.2.2.2.2.2.2.2.2.2.2.2.2.2.2.2.2.2.2.2.2.2.2.2.2.1,d.1.2.2.2.2.2.2.2.2.2.2.2.2.2.2.2.2.2.2.2.2.2.2.2.2.2.2.2.2.2.2.2.2.2.2.2.2.2.2.2.2.2.2.2.2.2.2.2.2.2.1,d.1.2.2.2.2.2.2.2.2.2.2.2.2.2.2.2.2.2.2.2.2.2.2.2.2.2.2.2.2.2.2.2.2.2.2.2.2.2.2.2.2.2.2.2.2.2.2.2.2.2.2.1))
abbrev P0:SS:=⟨(.ptr 0 0 1 0::.junk::.junk::.junk::.junk::.junk::.junk::.junk::.junk::.junk::.junk::.junk::.junk::.junk::.junk::.junk::.junk::.junk::.junk::.junk::.junk::.junk::.junk::.junk::.junk::.junk::.junk::.junk::.junk::.junk::.junk::.junk::.junk::.junk::.junk::.junk::.junk::.junk::.junk::.junk::.junk::.junk::.junk::.junk::.junk::.junk::.junk::.junk::.junk::.junk::.junk::.junk::.junk::.junk::.junk::.junk::.junk::.junk::.junk::.junk::.junk::.junk::.junk::.junk::.t false tq5::tI::tI::F7B),[.box [tI,tI,tI,.t false tq5,.t false K4,tI,.t false tq3,.t false tq4,.t false tq4,.t false tq9]]⟩
abbrev B1v:SS:=⟨(.junk::.junk::.t true .bool::F7L),[.box [tI,tI,tI,.t false tq5,.t false K4,tI,.t false tq3,.t false tq4,.t false tq4,.t false tq9]]⟩
abbrev B8F:SS:=⟨(.ptr 0 0 1 0::F5V),[.box [tI,tI,tI,.t false tq5,.t false K4,tI,.t false tq3,.t false tq4,.t false tq4,.t false tq9]]⟩
noncomputable def A8D (x64:LT1) (x66 p0 p1 p2:Int) (p3:LT1) (p4:LIbe) (p5:Int) (p6:LT3) (p7 p8:LT2) (p9:Lq6):=A79 ((x64.getD x66.toNat ((0:Int),([],((0:Int),[])))).1) p0 p1 p2 p3 p4 p5 p6 p7 p8 p9
noncomputable def B1f (x64:LT1) (x66 p0 p1 p2:Int) (p3:LT1) (p4:LIbe) (p5:Int) (p6:LT3) (p7 p8:LT2) (p9:Lq6):=A7P ((p9.getD ((A8D x64 x66 p0 p1 p2 p3 p4 p5 p6 p7 p8 p9).toNat) ((0:Int),[])).2) (((x64.getD x66.toNat ((0:Int),([],((0:Int),[])))).2).1)
noncomputable def C0r (x64:LT1) (x65 x66 p0 p1 p2:Int) (p3:LT1) (p4:LIbe) (p5:Int) (p6:LT3) (p7 p8:LT2) (p9:Lq6):RT P0.den:=let z1:=A8D x64 x66 p0 p1 p2 p3 p4 p5 p6 p7 p8 p9;let z2:=x64.getD x66.toNat ((0:Int),([],((0:Int),[])));(.br (decide (x66<x65)) (.br (decide (0≤x66∧x66<(x64.length:Int))) (.br (K8 (z2.1) p0 p1 p2 p3 p4 p5 p6 p7 p8 p9) (.br (decide (z1<(0:Int))) (.done .ret B1v (((),(),false,u95),((p0,p1,p2,p3,p4,p5,p6,p7,p8,p9,()),()))) (.br (decide (0≤z1∧z1<(p9.length:Int))) (.br (N3 ((p9.getD (z1.toNat) ((0:Int),[])).2) ((z2.2).1)) (.br (!(B1f x64 x66 p0 p1 p2 p3 p4 p5 p6 p7 p8 p9)) (.done .ret B1v (((),(),false,u95),((p0,p1,p2,p3,p4,p5,p6,p7,p8,p9,()),()))) (.next (((),(),(),(),(),(),(),(),(),(),(),(),(),(),(),(),(),(),(),(),(),(),(),(),(),(),(),(),(),(),(),(),(),(),(),(),(),(),(),(),(),(),(),(),(),(),(),(),(),(),(),(),(),(),(),(),(),(),(),(),(),(),(),(),x64,x65,wI (x66+(1:Int)),u31),((p0,p1,p2,p3,p4,p5,p6,p7,p8,p9,()),())))) .fail) .fail)) .fail) .fail) (.done (.exit 4) B8F ((u98),((p0,p1,p2,p3,p4,p5,p6,p7,p8,p9,()),()))))
abbrev A71:=LT1×(Int)×(Int)
abbrev A7S:=Nat×(Bool)
def A7u:A7S:=(99,(false:Bool))
noncomputable def A85 (x64:LT1) (x65 x66 p0 p1 p2:Int) (p3:LT1) (p4:LIbe) (p5:Int) (p6:LT3) (p7 p8:LT2) (p9:Lq6):A71 ⊕ A7S:=let z1:=A8D x64 x66 p0 p1 p2 p3 p4 p5 p6 p7 p8 p9;let z2:=x64.getD x66.toNat ((0:Int),([],((0:Int),[])));(cond (decide (x66<x65)) (cond (decide (0≤x66∧x66<(x64.length:Int))) (cond (K8 (z2.1) p0 p1 p2 p3 p4 p5 p6 p7 p8 p9) (cond (decide (z1<(0:Int))) (.inr (0,false)) (cond (decide (0≤z1∧z1<(p9.length:Int))) (cond (N3 ((p9.getD (z1.toNat) ((0:Int),[])).2) ((z2.2).1)) (cond (!(B1f x64 x66 p0 p1 p2 p3 p4 p5 p6 p7 p8 p9)) (.inr (0,false)) (.inl (x64,x65,wI (x66+(1:Int))))) (.inr A7u)) (.inr A7u))) (.inr A7u)) (.inr A7u)) (.inr (1,(false:Bool))))
noncomputable def B3g (x64:LT1) (x65 x66 p0 p1 p2:Int) (p3:LT1) (p4:LIbe) (p5:Int) (p6:LT3) (p7 p8:LT2) (p9:Lq6):A7S:=itX (fun v:A71=>A85 v.1 v.2.1 v.2.2 p0 p1 p2 p3 p4 p5 p6 p7 p8 p9) A7u (x64,x65,x66)
noncomputable def B3a (p0 p1 p2:Int) (p3:LT1) (p4:LIbe) (p5:Int) (p6:LT3) (p7 p8:LT2) (p9:Lq6) (a:A7S):CT:=(.br (a.1==0) (.done .ret B1v (((),(),a.2,u95),((p0,p1,p2,p3,p4,p5,p6,p7,p8,p9,()),()))) (.br (a.1==1) (.done (.exit 4) B8F ((u98),((p0,p1,p2,p3,p4,p5,p6,p7,p8,p9,()),()))) .fail))
noncomputable def D5m (x64:LT1) (x65 x66 p0 p1 p2:Int) (p3:LT1) (p4:LIbe) (p5:Int) (p6:LT3) (p7 p8:LT2) (p9:Lq6):CT:=(B3a p0 p1 p2 p3 p4 p5 p6 p7 p8 p9) (B3g x64 x65 x66 p0 p1 p2 p3 p4 p5 p6 p7 p8 p9)
noncomputable abbrev A81 {α:Sort _} (f:LT1→Int→Int→Int→Int→Int→LT1→LIbe→Int→LT3→LT2→LT2→Lq6→α) (d:P0.den):α:=f d.1.2.2.2.2.2.2.2.2.2.2.2.2.2.2.2.2.2.2.2.2.2.2.2.2.2.2.2.2.2.2.2.2.2.2.2.2.2.2.2.2.2.2.2.2.2.2.2.2.2.2.2.2.2.2.2.2.2.2.2.2.2.2.2.2.1 d.1.2.2.2.2.2.2.2.2.2.2.2.2.2.2.2.2.2.2.2.2.2.2.2.2.2.2.2.2.2.2.2.2.2.2.2.2.2.2.2.2.2.2.2.2.2.2.2.2.2.2.2.2.2.2.2.2.2.2.2.2.2.2.2.2.2.1 d.1.2.2.2.2.2.2.2.2.2.2.2.2.2.2.2.2.2.2.2.2.2.2.2.2.2.2.2.2.2.2.2.2.2.2.2.2.2.2.2.2.2.2.2.2.2.2.2.2.2.2.2.2.2.2.2.2.2.2.2.2.2.2.2.2.2.2.1 d.2.1.1 d.2.1.2.1 d.2.1.2.2.1 d.2.1.2.2.2.1 d.2.1.2.2.2.2.1 d.2.1.2.2.2.2.2.1 d.2.1.2.2.2.2.2.2.1 d.2.1.2.2.2.2.2.2.2.1 d.2.1.2.2.2.2.2.2.2.2.1 d.2.1.2.2.2.2.2.2.2.2.2.1
noncomputable abbrev B3m:P0.den→RT P0.den:=(A81 C0r)
noncomputable abbrev C0n (p0 p1 p2:Int) (p3:LT1) (p4:LIbe) (p5:Int) (p6:LT3) (p7 p8:LT2) (p9:Lq6) (v:A71):P0.den:=(((),(),(),(),(),(),(),(),(),(),(),(),(),(),(),(),(),(),(),(),(),(),(),(),(),(),(),(),(),(),(),(),(),(),(),(),(),(),(),(),(),(),(),(),(),(),(),(),(),(),(),(),(),(),(),(),(),(),(),(),(),(),(),(),v.1,v.2.1,v.2.2,u31),((p0,p1,p2,p3,p4,p5,p6,p7,p8,p9,()),()))
theorem D3S (p0 p1 p2:Int) (p3:LT1) (p4:LIbe) (p5:Int) (p6:LT3) (p7 p8:LT2) (p9:Lq6):(∀ v:A71,(C0r v.1 v.2.1 v.2.2 p0 p1 p2 p3 p4 p5 p6 p7 p8 p9).val=A5T (C0n p0 p1 p2 p3 p4 p5 p6 p7 p8 p9) (B3a p0 p1 p2 p3 p4 p5 p6 p7 p8 p9) (A85 v.1 v.2.1 v.2.2 p0 p1 p2 p3 p4 p5 p6 p7 p8 p9))∧∀ a:A7S,CEnd P0.den ((B3a p0 p1 p2 p3 p4 p5 p6 p7 p8 p9) a):=⟨fun v=>by repeat' first | apply A6V | rfl,fun a=>(A6I aCD (A6I aCD A6K))⟩
noncomputable def C0i (x64:LT1) (x65 x66 p0 p1 p2:Int) (p3:LT1) (p4:LIbe) (p5:Int) (p6:LT3) (p7 p8:LT2) (p9:Lq6):Option (Ex×St):=let z1:=(⟨(.junk::.junk::(.t true .bool false)::F7x),[(.box [(ti p0),(ti p1),(ti p2),(.t false tq5 p3),(.t false K4 p4),(ti p5),(.t false tq3 p6),(.t false tq4 p7),(.t false tq4 p8),(.t false tq9 p9)])],1,[]⟩:St);let z2:=A8D x64 x66 p0 p1 p2 p3 p4 p5 p6 p7 p8 p9;let z3:=x64.getD x66.toNat ((0:Int),([],((0:Int),[])));(cond (decide (x66<x65)) (cond (decide (0≤x66∧x66<(x64.length:Int))) (cond (K8 (z3.1) p0 p1 p2 p3 p4 p5 p6 p7 p8 p9) (cond (decide (z2<(0:Int))) (some (.ret,z1)) (cond (decide (0≤z2∧z2<(p9.length:Int))) (cond (N3 ((p9.getD (z2.toNat) ((0:Int),[])).2) ((z3.2).1)) (cond (!(B1f x64 x66 p0 p1 p2 p3 p4 p5 p6 p7 p8 p9)) (some (.ret,z1)) (some (.normal,(⟨((.ptr 0 0 1 0)::.junk::.junk::.junk::.junk::.junk::.junk::.junk::.junk::.junk::.junk::.junk::.junk::.junk::.junk::.junk::.junk::.junk::.junk::.junk::.junk::.junk::.junk::.junk::.junk::.junk::.junk::.junk::.junk::.junk::.junk::.junk::.junk::.junk::.junk::.junk::.junk::.junk::.junk::.junk::.junk::.junk::.junk::.junk::.junk::.junk::.junk::.junk::.junk::.junk::.junk::.junk::.junk::.junk::.junk::.junk::.junk::.junk::.junk::.junk::.junk::.junk::.junk::.junk::(.t false tq5 x64)::(ti x65)::(ti (wI (x66+(1:Int))))::F7q),[(.box [(ti p0),(ti p1),(ti p2),(.t false tq5 p3),(.t false K4 p4),(ti p5),(.t false tq3 p6),(.t false tq4 p7),(.t false tq4 p8),(.t false tq9 p9)])],1,[]⟩:St)))) none) none)) none) none) (some ((.exit 4),(⟨((.ptr 0 0 1 0)::F5T),[(.box [(ti p0),(ti p1),(ti p2),(.t false tq5 p3),(.t false K4 p4),(ti p5),(.t false tq3 p6),(.t false tq4 p7),(.t false tq4 p8),(.t false tq9 p9)])],1,[]⟩:St))))
theorem D2n:RdA F2D aLn 4 B0R P0 1 [] (kepts [2] [(4,[0])]) (A81 C0i):=by
 intro d
 kernel_rfl
theorem D2r:∀ d:P0.den,(A81 C0i) d=(B3m d).opt 1 []:=by
 intro d
 kernel_rfl
noncomputable abbrev B9m:St→Option Tree:=P0.say 1 [] [] (A81 D5m)
theorem D3M:aPL B9m B0R:=SS.wp2 hlz [] B3m D2n D2r _ (fun d=>Runs.ofI2 (step:=B3m) (C0n d.2.1.1 d.2.1.2.1 d.2.1.2.2.1 d.2.1.2.2.2.1 d.2.1.2.2.2.2.1 d.2.1.2.2.2.2.2.1 d.2.1.2.2.2.2.2.2.1 d.2.1.2.2.2.2.2.2.2.1 d.2.1.2.2.2.2.2.2.2.2.1 d.2.1.2.2.2.2.2.2.2.2.2.1) (D3S d.2.1.1 d.2.1.2.1 d.2.1.2.2.1 d.2.1.2.2.2.1 d.2.1.2.2.2.2.1 d.2.1.2.2.2.2.2.1 d.2.1.2.2.2.2.2.2.1 d.2.1.2.2.2.2.2.2.2.1 d.2.1.2.2.2.2.2.2.2.2.1 d.2.1.2.2.2.2.2.2.2.2.2.1) rfl (d.1.2.2.2.2.2.2.2.2.2.2.2.2.2.2.2.2.2.2.2.2.2.2.2.2.2.2.2.2.2.2.2.2.2.2.2.2.2.2.2.2.2.2.2.2.2.2.2.2.2.2.2.2.2.2.2.2.2.2.2.2.2.2.2.2.1,d.1.2.2.2.2.2.2.2.2.2.2.2.2.2.2.2.2.2.2.2.2.2.2.2.2.2.2.2.2.2.2.2.2.2.2.2.2.2.2.2.2.2.2.2.2.2.2.2.2.2.2.2.2.2.2.2.2.2.2.2.2.2.2.2.2.2.1,d.1.2.2.2.2.2.2.2.2.2.2.2.2.2.2.2.2.2.2.2.2.2.2.2.2.2.2.2.2.2.2.2.2.2.2.2.2.2.2.2.2.2.2.2.2.2.2.2.2.2.2.2.2.2.2.2.2.2.2.2.2.2.2.2.2.2.2.1))
noncomputable def B1c (p0 p1 p2:Int) (p3:LT1) (p4:LIbe) (p5:Int) (p6:LT3) (p7 p8:LT2) (p9:Lq6):=B3e p9 (p9.length:Int) (0:Int) p0 p1 p2 p3 p4 p5 p6 p7 p8 p9
noncomputable def B1e (p0 p1 p2:Int) (p3:LT1) (p4:LIbe) (p5:Int) (p6:LT3) (p7 p8:LT2) (p9:Lq6):=B3f p4 (p4.length:Int) (0:Int) p0 p1 p2 p3 p4 p5 p6 p7 p8 p9
noncomputable def B1g (p0 p1 p2:Int) (p3:LT1) (p4:LIbe) (p5:Int) (p6:LT3) (p7 p8:LT2) (p9:Lq6):=B3g p3 (p3.length:Int) (0:Int) p0 p1 p2 p3 p4 p5 p6 p7 p8 p9
noncomputable def A9l (p0 p1 p2:Int) (p3:LT1) (p4:LIbe) (p5:Int) (p6:LT3) (p7 p8:LT2) (p9:Lq6):Bool:=let z1:=B1c p0 p1 p2 p3 p4 p5 p6 p7 p8 p9;let z2:=B1e p0 p1 p2 p3 p4 p5 p6 p7 p8 p9;let z3:=B1g p0 p1 p2 p3 p4 p5 p6 p7 p8 p9;(cond (z1.1==0) (z1.2) (cond (z2.1==0) (z2.2) (cond (z3.1==0) (z3.2) (decide ((p9.length:Int)≤(1000:Int))))))
noncomputable abbrev U8 (p0 p1 p2:Int) (p3:LT1) (p4:LIbe) (p5:Int) (p6:LT3) (p7 p8:LT2) (p9:Lq6) (r:Bool):AV×List AObj×List Nat:=((.t true .bool r),[(.box [(ti p0),(ti p1),(ti p2),(.t false tq5 p3),(.t false K4 p4),(ti p5),(.t false tq3 p6),(.t false tq4 p7),(.t false tq4 p8),(.t false tq9 p9)])],[])
noncomputable abbrev C6i:B01.den→AV×List AObj×List Nat:=fun d=>U8 d.2.1.1 d.2.1.2.1 d.2.1.2.2.1 d.2.1.2.2.2.1 d.2.1.2.2.2.2.1 d.2.1.2.2.2.2.2.1 d.2.1.2.2.2.2.2.2.1 d.2.1.2.2.2.2.2.2.2.1 d.2.1.2.2.2.2.2.2.2.2.1 d.2.1.2.2.2.2.2.2.2.2.2.1 (A9l d.2.1.1 d.2.1.2.1 d.2.1.2.2.1 d.2.1.2.2.2.1 d.2.1.2.2.2.2.1 d.2.1.2.2.2.2.2.1 d.2.1.2.2.2.2.2.2.1 d.2.1.2.2.2.2.2.2.2.1 d.2.1.2.2.2.2.2.2.2.2.1 d.2.1.2.2.2.2.2.2.2.2.2.1)
noncomputable def Z6 (p0 p1 p2:Int) (p3:LT1) (p4:LIbe) (p5:Int) (p6:LT3) (p7 p8:LT2) (p9:Lq6):Bool:=let z1:=B1c p0 p1 p2 p3 p4 p5 p6 p7 p8 p9;let z2:=B1e p0 p1 p2 p3 p4 p5 p6 p7 p8 p9;let z3:=B1g p0 p1 p2 p3 p4 p5 p6 p7 p8 p9;cond (z1.1==0) true ((z1.1==1)&&(cond (z2.1==0) true ((z2.1==1)&&(cond (z3.1==0) true (z3.1==1)))))
noncomputable abbrev C2V:B01.den→Bool:=fun d=>Z6 d.2.1.1 d.2.1.2.1 d.2.1.2.2.1 d.2.1.2.2.2.1 d.2.1.2.2.2.2.1 d.2.1.2.2.2.2.2.1 d.2.1.2.2.2.2.2.2.1 d.2.1.2.2.2.2.2.2.2.1 d.2.1.2.2.2.2.2.2.2.2.1 d.2.1.2.2.2.2.2.2.2.2.2.1
noncomputable abbrev D8Q:Nat→St→Option Tree:=fun b=>match b with | 0=>B9k | 2=>B9l | 4=>B9m | _=>fun _=>none
theorem D6C:A6P F2D (D8Q) Tryz.f20 B01 C2V C6i:=by
 rintro ⟨⟨_,_⟩,⟨⟨p0,p1,p2,p3,p4,p5,p6,p7,p8,p9,_⟩,_⟩⟩ hp
 change Z6 p0 p1 p2 p3 p4 p5 p6 p7 p8 p9=true at hp
 unfold Z6 at hp
 refine Eq.trans (b:=(let z1:=B1c p0 p1 p2 p3 p4 p5 p6 p7 p8 p9;let z2:=B1e p0 p1 p2 p3 p4 p5 p6 p7 p8 p9;let z3:=B1g p0 p1 p2 p3 p4 p5 p6 p7 p8 p9;cond (z1.1==0) (some (U8 p0 p1 p2 p3 p4 p5 p6 p7 p8 p9 (z1.2))) (cond (z1.1==1) (cond (z2.1==0) (some (U8 p0 p1 p2 p3 p4 p5 p6 p7 p8 p9 (z2.2))) (cond (z2.1==1) (cond (z3.1==0) (some (U8 p0 p1 p2 p3 p4 p5 p6 p7 p8 p9 (z3.2))) (cond (z3.1==1) (some (U8 p0 p1 p2 p3 p4 p5 p6 p7 p8 p9 (decide ((p9.length:Int)≤(1000:Int))))) none)) none)) none))) (by kernel_rfl) ?_
 exact (H7 (U8 p0 p1 p2 p3 p4 p5 p6 p7 p8 p9) hp (fun hp=>rfl) (fun hp=>(A6R hp fun hp=>(H7 (U8 p0 p1 p2 p3 p4 p5 p6 p7 p8 p9) hp (fun hp=>rfl) (fun hp=>(A6R hp fun hp=>(H7 (U8 p0 p1 p2 p3 p4 p5 p6 p7 p8 p9) hp (fun hp=>rfl) (fun hp=>(A6T hp fun _h=>rfl)))))))))
noncomputable abbrev C6y:=winQ (msum B01 C2V C6i)
theorem D8X:aPM 20 C6y:=(mcM F2D (by
  rw [show C4 0 (A0y Tryz.f20)=[(0,B0P),(2,B0Q),(4,B0R)] by kernel_rfl];intro p hp;simp only [List.mem_cons,List.mem_nil_iff,or_false] at hp
  rcases hp with rfl | rfl | rfl
  ·exact D3K
  ·exact D3L
  ·exact D3M) D6C).winQ (A6i fun d=>⟨rfl,rfl⟩)
noncomputable def F9K:Tab:=Tab.add F9J 20 (C6y)
noncomputable def F6t:FuncId→Bool:=qadd F6s 20
theorem F5f:aPG F9K F6t:=F2D.addMQ D8X (A6p _) (cbl Tryz.f20) (A4V _)

abbrev G1q:List Sh:=.junk::F5U
abbrev u45:=((),(),u43)
abbrev G1c:List AV:=.junk::F5R
abbrev C1H:List PSh:=[.agg [(.int .i64),(.int .i64),(.int .i64),tq5,K4,(.int .i64),tq3,tq4,tq4,tq9]]
abbrev A7B:SS:=⟨(.junk::.ptr 0 0 1 0::.junk::.junk::.junk::.junk::.junk::.junk::.junk::.junk::.junk::.junk::.junk::.junk::.junk::.junk::.junk::.junk::.junk::.t false tq3::tI::tI::C95),[.box [tI,tI,tI,.t false tq5,.t false K4,tI,.t false tq3,.t false tq4,.t false tq4,.t false tq9]]⟩
abbrev C1w:SS:=⟨(.junk::.junk::.t true .bool::F5U),[]⟩
abbrev D0f:SS:=⟨(.junk::.ptr 0 0 1 0::G1q),[.box [tI,tI,tI,.t false tq5,.t false K4,tI,.t false tq3,.t false tq4,.t false tq4,.t false tq9]]⟩
noncomputable def C4a (x19:LT3) (x21:Int):=let z1:=x19.getD x21.toNat ((0:Int),([],((0:Int),([],[]))));D7A (z1.1) ((z1.2).1) (((z1.2).2).1) ((((z1.2).2).2).1) ((((z1.2).2).2).2)
noncomputable def D5b (x19:LT3) (x20 x21 p0 p1 p2:Int) (p3:LT1) (p4:LIbe) (p5:Int) (p6:LT3) (p7 p8:LT2) (p9:Lq6):RT A7B.den:=let z1:=x19.getD x21.toNat ((0:Int),([],((0:Int),([],[]))));(.br (decide (x21<x20)) (.br (decide (0≤x21∧x21<(x19.length:Int))) (.br ((z1.1) != x21) (.done .ret C1w (((),(),false,u45),())) (.br (B2h (z1.1) ((z1.2).1) (((z1.2).2).1) ((((z1.2).2).2).1) ((((z1.2).2).2).2)) (.br (!(C4a x19 x21)) (.done .ret C1w (((),(),false,u45),())) (.next (((),(),(),(),(),(),(),(),(),(),(),(),(),(),(),(),(),(),(),x19,x20,wI (x21+(1:Int)),u26),((p0,p1,p2,p3,p4,p5,p6,p7,p8,p9,()),())))) .fail)) .fail) (.done (.exit 0) D0f ((u48),((p0,p1,p2,p3,p4,p5,p6,p7,p8,p9,()),()))))
abbrev B5L:=LT3×(Int)×(Int)
abbrev B5l:=Nat×(Bool)
def C4K:B5l:=(99,(false:Bool))
noncomputable def B8q (x19:LT3) (x20 x21 p0 p1 p2:Int) (p3:LT1) (p4:LIbe) (p5:Int) (p6:LT3) (p7 p8:LT2) (p9:Lq6):B5L ⊕ B5l:=let z1:=x19.getD x21.toNat ((0:Int),([],((0:Int),([],[]))));(cond (decide (x21<x20)) (cond (decide (0≤x21∧x21<(x19.length:Int))) (cond ((z1.1) != x21) (.inr (0,false)) (cond (B2h (z1.1) ((z1.2).1) (((z1.2).2).1) ((((z1.2).2).2).1) ((((z1.2).2).2).2)) (cond (!(C4a x19 x21)) (.inr (0,false)) (.inl (x19,x20,wI (x21+(1:Int))))) (.inr C4K))) (.inr C4K)) (.inr (1,(false:Bool))))
noncomputable def B3K (x19:LT3) (x20 x21 p0 p1 p2:Int) (p3:LT1) (p4:LIbe) (p5:Int) (p6:LT3) (p7 p8:LT2) (p9:Lq6):B5l:=itX (fun v:B5L=>B8q v.1 v.2.1 v.2.2 p0 p1 p2 p3 p4 p5 p6 p7 p8 p9) C4K (x19,x20,x21)
noncomputable def C4C (p0 p1 p2:Int) (p3:LT1) (p4:LIbe) (p5:Int) (p6:LT3) (p7 p8:LT2) (p9:Lq6) (a:B5l):CT:=(.br (a.1==0) (.done .ret C1w (((),(),a.2,u45),())) (.br (a.1==1) (.done (.exit 0) D0f ((u48),((p0,p1,p2,p3,p4,p5,p6,p7,p8,p9,()),()))) .fail))
noncomputable def E6a (x19:LT3) (x20 x21 p0 p1 p2:Int) (p3:LT1) (p4:LIbe) (p5:Int) (p6:LT3) (p7 p8:LT2) (p9:Lq6):CT:=(C4C p0 p1 p2 p3 p4 p5 p6 p7 p8 p9) (B3K x19 x20 x21 p0 p1 p2 p3 p4 p5 p6 p7 p8 p9)
noncomputable abbrev B72 {α:Sort _} (f:LT3→Int→Int→Int→Int→Int→LT1→LIbe→Int→LT3→LT2→LT2→Lq6→α) (d:A7B.den):α:=f d.1.2.2.2.2.2.2.2.2.2.2.2.2.2.2.2.2.2.2.2.1 d.1.2.2.2.2.2.2.2.2.2.2.2.2.2.2.2.2.2.2.2.2.1 d.1.2.2.2.2.2.2.2.2.2.2.2.2.2.2.2.2.2.2.2.2.2.1 d.2.1.1 d.2.1.2.1 d.2.1.2.2.1 d.2.1.2.2.2.1 d.2.1.2.2.2.2.1 d.2.1.2.2.2.2.2.1 d.2.1.2.2.2.2.2.2.1 d.2.1.2.2.2.2.2.2.2.1 d.2.1.2.2.2.2.2.2.2.2.1 d.2.1.2.2.2.2.2.2.2.2.2.1
noncomputable abbrev C47:A7B.den→RT A7B.den:=(B72 D5b)
noncomputable def C9c:Code:=((C4 0 (A0y Tryz.f7)).getD 0 (0,.skip)).2
noncomputable abbrev D4M (p0 p1 p2:Int) (p3:LT1) (p4:LIbe) (p5:Int) (p6:LT3) (p7 p8:LT2) (p9:Lq6) (v:B5L):A7B.den:=(((),(),(),(),(),(),(),(),(),(),(),(),(),(),(),(),(),(),(),v.1,v.2.1,v.2.2,u26),((p0,p1,p2,p3,p4,p5,p6,p7,p8,p9,()),()))
theorem E5h (p0 p1 p2:Int) (p3:LT1) (p4:LIbe) (p5:Int) (p6:LT3) (p7 p8:LT2) (p9:Lq6):(∀ v:B5L,(D5b v.1 v.2.1 v.2.2 p0 p1 p2 p3 p4 p5 p6 p7 p8 p9).val=A5T (D4M p0 p1 p2 p3 p4 p5 p6 p7 p8 p9) (C4C p0 p1 p2 p3 p4 p5 p6 p7 p8 p9) (B8q v.1 v.2.1 v.2.2 p0 p1 p2 p3 p4 p5 p6 p7 p8 p9))∧∀ a:B5l,CEnd A7B.den ((C4C p0 p1 p2 p3 p4 p5 p6 p7 p8 p9) a):=⟨fun v=>(A6V (A6V (A6V rfl (A6V (A6V rfl rfl) rfl)) rfl) rfl),fun a=>(A6I aCD (A6I aCD A6K))⟩
noncomputable def D4A (x19:LT3) (x20 x21 p0 p1 p2:Int) (p3:LT1) (p4:LIbe) (p5:Int) (p6:LT3) (p7 p8:LT2) (p9:Lq6):Option (Ex×St):=let z1:=x19.getD x21.toNat ((0:Int),([],((0:Int),([],[]))));let z2:=(⟨(.junk::.junk::(.t true .bool false)::F5R),[],0,[]⟩:St);(cond (decide (x21<x20)) (cond (decide (0≤x21∧x21<(x19.length:Int))) (cond ((z1.1) != x21) (some (.ret,z2)) (cond (B2h (z1.1) ((z1.2).1) (((z1.2).2).1) ((((z1.2).2).2).1) ((((z1.2).2).2).2)) (cond (!(C4a x19 x21)) (some (.ret,z2)) (some (.normal,(⟨(.junk::(.ptr 0 0 1 0)::.junk::.junk::.junk::.junk::.junk::.junk::.junk::.junk::.junk::.junk::.junk::.junk::.junk::.junk::.junk::.junk::.junk::(.t false tq3 x19)::(ti x20)::(ti (wI (x21+(1:Int))))::F5Q),[(.box [(ti p0),(ti p1),(ti p2),(.t false tq5 p3),(.t false K4 p4),(ti p5),(.t false tq3 p6),(.t false tq4 p7),(.t false tq4 p8),(.t false tq9 p9)])],0,[]⟩:St)))) none)) none) (some ((.exit 0),(⟨(.junk::(.ptr 0 0 1 0)::G1c),[(.box [(ti p0),(ti p1),(ti p2),(.t false tq5 p3),(.t false K4 p4),(ti p5),(.t false tq3 p6),(.t false tq4 p7),(.t false tq4 p8),(.t false tq9 p9)])],0,[]⟩:St))))
theorem E3q:RdA F5f aLn 0 C9c A7B 0 [] (kepts [2] [(0,[1])]) (B72 D4A):=by
 intro d
 kernel_rfl
theorem E3C:∀ d:A7B.den,(B72 D4A) d=(C47 d).opt 0 []:=by
 intro d
 kernel_rfl
noncomputable abbrev D2A:St→Option Tree:=A7B.say 0 [] [] (B72 E6a)
theorem E4M:aPL D2A C9c:=SS.wp2 hlz [] C47 E3q E3C _ (fun d=>Runs.ofI2 (step:=C47) (D4M d.2.1.1 d.2.1.2.1 d.2.1.2.2.1 d.2.1.2.2.2.1 d.2.1.2.2.2.2.1 d.2.1.2.2.2.2.2.1 d.2.1.2.2.2.2.2.2.1 d.2.1.2.2.2.2.2.2.2.1 d.2.1.2.2.2.2.2.2.2.2.1 d.2.1.2.2.2.2.2.2.2.2.2.1) (E5h d.2.1.1 d.2.1.2.1 d.2.1.2.2.1 d.2.1.2.2.2.1 d.2.1.2.2.2.2.1 d.2.1.2.2.2.2.2.1 d.2.1.2.2.2.2.2.2.1 d.2.1.2.2.2.2.2.2.2.1 d.2.1.2.2.2.2.2.2.2.2.1 d.2.1.2.2.2.2.2.2.2.2.2.1) rfl (d.1.2.2.2.2.2.2.2.2.2.2.2.2.2.2.2.2.2.2.2.1,d.1.2.2.2.2.2.2.2.2.2.2.2.2.2.2.2.2.2.2.2.2.1,d.1.2.2.2.2.2.2.2.2.2.2.2.2.2.2.2.2.2.2.2.2.2.1))
noncomputable def D7B (a0 a1 a2:Int) (a3:LT1) (a4:LIbe) (a5:Int) (a6:LT3) (a7 a8:LT2) (a9:Lq6):Bool:=let z1:=B3K a6 (a6.length:Int) (0:Int) a0 a1 a2 a3 a4 a5 a6 a7 a8 a9;(cond (!(C6o a0 a1 a2 a3 a4 a5)) false (cond ((a6.length:Int) != a0) false (cond (z1.1==0) (z1.2) (cond (Q5 a7 a0 a1 a2 a3 a4 a5 a6 a7 a8 a9) (cond (Q5 a8 a0 a1 a2 a3 a4 a5 a6 a7 a8 a9) (A9l a0 a1 a2 a3 a4 a5 a6 a7 a8 a9) false) false))))
noncomputable abbrev A7l (r:Bool):AV×List AObj:=((.t true .bool r),[])
noncomputable abbrev D5F:F5 C1H→AV×List AObj:=fun d=>A7l (D7B d.1.1 d.1.2.1 d.1.2.2.1 d.1.2.2.2.1 d.1.2.2.2.2.1 d.1.2.2.2.2.2.1 d.1.2.2.2.2.2.2.1 d.1.2.2.2.2.2.2.2.1 d.1.2.2.2.2.2.2.2.2.1 d.1.2.2.2.2.2.2.2.2.2.1)
noncomputable def B4u (a0 a1 a2:Int) (a3:LT1) (a4:LIbe) (a5:Int) (a6:LT3) (a7 a8:LT2) (a9:Lq6):Bool:=let z1:=B3K a6 (a6.length:Int) (0:Int) a0 a1 a2 a3 a4 a5 a6 a7 a8 a9;(B4s a0 a1 a2 a3 a4 a5)&&(cond (!(C6o a0 a1 a2 a3 a4 a5)) true (cond ((a6.length:Int) != a0) true (cond (z1.1==0) true ((z1.1==1)&&((R7 a7 a0 a1 a2 a3 a4 a5 a6 a7 a8 a9)&&(cond (Q5 a7 a0 a1 a2 a3 a4 a5 a6 a7 a8 a9) ((R7 a8 a0 a1 a2 a3 a4 a5 a6 a7 a8 a9)&&(cond (Q5 a8 a0 a1 a2 a3 a4 a5 a6 a7 a8 a9) (Z6 a0 a1 a2 a3 a4 a5 a6 a7 a8 a9) true)) true))))))
noncomputable abbrev C72:F5 C1H→Bool:=fun d=>B4u d.1.1 d.1.2.1 d.1.2.2.1 d.1.2.2.2.1 d.1.2.2.2.2.1 d.1.2.2.2.2.2.1 d.1.2.2.2.2.2.2.1 d.1.2.2.2.2.2.2.2.1 d.1.2.2.2.2.2.2.2.2.1 d.1.2.2.2.2.2.2.2.2.2.1
noncomputable abbrev F0O:Nat→St→Option Tree:=fun b=>match b with | 0=>D2A | _=>fun _=>none
theorem E7O:A6Q true F5f (F0O) Tryz.f7 C1H C72 D5F:=by
 rintro ⟨⟨a0,⟨a1,⟨a2,⟨a3,⟨a4,⟨a5,⟨a6,⟨a7,⟨a8,⟨a9,_⟩⟩⟩⟩⟩⟩⟩⟩⟩⟩,_⟩ hp
 change B4u a0 a1 a2 a3 a4 a5 a6 a7 a8 a9=true at hp
 unfold B4u at hp
 refine Eq.trans (b:=(let z1:=B3K a6 (a6.length:Int) (0:Int) a0 a1 a2 a3 a4 a5 a6 a7 a8 a9;cond (B4s a0 a1 a2 a3 a4 a5) (cond (!(C6o a0 a1 a2 a3 a4 a5)) (some (A7l false)) (cond ((a6.length:Int) != a0) (some (A7l false)) (cond (z1.1==0) (some (A7l (z1.2))) (cond (z1.1==1) (cond (R7 a7 a0 a1 a2 a3 a4 a5 a6 a7 a8 a9) (cond (Q5 a7 a0 a1 a2 a3 a4 a5 a6 a7 a8 a9) (cond (R7 a8 a0 a1 a2 a3 a4 a5 a6 a7 a8 a9) (cond (Q5 a8 a0 a1 a2 a3 a4 a5 a6 a7 a8 a9) (cond (Z6 a0 a1 a2 a3 a4 a5 a6 a7 a8 a9) (some (A7l (A9l a0 a1 a2 a3 a4 a5 a6 a7 a8 a9))) none) (some (A7l false))) none) (some (A7l false))) none) none)))) none)) (by kernel_rfl) ?_
 exact (A6R hp fun hp=>(H7 A7l hp (fun hp=>rfl) (fun hp=>(H7 A7l hp (fun hp=>rfl) (fun hp=>(H7 A7l hp (fun hp=>rfl) (fun hp=>(A6R hp fun hp=>(A6R hp fun hp=>(H7 A7l hp (fun hp=>(A6R hp fun hp=>(H7 A7l hp (fun hp=>(A6T hp fun _h=>rfl)) (fun hp=>rfl)))) (fun hp=>rfl)))))))))))
theorem F1f:aPP 7 (A2z C1H C72 D5F):=pcD true F5f (hl1 (i:=0) (by kernel_rfl) E4M) E7O
noncomputable def F9L:Tab:=Tab.add F9K 7 (lift (A2z C1H C72 D5F))
noncomputable def F6u:FuncId→Bool:=qadd F6t 7
theorem F67:aPG F9L F6u:=F5f.addQ F1f (cbl Tryz.f7) (fun _=>rfl)

abbrev D64:List PSh:=[.agg [(.int .i64),.str,.str],.agg [(.int .i64),.str,.str]]
noncomputable def E5R (a0:Int) (a1 a2:ByteArray) (a3:Int) (a4 a5:ByteArray):Bool:=(cond (a0 != a3) false (cond (!(a1.toList==a4.toList)) false (cond (!(a2.toList==a5.toList)) false true)))
noncomputable abbrev C3W (r:Bool):AV×List AObj:=((.t true .bool r),[])
noncomputable abbrev E6E:F5 D64→AV×List AObj:=fun d=>C3W (E5R d.1.1 d.1.2.1 d.1.2.2.1 d.2.1.1 d.2.1.2.1 d.2.1.2.2.1)
noncomputable abbrev D9D:F5 D64→Bool:=fun d=>true
theorem F3I:A6Q true F67 aLn Tryz.f161 D64 D9D E6E:=by
 rintro ⟨⟨a0,⟨a1,⟨a2,_⟩⟩⟩,⟨⟨a3,⟨a4,⟨a5,_⟩⟩⟩,_⟩⟩ hp
 refine Eq.trans (b:=(cond (a0 != a3) (some (C3W false)) (cond (!(a1.toList==a4.toList)) (some (C3W false)) (cond (!(a2.toList==a5.toList)) (some (C3W false)) (some (C3W true)))))) (by kernel_rfl) ?_
 exact (L7 C3W (fun _h=>rfl) (fun _h=>(L7 C3W (fun _h=>rfl) (fun _h=>(L7 C3W (fun _h=>rfl) (fun _h=>rfl))))))
theorem F5z:aPP 161 (A2z D64 D9D E6E):=pcD true F67 hlz F3I
noncomputable def F9M:Tab:=Tab.add F9L 161 (lift (A2z D64 D9D E6E))
noncomputable def F6v:FuncId→Bool:=qadd F6u 161
theorem F5g:aPG F9M F6v:=F67.addQ F5z (cbl Tryz.f161) (fun _=>rfl)


noncomputable def B4o (x0 x1:Lq2) (i:Nat):Bool:=!(!(E5R ((x0.getD i ((0:Int),(bE,bE))).1) (((x0.getD i ((0:Int),(bE,bE))).2).1) (((x0.getD i ((0:Int),(bE,bE))).2).2) ((x1.getD i ((0:Int),(bE,bE))).1) (((x1.getD i ((0:Int),(bE,bE))).2).1) (((x1.getD i ((0:Int),(bE,bE))).2).2)))
abbrev D0z:List PSh:=[.t tq7,.t tq7]
abbrev B4h:SS:=⟨(.t false tq7::.t false tq7::.junk::.junk::.junk::tI::B9R),[]⟩
abbrev D6R:SS:=⟨(.junk::.junk::.junk::.junk::.t true .bool::C94),[]⟩
abbrev D6S:SS:=⟨(.junk::D7E),[]⟩
noncomputable def D2T (x0 x1:Lq2) (x5:Int):RT B4h.den:=let z1:=x0.getD x5.toNat ((0:Int),(bE,bE));let z2:=x1.getD x5.toNat ((0:Int),(bE,bE));(.br (decide (x5<(x0.length:Int))) (.br (decide (0≤x5∧x5<(x0.length:Int))) (.br (decide (0≤x5∧x5<(x1.length:Int))) (.br (!(E5R (z1.1) ((z1.2).1) ((z1.2).2) (z2.1) ((z2.2).1) ((z2.2).2))) (.done .ret D6R (((),(),(),(),false,u23),())) (.next ((x0,x1,(),(),(),wI (x5+(1:Int)),u22),()))) .fail) .fail) (.done (.exit 0) D6S ((u28),())))
noncomputable def C17 (x0 x1:Lq2) (x5:Int):CT:=(.br (decide (0≤x5)&&(decide (x0.length=x1.length)&&okL x0)) (.br (A4a (B4o x0 x1) (x0.length - x5.toNat) x5.toNat) (.done (.exit 0) D6S ((u28),())) (.done .ret D6R (((),(),(),(),false,u23),()))) .fail)
noncomputable abbrev B9q:B4h.den→RT B4h.den:=(fun d=>D2T d.1.1 d.1.2.1 d.1.2.2.2.2.2.1)
noncomputable abbrev E0C (x0 x1:Lq2) (x5:Int):B4h.den:=((x0,x1,(),(),(),x5,u22),())
noncomputable def D4l:Code:=((C4 0 (A0y Tryz.f119)).getD 0 (0,.skip)).2
theorem F0Y (x0 x1:Lq2) (x5:Int):(C17 x0 x1 x5).val (D:=B4h.den)=.fail∨Runs B9q (E0C x0 x1 x5) (C17 x0 x1 x5).val:=by
 cases hc:(decide (0≤x5)&&(decide (x0.length=x1.length)&&okL x0)) with
 | false=>left;simp only [C17,CT.val,hc,cond_false]
 | true =>
  right
  simp only [C17,CT.val,hc,cond_true]
  simp only [Bool.and_eq_true,decide_eq_true_eq] at hc
  obtain ⟨i,rfl⟩:=Int.eq_ofNat_of_zero_le hc.1
  have hs:=A6E hc.2.2
  simp only [Int.toNat_natCast]
  refine Runs.scan (fun j=>E0C x0 x1 (j:Int)) (x0.length) (B4o x0 x1) (fun i hi=>?_) (fun i hi=>?_) ⟨_,_,_,rfl,by simp⟩ ⟨_,_,_,rfl,by simp⟩ _ _ rfl
  ·
   have h0a:decide ((i:Int)<(x0.length:Int))=true:=decide_eq_true (by omega)
   have h0b:decide (0≤(i:Int)∧(i:Int)<(x0.length:Int))=true:=decide_eq_true (by omega)
   simp only [B9q,D2T,RT.val,h0a,h0b,cond_true,A6M i (by omega),Int.toNat_natCast]
   have h9:decide (0≤(i:Int)∧(i:Int)<(x1.length:Int))=true:=decide_eq_true (by omega)
   simp only [h9,cond_true]
   simp only [B4o]
   generalize (!(E5R ((x0.getD i ((0:Int),((⟨#[]⟩:ByteArray),(⟨#[]⟩:ByteArray)))).1) (((x0.getD i ((0:Int),((⟨#[]⟩:ByteArray),(⟨#[]⟩:ByteArray)))).2).1) (((x0.getD i ((0:Int),((⟨#[]⟩:ByteArray),(⟨#[]⟩:ByteArray)))).2).2) ((x1.getD i ((0:Int),((⟨#[]⟩:ByteArray),(⟨#[]⟩:ByteArray)))).1) (((x1.getD i ((0:Int),((⟨#[]⟩:ByteArray),(⟨#[]⟩:ByteArray)))).2).1) (((x1.getD i ((0:Int),((⟨#[]⟩:ByteArray),(⟨#[]⟩:ByteArray)))).2).2)))=c
   cases c<;>rfl
  ·have h1:decide ((i:Int)<(x0.length:Int))=false:=decide_eq_false (by omega)
   simp only [B9q,D2T,RT.val,h1,cond_false]
theorem E7j:RdA F5g aLn 0 D4l B4h 0 [] (kepts [4] [(0,[])]) (fun d=>(B9q d).opt 0 []):=by
 intro d
 kernel_rfl
noncomputable abbrev D8t:St→Option Tree:=B4h.say 0 [] [] (fun d=>C17 d.1.1 d.1.2.1 d.1.2.2.2.2.2.1)
theorem E9N:aPL D8t D4l:=SS.wp2 hlz [] B9q E7j (fun d=>rfl) _ (fun d=>F0Y d.1.1 d.1.2.1 d.1.2.2.2.2.2.1)
noncomputable def B7y (a0 a1:Lq2):Bool:=(cond ((a0.length:Int) != (a1.length:Int)) false (cond (A4a (B4o a0 a1) (a0.length - (0:Int).toNat) (0:Int).toNat) true false))
noncomputable abbrev C6e (r:Bool):AV×List AObj:=((.t true .bool r),[])
noncomputable abbrev E2F:F5 D0z→AV×List AObj:=fun d=>C6e (B7y d.1 d.2.1)
noncomputable def B2j (a0 a1:Lq2):Bool:=okL a0
noncomputable abbrev D6l:F5 D0z→Bool:=fun d=>B2j d.1 d.2.1
noncomputable abbrev F31:Nat→St→Option Tree:=fun b=>match b with | 0=>D8t | _=>fun _=>none
theorem F11:A6Q true F5g (F31) Tryz.f119 D0z D6l E2F:=by
 rintro ⟨a0,⟨a1,_⟩⟩ hp
 change B2j a0 a1=true at hp
 unfold B2j at hp
 refine Eq.trans (b:=(cond ((a0.length:Int) != (a1.length:Int)) (some (C6e false)) (cond (decide (0≤(0:Int))&&(decide (a0.length=a1.length)&&okL a0)) (cond (A4a (B4o a0 a1) (a0.length - (0:Int).toNat) (0:Int).toNat) (some (C6e true)) (some (C6e false))) none))) (by kernel_rfl) ?_
 exact (L7 C6e (fun _h=>rfl) (fun _h=>(A6T (by simp only [okL,Bool.and_eq_true,decide_eq_true_eq] at hp ⊢;simp at _h;exact ⟨Int.le_refl 0,by omega,hp⟩) (fun _h=>(L7 C6e (fun _h=>rfl) (fun _h=>rfl))))))
theorem F4k:aPP 119 (A2z D0z D6l E2F):=pcD true F5g (hl1 (i:=0) (by kernel_rfl) E9N) F11
noncomputable def F9N:Tab:=Tab.add F9M 119 (lift (A2z D0z D6l E2F))
noncomputable def F6w:FuncId→Bool:=qadd F6v 119
theorem F5h:aPG F9N F6w:=F5g.addQ F4k (cbl Tryz.f119) (fun _=>rfl)


noncomputable def B1V (x0 x1:List Int) (i:Nat):Bool:=!((x0.getD i (0:Int)) != (x1.getD i (0:Int)))
abbrev C5E:List PSh:=[.t A9x,.t A9x]
abbrev B1A:SS:=⟨(.t false A9x::.t false A9x::.junk::.junk::.junk::tI::F3v),[]⟩
abbrev D3Z:SS:=⟨(.junk::.junk::.junk::.junk::.t true .bool::B9R),[]⟩
abbrev D30:SS:=⟨(.junk::C95),[]⟩
noncomputable def C8N (x0 x1:List Int) (x5:Int):RT B1A.den:=(.br (decide (x5<(x0.length:Int))) (.br (decide (0≤x5∧x5<(x0.length:Int))) (.br (decide (0≤x5∧x5<(x1.length:Int))) (.br ((x0.getD x5.toNat (0:Int)) != (x1.getD x5.toNat (0:Int))) (.done .ret D3Z (((),(),(),(),false,u22),())) (.next ((x0,x1,(),(),(),wI (x5+(1:Int)),u21),()))) .fail) .fail) (.done (.exit 0) D30 ((u27),())))
noncomputable def B8V (x0 x1:List Int) (x5:Int):CT:=(.br (decide (0≤x5)&&(decide (x0.length=x1.length)&&okL x0)) (.br (A4a (B1V x0 x1) (x0.length - x5.toNat) x5.toNat) (.done (.exit 0) D30 ((u27),())) (.done .ret D3Z (((),(),(),(),false,u22),()))) .fail)
noncomputable abbrev B6F:B1A.den→RT B1A.den:=(fun d=>C8N d.1.1 d.1.2.1 d.1.2.2.2.2.2.1)
noncomputable abbrev D7X (x0 x1:List Int) (x5:Int):B1A.den:=((x0,x1,(),(),(),x5,u21),())
noncomputable def D0U:Code:=((C4 0 (A0y Tryz.f158)).getD 0 (0,.skip)).2
theorem E8y (x0 x1:List Int) (x5:Int):(B8V x0 x1 x5).val (D:=B1A.den)=.fail∨Runs B6F (D7X x0 x1 x5) (B8V x0 x1 x5).val:=by
 cases hc:(decide (0≤x5)&&(decide (x0.length=x1.length)&&okL x0)) with
 | false=>left;simp only [B8V,CT.val,hc,cond_false]
 | true =>
  right
  simp only [B8V,CT.val,hc,cond_true]
  simp only [Bool.and_eq_true,decide_eq_true_eq] at hc
  obtain ⟨i,rfl⟩:=Int.eq_ofNat_of_zero_le hc.1
  have hs:=A6E hc.2.2
  simp only [Int.toNat_natCast]
  refine Runs.scan (fun j=>D7X x0 x1 (j:Int)) (x0.length) (B1V x0 x1) (fun i hi=>?_) (fun i hi=>?_) ⟨_,_,_,rfl,by simp⟩ ⟨_,_,_,rfl,by simp⟩ _ _ rfl
  ·
   have h0a:decide ((i:Int)<(x0.length:Int))=true:=decide_eq_true (by omega)
   have h0b:decide (0≤(i:Int)∧(i:Int)<(x0.length:Int))=true:=decide_eq_true (by omega)
   simp only [B6F,C8N,RT.val,h0a,h0b,cond_true,A6M i (by omega),Int.toNat_natCast]
   have h9:decide (0≤(i:Int)∧(i:Int)<(x1.length:Int))=true:=decide_eq_true (by omega)
   simp only [h9,cond_true]
   simp only [B1V]
   generalize ((x0.getD i (0:Int)) != (x1.getD i (0:Int)))=c
   cases c<;>rfl
  ·have h1:decide ((i:Int)<(x0.length:Int))=false:=decide_eq_false (by omega)
   simp only [B6F,C8N,RT.val,h1,cond_false]
theorem E4Y:RdA F5h aLn 0 D0U B1A 0 [] (kepts [4] [(0,[])]) (fun d=>(B6F d).opt 0 []):=by
 intro d
 kernel_rfl
noncomputable abbrev D4V:St→Option Tree:=B1A.say 0 [] [] (fun d=>B8V d.1.1 d.1.2.1 d.1.2.2.2.2.2.1)
theorem E60:aPL D4V D0U:=SS.wp2 hlz [] B6F E4Y (fun d=>rfl) _ (fun d=>E8y d.1.1 d.1.2.1 d.1.2.2.2.2.2.1)
noncomputable def D7F (a0 a1:List Int):Bool:=(cond ((a0.length:Int) != (a1.length:Int)) false (cond (A4a (B1V a0 a1) (a0.length - (0:Int).toNat) (0:Int).toNat) true false))
noncomputable abbrev C1c (r:Bool):AV×List AObj:=((.t true .bool r),[])
noncomputable abbrev D88:F5 C5E→AV×List AObj:=fun d=>C1c (D7F d.1 d.2.1)
noncomputable def C1m (a0 a1:List Int):Bool:=okL a0
noncomputable abbrev D1M:F5 C5E→Bool:=fun d=>C1m d.1 d.2.1
noncomputable abbrev F2G:Nat→St→Option Tree:=fun b=>match b with | 0=>D4V | _=>fun _=>none
theorem F0g:A6Q true F5h (F2G) Tryz.f158 C5E D1M D88:=by
 rintro ⟨a0,⟨a1,_⟩⟩ hp
 change C1m a0 a1=true at hp
 unfold C1m at hp
 refine Eq.trans (b:=(cond ((a0.length:Int) != (a1.length:Int)) (some (C1c false)) (cond (decide (0≤(0:Int))&&(decide (a0.length=a1.length)&&okL a0)) (cond (A4a (B1V a0 a1) (a0.length - (0:Int).toNat) (0:Int).toNat) (some (C1c true)) (some (C1c false))) none))) (by kernel_rfl) ?_
 exact (L7 C1c (fun _h=>rfl) (fun _h=>(A6T (by simp only [okL,Bool.and_eq_true,decide_eq_true_eq] at hp ⊢;simp at _h;exact ⟨Int.le_refl 0,by omega,hp⟩) (fun _h=>(L7 C1c (fun _h=>rfl) (fun _h=>rfl))))))
theorem F23:aPP 158 (A2z C5E D1M D88):=pcD true F5h (hl1 (i:=0) (by kernel_rfl) E60) F0g
noncomputable def F9O:Tab:=Tab.add F9N 158 (lift (A2z C5E D1M D88))
noncomputable def F6x:FuncId→Bool:=qadd F6w 158
theorem F68:aPG F9O F6x:=F5h.addQ F23 (cbl Tryz.f158) (fun _=>rfl)

abbrev D0y:List PSh:=[.agg [(.int .i64),tq7,(.int .i64),A9x],.agg [(.int .i64),tq7,(.int .i64),A9x]]
noncomputable def E6V (a0:Int) (a1:Lq2) (a2:Int) (a3:List Int) (a4:Int) (a5:Lq2) (a6:Int) (a7:List Int):Bool:=(cond (a0 != a4) false (cond (!(B7y a1 a5)) false (cond (a2 != a6) false (cond (!(D7F a3 a7)) false true))))
noncomputable abbrev B3G (r:Bool):AV×List AObj:=((.t true .bool r),[])
noncomputable abbrev E2E:F5 D0y→AV×List AObj:=fun d=>B3G (E6V d.1.1 d.1.2.1 d.1.2.2.1 d.1.2.2.2.1 d.2.1.1 d.2.1.2.1 d.2.1.2.2.1 d.2.1.2.2.2.1)
noncomputable def C6J (a0:Int) (a1:Lq2) (a2:Int) (a3:List Int) (a4:Int) (a5:Lq2) (a6:Int) (a7:List Int):Bool:=cond (a0 != a4) true ((B2j a1 a5)&&(cond (!(B7y a1 a5)) true (cond (a2 != a6) true (C1m a3 a7))))
noncomputable abbrev D6k:F5 D0y→Bool:=fun d=>C6J d.1.1 d.1.2.1 d.1.2.2.1 d.1.2.2.2.1 d.2.1.1 d.2.1.2.1 d.2.1.2.2.1 d.2.1.2.2.2.1
theorem F10:A6Q true F68 aLn Tryz.f115 D0y D6k E2E:=by
 rintro ⟨⟨a0,⟨a1,⟨a2,⟨a3,_⟩⟩⟩⟩,⟨⟨a4,⟨a5,⟨a6,⟨a7,_⟩⟩⟩⟩,_⟩⟩ hp
 change C6J a0 a1 a2 a3 a4 a5 a6 a7=true at hp
 unfold C6J at hp
 refine Eq.trans (b:=(cond (a0 != a4) (some (B3G false)) (cond (B2j a1 a5) (cond (!(B7y a1 a5)) (some (B3G false)) (cond (a2 != a6) (some (B3G false)) (cond (C1m a3 a7) (cond (!(D7F a3 a7)) (some (B3G false)) (some (B3G true))) none))) none))) (by kernel_rfl) ?_
 exact (H7 B3G hp (fun hp=>rfl) (fun hp=>(A6R hp fun hp=>(H7 B3G hp (fun hp=>rfl) (fun hp=>(H7 B3G hp (fun hp=>rfl) (fun hp=>(A6T hp fun _h=>(L7 B3G (fun _h=>rfl) (fun _h=>rfl))))))))))
theorem F4j:aPP 115 (A2z D0y D6k E2E):=pcD true F68 hlz F10
noncomputable def F9P:Tab:=Tab.add F9O 115 (lift (A2z D0y D6k E2E))
noncomputable def F6y:FuncId→Bool:=qadd F6x 115
theorem F5i:aPG F9P F6y:=F68.addQ F4j (cbl Tryz.f115) (fun _=>rfl)

abbrev C5F:List PSh:=[.t tq5,.t tq5]
abbrev B1B:SS:=⟨(.t false tq5::.t false tq5::.junk::.junk::.junk::tI::B9R),[]⟩
abbrev D31:SS:=⟨(.junk::.junk::.junk::.junk::.t true .bool::C94),[]⟩
abbrev D32:SS:=⟨(.junk::D7E),[]⟩
noncomputable def D8F (x0 x1:LT1) (x5:Int):RT B1B.den:=let z1:=x0.getD x5.toNat ((0:Int),([],((0:Int),[])));let z2:=x1.getD x5.toNat ((0:Int),([],((0:Int),[])));(.br (decide (x5<(x0.length:Int))) (.br (decide (0≤x5∧x5<(x0.length:Int))) (.br (decide (0≤x5∧x5<(x1.length:Int))) (.br (C6J (z1.1) ((z1.2).1) (((z1.2).2).1) (((z1.2).2).2) (z2.1) ((z2.2).1) (((z2.2).2).1) (((z2.2).2).2)) (.br (!(E6V (z1.1) ((z1.2).1) (((z1.2).2).1) (((z1.2).2).2) (z2.1) ((z2.2).1) (((z2.2).2).1) (((z2.2).2).2))) (.done .ret D31 (((),(),(),(),false,u23),())) (.next ((x0,x1,(),(),(),wI (x5+(1:Int)),u22),()))) .fail) .fail) .fail) (.done (.exit 0) D32 ((u28),())))
abbrev C3I:=LT1×LT1×(Int)
abbrev B1o:=Nat×(Bool)
def C0P:B1o:=(99,(false:Bool))
noncomputable def C02 (x0 x1:LT1) (x5:Int):C3I ⊕ B1o:=let z1:=x0.getD x5.toNat ((0:Int),([],((0:Int),[])));let z2:=x1.getD x5.toNat ((0:Int),([],((0:Int),[])));(cond (decide (x5<(x0.length:Int))) (cond (decide (0≤x5∧x5<(x0.length:Int))) (cond (decide (0≤x5∧x5<(x1.length:Int))) (cond (C6J (z1.1) ((z1.2).1) (((z1.2).2).1) (((z1.2).2).2) (z2.1) ((z2.2).1) (((z2.2).2).1) (((z2.2).2).2)) (cond (!(E6V (z1.1) ((z1.2).1) (((z1.2).2).1) (((z1.2).2).2) (z2.1) ((z2.2).1) (((z2.2).2).1) (((z2.2).2).2))) (.inr (0,false)) (.inl (x0,x1,wI (x5+(1:Int))))) (.inr C0P)) (.inr C0P)) (.inr C0P)) (.inr (1,(false:Bool))))
noncomputable def B6e (x0 x1:LT1) (x5:Int):B1o:=itX (fun v:C3I=>C02 v.1 v.2.1 v.2.2) C0P (x0,x1,x5)
noncomputable def C7e (a:B1o):CT:=(.br (a.1==0) (.done .ret D31 (((),(),(),(),a.2,u23),())) (.br (a.1==1) (.done (.exit 0) D32 ((u28),())) .fail))
noncomputable def E8B (x0 x1:LT1) (x5:Int):CT:=C7e (B6e x0 x1 x5)
noncomputable abbrev C8B:B1B.den→RT B1B.den:=(fun d=>D8F d.1.1 d.1.2.1 d.1.2.2.2.2.2.1)
noncomputable def D0V:Code:=((C4 0 (A0y Tryz.f76)).getD 0 (0,.skip)).2
noncomputable abbrev D70 (v:C3I):B1B.den:=((v.1,v.2.1,(),(),(),v.2.2,u22),())
theorem E7A:(∀ v:C3I,(D8F v.1 v.2.1 v.2.2).val=A5T D70 C7e (C02 v.1 v.2.1 v.2.2))∧∀ a:B1o,CEnd B1B.den (C7e a):=⟨fun v=>(A6V (A6V (A6V (A6V (A6V rfl rfl) rfl) rfl) rfl) rfl),fun a=>(A6I aCD (A6I aCD A6K))⟩
theorem E4Z:RdA F5i aLn 0 D0V B1B 0 [] (kepts [4] [(0,[])]) (fun d=>(C8B d).opt 0 []):=by
 intro d
 kernel_rfl
noncomputable abbrev D4W:St→Option Tree:=B1B.say 0 [] [] (fun d=>E8B d.1.1 d.1.2.1 d.1.2.2.2.2.2.1)
theorem E61:aPL D4W D0V:=SS.wp2 hlz [] C8B E4Z (fun d=>rfl) _ (fun d=>Runs.ofI2 (step:=C8B) D70 E7A rfl (d.1.1,d.1.2.1,d.1.2.2.2.2.2.1))
noncomputable def D3x (a0 a1:LT1):Bool:=let z1:=B6e a0 a1 (0:Int);(cond ((a0.length:Int) != (a1.length:Int)) false (cond (z1.1==0) (z1.2) true))
noncomputable abbrev C1d (r:Bool):AV×List AObj:=((.t true .bool r),[])
noncomputable abbrev D89:F5 C5F→AV×List AObj:=fun d=>C1d (D3x d.1 d.2.1)
noncomputable def B7E (a0 a1:LT1):Bool:=let z1:=B6e a0 a1 (0:Int);cond ((a0.length:Int) != (a1.length:Int)) true (cond (z1.1==0) true (z1.1==1))
noncomputable abbrev D1N:F5 C5F→Bool:=fun d=>B7E d.1 d.2.1
noncomputable abbrev F2H:Nat→St→Option Tree:=fun b=>match b with | 0=>D4W | _=>fun _=>none
theorem F0h:A6Q true F5i (F2H) Tryz.f76 C5F D1N D89:=by
 rintro ⟨a0,⟨a1,_⟩⟩ hp
 change B7E a0 a1=true at hp
 unfold B7E at hp
 refine Eq.trans (b:=(let z1:=B6e a0 a1 (0:Int);cond ((a0.length:Int) != (a1.length:Int)) (some (C1d false)) (cond (z1.1==0) (some (C1d (z1.2))) (cond (z1.1==1) (some (C1d true)) none)))) (by kernel_rfl) ?_
 exact (H7 C1d hp (fun hp=>rfl) (fun hp=>(H7 C1d hp (fun hp=>rfl) (fun hp=>(A6T hp fun _h=>rfl)))))
theorem F24:aPP 76 (A2z C5F D1N D89):=pcD true F5i (hl1 (i:=0) (by kernel_rfl) E61) F0h
noncomputable def F9Q:Tab:=Tab.add F9P 76 (lift (A2z C5F D1N D89))
noncomputable def F6z:FuncId→Bool:=qadd F6y 76
theorem F69:aPG F9Q F6z:=F5i.addQ F24 (cbl Tryz.f76) (fun _=>rfl)

abbrev B8I:List PSh:=[.agg [(.int .i64),.bool],.agg [(.int .i64),.bool]]
noncomputable def C6r (a0:Int) (a1:Bool) (a2:Int) (a3:Bool):Bool:=(cond (a0 != a2) false (cond (!(a1==a3)) false true))
noncomputable abbrev B4V (r:Bool):AV×List AObj:=((.t true .bool r),[])
noncomputable abbrev D1i:F5 B8I→AV×List AObj:=fun d=>B4V (C6r d.1.1 d.1.2.1 d.2.1.1 d.2.1.2.1)
noncomputable abbrev C4R:F5 B8I→Bool:=fun d=>true
theorem E5r:A6Q true F69 aLn Tryz.f116 B8I C4R D1i:=by
 rintro ⟨⟨a0,⟨a1,_⟩⟩,⟨⟨a2,⟨a3,_⟩⟩,_⟩⟩ hp
 refine Eq.trans (b:=(cond (a0 != a2) (some (B4V false)) (cond (!(a1==a3)) (some (B4V false)) (some (B4V true))))) (by kernel_rfl) ?_
 exact (L7 B4V (fun _h=>rfl) (fun _h=>(L7 B4V (fun _h=>rfl) (fun _h=>rfl))))
theorem E8U:aPP 116 (A2z B8I C4R D1i):=pcD true F69 hlz E5r
noncomputable def F9R:Tab:=Tab.add F9Q 116 (lift (A2z B8I C4R D1i))
noncomputable def F6A:FuncId→Bool:=qadd F6z 116
theorem F5j:aPG F9R F6A:=F69.addQ E8U (cbl Tryz.f116) (fun _=>rfl)


noncomputable def A76 (x0 x1:LIbe) (i:Nat):Bool:=!(!(C6r ((x0.getD i ((0:Int),false)).1) ((x0.getD i ((0:Int),false)).2) ((x1.getD i ((0:Int),false)).1) ((x1.getD i ((0:Int),false)).2)))
abbrev B5z:List PSh:=[.t K4,.t K4]
abbrev A7W:SS:=⟨(.t false K4::.t false K4::.junk::.junk::.junk::tI::B9R),[]⟩
abbrev C5p:SS:=⟨(.junk::.junk::.junk::.junk::.t true .bool::C94),[]⟩
abbrev C5q:SS:=⟨(.junk::D7E),[]⟩
noncomputable def B99 (x0 x1:LIbe) (x5:Int):RT A7W.den:=let z1:=x0.getD x5.toNat ((0:Int),false);let z2:=x1.getD x5.toNat ((0:Int),false);(.br (decide (x5<(x0.length:Int))) (.br (decide (0≤x5∧x5<(x0.length:Int))) (.br (decide (0≤x5∧x5<(x1.length:Int))) (.br (!(C6r (z1.1) (z1.2) (z2.1) (z2.2))) (.done .ret C5p (((),(),(),(),false,u23),())) (.next ((x0,x1,(),(),(),wI (x5+(1:Int)),u22),()))) .fail) .fail) (.done (.exit 0) C5q ((u28),())))
noncomputable def B1O (x0 x1:LIbe) (x5:Int):CT:=(.br (decide (0≤x5)&&(decide (x0.length=x1.length)&&okL x0)) (.br (A4a (A76 x0 x1) (x0.length - x5.toNat) x5.toNat) (.done (.exit 0) C5q ((u28),())) (.done .ret C5p (((),(),(),(),false,u23),()))) .fail)
noncomputable abbrev B0x:A7W.den→RT A7W.den:=(fun d=>B99 d.1.1 d.1.2.1 d.1.2.2.2.2.2.1)
noncomputable abbrev C9u (x0 x1:LIbe) (x5:Int):A7W.den:=((x0,x1,(),(),(),x5,u22),())
noncomputable def C3R:Code:=((C4 0 (A0y Tryz.f77)).getD 0 (0,.skip)).2
theorem E15 (x0 x1:LIbe) (x5:Int):(B1O x0 x1 x5).val (D:=A7W.den)=.fail∨Runs B0x (C9u x0 x1 x5) (B1O x0 x1 x5).val:=by
 cases hc:(decide (0≤x5)&&(decide (x0.length=x1.length)&&okL x0)) with
 | false=>left;simp only [B1O,CT.val,hc,cond_false]
 | true =>
  right
  simp only [B1O,CT.val,hc,cond_true]
  simp only [Bool.and_eq_true,decide_eq_true_eq] at hc
  obtain ⟨i,rfl⟩:=Int.eq_ofNat_of_zero_le hc.1
  have hs:=A6E hc.2.2
  simp only [Int.toNat_natCast]
  refine Runs.scan (fun j=>C9u x0 x1 (j:Int)) (x0.length) (A76 x0 x1) (fun i hi=>?_) (fun i hi=>?_) ⟨_,_,_,rfl,by simp⟩ ⟨_,_,_,rfl,by simp⟩ _ _ rfl
  ·
   have h0a:decide ((i:Int)<(x0.length:Int))=true:=decide_eq_true (by omega)
   have h0b:decide (0≤(i:Int)∧(i:Int)<(x0.length:Int))=true:=decide_eq_true (by omega)
   simp only [B0x,B99,RT.val,h0a,h0b,cond_true,A6M i (by omega),Int.toNat_natCast]
   have h9:decide (0≤(i:Int)∧(i:Int)<(x1.length:Int))=true:=decide_eq_true (by omega)
   simp only [h9,cond_true]
   simp only [A76]
   generalize (!(C6r ((x0.getD i ((0:Int),false)).1) ((x0.getD i ((0:Int),false)).2) ((x1.getD i ((0:Int),false)).1) ((x1.getD i ((0:Int),false)).2)))=c
   cases c<;>rfl
  ·have h1:decide ((i:Int)<(x0.length:Int))=false:=decide_eq_false (by omega)
   simp only [B0x,B99,RT.val,h1,cond_false]
theorem D9N:RdA F5j aLn 0 C3R A7W 0 [] (kepts [4] [(0,[])]) (fun d=>(B0x d).opt 0 []):=by
 intro d
 kernel_rfl
noncomputable abbrev C6S:St→Option Tree:=A7W.say 0 [] [] (fun d=>B1O d.1.1 d.1.2.1 d.1.2.2.2.2.2.1)
theorem E1b:aPL C6S C3R:=SS.wp2 hlz [] B0x D9N (fun d=>rfl) _ (fun d=>E15 d.1.1 d.1.2.1 d.1.2.2.2.2.2.1)
noncomputable def C2M (a0 a1:LIbe):Bool:=(cond ((a0.length:Int) != (a1.length:Int)) false (cond (A4a (A76 a0 a1) (a0.length - (0:Int).toNat) (0:Int).toNat) true false))
noncomputable abbrev B2E (r:Bool):AV×List AObj:=((.t true .bool r),[])
noncomputable abbrev C7A:F5 B5z→AV×List AObj:=fun d=>B2E (C2M d.1 d.2.1)
noncomputable def B2P (a0 a1:LIbe):Bool:=okL a0
noncomputable abbrev C22:F5 B5z→Bool:=fun d=>B2P d.1 d.2.1
noncomputable abbrev E50:Nat→St→Option Tree:=fun b=>match b with | 0=>C6S | _=>fun _=>none
theorem E3X:A6Q true F5j (E50) Tryz.f77 B5z C22 C7A:=by
 rintro ⟨a0,⟨a1,_⟩⟩ hp
 change B2P a0 a1=true at hp
 unfold B2P at hp
 refine Eq.trans (b:=(cond ((a0.length:Int) != (a1.length:Int)) (some (B2E false)) (cond (decide (0≤(0:Int))&&(decide (a0.length=a1.length)&&okL a0)) (cond (A4a (A76 a0 a1) (a0.length - (0:Int).toNat) (0:Int).toNat) (some (B2E true)) (some (B2E false))) none))) (by kernel_rfl) ?_
 exact (L7 B2E (fun _h=>rfl) (fun _h=>(A6T (by simp only [okL,Bool.and_eq_true,decide_eq_true_eq] at hp ⊢;simp at _h;exact ⟨Int.le_refl 0,by omega,hp⟩) (fun _h=>(L7 B2E (fun _h=>rfl) (fun _h=>rfl))))))
theorem E6n:aPP 77 (A2z B5z C22 C7A):=pcD true F5j (hl1 (i:=0) (by kernel_rfl) E1b) E3X
noncomputable def F9S:Tab:=Tab.add F9R 77 (lift (A2z B5z C22 C7A))
noncomputable def F6B:FuncId→Bool:=qadd F6A 77
theorem F7a:aPG F9S F6B:=F5j.addQ E6n (cbl Tryz.f77) (fun _=>rfl)

abbrev C1K:List PSh:=[.agg [(.int .i64),(.int .i64),(.int .i64),tq5,K4,(.int .i64)],.agg [(.int .i64),(.int .i64),(.int .i64),tq5,K4,(.int .i64)]]
noncomputable def C6s (a0 a1 a2:Int) (a3:LT1) (a4:LIbe) (a5 a6 a7 a8:Int) (a9:LT1) (a10:LIbe) (a11:Int):Bool:=(cond (a0 != a6) false (cond (a1 != a7) false (cond (a2 != a8) false (cond (!(D3x a3 a9)) false (cond (!(C2M a4 a10)) false (cond (a5 != a11) false true))))))
noncomputable abbrev X1 (r:Bool):AV×List AObj:=((.t true .bool r),[])
noncomputable abbrev D5I:F5 C1K→AV×List AObj:=fun d=>X1 (C6s d.1.1 d.1.2.1 d.1.2.2.1 d.1.2.2.2.1 d.1.2.2.2.2.1 d.1.2.2.2.2.2.1 d.2.1.1 d.2.1.2.1 d.2.1.2.2.1 d.2.1.2.2.2.1 d.2.1.2.2.2.2.1 d.2.1.2.2.2.2.2.1)
noncomputable def B4v (a0 a1 a2:Int) (a3:LT1) (a4:LIbe) (a5 a6 a7 a8:Int) (a9:LT1) (a10:LIbe) (a11:Int):Bool:=cond (a0 != a6) true (cond (a1 != a7) true (cond (a2 != a8) true ((B7E a3 a9)&&(cond (!(D3x a3 a9)) true (B2P a4 a10)))))
noncomputable abbrev C75:F5 C1K→Bool:=fun d=>B4v d.1.1 d.1.2.1 d.1.2.2.1 d.1.2.2.2.1 d.1.2.2.2.2.1 d.1.2.2.2.2.2.1 d.2.1.1 d.2.1.2.1 d.2.1.2.2.1 d.2.1.2.2.2.1 d.2.1.2.2.2.2.1 d.2.1.2.2.2.2.2.1
theorem E7R:A6Q true F7a aLn Tryz.f35 C1K C75 D5I:=by
 rintro ⟨⟨a0,⟨a1,⟨a2,⟨a3,⟨a4,⟨a5,_⟩⟩⟩⟩⟩⟩,⟨⟨a6,⟨a7,⟨a8,⟨a9,⟨a10,⟨a11,_⟩⟩⟩⟩⟩⟩,_⟩⟩ hp
 change B4v a0 a1 a2 a3 a4 a5 a6 a7 a8 a9 a10 a11=true at hp
 unfold B4v at hp
 refine Eq.trans (b:=(cond (a0 != a6) (some (X1 false)) (cond (a1 != a7) (some (X1 false)) (cond (a2 != a8) (some (X1 false)) (cond (B7E a3 a9) (cond (!(D3x a3 a9)) (some (X1 false)) (cond (B2P a4 a10) (cond (!(C2M a4 a10)) (some (X1 false)) (cond (a5 != a11) (some (X1 false)) (some (X1 true)))) none)) none))))) (by kernel_rfl) ?_
 exact (H7 X1 hp (fun hp=>rfl) (fun hp=>(H7 X1 hp (fun hp=>rfl) (fun hp=>(H7 X1 hp (fun hp=>rfl) (fun hp=>(A6R hp fun hp=>(H7 X1 hp (fun hp=>rfl) (fun hp=>(A6T hp fun _h=>(L7 X1 (fun _h=>rfl) (fun _h=>(L7 X1 (fun _h=>rfl) (fun _h=>rfl))))))))))))))
theorem F1i:aPP 35 (A2z C1K C75 D5I):=pcD true F7a hlz E7R
noncomputable def F9T:Tab:=Tab.add F9S 35 (lift (A2z C1K C75 D5I))
noncomputable def F6C:FuncId→Bool:=qadd F6B 35
theorem F7b:aPG F9T F6C:=F7a.addQ F1i (cbl Tryz.f35) (fun _=>rfl)

abbrev D0A:List PSh:=[.agg [(.int .i64),(.int .i64),tq7],.agg [(.int .i64),(.int .i64),tq7]]
noncomputable def E2Z (a0 a1:Int) (a2:Lq2) (a3 a4:Int) (a5:Lq2):Bool:=(cond (a0 != a3) false (cond (a1 != a4) false (cond (!(B7y a2 a5)) false true)))
noncomputable abbrev B80 (r:Bool):AV×List AObj:=((.t true .bool r),[])
noncomputable abbrev E2G:F5 D0A→AV×List AObj:=fun d=>B80 (E2Z d.1.1 d.1.2.1 d.1.2.2.1 d.2.1.1 d.2.1.2.1 d.2.1.2.2.1)
noncomputable def C3b (a0 a1:Int) (a2:Lq2) (a3 a4:Int) (a5:Lq2):Bool:=okL a2
noncomputable abbrev D6m:F5 D0A→Bool:=fun d=>C3b d.1.1 d.1.2.1 d.1.2.2.1 d.2.1.1 d.2.1.2.1 d.2.1.2.2.1
theorem F12:A6Q true F7b aLn Tryz.f159 D0A D6m E2G:=by
 rintro ⟨⟨a0,⟨a1,⟨a2,_⟩⟩⟩,⟨⟨a3,⟨a4,⟨a5,_⟩⟩⟩,_⟩⟩ hp
 change C3b a0 a1 a2 a3 a4 a5=true at hp
 unfold C3b at hp
 refine Eq.trans (b:=(cond (a0 != a3) (some (B80 false)) (cond (a1 != a4) (some (B80 false)) (cond (B2j a2 a5) (cond (!(B7y a2 a5)) (some (B80 false)) (some (B80 true))) none)))) (by kernel_rfl) ?_
 exact (L7 B80 (fun _h=>rfl) (fun _h=>(L7 B80 (fun _h=>rfl) (fun _h=>(A6T (by first | rfl | decide | exact hp | (simp only [Bool.and_eq_true] at hp;simp only [hp];done) | (simp [*];done) | (simp [okL] at hp;simp [okL,MAXB];omega) | (simp_all;done) | (simp at *;omega)) (fun _h=>(L7 B80 (fun _h=>rfl) (fun _h=>rfl))))))))
theorem F4l:aPP 159 (A2z D0A D6m E2G):=pcD true F7b hlz F12
noncomputable def F9U:Tab:=Tab.add F9T 159 (lift (A2z D0A D6m E2G))
noncomputable def F6D:FuncId→Bool:=qadd F6C 159
theorem F5k:aPG F9U F6D:=F7b.addQ F4l (cbl Tryz.f159) (fun _=>rfl)

abbrev C5H:List PSh:=[.t tq8,.t tq8]
abbrev B1C:SS:=⟨(.t false tq8::.t false tq8::.junk::.junk::.junk::tI::B9R),[]⟩
abbrev D33:SS:=⟨(.junk::.junk::.junk::.junk::.t true .bool::C94),[]⟩
abbrev D34:SS:=⟨(.junk::D7E),[]⟩
noncomputable def D8G (x0 x1:Lq1) (x5:Int):RT B1C.den:=let z1:=x0.getD x5.toNat ((0:Int),((0:Int),[]));let z2:=x1.getD x5.toNat ((0:Int),((0:Int),[]));(.br (decide (x5<(x0.length:Int))) (.br (decide (0≤x5∧x5<(x0.length:Int))) (.br (decide (0≤x5∧x5<(x1.length:Int))) (.br (C3b (z1.1) ((z1.2).1) ((z1.2).2) (z2.1) ((z2.2).1) ((z2.2).2)) (.br (!(E2Z (z1.1) ((z1.2).1) ((z1.2).2) (z2.1) ((z2.2).1) ((z2.2).2))) (.done .ret D33 (((),(),(),(),false,u23),())) (.next ((x0,x1,(),(),(),wI (x5+(1:Int)),u22),()))) .fail) .fail) .fail) (.done (.exit 0) D34 ((u28),())))
abbrev C3J:=(Lq1)×Lq1×(Int)
abbrev B1p:=Nat×(Bool)
def C0Q:B1p:=(99,(false:Bool))
noncomputable def C03 (x0 x1:Lq1) (x5:Int):C3J ⊕ B1p:=let z1:=x0.getD x5.toNat ((0:Int),((0:Int),[]));let z2:=x1.getD x5.toNat ((0:Int),((0:Int),[]));(cond (decide (x5<(x0.length:Int))) (cond (decide (0≤x5∧x5<(x0.length:Int))) (cond (decide (0≤x5∧x5<(x1.length:Int))) (cond (C3b (z1.1) ((z1.2).1) ((z1.2).2) (z2.1) ((z2.2).1) ((z2.2).2)) (cond (!(E2Z (z1.1) ((z1.2).1) ((z1.2).2) (z2.1) ((z2.2).1) ((z2.2).2))) (.inr (0,false)) (.inl (x0,x1,wI (x5+(1:Int))))) (.inr C0Q)) (.inr C0Q)) (.inr C0Q)) (.inr (1,(false:Bool))))
noncomputable def B6f (x0 x1:Lq1) (x5:Int):B1p:=itX (fun v:C3J=>C03 v.1 v.2.1 v.2.2) C0Q (x0,x1,x5)
noncomputable def C7f (a:B1p):CT:=(.br (a.1==0) (.done .ret D33 (((),(),(),(),a.2,u23),())) (.br (a.1==1) (.done (.exit 0) D34 ((u28),())) .fail))
noncomputable def E8C (x0 x1:Lq1) (x5:Int):CT:=C7f (B6f x0 x1 x5)
noncomputable abbrev C8C:B1C.den→RT B1C.den:=(fun d=>D8G d.1.1 d.1.2.1 d.1.2.2.2.2.2.1)
noncomputable def D0W:Code:=((C4 0 (A0y Tryz.f117)).getD 0 (0,.skip)).2
noncomputable abbrev D71 (v:C3J):B1C.den:=((v.1,v.2.1,(),(),(),v.2.2,u22),())
theorem E7B:(∀ v:C3J,(D8G v.1 v.2.1 v.2.2).val=A5T D71 C7f (C03 v.1 v.2.1 v.2.2))∧∀ a:B1p,CEnd B1C.den (C7f a):=⟨fun v=>(A6V (A6V (A6V (A6V (A6V rfl rfl) rfl) rfl) rfl) rfl),fun a=>(A6I aCD (A6I aCD A6K))⟩
theorem E40:RdA F5k aLn 0 D0W B1C 0 [] (kepts [4] [(0,[])]) (fun d=>(C8C d).opt 0 []):=by
 intro d
 kernel_rfl
noncomputable abbrev D4X:St→Option Tree:=B1C.say 0 [] [] (fun d=>E8C d.1.1 d.1.2.1 d.1.2.2.2.2.2.1)
theorem E62:aPL D4X D0W:=SS.wp2 hlz [] C8C E40 (fun d=>rfl) _ (fun d=>Runs.ofI2 (step:=C8C) D71 E7B rfl (d.1.1,d.1.2.1,d.1.2.2.2.2.2.1))
noncomputable def C4e (a0 a1:Lq1):Bool:=let z1:=B6f a0 a1 (0:Int);(cond ((a0.length:Int) != (a1.length:Int)) false (cond (z1.1==0) (z1.2) true))
noncomputable abbrev C1f (r:Bool):AV×List AObj:=((.t true .bool r),[])
noncomputable abbrev D9b:F5 C5H→AV×List AObj:=fun d=>C1f (C4e d.1 d.2.1)
noncomputable def B2Q (a0 a1:Lq1):Bool:=let z1:=B6f a0 a1 (0:Int);cond ((a0.length:Int) != (a1.length:Int)) true (cond (z1.1==0) true (z1.1==1))
noncomputable abbrev D1P:F5 C5H→Bool:=fun d=>B2Q d.1 d.2.1
noncomputable abbrev F2I:Nat→St→Option Tree:=fun b=>match b with | 0=>D4X | _=>fun _=>none
theorem F0j:A6Q true F5k (F2I) Tryz.f117 C5H D1P D9b:=by
 rintro ⟨a0,⟨a1,_⟩⟩ hp
 change B2Q a0 a1=true at hp
 unfold B2Q at hp
 refine Eq.trans (b:=(let z1:=B6f a0 a1 (0:Int);cond ((a0.length:Int) != (a1.length:Int)) (some (C1f false)) (cond (z1.1==0) (some (C1f (z1.2))) (cond (z1.1==1) (some (C1f true)) none)))) (by kernel_rfl) ?_
 exact (H7 C1f hp (fun hp=>rfl) (fun hp=>(H7 C1f hp (fun hp=>rfl) (fun hp=>(A6T hp fun _h=>rfl)))))
theorem F26:aPP 117 (A2z C5H D1P D9b):=pcD true F5k (hl1 (i:=0) (by kernel_rfl) E62) F0j
noncomputable def F9V:Tab:=Tab.add F9U 117 (lift (A2z C5H D1P D9b))
noncomputable def F6E:FuncId→Bool:=qadd F6D 117
theorem F7c:aPG F9V F6E:=F5k.addQ F26 (cbl Tryz.f117) (fun _=>rfl)

abbrev C5G:List PSh:=[.agg [.str,.str],.agg [.str,.str]]
noncomputable def D7G (a0 a1 a2 a3:ByteArray):Bool:=(cond (!(a0.toList==a2.toList)) false (cond (!(a1.toList==a3.toList)) false true))
noncomputable abbrev C1e (r:Bool):AV×List AObj:=((.t true .bool r),[])
noncomputable abbrev D9a:F5 C5G→AV×List AObj:=fun d=>C1e (D7G d.1.1 d.1.2.1 d.2.1.1 d.2.1.2.1)
noncomputable abbrev D1O:F5 C5G→Bool:=fun d=>true
theorem F0i:A6Q true F7c aLn Tryz.f160 C5G D1O D9a:=by
 rintro ⟨⟨a0,⟨a1,_⟩⟩,⟨⟨a2,⟨a3,_⟩⟩,_⟩⟩ hp
 refine Eq.trans (b:=(cond (!(a0.toList==a2.toList)) (some (C1e false)) (cond (!(a1.toList==a3.toList)) (some (C1e false)) (some (C1e true))))) (by kernel_rfl) ?_
 exact (L7 C1e (fun _h=>rfl) (fun _h=>(L7 C1e (fun _h=>rfl) (fun _h=>rfl))))
theorem F25:aPP 160 (A2z C5G D1O D9a):=pcD true F7c hlz F0i
noncomputable def F9W:Tab:=Tab.add F9V 160 (lift (A2z C5G D1O D9a))
noncomputable def F6F:FuncId→Bool:=qadd F6E 160
theorem F5l:aPG F9W F6F:=F7c.addQ F25 (cbl Tryz.f160) (fun _=>rfl)


noncomputable def A91 (x0 x1:LBBe) (i:Nat):Bool:=!(!(D7G ((x0.getD i (bE,bE)).1) ((x0.getD i (bE,bE)).2) ((x1.getD i (bE,bE)).1) ((x1.getD i (bE,bE)).2)))
abbrev C1M:List PSh:=[.t Z3,.t Z3]
abbrev A9U:SS:=⟨(.t false Z3::.t false Z3::.junk::.junk::.junk::tI::B9R),[]⟩
abbrev D0g:SS:=⟨(.junk::.junk::.junk::.junk::.t true .bool::C94),[]⟩
abbrev D0h:SS:=⟨(.junk::D7E),[]⟩
noncomputable def C5e (x0 x1:LBBe) (x5:Int):RT A9U.den:=let z1:=x0.getD x5.toNat (bE,bE);let z2:=x1.getD x5.toNat (bE,bE);(.br (decide (x5<(x0.length:Int))) (.br (decide (0≤x5∧x5<(x0.length:Int))) (.br (decide (0≤x5∧x5<(x1.length:Int))) (.br (!(D7G (z1.1) (z1.2) (z2.1) (z2.2))) (.done .ret D0g (((),(),(),(),false,u23),())) (.next ((x0,x1,(),(),(),wI (x5+(1:Int)),u22),()))) .fail) .fail) (.done (.exit 0) D0h ((u28),())))
noncomputable def B5I (x0 x1:LBBe) (x5:Int):CT:=(.br (decide (0≤x5)&&(decide (x0.length=x1.length)&&okL x0)) (.br (A4a (A91 x0 x1) (x0.length - x5.toNat) x5.toNat) (.done (.exit 0) D0h ((u28),())) (.done .ret D0g (((),(),(),(),false,u23),()))) .fail)
noncomputable abbrev B3U:A9U.den→RT A9U.den:=(fun d=>C5e d.1.1 d.1.2.1 d.1.2.2.2.2.2.1)
noncomputable abbrev D4E (x0 x1:LBBe) (x5:Int):A9U.den:=((x0,x1,(),(),(),x5,u22),())
noncomputable def C9d:Code:=((C4 0 (A0y Tryz.f118)).getD 0 (0,.skip)).2
theorem E55 (x0 x1:LBBe) (x5:Int):(B5I x0 x1 x5).val (D:=A9U.den)=.fail∨Runs B3U (D4E x0 x1 x5) (B5I x0 x1 x5).val:=by
 cases hc:(decide (0≤x5)&&(decide (x0.length=x1.length)&&okL x0)) with
 | false=>left;simp only [B5I,CT.val,hc,cond_false]
 | true =>
  right
  simp only [B5I,CT.val,hc,cond_true]
  simp only [Bool.and_eq_true,decide_eq_true_eq] at hc
  obtain ⟨i,rfl⟩:=Int.eq_ofNat_of_zero_le hc.1
  have hs:=A6E hc.2.2
  simp only [Int.toNat_natCast]
  refine Runs.scan (fun j=>D4E x0 x1 (j:Int)) (x0.length) (A91 x0 x1) (fun i hi=>?_) (fun i hi=>?_) ⟨_,_,_,rfl,by simp⟩ ⟨_,_,_,rfl,by simp⟩ _ _ rfl
  ·
   have h0a:decide ((i:Int)<(x0.length:Int))=true:=decide_eq_true (by omega)
   have h0b:decide (0≤(i:Int)∧(i:Int)<(x0.length:Int))=true:=decide_eq_true (by omega)
   simp only [B3U,C5e,RT.val,h0a,h0b,cond_true,A6M i (by omega),Int.toNat_natCast]
   have h9:decide (0≤(i:Int)∧(i:Int)<(x1.length:Int))=true:=decide_eq_true (by omega)
   simp only [h9,cond_true]
   simp only [A91]
   generalize (!(D7G ((x0.getD i ((⟨#[]⟩:ByteArray),(⟨#[]⟩:ByteArray))).1) ((x0.getD i ((⟨#[]⟩:ByteArray),(⟨#[]⟩:ByteArray))).2) ((x1.getD i ((⟨#[]⟩:ByteArray),(⟨#[]⟩:ByteArray))).1) ((x1.getD i ((⟨#[]⟩:ByteArray),(⟨#[]⟩:ByteArray))).2)))=c
   cases c<;>rfl
  ·have h1:decide ((i:Int)<(x0.length:Int))=false:=decide_eq_false (by omega)
   simp only [B3U,C5e,RT.val,h1,cond_false]
theorem E3r:RdA F5l aLn 0 C9d A9U 0 [] (kepts [4] [(0,[])]) (fun d=>(B3U d).opt 0 []):=by
 intro d
 kernel_rfl
noncomputable abbrev D2B:St→Option Tree:=A9U.say 0 [] [] (fun d=>B5I d.1.1 d.1.2.1 d.1.2.2.2.2.2.1)
theorem E4N:aPL D2B C9d:=SS.wp2 hlz [] B3U E3r (fun d=>rfl) _ (fun d=>E55 d.1.1 d.1.2.1 d.1.2.2.2.2.2.1)
noncomputable def C6u (a0 a1:LBBe):Bool:=(cond ((a0.length:Int) != (a1.length:Int)) false (cond (A4a (A91 a0 a1) (a0.length - (0:Int).toNat) (0:Int).toNat) true false))
noncomputable abbrev B7r (r:Bool):AV×List AObj:=((.t true .bool r),[])
noncomputable abbrev D5K:F5 C1M→AV×List AObj:=fun d=>B7r (C6u d.1 d.2.1)
noncomputable def B7F (a0 a1:LBBe):Bool:=okL a0
noncomputable abbrev C77:F5 C1M→Bool:=fun d=>B7F d.1 d.2.1
noncomputable abbrev F0P:Nat→St→Option Tree:=fun b=>match b with | 0=>D2B | _=>fun _=>none
theorem E7T:A6Q true F5l (F0P) Tryz.f118 C1M C77 D5K:=by
 rintro ⟨a0,⟨a1,_⟩⟩ hp
 change B7F a0 a1=true at hp
 unfold B7F at hp
 refine Eq.trans (b:=(cond ((a0.length:Int) != (a1.length:Int)) (some (B7r false)) (cond (decide (0≤(0:Int))&&(decide (a0.length=a1.length)&&okL a0)) (cond (A4a (A91 a0 a1) (a0.length - (0:Int).toNat) (0:Int).toNat) (some (B7r true)) (some (B7r false))) none))) (by kernel_rfl) ?_
 exact (L7 B7r (fun _h=>rfl) (fun _h=>(A6T (by simp only [okL,Bool.and_eq_true,decide_eq_true_eq] at hp ⊢;simp at _h;exact ⟨Int.le_refl 0,by omega,hp⟩) (fun _h=>(L7 B7r (fun _h=>rfl) (fun _h=>rfl))))))
theorem F1k:aPP 118 (A2z C1M C77 D5K):=pcD true F5l (hl1 (i:=0) (by kernel_rfl) E4N) E7T
noncomputable def F9X:Tab:=Tab.add F9W 118 (lift (A2z C1M C77 D5K))
noncomputable def F6G:FuncId→Bool:=qadd F6F 118
theorem F7d:aPG F9X F6G:=F5l.addQ F1k (cbl Tryz.f118) (fun _=>rfl)

abbrev C1N:List PSh:=[.agg [(.int .i64),tq8,(.int .i64),Z3,tq8],.agg [(.int .i64),tq8,(.int .i64),Z3,tq8]]
noncomputable def D1x (a0:Int) (a1:Lq1) (a2:Int) (a3:LBBe) (a4:Lq1) (a5:Int) (a6:Lq1) (a7:Int) (a8:LBBe) (a9:Lq1):Bool:=(cond (a0 != a5) false (cond (!(C4e a1 a6)) false (cond (a2 != a7) false (cond (!(C6u a3 a8)) false (cond (!(C4e a4 a9)) false true)))))
noncomputable abbrev A7m (r:Bool):AV×List AObj:=((.t true .bool r),[])
noncomputable abbrev D5L:F5 C1N→AV×List AObj:=fun d=>A7m (D1x d.1.1 d.1.2.1 d.1.2.2.1 d.1.2.2.2.1 d.1.2.2.2.2.1 d.2.1.1 d.2.1.2.1 d.2.1.2.2.1 d.2.1.2.2.2.1 d.2.1.2.2.2.2.1)
noncomputable def B4x (a0:Int) (a1:Lq1) (a2:Int) (a3:LBBe) (a4:Lq1) (a5:Int) (a6:Lq1) (a7:Int) (a8:LBBe) (a9:Lq1):Bool:=cond (a0 != a5) true ((B2Q a1 a6)&&(cond (!(C4e a1 a6)) true (cond (a2 != a7) true ((B7F a3 a8)&&(cond (!(C6u a3 a8)) true (B2Q a4 a9))))))
noncomputable abbrev C78:F5 C1N→Bool:=fun d=>B4x d.1.1 d.1.2.1 d.1.2.2.1 d.1.2.2.2.1 d.1.2.2.2.2.1 d.2.1.1 d.2.1.2.1 d.2.1.2.2.1 d.2.1.2.2.2.1 d.2.1.2.2.2.2.1
theorem E7U:A6Q true F7d aLn Tryz.f78 C1N C78 D5L:=by
 rintro ⟨⟨a0,⟨a1,⟨a2,⟨a3,⟨a4,_⟩⟩⟩⟩⟩,⟨⟨a5,⟨a6,⟨a7,⟨a8,⟨a9,_⟩⟩⟩⟩⟩,_⟩⟩ hp
 change B4x a0 a1 a2 a3 a4 a5 a6 a7 a8 a9=true at hp
 unfold B4x at hp
 refine Eq.trans (b:=(cond (a0 != a5) (some (A7m false)) (cond (B2Q a1 a6) (cond (!(C4e a1 a6)) (some (A7m false)) (cond (a2 != a7) (some (A7m false)) (cond (B7F a3 a8) (cond (!(C6u a3 a8)) (some (A7m false)) (cond (B2Q a4 a9) (cond (!(C4e a4 a9)) (some (A7m false)) (some (A7m true))) none)) none))) none))) (by kernel_rfl) ?_
 exact (H7 A7m hp (fun hp=>rfl) (fun hp=>(A6R hp fun hp=>(H7 A7m hp (fun hp=>rfl) (fun hp=>(H7 A7m hp (fun hp=>rfl) (fun hp=>(A6R hp fun hp=>(H7 A7m hp (fun hp=>rfl) (fun hp=>(A6T hp fun _h=>(L7 A7m (fun _h=>rfl) (fun _h=>rfl)))))))))))))
theorem F1l:aPP 78 (A2z C1N C78 D5L):=pcD true F7d hlz E7U
noncomputable def F9Y:Tab:=Tab.add F9X 78 (lift (A2z C1N C78 D5L))
noncomputable def F6H:FuncId→Bool:=qadd F6G 78
theorem F5m:aPG F9Y F6H:=F7d.addQ F1l (cbl Tryz.f78) (fun _=>rfl)

abbrev B8K:List PSh:=[.t tq3,.t tq3]
abbrev A8M:SS:=⟨(.t false tq3::.t false tq3::.junk::.junk::.junk::tI::B9R),[]⟩
abbrev C8T:SS:=⟨(.junk::.junk::.junk::.junk::.t true .bool::C94),[]⟩
abbrev C8U:SS:=⟨(.junk::D7E),[]⟩
noncomputable def D2V (x0 x1:LT3) (x5:Int):RT A8M.den:=let z1:=x0.getD x5.toNat ((0:Int),([],((0:Int),([],[]))));let z2:=x1.getD x5.toNat ((0:Int),([],((0:Int),([],[]))));(.br (decide (x5<(x0.length:Int))) (.br (decide (0≤x5∧x5<(x0.length:Int))) (.br (decide (0≤x5∧x5<(x1.length:Int))) (.br (B4x (z1.1) ((z1.2).1) (((z1.2).2).1) ((((z1.2).2).2).1) ((((z1.2).2).2).2) (z2.1) ((z2.2).1) (((z2.2).2).1) ((((z2.2).2).2).1) ((((z2.2).2).2).2)) (.br (!(D1x (z1.1) ((z1.2).1) (((z1.2).2).1) ((((z1.2).2).2).1) ((((z1.2).2).2).2) (z2.1) ((z2.2).1) (((z2.2).2).1) ((((z2.2).2).2).1) ((((z2.2).2).2).2))) (.done .ret C8T (((),(),(),(),false,u23),())) (.next ((x0,x1,(),(),(),wI (x5+(1:Int)),u22),()))) .fail) .fail) .fail) (.done (.exit 0) C8U ((u28),())))
abbrev B7V:=LT3×LT3×(Int)
abbrev A8K:=Nat×(Bool)
def B53:A8K:=(99,(false:Bool))
noncomputable def B6K (x0 x1:LT3) (x5:Int):B7V ⊕ A8K:=let z1:=x0.getD x5.toNat ((0:Int),([],((0:Int),([],[]))));let z2:=x1.getD x5.toNat ((0:Int),([],((0:Int),([],[]))));(cond (decide (x5<(x0.length:Int))) (cond (decide (0≤x5∧x5<(x0.length:Int))) (cond (decide (0≤x5∧x5<(x1.length:Int))) (cond (B4x (z1.1) ((z1.2).1) (((z1.2).2).1) ((((z1.2).2).2).1) ((((z1.2).2).2).2) (z2.1) ((z2.2).1) (((z2.2).2).1) ((((z2.2).2).2).1) ((((z2.2).2).2).2)) (cond (!(D1x (z1.1) ((z1.2).1) (((z1.2).2).1) ((((z1.2).2).2).1) ((((z1.2).2).2).2) (z2.1) ((z2.2).1) (((z2.2).2).1) ((((z2.2).2).2).1) ((((z2.2).2).2).2))) (.inr (0,false)) (.inl (x0,x1,wI (x5+(1:Int))))) (.inr B53)) (.inr B53)) (.inr B53)) (.inr (1,(false:Bool))))
noncomputable def B14 (x0 x1:LT3) (x5:Int):A8K:=itX (fun v:B7V=>B6K v.1 v.2.1 v.2.2) B53 (x0,x1,x5)
noncomputable def C2l (a:A8K):CT:=(.br (a.1==0) (.done .ret C8T (((),(),(),(),a.2,u23),())) (.br (a.1==1) (.done (.exit 0) C8U ((u28),())) .fail))
noncomputable def E4s (x0 x1:LT3) (x5:Int):CT:=C2l (B14 x0 x1 x5)
noncomputable abbrev C3l:A8M.den→RT A8M.den:=(fun d=>D2V d.1.1 d.1.2.1 d.1.2.2.2.2.2.1)
noncomputable def C52:Code:=((C4 0 (A0y Tryz.f36)).getD 0 (0,.skip)).2
noncomputable abbrev D18 (v:B7V):A8M.den:=((v.1,v.2.1,(),(),(),v.2.2,u22),())
theorem E3J:(∀ v:B7V,(D2V v.1 v.2.1 v.2.2).val=A5T D18 C2l (B6K v.1 v.2.1 v.2.2))∧∀ a:A8K,CEnd A8M.den (C2l a):=⟨fun v=>(A6V (A6V (A6V (A6V (A6V rfl rfl) rfl) rfl) rfl) rfl),fun a=>(A6I aCD (A6I aCD A6K))⟩
theorem E1k:RdA F5m aLn 0 C52 A8M 0 [] (kepts [4] [(0,[])]) (fun d=>(C3l d).opt 0 []):=by
 intro d
 kernel_rfl
noncomputable abbrev C9H:St→Option Tree:=A8M.say 0 [] [] (fun d=>E4s d.1.1 d.1.2.1 d.1.2.2.2.2.2.1)
theorem E22:aPL C9H C52:=SS.wp2 hlz [] C3l E1k (fun d=>rfl) _ (fun d=>Runs.ofI2 (step:=C3l) D18 E3J rfl (d.1.1,d.1.2.1,d.1.2.2.2.2.2.1))
noncomputable def C1k (a0 a1:LT3):Bool:=let z1:=B14 a0 a1 (0:Int);(cond ((a0.length:Int) != (a1.length:Int)) false (cond (z1.1==0) (z1.2) true))
noncomputable abbrev B4X (r:Bool):AV×List AObj:=((.t true .bool r),[])
noncomputable abbrev D1k:F5 B8K→AV×List AObj:=fun d=>B4X (C1k d.1 d.2.1)
noncomputable def B2l (a0 a1:LT3):Bool:=let z1:=B14 a0 a1 (0:Int);cond ((a0.length:Int) != (a1.length:Int)) true (cond (z1.1==0) true (z1.1==1))
noncomputable abbrev C4T:F5 B8K→Bool:=fun d=>B2l d.1 d.2.1
noncomputable abbrev E8n:Nat→St→Option Tree:=fun b=>match b with | 0=>C9H | _=>fun _=>none
theorem E5t:A6Q true F5m (E8n) Tryz.f36 B8K C4T D1k:=by
 rintro ⟨a0,⟨a1,_⟩⟩ hp
 change B2l a0 a1=true at hp
 unfold B2l at hp
 refine Eq.trans (b:=(let z1:=B14 a0 a1 (0:Int);cond ((a0.length:Int) != (a1.length:Int)) (some (B4X false)) (cond (z1.1==0) (some (B4X (z1.2))) (cond (z1.1==1) (some (B4X true)) none)))) (by kernel_rfl) ?_
 exact (H7 B4X hp (fun hp=>rfl) (fun hp=>(H7 B4X hp (fun hp=>rfl) (fun hp=>(A6T hp fun _h=>rfl)))))
theorem E8W:aPP 36 (A2z B8K C4T D1k):=pcD true F5m (hl1 (i:=0) (by kernel_rfl) E22) E5t
noncomputable def F9Z:Tab:=Tab.add F9Y 36 (lift (A2z B8K C4T D1k))
noncomputable def F6I:FuncId→Bool:=qadd F6H 36
theorem F7e:aPG F9Z F6I:=F5m.addQ E8W (cbl Tryz.f36) (fun _=>rfl)

abbrev C5I:List PSh:=[.agg [(.int .i64),(.int .i64),(.int .i64),tq7,.bool],.agg [(.int .i64),(.int .i64),(.int .i64),tq7,.bool]]
noncomputable def D7H (a0 a1 a2:Int) (a3:Lq2) (a4:Bool) (a5 a6 a7:Int) (a8:Lq2) (a9:Bool):Bool:=(cond (a0 != a5) false (cond (a1 != a6) false (cond (a2 != a7) false (cond (!(B7y a3 a8)) false (cond (!(a4==a9)) false true)))))
noncomputable abbrev A8n (r:Bool):AV×List AObj:=((.t true .bool r),[])
noncomputable abbrev D9c:F5 C5I→AV×List AObj:=fun d=>A8n (D7H d.1.1 d.1.2.1 d.1.2.2.1 d.1.2.2.2.1 d.1.2.2.2.2.1 d.2.1.1 d.2.1.2.1 d.2.1.2.2.1 d.2.1.2.2.2.1 d.2.1.2.2.2.2.1)
noncomputable def B7G (a0 a1 a2:Int) (a3:Lq2) (a4:Bool) (a5 a6 a7:Int) (a8:Lq2) (a9:Bool):Bool:=okL a3
noncomputable abbrev D1Q:F5 C5I→Bool:=fun d=>B7G d.1.1 d.1.2.1 d.1.2.2.1 d.1.2.2.2.1 d.1.2.2.2.2.1 d.2.1.1 d.2.1.2.1 d.2.1.2.2.1 d.2.1.2.2.2.1 d.2.1.2.2.2.2.1
theorem F0k:A6Q true F7e aLn Tryz.f79 C5I D1Q D9c:=by
 rintro ⟨⟨a0,⟨a1,⟨a2,⟨a3,⟨a4,_⟩⟩⟩⟩⟩,⟨⟨a5,⟨a6,⟨a7,⟨a8,⟨a9,_⟩⟩⟩⟩⟩,_⟩⟩ hp
 change B7G a0 a1 a2 a3 a4 a5 a6 a7 a8 a9=true at hp
 unfold B7G at hp
 refine Eq.trans (b:=(cond (a0 != a5) (some (A8n false)) (cond (a1 != a6) (some (A8n false)) (cond (a2 != a7) (some (A8n false)) (cond (B2j a3 a8) (cond (!(B7y a3 a8)) (some (A8n false)) (cond (!(a4==a9)) (some (A8n false)) (some (A8n true)))) none))))) (by kernel_rfl) ?_
 exact (L7 A8n (fun _h=>rfl) (fun _h=>(L7 A8n (fun _h=>rfl) (fun _h=>(L7 A8n (fun _h=>rfl) (fun _h=>(A6T (by first | rfl | decide | exact hp | (simp only [Bool.and_eq_true] at hp;simp only [hp];done) | (simp [*];done) | (simp [okL] at hp;simp [okL,MAXB];omega) | (simp_all;done) | (simp at *;omega)) (fun _h=>(L7 A8n (fun _h=>rfl) (fun _h=>(L7 A8n (fun _h=>rfl) (fun _h=>rfl))))))))))))
theorem F27:aPP 79 (A2z C5I D1Q D9c):=pcD true F7e hlz F0k
noncomputable def F90:Tab:=Tab.add F9Z 79 (lift (A2z C5I D1Q D9c))
noncomputable def F6J:FuncId→Bool:=qadd F6I 79
theorem F5n:aPG F90 F6J:=F7e.addQ F27 (cbl Tryz.f79) (fun _=>rfl)

abbrev C1O:List PSh:=[.t tq4,.t tq4]
abbrev A9V:SS:=⟨(.t false tq4::.t false tq4::.junk::.junk::.junk::tI::B9R),[]⟩
abbrev D0i:SS:=⟨(.junk::.junk::.junk::.junk::.t true .bool::C94),[]⟩
abbrev D0j:SS:=⟨(.junk::D7E),[]⟩
noncomputable def D5c (x0 x1:LT2) (x5:Int):RT A9V.den:=let z1:=x0.getD x5.toNat ((0:Int),((0:Int),((0:Int),([],false))));let z2:=x1.getD x5.toNat ((0:Int),((0:Int),((0:Int),([],false))));(.br (decide (x5<(x0.length:Int))) (.br (decide (0≤x5∧x5<(x0.length:Int))) (.br (decide (0≤x5∧x5<(x1.length:Int))) (.br (B7G (z1.1) ((z1.2).1) (((z1.2).2).1) ((((z1.2).2).2).1) ((((z1.2).2).2).2) (z2.1) ((z2.2).1) (((z2.2).2).1) ((((z2.2).2).2).1) ((((z2.2).2).2).2)) (.br (!(D7H (z1.1) ((z1.2).1) (((z1.2).2).1) ((((z1.2).2).2).1) ((((z1.2).2).2).2) (z2.1) ((z2.2).1) (((z2.2).2).1) ((((z2.2).2).2).1) ((((z2.2).2).2).2))) (.done .ret D0i (((),(),(),(),false,u23),())) (.next ((x0,x1,(),(),(),wI (x5+(1:Int)),u22),()))) .fail) .fail) .fail) (.done (.exit 0) D0j ((u28),())))
abbrev C0C:=LT2×LT2×(Int)
abbrev A9M:=Nat×(Bool)
def B79:A9M:=(99,(false:Bool))
noncomputable def B8r (x0 x1:LT2) (x5:Int):C0C ⊕ A9M:=let z1:=x0.getD x5.toNat ((0:Int),((0:Int),((0:Int),([],false))));let z2:=x1.getD x5.toNat ((0:Int),((0:Int),((0:Int),([],false))));(cond (decide (x5<(x0.length:Int))) (cond (decide (0≤x5∧x5<(x0.length:Int))) (cond (decide (0≤x5∧x5<(x1.length:Int))) (cond (B7G (z1.1) ((z1.2).1) (((z1.2).2).1) ((((z1.2).2).2).1) ((((z1.2).2).2).2) (z2.1) ((z2.2).1) (((z2.2).2).1) ((((z2.2).2).2).1) ((((z2.2).2).2).2)) (cond (!(D7H (z1.1) ((z1.2).1) (((z1.2).2).1) ((((z1.2).2).2).1) ((((z1.2).2).2).2) (z2.1) ((z2.2).1) (((z2.2).2).1) ((((z2.2).2).2).1) ((((z2.2).2).2).2))) (.inr (0,false)) (.inl (x0,x1,wI (x5+(1:Int))))) (.inr B79)) (.inr B79)) (.inr B79)) (.inr (1,(false:Bool))))
noncomputable def B3L (x0 x1:LT2) (x5:Int):A9M:=itX (fun v:C0C=>B8r v.1 v.2.1 v.2.2) B79 (x0,x1,x5)
noncomputable def C4D (a:A9M):CT:=(.br (a.1==0) (.done .ret D0i (((),(),(),(),a.2,u23),())) (.br (a.1==1) (.done (.exit 0) D0j ((u28),())) .fail))
noncomputable def E6b (x0 x1:LT2) (x5:Int):CT:=C4D (B3L x0 x1 x5)
noncomputable abbrev C48:A9V.den→RT A9V.den:=(fun d=>D5c d.1.1 d.1.2.1 d.1.2.2.2.2.2.1)
noncomputable def C9e:Code:=((C4 0 (A0y Tryz.f37)).getD 0 (0,.skip)).2
noncomputable abbrev D4N (v:C0C):A9V.den:=((v.1,v.2.1,(),(),(),v.2.2,u22),())
theorem E5i:(∀ v:C0C,(D5c v.1 v.2.1 v.2.2).val=A5T D4N C4D (B8r v.1 v.2.1 v.2.2))∧∀ a:A9M,CEnd A9V.den (C4D a):=⟨fun v=>(A6V (A6V (A6V (A6V (A6V rfl rfl) rfl) rfl) rfl) rfl),fun a=>(A6I aCD (A6I aCD A6K))⟩
theorem E3s:RdA F5n aLn 0 C9e A9V 0 [] (kepts [4] [(0,[])]) (fun d=>(C48 d).opt 0 []):=by
 intro d
 kernel_rfl
noncomputable abbrev D2C:St→Option Tree:=A9V.say 0 [] [] (fun d=>E6b d.1.1 d.1.2.1 d.1.2.2.2.2.2.1)
theorem E4O:aPL D2C C9e:=SS.wp2 hlz [] C48 E3s (fun d=>rfl) _ (fun d=>Runs.ofI2 (step:=C48) D4N E5i rfl (d.1.1,d.1.2.1,d.1.2.2.2.2.2.1))
noncomputable def B6q (a0 a1:LT2):Bool:=let z1:=B3L a0 a1 (0:Int);(cond ((a0.length:Int) != (a1.length:Int)) false (cond (z1.1==0) (z1.2) true))
noncomputable abbrev B7s (r:Bool):AV×List AObj:=((.t true .bool r),[])
noncomputable abbrev D5M:F5 C1O→AV×List AObj:=fun d=>B7s (B6q d.1 d.2.1)
noncomputable def A96 (a0 a1:LT2):Bool:=let z1:=B3L a0 a1 (0:Int);cond ((a0.length:Int) != (a1.length:Int)) true (cond (z1.1==0) true (z1.1==1))
noncomputable abbrev C79:F5 C1O→Bool:=fun d=>A96 d.1 d.2.1
noncomputable abbrev F0Q:Nat→St→Option Tree:=fun b=>match b with | 0=>D2C | _=>fun _=>none
theorem E7V:A6Q true F5n (F0Q) Tryz.f37 C1O C79 D5M:=by
 rintro ⟨a0,⟨a1,_⟩⟩ hp
 change A96 a0 a1=true at hp
 unfold A96 at hp
 refine Eq.trans (b:=(let z1:=B3L a0 a1 (0:Int);cond ((a0.length:Int) != (a1.length:Int)) (some (B7s false)) (cond (z1.1==0) (some (B7s (z1.2))) (cond (z1.1==1) (some (B7s true)) none)))) (by kernel_rfl) ?_
 exact (H7 B7s hp (fun hp=>rfl) (fun hp=>(H7 B7s hp (fun hp=>rfl) (fun hp=>(A6T hp fun _h=>rfl)))))
theorem F1m:aPP 37 (A2z C1O C79 D5M):=pcD true F5n (hl1 (i:=0) (by kernel_rfl) E4O) E7V
noncomputable def F91:Tab:=Tab.add F90 37 (lift (A2z C1O C79 D5M))
noncomputable def F6K:FuncId→Bool:=qadd F6J 37
theorem F7f:aPG F91 F6K:=F5n.addQ F1m (cbl Tryz.f37) (fun _=>rfl)


end Go.Proofs.YtcofibhklbfgoaaGreat.Eng
