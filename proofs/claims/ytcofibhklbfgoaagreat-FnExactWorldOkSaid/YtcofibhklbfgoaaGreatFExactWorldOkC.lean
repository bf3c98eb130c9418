/- What the functions that FnExactWorldOk reaches compute: further. -/
import Derived.Test.YtcofibhklbfgoaaGreatFExactWorldOkB
namespace Go.Proofs.YtcofibhklbfgoaaGreat.Eng
open Go Go.RowKit
set_option linter.unusedSimpArgs false
set_option linter.unusedVariables false
set_option maxRecDepth 10000
abbrev C14:List PSh:=[.agg [(.int .i64),tq8,(.int .i64),Z3,tq8]]
noncomputable def C3e (a0:Int) (a1:Lq1) (a2:Int) (a3:LBBe) (a4:Lq1):Bool:=let z1:=B5e a1;(cond (!(L0 a0 (0:Int) (7:Int))) false (cond (decide ((a1.length:Int) > (300:Int))) false (cond (!(L0 a2 (0:Int) (a1.length:Int))) false (cond (z1.2.2) (cond (B2Y (z1.1) a3) (cond (B9o (z1.2.1) a4) (decide ((wI ((a1.length:Int)+(((z1.2.1).length:Nat):Int)))≤(300:Int))) false) false) false))))
noncomputable abbrev X2 (r:Bool):AV×List AObj:=((.t true .bool r),[])
noncomputable abbrev D52:F5 C14→AV×List AObj:=fun d=>X2 (C3e d.1.1 d.1.2.1 d.1.2.2.1 d.1.2.2.2.1 d.1.2.2.2.2.1)
noncomputable def B2r (a0:Int) (a1:Lq1) (a2:Int) (a3:LBBe) (a4:Lq1):Bool:=let z1:=B5e a1;cond (!(L0 a0 (0:Int) (7:Int))) true (cond (decide ((a1.length:Int) > (300:Int))) true (cond (!(L0 a2 (0:Int) (a1.length:Int))) true ((A8S a1)&&(cond (z1.2.2) ((A8d (z1.1) a3)&&(cond (B2Y (z1.1) a3) (A8T (z1.2.1) a4) true)) true))))
noncomputable abbrev C8q:F5 C14→Bool:=fun d=>B2r d.1.1 d.1.2.1 d.1.2.2.1 d.1.2.2.2.1 d.1.2.2.2.2.1
theorem E8b:A6Q true G70 aLn Tryz.f30 C14 C8q D52:=by
 rintro ⟨⟨a0,⟨a1,⟨a2,⟨a3,⟨a4,_⟩⟩⟩⟩⟩,_⟩ hp
 change B2r a0 a1 a2 a3 a4=true at hp
 unfold B2r at hp
 refine Eq.trans (b:=(let z1:=B5e a1;cond (!(L0 a0 (0:Int) (7:Int))) (some (X2 false)) (cond (decide ((a1.length:Int) > (300:Int))) (some (X2 false)) (cond (!(L0 a2 (0:Int) (a1.length:Int))) (some (X2 false)) (cond (A8S a1) (cond (z1.2.2) (cond (A8d (z1.1) a3) (cond (B2Y (z1.1) a3) (cond (A8T (z1.2.1) a4) (cond (B9o (z1.2.1) a4) (some (X2 (decide ((wI ((a1.length:Int)+(((z1.2.1).length:Nat):Int)))≤(300:Int))))) (some (X2 false))) none) (some (X2 false))) none) (some (X2 false))) none))))) (by kernel_rfl) ?_
 exact (H7 X2 hp (fun hp=>rfl) (fun hp=>(H7 X2 hp (fun hp=>rfl) (fun hp=>(H7 X2 hp (fun hp=>rfl) (fun hp=>(A6R hp fun hp=>(H7 X2 hp (fun hp=>(A6R hp fun hp=>(H7 X2 hp (fun hp=>(A6T hp fun _h=>(L7 X2 (fun _h=>rfl) (fun _h=>rfl)))) (fun hp=>rfl)))) (fun hp=>rfl)))))))))
theorem F1C:aPP 30 (A2z C14 C8q D52):=pcD true G70 hlz E8b
noncomputable def S71:Tab:=Tab.add S70 30 (lift (A2z C14 C8q D52))
noncomputable def F8R:FuncId→Bool:=qadd F8Q 30
theorem G71:aPG S71 F8R:=G70.addQ F1C (cbl Tryz.f30) (fun _=>rfl)

abbrev G0u:List Sh:=.junk::F7H
abbrev G1t:List Sh:=.junk::G0u
abbrev u58:=((),(),u56)
abbrev u57:=((),u56)
abbrev u61:=((),u60)
abbrev G1h:List AV:=.junk::.junk::F5S
abbrev G1g:List AV:=.junk::F5S
abbrev C15:List PSh:=[.agg [(.int .i64),(.int .i64),(.int .i64),tq5,K4,(.int .i64),tq3,tq4,tq4,tq9]]
abbrev A7E:SS:=⟨(.junk::.ptr 0 0 1 0::.junk::tI::G0u),[.box [tI,tI,tI,.t false tq5,.t false K4,tI,.t false tq3,.t false tq4,.t false tq4,.t false tq9]]⟩
abbrev C1A:SS:=⟨(.junk::.junk::.t true .bool::G1t),[]⟩
abbrev D0q:SS:=⟨(.junk::F7I),[]⟩
noncomputable def C4c (x3:Int) (p6:LT3):=let z1:=p6.getD x3.toNat ((0:Int),([],((0:Int),([],[]))));C3e (z1.1) ((z1.2).1) (((z1.2).2).1) ((((z1.2).2).2).1) ((((z1.2).2).2).2)
noncomputable def D5h (x3 p0 p1 p2:Int) (p3:LT1) (p4:LIbe) (p5:Int) (p6:LT3) (p7 p8:LT2) (p9:Lq6):RT A7E.den:=let z1:=p6.getD x3.toNat ((0:Int),([],((0:Int),([],[]))));let z2:=decide (0≤x3∧x3<(p6.length:Int));(.br (decide (x3<(p6.length:Int))) (.br z2 (.br ((z1.1) != x3) (.done .ret C1A (((),(),false,u58),())) (.br z2 (.br (B2r (z1.1) ((z1.2).1) (((z1.2).2).1) ((((z1.2).2).2).1) ((((z1.2).2).2).2)) (.br (!(C4c x3 p6)) (.done .ret C1A (((),(),false,u58),())) (.next (((),(),(),wI (x3+(1:Int)),u57),((p0,p1,p2,p3,p4,p5,p6,p7,p8,p9,()),())))) .fail) .fail)) .fail) (.done (.exit 0) D0q ((u61),())))
abbrev B5M:=(Int)
abbrev B5q:=Nat×(Bool)
def B8c:B5q:=(99,(false:Bool))
noncomputable def B8w (x3 p0 p1 p2:Int) (p3:LT1) (p4:LIbe) (p5:Int) (p6:LT3) (p7 p8:LT2) (p9:Lq6):B5M ⊕ B5q:=let z1:=p6.getD x3.toNat ((0:Int),([],((0:Int),([],[]))));let z2:=decide (0≤x3∧x3<(p6.length:Int));(cond (decide (x3<(p6.length:Int))) (cond z2 (cond ((z1.1) != x3) (.inr (0,false)) (cond z2 (cond (B2r (z1.1) ((z1.2).1) (((z1.2).2).1) ((((z1.2).2).2).1) ((((z1.2).2).2).2)) (cond (!(C4c x3 p6)) (.inr (0,false)) (.inl (wI (x3+(1:Int))))) (.inr B8c)) (.inr B8c))) (.inr B8c)) (.inr (1,(false:Bool))))
noncomputable def B3P (x3 p0 p1 p2:Int) (p3:LT1) (p4:LIbe) (p5:Int) (p6:LT3) (p7 p8:LT2) (p9:Lq6):B5q:=itX (fun v:B5M=>B8w v p0 p1 p2 p3 p4 p5 p6 p7 p8 p9) B8c x3
noncomputable def C4I (p0 p1 p2:Int) (p3:LT1) (p4:LIbe) (p5:Int) (p6:LT3) (p7 p8:LT2) (p9:Lq6) (a:B5q):CT:=(.br (a.1==0) (.done .ret C1A (((),(),a.2,u58),())) (.br (a.1==1) (.done (.exit 0) D0q ((u61),())) .fail))
noncomputable def E6g (x3 p0 p1 p2:Int) (p3:LT1) (p4:LIbe) (p5:Int) (p6:LT3) (p7 p8:LT2) (p9:Lq6):CT:=(C4I p0 p1 p2 p3 p4 p5 p6 p7 p8 p9) (B3P x3 p0 p1 p2 p3 p4 p5 p6 p7 p8 p9)
noncomputable abbrev B75 {α:Sort _} (f:Int→Int→Int→Int→LT1→LIbe→Int→LT3→LT2→LT2→Lq6→α) (d:A7E.den):α:=f d.1.2.2.2.1 d.2.1.1 d.2.1.2.1 d.2.1.2.2.1 d.2.1.2.2.2.1 d.2.1.2.2.2.2.1 d.2.1.2.2.2.2.2.1 d.2.1.2.2.2.2.2.2.1 d.2.1.2.2.2.2.2.2.2.1 d.2.1.2.2.2.2.2.2.2.2.1 d.2.1.2.2.2.2.2.2.2.2.2.1
noncomputable abbrev C5d:A7E.den→RT A7E.den:=(B75 D5h)
noncomputable def C9j:Code:=((C4 0 (A0y Tryz.f11)).getD 0 (0,.skip)).2
noncomputable abbrev D4S (p0 p1 p2:Int) (p3:LT1) (p4:LIbe) (p5:Int) (p6:LT3) (p7 p8:LT2) (p9:Lq6) (v:B5M):A7E.den:=(((),(),(),v,u57),((p0,p1,p2,p3,p4,p5,p6,p7,p8,p9,()),()))
theorem E5n (p0 p1 p2:Int) (p3:LT1) (p4:LIbe) (p5:Int) (p6:LT3) (p7 p8:LT2) (p9:Lq6):(∀ v:B5M,(D5h v p0 p1 p2 p3 p4 p5 p6 p7 p8 p9).val=A5T (D4S p0 p1 p2 p3 p4 p5 p6 p7 p8 p9) (C4I p0 p1 p2 p3 p4 p5 p6 p7 p8 p9) (B8w v p0 p1 p2 p3 p4 p5 p6 p7 p8 p9))∧∀ a:B5q,CEnd A7E.den ((C4I p0 p1 p2 p3 p4 p5 p6 p7 p8 p9) a):=⟨fun v=>by repeat' first | apply A6V | rfl,fun a=>(A6I aCD (A6I aCD A6K))⟩
noncomputable def D4D (x3 p0 p1 p2:Int) (p3:LT1) (p4:LIbe) (p5:Int) (p6:LT3) (p7 p8:LT2) (p9:Lq6):Option (Ex×St):=let z1:=p6.getD x3.toNat ((0:Int),([],((0:Int),([],[]))));let z2:=(⟨(.junk::.junk::(.t true .bool false)::G1h),[],0,[]⟩:St);let z3:=decide (0≤x3∧x3<(p6.length:Int));(cond (decide (x3<(p6.length:Int))) (cond z3 (cond ((z1.1) != x3) (some (.ret,z2)) (cond z3 (cond (B2r (z1.1) ((z1.2).1) (((z1.2).2).1) ((((z1.2).2).2).1) ((((z1.2).2).2).2)) (cond (!(C4c x3 p6)) (some (.ret,z2)) (some (.normal,(⟨(.junk::(.ptr 0 0 1 0)::.junk::(ti (wI (x3+(1:Int))))::G1g),[(.box [(ti p0),(ti p1),(ti p2),(.t false tq5 p3),(.t false K4 p4),(ti p5),(.t false tq3 p6),(.t false tq4 p7),(.t false tq4 p8),(.t false tq9 p9)])],0,[]⟩:St)))) none) none)) none) (some ((.exit 0),(⟨(.junk::F7u),[],0,[]⟩:St))))
theorem E3z:RdA G71 aLn 0 C9j A7E 0 [] (kepts [2] [(0,[])]) (B75 D4D):=by
 intro d
 kernel_rfl
theorem E3F:∀ d:A7E.den,(B75 D4D) d=(C5d d).opt 0 []:=by
 intro d
 kernel_rfl
noncomputable abbrev D2J:St→Option Tree:=A7E.say 0 [] [] (B75 E6g)
theorem E4V:aPL D2J C9j:=SS.wp2 hlz [] C5d E3z E3F _ (fun d=>Runs.ofI2 (step:=C5d) (D4S d.2.1.1 d.2.1.2.1 d.2.1.2.2.1 d.2.1.2.2.2.1 d.2.1.2.2.2.2.1 d.2.1.2.2.2.2.2.1 d.2.1.2.2.2.2.2.2.1 d.2.1.2.2.2.2.2.2.2.1 d.2.1.2.2.2.2.2.2.2.2.1 d.2.1.2.2.2.2.2.2.2.2.2.1) (E5n d.2.1.1 d.2.1.2.1 d.2.1.2.2.1 d.2.1.2.2.2.1 d.2.1.2.2.2.2.1 d.2.1.2.2.2.2.2.1 d.2.1.2.2.2.2.2.2.1 d.2.1.2.2.2.2.2.2.2.1 d.2.1.2.2.2.2.2.2.2.2.1 d.2.1.2.2.2.2.2.2.2.2.2.1) rfl d.1.2.2.2.1)
noncomputable def D8n (a0 a1 a2:Int) (a3:LT1) (a4:LIbe) (a5:Int) (a6:LT3) (a7 a8:LT2) (a9:Lq6):Bool:=let z1:=B3P (0:Int) a0 a1 a2 a3 a4 a5 a6 a7 a8 a9;(cond (!(C3d a0 a1 a2 a3 a4 a5)) false (cond ((a6.length:Int) != a0) false (cond (!(B2W a0 a1 a2 a3 a4 a5 a6 a7 a8 a9 a7)) false (cond (!(B2W a0 a1 a2 a3 a4 a5 a6 a7 a8 a9 a8)) false (cond (!(B7Q a0 a1 a2 a3 a4 a5 a6 a7 a8 a9)) false (cond (z1.1==0) (z1.2) true))))))
noncomputable abbrev X3 (r:Bool):AV×List AObj:=((.t true .bool r),[])
noncomputable abbrev D53:F5 C15→AV×List AObj:=fun d=>X3 (D8n d.1.1 d.1.2.1 d.1.2.2.1 d.1.2.2.2.1 d.1.2.2.2.2.1 d.1.2.2.2.2.2.1 d.1.2.2.2.2.2.2.1 d.1.2.2.2.2.2.2.2.1 d.1.2.2.2.2.2.2.2.2.1 d.1.2.2.2.2.2.2.2.2.2.1)
noncomputable def B4H (a0 a1 a2:Int) (a3:LT1) (a4:LIbe) (a5:Int) (a6:LT3) (a7 a8:LT2) (a9:Lq6):Bool:=let z1:=B3P (0:Int) a0 a1 a2 a3 a4 a5 a6 a7 a8 a9;(B4F a0 a1 a2 a3 a4 a5)&&(cond (!(C3d a0 a1 a2 a3 a4 a5)) true (cond ((a6.length:Int) != a0) true ((A8F a0 a1 a2 a3 a4 a5 a6 a7 a8 a9 a7)&&(cond (!(B2W a0 a1 a2 a3 a4 a5 a6 a7 a8 a9 a7)) true ((A8F a0 a1 a2 a3 a4 a5 a6 a7 a8 a9 a8)&&(cond (!(B2W a0 a1 a2 a3 a4 a5 a6 a7 a8 a9 a8)) true ((A99 a0 a1 a2 a3 a4 a5 a6 a7 a8 a9)&&(cond (!(B7Q a0 a1 a2 a3 a4 a5 a6 a7 a8 a9)) true (cond (z1.1==0) true (z1.1==1))))))))))
noncomputable abbrev C8r:F5 C15→Bool:=fun d=>B4H d.1.1 d.1.2.1 d.1.2.2.1 d.1.2.2.2.1 d.1.2.2.2.2.1 d.1.2.2.2.2.2.1 d.1.2.2.2.2.2.2.1 d.1.2.2.2.2.2.2.2.1 d.1.2.2.2.2.2.2.2.2.1 d.1.2.2.2.2.2.2.2.2.2.1
noncomputable abbrev F0W:Nat→St→Option Tree:=fun b=>match b with | 0=>D2J | _=>fun _=>none
theorem E8c:A6Q true G71 (F0W) Tryz.f11 C15 C8r D53:=by
 rintro ⟨⟨a0,⟨a1,⟨a2,⟨a3,⟨a4,⟨a5,⟨a6,⟨a7,⟨a8,⟨a9,_⟩⟩⟩⟩⟩⟩⟩⟩⟩⟩,_⟩ hp
 change B4H a0 a1 a2 a3 a4 a5 a6 a7 a8 a9=true at hp
 unfold B4H at hp
 refine Eq.trans (b:=(let z1:=B3P (0:Int) a0 a1 a2 a3 a4 a5 a6 a7 a8 a9;cond (B4F a0 a1 a2 a3 a4 a5) (cond (!(C3d a0 a1 a2 a3 a4 a5)) (some (X3 false)) (cond ((a6.length:Int) != a0) (some (X3 false)) (cond (A8F a0 a1 a2 a3 a4 a5 a6 a7 a8 a9 a7) (cond (!(B2W a0 a1 a2 a3 a4 a5 a6 a7 a8 a9 a7)) (some (X3 false)) (cond (A8F a0 a1 a2 a3 a4 a5 a6 a7 a8 a9 a8) (cond (!(B2W a0 a1 a2 a3 a4 a5 a6 a7 a8 a9 a8)) (some (X3 false)) (cond (A99 a0 a1 a2 a3 a4 a5 a6 a7 a8 a9) (cond (!(B7Q a0 a1 a2 a3 a4 a5 a6 a7 a8 a9)) (some (X3 false)) (cond (z1.1==0) (some (X3 (z1.2))) (cond (z1.1==1) (some (X3 true)) none))) none)) none)) none))) none)) (by kernel_rfl) ?_
 exact (A6R hp fun hp=>(H7 X3 hp (fun hp=>rfl) (fun hp=>(H7 X3 hp (fun hp=>rfl) (fun hp=>(A6R hp fun hp=>(H7 X3 hp (fun hp=>rfl) (fun hp=>(A6R hp fun hp=>(H7 X3 hp (fun hp=>rfl) (fun hp=>(A6R hp fun hp=>(H7 X3 hp (fun hp=>rfl) (fun hp=>(H7 X3 hp (fun hp=>rfl) (fun hp=>(A6T hp fun _h=>rfl)))))))))))))))))
theorem F1D:aPP 11 (A2z C15 C8r D53):=pcD true G71 (hl1 (i:=0) (by kernel_rfl) E4V) E8c
noncomputable def S72:Tab:=Tab.add S71 11 (lift (A2z C15 C8r D53))
noncomputable def F8S:FuncId→Bool:=qadd F8R 11
theorem G72:aPG S72 F8S:=G71.addQ F1D (cbl Tryz.f11) (fun _=>rfl)

abbrev C1I:List PSh:=[.t (.int .i64),.t (.int .i64),.t (.int .i64)]
noncomputable def M4 (a0 a1 a2:Int):Bool:=(cond (decide (a0 ≥ a1)) (decide (a0≤a2)) false)
noncomputable abbrev C7q (r:Bool):AV×List AObj:=((.t true .bool r),[])
noncomputable abbrev D5G:F5 C1I→AV×List AObj:=fun d=>C7q (M4 d.1 d.2.1 d.2.2.1)
noncomputable abbrev C73:F5 C1I→Bool:=fun d=>true
theorem E7P:A6Q true G72 aLn Tryz.f22 C1I C73 D5G:=by
 rintro ⟨a0,⟨a1,⟨a2,_⟩⟩⟩ hp
 refine Eq.trans (b:=(cond (decide (a0 ≥ a1)) (some (C7q (decide (a0≤a2)))) (some (C7q false)))) (by kernel_rfl) ?_
 exact (L7 C7q (fun _h=>rfl) (fun _h=>rfl))
theorem F1g:aPP 22 (A2z C1I C73 D5G):=pcD true G72 hlz E7P
noncomputable def S73:Tab:=Tab.add S72 22 (lift (A2z C1I C73 D5G))
noncomputable def F8T:FuncId→Bool:=qadd F8S 22
theorem G73:aPG S73 F8T:=G72.addQ F1g (cbl Tryz.f22) (fun _=>rfl)

abbrev B2y:SS:=⟨[.ptr 0 0 1 0],[.box [tI,tI,tI,.t false tq5,.t false K4,tI]]⟩
noncomputable def B3H (p0 p1 p2:Int) (p3:LT1) (p4:LIbe) (p5:Int):Int:=(wI ((wI (p1*(1000:Int)))+p2))
noncomputable abbrev E05 (p0 p1 p2:Int) (p3:LT1) (p4:LIbe) (p5 r:Int):AV×List AObj×List Nat:=((ti r),[(.box [(ti p0),(ti p1),(ti p2),(.t false tq5 p3),(.t false K4 p4),(ti p5)])],[])
noncomputable abbrev C9n:B2y.den→AV×List AObj×List Nat:=fun d=>E05 d.2.1.1 d.2.1.2.1 d.2.1.2.2.1 d.2.1.2.2.2.1 d.2.1.2.2.2.2.1 d.2.1.2.2.2.2.2.1 (B3H d.2.1.1 d.2.1.2.1 d.2.1.2.2.1 d.2.1.2.2.2.1 d.2.1.2.2.2.2.1 d.2.1.2.2.2.2.2.1)
noncomputable abbrev C4l:B2y.den→Bool:=fun d=>true
theorem D8l:A6P G73 aLn Tryz.f44 B2y C4l C9n:=by
 rintro ⟨⟨_,_⟩,⟨⟨p0,p1,p2,p3,p4,p5,_⟩,_⟩⟩ hp
 kernel_rfl
noncomputable abbrev B9U:=winQ (msum B2y C4l C9n)
theorem C9k:aPM 44 B9U:=(mcM G73 hlz D8l).winQ (A6i fun d=>⟨rfl,rfl⟩)
noncomputable def S74:Tab:=Tab.add S73 44 (B9U)
noncomputable def F8U:FuncId→Bool:=qadd F8T 44
theorem G74:aPG S74 F8U:=G73.addMQ C9k (A6p _) (cbl Tryz.f44) (A4V _)

abbrev A8u:SS:=⟨[.agg [.t true (.int .i64),.t true .bool],.ptr 0 0 1 0],[.box [tI]]⟩
noncomputable def B6b (x0_0:Int) (x0_1:Bool) (p0:Int):Bool:=(x0_0==p0)
noncomputable abbrev D3J (p0:Int) (r:Bool):AV×List AObj×List Nat:=((.t true .bool r),[(.box [(ti p0)])],[])
noncomputable abbrev C0e:A8u.den→AV×List AObj×List Nat:=fun d=>D3J d.2.1.1 (B6b d.1.1.1 d.1.1.2.1 d.2.1.1)
noncomputable abbrev B61:A8u.den→Bool:=fun d=>true
theorem D0c:A6P G74 aLn Tryz.f93 A8u B61 C0e:=by
 rintro ⟨⟨⟨x0_0,x0_1,_⟩,_,_⟩,⟨⟨p0,_⟩,_⟩⟩ hp
 kernel_rfl
noncomputable abbrev C0f:=winQ (msum A8u B61 C0e)
theorem D3I:aPM 93 C0f:=(mcM G74 hlz D0c).winQ (A6i fun d=>⟨rfl,rfl⟩)
noncomputable def S75:Tab:=Tab.add S74 93 (C0f)
noncomputable def F8V:FuncId→Bool:=qadd F8U 93
theorem G75:aPG S75 F8V:=G74.addMQ D3I (A6p _) (cbl Tryz.f93) (A4V _)

abbrev F3t:List Sh:=.junk::.junk::.junk::.junk::.junk::.junk::.junk::.junk::.junk::.junk::[]
abbrev u11:=((),(),(),(),(),(),(),(),(),(),())
abbrev V6:SS:=⟨[.t false K4,.fn 93 [0]],[.box [tI]]⟩
abbrev K0:SS:=⟨(.t false K4::.fn 93 [0]::.junk::.junk::.junk::.junk::.junk::tI::tI::F3t),[.box [tI]]⟩
abbrev A89:SS:=⟨(.junk::.junk::.junk::.junk::tI::E9D),[.box [tI]]⟩
abbrev A9a:SS:=⟨(.junk::D1v),[.box [tI]]⟩
noncomputable def A7G (x0:LIbe) (x8 p0:Int):=let z1:=x0.getD x8.toNat ((0:Int),false);B6b (z1.1) (z1.2) p0
noncomputable def A9L (x0:LIbe) (x7 x8 p0:Int):RT K0.den:=(.br (decide (x8<x7)) (.br (decide (0≤x8∧x8<(x0.length:Int))) (.br (A7G x0 x8 p0) (.done .ret A89 (((),(),(),(),x8,u15),((p0,()),()))) (.next ((x0,(),(),(),(),(),(),x7,wI (x8+(1:Int)),u11),((p0,()),())))) .fail) (.done (.exit 0) A9a ((u20),((p0,()),()))))
abbrev T9:=(LIbe)×(Int)×(Int)
abbrev P4:=Nat×(Int)
def A9D:P4:=(99,((0:Int):Int))
noncomputable def T4 (x0:LIbe) (x7 x8 p0:Int):T9 ⊕ P4:=(cond (decide (x8<x7)) (cond (decide (0≤x8∧x8<(x0.length:Int))) (cond (A7G x0 x8 p0) (.inr (0,x8)) (.inl (x0,x7,wI (x8+(1:Int))))) (.inr A9D)) (.inr (1,((0:Int):Int))))
noncomputable def O6 (x0:LIbe) (x7 x8 p0:Int):P4:=itX (fun v:T9=>T4 v.1 v.2.1 v.2.2 p0) A9D (x0,x7,x8)
noncomputable def A6Y (p0:Int) (a:P4):CT:=(.br (a.1==0) (.done .ret A89 (((),(),(),(),a.2,u15),((p0,()),()))) (.br (a.1==1) (.done (.exit 0) A9a ((u20),((p0,()),()))) .fail))
noncomputable def B9z (x0:LIbe) (x7 x8 p0:Int):CT:=(A6Y p0) (O6 x0 x7 x8 p0)
noncomputable abbrev A9B {α:Sort _} (f:LIbe→Int→Int→Int→α) (d:K0.den):α:=f d.1.1 d.1.2.2.2.2.2.2.2.1 d.1.2.2.2.2.2.2.2.2.1 d.2.1.1
noncomputable abbrev A66:K0.den→RT K0.den:=(A9B A9L)
noncomputable def A8W:Code:=((C4 0 (A0y Tryz.f92)).getD 0 (0,.skip)).2
noncomputable abbrev A9E (p0:Int) (v:T9):K0.den:=((v.1,(),(),(),(),(),(),v.2.1,v.2.2,u11),((p0,()),()))
theorem B9j (p0:Int):(∀ v:T9,(A9L v.1 v.2.1 v.2.2 p0).val=A5T (A9E p0) (A6Y p0) (T4 v.1 v.2.1 v.2.2 p0))∧∀ a:P4,CEnd K0.den ((A6Y p0) a):=⟨fun v=>(A6V (A6V (A6V rfl rfl) rfl) rfl),fun a=>(A6I aCD (A6I aCD A6K))⟩
theorem B7O:RdA G75 aLn 0 A8W K0 1 [] (kepts [4] [(0,[])]) (fun d=>(A66 d).opt 1 []):=by
 intro d
 kernel_rfl
noncomputable abbrev A9r:St→Option Tree:=K0.say 1 [] [] (A9B B9z)
theorem B89:aPL A9r A8W:=SS.wp2 hlz [] A66 B7O (fun d=>rfl) _ (fun d=>Runs.ofI2 (step:=A66) (A9E d.2.1.1) (B9j d.2.1.1) rfl (d.1.1,d.1.2.2.2.2.2.2.2.1,d.1.2.2.2.2.2.2.2.2.1))
noncomputable def A0h (x0:LIbe) (p0:Int):Int:=let z1:=O6 x0 (x0.length:Int) (0:Int) p0;(cond (z1.1==0) (z1.2) (-1:Int))
noncomputable abbrev X4 (p0 r:Int):AV×List AObj×List Nat:=((ti r),[(.box [(ti p0)])],[])
noncomputable abbrev B1Z:V6.den→AV×List AObj×List Nat:=fun d=>X4 d.2.1.1 (A0h d.1.1 d.2.1.1)
noncomputable def N9 (x0:LIbe) (p0:Int):Bool:=let z1:=O6 x0 (x0.length:Int) (0:Int) p0;cond (z1.1==0) true (z1.1==1)
noncomputable abbrev B0r:V6.den→Bool:=fun d=>N9 d.1.1 d.2.1.1
noncomputable abbrev C1D:Nat→St→Option Tree:=fun b=>match b with | 0=>A9r | _=>fun _=>none
theorem B90:A6P G75 (C1D) Tryz.f92 V6 B0r B1Z:=by
 rintro ⟨⟨x0,_,_⟩,⟨⟨p0,_⟩,_⟩⟩ hp
 change N9 x0 p0=true at hp
 unfold N9 at hp
 refine Eq.trans (b:=(let z1:=O6 x0 (x0.length:Int) (0:Int) p0;cond (z1.1==0) (some (X4 p0 (z1.2))) (cond (z1.1==1) (some (X4 p0 (-1:Int))) none))) (by kernel_rfl) ?_
 exact (H7 (X4 p0) hp (fun hp=>rfl) (fun hp=>(A6T hp fun _h=>rfl)))
noncomputable abbrev B2d:=winQ (msum V6 B0r B1Z)
theorem C2i:aPM 92 B2d:=(mcM G75 (hl1 (i:=0) (by kernel_rfl) B89) B90).winQ (A6i fun d=>⟨rfl,rfl⟩)
noncomputable def S76:Tab:=Tab.add S75 92 (B2d)
noncomputable def F8W:FuncId→Bool:=qadd F8V 92
theorem G76:aPG S76 F8W:=G75.addMQ C2i (A6p _) (cbl Tryz.f92) (A4V _)

abbrev A9P:SS:=⟨[.ptr 0 0 1 0,tI],[.box [tI,tI,tI,.t false tq5,.t false K4,tI]]⟩
noncomputable def U2 (x1 p0 p1 p2:Int) (p3:LT1) (p4:LIbe) (p5:Int):Int:=(A0h p4 x1)
noncomputable abbrev C3V (p0 p1 p2:Int) (p3:LT1) (p4:LIbe) (p5 r:Int):AV×List AObj×List Nat:=((ti r),[(.box [(ti p0),(ti p1),(ti p2),(.t false tq5 p3),(.t false K4 p4),(ti p5)])],[])
noncomputable abbrev C36:A9P.den→AV×List AObj×List Nat:=fun d=>C3V d.2.1.1 d.2.1.2.1 d.2.1.2.2.1 d.2.1.2.2.2.1 d.2.1.2.2.2.2.1 d.2.1.2.2.2.2.2.1 (U2 d.1.2.1 d.2.1.1 d.2.1.2.1 d.2.1.2.2.1 d.2.1.2.2.2.1 d.2.1.2.2.2.2.1 d.2.1.2.2.2.2.2.1)
noncomputable def O2 (x1 p0 p1 p2:Int) (p3:LT1) (p4:LIbe) (p5:Int):Bool:=N9 p4 x1
noncomputable abbrev C0j:A9P.den→Bool:=fun d=>O2 d.1.2.1 d.2.1.1 d.2.1.2.1 d.2.1.2.2.1 d.2.1.2.2.2.1 d.2.1.2.2.2.2.1 d.2.1.2.2.2.2.2.1
theorem D3U:A6P G76 aLn Tryz.f45 A9P C0j C36:=by
 rintro ⟨⟨_,x1,_⟩,⟨⟨p0,p1,p2,p3,p4,p5,_⟩,_⟩⟩ hp
 change O2 x1 p0 p1 p2 p3 p4 p5=true at hp
 unfold O2 at hp
 refine Eq.trans (b:=(cond (N9 p4 x1) (some (C3V p0 p1 p2 p3 p4 p5 (A0h p4 x1))) none)) (by kernel_rfl) ?_
 exact (A6T hp fun _h=>rfl)
noncomputable abbrev C4g:=winQ (msum A9P C0j C36)
theorem D7h:aPM 45 C4g:=(mcM G76 hlz D3U).winQ (A6i fun d=>⟨rfl,rfl⟩)
noncomputable def S77:Tab:=Tab.add S76 45 (C4g)
noncomputable def F8X:FuncId→Bool:=qadd F8W 45
theorem G77:aPG S77 F8X:=G76.addMQ D7h (A6p _) (cbl Tryz.f45) (A4V _)

abbrev B5y:List PSh:=[.t (.int .u8)]
noncomputable def C2H (a0:Int):Bool:=let z1:=decide (a0 ≥ (48:Int));let z2:=decide (a0≤(57:Int));(cond (decide (a0 ≥ (97:Int))) (cond (decide (a0≤(122:Int))) true (cond z1 z2 false)) (cond z1 z2 false))
noncomputable abbrev A7F (r:Bool):AV×List AObj:=((.t true .bool r),[])
noncomputable abbrev C7z:F5 B5y→AV×List AObj:=fun d=>A7F (C2H d.1)
noncomputable abbrev C2Z:F5 B5y→Bool:=fun d=>true
theorem E3W:A6Q true G77 aLn Tryz.f140 B5y C2Z C7z:=by
 rintro ⟨a0,_⟩ hp
 refine Eq.trans (b:=(let z1:=A7F (decide (a0≤(57:Int)));let z2:=decide (a0 ≥ (48:Int));cond (decide (a0 ≥ (97:Int))) (cond (decide (a0≤(122:Int))) (some (A7F true)) (cond z2 (some z1) (some (A7F false)))) (cond z2 (some z1) (some (A7F false))))) (by kernel_rfl) ?_
 exact (L7 A7F (fun _h=>(L7 A7F (fun _h=>rfl) (fun _h=>(L7 A7F (fun _h=>rfl) (fun _h=>rfl))))) (fun _h=>(L7 A7F (fun _h=>rfl) (fun _h=>rfl))))
theorem E6m:aPP 140 (A2z B5y C2Z C7z):=pcD true G77 hlz E3W
noncomputable def S78:Tab:=Tab.add S77 140 (lift (A2z B5y C2Z C7z))
noncomputable def F8Y:FuncId→Bool:=qadd F8X 140
theorem G78:aPG S78 F8Y:=G77.addQ E6m (cbl Tryz.f140) (fun _=>rfl)

abbrev G0n:List Sh:=.junk::F3t
abbrev u12:=((),u11)
noncomputable def C7K (s:ByteArray) (i:Nat):Bool:=C2H (bt s (i:Int))
abbrev C5C:List PSh:=[.t .str]
abbrev B1z:SS:=⟨(.t true .str::.junk::.junk::tI::G0n),[]⟩
abbrev D3X:SS:=⟨(.junk::.junk::.t true .bool::F4L),[]⟩
abbrev D3Y:SS:=⟨(.junk::E9D),[]⟩
noncomputable def C8M (x0:ByteArray) (x3:Int):RT B1z.den:=(.br (decide (x3<(x0.size:Int))) (.br (decide (0≤x3∧x3<(x0.size:Int))) (.br (!(C2H (bt x0 x3))) (.done .ret D3X (((),(),false,u13),())) (.next ((x0,(),(),wI (x3+(1:Int)),u12),()))) .fail) (.done (.exit 0) D3Y ((u16),())))
noncomputable def B8U (x0:ByteArray) (x3:Int):CT:=(.br (decide (0≤x3)&&okS x0) (.br (A4a (C7K x0) (x0.size - x3.toNat) x3.toNat) (.done (.exit 0) D3Y ((u16),())) (.done .ret D3X (((),(),false,u13),()))) .fail)
noncomputable abbrev B6E:B1z.den→RT B1z.den:=(fun d=>C8M d.1.1 d.1.2.2.2.1)
noncomputable abbrev D7W (x0:ByteArray) (x3:Int):B1z.den:=((x0,(),(),x3,u12),())
noncomputable def D0S:Code:=((C4 0 (A0y Tryz.f101)).getD 0 (0,.skip)).2
theorem E8x (x0:ByteArray) (x3:Int):(B8U x0 x3).val (D:=B1z.den)=.fail∨Runs B6E (D7W x0 x3) (B8U x0 x3).val:=by
 cases hc:(decide (0≤x3)&&okS x0) with
 | false=>left;simp only [B8U,CT.val,hc,cond_false]
 | true =>
  right
  simp only [B8U,CT.val,hc,cond_true]
  simp only [Bool.and_eq_true,decide_eq_true_eq] at hc
  obtain ⟨i,rfl⟩:=Int.eq_ofNat_of_zero_le hc.1
  have hs:=A6F hc.2
  simp only [Int.toNat_natCast]
  refine Runs.scan (fun j=>D7W x0 (j:Int)) (x0.size) (C7K x0) (fun i hi=>?_) (fun i hi=>?_) ⟨_,_,_,rfl,by simp⟩ ⟨_,_,_,rfl,by simp⟩ _ _ rfl
  ·
   have h0a:decide ((i:Int)<(x0.size:Int))=true:=decide_eq_true (by omega)
   have h0b:decide (0≤(i:Int)∧(i:Int)<(x0.size:Int))=true:=decide_eq_true (by omega)
   simp only [B6E,C8M,RT.val,h0a,h0b,cond_true,A6M i (by omega),Int.toNat_natCast]
   simp only [C7K]
   cases C2H (bt x0 (i:Int))<;>rfl
  ·have h1:decide ((i:Int)<(x0.size:Int))=false:=decide_eq_false (by omega)
   simp only [B6E,C8M,RT.val,h1,cond_false]
theorem E4W:RdA G78 aLn 0 D0S B1z 0 [] (kepts [2] [(0,[])]) (fun d=>(B6E d).opt 0 []):=by
 intro d
 kernel_rfl
noncomputable abbrev D4T:St→Option Tree:=B1z.say 0 [] [] (fun d=>B8U d.1.1 d.1.2.2.2.1)
theorem E6Y:aPL D4T D0S:=SS.wp2 hlz [] B6E E4W (fun d=>rfl) _ (fun d=>E8x d.1.1 d.1.2.2.2.1)
noncomputable def E1S (a0:ByteArray):Bool:=(cond (A4a (C7K a0) (a0.size - (0:Int).toNat) (0:Int).toNat) true false)
noncomputable abbrev D3i (r:Bool):AV×List AObj:=((.t true .bool r),[])
noncomputable abbrev D86:F5 C5C→AV×List AObj:=fun d=>D3i (E1S d.1)
noncomputable def D3D (a0:ByteArray):Bool:=okS a0
noncomputable abbrev D1K:F5 C5C→Bool:=fun d=>D3D d.1
noncomputable abbrev F2E:Nat→St→Option Tree:=fun b=>match b with | 0=>D4T | _=>fun _=>none
theorem F0d:A6Q true G78 (F2E) Tryz.f101 C5C D1K D86:=by
 rintro ⟨a0,_⟩ hp
 change D3D a0=true at hp
 unfold D3D at hp
 refine Eq.trans (b:=(cond (decide (0≤(0:Int))&&okS a0) (cond (A4a (C7K a0) (a0.size - (0:Int).toNat) (0:Int).toNat) (some (D3i true)) (some (D3i false))) none)) (by kernel_rfl) ?_
 exact (A6T (by first | rfl | decide | exact hp | (simp only [Bool.and_eq_true] at hp;simp only [hp];done) | (simp [*];done) | (simp [okL] at hp;simp [okL,MAXB];omega) | (simp_all;done) | (simp at *;omega)) (fun _h=>(L7 D3i (fun _h=>rfl) (fun _h=>rfl))))
theorem F20:aPP 101 (A2z C5C D1K D86):=pcD true G78 (hl1 (i:=0) (by kernel_rfl) E6Y) F0d
noncomputable def S79:Tab:=Tab.add S78 101 (lift (A2z C5C D1K D86))
noncomputable def F8Z:FuncId→Bool:=qadd F8Y 101
theorem G79:aPG S79 F8Z:=G78.addQ F20 (cbl Tryz.f101) (fun _=>rfl)

abbrev D0t:List PSh:=[.t .str]
noncomputable def C4P (a0:ByteArray):Bool:=(cond (M4 (a0.size:Int) (1:Int) (12:Int)) (E1S a0) false)
noncomputable abbrev D7l (r:Bool):AV×List AObj:=((.t true .bool r),[])
noncomputable abbrev E2z:F5 D0t→AV×List AObj:=fun d=>D7l (C4P d.1)
noncomputable def D8b (a0:ByteArray):Bool:=okS a0
noncomputable abbrev D6f:F5 D0t→Bool:=fun d=>D8b d.1
theorem F1V:A6Q true G79 aLn Tryz.f55 D0t D6f E2z:=by
 rintro ⟨a0,_⟩ hp
 change D8b a0=true at hp
 unfold D8b at hp
 refine Eq.trans (b:=(cond (M4 (a0.size:Int) (1:Int) (12:Int)) (cond (D3D a0) (some (D7l (E1S a0))) none) (some (D7l false)))) (by kernel_rfl) ?_
 exact (L7 D7l (fun _h=>(A6T (by first | rfl | decide | exact hp | (simp only [Bool.and_eq_true] at hp;simp only [hp];done) | (simp [*];done) | (simp [okL] at hp;simp [okL,MAXB];omega) | (simp_all;done) | (simp at *;omega)) (fun _h=>rfl))) (fun _h=>rfl))
theorem F4e:aPP 55 (A2z D0t D6f E2z):=pcD true G79 hlz F1V
noncomputable def S80:Tab:=Tab.add S79 55 (lift (A2z D0t D6f E2z))
noncomputable def F80:FuncId→Bool:=qadd F8Z 55
theorem G80:aPG S80 F80:=G79.addQ F4e (cbl Tryz.f55) (fun _=>rfl)

abbrev D63:List PSh:=[.agg [(.int .i64),.str,.str]]
noncomputable def E2V (a0:Int) (a1 a2:ByteArray):Bool:=let z1:=decide ((a2.size:Int)≤(20:Int));(cond (a0==(1:Int)) (cond (C4P a1) z1 false) (cond (a0==(3:Int)) (cond (C4P a1) z1 false) (cond (a0==(2:Int)) (cond (C4P a1) (a2.toList==bE.toList) false) false)))
noncomputable abbrev B2D (r:Bool):AV×List AObj:=((.t true .bool r),[])
noncomputable abbrev E6D:F5 D63→AV×List AObj:=fun d=>B2D (E2V d.1.1 d.1.2.1 d.1.2.2.1)
noncomputable def D3E (a0:Int) (a1 a2:ByteArray):Bool:=okS a1
noncomputable abbrev D9C:F5 D63→Bool:=fun d=>D3E d.1.1 d.1.2.1 d.1.2.2.1
theorem F3H:A6Q true G80 aLn Tryz.f21 D63 D9C E6D:=by
 rintro ⟨⟨a0,⟨a1,⟨a2,_⟩⟩⟩,_⟩ hp
 change D3E a0 a1 a2=true at hp
 unfold D3E at hp
 refine Eq.trans (b:=(let z1:=B2D (decide ((a2.size:Int)≤(20:Int)));let z2:=D8b a1;cond (a0==(1:Int)) (cond z2 (cond (C4P a1) (some z1) (some (B2D false))) none) (cond (a0==(3:Int)) (cond z2 (cond (C4P a1) (some z1) (some (B2D false))) none) (cond (a0==(2:Int)) (cond z2 (cond (C4P a1) (some (B2D (a2.toList==(⟨#[]⟩:ByteArray).toList))) (some (B2D false))) none) (some (B2D false)))))) (by kernel_rfl) ?_
 exact (L7 B2D (fun _h=>(A6T (by first | rfl | decide | exact hp | (simp only [Bool.and_eq_true] at hp;simp only [hp];done) | (simp [*];done) | (simp [okL] at hp;simp [okL,MAXB];omega) | (simp_all;done) | (simp at *;omega)) (fun _h=>(L7 B2D (fun _h=>rfl) (fun _h=>rfl))))) (fun _h=>(L7 B2D (fun _h=>(A6T (by first | rfl | decide | exact hp | (simp only [Bool.and_eq_true] at hp;simp only [hp];done) | (simp [*];done) | (simp [okL] at hp;simp [okL,MAXB];omega) | (simp_all;done) | (simp at *;omega)) (fun _h=>(L7 B2D (fun _h=>rfl) (fun _h=>rfl))))) (fun _h=>(L7 B2D (fun _h=>(A6T (by first | rfl | decide | exact hp | (simp only [Bool.and_eq_true] at hp;simp only [hp];done) | (simp [*];done) | (simp [okL] at hp;simp [okL,MAXB];omega) | (simp_all;done) | (simp at *;omega)) (fun _h=>(L7 B2D (fun _h=>rfl) (fun _h=>rfl))))) (fun _h=>rfl))))))
theorem F5y:aPP 21 (A2z D63 D9C E6D):=pcD true G80 hlz F3H
noncomputable def S81:Tab:=Tab.add S80 21 (lift (A2z D63 D9C E6D))
noncomputable def F81:FuncId→Bool:=qadd F80 21
theorem G81:aPG S81 F81:=G80.addQ F5y (cbl Tryz.f21) (fun _=>rfl)

abbrev F7C:List Sh:=.junk::F7B
abbrev u32:=((),u31)
abbrev F7r:List AV:=.junk::F7q
noncomputable def E0k (l:Lq2) (i:Nat):Bool:=let z1:=l.getD i dOp;let z2:=l.getD (i - 1) dOp;E2V z1.1 z1.2.1 z1.2.2&&(decide (i=0)||!(Op.bytesLess z1.2.1.toList z2.2.1.toList||(z1.2.1.toList==z2.2.1.toList)))
abbrev D0v:List PSh:=[.t tq7]
abbrev A9T:SS:=⟨(.t false tq7::.junk::.junk::.junk::.junk::.t false tq7::tI::tI::D7E),[]⟩
abbrev C64:SS:=⟨(.junk::.junk::.t true .bool::F7C),[]⟩
abbrev D6O:SS:=⟨(.t false tq7::E9F),[]⟩
noncomputable def D2R (x0 x5:Lq2) (x6 x7:Int):RT A9T.den:=let z1:=x5.getD x7.toNat ((0:Int),(bE,bE));let z2:=wI (x7 - (1:Int));let z3:=((x0.getD (z2.toNat) ((0:Int),(bE,bE))).2).1;(.br (decide (x7<x6)) (.br (decide (0≤x7∧x7<(x5.length:Int))) (.br (D3E (z1.1) ((z1.2).1) ((z1.2).2)) (.br (!(E2V (z1.1) ((z1.2).1) ((z1.2).2))) (.done .ret C64 (((),(),false,u32),())) (.br (decide (x7 > (0:Int))) (.br (decide (0≤z2∧z2<(x0.length:Int))) (.br (Op.bytesLess ((z1.2).1).toList z3.toList||(((z1.2).1).toList==z3.toList)) (.done .ret C64 (((),(),false,u32),())) (.next ((x0,(),(),(),(),x5,x6,wI (x7+(1:Int)),u27),()))) .fail) (.next ((x0,(),(),(),(),x5,x6,wI (x7+(1:Int)),u27),())))) .fail) .fail) (.done (.exit 0) D6O ((x0,u34),())))
noncomputable def C16 (x0 x5:Lq2) (x6 x7:Int):CT:=(.br (decide (0≤x7)&&(decide (x6=(x5.length:Int))&&(decide (x5=x0)&&Q9 x5))) (.br (A4a (E0k x5) (x5.length - x7.toNat) x7.toNat) (.done (.exit 0) D6O ((x0,u34),())) (.done .ret C64 (((),(),false,u32),()))) .fail)
noncomputable abbrev C3P {α:Sort _} (f:Lq2→Lq2→Int→Int→α) (d:A9T.den):α:=f d.1.1 d.1.2.2.2.2.2.1 d.1.2.2.2.2.2.2.1 d.1.2.2.2.2.2.2.2.1
noncomputable abbrev B9p:A9T.den→RT A9T.den:=(C3P D2R)
noncomputable abbrev E0B (x0 x5:Lq2) (x6 x7:Int):A9T.den:=((x0,(),(),(),(),x5,x6,x7,u27),())
noncomputable def D4j:Code:=((C4 0 (A0y Tryz.f9)).getD 0 (0,.skip)).2
theorem F0X (x0 x5:Lq2) (x6 x7:Int):(C16 x0 x5 x6 x7).val (D:=A9T.den)=.fail∨Runs B9p (E0B x0 x5 x6 x7) (C16 x0 x5 x6 x7).val:=by
 cases hc:(decide (0≤x7)&&(decide (x6=(x5.length:Int))&&(decide (x5=x0)&&Q9 x5))) with
 | false=>left;simp only [C16,CT.val,hc,cond_false]
 | true =>
  right
  simp only [C16,CT.val,hc,cond_true]
  simp only [Bool.and_eq_true,decide_eq_true_eq] at hc
  obtain ⟨i,rfl⟩:=Int.eq_ofNat_of_zero_le hc.1
  obtain ⟨_,e6,e5,hc⟩:=hc
  subst e5;subst e6
  have hs:=A7a hc
  simp only [Int.toNat_natCast]
  refine Runs.scan (fun j=>E0B x5 x5 (x5.length:Int) (j:Int)) (x5.length) (E0k x5) (fun i hi=>?_) (fun i hi=>?_) ⟨_,_,_,rfl,by simp⟩ ⟨_,_,_,rfl,by simp⟩ _ _ rfl
  ·
   have h0a:decide ((i:Int)<(x5.length:Int))=true:=decide_eq_true (by omega)
   have h0b:decide (0≤(i:Int)∧(i:Int)<(x5.length:Int))=true:=decide_eq_true (by omega)
   simp only [B9p,D2R,RT.val,h0a,h0b,cond_true,A6M i (by omega),Int.toNat_natCast]
   have hq:D3E (x5.getD i dOp).1 (x5.getD i dOp).2.1 (x5.getD i dOp).2.2=true:=(E9W hc i hi).1
   simp only [dOp] at hq
   simp only [hq,cond_true,E0k,dOp]
   cases E2V (x5.getD i ((0:Int),((⟨#[]⟩:ByteArray),(⟨#[]⟩:ByteArray)))).1 (x5.getD i ((0:Int),((⟨#[]⟩:ByteArray),(⟨#[]⟩:ByteArray)))).2.1 (x5.getD i ((0:Int),((⟨#[]⟩:ByteArray),(⟨#[]⟩:ByteArray)))).2.2 with
   | false=>rfl
   | true =>
    cases i with
    | zero=>rfl
    | succ i =>
     have h3:decide (((i+1:Nat):Int) > 0)=true:=decide_eq_true (by omega)
     have h4:wI (((i+1:Nat):Int) - 1)=(i:Int):=by have:=A50 (n:=((i+1:Nat):Int) - 1) (by omega) (by omega);omega
     have h5:decide (0≤(i:Int)∧(i:Int)<(x5.length:Int))=true:=decide_eq_true (by omega)
     have h6:decide (i+1=0)=false:=by simp
     simp only [h3,h4,h5,h6,cond_true,Bool.true_and,Bool.false_or,Int.toNat_natCast,Nat.add_sub_cancel,Bool.not_true,cond_false]
     cases (Op.bytesLess (x5.getD (i+1) ((0:Int),((⟨#[]⟩:ByteArray),(⟨#[]⟩:ByteArray)))).2.1.toList (x5.getD i ((0:Int),((⟨#[]⟩:ByteArray),(⟨#[]⟩:ByteArray)))).2.1.toList||((x5.getD (i+1) ((0:Int),((⟨#[]⟩:ByteArray),(⟨#[]⟩:ByteArray)))).2.1.toList==(x5.getD i ((0:Int),((⟨#[]⟩:ByteArray),(⟨#[]⟩:ByteArray)))).2.1.toList))<;>rfl
  ·have h1:decide ((i:Int)<(x5.length:Int))=false:=decide_eq_false (by omega)
   simp only [B9p,D2R,RT.val,h1,cond_false]
noncomputable def E0v (x0 x5:Lq2) (x6 x7:Int):Option (Ex×St):=let z1:=x5.getD x7.toNat ((0:Int),(bE,bE));let z2:=(⟨((.t false tq7 x0)::.junk::.junk::.junk::.junk::(.t false tq7 x5)::(ti x6)::(ti (wI (x7+(1:Int))))::F7p),[],0,[]⟩:St);let z3:=wI (x7 - (1:Int));let z4:=(⟨(.junk::.junk::(.t true .bool false)::F7r),[],0,[]⟩:St);let z5:=((x0.getD (z3.toNat) ((0:Int),(bE,bE))).2).1;(cond (decide (x7<x6)) (cond (decide (0≤x7∧x7<(x5.length:Int))) (cond (D3E (z1.1) ((z1.2).1) ((z1.2).2)) (cond (!(E2V (z1.1) ((z1.2).1) ((z1.2).2))) (some (.ret,z4)) (cond (decide (x7 > (0:Int))) (cond (decide (0≤z3∧z3<(x0.length:Int))) (cond (Op.bytesLess ((z1.2).1).toList z5.toList||(((z1.2).1).toList==z5.toList)) (some (.ret,z4)) (some (.normal,z2))) none) (some (.normal,z2)))) none) none) (some ((.exit 0),(⟨((.t false tq7 x0)::F1F),[],0,[]⟩:St))))
theorem E7h:RdA G81 aLn 0 D4j A9T 0 [] (kepts [2] [(0,[0])]) (C3P E0v):=by
 intro d
 kernel_rfl
theorem E7u:∀ d:A9T.den,(C3P E0v) d=(B9p d).opt 0 []:=by
 intro d
 kernel_rfl
noncomputable abbrev D8r:St→Option Tree:=A9T.say 0 [] [] (C3P C16)
theorem E9L:aPL D8r D4j:=SS.wp2 hlz [] B9p E7h E7u _ (fun d=>F0X d.1.1 d.1.2.2.2.2.2.1 d.1.2.2.2.2.2.2.1 d.1.2.2.2.2.2.2.2.1)
noncomputable def B7w (a0:Lq2):Bool:=(cond (A4a (E0k a0) (a0.length - (0:Int).toNat) (0:Int).toNat) (M4 (a0.length:Int) (1:Int) (8:Int)) false)
noncomputable abbrev D7n (r:Bool):AV×List AObj:=((.t true .bool r),[])
noncomputable abbrev E2B:F5 D0v→AV×List AObj:=fun d=>D7n (B7w d.1)
noncomputable def B0u (a0:Lq2):Bool:=Q9 a0
noncomputable abbrev D6h:F5 D0v→Bool:=fun d=>B0u d.1
noncomputable abbrev F3Z:Nat→St→Option Tree:=fun b=>match b with | 0=>D8r | _=>fun _=>none
theorem F1X:A6Q true G81 (F3Z) Tryz.f9 D0v D6h E2B:=by
 rintro ⟨a0,_⟩ hp
 change B0u a0=true at hp
 unfold B0u at hp
 refine Eq.trans (b:=(cond (decide (0≤(0:Int))&&(decide ((a0.length:Int)=(a0.length:Int))&&(decide (a0=a0)&&Q9 a0))) (cond (A4a (E0k a0) (a0.length - (0:Int).toNat) (0:Int).toNat) (some (D7n (M4 (a0.length:Int) (1:Int) (8:Int)))) (some (D7n false))) none)) (by kernel_rfl) ?_
 exact (A6T (by first | rfl | decide | exact hp | (simp only [Bool.and_eq_true] at hp;simp only [hp];done) | (simp [*];done) | (simp [okL] at hp;simp [okL,MAXB];omega) | (simp_all;done) | (simp at *;omega)) (fun _h=>(L7 D7n (fun _h=>rfl) (fun _h=>rfl))))
theorem F4g:aPP 9 (A2z D0v D6h E2B):=pcD true G81 (hl1 (i:=0) (by kernel_rfl) E9L) F1X
noncomputable def S82:Tab:=Tab.add S81 9 (lift (A2z D0v D6h E2B))
noncomputable def F82:FuncId→Bool:=qadd F81 9
theorem G82:aPG S82 F82:=G81.addQ F4g (cbl Tryz.f9) (fun _=>rfl)

abbrev D60:List PSh:=[.t .str]
abbrev B7d:SS:=⟨(.t true .str::.junk::.junk::.t true (.int .u32)::tI::F3u),[]⟩
abbrev D95:SS:=⟨(.junk::.junk::.junk::.t true (.int .u32)::E9E),[]⟩
noncomputable def E4a (x0:ByteArray) (x3 x4:Int):RT B7d.den:=(.br (decide (x4<(x0.size:Int))) (.br (decide (0≤x4∧x4<(x0.size:Int))) (.next ((x0,(),(),IntKind.wrap .u32 ((ixor .u32 x3 (IntKind.wrap .u32 (bt x0 x4)))*(16777619:Int)),wI (x4+(1:Int)),u17),())) .fail) (.done (.exit 0) D95 (((),(),(),x3,u18),())))
abbrev C5Y:=(ByteArray)×(Int)×(Int)
abbrev C5h:=Nat×(Int)
def D5z:C5h:=(99,((0:Int):Int))
noncomputable def C3x (x0:ByteArray) (x3 x4:Int):C5Y ⊕ C5h:=(cond (decide (x4<(x0.size:Int))) (cond (decide (0≤x4∧x4<(x0.size:Int))) (.inl (x0,IntKind.wrap .u32 ((ixor .u32 x3 (IntKind.wrap .u32 (bt x0 x4)))*(16777619:Int)),wI (x4+(1:Int)))) (.inr D5z)) (.inr (0,x3)))
noncomputable def C2I (x0:ByteArray) (x3 x4:Int):C5h:=itX (fun v:C5Y=>C3x v.1 v.2.1 v.2.2) D5z (x0,x3,x4)
noncomputable def D5u (a:C5h):CT:=(.br (a.1==0) (.done (.exit 0) D95 (((),(),(),a.2,u18),())) .fail)
noncomputable def F2S (x0:ByteArray) (x3 x4:Int):CT:=D5u (C2I x0 x3 x4)
noncomputable abbrev D6J:B7d.den→RT B7d.den:=(fun d=>E4a d.1.1 d.1.2.2.2.1 d.1.2.2.2.2.1)
noncomputable def D7e:Code:=((C4 0 (A0y Tryz.f169)).getD 0 (0,.skip)).2
noncomputable abbrev E3j (v:C5Y):B7d.den:=((v.1,(),(),v.2.1,v.2.2,u17),())
theorem F1R:(∀ v:C5Y,(E4a v.1 v.2.1 v.2.2).val=A5T E3j D5u (C3x v.1 v.2.1 v.2.2))∧∀ a:C5h,CEnd B7d.den (D5u a):=⟨fun v=>(A6V (A6V rfl rfl) rfl),fun a=>(A6I aCD A6K)⟩
theorem E90:RdA G82 aLn 0 D7e B7d 0 [] (kepts [] [(0,[3])]) (fun d=>(D6J d).opt 0 []):=by
 intro d
 kernel_rfl
noncomputable abbrev E0P:St→Option Tree:=B7d.say 0 [] [] (fun d=>F2S d.1.1 d.1.2.2.2.1 d.1.2.2.2.2.1)
theorem F1L:aPL E0P D7e:=SS.wp2 hlz [] D6J E90 (fun d=>rfl) _ (fun d=>Runs.ofI2 (step:=D6J) E3j F1R rfl (d.1.1,d.1.2.2.2.1,d.1.2.2.2.2.1))
noncomputable def F2s (a0:ByteArray):Int:=(wI ((C2I a0 (2166136261:Int) (0:Int)).2))
noncomputable abbrev F2o (r:Int):AV×List AObj:=((ti r),[])
noncomputable abbrev E6A:F5 D60→AV×List AObj:=fun d=>F2o (F2s d.1)
noncomputable def D3C (a0:ByteArray):Bool:=((C2I a0 (2166136261:Int) (0:Int)).1==0)
noncomputable abbrev D9z:F5 D60→Bool:=fun d=>D3C d.1
noncomputable abbrev F5p:Nat→St→Option Tree:=fun b=>match b with | 0=>E0P | _=>fun _=>none
theorem F3E:A6Q true G82 (F5p) Tryz.f169 D60 D9z E6A:=by
 rintro ⟨a0,_⟩ hp
 change D3C a0=true at hp
 unfold D3C at hp
 refine Eq.trans (b:=(let z1:=C2I a0 (2166136261:Int) (0:Int);cond (z1.1==0) (some (F2o (wI (z1.2)))) none)) (by kernel_rfl) ?_
 exact (A6T hp fun _h=>rfl)
theorem F5v:aPP 169 (A2z D60 D9z E6A):=pcD true G82 (hl1 (i:=0) (by kernel_rfl) F1L) F3E
noncomputable def S83:Tab:=Tab.add S82 169 (lift (A2z D60 D9z E6A))
noncomputable def F83:FuncId→Bool:=qadd F82 169
theorem G83:aPG S83 F83:=G82.addQ F5v (cbl Tryz.f169) (fun _=>rfl)

abbrev C1F:List PSh:=[.t .str,.t (.int .i64)]
noncomputable def C2G (a0:ByteArray) (a1:Int):Int:=(cond (decide (a1<(1:Int))) (0:Int) (Int.tmod (F2s a0) a1))
noncomputable abbrev C7p (r:Int):AV×List AObj:=((ti r),[])
noncomputable abbrev D5D:F5 C1F→AV×List AObj:=fun d=>C7p (C2G d.1 d.2.1)
noncomputable def B4t (a0:ByteArray) (a1:Int):Bool:=cond (decide (a1<(1:Int))) true ((D3C a0)&&(decide (a1 ≠ 0)))
noncomputable abbrev C70:F5 C1F→Bool:=fun d=>B4t d.1 d.2.1
theorem E7M:A6Q true G83 aLn Tryz.f129 C1F C70 D5D:=by
 rintro ⟨a0,⟨a1,_⟩⟩ hp
 change B4t a0 a1=true at hp
 unfold B4t at hp
 refine Eq.trans (b:=(cond (decide (a1<(1:Int))) (some (C7p (0:Int))) (cond (D3C a0) (cond (decide (a1 ≠ 0)) (some (C7p (Int.tmod (F2s a0) a1))) none) none))) (by kernel_rfl) ?_
 exact (H7 C7p hp (fun hp=>rfl) (fun hp=>(A6R hp fun hp=>(A6T hp fun _h=>rfl))))
theorem F1d:aPP 129 (A2z C1F C70 D5D):=pcD true G83 hlz E7M
noncomputable def S84:Tab:=Tab.add S83 129 (lift (A2z C1F C70 D5D))
noncomputable def F84:FuncId→Bool:=qadd F83 129
theorem G84:aPG S84 F84:=G83.addQ F1d (cbl Tryz.f129) (fun _=>rfl)

noncomputable def S85:Tab:=Tab.add S84 130 (win E7 A47)
noncomputable def F85:FuncId→Bool:=F84
theorem G85:aPG S85 F85:=G84.addM F3n (A6r _) ⟨Tryz.f130,by kernel_rfl,by kernel_rfl,by kernel_rfl⟩ (by kernel_rfl)

noncomputable def S86:Tab:=Tab.add S85 132 (win E7 A2Q)
noncomputable def F86:FuncId→Bool:=F85
theorem G86:aPG S86 F86:=G85.addM E6k (A6r _) ⟨Tryz.f132,by kernel_rfl,by kernel_rfl,by kernel_rfl⟩ (by kernel_rfl)

abbrev A9Q:SS:=⟨[.arr 0 1],[.rows 3 true (.int .i64)]⟩
noncomputable def B38 (x0a x0b:Nat) (h0:List Int):Nat×Nat×List Int:=(x0a,((x0b:Nat):Int).toNat,h0)
noncomputable abbrev C31 (r:Nat×Nat×List Int):AV×List AObj×List Nat:=((.arr 0 1 r.1 r.2.1),[(.rows 3 true (.int .i64) r.2.2)],[])
noncomputable abbrev C38:A9Q.den→AV×List AObj×List Nat:=fun d=>C31 (B38 d.1.1.1 d.1.1.2 d.2.1)
noncomputable def A7e (x0a x0b:Nat) (h0:List Int):Bool:=decide (0≤((x0b:Nat):Int)∧((x0b:Nat):Int)≤((x0b:Nat):Int)∧((x0b:Nat):Int)≤((x0b:Nat):Int))
noncomputable abbrev C0k:A9Q.den→Bool:=fun d=>A7e d.1.1.1 d.1.1.2 d.2.1
theorem D3W:A6P G86 aLn Tryz.f131 A9Q C0k C38:=by
 rintro ⟨⟨⟨x0a,x0b⟩,_⟩,⟨h0,_⟩⟩ hp
 change A7e x0a x0b h0=true at hp
 unfold A7e at hp
 refine Eq.trans (b:=(cond (decide (0≤((x0b:Nat):Int)∧((x0b:Nat):Int)≤((x0b:Nat):Int)∧((x0b:Nat):Int)≤((x0b:Nat):Int))) (some (C31 (x0a,((x0b:Nat):Int).toNat,h0))) none)) (by kernel_rfl) ?_
 exact (A6T hp fun _h=>rfl)
noncomputable abbrev C4h:=win E7 (msum A9Q C0k C38)
theorem D7j:aPM 131 C4h:=(mcM G86 hlz D3W).win E7
noncomputable def S87:Tab:=Tab.add S86 131 (C4h)
noncomputable def F87:FuncId→Bool:=F86
theorem G87:aPG S87 F87:=G86.addM D7j (A6r _) (cbl Tryz.f131) (by kernel_rfl)

abbrev B8H:List PSh:=[.t tq7,.t (.int .i64)]
abbrev A7H:SS:=⟨(.junk::tI::.junk::.junk::.junk::.all 0 1::.junk::.junk::.t false tq7::tI::tI::F3u),[.rows 3 true (.int .i64)]⟩
abbrev C8Q:SS:=⟨(.junk::.junk::.junk::.junk::.junk::.all 0 1::B9R),[.rows 3 true (.int .i64)]⟩
noncomputable def C7N (x1:Int) (x8:Lq2) (x10:Int):=C2G (((x8.getD x10.toNat ((0:Int),(bE,bE))).2).1) x1
noncomputable def D2S (x1:Int) (x8:Lq2) (x9 x10:Int) (h0:List Int):RT A7H.den:=let z1:=C7N x1 x8 x10;(.br (decide (x10<x9)) (.br (decide (0≤x10∧x10<(x8.length:Int))) (.br (B4t (((x8.getD x10.toNat ((0:Int),(bE,bE))).2).1) x1) (.br (decide ((h0.length+[z1].length)*8≤MAXB)) (.next (((),x1,(),(),(),(),(),(),x8,x9,wI (x10+(1:Int)),u17),(h0++[z1],()))) .fail) .fail) .fail) (.done (.exit 0) C8Q ((u28),(h0,()))))
abbrev B3B:=(Int)×Lq2×(Int)×(Int)×(List Int)
abbrev B0E:=Nat×(List Int)
def B51:B0E:=(99,([]:List Int))
noncomputable def B6H (x1:Int) (x8:Lq2) (x9 x10:Int) (h0:List Int):B3B ⊕ B0E:=let z1:=C7N x1 x8 x10;(cond (decide (x10<x9)) (cond (decide (0≤x10∧x10<(x8.length:Int))) (cond (B4t (((x8.getD x10.toNat ((0:Int),(bE,bE))).2).1) x1) (cond (decide ((h0.length+[z1].length)*8≤MAXB)) (.inl (x1,x8,x9,wI (x10+(1:Int)),h0++[z1])) (.inr B51)) (.inr B51)) (.inr B51)) (.inr (0,h0)))
noncomputable def B12 (x1:Int) (x8:Lq2) (x9 x10:Int) (h0:List Int):B0E:=itX (fun v:B3B=>B6H v.1 v.2.1 v.2.2.1 v.2.2.2.1 v.2.2.2.2) B51 (x1,x8,x9,x10,h0)
noncomputable def C2j (a:B0E):CT:=(.br (a.1==0) (.done (.exit 0) C8Q ((u28),(a.2,()))) .fail)
noncomputable def E4q (x1:Int) (x8:Lq2) (x9 x10:Int) (h0:List Int):CT:=C2j (B12 x1 x8 x9 x10 h0)
noncomputable abbrev D0P {α:Sort _} (f:Int→Lq2→Int→Int→(List Int)→α) (d:A7H.den):α:=f d.1.2.1 d.1.2.2.2.2.2.2.2.2.1 d.1.2.2.2.2.2.2.2.2.2.1 d.1.2.2.2.2.2.2.2.2.2.2.1 d.2.1
noncomputable abbrev C3j:A7H.den→RT A7H.den:=(D0P D2S)
noncomputable def C50:Code:=((C4 0 (A0y Tryz.f94)).getD 0 (0,.skip)).2
noncomputable abbrev D16 (v:B3B):A7H.den:=(((),v.1,(),(),(),(),(),(),v.2.1,v.2.2.1,v.2.2.2.1,u17),(v.2.2.2.2,()))
theorem E3H:(∀ v:B3B,(D2S v.1 v.2.1 v.2.2.1 v.2.2.2.1 v.2.2.2.2).val=A5T D16 C2j (B6H v.1 v.2.1 v.2.2.1 v.2.2.2.1 v.2.2.2.2))∧∀ a:B0E,CEnd A7H.den (C2j a):=⟨fun v=>(A6V (A6V (A6V (A6V rfl rfl) rfl) rfl) rfl),fun a=>(A6I aCD A6K)⟩
theorem E1i:RdA G87 aLn 0 C50 A7H 0 [] (kepts [] [(0,[5])]) (fun d=>(C3j d).opt 0 []):=by
 intro d
 kernel_rfl
noncomputable abbrev C9F:St→Option Tree:=A7H.say 0 [] [(5,3,(.int .i64))] (D0P E4q)
theorem E20:aPL C9F C50:=SS.wp2 hlz [(5,3,(.int .i64))] C3j E1i (fun d=>rfl) _ (fun d=>Runs.ofI2 (step:=C3j) D16 E3H rfl (d.1.2.1,d.1.2.2.2.2.2.2.2.2.1,d.1.2.2.2.2.2.2.2.2.2.1,d.1.2.2.2.2.2.2.2.2.2.2.1,d.2.1))
noncomputable def C0Y (a0:Lq2) (a1:Int):=E9a (A46 ((B12 a1 a0 (a0.length:Int) (0:Int) ([]:List Int)).2))
noncomputable def C1j (a0:Lq2) (a1:Int):List Int:=let z2:=C0Y a0 a1;let z1:=B38 0 (z2.1) (z2.2);(((z1.2.2).drop (z1.1)).take (z1.2.1))
noncomputable abbrev E0b (r:List Int):AV×List AObj:=((.t true A9x r),[])
noncomputable abbrev D1h:F5 B8H→AV×List AObj:=fun d=>E0b (C1j d.1 d.2.1)
noncomputable def A9F (a0:Lq2) (a1:Int):Bool:=let z1:=B12 a1 a0 (a0.length:Int) (0:Int) ([]:List Int);let z2:=C0Y a0 a1;(z1.1==0)&&((D8c (z1.2))&&((D8c (A46 (z1.2)))&&(A7e 0 (z2.1) (z2.2))))
noncomputable abbrev C4Q:F5 B8H→Bool:=fun d=>A9F d.1 d.2.1
noncomputable abbrev E8l:Nat→St→Option Tree:=fun b=>match b with | 0=>C9F | _=>fun _=>none
theorem E5p:A6Q true G87 (E8l) Tryz.f94 B8H C4Q D1h:=by
 rintro ⟨a0,⟨a1,_⟩⟩ hp
 change A9F a0 a1=true at hp
 unfold A9F at hp
 refine Eq.trans (b:=(let z2:=B12 a1 a0 (a0.length:Int) (0:Int) ([]:List Int);let z3:=C0Y a0 a1;let z1:=B38 0 (z3.1) (z3.2);cond (z2.1==0) (cond (D8c (z2.2)) (cond (D8c (A46 (z2.2))) (cond (A7e 0 (z3.1) (z3.2)) (some (E0b (((z1.2.2).drop (z1.1)).take (z1.2.1)))) none) none) none) none)) (by kernel_rfl) ?_
 exact (A6R hp fun hp=>(A6R hp fun hp=>(A6R hp fun hp=>(A6T hp fun _h=>rfl))))
theorem E8S:aPP 94 (A2z B8H C4Q D1h):=pcD true G87 (hl1 (i:=0) (by kernel_rfl) E20) E5p
noncomputable def S88:Tab:=Tab.add S87 94 (lift (A2z B8H C4Q D1h))
noncomputable def F88:FuncId→Bool:=qadd F87 94
theorem G88:aPG S88 F88:=G87.addQ E8S (cbl Tryz.f94) (fun _=>rfl)

abbrev A7V:List PSh:=[.t A9x,.t (.int .i64)]
abbrev O5:SS:=⟨(.t false A9x::tI::.junk::.junk::.junk::.junk::.junk::tI::tI::F3t),[]⟩
abbrev B5v:SS:=⟨(.junk::.junk::.junk::.junk::tI::E9D),[]⟩
abbrev B5w:SS:=⟨(.junk::D1v),[]⟩
noncomputable def B66 (x0:List Int) (x1 x7 x8:Int):RT O5.den:=(.br (decide (x8<x7)) (.br (decide (0≤x8∧x8<(x0.length:Int))) (.br (x1==(x0.getD x8.toNat (0:Int))) (.done .ret B5v (((),(),(),(),x8,u15),())) (.next ((x0,x1,(),(),(),(),(),x7,wI (x8+(1:Int)),u11),()))) .fail) (.done (.exit 0) B5w ((u20),())))
abbrev A8z:=(List Int)×(Int)×(Int)×(Int)
abbrev A0j:=Nat×(Int)
def B60:A0j:=(99,((0:Int):Int))
noncomputable def A8h (x0:List Int) (x1 x7 x8:Int):A8z ⊕ A0j:=(cond (decide (x8<x7)) (cond (decide (0≤x8∧x8<(x0.length:Int))) (cond (x1==(x0.getD x8.toNat (0:Int))) (.inr (0,x8)) (.inl (x0,x1,x7,wI (x8+(1:Int))))) (.inr B60)) (.inr (1,((0:Int):Int))))
noncomputable def Z0 (x0:List Int) (x1 x7 x8:Int):A0j:=itX (fun v:A8z=>A8h v.1 v.2.1 v.2.2.1 v.2.2.2) B60 (x0,x1,x7,x8)
noncomputable def B0T (a:A0j):CT:=(.br (a.1==0) (.done .ret B5v (((),(),(),(),a.2,u15),())) (.br (a.1==1) (.done (.exit 0) B5w ((u20),())) .fail))
noncomputable def D0O (x0:List Int) (x1 x7 x8:Int):CT:=B0T (Z0 x0 x1 x7 x8)
noncomputable abbrev B6X {α:Sort _} (f:(List Int)→Int→Int→Int→α) (d:O5.den):α:=f d.1.1 d.1.2.1 d.1.2.2.2.2.2.2.2.1 d.1.2.2.2.2.2.2.2.2.1
noncomputable abbrev B0Y:O5.den→RT O5.den:=(B6X B66)
noncomputable def B4U:Code:=((C4 0 (A0y Tryz.f133)).getD 0 (0,.skip)).2
noncomputable abbrev B63 (v:A8z):O5.den:=((v.1,v.2.1,(),(),(),(),(),v.2.2.1,v.2.2.2,u11),())
theorem D0b:(∀ v:A8z,(B66 v.1 v.2.1 v.2.2.1 v.2.2.2).val=A5T B63 B0T (A8h v.1 v.2.1 v.2.2.1 v.2.2.2))∧∀ a:A0j,CEnd O5.den (B0T a):=⟨fun v=>(A6V (A6V (A6V rfl rfl) rfl) rfl),fun a=>(A6I aCD (A6I aCD A6K))⟩
theorem C8t:RdA G88 aLn 0 B4U O5 0 [] (kepts [4] [(0,[])]) (fun d=>(B0Y d).opt 0 []):=by
 intro d
 kernel_rfl
noncomputable abbrev B6C:St→Option Tree:=O5.say 0 [] [] (B6X D0O)
theorem C97:aPL B6C B4U:=SS.wp2 hlz [] B0Y C8t (fun d=>rfl) _ (fun d=>Runs.ofI2 (step:=B0Y) B63 D0b rfl (d.1.1,d.1.2.1,d.1.2.2.2.2.2.2.2.1,d.1.2.2.2.2.2.2.2.2.1))
noncomputable def B2Z (a0:List Int) (a1:Int):Int:=let z1:=Z0 a0 a1 (a0.length:Int) (0:Int);(cond (z1.1==0) (z1.2) (-1:Int))
noncomputable abbrev A90 (r:Int):AV×List AObj:=((ti r),[])
noncomputable abbrev B4q:F5 A7V→AV×List AObj:=fun d=>A90 (B2Z d.1 d.2.1)
noncomputable def Z7 (a0:List Int) (a1:Int):Bool:=let z1:=Z0 a0 a1 (a0.length:Int) (0:Int);cond (z1.1==0) true (z1.1==1)
noncomputable abbrev B2f:F5 A7V→Bool:=fun d=>Z7 d.1 d.2.1
noncomputable abbrev D5j:Nat→St→Option Tree:=fun b=>match b with | 0=>B6C | _=>fun _=>none
theorem D2v:A6Q true G88 (D5j) Tryz.f133 A7V B2f B4q:=by
 rintro ⟨a0,⟨a1,_⟩⟩ hp
 change Z7 a0 a1=true at hp
 unfold Z7 at hp
 refine Eq.trans (b:=(let z1:=Z0 a0 a1 (a0.length:Int) (0:Int);cond (z1.1==0) (some (A90 (z1.2))) (cond (z1.1==1) (some (A90 (-1:Int))) none))) (by kernel_rfl) ?_
 exact (H7 A90 hp (fun hp=>rfl) (fun hp=>(A6T hp fun _h=>rfl)))
theorem D5t:aPP 133 (A2z A7V B2f B4q):=pcD true G88 (hl1 (i:=0) (by kernel_rfl) C97) D2v
noncomputable def S89:Tab:=Tab.add S88 133 (lift (A2z A7V B2f B4q))
noncomputable def F89:FuncId→Bool:=qadd F88 133
theorem G89:aPG S89 F89:=G88.addQ D5t (cbl Tryz.f133) (fun _=>rfl)

abbrev Y8:List PSh:=[.t A9x,.t (.int .i64)]
noncomputable def Y0 (a0:List Int) (a1:Int):Bool:=(decide ((B2Z a0 a1) ≥ (0:Int)))
noncomputable abbrev B6Z (r:Bool):AV×List AObj:=((.t true .bool r),[])
noncomputable abbrev B0U:F5 Y8→AV×List AObj:=fun d=>B6Z (Y0 d.1 d.2.1)
noncomputable def N7 (a0:List Int) (a1:Int):Bool:=Z7 a0 a1
noncomputable abbrev A9p:F5 Y8→Bool:=fun d=>N7 d.1 d.2.1
theorem C6O:A6Q true G89 aLn Tryz.f95 Y8 A9p B0U:=by
 rintro ⟨a0,⟨a1,_⟩⟩ hp
 change N7 a0 a1=true at hp
 unfold N7 at hp
 refine Eq.trans (b:=(cond (Z7 a0 a1) (some (B6Z (decide ((B2Z a0 a1) ≥ (0:Int))))) none)) (by kernel_rfl) ?_
 exact (A6T hp fun _h=>rfl)
theorem C92:aPP 95 (A2z Y8 A9p B0U):=pcD true G89 hlz C6O
noncomputable def S90:Tab:=Tab.add S89 95 (lift (A2z Y8 A9p B0U))
noncomputable def F9a:FuncId→Bool:=qadd F89 95
theorem G90:aPG S90 F9a:=G89.addQ C92 (cbl Tryz.f95) (fun _=>rfl)

abbrev G1u:List Sh:=.junk::.junk::.junk::F7I
abbrev G0z:List Sh:=.junk::.junk::.junk::.junk::.junk::.junk::.junk::.junk::.junk::.junk::.junk::.junk::.junk::.junk::.junk::F1G
abbrev F5V:List Sh:=.junk::G0z
abbrev u96:=((),(),(),(),(),(),(),(),(),(),(),(),(),(),u82)
abbrev G00:=((),(),(),(),(),u96)
abbrev G0k:List AV:=.junk::.junk::.junk::.junk::.junk::.junk::.junk::.junk::.junk::.junk::.junk::.junk::.junk::.junk::.junk::E9C
abbrev G1i:List AV:=.junk::.junk::.junk::F7u
abbrev F5T:List AV:=.junk::G0k
abbrev B3V:SS:=⟨[.ptr 0 0 1 0,.agg [.t true (.int .i64),.t false tq7,.t true (.int .i64),.t false A9x]],[.box [tI,tI,tI,.t false tq5,.t false K4,tI]]⟩
abbrev R0:SS:=⟨(.ptr 0 0 1 0::.junk::.junk::.ptr 1 0 1 0::.junk::.t true A9x::.junk::.junk::.junk::.junk::.junk::.junk::.junk::.junk::.junk::.junk::.junk::.junk::.junk::.junk::.junk::.junk::.junk::.junk::.junk::.junk::.junk::.junk::.junk::.junk::.junk::.junk::.junk::.junk::.junk::.t false A9x::tI::tI::G1u),[.box [tI,tI,tI,.t false tq5,.t false K4,tI],.box [tI,.t false tq7,tI,.t false A9x]]⟩
abbrev B4d:SS:=⟨(.junk::.junk::.junk::.junk::.t true .bool::G0z),[.box [tI,tI,tI,.t false tq5,.t false K4,tI]]⟩
abbrev C1v:SS:=⟨(.ptr 0 0 1 0::.junk::.junk::.ptr 1 0 1 0::F5V),[.box [tI,tI,tI,.t false tq5,.t false K4,tI],.box [tI,.t false tq7,tI,.t false A9x]]⟩
noncomputable def C4s (x5 x35:List Int) (x36 x37 p0 p1 p2:Int) (p3:LT1) (p4:LIbe) (p5 q0:Int) (q1:Lq2) (q2:Int) (q3:List Int):RT R0.den:=let z1:=wI (x37 - (1:Int));let z2:=x35.getD x37.toNat (0:Int);(.br (decide (x37<x36)) (.br (decide (0≤x37∧x37<(x35.length:Int))) (.br (N7 x5 z2) (.br (!(Y0 x5 z2)) (.done .ret B4d (((),(),(),(),false,u96),((p0,p1,p2,p3,p4,p5,()),()))) (.br (decide (x37 > (0:Int))) (.br (decide (0≤z1∧z1<(q3.length:Int))) (.br (decide (z2≤(q3.getD (z1.toNat) (0:Int)))) (.done .ret B4d (((),(),(),(),false,u96),((p0,p1,p2,p3,p4,p5,()),()))) (.next (((),(),(),(),(),x5,(),(),(),(),(),(),(),(),(),(),(),(),(),(),(),(),(),(),(),(),(),(),(),(),(),(),(),(),(),x35,x36,wI (x37+(1:Int)),u63),((p0,p1,p2,p3,p4,p5,()),(q0,q1,q2,q3,()),())))) .fail) (.next (((),(),(),(),(),x5,(),(),(),(),(),(),(),(),(),(),(),(),(),(),(),(),(),(),(),(),(),(),(),(),(),(),(),(),(),x35,x36,wI (x37+(1:Int)),u63),((p0,p1,p2,p3,p4,p5,()),(q0,q1,q2,q3,()),()))))) .fail) .fail) (.done (.exit 0) C1v ((G00),((p0,p1,p2,p3,p4,p5,()),(q0,q1,q2,q3,()),()))))
abbrev B2z:=(List Int)×(List Int)×(Int)×(Int)
abbrev A87:=Nat×(Bool)
def B07:A87:=(99,(false:Bool))
noncomputable def B1k (x5 x35:List Int) (x36 x37 p0 p1 p2:Int) (p3:LT1) (p4:LIbe) (p5 q0:Int) (q1:Lq2) (q2:Int) (q3:List Int):B2z ⊕ A87:=let z1:=wI (x37 - (1:Int));let z2:=x35.getD x37.toNat (0:Int);(cond (decide (x37<x36)) (cond (decide (0≤x37∧x37<(x35.length:Int))) (cond (N7 x5 z2) (cond (!(Y0 x5 z2)) (.inr (0,false)) (cond (decide (x37 > (0:Int))) (cond (decide (0≤z1∧z1<(q3.length:Int))) (cond (decide (z2≤(q3.getD (z1.toNat) (0:Int)))) (.inr (0,false)) (.inl (x5,x35,x36,wI (x37+(1:Int))))) (.inr B07)) (.inl (x5,x35,x36,wI (x37+(1:Int)))))) (.inr B07)) (.inr B07)) (.inr (1,(false:Bool))))
noncomputable def B6c (x5 x35:List Int) (x36 x37 p0 p1 p2:Int) (p3:LT1) (p4:LIbe) (p5 q0:Int) (q1:Lq2) (q2:Int) (q3:List Int):A87:=itX (fun v:B2z=>B1k v.1 v.2.1 v.2.2.1 v.2.2.2 p0 p1 p2 p3 p4 p5 q0 q1 q2 q3) B07 (x5,x35,x36,x37)
noncomputable def B5W (p0 p1 p2:Int) (p3:LT1) (p4:LIbe) (p5 q0:Int) (q1:Lq2) (q2:Int) (q3:List Int) (a:A87):CT:=(.br (a.1==0) (.done .ret B4d (((),(),(),(),a.2,u96),((p0,p1,p2,p3,p4,p5,()),()))) (.br (a.1==1) (.done (.exit 0) C1v ((G00),((p0,p1,p2,p3,p4,p5,()),(q0,q1,q2,q3,()),()))) .fail))
noncomputable def D8S (x5 x35:List Int) (x36 x37 p0 p1 p2:Int) (p3:LT1) (p4:LIbe) (p5 q0:Int) (q1:Lq2) (q2:Int) (q3:List Int):CT:=(B5W p0 p1 p2 p3 p4 p5 q0 q1 q2 q3) (B6c x5 x35 x36 x37 p0 p1 p2 p3 p4 p5 q0 q1 q2 q3)
noncomputable abbrev B06 {α:Sort _} (f:(List Int)→(List Int)→Int→Int→Int→Int→Int→LT1→LIbe→Int→Int→Lq2→Int→(List Int)→α) (d:R0.den):α:=f d.1.2.2.2.2.2.1 d.1.2.2.2.2.2.2.2.2.2.2.2.2.2.2.2.2.2.2.2.2.2.2.2.2.2.2.2.2.2.2.2.2.2.2.2.1 d.1.2.2.2.2.2.2.2.2.2.2.2.2.2.2.2.2.2.2.2.2.2.2.2.2.2.2.2.2.2.2.2.2.2.2.2.2.1 d.1.2.2.2.2.2.2.2.2.2.2.2.2.2.2.2.2.2.2.2.2.2.2.2.2.2.2.2.2.2.2.2.2.2.2.2.2.2.1 d.2.1.1 d.2.1.2.1 d.2.1.2.2.1 d.2.1.2.2.2.1 d.2.1.2.2.2.2.1 d.2.1.2.2.2.2.2.1 d.2.2.1.1 d.2.2.1.2.1 d.2.2.1.2.2.1 d.2.2.1.2.2.2.1
noncomputable abbrev B6D:R0.den→RT R0.den:=(B06 C4s)
noncomputable def C0c:Code:=((C4 0 (A0y Tryz.f46)).getD 0 (0,.skip)).2
noncomputable abbrev C4m (p0 p1 p2:Int) (p3:LT1) (p4:LIbe) (p5 q0:Int) (q1:Lq2) (q2:Int) (q3:List Int) (v:B2z):R0.den:=(((),(),(),(),(),v.1,(),(),(),(),(),(),(),(),(),(),(),(),(),(),(),(),(),(),(),(),(),(),(),(),(),(),(),(),(),v.2.1,v.2.2.1,v.2.2.2,u63),((p0,p1,p2,p3,p4,p5,()),(q0,q1,q2,q3,()),()))
theorem D8j (p0 p1 p2:Int) (p3:LT1) (p4:LIbe) (p5 q0:Int) (q1:Lq2) (q2:Int) (q3:List Int):(∀ v:B2z,(C4s v.1 v.2.1 v.2.2.1 v.2.2.2 p0 p1 p2 p3 p4 p5 q0 q1 q2 q3).val=A5T (C4m p0 p1 p2 p3 p4 p5 q0 q1 q2 q3) (B5W p0 p1 p2 p3 p4 p5 q0 q1 q2 q3) (B1k v.1 v.2.1 v.2.2.1 v.2.2.2 p0 p1 p2 p3 p4 p5 q0 q1 q2 q3))∧∀ a:A87,CEnd R0.den ((B5W p0 p1 p2 p3 p4 p5 q0 q1 q2 q3) a):=⟨fun v=>by repeat' first | apply A6V | rfl,fun a=>(A6I aCD (A6I aCD A6K))⟩
noncomputable def C4j (x5 x35:List Int) (x36 x37 p0 p1 p2:Int) (p3:LT1) (p4:LIbe) (p5 q0:Int) (q1:Lq2) (q2:Int) (q3:List Int):Option (Ex×St):=let z1:=(⟨((.ptr 0 0 1 0)::.junk::.junk::(.ptr 1 0 1 0)::.junk::(.t true A9x x5)::.junk::.junk::.junk::.junk::.junk::.junk::.junk::.junk::.junk::.junk::.junk::.junk::.junk::.junk::.junk::.junk::.junk::.junk::.junk::.junk::.junk::.junk::.junk::.junk::.junk::.junk::.junk::.junk::.junk::(.t false A9x x35)::(ti x36)::(ti (wI (x37+(1:Int))))::G1i),[(.box [(ti p0),(ti p1),(ti p2),(.t false tq5 p3),(.t false K4 p4),(ti p5)]),(.box [(ti q0),(.t false tq7 q1),(ti q2),(.t false A9x q3)])],1,[]⟩:St);let z2:=(⟨(.junk::.junk::.junk::.junk::(.t true .bool false)::G0k),[(.box [(ti p0),(ti p1),(ti p2),(.t false tq5 p3),(.t false K4 p4),(ti p5)])],1,[]⟩:St);let z3:=wI (x37 - (1:Int));let z4:=x35.getD x37.toNat (0:Int);(cond (decide (x37<x36)) (cond (decide (0≤x37∧x37<(x35.length:Int))) (cond (N7 x5 z4) (cond (!(Y0 x5 z4)) (some (.ret,z2)) (cond (decide (x37 > (0:Int))) (cond (decide (0≤z3∧z3<(q3.length:Int))) (cond (decide (z4≤(q3.getD (z3.toNat) (0:Int)))) (some (.ret,z2)) (some (.normal,z1))) none) (some (.normal,z1)))) none) none) (some ((.exit 0),(⟨((.ptr 0 0 1 0)::.junk::.junk::(.ptr 1 0 1 0)::F5T),[(.box [(ti p0),(ti p1),(ti p2),(.t false tq5 p3),(.t false K4 p4),(ti p5)]),(.box [(ti q0),(.t false tq7 q1),(ti q2),(.t false A9x q3)])],1,[]⟩:St))))
theorem D6z:RdA G90 aLn 0 C0c R0 1 [] (kepts [4] [(0,[0,3])]) (B06 C4j):=by
 intro d
 kernel_rfl
theorem D6B:∀ d:R0.den,(B06 C4j) d=(B6D d).opt 1 []:=by
 intro d
 kernel_rfl
noncomputable abbrev C3f:St→Option Tree:=R0.say 1 [] [] (B06 D8S)
theorem D7N:aPL C3f C0c:=SS.wp2 hlz [] B6D D6z D6B _ (fun d=>Runs.ofI2 (step:=B6D) (C4m d.2.1.1 d.2.1.2.1 d.2.1.2.2.1 d.2.1.2.2.2.1 d.2.1.2.2.2.2.1 d.2.1.2.2.2.2.2.1 d.2.2.1.1 d.2.2.1.2.1 d.2.2.1.2.2.1 d.2.2.1.2.2.2.1) (D8j d.2.1.1 d.2.1.2.1 d.2.1.2.2.1 d.2.1.2.2.2.1 d.2.1.2.2.2.2.1 d.2.1.2.2.2.2.2.1 d.2.2.1.1 d.2.2.1.2.1 d.2.2.1.2.2.1 d.2.2.1.2.2.2.1) rfl (d.1.2.2.2.2.2.1,d.1.2.2.2.2.2.2.2.2.2.2.2.2.2.2.2.2.2.2.2.2.2.2.2.2.2.2.2.2.2.2.2.2.2.2.2.1,d.1.2.2.2.2.2.2.2.2.2.2.2.2.2.2.2.2.2.2.2.2.2.2.2.2.2.2.2.2.2.2.2.2.2.2.2.2.1,d.1.2.2.2.2.2.2.2.2.2.2.2.2.2.2.2.2.2.2.2.2.2.2.2.2.2.2.2.2.2.2.2.2.2.2.2.2.2.1))
noncomputable def B36 (x1_0 p0 p1 p2:Int) (p3:LT1) (p4:LIbe) (p5:Int):=M4 x1_0 (wI (p1*(1000:Int))) (wI ((B3H p0 p1 p2 p3 p4 p5) - (1:Int)))
noncomputable def B37 (x1_0:Int) (x1_1:Lq2) (x1_2:Int) (x1_3:List Int) (p0 p1 p2:Int) (p3:LT1) (p4:LIbe) (p5:Int):=B6c (C1j x1_1 p0) x1_3 (x1_3.length:Int) (0:Int) p0 p1 p2 p3 p4 p5 x1_0 x1_1 x1_2 x1_3
noncomputable def C0W (x1_0:Int) (x1_1:Lq2) (x1_2:Int) (x1_3:List Int) (p0 p1 p2:Int) (p3:LT1) (p4:LIbe) (p5:Int):Bool:=let z1:=U2 x1_0 p0 p1 p2 p3 p4 p5;let z2:=B37 x1_0 x1_1 x1_2 x1_3 p0 p1 p2 p3 p4 p5;let z3:=(p4.getD (z1.toNat) ((0:Int),false)).2;let z4:=decide (z1 ≥ (0:Int));(cond (!(B36 x1_0 p0 p1 p2 p3 p4 p5)) false (cond (!(B7w x1_1)) false (cond (z2.1==0) (z2.2) (cond (x1_2==(1:Int)) (decide (z1<(0:Int))) (cond (x1_2==(2:Int)) (cond z4 z3 false) (cond (x1_2==(3:Int)) (cond z4 (!z3) false) false))))))
noncomputable abbrev K6 (p0 p1 p2:Int) (p3:LT1) (p4:LIbe) (p5:Int) (r:Bool):AV×List AObj×List Nat:=((.t true .bool r),[(.box [(ti p0),(ti p1),(ti p2),(.t false tq5 p3),(.t false K4 p4),(ti p5)])],[])
noncomputable abbrev D1g:B3V.den→AV×List AObj×List Nat:=fun d=>K6 d.2.1.1 d.2.1.2.1 d.2.1.2.2.1 d.2.1.2.2.2.1 d.2.1.2.2.2.2.1 d.2.1.2.2.2.2.2.1 (C0W d.1.2.1.1 d.1.2.1.2.1 d.1.2.1.2.2.1 d.1.2.1.2.2.2.1 d.2.1.1 d.2.1.2.1 d.2.1.2.2.1 d.2.1.2.2.2.1 d.2.1.2.2.2.2.1 d.2.1.2.2.2.2.2.1)
noncomputable def A62 (x1_0:Int) (x1_1:Lq2) (x1_2:Int) (x1_3:List Int) (p0 p1 p2:Int) (p3:LT1) (p4:LIbe) (p5:Int):Bool:=let z1:=U2 x1_0 p0 p1 p2 p3 p4 p5;let z2:=B37 x1_0 x1_1 x1_2 x1_3 p0 p1 p2 p3 p4 p5;let z3:=decide (0≤z1∧z1<(p4.length:Int));let z4:=decide (z1 ≥ (0:Int));cond (!(B36 x1_0 p0 p1 p2 p3 p4 p5)) true ((B0u x1_1)&&(cond (!(B7w x1_1)) true ((A9F x1_1 p0)&&(cond (z2.1==0) true ((z2.1==1)&&((O2 x1_0 p0 p1 p2 p3 p4 p5)&&(cond (x1_2==(1:Int)) true (cond (x1_2==(2:Int)) (cond z4 z3 true) (cond (x1_2==(3:Int)) (cond z4 z3 true) true)))))))))
noncomputable abbrev C6F:B3V.den→Bool:=fun d=>A62 d.1.2.1.1 d.1.2.1.2.1 d.1.2.1.2.2.1 d.1.2.1.2.2.2.1 d.2.1.1 d.2.1.2.1 d.2.1.2.2.1 d.2.1.2.2.2.1 d.2.1.2.2.2.2.1 d.2.1.2.2.2.2.2.1
noncomputable abbrev E11:Nat→St→Option Tree:=fun b=>match b with | 0=>C3f | _=>fun _=>none
theorem D93:A6P G90 (E11) Tryz.f46 B3V C6F D1g:=by
 rintro ⟨⟨_,⟨x1_0,x1_1,x1_2,x1_3,_⟩,_⟩,⟨⟨p0,p1,p2,p3,p4,p5,_⟩,_⟩⟩ hp
 change A62 x1_0 x1_1 x1_2 x1_3 p0 p1 p2 p3 p4 p5=true at hp
 unfold A62 at hp
 refine Eq.trans (b:=(let z1:=U2 x1_0 p0 p1 p2 p3 p4 p5;let z2:=B37 x1_0 x1_1 x1_2 x1_3 p0 p1 p2 p3 p4 p5;let z3:=(p4.getD (z1.toNat) ((0:Int),false)).2;let z4:=decide (0≤z1∧z1<(p4.length:Int));let z5:=decide (z1 ≥ (0:Int));cond (!(B36 x1_0 p0 p1 p2 p3 p4 p5)) (some (K6 p0 p1 p2 p3 p4 p5 false)) (cond (B0u x1_1) (cond (!(B7w x1_1)) (some (K6 p0 p1 p2 p3 p4 p5 false)) (cond (A9F x1_1 p0) (cond (z2.1==0) (some (K6 p0 p1 p2 p3 p4 p5 (z2.2))) (cond (z2.1==1) (cond (O2 x1_0 p0 p1 p2 p3 p4 p5) (cond (x1_2==(1:Int)) (some (K6 p0 p1 p2 p3 p4 p5 (decide (z1<(0:Int))))) (cond (x1_2==(2:Int)) (cond z5 (cond z4 (some (K6 p0 p1 p2 p3 p4 p5 z3)) none) (some (K6 p0 p1 p2 p3 p4 p5 false))) (cond (x1_2==(3:Int)) (cond z5 (cond z4 (some (K6 p0 p1 p2 p3 p4 p5 (!z3))) none) (some (K6 p0 p1 p2 p3 p4 p5 false))) (some (K6 p0 p1 p2 p3 p4 p5 false))))) none) none)) none)) none))) (by kernel_rfl) ?_
 exact (H7 (K6 p0 p1 p2 p3 p4 p5) hp (fun hp=>rfl) (fun hp=>(A6R hp fun hp=>(H7 (K6 p0 p1 p2 p3 p4 p5) hp (fun hp=>rfl) (fun hp=>(A6R hp fun hp=>(H7 (K6 p0 p1 p2 p3 p4 p5) hp (fun hp=>rfl) (fun hp=>(A6R hp fun hp=>(A6R hp fun hp=>(H7 (K6 p0 p1 p2 p3 p4 p5) hp (fun hp=>rfl) (fun hp=>(H7 (K6 p0 p1 p2 p3 p4 p5) hp (fun hp=>(H7 (K6 p0 p1 p2 p3 p4 p5) hp (fun hp=>(A6T hp fun _h=>rfl)) (fun hp=>rfl))) (fun hp=>(H7 (K6 p0 p1 p2 p3 p4 p5) hp (fun hp=>(H7 (K6 p0 p1 p2 p3 p4 p5) hp (fun hp=>(A6T hp fun _h=>rfl)) (fun hp=>rfl))) (fun hp=>rfl))))))))))))))))
noncomputable abbrev D1z:=winQ (msum B3V C6F D1g)
theorem E2l:aPM 46 D1z:=(mcM G90 (hl1 (i:=0) (by kernel_rfl) D7N) D93).winQ (A6i fun d=>⟨rfl,rfl⟩)
noncomputable def S91:Tab:=Tab.add S90 46 (D1z)
noncomputable def F9b:FuncId→Bool:=qadd F9a 46
theorem G91:aPG S91 F9b:=G90.addMQ E2l (A6p _) (cbl Tryz.f46) (A4V _)

abbrev F7K:List Sh:=.junk::.junk::.junk::.junk::.junk::F1G
abbrev G0x:List Sh:=.junk::F7K
abbrev u86:=((),(),(),(),u82)
abbrev u47:=((),u46)
abbrev u89:=((),(),(),u86)
abbrev F7w:List AV:=.junk::.junk::.junk::.junk::.junk::E9C
abbrev G0i:List AV:=.junk::F7w
abbrev G0y:List Sh:=.junk::G0x
abbrev F5P:List AV:=.junk::.junk::.junk::.junk::.junk::.junk::.junk::.junk::.junk::.junk::.junk::.junk::.junk::.junk::.junk::.junk::.junk::.junk::.junk::.junk::.junk::.junk::.junk::.junk::[]
abbrev G0j:List AV:=.junk::G0i
abbrev C1E:List PSh:=[.agg [(.int .i64),(.int .i64),(.int .i64),tq5,K4,(.int .i64)]]
noncomputable def B9A:Code:=((C4 0 (A0y Tryz.f17)).getD 0 (0,.skip)).2
noncomputable def B9B:Code:=((C4 0 (A0y Tryz.f17)).getD 1 (0,.skip)).2
abbrev A7z:SS:=⟨(.junk::.ptr 0 0 1 0::.junk::.junk::.junk::.junk::.junk::.junk::.junk::.junk::.junk::.junk::.junk::.junk::.junk::.junk::.junk::.junk::.junk::.junk::.junk::.junk::.junk::.junk::.junk::.junk::.junk::.junk::.junk::.junk::.junk::.junk::.junk::.junk::.junk::.junk::.junk::.junk::.junk::.t false K4::tI::tI::F3w),[.box [tI,tI,tI,.t false tq5,.t false K4,tI]]⟩
abbrev C1t:SS:=⟨(.junk::.junk::.t true .bool::F7K),[]⟩
abbrev D0d:SS:=⟨(.junk::.ptr 0 0 1 0::G0x),[.box [tI,tI,tI,.t false tq5,.t false K4,tI]]⟩
noncomputable def C39 (x39:LIbe) (x41 p0 p1 p2:Int) (p3:LT1) (p4:LIbe) (p5:Int):=M4 ((x39.getD x41.toNat ((0:Int),false)).1) (1000:Int) (wI ((B3H p0 p1 p2 p3 p4 p5) - (1:Int)))
noncomputable def D49 (x39:LIbe) (x40 x41 p0 p1 p2:Int) (p3:LT1) (p4:LIbe) (p5:Int):RT A7z.den:=let z1:=(x39.getD x41.toNat ((0:Int),false)).1;(.br (decide (x41<x40)) (.br (decide (0≤x41∧x41<(x39.length:Int))) (.br (!(C39 x39 x41 p0 p1 p2 p3 p4 p5)) (.done .ret C1t (((),(),false,u86),())) (.br (O2 z1 p0 p1 p2 p3 p4 p5) (.br ((U2 z1 p0 p1 p2 p3 p4 p5) != x41) (.done .ret C1t (((),(),false,u86),())) (.next (((),(),(),(),(),(),(),(),(),(),(),(),(),(),(),(),(),(),(),(),(),(),(),(),(),(),(),(),(),(),(),(),(),(),(),(),(),(),(),x39,x40,wI (x41+(1:Int)),u47),((p0,p1,p2,p3,p4,p5,()),())))) .fail)) .fail) (.done (.exit 0) D0d ((u89),((p0,p1,p2,p3,p4,p5,()),()))))
abbrev C0A:=(LIbe)×(Int)×(Int)
abbrev B5j:=Nat×(Bool)
def C4J:B5j:=(99,(false:Bool))
noncomputable def B8o (x39:LIbe) (x40 x41 p0 p1 p2:Int) (p3:LT1) (p4:LIbe) (p5:Int):C0A ⊕ B5j:=let z1:=(x39.getD x41.toNat ((0:Int),false)).1;(cond (decide (x41<x40)) (cond (decide (0≤x41∧x41<(x39.length:Int))) (cond (!(C39 x39 x41 p0 p1 p2 p3 p4 p5)) (.inr (0,false)) (cond (O2 z1 p0 p1 p2 p3 p4 p5) (cond ((U2 z1 p0 p1 p2 p3 p4 p5) != x41) (.inr (0,false)) (.inl (x39,x40,wI (x41+(1:Int))))) (.inr C4J))) (.inr C4J)) (.inr (1,(false:Bool))))
noncomputable def B3I (x39:LIbe) (x40 x41 p0 p1 p2:Int) (p3:LT1) (p4:LIbe) (p5:Int):B5j:=itX (fun v:C0A=>B8o v.1 v.2.1 v.2.2 p0 p1 p2 p3 p4 p5) C4J (x39,x40,x41)
noncomputable def C4A (p0 p1 p2:Int) (p3:LT1) (p4:LIbe) (p5:Int) (a:B5j):CT:=(.br (a.1==0) (.done .ret C1t (((),(),a.2,u86),())) (.br (a.1==1) (.done (.exit 0) D0d ((u89),((p0,p1,p2,p3,p4,p5,()),()))) .fail))
noncomputable def E58 (x39:LIbe) (x40 x41 p0 p1 p2:Int) (p3:LT1) (p4:LIbe) (p5:Int):CT:=(C4A p0 p1 p2 p3 p4 p5) (B3I x39 x40 x41 p0 p1 p2 p3 p4 p5)
noncomputable abbrev B70 {α:Sort _} (f:LIbe→Int→Int→Int→Int→Int→LT1→LIbe→Int→α) (d:A7z.den):α:=f d.1.2.2.2.2.2.2.2.2.2.2.2.2.2.2.2.2.2.2.2.2.2.2.2.2.2.2.2.2.2.2.2.2.2.2.2.2.2.2.2.1 d.1.2.2.2.2.2.2.2.2.2.2.2.2.2.2.2.2.2.2.2.2.2.2.2.2.2.2.2.2.2.2.2.2.2.2.2.2.2.2.2.2.1 d.1.2.2.2.2.2.2.2.2.2.2.2.2.2.2.2.2.2.2.2.2.2.2.2.2.2.2.2.2.2.2.2.2.2.2.2.2.2.2.2.2.2.1 d.2.1.1 d.2.1.2.1 d.2.1.2.2.1 d.2.1.2.2.2.1 d.2.1.2.2.2.2.1 d.2.1.2.2.2.2.2.1
noncomputable abbrev C45:A7z.den→RT A7z.den:=(B70 D49)
noncomputable abbrev D4K (p0 p1 p2:Int) (p3:LT1) (p4:LIbe) (p5:Int) (v:C0A):A7z.den:=(((),(),(),(),(),(),(),(),(),(),(),(),(),(),(),(),(),(),(),(),(),(),(),(),(),(),(),(),(),(),(),(),(),(),(),(),(),(),(),v.1,v.2.1,v.2.2,u47),((p0,p1,p2,p3,p4,p5,()),()))
theorem E5f (p0 p1 p2:Int) (p3:LT1) (p4:LIbe) (p5:Int):(∀ v:C0A,(D49 v.1 v.2.1 v.2.2 p0 p1 p2 p3 p4 p5).val=A5T (D4K p0 p1 p2 p3 p4 p5) (C4A p0 p1 p2 p3 p4 p5) (B8o v.1 v.2.1 v.2.2 p0 p1 p2 p3 p4 p5))∧∀ a:B5j,CEnd A7z.den ((C4A p0 p1 p2 p3 p4 p5) a):=⟨fun v=>(A6V (A6V (A6V rfl (A6V (A6V rfl rfl) rfl)) rfl) rfl),fun a=>(A6I aCD (A6I aCD A6K))⟩
noncomputable def D4y (x39:LIbe) (x40 x41 p0 p1 p2:Int) (p3:LT1) (p4:LIbe) (p5:Int):Option (Ex×St):=let z1:=(⟨(.junk::.junk::(.t true .bool false)::F7w),[],0,[]⟩:St);let z2:=(x39.getD x41.toNat ((0:Int),false)).1;(cond (decide (x41<x40)) (cond (decide (0≤x41∧x41<(x39.length:Int))) (cond (!(C39 x39 x41 p0 p1 p2 p3 p4 p5)) (some (.ret,z1)) (cond (O2 z2 p0 p1 p2 p3 p4 p5) (cond ((U2 z2 p0 p1 p2 p3 p4 p5) != x41) (some (.ret,z1)) (some (.normal,(⟨(.junk::(.ptr 0 0 1 0)::.junk::.junk::.junk::.junk::.junk::.junk::.junk::.junk::.junk::.junk::.junk::.junk::.junk::.junk::.junk::.junk::.junk::.junk::.junk::.junk::.junk::.junk::.junk::.junk::.junk::.junk::.junk::.junk::.junk::.junk::.junk::.junk::.junk::.junk::.junk::.junk::.junk::(.t false K4 x39)::(ti x40)::(ti (wI (x41+(1:Int))))::E9B),[(.box [(ti p0),(ti p1),(ti p2),(.t false tq5 p3),(.t false K4 p4),(ti p5)])],0,[]⟩:St)))) none)) none) (some ((.exit 0),(⟨(.junk::(.ptr 0 0 1 0)::G0i),[(.box [(ti p0),(ti p1),(ti p2),(.t false tq5 p3),(.t false K4 p4),(ti p5)])],0,[]⟩:St))))
theorem E3o:RdA G91 aLn 0 B9A A7z 0 [] (kepts [2] [(0,[1])]) (B70 D4y):=by
 intro d
 kernel_rfl
theorem E3A:∀ d:A7z.den,(B70 D4y) d=(C45 d).opt 0 []:=by
 intro d
 kernel_rfl
noncomputable abbrev D2y:St→Option Tree:=A7z.say 0 [] [] (B70 E58)
theorem E4K:aPL D2y B9A:=SS.wp2 hlz [] C45 E3o E3A _ (fun d=>Runs.ofI2 (step:=C45) (D4K d.2.1.1 d.2.1.2.1 d.2.1.2.2.1 d.2.1.2.2.2.1 d.2.1.2.2.2.2.1 d.2.1.2.2.2.2.2.1) (E5f d.2.1.1 d.2.1.2.1 d.2.1.2.2.1 d.2.1.2.2.2.1 d.2.1.2.2.2.2.1 d.2.1.2.2.2.2.2.1) rfl (d.1.2.2.2.2.2.2.2.2.2.2.2.2.2.2.2.2.2.2.2.2.2.2.2.2.2.2.2.2.2.2.2.2.2.2.2.2.2.2.2.1,d.1.2.2.2.2.2.2.2.2.2.2.2.2.2.2.2.2.2.2.2.2.2.2.2.2.2.2.2.2.2.2.2.2.2.2.2.2.2.2.2.2.1,d.1.2.2.2.2.2.2.2.2.2.2.2.2.2.2.2.2.2.2.2.2.2.2.2.2.2.2.2.2.2.2.2.2.2.2.2.2.2.2.2.2.2.1))
abbrev A7A:SS:=⟨(.junk::.ptr 0 0 1 0::.junk::.junk::.junk::.junk::.junk::.junk::.junk::.junk::.junk::.junk::.junk::.junk::.junk::.junk::.junk::.junk::.junk::.junk::.junk::.junk::.junk::.junk::.junk::.junk::.junk::.junk::.junk::.junk::.junk::.junk::.junk::.junk::.junk::.junk::.junk::.junk::.junk::.junk::.junk::.junk::.junk::.junk::.junk::.junk::.junk::.junk::.junk::.junk::.junk::.junk::.junk::.junk::.junk::.junk::.junk::.junk::.junk::.junk::.junk::.t false tq5::tI::tI::F4N),[.box [tI,tI,tI,.t false tq5,.t false K4,tI]]⟩
abbrev C1u:SS:=⟨(.junk::.junk::.t true .bool::F7K),[]⟩
abbrev D0e:SS:=⟨(.junk::G0y),[]⟩
noncomputable def C4d (x61:LT1) (x63 p0 p1 p2:Int) (p3:LT1) (p4:LIbe) (p5:Int):=let z1:=x61.getD x63.toNat ((0:Int),([],((0:Int),[])));C0W (z1.1) ((z1.2).1) (((z1.2).2).1) (((z1.2).2).2) p0 p1 p2 p3 p4 p5
noncomputable def D5a (x61:LT1) (x62 x63 p0 p1 p2:Int) (p3:LT1) (p4:LIbe) (p5:Int):RT A7A.den:=let z1:=x61.getD x63.toNat ((0:Int),([],((0:Int),[])));let z2:=wI (x63 - (1:Int));(.br (decide (x63<x62)) (.br (decide (0≤x63∧x63<(x61.length:Int))) (.br (A62 (z1.1) ((z1.2).1) (((z1.2).2).1) (((z1.2).2).2) p0 p1 p2 p3 p4 p5) (.br (!(C4d x61 x63 p0 p1 p2 p3 p4 p5)) (.done .ret C1u (((),(),false,u86),())) (.br (decide (x63 > (0:Int))) (.br (decide (0≤z2∧z2<(p3.length:Int))) (.br (decide ((z1.1)≤((p3.getD (z2.toNat) ((0:Int),([],((0:Int),[])))).1))) (.done .ret C1u (((),(),false,u86),())) (.next (((),(),(),(),(),(),(),(),(),(),(),(),(),(),(),(),(),(),(),(),(),(),(),(),(),(),(),(),(),(),(),(),(),(),(),(),(),(),(),(),(),(),(),(),(),(),(),(),(),(),(),(),(),(),(),(),(),(),(),(),(),x61,x62,wI (x63+(1:Int)),u25),((p0,p1,p2,p3,p4,p5,()),())))) .fail) (.next (((),(),(),(),(),(),(),(),(),(),(),(),(),(),(),(),(),(),(),(),(),(),(),(),(),(),(),(),(),(),(),(),(),(),(),(),(),(),(),(),(),(),(),(),(),(),(),(),(),(),(),(),(),(),(),(),(),(),(),(),(),x61,x62,wI (x63+(1:Int)),u25),((p0,p1,p2,p3,p4,p5,()),()))))) .fail) .fail) (.done (.exit 2) D0e ((u89),())))
abbrev C0B:=LT1×(Int)×(Int)
abbrev B5k:=Nat×(Bool)
def B78:B5k:=(99,(false:Bool))
noncomputable def B8p (x61:LT1) (x62 x63 p0 p1 p2:Int) (p3:LT1) (p4:LIbe) (p5:Int):C0B ⊕ B5k:=let z1:=x61.getD x63.toNat ((0:Int),([],((0:Int),[])));let z2:=wI (x63 - (1:Int));(cond (decide (x63<x62)) (cond (decide (0≤x63∧x63<(x61.length:Int))) (cond (A62 (z1.1) ((z1.2).1) (((z1.2).2).1) (((z1.2).2).2) p0 p1 p2 p3 p4 p5) (cond (!(C4d x61 x63 p0 p1 p2 p3 p4 p5)) (.inr (0,false)) (cond (decide (x63 > (0:Int))) (cond (decide (0≤z2∧z2<(p3.length:Int))) (cond (decide ((z1.1)≤((p3.getD (z2.toNat) ((0:Int),([],((0:Int),[])))).1))) (.inr (0,false)) (.inl (x61,x62,wI (x63+(1:Int))))) (.inr B78)) (.inl (x61,x62,wI (x63+(1:Int)))))) (.inr B78)) (.inr B78)) (.inr (1,(false:Bool))))
noncomputable def B3J (x61:LT1) (x62 x63 p0 p1 p2:Int) (p3:LT1) (p4:LIbe) (p5:Int):B5k:=itX (fun v:C0B=>B8p v.1 v.2.1 v.2.2 p0 p1 p2 p3 p4 p5) B78 (x61,x62,x63)
noncomputable def C4B (p0 p1 p2:Int) (p3:LT1) (p4:LIbe) (p5:Int) (a:B5k):CT:=(.br (a.1==0) (.done .ret C1u (((),(),a.2,u86),())) (.br (a.1==1) (.done (.exit 2) D0e ((u89),())) .fail))
noncomputable def E59 (x61:LT1) (x62 x63 p0 p1 p2:Int) (p3:LT1) (p4:LIbe) (p5:Int):CT:=(C4B p0 p1 p2 p3 p4 p5) (B3J x61 x62 x63 p0 p1 p2 p3 p4 p5)
noncomputable abbrev B71 {α:Sort _} (f:LT1→Int→Int→Int→Int→Int→LT1→LIbe→Int→α) (d:A7A.den):α:=f d.1.2.2.2.2.2.2.2.2.2.2.2.2.2.2.2.2.2.2.2.2.2.2.2.2.2.2.2.2.2.2.2.2.2.2.2.2.2.2.2.2.2.2.2.2.2.2.2.2.2.2.2.2.2.2.2.2.2.2.2.2.2.1 d.1.2.2.2.2.2.2.2.2.2.2.2.2.2.2.2.2.2.2.2.2.2.2.2.2.2.2.2.2.2.2.2.2.2.2.2.2.2.2.2.2.2.2.2.2.2.2.2.2.2.2.2.2.2.2.2.2.2.2.2.2.2.2.1 d.1.2.2.2.2.2.2.2.2.2.2.2.2.2.2.2.2.2.2.2.2.2.2.2.2.2.2.2.2.2.2.2.2.2.2.2.2.2.2.2.2.2.2.2.2.2.2.2.2.2.2.2.2.2.2.2.2.2.2.2.2.2.2.2.1 d.2.1.1 d.2.1.2.1 d.2.1.2.2.1 d.2.1.2.2.2.1 d.2.1.2.2.2.2.1 d.2.1.2.2.2.2.2.1
noncomputable abbrev C46:A7A.den→RT A7A.den:=(B71 D5a)
noncomputable abbrev D4L (p0 p1 p2:Int) (p3:LT1) (p4:LIbe) (p5:Int) (v:C0B):A7A.den:=(((),(),(),(),(),(),(),(),(),(),(),(),(),(),(),(),(),(),(),(),(),(),(),(),(),(),(),(),(),(),(),(),(),(),(),(),(),(),(),(),(),(),(),(),(),(),(),(),(),(),(),(),(),(),(),(),(),(),(),(),(),v.1,v.2.1,v.2.2,u25),((p0,p1,p2,p3,p4,p5,()),()))
theorem E5g (p0 p1 p2:Int) (p3:LT1) (p4:LIbe) (p5:Int):(∀ v:C0B,(D5a v.1 v.2.1 v.2.2 p0 p1 p2 p3 p4 p5).val=A5T (D4L p0 p1 p2 p3 p4 p5) (C4B p0 p1 p2 p3 p4 p5) (B8p v.1 v.2.1 v.2.2 p0 p1 p2 p3 p4 p5))∧∀ a:B5k,CEnd A7A.den ((C4B p0 p1 p2 p3 p4 p5) a):=⟨fun v=>by repeat' first | apply A6V | rfl,fun a=>(A6I aCD (A6I aCD A6K))⟩
noncomputable def D4z (x61:LT1) (x62 x63 p0 p1 p2:Int) (p3:LT1) (p4:LIbe) (p5:Int):Option (Ex×St):=let z1:=(⟨(.junk::(.ptr 0 0 1 0)::.junk::.junk::.junk::.junk::.junk::.junk::.junk::.junk::.junk::.junk::.junk::.junk::.junk::.junk::.junk::.junk::.junk::.junk::.junk::.junk::.junk::.junk::.junk::.junk::.junk::.junk::.junk::.junk::.junk::.junk::.junk::.junk::.junk::.junk::.junk::.junk::.junk::.junk::.junk::.junk::.junk::.junk::.junk::.junk::.junk::.junk::.junk::.junk::.junk::.junk::.junk::.junk::.junk::.junk::.junk::.junk::.junk::.junk::.junk::(.t false tq5 x61)::(ti x62)::(ti (wI (x63+(1:Int))))::F5P),[(.box [(ti p0),(ti p1),(ti p2),(.t false tq5 p3),(.t false K4 p4),(ti p5)])],0,[]⟩:St);let z2:=x61.getD x63.toNat ((0:Int),([],((0:Int),[])));let z3:=wI (x63 - (1:Int));let z4:=(⟨(.junk::.junk::(.t true .bool false)::F7w),[],0,[]⟩:St);(cond (decide (x63<x62)) (cond (decide (0≤x63∧x63<(x61.length:Int))) (cond (A62 (z2.1) ((z2.2).1) (((z2.2).2).1) (((z2.2).2).2) p0 p1 p2 p3 p4 p5) (cond (!(C4d x61 x63 p0 p1 p2 p3 p4 p5)) (some (.ret,z4)) (cond (decide (x63 > (0:Int))) (cond (decide (0≤z3∧z3<(p3.length:Int))) (cond (decide ((z2.1)≤((p3.getD (z3.toNat) ((0:Int),([],((0:Int),[])))).1))) (some (.ret,z4)) (some (.normal,z1))) none) (some (.normal,z1)))) none) none) (some ((.exit 2),(⟨(.junk::G0j),[],0,[]⟩:St))))
theorem E3p:RdA G91 aLn 2 B9B A7A 0 [] (kepts [2] [(2,[])]) (B71 D4z):=by
 intro d
 kernel_rfl
theorem E3B:∀ d:A7A.den,(B71 D4z) d=(C46 d).opt 0 []:=by
 intro d
 kernel_rfl
noncomputable abbrev D2z:St→Option Tree:=A7A.say 0 [] [] (B71 E59)
theorem E4L:aPL D2z B9B:=SS.wp2 hlz [] C46 E3p E3B _ (fun d=>Runs.ofI2 (step:=C46) (D4L d.2.1.1 d.2.1.2.1 d.2.1.2.2.1 d.2.1.2.2.2.1 d.2.1.2.2.2.2.1 d.2.1.2.2.2.2.2.1) (E5g d.2.1.1 d.2.1.2.1 d.2.1.2.2.1 d.2.1.2.2.2.1 d.2.1.2.2.2.2.1 d.2.1.2.2.2.2.2.1) rfl (d.1.2.2.2.2.2.2.2.2.2.2.2.2.2.2.2.2.2.2.2.2.2.2.2.2.2.2.2.2.2.2.2.2.2.2.2.2.2.2.2.2.2.2.2.2.2.2.2.2.2.2.2.2.2.2.2.2.2.2.2.2.2.1,d.1.2.2.2.2.2.2.2.2.2.2.2.2.2.2.2.2.2.2.2.2.2.2.2.2.2.2.2.2.2.2.2.2.2.2.2.2.2.2.2.2.2.2.2.2.2.2.2.2.2.2.2.2.2.2.2.2.2.2.2.2.2.2.1,d.1.2.2.2.2.2.2.2.2.2.2.2.2.2.2.2.2.2.2.2.2.2.2.2.2.2.2.2.2.2.2.2.2.2.2.2.2.2.2.2.2.2.2.2.2.2.2.2.2.2.2.2.2.2.2.2.2.2.2.2.2.2.2.2.1))
noncomputable def C6o (a0 a1 a2:Int) (a3:LT1) (a4:LIbe) (a5:Int):Bool:=let z1:=B3I a4 (a4.length:Int) (0:Int) a0 a1 a2 a3 a4 a5;let z2:=B3J a3 (a3.length:Int) (0:Int) a0 a1 a2 a3 a4 a5;(cond (!(M4 a0 (1:Int) (8:Int))) false (cond (!(M4 a1 (1:Int) (900:Int))) false (cond (!(M4 a2 (0:Int) (999:Int))) false (cond (decide ((a4.length:Int) > (1000:Int))) false (cond (!(M4 a5 (0:Int) (a4.length:Int))) false (cond (z1.1==0) (z1.2) (cond (z2.1==0) (z2.2) true)))))))
noncomputable abbrev T1 (r:Bool):AV×List AObj:=((.t true .bool r),[])
noncomputable abbrev D5C:F5 C1E→AV×List AObj:=fun d=>T1 (C6o d.1.1 d.1.2.1 d.1.2.2.1 d.1.2.2.2.1 d.1.2.2.2.2.1 d.1.2.2.2.2.2.1)
noncomputable def B4s (a0 a1 a2:Int) (a3:LT1) (a4:LIbe) (a5:Int):Bool:=let z1:=B3I a4 (a4.length:Int) (0:Int) a0 a1 a2 a3 a4 a5;let z2:=B3J a3 (a3.length:Int) (0:Int) a0 a1 a2 a3 a4 a5;cond (!(M4 a0 (1:Int) (8:Int))) true (cond (!(M4 a1 (1:Int) (900:Int))) true (cond (!(M4 a2 (0:Int) (999:Int))) true (cond (decide ((a4.length:Int) > (1000:Int))) true (cond (!(M4 a5 (0:Int) (a4.length:Int))) true (cond (z1.1==0) true ((z1.1==1)&&(cond (z2.1==0) true (z2.1==1))))))))
noncomputable abbrev C7Z:F5 C1E→Bool:=fun d=>B4s d.1.1 d.1.2.1 d.1.2.2.1 d.1.2.2.2.1 d.1.2.2.2.2.1 d.1.2.2.2.2.2.1
noncomputable abbrev F0N:Nat→St→Option Tree:=fun b=>match b with | 0=>D2y | 2=>D2z | _=>fun _=>none
theorem E7L:A6Q true G91 (F0N) Tryz.f17 C1E C7Z D5C:=by
 rintro ⟨⟨a0,⟨a1,⟨a2,⟨a3,⟨a4,⟨a5,_⟩⟩⟩⟩⟩⟩,_⟩ hp
 change B4s a0 a1 a2 a3 a4 a5=true at hp
 unfold B4s at hp
 refine Eq.trans (b:=(let z1:=B3I a4 (a4.length:Int) (0:Int) a0 a1 a2 a3 a4 a5;let z2:=B3J a3 (a3.length:Int) (0:Int) a0 a1 a2 a3 a4 a5;cond (!(M4 a0 (1:Int) (8:Int))) (some (T1 false)) (cond (!(M4 a1 (1:Int) (900:Int))) (some (T1 false)) (cond (!(M4 a2 (0:Int) (999:Int))) (some (T1 false)) (cond (decide ((a4.length:Int) > (1000:Int))) (some (T1 false)) (cond (!(M4 a5 (0:Int) (a4.length:Int))) (some (T1 false)) (cond (z1.1==0) (some (T1 (z1.2))) (cond (z1.1==1) (cond (z2.1==0) (some (T1 (z2.2))) (cond (z2.1==1) (some (T1 true)) none)) none)))))))) (by kernel_rfl) ?_
 exact (H7 T1 hp (fun hp=>rfl) (fun hp=>(H7 T1 hp (fun hp=>rfl) (fun hp=>(H7 T1 hp (fun hp=>rfl) (fun hp=>(H7 T1 hp (fun hp=>rfl) (fun hp=>(H7 T1 hp (fun hp=>rfl) (fun hp=>(H7 T1 hp (fun hp=>rfl) (fun hp=>(A6R hp fun hp=>(H7 T1 hp (fun hp=>rfl) (fun hp=>(A6T hp fun _h=>rfl))))))))))))))))
theorem F1c:aPP 17 (A2z C1E C7Z D5C):=pcD true G91 (by
  rw [show C4 0 (A0y Tryz.f17)=[(0,B9A),(2,B9B)] by kernel_rfl];intro p hp;simp only [List.mem_cons,List.mem_nil_iff,or_false] at hp
  rcases hp with rfl | rfl
  ·exact E4K
  ·exact E4L) E7L
noncomputable def S92:Tab:=Tab.add S91 17 (lift (A2z C1E C7Z D5C))
noncomputable def F9c:FuncId→Bool:=qadd F9b 17
theorem G92:aPG S92 F9c:=G91.addQ F1c (cbl Tryz.f17) (fun _=>rfl)

abbrev D61:List PSh:=[.t (.int .i64)]
noncomputable def E0l (a0:Int):Bool:=(M4 a0 (0:Int) (7:Int))
noncomputable abbrev F5G (r:Bool):AV×List AObj:=((.t true .bool r),[])
noncomputable abbrev E6B:F5 D61→AV×List AObj:=fun d=>F5G (E0l d.1)
noncomputable abbrev D9A:F5 D61→Bool:=fun d=>true
theorem F3F:A6Q true G92 aLn Tryz.f47 D61 D9A E6B:=by
 rintro ⟨a0,_⟩ hp
 kernel_rfl
theorem F5w:aPP 47 (A2z D61 D9A E6B):=pcD true G92 hlz F3F
noncomputable def S93:Tab:=Tab.add S92 47 (lift (A2z D61 D9A E6B))
noncomputable def F9d:FuncId→Bool:=qadd F9c 47
theorem G93:aPG S93 F9d:=G92.addQ F5w (cbl Tryz.f47) (fun _=>rfl)

abbrev D62:List PSh:=[.t (.int .i64)]
noncomputable def D1u (a0:Int):Bool:=(M4 a0 (1:Int) (1000000:Int))
noncomputable abbrev F5H (r:Bool):AV×List AObj:=((.t true .bool r),[])
noncomputable abbrev E6C:F5 D62→AV×List AObj:=fun d=>F5H (D1u d.1)
noncomputable abbrev D9B:F5 D62→Bool:=fun d=>true
theorem F3G:A6Q true G93 aLn Tryz.f98 D62 D9B E6C:=by
 rintro ⟨a0,_⟩ hp
 kernel_rfl
theorem F5x:aPP 98 (A2z D62 D9B E6C):=pcD true G93 hlz F3G
noncomputable def S94:Tab:=Tab.add S93 98 (lift (A2z D62 D9B E6C))
noncomputable def F9e:FuncId→Bool:=qadd F9d 98
theorem G94:aPG S94 F9e:=G93.addQ F5x (cbl Tryz.f98) (fun _=>rfl)

abbrev D0w:List PSh:=[.agg [(.int .i64),(.int .i64),tq7]]
noncomputable def E6N (a0 a1:Int) (a2:Lq2):Bool:=(cond (a0==(1:Int)) (cond (D1u a1) (B7w a2) false) (cond (a0==(2:Int)) (cond (D1u a1) ((a2.length:Int)==(0:Int)) false) (cond (a0==(3:Int)) (cond (D1u a1) ((a2.length:Int)==(0:Int)) false) false)))
noncomputable abbrev A9j (r:Bool):AV×List AObj:=((.t true .bool r),[])
noncomputable abbrev E2C:F5 D0w→AV×List AObj:=fun d=>A9j (E6N d.1.1 d.1.2.1 d.1.2.2.1)
noncomputable def C3a (a0 a1:Int) (a2:Lq2):Bool:=Q9 a2
noncomputable abbrev D6i:F5 D0w→Bool:=fun d=>C3a d.1.1 d.1.2.1 d.1.2.2.1
theorem F1Y:A6Q true G94 aLn Tryz.f96 D0w D6i E2C:=by
 rintro ⟨⟨a0,⟨a1,⟨a2,_⟩⟩⟩,_⟩ hp
 change C3a a0 a1 a2=true at hp
 unfold C3a at hp
 refine Eq.trans (b:=(let z1:=A9j ((a2.length:Int)==(0:Int));cond (a0==(1:Int)) (cond (D1u a1) (cond (B0u a2) (some (A9j (B7w a2))) none) (some (A9j false))) (cond (a0==(2:Int)) (cond (D1u a1) (some z1) (some (A9j false))) (cond (a0==(3:Int)) (cond (D1u a1) (some z1) (some (A9j false))) (some (A9j false)))))) (by kernel_rfl) ?_
 exact (L7 A9j (fun _h=>(L7 A9j (fun _h=>(A6T (by first | rfl | decide | exact hp | (simp only [Bool.and_eq_true] at hp;simp only [hp];done) | (simp [*];done) | (simp [okL] at hp;simp [okL,MAXB];omega) | (simp_all;done) | (simp at *;omega)) (fun _h=>rfl))) (fun _h=>rfl))) (fun _h=>(L7 A9j (fun _h=>(L7 A9j (fun _h=>rfl) (fun _h=>rfl))) (fun _h=>(L7 A9j (fun _h=>(L7 A9j (fun _h=>rfl) (fun _h=>rfl))) (fun _h=>rfl))))))
theorem F4h:aPP 96 (A2z D0w D6i E2C):=pcD true G94 hlz F1Y
noncomputable def S95:Tab:=Tab.add S94 96 (lift (A2z D0w D6i E2C))
noncomputable def F9f:FuncId→Bool:=qadd F9e 96
theorem G95:aPG S95 F9f:=G94.addQ F4h (cbl Tryz.f96) (fun _=>rfl)

abbrev D0x:List PSh:=[.t tq8,.t (.int .i64)]
abbrev B4g:SS:=⟨(.t false tq8::tI::.junk::.junk::.junk::tI::F7y),[]⟩
abbrev D6P:SS:=⟨(.junk::.junk::.junk::.junk::tI::F3u),[]⟩
abbrev D6Q:SS:=⟨(.junk::F3v),[]⟩
noncomputable def E0V (x0:Lq1) (x1 x5:Int):RT B4g.den:=(.br (decide (x5 ≥ (0:Int))) (.br (decide (0≤x5∧x5<(x0.length:Int))) (.br ((((x0.getD x5.toNat ((0:Int),((0:Int),[]))).2).1)==x1) (.done .ret D6P (((),(),(),(),x5,u17),())) (.next ((x0,x1,(),(),(),wI (x5 - (1:Int)),u16),()))) .fail) (.done (.exit 0) D6Q ((u22),())))
abbrev B4m:=(Lq1)×(Int)×(Int)
abbrev B68:=Nat×(Int)
def C34:B68:=(99,((0:Int):Int))
noncomputable def B5h (x0:Lq1) (x1 x5:Int):B4m ⊕ B68:=(cond (decide (x5 ≥ (0:Int))) (cond (decide (0≤x5∧x5<(x0.length:Int))) (cond ((((x0.getD x5.toNat ((0:Int),((0:Int),[]))).2).1)==x1) (.inr (0,x5)) (.inl (x0,x1,wI (x5 - (1:Int))))) (.inr C34)) (.inr (1,((0:Int):Int))))
noncomputable def B42 (x0:Lq1) (x1 x5:Int):B68:=itX (fun v:B4m=>B5h v.1 v.2.1 v.2.2) C34 (x0,x1,x5)
noncomputable def D1a (a:B68):CT:=(.br (a.1==0) (.done .ret D6P (((),(),(),(),a.2,u17),())) (.br (a.1==1) (.done (.exit 0) D6Q ((u22),())) .fail))
noncomputable def F05 (x0:Lq1) (x1 x5:Int):CT:=D1a (B42 x0 x1 x5)
noncomputable abbrev D2M:B4g.den→RT B4g.den:=(fun d=>E0V d.1.1 d.1.2.1 d.1.2.2.2.2.2.1)
noncomputable def D4k:Code:=((C4 0 (A0y Tryz.f134)).getD 0 (0,.skip)).2
noncomputable abbrev E0J (v:B4m):B4g.den:=((v.1,v.2.1,(),(),(),v.2.2,u16),())
theorem E95:(∀ v:B4m,(E0V v.1 v.2.1 v.2.2).val=A5T E0J D1a (B5h v.1 v.2.1 v.2.2))∧∀ a:B68,CEnd B4g.den (D1a a):=⟨fun v=>(A6V (A6V (A6V rfl rfl) rfl) rfl),fun a=>(A6I aCD (A6I aCD A6K))⟩
theorem E7i:RdA G95 aLn 0 D4k B4g 0 [] (kepts [4] [(0,[])]) (fun d=>(D2M d).opt 0 []):=by
 intro d
 kernel_rfl
noncomputable abbrev D8s:St→Option Tree:=B4g.say 0 [] [] (fun d=>F05 d.1.1 d.1.2.1 d.1.2.2.2.2.2.1)
theorem E9M:aPL D8s D4k:=SS.wp2 hlz [] D2M E7i (fun d=>rfl) _ (fun d=>Runs.ofI2 (step:=D2M) E0J E95 rfl (d.1.1,d.1.2.1,d.1.2.2.2.2.2.1))
noncomputable def A8a (a0:Lq1) (a1:Int):Int:=let z1:=B42 a0 a1 (wI ((a0.length:Int) - (1:Int)));(cond (z1.1==0) (z1.2) (-1:Int))
noncomputable abbrev D7o (r:Int):AV×List AObj:=((ti r),[])
noncomputable abbrev E2D:F5 D0x→AV×List AObj:=fun d=>D7o (A8a d.1 d.2.1)
noncomputable def A63 (a0:Lq1) (a1:Int):Bool:=let z1:=B42 a0 a1 (wI ((a0.length:Int) - (1:Int)));cond (z1.1==0) true (z1.1==1)
noncomputable abbrev D6j:F5 D0x→Bool:=fun d=>A63 d.1 d.2.1
noncomputable abbrev F30:Nat→St→Option Tree:=fun b=>match b with | 0=>D8s | _=>fun _=>none
theorem F1Z:A6Q true G95 (F30) Tryz.f134 D0x D6j E2D:=by
 rintro ⟨a0,⟨a1,_⟩⟩ hp
 change A63 a0 a1=true at hp
 unfold A63 at hp
 refine Eq.trans (b:=(let z1:=B42 a0 a1 (wI ((a0.length:Int) - (1:Int)));cond (z1.1==0) (some (D7o (z1.2))) (cond (z1.1==1) (some (D7o (-1:Int))) none))) (by kernel_rfl) ?_
 exact (H7 D7o hp (fun hp=>rfl) (fun hp=>(A6T hp fun _h=>rfl)))
theorem F4i:aPP 134 (A2z D0x D6j E2D):=pcD true G95 (hl1 (i:=0) (by kernel_rfl) E9M) F1Z
noncomputable def S96:Tab:=Tab.add S95 134 (lift (A2z D0x D6j E2D))
noncomputable def F9g:FuncId→Bool:=qadd F9f 134
theorem G96:aPG S96 F9g:=G95.addQ F4i (cbl Tryz.f134) (fun _=>rfl)

abbrev F7n:List AV:=.junk::.junk::.junk::.junk::.junk::.junk::.junk::.junk::.junk::.junk::.junk::[]
abbrev F5O:List AV:=.junk::.junk::.junk::.junk::.junk::.junk::F7n
abbrev B5x:List PSh:=[.t tq8,.t tq7]
noncomputable def B5R:Code:=((C4 0 (A0y Tryz.f135)).getD 0 (0,.skip)).2
noncomputable def B5S:Code:=((C4 0 B5R).getD 0 (0,.skip)).2
noncomputable def C3Q:Code:=((C4 2 B5S).getD 0 (0,.skip)).2
abbrev W6:SS:=⟨(.junk::.t false tq7::.junk::.junk::.junk::.junk::.junk::.junk::.ptr 0 0 1 0::.junk::.junk::.t false tq8::tI::tI::.junk::.junk::.junk::.junk::.t false tq7::tI::tI::.junk::.junk::.junk::.t false tq7::tI::tI::G0n),[.box [tI,.t true .str,.t true .str]]⟩
abbrev C5n:SS:=⟨(.junk::.junk::.junk::.junk::.t true .bool::E9F),[]⟩
abbrev C5o:SS:=⟨(.junk::.t false tq7::.junk::.junk::.junk::.junk::.junk::.junk::.junk::.junk::.junk::.t false tq8::tI::tI::.junk::.junk::.junk::.junk::.t false tq7::tI::tI::E9E),[]⟩
noncomputable def C9W (x1:Lq2) (x11:Lq1) (x12 x13:Int) (x18:Lq2) (x19 x20:Int) (x24:Lq2) (x25 x26 p0:Int) (p1 p2:ByteArray):RT W6.den:=(.br (decide (x26<x25)) (.br (decide (0≤x26∧x26<(x24.length:Int))) (.br ((((x24.getD x26.toNat ((0:Int),(bE,bE))).2).1).toList==p1.toList) (.done .ret C5n (((),(),(),(),true,u34),())) (.next (((),x1,(),(),(),(),(),(),(),(),(),x11,x12,x13,(),(),(),(),x18,x19,x20,(),(),(),x24,x25,wI (x26+(1:Int)),u12),((p0,p1,p2,()),())))) .fail) (.done (.exit 4) C5o (((),x1,(),(),(),(),(),(),(),(),(),x11,x12,x13,(),(),(),(),x18,x19,x20,u18),())))
abbrev A9e:=(Lq2)×Lq1×(Int)×(Int)×Lq2×(Int)×(Int)×Lq2×(Int)×(Int)
abbrev B1n:=Nat×(Bool)×Lq2×Lq1×(Int)×(Int)×Lq2×(Int)×(Int)
def B9M:B1n:=(99,(false:Bool),([]:Lq2),([]:Lq1),((0:Int):Int),((0:Int):Int),([]:Lq2),((0:Int):Int),((0:Int):Int))
noncomputable def B0A (x1:Lq2) (x11:Lq1) (x12 x13:Int) (x18:Lq2) (x19 x20:Int) (x24:Lq2) (x25 x26 p0:Int) (p1 p2:ByteArray):A9e ⊕ B1n:=(cond (decide (x26<x25)) (cond (decide (0≤x26∧x26<(x24.length:Int))) (cond ((((x24.getD x26.toNat ((0:Int),(bE,bE))).2).1).toList==p1.toList) (.inr (0,true,([]:Lq2),([]:Lq1),((0:Int):Int),((0:Int):Int),([]:Lq2),((0:Int):Int),((0:Int):Int))) (.inl (x1,x11,x12,x13,x18,x19,x20,x24,x25,wI (x26+(1:Int))))) (.inr B9M)) (.inr (1,(false:Bool),x1,x11,x12,x13,x18,x19,x20)))
noncomputable def B9Q (x1:Lq2) (x11:Lq1) (x12 x13:Int) (x18:Lq2) (x19 x20:Int) (x24:Lq2) (x25 x26 p0:Int) (p1 p2:ByteArray):B1n:=itX (fun v:A9e=>B0A v.1 v.2.1 v.2.2.1 v.2.2.2.1 v.2.2.2.2.1 v.2.2.2.2.2.1 v.2.2.2.2.2.2.1 v.2.2.2.2.2.2.2.1 v.2.2.2.2.2.2.2.2.1 v.2.2.2.2.2.2.2.2.2 p0 p1 p2) B9M (x1,x11,x12,x13,x18,x19,x20,x24,x25,x26)
noncomputable def B9G (p0:Int) (p1 p2:ByteArray) (a:B1n):CT:=(.br (a.1==0) (.done .ret C5n (((),(),(),(),a.2.1,u34),())) (.br (a.1==1) (.done (.exit 4) C5o (((),a.2.2.1,(),(),(),(),(),(),(),(),(),a.2.2.2.1,a.2.2.2.2.1,a.2.2.2.2.2.1,(),(),(),(),a.2.2.2.2.2.2.1,a.2.2.2.2.2.2.2.1,a.2.2.2.2.2.2.2.2,u18),())) .fail))
noncomputable def E19 (x1:Lq2) (x11:Lq1) (x12 x13:Int) (x18:Lq2) (x19 x20:Int) (x24:Lq2) (x25 x26 p0:Int) (p1 p2:ByteArray):CT:=(B9G p0 p1 p2) (B9Q x1 x11 x12 x13 x18 x19 x20 x24 x25 x26 p0 p1 p2)
noncomputable abbrev B3Y {α:Sort _} (f:Lq2→Lq1→Int→Int→Lq2→Int→Int→Lq2→Int→Int→Int→ByteArray→ByteArray→α) (d:W6.den):α:=f d.1.2.1 d.1.2.2.2.2.2.2.2.2.2.2.2.1 d.1.2.2.2.2.2.2.2.2.2.2.2.2.1 d.1.2.2.2.2.2.2.2.2.2.2.2.2.2.1 d.1.2.2.2.2.2.2.2.2.2.2.2.2.2.2.2.2.2.2.1 d.1.2.2.2.2.2.2.2.2.2.2.2.2.2.2.2.2.2.2.2.1 d.1.2.2.2.2.2.2.2.2.2.2.2.2.2.2.2.2.2.2.2.2.1 d.1.2.2.2.2.2.2.2.2.2.2.2.2.2.2.2.2.2.2.2.2.2.2.2.2.1 d.1.2.2.2.2.2.2.2.2.2.2.2.2.2.2.2.2.2.2.2.2.2.2.2.2.2.1 d.1.2.2.2.2.2.2.2.2.2.2.2.2.2.2.2.2.2.2.2.2.2.2.2.2.2.2.1 d.2.1.1 d.2.1.2.1 d.2.1.2.2.1
noncomputable abbrev B93:W6.den→RT W6.den:=(B3Y C9W)
noncomputable abbrev C9z (p0:Int) (p1 p2:ByteArray) (v:A9e):W6.den:=(((),v.1,(),(),(),(),(),(),(),(),(),v.2.1,v.2.2.1,v.2.2.2.1,(),(),(),(),v.2.2.2.2.1,v.2.2.2.2.2.1,v.2.2.2.2.2.2.1,(),(),(),v.2.2.2.2.2.2.2.1,v.2.2.2.2.2.2.2.2.1,v.2.2.2.2.2.2.2.2.2,u12),((p0,p1,p2,()),()))
theorem E1D (p0:Int) (p1 p2:ByteArray):(∀ v:A9e,(C9W v.1 v.2.1 v.2.2.1 v.2.2.2.1 v.2.2.2.2.1 v.2.2.2.2.2.1 v.2.2.2.2.2.2.1 v.2.2.2.2.2.2.2.1 v.2.2.2.2.2.2.2.2.1 v.2.2.2.2.2.2.2.2.2 p0 p1 p2).val=A5T (C9z p0 p1 p2) (B9G p0 p1 p2) (B0A v.1 v.2.1 v.2.2.1 v.2.2.2.1 v.2.2.2.2.1 v.2.2.2.2.2.1 v.2.2.2.2.2.2.1 v.2.2.2.2.2.2.2.1 v.2.2.2.2.2.2.2.2.1 v.2.2.2.2.2.2.2.2.2 p0 p1 p2))∧∀ a:B1n,CEnd W6.den ((B9G p0 p1 p2) a):=⟨fun v=>(A6V (A6V (A6V rfl rfl) rfl) rfl),fun a=>(A6I aCD (A6I aCD A6K))⟩
noncomputable def C9q (x1:Lq2) (x11:Lq1) (x12 x13:Int) (x18:Lq2) (x19 x20:Int) (x24:Lq2) (x25 x26 p0:Int) (p1 p2:ByteArray):Option (Ex×St):=(cond (decide (x26<x25)) (cond (decide (0≤x26∧x26<(x24.length:Int))) (cond ((((x24.getD x26.toNat ((0:Int),(bE,bE))).2).1).toList==p1.toList) (some (.ret,(⟨(.junk::.junk::.junk::.junk::(.t true .bool true)::F1F),[],0,[]⟩:St))) (some (.normal,(⟨(.junk::(.t false tq7 x1)::.junk::.junk::.junk::.junk::.junk::.junk::(.ptr 0 0 1 0)::.junk::.junk::(.t false tq8 x11)::(ti x12)::(ti x13)::.junk::.junk::.junk::.junk::(.t false tq7 x18)::(ti x19)::(ti x20)::.junk::.junk::.junk::(.t false tq7 x24)::(ti x25)::(ti (wI (x26+(1:Int))))::F7n),[(.box [(ti p0),(.t true .str p1),(.t true .str p2)])],0,[]⟩:St)))) none) (some ((.exit 4),(⟨(.junk::(.t false tq7 x1)::.junk::.junk::.junk::.junk::.junk::.junk::.junk::.junk::.junk::(.t false tq8 x11)::(ti x12)::(ti x13)::.junk::.junk::.junk::.junk::(.t false tq7 x18)::(ti x19)::(ti x20)::F5O),[],0,[]⟩:St))))
theorem D9M:RdA G96 aLn 4 C3Q W6 0 [] (kepts [4] [(4,[1,11,12,13,18,19,20])]) (B3Y C9q):=by
 intro d
 kernel_rfl
theorem D9W:∀ d:W6.den,(B3Y C9q) d=(B93 d).opt 0 []:=by
 intro d
 kernel_rfl
noncomputable abbrev C6R:St→Option Tree:=W6.say 0 [] [] (B3Y E19)
theorem E1a:aPL C6R C3Q:=SS.wp2 hlz [] B93 D9M D9W _ (fun d=>Runs.ofI2 (step:=B93) (C9z d.2.1.1 d.2.1.2.1 d.2.1.2.2.1) (E1D d.2.1.1 d.2.1.2.1 d.2.1.2.2.1) rfl (d.1.2.1,d.1.2.2.2.2.2.2.2.2.2.2.2.1,d.1.2.2.2.2.2.2.2.2.2.2.2.2.1,d.1.2.2.2.2.2.2.2.2.2.2.2.2.2.1,d.1.2.2.2.2.2.2.2.2.2.2.2.2.2.2.2.2.2.2.1,d.1.2.2.2.2.2.2.2.2.2.2.2.2.2.2.2.2.2.2.2.1,d.1.2.2.2.2.2.2.2.2.2.2.2.2.2.2.2.2.2.2.2.2.1,d.1.2.2.2.2.2.2.2.2.2.2.2.2.2.2.2.2.2.2.2.2.2.2.2.2.1,d.1.2.2.2.2.2.2.2.2.2.2.2.2.2.2.2.2.2.2.2.2.2.2.2.2.2.1,d.1.2.2.2.2.2.2.2.2.2.2.2.2.2.2.2.2.2.2.2.2.2.2.2.2.2.2.1))
abbrev W5:SS:=⟨(.junk::.t false tq7::.junk::.junk::.junk::.junk::.junk::.junk::.junk::.junk::.junk::.t false tq8::tI::tI::.junk::.junk::.junk::.junk::.t false tq7::tI::tI::E9E),[]⟩
abbrev C5l:SS:=⟨(.junk::.junk::.junk::.junk::.t true .bool::E9F),[]⟩
abbrev C5m:SS:=⟨(.junk::.t false tq7::.junk::.junk::.junk::.junk::.junk::.junk::.junk::.junk::.junk::.t false tq8::tI::tI::F4N),[]⟩
noncomputable def B8f (x1:Lq2) (x11:Lq1) (x12 x13:Int) (x18:Lq2) (x19 x20:Int):=let z1:=x18.getD x20.toNat ((0:Int),(bE,bE));B9Q x1 x11 x12 x13 x18 x19 x20 x1 (x1.length:Int) (0:Int) (z1.1) ((z1.2).1) ((z1.2).2)
noncomputable def C9V (x1:Lq2) (x11:Lq1) (x12 x13:Int) (x18:Lq2) (x19 x20:Int):RT W5.den:=let z1:=B8f x1 x11 x12 x13 x18 x19 x20;(.br (decide (x20<x19)) (.br (decide (0≤x20∧x20<(x18.length:Int))) (.br (z1.1==0) (.done .ret C5l (((),(),(),(),(z1.2.1),u34),())) (.br (z1.1==1) (.next (((),(z1.2.2.1),(),(),(),(),(),(),(),(),(),(z1.2.2.2.1),(z1.2.2.2.2.1),(z1.2.2.2.2.2.1),(),(),(),(),(z1.2.2.2.2.2.2.1),(z1.2.2.2.2.2.2.2.1),wI ((z1.2.2.2.2.2.2.2.2)+(1:Int)),u18),())) .fail)) .fail) (.done (.exit 2) C5m (((),x1,(),(),(),(),(),(),(),(),(),x11,x12,x13,u25),())))
abbrev A9d:=(Lq2)×Lq1×(Int)×(Int)×Lq2×(Int)×(Int)
abbrev B1m:=Nat×(Bool)×Lq2×Lq1×(Int)×(Int)
def B33:B1m:=(99,(false:Bool),([]:Lq2),([]:Lq1),((0:Int):Int),((0:Int):Int))
noncomputable def B0z (x1:Lq2) (x11:Lq1) (x12 x13:Int) (x18:Lq2) (x19 x20:Int):A9d ⊕ B1m:=let z1:=B8f x1 x11 x12 x13 x18 x19 x20;(cond (decide (x20<x19)) (cond (decide (0≤x20∧x20<(x18.length:Int))) (cond (z1.1==0) (.inr (0,(z1.2.1),([]:Lq2),([]:Lq1),((0:Int):Int),((0:Int):Int))) (cond (z1.1==1) (.inl ((z1.2.2.1),(z1.2.2.2.1),(z1.2.2.2.2.1),(z1.2.2.2.2.2.1),(z1.2.2.2.2.2.2.1),(z1.2.2.2.2.2.2.2.1),wI ((z1.2.2.2.2.2.2.2.2)+(1:Int)))) (.inr B33))) (.inr B33)) (.inr (1,(false:Bool),x1,x11,x12,x13)))
noncomputable def B9P (x1:Lq2) (x11:Lq1) (x12 x13:Int) (x18:Lq2) (x19 x20:Int):B1m:=itX (fun v:A9d=>B0z v.1 v.2.1 v.2.2.1 v.2.2.2.1 v.2.2.2.2.1 v.2.2.2.2.2.1 v.2.2.2.2.2.2) B33 (x1,x11,x12,x13,x18,x19,x20)
noncomputable def B9F (a:B1m):CT:=(.br (a.1==0) (.done .ret C5l (((),(),(),(),a.2.1,u34),())) (.br (a.1==1) (.done (.exit 2) C5m (((),a.2.2.1,(),(),(),(),(),(),(),(),(),a.2.2.2.1,a.2.2.2.2.1,a.2.2.2.2.2,u25),())) .fail))
noncomputable def E18 (x1:Lq2) (x11:Lq1) (x12 x13:Int) (x18:Lq2) (x19 x20:Int):CT:=B9F (B9P x1 x11 x12 x13 x18 x19 x20)
noncomputable abbrev B3X {α:Sort _} (f:Lq2→Lq1→Int→Int→Lq2→Int→Int→α) (d:W5.den):α:=f d.1.2.1 d.1.2.2.2.2.2.2.2.2.2.2.2.1 d.1.2.2.2.2.2.2.2.2.2.2.2.2.1 d.1.2.2.2.2.2.2.2.2.2.2.2.2.2.1 d.1.2.2.2.2.2.2.2.2.2.2.2.2.2.2.2.2.2.2.1 d.1.2.2.2.2.2.2.2.2.2.2.2.2.2.2.2.2.2.2.2.1 d.1.2.2.2.2.2.2.2.2.2.2.2.2.2.2.2.2.2.2.2.2.1
noncomputable abbrev B92:W5.den→RT W5.den:=(B3X C9V)
noncomputable abbrev C9y (v:A9d):W5.den:=(((),v.1,(),(),(),(),(),(),(),(),(),v.2.1,v.2.2.1,v.2.2.2.1,(),(),(),(),v.2.2.2.2.1,v.2.2.2.2.2.1,v.2.2.2.2.2.2,u18),())
theorem E1C:(∀ v:A9d,(C9V v.1 v.2.1 v.2.2.1 v.2.2.2.1 v.2.2.2.2.1 v.2.2.2.2.2.1 v.2.2.2.2.2.2).val=A5T C9y B9F (B0z v.1 v.2.1 v.2.2.1 v.2.2.2.1 v.2.2.2.2.1 v.2.2.2.2.2.1 v.2.2.2.2.2.2))∧∀ a:B1m,CEnd W5.den (B9F a):=⟨fun v=>(A6V (A6V (A6V rfl (A6V rfl rfl)) rfl) rfl),fun a=>(A6I aCD (A6I aCD A6K))⟩
noncomputable abbrev E13:Nat→St→Option Tree:=fun b=>match b with | 4=>C6R | _=>fun _=>none
noncomputable def C9p (x1:Lq2) (x11:Lq1) (x12 x13:Int) (x18:Lq2) (x19 x20:Int):Option (Ex×St):=let z1:=B8f x1 x11 x12 x13 x18 x19 x20;(cond (decide (x20<x19)) (cond (decide (0≤x20∧x20<(x18.length:Int))) (cond (z1.1==0) (some (.ret,(⟨(.junk::.junk::.junk::.junk::(.t true .bool (z1.2.1))::F1F),[],0,[]⟩:St))) (cond (z1.1==1) (some (.normal,(⟨(.junk::(.t false tq7 (z1.2.2.1))::.junk::.junk::.junk::.junk::.junk::.junk::.junk::.junk::.junk::(.t false tq8 (z1.2.2.2.1))::(ti (z1.2.2.2.2.1))::(ti (z1.2.2.2.2.2.1))::.junk::.junk::.junk::.junk::(.t false tq7 (z1.2.2.2.2.2.2.1))::(ti (z1.2.2.2.2.2.2.2.1))::(ti (wI ((z1.2.2.2.2.2.2.2.2)+(1:Int))))::F5O),[],0,[]⟩:St))) none)) none) (some ((.exit 2),(⟨(.junk::(.t false tq7 x1)::.junk::.junk::.junk::.junk::.junk::.junk::.junk::.junk::.junk::(.t false tq8 x11)::(ti x12)::(ti x13)::F5P),[],0,[]⟩:St))))
theorem D9L:RdA G96 (E13) 2 B5S W5 0 [] (kepts [4] [(2,[1,11,12,13])]) (B3X C9p):=by
 intro d
 kernel_rfl
theorem D9V:∀ d:W5.den,(B3X C9p) d=(B92 d).opt 0 []:=by
 intro d
 kernel_rfl
noncomputable abbrev C6Q:St→Option Tree:=W5.say 0 [] [] (B3X E18)
theorem E09:aPL C6Q B5S:=SS.wp2 (hl1 (i:=4) (by kernel_rfl) E1a) [] B92 D9L D9V _ (fun d=>Runs.ofI2 (step:=B92) C9y E1C rfl (d.1.2.1,d.1.2.2.2.2.2.2.2.2.2.2.2.1,d.1.2.2.2.2.2.2.2.2.2.2.2.2.1,d.1.2.2.2.2.2.2.2.2.2.2.2.2.2.1,d.1.2.2.2.2.2.2.2.2.2.2.2.2.2.2.2.2.2.2.1,d.1.2.2.2.2.2.2.2.2.2.2.2.2.2.2.2.2.2.2.2.1,d.1.2.2.2.2.2.2.2.2.2.2.2.2.2.2.2.2.2.2.2.2.1))
abbrev W4:SS:=⟨(.junk::.t false tq7::.junk::.junk::.junk::.junk::.junk::.junk::.junk::.junk::.junk::.t false tq8::tI::tI::F4N),[]⟩
abbrev C5j:SS:=⟨(.junk::.junk::.junk::.junk::.t true .bool::E9F),[]⟩
abbrev C5k:SS:=⟨(.junk::F7E),[]⟩
noncomputable def B8h (x1:Lq2) (x11:Lq1) (x12 x13:Int):=let z1:=((x11.getD x13.toNat ((0:Int),((0:Int),[]))).2).2;B9P x1 x11 x12 x13 z1 ((z1.length:Nat):Int) (0:Int)
noncomputable def C9U (x1:Lq2) (x11:Lq1) (x12 x13:Int):RT W4.den:=let z1:=B8h x1 x11 x12 x13;(.br (decide (x13<x12)) (.br (decide (0≤x13∧x13<(x11.length:Int))) (.br (z1.1==0) (.done .ret C5j (((),(),(),(),(z1.2.1),u34),())) (.br (z1.1==1) (.next (((),(z1.2.2.1),(),(),(),(),(),(),(),(),(),(z1.2.2.2.1),(z1.2.2.2.2.1),wI ((z1.2.2.2.2.2)+(1:Int)),u25),())) .fail)) .fail) (.done (.exit 0) C5k ((u39),())))
abbrev A9c:=(Lq2)×Lq1×(Int)×(Int)
abbrev B1l:=Nat×(Bool)
def B32:B1l:=(99,(false:Bool))
noncomputable def B0y (x1:Lq2) (x11:Lq1) (x12 x13:Int):A9c ⊕ B1l:=let z1:=B8h x1 x11 x12 x13;(cond (decide (x13<x12)) (cond (decide (0≤x13∧x13<(x11.length:Int))) (cond (z1.1==0) (.inr (0,(z1.2.1))) (cond (z1.1==1) (.inl ((z1.2.2.1),(z1.2.2.2.1),(z1.2.2.2.2.1),wI ((z1.2.2.2.2.2)+(1:Int)))) (.inr B32))) (.inr B32)) (.inr (1,(false:Bool))))
noncomputable def B0j (x1:Lq2) (x11:Lq1) (x12 x13:Int):B1l:=itX (fun v:A9c=>B0y v.1 v.2.1 v.2.2.1 v.2.2.2) B32 (x1,x11,x12,x13)
noncomputable def B9E (a:B1l):CT:=(.br (a.1==0) (.done .ret C5j (((),(),(),(),a.2,u34),())) (.br (a.1==1) (.done (.exit 0) C5k ((u39),())) .fail))
noncomputable def E17 (x1:Lq2) (x11:Lq1) (x12 x13:Int):CT:=B9E (B0j x1 x11 x12 x13)
noncomputable abbrev B3W {α:Sort _} (f:Lq2→Lq1→Int→Int→α) (d:W4.den):α:=f d.1.2.1 d.1.2.2.2.2.2.2.2.2.2.2.2.1 d.1.2.2.2.2.2.2.2.2.2.2.2.2.1 d.1.2.2.2.2.2.2.2.2.2.2.2.2.2.1
noncomputable abbrev B91:W4.den→RT W4.den:=(B3W C9U)
noncomputable abbrev C9x (v:A9c):W4.den:=(((),v.1,(),(),(),(),(),(),(),(),(),v.2.1,v.2.2.1,v.2.2.2,u25),())
theorem E1B:(∀ v:A9c,(C9U v.1 v.2.1 v.2.2.1 v.2.2.2).val=A5T C9x B9E (B0y v.1 v.2.1 v.2.2.1 v.2.2.2))∧∀ a:B1l,CEnd W4.den (B9E a):=⟨fun v=>(A6V (A6V (A6V rfl (A6V rfl rfl)) rfl) rfl),fun a=>(A6I aCD (A6I aCD A6K))⟩
noncomputable abbrev E12:Nat→St→Option Tree:=fun b=>match b with | 2=>C6Q | _=>fun _=>none
noncomputable def C9o (x1:Lq2) (x11:Lq1) (x12 x13:Int):Option (Ex×St):=let z1:=B8h x1 x11 x12 x13;(cond (decide (x13<x12)) (cond (decide (0≤x13∧x13<(x11.length:Int))) (cond (z1.1==0) (some (.ret,(⟨(.junk::.junk::.junk::.junk::(.t true .bool (z1.2.1))::F1F),[],0,[]⟩:St))) (cond (z1.1==1) (some (.normal,(⟨(.junk::(.t false tq7 (z1.2.2.1))::.junk::.junk::.junk::.junk::.junk::.junk::.junk::.junk::.junk::(.t false tq8 (z1.2.2.2.1))::(ti (z1.2.2.2.2.1))::(ti (wI ((z1.2.2.2.2.2)+(1:Int))))::F5P),[],0,[]⟩:St))) none)) none) (some ((.exit 0),(⟨(.junk::F7t),[],0,[]⟩:St))))
theorem D9K:RdA G96 (E12) 0 B5R W4 0 [] (kepts [4] [(0,[])]) (B3W C9o):=by
 intro d
 kernel_rfl
theorem D9U:∀ d:W4.den,(B3W C9o) d=(B91 d).opt 0 []:=by
 intro d
 kernel_rfl
noncomputable abbrev C6P:St→Option Tree:=W4.say 0 [] [] (B3W E17)
theorem E08:aPL C6P B5R:=SS.wp2 (hl1 (i:=2) (by kernel_rfl) E09) [] B91 D9K D9U _ (fun d=>Runs.ofI2 (step:=B91) C9x E1B rfl (d.1.2.1,d.1.2.2.2.2.2.2.2.2.2.2.2.1,d.1.2.2.2.2.2.2.2.2.2.2.2.2.1,d.1.2.2.2.2.2.2.2.2.2.2.2.2.2.1))
noncomputable def A7q (a0:Lq1) (a1:Lq2):Bool:=let z1:=B0j a1 a0 (a0.length:Int) (0:Int);(cond (z1.1==0) (z1.2) false)
noncomputable abbrev C0L (r:Bool):AV×List AObj:=((.t true .bool r),[])
noncomputable abbrev C7y:F5 B5x→AV×List AObj:=fun d=>C0L (A7q d.1 d.2.1)
noncomputable def X7 (a0:Lq1) (a1:Lq2):Bool:=let z1:=B0j a1 a0 (a0.length:Int) (0:Int);cond (z1.1==0) true (z1.1==1)
noncomputable abbrev C2Y:F5 B5x→Bool:=fun d=>X7 d.1 d.2.1
noncomputable abbrev E5Z:Nat→St→Option Tree:=fun b=>match b with | 0=>C6P | _=>fun _=>none
theorem E3V:A6Q true G96 (E5Z) Tryz.f135 B5x C2Y C7y:=by
 rintro ⟨a0,⟨a1,_⟩⟩ hp
 change X7 a0 a1=true at hp
 unfold X7 at hp
 refine Eq.trans (b:=(let z1:=B0j a1 a0 (a0.length:Int) (0:Int);cond (z1.1==0) (some (C0L (z1.2))) (cond (z1.1==1) (some (C0L false)) none))) (by kernel_rfl) ?_
 exact (H7 C0L hp (fun hp=>rfl) (fun hp=>(A6T hp fun _h=>rfl)))
theorem E6l:aPP 135 (A2z B5x C2Y C7y):=pcD true G96 (hl1 (i:=0) (by kernel_rfl) E08) E3V
noncomputable def S97:Tab:=Tab.add S96 135 (lift (A2z B5x C2Y C7y))
noncomputable def F9h:FuncId→Bool:=qadd F9g 135
theorem G97:aPG S97 F9h:=G96.addQ E6l (cbl Tryz.f135) (fun _=>rfl)

abbrev C0v:SS:=⟨[.agg [.t true .str,.t true .str],.ptr 0 0 1 0],[.box [.t true .str]]⟩
noncomputable def D9s (x0_0 x0_1 p0:ByteArray):Bool:=(x0_0.toList==p0.toList)
noncomputable abbrev E9h (p0:ByteArray) (r:Bool):AV×List AObj×List Nat:=((.t true .bool r),[(.box [(.t true .str p0)])],[])
noncomputable abbrev E0h:C0v.den→AV×List AObj×List Nat:=fun d=>E9h d.2.1.1 (D9s d.1.1.1 d.1.1.2.1 d.2.1.1)
noncomputable abbrev D4H:C0v.den→Bool:=fun d=>true
theorem E5q:A6P G97 aLn Tryz.f208 C0v D4H E0h:=by
 rintro ⟨⟨⟨x0_0,x0_1,_⟩,_,_⟩,⟨⟨p0,_⟩,_⟩⟩ hp
 kernel_rfl
noncomputable abbrev E0q:=winQ (msum C0v D4H E0h)
theorem E8T:aPM 208 E0q:=(mcM G97 hlz E5q).winQ (A6i fun d=>⟨rfl,rfl⟩)
noncomputable def S98:Tab:=Tab.add S97 208 (E0q)
noncomputable def F9i:FuncId→Bool:=qadd F9h 208
theorem G98:aPG S98 F9i:=G97.addMQ E8T (A6p _) (cbl Tryz.f208) (A4V _)

abbrev O1:SS:=⟨[.t false Z3,.fn 208 [0]],[.box [.t true .str]]⟩
abbrev H9:SS:=⟨(.t false Z3::.fn 208 [0]::.junk::.junk::.junk::.junk::.junk::tI::tI::F3t),[.box [.t true .str]]⟩
abbrev A0m:SS:=⟨(.junk::.junk::.junk::.junk::tI::E9D),[.box [.t true .str]]⟩
abbrev A0n:SS:=⟨(.junk::D1v),[.box [.t true .str]]⟩
noncomputable def T6 (x0:LBBe) (x8:Int) (p0:ByteArray):=let z1:=x0.getD x8.toNat (bE,bE);D9s (z1.1) (z1.2) p0
noncomputable def A7h (x0:LBBe) (x7 x8:Int) (p0:ByteArray):RT H9.den:=(.br (decide (x8<x7)) (.br (decide (0≤x8∧x8<(x0.length:Int))) (.br (T6 x0 x8 p0) (.done .ret A0m (((),(),(),(),x8,u15),((p0,()),()))) (.next ((x0,(),(),(),(),(),(),x7,wI (x8+(1:Int)),u11),((p0,()),())))) .fail) (.done (.exit 0) A0n ((u20),((p0,()),()))))
abbrev J9:=(LBBe)×(Int)×(Int)
abbrev J7:=Nat×(Int)
def R6:J7:=(99,((0:Int):Int))
noncomputable def L5 (x0:LBBe) (x7 x8:Int) (p0:ByteArray):J9 ⊕ J7:=(cond (decide (x8<x7)) (cond (decide (0≤x8∧x8<(x0.length:Int))) (cond (T6 x0 x8 p0) (.inr (0,x8)) (.inl (x0,x7,wI (x8+(1:Int))))) (.inr R6)) (.inr (1,((0:Int):Int))))
noncomputable def L3 (x0:LBBe) (x7 x8:Int) (p0:ByteArray):J7:=itX (fun v:J9=>L5 v.1 v.2.1 v.2.2 p0) R6 (x0,x7,x8)
noncomputable def R3 (p0:ByteArray) (a:J7):CT:=(.br (a.1==0) (.done .ret A0m (((),(),(),(),a.2,u15),((p0,()),()))) (.br (a.1==1) (.done (.exit 0) A0n ((u20),((p0,()),()))) .fail))
noncomputable def B27 (x0:LBBe) (x7 x8:Int) (p0:ByteArray):CT:=(R3 p0) (L3 x0 x7 x8 p0)
noncomputable abbrev A68 {α:Sort _} (f:LBBe→Int→Int→ByteArray→α) (d:H9.den):α:=f d.1.1 d.1.2.2.2.2.2.2.2.1 d.1.2.2.2.2.2.2.2.2.1 d.2.1.1
noncomputable abbrev R9:H9.den→RT H9.den:=(A68 A7h)
noncomputable def A0a:Code:=((C4 0 (A0y Tryz.f207)).getD 0 (0,.skip)).2
noncomputable abbrev A7c (p0:ByteArray) (v:J9):H9.den:=((v.1,(),(),(),(),(),(),v.2.1,v.2.2,u11),((p0,()),()))
theorem B2V (p0:ByteArray):(∀ v:J9,(A7h v.1 v.2.1 v.2.2 p0).val=A5T (A7c p0) (R3 p0) (L5 v.1 v.2.1 v.2.2 p0))∧∀ a:J7,CEnd H9.den ((R3 p0) a):=⟨fun v=>(A6V (A6V (A6V rfl rfl) rfl) rfl),fun a=>(A6I aCD (A6I aCD A6K))⟩
theorem B2t:RdA G98 aLn 0 A0a H9 1 [] (kepts [4] [(0,[])]) (fun d=>(R9 d).opt 1 []):=by
 intro d
 kernel_rfl
noncomputable abbrev A65:St→Option Tree:=H9.say 1 [] [] (A68 B27)
theorem B2N:aPL A65 A0a:=SS.wp2 hlz [] R9 B2t (fun d=>rfl) _ (fun d=>Runs.ofI2 (step:=R9) (A7c d.2.1.1) (B2V d.2.1.1) rfl (d.1.1,d.1.2.2.2.2.2.2.2.1,d.1.2.2.2.2.2.2.2.2.1))
noncomputable def Q2 (x0:LBBe) (p0:ByteArray):Int:=let z1:=L3 x0 (x0.length:Int) (0:Int) p0;(cond (z1.1==0) (z1.2) (-1:Int))
noncomputable abbrev P2 (p0:ByteArray) (r:Int):AV×List AObj×List Nat:=((ti r),[(.box [(.t true .str p0)])],[])
noncomputable abbrev A78:O1.den→AV×List AObj×List Nat:=fun d=>P2 d.2.1.1 (Q2 d.1.1 d.2.1.1)
noncomputable def K9 (x0:LBBe) (p0:ByteArray):Bool:=let z1:=L3 x0 (x0.length:Int) (0:Int) p0;cond (z1.1==0) true (z1.1==1)
noncomputable abbrev A7y:O1.den→Bool:=fun d=>K9 d.1.1 d.2.1.1
noncomputable abbrev B4f:Nat→St→Option Tree:=fun b=>match b with | 0=>A65 | _=>fun _=>none
theorem B3j:A6P G98 (B4f) Tryz.f207 O1 A7y A78:=by
 rintro ⟨⟨x0,_,_⟩,⟨⟨p0,_⟩,_⟩⟩ hp
 change K9 x0 p0=true at hp
 unfold K9 at hp
 refine Eq.trans (b:=(let z1:=L3 x0 (x0.length:Int) (0:Int) p0;cond (z1.1==0) (some (P2 p0 (z1.2))) (cond (z1.1==1) (some (P2 p0 (-1:Int))) none))) (by kernel_rfl) ?_
 exact (H7 (P2 p0) hp (fun hp=>rfl) (fun hp=>(A6T hp fun _h=>rfl)))
noncomputable abbrev U4:=winQ (msum O1 A7y A78)
theorem A73:aPM 207 U4:=(mcM G98 (hl1 (i:=0) (by kernel_rfl) B2N) B3j).winQ (A6i fun d=>⟨rfl,rfl⟩)
noncomputable def S99:Tab:=Tab.add S98 207 (U4)
noncomputable def F9j:FuncId→Bool:=qadd F9i 207
theorem G99:aPG S99 F9j:=G98.addMQ A73 (A6p _) (cbl Tryz.f207) (A4V _)

abbrev C5D:List PSh:=[.t Z3,.t .str]
noncomputable def B8e (a0:LBBe) (a1:ByteArray):Int:=(Q2 a0 a1)
noncomputable abbrev E5K (r:Int):AV×List AObj:=((ti r),[])
noncomputable abbrev D87:F5 C5D→AV×List AObj:=fun d=>E5K (B8e d.1 d.2.1)
noncomputable def B2O (a0:LBBe) (a1:ByteArray):Bool:=K9 a0 a1
noncomputable abbrev D1L:F5 C5D→Bool:=fun d=>B2O d.1 d.2.1
theorem F0e:A6Q true G99 aLn Tryz.f196 C5D D1L D87:=by
 rintro ⟨a0,⟨a1,_⟩⟩ hp
 change B2O a0 a1=true at hp
 unfold B2O at hp
 refine Eq.trans (b:=(cond (K9 a0 a1) (some (E5K (Q2 a0 a1))) none)) (by kernel_rfl) ?_
 exact (A6T hp fun _h=>rfl)
theorem F21:aPP 196 (A2z C5D D1L D87):=pcD true G99 hlz F0e
noncomputable def F9k:Tab:=Tab.add S99 196 (lift (A2z C5D D1L D87))
noncomputable def F53:FuncId→Bool:=qadd F9j 196
theorem F6S:aPG F9k F53:=G99.addQ F21 (cbl Tryz.f196) (fun _=>rfl)

abbrev C5A:List PSh:=[.t Z3,.t .str]
noncomputable def D7y (a0:LBBe) (a1:ByteArray):ByteArray×Bool:=(cond (decide ((B8e a0 a1)<(0:Int))) (bE,false) ((a0.getD ((B8e a0 a1).toNat) (bE,bE)).2,true))
noncomputable abbrev D3h (r:ByteArray×Bool):AV×List AObj:=((.tup [(.t true .str r.1),(.t true .bool r.2)]),[])
noncomputable abbrev D84:F5 C5A→AV×List AObj:=fun d=>D3h (D7y d.1 d.2.1)
noncomputable def B48 (a0:LBBe) (a1:ByteArray):Bool:=let z1:=B8e a0 a1;(B2O a0 a1)&&(cond (decide (z1<(0:Int))) true (decide (0≤z1∧z1<(a0.length:Int))))
noncomputable abbrev D1I:F5 C5A→Bool:=fun d=>B48 d.1 d.2.1
theorem F0b:A6Q true F6S aLn Tryz.f172 C5A D1I D84:=by
 rintro ⟨a0,⟨a1,_⟩⟩ hp
 change B48 a0 a1=true at hp
 unfold B48 at hp
 refine Eq.trans (b:=(let z1:=B8e a0 a1;cond (B2O a0 a1) (cond (decide (z1<(0:Int))) (some (D3h ((⟨#[]⟩:ByteArray),false))) (cond (decide (0≤z1∧z1<(a0.length:Int))) (some (D3h ((a0.getD (z1.toNat) ((⟨#[]⟩:ByteArray),(⟨#[]⟩:ByteArray))).2,true))) none)) none)) (by kernel_rfl) ?_
 exact (A6R hp fun hp=>(H7 D3h hp (fun hp=>rfl) (fun hp=>(A6T hp fun _h=>rfl))))
theorem F2Y:aPP 172 (A2z C5A D1I D84):=pcD true F6S hlz F0b
noncomputable def F9l:Tab:=Tab.add F9k 172 (lift (A2z C5A D1I D84))
noncomputable def F54:FuncId→Bool:=qadd F53 172
theorem F44:aPG F9l F54:=F6S.addQ F2Y (cbl Tryz.f172) (fun _=>rfl)

abbrev G1n:List Sh:=.junk::F7C
abbrev u33:=((),u32)
abbrev F5Q:List AV:=.junk::F5P
abbrev G1a:List AV:=.junk::F7r
abbrev D0u:List PSh:=[.t Z3,.t tq7]
abbrev A9S:SS:=⟨(.t false Z3::.junk::.junk::.junk::.junk::.junk::.junk::.junk::.junk::.t false tq7::tI::tI::C95),[]⟩
abbrev C63:SS:=⟨(.junk::.junk::.junk::.junk::.t true .bool::G1n),[]⟩
abbrev D6N:SS:=⟨(.junk::F4P),[]⟩
noncomputable def D3r (x0:LBBe) (x9:Lq2) (x11:Int):=D7y x0 (((x9.getD x11.toNat ((0:Int),(bE,bE))).2).1)
noncomputable def E0U (x0:LBBe) (x9:Lq2) (x10 x11:Int):RT A9S.den:=let z1:=x9.getD x11.toNat ((0:Int),(bE,bE));let z2:=D3r x0 x9 x11;(.br (decide (x11<x10)) (.br (decide (0≤x11∧x11<(x9.length:Int))) (.br ((z1.1) != (3:Int)) (.next ((x0,(),(),(),(),(),(),(),(),x9,x10,wI (x11+(1:Int)),u26),())) (.br (B48 x0 ((z1.2).1)) (.br (!((z2.2)==(!(((z1.2).2).toList==bE.toList)))) (.done .ret C63 (((),(),(),(),false,u33),())) (.br (!((z2.1).toList==((z1.2).2).toList)) (.done .ret C63 (((),(),(),(),false,u33),())) (.next ((x0,(),(),(),(),(),(),(),(),x9,x10,wI (x11+(1:Int)),u26),())))) .fail)) .fail) (.done (.exit 0) D6N ((u38),())))
abbrev B7h:=(LBBe)×Lq2×(Int)×(Int)
abbrev C1q:=Nat×(Bool)
def C33:C1q:=(99,(false:Bool))
noncomputable def B9u (x0:LBBe) (x9:Lq2) (x10 x11:Int):B7h ⊕ C1q:=let z1:=x9.getD x11.toNat ((0:Int),(bE,bE));let z2:=D3r x0 x9 x11;(cond (decide (x11<x10)) (cond (decide (0≤x11∧x11<(x9.length:Int))) (cond ((z1.1) != (3:Int)) (.inl (x0,x9,x10,wI (x11+(1:Int)))) (cond (B48 x0 ((z1.2).1)) (cond (!((z2.2)==(!(((z1.2).2).toList==bE.toList)))) (.inr (0,false)) (cond (!((z2.1).toList==((z1.2).2).toList)) (.inr (0,false)) (.inl (x0,x9,x10,wI (x11+(1:Int)))))) (.inr C33))) (.inr C33)) (.inr (1,(false:Bool))))
noncomputable def B85 (x0:LBBe) (x9:Lq2) (x10 x11:Int):C1q:=itX (fun v:B7h=>B9u v.1 v.2.1 v.2.2.1 v.2.2.2) C33 (x0,x9,x10,x11)
noncomputable def D09 (a:C1q):CT:=(.br (a.1==0) (.done .ret C63 (((),(),(),(),a.2,u33),())) (.br (a.1==1) (.done (.exit 0) D6N ((u38),())) .fail))
noncomputable def F04 (x0:LBBe) (x9:Lq2) (x10 x11:Int):CT:=D09 (B85 x0 x9 x10 x11)
noncomputable abbrev C3O {α:Sort _} (f:LBBe→Lq2→Int→Int→α) (d:A9S.den):α:=f d.1.1 d.1.2.2.2.2.2.2.2.2.2.1 d.1.2.2.2.2.2.2.2.2.2.2.1 d.1.2.2.2.2.2.2.2.2.2.2.2.1
noncomputable abbrev D2L:A9S.den→RT A9S.den:=(C3O E0U)
noncomputable def D4i:Code:=((C4 0 (A0y Tryz.f136)).getD 0 (0,.skip)).2
noncomputable abbrev E0I (v:B7h):A9S.den:=((v.1,(),(),(),(),(),(),(),(),v.2.1,v.2.2.1,v.2.2.2,u26),())
theorem E94:(∀ v:B7h,(E0U v.1 v.2.1 v.2.2.1 v.2.2.2).val=A5T E0I D09 (B9u v.1 v.2.1 v.2.2.1 v.2.2.2))∧∀ a:C1q,CEnd A9S.den (D09 a):=⟨fun v=>by repeat' first | apply A6V | rfl,fun a=>(A6I aCD (A6I aCD A6K))⟩
noncomputable def E0u (x0:LBBe) (x9:Lq2) (x10 x11:Int):Option (Ex×St):=let z1:=(⟨((.t false Z3 x0)::.junk::.junk::.junk::.junk::.junk::.junk::.junk::.junk::(.t false tq7 x9)::(ti x10)::(ti (wI (x11+(1:Int))))::F5Q),[],0,[]⟩:St);let z2:=x9.getD x11.toNat ((0:Int),(bE,bE));let z3:=(⟨(.junk::.junk::.junk::.junk::(.t true .bool false)::G1a),[],0,[]⟩:St);let z4:=D3r x0 x9 x11;(cond (decide (x11<x10)) (cond (decide (0≤x11∧x11<(x9.length:Int))) (cond ((z2.1) != (3:Int)) (some (.normal,z1)) (cond (B48 x0 ((z2.2).1)) (cond (!((z4.2)==(!(((z2.2).2).toList==bE.toList)))) (some (.ret,z3)) (cond (!((z4.1).toList==((z2.2).2).toList)) (some (.ret,z3)) (some (.normal,z1)))) none)) none) (some ((.exit 0),(⟨(.junk::F4H),[],0,[]⟩:St))))
theorem E7g:RdA F44 aLn 0 D4i A9S 0 [] (kepts [4] [(0,[])]) (C3O E0u):=by
 intro d
 kernel_rfl
theorem E7t:∀ d:A9S.den,(C3O E0u) d=(D2L d).opt 0 []:=by
 intro d
 kernel_rfl
noncomputable abbrev D8q:St→Option Tree:=A9S.say 0 [] [] (C3O F04)
theorem E9K:aPL D8q D4i:=SS.wp2 hlz [] D2L E7g E7t _ (fun d=>Runs.ofI2 (step:=D2L) E0I E94 rfl (d.1.1,d.1.2.2.2.2.2.2.2.2.2.1,d.1.2.2.2.2.2.2.2.2.2.2.1,d.1.2.2.2.2.2.2.2.2.2.2.2.1))
noncomputable def B9O (a0:LBBe) (a1:Lq2):Bool:=let z1:=B85 a0 a1 (a1.length:Int) (0:Int);(cond (z1.1==0) (z1.2) true)
noncomputable abbrev D7m (r:Bool):AV×List AObj:=((.t true .bool r),[])
noncomputable abbrev E2A:F5 D0u→AV×List AObj:=fun d=>D7m (B9O d.1 d.2.1)
noncomputable def B2g (a0:LBBe) (a1:Lq2):Bool:=let z1:=B85 a0 a1 (a1.length:Int) (0:Int);cond (z1.1==0) true (z1.1==1)
noncomputable abbrev D6g:F5 D0u→Bool:=fun d=>B2g d.1 d.2.1
noncomputable abbrev F3Y:Nat→St→Option Tree:=fun b=>match b with | 0=>D8q | _=>fun _=>none
theorem F1W:A6Q true F44 (F3Y) Tryz.f136 D0u D6g E2A:=by
 rintro ⟨a0,⟨a1,_⟩⟩ hp
 change B2g a0 a1=true at hp
 unfold B2g at hp
 refine Eq.trans (b:=(let z1:=B85 a0 a1 (a1.length:Int) (0:Int);cond (z1.1==0) (some (D7m (z1.2))) (cond (z1.1==1) (some (D7m true)) none))) (by kernel_rfl) ?_
 exact (H7 D7m hp (fun hp=>rfl) (fun hp=>(A6T hp fun _h=>rfl)))
theorem F4f:aPP 136 (A2z D0u D6g E2A):=pcD true F44 (hl1 (i:=0) (by kernel_rfl) E9K) F1W
noncomputable def F5s:Tab:=Tab.add F9l 136 (lift (A2z D0u D6g E2A))
noncomputable def F2l:FuncId→Bool:=qadd F54 136
theorem F6T:aPG F5s F2l:=F44.addQ F4f (cbl Tryz.f136) (fun _=>rfl)

abbrev A9O:List PSh:=[.t tq7]
noncomputable def N0 (a0:Lq2):Lq2:=a0
noncomputable abbrev A75 (r:Lq2):AV×List AObj:=(.all 0 3,[.rows 69 true F41 r])
noncomputable abbrev C2F:F5 A9O→AV×List AObj:=fun d=>A75 (N0 d.1)
noncomputable def M6 (a0:Lq2):Bool:=decide ((([]:Lq2).length+a0.length)*40≤MAXB)
noncomputable abbrev B9d:F5 A9O→Bool:=fun d=>M6 d.1
theorem D3O (a0:Lq2) (h0:0<a0.length) (hp:M6 a0=true):A5V false Tryz.prog tt F5s F2l aLn Tryz.f137 [.t (Ty.sl F41).flat tq7 a0]=some (A75 a0):=by
 refine Eq.trans (b:=cond (decide (0<a0.length)) (cond (M6 a0) (some (A75 a0)) none) none) (by kernel_rfl) ?_
 rw [decide_eq_true h0,hp];rfl
theorem D3P (A:Option Addr) (c:Nat):A5V false Tryz.prog tt F5s F2l aLn Tryz.f137 [.raw (.slice A 0 c)]=some (A75 []):=by
 cases A<;>kernel_rfl
theorem D5r:aPP 137 (A2z A9O B9d C2F):=PContract.split (e:=F41) (pre:=M6) (g:=fun a0=>A75 (N0 a0)) (fun l h0 hp=>PCalls.of_run false F6T (fn:=Tryz.f137) (by kernel_rfl) (L:=fun _ _=>none) (by rw [show C4 0 (A0y Tryz.f137)=[] by kernel_rfl];simp) (D3O l h0 hp) rfl rfl) (fun A c=>PCalls.of_run false F6T (fn:=Tryz.f137) (by kernel_rfl) (L:=fun _ _=>none) (by rw [show C4 0 (A0y Tryz.f137)=[] by kernel_rfl];simp) (D3P A c) rfl rfl)
noncomputable def F5t:Tab:=Tab.add F5s 137 (lift (A2z A9O B9d C2F))
noncomputable def F2m:FuncId→Bool:=F2l
theorem F6U:aPG F5t F2m:=F6T.add D5r ⟨Tryz.f137,by kernel_rfl,by kernel_rfl,by kernel_rfl⟩ (by kernel_rfl)

abbrev A8t:List PSh:=[.t Z3]
noncomputable def N4 (a0:LBBe):LBBe:=a0
noncomputable abbrev A6Z (r:LBBe):AV×List AObj:=(.all 0 2,[.rows 105 true L1 r])
noncomputable abbrev B82:F5 A8t→AV×List AObj:=fun d=>A6Z (N4 d.1)
noncomputable def M0 (a0:LBBe):Bool:=decide ((([]:LBBe).length+a0.length)*32≤MAXB)
noncomputable abbrev B6t:F5 A8t→Bool:=fun d=>M0 d.1
theorem C98 (a0:LBBe) (h0:0<a0.length) (hp:M0 a0=true):A5V false Tryz.prog tt F5t F2m aLn Tryz.f173 [.t (Ty.sl L1).flat Z3 a0]=some (A6Z a0):=by
 refine Eq.trans (b:=cond (decide (0<a0.length)) (cond (M0 a0) (some (A6Z a0)) none) none) (by kernel_rfl) ?_
 rw [decide_eq_true h0,hp];rfl
theorem C99 (A:Option Addr) (c:Nat):A5V false Tryz.prog tt F5t F2m aLn Tryz.f173 [.raw (.slice A 0 c)]=some (A6Z []):=by
 cases A<;>kernel_rfl
theorem D05:aPP 173 (A2z A8t B6t B82):=PContract.split (e:=L1) (pre:=M0) (g:=fun a0=>A6Z (N4 a0)) (fun l h0 hp=>PCalls.of_run false F6U (fn:=Tryz.f173) (by kernel_rfl) (L:=fun _ _=>none) (by rw [show C4 0 (A0y Tryz.f173)=[] by kernel_rfl];simp) (C98 l h0 hp) rfl rfl) (fun A c=>PCalls.of_run false F6U (fn:=Tryz.f173) (by kernel_rfl) (L:=fun _ _=>none) (by rw [show C4 0 (A0y Tryz.f173)=[] by kernel_rfl];simp) (C99 A c) rfl rfl)
noncomputable def F9m:Tab:=Tab.add F5t 173 (lift (A2z A8t B6t B82))
noncomputable def F55:FuncId→Bool:=F2m
theorem G05:aPG F9m F55:=F6U.add D05 ⟨Tryz.f173,by kernel_rfl,by kernel_rfl,by kernel_rfl⟩ (by kernel_rfl)

section
open Go.Proofs Go.Lib
theorem iT0:∀ w,(isAgg 0).run Tryz.prog w=.ok false w:=fun w=>by kernel_rfl
theorem iT3:∀ w,(isAgg 3).run Tryz.prog w=.ok false w:=fun w=>by kernel_rfl
theorem E9y:∀ w,(Go.sizeOf 105).run Tryz.prog w=.ok 2 w:=fun w=>by kernel_rfl
theorem F5N:∀ w,(Go.sizeOf 62).run Tryz.prog w=.ok 1 w:=fun w=>by kernel_rfl
theorem F5L:∀ w,(zeroValue 62).run Tryz.prog w=.ok (Value.slice none 0 0) w:=fun w=>by kernel_rfl
theorem F2t:(Tryz.prog.info? 105).map (fun i=>(i.zero,i.size,i.bytes))=some (some (Value.agg #[.string ⟨#[]⟩,.string ⟨#[]⟩]),2,32):=by kernel_rfl
theorem D7P:Tryz.f197.ntmps=95:=by kernel_rfl

set_option maxHeartbeats 4000000 in
set_option maxRecDepth 100000 in
theorem F3s (b n c i vb voff m vc:Nat) (cs vs:List Value) (w:World) (hi:i<n) (hm:0<m) (hroom:n+m≤c) (hc63:c≤9223372036854775807) (hvb:vb ≠ b)
  (hcl:cs.length=n*2) (hvl:vs.length=m*2)
  (hcs:∀ j v,cs[j]? = some v→w.cell? ⟨b,j,none⟩=some v) (hsp:∀ j,j<(n+m)*2→(w.cell? ⟨b,j,none⟩).isSome=true) (hfz:∀ j,j<(n+m)*2→w.frozen? ⟨b,j,none⟩=false)
  (hvs:∀ j v,vs[j]? = some v→w.cell? ⟨vb,voff+j,none⟩=some v) (h1c:∀ v∈cs,v.oneCell'=true) (h1v:∀ v∈vs,v.oneCell'=true)
  (tA tB:TypeId) (kA kB:Nat) (hsa:w.shape? vb=some (tA,kA)) (hsb:w.shape? b=some (tB,kB)) (hkB:kB ≠ 0) (hfa:w.frozen? ⟨vb,voff,none⟩=false) (hfe:w.frozen? ⟨vb,kA,none⟩=false) :
  Calls Tryz.prog 197 #[.slice (some ⟨b,0,none⟩) n c,.int .i64 i,.slice (some ⟨vb,voff,none⟩) m vc] w fun e w' =>
   e=.returned (.slice (some ⟨b,0,none⟩) (n+m) c)∧w'=(w.drew.setCells b ((i+m)*2) (cs.drop (i*2))).setCells b (i*2) vs:=by
 have t0:=Tryz.underlying0;have t3:=Tryz.underlying3;have t4:=Tryz.underlying4;have t62:=Tryz.underlying62
 have a0:=iT0;have a3:=iT3;have z105:=E9y;have z62:=F5N;have v62:=F5L
 have u0:=run_underlying t0;have u3:=run_underlying t3;have u4:=run_underlying t4;have u62:=run_underlying t62
 have hz1:¬ ((m:Int)=0):=by omega
 have hz2:¬ ((i:Int)=(n:Int)):=by omega
 have hsz:(Tryz.prog.info? 105).map (·.size)=some 2:=by
  obtain ⟨i0,hi0,h0,h1,h2⟩:=info_parts F2t
  rw [hi0];simp [h1]
 have hov:∀ lb cb,(callFunc 209 #[.slice (some ⟨vb,voff,none⟩) m vc,.slice (some ⟨b,(i+m)*2,none⟩) lb cb]).run Tryz.prog w=.ok (.value (.bool false)) w:=fun lb cb=>by
  rw [run_callFunc_extern Tryz.func209 (by kernel_rfl) (by kernel_rfl) (by kernel_rfl) (e:=Extern.SlicesOverlaps.overlaps #[62,62] #[4]) (by kernel_rfl),
   Lib.run_overlaps_apart w 62 4 105 t62 2 E9y ⟨vb,voff,none⟩ ⟨b,(i+m)*2,none⟩ m vc lb cb hvb tA tB kA kB hsa hsb hkB hfa hfe]
  rfl
 have hdl:(cs.drop (i*2)).length=(n - i)*2:=by rw [List.length_drop,hcl];omega
 have mixed:Tryz.prog.follows .mixedOrders=true:=by kernel_rfl
 have hw1:IntKind.i64.wrap ((i:Int)+(m:Int))=(i:Int)+(m:Int):=by rw [IntKind.wrap_i64];omega
 have hb1:(0:Int)≤(i:Int)+(m:Int):=by omega
 have hin:i≤n:=by omega
 have htn:((i:Int)+(m:Int)).toNat=i+m:=by omega
 have hb2:¬ (c=i+m):=by omega
 have hb3:(i:Int)≤(n:Int)+(m:Int):=by omega
 have hb4:¬ (c=i):=by omega
 have hcp1:∀ ty dc sc,(Builtin.copy_ #[62,62] ty #[.slice (some ⟨b,(i+m)*2,none⟩) (n+m - (i+m)) dc,.slice (some ⟨b,i*2,none⟩) (n+m - i) sc]).run Tryz.prog w.drew=.ok (goInt ((n - i:Nat):Int)) (w.drew.setCells b ((i+m)*2) (cs.drop (i*2))):=fun ty dc sc=>by
  have hmin:Nat.min (n+m - i) (n+m - (i+m))=n - i:=by simp only [Nat.min_def];split<;>omega
  have:=A6o w.drew 62 62 ty 105 2 b ((i+m)*2) (n+m - (i+m)) dc ⟨b,i*2,none⟩ (n+m - i) sc (cs.drop (i*2)) t62 hsz (by rw [hdl,hmin])
   (fun j v hj=>by rw [Addr.add_lit];exact hcs (i*2+j) v (by rwa [List.getElem?_drop] at hj))
   (fun j hj=>hsp _ (by rw [hdl] at hj;omega)) (fun j hj=>hfz _ (by rw [hdl] at hj;omega)) (fun v hv=>h1c v (List.mem_of_mem_drop hv))
  rw [hmin] at this
  exact this
 obtain ⟨W1,hW1⟩:∃ W1,W1=w.drew.setCells b ((i+m)*2) (cs.drop (i*2)):=⟨_,rfl⟩
 have hsp1:∀ k,k<(n+m)*2→(W1.cell? ⟨b,k,none⟩).isSome=true:=fun k hk=>by
  rw [hW1]
  exact isSome_setCells b (cs.drop (i*2)) ((i+m)*2) w.drew (fun j hj=>hsp ((i+m)*2+j) (by rw [hdl] at hj;omega)) k (hsp k hk)
 have hcp2:∀ (W:World),(∀ x,W.cell? x=W1.cell? x)→(∀ x,W.frozen? x=W1.frozen? x)→∀ ty dc,(Builtin.copy_ #[62,62] ty #[.slice (some ⟨b,i*2,none⟩) (n+m - i) dc,.slice (some ⟨vb,voff,none⟩) m vc]).run Tryz.prog W=.ok (goInt m) (W.setCells b (i*2) vs):=fun W hWc hWf ty dc=>by
  have hmin:Nat.min m (n+m - i)=m:=by simp only [Nat.min_def];split<;>omega
  have:=A6o W 62 62 ty 105 2 b (i*2) (n+m - i) dc ⟨vb,voff,none⟩ m vc vs t62 hsz (by rw [hvl,hmin])
   (fun j v hj=>by
    rw [Addr.add_lit,hWc,hW1,World.cell?_setCells_out b _ _ _ _ (fun h _=>absurd h hvb)]
    exact hvs j v hj)
   (fun j hj=>by rw [hWc];exact hsp1 _ (by omega)) (fun j hj=>by rw [hWf,hW1,World.frozen?_setCells];exact hfz _ (by omega)) h1v
  rw [hmin] at this
  exact this
 rw [← hW1] at hcp1
 go_enter Tryz.func197,D7P
 go_wp2_with (simp only [hov])
 go_region_law_o (refine step_copy_runI rfl _ _ 62 62 rfl _ _ (by simp [Act.eval,Act.put]) (by simp [Act.eval,Act.put]) (hcp1 _ _ _) ?_)
 go_wp2_with (at_builtin;refine wpList_copy_runI _ rfl _ _ 62 62 rfl _ _ rfl rfl (hcp2 _ (fun _=>rfl) (fun _=>rfl) _ _) ?_)
 go_ret
 first | exact ⟨rfl,rfl⟩ | exact ⟨rfl,by rw [hW1]⟩
set_option maxHeartbeats 4000000 in
set_option maxRecDepth 100000 in
theorem E6R (b n c vb voff m vc:Nat) (vs:List Value) (w:World) (hm:0<m) (hroom:n+m≤c) (hc63:c≤9223372036854775807)
  (hvl:vs.length=m*2) (hsp:∀ j,j<m*2→(w.cell? ⟨b,n*2+j,none⟩).isSome=true) (hfz:∀ j,j<m*2→w.frozen? ⟨b,n*2+j,none⟩=false)
  (hvs:∀ j v,vs[j]? = some v→w.cell? ⟨vb,voff+j,none⟩=some v) (h1v:∀ v∈vs,v.oneCell'=true) :
  Calls Tryz.prog 197 #[.slice (some ⟨b,0,none⟩) n c,.int .i64 n,.slice (some ⟨vb,voff,none⟩) m vc] w fun e w' =>
   e=.returned (.slice (some ⟨b,0,none⟩) (n+m) c)∧w'=w.setCells b (n*2) vs:=by
 have t0:=Tryz.underlying0;have t3:=Tryz.underlying3;have t4:=Tryz.underlying4;have t62:=Tryz.underlying62
 have a0:=iT0;have a3:=iT3;have z105:=E9y;have z62:=F5N;have v62:=F5L
 have u0:=run_underlying t0;have u3:=run_underlying t3;have u4:=run_underlying t4;have u62:=run_underlying t62
 have mixed:Tryz.prog.follows .mixedOrders=true:=by kernel_rfl
 obtain ⟨i0,hi0,hz0,hzs,hzb⟩:=info_parts F2t
 have hz1:¬ ((m:Int)=0):=by omega
 have hsrc:Src Tryz.prog i0.size 62 (.slice (some ⟨vb,voff,none⟩) m vc) m vs w:=Src.ofSlice w t62 ⟨vb,voff,none⟩ m vc vs (by rw [hzs];exact hvl) (fun j u hj=>by rw [Addr.add_lit];exact hvs j u hj) h1v
 have h1:∀ j,j<vs.length→(w.cell? ⟨b,0+n*i0.size+j,none⟩).isSome=true:=fun j hj=>by rw [hzs,Nat.zero_add];exact hsp j (by omega)
 have h2:∀ j,j<vs.length→w.frozen? ⟨b,0+n*i0.size+j,none⟩=false:=fun j hj=>by rw [hzs,Nat.zero_add];exact hfz j (by omega)
 have hoff:0+n*i0.size=n*2:=by rw [hzs];omega
 go_enter Tryz.func197,D7P
 go_wp2_with (at_builtin;refine wpList_append_room_src _ rfl _ _ 62 62 rfl 105 i0 t62 hi0 b 0 n c rfl _ rfl m vs hsrc hroom h1 h2 ?_)
 go_ret
 first | exact ⟨rfl,rfl⟩ | exact ⟨rfl,by rw [hoff]⟩ | exact ⟨rfl,by rw [← hoff]⟩ | exact ⟨rfl,by simp [hzs]⟩

set_option maxHeartbeats 4000000 in
set_option maxRecDepth 100000 in
theorem E6Q (base:Option Addr) (n c vb voff m vc:Nat) (cs vs:List Value) (w:World) (hm:0<m) (hnc:n≤c) (hroom:c<n+m) (hbig:(n+m)*32≤140737488355328)
  (hcl:cs.length=n*2) (hvl:vs.length=m*2) (hnil:base=none→n=0)
  (hcs:∀ a,base=some a→∀ j v,cs[j]? = some v→w.cell? (a.add j)=some v)
  (hvs:∀ j v,vs[j]? = some v→w.cell? ⟨vb,voff+j,none⟩=some v) (h1v:∀ v∈vs,v.oneCell'=true) :
  Calls Tryz.prog 197 #[.slice base n c,.int .i64 n,.slice (some ⟨vb,voff,none⟩) m vc] w fun e w' =>
   e=.returned (.slice (some ⟨w.heap.size,0,none⟩) (n+m) (grownCap w (n+m) c 105)) ∧
   w'=w.drew.alloc (.cells ((cs++vs).toArray++Builtin.zeroCells #[Value.string ⟨#[]⟩,Value.string ⟨#[]⟩] (grownCap w (n+m) c 105 - (n+m))) 105):=by
 have t0:=Tryz.underlying0;have t3:=Tryz.underlying3;have t4:=Tryz.underlying4;have t62:=Tryz.underlying62
 have a0:=iT0;have a3:=iT3;have z105:=E9y;have z62:=F5N;have v62:=F5L
 have u0:=run_underlying t0;have u3:=run_underlying t3;have u4:=run_underlying t4;have u62:=run_underlying t62
 have mixed:Tryz.prog.follows .mixedOrders=true:=by kernel_rfl
 obtain ⟨i0,hi0,hz0,hzs,hzb⟩:=info_parts F2t
 have hz1:¬ ((m:Int)=0):=by omega
 have hsrc:Src Tryz.prog i0.size 62 (.slice (some ⟨vb,voff,none⟩) m vc) m vs w:=Src.ofSlice w t62 ⟨vb,voff,none⟩ m vc vs (by rw [hzs];exact hvl) (fun j u hj=>by rw [Addr.add_lit];exact hvs j u hj) h1v
 have hold:(Builtin.firstCells i0.size n (.slice base n c)).run Tryz.prog w.drew=.ok cs.toArray w.drew:=by
  rw [hzs]
  cases base with
  | none =>
   have h0:=hnil rfl
   subst h0
   have hc0:cs=[]:=List.length_eq_zero_iff.1 (by omega)
   rw [hc0]
   exact run_firstCells_none w.drew 2 0 0 c
  | some a=>exact run_firstCells_some w.drew 2 n a n c cs (by omega) (fun j v hj=>hcs a rfl j v hj)
 have hrun:∀ ty,(Builtin.append_ #[62,62] ty #[.slice base n c,.slice (some ⟨vb,voff,none⟩) m vc]).run Tryz.prog w=_:=fun ty =>
  run_append_grow_src w 62 62 ty 105 i0 _ t62 hi0 hz0 base n c cs hold _ m vs hsrc hroom (by omega) (by rw [hzb];exact growslice_fits hroom hbig)
 go_enter Tryz.func197,D7P
 cases base with
 | none =>
  have h0:=hnil rfl
  subst h0
  go_wp2_with (at_builtin;refine Lib.wpList_append_run _ rfl _ _ _ _ rfl _ _ rfl rfl _ _ (hrun _) ?_)
  go_ret
  exact ⟨rfl,rfl⟩
 | some a =>
  obtain ⟨ab,ao,asp⟩:=a
  go_wp2_with (at_builtin;refine Lib.wpList_append_run _ rfl _ _ _ _ rfl _ _ rfl rfl _ _ (hrun _) ?_)
  all_goals (go_ret;exact ⟨rfl,rfl⟩)
set_option maxHeartbeats 4000000 in
set_option maxRecDepth 100000 in
theorem F4E (b n c i vb voff m vc:Nat) (cs vs:List Value) (w:World) (hi:i<n) (hm:0<m) (hnc:n≤c) (hroom:c<n+m) (hbig:(n+m)*32≤140737488355328)
    (hcl:cs.length=n*2) (hvl:vs.length=m*2)
    (hcs:∀ j v,cs[j]? = some v→w.cell? ⟨b,j,none⟩=some v)
    (hvs:∀ j v,vs[j]? = some v→w.cell? ⟨vb,voff+j,none⟩=some v) (h1c:∀ v∈cs,v.oneCell'=true) (h1v:∀ v∈vs,v.oneCell'=true) :
    Calls Tryz.prog 197 #[.slice (some ⟨b,0,none⟩) n c,.int .i64 i,.slice (some ⟨vb,voff,none⟩) m vc] w fun e w' =>
      e=.returned (.slice (some ⟨w.heap.size,0,none⟩) (n+m) (grownCap w (n+m) c 105)) ∧
      w'=(((w.alloc (.cells ((cs.take (i*2)).toArray++Builtin.zeroCells #[Value.string ⟨#[]⟩,Value.string ⟨#[]⟩] (n+m - i)++Builtin.zeroCells #[Value.string ⟨#[]⟩,Value.string ⟨#[]⟩] (grownCap w (n+m) c 105 - (n+m))) 105)).drew.setCells w.heap.size (i*2) vs).drew).setCells w.heap.size ((i+m)*2) (cs.drop (i*2)):=by
  have t0:=Tryz.underlying0;have t3:=Tryz.underlying3;have t4:=Tryz.underlying4;have t62:=Tryz.underlying62
  have a0:=iT0;have a3:=iT3;have z105:=E9y;have z62:=F5N;have v62:=F5L
  have u0:=run_underlying t0;have u3:=run_underlying t3;have u4:=run_underlying t4;have u62:=run_underlying t62
  have mixed:Tryz.prog.follows .mixedOrders=true:=by kernel_rfl
  obtain ⟨i0,hi0,hz0,hzs,hzb⟩:=info_parts F2t
  have hz1:¬ ((m:Int)=0):=by omega
  have hz2:¬ ((i:Int)=(n:Int)):=by omega
  have hz3:(c:Int)<(n:Int)+(m:Int):=by omega
  have hsz:(Tryz.prog.info? 105).map (·.size)=some 2:=by rw [hi0];simp [hzs]
  have hbw:b<w.heap.size:=block_lt_of_cell (hcs 0 _ (List.getElem?_eq_getElem (by omega)))
  have hvw:vb<w.heap.size:=block_lt_of_cell (hvs 0 _ (List.getElem?_eq_getElem (by omega)))
  have hkk:(n:Int)+(m:Int) - (i:Int)=((n+m - i:Nat):Int):=by omega
  have hik:i+(n+m - i)=n+m:=by omega
  have hold:(Builtin.firstCells i0.size i (.slice (some ⟨b,0,none⟩) i c)).run Tryz.prog w.drew=.ok (cs.take (i*2)).toArray w.drew:=by
    rw [hzs]
    exact run_firstCells_some w.drew 2 i ⟨b,0,none⟩ i c (cs.take (i*2)) (by rw [List.length_take];omega) (fun j v hj=>by
      rw [Addr.add_lit,Nat.zero_add]
      rw [List.getElem?_take] at hj
      split at hj
      · exact hcs j v hj
      · cases hj)
  have hrz : ∀ ty, (Builtin.append_ #[62, 3] ty #[.slice (some ⟨b, 0, none⟩) i c, .int .i64 ((n : Int) + (m : Int) - (i : Int))]).run Tryz.prog w =
      .ok (.slice (some ⟨w.heap.size,0,none⟩) (n+m) (grownCap w (n+m) c 105)) (w.drew.alloc (.cells ((cs.take (i*2)).toArray++Builtin.zeroCells #[Value.string ⟨#[]⟩,Value.string ⟨#[]⟩] (n+m - i)++Builtin.zeroCells #[Value.string ⟨#[]⟩,Value.string ⟨#[]⟩] (grownCap w (n+m) c 105 - (n+m))) 105)):=fun ty=>by
    have h:=Lib.run_append_grow_zeros w 62 3 ty 105 i0 _ .i64 .i64 t62 t3 hi0 hz0 (some ⟨b,0,none⟩) i c (cs.take (i*2)) hold (n+m - i) (by omega) (by omega) (by omega) (by omega) (by rw [hzb];omega) (by rw [hzb,hik];exact growslice_fits hroom hbig)
    rw [hik] at h
    rw [hkk]
    exact h
  obtain ⟨G,hG⟩:∃ G,G=grownCap w (n+m) c 105:=⟨_,rfl⟩
  obtain ⟨ROW,hROW⟩:∃ ROW:Array Value,ROW=(cs.take (i*2)).toArray++Builtin.zeroCells #[Value.string ⟨#[]⟩,Value.string ⟨#[]⟩] (n+m - i)++Builtin.zeroCells #[Value.string ⟨#[]⟩,Value.string ⟨#[]⟩] (G - (n+m)):=⟨_,rfl⟩
  rw [← hG] at hrz ⊢
  rw [← hROW] at hrz ⊢
  have hRl:(n+m)*2≤ROW.size:=by
    rw [hROW]
    simp [Builtin.zeroCells]
    omega
  obtain ⟨W1,hW1⟩:∃ W1,W1=w.drew.alloc (.cells ROW 105):=⟨_,rfl⟩
  rw [← hW1] at hrz
  have hN:∀ j,j<(n+m)*2→(W1.cell? ⟨w.heap.size,j,none⟩).isSome=true:=fun j hj=>by
    rw [hW1,World.cell?_alloc_at (w:=w.drew) ROW _ w.heap.size j rfl,Array.getElem?_eq_getElem (by omega)];rfl
  have hNf:∀ j,W1.frozen? ⟨w.heap.size,j,none⟩=false:=fun j=>by rw [hW1];exact World.frozen?_alloc_at (w:=w.drew) ROW _ w.heap.size j rfl
  have hOb:∀ j v,w.cell? ⟨b,j,none⟩=some v→W1.cell? ⟨b,j,none⟩=some v:=fun j v h=>by rw [hW1,World.cell?_alloc_past (w:=w.drew) _ b j hbw];exact h
  have hOv:∀ j v,w.cell? ⟨vb,j,none⟩=some v→W1.cell? ⟨vb,j,none⟩=some v:=fun j v h=>by rw [hW1,World.cell?_alloc_past (w:=w.drew) _ vb j hvw];exact h
  have hcpA:∀ (W:World),(∀ x,W.cell? x=W1.cell? x)→(∀ x,W.frozen? x=W1.frozen? x)→∀ ty dc,(Builtin.copy_ #[62,62] ty #[.slice (some ⟨w.heap.size,i*2,none⟩) (n+m - i) dc,.slice (some ⟨vb,voff,none⟩) m vc]).run Tryz.prog W=.ok (goInt m) (W.setCells w.heap.size (i*2) vs):=fun W hWc hWf ty dc=>by
    have hmin:Nat.min m (n+m - i)=m:=by simp only [Nat.min_def];split<;>omega
    have:=A6o W 62 62 ty 105 2 w.heap.size (i*2) (n+m - i) dc ⟨vb,voff,none⟩ m vc vs t62 hsz (by rw [hvl,hmin])
      (fun j v hj=>by rw [Addr.add_lit,hWc];exact hOv _ v (hvs j v hj))
      (fun j hj=>by rw [hWc];exact hN _ (by omega)) (fun j hj=>by rw [hWf];exact hNf _) h1v
    rw [hmin] at this
    exact this
  have hGn:n+m≤G:=by rw [hG];exact grownCap_ge w _ _ _
  have hG63:G≤9223372036854775807:=by
    have:=grownCap_le_maxLen w (n+m) c 105 (by unfold maxLen;omega)
    rw [← hG] at this
    unfold maxLen at this
    omega
  have hGi:¬ (G=i):=by omega
  have hGim:¬ (G=i+m):=by omega
  have hci:¬ (c=i):=by omega
  have hbN:b ≠ w.heap.size:=by omega
  have hdl:(cs.drop (i*2)).length=(n - i)*2:=by rw [List.length_drop,hcl];omega
  have hcpB:∀ (W:World),(∀ x,W.cell? x=(W1.setCells w.heap.size (i*2) vs).cell? x)→(∀ x,W.frozen? x=(W1.setCells w.heap.size (i*2) vs).frozen? x)→∀ ty dc sc,(Builtin.copy_ #[62,62] ty #[.slice (some ⟨w.heap.size,(i+m)*2,none⟩) (n+m - (i+m)) dc,.slice (some ⟨b,i*2,none⟩) (n - i) sc]).run Tryz.prog W=.ok (goInt ((n - i:Nat):Int)) (W.setCells w.heap.size ((i+m)*2) (cs.drop (i*2))):=fun W hWc hWf ty dc sc=>by
    have hmin:Nat.min (n - i) (n+m - (i+m))=n - i:=by simp only [Nat.min_def];split<;>omega
    have:=A6o W 62 62 ty 105 2 w.heap.size ((i+m)*2) (n+m - (i+m)) dc ⟨b,i*2,none⟩ (n - i) sc (cs.drop (i*2)) t62 hsz (by rw [hdl,hmin])
      (fun j v hj=>by
        rw [Addr.add_lit,hWc,World.cell?_setCells_out _ _ _ _ _ (fun h _=>absurd h hbN)]
        exact hOb _ v (hcs (i*2+j) v (by rwa [List.getElem?_drop] at hj)))
      (fun j hj=>by rw [hWc];exact isSome_setCells w.heap.size vs (i*2) W1 (fun t ht=>hN (i*2+t) (by omega)) _ (hN _ (by rw [hdl] at hj;omega)))
      (fun j hj=>by rw [hWf,World.frozen?_setCells];exact hNf _) (fun v hv=>h1c v (List.mem_of_mem_drop hv))
    rw [hmin] at this
    exact this
  subst hW1
  have hE1:∀ x,((w.alloc (.cells ROW 105)).drew).cell? x=(w.drew.alloc (.cells ROW 105)).cell? x:=fun x=>rfl
  have hE2:∀ x,((w.alloc (.cells ROW 105)).drew).frozen? x=(w.drew.alloc (.cells ROW 105)).frozen? x:=fun x=>rfl
  have hF1:∀ x,(((w.alloc (.cells ROW 105)).drew.setCells w.heap.size (i*2) vs).drew).cell? x=((w.drew.alloc (.cells ROW 105)).setCells w.heap.size (i*2) vs).cell? x:=fun x=>rfl
  have hF2:∀ x,(((w.alloc (.cells ROW 105)).drew.setCells w.heap.size (i*2) vs).drew).frozen? x=((w.drew.alloc (.cells ROW 105)).setCells w.heap.size (i*2) vs).frozen? x:=fun x=>rfl
  have hw1:IntKind.i64.wrap ((i:Int)+(m:Int))=(i:Int)+(m:Int):=by rw [IntKind.wrap_i64];omega
  have hb1:(0:Int)≤(i:Int)+(m:Int):=by omega
  have hin:i≤n:=by omega
  have htn:((i:Int)+(m:Int)).toNat=i+m:=by omega
  have hb3:(i:Int)≤(n:Int):=by omega
  clear hkk hik hold hROW hG hRl
  go_enter Tryz.func197,D7P
  go_wp2_with (first
    | (at_builtin;refine Lib.wpList_append_run _ rfl _ _ _ _ rfl _ _ rfl rfl _ _ (hrz _) ?_)
    | (at_builtin;refine wpList_copy_runI _ rfl _ _ 62 62 rfl _ _ rfl rfl (hcpA _ hE1 hE2 _ _) ?_)
    | (at_builtin;refine wpList_copy_runI _ rfl _ _ 62 62 rfl _ _ rfl rfl (hcpB _ (fun _=>rfl) (fun _=>rfl) _ _ _) ?_))
  go_region_law_o (refine step_copy_runI rfl _ _ 62 62 rfl (.slice (some ⟨w.heap.size,(i+m)*2,none⟩) (n+m - (i+m)) (G - (i+m))) (.slice (some ⟨b,i*2,none⟩) (n - i) (c - i)) (by simp [Act.eval,Act.put]) (by simp [Act.eval,Act.put]) (hcpB _ hF1 hF2 3 (G - (i+m)) (c - i)) ?_)
  go_wp2
  go_ret
  exact ⟨rfl,rfl⟩
end
theorem F7i:aPM 197 (A5I 105):=MContract.insPair (F:=197) (E:=105)
 (fun b n c i vb vc cs vs w h1 h2 h3 h4 h5 h6 h7 h8 h9 h10 h11 h12 tA tB kA kB g1 g2 g3 g4 g5=>F3s b n c i vb 0 1 vc cs vs w h1 (by decide) h2 h3 h4 h5 h6 h7 h8 h9 h10 h11 h12 tA tB kA kB g1 g2 g3 g4 g5)
 (fun b n c vb vc vs w h1 h2 h3 h4 h5 h6 h7=>E6R b n c vb 0 1 vc vs w (by decide) h1 h2 h3 h4 h5 h6 h7)
 (fun base n c vb vc cs vs w h1 h2 h3 h4 h5 h6 h7 h8 h9=>(E6Q base n c vb 0 1 vc cs vs w (by decide) h1 h2 h3 h4 h5 h6 h7 h8 h9).mono (fun _ _ h=>⟨_,grownCap_ge w (n+1) c 105,grownCap_le_maxLen w (n+1) c 105 (by simp only [maxLen];omega),h.1,h.2⟩))
 (fun b n c i vb vc cs vs w h1 h2 h3 h4 h5 h6 h7 h8 h9 h10=>(F4E b n c i vb 0 1 vc cs vs w h1 (by decide) h2 h3 h4 h5 h6 h7 h8 h9 h10).mono (fun _ _ h=>⟨_,grownCap_ge w (n+1) c 105,grownCap_le_maxLen w (n+1) c 105 (by simp only [maxLen];omega),h.1,h.2⟩))
noncomputable def F96 (l:LBBe) (i:Int) (y:LBBe):LBBe:=l.take i.toNat++(y++l.drop i.toNat)
noncomputable def F1O (l:LBBe) (i:Int) (y:LBBe):Bool:=decide (0≤i∧i≤(l.length:Int))&&decide ((l.length+1)*32≤140737488355328)
noncomputable def F9n:Tab:=Tab.add F9m 197 (win E7 (A5I 105))
noncomputable def F56:FuncId→Bool:=F55
theorem F45:aPG F9n F56:=G05.addM (F7i.win E7) (A6r _) ⟨Tryz.f197,by kernel_rfl,by kernel_rfl,by kernel_rfl⟩ (by kernel_rfl)

abbrev C7a:SS:=⟨[.all 0 2,.t true .str,.t true .str],[.rows 105 true L1]⟩
abbrev A8v:SS:=⟨(.all 0 2::.t true .str::.t true .str::.junk::.junk::.junk::.junk::.junk::tI::E9F),[.rows 105 true L1]⟩
abbrev C4u:SS:=⟨(.all 0 2::.t true .str::.t true .str::.junk::.junk::.junk::.junk::.junk::tI::E9F),[.rows 105 true L1]⟩
noncomputable def D8E (x1 x2:ByteArray) (x8:Int) (h0:LBBe):RT A8v.den:=let z1:=(h0.getD x8.toNat (bE,bE)).1;(.br (decide (x8<(h0.length:Int))) (.br (decide (0≤x8∧x8<(h0.length:Int))) (.br (Op.bytesLess z1.toList x1.toList||(z1.toList==x1.toList)) (.next (((),x1,x2,(),(),(),(),(),wI (x8+(1:Int)),u34),(h0,()))) (.done (.exit 0) C4u (((),x1,x2,(),(),(),(),(),x8,u34),(h0,())))) .fail) (.done (.exit 0) C4u (((),x1,x2,(),(),(),(),(),x8,u34),(h0,()))))
abbrev B4O:=(ByteArray)×(ByteArray)×(Int)×(LBBe)
abbrev B4J:=Nat×(ByteArray)×(ByteArray)×(Int)×(LBBe)
def C7u:B4J:=(99,(bE:ByteArray),(bE:ByteArray),((0:Int):Int),([]:LBBe))
noncomputable def B6I (x1 x2:ByteArray) (x8:Int) (h0:LBBe):B4O ⊕ B4J:=let z1:=(h0.getD x8.toNat (bE,bE)).1;(cond (decide (x8<(h0.length:Int))) (cond (decide (0≤x8∧x8<(h0.length:Int))) (cond (Op.bytesLess z1.toList x1.toList||(z1.toList==x1.toList)) (.inl (x1,x2,wI (x8+(1:Int)),h0)) (.inr (0,x1,x2,x8,h0))) (.inr C7u)) (.inr (0,x1,x2,x8,h0)))
noncomputable def B6d (x1 x2:ByteArray) (x8:Int) (h0:LBBe):B4J:=itX (fun v:B4O=>B6I v.1 v.2.1 v.2.2.1 v.2.2.2) C7u (x1,x2,x8,h0)
noncomputable def C7d (a:B4J):CT:=(.br (a.1==0) (.done (.exit 0) C4u (((),a.2.1,a.2.2.1,(),(),(),(),(),a.2.2.2.1,u34),(a.2.2.2.2,()))) .fail)
noncomputable def E8A (x1 x2:ByteArray) (x8:Int) (h0:LBBe):CT:=C7d (B6d x1 x2 x8 h0)
noncomputable abbrev C0H {α:Sort _} (f:ByteArray→ByteArray→Int→LBBe→α) (d:A8v.den):α:=f d.1.2.1 d.1.2.2.1 d.1.2.2.2.2.2.2.2.2.1 d.2.1
noncomputable abbrev C8A:A8v.den→RT A8v.den:=(C0H D8E)
noncomputable def D0T:Code:=((C4 0 (A0y Tryz.f174)).getD 0 (0,.skip)).2
noncomputable abbrev D7Z (v:B4O):A8v.den:=(((),v.1,v.2.1,(),(),(),(),(),v.2.2.1,u34),(v.2.2.2,()))
theorem E7z:(∀ v:B4O,(D8E v.1 v.2.1 v.2.2.1 v.2.2.2).val=A5T D7Z C7d (B6I v.1 v.2.1 v.2.2.1 v.2.2.2))∧∀ a:B4J,CEnd A8v.den (C7d a):=⟨fun v=>(A6V (A6V (A6V rfl rfl) rfl) rfl),fun a=>(A6I aCD A6K)⟩
noncomputable def D7S (x1 x2:ByteArray) (x8:Int) (h0:LBBe):Option (Ex×St):=let z1:=(⟨((.all 0 2)::(.t true .str x1)::(.t true .str x2)::.junk::.junk::.junk::.junk::.junk::(ti x8)::F1F),[(.rows 105 true L1 h0)],1,[]⟩:St);let z2:=(h0.getD x8.toNat (bE,bE)).1;(cond (decide (x8<(h0.length:Int))) (cond (decide (0≤x8∧x8<(h0.length:Int))) (cond (Op.bytesLess z2.toList x1.toList||(z2.toList==x1.toList)) (some (.normal,(⟨((.all 0 2)::(.t true .str x1)::(.t true .str x2)::.junk::.junk::.junk::.junk::.junk::(ti (wI (x8+(1:Int))))::F1F),[(.rows 105 true L1 h0)],1,[]⟩:St))) (some ((.exit 0),z1))) none) (some ((.exit 0),z1)))
theorem E4X:RdA F45 aLn 0 D0T A8v 1 [] (kepts [] [(0,[0,1,2,8])]) (C0H D7S):=by
 intro d
 kernel_rfl
theorem E5b:∀ d:A8v.den,(C0H D7S) d=(C8A d).opt 1 []:=by
 intro d
 kernel_rfl
noncomputable abbrev D4U:St→Option Tree:=A8v.say 1 [] [] (C0H E8A)
theorem E6Z:aPL D4U D0T:=SS.wp2 hlz [] C8A E4X E5b _ (fun d=>Runs.ofI2 (step:=C8A) D7Z E7z rfl (d.1.2.1,d.1.2.2.1,d.1.2.2.2.2.2.2.2.2.1,d.2.1))
noncomputable def D55 (x1 x2:ByteArray) (h0:LBBe):=let z1:=B6d x1 x2 (0:Int) h0;F96 (z1.2.2.2.2) (z1.2.2.2.1) [((z1.2.1),(z1.2.2.1))]
noncomputable def E1T (x1 x2:ByteArray) (h0:LBBe):LBBe:=let z1:=B8e h0 x1;(cond (decide (z1 ≥ (0:Int))) (h0.set (z1.toNat) ((h0.getD (z1.toNat) (bE,bE)).1,x2)) (D55 x1 x2 h0))
noncomputable abbrev D3j (r:LBBe):AV×List AObj×List Nat:=((.all 0 2),[(.rows 105 true L1 r)],[0])
noncomputable abbrev E5Q:C7a.den→AV×List AObj×List Nat:=fun d=>D3j (E1T d.1.2.1 d.1.2.2.1 d.2.1)
noncomputable def B49 (x1 x2:ByteArray) (h0:LBBe):Bool:=let z1:=B6d x1 x2 (0:Int) h0;let z2:=B8e h0 x1;(B2O h0 x1)&&(cond (decide (z2 ≥ (0:Int))) (decide (0≤z2∧z2<(h0.length:Int))) ((z1.1==0)&&(F1O (z1.2.2.2.2) (z1.2.2.2.1) [((z1.2.1),(z1.2.2.1))])))
noncomputable abbrev E0G:C7a.den→Bool:=fun d=>B49 d.1.2.1 d.1.2.2.1 d.2.1
noncomputable abbrev F2F:Nat→St→Option Tree:=fun b=>match b with | 0=>D4U | _=>fun _=>none
theorem F0f:A6O false [] [0] [] F45 (F2F) Tryz.f174 C7a E0G E5Q:=by
 rintro ⟨⟨_,x1,x2,_⟩,⟨h0,_⟩⟩ hp
 change B49 x1 x2 h0=true at hp
 unfold B49 at hp
 refine Eq.trans (b:=(let z1:=B6d x1 x2 (0:Int) h0;let z2:=B8e h0 x1;cond (B2O h0 x1) (cond (decide (z2 ≥ (0:Int))) (cond (decide (0≤z2∧z2<(h0.length:Int))) (some (D3j (h0.set (z2.toNat) ((h0.getD (z2.toNat) ((⟨#[]⟩:ByteArray),(⟨#[]⟩:ByteArray))).1,x2)))) none) (cond (z1.1==0) (cond (F1O (z1.2.2.2.2) (z1.2.2.2.1) [((z1.2.1),(z1.2.2.1))]) (some (D3j (D55 x1 x2 h0))) none) none)) none)) (by kernel_rfl) ?_
 exact (A6R hp fun hp=>(H7 D3j hp (fun hp=>(A6T hp fun _h=>rfl)) (fun hp=>(A6R hp fun hp=>(A6T hp fun _h=>rfl)))))
noncomputable abbrev E5T:=win E7 (msum C7a E0G E5Q)
theorem F22:aPM 174 E5T:=(mcE false [] [0] []  F45 (hl1 (i:=0) (by kernel_rfl) E6Z) F0f).win E7
noncomputable def F9o:Tab:=Tab.add F9n 174 (E5T)
noncomputable def F57:FuncId→Bool:=F56
theorem F6V:aPG F9o F57:=F45.addM F22 (A6r _) (cbl Tryz.f174) (by kernel_rfl)

abbrev C0u:SS:=⟨[.agg [.t true .str,.t true .str],.ptr 0 0 1 0],[.box [.t true .str]]⟩
noncomputable def C1i (x0_0 x0_1 p0:ByteArray):Bool:=(x0_0.toList==p0.toList)
noncomputable abbrev E9g (p0:ByteArray) (r:Bool):AV×List AObj×List Nat:=((.t true .bool r),[(.box [(.t true .str p0)])],[])
noncomputable abbrev E0g:C0u.den→AV×List AObj×List Nat:=fun d=>E9g d.2.1.1 (C1i d.1.1.1 d.1.1.2.1 d.2.1.1)
noncomputable abbrev D4G:C0u.den→Bool:=fun d=>true
theorem E5o:A6P F6V aLn Tryz.f199 C0u D4G E0g:=by
 rintro ⟨⟨⟨x0_0,x0_1,_⟩,_,_⟩,⟨⟨p0,_⟩,_⟩⟩ hp
 kernel_rfl
noncomputable abbrev E0p:=winQ (msum C0u D4G E0g)
theorem E8R:aPM 199 E0p:=(mcM F6V hlz E5o).winQ (A6i fun d=>⟨rfl,rfl⟩)
noncomputable def F9p:Tab:=Tab.add F9o 199 (E0p)
noncomputable def F58:FuncId→Bool:=qadd F57 199
theorem F46:aPG F9p F58:=F6V.addMQ E8R (A6p _) (cbl Tryz.f199) (A4V _)

abbrev O0:SS:=⟨[.all 0 2,.fn 199 [1]],[.rows 105 true L1,.box [.t true .str]]⟩
abbrev H8:SS:=⟨(.all 0 2::.fn 199 [1]::.junk::.junk::.junk::.junk::.junk::tI::tI::F3t),[.rows 105 true L1,.box [.t true .str]]⟩
abbrev A0k:SS:=⟨(.junk::.junk::.junk::.junk::tI::E9D),[.rows 105 true L1,.box [.t true .str]]⟩
abbrev A0l:SS:=⟨(.junk::D1v),[.rows 105 true L1,.box [.t true .str]]⟩
noncomputable def T5 (x8:Int) (h0:LBBe) (q0:ByteArray):=let z1:=h0.getD x8.toNat (bE,bE);C1i (z1.1) (z1.2) q0
noncomputable def A7g (x7 x8:Int) (h0:LBBe) (q0:ByteArray):RT H8.den:=(.br (decide (x8<x7)) (.br (decide (0≤x8∧x8<(h0.length:Int))) (.br (T5 x8 h0 q0) (.done .ret A0k (((),(),(),(),x8,u15),(h0,(q0,()),()))) (.next (((),(),(),(),(),(),(),x7,wI (x8+(1:Int)),u11),(h0,(q0,()),())))) .fail) (.done (.exit 0) A0l ((u20),(h0,(q0,()),()))))
abbrev J8:=(Int)×(Int)
abbrev J6:=Nat×(Int)
def R5:J6:=(99,((0:Int):Int))
noncomputable def L4 (x7 x8:Int) (h0:LBBe) (q0:ByteArray):J8 ⊕ J6:=(cond (decide (x8<x7)) (cond (decide (0≤x8∧x8<(h0.length:Int))) (cond (T5 x8 h0 q0) (.inr (0,x8)) (.inl (x7,wI (x8+(1:Int))))) (.inr R5)) (.inr (1,((0:Int):Int))))
noncomputable def L2 (x7 x8:Int) (h0:LBBe) (q0:ByteArray):J6:=itX (fun v:J8=>L4 v.1 v.2 h0 q0) R5 (x7,x8)
noncomputable def R2 (h0:LBBe) (q0:ByteArray) (a:J6):CT:=(.br (a.1==0) (.done .ret A0k (((),(),(),(),a.2,u15),(h0,(q0,()),()))) (.br (a.1==1) (.done (.exit 0) A0l ((u20),(h0,(q0,()),()))) .fail))
noncomputable def B26 (x7 x8:Int) (h0:LBBe) (q0:ByteArray):CT:=(R2 h0 q0) (L2 x7 x8 h0 q0)
noncomputable abbrev A67 {α:Sort _} (f:Int→Int→LBBe→ByteArray→α) (d:H8.den):α:=f d.1.2.2.2.2.2.2.2.1 d.1.2.2.2.2.2.2.2.2.1 d.2.1 d.2.2.1.1
noncomputable abbrev R8:H8.den→RT H8.den:=(A67 A7g)
noncomputable def Z9:Code:=((C4 0 (A0y Tryz.f207)).getD 0 (0,.skip)).2
noncomputable abbrev A7b (h0:LBBe) (q0:ByteArray) (v:J8):H8.den:=(((),(),(),(),(),(),(),v.1,v.2,u11),(h0,(q0,()),()))
theorem B2U (h0:LBBe) (q0:ByteArray):(∀ v:J8,(A7g v.1 v.2 h0 q0).val=A5T (A7b h0 q0) (R2 h0 q0) (L4 v.1 v.2 h0 q0))∧∀ a:J6,CEnd H8.den ((R2 h0 q0) a):=⟨fun v=>(A6V (A6V (A6V rfl rfl) rfl) rfl),fun a=>(A6I aCD (A6I aCD A6K))⟩
theorem B2s:RdA F46 aLn 0 Z9 H8 2 [] (kepts [4] [(0,[])]) (fun d=>(R8 d).opt 2 []):=by
 intro d
 kernel_rfl
noncomputable abbrev A64:St→Option Tree:=H8.say 2 [] [] (A67 B26)
theorem B2M:aPL A64 Z9:=SS.wp2 hlz [] R8 B2s (fun d=>rfl) _ (fun d=>Runs.ofI2 (step:=R8) (A7b d.2.1 d.2.2.1.1) (B2U d.2.1 d.2.2.1.1) rfl (d.1.2.2.2.2.2.2.2.1,d.1.2.2.2.2.2.2.2.2.1))
noncomputable def J5 (h0:LBBe) (q0:ByteArray):Int:=let z1:=L2 (h0.length:Int) (0:Int) h0 q0;(cond (z1.1==0) (z1.2) (-1:Int))
noncomputable abbrev P1 (h0:LBBe) (q0:ByteArray) (r:Int):AV×List AObj×List Nat:=((ti r),[(.rows 105 true L1 h0),(.box [(.t true .str q0)])],[])
noncomputable abbrev A77:O0.den→AV×List AObj×List Nat:=fun d=>P1 d.2.1 d.2.2.1.1 (J5 d.2.1 d.2.2.1.1)
noncomputable def I8 (h0:LBBe) (q0:ByteArray):Bool:=let z1:=L2 (h0.length:Int) (0:Int) h0 q0;cond (z1.1==0) true (z1.1==1)
noncomputable abbrev A7x:O0.den→Bool:=fun d=>I8 d.2.1 d.2.2.1.1
noncomputable abbrev B4e:Nat→St→Option Tree:=fun b=>match b with | 0=>A64 | _=>fun _=>none
theorem B3i:A6P F46 (B4e) Tryz.f207 O0 A7x A77:=by
 rintro ⟨⟨_,_,_⟩,⟨h0,⟨q0,_⟩,_⟩⟩ hp
 change I8 h0 q0=true at hp
 unfold I8 at hp
 refine Eq.trans (b:=(let z1:=L2 (h0.length:Int) (0:Int) h0 q0;cond (z1.1==0) (some (P1 h0 q0 (z1.2))) (cond (z1.1==1) (some (P1 h0 q0 (-1:Int))) none))) (by kernel_rfl) ?_
 exact (H7 (P1 h0 q0) hp (fun hp=>rfl) (fun hp=>(A6T hp fun _h=>rfl)))
noncomputable abbrev A8c:=winQ (msum O0 A7x A77)
theorem B4n:aPM 207 A8c:=(mcM F46 (hl1 (i:=0) (by kernel_rfl) B2M) B3i).winQ (A6i fun d=>⟨rfl,rfl⟩)
noncomputable def F9q:Tab:=Tab.add F9p 207 (A1N (U4) (A8c))
noncomputable def F59:FuncId→Bool:=qadd F58 207
theorem F47:aPG F9q F59:=F46.addMQ (MContract.orElse A73 B4n) (A6e (A6p _) (A6p _)) (cbl Tryz.f207) (QuietS.orElse (A4V _) (A4V _))

abbrev G1o:List Sh:=.junk::F7D
abbrev u36:=((),u35)
abbrev G0d:List AV:=.junk::F7s
abbrev W2:SS:=⟨[.all 0 2,.fn 199 [1]],[.rows 105 true L1,.box [.t true .str]]⟩
abbrev J4:SS:=⟨(.all 0 2::.fn 199 [1]::.junk::.junk::.junk::tI::tI::G1o),[.rows 105 true L1,.box [.t true .str]]⟩
abbrev A9y:SS:=⟨(.all 0 2::.junk::.junk::.junk::.junk::tI::F4P),[.rows 105 true L1,.box [.t true .str]]⟩
noncomputable def M5 (x6:Int) (h0:LBBe) (q0:ByteArray):=let z1:=h0.getD x6.toNat (bE,bE);C1i (z1.1) (z1.2) q0
noncomputable def B0C (x5 x6:Int) (h0:LBBe) (q0:ByteArray):RT J4.den:=let z1:=h0.getD x6.toNat (bE,bE);(.br (decide (x6<(h0.length:Int))) (.br (decide (0≤x6∧x6<(h0.length:Int))) (.br (!(M5 x6 h0 q0)) (.br (decide (0≤x5∧x5<(h0.length:Int))) (.next (((),(),(),(),(),wI (x5+(1:Int)),wI (x6+(1:Int)),u36),(h0.set x5.toNat (z1.1,z1.2),(q0,()),()))) .fail) (.next (((),(),(),(),(),x5,wI (x6+(1:Int)),u36),(h0,(q0,()),())))) .fail) (.done (.exit 0) A9y (((),(),(),(),(),x5,u37),(h0,(q0,()),()))))
abbrev Q0:=(Int)×(Int)×(LBBe)
abbrev N5:=Nat×(Int)×(LBBe)
def A7p:N5:=(99,((0:Int):Int),([]:LBBe))
noncomputable def P8 (x5 x6:Int) (h0:LBBe) (q0:ByteArray):Q0 ⊕ N5:=let z1:=h0.getD x6.toNat (bE,bE);(cond (decide (x6<(h0.length:Int))) (cond (decide (0≤x6∧x6<(h0.length:Int))) (cond (!(M5 x6 h0 q0)) (cond (decide (0≤x5∧x5<(h0.length:Int))) (.inl (wI (x5+(1:Int)),wI (x6+(1:Int)),h0.set x5.toNat (z1.1,z1.2))) (.inr A7p)) (.inl (x5,wI (x6+(1:Int)),h0))) (.inr A7p)) (.inr (0,x5,h0)))
noncomputable def A7r (x5 x6:Int) (h0:LBBe) (q0:ByteArray):N5:=itX (fun v:Q0=>P8 v.1 v.2.1 v.2.2 q0) A7p (x5,x6,h0)
noncomputable def A7i (q0:ByteArray) (a:N5):CT:=(.br (a.1==0) (.done (.exit 0) A9y (((),(),(),(),(),a.2.1,u37),(a.2.2,(q0,()),()))) .fail)
noncomputable def C0y (x5 x6:Int) (h0:LBBe) (q0:ByteArray):CT:=(A7i q0) (A7r x5 x6 h0 q0)
noncomputable abbrev U0 {α:Sort _} (f:Int→Int→LBBe→ByteArray→α) (d:J4.den):α:=f d.1.2.2.2.2.2.1 d.1.2.2.2.2.2.2.1 d.2.1 d.2.2.1.1
noncomputable abbrev A7s:J4.den→RT J4.den:=(U0 B0C)
noncomputable def A9g:Code:=((C4 0 (A0y Tryz.f198)).getD 0 (0,.skip)).2
noncomputable abbrev B0s (q0:ByteArray) (v:Q0):J4.den:=(((),(),(),(),(),v.1,v.2.1,u36),(v.2.2,(q0,()),()))
theorem B9Y (q0:ByteArray):(∀ v:Q0,(B0C v.1 v.2.1 v.2.2 q0).val=A5T (B0s q0) (A7i q0) (P8 v.1 v.2.1 v.2.2 q0))∧∀ a:N5,CEnd J4.den ((A7i q0) a):=⟨fun v=>(A6V (A6V (A6V (A6V rfl rfl) rfl) rfl) rfl),fun a=>(A6I aCD A6K)⟩
noncomputable def B0q (x5 x6:Int) (h0:LBBe) (q0:ByteArray):Option (Ex×St):=let z1:=ti (wI (x6+(1:Int)));let z2:=h0.getD x6.toNat (bE,bE);(cond (decide (x6<(h0.length:Int))) (cond (decide (0≤x6∧x6<(h0.length:Int))) (cond (!(M5 x6 h0 q0)) (cond (decide (0≤x5∧x5<(h0.length:Int))) (some (.normal,(⟨((.all 0 2)::(.fn 199 [(.ptr 1 0 1 0)])::.junk::.junk::.junk::(ti (wI (x5+(1:Int))))::z1::G0d),[(.rows 105 true L1 (h0.set x5.toNat (z2.1,z2.2))),(.box [(.t true .str q0)])],2,[]⟩:St))) none) (some (.normal,(⟨((.all 0 2)::(.fn 199 [(.ptr 1 0 1 0)])::.junk::.junk::.junk::(ti x5)::z1::G0d),[(.rows 105 true L1 h0),(.box [(.t true .str q0)])],2,[]⟩:St)))) none) (some ((.exit 0),(⟨((.all 0 2)::.junk::.junk::.junk::.junk::(ti x5)::F4H),[(.rows 105 true L1 h0),(.box [(.t true .str q0)])],2,[]⟩:St))))
theorem B9f:RdA F47 aLn 0 A9g J4 2 [] (kepts [] [(0,[0,5])]) (U0 B0q):=by
 intro d
 kernel_rfl
theorem B9h:∀ d:J4.den,(U0 B0q) d=(A7s d).opt 2 []:=by
 intro d
 kernel_rfl
noncomputable abbrev A9J:St→Option Tree:=J4.say 2 [] [] (U0 C0y)
theorem B9S:aPL A9J A9g:=SS.wp2 hlz [] A7s B9f B9h _ (fun d=>Runs.ofI2 (step:=A7s) (B0s d.2.2.1.1) (B9Y d.2.2.1.1) rfl (d.1.2.2.2.2.2.1,d.1.2.2.2.2.2.2.1,d.2.1))
noncomputable def X5 (h0:LBBe) (q0:ByteArray):=let z1:=J5 h0 q0;A7r z1 (wI (z1+(1:Int))) h0 q0
noncomputable def V4 (h0:LBBe) (q0:ByteArray):LBBe×ByteArray:=let z1:=X5 h0 q0;let z2:=(((z1.2.2).length:Nat):Int).toNat - (z1.2.1).toNat;(cond ((J5 h0 q0)==(-1:Int)) (h0,q0) ((((z1.2.2).take ((z1.2.1).toNat)++List.replicate z2 (bE,bE))++(z1.2.2).drop (((z1.2.1).toNat)+z2)).take ((z1.2.1).toNat),q0))
noncomputable abbrev Y6 (r:LBBe×ByteArray):AV×List AObj×List Nat:=((.all 0 2),[(.rows 105 true L1 r.1),(.box [(.t true .str r.2)])],[0])
noncomputable abbrev B22:W2.den→AV×List AObj×List Nat:=fun d=>Y6 (V4 d.2.1 d.2.2.1.1)
noncomputable def M9 (h0:LBBe) (q0:ByteArray):Bool:=let z1:=X5 h0 q0;let z2:=(((z1.2.2).length:Nat):Int).toNat - (z1.2.1).toNat;(I8 h0 q0)&&(cond ((J5 h0 q0)==(-1:Int)) true ((z1.1==0)&&((decide (0≤(z1.2.1)∧(z1.2.1)≤(((z1.2.2).length:Nat):Int)∧(((z1.2.2).length:Nat):Int)≤(((z1.2.2).length:Nat):Int)))&&(decide (0≤(0:Int)∧(0:Int)≤(z1.2.1)∧(z1.2.1)≤(((((z1.2.2).take ((z1.2.1).toNat)++List.replicate z2 (bE,bE))++(z1.2.2).drop (((z1.2.1).toNat)+z2)).length:Nat):Int))))))
noncomputable abbrev B1i:W2.den→Bool:=fun d=>M9 d.2.1 d.2.2.1.1
noncomputable abbrev C3A:Nat→St→Option Tree:=fun b=>match b with | 0=>A9J | _=>fun _=>none
theorem C00:A6O false [] [0] [] F47 (C3A) Tryz.f198 W2 B1i B22:=by
 rintro ⟨⟨_,_,_⟩,⟨h0,⟨q0,_⟩,_⟩⟩ hp
 change M9 h0 q0=true at hp
 unfold M9 at hp
 refine Eq.trans (b:=(let z1:=X5 h0 q0;let z2:=(((z1.2.2).length:Nat):Int).toNat - (z1.2.1).toNat;cond (I8 h0 q0) (cond ((J5 h0 q0)==(-1:Int)) (some (Y6 (h0,q0))) (cond (z1.1==0) (cond (decide (0≤(z1.2.1)∧(z1.2.1)≤(((z1.2.2).length:Nat):Int)∧(((z1.2.2).length:Nat):Int)≤(((z1.2.2).length:Nat):Int))) (cond (decide (0≤(0:Int)∧(0:Int)≤(z1.2.1)∧(z1.2.1)≤(((((z1.2.2).take ((z1.2.1).toNat)++List.replicate z2 ((⟨#[]⟩:ByteArray),(⟨#[]⟩:ByteArray)))++(z1.2.2).drop (((z1.2.1).toNat)+z2)).length:Nat):Int))) (some (Y6 ((((z1.2.2).take ((z1.2.1).toNat)++List.replicate z2 ((⟨#[]⟩:ByteArray),(⟨#[]⟩:ByteArray)))++(z1.2.2).drop (((z1.2.1).toNat)+z2)).take ((z1.2.1).toNat),q0))) none) none) none)) none)) (by kernel_rfl) ?_
 exact (A6R hp fun hp=>(H7 Y6 hp (fun hp=>rfl) (fun hp=>(A6R hp fun hp=>(A6R hp fun hp=>(A6T hp fun _h=>rfl))))))
noncomputable abbrev B24:=win E7 (msum W2 B1i B22)
theorem C3C:aPM 198 B24:=(mcE false [] [0] []  F47 (hl1 (i:=0) (by kernel_rfl) B9S) C00).win E7
noncomputable def F9r:Tab:=Tab.add F9q 198 (B24)
noncomputable def F6a:FuncId→Bool:=F59
theorem F6W:aPG F9r F6a:=F47.addM C3C (A6r _) (cbl Tryz.f198) (by kernel_rfl)

abbrev C5z:List PSh:=[.t Z3,.t .str]
noncomputable def E1Q (a0:LBBe) (a1:ByteArray):LBBe:=((V4 (N4 a0) a1).1)
noncomputable abbrev E5J (r:LBBe):AV×List AObj:=((.all 0 2),[(.rows 105 true L1 r)])
noncomputable abbrev D83:F5 C5z→AV×List AObj:=fun d=>E5J (E1Q d.1 d.2.1)
noncomputable def B47 (a0:LBBe) (a1:ByteArray):Bool:=(M0 a0)&&(M9 (N4 a0) a1)
noncomputable abbrev D1H:F5 C5z→Bool:=fun d=>B47 d.1 d.2.1
theorem F0a:A6Q false F6W aLn Tryz.f175 C5z D1H D83:=by
 rintro ⟨a0,⟨a1,_⟩⟩ hp
 change B47 a0 a1=true at hp
 unfold B47 at hp
 refine Eq.trans (b:=(let z1:=N4 a0;cond (M0 a0) (cond (M9 z1 a1) (some (E5J ((V4 z1 a1).1))) none) none)) (by kernel_rfl) ?_
 exact (A6R hp fun hp=>(A6T hp fun _h=>rfl))
theorem F2X:aPP 175 (A2z C5z D1H D83):=pcD false F6W hlz F0a
noncomputable def F9s:Tab:=Tab.add F9r 175 (lift (A2z C5z D1H D83))
noncomputable def F6b:FuncId→Bool:=F6a
theorem F48:aPG F9s F6b:=F6W.add F2X (cbl Tryz.f175) (by kernel_rfl)


end Go.Proofs.YtcofibhklbfgoaaGreat.Eng
