/- What the functions that FnMadeSure reaches compute: further. -/
import Derived.Test.YtapikgcgahomlaaGreatFMadeSureA
namespace Go.Proofs.YtapikgcgahomlaaGreat.Eng
open Go Go.RowKit
set_option linter.unusedSimpArgs false
set_option linter.unusedVariables false
set_option maxRecDepth 10000
abbrev B5F:SS:=⟨[.ptr 0 0 1 0,tI],[.box [tI,.all 1 3,tI,.all 2 2,.all 3 3],.rows 48 true tq4,.rows 50 true D0,.rows 48 true tq4]⟩
noncomputable def B5G (p2:Int) (h1:Lq1):=T3 (h1.take ((wI (p2+(wI ((h1.length:Int) - p2)))).toNat))
noncomputable def B8k (x1 p0 p2:Int) (h1:Lq1) (h2:LBBe) (h3:Lq1):Int×Int×Lq1×LBBe×Lq1:=let z1:=wI ((h1.length:Int) - p2);let z2:=wI (p2+(0:Int));let z3:=wI (p2+z1);let z4:=wI (p2+x1);let z5:=B5G p2 h1;let z6:=T3 (h1.take (z2.toNat));let z7:=T3 (h1.take (z4.toNat));(cond (decide (x1<(0:Int))) (cond (decide ((0:Int) > z1)) (p0,((z3.toNat:Nat):Int),h1.take (z3.toNat),(z5.2.1),(z5.2.2)) (p0,((z2.toNat:Nat):Int),h1.take (z2.toNat),(z6.2.1),(z6.2.2))) (cond (decide (x1 > z1)) (p0,((z3.toNat:Nat):Int),h1.take (z3.toNat),(z5.2.1),(z5.2.2)) (p0,((z4.toNat:Nat):Int),h1.take (z4.toNat),(z7.2.1),(z7.2.2))))
noncomputable abbrev A7w (r:Int×Int×Lq1×LBBe×Lq1):AV×List AObj×List Nat:=((.tup []),[(.box [(ti r.1),(.all 1 3),(ti r.2.1),(.all 2 2),(.all 3 3)]),(.rows 48 true tq4 r.2.2.1),(.rows 50 true D0 r.2.2.2.1),(.rows 48 true tq4 r.2.2.2.2)],[1,2,3])
noncomputable abbrev D3u:B5F.den→AV×List AObj×List Nat:=fun d=>A7w (B8k d.1.2.1 d.2.1.1 d.2.1.2.2.1 d.2.2.1 d.2.2.2.1 d.2.2.2.2.1)
noncomputable def A5o (x1 p0 p2:Int) (h1:Lq1) (h2:LBBe) (h3:Lq1):Bool:=let z3:=wI ((h1.length:Int) - p2);let z1:=wI (p2+z3);let z2:=(decide (0≤(0:Int)∧(0:Int)≤z1∧z1≤(h1.length:Int)))&&(M8 (h1.take (z1.toNat)));let z4:=wI (p2+(0:Int));let z5:=wI (p2+x1);cond (decide (x1<(0:Int))) (cond (decide ((0:Int) > z3)) z2 ((decide (0≤(0:Int)∧(0:Int)≤z4∧z4≤(h1.length:Int)))&&(M8 (h1.take (z4.toNat))))) (cond (decide (x1 > z3)) z2 ((decide (0≤(0:Int)∧(0:Int)≤z5∧z5≤(h1.length:Int)))&&(M8 (h1.take (z5.toNat)))))
noncomputable abbrev C7m:B5F.den→Bool:=fun d=>A5o d.1.2.1 d.2.1.1 d.2.1.2.2.1 d.2.2.1 d.2.2.2.1 d.2.2.2.2.1
theorem D9x:C6L false [] [1,2,3] [(0,1,1,48,tq4),(0,3,2,50,D0),(0,4,3,48,tq4)] G36 aLn Tryz.f72 B5F C7m D3u:=by
 rintro ⟨⟨_,x1,_⟩,⟨⟨p0,_,p2,_,_,_⟩,h1,h2,h3,_⟩⟩ hp
 change A5o x1 p0 p2 h1 h2 h3=true at hp
 unfold A5o at hp
 refine Eq.trans (b:=(let z2:=wI (p2+(0:Int));let z3:=wI (p2+x1);let z5:=wI ((h1.length:Int) - p2);let z1:=wI (p2+z5);let z4:=A7w (p0,((z1.toNat:Nat):Int),h1.take (z1.toNat),((B5G p2 h1).2.1),((B5G p2 h1).2.2));let z6:=decide (0≤(0:Int)∧(0:Int)≤z1∧z1≤(h1.length:Int));let z7:=h1.take (z2.toNat);let z8:=h1.take (z3.toNat);let z9:=M8 (h1.take (z1.toNat));cond (decide (x1<(0:Int))) (cond (decide ((0:Int) > z5)) (cond z6 (cond z9 (some z4) none) none) (cond (decide (0≤(0:Int)∧(0:Int)≤z2∧z2≤(h1.length:Int))) (cond (M8 z7) (some (A7w (p0,((z2.toNat:Nat):Int),h1.take (z2.toNat),((T3 z7).2.1),((T3 z7).2.2)))) none) none)) (cond (decide (x1 > z5)) (cond z6 (cond z9 (some z4) none) none) (cond (decide (0≤(0:Int)∧(0:Int)≤z3∧z3≤(h1.length:Int))) (cond (M8 z8) (some (A7w (p0,((z3.toNat:Nat):Int),h1.take (z3.toNat),((T3 z8).2.1),((T3 z8).2.2)))) none) none)))) (by kernel_rfl) ?_
 exact (A9 A7w hp (fun hp=>(A9 A7w hp (fun hp=>(B2 hp fun hp=>(B7 hp fun _h=>rfl))) (fun hp=>(B2 hp fun hp=>(B7 hp fun _h=>rfl))))) (fun hp=>(A9 A7w hp (fun hp=>(B2 hp fun hp=>(B7 hp fun _h=>rfl))) (fun hp=>(B2 hp fun hp=>(B7 hp fun _h=>rfl))))))
noncomputable abbrev D5i:=win B0 (msum B5F C7m D3u)
theorem E4J:aPM 72 D5i:=(mcE false [] [1,2,3] [(0,1,1,48,tq4),(0,3,2,50,D0),(0,4,3,48,tq4)]  G36 hlz D9x).win B0
noncomputable def S37:Tab:=Tab.add S36 72 (D5i)
noncomputable def F2i:FuncId→Bool:=F1I
theorem G37:aPG S37 F2i:=G36.addM E4J (C1 _) (cbl Tryz.f72) (by kernel_rfl)

abbrev F2R:List Sh:=.junk::.junk::F1m
abbrev F42:List Sh:=.junk::F2R
abbrev u58:=((),(),(),(),u54)
abbrev u65:=((),(),u63)
abbrev E6m:List AV:=.junk::.junk::F1q
abbrev F4R:List AV:=.junk::E6m
abbrev C0r:SS:=⟨[.ptr 0 0 1 0,tI],[.box [.t false T4,tI,tI]]⟩
abbrev A2u:SS:=⟨(.ptr 0 0 1 0::.junk::.junk::.junk::.ptr 1 0 1 0::.ptr 2 0 1 0::tI::F2R),[.box [.t false T4,tI,tI],.box [tI,.nil,tI,.nil,.nil],.box [tI,.all 3 3,tI,.all 4 2,.all 5 3],.rows 48 true tq4,.rows 50 true D0,.rows 48 true tq4]⟩
abbrev C5r:SS:=⟨(.junk::.junk::.junk::.junk::.ptr 1 0 1 0::.ptr 2 0 1 0::F42),[.box [.t false T4,tI,tI],.box [tI,.nil,tI,.nil,.nil],.box [tI,.all 3 3,tI,.all 4 2,.all 5 3],.rows 48 true tq4,.rows 50 true D0,.rows 48 true tq4]⟩
noncomputable def E1 (p0:List Int) (p1 p2:Int):=let z1:=A3 (6:Int) p0 p1 p2;A3 (8:Int) (z1.2.1) (z1.2.2.1) (z1.2.2.2)
noncomputable def A7K (p0:List Int) (p1 p2:Int):=let z1:=E1 p0 p1 p2;F0 (z1.2.1) (z1.2.2.1) (z1.2.2.2)
noncomputable def B9E (p0:List Int) (p1 p2 r0 r2:Int) (h3:Lq1) (h4:LBBe) (h5:Lq1):=D2V (wI ((1:Int)+((A3 (6:Int) p0 p1 p2).1))) r0 r2 ((A7K p0 p1 p2).2.2.2) h3 h4 h5
noncomputable def Q0 (p0:List Int) (p1 p2:Int) (h5:Lq1):=let z1:=E1 p0 p1 p2;A3 (h5.length:Int) (z1.2.1) (z1.2.2.1) (z1.2.2.2)
noncomputable def A1L (p0:List Int) (p1 p2:Int) (h5:Lq1):=let z1:=Q0 p0 p1 p2 h5;A2o (4:Int) (z1.2.1) (z1.2.2.1) (z1.2.2.2)
noncomputable def A3M (p0:List Int) (p1 p2 r0 r2:Int) (h3:Lq1) (h4:LBBe) (h5:Lq1):=B3I (((h5.getD (((Q0 p0 p1 p2 h5).1).toNat) ((0:Int),((0:Int),[]))).2).1) (!((A1L p0 p1 p2 h5).1)) r0 r2 h3 h4 h5
noncomputable def A1H (p0:List Int) (p1 p2:Int):=let z1:=E1 p0 p1 p2;A2o (4:Int) (z1.2.1) (z1.2.2.1) (z1.2.2.2)
noncomputable def A3T (p0:List Int) (p1 p2 r0 r2:Int) (h3:Lq1) (h4:LBBe) (h5:Lq1):=B3I (wI ((1:Int)+((A3 (6:Int) p0 p1 p2).1))) (!((A1H p0 p1 p2).1)) r0 r2 h3 h4 h5
noncomputable def A8g (p0:List Int) (p1 p2:Int):=let z1:=E1 p0 p1 p2;A3 (3:Int) (z1.2.1) (z1.2.2.1) (z1.2.2.2)
noncomputable def C7j (x6:Int) (p0:List Int) (p1 p2 q0 q2 r0 r2:Int) (h3:Lq1) (h4:LBBe) (h5:Lq1):RT A2u.den:=let z1:=E1 p0 p1 p2;let z2:=B9E p0 p1 p2 r0 r2 h3 h4 h5;let z4:=A3M p0 p1 p2 r0 r2 h3 h4 h5;let z5:=A3T p0 p1 p2 r0 r2 h3 h4 h5;let z6:=Q0 p0 p1 p2 h5;let z7:=A7K p0 p1 p2;let z9:=A1L p0 p1 p2 h5;let z10:=A1H p0 p1 p2;let z11:=A3 (6:Int) p0 p1 p2;let z12:=Z9 (z1.2.1) (z1.2.2.1) (z1.2.2.2);let z13:=x6 - (1:Int);let z14:=T2 (((h5.getD ((z6.1).toNat) ((0:Int),((0:Int),[]))).2).1) (!(z9.1)) r0 r2 h3 h4 h5;let z15:=A8g p0 p1 p2;let z8:=B8k (z15.1) r0 r2 h3 h4 h5;let z17:=A5 (h5.length:Int) (z1.2.1) (z1.2.2.1) (z1.2.2.2);let z18:=O7 (4:Int) (z6.2.1) (z6.2.2.1) (z6.2.2.2);let z19:=O7 (4:Int) (z1.2.1) (z1.2.2.1) (z1.2.2.2);let z20:=decide (0≤(z6.1)∧(z6.1)<(h5.length:Int));let z21:=wI ((1:Int)+(z11.1));let z3:=A7N z21 r0 r2 (z7.2.2.2) h3 h4 h5;let z16:=T2 z21 (!(z10.1)) r0 r2 h3 h4 h5;let z22:=decide ((h5.length:Int) > (0:Int));(.br (decide (x6 > (0:Int))) (.br (A5 (6:Int) p0 p1 p2) (.br (A5 (8:Int) (z11.2.1) (z11.2.2.1) (z11.2.2.2)) (.br ((z1.1)==(0:Int)) (.br z12 (.br z3 (.next (((),(),(),(),(),(),wI z13,u58),(((z7.1),(z7.2.1),(z7.2.2.1),()),(q0,(),q2,(),(),()),((z2.2.1),(),(z2.2.2.1),(),(),()),(z2.2.2.2.2.1),(z2.2.2.2.2.2.1),(z2.2.2.2.2.2.2),()))) .fail) .fail) (.br ((z1.1)==(1:Int)) (.br z12 (.br z3 (.next (((),(),(),(),(),(),wI z13,u58),(((z7.1),(z7.2.1),(z7.2.2.1),()),(q0,(),q2,(),(),()),((z2.2.1),(),(z2.2.2.1),(),(),()),(z2.2.2.2.2.1),(z2.2.2.2.2.2.1),(z2.2.2.2.2.2.2),()))) .fail) .fail) (.br ((z1.1)==(2:Int)) (.br z12 (.br z3 (.next (((),(),(),(),(),(),wI z13,u58),(((z7.1),(z7.2.1),(z7.2.2.1),()),(q0,(),q2,(),(),()),((z2.2.1),(),(z2.2.2.1),(),(),()),(z2.2.2.2.2.1),(z2.2.2.2.2.2.1),(z2.2.2.2.2.2.2),()))) .fail) .fail) (.br ((z1.1)==(3:Int)) (.br z12 (.br z3 (.next (((),(),(),(),(),(),wI z13,u58),(((z7.1),(z7.2.1),(z7.2.2.1),()),(q0,(),q2,(),(),()),((z2.2.1),(),(z2.2.2.1),(),(),()),(z2.2.2.2.2.1),(z2.2.2.2.2.2.1),(z2.2.2.2.2.2.2),()))) .fail) .fail) (.br ((z1.1)==(4:Int)) (.br z22 (.br z17 (.br z20 (.br z18 (.br z14 (.next (((),(),(),(),(),(),wI z13,u58),(((z9.2.1),(z9.2.2.1),(z9.2.2.2),()),(q0,(),q2,(),(),()),((z4.2.1),(),(z4.2.2.1),(),(),()),(z4.2.2.2.1),(z4.2.2.2.2.1),(z4.2.2.2.2.2),()))) .fail) .fail) .fail) .fail) (.br z19 (.br z16 (.next (((),(),(),(),(),(),wI z13,u58),(((z10.2.1),(z10.2.2.1),(z10.2.2.2),()),(q0,(),q2,(),(),()),((z5.2.1),(),(z5.2.2.1),(),(),()),(z5.2.2.2.1),(z5.2.2.2.2.1),(z5.2.2.2.2.2),()))) .fail) .fail)) (.br ((z1.1)==(5:Int)) (.br z22 (.br z17 (.br z20 (.br z18 (.br z14 (.next (((),(),(),(),(),(),wI z13,u58),(((z9.2.1),(z9.2.2.1),(z9.2.2.2),()),(q0,(),q2,(),(),()),((z4.2.1),(),(z4.2.2.1),(),(),()),(z4.2.2.2.1),(z4.2.2.2.2.1),(z4.2.2.2.2.2),()))) .fail) .fail) .fail) .fail) (.br z19 (.br z16 (.next (((),(),(),(),(),(),wI z13,u58),(((z10.2.1),(z10.2.2.1),(z10.2.2.2),()),(q0,(),q2,(),(),()),((z5.2.1),(),(z5.2.2.1),(),(),()),(z5.2.2.2.1),(z5.2.2.2.2.1),(z5.2.2.2.2.2),()))) .fail) .fail)) (.br ((z1.1)==(6:Int)) (.next (((),(),(),(),(),(),wI z13,u58),(((z1.2.1),(z1.2.2.1),(z1.2.2.2),()),(q0,(),q2,(),(),()),(r0,(),(h3.length:Int),(),(),()),h3,h4,h5,()))) (.br (A5 (3:Int) (z1.2.1) (z1.2.2.1) (z1.2.2.2)) (.br (A5o (z15.1) r0 r2 h3 h4 h5) (.next (((),(),(),(),(),(),wI z13,u58),(((z15.2.1),(z15.2.2.1),(z15.2.2.2),()),(q0,(),q2,(),(),()),((z8.1),(),(z8.2.1),(),(),()),(z8.2.2.1),(z8.2.2.2.1),(z8.2.2.2.2),()))) .fail) .fail)))))))) .fail) .fail) (.done (.exit 0) C5r ((u65),((p0,p1,p2,()),(q0,(),q2,(),(),()),(r0,(),r2,(),(),()),h3,h4,h5,()))))
abbrev A2v:=(Int)×(List Int)×(Int)×(Int)×(Int)×(Int)×Lq1×LBBe×(Lq1)
abbrev A1t:=Nat×(List Int)×(Int)×(Int)×(Int)×(Int)×Lq1×LBBe×(Lq1)
def B6:A1t:=(99,([]:List Int),((0:Int):Int),((0:Int):Int),((0:Int):Int),((0:Int):Int),([]:Lq1),([]:LBBe),([]:Lq1))
noncomputable def A9S (x6:Int) (p0:List Int) (p1 p2 q0 q2 r0 r2:Int) (h3:Lq1) (h4:LBBe) (h5:Lq1):A2v ⊕ A1t:=let z1:=E1 p0 p1 p2;let z2:=B9E p0 p1 p2 r0 r2 h3 h4 h5;let z4:=A3M p0 p1 p2 r0 r2 h3 h4 h5;let z5:=A3T p0 p1 p2 r0 r2 h3 h4 h5;let z6:=Q0 p0 p1 p2 h5;let z7:=A7K p0 p1 p2;let z9:=A1L p0 p1 p2 h5;let z10:=A1H p0 p1 p2;let z11:=A3 (6:Int) p0 p1 p2;let z12:=Z9 (z1.2.1) (z1.2.2.1) (z1.2.2.2);let z13:=x6 - (1:Int);let z14:=T2 (((h5.getD ((z6.1).toNat) ((0:Int),((0:Int),[]))).2).1) (!(z9.1)) r0 r2 h3 h4 h5;let z15:=A8g p0 p1 p2;let z8:=B8k (z15.1) r0 r2 h3 h4 h5;let z17:=A5 (h5.length:Int) (z1.2.1) (z1.2.2.1) (z1.2.2.2);let z18:=O7 (4:Int) (z6.2.1) (z6.2.2.1) (z6.2.2.2);let z19:=O7 (4:Int) (z1.2.1) (z1.2.2.1) (z1.2.2.2);let z20:=decide (0≤(z6.1)∧(z6.1)<(h5.length:Int));let z21:=wI ((1:Int)+(z11.1));let z3:=A7N z21 r0 r2 (z7.2.2.2) h3 h4 h5;let z16:=T2 z21 (!(z10.1)) r0 r2 h3 h4 h5;let z22:=decide ((h5.length:Int) > (0:Int));(cond (decide (x6 > (0:Int))) (cond (A5 (6:Int) p0 p1 p2) (cond (A5 (8:Int) (z11.2.1) (z11.2.2.1) (z11.2.2.2)) (cond ((z1.1)==(0:Int)) (cond z12 (cond z3 (.inl (wI z13,(z7.1),(z7.2.1),(z7.2.2.1),(z2.2.1),(z2.2.2.1),(z2.2.2.2.2.1),(z2.2.2.2.2.2.1),(z2.2.2.2.2.2.2))) (.inr B6)) (.inr B6)) (cond ((z1.1)==(1:Int)) (cond z12 (cond z3 (.inl (wI z13,(z7.1),(z7.2.1),(z7.2.2.1),(z2.2.1),(z2.2.2.1),(z2.2.2.2.2.1),(z2.2.2.2.2.2.1),(z2.2.2.2.2.2.2))) (.inr B6)) (.inr B6)) (cond ((z1.1)==(2:Int)) (cond z12 (cond z3 (.inl (wI z13,(z7.1),(z7.2.1),(z7.2.2.1),(z2.2.1),(z2.2.2.1),(z2.2.2.2.2.1),(z2.2.2.2.2.2.1),(z2.2.2.2.2.2.2))) (.inr B6)) (.inr B6)) (cond ((z1.1)==(3:Int)) (cond z12 (cond z3 (.inl (wI z13,(z7.1),(z7.2.1),(z7.2.2.1),(z2.2.1),(z2.2.2.1),(z2.2.2.2.2.1),(z2.2.2.2.2.2.1),(z2.2.2.2.2.2.2))) (.inr B6)) (.inr B6)) (cond ((z1.1)==(4:Int)) (cond z22 (cond z17 (cond z20 (cond z18 (cond z14 (.inl (wI z13,(z9.2.1),(z9.2.2.1),(z9.2.2.2),(z4.2.1),(z4.2.2.1),(z4.2.2.2.1),(z4.2.2.2.2.1),(z4.2.2.2.2.2))) (.inr B6)) (.inr B6)) (.inr B6)) (.inr B6)) (cond z19 (cond z16 (.inl (wI z13,(z10.2.1),(z10.2.2.1),(z10.2.2.2),(z5.2.1),(z5.2.2.1),(z5.2.2.2.1),(z5.2.2.2.2.1),(z5.2.2.2.2.2))) (.inr B6)) (.inr B6))) (cond ((z1.1)==(5:Int)) (cond z22 (cond z17 (cond z20 (cond z18 (cond z14 (.inl (wI z13,(z9.2.1),(z9.2.2.1),(z9.2.2.2),(z4.2.1),(z4.2.2.1),(z4.2.2.2.1),(z4.2.2.2.2.1),(z4.2.2.2.2.2))) (.inr B6)) (.inr B6)) (.inr B6)) (.inr B6)) (cond z19 (cond z16 (.inl (wI z13,(z10.2.1),(z10.2.2.1),(z10.2.2.2),(z5.2.1),(z5.2.2.1),(z5.2.2.2.1),(z5.2.2.2.2.1),(z5.2.2.2.2.2))) (.inr B6)) (.inr B6))) (cond ((z1.1)==(6:Int)) (.inl (wI z13,(z1.2.1),(z1.2.2.1),(z1.2.2.2),r0,(h3.length:Int),h3,h4,h5)) (cond (A5 (3:Int) (z1.2.1) (z1.2.2.1) (z1.2.2.2)) (cond (A5o (z15.1) r0 r2 h3 h4 h5) (.inl (wI z13,(z15.2.1),(z15.2.2.1),(z15.2.2.2),(z8.1),(z8.2.1),(z8.2.2.1),(z8.2.2.2.1),(z8.2.2.2.2))) (.inr B6)) (.inr B6))))))))) (.inr B6)) (.inr B6)) (.inr (0,p0,p1,p2,r0,r2,h3,h4,h5)))
noncomputable def B8M (x6:Int) (p0:List Int) (p1 p2 q0 q2 r0 r2:Int) (h3:Lq1) (h4:LBBe) (h5:Lq1):A1t:=itX (fun v:A2v=>A9S v.1 v.2.1 v.2.2.1 v.2.2.2.1 q0 q2 v.2.2.2.2.1 v.2.2.2.2.2.1 v.2.2.2.2.2.2.1 v.2.2.2.2.2.2.2.1 v.2.2.2.2.2.2.2.2) B6 (x6,p0,p1,p2,r0,r2,h3,h4,h5)
noncomputable def B9R (q0 q2:Int) (a:A1t):CT:=(.br (a.1==0) (.done (.exit 0) C5r ((u65),((a.2.1,a.2.2.1,a.2.2.2.1,()),(q0,(),q2,(),(),()),(a.2.2.2.2.1,(),a.2.2.2.2.2.1,(),(),()),a.2.2.2.2.2.2.1,a.2.2.2.2.2.2.2.1,a.2.2.2.2.2.2.2.2,()))) .fail)
noncomputable def E1V (x6:Int) (p0:List Int) (p1 p2 q0 q2 r0 r2:Int) (h3:Lq1) (h4:LBBe) (h5:Lq1):CT:=(B9R q0 q2) (B8M x6 p0 p1 p2 q0 q2 r0 r2 h3 h4 h5)
noncomputable abbrev B3m {α:Sort _} (f:Int→(List Int)→Int→Int→Int→Int→Int→Int→Lq1→LBBe→Lq1→α) (d:A2u.den):α:=f d.1.2.2.2.2.2.2.1 d.2.1.1 d.2.1.2.1 d.2.1.2.2.1 d.2.2.1.1 d.2.2.1.2.2.1 d.2.2.2.1.1 d.2.2.2.1.2.2.1 d.2.2.2.2.1 d.2.2.2.2.2.1 d.2.2.2.2.2.2.1
noncomputable abbrev B9H:A2u.den→RT A2u.den:=(B3m C7j)
noncomputable def C2H:Code:=((A6 0 (B4 Tryz.f41)).getD 0 (0,.skip)).2
noncomputable abbrev C8m (q0 q2:Int) (v:A2v):A2u.den:=(((),(),(),(),(),(),v.1,u58),((v.2.1,v.2.2.1,v.2.2.2.1,()),(q0,(),q2,(),(),()),(v.2.2.2.2.1,(),v.2.2.2.2.2.1,(),(),()),v.2.2.2.2.2.2.1,v.2.2.2.2.2.2.2.1,v.2.2.2.2.2.2.2.2,()))
theorem D8V (q0 q2:Int):(∀ v:A2v,(C7j v.1 v.2.1 v.2.2.1 v.2.2.2.1 q0 q2 v.2.2.2.2.1 v.2.2.2.2.2.1 v.2.2.2.2.2.2.1 v.2.2.2.2.2.2.2.1 v.2.2.2.2.2.2.2.2).val=R5 (C8m q0 q2) (B9R q0 q2) (A9S v.1 v.2.1 v.2.2.1 v.2.2.2.1 q0 q2 v.2.2.2.2.1 v.2.2.2.2.2.1 v.2.2.2.2.2.2.1 v.2.2.2.2.2.2.2.1 v.2.2.2.2.2.2.2.2))∧∀ a:A1t,CEnd A2u.den ((B9R q0 q2) a):=⟨fun v=>by repeat' first | apply B3 | rfl,fun a=>(C5 aCD K7)⟩
noncomputable def C78 (x6:Int) (p0:List Int) (p1 p2 q0 q2 r0 r2:Int) (h3:Lq1) (h4:LBBe) (h5:Lq1):Option (Ex×St):=let z4:=E1 p0 p1 p2;let z6:=Q0 p0 p1 p2 h5;let z8:=ti (wI (x6 - (1:Int)));let z9:=B9E p0 p1 p2 r0 r2 h3 h4 h5;let z10:=A3M p0 p1 p2 r0 r2 h3 h4 h5;let z11:=A3T p0 p1 p2 r0 r2 h3 h4 h5;let z12:=A3 (6:Int) p0 p1 p2;let z13:=Z9 (z4.2.1) (z4.2.2.1) (z4.2.2.2);let z16:=A8g p0 p1 p2;let z7:=B8k (z16.1) r0 r2 h3 h4 h5;let z17:=A1L p0 p1 p2 h5;let z2:=(⟨((.ptr 0 0 1 0)::.junk::.junk::.junk::(.ptr 1 0 1 0)::(.ptr 2 0 1 0)::z8::E6m),[(.box [(.t false T4 (z17.2.1)),(ti (z17.2.2.1)),(ti (z17.2.2.2))]),(.box [(ti q0),(.raw (.slice none 0 0)),(ti q2),(.raw (.slice none 0 0)),(.raw (.slice none 0 0))]),(.box [(ti (z10.2.1)),(.all 3 3),(ti (z10.2.2.1)),(.all 4 2),(.all 5 3)]),(.rows 48 true tq4 (z10.2.2.2.1)),(.rows 50 true D0 (z10.2.2.2.2.1)),(.rows 48 true tq4 (z10.2.2.2.2.2))],1,[]⟩:St);let z14:=T2 (((h5.getD ((z6.1).toNat) ((0:Int),((0:Int),[]))).2).1) (!(z17.1)) r0 r2 h3 h4 h5;let z18:=A5 (h5.length:Int) (z4.2.1) (z4.2.2.1) (z4.2.2.2);let z19:=A7K p0 p1 p2;let z1:=(⟨((.ptr 0 0 1 0)::.junk::.junk::.junk::(.ptr 1 0 1 0)::(.ptr 2 0 1 0)::z8::E6m),[(.box [(.t false T4 (z19.1)),(ti (z19.2.1)),(ti (z19.2.2.1))]),(.box [(ti q0),(.raw (.slice none 0 0)),(ti q2),(.raw (.slice none 0 0)),(.raw (.slice none 0 0))]),(.box [(ti (z9.2.1)),(.all 3 3),(ti (z9.2.2.1)),(.all 4 2),(.all 5 3)]),(.rows 48 true tq4 (z9.2.2.2.2.1)),(.rows 50 true D0 (z9.2.2.2.2.2.1)),(.rows 48 true tq4 (z9.2.2.2.2.2.2))],1,[]⟩:St);let z20:=A1H p0 p1 p2;let z3:=(⟨((.ptr 0 0 1 0)::.junk::.junk::.junk::(.ptr 1 0 1 0)::(.ptr 2 0 1 0)::z8::E6m),[(.box [(.t false T4 (z20.2.1)),(ti (z20.2.2.1)),(ti (z20.2.2.2))]),(.box [(ti q0),(.raw (.slice none 0 0)),(ti q2),(.raw (.slice none 0 0)),(.raw (.slice none 0 0))]),(.box [(ti (z11.2.1)),(.all 3 3),(ti (z11.2.2.1)),(.all 4 2),(.all 5 3)]),(.rows 48 true tq4 (z11.2.2.2.1)),(.rows 50 true D0 (z11.2.2.2.2.1)),(.rows 48 true tq4 (z11.2.2.2.2.2))],1,[]⟩:St);let z21:=O7 (4:Int) (z6.2.1) (z6.2.2.1) (z6.2.2.2);let z22:=O7 (4:Int) (z4.2.1) (z4.2.2.1) (z4.2.2.2);let z23:=decide (0≤(z6.1)∧(z6.1)<(h5.length:Int));let z24:=wI ((1:Int)+(z12.1));let z5:=A7N z24 r0 r2 (z19.2.2.2) h3 h4 h5;let z15:=T2 z24 (!(z20.1)) r0 r2 h3 h4 h5;let z25:=decide ((h5.length:Int) > (0:Int));(cond (decide (x6 > (0:Int))) (cond (A5 (6:Int) p0 p1 p2) (cond (A5 (8:Int) (z12.2.1) (z12.2.2.1) (z12.2.2.2)) (cond ((z4.1)==(0:Int)) (cond z13 (cond z5 (some (.normal,z1)) none) none) (cond ((z4.1)==(1:Int)) (cond z13 (cond z5 (some (.normal,z1)) none) none) (cond ((z4.1)==(2:Int)) (cond z13 (cond z5 (some (.normal,z1)) none) none) (cond ((z4.1)==(3:Int)) (cond z13 (cond z5 (some (.normal,z1)) none) none) (cond ((z4.1)==(4:Int)) (cond z25 (cond z18 (cond z23 (cond z21 (cond z14 (some (.normal,z2)) none) none) none) none) (cond z22 (cond z15 (some (.normal,z3)) none) none)) (cond ((z4.1)==(5:Int)) (cond z25 (cond z18 (cond z23 (cond z21 (cond z14 (some (.normal,z2)) none) none) none) none) (cond z22 (cond z15 (some (.normal,z3)) none) none)) (cond ((z4.1)==(6:Int)) (some (.normal,(⟨((.ptr 0 0 1 0)::.junk::.junk::.junk::(.ptr 1 0 1 0)::(.ptr 2 0 1 0)::z8::E6m),[(.box [(.t false T4 (z4.2.1)),(ti (z4.2.2.1)),(ti (z4.2.2.2))]),(.box [(ti q0),(.raw (.slice none 0 0)),(ti q2),(.raw (.slice none 0 0)),(.raw (.slice none 0 0))]),(.box [(ti r0),(.all 3 3),(ti (h3.length:Int)),(.all 4 2),(.all 5 3)]),(.rows 48 true tq4 h3),(.rows 50 true D0 h4),(.rows 48 true tq4 h5)],1,[]⟩:St))) (cond (A5 (3:Int) (z4.2.1) (z4.2.2.1) (z4.2.2.2)) (cond (A5o (z16.1) r0 r2 h3 h4 h5) (some (.normal,(⟨((.ptr 0 0 1 0)::.junk::.junk::.junk::(.ptr 1 0 1 0)::(.ptr 2 0 1 0)::z8::E6m),[(.box [(.t false T4 (z16.2.1)),(ti (z16.2.2.1)),(ti (z16.2.2.2))]),(.box [(ti q0),(.raw (.slice none 0 0)),(ti q2),(.raw (.slice none 0 0)),(.raw (.slice none 0 0))]),(.box [(ti (z7.1)),(.all 3 3),(ti (z7.2.1)),(.all 4 2),(.all 5 3)]),(.rows 48 true tq4 (z7.2.2.1)),(.rows 50 true D0 (z7.2.2.2.1)),(.rows 48 true tq4 (z7.2.2.2.2))],1,[]⟩:St))) none) none)))))))) none) none) (some ((.exit 0),(⟨(.junk::.junk::.junk::.junk::(.ptr 1 0 1 0)::(.ptr 2 0 1 0)::F4R),[(.box [(.t false T4 p0),(ti p1),(ti p2)]),(.box [(ti q0),(.raw (.slice none 0 0)),(ti q2),(.raw (.slice none 0 0)),(.raw (.slice none 0 0))]),(.box [(ti r0),(.all 3 3),(ti r2),(.all 4 2),(.all 5 3)]),(.rows 48 true tq4 h3),(.rows 50 true D0 h4),(.rows 48 true tq4 h5)],1,[]⟩:St))))
theorem D6r:RdA G37 aLn 0 C2H A2u 1 [] (kepts [] [(0,[4,5])]) (B3m C78):=by
 intro d
 kernel_rfl
theorem D51:∀ d:A2u.den,(B3m C78) d=(B9H d).opt 1 []:=by
 intro d
 kernel_rfl
noncomputable abbrev C5u:St→Option Tree:=A2u.say 1 [] [] (B3m E1V)
theorem D8Z:aPL C5u C2H:=SS.wp2 hlz [] B9H D6r D51 _ (fun d=>Runs.ofI2 (step:=B9H) (C8m d.2.2.1.1 d.2.2.1.2.2.1) (D8V d.2.2.1.1 d.2.2.1.2.2.1) rfl (d.1.2.2.2.2.2.2.1,d.2.1.1,d.2.1.2.1,d.2.1.2.2.1,d.2.2.2.1.1,d.2.2.2.1.2.2.1,d.2.2.2.2.1,d.2.2.2.2.2.1,d.2.2.2.2.2.2.1))
noncomputable def D4o (x1:Int) (p0:List Int) (p1 p2:Int):=let z1:=A3 (4:Int) p0 p1 p2;A3 x1 (z1.2.1) (z1.2.2.1) (z1.2.2.2)
noncomputable def A75 (x1:Int) (p0:List Int) (p1 p2:Int):=let z1:=C4j ((A3 (4:Int) p0 p1 p2).1);let z2:=D4o x1 p0 p1 p2;B8M (z2.1) (z2.2.1) (z2.2.2.1) (z2.2.2.2) (0:Int) (0:Int) (z1.1) (z1.2.1) (z1.2.2.1) (z1.2.2.2.1) (z1.2.2.2.2)
noncomputable def B5L (x1:Int) (p0:List Int) (p1 p2:Int):Int×Int×(List Int)×Int×Int×Int×Int×Lq1×LBBe×Lq1:=let z1:=A75 x1 p0 p1 p2;((z1.2.2.2.2.1),(z1.2.2.2.2.2.1),(z1.2.1),(z1.2.2.1),(z1.2.2.2.1),(z1.2.2.2.2.1),(z1.2.2.2.2.2.1),(z1.2.2.2.2.2.2.1),(z1.2.2.2.2.2.2.2.1),(z1.2.2.2.2.2.2.2.2))
noncomputable abbrev D7C (r:Int×Int×(List Int)×Int×Int×Int×Int×Lq1×LBBe×Lq1):AV×List AObj×List Nat:=((.agg [(ti r.1),(.all 2 3),(ti r.2.1),(.all 3 2),(.all 4 3)]),[(.box [(.t false T4 r.2.2.1),(ti r.2.2.2.1),(ti r.2.2.2.2.1)]),(.box [(ti r.2.2.2.2.2.1),(.all 2 3),(ti r.2.2.2.2.2.2.1),(.all 3 2),(.all 4 3)]),(.rows 48 true tq4 r.2.2.2.2.2.2.2.1),(.rows 50 true D0 r.2.2.2.2.2.2.2.2.1),(.rows 48 true tq4 r.2.2.2.2.2.2.2.2.2)],[])
noncomputable abbrev D7s:C0r.den→AV×List AObj×List Nat:=fun d=>D7C (B5L d.1.2.1 d.2.1.1 d.2.1.2.1 d.2.1.2.2.1)
noncomputable def A94 (x1:Int) (p0:List Int) (p1 p2:Int):Bool:=let z1:=A3 (4:Int) p0 p1 p2;(A5 (4:Int) p0 p1 p2)&&((A5 x1 (z1.2.1) (z1.2.2.1) (z1.2.2.2))&&((A75 x1 p0 p1 p2).1==0))
noncomputable abbrev D1u:C0r.den→Bool:=fun d=>A94 d.1.2.1 d.2.1.1 d.2.1.2.1 d.2.1.2.2.1
noncomputable abbrev E5L:Nat→St→Option Tree:=fun b=>match b with | 0=>C5u | _=>fun _=>none
theorem E1X:B0e G37 (E5L) Tryz.f41 C0r D1u D7s:=by
 rintro ⟨⟨_,x1,_⟩,⟨⟨p0,p1,p2,_⟩,_⟩⟩ hp
 change A94 x1 p0 p1 p2=true at hp
 unfold A94 at hp
 refine Eq.trans (b:=(let z1:=A75 x1 p0 p1 p2;let z2:=A3 (4:Int) p0 p1 p2;cond (A5 (4:Int) p0 p1 p2) (cond (A5 x1 (z2.2.1) (z2.2.2.1) (z2.2.2.2)) (cond (z1.1==0) (some (D7C ((z1.2.2.2.2.1),(z1.2.2.2.2.2.1),(z1.2.1),(z1.2.2.1),(z1.2.2.2.1),(z1.2.2.2.2.1),(z1.2.2.2.2.2.1),(z1.2.2.2.2.2.2.1),(z1.2.2.2.2.2.2.2.1),(z1.2.2.2.2.2.2.2.2)))) none) none) none)) (by kernel_rfl) ?_
 exact (B2 hp fun hp=>(B2 hp fun hp=>(B7 hp fun _h=>rfl)))
noncomputable abbrev D7m:=win B0 (msum C0r D1u D7s)
theorem E7i:aPM 41 D7m:=(mcM G37 (hl1 (i:=0) (by kernel_rfl) D8Z) E1X).win B0
noncomputable def S38:Tab:=Tab.add S37 41 (D7m)
noncomputable def F2n:FuncId→Bool:=F2i
theorem G38:aPG S38 F2n:=G37.addM E7i (C1 _) (cbl Tryz.f41) (by kernel_rfl)

abbrev C4x:SS:=⟨[.ptr 0 0 1 0],[.box [.t false T4,tI,tI]]⟩
noncomputable def A4v (p0:List Int) (p1 p2:Int):=let z1:=H7 p0 p1 p2 [(1:Int),(1:Int),(2:Int),(3:Int)];A3 (4:Int) (z1.2.1) (z1.2.2.1) (z1.2.2.2.1)
noncomputable def C4n (p0:List Int) (p1 p2:Int):=let z1:=A4v p0 p1 p2;F0 (z1.2.1) (z1.2.2.1) (z1.2.2.2)
noncomputable def A9L (p0:List Int) (p1 p2:Int):Int×Int×Lq2×(List Int)×Int×Int:=let z1:=(H7 p0 p1 p2 [(1:Int),(1:Int),(2:Int),(3:Int)]).1;let z2:=A4v p0 p1 p2;let z3:=C4n p0 p1 p2;(cond (z1==(1:Int)) (z1,wI ((1:Int)+(z2.1)),(z3.2.2.2),(z3.1),(z3.2.1),(z3.2.2.1)) (z1,wI ((1:Int)+(z2.1)),[],(z2.2.1),(z2.2.2.1),(z2.2.2.2)))
noncomputable abbrev C7O (r:Int×Int×Lq2×(List Int)×Int×Int):AV×List AObj×List Nat:=((.agg [(ti r.1),(ti r.2.1),(.t true tq5 r.2.2.1)]),[(.box [(.t false T4 r.2.2.2.1),(ti r.2.2.2.2.1),(ti r.2.2.2.2.2)])],[])
noncomputable abbrev E04:C4x.den→AV×List AObj×List Nat:=fun d=>C7O (A9L d.2.1.1 d.2.1.2.1 d.2.1.2.2.1)
noncomputable def B4U (p0:List Int) (p1 p2:Int):Bool:=let z1:=H7 p0 p1 p2 [(1:Int),(1:Int),(2:Int),(3:Int)];let z2:=A4v p0 p1 p2;(M2 p0 p1 p2 [(1:Int),(1:Int),(2:Int),(3:Int)])&&((A5 (4:Int) (z1.2.1) (z1.2.2.1) (z1.2.2.2.1))&&(cond ((z1.1)==(1:Int)) (Z9 (z2.2.1) (z2.2.2.1) (z2.2.2.2)) true))
noncomputable abbrev D5F:C4x.den→Bool:=fun d=>B4U d.2.1.1 d.2.1.2.1 d.2.1.2.2.1
theorem E4L:C9J [] G38 aLn Tryz.f74 C4x D5F E04:=by
 rintro ⟨⟨_,_⟩,⟨⟨p0,p1,p2,_⟩,_⟩⟩ hp
 change B4U p0 p1 p2=true at hp
 unfold B4U at hp
 refine Eq.trans (b:=(let z1:=H7 p0 p1 p2 [(1:Int),(1:Int),(2:Int),(3:Int)];let z2:=A4v p0 p1 p2;let z3:=C4n p0 p1 p2;cond (M2 p0 p1 p2 [(1:Int),(1:Int),(2:Int),(3:Int)]) (cond (A5 (4:Int) (z1.2.1) (z1.2.2.1) (z1.2.2.2.1)) (cond ((z1.1)==(1:Int)) (cond (Z9 (z2.2.1) (z2.2.2.1) (z2.2.2.2)) (some (C7O ((z1.1),wI ((1:Int)+(z2.1)),(z3.2.2.2),(z3.1),(z3.2.1),(z3.2.2.1)))) none) (some (C7O ((z1.1),wI ((1:Int)+(z2.1)),[],(z2.2.1),(z2.2.2.1),(z2.2.2.2))))) none) none)) (by kernel_rfl) ?_
 exact (B2 hp fun hp=>(B2 hp fun hp=>(A9 C7O hp (fun hp=>(B7 hp fun _h=>rfl)) (fun hp=>rfl))))
noncomputable abbrev E02:=win B0 (msum C4x D5F E04)
theorem E8x:aPM 74 E02:=(E8w []  G38 hlz E4L).win B0
noncomputable def S39:Tab:=Tab.add S38 74 (E02)
noncomputable def F39:FuncId→Bool:=F2n
theorem G39:aPG S39 F39:=G38.addM E8x (C1 _) (cbl Tryz.f74) (by kernel_rfl)

abbrev B3k:SS:=⟨[.ptr 0 0 1 0],[.box [.t false T4,tI,tI]]⟩
noncomputable def B89 (p0:List Int) (p1 p2:Int):=let z1:=A2o (6:Int) p0 p1 p2;B6T (z1.2.1) (z1.2.2.1) (z1.2.2.2) ([bE,(⟨#[65]⟩:ByteArray),(⟨#[97,32,98]⟩:ByteArray),(⟨#[116,104,105,114,116,101,101,110,98,121,116,101,115]⟩:ByteArray),(⟨#[116,119,101,108,118,101,98,121,116,101,115,49]⟩:ByteArray)])
noncomputable def B9c (p0:List Int) (p1 p2:Int):=let z1:=A2o (6:Int) p0 p1 p2;B9h (z1.2.1) (z1.2.2.1) (z1.2.2.2)
noncomputable def B3E (p0:List Int) (p1 p2:Int):ByteArray×(List Int)×Int×Int:=let z1:=B89 p0 p1 p2;let z2:=B9c p0 p1 p2;(cond ((A2o (6:Int) p0 p1 p2).1) ((z1.1),(z1.2.1),(z1.2.2.1),(z1.2.2.2.1)) ((z2.1),(z2.2.1),(z2.2.2.1),(z2.2.2.2)))
noncomputable abbrev B51 (r:ByteArray×(List Int)×Int×Int):AV×List AObj×List Nat:=((.t true .str r.1),[(.box [(.t false T4 r.2.1),(ti r.2.2.1),(ti r.2.2.2)])],[])
noncomputable abbrev D1g:B3k.den→AV×List AObj×List Nat:=fun d=>B51 (B3E d.2.1.1 d.2.1.2.1 d.2.1.2.2.1)
noncomputable def A5c (p0:List Int) (p1 p2:Int):Bool:=let z1:=A2o (6:Int) p0 p1 p2;(O7 (6:Int) p0 p1 p2)&&(cond (z1.1) (A5B (z1.2.1) (z1.2.2.1) (z1.2.2.2) ([bE,(⟨#[65]⟩:ByteArray),(⟨#[97,32,98]⟩:ByteArray),(⟨#[116,104,105,114,116,101,101,110,98,121,116,101,115]⟩:ByteArray),(⟨#[116,119,101,108,118,101,98,121,116,101,115,49]⟩:ByteArray)])) (A88 (z1.2.1) (z1.2.2.1) (z1.2.2.2)))
noncomputable abbrev C5i:B3k.den→Bool:=fun d=>A5c d.2.1.1 d.2.1.2.1 d.2.1.2.2.1
theorem D6q:B0e G39 aLn Tryz.f106 B3k C5i D1g:=by
 rintro ⟨⟨_,_⟩,⟨⟨p0,p1,p2,_⟩,_⟩⟩ hp
 change A5c p0 p1 p2=true at hp
 unfold A5c at hp
 refine Eq.trans (b:=(let z1:=A2o (6:Int) p0 p1 p2;let z2:=B89 p0 p1 p2;let z3:=B9c p0 p1 p2;cond (O7 (6:Int) p0 p1 p2) (cond (z1.1) (cond (A5B (z1.2.1) (z1.2.2.1) (z1.2.2.2) ([(⟨#[]⟩:ByteArray),(⟨#[65]⟩:ByteArray),(⟨#[97,32,98]⟩:ByteArray),(⟨#[116,104,105,114,116,101,101,110,98,121,116,101,115]⟩:ByteArray),(⟨#[116,119,101,108,118,101,98,121,116,101,115,49]⟩:ByteArray)])) (some (B51 ((z2.1),(z2.2.1),(z2.2.2.1),(z2.2.2.2.1)))) none) (cond (A88 (z1.2.1) (z1.2.2.1) (z1.2.2.2)) (some (B51 ((z3.1),(z3.2.1),(z3.2.2.1),(z3.2.2.2)))) none)) none)) (by kernel_rfl) ?_
 exact (B2 hp fun hp=>(A9 B51 hp (fun hp=>(B7 hp fun _h=>rfl)) (fun hp=>(B7 hp fun _h=>rfl))))
noncomputable abbrev D1D:=win B0 (msum B3k C5i D1g)
theorem E2l:aPM 106 D1D:=(mcM G39 hlz D6q).win B0
noncomputable def S40:Tab:=Tab.add S39 106 (D1D)
noncomputable def F2H:FuncId→Bool:=F39
theorem G40:aPG S40 F2H:=G39.addM E2l (C1 _) (cbl Tryz.f106) (by kernel_rfl)

abbrev C4H:SS:=⟨[.ptr 0 0 1 0],[.box [.t false T4,tI,tI]]⟩
noncomputable def C9 (p0:List Int) (p1 p2:Int):=let z1:=F0 p0 p1 p2;A3 (10:Int) (z1.1) (z1.2.1) (z1.2.2.1)
noncomputable def V6 (p0:List Int) (p1 p2:Int):=let z1:=C9 p0 p1 p2;A6A (z1.2.1) (z1.2.2.1) (z1.2.2.2)
noncomputable def A6e (p0:List Int) (p1 p2:Int):=let z1:=C9 p0 p1 p2;A3 (5:Int) (z1.2.1) (z1.2.2.1) (z1.2.2.2)
noncomputable def A59 (p0:List Int) (p1 p2:Int):=let z1:=C9 p0 p1 p2;B3E (z1.2.1) (z1.2.2.1) (z1.2.2.2)
noncomputable def Z6 (p0:List Int) (p1 p2:Int):=let z1:=C9 p0 p1 p2;A3 (2:Int) (z1.2.1) (z1.2.2.1) (z1.2.2.2)
noncomputable def C6d (p0:List Int) (p1 p2:Int):Lq2×(List Int)×Int×Int:=(cond (((C9 p0 p1 p2).1)==(0:Int)) (((F0 p0 p1 p2).2.2.2)++[(((V6 p0 p1 p2).1),(((V6 p0 p1 p2).2.1),((V6 p0 p1 p2).2.2.1)))],((V6 p0 p1 p2).2.2.2.1),((V6 p0 p1 p2).2.2.2.2.1),((V6 p0 p1 p2).2.2.2.2.2.1)) (cond (((C9 p0 p1 p2).1)==(1:Int)) (((F0 p0 p1 p2).2.2.2).set ((0:Int).toNat) (((A6e p0 p1 p2).1),(((((F0 p0 p1 p2).2.2.2).getD ((0:Int).toNat) ((0:Int),(bE,bE))).2).1,((((F0 p0 p1 p2).2.2.2).getD ((0:Int).toNat) ((0:Int),(bE,bE))).2).2)),((A6e p0 p1 p2).2.1),((A6e p0 p1 p2).2.2.1),((A6e p0 p1 p2).2.2.2)) (cond (((C9 p0 p1 p2).1)==(2:Int)) (((F0 p0 p1 p2).2.2.2).set ((0:Int).toNat) ((((F0 p0 p1 p2).2.2.2).getD ((0:Int).toNat) ((0:Int),(bE,bE))).1,(((A59 p0 p1 p2).1),((((F0 p0 p1 p2).2.2.2).getD ((0:Int).toNat) ((0:Int),(bE,bE))).2).2)),((A59 p0 p1 p2).2.1),((A59 p0 p1 p2).2.2.1),((A59 p0 p1 p2).2.2.2)) (cond (((C9 p0 p1 p2).1)==(3:Int)) (((F0 p0 p1 p2).2.2.2).set ((0:Int).toNat) ((((F0 p0 p1 p2).2.2.2).getD ((0:Int).toNat) ((0:Int),(bE,bE))).1,(((((F0 p0 p1 p2).2.2.2).getD ((0:Int).toNat) ((0:Int),(bE,bE))).2).1,(⟨((List.replicate (wI ((20:Int)+((Z6 p0 p1 p2).1))).toNat (0:Int)).map fun n=>UInt8.ofNat n.toNat).toArray⟩:ByteArray))),((Z6 p0 p1 p2).2.1),((Z6 p0 p1 p2).2.2.1),((Z6 p0 p1 p2).2.2.2)) (cond (((C9 p0 p1 p2).1)==(4:Int)) (((F0 p0 p1 p2).2.2.2).take ((0:Int).toNat),((C9 p0 p1 p2).2.1),((C9 p0 p1 p2).2.2.1),((C9 p0 p1 p2).2.2.2)) (((F0 p0 p1 p2).2.2.2),((C9 p0 p1 p2).2.1),((C9 p0 p1 p2).2.2.1),((C9 p0 p1 p2).2.2.2)))))))
noncomputable abbrev A36 (r:Lq2×(List Int)×Int×Int):AV×List AObj×List Nat:=((.t true tq5 r.1),[(.box [(.t false T4 r.2.1),(ti r.2.2.1),(ti r.2.2.2)])],[])
noncomputable abbrev E1E:C4H.den→AV×List AObj×List Nat:=fun d=>A36 (C6d d.2.1.1 d.2.1.2.1 d.2.1.2.2.1)
noncomputable def B4w (p0:List Int) (p1 p2:Int):Bool:=let z1:=C9 p0 p1 p2;let z2:=wI ((20:Int)+((Z6 p0 p1 p2).1));let z4:=F0 p0 p1 p2;let z3:=decide (0≤(0:Int)∧(0:Int)<(((z4.2.2.2).length:Nat):Int));let z5:=V6 p0 p1 p2;(Z9 p0 p1 p2)&&((A5 (10:Int) (z4.1) (z4.2.1) (z4.2.2.1))&&(cond ((z1.1)==(0:Int)) ((A9M (z1.2.1) (z1.2.2.1) (z1.2.2.2))&&(decide (((z4.2.2.2).length+[((z5.1),((z5.2.1),(z5.2.2.1)))].length)*40≤MAXB))) (cond ((z1.1)==(1:Int)) ((A5 (5:Int) (z1.2.1) (z1.2.2.1) (z1.2.2.2))&&z3) (cond ((z1.1)==(2:Int)) ((A5c (z1.2.1) (z1.2.2.1) (z1.2.2.2))&&z3) (cond ((z1.1)==(3:Int)) ((A5 (2:Int) (z1.2.1) (z1.2.2.1) (z1.2.2.2))&&((decide (0≤z2∧z2=z2∧z2.toNat*1≤MAXB∧z2≤9223372036854775807))&&z3)) (cond ((z1.1)==(4:Int)) (decide (0≤(0:Int)∧(0:Int)≤(0:Int)∧(0:Int)≤(((z4.2.2.2).length:Nat):Int))) true))))))
noncomputable abbrev D4V:C4H.den→Bool:=fun d=>B4w d.2.1.1 d.2.1.2.1 d.2.1.2.2.1
theorem E4f:C9J [] G40 aLn Tryz.f75 C4H D4V E1E:=by
 rintro ⟨⟨_,_⟩,⟨⟨p0,p1,p2,_⟩,_⟩⟩ hp
 change B4w p0 p1 p2=true at hp
 unfold B4w at hp
 refine Eq.trans (b:=(cond (Z9 p0 p1 p2) (cond (A5 (10:Int) ((F0 p0 p1 p2).1) ((F0 p0 p1 p2).2.1) ((F0 p0 p1 p2).2.2.1)) (cond (((C9 p0 p1 p2).1)==(0:Int)) (cond (A9M ((C9 p0 p1 p2).2.1) ((C9 p0 p1 p2).2.2.1) ((C9 p0 p1 p2).2.2.2)) (cond (decide ((((F0 p0 p1 p2).2.2.2).length+[(((V6 p0 p1 p2).1),(((V6 p0 p1 p2).2.1),((V6 p0 p1 p2).2.2.1)))].length)*40≤MAXB)) (some (A36 (((F0 p0 p1 p2).2.2.2)++[(((V6 p0 p1 p2).1),(((V6 p0 p1 p2).2.1),((V6 p0 p1 p2).2.2.1)))],((V6 p0 p1 p2).2.2.2.1),((V6 p0 p1 p2).2.2.2.2.1),((V6 p0 p1 p2).2.2.2.2.2.1)))) none) none) (cond (((C9 p0 p1 p2).1)==(1:Int)) (cond (A5 (5:Int) ((C9 p0 p1 p2).2.1) ((C9 p0 p1 p2).2.2.1) ((C9 p0 p1 p2).2.2.2)) (cond (decide (0≤(0:Int)∧(0:Int)<((((F0 p0 p1 p2).2.2.2).length:Nat):Int))) (some (A36 (((F0 p0 p1 p2).2.2.2).set ((0:Int).toNat) (((A6e p0 p1 p2).1),(((((F0 p0 p1 p2).2.2.2).getD ((0:Int).toNat) ((0:Int),((⟨#[]⟩:ByteArray),(⟨#[]⟩:ByteArray)))).2).1,((((F0 p0 p1 p2).2.2.2).getD ((0:Int).toNat) ((0:Int),((⟨#[]⟩:ByteArray),(⟨#[]⟩:ByteArray)))).2).2)),((A6e p0 p1 p2).2.1),((A6e p0 p1 p2).2.2.1),((A6e p0 p1 p2).2.2.2)))) none) none) (cond (((C9 p0 p1 p2).1)==(2:Int)) (cond (A5c ((C9 p0 p1 p2).2.1) ((C9 p0 p1 p2).2.2.1) ((C9 p0 p1 p2).2.2.2)) (cond (decide (0≤(0:Int)∧(0:Int)<((((F0 p0 p1 p2).2.2.2).length:Nat):Int))) (some (A36 (((F0 p0 p1 p2).2.2.2).set ((0:Int).toNat) ((((F0 p0 p1 p2).2.2.2).getD ((0:Int).toNat) ((0:Int),((⟨#[]⟩:ByteArray),(⟨#[]⟩:ByteArray)))).1,(((A59 p0 p1 p2).1),((((F0 p0 p1 p2).2.2.2).getD ((0:Int).toNat) ((0:Int),((⟨#[]⟩:ByteArray),(⟨#[]⟩:ByteArray)))).2).2)),((A59 p0 p1 p2).2.1),((A59 p0 p1 p2).2.2.1),((A59 p0 p1 p2).2.2.2)))) none) none) (cond (((C9 p0 p1 p2).1)==(3:Int)) (cond (A5 (2:Int) ((C9 p0 p1 p2).2.1) ((C9 p0 p1 p2).2.2.1) ((C9 p0 p1 p2).2.2.2)) (cond (decide (0≤(wI ((20:Int)+((Z6 p0 p1 p2).1)))∧(wI ((20:Int)+((Z6 p0 p1 p2).1)))=(wI ((20:Int)+((Z6 p0 p1 p2).1)))∧(wI ((20:Int)+((Z6 p0 p1 p2).1))).toNat*1≤MAXB∧(wI ((20:Int)+((Z6 p0 p1 p2).1)))≤9223372036854775807)) (cond (decide (0≤(0:Int)∧(0:Int)<((((F0 p0 p1 p2).2.2.2).length:Nat):Int))) (some (A36 (((F0 p0 p1 p2).2.2.2).set ((0:Int).toNat) ((((F0 p0 p1 p2).2.2.2).getD ((0:Int).toNat) ((0:Int),((⟨#[]⟩:ByteArray),(⟨#[]⟩:ByteArray)))).1,(((((F0 p0 p1 p2).2.2.2).getD ((0:Int).toNat) ((0:Int),((⟨#[]⟩:ByteArray),(⟨#[]⟩:ByteArray)))).2).1,(⟨((List.replicate (wI ((20:Int)+((Z6 p0 p1 p2).1))).toNat (0:Int)).map fun n=>UInt8.ofNat n.toNat).toArray⟩:ByteArray))),((Z6 p0 p1 p2).2.1),((Z6 p0 p1 p2).2.2.1),((Z6 p0 p1 p2).2.2.2)))) none) none) none) (cond (((C9 p0 p1 p2).1)==(4:Int)) (cond (decide (0≤(0:Int)∧(0:Int)≤(0:Int)∧(0:Int)≤((((F0 p0 p1 p2).2.2.2).length:Nat):Int))) (some (A36 (((F0 p0 p1 p2).2.2.2).take ((0:Int).toNat),((C9 p0 p1 p2).2.1),((C9 p0 p1 p2).2.2.1),((C9 p0 p1 p2).2.2.2)))) none) (some (A36 (((F0 p0 p1 p2).2.2.2),((C9 p0 p1 p2).2.1),((C9 p0 p1 p2).2.2.1),((C9 p0 p1 p2).2.2.2))))))))) none) none)) (by kernel_rfl) ?_
 exact (B2 hp fun hp=>(B2 hp fun hp=>(A9 A36 hp (fun hp=>(B2 hp fun hp=>(B7 hp fun _h=>rfl))) (fun hp=>(A9 A36 hp (fun hp=>(B2 hp fun hp=>(B7 hp fun _h=>rfl))) (fun hp=>(A9 A36 hp (fun hp=>(B2 hp fun hp=>(B7 hp fun _h=>rfl))) (fun hp=>(A9 A36 hp (fun hp=>(B2 hp fun hp=>(B2 hp fun hp=>(B7 hp fun _h=>rfl)))) (fun hp=>(A9 A36 hp (fun hp=>(B7 hp fun _h=>rfl)) (fun hp=>rfl))))))))))))
noncomputable abbrev E3m:=win B0 (msum C4H D4V E1E)
theorem E7j:aPM 75 E3m:=(E8w []  G40 hlz E4f).win B0
noncomputable def S41:Tab:=Tab.add S40 75 (E3m)
noncomputable def F3X:FuncId→Bool:=F2H
theorem G41:aPG S41 F3X:=G40.addM E7j (C1 _) (cbl Tryz.f75) (by kernel_rfl)

abbrev C4L:SS:=⟨[.ptr 0 0 1 0],[.box [.t false T4,tI,tI]]⟩
noncomputable def P4 (p0:List Int) (p1 p2:Int):=let z1:=A9L p0 p1 p2;A3 (8:Int) (z1.2.2.2.1) (z1.2.2.2.2.1) (z1.2.2.2.2.2)
noncomputable def C4h (p0:List Int) (p1 p2:Int):=let z1:=P4 p0 p1 p2;A3 (5:Int) (z1.2.1) (z1.2.2.1) (z1.2.2.2)
noncomputable def B72 (p0:List Int) (p1 p2:Int):=let z1:=P4 p0 p1 p2;H7 (z1.2.1) (z1.2.2.1) (z1.2.2.2) [(0:Int),(1000000:Int),(1000001:Int)]
noncomputable def C4i (p0:List Int) (p1 p2:Int):=let z1:=P4 p0 p1 p2;C6d (z1.2.1) (z1.2.2.1) (z1.2.2.2)
noncomputable def C3Y (p0:List Int) (p1 p2:Int):Int×Int×Lq2×(List Int)×Int×Int×Int×Int×Lq2:=let z1:=A9L p0 p1 p2;let z2:=P4 p0 p1 p2;let z3:=C4h p0 p1 p2;let z4:=B72 p0 p1 p2;let z5:=C4i p0 p1 p2;(cond ((z2.1)==(0:Int)) ((z3.1),(z1.2.1),(z1.2.2.1),(z3.2.1),(z3.2.2.1),(z3.2.2.2),(z3.1),(z1.2.1),(z1.2.2.1)) (cond ((z2.1)==(1:Int)) ((z1.1),(z4.1),(z1.2.2.1),(z4.2.1),(z4.2.2.1),(z4.2.2.2.1),(z1.1),(z4.1),(z1.2.2.1)) (cond ((z2.1)==(2:Int)) ((z1.1),(z1.2.1),(z5.1),(z5.2.1),(z5.2.2.1),(z5.2.2.2),(z1.1),(z1.2.1),(z5.1)) ((z1.1),(z1.2.1),(z1.2.2.1),(z2.2.1),(z2.2.2.1),(z2.2.2.2),(z1.1),(z1.2.1),(z1.2.2.1)))))
noncomputable abbrev B15 (r:Int×Int×Lq2×(List Int)×Int×Int×Int×Int×Lq2):AV×List AObj×List Nat:=((.agg [(ti r.1),(ti r.2.1),(.t true tq5 r.2.2.1)]),[(.box [(.t false T4 r.2.2.2.1),(ti r.2.2.2.2.1),(ti r.2.2.2.2.2.1)]),(.box [(ti r.2.2.2.2.2.2.1),(ti r.2.2.2.2.2.2.2.1),(.t true tq5 r.2.2.2.2.2.2.2.2)])],[])
noncomputable abbrev E2u:C4L.den→AV×List AObj×List Nat:=fun d=>B15 (C3Y d.2.1.1 d.2.1.2.1 d.2.1.2.2.1)
noncomputable def B5f (p0:List Int) (p1 p2:Int):Bool:=let z1:=P4 p0 p1 p2;let z2:=A9L p0 p1 p2;(B4U p0 p1 p2)&&((A5 (8:Int) (z2.2.2.2.1) (z2.2.2.2.2.1) (z2.2.2.2.2.2))&&(cond ((z1.1)==(0:Int)) (A5 (5:Int) (z1.2.1) (z1.2.2.1) (z1.2.2.2)) (cond ((z1.1)==(1:Int)) (M2 (z1.2.1) (z1.2.2.1) (z1.2.2.2) [(0:Int),(1000000:Int),(1000001:Int)]) (cond ((z1.1)==(2:Int)) (B4w (z1.2.1) (z1.2.2.1) (z1.2.2.2)) true))))
noncomputable abbrev D3Y:C4L.den→Bool:=fun d=>B5f d.2.1.1 d.2.1.2.1 d.2.1.2.2.1
theorem E4k:B0e G41 aLn Tryz.f44 C4L D3Y E2u:=by
 rintro ⟨⟨_,_⟩,⟨⟨p0,p1,p2,_⟩,_⟩⟩ hp
 change B5f p0 p1 p2=true at hp
 unfold B5f at hp
 refine Eq.trans (b:=(let z1:=A9L p0 p1 p2;let z2:=P4 p0 p1 p2;let z3:=C4h p0 p1 p2;let z4:=B72 p0 p1 p2;let z5:=C4i p0 p1 p2;cond (B4U p0 p1 p2) (cond (A5 (8:Int) (z1.2.2.2.1) (z1.2.2.2.2.1) (z1.2.2.2.2.2)) (cond ((z2.1)==(0:Int)) (cond (A5 (5:Int) (z2.2.1) (z2.2.2.1) (z2.2.2.2)) (some (B15 ((z3.1),(z1.2.1),(z1.2.2.1),(z3.2.1),(z3.2.2.1),(z3.2.2.2),(z3.1),(z1.2.1),(z1.2.2.1)))) none) (cond ((z2.1)==(1:Int)) (cond (M2 (z2.2.1) (z2.2.2.1) (z2.2.2.2) [(0:Int),(1000000:Int),(1000001:Int)]) (some (B15 ((z1.1),(z4.1),(z1.2.2.1),(z4.2.1),(z4.2.2.1),(z4.2.2.2.1),(z1.1),(z4.1),(z1.2.2.1)))) none) (cond ((z2.1)==(2:Int)) (cond (B4w (z2.2.1) (z2.2.2.1) (z2.2.2.2)) (some (B15 ((z1.1),(z1.2.1),(z5.1),(z5.2.1),(z5.2.2.1),(z5.2.2.2),(z1.1),(z1.2.1),(z5.1)))) none) (some (B15 ((z1.1),(z1.2.1),(z1.2.2.1),(z2.2.1),(z2.2.2.1),(z2.2.2.2),(z1.1),(z1.2.1),(z1.2.2.1))))))) none) none)) (by kernel_rfl) ?_
 exact (B2 hp fun hp=>(B2 hp fun hp=>(A9 B15 hp (fun hp=>(B7 hp fun _h=>rfl)) (fun hp=>(A9 B15 hp (fun hp=>(B7 hp fun _h=>rfl)) (fun hp=>(A9 B15 hp (fun hp=>(B7 hp fun _h=>rfl)) (fun hp=>rfl))))))))
noncomputable abbrev E0S:=win B0 (msum C4L D3Y E2u)
theorem E7Y:aPM 44 E0S:=(mcM G41 hlz E4k).win B0
noncomputable def S42:Tab:=Tab.add S41 44 (E0S)
noncomputable def F2S:FuncId→Bool:=F3X
theorem G42:aPG S42 F2S:=G41.addM E7Y (C1 _) (cbl Tryz.f44) (by kernel_rfl)

abbrev C38:SS:=⟨[.ptr 0 0 1 0,tI],[.box [.t false T4,tI,tI]]⟩
noncomputable def O8 (x1:Int) (p0:List Int) (p1 p2:Int):=let z1:=B5L x1 p0 p1 p2;A3 (12:Int) (z1.2.2.1) (z1.2.2.2.1) (z1.2.2.2.2.1)
noncomputable def B8o (x1:Int) (p0:List Int) (p1 p2:Int):=let z1:=O8 x1 p0 p1 p2;H7 (z1.2.1) (z1.2.2.1) (z1.2.2.2) [(-1:Int),(7:Int),(8:Int)]
noncomputable def B70 (x1:Int) (p0:List Int) (p1 p2:Int):=let z1:=((((B5L x1 p0 p1 p2).2.2.2.2.2.2.2.1).length:Nat):Int);let z2:=O8 x1 p0 p1 p2;H7 (z2.2.1) (z2.2.2.1) (z2.2.2.2) [(-1:Int),z1,wI (z1+(1:Int))]
noncomputable def A0Y (x1:Int) (p0:List Int) (p1 p2:Int):=let z1:=O8 x1 p0 p1 p2;C3Y (z1.2.1) (z1.2.2.1) (z1.2.2.2)
noncomputable def D24 (x1:Int) (p0:List Int) (p1 p2:Int):Int×Int×(List Int)×Int×Int×Int×Int×Lq1×LBBe×Lq1:=let z1:=B5L x1 p0 p1 p2;let z2:=O8 x1 p0 p1 p2;let z3:=A0Y x1 p0 p1 p2;let z4:=B8o x1 p0 p1 p2;let z5:=B70 x1 p0 p1 p2;(cond ((z2.1)==(0:Int)) ((z4.1),(z1.2.1),(z4.2.1),(z4.2.2.1),(z4.2.2.2.1),(z4.1),(z1.2.1),(z1.2.2.2.2.2.2.2.1),(z1.2.2.2.2.2.2.2.2.1),(z1.2.2.2.2.2.2.2.2.2)) (cond ((z2.1)==(1:Int)) ((z1.1),(z5.1),(z5.2.1),(z5.2.2.1),(z5.2.2.2.1),(z1.1),(z5.1),(z1.2.2.2.2.2.2.2.1),(z1.2.2.2.2.2.2.2.2.1),(z1.2.2.2.2.2.2.2.2.2)) (cond ((z2.1)==(2:Int)) ((z1.1),(z1.2.1),(z2.2.1),(z2.2.2.1),(z2.2.2.2),(z1.1),(z1.2.1),(z1.2.2.2.2.2.2.2.1),(z1.2.2.2.2.2.2.2.2.1)++([((⟨#[122,122,122]⟩:ByteArray),bE)]),(z1.2.2.2.2.2.2.2.2.2)) (cond ((z2.1)==(3:Int)) ((z1.1),(z1.2.1),(z3.2.2.2.1),(z3.2.2.2.2.1),(z3.2.2.2.2.2.1),(z1.1),(z1.2.1),(z1.2.2.2.2.2.2.2.1)++[((z3.1),((z3.2.1),(z3.2.2.1)))],(z1.2.2.2.2.2.2.2.2.1),(z1.2.2.2.2.2.2.2.2.2)) ((z1.1),(z1.2.1),(z2.2.1),(z2.2.2.1),(z2.2.2.2),(z1.1),(z1.2.1),(z1.2.2.2.2.2.2.2.1),(z1.2.2.2.2.2.2.2.2.1),(z1.2.2.2.2.2.2.2.2.2))))))
noncomputable abbrev A6V (r:Int×Int×(List Int)×Int×Int×Int×Int×Lq1×LBBe×Lq1):AV×List AObj×List Nat:=((.agg [(ti r.1),(.all 2 3),(ti r.2.1),(.all 3 2),(.all 4 3)]),[(.box [(.t false T4 r.2.2.1),(ti r.2.2.2.1),(ti r.2.2.2.2.1)]),(.box [(ti r.2.2.2.2.2.1),(.all 2 3),(ti r.2.2.2.2.2.2.1),(.all 3 2),(.all 4 3)]),(.rows 48 true tq4 r.2.2.2.2.2.2.2.1),(.rows 50 true D0 r.2.2.2.2.2.2.2.2.1),(.rows 48 true tq4 r.2.2.2.2.2.2.2.2.2)],[])
noncomputable abbrev E0Q:C38.den→AV×List AObj×List Nat:=fun d=>A6V (D24 d.1.2.1 d.2.1.1 d.2.1.2.1 d.2.1.2.2.1)
noncomputable def B45 (x1:Int) (p0:List Int) (p1 p2:Int):Bool:=let z1:=O8 x1 p0 p1 p2;let z2:=B5L x1 p0 p1 p2;let z3:=A0Y x1 p0 p1 p2;(A94 x1 p0 p1 p2)&&((A5 (12:Int) (z2.2.2.1) (z2.2.2.2.1) (z2.2.2.2.2.1))&&(cond ((z1.1)==(0:Int)) (M2 (z1.2.1) (z1.2.2.1) (z1.2.2.2) [(-1:Int),(7:Int),(8:Int)]) (cond ((z1.1)==(1:Int)) (M2 (z1.2.1) (z1.2.2.1) (z1.2.2.2) [(-1:Int),(((z2.2.2.2.2.2.2.2.1).length:Nat):Int),wI ((((z2.2.2.2.2.2.2.2.1).length:Nat):Int)+(1:Int))]) (cond ((z1.1)==(2:Int)) (decide (((z2.2.2.2.2.2.2.2.2.1).length+([((⟨#[122,122,122]⟩:ByteArray),bE)]).length)*32≤MAXB)) (cond ((z1.1)==(3:Int)) ((B5f (z1.2.1) (z1.2.2.1) (z1.2.2.2))&&(decide (((z2.2.2.2.2.2.2.2.1).length+[((z3.1),((z3.2.1),(z3.2.2.1)))].length)*40≤MAXB))) true)))))
noncomputable abbrev D3Q:C38.den→Bool:=fun d=>B45 d.1.2.1 d.2.1.1 d.2.1.2.1 d.2.1.2.2.1
theorem E4v:B0e G42 aLn Tryz.f18 C38 D3Q E0Q:=by
 rintro ⟨⟨_,x1,_⟩,⟨⟨p0,p1,p2,_⟩,_⟩⟩ hp
 change B45 x1 p0 p1 p2=true at hp
 unfold B45 at hp
 refine Eq.trans (b:=(let z1:=B5L x1 p0 p1 p2;let z2:=O8 x1 p0 p1 p2;let z3:=A0Y x1 p0 p1 p2;let z4:=B8o x1 p0 p1 p2;let z5:=B70 x1 p0 p1 p2;cond (A94 x1 p0 p1 p2) (cond (A5 (12:Int) (z1.2.2.1) (z1.2.2.2.1) (z1.2.2.2.2.1)) (cond ((z2.1)==(0:Int)) (cond (M2 (z2.2.1) (z2.2.2.1) (z2.2.2.2) [(-1:Int),(7:Int),(8:Int)]) (some (A6V ((z4.1),(z1.2.1),(z4.2.1),(z4.2.2.1),(z4.2.2.2.1),(z4.1),(z1.2.1),(z1.2.2.2.2.2.2.2.1),(z1.2.2.2.2.2.2.2.2.1),(z1.2.2.2.2.2.2.2.2.2)))) none) (cond ((z2.1)==(1:Int)) (cond (M2 (z2.2.1) (z2.2.2.1) (z2.2.2.2) [(-1:Int),(((z1.2.2.2.2.2.2.2.1).length:Nat):Int),wI ((((z1.2.2.2.2.2.2.2.1).length:Nat):Int)+(1:Int))]) (some (A6V ((z1.1),(z5.1),(z5.2.1),(z5.2.2.1),(z5.2.2.2.1),(z1.1),(z5.1),(z1.2.2.2.2.2.2.2.1),(z1.2.2.2.2.2.2.2.2.1),(z1.2.2.2.2.2.2.2.2.2)))) none) (cond ((z2.1)==(2:Int)) (cond (decide (((z1.2.2.2.2.2.2.2.2.1).length+([((⟨#[122,122,122]⟩:ByteArray),(⟨#[]⟩:ByteArray))]).length)*32≤MAXB)) (some (A6V ((z1.1),(z1.2.1),(z2.2.1),(z2.2.2.1),(z2.2.2.2),(z1.1),(z1.2.1),(z1.2.2.2.2.2.2.2.1),(z1.2.2.2.2.2.2.2.2.1)++([((⟨#[122,122,122]⟩:ByteArray),(⟨#[]⟩:ByteArray))]),(z1.2.2.2.2.2.2.2.2.2)))) none) (cond ((z2.1)==(3:Int)) (cond (B5f (z2.2.1) (z2.2.2.1) (z2.2.2.2)) (cond (decide (((z1.2.2.2.2.2.2.2.1).length+[((z3.1),((z3.2.1),(z3.2.2.1)))].length)*40≤MAXB)) (some (A6V ((z1.1),(z1.2.1),(z3.2.2.2.1),(z3.2.2.2.2.1),(z3.2.2.2.2.2.1),(z1.1),(z1.2.1),(z1.2.2.2.2.2.2.2.1)++[((z3.1),((z3.2.1),(z3.2.2.1)))],(z1.2.2.2.2.2.2.2.2.1),(z1.2.2.2.2.2.2.2.2.2)))) none) none) (some (A6V ((z1.1),(z1.2.1),(z2.2.1),(z2.2.2.1),(z2.2.2.2),(z1.1),(z1.2.1),(z1.2.2.2.2.2.2.2.1),(z1.2.2.2.2.2.2.2.2.1),(z1.2.2.2.2.2.2.2.2.2)))))))) none) none)) (by kernel_rfl) ?_
 exact (B2 hp fun hp=>(B2 hp fun hp=>(A9 A6V hp (fun hp=>(B7 hp fun _h=>rfl)) (fun hp=>(A9 A6V hp (fun hp=>(B7 hp fun _h=>rfl)) (fun hp=>(A9 A6V hp (fun hp=>(B7 hp fun _h=>rfl)) (fun hp=>(A9 A6V hp (fun hp=>(B2 hp fun hp=>(B7 hp fun _h=>rfl))) (fun hp=>rfl))))))))))
noncomputable abbrev E1j:=win B0 (msum C38 D3Q E0Q)
theorem E8P:aPM 18 E1j:=(mcM G42 hlz E4v).win B0
noncomputable def S43:Tab:=Tab.add S42 18 (E1j)
noncomputable def F12:FuncId→Bool:=F2S
theorem G43:aPG S43 F12:=G42.addM E8P (C1 _) (cbl Tryz.f18) (by kernel_rfl)

abbrev A31:List PSh:=[.t T4]
noncomputable def W2 (a0:List Int):Int×Lq1×Int×LBBe×Lq1:=let z1:=D24 (A7p a0 (16:Int)) ((A2V a0).1) ((A2V a0).2.1) ((A2V a0).2.2);((z1.1),(z1.2.2.2.2.2.2.2.1),(z1.2.1),(z1.2.2.2.2.2.2.2.2.1),(z1.2.2.2.2.2.2.2.2.2))
noncomputable abbrev C1k (r:Int×Lq1×Int×LBBe×Lq1):AV×List AObj:=((.agg [(ti r.1),(.t true tq3 r.2.1),(ti r.2.2.1),(.t true tq8 r.2.2.2.1),(.t true tq3 r.2.2.2.2)]),[])
noncomputable abbrev B2n:A1 A31→AV×List AObj:=fun d=>C1k (W2 d.1)
noncomputable def A0Z (a0:List Int):Bool:=(A9D a0)&&(B45 (A7p a0 (16:Int)) ((A2V a0).1) ((A2V a0).2.1) ((A2V a0).2.2))
noncomputable abbrev A9t:A1 A31→Bool:=fun d=>A0Z d.1
theorem C8y:N0 true G43 aLn Tryz.f5 A31 A9t B2n:=by
 rintro ⟨a0,_⟩ hp
 change A0Z a0=true at hp
 unfold A0Z at hp
 refine Eq.trans (b:=(let z2:=A2V a0;let z3:=A7p a0 (16:Int);let z1:=D24 z3 (z2.1) (z2.2.1) (z2.2.2);cond (A9D a0) (cond (B45 z3 (z2.1) (z2.2.1) (z2.2.2)) (some (C1k ((z1.1),(z1.2.2.2.2.2.2.2.1),(z1.2.1),(z1.2.2.2.2.2.2.2.2.1),(z1.2.2.2.2.2.2.2.2.2)))) none) none)) (by kernel_rfl) ?_
 exact (B2 hp fun hp=>(B7 hp fun _h=>rfl))
theorem D2w:aPP 5 (A7 A31 A9t B2n):=pcD true G43 hlz C8y
noncomputable def S44:Tab:=Tab.add S43 5 (lift (A7 A31 A9t B2n))
noncomputable def E9U:FuncId→Bool:=qadd F12 5
theorem G44:aPG S44 E9U:=G43.addQ D2w (cbl Tryz.f5) (fun _=>rfl)

abbrev A3S:List PSh:=[.t tq5]
noncomputable def D4 (a0:Lq2):Lq2:=a0
noncomputable abbrev A1M (r:Lq2):AV×List AObj:=(.all 0 3,[.rows 75 true B5e r])
noncomputable abbrev B4s:A1 A3S→AV×List AObj:=fun d=>A1M (D4 d.1)
noncomputable def C4 (a0:Lq2):Bool:=decide ((([]:Lq2).length+a0.length)*40≤MAXB)
noncomputable abbrev B1K:A1 A3S→Bool:=fun d=>C4 d.1
theorem C4O (a0:Lq2) (h0:0<a0.length) (hp:C4 a0=true):D0k false Tryz.prog tt S44 E9U aLn Tryz.f48 [.t (Ty.sl B5e).flat tq5 a0]=some (A1M a0):=by
 refine Eq.trans (b:=cond (decide (0<a0.length)) (cond (C4 a0) (some (A1M a0)) none) none) (by kernel_rfl) ?_
 rw [decide_eq_true h0,hp];rfl
theorem C4T (A:Option Addr) (c:Nat):D0k false Tryz.prog tt S44 E9U aLn Tryz.f48 [.raw (.slice A 0 c)]=some (A1M []):=by
 cases A<;>kernel_rfl
theorem C58:aPP 48 (A7 A3S B1K B4s):=PContract.split (e:=B5e) (pre:=C4) (g:=fun a0=>A1M (D4 a0)) (fun l h0 hp=>PCalls.of_run false G44 (fn:=Tryz.f48) (by kernel_rfl) (L:=fun _ _=>none) (by rw [show A6 0 (B4 Tryz.f48)=[] by kernel_rfl];simp) (C4O l h0 hp) rfl rfl) (fun A c=>PCalls.of_run false G44 (fn:=Tryz.f48) (by kernel_rfl) (L:=fun _ _=>none) (by rw [show A6 0 (B4 Tryz.f48)=[] by kernel_rfl];simp) (C4T A c) rfl rfl)
noncomputable def S45:Tab:=Tab.add S44 48 (lift (A7 A3S B1K B4s))
noncomputable def F1N:FuncId→Bool:=E9U
theorem G45:aPG S45 F1N:=G44.add C58 ⟨Tryz.f48,by kernel_rfl,by kernel_rfl,by kernel_rfl⟩ (by kernel_rfl)

abbrev B1B:List PSh:=[.t tq3]
abbrev A1u:SS:=⟨(.junk::.junk::.junk::.all 0 3::.junk::.junk::.t false tq3::tI::tI::E99),[.rows 48 true tq4]⟩
abbrev C0F:SS:=⟨(.junk::.junk::.junk::.all 0 3::E4j),[.rows 48 true tq4]⟩
noncomputable def C3l (x6:Lq1) (x7 x8:Int) (h0:Lq1):RT A1u.den:=let z1:=x6.getD x8.toNat ((0:Int),((0:Int),[]));let z2:=D4 ((z1.2).2);(.br (decide (x8<x7)) (.br (decide (0≤x8∧x8<(x6.length:Int))) (.br (C4 ((z1.2).2)) (.br (decide ((h0.length+([(z1.1,((z1.2).1,z2))]:Lq1).length)*40≤MAXB)) (.next (((),(),(),(),(),(),x6,x7,wI (x8+(1:Int)),u14),(h0++([(z1.1,((z1.2).1,z2))]),()))) .fail) .fail) .fail) (.done (.exit 0) C0F ((u23),(h0,()))))
abbrev A62:=(Lq1)×(Int)×(Int)×(Lq1)
abbrev A6Z:=Nat×(Lq1)
def A5f:A6Z:=(99,([]:Lq1))
noncomputable def A50 (x6:Lq1) (x7 x8:Int) (h0:Lq1):A62 ⊕ A6Z:=let z1:=x6.getD x8.toNat ((0:Int),((0:Int),[]));let z2:=D4 ((z1.2).2);(cond (decide (x8<x7)) (cond (decide (0≤x8∧x8<(x6.length:Int))) (cond (C4 ((z1.2).2)) (cond (decide ((h0.length+([(z1.1,((z1.2).1,z2))]:Lq1).length)*40≤MAXB)) (.inl (x6,x7,wI (x8+(1:Int)),h0++([(z1.1,((z1.2).1,z2))]))) (.inr A5f)) (.inr A5f)) (.inr A5f)) (.inr (0,h0)))
noncomputable def C29 (x6:Lq1) (x7 x8:Int) (h0:Lq1):A6Z:=itX (fun v:A62=>A50 v.1 v.2.1 v.2.2.1 v.2.2.2) A5f (x6,x7,x8,h0)
noncomputable def B4J (a:A6Z):CT:=(.br (a.1==0) (.done (.exit 0) C0F ((u23),(a.2,()))) .fail)
noncomputable def D6o (x6:Lq1) (x7 x8:Int) (h0:Lq1):CT:=B4J (C29 x6 x7 x8 h0)
noncomputable abbrev C2e {α:Sort _} (f:Lq1→Int→Int→Lq1→α) (d:A1u.den):α:=f d.1.2.2.2.2.2.2.1 d.1.2.2.2.2.2.2.2.1 d.1.2.2.2.2.2.2.2.2.1 d.2.1
noncomputable abbrev B5k:A1u.den→RT A1u.den:=(C2e C3l)
noncomputable def B8A:Code:=((A6 0 (B4 Tryz.f45)).getD 0 (0,.skip)).2
noncomputable abbrev C3G (v:A62):A1u.den:=(((),(),(),(),(),(),v.1,v.2.1,v.2.2.1,u14),(v.2.2.2,()))
theorem D4F:(∀ v:A62,(C3l v.1 v.2.1 v.2.2.1 v.2.2.2).val=R5 C3G B4J (A50 v.1 v.2.1 v.2.2.1 v.2.2.2))∧∀ a:A6Z,CEnd A1u.den (B4J a):=⟨fun v=>(B3 (B3 (B3 (B3 rfl rfl) rfl) rfl) rfl),fun a=>(C5 aCD K7)⟩
theorem D2i:RdA G45 aLn 0 B8A A1u 0 [] (kepts [] [(0,[3])]) (fun d=>(B5k d).opt 0 []):=by
 intro d
 kernel_rfl
noncomputable abbrev C1r:St→Option Tree:=A1u.say 0 [] [(3,48,tq4)] (C2e D6o)
theorem D5r:aPL C1r B8A:=SS.wp2 hlz [(3,48,tq4)] B5k D2i (fun d=>rfl) _ (fun d=>Runs.ofI2 (step:=B5k) C3G D4F rfl (d.1.2.2.2.2.2.2.1,d.1.2.2.2.2.2.2.2.1,d.1.2.2.2.2.2.2.2.2.1,d.2.1))
noncomputable def A9o (a0:Lq1):=C29 a0 (a0.length:Int) (0:Int) ([]:Lq1)
noncomputable def B0k (a0:Lq1):Lq1:=((A9o a0).2)
noncomputable abbrev D1v (r:Lq1):AV×List AObj:=((.t true tq3 r),[])
noncomputable abbrev C2d:A1 B1B→AV×List AObj:=fun d=>D1v (B0k d.1)
noncomputable def A2l (a0:Lq1):Bool:=((A9o a0).1==0)
noncomputable abbrev B6M:A1 B1B→Bool:=fun d=>A2l d.1
noncomputable abbrev E2f:Nat→St→Option Tree:=fun b=>match b with | 0=>C1r | _=>fun _=>none
theorem D5U:N0 true G45 (E2f) Tryz.f45 B1B B6M C2d:=by
 rintro ⟨a0,_⟩ hp
 change A2l a0=true at hp
 unfold A2l at hp
 refine Eq.trans (b:=(cond ((A9o a0).1==0) (some (D1v ((A9o a0).2))) none)) (by kernel_rfl) ?_
 exact (B7 hp fun _h=>rfl)
theorem E2o:aPP 45 (A7 B1B B6M C2d):=pcD true G45 (hl1 (i:=0) (by kernel_rfl) D5r) D5U
noncomputable def S46:Tab:=Tab.add S45 45 (lift (A7 B1B B6M C2d))
noncomputable def E8W:FuncId→Bool:=qadd F1N 45
theorem G46:aPG S46 E8W:=G45.addQ E2o (cbl Tryz.f45) (fun _=>rfl)

abbrev A2z:List PSh:=[.t tq8]
noncomputable def I6 (a0:LBBe):LBBe:=a0
noncomputable abbrev A0H (r:LBBe):AV×List AObj:=(.all 0 2,[.rows 50 true D0 r])
noncomputable abbrev B1G:A1 A2z→AV×List AObj:=fun d=>A0H (I6 d.1)
noncomputable def E8 (a0:LBBe):Bool:=decide ((([]:LBBe).length+a0.length)*32≤MAXB)
noncomputable abbrev A85:A1 A2z→Bool:=fun d=>E8 d.1
theorem C1w (a0:LBBe) (h0:0<a0.length) (hp:E8 a0=true):D0k false Tryz.prog tt S46 E8W aLn Tryz.f46 [.t (Ty.sl D0).flat tq8 a0]=some (A0H a0):=by
 refine Eq.trans (b:=cond (decide (0<a0.length)) (cond (E8 a0) (some (A0H a0)) none) none) (by kernel_rfl) ?_
 rw [decide_eq_true h0,hp];rfl
theorem C1A (A:Option Addr) (c:Nat):D0k false Tryz.prog tt S46 E8W aLn Tryz.f46 [.raw (.slice A 0 c)]=some (A0H []):=by
 cases A<;>kernel_rfl
theorem C2y:aPP 46 (A7 A2z A85 B1G):=PContract.split (e:=D0) (pre:=E8) (g:=fun a0=>A0H (I6 a0)) (fun l h0 hp=>PCalls.of_run false G46 (fn:=Tryz.f46) (by kernel_rfl) (L:=fun _ _=>none) (by rw [show A6 0 (B4 Tryz.f46)=[] by kernel_rfl];simp) (C1w l h0 hp) rfl rfl) (fun A c=>PCalls.of_run false G46 (fn:=Tryz.f46) (by kernel_rfl) (L:=fun _ _=>none) (by rw [show A6 0 (B4 Tryz.f46)=[] by kernel_rfl];simp) (C1A A c) rfl rfl)
noncomputable def S47:Tab:=Tab.add S46 46 (lift (A7 A2z A85 B1G))
noncomputable def F2a:FuncId→Bool:=E8W
theorem G47:aPG S47 F2a:=G46.add C2y ⟨Tryz.f46,by kernel_rfl,by kernel_rfl,by kernel_rfl⟩ (by kernel_rfl)

abbrev A8w:List PSh:=[.agg [(.int .i64),tq3,(.int .i64),tq8,tq3]]
noncomputable def B34 (a0:Int) (a1:Lq1) (a2:Int) (a3:LBBe) (a4:Lq1):Int×Lq1×Int×LBBe×Lq1:=(a0,(B0k a1),a2,(I6 a3),(B0k a4))
noncomputable abbrev C8w (r:Int×Lq1×Int×LBBe×Lq1):AV×List AObj:=((.agg [(ti r.1),(.t true tq3 r.2.1),(ti r.2.2.1),(.t true tq8 r.2.2.2.1),(.t true tq3 r.2.2.2.2)]),[])
noncomputable abbrev B9F:A1 A8w→AV×List AObj:=fun d=>C8w (B34 d.1.1 d.1.2.1 d.1.2.2.1 d.1.2.2.2.1 d.1.2.2.2.2.1)
noncomputable def A3I (a0:Int) (a1:Lq1) (a2:Int) (a3:LBBe) (a4:Lq1):Bool:=(A2l a1)&&((E8 a3)&&(A2l a4))
noncomputable abbrev B4k:A1 A8w→Bool:=fun d=>A3I d.1.1 d.1.2.1 d.1.2.2.1 d.1.2.2.2.1 d.1.2.2.2.2.1
theorem D4B:N0 true G47 aLn Tryz.f20 A8w B4k B9F:=by
 rintro ⟨⟨a0,⟨a1,⟨a2,⟨a3,⟨a4,_⟩⟩⟩⟩⟩,_⟩ hp
 change A3I a0 a1 a2 a3 a4=true at hp
 unfold A3I at hp
 refine Eq.trans (b:=(cond (A2l a1) (cond (E8 a3) (cond (A2l a4) (some (C8w (a0,(B0k a1),a2,(I6 a3),(B0k a4)))) none) none) none)) (by kernel_rfl) ?_
 exact (B2 hp fun hp=>(B2 hp fun hp=>(B7 hp fun _h=>rfl)))
theorem D8t:aPP 20 (A7 A8w B4k B9F):=pcD true G47 hlz D4B
noncomputable def S48:Tab:=Tab.add S47 20 (lift (A7 A8w B4k B9F))
noncomputable def F33:FuncId→Bool:=qadd F2a 20
theorem G48:aPG S48 F33:=G47.addQ D8t (cbl Tryz.f20) (fun _=>rfl)

abbrev B4Z:List PSh:=[.t (.int .i64),.t (.int .i64),.t (.int .i64)]
noncomputable def J0 (a0 a1 a2:Int):Bool:=(cond (decide (a0 ≥ a1)) (decide (a0≤a2)) false)
noncomputable abbrev B99 (r:Bool):AV×List AObj:=((.t true .bool r),[])
noncomputable abbrev C6e:A1 B4Z→AV×List AObj:=fun d=>B99 (J0 d.1 d.2.1 d.2.2.1)
noncomputable abbrev B94:A1 B4Z→Bool:=fun d=>true
theorem D8q:N0 true G48 aLn Tryz.f27 B4Z B94 C6e:=by
 rintro ⟨a0,⟨a1,⟨a2,_⟩⟩⟩ hp
 refine Eq.trans (b:=(cond (decide (a0 ≥ a1)) (some (B99 (decide (a0≤a2)))) (some (B99 false)))) (by kernel_rfl) ?_
 exact (A18 B99 (fun _h=>rfl) (fun _h=>rfl))
theorem E4t:aPP 27 (A7 B4Z B94 C6e):=pcD true G48 hlz D8q
noncomputable def S49:Tab:=Tab.add S48 27 (lift (A7 B4Z B94 C6e))
noncomputable def F4d:FuncId→Bool:=qadd F33 27
theorem G49:aPG S49 F4d:=G48.addQ E4t (cbl Tryz.f27) (fun _=>rfl)

abbrev C8V:List PSh:=[.t (.int .i64)]
noncomputable def D78 (a0:Int):Bool:=(J0 a0 (0:Int) (7:Int))
noncomputable abbrev E9H (r:Bool):AV×List AObj:=((.t true .bool r),[])
noncomputable abbrev D8r:A1 C8V→AV×List AObj:=fun d=>E9H (D78 d.1)
noncomputable abbrev D0g:A1 C8V→Bool:=fun d=>true
theorem E5Q:N0 true G49 aLn Tryz.f26 C8V D0g D8r:=by
 rintro ⟨a0,_⟩ hp
 kernel_rfl
theorem E9J:aPP 26 (A7 C8V D0g D8r):=pcD true G49 hlz E5Q
noncomputable def S50:Tab:=Tab.add S49 26 (lift (A7 C8V D0g D8r))
noncomputable def F2Z:FuncId→Bool:=qadd F4d 26
theorem G50:aPG S50 F2Z:=G49.addQ E9J (cbl Tryz.f26) (fun _=>rfl)

abbrev C7k:List PSh:=[.t (.int .i64)]
noncomputable def D04 (a0:Int):Bool:=(J0 a0 (1:Int) (1000000:Int))
noncomputable abbrev E8V (r:Bool):AV×List AObj:=((.t true .bool r),[])
noncomputable abbrev D9V:A1 C7k→AV×List AObj:=fun d=>E8V (D04 d.1)
noncomputable abbrev D0x:A1 C7k→Bool:=fun d=>true
theorem E6B:N0 true G50 aLn Tryz.f81 C7k D0x D9V:=by
 rintro ⟨a0,_⟩ hp
 kernel_rfl
theorem E9Q:aPP 81 (A7 C7k D0x D9V):=pcD true G50 hlz E6B
noncomputable def S51:Tab:=Tab.add S50 81 (lift (A7 C7k D0x D9V))
noncomputable def F1P:FuncId→Bool:=qadd F2Z 81
theorem G51:aPG S51 F1P:=G50.addQ E9Q (cbl Tryz.f81) (fun _=>rfl)

abbrev A8y:List PSh:=[.t (.int .u8)]
noncomputable def B4g (a0:Int):Bool:=let z1:=decide (a0 ≥ (48:Int));let z2:=decide (a0≤(57:Int));(cond (decide (a0 ≥ (97:Int))) (cond (decide (a0≤(122:Int))) true (cond z1 z2 false)) (cond z1 z2 false))
noncomputable abbrev A1f (r:Bool):AV×List AObj:=((.t true .bool r),[])
noncomputable abbrev C0x:A1 A8y→AV×List AObj:=fun d=>A1f (B4g d.1)
noncomputable abbrev B5q:A1 A8y→Bool:=fun d=>true
theorem D5c:N0 true G51 aLn Tryz.f144 A8y B5q C0x:=by
 rintro ⟨a0,_⟩ hp
 refine Eq.trans (b:=(let z1:=A1f (decide (a0≤(57:Int)));let z2:=decide (a0 ≥ (48:Int));cond (decide (a0 ≥ (97:Int))) (cond (decide (a0≤(122:Int))) (some (A1f true)) (cond z2 (some z1) (some (A1f false)))) (cond z2 (some z1) (some (A1f false))))) (by kernel_rfl) ?_
 exact (A18 A1f (fun _h=>(A18 A1f (fun _h=>rfl) (fun _h=>(A18 A1f (fun _h=>rfl) (fun _h=>rfl))))) (fun _h=>(A18 A1f (fun _h=>rfl) (fun _h=>rfl))))
theorem D9b:aPP 144 (A7 A8y B5q C0x):=pcD true G51 hlz D5c
noncomputable def S52:Tab:=Tab.add S51 144 (lift (A7 A8y B5q C0x))
noncomputable def F3e:FuncId→Bool:=qadd F1P 144
theorem G52:aPG S52 F3e:=G51.addQ D9b (cbl Tryz.f144) (fun _=>rfl)

abbrev F2u:List Sh:=.junk::.junk::.junk::.junk::.junk::.junk::.junk::.junk::.junk::.junk::.junk::[]
abbrev u12:=((),(),(),(),(),(),(),(),(),(),(),())
noncomputable def B9i (s:ByteArray) (i:Nat):Bool:=B4g (bt s (i:Int))
abbrev B8s:List PSh:=[.t .str]
abbrev A5F:SS:=⟨(.t true .str::.junk::.junk::tI::F2u),[]⟩
abbrev C5f:SS:=⟨(.junk::.junk::.t true .bool::E8X),[]⟩
abbrev C5t:SS:=⟨(.junk::D52),[]⟩
noncomputable def C0n (x0:ByteArray) (x3:Int):RT A5F.den:=(.br (decide (x3<(x0.size:Int))) (.br (decide (0≤x3∧x3<(x0.size:Int))) (.br (!(B4g (bt x0 x3))) (.done .ret C5f (((),(),false,u13),())) (.next ((x0,(),(),wI (x3+(1:Int)),u12),()))) .fail) (.done (.exit 0) C5t ((u16),())))
noncomputable def B1D (x0:ByteArray) (x3:Int):CT:=(.br (decide (0≤x3)&&okS x0) (.br (B1x (B9i x0) (x0.size - x3.toNat) x3.toNat) (.done (.exit 0) C5t ((u16),())) (.done .ret C5f (((),(),false,u13),()))) .fail)
noncomputable abbrev A9k:A5F.den→RT A5F.den:=(fun d=>C0n d.1.1 d.1.2.2.2.1)
noncomputable abbrev C7d (x0:ByteArray) (x3:Int):A5F.den:=((x0,(),(),x3,u12),())
noncomputable def C3w:Code:=((A6 0 (B4 Tryz.f128)).getD 0 (0,.skip)).2
theorem E1s (x0:ByteArray) (x3:Int):(B1D x0 x3).val (D:=A5F.den)=.fail∨Runs A9k (C7d x0 x3) (B1D x0 x3).val:=by
 cases hc:(decide (0≤x3)&&okS x0) with
 | false=>left;simp only [B1D,CT.val,hc,cond_false]
 | true =>
  right
  simp only [B1D,CT.val,hc,cond_true]
  simp only [Bool.and_eq_true,decide_eq_true_eq] at hc
  obtain ⟨i,rfl⟩:=Int.eq_ofNat_of_zero_le hc.1
  have hs:=E7O hc.2
  simp only [Int.toNat_natCast]
  refine Runs.scan (fun j=>C7d x0 (j:Int)) (x0.size) (B9i x0) (fun i hi=>?_) (fun i hi=>?_) ⟨_,_,_,rfl,by simp⟩ ⟨_,_,_,rfl,by simp⟩ _ _ rfl
  ·
   have h0a:decide ((i:Int)<(x0.size:Int))=true:=decide_eq_true (by omega)
   have h0b:decide (0≤(i:Int)∧(i:Int)<(x0.size:Int))=true:=decide_eq_true (by omega)
   simp only [A9k,C0n,RT.val,h0a,h0b,cond_true,E5x i (by omega),Int.toNat_natCast]
   simp only [B9i]
   cases B4g (bt x0 (i:Int))<;>rfl
  ·have h1:decide ((i:Int)<(x0.size:Int))=false:=decide_eq_false (by omega)
   simp only [A9k,C0n,RT.val,h1,cond_false]
theorem D6u:RdA G52 aLn 0 C3w A5F 0 [] (kepts [2] [(0,[])]) (fun d=>(A9k d).opt 0 []):=by
 intro d
 kernel_rfl
noncomputable abbrev C41:St→Option Tree:=A5F.say 0 [] [] (fun d=>B1D d.1.1 d.1.2.2.2.1)
theorem D8L:aPL C41 C3w:=SS.wp2 hlz [] A9k D6u (fun d=>rfl) _ (fun d=>E1s d.1.1 d.1.2.2.2.1)
noncomputable def D2T (a0:ByteArray):Bool:=(cond (B1x (B9i a0) (a0.size - (0:Int).toNat) (0:Int).toNat) true false)
noncomputable abbrev C4f (r:Bool):AV×List AObj:=((.t true .bool r),[])
noncomputable abbrev C92:A1 B8s→AV×List AObj:=fun d=>C4f (D2T d.1)
noncomputable def C4q (a0:ByteArray):Bool:=okS a0
noncomputable abbrev C3y:A1 B8s→Bool:=fun d=>C4q d.1
noncomputable abbrev E68:Nat→St→Option Tree:=fun b=>match b with | 0=>C41 | _=>fun _=>none
theorem E3j:N0 true G52 (E68) Tryz.f128 B8s C3y C92:=by
 rintro ⟨a0,_⟩ hp
 change C4q a0=true at hp
 unfold C4q at hp
 refine Eq.trans (b:=(cond (decide (0≤(0:Int))&&okS a0) (cond (B1x (B9i a0) (a0.size - (0:Int).toNat) (0:Int).toNat) (some (C4f true)) (some (C4f false))) none)) (by kernel_rfl) ?_
 exact (B7 (by first | rfl | decide | exact hp | (simp only [Bool.and_eq_true] at hp;simp only [hp];done) | (simp [*];done) | (simp [okL] at hp;simp [okL,MAXB];omega) | (simp_all;done) | (simp at *;omega)) (fun _h=>(A18 C4f (fun _h=>rfl) (fun _h=>rfl))))
theorem E5V:aPP 128 (A7 B8s C3y C92):=pcD true G52 (hl1 (i:=0) (by kernel_rfl) D8L) E3j
noncomputable def S53:Tab:=Tab.add S52 128 (lift (A7 B8s C3y C92))
noncomputable def F1R:FuncId→Bool:=qadd F3e 128
theorem G53:aPG S53 F1R:=G52.addQ E5V (cbl Tryz.f128) (fun _=>rfl)

abbrev C1Y:List PSh:=[.t .str]
noncomputable def B7b (a0:ByteArray):Bool:=(cond (J0 (a0.size:Int) (1:Int) (12:Int)) (D2T a0) false)
noncomputable abbrev C7A (r:Bool):AV×List AObj:=((.t true .bool r),[])
noncomputable abbrev D5J:A1 C1Y→AV×List AObj:=fun d=>C7A (B7b d.1)
noncomputable def C8j (a0:ByteArray):Bool:=okS a0
noncomputable abbrev C7b:A1 C1Y→Bool:=fun d=>C8j d.1
theorem E3X:N0 true G53 aLn Tryz.f115 C1Y C7b D5J:=by
 rintro ⟨a0,_⟩ hp
 change C8j a0=true at hp
 unfold C8j at hp
 refine Eq.trans (b:=(cond (J0 (a0.size:Int) (1:Int) (12:Int)) (cond (C4q a0) (some (C7A (D2T a0))) none) (some (C7A false)))) (by kernel_rfl) ?_
 exact (A18 C7A (fun _h=>(B7 (by first | rfl | decide | exact hp | (simp only [Bool.and_eq_true] at hp;simp only [hp];done) | (simp [*];done) | (simp [okL] at hp;simp [okL,MAXB];omega) | (simp_all;done) | (simp at *;omega)) (fun _h=>rfl))) (fun _h=>rfl))
theorem E8O:aPP 115 (A7 C1Y C7b D5J):=pcD true G53 hlz E3X
noncomputable def S54:Tab:=Tab.add S53 115 (lift (A7 C1Y C7b D5J))
noncomputable def F2N:FuncId→Bool:=qadd F1R 115
theorem G54:aPG S54 F2N:=G53.addQ E8O (cbl Tryz.f115) (fun _=>rfl)

abbrev C9i:List PSh:=[.agg [(.int .i64),.str,.str]]
noncomputable def D3d (a0:Int) (a1 a2:ByteArray):Bool:=let z1:=decide ((a2.size:Int)≤(20:Int));(cond (a0==(1:Int)) (cond (B7b a1) z1 false) (cond (a0==(3:Int)) (cond (B7b a1) z1 false) (cond (a0==(2:Int)) (cond (B7b a1) (a2.toList==bE.toList) false) false)))
noncomputable abbrev A6f (r:Bool):AV×List AObj:=((.t true .bool r),[])
noncomputable abbrev D8U:A1 C9i→AV×List AObj:=fun d=>A6f (D3d d.1.1 d.1.2.1 d.1.2.2.1)
noncomputable def C4w (a0:Int) (a1 a2:ByteArray):Bool:=okS a1
noncomputable abbrev C9x:A1 C9i→Bool:=fun d=>C4w d.1.1 d.1.2.1 d.1.2.2.1
theorem E6C:N0 true G54 aLn Tryz.f92 C9i C9x D8U:=by
 rintro ⟨⟨a0,⟨a1,⟨a2,_⟩⟩⟩,_⟩ hp
 change C4w a0 a1 a2=true at hp
 unfold C4w at hp
 refine Eq.trans (b:=(let z1:=A6f (decide ((a2.size:Int)≤(20:Int)));let z2:=C8j a1;cond (a0==(1:Int)) (cond z2 (cond (B7b a1) (some z1) (some (A6f false))) none) (cond (a0==(3:Int)) (cond z2 (cond (B7b a1) (some z1) (some (A6f false))) none) (cond (a0==(2:Int)) (cond z2 (cond (B7b a1) (some (A6f (a2.toList==(⟨#[]⟩:ByteArray).toList))) (some (A6f false))) none) (some (A6f false)))))) (by kernel_rfl) ?_
 exact (A18 A6f (fun _h=>(B7 (by first | rfl | decide | exact hp | (simp only [Bool.and_eq_true] at hp;simp only [hp];done) | (simp [*];done) | (simp [okL] at hp;simp [okL,MAXB];omega) | (simp_all;done) | (simp at *;omega)) (fun _h=>(A18 A6f (fun _h=>rfl) (fun _h=>rfl))))) (fun _h=>(A18 A6f (fun _h=>(B7 (by first | rfl | decide | exact hp | (simp only [Bool.and_eq_true] at hp;simp only [hp];done) | (simp [*];done) | (simp [okL] at hp;simp [okL,MAXB];omega) | (simp_all;done) | (simp at *;omega)) (fun _h=>(A18 A6f (fun _h=>rfl) (fun _h=>rfl))))) (fun _h=>(A18 A6f (fun _h=>(B7 (by first | rfl | decide | exact hp | (simp only [Bool.and_eq_true] at hp;simp only [hp];done) | (simp [*];done) | (simp [okL] at hp;simp [okL,MAXB];omega) | (simp_all;done) | (simp at *;omega)) (fun _h=>(A18 A6f (fun _h=>rfl) (fun _h=>rfl))))) (fun _h=>rfl))))))
theorem E8Z:aPP 92 (A7 C9i C9x D8U):=pcD true G54 hlz E6C
noncomputable def S55:Tab:=Tab.add S54 92 (lift (A7 C9i C9x D8U))
noncomputable def F2E:FuncId→Bool:=qadd F2N 92
theorem G55:aPG S55 F2E:=G54.addQ E8Z (cbl Tryz.f92) (fun _=>rfl)

abbrev E9p:List Sh:=.junk::.junk::F3O
abbrev u32:=((),(),u30)
abbrev E8U:List AV:=.junk::.junk::F3v
abbrev F2Y:List AV:=.junk::.junk::.junk::.junk::.junk::.junk::.junk::.junk::.junk::.junk::.junk::.junk::.junk::.junk::.junk::.junk::.junk::.junk::.junk::.junk::.junk::.junk::.junk::.junk::.junk::.junk::[]
noncomputable def D1T (l:Lq2) (i:Nat):Bool:=let z1:=l.getD i dOp;let z2:=l.getD (i - 1) dOp;D3d z1.1 z1.2.1 z1.2.2&&(decide (i=0)||!(Op.bytesLess z1.2.1.toList z2.2.1.toList||(z1.2.1.toList==z2.2.1.toList)))
abbrev C3g:List PSh:=[.t tq5]
abbrev A3B:SS:=⟨(.t false tq5::.junk::.junk::.junk::.junk::.t false tq5::tI::tI::E9z),[]⟩
abbrev B8S:SS:=⟨(.junk::.junk::.t true .bool::E9p),[]⟩
abbrev C8l:SS:=⟨(.t false tq5::E1d),[]⟩
noncomputable def C3W (x0 x5:Lq2) (x6 x7:Int):RT A3B.den:=let z1:=x5.getD x7.toNat ((0:Int),(bE,bE));let z2:=wI (x7 - (1:Int));let z3:=((x0.getD (z2.toNat) ((0:Int),(bE,bE))).2).1;(.br (decide (x7<x6)) (.br (decide (0≤x7∧x7<(x5.length:Int))) (.br (C4w (z1.1) ((z1.2).1) ((z1.2).2)) (.br (!(D3d (z1.1) ((z1.2).1) ((z1.2).2))) (.done .ret B8S (((),(),false,u32),())) (.br (decide (x7 > (0:Int))) (.br (decide (0≤z2∧z2<(x0.length:Int))) (.br (Op.bytesLess ((z1.2).1).toList z3.toList||(((z1.2).1).toList==z3.toList)) (.done .ret B8S (((),(),false,u32),())) (.next ((x0,(),(),(),(),x5,x6,wI (x7+(1:Int)),u27),()))) .fail) (.next ((x0,(),(),(),(),x5,x6,wI (x7+(1:Int)),u27),())))) .fail) .fail) (.done (.exit 0) C8l ((x0,u34),())))
noncomputable def B37 (x0 x5:Lq2) (x6 x7:Int):CT:=(.br (decide (0≤x7)&&(decide (x6=(x5.length:Int))&&(decide (x5=x0)&&L1 x5))) (.br (B1x (D1T x5) (x5.length - x7.toNat) x7.toNat) (.done (.exit 0) C8l ((x0,u34),())) (.done .ret B8S (((),(),false,u32),()))) .fail)
noncomputable abbrev B6p {α:Sort _} (f:Lq2→Lq2→Int→Int→α) (d:A3B.den):α:=f d.1.1 d.1.2.2.2.2.2.1 d.1.2.2.2.2.2.2.1 d.1.2.2.2.2.2.2.2.1
noncomputable abbrev B1Z:A3B.den→RT A3B.den:=(B6p C3W)
noncomputable abbrev D1a (x0 x5:Lq2) (x6 x7:Int):A3B.den:=((x0,(),(),(),(),x5,x6,x7,u27),())
noncomputable def C5N:Code:=((A6 0 (B4 Tryz.f61)).getD 0 (0,.skip)).2
theorem E4R (x0 x5:Lq2) (x6 x7:Int):(B37 x0 x5 x6 x7).val (D:=A3B.den)=.fail∨Runs B1Z (D1a x0 x5 x6 x7) (B37 x0 x5 x6 x7).val:=by
 cases hc:(decide (0≤x7)&&(decide (x6=(x5.length:Int))&&(decide (x5=x0)&&L1 x5))) with
 | false=>left;simp only [B37,CT.val,hc,cond_false]
 | true =>
  right
  simp only [B37,CT.val,hc,cond_true]
  simp only [Bool.and_eq_true,decide_eq_true_eq] at hc
  obtain ⟨i,rfl⟩:=Int.eq_ofNat_of_zero_le hc.1
  obtain ⟨_,e6,e5,hc⟩:=hc
  subst e5;subst e6
  have hs:=L4 hc
  simp only [Int.toNat_natCast]
  refine Runs.scan (fun j=>D1a x5 x5 (x5.length:Int) (j:Int)) (x5.length) (D1T x5) (fun i hi=>?_) (fun i hi=>?_) ⟨_,_,_,rfl,by simp⟩ ⟨_,_,_,rfl,by simp⟩ _ _ rfl
  ·
   have h0a:decide ((i:Int)<(x5.length:Int))=true:=decide_eq_true (by omega)
   have h0b:decide (0≤(i:Int)∧(i:Int)<(x5.length:Int))=true:=decide_eq_true (by omega)
   simp only [B1Z,C3W,RT.val,h0a,h0b,cond_true,E5x i (by omega),Int.toNat_natCast]
   have hq:C4w (x5.getD i dOp).1 (x5.getD i dOp).2.1 (x5.getD i dOp).2.2=true:=(E2B hc i hi).1
   simp only [dOp] at hq
   simp only [hq,cond_true,D1T,dOp]
   cases D3d (x5.getD i ((0:Int),((⟨#[]⟩:ByteArray),(⟨#[]⟩:ByteArray)))).1 (x5.getD i ((0:Int),((⟨#[]⟩:ByteArray),(⟨#[]⟩:ByteArray)))).2.1 (x5.getD i ((0:Int),((⟨#[]⟩:ByteArray),(⟨#[]⟩:ByteArray)))).2.2 with
   | false=>rfl
   | true =>
    cases i with
    | zero=>rfl
    | succ i =>
     have h3:decide (((i+1:Nat):Int) > 0)=true:=decide_eq_true (by omega)
     have h4:wI (((i+1:Nat):Int) - 1)=(i:Int):=by have:=I5 (n:=((i+1:Nat):Int) - 1) (by omega) (by omega);omega
     have h5:decide (0≤(i:Int)∧(i:Int)<(x5.length:Int))=true:=decide_eq_true (by omega)
     have h6:decide (i+1=0)=false:=by simp
     simp only [h3,h4,h5,h6,cond_true,Bool.true_and,Bool.false_or,Int.toNat_natCast,Nat.add_sub_cancel,Bool.not_true,cond_false]
     cases (Op.bytesLess (x5.getD (i+1) ((0:Int),((⟨#[]⟩:ByteArray),(⟨#[]⟩:ByteArray)))).2.1.toList (x5.getD i ((0:Int),((⟨#[]⟩:ByteArray),(⟨#[]⟩:ByteArray)))).2.1.toList||((x5.getD (i+1) ((0:Int),((⟨#[]⟩:ByteArray),(⟨#[]⟩:ByteArray)))).2.1.toList==(x5.getD i ((0:Int),((⟨#[]⟩:ByteArray),(⟨#[]⟩:ByteArray)))).2.1.toList))<;>rfl
  ·have h1:decide ((i:Int)<(x5.length:Int))=false:=decide_eq_false (by omega)
   simp only [B1Z,C3W,RT.val,h1,cond_false]
noncomputable def D09 (x0 x5:Lq2) (x6 x7:Int):Option (Ex×St):=let z1:=x5.getD x7.toNat ((0:Int),(bE,bE));let z2:=(⟨((.t false tq5 x0)::.junk::.junk::.junk::.junk::(.t false tq5 x5)::(ti x6)::(ti (wI (x7+(1:Int))))::F2Y),[],0,[]⟩:St);let z3:=wI (x7 - (1:Int));let z4:=(⟨(.junk::.junk::(.t true .bool false)::E8U),[],0,[]⟩:St);let z5:=((x0.getD (z3.toNat) ((0:Int),(bE,bE))).2).1;(cond (decide (x7<x6)) (cond (decide (0≤x7∧x7<(x5.length:Int))) (cond (C4w (z1.1) ((z1.2).1) ((z1.2).2)) (cond (!(D3d (z1.1) ((z1.2).1) ((z1.2).2))) (some (.ret,z4)) (cond (decide (x7 > (0:Int))) (cond (decide (0≤z3∧z3<(x0.length:Int))) (cond (Op.bytesLess ((z1.2).1).toList z5.toList||(((z1.2).1).toList==z5.toList)) (some (.ret,z4)) (some (.normal,z2))) none) (some (.normal,z2)))) none) none) (some ((.exit 0),(⟨((.t false tq5 x0)::E32),[],0,[]⟩:St))))
theorem D8B:RdA G55 aLn 0 C5N A3B 0 [] (kepts [2] [(0,[0])]) (B6p D09):=by
 intro d
 kernel_rfl
theorem D9I:∀ d:A3B.den,(B6p D09) d=(B1Z d).opt 0 []:=by
 intro d
 kernel_rfl
noncomputable abbrev C7t:St→Option Tree:=A3B.say 0 [] [] (B6p B37)
theorem E1k:aPL C7t C5N:=SS.wp2 hlz [] B1Z D8B D9I _ (fun d=>E4R d.1.1 d.1.2.2.2.2.2.1 d.1.2.2.2.2.2.2.1 d.1.2.2.2.2.2.2.2.1)
noncomputable def C2l (a0:Lq2):Bool:=(cond (B1x (D1T a0) (a0.length - (0:Int).toNat) (0:Int).toNat) (J0 (a0.length:Int) (1:Int) (8:Int)) false)
noncomputable abbrev C9h (r:Bool):AV×List AObj:=((.t true .bool r),[])
noncomputable abbrev D5B:A1 C3g→AV×List AObj:=fun d=>C9h (C2l d.1)
noncomputable def B32 (a0:Lq2):Bool:=L1 a0
noncomputable abbrev C6p:A1 C3g→Bool:=fun d=>B32 d.1
noncomputable abbrev E79:Nat→St→Option Tree:=fun b=>match b with | 0=>C7t | _=>fun _=>none
theorem E3u:N0 true G55 (E79) Tryz.f61 C3g C6p D5B:=by
 rintro ⟨a0,_⟩ hp
 change B32 a0=true at hp
 unfold B32 at hp
 refine Eq.trans (b:=(cond (decide (0≤(0:Int))&&(decide ((a0.length:Int)=(a0.length:Int))&&(decide (a0=a0)&&L1 a0))) (cond (B1x (D1T a0) (a0.length - (0:Int).toNat) (0:Int).toNat) (some (C9h (J0 (a0.length:Int) (1:Int) (8:Int)))) (some (C9h false))) none)) (by kernel_rfl) ?_
 exact (B7 (by first | rfl | decide | exact hp | (simp only [Bool.and_eq_true] at hp;simp only [hp];done) | (simp [*];done) | (simp [okL] at hp;simp [okL,MAXB];omega) | (simp_all;done) | (simp at *;omega)) (fun _h=>(A18 C9h (fun _h=>rfl) (fun _h=>rfl))))
theorem E8q:aPP 61 (A7 C3g C6p D5B):=pcD true G55 (hl1 (i:=0) (by kernel_rfl) E1k) E3u
noncomputable def S56:Tab:=Tab.add S55 61 (lift (A7 C3g C6p D5B))
noncomputable def F1T:FuncId→Bool:=qadd F2E 61
theorem G56:aPG S56 F1T:=G55.addQ E8q (cbl Tryz.f61) (fun _=>rfl)

abbrev C3n:List PSh:=[.agg [(.int .i64),(.int .i64),tq5]]
noncomputable def E0a (a0 a1:Int) (a2:Lq2):Bool:=(cond (a0==(1:Int)) (cond (D04 a1) (C2l a2) false) (cond (a0==(2:Int)) (cond (D04 a1) ((a2.length:Int)==(0:Int)) false) (cond (a0==(3:Int)) (cond (D04 a1) ((a2.length:Int)==(0:Int)) false) false)))
noncomputable abbrev A3h (r:Bool):AV×List AObj:=((.t true .bool r),[])
noncomputable abbrev D5b:A1 C3n→AV×List AObj:=fun d=>A3h (E0a d.1.1 d.1.2.1 d.1.2.2.1)
noncomputable def B3N (a0 a1:Int) (a2:Lq2):Bool:=L1 a2
noncomputable abbrev C59:A1 C3n→Bool:=fun d=>B3N d.1.1 d.1.2.1 d.1.2.2.1
theorem E4B:N0 true G56 aLn Tryz.f54 C3n C59 D5b:=by
 rintro ⟨⟨a0,⟨a1,⟨a2,_⟩⟩⟩,_⟩ hp
 change B3N a0 a1 a2=true at hp
 unfold B3N at hp
 refine Eq.trans (b:=(let z1:=A3h ((a2.length:Int)==(0:Int));cond (a0==(1:Int)) (cond (D04 a1) (cond (B32 a2) (some (A3h (C2l a2))) none) (some (A3h false))) (cond (a0==(2:Int)) (cond (D04 a1) (some z1) (some (A3h false))) (cond (a0==(3:Int)) (cond (D04 a1) (some z1) (some (A3h false))) (some (A3h false)))))) (by kernel_rfl) ?_
 exact (A18 A3h (fun _h=>(A18 A3h (fun _h=>(B7 (by first | rfl | decide | exact hp | (simp only [Bool.and_eq_true] at hp;simp only [hp];done) | (simp [*];done) | (simp [okL] at hp;simp [okL,MAXB];omega) | (simp_all;done) | (simp at *;omega)) (fun _h=>rfl))) (fun _h=>rfl))) (fun _h=>(A18 A3h (fun _h=>(A18 A3h (fun _h=>rfl) (fun _h=>rfl))) (fun _h=>(A18 A3h (fun _h=>(A18 A3h (fun _h=>rfl) (fun _h=>rfl))) (fun _h=>rfl))))))
theorem E7X:aPP 54 (A7 C3n C59 D5b):=pcD true G56 hlz E4B
noncomputable def S57:Tab:=Tab.add S56 54 (lift (A7 C3n C59 D5b))
noncomputable def F2l:FuncId→Bool:=qadd F1T 54
theorem G57:aPG S57 F2l:=G56.addQ E7X (cbl Tryz.f54) (fun _=>rfl)

abbrev E4F:List Sh:=.junk::E4W
abbrev E3z:List Sh:=.junk::E9e
abbrev u17:=((),u16)
abbrev u22:=((),u21)
abbrev C2K:List PSh:=[.t tq3,.t (.int .i64)]
abbrev A7u:SS:=⟨(.t false tq3::tI::.junk::.junk::.junk::tI::E4W),[]⟩
abbrev C8u:SS:=⟨(.junk::.junk::.junk::.junk::tI::E4F),[]⟩
abbrev C7C:SS:=⟨(.junk::E3z),[]⟩
noncomputable def D0N (x0:Lq1) (x1 x5:Int):RT A7u.den:=(.br (decide (x5 ≥ (0:Int))) (.br (decide (0≤x5∧x5<(x0.length:Int))) (.br ((((x0.getD x5.toNat ((0:Int),((0:Int),[]))).2).1)==x1) (.done .ret C8u (((),(),(),(),x5,u17),())) (.next ((x0,x1,(),(),(),wI (x5 - (1:Int)),u16),()))) .fail) (.done (.exit 0) C7C ((u22),())))
abbrev A7y:=(Lq1)×(Int)×(Int)
abbrev B0b:=Nat×(Int)
def B57:B0b:=(99,((0:Int):Int))
noncomputable def A8d (x0:Lq1) (x1 x5:Int):A7y ⊕ B0b:=(cond (decide (x5 ≥ (0:Int))) (cond (decide (0≤x5∧x5<(x0.length:Int))) (cond ((((x0.getD x5.toNat ((0:Int),((0:Int),[]))).2).1)==x1) (.inr (0,x5)) (.inl (x0,x1,wI (x5 - (1:Int))))) (.inr B57)) (.inr (1,((0:Int):Int))))
noncomputable def A8c (x0:Lq1) (x1 x5:Int):B0b:=itX (fun v:A7y=>A8d v.1 v.2.1 v.2.2) B57 (x0,x1,x5)
noncomputable def C3P (a:B0b):CT:=(.br (a.1==0) (.done .ret C8u (((),(),(),(),a.2,u17),())) (.br (a.1==1) (.done (.exit 0) C7C ((u22),())) .fail))
noncomputable def E3v (x0:Lq1) (x1 x5:Int):CT:=C3P (A8c x0 x1 x5)
noncomputable abbrev C21:A7u.den→RT A7u.den:=(fun d=>D0N d.1.1 d.1.2.1 d.1.2.2.2.2.2.1)
noncomputable def C48:Code:=((A6 0 (B4 Tryz.f82)).getD 0 (0,.skip)).2
noncomputable abbrev D02 (v:A7y):A7u.den:=((v.1,v.2.1,(),(),(),v.2.2,u16),())
theorem E0y:(∀ v:A7y,(D0N v.1 v.2.1 v.2.2).val=R5 D02 C3P (A8d v.1 v.2.1 v.2.2))∧∀ a:B0b,CEnd A7u.den (C3P a):=⟨fun v=>(B3 (B3 (B3 rfl rfl) rfl) rfl),fun a=>(C5 aCD (C5 aCD K7))⟩
theorem D8Y:RdA G57 aLn 0 C48 A7u 0 [] (kepts [4] [(0,[])]) (fun d=>(C21 d).opt 0 []):=by
 intro d
 kernel_rfl
noncomputable abbrev C8L:St→Option Tree:=A7u.say 0 [] [] (fun d=>E3v d.1.1 d.1.2.1 d.1.2.2.2.2.2.1)
theorem E3e:aPL C8L C48:=SS.wp2 hlz [] C21 D8Y (fun d=>rfl) _ (fun d=>Runs.ofI2 (step:=C21) D02 E0y rfl (d.1.1,d.1.2.1,d.1.2.2.2.2.2.1))
noncomputable def A10 (a0:Lq1) (a1:Int):Int:=let z1:=A8c a0 a1 (wI ((a0.length:Int) - (1:Int)));(cond (z1.1==0) (z1.2) (-1:Int))
noncomputable abbrev C70 (r:Int):AV×List AObj:=((ti r),[])
noncomputable abbrev D3q:A1 C2K→AV×List AObj:=fun d=>C70 (A10 d.1 d.2.1)
noncomputable def A0z (a0:Lq1) (a1:Int):Bool:=let z1:=A8c a0 a1 (wI ((a0.length:Int) - (1:Int)));cond (z1.1==0) true (z1.1==1)
noncomputable abbrev C6Q:A1 C2K→Bool:=fun d=>A0z d.1 d.2.1
noncomputable abbrev E7r:Nat→St→Option Tree:=fun b=>match b with | 0=>C8L | _=>fun _=>none
theorem E3G:N0 true G57 (E7r) Tryz.f82 C2K C6Q D3q:=by
 rintro ⟨a0,⟨a1,_⟩⟩ hp
 change A0z a0 a1=true at hp
 unfold A0z at hp
 refine Eq.trans (b:=(let z1:=A8c a0 a1 (wI ((a0.length:Int) - (1:Int)));cond (z1.1==0) (some (C70 (z1.2))) (cond (z1.1==1) (some (C70 (-1:Int))) none))) (by kernel_rfl) ?_
 exact (A9 C70 hp (fun hp=>rfl) (fun hp=>(B7 hp fun _h=>rfl)))
theorem E78:aPP 82 (A7 C2K C6Q D3q):=pcD true G57 (hl1 (i:=0) (by kernel_rfl) E3e) E3G
noncomputable def S58:Tab:=Tab.add S57 82 (lift (A7 C2K C6Q D3q))
noncomputable def F25:FuncId→Bool:=qadd F2l 82
theorem G58:aPG S58 F25:=G57.addQ E78 (cbl Tryz.f82) (fun _=>rfl)

abbrev u18:=((),u17)
abbrev F1v:List AV:=.junk::.junk::.junk::.junk::.junk::.junk::.junk::.junk::.junk::.junk::.junk::[]
abbrev E8b:List AV:=.junk::.junk::.junk::.junk::.junk::.junk::F1v
abbrev E6z:List AV:=.junk::.junk::.junk::.junk::.junk::.junk::.junk::E8b
abbrev A9Q:List PSh:=[.t tq3,.t tq5]
noncomputable def A8P:Code:=((A6 0 (B4 Tryz.f83)).getD 0 (0,.skip)).2
noncomputable def A9R:Code:=((A6 0 A8P).getD 0 (0,.skip)).2
noncomputable def B5O:Code:=((A6 2 A9R).getD 0 (0,.skip)).2
abbrev X5:SS:=⟨(.junk::.t false tq5::.junk::.junk::.junk::.junk::.junk::.junk::.ptr 0 0 1 0::.junk::.junk::.t false tq3::tI::tI::.junk::.junk::.junk::.junk::.t false tq5::tI::tI::.junk::.junk::.junk::.t false tq5::tI::tI::F2u),[.box [tI,.t true .str,.t true .str]]⟩
abbrev B7v:SS:=⟨(.junk::.junk::.junk::.junk::.t true .bool::E1d),[]⟩
abbrev B8m:SS:=⟨(.junk::.t false tq5::.junk::.junk::.junk::.junk::.junk::.junk::.junk::.junk::.junk::.t false tq3::tI::tI::.junk::.junk::.junk::.junk::.t false tq5::tI::tI::E2s),[]⟩
noncomputable def C00 (x1:Lq2) (x11:Lq1) (x12 x13:Int) (x18:Lq2) (x19 x20:Int) (x24:Lq2) (x25 x26 p0:Int) (p1 p2:ByteArray):RT X5.den:=(.br (decide (x26<x25)) (.br (decide (0≤x26∧x26<(x24.length:Int))) (.br ((((x24.getD x26.toNat ((0:Int),(bE,bE))).2).1).toList==p1.toList) (.done .ret B7v (((),(),(),(),true,u34),())) (.next (((),x1,(),(),(),(),(),(),(),(),(),x11,x12,x13,(),(),(),(),x18,x19,x20,(),(),(),x24,x25,wI (x26+(1:Int)),u12),((p0,p1,p2,()),())))) .fail) (.done (.exit 4) B8m (((),x1,(),(),(),(),(),(),(),(),(),x11,x12,x13,(),(),(),(),x18,x19,x20,u18),())))
abbrev A21:=(Lq2)×Lq1×(Int)×(Int)×Lq2×(Int)×(Int)×Lq2×(Int)×(Int)
abbrev A5s:=Nat×(Bool)×Lq2×Lq1×(Int)×(Int)×Lq2×(Int)×(Int)
def B2i:A5s:=(99,(false:Bool),([]:Lq2),([]:Lq1),((0:Int):Int),((0:Int):Int),([]:Lq2),((0:Int):Int),((0:Int):Int))
noncomputable def A39 (x1:Lq2) (x11:Lq1) (x12 x13:Int) (x18:Lq2) (x19 x20:Int) (x24:Lq2) (x25 x26 p0:Int) (p1 p2:ByteArray):A21 ⊕ A5s:=(cond (decide (x26<x25)) (cond (decide (0≤x26∧x26<(x24.length:Int))) (cond ((((x24.getD x26.toNat ((0:Int),(bE,bE))).2).1).toList==p1.toList) (.inr (0,true,([]:Lq2),([]:Lq1),((0:Int):Int),((0:Int):Int),([]:Lq2),((0:Int):Int),((0:Int):Int))) (.inl (x1,x11,x12,x13,x18,x19,x20,x24,x25,wI (x26+(1:Int))))) (.inr B2i)) (.inr (1,(false:Bool),x1,x11,x12,x13,x18,x19,x20)))
noncomputable def B18 (x1:Lq2) (x11:Lq1) (x12 x13:Int) (x18:Lq2) (x19 x20:Int) (x24:Lq2) (x25 x26 p0:Int) (p1 p2:ByteArray):A5s:=itX (fun v:A21=>A39 v.1 v.2.1 v.2.2.1 v.2.2.2.1 v.2.2.2.2.1 v.2.2.2.2.2.1 v.2.2.2.2.2.2.1 v.2.2.2.2.2.2.2.1 v.2.2.2.2.2.2.2.2.1 v.2.2.2.2.2.2.2.2.2 p0 p1 p2) B2i (x1,x11,x12,x13,x18,x19,x20,x24,x25,x26)
noncomputable def B2g (p0:Int) (p1 p2:ByteArray) (a:A5s):CT:=(.br (a.1==0) (.done .ret B7v (((),(),(),(),a.2.1,u34),())) (.br (a.1==1) (.done (.exit 4) B8m (((),a.2.2.1,(),(),(),(),(),(),(),(),(),a.2.2.2.1,a.2.2.2.2.1,a.2.2.2.2.2.1,(),(),(),(),a.2.2.2.2.2.2.1,a.2.2.2.2.2.2.2.1,a.2.2.2.2.2.2.2.2,u18),())) .fail))
noncomputable def D4I (x1:Lq2) (x11:Lq1) (x12 x13:Int) (x18:Lq2) (x19 x20:Int) (x24:Lq2) (x25 x26 p0:Int) (p1 p2:ByteArray):CT:=(B2g p0 p1 p2) (B18 x1 x11 x12 x13 x18 x19 x20 x24 x25 x26 p0 p1 p2)
noncomputable abbrev A7b {α:Sort _} (f:Lq2→Lq1→Int→Int→Lq2→Int→Int→Lq2→Int→Int→Int→ByteArray→ByteArray→α) (d:X5.den):α:=f d.1.2.1 d.1.2.2.2.2.2.2.2.2.2.2.2.1 d.1.2.2.2.2.2.2.2.2.2.2.2.2.1 d.1.2.2.2.2.2.2.2.2.2.2.2.2.2.1 d.1.2.2.2.2.2.2.2.2.2.2.2.2.2.2.2.2.2.2.1 d.1.2.2.2.2.2.2.2.2.2.2.2.2.2.2.2.2.2.2.2.1 d.1.2.2.2.2.2.2.2.2.2.2.2.2.2.2.2.2.2.2.2.2.1 d.1.2.2.2.2.2.2.2.2.2.2.2.2.2.2.2.2.2.2.2.2.2.2.2.2.1 d.1.2.2.2.2.2.2.2.2.2.2.2.2.2.2.2.2.2.2.2.2.2.2.2.2.2.1 d.1.2.2.2.2.2.2.2.2.2.2.2.2.2.2.2.2.2.2.2.2.2.2.2.2.2.2.1 d.2.1.1 d.2.1.2.1 d.2.1.2.2.1
noncomputable abbrev B2A:X5.den→RT X5.den:=(A7b C00)
noncomputable abbrev C1g (p0:Int) (p1 p2:ByteArray) (v:A21):X5.den:=(((),v.1,(),(),(),(),(),(),(),(),(),v.2.1,v.2.2.1,v.2.2.2.1,(),(),(),(),v.2.2.2.2.1,v.2.2.2.2.2.1,v.2.2.2.2.2.2.1,(),(),(),v.2.2.2.2.2.2.2.1,v.2.2.2.2.2.2.2.2.1,v.2.2.2.2.2.2.2.2.2,u12),((p0,p1,p2,()),()))
theorem D13 (p0:Int) (p1 p2:ByteArray):(∀ v:A21,(C00 v.1 v.2.1 v.2.2.1 v.2.2.2.1 v.2.2.2.2.1 v.2.2.2.2.2.1 v.2.2.2.2.2.2.1 v.2.2.2.2.2.2.2.1 v.2.2.2.2.2.2.2.2.1 v.2.2.2.2.2.2.2.2.2 p0 p1 p2).val=R5 (C1g p0 p1 p2) (B2g p0 p1 p2) (A39 v.1 v.2.1 v.2.2.1 v.2.2.2.1 v.2.2.2.2.1 v.2.2.2.2.2.1 v.2.2.2.2.2.2.1 v.2.2.2.2.2.2.2.1 v.2.2.2.2.2.2.2.2.1 v.2.2.2.2.2.2.2.2.2 p0 p1 p2))∧∀ a:A5s,CEnd X5.den ((B2g p0 p1 p2) a):=⟨fun v=>(B3 (B3 (B3 rfl rfl) rfl) rfl),fun a=>(C5 aCD (C5 aCD K7))⟩
noncomputable def C0E (x1:Lq2) (x11:Lq1) (x12 x13:Int) (x18:Lq2) (x19 x20:Int) (x24:Lq2) (x25 x26 p0:Int) (p1 p2:ByteArray):Option (Ex×St):=(cond (decide (x26<x25)) (cond (decide (0≤x26∧x26<(x24.length:Int))) (cond ((((x24.getD x26.toNat ((0:Int),(bE,bE))).2).1).toList==p1.toList) (some (.ret,(⟨(.junk::.junk::.junk::.junk::(.t true .bool true)::E32),[],0,[]⟩:St))) (some (.normal,(⟨(.junk::(.t false tq5 x1)::.junk::.junk::.junk::.junk::.junk::.junk::(.ptr 0 0 1 0)::.junk::.junk::(.t false tq3 x11)::(ti x12)::(ti x13)::.junk::.junk::.junk::.junk::(.t false tq5 x18)::(ti x19)::(ti x20)::.junk::.junk::.junk::(.t false tq5 x24)::(ti x25)::(ti (wI (x26+(1:Int))))::F1v),[(.box [(ti p0),(.t true .str p1),(.t true .str p2)])],0,[]⟩:St)))) none) (some ((.exit 4),(⟨(.junk::(.t false tq5 x1)::.junk::.junk::.junk::.junk::.junk::.junk::.junk::.junk::.junk::(.t false tq3 x11)::(ti x12)::(ti x13)::.junk::.junk::.junk::.junk::(.t false tq5 x18)::(ti x19)::(ti x20)::E8b),[],0,[]⟩:St))))
theorem C96:RdA G58 aLn 4 B5O X5 0 [] (kepts [4] [(4,[1,11,12,13,18,19,20])]) (A7b C0E):=by
 intro d
 kernel_rfl
theorem D0u:∀ d:X5.den,(A7b C0E) d=(B2A d).opt 0 []:=by
 intro d
 kernel_rfl
noncomputable abbrev B7H:St→Option Tree:=X5.say 0 [] [] (A7b D4I)
theorem D19:aPL B7H B5O:=SS.wp2 hlz [] B2A C96 D0u _ (fun d=>Runs.ofI2 (step:=B2A) (C1g d.2.1.1 d.2.1.2.1 d.2.1.2.2.1) (D13 d.2.1.1 d.2.1.2.1 d.2.1.2.2.1) rfl (d.1.2.1,d.1.2.2.2.2.2.2.2.2.2.2.2.1,d.1.2.2.2.2.2.2.2.2.2.2.2.2.1,d.1.2.2.2.2.2.2.2.2.2.2.2.2.2.1,d.1.2.2.2.2.2.2.2.2.2.2.2.2.2.2.2.2.2.2.1,d.1.2.2.2.2.2.2.2.2.2.2.2.2.2.2.2.2.2.2.2.1,d.1.2.2.2.2.2.2.2.2.2.2.2.2.2.2.2.2.2.2.2.2.1,d.1.2.2.2.2.2.2.2.2.2.2.2.2.2.2.2.2.2.2.2.2.2.2.2.2.1,d.1.2.2.2.2.2.2.2.2.2.2.2.2.2.2.2.2.2.2.2.2.2.2.2.2.2.1,d.1.2.2.2.2.2.2.2.2.2.2.2.2.2.2.2.2.2.2.2.2.2.2.2.2.2.2.1))
abbrev W5:SS:=⟨(.junk::.t false tq5::.junk::.junk::.junk::.junk::.junk::.junk::.junk::.junk::.junk::.t false tq3::tI::tI::.junk::.junk::.junk::.junk::.t false tq5::tI::tI::E2s),[]⟩
abbrev B7t:SS:=⟨(.junk::.junk::.junk::.junk::.t true .bool::E1d),[]⟩
abbrev B8i:SS:=⟨(.junk::.t false tq5::.junk::.junk::.junk::.junk::.junk::.junk::.junk::.junk::.junk::.t false tq3::tI::tI::D8A),[]⟩
noncomputable def B0R (x1:Lq2) (x11:Lq1) (x12 x13:Int) (x18:Lq2) (x19 x20:Int):=let z1:=x18.getD x20.toNat ((0:Int),(bE,bE));B18 x1 x11 x12 x13 x18 x19 x20 x1 (x1.length:Int) (0:Int) (z1.1) ((z1.2).1) ((z1.2).2)
noncomputable def C05 (x1:Lq2) (x11:Lq1) (x12 x13:Int) (x18:Lq2) (x19 x20:Int):RT W5.den:=let z1:=B0R x1 x11 x12 x13 x18 x19 x20;(.br (decide (x20<x19)) (.br (decide (0≤x20∧x20<(x18.length:Int))) (.br (z1.1==0) (.done .ret B7t (((),(),(),(),(z1.2.1),u34),())) (.br (z1.1==1) (.next (((),(z1.2.2.1),(),(),(),(),(),(),(),(),(),(z1.2.2.2.1),(z1.2.2.2.2.1),(z1.2.2.2.2.2.1),(),(),(),(),(z1.2.2.2.2.2.2.1),(z1.2.2.2.2.2.2.2.1),wI ((z1.2.2.2.2.2.2.2.2)+(1:Int)),u18),())) .fail)) .fail) (.done (.exit 2) B8i (((),x1,(),(),(),(),(),(),(),(),(),x11,x12,x13,u25),())))
abbrev A2Y:=(Lq2)×Lq1×(Int)×(Int)×Lq2×(Int)×(Int)
abbrev A5Z:=Nat×(Bool)×Lq2×Lq1×(Int)×(Int)
def A7m:A5Z:=(99,(false:Bool),([]:Lq2),([]:Lq1),((0:Int):Int),((0:Int):Int))
noncomputable def A4i (x1:Lq2) (x11:Lq1) (x12 x13:Int) (x18:Lq2) (x19 x20:Int):A2Y ⊕ A5Z:=let z1:=B0R x1 x11 x12 x13 x18 x19 x20;(cond (decide (x20<x19)) (cond (decide (0≤x20∧x20<(x18.length:Int))) (cond (z1.1==0) (.inr (0,(z1.2.1),([]:Lq2),([]:Lq1),((0:Int):Int),((0:Int):Int))) (cond (z1.1==1) (.inl ((z1.2.2.1),(z1.2.2.2.1),(z1.2.2.2.2.1),(z1.2.2.2.2.2.1),(z1.2.2.2.2.2.2.1),(z1.2.2.2.2.2.2.2.1),wI ((z1.2.2.2.2.2.2.2.2)+(1:Int)))) (.inr A7m))) (.inr A7m)) (.inr (1,(false:Bool),x1,x11,x12,x13)))
noncomputable def B2K (x1:Lq2) (x11:Lq1) (x12 x13:Int) (x18:Lq2) (x19 x20:Int):A5Z:=itX (fun v:A2Y=>A4i v.1 v.2.1 v.2.2.1 v.2.2.2.1 v.2.2.2.2.1 v.2.2.2.2.2.1 v.2.2.2.2.2.2) A7m (x1,x11,x12,x13,x18,x19,x20)
noncomputable def B2y (a:A5Z):CT:=(.br (a.1==0) (.done .ret B7t (((),(),(),(),a.2.1,u34),())) (.br (a.1==1) (.done (.exit 2) B8i (((),a.2.2.1,(),(),(),(),(),(),(),(),(),a.2.2.2.1,a.2.2.2.2.1,a.2.2.2.2.2,u25),())) .fail))
noncomputable def D3R (x1:Lq2) (x11:Lq1) (x12 x13:Int) (x18:Lq2) (x19 x20:Int):CT:=B2y (B2K x1 x11 x12 x13 x18 x19 x20)
noncomputable abbrev A7h {α:Sort _} (f:Lq2→Lq1→Int→Int→Lq2→Int→Int→α) (d:W5.den):α:=f d.1.2.1 d.1.2.2.2.2.2.2.2.2.2.2.2.1 d.1.2.2.2.2.2.2.2.2.2.2.2.2.1 d.1.2.2.2.2.2.2.2.2.2.2.2.2.2.1 d.1.2.2.2.2.2.2.2.2.2.2.2.2.2.2.2.2.2.2.1 d.1.2.2.2.2.2.2.2.2.2.2.2.2.2.2.2.2.2.2.2.1 d.1.2.2.2.2.2.2.2.2.2.2.2.2.2.2.2.2.2.2.2.2.1
noncomputable abbrev B2c:W5.den→RT W5.den:=(A7h C05)
noncomputable abbrev C0N (v:A2Y):W5.den:=(((),v.1,(),(),(),(),(),(),(),(),(),v.2.1,v.2.2.1,v.2.2.2.1,(),(),(),(),v.2.2.2.2.1,v.2.2.2.2.2.1,v.2.2.2.2.2.2,u18),())
theorem D2f:(∀ v:A2Y,(C05 v.1 v.2.1 v.2.2.1 v.2.2.2.1 v.2.2.2.2.1 v.2.2.2.2.2.1 v.2.2.2.2.2.2).val=R5 C0N B2y (A4i v.1 v.2.1 v.2.2.1 v.2.2.2.1 v.2.2.2.2.1 v.2.2.2.2.2.1 v.2.2.2.2.2.2))∧∀ a:A5Z,CEnd W5.den (B2y a):=⟨fun v=>(B3 (B3 (B3 rfl (B3 rfl rfl)) rfl) rfl),fun a=>(C5 aCD (C5 aCD K7))⟩
noncomputable abbrev D3P:Nat→St→Option Tree:=fun b=>match b with | 4=>B7H | _=>fun _=>none
noncomputable def C1q (x1:Lq2) (x11:Lq1) (x12 x13:Int) (x18:Lq2) (x19 x20:Int):Option (Ex×St):=let z1:=B0R x1 x11 x12 x13 x18 x19 x20;(cond (decide (x20<x19)) (cond (decide (0≤x20∧x20<(x18.length:Int))) (cond (z1.1==0) (some (.ret,(⟨(.junk::.junk::.junk::.junk::(.t true .bool (z1.2.1))::E32),[],0,[]⟩:St))) (cond (z1.1==1) (some (.normal,(⟨(.junk::(.t false tq5 (z1.2.2.1))::.junk::.junk::.junk::.junk::.junk::.junk::.junk::.junk::.junk::(.t false tq3 (z1.2.2.2.1))::(ti (z1.2.2.2.2.1))::(ti (z1.2.2.2.2.2.1))::.junk::.junk::.junk::.junk::(.t false tq5 (z1.2.2.2.2.2.2.1))::(ti (z1.2.2.2.2.2.2.2.1))::(ti (wI ((z1.2.2.2.2.2.2.2.2)+(1:Int))))::E8b),[],0,[]⟩:St))) none)) none) (some ((.exit 2),(⟨(.junk::(.t false tq5 x1)::.junk::.junk::.junk::.junk::.junk::.junk::.junk::.junk::.junk::(.t false tq3 x11)::(ti x12)::(ti x13)::E6z),[],0,[]⟩:St))))
theorem C9y:RdA G58 (D3P) 2 A9R W5 0 [] (kepts [4] [(2,[1,11,12,13])]) (A7h C1q):=by
 intro d
 kernel_rfl
theorem D0A:∀ d:W5.den,(A7h C1q) d=(B2c d).opt 0 []:=by
 intro d
 kernel_rfl
noncomputable abbrev B7y:St→Option Tree:=W5.say 0 [] [] (A7h D3R)
theorem D2m:aPL B7y A9R:=SS.wp2 (hl1 (i:=4) (by kernel_rfl) D19) [] B2c C9y D0A _ (fun d=>Runs.ofI2 (step:=B2c) C0N D2f rfl (d.1.2.1,d.1.2.2.2.2.2.2.2.2.2.2.2.1,d.1.2.2.2.2.2.2.2.2.2.2.2.2.1,d.1.2.2.2.2.2.2.2.2.2.2.2.2.2.1,d.1.2.2.2.2.2.2.2.2.2.2.2.2.2.2.2.2.2.2.1,d.1.2.2.2.2.2.2.2.2.2.2.2.2.2.2.2.2.2.2.2.1,d.1.2.2.2.2.2.2.2.2.2.2.2.2.2.2.2.2.2.2.2.2.1))
abbrev X4:SS:=⟨(.junk::.t false tq5::.junk::.junk::.junk::.junk::.junk::.junk::.junk::.junk::.junk::.t false tq3::tI::tI::D8A),[]⟩
abbrev B79:SS:=⟨(.junk::.junk::.junk::.junk::.t true .bool::E1d),[]⟩
abbrev B7I:SS:=⟨(.junk::E8g),[]⟩
noncomputable def B0I (x1:Lq2) (x11:Lq1) (x12 x13:Int):=let z1:=((x11.getD x13.toNat ((0:Int),((0:Int),[]))).2).2;B2K x1 x11 x12 x13 z1 ((z1.length:Nat):Int) (0:Int)
noncomputable def C1o (x1:Lq2) (x11:Lq1) (x12 x13:Int):RT X4.den:=let z1:=B0I x1 x11 x12 x13;(.br (decide (x13<x12)) (.br (decide (0≤x13∧x13<(x11.length:Int))) (.br (z1.1==0) (.done .ret B79 (((),(),(),(),(z1.2.1),u34),())) (.br (z1.1==1) (.next (((),(z1.2.2.1),(),(),(),(),(),(),(),(),(),(z1.2.2.2.1),(z1.2.2.2.2.1),wI ((z1.2.2.2.2.2)+(1:Int)),u25),())) .fail)) .fail) (.done (.exit 0) B7I ((u39),())))
abbrev A28:=(Lq2)×Lq1×(Int)×(Int)
abbrev A5K:=Nat×(Bool)
def A7o:A5K:=(99,(false:Bool))
noncomputable def A4l (x1:Lq2) (x11:Lq1) (x12 x13:Int):A28 ⊕ A5K:=let z1:=B0I x1 x11 x12 x13;(cond (decide (x13<x12)) (cond (decide (0≤x13∧x13<(x11.length:Int))) (cond (z1.1==0) (.inr (0,(z1.2.1))) (cond (z1.1==1) (.inl ((z1.2.2.1),(z1.2.2.2.1),(z1.2.2.2.2.1),wI ((z1.2.2.2.2.2)+(1:Int)))) (.inr A7o))) (.inr A7o)) (.inr (1,(false:Bool))))
noncomputable def A3Z (x1:Lq2) (x11:Lq1) (x12 x13:Int):A5K:=itX (fun v:A28=>A4l v.1 v.2.1 v.2.2.1 v.2.2.2) A7o (x1,x11,x12,x13)
noncomputable def B2I (a:A5K):CT:=(.br (a.1==0) (.done .ret B79 (((),(),(),(),a.2,u34),())) (.br (a.1==1) (.done (.exit 0) B7I ((u39),())) .fail))
noncomputable def D5n (x1:Lq2) (x11:Lq1) (x12 x13:Int):CT:=B2I (A3Z x1 x11 x12 x13)
noncomputable abbrev A7q {α:Sort _} (f:Lq2→Lq1→Int→Int→α) (d:X4.den):α:=f d.1.2.1 d.1.2.2.2.2.2.2.2.2.2.2.2.1 d.1.2.2.2.2.2.2.2.2.2.2.2.2.1 d.1.2.2.2.2.2.2.2.2.2.2.2.2.2.1
noncomputable abbrev B2k:X4.den→RT X4.den:=(A7q C1o)
noncomputable abbrev C1l (v:A28):X4.den:=(((),v.1,(),(),(),(),(),(),(),(),(),v.2.1,v.2.2.1,v.2.2.2,u25),())
theorem D2l:(∀ v:A28,(C1o v.1 v.2.1 v.2.2.1 v.2.2.2).val=R5 C1l B2I (A4l v.1 v.2.1 v.2.2.1 v.2.2.2))∧∀ a:A5K,CEnd X4.den (B2I a):=⟨fun v=>(B3 (B3 (B3 rfl (B3 rfl rfl)) rfl) rfl),fun a=>(C5 aCD (C5 aCD K7))⟩
noncomputable abbrev D5z:Nat→St→Option Tree:=fun b=>match b with | 2=>B7y | _=>fun _=>none
noncomputable def C0P (x1:Lq2) (x11:Lq1) (x12 x13:Int):Option (Ex×St):=let z1:=B0I x1 x11 x12 x13;(cond (decide (x13<x12)) (cond (decide (0≤x13∧x13<(x11.length:Int))) (cond (z1.1==0) (some (.ret,(⟨(.junk::.junk::.junk::.junk::(.t true .bool (z1.2.1))::E32),[],0,[]⟩:St))) (cond (z1.1==1) (some (.normal,(⟨(.junk::(.t false tq5 (z1.2.2.1))::.junk::.junk::.junk::.junk::.junk::.junk::.junk::.junk::.junk::(.t false tq3 (z1.2.2.2.1))::(ti (z1.2.2.2.2.1))::(ti (wI ((z1.2.2.2.2.2)+(1:Int))))::E6z),[],0,[]⟩:St))) none)) none) (some ((.exit 0),(⟨(.junk::E9q),[],0,[]⟩:St))))
theorem D0e:RdA G58 (D5z) 0 A8P X4 0 [] (kepts [4] [(0,[])]) (A7q C0P):=by
 intro d
 kernel_rfl
theorem C9O:∀ d:X4.den,(A7q C0P) d=(B2k d).opt 0 []:=by
 intro d
 kernel_rfl
noncomputable abbrev B78:St→Option Tree:=X4.say 0 [] [] (A7q D5n)
theorem D16:aPL B78 A8P:=SS.wp2 (hl1 (i:=2) (by kernel_rfl) D2m) [] B2k D0e C9O _ (fun d=>Runs.ofI2 (step:=B2k) C1l D2l rfl (d.1.2.1,d.1.2.2.2.2.2.2.2.2.2.2.2.1,d.1.2.2.2.2.2.2.2.2.2.2.2.2.1,d.1.2.2.2.2.2.2.2.2.2.2.2.2.2.1))
noncomputable def A09 (a0:Lq1) (a1:Lq2):Bool:=let z1:=A3Z a1 a0 (a0.length:Int) (0:Int);(cond (z1.1==0) (z1.2) false)
noncomputable abbrev B3q (r:Bool):AV×List AObj:=((.t true .bool r),[])
noncomputable abbrev B9l:A1 A9Q→AV×List AObj:=fun d=>B3q (A09 d.1 d.2.1)
noncomputable def X6 (a0:Lq1) (a1:Lq2):Bool:=let z1:=A3Z a1 a0 (a0.length:Int) (0:Int);cond (z1.1==0) true (z1.1==1)
noncomputable abbrev B4B:A1 A9Q→Bool:=fun d=>X6 d.1 d.2.1
noncomputable abbrev D9k:Nat→St→Option Tree:=fun b=>match b with | 0=>B78 | _=>fun _=>none
theorem D4X:N0 true G58 (D9k) Tryz.f83 A9Q B4B B9l:=by
 rintro ⟨a0,⟨a1,_⟩⟩ hp
 change X6 a0 a1=true at hp
 unfold X6 at hp
 refine Eq.trans (b:=(let z1:=A3Z a1 a0 (a0.length:Int) (0:Int);cond (z1.1==0) (some (B3q (z1.2))) (cond (z1.1==1) (some (B3q false)) none))) (by kernel_rfl) ?_
 exact (A9 B3q hp (fun hp=>rfl) (fun hp=>(B7 hp fun _h=>rfl)))
theorem D8u:aPP 83 (A7 A9Q B4B B9l):=pcD true G58 (hl1 (i:=0) (by kernel_rfl) D16) D4X
noncomputable def S59:Tab:=Tab.add S58 83 (lift (A7 A9Q B4B B9l))
noncomputable def F2v:FuncId→Bool:=qadd F25 83
theorem G59:aPG S59 F2v:=G58.addQ D8u (cbl Tryz.f83) (fun _=>rfl)

abbrev B3n:SS:=⟨[.agg [.t true .str,.t true .str],.ptr 0 0 1 0],[.box [.t true .str]]⟩
noncomputable def D0o (x0_0 x0_1 p0:ByteArray):Bool:=(x0_0.toList==p0.toList)
noncomputable abbrev E3q (p0:ByteArray) (r:Bool):AV×List AObj×List Nat:=((.t true .bool r),[(.box [(.t true .str p0)])],[])
noncomputable abbrev D1F:B3n.den→AV×List AObj×List Nat:=fun d=>E3q d.2.1.1 (D0o d.1.1.1 d.1.1.2.1 d.2.1.1)
noncomputable abbrev C5l:B3n.den→Bool:=fun d=>true
theorem D7d:B0e G59 aLn Tryz.f141 B3n C5l D1F:=by
 rintro ⟨⟨⟨x0_0,x0_1,_⟩,_,_⟩,⟨⟨p0,_⟩,_⟩⟩ hp
 kernel_rfl
noncomputable abbrev D0Q:=winQ (msum B3n C5l D1F)
theorem E2d:aPM 141 D0Q:=(mcM G59 hlz D7d).winQ (A2F fun d=>⟨rfl,rfl⟩)
noncomputable def S60:Tab:=Tab.add S59 141 (D0Q)
noncomputable def F18:FuncId→Bool:=qadd F2v 141
theorem G60:aPG S60 F18:=G59.addMQ E2d (A1Q _) (cbl Tryz.f141) (A04 _)

abbrev E81:List Sh:=.junk::.junk::.junk::.junk::.junk::.junk::.junk::.junk::.junk::.junk::[]
abbrev u11:=((),(),(),(),(),(),(),(),(),(),())
abbrev M6:SS:=⟨[.t false tq8,.fn 141 [0]],[.box [.t true .str]]⟩
abbrev C2:SS:=⟨(.t false tq8::.fn 141 [0]::.junk::.junk::.junk::.junk::.junk::tI::tI::E81),[.box [.t true .str]]⟩
abbrev A0J:SS:=⟨(.junk::.junk::.junk::.junk::tI::D52),[.box [.t true .str]]⟩
abbrev A0w:SS:=⟨(.junk::E4j),[.box [.t true .str]]⟩
noncomputable def T6 (x0:LBBe) (x8:Int) (p0:ByteArray):=let z1:=x0.getD x8.toNat (bE,bE);D0o (z1.1) (z1.2) p0
noncomputable def A0T (x0:LBBe) (x7 x8:Int) (p0:ByteArray):RT C2.den:=(.br (decide (x8<x7)) (.br (decide (0≤x8∧x8<(x0.length:Int))) (.br (T6 x0 x8 p0) (.done .ret A0J (((),(),(),(),x8,u15),((p0,()),()))) (.next ((x0,(),(),(),(),(),(),x7,wI (x8+(1:Int)),u11),((p0,()),())))) .fail) (.done (.exit 0) A0w ((u20),((p0,()),()))))
abbrev F6:=(LBBe)×(Int)×(Int)
abbrev F4:=Nat×(Int)
def R3:F4:=(99,((0:Int):Int))
noncomputable def J5 (x0:LBBe) (x7 x8:Int) (p0:ByteArray):F6 ⊕ F4:=(cond (decide (x8<x7)) (cond (decide (0≤x8∧x8<(x0.length:Int))) (cond (T6 x0 x8 p0) (.inr (0,x8)) (.inl (x0,x7,wI (x8+(1:Int))))) (.inr R3)) (.inr (1,((0:Int):Int))))
noncomputable def J6 (x0:LBBe) (x7 x8:Int) (p0:ByteArray):F4:=itX (fun v:F6=>J5 v.1 v.2.1 v.2.2 p0) R3 (x0,x7,x8)
noncomputable def Q5 (p0:ByteArray) (a:F4):CT:=(.br (a.1==0) (.done .ret A0J (((),(),(),(),a.2,u15),((p0,()),()))) (.br (a.1==1) (.done (.exit 0) A0w ((u20),((p0,()),()))) .fail))
noncomputable def A6C (x0:LBBe) (x7 x8:Int) (p0:ByteArray):CT:=(Q5 p0) (J6 x0 x7 x8 p0)
noncomputable abbrev A0U {α:Sort _} (f:LBBe→Int→Int→ByteArray→α) (d:C2.den):α:=f d.1.1 d.1.2.2.2.2.2.2.2.1 d.1.2.2.2.2.2.2.2.2.1 d.2.1.1
noncomputable abbrev Q6:C2.den→RT C2.den:=(A0U A0T)
noncomputable def A0d:Code:=((A6 0 (B4 Tryz.f140)).getD 0 (0,.skip)).2
noncomputable abbrev A0O (p0:ByteArray) (v:F6):C2.den:=((v.1,(),(),(),(),(),(),v.2.1,v.2.2,u11),((p0,()),()))
theorem A6q (p0:ByteArray):(∀ v:F6,(A0T v.1 v.2.1 v.2.2 p0).val=R5 (A0O p0) (Q5 p0) (J5 v.1 v.2.1 v.2.2 p0))∧∀ a:F4,CEnd C2.den ((Q5 p0) a):=⟨fun v=>(B3 (B3 (B3 rfl rfl) rfl) rfl),fun a=>(C5 aCD (C5 aCD K7))⟩
theorem A5x:RdA G60 aLn 0 A0d C2 1 [] (kepts [4] [(0,[])]) (fun d=>(Q6 d).opt 1 []):=by
 intro d
 kernel_rfl
noncomputable abbrev A0x:St→Option Tree:=C2.say 1 [] [] (A0U A6C)
theorem A6n:aPL A0x A0d:=SS.wp2 hlz [] Q6 A5x (fun d=>rfl) _ (fun d=>Runs.ofI2 (step:=Q6) (A0O d.2.1.1) (A6q d.2.1.1) rfl (d.1.1,d.1.2.2.2.2.2.2.2.1,d.1.2.2.2.2.2.2.2.2.1))
noncomputable def P2 (x0:LBBe) (p0:ByteArray):Int:=let z1:=J6 x0 (x0.length:Int) (0:Int) p0;(cond (z1.1==0) (z1.2) (-1:Int))
noncomputable abbrev O0 (p0:ByteArray) (r:Int):AV×List AObj×List Nat:=((ti r),[(.box [(.t true .str p0)])],[])
noncomputable abbrev A1N:M6.den→AV×List AObj×List Nat:=fun d=>O0 d.2.1.1 (P2 d.1.1 d.2.1.1)
noncomputable def I4 (x0:LBBe) (p0:ByteArray):Bool:=let z1:=J6 x0 (x0.length:Int) (0:Int) p0;cond (z1.1==0) true (z1.1==1)
noncomputable abbrev A1c:M6.den→Bool:=fun d=>I4 d.1.1 d.2.1.1
noncomputable abbrev A7s:Nat→St→Option Tree:=fun b=>match b with | 0=>A0x | _=>fun _=>none
theorem A6y:B0e G60 (A7s) Tryz.f140 M6 A1c A1N:=by
 rintro ⟨⟨x0,_,_⟩,⟨⟨p0,_⟩,_⟩⟩ hp
 change I4 x0 p0=true at hp
 unfold I4 at hp
 refine Eq.trans (b:=(let z1:=J6 x0 (x0.length:Int) (0:Int) p0;cond (z1.1==0) (some (O0 p0 (z1.2))) (cond (z1.1==1) (some (O0 p0 (-1:Int))) none))) (by kernel_rfl) ?_
 exact (A9 (O0 p0) hp (fun hp=>rfl) (fun hp=>(B7 hp fun _h=>rfl)))
noncomputable abbrev U8:=winQ (msum M6 A1c A1N)
theorem A11:aPM 140 U8:=(mcM G60 (hl1 (i:=0) (by kernel_rfl) A6n) A6y).winQ (A2F fun d=>⟨rfl,rfl⟩)
noncomputable def S61:Tab:=Tab.add S60 140 (U8)
noncomputable def F30:FuncId→Bool:=qadd F18 140
theorem G61:aPG S61 F30:=G60.addMQ A11 (A1Q _) (cbl Tryz.f140) (A04 _)

abbrev B7r:List PSh:=[.t tq8,.t .str]
noncomputable def B05 (a0:LBBe) (a1:ByteArray):Int:=(P2 a0 a1)
noncomputable abbrev D7N (r:Int):AV×List AObj:=((ti r),[])
noncomputable abbrev C9Y:A1 B7r→AV×List AObj:=fun d=>D7N (B05 d.1 d.2.1)
noncomputable def A6i (a0:LBBe) (a1:ByteArray):Bool:=I4 a0 a1
noncomputable abbrev C3Q:A1 B7r→Bool:=fun d=>A6i d.1 d.2.1
theorem E19:N0 true G61 aLn Tryz.f124 B7r C3Q C9Y:=by
 rintro ⟨a0,⟨a1,_⟩⟩ hp
 change A6i a0 a1=true at hp
 unfold A6i at hp
 refine Eq.trans (b:=(cond (I4 a0 a1) (some (D7N (P2 a0 a1))) none)) (by kernel_rfl) ?_
 exact (B7 hp fun _h=>rfl)
theorem E5T:aPP 124 (A7 B7r C3Q C9Y):=pcD true G61 hlz E19
noncomputable def S62:Tab:=Tab.add S61 124 (lift (A7 B7r C3Q C9Y))
noncomputable def F3F:FuncId→Bool:=qadd F30 124
theorem G62:aPG S62 F3F:=G61.addQ E5T (cbl Tryz.f124) (fun _=>rfl)

abbrev B8a:List PSh:=[.t tq8,.t .str]
noncomputable def C8n (a0:LBBe) (a1:ByteArray):ByteArray×Bool:=(cond (decide ((B05 a0 a1)<(0:Int))) (bE,false) ((a0.getD ((B05 a0 a1).toNat) (bE,bE)).2,true))
noncomputable abbrev C4y (r:ByteArray×Bool):AV×List AObj:=((.tup [(.t true .str r.1),(.t true .bool r.2)]),[])
noncomputable abbrev C9C:A1 B8a→AV×List AObj:=fun d=>C4y (C8n d.1 d.2.1)
noncomputable def A7U (a0:LBBe) (a1:ByteArray):Bool:=let z1:=B05 a0 a1;(A6i a0 a1)&&(cond (decide (z1<(0:Int))) true (decide (0≤z1∧z1<(a0.length:Int))))
noncomputable abbrev C3J:A1 B8a→Bool:=fun d=>A7U d.1 d.2.1
theorem E1l:N0 true G62 aLn Tryz.f109 B8a C3J C9C:=by
 rintro ⟨a0,⟨a1,_⟩⟩ hp
 change A7U a0 a1=true at hp
 unfold A7U at hp
 refine Eq.trans (b:=(let z1:=B05 a0 a1;cond (A6i a0 a1) (cond (decide (z1<(0:Int))) (some (C4y ((⟨#[]⟩:ByteArray),false))) (cond (decide (0≤z1∧z1<(a0.length:Int))) (some (C4y ((a0.getD (z1.toNat) ((⟨#[]⟩:ByteArray),(⟨#[]⟩:ByteArray))).2,true))) none)) none)) (by kernel_rfl) ?_
 exact (B2 hp fun hp=>(A9 C4y hp (fun hp=>rfl) (fun hp=>(B7 hp fun _h=>rfl))))
theorem E6T:aPP 109 (A7 B8a C3J C9C):=pcD true G62 hlz E1l
noncomputable def S63:Tab:=Tab.add S62 109 (lift (A7 B8a C3J C9C))
noncomputable def F3g:FuncId→Bool:=qadd F3F 109
theorem G63:aPG S63 F3g:=G62.addQ E6T (cbl Tryz.f109) (fun _=>rfl)

abbrev D7e:List Sh:=.junk::D8A
abbrev F4W:List Sh:=.junk::E9p
abbrev u33:=((),u32)
abbrev F0b:List AV:=.junk::E6z
abbrev F4G:List AV:=.junk::E8U
abbrev C2D:List PSh:=[.t tq8,.t tq5]
abbrev A3L:SS:=⟨(.t false tq8::.junk::.junk::.junk::.junk::.junk::.junk::.junk::.junk::.t false tq5::tI::tI::D7e),[]⟩
abbrev B9I:SS:=⟨(.junk::.junk::.junk::.junk::.t true .bool::F4W),[]⟩
abbrev C72:SS:=⟨(.junk::E9E),[]⟩
noncomputable def C4m (x0:LBBe) (x9:Lq2) (x11:Int):=C8n x0 (((x9.getD x11.toNat ((0:Int),(bE,bE))).2).1)
noncomputable def D1X (x0:LBBe) (x9:Lq2) (x10 x11:Int):RT A3L.den:=let z1:=x9.getD x11.toNat ((0:Int),(bE,bE));let z2:=C4m x0 x9 x11;(.br (decide (x11<x10)) (.br (decide (0≤x11∧x11<(x9.length:Int))) (.br ((z1.1) != (3:Int)) (.next ((x0,(),(),(),(),(),(),(),(),x9,x10,wI (x11+(1:Int)),u26),())) (.br (A7U x0 ((z1.2).1)) (.br (!((z2.2)==(!(((z1.2).2).toList==bE.toList)))) (.done .ret B9I (((),(),(),(),false,u33),())) (.br (!((z2.1).toList==((z1.2).2).toList)) (.done .ret B9I (((),(),(),(),false,u33),())) (.next ((x0,(),(),(),(),(),(),(),(),x9,x10,wI (x11+(1:Int)),u26),())))) .fail)) .fail) (.done (.exit 0) C72 ((u38),())))
abbrev A99:=(LBBe)×Lq2×(Int)×(Int)
abbrev B5p:=Nat×(Bool)
def B53:B5p:=(99,(false:Bool))
noncomputable def B1W (x0:LBBe) (x9:Lq2) (x10 x11:Int):A99 ⊕ B5p:=let z1:=x9.getD x11.toNat ((0:Int),(bE,bE));let z2:=C4m x0 x9 x11;(cond (decide (x11<x10)) (cond (decide (0≤x11∧x11<(x9.length:Int))) (cond ((z1.1) != (3:Int)) (.inl (x0,x9,x10,wI (x11+(1:Int)))) (cond (A7U x0 ((z1.2).1)) (cond (!((z2.2)==(!(((z1.2).2).toList==bE.toList)))) (.inr (0,false)) (cond (!((z2.1).toList==((z1.2).2).toList)) (.inr (0,false)) (.inl (x0,x9,x10,wI (x11+(1:Int)))))) (.inr B53))) (.inr B53)) (.inr (1,(false:Bool))))
noncomputable def B1q (x0:LBBe) (x9:Lq2) (x10 x11:Int):B5p:=itX (fun v:A99=>B1W v.1 v.2.1 v.2.2.1 v.2.2.2) B53 (x0,x9,x10,x11)
noncomputable def C28 (a:B5p):CT:=(.br (a.1==0) (.done .ret B9I (((),(),(),(),a.2,u33),())) (.br (a.1==1) (.done (.exit 0) C72 ((u38),())) .fail))
noncomputable def E3N (x0:LBBe) (x9:Lq2) (x10 x11:Int):CT:=C28 (B1q x0 x9 x10 x11)
noncomputable abbrev B6x {α:Sort _} (f:LBBe→Lq2→Int→Int→α) (d:A3L.den):α:=f d.1.1 d.1.2.2.2.2.2.2.2.2.2.1 d.1.2.2.2.2.2.2.2.2.2.2.1 d.1.2.2.2.2.2.2.2.2.2.2.2.1
noncomputable abbrev C2j:A3L.den→RT A3L.den:=(B6x D1X)
noncomputable def C5j:Code:=((A6 0 (B4 Tryz.f84)).getD 0 (0,.skip)).2
noncomputable abbrev D0T (v:A99):A3L.den:=((v.1,(),(),(),(),(),(),(),(),v.2.1,v.2.2.1,v.2.2.2,u26),())
theorem E2H:(∀ v:A99,(D1X v.1 v.2.1 v.2.2.1 v.2.2.2).val=R5 D0T C28 (B1W v.1 v.2.1 v.2.2.1 v.2.2.2))∧∀ a:B5p,CEnd A3L.den (C28 a):=⟨fun v=>by repeat' first | apply B3 | rfl,fun a=>(C5 aCD (C5 aCD K7))⟩
noncomputable def D1d (x0:LBBe) (x9:Lq2) (x10 x11:Int):Option (Ex×St):=let z1:=(⟨((.t false tq8 x0)::.junk::.junk::.junk::.junk::.junk::.junk::.junk::.junk::(.t false tq5 x9)::(ti x10)::(ti (wI (x11+(1:Int))))::F0b),[],0,[]⟩:St);let z2:=x9.getD x11.toNat ((0:Int),(bE,bE));let z3:=(⟨(.junk::.junk::.junk::.junk::(.t true .bool false)::F4G),[],0,[]⟩:St);let z4:=C4m x0 x9 x11;(cond (decide (x11<x10)) (cond (decide (0≤x11∧x11<(x9.length:Int))) (cond ((z2.1) != (3:Int)) (some (.normal,z1)) (cond (A7U x0 ((z2.2).1)) (cond (!((z4.2)==(!(((z2.2).2).toList==bE.toList)))) (some (.ret,z3)) (cond (!((z4.1).toList==((z2.2).2).toList)) (some (.ret,z3)) (some (.normal,z1)))) none)) none) (some ((.exit 0),(⟨(.junk::E7G),[],0,[]⟩:St))))
theorem D8J:RdA G63 aLn 0 C5j A3L 0 [] (kepts [4] [(0,[])]) (B6x D1d):=by
 intro d
 kernel_rfl
theorem D8D:∀ d:A3L.den,(B6x D1d) d=(C2j d).opt 0 []:=by
 intro d
 kernel_rfl
noncomputable abbrev C7r:St→Option Tree:=A3L.say 0 [] [] (B6x E3N)
theorem E26:aPL C7r C5j:=SS.wp2 hlz [] C2j D8J D8D _ (fun d=>Runs.ofI2 (step:=C2j) D0T E2H rfl (d.1.1,d.1.2.2.2.2.2.2.2.2.2.1,d.1.2.2.2.2.2.2.2.2.2.2.1,d.1.2.2.2.2.2.2.2.2.2.2.2.1))
noncomputable def B2b (a0:LBBe) (a1:Lq2):Bool:=let z1:=B1q a0 a1 (a1.length:Int) (0:Int);(cond (z1.1==0) (z1.2) true)
noncomputable abbrev C74 (r:Bool):AV×List AObj:=((.t true .bool r),[])
noncomputable abbrev D3E:A1 C2D→AV×List AObj:=fun d=>C74 (B2b d.1 d.2.1)
noncomputable def A43 (a0:LBBe) (a1:Lq2):Bool:=let z1:=B1q a0 a1 (a1.length:Int) (0:Int);cond (z1.1==0) true (z1.1==1)
noncomputable abbrev C55:A1 C2D→Bool:=fun d=>A43 d.1 d.2.1
noncomputable abbrev E7C:Nat→St→Option Tree:=fun b=>match b with | 0=>C7r | _=>fun _=>none
theorem E3x:N0 true G63 (E7C) Tryz.f84 C2D C55 D3E:=by
 rintro ⟨a0,⟨a1,_⟩⟩ hp
 change A43 a0 a1=true at hp
 unfold A43 at hp
 refine Eq.trans (b:=(let z1:=B1q a0 a1 (a1.length:Int) (0:Int);cond (z1.1==0) (some (C74 (z1.2))) (cond (z1.1==1) (some (C74 true)) none))) (by kernel_rfl) ?_
 exact (A9 C74 hp (fun hp=>rfl) (fun hp=>(B7 hp fun _h=>rfl)))
theorem E8l:aPP 84 (A7 C2D C55 D3E):=pcD true G63 (hl1 (i:=0) (by kernel_rfl) E26) E3x
noncomputable def S64:Tab:=Tab.add S63 84 (lift (A7 C2D C55 D3E))
noncomputable def F1B:FuncId→Bool:=qadd F3g 84
theorem G64:aPG S64 F1B:=G63.addQ E8l (cbl Tryz.f84) (fun _=>rfl)

section
open Go.Proofs Go.Lib
theorem iT0:∀ w,(isAgg 0).run Tryz.prog w=.ok false w:=fun w=>by kernel_rfl
theorem iT3:∀ w,(isAgg 3).run Tryz.prog w=.ok false w:=fun w=>by kernel_rfl
theorem E7n:∀ w,(Go.sizeOf 50).run Tryz.prog w=.ok 2 w:=fun w=>by kernel_rfl
theorem E9R:∀ w,(Go.sizeOf 25).run Tryz.prog w=.ok 1 w:=fun w=>by kernel_rfl
theorem E91:∀ w,(zeroValue 25).run Tryz.prog w=.ok (Value.slice none 0 0) w:=fun w=>by kernel_rfl
theorem E9b:(Tryz.prog.info? 50).map (fun i=>(i.zero,i.size,i.bytes))=some (some (Value.agg #[.string ⟨#[]⟩,.string ⟨#[]⟩]),2,32):=by kernel_rfl
theorem C8U:Tryz.f125.ntmps=95:=by kernel_rfl

set_option maxHeartbeats 4000000 in
set_option maxRecDepth 100000 in
theorem E6q (b n c i vb voff m vc:Nat) (cs vs:List Value) (w:World) (hi:i<n) (hm:0<m) (hroom:n+m≤c) (hc63:c≤9223372036854775807) (hvb:vb ≠ b)
  (hcl:cs.length=n*2) (hvl:vs.length=m*2)
  (hcs:∀ j v,cs[j]? = some v→w.cell? ⟨b,j,none⟩=some v) (hsp:∀ j,j<(n+m)*2→(w.cell? ⟨b,j,none⟩).isSome=true) (hfz:∀ j,j<(n+m)*2→w.frozen? ⟨b,j,none⟩=false)
  (hvs:∀ j v,vs[j]? = some v→w.cell? ⟨vb,voff+j,none⟩=some v) (h1c:∀ v∈cs,v.oneCell'=true) (h1v:∀ v∈vs,v.oneCell'=true)
  (tA tB:TypeId) (kA kB:Nat) (hsa:w.shape? vb=some (tA,kA)) (hsb:w.shape? b=some (tB,kB)) (hkB:kB ≠ 0) (hfa:w.frozen? ⟨vb,voff,none⟩=false) (hfe:w.frozen? ⟨vb,kA,none⟩=false) :
  Calls Tryz.prog 125 #[.slice (some ⟨b,0,none⟩) n c,.int .i64 i,.slice (some ⟨vb,voff,none⟩) m vc] w fun e w' =>
   e=.returned (.slice (some ⟨b,0,none⟩) (n+m) c)∧w'=(w.drew.setCells b ((i+m)*2) (cs.drop (i*2))).setCells b (i*2) vs:=by
 have t0:=Tryz.underlying0;have t3:=Tryz.underlying3;have t4:=Tryz.underlying4;have t25:=Tryz.underlying25
 have a0:=iT0;have a3:=iT3;have z50:=E7n;have z25:=E9R;have v25:=E91
 have u0:=run_underlying t0;have u3:=run_underlying t3;have u4:=run_underlying t4;have u25:=run_underlying t25
 have hz1:¬ ((m:Int)=0):=by omega
 have hz2:¬ ((i:Int)=(n:Int)):=by omega
 have hsz:(Tryz.prog.info? 50).map (·.size)=some 2:=by
  obtain ⟨i0,hi0,h0,h1,h2⟩:=info_parts E9b
  rw [hi0];simp [h1]
 have hov:∀ lb cb,(callFunc 142 #[.slice (some ⟨vb,voff,none⟩) m vc,.slice (some ⟨b,(i+m)*2,none⟩) lb cb]).run Tryz.prog w=.ok (.value (.bool false)) w:=fun lb cb=>by
  rw [run_callFunc_extern Tryz.func142 (by kernel_rfl) (by kernel_rfl) (by kernel_rfl) (e:=Extern.SlicesOverlaps.overlaps #[25,25] #[4]) (by kernel_rfl),
   Lib.run_overlaps_apart w 25 4 50 t25 2 E7n ⟨vb,voff,none⟩ ⟨b,(i+m)*2,none⟩ m vc lb cb hvb tA tB kA kB hsa hsb hkB hfa hfe]
  rfl
 have hdl:(cs.drop (i*2)).length=(n - i)*2:=by rw [List.length_drop,hcl];omega
 have mixed:Tryz.prog.follows .mixedOrders=true:=by kernel_rfl
 have hw1:IntKind.i64.wrap ((i:Int)+(m:Int))=(i:Int)+(m:Int):=by rw [IntKind.wrap_i64];omega
 have hb1:(0:Int)≤(i:Int)+(m:Int):=by omega
 have hin:i≤n:=by omega
 have htn:((i:Int)+(m:Int)).toNat=i+m:=by omega
 have hb2:¬ (c=i+m):=by omega
 have hb3:(i:Int)≤(n:Int)+(m:Int):=by omega
 have hb4:¬ (c=i):=by omega
 have hcp1:∀ ty dc sc,(Builtin.copy_ #[25,25] ty #[.slice (some ⟨b,(i+m)*2,none⟩) (n+m - (i+m)) dc,.slice (some ⟨b,i*2,none⟩) (n+m - i) sc]).run Tryz.prog w.drew=.ok (goInt ((n - i:Nat):Int)) (w.drew.setCells b ((i+m)*2) (cs.drop (i*2))):=fun ty dc sc=>by
  have hmin:Nat.min (n+m - i) (n+m - (i+m))=n - i:=by simp only [Nat.min_def];split<;>omega
  have:=B9V w.drew 25 25 ty 50 2 b ((i+m)*2) (n+m - (i+m)) dc ⟨b,i*2,none⟩ (n+m - i) sc (cs.drop (i*2)) t25 hsz (by rw [hdl,hmin])
   (fun j v hj=>by rw [Addr.add_lit];exact hcs (i*2+j) v (by rwa [List.getElem?_drop] at hj))
   (fun j hj=>hsp _ (by rw [hdl] at hj;omega)) (fun j hj=>hfz _ (by rw [hdl] at hj;omega)) (fun v hv=>h1c v (List.mem_of_mem_drop hv))
  rw [hmin] at this
  exact this
 obtain ⟨W1,hW1⟩:∃ W1,W1=w.drew.setCells b ((i+m)*2) (cs.drop (i*2)):=⟨_,rfl⟩
 have hsp1:∀ k,k<(n+m)*2→(W1.cell? ⟨b,k,none⟩).isSome=true:=fun k hk=>by
  rw [hW1]
  exact isSome_setCells b (cs.drop (i*2)) ((i+m)*2) w.drew (fun j hj=>hsp ((i+m)*2+j) (by rw [hdl] at hj;omega)) k (hsp k hk)
 have hcp2:∀ (W:World),(∀ x,W.cell? x=W1.cell? x)→(∀ x,W.frozen? x=W1.frozen? x)→∀ ty dc,(Builtin.copy_ #[25,25] ty #[.slice (some ⟨b,i*2,none⟩) (n+m - i) dc,.slice (some ⟨vb,voff,none⟩) m vc]).run Tryz.prog W=.ok (goInt m) (W.setCells b (i*2) vs):=fun W hWc hWf ty dc=>by
  have hmin:Nat.min m (n+m - i)=m:=by simp only [Nat.min_def];split<;>omega
  have:=B9V W 25 25 ty 50 2 b (i*2) (n+m - i) dc ⟨vb,voff,none⟩ m vc vs t25 hsz (by rw [hvl,hmin])
   (fun j v hj=>by
    rw [Addr.add_lit,hWc,hW1,World.cell?_setCells_out b _ _ _ _ (fun h _=>absurd h hvb)]
    exact hvs j v hj)
   (fun j hj=>by rw [hWc];exact hsp1 _ (by omega)) (fun j hj=>by rw [hWf,hW1,World.frozen?_setCells];exact hfz _ (by omega)) h1v
  rw [hmin] at this
  exact this
 rw [← hW1] at hcp1
 go_enter Tryz.func125,C8U
 go_wp2_with (simp only [hov])
 go_region_law_o (refine step_copy_runI rfl _ _ 25 25 rfl _ _ (by simp [Act.eval,Act.put]) (by simp [Act.eval,Act.put]) (hcp1 _ _ _) ?_)
 go_wp2_with (at_builtin;refine wpList_copy_runI _ rfl _ _ 25 25 rfl _ _ rfl rfl (hcp2 _ (fun _=>rfl) (fun _=>rfl) _ _) ?_)
 go_ret
 first | exact ⟨rfl,rfl⟩ | exact ⟨rfl,by rw [hW1]⟩
set_option maxHeartbeats 4000000 in
set_option maxRecDepth 100000 in
theorem D9a (b n c vb voff m vc:Nat) (vs:List Value) (w:World) (hm:0<m) (hroom:n+m≤c) (hc63:c≤9223372036854775807)
  (hvl:vs.length=m*2) (hsp:∀ j,j<m*2→(w.cell? ⟨b,n*2+j,none⟩).isSome=true) (hfz:∀ j,j<m*2→w.frozen? ⟨b,n*2+j,none⟩=false)
  (hvs:∀ j v,vs[j]? = some v→w.cell? ⟨vb,voff+j,none⟩=some v) (h1v:∀ v∈vs,v.oneCell'=true) :
  Calls Tryz.prog 125 #[.slice (some ⟨b,0,none⟩) n c,.int .i64 n,.slice (some ⟨vb,voff,none⟩) m vc] w fun e w' =>
   e=.returned (.slice (some ⟨b,0,none⟩) (n+m) c)∧w'=w.setCells b (n*2) vs:=by
 have t0:=Tryz.underlying0;have t3:=Tryz.underlying3;have t4:=Tryz.underlying4;have t25:=Tryz.underlying25
 have a0:=iT0;have a3:=iT3;have z50:=E7n;have z25:=E9R;have v25:=E91
 have u0:=run_underlying t0;have u3:=run_underlying t3;have u4:=run_underlying t4;have u25:=run_underlying t25
 have mixed:Tryz.prog.follows .mixedOrders=true:=by kernel_rfl
 obtain ⟨i0,hi0,hz0,hzs,hzb⟩:=info_parts E9b
 have hz1:¬ ((m:Int)=0):=by omega
 have hsrc:Src Tryz.prog i0.size 25 (.slice (some ⟨vb,voff,none⟩) m vc) m vs w:=Src.ofSlice w t25 ⟨vb,voff,none⟩ m vc vs (by rw [hzs];exact hvl) (fun j u hj=>by rw [Addr.add_lit];exact hvs j u hj) h1v
 have h1:∀ j,j<vs.length→(w.cell? ⟨b,0+n*i0.size+j,none⟩).isSome=true:=fun j hj=>by rw [hzs,Nat.zero_add];exact hsp j (by omega)
 have h2:∀ j,j<vs.length→w.frozen? ⟨b,0+n*i0.size+j,none⟩=false:=fun j hj=>by rw [hzs,Nat.zero_add];exact hfz j (by omega)
 have hoff:0+n*i0.size=n*2:=by rw [hzs];omega
 go_enter Tryz.func125,C8U
 go_wp2_with (at_builtin;refine wpList_append_room_src _ rfl _ _ 25 25 rfl 50 i0 t25 hi0 b 0 n c rfl _ rfl m vs hsrc hroom h1 h2 ?_)
 go_ret
 first | exact ⟨rfl,rfl⟩ | exact ⟨rfl,by rw [hoff]⟩ | exact ⟨rfl,by rw [← hoff]⟩ | exact ⟨rfl,by simp [hzs]⟩

set_option maxHeartbeats 4000000 in
set_option maxRecDepth 100000 in
theorem D9P (base:Option Addr) (n c vb voff m vc:Nat) (cs vs:List Value) (w:World) (hm:0<m) (hnc:n≤c) (hroom:c<n+m) (hbig:(n+m)*32≤140737488355328)
  (hcl:cs.length=n*2) (hvl:vs.length=m*2) (hnil:base=none→n=0)
  (hcs:∀ a,base=some a→∀ j v,cs[j]? = some v→w.cell? (a.add j)=some v)
  (hvs:∀ j v,vs[j]? = some v→w.cell? ⟨vb,voff+j,none⟩=some v) (h1v:∀ v∈vs,v.oneCell'=true) :
  Calls Tryz.prog 125 #[.slice base n c,.int .i64 n,.slice (some ⟨vb,voff,none⟩) m vc] w fun e w' =>
   e=.returned (.slice (some ⟨w.heap.size,0,none⟩) (n+m) (grownCap w (n+m) c 50)) ∧
   w'=w.drew.alloc (.cells ((cs++vs).toArray++Builtin.zeroCells #[Value.string ⟨#[]⟩,Value.string ⟨#[]⟩] (grownCap w (n+m) c 50 - (n+m))) 50):=by
 have t0:=Tryz.underlying0;have t3:=Tryz.underlying3;have t4:=Tryz.underlying4;have t25:=Tryz.underlying25
 have a0:=iT0;have a3:=iT3;have z50:=E7n;have z25:=E9R;have v25:=E91
 have u0:=run_underlying t0;have u3:=run_underlying t3;have u4:=run_underlying t4;have u25:=run_underlying t25
 have mixed:Tryz.prog.follows .mixedOrders=true:=by kernel_rfl
 obtain ⟨i0,hi0,hz0,hzs,hzb⟩:=info_parts E9b
 have hz1:¬ ((m:Int)=0):=by omega
 have hsrc:Src Tryz.prog i0.size 25 (.slice (some ⟨vb,voff,none⟩) m vc) m vs w:=Src.ofSlice w t25 ⟨vb,voff,none⟩ m vc vs (by rw [hzs];exact hvl) (fun j u hj=>by rw [Addr.add_lit];exact hvs j u hj) h1v
 have hold:(Builtin.firstCells i0.size n (.slice base n c)).run Tryz.prog w.drew=.ok cs.toArray w.drew:=by
  rw [hzs]
  cases base with
  | none =>
   have h0:=hnil rfl
   subst h0
   have hc0:cs=[]:=List.length_eq_zero_iff.1 (by omega)
   rw [hc0]
   exact run_firstCells_none w.drew 2 0 0 c
  | some a=>exact run_firstCells_some w.drew 2 n a n c cs (by omega) (fun j v hj=>hcs a rfl j v hj)
 have hrun:∀ ty,(Builtin.append_ #[25,25] ty #[.slice base n c,.slice (some ⟨vb,voff,none⟩) m vc]).run Tryz.prog w=_:=fun ty =>
  run_append_grow_src w 25 25 ty 50 i0 _ t25 hi0 hz0 base n c cs hold _ m vs hsrc hroom (by omega) (by rw [hzb];exact growslice_fits hroom hbig)
 go_enter Tryz.func125,C8U
 cases base with
 | none =>
  have h0:=hnil rfl
  subst h0
  go_wp2_with (at_builtin;refine Lib.wpList_append_run _ rfl _ _ _ _ rfl _ _ rfl rfl _ _ (hrun _) ?_)
  go_ret
  exact ⟨rfl,rfl⟩
 | some a =>
  obtain ⟨ab,ao,asp⟩:=a
  go_wp2_with (at_builtin;refine Lib.wpList_append_run _ rfl _ _ _ _ rfl _ _ rfl rfl _ _ (hrun _) ?_)
  all_goals (go_ret;exact ⟨rfl,rfl⟩)
set_option maxHeartbeats 4000000 in
set_option maxRecDepth 100000 in
theorem E7E (b n c i vb voff m vc:Nat) (cs vs:List Value) (w:World) (hi:i<n) (hm:0<m) (hnc:n≤c) (hroom:c<n+m) (hbig:(n+m)*32≤140737488355328)
    (hcl:cs.length=n*2) (hvl:vs.length=m*2)
    (hcs:∀ j v,cs[j]? = some v→w.cell? ⟨b,j,none⟩=some v)
    (hvs:∀ j v,vs[j]? = some v→w.cell? ⟨vb,voff+j,none⟩=some v) (h1c:∀ v∈cs,v.oneCell'=true) (h1v:∀ v∈vs,v.oneCell'=true) :
    Calls Tryz.prog 125 #[.slice (some ⟨b,0,none⟩) n c,.int .i64 i,.slice (some ⟨vb,voff,none⟩) m vc] w fun e w' =>
      e=.returned (.slice (some ⟨w.heap.size,0,none⟩) (n+m) (grownCap w (n+m) c 50)) ∧
      w'=(((w.alloc (.cells ((cs.take (i*2)).toArray++Builtin.zeroCells #[Value.string ⟨#[]⟩,Value.string ⟨#[]⟩] (n+m - i)++Builtin.zeroCells #[Value.string ⟨#[]⟩,Value.string ⟨#[]⟩] (grownCap w (n+m) c 50 - (n+m))) 50)).drew.setCells w.heap.size (i*2) vs).drew).setCells w.heap.size ((i+m)*2) (cs.drop (i*2)):=by
  have t0:=Tryz.underlying0;have t3:=Tryz.underlying3;have t4:=Tryz.underlying4;have t25:=Tryz.underlying25
  have a0:=iT0;have a3:=iT3;have z50:=E7n;have z25:=E9R;have v25:=E91
  have u0:=run_underlying t0;have u3:=run_underlying t3;have u4:=run_underlying t4;have u25:=run_underlying t25
  have mixed:Tryz.prog.follows .mixedOrders=true:=by kernel_rfl
  obtain ⟨i0,hi0,hz0,hzs,hzb⟩:=info_parts E9b
  have hz1:¬ ((m:Int)=0):=by omega
  have hz2:¬ ((i:Int)=(n:Int)):=by omega
  have hz3:(c:Int)<(n:Int)+(m:Int):=by omega
  have hsz:(Tryz.prog.info? 50).map (·.size)=some 2:=by rw [hi0];simp [hzs]
  have hbw:b<w.heap.size:=block_lt_of_cell (hcs 0 _ (List.getElem?_eq_getElem (by omega)))
  have hvw:vb<w.heap.size:=block_lt_of_cell (hvs 0 _ (List.getElem?_eq_getElem (by omega)))
  have hkk:(n:Int)+(m:Int) - (i:Int)=((n+m - i:Nat):Int):=by omega
  have hik:i+(n+m - i)=n+m:=by omega
  have hold:(Builtin.firstCells i0.size i (.slice (some ⟨b,0,none⟩) i c)).run Tryz.prog w.drew=.ok (cs.take (i*2)).toArray w.drew:=by
    rw [hzs]
    exact run_firstCells_some w.drew 2 i ⟨b,0,none⟩ i c (cs.take (i*2)) (by rw [List.length_take];omega) (fun j v hj=>by
      rw [Addr.add_lit,Nat.zero_add]
      rw [List.getElem?_take] at hj
      split at hj
      · exact hcs j v hj
      · cases hj)
  have hrz : ∀ ty, (Builtin.append_ #[25, 3] ty #[.slice (some ⟨b, 0, none⟩) i c, .int .i64 ((n : Int) + (m : Int) - (i : Int))]).run Tryz.prog w =
      .ok (.slice (some ⟨w.heap.size,0,none⟩) (n+m) (grownCap w (n+m) c 50)) (w.drew.alloc (.cells ((cs.take (i*2)).toArray++Builtin.zeroCells #[Value.string ⟨#[]⟩,Value.string ⟨#[]⟩] (n+m - i)++Builtin.zeroCells #[Value.string ⟨#[]⟩,Value.string ⟨#[]⟩] (grownCap w (n+m) c 50 - (n+m))) 50)):=fun ty=>by
    have h:=Lib.run_append_grow_zeros w 25 3 ty 50 i0 _ .i64 .i64 t25 t3 hi0 hz0 (some ⟨b,0,none⟩) i c (cs.take (i*2)) hold (n+m - i) (by omega) (by omega) (by omega) (by omega) (by rw [hzb];omega) (by rw [hzb,hik];exact growslice_fits hroom hbig)
    rw [hik] at h
    rw [hkk]
    exact h
  obtain ⟨G,hG⟩:∃ G,G=grownCap w (n+m) c 50:=⟨_,rfl⟩
  obtain ⟨ROW,hROW⟩:∃ ROW:Array Value,ROW=(cs.take (i*2)).toArray++Builtin.zeroCells #[Value.string ⟨#[]⟩,Value.string ⟨#[]⟩] (n+m - i)++Builtin.zeroCells #[Value.string ⟨#[]⟩,Value.string ⟨#[]⟩] (G - (n+m)):=⟨_,rfl⟩
  rw [← hG] at hrz ⊢
  rw [← hROW] at hrz ⊢
  have hRl:(n+m)*2≤ROW.size:=by
    rw [hROW]
    simp [Builtin.zeroCells]
    omega
  obtain ⟨W1,hW1⟩:∃ W1,W1=w.drew.alloc (.cells ROW 50):=⟨_,rfl⟩
  rw [← hW1] at hrz
  have hN:∀ j,j<(n+m)*2→(W1.cell? ⟨w.heap.size,j,none⟩).isSome=true:=fun j hj=>by
    rw [hW1,World.cell?_alloc_at (w:=w.drew) ROW _ w.heap.size j rfl,Array.getElem?_eq_getElem (by omega)];rfl
  have hNf:∀ j,W1.frozen? ⟨w.heap.size,j,none⟩=false:=fun j=>by rw [hW1];exact World.frozen?_alloc_at (w:=w.drew) ROW _ w.heap.size j rfl
  have hOb:∀ j v,w.cell? ⟨b,j,none⟩=some v→W1.cell? ⟨b,j,none⟩=some v:=fun j v h=>by rw [hW1,World.cell?_alloc_past (w:=w.drew) _ b j hbw];exact h
  have hOv:∀ j v,w.cell? ⟨vb,j,none⟩=some v→W1.cell? ⟨vb,j,none⟩=some v:=fun j v h=>by rw [hW1,World.cell?_alloc_past (w:=w.drew) _ vb j hvw];exact h
  have hcpA:∀ (W:World),(∀ x,W.cell? x=W1.cell? x)→(∀ x,W.frozen? x=W1.frozen? x)→∀ ty dc,(Builtin.copy_ #[25,25] ty #[.slice (some ⟨w.heap.size,i*2,none⟩) (n+m - i) dc,.slice (some ⟨vb,voff,none⟩) m vc]).run Tryz.prog W=.ok (goInt m) (W.setCells w.heap.size (i*2) vs):=fun W hWc hWf ty dc=>by
    have hmin:Nat.min m (n+m - i)=m:=by simp only [Nat.min_def];split<;>omega
    have:=B9V W 25 25 ty 50 2 w.heap.size (i*2) (n+m - i) dc ⟨vb,voff,none⟩ m vc vs t25 hsz (by rw [hvl,hmin])
      (fun j v hj=>by rw [Addr.add_lit,hWc];exact hOv _ v (hvs j v hj))
      (fun j hj=>by rw [hWc];exact hN _ (by omega)) (fun j hj=>by rw [hWf];exact hNf _) h1v
    rw [hmin] at this
    exact this
  have hGn:n+m≤G:=by rw [hG];exact grownCap_ge w _ _ _
  have hG63:G≤9223372036854775807:=by
    have:=grownCap_le_maxLen w (n+m) c 50 (by unfold maxLen;omega)
    rw [← hG] at this
    unfold maxLen at this
    omega
  have hGi:¬ (G=i):=by omega
  have hGim:¬ (G=i+m):=by omega
  have hci:¬ (c=i):=by omega
  have hbN:b ≠ w.heap.size:=by omega
  have hdl:(cs.drop (i*2)).length=(n - i)*2:=by rw [List.length_drop,hcl];omega
  have hcpB:∀ (W:World),(∀ x,W.cell? x=(W1.setCells w.heap.size (i*2) vs).cell? x)→(∀ x,W.frozen? x=(W1.setCells w.heap.size (i*2) vs).frozen? x)→∀ ty dc sc,(Builtin.copy_ #[25,25] ty #[.slice (some ⟨w.heap.size,(i+m)*2,none⟩) (n+m - (i+m)) dc,.slice (some ⟨b,i*2,none⟩) (n - i) sc]).run Tryz.prog W=.ok (goInt ((n - i:Nat):Int)) (W.setCells w.heap.size ((i+m)*2) (cs.drop (i*2))):=fun W hWc hWf ty dc sc=>by
    have hmin:Nat.min (n - i) (n+m - (i+m))=n - i:=by simp only [Nat.min_def];split<;>omega
    have:=B9V W 25 25 ty 50 2 w.heap.size ((i+m)*2) (n+m - (i+m)) dc ⟨b,i*2,none⟩ (n - i) sc (cs.drop (i*2)) t25 hsz (by rw [hdl,hmin])
      (fun j v hj=>by
        rw [Addr.add_lit,hWc,World.cell?_setCells_out _ _ _ _ _ (fun h _=>absurd h hbN)]
        exact hOb _ v (hcs (i*2+j) v (by rwa [List.getElem?_drop] at hj)))
      (fun j hj=>by rw [hWc];exact isSome_setCells w.heap.size vs (i*2) W1 (fun t ht=>hN (i*2+t) (by omega)) _ (hN _ (by rw [hdl] at hj;omega)))
      (fun j hj=>by rw [hWf,World.frozen?_setCells];exact hNf _) (fun v hv=>h1c v (List.mem_of_mem_drop hv))
    rw [hmin] at this
    exact this
  subst hW1
  have hE1:∀ x,((w.alloc (.cells ROW 50)).drew).cell? x=(w.drew.alloc (.cells ROW 50)).cell? x:=fun x=>rfl
  have hE2:∀ x,((w.alloc (.cells ROW 50)).drew).frozen? x=(w.drew.alloc (.cells ROW 50)).frozen? x:=fun x=>rfl
  have hF1:∀ x,(((w.alloc (.cells ROW 50)).drew.setCells w.heap.size (i*2) vs).drew).cell? x=((w.drew.alloc (.cells ROW 50)).setCells w.heap.size (i*2) vs).cell? x:=fun x=>rfl
  have hF2:∀ x,(((w.alloc (.cells ROW 50)).drew.setCells w.heap.size (i*2) vs).drew).frozen? x=((w.drew.alloc (.cells ROW 50)).setCells w.heap.size (i*2) vs).frozen? x:=fun x=>rfl
  have hw1:IntKind.i64.wrap ((i:Int)+(m:Int))=(i:Int)+(m:Int):=by rw [IntKind.wrap_i64];omega
  have hb1:(0:Int)≤(i:Int)+(m:Int):=by omega
  have hin:i≤n:=by omega
  have htn:((i:Int)+(m:Int)).toNat=i+m:=by omega
  have hb3:(i:Int)≤(n:Int):=by omega
  clear hkk hik hold hROW hG hRl
  go_enter Tryz.func125,C8U
  go_wp2_with (first
    | (at_builtin;refine Lib.wpList_append_run _ rfl _ _ _ _ rfl _ _ rfl rfl _ _ (hrz _) ?_)
    | (at_builtin;refine wpList_copy_runI _ rfl _ _ 25 25 rfl _ _ rfl rfl (hcpA _ hE1 hE2 _ _) ?_)
    | (at_builtin;refine wpList_copy_runI _ rfl _ _ 25 25 rfl _ _ rfl rfl (hcpB _ (fun _=>rfl) (fun _=>rfl) _ _ _) ?_))
  go_region_law_o (refine step_copy_runI rfl _ _ 25 25 rfl (.slice (some ⟨w.heap.size,(i+m)*2,none⟩) (n+m - (i+m)) (G - (i+m))) (.slice (some ⟨b,i*2,none⟩) (n - i) (c - i)) (by simp [Act.eval,Act.put]) (by simp [Act.eval,Act.put]) (hcpB _ hF1 hF2 3 (G - (i+m)) (c - i)) ?_)
  go_wp2
  go_ret
  exact ⟨rfl,rfl⟩
end
theorem F1p:aPM 125 (D9L 50):=MContract.insPair (F:=125) (E:=50)
 (fun b n c i vb vc cs vs w h1 h2 h3 h4 h5 h6 h7 h8 h9 h10 h11 h12 tA tB kA kB g1 g2 g3 g4 g5=>E6q b n c i vb 0 1 vc cs vs w h1 (by decide) h2 h3 h4 h5 h6 h7 h8 h9 h10 h11 h12 tA tB kA kB g1 g2 g3 g4 g5)
 (fun b n c vb vc vs w h1 h2 h3 h4 h5 h6 h7=>D9a b n c vb 0 1 vc vs w (by decide) h1 h2 h3 h4 h5 h6 h7)
 (fun base n c vb vc cs vs w h1 h2 h3 h4 h5 h6 h7 h8 h9=>(D9P base n c vb 0 1 vc cs vs w (by decide) h1 h2 h3 h4 h5 h6 h7 h8 h9).mono (fun _ _ h=>⟨_,grownCap_ge w (n+1) c 50,grownCap_le_maxLen w (n+1) c 50 (by simp only [maxLen];omega),h.1,h.2⟩))
 (fun b n c i vb vc cs vs w h1 h2 h3 h4 h5 h6 h7 h8 h9 h10=>(E7E b n c i vb 0 1 vc cs vs w h1 (by decide) h2 h3 h4 h5 h6 h7 h8 h9 h10).mono (fun _ _ h=>⟨_,grownCap_ge w (n+1) c 50,grownCap_le_maxLen w (n+1) c 50 (by simp only [maxLen];omega),h.1,h.2⟩))
noncomputable def F2p (l:LBBe) (i:Int) (y:LBBe):LBBe:=l.take i.toNat++(y++l.drop i.toNat)
noncomputable def E4p (l:LBBe) (i:Int) (y:LBBe):Bool:=decide (0≤i∧i≤(l.length:Int))&&decide ((l.length+1)*32≤140737488355328)
noncomputable def S65:Tab:=Tab.add S64 125 (win B0 (D9L 50))
noncomputable def F34:FuncId→Bool:=F1B
theorem G65:aPG S65 F34:=G64.addM (F1p.win B0) (C1 _) ⟨Tryz.f125,by kernel_rfl,by kernel_rfl,by kernel_rfl⟩ (by kernel_rfl)

abbrev B91:SS:=⟨[.all 0 2,.t true .str,.t true .str],[.rows 50 true D0]⟩
abbrev A2s:SS:=⟨(.all 0 2::.t true .str::.t true .str::.junk::.junk::.junk::.junk::.junk::tI::E1d),[.rows 50 true D0]⟩
abbrev B6D:SS:=⟨(.all 0 2::.t true .str::.t true .str::.junk::.junk::.junk::.junk::.junk::tI::E1d),[.rows 50 true D0]⟩
noncomputable def C73 (x1 x2:ByteArray) (x8:Int) (h0:LBBe):RT A2s.den:=let z1:=(h0.getD x8.toNat (bE,bE)).1;(.br (decide (x8<(h0.length:Int))) (.br (decide (0≤x8∧x8<(h0.length:Int))) (.br (Op.bytesLess z1.toList x1.toList||(z1.toList==x1.toList)) (.next (((),x1,x2,(),(),(),(),(),wI (x8+(1:Int)),u34),(h0,()))) (.done (.exit 0) B6D (((),x1,x2,(),(),(),(),(),x8,u34),(h0,())))) .fail) (.done (.exit 0) B6D (((),x1,x2,(),(),(),(),(),x8,u34),(h0,()))))
abbrev A76:=(ByteArray)×(ByteArray)×(Int)×(LBBe)
abbrev A7O:=Nat×(ByteArray)×(ByteArray)×(Int)×(LBBe)
def B9L:A7O:=(99,(bE:ByteArray),(bE:ByteArray),((0:Int):Int),([]:LBBe))
noncomputable def A8G (x1 x2:ByteArray) (x8:Int) (h0:LBBe):A76 ⊕ A7O:=let z1:=(h0.getD x8.toNat (bE,bE)).1;(cond (decide (x8<(h0.length:Int))) (cond (decide (0≤x8∧x8<(h0.length:Int))) (cond (Op.bytesLess z1.toList x1.toList||(z1.toList==x1.toList)) (.inl (x1,x2,wI (x8+(1:Int)),h0)) (.inr (0,x1,x2,x8,h0))) (.inr B9L)) (.inr (0,x1,x2,x8,h0)))
noncomputable def A8L (x1 x2:ByteArray) (x8:Int) (h0:LBBe):A7O:=itX (fun v:A76=>A8G v.1 v.2.1 v.2.2.1 v.2.2.2) B9L (x1,x2,x8,h0)
noncomputable def B9J (a:A7O):CT:=(.br (a.1==0) (.done (.exit 0) B6D (((),a.2.1,a.2.2.1,(),(),(),(),(),a.2.2.2.1,u34),(a.2.2.2.2,()))) .fail)
noncomputable def E2h (x1 x2:ByteArray) (x8:Int) (h0:LBBe):CT:=B9J (A8L x1 x2 x8 h0)
noncomputable abbrev B20 {α:Sort _} (f:ByteArray→ByteArray→Int→LBBe→α) (d:A2s.den):α:=f d.1.2.1 d.1.2.2.1 d.1.2.2.2.2.2.2.2.2.1 d.2.1
noncomputable abbrev B9K:A2s.den→RT A2s.den:=(B20 C73)
noncomputable def C3z:Code:=((A6 0 (B4 Tryz.f110)).getD 0 (0,.skip)).2
noncomputable abbrev C83 (v:A76):A2s.den:=(((),v.1,v.2.1,(),(),(),(),(),v.2.2.1,u34),(v.2.2.2,()))
theorem D9X:(∀ v:A76,(C73 v.1 v.2.1 v.2.2.1 v.2.2.2).val=R5 C83 B9J (A8G v.1 v.2.1 v.2.2.1 v.2.2.2))∧∀ a:A7O,CEnd A2s.den (B9J a):=⟨fun v=>(B3 (B3 (B3 rfl rfl) rfl) rfl),fun a=>(C5 aCD K7)⟩
noncomputable def C9c (x1 x2:ByteArray) (x8:Int) (h0:LBBe):Option (Ex×St):=let z1:=(⟨((.all 0 2)::(.t true .str x1)::(.t true .str x2)::.junk::.junk::.junk::.junk::.junk::(ti x8)::E32),[(.rows 50 true D0 h0)],1,[]⟩:St);let z2:=(h0.getD x8.toNat (bE,bE)).1;(cond (decide (x8<(h0.length:Int))) (cond (decide (0≤x8∧x8<(h0.length:Int))) (cond (Op.bytesLess z2.toList x1.toList||(z2.toList==x1.toList)) (some (.normal,(⟨((.all 0 2)::(.t true .str x1)::(.t true .str x2)::.junk::.junk::.junk::.junk::.junk::(ti (wI (x8+(1:Int))))::E32),[(.rows 50 true D0 h0)],1,[]⟩:St))) (some ((.exit 0),z1))) none) (some ((.exit 0),z1)))
theorem D6y:RdA G65 aLn 0 C3z A2s 1 [] (kepts [] [(0,[0,1,2,8])]) (B20 C9c):=by
 intro d
 kernel_rfl
theorem D6d:∀ d:A2s.den,(B20 C9c) d=(B9K d).opt 1 []:=by
 intro d
 kernel_rfl
noncomputable abbrev C5S:St→Option Tree:=A2s.say 1 [] [] (B20 E2h)
theorem D87:aPL C5S C3z:=SS.wp2 hlz [] B9K D6y D6d _ (fun d=>Runs.ofI2 (step:=B9K) C83 D9X rfl (d.1.2.1,d.1.2.2.1,d.1.2.2.2.2.2.2.2.2.1,d.2.1))
noncomputable def C6k (x1 x2:ByteArray) (h0:LBBe):=let z1:=A8L x1 x2 (0:Int) h0;F2p (z1.2.2.2.2) (z1.2.2.2.1) [((z1.2.1),(z1.2.2.1))]
noncomputable def D21 (x1 x2:ByteArray) (h0:LBBe):LBBe:=let z1:=B05 h0 x1;(cond (decide (z1 ≥ (0:Int))) (h0.set (z1.toNat) ((h0.getD (z1.toNat) (bE,bE)).1,x2)) (C6k x1 x2 h0))
noncomputable abbrev C4k (r:LBBe):AV×List AObj×List Nat:=((.all 0 2),[(.rows 50 true D0 r)],[0])
noncomputable abbrev D71:B91.den→AV×List AObj×List Nat:=fun d=>C4k (D21 d.1.2.1 d.1.2.2.1 d.2.1)
noncomputable def A8f (x1 x2:ByteArray) (h0:LBBe):Bool:=let z1:=A8L x1 x2 (0:Int) h0;let z2:=B05 h0 x1;(A6i h0 x1)&&(cond (decide (z2 ≥ (0:Int))) (decide (0≤z2∧z2<(h0.length:Int))) ((z1.1==0)&&(E4p (z1.2.2.2.2) (z1.2.2.2.1) [((z1.2.1),(z1.2.2.1))])))
noncomputable abbrev D01:B91.den→Bool:=fun d=>A8f d.1.2.1 d.1.2.2.1 d.2.1
noncomputable abbrev E6y:Nat→St→Option Tree:=fun b=>match b with | 0=>C5S | _=>fun _=>none
theorem E1U:C6L false [] [0] [] G65 (E6y) Tryz.f110 B91 D01 D71:=by
 rintro ⟨⟨_,x1,x2,_⟩,⟨h0,_⟩⟩ hp
 change A8f x1 x2 h0=true at hp
 unfold A8f at hp
 refine Eq.trans (b:=(let z1:=A8L x1 x2 (0:Int) h0;let z2:=B05 h0 x1;cond (A6i h0 x1) (cond (decide (z2 ≥ (0:Int))) (cond (decide (0≤z2∧z2<(h0.length:Int))) (some (C4k (h0.set (z2.toNat) ((h0.getD (z2.toNat) ((⟨#[]⟩:ByteArray),(⟨#[]⟩:ByteArray))).1,x2)))) none) (cond (z1.1==0) (cond (E4p (z1.2.2.2.2) (z1.2.2.2.1) [((z1.2.1),(z1.2.2.1))]) (some (C4k (C6k x1 x2 h0))) none) none)) none)) (by kernel_rfl) ?_
 exact (B2 hp fun hp=>(A9 C4k hp (fun hp=>(B7 hp fun _h=>rfl)) (fun hp=>(B2 hp fun hp=>(B7 hp fun _h=>rfl)))))
noncomputable abbrev D7z:=win B0 (msum B91 D01 D71)
theorem E5Y:aPM 110 D7z:=(mcE false [] [0] []  G65 (hl1 (i:=0) (by kernel_rfl) D87) E1U).win B0
noncomputable def S66:Tab:=Tab.add S65 110 (D7z)
noncomputable def F2j:FuncId→Bool:=F34
theorem G66:aPG S66 F2j:=G65.addM E5Y (C1 _) (cbl Tryz.f110) (by kernel_rfl)

abbrev B3z:SS:=⟨[.agg [.t true .str,.t true .str],.ptr 0 0 1 0],[.box [.t true .str]]⟩
noncomputable def B3J (x0_0 x0_1 p0:ByteArray):Bool:=(x0_0.toList==p0.toList)
noncomputable abbrev E0H (p0:ByteArray) (r:Bool):AV×List AObj×List Nat:=((.t true .bool r),[(.box [(.t true .str p0)])],[])
noncomputable abbrev D0I:B3z.den→AV×List AObj×List Nat:=fun d=>E0H d.2.1.1 (B3J d.1.1.1 d.1.1.2.1 d.2.1.1)
noncomputable abbrev C5p:B3z.den→Bool:=fun d=>true
theorem D6D:B0e G66 aLn Tryz.f127 B3z C5p D0I:=by
 rintro ⟨⟨⟨x0_0,x0_1,_⟩,_,_⟩,⟨⟨p0,_⟩,_⟩⟩ hp
 kernel_rfl
noncomputable abbrev D0U:=winQ (msum B3z C5p D0I)
theorem E1f:aPM 127 D0U:=(mcM G66 hlz D6D).winQ (A2F fun d=>⟨rfl,rfl⟩)
noncomputable def S67:Tab:=Tab.add S66 127 (D0U)
noncomputable def F1z:FuncId→Bool:=qadd F2j 127
theorem G67:aPG S67 F1z:=G66.addMQ E1f (A1Q _) (cbl Tryz.f127) (A04 _)

abbrev M7:SS:=⟨[.all 0 2,.fn 127 [1]],[.rows 50 true D0,.box [.t true .str]]⟩
abbrev C3:SS:=⟨(.all 0 2::.fn 127 [1]::.junk::.junk::.junk::.junk::.junk::tI::tI::E81),[.rows 50 true D0,.box [.t true .str]]⟩
abbrev A0F:SS:=⟨(.junk::.junk::.junk::.junk::tI::D52),[.rows 50 true D0,.box [.t true .str]]⟩
abbrev A0K:SS:=⟨(.junk::E4j),[.rows 50 true D0,.box [.t true .str]]⟩
noncomputable def T5 (x8:Int) (h0:LBBe) (q0:ByteArray):=let z1:=h0.getD x8.toNat (bE,bE);B3J (z1.1) (z1.2) q0
noncomputable def A0V (x7 x8:Int) (h0:LBBe) (q0:ByteArray):RT C3.den:=(.br (decide (x8<x7)) (.br (decide (0≤x8∧x8<(h0.length:Int))) (.br (T5 x8 h0 q0) (.done .ret A0F (((),(),(),(),x8,u15),(h0,(q0,()),()))) (.next (((),(),(),(),(),(),(),x7,wI (x8+(1:Int)),u11),(h0,(q0,()),())))) .fail) (.done (.exit 0) A0K ((u20),(h0,(q0,()),()))))
abbrev F5:=(Int)×(Int)
abbrev F7:=Nat×(Int)
def Q9:F7:=(99,((0:Int):Int))
noncomputable def J7 (x7 x8:Int) (h0:LBBe) (q0:ByteArray):F5 ⊕ F7:=(cond (decide (x8<x7)) (cond (decide (0≤x8∧x8<(h0.length:Int))) (cond (T5 x8 h0 q0) (.inr (0,x8)) (.inl (x7,wI (x8+(1:Int))))) (.inr Q9)) (.inr (1,((0:Int):Int))))
noncomputable def J8 (x7 x8:Int) (h0:LBBe) (q0:ByteArray):F7:=itX (fun v:F5=>J7 v.1 v.2 h0 q0) Q9 (x7,x8)
noncomputable def R2 (h0:LBBe) (q0:ByteArray) (a:F7):CT:=(.br (a.1==0) (.done .ret A0F (((),(),(),(),a.2,u15),(h0,(q0,()),()))) (.br (a.1==1) (.done (.exit 0) A0K ((u20),(h0,(q0,()),()))) .fail))
noncomputable def A6B (x7 x8:Int) (h0:LBBe) (q0:ByteArray):CT:=(R2 h0 q0) (J8 x7 x8 h0 q0)
noncomputable abbrev A0S {α:Sort _} (f:Int→Int→LBBe→ByteArray→α) (d:C3.den):α:=f d.1.2.2.2.2.2.2.2.1 d.1.2.2.2.2.2.2.2.2.1 d.2.1 d.2.2.1.1
noncomputable abbrev R1:C3.den→RT C3.den:=(A0S A0V)
noncomputable def A0c:Code:=((A6 0 (B4 Tryz.f140)).getD 0 (0,.skip)).2
noncomputable abbrev A0R (h0:LBBe) (q0:ByteArray) (v:F5):C3.den:=(((),(),(),(),(),(),(),v.1,v.2,u11),(h0,(q0,()),()))
theorem A6j (h0:LBBe) (q0:ByteArray):(∀ v:F5,(A0V v.1 v.2 h0 q0).val=R5 (A0R h0 q0) (R2 h0 q0) (J7 v.1 v.2 h0 q0))∧∀ a:F7,CEnd C3.den ((R2 h0 q0) a):=⟨fun v=>(B3 (B3 (B3 rfl rfl) rfl) rfl),fun a=>(C5 aCD (C5 aCD K7))⟩
theorem A5W:RdA G67 aLn 0 A0c C3 2 [] (kepts [4] [(0,[])]) (fun d=>(R1 d).opt 2 []):=by
 intro d
 kernel_rfl
noncomputable abbrev A0E:St→Option Tree:=C3.say 2 [] [] (A0S A6B)
theorem A6r:aPL A0E A0c:=SS.wp2 hlz [] R1 A5W (fun d=>rfl) _ (fun d=>Runs.ofI2 (step:=R1) (A0R d.2.1 d.2.2.1.1) (A6j d.2.1 d.2.2.1.1) rfl (d.1.2.2.2.2.2.2.2.1,d.1.2.2.2.2.2.2.2.2.1))
noncomputable def F3 (h0:LBBe) (q0:ByteArray):Int:=let z1:=J8 (h0.length:Int) (0:Int) h0 q0;(cond (z1.1==0) (z1.2) (-1:Int))
noncomputable abbrev N7 (h0:LBBe) (q0:ByteArray) (r:Int):AV×List AObj×List Nat:=((ti r),[(.rows 50 true D0 h0),(.box [(.t true .str q0)])],[])
noncomputable abbrev A1S:M7.den→AV×List AObj×List Nat:=fun d=>N7 d.2.1 d.2.2.1.1 (F3 d.2.1 d.2.2.1.1)
noncomputable def E5 (h0:LBBe) (q0:ByteArray):Bool:=let z1:=J8 (h0.length:Int) (0:Int) h0 q0;cond (z1.1==0) true (z1.1==1)
noncomputable abbrev A1b:M7.den→Bool:=fun d=>E5 d.2.1 d.2.2.1.1
noncomputable abbrev A7B:Nat→St→Option Tree:=fun b=>match b with | 0=>A0E | _=>fun _=>none
theorem A6D:B0e G67 (A7B) Tryz.f140 M7 A1b A1S:=by
 rintro ⟨⟨_,_,_⟩,⟨h0,⟨q0,_⟩,_⟩⟩ hp
 change E5 h0 q0=true at hp
 unfold E5 at hp
 refine Eq.trans (b:=(let z1:=J8 (h0.length:Int) (0:Int) h0 q0;cond (z1.1==0) (some (N7 h0 q0 (z1.2))) (cond (z1.1==1) (some (N7 h0 q0 (-1:Int))) none))) (by kernel_rfl) ?_
 exact (A9 (N7 h0 q0) hp (fun hp=>rfl) (fun hp=>(B7 hp fun _h=>rfl)))
noncomputable abbrev A1U:=winQ (msum M7 A1b A1S)
theorem A7D:aPM 140 A1U:=(mcM G67 (hl1 (i:=0) (by kernel_rfl) A6r) A6D).winQ (A2F fun d=>⟨rfl,rfl⟩)
noncomputable def S68:Tab:=Tab.add S67 140 (A7a (U8) (A1U))
noncomputable def F26:FuncId→Bool:=qadd F1z 140
theorem G68:aPG S68 F26:=G67.addMQ (MContract.orElse A11 A7D) (A6c (A1Q _) (A1Q _)) (cbl Tryz.f140) (QuietS.orElse (A04 _) (A04 _))

abbrev F4y:List Sh:=.junk::F06
abbrev u36:=((),u35)
abbrev F1E:List AV:=.junk::F1c
abbrev X0:SS:=⟨[.all 0 2,.fn 127 [1]],[.rows 50 true D0,.box [.t true .str]]⟩
abbrev E9:SS:=⟨(.all 0 2::.fn 127 [1]::.junk::.junk::.junk::tI::tI::F4y),[.rows 50 true D0,.box [.t true .str]]⟩
abbrev A3p:SS:=⟨(.all 0 2::.junk::.junk::.junk::.junk::tI::E9E),[.rows 50 true D0,.box [.t true .str]]⟩
noncomputable def K5 (x6:Int) (h0:LBBe) (q0:ByteArray):=let z1:=h0.getD x6.toNat (bE,bE);B3J (z1.1) (z1.2) q0
noncomputable def A37 (x5 x6:Int) (h0:LBBe) (q0:ByteArray):RT E9.den:=let z1:=h0.getD x6.toNat (bE,bE);(.br (decide (x6<(h0.length:Int))) (.br (decide (0≤x6∧x6<(h0.length:Int))) (.br (!(K5 x6 h0 q0)) (.br (decide (0≤x5∧x5<(h0.length:Int))) (.next (((),(),(),(),(),wI (x5+(1:Int)),wI (x6+(1:Int)),u36),(h0.set x5.toNat (z1.1,z1.2),(q0,()),()))) .fail) (.next (((),(),(),(),(),x5,wI (x6+(1:Int)),u36),(h0,(q0,()),())))) .fail) (.done (.exit 0) A3p (((),(),(),(),(),x5,u37),(h0,(q0,()),()))))
abbrev P0:=(Int)×(Int)×(LBBe)
abbrev L7:=Nat×(Int)×(LBBe)
def A07:L7:=(99,((0:Int):Int),([]:LBBe))
noncomputable def O3 (x5 x6:Int) (h0:LBBe) (q0:ByteArray):P0 ⊕ L7:=let z1:=h0.getD x6.toNat (bE,bE);(cond (decide (x6<(h0.length:Int))) (cond (decide (0≤x6∧x6<(h0.length:Int))) (cond (!(K5 x6 h0 q0)) (cond (decide (0≤x5∧x5<(h0.length:Int))) (.inl (wI (x5+(1:Int)),wI (x6+(1:Int)),h0.set x5.toNat (z1.1,z1.2))) (.inr A07)) (.inl (x5,wI (x6+(1:Int)),h0))) (.inr A07)) (.inr (0,x5,h0)))
noncomputable def A06 (x5 x6:Int) (h0:LBBe) (q0:ByteArray):L7:=itX (fun v:P0=>O3 v.1 v.2.1 v.2.2 q0) A07 (x5,x6,h0)
noncomputable def A08 (q0:ByteArray) (a:L7):CT:=(.br (a.1==0) (.done (.exit 0) A3p (((),(),(),(),(),a.2.1,u37),(a.2.2,(q0,()),()))) .fail)
noncomputable def B3j (x5 x6:Int) (h0:LBBe) (q0:ByteArray):CT:=(A08 q0) (A06 x5 x6 h0 q0)
noncomputable abbrev T9 {α:Sort _} (f:Int→Int→LBBe→ByteArray→α) (d:E9.den):α:=f d.1.2.2.2.2.2.1 d.1.2.2.2.2.2.2.1 d.2.1 d.2.2.1.1
noncomputable abbrev A00:E9.den→RT E9.den:=(T9 A37)
noncomputable def A25:Code:=((A6 0 (B4 Tryz.f126)).getD 0 (0,.skip)).2
noncomputable abbrev A4c (q0:ByteArray) (v:P0):E9.den:=(((),(),(),(),(),v.1,v.2.1,u36),(v.2.2,(q0,()),()))
theorem B2z (q0:ByteArray):(∀ v:P0,(A37 v.1 v.2.1 v.2.2 q0).val=R5 (A4c q0) (A08 q0) (O3 v.1 v.2.1 v.2.2 q0))∧∀ a:L7,CEnd E9.den ((A08 q0) a):=⟨fun v=>(B3 (B3 (B3 (B3 rfl rfl) rfl) rfl) rfl),fun a=>(C5 aCD K7)⟩
noncomputable def A34 (x5 x6:Int) (h0:LBBe) (q0:ByteArray):Option (Ex×St):=let z1:=ti (wI (x6+(1:Int)));let z2:=h0.getD x6.toNat (bE,bE);(cond (decide (x6<(h0.length:Int))) (cond (decide (0≤x6∧x6<(h0.length:Int))) (cond (!(K5 x6 h0 q0)) (cond (decide (0≤x5∧x5<(h0.length:Int))) (some (.normal,(⟨((.all 0 2)::(.fn 127 [(.ptr 1 0 1 0)])::.junk::.junk::.junk::(ti (wI (x5+(1:Int))))::z1::F1E),[(.rows 50 true D0 (h0.set x5.toNat (z2.1,z2.2))),(.box [(.t true .str q0)])],2,[]⟩:St))) none) (some (.normal,(⟨((.all 0 2)::(.fn 127 [(.ptr 1 0 1 0)])::.junk::.junk::.junk::(ti x5)::z1::F1E),[(.rows 50 true D0 h0),(.box [(.t true .str q0)])],2,[]⟩:St)))) none) (some ((.exit 0),(⟨((.all 0 2)::.junk::.junk::.junk::.junk::(ti x5)::E7G),[(.rows 50 true D0 h0),(.box [(.t true .str q0)])],2,[]⟩:St))))
theorem B1d:RdA G68 aLn 0 A25 E9 2 [] (kepts [] [(0,[0,5])]) (T9 A34):=by
 intro d
 kernel_rfl
theorem B1V:∀ d:E9.den,(T9 A34) d=(A00 d).opt 2 []:=by
 intro d
 kernel_rfl
noncomputable abbrev A3s:St→Option Tree:=E9.say 2 [] [] (T9 B3j)
theorem B2x:aPL A3s A25:=SS.wp2 hlz [] A00 B1d B1V _ (fun d=>Runs.ofI2 (step:=A00) (A4c d.2.2.1.1) (B2z d.2.2.1.1) rfl (d.1.2.2.2.2.2.1,d.1.2.2.2.2.2.2.1,d.2.1))
noncomputable def W6 (h0:LBBe) (q0:ByteArray):=let z1:=F3 h0 q0;A06 z1 (wI (z1+(1:Int))) h0 q0
noncomputable def V3 (h0:LBBe) (q0:ByteArray):LBBe×ByteArray:=let z1:=W6 h0 q0;let z2:=(((z1.2.2).length:Nat):Int).toNat - (z1.2.1).toNat;(cond ((F3 h0 q0)==(-1:Int)) (h0,q0) ((((z1.2.2).take ((z1.2.1).toNat)++List.replicate z2 (bE,bE))++(z1.2.2).drop (((z1.2.1).toNat)+z2)).take ((z1.2.1).toNat),q0))
noncomputable abbrev Y8 (r:LBBe×ByteArray):AV×List AObj×List Nat:=((.all 0 2),[(.rows 50 true D0 r.1),(.box [(.t true .str r.2)])],[0])
noncomputable abbrev A6x:X0.den→AV×List AObj×List Nat:=fun d=>Y8 (V3 d.2.1 d.2.2.1.1)
noncomputable def L0 (h0:LBBe) (q0:ByteArray):Bool:=let z1:=W6 h0 q0;let z2:=(((z1.2.2).length:Nat):Int).toNat - (z1.2.1).toNat;(E5 h0 q0)&&(cond ((F3 h0 q0)==(-1:Int)) true ((z1.1==0)&&((decide (0≤(z1.2.1)∧(z1.2.1)≤(((z1.2.2).length:Nat):Int)∧(((z1.2.2).length:Nat):Int)≤(((z1.2.2).length:Nat):Int)))&&(decide (0≤(0:Int)∧(0:Int)≤(z1.2.1)∧(z1.2.1)≤(((((z1.2.2).take ((z1.2.1).toNat)++List.replicate z2 (bE,bE))++(z1.2.2).drop (((z1.2.1).toNat)+z2)).length:Nat):Int))))))
noncomputable abbrev A4N:X0.den→Bool:=fun d=>L0 d.2.1 d.2.2.1.1
noncomputable abbrev B5A:Nat→St→Option Tree:=fun b=>match b with | 0=>A3s | _=>fun _=>none
theorem B3g:C6L false [] [0] [] G68 (B5A) Tryz.f126 X0 A4N A6x:=by
 rintro ⟨⟨_,_,_⟩,⟨h0,⟨q0,_⟩,_⟩⟩ hp
 change L0 h0 q0=true at hp
 unfold L0 at hp
 refine Eq.trans (b:=(let z1:=W6 h0 q0;let z2:=(((z1.2.2).length:Nat):Int).toNat - (z1.2.1).toNat;cond (E5 h0 q0) (cond ((F3 h0 q0)==(-1:Int)) (some (Y8 (h0,q0))) (cond (z1.1==0) (cond (decide (0≤(z1.2.1)∧(z1.2.1)≤(((z1.2.2).length:Nat):Int)∧(((z1.2.2).length:Nat):Int)≤(((z1.2.2).length:Nat):Int))) (cond (decide (0≤(0:Int)∧(0:Int)≤(z1.2.1)∧(z1.2.1)≤(((((z1.2.2).take ((z1.2.1).toNat)++List.replicate z2 ((⟨#[]⟩:ByteArray),(⟨#[]⟩:ByteArray)))++(z1.2.2).drop (((z1.2.1).toNat)+z2)).length:Nat):Int))) (some (Y8 ((((z1.2.2).take ((z1.2.1).toNat)++List.replicate z2 ((⟨#[]⟩:ByteArray),(⟨#[]⟩:ByteArray)))++(z1.2.2).drop (((z1.2.1).toNat)+z2)).take ((z1.2.1).toNat),q0))) none) none) none)) none)) (by kernel_rfl) ?_
 exact (B2 hp fun hp=>(A9 Y8 hp (fun hp=>rfl) (fun hp=>(B2 hp fun hp=>(B2 hp fun hp=>(B7 hp fun _h=>rfl))))))
noncomputable abbrev A6t:=win B0 (msum X0 A4N A6x)
theorem B5B:aPM 126 A6t:=(mcE false [] [0] []  G68 (hl1 (i:=0) (by kernel_rfl) B2x) B3g).win B0
noncomputable def S69:Tab:=Tab.add S68 126 (A6t)
noncomputable def F3n:FuncId→Bool:=F26
theorem G69:aPG S69 F3n:=G68.addM B5B (C1 _) (cbl Tryz.f126) (by kernel_rfl)

abbrev B7z:List PSh:=[.t tq8,.t .str]
noncomputable def D2Q (a0:LBBe) (a1:ByteArray):LBBe:=((V3 (I6 a0) a1).1)
noncomputable abbrev D75 (r:LBBe):AV×List AObj:=((.all 0 2),[(.rows 50 true D0 r)])
noncomputable abbrev C97:A1 B7z→AV×List AObj:=fun d=>D75 (D2Q d.1 d.2.1)
noncomputable def A8m (a0:LBBe) (a1:ByteArray):Bool:=(E8 a0)&&(L0 (I6 a0) a1)
noncomputable abbrev C1G:A1 B7z→Bool:=fun d=>A8m d.1 d.2.1
theorem E1T:N0 false G69 aLn Tryz.f111 B7z C1G C97:=by
 rintro ⟨a0,⟨a1,_⟩⟩ hp
 change A8m a0 a1=true at hp
 unfold A8m at hp
 refine Eq.trans (b:=(let z1:=I6 a0;cond (E8 a0) (cond (L0 z1 a1) (some (D75 ((V3 z1 a1).1))) none) none)) (by kernel_rfl) ?_
 exact (B2 hp fun hp=>(B7 hp fun _h=>rfl))
theorem E7h:aPP 111 (A7 B7z C1G C97):=pcD false G69 hlz E1T
noncomputable def S70:Tab:=Tab.add S69 111 (lift (A7 B7z C1G C97))
noncomputable def F2C:FuncId→Bool:=F3n
theorem G70:aPG S70 F2C:=G69.add E7h (cbl Tryz.f111) (by kernel_rfl)

abbrev D3n:List Sh:=.junk::E3z
abbrev E9r:List AV:=.junk::.junk::.junk::.junk::E8b
abbrev C23:List PSh:=[.t tq8,.t tq5]
abbrev A3F:SS:=⟨(.junk::.junk::.junk::.junk::.junk::.all 0 2::.junk::.junk::.junk::.junk::.t false tq5::tI::tI::D3n),[.rows 50 true D0]⟩
abbrev C9q:SS:=⟨(.junk::.junk::.junk::.junk::.junk::.all 0 2::E6a),[.rows 50 true D0]⟩
noncomputable def C4p (x10:Lq2) (x12:Int) (h0:LBBe):=let z1:=(x10.getD x12.toNat ((0:Int),(bE,bE))).2;D21 (z1.1) (z1.2) h0
noncomputable def C4r (x10:Lq2) (x12:Int) (h0:LBBe):=D2Q h0 (((x10.getD x12.toNat ((0:Int),(bE,bE))).2).1)
noncomputable def D0F (x10:Lq2) (x11 x12:Int) (h0:LBBe):RT A3F.den:=let z1:=x10.getD x12.toNat ((0:Int),(bE,bE));(.br (decide (x12<x11)) (.br (decide (0≤x12∧x12<(x10.length:Int))) (.br ((z1.1)==(1:Int)) (.br (A8f ((z1.2).1) ((z1.2).2) h0) (.next (((),(),(),(),(),(),(),(),(),(),x10,x11,wI (x12+(1:Int)),u22),((C4p x10 x12 h0),()))) .fail) (.br ((z1.1)==(2:Int)) (.br (A8m h0 ((z1.2).1)) (.next (((),(),(),(),(),(),(),(),(),(),x10,x11,wI (x12+(1:Int)),u22),((C4r x10 x12 h0),()))) .fail) (.next (((),(),(),(),(),(),(),(),(),(),x10,x11,wI (x12+(1:Int)),u22),(h0,()))))) .fail) (.done (.exit 0) C9q ((u35),(h0,()))))
abbrev B0p:=(Lq2)×(Int)×(Int)×(LBBe)
abbrev B0F:=Nat×(LBBe)
def B1P:B0F:=(99,([]:LBBe))
noncomputable def B1F (x10:Lq2) (x11 x12:Int) (h0:LBBe):B0p ⊕ B0F:=let z1:=x10.getD x12.toNat ((0:Int),(bE,bE));(cond (decide (x12<x11)) (cond (decide (0≤x12∧x12<(x10.length:Int))) (cond ((z1.1)==(1:Int)) (cond (A8f ((z1.2).1) ((z1.2).2) h0) (.inl (x10,x11,wI (x12+(1:Int)),(C4p x10 x12 h0))) (.inr B1P)) (cond ((z1.1)==(2:Int)) (cond (A8m h0 ((z1.2).1)) (.inl (x10,x11,wI (x12+(1:Int)),(C4r x10 x12 h0))) (.inr B1P)) (.inl (x10,x11,wI (x12+(1:Int)),h0)))) (.inr B1P)) (.inr (0,h0)))
noncomputable def B1L (x10:Lq2) (x11 x12:Int) (h0:LBBe):B0F:=itX (fun v:B0p=>B1F v.1 v.2.1 v.2.2.1 v.2.2.2) B1P (x10,x11,x12,h0)
noncomputable def C3k (a:B0F):CT:=(.br (a.1==0) (.done (.exit 0) C9q ((u35),(a.2,()))) .fail)
noncomputable def E4m (x10:Lq2) (x11 x12:Int) (h0:LBBe):CT:=C3k (B1L x10 x11 x12 h0)
noncomputable abbrev B6w {α:Sort _} (f:Lq2→Int→Int→LBBe→α) (d:A3F.den):α:=f d.1.2.2.2.2.2.2.2.2.2.2.1 d.1.2.2.2.2.2.2.2.2.2.2.2.1 d.1.2.2.2.2.2.2.2.2.2.2.2.2.1 d.2.1
noncomputable abbrev C16:A3F.den→RT A3F.den:=(B6w D0F)
noncomputable def C5D:Code:=((A6 0 (B4 Tryz.f85)).getD 0 (0,.skip)).2
noncomputable abbrev D0V (v:B0p):A3F.den:=(((),(),(),(),(),(),(),(),(),(),v.1,v.2.1,v.2.2.1,u22),(v.2.2.2,()))
theorem E0I:(∀ v:B0p,(D0F v.1 v.2.1 v.2.2.1 v.2.2.2).val=R5 D0V C3k (B1F v.1 v.2.1 v.2.2.1 v.2.2.2))∧∀ a:B0F,CEnd A3F.den (C3k a):=⟨fun v=>by repeat' first | apply B3 | rfl,fun a=>(C5 aCD K7)⟩
noncomputable def D0S (x10:Lq2) (x11 x12:Int) (h0:LBBe):Option (Ex×St):=let z1:=x10.getD x12.toNat ((0:Int),(bE,bE));let z2:=ti (wI (x12+(1:Int)));(cond (decide (x12<x11)) (cond (decide (0≤x12∧x12<(x10.length:Int))) (cond ((z1.1)==(1:Int)) (cond (A8f ((z1.2).1) ((z1.2).2) h0) (some (.normal,(⟨(.junk::.junk::.junk::.junk::.junk::(.all 0 2)::.junk::.junk::.junk::.junk::(.t false tq5 x10)::(ti x11)::z2::E9r),[(.rows 50 true D0 (C4p x10 x12 h0))],0,[]⟩:St))) none) (cond ((z1.1)==(2:Int)) (cond (A8m h0 ((z1.2).1)) (some (.normal,(⟨(.junk::.junk::.junk::.junk::.junk::(.all 0 2)::.junk::.junk::.junk::.junk::(.t false tq5 x10)::(ti x11)::z2::E9r),[(.rows 50 true D0 (C4r x10 x12 h0))],0,[]⟩:St))) none) (some (.normal,(⟨(.junk::.junk::.junk::.junk::.junk::(.all 0 2)::.junk::.junk::.junk::.junk::(.t false tq5 x10)::(ti x11)::z2::E9r),[(.rows 50 true D0 h0)],0,[]⟩:St))))) none) (some ((.exit 0),(⟨(.junk::.junk::.junk::.junk::.junk::(.all 0 2)::E4H),[(.rows 50 true D0 h0)],0,[]⟩:St))))
theorem D82:RdA G70 aLn 0 C5D A3F 0 [] (kepts [] [(0,[5])]) (B6w D0S):=by
 intro d
 kernel_rfl
theorem D8W:∀ d:A3F.den,(B6w D0S) d=(C16 d).opt 0 []:=by
 intro d
 kernel_rfl
noncomputable abbrev C8c:St→Option Tree:=A3F.say 0 [] [] (B6w E4m)
theorem E21:aPL C8c C5D:=SS.wp2 hlz [] C16 D82 D8W _ (fun d=>Runs.ofI2 (step:=C16) D0V E0I rfl (d.1.2.2.2.2.2.2.2.2.2.2.1,d.1.2.2.2.2.2.2.2.2.2.2.2.1,d.1.2.2.2.2.2.2.2.2.2.2.2.2.1,d.2.1))
noncomputable def C0e (a0:LBBe) (a1:Lq2):LBBe:=((B1L a1 (a1.length:Int) (0:Int) (I6 a0)).2)
noncomputable abbrev E1i (r:LBBe):AV×List AObj:=((.all 0 2),[(.rows 50 true D0 r)])
noncomputable abbrev D4u:A1 C23→AV×List AObj:=fun d=>E1i (C0e d.1 d.2.1)
noncomputable def A8I (a0:LBBe) (a1:Lq2):Bool:=(E8 a0)&&((B1L a1 (a1.length:Int) (0:Int) (I6 a0)).1==0)
noncomputable abbrev C6N:A1 C23→Bool:=fun d=>A8I d.1 d.2.1
noncomputable abbrev E7I:Nat→St→Option Tree:=fun b=>match b with | 0=>C8c | _=>fun _=>none
theorem E3C:N0 false G70 (E7I) Tryz.f85 C23 C6N D4u:=by
 rintro ⟨a0,⟨a1,_⟩⟩ hp
 change A8I a0 a1=true at hp
 unfold A8I at hp
 refine Eq.trans (b:=(let z1:=B1L a1 (a1.length:Int) (0:Int) (I6 a0);cond (E8 a0) (cond (z1.1==0) (some (E1i (z1.2))) none) none)) (by kernel_rfl) ?_
 exact (B2 hp fun hp=>(B7 hp fun _h=>rfl))
theorem E8K:aPP 85 (A7 C23 C6N D4u):=pcD false G70 (hl1 (i:=0) (by kernel_rfl) E21) E3C
noncomputable def S71:Tab:=Tab.add S70 85 (lift (A7 C23 C6N D4u))
noncomputable def F2m:FuncId→Bool:=F2C
theorem G71:aPG S71 F2m:=G70.add E8K (cbl Tryz.f85) (by kernel_rfl)

abbrev A8K:SS:=⟨[.ptr 0 0 1 0,.agg [.t true (.int .i64),.t true (.int .i64),.t false tq5],.t false tq3],[.box [.nil,.nil]]⟩
noncomputable def E3n (x1_0 x1_1:Int) (x1_2:Lq2) (x2:Lq1):Bool×Lq1:=let z1:=decide ((A10 x2 x1_1) ≥ (0:Int));(cond (x1_0==(1:Int)) (cond z1 (false,([]:Lq1)) (cond (A09 [] x1_2) (false,([]:Lq1)) (cond (!(B2b [] x1_2)) (false,([]:Lq1)) (true,[((1:Int),(x1_1,(D4 x1_2)))])))) (cond (x1_0==(3:Int)) (!z1,([]:Lq1)) (false,([]:Lq1))))
noncomputable abbrev A0l (r:Bool×Lq1):AV×List AObj×List Nat:=((.t true .bool r.1),[(.box [(.raw (.slice none 0 0)),(.all 1 3)]),(.rows 48 true tq4 r.2)],[])
noncomputable abbrev C4Z:A8K.den→AV×List AObj×List Nat:=fun d=>A0l (E3n d.1.2.1.1 d.1.2.1.2.1 d.1.2.1.2.2.1 d.1.2.2.1)
noncomputable def B7i (x1_0 x1_1:Int) (x1_2:Lq2) (x2:Lq1):Bool:=(A0z x2 x1_1)&&(cond (x1_0==(1:Int)) (cond (decide ((A10 x2 x1_1) ≥ (0:Int))) true ((X6 [] x1_2)&&(cond (A09 [] x1_2) true ((A43 [] x1_2)&&(cond (!(B2b [] x1_2)) true ((C4 x1_2)&&(decide ([((1:Int),(x1_1,(D4 x1_2)))].length*40≤MAXB)))))))) ((A0z [] x1_1)&&(decide ((A10 [] x1_1)<(0:Int)))))
noncomputable abbrev C0Y:A8K.den→Bool:=fun d=>B7i d.1.2.1.1 d.1.2.1.2.1 d.1.2.1.2.2.1 d.1.2.2.1
theorem D18:C6L false [] [] [(0,1,99999,48,tq4)] G71 aLn Tryz.f55 A8K C0Y C4Z:=by
 rintro ⟨⟨_,⟨x1_0,x1_1,x1_2,_⟩,x2,_⟩,⟨⟨_,_,_⟩,_⟩⟩ hp
 change B7i x1_0 x1_1 x1_2 x2=true at hp
 unfold B7i at hp
 refine Eq.trans (b:=(let z1:=A0l (false,([]:Lq1));let z2:=decide ((A10 x2 x1_1) ≥ (0:Int));let z3:=D4 x1_2;cond (A0z x2 x1_1) (cond (x1_0==(1:Int)) (cond z2 (some z1) (cond (X6 [] x1_2) (cond (A09 [] x1_2) (some z1) (cond (A43 [] x1_2) (cond (!(B2b [] x1_2)) (some z1) (cond (C4 x1_2) (cond (decide ([((1:Int),(x1_1,z3))].length*40≤MAXB)) (some (A0l (true,[((1:Int),(x1_1,z3))]))) none) none)) none)) none)) (cond (A0z [] x1_1) (cond (decide ((A10 [] x1_1)<(0:Int))) (cond (x1_0==(3:Int)) (some (A0l (!z2,([]:Lq1)))) (some z1)) (cond (x1_0==(2:Int)) none none)) none)) none)) (by kernel_rfl) ?_
 exact (B2 hp fun hp=>(A9 A0l hp (fun hp=>(A9 A0l hp (fun hp=>rfl) (fun hp=>(B2 hp fun hp=>(A9 A0l hp (fun hp=>rfl) (fun hp=>(B2 hp fun hp=>(A9 A0l hp (fun hp=>rfl) (fun hp=>(B2 hp fun hp=>(B7 hp fun _h=>rfl))))))))))) (fun hp=>(B2 hp fun hp=>(B7 hp fun _h=>(A18 A0l (fun _h=>rfl) (fun _h=>rfl)))))))
noncomputable abbrev B0Q:=win B0 (msum A8K C0Y C4Z)
theorem B7l:aPM 55 B0Q:=(mcE false [] [] [(0,1,99999,48,tq4)]  G71 hlz D18).win B0
noncomputable def S72:Tab:=Tab.add S71 55 (B0Q)
noncomputable def F15:FuncId→Bool:=F2m
theorem G72:aPG S72 F15:=G71.addM B7l (C1 _) (cbl Tryz.f55) (by kernel_rfl)


end Go.Proofs.YtapikgcgahomlaaGreat.Eng
