/- What the functions that FnMadeSure reaches compute: further. -/
import Derived.Test.YtapikgcgahomlaaGreatFMadeSureB
namespace Go.Proofs.YtapikgcgahomlaaGreat.Eng
open Go Go.RowKit
set_option linter.unusedSimpArgs false
set_option linter.unusedVariables false
set_option maxRecDepth 10000
abbrev A16:SS:=⟨[.all 0 3,tI,tI],[.rows 48 true tq4]⟩
noncomputable def U7 (x1 x2:Int) (h0:Lq1):Lq1:=let z1:=(h0.drop x2.toNat).take ((h0.length:Int).toNat - x2.toNat);let z2:=(h0.length:Int).toNat - ((x1.toNat+z1.length:Nat):Int).toNat;let z3:=(h0.take x1.toNat++z1)++h0.drop (x1.toNat+z1.length);(cond (x1==x2) h0 (((z3.take (((x1.toNat+z1.length:Nat):Int).toNat)++List.replicate z2 ((0:Int),((0:Int),[])))++z3.drop ((((x1.toNat+z1.length:Nat):Int).toNat)+z2)).take (x1.toNat+z1.length)))
noncomputable abbrev A2n (r:Lq1):AV×List AObj×List Nat:=((.all 0 3),[(.rows 48 true tq4 r)],[0])
noncomputable abbrev B1Q:A16.den→AV×List AObj×List Nat:=fun d=>A2n (U7 d.1.2.1 d.1.2.2.1 d.2.1)
noncomputable def L6 (x1 x2:Int) (h0:Lq1):Bool:=let z1:=(h0.drop x2.toNat).take ((h0.length:Int).toNat - x2.toNat);(decide (0≤x1∧x1≤x2∧x2≤(h0.length:Int)∧(h0.length:Int)≤(h0.length:Int)))&&(cond (x1==x2) true ((decide (0≤(0:Int)∧(0:Int)≤x1∧x1≤(h0.length:Int)))&&((decide (0≤x2∧x2≤(h0.length:Int)∧(h0.length:Int)≤(h0.length:Int)))&&((decide (x1.toNat+z1.length≤h0.length))&&(decide (0≤((x1.toNat+z1.length:Nat):Int)∧((x1.toNat+z1.length:Nat):Int)≤(h0.length:Int)∧(h0.length:Int)≤((((h0.take x1.toNat++z1)++h0.drop (x1.toNat+z1.length)).length:Nat):Int)))))))
noncomputable abbrev A9C:A16.den→Bool:=fun d=>L6 d.1.2.1 d.1.2.2.1 d.2.1
theorem B9A:C6L false [] [0] [] G72 aLn Tryz.f86 A16 A9C B1Q:=by
 rintro ⟨⟨_,x1,x2,_⟩,⟨h0,_⟩⟩ hp
 change L6 x1 x2 h0=true at hp
 unfold L6 at hp
 refine Eq.trans (b:=(let z1:=(h0.drop x2.toNat).take ((h0.length:Int).toNat - x2.toNat);let z2:=(h0.take x1.toNat++z1)++h0.drop (x1.toNat+z1.length);let z3:=(h0.length:Int).toNat - ((x1.toNat+z1.length:Nat):Int).toNat;cond (decide (0≤x1∧x1≤x2∧x2≤(h0.length:Int)∧(h0.length:Int)≤(h0.length:Int))) (cond (x1==x2) (some (A2n h0)) (cond (decide (0≤(0:Int)∧(0:Int)≤x1∧x1≤(h0.length:Int))) (cond (decide (0≤x2∧x2≤(h0.length:Int)∧(h0.length:Int)≤(h0.length:Int))) (cond (decide (x1.toNat+z1.length≤h0.length)) (cond (decide (0≤((x1.toNat+z1.length:Nat):Int)∧((x1.toNat+z1.length:Nat):Int)≤(h0.length:Int)∧(h0.length:Int)≤((z2.length:Nat):Int))) (some (A2n (((z2.take (((x1.toNat+z1.length:Nat):Int).toNat)++List.replicate z3 ((0:Int),((0:Int),[])))++z2.drop ((((x1.toNat+z1.length:Nat):Int).toNat)+z3)).take (x1.toNat+z1.length)))) none) none) none) none)) none)) (by kernel_rfl) ?_
 exact (B2 hp fun hp=>(A9 A2n hp (fun hp=>rfl) (fun hp=>(B2 hp fun hp=>(B2 hp fun hp=>(B2 hp fun hp=>(B7 hp fun _h=>rfl)))))))
noncomputable abbrev B1O:=win B0 (msum A16 A9C B1Q)
theorem C2F:aPM 86 B1O:=(mcE false [] [0] []  G72 hlz B9A).win B0
noncomputable def S73:Tab:=Tab.add S72 86 (B1O)
noncomputable def F1Y:FuncId→Bool:=F15
theorem G73:aPG S73 F1Y:=G72.addM C2F (C1 _) (cbl Tryz.f86) (by kernel_rfl)

abbrev A4S:SS:=⟨[.ptr 0 0 1 0,.agg [.t true (.int .i64),.t true (.int .i64),.t false tq5],.t false tq3],[.box [.nil,.all 1 3],.rows 48 true tq4]⟩
noncomputable def D27 (x1_0 x1_1:Int) (x1_2:Lq2) (x2 h1:Lq1):Bool×Lq1×LBBe:=let z3:=A10 h1 x1_1;let z1:=U7 z3 (wI (z3+(1:Int))) h1;let z2:=C0e [] (((h1.getD (z3.toNat) ((0:Int),((0:Int),[]))).2).2);let z4:=decide ((A10 x2 x1_1) ≥ (0:Int));(cond (x1_0==(1:Int)) (cond z4 (false,h1,([]:LBBe)) (cond (A09 h1 x1_2) (false,h1,([]:LBBe)) (cond (!(B2b [] x1_2)) (false,h1,([]:LBBe)) (true,h1++[((1:Int),(x1_1,(D4 x1_2)))],([]:LBBe))))) (cond (decide (z3<(0:Int))) (cond (x1_0==(3:Int)) (!z4,h1,([]:LBBe)) (false,h1,([]:LBBe))) (cond (x1_0==(2:Int)) (decide (((z2.length:Nat):Int)≤(60:Int)),z1,z2) (decide (((0:Nat):Int)≤(60:Int)),z1,([]:LBBe)))))
noncomputable abbrev K3 (r:Bool×Lq1×LBBe):AV×List AObj×List Nat:=((.t true .bool r.1),[(.box [(.all 2 2),(.all 1 3)]),(.rows 48 true tq4 r.2.1),(.rows 50 true D0 r.2.2)],[1])
noncomputable abbrev B8r:A4S.den→AV×List AObj×List Nat:=fun d=>K3 (D27 d.1.2.1.1 d.1.2.1.2.1 d.1.2.1.2.2.1 d.1.2.2.1 d.2.2.1)
noncomputable def A96 (x1_0 x1_1:Int) (x1_2:Lq2) (x2 h1:Lq1):Bool:=let z1:=A10 h1 x1_1;let z2:=L6 z1 (wI (z1+(1:Int))) h1;(A0z x2 x1_1)&&(cond (x1_0==(1:Int)) (cond (decide ((A10 x2 x1_1) ≥ (0:Int))) true ((X6 h1 x1_2)&&(cond (A09 h1 x1_2) true ((A43 [] x1_2)&&(cond (!(B2b [] x1_2)) true ((C4 x1_2)&&(decide ((h1.length+[((1:Int),(x1_1,(D4 x1_2)))].length)*40≤MAXB)))))))) ((A0z h1 x1_1)&&(cond (decide (z1<(0:Int))) true (cond (x1_0==(2:Int)) ((decide (0≤z1∧z1<(h1.length:Int)))&&((A8I [] (((h1.getD (z1.toNat) ((0:Int),((0:Int),[]))).2).2))&&z2)) z2))))
noncomputable abbrev B4T:A4S.den→Bool:=fun d=>A96 d.1.2.1.1 d.1.2.1.2.1 d.1.2.1.2.2.1 d.1.2.2.1 d.2.2.1
theorem C6o:C6L false [] [1] [(0,0,99999,50,D0)] G73 aLn Tryz.f55 A4S B4T B8r:=by
 rintro ⟨⟨_,⟨x1_0,x1_1,x1_2,_⟩,x2,_⟩,⟨⟨_,_,_⟩,h1,_⟩⟩ hp
 change A96 x1_0 x1_1 x1_2 x2 h1=true at hp
 unfold A96 at hp
 refine Eq.trans (b:=(let z1:=A10 h1 x1_1;let z2:=K3 (false,h1,([]:LBBe));let z3:=((h1.getD (z1.toNat) ((0:Int),((0:Int),[]))).2).2;let z4:=wI (z1+(1:Int));let z5:=decide ((A10 x2 x1_1) ≥ (0:Int));let z6:=L6 z1 z4 h1;let z7:=U7 z1 z4 h1;let z8:=D4 x1_2;cond (A0z x2 x1_1) (cond (x1_0==(1:Int)) (cond z5 (some z2) (cond (X6 h1 x1_2) (cond (A09 h1 x1_2) (some z2) (cond (A43 [] x1_2) (cond (!(B2b [] x1_2)) (some z2) (cond (C4 x1_2) (cond (decide ((h1.length+[((1:Int),(x1_1,z8))].length)*40≤MAXB)) (some (K3 (true,h1++[((1:Int),(x1_1,z8))],([]:LBBe)))) none) none)) none)) none)) (cond (A0z h1 x1_1) (cond (decide (z1<(0:Int))) (cond (x1_0==(3:Int)) (some (K3 (!z5,h1,([]:LBBe)))) (some z2)) (cond (x1_0==(2:Int)) (cond (decide (0≤z1∧z1<(h1.length:Int))) (cond (A8I [] z3) (cond z6 (some (K3 (decide ((((C0e [] z3).length:Nat):Int)≤(60:Int)),z7,(C0e [] z3)))) none) none) none) (cond z6 (some (K3 (decide (((0:Nat):Int)≤(60:Int)),z7,([]:LBBe)))) none))) none)) none)) (by kernel_rfl) ?_
 exact (B2 hp fun hp=>(A9 K3 hp (fun hp=>(A9 K3 hp (fun hp=>rfl) (fun hp=>(B2 hp fun hp=>(A9 K3 hp (fun hp=>rfl) (fun hp=>(B2 hp fun hp=>(A9 K3 hp (fun hp=>rfl) (fun hp=>(B2 hp fun hp=>(B7 hp fun _h=>rfl))))))))))) (fun hp=>(B2 hp fun hp=>(A9 K3 hp (fun hp=>(A18 K3 (fun _h=>rfl) (fun _h=>rfl))) (fun hp=>(A9 K3 hp (fun hp=>(B2 hp fun hp=>(B2 hp fun hp=>(B7 hp fun _h=>rfl)))) (fun hp=>(B7 hp fun _h=>rfl)))))))))
noncomputable abbrev A97:=win B0 (msum A4S B4T B8r)
theorem B7G:aPM 55 A97:=(mcE false [] [1] [(0,0,99999,50,D0)]  G73 hlz C6o).win B0
noncomputable def S74:Tab:=Tab.add S73 55 (A7a (B0Q) (A97))
noncomputable def F2e:FuncId→Bool:=F1Y
theorem G74:aPG S74 F2e:=G73.addM (MContract.orElse B7l B7G) (A6c (C1 _) (C1 _)) (cbl Tryz.f55) (by kernel_rfl)

abbrev A4R:SS:=⟨[.ptr 0 0 1 0,.agg [.t true (.int .i64),.t true (.int .i64),.t false tq5],.t false tq3],[.box [.all 1 2,.all 2 3],.rows 50 true D0,.rows 48 true tq4]⟩
noncomputable def A5L (x1_0 x1_1:Int) (x1_2:Lq2) (x2:Lq1) (h1:LBBe) (h2:Lq1):Bool×LBBe×Lq1:=let z3:=A10 h2 x1_1;let z1:=U7 z3 (wI (z3+(1:Int))) h2;let z2:=C0e h1 (((h2.getD (z3.toNat) ((0:Int),((0:Int),[]))).2).2);let z4:=decide ((A10 x2 x1_1) ≥ (0:Int));(cond (x1_0==(1:Int)) (cond z4 (false,h1,h2) (cond (A09 h2 x1_2) (false,h1,h2) (cond (!(B2b h1 x1_2)) (false,h1,h2) (true,h1,h2++[((1:Int),(x1_1,(D4 x1_2)))])))) (cond (decide (z3<(0:Int))) (cond (x1_0==(3:Int)) (!z4,h1,h2) (false,h1,h2)) (cond (x1_0==(2:Int)) (decide (((z2.length:Nat):Int)≤(60:Int)),z2,z1) (decide ((h1.length:Int)≤(60:Int)),h1,z1))))
noncomputable abbrev K2 (r:Bool×LBBe×Lq1):AV×List AObj×List Nat:=((.t true .bool r.1),[(.box [(.all 1 2),(.all 2 3)]),(.rows 50 true D0 r.2.1),(.rows 48 true tq4 r.2.2)],[1,2])
noncomputable abbrev B8v:A4R.den→AV×List AObj×List Nat:=fun d=>K2 (A5L d.1.2.1.1 d.1.2.1.2.1 d.1.2.1.2.2.1 d.1.2.2.1 d.2.2.1 d.2.2.2.1)
noncomputable def V0 (x1_0 x1_1:Int) (x1_2:Lq2) (x2:Lq1) (h1:LBBe) (h2:Lq1):Bool:=let z1:=A10 h2 x1_1;let z2:=L6 z1 (wI (z1+(1:Int))) h2;(A0z x2 x1_1)&&(cond (x1_0==(1:Int)) (cond (decide ((A10 x2 x1_1) ≥ (0:Int))) true ((X6 h2 x1_2)&&(cond (A09 h2 x1_2) true ((A43 h1 x1_2)&&(cond (!(B2b h1 x1_2)) true ((C4 x1_2)&&(decide ((h2.length+[((1:Int),(x1_1,(D4 x1_2)))].length)*40≤MAXB)))))))) ((A0z h2 x1_1)&&(cond (decide (z1<(0:Int))) true (cond (x1_0==(2:Int)) ((decide (0≤z1∧z1<(h2.length:Int)))&&((A8I h1 (((h2.getD (z1.toNat) ((0:Int),((0:Int),[]))).2).2))&&z2)) z2))))
noncomputable abbrev B3O:A4R.den→Bool:=fun d=>V0 d.1.2.1.1 d.1.2.1.2.1 d.1.2.1.2.2.1 d.1.2.2.1 d.2.2.1 d.2.2.2.1
theorem C6C:C6L false [] [1,2] [(0,0,1,50,D0)] G74 aLn Tryz.f55 A4R B3O B8v:=by
 rintro ⟨⟨_,⟨x1_0,x1_1,x1_2,_⟩,x2,_⟩,⟨⟨_,_,_⟩,h1,h2,_⟩⟩ hp
 change V0 x1_0 x1_1 x1_2 x2 h1 h2=true at hp
 unfold V0 at hp
 refine Eq.trans (b:=(let z1:=A10 h2 x1_1;let z2:=((h2.getD (z1.toNat) ((0:Int),((0:Int),[]))).2).2;let z3:=K2 (false,h1,h2);let z4:=wI (z1+(1:Int));let z5:=decide ((A10 x2 x1_1) ≥ (0:Int));let z6:=L6 z1 z4 h2;let z7:=U7 z1 z4 h2;let z8:=D4 x1_2;cond (A0z x2 x1_1) (cond (x1_0==(1:Int)) (cond z5 (some z3) (cond (X6 h2 x1_2) (cond (A09 h2 x1_2) (some z3) (cond (A43 h1 x1_2) (cond (!(B2b h1 x1_2)) (some z3) (cond (C4 x1_2) (cond (decide ((h2.length+[((1:Int),(x1_1,z8))].length)*40≤MAXB)) (some (K2 (true,h1,h2++[((1:Int),(x1_1,z8))]))) none) none)) none)) none)) (cond (A0z h2 x1_1) (cond (decide (z1<(0:Int))) (cond (x1_0==(3:Int)) (some (K2 (!z5,h1,h2))) (some z3)) (cond (x1_0==(2:Int)) (cond (decide (0≤z1∧z1<(h2.length:Int))) (cond (A8I h1 z2) (cond z6 (some (K2 (decide ((((C0e h1 z2).length:Nat):Int)≤(60:Int)),(C0e h1 z2),z7))) none) none) none) (cond z6 (some (K2 (decide ((h1.length:Int)≤(60:Int)),h1,z7))) none))) none)) none)) (by kernel_rfl) ?_
 exact (B2 hp fun hp=>(A9 K2 hp (fun hp=>(A9 K2 hp (fun hp=>rfl) (fun hp=>(B2 hp fun hp=>(A9 K2 hp (fun hp=>rfl) (fun hp=>(B2 hp fun hp=>(A9 K2 hp (fun hp=>rfl) (fun hp=>(B2 hp fun hp=>(B7 hp fun _h=>rfl))))))))))) (fun hp=>(B2 hp fun hp=>(A9 K2 hp (fun hp=>(A18 K2 (fun _h=>rfl) (fun _h=>rfl))) (fun hp=>(A9 K2 hp (fun hp=>(B2 hp fun hp=>(B2 hp fun hp=>(B7 hp fun _h=>rfl)))) (fun hp=>(B7 hp fun _h=>rfl)))))))))
noncomputable abbrev B7J:=win B0 (msum A4R B3O B8v)
theorem D0n:aPM 55 B7J:=(mcE false [] [1,2] [(0,0,1,50,D0)]  G74 hlz C6C).win B0
noncomputable def S75:Tab:=Tab.add S74 55 (A7a (A7a (B0Q) (A97)) (B7J))
noncomputable def F2z:FuncId→Bool:=F2e
theorem G75:aPG S75 F2z:=G74.addM (MContract.orElse (MContract.orElse B7l B7G) D0n) (A6c (A6c (C1 _) (C1 _)) (C1 _)) (cbl Tryz.f55) (by kernel_rfl)

abbrev F4L:List AV:=.junk::.junk::.junk::E8b
abbrev A6N:List PSh:=[.t tq3]
abbrev T8:SS:=⟨(.t false tq3::.junk::.junk::.junk::.junk::.ptr 0 0 1 0::.junk::.junk::.t false tq3::tI::tI::E3z),[.box [.all 1 2,.all 2 3],.rows 50 true D0,.rows 48 true tq4]⟩
abbrev A8s:SS:=⟨(.junk::.junk::.nil::.nil::.t true .bool::E9z),[]⟩
abbrev B6e:SS:=⟨(.junk::.junk::.junk::.junk::.junk::.ptr 0 0 1 0::D7e),[.box [.all 1 2,.all 2 3],.rows 50 true D0,.rows 48 true tq4]⟩
noncomputable def A9m (x8:Lq1) (x10:Int):=let z1:=x8.getD x10.toNat ((0:Int),((0:Int),[]));E0a (z1.1) ((z1.2).1) ((z1.2).2)
noncomputable def A9y (x0 x8:Lq1) (x10:Int) (h1:LBBe) (h2:Lq1):=let z1:=x8.getD x10.toNat ((0:Int),((0:Int),[]));A5L (z1.1) ((z1.2).1) ((z1.2).2) ((x0.take x10.toNat).drop (0:Int).toNat) h1 h2
noncomputable def B8l (x0 x8:Lq1) (x9 x10:Int) (h1:LBBe) (h2:Lq1):RT T8.den:=let z1:=x8.getD x10.toNat ((0:Int),((0:Int),[]));let z2:=A9y x0 x8 x10 h1 h2;(.br (decide (x10<x9)) (.br (decide (0≤x10∧x10<(x8.length:Int))) (.br (B3N (z1.1) ((z1.2).1) ((z1.2).2)) (.br (!(A9m x8 x10)) (.done .ret A8s (((),(),(),(),false,u27),())) (.br (decide (0≤(0:Int)∧(0:Int)≤x10∧x10≤(x0.length:Int))) (.br (V0 (z1.1) ((z1.2).1) ((z1.2).2) ((x0.take x10.toNat).drop (0:Int).toNat) h1 h2) (.br (!(z2.1)) (.done .ret A8s (((),(),(),(),false,u27),())) (.next ((x0,(),(),(),(),(),(),(),x8,x9,wI (x10+(1:Int)),u21),(((),(),()),(z2.2.1),(z2.2.2),())))) .fail) .fail)) .fail) .fail) (.done (.exit 0) B6e ((u32),(((),(),()),h1,h2,()))))
abbrev A30:=(Lq1)×Lq1×(Int)×(Int)×LBBe×(Lq1)
abbrev A2f:=Nat×(Bool)×LBBe×(Lq1)
def A1E:A2f:=(99,(false:Bool),([]:LBBe),([]:Lq1))
noncomputable def A3c (x0 x8:Lq1) (x9 x10:Int) (h1:LBBe) (h2:Lq1):A30 ⊕ A2f:=let z1:=x8.getD x10.toNat ((0:Int),((0:Int),[]));let z2:=A9y x0 x8 x10 h1 h2;(cond (decide (x10<x9)) (cond (decide (0≤x10∧x10<(x8.length:Int))) (cond (B3N (z1.1) ((z1.2).1) ((z1.2).2)) (cond (!(A9m x8 x10)) (.inr (0,false,([]:LBBe),([]:Lq1))) (cond (decide (0≤(0:Int)∧(0:Int)≤x10∧x10≤(x0.length:Int))) (cond (V0 (z1.1) ((z1.2).1) ((z1.2).2) ((x0.take x10.toNat).drop (0:Int).toNat) h1 h2) (cond (!(z2.1)) (.inr (0,false,([]:LBBe),([]:Lq1))) (.inl (x0,x8,x9,wI (x10+(1:Int)),(z2.2.1),(z2.2.2)))) (.inr A1E)) (.inr A1E))) (.inr A1E)) (.inr A1E)) (.inr (1,(false:Bool),h1,h2)))
noncomputable def B8w (x0 x8:Lq1) (x9 x10:Int) (h1:LBBe) (h2:Lq1):A2f:=itX (fun v:A30=>A3c v.1 v.2.1 v.2.2.1 v.2.2.2.1 v.2.2.2.2.1 v.2.2.2.2.2) A1E (x0,x8,x9,x10,h1,h2)
noncomputable def B0i (a:A2f):CT:=(.br (a.1==0) (.done .ret A8s (((),(),(),(),a.2.1,u27),())) (.br (a.1==1) (.done (.exit 0) B6e ((u32),(((),(),()),a.2.2.1,a.2.2.2,()))) .fail))
noncomputable def D15 (x0 x8:Lq1) (x9 x10:Int) (h1:LBBe) (h2:Lq1):CT:=B0i (B8w x0 x8 x9 x10 h1 h2)
noncomputable abbrev A52 {α:Sort _} (f:Lq1→Lq1→Int→Int→LBBe→Lq1→α) (d:T8.den):α:=f d.1.1 d.1.2.2.2.2.2.2.2.2.1 d.1.2.2.2.2.2.2.2.2.2.1 d.1.2.2.2.2.2.2.2.2.2.2.1 d.2.2.1 d.2.2.2.1
noncomputable abbrev B0x:T8.den→RT T8.den:=(A52 B8l)
noncomputable def B47:Code:=((A6 0 (B4 Tryz.f28)).getD 0 (0,.skip)).2
noncomputable abbrev B8y (v:A30):T8.den:=((v.1,(),(),(),(),(),(),(),v.2.1,v.2.2.1,v.2.2.2.1,u21),(((),(),()),v.2.2.2.2.1,v.2.2.2.2.2,()))
theorem C9r:(∀ v:A30,(B8l v.1 v.2.1 v.2.2.1 v.2.2.2.1 v.2.2.2.2.1 v.2.2.2.2.2).val=R5 B8y B0i (A3c v.1 v.2.1 v.2.2.1 v.2.2.2.1 v.2.2.2.2.1 v.2.2.2.2.2))∧∀ a:A2f,CEnd T8.den (B0i a):=⟨fun v=>by repeat' first | apply B3 | rfl,fun a=>(C5 aCD (C5 aCD K7))⟩
noncomputable def B8n (x0 x8:Lq1) (x9 x10:Int) (h1:LBBe) (h2:Lq1):Option (Ex×St):=let z1:=x8.getD x10.toNat ((0:Int),((0:Int),[]));let z2:=(⟨(.junk::.junk::(.raw (.slice none 0 0))::(.raw (.slice none 0 0))::(.t true .bool false)::F2Y),[],0,[]⟩:St);let z3:=A9y x0 x8 x10 h1 h2;(cond (decide (x10<x9)) (cond (decide (0≤x10∧x10<(x8.length:Int))) (cond (B3N (z1.1) ((z1.2).1) ((z1.2).2)) (cond (!(A9m x8 x10)) (some (.ret,z2)) (cond (decide (0≤(0:Int)∧(0:Int)≤x10∧x10≤(x0.length:Int))) (cond (V0 (z1.1) ((z1.2).1) ((z1.2).2) ((x0.take x10.toNat).drop (0:Int).toNat) h1 h2) (cond (!(z3.1)) (some (.ret,z2)) (some (.normal,(⟨((.t false tq3 x0)::.junk::.junk::.junk::.junk::(.ptr 0 0 1 0)::.junk::.junk::(.t false tq3 x8)::(ti x9)::(ti (wI (x10+(1:Int))))::F4L),[(.box [(.all 1 2),(.all 2 3)]),(.rows 50 true D0 (z3.2.1)),(.rows 48 true tq4 (z3.2.2))],0,[]⟩:St)))) none) none)) none) none) (some ((.exit 0),(⟨(.junk::.junk::.junk::.junk::.junk::(.ptr 0 0 1 0)::F0b),[(.box [(.all 1 2),(.all 2 3)]),(.rows 50 true D0 h1),(.rows 48 true tq4 h2)],0,[]⟩:St))))
theorem C77:RdA G75 aLn 0 B47 T8 0 [] (kepts [2,3,4] [(0,[5])]) (A52 B8n):=by
 intro d
 kernel_rfl
theorem C7n:∀ d:T8.den,(A52 B8n) d=(B0x d).opt 0 []:=by
 intro d
 kernel_rfl
noncomputable abbrev B6v:St→Option Tree:=T8.say 0 [] [(2005001,48,tq4),(2005000,50,D0)] (A52 D15)
theorem C9R:aPL B6v B47:=SS.wp2 hlz [(2005001,48,tq4),(2005000,50,D0)] B0x C77 C7n _ (fun d=>Runs.ofI2 (step:=B0x) B8y C9r rfl (d.1.1,d.1.2.2.2.2.2.2.2.2.1,d.1.2.2.2.2.2.2.2.2.2.1,d.1.2.2.2.2.2.2.2.2.2.2.1,d.2.2.1,d.2.2.2.1))
noncomputable def X2 (a0:Lq1):=B8w a0 a0 (a0.length:Int) (0:Int) ([]:LBBe) ([]:Lq1)
noncomputable def A5J (a0:Lq1):LBBe×Lq1×Bool:=let z1:=X2 a0;(cond (z1.1==0) ([],[],(z1.2.1)) ((z1.2.2.1),(z1.2.2.2),true))
noncomputable abbrev B0V (r:LBBe×Lq1×Bool):AV×List AObj:=((.tup [(.t true tq8 r.1),(.t true tq3 r.2.1),(.t true .bool r.2.2)]),[])
noncomputable abbrev B6U:A1 A6N→AV×List AObj:=fun d=>B0V (A5J d.1)
noncomputable def A1z (a0:Lq1):Bool:=cond ((X2 a0).1==0) true ((X2 a0).1==1)
noncomputable abbrev B2j:A1 A6N→Bool:=fun d=>A1z d.1
noncomputable abbrev D6Q:Nat→St→Option Tree:=fun b=>match b with | 0=>B6v | _=>fun _=>none
theorem D2H:N0 true G75 (D6Q) Tryz.f28 A6N B2j B6U:=by
 rintro ⟨a0,_⟩ hp
 change A1z a0=true at hp
 unfold A1z at hp
 refine Eq.trans (b:=(let z1:=X2 a0;cond (z1.1==0) (some (B0V ([],[],(z1.2.1)))) (cond (z1.1==1) (some (B0V ((z1.2.2.1),(z1.2.2.2),true))) none))) (by kernel_rfl) ?_
 exact (A9 B0V hp (fun hp=>rfl) (fun hp=>(B7 hp fun _h=>rfl)))
theorem D6t:aPP 28 (A7 A6N B2j B6U):=pcD true G75 (hl1 (i:=0) (by kernel_rfl) C9R) D2H
noncomputable def S76:Tab:=Tab.add S75 28 (lift (A7 A6N B2j B6U))
noncomputable def F4e:FuncId→Bool:=qadd F2z 28
theorem G76:aPG S76 F4e:=G75.addQ D6t (cbl Tryz.f28) (fun _=>rfl)

abbrev A0y:List PSh:=[.t tq8,.t tq8]
abbrev L5:SS:=⟨(.t false tq8::.t false tq8::.junk::.junk::.junk::.junk::.junk::.junk::.junk::.junk::.junk::.junk::tI::tI::E8X),[]⟩
abbrev A6R:SS:=⟨(.junk::.junk::.junk::.junk::.t true .bool::D3n),[]⟩
abbrev A6G:SS:=⟨(.junk::D7e),[]⟩
noncomputable def A7R (x0 x1:LBBe) (x12 x13:Int):RT L5.den:=let z1:=x0.getD x13.toNat (bE,bE);let z2:=x1.getD x13.toNat (bE,bE);(.br (decide (x13<x12)) (.br (decide (0≤x13∧x13<(x0.length:Int))) (.br (decide (0≤x13∧x13<(x1.length:Int))) (.br (!(((z1.1).toList==(z2.1).toList)&&(((z1.2).toList==(z2.2).toList)&&true))) (.done .ret A6R (((),(),(),(),false,u22),())) (.next ((x0,x1,(),(),(),(),(),(),(),(),(),(),x12,wI (x13+(1:Int)),u13),()))) .fail) .fail) (.done (.exit 0) A6G ((u27),())))
abbrev R0:=(LBBe)×LBBe×(Int)×(Int)
abbrev X3:=Nat×(Bool)
def A0Q:X3:=(99,(false:Bool))
noncomputable def V2 (x0 x1:LBBe) (x12 x13:Int):R0 ⊕ X3:=let z1:=x0.getD x13.toNat (bE,bE);let z2:=x1.getD x13.toNat (bE,bE);(cond (decide (x13<x12)) (cond (decide (0≤x13∧x13<(x0.length:Int))) (cond (decide (0≤x13∧x13<(x1.length:Int))) (cond (!(((z1.1).toList==(z2.1).toList)&&(((z1.2).toList==(z2.2).toList)&&true))) (.inr (0,false)) (.inl (x0,x1,x12,wI (x13+(1:Int))))) (.inr A0Q)) (.inr A0Q)) (.inr (1,(false:Bool))))
noncomputable def V1 (x0 x1:LBBe) (x12 x13:Int):X3:=itX (fun v:R0=>V2 v.1 v.2.1 v.2.2.1 v.2.2.2) A0Q (x0,x1,x12,x13)
noncomputable def A3g (a:X3):CT:=(.br (a.1==0) (.done .ret A6R (((),(),(),(),a.2,u22),())) (.br (a.1==1) (.done (.exit 0) A6G ((u27),())) .fail))
noncomputable def B8Q (x0 x1:LBBe) (x12 x13:Int):CT:=A3g (V1 x0 x1 x12 x13)
noncomputable abbrev A7T {α:Sort _} (f:LBBe→LBBe→Int→Int→α) (d:L5.den):α:=f d.1.1 d.1.2.1 d.1.2.2.2.2.2.2.2.2.2.2.2.2.1 d.1.2.2.2.2.2.2.2.2.2.2.2.2.2.1
noncomputable abbrev A2X:L5.den→RT L5.den:=(A7T A7R)
noncomputable def A6u:Code:=((A6 0 (B4 Tryz.f29)).getD 0 (0,.skip)).2
noncomputable abbrev A7Y (v:R0):L5.den:=((v.1,v.2.1,(),(),(),(),(),(),(),(),(),(),v.2.2.1,v.2.2.2,u13),())
theorem B7x:(∀ v:R0,(A7R v.1 v.2.1 v.2.2.1 v.2.2.2).val=R5 A7Y A3g (V2 v.1 v.2.1 v.2.2.1 v.2.2.2))∧∀ a:X3,CEnd L5.den (A3g a):=⟨fun v=>(B3 (B3 (B3 (B3 rfl rfl) rfl) rfl) rfl),fun a=>(C5 aCD (C5 aCD K7))⟩
theorem B6I:RdA G76 aLn 0 A6u L5 0 [] (kepts [4] [(0,[])]) (fun d=>(A2X d).opt 0 []):=by
 intro d
 kernel_rfl
noncomputable abbrev A6E:St→Option Tree:=L5.say 0 [] [] (A7T B8Q)
theorem B7M:aPL A6E A6u:=SS.wp2 hlz [] A2X B6I (fun d=>rfl) _ (fun d=>Runs.ofI2 (step:=A2X) A7Y B7x rfl (d.1.1,d.1.2.1,d.1.2.2.2.2.2.2.2.2.2.2.2.2.1,d.1.2.2.2.2.2.2.2.2.2.2.2.2.2.1))
noncomputable def U9 (a0 a1:LBBe):Bool:=let z1:=V1 a0 a1 (a0.length:Int) (0:Int);(cond ((a0.length:Int) != (a1.length:Int)) false (cond (z1.1==0) (z1.2) true))
noncomputable abbrev V5 (r:Bool):AV×List AObj:=((.t true .bool r),[])
noncomputable abbrev A5H:A1 A0y→AV×List AObj:=fun d=>V5 (U9 d.1 d.2.1)
noncomputable def P8 (a0 a1:LBBe):Bool:=let z1:=V1 a0 a1 (a0.length:Int) (0:Int);cond ((a0.length:Int) != (a1.length:Int)) true (cond (z1.1==0) true (z1.1==1))
noncomputable abbrev A3N:A1 A0y→Bool:=fun d=>P8 d.1 d.2.1
noncomputable abbrev C1D:Nat→St→Option Tree:=fun b=>match b with | 0=>A6E | _=>fun _=>none
theorem C0w:N0 true G76 (C1D) Tryz.f29 A0y A3N A5H:=by
 rintro ⟨a0,⟨a1,_⟩⟩ hp
 change P8 a0 a1=true at hp
 unfold P8 at hp
 refine Eq.trans (b:=(let z1:=V1 a0 a1 (a0.length:Int) (0:Int);cond ((a0.length:Int) != (a1.length:Int)) (some (V5 false)) (cond (z1.1==0) (some (V5 (z1.2))) (cond (z1.1==1) (some (V5 true)) none)))) (by kernel_rfl) ?_
 exact (A9 V5 hp (fun hp=>rfl) (fun hp=>(A9 V5 hp (fun hp=>rfl) (fun hp=>(B7 hp fun _h=>rfl)))))
theorem C3v:aPP 29 (A7 A0y A3N A5H):=pcD true G76 (hl1 (i:=0) (by kernel_rfl) B7M) C0w
noncomputable def S77:Tab:=Tab.add S76 29 (lift (A7 A0y A3N A5H))
noncomputable def F2b:FuncId→Bool:=qadd F4e 29
theorem G77:aPG S77 F2b:=G76.addQ C3v (cbl Tryz.f29) (fun _=>rfl)

abbrev A1R:List PSh:=[.t tq5,.t tq5]
abbrev N4:SS:=⟨(.t false tq5::.t false tq5::.junk::.junk::.junk::.junk::.junk::.junk::.junk::.junk::.junk::.junk::tI::tI::E8X),[]⟩
abbrev A89:SS:=⟨(.junk::.junk::.junk::.junk::.t true .bool::D3n),[]⟩
abbrev A9d:SS:=⟨(.junk::D7e),[]⟩
noncomputable def A9V (x0 x1:Lq2) (x12 x13:Int):RT N4.den:=let z1:=x0.getD x13.toNat ((0:Int),(bE,bE));let z2:=x1.getD x13.toNat ((0:Int),(bE,bE));(.br (decide (x13<x12)) (.br (decide (0≤x13∧x13<(x0.length:Int))) (.br (decide (0≤x13∧x13<(x1.length:Int))) (.br (!(((z1.1)==(z2.1))&&((((z1.2).1).toList==((z2.2).1).toList)&&((((z1.2).2).toList==((z2.2).2).toList)&&true)))) (.done .ret A89 (((),(),(),(),false,u22),())) (.next ((x0,x1,(),(),(),(),(),(),(),(),(),(),x12,wI (x13+(1:Int)),u13),()))) .fail) .fail) (.done (.exit 0) A9d ((u27),())))
abbrev V4:=(Lq2)×Lq2×(Int)×(Int)
abbrev A0s:=Nat×(Bool)
def A13:A0s:=(99,(false:Bool))
noncomputable def Z0 (x0 x1:Lq2) (x12 x13:Int):V4 ⊕ A0s:=let z1:=x0.getD x13.toNat ((0:Int),(bE,bE));let z2:=x1.getD x13.toNat ((0:Int),(bE,bE));(cond (decide (x13<x12)) (cond (decide (0≤x13∧x13<(x0.length:Int))) (cond (decide (0≤x13∧x13<(x1.length:Int))) (cond (!(((z1.1)==(z2.1))&&((((z1.2).1).toList==((z2.2).1).toList)&&((((z1.2).2).toList==((z2.2).2).toList)&&true)))) (.inr (0,false)) (.inl (x0,x1,x12,wI (x13+(1:Int))))) (.inr A13)) (.inr A13)) (.inr (1,(false:Bool))))
noncomputable def Y9 (x0 x1:Lq2) (x12 x13:Int):A0s:=itX (fun v:V4=>Z0 v.1 v.2.1 v.2.2.1 v.2.2.2) A13 (x0,x1,x12,x13)
noncomputable def A4G (a:A0s):CT:=(.br (a.1==0) (.done .ret A89 (((),(),(),(),a.2,u22),())) (.br (a.1==1) (.done (.exit 0) A9d ((u27),())) .fail))
noncomputable def C2Y (x0 x1:Lq2) (x12 x13:Int):CT:=A4G (Y9 x0 x1 x12 x13)
noncomputable abbrev A90 {α:Sort _} (f:Lq2→Lq2→Int→Int→α) (d:N4.den):α:=f d.1.1 d.1.2.1 d.1.2.2.2.2.2.2.2.2.2.2.2.2.1 d.1.2.2.2.2.2.2.2.2.2.2.2.2.2.1
noncomputable abbrev A4L:N4.den→RT N4.den:=(A90 A9V)
noncomputable def A7V:Code:=((A6 0 (B4 Tryz.f56)).getD 0 (0,.skip)).2
noncomputable abbrev A9X (v:V4):N4.den:=((v.1,v.2.1,(),(),(),(),(),(),(),(),(),(),v.2.2.1,v.2.2.2,u13),())
theorem C1B:(∀ v:V4,(A9V v.1 v.2.1 v.2.2.1 v.2.2.2).val=R5 A9X A4G (Z0 v.1 v.2.1 v.2.2.1 v.2.2.2))∧∀ a:A0s,CEnd N4.den (A4G a):=⟨fun v=>(B3 (B3 (B3 (B3 rfl rfl) rfl) rfl) rfl),fun a=>(C5 aCD (C5 aCD K7))⟩
theorem B9n:RdA G77 aLn 0 A7V N4 0 [] (kepts [4] [(0,[])]) (fun d=>(A4L d).opt 0 []):=by
 intro d
 kernel_rfl
noncomputable abbrev A8t:St→Option Tree:=N4.say 0 [] [] (A90 C2Y)
theorem C1v:aPL A8t A7V:=SS.wp2 hlz [] A4L B9n (fun d=>rfl) _ (fun d=>Runs.ofI2 (step:=A4L) A9X C1B rfl (d.1.1,d.1.2.1,d.1.2.2.2.2.2.2.2.2.2.2.2.2.1,d.1.2.2.2.2.2.2.2.2.2.2.2.2.2.1))
noncomputable def A22 (a0 a1:Lq2):Bool:=let z1:=Y9 a0 a1 (a0.length:Int) (0:Int);(cond ((a0.length:Int) != (a1.length:Int)) false (cond (z1.1==0) (z1.2) true))
noncomputable abbrev Z4 (r:Bool):AV×List AObj:=((.t true .bool r),[])
noncomputable abbrev A7H:A1 A1R→AV×List AObj:=fun d=>Z4 (A22 d.1 d.2.1)
noncomputable def U4 (a0 a1:Lq2):Bool:=let z1:=Y9 a0 a1 (a0.length:Int) (0:Int);cond ((a0.length:Int) != (a1.length:Int)) true (cond (z1.1==0) true (z1.1==1))
noncomputable abbrev A5X:A1 A1R→Bool:=fun d=>U4 d.1 d.2.1
noncomputable abbrev C6m:Nat→St→Option Tree:=fun b=>match b with | 0=>A8t | _=>fun _=>none
theorem C14:N0 true G77 (C6m) Tryz.f56 A1R A5X A7H:=by
 rintro ⟨a0,⟨a1,_⟩⟩ hp
 change U4 a0 a1=true at hp
 unfold U4 at hp
 refine Eq.trans (b:=(let z1:=Y9 a0 a1 (a0.length:Int) (0:Int);cond ((a0.length:Int) != (a1.length:Int)) (some (Z4 false)) (cond (z1.1==0) (some (Z4 (z1.2))) (cond (z1.1==1) (some (Z4 true)) none)))) (by kernel_rfl) ?_
 exact (A9 Z4 hp (fun hp=>rfl) (fun hp=>(A9 Z4 hp (fun hp=>rfl) (fun hp=>(B7 hp fun _h=>rfl)))))
theorem C6i:aPP 56 (A7 A1R A5X A7H):=pcD true G77 (hl1 (i:=0) (by kernel_rfl) C1v) C14
noncomputable def S78:Tab:=Tab.add S77 56 (lift (A7 A1R A5X A7H))
noncomputable def F3c:FuncId→Bool:=qadd F2b 56
theorem G78:aPG S78 F3c:=G77.addQ C6i (cbl Tryz.f56) (fun _=>rfl)

abbrev B4E:List PSh:=[.agg [(.int .i64),(.int .i64),tq5],.agg [(.int .i64),(.int .i64),tq5]]
noncomputable def C8I (a0 a1:Int) (a2:Lq2) (a3 a4:Int) (a5:Lq2):Bool:=(cond (a0==a3) (cond (a1==a4) (A22 a2 a5) false) false)
noncomputable abbrev B0n (r:Bool):AV×List AObj:=((.t true .bool r),[])
noncomputable abbrev C6v:A1 B4E→AV×List AObj:=fun d=>B0n (C8I d.1.1 d.1.2.1 d.1.2.2.1 d.2.1.1 d.2.1.2.1 d.2.1.2.2.1)
noncomputable def A5n (a0 a1:Int) (a2:Lq2) (a3 a4:Int) (a5:Lq2):Bool:=cond (a0==a3) (cond (a1==a4) (U4 a2 a5) true) true
noncomputable abbrev B9Y:A1 B4E→Bool:=fun d=>A5n d.1.1 d.1.2.1 d.1.2.2.1 d.2.1.1 d.2.1.2.1 d.2.1.2.2.1
theorem D9s:N0 true G78 aLn Tryz.f31 B4E B9Y C6v:=by
 rintro ⟨⟨a0,⟨a1,⟨a2,_⟩⟩⟩,⟨⟨a3,⟨a4,⟨a5,_⟩⟩⟩,_⟩⟩ hp
 change A5n a0 a1 a2 a3 a4 a5=true at hp
 unfold A5n at hp
 refine Eq.trans (b:=(cond (a0==a3) (cond (a1==a4) (cond (U4 a2 a5) (some (B0n (A22 a2 a5))) none) (some (B0n false))) (some (B0n false)))) (by kernel_rfl) ?_
 exact (A9 B0n hp (fun hp=>(A9 B0n hp (fun hp=>(B7 hp fun _h=>rfl)) (fun hp=>rfl))) (fun hp=>rfl))
theorem E5g:aPP 31 (A7 B4E B9Y C6v):=pcD true G78 hlz D9s
noncomputable def S79:Tab:=Tab.add S78 31 (lift (A7 B4E B9Y C6v))
noncomputable def F11:FuncId→Bool:=qadd F3c 31
theorem G79:aPG S79 F11:=G78.addQ E5g (cbl Tryz.f31) (fun _=>rfl)

abbrev F4I:List AV:=.junk::.junk::.junk::F1v
abbrev K8:SS:=⟨[.t false tq3,.t false tq3,.fn 31 []],[]⟩
abbrev B1:SS:=⟨(.junk::.t false tq3::.fn 31 []::.junk::.junk::.junk::.junk::.junk::.junk::.junk::.junk::.junk::.junk::.junk::.junk::.t false tq3::tI::tI::D52),[]⟩
abbrev W8:SS:=⟨(.junk::.junk::.junk::.junk::.junk::.junk::.t true .bool::D7e),[]⟩
abbrev W3:SS:=⟨(.junk::E9p),[]⟩
noncomputable def K9 (x1 x15:Lq1) (x17:Int):=let z1:=x15.getD x17.toNat ((0:Int),((0:Int),[]));let z2:=x1.getD x17.toNat ((0:Int),((0:Int),[]));C8I (z1.1) ((z1.2).1) ((z1.2).2) (z2.1) ((z2.2).1) ((z2.2).2)
noncomputable def Y2 (x1 x15:Lq1) (x16 x17:Int):RT B1.den:=let z1:=x15.getD x17.toNat ((0:Int),((0:Int),[]));let z2:=x1.getD x17.toNat ((0:Int),((0:Int),[]));(.br (decide (x17<x16)) (.br (decide (0≤x17∧x17<(x15.length:Int))) (.br (decide (0≤x17∧x17<(x1.length:Int))) (.br (A5n (z1.1) ((z1.2).1) ((z1.2).2) (z2.1) ((z2.2).1) ((z2.2).2)) (.br (!(K9 x1 x15 x17)) (.done .ret W8 (((),(),(),(),(),(),false,u26),())) (.next (((),x1,(),(),(),(),(),(),(),(),(),(),(),(),(),x15,x16,wI (x17+(1:Int)),u15),()))) .fail) .fail) .fail) (.done (.exit 0) W3 ((u33),())))
abbrev D9:=(Lq1)×Lq1×(Int)×(Int)
abbrev H9:=Nat×(Bool)
def F8:H9:=(99,(false:Bool))
noncomputable def H4 (x1 x15:Lq1) (x16 x17:Int):D9 ⊕ H9:=let z1:=x15.getD x17.toNat ((0:Int),((0:Int),[]));let z2:=x1.getD x17.toNat ((0:Int),((0:Int),[]));(cond (decide (x17<x16)) (cond (decide (0≤x17∧x17<(x15.length:Int))) (cond (decide (0≤x17∧x17<(x1.length:Int))) (cond (A5n (z1.1) ((z1.2).1) ((z1.2).2) (z2.1) ((z2.2).1) ((z2.2).2)) (cond (!(K9 x1 x15 x17)) (.inr (0,false)) (.inl (x1,x15,x16,wI (x17+(1:Int))))) (.inr F8)) (.inr F8)) (.inr F8)) (.inr (1,(false:Bool))))
noncomputable def F9 (x1 x15:Lq1) (x16 x17:Int):H9:=itX (fun v:D9=>H4 v.1 v.2.1 v.2.2.1 v.2.2.2) F8 (x1,x15,x16,x17)
noncomputable def O4 (a:H9):CT:=(.br (a.1==0) (.done .ret W8 (((),(),(),(),(),(),a.2,u26),())) (.br (a.1==1) (.done (.exit 0) W3 ((u33),())) .fail))
noncomputable def A4M (x1 x15:Lq1) (x16 x17:Int):CT:=O4 (F9 x1 x15 x16 x17)
noncomputable abbrev K4 {α:Sort _} (f:Lq1→Lq1→Int→Int→α) (d:B1.den):α:=f d.1.2.1 d.1.2.2.2.2.2.2.2.2.2.2.2.2.2.2.2.1 d.1.2.2.2.2.2.2.2.2.2.2.2.2.2.2.2.2.1 d.1.2.2.2.2.2.2.2.2.2.2.2.2.2.2.2.2.2.1
noncomputable abbrev O6:B1.den→RT B1.den:=(K4 Y2)
noncomputable def W0:Code:=((A6 0 (B4 Tryz.f30)).getD 0 (0,.skip)).2
noncomputable abbrev Y3 (v:D9):B1.den:=(((),v.1,(),(),(),(),(),(),(),(),(),(),(),(),(),v.2.1,v.2.2.1,v.2.2.2,u15),())
theorem A4e:(∀ v:D9,(Y2 v.1 v.2.1 v.2.2.1 v.2.2.2).val=R5 Y3 O4 (H4 v.1 v.2.1 v.2.2.1 v.2.2.2))∧∀ a:H9,CEnd B1.den (O4 a):=⟨fun v=>(B3 (B3 (B3 (B3 (B3 rfl rfl) rfl) rfl) rfl) rfl),fun a=>(C5 aCD (C5 aCD K7))⟩
noncomputable def Y4 (x1 x15:Lq1) (x16 x17:Int):Option (Ex×St):=let z1:=x15.getD x17.toNat ((0:Int),((0:Int),[]));let z2:=x1.getD x17.toNat ((0:Int),((0:Int),[]));(cond (decide (x17<x16)) (cond (decide (0≤x17∧x17<(x15.length:Int))) (cond (decide (0≤x17∧x17<(x1.length:Int))) (cond (A5n (z1.1) ((z1.2).1) ((z1.2).2) (z2.1) ((z2.2).1) ((z2.2).2)) (cond (!(K9 x1 x15 x17)) (some (.ret,(⟨(.junk::.junk::.junk::.junk::.junk::.junk::(.t true .bool false)::F0b),[],0,[]⟩:St))) (some (.normal,(⟨(.junk::(.t false tq3 x1)::(.fn 31 [])::.junk::.junk::.junk::.junk::.junk::.junk::.junk::.junk::.junk::.junk::.junk::.junk::(.t false tq3 x15)::(ti x16)::(ti (wI (x17+(1:Int))))::F4I),[],0,[]⟩:St)))) none) none) none) (some ((.exit 0),(⟨(.junk::E8U),[],0,[]⟩:St))))
theorem A3D:RdA G79 aLn 0 W0 B1 0 [] (kepts [6] [(0,[])]) (K4 Y4):=by
 intro d
 kernel_rfl
theorem A3Q:∀ d:B1.den,(K4 Y4) d=(O6 d).opt 0 []:=by
 intro d
 kernel_rfl
noncomputable abbrev X8:St→Option Tree:=B1.say 0 [] [] (K4 A4M)
theorem A3V:aPL X8 W0:=SS.wp2 hlz [] O6 A3D A3Q _ (fun d=>Runs.ofI2 (step:=O6) Y3 A4e rfl (d.1.2.1,d.1.2.2.2.2.2.2.2.2.2.2.2.2.2.2.2.1,d.1.2.2.2.2.2.2.2.2.2.2.2.2.2.2.2.2.1,d.1.2.2.2.2.2.2.2.2.2.2.2.2.2.2.2.2.2.1))
noncomputable def K0 (x0 x1:Lq1):Bool:=let z1:=F9 x1 x0 (x0.length:Int) (0:Int);(cond ((x0.length:Int) != (x1.length:Int)) false (cond (z1.1==0) (z1.2) true))
noncomputable abbrev E7 (r:Bool):AV×List AObj×List Nat:=((.t true .bool r),[],[])
noncomputable abbrev A0C:K8.den→AV×List AObj×List Nat:=fun d=>E7 (K0 d.1.1 d.1.2.1)
noncomputable def C8 (x0 x1:Lq1):Bool:=let z1:=F9 x1 x0 (x0.length:Int) (0:Int);cond ((x0.length:Int) != (x1.length:Int)) true (cond (z1.1==0) true (z1.1==1))
noncomputable abbrev Z2:K8.den→Bool:=fun d=>C8 d.1.1 d.1.2.1
noncomputable abbrev A5g:Nat→St→Option Tree:=fun b=>match b with | 0=>X8 | _=>fun _=>none
theorem A4K:B0e G79 (A5g) Tryz.f30 K8 Z2 A0C:=by
 rintro ⟨⟨x0,x1,_,_⟩,_⟩ hp
 change C8 x0 x1=true at hp
 unfold C8 at hp
 refine Eq.trans (b:=(let z1:=F9 x1 x0 (x0.length:Int) (0:Int);cond ((x0.length:Int) != (x1.length:Int)) (some (E7 false)) (cond (z1.1==0) (some (E7 (z1.2))) (cond (z1.1==1) (some (E7 true)) none)))) (by kernel_rfl) ?_
 exact (A9 E7 hp (fun hp=>rfl) (fun hp=>(A9 E7 hp (fun hp=>rfl) (fun hp=>(B7 hp fun _h=>rfl)))))
noncomputable abbrev A0v:=winQ (msum K8 Z2 A0C)
theorem A5S:aPM 30 A0v:=(mcM G79 (hl1 (i:=0) (by kernel_rfl) A3V) A4K).winQ (A2F fun d=>⟨rfl,rfl⟩)
noncomputable def S80:Tab:=Tab.add S79 30 (A0v)
noncomputable def F3y:FuncId→Bool:=qadd F11 30
theorem G80:aPG S80 F3y:=G79.addMQ A5S (A1Q _) (cbl Tryz.f30) (A04 _)

abbrev B4L:List PSh:=[.agg [(.int .i64),tq3,(.int .i64),tq8,tq3]]
noncomputable def A46 (a0:Int) (a1:Lq1) (a2:Int) (a3:LBBe) (a4:Lq1):Bool:=let z1:=A5J a1;(cond (!(D78 a0)) false (cond (!(J0 a2 (0:Int) (a1.length:Int))) false (cond (decide ((wI ((a1.length:Int)+(a4.length:Int))) > (300:Int))) false (cond (z1.2.2) (cond (U9 (z1.1) a3) (K0 (z1.2.1) a4) false) false))))
noncomputable abbrev A01 (r:Bool):AV×List AObj:=((.t true .bool r),[])
noncomputable abbrev C6B:A1 B4L→AV×List AObj:=fun d=>A01 (A46 d.1.1 d.1.2.1 d.1.2.2.1 d.1.2.2.2.1 d.1.2.2.2.2.1)
noncomputable def A05 (a0:Int) (a1:Lq1) (a2:Int) (a3:LBBe) (a4:Lq1):Bool:=let z1:=A5J a1;cond (!(D78 a0)) true (cond (!(J0 a2 (0:Int) (a1.length:Int))) true (cond (decide ((wI ((a1.length:Int)+(a4.length:Int))) > (300:Int))) true ((A1z a1)&&(cond (z1.2.2) ((P8 (z1.1) a3)&&(cond (U9 (z1.1) a3) (C8 (z1.2.1) a4) true)) true))))
noncomputable abbrev C0u:A1 B4L→Bool:=fun d=>A05 d.1.1 d.1.2.1 d.1.2.2.1 d.1.2.2.2.1 d.1.2.2.2.2.1
theorem E0l:N0 true G80 aLn Tryz.f13 B4L C0u C6B:=by
 rintro ⟨⟨a0,⟨a1,⟨a2,⟨a3,⟨a4,_⟩⟩⟩⟩⟩,_⟩ hp
 change A05 a0 a1 a2 a3 a4=true at hp
 unfold A05 at hp
 refine Eq.trans (b:=(let z1:=A5J a1;cond (!(D78 a0)) (some (A01 false)) (cond (!(J0 a2 (0:Int) (a1.length:Int))) (some (A01 false)) (cond (decide ((wI ((a1.length:Int)+(a4.length:Int))) > (300:Int))) (some (A01 false)) (cond (A1z a1) (cond (z1.2.2) (cond (P8 (z1.1) a3) (cond (U9 (z1.1) a3) (cond (C8 (z1.2.1) a4) (some (A01 (K0 (z1.2.1) a4))) none) (some (A01 false))) none) (some (A01 false))) none))))) (by kernel_rfl) ?_
 exact (A9 A01 hp (fun hp=>rfl) (fun hp=>(A9 A01 hp (fun hp=>rfl) (fun hp=>(A9 A01 hp (fun hp=>rfl) (fun hp=>(B2 hp fun hp=>(A9 A01 hp (fun hp=>(B2 hp fun hp=>(A9 A01 hp (fun hp=>(B7 hp fun _h=>rfl)) (fun hp=>rfl)))) (fun hp=>rfl)))))))))
theorem E4c:aPP 13 (A7 B4L C0u C6B):=pcD true G80 hlz E0l
noncomputable def S81:Tab:=Tab.add S80 13 (lift (A7 B4L C0u C6B))
noncomputable def F37:FuncId→Bool:=qadd F3y 13
theorem G81:aPG S81 F37:=G80.addQ E4c (cbl Tryz.f13) (fun _=>rfl)

abbrev B1I:List PSh:=[.agg [(.int .i64),tq3,(.int .i64),tq8,tq3]]
noncomputable def B8e (a0:Int) (a1:Lq1) (a2:Int) (a3:LBBe) (a4:Lq1):Int×Lq1×Int×LBBe×Lq1:=let z1:=B34 a0 a1 a2 a3 a4;(cond (A46 a0 a1 a2 a3 a4) ((z1.1),(z1.2.1),(a1.length:Int),(z1.2.2.2.1),(z1.2.2.2.2)) ((z1.1),(z1.2.1),(z1.2.2.1),(z1.2.2.2.1),(z1.2.2.2.2)))
noncomputable abbrev B6u (r:Int×Lq1×Int×LBBe×Lq1):AV×List AObj:=((.agg [(ti r.1),(.t true tq3 r.2.1),(ti r.2.2.1),(.t true tq8 r.2.2.2.1),(.t true tq3 r.2.2.2.2)]),[])
noncomputable abbrev C3K:A1 B1I→AV×List AObj:=fun d=>B6u (B8e d.1.1 d.1.2.1 d.1.2.2.1 d.1.2.2.2.1 d.1.2.2.2.2.1)
noncomputable def A3u (a0:Int) (a1:Lq1) (a2:Int) (a3:LBBe) (a4:Lq1):Bool:=(A3I a0 a1 a2 a3 a4)&&(A05 a0 a1 a2 a3 a4)
noncomputable abbrev B65:A1 B1I→Bool:=fun d=>A3u d.1.1 d.1.2.1 d.1.2.2.1 d.1.2.2.2.1 d.1.2.2.2.2.1
theorem D6E:N0 true G81 aLn Tryz.f6 B1I B65 C3K:=by
 rintro ⟨⟨a0,⟨a1,⟨a2,⟨a3,⟨a4,_⟩⟩⟩⟩⟩,_⟩ hp
 change A3u a0 a1 a2 a3 a4=true at hp
 unfold A3u at hp
 refine Eq.trans (b:=(let z1:=B34 a0 a1 a2 a3 a4;cond (A3I a0 a1 a2 a3 a4) (cond (A05 a0 a1 a2 a3 a4) (cond (A46 a0 a1 a2 a3 a4) (some (B6u ((z1.1),(z1.2.1),(a1.length:Int),(z1.2.2.2.1),(z1.2.2.2.2)))) (some (B6u ((z1.1),(z1.2.1),(z1.2.2.1),(z1.2.2.2.1),(z1.2.2.2.2))))) none) none)) (by kernel_rfl) ?_
 exact (B2 hp fun hp=>(B7 hp fun _h=>(A18 B6u (fun _h=>rfl) (fun _h=>rfl))))
theorem E2t:aPP 6 (A7 B1I B65 C3K):=pcD true G81 hlz D6E
noncomputable def S82:Tab:=Tab.add S81 6 (lift (A7 B1I B65 C3K))
noncomputable def F3j:FuncId→Bool:=qadd F37 6
theorem G82:aPG S82 F3j:=G81.addQ E2t (cbl Tryz.f6) (fun _=>rfl)

abbrev LIbe:=List (Int×Bool)
abbrev tq7:Ty:=.pair (.int .i64) (.pair (.sl (.pair (.int .i64) (.pair .str .str))) (.pair (.int .i64) (.sl (.int .i64))))
abbrev A3m:Ty:=.pair (.int .i64) .bool
abbrev B11:List PSh:=[.t (.int .i64)]
noncomputable def C4a (a0:Int):Int×Int×Int×Int×LT1×LIbe:=(cond (!(C0 a0 (1:Int) (8:Int))) ((0:Int),(0:Int),(0:Int),(0:Int),([]:LT1),([]:LIbe)) (a0,(1:Int),(0:Int),(0:Int),([]:LT1),([]:LIbe)))
noncomputable abbrev B6A (r:Int×Int×Int×Int×LT1×LIbe):AV×List AObj:=((.agg [(ti r.1),(ti r.2.1),(ti r.2.2.1),(.all 0 4),(.all 1 2),(ti r.2.2.2.1)]),[(.rows 62 true tq7 r.2.2.2.2.1),(.rows 57 true A3m r.2.2.2.2.2)])
noncomputable abbrev C22:A1 B11→AV×List AObj:=fun d=>B6A (C4a d.1)
noncomputable abbrev B66:A1 B11→Bool:=fun d=>true
theorem D5P:N0 false G82 aLn Tryz.f76 B11 B66 C22:=by
 rintro ⟨a0,_⟩ hp
 refine Eq.trans (b:=(cond (!(C0 a0 (1:Int) (8:Int))) (some (B6A ((0:Int),(0:Int),(0:Int),(0:Int),([]:LT1),([]:LIbe)))) (some (B6A (a0,(1:Int),(0:Int),(0:Int),([]:LT1),([]:LIbe)))))) (by kernel_rfl) ?_
 exact (A18 B6A (fun _h=>rfl) (fun _h=>rfl))
theorem E0T:aPP 76 (A7 B11 B66 C22):=pcD false G82 hlz D5P
noncomputable def S83:Tab:=Tab.add S82 76 (lift (A7 B11 B66 C22))
noncomputable def F29:FuncId→Bool:=F3j
theorem G83:aPG S83 F29:=G82.add E0T (cbl Tryz.f76) (by kernel_rfl)

abbrev C8r:List PSh:=[.t .str]
abbrev B0B:SS:=⟨(.t true .str::.junk::.junk::tI::tI::E4W),[]⟩
abbrev D0G:SS:=⟨(.junk::.junk::.junk::tI::E4F),[]⟩
noncomputable def D5C (x0:ByteArray) (x3 x4:Int):RT B0B.den:=(.br (decide (x4<(x0.size:Int))) (.br (decide (0≤x4∧x4<(x0.size:Int))) (.next ((x0,(),(),iand .i64 (wI ((ixor .i64 x3 (wI (bt x0 x4)))*(16777619:Int))) (4294967295:Int),wI (x4+(1:Int)),u16),())) .fail) (.done (.exit 0) D0G (((),(),(),x3,u17),())))
abbrev B8F:=(ByteArray)×(Int)×(Int)
abbrev B8f:=Nat×(Int)
def C6J:B8f:=(99,((0:Int):Int))
noncomputable def B4q (x0:ByteArray) (x3 x4:Int):B8F ⊕ B8f:=(cond (decide (x4<(x0.size:Int))) (cond (decide (0≤x4∧x4<(x0.size:Int))) (.inl (x0,iand .i64 (wI ((ixor .i64 x3 (wI (bt x0 x4)))*(16777619:Int))) (4294967295:Int),wI (x4+(1:Int)))) (.inr C6J)) (.inr (0,x3)))
noncomputable def B5r (x0:ByteArray) (x3 x4:Int):B8f:=itX (fun v:B8F=>B4q v.1 v.2.1 v.2.2) C6J (x0,x3,x4)
noncomputable def C7a (a:B8f):CT:=(.br (a.1==0) (.done (.exit 0) D0G (((),(),(),a.2,u17),())) .fail)
noncomputable def E59 (x0:ByteArray) (x3 x4:Int):CT:=C7a (B5r x0 x3 x4)
noncomputable abbrev C6S:B0B.den→RT B0B.den:=(fun d=>D5C d.1.1 d.1.2.2.2.1 d.1.2.2.2.2.1)
noncomputable def C7L:Code:=((A6 0 (B4 Tryz.f120)).getD 0 (0,.skip)).2
noncomputable abbrev D5y (v:B8F):B0B.den:=((v.1,(),(),v.2.1,v.2.2,u16),())
theorem E36:(∀ v:B8F,(D5C v.1 v.2.1 v.2.2).val=R5 D5y C7a (B4q v.1 v.2.1 v.2.2))∧∀ a:B8f,CEnd B0B.den (C7a a):=⟨fun v=>(B3 (B3 rfl rfl) rfl),fun a=>(C5 aCD K7)⟩
theorem E0N:RdA G83 aLn 0 C7L B0B 0 [] (kepts [] [(0,[3])]) (fun d=>(C6S d).opt 0 []):=by
 intro d
 kernel_rfl
noncomputable abbrev D1t:St→Option Tree:=B0B.say 0 [] [] (fun d=>E59 d.1.1 d.1.2.2.2.1 d.1.2.2.2.2.1)
theorem E4w:aPL D1t C7L:=SS.wp2 hlz [] C6S E0N (fun d=>rfl) _ (fun d=>Runs.ofI2 (step:=C6S) D5y E36 rfl (d.1.1,d.1.2.2.2.1,d.1.2.2.2.2.1))
noncomputable def E5J (a0:ByteArray):Int:=((B5r a0 (2166136261:Int) (0:Int)).2)
noncomputable abbrev E5j (r:Int):AV×List AObj:=((ti r),[])
noncomputable abbrev D8N:A1 C8r→AV×List AObj:=fun d=>E5j (E5J d.1)
noncomputable def C4M (a0:ByteArray):Bool:=((B5r a0 (2166136261:Int) (0:Int)).1==0)
noncomputable abbrev D0w:A1 C8r→Bool:=fun d=>C4M d.1
noncomputable abbrev E92:Nat→St→Option Tree:=fun b=>match b with | 0=>D1t | _=>fun _=>none
theorem E6w:N0 true G83 (E92) Tryz.f120 C8r D0w D8N:=by
 rintro ⟨a0,_⟩ hp
 change C4M a0=true at hp
 unfold C4M at hp
 refine Eq.trans (b:=(let z1:=B5r a0 (2166136261:Int) (0:Int);cond (z1.1==0) (some (E5j (z1.2))) none)) (by kernel_rfl) ?_
 exact (B7 hp fun _h=>rfl)
theorem E9D:aPP 120 (A7 C8r D0w D8N):=pcD true G83 (hl1 (i:=0) (by kernel_rfl) E4w) E6w
noncomputable def S84:Tab:=Tab.add S83 120 (lift (A7 C8r D0w D8N))
noncomputable def F1M:FuncId→Bool:=qadd F29 120
theorem G84:aPG S84 F1M:=G83.addQ E9D (cbl Tryz.f120) (fun _=>rfl)

abbrev B4v:List PSh:=[.t .str,.t (.int .i64)]
noncomputable def B4a (a0:ByteArray) (a1:Int):Int:=(cond (decide (a1<(1:Int))) (0:Int) (Int.tmod (E5J a0) a1))
noncomputable abbrev B80 (r:Int):AV×List AObj:=((ti r),[])
noncomputable abbrev C6V:A1 B4v→AV×List AObj:=fun d=>B80 (B4a d.1 d.2.1)
noncomputable def A2D (a0:ByteArray) (a1:Int):Bool:=cond (decide (a1<(1:Int))) true ((C4M a0)&&(decide (a1 ≠ 0)))
noncomputable abbrev B8R:A1 B4v→Bool:=fun d=>A2D d.1 d.2.1
theorem D9n:N0 true G84 aLn Tryz.f100 B4v B8R C6V:=by
 rintro ⟨a0,⟨a1,_⟩⟩ hp
 change A2D a0 a1=true at hp
 unfold A2D at hp
 refine Eq.trans (b:=(cond (decide (a1<(1:Int))) (some (B80 (0:Int))) (cond (C4M a0) (cond (decide (a1 ≠ 0)) (some (B80 (Int.tmod (E5J a0) a1))) none) none))) (by kernel_rfl) ?_
 exact (A9 B80 hp (fun hp=>rfl) (fun hp=>(B2 hp fun hp=>(B7 hp fun _h=>rfl))))
theorem E3H:aPP 100 (A7 B4v B8R C6V):=pcD true G84 hlz D9n
noncomputable def S85:Tab:=Tab.add S84 100 (lift (A7 B4v B8R C6V))
noncomputable def F3r:FuncId→Bool:=qadd F1M 100
theorem G85:aPG S85 F3r:=G84.addQ E3H (cbl Tryz.f100) (fun _=>rfl)

abbrev C4g:SS:=⟨[.all 0 1,tI],[.rows 3 true (.int .i64)]⟩
abbrev A47:SS:=⟨(.junk::tI::.junk::.junk::.junk::.all 1 1::tI::E3U),[.rows 3 true (.int .i64),.rows 3 true (.int .i64)]⟩
abbrev B9Q:SS:=⟨(.junk::tI::.junk::.junk::.junk::.all 1 1::tI::E3U),[.rows 3 true (.int .i64),.rows 3 true (.int .i64)]⟩
noncomputable def D1e (x1 x6:Int) (h0 h1:List Int):RT A47.den:=let z1:=wI (x6 - (1:Int));let z2:=decide (0≤z1∧z1<(h1.length:Int));let z3:=h1.getD (z1.toNat) (0:Int);(.br (decide (x6 > (0:Int))) (.br z2 (.br (decide (z3 > x1)) (.br z2 (.br (decide (0≤x6∧x6<(h1.length:Int))) (.next (((),x1,(),(),(),(),wI (x6 - (1:Int)),u40),(h0,h1.set x6.toNat z3,()))) .fail) .fail) (.done (.exit 0) B9Q (((),x1,(),(),(),(),x6,u40),(h0,h1,())))) .fail) (.done (.exit 0) B9Q (((),x1,(),(),(),(),x6,u40),(h0,h1,()))))
abbrev B8L:=(Int)×(Int)×(List Int)×(List Int)
abbrev B39:=Nat×(Int)×(Int)×(List Int)×(List Int)
def B5I:B39:=(99,((0:Int):Int),((0:Int):Int),([]:List Int),([]:List Int))
noncomputable def D1y (x1 x6:Int) (h0 h1:List Int):B8L ⊕ B39:=let z1:=wI (x6 - (1:Int));let z2:=decide (0≤z1∧z1<(h1.length:Int));let z3:=h1.getD (z1.toNat) (0:Int);(cond (decide (x6 > (0:Int))) (cond z2 (cond (decide (z3 > x1)) (cond z2 (cond (decide (0≤x6∧x6<(h1.length:Int))) (.inl (x1,wI (x6 - (1:Int)),h0,h1.set x6.toNat z3)) (.inr B5I)) (.inr B5I)) (.inr (0,x1,x6,h0,h1))) (.inr B5I)) (.inr (0,x1,x6,h0,h1)))
noncomputable def D0O (x1 x6:Int) (h0 h1:List Int):B39:=itX (fun v:B8L=>D1y v.1 v.2.1 v.2.2.1 v.2.2.2) B5I (x1,x6,h0,h1)
noncomputable def C3A (a:B39):CT:=(.br (a.1==0) (.done (.exit 0) B9Q (((),a.2.1,(),(),(),(),a.2.2.1,u40),(a.2.2.2.1,a.2.2.2.2,()))) .fail)
noncomputable def E44 (x1 x6:Int) (h0 h1:List Int):CT:=C3A (D0O x1 x6 h0 h1)
noncomputable abbrev C2m:A47.den→RT A47.den:=(fun d=>D1e d.1.2.1 d.1.2.2.2.2.2.2.1 d.2.1 d.2.2.1)
noncomputable def C5C:Code:=((A6 0 (B4 Tryz.f99)).getD 0 (0,.skip)).2
noncomputable abbrev D1h (v:B8L):A47.den:=(((),v.1,(),(),(),(),v.2.1,u40),(v.2.2.1,v.2.2.2,()))
theorem E1c:(∀ v:B8L,(D1e v.1 v.2.1 v.2.2.1 v.2.2.2).val=R5 D1h C3A (D1y v.1 v.2.1 v.2.2.1 v.2.2.2))∧∀ a:B39,CEnd A47.den (C3A a):=⟨fun v=>(B3 (B3 (B3 (B3 (B3 rfl rfl) rfl) rfl) rfl) rfl),fun a=>(C5 aCD K7)⟩
noncomputable def D1Z (x1 x6:Int) (h0 h1:List Int):Option (Ex×St):=let z1:=wI (x6 - (1:Int));let z2:=(⟨(.junk::(ti x1)::.junk::.junk::.junk::(.all 1 1)::(ti x6)::E42),[(.rows 3 true (.int .i64) h0),(.rows 3 true (.int .i64) h1)],1,[]⟩:St);let z3:=decide (0≤z1∧z1<(h1.length:Int));let z4:=h1.getD (z1.toNat) (0:Int);(cond (decide (x6 > (0:Int))) (cond z3 (cond (decide (z4 > x1)) (cond z3 (cond (decide (0≤x6∧x6<(h1.length:Int))) (some (.normal,(⟨(.junk::(ti x1)::.junk::.junk::.junk::(.all 1 1)::(ti z1)::E42),[(.rows 3 true (.int .i64) h0),(.rows 3 true (.int .i64) (h1.set x6.toNat z4))],1,[]⟩:St))) none) none) (some ((.exit 0),z2))) none) (some ((.exit 0),z2)))
theorem D8P:RdA G85 aLn 0 C5C A47 1 [] (kepts [] [(0,[1,5,6])]) (fun d=>D1Z d.1.2.1 d.1.2.2.2.2.2.2.1 d.2.1 d.2.2.1):=by
 intro d
 kernel_rfl
theorem D9p:∀ d:A47.den,(fun d=>D1Z d.1.2.1 d.1.2.2.2.2.2.2.1 d.2.1 d.2.2.1) d=(C2m d).opt 1 []:=by
 intro d
 kernel_rfl
noncomputable abbrev C7f:St→Option Tree:=A47.say 1 [] [] (fun d=>E44 d.1.2.1 d.1.2.2.2.2.2.2.1 d.2.1 d.2.2.1)
theorem E1e:aPL C7f C5C:=SS.wp2 hlz [] C2m D8P D9p _ (fun d=>Runs.ofI2 (step:=C2m) D1h E1c rfl (d.1.2.1,d.1.2.2.2.2.2.2.1,d.2.1,d.2.2.1))
noncomputable def C9Q (x1:Int) (h0:List Int):=let z1:=(([]:List Int)++h0)++[x1];D0O x1 (wI (((z1.length:Nat):Int) - (1:Int))) h0 z1
noncomputable def F1x (x1:Int) (h0:List Int):List Int:=let z1:=C9Q x1 h0;(cond (Y7 h0 x1) h0 ((z1.2.2.2.2).set ((z1.2.2.1).toNat) (z1.2.1)))
noncomputable abbrev C8d (r:List Int):AV×List AObj×List Nat:=((.t true A4X r),[.dead],[])
noncomputable abbrev E3a:C4g.den→AV×List AObj×List Nat:=fun d=>C8d (F1x d.1.2.1 d.2.1)
noncomputable def D4h (x1:Int) (h0:List Int):Bool:=let z1:=C9Q x1 h0;(O5 h0 x1)&&(cond (Y7 h0 x1) true ((decide ((([]:List Int).length+h0.length)*8≤MAXB))&&((decide (((([]:List Int)++h0).length+[x1].length)*8≤MAXB))&&((z1.1==0)&&(decide (0≤(z1.2.2.1)∧(z1.2.2.1)<(((z1.2.2.2.2).length:Nat):Int)))))))
noncomputable abbrev D35:C4g.den→Bool:=fun d=>D4h d.1.2.1 d.2.1
noncomputable abbrev E7s:Nat→St→Option Tree:=fun b=>match b with | 0=>C7f | _=>fun _=>none
theorem E34:C9J [.all 0 1] G85 (E7s) Tryz.f99 C4g D35 E3a:=by
 rintro ⟨⟨_,x1,_⟩,⟨h0,_⟩⟩ hp
 change D4h x1 h0=true at hp
 unfold D4h at hp
 refine Eq.trans (b:=(let z1:=C9Q x1 h0;cond (O5 h0 x1) (cond (Y7 h0 x1) (some (C8d h0)) (cond (decide ((([]:List Int).length+h0.length)*8≤MAXB)) (cond (decide (((([]:List Int)++h0).length+[x1].length)*8≤MAXB)) (cond (z1.1==0) (cond (decide (0≤(z1.2.2.1)∧(z1.2.2.1)<(((z1.2.2.2.2).length:Nat):Int))) (some (C8d ((z1.2.2.2.2).set ((z1.2.2.1).toNat) (z1.2.1)))) none) none) none) none)) none)) (by kernel_rfl) ?_
 exact (B2 hp fun hp=>(A9 C8d hp (fun hp=>rfl) (fun hp=>(B2 hp fun hp=>(B2 hp fun hp=>(B2 hp fun hp=>(B7 hp fun _h=>rfl)))))))
noncomputable abbrev D45:=win B0 (msum C4g D35 E3a)
theorem E2n:aPM 99 D45:=(E8w [.all 0 1]  G85 (hl1 (i:=0) (by kernel_rfl) E1e) E34).win B0
noncomputable def S86:Tab:=Tab.add S85 99 (D45)
noncomputable def F27:FuncId→Bool:=F3r
theorem G86:aPG S86 F27:=G85.addM E2n (C1 _) (cbl Tryz.f99) (by kernel_rfl)

abbrev B22:SS:=⟨[.t true A4X,tI],[]⟩
abbrev A1C:SS:=⟨(.junk::tI::.junk::.junk::.junk::.all 0 1::tI::E3U),[.rows 3 true (.int .i64)]⟩
abbrev B2w:SS:=⟨(.junk::tI::.junk::.junk::.junk::.all 0 1::tI::E3U),[.rows 3 true (.int .i64)]⟩
noncomputable def C2n (x1 x6:Int) (h0:List Int):RT A1C.den:=let z1:=wI (x6 - (1:Int));let z2:=decide (0≤z1∧z1<(h0.length:Int));let z3:=h0.getD (z1.toNat) (0:Int);(.br (decide (x6 > (0:Int))) (.br z2 (.br (decide (z3 > x1)) (.br z2 (.br (decide (0≤x6∧x6<(h0.length:Int))) (.next (((),x1,(),(),(),(),wI (x6 - (1:Int)),u40),(h0.set x6.toNat z3,()))) .fail) .fail) (.done (.exit 0) B2w (((),x1,(),(),(),(),x6,u40),(h0,())))) .fail) (.done (.exit 0) B2w (((),x1,(),(),(),(),x6,u40),(h0,()))))
abbrev A64:=(Int)×(Int)×(List Int)
abbrev A4t:=Nat×(Int)×(Int)×(List Int)
def A8q:A4t:=(99,((0:Int):Int),((0:Int):Int),([]:List Int))
noncomputable def A9x (x1 x6:Int) (h0:List Int):A64 ⊕ A4t:=let z1:=wI (x6 - (1:Int));let z2:=decide (0≤z1∧z1<(h0.length:Int));let z3:=h0.getD (z1.toNat) (0:Int);(cond (decide (x6 > (0:Int))) (cond z2 (cond (decide (z3 > x1)) (cond z2 (cond (decide (0≤x6∧x6<(h0.length:Int))) (.inl (x1,wI (x6 - (1:Int)),h0.set x6.toNat z3)) (.inr A8q)) (.inr A8q)) (.inr (0,x1,x6,h0))) (.inr A8q)) (.inr (0,x1,x6,h0)))
noncomputable def B4K (x1 x6:Int) (h0:List Int):A4t:=itX (fun v:A64=>A9x v.1 v.2.1 v.2.2) A8q (x1,x6,h0)
noncomputable def B5c (a:A4t):CT:=(.br (a.1==0) (.done (.exit 0) B2w (((),a.2.1,(),(),(),(),a.2.2.1,u40),(a.2.2.2,()))) .fail)
noncomputable def D5Y (x1 x6:Int) (h0:List Int):CT:=B5c (B4K x1 x6 h0)
noncomputable abbrev B4V:A1C.den→RT A1C.den:=(fun d=>C2n d.1.2.1 d.1.2.2.2.2.2.2.1 d.2.1)
noncomputable def B7C:Code:=((A6 0 (B4 Tryz.f99)).getD 0 (0,.skip)).2
noncomputable abbrev C3j (v:A64):A1C.den:=(((),v.1,(),(),(),(),v.2.1,u40),(v.2.2,()))
theorem D4Q:(∀ v:A64,(C2n v.1 v.2.1 v.2.2).val=R5 C3j B5c (A9x v.1 v.2.1 v.2.2))∧∀ a:A4t,CEnd A1C.den (B5c a):=⟨fun v=>(B3 (B3 (B3 (B3 (B3 rfl rfl) rfl) rfl) rfl) rfl),fun a=>(C5 aCD K7)⟩
noncomputable def C2E (x1 x6:Int) (h0:List Int):Option (Ex×St):=let z1:=wI (x6 - (1:Int));let z2:=(⟨(.junk::(ti x1)::.junk::.junk::.junk::(.all 0 1)::(ti x6)::E42),[(.rows 3 true (.int .i64) h0)],0,[]⟩:St);let z3:=decide (0≤z1∧z1<(h0.length:Int));let z4:=h0.getD (z1.toNat) (0:Int);(cond (decide (x6 > (0:Int))) (cond z3 (cond (decide (z4 > x1)) (cond z3 (cond (decide (0≤x6∧x6<(h0.length:Int))) (some (.normal,(⟨(.junk::(ti x1)::.junk::.junk::.junk::(.all 0 1)::(ti z1)::E42),[(.rows 3 true (.int .i64) (h0.set x6.toNat z4))],0,[]⟩:St))) none) none) (some ((.exit 0),z2))) none) (some ((.exit 0),z2)))
theorem D2h:RdA G86 aLn 0 B7C A1C 0 [] (kepts [] [(0,[1,5,6])]) (fun d=>C2E d.1.2.1 d.1.2.2.2.2.2.2.1 d.2.1):=by
 intro d
 kernel_rfl
theorem D2g:∀ d:A1C.den,(fun d=>C2E d.1.2.1 d.1.2.2.2.2.2.2.1 d.2.1) d=(B4V d).opt 0 []:=by
 intro d
 kernel_rfl
noncomputable abbrev C0Q:St→Option Tree:=A1C.say 0 [] [] (fun d=>D5Y d.1.2.1 d.1.2.2.2.2.2.2.1 d.2.1)
theorem D4v:aPL C0Q B7C:=SS.wp2 hlz [] B4V D2h D2g _ (fun d=>Runs.ofI2 (step:=B4V) C3j D4Q rfl (d.1.2.1,d.1.2.2.2.2.2.2.1,d.2.1))
noncomputable def A9B (x0:List Int) (x1:Int):=let z1:=(([]:List Int)++x0)++[x1];B4K x1 (wI (((z1.length:Nat):Int) - (1:Int))) z1
noncomputable def A0X (x0:List Int) (x1:Int):List Int:=let z1:=A9B x0 x1;(cond (Y7 x0 x1) x0 ((z1.2.2.2).set ((z1.2.2.1).toNat) (z1.2.1)))
noncomputable abbrev B5E (r:List Int):AV×List AObj×List Nat:=((.t true A4X r),[],[])
noncomputable abbrev D0E:B22.den→AV×List AObj×List Nat:=fun d=>B5E (A0X d.1.1 d.1.2.1)
noncomputable def A1w (x0:List Int) (x1:Int):Bool:=let z1:=A9B x0 x1;(O5 x0 x1)&&(cond (Y7 x0 x1) true ((decide ((([]:List Int).length+x0.length)*8≤MAXB))&&((decide (((([]:List Int)++x0).length+[x1].length)*8≤MAXB))&&((z1.1==0)&&(decide (0≤(z1.2.2.1)∧(z1.2.2.1)<(((z1.2.2.2).length:Nat):Int)))))))
noncomputable abbrev C5q:B22.den→Bool:=fun d=>A1w d.1.1 d.1.2.1
noncomputable abbrev E0J:Nat→St→Option Tree:=fun b=>match b with | 0=>C0Q | _=>fun _=>none
theorem D61:C9J [] G86 (E0J) Tryz.f99 B22 C5q D0E:=by
 rintro ⟨⟨x0,x1,_⟩,_⟩ hp
 change A1w x0 x1=true at hp
 unfold A1w at hp
 refine Eq.trans (b:=(let z1:=A9B x0 x1;cond (O5 x0 x1) (cond (Y7 x0 x1) (some (B5E x0)) (cond (decide ((([]:List Int).length+x0.length)*8≤MAXB)) (cond (decide (((([]:List Int)++x0).length+[x1].length)*8≤MAXB)) (cond (z1.1==0) (cond (decide (0≤(z1.2.2.1)∧(z1.2.2.1)<(((z1.2.2.2).length:Nat):Int))) (some (B5E ((z1.2.2.2).set ((z1.2.2.1).toNat) (z1.2.1)))) none) none) none) none)) none)) (by kernel_rfl) ?_
 exact (B2 hp fun hp=>(A9 B5E hp (fun hp=>rfl) (fun hp=>(B2 hp fun hp=>(B2 hp fun hp=>(B2 hp fun hp=>(B7 hp fun _h=>rfl)))))))
noncomputable abbrev D1G:=win B0 (msum B22 C5q D0E)
theorem E1o:aPM 99 D1G:=(E8w []  G86 (hl1 (i:=0) (by kernel_rfl) D4v) D61).win B0
noncomputable def S87:Tab:=Tab.add S86 99 (A7a (D45) (D1G))
noncomputable def F3I:FuncId→Bool:=F27
theorem G87:aPG S87 F3I:=G86.addM (MContract.orElse E2n E1o) (A6c (C1 _) (C1 _)) (cbl Tryz.f99) (by kernel_rfl)

abbrev B1b:List PSh:=[.t tq5,.t (.int .i64)]
abbrev A1x:SS:=⟨(.t false tq5::tI::.junk::.junk::.junk::.t true A4X::tI::E2s),[]⟩
abbrev C09:SS:=⟨(.junk::.junk::.junk::.junk::.junk::.t true A4X::E4j),[]⟩
noncomputable def B83 (x0:Lq2) (x1 x6:Int):=B4a (((x0.getD x6.toNat ((0:Int),(bE,bE))).2).1) x1
noncomputable def C3e (x0:Lq2) (x1:Int) (x5:List Int) (x6:Int):RT A1x.den:=let z1:=B83 x0 x1 x6;(.br (decide (x6<(x0.length:Int))) (.br (decide (0≤x6∧x6<(x0.length:Int))) (.br (A2D (((x0.getD x6.toNat ((0:Int),(bE,bE))).2).1) x1) (.br (A1w x5 z1) (.next ((x0,x1,(),(),(),(A0X x5 z1),wI (x6+(1:Int)),u18),())) .fail) .fail) .fail) (.done (.exit 0) C09 (((),(),(),(),(),x5,u19),())))
abbrev A6U:=(Lq2)×(Int)×(List Int)×(Int)
abbrev A4E:=Nat×(List Int)
def A9n:A4E:=(99,([]:List Int))
noncomputable def A8R (x0:Lq2) (x1:Int) (x5:List Int) (x6:Int):A6U ⊕ A4E:=let z1:=B83 x0 x1 x6;(cond (decide (x6<(x0.length:Int))) (cond (decide (0≤x6∧x6<(x0.length:Int))) (cond (A2D (((x0.getD x6.toNat ((0:Int),(bE,bE))).2).1) x1) (cond (A1w x5 z1) (.inl (x0,x1,(A0X x5 z1),wI (x6+(1:Int)))) (.inr A9n)) (.inr A9n)) (.inr A9n)) (.inr (0,x5)))
noncomputable def A5P (x0:Lq2) (x1:Int) (x5:List Int) (x6:Int):A4E:=itX (fun v:A6U=>A8R v.1 v.2.1 v.2.2.1 v.2.2.2) A9n (x0,x1,x5,x6)
noncomputable def B31 (a:A4E):CT:=(.br (a.1==0) (.done (.exit 0) C09 (((),(),(),(),(),a.2,u19),())) .fail)
noncomputable def D6j (x0:Lq2) (x1:Int) (x5:List Int) (x6:Int):CT:=B31 (A5P x0 x1 x5 x6)
noncomputable abbrev C2Z {α:Sort _} (f:Lq2→Int→(List Int)→Int→α) (d:A1x.den):α:=f d.1.1 d.1.2.1 d.1.2.2.2.2.2.1 d.1.2.2.2.2.2.2.1
noncomputable abbrev B3V:A1x.den→RT A1x.den:=(C2Z C3e)
noncomputable def B8q:Code:=((A6 0 (B4 Tryz.f65)).getD 0 (0,.skip)).2
noncomputable abbrev C3i (v:A6U):A1x.den:=((v.1,v.2.1,(),(),(),v.2.2.1,v.2.2.2,u18),())
theorem D5I:(∀ v:A6U,(C3e v.1 v.2.1 v.2.2.1 v.2.2.2).val=R5 C3i B31 (A8R v.1 v.2.1 v.2.2.1 v.2.2.2))∧∀ a:A4E,CEnd A1x.den (B31 a):=⟨fun v=>(B3 (B3 (B3 (B3 rfl rfl) rfl) rfl) rfl),fun a=>(C5 aCD K7)⟩
theorem D2G:RdA G87 aLn 0 B8q A1x 0 [] (kepts [] [(0,[5])]) (fun d=>(B3V d).opt 0 []):=by
 intro d
 kernel_rfl
noncomputable abbrev C0H:St→Option Tree:=A1x.say 0 [] [(5,1000000,.bool)] (C2Z D6j)
theorem D3w:aPL C0H B8q:=SS.wp2 hlz [(5,1000000,.bool)] B3V D2G (fun d=>rfl) _ (fun d=>Runs.ofI2 (step:=B3V) C3i D5I rfl (d.1.1,d.1.2.1,d.1.2.2.2.2.2.1,d.1.2.2.2.2.2.2.1))
noncomputable def E4 (a0:Lq2) (a1:Int):List Int:=((A5P a0 a1 ([]:List Int) (0:Int)).2)
noncomputable abbrev D10 (r:List Int):AV×List AObj:=((.t true A4X r),[])
noncomputable abbrev C36:A1 B1b→AV×List AObj:=fun d=>D10 (E4 d.1 d.2.1)
noncomputable def O9 (a0:Lq2) (a1:Int):Bool:=((A5P a0 a1 ([]:List Int) (0:Int)).1==0)
noncomputable abbrev B6N:A1 B1b→Bool:=fun d=>O9 d.1 d.2.1
noncomputable abbrev E1D:Nat→St→Option Tree:=fun b=>match b with | 0=>C0H | _=>fun _=>none
theorem D6s:N0 true G87 (E1D) Tryz.f65 B1b B6N C36:=by
 rintro ⟨a0,⟨a1,_⟩⟩ hp
 change O9 a0 a1=true at hp
 unfold O9 at hp
 refine Eq.trans (b:=(let z1:=A5P a0 a1 ([]:List Int) (0:Int);cond (z1.1==0) (some (D10 (z1.2))) none)) (by kernel_rfl) ?_
 exact (B7 hp fun _h=>rfl)
theorem E2C:aPP 65 (A7 B1b B6N C36):=pcD true G87 (hl1 (i:=0) (by kernel_rfl) D3w) D6s
noncomputable def S88:Tab:=Tab.add S87 65 (lift (A7 B1b B6N C36))
noncomputable def F3J:FuncId→Bool:=qadd F3I 65
theorem G88:aPG S88 F3J:=G87.addQ E2C (cbl Tryz.f65) (fun _=>rfl)

abbrev B8D:List PSh:=[.t tq5,.t (.int .i64),.t (.int .i64)]
abbrev A2i:SS:=⟨(.t false tq5::tI::tI::.junk::.junk::.junk::.junk::.all 0 3::tI::D8A),[.rows 75 true B5e]⟩
abbrev C47:SS:=⟨(.junk::.junk::.junk::.junk::.junk::.junk::.junk::.all 0 3::D7e),[.rows 75 true B5e]⟩
noncomputable def B9o (x0:Lq2) (x2 x8:Int):=B4a (((x0.getD x8.toNat ((0:Int),(bE,bE))).2).1) x2
noncomputable def C8O (x0:Lq2) (x1 x2 x8:Int) (h0:Lq2):RT A2i.den:=let z1:=x0.getD x8.toNat ((0:Int),(bE,bE));let z2:=decide (0≤x8∧x8<(x0.length:Int));(.br (decide (x8<(x0.length:Int))) (.br z2 (.br (A2D ((z1.2).1) x2) (.br ((B9o x0 x2 x8)==x1) (.br z2 (.br (decide ((h0.length+([(z1.1,((z1.2).1,(z1.2).2))]).length)*40≤MAXB)) (.next ((x0,x1,x2,(),(),(),(),(),wI (x8+(1:Int)),u25),(h0++([(z1.1,((z1.2).1,(z1.2).2))]),()))) .fail) .fail) (.next ((x0,x1,x2,(),(),(),(),(),wI (x8+(1:Int)),u25),(h0,())))) .fail) .fail) (.done (.exit 0) C47 ((u34),(h0,()))))
abbrev B1n:=(Lq2)×(Int)×(Int)×(Int)×(Lq2)
abbrev A8h:=Nat×(Lq2)
def A9b:A8h:=(99,([]:Lq2))
noncomputable def B3s (x0:Lq2) (x1 x2 x8:Int) (h0:Lq2):B1n ⊕ A8h:=let z1:=x0.getD x8.toNat ((0:Int),(bE,bE));let z2:=decide (0≤x8∧x8<(x0.length:Int));(cond (decide (x8<(x0.length:Int))) (cond z2 (cond (A2D ((z1.2).1) x2) (cond ((B9o x0 x2 x8)==x1) (cond z2 (cond (decide ((h0.length+([(z1.1,((z1.2).1,(z1.2).2))]).length)*40≤MAXB)) (.inl (x0,x1,x2,wI (x8+(1:Int)),h0++([(z1.1,((z1.2).1,(z1.2).2))]))) (.inr A9b)) (.inr A9b)) (.inl (x0,x1,x2,wI (x8+(1:Int)),h0))) (.inr A9b)) (.inr A9b)) (.inr (0,h0)))
noncomputable def A8T (x0:Lq2) (x1 x2 x8:Int) (h0:Lq2):A8h:=itX (fun v:B1n=>B3s v.1 v.2.1 v.2.2.1 v.2.2.2.1 v.2.2.2.2) A9b (x0,x1,x2,x8,h0)
noncomputable def B81 (a:A8h):CT:=(.br (a.1==0) (.done (.exit 0) C47 ((u34),(a.2,()))) .fail)
noncomputable def E03 (x0:Lq2) (x1 x2 x8:Int) (h0:Lq2):CT:=B81 (A8T x0 x1 x2 x8 h0)
noncomputable abbrev B3h {α:Sort _} (f:Lq2→Int→Int→Int→Lq2→α) (d:A2i.den):α:=f d.1.1 d.1.2.1 d.1.2.2.1 d.1.2.2.2.2.2.2.2.2.1 d.2.1
noncomputable abbrev B9u:A2i.den→RT A2i.den:=(B3h C8O)
noncomputable def C3q:Code:=((A6 0 (B4 Tryz.f123)).getD 0 (0,.skip)).2
noncomputable abbrev C7Z (v:B1n):A2i.den:=((v.1,v.2.1,v.2.2.1,(),(),(),(),(),v.2.2.2.1,u25),(v.2.2.2.2,()))
theorem D9o:(∀ v:B1n,(C8O v.1 v.2.1 v.2.2.1 v.2.2.2.1 v.2.2.2.2).val=R5 C7Z B81 (B3s v.1 v.2.1 v.2.2.1 v.2.2.2.1 v.2.2.2.2))∧∀ a:A8h,CEnd A2i.den (B81 a):=⟨fun v=>by repeat' first | apply B3 | rfl,fun a=>(C5 aCD K7)⟩
noncomputable def C7B (x0:Lq2) (x1 x2 x8:Int) (h0:Lq2):Option (Ex×St):=let z1:=x0.getD x8.toNat ((0:Int),(bE,bE));let z2:=ti (wI (x8+(1:Int)));let z3:=decide (0≤x8∧x8<(x0.length:Int));(cond (decide (x8<(x0.length:Int))) (cond z3 (cond (A2D ((z1.2).1) x2) (cond ((B9o x0 x2 x8)==x1) (cond z3 (cond (decide ((h0.length+([(z1.1,((z1.2).1,(z1.2).2))]).length)*40≤MAXB)) (some (.normal,(⟨((.t false tq5 x0)::(ti x1)::(ti x2)::.junk::.junk::.junk::.junk::(.all 0 3)::z2::E6z),[(.rows 75 true B5e (h0++([(z1.1,((z1.2).1,(z1.2).2))])))],0,[]⟩:St))) none) none) (some (.normal,(⟨((.t false tq5 x0)::(ti x1)::(ti x2)::.junk::.junk::.junk::.junk::(.all 0 3)::z2::E6z),[(.rows 75 true B5e h0)],0,[]⟩:St)))) none) none) (some ((.exit 0),(⟨(.junk::.junk::.junk::.junk::.junk::.junk::.junk::(.all 0 3)::F0b),[(.rows 75 true B5e h0)],0,[]⟩:St))))
theorem D65:RdA G88 aLn 0 C3q A2i 0 [] (kepts [] [(0,[7])]) (B3h C7B):=by
 intro d
 kernel_rfl
theorem D6N:∀ d:A2i.den,(B3h C7B) d=(B9u d).opt 0 []:=by
 intro d
 kernel_rfl
noncomputable abbrev C43:St→Option Tree:=A2i.say 0 [] [] (B3h E03)
theorem D9j:aPL C43 C3q:=SS.wp2 hlz [] B9u D65 D6N _ (fun d=>Runs.ofI2 (step:=B9u) C7Z D9o rfl (d.1.1,d.1.2.1,d.1.2.2.1,d.1.2.2.2.2.2.2.2.2.1,d.2.1))
noncomputable def B3f (a0:Lq2) (a1 a2:Int):Lq2:=((A8T a0 a1 a2 (0:Int) ([]:Lq2)).2)
noncomputable abbrev D7x (r:Lq2):AV×List AObj:=((.t true tq5 r),[])
noncomputable abbrev C9B:A1 B8D→AV×List AObj:=fun d=>D7x (B3f d.1 d.2.1 d.2.2.1)
noncomputable def A8p (a0:Lq2) (a1 a2:Int):Bool:=((A8T a0 a1 a2 (0:Int) ([]:Lq2)).1==0)
noncomputable abbrev C34:A1 B8D→Bool:=fun d=>A8p d.1 d.2.1 d.2.2.1
noncomputable abbrev E6U:Nat→St→Option Tree:=fun b=>match b with | 0=>C43 | _=>fun _=>none
theorem E2Z:N0 true G88 (E6U) Tryz.f123 B8D C34 C9B:=by
 rintro ⟨a0,⟨a1,⟨a2,_⟩⟩⟩ hp
 change A8p a0 a1 a2=true at hp
 unfold A8p at hp
 refine Eq.trans (b:=(let z1:=A8T a0 a1 a2 (0:Int) ([]:Lq2);cond (z1.1==0) (some (D7x (z1.2))) none)) (by kernel_rfl) ?_
 exact (B7 hp fun _h=>rfl)
theorem E62:aPP 123 (A7 B8D C34 C9B):=pcD true G88 (hl1 (i:=0) (by kernel_rfl) D9j) E2Z
noncomputable def S89:Tab:=Tab.add S88 123 (lift (A7 B8D C34 C9B))
noncomputable def F2d:FuncId→Bool:=qadd F3J 123
theorem G89:aPG S89 F2d:=G88.addQ E62 (cbl Tryz.f123) (fun _=>rfl)

abbrev tq6:Ty:=.sl (.pair (.int .i64) (.pair (.sl (.pair (.int .i64) (.pair .str .str))) (.pair (.int .i64) (.sl (.int .i64)))))
abbrev tq9:Ty:=.sl (.pair (.int .i64) .bool)
abbrev E8C:Ty:=.pair (.int .i64) (.pair (.int .i64) (.pair (.int .i64) (.pair (.sl (.pair (.int .i64) (.pair .str .str))) .bool)))
abbrev F1A:Ty:=.sl (.pair (.int .i64) (.pair (.int .i64) (.pair (.int .i64) (.pair (.sl (.pair (.int .i64) (.pair .str .str))) .bool))))
abbrev B1Y:List PSh:=[.agg [(.int .i64),(.int .i64),(.int .i64),tq6,tq9,(.int .i64)],.agg [(.int .i64),tq5,(.int .i64),A4X]]
abbrev A0i:SS:=⟨(.junk::.junk::.ptr 0 0 1 0::.ptr 1 0 1 0::.junk::.all 2 5::.t true A4X::tI::E67),[.box [tI,tI,tI,.t false tq6,.t false tq9,tI],.box [tI,.t false tq5,tI,.t false A4X],.rows 140 true E8C]⟩
abbrev C03:SS:=⟨(.junk::.junk::.junk::.junk::.junk::.all 0 5::F2B),[.rows 140 true E8C]⟩
noncomputable def C3f (x6:List Int) (x7 p0 p1 p2:Int) (p3:LT1) (p4:LIbe) (p5 q0:Int) (q1:Lq2) (q2:Int) (q3:List Int) (h2:LT2):RT A0i.den:=let z1:=x6.getD x7.toNat (0:Int);let z2:=decide (0≤x7∧x7<(x6.length:Int));(.br (decide (x7<(x6.length:Int))) (.br z2 (.br (O5 q3 z1) (.br (!(Y7 q3 z1)) (.br z2 (.br z2 (.br (A8p q1 z1 p0) (.br (decide ((h2.length+[((1:Int),(x6.getD x7.toNat (0:Int),(q0,((B3f q1 z1 p0),false))))].length)*56≤MAXB)) (.next (((),(),(),(),(),(),x6,wI (x7+(1:Int)),u41),((p0,p1,p2,p3,p4,p5,()),(q0,q1,q2,q3,()),h2++[((1:Int),(x6.getD x7.toNat (0:Int),(q0,((B3f q1 z1 p0),false))))],()))) .fail) .fail) .fail) .fail) (.next (((),(),(),(),(),(),x6,wI (x7+(1:Int)),u41),((p0,p1,p2,p3,p4,p5,()),(q0,q1,q2,q3,()),h2,())))) .fail) .fail) (.done (.exit 0) C03 ((u49),(h2,()))))
abbrev A6M:=(List Int)×(Int)×LT2
abbrev A4r:=Nat×LT2
def A1X:A4r:=(99,([]:LT2))
noncomputable def A9K (x6:List Int) (x7 p0 p1 p2:Int) (p3:LT1) (p4:LIbe) (p5 q0:Int) (q1:Lq2) (q2:Int) (q3:List Int) (h2:LT2):A6M ⊕ A4r:=let z1:=x6.getD x7.toNat (0:Int);let z2:=decide (0≤x7∧x7<(x6.length:Int));(cond (decide (x7<(x6.length:Int))) (cond z2 (cond (O5 q3 z1) (cond (!(Y7 q3 z1)) (cond z2 (cond z2 (cond (A8p q1 z1 p0) (cond (decide ((h2.length+[((1:Int),(x6.getD x7.toNat (0:Int),(q0,((B3f q1 z1 p0),false))))].length)*56≤MAXB)) (.inl (x6,wI (x7+(1:Int)),h2++[((1:Int),(x6.getD x7.toNat (0:Int),(q0,((B3f q1 z1 p0),false))))])) (.inr A1X)) (.inr A1X)) (.inr A1X)) (.inr A1X)) (.inl (x6,wI (x7+(1:Int)),h2))) (.inr A1X)) (.inr A1X)) (.inr (0,h2)))
noncomputable def B5x (x6:List Int) (x7 p0 p1 p2:Int) (p3:LT1) (p4:LIbe) (p5 q0:Int) (q1:Lq2) (q2:Int) (q3:List Int) (h2:LT2):A4r:=itX (fun v:A6M=>A9K v.1 v.2.1 p0 p1 p2 p3 p4 p5 q0 q1 q2 q3 v.2.2) A1X (x6,x7,h2)
noncomputable def B3Y (p0 p1 p2:Int) (p3:LT1) (p4:LIbe) (p5 q0:Int) (q1:Lq2) (q2:Int) (q3:List Int) (a:A4r):CT:=(.br (a.1==0) (.done (.exit 0) C03 ((u49),(a.2,()))) .fail)
noncomputable def D60 (x6:List Int) (x7 p0 p1 p2:Int) (p3:LT1) (p4:LIbe) (p5 q0:Int) (q1:Lq2) (q2:Int) (q3:List Int) (h2:LT2):CT:=(B3Y p0 p1 p2 p3 p4 p5 q0 q1 q2 q3) (B5x x6 x7 p0 p1 p2 p3 p4 p5 q0 q1 q2 q3 h2)
noncomputable abbrev A8z {α:Sort _} (f:(List Int)→Int→Int→Int→Int→LT1→LIbe→Int→Int→Lq2→Int→(List Int)→LT2→α) (d:A0i.den):α:=f d.1.2.2.2.2.2.2.1 d.1.2.2.2.2.2.2.2.1 d.2.1.1 d.2.1.2.1 d.2.1.2.2.1 d.2.1.2.2.2.1 d.2.1.2.2.2.2.1 d.2.1.2.2.2.2.2.1 d.2.2.1.1 d.2.2.1.2.1 d.2.2.1.2.2.1 d.2.2.1.2.2.2.1 d.2.2.2.1
noncomputable abbrev B4z:A0i.den→RT A0i.den:=(A8z C3f)
noncomputable def B7N:Code:=((A6 0 (B4 Tryz.f107)).getD 0 (0,.skip)).2
noncomputable abbrev C1E (p0 p1 p2:Int) (p3:LT1) (p4:LIbe) (p5 q0:Int) (q1:Lq2) (q2:Int) (q3:List Int) (v:A6M):A0i.den:=(((),(),(),(),(),(),v.1,v.2.1,u41),((p0,p1,p2,p3,p4,p5,()),(q0,q1,q2,q3,()),v.2.2,()))
theorem D5u (p0 p1 p2:Int) (p3:LT1) (p4:LIbe) (p5 q0:Int) (q1:Lq2) (q2:Int) (q3:List Int):(∀ v:A6M,(C3f v.1 v.2.1 p0 p1 p2 p3 p4 p5 q0 q1 q2 q3 v.2.2).val=R5 (C1E p0 p1 p2 p3 p4 p5 q0 q1 q2 q3) (B3Y p0 p1 p2 p3 p4 p5 q0 q1 q2 q3) (A9K v.1 v.2.1 p0 p1 p2 p3 p4 p5 q0 q1 q2 q3 v.2.2))∧∀ a:A4r,CEnd A0i.den ((B3Y p0 p1 p2 p3 p4 p5 q0 q1 q2 q3) a):=⟨fun v=>by repeat' first | apply B3 | rfl,fun a=>(C5 aCD K7)⟩
noncomputable def C26 (x6:List Int) (x7 p0 p1 p2:Int) (p3:LT1) (p4:LIbe) (p5 q0:Int) (q1:Lq2) (q2:Int) (q3:List Int) (h2:LT2):Option (Ex×St):=let z1:=x6.getD x7.toNat (0:Int);let z2:=decide (0≤x7∧x7<(x6.length:Int));let z3:=ti (wI (x7+(1:Int)));(cond (decide (x7<(x6.length:Int))) (cond z2 (cond (O5 q3 z1) (cond (!(Y7 q3 z1)) (cond z2 (cond z2 (cond (A8p q1 z1 p0) (cond (decide ((h2.length+[((1:Int),(x6.getD x7.toNat (0:Int),(q0,((B3f q1 z1 p0),false))))].length)*56≤MAXB)) (some (.normal,(⟨(.junk::.junk::(.ptr 0 0 1 0)::(.ptr 1 0 1 0)::.junk::(.all 2 5)::(.t true A4X x6)::z3::E3r),[(.box [(ti p0),(ti p1),(ti p2),(.t false tq6 p3),(.t false tq9 p4),(ti p5)]),(.box [(ti q0),(.t false tq5 q1),(ti q2),(.t false A4X q3)]),(.rows 140 true E8C (h2++[((1:Int),(x6.getD x7.toNat (0:Int),(q0,((B3f q1 z1 p0),false))))]))],0,[]⟩:St))) none) none) none) none) (some (.normal,(⟨(.junk::.junk::(.ptr 0 0 1 0)::(.ptr 1 0 1 0)::.junk::(.all 2 5)::(.t true A4X x6)::z3::E3r),[(.box [(ti p0),(ti p1),(ti p2),(.t false tq6 p3),(.t false tq9 p4),(ti p5)]),(.box [(ti q0),(.t false tq5 q1),(ti q2),(.t false A4X q3)]),(.rows 140 true E8C h2)],0,[]⟩:St)))) none) none) (some ((.exit 0),(⟨(.junk::.junk::.junk::.junk::.junk::(.all 0 5)::F1L),[(.rows 140 true E8C h2)],0,[]⟩:St))))
theorem D2L:RdA G89 aLn 0 B7N A0i 0 [] (kepts [] [(0,[5])]) (A8z C26):=by
 intro d
 kernel_rfl
theorem D2D:∀ d:A0i.den,(A8z C26) d=(B4z d).opt 0 []:=by
 intro d
 kernel_rfl
noncomputable abbrev C1a:St→Option Tree:=A0i.say 0 [] [] (A8z D60)
theorem D4U:aPL C1a B7N:=SS.wp2 hlz [] B4z D2L D2D _ (fun d=>Runs.ofI2 (step:=B4z) (C1E d.2.1.1 d.2.1.2.1 d.2.1.2.2.1 d.2.1.2.2.2.1 d.2.1.2.2.2.2.1 d.2.1.2.2.2.2.2.1 d.2.2.1.1 d.2.2.1.2.1 d.2.2.1.2.2.1 d.2.2.1.2.2.2.1) (D5u d.2.1.1 d.2.1.2.1 d.2.1.2.2.1 d.2.1.2.2.2.1 d.2.1.2.2.2.2.1 d.2.1.2.2.2.2.2.1 d.2.2.1.1 d.2.2.1.2.1 d.2.2.1.2.2.1 d.2.2.1.2.2.2.1) rfl (d.1.2.2.2.2.2.2.1,d.1.2.2.2.2.2.2.2.1,d.2.2.2.1))
noncomputable def B3d (a0 a1 a2:Int) (a3:LT1) (a4:LIbe) (a5 a6:Int) (a7:Lq2) (a8:Int) (a9:List Int):=B5x (E4 a7 a0) (0:Int) a0 a1 a2 a3 a4 a5 a6 a7 a8 a9 ([]:LT2)
noncomputable def D73 (a0 a1 a2:Int) (a3:LT1) (a4:LIbe) (a5 a6:Int) (a7:Lq2) (a8:Int) (a9:List Int):LT2:=((B3d a0 a1 a2 a3 a4 a5 a6 a7 a8 a9).2)
noncomputable abbrev D0K (r:LT2):AV×List AObj:=((.t true F1A r),[])
noncomputable abbrev C2A:A1 B1Y→AV×List AObj:=fun d=>D0K (D73 d.1.1 d.1.2.1 d.1.2.2.1 d.1.2.2.2.1 d.1.2.2.2.2.1 d.1.2.2.2.2.2.1 d.2.1.1 d.2.1.2.1 d.2.1.2.2.1 d.2.1.2.2.2.1)
noncomputable def A5D (a0 a1 a2:Int) (a3:LT1) (a4:LIbe) (a5 a6:Int) (a7:Lq2) (a8:Int) (a9:List Int):Bool:=(O9 a7 a0)&&((B3d a0 a1 a2 a3 a4 a5 a6 a7 a8 a9).1==0)
noncomputable abbrev B69:A1 B1Y→Bool:=fun d=>A5D d.1.1 d.1.2.1 d.1.2.2.1 d.1.2.2.2.1 d.1.2.2.2.2.1 d.1.2.2.2.2.2.1 d.2.1.1 d.2.1.2.1 d.2.1.2.2.1 d.2.1.2.2.2.1
noncomputable abbrev E1n:Nat→St→Option Tree:=fun b=>match b with | 0=>C1a | _=>fun _=>none
theorem D54:N0 true G89 (E1n) Tryz.f107 B1Y B69 C2A:=by
 rintro ⟨⟨a0,⟨a1,⟨a2,⟨a3,⟨a4,⟨a5,_⟩⟩⟩⟩⟩⟩,⟨⟨a6,⟨a7,⟨a8,⟨a9,_⟩⟩⟩⟩,_⟩⟩ hp
 change A5D a0 a1 a2 a3 a4 a5 a6 a7 a8 a9=true at hp
 unfold A5D at hp
 refine Eq.trans (b:=(let z1:=B3d a0 a1 a2 a3 a4 a5 a6 a7 a8 a9;cond (O9 a7 a0) (cond (z1.1==0) (some (D0K (z1.2))) none) none)) (by kernel_rfl) ?_
 exact (B2 hp fun hp=>(B7 hp fun _h=>rfl))
theorem E1W:aPP 107 (A7 B1Y B69 C2A):=pcD true G89 (hl1 (i:=0) (by kernel_rfl) D4U) D54
noncomputable def S90:Tab:=Tab.add S89 107 (lift (A7 B1Y B69 C2A))
noncomputable def F2V:FuncId→Bool:=qadd F2d 107
theorem G90:aPG S90 F2V:=G89.addQ E1W (cbl Tryz.f107) (fun _=>rfl)

abbrev B29:SS:=⟨[.ptr 0 0 1 0,.all 1 3],[.box [tI,tI,tI,.all 2 4,.all 3 2,tI],.rows 75 true B5e,.rows 62 true tq7,.rows 57 true A3m]⟩
noncomputable def C8h (p0 p1 p2 p5:Int) (h1:Lq2) (h2:LT1) (h3:LIbe):=let z1:=(wI (p1*(1000:Int)))+p2;D73 p0 p1 (wI (p2+(1:Int))) (h2++([(wI z1,((M5 h1),((1:Int),[])))])) h3 p5 (wI z1) (M5 h1) (1:Int) []
noncomputable def A2a (p0 p1 p2 p5:Int) (h1:Lq2) (h2:LT1) (h3:LIbe):LT2×Int×Int×Int×Int×Int×Lq2×LT1×LIbe:=let z1:=(wI (p1*(1000:Int)))+p2;(cond (!(Z7 h1)) (([]:LT2),(0:Int),p0,p1,p2,p5,h1,h2,h3) (cond (p2==(999:Int)) (([]:LT2),(0:Int),p0,p1,p2,p5,h1,h2,h3) (cond (decide ((h3.length:Int) ≥ (1000:Int))) (([]:LT2),(0:Int),p0,p1,p2,p5,h1,h2,h3) ((C8h p0 p1 p2 p5 h1 h2 h3),wI z1,p0,p1,wI (p2+(1:Int)),p5,h1,h2++([(wI z1,((M5 h1),((1:Int),[])))]),h3))))
noncomputable abbrev A7X (r:LT2×Int×Int×Int×Int×Int×Lq2×LT1×LIbe):AV×List AObj×List Nat:=((.tup [(.t true F1A r.1),(ti r.2.1)]),[(.box [(ti r.2.2.1),(ti r.2.2.2.1),(ti r.2.2.2.2.1),(.all 2 4),(.all 3 2),(ti r.2.2.2.2.2.1)]),(.rows 75 true B5e r.2.2.2.2.2.2.1),(.rows 62 true tq7 r.2.2.2.2.2.2.2.1),(.rows 57 true A3m r.2.2.2.2.2.2.2.2)],[2])
noncomputable abbrev D1z:B29.den→AV×List AObj×List Nat:=fun d=>A7X (A2a d.2.1.1 d.2.1.2.1 d.2.1.2.2.1 d.2.1.2.2.2.2.2.1 d.2.2.1 d.2.2.2.1 d.2.2.2.2.1)
noncomputable def A0M (p0 p1 p2 p5:Int) (h1:Lq2) (h2:LT1) (h3:LIbe):Bool:=let z1:=(wI (p1*(1000:Int)))+p2;let z2:=M5 h1;(A2r h1)&&(cond (!(Z7 h1)) true (cond (p2==(999:Int)) true (cond (decide ((h3.length:Int) ≥ (1000:Int))) true ((N8 h1)&&((decide ((h2.length+([(wI z1,(z2,((1:Int),[])))]:LT1).length)*64≤MAXB))&&(A5D p0 p1 (wI (p2+(1:Int))) (h2++([(wI z1,(z2,((1:Int),[])))])) h3 p5 (wI z1) z2 (1:Int) []))))))
noncomputable abbrev C5P:B29.den→Bool:=fun d=>A0M d.2.1.1 d.2.1.2.1 d.2.1.2.2.1 d.2.1.2.2.2.2.2.1 d.2.2.1 d.2.2.2.1 d.2.2.2.2.1
theorem D6n:C6L true [] [2] [] G90 aLn Tryz.f77 B29 C5P D1z:=by
 rintro ⟨⟨_,_,_⟩,⟨⟨p0,p1,p2,_,_,p5,_⟩,h1,h2,h3,_⟩⟩ hp
 change A0M p0 p1 p2 p5 h1 h2 h3=true at hp
 unfold A0M at hp
 refine Eq.trans (b:=(let z1:=(wI (p1*(1000:Int)))+p2;let z2:=A7X (([]:LT2),(0:Int),p0,p1,p2,p5,h1,h2,h3);let z4:=M5 h1;let z3:=[(wI z1,(z4,((1:Int),[])))];cond (A2r h1) (cond (!(Z7 h1)) (some z2) (cond (p2==(999:Int)) (some z2) (cond (decide ((h3.length:Int) ≥ (1000:Int))) (some z2) (cond (N8 h1) (cond (decide ((h2.length+([(wI z1,(z4,((1:Int),[])))]:LT1).length)*64≤MAXB)) (cond (A5D p0 p1 (wI (p2+(1:Int))) (h2++z3) h3 p5 (wI z1) z4 (1:Int) []) (some (A7X ((C8h p0 p1 p2 p5 h1 h2 h3),wI z1,p0,p1,wI (p2+(1:Int)),p5,h1,h2++z3,h3))) none) none) none)))) none)) (by kernel_rfl) ?_
 exact (B2 hp fun hp=>(A9 A7X hp (fun hp=>rfl) (fun hp=>(A9 A7X hp (fun hp=>rfl) (fun hp=>(A9 A7X hp (fun hp=>rfl) (fun hp=>(B2 hp fun hp=>(B2 hp fun hp=>(B7 hp fun _h=>rfl))))))))))
noncomputable abbrev D1b:=win B0 (msum B29 C5P D1z)
theorem E2g:aPM 77 D1b:=(mcE true [] [2] []  G90 hlz D6n).win B0
noncomputable def S91:Tab:=Tab.add S90 77 (D1b)
noncomputable def F3D:FuncId→Bool:=F2V
theorem G91:aPG S91 F3D:=G90.addM E2g (C1 _) (cbl Tryz.f77) (by kernel_rfl)

abbrev B1m:List PSh:=[.agg [(.int .i64),(.int .i64),(.int .i64),tq6,tq9,(.int .i64)],.t (.int .i64)]
abbrev A1y:SS:=⟨(.junk::tI::.ptr 0 0 1 0::.junk::.junk::tI::E4F),[.box [tI,tI,tI,.t false tq6,.t false tq9,tI]]⟩
abbrev C1p:SS:=⟨(.junk::.junk::.junk::.junk::tI::E2s),[]⟩
abbrev C02:SS:=⟨(.junk::D3n),[]⟩
noncomputable def C1V (x1 x5 p0 p1 p2:Int) (p3:LT1) (p4:LIbe) (p5:Int):RT A1y.den:=(.br (decide (x5<(p3.length:Int))) (.br (decide (0≤x5∧x5<(p3.length:Int))) (.br (((p3.getD x5.toNat ((0:Int),([],((0:Int),[])))).1)==x1) (.done .ret C1p (((),(),(),(),x5,u18),())) (.next (((),x1,(),(),(),wI (x5+(1:Int)),u17),((p0,p1,p2,p3,p4,p5,()),())))) .fail) (.done (.exit 0) C02 ((u23),())))
abbrev B06:=(Int)×(Int)
abbrev A61:=Nat×(Int)
def C2G:A61:=(99,((0:Int):Int))
noncomputable def A8S (x1 x5 p0 p1 p2:Int) (p3:LT1) (p4:LIbe) (p5:Int):B06 ⊕ A61:=(cond (decide (x5<(p3.length:Int))) (cond (decide (0≤x5∧x5<(p3.length:Int))) (cond (((p3.getD x5.toNat ((0:Int),([],((0:Int),[])))).1)==x1) (.inr (0,x5)) (.inl (x1,wI (x5+(1:Int))))) (.inr C2G)) (.inr (1,((0:Int):Int))))
noncomputable def A5I (x1 x5 p0 p1 p2:Int) (p3:LT1) (p4:LIbe) (p5:Int):A61:=itX (fun v:B06=>A8S v.1 v.2 p0 p1 p2 p3 p4 p5) C2G (x1,x5)
noncomputable def B33 (p0 p1 p2:Int) (p3:LT1) (p4:LIbe) (p5:Int) (a:A61):CT:=(.br (a.1==0) (.done .ret C1p (((),(),(),(),a.2,u18),())) (.br (a.1==1) (.done (.exit 0) C02 ((u23),())) .fail))
noncomputable def D6J (x1 x5 p0 p1 p2:Int) (p3:LT1) (p4:LIbe) (p5:Int):CT:=(B33 p0 p1 p2 p3 p4 p5) (A5I x1 x5 p0 p1 p2 p3 p4 p5)
noncomputable abbrev C2i {α:Sort _} (f:Int→Int→Int→Int→Int→LT1→LIbe→Int→α) (d:A1y.den):α:=f d.1.2.1 d.1.2.2.2.2.2.1 d.2.1.1 d.2.1.2.1 d.2.1.2.2.1 d.2.1.2.2.2.1 d.2.1.2.2.2.2.1 d.2.1.2.2.2.2.2.1
noncomputable abbrev B3P:A1y.den→RT A1y.den:=(C2i C1V)
noncomputable def B73:Code:=((A6 0 (B4 Tryz.f108)).getD 0 (0,.skip)).2
noncomputable abbrev C11 (p0 p1 p2:Int) (p3:LT1) (p4:LIbe) (p5:Int) (v:B06):A1y.den:=(((),v.1,(),(),(),v.2,u17),((p0,p1,p2,p3,p4,p5,()),()))
theorem D39 (p0 p1 p2:Int) (p3:LT1) (p4:LIbe) (p5:Int):(∀ v:B06,(C1V v.1 v.2 p0 p1 p2 p3 p4 p5).val=R5 (C11 p0 p1 p2 p3 p4 p5) (B33 p0 p1 p2 p3 p4 p5) (A8S v.1 v.2 p0 p1 p2 p3 p4 p5))∧∀ a:A61,CEnd A1y.den ((B33 p0 p1 p2 p3 p4 p5) a):=⟨fun v=>(B3 (B3 (B3 rfl rfl) rfl) rfl),fun a=>(C5 aCD (C5 aCD K7))⟩
theorem D2b:RdA G91 aLn 0 B73 A1y 0 [] (kepts [4] [(0,[])]) (fun d=>(B3P d).opt 0 []):=by
 intro d
 kernel_rfl
noncomputable abbrev C1m:St→Option Tree:=A1y.say 0 [] [] (C2i D6J)
theorem D5s:aPL C1m B73:=SS.wp2 hlz [] B3P D2b (fun d=>rfl) _ (fun d=>Runs.ofI2 (step:=B3P) (C11 d.2.1.1 d.2.1.2.1 d.2.1.2.2.1 d.2.1.2.2.2.1 d.2.1.2.2.2.2.1 d.2.1.2.2.2.2.2.1) (D39 d.2.1.1 d.2.1.2.1 d.2.1.2.2.1 d.2.1.2.2.2.1 d.2.1.2.2.2.2.1 d.2.1.2.2.2.2.2.1) rfl (d.1.2.1,d.1.2.2.2.2.2.1))
noncomputable def A8a (a0 a1 a2:Int) (a3:LT1) (a4:LIbe) (a5 a6:Int):Int:=let z1:=A5I a6 (0:Int) a0 a1 a2 a3 a4 a5;(cond (z1.1==0) (z1.2) (-1:Int))
noncomputable abbrev B6y (r:Int):AV×List AObj:=((ti r),[])
noncomputable abbrev C2t:A1 B1m→AV×List AObj:=fun d=>B6y (A8a d.1.1 d.1.2.1 d.1.2.2.1 d.1.2.2.2.1 d.1.2.2.2.2.1 d.1.2.2.2.2.2.1 d.2.1)
noncomputable def A4Y (a0 a1 a2:Int) (a3:LT1) (a4:LIbe) (a5 a6:Int):Bool:=let z1:=A5I a6 (0:Int) a0 a1 a2 a3 a4 a5;cond (z1.1==0) true (z1.1==1)
noncomputable abbrev B60:A1 B1m→Bool:=fun d=>A4Y d.1.1 d.1.2.1 d.1.2.2.1 d.1.2.2.2.1 d.1.2.2.2.2.1 d.1.2.2.2.2.2.1 d.2.1
noncomputable abbrev E0E:Nat→St→Option Tree:=fun b=>match b with | 0=>C1m | _=>fun _=>none
theorem D62:N0 true G91 (E0E) Tryz.f108 B1m B60 C2t:=by
 rintro ⟨⟨a0,⟨a1,⟨a2,⟨a3,⟨a4,⟨a5,_⟩⟩⟩⟩⟩⟩,⟨a6,_⟩⟩ hp
 change A4Y a0 a1 a2 a3 a4 a5 a6=true at hp
 unfold A4Y at hp
 refine Eq.trans (b:=(let z1:=A5I a6 (0:Int) a0 a1 a2 a3 a4 a5;cond (z1.1==0) (some (B6y (z1.2))) (cond (z1.1==1) (some (B6y (-1:Int))) none))) (by kernel_rfl) ?_
 exact (A9 B6y hp (fun hp=>rfl) (fun hp=>(B7 hp fun _h=>rfl)))
theorem E3k:aPP 108 (A7 B1m B60 C2t):=pcD true G91 (hl1 (i:=0) (by kernel_rfl) D5s) D62
noncomputable def S92:Tab:=Tab.add S91 108 (lift (A7 B1m B60 C2t))
noncomputable def F23:FuncId→Bool:=qadd F3D 108
theorem G92:aPG S92 F23:=G91.addQ E3k (cbl Tryz.f108) (fun _=>rfl)

abbrev B5P:SS:=⟨[.ptr 0 0 1 0,tI,tI,.t true .bool],[.box [tI,tI,tI,.all 1 4,.all 2 2,tI],.rows 62 true tq7,.rows 57 true A3m]⟩
noncomputable def B1p (x2 p0 p1 p2 p5:Int) (h1:LT1) (h2:LIbe):=E4 (((h1.getD ((A8a p0 p1 p2 h1 h2 p5 x2).toNat) ((0:Int),([],((0:Int),[])))).2).1) p0
noncomputable def B1k (x1 x2 p0 p1 p2 p5:Int) (h1:LT1) (h2:LIbe):=A0X ((((h1.getD ((A8a p0 p1 p2 h1 h2 p5 x2).toNat) ((0:Int),([],((0:Int),[])))).2).2).2) x1
noncomputable def A3Y (x1 x2:Int) (x3:Bool) (p0 p1 p2 p5:Int) (h1:LT1) (h2:LIbe):Int×Int×Int×Int×LT1×LIbe:=let z5:=B1k x1 x2 p0 p1 p2 p5 h1 h2;let z6:=B1p x2 p0 p1 p2 p5 h1 h2;let z7:=A8a p0 p1 p2 h1 h2 p5 x2;let z3:=z7.toNat;let z1:=h1.getD z3 ((0:Int),([],((0:Int),[])));let z4:=h1.set z3 (z1.1,((z1.2).1,(((z1.2).2).1,z5)));let z2:=z4.getD z3 ((0:Int),([],((0:Int),[])));(cond (decide (z7<(0:Int))) (p0,p1,p2,p5,h1,h2) (cond ((((z1.2).2).1) != (1:Int)) (p0,p1,p2,p5,h1,h2) (cond (decide ((h2.length:Int) ≥ (1000:Int))) (p0,p1,p2,p5,h1,h2) (cond (!(Y7 z6 x1)) (p0,p1,p2,p5,h1,h2) (cond (!x3) (p0,p1,p2,p5,h1.set z3 (z1.1,((z1.2).1,((3:Int),((z1.2).2).2))),h2++[(x2,false)]) (cond ((((((z2.2).2).2).length:Nat):Int)==((z6.length:Nat):Int)) (p0,p1,p2,p5,z4.set z3 (z2.1,((z2.2).1,((2:Int),((z2.2).2).2))),h2++[(x2,true)]) (p0,p1,p2,p5,h1.set z3 (z1.1,((z1.2).1,(((z1.2).2).1,z5))),h2)))))))
noncomputable abbrev A1T (r:Int×Int×Int×Int×LT1×LIbe):AV×List AObj×List Nat:=((.tup []),[(.box [(ti r.1),(ti r.2.1),(ti r.2.2.1),(.all 1 4),(.all 2 2),(ti r.2.2.2.1)]),(.rows 62 true tq7 r.2.2.2.2.1),(.rows 57 true A3m r.2.2.2.2.2)],[2])
noncomputable abbrev D4Y:B5P.den→AV×List AObj×List Nat:=fun d=>A1T (A3Y d.1.2.1 d.1.2.2.1 d.1.2.2.2.1 d.2.1.1 d.2.1.2.1 d.2.1.2.2.1 d.2.1.2.2.2.2.2.1 d.2.2.1 d.2.2.2.1)
noncomputable def U5 (x1 x2:Int) (x3:Bool) (p0 p1 p2 p5:Int) (h1:LT1) (h2:LIbe):Bool:=let z2:=A8a p0 p1 p2 h1 h2 p5 x2;let z1:=h1.getD (z2.toNat) ((0:Int),([],((0:Int),[])));let z3:=B1p x2 p0 p1 p2 p5 h1 h2;let z4:=decide (0≤z2∧z2<(h1.length:Int));(A4Y p0 p1 p2 h1 h2 p5 x2)&&(cond (decide (z2<(0:Int))) true (z4&&(cond ((((z1.2).2).1) != (1:Int)) true (cond (decide ((h2.length:Int) ≥ (1000:Int))) true (z4&&((O9 ((z1.2).1) p0)&&((O5 z3 x1)&&(cond (!(Y7 z3 x1)) true (cond (!x3) (decide ((h2.length+[(x2,false)].length)*16≤MAXB)) ((A1w (((z1.2).2).2) x1)&&(cond ((((((((h1.set (z2.toNat) (z1.1,((z1.2).1,(((z1.2).2).1,(B1k x1 x2 p0 p1 p2 p5 h1 h2))))).getD (z2.toNat) ((0:Int),([],((0:Int),[])))).2).2).2).length:Nat):Int)==((z3.length:Nat):Int)) (decide ((h2.length+[(x2,true)].length)*16≤MAXB)) true)))))))))))
noncomputable abbrev C7R:B5P.den→Bool:=fun d=>U5 d.1.2.1 d.1.2.2.1 d.1.2.2.2.1 d.2.1.1 d.2.1.2.1 d.2.1.2.2.1 d.2.1.2.2.2.2.2.1 d.2.2.1 d.2.2.2.1
theorem D8M:C6L false [] [2] [] G92 aLn Tryz.f78 B5P C7R D4Y:=by
 rintro ⟨⟨_,x1,x2,x3,_⟩,⟨⟨p0,p1,p2,_,_,p5,_⟩,h1,h2,_⟩⟩ hp
 change U5 x1 x2 x3 p0 p1 p2 p5 h1 h2=true at hp
 unfold U5 at hp
 refine Eq.trans (b:=(let z3:=A8a p0 p1 p2 h1 h2 p5 x2;let z1:=h1.getD (z3.toNat) ((0:Int),([],((0:Int),[])));let z4:=A1T (p0,p1,p2,p5,h1,h2);let z6:=B1p x2 p0 p1 p2 p5 h1 h2;let z7:=B1k x1 x2 p0 p1 p2 p5 h1 h2;let z5:=h1.set (z3.toNat) (z1.1,((z1.2).1,(((z1.2).2).1,z7)));let z2:=z5.getD (z3.toNat) ((0:Int),([],((0:Int),[])));let z8:=decide (0≤z3∧z3<(h1.length:Int));cond (A4Y p0 p1 p2 h1 h2 p5 x2) (cond (decide (z3<(0:Int))) (some z4) (cond z8 (cond ((((z1.2).2).1) != (1:Int)) (some z4) (cond (decide ((h2.length:Int) ≥ (1000:Int))) (some z4) (cond z8 (cond (O9 ((z1.2).1) p0) (cond (O5 z6 x1) (cond (!(Y7 z6 x1)) (some z4) (cond (!x3) (cond (decide ((h2.length+[(x2,false)].length)*16≤MAXB)) (some (A1T (p0,p1,p2,p5,h1.set (z3.toNat) (z1.1,((z1.2).1,((3:Int),((z1.2).2).2))),h2++[(x2,false)]))) none) (cond (A1w (((z1.2).2).2) x1) (cond ((((((z2.2).2).2).length:Nat):Int)==((z6.length:Nat):Int)) (cond (decide ((h2.length+[(x2,true)].length)*16≤MAXB)) (some (A1T (p0,p1,p2,p5,z5.set (z3.toNat) (z2.1,((z2.2).1,((2:Int),((z2.2).2).2))),h2++[(x2,true)]))) none) (some (A1T (p0,p1,p2,p5,h1.set (z3.toNat) (z1.1,((z1.2).1,(((z1.2).2).1,z7))),h2)))) none))) none) none) none))) none)) none)) (by kernel_rfl) ?_
 exact (B2 hp fun hp=>(A9 A1T hp (fun hp=>rfl) (fun hp=>(B2 hp fun hp=>(A9 A1T hp (fun hp=>rfl) (fun hp=>(A9 A1T hp (fun hp=>rfl) (fun hp=>(B2 hp fun hp=>(B2 hp fun hp=>(B2 hp fun hp=>(A9 A1T hp (fun hp=>rfl) (fun hp=>(A9 A1T hp (fun hp=>(B7 hp fun _h=>rfl)) (fun hp=>(B2 hp fun hp=>(A9 A1T hp (fun hp=>(B7 hp fun _h=>rfl)) (fun hp=>rfl))))))))))))))))))
noncomputable abbrev D38:=win B0 (msum B5P C7R D4Y)
theorem E4D:aPM 78 D38:=(mcE false [] [2] []  G92 hlz D8M).win B0
noncomputable def S93:Tab:=Tab.add S92 78 (D38)
noncomputable def F2K:FuncId→Bool:=F23
theorem G93:aPG S93 F2K:=G92.addM E4D (C1 _) (cbl Tryz.f78) (by kernel_rfl)

abbrev B3u:SS:=⟨[.ptr 0 0 1 0,tI],[.box [tI,tI,tI,.all 1 4,.all 2 2,tI],.rows 62 true tq7,.rows 57 true A3m]⟩
noncomputable def A4B (x1 p0 p1 p2 p5:Int) (h1:LT1) (h2:LIbe):Bool×Int×Int×Int×Int×LT1×LIbe:=let z1:=wI ((h2.length:Int) - p5);let z2:=wI (p5+z1);let z3:=wI (p5+(0:Int));let z4:=wI (p5+x1);(cond (p1==(900:Int)) (false,p0,p1,p2,p5,h1,h2) (cond (decide (x1<(0:Int))) (cond (decide ((0:Int) > z1)) (true,p0,wI (p1+(1:Int)),(0:Int),((z2.toNat:Nat):Int),([]:LT1),h2.take (z2.toNat)) (true,p0,wI (p1+(1:Int)),(0:Int),((z3.toNat:Nat):Int),([]:LT1),h2.take (z3.toNat))) (cond (decide (x1 > z1)) (true,p0,wI (p1+(1:Int)),(0:Int),((z2.toNat:Nat):Int),([]:LT1),h2.take (z2.toNat)) (true,p0,wI (p1+(1:Int)),(0:Int),((z4.toNat:Nat):Int),([]:LT1),h2.take (z4.toNat)))))
noncomputable abbrev A2q (r:Bool×Int×Int×Int×Int×LT1×LIbe):AV×List AObj×List Nat:=((.t true .bool r.1),[(.box [(ti r.2.1),(ti r.2.2.1),(ti r.2.2.2.1),(.all 1 4),(.all 2 2),(ti r.2.2.2.2.1)]),(.rows 62 true tq7 r.2.2.2.2.2.1),(.rows 57 true A3m r.2.2.2.2.2.2)],[1,2])
noncomputable abbrev D1W:B3u.den→AV×List AObj×List Nat:=fun d=>A2q (A4B d.1.2.1 d.2.1.1 d.2.1.2.1 d.2.1.2.2.1 d.2.1.2.2.2.2.2.1 d.2.2.1 d.2.2.2.1)
noncomputable def A0G (x1 p0 p1 p2 p5:Int) (h1:LT1) (h2:LIbe):Bool:=let z1:=wI ((h2.length:Int) - p5);let z3:=wI (p5+(0:Int));let z4:=wI (p5+x1);let z5:=wI (p5+z1);let z2:=decide (0≤(0:Int)∧(0:Int)≤z5∧z5≤(h2.length:Int));cond (p1==(900:Int)) true (cond (decide (x1<(0:Int))) (cond (decide ((0:Int) > z1)) z2 (decide (0≤(0:Int)∧(0:Int)≤z3∧z3≤(h2.length:Int)))) (cond (decide (x1 > z1)) z2 (decide (0≤(0:Int)∧(0:Int)≤z4∧z4≤(h2.length:Int)))))
noncomputable abbrev C4X:B3u.den→Bool:=fun d=>A0G d.1.2.1 d.2.1.1 d.2.1.2.1 d.2.1.2.2.1 d.2.1.2.2.2.2.2.1 d.2.2.1 d.2.2.2.1
theorem D7i:C6L false [] [1,2] [(0,3,1,62,tq7),(0,4,2,57,A3m)] G93 aLn Tryz.f79 B3u C4X D1W:=by
 rintro ⟨⟨_,x1,_⟩,⟨⟨p0,p1,p2,_,_,p5,_⟩,h1,h2,_⟩⟩ hp
 change A0G x1 p0 p1 p2 p5 h1 h2=true at hp
 unfold A0G at hp
 refine Eq.trans (b:=(let z3:=wI (p5+(0:Int));let z4:=wI ((h2.length:Int) - p5);let z1:=wI (p5+z4);let z2:=A2q (true,p0,wI (p1+(1:Int)),(0:Int),((z1.toNat:Nat):Int),([]:LT1),h2.take (z1.toNat));let z5:=wI (p5+x1);let z6:=decide (0≤(0:Int)∧(0:Int)≤z1∧z1≤(h2.length:Int));cond (p1==(900:Int)) (some (A2q (false,p0,p1,p2,p5,h1,h2))) (cond (decide (x1<(0:Int))) (cond (decide ((0:Int) > z4)) (cond z6 (some z2) none) (cond (decide (0≤(0:Int)∧(0:Int)≤z3∧z3≤(h2.length:Int))) (some (A2q (true,p0,wI (p1+(1:Int)),(0:Int),((z3.toNat:Nat):Int),([]:LT1),h2.take (z3.toNat)))) none)) (cond (decide (x1 > z4)) (cond z6 (some z2) none) (cond (decide (0≤(0:Int)∧(0:Int)≤z5∧z5≤(h2.length:Int))) (some (A2q (true,p0,wI (p1+(1:Int)),(0:Int),((z5.toNat:Nat):Int),([]:LT1),h2.take (z5.toNat)))) none))))) (by kernel_rfl) ?_
 exact (A9 A2q hp (fun hp=>rfl) (fun hp=>(A9 A2q hp (fun hp=>(A9 A2q hp (fun hp=>(B7 hp fun _h=>rfl)) (fun hp=>(B7 hp fun _h=>rfl)))) (fun hp=>(A9 A2q hp (fun hp=>(B7 hp fun _h=>rfl)) (fun hp=>(B7 hp fun _h=>rfl)))))))
noncomputable abbrev D1U:=win B0 (msum B3u C4X D1W)
theorem E17:aPM 79 D1U:=(mcE false [] [1,2] [(0,3,1,62,tq7),(0,4,2,57,A3m)]  G93 hlz D7i).win B0
noncomputable def S94:Tab:=Tab.add S93 79 (D1U)
noncomputable def F2g:FuncId→Bool:=F2K
theorem G94:aPG S94 F2g:=G93.addM E17 (C1 _) (cbl Tryz.f79) (by kernel_rfl)

abbrev F3a:List Sh:=.junk::.junk::.junk::.junk::.junk::.junk::.junk::.junk::.junk::.junk::F09
abbrev E8I:List Sh:=.junk::F3a
abbrev u70:=((),(),(),(),(),u65)
abbrev u77:=((),(),(),(),(),(),(),u70)
abbrev E4I:List AV:=.junk::.junk::.junk::.junk::.junk::.junk::.junk::.junk::.junk::.junk::F1g
abbrev E6W:List AV:=.junk::E4I
abbrev B6c:SS:=⟨[.ptr 0 0 1 0,tI],[.box [.t false T4,tI,tI]]⟩
abbrev A1k:SS:=⟨(.ptr 0 0 1 0::.junk::.junk::.junk::.ptr 1 0 1 0::.ptr 2 0 1 0::tI::F3a),[.box [.t false T4,tI,tI],.box [tI,tI,tI,.nil,.nil,tI],.box [tI,tI,tI,.all 3 4,.all 4 2,tI],.rows 62 true tq7,.rows 57 true A3m]⟩
abbrev C3h:SS:=⟨(.junk::.junk::.junk::.junk::.ptr 1 0 1 0::.ptr 2 0 1 0::E8I),[.box [.t false T4,tI,tI],.box [tI,tI,tI,.nil,.nil,tI],.box [tI,tI,tI,.all 3 4,.all 4 2,tI],.rows 62 true tq7,.rows 57 true A3m]⟩
noncomputable def A44 (p0:List Int) (p1 p2:Int):=let z1:=A3 (8:Int) p0 p1 p2;F0 (z1.2.1) (z1.2.2.1) (z1.2.2.2)
noncomputable def I9 (p0:List Int) (p1 p2:Int) (h3:LT1):=let z1:=A3 (8:Int) p0 p1 p2;A3 (h3.length:Int) (z1.2.1) (z1.2.2.1) (z1.2.2.2)
noncomputable def R7 (p0:List Int) (p1 p2 r0:Int) (h3:LT1):=E4 (((h3.getD (((I9 p0 p1 p2 h3).1).toNat) ((0:Int),([],((0:Int),[])))).2).1) r0
noncomputable def N1 (p0:List Int) (p1 p2 r0:Int) (h3:LT1):=let z1:=I9 p0 p1 p2 h3;A3 (((R7 p0 p1 p2 r0 h3).length:Nat):Int) (z1.2.1) (z1.2.2.1) (z1.2.2.2)
noncomputable def A0r (p0:List Int) (p1 p2 r0:Int) (h3:LT1):=let z1:=N1 p0 p1 p2 r0 h3;A2o (5:Int) (z1.2.1) (z1.2.2.1) (z1.2.2.2)
noncomputable def A1r (p0:List Int) (p1 p2 r0 r1 r2 r5:Int) (h3:LT1) (h4:LIbe):=A3Y ((R7 p0 p1 p2 r0 h3).getD (((N1 p0 p1 p2 r0 h3).1).toNat) (0:Int)) ((h3.getD (((I9 p0 p1 p2 h3).1).toNat) ((0:Int),([],((0:Int),[])))).1) (!((A0r p0 p1 p2 r0 h3).1)) r0 r1 r2 r5 h3 h4
noncomputable def A1A (p0:List Int) (p1 p2:Int):=let z1:=A3 (8:Int) p0 p1 p2;A2o (3:Int) (z1.2.1) (z1.2.2.1) (z1.2.2.2)
noncomputable def A7Z (p0:List Int) (p1 p2:Int):=let z1:=A1A p0 p1 p2;A3 (3:Int) (z1.2.1) (z1.2.2.1) (z1.2.2.2)
noncomputable def C4W (x6:Int) (p0:List Int) (p1 p2 q0 q1 q2 q5 r0 r1 r2 r5:Int) (h3:LT1) (h4:LIbe):RT A1k.den:=let z2:=A3 (8:Int) p0 p1 p2;let z3:=A1r p0 p1 p2 r0 r1 r2 r5 h3 h4;let z5:=I9 p0 p1 p2 h3;let z6:=N1 p0 p1 p2 r0 h3;let z8:=A44 p0 p1 p2;let z1:=A2a r0 r1 r2 r5 (z8.2.2.2) h3 h4;let z9:=A0r p0 p1 p2 r0 h3;let z12:=x6 - (1:Int);let z13:=A1A p0 p1 p2;let z14:=A5 (h3.length:Int) (z2.2.1) (z2.2.2.1) (z2.2.2.2);let z15:=O7 (5:Int) (z6.2.1) (z6.2.2.1) (z6.2.2.2);let z17:=Z9 (z2.2.1) (z2.2.2.1) (z2.2.2.2);let z18:=A0M r0 r1 r2 r5 (z8.2.2.2) h3 h4;let z19:=decide (0≤(z5.1)∧(z5.1)<(h3.length:Int));let z20:=A7Z p0 p1 p2;let z7:=A4B (z20.1) r0 r1 r2 r5 h3 h4;let z21:=decide ((h3.length:Int) > (0:Int));let z23:=h3.getD ((z5.1).toNat) ((0:Int),([],((0:Int),[])));let z11:=O9 ((z23.2).1) r0;let z24:=R7 p0 p1 p2 r0 h3;let z4:=U5 (z24.getD ((z6.1).toNat) (0:Int)) (z23.1) (!(z9.1)) r0 r1 r2 r5 h3 h4;let z10:=((z24.length:Nat):Int);let z16:=A5 z10 (z5.2.1) (z5.2.2.1) (z5.2.2.2);let z22:=decide (0≤(z6.1)∧(z6.1)<z10);(.br (decide (x6 > (0:Int))) (.br (A5 (8:Int) p0 p1 p2) (.br ((z2.1)==(0:Int)) (.br z17 (.br z18 (.next (((),(),(),(),(),(),wI z12,u70),(((z8.1),(z8.2.1),(z8.2.2.1),()),(q0,q1,q2,(),(),q5,()),((z1.2.2.1),(z1.2.2.2.1),(z1.2.2.2.2.1),(),(),(z1.2.2.2.2.2.1),()),(z1.2.2.2.2.2.2.2.1),(z1.2.2.2.2.2.2.2.2),()))) .fail) .fail) (.br ((z2.1)==(1:Int)) (.br z17 (.br z18 (.next (((),(),(),(),(),(),wI z12,u70),(((z8.1),(z8.2.1),(z8.2.2.1),()),(q0,q1,q2,(),(),q5,()),((z1.2.2.1),(z1.2.2.2.1),(z1.2.2.2.2.1),(),(),(z1.2.2.2.2.2.1),()),(z1.2.2.2.2.2.2.2.1),(z1.2.2.2.2.2.2.2.2),()))) .fail) .fail) (.br ((z2.1)==(2:Int)) (.br z17 (.br z18 (.next (((),(),(),(),(),(),wI z12,u70),(((z8.1),(z8.2.1),(z8.2.2.1),()),(q0,q1,q2,(),(),q5,()),((z1.2.2.1),(z1.2.2.2.1),(z1.2.2.2.2.1),(),(),(z1.2.2.2.2.2.1),()),(z1.2.2.2.2.2.2.2.1),(z1.2.2.2.2.2.2.2.2),()))) .fail) .fail) (.br ((z2.1)==(3:Int)) (.br z21 (.br z14 (.br z19 (.br z11 (.br z16 (.br z22 (.br z15 (.br z4 (.next (((),(),(),(),(),(),wI z12,u70),(((z9.2.1),(z9.2.2.1),(z9.2.2.2),()),(q0,q1,q2,(),(),q5,()),((z3.1),(z3.2.1),(z3.2.2.1),(),(),(z3.2.2.2.1),()),(z3.2.2.2.2.1),(z3.2.2.2.2.2),()))) .fail) .fail) .fail) .fail) .fail) .fail) .fail) (.next (((),(),(),(),(),(),wI z12,u70),(((z2.2.1),(z2.2.2.1),(z2.2.2.2),()),(q0,q1,q2,(),(),q5,()),(r0,r1,r2,(),(),r5,()),h3,h4,())))) (.br ((z2.1)==(4:Int)) (.br z21 (.br z14 (.br z19 (.br z11 (.br z16 (.br z22 (.br z15 (.br z4 (.next (((),(),(),(),(),(),wI z12,u70),(((z9.2.1),(z9.2.2.1),(z9.2.2.2),()),(q0,q1,q2,(),(),q5,()),((z3.1),(z3.2.1),(z3.2.2.1),(),(),(z3.2.2.2.1),()),(z3.2.2.2.2.1),(z3.2.2.2.2.2),()))) .fail) .fail) .fail) .fail) .fail) .fail) .fail) (.next (((),(),(),(),(),(),wI z12,u70),(((z2.2.1),(z2.2.2.1),(z2.2.2.2),()),(q0,q1,q2,(),(),q5,()),(r0,r1,r2,(),(),r5,()),h3,h4,())))) (.br ((z2.1)==(5:Int)) (.br z21 (.br z14 (.br z19 (.br z11 (.br z16 (.br z22 (.br z15 (.br z4 (.next (((),(),(),(),(),(),wI z12,u70),(((z9.2.1),(z9.2.2.1),(z9.2.2.2),()),(q0,q1,q2,(),(),q5,()),((z3.1),(z3.2.1),(z3.2.2.1),(),(),(z3.2.2.2.1),()),(z3.2.2.2.2.1),(z3.2.2.2.2.2),()))) .fail) .fail) .fail) .fail) .fail) .fail) .fail) (.next (((),(),(),(),(),(),wI z12,u70),(((z2.2.1),(z2.2.2.1),(z2.2.2.2),()),(q0,q1,q2,(),(),q5,()),(r0,r1,r2,(),(),r5,()),h3,h4,())))) (.br ((z2.1)==(6:Int)) (.next (((),(),(),(),(),(),wI z12,u70),(((z2.2.1),(z2.2.2.1),(z2.2.2.2),()),(q0,q1,q2,(),(),q5,()),(r0,r1,r2,(),(),(h4.length:Int),()),h3,h4,()))) (.br (O7 (3:Int) (z2.2.1) (z2.2.2.1) (z2.2.2.2)) (.br (z13.1) (.br (A5 (3:Int) (z13.2.1) (z13.2.2.1) (z13.2.2.2)) (.br (A0G (z20.1) r0 r1 r2 r5 h3 h4) (.next (((),(),(),(),(),(),wI z12,u70),(((z20.2.1),(z20.2.2.1),(z20.2.2.2),()),(q0,q1,q2,(),(),q5,()),((z7.2.1),(z7.2.2.1),(z7.2.2.2.1),(),(),(z7.2.2.2.2.1),()),(z7.2.2.2.2.2.1),(z7.2.2.2.2.2.2),()))) .fail) .fail) (.next (((),(),(),(),(),(),wI z12,u70),(((z13.2.1),(z13.2.2.1),(z13.2.2.2),()),(q0,q1,q2,(),(),q5,()),(r0,r1,r2,(),(),r5,()),h3,h4,())))) .fail)))))))) .fail) (.done (.exit 0) C3h ((u77),((p0,p1,p2,()),(q0,q1,q2,(),(),q5,()),(r0,r1,r2,(),(),r5,()),h3,h4,()))))
abbrev A1l:=(Int)×(List Int)×(Int)×(Int)×(Int)×(Int)×(Int)×(Int)×LT1×(LIbe)
abbrev A0h:=Nat×(List Int)×(Int)×(Int)×(Int)×(Int)×(Int)×(Int)×LT1×(LIbe)
def A8:A0h:=(99,([]:List Int),((0:Int):Int),((0:Int):Int),((0:Int):Int),((0:Int):Int),((0:Int):Int),((0:Int):Int),([]:LT1),([]:LIbe))
noncomputable def A65 (x6:Int) (p0:List Int) (p1 p2 q0 q1 q2 q5 r0 r1 r2 r5:Int) (h3:LT1) (h4:LIbe):A1l ⊕ A0h:=let z2:=A3 (8:Int) p0 p1 p2;let z3:=A1r p0 p1 p2 r0 r1 r2 r5 h3 h4;let z5:=I9 p0 p1 p2 h3;let z6:=N1 p0 p1 p2 r0 h3;let z8:=A44 p0 p1 p2;let z1:=A2a r0 r1 r2 r5 (z8.2.2.2) h3 h4;let z9:=A0r p0 p1 p2 r0 h3;let z12:=x6 - (1:Int);let z13:=A1A p0 p1 p2;let z14:=A5 (h3.length:Int) (z2.2.1) (z2.2.2.1) (z2.2.2.2);let z15:=O7 (5:Int) (z6.2.1) (z6.2.2.1) (z6.2.2.2);let z17:=Z9 (z2.2.1) (z2.2.2.1) (z2.2.2.2);let z18:=A0M r0 r1 r2 r5 (z8.2.2.2) h3 h4;let z19:=decide (0≤(z5.1)∧(z5.1)<(h3.length:Int));let z20:=A7Z p0 p1 p2;let z7:=A4B (z20.1) r0 r1 r2 r5 h3 h4;let z21:=decide ((h3.length:Int) > (0:Int));let z23:=h3.getD ((z5.1).toNat) ((0:Int),([],((0:Int),[])));let z11:=O9 ((z23.2).1) r0;let z24:=R7 p0 p1 p2 r0 h3;let z4:=U5 (z24.getD ((z6.1).toNat) (0:Int)) (z23.1) (!(z9.1)) r0 r1 r2 r5 h3 h4;let z10:=((z24.length:Nat):Int);let z16:=A5 z10 (z5.2.1) (z5.2.2.1) (z5.2.2.2);let z22:=decide (0≤(z6.1)∧(z6.1)<z10);(cond (decide (x6 > (0:Int))) (cond (A5 (8:Int) p0 p1 p2) (cond ((z2.1)==(0:Int)) (cond z17 (cond z18 (.inl (wI z12,(z8.1),(z8.2.1),(z8.2.2.1),(z1.2.2.1),(z1.2.2.2.1),(z1.2.2.2.2.1),(z1.2.2.2.2.2.1),(z1.2.2.2.2.2.2.2.1),(z1.2.2.2.2.2.2.2.2))) (.inr A8)) (.inr A8)) (cond ((z2.1)==(1:Int)) (cond z17 (cond z18 (.inl (wI z12,(z8.1),(z8.2.1),(z8.2.2.1),(z1.2.2.1),(z1.2.2.2.1),(z1.2.2.2.2.1),(z1.2.2.2.2.2.1),(z1.2.2.2.2.2.2.2.1),(z1.2.2.2.2.2.2.2.2))) (.inr A8)) (.inr A8)) (cond ((z2.1)==(2:Int)) (cond z17 (cond z18 (.inl (wI z12,(z8.1),(z8.2.1),(z8.2.2.1),(z1.2.2.1),(z1.2.2.2.1),(z1.2.2.2.2.1),(z1.2.2.2.2.2.1),(z1.2.2.2.2.2.2.2.1),(z1.2.2.2.2.2.2.2.2))) (.inr A8)) (.inr A8)) (cond ((z2.1)==(3:Int)) (cond z21 (cond z14 (cond z19 (cond z11 (cond z16 (cond z22 (cond z15 (cond z4 (.inl (wI z12,(z9.2.1),(z9.2.2.1),(z9.2.2.2),(z3.1),(z3.2.1),(z3.2.2.1),(z3.2.2.2.1),(z3.2.2.2.2.1),(z3.2.2.2.2.2))) (.inr A8)) (.inr A8)) (.inr A8)) (.inr A8)) (.inr A8)) (.inr A8)) (.inr A8)) (.inl (wI z12,(z2.2.1),(z2.2.2.1),(z2.2.2.2),r0,r1,r2,r5,h3,h4))) (cond ((z2.1)==(4:Int)) (cond z21 (cond z14 (cond z19 (cond z11 (cond z16 (cond z22 (cond z15 (cond z4 (.inl (wI z12,(z9.2.1),(z9.2.2.1),(z9.2.2.2),(z3.1),(z3.2.1),(z3.2.2.1),(z3.2.2.2.1),(z3.2.2.2.2.1),(z3.2.2.2.2.2))) (.inr A8)) (.inr A8)) (.inr A8)) (.inr A8)) (.inr A8)) (.inr A8)) (.inr A8)) (.inl (wI z12,(z2.2.1),(z2.2.2.1),(z2.2.2.2),r0,r1,r2,r5,h3,h4))) (cond ((z2.1)==(5:Int)) (cond z21 (cond z14 (cond z19 (cond z11 (cond z16 (cond z22 (cond z15 (cond z4 (.inl (wI z12,(z9.2.1),(z9.2.2.1),(z9.2.2.2),(z3.1),(z3.2.1),(z3.2.2.1),(z3.2.2.2.1),(z3.2.2.2.2.1),(z3.2.2.2.2.2))) (.inr A8)) (.inr A8)) (.inr A8)) (.inr A8)) (.inr A8)) (.inr A8)) (.inr A8)) (.inl (wI z12,(z2.2.1),(z2.2.2.1),(z2.2.2.2),r0,r1,r2,r5,h3,h4))) (cond ((z2.1)==(6:Int)) (.inl (wI z12,(z2.2.1),(z2.2.2.1),(z2.2.2.2),r0,r1,r2,(h4.length:Int),h3,h4)) (cond (O7 (3:Int) (z2.2.1) (z2.2.2.1) (z2.2.2.2)) (cond (z13.1) (cond (A5 (3:Int) (z13.2.1) (z13.2.2.1) (z13.2.2.2)) (cond (A0G (z20.1) r0 r1 r2 r5 h3 h4) (.inl (wI z12,(z20.2.1),(z20.2.2.1),(z20.2.2.2),(z7.2.1),(z7.2.2.1),(z7.2.2.2.1),(z7.2.2.2.2.1),(z7.2.2.2.2.2.1),(z7.2.2.2.2.2.2))) (.inr A8)) (.inr A8)) (.inl (wI z12,(z13.2.1),(z13.2.2.1),(z13.2.2.2),r0,r1,r2,r5,h3,h4))) (.inr A8))))))))) (.inr A8)) (.inr (0,p0,p1,p2,r0,r1,r2,r5,h3,h4)))
noncomputable def B6G (x6:Int) (p0:List Int) (p1 p2 q0 q1 q2 q5 r0 r1 r2 r5:Int) (h3:LT1) (h4:LIbe):A0h:=itX (fun v:A1l=>A65 v.1 v.2.1 v.2.2.1 v.2.2.2.1 q0 q1 q2 q5 v.2.2.2.2.1 v.2.2.2.2.2.1 v.2.2.2.2.2.2.1 v.2.2.2.2.2.2.2.1 v.2.2.2.2.2.2.2.2.1 v.2.2.2.2.2.2.2.2.2) A8 (x6,p0,p1,p2,r0,r1,r2,r5,h3,h4)
noncomputable def B6P (q0 q1 q2 q5:Int) (a:A0h):CT:=(.br (a.1==0) (.done (.exit 0) C3h ((u77),((a.2.1,a.2.2.1,a.2.2.2.1,()),(q0,q1,q2,(),(),q5,()),(a.2.2.2.2.1,a.2.2.2.2.2.1,a.2.2.2.2.2.2.1,(),(),a.2.2.2.2.2.2.2.1,()),a.2.2.2.2.2.2.2.2.1,a.2.2.2.2.2.2.2.2.2,()))) .fail)
noncomputable def D8m (x6:Int) (p0:List Int) (p1 p2 q0 q1 q2 q5 r0 r1 r2 r5:Int) (h3:LT1) (h4:LIbe):CT:=(B6P q0 q1 q2 q5) (B6G x6 p0 p1 p2 q0 q1 q2 q5 r0 r1 r2 r5 h3 h4)
noncomputable abbrev B07 {α:Sort _} (f:Int→(List Int)→Int→Int→Int→Int→Int→Int→Int→Int→Int→Int→LT1→LIbe→α) (d:A1k.den):α:=f d.1.2.2.2.2.2.2.1 d.2.1.1 d.2.1.2.1 d.2.1.2.2.1 d.2.2.1.1 d.2.2.1.2.1 d.2.2.1.2.2.1 d.2.2.1.2.2.2.2.2.1 d.2.2.2.1.1 d.2.2.2.1.2.1 d.2.2.2.1.2.2.1 d.2.2.2.1.2.2.2.2.2.1 d.2.2.2.2.1 d.2.2.2.2.2.1
noncomputable abbrev B6V:A1k.den→RT A1k.den:=(B07 C4W)
noncomputable def C1b:Code:=((A6 0 (B4 Tryz.f47)).getD 0 (0,.skip)).2
noncomputable abbrev C5U (q0 q1 q2 q5:Int) (v:A1l):A1k.den:=(((),(),(),(),(),(),v.1,u70),((v.2.1,v.2.2.1,v.2.2.2.1,()),(q0,q1,q2,(),(),q5,()),(v.2.2.2.2.1,v.2.2.2.2.2.1,v.2.2.2.2.2.2.1,(),(),v.2.2.2.2.2.2.2.1,()),v.2.2.2.2.2.2.2.2.1,v.2.2.2.2.2.2.2.2.2,()))
theorem D6i (q0 q1 q2 q5:Int):(∀ v:A1l,(C4W v.1 v.2.1 v.2.2.1 v.2.2.2.1 q0 q1 q2 q5 v.2.2.2.2.1 v.2.2.2.2.2.1 v.2.2.2.2.2.2.1 v.2.2.2.2.2.2.2.1 v.2.2.2.2.2.2.2.2.1 v.2.2.2.2.2.2.2.2.2).val=R5 (C5U q0 q1 q2 q5) (B6P q0 q1 q2 q5) (A65 v.1 v.2.1 v.2.2.1 v.2.2.2.1 q0 q1 q2 q5 v.2.2.2.2.1 v.2.2.2.2.2.1 v.2.2.2.2.2.2.1 v.2.2.2.2.2.2.2.1 v.2.2.2.2.2.2.2.2.1 v.2.2.2.2.2.2.2.2.2))∧∀ a:A0h,CEnd A1k.den ((B6P q0 q1 q2 q5) a):=⟨fun v=>by repeat' first | apply B3 | rfl,fun a=>(C5 aCD K7)⟩
noncomputable def C5y (x6:Int) (p0:List Int) (p1 p2 q0 q1 q2 q5 r0 r1 r2 r5:Int) (h3:LT1) (h4:LIbe):Option (Ex×St):=let z4:=A3 (8:Int) p0 p1 p2;let z6:=I9 p0 p1 p2 h3;let z7:=N1 p0 p1 p2 r0 h3;let z11:=A1r p0 p1 p2 r0 r1 r2 r5 h3 h4;let z12:=ti (wI (x6 - (1:Int)));let z3:=(⟨((.ptr 0 0 1 0)::.junk::.junk::.junk::(.ptr 1 0 1 0)::(.ptr 2 0 1 0)::z12::E4I),[(.box [(.t false T4 (z4.2.1)),(ti (z4.2.2.1)),(ti (z4.2.2.2))]),(.box [(ti q0),(ti q1),(ti q2),(.raw (.slice none 0 0)),(.raw (.slice none 0 0)),(ti q5)]),(.box [(ti r0),(ti r1),(ti r2),(.all 3 4),(.all 4 2),(ti r5)]),(.rows 62 true tq7 h3),(.rows 57 true A3m h4)],1,[]⟩:St);let z15:=A1A p0 p1 p2;let z16:=A5 (h3.length:Int) (z4.2.1) (z4.2.2.1) (z4.2.2.2);let z17:=O7 (5:Int) (z7.2.1) (z7.2.2.1) (z7.2.2.2);let z19:=Z9 (z4.2.1) (z4.2.2.1) (z4.2.2.2);let z20:=decide (0≤(z6.1)∧(z6.1)<(h3.length:Int));let z21:=A7Z p0 p1 p2;let z9:=A4B (z21.1) r0 r1 r2 r5 h3 h4;let z22:=A44 p0 p1 p2;let z8:=A2a r0 r1 r2 r5 (z22.2.2.2) h3 h4;let z1:=(⟨((.ptr 0 0 1 0)::.junk::.junk::.junk::(.ptr 1 0 1 0)::(.ptr 2 0 1 0)::z12::E4I),[(.box [(.t false T4 (z22.1)),(ti (z22.2.1)),(ti (z22.2.2.1))]),(.box [(ti q0),(ti q1),(ti q2),(.raw (.slice none 0 0)),(.raw (.slice none 0 0)),(ti q5)]),(.box [(ti (z8.2.2.1)),(ti (z8.2.2.2.1)),(ti (z8.2.2.2.2.1)),(.all 3 4),(.all 4 2),(ti (z8.2.2.2.2.2.1))]),(.rows 62 true tq7 (z8.2.2.2.2.2.2.2.1)),(.rows 57 true A3m (z8.2.2.2.2.2.2.2.2))],1,[]⟩:St);let z14:=A0M r0 r1 r2 r5 (z22.2.2.2) h3 h4;let z23:=A0r p0 p1 p2 r0 h3;let z2:=(⟨((.ptr 0 0 1 0)::.junk::.junk::.junk::(.ptr 1 0 1 0)::(.ptr 2 0 1 0)::z12::E4I),[(.box [(.t false T4 (z23.2.1)),(ti (z23.2.2.1)),(ti (z23.2.2.2))]),(.box [(ti q0),(ti q1),(ti q2),(.raw (.slice none 0 0)),(.raw (.slice none 0 0)),(ti q5)]),(.box [(ti (z11.1)),(ti (z11.2.1)),(ti (z11.2.2.1)),(.all 3 4),(.all 4 2),(ti (z11.2.2.2.1))]),(.rows 62 true tq7 (z11.2.2.2.2.1)),(.rows 57 true A3m (z11.2.2.2.2.2))],1,[]⟩:St);let z24:=decide ((h3.length:Int) > (0:Int));let z26:=h3.getD ((z6.1).toNat) ((0:Int),([],((0:Int),[])));let z13:=O9 ((z26.2).1) r0;let z27:=R7 p0 p1 p2 r0 h3;let z5:=U5 (z27.getD ((z7.1).toNat) (0:Int)) (z26.1) (!(z23.1)) r0 r1 r2 r5 h3 h4;let z10:=((z27.length:Nat):Int);let z18:=A5 z10 (z6.2.1) (z6.2.2.1) (z6.2.2.2);let z25:=decide (0≤(z7.1)∧(z7.1)<z10);(cond (decide (x6 > (0:Int))) (cond (A5 (8:Int) p0 p1 p2) (cond ((z4.1)==(0:Int)) (cond z19 (cond z14 (some (.normal,z1)) none) none) (cond ((z4.1)==(1:Int)) (cond z19 (cond z14 (some (.normal,z1)) none) none) (cond ((z4.1)==(2:Int)) (cond z19 (cond z14 (some (.normal,z1)) none) none) (cond ((z4.1)==(3:Int)) (cond z24 (cond z16 (cond z20 (cond z13 (cond z18 (cond z25 (cond z17 (cond z5 (some (.normal,z2)) none) none) none) none) none) none) none) (some (.normal,z3))) (cond ((z4.1)==(4:Int)) (cond z24 (cond z16 (cond z20 (cond z13 (cond z18 (cond z25 (cond z17 (cond z5 (some (.normal,z2)) none) none) none) none) none) none) none) (some (.normal,z3))) (cond ((z4.1)==(5:Int)) (cond z24 (cond z16 (cond z20 (cond z13 (cond z18 (cond z25 (cond z17 (cond z5 (some (.normal,z2)) none) none) none) none) none) none) none) (some (.normal,z3))) (cond ((z4.1)==(6:Int)) (some (.normal,(⟨((.ptr 0 0 1 0)::.junk::.junk::.junk::(.ptr 1 0 1 0)::(.ptr 2 0 1 0)::z12::E4I),[(.box [(.t false T4 (z4.2.1)),(ti (z4.2.2.1)),(ti (z4.2.2.2))]),(.box [(ti q0),(ti q1),(ti q2),(.raw (.slice none 0 0)),(.raw (.slice none 0 0)),(ti q5)]),(.box [(ti r0),(ti r1),(ti r2),(.all 3 4),(.all 4 2),(ti (h4.length:Int))]),(.rows 62 true tq7 h3),(.rows 57 true A3m h4)],1,[]⟩:St))) (cond (O7 (3:Int) (z4.2.1) (z4.2.2.1) (z4.2.2.2)) (cond (z15.1) (cond (A5 (3:Int) (z15.2.1) (z15.2.2.1) (z15.2.2.2)) (cond (A0G (z21.1) r0 r1 r2 r5 h3 h4) (some (.normal,(⟨((.ptr 0 0 1 0)::.junk::.junk::.junk::(.ptr 1 0 1 0)::(.ptr 2 0 1 0)::z12::E4I),[(.box [(.t false T4 (z21.2.1)),(ti (z21.2.2.1)),(ti (z21.2.2.2))]),(.box [(ti q0),(ti q1),(ti q2),(.raw (.slice none 0 0)),(.raw (.slice none 0 0)),(ti q5)]),(.box [(ti (z9.2.1)),(ti (z9.2.2.1)),(ti (z9.2.2.2.1)),(.all 3 4),(.all 4 2),(ti (z9.2.2.2.2.1))]),(.rows 62 true tq7 (z9.2.2.2.2.2.1)),(.rows 57 true A3m (z9.2.2.2.2.2.2))],1,[]⟩:St))) none) none) (some (.normal,(⟨((.ptr 0 0 1 0)::.junk::.junk::.junk::(.ptr 1 0 1 0)::(.ptr 2 0 1 0)::z12::E4I),[(.box [(.t false T4 (z15.2.1)),(ti (z15.2.2.1)),(ti (z15.2.2.2))]),(.box [(ti q0),(ti q1),(ti q2),(.raw (.slice none 0 0)),(.raw (.slice none 0 0)),(ti q5)]),(.box [(ti r0),(ti r1),(ti r2),(.all 3 4),(.all 4 2),(ti r5)]),(.rows 62 true tq7 h3),(.rows 57 true A3m h4)],1,[]⟩:St)))) none)))))))) none) (some ((.exit 0),(⟨(.junk::.junk::.junk::.junk::(.ptr 1 0 1 0)::(.ptr 2 0 1 0)::E6W),[(.box [(.t false T4 p0),(ti p1),(ti p2)]),(.box [(ti q0),(ti q1),(ti q2),(.raw (.slice none 0 0)),(.raw (.slice none 0 0)),(ti q5)]),(.box [(ti r0),(ti r1),(ti r2),(.all 3 4),(.all 4 2),(ti r5)]),(.rows 62 true tq7 h3),(.rows 57 true A3m h4)],1,[]⟩:St))))
theorem D4t:RdA G94 aLn 0 C1b A1k 1 [] (kepts [] [(0,[4,5])]) (B07 C5y):=by
 intro d
 kernel_rfl
theorem D4q:∀ d:A1k.den,(B07 C5y) d=(B6V d).opt 1 []:=by
 intro d
 kernel_rfl
noncomputable abbrev C2s:St→Option Tree:=A1k.say 1 [] [] (B07 D8m)
theorem D64:aPL C2s C1b:=SS.wp2 hlz [] B6V D4t D4q _ (fun d=>Runs.ofI2 (step:=B6V) (C5U d.2.2.1.1 d.2.2.1.2.1 d.2.2.1.2.2.1 d.2.2.1.2.2.2.2.2.1) (D6i d.2.2.1.1 d.2.2.1.2.1 d.2.2.1.2.2.1 d.2.2.1.2.2.2.2.2.1) rfl (d.1.2.2.2.2.2.2.1,d.2.1.1,d.2.1.2.1,d.2.1.2.2.1,d.2.2.2.1.1,d.2.2.2.1.2.1,d.2.2.2.1.2.2.1,d.2.2.2.1.2.2.2.2.2.1,d.2.2.2.2.1,d.2.2.2.2.2.1))
noncomputable def D1M (x1:Int) (p0:List Int) (p1 p2:Int):=let z1:=H7 p0 p1 p2 [(3:Int),(2:Int),(1:Int)];A3 x1 (z1.2.1) (z1.2.2.1) (z1.2.2.2.1)
noncomputable def A58 (x1:Int) (p0:List Int) (p1 p2:Int):=let z1:=C4a ((H7 p0 p1 p2 [(3:Int),(2:Int),(1:Int)]).1);let z2:=D1M x1 p0 p1 p2;B6G (z2.1) (z2.2.1) (z2.2.2.1) (z2.2.2.2) (0:Int) (0:Int) (0:Int) (0:Int) (z1.1) (z1.2.1) (z1.2.2.1) (z1.2.2.2.1) (z1.2.2.2.2.1) (z1.2.2.2.2.2)
noncomputable def B1S (x1:Int) (p0:List Int) (p1 p2:Int):Int×Int×Int×Int×(List Int)×Int×Int×Int×Int×Int×Int×LT1×LIbe:=let z1:=A58 x1 p0 p1 p2;((z1.2.2.2.2.1),(z1.2.2.2.2.2.1),(z1.2.2.2.2.2.2.1),(z1.2.2.2.2.2.2.2.1),(z1.2.1),(z1.2.2.1),(z1.2.2.2.1),(z1.2.2.2.2.1),(z1.2.2.2.2.2.1),(z1.2.2.2.2.2.2.1),(z1.2.2.2.2.2.2.2.1),(z1.2.2.2.2.2.2.2.2.1),(z1.2.2.2.2.2.2.2.2.2))
noncomputable abbrev D3i (r:Int×Int×Int×Int×(List Int)×Int×Int×Int×Int×Int×Int×LT1×LIbe):AV×List AObj×List Nat:=((.agg [(ti r.1),(ti r.2.1),(ti r.2.2.1),(.all 2 4),(.all 3 2),(ti r.2.2.2.1)]),[(.box [(.t false T4 r.2.2.2.2.1),(ti r.2.2.2.2.2.1),(ti r.2.2.2.2.2.2.1)]),(.box [(ti r.2.2.2.2.2.2.2.1),(ti r.2.2.2.2.2.2.2.2.1),(ti r.2.2.2.2.2.2.2.2.2.1),(.all 2 4),(.all 3 2),(ti r.2.2.2.2.2.2.2.2.2.2.1)]),(.rows 62 true tq7 r.2.2.2.2.2.2.2.2.2.2.2.1),(.rows 57 true A3m r.2.2.2.2.2.2.2.2.2.2.2.2)],[])
noncomputable abbrev D3W:B6c.den→AV×List AObj×List Nat:=fun d=>D3i (B1S d.1.2.1 d.2.1.1 d.2.1.2.1 d.2.1.2.2.1)
noncomputable def A7I (x1:Int) (p0:List Int) (p1 p2:Int):Bool:=let z1:=H7 p0 p1 p2 [(3:Int),(2:Int),(1:Int)];(M2 p0 p1 p2 [(3:Int),(2:Int),(1:Int)])&&((A5 x1 (z1.2.1) (z1.2.2.1) (z1.2.2.2.1))&&((A58 x1 p0 p1 p2).1==0))
noncomputable abbrev C8K:B6c.den→Bool:=fun d=>A7I d.1.2.1 d.2.1.1 d.2.1.2.1 d.2.1.2.2.1
noncomputable abbrev E4l:Nat→St→Option Tree:=fun b=>match b with | 0=>C2s | _=>fun _=>none
theorem D8F:B0e G94 (E4l) Tryz.f47 B6c C8K D3W:=by
 rintro ⟨⟨_,x1,_⟩,⟨⟨p0,p1,p2,_⟩,_⟩⟩ hp
 change A7I x1 p0 p1 p2=true at hp
 unfold A7I at hp
 refine Eq.trans (b:=(let z1:=A58 x1 p0 p1 p2;let z2:=H7 p0 p1 p2 [(3:Int),(2:Int),(1:Int)];cond (M2 p0 p1 p2 [(3:Int),(2:Int),(1:Int)]) (cond (A5 x1 (z2.2.1) (z2.2.2.1) (z2.2.2.2.1)) (cond (z1.1==0) (some (D3i ((z1.2.2.2.2.1),(z1.2.2.2.2.2.1),(z1.2.2.2.2.2.2.1),(z1.2.2.2.2.2.2.2.1),(z1.2.1),(z1.2.2.1),(z1.2.2.2.1),(z1.2.2.2.2.1),(z1.2.2.2.2.2.1),(z1.2.2.2.2.2.2.1),(z1.2.2.2.2.2.2.2.1),(z1.2.2.2.2.2.2.2.2.1),(z1.2.2.2.2.2.2.2.2.2)))) none) none) none)) (by kernel_rfl) ?_
 exact (B2 hp fun hp=>(B2 hp fun hp=>(B7 hp fun _h=>rfl)))
noncomputable abbrev D3r:=win B0 (msum B6c C8K D3W)
theorem E3s:aPM 47 D3r:=(mcM G94 (hl1 (i:=0) (by kernel_rfl) D64) D8F).win B0
noncomputable def S95:Tab:=Tab.add S94 47 (D3r)
noncomputable def F22:FuncId→Bool:=F2g
theorem G95:aPG S95 F22:=G94.addM E3s (C1 _) (cbl Tryz.f47) (by kernel_rfl)

abbrev C0k:SS:=⟨[.ptr 0 0 1 0,tI],[.box [.t false T4,tI,tI]]⟩
noncomputable def C7 (x1:Int) (p0:List Int) (p1 p2:Int):=let z1:=B1S x1 p0 p1 p2;A3 (12:Int) (z1.2.2.2.2.1) (z1.2.2.2.2.2.1) (z1.2.2.2.2.2.2.1)
noncomputable def B9D (x1:Int) (p0:List Int) (p1 p2:Int):=let z1:=C7 x1 p0 p1 p2;H7 (z1.2.1) (z1.2.2.1) (z1.2.2.2) [(0:Int),(1:Int),(9:Int)]
noncomputable def B9W (x1:Int) (p0:List Int) (p1 p2:Int):=let z1:=C7 x1 p0 p1 p2;H7 (z1.2.1) (z1.2.2.1) (z1.2.2.2) [(0:Int),(999:Int),(1000:Int),(-1:Int)]
noncomputable def B85 (x1:Int) (p0:List Int) (p1 p2:Int):=let z1:=C7 x1 p0 p1 p2;H7 (z1.2.1) (z1.2.2.1) (z1.2.2.2) [(0:Int),(1:Int),(900:Int),(901:Int)]
noncomputable def B9C (x1:Int) (p0:List Int) (p1 p2:Int):=let z1:=C7 x1 p0 p1 p2;H7 (z1.2.1) (z1.2.2.1) (z1.2.2.2) [(-1:Int),wI (((((B1S x1 p0 p1 p2).2.2.2.2.2.2.2.2.2.2.2.2).length:Nat):Int)+(1:Int))]
noncomputable def B4y (x1:Int) (p0:List Int) (p1 p2:Int):=let z1:=C7 x1 p0 p1 p2;H7 (z1.2.1) (z1.2.2.1) (z1.2.2.2) [(999:Int),(1000:Int),(1001:Int),(5000:Int)]
noncomputable def B5n (x1:Int) (p0:List Int) (p1 p2:Int):=let z1:=C7 x1 p0 p1 p2;A3 (5:Int) (z1.2.1) (z1.2.2.1) (z1.2.2.2)
noncomputable def C7U (x1:Int) (p0:List Int) (p1 p2:Int):Int×Int×Int×LT1×LIbe×Int×(List Int)×Int×Int:=let z1:=B1S x1 p0 p1 p2;let z2:=C7 x1 p0 p1 p2;let z3:=(z1.2.2.2.2.2.2.2.2.2.2.2.1).getD ((0:Int).toNat) ((0:Int),([],((0:Int),[])));let z4:=B9D x1 p0 p1 p2;let z5:=B9W x1 p0 p1 p2;let z6:=B85 x1 p0 p1 p2;let z7:=B9C x1 p0 p1 p2;let z8:=B4y x1 p0 p1 p2;let z9:=B5n x1 p0 p1 p2;(cond ((z2.1)==(0:Int)) ((z4.1),(z1.2.1),(z1.2.2.1),(z1.2.2.2.2.2.2.2.2.2.2.2.1),(z1.2.2.2.2.2.2.2.2.2.2.2.2),(z1.2.2.2.1),(z4.2.1),(z4.2.2.1),(z4.2.2.2.1)) (cond ((z2.1)==(1:Int)) ((z1.1),(z1.2.1),(z5.1),(z1.2.2.2.2.2.2.2.2.2.2.2.1),(z1.2.2.2.2.2.2.2.2.2.2.2.2),(z1.2.2.2.1),(z5.2.1),(z5.2.2.1),(z5.2.2.2.1)) (cond ((z2.1)==(2:Int)) ((z1.1),(z6.1),(z1.2.2.1),(z1.2.2.2.2.2.2.2.2.2.2.2.1),(z1.2.2.2.2.2.2.2.2.2.2.2.2),(z1.2.2.2.1),(z6.2.1),(z6.2.2.1),(z6.2.2.2.1)) (cond ((z2.1)==(3:Int)) ((z1.1),(z1.2.1),(z1.2.2.1),(z1.2.2.2.2.2.2.2.2.2.2.2.1),(z1.2.2.2.2.2.2.2.2.2.2.2.2),(z7.1),(z7.2.1),(z7.2.2.1),(z7.2.2.2.1)) (cond ((z2.1)==(4:Int)) ((z1.1),(z1.2.1),(z1.2.2.1),(z1.2.2.2.2.2.2.2.2.2.2.2.1),(z1.2.2.2.2.2.2.2.2.2.2.2.2)++[((z8.1),false)],(z1.2.2.2.1),(z8.2.1),(z8.2.2.1),(z8.2.2.2.1)) (cond ((z2.1)==(5:Int)) (cond (decide ((((z1.2.2.2.2.2.2.2.2.2.2.2.1).length:Nat):Int) > (0:Int))) ((z1.1),(z1.2.1),(z1.2.2.1),(z1.2.2.2.2.2.2.2.2.2.2.2.1).set ((0:Int).toNat) (z3.1,((z3.2).1,((z9.1),((z3.2).2).2))),(z1.2.2.2.2.2.2.2.2.2.2.2.2),(z1.2.2.2.1),(z9.2.1),(z9.2.2.1),(z9.2.2.2)) ((z1.1),(z1.2.1),(z1.2.2.1),(z1.2.2.2.2.2.2.2.2.2.2.2.1),(z1.2.2.2.2.2.2.2.2.2.2.2.2),(z1.2.2.2.1),(z2.2.1),(z2.2.2.1),(z2.2.2.2))) ((z1.1),(z1.2.1),(z1.2.2.1),(z1.2.2.2.2.2.2.2.2.2.2.2.1),(z1.2.2.2.2.2.2.2.2.2.2.2.2),(z1.2.2.2.1),(z2.2.1),(z2.2.2.1),(z2.2.2.2))))))))
noncomputable abbrev Z5 (r:Int×Int×Int×LT1×LIbe×Int×(List Int)×Int×Int):AV×List AObj×List Nat:=((.agg [(ti r.1),(ti r.2.1),(ti r.2.2.1),(.t true tq6 r.2.2.2.1),(.t true tq9 r.2.2.2.2.1),(ti r.2.2.2.2.2.1)]),[(.box [(.t false T4 r.2.2.2.2.2.2.1),(ti r.2.2.2.2.2.2.2.1),(ti r.2.2.2.2.2.2.2.2)])],[])
noncomputable abbrev D76:C0k.den→AV×List AObj×List Nat:=fun d=>Z5 (C7U d.1.2.1 d.2.1.1 d.2.1.2.1 d.2.1.2.2.1)
noncomputable def B0g (x1:Int) (p0:List Int) (p1 p2:Int):Bool:=let z1:=C7 x1 p0 p1 p2;let z2:=B1S x1 p0 p1 p2;(A7I x1 p0 p1 p2)&&((A5 (12:Int) (z2.2.2.2.2.1) (z2.2.2.2.2.2.1) (z2.2.2.2.2.2.2.1))&&(cond ((z1.1)==(0:Int)) (M2 (z1.2.1) (z1.2.2.1) (z1.2.2.2) [(0:Int),(1:Int),(9:Int)]) (cond ((z1.1)==(1:Int)) (M2 (z1.2.1) (z1.2.2.1) (z1.2.2.2) [(0:Int),(999:Int),(1000:Int),(-1:Int)]) (cond ((z1.1)==(2:Int)) (M2 (z1.2.1) (z1.2.2.1) (z1.2.2.2) [(0:Int),(1:Int),(900:Int),(901:Int)]) (cond ((z1.1)==(3:Int)) (M2 (z1.2.1) (z1.2.2.1) (z1.2.2.2) [(-1:Int),wI ((((z2.2.2.2.2.2.2.2.2.2.2.2.2).length:Nat):Int)+(1:Int))]) (cond ((z1.1)==(4:Int)) ((M2 (z1.2.1) (z1.2.2.1) (z1.2.2.2) [(999:Int),(1000:Int),(1001:Int),(5000:Int)])&&(decide (((z2.2.2.2.2.2.2.2.2.2.2.2.2).length+[(((B4y x1 p0 p1 p2).1),false)].length)*16≤MAXB))) (cond ((z1.1)==(5:Int)) (cond (decide ((((z2.2.2.2.2.2.2.2.2.2.2.2.1).length:Nat):Int) > (0:Int))) ((A5 (5:Int) (z1.2.1) (z1.2.2.1) (z1.2.2.2))&&(decide (0≤(0:Int)∧(0:Int)<(((z2.2.2.2.2.2.2.2.2.2.2.2.1).length:Nat):Int)))) true) true)))))))
noncomputable abbrev D0X:C0k.den→Bool:=fun d=>B0g d.1.2.1 d.2.1.1 d.2.1.2.1 d.2.1.2.2.1
theorem E0Y:C9J [] G95 aLn Tryz.f21 C0k D0X D76:=by
 rintro ⟨⟨_,x1,_⟩,⟨⟨p0,p1,p2,_⟩,_⟩⟩ hp
 change B0g x1 p0 p1 p2=true at hp
 unfold B0g at hp
 refine Eq.trans (b:=(let z1:=B1S x1 p0 p1 p2;let z2:=C7 x1 p0 p1 p2;let z3:=(z1.2.2.2.2.2.2.2.2.2.2.2.1).getD ((0:Int).toNat) ((0:Int),([],((0:Int),[])));let z4:=Z5 ((z1.1),(z1.2.1),(z1.2.2.1),(z1.2.2.2.2.2.2.2.2.2.2.2.1),(z1.2.2.2.2.2.2.2.2.2.2.2.2),(z1.2.2.2.1),(z2.2.1),(z2.2.2.1),(z2.2.2.2));let z5:=B4y x1 p0 p1 p2;let z6:=B9D x1 p0 p1 p2;let z7:=B9W x1 p0 p1 p2;let z8:=B85 x1 p0 p1 p2;let z9:=B9C x1 p0 p1 p2;let z10:=B5n x1 p0 p1 p2;cond (A7I x1 p0 p1 p2) (cond (A5 (12:Int) (z1.2.2.2.2.1) (z1.2.2.2.2.2.1) (z1.2.2.2.2.2.2.1)) (cond ((z2.1)==(0:Int)) (cond (M2 (z2.2.1) (z2.2.2.1) (z2.2.2.2) [(0:Int),(1:Int),(9:Int)]) (some (Z5 ((z6.1),(z1.2.1),(z1.2.2.1),(z1.2.2.2.2.2.2.2.2.2.2.2.1),(z1.2.2.2.2.2.2.2.2.2.2.2.2),(z1.2.2.2.1),(z6.2.1),(z6.2.2.1),(z6.2.2.2.1)))) none) (cond ((z2.1)==(1:Int)) (cond (M2 (z2.2.1) (z2.2.2.1) (z2.2.2.2) [(0:Int),(999:Int),(1000:Int),(-1:Int)]) (some (Z5 ((z1.1),(z1.2.1),(z7.1),(z1.2.2.2.2.2.2.2.2.2.2.2.1),(z1.2.2.2.2.2.2.2.2.2.2.2.2),(z1.2.2.2.1),(z7.2.1),(z7.2.2.1),(z7.2.2.2.1)))) none) (cond ((z2.1)==(2:Int)) (cond (M2 (z2.2.1) (z2.2.2.1) (z2.2.2.2) [(0:Int),(1:Int),(900:Int),(901:Int)]) (some (Z5 ((z1.1),(z8.1),(z1.2.2.1),(z1.2.2.2.2.2.2.2.2.2.2.2.1),(z1.2.2.2.2.2.2.2.2.2.2.2.2),(z1.2.2.2.1),(z8.2.1),(z8.2.2.1),(z8.2.2.2.1)))) none) (cond ((z2.1)==(3:Int)) (cond (M2 (z2.2.1) (z2.2.2.1) (z2.2.2.2) [(-1:Int),wI ((((z1.2.2.2.2.2.2.2.2.2.2.2.2).length:Nat):Int)+(1:Int))]) (some (Z5 ((z1.1),(z1.2.1),(z1.2.2.1),(z1.2.2.2.2.2.2.2.2.2.2.2.1),(z1.2.2.2.2.2.2.2.2.2.2.2.2),(z9.1),(z9.2.1),(z9.2.2.1),(z9.2.2.2.1)))) none) (cond ((z2.1)==(4:Int)) (cond (M2 (z2.2.1) (z2.2.2.1) (z2.2.2.2) [(999:Int),(1000:Int),(1001:Int),(5000:Int)]) (cond (decide (((z1.2.2.2.2.2.2.2.2.2.2.2.2).length+[((z5.1),false)].length)*16≤MAXB)) (some (Z5 ((z1.1),(z1.2.1),(z1.2.2.1),(z1.2.2.2.2.2.2.2.2.2.2.2.1),(z1.2.2.2.2.2.2.2.2.2.2.2.2)++[((z5.1),false)],(z1.2.2.2.1),(z5.2.1),(z5.2.2.1),(z5.2.2.2.1)))) none) none) (cond ((z2.1)==(5:Int)) (cond (decide ((((z1.2.2.2.2.2.2.2.2.2.2.2.1).length:Nat):Int) > (0:Int))) (cond (A5 (5:Int) (z2.2.1) (z2.2.2.1) (z2.2.2.2)) (cond (decide (0≤(0:Int)∧(0:Int)<(((z1.2.2.2.2.2.2.2.2.2.2.2.1).length:Nat):Int))) (some (Z5 ((z1.1),(z1.2.1),(z1.2.2.1),(z1.2.2.2.2.2.2.2.2.2.2.2.1).set ((0:Int).toNat) (z3.1,((z3.2).1,((z10.1),((z3.2).2).2))),(z1.2.2.2.2.2.2.2.2.2.2.2.2),(z1.2.2.2.1),(z10.2.1),(z10.2.2.1),(z10.2.2.2)))) none) none) (some z4)) (some z4))))))) none) none)) (by kernel_rfl) ?_
 exact (B2 hp fun hp=>(B2 hp fun hp=>(A9 Z5 hp (fun hp=>(B7 hp fun _h=>rfl)) (fun hp=>(A9 Z5 hp (fun hp=>(B7 hp fun _h=>rfl)) (fun hp=>(A9 Z5 hp (fun hp=>(B7 hp fun _h=>rfl)) (fun hp=>(A9 Z5 hp (fun hp=>(B7 hp fun _h=>rfl)) (fun hp=>(A9 Z5 hp (fun hp=>(B2 hp fun hp=>(B7 hp fun _h=>rfl))) (fun hp=>(A9 Z5 hp (fun hp=>(A9 Z5 hp (fun hp=>(B2 hp fun hp=>(B7 hp fun _h=>rfl))) (fun hp=>rfl))) (fun hp=>rfl))))))))))))))
noncomputable abbrev D7v:=win B0 (msum C0k D0X D76)
theorem E6L:aPM 21 D7v:=(E8w []  G95 hlz E0Y).win B0
noncomputable def S96:Tab:=Tab.add S95 21 (D7v)
noncomputable def F21:FuncId→Bool:=F22
theorem G96:aPG S96 F21:=G95.addM E6L (C1 _) (cbl Tryz.f21) (by kernel_rfl)

abbrev A5U:List PSh:=[.t T4]
noncomputable def A1j (a0:List Int):Int×Int×Int×LT1×LIbe×Int:=let z1:=C7U (A7p a0 (16:Int)) ((A2V a0).1) ((A2V a0).2.1) ((A2V a0).2.2);((z1.1),(z1.2.1),(z1.2.2.1),(z1.2.2.2.1),(z1.2.2.2.2.1),(z1.2.2.2.2.2.1))
noncomputable abbrev C1U (r:Int×Int×Int×LT1×LIbe×Int):AV×List AObj:=((.agg [(ti r.1),(ti r.2.1),(ti r.2.2.1),(.t true tq6 r.2.2.2.1),(.t true tq9 r.2.2.2.2.1),(ti r.2.2.2.2.2)]),[])
noncomputable abbrev B30:A1 A5U→AV×List AObj:=fun d=>C1U (A1j d.1)
noncomputable def A1K (a0:List Int):Bool:=(A9D a0)&&(B0g (A7p a0 (16:Int)) ((A2V a0).1) ((A2V a0).2.1) ((A2V a0).2.2))
noncomputable abbrev B0l:A1 A5U→Bool:=fun d=>A1K d.1
theorem D0a:N0 true G96 aLn Tryz.f7 A5U B0l B30:=by
 rintro ⟨a0,_⟩ hp
 change A1K a0=true at hp
 unfold A1K at hp
 refine Eq.trans (b:=(let z2:=A2V a0;let z3:=A7p a0 (16:Int);let z1:=C7U z3 (z2.1) (z2.2.1) (z2.2.2);cond (A9D a0) (cond (B0g z3 (z2.1) (z2.2.1) (z2.2.2)) (some (C1U ((z1.1),(z1.2.1),(z1.2.2.1),(z1.2.2.2.1),(z1.2.2.2.2.1),(z1.2.2.2.2.2.1)))) none) none)) (by kernel_rfl) ?_
 exact (B2 hp fun hp=>(B7 hp fun _h=>rfl))
theorem D4g:aPP 7 (A7 A5U B0l B30):=pcD true G96 hlz D0a
noncomputable def S97:Tab:=Tab.add S96 7 (lift (A7 A5U B0l B30))
noncomputable def E95:FuncId→Bool:=qadd F21 7
theorem G97:aPG S97 E95:=G96.addQ D4g (cbl Tryz.f7) (fun _=>rfl)

abbrev A3A:List PSh:=[.t A4X]
noncomputable def A1D (a0:List (Int)):List (Int):=a0
noncomputable abbrev A1I (r:List (Int)):AV×List AObj:=(.all 0 1,[.rows 3 true (.int .i64) r])
noncomputable abbrev B3R:A1 A3A→AV×List AObj:=fun d=>A1I (A1D d.1)
noncomputable def P7 (a0:List (Int)):Bool:=decide ((([]:List (Int)).length+a0.length)*8≤MAXB)
noncomputable abbrev B1s:A1 A3A→Bool:=fun d=>P7 d.1
theorem C4U (a0:List (Int)) (h0:0<a0.length) (hp:P7 a0=true):D0k false Tryz.prog tt S97 E95 aLn Tryz.f49 [.t (Ty.sl (.int .i64)).flat A4X a0]=some (A1I a0):=by
 refine Eq.trans (b:=cond (decide (0<a0.length)) (cond (P7 a0) (some (A1I a0)) none) none) (by kernel_rfl) ?_
 rw [decide_eq_true h0,hp];rfl
theorem C4V (A:Option Addr) (c:Nat):D0k false Tryz.prog tt S97 E95 aLn Tryz.f49 [.raw (.slice A 0 c)]=some (A1I []):=by
 cases A<;>kernel_rfl
theorem C6G:aPP 49 (A7 A3A B1s B3R):=PContract.split (e:=(.int .i64)) (pre:=P7) (g:=fun a0=>A1I (A1D a0)) (fun l h0 hp=>PCalls.of_run false G97 (fn:=Tryz.f49) (by kernel_rfl) (L:=fun _ _=>none) (by rw [show A6 0 (B4 Tryz.f49)=[] by kernel_rfl];simp) (C4U l h0 hp) rfl rfl) (fun A c=>PCalls.of_run false G97 (fn:=Tryz.f49) (by kernel_rfl) (L:=fun _ _=>none) (by rw [show A6 0 (B4 Tryz.f49)=[] by kernel_rfl];simp) (C4V A c) rfl rfl)
noncomputable def S98:Tab:=Tab.add S97 49 (lift (A7 A3A B1s B3R))
noncomputable def E93:FuncId→Bool:=E95
theorem G98:aPG S98 E93:=G97.add C6G ⟨Tryz.f49,by kernel_rfl,by kernel_rfl,by kernel_rfl⟩ (by kernel_rfl)

abbrev A1i:List PSh:=[.t tq9]
noncomputable def A0L (a0:LIbe):LIbe:=a0
noncomputable abbrev X9 (r:LIbe):AV×List AObj:=(.all 0 2,[.rows 57 true A3m r])
noncomputable abbrev A8W:A1 A1i→AV×List AObj:=fun d=>X9 (A0L d.1)
noncomputable def N6 (a0:LIbe):Bool:=decide ((([]:LIbe).length+a0.length)*16≤MAXB)
noncomputable abbrev A6W:A1 A1i→Bool:=fun d=>N6 d.1
theorem B74 (a0:LIbe) (h0:0<a0.length) (hp:N6 a0=true):D0k false Tryz.prog tt S98 E93 aLn Tryz.f50 [.t (Ty.sl A3m).flat tq9 a0]=some (X9 a0):=by
 refine Eq.trans (b:=cond (decide (0<a0.length)) (cond (N6 a0) (some (X9 a0)) none) none) (by kernel_rfl) ?_
 rw [decide_eq_true h0,hp];rfl
theorem B7K (A:Option Addr) (c:Nat):D0k false Tryz.prog tt S98 E93 aLn Tryz.f50 [.raw (.slice A 0 c)]=some (X9 []):=by
 cases A<;>kernel_rfl
theorem C0d:aPP 50 (A7 A1i A6W A8W):=PContract.split (e:=A3m) (pre:=N6) (g:=fun a0=>X9 (A0L a0)) (fun l h0 hp=>PCalls.of_run false G98 (fn:=Tryz.f50) (by kernel_rfl) (L:=fun _ _=>none) (by rw [show A6 0 (B4 Tryz.f50)=[] by kernel_rfl];simp) (B74 l h0 hp) rfl rfl) (fun A c=>PCalls.of_run false G98 (fn:=Tryz.f50) (by kernel_rfl) (L:=fun _ _=>none) (by rw [show A6 0 (B4 Tryz.f50)=[] by kernel_rfl];simp) (B7K A c) rfl rfl)
noncomputable def S99:Tab:=Tab.add S98 50 (lift (A7 A1i A6W A8W))
noncomputable def F3b:FuncId→Bool:=E93
theorem G99:aPG S99 F3b:=G98.add C0d ⟨Tryz.f50,by kernel_rfl,by kernel_rfl,by kernel_rfl⟩ (by kernel_rfl)

abbrev F4w:List AV:=.junk::.junk::E9r
abbrev A83:List PSh:=[.agg [(.int .i64),(.int .i64),(.int .i64),tq6,tq9,(.int .i64)]]
abbrev W7:SS:=⟨(.junk::.ptr 0 0 1 0::.ptr 1 0 1 0::.ptr 2 0 1 0::.junk::.junk::.junk::.junk::.junk::.t false tq6::tI::tI::E7D),[.box [tI,tI,tI,.t false tq6,.t false tq9,tI],.box [tI,tI,tI,.nil,.nil,tI],.box [tI,tI,tI,.all 3 4,.t false tq9,tI],.rows 62 true tq7]⟩
abbrev B7Z:SS:=⟨(.junk::.ptr 0 0 1 0::.ptr 1 0 1 0::.ptr 2 0 1 0::E9p),[.box [tI,tI,tI,.t false tq6,.t false tq9,tI],.box [tI,tI,tI,.nil,.nil,tI],.box [tI,tI,tI,.all 3 4,.t false tq9,tI],.rows 62 true tq7]⟩
noncomputable def C0V (x9:LT1) (x10 x11 p0 p1 p2:Int) (p3:LT1) (p4:LIbe) (p5 q0 q1 q2 q5 r0 r1 r2:Int) (r4:LIbe) (r5:Int) (h3:LT1):RT W7.den:=let z1:=x9.getD x11.toNat ((0:Int),([],((0:Int),[])));let z2:=A1D (((z1.2).2).2);let z3:=D4 ((z1.2).1);(.br (decide (x11<x10)) (.br (decide (0≤x11∧x11<(x9.length:Int))) (.br (C4 ((z1.2).1)) (.br (P7 (((z1.2).2).2)) (.br (decide ((h3.length+([(z1.1,(z3,(((z1.2).2).1,z2)))]:LT1).length)*64≤MAXB)) (.next (((),(),(),(),(),(),(),(),(),x9,x10,wI (x11+(1:Int)),u24),((p0,p1,p2,p3,p4,p5,()),(q0,q1,q2,(),(),q5,()),(r0,r1,r2,(),r4,r5,()),h3++([(z1.1,(z3,(((z1.2).2).1,z2)))]),()))) .fail) .fail) .fail) .fail) (.done (.exit 0) B7Z ((u36),((p0,p1,p2,p3,p4,p5,()),(q0,q1,q2,(),(),q5,()),(r0,r1,r2,(),r4,r5,()),h3,()))))
abbrev A5e:=LT1×(Int)×(Int)×LT1
abbrev A3j:=Nat×LT1
def A3W:A3j:=(99,([]:LT1))
noncomputable def A7i (x9:LT1) (x10 x11 p0 p1 p2:Int) (p3:LT1) (p4:LIbe) (p5 q0 q1 q2 q5 r0 r1 r2:Int) (r4:LIbe) (r5:Int) (h3:LT1):A5e ⊕ A3j:=let z1:=x9.getD x11.toNat ((0:Int),([],((0:Int),[])));let z2:=A1D (((z1.2).2).2);let z3:=D4 ((z1.2).1);(cond (decide (x11<x10)) (cond (decide (0≤x11∧x11<(x9.length:Int))) (cond (C4 ((z1.2).1)) (cond (P7 (((z1.2).2).2)) (cond (decide ((h3.length+([(z1.1,(z3,(((z1.2).2).1,z2)))]:LT1).length)*64≤MAXB)) (.inl (x9,x10,wI (x11+(1:Int)),h3++([(z1.1,(z3,(((z1.2).2).1,z2)))]))) (.inr A3W)) (.inr A3W)) (.inr A3W)) (.inr A3W)) (.inr (0,h3)))
noncomputable def B2m (x9:LT1) (x10 x11 p0 p1 p2:Int) (p3:LT1) (p4:LIbe) (p5 q0 q1 q2 q5 r0 r1 r2:Int) (r4:LIbe) (r5:Int) (h3:LT1):A3j:=itX (fun v:A5e=>A7i v.1 v.2.1 v.2.2.1 p0 p1 p2 p3 p4 p5 q0 q1 q2 q5 r0 r1 r2 r4 r5 v.2.2.2) A3W (x9,x10,x11,h3)
noncomputable def B2J (p0 p1 p2:Int) (p3:LT1) (p4:LIbe) (p5 q0 q1 q2 q5 r0 r1 r2:Int) (r4:LIbe) (r5:Int) (a:A3j):CT:=(.br (a.1==0) (.done (.exit 0) B7Z ((u36),((p0,p1,p2,p3,p4,p5,()),(q0,q1,q2,(),(),q5,()),(r0,r1,r2,(),r4,r5,()),a.2,()))) .fail)
noncomputable def D4D (x9:LT1) (x10 x11 p0 p1 p2:Int) (p3:LT1) (p4:LIbe) (p5 q0 q1 q2 q5 r0 r1 r2:Int) (r4:LIbe) (r5:Int) (h3:LT1):CT:=(B2J p0 p1 p2 p3 p4 p5 q0 q1 q2 q5 r0 r1 r2 r4 r5) (B2m x9 x10 x11 p0 p1 p2 p3 p4 p5 q0 q1 q2 q5 r0 r1 r2 r4 r5 h3)
noncomputable abbrev A7c {α:Sort _} (f:LT1→Int→Int→Int→Int→Int→LT1→LIbe→Int→Int→Int→Int→Int→Int→Int→Int→LIbe→Int→LT1→α) (d:W7.den):α:=f d.1.2.2.2.2.2.2.2.2.2.1 d.1.2.2.2.2.2.2.2.2.2.2.1 d.1.2.2.2.2.2.2.2.2.2.2.2.1 d.2.1.1 d.2.1.2.1 d.2.1.2.2.1 d.2.1.2.2.2.1 d.2.1.2.2.2.2.1 d.2.1.2.2.2.2.2.1 d.2.2.1.1 d.2.2.1.2.1 d.2.2.1.2.2.1 d.2.2.1.2.2.2.2.2.1 d.2.2.2.1.1 d.2.2.2.1.2.1 d.2.2.2.1.2.2.1 d.2.2.2.1.2.2.2.2.1 d.2.2.2.1.2.2.2.2.2.1 d.2.2.2.2.1
noncomputable abbrev B2s:W7.den→RT W7.den:=(A7c C0V)
noncomputable def B6q:Code:=((A6 0 (B4 Tryz.f22)).getD 0 (0,.skip)).2
noncomputable abbrev C0M (p0 p1 p2:Int) (p3:LT1) (p4:LIbe) (p5 q0 q1 q2 q5 r0 r1 r2:Int) (r4:LIbe) (r5:Int) (v:A5e):W7.den:=(((),(),(),(),(),(),(),(),(),v.1,v.2.1,v.2.2.1,u24),((p0,p1,p2,p3,p4,p5,()),(q0,q1,q2,(),(),q5,()),(r0,r1,r2,(),r4,r5,()),v.2.2.2,()))
theorem D2K (p0 p1 p2:Int) (p3:LT1) (p4:LIbe) (p5 q0 q1 q2 q5 r0 r1 r2:Int) (r4:LIbe) (r5:Int):(∀ v:A5e,(C0V v.1 v.2.1 v.2.2.1 p0 p1 p2 p3 p4 p5 q0 q1 q2 q5 r0 r1 r2 r4 r5 v.2.2.2).val=R5 (C0M p0 p1 p2 p3 p4 p5 q0 q1 q2 q5 r0 r1 r2 r4 r5) (B2J p0 p1 p2 p3 p4 p5 q0 q1 q2 q5 r0 r1 r2 r4 r5) (A7i v.1 v.2.1 v.2.2.1 p0 p1 p2 p3 p4 p5 q0 q1 q2 q5 r0 r1 r2 r4 r5 v.2.2.2))∧∀ a:A3j,CEnd W7.den ((B2J p0 p1 p2 p3 p4 p5 q0 q1 q2 q5 r0 r1 r2 r4 r5) a):=⟨fun v=>(B3 (B3 (B3 (B3 (B3 rfl rfl) rfl) rfl) rfl) rfl),fun a=>(C5 aCD K7)⟩
noncomputable def C0J (x9:LT1) (x10 x11 p0 p1 p2:Int) (p3:LT1) (p4:LIbe) (p5 q0 q1 q2 q5 r0 r1 r2:Int) (r4:LIbe) (r5:Int) (h3:LT1):Option (Ex×St):=let z1:=x9.getD x11.toNat ((0:Int),([],((0:Int),[])));let z2:=A1D (((z1.2).2).2);let z3:=D4 ((z1.2).1);(cond (decide (x11<x10)) (cond (decide (0≤x11∧x11<(x9.length:Int))) (cond (C4 ((z1.2).1)) (cond (P7 (((z1.2).2).2)) (cond (decide ((h3.length+([(z1.1,(z3,(((z1.2).2).1,z2)))]:LT1).length)*64≤MAXB)) (some (.normal,(⟨(.junk::(.ptr 0 0 1 0)::(.ptr 1 0 1 0)::(.ptr 2 0 1 0)::.junk::.junk::.junk::.junk::.junk::(.t false tq6 x9)::(ti x10)::(ti (wI (x11+(1:Int))))::F4w),[(.box [(ti p0),(ti p1),(ti p2),(.t false tq6 p3),(.t false tq9 p4),(ti p5)]),(.box [(ti q0),(ti q1),(ti q2),(.raw (.slice none 0 0)),(.raw (.slice none 0 0)),(ti q5)]),(.box [(ti r0),(ti r1),(ti r2),(.all 3 4),(.t false tq9 r4),(ti r5)]),(.rows 62 true tq7 (h3++([(z1.1,(z3,(((z1.2).2).1,z2)))])))],0,[]⟩:St))) none) none) none) none) (some ((.exit 0),(⟨(.junk::(.ptr 0 0 1 0)::(.ptr 1 0 1 0)::(.ptr 2 0 1 0)::E8U),[(.box [(ti p0),(ti p1),(ti p2),(.t false tq6 p3),(.t false tq9 p4),(ti p5)]),(.box [(ti q0),(ti q1),(ti q2),(.raw (.slice none 0 0)),(.raw (.slice none 0 0)),(ti q5)]),(.box [(ti r0),(ti r1),(ti r2),(.all 3 4),(.t false tq9 r4),(ti r5)]),(.rows 62 true tq7 h3)],0,[]⟩:St))))
theorem C9P:RdA G99 aLn 0 B6q W7 0 [] (kepts [] [(0,[1,2,3])]) (A7c C0J):=by
 intro d
 kernel_rfl
theorem D0j:∀ d:W7.den,(A7c C0J) d=(B2s d).opt 0 []:=by
 intro d
 kernel_rfl
noncomputable abbrev B7F:St→Option Tree:=W7.say 0 [] [(2003003,62,tq7)] (A7c D4D)
theorem D2q:aPL B7F B6q:=SS.wp2 hlz [(2003003,62,tq7)] B2s C9P D0j _ (fun d=>Runs.ofI2 (step:=B2s) (C0M d.2.1.1 d.2.1.2.1 d.2.1.2.2.1 d.2.1.2.2.2.1 d.2.1.2.2.2.2.1 d.2.1.2.2.2.2.2.1 d.2.2.1.1 d.2.2.1.2.1 d.2.2.1.2.2.1 d.2.2.1.2.2.2.2.2.1 d.2.2.2.1.1 d.2.2.2.1.2.1 d.2.2.2.1.2.2.1 d.2.2.2.1.2.2.2.2.1 d.2.2.2.1.2.2.2.2.2.1) (D2K d.2.1.1 d.2.1.2.1 d.2.1.2.2.1 d.2.1.2.2.2.1 d.2.1.2.2.2.2.1 d.2.1.2.2.2.2.2.1 d.2.2.1.1 d.2.2.1.2.1 d.2.2.1.2.2.1 d.2.2.1.2.2.2.2.2.1 d.2.2.2.1.1 d.2.2.2.1.2.1 d.2.2.2.1.2.2.1 d.2.2.2.1.2.2.2.2.1 d.2.2.2.1.2.2.2.2.2.1) rfl (d.1.2.2.2.2.2.2.2.2.2.1,d.1.2.2.2.2.2.2.2.2.2.2.1,d.1.2.2.2.2.2.2.2.2.2.2.2.1,d.2.2.2.2.1))
noncomputable def B0S (a0 a1 a2:Int) (a3:LT1) (a4:LIbe) (a5:Int):=B2m a3 (a3.length:Int) (0:Int) a0 a1 a2 a3 a4 a5 (0:Int) (0:Int) (0:Int) (0:Int) a0 a1 a2 a4 a5 ([]:LT1)
noncomputable def B5s (a0 a1 a2:Int) (a3:LT1) (a4:LIbe) (a5:Int):Int×Int×Int×LT1×LIbe×Int:=(a0,a1,a2,((B0S a0 a1 a2 a3 a4 a5).2),(A0L a4),a5)
noncomputable abbrev C8g (r:Int×Int×Int×LT1×LIbe×Int):AV×List AObj:=((.agg [(ti r.1),(ti r.2.1),(ti r.2.2.1),(.t true tq6 r.2.2.2.1),(.t true tq9 r.2.2.2.2.1),(ti r.2.2.2.2.2)]),[])
noncomputable abbrev B9M:A1 A83→AV×List AObj:=fun d=>C8g (B5s d.1.1 d.1.2.1 d.1.2.2.1 d.1.2.2.2.1 d.1.2.2.2.2.1 d.1.2.2.2.2.2.1)
noncomputable def A3P (a0 a1 a2:Int) (a3:LT1) (a4:LIbe) (a5:Int):Bool:=((B0S a0 a1 a2 a3 a4 a5).1==0)&&(N6 a4)
noncomputable abbrev B3Z:A1 A83→Bool:=fun d=>A3P d.1.1 d.1.2.1 d.1.2.2.1 d.1.2.2.2.1 d.1.2.2.2.2.1 d.1.2.2.2.2.2.1
noncomputable abbrev D9T:Nat→St→Option Tree:=fun b=>match b with | 0=>B7F | _=>fun _=>none
theorem D3l:N0 true G99 (D9T) Tryz.f22 A83 B3Z B9M:=by
 rintro ⟨⟨a0,⟨a1,⟨a2,⟨a3,⟨a4,⟨a5,_⟩⟩⟩⟩⟩⟩,_⟩ hp
 change A3P a0 a1 a2 a3 a4 a5=true at hp
 unfold A3P at hp
 refine Eq.trans (b:=(let z1:=B0S a0 a1 a2 a3 a4 a5;cond (z1.1==0) (cond (N6 a4) (some (C8g (a0,a1,a2,(z1.2),(A0L a4),a5))) none) none)) (by kernel_rfl) ?_
 exact (B2 hp fun hp=>(B7 hp fun _h=>rfl))
theorem D8i:aPP 22 (A7 A83 B3Z B9M):=pcD true G99 (hl1 (i:=0) (by kernel_rfl) D2q) D3l
noncomputable def F2c:Tab:=Tab.add S99 22 (lift (A7 A83 B3Z B9M))
noncomputable def F0G:FuncId→Bool:=qadd F3b 22
theorem F1a:aPG F2c F0G:=G99.addQ D8i (cbl Tryz.f22) (fun _=>rfl)

abbrev A6k:SS:=⟨[.ptr 0 0 1 0],[.box [tI,tI,tI,.t false tq6,.t false tq9,tI]]⟩
noncomputable def A4o (p0 p1 p2:Int) (p3:LT1) (p4:LIbe) (p5:Int):Int:=(wI ((wI (p1*(1000:Int)))+p2))
noncomputable abbrev D2u (p0 p1 p2:Int) (p3:LT1) (p4:LIbe) (p5 r:Int):AV×List AObj×List Nat:=((ti r),[(.box [(ti p0),(ti p1),(ti p2),(.t false tq6 p3),(.t false tq9 p4),(ti p5)])],[])
noncomputable abbrev C0G:A6k.den→AV×List AObj×List Nat:=fun d=>D2u d.2.1.1 d.2.1.2.1 d.2.1.2.2.1 d.2.1.2.2.2.1 d.2.1.2.2.2.2.1 d.2.1.2.2.2.2.2.1 (A4o d.2.1.1 d.2.1.2.1 d.2.1.2.2.1 d.2.1.2.2.2.1 d.2.1.2.2.2.2.1 d.2.1.2.2.2.2.2.1)
noncomputable abbrev B52:A6k.den→Bool:=fun d=>true
theorem C7e:B0e F1a aLn Tryz.f36 A6k B52 C0G:=by
 rintro ⟨⟨_,_⟩,⟨⟨p0,p1,p2,p3,p4,p5,_⟩,_⟩⟩ hp
 kernel_rfl
noncomputable abbrev C1t:=winQ (msum A6k B52 C0G)
theorem D2k:aPM 36 C1t:=(mcM F1a hlz C7e).winQ (A2F fun d=>⟨rfl,rfl⟩)
noncomputable def F2r:Tab:=Tab.add F2c 36 (C1t)
noncomputable def F0L:FuncId→Bool:=qadd F0G 36
theorem F1o:aPG F2r F0L:=F1a.addMQ D2k (A1Q _) (cbl Tryz.f36) (A04 _)

abbrev A2B:SS:=⟨[.agg [.t true (.int .i64),.t true .bool],.ptr 0 0 1 0],[.box [tI]]⟩
noncomputable def A80 (x0_0:Int) (x0_1:Bool) (p0:Int):Bool:=(x0_0==p0)
noncomputable abbrev C4P (p0:Int) (r:Bool):AV×List AObj×List Nat:=((.t true .bool r),[(.box [(ti p0)])],[])
noncomputable abbrev B2O:A2B.den→AV×List AObj×List Nat:=fun d=>C4P d.2.1.1 (A80 d.1.1.1 d.1.1.2.1 d.2.1.1)
noncomputable abbrev A9U:A2B.den→Bool:=fun d=>true
theorem C1C:B0e F1o aLn Tryz.f60 A2B A9U B2O:=by
 rintro ⟨⟨⟨x0_0,x0_1,_⟩,_,_⟩,⟨⟨p0,_⟩,_⟩⟩ hp
 kernel_rfl
noncomputable abbrev B2L:=winQ (msum A2B A9U B2O)
theorem C4N:aPM 60 B2L:=(mcM F1o hlz C1C).winQ (A2F fun d=>⟨rfl,rfl⟩)
noncomputable def F3x:Tab:=Tab.add F2r 60 (B2L)
noncomputable def F0r:FuncId→Bool:=qadd F0L 60
theorem E9a:aPG F3x F0r:=F1o.addMQ C4N (A1Q _) (cbl Tryz.f60) (A04 _)


end Go.Proofs.YtapikgcgahomlaaGreat.Eng
