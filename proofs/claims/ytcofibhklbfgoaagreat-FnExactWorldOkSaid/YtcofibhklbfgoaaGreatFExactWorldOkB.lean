/- What the functions that FnExactWorldOk reaches compute: further. -/
import Derived.Test.YtcofibhklbfgoaaGreatFExactWorldOkA
namespace Go.Proofs.YtcofibhklbfgoaaGreat.Eng
open Go Go.RowKit
set_option linter.unusedSimpArgs false
set_option linter.unusedVariables false
set_option maxRecDepth 10000
abbrev B8Q:List PSh:=[.t tq7,.t (.int .i64)]
abbrev A7I:SS:=⟨(.t false tq7::tI::.junk::.junk::.junk::.t true A9x::tI::E9E),[]⟩
abbrev C81:SS:=⟨(.junk::.junk::.junk::.junk::.junk::.t true A9x::D1v),[]⟩
noncomputable def C7P (x0:Lq2) (x1 x6:Int):=D2x (((x0.getD x6.toNat ((0:Int),(bE,bE))).2).1) x1
noncomputable def D24 (x0:Lq2) (x1:Int) (x5:List Int) (x6:Int):RT A7I.den:=let z1:=C7P x0 x1 x6;(.br (decide (x6<(x0.length:Int))) (.br (decide (0≤x6∧x6<(x0.length:Int))) (.br (B4G (((x0.getD x6.toNat ((0:Int),(bE,bE))).2).1) x1) (.br (A9H x5 z1) (.next ((x0,x1,(),(),(),(B5f x5 z1),wI (x6+(1:Int)),u18),())) .fail) .fail) .fail) (.done (.exit 0) C81 (((),(),(),(),(),x5,u19),())))
abbrev B3C:=(Lq2)×(Int)×(List Int)×(Int)
abbrev B0F:=Nat×(List Int)
def B56:B0F:=(99,([]:List Int))
noncomputable def B6S (x0:Lq2) (x1:Int) (x5:List Int) (x6:Int):B3C ⊕ B0F:=let z1:=C7P x0 x1 x6;(cond (decide (x6<(x0.length:Int))) (cond (decide (0≤x6∧x6<(x0.length:Int))) (cond (B4G (((x0.getD x6.toNat ((0:Int),(bE,bE))).2).1) x1) (cond (A9H x5 z1) (.inl (x0,x1,(B5f x5 z1),wI (x6+(1:Int)))) (.inr B56)) (.inr B56)) (.inr B56)) (.inr (0,x5)))
noncomputable def B17 (x0:Lq2) (x1:Int) (x5:List Int) (x6:Int):B0F:=itX (fun v:B3C=>B6S v.1 v.2.1 v.2.2.1 v.2.2.2) B56 (x0,x1,x5,x6)
noncomputable def C2q (a:B0F):CT:=(.br (a.1==0) (.done (.exit 0) C81 (((),(),(),(),(),a.2,u19),())) .fail)
noncomputable def E4x (x0:Lq2) (x1:Int) (x5:List Int) (x6:Int):CT:=C2q (B17 x0 x1 x5 x6)
noncomputable abbrev D0Q {α:Sort _} (f:Lq2→Int→(List Int)→Int→α) (d:A7I.den):α:=f d.1.1 d.1.2.1 d.1.2.2.2.2.2.1 d.1.2.2.2.2.2.2.1
noncomputable abbrev C3q:A7I.den→RT A7I.den:=(D0Q D24)
noncomputable def C57:Code:=((C4 0 (A0y Tryz.f106)).getD 0 (0,.skip)).2
noncomputable abbrev D2d (v:B3C):A7I.den:=((v.1,v.2.1,(),(),(),v.2.2.1,v.2.2.2,u18),())
theorem E3O:(∀ v:B3C,(D24 v.1 v.2.1 v.2.2.1 v.2.2.2).val=A5T D2d C2q (B6S v.1 v.2.1 v.2.2.1 v.2.2.2))∧∀ a:B0F,CEnd A7I.den (C2q a):=⟨fun v=>(A6V (A6V (A6V (A6V rfl rfl) rfl) rfl) rfl),fun a=>(A6I aCD A6K)⟩
theorem E1p:RdA G47 aLn 0 C57 A7I 0 [] (kepts [] [(0,[5])]) (fun d=>(C3q d).opt 0 []):=by
 intro d
 kernel_rfl
noncomputable abbrev C9M:St→Option Tree:=A7I.say 0 [] [(5,1000000,.bool)] (D0Q E4x)
theorem E27:aPL C9M C57:=SS.wp2 hlz [(5,1000000,.bool)] C3q E1p (fun d=>rfl) _ (fun d=>Runs.ofI2 (step:=C3q) D2d E3O rfl (d.1.1,d.1.2.1,d.1.2.2.2.2.2.1,d.1.2.2.2.2.2.2.1))
noncomputable def A9q (a0:Lq2) (a1:Int):List Int:=((B17 a0 a1 ([]:List Int) (0:Int)).2)
noncomputable abbrev E0e (r:List Int):AV×List AObj:=((.t true A9x r),[])
noncomputable abbrev D1q:F5 B8Q→AV×List AObj:=fun d=>E0e (A9q d.1 d.2.1)
noncomputable def A9G (a0:Lq2) (a1:Int):Bool:=((B17 a0 a1 ([]:List Int) (0:Int)).1==0)
noncomputable abbrev C4Z:F5 B8Q→Bool:=fun d=>A9G d.1 d.2.1
noncomputable abbrev E8s:Nat→St→Option Tree:=fun b=>match b with | 0=>C9M | _=>fun _=>none
theorem E5z:A6Q true G47 (E8s) Tryz.f106 B8Q C4Z D1q:=by
 rintro ⟨a0,⟨a1,_⟩⟩ hp
 change A9G a0 a1=true at hp
 unfold A9G at hp
 refine Eq.trans (b:=(let z1:=B17 a0 a1 ([]:List Int) (0:Int);cond (z1.1==0) (some (E0e (z1.2))) none)) (by kernel_rfl) ?_
 exact (A6T hp fun _h=>rfl)
theorem E82:aPP 106 (A2z B8Q C4Z D1q):=pcD true G47 (hl1 (i:=0) (by kernel_rfl) E27) E5z
noncomputable def S48:Tab:=Tab.add S47 106 (lift (A2z B8Q C4Z D1q))
noncomputable def F8u:FuncId→Bool:=qadd F8t 106
theorem G48:aPG S48 F8u:=G47.addQ E82 (cbl Tryz.f106) (fun _=>rfl)

abbrev F4M:List Sh:=.junk::.junk::.junk::.junk::.junk::.junk::.junk::.junk::.junk::.junk::.junk::.junk::.junk::.junk::.junk::.junk::.junk::.junk::.junk::.junk::.junk::.junk::.junk::.junk::.junk::.junk::.junk::.junk::.junk::.junk::.junk::.junk::.junk::.junk::.junk::.junk::.junk::.junk::.junk::.junk::.junk::.junk::.junk::.junk::.junk::.junk::.junk::.junk::.junk::.junk::.junk::.junk::.junk::.junk::.junk::.junk::.junk::.junk::.junk::.junk::.junk::.junk::.junk::.junk::.junk::.junk::.junk::.junk::.junk::.junk::.junk::.junk::.junk::.junk::.junk::.junk::.junk::.junk::.junk::.junk::.junk::E2Y
abbrev G0p:List Sh:=.junk::.junk::.junk::F4M
abbrev G0o:List Sh:=.junk::.junk::F4M
abbrev F52:=((),(),(),(),(),(),(),(),(),(),(),(),(),(),(),(),(),(),(),(),(),(),(),(),(),(),(),(),(),(),(),(),(),(),(),(),(),(),(),(),(),(),(),(),(),(),(),(),(),(),(),(),(),(),(),(),(),(),(),(),(),(),(),(),(),(),(),(),(),(),(),(),(),(),(),(),(),(),(),(),(),(),(),(),u40)
abbrev F7P:=((),(),(),(),(),(),(),(),(),(),(),(),(),(),(),(),(),(),(),(),(),(),(),(),(),(),(),(),(),(),(),(),(),(),(),(),(),(),(),(),(),(),(),(),(),(),(),(),(),(),(),(),(),(),(),(),(),(),(),(),(),(),(),(),(),(),(),(),(),(),(),(),(),(),(),(),(),(),(),(),(),u40)
abbrev G04:=((),(),(),(),(),F52)
abbrev G0b:List AV:=.junk::.junk::.junk::.junk::.junk::.junk::.junk::.junk::.junk::.junk::.junk::.junk::.junk::.junk::.junk::.junk::.junk::.junk::.junk::.junk::.junk::.junk::.junk::.junk::.junk::.junk::.junk::.junk::.junk::.junk::.junk::.junk::.junk::.junk::.junk::.junk::.junk::.junk::.junk::.junk::.junk::.junk::.junk::.junk::.junk::.junk::.junk::.junk::.junk::.junk::.junk::.junk::.junk::.junk::.junk::.junk::.junk::.junk::.junk::.junk::.junk::.junk::.junk::.junk::.junk::.junk::.junk::.junk::.junk::.junk::.junk::.junk::.junk::.junk::.junk::.junk::.junk::.junk::.junk::.junk::.junk::.junk::.junk::.junk::D9u
abbrev F6O:List AV:=.junk::.junk::.junk::.junk::.junk::.junk::.junk::.junk::.junk::.junk::.junk::.junk::.junk::.junk::.junk::.junk::.junk::.junk::.junk::.junk::.junk::.junk::.junk::.junk::.junk::.junk::.junk::.junk::.junk::.junk::.junk::.junk::.junk::.junk::.junk::.junk::.junk::.junk::.junk::.junk::.junk::.junk::.junk::.junk::.junk::.junk::.junk::.junk::.junk::.junk::.junk::.junk::.junk::.junk::.junk::.junk::.junk::.junk::.junk::.junk::.junk::.junk::.junk::.junk::.junk::.junk::.junk::.junk::.junk::.junk::.junk::.junk::.junk::.junk::.junk::.junk::.junk::.junk::.junk::.junk::.junk::D9u
abbrev G0a:List AV:=.junk::.junk::F6O
abbrev C5X:List PSh:=[.agg [(.int .i64),(.int .i64),(.int .i64),tq5,K4,(.int .i64)],.t (.int .i64)]
abbrev A8y:SS:=⟨(.junk::.junk::.ptr 0 0 1 0::.junk::.junk::.ptr 1 0 1 0::.t true A9x::tI::F4M),[.box [tI,tI,tI,.t false tq5,.t false K4,tI],.box [tI,.t false tq7,tI,.t false A9x]]⟩
abbrev C4x:SS:=⟨(.junk::.junk::.junk::.junk::.t true .bool::G0p),[]⟩
abbrev D4g:SS:=⟨(.junk::.junk::.ptr 0 0 1 0::.junk::.junk::.ptr 1 0 1 0::G0o),[.box [tI,tI,tI,.t false tq5,.t false K4,tI],.box [tI,.t false tq7,tI,.t false A9x]]⟩
noncomputable def D8P (x6:List Int) (x7 p0 p1 p2:Int) (p3:LT1) (p4:LIbe) (p5 q0:Int) (q1:Lq2) (q2:Int) (q3:List Int):RT A8y.den:=let z1:=wI (x7 - (1:Int));let z2:=q3.getD x7.toNat (0:Int);let z3:=decide (0≤x7∧x7<(q3.length:Int));(.br (decide (x7<(q3.length:Int))) (.br z3 (.br (V3 x6 z2) (.br (!(A8j x6 z2)) (.done .ret C4x (((),(),(),(),false,F52),())) (.br (decide (x7 > (0:Int))) (.br (decide (0≤z1∧z1<(q3.length:Int))) (.br z3 (.br (decide ((q3.getD (z1.toNat) (0:Int)) ≥ z2)) (.done .ret C4x (((),(),(),(),false,F52),())) (.next (((),(),(),(),(),(),x6,wI (x7+(1:Int)),F7P),((p0,p1,p2,p3,p4,p5,()),(q0,q1,q2,q3,()),())))) .fail) .fail) (.next (((),(),(),(),(),(),x6,wI (x7+(1:Int)),F7P),((p0,p1,p2,p3,p4,p5,()),(q0,q1,q2,q3,()),()))))) .fail) .fail) (.done (.exit 0) D4g ((G04),((p0,p1,p2,p3,p4,p5,()),(q0,q1,q2,q3,()),()))))
abbrev C3M:=(List Int)×(Int)
abbrev B8B:=Nat×(Bool)
def B57:B8B:=(99,(false:Bool))
noncomputable def C09 (x6:List Int) (x7 p0 p1 p2:Int) (p3:LT1) (p4:LIbe) (p5 q0:Int) (q1:Lq2) (q2:Int) (q3:List Int):C3M ⊕ B8B:=let z1:=wI (x7 - (1:Int));let z2:=q3.getD x7.toNat (0:Int);let z3:=decide (0≤x7∧x7<(q3.length:Int));(cond (decide (x7<(q3.length:Int))) (cond z3 (cond (V3 x6 z2) (cond (!(A8j x6 z2)) (.inr (0,false)) (cond (decide (x7 > (0:Int))) (cond (decide (0≤z1∧z1<(q3.length:Int))) (cond z3 (cond (decide ((q3.getD (z1.toNat) (0:Int)) ≥ z2)) (.inr (0,false)) (.inl (x6,wI (x7+(1:Int))))) (.inr B57)) (.inr B57)) (.inl (x6,wI (x7+(1:Int)))))) (.inr B57)) (.inr B57)) (.inr (1,(false:Bool))))
noncomputable def C7M (x6:List Int) (x7 p0 p1 p2:Int) (p3:LT1) (p4:LIbe) (p5 q0:Int) (q1:Lq2) (q2:Int) (q3:List Int):B8B:=itX (fun v:C3M=>C09 v.1 v.2 p0 p1 p2 p3 p4 p5 q0 q1 q2 q3) B57 (x6,x7)
noncomputable def C7o (p0 p1 p2:Int) (p3:LT1) (p4:LIbe) (p5 q0:Int) (q1:Lq2) (q2:Int) (q3:List Int) (a:B8B):CT:=(.br (a.1==0) (.done .ret C4x (((),(),(),(),a.2,F52),())) (.br (a.1==1) (.done (.exit 0) D4g ((G04),((p0,p1,p2,p3,p4,p5,()),(q0,q1,q2,q3,()),()))) .fail))
noncomputable def E8L (x6:List Int) (x7 p0 p1 p2:Int) (p3:LT1) (p4:LIbe) (p5 q0:Int) (q1:Lq2) (q2:Int) (q3:List Int):CT:=(C7o p0 p1 p2 p3 p4 p5 q0 q1 q2 q3) (C7M x6 x7 p0 p1 p2 p3 p4 p5 q0 q1 q2 q3)
noncomputable abbrev C0K {α:Sort _} (f:(List Int)→Int→Int→Int→Int→LT1→LIbe→Int→Int→Lq2→Int→(List Int)→α) (d:A8y.den):α:=f d.1.2.2.2.2.2.2.1 d.1.2.2.2.2.2.2.2.1 d.2.1.1 d.2.1.2.1 d.2.1.2.2.1 d.2.1.2.2.2.1 d.2.1.2.2.2.2.1 d.2.1.2.2.2.2.2.1 d.2.2.1.1 d.2.2.1.2.1 d.2.2.1.2.2.1 d.2.2.1.2.2.2.1
noncomputable abbrev C8L:A8y.den→RT A8y.den:=(C0K D8P)
noncomputable def D04:Code:=((C4 0 (A0y Tryz.f63)).getD 0 (0,.skip)).2
noncomputable abbrev D8a (p0 p1 p2:Int) (p3:LT1) (p4:LIbe) (p5 q0:Int) (q1:Lq2) (q2:Int) (q3:List Int) (v:C3M):A8y.den:=(((),(),(),(),(),(),v.1,v.2,F7P),((p0,p1,p2,p3,p4,p5,()),(q0,q1,q2,q3,()),()))
theorem E7K (p0 p1 p2:Int) (p3:LT1) (p4:LIbe) (p5 q0:Int) (q1:Lq2) (q2:Int) (q3:List Int):(∀ v:C3M,(D8P v.1 v.2 p0 p1 p2 p3 p4 p5 q0 q1 q2 q3).val=A5T (D8a p0 p1 p2 p3 p4 p5 q0 q1 q2 q3) (C7o p0 p1 p2 p3 p4 p5 q0 q1 q2 q3) (C09 v.1 v.2 p0 p1 p2 p3 p4 p5 q0 q1 q2 q3))∧∀ a:B8B,CEnd A8y.den ((C7o p0 p1 p2 p3 p4 p5 q0 q1 q2 q3) a):=⟨fun v=>by repeat' first | apply A6V | rfl,fun a=>(A6I aCD (A6I aCD A6K))⟩
noncomputable def D7V (x6:List Int) (x7 p0 p1 p2:Int) (p3:LT1) (p4:LIbe) (p5 q0:Int) (q1:Lq2) (q2:Int) (q3:List Int):Option (Ex×St):=let z1:=(⟨(.junk::.junk::(.ptr 0 0 1 0)::.junk::.junk::(.ptr 1 0 1 0)::(.t true A9x x6)::(ti (wI (x7+(1:Int))))::F6O),[(.box [(ti p0),(ti p1),(ti p2),(.t false tq5 p3),(.t false K4 p4),(ti p5)]),(.box [(ti q0),(.t false tq7 q1),(ti q2),(.t false A9x q3)])],0,[]⟩:St);let z2:=(⟨(.junk::.junk::.junk::.junk::(.t true .bool false)::G0b),[],0,[]⟩:St);let z3:=wI (x7 - (1:Int));let z4:=q3.getD x7.toNat (0:Int);let z5:=decide (0≤x7∧x7<(q3.length:Int));(cond (decide (x7<(q3.length:Int))) (cond z5 (cond (V3 x6 z4) (cond (!(A8j x6 z4)) (some (.ret,z2)) (cond (decide (x7 > (0:Int))) (cond (decide (0≤z3∧z3<(q3.length:Int))) (cond z5 (cond (decide ((q3.getD (z3.toNat) (0:Int)) ≥ z4)) (some (.ret,z2)) (some (.normal,z1))) none) none) (some (.normal,z1)))) none) none) (some ((.exit 0),(⟨(.junk::.junk::(.ptr 0 0 1 0)::.junk::.junk::(.ptr 1 0 1 0)::G0a),[(.box [(ti p0),(ti p1),(ti p2),(.t false tq5 p3),(.t false K4 p4),(ti p5)]),(.box [(ti q0),(.t false tq7 q1),(ti q2),(.t false A9x q3)])],0,[]⟩:St))))
theorem E5a:RdA G48 aLn 0 D04 A8y 0 [] (kepts [4] [(0,[2,5])]) (C0K D7V):=by
 intro d
 kernel_rfl
theorem E5e:∀ d:A8y.den,(C0K D7V) d=(C8L d).opt 0 []:=by
 intro d
 kernel_rfl
noncomputable abbrev D47:St→Option Tree:=A8y.say 0 [] [] (C0K E8L)
theorem E7c:aPL D47 D04:=SS.wp2 hlz [] C8L E5a E5e _ (fun d=>Runs.ofI2 (step:=C8L) (D8a d.2.1.1 d.2.1.2.1 d.2.1.2.2.1 d.2.1.2.2.2.1 d.2.1.2.2.2.2.1 d.2.1.2.2.2.2.2.1 d.2.2.1.1 d.2.2.1.2.1 d.2.2.1.2.2.1 d.2.2.1.2.2.2.1) (E7K d.2.1.1 d.2.1.2.1 d.2.1.2.2.1 d.2.1.2.2.2.1 d.2.1.2.2.2.2.1 d.2.1.2.2.2.2.2.1 d.2.2.1.1 d.2.2.1.2.1 d.2.2.1.2.2.1 d.2.2.1.2.2.2.1) rfl (d.1.2.2.2.2.2.2.1,d.1.2.2.2.2.2.2.2.1))
noncomputable def C7Q (a1 a2:Int) (a3:LT1) (a6:Int):=let z1:=wI (a1*(1000:Int));L0 ((a3.getD a6.toNat ((0:Int),([],((0:Int),[])))).1) z1 (wI ((wI (z1+a2)) - (1:Int)))
noncomputable def C7R (a3:LT1) (a6:Int):=L0 ((((a3.getD a6.toNat ((0:Int),([],((0:Int),[])))).2).2).1) (1:Int) (3:Int)
noncomputable def C7S (a0 a1 a2:Int) (a3:LT1) (a4:LIbe) (a5 a6:Int):=let z1:=a3.getD a6.toNat ((0:Int),([],((0:Int),[])));C7M (A9q ((z1.2).1) a0) (0:Int) a0 a1 a2 a3 a4 a5 (z1.1) ((z1.2).1) (((z1.2).2).1) (((z1.2).2).2)
noncomputable def D3H (a0 a1 a2:Int) (a3:LT1) (a4:LIbe) (a5 a6:Int):Bool:=let z2:=a3.getD a6.toNat ((0:Int),([],((0:Int),[])));let z4:=B0d a0 a1 a2 a3 a4 a5 (z2.1);let z3:=(a4.getD (z4.toNat) ((0:Int),false)).2;let z5:=C7S a0 a1 a2 a3 a4 a5 a6;let z1:=cond (!(B0c ((z2.2).1))) false (cond (!(C7R a3 a6)) false (cond (z5.1==0) (z5.2) (cond (decide (z4<(0:Int))) ((((z2.2).2).1)==(1:Int)) (cond ((((z2.2).2).1)==(2:Int)) (cond z3 true (cond ((((z2.2).2).1)==(3:Int)) (!z3) false)) (cond ((((z2.2).2).1)==(3:Int)) (!z3) false)))));(cond (!(C7Q a1 a2 a3 a6)) false (cond (decide (a6 > (0:Int))) (cond (decide (((a3.getD ((wI (a6 - (1:Int))).toNat) ((0:Int),([],((0:Int),[])))).1) ≥ (z2.1))) false z1) z1))
noncomputable abbrev I7 (r:Bool):AV×List AObj:=((.t true .bool r),[])
noncomputable abbrev D9r:F5 C5X→AV×List AObj:=fun d=>I7 (D3H d.1.1 d.1.2.1 d.1.2.2.1 d.1.2.2.2.1 d.1.2.2.2.2.1 d.1.2.2.2.2.2.1 d.2.1)
noncomputable def B5d (a0 a1 a2:Int) (a3:LT1) (a4:LIbe) (a5 a6:Int):Bool:=let z2:=a3.getD a6.toNat ((0:Int),([],((0:Int),[])));let z3:=B0d a0 a1 a2 a3 a4 a5 (z2.1);let z4:=wI (a6 - (1:Int));let z5:=decide (0≤z3∧z3<(a4.length:Int));let z6:=C7S a0 a1 a2 a3 a4 a5 a6;let z1:=(B0v ((z2.2).1))&&(cond (!(B0c ((z2.2).1))) true (cond (!(C7R a3 a6)) true ((A9G ((z2.2).1) a0)&&(cond (z6.1==0) true ((z6.1==1)&&((A0g a0 a1 a2 a3 a4 a5 (z2.1))&&(cond (decide (z3<(0:Int))) true (cond ((((z2.2).2).1)==(2:Int)) (z5&&(cond ((a4.getD (z3.toNat) ((0:Int),false)).2) true (cond ((((z2.2).2).1)==(3:Int)) z5 true))) (cond ((((z2.2).2).1)==(3:Int)) z5 true)))))))));(decide (0≤a6∧a6<(a3.length:Int)))&&(cond (!(C7Q a1 a2 a3 a6)) true (cond (decide (a6 > (0:Int))) ((decide (0≤z4∧z4<(a3.length:Int)))&&(cond (decide (((a3.getD (z4.toNat) ((0:Int),([],((0:Int),[])))).1) ≥ (z2.1))) true z1)) z1))
noncomputable abbrev D15:F5 C5X→Bool:=fun d=>B5d d.1.1 d.1.2.1 d.1.2.2.1 d.1.2.2.2.1 d.1.2.2.2.2.1 d.1.2.2.2.2.2.1 d.2.1
noncomputable abbrev F2R:Nat→St→Option Tree:=fun b=>match b with | 0=>D47 | _=>fun _=>none
theorem F0z:A6Q true G48 (F2R) Tryz.f63 C5X D15 D9r:=by
 rintro ⟨⟨a0,⟨a1,⟨a2,⟨a3,⟨a4,⟨a5,_⟩⟩⟩⟩⟩⟩,⟨a6,_⟩⟩ hp
 change B5d a0 a1 a2 a3 a4 a5 a6=true at hp
 unfold B5d at hp
 refine Eq.trans (b:=(let z1:=a3.getD a6.toNat ((0:Int),([],((0:Int),[])));let z2:=B0d a0 a1 a2 a3 a4 a5 (z1.1);let z3:=(a4.getD (z2.toNat) ((0:Int),false)).2;let z4:=decide (0≤z2∧z2<(a4.length:Int));let z5:=C7S a0 a1 a2 a3 a4 a5 a6;let z6:=wI (a6 - (1:Int));let z7:=I7 (!z3);let z8:=A0g a0 a1 a2 a3 a4 a5 (z1.1);let z9:=I7 ((((z1.2).2).1)==(1:Int));let z10:=A9G ((z1.2).1) a0;let z11:=!(B0c ((z1.2).1));let z12:=B0v ((z1.2).1);let z13:=!(C7R a3 a6);let z14:=decide (z2<(0:Int));cond (decide (0≤a6∧a6<(a3.length:Int))) (cond (!(C7Q a1 a2 a3 a6)) (some (I7 false)) (cond (decide (a6 > (0:Int))) (cond (decide (0≤z6∧z6<(a3.length:Int))) (cond (decide (((a3.getD (z6.toNat) ((0:Int),([],((0:Int),[])))).1) ≥ (z1.1))) (some (I7 false)) (cond z12 (cond z11 (some (I7 false)) (cond z13 (some (I7 false)) (cond z10 (cond (z5.1==0) (some (I7 (z5.2))) (cond (z5.1==1) (cond z8 (cond z14 (some z9) (cond ((((z1.2).2).1)==(2:Int)) (cond z4 (cond z3 (some (I7 true)) (cond ((((z1.2).2).1)==(3:Int)) (cond z4 (some z7) none) (some (I7 false)))) none) (cond ((((z1.2).2).1)==(3:Int)) (cond z4 (some z7) none) (some (I7 false))))) none) none)) none))) none)) none) (cond z12 (cond z11 (some (I7 false)) (cond z13 (some (I7 false)) (cond z10 (cond (z5.1==0) (some (I7 (z5.2))) (cond (z5.1==1) (cond z8 (cond z14 (some z9) (cond ((((z1.2).2).1)==(2:Int)) (cond z4 (cond z3 (some (I7 true)) (cond ((((z1.2).2).1)==(3:Int)) (cond z4 (some z7) none) (some (I7 false)))) none) (cond ((((z1.2).2).1)==(3:Int)) (cond z4 (some z7) none) (some (I7 false))))) none) none)) none))) none))) none)) (by kernel_rfl) ?_
 exact (A6R hp fun hp=>(H7 I7 hp (fun hp=>rfl) (fun hp=>(H7 I7 hp (fun hp=>(A6R hp fun hp=>(H7 I7 hp (fun hp=>rfl) (fun hp=>(A6R hp fun hp=>(H7 I7 hp (fun hp=>rfl) (fun hp=>(H7 I7 hp (fun hp=>rfl) (fun hp=>(A6R hp fun hp=>(H7 I7 hp (fun hp=>rfl) (fun hp=>(A6R hp fun hp=>(A6R hp fun hp=>(H7 I7 hp (fun hp=>rfl) (fun hp=>(H7 I7 hp (fun hp=>(A6R hp fun hp=>(H7 I7 hp (fun hp=>rfl) (fun hp=>(H7 I7 hp (fun hp=>(A6T hp fun _h=>rfl)) (fun hp=>rfl)))))) (fun hp=>(H7 I7 hp (fun hp=>(A6T hp fun _h=>rfl)) (fun hp=>rfl)))))))))))))))))))) (fun hp=>(A6R hp fun hp=>(H7 I7 hp (fun hp=>rfl) (fun hp=>(H7 I7 hp (fun hp=>rfl) (fun hp=>(A6R hp fun hp=>(H7 I7 hp (fun hp=>rfl) (fun hp=>(A6R hp fun hp=>(A6R hp fun hp=>(H7 I7 hp (fun hp=>rfl) (fun hp=>(H7 I7 hp (fun hp=>(A6R hp fun hp=>(H7 I7 hp (fun hp=>rfl) (fun hp=>(H7 I7 hp (fun hp=>(A6T hp fun _h=>rfl)) (fun hp=>rfl)))))) (fun hp=>(H7 I7 hp (fun hp=>(A6T hp fun _h=>rfl)) (fun hp=>rfl)))))))))))))))))))))
theorem F3m:aPP 63 (A2z C5X D15 D9r):=pcD true G48 (hl1 (i:=0) (by kernel_rfl) E7c) F0z
noncomputable def S49:Tab:=Tab.add S48 63 (lift (A2z C5X D15 D9r))
noncomputable def F8v:FuncId→Bool:=qadd F8u 63
theorem G49:aPG S49 F8v:=G48.addQ F3m (cbl Tryz.f63) (fun _=>rfl)

abbrev G0v:List Sh:=.junk::.junk::.junk::.junk::.junk::.junk::.junk::.junk::.junk::.junk::.junk::.junk::.junk::.junk::.junk::.junk::.junk::.junk::.junk::.junk::.junk::.junk::.junk::.junk::.junk::.junk::.junk::.junk::.junk::.junk::.junk::.junk::.junk::.junk::.junk::.junk::.junk::.junk::E2Y
abbrev F7J:List Sh:=.junk::G0v
abbrev G0w:List Sh:=.junk::F7J
abbrev u79:=((),(),(),(),(),(),(),(),(),(),(),(),(),(),(),(),(),(),(),(),(),(),(),(),(),(),(),(),(),(),(),(),(),(),(),(),(),(),(),u40)
abbrev u78:=((),(),(),(),(),(),(),(),(),(),(),(),(),(),(),(),(),(),(),(),(),(),(),(),(),(),(),(),(),(),(),(),(),(),(),(),(),(),u40)
abbrev u82:=((),(),(),u79)
abbrev F7v:List AV:=.junk::.junk::.junk::.junk::.junk::.junk::.junk::.junk::.junk::.junk::.junk::.junk::.junk::.junk::.junk::.junk::.junk::.junk::.junk::.junk::.junk::.junk::.junk::.junk::.junk::.junk::.junk::.junk::.junk::.junk::.junk::.junk::.junk::.junk::.junk::.junk::.junk::.junk::.junk::D9u
abbrev G1k:List AV:=.junk::.junk::.junk::.junk::.junk::.junk::.junk::.junk::.junk::.junk::.junk::.junk::.junk::.junk::.junk::.junk::.junk::.junk::.junk::.junk::.junk::.junk::.junk::.junk::.junk::.junk::.junk::.junk::.junk::.junk::.junk::.junk::.junk::.junk::.junk::.junk::.junk::.junk::D9u
abbrev G0h:List AV:=.junk::F7v
abbrev G1v:List Sh:=.junk::.junk::.junk::.junk::.junk::.junk::.junk::.junk::.junk::.junk::.junk::.junk::.junk::.junk::.junk::.junk::.junk::.junk::.junk::.junk::.junk::.junk::.junk::.junk::.junk::.junk::.junk::.junk::.junk::.junk::.junk::.junk::.junk::.junk::.junk::.junk::.junk::E2Y
abbrev F1G:List Sh:=.junk::G0w
abbrev u77:=((),(),(),(),(),(),(),(),(),(),(),(),(),(),(),(),(),(),(),(),(),(),(),(),(),(),(),(),(),(),(),(),(),(),(),(),(),u40)
abbrev G1j:List AV:=.junk::.junk::.junk::.junk::.junk::.junk::.junk::.junk::.junk::.junk::.junk::.junk::.junk::.junk::.junk::.junk::.junk::.junk::.junk::.junk::.junk::.junk::.junk::.junk::.junk::.junk::.junk::.junk::.junk::.junk::.junk::.junk::.junk::.junk::.junk::.junk::.junk::D9u
abbrev E9C:List AV:=.junk::G0h
abbrev C12:List PSh:=[.agg [(.int .i64),(.int .i64),(.int .i64),tq5,K4,(.int .i64)]]
noncomputable def B9C:Code:=((C4 0 (A0y Tryz.f27)).getD 0 (0,.skip)).2
noncomputable def B9D:Code:=((C4 0 (A0y Tryz.f27)).getD 1 (0,.skip)).2
abbrev A7C:SS:=⟨(.junk::.ptr 0 0 1 0::.junk::tI::G0v),[.box [tI,tI,tI,.t false tq5,.t false K4,tI]]⟩
abbrev C1z:SS:=⟨(.junk::.junk::.t true .bool::F7J),[]⟩
abbrev D0n:SS:=⟨(.junk::.ptr 0 0 1 0::G0w),[.box [tI,tI,tI,.t false tq5,.t false K4,tI]]⟩
noncomputable def C4b (x3 p1 p2:Int) (p4:LIbe):=L0 ((p4.getD x3.toNat ((0:Int),false)).1) (1000:Int) (wI ((wI ((wI (p1*(1000:Int)))+p2)) - (1:Int)))
noncomputable def D5f (x3 p0 p1 p2:Int) (p3:LT1) (p4:LIbe) (p5:Int):RT A7C.den:=let z1:=(p4.getD x3.toNat ((0:Int),false)).1;let z2:=decide (0≤x3∧x3<(p4.length:Int));(.br (decide (x3<(p4.length:Int))) (.br z2 (.br (!(C4b x3 p1 p2 p4)) (.done .ret C1z (((),(),false,u79),())) (.br z2 (.br (A0g p0 p1 p2 p3 p4 p5 z1) (.br ((B0d p0 p1 p2 p3 p4 p5 z1) != x3) (.done .ret C1z (((),(),false,u79),())) (.next (((),(),(),wI (x3+(1:Int)),u78),((p0,p1,p2,p3,p4,p5,()),())))) .fail) .fail)) .fail) (.done (.exit 0) D0n ((u82),((p0,p1,p2,p3,p4,p5,()),()))))
abbrev C0F:=(Int)
abbrev B5o:=Nat×(Bool)
def B8b:B5o:=(99,(false:Bool))
noncomputable def B8u (x3 p0 p1 p2:Int) (p3:LT1) (p4:LIbe) (p5:Int):C0F ⊕ B5o:=let z1:=(p4.getD x3.toNat ((0:Int),false)).1;let z2:=decide (0≤x3∧x3<(p4.length:Int));(cond (decide (x3<(p4.length:Int))) (cond z2 (cond (!(C4b x3 p1 p2 p4)) (.inr (0,false)) (cond z2 (cond (A0g p0 p1 p2 p3 p4 p5 z1) (cond ((B0d p0 p1 p2 p3 p4 p5 z1) != x3) (.inr (0,false)) (.inl (wI (x3+(1:Int))))) (.inr B8b)) (.inr B8b))) (.inr B8b)) (.inr (1,(false:Bool))))
noncomputable def B3N (x3 p0 p1 p2:Int) (p3:LT1) (p4:LIbe) (p5:Int):B5o:=itX (fun v:C0F=>B8u v p0 p1 p2 p3 p4 p5) B8b x3
noncomputable def C4G (p0 p1 p2:Int) (p3:LT1) (p4:LIbe) (p5:Int) (a:B5o):CT:=(.br (a.1==0) (.done .ret C1z (((),(),a.2,u79),())) (.br (a.1==1) (.done (.exit 0) D0n ((u82),((p0,p1,p2,p3,p4,p5,()),()))) .fail))
noncomputable def E6e (x3 p0 p1 p2:Int) (p3:LT1) (p4:LIbe) (p5:Int):CT:=(C4G p0 p1 p2 p3 p4 p5) (B3N x3 p0 p1 p2 p3 p4 p5)
noncomputable abbrev B73 {α:Sort _} (f:Int→Int→Int→Int→LT1→LIbe→Int→α) (d:A7C.den):α:=f d.1.2.2.2.1 d.2.1.1 d.2.1.2.1 d.2.1.2.2.1 d.2.1.2.2.2.1 d.2.1.2.2.2.2.1 d.2.1.2.2.2.2.2.1
noncomputable abbrev C5b:A7C.den→RT A7C.den:=(B73 D5f)
noncomputable abbrev D4Q (p0 p1 p2:Int) (p3:LT1) (p4:LIbe) (p5:Int) (v:C0F):A7C.den:=(((),(),(),v,u78),((p0,p1,p2,p3,p4,p5,()),()))
theorem E5l (p0 p1 p2:Int) (p3:LT1) (p4:LIbe) (p5:Int):(∀ v:C0F,(D5f v p0 p1 p2 p3 p4 p5).val=A5T (D4Q p0 p1 p2 p3 p4 p5) (C4G p0 p1 p2 p3 p4 p5) (B8u v p0 p1 p2 p3 p4 p5))∧∀ a:B5o,CEnd A7C.den ((C4G p0 p1 p2 p3 p4 p5) a):=⟨fun v=>by repeat' first | apply A6V | rfl,fun a=>(A6I aCD (A6I aCD A6K))⟩
noncomputable def D4B (x3 p0 p1 p2:Int) (p3:LT1) (p4:LIbe) (p5:Int):Option (Ex×St):=let z1:=(⟨(.junk::.junk::(.t true .bool false)::F7v),[],0,[]⟩:St);let z2:=(p4.getD x3.toNat ((0:Int),false)).1;let z3:=decide (0≤x3∧x3<(p4.length:Int));(cond (decide (x3<(p4.length:Int))) (cond z3 (cond (!(C4b x3 p1 p2 p4)) (some (.ret,z1)) (cond z3 (cond (A0g p0 p1 p2 p3 p4 p5 z2) (cond ((B0d p0 p1 p2 p3 p4 p5 z2) != x3) (some (.ret,z1)) (some (.normal,(⟨(.junk::(.ptr 0 0 1 0)::.junk::(ti (wI (x3+(1:Int))))::G1k),[(.box [(ti p0),(ti p1),(ti p2),(.t false tq5 p3),(.t false K4 p4),(ti p5)])],0,[]⟩:St)))) none) none)) none) (some ((.exit 0),(⟨(.junk::(.ptr 0 0 1 0)::G0h),[(.box [(ti p0),(ti p1),(ti p2),(.t false tq5 p3),(.t false K4 p4),(ti p5)])],0,[]⟩:St))))
theorem E3x:RdA G49 aLn 0 B9C A7C 0 [] (kepts [2] [(0,[1])]) (B73 D4B):=by
 intro d
 kernel_rfl
theorem E3D:∀ d:A7C.den,(B73 D4B) d=(C5b d).opt 0 []:=by
 intro d
 kernel_rfl
noncomputable abbrev D2H:St→Option Tree:=A7C.say 0 [] [] (B73 E6e)
theorem E4T:aPL D2H B9C:=SS.wp2 hlz [] C5b E3x E3D _ (fun d=>Runs.ofI2 (step:=C5b) (D4Q d.2.1.1 d.2.1.2.1 d.2.1.2.2.1 d.2.1.2.2.2.1 d.2.1.2.2.2.2.1 d.2.1.2.2.2.2.2.1) (E5l d.2.1.1 d.2.1.2.1 d.2.1.2.2.1 d.2.1.2.2.2.1 d.2.1.2.2.2.2.1 d.2.1.2.2.2.2.2.1) rfl d.1.2.2.2.1)
abbrev A7D:SS:=⟨(.junk::.ptr 0 0 1 0::.junk::.junk::tI::G1v),[.box [tI,tI,tI,.t false tq5,.t false K4,tI]]⟩
abbrev D0o:SS:=⟨(.junk::.junk::.t true .bool::F7J),[]⟩
abbrev D0p:SS:=⟨(.junk::F1G),[]⟩
noncomputable def D5g (x4 p0 p1 p2:Int) (p3:LT1) (p4:LIbe) (p5:Int):RT A7D.den:=(.br (decide (x4<(p3.length:Int))) (.br (B5d p0 p1 p2 p3 p4 p5 x4) (.br (!(D3H p0 p1 p2 p3 p4 p5 x4)) (.done .ret D0o (((),(),false,u79),())) (.next (((),(),(),(),wI (x4+(1:Int)),u77),((p0,p1,p2,p3,p4,p5,()),())))) .fail) (.done (.exit 2) D0p ((u82),())))
abbrev C0G:=(Int)
abbrev B5p:=Nat×(Bool)
def D4w:B5p:=(99,(false:Bool))
noncomputable def B8v (x4 p0 p1 p2:Int) (p3:LT1) (p4:LIbe) (p5:Int):C0G ⊕ B5p:=(cond (decide (x4<(p3.length:Int))) (cond (B5d p0 p1 p2 p3 p4 p5 x4) (cond (!(D3H p0 p1 p2 p3 p4 p5 x4)) (.inr (0,false)) (.inl (wI (x4+(1:Int))))) (.inr D4w)) (.inr (1,(false:Bool))))
noncomputable def B3O (x4 p0 p1 p2:Int) (p3:LT1) (p4:LIbe) (p5:Int):B5p:=itX (fun v:C0G=>B8v v p0 p1 p2 p3 p4 p5) D4w x4
noncomputable def C4H (p0 p1 p2:Int) (p3:LT1) (p4:LIbe) (p5:Int) (a:B5p):CT:=(.br (a.1==0) (.done .ret D0o (((),(),a.2,u79),())) (.br (a.1==1) (.done (.exit 2) D0p ((u82),())) .fail))
noncomputable def E6f (x4 p0 p1 p2:Int) (p3:LT1) (p4:LIbe) (p5:Int):CT:=(C4H p0 p1 p2 p3 p4 p5) (B3O x4 p0 p1 p2 p3 p4 p5)
noncomputable abbrev B74 {α:Sort _} (f:Int→Int→Int→Int→LT1→LIbe→Int→α) (d:A7D.den):α:=f d.1.2.2.2.2.1 d.2.1.1 d.2.1.2.1 d.2.1.2.2.1 d.2.1.2.2.2.1 d.2.1.2.2.2.2.1 d.2.1.2.2.2.2.2.1
noncomputable abbrev C5c:A7D.den→RT A7D.den:=(B74 D5g)
noncomputable abbrev D4R (p0 p1 p2:Int) (p3:LT1) (p4:LIbe) (p5:Int) (v:C0G):A7D.den:=(((),(),(),(),v,u77),((p0,p1,p2,p3,p4,p5,()),()))
theorem E5m (p0 p1 p2:Int) (p3:LT1) (p4:LIbe) (p5:Int):(∀ v:C0G,(D5g v p0 p1 p2 p3 p4 p5).val=A5T (D4R p0 p1 p2 p3 p4 p5) (C4H p0 p1 p2 p3 p4 p5) (B8v v p0 p1 p2 p3 p4 p5))∧∀ a:B5p,CEnd A7D.den ((C4H p0 p1 p2 p3 p4 p5) a):=⟨fun v=>(A6V (A6V (A6V rfl rfl) rfl) rfl),fun a=>(A6I aCD (A6I aCD A6K))⟩
noncomputable def D4C (x4 p0 p1 p2:Int) (p3:LT1) (p4:LIbe) (p5:Int):Option (Ex×St):=(cond (decide (x4<(p3.length:Int))) (cond (B5d p0 p1 p2 p3 p4 p5 x4) (cond (!(D3H p0 p1 p2 p3 p4 p5 x4)) (some (.ret,(⟨(.junk::.junk::(.t true .bool false)::F7v),[],0,[]⟩:St))) (some (.normal,(⟨(.junk::(.ptr 0 0 1 0)::.junk::.junk::(ti (wI (x4+(1:Int))))::G1j),[(.box [(ti p0),(ti p1),(ti p2),(.t false tq5 p3),(.t false K4 p4),(ti p5)])],0,[]⟩:St)))) none) (some ((.exit 2),(⟨(.junk::E9C),[],0,[]⟩:St))))
theorem E3y:RdA G49 aLn 2 B9D A7D 0 [] (kepts [2] [(2,[])]) (B74 D4C):=by
 intro d
 kernel_rfl
theorem E3E:∀ d:A7D.den,(B74 D4C) d=(C5c d).opt 0 []:=by
 intro d
 kernel_rfl
noncomputable abbrev D2I:St→Option Tree:=A7D.say 0 [] [] (B74 E6f)
theorem E4U:aPL D2I B9D:=SS.wp2 hlz [] C5c E3y E3E _ (fun d=>Runs.ofI2 (step:=C5c) (D4R d.2.1.1 d.2.1.2.1 d.2.1.2.2.1 d.2.1.2.2.2.1 d.2.1.2.2.2.2.1 d.2.1.2.2.2.2.2.1) (E5m d.2.1.1 d.2.1.2.1 d.2.1.2.2.1 d.2.1.2.2.2.1 d.2.1.2.2.2.2.1 d.2.1.2.2.2.2.2.1) rfl d.1.2.2.2.2.1)
noncomputable def C3d (a0 a1 a2:Int) (a3:LT1) (a4:LIbe) (a5:Int):Bool:=let z1:=B3N (0:Int) a0 a1 a2 a3 a4 a5;let z2:=B3O (0:Int) a0 a1 a2 a3 a4 a5;(cond (!(L0 a0 (1:Int) (8:Int))) false (cond (!(L0 a1 (1:Int) (900:Int))) false (cond (!(L0 a2 (0:Int) (999:Int))) false (cond (decide ((a4.length:Int) > (1000:Int))) false (cond (!(L0 a5 (0:Int) (a4.length:Int))) false (cond (z1.1==0) (z1.2) (cond (z2.1==0) (z2.2) true)))))))
noncomputable abbrev T2 (r:Bool):AV×List AObj:=((.t true .bool r),[])
noncomputable abbrev D50:F5 C12→AV×List AObj:=fun d=>T2 (C3d d.1.1 d.1.2.1 d.1.2.2.1 d.1.2.2.2.1 d.1.2.2.2.2.1 d.1.2.2.2.2.2.1)
noncomputable def B4F (a0 a1 a2:Int) (a3:LT1) (a4:LIbe) (a5:Int):Bool:=let z1:=B3N (0:Int) a0 a1 a2 a3 a4 a5;let z2:=B3O (0:Int) a0 a1 a2 a3 a4 a5;cond (!(L0 a0 (1:Int) (8:Int))) true (cond (!(L0 a1 (1:Int) (900:Int))) true (cond (!(L0 a2 (0:Int) (999:Int))) true (cond (decide ((a4.length:Int) > (1000:Int))) true (cond (!(L0 a5 (0:Int) (a4.length:Int))) true (cond (z1.1==0) true ((z1.1==1)&&(cond (z2.1==0) true (z2.1==1))))))))
noncomputable abbrev C8o:F5 C12→Bool:=fun d=>B4F d.1.1 d.1.2.1 d.1.2.2.1 d.1.2.2.2.1 d.1.2.2.2.2.1 d.1.2.2.2.2.2.1
noncomputable abbrev F0V:Nat→St→Option Tree:=fun b=>match b with | 0=>D2H | 2=>D2I | _=>fun _=>none
theorem E79:A6Q true G49 (F0V) Tryz.f27 C12 C8o D50:=by
 rintro ⟨⟨a0,⟨a1,⟨a2,⟨a3,⟨a4,⟨a5,_⟩⟩⟩⟩⟩⟩,_⟩ hp
 change B4F a0 a1 a2 a3 a4 a5=true at hp
 unfold B4F at hp
 refine Eq.trans (b:=(let z1:=B3N (0:Int) a0 a1 a2 a3 a4 a5;let z2:=B3O (0:Int) a0 a1 a2 a3 a4 a5;cond (!(L0 a0 (1:Int) (8:Int))) (some (T2 false)) (cond (!(L0 a1 (1:Int) (900:Int))) (some (T2 false)) (cond (!(L0 a2 (0:Int) (999:Int))) (some (T2 false)) (cond (decide ((a4.length:Int) > (1000:Int))) (some (T2 false)) (cond (!(L0 a5 (0:Int) (a4.length:Int))) (some (T2 false)) (cond (z1.1==0) (some (T2 (z1.2))) (cond (z1.1==1) (cond (z2.1==0) (some (T2 (z2.2))) (cond (z2.1==1) (some (T2 true)) none)) none)))))))) (by kernel_rfl) ?_
 exact (H7 T2 hp (fun hp=>rfl) (fun hp=>(H7 T2 hp (fun hp=>rfl) (fun hp=>(H7 T2 hp (fun hp=>rfl) (fun hp=>(H7 T2 hp (fun hp=>rfl) (fun hp=>(H7 T2 hp (fun hp=>rfl) (fun hp=>(H7 T2 hp (fun hp=>rfl) (fun hp=>(A6R hp fun hp=>(H7 T2 hp (fun hp=>rfl) (fun hp=>(A6T hp fun _h=>rfl))))))))))))))))
theorem F1A:aPP 27 (A2z C12 C8o D50):=pcD true G49 (by
  rw [show C4 0 (A0y Tryz.f27)=[(0,B9C),(2,B9D)] by kernel_rfl];intro p hp;simp only [List.mem_cons,List.mem_nil_iff,or_false] at hp
  rcases hp with rfl | rfl
  ·exact E4T
  ·exact E4U) E79
noncomputable def S50:Tab:=Tab.add S49 27 (lift (A2z C12 C8o D50))
noncomputable def F8w:FuncId→Bool:=qadd F8v 27
theorem G50:aPG S50 F8w:=G49.addQ F1A (cbl Tryz.f27) (fun _=>rfl)

abbrev C5W:List PSh:=[.agg [(.int .i64),(.int .i64),(.int .i64),tq7,.bool]]
noncomputable def C8z (a0 a1 a2:Int) (a3:Lq2) (a4:Bool):Bool:=(cond (!(L0 a1 (0:Int) (7:Int))) false (cond (!(L0 a2 (1:Int) (1000000:Int))) false (cond (a0==(1:Int)) (cond (B0c a3) (!a4) false) (cond (a0==(2:Int)) ((a3.length:Int)==(0:Int)) (cond (a0==(3:Int)) ((a3.length:Int)==(0:Int)) (cond (a0==(4:Int)) (cond ((a3.length:Int)==(0:Int)) (!a4) false) false))))))
noncomputable abbrev U9 (r:Bool):AV×List AObj:=((.t true .bool r),[])
noncomputable abbrev D9q:F5 C5W→AV×List AObj:=fun d=>U9 (C8z d.1.1 d.1.2.1 d.1.2.2.1 d.1.2.2.2.1 d.1.2.2.2.2.1)
noncomputable def B7N (a0 a1 a2:Int) (a3:Lq2) (a4:Bool):Bool:=Q9 a3
noncomputable abbrev D14:F5 C5W→Bool:=fun d=>B7N d.1.1 d.1.2.1 d.1.2.2.1 d.1.2.2.2.1 d.1.2.2.2.2.1
theorem F0y:A6Q true G50 aLn Tryz.f64 C5W D14 D9q:=by
 rintro ⟨⟨a0,⟨a1,⟨a2,⟨a3,⟨a4,_⟩⟩⟩⟩⟩,_⟩ hp
 change B7N a0 a1 a2 a3 a4=true at hp
 unfold B7N at hp
 refine Eq.trans (b:=(let z1:=U9 ((a3.length:Int)==(0:Int));cond (!(L0 a1 (0:Int) (7:Int))) (some (U9 false)) (cond (!(L0 a2 (1:Int) (1000000:Int))) (some (U9 false)) (cond (a0==(1:Int)) (cond (B0v a3) (cond (B0c a3) (some (U9 (!a4))) (some (U9 false))) none) (cond (a0==(2:Int)) (some z1) (cond (a0==(3:Int)) (some z1) (cond (a0==(4:Int)) (cond ((a3.length:Int)==(0:Int)) (some (U9 (!a4))) (some (U9 false))) (some (U9 false))))))))) (by kernel_rfl) ?_
 exact (L7 U9 (fun _h=>rfl) (fun _h=>(L7 U9 (fun _h=>rfl) (fun _h=>(L7 U9 (fun _h=>(A6T (by first | rfl | decide | exact hp | (simp only [Bool.and_eq_true] at hp;simp only [hp];done) | (simp [*];done) | (simp [okL] at hp;simp [okL,MAXB];omega) | (simp_all;done) | (simp at *;omega)) (fun _h=>(L7 U9 (fun _h=>rfl) (fun _h=>rfl))))) (fun _h=>(L7 U9 (fun _h=>rfl) (fun _h=>(L7 U9 (fun _h=>rfl) (fun _h=>(L7 U9 (fun _h=>(L7 U9 (fun _h=>rfl) (fun _h=>rfl))) (fun _h=>rfl))))))))))))
theorem F3l:aPP 64 (A2z C5W D14 D9q):=pcD true G50 hlz F0y
noncomputable def S51:Tab:=Tab.add S50 64 (lift (A2z C5W D14 D9q))
noncomputable def F8x:FuncId→Bool:=qadd F8w 64
theorem G51:aPG S51 F8x:=G50.addQ F3l (cbl Tryz.f64) (fun _=>rfl)

abbrev F4O:List Sh:=.junk::D7E
abbrev F7B:List Sh:=.junk::.junk::.junk::F4O
abbrev u28:=((),u27)
abbrev u31:=((),(),(),u28)
abbrev F4G:List AV:=.junk::.junk::.junk::.junk::.junk::.junk::.junk::.junk::.junk::.junk::.junk::.junk::.junk::.junk::.junk::.junk::.junk::.junk::.junk::.junk::.junk::.junk::.junk::.junk::.junk::.junk::.junk::[]
abbrev F7p:List AV:=.junk::.junk::.junk::.junk::.junk::.junk::.junk::.junk::.junk::.junk::.junk::.junk::.junk::.junk::.junk::.junk::.junk::.junk::.junk::.junk::.junk::.junk::.junk::.junk::.junk::.junk::[]
abbrev F7q:List AV:=.junk::.junk::.junk::F4G
abbrev B8S:List PSh:=[.agg [(.int .i64),(.int .i64),(.int .i64),tq5,K4,(.int .i64),tq3,tq4,tq4,tq9],.t tq4]
abbrev A0b:SS:=⟨(.junk::.t false tq4::.ptr 0 0 1 0::.junk::.junk::tI::D7E),[.box [tI,tI,tI,.t false tq5,.t false K4,tI,.t false tq3,.t false tq4,.t false tq4,.t false tq9]]⟩
abbrev B9x:SS:=⟨(.junk::.junk::.junk::.junk::.t true .bool::F4O),[]⟩
abbrev C84:SS:=⟨(.junk::.t false tq4::F7B),[]⟩
noncomputable def C0X (x1:LT2) (x5:Int):=let z1:=x1.getD x5.toNat ((0:Int),((0:Int),((0:Int),([],false))));C8z (z1.1) ((z1.2).1) (((z1.2).2).1) ((((z1.2).2).2).1) ((((z1.2).2).2).2)
noncomputable def D26 (x1:LT2) (x5 p0 p1 p2:Int) (p3:LT1) (p4:LIbe) (p5:Int) (p6:LT3) (p7 p8:LT2) (p9:Lq6):RT A0b.den:=let z1:=x1.getD x5.toNat ((0:Int),((0:Int),((0:Int),([],false))));let z2:=decide (0≤x5∧x5<(x1.length:Int));(.br (decide (x5<(x1.length:Int))) (.br z2 (.br (B7N (z1.1) ((z1.2).1) (((z1.2).2).1) ((((z1.2).2).2).1) ((((z1.2).2).2).2)) (.br (!(C0X x1 x5)) (.done .ret B9x (((),(),(),(),false,u28),())) (.br z2 (.br (decide (((z1.2).1) ≥ (p6.length:Int))) (.done .ret B9x (((),(),(),(),false,u28),())) (.next (((),x1,(),(),(),wI (x5+(1:Int)),u27),((p0,p1,p2,p3,p4,p5,p6,p7,p8,p9,()),())))) .fail)) .fail) .fail) (.done (.exit 0) C84 (((),x1,u31),())))
abbrev B3E:=LT2×(Int)
abbrev B3s:=Nat×(Bool)×LT2
def B58:B3s:=(99,(false:Bool),([]:LT2))
noncomputable def B6U (x1:LT2) (x5 p0 p1 p2:Int) (p3:LT1) (p4:LIbe) (p5:Int) (p6:LT3) (p7 p8:LT2) (p9:Lq6):B3E ⊕ B3s:=let z1:=x1.getD x5.toNat ((0:Int),((0:Int),((0:Int),([],false))));let z2:=decide (0≤x5∧x5<(x1.length:Int));(cond (decide (x5<(x1.length:Int))) (cond z2 (cond (B7N (z1.1) ((z1.2).1) (((z1.2).2).1) ((((z1.2).2).2).1) ((((z1.2).2).2).2)) (cond (!(C0X x1 x5)) (.inr (0,false,([]:LT2))) (cond z2 (cond (decide (((z1.2).1) ≥ (p6.length:Int))) (.inr (0,false,([]:LT2))) (.inl (x1,wI (x5+(1:Int))))) (.inr B58))) (.inr B58)) (.inr B58)) (.inr (1,(false:Bool),x1)))
noncomputable def B19 (x1:LT2) (x5 p0 p1 p2:Int) (p3:LT1) (p4:LIbe) (p5:Int) (p6:LT3) (p7 p8:LT2) (p9:Lq6):B3s:=itX (fun v:B3E=>B6U v.1 v.2 p0 p1 p2 p3 p4 p5 p6 p7 p8 p9) B58 (x1,x5)
noncomputable def C2s (p0 p1 p2:Int) (p3:LT1) (p4:LIbe) (p5:Int) (p6:LT3) (p7 p8:LT2) (p9:Lq6) (a:B3s):CT:=(.br (a.1==0) (.done .ret B9x (((),(),(),(),a.2.1,u28),())) (.br (a.1==1) (.done (.exit 0) C84 (((),a.2.2,u31),())) .fail))
noncomputable def E4z (x1:LT2) (x5 p0 p1 p2:Int) (p3:LT1) (p4:LIbe) (p5:Int) (p6:LT3) (p7 p8:LT2) (p9:Lq6):CT:=(C2s p0 p1 p2 p3 p4 p5 p6 p7 p8 p9) (B19 x1 x5 p0 p1 p2 p3 p4 p5 p6 p7 p8 p9)
noncomputable abbrev B5O {α:Sort _} (f:LT2→Int→Int→Int→Int→LT1→LIbe→Int→LT3→LT2→LT2→Lq6→α) (d:A0b.den):α:=f d.1.2.1 d.1.2.2.2.2.2.1 d.2.1.1 d.2.1.2.1 d.2.1.2.2.1 d.2.1.2.2.2.1 d.2.1.2.2.2.2.1 d.2.1.2.2.2.2.2.1 d.2.1.2.2.2.2.2.2.1 d.2.1.2.2.2.2.2.2.2.1 d.2.1.2.2.2.2.2.2.2.2.1 d.2.1.2.2.2.2.2.2.2.2.2.1
noncomputable abbrev C3s:A0b.den→RT A0b.den:=(B5O D26)
noncomputable def C59:Code:=((C4 0 (A0y Tryz.f28)).getD 0 (0,.skip)).2
noncomputable abbrev D2f (p0 p1 p2:Int) (p3:LT1) (p4:LIbe) (p5:Int) (p6:LT3) (p7 p8:LT2) (p9:Lq6) (v:B3E):A0b.den:=(((),v.1,(),(),(),v.2,u27),((p0,p1,p2,p3,p4,p5,p6,p7,p8,p9,()),()))
theorem E3Q (p0 p1 p2:Int) (p3:LT1) (p4:LIbe) (p5:Int) (p6:LT3) (p7 p8:LT2) (p9:Lq6):(∀ v:B3E,(D26 v.1 v.2 p0 p1 p2 p3 p4 p5 p6 p7 p8 p9).val=A5T (D2f p0 p1 p2 p3 p4 p5 p6 p7 p8 p9) (C2s p0 p1 p2 p3 p4 p5 p6 p7 p8 p9) (B6U v.1 v.2 p0 p1 p2 p3 p4 p5 p6 p7 p8 p9))∧∀ a:B3s,CEnd A0b.den ((C2s p0 p1 p2 p3 p4 p5 p6 p7 p8 p9) a):=⟨fun v=>by repeat' first | apply A6V | rfl,fun a=>(A6I aCD (A6I aCD A6K))⟩
noncomputable def D1C (x1:LT2) (x5 p0 p1 p2:Int) (p3:LT1) (p4:LIbe) (p5:Int) (p6:LT3) (p7 p8:LT2) (p9:Lq6):Option (Ex×St):=let z1:=x1.getD x5.toNat ((0:Int),((0:Int),((0:Int),([],false))));let z2:=(⟨(.junk::.junk::.junk::.junk::(.t true .bool false)::F4G),[],0,[]⟩:St);let z3:=decide (0≤x5∧x5<(x1.length:Int));(cond (decide (x5<(x1.length:Int))) (cond z3 (cond (B7N (z1.1) ((z1.2).1) (((z1.2).2).1) ((((z1.2).2).2).1) ((((z1.2).2).2).2)) (cond (!(C0X x1 x5)) (some (.ret,z2)) (cond z3 (cond (decide (((z1.2).1) ≥ (p6.length:Int))) (some (.ret,z2)) (some (.normal,(⟨(.junk::(.t false tq4 x1)::(.ptr 0 0 1 0)::.junk::.junk::(ti (wI (x5+(1:Int))))::F7p),[(.box [(ti p0),(ti p1),(ti p2),(.t false tq5 p3),(.t false K4 p4),(ti p5),(.t false tq3 p6),(.t false tq4 p7),(.t false tq4 p8),(.t false tq9 p9)])],0,[]⟩:St)))) none)) none) none) (some ((.exit 0),(⟨(.junk::(.t false tq4 x1)::F7q),[],0,[]⟩:St))))
theorem E1r:RdA G51 aLn 0 C59 A0b 0 [] (kepts [4] [(0,[1])]) (B5O D1C):=by
 intro d
 kernel_rfl
theorem E1w:∀ d:A0b.den,(B5O D1C) d=(C3s d).opt 0 []:=by
 intro d
 kernel_rfl
noncomputable abbrev C9O:St→Option Tree:=A0b.say 0 [] [] (B5O E4z)
theorem E29:aPL C9O C59:=SS.wp2 hlz [] C3s E1r E1w _ (fun d=>Runs.ofI2 (step:=C3s) (D2f d.2.1.1 d.2.1.2.1 d.2.1.2.2.1 d.2.1.2.2.2.1 d.2.1.2.2.2.2.1 d.2.1.2.2.2.2.2.1 d.2.1.2.2.2.2.2.2.1 d.2.1.2.2.2.2.2.2.2.1 d.2.1.2.2.2.2.2.2.2.2.1 d.2.1.2.2.2.2.2.2.2.2.2.1) (E3Q d.2.1.1 d.2.1.2.1 d.2.1.2.2.1 d.2.1.2.2.2.1 d.2.1.2.2.2.2.1 d.2.1.2.2.2.2.2.1 d.2.1.2.2.2.2.2.2.1 d.2.1.2.2.2.2.2.2.2.1 d.2.1.2.2.2.2.2.2.2.2.1 d.2.1.2.2.2.2.2.2.2.2.2.1) rfl (d.1.2.1,d.1.2.2.2.2.2.1))
noncomputable def B2W (a0 a1 a2:Int) (a3:LT1) (a4:LIbe) (a5:Int) (a6:LT3) (a7 a8:LT2) (a9:Lq6) (a10:LT2):Bool:=let z1:=B19 a10 (0:Int) a0 a1 a2 a3 a4 a5 a6 a7 a8 a9;(cond (z1.1==0) (z1.2.1) (decide ((((z1.2.2).length:Nat):Int)≤(400:Int))))
noncomputable abbrev C3Y (r:Bool):AV×List AObj:=((.t true .bool r),[])
noncomputable abbrev D1s:F5 B8S→AV×List AObj:=fun d=>C3Y (B2W d.1.1 d.1.2.1 d.1.2.2.1 d.1.2.2.2.1 d.1.2.2.2.2.1 d.1.2.2.2.2.2.1 d.1.2.2.2.2.2.2.1 d.1.2.2.2.2.2.2.2.1 d.1.2.2.2.2.2.2.2.2.1 d.1.2.2.2.2.2.2.2.2.2.1 d.2.1)
noncomputable def A8F (a0 a1 a2:Int) (a3:LT1) (a4:LIbe) (a5:Int) (a6:LT3) (a7 a8:LT2) (a9:Lq6) (a10:LT2):Bool:=let z1:=B19 a10 (0:Int) a0 a1 a2 a3 a4 a5 a6 a7 a8 a9;cond (z1.1==0) true (z1.1==1)
noncomputable abbrev C41:F5 B8S→Bool:=fun d=>A8F d.1.1 d.1.2.1 d.1.2.2.1 d.1.2.2.2.1 d.1.2.2.2.2.1 d.1.2.2.2.2.2.1 d.1.2.2.2.2.2.2.1 d.1.2.2.2.2.2.2.2.1 d.1.2.2.2.2.2.2.2.2.1 d.1.2.2.2.2.2.2.2.2.2.1 d.2.1
noncomputable abbrev E8u:Nat→St→Option Tree:=fun b=>match b with | 0=>C9O | _=>fun _=>none
theorem E5B:A6Q true G51 (E8u) Tryz.f28 B8S C41 D1s:=by
 rintro ⟨⟨a0,⟨a1,⟨a2,⟨a3,⟨a4,⟨a5,⟨a6,⟨a7,⟨a8,⟨a9,_⟩⟩⟩⟩⟩⟩⟩⟩⟩⟩,⟨a10,_⟩⟩ hp
 change A8F a0 a1 a2 a3 a4 a5 a6 a7 a8 a9 a10=true at hp
 unfold A8F at hp
 refine Eq.trans (b:=(let z1:=B19 a10 (0:Int) a0 a1 a2 a3 a4 a5 a6 a7 a8 a9;cond (z1.1==0) (some (C3Y (z1.2.1))) (cond (z1.1==1) (some (C3Y (decide ((((z1.2.2).length:Nat):Int)≤(400:Int))))) none))) (by kernel_rfl) ?_
 exact (H7 C3Y hp (fun hp=>rfl) (fun hp=>(A6T hp fun _h=>rfl)))
theorem E84:aPP 28 (A2z B8S C41 D1s):=pcD true G51 (hl1 (i:=0) (by kernel_rfl) E29) E5B
noncomputable def S52:Tab:=Tab.add S51 28 (lift (A2z B8S C41 D1s))
noncomputable def F8y:FuncId→Bool:=qadd F8x 28
theorem G52:aPG S52 F8y:=G51.addQ E84 (cbl Tryz.f28) (fun _=>rfl)

abbrev B8R:List PSh:=[.agg [(.int .i64),(.int .i64),(.int .i64),tq5,K4,(.int .i64),tq3,tq4,tq4,tq9],.t (.int .i64)]
abbrev A7J:SS:=⟨(.junk::tI::.ptr 0 0 1 0::.junk::.junk::tI::F3u),[.box [tI,tI,tI,.t false tq5,.t false K4,tI,.t false tq3,.t false tq4,.t false tq4,.t false tq9]]⟩
abbrev C82:SS:=⟨(.junk::.junk::.junk::.junk::tI::E9E),[]⟩
abbrev C83:SS:=⟨(.junk::B9R),[]⟩
noncomputable def D25 (x1 x5 p0 p1 p2:Int) (p3:LT1) (p4:LIbe) (p5:Int) (p6:LT3) (p7 p8:LT2) (p9:Lq6):RT A7J.den:=(.br (decide (x5<(p9.length:Int))) (.br (decide (0≤x5∧x5<(p9.length:Int))) (.br (((p9.getD x5.toNat ((0:Int),[])).1)==x1) (.done .ret C82 (((),(),(),(),x5,u18),())) (.next (((),x1,(),(),(),wI (x5+(1:Int)),u17),((p0,p1,p2,p3,p4,p5,p6,p7,p8,p9,()),())))) .fail) (.done (.exit 0) C83 ((u23),())))
abbrev B3D:=(Int)×(Int)
abbrev B0G:=Nat×(Int)
def D1f:B0G:=(99,((0:Int):Int))
noncomputable def B6T (x1 x5 p0 p1 p2:Int) (p3:LT1) (p4:LIbe) (p5:Int) (p6:LT3) (p7 p8:LT2) (p9:Lq6):B3D ⊕ B0G:=(cond (decide (x5<(p9.length:Int))) (cond (decide (0≤x5∧x5<(p9.length:Int))) (cond (((p9.getD x5.toNat ((0:Int),[])).1)==x1) (.inr (0,x5)) (.inl (x1,wI (x5+(1:Int))))) (.inr D1f)) (.inr (1,((0:Int):Int))))
noncomputable def B18 (x1 x5 p0 p1 p2:Int) (p3:LT1) (p4:LIbe) (p5:Int) (p6:LT3) (p7 p8:LT2) (p9:Lq6):B0G:=itX (fun v:B3D=>B6T v.1 v.2 p0 p1 p2 p3 p4 p5 p6 p7 p8 p9) D1f (x1,x5)
noncomputable def C2r (p0 p1 p2:Int) (p3:LT1) (p4:LIbe) (p5:Int) (p6:LT3) (p7 p8:LT2) (p9:Lq6) (a:B0G):CT:=(.br (a.1==0) (.done .ret C82 (((),(),(),(),a.2,u18),())) (.br (a.1==1) (.done (.exit 0) C83 ((u23),())) .fail))
noncomputable def E4y (x1 x5 p0 p1 p2:Int) (p3:LT1) (p4:LIbe) (p5:Int) (p6:LT3) (p7 p8:LT2) (p9:Lq6):CT:=(C2r p0 p1 p2 p3 p4 p5 p6 p7 p8 p9) (B18 x1 x5 p0 p1 p2 p3 p4 p5 p6 p7 p8 p9)
noncomputable abbrev D0R {α:Sort _} (f:Int→Int→Int→Int→Int→LT1→LIbe→Int→LT3→LT2→LT2→Lq6→α) (d:A7J.den):α:=f d.1.2.1 d.1.2.2.2.2.2.1 d.2.1.1 d.2.1.2.1 d.2.1.2.2.1 d.2.1.2.2.2.1 d.2.1.2.2.2.2.1 d.2.1.2.2.2.2.2.1 d.2.1.2.2.2.2.2.2.1 d.2.1.2.2.2.2.2.2.2.1 d.2.1.2.2.2.2.2.2.2.2.1 d.2.1.2.2.2.2.2.2.2.2.2.1
noncomputable abbrev C3r:A7J.den→RT A7J.den:=(D0R D25)
noncomputable def C58:Code:=((C4 0 (A0y Tryz.f66)).getD 0 (0,.skip)).2
noncomputable abbrev D2e (p0 p1 p2:Int) (p3:LT1) (p4:LIbe) (p5:Int) (p6:LT3) (p7 p8:LT2) (p9:Lq6) (v:B3D):A7J.den:=(((),v.1,(),(),(),v.2,u17),((p0,p1,p2,p3,p4,p5,p6,p7,p8,p9,()),()))
theorem E3P (p0 p1 p2:Int) (p3:LT1) (p4:LIbe) (p5:Int) (p6:LT3) (p7 p8:LT2) (p9:Lq6):(∀ v:B3D,(D25 v.1 v.2 p0 p1 p2 p3 p4 p5 p6 p7 p8 p9).val=A5T (D2e p0 p1 p2 p3 p4 p5 p6 p7 p8 p9) (C2r p0 p1 p2 p3 p4 p5 p6 p7 p8 p9) (B6T v.1 v.2 p0 p1 p2 p3 p4 p5 p6 p7 p8 p9))∧∀ a:B0G,CEnd A7J.den ((C2r p0 p1 p2 p3 p4 p5 p6 p7 p8 p9) a):=⟨fun v=>(A6V (A6V (A6V rfl rfl) rfl) rfl),fun a=>(A6I aCD (A6I aCD A6K))⟩
theorem E1q:RdA G52 aLn 0 C58 A7J 0 [] (kepts [4] [(0,[])]) (fun d=>(C3r d).opt 0 []):=by
 intro d
 kernel_rfl
noncomputable abbrev C9N:St→Option Tree:=A7J.say 0 [] [] (D0R E4y)
theorem E28:aPL C9N C58:=SS.wp2 hlz [] C3r E1q (fun d=>rfl) _ (fun d=>Runs.ofI2 (step:=C3r) (D2e d.2.1.1 d.2.1.2.1 d.2.1.2.2.1 d.2.1.2.2.2.1 d.2.1.2.2.2.2.1 d.2.1.2.2.2.2.2.1 d.2.1.2.2.2.2.2.2.1 d.2.1.2.2.2.2.2.2.2.1 d.2.1.2.2.2.2.2.2.2.2.1 d.2.1.2.2.2.2.2.2.2.2.2.1) (E3P d.2.1.1 d.2.1.2.1 d.2.1.2.2.1 d.2.1.2.2.2.1 d.2.1.2.2.2.2.1 d.2.1.2.2.2.2.2.1 d.2.1.2.2.2.2.2.2.1 d.2.1.2.2.2.2.2.2.2.1 d.2.1.2.2.2.2.2.2.2.2.1 d.2.1.2.2.2.2.2.2.2.2.2.1) rfl (d.1.2.1,d.1.2.2.2.2.2.1))
noncomputable def B7P (a0 a1 a2:Int) (a3:LT1) (a4:LIbe) (a5:Int) (a6:LT3) (a7 a8:LT2) (a9:Lq6) (a10:Int):Int:=let z1:=B18 a10 (0:Int) a0 a1 a2 a3 a4 a5 a6 a7 a8 a9;(cond (z1.1==0) (z1.2) (-1:Int))
noncomputable abbrev C3X (r:Int):AV×List AObj:=((ti r),[])
noncomputable abbrev D1r:F5 B8R→AV×List AObj:=fun d=>C3X (B7P d.1.1 d.1.2.1 d.1.2.2.1 d.1.2.2.2.1 d.1.2.2.2.2.1 d.1.2.2.2.2.2.1 d.1.2.2.2.2.2.2.1 d.1.2.2.2.2.2.2.2.1 d.1.2.2.2.2.2.2.2.2.1 d.1.2.2.2.2.2.2.2.2.2.1 d.2.1)
noncomputable def Q7 (a0 a1 a2:Int) (a3:LT1) (a4:LIbe) (a5:Int) (a6:LT3) (a7 a8:LT2) (a9:Lq6) (a10:Int):Bool:=let z1:=B18 a10 (0:Int) a0 a1 a2 a3 a4 a5 a6 a7 a8 a9;cond (z1.1==0) true (z1.1==1)
noncomputable abbrev C40:F5 B8R→Bool:=fun d=>Q7 d.1.1 d.1.2.1 d.1.2.2.1 d.1.2.2.2.1 d.1.2.2.2.2.1 d.1.2.2.2.2.2.1 d.1.2.2.2.2.2.2.1 d.1.2.2.2.2.2.2.2.1 d.1.2.2.2.2.2.2.2.2.1 d.1.2.2.2.2.2.2.2.2.2.1 d.2.1
noncomputable abbrev E8t:Nat→St→Option Tree:=fun b=>match b with | 0=>C9N | _=>fun _=>none
theorem E5A:A6Q true G52 (E8t) Tryz.f66 B8R C40 D1r:=by
 rintro ⟨⟨a0,⟨a1,⟨a2,⟨a3,⟨a4,⟨a5,⟨a6,⟨a7,⟨a8,⟨a9,_⟩⟩⟩⟩⟩⟩⟩⟩⟩⟩,⟨a10,_⟩⟩ hp
 change Q7 a0 a1 a2 a3 a4 a5 a6 a7 a8 a9 a10=true at hp
 unfold Q7 at hp
 refine Eq.trans (b:=(let z1:=B18 a10 (0:Int) a0 a1 a2 a3 a4 a5 a6 a7 a8 a9;cond (z1.1==0) (some (C3X (z1.2))) (cond (z1.1==1) (some (C3X (-1:Int))) none))) (by kernel_rfl) ?_
 exact (H7 C3X hp (fun hp=>rfl) (fun hp=>(A6T hp fun _h=>rfl)))
theorem E83:aPP 66 (A2z B8R C40 D1r):=pcD true G52 (hl1 (i:=0) (by kernel_rfl) E28) E5A
noncomputable def S53:Tab:=Tab.add S52 66 (lift (A2z B8R C40 D1r))
noncomputable def F8z:FuncId→Bool:=qadd F8y 66
theorem G53:aPG S53 F8z:=G52.addQ E83 (cbl Tryz.f66) (fun _=>rfl)

abbrev F3v:List Sh:=.junk::E2X
abbrev u21:=((),(),u19)
abbrev B5G:List PSh:=[.t tq7,.t tq7]
abbrev A7Y:SS:=⟨(.t false tq7::.t false tq7::.junk::.junk::.junk::tI::F3v),[]⟩
abbrev C5x:SS:=⟨(.junk::.junk::.junk::.junk::.t true .bool::B9R),[]⟩
abbrev C5y:SS:=⟨(.junk::C95),[]⟩
noncomputable def C91 (x0 x1:Lq2) (x5:Int):RT A7Y.den:=let z1:=x0.getD x5.toNat ((0:Int),(bE,bE));let z2:=x1.getD x5.toNat ((0:Int),(bE,bE));(.br (decide (x5<(x0.length:Int))) (.br (decide (0≤x5∧x5<(x0.length:Int))) (.br (decide (0≤x5∧x5<(x1.length:Int))) (.br (!(((z1.1)==(z2.1))&&((((z1.2).1).toList==((z2.2).1).toList)&&((((z1.2).2).toList==((z2.2).2).toList)&&true)))) (.done .ret C5x (((),(),(),(),false,u22),())) (.next ((x0,x1,(),(),(),wI (x5+(1:Int)),u21),()))) .fail) .fail) (.done (.exit 0) C5y ((u27),())))
abbrev A9f:=(Lq2)×Lq2×(Int)
abbrev B1u:=Nat×(Bool)
def B34:B1u:=(99,(false:Bool))
noncomputable def B0B (x0 x1:Lq2) (x5:Int):A9f ⊕ B1u:=let z1:=x0.getD x5.toNat ((0:Int),(bE,bE));let z2:=x1.getD x5.toNat ((0:Int),(bE,bE));(cond (decide (x5<(x0.length:Int))) (cond (decide (0≤x5∧x5<(x0.length:Int))) (cond (decide (0≤x5∧x5<(x1.length:Int))) (cond (!(((z1.1)==(z2.1))&&((((z1.2).1).toList==((z2.2).1).toList)&&((((z1.2).2).toList==((z2.2).2).toList)&&true)))) (.inr (0,false)) (.inl (x0,x1,wI (x5+(1:Int))))) (.inr B34)) (.inr B34)) (.inr (1,(false:Bool))))
noncomputable def B0o (x0 x1:Lq2) (x5:Int):B1u:=itX (fun v:A9f=>B0B v.1 v.2.1 v.2.2) B34 (x0,x1,x5)
noncomputable def B9L (a:B1u):CT:=(.br (a.1==0) (.done .ret C5x (((),(),(),(),a.2,u22),())) (.br (a.1==1) (.done (.exit 0) C5y ((u27),())) .fail))
noncomputable def E2e (x0 x1:Lq2) (x5:Int):CT:=B9L (B0o x0 x1 x5)
noncomputable abbrev B98:A7Y.den→RT A7Y.den:=(fun d=>C91 d.1.1 d.1.2.1 d.1.2.2.2.2.2.1)
noncomputable def C3U:Code:=((C4 0 (A0y Tryz.f67)).getD 0 (0,.skip)).2
noncomputable abbrev C9E (v:A9f):A7Y.den:=((v.1,v.2.1,(),(),(),v.2.2,u21),())
theorem E1I:(∀ v:A9f,(C91 v.1 v.2.1 v.2.2).val=A5T C9E B9L (B0B v.1 v.2.1 v.2.2))∧∀ a:B1u,CEnd A7Y.den (B9L a):=⟨fun v=>(A6V (A6V (A6V (A6V rfl rfl) rfl) rfl) rfl),fun a=>(A6I aCD (A6I aCD A6K))⟩
theorem D9T:RdA G53 aLn 0 C3U A7Y 0 [] (kepts [4] [(0,[])]) (fun d=>(B98 d).opt 0 []):=by
 intro d
 kernel_rfl
noncomputable abbrev C6Y:St→Option Tree:=A7Y.say 0 [] [] (fun d=>E2e d.1.1 d.1.2.1 d.1.2.2.2.2.2.1)
theorem E1h:aPL C6Y C3U:=SS.wp2 hlz [] B98 D9T (fun d=>rfl) _ (fun d=>Runs.ofI2 (step:=B98) C9E E1I rfl (d.1.1,d.1.2.1,d.1.2.2.2.2.2.1))
noncomputable def C3i (a0 a1:Lq2):Bool:=let z1:=B0o a0 a1 (0:Int);(cond ((a0.length:Int) != (a1.length:Int)) false (cond (z1.1==0) (z1.2) true))
noncomputable abbrev B2F (r:Bool):AV×List AObj:=((.t true .bool r),[])
noncomputable abbrev C7H:F5 B5G→AV×List AObj:=fun d=>B2F (C3i d.1 d.2.1)
noncomputable def X8 (a0 a1:Lq2):Bool:=let z1:=B0o a0 a1 (0:Int);cond ((a0.length:Int) != (a1.length:Int)) true (cond (z1.1==0) true (z1.1==1))
noncomputable abbrev C29:F5 B5G→Bool:=fun d=>X8 d.1 d.2.1
noncomputable abbrev E54:Nat→St→Option Tree:=fun b=>match b with | 0=>C6Y | _=>fun _=>none
theorem E34:A6Q true G53 (E54) Tryz.f67 B5G C29 C7H:=by
 rintro ⟨a0,⟨a1,_⟩⟩ hp
 change X8 a0 a1=true at hp
 unfold X8 at hp
 refine Eq.trans (b:=(let z1:=B0o a0 a1 (0:Int);cond ((a0.length:Int) != (a1.length:Int)) (some (B2F false)) (cond (z1.1==0) (some (B2F (z1.2))) (cond (z1.1==1) (some (B2F true)) none)))) (by kernel_rfl) ?_
 exact (H7 B2F hp (fun hp=>rfl) (fun hp=>(H7 B2F hp (fun hp=>rfl) (fun hp=>(A6T hp fun _h=>rfl)))))
theorem E6u:aPP 67 (A2z B5G C29 C7H):=pcD true G53 (hl1 (i:=0) (by kernel_rfl) E1h) E34
noncomputable def S54:Tab:=Tab.add S53 67 (lift (A2z B5G C29 C7H))
noncomputable def F8A:FuncId→Bool:=qadd F8z 67
theorem G54:aPG S54 F8A:=G53.addQ E6u (cbl Tryz.f67) (fun _=>rfl)

abbrev F6P:List Sh:=.junk::.junk::.junk::.junk::.junk::.junk::.junk::.junk::.junk::.junk::.junk::.junk::.junk::.junk::.junk::.junk::.junk::.junk::.junk::.junk::.junk::.junk::.junk::.junk::.junk::.junk::.junk::F1G
abbrev F2v:List Sh:=.junk::F6P
abbrev F4K:List Sh:=.junk::F2v
abbrev E5G:=((),(),(),(),(),(),(),(),(),(),(),(),(),(),(),(),(),(),(),(),(),(),(),(),(),(),(),u82)
abbrev G03:=((),(),(),(),(),(),(),(),(),(),(),(),(),(),(),(),(),(),(),(),(),(),(),(),(),(),u82)
abbrev F3V:=((),(),(),E5G)
abbrev F2u:List AV:=.junk::.junk::.junk::.junk::.junk::.junk::.junk::.junk::.junk::.junk::.junk::.junk::.junk::.junk::.junk::.junk::.junk::.junk::.junk::.junk::.junk::.junk::.junk::.junk::.junk::.junk::.junk::.junk::E9C
abbrev F99:List AV:=.junk::.junk::.junk::.junk::.junk::.junk::.junk::.junk::.junk::.junk::.junk::.junk::.junk::.junk::.junk::.junk::.junk::.junk::.junk::.junk::.junk::.junk::.junk::.junk::.junk::.junk::.junk::E9C
abbrev F4F:List AV:=.junk::F2u
abbrev G0m:List Sh:=.junk::.junk::.junk::.junk::.junk::.junk::.junk::.junk::.junk::.junk::.junk::.junk::.junk::.junk::.junk::.junk::.junk::.junk::.junk::.junk::.junk::.junk::.junk::.junk::.junk::.junk::F1G
abbrev G02:=((),(),(),(),(),(),(),(),(),(),(),(),(),(),(),(),(),(),(),(),(),(),(),(),(),u82)
abbrev F98:List AV:=.junk::.junk::.junk::.junk::.junk::.junk::.junk::.junk::.junk::.junk::.junk::.junk::.junk::.junk::.junk::.junk::.junk::.junk::.junk::.junk::.junk::.junk::.junk::.junk::.junk::.junk::E9C
abbrev G0l:List Sh:=.junk::.junk::.junk::.junk::.junk::.junk::.junk::.junk::.junk::.junk::.junk::.junk::.junk::.junk::.junk::.junk::.junk::.junk::.junk::.junk::.junk::.junk::.junk::.junk::F1G
abbrev G01:=((),(),(),(),(),(),(),(),(),(),(),(),(),(),(),(),(),(),(),(),(),(),(),u82)
abbrev F97:List AV:=.junk::.junk::.junk::.junk::.junk::.junk::.junk::.junk::.junk::.junk::.junk::.junk::.junk::.junk::.junk::.junk::.junk::.junk::.junk::.junk::.junk::.junk::.junk::.junk::E9C
abbrev B5D:List PSh:=[.agg [(.int .i64),(.int .i64),(.int .i64),tq5,K4,(.int .i64),tq3,tq4,tq4,tq9]]
noncomputable def B5T:Code:=((C4 0 (A0y Tryz.f29)).getD 0 (0,.skip)).2
noncomputable def B5U:Code:=((C4 0 (A0y Tryz.f29)).getD 1 (0,.skip)).2
noncomputable def B5V:Code:=((C4 0 (A0y Tryz.f29)).getD 2 (0,.skip)).2
abbrev W7:SS:=⟨(.junk::.ptr 0 0 1 0::.junk::tI::F6P),[.box [tI,tI,tI,.t false tq5,.t false K4,tI,.t false tq3,.t false tq4,.t false tq4,.t false tq9]]⟩
abbrev B2x:SS:=⟨(.junk::.junk::.t true .bool::F2v),[]⟩
abbrev C5t:SS:=⟨(.junk::.ptr 0 0 1 0::F4K),[.box [tI,tI,tI,.t false tq5,.t false K4,tI,.t false tq3,.t false tq4,.t false tq4,.t false tq9]]⟩
noncomputable def B8g (x3 p0 p1 p2:Int) (p3:LT1) (p4:LIbe) (p5:Int) (p6:LT3) (p7 p8:LT2) (p9:Lq6):=B7P p0 p1 p2 p3 p4 p5 p6 p7 p8 p9 ((p9.getD x3.toNat ((0:Int),[])).1)
noncomputable def B8i (x3 p1 p2:Int) (p9:Lq6):=L0 ((p9.getD x3.toNat ((0:Int),[])).1) (1000:Int) (wI ((wI ((wI (p1*(1000:Int)))+p2)) - (1:Int)))
noncomputable def C9Y (x3 p0 p1 p2:Int) (p3:LT1) (p4:LIbe) (p5:Int) (p6:LT3) (p7 p8:LT2) (p9:Lq6):RT W7.den:=let z1:=decide (0≤x3∧x3<(p9.length:Int));let z2:=p9.getD x3.toNat ((0:Int),[]);(.br (decide (x3<(p9.length:Int))) (.br z1 (.br (B0v (z2.2)) (.br (!(B0c (z2.2))) (.done .ret B2x (((),(),false,E5G),())) (.br z1 (.br (Q7 p0 p1 p2 p3 p4 p5 p6 p7 p8 p9 (z2.1)) (.br ((B8g x3 p0 p1 p2 p3 p4 p5 p6 p7 p8 p9) != x3) (.done .ret B2x (((),(),false,E5G),())) (.br z1 (.br (!(B8i x3 p1 p2 p9)) (.done .ret B2x (((),(),false,E5G),())) (.next (((),(),(),wI (x3+(1:Int)),G03),((p0,p1,p2,p3,p4,p5,p6,p7,p8,p9,()),())))) .fail)) .fail) .fail)) .fail) .fail) (.done (.exit 0) C5t ((F3V),((p0,p1,p2,p3,p4,p5,p6,p7,p8,p9,()),()))))
abbrev B1Q:=(Int)
abbrev B1r:=Nat×(Bool)
def A8o:B1r:=(99,(false:Bool))
noncomputable def B4a (x3 p0 p1 p2:Int) (p3:LT1) (p4:LIbe) (p5:Int) (p6:LT3) (p7 p8:LT2) (p9:Lq6):B1Q ⊕ B1r:=let z1:=decide (0≤x3∧x3<(p9.length:Int));let z2:=p9.getD x3.toNat ((0:Int),[]);(cond (decide (x3<(p9.length:Int))) (cond z1 (cond (B0v (z2.2)) (cond (!(B0c (z2.2))) (.inr (0,false)) (cond z1 (cond (Q7 p0 p1 p2 p3 p4 p5 p6 p7 p8 p9 (z2.1)) (cond ((B8g x3 p0 p1 p2 p3 p4 p5 p6 p7 p8 p9) != x3) (.inr (0,false)) (cond z1 (cond (!(B8i x3 p1 p2 p9)) (.inr (0,false)) (.inl (wI (x3+(1:Int))))) (.inr A8o))) (.inr A8o)) (.inr A8o))) (.inr A8o)) (.inr A8o)) (.inr (1,(false:Bool))))
noncomputable def B0l (x3 p0 p1 p2:Int) (p3:LT1) (p4:LIbe) (p5:Int) (p6:LT3) (p7 p8:LT2) (p9:Lq6):B1r:=itX (fun v:B1Q=>B4a v p0 p1 p2 p3 p4 p5 p6 p7 p8 p9) A8o x3
noncomputable def B9I (p0 p1 p2:Int) (p3:LT1) (p4:LIbe) (p5:Int) (p6:LT3) (p7 p8:LT2) (p9:Lq6) (a:B1r):CT:=(.br (a.1==0) (.done .ret B2x (((),(),a.2,E5G),())) (.br (a.1==1) (.done (.exit 0) C5t ((F3V),((p0,p1,p2,p3,p4,p5,p6,p7,p8,p9,()),()))) .fail))
noncomputable def E2b (x3 p0 p1 p2:Int) (p3:LT1) (p4:LIbe) (p5:Int) (p6:LT3) (p7 p8:LT2) (p9:Lq6):CT:=(B9I p0 p1 p2 p3 p4 p5 p6 p7 p8 p9) (B0l x3 p0 p1 p2 p3 p4 p5 p6 p7 p8 p9)
noncomputable abbrev B3Z {α:Sort _} (f:Int→Int→Int→Int→LT1→LIbe→Int→LT3→LT2→LT2→Lq6→α) (d:W7.den):α:=f d.1.2.2.2.1 d.2.1.1 d.2.1.2.1 d.2.1.2.2.1 d.2.1.2.2.2.1 d.2.1.2.2.2.2.1 d.2.1.2.2.2.2.2.1 d.2.1.2.2.2.2.2.2.1 d.2.1.2.2.2.2.2.2.2.1 d.2.1.2.2.2.2.2.2.2.2.1 d.2.1.2.2.2.2.2.2.2.2.2.1
noncomputable abbrev B95:W7.den→RT W7.den:=(B3Z C9Y)
noncomputable abbrev C9B (p0 p1 p2:Int) (p3:LT1) (p4:LIbe) (p5:Int) (p6:LT3) (p7 p8:LT2) (p9:Lq6) (v:B1Q):W7.den:=(((),(),(),v,G03),((p0,p1,p2,p3,p4,p5,p6,p7,p8,p9,()),()))
theorem E1F (p0 p1 p2:Int) (p3:LT1) (p4:LIbe) (p5:Int) (p6:LT3) (p7 p8:LT2) (p9:Lq6):(∀ v:B1Q,(C9Y v p0 p1 p2 p3 p4 p5 p6 p7 p8 p9).val=A5T (C9B p0 p1 p2 p3 p4 p5 p6 p7 p8 p9) (B9I p0 p1 p2 p3 p4 p5 p6 p7 p8 p9) (B4a v p0 p1 p2 p3 p4 p5 p6 p7 p8 p9))∧∀ a:B1r,CEnd W7.den ((B9I p0 p1 p2 p3 p4 p5 p6 p7 p8 p9) a):=⟨fun v=>by repeat' first | apply A6V | rfl,fun a=>(A6I aCD (A6I aCD A6K))⟩
noncomputable def C9r (x3 p0 p1 p2:Int) (p3:LT1) (p4:LIbe) (p5:Int) (p6:LT3) (p7 p8:LT2) (p9:Lq6):Option (Ex×St):=let z1:=(⟨(.junk::.junk::(.t true .bool false)::F2u),[],0,[]⟩:St);let z2:=decide (0≤x3∧x3<(p9.length:Int));let z3:=p9.getD x3.toNat ((0:Int),[]);(cond (decide (x3<(p9.length:Int))) (cond z2 (cond (B0v (z3.2)) (cond (!(B0c (z3.2))) (some (.ret,z1)) (cond z2 (cond (Q7 p0 p1 p2 p3 p4 p5 p6 p7 p8 p9 (z3.1)) (cond ((B8g x3 p0 p1 p2 p3 p4 p5 p6 p7 p8 p9) != x3) (some (.ret,z1)) (cond z2 (cond (!(B8i x3 p1 p2 p9)) (some (.ret,z1)) (some (.normal,(⟨(.junk::(.ptr 0 0 1 0)::.junk::(ti (wI (x3+(1:Int))))::F99),[(.box [(ti p0),(ti p1),(ti p2),(.t false tq5 p3),(.t false K4 p4),(ti p5),(.t false tq3 p6),(.t false tq4 p7),(.t false tq4 p8),(.t false tq9 p9)])],0,[]⟩:St)))) none)) none) none)) none) none) (some ((.exit 0),(⟨(.junk::(.ptr 0 0 1 0)::F4F),[(.box [(ti p0),(ti p1),(ti p2),(.t false tq5 p3),(.t false K4 p4),(ti p5),(.t false tq3 p6),(.t false tq4 p7),(.t false tq4 p8),(.t false tq9 p9)])],0,[]⟩:St))))
theorem D9Q:RdA G54 aLn 0 B5T W7 0 [] (kepts [2] [(0,[1])]) (B3Z C9r):=by
 intro d
 kernel_rfl
theorem D9X:∀ d:W7.den,(B3Z C9r) d=(B95 d).opt 0 []:=by
 intro d
 kernel_rfl
noncomputable abbrev C6V:St→Option Tree:=W7.say 0 [] [] (B3Z E2b)
theorem E1e:aPL C6V B5T:=SS.wp2 hlz [] B95 D9Q D9X _ (fun d=>Runs.ofI2 (step:=B95) (C9B d.2.1.1 d.2.1.2.1 d.2.1.2.2.1 d.2.1.2.2.2.1 d.2.1.2.2.2.2.1 d.2.1.2.2.2.2.2.1 d.2.1.2.2.2.2.2.2.1 d.2.1.2.2.2.2.2.2.2.1 d.2.1.2.2.2.2.2.2.2.2.1 d.2.1.2.2.2.2.2.2.2.2.2.1) (E1F d.2.1.1 d.2.1.2.1 d.2.1.2.2.1 d.2.1.2.2.2.1 d.2.1.2.2.2.2.1 d.2.1.2.2.2.2.2.1 d.2.1.2.2.2.2.2.2.1 d.2.1.2.2.2.2.2.2.2.1 d.2.1.2.2.2.2.2.2.2.2.1 d.2.1.2.2.2.2.2.2.2.2.2.1) rfl d.1.2.2.2.1)
abbrev W8:SS:=⟨(.junk::.ptr 0 0 1 0::.junk::.junk::tI::G0m),[.box [tI,tI,tI,.t false tq5,.t false K4,tI,.t false tq3,.t false tq4,.t false tq4,.t false tq9]]⟩
abbrev B7c:SS:=⟨(.junk::.junk::.t true .bool::F2v),[]⟩
abbrev C5u:SS:=⟨(.junk::.ptr 0 0 1 0::F4K),[.box [tI,tI,tI,.t false tq5,.t false K4,tI,.t false tq3,.t false tq4,.t false tq4,.t false tq9]]⟩
noncomputable def B3Q (x4 p0 p1 p2:Int) (p3:LT1) (p4:LIbe) (p5:Int) (p6:LT3) (p7 p8:LT2) (p9:Lq6):=B7P p0 p1 p2 p3 p4 p5 p6 p7 p8 p9 ((p3.getD x4.toNat ((0:Int),([],((0:Int),[])))).1)
noncomputable def B8j (x4 p0 p1 p2:Int) (p3:LT1) (p4:LIbe) (p5:Int) (p6:LT3) (p7 p8:LT2) (p9:Lq6):=C3i ((p9.getD ((B3Q x4 p0 p1 p2 p3 p4 p5 p6 p7 p8 p9).toNat) ((0:Int),[])).2) (((p3.getD x4.toNat ((0:Int),([],((0:Int),[])))).2).1)
noncomputable def C9Z (x4 p0 p1 p2:Int) (p3:LT1) (p4:LIbe) (p5:Int) (p6:LT3) (p7 p8:LT2) (p9:Lq6):RT W8.den:=let z1:=B3Q x4 p0 p1 p2 p3 p4 p5 p6 p7 p8 p9;let z2:=p3.getD x4.toNat ((0:Int),([],((0:Int),[])));let z3:=decide (0≤x4∧x4<(p3.length:Int));(.br (decide (x4<(p3.length:Int))) (.br z3 (.br (Q7 p0 p1 p2 p3 p4 p5 p6 p7 p8 p9 (z2.1)) (.br (decide (z1<(0:Int))) (.done .ret B7c (((),(),false,E5G),())) (.br (decide (0≤z1∧z1<(p9.length:Int))) (.br z3 (.br (X8 ((p9.getD (z1.toNat) ((0:Int),[])).2) ((z2.2).1)) (.br (!(B8j x4 p0 p1 p2 p3 p4 p5 p6 p7 p8 p9)) (.done .ret B7c (((),(),false,E5G),())) (.next (((),(),(),(),wI (x4+(1:Int)),G02),((p0,p1,p2,p3,p4,p5,p6,p7,p8,p9,()),())))) .fail) .fail) .fail)) .fail) .fail) (.done (.exit 2) C5u ((F3V),((p0,p1,p2,p3,p4,p5,p6,p7,p8,p9,()),()))))
abbrev B1R:=(Int)
abbrev B1s:=Nat×(Bool)
def A8p:B1s:=(99,(false:Bool))
noncomputable def B4b (x4 p0 p1 p2:Int) (p3:LT1) (p4:LIbe) (p5:Int) (p6:LT3) (p7 p8:LT2) (p9:Lq6):B1R ⊕ B1s:=let z1:=B3Q x4 p0 p1 p2 p3 p4 p5 p6 p7 p8 p9;let z2:=p3.getD x4.toNat ((0:Int),([],((0:Int),[])));let z3:=decide (0≤x4∧x4<(p3.length:Int));(cond (decide (x4<(p3.length:Int))) (cond z3 (cond (Q7 p0 p1 p2 p3 p4 p5 p6 p7 p8 p9 (z2.1)) (cond (decide (z1<(0:Int))) (.inr (0,false)) (cond (decide (0≤z1∧z1<(p9.length:Int))) (cond z3 (cond (X8 ((p9.getD (z1.toNat) ((0:Int),[])).2) ((z2.2).1)) (cond (!(B8j x4 p0 p1 p2 p3 p4 p5 p6 p7 p8 p9)) (.inr (0,false)) (.inl (wI (x4+(1:Int))))) (.inr A8p)) (.inr A8p)) (.inr A8p))) (.inr A8p)) (.inr A8p)) (.inr (1,(false:Bool))))
noncomputable def B0m (x4 p0 p1 p2:Int) (p3:LT1) (p4:LIbe) (p5:Int) (p6:LT3) (p7 p8:LT2) (p9:Lq6):B1s:=itX (fun v:B1R=>B4b v p0 p1 p2 p3 p4 p5 p6 p7 p8 p9) A8p x4
noncomputable def B9J (p0 p1 p2:Int) (p3:LT1) (p4:LIbe) (p5:Int) (p6:LT3) (p7 p8:LT2) (p9:Lq6) (a:B1s):CT:=(.br (a.1==0) (.done .ret B7c (((),(),a.2,E5G),())) (.br (a.1==1) (.done (.exit 2) C5u ((F3V),((p0,p1,p2,p3,p4,p5,p6,p7,p8,p9,()),()))) .fail))
noncomputable def E2c (x4 p0 p1 p2:Int) (p3:LT1) (p4:LIbe) (p5:Int) (p6:LT3) (p7 p8:LT2) (p9:Lq6):CT:=(B9J p0 p1 p2 p3 p4 p5 p6 p7 p8 p9) (B0m x4 p0 p1 p2 p3 p4 p5 p6 p7 p8 p9)
noncomputable abbrev B30 {α:Sort _} (f:Int→Int→Int→Int→LT1→LIbe→Int→LT3→LT2→LT2→Lq6→α) (d:W8.den):α:=f d.1.2.2.2.2.1 d.2.1.1 d.2.1.2.1 d.2.1.2.2.1 d.2.1.2.2.2.1 d.2.1.2.2.2.2.1 d.2.1.2.2.2.2.2.1 d.2.1.2.2.2.2.2.2.1 d.2.1.2.2.2.2.2.2.2.1 d.2.1.2.2.2.2.2.2.2.2.1 d.2.1.2.2.2.2.2.2.2.2.2.1
noncomputable abbrev B96:W8.den→RT W8.den:=(B30 C9Z)
noncomputable abbrev C9C (p0 p1 p2:Int) (p3:LT1) (p4:LIbe) (p5:Int) (p6:LT3) (p7 p8:LT2) (p9:Lq6) (v:B1R):W8.den:=(((),(),(),(),v,G02),((p0,p1,p2,p3,p4,p5,p6,p7,p8,p9,()),()))
theorem E1G (p0 p1 p2:Int) (p3:LT1) (p4:LIbe) (p5:Int) (p6:LT3) (p7 p8:LT2) (p9:Lq6):(∀ v:B1R,(C9Z v p0 p1 p2 p3 p4 p5 p6 p7 p8 p9).val=A5T (C9C p0 p1 p2 p3 p4 p5 p6 p7 p8 p9) (B9J p0 p1 p2 p3 p4 p5 p6 p7 p8 p9) (B4b v p0 p1 p2 p3 p4 p5 p6 p7 p8 p9))∧∀ a:B1s,CEnd W8.den ((B9J p0 p1 p2 p3 p4 p5 p6 p7 p8 p9) a):=⟨fun v=>by repeat' first | apply A6V | rfl,fun a=>(A6I aCD (A6I aCD A6K))⟩
noncomputable def C9s (x4 p0 p1 p2:Int) (p3:LT1) (p4:LIbe) (p5:Int) (p6:LT3) (p7 p8:LT2) (p9:Lq6):Option (Ex×St):=let z1:=B3Q x4 p0 p1 p2 p3 p4 p5 p6 p7 p8 p9;let z2:=(⟨(.junk::.junk::(.t true .bool false)::F2u),[],0,[]⟩:St);let z3:=p3.getD x4.toNat ((0:Int),([],((0:Int),[])));let z4:=decide (0≤x4∧x4<(p3.length:Int));(cond (decide (x4<(p3.length:Int))) (cond z4 (cond (Q7 p0 p1 p2 p3 p4 p5 p6 p7 p8 p9 (z3.1)) (cond (decide (z1<(0:Int))) (some (.ret,z2)) (cond (decide (0≤z1∧z1<(p9.length:Int))) (cond z4 (cond (X8 ((p9.getD (z1.toNat) ((0:Int),[])).2) ((z3.2).1)) (cond (!(B8j x4 p0 p1 p2 p3 p4 p5 p6 p7 p8 p9)) (some (.ret,z2)) (some (.normal,(⟨(.junk::(.ptr 0 0 1 0)::.junk::.junk::(ti (wI (x4+(1:Int))))::F98),[(.box [(ti p0),(ti p1),(ti p2),(.t false tq5 p3),(.t false K4 p4),(ti p5),(.t false tq3 p6),(.t false tq4 p7),(.t false tq4 p8),(.t false tq9 p9)])],0,[]⟩:St)))) none) none) none)) none) none) (some ((.exit 2),(⟨(.junk::(.ptr 0 0 1 0)::F4F),[(.box [(ti p0),(ti p1),(ti p2),(.t false tq5 p3),(.t false K4 p4),(ti p5),(.t false tq3 p6),(.t false tq4 p7),(.t false tq4 p8),(.t false tq9 p9)])],0,[]⟩:St))))
theorem D9R:RdA G54 aLn 2 B5U W8 0 [] (kepts [2] [(2,[1])]) (B30 C9s):=by
 intro d
 kernel_rfl
theorem D9Y:∀ d:W8.den,(B30 C9s) d=(B96 d).opt 0 []:=by
 intro d
 kernel_rfl
noncomputable abbrev C6W:St→Option Tree:=W8.say 0 [] [] (B30 E2c)
theorem E1f:aPL C6W B5U:=SS.wp2 hlz [] B96 D9R D9Y _ (fun d=>Runs.ofI2 (step:=B96) (C9C d.2.1.1 d.2.1.2.1 d.2.1.2.2.1 d.2.1.2.2.2.1 d.2.1.2.2.2.2.1 d.2.1.2.2.2.2.2.1 d.2.1.2.2.2.2.2.2.1 d.2.1.2.2.2.2.2.2.2.1 d.2.1.2.2.2.2.2.2.2.2.1 d.2.1.2.2.2.2.2.2.2.2.2.1) (E1G d.2.1.1 d.2.1.2.1 d.2.1.2.2.1 d.2.1.2.2.2.1 d.2.1.2.2.2.2.1 d.2.1.2.2.2.2.2.1 d.2.1.2.2.2.2.2.2.1 d.2.1.2.2.2.2.2.2.2.1 d.2.1.2.2.2.2.2.2.2.2.1 d.2.1.2.2.2.2.2.2.2.2.2.1) rfl d.1.2.2.2.2.1)
abbrev W9:SS:=⟨(.junk::.ptr 0 0 1 0::.junk::.junk::.junk::.junk::tI::G0l),[.box [tI,tI,tI,.t false tq5,.t false K4,tI,.t false tq3,.t false tq4,.t false tq4,.t false tq9]]⟩
abbrev C5v:SS:=⟨(.junk::.junk::.t true .bool::F2v),[]⟩
abbrev C5w:SS:=⟨(.junk::.ptr 0 0 1 0::F4K),[.box [tI,tI,tI,.t false tq5,.t false K4,tI,.t false tq3,.t false tq4,.t false tq4,.t false tq9]]⟩
noncomputable def B8k (x6 p0 p1 p2:Int) (p3:LT1) (p4:LIbe) (p5:Int) (p6:LT3) (p7 p8:LT2) (p9:Lq6):=B7P p0 p1 p2 p3 p4 p5 p6 p7 p8 p9 ((p4.getD x6.toNat ((0:Int),false)).1)
noncomputable def C90 (x6 p0 p1 p2:Int) (p3:LT1) (p4:LIbe) (p5:Int) (p6:LT3) (p7 p8:LT2) (p9:Lq6):RT W9.den:=(.br (decide (x6<(p4.length:Int))) (.br (decide (0≤x6∧x6<(p4.length:Int))) (.br (Q7 p0 p1 p2 p3 p4 p5 p6 p7 p8 p9 ((p4.getD x6.toNat ((0:Int),false)).1)) (.br (decide ((B8k x6 p0 p1 p2 p3 p4 p5 p6 p7 p8 p9)<(0:Int))) (.done .ret C5v (((),(),false,E5G),())) (.next (((),(),(),(),(),(),wI (x6+(1:Int)),G01),((p0,p1,p2,p3,p4,p5,p6,p7,p8,p9,()),())))) .fail) .fail) (.done (.exit 4) C5w ((F3V),((p0,p1,p2,p3,p4,p5,p6,p7,p8,p9,()),()))))
abbrev B1S:=(Int)
abbrev B1t:=Nat×(Bool)
def B9N:B1t:=(99,(false:Bool))
noncomputable def B4c (x6 p0 p1 p2:Int) (p3:LT1) (p4:LIbe) (p5:Int) (p6:LT3) (p7 p8:LT2) (p9:Lq6):B1S ⊕ B1t:=(cond (decide (x6<(p4.length:Int))) (cond (decide (0≤x6∧x6<(p4.length:Int))) (cond (Q7 p0 p1 p2 p3 p4 p5 p6 p7 p8 p9 ((p4.getD x6.toNat ((0:Int),false)).1)) (cond (decide ((B8k x6 p0 p1 p2 p3 p4 p5 p6 p7 p8 p9)<(0:Int))) (.inr (0,false)) (.inl (wI (x6+(1:Int))))) (.inr B9N)) (.inr B9N)) (.inr (1,(false:Bool))))
noncomputable def B0n (x6 p0 p1 p2:Int) (p3:LT1) (p4:LIbe) (p5:Int) (p6:LT3) (p7 p8:LT2) (p9:Lq6):B1t:=itX (fun v:B1S=>B4c v p0 p1 p2 p3 p4 p5 p6 p7 p8 p9) B9N x6
noncomputable def B9K (p0 p1 p2:Int) (p3:LT1) (p4:LIbe) (p5:Int) (p6:LT3) (p7 p8:LT2) (p9:Lq6) (a:B1t):CT:=(.br (a.1==0) (.done .ret C5v (((),(),a.2,E5G),())) (.br (a.1==1) (.done (.exit 4) C5w ((F3V),((p0,p1,p2,p3,p4,p5,p6,p7,p8,p9,()),()))) .fail))
noncomputable def E2d (x6 p0 p1 p2:Int) (p3:LT1) (p4:LIbe) (p5:Int) (p6:LT3) (p7 p8:LT2) (p9:Lq6):CT:=(B9K p0 p1 p2 p3 p4 p5 p6 p7 p8 p9) (B0n x6 p0 p1 p2 p3 p4 p5 p6 p7 p8 p9)
noncomputable abbrev B31 {α:Sort _} (f:Int→Int→Int→Int→LT1→LIbe→Int→LT3→LT2→LT2→Lq6→α) (d:W9.den):α:=f d.1.2.2.2.2.2.2.1 d.2.1.1 d.2.1.2.1 d.2.1.2.2.1 d.2.1.2.2.2.1 d.2.1.2.2.2.2.1 d.2.1.2.2.2.2.2.1 d.2.1.2.2.2.2.2.2.1 d.2.1.2.2.2.2.2.2.2.1 d.2.1.2.2.2.2.2.2.2.2.1 d.2.1.2.2.2.2.2.2.2.2.2.1
noncomputable abbrev B97:W9.den→RT W9.den:=(B31 C90)
noncomputable abbrev C9D (p0 p1 p2:Int) (p3:LT1) (p4:LIbe) (p5:Int) (p6:LT3) (p7 p8:LT2) (p9:Lq6) (v:B1S):W9.den:=(((),(),(),(),(),(),v,G01),((p0,p1,p2,p3,p4,p5,p6,p7,p8,p9,()),()))
theorem E1H (p0 p1 p2:Int) (p3:LT1) (p4:LIbe) (p5:Int) (p6:LT3) (p7 p8:LT2) (p9:Lq6):(∀ v:B1S,(C90 v p0 p1 p2 p3 p4 p5 p6 p7 p8 p9).val=A5T (C9D p0 p1 p2 p3 p4 p5 p6 p7 p8 p9) (B9K p0 p1 p2 p3 p4 p5 p6 p7 p8 p9) (B4c v p0 p1 p2 p3 p4 p5 p6 p7 p8 p9))∧∀ a:B1t,CEnd W9.den ((B9K p0 p1 p2 p3 p4 p5 p6 p7 p8 p9) a):=⟨fun v=>(A6V (A6V (A6V (A6V rfl rfl) rfl) rfl) rfl),fun a=>(A6I aCD (A6I aCD A6K))⟩
noncomputable def C9t (x6 p0 p1 p2:Int) (p3:LT1) (p4:LIbe) (p5:Int) (p6:LT3) (p7 p8:LT2) (p9:Lq6):Option (Ex×St):=(cond (decide (x6<(p4.length:Int))) (cond (decide (0≤x6∧x6<(p4.length:Int))) (cond (Q7 p0 p1 p2 p3 p4 p5 p6 p7 p8 p9 ((p4.getD x6.toNat ((0:Int),false)).1)) (cond (decide ((B8k x6 p0 p1 p2 p3 p4 p5 p6 p7 p8 p9)<(0:Int))) (some (.ret,(⟨(.junk::.junk::(.t true .bool false)::F2u),[],0,[]⟩:St))) (some (.normal,(⟨(.junk::(.ptr 0 0 1 0)::.junk::.junk::.junk::.junk::(ti (wI (x6+(1:Int))))::F97),[(.box [(ti p0),(ti p1),(ti p2),(.t false tq5 p3),(.t false K4 p4),(ti p5),(.t false tq3 p6),(.t false tq4 p7),(.t false tq4 p8),(.t false tq9 p9)])],0,[]⟩:St)))) none) none) (some ((.exit 4),(⟨(.junk::(.ptr 0 0 1 0)::F4F),[(.box [(ti p0),(ti p1),(ti p2),(.t false tq5 p3),(.t false K4 p4),(ti p5),(.t false tq3 p6),(.t false tq4 p7),(.t false tq4 p8),(.t false tq9 p9)])],0,[]⟩:St))))
theorem D9S:RdA G54 aLn 4 B5V W9 0 [] (kepts [2] [(4,[1])]) (B31 C9t):=by
 intro d
 kernel_rfl
theorem D9Z:∀ d:W9.den,(B31 C9t) d=(B97 d).opt 0 []:=by
 intro d
 kernel_rfl
noncomputable abbrev C6X:St→Option Tree:=W9.say 0 [] [] (B31 E2d)
theorem E1g:aPL C6X B5V:=SS.wp2 hlz [] B97 D9S D9Z _ (fun d=>Runs.ofI2 (step:=B97) (C9D d.2.1.1 d.2.1.2.1 d.2.1.2.2.1 d.2.1.2.2.2.1 d.2.1.2.2.2.2.1 d.2.1.2.2.2.2.2.1 d.2.1.2.2.2.2.2.2.1 d.2.1.2.2.2.2.2.2.2.1 d.2.1.2.2.2.2.2.2.2.2.1 d.2.1.2.2.2.2.2.2.2.2.2.1) (E1H d.2.1.1 d.2.1.2.1 d.2.1.2.2.1 d.2.1.2.2.2.1 d.2.1.2.2.2.2.1 d.2.1.2.2.2.2.2.1 d.2.1.2.2.2.2.2.2.1 d.2.1.2.2.2.2.2.2.2.1 d.2.1.2.2.2.2.2.2.2.2.1 d.2.1.2.2.2.2.2.2.2.2.2.1) rfl d.1.2.2.2.2.2.2.1)
noncomputable def B7Q (a0 a1 a2:Int) (a3:LT1) (a4:LIbe) (a5:Int) (a6:LT3) (a7 a8:LT2) (a9:Lq6):Bool:=let z1:=B0l (0:Int) a0 a1 a2 a3 a4 a5 a6 a7 a8 a9;let z2:=B0m (0:Int) a0 a1 a2 a3 a4 a5 a6 a7 a8 a9;let z3:=B0n (0:Int) a0 a1 a2 a3 a4 a5 a6 a7 a8 a9;(cond (z1.1==0) (z1.2) (cond (z2.1==0) (z2.2) (cond (z3.1==0) (z3.2) (decide ((a9.length:Int)≤(1000:Int))))))
noncomputable abbrev A8A (r:Bool):AV×List AObj:=((.t true .bool r),[])
noncomputable abbrev C7E:F5 B5D→AV×List AObj:=fun d=>A8A (B7Q d.1.1 d.1.2.1 d.1.2.2.1 d.1.2.2.2.1 d.1.2.2.2.2.1 d.1.2.2.2.2.2.1 d.1.2.2.2.2.2.2.1 d.1.2.2.2.2.2.2.2.1 d.1.2.2.2.2.2.2.2.2.1 d.1.2.2.2.2.2.2.2.2.2.1)
noncomputable def A99 (a0 a1 a2:Int) (a3:LT1) (a4:LIbe) (a5:Int) (a6:LT3) (a7 a8:LT2) (a9:Lq6):Bool:=let z1:=B0l (0:Int) a0 a1 a2 a3 a4 a5 a6 a7 a8 a9;let z2:=B0m (0:Int) a0 a1 a2 a3 a4 a5 a6 a7 a8 a9;let z3:=B0n (0:Int) a0 a1 a2 a3 a4 a5 a6 a7 a8 a9;cond (z1.1==0) true ((z1.1==1)&&(cond (z2.1==0) true ((z2.1==1)&&(cond (z3.1==0) true (z3.1==1)))))
noncomputable abbrev C26:F5 B5D→Bool:=fun d=>A99 d.1.1 d.1.2.1 d.1.2.2.1 d.1.2.2.2.1 d.1.2.2.2.2.1 d.1.2.2.2.2.2.1 d.1.2.2.2.2.2.2.1 d.1.2.2.2.2.2.2.2.1 d.1.2.2.2.2.2.2.2.2.1 d.1.2.2.2.2.2.2.2.2.2.1
noncomputable abbrev E53:Nat→St→Option Tree:=fun b=>match b with | 0=>C6V | 2=>C6W | 4=>C6X | _=>fun _=>none
theorem E31:A6Q true G54 (E53) Tryz.f29 B5D C26 C7E:=by
 rintro ⟨⟨a0,⟨a1,⟨a2,⟨a3,⟨a4,⟨a5,⟨a6,⟨a7,⟨a8,⟨a9,_⟩⟩⟩⟩⟩⟩⟩⟩⟩⟩,_⟩ hp
 change A99 a0 a1 a2 a3 a4 a5 a6 a7 a8 a9=true at hp
 unfold A99 at hp
 refine Eq.trans (b:=(let z1:=B0l (0:Int) a0 a1 a2 a3 a4 a5 a6 a7 a8 a9;let z2:=B0m (0:Int) a0 a1 a2 a3 a4 a5 a6 a7 a8 a9;let z3:=B0n (0:Int) a0 a1 a2 a3 a4 a5 a6 a7 a8 a9;cond (z1.1==0) (some (A8A (z1.2))) (cond (z1.1==1) (cond (z2.1==0) (some (A8A (z2.2))) (cond (z2.1==1) (cond (z3.1==0) (some (A8A (z3.2))) (cond (z3.1==1) (some (A8A (decide ((a9.length:Int)≤(1000:Int))))) none)) none)) none))) (by kernel_rfl) ?_
 exact (H7 A8A hp (fun hp=>rfl) (fun hp=>(A6R hp fun hp=>(H7 A8A hp (fun hp=>rfl) (fun hp=>(A6R hp fun hp=>(H7 A8A hp (fun hp=>rfl) (fun hp=>(A6T hp fun _h=>rfl)))))))))
theorem E6r:aPP 29 (A2z B5D C26 C7E):=pcD true G54 (by
  rw [show C4 0 (A0y Tryz.f29)=[(0,B5T),(2,B5U),(4,B5V)] by kernel_rfl];intro p hp;simp only [List.mem_cons,List.mem_nil_iff,or_false] at hp
  rcases hp with rfl | rfl | rfl
  ·exact E1e
  ·exact E1f
  ·exact E1g) E31
noncomputable def S55:Tab:=Tab.add S54 29 (lift (A2z B5D C26 C7E))
noncomputable def F8B:FuncId→Bool:=qadd F8A 29
theorem G55:aPG S55 F8B:=G54.addQ E6r (cbl Tryz.f29) (fun _=>rfl)

abbrev E9D:List Sh:=.junk::G0q
abbrev u15:=((),u14)
abbrev D7a:List PSh:=[.t tq8,.t (.int .i64)]
abbrev B7f:SS:=⟨(.t false tq8::tI::.junk::.junk::.junk::tI::E9D),[]⟩
abbrev D97:SS:=⟨(.junk::.junk::.junk::.junk::tI::F7y),[]⟩
abbrev D98:SS:=⟨(.junk::E2X),[]⟩
noncomputable def E4c (x0:Lq1) (x1 x5:Int):RT B7f.den:=(.br (decide (x5<(x0.length:Int))) (.br (decide (0≤x5∧x5<(x0.length:Int))) (.br ((((x0.getD x5.toNat ((0:Int),((0:Int),[]))).2).1)==x1) (.done .ret D97 (((),(),(),(),x5,u16),())) (.next ((x0,x1,(),(),(),wI (x5+(1:Int)),u15),()))) .fail) (.done (.exit 0) D98 ((u21),())))
abbrev C1b:=(Lq1)×(Int)×(Int)
abbrev C1a:=Nat×(Int)
def D5B:C1a:=(99,((0:Int):Int))
noncomputable def C3z (x0:Lq1) (x1 x5:Int):C1b ⊕ C1a:=(cond (decide (x5<(x0.length:Int))) (cond (decide (0≤x5∧x5<(x0.length:Int))) (cond ((((x0.getD x5.toNat ((0:Int),((0:Int),[]))).2).1)==x1) (.inr (0,x5)) (.inl (x0,x1,wI (x5+(1:Int))))) (.inr D5B)) (.inr (1,((0:Int):Int))))
noncomputable def C2L (x0:Lq1) (x1 x5:Int):C1a:=itX (fun v:C1b=>C3z v.1 v.2.1 v.2.2) D5B (x0,x1,x5)
noncomputable def D5w (a:C1a):CT:=(.br (a.1==0) (.done .ret D97 (((),(),(),(),a.2,u16),())) (.br (a.1==1) (.done (.exit 0) D98 ((u21),())) .fail))
noncomputable def F2U (x0:Lq1) (x1 x5:Int):CT:=D5w (C2L x0 x1 x5)
noncomputable abbrev D6L:B7f.den→RT B7f.den:=(fun d=>E4c d.1.1 d.1.2.1 d.1.2.2.2.2.2.1)
noncomputable def D7g:Code:=((C4 0 (A0y Tryz.f148)).getD 0 (0,.skip)).2
noncomputable abbrev E3l (v:C1b):B7f.den:=((v.1,v.2.1,(),(),(),v.2.2,u15),())
theorem F1T:(∀ v:C1b,(E4c v.1 v.2.1 v.2.2).val=A5T E3l D5w (C3z v.1 v.2.1 v.2.2))∧∀ a:C1a,CEnd B7f.den (D5w a):=⟨fun v=>(A6V (A6V (A6V rfl rfl) rfl) rfl),fun a=>(A6I aCD (A6I aCD A6K))⟩
theorem E92:RdA G55 aLn 0 D7g B7f 0 [] (kepts [4] [(0,[])]) (fun d=>(D6L d).opt 0 []):=by
 intro d
 kernel_rfl
noncomputable abbrev E0R:St→Option Tree:=B7f.say 0 [] [] (fun d=>F2U d.1.1 d.1.2.1 d.1.2.2.2.2.2.1)
theorem F1N:aPL E0R D7g:=SS.wp2 hlz [] D6L E92 (fun d=>rfl) _ (fun d=>Runs.ofI2 (step:=D6L) E3l F1T rfl (d.1.1,d.1.2.1,d.1.2.2.2.2.2.1))
noncomputable def C9T (a0:Lq1) (a1:Int):Int:=let z1:=C2L a0 a1 (0:Int);(cond (z1.1==0) (z1.2) (-1:Int))
noncomputable abbrev E1P (r:Int):AV×List AObj:=((ti r),[])
noncomputable abbrev E6K:F5 D7a→AV×List AObj:=fun d=>E1P (C9T d.1 d.2.1)
noncomputable def C0Z (a0:Lq1) (a1:Int):Bool:=let z1:=C2L a0 a1 (0:Int);cond (z1.1==0) true (z1.1==1)
noncomputable abbrev D9J:F5 D7a→Bool:=fun d=>C0Z d.1 d.2.1
noncomputable abbrev F5r:Nat→St→Option Tree:=fun b=>match b with | 0=>E0R | _=>fun _=>none
theorem F3O:A6Q true G55 (F5r) Tryz.f148 D7a D9J E6K:=by
 rintro ⟨a0,⟨a1,_⟩⟩ hp
 change C0Z a0 a1=true at hp
 unfold C0Z at hp
 refine Eq.trans (b:=(let z1:=C2L a0 a1 (0:Int);cond (z1.1==0) (some (E1P (z1.2))) (cond (z1.1==1) (some (E1P (-1:Int))) none))) (by kernel_rfl) ?_
 exact (H7 E1P hp (fun hp=>rfl) (fun hp=>(A6T hp fun _h=>rfl)))
theorem F5F:aPP 148 (A2z D7a D9J E6K):=pcD true G55 (hl1 (i:=0) (by kernel_rfl) F1N) F3O
noncomputable def S56:Tab:=Tab.add S55 148 (lift (A2z D7a D9J E6K))
noncomputable def F8C:FuncId→Bool:=qadd F8B 148
theorem G56:aPG S56 F8C:=G55.addQ F5F (cbl Tryz.f148) (fun _=>rfl)

abbrev D0L:List PSh:=[.agg [(.int .i64),(.int .i64),tq7]]
noncomputable def B6A (a0 a1:Int) (a2:Lq2):Bool:=(cond (!(L0 a1 (1:Int) (1000000:Int))) false (cond (a0==(1:Int)) (B0c a2) (cond (a0==(2:Int)) ((a2.length:Int)==(0:Int)) (cond (a0==(3:Int)) ((a2.length:Int)==(0:Int)) false))))
noncomputable abbrev B5Y (r:Bool):AV×List AObj:=((.t true .bool r),[])
noncomputable abbrev E2R:F5 D0L→AV×List AObj:=fun d=>B5Y (B6A d.1.1 d.1.2.1 d.1.2.2.1)
noncomputable def B9e (a0 a1:Int) (a2:Lq2):Bool:=Q9 a2
noncomputable abbrev D6x:F5 D0L→Bool:=fun d=>B9e d.1.1 d.1.2.1 d.1.2.2.1
theorem F2d:A6Q true G56 aLn Tryz.f149 D0L D6x E2R:=by
 rintro ⟨⟨a0,⟨a1,⟨a2,_⟩⟩⟩,_⟩ hp
 change B9e a0 a1 a2=true at hp
 unfold B9e at hp
 refine Eq.trans (b:=(let z1:=B5Y ((a2.length:Int)==(0:Int));cond (!(L0 a1 (1:Int) (1000000:Int))) (some (B5Y false)) (cond (a0==(1:Int)) (cond (B0v a2) (some (B5Y (B0c a2))) none) (cond (a0==(2:Int)) (some z1) (cond (a0==(3:Int)) (some z1) (some (B5Y false))))))) (by kernel_rfl) ?_
 exact (L7 B5Y (fun _h=>rfl) (fun _h=>(L7 B5Y (fun _h=>(A6T (by first | rfl | decide | exact hp | (simp only [Bool.and_eq_true] at hp;simp only [hp];done) | (simp [*];done) | (simp [okL] at hp;simp [okL,MAXB];omega) | (simp_all;done) | (simp at *;omega)) (fun _h=>rfl))) (fun _h=>(L7 B5Y (fun _h=>rfl) (fun _h=>(L7 B5Y (fun _h=>rfl) (fun _h=>rfl))))))))
theorem F4w:aPP 149 (A2z D0L D6x E2R):=pcD true G56 hlz F2d
noncomputable def S57:Tab:=Tab.add S56 149 (lift (A2z D0L D6x E2R))
noncomputable def F8D:FuncId→Bool:=qadd F8C 149
theorem G57:aPG S57 F8D:=G56.addQ F4w (cbl Tryz.f149) (fun _=>rfl)

abbrev F7E:List Sh:=.junk::F4P
abbrev F4Q:List Sh:=.junk::E2Y
abbrev F7F:List Sh:=.junk::F7E
abbrev u41:=((),u40)
abbrev u38:=((),u37)
abbrev u39:=((),u38)
abbrev F4J:List AV:=.junk::D9u
abbrev F7t:List AV:=.junk::F4H
abbrev F4I:List AV:=.junk::F7t
abbrev F5U:List Sh:=.junk::.junk::.junk::.junk::F4Q
abbrev u46:=((),(),(),(),(),u41)
abbrev F5R:List AV:=.junk::.junk::.junk::.junk::F4J
abbrev B8T:List PSh:=[.t tq8,.t tq7]
noncomputable def B7k:Code:=((C4 0 (A0y Tryz.f150)).getD 0 (0,.skip)).2
noncomputable def B7l:Code:=((C4 0 B7k).getD 0 (0,.skip)).2
noncomputable def C6b:Code:=((C4 2 B7l).getD 0 (0,.skip)).2
abbrev A0d:SS:=⟨(.t false tq8::.t false tq7::.junk::.junk::.junk::tI::tI::tI::F7E),[]⟩
abbrev C89:SS:=⟨(.junk::.junk::.junk::.junk::.t true .bool::F4Q),[]⟩
abbrev C9a:SS:=⟨(.t false tq8::.t false tq7::.junk::.junk::.junk::tI::tI::F7F),[]⟩
noncomputable def D3a (x0:Lq1) (x1:Lq2) (x5 x6 x7:Int):RT A0d.den:=let z1:=((x0.getD x5.toNat ((0:Int),((0:Int),[]))).2).2;(.br (decide (x7<(x1.length:Int))) (.br (decide (0≤x5∧x5<(x0.length:Int))) (.br (decide (0≤x6∧x6<((z1.length:Nat):Int))) (.br (decide (0≤x7∧x7<(x1.length:Int))) (.br ((((z1.getD x6.toNat ((0:Int),(bE,bE))).2).1).toList==(((x1.getD x7.toNat ((0:Int),(bE,bE))).2).1).toList) (.done .ret C89 (((),(),(),(),true,u41),())) (.next ((x0,x1,(),(),(),x5,x6,wI (x7+(1:Int)),u38),()))) .fail) .fail) .fail) (.done (.exit 4) C9a ((x0,x1,(),(),(),x5,x6,u39),())))
abbrev B0K:=(Lq1)×Lq2×(Int)×(Int)×(Int)
abbrev B3v:=Nat×(Bool)×Lq1×Lq2×(Int)×(Int)
def B1X:B3v:=(99,(false:Bool),([]:Lq1),([]:Lq2),((0:Int):Int),((0:Int):Int))
noncomputable def A9v (x0:Lq1) (x1:Lq2) (x5 x6 x7:Int):B0K ⊕ B3v:=let z1:=((x0.getD x5.toNat ((0:Int),((0:Int),[]))).2).2;(cond (decide (x7<(x1.length:Int))) (cond (decide (0≤x5∧x5<(x0.length:Int))) (cond (decide (0≤x6∧x6<((z1.length:Nat):Int))) (cond (decide (0≤x7∧x7<(x1.length:Int))) (cond ((((z1.getD x6.toNat ((0:Int),(bE,bE))).2).1).toList==(((x1.getD x7.toNat ((0:Int),(bE,bE))).2).1).toList) (.inr (0,true,([]:Lq1),([]:Lq2),((0:Int):Int),((0:Int):Int))) (.inl (x0,x1,x5,x6,wI (x7+(1:Int))))) (.inr B1X)) (.inr B1X)) (.inr B1X)) (.inr (1,(false:Bool),x0,x1,x5,x6)))
noncomputable def B2c (x0:Lq1) (x1:Lq2) (x5 x6 x7:Int):B3v:=itX (fun v:B0K=>A9v v.1 v.2.1 v.2.2.1 v.2.2.2.1 v.2.2.2.2) B1X (x0,x1,x5,x6,x7)
noncomputable def C2w (a:B3v):CT:=(.br (a.1==0) (.done .ret C89 (((),(),(),(),a.2.1,u41),())) (.br (a.1==1) (.done (.exit 4) C9a ((a.2.2.1,a.2.2.2.1,(),(),(),a.2.2.2.2.1,a.2.2.2.2.2,u39),())) .fail))
noncomputable def E4D (x0:Lq1) (x1:Lq2) (x5 x6 x7:Int):CT:=C2w (B2c x0 x1 x5 x6 x7)
noncomputable abbrev B5Q {α:Sort _} (f:Lq1→Lq2→Int→Int→Int→α) (d:A0d.den):α:=f d.1.1 d.1.2.1 d.1.2.2.2.2.2.1 d.1.2.2.2.2.2.2.1 d.1.2.2.2.2.2.2.2.1
noncomputable abbrev C3w:A0d.den→RT A0d.den:=(B5Q D3a)
noncomputable abbrev D2j (v:B0K):A0d.den:=((v.1,v.2.1,(),(),(),v.2.2.1,v.2.2.2.1,v.2.2.2.2,u38),())
theorem E3U:(∀ v:B0K,(D3a v.1 v.2.1 v.2.2.1 v.2.2.2.1 v.2.2.2.2).val=A5T D2j C2w (A9v v.1 v.2.1 v.2.2.1 v.2.2.2.1 v.2.2.2.2))∧∀ a:B3v,CEnd A0d.den (C2w a):=⟨fun v=>(A6V (A6V (A6V (A6V (A6V rfl rfl) rfl) rfl) rfl) rfl),fun a=>(A6I aCD (A6I aCD A6K))⟩
noncomputable def D1G (x0:Lq1) (x1:Lq2) (x5 x6 x7:Int):Option (Ex×St):=let z1:=((x0.getD x5.toNat ((0:Int),((0:Int),[]))).2).2;(cond (decide (x7<(x1.length:Int))) (cond (decide (0≤x5∧x5<(x0.length:Int))) (cond (decide (0≤x6∧x6<((z1.length:Nat):Int))) (cond (decide (0≤x7∧x7<(x1.length:Int))) (cond ((((z1.getD x6.toNat ((0:Int),(bE,bE))).2).1).toList==(((x1.getD x7.toNat ((0:Int),(bE,bE))).2).1).toList) (some (.ret,(⟨(.junk::.junk::.junk::.junk::(.t true .bool true)::F4J),[],0,[]⟩:St))) (some (.normal,(⟨((.t false tq8 x0)::(.t false tq7 x1)::.junk::.junk::.junk::(ti x5)::(ti x6)::(ti (wI (x7+(1:Int))))::F7t),[],0,[]⟩:St)))) none) none) none) (some ((.exit 4),(⟨((.t false tq8 x0)::(.t false tq7 x1)::.junk::.junk::.junk::(ti x5)::(ti x6)::F4I),[],0,[]⟩:St))))
theorem E1v:RdA G57 aLn 4 C6b A0d 0 [] (kepts [4] [(4,[0,1,5,6])]) (B5Q D1G):=by
 intro d
 kernel_rfl
theorem E1A:∀ d:A0d.den,(B5Q D1G) d=(C3w d).opt 0 []:=by
 intro d
 kernel_rfl
noncomputable abbrev C9S:St→Option Tree:=A0d.say 0 [] [] (B5Q E4D)
theorem E3d:aPL C9S C6b:=SS.wp2 hlz [] C3w E1v E1A _ (fun d=>Runs.ofI2 (step:=C3w) D2j E3U rfl (d.1.1,d.1.2.1,d.1.2.2.2.2.2.1,d.1.2.2.2.2.2.2.1,d.1.2.2.2.2.2.2.2.1))
abbrev A0c:SS:=⟨(.t false tq8::.t false tq7::.junk::.junk::.junk::tI::tI::F7F),[]⟩
abbrev C87:SS:=⟨(.junk::.junk::.junk::.junk::.t true .bool::F4Q),[]⟩
abbrev C88:SS:=⟨(.t false tq8::.t false tq7::.junk::.junk::.junk::tI::E2Y),[]⟩
noncomputable def D29 (x0:Lq1) (x1:Lq2) (x5 x6:Int):RT A0c.den:=let z1:=B2c x0 x1 x5 x6 (0:Int);(.br (decide (0≤x5∧x5<(x0.length:Int))) (.br (decide (x6<(((((x0.getD x5.toNat ((0:Int),((0:Int),[]))).2).2).length:Nat):Int))) (.br (z1.1==0) (.done .ret C87 (((),(),(),(),(z1.2.1),u41),())) (.br (z1.1==1) (.next (((z1.2.2.1),(z1.2.2.2.1),(),(),(),(z1.2.2.2.2.1),wI ((z1.2.2.2.2.2)+(1:Int)),u39),())) .fail)) (.done (.exit 2) C88 ((x0,x1,(),(),(),x5,u40),()))) .fail)
abbrev B0J:=(Lq1)×Lq2×(Int)×(Int)
abbrev B3u:=Nat×(Bool)×Lq1×Lq2×(Int)
def B6a:B3u:=(99,(false:Bool),([]:Lq1),([]:Lq2),((0:Int):Int))
noncomputable def A8e (x0:Lq1) (x1:Lq2) (x5 x6:Int):B0J ⊕ B3u:=let z1:=B2c x0 x1 x5 x6 (0:Int);(cond (decide (0≤x5∧x5<(x0.length:Int))) (cond (decide (x6<(((((x0.getD x5.toNat ((0:Int),((0:Int),[]))).2).2).length:Nat):Int))) (cond (z1.1==0) (.inr (0,(z1.2.1),([]:Lq1),([]:Lq2),((0:Int):Int))) (cond (z1.1==1) (.inl ((z1.2.2.1),(z1.2.2.2.1),(z1.2.2.2.2.1),wI ((z1.2.2.2.2.2)+(1:Int)))) (.inr B6a))) (.inr (1,(false:Bool),x0,x1,x5))) (.inr B6a))
noncomputable def B2b (x0:Lq1) (x1:Lq2) (x5 x6:Int):B3u:=itX (fun v:B0J=>A8e v.1 v.2.1 v.2.2.1 v.2.2.2) B6a (x0,x1,x5,x6)
noncomputable def C2v (a:B3u):CT:=(.br (a.1==0) (.done .ret C87 (((),(),(),(),a.2.1,u41),())) (.br (a.1==1) (.done (.exit 2) C88 ((a.2.2.1,a.2.2.2.1,(),(),(),a.2.2.2.2,u40),())) .fail))
noncomputable def E4C (x0:Lq1) (x1:Lq2) (x5 x6:Int):CT:=C2v (B2b x0 x1 x5 x6)
noncomputable abbrev B5P {α:Sort _} (f:Lq1→Lq2→Int→Int→α) (d:A0c.den):α:=f d.1.1 d.1.2.1 d.1.2.2.2.2.2.1 d.1.2.2.2.2.2.2.1
noncomputable abbrev C3v:A0c.den→RT A0c.den:=(B5P D29)
noncomputable abbrev D2i (v:B0J):A0c.den:=((v.1,v.2.1,(),(),(),v.2.2.1,v.2.2.2,u39),())
theorem E3T:(∀ v:B0J,(D29 v.1 v.2.1 v.2.2.1 v.2.2.2).val=A5T D2i C2v (A8e v.1 v.2.1 v.2.2.1 v.2.2.2))∧∀ a:B3u,CEnd A0c.den (C2v a):=⟨fun v=>(A6V (A6V (A6V rfl (A6V rfl rfl)) rfl) rfl),fun a=>(A6I aCD (A6I aCD A6K))⟩
noncomputable abbrev E4o:Nat→St→Option Tree:=fun b=>match b with | 4=>C9S | _=>fun _=>none
noncomputable def D1F (x0:Lq1) (x1:Lq2) (x5 x6:Int):Option (Ex×St):=let z1:=B2c x0 x1 x5 x6 (0:Int);(cond (decide (0≤x5∧x5<(x0.length:Int))) (cond (decide (x6<(((((x0.getD x5.toNat ((0:Int),((0:Int),[]))).2).2).length:Nat):Int))) (cond (z1.1==0) (some (.ret,(⟨(.junk::.junk::.junk::.junk::(.t true .bool (z1.2.1))::F4J),[],0,[]⟩:St))) (cond (z1.1==1) (some (.normal,(⟨((.t false tq8 (z1.2.2.1))::(.t false tq7 (z1.2.2.2.1))::.junk::.junk::.junk::(ti (z1.2.2.2.2.1))::(ti (wI ((z1.2.2.2.2.2)+(1:Int))))::F4I),[],0,[]⟩:St))) none)) (some ((.exit 2),(⟨((.t false tq8 x0)::(.t false tq7 x1)::.junk::.junk::.junk::(ti x5)::D9u),[],0,[]⟩:St)))) none)
theorem E1u:RdA G57 (E4o) 2 B7l A0c 0 [] (kepts [4] [(2,[0,1,5])]) (B5P D1F):=by
 intro d
 kernel_rfl
theorem E1z:∀ d:A0c.den,(B5P D1F) d=(C3v d).opt 0 []:=by
 intro d
 kernel_rfl
noncomputable abbrev C9R:St→Option Tree:=A0c.say 0 [] [] (B5P E4C)
theorem E3c:aPL C9R B7l:=SS.wp2 (hl1 (i:=4) (by kernel_rfl) E3d) [] C3v E1u E1z _ (fun d=>Runs.ofI2 (step:=C3v) D2i E3T rfl (d.1.1,d.1.2.1,d.1.2.2.2.2.2.1,d.1.2.2.2.2.2.2.1))
abbrev A7L:SS:=⟨(.t false tq8::.t false tq7::.junk::.junk::.junk::tI::E2Y),[]⟩
abbrev C85:SS:=⟨(.junk::.junk::.junk::.junk::.t true .bool::F4Q),[]⟩
abbrev C86:SS:=⟨(.junk::F5U),[]⟩
noncomputable def D28 (x0:Lq1) (x1:Lq2) (x5:Int):RT A7L.den:=let z1:=B2b x0 x1 x5 (0:Int);(.br (decide (x5<(x0.length:Int))) (.br (z1.1==0) (.done .ret C85 (((),(),(),(),(z1.2.1),u41),())) (.br (z1.1==1) (.next (((z1.2.2.1),(z1.2.2.2.1),(),(),(),wI ((z1.2.2.2.2)+(1:Int)),u40),())) .fail)) (.done (.exit 0) C86 ((u46),())))
abbrev B0I:=(Lq1)×Lq2×(Int)
abbrev B3t:=Nat×(Bool)
def C2B:B3t:=(99,(false:Bool))
noncomputable def B2w (x0:Lq1) (x1:Lq2) (x5:Int):B0I ⊕ B3t:=let z1:=B2b x0 x1 x5 (0:Int);(cond (decide (x5<(x0.length:Int))) (cond (z1.1==0) (.inr (0,(z1.2.1))) (cond (z1.1==1) (.inl ((z1.2.2.1),(z1.2.2.2.1),wI ((z1.2.2.2.2)+(1:Int)))) (.inr C2B))) (.inr (1,(false:Bool))))
noncomputable def B2a (x0:Lq1) (x1:Lq2) (x5:Int):B3t:=itX (fun v:B0I=>B2w v.1 v.2.1 v.2.2) C2B (x0,x1,x5)
noncomputable def C2u (a:B3t):CT:=(.br (a.1==0) (.done .ret C85 (((),(),(),(),a.2,u41),())) (.br (a.1==1) (.done (.exit 0) C86 ((u46),())) .fail))
noncomputable def E4B (x0:Lq1) (x1:Lq2) (x5:Int):CT:=C2u (B2a x0 x1 x5)
noncomputable abbrev C3u:A7L.den→RT A7L.den:=(fun d=>D28 d.1.1 d.1.2.1 d.1.2.2.2.2.2.1)
noncomputable abbrev D2h (v:B0I):A7L.den:=((v.1,v.2.1,(),(),(),v.2.2,u40),())
theorem E3S:(∀ v:B0I,(D28 v.1 v.2.1 v.2.2).val=A5T D2h C2u (B2w v.1 v.2.1 v.2.2))∧∀ a:B3t,CEnd A7L.den (C2u a):=⟨fun v=>(A6V (A6V rfl (A6V rfl rfl)) rfl),fun a=>(A6I aCD (A6I aCD A6K))⟩
noncomputable abbrev E4n:Nat→St→Option Tree:=fun b=>match b with | 2=>C9R | _=>fun _=>none
noncomputable def D1E (x0:Lq1) (x1:Lq2) (x5:Int):Option (Ex×St):=let z1:=B2b x0 x1 x5 (0:Int);(cond (decide (x5<(x0.length:Int))) (cond (z1.1==0) (some (.ret,(⟨(.junk::.junk::.junk::.junk::(.t true .bool (z1.2.1))::F4J),[],0,[]⟩:St))) (cond (z1.1==1) (some (.normal,(⟨((.t false tq8 (z1.2.2.1))::(.t false tq7 (z1.2.2.2.1))::.junk::.junk::.junk::(ti (wI ((z1.2.2.2.2)+(1:Int))))::D9u),[],0,[]⟩:St))) none)) (some ((.exit 0),(⟨(.junk::F5R),[],0,[]⟩:St))))
theorem E1t:RdA G57 (E4n) 0 B7k A7L 0 [] (kepts [4] [(0,[])]) (fun d=>D1E d.1.1 d.1.2.1 d.1.2.2.2.2.2.1):=by
 intro d
 kernel_rfl
theorem E1y:∀ d:A7L.den,(fun d=>D1E d.1.1 d.1.2.1 d.1.2.2.2.2.2.1) d=(C3u d).opt 0 []:=by
 intro d
 kernel_rfl
noncomputable abbrev C9Q:St→Option Tree:=A7L.say 0 [] [] (fun d=>E4B d.1.1 d.1.2.1 d.1.2.2.2.2.2.1)
theorem E3b:aPL C9Q B7k:=SS.wp2 (hl1 (i:=2) (by kernel_rfl) E3c) [] C3u E1t E1y _ (fun d=>Runs.ofI2 (step:=C3u) D2h E3S rfl (d.1.1,d.1.2.1,d.1.2.2.2.2.2.1))
noncomputable def B2X (a0:Lq1) (a1:Lq2):Bool:=let z1:=B2a a0 a1 (0:Int);(cond (z1.1==0) (z1.2) false)
noncomputable abbrev C30 (r:Bool):AV×List AObj:=((.t true .bool r),[])
noncomputable abbrev D1t:F5 B8T→AV×List AObj:=fun d=>C30 (B2X d.1 d.2.1)
noncomputable def A8H (a0:Lq1) (a1:Lq2):Bool:=let z1:=B2a a0 a1 (0:Int);cond (z1.1==0) true (z1.1==1)
noncomputable abbrev C42:F5 B8T→Bool:=fun d=>A8H d.1 d.2.1
noncomputable abbrev E8w:Nat→St→Option Tree:=fun b=>match b with | 0=>C9Q | _=>fun _=>none
theorem E5D:A6Q true G57 (E8w) Tryz.f150 B8T C42 D1t:=by
 rintro ⟨a0,⟨a1,_⟩⟩ hp
 change A8H a0 a1=true at hp
 unfold A8H at hp
 refine Eq.trans (b:=(let z1:=B2a a0 a1 (0:Int);cond (z1.1==0) (some (C30 (z1.2))) (cond (z1.1==1) (some (C30 false)) none))) (by kernel_rfl) ?_
 exact (H7 C30 hp (fun hp=>rfl) (fun hp=>(A6T hp fun _h=>rfl)))
theorem E87:aPP 150 (A2z B8T C42 D1t):=pcD true G57 (hl1 (i:=0) (by kernel_rfl) E3b) E5D
noncomputable def S58:Tab:=Tab.add S57 150 (lift (A2z B8T C42 D1t))
noncomputable def F8E:FuncId→Bool:=qadd F8D 150
theorem G58:aPG S58 F8E:=G57.addQ E87 (cbl Tryz.f150) (fun _=>rfl)

abbrev u20:=((),u19)
abbrev C5U:List PSh:=[.t Z3,.t .str]
abbrev B1K:SS:=⟨(.t false Z3::.t true .str::.junk::.junk::.junk::.junk::tI::D1v),[]⟩
abbrev D4c:SS:=⟨(.junk::.junk::.junk::.junk::.t true .str::.t true .bool::E2X),[]⟩
abbrev D4d:SS:=⟨(.junk::F4N),[]⟩
noncomputable def D8M (x0:LBBe) (x1:ByteArray) (x6:Int):RT B1K.den:=let z1:=decide (0≤x6∧x6<(x0.length:Int));let z2:=x0.getD x6.toNat (bE,bE);(.br (decide (x6<(x0.length:Int))) (.br z1 (.br ((z2.1).toList==x1.toList) (.br z1 (.done .ret D4c (((),(),(),(),z2.2,true,u20),())) .fail) (.next ((x0,x1,(),(),(),(),wI (x6+(1:Int)),u19),()))) .fail) (.done (.exit 0) D4d ((u26),())))
abbrev B4P:=(LBBe)×(ByteArray)×(Int)
abbrev B4M:=Nat×(ByteArray)×(Bool)
def C0U:B4M:=(99,(bE:ByteArray),(false:Bool))
noncomputable def B6P (x0:LBBe) (x1:ByteArray) (x6:Int):B4P ⊕ B4M:=let z1:=decide (0≤x6∧x6<(x0.length:Int));let z2:=x0.getD x6.toNat (bE,bE);(cond (decide (x6<(x0.length:Int))) (cond z1 (cond ((z2.1).toList==x1.toList) (cond z1 (.inr (0,z2.2,true)) (.inr C0U)) (.inl (x0,x1,wI (x6+(1:Int))))) (.inr C0U)) (.inr (1,(bE:ByteArray),(false:Bool))))
noncomputable def B6j (x0:LBBe) (x1:ByteArray) (x6:Int):B4M:=itX (fun v:B4P=>B6P v.1 v.2.1 v.2.2) C0U (x0,x1,x6)
noncomputable def C7l (a:B4M):CT:=(.br (a.1==0) (.done .ret D4c (((),(),(),(),a.2.1,a.2.2,u20),())) (.br (a.1==1) (.done (.exit 0) D4d ((u26),())) .fail))
noncomputable def E8I (x0:LBBe) (x1:ByteArray) (x6:Int):CT:=C7l (B6j x0 x1 x6)
noncomputable abbrev C8I:B1K.den→RT B1K.den:=(fun d=>D8M d.1.1 d.1.2.1 d.1.2.2.2.2.2.2.1)
noncomputable def D03:Code:=((C4 0 (A0y Tryz.f177)).getD 0 (0,.skip)).2
noncomputable abbrev D77 (v:B4P):B1K.den:=((v.1,v.2.1,(),(),(),(),v.2.2,u19),())
theorem E7H:(∀ v:B4P,(D8M v.1 v.2.1 v.2.2).val=A5T D77 C7l (B6P v.1 v.2.1 v.2.2))∧∀ a:B4M,CEnd B1K.den (C7l a):=⟨fun v=>(A6V (A6V (A6V (A6V rfl rfl) rfl) rfl) rfl),fun a=>(A6I aCD (A6I aCD A6K))⟩
theorem E47:RdA G58 aLn 0 D03 B1K 0 [] (kepts [4,5] [(0,[])]) (fun d=>(C8I d).opt 0 []):=by
 intro d
 kernel_rfl
noncomputable abbrev D44:St→Option Tree:=B1K.say 0 [] [] (fun d=>E8I d.1.1 d.1.2.1 d.1.2.2.2.2.2.2.1)
theorem E69:aPL D44 D03:=SS.wp2 hlz [] C8I E47 (fun d=>rfl) _ (fun d=>Runs.ofI2 (step:=C8I) D77 E7H rfl (d.1.1,d.1.2.1,d.1.2.2.2.2.2.2.1))
noncomputable def B6z (a0:LBBe) (a1:ByteArray):ByteArray×Bool:=let z1:=B6j a0 a1 (0:Int);(cond (z1.1==0) ((z1.2.1),(z1.2.2)) (bE,false))
noncomputable abbrev D3n (r:ByteArray×Bool):AV×List AObj:=((.tup [(.t true .str r.1),(.t true .bool r.2)]),[])
noncomputable abbrev D9o:F5 C5U→AV×List AObj:=fun d=>D3n (B6z d.1 d.2.1)
noncomputable def B5b (a0:LBBe) (a1:ByteArray):Bool:=let z1:=B6j a0 a1 (0:Int);cond (z1.1==0) true (z1.1==1)
noncomputable abbrev D12:F5 C5U→Bool:=fun d=>B5b d.1 d.2.1
noncomputable abbrev F2P:Nat→St→Option Tree:=fun b=>match b with | 0=>D44 | _=>fun _=>none
theorem F0w:A6Q true G58 (F2P) Tryz.f177 C5U D12 D9o:=by
 rintro ⟨a0,⟨a1,_⟩⟩ hp
 change B5b a0 a1=true at hp
 unfold B5b at hp
 refine Eq.trans (b:=(let z1:=B6j a0 a1 (0:Int);cond (z1.1==0) (some (D3n ((z1.2.1),(z1.2.2)))) (cond (z1.1==1) (some (D3n ((⟨#[]⟩:ByteArray),false))) none))) (by kernel_rfl) ?_
 exact (H7 D3n hp (fun hp=>rfl) (fun hp=>(A6T hp fun _h=>rfl)))
theorem F3j:aPP 177 (A2z C5U D12 D9o):=pcD true G58 (hl1 (i:=0) (by kernel_rfl) E69) F0w
noncomputable def S59:Tab:=Tab.add S58 177 (lift (A2z C5U D12 D9o))
noncomputable def F8F:FuncId→Bool:=qadd F8E 177
theorem G59:aPG S59 F8F:=G58.addQ F3j (cbl Tryz.f177) (fun _=>rfl)

abbrev G0r:List Sh:=.junk::F4Q
abbrev G1p:List Sh:=.junk::G0r
abbrev F3w:List Sh:=.junk::.junk::F5U
abbrev u42:=((),u41)
abbrev u43:=((),u42)
abbrev u48:=((),(),u46)
abbrev G0e:List AV:=.junk::F4J
abbrev G1b:List AV:=.junk::G0e
abbrev E9B:List AV:=.junk::.junk::F5R
abbrev D0J:List PSh:=[.t Z3,.t tq7]
abbrev B1L:SS:=⟨(.t false Z3::.t false tq7::.junk::.junk::.junk::tI::G0r),[]⟩
abbrev C67:SS:=⟨(.junk::.junk::.junk::.junk::.t true .bool::G1p),[]⟩
abbrev D6W:SS:=⟨(.junk::F3w),[]⟩
noncomputable def D3t (x0:LBBe) (x1:Lq2) (x5:Int):=B6z x0 (((x1.getD x5.toNat ((0:Int),(bE,bE))).2).1)
noncomputable def E0X (x0:LBBe) (x1:Lq2) (x5:Int):RT B1L.den:=let z1:=x1.getD x5.toNat ((0:Int),(bE,bE));let z2:=decide (0≤x5∧x5<(x1.length:Int));let z3:=D3t x0 x1 x5;(.br (decide (x5<(x1.length:Int))) (.br z2 (.br ((z1.1) != (3:Int)) (.next ((x0,x1,(),(),(),wI (x5+(1:Int)),u42),())) (.br z2 (.br (B5b x0 ((z1.2).1)) (.br z2 (.br (!((z3.2)==(!(((z1.2).2).toList==bE.toList)))) (.done .ret C67 (((),(),(),(),false,u43),())) (.br z2 (.br (!((z3.1).toList==((z1.2).2).toList)) (.done .ret C67 (((),(),(),(),false,u43),())) (.next ((x0,x1,(),(),(),wI (x5+(1:Int)),u42),()))) .fail)) .fail) .fail) .fail)) .fail) (.done (.exit 0) D6W ((u48),())))
abbrev B7j:=(LBBe)×Lq2×(Int)
abbrev C1r:=Nat×(Bool)
def B1W:C1r:=(99,(false:Bool))
noncomputable def B9w (x0:LBBe) (x1:Lq2) (x5:Int):B7j ⊕ C1r:=let z1:=x1.getD x5.toNat ((0:Int),(bE,bE));let z2:=decide (0≤x5∧x5<(x1.length:Int));let z3:=D3t x0 x1 x5;(cond (decide (x5<(x1.length:Int))) (cond z2 (cond ((z1.1) != (3:Int)) (.inl (x0,x1,wI (x5+(1:Int)))) (cond z2 (cond (B5b x0 ((z1.2).1)) (cond z2 (cond (!((z3.2)==(!(((z1.2).2).toList==bE.toList)))) (.inr (0,false)) (cond z2 (cond (!((z3.1).toList==((z1.2).2).toList)) (.inr (0,false)) (.inl (x0,x1,wI (x5+(1:Int))))) (.inr B1W))) (.inr B1W)) (.inr B1W)) (.inr B1W))) (.inr B1W)) (.inr (1,(false:Bool))))
noncomputable def B87 (x0:LBBe) (x1:Lq2) (x5:Int):C1r:=itX (fun v:B7j=>B9w v.1 v.2.1 v.2.2) B1W (x0,x1,x5)
noncomputable def D1c (a:C1r):CT:=(.br (a.1==0) (.done .ret C67 (((),(),(),(),a.2,u43),())) (.br (a.1==1) (.done (.exit 0) D6W ((u48),())) .fail))
noncomputable def F07 (x0:LBBe) (x1:Lq2) (x5:Int):CT:=D1c (B87 x0 x1 x5)
noncomputable abbrev D2O:B1L.den→RT B1L.den:=(fun d=>E0X d.1.1 d.1.2.1 d.1.2.2.2.2.2.1)
noncomputable def D4q:Code:=((C4 0 (A0y Tryz.f151)).getD 0 (0,.skip)).2
noncomputable abbrev E0L (v:B7j):B1L.den:=((v.1,v.2.1,(),(),(),v.2.2,u42),())
theorem E97:(∀ v:B7j,(E0X v.1 v.2.1 v.2.2).val=A5T E0L D1c (B9w v.1 v.2.1 v.2.2))∧∀ a:C1r,CEnd B1L.den (D1c a):=⟨fun v=>by repeat' first | apply A6V | rfl,fun a=>(A6I aCD (A6I aCD A6K))⟩
noncomputable def E0x (x0:LBBe) (x1:Lq2) (x5:Int):Option (Ex×St):=let z1:=(⟨((.t false Z3 x0)::(.t false tq7 x1)::.junk::.junk::.junk::(ti (wI (x5+(1:Int))))::G0e),[],0,[]⟩:St);let z2:=x1.getD x5.toNat ((0:Int),(bE,bE));let z3:=decide (0≤x5∧x5<(x1.length:Int));let z4:=(⟨(.junk::.junk::.junk::.junk::(.t true .bool false)::G1b),[],0,[]⟩:St);let z5:=D3t x0 x1 x5;(cond (decide (x5<(x1.length:Int))) (cond z3 (cond ((z2.1) != (3:Int)) (some (.normal,z1)) (cond z3 (cond (B5b x0 ((z2.2).1)) (cond z3 (cond (!((z5.2)==(!(((z2.2).2).toList==bE.toList)))) (some (.ret,z4)) (cond z3 (cond (!((z5.1).toList==((z2.2).2).toList)) (some (.ret,z4)) (some (.normal,z1))) none)) none) none) none)) none) (some ((.exit 0),(⟨(.junk::E9B),[],0,[]⟩:St))))
theorem E7o:RdA G59 aLn 0 D4q B1L 0 [] (kepts [4] [(0,[])]) (fun d=>E0x d.1.1 d.1.2.1 d.1.2.2.2.2.2.1):=by
 intro d
 kernel_rfl
theorem E7w:∀ d:B1L.den,(fun d=>E0x d.1.1 d.1.2.1 d.1.2.2.2.2.2.1) d=(D2O d).opt 0 []:=by
 intro d
 kernel_rfl
noncomputable abbrev D8y:St→Option Tree:=B1L.say 0 [] [] (fun d=>F07 d.1.1 d.1.2.1 d.1.2.2.2.2.2.1)
theorem E9S:aPL D8y D4q:=SS.wp2 hlz [] D2O E7o E7w _ (fun d=>Runs.ofI2 (step:=D2O) E0L E97 rfl (d.1.1,d.1.2.1,d.1.2.2.2.2.2.1))
noncomputable def C8y (a0:LBBe) (a1:Lq2):Bool:=let z1:=B87 a0 a1 (0:Int);(cond (z1.1==0) (z1.2) true)
noncomputable abbrev D7s (r:Bool):AV×List AObj:=((.t true .bool r),[])
noncomputable abbrev E2P:F5 D0J→AV×List AObj:=fun d=>D7s (C8y d.1 d.2.1)
noncomputable def B6x (a0:LBBe) (a1:Lq2):Bool:=let z1:=B87 a0 a1 (0:Int);cond (z1.1==0) true (z1.1==1)
noncomputable abbrev D6v:F5 D0J→Bool:=fun d=>B6x d.1 d.2.1
noncomputable abbrev F36:Nat→St→Option Tree:=fun b=>match b with | 0=>D8y | _=>fun _=>none
theorem F2b:A6Q true G59 (F36) Tryz.f151 D0J D6v E2P:=by
 rintro ⟨a0,⟨a1,_⟩⟩ hp
 change B6x a0 a1=true at hp
 unfold B6x at hp
 refine Eq.trans (b:=(let z1:=B87 a0 a1 (0:Int);cond (z1.1==0) (some (D7s (z1.2))) (cond (z1.1==1) (some (D7s true)) none))) (by kernel_rfl) ?_
 exact (H7 D7s hp (fun hp=>rfl) (fun hp=>(A6T hp fun _h=>rfl)))
theorem F4u:aPP 151 (A2z D0J D6v E2P):=pcD true G59 (hl1 (i:=0) (by kernel_rfl) E9S) F2b
noncomputable def S60:Tab:=Tab.add S59 151 (lift (A2z D0J D6v E2P))
noncomputable def F8G:FuncId→Bool:=qadd F8F 151
theorem G60:aPG S60 F8G:=G59.addQ F4u (cbl Tryz.f151) (fun _=>rfl)

abbrev B5E:List PSh:=[.t tq7]
noncomputable def D6I (a0:Lq2):Lq2:=(([]:Lq2)++a0)
noncomputable abbrev D7u (r:Lq2):AV×List AObj:=((.t true tq7 r),[])
noncomputable abbrev C7F:F5 B5E→AV×List AObj:=fun d=>D7u (D6I d.1)
noncomputable def B6y (a0:Lq2):Bool:=decide ((([]:Lq2).length+a0.length)*40≤MAXB)
noncomputable abbrev C27:F5 B5E→Bool:=fun d=>B6y d.1
theorem E32:A6Q true G60 aLn Tryz.f121 B5E C27 C7F:=by
 rintro ⟨a0,_⟩ hp
 change B6y a0=true at hp
 unfold B6y at hp
 refine Eq.trans (b:=(cond (decide ((([]:Lq2).length+a0.length)*40≤MAXB)) (some (D7u (([]:Lq2)++a0))) none)) (by kernel_rfl) ?_
 exact (A6T hp fun _h=>rfl)
theorem E6s:aPP 121 (A2z B5E C27 C7F):=pcD true G60 hlz E32
noncomputable def S61:Tab:=Tab.add S60 121 (lift (A2z B5E C27 C7F))
noncomputable def F8H:FuncId→Bool:=qadd F8G 121
theorem G61:aPG S61 F8H:=G60.addQ E6s (cbl Tryz.f121) (fun _=>rfl)

abbrev B5F:List PSh:=[.agg [(.int .i64),(.int .i64),tq7]]
noncomputable def B2u (a0 a1:Int) (a2:Lq2):Int×Int×Lq2:=(a0,a1,(D6I a2))
noncomputable abbrev D7x (r:Int×Int×Lq2):AV×List AObj:=((.agg [(ti r.1),(ti r.2.1),(.t true tq7 r.2.2)]),[])
noncomputable abbrev C7G:F5 B5F→AV×List AObj:=fun d=>D7x (B2u d.1.1 d.1.2.1 d.1.2.2.1)
noncomputable def A8G (a0 a1:Int) (a2:Lq2):Bool:=B6y a2
noncomputable abbrev C28:F5 B5F→Bool:=fun d=>A8G d.1.1 d.1.2.1 d.1.2.2.1
theorem E33:A6Q true G61 aLn Tryz.f152 B5F C28 C7G:=by
 rintro ⟨⟨a0,⟨a1,⟨a2,_⟩⟩⟩,_⟩ hp
 change A8G a0 a1 a2=true at hp
 unfold A8G at hp
 refine Eq.trans (b:=(cond (B6y a2) (some (D7x (a0,a1,(D6I a2)))) none)) (by kernel_rfl) ?_
 exact (A6T hp fun _h=>rfl)
theorem E6t:aPP 152 (A2z B5F C28 C7G):=pcD true G61 hlz E33
noncomputable def S62:Tab:=Tab.add S61 152 (lift (A2z B5F C28 C7G))
noncomputable def F8I:FuncId→Bool:=qadd F8H 152
theorem G62:aPG S62 F8I:=G61.addQ E6t (cbl Tryz.f152) (fun _=>rfl)

abbrev F7G:List Sh:=.junk::.junk::.junk::.junk::.junk::.junk::.junk::F3w
abbrev F7H:List Sh:=.junk::.junk::F7G
abbrev F7I:List Sh:=.junk::.junk::.junk::.junk::F7H
abbrev u63:=((),(),(),(),(),(),(),(),(),(),(),(),(),(),(),u48)
abbrev u54:=((),(),(),(),(),(),u48)
abbrev u60:=((),(),(),(),(),(),u54)
abbrev F5S:List AV:=.junk::.junk::.junk::.junk::.junk::.junk::.junk::.junk::.junk::E9B
abbrev G0g:List AV:=.junk::.junk::.junk::.junk::.junk::.junk::.junk::E9B
abbrev F7u:List AV:=.junk::.junk::.junk::.junk::F5S
abbrev G0t:List Sh:=.junk::.junk::.junk::.junk::.junk::.junk::F3w
abbrev u53:=((),(),(),(),(),u48)
abbrev G0f:List AV:=.junk::.junk::.junk::.junk::.junk::.junk::E9B
abbrev C5V:List PSh:=[.t Z3,.t .str,.t .str]
noncomputable def C2e:Code:=((C4 0 (A0y Tryz.f178)).getD 0 (0,.skip)).2
noncomputable def C2f:Code:=((C4 0 (A0y Tryz.f178)).getD 1 (0,.skip)).2
abbrev A8w:SS:=⟨(.t false Z3::.t true .str::.t true .str::.junk::.junk::.junk::.junk::.all 0 2::tI::F7G),[.rows 105 true L1]⟩
abbrev D4e:SS:=⟨(.junk::.junk::.junk::.junk::.junk::.junk::.all 0 2::F7H),[.rows 105 true L1]⟩
abbrev D4f:SS:=⟨(.t false Z3::.t true .str::.t true .str::F7I),[]⟩
noncomputable def D8N (x0:LBBe) (x1 x2:ByteArray) (x8:Int) (h0:LBBe):RT A8w.den:=let z1:=decide (0≤x8∧x8<(h0.length:Int));let z2:=h0.getD x8.toNat (bE,bE);(.br (decide (x8<(h0.length:Int))) (.br z1 (.br ((z2.1).toList==x1.toList) (.br z1 (.done .ret D4e ((u63),(h0.set x8.toNat (z2.1,x2),()))) .fail) (.next ((x0,x1,x2,(),(),(),(),(),wI (x8+(1:Int)),u54),(h0,())))) .fail) (.done (.exit 0) D4f ((x0,x1,x2,u60),())))
abbrev B4Q:=(LBBe)×(ByteArray)×(ByteArray)×(Int)×(LBBe)
abbrev B4N:=Nat×LBBe×LBBe×(ByteArray)×(ByteArray)
def C0V:B4N:=(99,([]:LBBe),([]:LBBe),(bE:ByteArray),(bE:ByteArray))
noncomputable def B6Q (x0:LBBe) (x1 x2:ByteArray) (x8:Int) (h0:LBBe):B4Q ⊕ B4N:=let z1:=decide (0≤x8∧x8<(h0.length:Int));let z2:=h0.getD x8.toNat (bE,bE);(cond (decide (x8<(h0.length:Int))) (cond z1 (cond ((z2.1).toList==x1.toList) (cond z1 (.inr (0,h0.set x8.toNat (z2.1,x2),([]:LBBe),(bE:ByteArray),(bE:ByteArray))) (.inr C0V)) (.inl (x0,x1,x2,wI (x8+(1:Int)),h0))) (.inr C0V)) (.inr (1,([]:LBBe),x0,x1,x2)))
noncomputable def B2J (x0:LBBe) (x1 x2:ByteArray) (x8:Int) (h0:LBBe):B4N:=itX (fun v:B4Q=>B6Q v.1 v.2.1 v.2.2.1 v.2.2.2.1 v.2.2.2.2) C0V (x0,x1,x2,x8,h0)
noncomputable def C7m (a:B4N):CT:=(.br (a.1==0) (.done .ret D4e ((u63),(a.2.1,()))) (.br (a.1==1) (.done (.exit 0) D4f ((a.2.2.1,a.2.2.2.1,a.2.2.2.2,u60),())) .fail))
noncomputable def E8J (x0:LBBe) (x1 x2:ByteArray) (x8:Int) (h0:LBBe):CT:=C7m (B2J x0 x1 x2 x8 h0)
noncomputable abbrev C0I {α:Sort _} (f:LBBe→ByteArray→ByteArray→Int→LBBe→α) (d:A8w.den):α:=f d.1.1 d.1.2.1 d.1.2.2.1 d.1.2.2.2.2.2.2.2.2.1 d.2.1
noncomputable abbrev C8J:A8w.den→RT A8w.den:=(C0I D8N)
noncomputable abbrev D78 (v:B4Q):A8w.den:=((v.1,v.2.1,v.2.2.1,(),(),(),(),(),v.2.2.2.1,u54),(v.2.2.2.2,()))
theorem E7I:(∀ v:B4Q,(D8N v.1 v.2.1 v.2.2.1 v.2.2.2.1 v.2.2.2.2).val=A5T D78 C7m (B6Q v.1 v.2.1 v.2.2.1 v.2.2.2.1 v.2.2.2.2))∧∀ a:B4N,CEnd A8w.den (C7m a):=⟨fun v=>(A6V (A6V (A6V (A6V rfl rfl) rfl) rfl) rfl),fun a=>(A6I aCD (A6I aCD A6K))⟩
noncomputable def D7T (x0:LBBe) (x1 x2:ByteArray) (x8:Int) (h0:LBBe):Option (Ex×St):=let z1:=decide (0≤x8∧x8<(h0.length:Int));let z2:=h0.getD x8.toNat (bE,bE);(cond (decide (x8<(h0.length:Int))) (cond z1 (cond ((z2.1).toList==x1.toList) (cond z1 (some (.ret,(⟨(.junk::.junk::.junk::.junk::.junk::.junk::(.all 0 2)::F5S),[(.rows 105 true L1 (h0.set x8.toNat (z2.1,x2)))],0,[]⟩:St))) none) (some (.normal,(⟨((.t false Z3 x0)::(.t true .str x1)::(.t true .str x2)::.junk::.junk::.junk::.junk::(.all 0 2)::(ti (wI (x8+(1:Int))))::G0g),[(.rows 105 true L1 h0)],0,[]⟩:St)))) none) (some ((.exit 0),(⟨((.t false Z3 x0)::(.t true .str x1)::(.t true .str x2)::F7u),[],0,[]⟩:St))))
theorem E48:RdA G62 aLn 0 C2e A8w 0 [] (kepts [6] [(0,[0,1,2])]) (C0I D7T):=by
 intro d
 kernel_rfl
theorem E5c:∀ d:A8w.den,(C0I D7T) d=(C8J d).opt 0 []:=by
 intro d
 kernel_rfl
noncomputable abbrev D45:St→Option Tree:=A8w.say 0 [] [] (C0I E8J)
theorem E7a:aPL D45 C2e:=SS.wp2 hlz [] C8J E48 E5c _ (fun d=>Runs.ofI2 (step:=C8J) D78 E7I rfl (d.1.1,d.1.2.1,d.1.2.2.1,d.1.2.2.2.2.2.2.2.2.1,d.2.1))
abbrev A8x:SS:=⟨(.t false Z3::.t true .str::.t true .str::.junk::.junk::.junk::.junk::.junk::.junk::tI::G0t),[]⟩
abbrev C4w:SS:=⟨(.t false Z3::.t true .str::.t true .str::.junk::.junk::.junk::.junk::.junk::.junk::tI::G0t),[]⟩
noncomputable def D8O (x0:LBBe) (x1 x2:ByteArray) (x9:Int):RT A8x.den:=let z1:=(x0.getD x9.toNat (bE,bE)).1;(.br (decide (x9<(x0.length:Int))) (.br (decide (0≤x9∧x9<(x0.length:Int))) (.br (Op.bytesLess z1.toList x1.toList||(z1.toList==x1.toList)) (.next ((x0,x1,x2,(),(),(),(),(),(),wI (x9+(1:Int)),u53),())) (.done (.exit 2) C4w ((x0,x1,x2,(),(),(),(),(),(),x9,u53),()))) .fail) (.done (.exit 2) C4w ((x0,x1,x2,(),(),(),(),(),(),x9,u53),())))
abbrev B4R:=(LBBe)×(ByteArray)×(ByteArray)×(Int)
abbrev B8A:=Nat×LBBe×(ByteArray)×(ByteArray)×(Int)
def C7x:B8A:=(99,([]:LBBe),(bE:ByteArray),(bE:ByteArray),((0:Int):Int))
noncomputable def B6R (x0:LBBe) (x1 x2:ByteArray) (x9:Int):B4R ⊕ B8A:=let z1:=(x0.getD x9.toNat (bE,bE)).1;(cond (decide (x9<(x0.length:Int))) (cond (decide (0≤x9∧x9<(x0.length:Int))) (cond (Op.bytesLess z1.toList x1.toList||(z1.toList==x1.toList)) (.inl (x0,x1,x2,wI (x9+(1:Int)))) (.inr (0,x0,x1,x2,x9))) (.inr C7x)) (.inr (0,x0,x1,x2,x9)))
noncomputable def C7L (x0:LBBe) (x1 x2:ByteArray) (x9:Int):B8A:=itX (fun v:B4R=>B6R v.1 v.2.1 v.2.2.1 v.2.2.2) C7x (x0,x1,x2,x9)
noncomputable def C7n (a:B8A):CT:=(.br (a.1==0) (.done (.exit 2) C4w ((a.2.1,a.2.2.1,a.2.2.2.1,(),(),(),(),(),(),a.2.2.2.2,u53),())) .fail)
noncomputable def E8K (x0:LBBe) (x1 x2:ByteArray) (x9:Int):CT:=C7n (C7L x0 x1 x2 x9)
noncomputable abbrev C0J {α:Sort _} (f:LBBe→ByteArray→ByteArray→Int→α) (d:A8x.den):α:=f d.1.1 d.1.2.1 d.1.2.2.1 d.1.2.2.2.2.2.2.2.2.2.1
noncomputable abbrev C8K:A8x.den→RT A8x.den:=(C0J D8O)
noncomputable abbrev D79 (v:B4R):A8x.den:=((v.1,v.2.1,v.2.2.1,(),(),(),(),(),(),v.2.2.2,u53),())
theorem E7J:(∀ v:B4R,(D8O v.1 v.2.1 v.2.2.1 v.2.2.2).val=A5T D79 C7n (B6R v.1 v.2.1 v.2.2.1 v.2.2.2))∧∀ a:B8A,CEnd A8x.den (C7n a):=⟨fun v=>(A6V (A6V (A6V rfl rfl) rfl) rfl),fun a=>(A6I aCD A6K)⟩
noncomputable def D7U (x0:LBBe) (x1 x2:ByteArray) (x9:Int):Option (Ex×St):=let z1:=(⟨((.t false Z3 x0)::(.t true .str x1)::(.t true .str x2)::.junk::.junk::.junk::.junk::.junk::.junk::(ti x9)::G0f),[],0,[]⟩:St);let z2:=(x0.getD x9.toNat (bE,bE)).1;(cond (decide (x9<(x0.length:Int))) (cond (decide (0≤x9∧x9<(x0.length:Int))) (cond (Op.bytesLess z2.toList x1.toList||(z2.toList==x1.toList)) (some (.normal,(⟨((.t false Z3 x0)::(.t true .str x1)::(.t true .str x2)::.junk::.junk::.junk::.junk::.junk::.junk::(ti (wI (x9+(1:Int))))::G0f),[],0,[]⟩:St))) (some ((.exit 2),z1))) none) (some ((.exit 2),z1)))
theorem E49:RdA G62 aLn 2 C2f A8x 0 [] (kepts [] [(2,[0,1,2,9])]) (C0J D7U):=by
 intro d
 kernel_rfl
theorem E5d:∀ d:A8x.den,(C0J D7U) d=(C8K d).opt 0 []:=by
 intro d
 kernel_rfl
noncomputable abbrev D46:St→Option Tree:=A8x.say 0 [] [] (C0J E8K)
theorem E7b:aPL D46 C2f:=SS.wp2 hlz [] C8K E49 E5d _ (fun d=>Runs.ofI2 (step:=C8K) D79 E7J rfl (d.1.1,d.1.2.1,d.1.2.2.1,d.1.2.2.2.2.2.2.2.2.2.1))
noncomputable def C7O (a0:LBBe) (a1 a2:ByteArray):=let z1:=B2J a0 a1 a2 (0:Int) (([]:LBBe)++a0);C7L (z1.2.2.1) (z1.2.2.2.1) (z1.2.2.2.2) (0:Int)
noncomputable def E10 (a0:LBBe) (a1 a2:ByteArray):LBBe:=let z1:=C7O a0 a1 a2;let z2:=B2J a0 a1 a2 (0:Int) (([]:LBBe)++a0);(cond (z2.1==0) (z2.2.1) (((([]:LBBe)++(((z1.2.1).take (z1.2.2.2.2).toNat).drop (0:Int).toNat))++[((z1.2.2.1),(z1.2.2.2.1))])++(((z1.2.1).take (((z1.2.1).length:Nat):Int).toNat).drop (z1.2.2.2.2).toNat)))
noncomputable abbrev D3o (r:LBBe):AV×List AObj:=((.all 0 2),[(.rows 105 true L1 r)])
noncomputable abbrev D9p:F5 C5V→AV×List AObj:=fun d=>D3o (E10 d.1 d.2.1 d.2.2.1)
noncomputable def B5c (a0:LBBe) (a1 a2:ByteArray):Bool:=let z1:=C7O a0 a1 a2;let z2:=((z1.2.1).take (z1.2.2.2.2).toNat).drop (0:Int).toNat;let z3:=B2J a0 a1 a2 (0:Int) (([]:LBBe)++a0);(decide ((([]:LBBe).length+a0.length)*32≤MAXB))&&(cond (z3.1==0) true ((z3.1==1)&&((z1.1==0)&&((decide (0≤(0:Int)∧(0:Int)≤(z1.2.2.2.2)∧(z1.2.2.2.2)≤(((z1.2.1).length:Nat):Int)))&&((decide ((([]:LBBe).length+z2.length)*32≤MAXB))&&((decide (((([]:LBBe)++z2).length+[((z1.2.2.1),(z1.2.2.2.1))].length)*32≤MAXB))&&((decide (0≤(z1.2.2.2.2)∧(z1.2.2.2.2)≤(((z1.2.1).length:Nat):Int)∧(((z1.2.1).length:Nat):Int)≤(((z1.2.1).length:Nat):Int)))&&(decide ((((([]:LBBe)++z2)++[((z1.2.2.1),(z1.2.2.2.1))]).length+(((z1.2.1).take (((z1.2.1).length:Nat):Int).toNat).drop (z1.2.2.2.2).toNat).length)*32≤MAXB)))))))))
noncomputable abbrev D13:F5 C5V→Bool:=fun d=>B5c d.1 d.2.1 d.2.2.1
noncomputable abbrev F2Q:Nat→St→Option Tree:=fun b=>match b with | 0=>D45 | 2=>D46 | _=>fun _=>none
theorem F0x:A6Q false G62 (F2Q) Tryz.f178 C5V D13 D9p:=by
 rintro ⟨a0,⟨a1,⟨a2,_⟩⟩⟩ hp
 change B5c a0 a1 a2=true at hp
 unfold B5c at hp
 refine Eq.trans (b:=(let z1:=C7O a0 a1 a2;let z2:=((z1.2.1).take (z1.2.2.2.2).toNat).drop (0:Int).toNat;let z3:=B2J a0 a1 a2 (0:Int) (([]:LBBe)++a0);let z4:=((z1.2.1).take (((z1.2.1).length:Nat):Int).toNat).drop (z1.2.2.2.2).toNat;cond (decide ((([]:LBBe).length+a0.length)*32≤MAXB)) (cond (z3.1==0) (some (D3o (z3.2.1))) (cond (z3.1==1) (cond (z1.1==0) (cond (decide (0≤(0:Int)∧(0:Int)≤(z1.2.2.2.2)∧(z1.2.2.2.2)≤(((z1.2.1).length:Nat):Int))) (cond (decide ((([]:LBBe).length+z2.length)*32≤MAXB)) (cond (decide (((([]:LBBe)++z2).length+[((z1.2.2.1),(z1.2.2.2.1))].length)*32≤MAXB)) (cond (decide (0≤(z1.2.2.2.2)∧(z1.2.2.2.2)≤(((z1.2.1).length:Nat):Int)∧(((z1.2.1).length:Nat):Int)≤(((z1.2.1).length:Nat):Int))) (cond (decide ((((([]:LBBe)++z2)++[((z1.2.2.1),(z1.2.2.2.1))]).length+z4.length)*32≤MAXB)) (some (D3o (((([]:LBBe)++z2)++[((z1.2.2.1),(z1.2.2.2.1))])++z4))) none) none) none) none) none) none) none)) none)) (by kernel_rfl) ?_
 exact (A6R hp fun hp=>(H7 D3o hp (fun hp=>rfl) (fun hp=>(A6R hp fun hp=>(A6R hp fun hp=>(A6R hp fun hp=>(A6R hp fun hp=>(A6R hp fun hp=>(A6R hp fun hp=>(A6T hp fun _h=>rfl))))))))))
theorem F3k:aPP 178 (A2z C5V D13 D9p):=pcD false G62 (by
  rw [show C4 0 (A0y Tryz.f178)=[(0,C2e),(2,C2f)] by kernel_rfl];intro p hp;simp only [List.mem_cons,List.mem_nil_iff,or_false] at hp
  rcases hp with rfl | rfl
  ·exact E7a
  ·exact E7b) F0x
noncomputable def S63:Tab:=Tab.add S62 178 (lift (A2z C5V D13 D9p))
noncomputable def F8J:FuncId→Bool:=F8I
theorem G63:aPG S63 F8J:=G62.add F3k (cbl Tryz.f178) (by kernel_rfl)

abbrev u30:=((),(),u28)
abbrev C5T:List PSh:=[.t Z3,.t .str]
abbrev B1J:SS:=⟨(.t false Z3::.t true .str::.junk::.junk::.junk::.all 0 2::tI::C94),[.rows 105 true L1]⟩
abbrev D4b:SS:=⟨(.junk::.junk::.junk::.junk::.junk::.all 0 2::F7z),[.rows 105 true L1]⟩
noncomputable def D8L (x0:LBBe) (x1:ByteArray) (x6:Int) (h0:LBBe):RT B1J.den:=let z1:=x0.getD x6.toNat (bE,bE);let z2:=decide (0≤x6∧x6<(x0.length:Int));(.br (decide (x6<(x0.length:Int))) (.br z2 (.br (!((z1.1).toList==x1.toList)) (.br z2 (.br (decide ((h0.length+([(z1.1,z1.2)]).length)*32≤MAXB)) (.next ((x0,x1,(),(),(),(),wI (x6+(1:Int)),u23),(h0++([(z1.1,z1.2)]),()))) .fail) .fail) (.next ((x0,x1,(),(),(),(),wI (x6+(1:Int)),u23),(h0,())))) .fail) (.done (.exit 0) D4b ((u30),(h0,()))))
abbrev B8Z:=(LBBe)×(ByteArray)×(Int)×(LBBe)
abbrev B8z:=Nat×(LBBe)
def C0T:B8z:=(99,([]:LBBe))
noncomputable def C08 (x0:LBBe) (x1:ByteArray) (x6:Int) (h0:LBBe):B8Z ⊕ B8z:=let z1:=x0.getD x6.toNat (bE,bE);let z2:=decide (0≤x6∧x6<(x0.length:Int));(cond (decide (x6<(x0.length:Int))) (cond z2 (cond (!((z1.1).toList==x1.toList)) (cond z2 (cond (decide ((h0.length+([(z1.1,z1.2)]).length)*32≤MAXB)) (.inl (x0,x1,wI (x6+(1:Int)),h0++([(z1.1,z1.2)]))) (.inr C0T)) (.inr C0T)) (.inl (x0,x1,wI (x6+(1:Int)),h0))) (.inr C0T)) (.inr (0,h0)))
noncomputable def B6i (x0:LBBe) (x1:ByteArray) (x6:Int) (h0:LBBe):B8z:=itX (fun v:B8Z=>C08 v.1 v.2.1 v.2.2.1 v.2.2.2) C0T (x0,x1,x6,h0)
noncomputable def C7k (a:B8z):CT:=(.br (a.1==0) (.done (.exit 0) D4b ((u30),(a.2,()))) .fail)
noncomputable def E8H (x0:LBBe) (x1:ByteArray) (x6:Int) (h0:LBBe):CT:=C7k (B6i x0 x1 x6 h0)
noncomputable abbrev C8H:B1J.den→RT B1J.den:=(fun d=>D8L d.1.1 d.1.2.1 d.1.2.2.2.2.2.2.1 d.2.1)
noncomputable def D02:Code:=((C4 0 (A0y Tryz.f179)).getD 0 (0,.skip)).2
noncomputable abbrev D76 (v:B8Z):B1J.den:=((v.1,v.2.1,(),(),(),(),v.2.2.1,u23),(v.2.2.2,()))
theorem E7G:(∀ v:B8Z,(D8L v.1 v.2.1 v.2.2.1 v.2.2.2).val=A5T D76 C7k (C08 v.1 v.2.1 v.2.2.1 v.2.2.2))∧∀ a:B8z,CEnd B1J.den (C7k a):=⟨fun v=>(A6V (A6V (A6V (A6V (A6V rfl rfl) rfl) rfl) rfl) rfl),fun a=>(A6I aCD A6K)⟩
theorem E46:RdA G63 aLn 0 D02 B1J 0 [] (kepts [] [(0,[5])]) (fun d=>(C8H d).opt 0 []):=by
 intro d
 kernel_rfl
noncomputable abbrev D43:St→Option Tree:=B1J.say 0 [] [] (fun d=>E8H d.1.1 d.1.2.1 d.1.2.2.2.2.2.2.1 d.2.1)
theorem E68:aPL D43 D02:=SS.wp2 hlz [] C8H E46 (fun d=>rfl) _ (fun d=>Runs.ofI2 (step:=C8H) D76 E7G rfl (d.1.1,d.1.2.1,d.1.2.2.2.2.2.2.1,d.2.1))
noncomputable def E1Z (a0:LBBe) (a1:ByteArray):LBBe:=((B6i a0 a1 (0:Int) ([]:LBBe)).2)
noncomputable abbrev E5P (r:LBBe):AV×List AObj:=((.all 0 2),[(.rows 105 true L1 r)])
noncomputable abbrev D9n:F5 C5T→AV×List AObj:=fun d=>E5P (E1Z d.1 d.2.1)
noncomputable def B5a (a0:LBBe) (a1:ByteArray):Bool:=((B6i a0 a1 (0:Int) ([]:LBBe)).1==0)
noncomputable abbrev D11:F5 C5T→Bool:=fun d=>B5a d.1 d.2.1
noncomputable abbrev F2O:Nat→St→Option Tree:=fun b=>match b with | 0=>D43 | _=>fun _=>none
theorem F0v:A6Q false G63 (F2O) Tryz.f179 C5T D11 D9n:=by
 rintro ⟨a0,⟨a1,_⟩⟩ hp
 change B5a a0 a1=true at hp
 unfold B5a at hp
 refine Eq.trans (b:=(let z1:=B6i a0 a1 (0:Int) ([]:LBBe);cond (z1.1==0) (some (E5P (z1.2))) none)) (by kernel_rfl) ?_
 exact (A6T hp fun _h=>rfl)
theorem F3i:aPP 179 (A2z C5T D11 D9n):=pcD false G63 (hl1 (i:=0) (by kernel_rfl) E68) F0v
noncomputable def S64:Tab:=Tab.add S63 179 (lift (A2z C5T D11 D9n))
noncomputable def F8K:FuncId→Bool:=F8J
theorem G64:aPG S64 F8K:=G63.add F3i (cbl Tryz.f179) (by kernel_rfl)

abbrev D0H:List PSh:=[.t Z3,.t tq7]
abbrev B1I:SS:=⟨(.junk::.t false tq7::.junk::.junk::.junk::.all 0 2::tI::F7F),[.rows 105 true L1]⟩
abbrev D6T:SS:=⟨(.junk::.junk::.junk::.junk::.junk::.all 0 2::E2Y),[.rows 105 true L1]⟩
noncomputable def D3s (x1:Lq2) (x6:Int) (h0:LBBe):=let z1:=(x1.getD x6.toNat ((0:Int),(bE,bE))).2;E10 h0 (z1.1) (z1.2)
noncomputable def D3v (x1:Lq2) (x6:Int) (h0:LBBe):=E1Z h0 (((x1.getD x6.toNat ((0:Int),(bE,bE))).2).1)
noncomputable def E0W (x1:Lq2) (x6:Int) (h0:LBBe):RT B1I.den:=let z1:=x1.getD x6.toNat ((0:Int),(bE,bE));let z2:=decide (0≤x6∧x6<(x1.length:Int));(.br (decide (x6<(x1.length:Int))) (.br z2 (.br ((z1.1)==(1:Int)) (.br z2 (.br z2 (.br (B5c h0 ((z1.2).1) ((z1.2).2)) (.next (((),x1,(),(),(),(),wI (x6+(1:Int)),u39),((D3s x1 x6 h0),()))) .fail) .fail) .fail) (.br ((z1.1)==(2:Int)) (.br z2 (.br (B5a h0 ((z1.2).1)) (.next (((),x1,(),(),(),(),wI (x6+(1:Int)),u39),((D3v x1 x6 h0),()))) .fail) .fail) (.next (((),x1,(),(),(),(),wI (x6+(1:Int)),u39),(h0,()))))) .fail) (.done (.exit 0) D6T ((u46),(h0,()))))
abbrev B7i:=(Lq2)×(Int)×(LBBe)
abbrev B69:=Nat×(LBBe)
def A9C:B69:=(99,([]:LBBe))
noncomputable def B9v (x1:Lq2) (x6:Int) (h0:LBBe):B7i ⊕ B69:=let z1:=x1.getD x6.toNat ((0:Int),(bE,bE));let z2:=decide (0≤x6∧x6<(x1.length:Int));(cond (decide (x6<(x1.length:Int))) (cond z2 (cond ((z1.1)==(1:Int)) (cond z2 (cond z2 (cond (B5c h0 ((z1.2).1) ((z1.2).2)) (.inl (x1,wI (x6+(1:Int)),(D3s x1 x6 h0))) (.inr A9C)) (.inr A9C)) (.inr A9C)) (cond ((z1.1)==(2:Int)) (cond z2 (cond (B5a h0 ((z1.2).1)) (.inl (x1,wI (x6+(1:Int)),(D3v x1 x6 h0))) (.inr A9C)) (.inr A9C)) (.inl (x1,wI (x6+(1:Int)),h0)))) (.inr A9C)) (.inr (0,h0)))
noncomputable def B86 (x1:Lq2) (x6:Int) (h0:LBBe):B69:=itX (fun v:B7i=>B9v v.1 v.2.1 v.2.2) A9C (x1,x6,h0)
noncomputable def D1b (a:B69):CT:=(.br (a.1==0) (.done (.exit 0) D6T ((u46),(a.2,()))) .fail)
noncomputable def F06 (x1:Lq2) (x6:Int) (h0:LBBe):CT:=D1b (B86 x1 x6 h0)
noncomputable abbrev D2N:B1I.den→RT B1I.den:=(fun d=>E0W d.1.2.1 d.1.2.2.2.2.2.2.1 d.2.1)
noncomputable def D4o:Code:=((C4 0 (A0y Tryz.f153)).getD 0 (0,.skip)).2
noncomputable abbrev E0K (v:B7i):B1I.den:=(((),v.1,(),(),(),(),v.2.1,u39),(v.2.2,()))
theorem E96:(∀ v:B7i,(E0W v.1 v.2.1 v.2.2).val=A5T E0K D1b (B9v v.1 v.2.1 v.2.2))∧∀ a:B69,CEnd B1I.den (D1b a):=⟨fun v=>by repeat' first | apply A6V | rfl,fun a=>(A6I aCD A6K)⟩
noncomputable def E0w (x1:Lq2) (x6:Int) (h0:LBBe):Option (Ex×St):=let z1:=x1.getD x6.toNat ((0:Int),(bE,bE));let z2:=decide (0≤x6∧x6<(x1.length:Int));let z3:=ti (wI (x6+(1:Int)));(cond (decide (x6<(x1.length:Int))) (cond z2 (cond ((z1.1)==(1:Int)) (cond z2 (cond z2 (cond (B5c h0 ((z1.2).1) ((z1.2).2)) (some (.normal,(⟨(.junk::(.t false tq7 x1)::.junk::.junk::.junk::(.all 0 2)::z3::F4I),[(.rows 105 true L1 (D3s x1 x6 h0))],0,[]⟩:St))) none) none) none) (cond ((z1.1)==(2:Int)) (cond z2 (cond (B5a h0 ((z1.2).1)) (some (.normal,(⟨(.junk::(.t false tq7 x1)::.junk::.junk::.junk::(.all 0 2)::z3::F4I),[(.rows 105 true L1 (D3v x1 x6 h0))],0,[]⟩:St))) none) none) (some (.normal,(⟨(.junk::(.t false tq7 x1)::.junk::.junk::.junk::(.all 0 2)::z3::F4I),[(.rows 105 true L1 h0)],0,[]⟩:St))))) none) (some ((.exit 0),(⟨(.junk::.junk::.junk::.junk::.junk::(.all 0 2)::D9u),[(.rows 105 true L1 h0)],0,[]⟩:St))))
theorem E7m:RdA G64 aLn 0 D4o B1I 0 [] (kepts [] [(0,[5])]) (fun d=>E0w d.1.2.1 d.1.2.2.2.2.2.2.1 d.2.1):=by
 intro d
 kernel_rfl
theorem E7v:∀ d:B1I.den,(fun d=>E0w d.1.2.1 d.1.2.2.2.2.2.2.1 d.2.1) d=(D2N d).opt 0 []:=by
 intro d
 kernel_rfl
noncomputable abbrev D8w:St→Option Tree:=B1I.say 0 [] [] (fun d=>F06 d.1.2.1 d.1.2.2.2.2.2.2.1 d.2.1)
theorem E9Q:aPL D8w D4o:=SS.wp2 hlz [] D2N E7m E7v _ (fun d=>Runs.ofI2 (step:=D2N) E0K E96 rfl (d.1.2.1,d.1.2.2.2.2.2.2.1,d.2.1))
noncomputable def C8x (a0:LBBe) (a1:Lq2):LBBe:=((B86 a1 (0:Int) (([]:LBBe)++a0)).2)
noncomputable abbrev E9m (r:LBBe):AV×List AObj:=((.all 0 2),[(.rows 105 true L1 r)])
noncomputable abbrev E2N:F5 D0H→AV×List AObj:=fun d=>E9m (C8x d.1 d.2.1)
noncomputable def B6w (a0:LBBe) (a1:Lq2):Bool:=(decide ((([]:LBBe).length+a0.length)*32≤MAXB))&&((B86 a1 (0:Int) (([]:LBBe)++a0)).1==0)
noncomputable abbrev D6t:F5 D0H→Bool:=fun d=>B6w d.1 d.2.1
noncomputable abbrev F34:Nat→St→Option Tree:=fun b=>match b with | 0=>D8w | _=>fun _=>none
theorem F19:A6Q false G64 (F34) Tryz.f153 D0H D6t E2N:=by
 rintro ⟨a0,⟨a1,_⟩⟩ hp
 change B6w a0 a1=true at hp
 unfold B6w at hp
 refine Eq.trans (b:=(let z1:=B86 a1 (0:Int) (([]:LBBe)++a0);cond (decide ((([]:LBBe).length+a0.length)*32≤MAXB)) (cond (z1.1==0) (some (E9m (z1.2))) none) none)) (by kernel_rfl) ?_
 exact (A6R hp fun hp=>(A6T hp fun _h=>rfl))
theorem F4s:aPP 153 (A2z D0H D6t E2N):=pcD false G64 (hl1 (i:=0) (by kernel_rfl) E9Q) F19
noncomputable def S65:Tab:=Tab.add S64 153 (lift (A2z D0H D6t E2N))
noncomputable def F8L:FuncId→Bool:=F8K
theorem G65:aPG S65 F8L:=G64.add F4s (cbl Tryz.f153) (by kernel_rfl)

abbrev D3e:SS:=⟨[.ptr 0 0 1 0,.agg [.t true (.int .i64),.t true (.int .i64),.t false tq7]],[.box [.all 1 2,.all 2 3,.nil],.rows 105 true L1,.rows 108 true B4I]⟩
noncomputable def F7N (x1_0 x1_1:Int) (x1_2:Lq2) (h1:LBBe) (h2:Lq1):Bool×LBBe×Lq1×List Int:=let z3:=C9T h2 x1_1;let z2:=C8x h1 (((h2.getD (z3.toNat) ((0:Int),((0:Int),[]))).2).2);let z4:=([]:List Int);let z5:=B2u x1_0 x1_1 x1_2;let z6:=([]:Lq1)++(h2.take (z3.toNat));let z7:=wI (z3+(1:Int));let z1:=(h2.drop (z7.toNat)).take ((h2.length:Int).toNat - z7.toNat);(cond (!(B6A x1_0 x1_1 x1_2)) (false,h1,h2,z4) (cond (x1_0==(1:Int)) (cond (A8j [] x1_1) (false,h1,h2,z4) (cond (B2X h2 x1_2) (false,h1,h2,z4) (cond (!(C8y h1 x1_2)) (false,h1,h2,z4) (true,h1,h2++[((z5.1),((z5.2.1),(z5.2.2)))],[x1_1])))) (cond (decide (z3<(0:Int))) (cond (x1_0==(3:Int)) (!(A8j [] x1_1),h1,h2,[x1_1]) (false,h1,h2,[x1_1])) (cond (x1_0==(2:Int)) (decide (((z2.length:Nat):Int)≤(60:Int)),z2,z6++z1,z4) (decide ((h1.length:Int)≤(60:Int)),h1,z6++z1,z4)))))
noncomputable abbrev A74 (r:Bool×LBBe×Lq1×List Int):AV×List AObj×List Nat:=((.t true .bool r.1),[(.box [(.all 1 2),(.all 2 3),(.all 3 1)]),(.rows 105 true L1 r.2.1),(.rows 108 true B4I r.2.2.1),(.rows 3 true (.int .i64) r.2.2.2)],[1,2])
noncomputable abbrev E9r:D3e.den→AV×List AObj×List Nat:=fun d=>A74 (F7N d.1.2.1.1 d.1.2.1.2.1 d.1.2.1.2.2.1 d.2.2.1 d.2.2.2.1)
noncomputable def E3n (x1_0 x1_1:Int) (x1_2:Lq2) (h1:LBBe) (h2:Lq1):Bool:=let z2:=C9T h2 x1_1;let z3:=wI (z2+(1:Int));let z4:=decide ([x1_1].length*8≤MAXB);let z5:=B2u x1_0 x1_1 x1_2;let z6:=h2.take (z2.toNat);let z1:=(decide (0≤(0:Int)∧(0:Int)≤z2∧z2≤(h2.length:Int)))&&((decide (0≤z3∧z3≤(h2.length:Int)∧(h2.length:Int)≤(h2.length:Int)))&&((decide ((([]:Lq1).length+z6.length)*40≤MAXB))&&(decide (((([]:Lq1)++z6).length+((h2.drop (z3.toNat)).take ((h2.length:Int).toNat - z3.toNat)).length)*40≤MAXB))));(C0Z h2 x1_1)&&((B9e x1_0 x1_1 x1_2)&&(cond (!(B6A x1_0 x1_1 x1_2)) true (cond (x1_0==(1:Int)) ((V3 [] x1_1)&&(cond (A8j [] x1_1) true ((A8H h2 x1_2)&&(cond (B2X h2 x1_2) true ((B6x h1 x1_2)&&(cond (!(C8y h1 x1_2)) true ((A8G x1_0 x1_1 x1_2)&&((decide ((h2.length+[((z5.1),((z5.2.1),(z5.2.2)))].length)*40≤MAXB))&&z4)))))))) (cond (decide (z2<(0:Int))) (cond (x1_0==(3:Int)) ((V3 [] x1_1)&&z4) z4) (cond (x1_0==(2:Int)) ((decide (0≤z2∧z2<(h2.length:Int)))&&((B6w h1 (((h2.getD (z2.toNat) ((0:Int),((0:Int),[]))).2).2))&&z1)) z1)))))
noncomputable abbrev E3i:D3e.den→Bool:=fun d=>E3n d.1.2.1.1 d.1.2.1.2.1 d.1.2.1.2.2.1 d.2.2.1 d.2.2.2.1
theorem F2g:A6O false [] [1,2] [(0,0,1,105,L1),(0,1,2,108,B4I),(0,2,99999,3,(.int .i64))] G65 aLn Tryz.f109 D3e E3i E9r:=by
 rintro ⟨⟨_,⟨x1_0,x1_1,x1_2,_⟩,_⟩,⟨⟨_,_,_,_⟩,h1,h2,_⟩⟩ hp
 change E3n x1_0 x1_1 x1_2 h1 h2=true at hp
 unfold E3n at hp
 refine Eq.trans (b:=(let z2:=C9T h2 x1_1;let z1:=wI (z2+(1:Int));let z3:=(h2.drop (z1.toNat)).take ((h2.length:Int).toNat - z1.toNat);let z4:=B2u x1_0 x1_1 x1_2;let z6:=((h2.getD (z2.toNat) ((0:Int),((0:Int),[]))).2).2;let z8:=decide (0≤z1∧z1≤(h2.length:Int)∧(h2.length:Int)≤(h2.length:Int));let z10:=decide ([x1_1].length*8≤MAXB);let z11:=decide (0≤(0:Int)∧(0:Int)≤z2∧z2≤(h2.length:Int));let z13:=([]:List Int);let z5:=A74 (false,h1,h2,z13);let z14:=h2.take (z2.toNat);let z7:=([]:Lq1)++z14;let z9:=decide ((([]:Lq1).length+z14.length)*40≤MAXB);let z12:=decide ((z7.length+z3.length)*40≤MAXB);cond (C0Z h2 x1_1) (cond (B9e x1_0 x1_1 x1_2) (cond (!(B6A x1_0 x1_1 x1_2)) (some z5) (cond (x1_0==(1:Int)) (cond (V3 [] x1_1) (cond (A8j [] x1_1) (some z5) (cond (A8H h2 x1_2) (cond (B2X h2 x1_2) (some z5) (cond (B6x h1 x1_2) (cond (!(C8y h1 x1_2)) (some z5) (cond (A8G x1_0 x1_1 x1_2) (cond (decide ((h2.length+[((z4.1),((z4.2.1),(z4.2.2)))].length)*40≤MAXB)) (cond z10 (some (A74 (true,h1,h2++[((z4.1),((z4.2.1),(z4.2.2)))],[x1_1]))) none) none) none)) none)) none)) none) (cond (decide (z2<(0:Int))) (cond (x1_0==(3:Int)) (cond (V3 [] x1_1) (cond z10 (some (A74 (!(A8j [] x1_1),h1,h2,[x1_1]))) none) none) (cond z10 (some (A74 (false,h1,h2,[x1_1]))) none)) (cond (x1_0==(2:Int)) (cond (decide (0≤z2∧z2<(h2.length:Int))) (cond (B6w h1 z6) (cond z11 (cond z8 (cond z9 (cond z12 (some (A74 (decide ((((C8x h1 z6).length:Nat):Int)≤(60:Int)),(C8x h1 z6),z7++z3,z13))) none) none) none) none) none) none) (cond z11 (cond z8 (cond z9 (cond z12 (some (A74 (decide ((h1.length:Int)≤(60:Int)),h1,z7++z3,z13))) none) none) none) none))))) none) none)) (by kernel_rfl) ?_
 exact (A6R hp fun hp=>(A6R hp fun hp=>(H7 A74 hp (fun hp=>rfl) (fun hp=>(H7 A74 hp (fun hp=>(A6R hp fun hp=>(H7 A74 hp (fun hp=>rfl) (fun hp=>(A6R hp fun hp=>(H7 A74 hp (fun hp=>rfl) (fun hp=>(A6R hp fun hp=>(H7 A74 hp (fun hp=>rfl) (fun hp=>(A6R hp fun hp=>(A6R hp fun hp=>(A6T hp fun _h=>rfl))))))))))))) (fun hp=>(H7 A74 hp (fun hp=>(H7 A74 hp (fun hp=>(A6R hp fun hp=>(A6T hp fun _h=>rfl))) (fun hp=>(A6T hp fun _h=>rfl)))) (fun hp=>(H7 A74 hp (fun hp=>(A6R hp fun hp=>(A6R hp fun hp=>(A6R hp fun hp=>(A6R hp fun hp=>(A6R hp fun hp=>(A6T hp fun _h=>rfl))))))) (fun hp=>(A6R hp fun hp=>(A6R hp fun hp=>(A6R hp fun hp=>(A6T hp fun _h=>rfl))))))))))))))
noncomputable abbrev E3f:=win E7 (msum D3e E3i E9r)
theorem E88:aPM 109 E3f:=(mcE false [] [1,2] [(0,0,1,105,L1),(0,1,2,108,B4I),(0,2,99999,3,(.int .i64))]  G65 hlz F2g).win E7
noncomputable def S66:Tab:=Tab.add S65 109 (E3f)
noncomputable def F8M:FuncId→Bool:=F8L
theorem G66:aPG S66 F8M:=G65.addM E88 (A6r _) (cbl Tryz.f109) (by kernel_rfl)

abbrev C0x:SS:=⟨[.ptr 0 0 1 0,.agg [.t true (.int .i64),.t true (.int .i64),.t false tq7]],[.box [.all 1 2,.all 2 3,.all 3 1],.rows 105 true L1,.rows 108 true B4I,.rows 3 true (.int .i64)]⟩
noncomputable def C6Z (x1_0 x1_1:Int) (x1_2:Lq2) (h1:LBBe) (h2:Lq1) (h3:List Int):Bool×LBBe×Lq1×List Int:=let z3:=C9T h2 x1_1;let z2:=C8x h1 (((h2.getD (z3.toNat) ((0:Int),((0:Int),[]))).2).2);let z4:=B2u x1_0 x1_1 x1_2;let z5:=([]:Lq1)++(h2.take (z3.toNat));let z6:=wI (z3+(1:Int));let z1:=(h2.drop (z6.toNat)).take ((h2.length:Int).toNat - z6.toNat);(cond (!(B6A x1_0 x1_1 x1_2)) (false,h1,h2,h3) (cond (x1_0==(1:Int)) (cond (A8j h3 x1_1) (false,h1,h2,h3) (cond (B2X h2 x1_2) (false,h1,h2,h3) (cond (!(C8y h1 x1_2)) (false,h1,h2,h3) (true,h1,h2++[((z4.1),((z4.2.1),(z4.2.2)))],h3++[x1_1])))) (cond (decide (z3<(0:Int))) (cond (x1_0==(3:Int)) (!(A8j h3 x1_1),h1,h2,h3++[x1_1]) (false,h1,h2,h3++[x1_1])) (cond (x1_0==(2:Int)) (decide (((z2.length:Nat):Int)≤(60:Int)),z2,z5++z1,h3) (decide ((h1.length:Int)≤(60:Int)),h1,z5++z1,h3)))))
noncomputable abbrev Q4 (r:Bool×LBBe×Lq1×List Int):AV×List AObj×List Nat:=((.t true .bool r.1),[(.box [(.all 1 2),(.all 2 3),(.all 3 1)]),(.rows 105 true L1 r.2.1),(.rows 108 true B4I r.2.2.1),(.rows 3 true (.int .i64) r.2.2.2)],[1,2,3])
noncomputable abbrev E0j:C0x.den→AV×List AObj×List Nat:=fun d=>Q4 (C6Z d.1.2.1.1 d.1.2.1.2.1 d.1.2.1.2.2.1 d.2.2.1 d.2.2.2.1 d.2.2.2.2.1)
noncomputable def A9I (x1_0 x1_1:Int) (x1_2:Lq2) (h1:LBBe) (h2:Lq1) (h3:List Int):Bool:=let z2:=C9T h2 x1_1;let z3:=wI (z2+(1:Int));let z4:=decide ((h3.length+[x1_1].length)*8≤MAXB);let z5:=B2u x1_0 x1_1 x1_2;let z6:=h2.take (z2.toNat);let z1:=(decide (0≤(0:Int)∧(0:Int)≤z2∧z2≤(h2.length:Int)))&&((decide (0≤z3∧z3≤(h2.length:Int)∧(h2.length:Int)≤(h2.length:Int)))&&((decide ((([]:Lq1).length+z6.length)*40≤MAXB))&&(decide (((([]:Lq1)++z6).length+((h2.drop (z3.toNat)).take ((h2.length:Int).toNat - z3.toNat)).length)*40≤MAXB))));(C0Z h2 x1_1)&&((B9e x1_0 x1_1 x1_2)&&(cond (!(B6A x1_0 x1_1 x1_2)) true (cond (x1_0==(1:Int)) ((V3 h3 x1_1)&&(cond (A8j h3 x1_1) true ((A8H h2 x1_2)&&(cond (B2X h2 x1_2) true ((B6x h1 x1_2)&&(cond (!(C8y h1 x1_2)) true ((A8G x1_0 x1_1 x1_2)&&((decide ((h2.length+[((z5.1),((z5.2.1),(z5.2.2)))].length)*40≤MAXB))&&z4)))))))) (cond (decide (z2<(0:Int))) (cond (x1_0==(3:Int)) ((V3 h3 x1_1)&&z4) z4) (cond (x1_0==(2:Int)) ((decide (0≤z2∧z2<(h2.length:Int)))&&((B6w h1 (((h2.getD (z2.toNat) ((0:Int),((0:Int),[]))).2).2))&&z1)) z1)))))
noncomputable abbrev D4J:C0x.den→Bool:=fun d=>A9I d.1.2.1.1 d.1.2.1.2.1 d.1.2.1.2.2.1 d.2.2.1 d.2.2.2.1 d.2.2.2.2.1
theorem E5E:A6O false [] [1,2,3] [(0,0,1,105,L1),(0,1,2,108,B4I)] G66 aLn Tryz.f109 C0x D4J E0j:=by
 rintro ⟨⟨_,⟨x1_0,x1_1,x1_2,_⟩,_⟩,⟨⟨_,_,_,_⟩,h1,h2,h3,_⟩⟩ hp
 change A9I x1_0 x1_1 x1_2 h1 h2 h3=true at hp
 unfold A9I at hp
 refine Eq.trans (b:=(let z2:=C9T h2 x1_1;let z1:=wI (z2+(1:Int));let z3:=(h2.drop (z1.toNat)).take ((h2.length:Int).toNat - z1.toNat);let z4:=B2u x1_0 x1_1 x1_2;let z5:=((h2.getD (z2.toNat) ((0:Int),((0:Int),[]))).2).2;let z7:=Q4 (false,h1,h2,h3);let z8:=decide ((h3.length+[x1_1].length)*8≤MAXB);let z9:=decide (0≤z1∧z1≤(h2.length:Int)∧(h2.length:Int)≤(h2.length:Int));let z11:=decide (0≤(0:Int)∧(0:Int)≤z2∧z2≤(h2.length:Int));let z13:=h2.take (z2.toNat);let z6:=([]:Lq1)++z13;let z10:=decide ((([]:Lq1).length+z13.length)*40≤MAXB);let z12:=decide ((z6.length+z3.length)*40≤MAXB);cond (C0Z h2 x1_1) (cond (B9e x1_0 x1_1 x1_2) (cond (!(B6A x1_0 x1_1 x1_2)) (some z7) (cond (x1_0==(1:Int)) (cond (V3 h3 x1_1) (cond (A8j h3 x1_1) (some z7) (cond (A8H h2 x1_2) (cond (B2X h2 x1_2) (some z7) (cond (B6x h1 x1_2) (cond (!(C8y h1 x1_2)) (some z7) (cond (A8G x1_0 x1_1 x1_2) (cond (decide ((h2.length+[((z4.1),((z4.2.1),(z4.2.2)))].length)*40≤MAXB)) (cond z8 (some (Q4 (true,h1,h2++[((z4.1),((z4.2.1),(z4.2.2)))],h3++[x1_1]))) none) none) none)) none)) none)) none) (cond (decide (z2<(0:Int))) (cond (x1_0==(3:Int)) (cond (V3 h3 x1_1) (cond z8 (some (Q4 (!(A8j h3 x1_1),h1,h2,h3++[x1_1]))) none) none) (cond z8 (some (Q4 (false,h1,h2,h3++[x1_1]))) none)) (cond (x1_0==(2:Int)) (cond (decide (0≤z2∧z2<(h2.length:Int))) (cond (B6w h1 z5) (cond z11 (cond z9 (cond z10 (cond z12 (some (Q4 (decide ((((C8x h1 z5).length:Nat):Int)≤(60:Int)),(C8x h1 z5),z6++z3,h3))) none) none) none) none) none) none) (cond z11 (cond z9 (cond z10 (cond z12 (some (Q4 (decide ((h1.length:Int)≤(60:Int)),h1,z6++z3,h3))) none) none) none) none))))) none) none)) (by kernel_rfl) ?_
 exact (A6R hp fun hp=>(A6R hp fun hp=>(H7 Q4 hp (fun hp=>rfl) (fun hp=>(H7 Q4 hp (fun hp=>(A6R hp fun hp=>(H7 Q4 hp (fun hp=>rfl) (fun hp=>(A6R hp fun hp=>(H7 Q4 hp (fun hp=>rfl) (fun hp=>(A6R hp fun hp=>(H7 Q4 hp (fun hp=>rfl) (fun hp=>(A6R hp fun hp=>(A6R hp fun hp=>(A6T hp fun _h=>rfl))))))))))))) (fun hp=>(H7 Q4 hp (fun hp=>(H7 Q4 hp (fun hp=>(A6R hp fun hp=>(A6T hp fun _h=>rfl))) (fun hp=>(A6T hp fun _h=>rfl)))) (fun hp=>(H7 Q4 hp (fun hp=>(A6R hp fun hp=>(A6R hp fun hp=>(A6R hp fun hp=>(A6R hp fun hp=>(A6R hp fun hp=>(A6T hp fun _h=>rfl))))))) (fun hp=>(A6R hp fun hp=>(A6R hp fun hp=>(A6R hp fun hp=>(A6T hp fun _h=>rfl))))))))))))))
noncomputable abbrev E0s:=win E7 (msum C0x D4J E0j)
theorem E89:aPM 109 E0s:=(mcE false [] [1,2,3] [(0,0,1,105,L1),(0,1,2,108,B4I)]  G66 hlz E5E).win E7
noncomputable def S67:Tab:=Tab.add S66 109 (A1N (E3f) (E0s))
noncomputable def F8N:FuncId→Bool:=F8M
theorem G67:aPG S67 F8N:=G66.addM (MContract.orElse E88 E89) (A6e (A6r _) (A6r _)) (cbl Tryz.f109) (by kernel_rfl)

abbrev G1m:List Sh:=.junk::.junk::F4O
abbrev F7A:List Sh:=.junk::F4O
abbrev G09:List AV:=.junk::.junk::F4G
abbrev G0c:List AV:=.junk::F4G
abbrev B3z:List PSh:=[.t tq8]
abbrev T8:SS:=⟨(.t false tq8::.junk::.junk::.junk::.junk::.ptr 0 0 1 0::tI::F4O),[.box [.all 1 2,.all 2 3,.all 3 1],.rows 105 true L1,.rows 108 true B4I,.rows 3 true (.int .i64)]⟩
abbrev C3F:SS:=⟨(.junk::.junk::.all 0 2::.all 1 3::.t true .bool::G1m),[.rows 105 true L1,.rows 108 true B4I]⟩
abbrev C3G:SS:=⟨(.junk::.junk::.junk::.junk::.junk::.ptr 0 0 1 0::F7A),[.box [.all 1 2,.all 2 3,.all 3 1],.rows 105 true L1,.rows 108 true B4I,.rows 3 true (.int .i64)]⟩
noncomputable def B6m (x0:Lq1) (x6:Int) (h1:LBBe) (h2:Lq1) (h3:List Int):=let z1:=x0.getD x6.toNat ((0:Int),((0:Int),[]));C6Z (z1.1) ((z1.2).1) ((z1.2).2) h1 h2 h3
noncomputable def C61 (x0:Lq1) (x6:Int) (h1:LBBe) (h2:Lq1) (h3:List Int):RT T8.den:=let z1:=B6m x0 x6 h1 h2 h3;let z2:=x0.getD x6.toNat ((0:Int),((0:Int),[]));(.br (decide (x6<(x0.length:Int))) (.br (decide (0≤x6∧x6<(x0.length:Int))) (.br (A9I (z2.1) ((z2.2).1) ((z2.2).2) h1 h2 h3) (.br (!(z1.1)) (.done .ret C3F (((),(),(),(),false,u30),(([]:LBBe),([]:Lq1),()))) (.next ((x0,(),(),(),(),(),wI (x6+(1:Int)),u28),(((),(),(),()),(z1.2.1),(z1.2.2.1),(z1.2.2.2),())))) .fail) .fail) (.done (.exit 0) C3G ((u35),(((),(),(),()),h1,h2,h3,()))))
abbrev B0g:=(Lq1)×(Int)×LBBe×Lq1×(List Int)
abbrev A8l:=Nat×(Bool)×LBBe×Lq1×LBBe×Lq1×(List Int)
def B2G:A8l:=(99,(false:Bool),([]:LBBe),([]:Lq1),([]:LBBe),([]:Lq1),([]:List Int))
noncomputable def A9u (x0:Lq1) (x6:Int) (h1:LBBe) (h2:Lq1) (h3:List Int):B0g ⊕ A8l:=let z1:=B6m x0 x6 h1 h2 h3;let z2:=x0.getD x6.toNat ((0:Int),((0:Int),[]));(cond (decide (x6<(x0.length:Int))) (cond (decide (0≤x6∧x6<(x0.length:Int))) (cond (A9I (z2.1) ((z2.2).1) ((z2.2).2) h1 h2 h3) (cond (!(z1.1)) (.inr (0,false,([]:LBBe),([]:Lq1),([]:LBBe),([]:Lq1),([]:List Int))) (.inl (x0,wI (x6+(1:Int)),(z1.2.1),(z1.2.2.1),(z1.2.2.2)))) (.inr B2G)) (.inr B2G)) (.inr (1,(false:Bool),([]:LBBe),([]:Lq1),h1,h2,h3)))
noncomputable def C6q (x0:Lq1) (x6:Int) (h1:LBBe) (h2:Lq1) (h3:List Int):A8l:=itX (fun v:B0g=>A9u v.1 v.2.1 v.2.2.1 v.2.2.2.1 v.2.2.2.2) B2G (x0,x6,h1,h2,h3)
noncomputable def B7n (a:A8l):CT:=(.br (a.1==0) (.done .ret C3F (((),(),(),(),a.2.1,u30),(a.2.2.1,a.2.2.2.1,()))) (.br (a.1==1) (.done (.exit 0) C3G ((u35),(((),(),(),()),a.2.2.2.2.1,a.2.2.2.2.2.1,a.2.2.2.2.2.2,()))) .fail))
noncomputable def E03 (x0:Lq1) (x6:Int) (h1:LBBe) (h2:Lq1) (h3:List Int):CT:=B7n (C6q x0 x6 h1 h2 h3)
noncomputable abbrev B2B {α:Sort _} (f:Lq1→Int→LBBe→Lq1→(List Int)→α) (d:T8.den):α:=f d.1.1 d.1.2.2.2.2.2.2.1 d.2.2.1 d.2.2.2.1 d.2.2.2.2.1
noncomputable abbrev B7S:T8.den→RT T8.den:=(B2B C61)
noncomputable def C2g:Code:=((C4 0 (A0y Tryz.f68)).getD 0 (0,.skip)).2
noncomputable abbrev C6H (v:B0g):T8.den:=((v.1,(),(),(),(),(),v.2.1,u28),(((),(),(),()),v.2.2.1,v.2.2.2.1,v.2.2.2.2,()))
theorem D91:(∀ v:B0g,(C61 v.1 v.2.1 v.2.2.1 v.2.2.2.1 v.2.2.2.2).val=A5T C6H B7n (A9u v.1 v.2.1 v.2.2.1 v.2.2.2.1 v.2.2.2.2))∧∀ a:A8l,CEnd T8.den (B7n a):=⟨fun v=>(A6V (A6V (A6V (A6V rfl rfl) rfl) rfl) rfl),fun a=>(A6I aCD (A6I aCD A6K))⟩
noncomputable def C6D (x0:Lq1) (x6:Int) (h1:LBBe) (h2:Lq1) (h3:List Int):Option (Ex×St):=let z1:=B6m x0 x6 h1 h2 h3;let z2:=x0.getD x6.toNat ((0:Int),((0:Int),[]));(cond (decide (x6<(x0.length:Int))) (cond (decide (0≤x6∧x6<(x0.length:Int))) (cond (A9I (z2.1) ((z2.2).1) ((z2.2).2) h1 h2 h3) (cond (!(z1.1)) (some (.ret,(⟨(.junk::.junk::(.all 0 2)::(.all 1 3)::(.t true .bool false)::G09),[(.rows 105 true L1 ([]:LBBe)),(.rows 108 true B4I ([]:Lq1))],0,[]⟩:St))) (some (.normal,(⟨((.t false tq8 x0)::.junk::.junk::.junk::.junk::(.ptr 0 0 1 0)::(ti (wI (x6+(1:Int))))::F4G),[(.box [(.all 1 2),(.all 2 3),(.all 3 1)]),(.rows 105 true L1 (z1.2.1)),(.rows 108 true B4I (z1.2.2.1)),(.rows 3 true (.int .i64) (z1.2.2.2))],0,[]⟩:St)))) none) none) (some ((.exit 0),(⟨(.junk::.junk::.junk::.junk::.junk::(.ptr 0 0 1 0)::G0c),[(.box [(.all 1 2),(.all 2 3),(.all 3 1)]),(.rows 105 true L1 h1),(.rows 108 true B4I h2),(.rows 3 true (.int .i64) h3)],0,[]⟩:St))))
theorem D8e:RdA G67 aLn 0 C2g T8 0 [] (kepts [2,3,4] [(0,[5])]) (B2B C6D):=by
 intro d
 kernel_rfl
theorem D8h:∀ d:T8.den,(B2B C6D) d=(B7S d).opt 0 []:=by
 intro d
 kernel_rfl
noncomputable abbrev C4p:St→Option Tree:=T8.say 0 [] [(2005002,3,(.int .i64))] (B2B E03)
theorem D9x:aPL C4p C2g:=SS.wp2 hlz [(2005002,3,(.int .i64))] B7S D8e D8h _ (fun d=>Runs.ofI2 (step:=B7S) C6H D91 rfl (d.1.1,d.1.2.2.2.2.2.2.1,d.2.2.1,d.2.2.2.1,d.2.2.2.2.1))
noncomputable def Q6 (a0:Lq1):=C6q a0 (0:Int) ([]:LBBe) ([]:Lq1) ([]:List Int)
noncomputable def B5e (a0:Lq1):LBBe×Lq1×Bool:=let z1:=Q6 a0;(cond (z1.1==0) ((z1.2.2.1),(z1.2.2.2.1),(z1.2.1)) ((z1.2.2.2.2.1),(z1.2.2.2.2.2.1),true))
noncomputable abbrev B77 (r:LBBe×Lq1×Bool):AV×List AObj:=((.tup [(.t true Z3 r.1),(.t true tq8 r.2.1),(.t true .bool r.2.2)]),[])
noncomputable abbrev C4N:F5 B3z→AV×List AObj:=fun d=>B77 (B5e d.1)
noncomputable def A8S (a0:Lq1):Bool:=cond ((Q6 a0).1==0) true ((Q6 a0).1==1)
noncomputable abbrev B9W:F5 B3z→Bool:=fun d=>A8S d.1
noncomputable abbrev E4m:Nat→St→Option Tree:=fun b=>match b with | 0=>C4p | _=>fun _=>none
theorem E1L:A6Q true G67 (E4m) Tryz.f68 B3z B9W C4N:=by
 rintro ⟨a0,_⟩ hp
 change A8S a0=true at hp
 unfold A8S at hp
 refine Eq.trans (b:=(let z1:=Q6 a0;cond (z1.1==0) (some (B77 ((z1.2.2.1),(z1.2.2.2.1),(z1.2.1)))) (cond (z1.1==1) (some (B77 ((z1.2.2.2.2.1),(z1.2.2.2.2.2.1),true))) none))) (by kernel_rfl) ?_
 exact (H7 B77 hp (fun hp=>rfl) (fun hp=>(A6T hp fun _h=>rfl)))
theorem E4G:aPP 68 (A2z B3z B9W C4N):=pcD true G67 (hl1 (i:=0) (by kernel_rfl) D9x) E1L
noncomputable def S68:Tab:=Tab.add S67 68 (lift (A2z B3z B9W C4N))
noncomputable def F8O:FuncId→Bool:=qadd F8N 68
theorem G68:aPG S68 F8O:=G67.addQ E4G (cbl Tryz.f68) (fun _=>rfl)

abbrev B1y:List PSh:=[.t Z3,.t Z3]
abbrev Z4:SS:=⟨(.t false Z3::.t false Z3::.junk::.junk::.junk::tI::F3v),[]⟩
abbrev C1B:SS:=⟨(.junk::.junk::.junk::.junk::.t true .bool::B9R),[]⟩
abbrev C1C:SS:=⟨(.junk::C95),[]⟩
noncomputable def C4t (x0 x1:LBBe) (x5:Int):RT Z4.den:=let z1:=x0.getD x5.toNat (bE,bE);let z2:=x1.getD x5.toNat (bE,bE);(.br (decide (x5<(x0.length:Int))) (.br (decide (0≤x5∧x5<(x0.length:Int))) (.br (decide (0≤x5∧x5<(x1.length:Int))) (.br (!(((z1.1).toList==(z2.1).toList)&&(((z1.2).toList==(z2.2).toList)&&true))) (.done .ret C1B (((),(),(),(),false,u22),())) (.next ((x0,x1,(),(),(),wI (x5+(1:Int)),u21),()))) .fail) .fail) (.done (.exit 0) C1C ((u27),())))
abbrev A7N:=(LBBe)×LBBe×(Int)
abbrev A88:=Nat×(Bool)
def B08:A88:=(99,(false:Bool))
noncomputable def A8I (x0 x1:LBBe) (x5:Int):A7N ⊕ A88:=let z1:=x0.getD x5.toNat (bE,bE);let z2:=x1.getD x5.toNat (bE,bE);(cond (decide (x5<(x0.length:Int))) (cond (decide (0≤x5∧x5<(x0.length:Int))) (cond (decide (0≤x5∧x5<(x1.length:Int))) (cond (!(((z1.1).toList==(z2.1).toList)&&(((z1.2).toList==(z2.2).toList)&&true))) (.inr (0,false)) (.inl (x0,x1,wI (x5+(1:Int))))) (.inr B08)) (.inr B08)) (.inr (1,(false:Bool))))
noncomputable def A8C (x0 x1:LBBe) (x5:Int):A88:=itX (fun v:A7N=>A8I v.1 v.2.1 v.2.2) B08 (x0,x1,x5)
noncomputable def B5X (a:A88):CT:=(.br (a.1==0) (.done .ret C1B (((),(),(),(),a.2,u22),())) (.br (a.1==1) (.done (.exit 0) C1C ((u27),())) .fail))
noncomputable def D8T (x0 x1:LBBe) (x5:Int):CT:=B5X (A8C x0 x1 x5)
noncomputable abbrev B6G:Z4.den→RT Z4.den:=(fun d=>C4t d.1.1 d.1.2.1 d.1.2.2.2.2.2.1)
noncomputable def C0d:Code:=((C4 0 (A0y Tryz.f69)).getD 0 (0,.skip)).2
noncomputable abbrev C4n (v:A7N):Z4.den:=((v.1,v.2.1,(),(),(),v.2.2,u21),())
theorem D8k:(∀ v:A7N,(C4t v.1 v.2.1 v.2.2).val=A5T C4n B5X (A8I v.1 v.2.1 v.2.2))∧∀ a:A88,CEnd Z4.den (B5X a):=⟨fun v=>(A6V (A6V (A6V (A6V rfl rfl) rfl) rfl) rfl),fun a=>(A6I aCD (A6I aCD A6K))⟩
theorem D6A:RdA G68 aLn 0 C0d Z4 0 [] (kepts [4] [(0,[])]) (fun d=>(B6G d).opt 0 []):=by
 intro d
 kernel_rfl
noncomputable abbrev C3g:St→Option Tree:=Z4.say 0 [] [] (fun d=>D8T d.1.1 d.1.2.1 d.1.2.2.2.2.2.1)
theorem D7O:aPL C3g C0d:=SS.wp2 hlz [] B6G D6A (fun d=>rfl) _ (fun d=>Runs.ofI2 (step:=B6G) C4n D8k rfl (d.1.1,d.1.2.1,d.1.2.2.2.2.2.1))
noncomputable def B2Y (a0 a1:LBBe):Bool:=let z1:=A8C a0 a1 (0:Int);(cond ((a0.length:Int) != (a1.length:Int)) false (cond (z1.1==0) (z1.2) true))
noncomputable abbrev A9k (r:Bool):AV×List AObj:=((.t true .bool r),[])
noncomputable abbrev C2E:F5 B1y→AV×List AObj:=fun d=>A9k (B2Y d.1 d.2.1)
noncomputable def A8d (a0 a1:LBBe):Bool:=let z1:=A8C a0 a1 (0:Int);cond ((a0.length:Int) != (a1.length:Int)) true (cond (z1.1==0) true (z1.1==1))
noncomputable abbrev B7C:F5 B1y→Bool:=fun d=>A8d d.1 d.2.1
noncomputable abbrev E14:Nat→St→Option Tree:=fun b=>match b with | 0=>C3g | _=>fun _=>none
theorem D94:A6Q true G68 (E14) Tryz.f69 B1y B7C C2E:=by
 rintro ⟨a0,⟨a1,_⟩⟩ hp
 change A8d a0 a1=true at hp
 unfold A8d at hp
 refine Eq.trans (b:=(let z1:=A8C a0 a1 (0:Int);cond ((a0.length:Int) != (a1.length:Int)) (some (A9k false)) (cond (z1.1==0) (some (A9k (z1.2))) (cond (z1.1==1) (some (A9k true)) none)))) (by kernel_rfl) ?_
 exact (H7 A9k hp (fun hp=>rfl) (fun hp=>(H7 A9k hp (fun hp=>rfl) (fun hp=>(A6T hp fun _h=>rfl)))))
theorem E2m:aPP 69 (A2z B1y B7C C2E):=pcD true G68 (hl1 (i:=0) (by kernel_rfl) D7O) D94
noncomputable def S69:Tab:=Tab.add S68 69 (lift (A2z B1y B7C C2E))
noncomputable def F8P:FuncId→Bool:=qadd F8O 69
theorem G69:aPG S69 F8P:=G68.addQ E2m (cbl Tryz.f69) (fun _=>rfl)

abbrev G0s:List Sh:=.junk::.junk::.junk::F3w
abbrev G1r:List Sh:=.junk::G0s
abbrev G1s:List Sh:=.junk::F7G
abbrev u51:=((),(),(),u48)
abbrev u50:=((),(),u48)
abbrev u56:=((),(),u54)
abbrev G1e:List AV:=.junk::.junk::.junk::.junk::E9B
abbrev G1d:List AV:=.junk::.junk::.junk::E9B
abbrev G1f:List AV:=.junk::G0g
abbrev B3A:List PSh:=[.t tq8,.t tq8]
abbrev Y1:SS:=⟨(.t false tq8::.t false tq8::.junk::.junk::.junk::tI::G0s),[]⟩
abbrev B0Z:SS:=⟨(.junk::.junk::.junk::.junk::.t true .bool::G1r),[]⟩
abbrev C3H:SS:=⟨(.junk::G1s),[]⟩
noncomputable def B6o (x0 x1:Lq1) (x5:Int):=C3i (((x0.getD x5.toNat ((0:Int),((0:Int),[]))).2).2) (((x1.getD x5.toNat ((0:Int),((0:Int),[]))).2).2)
noncomputable def C62 (x0 x1:Lq1) (x5:Int):RT Y1.den:=let z1:=x0.getD x5.toNat ((0:Int),((0:Int),[]));let z2:=x1.getD x5.toNat ((0:Int),((0:Int),[]));let z3:=decide (0≤x5∧x5<(x0.length:Int));let z4:=decide (0≤x5∧x5<(x1.length:Int));(.br (decide (x5<(x0.length:Int))) (.br z3 (.br z4 (.br ((z1.1) != (z2.1)) (.done .ret B0Z (((),(),(),(),false,u51),())) (.br z3 (.br z4 (.br (((z1.2).1) != ((z2.2).1)) (.done .ret B0Z (((),(),(),(),false,u51),())) (.br z3 (.br z4 (.br (X8 ((z1.2).2) ((z2.2).2)) (.br (!(B6o x0 x1 x5)) (.done .ret B0Z (((),(),(),(),false,u51),())) (.next ((x0,x1,(),(),(),wI (x5+(1:Int)),u50),()))) .fail) .fail) .fail)) .fail) .fail)) .fail) .fail) (.done (.exit 0) C3H ((u56),())))
abbrev A8m:=(Lq1)×Lq1×(Int)
abbrev B0e:=Nat×(Bool)
def R4:B0e:=(99,(false:Bool))
noncomputable def A9w (x0 x1:Lq1) (x5:Int):A8m ⊕ B0e:=let z1:=x0.getD x5.toNat ((0:Int),((0:Int),[]));let z2:=x1.getD x5.toNat ((0:Int),((0:Int),[]));let z3:=decide (0≤x5∧x5<(x0.length:Int));let z4:=decide (0≤x5∧x5<(x1.length:Int));(cond (decide (x5<(x0.length:Int))) (cond z3 (cond z4 (cond ((z1.1) != (z2.1)) (.inr (0,false)) (cond z3 (cond z4 (cond (((z1.2).1) != ((z2.2).1)) (.inr (0,false)) (cond z3 (cond z4 (cond (X8 ((z1.2).2) ((z2.2).2)) (cond (!(B6o x0 x1 x5)) (.inr (0,false)) (.inl (x0,x1,wI (x5+(1:Int))))) (.inr R4)) (.inr R4)) (.inr R4))) (.inr R4)) (.inr R4))) (.inr R4)) (.inr R4)) (.inr (1,(false:Bool))))
noncomputable def A9o (x0 x1:Lq1) (x5:Int):B0e:=itX (fun v:A8m=>A9w v.1 v.2.1 v.2.2) R4 (x0,x1,x5)
noncomputable def B7o (a:B0e):CT:=(.br (a.1==0) (.done .ret B0Z (((),(),(),(),a.2,u51),())) (.br (a.1==1) (.done (.exit 0) C3H ((u56),())) .fail))
noncomputable def E04 (x0 x1:Lq1) (x5:Int):CT:=B7o (A9o x0 x1 x5)
noncomputable abbrev B7T:Y1.den→RT Y1.den:=(fun d=>C62 d.1.1 d.1.2.1 d.1.2.2.2.2.2.1)
noncomputable def C2h:Code:=((C4 0 (A0y Tryz.f70)).getD 0 (0,.skip)).2
noncomputable abbrev C6I (v:A8m):Y1.den:=((v.1,v.2.1,(),(),(),v.2.2,u50),())
theorem D92:(∀ v:A8m,(C62 v.1 v.2.1 v.2.2).val=A5T C6I B7o (A9w v.1 v.2.1 v.2.2))∧∀ a:B0e,CEnd Y1.den (B7o a):=⟨fun v=>by repeat' first | apply A6V | rfl,fun a=>(A6I aCD (A6I aCD A6K))⟩
noncomputable def C6E (x0 x1:Lq1) (x5:Int):Option (Ex×St):=let z1:=(⟨(.junk::.junk::.junk::.junk::(.t true .bool false)::G1e),[],0,[]⟩:St);let z2:=x0.getD x5.toNat ((0:Int),((0:Int),[]));let z3:=x1.getD x5.toNat ((0:Int),((0:Int),[]));let z4:=decide (0≤x5∧x5<(x0.length:Int));let z5:=decide (0≤x5∧x5<(x1.length:Int));(cond (decide (x5<(x0.length:Int))) (cond z4 (cond z5 (cond ((z2.1) != (z3.1)) (some (.ret,z1)) (cond z4 (cond z5 (cond (((z2.2).1) != ((z3.2).1)) (some (.ret,z1)) (cond z4 (cond z5 (cond (X8 ((z2.2).2) ((z3.2).2)) (cond (!(B6o x0 x1 x5)) (some (.ret,z1)) (some (.normal,(⟨((.t false tq8 x0)::(.t false tq8 x1)::.junk::.junk::.junk::(ti (wI (x5+(1:Int))))::G1d),[],0,[]⟩:St)))) none) none) none)) none) none)) none) none) (some ((.exit 0),(⟨(.junk::G1f),[],0,[]⟩:St))))
theorem D8f:RdA G69 aLn 0 C2h Y1 0 [] (kepts [4] [(0,[])]) (fun d=>C6E d.1.1 d.1.2.1 d.1.2.2.2.2.2.1):=by
 intro d
 kernel_rfl
theorem D8i:∀ d:Y1.den,(fun d=>C6E d.1.1 d.1.2.1 d.1.2.2.2.2.2.1) d=(B7T d).opt 0 []:=by
 intro d
 kernel_rfl
noncomputable abbrev C4q:St→Option Tree:=Y1.say 0 [] [] (fun d=>E04 d.1.1 d.1.2.1 d.1.2.2.2.2.2.1)
theorem D9y:aPL C4q C2h:=SS.wp2 hlz [] B7T D8f D8i _ (fun d=>Runs.ofI2 (step:=B7T) C6I D92 rfl (d.1.1,d.1.2.1,d.1.2.2.2.2.2.1))
noncomputable def B9o (a0 a1:Lq1):Bool:=let z1:=A9o a0 a1 (0:Int);(cond ((a0.length:Int) != (a1.length:Int)) false (cond (z1.1==0) (z1.2) true))
noncomputable abbrev B0L (r:Bool):AV×List AObj:=((.t true .bool r),[])
noncomputable abbrev C4O:F5 B3A→AV×List AObj:=fun d=>B0L (B9o d.1 d.2.1)
noncomputable def A8T (a0 a1:Lq1):Bool:=let z1:=A9o a0 a1 (0:Int);cond ((a0.length:Int) != (a1.length:Int)) true (cond (z1.1==0) true (z1.1==1))
noncomputable abbrev B9X:F5 B3A→Bool:=fun d=>A8T d.1 d.2.1
noncomputable abbrev E4p:Nat→St→Option Tree:=fun b=>match b with | 0=>C4q | _=>fun _=>none
theorem E1M:A6Q true G69 (E4p) Tryz.f70 B3A B9X C4O:=by
 rintro ⟨a0,⟨a1,_⟩⟩ hp
 change A8T a0 a1=true at hp
 unfold A8T at hp
 refine Eq.trans (b:=(let z1:=A9o a0 a1 (0:Int);cond ((a0.length:Int) != (a1.length:Int)) (some (B0L false)) (cond (z1.1==0) (some (B0L (z1.2))) (cond (z1.1==1) (some (B0L true)) none)))) (by kernel_rfl) ?_
 exact (H7 B0L hp (fun hp=>rfl) (fun hp=>(H7 B0L hp (fun hp=>rfl) (fun hp=>(A6T hp fun _h=>rfl)))))
theorem E4H:aPP 70 (A2z B3A B9X C4O):=pcD true G69 (hl1 (i:=0) (by kernel_rfl) D9y) E1M
noncomputable def S70:Tab:=Tab.add S69 70 (lift (A2z B3A B9X C4O))
noncomputable def F8Q:FuncId→Bool:=qadd F8P 70
theorem G70:aPG S70 F8Q:=G69.addQ E4H (cbl Tryz.f70) (fun _=>rfl)


end Go.Proofs.YtcofibhklbfgoaaGreat.Eng
