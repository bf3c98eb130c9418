/- What the functions that FnExactHold reaches compute: further. -/
import Derived.Test.YtgglehejlddghaaGreatFExactHoldA
namespace Go.Proofs.YtgglehejlddghaaGreat.Eng
open Go Go.RowKit
set_option linter.unusedSimpArgs false
set_option linter.unusedVariables false
set_option maxRecDepth 10000
abbrev E1H:List Sh:=.junk::D8F
abbrev E10:List Sh:=.junk::E1H
abbrev u49:=((),u48)
abbrev D9m:List AV:=.junk::D58
abbrev E1U:List AV:=.junk::D9m
abbrev B3a:List PSh:=[.agg [(.int .i64),tq3,(.int .i64),tq6,tq3],.t (.int .i64)]
abbrev U8:SS:=⟨(.junk::tI::.ptr 0 0 1 0::.junk::.junk::tI::tI::E1H),[.box [tI,.t false tq3,tI,.t false tq6,.t false tq3]]⟩
abbrev B8I:SS:=⟨(.junk::.junk::.junk::.junk::.junk::tI::E10),[]⟩
noncomputable def C1y (x1 x5 x6 p0:Int) (p1:Lq1) (p2:Int) (p3:LBBe) (p4:Lq1):RT U8.den:=let z1:=p1.getD x6.toNat ((0:Int),((0:Int),[]));let z2:=decide (0≤x6∧x6<(p1.length:Int));(.br (decide (x6<(p1.length:Int))) (.br z2 (.br (((z1.2).1)==x1) (.br z2 (.br ((z1.1)==(2:Int)) (.br z2 (.br (((z1.2).1)==x1) (.br z2 (.br ((z1.1)==(3:Int)) (.next (((),x1,(),(),(),(4:Int),wI (x6+(1:Int)),u48),((p0,p1,p2,p3,p4,()),()))) (.next (((),x1,(),(),(),(3:Int),wI (x6+(1:Int)),u48),((p0,p1,p2,p3,p4,()),())))) .fail) (.next (((),x1,(),(),(),(3:Int),wI (x6+(1:Int)),u48),((p0,p1,p2,p3,p4,()),())))) .fail) (.br z2 (.br (((z1.2).1)==x1) (.br z2 (.br ((z1.1)==(3:Int)) (.next (((),x1,(),(),(),(4:Int),wI (x6+(1:Int)),u48),((p0,p1,p2,p3,p4,()),()))) (.next (((),x1,(),(),(),x5,wI (x6+(1:Int)),u48),((p0,p1,p2,p3,p4,()),())))) .fail) (.next (((),x1,(),(),(),x5,wI (x6+(1:Int)),u48),((p0,p1,p2,p3,p4,()),())))) .fail)) .fail) (.br z2 (.br (((z1.2).1)==x1) (.br z2 (.br ((z1.1)==(3:Int)) (.next (((),x1,(),(),(),(4:Int),wI (x6+(1:Int)),u48),((p0,p1,p2,p3,p4,()),()))) (.next (((),x1,(),(),(),x5,wI (x6+(1:Int)),u48),((p0,p1,p2,p3,p4,()),())))) .fail) (.next (((),x1,(),(),(),x5,wI (x6+(1:Int)),u48),((p0,p1,p2,p3,p4,()),())))) .fail)) .fail) (.done (.exit 0) B8I (((),(),(),(),(),x5,u49),())))
abbrev B0H:=(Int)×(Int)×(Int)
abbrev B0s:=Nat×(Int)
def P6:B0s:=(99,((0:Int):Int))
noncomputable def A95 (x1 x5 x6 p0:Int) (p1:Lq1) (p2:Int) (p3:LBBe) (p4:Lq1):B0H ⊕ B0s:=let z1:=p1.getD x6.toNat ((0:Int),((0:Int),[]));let z2:=decide (0≤x6∧x6<(p1.length:Int));(cond (decide (x6<(p1.length:Int))) (cond z2 (cond (((z1.2).1)==x1) (cond z2 (cond ((z1.1)==(2:Int)) (cond z2 (cond (((z1.2).1)==x1) (cond z2 (cond ((z1.1)==(3:Int)) (.inl (x1,(4:Int),wI (x6+(1:Int)))) (.inl (x1,(3:Int),wI (x6+(1:Int))))) (.inr P6)) (.inl (x1,(3:Int),wI (x6+(1:Int))))) (.inr P6)) (cond z2 (cond (((z1.2).1)==x1) (cond z2 (cond ((z1.1)==(3:Int)) (.inl (x1,(4:Int),wI (x6+(1:Int)))) (.inl (x1,x5,wI (x6+(1:Int))))) (.inr P6)) (.inl (x1,x5,wI (x6+(1:Int))))) (.inr P6))) (.inr P6)) (cond z2 (cond (((z1.2).1)==x1) (cond z2 (cond ((z1.1)==(3:Int)) (.inl (x1,(4:Int),wI (x6+(1:Int)))) (.inl (x1,x5,wI (x6+(1:Int))))) (.inr P6)) (.inl (x1,x5,wI (x6+(1:Int))))) (.inr P6))) (.inr P6)) (.inr (0,x5)))
noncomputable def A9T (x1 x5 x6 p0:Int) (p1:Lq1) (p2:Int) (p3:LBBe) (p4:Lq1):B0s:=itX (fun v:B0H=>A95 v.1 v.2.1 v.2.2 p0 p1 p2 p3 p4) P6 (x1,x5,x6)
noncomputable def B5t (p0:Int) (p1:Lq1) (p2:Int) (p3:LBBe) (p4:Lq1) (a:B0s):CT:=(.br (a.1==0) (.done (.exit 0) B8I (((),(),(),(),(),a.2,u49),())) .fail)
noncomputable def C9N (x1 x5 x6 p0:Int) (p1:Lq1) (p2:Int) (p3:LBBe) (p4:Lq1):CT:=(B5t p0 p1 p2 p3 p4) (A9T x1 x5 x6 p0 p1 p2 p3 p4)
noncomputable abbrev B10 {α:Sort _} (f:Int→Int→Int→Int→Lq1→Int→LBBe→Lq1→α) (d:U8.den):α:=f d.1.2.1 d.1.2.2.2.2.2.1 d.1.2.2.2.2.2.2.1 d.2.1.1 d.2.1.2.1 d.2.1.2.2.1 d.2.1.2.2.2.1 d.2.1.2.2.2.2.1
noncomputable abbrev B5K:U8.den→RT U8.den:=(B10 C1y)
noncomputable def B7S:Code:=((D5 0 (A1o Tryz.f43)).getD 0 (0,.skip)).2
noncomputable abbrev C1m (p0:Int) (p1:Lq1) (p2:Int) (p3:LBBe) (p4:Lq1) (v:B0H):U8.den:=(((),v.1,(),(),(),v.2.1,v.2.2,u48),((p0,p1,p2,p3,p4,()),()))
theorem C9j (p0:Int) (p1:Lq1) (p2:Int) (p3:LBBe) (p4:Lq1):(∀ v:B0H,(C1y v.1 v.2.1 v.2.2 p0 p1 p2 p3 p4).val=A6W (C1m p0 p1 p2 p3 p4) (B5t p0 p1 p2 p3 p4) (A95 v.1 v.2.1 v.2.2 p0 p1 p2 p3 p4))∧∀ a:B0s,CEnd U8.den ((B5t p0 p1 p2 p3 p4) a):=⟨fun v=>by repeat' first | apply A72 | rfl,fun a=>(A7P aCD A7R)⟩
noncomputable def C1f (x1 x5 x6 p0:Int) (p1:Lq1) (p2:Int) (p3:LBBe) (p4:Lq1):Option (Ex×St):=let z3:=p1.getD x6.toNat ((0:Int),((0:Int),[]));let z4:=decide (0≤x6∧x6<(p1.length:Int));let z6:=ti (wI (x6+(1:Int)));let z1:=(⟨(.junk::(ti x1)::(.ptr 0 0 1 0)::.junk::.junk::(ti x5)::z6::D9m),[(.box [(ti p0),(.t false tq3 p1),(ti p2),(.t false tq6 p3),(.t false tq3 p4)])],0,[]⟩:St);let z2:=(⟨(.junk::(ti x1)::(.ptr 0 0 1 0)::.junk::.junk::(ti (4:Int))::z6::D9m),[(.box [(ti p0),(.t false tq3 p1),(ti p2),(.t false tq6 p3),(.t false tq3 p4)])],0,[]⟩:St);let z5:=(⟨(.junk::(ti x1)::(.ptr 0 0 1 0)::.junk::.junk::(ti (3:Int))::z6::D9m),[(.box [(ti p0),(.t false tq3 p1),(ti p2),(.t false tq6 p3),(.t false tq3 p4)])],0,[]⟩:St);(cond (decide (x6<(p1.length:Int))) (cond z4 (cond (((z3.2).1)==x1) (cond z4 (cond ((z3.1)==(2:Int)) (cond z4 (cond (((z3.2).1)==x1) (cond z4 (cond ((z3.1)==(3:Int)) (some (.normal,z2)) (some (.normal,z5))) none) (some (.normal,z5))) none) (cond z4 (cond (((z3.2).1)==x1) (cond z4 (cond ((z3.1)==(3:Int)) (some (.normal,z2)) (some (.normal,z1))) none) (some (.normal,z1))) none)) none) (cond z4 (cond (((z3.2).1)==x1) (cond z4 (cond ((z3.1)==(3:Int)) (some (.normal,z2)) (some (.normal,z1))) none) (some (.normal,z1))) none)) none) (some ((.exit 0),(⟨(.junk::.junk::.junk::.junk::.junk::(ti x5)::E1U),[],0,[]⟩:St))))
theorem C7R:RdA G38 aLn 0 B7S U8 0 [] (kepts [] [(0,[5])]) (B10 C1f):=by
 intro d
 kernel_rfl
theorem C7X:∀ d:U8.den,(B10 C1f) d=(B5K d).opt 0 []:=by
 intro d
 kernel_rfl
noncomputable abbrev B9D:St→Option Tree:=U8.say 0 [] [] (B10 C9N)
theorem C82:aPL B9D B7S:=SS.wp2 hlz [] B5K C7R C7X _ (fun d=>Runs.ofI2 (step:=B5K) (C1m d.2.1.1 d.2.1.2.1 d.2.1.2.2.1 d.2.1.2.2.2.1 d.2.1.2.2.2.2.1) (C9j d.2.1.1 d.2.1.2.1 d.2.1.2.2.1 d.2.1.2.2.2.1 d.2.1.2.2.2.2.1) rfl (d.1.2.1,d.1.2.2.2.2.2.1,d.1.2.2.2.2.2.2.1))
noncomputable def B2v (a0:Int) (a1:Lq1) (a2:Int) (a3:LBBe) (a4:Lq1) (a5:Int):Int:=(cond (decide ((B3O a4 a5) ≥ (0:Int))) (1:Int) ((A9T a5 (2:Int) (0:Int) a0 a1 a2 a3 a4).2))
noncomputable abbrev B51 (r:Int):AV×List AObj:=((ti r),[])
noncomputable abbrev C0g:D9 B3a→AV×List AObj:=fun d=>B51 (B2v d.1.1 d.1.2.1 d.1.2.2.1 d.1.2.2.2.1 d.1.2.2.2.2.1 d.2.1)
noncomputable def A8M (a0:Int) (a1:Lq1) (a2:Int) (a3:LBBe) (a4:Lq1) (a5:Int):Bool:=(B3K a4 a5)&&(cond (decide ((B3O a4 a5) ≥ (0:Int))) true ((A9T a5 (2:Int) (0:Int) a0 a1 a2 a3 a4).1==0))
noncomputable abbrev B7j:D9 B3a→Bool:=fun d=>A8M d.1.1 d.1.2.1 d.1.2.2.1 d.1.2.2.2.1 d.1.2.2.2.2.1 d.2.1
noncomputable abbrev D2p:Nat→St→Option Tree:=fun b=>match b with | 0=>B9D | _=>fun _=>none
theorem D04:A7X true G38 (D2p) Tryz.f43 B3a B7j C0g:=by
 rintro ⟨⟨a0,⟨a1,⟨a2,⟨a3,⟨a4,_⟩⟩⟩⟩⟩,⟨a5,_⟩⟩ hp
 change A8M a0 a1 a2 a3 a4 a5=true at hp
 unfold A8M at hp
 refine Eq.trans (b:=(let z1:=A9T a5 (2:Int) (0:Int) a0 a1 a2 a3 a4;cond (B3K a4 a5) (cond (decide ((B3O a4 a5) ≥ (0:Int))) (some (B51 (1:Int))) (cond (z1.1==0) (some (B51 (z1.2))) none)) none)) (by kernel_rfl) ?_
 exact (A7Y hp fun hp=>(K9 B51 hp (fun hp=>rfl) (fun hp=>(A70 hp fun _h=>rfl))))
theorem D2H:aPP 43 (A19 B3a B7j C0g):=pcD true G38 (hl1 (i:=0) (by kernel_rfl) C82) D04
noncomputable def S39:Tab:=Tab.add S38 43 (lift (A19 B3a B7j C0g))
noncomputable def E0o:FuncId→Bool:=qadd E0n 43
theorem G39:aPG S39 E0o:=G38.addQ D2H (cbl Tryz.f43) (fun _=>rfl)

abbrev B8Z:List PSh:=[.agg [(.int .i64),tq3,(.int .i64),tq6,tq3],.t tq4]
abbrev A9r:SS:=⟨(.junk::.junk::.ptr 0 0 1 0::.junk::.junk::tI::tI::D8y),[.box [tI,.t false tq3,tI,.t false tq6,.t false tq3]]⟩
abbrev C3X:SS:=⟨(.junk::.junk::.junk::.junk::.junk::tI::D8z),[]⟩
noncomputable def C64 (x5 x6 p0:Int) (p1:Lq1) (p2:Int) (p3:LBBe) (p4:Lq1):RT A9r.den:=(.br (decide (x6<(p4.length:Int))) (.br (decide (0≤x6∧x6<(p4.length:Int))) (.next (((),(),(),(),(),wI (x5+(((((p4.getD x6.toNat ((0:Int),((0:Int),[]))).2).2).length:Nat):Int)),wI (x6+(1:Int)),u24),((p0,p1,p2,p3,p4,()),()))) .fail) (.done (.exit 0) C3X (((),(),(),(),(),x5,u25),())))
abbrev B41:=(Int)×(Int)
abbrev B4T:=Nat×(Int)
def B98:B4T:=(99,((0:Int):Int))
noncomputable def B3X (x5 x6 p0:Int) (p1:Lq1) (p2:Int) (p3:LBBe) (p4:Lq1):B41 ⊕ B4T:=(cond (decide (x6<(p4.length:Int))) (cond (decide (0≤x6∧x6<(p4.length:Int))) (.inl (wI (x5+(((((p4.getD x6.toNat ((0:Int),((0:Int),[]))).2).2).length:Nat):Int)),wI (x6+(1:Int)))) (.inr B98)) (.inr (0,x5)))
noncomputable def B59 (x5 x6 p0:Int) (p1:Lq1) (p2:Int) (p3:LBBe) (p4:Lq1):B4T:=itX (fun v:B41=>B3X v.1 v.2 p0 p1 p2 p3 p4) B98 (x5,x6)
noncomputable def B91 (p0:Int) (p1:Lq1) (p2:Int) (p3:LBBe) (p4:Lq1) (a:B4T):CT:=(.br (a.1==0) (.done (.exit 0) C3X (((),(),(),(),(),a.2,u25),())) .fail)
noncomputable def D4f (x5 x6 p0:Int) (p1:Lq1) (p2:Int) (p3:LBBe) (p4:Lq1):CT:=(B91 p0 p1 p2 p3 p4) (B59 x5 x6 p0 p1 p2 p3 p4)
noncomputable abbrev C5I {α:Sort _} (f:Int→Int→Int→Lq1→Int→LBBe→Lq1→α) (d:A9r.den):α:=f d.1.2.2.2.2.2.1 d.1.2.2.2.2.2.2.1 d.2.1.1 d.2.1.2.1 d.2.1.2.2.1 d.2.1.2.2.2.1 d.2.1.2.2.2.2.1
noncomputable abbrev C0S:A9r.den→RT A9r.den:=(C5I C64)
noncomputable def C18:Code:=((D5 0 (A1o Tryz.f46)).getD 0 (0,.skip)).2
noncomputable abbrev C6u (p0:Int) (p1:Lq1) (p2:Int) (p3:LBBe) (p4:Lq1) (v:B41):A9r.den:=(((),(),(),(),(),v.1,v.2,u24),((p0,p1,p2,p3,p4,()),()))
theorem D3F (p0:Int) (p1:Lq1) (p2:Int) (p3:LBBe) (p4:Lq1):(∀ v:B41,(C64 v.1 v.2 p0 p1 p2 p3 p4).val=A6W (C6u p0 p1 p2 p3 p4) (B91 p0 p1 p2 p3 p4) (B3X v.1 v.2 p0 p1 p2 p3 p4))∧∀ a:B4T,CEnd A9r.den ((B91 p0 p1 p2 p3 p4) a):=⟨fun v=>(A72 (A72 rfl rfl) rfl),fun a=>(A7P aCD A7R)⟩
theorem D1K:RdA G39 aLn 0 C18 A9r 0 [] (kepts [] [(0,[5])]) (fun d=>(C0S d).opt 0 []):=by
 intro d
 kernel_rfl
noncomputable abbrev C4y:St→Option Tree:=A9r.say 0 [] [] (C5I D4f)
theorem D3d:aPL C4y C18:=SS.wp2 hlz [] C0S D1K (fun d=>rfl) _ (fun d=>Runs.ofI2 (step:=C0S) (C6u d.2.1.1 d.2.1.2.1 d.2.1.2.2.1 d.2.1.2.2.2.1 d.2.1.2.2.2.2.1) (D3F d.2.1.1 d.2.1.2.1 d.2.1.2.2.1 d.2.1.2.2.2.1 d.2.1.2.2.2.2.1) rfl (d.1.2.2.2.2.2.1,d.1.2.2.2.2.2.2.1))
noncomputable def C0n (a0:Int) (a1:Lq1) (a2:Int) (a3:LBBe) (a4:Lq1) (a5:Lq2):=B59 (wI ((a3.length:Int)+(a5.length:Int))) (0:Int) a0 a1 a2 a3 a4
noncomputable def C3G (a0:Int) (a1:Lq1) (a2:Int) (a3:LBBe) (a4:Lq1) (a5:Lq2):Int:=((C0n a0 a1 a2 a3 a4 a5).2)
noncomputable abbrev D14 (r:Int):AV×List AObj:=((ti r),[])
noncomputable abbrev C7r:D9 B8Z→AV×List AObj:=fun d=>D14 (C3G d.1.1 d.1.2.1 d.1.2.2.1 d.1.2.2.2.1 d.1.2.2.2.2.1 d.2.1)
noncomputable def B4x (a0:Int) (a1:Lq1) (a2:Int) (a3:LBBe) (a4:Lq1) (a5:Lq2):Bool:=((C0n a0 a1 a2 a3 a4 a5).1==0)
noncomputable abbrev C2N:D9 B8Z→Bool:=fun d=>B4x d.1.1 d.1.2.1 d.1.2.2.1 d.1.2.2.2.1 d.1.2.2.2.2.1 d.2.1
noncomputable abbrev D6Z:Nat→St→Option Tree:=fun b=>match b with | 0=>C4y | _=>fun _=>none
theorem D5p:A7X true G39 (D6Z) Tryz.f46 B8Z C2N C7r:=by
 rintro ⟨⟨a0,⟨a1,⟨a2,⟨a3,⟨a4,_⟩⟩⟩⟩⟩,⟨a5,_⟩⟩ hp
 change B4x a0 a1 a2 a3 a4 a5=true at hp
 unfold B4x at hp
 refine Eq.trans (b:=(let z1:=C0n a0 a1 a2 a3 a4 a5;cond (z1.1==0) (some (D14 (z1.2))) none)) (by kernel_rfl) ?_
 exact (A70 hp fun _h=>rfl)
theorem D7j:aPP 46 (A19 B8Z C2N C7r):=pcD true G39 (hl1 (i:=0) (by kernel_rfl) D3d) D5p
noncomputable def S40:Tab:=Tab.add S39 46 (lift (A19 B8Z C2N C7r))
noncomputable def E0p:FuncId→Bool:=qadd E0o 46
theorem G40:aPG S40 E0p:=G39.addQ D7j (cbl Tryz.f46) (fun _=>rfl)

abbrev B7J:SS:=⟨[.ptr 0 0 1 0,.agg [.t true (.int .i64),.t true (.int .i64),.t false tq4]],[.box [tI,.all 1 3,tI,.all 2 2,.all 3 3],.rows 80 true tq5,.rows 82 true J6,.rows 80 true tq5]⟩
noncomputable def C23 (x1_0 x1_1:Int) (x1_2:Lq2) (p0 p2:Int) (h1:Lq1) (h2:LBBe) (h3:Lq1):Int×Int×Lq1×LBBe×Lq1:=let z1:=V3 x1_0 x1_1 x1_2;let z2:=D3Y x1_0 x1_1 x1_2 h2 h3;(p0,p2,h1++[((z1.1),((z1.2.1),(z1.2.2)))],(z2.2.1),(z2.2.2.1))
noncomputable abbrev C9Y (r:Int×Int×Lq1×LBBe×Lq1):AV×List AObj×List Nat:=((.tup []),[(.box [(ti r.1),(.all 1 3),(ti r.2.1),(.all 2 2),(.all 3 3)]),(.rows 80 true tq5 r.2.2.1),(.rows 82 true J6 r.2.2.2.1),(.rows 80 true tq5 r.2.2.2.2)],[1,2,3])
noncomputable abbrev D0j:B7J.den→AV×List AObj×List Nat:=fun d=>C9Y (C23 d.1.2.1.1 d.1.2.1.2.1 d.1.2.1.2.2.1 d.2.1.1 d.2.1.2.2.1 d.2.2.1 d.2.2.2.1 d.2.2.2.2.1)
noncomputable def B2t (x1_0 x1_1:Int) (x1_2:Lq2) (p0 p2:Int) (h1:Lq1) (h2:LBBe) (h3:Lq1):Bool:=let z1:=V3 x1_0 x1_1 x1_2;(B9v x1_0 x1_1 x1_2 h2 h3)&&((O8 x1_0 x1_1 x1_2)&&(decide ((h1.length+[((z1.1),((z1.2.1),(z1.2.2)))].length)*40≤MAXB)))
noncomputable abbrev C6l:B7J.den→Bool:=fun d=>B2t d.1.2.1.1 d.1.2.1.2.1 d.1.2.1.2.2.1 d.2.1.1 d.2.1.2.2.1 d.2.2.1 d.2.2.2.1 d.2.2.2.2.1
theorem D3S:A7W G40 aLn Tryz.f47 B7J C6l D0j:=by
 rintro ⟨⟨_,⟨x1_0,x1_1,x1_2,_⟩,_⟩,⟨⟨p0,_,p2,_,_,_⟩,h1,h2,h3,_⟩⟩ hp
 change B2t x1_0 x1_1 x1_2 p0 p2 h1 h2 h3=true at hp
 unfold B2t at hp
 refine Eq.trans (b:=(let z1:=V3 x1_0 x1_1 x1_2;let z2:=D3Y x1_0 x1_1 x1_2 h2 h3;cond (B9v x1_0 x1_1 x1_2 h2 h3) (cond (O8 x1_0 x1_1 x1_2) (cond (decide ((h1.length+[((z1.1),((z1.2.1),(z1.2.2)))].length)*40≤MAXB)) (some (C9Y (p0,p2,h1++[((z1.1),((z1.2.1),(z1.2.2)))],(z2.2.1),(z2.2.2.1)))) none) none) none)) (by kernel_rfl) ?_
 exact (A7Y hp fun hp=>(A7Y hp fun hp=>(A70 hp fun _h=>rfl)))
noncomputable abbrev D0A:=win F0 (msum B7J C6l D0j)
theorem D52:aPM 47 D0A:=(mcM G40 hlz D3S).win F0
noncomputable def S41:Tab:=Tab.add S40 47 (D0A)
noncomputable def E0q:FuncId→Bool:=E0p
theorem G41:aPG S41 E0q:=G40.addM D52 (A7y _) (cbl Tryz.f47) (by kernel_rfl)

abbrev B9R:SS:=⟨[.ptr 0 0 1 0,tI,.t false tq4],[.box [tI,.all 1 3,tI,.all 2 2,.all 3 3],.rows 80 true tq5,.rows 82 true J6,.rows 80 true tq5]⟩
noncomputable def C9E (x1:Int) (x2:Lq2) (p0 p2:Int) (h1:Lq1) (h2:LBBe) (h3:Lq1):Int×Int×Int×Lq1×LBBe×Lq1:=let z1:=C23 (1:Int) x1 (B06 x2) p0 p2 h1 h2 h3;let z2:=B2v p0 h1 p2 h2 h3 x1;(cond (!(P1 x1 (1:Int) (1000000:Int))) ((5:Int),p0,p2,h1,h2,h3) (cond (!(B3M x2)) ((5:Int),p0,p2,h1,h2,h3) (cond (z2 != (2:Int)) (z2,p0,p2,h1,h2,h3) (cond (A8v h3 x2) ((2:Int),p0,p2,h1,h2,h3) (cond (!(B5G h2 x2)) ((2:Int),p0,p2,h1,h2,h3) (cond (decide ((C3G p0 h1 p2 h2 h3 x2) > (60:Int))) ((2:Int),p0,p2,h1,h2,h3) (cond (decide ((wI ((wI ((h1.length:Int)+(h3.length:Int)))+(2:Int))) > (300:Int))) ((2:Int),p0,p2,h1,h2,h3) ((1:Int),(z1.1),(z1.2.1),(z1.2.2.1),(z1.2.2.2.1),(z1.2.2.2.2)))))))))
noncomputable abbrev A8u (r:Int×Int×Int×Lq1×LBBe×Lq1):AV×List AObj×List Nat:=((ti r.1),[(.box [(ti r.2.1),(.all 1 3),(ti r.2.2.1),(.all 2 2),(.all 3 3)]),(.rows 80 true tq5 r.2.2.2.1),(.rows 82 true J6 r.2.2.2.2.1),(.rows 80 true tq5 r.2.2.2.2.2)],[1,2,3])
noncomputable abbrev D16:B9R.den→AV×List AObj×List Nat:=fun d=>A8u (C9E d.1.2.1 d.1.2.2.1 d.2.1.1 d.2.1.2.2.1 d.2.2.1 d.2.2.2.1 d.2.2.2.2.1)
noncomputable def B4w (x1:Int) (x2:Lq2) (p0 p2:Int) (h1:Lq1) (h2:LBBe) (h3:Lq1):Bool:=cond (!(P1 x1 (1:Int) (1000000:Int))) true ((B7r x2)&&(cond (!(B3M x2)) true ((A8M p0 h1 p2 h2 h3 x1)&&(cond ((B2v p0 h1 p2 h2 h3 x1) != (2:Int)) true ((Y9 h3 x2)&&(cond (A8v h3 x2) true ((B03 h2 x2)&&(cond (!(B5G h2 x2)) true ((B4x p0 h1 p2 h2 h3 x2)&&(cond (decide ((C3G p0 h1 p2 h2 h3 x2) > (60:Int))) true (cond (decide ((wI ((wI ((h1.length:Int)+(h3.length:Int)))+(2:Int))) > (300:Int))) true ((A8K x2)&&(B2t (1:Int) x1 (B06 x2) p0 p2 h1 h2 h3)))))))))))))
noncomputable abbrev C8A:B9R.den→Bool:=fun d=>B4w d.1.2.1 d.1.2.2.1 d.2.1.1 d.2.1.2.2.1 d.2.2.1 d.2.2.2.1 d.2.2.2.2.1
theorem D5o:A7V false [] [1,2,3] [] G41 aLn Tryz.f20 B9R C8A D16:=by
 rintro ⟨⟨_,x1,x2,_⟩,⟨⟨p0,_,p2,_,_,_⟩,h1,h2,h3,_⟩⟩ hp
 change B4w x1 x2 p0 p2 h1 h2 h3=true at hp
 unfold B4w at hp
 refine Eq.trans (b:=(let z1:=C23 (1:Int) x1 (B06 x2) p0 p2 h1 h2 h3;let z2:=A8u ((2:Int),p0,p2,h1,h2,h3);let z3:=A8u ((5:Int),p0,p2,h1,h2,h3);let z4:=B2v p0 h1 p2 h2 h3 x1;cond (!(P1 x1 (1:Int) (1000000:Int))) (some z3) (cond (B7r x2) (cond (!(B3M x2)) (some z3) (cond (A8M p0 h1 p2 h2 h3 x1) (cond (z4 != (2:Int)) (some (A8u (z4,p0,p2,h1,h2,h3))) (cond (Y9 h3 x2) (cond (A8v h3 x2) (some z2) (cond (B03 h2 x2) (cond (!(B5G h2 x2)) (some z2) (cond (B4x p0 h1 p2 h2 h3 x2) (cond (decide ((C3G p0 h1 p2 h2 h3 x2) > (60:Int))) (some z2) (cond (decide ((wI ((wI ((h1.length:Int)+(h3.length:Int)))+(2:Int))) > (300:Int))) (some z2) (cond (A8K x2) (cond (B2t (1:Int) x1 (B06 x2) p0 p2 h1 h2 h3) (some (A8u ((1:Int),(z1.1),(z1.2.1),(z1.2.2.1),(z1.2.2.2.1),(z1.2.2.2.2)))) none) none))) none)) none)) none)) none)) none))) (by kernel_rfl) ?_
 exact (K9 A8u hp (fun hp=>rfl) (fun hp=>(A7Y hp fun hp=>(K9 A8u hp (fun hp=>rfl) (fun hp=>(A7Y hp fun hp=>(K9 A8u hp (fun hp=>rfl) (fun hp=>(A7Y hp fun hp=>(K9 A8u hp (fun hp=>rfl) (fun hp=>(A7Y hp fun hp=>(K9 A8u hp (fun hp=>rfl) (fun hp=>(A7Y hp fun hp=>(K9 A8u hp (fun hp=>rfl) (fun hp=>(K9 A8u hp (fun hp=>rfl) (fun hp=>(A7Y hp fun hp=>(A70 hp fun _h=>rfl)))))))))))))))))))))
noncomputable abbrev D2b:=win F0 (msum B9R C8A D16)
theorem D7i:aPM 20 D2b:=(mcE false [] [1,2,3] []  G41 hlz D5o).win F0
noncomputable def S42:Tab:=Tab.add S41 20 (D2b)
noncomputable def E0r:FuncId→Bool:=E0q
theorem G42:aPG S42 E0r:=G41.addM D7i (A7y _) (cbl Tryz.f20) (by kernel_rfl)

abbrev C5D:List PSh:=[.agg [(.int .i64),tq3,(.int .i64),tq6,tq3],.t (.int .i64),.t tq4]
noncomputable def D0p (a0:Int) (a1:Lq1) (a2:Int) (a3:LBBe) (a4:Lq1) (a5:Int) (a6:Lq2):=let z1:=C0I a0 a1 a2 a3 a4;C9E a5 a6 (z1.1) (z1.2.1) (z1.2.2.1) (z1.2.2.2.1) (z1.2.2.2.2)
noncomputable def D5r (a0:Int) (a1:Lq1) (a2:Int) (a3:LBBe) (a4:Lq1) (a5:Int) (a6:Lq2):Int×Lq1×Int×LBBe×Lq1×Int:=let z1:=D0p a0 a1 a2 a3 a4 a5 a6;let z2:=C0I a0 a1 a2 a3 a4;(cond (!(B9x a0 a1 a2 a3 a4)) ((z2.1),(z2.2.2.1),(z2.2.1),(z2.2.2.2.1),(z2.2.2.2.2),(5:Int)) ((z1.2.1),(z1.2.2.2.1),(z1.2.2.1),(z1.2.2.2.2.1),(z1.2.2.2.2.2),(z1.1)))
noncomputable abbrev C9t (r:Int×Lq1×Int×LBBe×Lq1×Int):AV×List AObj:=((.tup [(.agg [(ti r.1),(.t true tq3 r.2.1),(ti r.2.2.1),(.t true tq6 r.2.2.2.1),(.t true tq3 r.2.2.2.2.1)]),(ti r.2.2.2.2.2)]),[])
noncomputable abbrev D2S:D9 C5D→AV×List AObj:=fun d=>C9t (D5r d.1.1 d.1.2.1 d.1.2.2.1 d.1.2.2.2.1 d.1.2.2.2.2.1 d.2.1 d.2.2.1)
noncomputable def B77 (a0:Int) (a1:Lq1) (a2:Int) (a3:LBBe) (a4:Lq1) (a5:Int) (a6:Lq2):Bool:=let z1:=C0I a0 a1 a2 a3 a4;(B4v a0 a1 a2 a3 a4)&&((B2s a0 a1 a2 a3 a4)&&(cond (!(B9x a0 a1 a2 a3 a4)) true (B4w a5 a6 (z1.1) (z1.2.1) (z1.2.2.1) (z1.2.2.2.1) (z1.2.2.2.2))))
noncomputable abbrev C7I:D9 C5D→Bool:=fun d=>B77 d.1.1 d.1.2.1 d.1.2.2.1 d.1.2.2.2.1 d.1.2.2.2.2.1 d.2.1 d.2.2.1
theorem D7F:A7X true G42 aLn Tryz.f6 C5D C7I D2S:=by
 rintro ⟨⟨a0,⟨a1,⟨a2,⟨a3,⟨a4,_⟩⟩⟩⟩⟩,⟨a5,⟨a6,_⟩⟩⟩ hp
 change B77 a0 a1 a2 a3 a4 a5 a6=true at hp
 unfold B77 at hp
 refine Eq.trans (b:=(let z1:=C0I a0 a1 a2 a3 a4;let z2:=D0p a0 a1 a2 a3 a4 a5 a6;cond (B4v a0 a1 a2 a3 a4) (cond (B2s a0 a1 a2 a3 a4) (cond (!(B9x a0 a1 a2 a3 a4)) (some (C9t ((z1.1),(z1.2.2.1),(z1.2.1),(z1.2.2.2.1),(z1.2.2.2.2),(5:Int)))) (cond (B4w a5 a6 (z1.1) (z1.2.1) (z1.2.2.1) (z1.2.2.2.1) (z1.2.2.2.2)) (some (C9t ((z2.2.1),(z2.2.2.2.1),(z2.2.2.1),(z2.2.2.2.2.1),(z2.2.2.2.2.2),(z2.1)))) none)) none) none)) (by kernel_rfl) ?_
 exact (A7Y hp fun hp=>(A7Y hp fun hp=>(K9 C9t hp (fun hp=>rfl) (fun hp=>(A70 hp fun _h=>rfl)))))
theorem D85:aPP 6 (A19 C5D C7I D2S):=pcD true G42 hlz D7F
noncomputable def S43:Tab:=Tab.add S42 6 (lift (A19 C5D C7I D2S))
noncomputable def D8V:FuncId→Bool:=qadd E0r 6
theorem G43:aPG S43 D8V:=G42.addQ D85 (cbl Tryz.f6) (fun _=>rfl)

abbrev A9v:List PSh:=[.t tq4]
noncomputable def J5 (a0:Lq2):Lq2:=a0
noncomputable abbrev A8e (r:Lq2):AV×List AObj:=(.all 0 3,[.rows 54 true tq8 r])
noncomputable abbrev B63:D9 A9v→AV×List AObj:=fun d=>A8e (J5 d.1)
noncomputable def J0 (a0:Lq2):Bool:=decide ((([]:Lq2).length+a0.length)*40≤MAXB)
noncomputable abbrev B5c:D9 A9v→Bool:=fun d=>J0 d.1
theorem C3J (a0:Lq2) (h0:0<a0.length) (hp:J0 a0=true):A6Y false Tryz.prog tt S43 D8V aLn Tryz.f63 [.t (Ty.sl tq8).flat tq4 a0]=some (A8e a0):=by
 refine Eq.trans (b:=cond (decide (0<a0.length)) (cond (J0 a0) (some (A8e a0)) none) none) (by kernel_rfl) ?_
 rw [decide_eq_true h0,hp];rfl
theorem C3K (A:Option Addr) (c:Nat):A6Y false Tryz.prog tt S43 D8V aLn Tryz.f63 [.raw (.slice A 0 c)]=some (A8e []):=by
 cases A<;>kernel_rfl
theorem C4A:aPP 63 (A19 A9v B5c B63):=PContract.split (e:=tq8) (pre:=J0) (g:=fun a0=>A8e (J5 a0)) (fun l h0 hp=>PCalls.of_run false G43 (fn:=Tryz.f63) (by kernel_rfl) (L:=fun _ _=>none) (by rw [show D5 0 (A1o Tryz.f63)=[] by kernel_rfl];simp) (C3J l h0 hp) rfl rfl) (fun A c=>PCalls.of_run false G43 (fn:=Tryz.f63) (by kernel_rfl) (L:=fun _ _=>none) (by rw [show D5 0 (A1o Tryz.f63)=[] by kernel_rfl];simp) (C3K A c) rfl rfl)
noncomputable def S44:Tab:=Tab.add S43 63 (lift (A19 A9v B5c B63))
noncomputable def E0s:FuncId→Bool:=D8V
theorem G44:aPG S44 E0s:=G43.add C4A ⟨Tryz.f63,by kernel_rfl,by kernel_rfl,by kernel_rfl⟩ (by kernel_rfl)

abbrev B4U:List PSh:=[.t tq3]
abbrev A0q:SS:=⟨(.junk::.junk::.junk::.all 0 3::.junk::.junk::.t false tq3::tI::tI::E1A),[.deep 80 [54] tq5]⟩
abbrev C0V:SS:=⟨(.junk::.junk::.junk::.all 0 3::D4G),[.deep 80 [54] tq5]⟩
noncomputable def C3b (x6:Lq1) (x7 x8:Int) (h0:Lq1):RT A0q.den:=let z1:=x6.getD x8.toNat ((0:Int),((0:Int),[]));let z2:=J5 ((z1.2).2);(.br (decide (x8<x7)) (.br (decide (0≤x8∧x8<(x6.length:Int))) (.br (J0 ((z1.2).2)) (.br (decide ((h0.length+([(z1.1,((z1.2).1,z2))]:Lq1).length)*40≤MAXB)) (.next (((),(),(),(),(),(),x6,x7,wI (x8+(1:Int)),u14),(h0++([(z1.1,((z1.2).1,z2))]),()))) .fail) .fail) .fail) (.done (.exit 0) C0V ((u23),(h0,()))))
abbrev B1S:=(Lq1)×(Int)×(Int)×(Lq1)
abbrev B1E:=Nat×(Lq1)
def B0J:B1E:=(99,([]:Lq1))
noncomputable def B09 (x6:Lq1) (x7 x8:Int) (h0:Lq1):B1S ⊕ B1E:=let z1:=x6.getD x8.toNat ((0:Int),((0:Int),[]));let z2:=J5 ((z1.2).2);(cond (decide (x8<x7)) (cond (decide (0≤x8∧x8<(x6.length:Int))) (cond (J0 ((z1.2).2)) (cond (decide ((h0.length+([(z1.1,((z1.2).1,z2))]:Lq1).length)*40≤MAXB)) (.inl (x6,x7,wI (x8+(1:Int)),h0++([(z1.1,((z1.2).1,z2))]))) (.inr B0J)) (.inr B0J)) (.inr B0J)) (.inr (0,h0)))
noncomputable def C2q (x6:Lq1) (x7 x8:Int) (h0:Lq1):B1E:=itX (fun v:B1S=>B09 v.1 v.2.1 v.2.2.1 v.2.2.2) B0J (x6,x7,x8,h0)
noncomputable def B6U (a:B1E):CT:=(.br (a.1==0) (.done (.exit 0) C0V ((u23),(a.2,()))) .fail)
noncomputable def D1j (x6:Lq1) (x7 x8:Int) (h0:Lq1):CT:=B6U (C2q x6 x7 x8 h0)
noncomputable abbrev C10 {α:Sort _} (f:Lq1→Int→Int→Lq1→α) (d:A0q.den):α:=f d.1.2.2.2.2.2.2.1 d.1.2.2.2.2.2.2.2.1 d.1.2.2.2.2.2.2.2.2.1 d.2.1
noncomputable abbrev B7t:A0q.den→RT A0q.den:=(C10 C3b)
noncomputable def B80:Code:=((D5 0 (A1o Tryz.f51)).getD 0 (0,.skip)).2
noncomputable abbrev C2O (v:B1S):A0q.den:=(((),(),(),(),(),(),v.1,v.2.1,v.2.2.1,u14),(v.2.2.2,()))
theorem D0P:(∀ v:B1S,(C3b v.1 v.2.1 v.2.2.1 v.2.2.2).val=A6W C2O B6U (B09 v.1 v.2.1 v.2.2.1 v.2.2.2))∧∀ a:B1E,CEnd A0q.den (B6U a):=⟨fun v=>(A72 (A72 (A72 (A72 rfl rfl) rfl) rfl) rfl),fun a=>(A7P aCD A7R)⟩
theorem C84:RdA (G44.deep ow) aLn 0 B80 A0q 0 [] (kepts [] [(0,[3])]) (fun d=>(B7t d).opt 0 []):=by
 intro d
 kernel_rfl
noncomputable abbrev C1o:St→Option Tree:=A0q.say 0 [] [(3,540000080,tq5)] (C10 D1j)
theorem D0r:aPL C1o B80:=SS.wp2 hlz [(3,540000080,tq5)] B7t C84 (fun d=>rfl) _ (fun d=>Runs.ofI2 (step:=B7t) C2O D0P rfl (d.1.2.2.2.2.2.2.1,d.1.2.2.2.2.2.2.2.1,d.1.2.2.2.2.2.2.2.2.1,d.2.1))
noncomputable def B3z (a0:Lq1):=C2q a0 (a0.length:Int) (0:Int) ([]:Lq1)
noncomputable def B4p (a0:Lq1):Lq1:=((B3z a0).2)
noncomputable abbrev C79 (r:Lq1):AV×List AObj:=((.all 0 3),[(.deep 80 [54] tq5 r)])
noncomputable abbrev C2k:D9 B4U→AV×List AObj:=fun d=>C79 (B4p d.1)
noncomputable def A8H (a0:Lq1):Bool:=((B3z a0).1==0)
noncomputable abbrev B8q:D9 B4U→Bool:=fun d=>A8H d.1
noncomputable abbrev D31:Nat→St→Option Tree:=fun b=>match b with | 0=>C1o | _=>fun _=>none
theorem D1P:A7X false (G44.deep ow) (D31) Tryz.f51 B4U B8q C2k:=by
 rintro ⟨a0,_⟩ hp
 change A8H a0=true at hp
 unfold A8H at hp
 refine Eq.trans (b:=(cond ((B3z a0).1==0) (some (C79 ((B3z a0).2))) none)) (by kernel_rfl) ?_
 exact (A70 hp fun _h=>rfl)
theorem D4j:aPP 51 (A19 B4U B8q C2k):=pcD false (G44.deep ow) (hl1 (i:=0) (by kernel_rfl) D0r) D1P
noncomputable def S45:Tab:=Tab.add S44 51 (lift (A19 B4U B8q C2k))
noncomputable def D8W:FuncId→Bool:=E0s
theorem G45:aPG S45 D8W:=G44.add D4j (cbl Tryz.f51) (by kernel_rfl)

abbrev A8x:List PSh:=[.t tq6]
noncomputable def L6 (a0:LBBe):LBBe:=a0
noncomputable abbrev Y6 (r:LBBe):AV×List AObj:=(.all 0 2,[.rows 82 true J6 r])
noncomputable abbrev B44:D9 A8x→AV×List AObj:=fun d=>Y6 (L6 d.1)
noncomputable def K1 (a0:LBBe):Bool:=decide ((([]:LBBe).length+a0.length)*32≤MAXB)
noncomputable abbrev B3G:D9 A8x→Bool:=fun d=>K1 d.1
theorem C1B (a0:LBBe) (h0:0<a0.length) (hp:K1 a0=true):A6Y false Tryz.prog tt S45 D8W aLn Tryz.f52 [.t (Ty.sl J6).flat tq6 a0]=some (Y6 a0):=by
 refine Eq.trans (b:=cond (decide (0<a0.length)) (cond (K1 a0) (some (Y6 a0)) none) none) (by kernel_rfl) ?_
 rw [decide_eq_true h0,hp];rfl
theorem C1C (A:Option Addr) (c:Nat):A6Y false Tryz.prog tt S45 D8W aLn Tryz.f52 [.raw (.slice A 0 c)]=some (Y6 []):=by
 cases A<;>kernel_rfl
theorem C19:aPP 52 (A19 A8x B3G B44):=PContract.split (e:=J6) (pre:=K1) (g:=fun a0=>Y6 (L6 a0)) (fun l h0 hp=>PCalls.of_run false G45 (fn:=Tryz.f52) (by kernel_rfl) (L:=fun _ _=>none) (by rw [show D5 0 (A1o Tryz.f52)=[] by kernel_rfl];simp) (C1B l h0 hp) rfl rfl) (fun A c=>PCalls.of_run false G45 (fn:=Tryz.f52) (by kernel_rfl) (L:=fun _ _=>none) (by rw [show D5 0 (A1o Tryz.f52)=[] by kernel_rfl];simp) (C1C A c) rfl rfl)
noncomputable def S46:Tab:=Tab.add S45 52 (lift (A19 A8x B3G B44))
noncomputable def E0t:FuncId→Bool:=D8W
theorem G46:aPG S46 E0t:=G45.add C19 ⟨Tryz.f52,by kernel_rfl,by kernel_rfl,by kernel_rfl⟩ (by kernel_rfl)

abbrev B22:List PSh:=[.agg [(.int .i64),tq3,(.int .i64),tq6,tq3]]
noncomputable def B2m (a0:Int) (a1:Lq1) (a2:Int) (a3:LBBe) (a4:Lq1):Int×Int×Lq1×LBBe×Lq1:=(a0,a2,(B4p a1),(L6 a3),(B4p a4))
noncomputable abbrev C5R (r:Int×Int×Lq1×LBBe×Lq1):AV×List AObj:=((.agg [(ti r.1),(.all 0 3),(ti r.2.1),(.all 1 2),(.all 2 3)]),[(.deep 80 [54] tq5 r.2.2.1),(.rows 82 true J6 r.2.2.2.1),(.deep 80 [54] tq5 r.2.2.2.2)])
noncomputable abbrev B99:D9 B22→AV×List AObj:=fun d=>C5R (B2m d.1.1 d.1.2.1 d.1.2.2.1 d.1.2.2.2.1 d.1.2.2.2.2.1)
noncomputable def A9F (a0:Int) (a1:Lq1) (a2:Int) (a3:LBBe) (a4:Lq1):Bool:=(A8H a1)&&((K1 a3)&&(A8H a4))
noncomputable abbrev B7a:D9 B22→Bool:=fun d=>A9F d.1.1 d.1.2.1 d.1.2.2.1 d.1.2.2.2.1 d.1.2.2.2.2.1
theorem D0V:A7X false (G46.deep ow) aLn Tryz.f24 B22 B7a B99:=by
 rintro ⟨⟨a0,⟨a1,⟨a2,⟨a3,⟨a4,_⟩⟩⟩⟩⟩,_⟩ hp
 change A9F a0 a1 a2 a3 a4=true at hp
 unfold A9F at hp
 refine Eq.trans (b:=(cond (A8H a1) (cond (K1 a3) (cond (A8H a4) (some (C5R (a0,a2,(B4p a1),(L6 a3),(B4p a4)))) none) none) none)) (by kernel_rfl) ?_
 exact (A7Y hp fun hp=>(A7Y hp fun hp=>(A70 hp fun _h=>rfl)))
theorem D2y:aPP 24 (A19 B22 B7a B99):=pcD false (G46.deep ow) hlz D0V
noncomputable def S47:Tab:=Tab.add S46 24 (lift (A19 B22 B7a B99))
noncomputable def E0u:FuncId→Bool:=E0t
theorem G47:aPG S47 E0u:=G46.add D2y (cbl Tryz.f24) (by kernel_rfl)

abbrev B6u:List PSh:=[.t (.int .i64),.t (.int .i64),.t (.int .i64)]
noncomputable def A8E (a0 a1 a2:Int):Bool:=(cond (decide (a0 ≥ a1)) (decide (a0≤a2)) false)
noncomputable abbrev B92 (r:Bool):AV×List AObj:=((.t true .bool r),[])
noncomputable abbrev C4G:D9 B6u→AV×List AObj:=fun d=>B92 (A8E d.1 d.2.1 d.2.2.1)
noncomputable abbrev C0u:D9 B6u→Bool:=fun d=>true
theorem D3H:A7X true G47 aLn Tryz.f54 B6u C0u C4G:=by
 rintro ⟨a0,⟨a1,⟨a2,_⟩⟩⟩ hp
 refine Eq.trans (b:=(cond (decide (a0 ≥ a1)) (some (B92 (decide (a0≤a2)))) (some (B92 false)))) (by kernel_rfl) ?_
 exact (Q7 B92 (fun _h=>rfl) (fun _h=>rfl))
theorem D5R:aPP 54 (A19 B6u C0u C4G):=pcD true G47 hlz D3H
noncomputable def S48:Tab:=Tab.add S47 54 (lift (A19 B6u C0u C4G))
noncomputable def E0v:FuncId→Bool:=qadd E0u 54
theorem G48:aPG S48 E0v:=G47.addQ D5R (cbl Tryz.f54) (fun _=>rfl)

abbrev C5x:List PSh:=[.t (.int .i64)]
noncomputable def D17 (a0:Int):Bool:=(A8E a0 (0:Int) (7:Int))
noncomputable abbrev D89 (r:Bool):AV×List AObj:=((.t true .bool r),[])
noncomputable abbrev D2M:D9 C5x→AV×List AObj:=fun d=>D89 (D17 d.1)
noncomputable abbrev C7C:D9 C5x→Bool:=fun d=>true
theorem D7z:A7X true G48 aLn Tryz.f53 C5x C7C D2M:=by
 rintro ⟨a0,_⟩ hp
 kernel_rfl
theorem D8Z:aPP 53 (A19 C5x C7C D2M):=pcD true G48 hlz D7z
noncomputable def S49:Tab:=Tab.add S48 53 (lift (A19 C5x C7C D2M))
noncomputable def E0w:FuncId→Bool:=qadd E0v 53
theorem G49:aPG S49 E0w:=G48.addQ D8Z (cbl Tryz.f53) (fun _=>rfl)

abbrev C5y:List PSh:=[.t (.int .i64)]
noncomputable def C1a (a0:Int):Bool:=(A8E a0 (1:Int) (1000000:Int))
noncomputable abbrev D9a (r:Bool):AV×List AObj:=((.t true .bool r),[])
noncomputable abbrev D2N:D9 C5y→AV×List AObj:=fun d=>D9a (C1a d.1)
noncomputable abbrev C7D:D9 C5y→Bool:=fun d=>true
theorem D7A:A7X true G49 aLn Tryz.f59 C5y C7D D2N:=by
 rintro ⟨a0,_⟩ hp
 kernel_rfl
theorem D80:aPP 59 (A19 C5y C7D D2N):=pcD true G49 hlz D7A
noncomputable def S50:Tab:=Tab.add S49 59 (lift (A19 C5y C7D D2N))
noncomputable def E0x:FuncId→Bool:=qadd E0w 59
theorem G50:aPG S50 E0x:=G49.addQ D80 (cbl Tryz.f59) (fun _=>rfl)

abbrev B24:List PSh:=[.t (.int .u8)]
noncomputable def B64 (a0:Int):Bool:=let z1:=decide (a0 ≥ (48:Int));let z2:=decide (a0≤(57:Int));(cond (decide (a0 ≥ (97:Int))) (cond (decide (a0≤(122:Int))) true (cond z1 z2 false)) (cond z1 z2 false))
noncomputable abbrev A0m (r:Bool):AV×List AObj:=((.t true .bool r),[])
noncomputable abbrev C0b:D9 B24→AV×List AObj:=fun d=>A0m (B64 d.1)
noncomputable abbrev B7c:D9 B24→Bool:=fun d=>true
theorem D0X:A7X true G50 aLn Tryz.f97 B24 B7c C0b:=by
 rintro ⟨a0,_⟩ hp
 refine Eq.trans (b:=(let z1:=A0m (decide (a0≤(57:Int)));let z2:=decide (a0 ≥ (48:Int));cond (decide (a0 ≥ (97:Int))) (cond (decide (a0≤(122:Int))) (some (A0m true)) (cond z2 (some z1) (some (A0m false)))) (cond z2 (some z1) (some (A0m false))))) (by kernel_rfl) ?_
 exact (Q7 A0m (fun _h=>(Q7 A0m (fun _h=>rfl) (fun _h=>(Q7 A0m (fun _h=>rfl) (fun _h=>rfl))))) (fun _h=>(Q7 A0m (fun _h=>rfl) (fun _h=>rfl))))
theorem D2A:aPP 97 (A19 B24 B7c C0b):=pcD true G50 hlz D0X
noncomputable def S51:Tab:=Tab.add S50 97 (lift (A19 B24 B7c C0b))
noncomputable def E0y:FuncId→Bool:=qadd E0x 97
theorem G51:aPG S51 E0y:=G50.addQ D2A (cbl Tryz.f97) (fun _=>rfl)

abbrev E1z:List Sh:=.junk::.junk::.junk::.junk::.junk::.junk::.junk::.junk::.junk::.junk::.junk::[]
abbrev u12:=((),(),(),(),(),(),(),(),(),(),(),())
noncomputable def C0k (s:ByteArray) (i:Nat):Bool:=B64 (bt s (i:Int))
abbrev B8N:List PSh:=[.t .str]
abbrev B0w:SS:=⟨(.t true .str::.junk::.junk::tI::E1z),[]⟩
abbrev C3L:SS:=⟨(.junk::.junk::.t true .bool::D8w),[]⟩
abbrev C3M:SS:=⟨(.junk::D7p),[]⟩
noncomputable def C0T (x0:ByteArray) (x3:Int):RT B0w.den:=(.br (decide (x3<(x0.size:Int))) (.br (decide (0≤x3∧x3<(x0.size:Int))) (.br (!(B64 (bt x0 x3))) (.done .ret C3L (((),(),false,u13),())) (.next ((x0,(),(),wI (x3+(1:Int)),u12),()))) .fail) (.done (.exit 0) C3M ((u16),())))
noncomputable def B4Y (x0:ByteArray) (x3:Int):CT:=(.br (decide (0≤x3)&&okS x0) (.br (A4W (C0k x0) (x0.size - x3.toNat) x3.toNat) (.done (.exit 0) C3M ((u16),())) (.done .ret C3L (((),(),false,u13),()))) .fail)
noncomputable abbrev B3P:B0w.den→RT B0w.den:=(fun d=>C0T d.1.1 d.1.2.2.2.1)
noncomputable abbrev C6j (x0:ByteArray) (x3:Int):B0w.den:=((x0,(),(),x3,u12),())
noncomputable def C11:Code:=((D5 0 (A1o Tryz.f92)).getD 0 (0,.skip)).2
theorem D36 (x0:ByteArray) (x3:Int):(B4Y x0 x3).val (D:=B0w.den)=.fail∨Runs B3P (C6j x0 x3) (B4Y x0 x3).val:=by
 cases hc:(decide (0≤x3)&&okS x0) with
 | false=>left;simp only [B4Y,CT.val,hc,cond_false]
 | true =>
  right
  simp only [B4Y,CT.val,hc,cond_true]
  simp only [Bool.and_eq_true,decide_eq_true_eq] at hc
  obtain ⟨i,rfl⟩:=Int.eq_ofNat_of_zero_le hc.1
  have hs:=A7M hc.2
  simp only [Int.toNat_natCast]
  refine Runs.scan (fun j=>C6j x0 (j:Int)) (x0.size) (C0k x0) (fun i hi=>?_) (fun i hi=>?_) ⟨_,_,_,rfl,by simp⟩ ⟨_,_,_,rfl,by simp⟩ _ _ rfl
  ·
   have h0a:decide ((i:Int)<(x0.size:Int))=true:=decide_eq_true (by omega)
   have h0b:decide (0≤(i:Int)∧(i:Int)<(x0.size:Int))=true:=decide_eq_true (by omega)
   simp only [B3P,C0T,RT.val,h0a,h0b,cond_true,A7T i (by omega),Int.toNat_natCast]
   simp only [C0k]
   cases B64 (bt x0 (i:Int))<;>rfl
  ·have h1:decide ((i:Int)<(x0.size:Int))=false:=decide_eq_false (by omega)
   simp only [B3P,C0T,RT.val,h1,cond_false]
theorem D1B:RdA G51 aLn 0 C11 B0w 0 [] (kepts [2] [(0,[])]) (fun d=>(B3P d).opt 0 []):=by
 intro d
 kernel_rfl
noncomputable abbrev C4p:St→Option Tree:=B0w.say 0 [] [] (fun d=>B4Y d.1.1 d.1.2.2.2.1)
theorem D24:aPL C4p C11:=SS.wp2 hlz [] B3P D1B (fun d=>rfl) _ (fun d=>D36 d.1.1 d.1.2.2.2.1)
noncomputable def C9y (a0:ByteArray):Bool:=(cond (A4W (C0k a0) (a0.size - (0:Int).toNat) (0:Int).toNat) true false)
noncomputable abbrev C3o (r:Bool):AV×List AObj:=((.t true .bool r),[])
noncomputable abbrev C7f:D9 B8N→AV×List AObj:=fun d=>C3o (C9y d.1)
noncomputable def C3C (a0:ByteArray):Bool:=okS a0
noncomputable abbrev C2z:D9 B8N→Bool:=fun d=>C3C d.1
noncomputable abbrev D6R:Nat→St→Option Tree:=fun b=>match b with | 0=>C4p | _=>fun _=>none
theorem D5b:A7X true G51 (D6R) Tryz.f92 B8N C2z C7f:=by
 rintro ⟨a0,_⟩ hp
 change C3C a0=true at hp
 unfold C3C at hp
 refine Eq.trans (b:=(cond (decide (0≤(0:Int))&&okS a0) (cond (A4W (C0k a0) (a0.size - (0:Int).toNat) (0:Int).toNat) (some (C3o true)) (some (C3o false))) none)) (by kernel_rfl) ?_
 exact (A70 (by first | rfl | decide | exact hp | (simp only [Bool.and_eq_true] at hp;simp only [hp];done) | (simp [*];done) | (simp [okL] at hp;simp [okL,MAXB];omega) | (simp_all;done) | (simp at *;omega)) (fun _h=>(Q7 C3o (fun _h=>rfl) (fun _h=>rfl))))
theorem D65:aPP 92 (A19 B8N C2z C7f):=pcD true G51 (hl1 (i:=0) (by kernel_rfl) D24) D5b
noncomputable def S52:Tab:=Tab.add S51 92 (lift (A19 B8N C2z C7f))
noncomputable def E0z:FuncId→Bool:=qadd E0y 92
theorem G52:aPG S52 E0z:=G51.addQ D65 (cbl Tryz.f92) (fun _=>rfl)

abbrev C1I:List PSh:=[.t .str]
noncomputable def B8n (a0:ByteArray):Bool:=(cond (A8E (a0.size:Int) (1:Int) (12:Int)) (C9y a0) false)
noncomputable abbrev C5O (r:Bool):AV×List AObj:=((.t true .bool r),[])
noncomputable abbrev C91:D9 C1I→AV×List AObj:=fun d=>C5O (B8n d.1)
noncomputable def C6v (a0:ByteArray):Bool:=okS a0
noncomputable abbrev C4U:D9 C1I→Bool:=fun d=>C6v d.1
theorem D6o:A7X true G52 aLn Tryz.f86 C1I C4U C91:=by
 rintro ⟨a0,_⟩ hp
 change C6v a0=true at hp
 unfold C6v at hp
 refine Eq.trans (b:=(cond (A8E (a0.size:Int) (1:Int) (12:Int)) (cond (C3C a0) (some (C5O (C9y a0))) none) (some (C5O false)))) (by kernel_rfl) ?_
 exact (Q7 C5O (fun _h=>(A70 (by first | rfl | decide | exact hp | (simp only [Bool.and_eq_true] at hp;simp only [hp];done) | (simp [*];done) | (simp [okL] at hp;simp [okL,MAXB];omega) | (simp_all;done) | (simp at *;omega)) (fun _h=>rfl))) (fun _h=>rfl))
theorem D74:aPP 86 (A19 C1I C4U C91):=pcD true G52 hlz D6o
noncomputable def S53:Tab:=Tab.add S52 86 (lift (A19 C1I C4U C91))
noncomputable def E0A:FuncId→Bool:=qadd E0z 86
theorem G53:aPG S53 E0A:=G52.addQ D74 (cbl Tryz.f86) (fun _=>rfl)

abbrev C5z:List PSh:=[.agg [(.int .i64),.str,.str]]
noncomputable def D0l (a0:Int) (a1 a2:ByteArray):Bool:=let z1:=decide ((a2.size:Int)≤(20:Int));(cond (a0==(1:Int)) (cond (B8n a1) z1 false) (cond (a0==(3:Int)) (cond (B8n a1) z1 false) (cond (a0==(2:Int)) (cond (B8n a1) (a2.toList==bE.toList) false) false)))
noncomputable abbrev B1e (r:Bool):AV×List AObj:=((.t true .bool r),[])
noncomputable abbrev D2O:D9 C5z→AV×List AObj:=fun d=>B1e (D0l d.1.1 d.1.2.1 d.1.2.2.1)
noncomputable def C3D (a0:Int) (a1 a2:ByteArray):Bool:=okS a1
noncomputable abbrev C7E:D9 C5z→Bool:=fun d=>C3D d.1.1 d.1.2.1 d.1.2.2.1
theorem D7B:A7X true G53 aLn Tryz.f76 C5z C7E D2O:=by
 rintro ⟨⟨a0,⟨a1,⟨a2,_⟩⟩⟩,_⟩ hp
 change C3D a0 a1 a2=true at hp
 unfold C3D at hp
 refine Eq.trans (b:=(let z1:=B1e (decide ((a2.size:Int)≤(20:Int)));let z2:=C6v a1;cond (a0==(1:Int)) (cond z2 (cond (B8n a1) (some z1) (some (B1e false))) none) (cond (a0==(3:Int)) (cond z2 (cond (B8n a1) (some z1) (some (B1e false))) none) (cond (a0==(2:Int)) (cond z2 (cond (B8n a1) (some (B1e (a2.toList==(⟨#[]⟩:ByteArray).toList))) (some (B1e false))) none) (some (B1e false)))))) (by kernel_rfl) ?_
 exact (Q7 B1e (fun _h=>(A70 (by first | rfl | decide | exact hp | (simp only [Bool.and_eq_true] at hp;simp only [hp];done) | (simp [*];done) | (simp [okL] at hp;simp [okL,MAXB];omega) | (simp_all;done) | (simp at *;omega)) (fun _h=>(Q7 B1e (fun _h=>rfl) (fun _h=>rfl))))) (fun _h=>(Q7 B1e (fun _h=>(A70 (by first | rfl | decide | exact hp | (simp only [Bool.and_eq_true] at hp;simp only [hp];done) | (simp [*];done) | (simp [okL] at hp;simp [okL,MAXB];omega) | (simp_all;done) | (simp at *;omega)) (fun _h=>(Q7 B1e (fun _h=>rfl) (fun _h=>rfl))))) (fun _h=>(Q7 B1e (fun _h=>(A70 (by first | rfl | decide | exact hp | (simp only [Bool.and_eq_true] at hp;simp only [hp];done) | (simp [*];done) | (simp [okL] at hp;simp [okL,MAXB];omega) | (simp_all;done) | (simp at *;omega)) (fun _h=>(Q7 B1e (fun _h=>rfl) (fun _h=>rfl))))) (fun _h=>rfl))))))
theorem D81:aPP 76 (A19 C5z C7E D2O):=pcD true G53 hlz D7B
noncomputable def S54:Tab:=Tab.add S53 76 (lift (A19 C5z C7E D2O))
noncomputable def E0B:FuncId→Bool:=qadd E0A 76
theorem G54:aPG S54 E0B:=G53.addQ D81 (cbl Tryz.f76) (fun _=>rfl)

abbrev D9q:List Sh:=.junk::.junk::D9O
abbrev u32:=((),(),u30)
abbrev D9k:List AV:=.junk::.junk::D9L
abbrev E1p:List AV:=.junk::.junk::.junk::.junk::.junk::.junk::.junk::.junk::.junk::.junk::.junk::.junk::.junk::.junk::.junk::.junk::.junk::.junk::.junk::.junk::.junk::.junk::.junk::.junk::.junk::.junk::[]
noncomputable def C58 (l:Lq2) (i:Nat):Bool:=let z1:=l.getD i dOp;let z2:=l.getD (i - 1) dOp;D0l z1.1 z1.2.1 z1.2.2&&(decide (i=0)||!(Op.bytesLess z1.2.1.toList z2.2.1.toList||(z1.2.1.toList==z2.2.1.toList)))
abbrev C1K:List PSh:=[.t tq4]
abbrev A9y:SS:=⟨(.t false tq4::.junk::.junk::.junk::.junk::.t false tq4::tI::tI::D4H),[]⟩
abbrev B9L:SS:=⟨(.junk::.junk::.t true .bool::D9q),[]⟩
abbrev C5k:SS:=⟨(.t false tq4::D4I),[]⟩
noncomputable def C3a (x0 x5:Lq2) (x6 x7:Int):RT A9y.den:=let z1:=x5.getD x7.toNat ((0:Int),(bE,bE));let z2:=wI (x7 - (1:Int));let z3:=((x0.getD (z2.toNat) ((0:Int),(bE,bE))).2).1;(.br (decide (x7<x6)) (.br (decide (0≤x7∧x7<(x5.length:Int))) (.br (C3D (z1.1) ((z1.2).1) ((z1.2).2)) (.br (!(D0l (z1.1) ((z1.2).1) ((z1.2).2))) (.done .ret B9L (((),(),false,u32),())) (.br (decide (x7 > (0:Int))) (.br (decide (0≤z2∧z2<(x0.length:Int))) (.br (Op.bytesLess ((z1.2).1).toList z3.toList||(((z1.2).1).toList==z3.toList)) (.done .ret B9L (((),(),false,u32),())) (.next ((x0,(),(),(),(),x5,x6,wI (x7+(1:Int)),u27),()))) .fail) (.next ((x0,(),(),(),(),x5,x6,wI (x7+(1:Int)),u27),())))) .fail) .fail) (.done (.exit 0) C5k ((x0,u34),())))
noncomputable def B6F (x0 x5:Lq2) (x6 x7:Int):CT:=(.br (decide (0≤x7)&&(decide (x6=(x5.length:Int))&&(decide (x5=x0)&&T6 x5))) (.br (A4W (C58 x5) (x5.length - x7.toNat) x7.toNat) (.done (.exit 0) C5k ((x0,u34),())) (.done .ret B9L (((),(),false,u32),()))) .fail)
noncomputable abbrev B7O {α:Sort _} (f:Lq2→Lq2→Int→Int→α) (d:A9y.den):α:=f d.1.1 d.1.2.2.2.2.2.1 d.1.2.2.2.2.2.2.1 d.1.2.2.2.2.2.2.2.1
noncomputable abbrev B5h:A9y.den→RT A9y.den:=(B7O C3a)
noncomputable abbrev C8u (x0 x5:Lq2) (x6 x7:Int):A9y.den:=((x0,(),(),(),(),x5,x6,x7,u27),())
noncomputable def C30:Code:=((D5 0 (A1o Tryz.f60)).getD 0 (0,.skip)).2
theorem D5D (x0 x5:Lq2) (x6 x7:Int):(B6F x0 x5 x6 x7).val (D:=A9y.den)=.fail∨Runs B5h (C8u x0 x5 x6 x7) (B6F x0 x5 x6 x7).val:=by
 cases hc:(decide (0≤x7)&&(decide (x6=(x5.length:Int))&&(decide (x5=x0)&&T6 x5))) with
 | false=>left;simp only [B6F,CT.val,hc,cond_false]
 | true =>
  right
  simp only [B6F,CT.val,hc,cond_true]
  simp only [Bool.and_eq_true,decide_eq_true_eq] at hc
  obtain ⟨i,rfl⟩:=Int.eq_ofNat_of_zero_le hc.1
  obtain ⟨_,e6,e5,hc⟩:=hc
  subst e5;subst e6
  have hs:=P0 hc
  simp only [Int.toNat_natCast]
  refine Runs.scan (fun j=>C8u x5 x5 (x5.length:Int) (j:Int)) (x5.length) (C58 x5) (fun i hi=>?_) (fun i hi=>?_) ⟨_,_,_,rfl,by simp⟩ ⟨_,_,_,rfl,by simp⟩ _ _ rfl
  ·
   have h0a:decide ((i:Int)<(x5.length:Int))=true:=decide_eq_true (by omega)
   have h0b:decide (0≤(i:Int)∧(i:Int)<(x5.length:Int))=true:=decide_eq_true (by omega)
   simp only [B5h,C3a,RT.val,h0a,h0b,cond_true,A7T i (by omega),Int.toNat_natCast]
   have hq:C3D (x5.getD i dOp).1 (x5.getD i dOp).2.1 (x5.getD i dOp).2.2=true:=(D4W hc i hi).1
   simp only [dOp] at hq
   simp only [hq,cond_true,C58,dOp]
   cases D0l (x5.getD i ((0:Int),((⟨#[]⟩:ByteArray),(⟨#[]⟩:ByteArray)))).1 (x5.getD i ((0:Int),((⟨#[]⟩:ByteArray),(⟨#[]⟩:ByteArray)))).2.1 (x5.getD i ((0:Int),((⟨#[]⟩:ByteArray),(⟨#[]⟩:ByteArray)))).2.2 with
   | false=>rfl
   | true =>
    cases i with
    | zero=>rfl
    | succ i =>
     have h3:decide (((i+1:Nat):Int) > 0)=true:=decide_eq_true (by omega)
     have h4:wI (((i+1:Nat):Int) - 1)=(i:Int):=by have:=A61 (n:=((i+1:Nat):Int) - 1) (by omega) (by omega);omega
     have h5:decide (0≤(i:Int)∧(i:Int)<(x5.length:Int))=true:=decide_eq_true (by omega)
     have h6:decide (i+1=0)=false:=by simp
     simp only [h3,h4,h5,h6,cond_true,Bool.true_and,Bool.false_or,Int.toNat_natCast,Nat.add_sub_cancel,Bool.not_true,cond_false]
     cases (Op.bytesLess (x5.getD (i+1) ((0:Int),((⟨#[]⟩:ByteArray),(⟨#[]⟩:ByteArray)))).2.1.toList (x5.getD i ((0:Int),((⟨#[]⟩:ByteArray),(⟨#[]⟩:ByteArray)))).2.1.toList||((x5.getD (i+1) ((0:Int),((⟨#[]⟩:ByteArray),(⟨#[]⟩:ByteArray)))).2.1.toList==(x5.getD i ((0:Int),((⟨#[]⟩:ByteArray),(⟨#[]⟩:ByteArray)))).2.1.toList))<;>rfl
  ·have h1:decide ((i:Int)<(x5.length:Int))=false:=decide_eq_false (by omega)
   simp only [B5h,C3a,RT.val,h1,cond_false]
noncomputable def C8p (x0 x5:Lq2) (x6 x7:Int):Option (Ex×St):=let z1:=x5.getD x7.toNat ((0:Int),(bE,bE));let z2:=(⟨((.t false tq4 x0)::.junk::.junk::.junk::.junk::(.t false tq4 x5)::(ti x6)::(ti (wI (x7+(1:Int))))::E1p),[],0,[]⟩:St);let z3:=wI (x7 - (1:Int));let z4:=(⟨(.junk::.junk::(.t true .bool false)::D9k),[],0,[]⟩:St);let z5:=((x0.getD (z3.toNat) ((0:Int),(bE,bE))).2).1;(cond (decide (x7<x6)) (cond (decide (0≤x7∧x7<(x5.length:Int))) (cond (C3D (z1.1) ((z1.2).1) ((z1.2).2)) (cond (!(D0l (z1.1) ((z1.2).1) ((z1.2).2))) (some (.ret,z4)) (cond (decide (x7 > (0:Int))) (cond (decide (0≤z3∧z3<(x0.length:Int))) (cond (Op.bytesLess ((z1.2).1).toList z5.toList||(((z1.2).1).toList==z5.toList)) (some (.ret,z4)) (some (.normal,z2))) none) (some (.normal,z2)))) none) none) (some ((.exit 0),(⟨((.t false tq4 x0)::D56),[],0,[]⟩:St))))
theorem D3h:RdA G54 aLn 0 C30 A9y 0 [] (kepts [2] [(0,[0])]) (B7O C8p):=by
 intro d
 kernel_rfl
theorem D3t:∀ d:A9y.den,(B7O C8p) d=(B5h d).opt 0 []:=by
 intro d
 kernel_rfl
noncomputable abbrev C6J:St→Option Tree:=A9y.say 0 [] [] (B7O B6F)
theorem D4M:aPL C6J C30:=SS.wp2 hlz [] B5h D3h D3t _ (fun d=>D5D d.1.1 d.1.2.2.2.2.2.1 d.1.2.2.2.2.2.2.1 d.1.2.2.2.2.2.2.2.1)
noncomputable def B8o (a0:Lq2):Bool:=(cond (A4W (C58 a0) (a0.length - (0:Int).toNat) (0:Int).toNat) (A8E (a0.length:Int) (1:Int) (8:Int)) false)
noncomputable abbrev C5Q (r:Bool):AV×List AObj:=((.t true .bool r),[])
noncomputable abbrev C93:D9 C1K→AV×List AObj:=fun d=>C5Q (B8o d.1)
noncomputable def B7l (a0:Lq2):Bool:=T6 a0
noncomputable abbrev C4W:D9 C1K→Bool:=fun d=>B7l d.1
noncomputable abbrev D7R:Nat→St→Option Tree:=fun b=>match b with | 0=>C6J | _=>fun _=>none
theorem D6q:A7X true G54 (D7R) Tryz.f60 C1K C4W C93:=by
 rintro ⟨a0,_⟩ hp
 change B7l a0=true at hp
 unfold B7l at hp
 refine Eq.trans (b:=(cond (decide (0≤(0:Int))&&(decide ((a0.length:Int)=(a0.length:Int))&&(decide (a0=a0)&&T6 a0))) (cond (A4W (C58 a0) (a0.length - (0:Int).toNat) (0:Int).toNat) (some (C5Q (A8E (a0.length:Int) (1:Int) (8:Int)))) (some (C5Q false))) none)) (by kernel_rfl) ?_
 exact (A70 (by first | rfl | decide | exact hp | (simp only [Bool.and_eq_true] at hp;simp only [hp];done) | (simp [*];done) | (simp [okL] at hp;simp [okL,MAXB];omega) | (simp_all;done) | (simp at *;omega)) (fun _h=>(Q7 C5Q (fun _h=>rfl) (fun _h=>rfl))))
theorem D76:aPP 60 (A19 C1K C4W C93):=pcD true G54 (hl1 (i:=0) (by kernel_rfl) D4M) D6q
noncomputable def S55:Tab:=Tab.add S54 60 (lift (A19 C1K C4W C93))
noncomputable def E0C:FuncId→Bool:=qadd E0B 60
theorem G55:aPG S55 E0C:=G54.addQ D76 (cbl Tryz.f60) (fun _=>rfl)

abbrev C1L:List PSh:=[.agg [(.int .i64),(.int .i64),tq4]]
noncomputable def D2Y (a0 a1:Int) (a2:Lq2):Bool:=(cond (a0==(1:Int)) (cond (C1a a1) (B8o a2) false) (cond (a0==(2:Int)) (cond (C1a a1) ((a2.length:Int)==(0:Int)) false) (cond (a0==(3:Int)) (cond (C1a a1) ((a2.length:Int)==(0:Int)) false) false)))
noncomputable abbrev A88 (r:Bool):AV×List AObj:=((.t true .bool r),[])
noncomputable abbrev C94:D9 C1L→AV×List AObj:=fun d=>A88 (D2Y d.1.1 d.1.2.1 d.1.2.2.1)
noncomputable def B7m (a0 a1:Int) (a2:Lq2):Bool:=T6 a2
noncomputable abbrev C4X:D9 C1L→Bool:=fun d=>B7m d.1.1 d.1.2.1 d.1.2.2.1
theorem D6r:A7X true G55 aLn Tryz.f73 C1L C4X C94:=by
 rintro ⟨⟨a0,⟨a1,⟨a2,_⟩⟩⟩,_⟩ hp
 change B7m a0 a1 a2=true at hp
 unfold B7m at hp
 refine Eq.trans (b:=(let z1:=A88 ((a2.length:Int)==(0:Int));cond (a0==(1:Int)) (cond (C1a a1) (cond (B7l a2) (some (A88 (B8o a2))) none) (some (A88 false))) (cond (a0==(2:Int)) (cond (C1a a1) (some z1) (some (A88 false))) (cond (a0==(3:Int)) (cond (C1a a1) (some z1) (some (A88 false))) (some (A88 false)))))) (by kernel_rfl) ?_
 exact (Q7 A88 (fun _h=>(Q7 A88 (fun _h=>(A70 (by first | rfl | decide | exact hp | (simp only [Bool.and_eq_true] at hp;simp only [hp];done) | (simp [*];done) | (simp [okL] at hp;simp [okL,MAXB];omega) | (simp_all;done) | (simp at *;omega)) (fun _h=>rfl))) (fun _h=>rfl))) (fun _h=>(Q7 A88 (fun _h=>(Q7 A88 (fun _h=>rfl) (fun _h=>rfl))) (fun _h=>(Q7 A88 (fun _h=>(Q7 A88 (fun _h=>rfl) (fun _h=>rfl))) (fun _h=>rfl))))))
theorem D77:aPP 73 (A19 C1L C4X C94):=pcD true G55 hlz D6r
noncomputable def S56:Tab:=Tab.add S55 73 (lift (A19 C1L C4X C94))
noncomputable def E0D:FuncId→Bool:=qadd E0C 73
theorem G56:aPG S56 E0D:=G55.addQ D77 (cbl Tryz.f73) (fun _=>rfl)

abbrev C1M:List PSh:=[.t tq3,.t (.int .i64)]
abbrev B2c:SS:=⟨(.t false tq3::tI::.junk::.junk::.junk::tI::E1B),[]⟩
abbrev C5l:SS:=⟨(.junk::.junk::.junk::.junk::tI::D8x),[]⟩
abbrev C5m:SS:=⟨(.junk::D9o),[]⟩
noncomputable def C8N (x0:Lq1) (x1 x5:Int):RT B2c.den:=(.br (decide (x5 ≥ (0:Int))) (.br (decide (0≤x5∧x5<(x0.length:Int))) (.br ((((x0.getD x5.toNat ((0:Int),((0:Int),[]))).2).1)==x1) (.done .ret C5l (((),(),(),(),x5,u17),())) (.next ((x0,x1,(),(),(),wI (x5 - (1:Int)),u16),()))) .fail) (.done (.exit 0) C5m ((u22),())))
abbrev B2i:=(Lq1)×(Int)×(Int)
abbrev B33:=Nat×(Int)
def B7Z:B33:=(99,((0:Int):Int))
noncomputable def B2W (x0:Lq1) (x1 x5:Int):B2i ⊕ B33:=(cond (decide (x5 ≥ (0:Int))) (cond (decide (0≤x5∧x5<(x0.length:Int))) (cond ((((x0.getD x5.toNat ((0:Int),((0:Int),[]))).2).1)==x1) (.inr (0,x5)) (.inl (x0,x1,wI (x5 - (1:Int))))) (.inr B7Z)) (.inr (1,((0:Int):Int))))
noncomputable def B2J (x0:Lq1) (x1 x5:Int):B33:=itX (fun v:B2i=>B2W v.1 v.2.1 v.2.2) B7Z (x0,x1,x5)
noncomputable def C2e (a:B33):CT:=(.br (a.1==0) (.done .ret C5l (((),(),(),(),a.2,u17),())) (.br (a.1==1) (.done (.exit 0) C5m ((u22),())) .fail))
noncomputable def D5L (x0:Lq1) (x1 x5:Int):CT:=C2e (B2J x0 x1 x5)
noncomputable abbrev C26:B2c.den→RT B2c.den:=(fun d=>C8N d.1.1 d.1.2.1 d.1.2.2.2.2.2.1)
noncomputable def C31:Code:=((D5 0 (A1o Tryz.f77)).getD 0 (0,.skip)).2
noncomputable abbrev C8D (v:B2i):B2c.den:=((v.1,v.2.1,(),(),(),v.2.2,u16),())
theorem D45:(∀ v:B2i,(C8N v.1 v.2.1 v.2.2).val=A6W C8D C2e (B2W v.1 v.2.1 v.2.2))∧∀ a:B33,CEnd B2c.den (C2e a):=⟨fun v=>(A72 (A72 (A72 rfl rfl) rfl) rfl),fun a=>(A7P aCD (A7P aCD A7R))⟩
theorem D3i:RdA G56 aLn 0 C31 B2c 0 [] (kepts [4] [(0,[])]) (fun d=>(C26 d).opt 0 []):=by
 intro d
 kernel_rfl
noncomputable abbrev C6K:St→Option Tree:=B2c.say 0 [] [] (fun d=>D5L d.1.1 d.1.2.1 d.1.2.2.2.2.2.1)
theorem D4N:aPL C6K C31:=SS.wp2 hlz [] C26 D3i (fun d=>rfl) _ (fun d=>Runs.ofI2 (step:=C26) C8D D45 rfl (d.1.1,d.1.2.1,d.1.2.2.2.2.2.1))
noncomputable def Q8 (a0:Lq1) (a1:Int):Int:=let z1:=B2J a0 a1 (wI ((a0.length:Int) - (1:Int)));(cond (z1.1==0) (z1.2) (-1:Int))
noncomputable abbrev C5S (r:Int):AV×List AObj:=((ti r),[])
noncomputable abbrev C95:D9 C1M→AV×List AObj:=fun d=>C5S (Q8 d.1 d.2.1)
noncomputable def R3 (a0:Lq1) (a1:Int):Bool:=let z1:=B2J a0 a1 (wI ((a0.length:Int) - (1:Int)));cond (z1.1==0) true (z1.1==1)
noncomputable abbrev C4Y:D9 C1M→Bool:=fun d=>R3 d.1 d.2.1
noncomputable abbrev D7S:Nat→St→Option Tree:=fun b=>match b with | 0=>C6K | _=>fun _=>none
theorem D6s:A7X true G56 (D7S) Tryz.f77 C1M C4Y C95:=by
 rintro ⟨a0,⟨a1,_⟩⟩ hp
 change R3 a0 a1=true at hp
 unfold R3 at hp
 refine Eq.trans (b:=(let z1:=B2J a0 a1 (wI ((a0.length:Int) - (1:Int)));cond (z1.1==0) (some (C5S (z1.2))) (cond (z1.1==1) (some (C5S (-1:Int))) none))) (by kernel_rfl) ?_
 exact (K9 C5S hp (fun hp=>rfl) (fun hp=>(A70 hp fun _h=>rfl)))
theorem D78:aPP 77 (A19 C1M C4Y C95):=pcD true G56 (hl1 (i:=0) (by kernel_rfl) D4N) D6s
noncomputable def S57:Tab:=Tab.add S56 77 (lift (A19 C1M C4Y C95))
noncomputable def E0E:FuncId→Bool:=qadd E0D 77
theorem G57:aPG S57 E0E:=G56.addQ D78 (cbl Tryz.f77) (fun _=>rfl)

abbrev u18:=((),u17)
abbrev D9G:List AV:=.junk::.junk::.junk::.junk::.junk::.junk::.junk::.junk::.junk::.junk::.junk::[]
abbrev D8u:List AV:=.junk::.junk::.junk::.junk::.junk::.junk::D9G
abbrev D9I:List AV:=.junk::.junk::.junk::.junk::.junk::.junk::.junk::D8u
abbrev B23:List PSh:=[.t tq3,.t tq4]
noncomputable def B3l:Code:=((D5 0 (A1o Tryz.f78)).getD 0 (0,.skip)).2
noncomputable def B3m:Code:=((D5 0 B3l).getD 0 (0,.skip)).2
noncomputable def B7P:Code:=((D5 2 B3m).getD 0 (0,.skip)).2
abbrev U7:SS:=⟨(.junk::.t false tq4::.junk::.junk::.junk::.junk::.junk::.junk::.ptr 0 0 1 0::.junk::.junk::.t false tq3::tI::tI::.junk::.junk::.junk::.junk::.t false tq4::tI::tI::.junk::.junk::.junk::.t false tq4::tI::tI::E1z),[.box [tI,.t true .str,.t true .str]]⟩
abbrev B8G:SS:=⟨(.junk::.junk::.junk::.junk::.t true .bool::D4I),[]⟩
abbrev B8H:SS:=⟨(.junk::.t false tq4::.junk::.junk::.junk::.junk::.junk::.junk::.junk::.junk::.junk::.t false tq3::tI::tI::.junk::.junk::.junk::.junk::.t false tq4::tI::tI::D9n),[]⟩
noncomputable def C1x (x1:Lq2) (x11:Lq1) (x12 x13:Int) (x18:Lq2) (x19 x20:Int) (x24:Lq2) (x25 x26 p0:Int) (p1 p2:ByteArray):RT U7.den:=(.br (decide (x26<x25)) (.br (decide (0≤x26∧x26<(x24.length:Int))) (.br ((((x24.getD x26.toNat ((0:Int),(bE,bE))).2).1).toList==p1.toList) (.done .ret B8G (((),(),(),(),true,u34),())) (.next (((),x1,(),(),(),(),(),(),(),(),(),x11,x12,x13,(),(),(),(),x18,x19,x20,(),(),(),x24,x25,wI (x26+(1:Int)),u12),((p0,p1,p2,()),())))) .fail) (.done (.exit 4) B8H (((),x1,(),(),(),(),(),(),(),(),(),x11,x12,x13,(),(),(),(),x18,x19,x20,u18),())))
abbrev A84:=(Lq2)×Lq1×(Int)×(Int)×Lq2×(Int)×(Int)×Lq2×(Int)×(Int)
abbrev B0q:=Nat×(Bool)×Lq2×Lq1×(Int)×(Int)×Lq2×(Int)×(Int)
def B5v:B0q:=(99,(false:Bool),([]:Lq2),([]:Lq1),((0:Int):Int),((0:Int):Int),([]:Lq2),((0:Int):Int),((0:Int):Int))
noncomputable def A94 (x1:Lq2) (x11:Lq1) (x12 x13:Int) (x18:Lq2) (x19 x20:Int) (x24:Lq2) (x25 x26 p0:Int) (p1 p2:ByteArray):A84 ⊕ B0q:=(cond (decide (x26<x25)) (cond (decide (0≤x26∧x26<(x24.length:Int))) (cond ((((x24.getD x26.toNat ((0:Int),(bE,bE))).2).1).toList==p1.toList) (.inr (0,true,([]:Lq2),([]:Lq1),((0:Int):Int),((0:Int):Int),([]:Lq2),((0:Int):Int),((0:Int):Int))) (.inl (x1,x11,x12,x13,x18,x19,x20,x24,x25,wI (x26+(1:Int))))) (.inr B5v)) (.inr (1,(false:Bool),x1,x11,x12,x13,x18,x19,x20)))
noncomputable def B5x (x1:Lq2) (x11:Lq1) (x12 x13:Int) (x18:Lq2) (x19 x20:Int) (x24:Lq2) (x25 x26 p0:Int) (p1 p2:ByteArray):B0q:=itX (fun v:A84=>A94 v.1 v.2.1 v.2.2.1 v.2.2.2.1 v.2.2.2.2.1 v.2.2.2.2.2.1 v.2.2.2.2.2.2.1 v.2.2.2.2.2.2.2.1 v.2.2.2.2.2.2.2.2.1 v.2.2.2.2.2.2.2.2.2 p0 p1 p2) B5v (x1,x11,x12,x13,x18,x19,x20,x24,x25,x26)
noncomputable def B5s (p0:Int) (p1 p2:ByteArray) (a:B0q):CT:=(.br (a.1==0) (.done .ret B8G (((),(),(),(),a.2.1,u34),())) (.br (a.1==1) (.done (.exit 4) B8H (((),a.2.2.1,(),(),(),(),(),(),(),(),(),a.2.2.2.1,a.2.2.2.2.1,a.2.2.2.2.2.1,(),(),(),(),a.2.2.2.2.2.2.1,a.2.2.2.2.2.2.2.1,a.2.2.2.2.2.2.2.2,u18),())) .fail))
noncomputable def C9M (x1:Lq2) (x11:Lq1) (x12 x13:Int) (x18:Lq2) (x19 x20:Int) (x24:Lq2) (x25 x26 p0:Int) (p1 p2:ByteArray):CT:=(B5s p0 p1 p2) (B5x x1 x11 x12 x13 x18 x19 x20 x24 x25 x26 p0 p1 p2)
noncomputable abbrev B1Z {α:Sort _} (f:Lq2→Lq1→Int→Int→Lq2→Int→Int→Lq2→Int→Int→Int→ByteArray→ByteArray→α) (d:U7.den):α:=f d.1.2.1 d.1.2.2.2.2.2.2.2.2.2.2.2.1 d.1.2.2.2.2.2.2.2.2.2.2.2.2.1 d.1.2.2.2.2.2.2.2.2.2.2.2.2.2.1 d.1.2.2.2.2.2.2.2.2.2.2.2.2.2.2.2.2.2.2.1 d.1.2.2.2.2.2.2.2.2.2.2.2.2.2.2.2.2.2.2.2.1 d.1.2.2.2.2.2.2.2.2.2.2.2.2.2.2.2.2.2.2.2.2.1 d.1.2.2.2.2.2.2.2.2.2.2.2.2.2.2.2.2.2.2.2.2.2.2.2.2.1 d.1.2.2.2.2.2.2.2.2.2.2.2.2.2.2.2.2.2.2.2.2.2.2.2.2.2.1 d.1.2.2.2.2.2.2.2.2.2.2.2.2.2.2.2.2.2.2.2.2.2.2.2.2.2.2.1 d.2.1.1 d.2.1.2.1 d.2.1.2.2.1
noncomputable abbrev B5J:U7.den→RT U7.den:=(B1Z C1x)
noncomputable abbrev C1l (p0:Int) (p1 p2:ByteArray) (v:A84):U7.den:=(((),v.1,(),(),(),(),(),(),(),(),(),v.2.1,v.2.2.1,v.2.2.2.1,(),(),(),(),v.2.2.2.2.1,v.2.2.2.2.2.1,v.2.2.2.2.2.2.1,(),(),(),v.2.2.2.2.2.2.2.1,v.2.2.2.2.2.2.2.2.1,v.2.2.2.2.2.2.2.2.2,u12),((p0,p1,p2,()),()))
theorem C9i (p0:Int) (p1 p2:ByteArray):(∀ v:A84,(C1x v.1 v.2.1 v.2.2.1 v.2.2.2.1 v.2.2.2.2.1 v.2.2.2.2.2.1 v.2.2.2.2.2.2.1 v.2.2.2.2.2.2.2.1 v.2.2.2.2.2.2.2.2.1 v.2.2.2.2.2.2.2.2.2 p0 p1 p2).val=A6W (C1l p0 p1 p2) (B5s p0 p1 p2) (A94 v.1 v.2.1 v.2.2.1 v.2.2.2.1 v.2.2.2.2.1 v.2.2.2.2.2.1 v.2.2.2.2.2.2.1 v.2.2.2.2.2.2.2.1 v.2.2.2.2.2.2.2.2.1 v.2.2.2.2.2.2.2.2.2 p0 p1 p2))∧∀ a:B0q,CEnd U7.den ((B5s p0 p1 p2) a):=⟨fun v=>(A72 (A72 (A72 rfl rfl) rfl) rfl),fun a=>(A7P aCD (A7P aCD A7R))⟩
noncomputable def C1d (x1:Lq2) (x11:Lq1) (x12 x13:Int) (x18:Lq2) (x19 x20:Int) (x24:Lq2) (x25 x26 p0:Int) (p1 p2:ByteArray):Option (Ex×St):=(cond (decide (x26<x25)) (cond (decide (0≤x26∧x26<(x24.length:Int))) (cond ((((x24.getD x26.toNat ((0:Int),(bE,bE))).2).1).toList==p1.toList) (some (.ret,(⟨(.junk::.junk::.junk::.junk::(.t true .bool true)::D56),[],0,[]⟩:St))) (some (.normal,(⟨(.junk::(.t false tq4 x1)::.junk::.junk::.junk::.junk::.junk::.junk::(.ptr 0 0 1 0)::.junk::.junk::(.t false tq3 x11)::(ti x12)::(ti x13)::.junk::.junk::.junk::.junk::(.t false tq4 x18)::(ti x19)::(ti x20)::.junk::.junk::.junk::(.t false tq4 x24)::(ti x25)::(ti (wI (x26+(1:Int))))::D9G),[(.box [(ti p0),(.t true .str p1),(.t true .str p2)])],0,[]⟩:St)))) none) (some ((.exit 4),(⟨(.junk::(.t false tq4 x1)::.junk::.junk::.junk::.junk::.junk::.junk::.junk::.junk::.junk::(.t false tq3 x11)::(ti x12)::(ti x13)::.junk::.junk::.junk::.junk::(.t false tq4 x18)::(ti x19)::(ti x20)::D8u),[],0,[]⟩:St))))
theorem C7O:RdA G57 aLn 4 B7P U7 0 [] (kepts [4] [(4,[1,11,12,13,18,19,20])]) (B1Z C1d):=by
 intro d
 kernel_rfl
theorem C7V:∀ d:U7.den,(B1Z C1d) d=(B5J d).opt 0 []:=by
 intro d
 kernel_rfl
noncomputable abbrev B9A:St→Option Tree:=U7.say 0 [] [] (B1Z C9M)
theorem C8Z:aPL B9A B7P:=SS.wp2 hlz [] B5J C7O C7V _ (fun d=>Runs.ofI2 (step:=B5J) (C1l d.2.1.1 d.2.1.2.1 d.2.1.2.2.1) (C9i d.2.1.1 d.2.1.2.1 d.2.1.2.2.1) rfl (d.1.2.1,d.1.2.2.2.2.2.2.2.2.2.2.2.1,d.1.2.2.2.2.2.2.2.2.2.2.2.2.1,d.1.2.2.2.2.2.2.2.2.2.2.2.2.2.1,d.1.2.2.2.2.2.2.2.2.2.2.2.2.2.2.2.2.2.2.1,d.1.2.2.2.2.2.2.2.2.2.2.2.2.2.2.2.2.2.2.2.1,d.1.2.2.2.2.2.2.2.2.2.2.2.2.2.2.2.2.2.2.2.2.1,d.1.2.2.2.2.2.2.2.2.2.2.2.2.2.2.2.2.2.2.2.2.2.2.2.2.1,d.1.2.2.2.2.2.2.2.2.2.2.2.2.2.2.2.2.2.2.2.2.2.2.2.2.2.1,d.1.2.2.2.2.2.2.2.2.2.2.2.2.2.2.2.2.2.2.2.2.2.2.2.2.2.2.1))
abbrev U6:SS:=⟨(.junk::.t false tq4::.junk::.junk::.junk::.junk::.junk::.junk::.junk::.junk::.junk::.t false tq3::tI::tI::.junk::.junk::.junk::.junk::.t false tq4::tI::tI::D9n),[]⟩
abbrev B8E:SS:=⟨(.junk::.junk::.junk::.junk::.t true .bool::D4I),[]⟩
abbrev B8F:SS:=⟨(.junk::.t false tq4::.junk::.junk::.junk::.junk::.junk::.junk::.junk::.junk::.junk::.t false tq3::tI::tI::D8z),[]⟩
noncomputable def B4L (x1:Lq2) (x11:Lq1) (x12 x13:Int) (x18:Lq2) (x19 x20:Int):=let z1:=x18.getD x20.toNat ((0:Int),(bE,bE));B5x x1 x11 x12 x13 x18 x19 x20 x1 (x1.length:Int) (0:Int) (z1.1) ((z1.2).1) ((z1.2).2)
noncomputable def C1w (x1:Lq2) (x11:Lq1) (x12 x13:Int) (x18:Lq2) (x19 x20:Int):RT U6.den:=let z1:=B4L x1 x11 x12 x13 x18 x19 x20;(.br (decide (x20<x19)) (.br (decide (0≤x20∧x20<(x18.length:Int))) (.br (z1.1==0) (.done .ret B8E (((),(),(),(),(z1.2.1),u34),())) (.br (z1.1==1) (.next (((),(z1.2.2.1),(),(),(),(),(),(),(),(),(),(z1.2.2.2.1),(z1.2.2.2.2.1),(z1.2.2.2.2.2.1),(),(),(),(),(z1.2.2.2.2.2.2.1),(z1.2.2.2.2.2.2.2.1),wI ((z1.2.2.2.2.2.2.2.2)+(1:Int)),u18),())) .fail)) .fail) (.done (.exit 2) B8F (((),x1,(),(),(),(),(),(),(),(),(),x11,x12,x13,u25),())))
abbrev A83:=(Lq2)×Lq1×(Int)×(Int)×Lq2×(Int)×(Int)
abbrev B0p:=Nat×(Bool)×Lq2×Lq1×(Int)×(Int)
def B12:B0p:=(99,(false:Bool),([]:Lq2),([]:Lq1),((0:Int):Int),((0:Int):Int))
noncomputable def A93 (x1:Lq2) (x11:Lq1) (x12 x13:Int) (x18:Lq2) (x19 x20:Int):A83 ⊕ B0p:=let z1:=B4L x1 x11 x12 x13 x18 x19 x20;(cond (decide (x20<x19)) (cond (decide (0≤x20∧x20<(x18.length:Int))) (cond (z1.1==0) (.inr (0,(z1.2.1),([]:Lq2),([]:Lq1),((0:Int):Int),((0:Int):Int))) (cond (z1.1==1) (.inl ((z1.2.2.1),(z1.2.2.2.1),(z1.2.2.2.2.1),(z1.2.2.2.2.2.1),(z1.2.2.2.2.2.2.1),(z1.2.2.2.2.2.2.2.1),wI ((z1.2.2.2.2.2.2.2.2)+(1:Int)))) (.inr B12))) (.inr B12)) (.inr (1,(false:Bool),x1,x11,x12,x13)))
noncomputable def B5w (x1:Lq2) (x11:Lq1) (x12 x13:Int) (x18:Lq2) (x19 x20:Int):B0p:=itX (fun v:A83=>A93 v.1 v.2.1 v.2.2.1 v.2.2.2.1 v.2.2.2.2.1 v.2.2.2.2.2.1 v.2.2.2.2.2.2) B12 (x1,x11,x12,x13,x18,x19,x20)
noncomputable def B5r (a:B0p):CT:=(.br (a.1==0) (.done .ret B8E (((),(),(),(),a.2.1,u34),())) (.br (a.1==1) (.done (.exit 2) B8F (((),a.2.2.1,(),(),(),(),(),(),(),(),(),a.2.2.2.1,a.2.2.2.2.1,a.2.2.2.2.2,u25),())) .fail))
noncomputable def C9L (x1:Lq2) (x11:Lq1) (x12 x13:Int) (x18:Lq2) (x19 x20:Int):CT:=B5r (B5w x1 x11 x12 x13 x18 x19 x20)
noncomputable abbrev B1Y {α:Sort _} (f:Lq2→Lq1→Int→Int→Lq2→Int→Int→α) (d:U6.den):α:=f d.1.2.1 d.1.2.2.2.2.2.2.2.2.2.2.2.1 d.1.2.2.2.2.2.2.2.2.2.2.2.2.1 d.1.2.2.2.2.2.2.2.2.2.2.2.2.2.1 d.1.2.2.2.2.2.2.2.2.2.2.2.2.2.2.2.2.2.2.1 d.1.2.2.2.2.2.2.2.2.2.2.2.2.2.2.2.2.2.2.2.1 d.1.2.2.2.2.2.2.2.2.2.2.2.2.2.2.2.2.2.2.2.2.1
noncomputable abbrev B5I:U6.den→RT U6.den:=(B1Y C1w)
noncomputable abbrev C1k (v:A83):U6.den:=(((),v.1,(),(),(),(),(),(),(),(),(),v.2.1,v.2.2.1,v.2.2.2.1,(),(),(),(),v.2.2.2.2.1,v.2.2.2.2.2.1,v.2.2.2.2.2.2,u18),())
theorem C9h:(∀ v:A83,(C1w v.1 v.2.1 v.2.2.1 v.2.2.2.1 v.2.2.2.2.1 v.2.2.2.2.2.1 v.2.2.2.2.2.2).val=A6W C1k B5r (A93 v.1 v.2.1 v.2.2.1 v.2.2.2.1 v.2.2.2.2.1 v.2.2.2.2.2.1 v.2.2.2.2.2.2))∧∀ a:B0p,CEnd U6.den (B5r a):=⟨fun v=>(A72 (A72 (A72 rfl (A72 rfl rfl)) rfl) rfl),fun a=>(A7P aCD (A7P aCD A7R))⟩
noncomputable abbrev C9G:Nat→St→Option Tree:=fun b=>match b with | 4=>B9A | _=>fun _=>none
noncomputable def C1c (x1:Lq2) (x11:Lq1) (x12 x13:Int) (x18:Lq2) (x19 x20:Int):Option (Ex×St):=let z1:=B4L x1 x11 x12 x13 x18 x19 x20;(cond (decide (x20<x19)) (cond (decide (0≤x20∧x20<(x18.length:Int))) (cond (z1.1==0) (some (.ret,(⟨(.junk::.junk::.junk::.junk::(.t true .bool (z1.2.1))::D56),[],0,[]⟩:St))) (cond (z1.1==1) (some (.normal,(⟨(.junk::(.t false tq4 (z1.2.2.1))::.junk::.junk::.junk::.junk::.junk::.junk::.junk::.junk::.junk::(.t false tq3 (z1.2.2.2.1))::(ti (z1.2.2.2.2.1))::(ti (z1.2.2.2.2.2.1))::.junk::.junk::.junk::.junk::(.t false tq4 (z1.2.2.2.2.2.2.1))::(ti (z1.2.2.2.2.2.2.2.1))::(ti (wI ((z1.2.2.2.2.2.2.2.2)+(1:Int))))::D8u),[],0,[]⟩:St))) none)) none) (some ((.exit 2),(⟨(.junk::(.t false tq4 x1)::.junk::.junk::.junk::.junk::.junk::.junk::.junk::.junk::.junk::(.t false tq3 x11)::(ti x12)::(ti x13)::D9I),[],0,[]⟩:St))))
theorem C7N:RdA G57 (C9G) 2 B3m U6 0 [] (kepts [4] [(2,[1,11,12,13])]) (B1Y C1c):=by
 intro d
 kernel_rfl
theorem C7U:∀ d:U6.den,(B1Y C1c) d=(B5I d).opt 0 []:=by
 intro d
 kernel_rfl
noncomputable abbrev B9z:St→Option Tree:=U6.say 0 [] [] (B1Y C9L)
theorem C8Y:aPL B9z B3m:=SS.wp2 (hl1 (i:=4) (by kernel_rfl) C8Z) [] B5I C7N C7U _ (fun d=>Runs.ofI2 (step:=B5I) C1k C9h rfl (d.1.2.1,d.1.2.2.2.2.2.2.2.2.2.2.2.1,d.1.2.2.2.2.2.2.2.2.2.2.2.2.1,d.1.2.2.2.2.2.2.2.2.2.2.2.2.2.1,d.1.2.2.2.2.2.2.2.2.2.2.2.2.2.2.2.2.2.2.1,d.1.2.2.2.2.2.2.2.2.2.2.2.2.2.2.2.2.2.2.2.1,d.1.2.2.2.2.2.2.2.2.2.2.2.2.2.2.2.2.2.2.2.2.1))
abbrev U5:SS:=⟨(.junk::.t false tq4::.junk::.junk::.junk::.junk::.junk::.junk::.junk::.junk::.junk::.t false tq3::tI::tI::D8z),[]⟩
abbrev B8C:SS:=⟨(.junk::.junk::.junk::.junk::.t true .bool::D4I),[]⟩
abbrev B8D:SS:=⟨(.junk::D8D),[]⟩
noncomputable def B4M (x1:Lq2) (x11:Lq1) (x12 x13:Int):=let z1:=((x11.getD x13.toNat ((0:Int),((0:Int),[]))).2).2;B5w x1 x11 x12 x13 z1 ((z1.length:Nat):Int) (0:Int)
noncomputable def C1v (x1:Lq2) (x11:Lq1) (x12 x13:Int):RT U5.den:=let z1:=B4M x1 x11 x12 x13;(.br (decide (x13<x12)) (.br (decide (0≤x13∧x13<(x11.length:Int))) (.br (z1.1==0) (.done .ret B8C (((),(),(),(),(z1.2.1),u34),())) (.br (z1.1==1) (.next (((),(z1.2.2.1),(),(),(),(),(),(),(),(),(),(z1.2.2.2.1),(z1.2.2.2.2.1),wI ((z1.2.2.2.2.2)+(1:Int)),u25),())) .fail)) .fail) (.done (.exit 0) B8D ((u39),())))
abbrev A82:=(Lq2)×Lq1×(Int)×(Int)
abbrev B0o:=Nat×(Bool)
def B11:B0o:=(99,(false:Bool))
noncomputable def A92 (x1:Lq2) (x11:Lq1) (x12 x13:Int):A82 ⊕ B0o:=let z1:=B4M x1 x11 x12 x13;(cond (decide (x13<x12)) (cond (decide (0≤x13∧x13<(x11.length:Int))) (cond (z1.1==0) (.inr (0,(z1.2.1))) (cond (z1.1==1) (.inl ((z1.2.2.1),(z1.2.2.2.1),(z1.2.2.2.2.1),wI ((z1.2.2.2.2.2)+(1:Int)))) (.inr B11))) (.inr B11)) (.inr (1,(false:Bool))))
noncomputable def A9S (x1:Lq2) (x11:Lq1) (x12 x13:Int):B0o:=itX (fun v:A82=>A92 v.1 v.2.1 v.2.2.1 v.2.2.2) B11 (x1,x11,x12,x13)
noncomputable def B5q (a:B0o):CT:=(.br (a.1==0) (.done .ret B8C (((),(),(),(),a.2,u34),())) (.br (a.1==1) (.done (.exit 0) B8D ((u39),())) .fail))
noncomputable def C9K (x1:Lq2) (x11:Lq1) (x12 x13:Int):CT:=B5q (A9S x1 x11 x12 x13)
noncomputable abbrev B1X {α:Sort _} (f:Lq2→Lq1→Int→Int→α) (d:U5.den):α:=f d.1.2.1 d.1.2.2.2.2.2.2.2.2.2.2.2.1 d.1.2.2.2.2.2.2.2.2.2.2.2.2.1 d.1.2.2.2.2.2.2.2.2.2.2.2.2.2.1
noncomputable abbrev B5H:U5.den→RT U5.den:=(B1X C1v)
noncomputable abbrev C1j (v:A82):U5.den:=(((),v.1,(),(),(),(),(),(),(),(),(),v.2.1,v.2.2.1,v.2.2.2,u25),())
theorem C9g:(∀ v:A82,(C1v v.1 v.2.1 v.2.2.1 v.2.2.2).val=A6W C1j B5q (A92 v.1 v.2.1 v.2.2.1 v.2.2.2))∧∀ a:B0o,CEnd U5.den (B5q a):=⟨fun v=>(A72 (A72 (A72 rfl (A72 rfl rfl)) rfl) rfl),fun a=>(A7P aCD (A7P aCD A7R))⟩
noncomputable abbrev C9F:Nat→St→Option Tree:=fun b=>match b with | 2=>B9z | _=>fun _=>none
noncomputable def C1b (x1:Lq2) (x11:Lq1) (x12 x13:Int):Option (Ex×St):=let z1:=B4M x1 x11 x12 x13;(cond (decide (x13<x12)) (cond (decide (0≤x13∧x13<(x11.length:Int))) (cond (z1.1==0) (some (.ret,(⟨(.junk::.junk::.junk::.junk::(.t true .bool (z1.2.1))::D56),[],0,[]⟩:St))) (cond (z1.1==1) (some (.normal,(⟨(.junk::(.t false tq4 (z1.2.2.1))::.junk::.junk::.junk::.junk::.junk::.junk::.junk::.junk::.junk::(.t false tq3 (z1.2.2.2.1))::(ti (z1.2.2.2.2.1))::(ti (wI ((z1.2.2.2.2.2)+(1:Int))))::D9I),[],0,[]⟩:St))) none)) none) (some ((.exit 0),(⟨(.junk::D9l),[],0,[]⟩:St))))
theorem C7M:RdA G57 (C9F) 0 B3l U5 0 [] (kepts [4] [(0,[])]) (B1X C1b):=by
 intro d
 kernel_rfl
theorem C7T:∀ d:U5.den,(B1X C1b) d=(B5H d).opt 0 []:=by
 intro d
 kernel_rfl
noncomputable abbrev B9y:St→Option Tree:=U5.say 0 [] [] (B1X C9K)
theorem C8X:aPL B9y B3l:=SS.wp2 (hl1 (i:=2) (by kernel_rfl) C8Y) [] B5H C7M C7T _ (fun d=>Runs.ofI2 (step:=B5H) C1j C9g rfl (d.1.2.1,d.1.2.2.2.2.2.2.2.2.2.2.2.1,d.1.2.2.2.2.2.2.2.2.2.2.2.2.1,d.1.2.2.2.2.2.2.2.2.2.2.2.2.2.1))
noncomputable def W8 (a0:Lq1) (a1:Lq2):Bool:=let z1:=A9S a1 a0 (a0.length:Int) (0:Int);(cond (z1.1==0) (z1.2) false)
noncomputable abbrev B5Z (r:Bool):AV×List AObj:=((.t true .bool r),[])
noncomputable abbrev C0a:D9 B23→AV×List AObj:=fun d=>B5Z (W8 d.1 d.2.1)
noncomputable def Q4 (a0:Lq1) (a1:Lq2):Bool:=let z1:=A9S a1 a0 (a0.length:Int) (0:Int);cond (z1.1==0) true (z1.1==1)
noncomputable abbrev B7b:D9 B23→Bool:=fun d=>Q4 d.1 d.2.1
noncomputable abbrev D2m:Nat→St→Option Tree:=fun b=>match b with | 0=>B9y | _=>fun _=>none
theorem D0W:A7X true G57 (D2m) Tryz.f78 B23 B7b C0a:=by
 rintro ⟨a0,⟨a1,_⟩⟩ hp
 change Q4 a0 a1=true at hp
 unfold Q4 at hp
 refine Eq.trans (b:=(let z1:=A9S a1 a0 (a0.length:Int) (0:Int);cond (z1.1==0) (some (B5Z (z1.2))) (cond (z1.1==1) (some (B5Z false)) none))) (by kernel_rfl) ?_
 exact (K9 B5Z hp (fun hp=>rfl) (fun hp=>(A70 hp fun _h=>rfl)))
theorem D2z:aPP 78 (A19 B23 B7b C0a):=pcD true G57 (hl1 (i:=0) (by kernel_rfl) C8X) D0W
noncomputable def S58:Tab:=Tab.add S57 78 (lift (A19 B23 B7b C0a))
noncomputable def E0F:FuncId→Bool:=qadd E0E 78
theorem G58:aPG S58 E0F:=G57.addQ D2z (cbl Tryz.f78) (fun _=>rfl)

abbrev B5S:SS:=⟨[.agg [.t true .str,.t true .str],.ptr 0 0 1 0],[.box [.t true .str]]⟩
noncomputable def C7s (x0_0 x0_1 p0:ByteArray):Bool:=(x0_0.toList==p0.toList)
noncomputable abbrev D4v (p0:ByteArray) (r:Bool):AV×List AObj×List Nat:=((.t true .bool r),[(.box [(.t true .str p0)])],[])
noncomputable abbrev C8d:B5S.den→AV×List AObj×List Nat:=fun d=>D4v d.2.1.1 (C7s d.1.1.1 d.1.1.2.1 d.2.1.1)
noncomputable abbrev C4m:B5S.den→Bool:=fun d=>true
theorem D1Q:A7W G58 aLn Tryz.f99 B5S C4m C8d:=by
 rintro ⟨⟨⟨x0_0,x0_1,_⟩,_,_⟩,⟨⟨p0,_⟩,_⟩⟩ hp
 kernel_rfl
noncomputable abbrev C8k:=winQ (msum B5S C4m C8d)
theorem D4k:aPM 99 C8k:=(mcM G58 hlz D1Q).winQ (A7p fun d=>⟨rfl,rfl⟩)
noncomputable def S59:Tab:=Tab.add S58 99 (C8k)
noncomputable def E0G:FuncId→Bool:=qadd E0F 99
theorem G59:aPG S59 E0G:=G58.addMQ D4k (A7w _) (cbl Tryz.f99) (A5Z _)

abbrev E1y:List Sh:=.junk::.junk::.junk::.junk::.junk::.junk::.junk::.junk::.junk::.junk::[]
abbrev u11:=((),(),(),(),(),(),(),(),(),(),())
abbrev N6:SS:=⟨[.t false tq6,.fn 99 [0]],[.box [.t true .str]]⟩
abbrev I7:SS:=⟨(.t false tq6::.fn 99 [0]::.junk::.junk::.junk::.junk::.junk::tI::tI::E1y),[.box [.t true .str]]⟩
abbrev Y2:SS:=⟨(.junk::.junk::.junk::.junk::tI::D7p),[.box [.t true .str]]⟩
abbrev Y3:SS:=⟨(.junk::D4G),[.box [.t true .str]]⟩
noncomputable def R1 (x0:LBBe) (x8:Int) (p0:ByteArray):=let z1:=x0.getD x8.toNat (bE,bE);C7s (z1.1) (z1.2) p0
noncomputable def A0a (x0:LBBe) (x7 x8:Int) (p0:ByteArray):RT I7.den:=(.br (decide (x8<x7)) (.br (decide (0≤x8∧x8<(x0.length:Int))) (.br (R1 x0 x8 p0) (.done .ret Y2 (((),(),(),(),x8,u15),((p0,()),()))) (.next ((x0,(),(),(),(),(),(),x7,wI (x8+(1:Int)),u11),((p0,()),())))) .fail) (.done (.exit 0) Y3 ((u20),((p0,()),()))))
abbrev K8:=(LBBe)×(Int)×(Int)
abbrev K6:=Nat×(Int)
def Q3:K6:=(99,((0:Int):Int))
noncomputable def M0 (x0:LBBe) (x7 x8:Int) (p0:ByteArray):K8 ⊕ K6:=(cond (decide (x8<x7)) (cond (decide (0≤x8∧x8<(x0.length:Int))) (cond (R1 x0 x8 p0) (.inr (0,x8)) (.inl (x0,x7,wI (x8+(1:Int))))) (.inr Q3)) (.inr (1,((0:Int):Int))))
noncomputable def L8 (x0:LBBe) (x7 x8:Int) (p0:ByteArray):K6:=itX (fun v:K8=>M0 v.1 v.2.1 v.2.2 p0) Q3 (x0,x7,x8)
noncomputable def Q0 (p0:ByteArray) (a:K6):CT:=(.br (a.1==0) (.done .ret Y2 (((),(),(),(),a.2,u15),((p0,()),()))) (.br (a.1==1) (.done (.exit 0) Y3 ((u20),((p0,()),()))) .fail))
noncomputable def B1A (x0:LBBe) (x7 x8:Int) (p0:ByteArray):CT:=(Q0 p0) (L8 x0 x7 x8 p0)
noncomputable abbrev Z4 {α:Sort _} (f:LBBe→Int→Int→ByteArray→α) (d:I7.den):α:=f d.1.1 d.1.2.2.2.2.2.2.2.1 d.1.2.2.2.2.2.2.2.2.1 d.2.1.1
noncomputable abbrev Q6:I7.den→RT I7.den:=(Z4 A0a)
noncomputable def X2:Code:=((D5 0 (A1o Tryz.f98)).getD 0 (0,.skip)).2
noncomputable abbrev Z8 (p0:ByteArray) (v:K8):I7.den:=((v.1,(),(),(),(),(),(),v.2.1,v.2.2,u11),((p0,()),()))
theorem B1s (p0:ByteArray):(∀ v:K8,(A0a v.1 v.2.1 v.2.2 p0).val=A6W (Z8 p0) (Q0 p0) (M0 v.1 v.2.1 v.2.2 p0))∧∀ a:K6,CEnd I7.den ((Q0 p0) a):=⟨fun v=>(A72 (A72 (A72 rfl rfl) rfl) rfl),fun a=>(A7P aCD (A7P aCD A7R))⟩
theorem B05:RdA G59 aLn 0 X2 I7 1 [] (kepts [4] [(0,[])]) (fun d=>(Q6 d).opt 1 []):=by
 intro d
 kernel_rfl
noncomputable abbrev Z1:St→Option Tree:=I7.say 1 [] [] (Z4 B1A)
theorem B1l:aPL Z1 X2:=SS.wp2 hlz [] Q6 B05 (fun d=>rfl) _ (fun d=>Runs.ofI2 (step:=Q6) (Z8 d.2.1.1) (B1s d.2.1.1) rfl (d.1.1,d.1.2.2.2.2.2.2.2.1,d.1.2.2.2.2.2.2.2.2.1))
noncomputable def O9 (x0:LBBe) (p0:ByteArray):Int:=let z1:=L8 x0 (x0.length:Int) (0:Int) p0;(cond (z1.1==0) (z1.2) (-1:Int))
noncomputable abbrev N9 (p0:ByteArray) (r:Int):AV×List AObj×List Nat:=((ti r),[(.box [(.t true .str p0)])],[])
noncomputable abbrev A8g:N6.den→AV×List AObj×List Nat:=fun d=>N9 d.2.1.1 (O9 d.1.1 d.2.1.1)
noncomputable def L5 (x0:LBBe) (p0:ByteArray):Bool:=let z1:=L8 x0 (x0.length:Int) (0:Int) p0;cond (z1.1==0) true (z1.1==1)
noncomputable abbrev A0l:N6.den→Bool:=fun d=>L5 d.1.1 d.2.1.1
noncomputable abbrev B2b:Nat→St→Option Tree:=fun b=>match b with | 0=>Z1 | _=>fun _=>none
theorem B1D:A7W G59 (B2b) Tryz.f98 N6 A0l A8g:=by
 rintro ⟨⟨x0,_,_⟩,⟨⟨p0,_⟩,_⟩⟩ hp
 change L5 x0 p0=true at hp
 unfold L5 at hp
 refine Eq.trans (b:=(let z1:=L8 x0 (x0.length:Int) (0:Int) p0;cond (z1.1==0) (some (N9 p0 (z1.2))) (cond (z1.1==1) (some (N9 p0 (-1:Int))) none))) (by kernel_rfl) ?_
 exact (K9 (N9 p0) hp (fun hp=>rfl) (fun hp=>(A70 hp fun _h=>rfl)))
noncomputable abbrev R9:=winQ (msum N6 A0l A8g)
theorem A8c:aPM 98 R9:=(mcM G59 (hl1 (i:=0) (by kernel_rfl) B1l) B1D).winQ (A7p fun d=>⟨rfl,rfl⟩)
noncomputable def S60:Tab:=Tab.add S59 98 (R9)
noncomputable def E0H:FuncId→Bool:=qadd E0G 98
theorem G60:aPG S60 E0H:=G59.addMQ A8c (A7w _) (cbl Tryz.f98) (A5Z _)

abbrev B8O:List PSh:=[.t tq6,.t .str]
noncomputable def B4K (a0:LBBe) (a1:ByteArray):Int:=(O9 a0 a1)
noncomputable abbrev D10 (r:Int):AV×List AObj:=((ti r),[])
noncomputable abbrev C7g:D9 B8O→AV×List AObj:=fun d=>D10 (B4K d.1 d.2.1)
noncomputable def B1n (a0:LBBe) (a1:ByteArray):Bool:=L5 a0 a1
noncomputable abbrev C2A:D9 B8O→Bool:=fun d=>B1n d.1 d.2.1
theorem D5c:A7X true G60 aLn Tryz.f93 B8O C2A C7g:=by
 rintro ⟨a0,⟨a1,_⟩⟩ hp
 change B1n a0 a1=true at hp
 unfold B1n at hp
 refine Eq.trans (b:=(cond (L5 a0 a1) (some (D10 (O9 a0 a1))) none)) (by kernel_rfl) ?_
 exact (A70 hp fun _h=>rfl)
theorem D66:aPP 93 (A19 B8O C2A C7g):=pcD true G60 hlz D5c
noncomputable def S61:Tab:=Tab.add S60 93 (lift (A19 B8O C2A C7g))
noncomputable def E0I:FuncId→Bool:=qadd E0H 93
theorem G61:aPG S61 E0I:=G60.addQ D66 (cbl Tryz.f93) (fun _=>rfl)

abbrev B8M:List PSh:=[.t tq6,.t .str]
noncomputable def C56 (a0:LBBe) (a1:ByteArray):ByteArray×Bool:=(cond (decide ((B4K a0 a1)<(0:Int))) (bE,false) ((a0.getD ((B4K a0 a1).toNat) (bE,bE)).2,true))
noncomputable abbrev C3n (r:ByteArray×Bool):AV×List AObj:=((.tup [(.t true .str r.1),(.t true .bool r.2)]),[])
noncomputable abbrev C7e:D9 B8M→AV×List AObj:=fun d=>C3n (C56 d.1 d.2.1)
noncomputable def B2P (a0:LBBe) (a1:ByteArray):Bool:=let z1:=B4K a0 a1;(B1n a0 a1)&&(cond (decide (z1<(0:Int))) true (decide (0≤z1∧z1<(a0.length:Int))))
noncomputable abbrev C2y:D9 B8M→Bool:=fun d=>B2P d.1 d.2.1
theorem D5a:A7X true G61 aLn Tryz.f87 B8M C2y C7e:=by
 rintro ⟨a0,⟨a1,_⟩⟩ hp
 change B2P a0 a1=true at hp
 unfold B2P at hp
 refine Eq.trans (b:=(let z1:=B4K a0 a1;cond (B1n a0 a1) (cond (decide (z1<(0:Int))) (some (C3n ((⟨#[]⟩:ByteArray),false))) (cond (decide (0≤z1∧z1<(a0.length:Int))) (some (C3n ((a0.getD (z1.toNat) ((⟨#[]⟩:ByteArray),(⟨#[]⟩:ByteArray))).2,true))) none)) none)) (by kernel_rfl) ?_
 exact (A7Y hp fun hp=>(K9 C3n hp (fun hp=>rfl) (fun hp=>(A70 hp fun _h=>rfl))))
theorem D64:aPP 87 (A19 B8M C2y C7e):=pcD true G61 hlz D5a
noncomputable def S62:Tab:=Tab.add S61 87 (lift (A19 B8M C2y C7e))
noncomputable def E0J:FuncId→Bool:=qadd E0I 87
theorem G62:aPG S62 E0J:=G61.addQ D64 (cbl Tryz.f87) (fun _=>rfl)

abbrev E1C:List Sh:=.junk::D9q
abbrev u33:=((),u32)
abbrev D9J:List AV:=.junk::D9I
abbrev E1q:List AV:=.junk::D9k
abbrev C1J:List PSh:=[.t tq6,.t tq4]
abbrev A9x:SS:=⟨(.t false tq6::.junk::.junk::.junk::.junk::.junk::.junk::.junk::.junk::.t false tq4::tI::tI::D0n),[]⟩
abbrev B9K:SS:=⟨(.junk::.junk::.junk::.junk::.t true .bool::E1C),[]⟩
abbrev C5j:SS:=⟨(.junk::D8C),[]⟩
noncomputable def C3v (x0:LBBe) (x9:Lq2) (x11:Int):=C56 x0 (((x9.getD x11.toNat ((0:Int),(bE,bE))).2).1)
noncomputable def C8M (x0:LBBe) (x9:Lq2) (x10 x11:Int):RT A9x.den:=let z1:=x9.getD x11.toNat ((0:Int),(bE,bE));let z2:=C3v x0 x9 x11;(.br (decide (x11<x10)) (.br (decide (0≤x11∧x11<(x9.length:Int))) (.br ((z1.1) != (3:Int)) (.next ((x0,(),(),(),(),(),(),(),(),x9,x10,wI (x11+(1:Int)),u26),())) (.br (B2P x0 ((z1.2).1)) (.br (!((z2.2)==(!(((z1.2).2).toList==bE.toList)))) (.done .ret B9K (((),(),(),(),false,u33),())) (.br (!((z2.1).toList==((z1.2).2).toList)) (.done .ret B9K (((),(),(),(),false,u33),())) (.next ((x0,(),(),(),(),(),(),(),(),x9,x10,wI (x11+(1:Int)),u26),())))) .fail)) .fail) (.done (.exit 0) C5j ((u38),())))
abbrev B4a:=(LBBe)×Lq2×(Int)×(Int)
abbrev B6l:=Nat×(Bool)
def B7Y:B6l:=(99,(false:Bool))
noncomputable def B5m (x0:LBBe) (x9:Lq2) (x10 x11:Int):B4a ⊕ B6l:=let z1:=x9.getD x11.toNat ((0:Int),(bE,bE));let z2:=C3v x0 x9 x11;(cond (decide (x11<x10)) (cond (decide (0≤x11∧x11<(x9.length:Int))) (cond ((z1.1) != (3:Int)) (.inl (x0,x9,x10,wI (x11+(1:Int)))) (cond (B2P x0 ((z1.2).1)) (cond (!((z2.2)==(!(((z1.2).2).toList==bE.toList)))) (.inr (0,false)) (cond (!((z2.1).toList==((z1.2).2).toList)) (.inr (0,false)) (.inl (x0,x9,x10,wI (x11+(1:Int)))))) (.inr B7Y))) (.inr B7Y)) (.inr (1,(false:Bool))))
noncomputable def B47 (x0:LBBe) (x9:Lq2) (x10 x11:Int):B6l:=itX (fun v:B4a=>B5m v.1 v.2.1 v.2.2.1 v.2.2.2) B7Y (x0,x9,x10,x11)
noncomputable def C2d (a:B6l):CT:=(.br (a.1==0) (.done .ret B9K (((),(),(),(),a.2,u33),())) (.br (a.1==1) (.done (.exit 0) C5j ((u38),())) .fail))
noncomputable def D5K (x0:LBBe) (x9:Lq2) (x10 x11:Int):CT:=C2d (B47 x0 x9 x10 x11)
noncomputable abbrev B7N {α:Sort _} (f:LBBe→Lq2→Int→Int→α) (d:A9x.den):α:=f d.1.1 d.1.2.2.2.2.2.2.2.2.2.1 d.1.2.2.2.2.2.2.2.2.2.2.1 d.1.2.2.2.2.2.2.2.2.2.2.2.1
noncomputable abbrev C25:A9x.den→RT A9x.den:=(B7N C8M)
noncomputable def C3Z:Code:=((D5 0 (A1o Tryz.f79)).getD 0 (0,.skip)).2
noncomputable abbrev C8C (v:B4a):A9x.den:=((v.1,(),(),(),(),(),(),(),(),v.2.1,v.2.2.1,v.2.2.2,u26),())
theorem D44:(∀ v:B4a,(C8M v.1 v.2.1 v.2.2.1 v.2.2.2).val=A6W C8C C2d (B5m v.1 v.2.1 v.2.2.1 v.2.2.2))∧∀ a:B6l,CEnd A9x.den (C2d a):=⟨fun v=>by repeat' first | apply A72 | rfl,fun a=>(A7P aCD (A7P aCD A7R))⟩
noncomputable def C8o (x0:LBBe) (x9:Lq2) (x10 x11:Int):Option (Ex×St):=let z1:=(⟨((.t false tq6 x0)::.junk::.junk::.junk::.junk::.junk::.junk::.junk::.junk::(.t false tq4 x9)::(ti x10)::(ti (wI (x11+(1:Int))))::D9J),[],0,[]⟩:St);let z2:=x9.getD x11.toNat ((0:Int),(bE,bE));let z3:=(⟨(.junk::.junk::.junk::.junk::(.t true .bool false)::E1q),[],0,[]⟩:St);let z4:=C3v x0 x9 x11;(cond (decide (x11<x10)) (cond (decide (0≤x11∧x11<(x9.length:Int))) (cond ((z2.1) != (3:Int)) (some (.normal,z1)) (cond (B2P x0 ((z2.2).1)) (cond (!((z4.2)==(!(((z2.2).2).toList==bE.toList)))) (some (.ret,z3)) (cond (!((z4.1).toList==((z2.2).2).toList)) (some (.ret,z3)) (some (.normal,z1)))) none)) none) (some ((.exit 0),(⟨(.junk::D7n),[],0,[]⟩:St))))
theorem D3g:RdA G62 aLn 0 C3Z A9x 0 [] (kepts [4] [(0,[])]) (B7N C8o):=by
 intro d
 kernel_rfl
theorem D3s:∀ d:A9x.den,(B7N C8o) d=(C25 d).opt 0 []:=by
 intro d
 kernel_rfl
noncomputable abbrev C6I:St→Option Tree:=A9x.say 0 [] [] (B7N D5K)
theorem D4L:aPL C6I C3Z:=SS.wp2 hlz [] C25 D3g D3s _ (fun d=>Runs.ofI2 (step:=C25) C8C D44 rfl (d.1.1,d.1.2.2.2.2.2.2.2.2.2.1,d.1.2.2.2.2.2.2.2.2.2.2.1,d.1.2.2.2.2.2.2.2.2.2.2.2.1))
noncomputable def B4o (a0:LBBe) (a1:Lq2):Bool:=let z1:=B47 a0 a1 (a1.length:Int) (0:Int);(cond (z1.1==0) (z1.2) true)
noncomputable abbrev C5P (r:Bool):AV×List AObj:=((.t true .bool r),[])
noncomputable abbrev C92:D9 C1J→AV×List AObj:=fun d=>C5P (B4o d.1 d.2.1)
noncomputable def A9g (a0:LBBe) (a1:Lq2):Bool:=let z1:=B47 a0 a1 (a1.length:Int) (0:Int);cond (z1.1==0) true (z1.1==1)
noncomputable abbrev C4V:D9 C1J→Bool:=fun d=>A9g d.1 d.2.1
noncomputable abbrev D7Q:Nat→St→Option Tree:=fun b=>match b with | 0=>C6I | _=>fun _=>none
theorem D6p:A7X true G62 (D7Q) Tryz.f79 C1J C4V C92:=by
 rintro ⟨a0,⟨a1,_⟩⟩ hp
 change A9g a0 a1=true at hp
 unfold A9g at hp
 refine Eq.trans (b:=(let z1:=B47 a0 a1 (a1.length:Int) (0:Int);cond (z1.1==0) (some (C5P (z1.2))) (cond (z1.1==1) (some (C5P true)) none))) (by kernel_rfl) ?_
 exact (K9 C5P hp (fun hp=>rfl) (fun hp=>(A70 hp fun _h=>rfl)))
theorem D75:aPP 79 (A19 C1J C4V C92):=pcD true G62 (hl1 (i:=0) (by kernel_rfl) D4L) D6p
noncomputable def S63:Tab:=Tab.add S62 79 (lift (A19 C1J C4V C92))
noncomputable def E0K:FuncId→Bool:=qadd E0J 79
theorem G63:aPG S63 E0K:=G62.addQ D75 (cbl Tryz.f79) (fun _=>rfl)

section
open Go.Proofs Go.Lib
theorem iT0:∀ w,(isAgg 0).run Tryz.prog w=.ok false w:=fun w=>by kernel_rfl
theorem iT3:∀ w,(isAgg 3).run Tryz.prog w=.ok false w:=fun w=>by kernel_rfl
theorem D8r:∀ w,(Go.sizeOf 82).run Tryz.prog w=.ok 2 w:=fun w=>by kernel_rfl
theorem D9h:∀ w,(Go.sizeOf 30).run Tryz.prog w=.ok 1 w:=fun w=>by kernel_rfl
theorem D9g:∀ w,(zeroValue 30).run Tryz.prog w=.ok (Value.slice none 0 0) w:=fun w=>by kernel_rfl
theorem D9f:(Tryz.prog.info? 82).map (fun i=>(i.zero,i.size,i.bytes))=some (some (Value.agg #[.string ⟨#[]⟩,.string ⟨#[]⟩]),2,32):=by kernel_rfl
theorem C9A:Tryz.f94.ntmps=95:=by kernel_rfl

set_option maxHeartbeats 4000000 in
set_option maxRecDepth 100000 in
theorem D7m (b n c i vb voff m vc:Nat) (cs vs:List Value) (w:World) (hi:i<n) (hm:0<m) (hroom:n+m≤c) (hc63:c≤9223372036854775807) (hvb:vb ≠ b)
  (hcl:cs.length=n*2) (hvl:vs.length=m*2)
  (hcs:∀ j v,cs[j]? = some v→w.cell? ⟨b,j,none⟩=some v) (hsp:∀ j,j<(n+m)*2→(w.cell? ⟨b,j,none⟩).isSome=true) (hfz:∀ j,j<(n+m)*2→w.frozen? ⟨b,j,none⟩=false)
  (hvs:∀ j v,vs[j]? = some v→w.cell? ⟨vb,voff+j,none⟩=some v) (h1c:∀ v∈cs,v.oneCell'=true) (h1v:∀ v∈vs,v.oneCell'=true)
  (tA tB:TypeId) (kA kB:Nat) (hsa:w.shape? vb=some (tA,kA)) (hsb:w.shape? b=some (tB,kB)) (hkB:kB ≠ 0) (hfa:w.frozen? ⟨vb,voff,none⟩=false) (hfe:w.frozen? ⟨vb,kA,none⟩=false) :
  Calls Tryz.prog 94 #[.slice (some ⟨b,0,none⟩) n c,.int .i64 i,.slice (some ⟨vb,voff,none⟩) m vc] w fun e w' =>
   e=.returned (.slice (some ⟨b,0,none⟩) (n+m) c)∧w'=(w.drew.setCells b ((i+m)*2) (cs.drop (i*2))).setCells b (i*2) vs:=by
 have t0:=Tryz.underlying0;have t3:=Tryz.underlying3;have t4:=Tryz.underlying4;have t30:=Tryz.underlying30
 have a0:=iT0;have a3:=iT3;have z82:=D8r;have z30:=D9h;have v30:=D9g
 have u0:=run_underlying t0;have u3:=run_underlying t3;have u4:=run_underlying t4;have u30:=run_underlying t30
 have hz1:¬ ((m:Int)=0):=by omega
 have hz2:¬ ((i:Int)=(n:Int)):=by omega
 have hsz:(Tryz.prog.info? 82).map (·.size)=some 2:=by
  obtain ⟨i0,hi0,h0,h1,h2⟩:=info_parts D9f
  rw [hi0];simp [h1]
 have hov:∀ lb cb,(callFunc 100 #[.slice (some ⟨vb,voff,none⟩) m vc,.slice (some ⟨b,(i+m)*2,none⟩) lb cb]).run Tryz.prog w=.ok (.value (.bool false)) w:=fun lb cb=>by
  rw [run_callFunc_extern Tryz.func100 (by kernel_rfl) (by kernel_rfl) (by kernel_rfl) (e:=Extern.SlicesOverlaps.overlaps #[30,30] #[4]) (by kernel_rfl),
   Lib.run_overlaps_apart w 30 4 82 t30 2 D8r ⟨vb,voff,none⟩ ⟨b,(i+m)*2,none⟩ m vc lb cb hvb tA tB kA kB hsa hsb hkB hfa hfe]
  rfl
 have hdl:(cs.drop (i*2)).length=(n - i)*2:=by rw [List.length_drop,hcl];omega
 have mixed:Tryz.prog.follows .mixedOrders=true:=by kernel_rfl
 have hw1:IntKind.i64.wrap ((i:Int)+(m:Int))=(i:Int)+(m:Int):=by rw [IntKind.wrap_i64];omega
 have hb1:(0:Int)≤(i:Int)+(m:Int):=by omega
 have hin:i≤n:=by omega
 have htn:((i:Int)+(m:Int)).toNat=i+m:=by omega
 have hb2:¬ (c=i+m):=by omega
 have hb3:(i:Int)≤(n:Int)+(m:Int):=by omega
 have hb4:¬ (c=i):=by omega
 have hcp1:∀ ty dc sc,(Builtin.copy_ #[30,30] ty #[.slice (some ⟨b,(i+m)*2,none⟩) (n+m - (i+m)) dc,.slice (some ⟨b,i*2,none⟩) (n+m - i) sc]).run Tryz.prog w.drew=.ok (goInt ((n - i:Nat):Int)) (w.drew.setCells b ((i+m)*2) (cs.drop (i*2))):=fun ty dc sc=>by
  have hmin:Nat.min (n+m - i) (n+m - (i+m))=n - i:=by simp only [Nat.min_def];split<;>omega
  have:=A7v w.drew 30 30 ty 82 2 b ((i+m)*2) (n+m - (i+m)) dc ⟨b,i*2,none⟩ (n+m - i) sc (cs.drop (i*2)) t30 hsz (by rw [hdl,hmin])
   (fun j v hj=>by rw [Addr.add_lit];exact hcs (i*2+j) v (by rwa [List.getElem?_drop] at hj))
   (fun j hj=>hsp _ (by rw [hdl] at hj;omega)) (fun j hj=>hfz _ (by rw [hdl] at hj;omega)) (fun v hv=>h1c v (List.mem_of_mem_drop hv))
  rw [hmin] at this
  exact this
 obtain ⟨W1,hW1⟩:∃ W1,W1=w.drew.setCells b ((i+m)*2) (cs.drop (i*2)):=⟨_,rfl⟩
 have hsp1:∀ k,k<(n+m)*2→(W1.cell? ⟨b,k,none⟩).isSome=true:=fun k hk=>by
  rw [hW1]
  exact isSome_setCells b (cs.drop (i*2)) ((i+m)*2) w.drew (fun j hj=>hsp ((i+m)*2+j) (by rw [hdl] at hj;omega)) k (hsp k hk)
 have hcp2:∀ (W:World),(∀ x,W.cell? x=W1.cell? x)→(∀ x,W.frozen? x=W1.frozen? x)→∀ ty dc,(Builtin.copy_ #[30,30] ty #[.slice (some ⟨b,i*2,none⟩) (n+m - i) dc,.slice (some ⟨vb,voff,none⟩) m vc]).run Tryz.prog W=.ok (goInt m) (W.setCells b (i*2) vs):=fun W hWc hWf ty dc=>by
  have hmin:Nat.min m (n+m - i)=m:=by simp only [Nat.min_def];split<;>omega
  have:=A7v W 30 30 ty 82 2 b (i*2) (n+m - i) dc ⟨vb,voff,none⟩ m vc vs t30 hsz (by rw [hvl,hmin])
   (fun j v hj=>by
    rw [Addr.add_lit,hWc,hW1,World.cell?_setCells_out b _ _ _ _ (fun h _=>absurd h hvb)]
    exact hvs j v hj)
   (fun j hj=>by rw [hWc];exact hsp1 _ (by omega)) (fun j hj=>by rw [hWf,hW1,World.frozen?_setCells];exact hfz _ (by omega)) h1v
  rw [hmin] at this
  exact this
 rw [← hW1] at hcp1
 go_enter Tryz.func94,C9A
 go_wp2_with (simp only [hov])
 go_region_law_o (refine step_copy_runI rfl _ _ 30 30 rfl _ _ (by simp [Act.eval,Act.put]) (by simp [Act.eval,Act.put]) (hcp1 _ _ _) ?_)
 go_wp2_with (at_builtin;refine wpList_copy_runI _ rfl _ _ 30 30 rfl _ _ rfl rfl (hcp2 _ (fun _=>rfl) (fun _=>rfl) _ _) ?_)
 go_ret
 first | exact ⟨rfl,rfl⟩ | exact ⟨rfl,by rw [hW1]⟩
set_option maxHeartbeats 4000000 in
set_option maxRecDepth 100000 in
theorem D20 (b n c vb voff m vc:Nat) (vs:List Value) (w:World) (hm:0<m) (hroom:n+m≤c) (hc63:c≤9223372036854775807)
  (hvl:vs.length=m*2) (hsp:∀ j,j<m*2→(w.cell? ⟨b,n*2+j,none⟩).isSome=true) (hfz:∀ j,j<m*2→w.frozen? ⟨b,n*2+j,none⟩=false)
  (hvs:∀ j v,vs[j]? = some v→w.cell? ⟨vb,voff+j,none⟩=some v) (h1v:∀ v∈vs,v.oneCell'=true) :
  Calls Tryz.prog 94 #[.slice (some ⟨b,0,none⟩) n c,.int .i64 n,.slice (some ⟨vb,voff,none⟩) m vc] w fun e w' =>
   e=.returned (.slice (some ⟨b,0,none⟩) (n+m) c)∧w'=w.setCells b (n*2) vs:=by
 have t0:=Tryz.underlying0;have t3:=Tryz.underlying3;have t4:=Tryz.underlying4;have t30:=Tryz.underlying30
 have a0:=iT0;have a3:=iT3;have z82:=D8r;have z30:=D9h;have v30:=D9g
 have u0:=run_underlying t0;have u3:=run_underlying t3;have u4:=run_underlying t4;have u30:=run_underlying t30
 have mixed:Tryz.prog.follows .mixedOrders=true:=by kernel_rfl
 obtain ⟨i0,hi0,hz0,hzs,hzb⟩:=info_parts D9f
 have hz1:¬ ((m:Int)=0):=by omega
 have hsrc:Src Tryz.prog i0.size 30 (.slice (some ⟨vb,voff,none⟩) m vc) m vs w:=Src.ofSlice w t30 ⟨vb,voff,none⟩ m vc vs (by rw [hzs];exact hvl) (fun j u hj=>by rw [Addr.add_lit];exact hvs j u hj) h1v
 have h1:∀ j,j<vs.length→(w.cell? ⟨b,0+n*i0.size+j,none⟩).isSome=true:=fun j hj=>by rw [hzs,Nat.zero_add];exact hsp j (by omega)
 have h2:∀ j,j<vs.length→w.frozen? ⟨b,0+n*i0.size+j,none⟩=false:=fun j hj=>by rw [hzs,Nat.zero_add];exact hfz j (by omega)
 have hoff:0+n*i0.size=n*2:=by rw [hzs];omega
 go_enter Tryz.func94,C9A
 go_wp2_with (at_builtin;refine wpList_append_room_src _ rfl _ _ 30 30 rfl 82 i0 t30 hi0 b 0 n c rfl _ rfl m vs hsrc hroom h1 h2 ?_)
 go_ret
 first | exact ⟨rfl,rfl⟩ | exact ⟨rfl,by rw [hoff]⟩ | exact ⟨rfl,by rw [← hoff]⟩ | exact ⟨rfl,by simp [hzs]⟩

set_option maxHeartbeats 4000000 in
set_option maxRecDepth 100000 in
theorem D2Z (base:Option Addr) (n c vb voff m vc:Nat) (cs vs:List Value) (w:World) (hm:0<m) (hnc:n≤c) (hroom:c<n+m) (hbig:(n+m)*32≤140737488355328)
  (hcl:cs.length=n*2) (hvl:vs.length=m*2) (hnil:base=none→n=0)
  (hcs:∀ a,base=some a→∀ j v,cs[j]? = some v→w.cell? (a.add j)=some v)
  (hvs:∀ j v,vs[j]? = some v→w.cell? ⟨vb,voff+j,none⟩=some v) (h1v:∀ v∈vs,v.oneCell'=true) :
  Calls Tryz.prog 94 #[.slice base n c,.int .i64 n,.slice (some ⟨vb,voff,none⟩) m vc] w fun e w' =>
   e=.returned (.slice (some ⟨w.heap.size,0,none⟩) (n+m) (grownCap w (n+m) c 82)) ∧
   w'=w.drew.alloc (.cells ((cs++vs).toArray++Builtin.zeroCells #[Value.string ⟨#[]⟩,Value.string ⟨#[]⟩] (grownCap w (n+m) c 82 - (n+m))) 82):=by
 have t0:=Tryz.underlying0;have t3:=Tryz.underlying3;have t4:=Tryz.underlying4;have t30:=Tryz.underlying30
 have a0:=iT0;have a3:=iT3;have z82:=D8r;have z30:=D9h;have v30:=D9g
 have u0:=run_underlying t0;have u3:=run_underlying t3;have u4:=run_underlying t4;have u30:=run_underlying t30
 have mixed:Tryz.prog.follows .mixedOrders=true:=by kernel_rfl
 obtain ⟨i0,hi0,hz0,hzs,hzb⟩:=info_parts D9f
 have hz1:¬ ((m:Int)=0):=by omega
 have hsrc:Src Tryz.prog i0.size 30 (.slice (some ⟨vb,voff,none⟩) m vc) m vs w:=Src.ofSlice w t30 ⟨vb,voff,none⟩ m vc vs (by rw [hzs];exact hvl) (fun j u hj=>by rw [Addr.add_lit];exact hvs j u hj) h1v
 have hold:(Builtin.firstCells i0.size n (.slice base n c)).run Tryz.prog w.drew=.ok cs.toArray w.drew:=by
  rw [hzs]
  cases base with
  | none =>
   have h0:=hnil rfl
   subst h0
   have hc0:cs=[]:=List.length_eq_zero_iff.1 (by omega)
   rw [hc0]
   exact run_firstCells_none w.drew 2 0 0 c
  | some a=>exact run_firstCells_some w.drew 2 n a n c cs (by omega) (fun j v hj=>hcs a rfl j v hj)
 have hrun:∀ ty,(Builtin.append_ #[30,30] ty #[.slice base n c,.slice (some ⟨vb,voff,none⟩) m vc]).run Tryz.prog w=_:=fun ty =>
  run_append_grow_src w 30 30 ty 82 i0 _ t30 hi0 hz0 base n c cs hold _ m vs hsrc hroom (by omega) (by rw [hzb];exact growslice_fits hroom hbig)
 go_enter Tryz.func94,C9A
 cases base with
 | none =>
  have h0:=hnil rfl
  subst h0
  go_wp2_with (at_builtin;refine Lib.wpList_append_run _ rfl _ _ _ _ rfl _ _ rfl rfl _ _ (hrun _) ?_)
  go_ret
  exact ⟨rfl,rfl⟩
 | some a =>
  obtain ⟨ab,ao,asp⟩:=a
  go_wp2_with (at_builtin;refine Lib.wpList_append_run _ rfl _ _ _ _ rfl _ _ rfl rfl _ _ (hrun _) ?_)
  all_goals (go_ret;exact ⟨rfl,rfl⟩)
set_option maxHeartbeats 4000000 in
set_option maxRecDepth 100000 in
theorem D8t (b n c i vb voff m vc:Nat) (cs vs:List Value) (w:World) (hi:i<n) (hm:0<m) (hnc:n≤c) (hroom:c<n+m) (hbig:(n+m)*32≤140737488355328)
    (hcl:cs.length=n*2) (hvl:vs.length=m*2)
    (hcs:∀ j v,cs[j]? = some v→w.cell? ⟨b,j,none⟩=some v)
    (hvs:∀ j v,vs[j]? = some v→w.cell? ⟨vb,voff+j,none⟩=some v) (h1c:∀ v∈cs,v.oneCell'=true) (h1v:∀ v∈vs,v.oneCell'=true) :
    Calls Tryz.prog 94 #[.slice (some ⟨b,0,none⟩) n c,.int .i64 i,.slice (some ⟨vb,voff,none⟩) m vc] w fun e w' =>
      e=.returned (.slice (some ⟨w.heap.size,0,none⟩) (n+m) (grownCap w (n+m) c 82)) ∧
      w'=(((w.alloc (.cells ((cs.take (i*2)).toArray++Builtin.zeroCells #[Value.string ⟨#[]⟩,Value.string ⟨#[]⟩] (n+m - i)++Builtin.zeroCells #[Value.string ⟨#[]⟩,Value.string ⟨#[]⟩] (grownCap w (n+m) c 82 - (n+m))) 82)).drew.setCells w.heap.size (i*2) vs).drew).setCells w.heap.size ((i+m)*2) (cs.drop (i*2)):=by
  have t0:=Tryz.underlying0;have t3:=Tryz.underlying3;have t4:=Tryz.underlying4;have t30:=Tryz.underlying30
  have a0:=iT0;have a3:=iT3;have z82:=D8r;have z30:=D9h;have v30:=D9g
  have u0:=run_underlying t0;have u3:=run_underlying t3;have u4:=run_underlying t4;have u30:=run_underlying t30
  have mixed:Tryz.prog.follows .mixedOrders=true:=by kernel_rfl
  obtain ⟨i0,hi0,hz0,hzs,hzb⟩:=info_parts D9f
  have hz1:¬ ((m:Int)=0):=by omega
  have hz2:¬ ((i:Int)=(n:Int)):=by omega
  have hz3:(c:Int)<(n:Int)+(m:Int):=by omega
  have hsz:(Tryz.prog.info? 82).map (·.size)=some 2:=by rw [hi0];simp [hzs]
  have hbw:b<w.heap.size:=block_lt_of_cell (hcs 0 _ (List.getElem?_eq_getElem (by omega)))
  have hvw:vb<w.heap.size:=block_lt_of_cell (hvs 0 _ (List.getElem?_eq_getElem (by omega)))
  have hkk:(n:Int)+(m:Int) - (i:Int)=((n+m - i:Nat):Int):=by omega
  have hik:i+(n+m - i)=n+m:=by omega
  have hold:(Builtin.firstCells i0.size i (.slice (some ⟨b,0,none⟩) i c)).run Tryz.prog w.drew=.ok (cs.take (i*2)).toArray w.drew:=by
    rw [hzs]
    exact run_firstCells_some w.drew 2 i ⟨b,0,none⟩ i c (cs.take (i*2)) (by rw [List.length_take];omega) (fun j v hj=>by
      rw [Addr.add_lit,Nat.zero_add]
      rw [List.getElem?_take] at hj
      split at hj
      · exact hcs j v hj
      · cases hj)
  have hrz : ∀ ty, (Builtin.append_ #[30, 3] ty #[.slice (some ⟨b, 0, none⟩) i c, .int .i64 ((n : Int) + (m : Int) - (i : Int))]).run Tryz.prog w =
      .ok (.slice (some ⟨w.heap.size,0,none⟩) (n+m) (grownCap w (n+m) c 82)) (w.drew.alloc (.cells ((cs.take (i*2)).toArray++Builtin.zeroCells #[Value.string ⟨#[]⟩,Value.string ⟨#[]⟩] (n+m - i)++Builtin.zeroCells #[Value.string ⟨#[]⟩,Value.string ⟨#[]⟩] (grownCap w (n+m) c 82 - (n+m))) 82)):=fun ty=>by
    have h:=Lib.run_append_grow_zeros w 30 3 ty 82 i0 _ .i64 .i64 t30 t3 hi0 hz0 (some ⟨b,0,none⟩) i c (cs.take (i*2)) hold (n+m - i) (by omega) (by omega) (by omega) (by omega) (by rw [hzb];omega) (by rw [hzb,hik];exact growslice_fits hroom hbig)
    rw [hik] at h
    rw [hkk]
    exact h
  obtain ⟨G,hG⟩:∃ G,G=grownCap w (n+m) c 82:=⟨_,rfl⟩
  obtain ⟨ROW,hROW⟩:∃ ROW:Array Value,ROW=(cs.take (i*2)).toArray++Builtin.zeroCells #[Value.string ⟨#[]⟩,Value.string ⟨#[]⟩] (n+m - i)++Builtin.zeroCells #[Value.string ⟨#[]⟩,Value.string ⟨#[]⟩] (G - (n+m)):=⟨_,rfl⟩
  rw [← hG] at hrz ⊢
  rw [← hROW] at hrz ⊢
  have hRl:(n+m)*2≤ROW.size:=by
    rw [hROW]
    simp [Builtin.zeroCells]
    omega
  obtain ⟨W1,hW1⟩:∃ W1,W1=w.drew.alloc (.cells ROW 82):=⟨_,rfl⟩
  rw [← hW1] at hrz
  have hN:∀ j,j<(n+m)*2→(W1.cell? ⟨w.heap.size,j,none⟩).isSome=true:=fun j hj=>by
    rw [hW1,World.cell?_alloc_at (w:=w.drew) ROW _ w.heap.size j rfl,Array.getElem?_eq_getElem (by omega)];rfl
  have hNf:∀ j,W1.frozen? ⟨w.heap.size,j,none⟩=false:=fun j=>by rw [hW1];exact World.frozen?_alloc_at (w:=w.drew) ROW _ w.heap.size j rfl
  have hOb:∀ j v,w.cell? ⟨b,j,none⟩=some v→W1.cell? ⟨b,j,none⟩=some v:=fun j v h=>by rw [hW1,World.cell?_alloc_past (w:=w.drew) _ b j hbw];exact h
  have hOv:∀ j v,w.cell? ⟨vb,j,none⟩=some v→W1.cell? ⟨vb,j,none⟩=some v:=fun j v h=>by rw [hW1,World.cell?_alloc_past (w:=w.drew) _ vb j hvw];exact h
  have hcpA:∀ (W:World),(∀ x,W.cell? x=W1.cell? x)→(∀ x,W.frozen? x=W1.frozen? x)→∀ ty dc,(Builtin.copy_ #[30,30] ty #[.slice (some ⟨w.heap.size,i*2,none⟩) (n+m - i) dc,.slice (some ⟨vb,voff,none⟩) m vc]).run Tryz.prog W=.ok (goInt m) (W.setCells w.heap.size (i*2) vs):=fun W hWc hWf ty dc=>by
    have hmin:Nat.min m (n+m - i)=m:=by simp only [Nat.min_def];split<;>omega
    have:=A7v W 30 30 ty 82 2 w.heap.size (i*2) (n+m - i) dc ⟨vb,voff,none⟩ m vc vs t30 hsz (by rw [hvl,hmin])
      (fun j v hj=>by rw [Addr.add_lit,hWc];exact hOv _ v (hvs j v hj))
      (fun j hj=>by rw [hWc];exact hN _ (by omega)) (fun j hj=>by rw [hWf];exact hNf _) h1v
    rw [hmin] at this
    exact this
  have hGn:n+m≤G:=by rw [hG];exact grownCap_ge w _ _ _
  have hG63:G≤9223372036854775807:=by
    have:=grownCap_le_maxLen w (n+m) c 82 (by unfold maxLen;omega)
    rw [← hG] at this
    unfold maxLen at this
    omega
  have hGi:¬ (G=i):=by omega
  have hGim:¬ (G=i+m):=by omega
  have hci:¬ (c=i):=by omega
  have hbN:b ≠ w.heap.size:=by omega
  have hdl:(cs.drop (i*2)).length=(n - i)*2:=by rw [List.length_drop,hcl];omega
  have hcpB:∀ (W:World),(∀ x,W.cell? x=(W1.setCells w.heap.size (i*2) vs).cell? x)→(∀ x,W.frozen? x=(W1.setCells w.heap.size (i*2) vs).frozen? x)→∀ ty dc sc,(Builtin.copy_ #[30,30] ty #[.slice (some ⟨w.heap.size,(i+m)*2,none⟩) (n+m - (i+m)) dc,.slice (some ⟨b,i*2,none⟩) (n - i) sc]).run Tryz.prog W=.ok (goInt ((n - i:Nat):Int)) (W.setCells w.heap.size ((i+m)*2) (cs.drop (i*2))):=fun W hWc hWf ty dc sc=>by
    have hmin:Nat.min (n - i) (n+m - (i+m))=n - i:=by simp only [Nat.min_def];split<;>omega
    have:=A7v W 30 30 ty 82 2 w.heap.size ((i+m)*2) (n+m - (i+m)) dc ⟨b,i*2,none⟩ (n - i) sc (cs.drop (i*2)) t30 hsz (by rw [hdl,hmin])
      (fun j v hj=>by
        rw [Addr.add_lit,hWc,World.cell?_setCells_out _ _ _ _ _ (fun h _=>absurd h hbN)]
        exact hOb _ v (hcs (i*2+j) v (by rwa [List.getElem?_drop] at hj)))
      (fun j hj=>by rw [hWc];exact isSome_setCells w.heap.size vs (i*2) W1 (fun t ht=>hN (i*2+t) (by omega)) _ (hN _ (by rw [hdl] at hj;omega)))
      (fun j hj=>by rw [hWf,World.frozen?_setCells];exact hNf _) (fun v hv=>h1c v (List.mem_of_mem_drop hv))
    rw [hmin] at this
    exact this
  subst hW1
  have hE1:∀ x,((w.alloc (.cells ROW 82)).drew).cell? x=(w.drew.alloc (.cells ROW 82)).cell? x:=fun x=>rfl
  have hE2:∀ x,((w.alloc (.cells ROW 82)).drew).frozen? x=(w.drew.alloc (.cells ROW 82)).frozen? x:=fun x=>rfl
  have hF1:∀ x,(((w.alloc (.cells ROW 82)).drew.setCells w.heap.size (i*2) vs).drew).cell? x=((w.drew.alloc (.cells ROW 82)).setCells w.heap.size (i*2) vs).cell? x:=fun x=>rfl
  have hF2:∀ x,(((w.alloc (.cells ROW 82)).drew.setCells w.heap.size (i*2) vs).drew).frozen? x=((w.drew.alloc (.cells ROW 82)).setCells w.heap.size (i*2) vs).frozen? x:=fun x=>rfl
  have hw1:IntKind.i64.wrap ((i:Int)+(m:Int))=(i:Int)+(m:Int):=by rw [IntKind.wrap_i64];omega
  have hb1:(0:Int)≤(i:Int)+(m:Int):=by omega
  have hin:i≤n:=by omega
  have htn:((i:Int)+(m:Int)).toNat=i+m:=by omega
  have hb3:(i:Int)≤(n:Int):=by omega
  clear hkk hik hold hROW hG hRl
  go_enter Tryz.func94,C9A
  go_wp2_with (first
    | (at_builtin;refine Lib.wpList_append_run _ rfl _ _ _ _ rfl _ _ rfl rfl _ _ (hrz _) ?_)
    | (at_builtin;refine wpList_copy_runI _ rfl _ _ 30 30 rfl _ _ rfl rfl (hcpA _ hE1 hE2 _ _) ?_)
    | (at_builtin;refine wpList_copy_runI _ rfl _ _ 30 30 rfl _ _ rfl rfl (hcpB _ (fun _=>rfl) (fun _=>rfl) _ _ _) ?_))
  go_region_law_o (refine step_copy_runI rfl _ _ 30 30 rfl (.slice (some ⟨w.heap.size,(i+m)*2,none⟩) (n+m - (i+m)) (G - (i+m))) (.slice (some ⟨b,i*2,none⟩) (n - i) (c - i)) (by simp [Act.eval,Act.put]) (by simp [Act.eval,Act.put]) (hcpB _ hF1 hF2 3 (G - (i+m)) (c - i)) ?_)
  go_wp2
  go_ret
  exact ⟨rfl,rfl⟩
end
theorem D9C:aPM 94 (A6K 82):=MContract.insPair (F:=94) (E:=82)
 (fun b n c i vb vc cs vs w h1 h2 h3 h4 h5 h6 h7 h8 h9 h10 h11 h12 tA tB kA kB g1 g2 g3 g4 g5=>D7m b n c i vb 0 1 vc cs vs w h1 (by decide) h2 h3 h4 h5 h6 h7 h8 h9 h10 h11 h12 tA tB kA kB g1 g2 g3 g4 g5)
 (fun b n c vb vc vs w h1 h2 h3 h4 h5 h6 h7=>D20 b n c vb 0 1 vc vs w (by decide) h1 h2 h3 h4 h5 h6 h7)
 (fun base n c vb vc cs vs w h1 h2 h3 h4 h5 h6 h7 h8 h9=>(D2Z base n c vb 0 1 vc cs vs w (by decide) h1 h2 h3 h4 h5 h6 h7 h8 h9).mono (fun _ _ h=>⟨_,grownCap_ge w (n+1) c 82,grownCap_le_maxLen w (n+1) c 82 (by simp only [maxLen];omega),h.1,h.2⟩))
 (fun b n c i vb vc cs vs w h1 h2 h3 h4 h5 h6 h7 h8 h9 h10=>(D8t b n c i vb 0 1 vc cs vs w h1 (by decide) h2 h3 h4 h5 h6 h7 h8 h9 h10).mono (fun _ _ h=>⟨_,grownCap_ge w (n+1) c 82,grownCap_le_maxLen w (n+1) c 82 (by simp only [maxLen];omega),h.1,h.2⟩))
noncomputable def E1o (l:LBBe) (i:Int) (y:LBBe):LBBe:=l.take i.toNat++(y++l.drop i.toNat)
noncomputable def D6i (l:LBBe) (i:Int) (y:LBBe):Bool:=decide (0≤i∧i≤(l.length:Int))&&decide ((l.length+1)*32≤140737488355328)
noncomputable def S64:Tab:=Tab.add S63 94 (win F0 (A6K 82))
noncomputable def E0L:FuncId→Bool:=E0K
theorem G64:aPG S64 E0L:=G63.addM (D9C.win F0) (A7y _) ⟨Tryz.f94,by kernel_rfl,by kernel_rfl,by kernel_rfl⟩ (by kernel_rfl)

abbrev B9Q:SS:=⟨[.all 0 2,.t true .str,.t true .str],[.rows 82 true J6]⟩
abbrev A8y:SS:=⟨(.all 0 2::.t true .str::.t true .str::.junk::.junk::.junk::.junk::.junk::tI::D4I),[.rows 82 true J6]⟩
abbrev B8f:SS:=⟨(.all 0 2::.t true .str::.t true .str::.junk::.junk::.junk::.junk::.junk::tI::D4I),[.rows 82 true J6]⟩
noncomputable def C6W (x1 x2:ByteArray) (x8:Int) (h0:LBBe):RT A8y.den:=let z1:=(h0.getD x8.toNat (bE,bE)).1;(.br (decide (x8<(h0.length:Int))) (.br (decide (0≤x8∧x8<(h0.length:Int))) (.br (Op.bytesLess z1.toList x1.toList||(z1.toList==x1.toList)) (.next (((),x1,x2,(),(),(),(),(),wI (x8+(1:Int)),u34),(h0,()))) (.done (.exit 0) B8f (((),x1,x2,(),(),(),(),(),x8,u34),(h0,())))) .fail) (.done (.exit 0) B8f (((),x1,x2,(),(),(),(),(),x8,u34),(h0,()))))
abbrev B2A:=(ByteArray)×(ByteArray)×(Int)×(LBBe)
abbrev B2w:=Nat×(ByteArray)×(ByteArray)×(Int)×(LBBe)
def B95:B2w:=(99,(bE:ByteArray),(bE:ByteArray),((0:Int):Int),([]:LBBe))
noncomputable def B3R (x1 x2:ByteArray) (x8:Int) (h0:LBBe):B2A ⊕ B2w:=let z1:=(h0.getD x8.toNat (bE,bE)).1;(cond (decide (x8<(h0.length:Int))) (cond (decide (0≤x8∧x8<(h0.length:Int))) (cond (Op.bytesLess z1.toList x1.toList||(z1.toList==x1.toList)) (.inl (x1,x2,wI (x8+(1:Int)),h0)) (.inr (0,x1,x2,x8,h0))) (.inr B95)) (.inr (0,x1,x2,x8,h0)))
noncomputable def B3t (x1 x2:ByteArray) (x8:Int) (h0:LBBe):B2w:=itX (fun v:B2A=>B3R v.1 v.2.1 v.2.2.1 v.2.2.2) B95 (x1,x2,x8,h0)
noncomputable def B9T (a:B2w):CT:=(.br (a.1==0) (.done (.exit 0) B8f (((),a.2.1,a.2.2.1,(),(),(),(),(),a.2.2.2.1,u34),(a.2.2.2.2,()))) .fail)
noncomputable def D37 (x1 x2:ByteArray) (x8:Int) (h0:LBBe):CT:=B9T (B3t x1 x2 x8 h0)
noncomputable abbrev B5W {α:Sort _} (f:ByteArray→ByteArray→Int→LBBe→α) (d:A8y.den):α:=f d.1.2.1 d.1.2.2.1 d.1.2.2.2.2.2.2.2.2.1 d.2.1
noncomputable abbrev C0K:A8y.den→RT A8y.den:=(B5W C6W)
noncomputable def C12:Code:=((D5 0 (A1o Tryz.f90)).getD 0 (0,.skip)).2
noncomputable abbrev C6m (v:B2A):A8y.den:=(((),v.1,v.2.1,(),(),(),(),(),v.2.2.1,u34),(v.2.2.2,()))
theorem D3x:(∀ v:B2A,(C6W v.1 v.2.1 v.2.2.1 v.2.2.2).val=A6W C6m B9T (B3R v.1 v.2.1 v.2.2.1 v.2.2.2))∧∀ a:B2w,CEnd A8y.den (B9T a):=⟨fun v=>(A72 (A72 (A72 rfl rfl) rfl) rfl),fun a=>(A7P aCD A7R)⟩
noncomputable def C6g (x1 x2:ByteArray) (x8:Int) (h0:LBBe):Option (Ex×St):=let z1:=(⟨((.all 0 2)::(.t true .str x1)::(.t true .str x2)::.junk::.junk::.junk::.junk::.junk::(ti x8)::D56),[(.rows 82 true J6 h0)],1,[]⟩:St);let z2:=(h0.getD x8.toNat (bE,bE)).1;(cond (decide (x8<(h0.length:Int))) (cond (decide (0≤x8∧x8<(h0.length:Int))) (cond (Op.bytesLess z2.toList x1.toList||(z2.toList==x1.toList)) (some (.normal,(⟨((.all 0 2)::(.t true .str x1)::(.t true .str x2)::.junk::.junk::.junk::.junk::.junk::(ti (wI (x8+(1:Int))))::D56),[(.rows 82 true J6 h0)],1,[]⟩:St))) (some ((.exit 0),z1))) none) (some ((.exit 0),z1)))
theorem D1C:RdA G64 aLn 0 C12 A8y 1 [] (kepts [] [(0,[0,1,2,8])]) (B5W C6g):=by
 intro d
 kernel_rfl
theorem D1L:∀ d:A8y.den,(B5W C6g) d=(C0K d).opt 1 []:=by
 intro d
 kernel_rfl
noncomputable abbrev C4q:St→Option Tree:=A8y.say 1 [] [] (B5W D37)
theorem D25:aPL C4q C12:=SS.wp2 hlz [] C0K D1C D1L _ (fun d=>Runs.ofI2 (step:=C0K) C6m D3x rfl (d.1.2.1,d.1.2.2.1,d.1.2.2.2.2.2.2.2.2.1,d.2.1))
noncomputable def C4Q (x1 x2:ByteArray) (h0:LBBe):=let z1:=B3t x1 x2 (0:Int) h0;E1o (z1.2.2.2.2) (z1.2.2.2.1) [((z1.2.1),(z1.2.2.1))]
noncomputable def C9z (x1 x2:ByteArray) (h0:LBBe):LBBe:=let z1:=B4K h0 x1;(cond (decide (z1 ≥ (0:Int))) (h0.set (z1.toNat) ((h0.getD (z1.toNat) (bE,bE)).1,x2)) (C4Q x1 x2 h0))
noncomputable abbrev C3p (r:LBBe):AV×List AObj×List Nat:=((.all 0 2),[(.rows 82 true J6 r)],[0])
noncomputable abbrev D15:B9Q.den→AV×List AObj×List Nat:=fun d=>C3p (C9z d.1.2.1 d.1.2.2.1 d.2.1)
noncomputable def B2Q (x1 x2:ByteArray) (h0:LBBe):Bool:=let z1:=B3t x1 x2 (0:Int) h0;let z2:=B4K h0 x1;(B1n h0 x1)&&(cond (decide (z2 ≥ (0:Int))) (decide (0≤z2∧z2<(h0.length:Int))) ((z1.1==0)&&(D6i (z1.2.2.2.2) (z1.2.2.2.1) [((z1.2.1),(z1.2.2.1))])))
noncomputable abbrev C8z:B9Q.den→Bool:=fun d=>B2Q d.1.2.1 d.1.2.2.1 d.2.1
noncomputable abbrev D6S:Nat→St→Option Tree:=fun b=>match b with | 0=>C4q | _=>fun _=>none
theorem D5d:A7V false [] [0] [] G64 (D6S) Tryz.f90 B9Q C8z D15:=by
 rintro ⟨⟨_,x1,x2,_⟩,⟨h0,_⟩⟩ hp
 change B2Q x1 x2 h0=true at hp
 unfold B2Q at hp
 refine Eq.trans (b:=(let z1:=B3t x1 x2 (0:Int) h0;let z2:=B4K h0 x1;cond (B1n h0 x1) (cond (decide (z2 ≥ (0:Int))) (cond (decide (0≤z2∧z2<(h0.length:Int))) (some (C3p (h0.set (z2.toNat) ((h0.getD (z2.toNat) ((⟨#[]⟩:ByteArray),(⟨#[]⟩:ByteArray))).1,x2)))) none) (cond (z1.1==0) (cond (D6i (z1.2.2.2.2) (z1.2.2.2.1) [((z1.2.1),(z1.2.2.1))]) (some (C3p (C4Q x1 x2 h0))) none) none)) none)) (by kernel_rfl) ?_
 exact (A7Y hp fun hp=>(K9 C3p hp (fun hp=>(A70 hp fun _h=>rfl)) (fun hp=>(A7Y hp fun hp=>(A70 hp fun _h=>rfl)))))
noncomputable abbrev D2a:=win F0 (msum B9Q C8z D15)
theorem D67:aPM 90 D2a:=(mcE false [] [0] []  G64 (hl1 (i:=0) (by kernel_rfl) D25) D5d).win F0
noncomputable def S65:Tab:=Tab.add S64 90 (D2a)
noncomputable def E0M:FuncId→Bool:=E0L
theorem G65:aPG S65 E0M:=G64.addM D67 (A7y _) (cbl Tryz.f90) (by kernel_rfl)

abbrev B5R:SS:=⟨[.agg [.t true .str,.t true .str],.ptr 0 0 1 0],[.box [.t true .str]]⟩
noncomputable def B6j (x0_0 x0_1 p0:ByteArray):Bool:=(x0_0.toList==p0.toList)
noncomputable abbrev D4u (p0:ByteArray) (r:Bool):AV×List AObj×List Nat:=((.t true .bool r),[(.box [(.t true .str p0)])],[])
noncomputable abbrev C8c:B5R.den→AV×List AObj×List Nat:=fun d=>D4u d.2.1.1 (B6j d.1.1.1 d.1.1.2.1 d.2.1.1)
noncomputable abbrev C4l:B5R.den→Bool:=fun d=>true
theorem D1O:A7W G65 aLn Tryz.f96 B5R C4l C8c:=by
 rintro ⟨⟨⟨x0_0,x0_1,_⟩,_,_⟩,⟨⟨p0,_⟩,_⟩⟩ hp
 kernel_rfl
noncomputable abbrev C8j:=winQ (msum B5R C4l C8c)
theorem D4i:aPM 96 C8j:=(mcM G65 hlz D1O).winQ (A7p fun d=>⟨rfl,rfl⟩)
noncomputable def S66:Tab:=Tab.add S65 96 (C8j)
noncomputable def E0N:FuncId→Bool:=qadd E0M 96
theorem G66:aPG S66 E0N:=G65.addMQ D4i (A7w _) (cbl Tryz.f96) (A5Z _)

abbrev N5:SS:=⟨[.all 0 2,.fn 96 [1]],[.rows 82 true J6,.box [.t true .str]]⟩
abbrev I6:SS:=⟨(.all 0 2::.fn 96 [1]::.junk::.junk::.junk::.junk::.junk::tI::tI::E1y),[.rows 82 true J6,.box [.t true .str]]⟩
abbrev Y0:SS:=⟨(.junk::.junk::.junk::.junk::tI::D7p),[.rows 82 true J6,.box [.t true .str]]⟩
abbrev Y1:SS:=⟨(.junk::D4G),[.rows 82 true J6,.box [.t true .str]]⟩
noncomputable def R0 (x8:Int) (h0:LBBe) (q0:ByteArray):=let z1:=h0.getD x8.toNat (bE,bE);B6j (z1.1) (z1.2) q0
noncomputable def Z9 (x7 x8:Int) (h0:LBBe) (q0:ByteArray):RT I6.den:=(.br (decide (x8<x7)) (.br (decide (0≤x8∧x8<(h0.length:Int))) (.br (R0 x8 h0 q0) (.done .ret Y0 (((),(),(),(),x8,u15),(h0,(q0,()),()))) (.next (((),(),(),(),(),(),(),x7,wI (x8+(1:Int)),u11),(h0,(q0,()),())))) .fail) (.done (.exit 0) Y1 ((u20),(h0,(q0,()),()))))
abbrev K7:=(Int)×(Int)
abbrev K5:=Nat×(Int)
def Q2:K5:=(99,((0:Int):Int))
noncomputable def L9 (x7 x8:Int) (h0:LBBe) (q0:ByteArray):K7 ⊕ K5:=(cond (decide (x8<x7)) (cond (decide (0≤x8∧x8<(h0.length:Int))) (cond (R0 x8 h0 q0) (.inr (0,x8)) (.inl (x7,wI (x8+(1:Int))))) (.inr Q2)) (.inr (1,((0:Int):Int))))
noncomputable def L7 (x7 x8:Int) (h0:LBBe) (q0:ByteArray):K5:=itX (fun v:K7=>L9 v.1 v.2 h0 q0) Q2 (x7,x8)
noncomputable def P9 (h0:LBBe) (q0:ByteArray) (a:K5):CT:=(.br (a.1==0) (.done .ret Y0 (((),(),(),(),a.2,u15),(h0,(q0,()),()))) (.br (a.1==1) (.done (.exit 0) Y1 ((u20),(h0,(q0,()),()))) .fail))
noncomputable def B1z (x7 x8:Int) (h0:LBBe) (q0:ByteArray):CT:=(P9 h0 q0) (L7 x7 x8 h0 q0)
noncomputable abbrev Z3 {α:Sort _} (f:Int→Int→LBBe→ByteArray→α) (d:I6.den):α:=f d.1.2.2.2.2.2.2.2.1 d.1.2.2.2.2.2.2.2.2.1 d.2.1 d.2.2.1.1
noncomputable abbrev Q5:I6.den→RT I6.den:=(Z3 Z9)
noncomputable def X1:Code:=((D5 0 (A1o Tryz.f98)).getD 0 (0,.skip)).2
noncomputable abbrev Z7 (h0:LBBe) (q0:ByteArray) (v:K7):I6.den:=(((),(),(),(),(),(),(),v.1,v.2,u11),(h0,(q0,()),()))
theorem B1r (h0:LBBe) (q0:ByteArray):(∀ v:K7,(Z9 v.1 v.2 h0 q0).val=A6W (Z7 h0 q0) (P9 h0 q0) (L9 v.1 v.2 h0 q0))∧∀ a:K5,CEnd I6.den ((P9 h0 q0) a):=⟨fun v=>(A72 (A72 (A72 rfl rfl) rfl) rfl),fun a=>(A7P aCD (A7P aCD A7R))⟩
theorem B04:RdA G66 aLn 0 X1 I6 2 [] (kepts [4] [(0,[])]) (fun d=>(Q5 d).opt 2 []):=by
 intro d
 kernel_rfl
noncomputable abbrev Z0:St→Option Tree:=I6.say 2 [] [] (Z3 B1z)
theorem B1k:aPL Z0 X1:=SS.wp2 hlz [] Q5 B04 (fun d=>rfl) _ (fun d=>Runs.ofI2 (step:=Q5) (Z7 d.2.1 d.2.2.1.1) (B1r d.2.1 d.2.2.1.1) rfl (d.1.2.2.2.2.2.2.2.1,d.1.2.2.2.2.2.2.2.2.1))
noncomputable def K4 (h0:LBBe) (q0:ByteArray):Int:=let z1:=L7 (h0.length:Int) (0:Int) h0 q0;(cond (z1.1==0) (z1.2) (-1:Int))
noncomputable abbrev N8 (h0:LBBe) (q0:ByteArray) (r:Int):AV×List AObj×List Nat:=((ti r),[(.rows 82 true J6 h0),(.box [(.t true .str q0)])],[])
noncomputable abbrev A8f:N5.den→AV×List AObj×List Nat:=fun d=>N8 d.2.1 d.2.2.1.1 (K4 d.2.1 d.2.2.1.1)
noncomputable def J9 (h0:LBBe) (q0:ByteArray):Bool:=let z1:=L7 (h0.length:Int) (0:Int) h0 q0;cond (z1.1==0) true (z1.1==1)
noncomputable abbrev A0k:N5.den→Bool:=fun d=>J9 d.2.1 d.2.2.1.1
noncomputable abbrev B2a:Nat→St→Option Tree:=fun b=>match b with | 0=>Z0 | _=>fun _=>none
theorem B1C:A7W G66 (B2a) Tryz.f98 N5 A0k A8f:=by
 rintro ⟨⟨_,_,_⟩,⟨h0,⟨q0,_⟩,_⟩⟩ hp
 change J9 h0 q0=true at hp
 unfold J9 at hp
 refine Eq.trans (b:=(let z1:=L7 (h0.length:Int) (0:Int) h0 q0;cond (z1.1==0) (some (N8 h0 q0 (z1.2))) (cond (z1.1==1) (some (N8 h0 q0 (-1:Int))) none))) (by kernel_rfl) ?_
 exact (K9 (N8 h0 q0) hp (fun hp=>rfl) (fun hp=>(A70 hp fun _h=>rfl)))
noncomputable abbrev A8i:=winQ (msum N5 A0k A8f)
theorem B2j:aPM 98 A8i:=(mcM G66 (hl1 (i:=0) (by kernel_rfl) B1k) B1C).winQ (A7p fun d=>⟨rfl,rfl⟩)
noncomputable def S67:Tab:=Tab.add S66 98 (A2g (R9) (A8i))
noncomputable def E0O:FuncId→Bool:=qadd E0N 98
theorem G67:aPG S67 E0O:=G66.addMQ (MContract.orElse A8c B2j) (A7f (A7w _) (A7w _)) (cbl Tryz.f98) (QuietS.orElse (A5Z _) (A5Z _))

abbrev E1D:List Sh:=.junk::D8B
abbrev u36:=((),u35)
abbrev D9M:List AV:=.junk::D8v
abbrev U4:SS:=⟨[.all 0 2,.fn 96 [1]],[.rows 82 true J6,.box [.t true .str]]⟩
abbrev K2:SS:=⟨(.all 0 2::.fn 96 [1]::.junk::.junk::.junk::tI::tI::E1D),[.rows 82 true J6,.box [.t true .str]]⟩
abbrev A9q:SS:=⟨(.all 0 2::.junk::.junk::.junk::.junk::tI::D8C),[.rows 82 true J6,.box [.t true .str]]⟩
noncomputable def M5 (x6:Int) (h0:LBBe) (q0:ByteArray):=let z1:=h0.getD x6.toNat (bE,bE);B6j (z1.1) (z1.2) q0
noncomputable def A97 (x5 x6:Int) (h0:LBBe) (q0:ByteArray):RT K2.den:=let z1:=h0.getD x6.toNat (bE,bE);(.br (decide (x6<(h0.length:Int))) (.br (decide (0≤x6∧x6<(h0.length:Int))) (.br (!(M5 x6 h0 q0)) (.br (decide (0≤x5∧x5<(h0.length:Int))) (.next (((),(),(),(),(),wI (x5+(1:Int)),wI (x6+(1:Int)),u36),(h0.set x5.toNat (z1.1,z1.2),(q0,()),()))) .fail) (.next (((),(),(),(),(),x5,wI (x6+(1:Int)),u36),(h0,(q0,()),())))) .fail) (.done (.exit 0) A9q (((),(),(),(),(),x5,u37),(h0,(q0,()),()))))
abbrev O6:=(Int)×(Int)×(LBBe)
abbrev N2:=Nat×(Int)×(LBBe)
def A0f:N2:=(99,((0:Int):Int),([]:LBBe))
noncomputable def O4 (x5 x6:Int) (h0:LBBe) (q0:ByteArray):O6 ⊕ N2:=let z1:=h0.getD x6.toNat (bE,bE);(cond (decide (x6<(h0.length:Int))) (cond (decide (0≤x6∧x6<(h0.length:Int))) (cond (!(M5 x6 h0 q0)) (cond (decide (0≤x5∧x5<(h0.length:Int))) (.inl (wI (x5+(1:Int)),wI (x6+(1:Int)),h0.set x5.toNat (z1.1,z1.2))) (.inr A0f)) (.inl (x5,wI (x6+(1:Int)),h0))) (.inr A0f)) (.inr (0,x5,h0)))
noncomputable def A0g (x5 x6:Int) (h0:LBBe) (q0:ByteArray):N2:=itX (fun v:O6=>O4 v.1 v.2.1 v.2.2 q0) A0f (x5,x6,h0)
noncomputable def A0c (q0:ByteArray) (a:N2):CT:=(.br (a.1==0) (.done (.exit 0) A9q (((),(),(),(),(),a.2.1,u37),(a.2.2,(q0,()),()))) .fail)
noncomputable def B5V (x5 x6:Int) (h0:LBBe) (q0:ByteArray):CT:=(A0c q0) (A0g x5 x6 h0 q0)
noncomputable abbrev R7 {α:Sort _} (f:Int→Int→LBBe→ByteArray→α) (d:K2.den):α:=f d.1.2.2.2.2.2.1 d.1.2.2.2.2.2.2.1 d.2.1 d.2.2.1.1
noncomputable abbrev A0j:K2.den→RT K2.den:=(R7 A97)
noncomputable def A86:Code:=((D5 0 (A1o Tryz.f95)).getD 0 (0,.skip)).2
noncomputable abbrev A90 (q0:ByteArray) (v:O6):K2.den:=(((),(),(),(),(),v.1,v.2.1,u36),(v.2.2,(q0,()),()))
theorem B5F (q0:ByteArray):(∀ v:O6,(A97 v.1 v.2.1 v.2.2 q0).val=A6W (A90 q0) (A0c q0) (O4 v.1 v.2.1 v.2.2 q0))∧∀ a:N2,CEnd K2.den ((A0c q0) a):=⟨fun v=>(A72 (A72 (A72 (A72 rfl rfl) rfl) rfl) rfl),fun a=>(A7P aCD A7R)⟩
noncomputable def A9Z (x5 x6:Int) (h0:LBBe) (q0:ByteArray):Option (Ex×St):=let z1:=ti (wI (x6+(1:Int)));let z2:=h0.getD x6.toNat (bE,bE);(cond (decide (x6<(h0.length:Int))) (cond (decide (0≤x6∧x6<(h0.length:Int))) (cond (!(M5 x6 h0 q0)) (cond (decide (0≤x5∧x5<(h0.length:Int))) (some (.normal,(⟨((.all 0 2)::(.fn 96 [(.ptr 1 0 1 0)])::.junk::.junk::.junk::(ti (wI (x5+(1:Int))))::z1::D9M),[(.rows 82 true J6 (h0.set x5.toNat (z2.1,z2.2))),(.box [(.t true .str q0)])],2,[]⟩:St))) none) (some (.normal,(⟨((.all 0 2)::(.fn 96 [(.ptr 1 0 1 0)])::.junk::.junk::.junk::(ti x5)::z1::D9M),[(.rows 82 true J6 h0),(.box [(.t true .str q0)])],2,[]⟩:St)))) none) (some ((.exit 0),(⟨((.all 0 2)::.junk::.junk::.junk::.junk::(ti x5)::D7n),[(.rows 82 true J6 h0),(.box [(.t true .str q0)])],2,[]⟩:St))))
theorem B5e:RdA G67 aLn 0 A86 K2 2 [] (kepts [] [(0,[0,5])]) (R7 A9Z):=by
 intro d
 kernel_rfl
theorem B5f:∀ d:K2.den,(R7 A9Z) d=(A0j d).opt 2 []:=by
 intro d
 kernel_rfl
noncomputable abbrev A9u:St→Option Tree:=K2.say 2 [] [] (R7 B5V)
theorem B5z:aPL A9u A86:=SS.wp2 hlz [] A0j B5e B5f _ (fun d=>Runs.ofI2 (step:=A0j) (A90 d.2.2.1.1) (B5F d.2.2.1.1) rfl (d.1.2.2.2.2.2.1,d.1.2.2.2.2.2.2.1,d.2.1))
noncomputable def V0 (h0:LBBe) (q0:ByteArray):=let z1:=K4 h0 q0;A0g z1 (wI (z1+(1:Int))) h0 q0
noncomputable def T8 (h0:LBBe) (q0:ByteArray):LBBe×ByteArray:=let z1:=V0 h0 q0;let z2:=(((z1.2.2).length:Nat):Int).toNat - (z1.2.1).toNat;(cond ((K4 h0 q0)==(-1:Int)) (h0,q0) ((((z1.2.2).take ((z1.2.1).toNat)++List.replicate z2 (bE,bE))++(z1.2.2).drop (((z1.2.1).toNat)+z2)).take ((z1.2.1).toNat),q0))
noncomputable abbrev V8 (r:LBBe×ByteArray):AV×List AObj×List Nat:=((.all 0 2),[(.rows 82 true J6 r.1),(.box [(.t true .str r.2)])],[0])
noncomputable abbrev B1x:U4.den→AV×List AObj×List Nat:=fun d=>V8 (T8 d.2.1 d.2.2.1.1)
noncomputable def M8 (h0:LBBe) (q0:ByteArray):Bool:=let z1:=V0 h0 q0;let z2:=(((z1.2.2).length:Nat):Int).toNat - (z1.2.1).toNat;(J9 h0 q0)&&(cond ((K4 h0 q0)==(-1:Int)) true ((z1.1==0)&&((decide (0≤(z1.2.1)∧(z1.2.1)≤(((z1.2.2).length:Nat):Int)∧(((z1.2.2).length:Nat):Int)≤(((z1.2.2).length:Nat):Int)))&&(decide (0≤(0:Int)∧(0:Int)≤(z1.2.1)∧(z1.2.1)≤(((((z1.2.2).take ((z1.2.1).toNat)++List.replicate z2 (bE,bE))++(z1.2.2).drop (((z1.2.1).toNat)+z2)).length:Nat):Int))))))
noncomputable abbrev B0n:U4.den→Bool:=fun d=>M8 d.2.1 d.2.2.1.1
noncomputable abbrev B7A:Nat→St→Option Tree:=fun b=>match b with | 0=>A9u | _=>fun _=>none
theorem B6a:A7V false [] [0] [] G67 (B7A) Tryz.f95 U4 B0n B1x:=by
 rintro ⟨⟨_,_,_⟩,⟨h0,⟨q0,_⟩,_⟩⟩ hp
 change M8 h0 q0=true at hp
 unfold M8 at hp
 refine Eq.trans (b:=(let z1:=V0 h0 q0;let z2:=(((z1.2.2).length:Nat):Int).toNat - (z1.2.1).toNat;cond (J9 h0 q0) (cond ((K4 h0 q0)==(-1:Int)) (some (V8 (h0,q0))) (cond (z1.1==0) (cond (decide (0≤(z1.2.1)∧(z1.2.1)≤(((z1.2.2).length:Nat):Int)∧(((z1.2.2).length:Nat):Int)≤(((z1.2.2).length:Nat):Int))) (cond (decide (0≤(0:Int)∧(0:Int)≤(z1.2.1)∧(z1.2.1)≤(((((z1.2.2).take ((z1.2.1).toNat)++List.replicate z2 ((⟨#[]⟩:ByteArray),(⟨#[]⟩:ByteArray)))++(z1.2.2).drop (((z1.2.1).toNat)+z2)).length:Nat):Int))) (some (V8 ((((z1.2.2).take ((z1.2.1).toNat)++List.replicate z2 ((⟨#[]⟩:ByteArray),(⟨#[]⟩:ByteArray)))++(z1.2.2).drop (((z1.2.1).toNat)+z2)).take ((z1.2.1).toNat),q0))) none) none) none)) none)) (by kernel_rfl) ?_
 exact (A7Y hp fun hp=>(K9 V8 hp (fun hp=>rfl) (fun hp=>(A7Y hp fun hp=>(A7Y hp fun hp=>(A70 hp fun _h=>rfl))))))
noncomputable abbrev B1y:=win F0 (msum U4 B0n B1x)
theorem B7B:aPM 95 B1y:=(mcE false [] [0] []  G67 (hl1 (i:=0) (by kernel_rfl) B5z) B6a).win F0
noncomputable def S68:Tab:=Tab.add S67 95 (B1y)
noncomputable def E0P:FuncId→Bool:=E0O
theorem G68:aPG S68 E0P:=G67.addM B7B (A7y _) (cbl Tryz.f95) (by kernel_rfl)

abbrev B8L:List PSh:=[.t tq6,.t .str]
noncomputable def C9x (a0:LBBe) (a1:ByteArray):LBBe:=((T8 (L6 a0) a1).1)
noncomputable abbrev D1Z (r:LBBe):AV×List AObj:=((.all 0 2),[(.rows 82 true J6 r)])
noncomputable abbrev C7d:D9 B8L→AV×List AObj:=fun d=>D1Z (C9x d.1 d.2.1)
noncomputable def B2O (a0:LBBe) (a1:ByteArray):Bool:=(K1 a0)&&(M8 (L6 a0) a1)
noncomputable abbrev C2x:D9 B8L→Bool:=fun d=>B2O d.1 d.2.1
theorem D49:A7X false G68 aLn Tryz.f91 B8L C2x C7d:=by
 rintro ⟨a0,⟨a1,_⟩⟩ hp
 change B2O a0 a1=true at hp
 unfold B2O at hp
 refine Eq.trans (b:=(let z1:=L6 a0;cond (K1 a0) (cond (M8 z1 a1) (some (D1Z ((T8 z1 a1).1))) none) none)) (by kernel_rfl) ?_
 exact (A7Y hp fun hp=>(A70 hp fun _h=>rfl))
theorem D63:aPP 91 (A19 B8L C2x C7d):=pcD false G68 hlz D49
noncomputable def S69:Tab:=Tab.add S68 91 (lift (A19 B8L C2x C7d))
noncomputable def E0Q:FuncId→Bool:=E0P
theorem G69:aPG S69 E0Q:=G68.add D63 (cbl Tryz.f91) (by kernel_rfl)

abbrev D9H:List AV:=.junk::.junk::.junk::.junk::D8u
abbrev C1H:List PSh:=[.t tq6,.t tq4]
abbrev A9w:SS:=⟨(.junk::.junk::.junk::.junk::.junk::.all 0 2::.junk::.junk::.junk::.junk::.t false tq4::tI::tI::C8W),[.rows 82 true J6]⟩
abbrev C5i:SS:=⟨(.junk::.junk::.junk::.junk::.junk::.all 0 2::D9p),[.rows 82 true J6]⟩
noncomputable def C3u (x10:Lq2) (x12:Int) (h0:LBBe):=let z1:=(x10.getD x12.toNat ((0:Int),(bE,bE))).2;C9z (z1.1) (z1.2) h0
noncomputable def C3y (x10:Lq2) (x12:Int) (h0:LBBe):=C9x h0 (((x10.getD x12.toNat ((0:Int),(bE,bE))).2).1)
noncomputable def C8L (x10:Lq2) (x11 x12:Int) (h0:LBBe):RT A9w.den:=let z1:=x10.getD x12.toNat ((0:Int),(bE,bE));(.br (decide (x12<x11)) (.br (decide (0≤x12∧x12<(x10.length:Int))) (.br ((z1.1)==(1:Int)) (.br (B2Q ((z1.2).1) ((z1.2).2) h0) (.next (((),(),(),(),(),(),(),(),(),(),x10,x11,wI (x12+(1:Int)),u22),((C3u x10 x12 h0),()))) .fail) (.br ((z1.1)==(2:Int)) (.br (B2O h0 ((z1.2).1)) (.next (((),(),(),(),(),(),(),(),(),(),x10,x11,wI (x12+(1:Int)),u22),((C3y x10 x12 h0),()))) .fail) (.next (((),(),(),(),(),(),(),(),(),(),x10,x11,wI (x12+(1:Int)),u22),(h0,()))))) .fail) (.done (.exit 0) C5i ((u35),(h0,()))))
abbrev B39:=(Lq2)×(Int)×(Int)×(LBBe)
abbrev B32:=Nat×(LBBe)
def B43:B32:=(99,([]:LBBe))
noncomputable def B5l (x10:Lq2) (x11 x12:Int) (h0:LBBe):B39 ⊕ B32:=let z1:=x10.getD x12.toNat ((0:Int),(bE,bE));(cond (decide (x12<x11)) (cond (decide (0≤x12∧x12<(x10.length:Int))) (cond ((z1.1)==(1:Int)) (cond (B2Q ((z1.2).1) ((z1.2).2) h0) (.inl (x10,x11,wI (x12+(1:Int)),(C3u x10 x12 h0))) (.inr B43)) (cond ((z1.1)==(2:Int)) (cond (B2O h0 ((z1.2).1)) (.inl (x10,x11,wI (x12+(1:Int)),(C3y x10 x12 h0))) (.inr B43)) (.inl (x10,x11,wI (x12+(1:Int)),h0)))) (.inr B43)) (.inr (0,h0)))
noncomputable def B46 (x10:Lq2) (x11 x12:Int) (h0:LBBe):B32:=itX (fun v:B39=>B5l v.1 v.2.1 v.2.2.1 v.2.2.2) B43 (x10,x11,x12,h0)
noncomputable def C2c (a:B32):CT:=(.br (a.1==0) (.done (.exit 0) C5i ((u35),(a.2,()))) .fail)
noncomputable def D5J (x10:Lq2) (x11 x12:Int) (h0:LBBe):CT:=C2c (B46 x10 x11 x12 h0)
noncomputable abbrev B7M {α:Sort _} (f:Lq2→Int→Int→LBBe→α) (d:A9w.den):α:=f d.1.2.2.2.2.2.2.2.2.2.2.1 d.1.2.2.2.2.2.2.2.2.2.2.2.1 d.1.2.2.2.2.2.2.2.2.2.2.2.2.1 d.2.1
noncomputable abbrev C24:A9w.den→RT A9w.den:=(B7M C8L)
noncomputable def C3Y:Code:=((D5 0 (A1o Tryz.f84)).getD 0 (0,.skip)).2
noncomputable abbrev C8B (v:B39):A9w.den:=(((),(),(),(),(),(),(),(),(),(),v.1,v.2.1,v.2.2.1,u22),(v.2.2.2,()))
theorem D43:(∀ v:B39,(C8L v.1 v.2.1 v.2.2.1 v.2.2.2).val=A6W C8B C2c (B5l v.1 v.2.1 v.2.2.1 v.2.2.2))∧∀ a:B32,CEnd A9w.den (C2c a):=⟨fun v=>by repeat' first | apply A72 | rfl,fun a=>(A7P aCD A7R)⟩
noncomputable def C8n (x10:Lq2) (x11 x12:Int) (h0:LBBe):Option (Ex×St):=let z1:=x10.getD x12.toNat ((0:Int),(bE,bE));let z2:=ti (wI (x12+(1:Int)));(cond (decide (x12<x11)) (cond (decide (0≤x12∧x12<(x10.length:Int))) (cond ((z1.1)==(1:Int)) (cond (B2Q ((z1.2).1) ((z1.2).2) h0) (some (.normal,(⟨(.junk::.junk::.junk::.junk::.junk::(.all 0 2)::.junk::.junk::.junk::.junk::(.t false tq4 x10)::(ti x11)::z2::D9H),[(.rows 82 true J6 (C3u x10 x12 h0))],0,[]⟩:St))) none) (cond ((z1.1)==(2:Int)) (cond (B2O h0 ((z1.2).1)) (some (.normal,(⟨(.junk::.junk::.junk::.junk::.junk::(.all 0 2)::.junk::.junk::.junk::.junk::(.t false tq4 x10)::(ti x11)::z2::D9H),[(.rows 82 true J6 (C3y x10 x12 h0))],0,[]⟩:St))) none) (some (.normal,(⟨(.junk::.junk::.junk::.junk::.junk::(.all 0 2)::.junk::.junk::.junk::.junk::(.t false tq4 x10)::(ti x11)::z2::D9H),[(.rows 82 true J6 h0)],0,[]⟩:St))))) none) (some ((.exit 0),(⟨(.junk::.junk::.junk::.junk::.junk::(.all 0 2)::D9j),[(.rows 82 true J6 h0)],0,[]⟩:St))))
theorem D3f:RdA G69 aLn 0 C3Y A9w 0 [] (kepts [] [(0,[5])]) (B7M C8n):=by
 intro d
 kernel_rfl
theorem D3r:∀ d:A9w.den,(B7M C8n) d=(C24 d).opt 0 []:=by
 intro d
 kernel_rfl
noncomputable abbrev C6H:St→Option Tree:=A9w.say 0 [] [] (B7M D5J)
theorem D4K:aPL C6H C3Y:=SS.wp2 hlz [] C24 D3f D3r _ (fun d=>Runs.ofI2 (step:=C24) C8B D43 rfl (d.1.2.2.2.2.2.2.2.2.2.2.1,d.1.2.2.2.2.2.2.2.2.2.2.2.1,d.1.2.2.2.2.2.2.2.2.2.2.2.2.1,d.2.1))
noncomputable def C0j (a0:LBBe) (a1:Lq2):LBBe:=((B46 a1 (a1.length:Int) (0:Int) (L6 a0)).2)
noncomputable abbrev D4t (r:LBBe):AV×List AObj:=((.all 0 2),[(.rows 82 true J6 r)])
noncomputable abbrev C90:D9 C1H→AV×List AObj:=fun d=>D4t (C0j d.1 d.2.1)
noncomputable def B3I (a0:LBBe) (a1:Lq2):Bool:=(K1 a0)&&((B46 a1 (a1.length:Int) (0:Int) (L6 a0)).1==0)
noncomputable abbrev C4T:D9 C1H→Bool:=fun d=>B3I d.1 d.2.1
noncomputable abbrev D7P:Nat→St→Option Tree:=fun b=>match b with | 0=>C6H | _=>fun _=>none
theorem D6n:A7X false G69 (D7P) Tryz.f84 C1H C4T C90:=by
 rintro ⟨a0,⟨a1,_⟩⟩ hp
 change B3I a0 a1=true at hp
 unfold B3I at hp
 refine Eq.trans (b:=(let z1:=B46 a1 (a1.length:Int) (0:Int) (L6 a0);cond (K1 a0) (cond (z1.1==0) (some (D4t (z1.2))) none) none)) (by kernel_rfl) ?_
 exact (A7Y hp fun hp=>(A70 hp fun _h=>rfl))
theorem D73:aPP 84 (A19 C1H C4T C90):=pcD false G69 (hl1 (i:=0) (by kernel_rfl) D4K) D6n
noncomputable def S70:Tab:=Tab.add S69 84 (lift (A19 C1H C4T C90))
noncomputable def E0R:FuncId→Bool:=E0Q
theorem G70:aPG S70 E0R:=G69.add D73 (cbl Tryz.f84) (by kernel_rfl)

abbrev B3d:SS:=⟨[.ptr 0 0 1 0,.agg [.t true (.int .i64),.t true (.int .i64),.t false tq4],.t false tq3],[.box [.nil,.nil]]⟩
noncomputable def D4D (x1_0 x1_1:Int) (x1_2:Lq2) (x2:Lq1):Bool×Lq1:=let z1:=decide ((Q8 x2 x1_1) ≥ (0:Int));(cond (x1_0==(1:Int)) (cond z1 (false,([]:Lq1)) (cond (W8 [] x1_2) (false,([]:Lq1)) (cond (!(B4o [] x1_2)) (false,([]:Lq1)) (true,[((1:Int),(x1_1,(J5 x1_2)))])))) (cond (x1_0==(3:Int)) (!z1,([]:Lq1)) (false,([]:Lq1))))
noncomputable abbrev X6 (r:Bool×Lq1):AV×List AObj×List Nat:=((.t true .bool r.1),[(.box [(.raw (.slice none 0 0)),(.all 1 3)]),(.rows 80 true tq5 r.2)],[])
noncomputable abbrev C4d:B3d.den→AV×List AObj×List Nat:=fun d=>X6 (D4D d.1.2.1.1 d.1.2.1.2.1 d.1.2.1.2.2.1 d.1.2.2.1)
noncomputable def B8u (x1_0 x1_1:Int) (x1_2:Lq2) (x2:Lq1):Bool:=(R3 x2 x1_1)&&(cond (x1_0==(1:Int)) (cond (decide ((Q8 x2 x1_1) ≥ (0:Int))) true ((Q4 [] x1_2)&&(cond (W8 [] x1_2) true ((A9g [] x1_2)&&(cond (!(B4o [] x1_2)) true ((J0 x1_2)&&(decide ([((1:Int),(x1_1,(J5 x1_2)))].length*40≤MAXB)))))))) ((R3 [] x1_1)&&(decide ((Q8 [] x1_1)<(0:Int)))))
noncomputable abbrev C1i:B3d.den→Bool:=fun d=>B8u d.1.2.1.1 d.1.2.1.2.1 d.1.2.1.2.2.1 d.1.2.2.1
theorem C9o:A7V false [] [] [(0,1,99999,80,tq5)] G70 aLn Tryz.f74 B3d C1i C4d:=by
 rintro ⟨⟨_,⟨x1_0,x1_1,x1_2,_⟩,x2,_⟩,⟨⟨_,_,_⟩,_⟩⟩ hp
 change B8u x1_0 x1_1 x1_2 x2=true at hp
 unfold B8u at hp
 refine Eq.trans (b:=(let z1:=X6 (false,([]:Lq1));let z2:=decide ((Q8 x2 x1_1) ≥ (0:Int));let z3:=J5 x1_2;cond (R3 x2 x1_1) (cond (x1_0==(1:Int)) (cond z2 (some z1) (cond (Q4 [] x1_2) (cond (W8 [] x1_2) (some z1) (cond (A9g [] x1_2) (cond (!(B4o [] x1_2)) (some z1) (cond (J0 x1_2) (cond (decide ([((1:Int),(x1_1,z3))].length*40≤MAXB)) (some (X6 (true,[((1:Int),(x1_1,z3))]))) none) none)) none)) none)) (cond (R3 [] x1_1) (cond (decide ((Q8 [] x1_1)<(0:Int))) (cond (x1_0==(3:Int)) (some (X6 (!z2,([]:Lq1)))) (some z1)) (cond (x1_0==(2:Int)) none none)) none)) none)) (by kernel_rfl) ?_
 exact (A7Y hp fun hp=>(K9 X6 hp (fun hp=>(K9 X6 hp (fun hp=>rfl) (fun hp=>(A7Y hp fun hp=>(K9 X6 hp (fun hp=>rfl) (fun hp=>(A7Y hp fun hp=>(K9 X6 hp (fun hp=>rfl) (fun hp=>(A7Y hp fun hp=>(A70 hp fun _h=>rfl))))))))))) (fun hp=>(A7Y hp fun hp=>(A70 hp fun _h=>(Q7 X6 (fun _h=>rfl) (fun _h=>rfl)))))))
noncomputable abbrev B4N:=win F0 (msum B3d C1i C4d)
theorem B8h:aPM 74 B4N:=(mcE false [] [] [(0,1,99999,80,tq5)]  G70 hlz C9o).win F0
noncomputable def S71:Tab:=Tab.add S70 74 (B4N)
noncomputable def E0S:FuncId→Bool:=E0R
theorem G71:aPG S71 E0S:=G70.addM B8h (A7y _) (cbl Tryz.f74) (by kernel_rfl)

abbrev A8n:SS:=⟨[.all 0 3,tI,tI],[.rows 80 true tq5]⟩
noncomputable def T1 (x1 x2:Int) (h0:Lq1):Lq1:=let z1:=(h0.drop x2.toNat).take ((h0.length:Int).toNat - x2.toNat);let z2:=(h0.length:Int).toNat - ((x1.toNat+z1.length:Nat):Int).toNat;let z3:=(h0.take x1.toNat++z1)++h0.drop (x1.toNat+z1.length);(cond (x1==x2) h0 (((z3.take (((x1.toNat+z1.length:Nat):Int).toNat)++List.replicate z2 ((0:Int),((0:Int),[])))++z3.drop ((((x1.toNat+z1.length:Nat):Int).toNat)+z2)).take (x1.toNat+z1.length)))
noncomputable abbrev A8D (r:Lq1):AV×List AObj×List Nat:=((.all 0 3),[(.rows 80 true tq5 r)],[0])
noncomputable abbrev B45:A8n.den→AV×List AObj×List Nat:=fun d=>A8D (T1 d.1.2.1 d.1.2.2.1 d.2.1)
noncomputable def N0 (x1 x2:Int) (h0:Lq1):Bool:=let z1:=(h0.drop x2.toNat).take ((h0.length:Int).toNat - x2.toNat);(decide (0≤x1∧x1≤x2∧x2≤(h0.length:Int)∧(h0.length:Int)≤(h0.length:Int)))&&(cond (x1==x2) true ((decide (0≤(0:Int)∧(0:Int)≤x1∧x1≤(h0.length:Int)))&&((decide (0≤x2∧x2≤(h0.length:Int)∧(h0.length:Int)≤(h0.length:Int)))&&((decide (x1.toNat+z1.length≤h0.length))&&(decide (0≤((x1.toNat+z1.length:Nat):Int)∧((x1.toNat+z1.length:Nat):Int)≤(h0.length:Int)∧(h0.length:Int)≤((((h0.take x1.toNat++z1)++h0.drop (x1.toNat+z1.length)).length:Nat):Int)))))))
noncomputable abbrev B3H:A8n.den→Bool:=fun d=>N0 d.1.2.1 d.1.2.2.1 d.2.1
theorem C0F:A7V false [] [0] [] G71 aLn Tryz.f85 A8n B3H B45:=by
 rintro ⟨⟨_,x1,x2,_⟩,⟨h0,_⟩⟩ hp
 change N0 x1 x2 h0=true at hp
 unfold N0 at hp
 refine Eq.trans (b:=(let z1:=(h0.drop x2.toNat).take ((h0.length:Int).toNat - x2.toNat);let z2:=(h0.take x1.toNat++z1)++h0.drop (x1.toNat+z1.length);let z3:=(h0.length:Int).toNat - ((x1.toNat+z1.length:Nat):Int).toNat;cond (decide (0≤x1∧x1≤x2∧x2≤(h0.length:Int)∧(h0.length:Int)≤(h0.length:Int))) (cond (x1==x2) (some (A8D h0)) (cond (decide (0≤(0:Int)∧(0:Int)≤x1∧x1≤(h0.length:Int))) (cond (decide (0≤x2∧x2≤(h0.length:Int)∧(h0.length:Int)≤(h0.length:Int))) (cond (decide (x1.toNat+z1.length≤h0.length)) (cond (decide (0≤((x1.toNat+z1.length:Nat):Int)∧((x1.toNat+z1.length:Nat):Int)≤(h0.length:Int)∧(h0.length:Int)≤((z2.length:Nat):Int))) (some (A8D (((z2.take (((x1.toNat+z1.length:Nat):Int).toNat)++List.replicate z3 ((0:Int),((0:Int),[])))++z2.drop ((((x1.toNat+z1.length:Nat):Int).toNat)+z3)).take (x1.toNat+z1.length)))) none) none) none) none)) none)) (by kernel_rfl) ?_
 exact (A7Y hp fun hp=>(K9 A8D hp (fun hp=>rfl) (fun hp=>(A7Y hp fun hp=>(A7Y hp fun hp=>(A7Y hp fun hp=>(A70 hp fun _h=>rfl)))))))
noncomputable abbrev B5b:=win F0 (msum A8n B3H B45)
theorem C2a:aPM 85 B5b:=(mcE false [] [0] []  G71 hlz C0F).win F0
noncomputable def S72:Tab:=Tab.add S71 85 (B5b)
noncomputable def E0T:FuncId→Bool:=E0S
theorem G72:aPG S72 E0T:=G71.addM C2a (A7y _) (cbl Tryz.f85) (by kernel_rfl)

abbrev B0j:SS:=⟨[.ptr 0 0 1 0,.agg [.t true (.int .i64),.t true (.int .i64),.t false tq4],.t false tq3],[.box [.nil,.all 1 3],.rows 80 true tq5]⟩
noncomputable def D0m (x1_0 x1_1:Int) (x1_2:Lq2) (x2 h1:Lq1):Bool×Lq1×LBBe:=let z3:=Q8 h1 x1_1;let z1:=T1 z3 (wI (z3+(1:Int))) h1;let z2:=C0j [] (((h1.getD (z3.toNat) ((0:Int),((0:Int),[]))).2).2);let z4:=decide ((Q8 x2 x1_1) ≥ (0:Int));(cond (x1_0==(1:Int)) (cond z4 (false,h1,([]:LBBe)) (cond (W8 h1 x1_2) (false,h1,([]:LBBe)) (cond (!(B4o [] x1_2)) (false,h1,([]:LBBe)) (true,h1++[((1:Int),(x1_1,(J5 x1_2)))],([]:LBBe))))) (cond (decide (z3<(0:Int))) (cond (x1_0==(3:Int)) (!z4,h1,([]:LBBe)) (false,h1,([]:LBBe))) (cond (x1_0==(2:Int)) (decide (((z2.length:Nat):Int)≤(60:Int)),z1,z2) (decide (((0:Nat):Int)≤(60:Int)),z1,([]:LBBe)))))
noncomputable abbrev M2 (r:Bool×Lq1×LBBe):AV×List AObj×List Nat:=((.t true .bool r.1),[(.box [(.all 2 2),(.all 1 3)]),(.rows 80 true tq5 r.2.1),(.rows 82 true J6 r.2.2)],[1])
noncomputable abbrev B9a:B0j.den→AV×List AObj×List Nat:=fun d=>M2 (D0m d.1.2.1.1 d.1.2.1.2.1 d.1.2.1.2.2.1 d.1.2.2.1 d.2.2.1)
noncomputable def B4s (x1_0 x1_1:Int) (x1_2:Lq2) (x2 h1:Lq1):Bool:=let z1:=Q8 h1 x1_1;let z2:=N0 z1 (wI (z1+(1:Int))) h1;(R3 x2 x1_1)&&(cond (x1_0==(1:Int)) (cond (decide ((Q8 x2 x1_1) ≥ (0:Int))) true ((Q4 h1 x1_2)&&(cond (W8 h1 x1_2) true ((A9g [] x1_2)&&(cond (!(B4o [] x1_2)) true ((J0 x1_2)&&(decide ((h1.length+[((1:Int),(x1_1,(J5 x1_2)))].length)*40≤MAXB)))))))) ((R3 h1 x1_1)&&(cond (decide (z1<(0:Int))) true (cond (x1_0==(2:Int)) ((decide (0≤z1∧z1<(h1.length:Int)))&&((B3I [] (((h1.getD (z1.toNat) ((0:Int),((0:Int),[]))).2).2))&&z2)) z2))))
noncomputable abbrev B7d:B0j.den→Bool:=fun d=>B4s d.1.2.1.1 d.1.2.1.2.1 d.1.2.1.2.2.1 d.1.2.2.1 d.2.2.1
theorem C5d:A7V false [] [1] [(0,0,99999,82,J6)] G72 aLn Tryz.f74 B0j B7d B9a:=by
 rintro ⟨⟨_,⟨x1_0,x1_1,x1_2,_⟩,x2,_⟩,⟨⟨_,_,_⟩,h1,_⟩⟩ hp
 change B4s x1_0 x1_1 x1_2 x2 h1=true at hp
 unfold B4s at hp
 refine Eq.trans (b:=(let z1:=Q8 h1 x1_1;let z2:=M2 (false,h1,([]:LBBe));let z3:=((h1.getD (z1.toNat) ((0:Int),((0:Int),[]))).2).2;let z4:=wI (z1+(1:Int));let z5:=decide ((Q8 x2 x1_1) ≥ (0:Int));let z6:=N0 z1 z4 h1;let z7:=T1 z1 z4 h1;let z8:=J5 x1_2;cond (R3 x2 x1_1) (cond (x1_0==(1:Int)) (cond z5 (some z2) (cond (Q4 h1 x1_2) (cond (W8 h1 x1_2) (some z2) (cond (A9g [] x1_2) (cond (!(B4o [] x1_2)) (some z2) (cond (J0 x1_2) (cond (decide ((h1.length+[((1:Int),(x1_1,z8))].length)*40≤MAXB)) (some (M2 (true,h1++[((1:Int),(x1_1,z8))],([]:LBBe)))) none) none)) none)) none)) (cond (R3 h1 x1_1) (cond (decide (z1<(0:Int))) (cond (x1_0==(3:Int)) (some (M2 (!z5,h1,([]:LBBe)))) (some z2)) (cond (x1_0==(2:Int)) (cond (decide (0≤z1∧z1<(h1.length:Int))) (cond (B3I [] z3) (cond z6 (some (M2 (decide ((((C0j [] z3).length:Nat):Int)≤(60:Int)),z7,(C0j [] z3)))) none) none) none) (cond z6 (some (M2 (decide (((0:Nat):Int)≤(60:Int)),z7,([]:LBBe)))) none))) none)) none)) (by kernel_rfl) ?_
 exact (A7Y hp fun hp=>(K9 M2 hp (fun hp=>(K9 M2 hp (fun hp=>rfl) (fun hp=>(A7Y hp fun hp=>(K9 M2 hp (fun hp=>rfl) (fun hp=>(A7Y hp fun hp=>(K9 M2 hp (fun hp=>rfl) (fun hp=>(A7Y hp fun hp=>(A70 hp fun _h=>rfl))))))))))) (fun hp=>(A7Y hp fun hp=>(K9 M2 hp (fun hp=>(Q7 M2 (fun _h=>rfl) (fun _h=>rfl))) (fun hp=>(K9 M2 hp (fun hp=>(A7Y hp fun hp=>(A7Y hp fun hp=>(A70 hp fun _h=>rfl)))) (fun hp=>(A70 hp fun _h=>rfl)))))))))
noncomputable abbrev B4q:=win F0 (msum B0j B7d B9a)
theorem B85:aPM 74 B4q:=(mcE false [] [1] [(0,0,99999,82,J6)]  G72 hlz C5d).win F0
noncomputable def S73:Tab:=Tab.add S72 74 (A2g (B4N) (B4q))
noncomputable def E0U:FuncId→Bool:=E0T
theorem G73:aPG S73 E0U:=G72.addM (MContract.orElse B8h B85) (A7f (A7y _) (A7y _)) (cbl Tryz.f74) (by kernel_rfl)

abbrev B0k:SS:=⟨[.ptr 0 0 1 0,.agg [.t true (.int .i64),.t true (.int .i64),.t false tq4],.t false tq3],[.box [.all 1 2,.all 2 3],.rows 82 true J6,.rows 80 true tq5]⟩
noncomputable def B0Q (x1_0 x1_1:Int) (x1_2:Lq2) (x2:Lq1) (h1:LBBe) (h2:Lq1):Bool×LBBe×Lq1:=let z3:=Q8 h2 x1_1;let z1:=T1 z3 (wI (z3+(1:Int))) h2;let z2:=C0j h1 (((h2.getD (z3.toNat) ((0:Int),((0:Int),[]))).2).2);let z4:=decide ((Q8 x2 x1_1) ≥ (0:Int));(cond (x1_0==(1:Int)) (cond z4 (false,h1,h2) (cond (W8 h2 x1_2) (false,h1,h2) (cond (!(B4o h1 x1_2)) (false,h1,h2) (true,h1,h2++[((1:Int),(x1_1,(J5 x1_2)))])))) (cond (decide (z3<(0:Int))) (cond (x1_0==(3:Int)) (!z4,h1,h2) (false,h1,h2)) (cond (x1_0==(2:Int)) (decide (((z2.length:Nat):Int)≤(60:Int)),z2,z1) (decide ((h1.length:Int)≤(60:Int)),h1,z1))))
noncomputable abbrev M3 (r:Bool×LBBe×Lq1):AV×List AObj×List Nat:=((.t true .bool r.1),[(.box [(.all 1 2),(.all 2 3)]),(.rows 82 true J6 r.2.1),(.rows 80 true tq5 r.2.2)],[1,2])
noncomputable abbrev B9b:B0k.den→AV×List AObj×List Nat:=fun d=>M3 (B0Q d.1.2.1.1 d.1.2.1.2.1 d.1.2.1.2.2.1 d.1.2.2.1 d.2.2.1 d.2.2.2.1)
noncomputable def T7 (x1_0 x1_1:Int) (x1_2:Lq2) (x2:Lq1) (h1:LBBe) (h2:Lq1):Bool:=let z1:=Q8 h2 x1_1;let z2:=N0 z1 (wI (z1+(1:Int))) h2;(R3 x2 x1_1)&&(cond (x1_0==(1:Int)) (cond (decide ((Q8 x2 x1_1) ≥ (0:Int))) true ((Q4 h2 x1_2)&&(cond (W8 h2 x1_2) true ((A9g h1 x1_2)&&(cond (!(B4o h1 x1_2)) true ((J0 x1_2)&&(decide ((h2.length+[((1:Int),(x1_1,(J5 x1_2)))].length)*40≤MAXB)))))))) ((R3 h2 x1_1)&&(cond (decide (z1<(0:Int))) true (cond (x1_0==(2:Int)) ((decide (0≤z1∧z1<(h2.length:Int)))&&((B3I h1 (((h2.getD (z1.toNat) ((0:Int),((0:Int),[]))).2).2))&&z2)) z2))))
noncomputable abbrev B7e:B0k.den→Bool:=fun d=>T7 d.1.2.1.1 d.1.2.1.2.1 d.1.2.1.2.2.1 d.1.2.2.1 d.2.2.1 d.2.2.2.1
theorem C5e:A7V false [] [1,2] [(0,0,1,82,J6)] G73 aLn Tryz.f74 B0k B7e B9b:=by
 rintro ⟨⟨_,⟨x1_0,x1_1,x1_2,_⟩,x2,_⟩,⟨⟨_,_,_⟩,h1,h2,_⟩⟩ hp
 change T7 x1_0 x1_1 x1_2 x2 h1 h2=true at hp
 unfold T7 at hp
 refine Eq.trans (b:=(let z1:=Q8 h2 x1_1;let z2:=((h2.getD (z1.toNat) ((0:Int),((0:Int),[]))).2).2;let z3:=M3 (false,h1,h2);let z4:=wI (z1+(1:Int));let z5:=decide ((Q8 x2 x1_1) ≥ (0:Int));let z6:=N0 z1 z4 h2;let z7:=T1 z1 z4 h2;let z8:=J5 x1_2;cond (R3 x2 x1_1) (cond (x1_0==(1:Int)) (cond z5 (some z3) (cond (Q4 h2 x1_2) (cond (W8 h2 x1_2) (some z3) (cond (A9g h1 x1_2) (cond (!(B4o h1 x1_2)) (some z3) (cond (J0 x1_2) (cond (decide ((h2.length+[((1:Int),(x1_1,z8))].length)*40≤MAXB)) (some (M3 (true,h1,h2++[((1:Int),(x1_1,z8))]))) none) none)) none)) none)) (cond (R3 h2 x1_1) (cond (decide (z1<(0:Int))) (cond (x1_0==(3:Int)) (some (M3 (!z5,h1,h2))) (some z3)) (cond (x1_0==(2:Int)) (cond (decide (0≤z1∧z1<(h2.length:Int))) (cond (B3I h1 z2) (cond z6 (some (M3 (decide ((((C0j h1 z2).length:Nat):Int)≤(60:Int)),(C0j h1 z2),z7))) none) none) none) (cond z6 (some (M3 (decide ((h1.length:Int)≤(60:Int)),h1,z7))) none))) none)) none)) (by kernel_rfl) ?_
 exact (A7Y hp fun hp=>(K9 M3 hp (fun hp=>(K9 M3 hp (fun hp=>rfl) (fun hp=>(A7Y hp fun hp=>(K9 M3 hp (fun hp=>rfl) (fun hp=>(A7Y hp fun hp=>(K9 M3 hp (fun hp=>rfl) (fun hp=>(A7Y hp fun hp=>(A70 hp fun _h=>rfl))))))))))) (fun hp=>(A7Y hp fun hp=>(K9 M3 hp (fun hp=>(Q7 M3 (fun _h=>rfl) (fun _h=>rfl))) (fun hp=>(K9 M3 hp (fun hp=>(A7Y hp fun hp=>(A7Y hp fun hp=>(A70 hp fun _h=>rfl)))) (fun hp=>(A70 hp fun _h=>rfl)))))))))
noncomputable abbrev B9i:=win F0 (msum B0k B7e B9b)
theorem C7a:aPM 74 B9i:=(mcE false [] [1,2] [(0,0,1,82,J6)]  G73 hlz C5e).win F0
noncomputable def S74:Tab:=Tab.add S73 74 (A2g (A2g (B4N) (B4q)) (B9i))
noncomputable def E0V:FuncId→Bool:=E0U
theorem G74:aPG S74 E0V:=G73.addM (MContract.orElse (MContract.orElse B8h B85) C7a) (A7f (A7f (A7y _) (A7y _)) (A7y _)) (cbl Tryz.f74) (by kernel_rfl)

abbrev E1R:List AV:=.junk::.junk::.junk::D8u
abbrev B1M:List PSh:=[.t tq3]
abbrev R4:SS:=⟨(.t false tq3::.junk::.junk::.junk::.junk::.ptr 0 0 1 0::.junk::.junk::.t false tq3::tI::tI::D9o),[.box [.all 1 2,.all 2 3],.rows 82 true J6,.rows 80 true tq5]⟩
abbrev B2Y:SS:=⟨(.junk::.junk::.nil::.nil::.t true .bool::D4H),[]⟩
abbrev B7C:SS:=⟨(.junk::.junk::.junk::.junk::.junk::.ptr 0 0 1 0::D0n),[.box [.all 1 2,.all 2 3],.rows 82 true J6,.rows 80 true tq5]⟩
noncomputable def B3y (x8:Lq1) (x10:Int):=let z1:=x8.getD x10.toNat ((0:Int),((0:Int),[]));D2Y (z1.1) ((z1.2).1) ((z1.2).2)
noncomputable def B3C (x0 x8:Lq1) (x10:Int) (h1:LBBe) (h2:Lq1):=let z1:=x8.getD x10.toNat ((0:Int),((0:Int),[]));B0Q (z1.1) ((z1.2).1) ((z1.2).2) ((x0.take x10.toNat).drop (0:Int).toNat) h1 h2
noncomputable def B9F (x0 x8:Lq1) (x9 x10:Int) (h1:LBBe) (h2:Lq1):RT R4.den:=let z1:=x8.getD x10.toNat ((0:Int),((0:Int),[]));let z2:=B3C x0 x8 x10 h1 h2;(.br (decide (x10<x9)) (.br (decide (0≤x10∧x10<(x8.length:Int))) (.br (B7m (z1.1) ((z1.2).1) ((z1.2).2)) (.br (!(B3y x8 x10)) (.done .ret B2Y (((),(),(),(),false,u27),())) (.br (decide (0≤(0:Int)∧(0:Int)≤x10∧x10≤(x0.length:Int))) (.br (T7 (z1.1) ((z1.2).1) ((z1.2).2) ((x0.take x10.toNat).drop (0:Int).toNat) h1 h2) (.br (!(z2.1)) (.done .ret B2Y (((),(),(),(),false,u27),())) (.next ((x0,(),(),(),(),(),(),(),x8,x9,wI (x10+(1:Int)),u21),(((),(),()),(z2.2.1),(z2.2.2),())))) .fail) .fail)) .fail) .fail) (.done (.exit 0) B7C ((u32),(((),(),()),h1,h2,()))))
abbrev A9O:=(Lq1)×Lq1×(Int)×(Int)×LBBe×(Lq1)
abbrev A8q:=Nat×(Bool)×LBBe×(Lq1)
def A78:A8q:=(99,(false:Bool),([]:LBBe),([]:Lq1))
noncomputable def A9k (x0 x8:Lq1) (x9 x10:Int) (h1:LBBe) (h2:Lq1):A9O ⊕ A8q:=let z1:=x8.getD x10.toNat ((0:Int),((0:Int),[]));let z2:=B3C x0 x8 x10 h1 h2;(cond (decide (x10<x9)) (cond (decide (0≤x10∧x10<(x8.length:Int))) (cond (B7m (z1.1) ((z1.2).1) ((z1.2).2)) (cond (!(B3y x8 x10)) (.inr (0,false,([]:LBBe),([]:Lq1))) (cond (decide (0≤(0:Int)∧(0:Int)≤x10∧x10≤(x0.length:Int))) (cond (T7 (z1.1) ((z1.2).1) ((z1.2).2) ((x0.take x10.toNat).drop (0:Int).toNat) h1 h2) (cond (!(z2.1)) (.inr (0,false,([]:LBBe),([]:Lq1))) (.inl (x0,x8,x9,wI (x10+(1:Int)),(z2.2.1),(z2.2.2)))) (.inr A78)) (.inr A78))) (.inr A78)) (.inr A78)) (.inr (1,(false:Bool),h1,h2)))
noncomputable def B9c (x0 x8:Lq1) (x9 x10:Int) (h1:LBBe) (h2:Lq1):A8q:=itX (fun v:A9O=>A9k v.1 v.2.1 v.2.2.1 v.2.2.2.1 v.2.2.2.2.1 v.2.2.2.2.2) A78 (x0,x8,x9,x10,h1,h2)
noncomputable def B4f (a:A8q):CT:=(.br (a.1==0) (.done .ret B2Y (((),(),(),(),a.2.1,u27),())) (.br (a.1==1) (.done (.exit 0) B7C ((u32),(((),(),()),a.2.2.1,a.2.2.2,()))) .fail))
noncomputable def C8R (x0 x8:Lq1) (x9 x10:Int) (h1:LBBe) (h2:Lq1):CT:=B4f (B9c x0 x8 x9 x10 h1 h2)
noncomputable abbrev B1b {α:Sort _} (f:Lq1→Lq1→Int→Int→LBBe→Lq1→α) (d:R4.den):α:=f d.1.1 d.1.2.2.2.2.2.2.2.2.1 d.1.2.2.2.2.2.2.2.2.2.1 d.1.2.2.2.2.2.2.2.2.2.2.1 d.2.2.1 d.2.2.2.1
noncomputable abbrev B4z:R4.den→RT R4.den:=(B1b B9F)
noncomputable def B6N:Code:=((D5 0 (A1o Tryz.f55)).getD 0 (0,.skip)).2
noncomputable abbrev B9o (v:A9O):R4.den:=((v.1,(),(),(),(),(),(),(),v.2.1,v.2.2.1,v.2.2.2.1,u21),(((),(),()),v.2.2.2.2.1,v.2.2.2.2.2,()))
theorem C7Y:(∀ v:A9O,(B9F v.1 v.2.1 v.2.2.1 v.2.2.2.1 v.2.2.2.2.1 v.2.2.2.2.2).val=A6W B9o B4f (A9k v.1 v.2.1 v.2.2.1 v.2.2.2.1 v.2.2.2.2.1 v.2.2.2.2.2))∧∀ a:A8q,CEnd R4.den (B4f a):=⟨fun v=>by repeat' first | apply A72 | rfl,fun a=>(A7P aCD (A7P aCD A7R))⟩
noncomputable def B9k (x0 x8:Lq1) (x9 x10:Int) (h1:LBBe) (h2:Lq1):Option (Ex×St):=let z1:=x8.getD x10.toNat ((0:Int),((0:Int),[]));let z2:=(⟨(.junk::.junk::(.raw (.slice none 0 0))::(.raw (.slice none 0 0))::(.t true .bool false)::E1p),[],0,[]⟩:St);let z3:=B3C x0 x8 x10 h1 h2;(cond (decide (x10<x9)) (cond (decide (0≤x10∧x10<(x8.length:Int))) (cond (B7m (z1.1) ((z1.2).1) ((z1.2).2)) (cond (!(B3y x8 x10)) (some (.ret,z2)) (cond (decide (0≤(0:Int)∧(0:Int)≤x10∧x10≤(x0.length:Int))) (cond (T7 (z1.1) ((z1.2).1) ((z1.2).2) ((x0.take x10.toNat).drop (0:Int).toNat) h1 h2) (cond (!(z3.1)) (some (.ret,z2)) (some (.normal,(⟨((.t false tq3 x0)::.junk::.junk::.junk::.junk::(.ptr 0 0 1 0)::.junk::.junk::(.t false tq3 x8)::(ti x9)::(ti (wI (x10+(1:Int))))::E1R),[(.box [(.all 1 2),(.all 2 3)]),(.rows 82 true J6 (z3.2.1)),(.rows 80 true tq5 (z3.2.2))],0,[]⟩:St)))) none) none)) none) none) (some ((.exit 0),(⟨(.junk::.junk::.junk::.junk::.junk::(.ptr 0 0 1 0)::D9J),[(.box [(.all 1 2),(.all 2 3)]),(.rows 82 true J6 h1),(.rows 80 true tq5 h2)],0,[]⟩:St))))
theorem C6w:RdA G74 aLn 0 B6N R4 0 [] (kepts [2,3,4] [(0,[5])]) (B1b B9k):=by
 intro d
 kernel_rfl
theorem C6B:∀ d:R4.den,(B1b B9k) d=(B4z d).opt 0 []:=by
 intro d
 kernel_rfl
noncomputable abbrev B78:St→Option Tree:=R4.say 0 [] [(2005001,80,tq5),(2005000,82,J6)] (B1b C8R)
theorem C7t:aPL B78 B6N:=SS.wp2 hlz [(2005001,80,tq5),(2005000,82,J6)] B4z C6w C6B _ (fun d=>Runs.ofI2 (step:=B4z) B9o C7Y rfl (d.1.1,d.1.2.2.2.2.2.2.2.2.1,d.1.2.2.2.2.2.2.2.2.2.1,d.1.2.2.2.2.2.2.2.2.2.2.1,d.2.2.1,d.2.2.2.1))
noncomputable def V1 (a0:Lq1):=B9c a0 a0 (a0.length:Int) (0:Int) ([]:LBBe) ([]:Lq1)
noncomputable def B2H (a0:Lq1):LBBe×Lq1×Bool:=let z1:=V1 a0;(cond (z1.1==0) ([],[],(z1.2.1)) ((z1.2.2.1),(z1.2.2.2),true))
noncomputable abbrev B4I (r:LBBe×Lq1×Bool):AV×List AObj:=((.tup [(.t true tq6 r.1),(.t true tq3 r.2.1),(.t true .bool r.2.2)]),[])
noncomputable abbrev B8i:D9 B1M→AV×List AObj:=fun d=>B4I (B2H d.1)
noncomputable def A8P (a0:Lq1):Bool:=cond ((V1 a0).1==0) true ((V1 a0).1==1)
noncomputable abbrev B5A:D9 B1M→Bool:=fun d=>A8P d.1
noncomputable abbrev D1b:Nat→St→Option Tree:=fun b=>match b with | 0=>B78 | _=>fun _=>none
theorem C9l:A7X true G74 (D1b) Tryz.f55 B1M B5A B8i:=by
 rintro ⟨a0,_⟩ hp
 change A8P a0=true at hp
 unfold A8P at hp
 refine Eq.trans (b:=(let z1:=V1 a0;cond (z1.1==0) (some (B4I ([],[],(z1.2.1)))) (cond (z1.1==1) (some (B4I ((z1.2.2.1),(z1.2.2.2),true))) none))) (by kernel_rfl) ?_
 exact (K9 B4I hp (fun hp=>rfl) (fun hp=>(A70 hp fun _h=>rfl)))
theorem D1p:aPP 55 (A19 B1M B5A B8i):=pcD true G74 (hl1 (i:=0) (by kernel_rfl) C7t) C9l
noncomputable def S75:Tab:=Tab.add S74 55 (lift (A19 B1M B5A B8i))
noncomputable def E0W:FuncId→Bool:=qadd E0V 55
theorem G75:aPG S75 E0W:=G74.addQ D1p (cbl Tryz.f55) (fun _=>rfl)

abbrev Y4:List PSh:=[.t tq6,.t tq6]
abbrev M9:SS:=⟨(.t false tq6::.t false tq6::.junk::.junk::.junk::.junk::.junk::.junk::.junk::.junk::.junk::.junk::tI::tI::D8w),[]⟩
abbrev B1K:SS:=⟨(.junk::.junk::.junk::.junk::.t true .bool::C8W),[]⟩
abbrev B1L:SS:=⟨(.junk::D0n),[]⟩
noncomputable def B2X (x0 x1:LBBe) (x12 x13:Int):RT M9.den:=let z1:=x0.getD x13.toNat (bE,bE);let z2:=x1.getD x13.toNat (bE,bE);(.br (decide (x13<x12)) (.br (decide (0≤x13∧x13<(x0.length:Int))) (.br (decide (0≤x13∧x13<(x1.length:Int))) (.br (!(((z1.1).toList==(z2.1).toList)&&(((z1.2).toList==(z2.2).toList)&&true))) (.done .ret B1K (((),(),(),(),false,u22),())) (.next ((x0,x1,(),(),(),(),(),(),(),(),(),(),x12,wI (x13+(1:Int)),u13),()))) .fail) .fail) (.done (.exit 0) B1L ((u27),())))
abbrev P8:=(LBBe)×LBBe×(Int)×(Int)
abbrev U1:=Nat×(Bool)
def Z5:U1:=(99,(false:Bool))
noncomputable def T9 (x0 x1:LBBe) (x12 x13:Int):P8 ⊕ U1:=let z1:=x0.getD x13.toNat (bE,bE);let z2:=x1.getD x13.toNat (bE,bE);(cond (decide (x13<x12)) (cond (decide (0≤x13∧x13<(x0.length:Int))) (cond (decide (0≤x13∧x13<(x1.length:Int))) (cond (!(((z1.1).toList==(z2.1).toList)&&(((z1.2).toList==(z2.2).toList)&&true))) (.inr (0,false)) (.inl (x0,x1,x12,wI (x13+(1:Int))))) (.inr Z5)) (.inr Z5)) (.inr (1,(false:Bool))))
noncomputable def T5 (x0 x1:LBBe) (x12 x13:Int):U1:=itX (fun v:P8=>T9 v.1 v.2.1 v.2.2.1 v.2.2.2) Z5 (x0,x1,x12,x13)
noncomputable def A87 (a:U1):CT:=(.br (a.1==0) (.done .ret B1K (((),(),(),(),a.2,u22),())) (.br (a.1==1) (.done (.exit 0) B1L ((u27),())) .fail))
noncomputable def B9S (x0 x1:LBBe) (x12 x13:Int):CT:=A87 (T5 x0 x1 x12 x13)
noncomputable abbrev B2E {α:Sort _} (f:LBBe→LBBe→Int→Int→α) (d:M9.den):α:=f d.1.1 d.1.2.1 d.1.2.2.2.2.2.2.2.2.2.2.2.2.1 d.1.2.2.2.2.2.2.2.2.2.2.2.2.2.1
noncomputable abbrev A9j:M9.den→RT M9.den:=(B2E B2X)
noncomputable def B1w:Code:=((D5 0 (A1o Tryz.f56)).getD 0 (0,.skip)).2
noncomputable abbrev B2N (v:P8):M9.den:=((v.1,v.2.1,(),(),(),(),(),(),(),(),(),(),v.2.2.1,v.2.2.2,u13),())
theorem B9w:(∀ v:P8,(B2X v.1 v.2.1 v.2.2.1 v.2.2.2).val=A6W B2N A87 (T9 v.1 v.2.1 v.2.2.1 v.2.2.2))∧∀ a:U1,CEnd M9.den (A87 a):=⟨fun v=>(A72 (A72 (A72 (A72 rfl rfl) rfl) rfl) rfl),fun a=>(A7P aCD (A7P aCD A7R))⟩
theorem B8v:RdA G75 aLn 0 B1w M9 0 [] (kepts [4] [(0,[])]) (fun d=>(A9j d).opt 0 []):=by
 intro d
 kernel_rfl
noncomputable abbrev B1U:St→Option Tree:=M9.say 0 [] [] (B2E B9S)
theorem B9h:aPL B1U B1w:=SS.wp2 hlz [] A9j B8v (fun d=>rfl) _ (fun d=>Runs.ofI2 (step:=A9j) B2N B9w rfl (d.1.1,d.1.2.1,d.1.2.2.2.2.2.2.2.2.2.2.2.2.1,d.1.2.2.2.2.2.2.2.2.2.2.2.2.2.1))
noncomputable def X0 (a0 a1:LBBe):Bool:=let z1:=T5 a0 a1 (a0.length:Int) (0:Int);(cond ((a0.length:Int) != (a1.length:Int)) false (cond (z1.1==0) (z1.2) true))
noncomputable abbrev T4 (r:Bool):AV×List AObj:=((.t true .bool r),[])
noncomputable abbrev B0O:D9 Y4→AV×List AObj:=fun d=>T4 (X0 d.1 d.2.1)
noncomputable def P5 (a0 a1:LBBe):Bool:=let z1:=T5 a0 a1 (a0.length:Int) (0:Int);cond ((a0.length:Int) != (a1.length:Int)) true (cond (z1.1==0) true (z1.1==1))
noncomputable abbrev A9E:D9 Y4→Bool:=fun d=>P5 d.1 d.2.1
noncomputable abbrev C1G:Nat→St→Option Tree:=fun b=>match b with | 0=>B1U | _=>fun _=>none
theorem C0G:A7X true G75 (C1G) Tryz.f56 Y4 A9E B0O:=by
 rintro ⟨a0,⟨a1,_⟩⟩ hp
 change P5 a0 a1=true at hp
 unfold P5 at hp
 refine Eq.trans (b:=(let z1:=T5 a0 a1 (a0.length:Int) (0:Int);cond ((a0.length:Int) != (a1.length:Int)) (some (T4 false)) (cond (z1.1==0) (some (T4 (z1.2))) (cond (z1.1==1) (some (T4 true)) none)))) (by kernel_rfl) ?_
 exact (K9 T4 hp (fun hp=>rfl) (fun hp=>(K9 T4 hp (fun hp=>rfl) (fun hp=>(A70 hp fun _h=>rfl)))))
theorem C2b:aPP 56 (A19 Y4 A9E B0O):=pcD true G75 (hl1 (i:=0) (by kernel_rfl) B9h) C0G
noncomputable def S76:Tab:=Tab.add S75 56 (lift (A19 Y4 A9E B0O))
noncomputable def E0X:FuncId→Bool:=qadd E0W 56
theorem G76:aPG S76 E0X:=G75.addQ C2b (cbl Tryz.f56) (fun _=>rfl)

abbrev A79:List PSh:=[.t tq4,.t tq4]
abbrev N7:SS:=⟨(.t false tq4::.t false tq4::.junk::.junk::.junk::.junk::.junk::.junk::.junk::.junk::.junk::.junk::tI::tI::D8w),[]⟩
abbrev B20:SS:=⟨(.junk::.junk::.junk::.junk::.t true .bool::C8W),[]⟩
abbrev B21:SS:=⟨(.junk::D0n),[]⟩
noncomputable def B31 (x0 x1:Lq2) (x12 x13:Int):RT N7.den:=let z1:=x0.getD x13.toNat ((0:Int),(bE,bE));let z2:=x1.getD x13.toNat ((0:Int),(bE,bE));(.br (decide (x13<x12)) (.br (decide (0≤x13∧x13<(x0.length:Int))) (.br (decide (0≤x13∧x13<(x1.length:Int))) (.br (!(((z1.1)==(z2.1))&&((((z1.2).1).toList==((z2.2).1).toList)&&((((z1.2).2).toList==((z2.2).2).toList)&&true)))) (.done .ret B20 (((),(),(),(),false,u22),())) (.next ((x0,x1,(),(),(),(),(),(),(),(),(),(),x12,wI (x13+(1:Int)),u13),()))) .fail) .fail) (.done (.exit 0) B21 ((u27),())))
abbrev T2:=(Lq2)×Lq2×(Int)×(Int)
abbrev X8:=Nat×(Bool)
def A8o:X8:=(99,(false:Bool))
noncomputable def W4 (x0 x1:Lq2) (x12 x13:Int):T2 ⊕ X8:=let z1:=x0.getD x13.toNat ((0:Int),(bE,bE));let z2:=x1.getD x13.toNat ((0:Int),(bE,bE));(cond (decide (x13<x12)) (cond (decide (0≤x13∧x13<(x0.length:Int))) (cond (decide (0≤x13∧x13<(x1.length:Int))) (cond (!(((z1.1)==(z2.1))&&((((z1.2).1).toList==((z2.2).1).toList)&&((((z1.2).2).toList==((z2.2).2).toList)&&true)))) (.inr (0,false)) (.inl (x0,x1,x12,wI (x13+(1:Int))))) (.inr A8o)) (.inr A8o)) (.inr (1,(false:Bool))))
noncomputable def W0 (x0 x1:Lq2) (x12 x13:Int):X8:=itX (fun v:T2=>W4 v.1 v.2.1 v.2.2.1 v.2.2.2) A8o (x0,x1,x12,x13)
noncomputable def B0f (a:X8):CT:=(.br (a.1==0) (.done .ret B20 (((),(),(),(),a.2,u22),())) (.br (a.1==1) (.done (.exit 0) B21 ((u27),())) .fail))
noncomputable def C1Z (x0 x1:Lq2) (x12 x13:Int):CT:=B0f (W0 x0 x1 x12 x13)
noncomputable abbrev B3Z {α:Sort _} (f:Lq2→Lq2→Int→Int→α) (d:N7.den):α:=f d.1.1 d.1.2.1 d.1.2.2.2.2.2.2.2.2.2.2.2.2.1 d.1.2.2.2.2.2.2.2.2.2.2.2.2.2.1
noncomputable abbrev B0h:N7.den→RT N7.den:=(B3Z B31)
noncomputable def B2F:Code:=((D5 0 (A1o Tryz.f75)).getD 0 (0,.skip)).2
noncomputable abbrev B30 (v:T2):N7.den:=((v.1,v.2.1,(),(),(),(),(),(),(),(),(),(),v.2.2.1,v.2.2.2,u13),())
theorem C1D:(∀ v:T2,(B31 v.1 v.2.1 v.2.2.1 v.2.2.2).val=A6W B30 B0f (W4 v.1 v.2.1 v.2.2.1 v.2.2.2))∧∀ a:X8,CEnd N7.den (B0f a):=⟨fun v=>(A72 (A72 (A72 (A72 rfl rfl) rfl) rfl) rfl),fun a=>(A7P aCD (A7P aCD A7R))⟩
theorem C0E:RdA G76 aLn 0 B2F N7 0 [] (kepts [4] [(0,[])]) (fun d=>(B0h d).opt 0 []):=by
 intro d
 kernel_rfl
noncomputable abbrev B3N:St→Option Tree:=N7.say 0 [] [] (B3Z C1Z)
theorem C1A:aPL B3N B2F:=SS.wp2 hlz [] B0h C0E (fun d=>rfl) _ (fun d=>Runs.ofI2 (step:=B0h) B30 C1D rfl (d.1.1,d.1.2.1,d.1.2.2.2.2.2.2.2.2.2.2.2.2.1,d.1.2.2.2.2.2.2.2.2.2.2.2.2.2.1))
noncomputable def A9i (a0 a1:Lq2):Bool:=let z1:=W0 a0 a1 (a0.length:Int) (0:Int);(cond ((a0.length:Int) != (a1.length:Int)) false (cond (z1.1==0) (z1.2) true))
noncomputable abbrev W6 (r:Bool):AV×List AObj:=((.t true .bool r),[])
noncomputable abbrev B2l:D9 A79→AV×List AObj:=fun d=>W6 (A9i d.1 d.2.1)
noncomputable def T0 (a0 a1:Lq2):Bool:=let z1:=W0 a0 a1 (a0.length:Int) (0:Int);cond ((a0.length:Int) != (a1.length:Int)) true (cond (z1.1==0) true (z1.1==1))
noncomputable abbrev B00:D9 A79→Bool:=fun d=>T0 d.1 d.2.1
noncomputable abbrev C4z:Nat→St→Option Tree:=fun b=>match b with | 0=>B3N | _=>fun _=>none
theorem C2V:A7X true G76 (C4z) Tryz.f75 A79 B00 B2l:=by
 rintro ⟨a0,⟨a1,_⟩⟩ hp
 change T0 a0 a1=true at hp
 unfold T0 at hp
 refine Eq.trans (b:=(let z1:=W0 a0 a1 (a0.length:Int) (0:Int);cond ((a0.length:Int) != (a1.length:Int)) (some (W6 false)) (cond (z1.1==0) (some (W6 (z1.2))) (cond (z1.1==1) (some (W6 true)) none)))) (by kernel_rfl) ?_
 exact (K9 W6 hp (fun hp=>rfl) (fun hp=>(K9 W6 hp (fun hp=>rfl) (fun hp=>(A70 hp fun _h=>rfl)))))
theorem C4B:aPP 75 (A19 A79 B00 B2l):=pcD true G76 (hl1 (i:=0) (by kernel_rfl) C1A) C2V
noncomputable def S77:Tab:=Tab.add S76 75 (lift (A19 A79 B00 B2l))
noncomputable def E0Y:FuncId→Bool:=qadd E0X 75
theorem G77:aPG S77 E0Y:=G76.addQ C4B (cbl Tryz.f75) (fun _=>rfl)

abbrev B6v:List PSh:=[.agg [(.int .i64),(.int .i64),tq4],.agg [(.int .i64),(.int .i64),tq4]]
noncomputable def C6a (a0 a1:Int) (a2:Lq2) (a3 a4:Int) (a5:Lq2):Bool:=(cond (a0==a3) (cond (a1==a4) (A9i a2 a5) false) false)
noncomputable abbrev B4k (r:Bool):AV×List AObj:=((.t true .bool r),[])
noncomputable abbrev C4H:D9 B6v→AV×List AObj:=fun d=>B4k (C6a d.1.1 d.1.2.1 d.1.2.2.1 d.2.1.1 d.2.1.2.1 d.2.1.2.2.1)
noncomputable def B01 (a0 a1:Int) (a2:Lq2) (a3 a4:Int) (a5:Lq2):Bool:=cond (a0==a3) (cond (a1==a4) (T0 a2 a5) true) true
noncomputable abbrev C0v:D9 B6v→Bool:=fun d=>B01 d.1.1 d.1.2.1 d.1.2.2.1 d.2.1.1 d.2.1.2.1 d.2.1.2.2.1
theorem D3I:A7X true G77 aLn Tryz.f58 B6v C0v C4H:=by
 rintro ⟨⟨a0,⟨a1,⟨a2,_⟩⟩⟩,⟨⟨a3,⟨a4,⟨a5,_⟩⟩⟩,_⟩⟩ hp
 change B01 a0 a1 a2 a3 a4 a5=true at hp
 unfold B01 at hp
 refine Eq.trans (b:=(cond (a0==a3) (cond (a1==a4) (cond (T0 a2 a5) (some (B4k (A9i a2 a5))) none) (some (B4k false))) (some (B4k false)))) (by kernel_rfl) ?_
 exact (K9 B4k hp (fun hp=>(K9 B4k hp (fun hp=>(A70 hp fun _h=>rfl)) (fun hp=>rfl))) (fun hp=>rfl))
theorem D5S:aPP 58 (A19 B6v C0v C4H):=pcD true G77 hlz D3I
noncomputable def S78:Tab:=Tab.add S77 58 (lift (A19 B6v C0v C4H))
noncomputable def E0Z:FuncId→Bool:=qadd E0Y 58
theorem G78:aPG S78 E0Z:=G77.addQ D5S (cbl Tryz.f58) (fun _=>rfl)


end Go.Proofs.YtgglehejlddghaaGreat.Eng
