/- What the functions that FnExactHold reaches compute: further. -/
import Derived.Test.YtgglehejlddghaaGreatFExactHoldB
namespace Go.Proofs.YtgglehejlddghaaGreat.Eng
open Go Go.RowKit
set_option linter.unusedSimpArgs false
set_option linter.unusedVariables false
set_option maxRecDepth 10000
abbrev E1Q:List AV:=.junk::.junk::.junk::D9G
abbrev M6:SS:=⟨[.t false tq3,.t false tq3,.fn 58 []],[]⟩
abbrev I4:SS:=⟨(.junk::.t false tq3::.fn 58 []::.junk::.junk::.junk::.junk::.junk::.junk::.junk::.junk::.junk::.junk::.junk::.junk::.t false tq3::tI::tI::D7p),[]⟩
abbrev U2:SS:=⟨(.junk::.junk::.junk::.junk::.junk::.junk::.t true .bool::D0n),[]⟩
abbrev U3:SS:=⟨(.junk::D9q),[]⟩
noncomputable def M7 (x1 x15:Lq1) (x17:Int):=let z1:=x15.getD x17.toNat ((0:Int),((0:Int),[]));let z2:=x1.getD x17.toNat ((0:Int),((0:Int),[]));C6a (z1.1) ((z1.2).1) ((z1.2).2) (z2.1) ((z2.2).1) ((z2.2).2)
noncomputable def V7 (x1 x15:Lq1) (x16 x17:Int):RT I4.den:=let z1:=x15.getD x17.toNat ((0:Int),((0:Int),[]));let z2:=x1.getD x17.toNat ((0:Int),((0:Int),[]));(.br (decide (x17<x16)) (.br (decide (0≤x17∧x17<(x15.length:Int))) (.br (decide (0≤x17∧x17<(x1.length:Int))) (.br (B01 (z1.1) ((z1.2).1) ((z1.2).2) (z2.1) ((z2.2).1) ((z2.2).2)) (.br (!(M7 x1 x15 x17)) (.done .ret U2 (((),(),(),(),(),(),false,u26),())) (.next (((),x1,(),(),(),(),(),(),(),(),(),(),(),(),(),x15,x16,wI (x17+(1:Int)),u15),()))) .fail) .fail) .fail) (.done (.exit 0) U3 ((u33),())))
abbrev J7:=(Lq1)×Lq1×(Int)×(Int)
abbrev L3:=Nat×(Bool)
def L0:L3:=(99,(false:Bool))
noncomputable def L2 (x1 x15:Lq1) (x16 x17:Int):J7 ⊕ L3:=let z1:=x15.getD x17.toNat ((0:Int),((0:Int),[]));let z2:=x1.getD x17.toNat ((0:Int),((0:Int),[]));(cond (decide (x17<x16)) (cond (decide (0≤x17∧x17<(x15.length:Int))) (cond (decide (0≤x17∧x17<(x1.length:Int))) (cond (B01 (z1.1) ((z1.2).1) ((z1.2).2) (z2.1) ((z2.2).1) ((z2.2).2)) (cond (!(M7 x1 x15 x17)) (.inr (0,false)) (.inl (x1,x15,x16,wI (x17+(1:Int))))) (.inr L0)) (.inr L0)) (.inr L0)) (.inr (1,(false:Bool))))
noncomputable def L1 (x1 x15:Lq1) (x16 x17:Int):L3:=itX (fun v:J7=>L2 v.1 v.2.1 v.2.2.1 v.2.2.2) L0 (x1,x15,x16,x17)
noncomputable def O1 (a:L3):CT:=(.br (a.1==0) (.done .ret U2 (((),(),(),(),(),(),a.2,u26),())) (.br (a.1==1) (.done (.exit 0) U3 ((u33),())) .fail))
noncomputable def B0e (x1 x15:Lq1) (x16 x17:Int):CT:=O1 (L1 x1 x15 x16 x17)
noncomputable abbrev M4 {α:Sort _} (f:Lq1→Lq1→Int→Int→α) (d:I4.den):α:=f d.1.2.1 d.1.2.2.2.2.2.2.2.2.2.2.2.2.2.2.2.1 d.1.2.2.2.2.2.2.2.2.2.2.2.2.2.2.2.2.1 d.1.2.2.2.2.2.2.2.2.2.2.2.2.2.2.2.2.2.1
noncomputable abbrev O3:I4.den→RT I4.den:=(M4 V7)
noncomputable def U0:Code:=((D5 0 (A1o Tryz.f57)).getD 0 (0,.skip)).2
noncomputable abbrev V6 (v:J7):I4.den:=(((),v.1,(),(),(),(),(),(),(),(),(),(),(),(),(),v.2.1,v.2.2.1,v.2.2.2,u15),())
theorem A91:(∀ v:J7,(V7 v.1 v.2.1 v.2.2.1 v.2.2.2).val=A6W V6 O1 (L2 v.1 v.2.1 v.2.2.1 v.2.2.2))∧∀ a:L3,CEnd I4.den (O1 a):=⟨fun v=>(A72 (A72 (A72 (A72 (A72 rfl rfl) rfl) rfl) rfl) rfl),fun a=>(A7P aCD (A7P aCD A7R))⟩
noncomputable def V5 (x1 x15:Lq1) (x16 x17:Int):Option (Ex×St):=let z1:=x15.getD x17.toNat ((0:Int),((0:Int),[]));let z2:=x1.getD x17.toNat ((0:Int),((0:Int),[]));(cond (decide (x17<x16)) (cond (decide (0≤x17∧x17<(x15.length:Int))) (cond (decide (0≤x17∧x17<(x1.length:Int))) (cond (B01 (z1.1) ((z1.2).1) ((z1.2).2) (z2.1) ((z2.2).1) ((z2.2).2)) (cond (!(M7 x1 x15 x17)) (some (.ret,(⟨(.junk::.junk::.junk::.junk::.junk::.junk::(.t true .bool false)::D9J),[],0,[]⟩:St))) (some (.normal,(⟨(.junk::(.t false tq3 x1)::(.fn 58 [])::.junk::.junk::.junk::.junk::.junk::.junk::.junk::.junk::.junk::.junk::.junk::.junk::(.t false tq3 x15)::(ti x16)::(ti (wI (x17+(1:Int))))::E1Q),[],0,[]⟩:St)))) none) none) none) (some ((.exit 0),(⟨(.junk::D9k),[],0,[]⟩:St))))
theorem A9J:RdA G78 aLn 0 U0 I4 0 [] (kepts [6] [(0,[])]) (M4 V5):=by
 intro d
 kernel_rfl
theorem A9K:∀ d:I4.den,(M4 V5) d=(O3 d).opt 0 []:=by
 intro d
 kernel_rfl
noncomputable abbrev V2:St→Option Tree:=I4.say 0 [] [] (M4 B0e)
theorem A9Y:aPL V2 U0:=SS.wp2 hlz [] O3 A9J A9K _ (fun d=>Runs.ofI2 (step:=O3) V6 A91 rfl (d.1.2.1,d.1.2.2.2.2.2.2.2.2.2.2.2.2.2.2.2.1,d.1.2.2.2.2.2.2.2.2.2.2.2.2.2.2.2.2.1,d.1.2.2.2.2.2.2.2.2.2.2.2.2.2.2.2.2.2.1))
noncomputable def M1 (x0 x1:Lq1):Bool:=let z1:=L1 x1 x0 (x0.length:Int) (0:Int);(cond ((x0.length:Int) != (x1.length:Int)) false (cond (z1.1==0) (z1.2) true))
noncomputable abbrev K0 (r:Bool):AV×List AObj×List Nat:=((.t true .bool r),[],[])
noncomputable abbrev Y7:M6.den→AV×List AObj×List Nat:=fun d=>K0 (M1 d.1.1 d.1.2.1)
noncomputable def J4 (x0 x1:Lq1):Bool:=let z1:=L1 x1 x0 (x0.length:Int) (0:Int);cond ((x0.length:Int) != (x1.length:Int)) true (cond (z1.1==0) true (z1.1==1))
noncomputable abbrev W3:M6.den→Bool:=fun d=>J4 d.1.1 d.1.2.1
noncomputable abbrev B0u:Nat→St→Option Tree:=fun b=>match b with | 0=>V2 | _=>fun _=>none
theorem B0g:A7W G78 (B0u) Tryz.f57 M6 W3 Y7:=by
 rintro ⟨⟨x0,x1,_,_⟩,_⟩ hp
 change J4 x0 x1=true at hp
 unfold J4 at hp
 refine Eq.trans (b:=(let z1:=L1 x1 x0 (x0.length:Int) (0:Int);cond ((x0.length:Int) != (x1.length:Int)) (some (K0 false)) (cond (z1.1==0) (some (K0 (z1.2))) (cond (z1.1==1) (some (K0 true)) none)))) (by kernel_rfl) ?_
 exact (K9 K0 hp (fun hp=>rfl) (fun hp=>(K9 K0 hp (fun hp=>rfl) (fun hp=>(A70 hp fun _h=>rfl)))))
noncomputable abbrev Y8:=winQ (msum M6 W3 Y7)
theorem B0I:aPM 57 Y8:=(mcM G78 (hl1 (i:=0) (by kernel_rfl) A9Y) B0g).winQ (A7p fun d=>⟨rfl,rfl⟩)
noncomputable def S79:Tab:=Tab.add S78 57 (Y8)
noncomputable def E00:FuncId→Bool:=qadd E0Z 57
theorem G79:aPG S79 E00:=G78.addMQ B0I (A7w _) (cbl Tryz.f57) (A5Z _)

abbrev B6t:List PSh:=[.agg [(.int .i64),tq3,(.int .i64),tq6,tq3]]
noncomputable def B0P (a0:Int) (a1:Lq1) (a2:Int) (a3:LBBe) (a4:Lq1):Bool:=let z1:=B2H a1;(cond (!(D17 a0)) false (cond (!(A8E a2 (0:Int) (a1.length:Int))) false (cond (decide ((wI ((a1.length:Int)+(a4.length:Int))) > (300:Int))) false (cond (z1.2.2) (cond (X0 (z1.1) a3) (M1 (z1.2.1) a4) false) false))))
noncomputable abbrev A0d (r:Bool):AV×List AObj:=((.t true .bool r),[])
noncomputable abbrev C4F:D9 B6t→AV×List AObj:=fun d=>A0d (B0P d.1.1 d.1.2.1 d.1.2.2.1 d.1.2.2.2.1 d.1.2.2.2.2.1)
noncomputable def B2o (a0:Int) (a1:Lq1) (a2:Int) (a3:LBBe) (a4:Lq1):Bool:=let z1:=B2H a1;cond (!(D17 a0)) true (cond (!(A8E a2 (0:Int) (a1.length:Int))) true (cond (decide ((wI ((a1.length:Int)+(a4.length:Int))) > (300:Int))) true ((A8P a1)&&(cond (z1.2.2) ((P5 (z1.1) a3)&&(cond (X0 (z1.1) a3) (J4 (z1.2.1) a4) true)) true))))
noncomputable abbrev C0t:D9 B6t→Bool:=fun d=>B2o d.1.1 d.1.2.1 d.1.2.2.1 d.1.2.2.2.1 d.1.2.2.2.2.1
theorem D3G:A7X true G79 aLn Tryz.f25 B6t C0t C4F:=by
 rintro ⟨⟨a0,⟨a1,⟨a2,⟨a3,⟨a4,_⟩⟩⟩⟩⟩,_⟩ hp
 change B2o a0 a1 a2 a3 a4=true at hp
 unfold B2o at hp
 refine Eq.trans (b:=(let z1:=B2H a1;cond (!(D17 a0)) (some (A0d false)) (cond (!(A8E a2 (0:Int) (a1.length:Int))) (some (A0d false)) (cond (decide ((wI ((a1.length:Int)+(a4.length:Int))) > (300:Int))) (some (A0d false)) (cond (A8P a1) (cond (z1.2.2) (cond (P5 (z1.1) a3) (cond (X0 (z1.1) a3) (cond (J4 (z1.2.1) a4) (some (A0d (M1 (z1.2.1) a4))) none) (some (A0d false))) none) (some (A0d false))) none))))) (by kernel_rfl) ?_
 exact (K9 A0d hp (fun hp=>rfl) (fun hp=>(K9 A0d hp (fun hp=>rfl) (fun hp=>(K9 A0d hp (fun hp=>rfl) (fun hp=>(A7Y hp fun hp=>(K9 A0d hp (fun hp=>(A7Y hp fun hp=>(K9 A0d hp (fun hp=>(A70 hp fun _h=>rfl)) (fun hp=>rfl)))) (fun hp=>rfl)))))))))
theorem D5Q:aPP 25 (A19 B6t C0t C4F):=pcD true G79 hlz D3G
noncomputable def S80:Tab:=Tab.add S79 25 (lift (A19 B6t C0t C4F))
noncomputable def E01:FuncId→Bool:=qadd E00 25
theorem G80:aPG S80 E01:=G79.addQ D5Q (cbl Tryz.f25) (fun _=>rfl)

abbrev A81:List PSh:=[.rp [(.int .i64),tq3,(.int .i64),tq6,tq3],.t (.int .i64)]
noncomputable def A9b (a0:Int) (a1:Lq1) (a2:Int) (a3:LBBe) (a4:Lq1) (a5:Int):Int:=(cond (decide ((Q8 a4 a5) ≥ (0:Int))) (1:Int) (cond (decide ((Q8 a1 a5)<(0:Int))) (2:Int) (cond (((a1.getD ((Q8 a1 a5).toNat) ((0:Int),((0:Int),[]))).1)==(2:Int)) (3:Int) (4:Int))))
noncomputable abbrev T3 (r:Int):AV×List AObj:=((ti r),[])
noncomputable abbrev B4n:D9 A81→AV×List AObj:=fun d=>T3 (A9b d.1.1 d.1.2.1 d.1.2.2.1 d.1.2.2.2.1 d.1.2.2.2.2.1 d.2.1)
noncomputable def W9 (a0:Int) (a1:Lq1) (a2:Int) (a3:LBBe) (a4:Lq1) (a5:Int):Bool:=let z1:=Q8 a1 a5;(R3 a1 a5)&&((R3 a4 a5)&&(cond (decide ((Q8 a4 a5) ≥ (0:Int))) true (cond (decide (z1<(0:Int))) true (decide (0≤z1∧z1<(a1.length:Int))))))
noncomputable abbrev B2n:D9 A81→Bool:=fun d=>W9 d.1.1 d.1.2.1 d.1.2.2.1 d.1.2.2.2.1 d.1.2.2.2.2.1 d.2.1
theorem C5c:A7X true G80 aLn Tryz.f61 A81 B2n B4n:=by
 rintro ⟨⟨a0,⟨a1,⟨a2,⟨a3,⟨a4,_⟩⟩⟩⟩⟩,⟨a5,_⟩⟩ hp
 change W9 a0 a1 a2 a3 a4 a5=true at hp
 unfold W9 at hp
 refine Eq.trans (b:=(let z1:=Q8 a1 a5;cond (R3 a1 a5) (cond (R3 a4 a5) (cond (decide ((Q8 a4 a5) ≥ (0:Int))) (some (T3 (1:Int))) (cond (decide (z1<(0:Int))) (some (T3 (2:Int))) (cond (decide (0≤z1∧z1<(a1.length:Int))) (cond (((a1.getD (z1.toNat) ((0:Int),((0:Int),[]))).1)==(2:Int)) (some (T3 (3:Int))) (some (T3 (4:Int)))) none))) none) none)) (by kernel_rfl) ?_
 exact (A7Y hp fun hp=>(A7Y hp fun hp=>(K9 T3 hp (fun hp=>rfl) (fun hp=>(K9 T3 hp (fun hp=>rfl) (fun hp=>(A70 hp fun _h=>(Q7 T3 (fun _h=>rfl) (fun _h=>rfl)))))))))
theorem C69:aPP 61 (A19 A81 B2n B4n):=pcD true G80 hlz C5c
noncomputable def S81:Tab:=Tab.add S80 61 (liftH A81 B2n B4n)
noncomputable def E02:FuncId→Bool:=qadd E01 61
theorem G81:aPG S81 E02:=G80.addMQ C69.liftH (A7m _ _ _) (cbl Tryz.f61) (A7n fun _=>rfl)

abbrev E1Z:List Sh:=.junk::E1F
abbrev u44:=((),u43)
abbrev E1T:List AV:=.junk::E1s
abbrev tq7:Ty:=.pair (.int .i64) (.pair (.sl (.pair (.int .i64) (.pair (.int .i64) (.sl (.pair (.int .i64) (.pair .str .str)))))) (.pair (.int .i64) (.pair (.sl (.pair .str .str)) (.sl (.pair (.int .i64) (.pair (.int .i64) (.sl (.pair (.int .i64) (.pair .str .str)))))))))
abbrev B1N:List PSh:=[.rp [(.int .i64),tq3,(.int .i64),tq6,tq3],.t tq4]
abbrev R5:SS:=⟨(.rop [(.int .i64),tq3,(.int .i64),tq6,tq3]::.t false tq4::.junk::.junk::.junk::tI::.junk::.junk::.junk::.junk::.junk::.junk::.junk::.junk::.junk::.junk::.junk::.junk::.junk::.t false tq3::tI::tI::E1Z),[]⟩
abbrev B7D:SS:=⟨(.rop [(.int .i64),tq3,(.int .i64),tq6,tq3]::.t false tq4::.junk::.junk::.junk::tI::E1L),[]⟩
noncomputable def B9G (x0_0:Int) (x0_1:Lq1) (x0_2:Int) (x0_3:LBBe) (x0_4:Lq1) (x1:Lq2) (x5:Int) (x19:Lq1) (x20 x21:Int):RT R5.den:=(.br (decide (x21<x20)) (.br (decide (0≤x21∧x21<(x19.length:Int))) (.next (((x0_0,x0_1,x0_2,x0_3,x0_4,()),x1,(),(),(),wI (x5+(((((x19.getD x21.toNat ((0:Int),((0:Int),[]))).2).2).length:Nat):Int)),(),(),(),(),(),(),(),(),(),(),(),(),(),x19,x20,wI (x21+(1:Int)),u44),())) .fail) (.done (.exit 0) B7D (((x0_0,x0_1,x0_2,x0_3,x0_4,()),x1,(),(),(),x5,u60),())))
abbrev A9P:=(Int)×Lq1×(Int)×LBBe×Lq1×Lq2×(Int)×Lq1×(Int)×(Int)
abbrev A8r:=Nat×(Int)×Lq1×(Int)×LBBe×Lq1×Lq2×(Int)
def B89:A8r:=(99,((0:Int):Int),([]:Lq1),((0:Int):Int),([]:LBBe),([]:Lq1),([]:Lq2),((0:Int):Int))
noncomputable def B1u (x0_0:Int) (x0_1:Lq1) (x0_2:Int) (x0_3:LBBe) (x0_4:Lq1) (x1:Lq2) (x5:Int) (x19:Lq1) (x20 x21:Int):A9P ⊕ A8r:=(cond (decide (x21<x20)) (cond (decide (0≤x21∧x21<(x19.length:Int))) (.inl (x0_0,x0_1,x0_2,x0_3,x0_4,x1,wI (x5+(((((x19.getD x21.toNat ((0:Int),((0:Int),[]))).2).2).length:Nat):Int)),x19,x20,wI (x21+(1:Int)))) (.inr B89)) (.inr (0,x0_0,x0_1,x0_2,x0_3,x0_4,x1,x5)))
noncomputable def B9d (x0_0:Int) (x0_1:Lq1) (x0_2:Int) (x0_3:LBBe) (x0_4:Lq1) (x1:Lq2) (x5:Int) (x19:Lq1) (x20 x21:Int):A8r:=itX (fun v:A9P=>B1u v.1 v.2.1 v.2.2.1 v.2.2.2.1 v.2.2.2.2.1 v.2.2.2.2.2.1 v.2.2.2.2.2.2.1 v.2.2.2.2.2.2.2.1 v.2.2.2.2.2.2.2.2.1 v.2.2.2.2.2.2.2.2.2) B89 (x0_0,x0_1,x0_2,x0_3,x0_4,x1,x5,x19,x20,x21)
noncomputable def B4g (a:A8r):CT:=(.br (a.1==0) (.done (.exit 0) B7D (((a.2.1,a.2.2.1,a.2.2.2.1,a.2.2.2.2.1,a.2.2.2.2.2.1,()),a.2.2.2.2.2.2.1,(),(),(),a.2.2.2.2.2.2.2,u60),())) .fail)
noncomputable def C8S (x0_0:Int) (x0_1:Lq1) (x0_2:Int) (x0_3:LBBe) (x0_4:Lq1) (x1:Lq2) (x5:Int) (x19:Lq1) (x20 x21:Int):CT:=B4g (B9d x0_0 x0_1 x0_2 x0_3 x0_4 x1 x5 x19 x20 x21)
noncomputable abbrev B1c {α:Sort _} (f:Int→Lq1→Int→LBBe→Lq1→Lq2→Int→Lq1→Int→Int→α) (d:R5.den):α:=f d.1.1.1 d.1.1.2.1 d.1.1.2.2.1 d.1.1.2.2.2.1 d.1.1.2.2.2.2.1 d.1.2.1 d.1.2.2.2.2.2.1 d.1.2.2.2.2.2.2.2.2.2.2.2.2.2.2.2.2.2.2.2.1 d.1.2.2.2.2.2.2.2.2.2.2.2.2.2.2.2.2.2.2.2.2.1 d.1.2.2.2.2.2.2.2.2.2.2.2.2.2.2.2.2.2.2.2.2.2.1
noncomputable abbrev B4A:R5.den→RT R5.den:=(B1c B9G)
noncomputable def B6O:Code:=((D5 0 (A1o Tryz.f62)).getD 0 (0,.skip)).2
noncomputable abbrev B9p (v:A9P):R5.den:=(((v.1,v.2.1,v.2.2.1,v.2.2.2.1,v.2.2.2.2.1,()),v.2.2.2.2.2.1,(),(),(),v.2.2.2.2.2.2.1,(),(),(),(),(),(),(),(),(),(),(),(),(),v.2.2.2.2.2.2.2.1,v.2.2.2.2.2.2.2.2.1,v.2.2.2.2.2.2.2.2.2,u44),())
theorem C7Z:(∀ v:A9P,(B9G v.1 v.2.1 v.2.2.1 v.2.2.2.1 v.2.2.2.2.1 v.2.2.2.2.2.1 v.2.2.2.2.2.2.1 v.2.2.2.2.2.2.2.1 v.2.2.2.2.2.2.2.2.1 v.2.2.2.2.2.2.2.2.2).val=A6W B9p B4g (B1u v.1 v.2.1 v.2.2.1 v.2.2.2.1 v.2.2.2.2.1 v.2.2.2.2.2.1 v.2.2.2.2.2.2.1 v.2.2.2.2.2.2.2.1 v.2.2.2.2.2.2.2.2.1 v.2.2.2.2.2.2.2.2.2))∧∀ a:A8r,CEnd R5.den (B4g a):=⟨fun v=>(A72 (A72 rfl rfl) rfl),fun a=>(A7P aCD A7R)⟩
noncomputable def B9l (x0_0:Int) (x0_1:Lq1) (x0_2:Int) (x0_3:LBBe) (x0_4:Lq1) (x1:Lq2) (x5:Int) (x19:Lq1) (x20 x21:Int):Option (Ex×St):=(cond (decide (x21<x20)) (cond (decide (0≤x21∧x21<(x19.length:Int))) (some (.normal,(⟨((.rop false tq7 [(x0_0,(x0_1,(x0_2,(x0_3,x0_4))))] 0 0)::(.t false tq4 x1)::.junk::.junk::.junk::(ti (wI (x5+(((((x19.getD x21.toNat ((0:Int),((0:Int),[]))).2).2).length:Nat):Int))))::.junk::.junk::.junk::.junk::.junk::.junk::.junk::.junk::.junk::.junk::.junk::.junk::.junk::(.t false tq3 x19)::(ti x20)::(ti (wI (x21+(1:Int))))::E1T),[],0,[]⟩:St))) none) (some ((.exit 0),(⟨((.rop false tq7 [(x0_0,(x0_1,(x0_2,(x0_3,x0_4))))] 0 0)::(.t false tq4 x1)::.junk::.junk::.junk::(ti x5)::E1x),[],0,[]⟩:St))))
theorem C6x:RdA G81 aLn 0 B6O R5 0 [] (kepts [] [(0,[0,1,5])]) (B1c B9l):=by
 intro d
 kernel_rfl
theorem C6C:∀ d:R5.den,(B1c B9l) d=(B4A d).opt 0 []:=by
 intro d
 kernel_rfl
noncomputable abbrev B79:St→Option Tree:=R5.say 0 [] [] (B1c C8S)
theorem C7u:aPL B79 B6O:=SS.wp2 hlz [] B4A C6x C6C _ (fun d=>Runs.ofI2 (step:=B4A) B9p C7Z rfl (d.1.1.1,d.1.1.2.1,d.1.1.2.2.1,d.1.1.2.2.2.1,d.1.1.2.2.2.2.1,d.1.2.1,d.1.2.2.2.2.2.1,d.1.2.2.2.2.2.2.2.2.2.2.2.2.2.2.2.2.2.2.2.1,d.1.2.2.2.2.2.2.2.2.2.2.2.2.2.2.2.2.2.2.2.2.1,d.1.2.2.2.2.2.2.2.2.2.2.2.2.2.2.2.2.2.2.2.2.2.1))
noncomputable def A8h (a0:Int) (a1:Lq1) (a2:Int) (a3:LBBe) (a4:Lq1) (a5:Lq2):=B9d a0 a1 a2 a3 a4 a5 (wI ((a3.length:Int)+(a5.length:Int))) a4 (a4.length:Int) (0:Int)
noncomputable def B3D (a0:Int) (a1:Lq1) (a2:Int) (a3:LBBe) (a4:Lq1) (a5:Lq2):=let z1:=A8h a0 a1 a2 a3 a4 a5;W8 (z1.2.2.2.2.2.1) (z1.2.2.2.2.2.2.1)
noncomputable def B67 (a0:Int) (a1:Lq1) (a2:Int) (a3:LBBe) (a4:Lq1) (a5:Lq2):=let z1:=A8h a0 a1 a2 a3 a4 a5;B4o (z1.2.2.2.2.1) (z1.2.2.2.2.2.2.1)
noncomputable def B2I (a0:Int) (a1:Lq1) (a2:Int) (a3:LBBe) (a4:Lq1) (a5:Lq2):Bool:=let z1:=A8h a0 a1 a2 a3 a4 a5;(cond (!(B3D a0 a1 a2 a3 a4 a5)) (cond (B67 a0 a1 a2 a3 a4 a5) (cond (decide ((z1.2.2.2.2.2.2.2)≤(60:Int))) (decide ((wI ((wI ((((z1.2.2.1).length:Nat):Int)+(((z1.2.2.2.2.2.1).length:Nat):Int)))+(2:Int)))≤(300:Int))) false) false) false)
noncomputable abbrev A75 (r:Bool):AV×List AObj:=((.t true .bool r),[])
noncomputable abbrev B8j:D9 B1N→AV×List AObj:=fun d=>A75 (B2I d.1.1 d.1.2.1 d.1.2.2.1 d.1.2.2.2.1 d.1.2.2.2.2.1 d.2.1)
noncomputable def A8Q (a0:Int) (a1:Lq1) (a2:Int) (a3:LBBe) (a4:Lq1) (a5:Lq2):Bool:=let z1:=A8h a0 a1 a2 a3 a4 a5;(z1.1==0)&&((Q4 (z1.2.2.2.2.2.1) (z1.2.2.2.2.2.2.1))&&(cond (!(B3D a0 a1 a2 a3 a4 a5)) (A9g (z1.2.2.2.2.1) (z1.2.2.2.2.2.2.1)) true))
noncomputable abbrev B5B:D9 B1N→Bool:=fun d=>A8Q d.1.1 d.1.2.1 d.1.2.2.1 d.1.2.2.2.1 d.1.2.2.2.2.1 d.2.1
noncomputable abbrev D1c:Nat→St→Option Tree:=fun b=>match b with | 0=>B79 | _=>fun _=>none
theorem C9m:A7X true G81 (D1c) Tryz.f62 B1N B5B B8j:=by
 rintro ⟨⟨a0,⟨a1,⟨a2,⟨a3,⟨a4,_⟩⟩⟩⟩⟩,⟨a5,_⟩⟩ hp
 change A8Q a0 a1 a2 a3 a4 a5=true at hp
 unfold A8Q at hp
 refine Eq.trans (b:=(let z1:=A8h a0 a1 a2 a3 a4 a5;cond (z1.1==0) (cond (Q4 (z1.2.2.2.2.2.1) (z1.2.2.2.2.2.2.1)) (cond (!(B3D a0 a1 a2 a3 a4 a5)) (cond (A9g (z1.2.2.2.2.1) (z1.2.2.2.2.2.2.1)) (cond (B67 a0 a1 a2 a3 a4 a5) (cond (decide ((z1.2.2.2.2.2.2.2)≤(60:Int))) (some (A75 (decide ((wI ((wI ((((z1.2.2.1).length:Nat):Int)+(((z1.2.2.2.2.2.1).length:Nat):Int)))+(2:Int)))≤(300:Int))))) (some (A75 false))) (some (A75 false))) none) (some (A75 false))) none) none)) (by kernel_rfl) ?_
 exact (A7Y hp fun hp=>(A7Y hp fun hp=>(K9 A75 hp (fun hp=>(A70 hp fun _h=>(Q7 A75 (fun _h=>(Q7 A75 (fun _h=>rfl) (fun _h=>rfl))) (fun _h=>rfl)))) (fun hp=>rfl))))
theorem D1q:aPP 62 (A19 B1N B5B B8j):=pcD true G81 (hl1 (i:=0) (by kernel_rfl) C7u) C9m
noncomputable def S82:Tab:=Tab.add S81 62 (liftH B1N B5B B8j)
noncomputable def E03:FuncId→Bool:=qadd E02 62
theorem G82:aPG S82 E03:=G81.addMQ D1q.liftH (A7m _ _ _) (cbl Tryz.f62) (A7n fun _=>rfl)

abbrev B3c:SS:=⟨[.ptr 0 0 1 0,tI,.t false tq4],[.box [tI,.all 1 3,tI,.all 2 2,.all 3 3],.deep 80 [54] tq5,.rows 82 true J6,.deep 80 [54] tq5]⟩
noncomputable def B70 (x1:Int) (x2:Lq2) (p0 p2:Int) (h1:Lq1) (h2:LBBe) (h3:Lq1):Int×Int×Int×Lq1×LBBe×Lq1:=let z1:=A9b p0 h1 p2 h2 h3 x1;let z2:=J5 x2;(cond (!(C1a x1)) ((5:Int),p0,p2,h1,h2,h3) (cond (!(B8o x2)) ((5:Int),p0,p2,h1,h2,h3) (cond (z1 != (2:Int)) (z1,p0,p2,h1,h2,h3) (cond (!(B2I p0 h1 p2 h2 h3 x2)) ((2:Int),p0,p2,h1,h2,h3) ((1:Int),p0,p2,h1++[((1:Int),(x1,z2))],h2,h3++[((1:Int),(x1,z2))])))))
noncomputable abbrev X5 (r:Int×Int×Int×Lq1×LBBe×Lq1):AV×List AObj×List Nat:=((ti r.1),[(.box [(ti r.2.1),(.all 1 3),(ti r.2.2.1),(.all 2 2),(.all 3 3)]),(.deep 80 [54] tq5 r.2.2.2.1),(.rows 82 true J6 r.2.2.2.2.1),(.deep 80 [54] tq5 r.2.2.2.2.2)],[1,3])
noncomputable abbrev C4c:B3c.den→AV×List AObj×List Nat:=fun d=>X5 (B70 d.1.2.1 d.1.2.2.1 d.2.1.1 d.2.1.2.2.1 d.2.2.1 d.2.2.2.1 d.2.2.2.2.1)
noncomputable def A8R (x1:Int) (x2:Lq2) (p0 p2:Int) (h1:Lq1) (h2:LBBe) (h3:Lq1):Bool:=let z1:=J0 x2;let z2:=J5 x2;cond (!(C1a x1)) true ((B7l x2)&&(cond (!(B8o x2)) true ((W9 p0 h1 p2 h2 h3 x1)&&(cond ((A9b p0 h1 p2 h2 h3 x1) != (2:Int)) true ((A8Q p0 h1 p2 h2 h3 x2)&&(cond (!(B2I p0 h1 p2 h2 h3 x2)) true (z1&&((decide ((h1.length+[((1:Int),(x1,z2))].length)*40≤MAXB))&&(z1&&(decide ((h3.length+[((1:Int),(x1,z2))].length)*40≤MAXB)))))))))))
noncomputable abbrev C1h:B3c.den→Bool:=fun d=>A8R d.1.2.1 d.1.2.2.1 d.2.1.1 d.2.1.2.2.1 d.2.2.1 d.2.2.2.1 d.2.2.2.2.1
theorem C9n:A7V false [] [1,3] [] (G82.deep ow) aLn Tryz.f26 B3c C1h C4c:=by
 rintro ⟨⟨_,x1,x2,_⟩,⟨⟨p0,_,p2,_,_,_⟩,h1,h2,h3,_⟩⟩ hp
 change A8R x1 x2 p0 p2 h1 h2 h3=true at hp
 unfold A8R at hp
 refine Eq.trans (b:=(let z1:=J5 x2;let z2:=X5 ((5:Int),p0,p2,h1,h2,h3);let z3:=A9b p0 h1 p2 h2 h3 x1;let z4:=J0 x2;cond (!(C1a x1)) (some z2) (cond (B7l x2) (cond (!(B8o x2)) (some z2) (cond (W9 p0 h1 p2 h2 h3 x1) (cond (z3 != (2:Int)) (some (X5 (z3,p0,p2,h1,h2,h3))) (cond (A8Q p0 h1 p2 h2 h3 x2) (cond (!(B2I p0 h1 p2 h2 h3 x2)) (some (X5 ((2:Int),p0,p2,h1,h2,h3))) (cond z4 (cond (decide ((h1.length+[((1:Int),(x1,z1))].length)*40≤MAXB)) (cond z4 (cond (decide ((h3.length+[((1:Int),(x1,z1))].length)*40≤MAXB)) (some (X5 ((1:Int),p0,p2,h1++[((1:Int),(x1,z1))],h2,h3++[((1:Int),(x1,z1))]))) none) none) none) none)) none)) none)) none))) (by kernel_rfl) ?_
 exact (K9 X5 hp (fun hp=>rfl) (fun hp=>(A7Y hp fun hp=>(K9 X5 hp (fun hp=>rfl) (fun hp=>(A7Y hp fun hp=>(K9 X5 hp (fun hp=>rfl) (fun hp=>(A7Y hp fun hp=>(K9 X5 hp (fun hp=>rfl) (fun hp=>(A7Y hp fun hp=>(A7Y hp fun hp=>(A7Y hp fun hp=>(A70 hp fun _h=>rfl)))))))))))))))
noncomputable abbrev C4e:=win F0 (msum B3c C1h C4c)
theorem D1r:aPM 26 C4e:=(mcE false [] [1,3] []  (G82.deep ow) hlz C9n).win F0
noncomputable def S83:Tab:=Tab.add S82 26 (C4e)
noncomputable def E04:FuncId→Bool:=E03
theorem G83:aPG S83 E04:=G82.addM D1r (A7y _) (cbl Tryz.f26) (by kernel_rfl)

abbrev C5w:List PSh:=[.agg [(.int .i64),tq3,(.int .i64),tq6,tq3],.t (.int .i64),.t tq4]
noncomputable def D0o (a0:Int) (a1:Lq1) (a2:Int) (a3:LBBe) (a4:Lq1) (a5:Int) (a6:Lq2):=let z1:=B2m a0 a1 a2 a3 a4;B70 a5 a6 (z1.1) (z1.2.1) (z1.2.2.1) (z1.2.2.2.1) (z1.2.2.2.2)
noncomputable def D4C (a0:Int) (a1:Lq1) (a2:Int) (a3:LBBe) (a4:Lq1) (a5:Int) (a6:Lq2):Int×Int×Int×Lq1×LBBe×Lq1:=let z1:=D0o a0 a1 a2 a3 a4 a5 a6;let z2:=B2m a0 a1 a2 a3 a4;(cond (!(B0P a0 a1 a2 a3 a4)) ((z2.1),(z2.2.1),(5:Int),(z2.2.2.1),(z2.2.2.2.1),(z2.2.2.2.2)) ((z1.2.1),(z1.2.2.1),(z1.1),(z1.2.2.2.1),(z1.2.2.2.2.1),(z1.2.2.2.2.2)))
noncomputable abbrev C9s (r:Int×Int×Int×Lq1×LBBe×Lq1):AV×List AObj:=((.tup [(.agg [(ti r.1),(.all 0 3),(ti r.2.1),(.all 1 2),(.all 2 3)]),(ti r.2.2.1)]),[(.deep 80 [54] tq5 r.2.2.2.1),(.rows 82 true J6 r.2.2.2.2.1),(.deep 80 [54] tq5 r.2.2.2.2.2)])
noncomputable abbrev D2L:D9 C5w→AV×List AObj:=fun d=>C9s (D4C d.1.1 d.1.2.1 d.1.2.2.1 d.1.2.2.2.1 d.1.2.2.2.2.1 d.2.1 d.2.2.1)
noncomputable def B76 (a0:Int) (a1:Lq1) (a2:Int) (a3:LBBe) (a4:Lq1) (a5:Int) (a6:Lq2):Bool:=let z1:=B2m a0 a1 a2 a3 a4;(A9F a0 a1 a2 a3 a4)&&((B2o a0 a1 a2 a3 a4)&&(cond (!(B0P a0 a1 a2 a3 a4)) true (A8R a5 a6 (z1.1) (z1.2.1) (z1.2.2.1) (z1.2.2.2.1) (z1.2.2.2.2))))
noncomputable abbrev C7B:D9 C5w→Bool:=fun d=>B76 d.1.1 d.1.2.1 d.1.2.2.1 d.1.2.2.2.1 d.1.2.2.2.2.1 d.2.1 d.2.2.1
theorem D7y:A7X false (G83.deep ow) aLn Tryz.f9 C5w C7B D2L:=by
 rintro ⟨⟨a0,⟨a1,⟨a2,⟨a3,⟨a4,_⟩⟩⟩⟩⟩,⟨a5,⟨a6,_⟩⟩⟩ hp
 change B76 a0 a1 a2 a3 a4 a5 a6=true at hp
 unfold B76 at hp
 refine Eq.trans (b:=(let z1:=B2m a0 a1 a2 a3 a4;let z2:=D0o a0 a1 a2 a3 a4 a5 a6;cond (A9F a0 a1 a2 a3 a4) (cond (B2o a0 a1 a2 a3 a4) (cond (!(B0P a0 a1 a2 a3 a4)) (some (C9s ((z1.1),(z1.2.1),(5:Int),(z1.2.2.1),(z1.2.2.2.1),(z1.2.2.2.2)))) (cond (A8R a5 a6 (z1.1) (z1.2.1) (z1.2.2.1) (z1.2.2.2.1) (z1.2.2.2.2)) (some (C9s ((z2.2.1),(z2.2.2.1),(z2.1),(z2.2.2.2.1),(z2.2.2.2.2.1),(z2.2.2.2.2.2)))) none)) none) none)) (by kernel_rfl) ?_
 exact (A7Y hp fun hp=>(A7Y hp fun hp=>(K9 C9s hp (fun hp=>rfl) (fun hp=>(A70 hp fun _h=>rfl)))))
theorem D8Y:aPP 9 (A19 C5w C7B D2L):=pcD false (G83.deep ow) hlz D7y
noncomputable def S84:Tab:=Tab.add S83 9 (lift (A19 C5w C7B D2L))
noncomputable def E05:FuncId→Bool:=E04
theorem G84:aPG S84 E05:=G83.add D8Y (cbl Tryz.f9) (by kernel_rfl)

abbrev C5A:List PSh:=[.agg [(.int .i64),.str,.str],.agg [(.int .i64),.str,.str]]
noncomputable def D18 (a0:Int) (a1 a2:ByteArray) (a3:Int) (a4 a5:ByteArray):Bool:=(cond (a0 != a3) false (cond (!(a1.toList==a4.toList)) false (cond (!(a2.toList==a5.toList)) false true)))
noncomputable abbrev B7U (r:Bool):AV×List AObj:=((.t true .bool r),[])
noncomputable abbrev D2P:D9 C5A→AV×List AObj:=fun d=>B7U (D18 d.1.1 d.1.2.1 d.1.2.2.1 d.2.1.1 d.2.1.2.1 d.2.1.2.2.1)
noncomputable abbrev C7F:D9 C5A→Bool:=fun d=>true
theorem D7C:A7X true G84 aLn Tryz.f29 C5A C7F D2P:=by
 rintro ⟨⟨a0,⟨a1,⟨a2,_⟩⟩⟩,⟨⟨a3,⟨a4,⟨a5,_⟩⟩⟩,_⟩⟩ hp
 refine Eq.trans (b:=(cond (a0 != a3) (some (B7U false)) (cond (!(a1.toList==a4.toList)) (some (B7U false)) (cond (!(a2.toList==a5.toList)) (some (B7U false)) (some (B7U true)))))) (by kernel_rfl) ?_
 exact (Q7 B7U (fun _h=>rfl) (fun _h=>(Q7 B7U (fun _h=>rfl) (fun _h=>(Q7 B7U (fun _h=>rfl) (fun _h=>rfl))))))
theorem D82:aPP 29 (A19 C5A C7F D2P):=pcD true G84 hlz D7C
noncomputable def S85:Tab:=Tab.add S84 29 (lift (A19 C5A C7F D2P))
noncomputable def E06:FuncId→Bool:=qadd E05 29
theorem G85:aPG S85 E06:=G84.addQ D82 (cbl Tryz.f29) (fun _=>rfl)


noncomputable def B2k (x0 x1:Lq2) (i:Nat):Bool:=!(!(D18 ((x0.getD i ((0:Int),(bE,bE))).1) (((x0.getD i ((0:Int),(bE,bE))).2).1) (((x0.getD i ((0:Int),(bE,bE))).2).2) ((x1.getD i ((0:Int),(bE,bE))).1) (((x1.getD i ((0:Int),(bE,bE))).2).1) (((x1.getD i ((0:Int),(bE,bE))).2).2)))
abbrev C1N:List PSh:=[.t tq4,.t tq4]
abbrev B2d:SS:=⟨(.t false tq4::.t false tq4::.junk::.junk::.junk::tI::C8W),[]⟩
abbrev C5n:SS:=⟨(.junk::.junk::.junk::.junk::.t true .bool::D22),[]⟩
abbrev C5o:SS:=⟨(.junk::D4H),[]⟩
noncomputable def C3c (x0 x1:Lq2) (x5:Int):RT B2d.den:=let z1:=x0.getD x5.toNat ((0:Int),(bE,bE));let z2:=x1.getD x5.toNat ((0:Int),(bE,bE));(.br (decide (x5<(x0.length:Int))) (.br (decide (0≤x5∧x5<(x0.length:Int))) (.br (decide (0≤x5∧x5<(x1.length:Int))) (.br (!(D18 (z1.1) ((z1.2).1) ((z1.2).2) (z2.1) ((z2.2).1) ((z2.2).2))) (.done .ret C5n (((),(),(),(),false,u23),())) (.next ((x0,x1,(),(),(),wI (x5+(1:Int)),u22),()))) .fail) .fail) (.done (.exit 0) C5o ((u28),())))
noncomputable def B6G (x0 x1:Lq2) (x5:Int):CT:=(.br (decide (0≤x5)&&(decide (x0.length=x1.length)&&okL x0)) (.br (A4W (B2k x0 x1) (x0.length - x5.toNat) x5.toNat) (.done (.exit 0) C5o ((u28),())) (.done .ret C5n (((),(),(),(),false,u23),()))) .fail)
noncomputable abbrev B5i:B2d.den→RT B2d.den:=(fun d=>C3c d.1.1 d.1.2.1 d.1.2.2.2.2.2.1)
noncomputable abbrev C8v (x0 x1:Lq2) (x5:Int):B2d.den:=((x0,x1,(),(),(),x5,u22),())
noncomputable def C32:Code:=((D5 0 (A1o Tryz.f11)).getD 0 (0,.skip)).2
theorem D5E (x0 x1:Lq2) (x5:Int):(B6G x0 x1 x5).val (D:=B2d.den)=.fail∨Runs B5i (C8v x0 x1 x5) (B6G x0 x1 x5).val:=by
 cases hc:(decide (0≤x5)&&(decide (x0.length=x1.length)&&okL x0)) with
 | false=>left;simp only [B6G,CT.val,hc,cond_false]
 | true =>
  right
  simp only [B6G,CT.val,hc,cond_true]
  simp only [Bool.and_eq_true,decide_eq_true_eq] at hc
  obtain ⟨i,rfl⟩:=Int.eq_ofNat_of_zero_le hc.1
  have hs:=A7L hc.2.2
  simp only [Int.toNat_natCast]
  refine Runs.scan (fun j=>C8v x0 x1 (j:Int)) (x0.length) (B2k x0 x1) (fun i hi=>?_) (fun i hi=>?_) ⟨_,_,_,rfl,by simp⟩ ⟨_,_,_,rfl,by simp⟩ _ _ rfl
  ·
   have h0a:decide ((i:Int)<(x0.length:Int))=true:=decide_eq_true (by omega)
   have h0b:decide (0≤(i:Int)∧(i:Int)<(x0.length:Int))=true:=decide_eq_true (by omega)
   simp only [B5i,C3c,RT.val,h0a,h0b,cond_true,A7T i (by omega),Int.toNat_natCast]
   have h9:decide (0≤(i:Int)∧(i:Int)<(x1.length:Int))=true:=decide_eq_true (by omega)
   simp only [h9,cond_true]
   simp only [B2k]
   generalize (!(D18 ((x0.getD i ((0:Int),((⟨#[]⟩:ByteArray),(⟨#[]⟩:ByteArray)))).1) (((x0.getD i ((0:Int),((⟨#[]⟩:ByteArray),(⟨#[]⟩:ByteArray)))).2).1) (((x0.getD i ((0:Int),((⟨#[]⟩:ByteArray),(⟨#[]⟩:ByteArray)))).2).2) ((x1.getD i ((0:Int),((⟨#[]⟩:ByteArray),(⟨#[]⟩:ByteArray)))).1) (((x1.getD i ((0:Int),((⟨#[]⟩:ByteArray),(⟨#[]⟩:ByteArray)))).2).1) (((x1.getD i ((0:Int),((⟨#[]⟩:ByteArray),(⟨#[]⟩:ByteArray)))).2).2)))=c
   cases c<;>rfl
  ·have h1:decide ((i:Int)<(x0.length:Int))=false:=decide_eq_false (by omega)
   simp only [B5i,C3c,RT.val,h1,cond_false]
theorem D3j:RdA G85 aLn 0 C32 B2d 0 [] (kepts [4] [(0,[])]) (fun d=>(B5i d).opt 0 []):=by
 intro d
 kernel_rfl
noncomputable abbrev C6L:St→Option Tree:=B2d.say 0 [] [] (fun d=>B6G d.1.1 d.1.2.1 d.1.2.2.2.2.2.1)
theorem D4O:aPL C6L C32:=SS.wp2 hlz [] B5i D3j (fun d=>rfl) _ (fun d=>D5E d.1.1 d.1.2.1 d.1.2.2.2.2.2.1)
noncomputable def C0p (a0 a1:Lq2):Bool:=(cond ((a0.length:Int) != (a1.length:Int)) false (cond (A4W (B2k a0 a1) (a0.length - (0:Int).toNat) (0:Int).toNat) true false))
noncomputable abbrev B86 (r:Bool):AV×List AObj:=((.t true .bool r),[])
noncomputable abbrev C96:D9 C1N→AV×List AObj:=fun d=>B86 (C0p d.1 d.2.1)
noncomputable def B7n (a0 a1:Lq2):Bool:=okL a0
noncomputable abbrev C4Z:D9 C1N→Bool:=fun d=>B7n d.1 d.2.1
noncomputable abbrev D7T:Nat→St→Option Tree:=fun b=>match b with | 0=>C6L | _=>fun _=>none
theorem D6t:A7X true G85 (D7T) Tryz.f11 C1N C4Z C96:=by
 rintro ⟨a0,⟨a1,_⟩⟩ hp
 change B7n a0 a1=true at hp
 unfold B7n at hp
 refine Eq.trans (b:=(cond ((a0.length:Int) != (a1.length:Int)) (some (B86 false)) (cond (decide (0≤(0:Int))&&(decide (a0.length=a1.length)&&okL a0)) (cond (A4W (B2k a0 a1) (a0.length - (0:Int).toNat) (0:Int).toNat) (some (B86 true)) (some (B86 false))) none))) (by kernel_rfl) ?_
 exact (Q7 B86 (fun _h=>rfl) (fun _h=>(A70 (by simp only [okL,Bool.and_eq_true,decide_eq_true_eq] at hp ⊢;simp at _h;exact ⟨Int.le_refl 0,by omega,hp⟩) (fun _h=>(Q7 B86 (fun _h=>rfl) (fun _h=>rfl))))))
theorem D79:aPP 11 (A19 C1N C4Z C96):=pcD true G85 (hl1 (i:=0) (by kernel_rfl) D4O) D6t
noncomputable def S86:Tab:=Tab.add S85 11 (lift (A19 C1N C4Z C96))
noncomputable def E07:FuncId→Bool:=qadd E06 11
theorem G86:aPG S86 E07:=G85.addQ D79 (cbl Tryz.f11) (fun _=>rfl)

abbrev C1O:List PSh:=[.agg [(.int .i64),(.int .i64),tq4],.agg [(.int .i64),(.int .i64),tq4]]
noncomputable def D0q (a0 a1:Int) (a2:Lq2) (a3 a4:Int) (a5:Lq2):Bool:=(cond (a0 != a3) false (cond (a1 != a4) false (cond (!(C0p a2 a5)) false true)))
noncomputable abbrev B42 (r:Bool):AV×List AObj:=((.t true .bool r),[])
noncomputable abbrev C97:D9 C1O→AV×List AObj:=fun d=>B42 (D0q d.1.1 d.1.2.1 d.1.2.2.1 d.2.1.1 d.2.1.2.1 d.2.1.2.2.1)
noncomputable def B7o (a0 a1:Int) (a2:Lq2) (a3 a4:Int) (a5:Lq2):Bool:=okL a2
noncomputable abbrev C40:D9 C1O→Bool:=fun d=>B7o d.1.1 d.1.2.1 d.1.2.2.1 d.2.1.1 d.2.1.2.1 d.2.1.2.2.1
theorem D6u:A7X true G86 aLn Tryz.f64 C1O C40 C97:=by
 rintro ⟨⟨a0,⟨a1,⟨a2,_⟩⟩⟩,⟨⟨a3,⟨a4,⟨a5,_⟩⟩⟩,_⟩⟩ hp
 change B7o a0 a1 a2 a3 a4 a5=true at hp
 unfold B7o at hp
 refine Eq.trans (b:=(cond (a0 != a3) (some (B42 false)) (cond (a1 != a4) (some (B42 false)) (cond (B7n a2 a5) (cond (!(C0p a2 a5)) (some (B42 false)) (some (B42 true))) none)))) (by kernel_rfl) ?_
 exact (Q7 B42 (fun _h=>rfl) (fun _h=>(Q7 B42 (fun _h=>rfl) (fun _h=>(A70 (by first | rfl | decide | exact hp | (simp only [Bool.and_eq_true] at hp;simp only [hp];done) | (simp [*];done) | (simp [okL] at hp;simp [okL,MAXB];omega) | (simp_all;done) | (simp at *;omega)) (fun _h=>(Q7 B42 (fun _h=>rfl) (fun _h=>rfl))))))))
theorem D8a:aPP 64 (A19 C1O C40 C97):=pcD true G86 hlz D6u
noncomputable def S87:Tab:=Tab.add S86 64 (lift (A19 C1O C40 C97))
noncomputable def E08:FuncId→Bool:=qadd E07 64
theorem G87:aPG S87 E08:=G86.addQ D8a (cbl Tryz.f64) (fun _=>rfl)

abbrev B8Q:List PSh:=[.t tq3,.t tq3]
abbrev B0x:SS:=⟨(.t false tq3::.t false tq3::.junk::.junk::.junk::tI::C8W),[]⟩
abbrev C3N:SS:=⟨(.junk::.junk::.junk::.junk::.t true .bool::D22),[]⟩
abbrev C3O:SS:=⟨(.junk::D4H),[]⟩
noncomputable def C6X (x0 x1:Lq1) (x5:Int):RT B0x.den:=let z1:=x0.getD x5.toNat ((0:Int),((0:Int),[]));let z2:=x1.getD x5.toNat ((0:Int),((0:Int),[]));(.br (decide (x5<(x0.length:Int))) (.br (decide (0≤x5∧x5<(x0.length:Int))) (.br (decide (0≤x5∧x5<(x1.length:Int))) (.br (B7o (z1.1) ((z1.2).1) ((z1.2).2) (z2.1) ((z2.2).1) ((z2.2).2)) (.br (!(D0q (z1.1) ((z1.2).1) ((z1.2).2) (z2.1) ((z2.2).1) ((z2.2).2))) (.done .ret C3N (((),(),(),(),false,u23),())) (.next ((x0,x1,(),(),(),wI (x5+(1:Int)),u22),()))) .fail) .fail) .fail) (.done (.exit 0) C3O ((u28),())))
abbrev B7K:=(Lq1)×Lq1×(Int)
abbrev B0r:=Nat×(Bool)
def B53:B0r:=(99,(false:Bool))
noncomputable def B6b (x0 x1:Lq1) (x5:Int):B7K ⊕ B0r:=let z1:=x0.getD x5.toNat ((0:Int),((0:Int),[]));let z2:=x1.getD x5.toNat ((0:Int),((0:Int),[]));(cond (decide (x5<(x0.length:Int))) (cond (decide (0≤x5∧x5<(x0.length:Int))) (cond (decide (0≤x5∧x5<(x1.length:Int))) (cond (B7o (z1.1) ((z1.2).1) ((z1.2).2) (z2.1) ((z2.2).1) ((z2.2).2)) (cond (!(D0q (z1.1) ((z1.2).1) ((z1.2).2) (z2.1) ((z2.2).1) ((z2.2).2))) (.inr (0,false)) (.inl (x0,x1,wI (x5+(1:Int))))) (.inr B53)) (.inr B53)) (.inr B53)) (.inr (1,(false:Bool))))
noncomputable def B3u (x0 x1:Lq1) (x5:Int):B0r:=itX (fun v:B7K=>B6b v.1 v.2.1 v.2.2) B53 (x0,x1,x5)
noncomputable def B9U (a:B0r):CT:=(.br (a.1==0) (.done .ret C3N (((),(),(),(),a.2,u23),())) (.br (a.1==1) (.done (.exit 0) C3O ((u28),())) .fail))
noncomputable def D38 (x0 x1:Lq1) (x5:Int):CT:=B9U (B3u x0 x1 x5)
noncomputable abbrev C0L:B0x.den→RT B0x.den:=(fun d=>C6X d.1.1 d.1.2.1 d.1.2.2.2.2.2.1)
noncomputable def C13:Code:=((D5 0 (A1o Tryz.f27)).getD 0 (0,.skip)).2
noncomputable abbrev C6n (v:B7K):B0x.den:=((v.1,v.2.1,(),(),(),v.2.2,u22),())
theorem D3y:(∀ v:B7K,(C6X v.1 v.2.1 v.2.2).val=A6W C6n B9U (B6b v.1 v.2.1 v.2.2))∧∀ a:B0r,CEnd B0x.den (B9U a):=⟨fun v=>(A72 (A72 (A72 (A72 (A72 rfl rfl) rfl) rfl) rfl) rfl),fun a=>(A7P aCD (A7P aCD A7R))⟩
theorem D1D:RdA G87 aLn 0 C13 B0x 0 [] (kepts [4] [(0,[])]) (fun d=>(C0L d).opt 0 []):=by
 intro d
 kernel_rfl
noncomputable abbrev C4r:St→Option Tree:=B0x.say 0 [] [] (fun d=>D38 d.1.1 d.1.2.1 d.1.2.2.2.2.2.1)
theorem D26:aPL C4r C13:=SS.wp2 hlz [] C0L D1D (fun d=>rfl) _ (fun d=>Runs.ofI2 (step:=C0L) C6n D3y rfl (d.1.1,d.1.2.1,d.1.2.2.2.2.2.1))
noncomputable def B71 (a0 a1:Lq1):Bool:=let z1:=B3u a0 a1 (0:Int);(cond ((a0.length:Int) != (a1.length:Int)) false (cond (z1.1==0) (z1.2) true))
noncomputable abbrev B6h (r:Bool):AV×List AObj:=((.t true .bool r),[])
noncomputable abbrev C7i:D9 B8Q→AV×List AObj:=fun d=>B6h (B71 d.1 d.2.1)
noncomputable def B1o (a0 a1:Lq1):Bool:=let z1:=B3u a0 a1 (0:Int);cond ((a0.length:Int) != (a1.length:Int)) true (cond (z1.1==0) true (z1.1==1))
noncomputable abbrev C2C:D9 B8Q→Bool:=fun d=>B1o d.1 d.2.1
noncomputable abbrev D6T:Nat→St→Option Tree:=fun b=>match b with | 0=>C4r | _=>fun _=>none
theorem D5f:A7X true G87 (D6T) Tryz.f27 B8Q C2C C7i:=by
 rintro ⟨a0,⟨a1,_⟩⟩ hp
 change B1o a0 a1=true at hp
 unfold B1o at hp
 refine Eq.trans (b:=(let z1:=B3u a0 a1 (0:Int);cond ((a0.length:Int) != (a1.length:Int)) (some (B6h false)) (cond (z1.1==0) (some (B6h (z1.2))) (cond (z1.1==1) (some (B6h true)) none)))) (by kernel_rfl) ?_
 exact (K9 B6h hp (fun hp=>rfl) (fun hp=>(K9 B6h hp (fun hp=>rfl) (fun hp=>(A70 hp fun _h=>rfl)))))
theorem D69:aPP 27 (A19 B8Q C2C C7i):=pcD true G87 (hl1 (i:=0) (by kernel_rfl) D26) D5f
noncomputable def S88:Tab:=Tab.add S87 27 (lift (A19 B8Q C2C C7i))
noncomputable def E09:FuncId→Bool:=qadd E08 27
theorem G88:aPG S88 E09:=G87.addQ D69 (cbl Tryz.f27) (fun _=>rfl)

abbrev B8P:List PSh:=[.agg [.str,.str],.agg [.str,.str]]
noncomputable def C3A (a0 a1 a2 a3:ByteArray):Bool:=(cond (!(a0.toList==a2.toList)) false (cond (!(a1.toList==a3.toList)) false true))
noncomputable abbrev B6g (r:Bool):AV×List AObj:=((.t true .bool r),[])
noncomputable abbrev C7h:D9 B8P→AV×List AObj:=fun d=>B6g (C3A d.1.1 d.1.2.1 d.2.1.1 d.2.1.2.1)
noncomputable abbrev C2B:D9 B8P→Bool:=fun d=>true
theorem D5e:A7X true G88 aLn Tryz.f65 B8P C2B C7h:=by
 rintro ⟨⟨a0,⟨a1,_⟩⟩,⟨⟨a2,⟨a3,_⟩⟩,_⟩⟩ hp
 refine Eq.trans (b:=(cond (!(a0.toList==a2.toList)) (some (B6g false)) (cond (!(a1.toList==a3.toList)) (some (B6g false)) (some (B6g true))))) (by kernel_rfl) ?_
 exact (Q7 B6g (fun _h=>rfl) (fun _h=>(Q7 B6g (fun _h=>rfl) (fun _h=>rfl))))
theorem D68:aPP 65 (A19 B8P C2B C7h):=pcD true G88 hlz D5e
noncomputable def S89:Tab:=Tab.add S88 65 (lift (A19 B8P C2B C7h))
noncomputable def E1a:FuncId→Bool:=qadd E09 65
theorem G89:aPG S89 E1a:=G88.addQ D68 (cbl Tryz.f65) (fun _=>rfl)


noncomputable def A0n (x0 x1:LBBe) (i:Nat):Bool:=!(!(C3A ((x0.getD i (bE,bE)).1) ((x0.getD i (bE,bE)).2) ((x1.getD i (bE,bE)).1) ((x1.getD i (bE,bE)).2)))
abbrev B6w:List PSh:=[.t tq6,.t tq6]
abbrev A9z:SS:=⟨(.t false tq6::.t false tq6::.junk::.junk::.junk::tI::C8W),[]⟩
abbrev C1E:SS:=⟨(.junk::.junk::.junk::.junk::.t true .bool::D22),[]⟩
abbrev C1F:SS:=⟨(.junk::D4H),[]⟩
noncomputable def B8w (x0 x1:LBBe) (x5:Int):RT A9z.den:=let z1:=x0.getD x5.toNat (bE,bE);let z2:=x1.getD x5.toNat (bE,bE);(.br (decide (x5<(x0.length:Int))) (.br (decide (0≤x5∧x5<(x0.length:Int))) (.br (decide (0≤x5∧x5<(x1.length:Int))) (.br (!(C3A (z1.1) (z1.2) (z2.1) (z2.2))) (.done .ret C1E (((),(),(),(),false,u23),())) (.next ((x0,x1,(),(),(),wI (x5+(1:Int)),u22),()))) .fail) .fail) (.done (.exit 0) C1F ((u28),())))
noncomputable def B3e (x0 x1:LBBe) (x5:Int):CT:=(.br (decide (0≤x5)&&(decide (x0.length=x1.length)&&okL x0)) (.br (A4W (A0n x0 x1) (x0.length - x5.toNat) x5.toNat) (.done (.exit 0) C1F ((u28),())) (.done .ret C1E (((),(),(),(),false,u23),()))) .fail)
noncomputable abbrev B1V:A9z.den→RT A9z.den:=(fun d=>B8w d.1.1 d.1.2.1 d.1.2.2.2.2.2.1)
noncomputable abbrev C4i (x0 x1:LBBe) (x5:Int):A9z.den:=((x0,x1,(),(),(),x5,u22),())
noncomputable def C04:Code:=((D5 0 (A1o Tryz.f28)).getD 0 (0,.skip)).2
theorem D2r (x0 x1:LBBe) (x5:Int):(B3e x0 x1 x5).val (D:=A9z.den)=.fail∨Runs B1V (C4i x0 x1 x5) (B3e x0 x1 x5).val:=by
 cases hc:(decide (0≤x5)&&(decide (x0.length=x1.length)&&okL x0)) with
 | false=>left;simp only [B3e,CT.val,hc,cond_false]
 | true =>
  right
  simp only [B3e,CT.val,hc,cond_true]
  simp only [Bool.and_eq_true,decide_eq_true_eq] at hc
  obtain ⟨i,rfl⟩:=Int.eq_ofNat_of_zero_le hc.1
  have hs:=A7L hc.2.2
  simp only [Int.toNat_natCast]
  refine Runs.scan (fun j=>C4i x0 x1 (j:Int)) (x0.length) (A0n x0 x1) (fun i hi=>?_) (fun i hi=>?_) ⟨_,_,_,rfl,by simp⟩ ⟨_,_,_,rfl,by simp⟩ _ _ rfl
  ·
   have h0a:decide ((i:Int)<(x0.length:Int))=true:=decide_eq_true (by omega)
   have h0b:decide (0≤(i:Int)∧(i:Int)<(x0.length:Int))=true:=decide_eq_true (by omega)
   simp only [B1V,B8w,RT.val,h0a,h0b,cond_true,A7T i (by omega),Int.toNat_natCast]
   have h9:decide (0≤(i:Int)∧(i:Int)<(x1.length:Int))=true:=decide_eq_true (by omega)
   simp only [h9,cond_true]
   simp only [A0n]
   generalize (!(C3A ((x0.getD i ((⟨#[]⟩:ByteArray),(⟨#[]⟩:ByteArray))).1) ((x0.getD i ((⟨#[]⟩:ByteArray),(⟨#[]⟩:ByteArray))).2) ((x1.getD i ((⟨#[]⟩:ByteArray),(⟨#[]⟩:ByteArray))).1) ((x1.getD i ((⟨#[]⟩:ByteArray),(⟨#[]⟩:ByteArray))).2)))=c
   cases c<;>rfl
  ·have h1:decide ((i:Int)<(x0.length:Int))=false:=decide_eq_false (by omega)
   simp only [B1V,B8w,RT.val,h1,cond_false]
theorem D0F:RdA G89 aLn 0 C04 A9z 0 [] (kepts [4] [(0,[])]) (fun d=>(B1V d).opt 0 []):=by
 intro d
 kernel_rfl
noncomputable abbrev C2Y:St→Option Tree:=A9z.say 0 [] [] (fun d=>B3e d.1.1 d.1.2.1 d.1.2.2.2.2.2.1)
theorem D1w:aPL C2Y C04:=SS.wp2 hlz [] B1V D0F (fun d=>rfl) _ (fun d=>D2r d.1.1 d.1.2.1 d.1.2.2.2.2.2.1)
noncomputable def B5a (a0 a1:LBBe):Bool:=(cond ((a0.length:Int) != (a1.length:Int)) false (cond (A4W (A0n a0 a1) (a0.length - (0:Int).toNat) (0:Int).toNat) true false))
noncomputable abbrev B4l (r:Bool):AV×List AObj:=((.t true .bool r),[])
noncomputable abbrev C4I:D9 B6w→AV×List AObj:=fun d=>B4l (B5a d.1 d.2.1)
noncomputable def B2p (a0 a1:LBBe):Bool:=okL a0
noncomputable abbrev C0w:D9 B6w→Bool:=fun d=>B2p d.1 d.2.1
noncomputable abbrev D5y:Nat→St→Option Tree:=fun b=>match b with | 0=>C2Y | _=>fun _=>none
theorem D3J:A7X true G89 (D5y) Tryz.f28 B6w C0w C4I:=by
 rintro ⟨a0,⟨a1,_⟩⟩ hp
 change B2p a0 a1=true at hp
 unfold B2p at hp
 refine Eq.trans (b:=(cond ((a0.length:Int) != (a1.length:Int)) (some (B4l false)) (cond (decide (0≤(0:Int))&&(decide (a0.length=a1.length)&&okL a0)) (cond (A4W (A0n a0 a1) (a0.length - (0:Int).toNat) (0:Int).toNat) (some (B4l true)) (some (B4l false))) none))) (by kernel_rfl) ?_
 exact (Q7 B4l (fun _h=>rfl) (fun _h=>(A70 (by simp only [okL,Bool.and_eq_true,decide_eq_true_eq] at hp ⊢;simp at _h;exact ⟨Int.le_refl 0,by omega,hp⟩) (fun _h=>(Q7 B4l (fun _h=>rfl) (fun _h=>rfl))))))
theorem D5T:aPP 28 (A19 B6w C0w C4I):=pcD true G89 (hl1 (i:=0) (by kernel_rfl) D1w) D3J
noncomputable def S90:Tab:=Tab.add S89 28 (lift (A19 B6w C0w C4I))
noncomputable def E1b:FuncId→Bool:=qadd E1a 28
theorem G90:aPG S90 E1b:=G89.addQ D5T (cbl Tryz.f28) (fun _=>rfl)

abbrev B6x:List PSh:=[.agg [(.int .i64),tq3,(.int .i64),tq6,tq3],.agg [(.int .i64),tq3,(.int .i64),tq6,tq3]]
noncomputable def B69 (a0:Int) (a1:Lq1) (a2:Int) (a3:LBBe) (a4:Lq1) (a5:Int) (a6:Lq1) (a7:Int) (a8:LBBe) (a9:Lq1):Bool:=(cond (a0 != a5) false (cond (!(B71 a1 a6)) false (cond (a2 != a7) false (cond (!(B5a a3 a8)) false (cond (!(B71 a4 a9)) false true)))))
noncomputable abbrev A0e (r:Bool):AV×List AObj:=((.t true .bool r),[])
noncomputable abbrev C4J:D9 B6x→AV×List AObj:=fun d=>A0e (B69 d.1.1 d.1.2.1 d.1.2.2.1 d.1.2.2.2.1 d.1.2.2.2.2.1 d.2.1.1 d.2.1.2.1 d.2.1.2.2.1 d.2.1.2.2.2.1 d.2.1.2.2.2.2.1)
noncomputable def A8k (a0:Int) (a1:Lq1) (a2:Int) (a3:LBBe) (a4:Lq1) (a5:Int) (a6:Lq1) (a7:Int) (a8:LBBe) (a9:Lq1):Bool:=cond (a0 != a5) true ((B1o a1 a6)&&(cond (!(B71 a1 a6)) true (cond (a2 != a7) true ((B2p a3 a8)&&(cond (!(B5a a3 a8)) true (B1o a4 a9))))))
noncomputable abbrev C0x:D9 B6x→Bool:=fun d=>A8k d.1.1 d.1.2.1 d.1.2.2.1 d.1.2.2.2.1 d.1.2.2.2.2.1 d.2.1.1 d.2.1.2.1 d.2.1.2.2.1 d.2.1.2.2.2.1 d.2.1.2.2.2.2.1
theorem D3K:A7X true G90 aLn Tryz.f10 B6x C0x C4J:=by
 rintro ⟨⟨a0,⟨a1,⟨a2,⟨a3,⟨a4,_⟩⟩⟩⟩⟩,⟨⟨a5,⟨a6,⟨a7,⟨a8,⟨a9,_⟩⟩⟩⟩⟩,_⟩⟩ hp
 change A8k a0 a1 a2 a3 a4 a5 a6 a7 a8 a9=true at hp
 unfold A8k at hp
 refine Eq.trans (b:=(cond (a0 != a5) (some (A0e false)) (cond (B1o a1 a6) (cond (!(B71 a1 a6)) (some (A0e false)) (cond (a2 != a7) (some (A0e false)) (cond (B2p a3 a8) (cond (!(B5a a3 a8)) (some (A0e false)) (cond (B1o a4 a9) (cond (!(B71 a4 a9)) (some (A0e false)) (some (A0e true))) none)) none))) none))) (by kernel_rfl) ?_
 exact (K9 A0e hp (fun hp=>rfl) (fun hp=>(A7Y hp fun hp=>(K9 A0e hp (fun hp=>rfl) (fun hp=>(K9 A0e hp (fun hp=>rfl) (fun hp=>(A7Y hp fun hp=>(K9 A0e hp (fun hp=>rfl) (fun hp=>(A70 hp fun _h=>(Q7 A0e (fun _h=>rfl) (fun _h=>rfl)))))))))))))
theorem D5U:aPP 10 (A19 B6x C0x C4J):=pcD true G90 hlz D3K
noncomputable def S91:Tab:=Tab.add S90 10 (lift (A19 B6x C0x C4J))
noncomputable def E1c:FuncId→Bool:=qadd E1b 10
theorem G91:aPG S91 E1c:=G90.addQ D5U (cbl Tryz.f10) (fun _=>rfl)

abbrev B4W:List PSh:=[.t (.int .i64)]
abbrev A73:SS:=⟨(tI::.junk::.junk::.t true .str::D8x),[]⟩
abbrev B5p:SS:=⟨(.junk::.junk::.junk::.t true .str::D8x),[]⟩
noncomputable def B3Y (x0:Int) (x3:ByteArray):RT A73.den:=(.br (decide (x0 > (0:Int))) (.br (decide ((((⟨([IntKind.wrap .u8 (wI ((48:Int)+(Int.tmod x0 (10:Int))))].map fun n=>UInt8.ofNat n.toNat).toArray⟩:ByteArray).size+x3.size:Nat):Int)≤IntKind.i64.max)) (.next ((wI (Int.tdiv x0 (10:Int)),(),(),(⟨([IntKind.wrap .u8 (wI ((48:Int)+(Int.tmod x0 (10:Int))))].map fun n=>UInt8.ofNat n.toNat).toArray⟩:ByteArray)++x3,u17),())) .fail) (.done (.exit 0) B5p (((),(),(),x3,u17),())))
noncomputable def B1R (x0:Int) (x3:ByteArray):CT:=(.br (decide (x0≤1000000000000)&&decide (x3.size≤1000)) (.done (.exit 0) B5p (((),(),(),(C65 13 x0 x3),u17),())) .fail)
noncomputable abbrev Z2:A73.den→RT A73.den:=(fun d=>B3Y d.1.1 d.1.2.2.2.1)
noncomputable abbrev B0Z (x0:Int) (x3:ByteArray):A73.den:=((x0,(),(),x3,u17),())
noncomputable def B83:Code:=((D5 0 (A1o Tryz.f32)).getD 0 (0,.skip)).2
theorem D1i (x0:Int) (x3:ByteArray):(B1R x0 x3).val (D:=A73.den)=.fail∨Runs Z2 (B0Z x0 x3) (B1R x0 x3).val:=by
 cases hc:(decide (x0≤1000000000000)&&decide (x3.size≤1000)) with
 | false=>left;simp only [B1R,CT.val,hc,cond_false]
 | true =>
  right
  simp only [B1R,CT.val,hc,cond_true]
  simp only [Bool.and_eq_true,decide_eq_true_eq] at hc
  have key:∀ (k:Nat) (x:Int) (s:ByteArray),x<10 ^ k→x≤1000000000000→s.size+k≤2000→Runs Z2 (B0Z x s) (((.done (.exit 0) B5p (((),(),(),(C65 k x s),u17),())):CT).val (D:=A73.den)):=by
   intro k
   induction k with
   | zero =>
    intro x s h1 h2 h3
    rw [show (10:Int) ^ 0=1 from rfl] at h1
    have e1:decide (x > (0:Int))=false:=decide_eq_false (by omega)
    refine .done (by simp) ?_
    simp only [Z2,B3Y,RT.val,e1,cond_false,C65]
   | succ k ih =>
    intro x s h1 h2 h3
    rw [Int.pow_succ] at h1
    by_cases hx:x > 0
    ·have e1:decide (x > (0:Int))=true:=decide_eq_true hx
     have e2:decide ((((D2K x).size+s.size:Nat):Int)≤IntKind.i64.max)=true:=decide_eq_true (by rw [C7c,show IntKind.i64.max=9223372036854775807 from rfl];omega)
     have e4:Int.tdiv x (10:Int)=x / 10:=Int.tdiv_eq_ediv_of_nonneg (by omega)
     have e5:wI (Int.tdiv x (10:Int))=x / 10:=by rw [e4];exact A61 (by omega) (by omega)
     have:=ih (wI (Int.tdiv x (10:Int))) (D2K x++s) (by rw [e5];omega) (by rw [e5];omega) (by rw [ByteArray.size_append,C7c];omega)
     refine .next (d':=B0Z (wI (Int.tdiv x (10:Int))) (D2K x++s)) ?_ ?_
     ·have e6 : (Z2 (B0Z x s)).val = cond (decide ((((D2K x).size + s.size : Nat) : Int) ≤ IntKind.i64.max)) (.next (B0Z (wI (Int.tdiv x (10 : Int))) (D2K x ++ s))) .fail := by
       simp only [Z2,B3Y,RT.val,e1,cond_true];rfl
      rw [e6,e2];rfl
     ·have e3:C65 (k+1) x s=C65 k (wI (Int.tdiv x (10:Int))) (D2K x++s):=by simp only [C65,e1,cond_true]
      rw [e3]
      exact this
    ·have e1:decide (x > (0:Int))=false:=decide_eq_false hx
     refine .done (by simp) ?_
     simp only [Z2,B3Y,RT.val,e1,cond_false,C65]
  exact key 13 x0 x3 (by have:=hc.1;rw [show (10:Int) ^ 13=10000000000000 from rfl];omega) hc.1 (by have:=hc.2;omega)
theorem C87:RdA G91 aLn 0 B83 A73 0 [] (kepts [] [(0,[3])]) (fun d=>(Z2 d).opt 0 []):=by
 intro d
 kernel_rfl
noncomputable abbrev C1r:St→Option Tree:=A73.say 0 [] [] (fun d=>B1R d.1.1 d.1.2.2.2.1)
theorem D0u:aPL C1r B83:=SS.wp2 hlz [] Z2 C87 (fun d=>rfl) _ (fun d=>D1i d.1.1 d.1.2.2.2.1)
noncomputable def I9 (a0:Int):ByteArray:=(cond (decide (a0≤(0:Int))) (⟨#[109,48]⟩:ByteArray) ((⟨#[109]⟩:ByteArray)++(C65 13 a0 bE)))
noncomputable abbrev B7W (r:ByteArray):AV×List AObj:=((.t true .str r),[])
noncomputable abbrev C2n:D9 B4W→AV×List AObj:=fun d=>B7W (I9 d.1)
noncomputable def I8 (a0:Int):Bool:=decide (a0≤1000000000000)
noncomputable abbrev B8s:D9 B4W→Bool:=fun d=>I8 d.1
noncomputable abbrev D34:Nat→St→Option Tree:=fun b=>match b with | 0=>C1r | _=>fun _=>none
theorem D1T:A7X true G91 (D34) Tryz.f32 B4W B8s C2n:=by
 rintro ⟨a0,_⟩ hp
 change I8 a0=true at hp
 unfold I8 at hp
 refine Eq.trans (b:=(cond (decide (a0≤(0:Int))) (some (B7W (⟨#[109,48]⟩:ByteArray))) (cond (decide (a0≤1000000000000)&&decide ((⟨#[]⟩:ByteArray).size≤1000)) (cond (decide ((((⟨#[109]⟩:ByteArray).size+(C65 13 a0 (⟨#[]⟩:ByteArray)).size:Nat):Int)≤IntKind.i64.max)) (some (B7W ((⟨#[109]⟩:ByteArray)++(C65 13 a0 (⟨#[]⟩:ByteArray))))) none) none))) (by kernel_rfl) ?_
 exact (Q7 B7W (fun _h=>rfl) (fun _h=>(A70 (by rw [hp];rfl) (fun _h=>(A70 (by have h1:=D8S 13 a0 (⟨#[]⟩:ByteArray);rw [decide_eq_true_eq];have h2:((⟨#[]⟩:ByteArray)).size=0:=rfl;have h3:((⟨#[109]⟩:ByteArray)).size=1:=rfl;rw [h2] at h1;rw [h3,show IntKind.i64.max=9223372036854775807 from rfl];omega) (fun _h=>rfl))))))
theorem D4n:aPP 32 (A19 B4W B8s C2n):=pcD true G91 (hl1 (i:=0) (by kernel_rfl) D0u) D1T
noncomputable def S92:Tab:=Tab.add S91 32 (lift (A19 B4W B8s C2n))
noncomputable def E1d:FuncId→Bool:=qadd E1c 32
theorem G92:aPG S92 E1d:=G91.addQ D4n (cbl Tryz.f32) (fun _=>rfl)

abbrev E1Y:List Sh:=.junk::D9O
abbrev u31:=((),u30)
abbrev E1S:List AV:=.junk::D9L

noncomputable def O0 (i:Nat) (b:Int×Lq2):Int×Lq2:=(wI ((wI ((wI (b.1+(1:Int)))+(1:Int)))+(1:Int)),((b.2.set i (b.1,(((b.2.getD i ((0:Int),(bE,bE))).2).1,((b.2.getD i ((0:Int),(bE,bE))).2).2))).set i (((b.2.set i (b.1,(((b.2.getD i ((0:Int),(bE,bE))).2).1,((b.2.getD i ((0:Int),(bE,bE))).2).2))).getD i ((0:Int),(bE,bE))).1,((I9 (wI (b.1+(1:Int)))),(((b.2.set i (b.1,(((b.2.getD i ((0:Int),(bE,bE))).2).1,((b.2.getD i ((0:Int),(bE,bE))).2).2))).getD i ((0:Int),(bE,bE))).2).2))).set i ((((b.2.set i (b.1,(((b.2.getD i ((0:Int),(bE,bE))).2).1,((b.2.getD i ((0:Int),(bE,bE))).2).2))).set i (((b.2.set i (b.1,(((b.2.getD i ((0:Int),(bE,bE))).2).1,((b.2.getD i ((0:Int),(bE,bE))).2).2))).getD i ((0:Int),(bE,bE))).1,((I9 (wI (b.1+(1:Int)))),(((b.2.set i (b.1,(((b.2.getD i ((0:Int),(bE,bE))).2).1,((b.2.getD i ((0:Int),(bE,bE))).2).2))).getD i ((0:Int),(bE,bE))).2).2))).getD i ((0:Int),(bE,bE))).1,(((((b.2.set i (b.1,(((b.2.getD i ((0:Int),(bE,bE))).2).1,((b.2.getD i ((0:Int),(bE,bE))).2).2))).set i (((b.2.set i (b.1,(((b.2.getD i ((0:Int),(bE,bE))).2).1,((b.2.getD i ((0:Int),(bE,bE))).2).2))).getD i ((0:Int),(bE,bE))).1,((I9 (wI (b.1+(1:Int)))),(((b.2.set i (b.1,(((b.2.getD i ((0:Int),(bE,bE))).2).1,((b.2.getD i ((0:Int),(bE,bE))).2).2))).getD i ((0:Int),(bE,bE))).2).2))).getD i ((0:Int),(bE,bE))).2).1,(I9 (wI ((wI (b.1+(1:Int)))+(1:Int)))))))
abbrev B7I:SS:=⟨[.all 0 3,tI],[.rows 54 true tq8]⟩
abbrev A8A:SS:=⟨(.all 0 3::tI::.junk::.junk::.junk::tI::E1Y),[.rows 54 true tq8]⟩
abbrev B6o:SS:=⟨(.junk::tI::D8B),[.rows 54 true tq8]⟩
noncomputable def B8y (x1 x5:Int) (h0:Lq2):RT A8A.den:=let z4:=wI (x1+(1:Int));let z3:=wI (z4+(1:Int));let z5:=(h0.getD x5.toNat ((0:Int),(bE,bE))).2;let z2:=h0.set x5.toNat (x1,(z5.1,z5.2));let z7:=z2.getD x5.toNat ((0:Int),(bE,bE));let z1:=z2.set x5.toNat (z7.1,((I9 z4),(z7.2).2));let z6:=z1.getD x5.toNat ((0:Int),(bE,bE));(.br (decide (x5<(h0.length:Int))) (.br (decide (0≤x5∧x5<(h0.length:Int))) (.br (I8 z4) (.br (decide (0≤x5∧x5<((z2.length:Nat):Int))) (.br (I8 z3) (.br (decide (0≤x5∧x5<((z1.length:Nat):Int))) (.next (((),wI (z3+(1:Int)),(),(),(),wI (x5+(1:Int)),u31),(z1.set x5.toNat (z6.1,((z6.2).1,(I9 z3))),()))) .fail) .fail) .fail) .fail) .fail) (.done (.exit 0) B6o (((),x1,u35),(h0,()))))
noncomputable def B3g (x1 x5:Int) (h0:Lq2):CT:=(.br (decide (0≤x5)&&(decide (0≤x1∧x1≤100000*(x5+100))&&okL h0)) (.done (.exit 0) B6o (((),((foldN O0 (h0.length - x5.toNat) x5.toNat (x1,h0)).1),u35),(((foldN O0 (h0.length - x5.toNat) x5.toNat (x1,h0)).2),()))) .fail)
noncomputable abbrev B0c:A8A.den→RT A8A.den:=(fun d=>B8y d.1.2.1 d.1.2.2.2.2.2.1 d.2.1)
noncomputable abbrev C4j (x1 x5:Int) (h0:Lq2):A8A.den:=(((),x1,(),(),(),x5,u31),(h0,()))
noncomputable def C06:Code:=((D5 0 (A1o Tryz.f13)).getD 0 (0,.skip)).2
theorem D2t (x1 x5:Int) (h0:Lq2):(B3g x1 x5 h0).val (D:=A8A.den)=.fail∨Runs B0c (C4j x1 x5 h0) (B3g x1 x5 h0).val:=by
 cases hc:(decide (0≤x5)&&(decide (0≤x1∧x1≤100000*(x5+100))&&okL h0)) with
 | false=>left;simp only [B3g,CT.val,hc,cond_false]
 | true =>
  right
  simp only [B3g,CT.val,hc,cond_true]
  simp only [Bool.and_eq_true,decide_eq_true_eq] at hc
  obtain ⟨i,rfl⟩:=Int.eq_ofNat_of_zero_le hc.1
  have hs:=A7L hc.2.2
  have hk:=hc.2.1
  simp only [Int.toNat_natCast]
  refine Runs.foldN (step:=B0c) (fun j b=>C4j b.1 (j:Int) b.2) (fun i b=>(0≤b.1∧b.1≤100000*((i:Int)+100))∧b.2.length=h0.length) (h0.length) O0
   (fin:=fun b=>((.done (.exit 0) B6o (((),b.1,u35),(b.2,()))):CT).val) (fun i b hi hb=>?_) (fun i b hi hb=>?_) (h0.length - i) i (x1,h0) rfl ⟨hk,rfl⟩
  ·obtain ⟨k,h⟩:=b
   obtain ⟨hb1,hb2⟩:=hb
   simp only at hb1 hb2
   have w1:wI (k+(1:Int))=k+(1:Int):=A61 (by omega) (by omega)
   have w2:wI (k+(1:Int)+(1:Int))=k+(1:Int)+(1:Int):=A61 (by omega) (by omega)
   have w3:wI (k+(1:Int)+(1:Int)+(1:Int))=k+(1:Int)+(1:Int)+(1:Int):=A61 (by omega) (by omega)
   have e0:(decide (0≤(i:Int)∧(i:Int)<(h.length:Int)))=true:=decide_eq_true (by (try simp only [List.length_set]);omega)
   have e1:(I8 (wI (k+(1:Int))))=true:=by simp only [I8,w1,w2,w3];exact decide_eq_true (by omega)
   have e2:(decide (0≤(i:Int)∧(i:Int)<(((h.set i (k,(((h.getD i ((0:Int),((⟨#[]⟩:ByteArray),(⟨#[]⟩:ByteArray)))).2).1,((h.getD i ((0:Int),((⟨#[]⟩:ByteArray),(⟨#[]⟩:ByteArray)))).2).2))).length:Nat):Int)))=true:=decide_eq_true (by (try simp only [List.length_set]);omega)
   have e3:(I8 (wI ((wI (k+(1:Int)))+(1:Int))))=true:=by simp only [I8,w1,w2,w3];exact decide_eq_true (by omega)
   have e4:(decide (0≤(i:Int)∧(i:Int)<((((h.set i (k,(((h.getD i ((0:Int),((⟨#[]⟩:ByteArray),(⟨#[]⟩:ByteArray)))).2).1,((h.getD i ((0:Int),((⟨#[]⟩:ByteArray),(⟨#[]⟩:ByteArray)))).2).2))).set i (((h.set i (k,(((h.getD i ((0:Int),((⟨#[]⟩:ByteArray),(⟨#[]⟩:ByteArray)))).2).1,((h.getD i ((0:Int),((⟨#[]⟩:ByteArray),(⟨#[]⟩:ByteArray)))).2).2))).getD i ((0:Int),((⟨#[]⟩:ByteArray),(⟨#[]⟩:ByteArray)))).1,((I9 (wI (k+(1:Int)))),(((h.set i (k,(((h.getD i ((0:Int),((⟨#[]⟩:ByteArray),(⟨#[]⟩:ByteArray)))).2).1,((h.getD i ((0:Int),((⟨#[]⟩:ByteArray),(⟨#[]⟩:ByteArray)))).2).2))).getD i ((0:Int),((⟨#[]⟩:ByteArray),(⟨#[]⟩:ByteArray)))).2).2))).length:Nat):Int)))=true:=decide_eq_true (by (try simp only [List.length_set]);omega)
   have h1:decide ((i:Int)<(h.length:Int))=true:=decide_eq_true (by omega)
   have v1:(O0 i (k,h)).1=k+(1:Int)+(1:Int)+(1:Int):=by simp only [O0,w1,w2,w3]
   have v2:(O0 i (k,h)).2.length=h.length:=by simp only [O0,List.length_set]
   refine ⟨⟨by rw [v1];omega,by rw [v2];exact hb2⟩,?_⟩
   simp only [B0c,B8y,RT.val,h1,e0,e1,e2,e3,e4,cond_true,A7T i (by omega),Int.toNat_natCast]
   rfl
  ·have h1:decide ((i:Int)<(b.2.length:Int))=false:=decide_eq_false (by omega)
   exact ⟨by simp only [B0c,B8y,RT.val,h1,cond_false];rfl,_,_,_,rfl,by simp⟩
noncomputable def C4h (x1 x5:Int) (h0:Lq2):Option (Ex×St):=let z4:=wI (x1+(1:Int));let z3:=wI (z4+(1:Int));let z5:=(h0.getD x5.toNat ((0:Int),(bE,bE))).2;let z2:=h0.set x5.toNat (x1,(z5.1,z5.2));let z7:=z2.getD x5.toNat ((0:Int),(bE,bE));let z1:=z2.set x5.toNat (z7.1,((I9 z4),(z7.2).2));let z6:=z1.getD x5.toNat ((0:Int),(bE,bE));(cond (decide (x5<(h0.length:Int))) (cond (decide (0≤x5∧x5<(h0.length:Int))) (cond (I8 z4) (cond (decide (0≤x5∧x5<((z2.length:Nat):Int))) (cond (I8 z3) (cond (decide (0≤x5∧x5<((z1.length:Nat):Int))) (some (.normal,(⟨((.all 0 3)::(ti (wI (z3+(1:Int))))::.junk::.junk::.junk::(ti (wI (x5+(1:Int))))::E1S),[(.rows 54 true tq8 (z1.set x5.toNat (z6.1,((z6.2).1,(I9 z3)))))],1,[]⟩:St))) none) none) none) none) none) (some ((.exit 0),(⟨(.junk::(ti x1)::D8v),[(.rows 54 true tq8 h0)],1,[]⟩:St))))
theorem D0H:RdA G92 aLn 0 C06 A8A 1 [] (kepts [] [(0,[1])]) (fun d=>C4h d.1.2.1 d.1.2.2.2.2.2.1 d.2.1):=by
 intro d
 kernel_rfl
theorem D0L:∀ d:A8A.den,(fun d=>C4h d.1.2.1 d.1.2.2.2.2.2.1 d.2.1) d=(B0c d).opt 1 []:=by
 intro d
 kernel_rfl
noncomputable abbrev C20:St→Option Tree:=A8A.say 1 [] [] (fun d=>B3g d.1.2.1 d.1.2.2.2.2.2.1 d.2.1)
theorem D1y:aPL C20 C06:=SS.wp2 hlz [] B0c D0H D0L _ (fun d=>D2t d.1.2.1 d.1.2.2.2.2.2.1 d.2.1)
noncomputable def W2 (x1:Int) (h0:Lq2):Int×Lq2:=let z1:=foldN O0 (h0.length - (0:Int).toNat) (0:Int).toNat (x1,h0);((z1.1),(z1.2))
noncomputable abbrev C9V (r:Int×Lq2):AV×List AObj×List Nat:=((ti r.1),[(.rows 54 true tq8 r.2)],[])
noncomputable abbrev C98:B7I.den→AV×List AObj×List Nat:=fun d=>C9V (W2 d.1.2.1 d.2.1)
noncomputable def A8S (x1:Int) (h0:Lq2):Bool:=okL h0&&decide (0≤x1∧x1≤10000000)
noncomputable abbrev C6k:B7I.den→Bool:=fun d=>A8S d.1.2.1 d.2.1
noncomputable abbrev D5A:Nat→St→Option Tree:=fun b=>match b with | 0=>C20 | _=>fun _=>none
theorem D3M:A7W G92 (D5A) Tryz.f13 B7I C6k C98:=by
 rintro ⟨⟨_,x1,_⟩,⟨h0,_⟩⟩ hp
 change A8S x1 h0=true at hp
 unfold A8S at hp
 refine Eq.trans (b:=(let z1:=foldN O0 (h0.length - (0:Int).toNat) (0:Int).toNat (x1,h0);cond (decide (0≤(0:Int))&&(decide (0≤x1∧x1≤100000*((0:Int)+100))&&okL h0)) (some (C9V ((z1.1),(z1.2)))) none)) (by kernel_rfl) ?_
 exact (A70 (by first | rfl | decide | exact hp | (simp only [Bool.and_eq_true] at hp;simp only [hp];done) | (simp [*];done) | (simp [okL] at hp;simp [okL,MAXB];omega) | (simp_all;done) | (simp at *;omega)) (fun _h=>rfl))
noncomputable abbrev D0y:=win F0 (msum B7I C6k C98)
theorem D5W:aPM 13 D0y:=(mcM G92 (hl1 (i:=0) (by kernel_rfl) D1y) D3M).win F0
noncomputable def S93:Tab:=Tab.add S92 13 (orLend D0y)
noncomputable def E1e:FuncId→Bool:=E1d
theorem G93:aPG S93 E1e:=G92.addM D5W.orLend (A7g (A7y _)) (cbl Tryz.f13) (by kernel_rfl)

abbrev u29:=((),u28)
abbrev B5T:SS:=⟨[.all 0 3,tI],[.deep 80 [54] tq5]⟩
abbrev A0s:SS:=⟨(.all 0 3::tI::.junk::.junk::.junk::tI::D9p),[.deep 80 [54] tq5]⟩
abbrev C0X:SS:=⟨(.junk::tI::E1C),[.deep 80 [54] tq5]⟩
noncomputable def C3e (x1 x5:Int) (h0:Lq1):RT A0s.den:=let z4:=wI ((wI (x1+(1:Int)))+(1:Int));let z5:=(h0.getD x5.toNat ((0:Int),((0:Int),[]))).2;let z2:=h0.set x5.toNat (x1,(z5.1,z5.2));let z6:=z2.getD x5.toNat ((0:Int),((0:Int),[]));let z1:=z2.set x5.toNat (z6.1,(wI (x1+(1:Int)),(z6.2).2));let z3:=z1.getD x5.toNat ((0:Int),((0:Int),[]));let z7:=W2 z4 ((z3.2).2);(.br (decide (x5<(h0.length:Int))) (.br (decide (0≤x5∧x5<(h0.length:Int))) (.br (decide (0≤x5∧x5<((z2.length:Nat):Int))) (.br (decide (0≤x5∧x5<((z1.length:Nat):Int))) (.br (A8S z4 ((z3.2).2)) (.next (((),(z7.1),(),(),(),wI (x5+(1:Int)),u29),(z1.set x5.toNat (z3.1,((z3.2).1,(z7.2))),()))) .fail) .fail) .fail) .fail) (.done (.exit 0) C0X (((),x1,u33),(h0,()))))
abbrev B4H:=(Int)×(Int)×(Lq1)
abbrev B1G:=Nat×(Int)×(Lq1)
def B0L:B1G:=(99,((0:Int):Int),([]:Lq1))
noncomputable def B3T (x1 x5:Int) (h0:Lq1):B4H ⊕ B1G:=let z4:=wI ((wI (x1+(1:Int)))+(1:Int));let z5:=(h0.getD x5.toNat ((0:Int),((0:Int),[]))).2;let z2:=h0.set x5.toNat (x1,(z5.1,z5.2));let z6:=z2.getD x5.toNat ((0:Int),((0:Int),[]));let z1:=z2.set x5.toNat (z6.1,(wI (x1+(1:Int)),(z6.2).2));let z3:=z1.getD x5.toNat ((0:Int),((0:Int),[]));let z7:=W2 z4 ((z3.2).2);(cond (decide (x5<(h0.length:Int))) (cond (decide (0≤x5∧x5<(h0.length:Int))) (cond (decide (0≤x5∧x5<((z2.length:Nat):Int))) (cond (decide (0≤x5∧x5<((z1.length:Nat):Int))) (cond (A8S z4 ((z3.2).2)) (.inl ((z7.1),wI (x5+(1:Int)),z1.set x5.toNat (z3.1,((z3.2).1,(z7.2))))) (.inr B0L)) (.inr B0L)) (.inr B0L)) (.inr B0L)) (.inr (0,x1,h0)))
noncomputable def B0S (x1 x5:Int) (h0:Lq1):B1G:=itX (fun v:B4H=>B3T v.1 v.2.1 v.2.2) B0L (x1,x5,h0)
noncomputable def B6W (a:B1G):CT:=(.br (a.1==0) (.done (.exit 0) C0X (((),a.2.1,u33),(a.2.2,()))) .fail)
noncomputable def D1l (x1 x5:Int) (h0:Lq1):CT:=B6W (B0S x1 x5 h0)
noncomputable abbrev B7v:A0s.den→RT A0s.den:=(fun d=>C3e d.1.2.1 d.1.2.2.2.2.2.1 d.2.1)
noncomputable def B82:Code:=((D5 0 (A1o Tryz.f30)).getD 0 (0,.skip)).2
noncomputable abbrev C2Q (v:B4H):A0s.den:=(((),v.1,(),(),(),v.2.1,u29),(v.2.2,()))
theorem D0R:(∀ v:B4H,(C3e v.1 v.2.1 v.2.2).val=A6W C2Q B6W (B3T v.1 v.2.1 v.2.2))∧∀ a:B1G,CEnd A0s.den (B6W a):=⟨fun v=>(A72 (A72 (A72 (A72 (A72 rfl rfl) rfl) rfl) rfl) rfl),fun a=>(A7P aCD A7R)⟩
noncomputable def C2t (x1 x5:Int) (h0:Lq1):Option (Ex×St):=let z4:=wI ((wI (x1+(1:Int)))+(1:Int));let z5:=(h0.getD x5.toNat ((0:Int),((0:Int),[]))).2;let z2:=h0.set x5.toNat (x1,(z5.1,z5.2));let z6:=z2.getD x5.toNat ((0:Int),((0:Int),[]));let z1:=z2.set x5.toNat (z6.1,(wI (x1+(1:Int)),(z6.2).2));let z3:=z1.getD x5.toNat ((0:Int),((0:Int),[]));let z7:=W2 z4 ((z3.2).2);(cond (decide (x5<(h0.length:Int))) (cond (decide (0≤x5∧x5<(h0.length:Int))) (cond (decide (0≤x5∧x5<((z2.length:Nat):Int))) (cond (decide (0≤x5∧x5<((z1.length:Nat):Int))) (cond (A8S z4 ((z3.2).2)) (some (.normal,(⟨((.all 0 3)::(ti (z7.1))::.junk::.junk::.junk::(ti (wI (x5+(1:Int))))::D9j),[(.deep 80 [54] tq5 (z1.set x5.toNat (z3.1,((z3.2).1,(z7.2)))))],1,[]⟩:St))) none) none) none) none) (some ((.exit 0),(⟨(.junk::(ti x1)::E1q),[(.deep 80 [54] tq5 h0)],1,[]⟩:St))))
theorem C86:RdA G93 aLn 0 B82 A0s 1 [] (kepts [] [(0,[1])]) (fun d=>C2t d.1.2.1 d.1.2.2.2.2.2.1 d.2.1):=by
 intro d
 kernel_rfl
theorem C9c:∀ d:A0s.den,(fun d=>C2t d.1.2.1 d.1.2.2.2.2.2.1 d.2.1) d=(B7v d).opt 1 []:=by
 intro d
 kernel_rfl
noncomputable abbrev C1q:St→Option Tree:=A0s.say 1 [] [] (fun d=>D1l d.1.2.1 d.1.2.2.2.2.2.1 d.2.1)
theorem D0t:aPL C1q B82:=SS.wp2 hlz [] B7v C86 C9c _ (fun d=>Runs.ofI2 (step:=B7v) C2Q D0R rfl (d.1.2.1,d.1.2.2.2.2.2.1,d.2.1))
noncomputable def B1j (x1:Int) (h0:Lq1):Int×Lq1:=let z1:=B0S x1 (0:Int) h0;((z1.2.1),(z1.2.2))
noncomputable abbrev C8a (r:Int×Lq1):AV×List AObj×List Nat:=((ti r.1),[(.deep 80 [54] tq5 r.2)],[])
noncomputable abbrev C8e:B5T.den→AV×List AObj×List Nat:=fun d=>C8a (B1j d.1.2.1 d.2.1)
noncomputable def A8J (x1:Int) (h0:Lq1):Bool:=((B0S x1 (0:Int) h0).1==0)
noncomputable abbrev C4n:B5T.den→Bool:=fun d=>A8J d.1.2.1 d.2.1
noncomputable abbrev D33:Nat→St→Option Tree:=fun b=>match b with | 0=>C1q | _=>fun _=>none
theorem D1S:A7W G93 (D33) Tryz.f30 B5T C4n C8e:=by
 rintro ⟨⟨_,x1,_⟩,⟨h0,_⟩⟩ hp
 change A8J x1 h0=true at hp
 unfold A8J at hp
 refine Eq.trans (b:=(let z1:=B0S x1 (0:Int) h0;cond (z1.1==0) (some (C8a ((z1.2.1),(z1.2.2)))) none)) (by kernel_rfl) ?_
 exact (A70 hp fun _h=>rfl)
noncomputable abbrev C8l:=win F0 (msum B5T C4n C8e)
theorem D4m:aPM 30 C8l:=(mcM G93 (hl1 (i:=0) (by kernel_rfl) D0t) D1S).win F0
noncomputable def S94:Tab:=Tab.add S93 30 (C8l)
noncomputable def E1f:FuncId→Bool:=E1e
theorem G94:aPG S94 E1f:=G93.addM D4m (A7y _) (cbl Tryz.f30) (by kernel_rfl)


noncomputable def O2 (i:Nat) (b:Int×LBBe):Int×LBBe:=(wI ((wI (b.1+(1:Int)))+(1:Int)),(b.2.set i ((I9 b.1),(b.2.getD i (bE,bE)).2)).set i (((b.2.set i ((I9 b.1),(b.2.getD i (bE,bE)).2)).getD i (bE,bE)).1,(I9 (wI (b.1+(1:Int))))))
abbrev B4E:SS:=⟨[.all 0 2,tI],[.rows 82 true J6]⟩
abbrev A8a:SS:=⟨(.all 0 2::tI::.junk::.junk::.junk::tI::D8y),[.rows 82 true J6]⟩
abbrev B37:SS:=⟨(.junk::tI::D8A),[.rows 82 true J6]⟩
noncomputable def B5N (x1 x5:Int) (h0:LBBe):RT A8a.den:=let z1:=h0.set x5.toNat ((I9 x1),(h0.getD x5.toNat (bE,bE)).2);let z2:=wI (x1+(1:Int));(.br (decide (x5<(h0.length:Int))) (.br (I8 x1) (.br (decide (0≤x5∧x5<(h0.length:Int))) (.br (I8 z2) (.br (decide (0≤x5∧x5<((z1.length:Nat):Int))) (.next (((),wI (z2+(1:Int)),(),(),(),wI (x5+(1:Int)),u24),(z1.set x5.toNat ((z1.getD x5.toNat (bE,bE)).1,(I9 z2)),()))) .fail) .fail) .fail) .fail) (.done (.exit 0) B37 (((),x1,u28),(h0,()))))
noncomputable def B0G (x1 x5:Int) (h0:LBBe):CT:=(.br (decide (0≤x5)&&(decide (0≤x1∧x1≤100000*(x5+100))&&okL h0)) (.done (.exit 0) B37 (((),((foldN O2 (h0.length - x5.toNat) x5.toNat (x1,h0)).1),u28),(((foldN O2 (h0.length - x5.toNat) x5.toNat (x1,h0)).2),()))) .fail)
noncomputable abbrev A8w:A8a.den→RT A8a.den:=(fun d=>B5N d.1.2.1 d.1.2.2.2.2.2.1 d.2.1)
noncomputable abbrev C1g (x1 x5:Int) (h0:LBBe):A8a.den:=(((),x1,(),(),(),x5,u24),(h0,()))
noncomputable def B7R:Code:=((D5 0 (A1o Tryz.f31)).getD 0 (0,.skip)).2
theorem C9J (x1 x5:Int) (h0:LBBe):(B0G x1 x5 h0).val (D:=A8a.den)=.fail∨Runs A8w (C1g x1 x5 h0) (B0G x1 x5 h0).val:=by
 cases hc:(decide (0≤x5)&&(decide (0≤x1∧x1≤100000*(x5+100))&&okL h0)) with
 | false=>left;simp only [B0G,CT.val,hc,cond_false]
 | true =>
  right
  simp only [B0G,CT.val,hc,cond_true]
  simp only [Bool.and_eq_true,decide_eq_true_eq] at hc
  obtain ⟨i,rfl⟩:=Int.eq_ofNat_of_zero_le hc.1
  have hs:=A7L hc.2.2
  have hk:=hc.2.1
  simp only [Int.toNat_natCast]
  refine Runs.foldN (step:=A8w) (fun j b=>C1g b.1 (j:Int) b.2) (fun i b=>(0≤b.1∧b.1≤100000*((i:Int)+100))∧b.2.length=h0.length) (h0.length) O2
   (fin:=fun b=>((.done (.exit 0) B37 (((),b.1,u28),(b.2,()))):CT).val) (fun i b hi hb=>?_) (fun i b hi hb=>?_) (h0.length - i) i (x1,h0) rfl ⟨hk,rfl⟩
  ·obtain ⟨k,h⟩:=b
   obtain ⟨hb1,hb2⟩:=hb
   simp only at hb1 hb2
   have w1:wI (k+(1:Int))=k+(1:Int):=A61 (by omega) (by omega)
   have w2:wI (k+(1:Int)+(1:Int))=k+(1:Int)+(1:Int):=A61 (by omega) (by omega)
   have e0:(I8 k)=true:=by simp only [I8,w1,w2];exact decide_eq_true (by omega)
   have e1:(decide (0≤(i:Int)∧(i:Int)<(h.length:Int)))=true:=decide_eq_true (by (try simp only [List.length_set]);omega)
   have e2:(I8 (wI (k+(1:Int))))=true:=by simp only [I8,w1,w2];exact decide_eq_true (by omega)
   have e3:(decide (0≤(i:Int)∧(i:Int)<(((h.set i ((I9 k),(h.getD i ((⟨#[]⟩:ByteArray),(⟨#[]⟩:ByteArray))).2)).length:Nat):Int)))=true:=decide_eq_true (by (try simp only [List.length_set]);omega)
   have h1:decide ((i:Int)<(h.length:Int))=true:=decide_eq_true (by omega)
   have v1:(O2 i (k,h)).1=k+(1:Int)+(1:Int):=by simp only [O2,w1,w2]
   have v2:(O2 i (k,h)).2.length=h.length:=by simp only [O2,List.length_set]
   refine ⟨⟨by rw [v1];omega,by rw [v2];exact hb2⟩,?_⟩
   simp only [A8w,B5N,RT.val,h1,e0,e1,e2,e3,cond_true,A7T i (by omega),Int.toNat_natCast]
   rfl
  ·have h1:decide ((i:Int)<(b.2.length:Int))=false:=decide_eq_false (by omega)
   exact ⟨by simp only [A8w,B5N,RT.val,h1,cond_false];rfl,_,_,_,rfl,by simp⟩
theorem C7Q:RdA G94 aLn 0 B7R A8a 1 [] (kepts [] [(0,[1])]) (fun d=>(A8w d).opt 1 []):=by
 intro d
 kernel_rfl
noncomputable abbrev B9C:St→Option Tree:=A8a.say 1 [] [] (fun d=>B0G d.1.2.1 d.1.2.2.2.2.2.1 d.2.1)
theorem C81:aPL B9C B7R:=SS.wp2 hlz [] A8w C7Q (fun d=>rfl) _ (fun d=>C9J d.1.2.1 d.1.2.2.2.2.2.1 d.2.1)
noncomputable def Q9 (x1:Int) (h0:LBBe):Int×LBBe:=let z1:=foldN O2 (h0.length - (0:Int).toNat) (0:Int).toNat (x1,h0);((z1.1),(z1.2))
noncomputable abbrev C5T (r:Int×LBBe):AV×List AObj×List Nat:=((ti r.1),[(.rows 82 true J6 r.2)],[])
noncomputable abbrev C52:B4E.den→AV×List AObj×List Nat:=fun d=>C5T (Q9 d.1.2.1 d.2.1)
noncomputable def A9I (x1:Int) (h0:LBBe):Bool:=okL h0&&decide (0≤x1∧x1≤10000000)
noncomputable abbrev C2D:B4E.den→Bool:=fun d=>A9I d.1.2.1 d.2.1
noncomputable abbrev D2o:Nat→St→Option Tree:=fun b=>match b with | 0=>B9C | _=>fun _=>none
theorem D00:A7W G94 (D2o) Tryz.f31 B4E C2D C52:=by
 rintro ⟨⟨_,x1,_⟩,⟨h0,_⟩⟩ hp
 change A9I x1 h0=true at hp
 unfold A9I at hp
 refine Eq.trans (b:=(let z1:=foldN O2 (h0.length - (0:Int).toNat) (0:Int).toNat (x1,h0);cond (decide (0≤(0:Int))&&(decide (0≤x1∧x1≤100000*((0:Int)+100))&&okL h0)) (some (C5T ((z1.1),(z1.2)))) none)) (by kernel_rfl) ?_
 exact (A70 (by first | rfl | decide | exact hp | (simp only [Bool.and_eq_true] at hp;simp only [hp];done) | (simp [*];done) | (simp [okL] at hp;simp [okL,MAXB];omega) | (simp_all;done) | (simp at *;omega)) (fun _h=>rfl))
noncomputable abbrev C6d:=win F0 (msum B4E C2D C52)
theorem D2D:aPM 31 C6d:=(mcM G94 (hl1 (i:=0) (by kernel_rfl) C81) D00).win F0
noncomputable def S95:Tab:=Tab.add S94 31 (C6d)
noncomputable def E1g:FuncId→Bool:=E1f
theorem G95:aPG S95 E1g:=G94.addM D2D (A7y _) (cbl Tryz.f31) (by kernel_rfl)

abbrev B4F:SS:=⟨[.agg [.t true (.int .i64),.all 0 3,.t true (.int .i64),.all 1 2,.all 2 3],tI],[.deep 80 [54] tq5,.rows 82 true J6,.deep 80 [54] tq5]⟩
noncomputable def O5 (x0_0 x0_2 x1:Int) (h0:Lq1) (h1:LBBe) (h2:Lq1):Int×Lq1×LBBe×Lq1:=let z1:=Q9 ((B1j x1 h0).1) h1;let z2:=B1j (z1.1) h2;((z2.1),((B1j x1 h0).2),(z1.2),(z2.2))
noncomputable abbrev C5U (r:Int×Lq1×LBBe×Lq1):AV×List AObj×List Nat:=((ti r.1),[(.deep 80 [54] tq5 r.2.1),(.rows 82 true J6 r.2.2.1),(.deep 80 [54] tq5 r.2.2.2)],[])
noncomputable abbrev C53:B4F.den→AV×List AObj×List Nat:=fun d=>C5U (O5 d.1.1.1 d.1.1.2.2.1 d.1.2.1 d.2.1 d.2.2.1 d.2.2.2.1)
noncomputable def A0p (x0_0 x0_2 x1:Int) (h0:Lq1) (h1:LBBe) (h2:Lq1):Bool:=let z1:=(B1j x1 h0).1;(A8J x1 h0)&&((A9I z1 h1)&&(A8J ((Q9 z1 h1).1) h2))
noncomputable abbrev C2E:B4F.den→Bool:=fun d=>A0p d.1.1.1 d.1.1.2.2.1 d.1.2.1 d.2.1 d.2.2.1 d.2.2.2.1
theorem D01:A7W G95 aLn Tryz.f12 B4F C2E C53:=by
 rintro ⟨⟨⟨x0_0,_,x0_2,_,_,_⟩,x1,_⟩,⟨h0,h1,h2,_⟩⟩ hp
 change A0p x0_0 x0_2 x1 h0 h1 h2=true at hp
 unfold A0p at hp
 refine Eq.trans (b:=(let z2:=B1j x1 h0;let z1:=Q9 (z2.1) h1;let z3:=B1j (z1.1) h2;cond (A8J x1 h0) (cond (A9I (z2.1) h1) (cond (A8J (z1.1) h2) (some (C5U ((z3.1),(z2.2),(z1.2),(z3.2)))) none) none) none)) (by kernel_rfl) ?_
 exact (A7Y hp fun hp=>(A7Y hp fun hp=>(A70 hp fun _h=>rfl)))
noncomputable abbrev C6e:=win F0 (msum B4F C2E C53)
theorem D2E:aPM 12 C6e:=(mcM G95 hlz D01).win F0
noncomputable def S96:Tab:=Tab.add S95 12 (C6e)
noncomputable def E1h:FuncId→Bool:=E1g
theorem G96:aPG S96 E1h:=G95.addM D2E (A7y _) (cbl Tryz.f12) (by kernel_rfl)


noncomputable def O7 (x0:Lq2) (i:Nat) (k:Int):Int ⊕ Unit:=(cond (((x0.getD i ((0:Int),(bE,bE))).1) != k) (.inr ()) (cond (!((((x0.getD i ((0:Int),(bE,bE))).2).1).toList==(I9 (wI (k+(1:Int)))).toList)) (.inr ()) (cond (!((((x0.getD i ((0:Int),(bE,bE))).2).2).toList==(I9 (wI ((wI (k+(1:Int)))+(1:Int)))).toList)) (.inr ()) (.inl (wI ((wI ((wI (k+(1:Int)))+(1:Int)))+(1:Int)))))))
abbrev B6y:List PSh:=[.t tq4,.t (.int .i64)]
abbrev A8z:SS:=⟨(.t false tq4::tI::.junk::.junk::.junk::tI::D8C),[]⟩
abbrev X9:SS:=⟨(.junk::.junk::.junk::.junk::tI::D8D),[]⟩
abbrev B6n:SS:=⟨(.junk::tI::D7r),[]⟩
noncomputable def B8x (x0:Lq2) (x1 x5:Int):RT A8z.den:=let z2:=x0.getD x5.toNat ((0:Int),(bE,bE));let z3:=decide (0≤x5∧x5<(x0.length:Int));let z4:=wI (x1+(1:Int));let z1:=wI (z4+(1:Int));(.br (decide (x5<(x0.length:Int))) (.br z3 (.br ((z2.1) != x1) (.done .ret X9 (((),(),(),(),(-1:Int),u38),())) (.br z3 (.br (I8 z4) (.br (!(((z2.2).1).toList==(I9 z4).toList)) (.done .ret X9 (((),(),(),(),(-1:Int),u38),())) (.br z3 (.br (I8 z1) (.br (!(((z2.2).2).toList==(I9 z1).toList)) (.done .ret X9 (((),(),(),(),(-1:Int),u38),())) (.next ((x0,wI (z1+(1:Int)),(),(),(),wI (x5+(1:Int)),u37),()))) .fail) .fail)) .fail) .fail)) .fail) (.done (.exit 0) B6n (((),x1,u41),())))
noncomputable def B3f (x0:Lq2) (x1 x5:Int):CT:=(.br (decide (0≤x5)&&(decide (0≤x1∧x1≤100000*(x5+100))&&okL x0)) (.br (A7S (loopN (O7 x0) (x0.length - x5.toNat) x5.toNat x1)) (.done (.exit 0) B6n (((),(A7J (-1) (loopN (O7 x0) (x0.length - x5.toNat) x5.toNat x1)),u41),())) (.done .ret X9 (((),(),(),(),(-1:Int),u38),()))) .fail)
noncomputable abbrev A8W:A8z.den→RT A8z.den:=(fun d=>B8x d.1.1 d.1.2.1 d.1.2.2.2.2.2.1)
noncomputable abbrev B4O (x0:Lq2) (x1 x5:Int):A8z.den:=((x0,x1,(),(),(),x5,u37),())
noncomputable def C05:Code:=((D5 0 (A1o Tryz.f66)).getD 0 (0,.skip)).2
theorem D2s (x0:Lq2) (x1 x5:Int):(B3f x0 x1 x5).val (D:=A8z.den)=.fail∨Runs A8W (B4O x0 x1 x5) (B3f x0 x1 x5).val:=by
 cases hc:(decide (0≤x5)&&(decide (0≤x1∧x1≤100000*(x5+100))&&okL x0)) with
 | false=>left;simp only [B3f,CT.val,hc,cond_false]
 | true =>
  right
  simp only [B3f,CT.val,hc,cond_true]
  simp only [Bool.and_eq_true,decide_eq_true_eq] at hc
  obtain ⟨i,rfl⟩:=Int.eq_ofNat_of_zero_le hc.1
  have hs:=A7L hc.2.2
  have hk:=hc.2.1
  simp only [Int.toNat_natCast]
  have h:=Runs.loopN (step:=A8W) (fun j b=>B4O x0 b (j:Int)) (fun i b=>0≤b∧b≤100000*((i:Int)+100)) (x0.length) (O7 x0)
   (fin:=fun b=>((.done (.exit 0) B6n (((),b,u41),())):CT).val) (bad:=fun _=>((.done .ret X9 (((),(),(),(),(-1:Int),u38),())):CT).val)
   (fun i b hi hb=>?_) (fun i b hi hb=>?_) (x0.length - i) i x1 rfl hk
  ·revert h
   cases loopN (O7 x0) (x0.length - i) i x1 with
   | inl b=>exact id
   | inr c=>exact id
  ·revert hb
   generalize b=k
   intro hb
   have w1:wI (k+(1:Int))=k+(1:Int):=A61 (by omega) (by omega)
   have w2:wI (k+(1:Int)+(1:Int))=k+(1:Int)+(1:Int):=A61 (by omega) (by omega)
   have w3:wI (k+(1:Int)+(1:Int)+(1:Int))=k+(1:Int)+(1:Int)+(1:Int):=A61 (by omega) (by omega)
   have e0:(decide (0≤(i:Int)∧(i:Int)<(x0.length:Int)))=true:=decide_eq_true (by omega)
   have e1:(decide (0≤(i:Int)∧(i:Int)<(x0.length:Int)))=true:=decide_eq_true (by omega)
   have e2:(I8 (wI (k+(1:Int))))=true:=by simp only [I8,w1,w2,w3];exact decide_eq_true (by omega)
   have e3:(decide (0≤(i:Int)∧(i:Int)<(x0.length:Int)))=true:=decide_eq_true (by omega)
   have e4:(I8 (wI ((wI (k+(1:Int)))+(1:Int))))=true:=by simp only [I8,w1,w2,w3];exact decide_eq_true (by omega)
   have h1:decide ((i:Int)<(x0.length:Int))=true:=decide_eq_true (by omega)
   have e:(A8W (B4O x0 k (i:Int))).val=(cond (((x0.getD i ((0:Int),((⟨#[]⟩:ByteArray),(⟨#[]⟩:ByteArray)))).1) != k) ((.done .ret X9 (((),(),(),(),(-1:Int),u38),())):CT).val (cond (!((((x0.getD i ((0:Int),((⟨#[]⟩:ByteArray),(⟨#[]⟩:ByteArray)))).2).1).toList==(I9 (wI (k+(1:Int)))).toList)) ((.done .ret X9 (((),(),(),(),(-1:Int),u38),())):CT).val (cond (!((((x0.getD i ((0:Int),((⟨#[]⟩:ByteArray),(⟨#[]⟩:ByteArray)))).2).2).toList==(I9 (wI ((wI (k+(1:Int)))+(1:Int)))).toList)) ((.done .ret X9 (((),(),(),(),(-1:Int),u38),())):CT).val (.next (B4O x0 (wI ((wI ((wI (k+(1:Int)))+(1:Int)))+(1:Int))) ((i+1:Nat):Int)))))):=by
    simp only [A8W,B8x,RT.val,h1,e0,e1,e2,e3,e4,cond_true,A7T i (by omega),Int.toNat_natCast]
    rfl
   cases g0:(((x0.getD i ((0:Int),((⟨#[]⟩:ByteArray),(⟨#[]⟩:ByteArray)))).1) != k) with
   | true=>exact .inr ⟨(),_,_,_,by simp only [O7,g0,cond_true,cond_false],by rw [e,g0];rfl,rfl,by simp⟩
   | false =>
    cases g1:(!((((x0.getD i ((0:Int),((⟨#[]⟩:ByteArray),(⟨#[]⟩:ByteArray)))).2).1).toList==(I9 (wI (k+(1:Int)))).toList)) with
    | true=>exact .inr ⟨(),_,_,_,by simp only [O7,g0,g1,cond_true,cond_false],by rw [e,g0,g1];rfl,rfl,by simp⟩
    | false =>
     cases g2:(!((((x0.getD i ((0:Int),((⟨#[]⟩:ByteArray),(⟨#[]⟩:ByteArray)))).2).2).toList==(I9 (wI ((wI (k+(1:Int)))+(1:Int)))).toList)) with
     | true=>exact .inr ⟨(),_,_,_,by simp only [O7,g0,g1,g2,cond_true,cond_false],by rw [e,g0,g1,g2];rfl,rfl,by simp⟩
     | false =>
      exact .inl ⟨wI ((wI ((wI (k+(1:Int)))+(1:Int)))+(1:Int)),by simp only [O7,g0,g1,g2,cond_false],by rw [w1,w2,w3];omega,by rw [e,g0,g1,g2];rfl⟩
  ·have h1:decide ((i:Int)<(x0.length:Int))=false:=decide_eq_false (by omega)
   exact ⟨by simp only [A8W,B8x,RT.val,h1,cond_false];rfl,_,_,_,rfl,by simp⟩
noncomputable def C4g (x0:Lq2) (x1 x5:Int):Option (Ex×St):=let z1:=(⟨(.junk::.junk::.junk::.junk::(ti (-1:Int))::D9l),[],0,[]⟩:St);let z3:=x0.getD x5.toNat ((0:Int),(bE,bE));let z4:=decide (0≤x5∧x5<(x0.length:Int));let z5:=wI (x1+(1:Int));let z2:=wI (z5+(1:Int));(cond (decide (x5<(x0.length:Int))) (cond z4 (cond ((z3.1) != x1) (some (.ret,z1)) (cond z4 (cond (I8 z5) (cond (!(((z3.2).1).toList==(I9 z5).toList)) (some (.ret,z1)) (cond z4 (cond (I8 z2) (cond (!(((z3.2).2).toList==(I9 z2).toList)) (some (.ret,z1)) (some (.normal,(⟨((.t false tq4 x0)::(ti (wI (z2+(1:Int))))::.junk::.junk::.junk::(ti (wI (x5+(1:Int))))::D7n),[],0,[]⟩:St)))) none) none)) none) none)) none) (some ((.exit 0),(⟨(.junk::(ti x1)::D7o),[],0,[]⟩:St))))
theorem D0G:RdA G96 aLn 0 C05 A8z 0 [] (kepts [4] [(0,[1])]) (fun d=>C4g d.1.1 d.1.2.1 d.1.2.2.2.2.2.1):=by
 intro d
 kernel_rfl
theorem D0K:∀ d:A8z.den,(fun d=>C4g d.1.1 d.1.2.1 d.1.2.2.2.2.2.1) d=(A8W d).opt 0 []:=by
 intro d
 kernel_rfl
noncomputable abbrev C2Z:St→Option Tree:=A8z.say 0 [] [] (fun d=>B3f d.1.1 d.1.2.1 d.1.2.2.2.2.2.1)
theorem D1x:aPL C2Z C05:=SS.wp2 hlz [] A8W D0G D0K _ (fun d=>D2s d.1.1 d.1.2.1 d.1.2.2.2.2.2.1)
noncomputable def B9g (a0:Lq2) (a1:Int):Int:=let z1:=loopN (O7 a0) (a0.length - (0:Int).toNat) (0:Int).toNat a1;(cond (A7S z1) (A7J (-1) z1) (-1:Int))
noncomputable abbrev B93 (r:Int):AV×List AObj:=((ti r),[])
noncomputable abbrev C4K:D9 B6y→AV×List AObj:=fun d=>B93 (B9g d.1 d.2.1)
noncomputable def B02 (a0:Lq2) (a1:Int):Bool:=okL a0&&decide (0≤a1∧a1≤10000000)
noncomputable abbrev C0y:D9 B6y→Bool:=fun d=>B02 d.1 d.2.1
noncomputable abbrev D5z:Nat→St→Option Tree:=fun b=>match b with | 0=>C2Z | _=>fun _=>none
theorem D3L:A7X true G96 (D5z) Tryz.f66 B6y C0y C4K:=by
 rintro ⟨a0,⟨a1,_⟩⟩ hp
 change B02 a0 a1=true at hp
 unfold B02 at hp
 refine Eq.trans (b:=(let z1:=loopN (O7 a0) (a0.length - (0:Int).toNat) (0:Int).toNat a1;cond (decide (0≤(0:Int))&&(decide (0≤a1∧a1≤100000*((0:Int)+100))&&okL a0)) (cond (A7S z1) (some (B93 (A7J (-1) z1))) (some (B93 (-1:Int)))) none)) (by kernel_rfl) ?_
 exact (A70 (by first | rfl | decide | exact hp | (simp only [Bool.and_eq_true] at hp;simp only [hp];done) | (simp [*];done) | (simp [okL] at hp;simp [okL,MAXB];omega) | (simp_all;done) | (simp at *;omega)) (fun _h=>(Q7 B93 (fun _h=>rfl) (fun _h=>rfl))))
theorem D5V:aPP 66 (A19 B6y C0y C4K):=pcD true G96 (hl1 (i:=0) (by kernel_rfl) D1x) D3L
noncomputable def S97:Tab:=Tab.add S96 66 (lift (A19 B6y C0y C4K))
noncomputable def E1i:FuncId→Bool:=qadd E1h 66
theorem G97:aPG S97 E1i:=G96.addQ D5V (cbl Tryz.f66) (fun _=>rfl)

abbrev B4V:List PSh:=[.t tq3,.t (.int .i64)]
abbrev A0r:SS:=⟨(.t false tq3::tI::.junk::.junk::.junk::tI::D8B),[]⟩
abbrev B1W:SS:=⟨(.junk::.junk::.junk::.junk::tI::E1D),[]⟩
abbrev C0W:SS:=⟨(.junk::tI::D8E),[]⟩
noncomputable def C3d (x0:Lq1) (x1 x5:Int):RT A0r.den:=let z1:=x0.getD x5.toNat ((0:Int),((0:Int),[]));let z3:=decide (0≤x5∧x5<(x0.length:Int));let z4:=wI (x1+(1:Int));let z2:=wI (z4+(1:Int));let z5:=B9g ((z1.2).2) z2;(.br (decide (x5<(x0.length:Int))) (.br z3 (.br ((z1.1) != x1) (.done .ret B1W (((),(),(),(),(-1:Int),u36),())) (.br z3 (.br (((z1.2).1) != z4) (.done .ret B1W (((),(),(),(),(-1:Int),u36),())) (.br z3 (.br (B02 ((z1.2).2) z2) (.br (decide (z5<(0:Int))) (.done .ret B1W (((),(),(),(),(-1:Int),u36),())) (.next ((x0,z5,(),(),(),wI (x5+(1:Int)),u35),()))) .fail) .fail)) .fail)) .fail) (.done (.exit 0) C0W (((),x1,u39),())))
abbrev B4G:=(Lq1)×(Int)×(Int)
abbrev B1F:=Nat×(Int)×(Int)
def B0K:B1F:=(99,((0:Int):Int),((0:Int):Int))
noncomputable def B3S (x0:Lq1) (x1 x5:Int):B4G ⊕ B1F:=let z1:=x0.getD x5.toNat ((0:Int),((0:Int),[]));let z3:=decide (0≤x5∧x5<(x0.length:Int));let z4:=wI (x1+(1:Int));let z2:=wI (z4+(1:Int));let z5:=B9g ((z1.2).2) z2;(cond (decide (x5<(x0.length:Int))) (cond z3 (cond ((z1.1) != x1) (.inr (0,(-1:Int),((0:Int):Int))) (cond z3 (cond (((z1.2).1) != z4) (.inr (0,(-1:Int),((0:Int):Int))) (cond z3 (cond (B02 ((z1.2).2) z2) (cond (decide (z5<(0:Int))) (.inr (0,(-1:Int),((0:Int):Int))) (.inl (x0,z5,wI (x5+(1:Int))))) (.inr B0K)) (.inr B0K))) (.inr B0K))) (.inr B0K)) (.inr (1,((0:Int):Int),x1)))
noncomputable def B0R (x0:Lq1) (x1 x5:Int):B1F:=itX (fun v:B4G=>B3S v.1 v.2.1 v.2.2) B0K (x0,x1,x5)
noncomputable def B6V (a:B1F):CT:=(.br (a.1==0) (.done .ret B1W (((),(),(),(),a.2.1,u36),())) (.br (a.1==1) (.done (.exit 0) C0W (((),a.2.2,u39),())) .fail))
noncomputable def D1k (x0:Lq1) (x1 x5:Int):CT:=B6V (B0R x0 x1 x5)
noncomputable abbrev B7u:A0r.den→RT A0r.den:=(fun d=>C3d d.1.1 d.1.2.1 d.1.2.2.2.2.2.1)
noncomputable def B81:Code:=((D5 0 (A1o Tryz.f33)).getD 0 (0,.skip)).2
noncomputable abbrev C2P (v:B4G):A0r.den:=((v.1,v.2.1,(),(),(),v.2.2,u35),())
theorem D0Q:(∀ v:B4G,(C3d v.1 v.2.1 v.2.2).val=A6W C2P B6V (B3S v.1 v.2.1 v.2.2))∧∀ a:B1F,CEnd A0r.den (B6V a):=⟨fun v=>by repeat' first | apply A72 | rfl,fun a=>(A7P aCD (A7P aCD A7R))⟩
noncomputable def C2s (x0:Lq1) (x1 x5:Int):Option (Ex×St):=let z1:=x0.getD x5.toNat ((0:Int),((0:Int),[]));let z2:=(⟨(.junk::.junk::.junk::.junk::(ti (-1:Int))::D9M),[],0,[]⟩:St);let z4:=decide (0≤x5∧x5<(x0.length:Int));let z5:=wI (x1+(1:Int));let z3:=wI (z5+(1:Int));let z6:=B9g ((z1.2).2) z3;(cond (decide (x5<(x0.length:Int))) (cond z4 (cond ((z1.1) != x1) (some (.ret,z2)) (cond z4 (cond (((z1.2).1) != z5) (some (.ret,z2)) (cond z4 (cond (B02 ((z1.2).2) z3) (cond (decide (z6<(0:Int))) (some (.ret,z2)) (some (.normal,(⟨((.t false tq3 x0)::(ti z6)::.junk::.junk::.junk::(ti (wI (x5+(1:Int))))::D8v),[],0,[]⟩:St)))) none) none)) none)) none) (some ((.exit 0),(⟨(.junk::(ti x1)::D57),[],0,[]⟩:St))))
theorem C85:RdA G97 aLn 0 B81 A0r 0 [] (kepts [4] [(0,[1])]) (fun d=>C2s d.1.1 d.1.2.1 d.1.2.2.2.2.2.1):=by
 intro d
 kernel_rfl
theorem C9b:∀ d:A0r.den,(fun d=>C2s d.1.1 d.1.2.1 d.1.2.2.2.2.2.1) d=(B7u d).opt 0 []:=by
 intro d
 kernel_rfl
noncomputable abbrev C1p:St→Option Tree:=A0r.say 0 [] [] (fun d=>D1k d.1.1 d.1.2.1 d.1.2.2.2.2.2.1)
theorem D0s:aPL C1p B81:=SS.wp2 hlz [] B7u C85 C9b _ (fun d=>Runs.ofI2 (step:=B7u) C2P D0Q rfl (d.1.1,d.1.2.1,d.1.2.2.2.2.2.1))
noncomputable def A9e (a0:Lq1) (a1:Int):Int:=let z1:=B0R a0 a1 (0:Int);(cond (z1.1==0) (z1.2.1) (z1.2.2))
noncomputable abbrev B7V (r:Int):AV×List AObj:=((ti r),[])
noncomputable abbrev C2m:D9 B4V→AV×List AObj:=fun d=>B7V (A9e d.1 d.2.1)
noncomputable def A8I (a0:Lq1) (a1:Int):Bool:=let z1:=B0R a0 a1 (0:Int);cond (z1.1==0) true (z1.1==1)
noncomputable abbrev B8r:D9 B4V→Bool:=fun d=>A8I d.1 d.2.1
noncomputable abbrev D32:Nat→St→Option Tree:=fun b=>match b with | 0=>C1p | _=>fun _=>none
theorem D1R:A7X true G97 (D32) Tryz.f33 B4V B8r C2m:=by
 rintro ⟨a0,⟨a1,_⟩⟩ hp
 change A8I a0 a1=true at hp
 unfold A8I at hp
 refine Eq.trans (b:=(let z1:=B0R a0 a1 (0:Int);cond (z1.1==0) (some (B7V (z1.2.1))) (cond (z1.1==1) (some (B7V (z1.2.2))) none))) (by kernel_rfl) ?_
 exact (K9 B7V hp (fun hp=>rfl) (fun hp=>(A70 hp fun _h=>rfl)))
theorem D4l:aPP 33 (A19 B4V B8r C2m):=pcD true G97 (hl1 (i:=0) (by kernel_rfl) D0s) D1R
noncomputable def S98:Tab:=Tab.add S97 33 (lift (A19 B4V B8r C2m))
noncomputable def E1j:FuncId→Bool:=qadd E1i 33
theorem G98:aPG S98 E1j:=G97.addQ D4l (cbl Tryz.f33) (fun _=>rfl)


noncomputable def N4 (x0:LBBe) (i:Nat) (k:Int):Int ⊕ Unit:=(cond (!(((x0.getD i (bE,bE)).1).toList==(I9 k).toList)) (.inr ()) (cond (!(((x0.getD i (bE,bE)).2).toList==(I9 (wI (k+(1:Int)))).toList)) (.inr ()) (.inl (wI ((wI (k+(1:Int)))+(1:Int))))))
abbrev B26:List PSh:=[.t tq6,.t (.int .i64)]
abbrev Y5:SS:=⟨(.t false tq6::tI::.junk::.junk::.junk::tI::D8A),[]⟩
abbrev A76:SS:=⟨(.junk::.junk::.junk::.junk::tI::D9p),[]⟩
abbrev B36:SS:=⟨(.junk::tI::D9q),[]⟩
noncomputable def B5M (x0:LBBe) (x1 x5:Int):RT Y5.den:=let z1:=wI (x1+(1:Int));let z2:=decide (0≤x5∧x5<(x0.length:Int));let z3:=x0.getD x5.toNat (bE,bE);(.br (decide (x5<(x0.length:Int))) (.br z2 (.br (I8 x1) (.br (!((z3.1).toList==(I9 x1).toList)) (.done .ret A76 (((),(),(),(),(-1:Int),u29),())) (.br z2 (.br (I8 z1) (.br (!((z3.2).toList==(I9 z1).toList)) (.done .ret A76 (((),(),(),(),(-1:Int),u29),())) (.next ((x0,wI (z1+(1:Int)),(),(),(),wI (x5+(1:Int)),u28),()))) .fail) .fail)) .fail) .fail) (.done (.exit 0) B36 (((),x1,u32),())))
noncomputable def B0F (x0:LBBe) (x1 x5:Int):CT:=(.br (decide (0≤x5)&&(decide (0≤x1∧x1≤100000*(x5+100))&&okL x0)) (.br (A7S (loopN (N4 x0) (x0.length - x5.toNat) x5.toNat x1)) (.done (.exit 0) B36 (((),(A7J (-1) (loopN (N4 x0) (x0.length - x5.toNat) x5.toNat x1)),u32),())) (.done .ret A76 (((),(),(),(),(-1:Int),u29),()))) .fail)
noncomputable abbrev A0i:Y5.den→RT Y5.den:=(fun d=>B5M d.1.1 d.1.2.1 d.1.2.2.2.2.2.1)
noncomputable abbrev B19 (x0:LBBe) (x1 x5:Int):Y5.den:=((x0,x1,(),(),(),x5,u28),())
noncomputable def B7Q:Code:=((D5 0 (A1o Tryz.f34)).getD 0 (0,.skip)).2
theorem C9I (x0:LBBe) (x1 x5:Int):(B0F x0 x1 x5).val (D:=Y5.den)=.fail∨Runs A0i (B19 x0 x1 x5) (B0F x0 x1 x5).val:=by
 cases hc:(decide (0≤x5)&&(decide (0≤x1∧x1≤100000*(x5+100))&&okL x0)) with
 | false=>left;simp only [B0F,CT.val,hc,cond_false]
 | true =>
  right
  simp only [B0F,CT.val,hc,cond_true]
  simp only [Bool.and_eq_true,decide_eq_true_eq] at hc
  obtain ⟨i,rfl⟩:=Int.eq_ofNat_of_zero_le hc.1
  have hs:=A7L hc.2.2
  have hk:=hc.2.1
  simp only [Int.toNat_natCast]
  have h:=Runs.loopN (step:=A0i) (fun j b=>B19 x0 b (j:Int)) (fun i b=>0≤b∧b≤100000*((i:Int)+100)) (x0.length) (N4 x0)
   (fin:=fun b=>((.done (.exit 0) B36 (((),b,u32),())):CT).val) (bad:=fun _=>((.done .ret A76 (((),(),(),(),(-1:Int),u29),())):CT).val)
   (fun i b hi hb=>?_) (fun i b hi hb=>?_) (x0.length - i) i x1 rfl hk
  ·revert h
   cases loopN (N4 x0) (x0.length - i) i x1 with
   | inl b=>exact id
   | inr c=>exact id
  ·revert hb
   generalize b=k
   intro hb
   have w1:wI (k+(1:Int))=k+(1:Int):=A61 (by omega) (by omega)
   have w2:wI (k+(1:Int)+(1:Int))=k+(1:Int)+(1:Int):=A61 (by omega) (by omega)
   have e0:(decide (0≤(i:Int)∧(i:Int)<(x0.length:Int)))=true:=decide_eq_true (by omega)
   have e1:(I8 k)=true:=by simp only [I8,w1,w2];exact decide_eq_true (by omega)
   have e2:(decide (0≤(i:Int)∧(i:Int)<(x0.length:Int)))=true:=decide_eq_true (by omega)
   have e3:(I8 (wI (k+(1:Int))))=true:=by simp only [I8,w1,w2];exact decide_eq_true (by omega)
   have h1:decide ((i:Int)<(x0.length:Int))=true:=decide_eq_true (by omega)
   have e:(A0i (B19 x0 k (i:Int))).val=(cond (!(((x0.getD i ((⟨#[]⟩:ByteArray),(⟨#[]⟩:ByteArray))).1).toList==(I9 k).toList)) ((.done .ret A76 (((),(),(),(),(-1:Int),u29),())):CT).val (cond (!(((x0.getD i ((⟨#[]⟩:ByteArray),(⟨#[]⟩:ByteArray))).2).toList==(I9 (wI (k+(1:Int)))).toList)) ((.done .ret A76 (((),(),(),(),(-1:Int),u29),())):CT).val (.next (B19 x0 (wI ((wI (k+(1:Int)))+(1:Int))) ((i+1:Nat):Int))))):=by
    simp only [A0i,B5M,RT.val,h1,e0,e1,e2,e3,cond_true,A7T i (by omega),Int.toNat_natCast]
    rfl
   cases g0:(!(((x0.getD i ((⟨#[]⟩:ByteArray),(⟨#[]⟩:ByteArray))).1).toList==(I9 k).toList)) with
   | true=>exact .inr ⟨(),_,_,_,by simp only [N4,g0,cond_true,cond_false],by rw [e,g0];rfl,rfl,by simp⟩
   | false =>
    cases g1:(!(((x0.getD i ((⟨#[]⟩:ByteArray),(⟨#[]⟩:ByteArray))).2).toList==(I9 (wI (k+(1:Int)))).toList)) with
    | true=>exact .inr ⟨(),_,_,_,by simp only [N4,g0,g1,cond_true,cond_false],by rw [e,g0,g1];rfl,rfl,by simp⟩
    | false =>
     exact .inl ⟨wI ((wI (k+(1:Int)))+(1:Int)),by simp only [N4,g0,g1,cond_false],by rw [w1,w2];omega,by rw [e,g0,g1];rfl⟩
  ·have h1:decide ((i:Int)<(x0.length:Int))=false:=decide_eq_false (by omega)
   exact ⟨by simp only [A0i,B5M,RT.val,h1,cond_false];rfl,_,_,_,rfl,by simp⟩
noncomputable def C1e (x0:LBBe) (x1 x5:Int):Option (Ex×St):=let z1:=(⟨(.junk::.junk::.junk::.junk::(ti (-1:Int))::D9j),[],0,[]⟩:St);let z2:=wI (x1+(1:Int));let z3:=decide (0≤x5∧x5<(x0.length:Int));let z4:=x0.getD x5.toNat (bE,bE);(cond (decide (x5<(x0.length:Int))) (cond z3 (cond (I8 x1) (cond (!((z4.1).toList==(I9 x1).toList)) (some (.ret,z1)) (cond z3 (cond (I8 z2) (cond (!((z4.2).toList==(I9 z2).toList)) (some (.ret,z1)) (some (.normal,(⟨((.t false tq6 x0)::(ti (wI (z2+(1:Int))))::.junk::.junk::.junk::(ti (wI (x5+(1:Int))))::D9K),[],0,[]⟩:St)))) none) none)) none) none) (some ((.exit 0),(⟨(.junk::(ti x1)::D9k),[],0,[]⟩:St))))
theorem C7P:RdA G98 aLn 0 B7Q Y5 0 [] (kepts [4] [(0,[1])]) (fun d=>C1e d.1.1 d.1.2.1 d.1.2.2.2.2.2.1):=by
 intro d
 kernel_rfl
theorem C7W:∀ d:Y5.den,(fun d=>C1e d.1.1 d.1.2.1 d.1.2.2.2.2.2.1) d=(A0i d).opt 0 []:=by
 intro d
 kernel_rfl
noncomputable abbrev B9B:St→Option Tree:=Y5.say 0 [] [] (fun d=>B0F d.1.1 d.1.2.1 d.1.2.2.2.2.2.1)
theorem C80:aPL B9B B7Q:=SS.wp2 hlz [] A0i C7P C7W _ (fun d=>C9I d.1.1 d.1.2.1 d.1.2.2.2.2.2.1)
noncomputable def B0W (a0:LBBe) (a1:Int):Int:=let z1:=loopN (N4 a0) (a0.length - (0:Int).toNat) (0:Int).toNat a1;(cond (A7S z1) (A7J (-1) z1) (-1:Int))
noncomputable abbrev B50 (r:Int):AV×List AObj:=((ti r),[])
noncomputable abbrev C0c:D9 B26→AV×List AObj:=fun d=>B50 (B0W d.1 d.2.1)
noncomputable def A9G (a0:LBBe) (a1:Int):Bool:=okL a0&&decide (0≤a1∧a1≤10000000)
noncomputable abbrev B7f:D9 B26→Bool:=fun d=>A9G d.1 d.2.1
noncomputable abbrev D2n:Nat→St→Option Tree:=fun b=>match b with | 0=>B9B | _=>fun _=>none
theorem D0Y:A7X true G98 (D2n) Tryz.f34 B26 B7f C0c:=by
 rintro ⟨a0,⟨a1,_⟩⟩ hp
 change A9G a0 a1=true at hp
 unfold A9G at hp
 refine Eq.trans (b:=(let z1:=loopN (N4 a0) (a0.length - (0:Int).toNat) (0:Int).toNat a1;cond (decide (0≤(0:Int))&&(decide (0≤a1∧a1≤100000*((0:Int)+100))&&okL a0)) (cond (A7S z1) (some (B50 (A7J (-1) z1))) (some (B50 (-1:Int)))) none)) (by kernel_rfl) ?_
 exact (A70 (by first | rfl | decide | exact hp | (simp only [Bool.and_eq_true] at hp;simp only [hp];done) | (simp [*];done) | (simp [okL] at hp;simp [okL,MAXB];omega) | (simp_all;done) | (simp at *;omega)) (fun _h=>(Q7 B50 (fun _h=>rfl) (fun _h=>rfl))))
theorem D2B:aPP 34 (A19 B26 B7f C0c):=pcD true G98 (hl1 (i:=0) (by kernel_rfl) C80) D0Y
noncomputable def S99:Tab:=Tab.add S98 34 (lift (A19 B26 B7f C0c))
noncomputable def E1k:FuncId→Bool:=qadd E1j 34
theorem G99:aPG S99 E1k:=G98.addQ D2B (cbl Tryz.f34) (fun _=>rfl)

abbrev B27:List PSh:=[.agg [(.int .i64),tq3,(.int .i64),tq6,tq3],.t (.int .i64)]
noncomputable def C0q (a0:Int) (a1:Lq1) (a2:Int) (a3:LBBe) (a4:Lq1) (a5:Int):Int:=let z1:=B0W a3 (A9e a1 a5);(cond (decide ((A9e a1 a5)<(0:Int))) (-1:Int) (cond (decide (z1<(0:Int))) (-1:Int) (cond (decide ((A9e a4 z1)<(0:Int))) (-1:Int) (A9e a4 z1))))
noncomputable abbrev B1f (r:Int):AV×List AObj:=((ti r),[])
noncomputable abbrev C0d:D9 B27→AV×List AObj:=fun d=>B1f (C0q d.1.1 d.1.2.1 d.1.2.2.1 d.1.2.2.2.1 d.1.2.2.2.2.1 d.2.1)
noncomputable def A9H (a0:Int) (a1:Lq1) (a2:Int) (a3:LBBe) (a4:Lq1) (a5:Int):Bool:=let z1:=A9e a1 a5;(A8I a1 a5)&&(cond (decide (z1<(0:Int))) true ((A9G a3 z1)&&(cond (decide ((B0W a3 z1)<(0:Int))) true (A8I a4 (B0W a3 z1)))))
noncomputable abbrev B7g:D9 B27→Bool:=fun d=>A9H d.1.1 d.1.2.1 d.1.2.2.1 d.1.2.2.2.1 d.1.2.2.2.2.1 d.2.1
theorem D0Z:A7X true G99 aLn Tryz.f14 B27 B7g C0d:=by
 rintro ⟨⟨a0,⟨a1,⟨a2,⟨a3,⟨a4,_⟩⟩⟩⟩⟩,⟨a5,_⟩⟩ hp
 change A9H a0 a1 a2 a3 a4 a5=true at hp
 unfold A9H at hp
 refine Eq.trans (b:=(let z2:=B1f (-1:Int);let z3:=A9e a1 a5;let z1:=B0W a3 z3;cond (A8I a1 a5) (cond (decide (z3<(0:Int))) (some z2) (cond (A9G a3 z3) (cond (decide (z1<(0:Int))) (some z2) (cond (A8I a4 z1) (cond (decide ((A9e a4 z1)<(0:Int))) (some z2) (some (B1f (A9e a4 z1)))) none)) none)) none)) (by kernel_rfl) ?_
 exact (A7Y hp fun hp=>(K9 B1f hp (fun hp=>rfl) (fun hp=>(A7Y hp fun hp=>(K9 B1f hp (fun hp=>rfl) (fun hp=>(A70 hp fun _h=>(Q7 B1f (fun _h=>rfl) (fun _h=>rfl)))))))))
theorem D2C:aPP 14 (A19 B27 B7g C0d):=pcD true G99 hlz D0Z
noncomputable def E1P:Tab:=Tab.add S99 14 (lift (A19 B27 B7g C0d))
noncomputable def D9V:FuncId→Bool:=qadd E1k 14
theorem D9T:aPG E1P D9V:=G99.addQ D2C (cbl Tryz.f14) (fun _=>rfl)


end Go.Proofs.YtgglehejlddghaaGreat.Eng
