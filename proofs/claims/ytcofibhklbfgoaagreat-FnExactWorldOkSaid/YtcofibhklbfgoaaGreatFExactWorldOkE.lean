/- What the functions that FnExactWorldOk reaches compute: further. -/
import Derived.Test.YtcofibhklbfgoaaGreatFExactWorldOkD
namespace Go.Proofs.YtcofibhklbfgoaaGreat.Eng
open Go Go.RowKit
set_option linter.unusedSimpArgs false
set_option linter.unusedVariables false
set_option maxRecDepth 10000
abbrev C1L:List PSh:=[.agg [(.int .i64),tq7],.agg [(.int .i64),tq7]]
noncomputable def D1w (a0:Int) (a1:Lq2) (a2:Int) (a3:Lq2):Bool:=(cond (a0 != a2) false (cond (!(B7y a1 a3)) false true))
noncomputable abbrev B7q (r:Bool):AV×List AObj:=((.t true .bool r),[])
noncomputable abbrev D5J:F5 C1L→AV×List AObj:=fun d=>B7q (D1w d.1.1 d.1.2.1 d.2.1.1 d.2.1.2.1)
noncomputable def B4w (a0:Int) (a1:Lq2) (a2:Int) (a3:Lq2):Bool:=cond (a0 != a2) true (B2j a1 a3)
noncomputable abbrev C76:F5 C1L→Bool:=fun d=>B4w d.1.1 d.1.2.1 d.2.1.1 d.2.1.2.1
theorem E7S:A6Q true F7f aLn Tryz.f80 C1L C76 D5J:=by
 rintro ⟨⟨a0,⟨a1,_⟩⟩,⟨⟨a2,⟨a3,_⟩⟩,_⟩⟩ hp
 change B4w a0 a1 a2 a3=true at hp
 unfold B4w at hp
 refine Eq.trans (b:=(cond (a0 != a2) (some (B7q false)) (cond (B2j a1 a3) (cond (!(B7y a1 a3)) (some (B7q false)) (some (B7q true))) none))) (by kernel_rfl) ?_
 exact (H7 B7q hp (fun hp=>rfl) (fun hp=>(A6T hp fun _h=>(L7 B7q (fun _h=>rfl) (fun _h=>rfl)))))
theorem F1j:aPP 80 (A2z C1L C76 D5J):=pcD true F7f hlz E7S
noncomputable def F92:Tab:=Tab.add F91 80 (lift (A2z C1L C76 D5J))
noncomputable def F6L:FuncId→Bool:=qadd F6K 80
theorem F5o:aPG F92 F6L:=F7f.addQ F1j (cbl Tryz.f80) (fun _=>rfl)

abbrev B8J:List PSh:=[.t tq9,.t tq9]
abbrev A8L:SS:=⟨(.t false tq9::.t false tq9::.junk::.junk::.junk::tI::B9R),[]⟩
abbrev C8R:SS:=⟨(.junk::.junk::.junk::.junk::.t true .bool::C94),[]⟩
abbrev C8S:SS:=⟨(.junk::D7E),[]⟩
noncomputable def D2U (x0 x1:Lq6) (x5:Int):RT A8L.den:=let z1:=x0.getD x5.toNat ((0:Int),[]);let z2:=x1.getD x5.toNat ((0:Int),[]);(.br (decide (x5<(x0.length:Int))) (.br (decide (0≤x5∧x5<(x0.length:Int))) (.br (decide (0≤x5∧x5<(x1.length:Int))) (.br (B4w (z1.1) (z1.2) (z2.1) (z2.2)) (.br (!(D1w (z1.1) (z1.2) (z2.1) (z2.2))) (.done .ret C8R (((),(),(),(),false,u23),())) (.next ((x0,x1,(),(),(),wI (x5+(1:Int)),u22),()))) .fail) .fail) .fail) (.done (.exit 0) C8S ((u28),())))
abbrev B7U:=(Lq6)×Lq6×(Int)
abbrev A8J:=Nat×(Bool)
def B52:A8J:=(99,(false:Bool))
noncomputable def B6J (x0 x1:Lq6) (x5:Int):B7U ⊕ A8J:=let z1:=x0.getD x5.toNat ((0:Int),[]);let z2:=x1.getD x5.toNat ((0:Int),[]);(cond (decide (x5<(x0.length:Int))) (cond (decide (0≤x5∧x5<(x0.length:Int))) (cond (decide (0≤x5∧x5<(x1.length:Int))) (cond (B4w (z1.1) (z1.2) (z2.1) (z2.2)) (cond (!(D1w (z1.1) (z1.2) (z2.1) (z2.2))) (.inr (0,false)) (.inl (x0,x1,wI (x5+(1:Int))))) (.inr B52)) (.inr B52)) (.inr B52)) (.inr (1,(false:Bool))))
noncomputable def B13 (x0 x1:Lq6) (x5:Int):A8J:=itX (fun v:B7U=>B6J v.1 v.2.1 v.2.2) B52 (x0,x1,x5)
noncomputable def C2k (a:A8J):CT:=(.br (a.1==0) (.done .ret C8R (((),(),(),(),a.2,u23),())) (.br (a.1==1) (.done (.exit 0) C8S ((u28),())) .fail))
noncomputable def E4r (x0 x1:Lq6) (x5:Int):CT:=C2k (B13 x0 x1 x5)
noncomputable abbrev C3k:A8L.den→RT A8L.den:=(fun d=>D2U d.1.1 d.1.2.1 d.1.2.2.2.2.2.1)
noncomputable def C51:Code:=((C4 0 (A0y Tryz.f38)).getD 0 (0,.skip)).2
noncomputable abbrev D17 (v:B7U):A8L.den:=((v.1,v.2.1,(),(),(),v.2.2,u22),())
theorem E3I:(∀ v:B7U,(D2U v.1 v.2.1 v.2.2).val=A5T D17 C2k (B6J v.1 v.2.1 v.2.2))∧∀ a:A8J,CEnd A8L.den (C2k a):=⟨fun v=>(A6V (A6V (A6V (A6V (A6V rfl rfl) rfl) rfl) rfl) rfl),fun a=>(A6I aCD (A6I aCD A6K))⟩
theorem E1j:RdA F5o aLn 0 C51 A8L 0 [] (kepts [4] [(0,[])]) (fun d=>(C3k d).opt 0 []):=by
 intro d
 kernel_rfl
noncomputable abbrev C9G:St→Option Tree:=A8L.say 0 [] [] (fun d=>E4r d.1.1 d.1.2.1 d.1.2.2.2.2.2.1)
theorem E21:aPL C9G C51:=SS.wp2 hlz [] C3k E1j (fun d=>rfl) _ (fun d=>Runs.ofI2 (step:=C3k) D17 E3I rfl (d.1.1,d.1.2.1,d.1.2.2.2.2.2.1))
noncomputable def C6t (a0 a1:Lq6):Bool:=let z1:=B13 a0 a1 (0:Int);(cond ((a0.length:Int) != (a1.length:Int)) false (cond (z1.1==0) (z1.2) true))
noncomputable abbrev B4W (r:Bool):AV×List AObj:=((.t true .bool r),[])
noncomputable abbrev D1j:F5 B8J→AV×List AObj:=fun d=>B4W (C6t d.1 d.2.1)
noncomputable def B2k (a0 a1:Lq6):Bool:=let z1:=B13 a0 a1 (0:Int);cond ((a0.length:Int) != (a1.length:Int)) true (cond (z1.1==0) true (z1.1==1))
noncomputable abbrev C4S:F5 B8J→Bool:=fun d=>B2k d.1 d.2.1
noncomputable abbrev E8m:Nat→St→Option Tree:=fun b=>match b with | 0=>C9G | _=>fun _=>none
theorem E5s:A6Q true F5o (E8m) Tryz.f38 B8J C4S D1j:=by
 rintro ⟨a0,⟨a1,_⟩⟩ hp
 change B2k a0 a1=true at hp
 unfold B2k at hp
 refine Eq.trans (b:=(let z1:=B13 a0 a1 (0:Int);cond ((a0.length:Int) != (a1.length:Int)) (some (B4W false)) (cond (z1.1==0) (some (B4W (z1.2))) (cond (z1.1==1) (some (B4W true)) none)))) (by kernel_rfl) ?_
 exact (H7 B4W hp (fun hp=>rfl) (fun hp=>(H7 B4W hp (fun hp=>rfl) (fun hp=>(A6T hp fun _h=>rfl)))))
theorem E8V:aPP 38 (A2z B8J C4S D1j):=pcD true F5o (hl1 (i:=0) (by kernel_rfl) E21) E5s
noncomputable def F93:Tab:=Tab.add F92 38 (lift (A2z B8J C4S D1j))
noncomputable def F6M:FuncId→Bool:=qadd F6L 38
theorem F7g:aPG F93 F6M:=F5o.addQ E8V (cbl Tryz.f38) (fun _=>rfl)

abbrev C1P:List PSh:=[.agg [(.int .i64),(.int .i64),(.int .i64),tq5,K4,(.int .i64),tq3,tq4,tq4,tq9],.agg [(.int .i64),(.int .i64),(.int .i64),tq5,K4,(.int .i64),tq3,tq4,tq4,tq9]]
noncomputable def D7I (a0 a1 a2:Int) (a3:LT1) (a4:LIbe) (a5:Int) (a6:LT3) (a7 a8:LT2) (a9:Lq6) (a10 a11 a12:Int) (a13:LT1) (a14:LIbe) (a15:Int) (a16:LT3) (a17 a18:LT2) (a19:Lq6):Bool:=(cond (!(C6s a0 a1 a2 a3 a4 a5 a10 a11 a12 a13 a14 a15)) false (cond (!(C1k a6 a16)) false (cond (!(B6q a7 a17)) false (cond (!(B6q a8 a18)) false (cond (!(C6t a9 a19)) false true)))))
noncomputable abbrev A7n (r:Bool):AV×List AObj:=((.t true .bool r),[])
noncomputable abbrev D5N:F5 C1P→AV×List AObj:=fun d=>A7n (D7I d.1.1 d.1.2.1 d.1.2.2.1 d.1.2.2.2.1 d.1.2.2.2.2.1 d.1.2.2.2.2.2.1 d.1.2.2.2.2.2.2.1 d.1.2.2.2.2.2.2.2.1 d.1.2.2.2.2.2.2.2.2.1 d.1.2.2.2.2.2.2.2.2.2.1 d.2.1.1 d.2.1.2.1 d.2.1.2.2.1 d.2.1.2.2.2.1 d.2.1.2.2.2.2.1 d.2.1.2.2.2.2.2.1 d.2.1.2.2.2.2.2.2.1 d.2.1.2.2.2.2.2.2.2.1 d.2.1.2.2.2.2.2.2.2.2.1 d.2.1.2.2.2.2.2.2.2.2.2.1)
noncomputable def B4y (a0 a1 a2:Int) (a3:LT1) (a4:LIbe) (a5:Int) (a6:LT3) (a7 a8:LT2) (a9:Lq6) (a10 a11 a12:Int) (a13:LT1) (a14:LIbe) (a15:Int) (a16:LT3) (a17 a18:LT2) (a19:Lq6):Bool:=(B4v a0 a1 a2 a3 a4 a5 a10 a11 a12 a13 a14 a15)&&(cond (!(C6s a0 a1 a2 a3 a4 a5 a10 a11 a12 a13 a14 a15)) true ((B2l a6 a16)&&(cond (!(C1k a6 a16)) true ((A96 a7 a17)&&(cond (!(B6q a7 a17)) true ((A96 a8 a18)&&(cond (!(B6q a8 a18)) true (B2k a9 a19))))))))
noncomputable abbrev C8a:F5 C1P→Bool:=fun d=>B4y d.1.1 d.1.2.1 d.1.2.2.1 d.1.2.2.2.1 d.1.2.2.2.2.1 d.1.2.2.2.2.2.1 d.1.2.2.2.2.2.2.1 d.1.2.2.2.2.2.2.2.1 d.1.2.2.2.2.2.2.2.2.1 d.1.2.2.2.2.2.2.2.2.2.1 d.2.1.1 d.2.1.2.1 d.2.1.2.2.1 d.2.1.2.2.2.1 d.2.1.2.2.2.2.1 d.2.1.2.2.2.2.2.1 d.2.1.2.2.2.2.2.2.1 d.2.1.2.2.2.2.2.2.2.1 d.2.1.2.2.2.2.2.2.2.2.1 d.2.1.2.2.2.2.2.2.2.2.2.1
theorem E7W:A6Q true F7g aLn Tryz.f13 C1P C8a D5N:=by
 rintro ⟨⟨a0,⟨a1,⟨a2,⟨a3,⟨a4,⟨a5,⟨a6,⟨a7,⟨a8,⟨a9,_⟩⟩⟩⟩⟩⟩⟩⟩⟩⟩,⟨⟨a10,⟨a11,⟨a12,⟨a13,⟨a14,⟨a15,⟨a16,⟨a17,⟨a18,⟨a19,_⟩⟩⟩⟩⟩⟩⟩⟩⟩⟩,_⟩⟩ hp
 change B4y a0 a1 a2 a3 a4 a5 a6 a7 a8 a9 a10 a11 a12 a13 a14 a15 a16 a17 a18 a19=true at hp
 unfold B4y at hp
 refine Eq.trans (b:=(cond (B4v a0 a1 a2 a3 a4 a5 a10 a11 a12 a13 a14 a15) (cond (!(C6s a0 a1 a2 a3 a4 a5 a10 a11 a12 a13 a14 a15)) (some (A7n false)) (cond (B2l a6 a16) (cond (!(C1k a6 a16)) (some (A7n false)) (cond (A96 a7 a17) (cond (!(B6q a7 a17)) (some (A7n false)) (cond (A96 a8 a18) (cond (!(B6q a8 a18)) (some (A7n false)) (cond (B2k a9 a19) (cond (!(C6t a9 a19)) (some (A7n false)) (some (A7n true))) none)) none)) none)) none)) none)) (by kernel_rfl) ?_
 exact (A6R hp fun hp=>(H7 A7n hp (fun hp=>rfl) (fun hp=>(A6R hp fun hp=>(H7 A7n hp (fun hp=>rfl) (fun hp=>(A6R hp fun hp=>(H7 A7n hp (fun hp=>rfl) (fun hp=>(A6R hp fun hp=>(H7 A7n hp (fun hp=>rfl) (fun hp=>(A6T hp fun _h=>(L7 A7n (fun _h=>rfl) (fun _h=>rfl)))))))))))))))
theorem F1n:aPP 13 (A2z C1P C8a D5N):=pcD true F7g hlz E7W
noncomputable def G06:Tab:=Tab.add F93 13 (lift (A2z C1P C8a D5N))
noncomputable def F7W:FuncId→Bool:=qadd F6M 13
theorem F7Q:aPG G06 F7W:=F7g.addQ F1n (cbl Tryz.f13) (fun _=>rfl)


end Go.Proofs.YtcofibhklbfgoaaGreat.Eng
