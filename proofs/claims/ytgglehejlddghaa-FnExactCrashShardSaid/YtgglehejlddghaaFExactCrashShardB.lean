/- What the functions that FnExactCrashShard reaches compute: further. -/
import Derived.Test.YtgglehejlddghaaFExactCrashShardA
namespace Go.Proofs.Ytgglehejlddghaa.Eng
open Go Go.RowKit
set_option linter.unusedSimpArgs false
set_option linter.unusedVariables false
set_option maxRecDepth 10000
abbrev B1a:List PSh:=[.agg [(.int .i64),tq3,(.int .i64),tq6,tq3],.t (.int .i64)]
noncomputable def B59 (a0:Int) (a1:Lq1) (a2:Int) (a3:LBBe) (a4:Lq1) (a5:Int):=let z1:=B9u a0 a1 a2 a3 a4;C5s a5 (z1.1) (z1.2.1) (z1.2.2.1) (z1.2.2.2.1) (z1.2.2.2.2)
noncomputable def B4n (a0:Int) (a1:Lq1) (a2:Int) (a3:LBBe) (a4:Lq1) (a5:Int):Int×Lq1×Int×LBBe×Lq1:=let z1:=B59 a0 a1 a2 a3 a4 a5;let z2:=B9u a0 a1 a2 a3 a4;(cond (B8j a0 a1 a2 a3 a4) ((z1.1),(z1.2.1),(z1.2.2.1),(z1.2.2.2.1),(z1.2.2.2.2)) ((z2.1),(z2.2.1),(z2.2.2.1),(z2.2.2.2.1),(z2.2.2.2.2)))
noncomputable abbrev B3O (r:Int×Lq1×Int×LBBe×Lq1):AV×List AObj:=((.agg [(ti r.1),(.t true tq3 r.2.1),(ti r.2.2.1),(.t true tq6 r.2.2.2.1),(.t true tq3 r.2.2.2.2)]),[])
noncomputable abbrev B7e:H7 B1a→AV×List AObj:=fun d=>B3O (B4n d.1.1 d.1.2.1 d.1.2.2.1 d.1.2.2.2.1 d.1.2.2.2.2.1 d.2.1)
noncomputable def A7K (a0:Int) (a1:Lq1) (a2:Int) (a3:LBBe) (a4:Lq1) (a5:Int):Bool:=let z1:=B9u a0 a1 a2 a3 a4;(B3C a0 a1 a2 a3 a4)&&((B1M a0 a1 a2 a3 a4)&&(cond (B8j a0 a1 a2 a3 a4) (B1N a5 (z1.1) (z1.2.1) (z1.2.2.1) (z1.2.2.2.1) (z1.2.2.2.2)) true))
noncomputable abbrev B4K:H7 B1a→Bool:=fun d=>A7K d.1.1 d.1.2.1 d.1.2.2.1 d.1.2.2.2.1 d.1.2.2.2.2.1 d.2.1
theorem C7I:A7C true G39 aLn Try.f22 B1a B4K B7e:=by
 rintro ⟨⟨a0,⟨a1,⟨a2,⟨a3,⟨a4,_⟩⟩⟩⟩⟩,⟨a5,_⟩⟩ hp
 change A7K a0 a1 a2 a3 a4 a5=true at hp
 unfold A7K at hp
 refine Eq.trans (b:=(let z1:=B9u a0 a1 a2 a3 a4;let z2:=B59 a0 a1 a2 a3 a4 a5;cond (B3C a0 a1 a2 a3 a4) (cond (B1M a0 a1 a2 a3 a4) (cond (B8j a0 a1 a2 a3 a4) (cond (B1N a5 (z1.1) (z1.2.1) (z1.2.2.1) (z1.2.2.2.1) (z1.2.2.2.2)) (some (B3O ((z2.1),(z2.2.1),(z2.2.2.1),(z2.2.2.2.1),(z2.2.2.2.2)))) none) (some (B3O ((z1.1),(z1.2.1),(z1.2.2.1),(z1.2.2.2.1),(z1.2.2.2.2))))) none) none)) (by kernel_rfl) ?_
 exact (A7D hp fun hp=>(A7D hp fun hp=>(L8 B3O hp (fun hp=>(A7F hp fun _h=>rfl)) (fun hp=>rfl))))
theorem C9C:aPP 22 (A22 B1a B4K B7e):=pcD true G39 hlz C7I
noncomputable def S40:Tab:=Tab.add S39 22 (lift (A22 B1a B4K B7e))
noncomputable def D6z:FuncId→Bool:=qadd D71 22
theorem G40:aPG S40 D6z:=G39.addQ C9C (cbl Try.f22) (fun _=>rfl)

abbrev A83:List PSh:=[.t tq4]
noncomputable def L1 (a0:Lq2):Lq2:=a0
noncomputable abbrev A7U (r:Lq2):AV×List AObj:=(.all 0 3,[.rows 85 true tq8 r])
noncomputable abbrev B56:H7 A83→AV×List AObj:=fun d=>A7U (L1 d.1)
noncomputable def K0 (a0:Lq2):Bool:=decide ((([]:Lq2).length+a0.length)*40≤MAXB)
noncomputable abbrev B4j:H7 A83→Bool:=fun d=>K0 d.1
theorem C2t (a0:Lq2) (h0:0<a0.length) (hp:K0 a0=true):A6F false Try.prog tt S40 D6z aLn Try.f94 [.t (Ty.sl tq8).flat tq4 a0]=some (A7U a0):=by
 refine Eq.trans (b:=cond (decide (0<a0.length)) (cond (K0 a0) (some (A7U a0)) none) none) (by kernel_rfl) ?_
 rw [decide_eq_true h0,hp];rfl
theorem C2u (A:Option Addr) (c:Nat):A6F false Try.prog tt S40 D6z aLn Try.f94 [.raw (.slice A 0 c)]=some (A7U []):=by
 cases A<;>kernel_rfl
theorem C3g:aPP 94 (A22 A83 B4j B56):=PContract.split (e:=tq8) (pre:=K0) (g:=fun a0=>A7U (L1 a0)) (fun l h0 hp=>PCalls.of_run false G40 (fn:=Try.f94) (by kernel_rfl) (L:=fun _ _=>none) (by rw [show D4 0 (A1l Try.f94)=[] by kernel_rfl];simp) (C2t l h0 hp) rfl rfl) (fun A c=>PCalls.of_run false G40 (fn:=Try.f94) (by kernel_rfl) (L:=fun _ _=>none) (by rw [show D4 0 (A1l Try.f94)=[] by kernel_rfl];simp) (C2u A c) rfl rfl)
noncomputable def S41:Tab:=Tab.add S40 94 (lift (A22 A83 B4j B56))
noncomputable def D72:FuncId→Bool:=D6z
theorem G41:aPG S41 D72:=G40.add C3g ⟨Try.f94,by kernel_rfl,by kernel_rfl,by kernel_rfl⟩ (by kernel_rfl)

abbrev B3Z:List PSh:=[.t tq3]
abbrev A0o:SS:=⟨(.junk::.junk::.junk::.all 0 3::.junk::.junk::.t false tq3::tI::tI::D85),[.deep 32 [85] tq5]⟩
abbrev B9F:SS:=⟨(.junk::.junk::.junk::.all 0 3::D2C),[.deep 32 [85] tq5]⟩
noncomputable def C1X (x6:Lq1) (x7 x8:Int) (h0:Lq1):RT A0o.den:=let z1:=x6.getD x8.toNat ((0:Int),((0:Int),[]));let z2:=L1 ((z1.2).2);(.br (decide (x8<x7)) (.br (decide (0≤x8∧x8<(x6.length:Int))) (.br (K0 ((z1.2).2)) (.br (decide ((h0.length+([(z1.1,((z1.2).1,z2))]:Lq1).length)*40≤MAXB)) (.next (((),(),(),(),(),(),x6,x7,wI (x8+(1:Int)),u14),(h0++([(z1.1,((z1.2).1,z2))]),()))) .fail) .fail) .fail) (.done (.exit 0) B9F ((u23),(h0,()))))
abbrev B1f:=(Lq1)×(Int)×(Int)×(Lq1)
abbrev B00:=Nat×(Lq1)
def A96:B00:=(99,([]:Lq1))
noncomputable def B0x (x6:Lq1) (x7 x8:Int) (h0:Lq1):B1f ⊕ B00:=let z1:=x6.getD x8.toNat ((0:Int),((0:Int),[]));let z2:=L1 ((z1.2).2);(cond (decide (x8<x7)) (cond (decide (0≤x8∧x8<(x6.length:Int))) (cond (K0 ((z1.2).2)) (cond (decide ((h0.length+([(z1.1,((z1.2).1,z2))]:Lq1).length)*40≤MAXB)) (.inl (x6,x7,wI (x8+(1:Int)),h0++([(z1.1,((z1.2).1,z2))]))) (.inr A96)) (.inr A96)) (.inr A96)) (.inr (0,h0)))
noncomputable def C08 (x6:Lq1) (x7 x8:Int) (h0:Lq1):B00:=itX (fun v:B1f=>B0x v.1 v.2.1 v.2.2.1 v.2.2.2) A96 (x6,x7,x8,h0)
noncomputable def B5X (a:B00):CT:=(.br (a.1==0) (.done (.exit 0) B9F ((u23),(a.2,()))) .fail)
noncomputable def C9u (x6:Lq1) (x7 x8:Int) (h0:Lq1):CT:=B5X (C08 x6 x7 x8 h0)
noncomputable abbrev C0G {α:Sort _} (f:Lq1→Int→Int→Lq1→α) (d:A0o.den):α:=f d.1.2.2.2.2.2.2.1 d.1.2.2.2.2.2.2.2.1 d.1.2.2.2.2.2.2.2.2.1 d.2.1
noncomputable abbrev B6r:A0o.den→RT A0o.den:=(C0G C1X)
noncomputable def B7S:Code:=((D4 0 (A1l Try.f80)).getD 0 (0,.skip)).2
noncomputable abbrev C1y (v:B1f):A0o.den:=(((),(),(),(),(),(),v.1,v.2.1,v.2.2.1,u14),(v.2.2.2,()))
theorem C81:(∀ v:B1f,(C1X v.1 v.2.1 v.2.2.1 v.2.2.2).val=A6D C1y B5X (B0x v.1 v.2.1 v.2.2.1 v.2.2.2))∧∀ a:B00,CEnd A0o.den (B5X a):=⟨fun v=>(A7H (A7H (A7H (A7H rfl rfl) rfl) rfl) rfl),fun a=>(A7u aCD A7w)⟩
theorem C7p:RdA (G41.deep ow) aLn 0 B7S A0o 0 [] (kepts [] [(0,[3])]) (fun d=>(B6r d).opt 0 []):=by
 intro d
 kernel_rfl
noncomputable abbrev B94:St→Option Tree:=A0o.say 0 [] [(3,850000032,tq5)] (C0G C9u)
theorem C8E:aPL B94 B7S:=SS.wp2 hlz [(3,850000032,tq5)] B6r C7p (fun d=>rfl) _ (fun d=>Runs.ofI2 (step:=B6r) C1y C81 rfl (d.1.2.2.2.2.2.2.1,d.1.2.2.2.2.2.2.2.1,d.1.2.2.2.2.2.2.2.2.1,d.2.1))
noncomputable def B2L (a0:Lq1):=C08 a0 (a0.length:Int) (0:Int) ([]:Lq1)
noncomputable def B3w (a0:Lq1):Lq1:=((B2L a0).2)
noncomputable abbrev C6y (r:Lq1):AV×List AObj:=((.all 0 3),[(.deep 32 [85] tq5 r)])
noncomputable abbrev C03:H7 B3Z→AV×List AObj:=fun d=>C6y (B3w d.1)
noncomputable def A8s (a0:Lq1):Bool:=((B2L a0).1==0)
noncomputable abbrev B7k:H7 B3Z→Bool:=fun d=>A8s d.1
noncomputable abbrev D1Y:Nat→St→Option Tree:=fun b=>match b with | 0=>B94 | _=>fun _=>none
theorem C9Z:A7C false (G41.deep ow) (D1Y) Try.f80 B3Z B7k C03:=by
 rintro ⟨a0,_⟩ hp
 change A8s a0=true at hp
 unfold A8s at hp
 refine Eq.trans (b:=(cond ((B2L a0).1==0) (some (C6y ((B2L a0).2))) none)) (by kernel_rfl) ?_
 exact (A7F hp fun _h=>rfl)
theorem D2f:aPP 80 (A22 B3Z B7k C03):=pcD false (G41.deep ow) (hl1 (i:=0) (by kernel_rfl) C8E) C9Z
noncomputable def S42:Tab:=Tab.add S41 80 (lift (A22 B3Z B7k C03))
noncomputable def D6A:FuncId→Bool:=D72
theorem G42:aPG S42 D6A:=G41.add D2f (cbl Try.f80) (by kernel_rfl)

abbrev A8h:List PSh:=[.t tq6]
noncomputable def L2 (a0:LBBe):LBBe:=a0
noncomputable abbrev Y5 (r:LBBe):AV×List AObj:=(.all 0 2,[.rows 70 true J5 r])
noncomputable abbrev B39:H7 A8h→AV×List AObj:=fun d=>Y5 (L2 d.1)
noncomputable def J8 (a0:LBBe):Bool:=decide ((([]:LBBe).length+a0.length)*32≤MAXB)
noncomputable abbrev B2S:H7 A8h→Bool:=fun d=>J8 d.1
theorem C0h (a0:LBBe) (h0:0<a0.length) (hp:J8 a0=true):A6F false Try.prog tt S42 D6A aLn Try.f64 [.t (Ty.sl J5).flat tq6 a0]=some (Y5 a0):=by
 refine Eq.trans (b:=cond (decide (0<a0.length)) (cond (J8 a0) (some (Y5 a0)) none) none) (by kernel_rfl) ?_
 rw [decide_eq_true h0,hp];rfl
theorem C0i (A:Option Addr) (c:Nat):A6F false Try.prog tt S42 D6A aLn Try.f64 [.raw (.slice A 0 c)]=some (Y5 []):=by
 cases A<;>kernel_rfl
theorem C0P:aPP 64 (A22 A8h B2S B39):=PContract.split (e:=J5) (pre:=J8) (g:=fun a0=>Y5 (L2 a0)) (fun l h0 hp=>PCalls.of_run false G42 (fn:=Try.f64) (by kernel_rfl) (L:=fun _ _=>none) (by rw [show D4 0 (A1l Try.f64)=[] by kernel_rfl];simp) (C0h l h0 hp) rfl rfl) (fun A c=>PCalls.of_run false G42 (fn:=Try.f64) (by kernel_rfl) (L:=fun _ _=>none) (by rw [show D4 0 (A1l Try.f64)=[] by kernel_rfl];simp) (C0i A c) rfl rfl)
noncomputable def S43:Tab:=Tab.add S42 64 (lift (A22 A8h B2S B39))
noncomputable def D73:FuncId→Bool:=D6A
theorem G43:aPG S43 D73:=G42.add C0P ⟨Try.f64,by kernel_rfl,by kernel_rfl,by kernel_rfl⟩ (by kernel_rfl)

abbrev B2h:List PSh:=[.agg [(.int .i64),tq3,(.int .i64),tq6,tq3]]
noncomputable def A8y (a0:Int) (a1:Lq1) (a2:Int) (a3:LBBe) (a4:Lq1):Int×Int×Lq1×LBBe×Lq1:=(a0,a2,(B3w a1),(L2 a3),(B3w a4))
noncomputable abbrev C4r (r:Int×Int×Lq1×LBBe×Lq1):AV×List AObj:=((.agg [(ti r.1),(.all 0 3),(ti r.2.1),(.all 1 2),(.all 2 3)]),[(.deep 32 [85] tq5 r.2.2.1),(.rows 70 true J5 r.2.2.2.1),(.deep 32 [85] tq5 r.2.2.2.2)])
noncomputable abbrev B8S:H7 B2h→AV×List AObj:=fun d=>C4r (A8y d.1.1 d.1.2.1 d.1.2.2.1 d.1.2.2.2.1 d.1.2.2.2.2.1)
noncomputable def U6 (a0:Int) (a1:Lq1) (a2:Int) (a3:LBBe) (a4:Lq1):Bool:=(A8s a1)&&((J8 a3)&&(A8s a4))
noncomputable abbrev B6e:H7 B2h→Bool:=fun d=>U6 d.1.1 d.1.2.1 d.1.2.2.1 d.1.2.2.2.1 d.1.2.2.2.2.1
theorem C87:A7C false (G43.deep ow) aLn Try.f40 B2h B6e B8S:=by
 rintro ⟨⟨a0,⟨a1,⟨a2,⟨a3,⟨a4,_⟩⟩⟩⟩⟩,_⟩ hp
 change U6 a0 a1 a2 a3 a4=true at hp
 unfold U6 at hp
 refine Eq.trans (b:=(cond (A8s a1) (cond (J8 a3) (cond (A8s a4) (some (C4r (a0,a2,(B3w a1),(L2 a3),(B3w a4)))) none) none) none)) (by kernel_rfl) ?_
 exact (A7D hp fun hp=>(A7D hp fun hp=>(A7F hp fun _h=>rfl)))
theorem D0B:aPP 40 (A22 B2h B6e B8S):=pcD false (G43.deep ow) hlz C87
noncomputable def S44:Tab:=Tab.add S43 40 (lift (A22 B2h B6e B8S))
noncomputable def D74:FuncId→Bool:=D73
theorem G44:aPG S44 D74:=G43.add D0B (cbl Try.f40) (by kernel_rfl)

abbrev B5z:List PSh:=[.t (.int .i64),.t (.int .i64),.t (.int .i64)]
noncomputable def A8o (a0 a1 a2:Int):Bool:=(cond (decide (a0 ≥ a1)) (decide (a0≤a2)) false)
noncomputable abbrev B8M (r:Bool):AV×List AObj:=((.t true .bool r),[])
noncomputable abbrev C3l:H7 B5z→AV×List AObj:=fun d=>B8M (A8o d.1 d.2.1 d.2.2.1)
noncomputable abbrev B9d:H7 B5z→Bool:=fun d=>true
theorem D1G:A7C true G44 aLn Try.f44 B5z B9d C3l:=by
 rintro ⟨a0,⟨a1,⟨a2,_⟩⟩⟩ hp
 refine Eq.trans (b:=(cond (decide (a0 ≥ a1)) (some (B8M (decide (a0≤a2)))) (some (B8M false)))) (by kernel_rfl) ?_
 exact (Q2 B8M (fun _h=>rfl) (fun _h=>rfl))
theorem D3L:aPP 44 (A22 B5z B9d C3l):=pcD true G44 hlz D1G
noncomputable def S45:Tab:=Tab.add S44 44 (lift (A22 B5z B9d C3l))
noncomputable def D75:FuncId→Bool:=qadd D74 44
theorem G45:aPG S45 D75:=G44.addQ D3L (cbl Try.f44) (fun _=>rfl)

abbrev C4a:List PSh:=[.t (.int .i64)]
noncomputable def D0g (a0:Int):Bool:=(A8o a0 (0:Int) (7:Int))
noncomputable abbrev D6M (r:Bool):AV×List AObj:=((.t true .bool r),[])
noncomputable abbrev D0N:H7 C4a→AV×List AObj:=fun d=>D6M (D0g d.1)
noncomputable abbrev C54:H7 C4a→Bool:=fun d=>true
theorem D5h:A7C true G45 aLn Try.f43 C4a C54 D0N:=by
 rintro ⟨a0,_⟩ hp
 kernel_rfl
theorem D6C:aPP 43 (A22 C4a C54 D0N):=pcD true G45 hlz D5h
noncomputable def S46:Tab:=Tab.add S45 43 (lift (A22 C4a C54 D0N))
noncomputable def D76:FuncId→Bool:=qadd D75 43
theorem G46:aPG S46 D76:=G45.addQ D6C (cbl Try.f43) (fun _=>rfl)

abbrev C4b:List PSh:=[.t (.int .i64)]
noncomputable def C6G (a0:Int):Bool:=(A8o a0 (1:Int) (1000000:Int))
noncomputable abbrev D6N (r:Bool):AV×List AObj:=((.t true .bool r),[])
noncomputable abbrev D0O:H7 C4b→AV×List AObj:=fun d=>D6N (C6G d.1)
noncomputable abbrev C55:H7 C4b→Bool:=fun d=>true
theorem D5i:A7C true G46 aLn Try.f91 C4b C55 D0O:=by
 rintro ⟨a0,_⟩ hp
 kernel_rfl
theorem D6D:aPP 91 (A22 C4b C55 D0O):=pcD true G46 hlz D5i
noncomputable def S47:Tab:=Tab.add S46 91 (lift (A22 C4b C55 D0O))
noncomputable def D77:FuncId→Bool:=qadd D76 91
theorem G47:aPG S47 D77:=G46.addQ D6D (cbl Try.f91) (fun _=>rfl)

abbrev B2j:List PSh:=[.t (.int .u8)]
noncomputable def B57 (a0:Int):Bool:=let z1:=decide (a0 ≥ (48:Int));let z2:=decide (a0≤(57:Int));(cond (decide (a0 ≥ (97:Int))) (cond (decide (a0≤(122:Int))) true (cond z1 z2 false)) (cond z1 z2 false))
noncomputable abbrev A0l (r:Bool):AV×List AObj:=((.t true .bool r),[])
noncomputable abbrev B8U:H7 B2j→AV×List AObj:=fun d=>A0l (B57 d.1)
noncomputable abbrev B6g:H7 B2j→Bool:=fun d=>true
theorem C89:A7C true G47 aLn Try.f149 B2j B6g B8U:=by
 rintro ⟨a0,_⟩ hp
 refine Eq.trans (b:=(let z1:=A0l (decide (a0≤(57:Int)));let z2:=decide (a0 ≥ (48:Int));cond (decide (a0 ≥ (97:Int))) (cond (decide (a0≤(122:Int))) (some (A0l true)) (cond z2 (some z1) (some (A0l false)))) (cond z2 (some z1) (some (A0l false))))) (by kernel_rfl) ?_
 exact (Q2 A0l (fun _h=>(Q2 A0l (fun _h=>rfl) (fun _h=>(Q2 A0l (fun _h=>rfl) (fun _h=>rfl))))) (fun _h=>(Q2 A0l (fun _h=>rfl) (fun _h=>rfl))))
theorem D0D:aPP 149 (A22 B2j B6g B8U):=pcD true G47 hlz C89
noncomputable def S48:Tab:=Tab.add S47 149 (lift (A22 B2j B6g B8U))
noncomputable def D78:FuncId→Bool:=qadd D77 149
theorem G48:aPG S48 D78:=G47.addQ D0D (cbl Try.f149) (fun _=>rfl)

abbrev D84:List Sh:=.junk::.junk::.junk::.junk::.junk::.junk::.junk::.junk::.junk::.junk::.junk::[]
abbrev u12:=((),(),(),(),(),(),(),(),(),(),(),())
noncomputable def B82 (s:ByteArray) (i:Nat):Bool:=B57 (bt s (i:Int))
abbrev B7G:List PSh:=[.t .str]
abbrev A9U:SS:=⟨(.t true .str::.junk::.junk::tI::D84),[]⟩
abbrev C2v:SS:=⟨(.junk::.junk::.t true .bool::D6a),[]⟩
abbrev C2w:SS:=⟨(.junk::D5a),[]⟩
noncomputable def B9E (x0:ByteArray) (x3:Int):RT A9U.den:=(.br (decide (x3<(x0.size:Int))) (.br (decide (0≤x3∧x3<(x0.size:Int))) (.br (!(B57 (bt x0 x3))) (.done .ret C2v (((),(),false,u13),())) (.next ((x0,(),(),wI (x3+(1:Int)),u12),()))) .fail) (.done (.exit 0) C2w ((u16),())))
noncomputable def B33 (x0:ByteArray) (x3:Int):CT:=(.br (decide (0≤x3)&&okS x0) (.br (A4H (B82 x0) (x0.size - x3.toNat) x3.toNat) (.done (.exit 0) C2w ((u16),())) (.done .ret C2v (((),(),false,u13),()))) .fail)
noncomputable abbrev B20:A9U.den→RT A9U.den:=(fun d=>B9E d.1.1 d.1.2.2.2.1)
noncomputable abbrev C4Q (x0:ByteArray) (x3:Int):A9U.den:=((x0,(),(),x3,u12),())
noncomputable def C0H:Code:=((D4 0 (A1l Try.f147)).getD 0 (0,.skip)).2
theorem D13 (x0:ByteArray) (x3:Int):(B33 x0 x3).val (D:=A9U.den)=.fail∨Runs B20 (C4Q x0 x3) (B33 x0 x3).val:=by
 cases hc:(decide (0≤x3)&&okS x0) with
 | false=>left;simp only [B33,CT.val,hc,cond_false]
 | true =>
  right
  simp only [B33,CT.val,hc,cond_true]
  simp only [Bool.and_eq_true,decide_eq_true_eq] at hc
  obtain ⟨i,rfl⟩:=Int.eq_ofNat_of_zero_le hc.1
  have hs:=A7r hc.2
  simp only [Int.toNat_natCast]
  refine Runs.scan (fun j=>C4Q x0 (j:Int)) (x0.size) (B82 x0) (fun i hi=>?_) (fun i hi=>?_) ⟨_,_,_,rfl,by simp⟩ ⟨_,_,_,rfl,by simp⟩ _ _ rfl
  ·
   have h0a:decide ((i:Int)<(x0.size:Int))=true:=decide_eq_true (by omega)
   have h0b:decide (0≤(i:Int)∧(i:Int)<(x0.size:Int))=true:=decide_eq_true (by omega)
   simp only [B20,B9E,RT.val,h0a,h0b,cond_true,A7y i (by omega),Int.toNat_natCast]
   simp only [B82]
   cases B57 (bt x0 (i:Int))<;>rfl
  ·have h1:decide ((i:Int)<(x0.size:Int))=false:=decide_eq_false (by omega)
   simp only [B20,B9E,RT.val,h1,cond_false]
theorem C9M:RdA G48 aLn 0 C0H A9U 0 [] (kepts [2] [(0,[])]) (fun d=>(B20 d).opt 0 []):=by
 intro d
 kernel_rfl
noncomputable abbrev C26:St→Option Tree:=A9U.say 0 [] [] (fun d=>B33 d.1.1 d.1.2.2.2.1)
theorem D04:aPL C26 C0H:=SS.wp2 hlz [] B20 C9M (fun d=>rfl) _ (fun d=>D13 d.1.1 d.1.2.2.2.1)
noncomputable def C7Q (a0:ByteArray):Bool:=(cond (A4H (B82 a0) (a0.size - (0:Int).toNat) (0:Int).toNat) true false)
noncomputable abbrev C2a (r:Bool):AV×List AObj:=((.t true .bool r),[])
noncomputable abbrev C5J:H7 B7G→AV×List AObj:=fun d=>C2a (C7Q d.1)
noncomputable def C2p (a0:ByteArray):Bool:=okS a0
noncomputable abbrev C1k:H7 B7G→Bool:=fun d=>C2p d.1
noncomputable abbrev D4E:Nat→St→Option Tree:=fun b=>match b with | 0=>C26 | _=>fun _=>none
theorem D25:A7C true G48 (D4E) Try.f147 B7G C1k C5J:=by
 rintro ⟨a0,_⟩ hp
 change C2p a0=true at hp
 unfold C2p at hp
 refine Eq.trans (b:=(cond (decide (0≤(0:Int))&&okS a0) (cond (A4H (B82 a0) (a0.size - (0:Int).toNat) (0:Int).toNat) (some (C2a true)) (some (C2a false))) none)) (by kernel_rfl) ?_
 exact (A7F (by first | rfl | decide | exact hp | (simp only [Bool.and_eq_true] at hp;simp only [hp];done) | (simp [*];done) | (simp [okL] at hp;simp [okL,MAXB];omega) | (simp_all;done) | (simp at *;omega)) (fun _h=>(Q2 C2a (fun _h=>rfl) (fun _h=>rfl))))
theorem D4R:aPP 147 (A22 B7G C1k C5J):=pcD true G48 (hl1 (i:=0) (by kernel_rfl) D04) D25
noncomputable def S49:Tab:=Tab.add S48 147 (lift (A22 B7G C1k C5J))
noncomputable def D79:FuncId→Bool:=qadd D78 147
theorem G49:aPG S49 D79:=G48.addQ D4R (cbl Try.f147) (fun _=>rfl)

abbrev C0o:List PSh:=[.t .str]
noncomputable def B7i (a0:ByteArray):Bool:=(cond (A8o (a0.size:Int) (1:Int) (12:Int)) (C7Q a0) false)
noncomputable abbrev C4o (r:Bool):AV×List AObj:=((.t true .bool r),[])
noncomputable abbrev C8f:H7 C0o→AV×List AObj:=fun d=>C4o (B7i d.1)
noncomputable def C41 (a0:ByteArray):Bool:=okS a0
noncomputable abbrev C3y:H7 C0o→Bool:=fun d=>C41 d.1
theorem D4d:A7C true G49 aLn Try.f141 C0o C3y C8f:=by
 rintro ⟨a0,_⟩ hp
 change C41 a0=true at hp
 unfold C41 at hp
 refine Eq.trans (b:=(cond (A8o (a0.size:Int) (1:Int) (12:Int)) (cond (C2p a0) (some (C4o (C7Q a0))) none) (some (C4o false)))) (by kernel_rfl) ?_
 exact (Q2 C4o (fun _h=>(A7F (by first | rfl | decide | exact hp | (simp only [Bool.and_eq_true] at hp;simp only [hp];done) | (simp [*];done) | (simp [okL] at hp;simp [okL,MAXB];omega) | (simp_all;done) | (simp at *;omega)) (fun _h=>rfl))) (fun _h=>rfl))
theorem D5J:aPP 141 (A22 C0o C3y C8f):=pcD true G49 hlz D4d
noncomputable def S50:Tab:=Tab.add S49 141 (lift (A22 C0o C3y C8f))
noncomputable def D8a:FuncId→Bool:=qadd D79 141
theorem G50:aPG S50 D8a:=G49.addQ D5J (cbl Try.f141) (fun _=>rfl)

abbrev C4c:List PSh:=[.agg [(.int .i64),.str,.str]]
noncomputable def C8z (a0:Int) (a1 a2:ByteArray):Bool:=let z1:=decide ((a2.size:Int)≤(20:Int));(cond (a0==(1:Int)) (cond (B7i a1) z1 false) (cond (a0==(3:Int)) (cond (B7i a1) z1 false) (cond (a0==(2:Int)) (cond (B7i a1) (a2.toList==bE.toList) false) false)))
noncomputable abbrev B0B (r:Bool):AV×List AObj:=((.t true .bool r),[])
noncomputable abbrev D0P:H7 C4c→AV×List AObj:=fun d=>B0B (C8z d.1.1 d.1.2.1 d.1.2.2.1)
noncomputable def C2q (a0:Int) (a1 a2:ByteArray):Bool:=okS a1
noncomputable abbrev C56:H7 C4c→Bool:=fun d=>C2q d.1.1 d.1.2.1 d.1.2.2.1
theorem D5j:A7C true G50 aLn Try.f128 C4c C56 D0P:=by
 rintro ⟨⟨a0,⟨a1,⟨a2,_⟩⟩⟩,_⟩ hp
 change C2q a0 a1 a2=true at hp
 unfold C2q at hp
 refine Eq.trans (b:=(let z1:=B0B (decide ((a2.size:Int)≤(20:Int)));let z2:=C41 a1;cond (a0==(1:Int)) (cond z2 (cond (B7i a1) (some z1) (some (B0B false))) none) (cond (a0==(3:Int)) (cond z2 (cond (B7i a1) (some z1) (some (B0B false))) none) (cond (a0==(2:Int)) (cond z2 (cond (B7i a1) (some (B0B (a2.toList==(⟨#[]⟩:ByteArray).toList))) (some (B0B false))) none) (some (B0B false)))))) (by kernel_rfl) ?_
 exact (Q2 B0B (fun _h=>(A7F (by first | rfl | decide | exact hp | (simp only [Bool.and_eq_true] at hp;simp only [hp];done) | (simp [*];done) | (simp [okL] at hp;simp [okL,MAXB];omega) | (simp_all;done) | (simp at *;omega)) (fun _h=>(Q2 B0B (fun _h=>rfl) (fun _h=>rfl))))) (fun _h=>(Q2 B0B (fun _h=>(A7F (by first | rfl | decide | exact hp | (simp only [Bool.and_eq_true] at hp;simp only [hp];done) | (simp [*];done) | (simp [okL] at hp;simp [okL,MAXB];omega) | (simp_all;done) | (simp at *;omega)) (fun _h=>(Q2 B0B (fun _h=>rfl) (fun _h=>rfl))))) (fun _h=>(Q2 B0B (fun _h=>(A7F (by first | rfl | decide | exact hp | (simp only [Bool.and_eq_true] at hp;simp only [hp];done) | (simp [*];done) | (simp [okL] at hp;simp [okL,MAXB];omega) | (simp_all;done) | (simp at *;omega)) (fun _h=>(Q2 B0B (fun _h=>rfl) (fun _h=>rfl))))) (fun _h=>rfl))))))
theorem D6E:aPP 128 (A22 C4c C56 D0P):=pcD true G50 hlz D5j
noncomputable def S51:Tab:=Tab.add S50 128 (lift (A22 C4c C56 D0P))
noncomputable def D8b:FuncId→Bool:=qadd D8a 128
theorem G51:aPG S51 D8b:=G50.addQ D6E (cbl Try.f128) (fun _=>rfl)

abbrev D65:List Sh:=.junk::.junk::D7q
abbrev u32:=((),(),u30)
abbrev D6Y:List AV:=.junk::.junk::D7n
abbrev D8W:List AV:=.junk::.junk::.junk::.junk::.junk::.junk::.junk::.junk::.junk::.junk::.junk::.junk::.junk::.junk::.junk::.junk::.junk::.junk::.junk::.junk::.junk::.junk::.junk::.junk::.junk::.junk::[]
noncomputable def C6F (l:Lq2) (i:Nat):Bool:=let z1:=l.getD i dOp;let z2:=l.getD (i - 1) dOp;C8z z1.1 z1.2.1 z1.2.2&&(decide (i=0)||!(Op.bytesLess z1.2.1.toList z2.2.1.toList||(z1.2.1.toList==z2.2.1.toList)))
abbrev C0q:List PSh:=[.t tq4]
abbrev A86:SS:=⟨(.t false tq4::.junk::.junk::.junk::.junk::.t false tq4::tI::tI::D2D),[]⟩
abbrev B8x:SS:=⟨(.junk::.junk::.t true .bool::D65),[]⟩
abbrev C3Y:SS:=⟨(.t false tq4::D2E),[]⟩
noncomputable def C1W (x0 x5:Lq2) (x6 x7:Int):RT A86.den:=let z1:=x5.getD x7.toNat ((0:Int),(bE,bE));let z2:=wI (x7 - (1:Int));let z3:=((x0.getD (z2.toNat) ((0:Int),(bE,bE))).2).1;(.br (decide (x7<x6)) (.br (decide (0≤x7∧x7<(x5.length:Int))) (.br (C2q (z1.1) ((z1.2).1) ((z1.2).2)) (.br (!(C8z (z1.1) ((z1.2).1) ((z1.2).2))) (.done .ret B8x (((),(),false,u32),())) (.br (decide (x7 > (0:Int))) (.br (decide (0≤z2∧z2<(x0.length:Int))) (.br (Op.bytesLess ((z1.2).1).toList z3.toList||(((z1.2).1).toList==z3.toList)) (.done .ret B8x (((),(),false,u32),())) (.next ((x0,(),(),(),(),x5,x6,wI (x7+(1:Int)),u27),()))) .fail) (.next ((x0,(),(),(),(),x5,x6,wI (x7+(1:Int)),u27),())))) .fail) .fail) (.done (.exit 0) C3Y ((x0,u34),())))
noncomputable def B5J (x0 x5:Lq2) (x6 x7:Int):CT:=(.br (decide (0≤x7)&&(decide (x6=(x5.length:Int))&&(decide (x5=x0)&&A7I x5))) (.br (A4H (C6F x5) (x5.length - x7.toNat) x7.toNat) (.done (.exit 0) C3Y ((x0,u34),())) (.done .ret B8x (((),(),false,u32),()))) .fail)
noncomputable abbrev B6N {α:Sort _} (f:Lq2→Lq2→Int→Int→α) (d:A86.den):α:=f d.1.1 d.1.2.2.2.2.2.1 d.1.2.2.2.2.2.2.1 d.1.2.2.2.2.2.2.2.1
noncomputable abbrev B4p:A86.den→RT A86.den:=(B6N C1W)
noncomputable abbrev C6T (x0 x5:Lq2) (x6 x7:Int):A86.den:=((x0,(),(),(),(),x5,x6,x7,u27),())
noncomputable def C2J:Code:=((D4 0 (A1l Try.f92)).getD 0 (0,.skip)).2
theorem D3v (x0 x5:Lq2) (x6 x7:Int):(B5J x0 x5 x6 x7).val (D:=A86.den)=.fail∨Runs B4p (C6T x0 x5 x6 x7) (B5J x0 x5 x6 x7).val:=by
 cases hc:(decide (0≤x7)&&(decide (x6=(x5.length:Int))&&(decide (x5=x0)&&A7I x5))) with
 | false=>left;simp only [B5J,CT.val,hc,cond_false]
 | true =>
  right
  simp only [B5J,CT.val,hc,cond_true]
  simp only [Bool.and_eq_true,decide_eq_true_eq] at hc
  obtain ⟨i,rfl⟩:=Int.eq_ofNat_of_zero_le hc.1
  obtain ⟨_,e6,e5,hc⟩:=hc
  subst e5;subst e6
  have hs:=A8e hc
  simp only [Int.toNat_natCast]
  refine Runs.scan (fun j=>C6T x5 x5 (x5.length:Int) (j:Int)) (x5.length) (C6F x5) (fun i hi=>?_) (fun i hi=>?_) ⟨_,_,_,rfl,by simp⟩ ⟨_,_,_,rfl,by simp⟩ _ _ rfl
  ·
   have h0a:decide ((i:Int)<(x5.length:Int))=true:=decide_eq_true (by omega)
   have h0b:decide (0≤(i:Int)∧(i:Int)<(x5.length:Int))=true:=decide_eq_true (by omega)
   simp only [B4p,C1W,RT.val,h0a,h0b,cond_true,A7y i (by omega),Int.toNat_natCast]
   have hq:C2q (x5.getD i dOp).1 (x5.getD i dOp).2.1 (x5.getD i dOp).2.2=true:=(D2S hc i hi).1
   simp only [dOp] at hq
   simp only [hq,cond_true,C6F,dOp]
   cases C8z (x5.getD i ((0:Int),((⟨#[]⟩:ByteArray),(⟨#[]⟩:ByteArray)))).1 (x5.getD i ((0:Int),((⟨#[]⟩:ByteArray),(⟨#[]⟩:ByteArray)))).2.1 (x5.getD i ((0:Int),((⟨#[]⟩:ByteArray),(⟨#[]⟩:ByteArray)))).2.2 with
   | false=>rfl
   | true =>
    cases i with
    | zero=>rfl
    | succ i =>
     have h3:decide (((i+1:Nat):Int) > 0)=true:=decide_eq_true (by omega)
     have h4:wI (((i+1:Nat):Int) - 1)=(i:Int):=by have:=A6J (n:=((i+1:Nat):Int) - 1) (by omega) (by omega);omega
     have h5:decide (0≤(i:Int)∧(i:Int)<(x5.length:Int))=true:=decide_eq_true (by omega)
     have h6:decide (i+1=0)=false:=by simp
     simp only [h3,h4,h5,h6,cond_true,Bool.true_and,Bool.false_or,Int.toNat_natCast,Nat.add_sub_cancel,Bool.not_true,cond_false]
     cases (Op.bytesLess (x5.getD (i+1) ((0:Int),((⟨#[]⟩:ByteArray),(⟨#[]⟩:ByteArray)))).2.1.toList (x5.getD i ((0:Int),((⟨#[]⟩:ByteArray),(⟨#[]⟩:ByteArray)))).2.1.toList||((x5.getD (i+1) ((0:Int),((⟨#[]⟩:ByteArray),(⟨#[]⟩:ByteArray)))).2.1.toList==(x5.getD i ((0:Int),((⟨#[]⟩:ByteArray),(⟨#[]⟩:ByteArray)))).2.1.toList))<;>rfl
  ·have h1:decide ((i:Int)<(x5.length:Int))=false:=decide_eq_false (by omega)
   simp only [B4p,C1W,RT.val,h1,cond_false]
noncomputable def C6O (x0 x5:Lq2) (x6 x7:Int):Option (Ex×St):=let z1:=x5.getD x7.toNat ((0:Int),(bE,bE));let z2:=(⟨((.t false tq4 x0)::.junk::.junk::.junk::.junk::(.t false tq4 x5)::(ti x6)::(ti (wI (x7+(1:Int))))::D8W),[],0,[]⟩:St);let z3:=wI (x7 - (1:Int));let z4:=(⟨(.junk::.junk::(.t true .bool false)::D6Y),[],0,[]⟩:St);let z5:=((x0.getD (z3.toNat) ((0:Int),(bE,bE))).2).1;(cond (decide (x7<x6)) (cond (decide (0≤x7∧x7<(x5.length:Int))) (cond (C2q (z1.1) ((z1.2).1) ((z1.2).2)) (cond (!(C8z (z1.1) ((z1.2).1) ((z1.2).2))) (some (.ret,z4)) (cond (decide (x7 > (0:Int))) (cond (decide (0≤z3∧z3<(x0.length:Int))) (cond (Op.bytesLess ((z1.2).1).toList z5.toList||(((z1.2).1).toList==z5.toList)) (some (.ret,z4)) (some (.normal,z2))) none) (some (.normal,z2)))) none) none) (some ((.exit 0),(⟨((.t false tq4 x0)::D3Z),[],0,[]⟩:St))))
theorem D1g:RdA G51 aLn 0 C2J A86 0 [] (kepts [2] [(0,[0])]) (B6N C6O):=by
 intro d
 kernel_rfl
theorem D1s:∀ d:A86.den,(B6N C6O) d=(B4p d).opt 0 []:=by
 intro d
 kernel_rfl
noncomputable abbrev C5g:St→Option Tree:=A86.say 0 [] [] (B6N B5J)
theorem D2I:aPL C5g C2J:=SS.wp2 hlz [] B4p D1g D1s _ (fun d=>D3v d.1.1 d.1.2.2.2.2.2.1 d.1.2.2.2.2.2.2.1 d.1.2.2.2.2.2.2.2.1)
noncomputable def C8y (a0:Lq2):Bool:=(cond (A4H (C6F a0) (a0.length - (0:Int).toNat) (0:Int).toNat) (A8o (a0.length:Int) (1:Int) (8:Int)) false)
noncomputable abbrev C4q (r:Bool):AV×List AObj:=((.t true .bool r),[])
noncomputable abbrev C8h:H7 C0q→AV×List AObj:=fun d=>C4q (C8y d.1)
noncomputable def C42 (a0:Lq2):Bool:=A7I a0
noncomputable abbrev C3A:H7 C0q→Bool:=fun d=>C42 d.1
noncomputable abbrev D5w:Nat→St→Option Tree:=fun b=>match b with | 0=>C5g | _=>fun _=>none
theorem D4f:A7C true G51 (D5w) Try.f92 C0q C3A C8h:=by
 rintro ⟨a0,_⟩ hp
 change C42 a0=true at hp
 unfold C42 at hp
 refine Eq.trans (b:=(cond (decide (0≤(0:Int))&&(decide ((a0.length:Int)=(a0.length:Int))&&(decide (a0=a0)&&A7I a0))) (cond (A4H (C6F a0) (a0.length - (0:Int).toNat) (0:Int).toNat) (some (C4q (A8o (a0.length:Int) (1:Int) (8:Int)))) (some (C4q false))) none)) (by kernel_rfl) ?_
 exact (A7F (by first | rfl | decide | exact hp | (simp only [Bool.and_eq_true] at hp;simp only [hp];done) | (simp [*];done) | (simp [okL] at hp;simp [okL,MAXB];omega) | (simp_all;done) | (simp at *;omega)) (fun _h=>(Q2 C4q (fun _h=>rfl) (fun _h=>rfl))))
theorem D5L:aPP 92 (A22 C0q C3A C8h):=pcD true G51 (hl1 (i:=0) (by kernel_rfl) D2I) D4f
noncomputable def S52:Tab:=Tab.add S51 92 (lift (A22 C0q C3A C8h))
noncomputable def D8c:FuncId→Bool:=qadd D8b 92
theorem G52:aPG S52 D8c:=G51.addQ D5L (cbl Try.f92) (fun _=>rfl)

abbrev C0r:List PSh:=[.agg [(.int .i64),(.int .i64),tq4]]
noncomputable def D0Y (a0 a1:Int) (a2:Lq2):Bool:=(cond (a0==(1:Int)) (cond (C6G a1) (C8y a2) false) (cond (a0==(2:Int)) (cond (C6G a1) ((a2.length:Int)==(0:Int)) false) (cond (a0==(3:Int)) (cond (C6G a1) ((a2.length:Int)==(0:Int)) false) false)))
noncomputable abbrev A8K (r:Bool):AV×List AObj:=((.t true .bool r),[])
noncomputable abbrev C8i:H7 C0r→AV×List AObj:=fun d=>A8K (D0Y d.1.1 d.1.2.1 d.1.2.2.1)
noncomputable def B6o (a0 a1:Int) (a2:Lq2):Bool:=A7I a2
noncomputable abbrev C3B:H7 C0r→Bool:=fun d=>B6o d.1.1 d.1.2.1 d.1.2.2.1
theorem D4g:A7C true G52 aLn Try.f82 C0r C3B C8i:=by
 rintro ⟨⟨a0,⟨a1,⟨a2,_⟩⟩⟩,_⟩ hp
 change B6o a0 a1 a2=true at hp
 unfold B6o at hp
 refine Eq.trans (b:=(let z1:=A8K ((a2.length:Int)==(0:Int));cond (a0==(1:Int)) (cond (C6G a1) (cond (C42 a2) (some (A8K (C8y a2))) none) (some (A8K false))) (cond (a0==(2:Int)) (cond (C6G a1) (some z1) (some (A8K false))) (cond (a0==(3:Int)) (cond (C6G a1) (some z1) (some (A8K false))) (some (A8K false)))))) (by kernel_rfl) ?_
 exact (Q2 A8K (fun _h=>(Q2 A8K (fun _h=>(A7F (by first | rfl | decide | exact hp | (simp only [Bool.and_eq_true] at hp;simp only [hp];done) | (simp [*];done) | (simp [okL] at hp;simp [okL,MAXB];omega) | (simp_all;done) | (simp at *;omega)) (fun _h=>rfl))) (fun _h=>rfl))) (fun _h=>(Q2 A8K (fun _h=>(Q2 A8K (fun _h=>rfl) (fun _h=>rfl))) (fun _h=>(Q2 A8K (fun _h=>(Q2 A8K (fun _h=>rfl) (fun _h=>rfl))) (fun _h=>rfl))))))
theorem D5M:aPP 82 (A22 C0r C3B C8i):=pcD true G52 hlz D4g
noncomputable def S53:Tab:=Tab.add S52 82 (lift (A22 C0r C3B C8i))
noncomputable def D8d:FuncId→Bool:=qadd D8c 82
theorem G53:aPG S53 D8d:=G52.addQ D5M (cbl Try.f82) (fun _=>rfl)

abbrev C0s:List PSh:=[.t tq3,.t (.int .i64)]
abbrev B1w:SS:=⟨(.t false tq3::tI::.junk::.junk::.junk::tI::D86),[]⟩
abbrev C3Z:SS:=⟨(.junk::.junk::.junk::.junk::tI::D6b),[]⟩
abbrev C30:SS:=⟨(.junk::D61),[]⟩
noncomputable def C7a (x0:Lq1) (x1 x5:Int):RT B1w.den:=(.br (decide (x5 ≥ (0:Int))) (.br (decide (0≤x5∧x5<(x0.length:Int))) (.br ((((x0.getD x5.toNat ((0:Int),((0:Int),[]))).2).1)==x1) (.done .ret C3Z (((),(),(),(),x5,u17),())) (.next ((x0,x1,(),(),(),wI (x5 - (1:Int)),u16),()))) .fail) (.done (.exit 0) C30 ((u22),())))
abbrev B1C:=(Lq1)×(Int)×(Int)
abbrev B3d:=Nat×(Int)
def B6X:B3d:=(99,((0:Int):Int))
noncomputable def B2b (x0:Lq1) (x1 x5:Int):B1C ⊕ B3d:=(cond (decide (x5 ≥ (0:Int))) (cond (decide (0≤x5∧x5<(x0.length:Int))) (cond ((((x0.getD x5.toNat ((0:Int),((0:Int),[]))).2).1)==x1) (.inr (0,x5)) (.inl (x0,x1,wI (x5 - (1:Int))))) (.inr B6X)) (.inr (1,((0:Int):Int))))
noncomputable def B10 (x0:Lq1) (x1 x5:Int):B3d:=itX (fun v:B1C=>B2b v.1 v.2.1 v.2.2) B6X (x0,x1,x5)
noncomputable def C0V (a:B3d):CT:=(.br (a.1==0) (.done .ret C3Z (((),(),(),(),a.2,u17),())) (.br (a.1==1) (.done (.exit 0) C30 ((u22),())) .fail))
noncomputable def D3E (x0:Lq1) (x1 x5:Int):CT:=C0V (B10 x0 x1 x5)
noncomputable abbrev C1S:B1w.den→RT B1w.den:=(fun d=>C7a d.1.1 d.1.2.1 d.1.2.2.2.2.2.1)
noncomputable def C2K:Code:=((D4 0 (A1l Try.f79)).getD 0 (0,.skip)).2
noncomputable abbrev C61 (v:B1C):B1w.den:=((v.1,v.2.1,(),(),(),v.2.2,u16),())
theorem D2Z:(∀ v:B1C,(C7a v.1 v.2.1 v.2.2).val=A6D C61 C0V (B2b v.1 v.2.1 v.2.2))∧∀ a:B3d,CEnd B1w.den (C0V a):=⟨fun v=>(A7H (A7H (A7H rfl rfl) rfl) rfl),fun a=>(A7u aCD (A7u aCD A7w))⟩
theorem D1h:RdA G53 aLn 0 C2K B1w 0 [] (kepts [4] [(0,[])]) (fun d=>(C1S d).opt 0 []):=by
 intro d
 kernel_rfl
noncomputable abbrev C5h:St→Option Tree:=B1w.say 0 [] [] (fun d=>D3E d.1.1 d.1.2.1 d.1.2.2.2.2.2.1)
theorem D2J:aPL C5h C2K:=SS.wp2 hlz [] C1S D1h (fun d=>rfl) _ (fun d=>Runs.ofI2 (step:=C1S) C61 D2Z rfl (d.1.1,d.1.2.1,d.1.2.2.2.2.2.1))
noncomputable def A7X (a0:Lq1) (a1:Int):Int:=let z1:=B10 a0 a1 (wI ((a0.length:Int) - (1:Int)));(cond (z1.1==0) (z1.2) (-1:Int))
noncomputable abbrev C4s (r:Int):AV×List AObj:=((ti r),[])
noncomputable abbrev C8j:H7 C0s→AV×List AObj:=fun d=>C4s (A7X d.1 d.2.1)
noncomputable def Y8 (a0:Lq1) (a1:Int):Bool:=let z1:=B10 a0 a1 (wI ((a0.length:Int) - (1:Int)));cond (z1.1==0) true (z1.1==1)
noncomputable abbrev C3C:H7 C0s→Bool:=fun d=>Y8 d.1 d.2.1
noncomputable abbrev D5x:Nat→St→Option Tree:=fun b=>match b with | 0=>C5h | _=>fun _=>none
theorem D4h:A7C true G53 (D5x) Try.f79 C0s C3C C8j:=by
 rintro ⟨a0,⟨a1,_⟩⟩ hp
 change Y8 a0 a1=true at hp
 unfold Y8 at hp
 refine Eq.trans (b:=(let z1:=B10 a0 a1 (wI ((a0.length:Int) - (1:Int)));cond (z1.1==0) (some (C4s (z1.2))) (cond (z1.1==1) (some (C4s (-1:Int))) none))) (by kernel_rfl) ?_
 exact (L8 C4s hp (fun hp=>rfl) (fun hp=>(A7F hp fun _h=>rfl)))
theorem D5N:aPP 79 (A22 C0s C3C C8j):=pcD true G53 (hl1 (i:=0) (by kernel_rfl) D2J) D4h
noncomputable def S54:Tab:=Tab.add S53 79 (lift (A22 C0s C3C C8j))
noncomputable def D8e:FuncId→Bool:=qadd D8d 79
theorem G54:aPG S54 D8e:=G53.addQ D5N (cbl Try.f79) (fun _=>rfl)

abbrev u18:=((),u17)
abbrev D7i:List AV:=.junk::.junk::.junk::.junk::.junk::.junk::.junk::.junk::.junk::.junk::.junk::[]
abbrev D58:List AV:=.junk::.junk::.junk::.junk::.junk::.junk::D7i
abbrev D7k:List AV:=.junk::.junk::.junk::.junk::.junk::.junk::.junk::D58
abbrev B2i:List PSh:=[.t tq3,.t tq4]
noncomputable def B2x:Code:=((D4 0 (A1l Try.f118)).getD 0 (0,.skip)).2
noncomputable def B2y:Code:=((D4 0 B2x).getD 0 (0,.skip)).2
noncomputable def B6O:Code:=((D4 2 B2y).getD 0 (0,.skip)).2
abbrev U0:SS:=⟨(.junk::.t false tq4::.junk::.junk::.junk::.junk::.junk::.junk::.ptr 0 0 1 0::.junk::.junk::.t false tq3::tI::tI::.junk::.junk::.junk::.junk::.t false tq4::tI::tI::.junk::.junk::.junk::.t false tq4::tI::tI::D84),[.box [tI,.t true .str,.t true .str]]⟩
abbrev B7A:SS:=⟨(.junk::.junk::.junk::.junk::.t true .bool::D2E),[]⟩
abbrev B7B:SS:=⟨(.junk::.t false tq4::.junk::.junk::.junk::.junk::.junk::.junk::.junk::.junk::.junk::.t false tq3::tI::tI::.junk::.junk::.junk::.junk::.t false tq4::tI::tI::D60),[]⟩
noncomputable def C0e (x1:Lq2) (x11:Lq1) (x12 x13:Int) (x18:Lq2) (x19 x20:Int) (x24:Lq2) (x25 x26 p0:Int) (p1 p2:ByteArray):RT U0.den:=(.br (decide (x26<x25)) (.br (decide (0≤x26∧x26<(x24.length:Int))) (.br ((((x24.getD x26.toNat ((0:Int),(bE,bE))).2).1).toList==p1.toList) (.done .ret B7A (((),(),(),(),true,u34),())) (.next (((),x1,(),(),(),(),(),(),(),(),(),x11,x12,x13,(),(),(),(),x18,x19,x20,(),(),(),x24,x25,wI (x26+(1:Int)),u12),((p0,p1,p2,()),())))) .fail) (.done (.exit 4) B7B (((),x1,(),(),(),(),(),(),(),(),(),x11,x12,x13,(),(),(),(),x18,x19,x20,u18),())))
abbrev A8G:=(Lq2)×Lq1×(Int)×(Int)×Lq2×(Int)×(Int)×Lq2×(Int)×(Int)
abbrev A9P:=Nat×(Bool)×Lq2×Lq1×(Int)×(Int)×Lq2×(Int)×(Int)
def B4C:A9P:=(99,(false:Bool),([]:Lq2),([]:Lq1),((0:Int):Int),((0:Int):Int),([]:Lq2),((0:Int):Int),((0:Int):Int))
noncomputable def A9u (x1:Lq2) (x11:Lq1) (x12 x13:Int) (x18:Lq2) (x19 x20:Int) (x24:Lq2) (x25 x26 p0:Int) (p1 p2:ByteArray):A8G ⊕ A9P:=(cond (decide (x26<x25)) (cond (decide (0≤x26∧x26<(x24.length:Int))) (cond ((((x24.getD x26.toNat ((0:Int),(bE,bE))).2).1).toList==p1.toList) (.inr (0,true,([]:Lq2),([]:Lq1),((0:Int):Int),((0:Int):Int),([]:Lq2),((0:Int):Int),((0:Int):Int))) (.inl (x1,x11,x12,x13,x18,x19,x20,x24,x25,wI (x26+(1:Int))))) (.inr B4C)) (.inr (1,(false:Bool),x1,x11,x12,x13,x18,x19,x20)))
noncomputable def B4F (x1:Lq2) (x11:Lq1) (x12 x13:Int) (x18:Lq2) (x19 x20:Int) (x24:Lq2) (x25 x26 p0:Int) (p1 p2:ByteArray):A9P:=itX (fun v:A8G=>A9u v.1 v.2.1 v.2.2.1 v.2.2.2.1 v.2.2.2.2.1 v.2.2.2.2.2.1 v.2.2.2.2.2.2.1 v.2.2.2.2.2.2.2.1 v.2.2.2.2.2.2.2.2.1 v.2.2.2.2.2.2.2.2.2 p0 p1 p2) B4C (x1,x11,x12,x13,x18,x19,x20,x24,x25,x26)
noncomputable def B4A (p0:Int) (p1 p2:ByteArray) (a:A9P):CT:=(.br (a.1==0) (.done .ret B7A (((),(),(),(),a.2.1,u34),())) (.br (a.1==1) (.done (.exit 4) B7B (((),a.2.2.1,(),(),(),(),(),(),(),(),(),a.2.2.2.1,a.2.2.2.2.1,a.2.2.2.2.2.1,(),(),(),(),a.2.2.2.2.2.2.1,a.2.2.2.2.2.2.2.1,a.2.2.2.2.2.2.2.2,u18),())) .fail))
noncomputable def C72 (x1:Lq2) (x11:Lq1) (x12 x13:Int) (x18:Lq2) (x19 x20:Int) (x24:Lq2) (x25 x26 p0:Int) (p1 p2:ByteArray):CT:=(B4A p0 p1 p2) (B4F x1 x11 x12 x13 x18 x19 x20 x24 x25 x26 p0 p1 p2)
noncomputable abbrev B1n {α:Sort _} (f:Lq2→Lq1→Int→Int→Lq2→Int→Int→Lq2→Int→Int→Int→ByteArray→ByteArray→α) (d:U0.den):α:=f d.1.2.1 d.1.2.2.2.2.2.2.2.2.2.2.2.1 d.1.2.2.2.2.2.2.2.2.2.2.2.2.1 d.1.2.2.2.2.2.2.2.2.2.2.2.2.2.1 d.1.2.2.2.2.2.2.2.2.2.2.2.2.2.2.2.2.2.2.1 d.1.2.2.2.2.2.2.2.2.2.2.2.2.2.2.2.2.2.2.2.1 d.1.2.2.2.2.2.2.2.2.2.2.2.2.2.2.2.2.2.2.2.2.1 d.1.2.2.2.2.2.2.2.2.2.2.2.2.2.2.2.2.2.2.2.2.2.2.2.2.1 d.1.2.2.2.2.2.2.2.2.2.2.2.2.2.2.2.2.2.2.2.2.2.2.2.2.2.1 d.1.2.2.2.2.2.2.2.2.2.2.2.2.2.2.2.2.2.2.2.2.2.2.2.2.2.2.1 d.2.1.1 d.2.1.2.1 d.2.1.2.2.1
noncomputable abbrev B4R:U0.den→RT U0.den:=(B1n C0e)
noncomputable abbrev B92 (p0:Int) (p1 p2:ByteArray) (v:A8G):U0.den:=(((),v.1,(),(),(),(),(),(),(),(),(),v.2.1,v.2.2.1,v.2.2.2.1,(),(),(),(),v.2.2.2.2.1,v.2.2.2.2.2.1,v.2.2.2.2.2.2.1,(),(),(),v.2.2.2.2.2.2.2.1,v.2.2.2.2.2.2.2.2.1,v.2.2.2.2.2.2.2.2.2,u12),((p0,p1,p2,()),()))
theorem C7D (p0:Int) (p1 p2:ByteArray):(∀ v:A8G,(C0e v.1 v.2.1 v.2.2.1 v.2.2.2.1 v.2.2.2.2.1 v.2.2.2.2.2.1 v.2.2.2.2.2.2.1 v.2.2.2.2.2.2.2.1 v.2.2.2.2.2.2.2.2.1 v.2.2.2.2.2.2.2.2.2 p0 p1 p2).val=A6D (B92 p0 p1 p2) (B4A p0 p1 p2) (A9u v.1 v.2.1 v.2.2.1 v.2.2.2.1 v.2.2.2.2.1 v.2.2.2.2.2.1 v.2.2.2.2.2.2.1 v.2.2.2.2.2.2.2.1 v.2.2.2.2.2.2.2.2.1 v.2.2.2.2.2.2.2.2.2 p0 p1 p2))∧∀ a:A9P,CEnd U0.den ((B4A p0 p1 p2) a):=⟨fun v=>(A7H (A7H (A7H rfl rfl) rfl) rfl),fun a=>(A7u aCD (A7u aCD A7w))⟩
noncomputable def B9W (x1:Lq2) (x11:Lq1) (x12 x13:Int) (x18:Lq2) (x19 x20:Int) (x24:Lq2) (x25 x26 p0:Int) (p1 p2:ByteArray):Option (Ex×St):=(cond (decide (x26<x25)) (cond (decide (0≤x26∧x26<(x24.length:Int))) (cond ((((x24.getD x26.toNat ((0:Int),(bE,bE))).2).1).toList==p1.toList) (some (.ret,(⟨(.junk::.junk::.junk::.junk::(.t true .bool true)::D3Z),[],0,[]⟩:St))) (some (.normal,(⟨(.junk::(.t false tq4 x1)::.junk::.junk::.junk::.junk::.junk::.junk::(.ptr 0 0 1 0)::.junk::.junk::(.t false tq3 x11)::(ti x12)::(ti x13)::.junk::.junk::.junk::.junk::(.t false tq4 x18)::(ti x19)::(ti x20)::.junk::.junk::.junk::(.t false tq4 x24)::(ti x25)::(ti (wI (x26+(1:Int))))::D7i),[(.box [(ti p0),(.t true .str p1),(.t true .str p2)])],0,[]⟩:St)))) none) (some ((.exit 4),(⟨(.junk::(.t false tq4 x1)::.junk::.junk::.junk::.junk::.junk::.junk::.junk::.junk::.junk::(.t false tq3 x11)::(ti x12)::(ti x13)::.junk::.junk::.junk::.junk::(.t false tq4 x18)::(ti x19)::(ti x20)::D58),[],0,[]⟩:St))))
theorem C6f:RdA G54 aLn 4 B6O U0 0 [] (kepts [4] [(4,[1,11,12,13,18,19,20])]) (B1n B9W):=by
 intro d
 kernel_rfl
theorem C6l:∀ d:U0.den,(B1n B9W) d=(B4R d).opt 0 []:=by
 intro d
 kernel_rfl
noncomputable abbrev B8m:St→Option Tree:=U0.say 0 [] [] (B1n C72)
theorem C7l:aPL B8m B6O:=SS.wp2 hlz [] B4R C6f C6l _ (fun d=>Runs.ofI2 (step:=B4R) (B92 d.2.1.1 d.2.1.2.1 d.2.1.2.2.1) (C7D d.2.1.1 d.2.1.2.1 d.2.1.2.2.1) rfl (d.1.2.1,d.1.2.2.2.2.2.2.2.2.2.2.2.1,d.1.2.2.2.2.2.2.2.2.2.2.2.2.1,d.1.2.2.2.2.2.2.2.2.2.2.2.2.2.1,d.1.2.2.2.2.2.2.2.2.2.2.2.2.2.2.2.2.2.2.1,d.1.2.2.2.2.2.2.2.2.2.2.2.2.2.2.2.2.2.2.2.1,d.1.2.2.2.2.2.2.2.2.2.2.2.2.2.2.2.2.2.2.2.2.1,d.1.2.2.2.2.2.2.2.2.2.2.2.2.2.2.2.2.2.2.2.2.2.2.2.2.1,d.1.2.2.2.2.2.2.2.2.2.2.2.2.2.2.2.2.2.2.2.2.2.2.2.2.2.1,d.1.2.2.2.2.2.2.2.2.2.2.2.2.2.2.2.2.2.2.2.2.2.2.2.2.2.2.1))
abbrev T9:SS:=⟨(.junk::.t false tq4::.junk::.junk::.junk::.junk::.junk::.junk::.junk::.junk::.junk::.t false tq3::tI::tI::.junk::.junk::.junk::.junk::.t false tq4::tI::tI::D60),[]⟩
abbrev B7y:SS:=⟨(.junk::.junk::.junk::.junk::.t true .bool::D2E),[]⟩
abbrev B7z:SS:=⟨(.junk::.t false tq4::.junk::.junk::.junk::.junk::.junk::.junk::.junk::.junk::.junk::.t false tq3::tI::tI::D63),[]⟩
noncomputable def B3R (x1:Lq2) (x11:Lq1) (x12 x13:Int) (x18:Lq2) (x19 x20:Int):=let z1:=x18.getD x20.toNat ((0:Int),(bE,bE));B4F x1 x11 x12 x13 x18 x19 x20 x1 (x1.length:Int) (0:Int) (z1.1) ((z1.2).1) ((z1.2).2)
noncomputable def C0d (x1:Lq2) (x11:Lq1) (x12 x13:Int) (x18:Lq2) (x19 x20:Int):RT T9.den:=let z1:=B3R x1 x11 x12 x13 x18 x19 x20;(.br (decide (x20<x19)) (.br (decide (0≤x20∧x20<(x18.length:Int))) (.br (z1.1==0) (.done .ret B7y (((),(),(),(),(z1.2.1),u34),())) (.br (z1.1==1) (.next (((),(z1.2.2.1),(),(),(),(),(),(),(),(),(),(z1.2.2.2.1),(z1.2.2.2.2.1),(z1.2.2.2.2.2.1),(),(),(),(),(z1.2.2.2.2.2.2.1),(z1.2.2.2.2.2.2.2.1),wI ((z1.2.2.2.2.2.2.2.2)+(1:Int)),u18),())) .fail)) .fail) (.done (.exit 2) B7z (((),x1,(),(),(),(),(),(),(),(),(),x11,x12,x13,u25),())))
abbrev A8F:=(Lq2)×Lq1×(Int)×(Int)×Lq2×(Int)×(Int)
abbrev A9O:=Nat×(Bool)×Lq2×Lq1×(Int)×(Int)
def B1p:A9O:=(99,(false:Bool),([]:Lq2),([]:Lq1),((0:Int):Int),((0:Int):Int))
noncomputable def A9t (x1:Lq2) (x11:Lq1) (x12 x13:Int) (x18:Lq2) (x19 x20:Int):A8F ⊕ A9O:=let z1:=B3R x1 x11 x12 x13 x18 x19 x20;(cond (decide (x20<x19)) (cond (decide (0≤x20∧x20<(x18.length:Int))) (cond (z1.1==0) (.inr (0,(z1.2.1),([]:Lq2),([]:Lq1),((0:Int):Int),((0:Int):Int))) (cond (z1.1==1) (.inl ((z1.2.2.1),(z1.2.2.2.1),(z1.2.2.2.2.1),(z1.2.2.2.2.2.1),(z1.2.2.2.2.2.2.1),(z1.2.2.2.2.2.2.2.1),wI ((z1.2.2.2.2.2.2.2.2)+(1:Int)))) (.inr B1p))) (.inr B1p)) (.inr (1,(false:Bool),x1,x11,x12,x13)))
noncomputable def B4E (x1:Lq2) (x11:Lq1) (x12 x13:Int) (x18:Lq2) (x19 x20:Int):A9O:=itX (fun v:A8F=>A9t v.1 v.2.1 v.2.2.1 v.2.2.2.1 v.2.2.2.2.1 v.2.2.2.2.2.1 v.2.2.2.2.2.2) B1p (x1,x11,x12,x13,x18,x19,x20)
noncomputable def B4z (a:A9O):CT:=(.br (a.1==0) (.done .ret B7y (((),(),(),(),a.2.1,u34),())) (.br (a.1==1) (.done (.exit 2) B7z (((),a.2.2.1,(),(),(),(),(),(),(),(),(),a.2.2.2.1,a.2.2.2.2.1,a.2.2.2.2.2,u25),())) .fail))
noncomputable def C71 (x1:Lq2) (x11:Lq1) (x12 x13:Int) (x18:Lq2) (x19 x20:Int):CT:=B4z (B4E x1 x11 x12 x13 x18 x19 x20)
noncomputable abbrev B1m {α:Sort _} (f:Lq2→Lq1→Int→Int→Lq2→Int→Int→α) (d:T9.den):α:=f d.1.2.1 d.1.2.2.2.2.2.2.2.2.2.2.2.1 d.1.2.2.2.2.2.2.2.2.2.2.2.2.1 d.1.2.2.2.2.2.2.2.2.2.2.2.2.2.1 d.1.2.2.2.2.2.2.2.2.2.2.2.2.2.2.2.2.2.2.1 d.1.2.2.2.2.2.2.2.2.2.2.2.2.2.2.2.2.2.2.2.1 d.1.2.2.2.2.2.2.2.2.2.2.2.2.2.2.2.2.2.2.2.2.1
noncomputable abbrev B4Q:T9.den→RT T9.den:=(B1m C0d)
noncomputable abbrev B91 (v:A8F):T9.den:=(((),v.1,(),(),(),(),(),(),(),(),(),v.2.1,v.2.2.1,v.2.2.2.1,(),(),(),(),v.2.2.2.2.1,v.2.2.2.2.2.1,v.2.2.2.2.2.2,u18),())
theorem C7C:(∀ v:A8F,(C0d v.1 v.2.1 v.2.2.1 v.2.2.2.1 v.2.2.2.2.1 v.2.2.2.2.2.1 v.2.2.2.2.2.2).val=A6D B91 B4z (A9t v.1 v.2.1 v.2.2.1 v.2.2.2.1 v.2.2.2.2.1 v.2.2.2.2.2.1 v.2.2.2.2.2.2))∧∀ a:A9O,CEnd T9.den (B4z a):=⟨fun v=>(A7H (A7H (A7H rfl (A7H rfl rfl)) rfl) rfl),fun a=>(A7u aCD (A7u aCD A7w))⟩
noncomputable abbrev C7W:Nat→St→Option Tree:=fun b=>match b with | 4=>B8m | _=>fun _=>none
noncomputable def B9V (x1:Lq2) (x11:Lq1) (x12 x13:Int) (x18:Lq2) (x19 x20:Int):Option (Ex×St):=let z1:=B3R x1 x11 x12 x13 x18 x19 x20;(cond (decide (x20<x19)) (cond (decide (0≤x20∧x20<(x18.length:Int))) (cond (z1.1==0) (some (.ret,(⟨(.junk::.junk::.junk::.junk::(.t true .bool (z1.2.1))::D3Z),[],0,[]⟩:St))) (cond (z1.1==1) (some (.normal,(⟨(.junk::(.t false tq4 (z1.2.2.1))::.junk::.junk::.junk::.junk::.junk::.junk::.junk::.junk::.junk::(.t false tq3 (z1.2.2.2.1))::(ti (z1.2.2.2.2.1))::(ti (z1.2.2.2.2.2.1))::.junk::.junk::.junk::.junk::(.t false tq4 (z1.2.2.2.2.2.2.1))::(ti (z1.2.2.2.2.2.2.2.1))::(ti (wI ((z1.2.2.2.2.2.2.2.2)+(1:Int))))::D58),[],0,[]⟩:St))) none)) none) (some ((.exit 2),(⟨(.junk::(.t false tq4 x1)::.junk::.junk::.junk::.junk::.junk::.junk::.junk::.junk::.junk::(.t false tq3 x11)::(ti x12)::(ti x13)::D7k),[],0,[]⟩:St))))
theorem C6e:RdA G54 (C7W) 2 B2y T9 0 [] (kepts [4] [(2,[1,11,12,13])]) (B1m B9V):=by
 intro d
 kernel_rfl
theorem C6k:∀ d:T9.den,(B1m B9V) d=(B4Q d).opt 0 []:=by
 intro d
 kernel_rfl
noncomputable abbrev B8l:St→Option Tree:=T9.say 0 [] [] (B1m C71)
theorem C7k:aPL B8l B2y:=SS.wp2 (hl1 (i:=4) (by kernel_rfl) C7l) [] B4Q C6e C6k _ (fun d=>Runs.ofI2 (step:=B4Q) B91 C7C rfl (d.1.2.1,d.1.2.2.2.2.2.2.2.2.2.2.2.1,d.1.2.2.2.2.2.2.2.2.2.2.2.2.1,d.1.2.2.2.2.2.2.2.2.2.2.2.2.2.1,d.1.2.2.2.2.2.2.2.2.2.2.2.2.2.2.2.2.2.2.1,d.1.2.2.2.2.2.2.2.2.2.2.2.2.2.2.2.2.2.2.2.1,d.1.2.2.2.2.2.2.2.2.2.2.2.2.2.2.2.2.2.2.2.2.1))
abbrev T8:SS:=⟨(.junk::.t false tq4::.junk::.junk::.junk::.junk::.junk::.junk::.junk::.junk::.junk::.t false tq3::tI::tI::D63),[]⟩
abbrev B7w:SS:=⟨(.junk::.junk::.junk::.junk::.t true .bool::D2E),[]⟩
abbrev B7x:SS:=⟨(.junk::D6f),[]⟩
noncomputable def B3S (x1:Lq2) (x11:Lq1) (x12 x13:Int):=let z1:=((x11.getD x13.toNat ((0:Int),((0:Int),[]))).2).2;B4E x1 x11 x12 x13 z1 ((z1.length:Nat):Int) (0:Int)
noncomputable def C0c (x1:Lq2) (x11:Lq1) (x12 x13:Int):RT T8.den:=let z1:=B3S x1 x11 x12 x13;(.br (decide (x13<x12)) (.br (decide (0≤x13∧x13<(x11.length:Int))) (.br (z1.1==0) (.done .ret B7w (((),(),(),(),(z1.2.1),u34),())) (.br (z1.1==1) (.next (((),(z1.2.2.1),(),(),(),(),(),(),(),(),(),(z1.2.2.2.1),(z1.2.2.2.2.1),wI ((z1.2.2.2.2.2)+(1:Int)),u25),())) .fail)) .fail) (.done (.exit 0) B7x ((u39),())))
abbrev A8E:=(Lq2)×Lq1×(Int)×(Int)
abbrev A9N:=Nat×(Bool)
def B1o:A9N:=(99,(false:Bool))
noncomputable def A9s (x1:Lq2) (x11:Lq1) (x12 x13:Int):A8E ⊕ A9N:=let z1:=B3S x1 x11 x12 x13;(cond (decide (x13<x12)) (cond (decide (0≤x13∧x13<(x11.length:Int))) (cond (z1.1==0) (.inr (0,(z1.2.1))) (cond (z1.1==1) (.inl ((z1.2.2.1),(z1.2.2.2.1),(z1.2.2.2.2.1),wI ((z1.2.2.2.2.2)+(1:Int)))) (.inr B1o))) (.inr B1o)) (.inr (1,(false:Bool))))
noncomputable def A9m (x1:Lq2) (x11:Lq1) (x12 x13:Int):A9N:=itX (fun v:A8E=>A9s v.1 v.2.1 v.2.2.1 v.2.2.2) B1o (x1,x11,x12,x13)
noncomputable def B4y (a:A9N):CT:=(.br (a.1==0) (.done .ret B7w (((),(),(),(),a.2,u34),())) (.br (a.1==1) (.done (.exit 0) B7x ((u39),())) .fail))
noncomputable def C70 (x1:Lq2) (x11:Lq1) (x12 x13:Int):CT:=B4y (A9m x1 x11 x12 x13)
noncomputable abbrev B1l {α:Sort _} (f:Lq2→Lq1→Int→Int→α) (d:T8.den):α:=f d.1.2.1 d.1.2.2.2.2.2.2.2.2.2.2.2.1 d.1.2.2.2.2.2.2.2.2.2.2.2.2.1 d.1.2.2.2.2.2.2.2.2.2.2.2.2.2.1
noncomputable abbrev B4P:T8.den→RT T8.den:=(B1l C0c)
noncomputable abbrev B90 (v:A8E):T8.den:=(((),v.1,(),(),(),(),(),(),(),(),(),v.2.1,v.2.2.1,v.2.2.2,u25),())
theorem C7B:(∀ v:A8E,(C0c v.1 v.2.1 v.2.2.1 v.2.2.2).val=A6D B90 B4y (A9s v.1 v.2.1 v.2.2.1 v.2.2.2))∧∀ a:A9N,CEnd T8.den (B4y a):=⟨fun v=>(A7H (A7H (A7H rfl (A7H rfl rfl)) rfl) rfl),fun a=>(A7u aCD (A7u aCD A7w))⟩
noncomputable abbrev C7V:Nat→St→Option Tree:=fun b=>match b with | 2=>B8l | _=>fun _=>none
noncomputable def B9U (x1:Lq2) (x11:Lq1) (x12 x13:Int):Option (Ex×St):=let z1:=B3S x1 x11 x12 x13;(cond (decide (x13<x12)) (cond (decide (0≤x13∧x13<(x11.length:Int))) (cond (z1.1==0) (some (.ret,(⟨(.junk::.junk::.junk::.junk::(.t true .bool (z1.2.1))::D3Z),[],0,[]⟩:St))) (cond (z1.1==1) (some (.normal,(⟨(.junk::(.t false tq4 (z1.2.2.1))::.junk::.junk::.junk::.junk::.junk::.junk::.junk::.junk::.junk::(.t false tq3 (z1.2.2.2.1))::(ti (z1.2.2.2.2.1))::(ti (wI ((z1.2.2.2.2.2)+(1:Int))))::D7k),[],0,[]⟩:St))) none)) none) (some ((.exit 0),(⟨(.junk::D6Z),[],0,[]⟩:St))))
theorem C6d:RdA G54 (C7V) 0 B2x T8 0 [] (kepts [4] [(0,[])]) (B1l B9U):=by
 intro d
 kernel_rfl
theorem C6j:∀ d:T8.den,(B1l B9U) d=(B4P d).opt 0 []:=by
 intro d
 kernel_rfl
noncomputable abbrev B8k:St→Option Tree:=T8.say 0 [] [] (B1l C70)
theorem C7j:aPL B8k B2x:=SS.wp2 (hl1 (i:=2) (by kernel_rfl) C7k) [] B4P C6d C6j _ (fun d=>Runs.ofI2 (step:=B4P) B90 C7B rfl (d.1.2.1,d.1.2.2.2.2.2.2.2.2.2.2.2.1,d.1.2.2.2.2.2.2.2.2.2.2.2.2.1,d.1.2.2.2.2.2.2.2.2.2.2.2.2.2.1))
noncomputable def A0f (a0:Lq1) (a1:Lq2):Bool:=let z1:=A9m a1 a0 (a0.length:Int) (0:Int);(cond (z1.1==0) (z1.2) false)
noncomputable abbrev B45 (r:Bool):AV×List AObj:=((.t true .bool r),[])
noncomputable abbrev B8T:H7 B2i→AV×List AObj:=fun d=>B45 (A0f d.1 d.2.1)
noncomputable def U7 (a0:Lq1) (a1:Lq2):Bool:=let z1:=A9m a1 a0 (a0.length:Int) (0:Int);cond (z1.1==0) true (z1.1==1)
noncomputable abbrev B6f:H7 B2i→Bool:=fun d=>U7 d.1 d.2.1
noncomputable abbrev D0r:Nat→St→Option Tree:=fun b=>match b with | 0=>B8k | _=>fun _=>none
theorem C88:A7C true G54 (D0r) Try.f118 B2i B6f B8T:=by
 rintro ⟨a0,⟨a1,_⟩⟩ hp
 change U7 a0 a1=true at hp
 unfold U7 at hp
 refine Eq.trans (b:=(let z1:=A9m a1 a0 (a0.length:Int) (0:Int);cond (z1.1==0) (some (B45 (z1.2))) (cond (z1.1==1) (some (B45 false)) none))) (by kernel_rfl) ?_
 exact (L8 B45 hp (fun hp=>rfl) (fun hp=>(A7F hp fun _h=>rfl)))
theorem D0C:aPP 118 (A22 B2i B6f B8T):=pcD true G54 (hl1 (i:=0) (by kernel_rfl) C7j) C88
noncomputable def S55:Tab:=Tab.add S54 118 (lift (A22 B2i B6f B8T))
noncomputable def D8f:FuncId→Bool:=qadd D8e 118
theorem G55:aPG S55 D8f:=G54.addQ D0C (cbl Try.f118) (fun _=>rfl)

abbrev B4Y:SS:=⟨[.agg [.t true .str,.t true .str],.ptr 0 0 1 0],[.box [.t true .str]]⟩
noncomputable def C5V (x0_0 x0_1 p0:ByteArray):Bool:=(x0_0.toList==p0.toList)
noncomputable abbrev D2r (p0:ByteArray) (r:Bool):AV×List AObj×List Nat:=((.t true .bool r),[(.box [(.t true .str p0)])],[])
noncomputable abbrev C6C:B4Y.den→AV×List AObj×List Nat:=fun d=>D2r d.2.1.1 (C5V d.1.1.1 d.1.1.2.1 d.2.1.1)
noncomputable abbrev C23:B4Y.den→Bool:=fun d=>true
theorem C90:A7B G55 aLn Try.f132 B4Y C23 C6C:=by
 rintro ⟨⟨⟨x0_0,x0_1,_⟩,_,_⟩,⟨⟨p0,_⟩,_⟩⟩ hp
 kernel_rfl
noncomputable abbrev C6J:=winQ (msum B4Y C23 C6C)
theorem D2g:aPM 132 C6J:=(mcM G55 hlz C90).winQ (A64 fun d=>⟨rfl,rfl⟩)
noncomputable def S56:Tab:=Tab.add S55 132 (C6J)
noncomputable def D8g:FuncId→Bool:=qadd D8f 132
theorem G56:aPG S56 D8g:=G55.addMQ D2g (A7b _) (cbl Try.f132) (A5G _)

abbrev D83:List Sh:=.junk::.junk::.junk::.junk::.junk::.junk::.junk::.junk::.junk::.junk::[]
abbrev u11:=((),(),(),(),(),(),(),(),(),(),())
abbrev N6:SS:=⟨[.t false tq6,.fn 132 [0]],[.box [.t true .str]]⟩
abbrev I7:SS:=⟨(.t false tq6::.fn 132 [0]::.junk::.junk::.junk::.junk::.junk::tI::tI::D83),[.box [.t true .str]]⟩
abbrev Y1:SS:=⟨(.junk::.junk::.junk::.junk::tI::D5a),[.box [.t true .str]]⟩
abbrev Y2:SS:=⟨(.junk::D2C),[.box [.t true .str]]⟩
noncomputable def Q5 (x0:LBBe) (x8:Int) (p0:ByteArray):=let z1:=x0.getD x8.toNat (bE,bE);C5V (z1.1) (z1.2) p0
noncomputable def Z9 (x0:LBBe) (x7 x8:Int) (p0:ByteArray):RT I7.den:=(.br (decide (x8<x7)) (.br (decide (0≤x8∧x8<(x0.length:Int))) (.br (Q5 x0 x8 p0) (.done .ret Y1 (((),(),(),(),x8,u15),((p0,()),()))) (.next ((x0,(),(),(),(),(),(),x7,wI (x8+(1:Int)),u11),((p0,()),())))) .fail) (.done (.exit 0) Y2 ((u20),((p0,()),()))))
abbrev K5:=(LBBe)×(Int)×(Int)
abbrev K3:=Nat×(Int)
def P7:K3:=(99,((0:Int):Int))
noncomputable def L6 (x0:LBBe) (x7 x8:Int) (p0:ByteArray):K5 ⊕ K3:=(cond (decide (x8<x7)) (cond (decide (0≤x8∧x8<(x0.length:Int))) (cond (Q5 x0 x8 p0) (.inr (0,x8)) (.inl (x0,x7,wI (x8+(1:Int))))) (.inr P7)) (.inr (1,((0:Int):Int))))
noncomputable def L4 (x0:LBBe) (x7 x8:Int) (p0:ByteArray):K3:=itX (fun v:K5=>L6 v.1 v.2.1 v.2.2 p0) P7 (x0,x7,x8)
noncomputable def P4 (p0:ByteArray) (a:K3):CT:=(.br (a.1==0) (.done .ret Y1 (((),(),(),(),a.2,u15),((p0,()),()))) (.br (a.1==1) (.done (.exit 0) Y2 ((u20),((p0,()),()))) .fail))
noncomputable def B0X (x0:LBBe) (x7 x8:Int) (p0:ByteArray):CT:=(P4 p0) (L4 x0 x7 x8 p0)
noncomputable abbrev Z3 {α:Sort _} (f:LBBe→Int→Int→ByteArray→α) (d:I7.den):α:=f d.1.1 d.1.2.2.2.2.2.2.2.1 d.1.2.2.2.2.2.2.2.2.1 d.2.1.1
noncomputable abbrev P9:I7.den→RT I7.den:=(Z3 Z9)
noncomputable def X0:Code:=((D4 0 (A1l Try.f131)).getD 0 (0,.skip)).2
noncomputable abbrev Z7 (p0:ByteArray) (v:K5):I7.den:=((v.1,(),(),(),(),(),(),v.2.1,v.2.2,u11),((p0,()),()))
theorem B0P (p0:ByteArray):(∀ v:K5,(Z9 v.1 v.2.1 v.2.2 p0).val=A6D (Z7 p0) (P4 p0) (L6 v.1 v.2.1 v.2.2 p0))∧∀ a:K3,CEnd I7.den ((P4 p0) a):=⟨fun v=>(A7H (A7H (A7H rfl rfl) rfl) rfl),fun a=>(A7u aCD (A7u aCD A7w))⟩
theorem B0u:RdA G56 aLn 0 X0 I7 1 [] (kepts [4] [(0,[])]) (fun d=>(P9 d).opt 1 []):=by
 intro d
 kernel_rfl
noncomputable abbrev Z0:St→Option Tree:=I7.say 1 [] [] (Z3 B0X)
theorem B0I:aPL Z0 X0:=SS.wp2 hlz [] P9 B0u (fun d=>rfl) _ (fun d=>Runs.ofI2 (step:=P9) (Z7 d.2.1.1) (B0P d.2.1.1) rfl (d.1.1,d.1.2.2.2.2.2.2.2.1,d.1.2.2.2.2.2.2.2.2.1))
noncomputable def O8 (x0:LBBe) (p0:ByteArray):Int:=let z1:=L4 x0 (x0.length:Int) (0:Int) p0;(cond (z1.1==0) (z1.2) (-1:Int))
noncomputable abbrev O0 (p0:ByteArray) (r:Int):AV×List AObj×List Nat:=((ti r),[(.box [(.t true .str p0)])],[])
noncomputable abbrev A7W:N6.den→AV×List AObj×List Nat:=fun d=>O0 d.2.1.1 (O8 d.1.1 d.2.1.1)
noncomputable def L0 (x0:LBBe) (p0:ByteArray):Bool:=let z1:=L4 x0 (x0.length:Int) (0:Int) p0;cond (z1.1==0) true (z1.1==1)
noncomputable abbrev A0k:N6.den→Bool:=fun d=>L0 d.1.1 d.2.1.1
noncomputable abbrev B1v:Nat→St→Option Tree:=fun b=>match b with | 0=>Z0 | _=>fun _=>none
theorem B0Z:A7B G56 (B1v) Try.f131 N6 A0k A7W:=by
 rintro ⟨⟨x0,_,_⟩,⟨⟨p0,_⟩,_⟩⟩ hp
 change L0 x0 p0=true at hp
 unfold L0 at hp
 refine Eq.trans (b:=(let z1:=L4 x0 (x0.length:Int) (0:Int) p0;cond (z1.1==0) (some (O0 p0 (z1.2))) (cond (z1.1==1) (some (O0 p0 (-1:Int))) none))) (by kernel_rfl) ?_
 exact (L8 (O0 p0) hp (fun hp=>rfl) (fun hp=>(A7F hp fun _h=>rfl)))
noncomputable abbrev R0:=winQ (msum N6 A0k A7W)
theorem A7R:aPM 131 R0:=(mcM G56 (hl1 (i:=0) (by kernel_rfl) B0I) B0Z).winQ (A64 fun d=>⟨rfl,rfl⟩)
noncomputable def S57:Tab:=Tab.add S56 131 (R0)
noncomputable def D8h:FuncId→Bool:=qadd D8g 131
theorem G57:aPG S57 D8h:=G56.addMQ A7R (A7b _) (cbl Try.f131) (A5G _)

abbrev B7H:List PSh:=[.t tq6,.t .str]
noncomputable def B3Q (a0:LBBe) (a1:ByteArray):Int:=(O8 a0 a1)
noncomputable abbrev D0b (r:Int):AV×List AObj:=((ti r),[])
noncomputable abbrev C5K:H7 B7H→AV×List AObj:=fun d=>D0b (B3Q d.1 d.2.1)
noncomputable def B0J (a0:LBBe) (a1:ByteArray):Bool:=L0 a0 a1
noncomputable abbrev C1l:H7 B7H→Bool:=fun d=>B0J d.1 d.2.1
theorem D26:A7C true G57 aLn Try.f104 B7H C1l C5K:=by
 rintro ⟨a0,⟨a1,_⟩⟩ hp
 change B0J a0 a1=true at hp
 unfold B0J at hp
 refine Eq.trans (b:=(cond (L0 a0 a1) (some (D0b (O8 a0 a1))) none)) (by kernel_rfl) ?_
 exact (A7F hp fun _h=>rfl)
theorem D4S:aPP 104 (A22 B7H C1l C5K):=pcD true G57 hlz D26
noncomputable def S58:Tab:=Tab.add S57 104 (lift (A22 B7H C1l C5K))
noncomputable def D8i:FuncId→Bool:=qadd D8h 104
theorem G58:aPG S58 D8i:=G57.addQ D4S (cbl Try.f104) (fun _=>rfl)

abbrev B7F:List PSh:=[.t tq6,.t .str]
noncomputable def C4F (a0:LBBe) (a1:ByteArray):ByteArray×Bool:=(cond (decide ((B3Q a0 a1)<(0:Int))) (bE,false) ((a0.getD ((B3Q a0 a1).toNat) (bE,bE)).2,true))
noncomputable abbrev C19 (r:ByteArray×Bool):AV×List AObj:=((.tup [(.t true .str r.1),(.t true .bool r.2)]),[])
noncomputable abbrev C5I:H7 B7F→AV×List AObj:=fun d=>C19 (C4F d.1 d.2.1)
noncomputable def B15 (a0:LBBe) (a1:ByteArray):Bool:=let z1:=B3Q a0 a1;(B0J a0 a1)&&(cond (decide (z1<(0:Int))) true (decide (0≤z1∧z1<(a0.length:Int))))
noncomputable abbrev C1j:H7 B7F→Bool:=fun d=>B15 d.1 d.2.1
theorem D24:A7C true G58 aLn Try.f138 B7F C1j C5I:=by
 rintro ⟨a0,⟨a1,_⟩⟩ hp
 change B15 a0 a1=true at hp
 unfold B15 at hp
 refine Eq.trans (b:=(let z1:=B3Q a0 a1;cond (B0J a0 a1) (cond (decide (z1<(0:Int))) (some (C19 ((⟨#[]⟩:ByteArray),false))) (cond (decide (0≤z1∧z1<(a0.length:Int))) (some (C19 ((a0.getD (z1.toNat) ((⟨#[]⟩:ByteArray),(⟨#[]⟩:ByteArray))).2,true))) none)) none)) (by kernel_rfl) ?_
 exact (A7D hp fun hp=>(L8 C19 hp (fun hp=>rfl) (fun hp=>(A7F hp fun _h=>rfl))))
theorem D4Q:aPP 138 (A22 B7F C1j C5I):=pcD true G58 hlz D24
noncomputable def S59:Tab:=Tab.add S58 138 (lift (A22 B7F C1j C5I))
noncomputable def D8j:FuncId→Bool:=qadd D8i 138
theorem G59:aPG S59 D8j:=G58.addQ D4Q (cbl Try.f138) (fun _=>rfl)

abbrev D87:List Sh:=.junk::D65
abbrev u33:=((),u32)
abbrev D7l:List AV:=.junk::D7k
abbrev D8X:List AV:=.junk::D6Y
abbrev C0p:List PSh:=[.t tq6,.t tq4]
abbrev A85:SS:=⟨(.t false tq6::.junk::.junk::.junk::.junk::.junk::.junk::.junk::.junk::.t false tq4::tI::tI::C8B),[]⟩
abbrev B8w:SS:=⟨(.junk::.junk::.junk::.junk::.t true .bool::D87),[]⟩
abbrev C3X:SS:=⟨(.junk::D6e),[]⟩
noncomputable def C2h (x0:LBBe) (x9:Lq2) (x11:Int):=C4F x0 (((x9.getD x11.toNat ((0:Int),(bE,bE))).2).1)
noncomputable def C69 (x0:LBBe) (x9:Lq2) (x10 x11:Int):RT A85.den:=let z1:=x9.getD x11.toNat ((0:Int),(bE,bE));let z2:=C2h x0 x9 x11;(.br (decide (x11<x10)) (.br (decide (0≤x11∧x11<(x9.length:Int))) (.br ((z1.1) != (3:Int)) (.next ((x0,(),(),(),(),(),(),(),(),x9,x10,wI (x11+(1:Int)),u26),())) (.br (B15 x0 ((z1.2).1)) (.br (!((z2.2)==(!(((z1.2).2).toList==bE.toList)))) (.done .ret B8w (((),(),(),(),false,u33),())) (.br (!((z2.1).toList==((z1.2).2).toList)) (.done .ret B8w (((),(),(),(),false,u33),())) (.next ((x0,(),(),(),(),(),(),(),(),x9,x10,wI (x11+(1:Int)),u26),())))) .fail)) .fail) (.done (.exit 0) C3X ((u38),())))
abbrev B3k:=(LBBe)×Lq2×(Int)×(Int)
abbrev B5q:=Nat×(Bool)
def B6W:B5q:=(99,(false:Bool))
noncomputable def B4u (x0:LBBe) (x9:Lq2) (x10 x11:Int):B3k ⊕ B5q:=let z1:=x9.getD x11.toNat ((0:Int),(bE,bE));let z2:=C2h x0 x9 x11;(cond (decide (x11<x10)) (cond (decide (0≤x11∧x11<(x9.length:Int))) (cond ((z1.1) != (3:Int)) (.inl (x0,x9,x10,wI (x11+(1:Int)))) (cond (B15 x0 ((z1.2).1)) (cond (!((z2.2)==(!(((z1.2).2).toList==bE.toList)))) (.inr (0,false)) (cond (!((z2.1).toList==((z1.2).2).toList)) (.inr (0,false)) (.inl (x0,x9,x10,wI (x11+(1:Int)))))) (.inr B6W))) (.inr B6W)) (.inr (1,(false:Bool))))
noncomputable def B4d (x0:LBBe) (x9:Lq2) (x10 x11:Int):B5q:=itX (fun v:B3k=>B4u v.1 v.2.1 v.2.2.1 v.2.2.2) B6W (x0,x9,x10,x11)
noncomputable def C0U (a:B5q):CT:=(.br (a.1==0) (.done .ret B8w (((),(),(),(),a.2,u33),())) (.br (a.1==1) (.done (.exit 0) C3X ((u38),())) .fail))
noncomputable def D3D (x0:LBBe) (x9:Lq2) (x10 x11:Int):CT:=C0U (B4d x0 x9 x10 x11)
noncomputable abbrev B6M {α:Sort _} (f:LBBe→Lq2→Int→Int→α) (d:A85.den):α:=f d.1.1 d.1.2.2.2.2.2.2.2.2.2.1 d.1.2.2.2.2.2.2.2.2.2.2.1 d.1.2.2.2.2.2.2.2.2.2.2.2.1
noncomputable abbrev C1R:A85.den→RT A85.den:=(B6M C69)
noncomputable def C2I:Code:=((D4 0 (A1l Try.f119)).getD 0 (0,.skip)).2
noncomputable abbrev C60 (v:B3k):A85.den:=((v.1,(),(),(),(),(),(),(),(),v.2.1,v.2.2.1,v.2.2.2,u26),())
theorem D2Y:(∀ v:B3k,(C69 v.1 v.2.1 v.2.2.1 v.2.2.2).val=A6D C60 C0U (B4u v.1 v.2.1 v.2.2.1 v.2.2.2))∧∀ a:B5q,CEnd A85.den (C0U a):=⟨fun v=>by repeat' first | apply A7H | rfl,fun a=>(A7u aCD (A7u aCD A7w))⟩
noncomputable def C6N (x0:LBBe) (x9:Lq2) (x10 x11:Int):Option (Ex×St):=let z1:=(⟨((.t false tq6 x0)::.junk::.junk::.junk::.junk::.junk::.junk::.junk::.junk::(.t false tq4 x9)::(ti x10)::(ti (wI (x11+(1:Int))))::D7l),[],0,[]⟩:St);let z2:=x9.getD x11.toNat ((0:Int),(bE,bE));let z3:=(⟨(.junk::.junk::.junk::.junk::(.t true .bool false)::D8X),[],0,[]⟩:St);let z4:=C2h x0 x9 x11;(cond (decide (x11<x10)) (cond (decide (0≤x11∧x11<(x9.length:Int))) (cond ((z2.1) != (3:Int)) (some (.normal,z1)) (cond (B15 x0 ((z2.2).1)) (cond (!((z4.2)==(!(((z2.2).2).toList==bE.toList)))) (some (.ret,z3)) (cond (!((z4.1).toList==((z2.2).2).toList)) (some (.ret,z3)) (some (.normal,z1)))) none)) none) (some ((.exit 0),(⟨(.junk::D47),[],0,[]⟩:St))))
theorem D1f:RdA G59 aLn 0 C2I A85 0 [] (kepts [4] [(0,[])]) (B6M C6N):=by
 intro d
 kernel_rfl
theorem D1r:∀ d:A85.den,(B6M C6N) d=(C1R d).opt 0 []:=by
 intro d
 kernel_rfl
noncomputable abbrev C5f:St→Option Tree:=A85.say 0 [] [] (B6M D3D)
theorem D2H:aPL C5f C2I:=SS.wp2 hlz [] C1R D1f D1r _ (fun d=>Runs.ofI2 (step:=C1R) C60 D2Y rfl (d.1.1,d.1.2.2.2.2.2.2.2.2.2.1,d.1.2.2.2.2.2.2.2.2.2.2.1,d.1.2.2.2.2.2.2.2.2.2.2.2.1))
noncomputable def B4D (a0:LBBe) (a1:Lq2):Bool:=let z1:=B4d a0 a1 (a1.length:Int) (0:Int);(cond (z1.1==0) (z1.2) true)
noncomputable abbrev C4p (r:Bool):AV×List AObj:=((.t true .bool r),[])
noncomputable abbrev C8g:H7 C0p→AV×List AObj:=fun d=>C4p (B4D d.1 d.2.1)
noncomputable def B0p (a0:LBBe) (a1:Lq2):Bool:=let z1:=B4d a0 a1 (a1.length:Int) (0:Int);cond (z1.1==0) true (z1.1==1)
noncomputable abbrev C3z:H7 C0p→Bool:=fun d=>B0p d.1 d.2.1
noncomputable abbrev D5v:Nat→St→Option Tree:=fun b=>match b with | 0=>C5f | _=>fun _=>none
theorem D4e:A7C true G59 (D5v) Try.f119 C0p C3z C8g:=by
 rintro ⟨a0,⟨a1,_⟩⟩ hp
 change B0p a0 a1=true at hp
 unfold B0p at hp
 refine Eq.trans (b:=(let z1:=B4d a0 a1 (a1.length:Int) (0:Int);cond (z1.1==0) (some (C4p (z1.2))) (cond (z1.1==1) (some (C4p true)) none))) (by kernel_rfl) ?_
 exact (L8 C4p hp (fun hp=>rfl) (fun hp=>(A7F hp fun _h=>rfl)))
theorem D5K:aPP 119 (A22 C0p C3z C8g):=pcD true G59 (hl1 (i:=0) (by kernel_rfl) D2H) D4e
noncomputable def S60:Tab:=Tab.add S59 119 (lift (A22 C0p C3z C8g))
noncomputable def D8k:FuncId→Bool:=qadd D8j 119
theorem G60:aPG S60 D8k:=G59.addQ D5K (cbl Try.f119) (fun _=>rfl)

section
open Go.Proofs Go.Lib
theorem iT0:∀ w,(isAgg 0).run Try.prog w=.ok false w:=fun w=>by kernel_rfl
theorem iT3:∀ w,(isAgg 3).run Try.prog w=.ok false w:=fun w=>by kernel_rfl
theorem D56:∀ w,(Go.sizeOf 70).run Try.prog w=.ok 2 w:=fun w=>by kernel_rfl
theorem D6V:∀ w,(Go.sizeOf 25).run Try.prog w=.ok 1 w:=fun w=>by kernel_rfl
theorem D6U:∀ w,(zeroValue 25).run Try.prog w=.ok (Value.slice none 0 0) w:=fun w=>by kernel_rfl
theorem D6T:(Try.prog.info? 70).map (fun i=>(i.zero,i.size,i.bytes))=some (some (Value.agg #[.string ⟨#[]⟩,.string ⟨#[]⟩]),2,32):=by kernel_rfl
theorem C4M:Try.f105.ntmps=95:=by kernel_rfl

set_option maxHeartbeats 4000000 in
set_option maxRecDepth 100000 in
theorem D46 (b n c i vb voff m vc:Nat) (cs vs:List Value) (w:World) (hi:i<n) (hm:0<m) (hroom:n+m≤c) (hc63:c≤9223372036854775807) (hvb:vb ≠ b)
  (hcl:cs.length=n*2) (hvl:vs.length=m*2)
  (hcs:∀ j v,cs[j]? = some v→w.cell? ⟨b,j,none⟩=some v) (hsp:∀ j,j<(n+m)*2→(w.cell? ⟨b,j,none⟩).isSome=true) (hfz:∀ j,j<(n+m)*2→w.frozen? ⟨b,j,none⟩=false)
  (hvs:∀ j v,vs[j]? = some v→w.cell? ⟨vb,voff+j,none⟩=some v) (h1c:∀ v∈cs,v.oneCell'=true) (h1v:∀ v∈vs,v.oneCell'=true)
  (tA tB:TypeId) (kA kB:Nat) (hsa:w.shape? vb=some (tA,kA)) (hsb:w.shape? b=some (tB,kB)) (hkB:kB ≠ 0) (hfa:w.frozen? ⟨vb,voff,none⟩=false) (hfe:w.frozen? ⟨vb,kA,none⟩=false) :
  Calls Try.prog 105 #[.slice (some ⟨b,0,none⟩) n c,.int .i64 i,.slice (some ⟨vb,voff,none⟩) m vc] w fun e w' =>
   e=.returned (.slice (some ⟨b,0,none⟩) (n+m) c)∧w'=(w.drew.setCells b ((i+m)*2) (cs.drop (i*2))).setCells b (i*2) vs:=by
 have t0:=Try.underlying0;have t3:=Try.underlying3;have t4:=Try.underlying4;have t25:=Try.underlying25
 have a0:=iT0;have a3:=iT3;have z70:=D56;have z25:=D6V;have v25:=D6U
 have u0:=run_underlying t0;have u3:=run_underlying t3;have u4:=run_underlying t4;have u25:=run_underlying t25
 have hz1:¬ ((m:Int)=0):=by omega
 have hz2:¬ ((i:Int)=(n:Int)):=by omega
 have hsz:(Try.prog.info? 70).map (·.size)=some 2:=by
  obtain ⟨i0,hi0,h0,h1,h2⟩:=info_parts D6T
  rw [hi0];simp [h1]
 have hov:∀ lb cb,(callFunc 133 #[.slice (some ⟨vb,voff,none⟩) m vc,.slice (some ⟨b,(i+m)*2,none⟩) lb cb]).run Try.prog w=.ok (.value (.bool false)) w:=fun lb cb=>by
  rw [run_callFunc_extern Try.func133 (by kernel_rfl) (by kernel_rfl) (by kernel_rfl) (e:=Extern.SlicesOverlaps.overlaps #[25,25] #[4]) (by kernel_rfl),
   Lib.run_overlaps_apart w 25 4 70 t25 2 D56 ⟨vb,voff,none⟩ ⟨b,(i+m)*2,none⟩ m vc lb cb hvb tA tB kA kB hsa hsb hkB hfa hfe]
  rfl
 have hdl:(cs.drop (i*2)).length=(n - i)*2:=by rw [List.length_drop,hcl];omega
 have mixed:Try.prog.follows .mixedOrders=true:=by kernel_rfl
 have hw1:IntKind.i64.wrap ((i:Int)+(m:Int))=(i:Int)+(m:Int):=by rw [IntKind.wrap_i64];omega
 have hb1:(0:Int)≤(i:Int)+(m:Int):=by omega
 have hin:i≤n:=by omega
 have htn:((i:Int)+(m:Int)).toNat=i+m:=by omega
 have hb2:¬ (c=i+m):=by omega
 have hb3:(i:Int)≤(n:Int)+(m:Int):=by omega
 have hb4:¬ (c=i):=by omega
 have hcp1:∀ ty dc sc,(Builtin.copy_ #[25,25] ty #[.slice (some ⟨b,(i+m)*2,none⟩) (n+m - (i+m)) dc,.slice (some ⟨b,i*2,none⟩) (n+m - i) sc]).run Try.prog w.drew=.ok (goInt ((n - i:Nat):Int)) (w.drew.setCells b ((i+m)*2) (cs.drop (i*2))):=fun ty dc sc=>by
  have hmin:Nat.min (n+m - i) (n+m - (i+m))=n - i:=by simp only [Nat.min_def];split<;>omega
  have:=A7a w.drew 25 25 ty 70 2 b ((i+m)*2) (n+m - (i+m)) dc ⟨b,i*2,none⟩ (n+m - i) sc (cs.drop (i*2)) t25 hsz (by rw [hdl,hmin])
   (fun j v hj=>by rw [Addr.add_lit];exact hcs (i*2+j) v (by rwa [List.getElem?_drop] at hj))
   (fun j hj=>hsp _ (by rw [hdl] at hj;omega)) (fun j hj=>hfz _ (by rw [hdl] at hj;omega)) (fun v hv=>h1c v (List.mem_of_mem_drop hv))
  rw [hmin] at this
  exact this
 obtain ⟨W1,hW1⟩:∃ W1,W1=w.drew.setCells b ((i+m)*2) (cs.drop (i*2)):=⟨_,rfl⟩
 have hsp1:∀ k,k<(n+m)*2→(W1.cell? ⟨b,k,none⟩).isSome=true:=fun k hk=>by
  rw [hW1]
  exact isSome_setCells b (cs.drop (i*2)) ((i+m)*2) w.drew (fun j hj=>hsp ((i+m)*2+j) (by rw [hdl] at hj;omega)) k (hsp k hk)
 have hcp2:∀ (W:World),(∀ x,W.cell? x=W1.cell? x)→(∀ x,W.frozen? x=W1.frozen? x)→∀ ty dc,(Builtin.copy_ #[25,25] ty #[.slice (some ⟨b,i*2,none⟩) (n+m - i) dc,.slice (some ⟨vb,voff,none⟩) m vc]).run Try.prog W=.ok (goInt m) (W.setCells b (i*2) vs):=fun W hWc hWf ty dc=>by
  have hmin:Nat.min m (n+m - i)=m:=by simp only [Nat.min_def];split<;>omega
  have:=A7a W 25 25 ty 70 2 b (i*2) (n+m - i) dc ⟨vb,voff,none⟩ m vc vs t25 hsz (by rw [hvl,hmin])
   (fun j v hj=>by
    rw [Addr.add_lit,hWc,hW1,World.cell?_setCells_out b _ _ _ _ (fun h _=>absurd h hvb)]
    exact hvs j v hj)
   (fun j hj=>by rw [hWc];exact hsp1 _ (by omega)) (fun j hj=>by rw [hWf,hW1,World.frozen?_setCells];exact hfz _ (by omega)) h1v
  rw [hmin] at this
  exact this
 rw [← hW1] at hcp1
 go_enter Try.func105,C4M
 go_wp2_with (simp only [hov])
 go_region_law_o (refine step_copy_runI rfl _ _ 25 25 rfl _ _ (by simp [Act.eval,Act.put]) (by simp [Act.eval,Act.put]) (hcp1 _ _ _) ?_)
 go_wp2_with (at_builtin;refine wpList_copy_runI _ rfl _ _ 25 25 rfl _ _ rfl rfl (hcp2 _ (fun _=>rfl) (fun _=>rfl) _ _) ?_)
 go_ret
 first | exact ⟨rfl,rfl⟩ | exact ⟨rfl,by rw [hW1]⟩
set_option maxHeartbeats 4000000 in
set_option maxRecDepth 100000 in
theorem D00 (b n c vb voff m vc:Nat) (vs:List Value) (w:World) (hm:0<m) (hroom:n+m≤c) (hc63:c≤9223372036854775807)
  (hvl:vs.length=m*2) (hsp:∀ j,j<m*2→(w.cell? ⟨b,n*2+j,none⟩).isSome=true) (hfz:∀ j,j<m*2→w.frozen? ⟨b,n*2+j,none⟩=false)
  (hvs:∀ j v,vs[j]? = some v→w.cell? ⟨vb,voff+j,none⟩=some v) (h1v:∀ v∈vs,v.oneCell'=true) :
  Calls Try.prog 105 #[.slice (some ⟨b,0,none⟩) n c,.int .i64 n,.slice (some ⟨vb,voff,none⟩) m vc] w fun e w' =>
   e=.returned (.slice (some ⟨b,0,none⟩) (n+m) c)∧w'=w.setCells b (n*2) vs:=by
 have t0:=Try.underlying0;have t3:=Try.underlying3;have t4:=Try.underlying4;have t25:=Try.underlying25
 have a0:=iT0;have a3:=iT3;have z70:=D56;have z25:=D6V;have v25:=D6U
 have u0:=run_underlying t0;have u3:=run_underlying t3;have u4:=run_underlying t4;have u25:=run_underlying t25
 have mixed:Try.prog.follows .mixedOrders=true:=by kernel_rfl
 obtain ⟨i0,hi0,hz0,hzs,hzb⟩:=info_parts D6T
 have hz1:¬ ((m:Int)=0):=by omega
 have hsrc:Src Try.prog i0.size 25 (.slice (some ⟨vb,voff,none⟩) m vc) m vs w:=Src.ofSlice w t25 ⟨vb,voff,none⟩ m vc vs (by rw [hzs];exact hvl) (fun j u hj=>by rw [Addr.add_lit];exact hvs j u hj) h1v
 have h1:∀ j,j<vs.length→(w.cell? ⟨b,0+n*i0.size+j,none⟩).isSome=true:=fun j hj=>by rw [hzs,Nat.zero_add];exact hsp j (by omega)
 have h2:∀ j,j<vs.length→w.frozen? ⟨b,0+n*i0.size+j,none⟩=false:=fun j hj=>by rw [hzs,Nat.zero_add];exact hfz j (by omega)
 have hoff:0+n*i0.size=n*2:=by rw [hzs];omega
 go_enter Try.func105,C4M
 go_wp2_with (at_builtin;refine wpList_append_room_src _ rfl _ _ 25 25 rfl 70 i0 t25 hi0 b 0 n c rfl _ rfl m vs hsrc hroom h1 h2 ?_)
 go_ret
 first | exact ⟨rfl,rfl⟩ | exact ⟨rfl,by rw [hoff]⟩ | exact ⟨rfl,by rw [← hoff]⟩ | exact ⟨rfl,by simp [hzs]⟩

set_option maxHeartbeats 4000000 in
set_option maxRecDepth 100000 in
theorem D0Z (base:Option Addr) (n c vb voff m vc:Nat) (cs vs:List Value) (w:World) (hm:0<m) (hnc:n≤c) (hroom:c<n+m) (hbig:(n+m)*32≤140737488355328)
  (hcl:cs.length=n*2) (hvl:vs.length=m*2) (hnil:base=none→n=0)
  (hcs:∀ a,base=some a→∀ j v,cs[j]? = some v→w.cell? (a.add j)=some v)
  (hvs:∀ j v,vs[j]? = some v→w.cell? ⟨vb,voff+j,none⟩=some v) (h1v:∀ v∈vs,v.oneCell'=true) :
  Calls Try.prog 105 #[.slice base n c,.int .i64 n,.slice (some ⟨vb,voff,none⟩) m vc] w fun e w' =>
   e=.returned (.slice (some ⟨w.heap.size,0,none⟩) (n+m) (grownCap w (n+m) c 70)) ∧
   w'=w.drew.alloc (.cells ((cs++vs).toArray++Builtin.zeroCells #[Value.string ⟨#[]⟩,Value.string ⟨#[]⟩] (grownCap w (n+m) c 70 - (n+m))) 70):=by
 have t0:=Try.underlying0;have t3:=Try.underlying3;have t4:=Try.underlying4;have t25:=Try.underlying25
 have a0:=iT0;have a3:=iT3;have z70:=D56;have z25:=D6V;have v25:=D6U
 have u0:=run_underlying t0;have u3:=run_underlying t3;have u4:=run_underlying t4;have u25:=run_underlying t25
 have mixed:Try.prog.follows .mixedOrders=true:=by kernel_rfl
 obtain ⟨i0,hi0,hz0,hzs,hzb⟩:=info_parts D6T
 have hz1:¬ ((m:Int)=0):=by omega
 have hsrc:Src Try.prog i0.size 25 (.slice (some ⟨vb,voff,none⟩) m vc) m vs w:=Src.ofSlice w t25 ⟨vb,voff,none⟩ m vc vs (by rw [hzs];exact hvl) (fun j u hj=>by rw [Addr.add_lit];exact hvs j u hj) h1v
 have hold:(Builtin.firstCells i0.size n (.slice base n c)).run Try.prog w.drew=.ok cs.toArray w.drew:=by
  rw [hzs]
  cases base with
  | none =>
   have h0:=hnil rfl
   subst h0
   have hc0:cs=[]:=List.length_eq_zero_iff.1 (by omega)
   rw [hc0]
   exact run_firstCells_none w.drew 2 0 0 c
  | some a=>exact run_firstCells_some w.drew 2 n a n c cs (by omega) (fun j v hj=>hcs a rfl j v hj)
 have hrun:∀ ty,(Builtin.append_ #[25,25] ty #[.slice base n c,.slice (some ⟨vb,voff,none⟩) m vc]).run Try.prog w=_:=fun ty =>
  run_append_grow_src w 25 25 ty 70 i0 _ t25 hi0 hz0 base n c cs hold _ m vs hsrc hroom (by omega) (by rw [hzb];exact growslice_fits hroom hbig)
 go_enter Try.func105,C4M
 cases base with
 | none =>
  have h0:=hnil rfl
  subst h0
  go_wp2_with (at_builtin;refine Lib.wpList_append_run _ rfl _ _ _ _ rfl _ _ rfl rfl _ _ (hrun _) ?_)
  go_ret
  exact ⟨rfl,rfl⟩
 | some a =>
  obtain ⟨ab,ao,asp⟩:=a
  go_wp2_with (at_builtin;refine Lib.wpList_append_run _ rfl _ _ _ _ rfl _ _ rfl rfl _ _ (hrun _) ?_)
  all_goals (go_ret;exact ⟨rfl,rfl⟩)
set_option maxHeartbeats 4000000 in
set_option maxRecDepth 100000 in
theorem D57 (b n c i vb voff m vc:Nat) (cs vs:List Value) (w:World) (hi:i<n) (hm:0<m) (hnc:n≤c) (hroom:c<n+m) (hbig:(n+m)*32≤140737488355328)
    (hcl:cs.length=n*2) (hvl:vs.length=m*2)
    (hcs:∀ j v,cs[j]? = some v→w.cell? ⟨b,j,none⟩=some v)
    (hvs:∀ j v,vs[j]? = some v→w.cell? ⟨vb,voff+j,none⟩=some v) (h1c:∀ v∈cs,v.oneCell'=true) (h1v:∀ v∈vs,v.oneCell'=true) :
    Calls Try.prog 105 #[.slice (some ⟨b,0,none⟩) n c,.int .i64 i,.slice (some ⟨vb,voff,none⟩) m vc] w fun e w' =>
      e=.returned (.slice (some ⟨w.heap.size,0,none⟩) (n+m) (grownCap w (n+m) c 70)) ∧
      w'=(((w.alloc (.cells ((cs.take (i*2)).toArray++Builtin.zeroCells #[Value.string ⟨#[]⟩,Value.string ⟨#[]⟩] (n+m - i)++Builtin.zeroCells #[Value.string ⟨#[]⟩,Value.string ⟨#[]⟩] (grownCap w (n+m) c 70 - (n+m))) 70)).drew.setCells w.heap.size (i*2) vs).drew).setCells w.heap.size ((i+m)*2) (cs.drop (i*2)):=by
  have t0:=Try.underlying0;have t3:=Try.underlying3;have t4:=Try.underlying4;have t25:=Try.underlying25
  have a0:=iT0;have a3:=iT3;have z70:=D56;have z25:=D6V;have v25:=D6U
  have u0:=run_underlying t0;have u3:=run_underlying t3;have u4:=run_underlying t4;have u25:=run_underlying t25
  have mixed:Try.prog.follows .mixedOrders=true:=by kernel_rfl
  obtain ⟨i0,hi0,hz0,hzs,hzb⟩:=info_parts D6T
  have hz1:¬ ((m:Int)=0):=by omega
  have hz2:¬ ((i:Int)=(n:Int)):=by omega
  have hz3:(c:Int)<(n:Int)+(m:Int):=by omega
  have hsz:(Try.prog.info? 70).map (·.size)=some 2:=by rw [hi0];simp [hzs]
  have hbw:b<w.heap.size:=block_lt_of_cell (hcs 0 _ (List.getElem?_eq_getElem (by omega)))
  have hvw:vb<w.heap.size:=block_lt_of_cell (hvs 0 _ (List.getElem?_eq_getElem (by omega)))
  have hkk:(n:Int)+(m:Int) - (i:Int)=((n+m - i:Nat):Int):=by omega
  have hik:i+(n+m - i)=n+m:=by omega
  have hold:(Builtin.firstCells i0.size i (.slice (some ⟨b,0,none⟩) i c)).run Try.prog w.drew=.ok (cs.take (i*2)).toArray w.drew:=by
    rw [hzs]
    exact run_firstCells_some w.drew 2 i ⟨b,0,none⟩ i c (cs.take (i*2)) (by rw [List.length_take];omega) (fun j v hj=>by
      rw [Addr.add_lit,Nat.zero_add]
      rw [List.getElem?_take] at hj
      split at hj
      · exact hcs j v hj
      · cases hj)
  have hrz : ∀ ty, (Builtin.append_ #[25, 3] ty #[.slice (some ⟨b, 0, none⟩) i c, .int .i64 ((n : Int) + (m : Int) - (i : Int))]).run Try.prog w =
      .ok (.slice (some ⟨w.heap.size,0,none⟩) (n+m) (grownCap w (n+m) c 70)) (w.drew.alloc (.cells ((cs.take (i*2)).toArray++Builtin.zeroCells #[Value.string ⟨#[]⟩,Value.string ⟨#[]⟩] (n+m - i)++Builtin.zeroCells #[Value.string ⟨#[]⟩,Value.string ⟨#[]⟩] (grownCap w (n+m) c 70 - (n+m))) 70)):=fun ty=>by
    have h:=Lib.run_append_grow_zeros w 25 3 ty 70 i0 _ .i64 .i64 t25 t3 hi0 hz0 (some ⟨b,0,none⟩) i c (cs.take (i*2)) hold (n+m - i) (by omega) (by omega) (by omega) (by omega) (by rw [hzb];omega) (by rw [hzb,hik];exact growslice_fits hroom hbig)
    rw [hik] at h
    rw [hkk]
    exact h
  obtain ⟨G,hG⟩:∃ G,G=grownCap w (n+m) c 70:=⟨_,rfl⟩
  obtain ⟨ROW,hROW⟩:∃ ROW:Array Value,ROW=(cs.take (i*2)).toArray++Builtin.zeroCells #[Value.string ⟨#[]⟩,Value.string ⟨#[]⟩] (n+m - i)++Builtin.zeroCells #[Value.string ⟨#[]⟩,Value.string ⟨#[]⟩] (G - (n+m)):=⟨_,rfl⟩
  rw [← hG] at hrz ⊢
  rw [← hROW] at hrz ⊢
  have hRl:(n+m)*2≤ROW.size:=by
    rw [hROW]
    simp [Builtin.zeroCells]
    omega
  obtain ⟨W1,hW1⟩:∃ W1,W1=w.drew.alloc (.cells ROW 70):=⟨_,rfl⟩
  rw [← hW1] at hrz
  have hN:∀ j,j<(n+m)*2→(W1.cell? ⟨w.heap.size,j,none⟩).isSome=true:=fun j hj=>by
    rw [hW1,World.cell?_alloc_at (w:=w.drew) ROW _ w.heap.size j rfl,Array.getElem?_eq_getElem (by omega)];rfl
  have hNf:∀ j,W1.frozen? ⟨w.heap.size,j,none⟩=false:=fun j=>by rw [hW1];exact World.frozen?_alloc_at (w:=w.drew) ROW _ w.heap.size j rfl
  have hOb:∀ j v,w.cell? ⟨b,j,none⟩=some v→W1.cell? ⟨b,j,none⟩=some v:=fun j v h=>by rw [hW1,World.cell?_alloc_past (w:=w.drew) _ b j hbw];exact h
  have hOv:∀ j v,w.cell? ⟨vb,j,none⟩=some v→W1.cell? ⟨vb,j,none⟩=some v:=fun j v h=>by rw [hW1,World.cell?_alloc_past (w:=w.drew) _ vb j hvw];exact h
  have hcpA:∀ (W:World),(∀ x,W.cell? x=W1.cell? x)→(∀ x,W.frozen? x=W1.frozen? x)→∀ ty dc,(Builtin.copy_ #[25,25] ty #[.slice (some ⟨w.heap.size,i*2,none⟩) (n+m - i) dc,.slice (some ⟨vb,voff,none⟩) m vc]).run Try.prog W=.ok (goInt m) (W.setCells w.heap.size (i*2) vs):=fun W hWc hWf ty dc=>by
    have hmin:Nat.min m (n+m - i)=m:=by simp only [Nat.min_def];split<;>omega
    have:=A7a W 25 25 ty 70 2 w.heap.size (i*2) (n+m - i) dc ⟨vb,voff,none⟩ m vc vs t25 hsz (by rw [hvl,hmin])
      (fun j v hj=>by rw [Addr.add_lit,hWc];exact hOv _ v (hvs j v hj))
      (fun j hj=>by rw [hWc];exact hN _ (by omega)) (fun j hj=>by rw [hWf];exact hNf _) h1v
    rw [hmin] at this
    exact this
  have hGn:n+m≤G:=by rw [hG];exact grownCap_ge w _ _ _
  have hG63:G≤9223372036854775807:=by
    have:=grownCap_le_maxLen w (n+m) c 70 (by unfold maxLen;omega)
    rw [← hG] at this
    unfold maxLen at this
    omega
  have hGi:¬ (G=i):=by omega
  have hGim:¬ (G=i+m):=by omega
  have hci:¬ (c=i):=by omega
  have hbN:b ≠ w.heap.size:=by omega
  have hdl:(cs.drop (i*2)).length=(n - i)*2:=by rw [List.length_drop,hcl];omega
  have hcpB:∀ (W:World),(∀ x,W.cell? x=(W1.setCells w.heap.size (i*2) vs).cell? x)→(∀ x,W.frozen? x=(W1.setCells w.heap.size (i*2) vs).frozen? x)→∀ ty dc sc,(Builtin.copy_ #[25,25] ty #[.slice (some ⟨w.heap.size,(i+m)*2,none⟩) (n+m - (i+m)) dc,.slice (some ⟨b,i*2,none⟩) (n - i) sc]).run Try.prog W=.ok (goInt ((n - i:Nat):Int)) (W.setCells w.heap.size ((i+m)*2) (cs.drop (i*2))):=fun W hWc hWf ty dc sc=>by
    have hmin:Nat.min (n - i) (n+m - (i+m))=n - i:=by simp only [Nat.min_def];split<;>omega
    have:=A7a W 25 25 ty 70 2 w.heap.size ((i+m)*2) (n+m - (i+m)) dc ⟨b,i*2,none⟩ (n - i) sc (cs.drop (i*2)) t25 hsz (by rw [hdl,hmin])
      (fun j v hj=>by
        rw [Addr.add_lit,hWc,World.cell?_setCells_out _ _ _ _ _ (fun h _=>absurd h hbN)]
        exact hOb _ v (hcs (i*2+j) v (by rwa [List.getElem?_drop] at hj)))
      (fun j hj=>by rw [hWc];exact isSome_setCells w.heap.size vs (i*2) W1 (fun t ht=>hN (i*2+t) (by omega)) _ (hN _ (by rw [hdl] at hj;omega)))
      (fun j hj=>by rw [hWf,World.frozen?_setCells];exact hNf _) (fun v hv=>h1c v (List.mem_of_mem_drop hv))
    rw [hmin] at this
    exact this
  subst hW1
  have hE1:∀ x,((w.alloc (.cells ROW 70)).drew).cell? x=(w.drew.alloc (.cells ROW 70)).cell? x:=fun x=>rfl
  have hE2:∀ x,((w.alloc (.cells ROW 70)).drew).frozen? x=(w.drew.alloc (.cells ROW 70)).frozen? x:=fun x=>rfl
  have hF1:∀ x,(((w.alloc (.cells ROW 70)).drew.setCells w.heap.size (i*2) vs).drew).cell? x=((w.drew.alloc (.cells ROW 70)).setCells w.heap.size (i*2) vs).cell? x:=fun x=>rfl
  have hF2:∀ x,(((w.alloc (.cells ROW 70)).drew.setCells w.heap.size (i*2) vs).drew).frozen? x=((w.drew.alloc (.cells ROW 70)).setCells w.heap.size (i*2) vs).frozen? x:=fun x=>rfl
  have hw1:IntKind.i64.wrap ((i:Int)+(m:Int))=(i:Int)+(m:Int):=by rw [IntKind.wrap_i64];omega
  have hb1:(0:Int)≤(i:Int)+(m:Int):=by omega
  have hin:i≤n:=by omega
  have htn:((i:Int)+(m:Int)).toNat=i+m:=by omega
  have hb3:(i:Int)≤(n:Int):=by omega
  clear hkk hik hold hROW hG hRl
  go_enter Try.func105,C4M
  go_wp2_with (first
    | (at_builtin;refine Lib.wpList_append_run _ rfl _ _ _ _ rfl _ _ rfl rfl _ _ (hrz _) ?_)
    | (at_builtin;refine wpList_copy_runI _ rfl _ _ 25 25 rfl _ _ rfl rfl (hcpA _ hE1 hE2 _ _) ?_)
    | (at_builtin;refine wpList_copy_runI _ rfl _ _ 25 25 rfl _ _ rfl rfl (hcpB _ (fun _=>rfl) (fun _=>rfl) _ _ _) ?_))
  go_region_law_o (refine step_copy_runI rfl _ _ 25 25 rfl (.slice (some ⟨w.heap.size,(i+m)*2,none⟩) (n+m - (i+m)) (G - (i+m))) (.slice (some ⟨b,i*2,none⟩) (n - i) (c - i)) (by simp [Act.eval,Act.put]) (by simp [Act.eval,Act.put]) (hcpB _ hF1 hF2 3 (G - (i+m)) (c - i)) ?_)
  go_wp2
  go_ret
  exact ⟨rfl,rfl⟩
end
theorem D7e:aPM 105 (A6r 70):=MContract.insPair (F:=105) (E:=70)
 (fun b n c i vb vc cs vs w h1 h2 h3 h4 h5 h6 h7 h8 h9 h10 h11 h12 tA tB kA kB g1 g2 g3 g4 g5=>D46 b n c i vb 0 1 vc cs vs w h1 (by decide) h2 h3 h4 h5 h6 h7 h8 h9 h10 h11 h12 tA tB kA kB g1 g2 g3 g4 g5)
 (fun b n c vb vc vs w h1 h2 h3 h4 h5 h6 h7=>D00 b n c vb 0 1 vc vs w (by decide) h1 h2 h3 h4 h5 h6 h7)
 (fun base n c vb vc cs vs w h1 h2 h3 h4 h5 h6 h7 h8 h9=>(D0Z base n c vb 0 1 vc cs vs w (by decide) h1 h2 h3 h4 h5 h6 h7 h8 h9).mono (fun _ _ h=>⟨_,grownCap_ge w (n+1) c 70,grownCap_le_maxLen w (n+1) c 70 (by simp only [maxLen];omega),h.1,h.2⟩))
 (fun b n c i vb vc cs vs w h1 h2 h3 h4 h5 h6 h7 h8 h9 h10=>(D57 b n c i vb 0 1 vc cs vs w h1 (by decide) h2 h3 h4 h5 h6 h7 h8 h9 h10).mono (fun _ _ h=>⟨_,grownCap_ge w (n+1) c 70,grownCap_le_maxLen w (n+1) c 70 (by simp only [maxLen];omega),h.1,h.2⟩))
noncomputable def D8V (l:LBBe) (i:Int) (y:LBBe):LBBe:=l.take i.toNat++(y++l.drop i.toNat)
noncomputable def D39 (l:LBBe) (i:Int) (y:LBBe):Bool:=decide (0≤i∧i≤(l.length:Int))&&decide ((l.length+1)*32≤140737488355328)
noncomputable def S61:Tab:=Tab.add S60 105 (win E8 (A6r 70))
noncomputable def D8l:FuncId→Bool:=D8k
theorem G61:aPG S61 D8l:=G60.addM (D7e.win E8) (A7d _) ⟨Try.f105,by kernel_rfl,by kernel_rfl,by kernel_rfl⟩ (by kernel_rfl)

abbrev B8C:SS:=⟨[.all 0 2,.t true .str,.t true .str],[.rows 70 true J5]⟩
abbrev A8i:SS:=⟨(.all 0 2::.t true .str::.t true .str::.junk::.junk::.junk::.junk::.junk::tI::D2E),[.rows 70 true J5]⟩
abbrev B68:SS:=⟨(.all 0 2::.t true .str::.t true .str::.junk::.junk::.junk::.junk::.junk::tI::D2E),[.rows 70 true J5]⟩
noncomputable def C5t (x1 x2:ByteArray) (x8:Int) (h0:LBBe):RT A8i.den:=let z1:=(h0.getD x8.toNat (bE,bE)).1;(.br (decide (x8<(h0.length:Int))) (.br (decide (0≤x8∧x8<(h0.length:Int))) (.br (Op.bytesLess z1.toList x1.toList||(z1.toList==x1.toList)) (.next (((),x1,x2,(),(),(),(),(),wI (x8+(1:Int)),u34),(h0,()))) (.done (.exit 0) B68 (((),x1,x2,(),(),(),(),(),x8,u34),(h0,())))) .fail) (.done (.exit 0) B68 (((),x1,x2,(),(),(),(),(),x8,u34),(h0,()))))
abbrev B1T:=(ByteArray)×(ByteArray)×(Int)×(LBBe)
abbrev B1P:=Nat×(ByteArray)×(ByteArray)×(Int)×(LBBe)
def B8P:B1P:=(99,(bE:ByteArray),(bE:ByteArray),((0:Int):Int),([]:LBBe))
noncomputable def B22 (x1 x2:ByteArray) (x8:Int) (h0:LBBe):B1T ⊕ B1P:=let z1:=(h0.getD x8.toNat (bE,bE)).1;(cond (decide (x8<(h0.length:Int))) (cond (decide (0≤x8∧x8<(h0.length:Int))) (cond (Op.bytesLess z1.toList x1.toList||(z1.toList==x1.toList)) (.inl (x1,x2,wI (x8+(1:Int)),h0)) (.inr (0,x1,x2,x8,h0))) (.inr B8P)) (.inr (0,x1,x2,x8,h0)))
noncomputable def B2F (x1 x2:ByteArray) (x8:Int) (h0:LBBe):B1P:=itX (fun v:B1T=>B22 v.1 v.2.1 v.2.2.1 v.2.2.2) B8P (x1,x2,x8,h0)
noncomputable def B8E (a:B1P):CT:=(.br (a.1==0) (.done (.exit 0) B68 (((),a.2.1,a.2.2.1,(),(),(),(),(),a.2.2.2.1,u34),(a.2.2.2.2,()))) .fail)
noncomputable def D14 (x1 x2:ByteArray) (x8:Int) (h0:LBBe):CT:=B8E (B2F x1 x2 x8 h0)
noncomputable abbrev B42 {α:Sort _} (f:ByteArray→ByteArray→Int→LBBe→α) (d:A8i.den):α:=f d.1.2.1 d.1.2.2.1 d.1.2.2.2.2.2.2.2.2.1 d.2.1
noncomputable abbrev B9w:A8i.den→RT A8i.den:=(B42 C5t)
noncomputable def C0I:Code:=((D4 0 (A1l Try.f65)).getD 0 (0,.skip)).2
noncomputable abbrev C4T (v:B1T):A8i.den:=(((),v.1,v.2.1,(),(),(),(),(),v.2.2.1,u34),(v.2.2.2,()))
theorem D1x:(∀ v:B1T,(C5t v.1 v.2.1 v.2.2.1 v.2.2.2).val=A6D C4T B8E (B22 v.1 v.2.1 v.2.2.1 v.2.2.2))∧∀ a:B1P,CEnd A8i.den (B8E a):=⟨fun v=>(A7H (A7H (A7H rfl rfl) rfl) rfl),fun a=>(A7u aCD A7w)⟩
noncomputable def C4N (x1 x2:ByteArray) (x8:Int) (h0:LBBe):Option (Ex×St):=let z1:=(⟨((.all 0 2)::(.t true .str x1)::(.t true .str x2)::.junk::.junk::.junk::.junk::.junk::(ti x8)::D3Z),[(.rows 70 true J5 h0)],1,[]⟩:St);let z2:=(h0.getD x8.toNat (bE,bE)).1;(cond (decide (x8<(h0.length:Int))) (cond (decide (0≤x8∧x8<(h0.length:Int))) (cond (Op.bytesLess z2.toList x1.toList||(z2.toList==x1.toList)) (some (.normal,(⟨((.all 0 2)::(.t true .str x1)::(.t true .str x2)::.junk::.junk::.junk::.junk::.junk::(ti (wI (x8+(1:Int))))::D3Z),[(.rows 70 true J5 h0)],1,[]⟩:St))) (some ((.exit 0),z1))) none) (some ((.exit 0),z1)))
theorem C9N:RdA G61 aLn 0 C0I A8i 1 [] (kepts [] [(0,[0,1,2,8])]) (B42 C4N):=by
 intro d
 kernel_rfl
theorem C9V:∀ d:A8i.den,(B42 C4N) d=(B9w d).opt 1 []:=by
 intro d
 kernel_rfl
noncomputable abbrev C27:St→Option Tree:=A8i.say 1 [] [] (B42 D14)
theorem D05:aPL C27 C0I:=SS.wp2 hlz [] B9w C9N C9V _ (fun d=>Runs.ofI2 (step:=B9w) C4T D1x rfl (d.1.2.1,d.1.2.2.1,d.1.2.2.2.2.2.2.2.2.1,d.2.1))
noncomputable def C3v (x1 x2:ByteArray) (h0:LBBe):=let z1:=B2F x1 x2 (0:Int) h0;D8V (z1.2.2.2.2) (z1.2.2.2.1) [((z1.2.1),(z1.2.2.1))]
noncomputable def C7R (x1 x2:ByteArray) (h0:LBBe):LBBe:=let z1:=B3Q h0 x1;(cond (decide (z1 ≥ (0:Int))) (h0.set (z1.toNat) ((h0.getD (z1.toNat) (bE,bE)).1,x2)) (C3v x1 x2 h0))
noncomputable abbrev C2b (r:LBBe):AV×List AObj×List Nat:=((.all 0 2),[(.rows 70 true J5 r)],[0])
noncomputable abbrev D0f:B8C.den→AV×List AObj×List Nat:=fun d=>C2b (C7R d.1.2.1 d.1.2.2.1 d.2.1)
noncomputable def B16 (x1 x2:ByteArray) (h0:LBBe):Bool:=let z1:=B2F x1 x2 (0:Int) h0;let z2:=B3Q h0 x1;(B0J h0 x1)&&(cond (decide (z2 ≥ (0:Int))) (decide (0≤z2∧z2<(h0.length:Int))) ((z1.1==0)&&(D39 (z1.2.2.2.2) (z1.2.2.2.1) [((z1.2.1),(z1.2.2.1))])))
noncomputable abbrev C6Y:B8C.den→Bool:=fun d=>B16 d.1.2.1 d.1.2.2.1 d.2.1
noncomputable abbrev D4F:Nat→St→Option Tree:=fun b=>match b with | 0=>C27 | _=>fun _=>none
theorem D27:A7A false [] [0] [] G61 (D4F) Try.f65 B8C C6Y D0f:=by
 rintro ⟨⟨_,x1,x2,_⟩,⟨h0,_⟩⟩ hp
 change B16 x1 x2 h0=true at hp
 unfold B16 at hp
 refine Eq.trans (b:=(let z1:=B2F x1 x2 (0:Int) h0;let z2:=B3Q h0 x1;cond (B0J h0 x1) (cond (decide (z2 ≥ (0:Int))) (cond (decide (0≤z2∧z2<(h0.length:Int))) (some (C2b (h0.set (z2.toNat) ((h0.getD (z2.toNat) ((⟨#[]⟩:ByteArray),(⟨#[]⟩:ByteArray))).1,x2)))) none) (cond (z1.1==0) (cond (D39 (z1.2.2.2.2) (z1.2.2.2.1) [((z1.2.1),(z1.2.2.1))]) (some (C2b (C3v x1 x2 h0))) none) none)) none)) (by kernel_rfl) ?_
 exact (A7D hp fun hp=>(L8 C2b hp (fun hp=>(A7F hp fun _h=>rfl)) (fun hp=>(A7D hp fun hp=>(A7F hp fun _h=>rfl)))))
noncomputable abbrev D0j:=win E8 (msum B8C C6Y D0f)
theorem D4T:aPM 65 D0j:=(mcE false [] [0] []  G61 (hl1 (i:=0) (by kernel_rfl) D05) D27).win E8
noncomputable def S62:Tab:=Tab.add S61 65 (D0j)
noncomputable def D8m:FuncId→Bool:=D8l
theorem G62:aPG S62 D8m:=G61.addM D4T (A7d _) (cbl Try.f65) (by kernel_rfl)

abbrev B4X:SS:=⟨[.agg [.t true .str,.t true .str],.ptr 0 0 1 0],[.box [.t true .str]]⟩
noncomputable def B5p (x0_0 x0_1 p0:ByteArray):Bool:=(x0_0.toList==p0.toList)
noncomputable abbrev D2q (p0:ByteArray) (r:Bool):AV×List AObj×List Nat:=((.t true .bool r),[(.box [(.t true .str p0)])],[])
noncomputable abbrev C6B:B4X.den→AV×List AObj×List Nat:=fun d=>D2q d.2.1.1 (B5p d.1.1.1 d.1.1.2.1 d.2.1.1)
noncomputable abbrev C22:B4X.den→Bool:=fun d=>true
theorem C9Y:A7B G62 aLn Try.f107 B4X C22 C6B:=by
 rintro ⟨⟨⟨x0_0,x0_1,_⟩,_,_⟩,⟨⟨p0,_⟩,_⟩⟩ hp
 kernel_rfl
noncomputable abbrev C6I:=winQ (msum B4X C22 C6B)
theorem D2e:aPM 107 C6I:=(mcM G62 hlz C9Y).winQ (A64 fun d=>⟨rfl,rfl⟩)
noncomputable def S63:Tab:=Tab.add S62 107 (C6I)
noncomputable def D8n:FuncId→Bool:=qadd D8m 107
theorem G63:aPG S63 D8n:=G62.addMQ D2e (A7b _) (cbl Try.f107) (A5G _)

abbrev N5:SS:=⟨[.all 0 2,.fn 107 [1]],[.rows 70 true J5,.box [.t true .str]]⟩
abbrev I6:SS:=⟨(.all 0 2::.fn 107 [1]::.junk::.junk::.junk::.junk::.junk::tI::tI::D83),[.rows 70 true J5,.box [.t true .str]]⟩
abbrev X9:SS:=⟨(.junk::.junk::.junk::.junk::tI::D5a),[.rows 70 true J5,.box [.t true .str]]⟩
abbrev Y0:SS:=⟨(.junk::D2C),[.rows 70 true J5,.box [.t true .str]]⟩
noncomputable def Q4 (x8:Int) (h0:LBBe) (q0:ByteArray):=let z1:=h0.getD x8.toNat (bE,bE);B5p (z1.1) (z1.2) q0
noncomputable def Z8 (x7 x8:Int) (h0:LBBe) (q0:ByteArray):RT I6.den:=(.br (decide (x8<x7)) (.br (decide (0≤x8∧x8<(h0.length:Int))) (.br (Q4 x8 h0 q0) (.done .ret X9 (((),(),(),(),x8,u15),(h0,(q0,()),()))) (.next (((),(),(),(),(),(),(),x7,wI (x8+(1:Int)),u11),(h0,(q0,()),())))) .fail) (.done (.exit 0) Y0 ((u20),(h0,(q0,()),()))))
abbrev K4:=(Int)×(Int)
abbrev K2:=Nat×(Int)
def P6:K2:=(99,((0:Int):Int))
noncomputable def L5 (x7 x8:Int) (h0:LBBe) (q0:ByteArray):K4 ⊕ K2:=(cond (decide (x8<x7)) (cond (decide (0≤x8∧x8<(h0.length:Int))) (cond (Q4 x8 h0 q0) (.inr (0,x8)) (.inl (x7,wI (x8+(1:Int))))) (.inr P6)) (.inr (1,((0:Int):Int))))
noncomputable def L3 (x7 x8:Int) (h0:LBBe) (q0:ByteArray):K2:=itX (fun v:K4=>L5 v.1 v.2 h0 q0) P6 (x7,x8)
noncomputable def P3 (h0:LBBe) (q0:ByteArray) (a:K2):CT:=(.br (a.1==0) (.done .ret X9 (((),(),(),(),a.2,u15),(h0,(q0,()),()))) (.br (a.1==1) (.done (.exit 0) Y0 ((u20),(h0,(q0,()),()))) .fail))
noncomputable def B0W (x7 x8:Int) (h0:LBBe) (q0:ByteArray):CT:=(P3 h0 q0) (L3 x7 x8 h0 q0)
noncomputable abbrev Z2 {α:Sort _} (f:Int→Int→LBBe→ByteArray→α) (d:I6.den):α:=f d.1.2.2.2.2.2.2.2.1 d.1.2.2.2.2.2.2.2.2.1 d.2.1 d.2.2.1.1
noncomputable abbrev P8:I6.den→RT I6.den:=(Z2 Z8)
noncomputable def W9:Code:=((D4 0 (A1l Try.f131)).getD 0 (0,.skip)).2
noncomputable abbrev Z6 (h0:LBBe) (q0:ByteArray) (v:K4):I6.den:=(((),(),(),(),(),(),(),v.1,v.2,u11),(h0,(q0,()),()))
theorem B0O (h0:LBBe) (q0:ByteArray):(∀ v:K4,(Z8 v.1 v.2 h0 q0).val=A6D (Z6 h0 q0) (P3 h0 q0) (L5 v.1 v.2 h0 q0))∧∀ a:K2,CEnd I6.den ((P3 h0 q0) a):=⟨fun v=>(A7H (A7H (A7H rfl rfl) rfl) rfl),fun a=>(A7u aCD (A7u aCD A7w))⟩
theorem B0t:RdA G63 aLn 0 W9 I6 2 [] (kepts [4] [(0,[])]) (fun d=>(P8 d).opt 2 []):=by
 intro d
 kernel_rfl
noncomputable abbrev Y9:St→Option Tree:=I6.say 2 [] [] (Z2 B0W)
theorem B0H:aPL Y9 W9:=SS.wp2 hlz [] P8 B0t (fun d=>rfl) _ (fun d=>Runs.ofI2 (step:=P8) (Z6 d.2.1 d.2.2.1.1) (B0O d.2.1 d.2.2.1.1) rfl (d.1.2.2.2.2.2.2.2.1,d.1.2.2.2.2.2.2.2.2.1))
noncomputable def K1 (h0:LBBe) (q0:ByteArray):Int:=let z1:=L3 (h0.length:Int) (0:Int) h0 q0;(cond (z1.1==0) (z1.2) (-1:Int))
noncomputable abbrev N9 (h0:LBBe) (q0:ByteArray) (r:Int):AV×List AObj×List Nat:=((ti r),[(.rows 70 true J5 h0),(.box [(.t true .str q0)])],[])
noncomputable abbrev A7V:N5.den→AV×List AObj×List Nat:=fun d=>N9 d.2.1 d.2.2.1.1 (K1 d.2.1 d.2.2.1.1)
noncomputable def J6 (h0:LBBe) (q0:ByteArray):Bool:=let z1:=L3 (h0.length:Int) (0:Int) h0 q0;cond (z1.1==0) true (z1.1==1)
noncomputable abbrev A0j:N5.den→Bool:=fun d=>J6 d.2.1 d.2.2.1.1
noncomputable abbrev B1u:Nat→St→Option Tree:=fun b=>match b with | 0=>Y9 | _=>fun _=>none
theorem B0Y:A7B G63 (B1u) Try.f131 N5 A0j A7V:=by
 rintro ⟨⟨_,_,_⟩,⟨h0,⟨q0,_⟩,_⟩⟩ hp
 change J6 h0 q0=true at hp
 unfold J6 at hp
 refine Eq.trans (b:=(let z1:=L3 (h0.length:Int) (0:Int) h0 q0;cond (z1.1==0) (some (N9 h0 q0 (z1.2))) (cond (z1.1==1) (some (N9 h0 q0 (-1:Int))) none))) (by kernel_rfl) ?_
 exact (L8 (N9 h0 q0) hp (fun hp=>rfl) (fun hp=>(A7F hp fun _h=>rfl)))
noncomputable abbrev A7Y:=winQ (msum N5 A0j A7V)
theorem B1D:aPM 131 A7Y:=(mcM G63 (hl1 (i:=0) (by kernel_rfl) B0H) B0Y).winQ (A64 fun d=>⟨rfl,rfl⟩)
noncomputable def S64:Tab:=Tab.add S63 131 (A2b (R0) (A7Y))
noncomputable def D8o:FuncId→Bool:=qadd D8n 131
theorem G64:aPG S64 D8o:=G63.addMQ (MContract.orElse A7R B1D) (A6W (A7b _) (A7b _)) (cbl Try.f131) (QuietS.orElse (A5G _) (A5G _))

abbrev D88:List Sh:=.junk::D6d
abbrev u36:=((),u35)
abbrev D7o:List AV:=.junk::D59
abbrev T7:SS:=⟨[.all 0 2,.fn 107 [1]],[.rows 70 true J5,.box [.t true .str]]⟩
abbrev J9:SS:=⟨(.all 0 2::.fn 107 [1]::.junk::.junk::.junk::tI::tI::D88),[.rows 70 true J5,.box [.t true .str]]⟩
abbrev A8Y:SS:=⟨(.all 0 2::.junk::.junk::.junk::.junk::tI::D6e),[.rows 70 true J5,.box [.t true .str]]⟩
noncomputable def M3 (x6:Int) (h0:LBBe) (q0:ByteArray):=let z1:=h0.getD x6.toNat (bE,bE);B5p (z1.1) (z1.2) q0
noncomputable def A9w (x5 x6:Int) (h0:LBBe) (q0:ByteArray):RT J9.den:=let z1:=h0.getD x6.toNat (bE,bE);(.br (decide (x6<(h0.length:Int))) (.br (decide (0≤x6∧x6<(h0.length:Int))) (.br (!(M3 x6 h0 q0)) (.br (decide (0≤x5∧x5<(h0.length:Int))) (.next (((),(),(),(),(),wI (x5+(1:Int)),wI (x6+(1:Int)),u36),(h0.set x5.toNat (z1.1,z1.2),(q0,()),()))) .fail) (.next (((),(),(),(),(),x5,wI (x6+(1:Int)),u36),(h0,(q0,()),())))) .fail) (.done (.exit 0) A8Y (((),(),(),(),(),x5,u37),(h0,(q0,()),()))))
abbrev O6:=(Int)×(Int)×(LBBe)
abbrev N2:=Nat×(Int)×(LBBe)
def A0e:N2:=(99,((0:Int):Int),([]:LBBe))
noncomputable def O5 (x5 x6:Int) (h0:LBBe) (q0:ByteArray):O6 ⊕ N2:=let z1:=h0.getD x6.toNat (bE,bE);(cond (decide (x6<(h0.length:Int))) (cond (decide (0≤x6∧x6<(h0.length:Int))) (cond (!(M3 x6 h0 q0)) (cond (decide (0≤x5∧x5<(h0.length:Int))) (.inl (wI (x5+(1:Int)),wI (x6+(1:Int)),h0.set x5.toNat (z1.1,z1.2))) (.inr A0e)) (.inl (x5,wI (x6+(1:Int)),h0))) (.inr A0e)) (.inr (0,x5,h0)))
noncomputable def A0g (x5 x6:Int) (h0:LBBe) (q0:ByteArray):N2:=itX (fun v:O6=>O5 v.1 v.2.1 v.2.2 q0) A0e (x5,x6,h0)
noncomputable def A0b (q0:ByteArray) (a:N2):CT:=(.br (a.1==0) (.done (.exit 0) A8Y (((),(),(),(),(),a.2.1,u37),(a.2.2,(q0,()),()))) .fail)
noncomputable def B41 (x5 x6:Int) (h0:LBBe) (q0:ByteArray):CT:=(A0b q0) (A0g x5 x6 h0 q0)
noncomputable abbrev Q8 {α:Sort _} (f:Int→Int→LBBe→ByteArray→α) (d:J9.den):α:=f d.1.2.2.2.2.2.1 d.1.2.2.2.2.2.2.1 d.2.1 d.2.2.1.1
noncomputable abbrev A0i:J9.den→RT J9.den:=(Q8 A9w)
noncomputable def A8I:Code:=((D4 0 (A1l Try.f106)).getD 0 (0,.skip)).2
noncomputable abbrev A9q (q0:ByteArray) (v:O6):J9.den:=(((),(),(),(),(),v.1,v.2.1,u36),(v.2.2,(q0,()),()))
theorem B4O (q0:ByteArray):(∀ v:O6,(A9w v.1 v.2.1 v.2.2 q0).val=A6D (A9q q0) (A0b q0) (O5 v.1 v.2.1 v.2.2 q0))∧∀ a:N2,CEnd J9.den ((A0b q0) a):=⟨fun v=>(A7H (A7H (A7H (A7H rfl rfl) rfl) rfl) rfl),fun a=>(A7u aCD A7w)⟩
noncomputable def A9p (x5 x6:Int) (h0:LBBe) (q0:ByteArray):Option (Ex×St):=let z1:=ti (wI (x6+(1:Int)));let z2:=h0.getD x6.toNat (bE,bE);(cond (decide (x6<(h0.length:Int))) (cond (decide (0≤x6∧x6<(h0.length:Int))) (cond (!(M3 x6 h0 q0)) (cond (decide (0≤x5∧x5<(h0.length:Int))) (some (.normal,(⟨((.all 0 2)::(.fn 107 [(.ptr 1 0 1 0)])::.junk::.junk::.junk::(ti (wI (x5+(1:Int))))::z1::D7o),[(.rows 70 true J5 (h0.set x5.toNat (z2.1,z2.2))),(.box [(.t true .str q0)])],2,[]⟩:St))) none) (some (.normal,(⟨((.all 0 2)::(.fn 107 [(.ptr 1 0 1 0)])::.junk::.junk::.junk::(ti x5)::z1::D7o),[(.rows 70 true J5 h0),(.box [(.t true .str q0)])],2,[]⟩:St)))) none) (some ((.exit 0),(⟨((.all 0 2)::.junk::.junk::.junk::.junk::(ti x5)::D47),[(.rows 70 true J5 h0),(.box [(.t true .str q0)])],2,[]⟩:St))))
theorem B4l:RdA G64 aLn 0 A8I J9 2 [] (kepts [] [(0,[0,5])]) (Q8 A9p):=by
 intro d
 kernel_rfl
theorem B4m:∀ d:J9.den,(Q8 A9p) d=(A0i d).opt 2 []:=by
 intro d
 kernel_rfl
noncomputable abbrev A82:St→Option Tree:=J9.say 2 [] [] (Q8 B41)
theorem B4H:aPL A82 A8I:=SS.wp2 hlz [] A0i B4l B4m _ (fun d=>Runs.ofI2 (step:=A0i) (A9q d.2.2.1.1) (B4O d.2.2.1.1) rfl (d.1.2.2.2.2.2.1,d.1.2.2.2.2.2.2.1,d.2.1))
noncomputable def U2 (h0:LBBe) (q0:ByteArray):=let z1:=K1 h0 q0;A0g z1 (wI (z1+(1:Int))) h0 q0
noncomputable def T0 (h0:LBBe) (q0:ByteArray):LBBe×ByteArray:=let z1:=U2 h0 q0;let z2:=(((z1.2.2).length:Nat):Int).toNat - (z1.2.1).toNat;(cond ((K1 h0 q0)==(-1:Int)) (h0,q0) ((((z1.2.2).take ((z1.2.1).toNat)++List.replicate z2 (bE,bE))++(z1.2.2).drop (((z1.2.1).toNat)+z2)).take ((z1.2.1).toNat),q0))
noncomputable abbrev V4 (r:LBBe×ByteArray):AV×List AObj×List Nat:=((.all 0 2),[(.rows 70 true J5 r.1),(.box [(.t true .str r.2)])],[0])
noncomputable abbrev B0U:T7.den→AV×List AObj×List Nat:=fun d=>V4 (T0 d.2.1 d.2.2.1.1)
noncomputable def M7 (h0:LBBe) (q0:ByteArray):Bool:=let z1:=U2 h0 q0;let z2:=(((z1.2.2).length:Nat):Int).toNat - (z1.2.1).toNat;(J6 h0 q0)&&(cond ((K1 h0 q0)==(-1:Int)) true ((z1.1==0)&&((decide (0≤(z1.2.1)∧(z1.2.1)≤(((z1.2.2).length:Nat):Int)∧(((z1.2.2).length:Nat):Int)≤(((z1.2.2).length:Nat):Int)))&&(decide (0≤(0:Int)∧(0:Int)≤(z1.2.1)∧(z1.2.1)≤(((((z1.2.2).take ((z1.2.1).toNat)++List.replicate z2 (bE,bE))++(z1.2.2).drop (((z1.2.1).toNat)+z2)).length:Nat):Int))))))
noncomputable abbrev A9M:T7.den→Bool:=fun d=>M7 d.2.1 d.2.2.1.1
noncomputable abbrev B6z:Nat→St→Option Tree:=fun b=>match b with | 0=>A82 | _=>fun _=>none
theorem B5g:A7A false [] [0] [] G64 (B6z) Try.f106 T7 A9M B0U:=by
 rintro ⟨⟨_,_,_⟩,⟨h0,⟨q0,_⟩,_⟩⟩ hp
 change M7 h0 q0=true at hp
 unfold M7 at hp
 refine Eq.trans (b:=(let z1:=U2 h0 q0;let z2:=(((z1.2.2).length:Nat):Int).toNat - (z1.2.1).toNat;cond (J6 h0 q0) (cond ((K1 h0 q0)==(-1:Int)) (some (V4 (h0,q0))) (cond (z1.1==0) (cond (decide (0≤(z1.2.1)∧(z1.2.1)≤(((z1.2.2).length:Nat):Int)∧(((z1.2.2).length:Nat):Int)≤(((z1.2.2).length:Nat):Int))) (cond (decide (0≤(0:Int)∧(0:Int)≤(z1.2.1)∧(z1.2.1)≤(((((z1.2.2).take ((z1.2.1).toNat)++List.replicate z2 ((⟨#[]⟩:ByteArray),(⟨#[]⟩:ByteArray)))++(z1.2.2).drop (((z1.2.1).toNat)+z2)).length:Nat):Int))) (some (V4 ((((z1.2.2).take ((z1.2.1).toNat)++List.replicate z2 ((⟨#[]⟩:ByteArray),(⟨#[]⟩:ByteArray)))++(z1.2.2).drop (((z1.2.1).toNat)+z2)).take ((z1.2.1).toNat),q0))) none) none) none)) none)) (by kernel_rfl) ?_
 exact (A7D hp fun hp=>(L8 V4 hp (fun hp=>rfl) (fun hp=>(A7D hp fun hp=>(A7D hp fun hp=>(A7F hp fun _h=>rfl))))))
noncomputable abbrev B0V:=win E8 (msum T7 A9M B0U)
theorem B6A:aPM 106 B0V:=(mcE false [] [0] []  G64 (hl1 (i:=0) (by kernel_rfl) B4H) B5g).win E8
noncomputable def S65:Tab:=Tab.add S64 106 (B0V)
noncomputable def D8p:FuncId→Bool:=D8o
theorem G65:aPG S65 D8p:=G64.addM B6A (A7d _) (cbl Try.f106) (by kernel_rfl)

abbrev B7E:List PSh:=[.t tq6,.t .str]
noncomputable def C7P (a0:LBBe) (a1:ByteArray):LBBe:=((T0 (L2 a0) a1).1)
noncomputable abbrev D0a (r:LBBe):AV×List AObj:=((.all 0 2),[(.rows 70 true J5 r)])
noncomputable abbrev C5H:H7 B7E→AV×List AObj:=fun d=>D0a (C7P d.1 d.2.1)
noncomputable def B14 (a0:LBBe) (a1:ByteArray):Bool:=(J8 a0)&&(M7 (L2 a0) a1)
noncomputable abbrev C1i:H7 B7E→Bool:=fun d=>B14 d.1 d.2.1
theorem D23:A7C false G65 aLn Try.f66 B7E C1i C5H:=by
 rintro ⟨a0,⟨a1,_⟩⟩ hp
 change B14 a0 a1=true at hp
 unfold B14 at hp
 refine Eq.trans (b:=(let z1:=L2 a0;cond (J8 a0) (cond (M7 z1 a1) (some (D0a ((T0 z1 a1).1))) none) none)) (by kernel_rfl) ?_
 exact (A7D hp fun hp=>(A7F hp fun _h=>rfl))
theorem D4P:aPP 66 (A22 B7E C1i C5H):=pcD false G65 hlz D23
noncomputable def S66:Tab:=Tab.add S65 66 (lift (A22 B7E C1i C5H))
noncomputable def D8q:FuncId→Bool:=D8p
theorem G66:aPG S66 D8q:=G65.add D4P (cbl Try.f66) (by kernel_rfl)

abbrev D7j:List AV:=.junk::.junk::.junk::.junk::D58
abbrev C0n:List PSh:=[.t tq6,.t tq4]
abbrev A84:SS:=⟨(.junk::.junk::.junk::.junk::.junk::.all 0 2::.junk::.junk::.junk::.junk::.t false tq4::tI::tI::C7i),[.rows 70 true J5]⟩
abbrev C3W:SS:=⟨(.junk::.junk::.junk::.junk::.junk::.all 0 2::D64),[.rows 70 true J5]⟩
noncomputable def C2g (x10:Lq2) (x12:Int) (h0:LBBe):=let z1:=(x10.getD x12.toNat ((0:Int),(bE,bE))).2;C7R (z1.1) (z1.2) h0
noncomputable def C2k (x10:Lq2) (x12:Int) (h0:LBBe):=C7P h0 (((x10.getD x12.toNat ((0:Int),(bE,bE))).2).1)
noncomputable def C68 (x10:Lq2) (x11 x12:Int) (h0:LBBe):RT A84.den:=let z1:=x10.getD x12.toNat ((0:Int),(bE,bE));(.br (decide (x12<x11)) (.br (decide (0≤x12∧x12<(x10.length:Int))) (.br ((z1.1)==(1:Int)) (.br (B16 ((z1.2).1) ((z1.2).2) h0) (.next (((),(),(),(),(),(),(),(),(),(),x10,x11,wI (x12+(1:Int)),u22),((C2g x10 x12 h0),()))) .fail) (.br ((z1.1)==(2:Int)) (.br (B14 h0 ((z1.2).1)) (.next (((),(),(),(),(),(),(),(),(),(),x10,x11,wI (x12+(1:Int)),u22),((C2k x10 x12 h0),()))) .fail) (.next (((),(),(),(),(),(),(),(),(),(),x10,x11,wI (x12+(1:Int)),u22),(h0,()))))) .fail) (.done (.exit 0) C3W ((u35),(h0,()))))
abbrev B3j:=(Lq2)×(Int)×(Int)×(LBBe)
abbrev B3c:=Nat×(LBBe)
def B37:B3c:=(99,([]:LBBe))
noncomputable def B4t (x10:Lq2) (x11 x12:Int) (h0:LBBe):B3j ⊕ B3c:=let z1:=x10.getD x12.toNat ((0:Int),(bE,bE));(cond (decide (x12<x11)) (cond (decide (0≤x12∧x12<(x10.length:Int))) (cond ((z1.1)==(1:Int)) (cond (B16 ((z1.2).1) ((z1.2).2) h0) (.inl (x10,x11,wI (x12+(1:Int)),(C2g x10 x12 h0))) (.inr B37)) (cond ((z1.1)==(2:Int)) (cond (B14 h0 ((z1.2).1)) (.inl (x10,x11,wI (x12+(1:Int)),(C2k x10 x12 h0))) (.inr B37)) (.inl (x10,x11,wI (x12+(1:Int)),h0)))) (.inr B37)) (.inr (0,h0)))
noncomputable def B4c (x10:Lq2) (x11 x12:Int) (h0:LBBe):B3c:=itX (fun v:B3j=>B4t v.1 v.2.1 v.2.2.1 v.2.2.2) B37 (x10,x11,x12,h0)
noncomputable def C0T (a:B3c):CT:=(.br (a.1==0) (.done (.exit 0) C3W ((u35),(a.2,()))) .fail)
noncomputable def D3C (x10:Lq2) (x11 x12:Int) (h0:LBBe):CT:=C0T (B4c x10 x11 x12 h0)
noncomputable abbrev B6L {α:Sort _} (f:Lq2→Int→Int→LBBe→α) (d:A84.den):α:=f d.1.2.2.2.2.2.2.2.2.2.2.1 d.1.2.2.2.2.2.2.2.2.2.2.2.1 d.1.2.2.2.2.2.2.2.2.2.2.2.2.1 d.2.1
noncomputable abbrev C1Q:A84.den→RT A84.den:=(B6L C68)
noncomputable def C2H:Code:=((D4 0 (A1l Try.f29)).getD 0 (0,.skip)).2
noncomputable abbrev C6Z (v:B3j):A84.den:=(((),(),(),(),(),(),(),(),(),(),v.1,v.2.1,v.2.2.1,u22),(v.2.2.2,()))
theorem D2X:(∀ v:B3j,(C68 v.1 v.2.1 v.2.2.1 v.2.2.2).val=A6D C6Z C0T (B4t v.1 v.2.1 v.2.2.1 v.2.2.2))∧∀ a:B3c,CEnd A84.den (C0T a):=⟨fun v=>by repeat' first | apply A7H | rfl,fun a=>(A7u aCD A7w)⟩
noncomputable def C6M (x10:Lq2) (x11 x12:Int) (h0:LBBe):Option (Ex×St):=let z1:=x10.getD x12.toNat ((0:Int),(bE,bE));let z2:=ti (wI (x12+(1:Int)));(cond (decide (x12<x11)) (cond (decide (0≤x12∧x12<(x10.length:Int))) (cond ((z1.1)==(1:Int)) (cond (B16 ((z1.2).1) ((z1.2).2) h0) (some (.normal,(⟨(.junk::.junk::.junk::.junk::.junk::(.all 0 2)::.junk::.junk::.junk::.junk::(.t false tq4 x10)::(ti x11)::z2::D7j),[(.rows 70 true J5 (C2g x10 x12 h0))],0,[]⟩:St))) none) (cond ((z1.1)==(2:Int)) (cond (B14 h0 ((z1.2).1)) (some (.normal,(⟨(.junk::.junk::.junk::.junk::.junk::(.all 0 2)::.junk::.junk::.junk::.junk::(.t false tq4 x10)::(ti x11)::z2::D7j),[(.rows 70 true J5 (C2k x10 x12 h0))],0,[]⟩:St))) none) (some (.normal,(⟨(.junk::.junk::.junk::.junk::.junk::(.all 0 2)::.junk::.junk::.junk::.junk::(.t false tq4 x10)::(ti x11)::z2::D7j),[(.rows 70 true J5 h0)],0,[]⟩:St))))) none) (some ((.exit 0),(⟨(.junk::.junk::.junk::.junk::.junk::(.all 0 2)::D6X),[(.rows 70 true J5 h0)],0,[]⟩:St))))
theorem D1e:RdA G66 aLn 0 C2H A84 0 [] (kepts [] [(0,[5])]) (B6L C6M):=by
 intro d
 kernel_rfl
theorem D1q:∀ d:A84.den,(B6L C6M) d=(C1Q d).opt 0 []:=by
 intro d
 kernel_rfl
noncomputable abbrev C5e:St→Option Tree:=A84.say 0 [] [] (B6L D3C)
theorem D2G:aPL C5e C2H:=SS.wp2 hlz [] C1Q D1e D1q _ (fun d=>Runs.ofI2 (step:=C1Q) C6Z D2X rfl (d.1.2.2.2.2.2.2.2.2.2.2.1,d.1.2.2.2.2.2.2.2.2.2.2.2.1,d.1.2.2.2.2.2.2.2.2.2.2.2.2.1,d.2.1))
noncomputable def B81 (a0:LBBe) (a1:Lq2):LBBe:=((B4c a1 (a1.length:Int) (0:Int) (L2 a0)).2)
noncomputable abbrev D2p (r:LBBe):AV×List AObj:=((.all 0 2),[(.rows 70 true J5 r)])
noncomputable abbrev C8e:H7 C0n→AV×List AObj:=fun d=>D2p (B81 d.1 d.2.1)
noncomputable def B2U (a0:LBBe) (a1:Lq2):Bool:=(J8 a0)&&((B4c a1 (a1.length:Int) (0:Int) (L2 a0)).1==0)
noncomputable abbrev C3x:H7 C0n→Bool:=fun d=>B2U d.1 d.2.1
noncomputable abbrev D5u:Nat→St→Option Tree:=fun b=>match b with | 0=>C5e | _=>fun _=>none
theorem D4c:A7C false G66 (D5u) Try.f29 C0n C3x C8e:=by
 rintro ⟨a0,⟨a1,_⟩⟩ hp
 change B2U a0 a1=true at hp
 unfold B2U at hp
 refine Eq.trans (b:=(let z1:=B4c a1 (a1.length:Int) (0:Int) (L2 a0);cond (J8 a0) (cond (z1.1==0) (some (D2p (z1.2))) none) none)) (by kernel_rfl) ?_
 exact (A7D hp fun hp=>(A7F hp fun _h=>rfl))
theorem D5I:aPP 29 (A22 C0n C3x C8e):=pcD false G66 (hl1 (i:=0) (by kernel_rfl) D2G) D4c
noncomputable def S67:Tab:=Tab.add S66 29 (lift (A22 C0n C3x C8e))
noncomputable def D8r:FuncId→Bool:=D8q
theorem G67:aPG S67 D8r:=G66.add D5I (cbl Try.f29) (by kernel_rfl)

abbrev B2p:SS:=⟨[.ptr 0 0 1 0,.agg [.t true (.int .i64),.t true (.int .i64),.t false tq4],.t false tq3],[.box [.nil,.nil]]⟩
noncomputable def D2z (x1_0 x1_1:Int) (x1_2:Lq2) (x2:Lq1):Bool×Lq1:=let z1:=decide ((A7X x2 x1_1) ≥ (0:Int));(cond (x1_0==(1:Int)) (cond z1 (false,([]:Lq1)) (cond (A0f [] x1_2) (false,([]:Lq1)) (cond (!(B4D [] x1_2)) (false,([]:Lq1)) (true,[((1:Int),(x1_1,(L1 x1_2)))])))) (cond (x1_0==(3:Int)) (!z1,([]:Lq1)) (false,([]:Lq1))))
noncomputable abbrev X4 (r:Bool×Lq1):AV×List AObj×List Nat:=((.t true .bool r.1),[(.box [(.raw (.slice none 0 0)),(.all 1 3)]),(.rows 32 true tq5 r.2)],[])
noncomputable abbrev C2V:B2p.den→AV×List AObj×List Nat:=fun d=>X4 (D2z d.1.2.1.1 d.1.2.1.2.1 d.1.2.1.2.2.1 d.1.2.2.1)
noncomputable def B7o (x1_0 x1_1:Int) (x1_2:Lq2) (x2:Lq1):Bool:=(Y8 x2 x1_1)&&(cond (x1_0==(1:Int)) (cond (decide ((A7X x2 x1_1) ≥ (0:Int))) true ((U7 [] x1_2)&&(cond (A0f [] x1_2) true ((B0p [] x1_2)&&(cond (!(B4D [] x1_2)) true ((K0 x1_2)&&(decide ([((1:Int),(x1_1,(L1 x1_2)))].length*40≤MAXB)))))))) ((Y8 [] x1_1)&&(decide ((A7X [] x1_1)<(0:Int)))))
noncomputable abbrev B9Z:B2p.den→Bool:=fun d=>B7o d.1.2.1.1 d.1.2.1.2.1 d.1.2.1.2.2.1 d.1.2.2.1
theorem C7H:A7A false [] [] [(0,1,99999,32,tq5)] G67 aLn Try.f83 B2p B9Z C2V:=by
 rintro ⟨⟨_,⟨x1_0,x1_1,x1_2,_⟩,x2,_⟩,⟨⟨_,_,_⟩,_⟩⟩ hp
 change B7o x1_0 x1_1 x1_2 x2=true at hp
 unfold B7o at hp
 refine Eq.trans (b:=(let z1:=X4 (false,([]:Lq1));let z2:=decide ((A7X x2 x1_1) ≥ (0:Int));let z3:=L1 x1_2;cond (Y8 x2 x1_1) (cond (x1_0==(1:Int)) (cond z2 (some z1) (cond (U7 [] x1_2) (cond (A0f [] x1_2) (some z1) (cond (B0p [] x1_2) (cond (!(B4D [] x1_2)) (some z1) (cond (K0 x1_2) (cond (decide ([((1:Int),(x1_1,z3))].length*40≤MAXB)) (some (X4 (true,[((1:Int),(x1_1,z3))]))) none) none)) none)) none)) (cond (Y8 [] x1_1) (cond (decide ((A7X [] x1_1)<(0:Int))) (cond (x1_0==(3:Int)) (some (X4 (!z2,([]:Lq1)))) (some z1)) (cond (x1_0==(2:Int)) none none)) none)) none)) (by kernel_rfl) ?_
 exact (A7D hp fun hp=>(L8 X4 hp (fun hp=>(L8 X4 hp (fun hp=>rfl) (fun hp=>(A7D hp fun hp=>(L8 X4 hp (fun hp=>rfl) (fun hp=>(A7D hp fun hp=>(L8 X4 hp (fun hp=>rfl) (fun hp=>(A7D hp fun hp=>(A7F hp fun _h=>rfl))))))))))) (fun hp=>(A7D hp fun hp=>(A7F hp fun _h=>(Q2 X4 (fun _h=>rfl) (fun _h=>rfl)))))))
noncomputable abbrev B3T:=win E8 (msum B2p B9Z C2V)
theorem B7a:aPM 83 B3T:=(mcE false [] [] [(0,1,99999,32,tq5)]  G67 hlz C7H).win E8
noncomputable def S68:Tab:=Tab.add S67 83 (B3T)
noncomputable def D8s:FuncId→Bool:=D8r
theorem G68:aPG S68 D8s:=G67.addM B7a (A7d _) (cbl Try.f83) (by kernel_rfl)

abbrev A73:SS:=⟨[.all 0 3,tI,tI],[.rows 32 true tq5]⟩
noncomputable def R3 (x1 x2:Int) (h0:Lq1):Lq1:=let z1:=(h0.drop x2.toNat).take ((h0.length:Int).toNat - x2.toNat);let z2:=(h0.length:Int).toNat - ((x1.toNat+z1.length:Nat):Int).toNat;let z3:=(h0.take x1.toNat++z1)++h0.drop (x1.toNat+z1.length);(cond (x1==x2) h0 (((z3.take (((x1.toNat+z1.length:Nat):Int).toNat)++List.replicate z2 ((0:Int),((0:Int),[])))++z3.drop ((((x1.toNat+z1.length:Nat):Int).toNat)+z2)).take (x1.toNat+z1.length)))
noncomputable abbrev A8n (r:Lq1):AV×List AObj×List Nat:=((.all 0 3),[(.rows 32 true tq5 r)],[0])
noncomputable abbrev B4a:A73.den→AV×List AObj×List Nat:=fun d=>A8n (R3 d.1.2.1 d.1.2.2.1 d.2.1)
noncomputable def M9 (x1 x2:Int) (h0:Lq1):Bool:=let z1:=(h0.drop x2.toNat).take ((h0.length:Int).toNat - x2.toNat);(decide (0≤x1∧x1≤x2∧x2≤(h0.length:Int)∧(h0.length:Int)≤(h0.length:Int)))&&(cond (x1==x2) true ((decide (0≤(0:Int)∧(0:Int)≤x1∧x1≤(h0.length:Int)))&&((decide (0≤x2∧x2≤(h0.length:Int)∧(h0.length:Int)≤(h0.length:Int)))&&((decide (x1.toNat+z1.length≤h0.length))&&(decide (0≤((x1.toNat+z1.length:Nat):Int)∧((x1.toNat+z1.length:Nat):Int)≤(h0.length:Int)∧(h0.length:Int)≤((((h0.take x1.toNat++z1)++h0.drop (x1.toNat+z1.length)).length:Nat):Int)))))))
noncomputable abbrev B2T:A73.den→Bool:=fun d=>M9 d.1.2.1 d.1.2.2.1 d.2.1
theorem B9q:A7A false [] [0] [] G68 aLn Try.f103 A73 B2T B4a:=by
 rintro ⟨⟨_,x1,x2,_⟩,⟨h0,_⟩⟩ hp
 change M9 x1 x2 h0=true at hp
 unfold M9 at hp
 refine Eq.trans (b:=(let z1:=(h0.drop x2.toNat).take ((h0.length:Int).toNat - x2.toNat);let z2:=(h0.take x1.toNat++z1)++h0.drop (x1.toNat+z1.length);let z3:=(h0.length:Int).toNat - ((x1.toNat+z1.length:Nat):Int).toNat;cond (decide (0≤x1∧x1≤x2∧x2≤(h0.length:Int)∧(h0.length:Int)≤(h0.length:Int))) (cond (x1==x2) (some (A8n h0)) (cond (decide (0≤(0:Int)∧(0:Int)≤x1∧x1≤(h0.length:Int))) (cond (decide (0≤x2∧x2≤(h0.length:Int)∧(h0.length:Int)≤(h0.length:Int))) (cond (decide (x1.toNat+z1.length≤h0.length)) (cond (decide (0≤((x1.toNat+z1.length:Nat):Int)∧((x1.toNat+z1.length:Nat):Int)≤(h0.length:Int)∧(h0.length:Int)≤((z2.length:Nat):Int))) (some (A8n (((z2.take (((x1.toNat+z1.length:Nat):Int).toNat)++List.replicate z3 ((0:Int),((0:Int),[])))++z2.drop ((((x1.toNat+z1.length:Nat):Int).toNat)+z3)).take (x1.toNat+z1.length)))) none) none) none) none)) none)) (by kernel_rfl) ?_
 exact (A7D hp fun hp=>(L8 A8n hp (fun hp=>rfl) (fun hp=>(A7D hp fun hp=>(A7D hp fun hp=>(A7D hp fun hp=>(A7F hp fun _h=>rfl)))))))
noncomputable abbrev B4i:=win E8 (msum A73 B2T B4a)
theorem C0Q:aPM 103 B4i:=(mcE false [] [0] []  G68 hlz B9q).win E8
noncomputable def S69:Tab:=Tab.add S68 103 (B4i)
noncomputable def D8t:FuncId→Bool:=D8s
theorem G69:aPG S69 D8t:=G68.addM C0Q (A7d _) (cbl Try.f103) (by kernel_rfl)

abbrev A9J:SS:=⟨[.ptr 0 0 1 0,.agg [.t true (.int .i64),.t true (.int .i64),.t false tq4],.t false tq3],[.box [.nil,.all 1 3],.rows 32 true tq5]⟩
noncomputable def C8A (x1_0 x1_1:Int) (x1_2:Lq2) (x2 h1:Lq1):Bool×Lq1×LBBe:=let z3:=A7X h1 x1_1;let z1:=R3 z3 (wI (z3+(1:Int))) h1;let z2:=B81 [] (((h1.getD (z3.toNat) ((0:Int),((0:Int),[]))).2).2);let z4:=decide ((A7X x2 x1_1) ≥ (0:Int));(cond (x1_0==(1:Int)) (cond z4 (false,h1,([]:LBBe)) (cond (A0f h1 x1_2) (false,h1,([]:LBBe)) (cond (!(B4D [] x1_2)) (false,h1,([]:LBBe)) (true,h1++[((1:Int),(x1_1,(L1 x1_2)))],([]:LBBe))))) (cond (decide (z3<(0:Int))) (cond (x1_0==(3:Int)) (!z4,h1,([]:LBBe)) (false,h1,([]:LBBe))) (cond (x1_0==(2:Int)) (decide (((z2.length:Nat):Int)≤(60:Int)),z1,z2) (decide (((0:Nat):Int)≤(60:Int)),z1,([]:LBBe)))))
noncomputable abbrev M0 (r:Bool×Lq1×LBBe):AV×List AObj×List Nat:=((.t true .bool r.1),[(.box [(.all 2 2),(.all 1 3)]),(.rows 32 true tq5 r.2.1),(.rows 70 true J5 r.2.2)],[1])
noncomputable abbrev B71:A9J.den→AV×List AObj×List Nat:=fun d=>M0 (C8A d.1.2.1.1 d.1.2.1.2.1 d.1.2.1.2.2.1 d.1.2.2.1 d.2.2.1)
noncomputable def B3z (x1_0 x1_1:Int) (x1_2:Lq2) (x2 h1:Lq1):Bool:=let z1:=A7X h1 x1_1;let z2:=M9 z1 (wI (z1+(1:Int))) h1;(Y8 x2 x1_1)&&(cond (x1_0==(1:Int)) (cond (decide ((A7X x2 x1_1) ≥ (0:Int))) true ((U7 h1 x1_2)&&(cond (A0f h1 x1_2) true ((B0p [] x1_2)&&(cond (!(B4D [] x1_2)) true ((K0 x1_2)&&(decide ((h1.length+[((1:Int),(x1_1,(L1 x1_2)))].length)*40≤MAXB)))))))) ((Y8 h1 x1_1)&&(cond (decide (z1<(0:Int))) true (cond (x1_0==(2:Int)) ((decide (0≤z1∧z1<(h1.length:Int)))&&((B2U [] (((h1.getD (z1.toNat) ((0:Int),((0:Int),[]))).2).2))&&z2)) z2))))
noncomputable abbrev B6h:A9J.den→Bool:=fun d=>B3z d.1.2.1.1 d.1.2.1.2.1 d.1.2.1.2.2.1 d.1.2.2.1 d.2.2.1
theorem C3Q:A7A false [] [1] [(0,0,99999,70,J5)] G69 aLn Try.f83 A9J B6h B71:=by
 rintro ⟨⟨_,⟨x1_0,x1_1,x1_2,_⟩,x2,_⟩,⟨⟨_,_,_⟩,h1,_⟩⟩ hp
 change B3z x1_0 x1_1 x1_2 x2 h1=true at hp
 unfold B3z at hp
 refine Eq.trans (b:=(let z1:=A7X h1 x1_1;let z2:=M0 (false,h1,([]:LBBe));let z3:=((h1.getD (z1.toNat) ((0:Int),((0:Int),[]))).2).2;let z4:=wI (z1+(1:Int));let z5:=decide ((A7X x2 x1_1) ≥ (0:Int));let z6:=M9 z1 z4 h1;let z7:=R3 z1 z4 h1;let z8:=L1 x1_2;cond (Y8 x2 x1_1) (cond (x1_0==(1:Int)) (cond z5 (some z2) (cond (U7 h1 x1_2) (cond (A0f h1 x1_2) (some z2) (cond (B0p [] x1_2) (cond (!(B4D [] x1_2)) (some z2) (cond (K0 x1_2) (cond (decide ((h1.length+[((1:Int),(x1_1,z8))].length)*40≤MAXB)) (some (M0 (true,h1++[((1:Int),(x1_1,z8))],([]:LBBe)))) none) none)) none)) none)) (cond (Y8 h1 x1_1) (cond (decide (z1<(0:Int))) (cond (x1_0==(3:Int)) (some (M0 (!z5,h1,([]:LBBe)))) (some z2)) (cond (x1_0==(2:Int)) (cond (decide (0≤z1∧z1<(h1.length:Int))) (cond (B2U [] z3) (cond z6 (some (M0 (decide ((((B81 [] z3).length:Nat):Int)≤(60:Int)),z7,(B81 [] z3)))) none) none) none) (cond z6 (some (M0 (decide (((0:Nat):Int)≤(60:Int)),z7,([]:LBBe)))) none))) none)) none)) (by kernel_rfl) ?_
 exact (A7D hp fun hp=>(L8 M0 hp (fun hp=>(L8 M0 hp (fun hp=>rfl) (fun hp=>(A7D hp fun hp=>(L8 M0 hp (fun hp=>rfl) (fun hp=>(A7D hp fun hp=>(L8 M0 hp (fun hp=>rfl) (fun hp=>(A7D hp fun hp=>(A7F hp fun _h=>rfl))))))))))) (fun hp=>(A7D hp fun hp=>(L8 M0 hp (fun hp=>(Q2 M0 (fun _h=>rfl) (fun _h=>rfl))) (fun hp=>(L8 M0 hp (fun hp=>(A7D hp fun hp=>(A7D hp fun hp=>(A7F hp fun _h=>rfl)))) (fun hp=>(A7F hp fun _h=>rfl)))))))))
noncomputable abbrev B3x:=win E8 (msum A9J B6h B71)
theorem B7X:aPM 83 B3x:=(mcE false [] [1] [(0,0,99999,70,J5)]  G69 hlz C3Q).win E8
noncomputable def S70:Tab:=Tab.add S69 83 (A2b (B3T) (B3x))
noncomputable def D8u:FuncId→Bool:=D8t
theorem G70:aPG S70 D8u:=G69.addM (MContract.orElse B7a B7X) (A6W (A7d _) (A7d _)) (cbl Try.f83) (by kernel_rfl)

abbrev A9K:SS:=⟨[.ptr 0 0 1 0,.agg [.t true (.int .i64),.t true (.int .i64),.t false tq4],.t false tq3],[.box [.all 1 2,.all 2 3],.rows 70 true J5,.rows 32 true tq5]⟩
noncomputable def B0e (x1_0 x1_1:Int) (x1_2:Lq2) (x2:Lq1) (h1:LBBe) (h2:Lq1):Bool×LBBe×Lq1:=let z3:=A7X h2 x1_1;let z1:=R3 z3 (wI (z3+(1:Int))) h2;let z2:=B81 h1 (((h2.getD (z3.toNat) ((0:Int),((0:Int),[]))).2).2);let z4:=decide ((A7X x2 x1_1) ≥ (0:Int));(cond (x1_0==(1:Int)) (cond z4 (false,h1,h2) (cond (A0f h2 x1_2) (false,h1,h2) (cond (!(B4D h1 x1_2)) (false,h1,h2) (true,h1,h2++[((1:Int),(x1_1,(L1 x1_2)))])))) (cond (decide (z3<(0:Int))) (cond (x1_0==(3:Int)) (!z4,h1,h2) (false,h1,h2)) (cond (x1_0==(2:Int)) (decide (((z2.length:Nat):Int)≤(60:Int)),z2,z1) (decide ((h1.length:Int)≤(60:Int)),h1,z1))))
noncomputable abbrev M1 (r:Bool×LBBe×Lq1):AV×List AObj×List Nat:=((.t true .bool r.1),[(.box [(.all 1 2),(.all 2 3)]),(.rows 70 true J5 r.2.1),(.rows 32 true tq5 r.2.2)],[1,2])
noncomputable abbrev B72:A9K.den→AV×List AObj×List Nat:=fun d=>M1 (B0e d.1.2.1.1 d.1.2.1.2.1 d.1.2.1.2.2.1 d.1.2.2.1 d.2.2.1 d.2.2.2.1)
noncomputable def R7 (x1_0 x1_1:Int) (x1_2:Lq2) (x2:Lq1) (h1:LBBe) (h2:Lq1):Bool:=let z1:=A7X h2 x1_1;let z2:=M9 z1 (wI (z1+(1:Int))) h2;(Y8 x2 x1_1)&&(cond (x1_0==(1:Int)) (cond (decide ((A7X x2 x1_1) ≥ (0:Int))) true ((U7 h2 x1_2)&&(cond (A0f h2 x1_2) true ((B0p h1 x1_2)&&(cond (!(B4D h1 x1_2)) true ((K0 x1_2)&&(decide ((h2.length+[((1:Int),(x1_1,(L1 x1_2)))].length)*40≤MAXB)))))))) ((Y8 h2 x1_1)&&(cond (decide (z1<(0:Int))) true (cond (x1_0==(2:Int)) ((decide (0≤z1∧z1<(h2.length:Int)))&&((B2U h1 (((h2.getD (z1.toNat) ((0:Int),((0:Int),[]))).2).2))&&z2)) z2))))
noncomputable abbrev B6i:A9K.den→Bool:=fun d=>R7 d.1.2.1.1 d.1.2.1.2.1 d.1.2.1.2.2.1 d.1.2.2.1 d.2.2.1 d.2.2.2.1
theorem C3R:A7A false [] [1,2] [(0,0,1,70,J5)] G70 aLn Try.f83 A9K B6i B72:=by
 rintro ⟨⟨_,⟨x1_0,x1_1,x1_2,_⟩,x2,_⟩,⟨⟨_,_,_⟩,h1,h2,_⟩⟩ hp
 change R7 x1_0 x1_1 x1_2 x2 h1 h2=true at hp
 unfold R7 at hp
 refine Eq.trans (b:=(let z1:=A7X h2 x1_1;let z2:=((h2.getD (z1.toNat) ((0:Int),((0:Int),[]))).2).2;let z3:=M1 (false,h1,h2);let z4:=wI (z1+(1:Int));let z5:=decide ((A7X x2 x1_1) ≥ (0:Int));let z6:=M9 z1 z4 h2;let z7:=R3 z1 z4 h2;let z8:=L1 x1_2;cond (Y8 x2 x1_1) (cond (x1_0==(1:Int)) (cond z5 (some z3) (cond (U7 h2 x1_2) (cond (A0f h2 x1_2) (some z3) (cond (B0p h1 x1_2) (cond (!(B4D h1 x1_2)) (some z3) (cond (K0 x1_2) (cond (decide ((h2.length+[((1:Int),(x1_1,z8))].length)*40≤MAXB)) (some (M1 (true,h1,h2++[((1:Int),(x1_1,z8))]))) none) none)) none)) none)) (cond (Y8 h2 x1_1) (cond (decide (z1<(0:Int))) (cond (x1_0==(3:Int)) (some (M1 (!z5,h1,h2))) (some z3)) (cond (x1_0==(2:Int)) (cond (decide (0≤z1∧z1<(h2.length:Int))) (cond (B2U h1 z2) (cond z6 (some (M1 (decide ((((B81 h1 z2).length:Nat):Int)≤(60:Int)),(B81 h1 z2),z7))) none) none) none) (cond z6 (some (M1 (decide ((h1.length:Int)≤(60:Int)),h1,z7))) none))) none)) none)) (by kernel_rfl) ?_
 exact (A7D hp fun hp=>(L8 M1 hp (fun hp=>(L8 M1 hp (fun hp=>rfl) (fun hp=>(A7D hp fun hp=>(L8 M1 hp (fun hp=>rfl) (fun hp=>(A7D hp fun hp=>(L8 M1 hp (fun hp=>rfl) (fun hp=>(A7D hp fun hp=>(A7F hp fun _h=>rfl))))))))))) (fun hp=>(A7D hp fun hp=>(L8 M1 hp (fun hp=>(Q2 M1 (fun _h=>rfl) (fun _h=>rfl))) (fun hp=>(L8 M1 hp (fun hp=>(A7D hp fun hp=>(A7D hp fun hp=>(A7F hp fun _h=>rfl)))) (fun hp=>(A7F hp fun _h=>rfl)))))))))
noncomputable abbrev B77:=win E8 (msum A9K B6i B72)
theorem C5E:aPM 83 B77:=(mcE false [] [1,2] [(0,0,1,70,J5)]  G70 hlz C3R).win E8
noncomputable def S71:Tab:=Tab.add S70 83 (A2b (A2b (B3T) (B3x)) (B77))
noncomputable def D8v:FuncId→Bool:=D8u
theorem G71:aPG S71 D8v:=G70.addM (MContract.orElse (MContract.orElse B7a B7X) C5E) (A6W (A6W (A7d _) (A7d _)) (A7d _)) (cbl Try.f83) (by kernel_rfl)

abbrev D9q:List AV:=.junk::.junk::.junk::D58
abbrev B09:List PSh:=[.t tq3]
abbrev Q6:SS:=⟨(.t false tq3::.junk::.junk::.junk::.junk::.ptr 0 0 1 0::.junk::.junk::.t false tq3::tI::tI::D61),[.box [.all 1 2,.all 2 3],.rows 70 true J5,.rows 32 true tq5]⟩
abbrev B2d:SS:=⟨(.junk::.junk::.nil::.nil::.t true .bool::D2D),[]⟩
abbrev B6C:SS:=⟨(.junk::.junk::.junk::.junk::.junk::.ptr 0 0 1 0::C8B),[.box [.all 1 2,.all 2 3],.rows 70 true J5,.rows 32 true tq5]⟩
noncomputable def B2K (x8:Lq1) (x10:Int):=let z1:=x8.getD x10.toNat ((0:Int),((0:Int),[]));D0Y (z1.1) ((z1.2).1) ((z1.2).2)
noncomputable def B2O (x0 x8:Lq1) (x10:Int) (h1:LBBe) (h2:Lq1):=let z1:=x8.getD x10.toNat ((0:Int),((0:Int),[]));B0e (z1.1) ((z1.2).1) ((z1.2).2) ((x0.take x10.toNat).drop (0:Int).toNat) h1 h2
noncomputable def B8r (x0 x8:Lq1) (x9 x10:Int) (h1:LBBe) (h2:Lq1):RT Q6.den:=let z1:=x8.getD x10.toNat ((0:Int),((0:Int),[]));let z2:=B2O x0 x8 x10 h1 h2;(.br (decide (x10<x9)) (.br (decide (0≤x10∧x10<(x8.length:Int))) (.br (B6o (z1.1) ((z1.2).1) ((z1.2).2)) (.br (!(B2K x8 x10)) (.done .ret B2d (((),(),(),(),false,u27),())) (.br (decide (0≤(0:Int)∧(0:Int)≤x10∧x10≤(x0.length:Int))) (.br (R7 (z1.1) ((z1.2).1) ((z1.2).2) ((x0.take x10.toNat).drop (0:Int).toNat) h1 h2) (.br (!(z2.1)) (.done .ret B2d (((),(),(),(),false,u27),())) (.next ((x0,(),(),(),(),(),(),(),x8,x9,wI (x10+(1:Int)),u21),(((),(),()),(z2.2.1),(z2.2.2),())))) .fail) .fail)) .fail) .fail) (.done (.exit 0) B6C ((u32),(((),(),()),h1,h2,()))))
abbrev A9j:=(Lq1)×Lq1×(Int)×(Int)×LBBe×(Lq1)
abbrev A8b:=Nat×(Bool)×LBBe×(Lq1)
def A7N:A8b:=(99,(false:Bool),([]:LBBe),([]:Lq1))
noncomputable def A8T (x0 x8:Lq1) (x9 x10:Int) (h1:LBBe) (h2:Lq1):A9j ⊕ A8b:=let z1:=x8.getD x10.toNat ((0:Int),((0:Int),[]));let z2:=B2O x0 x8 x10 h1 h2;(cond (decide (x10<x9)) (cond (decide (0≤x10∧x10<(x8.length:Int))) (cond (B6o (z1.1) ((z1.2).1) ((z1.2).2)) (cond (!(B2K x8 x10)) (.inr (0,false,([]:LBBe),([]:Lq1))) (cond (decide (0≤(0:Int)∧(0:Int)≤x10∧x10≤(x0.length:Int))) (cond (R7 (z1.1) ((z1.2).1) ((z1.2).2) ((x0.take x10.toNat).drop (0:Int).toNat) h1 h2) (cond (!(z2.1)) (.inr (0,false,([]:LBBe),([]:Lq1))) (.inl (x0,x8,x9,wI (x10+(1:Int)),(z2.2.1),(z2.2.2)))) (.inr A7N)) (.inr A7N))) (.inr A7N)) (.inr A7N)) (.inr (1,(false:Bool),h1,h2)))
noncomputable def B73 (x0 x8:Lq1) (x9 x10:Int) (h1:LBBe) (h2:Lq1):A8b:=itX (fun v:A9j=>A8T v.1 v.2.1 v.2.2.1 v.2.2.2.1 v.2.2.2.2.1 v.2.2.2.2.2) A7N (x0,x8,x9,x10,h1,h2)
noncomputable def B3p (a:A8b):CT:=(.br (a.1==0) (.done .ret B2d (((),(),(),(),a.2.1,u27),())) (.br (a.1==1) (.done (.exit 0) B6C ((u32),(((),(),()),a.2.2.1,a.2.2.2,()))) .fail))
noncomputable def C7e (x0 x8:Lq1) (x9 x10:Int) (h1:LBBe) (h2:Lq1):CT:=B3p (B73 x0 x8 x9 x10 h1 h2)
noncomputable abbrev B0z {α:Sort _} (f:Lq1→Lq1→Int→Int→LBBe→Lq1→α) (d:Q6.den):α:=f d.1.1 d.1.2.2.2.2.2.2.2.2.1 d.1.2.2.2.2.2.2.2.2.2.1 d.1.2.2.2.2.2.2.2.2.2.2.1 d.2.2.1 d.2.2.2.1
noncomputable abbrev B3E:Q6.den→RT Q6.den:=(B0z B8r)
noncomputable def B5R:Code:=((D4 0 (A1l Try.f45)).getD 0 (0,.skip)).2
noncomputable abbrev B8c (v:A9j):Q6.den:=((v.1,(),(),(),(),(),(),(),v.2.1,v.2.2.1,v.2.2.2.1,u21),(((),(),()),v.2.2.2.2.1,v.2.2.2.2.2,()))
theorem C6o:(∀ v:A9j,(B8r v.1 v.2.1 v.2.2.1 v.2.2.2.1 v.2.2.2.2.1 v.2.2.2.2.2).val=A6D B8c B3p (A8T v.1 v.2.1 v.2.2.1 v.2.2.2.1 v.2.2.2.2.1 v.2.2.2.2.2))∧∀ a:A8b,CEnd Q6.den (B3p a):=⟨fun v=>by repeat' first | apply A7H | rfl,fun a=>(A7u aCD (A7u aCD A7w))⟩
noncomputable def B78 (x0 x8:Lq1) (x9 x10:Int) (h1:LBBe) (h2:Lq1):Option (Ex×St):=let z1:=x8.getD x10.toNat ((0:Int),((0:Int),[]));let z2:=(⟨(.junk::.junk::(.raw (.slice none 0 0))::(.raw (.slice none 0 0))::(.t true .bool false)::D8W),[],0,[]⟩:St);let z3:=B2O x0 x8 x10 h1 h2;(cond (decide (x10<x9)) (cond (decide (0≤x10∧x10<(x8.length:Int))) (cond (B6o (z1.1) ((z1.2).1) ((z1.2).2)) (cond (!(B2K x8 x10)) (some (.ret,z2)) (cond (decide (0≤(0:Int)∧(0:Int)≤x10∧x10≤(x0.length:Int))) (cond (R7 (z1.1) ((z1.2).1) ((z1.2).2) ((x0.take x10.toNat).drop (0:Int).toNat) h1 h2) (cond (!(z3.1)) (some (.ret,z2)) (some (.normal,(⟨((.t false tq3 x0)::.junk::.junk::.junk::.junk::(.ptr 0 0 1 0)::.junk::.junk::(.t false tq3 x8)::(ti x9)::(ti (wI (x10+(1:Int))))::D9q),[(.box [(.all 1 2),(.all 2 3)]),(.rows 70 true J5 (z3.2.1)),(.rows 32 true tq5 (z3.2.2))],0,[]⟩:St)))) none) none)) none) none) (some ((.exit 0),(⟨(.junk::.junk::.junk::.junk::.junk::(.ptr 0 0 1 0)::D7l),[(.box [(.all 1 2),(.all 2 3)]),(.rows 70 true J5 h1),(.rows 32 true tq5 h2)],0,[]⟩:St))))
theorem C44:RdA G71 aLn 0 B5R Q6 0 [] (kepts [2,3,4] [(0,[5])]) (B0z B78):=by
 intro d
 kernel_rfl
theorem C48:∀ d:Q6.den,(B0z B78) d=(B3E d).opt 0 []:=by
 intro d
 kernel_rfl
noncomputable abbrev B62:St→Option Tree:=Q6.say 0 [] [(2005001,32,tq5),(2005000,70,J5)] (B0z C7e)
theorem C5X:aPL B62 B5R:=SS.wp2 hlz [(2005001,32,tq5),(2005000,70,J5)] B3E C44 C48 _ (fun d=>Runs.ofI2 (step:=B3E) B8c C6o rfl (d.1.1,d.1.2.2.2.2.2.2.2.2.1,d.1.2.2.2.2.2.2.2.2.2.1,d.1.2.2.2.2.2.2.2.2.2.2.1,d.2.2.1,d.2.2.2.1))
noncomputable def U3 (a0:Lq1):=B73 a0 a0 (a0.length:Int) (0:Int) ([]:LBBe) ([]:Lq1)
noncomputable def B0c (a0:Lq1):LBBe×Lq1×Bool:=let z1:=U3 a0;(cond (z1.1==0) ([],[],(z1.2.1)) ((z1.2.2.1),(z1.2.2.2),true))
noncomputable abbrev B3N (r:LBBe×Lq1×Bool):AV×List AObj:=((.tup [(.t true tq6 r.1),(.t true tq3 r.2.1),(.t true .bool r.2.2)]),[])
noncomputable abbrev B7d:H7 B09→AV×List AObj:=fun d=>B3N (B0c d.1)
noncomputable def X5 (a0:Lq1):Bool:=cond ((U3 a0).1==0) true ((U3 a0).1==1)
noncomputable abbrev B4J:H7 B09→Bool:=fun d=>X5 d.1
noncomputable abbrev C9n:Nat→St→Option Tree:=fun b=>match b with | 0=>B62 | _=>fun _=>none
theorem C7G:A7C true G71 (C9n) Try.f45 B09 B4J B7d:=by
 rintro ⟨a0,_⟩ hp
 change X5 a0=true at hp
 unfold X5 at hp
 refine Eq.trans (b:=(let z1:=U3 a0;cond (z1.1==0) (some (B3N ([],[],(z1.2.1)))) (cond (z1.1==1) (some (B3N ((z1.2.2.1),(z1.2.2.2),true))) none))) (by kernel_rfl) ?_
 exact (L8 B3N hp (fun hp=>rfl) (fun hp=>(A7F hp fun _h=>rfl)))
theorem C9B:aPP 45 (A22 B09 B4J B7d):=pcD true G71 (hl1 (i:=0) (by kernel_rfl) C5X) C7G
noncomputable def S72:Tab:=Tab.add S71 45 (lift (A22 B09 B4J B7d))
noncomputable def D8w:FuncId→Bool:=qadd D8v 45
theorem G72:aPG S72 D8w:=G71.addQ C9B (cbl Try.f45) (fun _=>rfl)

abbrev Y3:List PSh:=[.t tq6,.t tq6]
abbrev M8:SS:=⟨(.t false tq6::.t false tq6::.junk::.junk::.junk::.junk::.junk::.junk::.junk::.junk::.junk::.junk::tI::tI::D6a),[]⟩
abbrev B06:SS:=⟨(.junk::.junk::.junk::.junk::.t true .bool::C7i),[]⟩
abbrev B07:SS:=⟨(.junk::C8B),[]⟩
noncomputable def B2c (x0 x1:LBBe) (x12 x13:Int):RT M8.den:=let z1:=x0.getD x13.toNat (bE,bE);let z2:=x1.getD x13.toNat (bE,bE);(.br (decide (x13<x12)) (.br (decide (0≤x13∧x13<(x0.length:Int))) (.br (decide (0≤x13∧x13<(x1.length:Int))) (.br (!(((z1.1).toList==(z2.1).toList)&&(((z1.2).toList==(z2.2).toList)&&true))) (.done .ret B06 (((),(),(),(),false,u22),())) (.next ((x0,x1,(),(),(),(),(),(),(),(),(),(),x12,wI (x13+(1:Int)),u13),()))) .fail) .fail) (.done (.exit 0) B07 ((u27),())))
abbrev P2:=(LBBe)×LBBe×(Int)×(Int)
abbrev T4:=Nat×(Bool)
def Z4:T4:=(99,(false:Bool))
noncomputable def T1 (x0 x1:LBBe) (x12 x13:Int):P2 ⊕ T4:=let z1:=x0.getD x13.toNat (bE,bE);let z2:=x1.getD x13.toNat (bE,bE);(cond (decide (x13<x12)) (cond (decide (0≤x13∧x13<(x0.length:Int))) (cond (decide (0≤x13∧x13<(x1.length:Int))) (cond (!(((z1.1).toList==(z2.1).toList)&&(((z1.2).toList==(z2.2).toList)&&true))) (.inr (0,false)) (.inl (x0,x1,x12,wI (x13+(1:Int))))) (.inr Z4)) (.inr Z4)) (.inr (1,(false:Bool))))
noncomputable def R6 (x0 x1:LBBe) (x12 x13:Int):T4:=itX (fun v:P2=>T1 v.1 v.2.1 v.2.2.1 v.2.2.2) Z4 (x0,x1,x12,x13)
noncomputable def A8J (a:T4):CT:=(.br (a.1==0) (.done .ret B06 (((),(),(),(),a.2,u22),())) (.br (a.1==1) (.done (.exit 0) B07 ((u27),())) .fail))
noncomputable def B8D (x0 x1:LBBe) (x12 x13:Int):CT:=A8J (R6 x0 x1 x12 x13)
noncomputable abbrev B1X {α:Sort _} (f:LBBe→LBBe→Int→Int→α) (d:M8.den):α:=f d.1.1 d.1.2.1 d.1.2.2.2.2.2.2.2.2.2.2.2.2.1 d.1.2.2.2.2.2.2.2.2.2.2.2.2.2.1
noncomputable abbrev A8S:M8.den→RT M8.den:=(B1X B2c)
noncomputable def B0T:Code:=((D4 0 (A1l Try.f46)).getD 0 (0,.skip)).2
noncomputable abbrev B13 (v:P2):M8.den:=((v.1,v.2.1,(),(),(),(),(),(),(),(),(),(),v.2.2.1,v.2.2.2,u13),())
theorem B8i:(∀ v:P2,(B2c v.1 v.2.1 v.2.2.1 v.2.2.2).val=A6D B13 A8J (T1 v.1 v.2.1 v.2.2.1 v.2.2.2))∧∀ a:T4,CEnd M8.den (A8J a):=⟨fun v=>(A7H (A7H (A7H (A7H rfl rfl) rfl) rfl) rfl),fun a=>(A7u aCD (A7u aCD A7w))⟩
theorem B7p:RdA G72 aLn 0 B0T M8 0 [] (kepts [4] [(0,[])]) (fun d=>(A8S d).opt 0 []):=by
 intro d
 kernel_rfl
noncomputable abbrev B1h:St→Option Tree:=M8.say 0 [] [] (B1X B8D)
theorem B76:aPL B1h B0T:=SS.wp2 hlz [] A8S B7p (fun d=>rfl) _ (fun d=>Runs.ofI2 (step:=A8S) B13 B8i rfl (d.1.1,d.1.2.1,d.1.2.2.2.2.2.2.2.2.2.2.2.2.1,d.1.2.2.2.2.2.2.2.2.2.2.2.2.2.1))
noncomputable def W6 (a0 a1:LBBe):Bool:=let z1:=R6 a0 a1 (a0.length:Int) (0:Int);(cond ((a0.length:Int) != (a1.length:Int)) false (cond (z1.1==0) (z1.2) true))
noncomputable abbrev R5 (r:Bool):AV×List AObj:=((.t true .bool r),[])
noncomputable abbrev B0b:H7 Y3→AV×List AObj:=fun d=>R5 (W6 d.1 d.2.1)
noncomputable def P1 (a0 a1:LBBe):Bool:=let z1:=R6 a0 a1 (a0.length:Int) (0:Int);cond ((a0.length:Int) != (a1.length:Int)) true (cond (z1.1==0) true (z1.1==1))
noncomputable abbrev A9b:H7 Y3→Bool:=fun d=>P1 d.1 d.2.1
noncomputable abbrev C0m:Nat→St→Option Tree:=fun b=>match b with | 0=>B1h | _=>fun _=>none
theorem B9r:A7C true G72 (C0m) Try.f46 Y3 A9b B0b:=by
 rintro ⟨a0,⟨a1,_⟩⟩ hp
 change P1 a0 a1=true at hp
 unfold P1 at hp
 refine Eq.trans (b:=(let z1:=R6 a0 a1 (a0.length:Int) (0:Int);cond ((a0.length:Int) != (a1.length:Int)) (some (R5 false)) (cond (z1.1==0) (some (R5 (z1.2))) (cond (z1.1==1) (some (R5 true)) none)))) (by kernel_rfl) ?_
 exact (L8 R5 hp (fun hp=>rfl) (fun hp=>(L8 R5 hp (fun hp=>rfl) (fun hp=>(A7F hp fun _h=>rfl)))))
theorem C0R:aPP 46 (A22 Y3 A9b B0b):=pcD true G72 (hl1 (i:=0) (by kernel_rfl) B76) B9r
noncomputable def S73:Tab:=Tab.add S72 46 (lift (A22 Y3 A9b B0b))
noncomputable def D8x:FuncId→Bool:=qadd D8w 46
theorem G73:aPG S73 D8x:=G72.addQ C0R (cbl Try.f46) (fun _=>rfl)

abbrev A7O:List PSh:=[.t tq4,.t tq4]
abbrev N7:SS:=⟨(.t false tq4::.t false tq4::.junk::.junk::.junk::.junk::.junk::.junk::.junk::.junk::.junk::.junk::tI::tI::D6a),[]⟩
abbrev B2f:SS:=⟨(.junk::.junk::.junk::.junk::.t true .bool::C7i),[]⟩
abbrev B2g:SS:=⟨(.junk::C8B),[]⟩
noncomputable def B3b (x0 x1:Lq2) (x12 x13:Int):RT N7.den:=let z1:=x0.getD x13.toNat ((0:Int),(bE,bE));let z2:=x1.getD x13.toNat ((0:Int),(bE,bE));(.br (decide (x13<x12)) (.br (decide (0≤x13∧x13<(x0.length:Int))) (.br (decide (0≤x13∧x13<(x1.length:Int))) (.br (!(((z1.1)==(z2.1))&&((((z1.2).1).toList==((z2.2).1).toList)&&((((z1.2).2).toList==((z2.2).2).toList)&&true)))) (.done .ret B2f (((),(),(),(),false,u22),())) (.next ((x0,x1,(),(),(),(),(),(),(),(),(),(),x12,wI (x13+(1:Int)),u13),()))) .fail) .fail) (.done (.exit 0) B2g ((u27),())))
abbrev R4:=(Lq2)×Lq2×(Int)×(Int)
abbrev X7:=Nat×(Bool)
def A74:X7:=(99,(false:Bool))
noncomputable def V8 (x0 x1:Lq2) (x12 x13:Int):R4 ⊕ X7:=let z1:=x0.getD x13.toNat ((0:Int),(bE,bE));let z2:=x1.getD x13.toNat ((0:Int),(bE,bE));(cond (decide (x13<x12)) (cond (decide (0≤x13∧x13<(x0.length:Int))) (cond (decide (0≤x13∧x13<(x1.length:Int))) (cond (!(((z1.1)==(z2.1))&&((((z1.2).1).toList==((z2.2).1).toList)&&((((z1.2).2).toList==((z2.2).2).toList)&&true)))) (.inr (0,false)) (.inl (x0,x1,x12,wI (x13+(1:Int))))) (.inr A74)) (.inr A74)) (.inr (1,(false:Bool))))
noncomputable def V5 (x0 x1:Lq2) (x12 x13:Int):X7:=itX (fun v:R4=>V8 v.1 v.2.1 v.2.2.1 v.2.2.2) A74 (x0,x1,x12,x13)
noncomputable def A9F (a:X7):CT:=(.br (a.1==0) (.done .ret B2f (((),(),(),(),a.2,u22),())) (.br (a.1==1) (.done (.exit 0) B2g ((u27),())) .fail))
noncomputable def C0F (x0 x1:Lq2) (x12 x13:Int):CT:=A9F (V5 x0 x1 x12 x13)
noncomputable abbrev B29 {α:Sort _} (f:Lq2→Lq2→Int→Int→α) (d:N7.den):α:=f d.1.1 d.1.2.1 d.1.2.2.2.2.2.2.2.2.2.2.2.2.1 d.1.2.2.2.2.2.2.2.2.2.2.2.2.2.1
noncomputable abbrev A9H:N7.den→RT N7.den:=(B29 B3b)
noncomputable def B1Y:Code:=((D4 0 (A1l Try.f84)).getD 0 (0,.skip)).2
noncomputable abbrev B3a (v:R4):N7.den:=((v.1,v.2.1,(),(),(),(),(),(),(),(),(),(),v.2.2.1,v.2.2.2,u13),())
theorem C0j:(∀ v:R4,(B3b v.1 v.2.1 v.2.2.1 v.2.2.2).val=A6D B3a A9F (V8 v.1 v.2.1 v.2.2.1 v.2.2.2))∧∀ a:X7,CEnd N7.den (A9F a):=⟨fun v=>(A7H (A7H (A7H (A7H rfl rfl) rfl) rfl) rfl),fun a=>(A7u aCD (A7u aCD A7w))⟩
theorem B9n:RdA G73 aLn 0 B1Y N7 0 [] (kepts [4] [(0,[])]) (fun d=>(A9H d).opt 0 []):=by
 intro d
 kernel_rfl
noncomputable abbrev B2Z:St→Option Tree:=N7.say 0 [] [] (B29 C0F)
theorem C0g:aPL B2Z B1Y:=SS.wp2 hlz [] A9H B9n (fun d=>rfl) _ (fun d=>Runs.ofI2 (step:=A9H) B3a C0j rfl (d.1.1,d.1.2.1,d.1.2.2.2.2.2.2.2.2.2.2.2.2.1,d.1.2.2.2.2.2.2.2.2.2.2.2.2.2.1))
noncomputable def A8R (a0 a1:Lq2):Bool:=let z1:=V5 a0 a1 (a0.length:Int) (0:Int);(cond ((a0.length:Int) != (a1.length:Int)) false (cond (z1.1==0) (z1.2) true))
noncomputable abbrev W3 (r:Bool):AV×List AObj:=((.t true .bool r),[])
noncomputable abbrev B1G:H7 A7O→AV×List AObj:=fun d=>W3 (A8R d.1 d.2.1)
noncomputable def R1 (a0 a1:Lq2):Bool:=let z1:=V5 a0 a1 (a0.length:Int) (0:Int);cond ((a0.length:Int) != (a1.length:Int)) true (cond (z1.1==0) true (z1.1==1))
noncomputable abbrev B0o:H7 A7O→Bool:=fun d=>R1 d.1 d.2.1
noncomputable abbrev C3f:Nat→St→Option Tree:=fun b=>match b with | 0=>B2Z | _=>fun _=>none
theorem C1I:A7C true G73 (C3f) Try.f84 A7O B0o B1G:=by
 rintro ⟨a0,⟨a1,_⟩⟩ hp
 change R1 a0 a1=true at hp
 unfold R1 at hp
 refine Eq.trans (b:=(let z1:=V5 a0 a1 (a0.length:Int) (0:Int);cond ((a0.length:Int) != (a1.length:Int)) (some (W3 false)) (cond (z1.1==0) (some (W3 (z1.2))) (cond (z1.1==1) (some (W3 true)) none)))) (by kernel_rfl) ?_
 exact (L8 W3 hp (fun hp=>rfl) (fun hp=>(L8 W3 hp (fun hp=>rfl) (fun hp=>(A7F hp fun _h=>rfl)))))
theorem C3h:aPP 84 (A22 A7O B0o B1G):=pcD true G73 (hl1 (i:=0) (by kernel_rfl) C0g) C1I
noncomputable def S74:Tab:=Tab.add S73 84 (lift (A22 A7O B0o B1G))
noncomputable def D8y:FuncId→Bool:=qadd D8x 84
theorem G74:aPG S74 D8y:=G73.addQ C3h (cbl Try.f84) (fun _=>rfl)

abbrev B5A:List PSh:=[.agg [(.int .i64),(.int .i64),tq4],.agg [(.int .i64),(.int .i64),tq4]]
noncomputable def C4H (a0 a1:Int) (a2:Lq2) (a3 a4:Int) (a5:Lq2):Bool:=(cond (a0==a3) (cond (a1==a4) (A8R a2 a5) false) false)
noncomputable abbrev B3t (r:Bool):AV×List AObj:=((.t true .bool r),[])
noncomputable abbrev C3m:H7 B5A→AV×List AObj:=fun d=>B3t (C4H d.1.1 d.1.2.1 d.1.2.2.1 d.2.1.1 d.2.1.2.1 d.2.1.2.2.1)
noncomputable def B0q (a0 a1:Int) (a2:Lq2) (a3 a4:Int) (a5:Lq2):Bool:=cond (a0==a3) (cond (a1==a4) (R1 a2 a5) true) true
noncomputable abbrev B9e:H7 B5A→Bool:=fun d=>B0q d.1.1 d.1.2.1 d.1.2.2.1 d.2.1.1 d.2.1.2.1 d.2.1.2.2.1
theorem D1H:A7C true G74 aLn Try.f48 B5A B9e C3m:=by
 rintro ⟨⟨a0,⟨a1,⟨a2,_⟩⟩⟩,⟨⟨a3,⟨a4,⟨a5,_⟩⟩⟩,_⟩⟩ hp
 change B0q a0 a1 a2 a3 a4 a5=true at hp
 unfold B0q at hp
 refine Eq.trans (b:=(cond (a0==a3) (cond (a1==a4) (cond (R1 a2 a5) (some (B3t (A8R a2 a5))) none) (some (B3t false))) (some (B3t false)))) (by kernel_rfl) ?_
 exact (L8 B3t hp (fun hp=>(L8 B3t hp (fun hp=>(A7F hp fun _h=>rfl)) (fun hp=>rfl))) (fun hp=>rfl))
theorem D3M:aPP 48 (A22 B5A B9e C3m):=pcD true G74 hlz D1H
noncomputable def S75:Tab:=Tab.add S74 48 (lift (A22 B5A B9e C3m))
noncomputable def D8z:FuncId→Bool:=qadd D8y 48
theorem G75:aPG S75 D8z:=G74.addQ D3M (cbl Try.f48) (fun _=>rfl)

abbrev D9p:List AV:=.junk::.junk::.junk::D7i
abbrev M5:SS:=⟨[.t false tq3,.t false tq3,.fn 48 []],[]⟩
abbrev I4:SS:=⟨(.junk::.t false tq3::.fn 48 []::.junk::.junk::.junk::.junk::.junk::.junk::.junk::.junk::.junk::.junk::.junk::.junk::.t false tq3::tI::tI::D5a),[]⟩
abbrev T5:SS:=⟨(.junk::.junk::.junk::.junk::.junk::.junk::.t true .bool::C8B),[]⟩
abbrev T6:SS:=⟨(.junk::D65),[]⟩
noncomputable def M6 (x1 x15:Lq1) (x17:Int):=let z1:=x15.getD x17.toNat ((0:Int),((0:Int),[]));let z2:=x1.getD x17.toNat ((0:Int),((0:Int),[]));C4H (z1.1) ((z1.2).1) ((z1.2).2) (z2.1) ((z2.2).1) ((z2.2).2)
noncomputable def V3 (x1 x15:Lq1) (x16 x17:Int):RT I4.den:=let z1:=x15.getD x17.toNat ((0:Int),((0:Int),[]));let z2:=x1.getD x17.toNat ((0:Int),((0:Int),[]));(.br (decide (x17<x16)) (.br (decide (0≤x17∧x17<(x15.length:Int))) (.br (decide (0≤x17∧x17<(x1.length:Int))) (.br (B0q (z1.1) ((z1.2).1) ((z1.2).2) (z2.1) ((z2.2).1) ((z2.2).2)) (.br (!(M6 x1 x15 x17)) (.done .ret T5 (((),(),(),(),(),(),false,u26),())) (.next (((),x1,(),(),(),(),(),(),(),(),(),(),(),(),(),x15,x16,wI (x17+(1:Int)),u15),()))) .fail) .fail) .fail) (.done (.exit 0) T6 ((u33),())))
abbrev J4:=(Lq1)×Lq1×(Int)×(Int)
abbrev K9:=Nat×(Bool)
def K6:K9:=(99,(false:Bool))
noncomputable def K8 (x1 x15:Lq1) (x16 x17:Int):J4 ⊕ K9:=let z1:=x15.getD x17.toNat ((0:Int),((0:Int),[]));let z2:=x1.getD x17.toNat ((0:Int),((0:Int),[]));(cond (decide (x17<x16)) (cond (decide (0≤x17∧x17<(x15.length:Int))) (cond (decide (0≤x17∧x17<(x1.length:Int))) (cond (B0q (z1.1) ((z1.2).1) ((z1.2).2) (z2.1) ((z2.2).1) ((z2.2).2)) (cond (!(M6 x1 x15 x17)) (.inr (0,false)) (.inl (x1,x15,x16,wI (x17+(1:Int))))) (.inr K6)) (.inr K6)) (.inr K6)) (.inr (1,(false:Bool))))
noncomputable def K7 (x1 x15:Lq1) (x16 x17:Int):K9:=itX (fun v:J4=>K8 v.1 v.2.1 v.2.2.1 v.2.2.2) K6 (x1,x15,x16,x17)
noncomputable def O2 (a:K9):CT:=(.br (a.1==0) (.done .ret T5 (((),(),(),(),(),(),a.2,u26),())) (.br (a.1==1) (.done (.exit 0) T6 ((u33),())) .fail))
noncomputable def A9D (x1 x15:Lq1) (x16 x17:Int):CT:=O2 (K7 x1 x15 x16 x17)
noncomputable abbrev M2 {α:Sort _} (f:Lq1→Lq1→Int→Int→α) (d:I4.den):α:=f d.1.2.1 d.1.2.2.2.2.2.2.2.2.2.2.2.2.2.2.2.1 d.1.2.2.2.2.2.2.2.2.2.2.2.2.2.2.2.2.1 d.1.2.2.2.2.2.2.2.2.2.2.2.2.2.2.2.2.2.1
noncomputable abbrev O4:I4.den→RT I4.den:=(M2 V3)
noncomputable def T3:Code:=((D4 0 (A1l Try.f47)).getD 0 (0,.skip)).2
noncomputable abbrev V2 (v:J4):I4.den:=(((),v.1,(),(),(),(),(),(),(),(),(),(),(),(),(),v.2.1,v.2.2.1,v.2.2.2,u15),())
theorem A9r:(∀ v:J4,(V3 v.1 v.2.1 v.2.2.1 v.2.2.2).val=A6D V2 O2 (K8 v.1 v.2.1 v.2.2.1 v.2.2.2))∧∀ a:K9,CEnd I4.den (O2 a):=⟨fun v=>(A7H (A7H (A7H (A7H (A7H rfl rfl) rfl) rfl) rfl) rfl),fun a=>(A7u aCD (A7u aCD A7w))⟩
noncomputable def V1 (x1 x15:Lq1) (x16 x17:Int):Option (Ex×St):=let z1:=x15.getD x17.toNat ((0:Int),((0:Int),[]));let z2:=x1.getD x17.toNat ((0:Int),((0:Int),[]));(cond (decide (x17<x16)) (cond (decide (0≤x17∧x17<(x15.length:Int))) (cond (decide (0≤x17∧x17<(x1.length:Int))) (cond (B0q (z1.1) ((z1.2).1) ((z1.2).2) (z2.1) ((z2.2).1) ((z2.2).2)) (cond (!(M6 x1 x15 x17)) (some (.ret,(⟨(.junk::.junk::.junk::.junk::.junk::.junk::(.t true .bool false)::D7l),[],0,[]⟩:St))) (some (.normal,(⟨(.junk::(.t false tq3 x1)::(.fn 48 [])::.junk::.junk::.junk::.junk::.junk::.junk::.junk::.junk::.junk::.junk::.junk::.junk::(.t false tq3 x15)::(ti x16)::(ti (wI (x17+(1:Int))))::D9p),[],0,[]⟩:St)))) none) none) none) (some ((.exit 0),(⟨(.junk::D6Y),[],0,[]⟩:St))))
theorem A9f:RdA G75 aLn 0 T3 I4 0 [] (kepts [6] [(0,[])]) (M2 V1):=by
 intro d
 kernel_rfl
theorem A9g:∀ d:I4.den,(M2 V1) d=(O4 d).opt 0 []:=by
 intro d
 kernel_rfl
noncomputable abbrev U9:St→Option Tree:=I4.say 0 [] [] (M2 A9D)
theorem A9o:aPL U9 T3:=SS.wp2 hlz [] O4 A9f A9g _ (fun d=>Runs.ofI2 (step:=O4) V2 A9r rfl (d.1.2.1,d.1.2.2.2.2.2.2.2.2.2.2.2.2.2.2.2.1,d.1.2.2.2.2.2.2.2.2.2.2.2.2.2.2.2.2.1,d.1.2.2.2.2.2.2.2.2.2.2.2.2.2.2.2.2.2.1))
noncomputable def L7 (x0 x1:Lq1):Bool:=let z1:=K7 x1 x0 (x0.length:Int) (0:Int);(cond ((x0.length:Int) != (x1.length:Int)) false (cond (z1.1==0) (z1.2) true))
noncomputable abbrev J7 (r:Bool):AV×List AObj×List Nat:=((.t true .bool r),[],[])
noncomputable abbrev Y6:M5.den→AV×List AObj×List Nat:=fun d=>J7 (L7 d.1.1 d.1.2.1)
noncomputable def J0 (x0 x1:Lq1):Bool:=let z1:=K7 x1 x0 (x0.length:Int) (0:Int);cond ((x0.length:Int) != (x1.length:Int)) true (cond (z1.1==0) true (z1.1==1))
noncomputable abbrev V7:M5.den→Bool:=fun d=>J0 d.1.1 d.1.2.1
noncomputable abbrev A9S:Nat→St→Option Tree:=fun b=>match b with | 0=>U9 | _=>fun _=>none
theorem A9G:A7B G75 (A9S) Try.f47 M5 V7 Y6:=by
 rintro ⟨⟨x0,x1,_,_⟩,_⟩ hp
 change J0 x0 x1=true at hp
 unfold J0 at hp
 refine Eq.trans (b:=(let z1:=K7 x1 x0 (x0.length:Int) (0:Int);cond ((x0.length:Int) != (x1.length:Int)) (some (J7 false)) (cond (z1.1==0) (some (J7 (z1.2))) (cond (z1.1==1) (some (J7 true)) none)))) (by kernel_rfl) ?_
 exact (L8 J7 hp (fun hp=>rfl) (fun hp=>(L8 J7 hp (fun hp=>rfl) (fun hp=>(A7F hp fun _h=>rfl)))))
noncomputable abbrev Y7:=winQ (msum M5 V7 Y6)
theorem A95:aPM 47 Y7:=(mcM G75 (hl1 (i:=0) (by kernel_rfl) A9o) A9G).winQ (A64 fun d=>⟨rfl,rfl⟩)
noncomputable def S76:Tab:=Tab.add S75 47 (Y7)
noncomputable def D8A:FuncId→Bool:=qadd D8z 47
theorem G76:aPG S76 D8A:=G75.addMQ A95 (A7b _) (cbl Try.f47) (A5G _)

abbrev B5y:List PSh:=[.agg [(.int .i64),tq3,(.int .i64),tq6,tq3]]
noncomputable def B0d (a0:Int) (a1:Lq1) (a2:Int) (a3:LBBe) (a4:Lq1):Bool:=let z1:=B0c a1;(cond (!(D0g a0)) false (cond (!(A8o a2 (0:Int) (a1.length:Int))) false (cond (decide ((wI ((a1.length:Int)+(a4.length:Int))) > (300:Int))) false (cond (z1.2.2) (cond (W6 (z1.1) a3) (L7 (z1.2.1) a4) false) false))))
noncomputable abbrev A0c (r:Bool):AV×List AObj:=((.t true .bool r),[])
noncomputable abbrev C3k:H7 B5y→AV×List AObj:=fun d=>A0c (B0d d.1.1 d.1.2.1 d.1.2.2.1 d.1.2.2.2.1 d.1.2.2.2.2.1)
noncomputable def B1I (a0:Int) (a1:Lq1) (a2:Int) (a3:LBBe) (a4:Lq1):Bool:=let z1:=B0c a1;cond (!(D0g a0)) true (cond (!(A8o a2 (0:Int) (a1.length:Int))) true (cond (decide ((wI ((a1.length:Int)+(a4.length:Int))) > (300:Int))) true ((X5 a1)&&(cond (z1.2.2) ((P1 (z1.1) a3)&&(cond (W6 (z1.1) a3) (J0 (z1.2.1) a4) true)) true))))
noncomputable abbrev B9c:H7 B5y→Bool:=fun d=>B1I d.1.1 d.1.2.1 d.1.2.2.1 d.1.2.2.2.1 d.1.2.2.2.2.1
theorem D1F:A7C true G76 aLn Try.f17 B5y B9c C3k:=by
 rintro ⟨⟨a0,⟨a1,⟨a2,⟨a3,⟨a4,_⟩⟩⟩⟩⟩,_⟩ hp
 change B1I a0 a1 a2 a3 a4=true at hp
 unfold B1I at hp
 refine Eq.trans (b:=(let z1:=B0c a1;cond (!(D0g a0)) (some (A0c false)) (cond (!(A8o a2 (0:Int) (a1.length:Int))) (some (A0c false)) (cond (decide ((wI ((a1.length:Int)+(a4.length:Int))) > (300:Int))) (some (A0c false)) (cond (X5 a1) (cond (z1.2.2) (cond (P1 (z1.1) a3) (cond (W6 (z1.1) a3) (cond (J0 (z1.2.1) a4) (some (A0c (L7 (z1.2.1) a4))) none) (some (A0c false))) none) (some (A0c false))) none))))) (by kernel_rfl) ?_
 exact (L8 A0c hp (fun hp=>rfl) (fun hp=>(L8 A0c hp (fun hp=>rfl) (fun hp=>(L8 A0c hp (fun hp=>rfl) (fun hp=>(A7D hp fun hp=>(L8 A0c hp (fun hp=>(A7D hp fun hp=>(L8 A0c hp (fun hp=>(A7F hp fun _h=>rfl)) (fun hp=>rfl)))) (fun hp=>rfl)))))))))
theorem D3K:aPP 17 (A22 B5y B9c C3k):=pcD true G76 hlz D1F
noncomputable def S77:Tab:=Tab.add S76 17 (lift (A22 B5y B9c C3k))
noncomputable def D8B:FuncId→Bool:=qadd D8A 17
theorem G77:aPG S77 D8B:=G76.addQ D3K (cbl Try.f17) (fun _=>rfl)

abbrev B1k:SS:=⟨[.ptr 0 0 1 0,tI],[.box [tI,.all 1 3,tI,.all 2 2,.all 3 3],.deep 32 [85] tq5,.rows 70 true J5,.deep 32 [85] tq5]⟩
noncomputable def B4G (x1 p2:Int) (h1:Lq1):=let z1:=wI ((h1.length:Int) - p2);let z2:=if (0:Int) > x1 then (0:Int) else x1;B0c (h1.take ((wI (p2+(if z1<z2 then z1 else z2))).toNat))
noncomputable def B5d (x1 p0 p2:Int) (h1:Lq1) (h2:LBBe) (h3:Lq1):Int×Nat×Int×LBBe×Lq1×Lq1×LBBe×Lq1:=let z2:=wI ((h1.length:Int) - p2);let z3:=if (0:Int) > x1 then (0:Int) else x1;let z1:=p2+(if z2<z3 then z2 else z3);let z4:=B4G x1 p2 h1;(p0,(wI z1).toNat,wI z1,(z4.1),(z4.2.1),h1,h2,h3)
noncomputable abbrev C0Z (r:Int×Nat×Int×LBBe×Lq1×Lq1×LBBe×Lq1):AV×List AObj×List Nat:=((.tup []),[(.box [(ti r.1),(.pre 1 3 r.2.1),(ti r.2.2.1),(.t true tq6 r.2.2.2.1),(.t true tq3 r.2.2.2.2.1)]),(.deep 32 [85] tq5 r.2.2.2.2.2.1),(.rows 70 true J5 r.2.2.2.2.2.2.1),(.deep 32 [85] tq5 r.2.2.2.2.2.2.2)],[])
noncomputable abbrev C02:B1k.den→AV×List AObj×List Nat:=fun d=>C0Z (B5d d.1.2.1 d.2.1.1 d.2.1.2.2.1 d.2.2.1 d.2.2.2.1 d.2.2.2.2.1)
noncomputable def A7Z (x1 p0 p2:Int) (h1:Lq1) (h2:LBBe) (h3:Lq1):Bool:=let z2:=wI ((h1.length:Int) - p2);let z3:=if (0:Int) > x1 then (0:Int) else x1;let z1:=wI (p2+(if z2<z3 then z2 else z3));(decide (0≤(0:Int)∧(0:Int)≤z1∧z1≤(h1.length:Int)))&&(X5 (h1.take (z1.toNat)))
noncomputable abbrev B8b:B1k.den→Bool:=fun d=>A7Z d.1.2.1 d.2.1.1 d.2.1.2.2.1 d.2.2.1 d.2.2.2.1 d.2.2.2.2.1
theorem C6s:A7B G77 aLn Try.f41 B1k B8b C02:=by
 rintro ⟨⟨_,x1,_⟩,⟨⟨p0,_,p2,_,_,_⟩,h1,h2,h3,_⟩⟩ hp
 change A7Z x1 p0 p2 h1 h2 h3=true at hp
 unfold A7Z at hp
 refine Eq.trans (b:=(let z3:=wI ((h1.length:Int) - p2);let z4:=if (0:Int) > x1 then (0:Int) else x1;let z1:=p2+(if z3<z4 then z3 else z4);let z2:=wI z1;let z5:=B4G x1 p2 h1;cond (decide (0≤(0:Int)∧(0:Int)≤z2∧z2≤(h1.length:Int))) (cond (X5 (h1.take (z2.toNat))) (some (C0Z (p0,z2.toNat,wI z1,(z5.1),(z5.2.1),h1,h2,h3))) none) none)) (by kernel_rfl) ?_
 exact (A7D hp fun hp=>(A7F hp fun _h=>rfl))
noncomputable abbrev C09:=win E8 (msum B1k B8b C02)
theorem C78:aPM 41 C09:=(mcM G77 hlz C6s).win E8
noncomputable def S78:Tab:=Tab.add S77 41 (C09)
noncomputable def D8C:FuncId→Bool:=D8B
theorem G78:aPG S78 D8C:=G77.addM C78 (A7d _) (cbl Try.f41) (by kernel_rfl)

abbrev B08:List PSh:=[.agg [(.int .i64),tq3,(.int .i64),tq6,tq3],.t (.int .i64)]
noncomputable def B0k (a0:Int) (a1:Lq1) (a2:Int) (a3:LBBe) (a4:Lq1) (a5:Int):=let z1:=A8y a0 a1 a2 a3 a4;B5d a5 (z1.1) (z1.2.1) (z1.2.2.1) (z1.2.2.2.1) (z1.2.2.2.2)
noncomputable def B6b (a0:Int) (a1:Lq1) (a2:Int) (a3:LBBe) (a4:Lq1) (a5:Int):=let z1:=B0k a0 a1 a2 a3 a4 a5;A8y (z1.1) ((z1.2.2.2.2.2.1).take (z1.2.1)) (z1.2.2.1) (z1.2.2.2.1) (z1.2.2.2.2.1)
noncomputable def B6c (a0:Int) (a1:Lq1) (a2:Int) (a3:LBBe) (a4:Lq1):=let z1:=A8y a0 a1 a2 a3 a4;A8y (z1.1) (z1.2.2.1) (z1.2.1) (z1.2.2.2.1) (z1.2.2.2.2)
noncomputable def B4b (a0:Int) (a1:Lq1) (a2:Int) (a3:LBBe) (a4:Lq1) (a5:Int):Int×Int×Lq1×LBBe×Lq1:=let z1:=B6b a0 a1 a2 a3 a4 a5;let z2:=B6c a0 a1 a2 a3 a4;(cond (B0d a0 a1 a2 a3 a4) ((z1.1),(z1.2.1),(z1.2.2.1),(z1.2.2.2.1),(z1.2.2.2.2)) ((z2.1),(z2.2.1),(z2.2.2.1),(z2.2.2.2.1),(z2.2.2.2.2)))
noncomputable abbrev B3M (r:Int×Int×Lq1×LBBe×Lq1):AV×List AObj:=((.agg [(ti r.1),(.all 0 3),(ti r.2.1),(.all 1 2),(.all 2 3)]),[(.deep 32 [85] tq5 r.2.2.1),(.rows 70 true J5 r.2.2.2.1),(.deep 32 [85] tq5 r.2.2.2.2)])
noncomputable abbrev B7c:H7 B08→AV×List AObj:=fun d=>B3M (B4b d.1.1 d.1.2.1 d.1.2.2.1 d.1.2.2.2.1 d.1.2.2.2.2.1 d.2.1)
noncomputable def A7J (a0:Int) (a1:Lq1) (a2:Int) (a3:LBBe) (a4:Lq1) (a5:Int):Bool:=let z1:=A8y a0 a1 a2 a3 a4;let z2:=B0k a0 a1 a2 a3 a4 a5;(U6 a0 a1 a2 a3 a4)&&((B1I a0 a1 a2 a3 a4)&&(cond (B0d a0 a1 a2 a3 a4) ((A7Z a5 (z1.1) (z1.2.1) (z1.2.2.1) (z1.2.2.2.1) (z1.2.2.2.2))&&(U6 (z2.1) ((z2.2.2.2.2.2.1).take (z2.2.1)) (z2.2.2.1) (z2.2.2.2.1) (z2.2.2.2.2.1))) (U6 (z1.1) (z1.2.2.1) (z1.2.1) (z1.2.2.2.1) (z1.2.2.2.2))))
noncomputable abbrev B4I:H7 B08→Bool:=fun d=>A7J d.1.1 d.1.2.1 d.1.2.2.1 d.1.2.2.2.1 d.1.2.2.2.2.1 d.2.1
theorem C7F:A7C false (G78.deep ow) aLn Try.f15 B08 B4I B7c:=by
 rintro ⟨⟨a0,⟨a1,⟨a2,⟨a3,⟨a4,_⟩⟩⟩⟩⟩,⟨a5,_⟩⟩ hp
 change A7J a0 a1 a2 a3 a4 a5=true at hp
 unfold A7J at hp
 refine Eq.trans (b:=(let z1:=A8y a0 a1 a2 a3 a4;let z2:=B0k a0 a1 a2 a3 a4 a5;let z3:=B6b a0 a1 a2 a3 a4 a5;let z4:=B6c a0 a1 a2 a3 a4;cond (U6 a0 a1 a2 a3 a4) (cond (B1I a0 a1 a2 a3 a4) (cond (B0d a0 a1 a2 a3 a4) (cond (A7Z a5 (z1.1) (z1.2.1) (z1.2.2.1) (z1.2.2.2.1) (z1.2.2.2.2)) (cond (U6 (z2.1) ((z2.2.2.2.2.2.1).take (z2.2.1)) (z2.2.2.1) (z2.2.2.2.1) (z2.2.2.2.2.1)) (some (B3M ((z3.1),(z3.2.1),(z3.2.2.1),(z3.2.2.2.1),(z3.2.2.2.2)))) none) none) (cond (U6 (z1.1) (z1.2.2.1) (z1.2.1) (z1.2.2.2.1) (z1.2.2.2.2)) (some (B3M ((z4.1),(z4.2.1),(z4.2.2.1),(z4.2.2.2.1),(z4.2.2.2.2)))) none)) none) none)) (by kernel_rfl) ?_
 exact (A7D hp fun hp=>(A7D hp fun hp=>(L8 B3M hp (fun hp=>(A7D hp fun hp=>(A7F hp fun _h=>rfl))) (fun hp=>(A7F hp fun _h=>rfl)))))
theorem C9A:aPP 15 (A22 B08 B4I B7c):=pcD false (G78.deep ow) hlz C7F
noncomputable def S79:Tab:=Tab.add S78 15 (lift (A22 B08 B4I B7c))
noncomputable def D8D:FuncId→Bool:=D8C
theorem G79:aPG S79 D8D:=G78.add C9A (cbl Try.f15) (by kernel_rfl)

abbrev C4d:List PSh:=[.agg [(.int .i64),.str,.str],.agg [(.int .i64),.str,.str]]
noncomputable def D0h (a0:Int) (a1 a2:ByteArray) (a3:Int) (a4 a5:ByteArray):Bool:=(cond (a0 != a3) false (cond (!(a1.toList==a4.toList)) false (cond (!(a2.toList==a5.toList)) false true)))
noncomputable abbrev B6S (r:Bool):AV×List AObj:=((.t true .bool r),[])
noncomputable abbrev D0Q:H7 C4d→AV×List AObj:=fun d=>B6S (D0h d.1.1 d.1.2.1 d.1.2.2.1 d.2.1.1 d.2.1.2.1 d.2.1.2.2.1)
noncomputable abbrev C57:H7 C4d→Bool:=fun d=>true
theorem D5k:A7C true G79 aLn Try.f146 C4d C57 D0Q:=by
 rintro ⟨⟨a0,⟨a1,⟨a2,_⟩⟩⟩,⟨⟨a3,⟨a4,⟨a5,_⟩⟩⟩,_⟩⟩ hp
 refine Eq.trans (b:=(cond (a0 != a3) (some (B6S false)) (cond (!(a1.toList==a4.toList)) (some (B6S false)) (cond (!(a2.toList==a5.toList)) (some (B6S false)) (some (B6S true)))))) (by kernel_rfl) ?_
 exact (Q2 B6S (fun _h=>rfl) (fun _h=>(Q2 B6S (fun _h=>rfl) (fun _h=>(Q2 B6S (fun _h=>rfl) (fun _h=>rfl))))))
theorem D6F:aPP 146 (A22 C4d C57 D0Q):=pcD true G79 hlz D5k
noncomputable def S80:Tab:=Tab.add S79 146 (lift (A22 C4d C57 D0Q))
noncomputable def D8E:FuncId→Bool:=qadd D8D 146
theorem G80:aPG S80 D8E:=G79.addQ D6F (cbl Try.f146) (fun _=>rfl)


noncomputable def B1F (x0 x1:Lq2) (i:Nat):Bool:=!(!(D0h ((x0.getD i ((0:Int),(bE,bE))).1) (((x0.getD i ((0:Int),(bE,bE))).2).1) (((x0.getD i ((0:Int),(bE,bE))).2).2) ((x1.getD i ((0:Int),(bE,bE))).1) (((x1.getD i ((0:Int),(bE,bE))).2).1) (((x1.getD i ((0:Int),(bE,bE))).2).2)))
abbrev C0t:List PSh:=[.t tq4,.t tq4]
abbrev B1x:SS:=⟨(.t false tq4::.t false tq4::.junk::.junk::.junk::tI::C7i),[]⟩
abbrev C31:SS:=⟨(.junk::.junk::.junk::.junk::.t true .bool::D02),[]⟩
abbrev C32:SS:=⟨(.junk::D2D),[]⟩
noncomputable def C1Y (x0 x1:Lq2) (x5:Int):RT B1x.den:=let z1:=x0.getD x5.toNat ((0:Int),(bE,bE));let z2:=x1.getD x5.toNat ((0:Int),(bE,bE));(.br (decide (x5<(x0.length:Int))) (.br (decide (0≤x5∧x5<(x0.length:Int))) (.br (decide (0≤x5∧x5<(x1.length:Int))) (.br (!(D0h (z1.1) ((z1.2).1) ((z1.2).2) (z2.1) ((z2.2).1) ((z2.2).2))) (.done .ret C31 (((),(),(),(),false,u23),())) (.next ((x0,x1,(),(),(),wI (x5+(1:Int)),u22),()))) .fail) .fail) (.done (.exit 0) C32 ((u28),())))
noncomputable def B5K (x0 x1:Lq2) (x5:Int):CT:=(.br (decide (0≤x5)&&(decide (x0.length=x1.length)&&okL x0)) (.br (A4H (B1F x0 x1) (x0.length - x5.toNat) x5.toNat) (.done (.exit 0) C32 ((u28),())) (.done .ret C31 (((),(),(),(),false,u23),()))) .fail)
noncomputable abbrev B4q:B1x.den→RT B1x.den:=(fun d=>C1Y d.1.1 d.1.2.1 d.1.2.2.2.2.2.1)
noncomputable abbrev C6U (x0 x1:Lq2) (x5:Int):B1x.den:=((x0,x1,(),(),(),x5,u22),())
noncomputable def C2L:Code:=((D4 0 (A1l Try.f137)).getD 0 (0,.skip)).2
theorem D3w (x0 x1:Lq2) (x5:Int):(B5K x0 x1 x5).val (D:=B1x.den)=.fail∨Runs B4q (C6U x0 x1 x5) (B5K x0 x1 x5).val:=by
 cases hc:(decide (0≤x5)&&(decide (x0.length=x1.length)&&okL x0)) with
 | false=>left;simp only [B5K,CT.val,hc,cond_false]
 | true =>
  right
  simp only [B5K,CT.val,hc,cond_true]
  simp only [Bool.and_eq_true,decide_eq_true_eq] at hc
  obtain ⟨i,rfl⟩:=Int.eq_ofNat_of_zero_le hc.1
  have hs:=A7q hc.2.2
  simp only [Int.toNat_natCast]
  refine Runs.scan (fun j=>C6U x0 x1 (j:Int)) (x0.length) (B1F x0 x1) (fun i hi=>?_) (fun i hi=>?_) ⟨_,_,_,rfl,by simp⟩ ⟨_,_,_,rfl,by simp⟩ _ _ rfl
  ·
   have h0a:decide ((i:Int)<(x0.length:Int))=true:=decide_eq_true (by omega)
   have h0b:decide (0≤(i:Int)∧(i:Int)<(x0.length:Int))=true:=decide_eq_true (by omega)
   simp only [B4q,C1Y,RT.val,h0a,h0b,cond_true,A7y i (by omega),Int.toNat_natCast]
   have h9:decide (0≤(i:Int)∧(i:Int)<(x1.length:Int))=true:=decide_eq_true (by omega)
   simp only [h9,cond_true]
   simp only [B1F]
   generalize (!(D0h ((x0.getD i ((0:Int),((⟨#[]⟩:ByteArray),(⟨#[]⟩:ByteArray)))).1) (((x0.getD i ((0:Int),((⟨#[]⟩:ByteArray),(⟨#[]⟩:ByteArray)))).2).1) (((x0.getD i ((0:Int),((⟨#[]⟩:ByteArray),(⟨#[]⟩:ByteArray)))).2).2) ((x1.getD i ((0:Int),((⟨#[]⟩:ByteArray),(⟨#[]⟩:ByteArray)))).1) (((x1.getD i ((0:Int),((⟨#[]⟩:ByteArray),(⟨#[]⟩:ByteArray)))).2).1) (((x1.getD i ((0:Int),((⟨#[]⟩:ByteArray),(⟨#[]⟩:ByteArray)))).2).2)))=c
   cases c<;>rfl
  ·have h1:decide ((i:Int)<(x0.length:Int))=false:=decide_eq_false (by omega)
   simp only [B4q,C1Y,RT.val,h1,cond_false]
theorem D1i:RdA G80 aLn 0 C2L B1x 0 [] (kepts [4] [(0,[])]) (fun d=>(B4q d).opt 0 []):=by
 intro d
 kernel_rfl
noncomputable abbrev C5i:St→Option Tree:=B1x.say 0 [] [] (fun d=>B5K d.1.1 d.1.2.1 d.1.2.2.2.2.2.1)
theorem D2K:aPL C5i C2L:=SS.wp2 hlz [] B4q D1i (fun d=>rfl) _ (fun d=>D3w d.1.1 d.1.2.1 d.1.2.2.2.2.2.1)
noncomputable def C5W (a0 a1:Lq2):Bool:=(cond ((a0.length:Int) != (a1.length:Int)) false (cond (A4H (B1F a0 a1) (a0.length - (0:Int).toNat) (0:Int).toNat) true false))
noncomputable abbrev B7Y (r:Bool):AV×List AObj:=((.t true .bool r),[])
noncomputable abbrev C8k:H7 C0t→AV×List AObj:=fun d=>B7Y (C5W d.1 d.2.1)
noncomputable def C1E (a0 a1:Lq2):Bool:=okL a0
noncomputable abbrev C3D:H7 C0t→Bool:=fun d=>C1E d.1 d.2.1
noncomputable abbrev D5y:Nat→St→Option Tree:=fun b=>match b with | 0=>C5i | _=>fun _=>none
theorem D4i:A7C true G80 (D5y) Try.f137 C0t C3D C8k:=by
 rintro ⟨a0,⟨a1,_⟩⟩ hp
 change C1E a0 a1=true at hp
 unfold C1E at hp
 refine Eq.trans (b:=(cond ((a0.length:Int) != (a1.length:Int)) (some (B7Y false)) (cond (decide (0≤(0:Int))&&(decide (a0.length=a1.length)&&okL a0)) (cond (A4H (B1F a0 a1) (a0.length - (0:Int).toNat) (0:Int).toNat) (some (B7Y true)) (some (B7Y false))) none))) (by kernel_rfl) ?_
 exact (Q2 B7Y (fun _h=>rfl) (fun _h=>(A7F (by simp only [okL,Bool.and_eq_true,decide_eq_true_eq] at hp ⊢;simp at _h;exact ⟨Int.le_refl 0,by omega,hp⟩) (fun _h=>(Q2 B7Y (fun _h=>rfl) (fun _h=>rfl))))))
theorem D5O:aPP 137 (A22 C0t C3D C8k):=pcD true G80 (hl1 (i:=0) (by kernel_rfl) D2K) D4i
noncomputable def S81:Tab:=Tab.add S80 137 (lift (A22 C0t C3D C8k))
noncomputable def D8F:FuncId→Bool:=qadd D8E 137
theorem G81:aPG S81 D8F:=G80.addQ D5O (cbl Try.f137) (fun _=>rfl)

abbrev C0u:List PSh:=[.agg [(.int .i64),(.int .i64),tq4],.agg [(.int .i64),(.int .i64),tq4]]
noncomputable def C8C (a0 a1:Int) (a2:Lq2) (a3 a4:Int) (a5:Lq2):Bool:=(cond (a0 != a3) false (cond (a1 != a4) false (cond (!(C5W a2 a5)) false true)))
noncomputable abbrev B36 (r:Bool):AV×List AObj:=((.t true .bool r),[])
noncomputable abbrev C8l:H7 C0u→AV×List AObj:=fun d=>B36 (C8C d.1.1 d.1.2.1 d.1.2.2.1 d.2.1.1 d.2.1.2.1 d.2.1.2.2.1)
noncomputable def B6p (a0 a1:Int) (a2:Lq2) (a3 a4:Int) (a5:Lq2):Bool:=okL a2
noncomputable abbrev C3E:H7 C0u→Bool:=fun d=>B6p d.1.1 d.1.2.1 d.1.2.2.1 d.2.1.1 d.2.1.2.1 d.2.1.2.2.1
theorem D4j:A7C true G81 aLn Try.f112 C0u C3E C8l:=by
 rintro ⟨⟨a0,⟨a1,⟨a2,_⟩⟩⟩,⟨⟨a3,⟨a4,⟨a5,_⟩⟩⟩,_⟩⟩ hp
 change B6p a0 a1 a2 a3 a4 a5=true at hp
 unfold B6p at hp
 refine Eq.trans (b:=(cond (a0 != a3) (some (B36 false)) (cond (a1 != a4) (some (B36 false)) (cond (C1E a2 a5) (cond (!(C5W a2 a5)) (some (B36 false)) (some (B36 true))) none)))) (by kernel_rfl) ?_
 exact (Q2 B36 (fun _h=>rfl) (fun _h=>(Q2 B36 (fun _h=>rfl) (fun _h=>(A7F (by first | rfl | decide | exact hp | (simp only [Bool.and_eq_true] at hp;simp only [hp];done) | (simp [*];done) | (simp [okL] at hp;simp [okL,MAXB];omega) | (simp_all;done) | (simp at *;omega)) (fun _h=>(Q2 B36 (fun _h=>rfl) (fun _h=>rfl))))))))
theorem D5P:aPP 112 (A22 C0u C3E C8l):=pcD true G81 hlz D4j
noncomputable def S82:Tab:=Tab.add S81 112 (lift (A22 C0u C3E C8l))
noncomputable def D8G:FuncId→Bool:=qadd D8F 112
theorem G82:aPG S82 D8G:=G81.addQ D5P (cbl Try.f112) (fun _=>rfl)


end Go.Proofs.Ytgglehejlddghaa.Eng
