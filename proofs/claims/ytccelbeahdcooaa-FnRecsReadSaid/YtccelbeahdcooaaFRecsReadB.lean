/- What the functions that FnRecsRead reaches compute: further. -/
import Derived.Test.YtccelbeahdcooaaFRecsReadA
namespace Go.Proofs.Ytccelbeahdcooaa.Eng
open Go Go.RowKit
set_option linter.unusedSimpArgs false
set_option linter.unusedVariables false
set_option maxRecDepth 10000
abbrev B9C:List Sh:=.junk::.junk::B7z
abbrev u17:=((),(),(),u14)
abbrev u32:=((),(),(),u29)
abbrev C0R:List AV:=.junk::.junk::.junk::.junk::.junk::.junk::.junk::.junk::.junk::.junk::.junk::.junk::.junk::.junk::.junk::.junk::[]
abbrev C0S:List AV:=.junk::.junk::.junk::.junk::.junk::.junk::.junk::.junk::.junk::.junk::C0R
abbrev A0L:SS:=⟨[.ptr 0 0 1 0],[.box [.t false B4,tI,.t true .bool]]⟩
abbrev E9:SS:=⟨(.ptr 0 0 1 0::.junk::.junk::.junk::.all 1 3::.junk::.junk::.junk::.junk::.junk::.junk::.junk::.junk::tI::tI::B9C),[.box [.t false B4,tI,.t true .bool],.rows 124 true tq3]⟩
abbrev A3q:SS:=⟨(.junk::.junk::.junk::.junk::.all 1 3::B9E),[.box [.t false B4,tI,.t true .bool],.rows 124 true tq3]⟩
noncomputable def B3 (p0:List Int) (p1:Int) (p2:Bool):=let z1:=A6 p0 p1 p2;T0 (z1.2.1) (z1.2.2.1) (z1.2.2.2)
noncomputable def B6 (p0:List Int) (p1:Int) (p2:Bool):=let z1:=B3 p0 p1 p2;T0 (z1.2.1) (z1.2.2.1) (z1.2.2.2)
noncomputable def A4E (x13 x14:Int) (p0:List Int) (p1:Int) (p2:Bool) (h1:Lq1):RT E9.den:=let z1:=B3 p0 p1 p2;let z2:=B6 p0 p1 p2;let z3:=A6 p0 p1 p2;(.br (decide (x14<x13)) (.br (B8 p0 p1 p2) (.br (C6 (z3.2.1) (z3.2.2.1) (z3.2.2.2)) (.br (C6 (z1.2.1) (z1.2.2.1) (z1.2.2.2)) (.br (decide ((h1.length+[((z3.1),((z1.1),(z2.1)))].length)*40≤MAXB)) (.next (((),(),(),(),(),(),(),(),(),(),(),(),(),x13,IntKind.wrap .i64 (x14+(1:Int)),u17),(((z2.2.1),(z2.2.2.1),(z2.2.2.2),()),h1++[((z3.1),((z1.1),(z2.1)))],()))) .fail) .fail) .fail) .fail) (.done (.exit 0) A3q ((u32),((p0,p1,p2,()),h1,()))))
abbrev U1:=(Int)×(Int)×(List Int)×(Int)×(Bool)×(Lq1)
abbrev M4:=Nat×(List Int)×(Int)×(Bool)×(Lq1)
def P9:M4:=(99,([]:List Int),((0:Int):Int),(false:Bool),([]:Lq1))
noncomputable def Z1 (x13 x14:Int) (p0:List Int) (p1:Int) (p2:Bool) (h1:Lq1):U1 ⊕ M4:=let z1:=B3 p0 p1 p2;let z2:=B6 p0 p1 p2;let z3:=A6 p0 p1 p2;(cond (decide (x14<x13)) (cond (B8 p0 p1 p2) (cond (C6 (z3.2.1) (z3.2.2.1) (z3.2.2.2)) (cond (C6 (z1.2.1) (z1.2.2.1) (z1.2.2.2)) (cond (decide ((h1.length+[((z3.1),((z1.1),(z2.1)))].length)*40≤MAXB)) (.inl (x13,IntKind.wrap .i64 (x14+(1:Int)),(z2.2.1),(z2.2.2.1),(z2.2.2.2),h1++[((z3.1),((z1.1),(z2.1)))])) (.inr P9)) (.inr P9)) (.inr P9)) (.inr P9)) (.inr (0,p0,p1,p2,h1)))
noncomputable def I4 (x13 x14:Int) (p0:List Int) (p1:Int) (p2:Bool) (h1:Lq1):M4:=itX (fun v:U1=>Z1 v.1 v.2.1 v.2.2.1 v.2.2.2.1 v.2.2.2.2.1 v.2.2.2.2.2) P9 (x13,x14,p0,p1,p2,h1)
noncomputable def A1b (a:M4):CT:=(.br (a.1==0) (.done (.exit 0) A3q ((u32),((a.2.1,a.2.2.1,a.2.2.2.1,()),a.2.2.2.2,()))) .fail)
noncomputable def B0V (x13 x14:Int) (p0:List Int) (p1:Int) (p2:Bool) (h1:Lq1):CT:=A1b (I4 x13 x14 p0 p1 p2 h1)
noncomputable abbrev X9 {α:Sort _} (f:Int→Int→(List Int)→Int→Bool→Lq1→α) (d:E9.den):α:=f d.1.2.2.2.2.2.2.2.2.2.2.2.2.2.1 d.1.2.2.2.2.2.2.2.2.2.2.2.2.2.2.1 d.2.1.1 d.2.1.2.1 d.2.1.2.2.1 d.2.2.1
noncomputable abbrev A1p:E9.den→RT E9.den:=(X9 A4E)
noncomputable def A2X:Code:=((loopsIn 0 (bodyOf Try.f78)).getD 0 (0,.skip)).2
noncomputable abbrev A4A (v:U1):E9.den:=(((),(),(),(),(),(),(),(),(),(),(),(),(),v.1,v.2.1,u17),((v.2.2.1,v.2.2.2.1,v.2.2.2.2.1,()),v.2.2.2.2.2,()))
theorem B0u:(∀ v:U1,(A4E v.1 v.2.1 v.2.2.1 v.2.2.2.1 v.2.2.2.2.1 v.2.2.2.2.2).val=relS A4A A1b (Z1 v.1 v.2.1 v.2.2.1 v.2.2.2.1 v.2.2.2.2.1 v.2.2.2.2.2))∧∀ a:M4,CEnd E9.den (A1b a):=⟨fun v=>(relB (relB (relB (relB (relB rfl rfl) rfl) rfl) rfl) rfl),fun a=>(cendB aCD cendF)⟩
noncomputable def A4x (x13 x14:Int) (p0:List Int) (p1:Int) (p2:Bool) (h1:Lq1):Option (Ex×St):=let z1:=B3 p0 p1 p2;let z2:=B6 p0 p1 p2;let z3:=A6 p0 p1 p2;(cond (decide (x14<x13)) (cond (B8 p0 p1 p2) (cond (C6 (z3.2.1) (z3.2.2.1) (z3.2.2.2)) (cond (C6 (z1.2.1) (z1.2.2.1) (z1.2.2.2)) (cond (decide ((h1.length+[((z3.1),((z1.1),(z2.1)))].length)*40≤MAXB)) (some (.normal,(⟨((.ptr 0 0 1 0)::.junk::.junk::.junk::(.all 1 3)::.junk::.junk::.junk::.junk::.junk::.junk::.junk::.junk::(ti x13)::(ti (IntKind.wrap .i64 (x14+(1:Int))))::C0R),[(.box [(.t false B4 (z2.2.1)),(ti (z2.2.2.1)),(.t true .bool (z2.2.2.2))]),(.rows 124 true tq3 (h1++[((z3.1),((z1.1),(z2.1)))]))],1,[]⟩:St))) none) none) none) none) (some ((.exit 0),(⟨(.junk::.junk::.junk::.junk::(.all 1 3)::C0S),[(.box [(.t false B4 p0),(ti p1),(.t true .bool p2)]),(.rows 124 true tq3 h1)],1,[]⟩:St))))
theorem A9x:RdA G32 aLn 0 A2X E9 1 [] (kepts [] [(0,[4])]) (X9 A4x):=by
 intro d
 kernel_rfl
theorem A9A:∀ d:E9.den,(X9 A4x) d=(A1p d).opt 1 []:=by
 intro d
 kernel_rfl
noncomputable abbrev A3D:St→Option Tree:=E9.say 1 [] [(4,124,tq3)] (X9 B0V)
theorem B0i:aPL A3D A2X:=SS.wp2 hlz [(4,124,tq3)] A1p A9x A9A _ (fun d=>Runs.ofI2 (step:=A1p) A4A B0u rfl (d.1.2.2.2.2.2.2.2.2.2.2.2.2.2.1,d.1.2.2.2.2.2.2.2.2.2.2.2.2.2.2.1,d.2.1.1,d.2.1.2.1,d.2.1.2.2.1,d.2.2.1))
noncomputable def A01 (p0:List Int) (p1:Int) (p2:Bool):=let z1:=A6 p0 p1 p2;I4 (z1.1) (0:Int) (z1.2.1) (z1.2.2.1) (z1.2.2.2) ([]:Lq1)
noncomputable def K1 (p0:List Int) (p1:Int) (p2:Bool):(List Int)×Int×Bool×Lq1:=let z1:=A01 p0 p1 p2;let z2:=A6 p0 p1 p2;(cond (decide ((z2.1) > (8:Int))) ((z2.2.1),(z2.2.2.1),true,([]:Lq1)) ((z1.2.1),(z1.2.2.1),(z1.2.2.2.1),(z1.2.2.2.2)))
noncomputable abbrev A1w (r:(List Int)×Int×Bool×Lq1):AV×List AObj×List Nat:=((.all 1 3),[(.box [(.t false B4 r.1),(ti r.2.1),(.t true .bool r.2.2.1)]),(.rows 124 true tq3 r.2.2.2)],[])
noncomputable abbrev A7z:A0L.den→AV×List AObj×List Nat:=fun d=>A1w (K1 d.2.1.1 d.2.1.2.1 d.2.1.2.2.1)
noncomputable def P1 (p0:List Int) (p1:Int) (p2:Bool):Bool:=(B8 p0 p1 p2)&&(cond (decide (((A6 p0 p1 p2).1) > (8:Int))) true ((A01 p0 p1 p2).1==0))
noncomputable abbrev A5E:A0L.den→Bool:=fun d=>P1 d.2.1.1 d.2.1.2.1 d.2.1.2.2.1
noncomputable abbrev B2a:Nat→St→Option Tree:=fun b=>match b with | 0=>A3D | _=>fun _=>none
theorem B05:RunM G32 (B2a) Try.f78 A0L A5E A7z:=by
 rintro ⟨⟨_,_⟩,⟨⟨p0,p1,p2,_⟩,_⟩⟩ hp
 change P1 p0 p1 p2=true at hp
 unfold P1 at hp
 refine Eq.trans (b:=(let z1:=A01 p0 p1 p2;let z2:=A6 p0 p1 p2;cond (B8 p0 p1 p2) (cond (decide ((z2.1) > (8:Int))) (some (A1w ((z2.2.1),(z2.2.2.1),true,([]:Lq1)))) (cond (z1.1==0) (some (A1w ((z1.2.1),(z1.2.2.1),(z1.2.2.2.1),(z1.2.2.2.2)))) none)) none)) (by kernel_rfl) ?_
 exact (cndA hp fun hp=>(M2 A1w hp (fun hp=>rfl) (fun hp=>(cndT hp fun _h=>rfl))))
noncomputable abbrev A7E:=win winIds (msum A0L A5E A7z)
theorem B2f:aPM 78 A7E:=(mcM G32 (hl1 (i:=0) (by kernel_rfl) B0i) B05).win winIds
noncomputable def S33:Tab:=Tab.add S32 78 (A7E)
noncomputable def C0d:FuncId→Bool:=C0c
theorem G33:aPG S33 C0d:=G32.addM B2f (win_local _) (cbl Try.f78) (by kernel_rfl)

abbrev A8F:List PSh:=[.t (.int .i64)]
noncomputable def B0z (a0:Int):Bool:=(U2 a0 (1:Int) (1000000:Int))
noncomputable abbrev B8L (r:Bool):AV×List AObj:=((.t true .bool r),[])
noncomputable abbrev B3A:pshsDen A8F→AV×List AObj:=fun d=>B8L (B0z d.1)
noncomputable abbrev B0l:pshsDen A8F→Bool:=fun d=>true
theorem B7F:RunP true G33 aLn Try.f74 A8F B0l B3A:=by
 rintro ⟨a0,_⟩ hp
 kernel_rfl
theorem B8G:aPP 74 (sumOf A8F B0l B3A):=pcD true G33 hlz B7F
noncomputable def S34:Tab:=Tab.add S33 74 (lift (sumOf A8F B0l B3A))
noncomputable def C0e:FuncId→Bool:=qadd C0d 74
theorem G34:aPG S34 C0e:=G33.addQ B8G (cbl Try.f74) (fun _=>rfl)

abbrev A0I:List PSh:=[.t (.int .u8)]
noncomputable def A25 (a0:Int):Bool:=let z1:=decide (a0 ≥ (48:Int));let z2:=decide (a0≤(57:Int));(cond (decide (a0 ≥ (97:Int))) (cond (decide (a0≤(122:Int))) true (cond z1 z2 false)) (cond z1 z2 false))
noncomputable abbrev J9 (r:Bool):AV×List AObj:=((.t true .bool r),[])
noncomputable abbrev A43:pshsDen A0I→AV×List AObj:=fun d=>J9 (A25 d.1)
noncomputable abbrev A3h:pshsDen A0I→Bool:=fun d=>true
theorem B14:RunP true G34 aLn Try.f178 A0I A3h A43:=by
 rintro ⟨a0,_⟩ hp
 refine Eq.trans (b:=(let z1:=J9 (decide (a0≤(57:Int)));let z2:=decide (a0 ≥ (48:Int));cond (decide (a0 ≥ (97:Int))) (cond (decide (a0≤(122:Int))) (some (J9 true)) (cond z2 (some z1) (some (J9 false)))) (cond z2 (some z1) (some (J9 false))))) (by kernel_rfl) ?_
 exact (L4 J9 (fun _h=>(L4 J9 (fun _h=>rfl) (fun _h=>(L4 J9 (fun _h=>rfl) (fun _h=>rfl))))) (fun _h=>(L4 J9 (fun _h=>rfl) (fun _h=>rfl))))
theorem B3u:aPP 178 (sumOf A0I A3h A43):=pcD true G34 hlz B14
noncomputable def S35:Tab:=Tab.add S34 178 (lift (sumOf A0I A3h A43))
noncomputable def C0f:FuncId→Bool:=qadd C0e 178
theorem G35:aPG S35 C0f:=G34.addQ B3u (cbl Try.f178) (fun _=>rfl)

abbrev C01:List Sh:=.junk::.junk::.junk::.junk::.junk::.junk::.junk::.junk::.junk::.junk::.junk::[]
abbrev C1F:List Sh:=.junk::C01
abbrev u13:=((),(),(),(),(),(),(),(),(),(),(),(),())
abbrev u12:=((),(),(),(),(),(),(),(),(),(),(),())
abbrev u16:=((),(),u14)
noncomputable def A45 (s:ByteArray) (i:Nat):Bool:=A25 (bt s (i:Int))
abbrev A4f:List PSh:=[.t .str]
abbrev V7:SS:=⟨(.t true .str::.junk::.junk::tI::C01),[]⟩
abbrev A7g:SS:=⟨(.junk::.junk::.t true .bool::C1F),[]⟩
abbrev A7h:SS:=⟨(.junk::B7z),[]⟩
noncomputable def A5x (x0:ByteArray) (x3:Int):RT V7.den:=(.br (decide (x3<(x0.size:Int))) (.br (decide (0≤x3∧x3<(x0.size:Int))) (.br (!(A25 (bt x0 x3))) (.done .ret A7g (((),(),false,u13),())) (.next ((x0,(),(),IntKind.wrap .i64 (x3+(1:Int)),u12),()))) .fail) (.done (.exit 0) A7h ((u16),())))
noncomputable def A1G (x0:ByteArray) (x3:Int):CT:=(.br (decide (0≤x3)&&okS x0) (.br (allF (A45 x0) (x0.size - x3.toNat) x3.toNat) (.done (.exit 0) A7h ((u16),())) (.done .ret A7g (((),(),false,u13),()))) .fail)
noncomputable abbrev A07:V7.den→RT V7.den:=(fun d=>A5x d.1.1 d.1.2.2.2.1)
noncomputable abbrev A9f (x0:ByteArray) (x3:Int):V7.den:=((x0,(),(),x3,u12),())
noncomputable def A52:Code:=((loopsIn 0 (bodyOf Try.f167)).getD 0 (0,.skip)).2
theorem B4o (x0:ByteArray) (x3:Int):(A1G x0 x3).val (D:=V7.den)=.fail∨Runs A07 (A9f x0 x3) (A1G x0 x3).val:=by
 cases hc:(decide (0≤x3)&&okS x0) with
 | false=>left;simp only [A1G,CT.val,hc,cond_false]
 | true =>
  right
  simp only [A1G,CT.val,hc,cond_true]
  simp only [Bool.and_eq_true,decide_eq_true_eq] at hc
  obtain ⟨i,rfl⟩:=Int.eq_ofNat_of_zero_le hc.1
  have hs:=okS_le hc.2
  simp only [Int.toNat_natCast]
  refine Runs.scan (fun j=>A9f x0 (j:Int)) (x0.size) (A45 x0) (fun i hi=>?_) (fun i hi=>?_) ⟨_,_,_,rfl,by simp⟩ ⟨_,_,_,rfl,by simp⟩ _ _ rfl
  ·
   have h0a:decide ((i:Int)<(x0.size:Int))=true:=decide_eq_true (by omega)
   have h0b:decide (0≤(i:Int)∧(i:Int)<(x0.size:Int))=true:=decide_eq_true (by omega)
   simp only [A07,A5x,RT.val,h0a,h0b,cond_true,wrapS i (by omega),Int.toNat_natCast]
   simp only [A45]
   cases A25 (bt x0 (i:Int))<;>rfl
  ·have h1:decide ((i:Int)<(x0.size:Int))=false:=decide_eq_false (by omega)
   simp only [A07,A5x,RT.val,h1,cond_false]
theorem B2v:RdA G35 aLn 0 A52 V7 0 [] (kepts [2] [(0,[])]) (fun d=>(A07 d).opt 0 []):=by
 intro d
 kernel_rfl
noncomputable abbrev A7V:St→Option Tree:=V7.say 0 [] [] (fun d=>A1G d.1.1 d.1.2.2.2.1)
theorem B3H:aPL A7V A52:=SS.wp2 hlz [] A07 B2v (fun d=>rfl) _ (fun d=>B4o d.1.1 d.1.2.2.2.1)
noncomputable def B1c (a0:ByteArray):Bool:=(cond (allF (A45 a0) (a0.size - (0:Int).toNat) (0:Int).toNat) true false)
noncomputable abbrev A60 (r:Bool):AV×List AObj:=((.t true .bool r),[])
noncomputable abbrev A94:pshsDen A4f→AV×List AObj:=fun d=>A60 (B1c d.1)
noncomputable def A67 (a0:ByteArray):Bool:=okS a0
noncomputable abbrev A6m:pshsDen A4f→Bool:=fun d=>A67 d.1
noncomputable abbrev B6U:Nat→St→Option Tree:=fun b=>match b with | 0=>A7V | _=>fun _=>none
theorem B5l:RunP true G35 (B6U) Try.f167 A4f A6m A94:=by
 rintro ⟨a0,_⟩ hp
 change A67 a0=true at hp
 unfold A67 at hp
 refine Eq.trans (b:=(cond (decide (0≤(0:Int))&&okS a0) (cond (allF (A45 a0) (a0.size - (0:Int).toNat) (0:Int).toNat) (some (A60 true)) (some (A60 false))) none)) (by kernel_rfl) ?_
 exact (cndT (by first | rfl | decide | exact hp | (simp only [Bool.and_eq_true] at hp;simp only [hp];done) | (simp [*];done) | (simp [okL] at hp;simp [okL,MAXB];omega) | (simp_all;done) | (simp at *;omega)) (fun _h=>(L4 A60 (fun _h=>rfl) (fun _h=>rfl))))
theorem B69:aPP 167 (sumOf A4f A6m A94):=pcD true G35 (hl1 (i:=0) (by kernel_rfl) B3H) B5l
noncomputable def S36:Tab:=Tab.add S35 167 (lift (sumOf A4f A6m A94))
noncomputable def C0g:FuncId→Bool:=qadd C0f 167
theorem G36:aPG S36 C0g:=G35.addQ B69 (cbl Try.f167) (fun _=>rfl)

abbrev A5U:List PSh:=[.t .str]
noncomputable def A3W (a0:ByteArray):Bool:=(cond (U2 (a0.size:Int) (1:Int) (12:Int)) (B1c a0) false)
noncomputable abbrev A8N (r:Bool):AV×List AObj:=((.t true .bool r),[])
noncomputable abbrev B1v:pshsDen A5U→AV×List AObj:=fun d=>A8N (A3W d.1)
noncomputable def A9v (a0:ByteArray):Bool:=okS a0
noncomputable abbrev A8p:pshsDen A5U→Bool:=fun d=>A9v d.1
theorem B6q:RunP true G36 aLn Try.f140 A5U A8p B1v:=by
 rintro ⟨a0,_⟩ hp
 change A9v a0=true at hp
 unfold A9v at hp
 refine Eq.trans (b:=(cond (U2 (a0.size:Int) (1:Int) (12:Int)) (cond (A67 a0) (some (A8N (B1c a0))) none) (some (A8N false)))) (by kernel_rfl) ?_
 exact (L4 A8N (fun _h=>(cndT (by first | rfl | decide | exact hp | (simp only [Bool.and_eq_true] at hp;simp only [hp];done) | (simp [*];done) | (simp [okL] at hp;simp [okL,MAXB];omega) | (simp_all;done) | (simp at *;omega)) (fun _h=>rfl))) (fun _h=>rfl))
theorem B7V:aPP 140 (sumOf A5U A8p B1v):=pcD true G36 hlz B6q
noncomputable def S37:Tab:=Tab.add S36 140 (lift (sumOf A5U A8p B1v))
noncomputable def C0h:FuncId→Bool:=qadd C0g 140
theorem G37:aPG S37 C0h:=G36.addQ B7V (cbl Try.f140) (fun _=>rfl)

abbrev A8G:List PSh:=[.agg [(.int .i64),.str,.str]]
noncomputable def B1H (a0:Int) (a1 a2:ByteArray):Bool:=let z1:=decide ((a2.size:Int)≤(20:Int));(cond (a0==(1:Int)) (cond (A3W a1) z1 false) (cond (a0==(3:Int)) (cond (A3W a1) z1 false) (cond (a0==(2:Int)) (cond (A3W a1) (a2.toList==bE.toList) false) false)))
noncomputable abbrev Y0 (r:Bool):AV×List AObj:=((.t true .bool r),[])
noncomputable abbrev B3B:pshsDen A8G→AV×List AObj:=fun d=>Y0 (B1H d.1.1 d.1.2.1 d.1.2.2.1)
noncomputable def A68 (a0:Int) (a1 a2:ByteArray):Bool:=okS a1
noncomputable abbrev B0m:pshsDen A8G→Bool:=fun d=>A68 d.1.1 d.1.2.1 d.1.2.2.1
theorem B7G:RunP true G37 aLn Try.f119 A8G B0m B3B:=by
 rintro ⟨⟨a0,⟨a1,⟨a2,_⟩⟩⟩,_⟩ hp
 change A68 a0 a1 a2=true at hp
 unfold A68 at hp
 refine Eq.trans (b:=(let z1:=Y0 (decide ((a2.size:Int)≤(20:Int)));let z2:=A9v a1;cond (a0==(1:Int)) (cond z2 (cond (A3W a1) (some z1) (some (Y0 false))) none) (cond (a0==(3:Int)) (cond z2 (cond (A3W a1) (some z1) (some (Y0 false))) none) (cond (a0==(2:Int)) (cond z2 (cond (A3W a1) (some (Y0 (a2.toList==(⟨#[]⟩:ByteArray).toList))) (some (Y0 false))) none) (some (Y0 false)))))) (by kernel_rfl) ?_
 exact (L4 Y0 (fun _h=>(cndT (by first | rfl | decide | exact hp | (simp only [Bool.and_eq_true] at hp;simp only [hp];done) | (simp [*];done) | (simp [okL] at hp;simp [okL,MAXB];omega) | (simp_all;done) | (simp at *;omega)) (fun _h=>(L4 Y0 (fun _h=>rfl) (fun _h=>rfl))))) (fun _h=>(L4 Y0 (fun _h=>(cndT (by first | rfl | decide | exact hp | (simp only [Bool.and_eq_true] at hp;simp only [hp];done) | (simp [*];done) | (simp [okL] at hp;simp [okL,MAXB];omega) | (simp_all;done) | (simp at *;omega)) (fun _h=>(L4 Y0 (fun _h=>rfl) (fun _h=>rfl))))) (fun _h=>(L4 Y0 (fun _h=>(cndT (by first | rfl | decide | exact hp | (simp only [Bool.and_eq_true] at hp;simp only [hp];done) | (simp [*];done) | (simp [okL] at hp;simp [okL,MAXB];omega) | (simp_all;done) | (simp at *;omega)) (fun _h=>(L4 Y0 (fun _h=>rfl) (fun _h=>rfl))))) (fun _h=>rfl))))))
theorem B8H:aPP 119 (sumOf A8G B0m B3B):=pcD true G37 hlz B7G
noncomputable def S38:Tab:=Tab.add S37 119 (lift (sumOf A8G B0m B3B))
noncomputable def C0i:FuncId→Bool:=qadd C0h 119
theorem G38:aPG S38 C0i:=G37.addQ B8H (cbl Try.f119) (fun _=>rfl)

abbrev B8X:List Sh:=.junk::B8W
abbrev B8Q:List AV:=.junk::B8P
noncomputable def B0y (l:Lq1) (i:Nat):Bool:=let z1:=l.getD i dOp;let z2:=l.getD (i - 1) dOp;B1H z1.1 z1.2.1 z1.2.2&&(decide (i=0)||!(Op.bytesLess z1.2.1.toList z2.2.1.toList||(z1.2.1.toList==z2.2.1.toList)))
abbrev A5V:List PSh:=[.t tq2]
abbrev R6:SS:=⟨(.t false tq2::.junk::.junk::.junk::.junk::.t false tq2::tI::tI::B9E),[]⟩
abbrev A4F:SS:=⟨(.junk::.junk::.t true .bool::B8X),[]⟩
abbrev A8A:SS:=⟨(.t false tq2::B9F),[]⟩
noncomputable def A6O (x0 x5:Lq1) (x6 x7:Int):RT R6.den:=let z1:=x5.getD x7.toNat ((0:Int),(bE,bE));let z2:=IntKind.wrap .i64 (x7 - (1:Int));let z3:=((x0.getD (z2.toNat) ((0:Int),(bE,bE))).2).1;(.br (decide (x7<x6)) (.br (decide (0≤x7∧x7<(x5.length:Int))) (.br (A68 (z1.1) ((z1.2).1) ((z1.2).2)) (.br (!(B1H (z1.1) ((z1.2).1) ((z1.2).2))) (.done .ret A4F (((),(),false,u32),())) (.br (decide (x7 > (0:Int))) (.br (decide (0≤z2∧z2<(x0.length:Int))) (.br (Op.bytesLess ((z1.2).1).toList z3.toList||(((z1.2).1).toList==z3.toList)) (.done .ret A4F (((),(),false,u32),())) (.next ((x0,(),(),(),(),x5,x6,IntKind.wrap .i64 (x7+(1:Int)),u27),()))) .fail) (.next ((x0,(),(),(),(),x5,x6,IntKind.wrap .i64 (x7+(1:Int)),u27),())))) .fail) .fail) (.done (.exit 0) A8A ((x0,u34),())))
noncomputable def A2R (x0 x5:Lq1) (x6 x7:Int):CT:=(.br (decide (0≤x7)&&(decide (x6=(x5.length:Int))&&(decide (x5=x0)&&D6 x5))) (.br (allF (B0y x5) (x5.length - x7.toNat) x7.toNat) (.done (.exit 0) A8A ((x0,u34),())) (.done .ret A4F (((),(),false,u32),()))) .fail)
noncomputable abbrev A3u {α:Sort _} (f:Lq1→Lq1→Int→Int→α) (d:R6.den):α:=f d.1.1 d.1.2.2.2.2.2.1 d.1.2.2.2.2.2.2.1 d.1.2.2.2.2.2.2.2.1
noncomputable abbrev A1X:R6.den→RT R6.den:=(A3u A6O)
noncomputable abbrev B0G (x0 x5:Lq1) (x6 x7:Int):R6.den:=((x0,(),(),(),(),x5,x6,x7,u27),())
noncomputable def A7o:Code:=((loopsIn 0 (bodyOf Try.f75)).getD 0 (0,.skip)).2
theorem B5Q (x0 x5:Lq1) (x6 x7:Int):(A2R x0 x5 x6 x7).val (D:=R6.den)=.fail∨Runs A1X (B0G x0 x5 x6 x7) (A2R x0 x5 x6 x7).val:=by
 cases hc:(decide (0≤x7)&&(decide (x6=(x5.length:Int))&&(decide (x5=x0)&&D6 x5))) with
 | false=>left;simp only [A2R,CT.val,hc,cond_false]
 | true =>
  right
  simp only [A2R,CT.val,hc,cond_true]
  simp only [Bool.and_eq_true,decide_eq_true_eq] at hc
  obtain ⟨i,rfl⟩:=Int.eq_ofNat_of_zero_le hc.1
  obtain ⟨_,e6,e5,hc⟩:=hc
  subst e5;subst e6
  have hs:=Q0 hc
  simp only [Int.toNat_natCast]
  refine Runs.scan (fun j=>B0G x5 x5 (x5.length:Int) (j:Int)) (x5.length) (B0y x5) (fun i hi=>?_) (fun i hi=>?_) ⟨_,_,_,rfl,by simp⟩ ⟨_,_,_,rfl,by simp⟩ _ _ rfl
  ·
   have h0a:decide ((i:Int)<(x5.length:Int))=true:=decide_eq_true (by omega)
   have h0b:decide (0≤(i:Int)∧(i:Int)<(x5.length:Int))=true:=decide_eq_true (by omega)
   simp only [A1X,A6O,RT.val,h0a,h0b,cond_true,wrapS i (by omega),Int.toNat_natCast]
   have hq:A68 (x5.getD i dOp).1 (x5.getD i dOp).2.1 (x5.getD i dOp).2.2=true:=(A3g hc i hi).1
   simp only [dOp] at hq
   simp only [hq,cond_true,B0y,dOp]
   cases B1H (x5.getD i ((0:Int),((⟨#[]⟩:ByteArray),(⟨#[]⟩:ByteArray)))).1 (x5.getD i ((0:Int),((⟨#[]⟩:ByteArray),(⟨#[]⟩:ByteArray)))).2.1 (x5.getD i ((0:Int),((⟨#[]⟩:ByteArray),(⟨#[]⟩:ByteArray)))).2.2 with
   | false=>rfl
   | true =>
    cases i with
    | zero=>rfl
    | succ i =>
     have h3:decide (((i+1:Nat):Int) > 0)=true:=decide_eq_true (by omega)
     have h4:IntKind.wrap .i64 (((i+1:Nat):Int) - 1)=(i:Int):=by have:=wrap64 (n:=((i+1:Nat):Int) - 1) (by omega) (by omega);omega
     have h5:decide (0≤(i:Int)∧(i:Int)<(x5.length:Int))=true:=decide_eq_true (by omega)
     have h6:decide (i+1=0)=false:=by simp
     simp only [h3,h4,h5,h6,cond_true,Bool.true_and,Bool.false_or,Int.toNat_natCast,Nat.add_sub_cancel,Bool.not_true,cond_false]
     cases (Op.bytesLess (x5.getD (i+1) ((0:Int),((⟨#[]⟩:ByteArray),(⟨#[]⟩:ByteArray)))).2.1.toList (x5.getD i ((0:Int),((⟨#[]⟩:ByteArray),(⟨#[]⟩:ByteArray)))).2.1.toList||((x5.getD (i+1) ((0:Int),((⟨#[]⟩:ByteArray),(⟨#[]⟩:ByteArray)))).2.1.toList==(x5.getD i ((0:Int),((⟨#[]⟩:ByteArray),(⟨#[]⟩:ByteArray)))).2.1.toList))<;>rfl
  ·have h1:decide ((i:Int)<(x5.length:Int))=false:=decide_eq_false (by omega)
   simp only [A1X,A6O,RT.val,h1,cond_false]
noncomputable def B0C (x0 x5:Lq1) (x6 x7:Int):Option (Ex×St):=let z1:=x5.getD x7.toNat ((0:Int),(bE,bE));let z2:=(⟨((.t false tq2 x0)::.junk::.junk::.junk::.junk::(.t false tq2 x5)::(ti x6)::(ti (IntKind.wrap .i64 (x7+(1:Int))))::C0S),[],0,[]⟩:St);let z3:=IntKind.wrap .i64 (x7 - (1:Int));let z4:=(⟨(.junk::.junk::(.t true .bool false)::B8Q),[],0,[]⟩:St);let z5:=((x0.getD (z3.toNat) ((0:Int),(bE,bE))).2).1;(cond (decide (x7<x6)) (cond (decide (0≤x7∧x7<(x5.length:Int))) (cond (A68 (z1.1) ((z1.2).1) ((z1.2).2)) (cond (!(B1H (z1.1) ((z1.2).1) ((z1.2).2))) (some (.ret,z4)) (cond (decide (x7 > (0:Int))) (cond (decide (0≤z3∧z3<(x0.length:Int))) (cond (Op.bytesLess ((z1.2).1).toList z5.toList||(((z1.2).1).toList==z5.toList)) (some (.ret,z4)) (some (.normal,z2))) none) (some (.normal,z2)))) none) none) (some ((.exit 0),(⟨((.t false tq2 x0)::C0U),[],0,[]⟩:St))))
theorem B3T:RdA G38 aLn 0 A7o R6 0 [] (kepts [2] [(0,[0])]) (A3u B0C):=by
 intro d
 kernel_rfl
theorem B3Y:∀ d:R6.den,(A3u B0C) d=(A1X d).opt 0 []:=by
 intro d
 kernel_rfl
noncomputable abbrev A9F:St→Option Tree:=R6.say 0 [] [] (A3u A2R)
theorem B40:aPL A9F A7o:=SS.wp2 hlz [] A1X B3T B3Y _ (fun d=>B5Q d.1.1 d.1.2.2.2.2.2.1 d.1.2.2.2.2.2.2.1 d.1.2.2.2.2.2.2.2.1)
noncomputable def B1F (a0:Lq1):Bool:=(cond (allF (B0y a0) (a0.length - (0:Int).toNat) (0:Int).toNat) (U2 (a0.length:Int) (1:Int) (8:Int)) false)
noncomputable abbrev A8O (r:Bool):AV×List AObj:=((.t true .bool r),[])
noncomputable abbrev B1w:pshsDen A5V→AV×List AObj:=fun d=>A8O (B1F d.1)
noncomputable def A9w (a0:Lq1):Bool:=D6 a0
noncomputable abbrev A8q:pshsDen A5V→Bool:=fun d=>A9w d.1
noncomputable abbrev B7O:Nat→St→Option Tree:=fun b=>match b with | 0=>A9F | _=>fun _=>none
theorem B6r:RunP true G38 (B7O) Try.f75 A5V A8q B1w:=by
 rintro ⟨a0,_⟩ hp
 change A9w a0=true at hp
 unfold A9w at hp
 refine Eq.trans (b:=(cond (decide (0≤(0:Int))&&(decide ((a0.length:Int)=(a0.length:Int))&&(decide (a0=a0)&&D6 a0))) (cond (allF (B0y a0) (a0.length - (0:Int).toNat) (0:Int).toNat) (some (A8O (U2 (a0.length:Int) (1:Int) (8:Int)))) (some (A8O false))) none)) (by kernel_rfl) ?_
 exact (cndT (by first | rfl | decide | exact hp | (simp only [Bool.and_eq_true] at hp;simp only [hp];done) | (simp [*];done) | (simp [okL] at hp;simp [okL,MAXB];omega) | (simp_all;done) | (simp at *;omega)) (fun _h=>(L4 A8O (fun _h=>rfl) (fun _h=>rfl))))
theorem B7W:aPP 75 (sumOf A5V A8q B1w):=pcD true G38 (hl1 (i:=0) (by kernel_rfl) B40) B6r
noncomputable def S39:Tab:=Tab.add S38 75 (lift (sumOf A5V A8q B1w))
noncomputable def C0j:FuncId→Bool:=qadd C0i 75
theorem G39:aPG S39 C0j:=G38.addQ B7W (cbl Try.f75) (fun _=>rfl)

abbrev A5W:List PSh:=[.agg [(.int .i64),(.int .i64),tq2]]
noncomputable def A2d (a0 a1:Int) (a2:Lq1):Bool:=(cond (a0==(1:Int)) (cond (B0z a1) (B1F a2) false) (cond (a0==(2:Int)) (cond (B0z a1) ((a2.length:Int)==(0:Int)) false) (cond (a0==(3:Int)) (cond (B0z a1) ((a2.length:Int)==(0:Int)) false) false)))
noncomputable abbrev P7 (r:Bool):AV×List AObj:=((.t true .bool r),[])
noncomputable abbrev B1x:pshsDen A5W→AV×List AObj:=fun d=>P7 (A2d d.1.1 d.1.2.1 d.1.2.2.1)
noncomputable def J5 (a0 a1:Int) (a2:Lq1):Bool:=D6 a2
noncomputable abbrev A8r:pshsDen A5W→Bool:=fun d=>J5 d.1.1 d.1.2.1 d.1.2.2.1
theorem B6s:RunP true G39 aLn Try.f27 A5W A8r B1x:=by
 rintro ⟨⟨a0,⟨a1,⟨a2,_⟩⟩⟩,_⟩ hp
 change J5 a0 a1 a2=true at hp
 unfold J5 at hp
 refine Eq.trans (b:=(let z1:=P7 ((a2.length:Int)==(0:Int));cond (a0==(1:Int)) (cond (B0z a1) (cond (A9w a2) (some (P7 (B1F a2))) none) (some (P7 false))) (cond (a0==(2:Int)) (cond (B0z a1) (some z1) (some (P7 false))) (cond (a0==(3:Int)) (cond (B0z a1) (some z1) (some (P7 false))) (some (P7 false)))))) (by kernel_rfl) ?_
 exact (L4 P7 (fun _h=>(L4 P7 (fun _h=>(cndT (by first | rfl | decide | exact hp | (simp only [Bool.and_eq_true] at hp;simp only [hp];done) | (simp [*];done) | (simp [okL] at hp;simp [okL,MAXB];omega) | (simp_all;done) | (simp at *;omega)) (fun _h=>rfl))) (fun _h=>rfl))) (fun _h=>(L4 P7 (fun _h=>(L4 P7 (fun _h=>rfl) (fun _h=>rfl))) (fun _h=>(L4 P7 (fun _h=>(L4 P7 (fun _h=>rfl) (fun _h=>rfl))) (fun _h=>rfl))))))
theorem B7X:aPP 27 (sumOf A5W A8r B1x):=pcD true G39 hlz B6s
noncomputable def S40:Tab:=Tab.add S39 27 (lift (sumOf A5W A8r B1x))
noncomputable def C0k:FuncId→Bool:=qadd C0j 27
theorem G40:aPG S40 C0k:=G39.addQ B7X (cbl Try.f27) (fun _=>rfl)

abbrev B8U:List Sh:=.junk::.junk::.junk::.junk::.junk::.junk::B9C
abbrev u23:=((),(),(),(),u19)
abbrev A0M:SS:=⟨[.nil,tI],[]⟩
abbrev H4:SS:=⟨(.all 0 1::tI::B8U),[.rows 5 true (.int .u8)]⟩
abbrev A0G:SS:=⟨(.all 0 1::tI::B8U),[.rows 5 true (.int .u8)]⟩
noncomputable def Z3 (x1:Int) (h0:List Int):RT H4.den:=let z1:=ior .i64 (128:Int) (iand .i64 x1 (127:Int));(.br (decide (x1 > (127:Int))) (.br (decide ((h0.length+[IntKind.wrap .u8 z1].length)*1≤MAXB)) (.next (((),Int.fdiv x1 (2 ^ (7)),u23),(h0++[IntKind.wrap .u8 z1],()))) .fail) (.done (.exit 0) A0G (((),x1,u23),(h0,()))))
noncomputable def T9 (x1:Int) (h0:List Int):CT:=(.br (decide (0≤x1∧x1≤1000000000)&&decide (h0.length≤35184372088832)) (.done (.exit 0) A0G (((),((nX x1).2),u23),((h0++(nX x1).1),()))) .fail)
noncomputable abbrev I6:H4.den→RT H4.den:=(fun d=>Z3 d.1.2.1 d.2.1)
noncomputable abbrev A1h (x1:Int) (h0:List Int):H4.den:=(((),x1,u23),(h0,()))
noncomputable def A2Y:Code:=((loopsIn 0 (bodyOf Try.f113)).getD 0 (0,.skip)).2
theorem B0T (x1:Int) (h0:List Int):(T9 x1 h0).val (D:=H4.den)=.fail∨Runs I6 (A1h x1 h0) (T9 x1 h0).val:=by
 cases hc:(decide (0≤x1∧x1≤1000000000)&&decide (h0.length≤35184372088832)) with
 | false=>left;simp only [T9,CT.val,hc,cond_false]
 | true =>
  right
  simp only [T9,CT.val,hc,cond_true]
  simp only [Bool.and_eq_true,decide_eq_true_eq] at hc
  rw [B8r]
  have key:∀ (k:Nat) (x1:Int) (h0:List Int),0≤x1→x1<128 ^ (k+1)→h0.length+k≤70368744177664→Runs I6 (A1h x1 h0) (((.done (.exit 0) A0G (((),((hiF W8 k x1).2),u23),((h0++(hiF W8 k x1).1),()))):CT).val (D:=H4.den)):=by
   intro k
   induction k with
   | zero =>
    intro x h h1 h2 h3
    have e1:decide (x > 127)=false:=decide_eq_false (by simp at h2;omega)
    refine .done (by simp) ?_
    simp only [I6,Z3,RT.val,e1,cond_false,hiF,List.append_nil]
   | succ k ih =>
    intro x h h1 h2 h3
    rw [Int.pow_succ] at h2
    by_cases hx:x > 127
    ·have e1:decide (x > 127)=true:=decide_eq_true hx
     have e2:decide ((h.length+[W8 x].length)*1≤MAXB)=true:=decide_eq_true (by simp [MAXB];omega)
     simp only [W8] at e2
     have:=ih (Int.fdiv x (2 ^ 7)) (h++[W8 x]) (by rw [A65];omega) (by rw [A65];omega) (by simp;omega)
     refine .next (d':=A1h (Int.fdiv x (2 ^ 7)) (h++[W8 x])) ?_ ?_
     ·simp only [I6,Z3,RT.val,e1,e2,cond_true];rfl
     ·have e3:hiF W8 (k+1) x=(W8 x::(hiF W8 k (Int.fdiv x (2 ^ 7))).1,(hiF W8 k (Int.fdiv x (2 ^ 7))).2):=by simp only [hiF,e1,cond_true]
      rw [e3]
      simpa [List.append_assoc] using this
    ·have e1:decide (x > 127)=false:=decide_eq_false hx
     refine .done (by simp) ?_
     simp only [I6,Z3,RT.val,e1,cond_false,hiF,List.append_nil]
  exact key 4 x1 h0 hc.1.1 (by have:=hc.1.2;simp;omega) (by have:=hc.2;omega)
theorem A9y:RdA G40 aLn 0 A2Y H4 0 [] (kepts [] [(0,[0,1])]) (fun d=>(I6 d).opt 0 []):=by
 intro d
 kernel_rfl
noncomputable abbrev A3E:St→Option Tree:=H4.say 0 [] [(0,5,(.int .u8))] (fun d=>T9 d.1.2.1 d.2.1)
theorem B0j:aPL A3E A2Y:=SS.wp2 hlz [(0,5,(.int .u8))] I6 A9y (fun d=>rfl) _ (fun d=>B0T d.1.2.1 d.2.1)
noncomputable def C4 (x1:Int):List Int:=let z1:=if (1000000000:Int)<x1 then (1000000000:Int) else x1;let z2:=nX (if z1 > (0:Int) then z1 else (0:Int));((([]:List Int)++z2.1)++[IntKind.wrap .u8 (z2.2)])
noncomputable abbrev A7w (r:List Int):AV×List AObj×List Nat:=((.all 0 1),[(.rows 5 true (.int .u8) r)],[])
noncomputable abbrev A7A:A0M.den→AV×List AObj×List Nat:=fun d=>A7w (C4 d.1.2.1)
noncomputable abbrev A5F:A0M.den→Bool:=fun d=>true
noncomputable abbrev B2b:Nat→St→Option Tree:=fun b=>match b with | 0=>A3E | _=>fun _=>none
theorem B06:RunM G40 (B2b) Try.f113 A0M A5F A7A:=by
 rintro ⟨⟨_,(x1:Int),_⟩,_⟩ hp
 refine Eq.trans (b:=(let z2:=if (1000000000:Int)<x1 then (1000000000:Int) else x1;let z1:=if z2 > (0:Int) then z2 else (0:Int);let z3:=([]:List Int)++(nX z1).1;cond (decide (0≤z1∧z1≤1000000000)&&decide (([]:List Int).length≤35184372088832)) (cond (decide ((z3.length+[IntKind.wrap .u8 ((nX z1).2)].length)*1≤MAXB)) (some (A7w (z3++[IntKind.wrap .u8 ((nX z1).2)]))) none) none)) (by kernel_rfl) ?_
 exact (cndT (by have h1:=I8 (A17 x1);have h2:=A2p x1;simp only [A17] at h1 h2;simp only [decide_eq_true_eq,Bool.and_eq_true] at *;(try simp only [MAXB,List.length_append,List.length_cons,List.length_nil])<;>omega) (fun _h=>(cndT (by have h1:=I8 (A17 x1);have h2:=A2p x1;simp only [A17] at h1 h2;simp only [decide_eq_true_eq,Bool.and_eq_true] at *;(try simp only [MAXB,List.length_append,List.length_cons,List.length_nil])<;>omega) (fun _h=>rfl))))
noncomputable abbrev A3X:=win winIds (msum A0M A5F A7A)
theorem A7u:aPM 113 A3X:=(mcM G40 (hl1 (i:=0) (by kernel_rfl) B0j) B06).win winIds
noncomputable def S41:Tab:=Tab.add S40 113 (A3X)
noncomputable def C0l:FuncId→Bool:=C0k
theorem G41:aPG S41 C0l:=G40.addM A7u (win_local _) (cbl Try.f113) (by kernel_rfl)
theorem A26 (n:Int):C4 n=A7 (V3 n):=by
 rw [← A9X]
 rfl
theorem A5A (n:Int):(C4 n).length≤5:=by rw [A26];exact L8 _

abbrev A4I:SS:=⟨[.all 0 1,tI],[.rows 5 true (.int .u8)]⟩
abbrev Q6:SS:=⟨(.all 0 1::tI::B8U),[.rows 5 true (.int .u8)]⟩
abbrev A3J:SS:=⟨(.all 0 1::tI::B8U),[.rows 5 true (.int .u8)]⟩
noncomputable def A2B (x1:Int) (h0:List Int):RT Q6.den:=let z1:=ior .i64 (128:Int) (iand .i64 x1 (127:Int));(.br (decide (x1 > (127:Int))) (.br (decide ((h0.length+[IntKind.wrap .u8 z1].length)*1≤MAXB)) (.next (((),Int.fdiv x1 (2 ^ (7)),u23),(h0++[IntKind.wrap .u8 z1],()))) .fail) (.done (.exit 0) A3J (((),x1,u23),(h0,()))))
noncomputable def A1H (x1:Int) (h0:List Int):CT:=(.br (decide (0≤x1∧x1≤1000000000)&&decide (h0.length≤35184372088832)) (.done (.exit 0) A3J (((),((nX x1).2),u23),((h0++(nX x1).1),()))) .fail)
noncomputable abbrev T7:Q6.den→RT Q6.den:=(fun d=>A2B d.1.2.1 d.2.1)
noncomputable abbrev A5c (x1:Int) (h0:List Int):Q6.den:=(((),x1,u23),(h0,()))
noncomputable def A53:Code:=((loopsIn 0 (bodyOf Try.f113)).getD 0 (0,.skip)).2
theorem B4p (x1:Int) (h0:List Int):(A1H x1 h0).val (D:=Q6.den)=.fail∨Runs T7 (A5c x1 h0) (A1H x1 h0).val:=by
 cases hc:(decide (0≤x1∧x1≤1000000000)&&decide (h0.length≤35184372088832)) with
 | false=>left;simp only [A1H,CT.val,hc,cond_false]
 | true =>
  right
  simp only [A1H,CT.val,hc,cond_true]
  simp only [Bool.and_eq_true,decide_eq_true_eq] at hc
  rw [B8r]
  have key:∀ (k:Nat) (x1:Int) (h0:List Int),0≤x1→x1<128 ^ (k+1)→h0.length+k≤70368744177664→Runs T7 (A5c x1 h0) (((.done (.exit 0) A3J (((),((hiF W8 k x1).2),u23),((h0++(hiF W8 k x1).1),()))):CT).val (D:=Q6.den)):=by
   intro k
   induction k with
   | zero =>
    intro x h h1 h2 h3
    have e1:decide (x > 127)=false:=decide_eq_false (by simp at h2;omega)
    refine .done (by simp) ?_
    simp only [T7,A2B,RT.val,e1,cond_false,hiF,List.append_nil]
   | succ k ih =>
    intro x h h1 h2 h3
    rw [Int.pow_succ] at h2
    by_cases hx:x > 127
    ·have e1:decide (x > 127)=true:=decide_eq_true hx
     have e2:decide ((h.length+[W8 x].length)*1≤MAXB)=true:=decide_eq_true (by simp [MAXB];omega)
     simp only [W8] at e2
     have:=ih (Int.fdiv x (2 ^ 7)) (h++[W8 x]) (by rw [A65];omega) (by rw [A65];omega) (by simp;omega)
     refine .next (d':=A5c (Int.fdiv x (2 ^ 7)) (h++[W8 x])) ?_ ?_
     ·simp only [T7,A2B,RT.val,e1,e2,cond_true];rfl
     ·have e3:hiF W8 (k+1) x=(W8 x::(hiF W8 k (Int.fdiv x (2 ^ 7))).1,(hiF W8 k (Int.fdiv x (2 ^ 7))).2):=by simp only [hiF,e1,cond_true]
      rw [e3]
      simpa [List.append_assoc] using this
    ·have e1:decide (x > 127)=false:=decide_eq_false hx
     refine .done (by simp) ?_
     simp only [T7,A2B,RT.val,e1,cond_false,hiF,List.append_nil]
  exact key 4 x1 h0 hc.1.1 (by have:=hc.1.2;simp;omega) (by have:=hc.2;omega)
theorem B2w:RdA G41 aLn 0 A53 Q6 1 [0] (kepts [] [(0,[0,1])]) (fun d=>(T7 d).opt 1 [0]):=by
 intro d
 kernel_rfl
noncomputable abbrev A7W:St→Option Tree:=Q6.say 1 [0] [] (fun d=>A1H d.1.2.1 d.2.1)
theorem B3I:aPL A7W A53:=SS.wp2 hlz [] T7 B2w (fun d=>rfl) _ (fun d=>B4p d.1.2.1 d.2.1)
noncomputable def F0 (x1:Int) (h0:List Int):List Int:=let z1:=if (1000000000:Int)<x1 then (1000000000:Int) else x1;let z2:=nX (if z1 > (0:Int) then z1 else (0:Int));((h0++z2.1)++[IntKind.wrap .u8 (z2.2)])
noncomputable abbrev B20 (r:List Int):AV×List AObj×List Nat:=((.all 0 1),[(.rows 5 true (.int .u8) r)],[0])
noncomputable abbrev B28:A4I.den→AV×List AObj×List Nat:=fun d=>B20 (F0 d.1.2.1 d.2.1)
noncomputable def C9 (x1:Int) (h0:List Int):Bool:=decide (h0.length≤17592186044416)
noncomputable abbrev B0K:A4I.den→Bool:=fun d=>C9 d.1.2.1 d.2.1
noncomputable abbrev B6V:Nat→St→Option Tree:=fun b=>match b with | 0=>A7W | _=>fun _=>none
theorem B5m:RunM G41 (B6V) Try.f113 A4I B0K B28:=by
 rintro ⟨⟨_,(x1:Int),_⟩,⟨(h0:List Int),_⟩⟩ hp
 change C9 x1 h0=true at hp
 unfold C9 at hp
 refine Eq.trans (b:=(let z2:=if (1000000000:Int)<x1 then (1000000000:Int) else x1;let z1:=if z2 > (0:Int) then z2 else (0:Int);cond (decide (0≤z1∧z1≤1000000000)&&decide (h0.length≤35184372088832)) (cond (decide (((h0++(nX z1).1).length+[IntKind.wrap .u8 ((nX z1).2)].length)*1≤MAXB)) (some (B20 ((h0++(nX z1).1)++[IntKind.wrap .u8 ((nX z1).2)]))) none) none)) (by kernel_rfl) ?_
 exact (cndT (by have h1:=I8 (A17 x1);have h2:=A2p x1;simp only [A17] at h1 h2;simp only [C9,decide_eq_true_eq,Bool.and_eq_true] at *;(try simp only [MAXB,List.length_append,List.length_cons,List.length_nil])<;>omega) (fun _h=>(cndT (by have h1:=I8 (A17 x1);have h2:=A2p x1;simp only [A17] at h1 h2;simp only [C9,decide_eq_true_eq,Bool.and_eq_true] at *;(try simp only [MAXB,List.length_append,List.length_cons,List.length_nil])<;>omega) (fun _h=>rfl))))
noncomputable abbrev B3c:=win winIds (msum A4I B0K B28)
theorem B7a:aPM 113 B3c:=(mcM G41 (hl1 (i:=0) (by kernel_rfl) B3I) B5m).win winIds
noncomputable def S42:Tab:=Tab.add S41 113 (orElseS (A3X) (B3c))
noncomputable def C0m:FuncId→Bool:=C0l
theorem G42:aPG S42 C0m:=G41.addM (MContract.orElse A7u B7a) (orElse_local (win_local _) (win_local _)) (cbl Try.f113) (by kernel_rfl)
theorem A1f (n:Int) (b:List Int):F0 n b=b++A7 (V3 n):=by
 rw [← A9X,A7,← List.append_assoc]
 rfl
theorem A0y (b:List Int) (n:Int):(F0 n b).length≤b.length+5:=by
 rw [A1f,List.length_append]
 have:=L8 (V3 n)
 omega

abbrev A3r:SS:=⟨[.all 0 1,.t true .str],[.rows 5 true (.int .u8)]⟩
noncomputable def O0 (x1:ByteArray) (h0:List Int):List Int:=((F0 (x1.size:Int) h0)++strInts x1)
noncomputable abbrev B1p (r:List Int):AV×List AObj×List Nat:=((.all 0 1),[(.rows 5 true (.int .u8) r)],[0])
noncomputable abbrev B1y:A3r.den→AV×List AObj×List Nat:=fun d=>B1p (O0 d.1.2.1 d.2.1)
noncomputable def F2 (x1:ByteArray) (h0:List Int):Bool:=decide (h0.length≤8796093022208)&&okS x1
noncomputable abbrev A9i:A3r.den→Bool:=fun d=>F2 d.1.2.1 d.2.1
theorem B4e:RunM G42 aLn Try.f147 A3r A9i B1y:=by
 rintro ⟨⟨_,(x1:ByteArray),_⟩,⟨(h0:List Int),_⟩⟩ hp
 change F2 x1 h0=true at hp
 unfold F2 at hp
 refine Eq.trans (b:=(let z1:=F0 (x1.size:Int) h0;cond (C9 (x1.size:Int) h0) (cond (decide (z1.length+x1.size≤MAXB)) (some (B1p (z1++strInts x1))) none) none)) (by kernel_rfl) ?_
 exact (cndT (by have h1:=A0y h0 (x1.size:Int);simp only [C9,okS,decide_eq_true_eq,decide_eq_false_iff_not,Bool.and_eq_true] at *;(try simp [MAXB])<;>omega) (fun _h=>(cndT (by have h1:=A0y h0 (x1.size:Int);simp only [C9,okS,decide_eq_true_eq,decide_eq_false_iff_not,Bool.and_eq_true] at *;(try simp [MAXB])<;>omega) (fun _h=>rfl))))
noncomputable abbrev B1I:=win winIds (msum A3r A9i B1y)
theorem B5X:aPM 147 B1I:=(mcM G42 hlz B4e).win winIds
noncomputable def S43:Tab:=Tab.add S42 147 (B1I)
noncomputable def C0n:FuncId→Bool:=C0m
theorem G43:aPG S43 C0n:=G42.addM B5X (win_local _) (cbl Try.f147) (by kernel_rfl)
theorem A6f (b:List Int) (s:ByteArray) (h:okS s=true):O0 s b=b++H9 s:=by
 simp only [okS,decide_eq_true_eq] at h
 simp only [O0,A1f,H9,List.append_assoc]
 rw [K5 (by omega) (by omega)]
theorem A2s (b:List Int) (s:ByteArray) (h:okS s=true):(O0 s b).length≤b.length+5+s.size:=by
 rw [A6f b s h,List.length_append]
 have:=A7b s
 omega

abbrev C05:List Sh:=.junk::B7z
abbrev u30:=((),u29)
noncomputable def A2c (l:Lq1) (i:Nat) (h:List Int):List Int:=let z1:=l.getD i dOp;O0 z1.2.2 (O0 z1.2.1 (F0 z1.1 h))
abbrev A0N:SS:=⟨[.nil,.t false tq2],[]⟩
abbrev H5:SS:=⟨(.all 0 1::.junk::.junk::.junk::.junk::.junk::.junk::.junk::.junk::.junk::.junk::.t false tq2::tI::tI::C05),[.rows 5 true (.int .u8)]⟩
abbrev A0H:SS:=⟨(.all 0 1::B4Z),[.rows 5 true (.int .u8)]⟩
noncomputable def A1q (x11:Lq1) (x12 x13:Int) (h0:List Int):RT H5.den:=let z1:=x11.getD x13.toNat ((0:Int),(bE,bE));let z2:=O0 ((z1.2).1) (F0 (z1.1) h0);(.br (decide (x13<x12)) (.br (decide (0≤x13∧x13<(x11.length:Int))) (.br (C9 (z1.1) h0) (.br (F2 ((z1.2).1) (F0 (z1.1) h0)) (.br (F2 ((z1.2).2) z2) (.next (((),(),(),(),(),(),(),(),(),(),(),x11,x12,IntKind.wrap .i64 (x13+(1:Int)),u16),((O0 ((z1.2).2) z2),()))) .fail) .fail) .fail) .fail) (.done (.exit 0) A0H ((u30),(h0,()))))
noncomputable def U0 (x11:Lq1) (x12 x13:Int) (h0:List Int):CT:=(.br (decide (0≤x13)&&(decide (x12=(x11.length:Int))&&(decide (h0.length≤4194304*(x13.toNat+1))&&D6 x11))) (.done (.exit 0) A0H ((u30),((foldN (A2c x11) (x11.length - x13.toNat) x13.toNat h0),()))) .fail)
noncomputable abbrev A4r {α:Sort _} (f:Lq1→Int→Int→(List Int)→α) (d:H5.den):α:=f d.1.2.2.2.2.2.2.2.2.2.2.2.1 d.1.2.2.2.2.2.2.2.2.2.2.2.2.1 d.1.2.2.2.2.2.2.2.2.2.2.2.2.2.1 d.2.1
noncomputable abbrev K8:H5.den→RT H5.den:=(A4r A1q)
noncomputable abbrev A4y (x11:Lq1) (x12 x13:Int) (h0:List Int):H5.den:=(((),(),(),(),(),(),(),(),(),(),(),x11,x12,x13,u16),(h0,()))
noncomputable def A2Z:Code:=((loopsIn 0 (bodyOf Try.f114)).getD 0 (0,.skip)).2
theorem B0U (x11:Lq1) (x12 x13:Int) (h0:List Int):(U0 x11 x12 x13 h0).val (D:=H5.den)=.fail∨Runs K8 (A4y x11 x12 x13 h0) (U0 x11 x12 x13 h0).val:=by
 cases hc:(decide (0≤x13)&&(decide (x12=(x11.length:Int))&&(decide (h0.length≤4194304*(x13.toNat+1))&&D6 x11))) with
 | false=>left;simp only [U0,CT.val,hc,cond_false]
 | true =>
  right
  simp only [U0,CT.val,hc,cond_true]
  simp only [Bool.and_eq_true,decide_eq_true_eq] at hc
  obtain ⟨i,rfl⟩:=Int.eq_ofNat_of_zero_le hc.1
  obtain ⟨_,e1,hc⟩:=hc
  subst e1
  have hc:=And.intro (show True from trivial) hc
  have hs:=Q0 hc.2.2
  have hb0:=hc.2.1
  simp only [Int.toNat_natCast] at hb0 ⊢
  refine Runs.foldN (step:=K8) (fun j b=>A4y x11 (x11.length:Int) (j:Int) b) (fun i b=>b.length≤4194304*(i+1)) (x11.length) (A2c x11)
   (fin:=fun b=>((.done (.exit 0) A0H ((u30),(b,()))):CT).val) (fun i b hi hb=>?_) (fun i b hi hb=>?_) (x11.length - i) i h0 rfl hb0
  ·obtain ⟨k1,k2⟩:=A3g hc.2.2 i hi
   have l1:=A0y b (x11.getD i dOp).1
   have l2:=A2s (F0 (x11.getD i dOp).1 b) (x11.getD i dOp).2.1 k1
   have l3:=A2s (O0 (x11.getD i dOp).2.1 (F0 (x11.getD i dOp).1 b)) (x11.getD i dOp).2.2 k2
   have m1:=okS_le k1
   have m2:=okS_le k2
   have q1:C9 (x11.getD i dOp).1 b=true:=by simp only [C9,decide_eq_true_eq];omega
   have q2:F2 (x11.getD i dOp).2.1 (F0 (x11.getD i dOp).1 b)=true:=by simp only [F2,k1,Bool.and_true,decide_eq_true_eq];omega
   have q3:F2 (x11.getD i dOp).2.2 (O0 (x11.getD i dOp).2.1 (F0 (x11.getD i dOp).1 b))=true:=by simp only [F2,k2,Bool.and_true,decide_eq_true_eq];omega
   refine ⟨by simp only [A2c];omega,?_⟩
   have h0a:decide ((i:Int)<(x11.length:Int))=true:=decide_eq_true (by omega)
   have h0b:decide (0≤(i:Int)∧(i:Int)<(x11.length:Int))=true:=decide_eq_true (by omega)
   simp only [dOp] at q1 q2 q3
   simp only [K8,A1q,RT.val,h0a,h0b,cond_true,wrapS i (by omega),Int.toNat_natCast,q1,q2,q3]
   rfl
  ·have h1:decide ((i:Int)<(x11.length:Int))=false:=decide_eq_false (by omega)
   exact ⟨by simp only [K8,A1q,RT.val,h1,cond_false];rfl,_,_,_,rfl,by simp⟩
theorem A9z:RdA G43 aLn 0 A2Z H5 0 [] (kepts [] [(0,[0])]) (fun d=>(K8 d).opt 0 []):=by
 intro d
 kernel_rfl
noncomputable abbrev A3F:St→Option Tree:=H5.say 0 [] [] (A4r U0)
theorem B0k:aPL A3F A2Z:=SS.wp2 hlz [] K8 A9z (fun d=>rfl) _ (fun d=>B0U d.1.2.2.2.2.2.2.2.2.2.2.2.1 d.1.2.2.2.2.2.2.2.2.2.2.2.2.1 d.1.2.2.2.2.2.2.2.2.2.2.2.2.2.1 d.2.1)
noncomputable def B4Y (x1:Lq1):List Int:=(foldN (A2c x1) (x1.length - (0:Int).toNat) (0:Int).toNat (C4 (x1.length:Int)))
noncomputable abbrev A7x (r:List Int):AV×List AObj×List Nat:=((.all 0 1),[(.rows 5 true (.int .u8) r)],[])
noncomputable abbrev A7B:A0N.den→AV×List AObj×List Nat:=fun d=>A7x (B4Y d.1.2.1)
noncomputable def A3Z (x1:Lq1):Bool:=D6 x1
noncomputable abbrev A5G:A0N.den→Bool:=fun d=>A3Z d.1.2.1
noncomputable abbrev B2c:Nat→St→Option Tree:=fun b=>match b with | 0=>A3F | _=>fun _=>none
theorem B07:RunM G43 (B2c) Try.f114 A0N A5G A7B:=by
 rintro ⟨⟨_,(x1:Lq1),_⟩,_⟩ hp
 change A3Z x1=true at hp
 unfold A3Z at hp
 refine Eq.trans (b:=(let z1:=C4 (x1.length:Int);cond (decide (0≤(0:Int))&&(decide ((x1.length:Int)=(x1.length:Int))&&(decide (z1.length≤4194304*((0:Int).toNat+1))&&D6 x1))) (some (A7x (foldN (A2c x1) (x1.length - (0:Int).toNat) (0:Int).toNat z1))) none)) (by kernel_rfl) ?_
 exact (cndT (by have h1:=A5A (x1.length:Int);have hs:=Q0 hp;simp only [hp,Bool.and_true,Bool.true_and,Bool.and_eq_true,decide_eq_true_eq]<;>(try simp only [Int.toNat_zero,Int.le_refl,true_and,and_true,eq_self] at h1 ⊢)<;>omega) (fun _h=>rfl))
noncomputable abbrev A3Y:=win winIds (msum A0N A5G A7B)
theorem A7v:aPM 114 A3Y:=(mcM G43 (hl1 (i:=0) (by kernel_rfl) B0k) B07).win winIds
noncomputable def S44:Tab:=Tab.add S43 114 (A3Y)
noncomputable def C0o:FuncId→Bool:=C0n
theorem G44:aPG S44 C0o:=G43.addM A7v (win_local _) (cbl Try.f114) (by kernel_rfl)

abbrev A4J:SS:=⟨[.all 0 1,.t false tq2],[.rows 5 true (.int .u8)]⟩
abbrev Q7:SS:=⟨(.all 0 1::.junk::.junk::.junk::.junk::.junk::.junk::.junk::.junk::.junk::.junk::.t false tq2::tI::tI::C05),[.rows 5 true (.int .u8)]⟩
abbrev A3K:SS:=⟨(.all 0 1::B4Z),[.rows 5 true (.int .u8)]⟩
noncomputable def A5y (x11:Lq1) (x12 x13:Int) (h0:List Int):RT Q7.den:=let z1:=x11.getD x13.toNat ((0:Int),(bE,bE));let z2:=O0 ((z1.2).1) (F0 (z1.1) h0);(.br (decide (x13<x12)) (.br (decide (0≤x13∧x13<(x11.length:Int))) (.br (C9 (z1.1) h0) (.br (F2 ((z1.2).1) (F0 (z1.1) h0)) (.br (F2 ((z1.2).2) z2) (.next (((),(),(),(),(),(),(),(),(),(),(),x11,x12,IntKind.wrap .i64 (x13+(1:Int)),u16),((O0 ((z1.2).2) z2),()))) .fail) .fail) .fail) .fail) (.done (.exit 0) A3K ((u30),(h0,()))))
noncomputable def A1I (x11:Lq1) (x12 x13:Int) (h0:List Int):CT:=(.br (decide (0≤x13)&&(decide (x12=(x11.length:Int))&&(decide (h0.length≤4194304*(x13.toNat+1))&&D6 x11))) (.done (.exit 0) A3K ((u30),((foldN (A2c x11) (x11.length - x13.toNat) x13.toNat h0),()))) .fail)
noncomputable abbrev A8J {α:Sort _} (f:Lq1→Int→Int→(List Int)→α) (d:Q7.den):α:=f d.1.2.2.2.2.2.2.2.2.2.2.2.1 d.1.2.2.2.2.2.2.2.2.2.2.2.2.1 d.1.2.2.2.2.2.2.2.2.2.2.2.2.2.1 d.2.1
noncomputable abbrev Y7:Q7.den→RT Q7.den:=(A8J A5y)
noncomputable abbrev A9g (x11:Lq1) (x12 x13:Int) (h0:List Int):Q7.den:=(((),(),(),(),(),(),(),(),(),(),(),x11,x12,x13,u16),(h0,()))
noncomputable def A54:Code:=((loopsIn 0 (bodyOf Try.f114)).getD 0 (0,.skip)).2
theorem B4q (x11:Lq1) (x12 x13:Int) (h0:List Int):(A1I x11 x12 x13 h0).val (D:=Q7.den)=.fail∨Runs Y7 (A9g x11 x12 x13 h0) (A1I x11 x12 x13 h0).val:=by
 cases hc:(decide (0≤x13)&&(decide (x12=(x11.length:Int))&&(decide (h0.length≤4194304*(x13.toNat+1))&&D6 x11))) with
 | false=>left;simp only [A1I,CT.val,hc,cond_false]
 | true =>
  right
  simp only [A1I,CT.val,hc,cond_true]
  simp only [Bool.and_eq_true,decide_eq_true_eq] at hc
  obtain ⟨i,rfl⟩:=Int.eq_ofNat_of_zero_le hc.1
  obtain ⟨_,e1,hc⟩:=hc
  subst e1
  have hc:=And.intro (show True from trivial) hc
  have hs:=Q0 hc.2.2
  have hb0:=hc.2.1
  simp only [Int.toNat_natCast] at hb0 ⊢
  refine Runs.foldN (step:=Y7) (fun j b=>A9g x11 (x11.length:Int) (j:Int) b) (fun i b=>b.length≤4194304*(i+1)) (x11.length) (A2c x11)
   (fin:=fun b=>((.done (.exit 0) A3K ((u30),(b,()))):CT).val) (fun i b hi hb=>?_) (fun i b hi hb=>?_) (x11.length - i) i h0 rfl hb0
  ·obtain ⟨k1,k2⟩:=A3g hc.2.2 i hi
   have l1:=A0y b (x11.getD i dOp).1
   have l2:=A2s (F0 (x11.getD i dOp).1 b) (x11.getD i dOp).2.1 k1
   have l3:=A2s (O0 (x11.getD i dOp).2.1 (F0 (x11.getD i dOp).1 b)) (x11.getD i dOp).2.2 k2
   have m1:=okS_le k1
   have m2:=okS_le k2
   have q1:C9 (x11.getD i dOp).1 b=true:=by simp only [C9,decide_eq_true_eq];omega
   have q2:F2 (x11.getD i dOp).2.1 (F0 (x11.getD i dOp).1 b)=true:=by simp only [F2,k1,Bool.and_true,decide_eq_true_eq];omega
   have q3:F2 (x11.getD i dOp).2.2 (O0 (x11.getD i dOp).2.1 (F0 (x11.getD i dOp).1 b))=true:=by simp only [F2,k2,Bool.and_true,decide_eq_true_eq];omega
   refine ⟨by simp only [A2c];omega,?_⟩
   have h0a:decide ((i:Int)<(x11.length:Int))=true:=decide_eq_true (by omega)
   have h0b:decide (0≤(i:Int)∧(i:Int)<(x11.length:Int))=true:=decide_eq_true (by omega)
   simp only [dOp] at q1 q2 q3
   simp only [Y7,A5y,RT.val,h0a,h0b,cond_true,wrapS i (by omega),Int.toNat_natCast,q1,q2,q3]
   rfl
  ·have h1:decide ((i:Int)<(x11.length:Int))=false:=decide_eq_false (by omega)
   exact ⟨by simp only [Y7,A5y,RT.val,h1,cond_false];rfl,_,_,_,rfl,by simp⟩
theorem B2x:RdA G44 aLn 0 A54 Q7 1 [0] (kepts [] [(0,[0])]) (fun d=>(Y7 d).opt 1 [0]):=by
 intro d
 kernel_rfl
noncomputable abbrev A7X:St→Option Tree:=Q7.say 1 [0] [] (A8J A1I)
theorem B3J:aPL A7X A54:=SS.wp2 hlz [] Y7 B2x (fun d=>rfl) _ (fun d=>B4q d.1.2.2.2.2.2.2.2.2.2.2.2.1 d.1.2.2.2.2.2.2.2.2.2.2.2.2.1 d.1.2.2.2.2.2.2.2.2.2.2.2.2.2.1 d.2.1)
noncomputable def A46 (x1:Lq1) (h0:List Int):List Int:=(foldN (A2c x1) (x1.length - (0:Int).toNat) (0:Int).toNat (F0 (x1.length:Int) h0))
noncomputable abbrev B21 (r:List Int):AV×List AObj×List Nat:=((.all 0 1),[(.rows 5 true (.int .u8) r)],[0])
noncomputable abbrev B29:A4J.den→AV×List AObj×List Nat:=fun d=>B21 (A46 d.1.2.1 d.2.1)
noncomputable def A2I (x1:Lq1) (h0:List Int):Bool:=decide (h0.length≤1000)&&D6 x1
noncomputable abbrev B0L:A4J.den→Bool:=fun d=>A2I d.1.2.1 d.2.1
noncomputable abbrev B6W:Nat→St→Option Tree:=fun b=>match b with | 0=>A7X | _=>fun _=>none
theorem B5n:RunM G44 (B6W) Try.f114 A4J B0L B29:=by
 rintro ⟨⟨_,(x1:Lq1),_⟩,⟨(h0:List Int),_⟩⟩ hp
 change A2I x1 h0=true at hp
 unfold A2I at hp
 refine Eq.trans (b:=(let z1:=F0 (x1.length:Int) h0;cond (C9 (x1.length:Int) h0) (cond (decide (0≤(0:Int))&&(decide ((x1.length:Int)=(x1.length:Int))&&(decide (z1.length≤4194304*((0:Int).toNat+1))&&D6 x1))) (some (B21 (foldN (A2c x1) (x1.length - (0:Int).toNat) (0:Int).toNat z1))) none) none)) (by kernel_rfl) ?_
 exact (cndT (by obtain ⟨hp1,hp2⟩:=(Bool.and_eq_true _ _).mp hp;have h1:=A0y h0 (x1.length:Int);have hs:=Q0 hp2;simp only [C9,hp2,Bool.and_true,Bool.true_and,Bool.and_eq_true,decide_eq_true_eq] at hp1 ⊢<;>(try simp only [Int.toNat_zero,Int.le_refl,true_and,and_true,eq_self] at h1 ⊢)<;>omega) (fun _h=>(cndT (by obtain ⟨hp1,hp2⟩:=(Bool.and_eq_true _ _).mp hp;have h1:=A0y h0 (x1.length:Int);have hs:=Q0 hp2;simp only [C9,hp2,Bool.and_true,Bool.true_and,Bool.and_eq_true,decide_eq_true_eq] at hp1 ⊢<;>(try simp only [Int.toNat_zero,Int.le_refl,true_and,and_true,eq_self] at h1 ⊢)<;>omega) (fun _h=>rfl))))
noncomputable abbrev B3d:=win winIds (msum A4J B0L B29)
theorem B7b:aPM 114 B3d:=(mcM G44 (hl1 (i:=0) (by kernel_rfl) B3J) B5n).win winIds
noncomputable def S45:Tab:=Tab.add S44 114 (orElseS (A3Y) (B3d))
noncomputable def B8E:FuncId→Bool:=C0o
theorem G45:aPG S45 B8E:=G44.addM (MContract.orElse A7v B7b) (orElse_local (win_local _) (win_local _)) (cbl Try.f114) (by kernel_rfl)
theorem B6g (l:Lq1) (h:List Int) (ho:D6 l=true):A46 l h=h++(A7 (V3 (l.length:Int))++(l.map opB).flatten):=by
 simp only [A46]
 have:=B26 opB dOp l (A2c l) (fun i h hi=>by
  obtain ⟨k1,k2⟩:=A3g ho i hi
  simp only [A2c,A6f _ _ k1,A6f _ _ k2,A1f,opB,List.append_assoc]) l.length 0 (F0 (l.length:Int) h) (by omega)
 rw [A1f,List.drop_zero,List.append_assoc] at this
 rw [← this,A1f]
 rfl


abbrev P5:List PSh:=[.t B4]
noncomputable def D2 (a0:List (Int)):List (Int):=a0
noncomputable abbrev J4 (r:List (Int)):AV×List AObj:=(.all 0 1,[.rows 5 true (.int .u8) r])
noncomputable abbrev A2j:pshsDen P5→AV×List AObj:=fun d=>J4 (D2 d.1)
noncomputable def D1 (a0:List (Int)):Bool:=decide ((([]:List (Int)).length+a0.length)*1≤MAXB)
noncomputable abbrev A09:pshsDen P5→Bool:=fun d=>D1 d.1
theorem A6A (a0:List (Int)) (h0:0<a0.length) (hp:D1 a0=true):runP false Try.prog tt S45 B8E aLn Try.f169 [.t (Ty.sl (.int .u8)).flat B4 a0]=some (J4 a0):=by
 refine Eq.trans (b:=cond (decide (0<a0.length)) (cond (D1 a0) (some (J4 a0)) none) none) (by kernel_rfl) ?_
 rw [decide_eq_true h0,hp];rfl
theorem A6B (A:Option Addr) (c:Nat):runP false Try.prog tt S45 B8E aLn Try.f169 [.raw (.slice A 0 c)]=some (J4 []):=by
 cases A<;>kernel_rfl
theorem A7c:aPP 169 (sumOf P5 A09 A2j):=PContract.split (e:=(.int .u8)) (pre:=D1) (g:=fun a0=>J4 (D2 a0)) (fun l h0 hp=>PCalls.of_run false G45 (fn:=Try.f169) (by kernel_rfl) (L:=fun _ _=>none) (by rw [show loopsIn 0 (bodyOf Try.f169)=[] by kernel_rfl];simp) (A6A l h0 hp) rfl rfl) (fun A c=>PCalls.of_run false G45 (fn:=Try.f169) (by kernel_rfl) (L:=fun _ _=>none) (by rw [show loopsIn 0 (bodyOf Try.f169)=[] by kernel_rfl];simp) (A6B A c) rfl rfl)
noncomputable def S46:Tab:=Tab.add S45 169 (lift (sumOf P5 A09 A2j))
noncomputable def C0p:FuncId→Bool:=B8E
theorem G46:aPG S46 C0p:=G45.add A7c ⟨Try.f169,by kernel_rfl,by kernel_rfl,by kernel_rfl⟩ (by kernel_rfl)

abbrev C1I:List Sh:=.junk::B4Z
abbrev u36:=((),u35)
abbrev C1y:List AV:=.junk::B6h
abbrev A4d:List PSh:=[.t B4]
noncomputable def A2V:Code:=((loopsIn 0 (bodyOf Try.f150)).getD 0 (0,.skip)).2
noncomputable def A2W:Code:=((loopsIn 0 (bodyOf Try.f150)).getD 1 (0,.skip)).2
abbrev Q4:SS:=⟨(.t false B4::.junk::.junk::.all 0 1::B8X),[.rows 5 true (.int .u8)]⟩
abbrev A7e:SS:=⟨(.t false B4::.junk::.junk::.all 0 1::B8X),[.rows 5 true (.int .u8)]⟩
noncomputable def A9N (x0 h0:List Int):RT Q4.den:=(.br ((Int.tmod (IntKind.wrap .i64 ((h0.length:Int)+(8:Int))) (64:Int)) != (0:Int)) (.br (decide ((h0.length+[(0:Int)].length)*1≤MAXB)) (.next ((x0,u35),(h0++[(0:Int)],()))) .fail) (.done (.exit 0) A7e ((x0,u35),(h0,()))))
abbrev A0w:=(List Int)×(List Int)
abbrev V5:=Nat×(List Int)×(List Int)
def A8W:V5:=(99,([]:List Int),([]:List Int))
noncomputable def Y9 (x0 h0:List Int):A0w ⊕ V5:=(cond ((Int.tmod (IntKind.wrap .i64 ((h0.length:Int)+(8:Int))) (64:Int)) != (0:Int)) (cond (decide ((h0.length+[(0:Int)].length)*1≤MAXB)) (.inl (x0,h0++[(0:Int)])) (.inr A8W)) (.inr (0,x0,h0)))
noncomputable def D8 (x0 h0:List Int):V5:=itX (fun v:A0w=>Y9 v.1 v.2) A8W (x0,h0)
noncomputable def A4N (a:V5):CT:=(.br (a.1==0) (.done (.exit 0) A7e ((a.2.1,u35),(a.2.2,()))) .fail)
noncomputable def B4u (x0 h0:List Int):CT:=A4N (D8 x0 h0)
noncomputable abbrev A5o:Q4.den→RT Q4.den:=(fun d=>A9N d.1.1 d.2.1)
noncomputable abbrev A9l (v:A0w):Q4.den:=((v.1,u35),(v.2,()))
theorem B33:(∀ v:A0w,(A9N v.1 v.2).val=relS A9l A4N (Y9 v.1 v.2))∧∀ a:V5,CEnd Q4.den (A4N a):=⟨fun v=>(relB (relB rfl rfl) rfl),fun a=>(cendB aCD cendF)⟩
noncomputable def A85 (x0 h0:List Int):Option (Ex×St):=(cond ((Int.tmod (IntKind.wrap .i64 ((h0.length:Int)+(8:Int))) (64:Int)) != (0:Int)) (cond (decide ((h0.length+[(0:Int)].length)*1≤MAXB)) (some (.normal,(⟨((.t false B4 x0)::.junk::.junk::(.all 0 1)::B8Q),[(.rows 5 true (.int .u8) (h0++[(0:Int)]))],0,[]⟩:St))) none) (some ((.exit 0),(⟨((.t false B4 x0)::.junk::.junk::(.all 0 1)::B8Q),[(.rows 5 true (.int .u8) h0)],0,[]⟩:St))))
theorem B2t:RdA G46 aLn 0 A2V Q4 0 [] (kepts [] [(0,[0,3])]) (fun d=>A85 d.1.1 d.2.1):=by
 intro d
 kernel_rfl
theorem B2I:∀ d:Q4.den,(fun d=>A85 d.1.1 d.2.1) d=(A5o d).opt 0 []:=by
 intro d
 kernel_rfl
noncomputable abbrev A7T:St→Option Tree:=Q4.say 0 [] [] (fun d=>B4u d.1.1 d.2.1)
theorem B3F:aPL A7T A2V:=SS.wp2 hlz [] A5o B2t B2I _ (fun d=>Runs.ofI2 (step:=A5o) A9l B33 rfl (d.1.1,d.2.1))
abbrev Q5:SS:=⟨(.junk::.junk::.junk::.all 0 1::tI::tI::C1I),[.rows 5 true (.int .u8)]⟩
abbrev A7f:SS:=⟨(.junk::.junk::.junk::.all 0 1::B8X),[.rows 5 true (.int .u8)]⟩
noncomputable def A9O (x4 x5:Int) (h0:List Int):RT Q5.den:=let z1:=IntKind.wrap .i64 ((8:Int)*x5);(.br (decide (x5 ≥ (0:Int))) (.br (decide (0≤(IntKind.wrap .u64 z1))) (.br (decide ((h0.length+[IntKind.wrap .u8 (Int.fdiv x4 (2 ^ (min (Int.toNat (IntKind.wrap .u64 z1)) (IntKind.bits .i64))))].length)*1≤MAXB)) (.next (((),(),(),(),x4,IntKind.wrap .i64 (x5 - (1:Int)),u30),(h0++[IntKind.wrap .u8 (Int.fdiv x4 (2 ^ (min (Int.toNat (IntKind.wrap .u64 z1)) (IntKind.bits .i64))))],()))) .fail) .fail) (.done (.exit 2) A7f ((u36),(h0,()))))
abbrev A0x:=(Int)×(Int)×(List Int)
abbrev V6:=Nat×(List Int)
def A4Y:V6:=(99,([]:List Int))
noncomputable def Z0 (x4 x5:Int) (h0:List Int):A0x ⊕ V6:=let z1:=IntKind.wrap .i64 ((8:Int)*x5);(cond (decide (x5 ≥ (0:Int))) (cond (decide (0≤(IntKind.wrap .u64 z1))) (cond (decide ((h0.length+[IntKind.wrap .u8 (Int.fdiv x4 (2 ^ (min (Int.toNat (IntKind.wrap .u64 z1)) (IntKind.bits .i64))))].length)*1≤MAXB)) (.inl (x4,IntKind.wrap .i64 (x5 - (1:Int)),h0++[IntKind.wrap .u8 (Int.fdiv x4 (2 ^ (min (Int.toNat (IntKind.wrap .u64 z1)) (IntKind.bits .i64))))])) (.inr A4Y)) (.inr A4Y)) (.inr (0,h0)))
noncomputable def O1 (x4 x5:Int) (h0:List Int):V6:=itX (fun v:A0x=>Z0 v.1 v.2.1 v.2.2) A4Y (x4,x5,h0)
noncomputable def A4O (a:V6):CT:=(.br (a.1==0) (.done (.exit 2) A7f ((u36),(a.2,()))) .fail)
noncomputable def B4v (x4 x5:Int) (h0:List Int):CT:=A4O (O1 x4 x5 h0)
noncomputable abbrev A5p:Q5.den→RT Q5.den:=(fun d=>A9O d.1.2.2.2.2.1 d.1.2.2.2.2.2.1 d.2.1)
noncomputable abbrev A9m (v:A0x):Q5.den:=(((),(),(),(),v.1,v.2.1,u30),(v.2.2,()))
theorem B34:(∀ v:A0x,(A9O v.1 v.2.1 v.2.2).val=relS A9m A4O (Z0 v.1 v.2.1 v.2.2))∧∀ a:V6,CEnd Q5.den (A4O a):=⟨fun v=>(relB (relB (relB rfl rfl) rfl) rfl),fun a=>(cendB aCD cendF)⟩
noncomputable def A86 (x4 x5:Int) (h0:List Int):Option (Ex×St):=let z1:=IntKind.wrap .i64 ((8:Int)*x5);(cond (decide (x5 ≥ (0:Int))) (cond (decide (0≤(IntKind.wrap .u64 z1))) (cond (decide ((h0.length+[IntKind.wrap .u8 (Int.fdiv x4 (2 ^ (min (Int.toNat (IntKind.wrap .u64 z1)) (IntKind.bits .i64))))].length)*1≤MAXB)) (some (.normal,(⟨(.junk::.junk::.junk::(.all 0 1)::(ti x4)::(ti (IntKind.wrap .i64 (x5 - (1:Int))))::C1y),[(.rows 5 true (.int .u8) (h0++[IntKind.wrap .u8 (Int.fdiv x4 (2 ^ (min (Int.toNat (IntKind.wrap .u64 z1)) (IntKind.bits .i64))))]))],0,[]⟩:St))) none) none) (some ((.exit 2),(⟨(.junk::.junk::.junk::(.all 0 1)::B8Q),[(.rows 5 true (.int .u8) h0)],0,[]⟩:St))))
theorem B2u:RdA G46 aLn 2 A2W Q5 0 [] (kepts [] [(2,[3])]) (fun d=>A86 d.1.2.2.2.2.1 d.1.2.2.2.2.2.1 d.2.1):=by
 intro d
 kernel_rfl
theorem B2J:∀ d:Q5.den,(fun d=>A86 d.1.2.2.2.2.1 d.1.2.2.2.2.2.1 d.2.1) d=(A5p d).opt 0 []:=by
 intro d
 kernel_rfl
noncomputable abbrev A7U:St→Option Tree:=Q5.say 0 [] [] (fun d=>B4v d.1.2.2.2.2.1 d.1.2.2.2.2.2.1 d.2.1)
theorem B3G:aPL A7U A2W:=SS.wp2 hlz [] A5p B2u B2J _ (fun d=>Runs.ofI2 (step:=A5p) A9m B34 rfl (d.1.2.2.2.2.1,d.1.2.2.2.2.2.1,d.2.1))
noncomputable def W9 (a0:List Int):=let z1:=D8 a0 ((D2 a0)++[(128:Int)]);O1 (IntKind.wrap .i64 ((8:Int)*(((z1.2.1).length:Nat):Int))) (7:Int) (z1.2.2)
noncomputable def N9 (a0:List Int):List Int:=((W9 a0).2)
noncomputable abbrev B2Z (r:List Int):AV×List AObj:=((.t true B4 r),[])
noncomputable abbrev A92:pshsDen A4d→AV×List AObj:=fun d=>B2Z (N9 d.1)
noncomputable def Y4 (a0:List Int):Bool:=let z1:=D2 a0;(D1 a0)&&((decide ((z1.length+[(128:Int)].length)*1≤MAXB))&&(((D8 a0 (z1++[(128:Int)])).1==0)&&((W9 a0).1==0)))
noncomputable abbrev A6k:pshsDen A4d→Bool:=fun d=>Y4 d.1
noncomputable abbrev B6T:Nat→St→Option Tree:=fun b=>match b with | 0=>A7T | 2=>A7U | _=>fun _=>none
theorem B5j:RunP true G46 (B6T) Try.f150 A4d A6k A92:=by
 rintro ⟨a0,_⟩ hp
 change Y4 a0=true at hp
 unfold Y4 at hp
 refine Eq.trans (b:=(let z1:=D2 a0;cond (D1 a0) (cond (decide ((z1.length+[(128:Int)].length)*1≤MAXB)) (cond ((D8 a0 (z1++[(128:Int)])).1==0) (cond ((W9 a0).1==0) (some (B2Z ((W9 a0).2))) none) none) none) none)) (by kernel_rfl) ?_
 exact (cndA hp fun hp=>(cndA hp fun hp=>(cndA hp fun hp=>(cndT hp fun _h=>rfl))))
theorem B67:aPP 150 (sumOf A4d A6k A92):=pcD true G46 (by
  rw [show loopsIn 0 (bodyOf Try.f150)=[(0,A2V),(2,A2W)] by kernel_rfl];intro p hp;simp only [List.mem_cons,List.mem_nil_iff,or_false] at hp
  rcases hp with rfl | rfl
  ·exact B3F
  ·exact B3G) B5j
noncomputable def S47:Tab:=Tab.add S46 150 (lift (sumOf A4d A6k A92))
noncomputable def C0q:FuncId→Bool:=qadd C0p 150
theorem G47:aPG S47 C0q:=G46.addQ B67 (cbl Try.f150) (fun _=>rfl)

abbrev A4h:List PSh:=[]
noncomputable def irounds :List Int:=[(1116352408:Int),(1899447441:Int),(3049323471:Int),(3921009573:Int),(961987163:Int),(1508970993:Int),(2453635748:Int),(2870763221:Int),(3624381080:Int),(310598401:Int),(607225278:Int),(1426881987:Int),(1925078388:Int),(2162078206:Int),(2614888103:Int),(3248222580:Int),(3835390401:Int),(4022224774:Int),(264347078:Int),(604807628:Int),(770255983:Int),(1249150122:Int),(1555081692:Int),(1996064986:Int),(2554220882:Int),(2821834349:Int),(2952996808:Int),(3210313671:Int),(3336571891:Int),(3584528711:Int),(113926993:Int),(338241895:Int),(666307205:Int),(773529912:Int),(1294757372:Int),(1396182291:Int),(1695183700:Int),(1986661051:Int),(2177026350:Int),(2456956037:Int),(2730485921:Int),(2820302411:Int),(3259730800:Int),(3345764771:Int),(3516065817:Int),(3600352804:Int),(4094571909:Int),(275423344:Int),(430227734:Int),(506948616:Int),(659060556:Int),(883997877:Int),(958139571:Int),(1322822218:Int),(1537002063:Int),(1747873779:Int),(1955562222:Int),(2024104815:Int),(2227730452:Int),(2361852424:Int),(2428436474:Int),(2756734187:Int),(3204031479:Int),(3329325298:Int)]
noncomputable abbrev B7u (r:List Int):AV×List AObj:=((.ptr 0 0 1 0),[(.rows 176 true (.int .u32) r)])
noncomputable abbrev A96:pshsDen A4h→AV×List AObj:=fun d=>B7u (irounds )
noncomputable abbrev A6o:pshsDen A4h→Bool:=fun d=>true
theorem B5p:RunP true G47 aLn Try.f148 A4h A6o A96:=by
 rintro _ hp
 kernel_rfl
theorem B7d:aPP 148 (sumOf A4h A6o A96):=pcD true G47 hlz B5p
noncomputable def S48:Tab:=Tab.add S47 148 (lift (sumOf A4h A6o A96))
noncomputable def C0r:FuncId→Bool:=C0q
theorem G48:aPG S48 C0r:=G47.add B7d (cbl Try.f148) (by kernel_rfl)

theorem A2E (x:Int):0≤IntKind.wrap .u64 x:=by
 simp only [IntKind.wrap]
 exact Int.emod_nonneg _ (by decide)
abbrev E6:List PSh:=[.t (.int .u32),.t (.int .i64)]
noncomputable def A3 (a0 a1:Int):Int:=(ior .u32 (IntKind.wrap .u32 (a0*2 ^ (min (Int.toNat (iand .u64 (IntKind.wrap .u64 a1) (31:Int))) (IntKind.bits .u32)))) (Int.fdiv a0 (2 ^ (min (Int.toNat (IntKind.wrap .u64 ((32:Int) - (iand .u64 (IntKind.wrap .u64 a1) (31:Int))))) (IntKind.bits .u32)))))
noncomputable abbrev Z8 (r:Int):AV×List AObj:=((.t true (.int .u32) r),[])
noncomputable abbrev O6:pshsDen E6→AV×List AObj:=fun d=>Z8 (A3 d.1 d.2.1)
noncomputable abbrev L9:pshsDen E6→Bool:=fun d=>true
theorem A3n:RunP true G48 aLn Try.f171 E6 L9 O6:=by
 rintro ⟨(a0:Int),⟨(a1:Int),_⟩⟩ hp
 refine Eq.trans (b:=(cond (decide (0≤(iand .u64 (IntKind.wrap .u64 a1) (31:Int)))) (cond (decide (0≤(IntKind.wrap .u64 ((32:Int) - (iand .u64 (IntKind.wrap .u64 a1) (31:Int)))))) (some (Z8 (ior .u32 (IntKind.wrap .u32 (a0*2 ^ (min (Int.toNat (iand .u64 (IntKind.wrap .u64 a1) (31:Int))) (IntKind.bits .u32)))) (Int.fdiv a0 (2 ^ (min (Int.toNat (IntKind.wrap .u64 ((32:Int) - (iand .u64 (IntKind.wrap .u64 a1) (31:Int))))) (IntKind.bits .u32))))))) none) none)) (by kernel_rfl) ?_
 exact (cndT (decide_eq_true (A2E _)) (fun _h=>(cndT (decide_eq_true (A2E _)) (fun _h=>rfl))))
theorem A3N:aPP 171 (sumOf E6 L9 O6):=pcD true G48 hlz A3n
noncomputable def S49:Tab:=Tab.add S48 171 (lift (sumOf E6 L9 O6))
noncomputable def C0s:FuncId→Bool:=qadd C0r 171
theorem G49:aPG S49 C0s:=G48.addQ A3N (cbl Try.f171) (fun _=>rfl)

abbrev B80:List Sh:=.junk::.junk::.junk::.junk::.junk::.junk::.junk::.junk::.junk::.junk::.junk::.junk::.junk::.junk::.junk::.junk::.junk::.junk::.junk::.junk::.junk::.junk::.junk::.junk::.junk::.junk::B8Z
abbrev C1d:List Sh:=.junk::.junk::.junk::.junk::.junk::.junk::.junk::B80
abbrev u82:=((),(),(),(),(),(),(),(),(),(),(),(),(),(),(),(),(),(),(),(),(),u61)
abbrev u93:=((),(),(),(),(),(),(),(),(),(),(),u82)
abbrev B8T:List AV:=.junk::.junk::.junk::.junk::.junk::.junk::.junk::.junk::.junk::.junk::.junk::.junk::.junk::.junk::.junk::.junk::.junk::.junk::.junk::.junk::.junk::.junk::.junk::.junk::.junk::.junk::B8S
abbrev C0Z:List AV:=.junk::.junk::.junk::.junk::.junk::.junk::.junk::B8T
abbrev C1c:List Sh:=.junk::.junk::.junk::.junk::.junk::B80
abbrev u87:=((),(),(),(),(),u82)
abbrev C0Y:List AV:=.junk::.junk::.junk::.junk::.junk::B8T
abbrev A2M:List PSh:=[.t B4]
noncomputable def A11:Code:=((loopsIn 0 (bodyOf Try.f170)).getD 0 (0,.skip)).2
noncomputable def A12:Code:=((loopsIn 0 (bodyOf Try.f170)).getD 1 (0,.skip)).2
abbrev M9:SS:=⟨(.t false B4::.junk::.junk::.ptr 0 0 1 0::.junk::.junk::.junk::.junk::.junk::.junk::tI::B80),[.rows 176 true (.int .u32)]⟩
abbrev A5O:SS:=⟨(.junk::.junk::.junk::.ptr 0 0 1 0::C1d),[.rows 176 true (.int .u32)]⟩
noncomputable def A78 (x0:List Int) (x10:Int) (h0:List Int):RT M9.den:=let z1:=IntKind.wrap .i64 ((4:Int)*x10);let z2:=IntKind.wrap .i64 (z1+(1:Int));let z3:=IntKind.wrap .i64 (z1+(2:Int));let z4:=IntKind.wrap .i64 (z1+(3:Int));(.br (decide (x10<(16:Int))) (.br (decide (0≤z1∧z1<(x0.length:Int))) (.br (decide (0≤z2∧z2<(x0.length:Int))) (.br (decide (0≤z3∧z3<(x0.length:Int))) (.br (decide (0≤z4∧z4<(x0.length:Int))) (.br (decide (0≤x10∧x10<((64:Nat):Int)∧x10<(h0.length:Int))) (.next ((x0,(),(),(),(),(),(),(),(),(),IntKind.wrap .i64 (x10+(1:Int)),u82),(h0.set x10.toNat (ior .u32 (ior .u32 (ior .u32 (IntKind.wrap .u32 ((IntKind.wrap .u32 (x0.getD (z1.toNat) (0:Int)))*2 ^ (24))) (IntKind.wrap .u32 ((IntKind.wrap .u32 (x0.getD (z2.toNat) (0:Int)))*2 ^ (16)))) (IntKind.wrap .u32 ((IntKind.wrap .u32 (x0.getD (z3.toNat) (0:Int)))*2 ^ (8)))) (IntKind.wrap .u32 (x0.getD (z4.toNat) (0:Int)))),()))) .fail) .fail) .fail) .fail) .fail) (.done (.exit 0) A5O ((u93),(h0,()))))
abbrev R8:=(List Int)×(Int)×(List Int)
abbrev R4:=Nat×(List Int)
def U9:R4:=(99,([]:List Int))
noncomputable def P3 (x0:List Int) (x10:Int) (h0:List Int):R8 ⊕ R4:=let z1:=IntKind.wrap .i64 ((4:Int)*x10);let z2:=IntKind.wrap .i64 (z1+(1:Int));let z3:=IntKind.wrap .i64 (z1+(2:Int));let z4:=IntKind.wrap .i64 (z1+(3:Int));(cond (decide (x10<(16:Int))) (cond (decide (0≤z1∧z1<(x0.length:Int))) (cond (decide (0≤z2∧z2<(x0.length:Int))) (cond (decide (0≤z3∧z3<(x0.length:Int))) (cond (decide (0≤z4∧z4<(x0.length:Int))) (cond (decide (0≤x10∧x10<((64:Nat):Int)∧x10<(h0.length:Int))) (.inl (x0,IntKind.wrap .i64 (x10+(1:Int)),h0.set x10.toNat (ior .u32 (ior .u32 (ior .u32 (IntKind.wrap .u32 ((IntKind.wrap .u32 (x0.getD (z1.toNat) (0:Int)))*2 ^ (24))) (IntKind.wrap .u32 ((IntKind.wrap .u32 (x0.getD (z2.toNat) (0:Int)))*2 ^ (16)))) (IntKind.wrap .u32 ((IntKind.wrap .u32 (x0.getD (z3.toNat) (0:Int)))*2 ^ (8)))) (IntKind.wrap .u32 (x0.getD (z4.toNat) (0:Int)))))) (.inr U9)) (.inr U9)) (.inr U9)) (.inr U9)) (.inr U9)) (.inr (0,h0)))
noncomputable def O7 (x0:List Int) (x10:Int) (h0:List Int):R4:=itX (fun v:R8=>P3 v.1 v.2.1 v.2.2) U9 (x0,x10,h0)
noncomputable def A3O (a:R4):CT:=(.br (a.1==0) (.done (.exit 0) A5O ((u93),(a.2,()))) .fail)
noncomputable def B3o (x0:List Int) (x10:Int) (h0:List Int):CT:=A3O (O7 x0 x10 h0)
noncomputable abbrev A31:M9.den→RT M9.den:=(fun d=>A78 d.1.1 d.1.2.2.2.2.2.2.2.2.2.2.1 d.2.1)
noncomputable abbrev A7L (v:R8):M9.den:=((v.1,(),(),(),(),(),(),(),(),(),v.2.1,u82),(v.2.2,()))
theorem B2R:(∀ v:R8,(A78 v.1 v.2.1 v.2.2).val=relS A7L A3O (P3 v.1 v.2.1 v.2.2))∧∀ a:R4,CEnd M9.den (A3O a):=⟨fun v=>by repeat' first | apply relB | rfl,fun a=>(cendB aCD cendF)⟩
noncomputable def A7F (x0:List Int) (x10:Int) (h0:List Int):Option (Ex×St):=let z1:=IntKind.wrap .i64 ((4:Int)*x10);let z2:=IntKind.wrap .i64 (z1+(1:Int));let z3:=IntKind.wrap .i64 (z1+(2:Int));let z4:=IntKind.wrap .i64 (z1+(3:Int));(cond (decide (x10<(16:Int))) (cond (decide (0≤z1∧z1<(x0.length:Int))) (cond (decide (0≤z2∧z2<(x0.length:Int))) (cond (decide (0≤z3∧z3<(x0.length:Int))) (cond (decide (0≤z4∧z4<(x0.length:Int))) (cond (decide (0≤x10∧x10<((64:Nat):Int)∧x10<(h0.length:Int))) (some (.normal,(⟨((.t false B4 x0)::.junk::.junk::(.ptr 0 0 1 0)::.junk::.junk::.junk::.junk::.junk::.junk::(ti (IntKind.wrap .i64 (x10+(1:Int))))::B8T),[(.rows 176 true (.int .u32) (h0.set x10.toNat (ior .u32 (ior .u32 (ior .u32 (IntKind.wrap .u32 ((IntKind.wrap .u32 (x0.getD (z1.toNat) (0:Int)))*2 ^ (24))) (IntKind.wrap .u32 ((IntKind.wrap .u32 (x0.getD (z2.toNat) (0:Int)))*2 ^ (16)))) (IntKind.wrap .u32 ((IntKind.wrap .u32 (x0.getD (z3.toNat) (0:Int)))*2 ^ (8)))) (IntKind.wrap .u32 (x0.getD (z4.toNat) (0:Int))))))],0,[]⟩:St))) none) none) none) none) none) (some ((.exit 0),(⟨(.junk::.junk::.junk::(.ptr 0 0 1 0)::C0Z),[(.rows 176 true (.int .u32) h0)],0,[]⟩:St))))
theorem B1S:RdA G49 aLn 0 A11 M9 0 [] (kepts [] [(0,[3])]) (fun d=>A7F d.1.1 d.1.2.2.2.2.2.2.2.2.2.2.1 d.2.1):=by
 intro d
 kernel_rfl
theorem B1Y:∀ d:M9.den,(fun d=>A7F d.1.1 d.1.2.2.2.2.2.2.2.2.2.2.1 d.2.1) d=(A31 d).opt 0 []:=by
 intro d
 kernel_rfl
noncomputable abbrev A6D:St→Option Tree:=M9.say 0 [] [] (fun d=>B3o d.1.1 d.1.2.2.2.2.2.2.2.2.2.2.1 d.2.1)
theorem B2m:aPL A6D A11:=SS.wp2 hlz [] A31 B1S B1Y _ (fun d=>Runs.ofI2 (step:=A31) A7L B2R rfl (d.1.1,d.1.2.2.2.2.2.2.2.2.2.2.1,d.2.1))
abbrev N0:SS:=⟨(.junk::.junk::.junk::.ptr 0 0 1 0::.junk::tI::C1c),[.rows 176 true (.int .u32)]⟩
abbrev A5P:SS:=⟨(.junk::.junk::.junk::.ptr 0 0 1 0::C1d),[.rows 176 true (.int .u32)]⟩
noncomputable def A3z (x5:Int) (h0:List Int):=A3 (h0.getD ((IntKind.wrap .i64 (x5 - (15:Int))).toNat) (0:Int)) (-7:Int)
noncomputable def A3A (x5:Int) (h0:List Int):=A3 (h0.getD ((IntKind.wrap .i64 (x5 - (15:Int))).toNat) (0:Int)) (-18:Int)
noncomputable def A3B (x5:Int) (h0:List Int):=A3 (h0.getD ((IntKind.wrap .i64 (x5 - (2:Int))).toNat) (0:Int)) (-17:Int)
noncomputable def A3C (x5:Int) (h0:List Int):=A3 (h0.getD ((IntKind.wrap .i64 (x5 - (2:Int))).toNat) (0:Int)) (-19:Int)
noncomputable def A79 (x5:Int) (h0:List Int):RT N0.den:=let z1:=IntKind.wrap .i64 (x5 - (15:Int));let z2:=IntKind.wrap .i64 (x5 - (16:Int));let z3:=IntKind.wrap .i64 (x5 - (2:Int));let z4:=IntKind.wrap .i64 (x5 - (7:Int));(.br (decide (x5<(64:Int))) (.br (decide (0≤z1∧z1<((64:Nat):Int)∧z1<(h0.length:Int))) (.br (decide (0≤z3∧z3<((64:Nat):Int)∧z3<(h0.length:Int))) (.br (decide (0≤z2∧z2<((64:Nat):Int)∧z2<(h0.length:Int))) (.br (decide (0≤z4∧z4<((64:Nat):Int)∧z4<(h0.length:Int))) (.br (decide (0≤x5∧x5<((64:Nat):Int)∧x5<(h0.length:Int))) (.next (((),(),(),(),(),IntKind.wrap .i64 (x5+(1:Int)),u87),(h0.set x5.toNat (IntKind.wrap .u32 ((IntKind.wrap .u32 ((IntKind.wrap .u32 ((h0.getD (z2.toNat) (0:Int))+(ixor .u32 (ixor .u32 (A3z x5 h0) (A3A x5 h0)) (Int.fdiv (h0.getD (z1.toNat) (0:Int)) (2 ^ (3))))))+(h0.getD (z4.toNat) (0:Int))))+(ixor .u32 (ixor .u32 (A3B x5 h0) (A3C x5 h0)) (Int.fdiv (h0.getD (z3.toNat) (0:Int)) (2 ^ (10)))))),()))) .fail) .fail) .fail) .fail) .fail) (.done (.exit 2) A5P ((u93),(h0,()))))
abbrev R9:=(Int)×(List Int)
abbrev R5:=Nat×(List Int)
def V0:R5:=(99,([]:List Int))
noncomputable def P4 (x5:Int) (h0:List Int):R9 ⊕ R5:=let z1:=IntKind.wrap .i64 (x5 - (15:Int));let z2:=IntKind.wrap .i64 (x5 - (16:Int));let z3:=IntKind.wrap .i64 (x5 - (2:Int));let z4:=IntKind.wrap .i64 (x5 - (7:Int));(cond (decide (x5<(64:Int))) (cond (decide (0≤z1∧z1<((64:Nat):Int)∧z1<(h0.length:Int))) (cond (decide (0≤z3∧z3<((64:Nat):Int)∧z3<(h0.length:Int))) (cond (decide (0≤z2∧z2<((64:Nat):Int)∧z2<(h0.length:Int))) (cond (decide (0≤z4∧z4<((64:Nat):Int)∧z4<(h0.length:Int))) (cond (decide (0≤x5∧x5<((64:Nat):Int)∧x5<(h0.length:Int))) (.inl (IntKind.wrap .i64 (x5+(1:Int)),h0.set x5.toNat (IntKind.wrap .u32 ((IntKind.wrap .u32 ((IntKind.wrap .u32 ((h0.getD (z2.toNat) (0:Int))+(ixor .u32 (ixor .u32 (A3z x5 h0) (A3A x5 h0)) (Int.fdiv (h0.getD (z1.toNat) (0:Int)) (2 ^ (3))))))+(h0.getD (z4.toNat) (0:Int))))+(ixor .u32 (ixor .u32 (A3B x5 h0) (A3C x5 h0)) (Int.fdiv (h0.getD (z3.toNat) (0:Int)) (2 ^ (10)))))))) (.inr V0)) (.inr V0)) (.inr V0)) (.inr V0)) (.inr V0)) (.inr (0,h0)))
noncomputable def O8 (x5:Int) (h0:List Int):R5:=itX (fun v:R9=>P4 v.1 v.2) V0 (x5,h0)
noncomputable def A3P (a:R5):CT:=(.br (a.1==0) (.done (.exit 2) A5P ((u93),(a.2,()))) .fail)
noncomputable def B3p (x5:Int) (h0:List Int):CT:=A3P (O8 x5 h0)
noncomputable abbrev A32:N0.den→RT N0.den:=(fun d=>A79 d.1.2.2.2.2.2.1 d.2.1)
noncomputable abbrev A7M (v:R9):N0.den:=(((),(),(),(),(),v.1,u87),(v.2,()))
theorem B2S:(∀ v:R9,(A79 v.1 v.2).val=relS A7M A3P (P4 v.1 v.2))∧∀ a:R5,CEnd N0.den (A3P a):=⟨fun v=>by repeat' first | apply relB | rfl,fun a=>(cendB aCD cendF)⟩
noncomputable def A7G (x5:Int) (h0:List Int):Option (Ex×St):=let z1:=IntKind.wrap .i64 (x5 - (15:Int));let z2:=IntKind.wrap .i64 (x5 - (16:Int));let z3:=IntKind.wrap .i64 (x5 - (2:Int));let z4:=IntKind.wrap .i64 (x5 - (7:Int));(cond (decide (x5<(64:Int))) (cond (decide (0≤z1∧z1<((64:Nat):Int)∧z1<(h0.length:Int))) (cond (decide (0≤z3∧z3<((64:Nat):Int)∧z3<(h0.length:Int))) (cond (decide (0≤z2∧z2<((64:Nat):Int)∧z2<(h0.length:Int))) (cond (decide (0≤z4∧z4<((64:Nat):Int)∧z4<(h0.length:Int))) (cond (decide (0≤x5∧x5<((64:Nat):Int)∧x5<(h0.length:Int))) (some (.normal,(⟨(.junk::.junk::.junk::(.ptr 0 0 1 0)::.junk::(ti (IntKind.wrap .i64 (x5+(1:Int))))::C0Y),[(.rows 176 true (.int .u32) (h0.set x5.toNat (IntKind.wrap .u32 ((IntKind.wrap .u32 ((IntKind.wrap .u32 ((h0.getD (z2.toNat) (0:Int))+(ixor .u32 (ixor .u32 (A3z x5 h0) (A3A x5 h0)) (Int.fdiv (h0.getD (z1.toNat) (0:Int)) (2 ^ (3))))))+(h0.getD (z4.toNat) (0:Int))))+(ixor .u32 (ixor .u32 (A3B x5 h0) (A3C x5 h0)) (Int.fdiv (h0.getD (z3.toNat) (0:Int)) (2 ^ (10))))))))],0,[]⟩:St))) none) none) none) none) none) (some ((.exit 2),(⟨(.junk::.junk::.junk::(.ptr 0 0 1 0)::C0Z),[(.rows 176 true (.int .u32) h0)],0,[]⟩:St))))
theorem B1T:RdA G49 aLn 2 A12 N0 0 [] (kepts [] [(2,[3])]) (fun d=>A7G d.1.2.2.2.2.2.1 d.2.1):=by
 intro d
 kernel_rfl
theorem B1Z:∀ d:N0.den,(fun d=>A7G d.1.2.2.2.2.2.1 d.2.1) d=(A32 d).opt 0 []:=by
 intro d
 kernel_rfl
noncomputable abbrev A6E:St→Option Tree:=N0.say 0 [] [] (fun d=>B3p d.1.2.2.2.2.2.1 d.2.1)
theorem B2n:aPL A6E A12:=SS.wp2 hlz [] A32 B1T B1Z _ (fun d=>Runs.ofI2 (step:=A32) A7M B2S rfl (d.1.2.2.2.2.2.1,d.2.1))
noncomputable def A28 (a0:List Int):List Int:=((O8 (16:Int) ((O7 a0 (0:Int) (List.replicate 64 (0:Int))).2)).2)
noncomputable abbrev B1q (r:List Int):AV×List AObj:=((.ptr 0 0 1 0),[(.rows 176 true (.int .u32) r)])
noncomputable abbrev A8h:pshsDen A2M→AV×List AObj:=fun d=>B1q (A28 d.1)
noncomputable def A0m (a0:List Int):Bool:=let z1:=O7 a0 (0:Int) (List.replicate 64 (0:Int));(z1.1==0)&&((O8 (16:Int) (z1.2)).1==0)
noncomputable abbrev A5g:pshsDen A2M→Bool:=fun d=>A0m d.1
noncomputable abbrev B5N:Nat→St→Option Tree:=fun b=>match b with | 0=>A6D | 2=>A6E | _=>fun _=>none
theorem B4f:RunP true G49 (B5N) Try.f170 A2M A5g A8h:=by
 rintro ⟨a0,_⟩ hp
 change A0m a0=true at hp
 unfold A0m at hp
 refine Eq.trans (b:=(let z1:=O7 a0 (0:Int) (List.replicate 64 (0:Int));let z2:=O8 (16:Int) (z1.2);cond (z1.1==0) (cond (z2.1==0) (some (B1q (z2.2))) none) none)) (by kernel_rfl) ?_
 exact (cndA hp fun hp=>(cndT hp fun _h=>rfl))
theorem B5Y:aPP 170 (sumOf A2M A5g A8h):=pcD true G49 (by
  rw [show loopsIn 0 (bodyOf Try.f170)=[(0,A11),(2,A12)] by kernel_rfl];intro p hp;simp only [List.mem_cons,List.mem_nil_iff,or_false] at hp
  rcases hp with rfl | rfl
  ·exact B2m
  ·exact B2n) B4f
noncomputable def S50:Tab:=Tab.add S49 170 (lift (sumOf A2M A5g A8h))
noncomputable def C0t:FuncId→Bool:=C0s
theorem G50:aPG S50 C0t:=G49.add B5Y (cbl Try.f170) (by kernel_rfl)

abbrev B9l:List Sh:=.junk::.junk::.junk::.junk::B8p
abbrev B9m:List Sh:=.junk::.junk::.junk::.junk::.junk::.junk::.junk::.junk::.junk::.junk::.junk::.junk::.junk::.junk::.junk::B9l
abbrev B9a:=((),(),(),(),(),(),(),(),(),(),(),(),(),(),(),(),(),(),(),(),(),(),(),B4l)
abbrev B9h:List AV:=.junk::.junk::.junk::.junk::B8o
abbrev B9i:List AV:=.junk::.junk::.junk::.junk::.junk::.junk::.junk::.junk::.junk::.junk::.junk::.junk::.junk::.junk::.junk::B9h
abbrev C02:List Sh:=.junk::.junk::.junk::.junk::.junk::.junk::.junk::B9m
abbrev u15:=((),u14)
abbrev C1x:List AV:=.junk::.junk::.junk::.junk::.junk::.junk::.junk::.junk::.junk::.junk::.junk::.junk::.junk::.junk::[]
abbrev C0P:List AV:=.junk::.junk::.junk::.junk::.junk::.junk::.junk::B9i
abbrev A1t:SS:=⟨[.ptr 0 0 1 0,.t false B4,.ptr 1 0 1 0],[.rows 158 true (.int .u32),.rows 176 true (.int .u32)]⟩
noncomputable def A0S:Code:=((loopsIn 0 (bodyOf Try.f151)).getD 0 (0,.skip)).2
noncomputable def A0T:Code:=((loopsIn 0 (bodyOf Try.f151)).getD 1 (0,.skip)).2
abbrev F7:SS:=⟨(.ptr 0 0 1 0::.junk::.ptr 1 0 1 0::.junk::.junk::.junk::.ptr 2 0 1 0::.ptr 3 0 1 0::.junk::.junk::.junk::.junk::.junk::.junk::.junk::.junk::.junk::.junk::.junk::.junk::.junk::.junk::tI::B9l),[.rows 158 true (.int .u32),.rows 176 true (.int .u32),.rows 176 true (.int .u32),.rows 158 true (.int .u32)]⟩
abbrev A37:SS:=⟨(.ptr 0 0 1 0::.junk::.junk::.junk::.junk::.junk::.junk::.ptr 2 0 1 0::B9m),[.rows 158 true (.int .u32),.rows 176 true (.int .u32),.rows 158 true (.int .u32)]⟩
noncomputable def A5K (x22:Int) (h0 h1 h2 h3:List Int):RT F7.den:=let z1:=h3.getD ((4:Int).toNat) (0:Int);let z2:=decide (0≤(1:Int)∧(1:Int)<((8:Nat):Int)∧(1:Int)<(h3.length:Int));let z3:=decide (0≤(2:Int)∧(2:Int)<((8:Nat):Int)∧(2:Int)<(h3.length:Int));let z4:=h3.getD ((0:Int).toNat) (0:Int);let z5:=decide (0≤(5:Int)∧(5:Int)<((8:Nat):Int)∧(5:Int)<(h3.length:Int));let z6:=decide (0≤(6:Int)∧(6:Int)<((8:Nat):Int)∧(6:Int)<(h3.length:Int));let z7:=A3 z1 (-11:Int);let z8:=A3 z1 (-25:Int);let z9:=A3 z1 (-6:Int);let z10:=h3.getD ((7:Int).toNat) (0:Int);let z11:=h3.getD ((5:Int).toNat) (0:Int);let z12:=h3.getD ((6:Int).toNat) (0:Int);let z13:=h3.getD ((1:Int).toNat) (0:Int);let z14:=h3.getD ((2:Int).toNat) (0:Int);let z15:=h1.getD x22.toNat (0:Int);let z16:=h2.getD x22.toNat (0:Int);(.br (decide (x22<(64:Int))) (.br (decide (0≤(0:Int)∧(0:Int)<((8:Nat):Int)∧(0:Int)<(h3.length:Int))) (.br (decide (0≤(4:Int)∧(4:Int)<((8:Nat):Int)∧(4:Int)<(h3.length:Int))) (.br z5 (.br z6 (.br (decide (0≤(7:Int)∧(7:Int)<((8:Nat):Int)∧(7:Int)<(h3.length:Int))) (.br (decide (0≤x22∧x22<((64:Nat):Int)∧x22<(h1.length:Int))) (.br (decide (0≤x22∧x22<((64:Nat):Int)∧x22<(h2.length:Int))) (.br z2 (.br z3 (.br z2 (.br z3 (.br z2 (.br z3 (.br (decide (0≤(3:Int)∧(3:Int)<((8:Nat):Int)∧(3:Int)<(h3.length:Int))) (.br z5 (.br z6 (.br (decide (h3.length=8)) (.next (((),(),(),(),(),(),(),(),(),(),(),(),(),(),(),(),(),(),(),(),(),(),IntKind.wrap .i64 (x22+(1:Int)),B4l),(h0,h1,h2,[IntKind.wrap .u32 ((IntKind.wrap .u32 ((IntKind.wrap .u32 ((IntKind.wrap .u32 ((IntKind.wrap .u32 ((IntKind.wrap .u32 (z10+(ixor .u32 (ixor .u32 z9 z7) z8)))+(ixor .u32 (iand .u32 z1 z11) (iand .u32 (ixor .u32 (4294967295) z1) z12))))+z15))+z16))+(ixor .u32 (ixor .u32 (A3 z4 (-2:Int)) (A3 z4 (-13:Int))) (A3 z4 (-22:Int)))))+(ixor .u32 (ixor .u32 (iand .u32 z4 z13) (iand .u32 z4 z14)) (iand .u32 z13 z14))),h3.getD ((0:Int).toNat) (0:Int),h3.getD ((1:Int).toNat) (0:Int),h3.getD ((2:Int).toNat) (0:Int),IntKind.wrap .u32 ((h3.getD ((3:Int).toNat) (0:Int))+(IntKind.wrap .u32 ((IntKind.wrap .u32 ((IntKind.wrap .u32 ((IntKind.wrap .u32 (z10+(ixor .u32 (ixor .u32 z9 z7) z8)))+(ixor .u32 (iand .u32 z1 z11) (iand .u32 (ixor .u32 (4294967295) z1) z12))))+z15))+z16))),h3.getD ((4:Int).toNat) (0:Int),h3.getD ((5:Int).toNat) (0:Int),h3.getD ((6:Int).toNat) (0:Int)],()))) .fail) .fail) .fail) .fail) .fail) .fail) .fail) .fail) .fail) .fail) .fail) .fail) .fail) .fail) .fail) .fail) .fail) (.done (.exit 0) A37 ((B9a),(h0,h1,h3,()))))
abbrev L2:=(Int)×(List Int)×(List Int)×(List Int)×(List Int)
abbrev K9:=Nat×(List Int)×(List Int)×(List Int)
def B0:K9:=(99,([]:List Int),([]:List Int),([]:List Int))
noncomputable def I9 (x22:Int) (h0 h1 h2 h3:List Int):L2 ⊕ K9:=let z1:=h3.getD ((4:Int).toNat) (0:Int);let z2:=decide (0≤(1:Int)∧(1:Int)<((8:Nat):Int)∧(1:Int)<(h3.length:Int));let z3:=decide (0≤(2:Int)∧(2:Int)<((8:Nat):Int)∧(2:Int)<(h3.length:Int));let z4:=h3.getD ((0:Int).toNat) (0:Int);let z5:=decide (0≤(5:Int)∧(5:Int)<((8:Nat):Int)∧(5:Int)<(h3.length:Int));let z6:=decide (0≤(6:Int)∧(6:Int)<((8:Nat):Int)∧(6:Int)<(h3.length:Int));let z7:=A3 z1 (-11:Int);let z8:=A3 z1 (-25:Int);let z9:=A3 z1 (-6:Int);let z10:=h3.getD ((7:Int).toNat) (0:Int);let z11:=h3.getD ((5:Int).toNat) (0:Int);let z12:=h3.getD ((6:Int).toNat) (0:Int);let z13:=h3.getD ((1:Int).toNat) (0:Int);let z14:=h3.getD ((2:Int).toNat) (0:Int);let z15:=h1.getD x22.toNat (0:Int);let z16:=h2.getD x22.toNat (0:Int);(cond (decide (x22<(64:Int))) (cond (decide (0≤(0:Int)∧(0:Int)<((8:Nat):Int)∧(0:Int)<(h3.length:Int))) (cond (decide (0≤(4:Int)∧(4:Int)<((8:Nat):Int)∧(4:Int)<(h3.length:Int))) (cond z5 (cond z6 (cond (decide (0≤(7:Int)∧(7:Int)<((8:Nat):Int)∧(7:Int)<(h3.length:Int))) (cond (decide (0≤x22∧x22<((64:Nat):Int)∧x22<(h1.length:Int))) (cond (decide (0≤x22∧x22<((64:Nat):Int)∧x22<(h2.length:Int))) (cond z2 (cond z3 (cond z2 (cond z3 (cond z2 (cond z3 (cond (decide (0≤(3:Int)∧(3:Int)<((8:Nat):Int)∧(3:Int)<(h3.length:Int))) (cond z5 (cond z6 (cond (decide (h3.length=8)) (.inl (IntKind.wrap .i64 (x22+(1:Int)),h0,h1,h2,[IntKind.wrap .u32 ((IntKind.wrap .u32 ((IntKind.wrap .u32 ((IntKind.wrap .u32 ((IntKind.wrap .u32 ((IntKind.wrap .u32 (z10+(ixor .u32 (ixor .u32 z9 z7) z8)))+(ixor .u32 (iand .u32 z1 z11) (iand .u32 (ixor .u32 (4294967295) z1) z12))))+z15))+z16))+(ixor .u32 (ixor .u32 (A3 z4 (-2:Int)) (A3 z4 (-13:Int))) (A3 z4 (-22:Int)))))+(ixor .u32 (ixor .u32 (iand .u32 z4 z13) (iand .u32 z4 z14)) (iand .u32 z13 z14))),h3.getD ((0:Int).toNat) (0:Int),h3.getD ((1:Int).toNat) (0:Int),h3.getD ((2:Int).toNat) (0:Int),IntKind.wrap .u32 ((h3.getD ((3:Int).toNat) (0:Int))+(IntKind.wrap .u32 ((IntKind.wrap .u32 ((IntKind.wrap .u32 ((IntKind.wrap .u32 (z10+(ixor .u32 (ixor .u32 z9 z7) z8)))+(ixor .u32 (iand .u32 z1 z11) (iand .u32 (ixor .u32 (4294967295) z1) z12))))+z15))+z16))),h3.getD ((4:Int).toNat) (0:Int),h3.getD ((5:Int).toNat) (0:Int),h3.getD ((6:Int).toNat) (0:Int)])) (.inr B0)) (.inr B0)) (.inr B0)) (.inr B0)) (.inr B0)) (.inr B0)) (.inr B0)) (.inr B0)) (.inr B0)) (.inr B0)) (.inr B0)) (.inr B0)) (.inr B0)) (.inr B0)) (.inr B0)) (.inr B0)) (.inr B0)) (.inr (0,h0,h1,h3)))
noncomputable def B5 (x22:Int) (h0 h1 h2 h3:List Int):K9:=itX (fun v:L2=>I9 v.1 v.2.1 v.2.2.1 v.2.2.2.1 v.2.2.2.2) B0 (x22,h0,h1,h2,h3)
noncomputable def A18 (a:K9):CT:=(.br (a.1==0) (.done (.exit 0) A37 ((B9a),(a.2.1,a.2.2.1,a.2.2.2,()))) .fail)
noncomputable def B1j (x22:Int) (h0 h1 h2 h3:List Int):CT:=A18 (B5 x22 h0 h1 h2 h3)
noncomputable abbrev A0b {α:Sort _} (f:Int→(List Int)→(List Int)→(List Int)→(List Int)→α) (d:F7.den):α:=f d.1.2.2.2.2.2.2.2.2.2.2.2.2.2.2.2.2.2.2.2.2.2.2.1 d.2.1 d.2.2.1 d.2.2.2.1 d.2.2.2.2.1
noncomputable abbrev A2g:F7.den→RT F7.den:=(A0b A5K)
noncomputable abbrev A5H (v:L2):F7.den:=(((),(),(),(),(),(),(),(),(),(),(),(),(),(),(),(),(),(),(),(),(),(),v.1,B4l),(v.2.1,v.2.2.1,v.2.2.2.1,v.2.2.2.2,()))
theorem B00:(∀ v:L2,(A5K v.1 v.2.1 v.2.2.1 v.2.2.2.1 v.2.2.2.2).val=relS A5H A18 (I9 v.1 v.2.1 v.2.2.1 v.2.2.2.1 v.2.2.2.2))∧∀ a:K9,CEnd F7.den (A18 a):=⟨fun v=>by repeat' first | apply relB | rfl,fun a=>(cendB aCD cendF)⟩
noncomputable def A5B (x22:Int) (h0 h1 h2 h3:List Int):Option (Ex×St):=let z1:=h3.getD ((4:Int).toNat) (0:Int);let z2:=decide (0≤(1:Int)∧(1:Int)<((8:Nat):Int)∧(1:Int)<(h3.length:Int));let z3:=decide (0≤(2:Int)∧(2:Int)<((8:Nat):Int)∧(2:Int)<(h3.length:Int));let z4:=h3.getD ((0:Int).toNat) (0:Int);let z5:=decide (0≤(5:Int)∧(5:Int)<((8:Nat):Int)∧(5:Int)<(h3.length:Int));let z6:=decide (0≤(6:Int)∧(6:Int)<((8:Nat):Int)∧(6:Int)<(h3.length:Int));let z7:=A3 z1 (-11:Int);let z8:=A3 z1 (-25:Int);let z9:=A3 z1 (-6:Int);let z10:=h3.getD ((7:Int).toNat) (0:Int);let z11:=h3.getD ((5:Int).toNat) (0:Int);let z12:=h3.getD ((6:Int).toNat) (0:Int);let z13:=h3.getD ((1:Int).toNat) (0:Int);let z14:=h3.getD ((2:Int).toNat) (0:Int);let z15:=h1.getD x22.toNat (0:Int);let z16:=h2.getD x22.toNat (0:Int);(cond (decide (x22<(64:Int))) (cond (decide (0≤(0:Int)∧(0:Int)<((8:Nat):Int)∧(0:Int)<(h3.length:Int))) (cond (decide (0≤(4:Int)∧(4:Int)<((8:Nat):Int)∧(4:Int)<(h3.length:Int))) (cond z5 (cond z6 (cond (decide (0≤(7:Int)∧(7:Int)<((8:Nat):Int)∧(7:Int)<(h3.length:Int))) (cond (decide (0≤x22∧x22<((64:Nat):Int)∧x22<(h1.length:Int))) (cond (decide (0≤x22∧x22<((64:Nat):Int)∧x22<(h2.length:Int))) (cond z2 (cond z3 (cond z2 (cond z3 (cond z2 (cond z3 (cond (decide (0≤(3:Int)∧(3:Int)<((8:Nat):Int)∧(3:Int)<(h3.length:Int))) (cond z5 (cond z6 (cond (decide (h3.length=8)) (some (.normal,(⟨((.ptr 0 0 1 0)::.junk::(.ptr 1 0 1 0)::.junk::.junk::.junk::(.ptr 2 0 1 0)::(.ptr 3 0 1 0)::.junk::.junk::.junk::.junk::.junk::.junk::.junk::.junk::.junk::.junk::.junk::.junk::.junk::.junk::(ti (IntKind.wrap .i64 (x22+(1:Int))))::B9h),[(.rows 158 true (.int .u32) h0),(.rows 176 true (.int .u32) h1),(.rows 176 true (.int .u32) h2),(.rows 158 true (.int .u32) [IntKind.wrap .u32 ((IntKind.wrap .u32 ((IntKind.wrap .u32 ((IntKind.wrap .u32 ((IntKind.wrap .u32 ((IntKind.wrap .u32 (z10+(ixor .u32 (ixor .u32 z9 z7) z8)))+(ixor .u32 (iand .u32 z1 z11) (iand .u32 (ixor .u32 (4294967295) z1) z12))))+z15))+z16))+(ixor .u32 (ixor .u32 (A3 z4 (-2:Int)) (A3 z4 (-13:Int))) (A3 z4 (-22:Int)))))+(ixor .u32 (ixor .u32 (iand .u32 z4 z13) (iand .u32 z4 z14)) (iand .u32 z13 z14))),h3.getD ((0:Int).toNat) (0:Int),h3.getD ((1:Int).toNat) (0:Int),h3.getD ((2:Int).toNat) (0:Int),IntKind.wrap .u32 ((h3.getD ((3:Int).toNat) (0:Int))+(IntKind.wrap .u32 ((IntKind.wrap .u32 ((IntKind.wrap .u32 ((IntKind.wrap .u32 (z10+(ixor .u32 (ixor .u32 z9 z7) z8)))+(ixor .u32 (iand .u32 z1 z11) (iand .u32 (ixor .u32 (4294967295) z1) z12))))+z15))+z16))),h3.getD ((4:Int).toNat) (0:Int),h3.getD ((5:Int).toNat) (0:Int),h3.getD ((6:Int).toNat) (0:Int)])],2,[]⟩:St))) none) none) none) none) none) none) none) none) none) none) none) none) none) none) none) none) none) (some ((.exit 0),(⟨((.ptr 0 0 1 0)::.junk::.junk::.junk::.junk::.junk::.junk::(.ptr 2 0 1 0)::B9i),[(.rows 158 true (.int .u32) h0),(.rows 176 true (.int .u32) h1),(.rows 158 true (.int .u32) h3)],2,[]⟩:St))))
theorem B0p:RdA G50 aLn 0 A0S F7 2 [] (kepts [] [(0,[0,7])]) (A0b A5B):=by
 intro d
 kernel_rfl
theorem B0s:∀ d:F7.den,(A0b A5B) d=(A2g d).opt 2 []:=by
 intro d
 kernel_rfl
noncomputable abbrev A4B:St→Option Tree:=F7.say 2 [] [] (A0b B1j)
theorem B0X:aPL A4B A0S:=SS.wp2 hlz [] A2g B0p B0s _ (fun d=>Runs.ofI2 (step:=A2g) A5H B00 rfl (d.1.2.2.2.2.2.2.2.2.2.2.2.2.2.2.2.2.2.2.2.2.2.2.1,d.2.1,d.2.2.1,d.2.2.2.1,d.2.2.2.2.1))
abbrev F8:SS:=⟨(.ptr 0 0 1 0::.junk::.junk::.junk::.junk::.junk::.junk::.ptr 2 0 1 0::.junk::.junk::.junk::.junk::.junk::.junk::.junk::.junk::.junk::.junk::.junk::.junk::.junk::.junk::.junk::.junk::.junk::.junk::.junk::.junk::.junk::.junk::.junk::.junk::.junk::.junk::.junk::.junk::.junk::.junk::.junk::.junk::.junk::.junk::.junk::.junk::.junk::.junk::.junk::.junk::.junk::.junk::.junk::.junk::.junk::.junk::.junk::.junk::.junk::.junk::.junk::.junk::.junk::.junk::.junk::.junk::.junk::.junk::.junk::.junk::.junk::.junk::.junk::.junk::.junk::.junk::.junk::.junk::.junk::.junk::.junk::.junk::.junk::.junk::.junk::.junk::.junk::.junk::.junk::.junk::.junk::.junk::.junk::.junk::.junk::.junk::.junk::.junk::.junk::.junk::.junk::.junk::.junk::.junk::.junk::.junk::.junk::.junk::.junk::.junk::.junk::tI::B7z),[.rows 158 true (.int .u32),.rows 176 true (.int .u32),.rows 158 true (.int .u32)]⟩
abbrev A38:SS:=⟨(.junk::C02),[.rows 158 true (.int .u32),.rows 176 true (.int .u32)]⟩
noncomputable def A5L (x109:Int) (h0 h1 h2:List Int):RT F8.den:=let z1:=decide (0≤x109∧x109<((8:Nat):Int)∧x109<(h0.length:Int));(.br (decide (x109<(8:Int))) (.br z1 (.br (decide (0≤x109∧x109<((8:Nat):Int)∧x109<(h2.length:Int))) (.br z1 (.next (((),(),(),(),(),(),(),(),(),(),(),(),(),(),(),(),(),(),(),(),(),(),(),(),(),(),(),(),(),(),(),(),(),(),(),(),(),(),(),(),(),(),(),(),(),(),(),(),(),(),(),(),(),(),(),(),(),(),(),(),(),(),(),(),(),(),(),(),(),(),(),(),(),(),(),(),(),(),(),(),(),(),(),(),(),(),(),(),(),(),(),(),(),(),(),(),(),(),(),(),(),(),(),(),(),(),(),(),(),IntKind.wrap .i64 (x109+(1:Int)),u15),(h0.set x109.toNat (IntKind.wrap .u32 ((h0.getD x109.toNat (0:Int))+(h2.getD x109.toNat (0:Int)))),h1,h2,()))) .fail) .fail) .fail) (.done (.exit 2) A38 ((B9a),(h0,h1,()))))
abbrev L3:=(Int)×(List Int)×(List Int)×(List Int)
abbrev L0:=Nat×(List Int)×(List Int)
def A0d:L0:=(99,([]:List Int),([]:List Int))
noncomputable def J0 (x109:Int) (h0 h1 h2:List Int):L3 ⊕ L0:=let z1:=decide (0≤x109∧x109<((8:Nat):Int)∧x109<(h0.length:Int));(cond (decide (x109<(8:Int))) (cond z1 (cond (decide (0≤x109∧x109<((8:Nat):Int)∧x109<(h2.length:Int))) (cond z1 (.inl (IntKind.wrap .i64 (x109+(1:Int)),h0.set x109.toNat (IntKind.wrap .u32 ((h0.getD x109.toNat (0:Int))+(h2.getD x109.toNat (0:Int)))),h1,h2)) (.inr A0d)) (.inr A0d)) (.inr A0d)) (.inr (0,h0,h1)))
noncomputable def D7 (x109:Int) (h0 h1 h2:List Int):L0:=itX (fun v:L3=>J0 v.1 v.2.1 v.2.2.1 v.2.2.2) A0d (x109,h0,h1,h2)
noncomputable def A19 (a:L0):CT:=(.br (a.1==0) (.done (.exit 2) A38 ((B9a),(a.2.1,a.2.2,()))) .fail)
noncomputable def B1k (x109:Int) (h0 h1 h2:List Int):CT:=A19 (D7 x109 h0 h1 h2)
noncomputable abbrev A0c {α:Sort _} (f:Int→(List Int)→(List Int)→(List Int)→α) (d:F8.den):α:=f d.1.2.2.2.2.2.2.2.2.2.2.2.2.2.2.2.2.2.2.2.2.2.2.2.2.2.2.2.2.2.2.2.2.2.2.2.2.2.2.2.2.2.2.2.2.2.2.2.2.2.2.2.2.2.2.2.2.2.2.2.2.2.2.2.2.2.2.2.2.2.2.2.2.2.2.2.2.2.2.2.2.2.2.2.2.2.2.2.2.2.2.2.2.2.2.2.2.2.2.2.2.2.2.2.2.2.2.2.2.2.1 d.2.1 d.2.2.1 d.2.2.2.1
noncomputable abbrev A2h:F8.den→RT F8.den:=(A0c A5L)
noncomputable abbrev A5I (v:L3):F8.den:=(((),(),(),(),(),(),(),(),(),(),(),(),(),(),(),(),(),(),(),(),(),(),(),(),(),(),(),(),(),(),(),(),(),(),(),(),(),(),(),(),(),(),(),(),(),(),(),(),(),(),(),(),(),(),(),(),(),(),(),(),(),(),(),(),(),(),(),(),(),(),(),(),(),(),(),(),(),(),(),(),(),(),(),(),(),(),(),(),(),(),(),(),(),(),(),(),(),(),(),(),(),(),(),(),(),(),(),(),(),v.1,u15),(v.2.1,v.2.2.1,v.2.2.2,()))
theorem B01:(∀ v:L3,(A5L v.1 v.2.1 v.2.2.1 v.2.2.2).val=relS A5I A19 (J0 v.1 v.2.1 v.2.2.1 v.2.2.2))∧∀ a:L0,CEnd F8.den (A19 a):=⟨fun v=>(relB (relB (relB (relB rfl rfl) rfl) rfl) rfl),fun a=>(cendB aCD cendF)⟩
noncomputable def A5C (x109:Int) (h0 h1 h2:List Int):Option (Ex×St):=let z1:=decide (0≤x109∧x109<((8:Nat):Int)∧x109<(h0.length:Int));(cond (decide (x109<(8:Int))) (cond z1 (cond (decide (0≤x109∧x109<((8:Nat):Int)∧x109<(h2.length:Int))) (cond z1 (some (.normal,(⟨((.ptr 0 0 1 0)::.junk::.junk::.junk::.junk::.junk::.junk::(.ptr 2 0 1 0)::.junk::.junk::.junk::.junk::.junk::.junk::.junk::.junk::.junk::.junk::.junk::.junk::.junk::.junk::.junk::.junk::.junk::.junk::.junk::.junk::.junk::.junk::.junk::.junk::.junk::.junk::.junk::.junk::.junk::.junk::.junk::.junk::.junk::.junk::.junk::.junk::.junk::.junk::.junk::.junk::.junk::.junk::.junk::.junk::.junk::.junk::.junk::.junk::.junk::.junk::.junk::.junk::.junk::.junk::.junk::.junk::.junk::.junk::.junk::.junk::.junk::.junk::.junk::.junk::.junk::.junk::.junk::.junk::.junk::.junk::.junk::.junk::.junk::.junk::.junk::.junk::.junk::.junk::.junk::.junk::.junk::.junk::.junk::.junk::.junk::.junk::.junk::.junk::.junk::.junk::.junk::.junk::.junk::.junk::.junk::.junk::.junk::.junk::.junk::.junk::.junk::(ti (IntKind.wrap .i64 (x109+(1:Int))))::C1x),[(.rows 158 true (.int .u32) (h0.set x109.toNat (IntKind.wrap .u32 ((h0.getD x109.toNat (0:Int))+(h2.getD x109.toNat (0:Int)))))),(.rows 176 true (.int .u32) h1),(.rows 158 true (.int .u32) h2)],2,[]⟩:St))) none) none) none) (some ((.exit 2),(⟨(.junk::C0P),[(.rows 158 true (.int .u32) h0),(.rows 176 true (.int .u32) h1)],2,[]⟩:St))))
theorem B0q:RdA G50 aLn 2 A0T F8 2 [] (kepts [] [(2,[])]) (A0c A5C):=by
 intro d
 kernel_rfl
theorem B0t:∀ d:F8.den,(A0c A5C) d=(A2h d).opt 2 []:=by
 intro d
 kernel_rfl
noncomputable abbrev A4C:St→Option Tree:=F8.say 2 [] [] (A0c B1k)
theorem B0Y:aPL A4C A0T:=SS.wp2 hlz [] A2h B0q B0t _ (fun d=>Runs.ofI2 (step:=A2h) A5I B01 rfl (d.1.2.2.2.2.2.2.2.2.2.2.2.2.2.2.2.2.2.2.2.2.2.2.2.2.2.2.2.2.2.2.2.2.2.2.2.2.2.2.2.2.2.2.2.2.2.2.2.2.2.2.2.2.2.2.2.2.2.2.2.2.2.2.2.2.2.2.2.2.2.2.2.2.2.2.2.2.2.2.2.2.2.2.2.2.2.2.2.2.2.2.2.2.2.2.2.2.2.2.2.2.2.2.2.2.2.2.2.2.2.1,d.2.1,d.2.2.1,d.2.2.2.1))
noncomputable def C1 (x1 h0 h1:List Int):=B5 (0:Int) h0 h1 (A28 x1) [h0.getD 0 0,h0.getD 1 0,h0.getD 2 0,h0.getD 3 0,h0.getD 4 0,h0.getD 5 0,h0.getD 6 0,h0.getD 7 0]
noncomputable def A1y (x1 h0 h1:List Int):=let z1:=C1 x1 h0 h1;D7 (0:Int) (z1.2.1) (z1.2.2.1) (z1.2.2.2)
noncomputable def D5 (x1 h0 h1:List Int):(List Int)×List Int:=let z1:=A1y x1 h0 h1;((z1.2.1),(z1.2.2))
noncomputable abbrev A8P (r:(List Int)×List Int):AV×List AObj×List Nat:=((.tup []),[(.rows 158 true (.int .u32) r.1),(.rows 176 true (.int .u32) r.2)],[])
noncomputable abbrev A8Y:A1t.den→AV×List AObj×List Nat:=fun d=>A8P (D5 d.1.2.1 d.2.1 d.2.2.1)
noncomputable def Y5 (x1 h0 h1:List Int):Bool:=(A0m x1)&&((decide (h0.length=8))&&((decide ([(0:Int),(0:Int),(0:Int),(0:Int),(0:Int),(0:Int),(0:Int),(0:Int)].length=8))&&(((C1 x1 h0 h1).1==0)&&((A1y x1 h0 h1).1==0))))
noncomputable abbrev A6p:A1t.den→Bool:=fun d=>Y5 d.1.2.1 d.2.1 d.2.2.1
noncomputable abbrev B3l:Nat→St→Option Tree:=fun b=>match b with | 0=>A4B | 2=>A4C | _=>fun _=>none
theorem B15:RunM G50 (B3l) Try.f151 A1t A6p A8Y:=by
 rintro ⟨⟨_,x1,_,_⟩,⟨h0,h1,_⟩⟩ hp
 change Y5 x1 h0 h1=true at hp
 unfold Y5 at hp
 refine Eq.trans (b:=(let z1:=A1y x1 h0 h1;cond (A0m x1) (cond (decide (h0.length=8)) (cond (decide ([(0:Int),(0:Int),(0:Int),(0:Int),(0:Int),(0:Int),(0:Int),(0:Int)].length=8)) (cond ((C1 x1 h0 h1).1==0) (cond (z1.1==0) (some (A8P ((z1.2.1),(z1.2.2)))) none) none) none) none) none)) (by kernel_rfl) ?_
 exact (cndA hp fun hp=>(cndA hp fun hp=>(cndA hp fun hp=>(cndA hp fun hp=>(cndT hp fun _h=>rfl)))))
noncomputable abbrev A82:=win winIds (msum A1t A6p A8Y)
theorem B3v:aPM 151 A82:=(mcM G50 (by
  rw [show loopsIn 0 (bodyOf Try.f151)=[(0,A0S),(2,A0T)] by kernel_rfl];intro p hp;simp only [List.mem_cons,List.mem_nil_iff,or_false] at hp
  rcases hp with rfl | rfl
  ·exact B0X
  ·exact B0Y) B15).win winIds
noncomputable def S51:Tab:=Tab.add S50 151 (A82)
noncomputable def B3n:FuncId→Bool:=C0t
theorem G51:aPG S51 B3n:=G50.addM B3v (win_local _) (cbl Try.f151) (by kernel_rfl)

theorem Q3 (n:Int) (h1:0≤n) (h2:n<9223372036854775808):IntKind.wrap .i64 n=n:=wrap64 (by omega) h2
theorem B7M (c l:List Int) (hc:c.length=64) (hl:l.length=64):(O7 c 0 l).1=0∧(O7 c 0 l).2.length=64:=by
 refine itX_inv (v:=(c,(0:Int),l)) (fun v:R8=>v.1=c∧(0≤v.2.1∧v.2.1≤16)∧v.2.2.length=64) (fun a:R4=>a.1=0∧a.2.length=64) (fun v:R8=>(16 - v.2.1).toNat) ?_ ⟨rfl,⟨by simp only;omega,by simp only;omega⟩,hl⟩ (by simp only;decide)
 rintro ⟨c', i,m⟩ ⟨h1,h2,h3⟩
 simp only at h1 h2 h3
 subst h1
 by_cases hi:i<16
 ·obtain ⟨m', e, hm⟩ : ∃ m' : List Int, P3 c' i m = .inl (c', i + 1, m') ∧ m'.length = 64 := by
   apply Exists.intro
   constructor
   ·simp only [P3,Q3 (4*i) (by omega) (by omega),Q3 (4*i+1) (by omega) (by omega),Q3 (4*i+2) (by omega) (by omega),Q3 (4*i+3) (by omega) (by omega),Q3 (i+1) (by omega) (by omega),decide_eq_true hi,cond_true]
    rw [decide_eq_true (by omega),decide_eq_true (by omega),decide_eq_true (by omega),decide_eq_true (by omega),decide_eq_true (by omega)]
    rfl
   ·simp only [List.length_set];exact h3
  exact .inl ⟨(c', i+1,m'),e,⟨rfl,by simp only;omega,hm⟩,by simp only;omega⟩
 ·refine .inr ⟨(0,m),?_,rfl,h3⟩
  simp only [P3,decide_eq_false hi,cond_false]
theorem B7N (l:List Int) (hl:l.length=64):(O8 16 l).1=0∧(O8 16 l).2.length=64:=by
 refine itX_inv (v:=((16:Int),l)) (fun v:R9=>(16≤v.1∧v.1≤64)∧v.2.length=64) (fun a:R5=>a.1=0∧a.2.length=64) (fun v:R9=>(64 - v.1).toNat) ?_ ⟨⟨by simp only;omega,by simp only;omega⟩,hl⟩ (by simp only;decide)
 rintro ⟨i,m⟩ ⟨h2,h3⟩
 simp only at h2 h3
 by_cases hi:i<64
 ·obtain ⟨m', e, hm⟩ : ∃ m' : List Int, P4 i m = .inl (i + 1, m') ∧ m'.length = 64 := by
   apply Exists.intro
   constructor
   ·simp only [P4,Q3 (i - 15) (by omega) (by omega),Q3 (i - 2) (by omega) (by omega),Q3 (i - 16) (by omega) (by omega),Q3 (i - 7) (by omega) (by omega),Q3 (i+1) (by omega) (by omega),decide_eq_true hi,cond_true]
    rw [decide_eq_true (by omega),decide_eq_true (by omega),decide_eq_true (by omega),decide_eq_true (by omega),decide_eq_true (by omega)]
    rfl
   ·simp only [List.length_set];exact h3
  exact .inl ⟨(i+1,m'),e,⟨by simp only;omega,hm⟩,by simp only;omega⟩
 ·refine .inr ⟨(0,m),?_,rfl,h3⟩
  simp only [P4,decide_eq_false hi,cond_false]
theorem B8C (c:List Int) (hc:c.length=64):A0m c=true∧(A28 c).length=64:=by
 obtain ⟨a1,a2⟩:=B7M c (List.replicate 64 0) hc (by simp)
 obtain ⟨b1,b2⟩:=B7N _ a2
 exact ⟨by simp only [A0m,a1,b1];rfl,b2⟩
theorem B5K (h k ws v:List Int) (hk:k.length=64) (hw:ws.length=64) (hv:v.length=8):(B5 0 h k ws v).1=0∧(B5 0 h k ws v).2.1=h∧(B5 0 h k ws v).2.2.1=k∧(B5 0 h k ws v).2.2.2.length=8:=by
 refine itX_inv (v:=((0:Int),h,k,ws,v)) (fun x:L2=>(0≤x.1∧x.1≤64)∧x.2.1=h∧x.2.2.1=k∧x.2.2.2.1=ws∧x.2.2.2.2.length=8) (fun a:K9=>a.1=0∧a.2.1=h∧a.2.2.1=k∧a.2.2.2.length=8) (fun x:L2=>(64 - x.1).toNat) ?_ ⟨⟨by simp only;omega,by simp only;omega⟩,rfl,rfl,rfl,hv⟩ (by simp only;decide)
 rintro ⟨i,h', k', ws', v'⟩ ⟨h2,h3,h4,h5,h6⟩
 simp only at h2 h3 h4 h5 h6
 subst h3;subst h4;subst h5
 by_cases hi:i<64
 ·obtain ⟨m', e, hm⟩ : ∃ m' : List Int, I9 i h' k' ws' v' = .inl (i + 1, h', k', ws', m') ∧ m'.length = 8 := by
   apply Exists.intro
   constructor
   ·simp only [I9,Q3 (i+1) (by omega) (by omega),decide_eq_true hi,cond_true,h6,hk,hw]
    rw [show decide (0≤i∧i<((64:Nat):Int)∧i<((64:Nat):Int))=true from decide_eq_true (by omega)]
    rfl
   ·rfl
  exact .inl ⟨(i+1,h', k', ws', m'),e,⟨by simp only;omega,rfl,rfl,rfl,hm⟩,by simp only;omega⟩
 ·refine .inr ⟨(0,h', k', v'),?_,rfl,rfl,rfl,h6⟩
  simp only [I9,decide_eq_false hi,cond_false]
theorem B8B (h k v:List Int) (hh:h.length=8) (hv:v.length=8):(D7 0 h k v).1=0∧(D7 0 h k v).2.1.length=8∧(D7 0 h k v).2.2=k:=by
 refine itX_inv (v:=((0:Int),h,k,v)) (fun x:L3=>(0≤x.1∧x.1≤8)∧x.2.1.length=8∧x.2.2.1=k∧x.2.2.2.length=8) (fun a:L0=>a.1=0∧a.2.1.length=8∧a.2.2=k) (fun x:L3=>(8 - x.1).toNat) ?_ ⟨⟨by simp only;omega,by simp only;omega⟩,hh,rfl,hv⟩ (by simp only;decide)
 rintro ⟨i,h', k', v'⟩ ⟨h2,h3,h4,h6⟩
 simp only at h2 h3 h4 h6
 subst h4
 by_cases hi:i<8
 ·obtain ⟨m', e, hm⟩ : ∃ m' : List Int, J0 i h' k' v' = .inl (i + 1, m', k', v') ∧ m'.length = 8 := by
   apply Exists.intro
   constructor
   ·simp only [J0,Q3 (i+1) (by omega) (by omega),decide_eq_true hi,cond_true,h6,h3]
    rw [show decide (0≤i∧i<((8:Nat):Int)∧i<((8:Nat):Int))=true from decide_eq_true (by omega)]
    rfl
   ·simp only [List.length_set];exact h3
  exact .inl ⟨(i+1,m', k', v'),e,⟨by simp only;omega,hm,rfl,h6⟩,by simp only;omega⟩
 ·refine .inr ⟨(0,h', k'),?_,rfl,h3,rfl⟩
  simp only [J0,decide_eq_false hi,cond_false]
theorem B1f (c h:List Int) (hc:c.length=64) (hh:h.length=8):Y5 c h irounds=true∧(D5 c h irounds).1.length=8∧(D5 c h irounds).2=irounds:=by
 obtain ⟨q,hw⟩:=B8C c hc
 obtain ⟨a1,a2,a3,a4⟩:=B5K h irounds (A28 c) [h.getD 0 0,h.getD 1 0,h.getD 2 0,h.getD 3 0,h.getD 4 0,h.getD 5 0,h.getD 6 0,h.getD 7 0] rfl hw rfl
 have e:C1 c h irounds=B5 0 h irounds (A28 c) [h.getD 0 0,h.getD 1 0,h.getD 2 0,h.getD 3 0,h.getD 4 0,h.getD 5 0,h.getD 6 0,h.getD 7 0]:=rfl
 rw [← e] at a1 a2 a3 a4
 obtain ⟨b1,b2,b3⟩:=B8B (C1 c h irounds).2.1 (C1 c h irounds).2.2.1 (C1 c h irounds).2.2.2 (by rw [a2];exact hh) a4
 refine ⟨?_,b2,b3.trans a3⟩
 have e2:(A1y c h irounds).1=0:=b1
 simp only [Y5,q,a1,e2,decide_eq_true hh,Bool.true_and,beq_self_eq_true,Bool.and_true]
 rfl
attribute [local go_sem] Oper.semAt_some
noncomputable def cupto {m:Nat} (k:Nat) (hk:k≤m):List (Fin m):=(List.range k).attach.map fun i=>⟨i.1,by have:=List.mem_range.1 i.2;omega⟩
theorem A0U {m:Nat} (k:Nat) (hk:k≤m):(cupto k hk).length=k:=by simp [cupto]
theorem B54 {m:Nat} (k:Nat) (hk:k+1≤m):cupto (k+1) hk=cupto k (by omega)++[(⟨k,by omega⟩:Fin m)]:=by
 apply List.ext_getElem
 ·simp [A0U]
 ·intro i h1 h2
  simp only [A0U] at h1
  rcases Nat.lt_or_ge i k with h | h
  ·rw [List.getElem_append_left (by rw [A0U];exact h)];simp [cupto]
  ·have e:i=k:=by omega
   subst e
   rw [List.getElem_append_right (by rw [A0U];omega)];simp [cupto]
set_option maxRecDepth 100000 in
set_option maxHeartbeats 2000000 in
theorem B78 (F:Fence) (n:Nat) (h168:F.fn 168) (hro:F.round=none) (hn:1≤n) (l Bs Bn m cap:Nat) (ad:Addr) (hcap:64*m≤cap) (hm:m≤1000000000000) (J Jx:List (Fin m)→World→Prop)
  (hY:∀ pre x W,J pre W→pre.length<m→YieldAt F (n - 1) Try.prog l #[.slice (some (ad.add (64*x.1))) 64 64] W fun e W' =>
   (e=.returned (.bool true)∧J (pre++[x]) W'∧(W'.cell? ⟨Bs,0,none⟩=W.cell? ⟨Bs,0,none⟩∧W'.cell? ⟨Bn,0,none⟩=W.cell? ⟨Bn,0,none⟩))∨(e=.returned (.bool false)∧Jx (pre++[x]) W'))
  (W:World) (hJ:AbidesFrom W.heap.size J) (hBs:W.cell? ⟨Bs,0,none⟩=some (.slice (some ad) (64*m) cap)) (hBn:W.cell? ⟨Bn,0,none⟩=some (.int .i64 64)) (h0:J [] W) :
  CallsIn F n Try.prog 168 #[.func (.yield l) #[] #[],.pointer (some ⟨Bs,0,none⟩),.pointer (some ⟨Bn,0,none⟩)] W fun e W'=>(∃ v,e=.returned v) ∧
   ((∃ xs,xs=cupto (m:=m) m (Nat.le_refl _)∧J xs W')∨(∃ pre,True∧Jx pre W')):=by
 refine callsIn_of_wp Try.func168 rfl h168 ?_ hro
 simp only [Try.ntmps168,List.size_toArray,List.length_cons,List.length_nil,Nat.reduceAdd,Nat.reduceSub,Array.replicate_succ,Array.replicate_zero,List.push_toArray,List.append_toArray,List.nil_append,List.cons_append]
 gi_wp2
 gi_loopw [4] (fun i wr=>∃ k:Nat,∃ hk:k≤m,i=.int .i64 ((64*k:Nat):Int)∧J (cupto k hk) wr∧wr.cell? ⟨Bs,0,none⟩=some (.slice (some ad) (64*m) cap)∧wr.cell? ⟨Bn,0,none⟩=some (.int .i64 64))
  (fun i _=>64*m - (intOf i).toNat)
 case atStart=>exact ⟨0,Nat.zero_le _,rfl,h0,hBs,hBn⟩
 case round =>
  obtain ⟨k,hk,rfl,hJs,hs,hnn⟩:=hrel
  by_cases hlt:k<m
  ·have hc1:((64*k:Nat):Int)<((64*m:Nat):Int):=by omega
   have hc2:(0:Int)≤((64*k:Nat):Int):=by omega
   gi_wp2
   have hc3:((64*k:Nat):Int)≤((64*m:Nat):Int):=by omega
   have hc4:64*k≤64*m:=by omega
   have hc5:¬ cap=64*k:=by omega
   have hmin:¬ ((64*m - 64*k:Nat):Int)<64:=by omega
   have hJ2:J (cupto k hk) wr.drew:=hJ _ _ _ none hJs ⟨rfl,rfl,rfl,Nat.le_refl _,fun _ _ _=>rfl⟩ (fun r e=>by cases e)
   obtain ⟨fn,tmps,assign,body,hy,hR⟩:=hY _ ⟨k,hlt⟩ wr.drew hJ2 (by rw [A0U];exact hlt)
   dsimp only at hy
   have e1:IntKind.wrap .i64 (64*(k:Int)+64)=64*(k:Int)+64:=by rw [wrap64 (by omega) (by omega)]
   have e2:(0:Int)≤64*(k:Int)+64:=by omega
   have e3:64*(k:Int)+64≤(cap:Int):=by omega
   gi_region
   all_goals (rw [if_neg (show ¬ ((64*m - 64*k:Nat):Int)<64 by omega)])
   all_goals (gi_wp2)
   all_goals (
    refine hR.mono ?_
    rintro e W3 (⟨rfl,hJ3,hk1,hk2⟩ | ⟨rfl,hJx3⟩)
    ·gi_wp2
     go_roundw
     case rel=>exact ⟨k+1,by omega,by congr 1,by rw [B54];exact hJ3,hk1.trans hs,hk2.trans hnn⟩
     case measure=>simp [intOf];omega
    ·gi_wp2
     refine bodyPost_ret (results_none rfl _ _ _) rfl ?_
     exact ⟨⟨_,rfl⟩,.inr ⟨_,trivial,hJx3⟩⟩)
  ·obtain rfl:k=m:=by omega
   gi_wp2
   go_end0
   exact ⟨⟨_,rfl⟩,.inl ⟨_,rfl,hJs⟩⟩
theorem B4D (n:Nat) (hn:1≤n) (Bs Bn m cap:Nat) (ad:Addr) (hcap:64*m≤cap) (hm:m≤1000000000000) (w:World) (hBs:w.cell? ⟨Bs,0,none⟩=some (.slice (some ad) (64*m) cap)) (hBn:w.cell? ⟨Bn,0,none⟩=some (.int .i64 64)) (hs:Bs<w.heap.size) (hnn:Bn<w.heap.size) :
  SeqStopsK Fence.wide n Try.prog 168 #[.pointer (some ⟨Bs,0,none⟩),.pointer (some ⟨Bn,0,none⟩)] (fun x:Fin m=>#[Value.slice (some (ad.add (64*x.1))) 64 64]) (fun A B=>B.cell? ⟨Bs,0,none⟩=A.cell? ⟨Bs,0,none⟩∧B.cell? ⟨Bn,0,none⟩=A.cell? ⟨Bn,0,none⟩) (fun xs=>xs=cupto m (Nat.le_refl _)) (fun _=>True) m w :=
 fun l J Jx W hW hJ _ hY h0=>B78 Fence.wide n trivial rfl hn l Bs Bn m cap ad hcap hm J Jx hY W hJ ((hW.cell (p:=⟨Bs,0,none⟩) hs).trans hBs) ((hW.cell (p:=⟨Bn,0,none⟩) hnn).trans hBn) h0

noncomputable def sqL:Code→Code
 | .seq x _=>x
 | c=>c
noncomputable def sqR:Code→Code
 | .seq _ y=>y
 | c=>c
noncomputable def C0H:Code→Code
 | .block _ x=>x
 | c=>c
noncomputable def rfA:Code→Code
 | .rangeFunc _ _ a _=>a
 | c=>c
noncomputable def rfB:Code→Code
 | .rangeFunc _ _ _ b=>b
 | c=>c
noncomputable def B8t:Code→Array Oper
 | .region _ o _=>o
 | _=>#[]
noncomputable def dc0:Code:=sqL (bodyOf Try.f115)
noncomputable def dc1:Code:=sqL (sqR (bodyOf Try.f115))
noncomputable def dc2:Code:=sqL (sqR (sqR (bodyOf Try.f115)))
noncomputable def B4G:Array Oper:=B8t (sqL (sqL (sqR (sqR (sqR (bodyOf Try.f115))))))
noncomputable def drng:Code:=C0H (sqR (sqL (sqR (sqR (sqR (bodyOf Try.f115))))))
noncomputable def dc4:Code:=sqR (sqR (sqR (sqR (bodyOf Try.f115))))
noncomputable def dasg:Array Oper:=B8t (rfA drng)
noncomputable def drb:Array Oper:=B8t (C0H (rfB drng))
theorem B8c:Try.f115.body=some (.seq dc0 (.seq dc1 (.seq dc2 (.seq (.seq (.region 3 B4G false) (.block 0 (.rangeFunc (.tmp 13) #[14] (.region 4 dasg false) (.block 1 (.region 5 drb false))))) dc4)))):=by kernel_rfl

noncomputable def B8l:Summ:=fun args H=>(runM Try.prog tt S51 B3n aLn Try.f149 args H).map fun p=>(p.1,p.2.1,p.2.2,true)
theorem B7y:aPM 149 B8l:=MContract.of_run G51 (fn:=Try.f149) (by kernel_rfl) (L:=fun _ _=>none) (hl0 (L:=fun _ _=>none) (b:=0) (x:=bodyOf Try.f149) (by kernel_rfl)) (fun args H r H' ks h=>by
 obtain ⟨p,h1,h2⟩:=Option.map_eq_some_iff.1 h
 simp only [Prod.mk.injEq] at h2
 obtain ⟨rfl,rfl,rfl,_⟩:=h2
 exact h1)
noncomputable def SC:Tab:=Tab.add S51 149 B8l
theorem C0D:TabOk Try.prog SC:=G51.tab.add B7y (cbl Try.f149)

noncomputable def hinit:List Int:=[1779033703,3144134277,1013904242,2773480762,1359893119,2600822924,528734635,1541459225]
noncomputable def tB (E:TypeId) (fr:Bool) (l:List Int):AObj:=.rows E fr (.int .u32) l
noncomputable def stR (a0:List Int):St:=⟨[.t false B4 a0,.raw undef,.t true .str ⟨#[]⟩,.ptr 0 0 1 0,.ptr 2 0 1 0,.raw undef,.raw undef,.raw undef,.raw undef,.agg (arrAVs .u32 hinit 8),.ptr 1 0 1 0,.t false B4 a0,.t true B4 (N9 a0),.fn 168 [.ptr 3 0 1 0,.ptr 4 0 1 0]]++List.replicate 25 (.raw undef),
 [tB 158 true hinit,tB 176 true irounds,.box [.ptr 1 0 1 0],.box [.t true B4 (N9 a0)],.box [(ti (64:Int):AV)]],0,[]⟩
noncomputable def dK3 (e:Ex) (s:St):Option (Ex×St):=match e with
 | .normal=>execOps Try.prog tt SC B4G B4G.toList s fun s=>some (Ex.normal,s)
 | _=>none
noncomputable def dK2 (e:Ex) (s:St):Option (Ex×St):=match e with
 | .normal=>execC Try.prog tt S51 B3n aLn 0 dc2 s dK3
 | _=>none
noncomputable def dK1 (e:Ex) (s:St):Option (Ex×St):=match e with
 | .normal=>execC Try.prog tt S51 B3n aLn 0 dc1 s dK2
 | _=>none
theorem B8K (a0:List Int):execC Try.prog tt S51 B3n aLn 0 dc0 ⟨startSlots Try.f115 [.t false B4 a0],[],0,[]⟩ dK1=cond (Y4 a0) (some (.normal,stR a0)) none:=by kernel_rfl

noncomputable def stB (c h k:List Int):St:=⟨[.junk,.junk,.junk,.ptr 0 0 1 0,.ptr 2 0 1 0,.t false B4 c]++List.replicate 33 .junk,[tB 158 true h,tB 176 true k,.box [.ptr 1 0 1 0]],3,[]⟩
noncomputable def C1r (c h k:List Int):St:=⟨[.junk,.junk,.junk,.ptr 0 0 1 0,.ptr 2 0 1 0,.t false B4 c]++List.replicate 9 .junk++[.t false B4 c,.ptr 1 0 1 0,.tup []]++List.replicate 21 .junk,[tB 158 true (D5 c h k).1,tB 176 true (D5 c h k).2,.box [.ptr 1 0 1 0]],3,[]⟩
theorem B7t (c h k:List Int):execOps Try.prog tt S51 drb drb.toList (stB c h k) (fun s=>some s)=cond (Y5 c h k) (some (C1r c h k)) none:=by kernel_rfl

noncomputable def E7 (h:List Int):List Int:=h.flatMap fun x=>[IntKind.wrap .u8 (Int.fdiv x (2 ^ (24))),IntKind.wrap .u8 (Int.fdiv x (2 ^ (16))),IntKind.wrap .u8 (Int.fdiv x (2 ^ (8))),IntKind.wrap .u8 x]
noncomputable def A8e (h:List Int):ByteArray:=⟨((E7 h).map fun n=>UInt8.ofNat n.toNat).toArray⟩
noncomputable def B79:Code:=match loopsIn 0 dc4 with
 | p::_=>p.2
 | _=>.skip
noncomputable def dL:Nat→St→Option Tree:=fun b=>match b with
 | 2=>fun st=>(iterD (fun s=>execC Try.prog tt S51 B3n aLn 2 B79 s (fun e s'=>some (e,s'))) (fun s=>s) 9 st).map fun p=>.leaf p.1 p.2
 | _=>fun _=>none
theorem C0J:∀ p∈loopsIn 0 dc4,aPL (dL p.1) p.2:=hl1 (i:=2) (c:=B79) (by kernel_rfl) (LoopWp.iter G51 aLn (hl0 (L:=fun _ _=>none) (b:=2) (x:=B79) (by kernel_rfl)) 9)
noncomputable def stT (h:List Int):St:=⟨[.junk,.junk,.junk,.ptr 0 0 1 0]++List.replicate 35 .junk,[tB 158 true h],1,[]⟩
noncomputable def dKT (e:Ex) (s:St):Option ByteArray:=match e with
 | .ret=>match s.slots with
  | _::_::.t true .str x::_=>some x
  | _=>none
 | _=>none
theorem B8d (x0 x1 x2 x3 x4 x5 x6 x7:Int):execC Try.prog tt S51 B3n dL 0 dc4 (stT [x0,x1,x2,x3,x4,x5,x6,x7]) dKT=some (A8e [x0,x1,x2,x3,x4,x5,x6,x7]):=by kernel_rfl
noncomputable def arrAt (W:World) (b:Nat) (E:TypeId) (l:List Int):Prop:=∃ c:Array Value,W.heap[b]? = some (.cells c E (0,0))∧l.length≤c.size∧0<c.size∧c.size≤maxLen∧∀ (i:Nat) (x:Int),l[i]? = some x→c[i]? = some (.int .u32 x)
theorem arrAt.lt {W:World} {b:Nat} {E:TypeId} {l:List Int} (h:arrAt W b E l):b<W.heap.size:=by
 obtain ⟨c,h1,_⟩:=h
 exact (Array.getElem?_eq_some_iff.1 h1).1
theorem arrAt.keep {W W':World} {b:Nat} {E:TypeId} {l:List Int} (h:arrAt W b E l) (hw:W'.heap[b]? = W.heap[b]?):arrAt W' b E l:=by
 obtain ⟨c,h1,h2⟩:=h
 exact ⟨c,hw.trans h1,h2⟩
theorem arrAt.of {N:Nat→Prop} {w0 W:World} {η:Env} {H:List AObj} (I:Inv N w0 η H W) {id:Nat} {E:TypeId} {fr:Bool} {l:List Int} (ho:H[id]? = some (.rows E fr (.int .u32) l)) (h0:0<l.length):arrAt W (η.ι id) E l:=by
 obtain ⟨hln,R⟩:=I.obj id _ ho
 rcases R with ⟨_,h⟩ | ⟨c,cap,g1,g2,g3,g4,g5,g6⟩
 ·rw [show l=[] from h] at h0;simp at h0
 ·have e:c.size=cap:=by simpa [Ty.cells] using g5
  refine ⟨c,g2,by omega,by omega,by omega,fun i x hx=>?_⟩
  have:=g6 i x hx
  simpa [Lay,Ty.cells] using this
theorem arrAt.obj {W:World} {b:Nat} {E:TypeId} {l:List Int} (h:arrAt W b E l):∃ cap:Nat,∀ (η:Env) (hh id:Nat),η.ι id=b→η.hv id=.slice (some ⟨b,0,none⟩) l.length cap→η.ln id=l.length→ObjR η hh W id (.rows E true (.int .u32) l):=by
 obtain ⟨c,h1,h2,h3,h4,h5⟩:=h
 refine ⟨c.size,fun η hh id e1 e2 e3=>⟨e3,.inr ⟨c,c.size,by rw [e1];exact e2,by rw [e1];exact h1,h2,⟨h3,h4⟩,by simp [Ty.cells],fun i x hx=>?_⟩⟩⟩
 show c[i*1+0]? = some (.int .u32 x)
 rw [Nat.mul_one];exact h5 i x hx
structure DI (w w1:World) (bh bk bx:Nat) (h:List Int) (W:World):Prop where
 fr:Fr (·<w.heap.size) w W
 sz:w1.heap.size≤W.heap.size
 old:∀ b c E f,b ≠ bh→b ≠ bk→b ≠ bx→w1.heap[b]? = some (.cells c E f)→W.heap[b]? = some (.cells c E f)
 ah:arrAt W bh 158 h
 ak:arrAt W bk 176 irounds
 px:∃ (c:Array Value) (E:TypeId),W.heap[bx]? = some (.cells c E (0,0))∧c.size=1∧c.getD 0 undef=.pointer (some ⟨bk,0,none⟩)

noncomputable def NB (W:World) (bh bk bx:Nat):Nat→Prop:=fun b=>b<W.heap.size∧b ≠ bh∧b ≠ bk∧b ≠ bx
theorem DI.inv {w w1 W:World} {bh bk bx:Nat} {h:List Int} (D:DI w w1 bh bk bx h W) (h8:h.length=8) (d1:bh ≠ bk) (d2:bh ≠ bx) (d3:bk ≠ bx) {bd:Nat} (z1:bd<W.heap.size) (z2:bd ≠ bh) (z3:bd ≠ bk) (z4:bd ≠ bx) :
  ∃ η:Env,η.ι 0=bh∧η.ι 1=bk∧η.ι 2=bx∧(∀ f b,η.Z f b↔f=false∧b=bd)∧η.ln 0=8∧η.ln 1=64∧η.ln 2=1∧Inv (NB W bh bk bx) W η [tB 158 true h,tB 176 true irounds,.box [.ptr 1 0 1 0]] W:=by
 obtain ⟨c1,o1⟩:=D.ah.obj
 obtain ⟨c2,o2⟩:=D.ak.obj
 obtain ⟨cx,Ex,x1,x2,x3⟩:=D.px
 refine ⟨{ ι:=fun i=>if i=0 then bh else if i=1 then bk else bx,hv:=fun i=>if i=0 then .slice (some ⟨bh,0,none⟩) h.length c1 else if i=1 then .slice (some ⟨bk,0,none⟩) irounds.length c2 else nilV,ln:=fun i=>if i=0 then 8 else if i=1 then 64 else 1,Z:=fun f b=>f=false∧b=bd,nv:=fun _ _ _=>nilV,O:=fun _=>none },rfl,rfl,rfl,fun f b=>Iff.rfl,rfl,rfl,rfl,?_⟩
 refine ⟨fun k hk=>hk.1,⟨rfl,rfl,rfl,Nat.le_refl _,fun _ _=>rfl⟩,fun f b hb=>by rw [hb.2];exact z1,fun b hb=>(by cases hb.1),fun b hb=>(by cases hb.1),fun id=>?_,fun id o ho=>?_,fun id o ho hm=>?_,fun i j y z hy hz my mz he=>?_,fun b k hk=>(by cases hk),fun _ _ _=>⟨none,0,0,rfl⟩⟩
 ·simp only []
  split
  ·exact ⟨_,_,_,rfl⟩
  ·split
   ·exact ⟨_,_,_,rfl⟩
   ·exact ⟨none,0,0,rfl⟩
 ·match id,ho with
  | 0,ho=>simp only [List.getElem?_cons_zero,Option.some.injEq] at ho;subst ho;exact o1 _ _ 0 rfl rfl (by simp [h8])
  | 1,ho=>simp only [List.getElem?_cons_succ,List.getElem?_cons_zero,Option.some.injEq] at ho;subst ho;exact o2 _ _ 1 rfl rfl rfl
  | 2,ho =>
   simp only [List.getElem?_cons_succ,List.getElem?_cons_zero,Option.some.injEq] at ho
   subst ho
   refine ⟨rfl,cx,Ex,x1,x2,fun j a hj=>?_⟩
   match j,hj with
   | 0,hj =>
    simp only [List.getElem?_cons_zero,Option.some.injEq] at hj
    subst hj
    rw [x3]
    exact ⟨.ptr (by simp) (by simp),rfl⟩
   | j+1,hj=>simp at hj
  | k+3,ho=>simp at ho
 ·match id,ho with
  | 0,ho=>exact ⟨fun hn=>hn.2.1 rfl,fun hz=>z2 hz.2.symm,D.ah.lt⟩
  | 1,ho=>exact ⟨fun hn=>hn.2.2.1 rfl,fun hz=>z3 hz.2.symm,D.ak.lt⟩
  | 2,ho=>exact ⟨fun hn=>hn.2.2.2 rfl,fun hz=>z4 hz.2.symm,(Array.getElem?_eq_some_iff.1 x1).1⟩
  | k+3,ho=>simp at ho
 ·match i,j,hy,hz with
  | 0,0,_,_=>rfl
  | 0,1,_,_=>exact absurd he d1
  | 0,2,_,_=>exact absurd he d2
  | 1,0,_,_=>exact absurd he.symm d1
  | 1,1,_,_=>rfl
  | 1,2,_,_=>exact absurd he d3
  | 2,0,_,_=>exact absurd he.symm d2
  | 2,1,_,_=>exact absurd he.symm d3
  | 2,2,_,_=>rfl
  | k+3,_,hy,_=>simp at hy
  | _,k+3,_,hz=>simp at hz
theorem DI.from {m:Nat} (w w1:World) (bh bk bx:Nat) (f:List (Fin m)→List Int) (hw:w.heap.size≤w1.heap.size) (l1:bh<w1.heap.size) (l2:bk<w1.heap.size) (l3:bx<w1.heap.size):OwnFrom w1.heap.size (fun pre W=>DI w w1 bh bk bx (f pre) W):=by
 intro s W W' row D hg hr
 have same:∀ b,b<w1.heap.size→W'.heap[b]? = W.heap[b]?:=fun b hb=>by
  refine hg.block b (Nat.lt_of_lt_of_le hb D.sz) (fun e=>?_)
  have:=(hr b e.symm).1
  omega
 refine ⟨⟨hg.os.trans D.fr.os,hg.tape.trans D.fr.tape,hg.output.trans D.fr.output,Nat.le_trans D.fr.size hg.size,fun k hk=>(same k (Nat.lt_of_lt_of_le hk hw)).trans (D.fr.block k hk)⟩,Nat.le_trans D.sz hg.size,fun b c E g h1 h2 h3 hb=>(same b (Array.getElem?_eq_some_iff.1 hb).1).trans (D.old b c E g h1 h2 h3 hb),D.ah.keep (same _ l1),D.ak.keep (same _ l2),?_⟩
 obtain ⟨c,E,x1,x2,x3⟩:=D.px
 exact ⟨c,E,(same _ l3).trans x1,x2,x3⟩
theorem B5b {N:Nat→Prop} {w0 W:World} {η:Env} {H:List AObj} (I:Inv N w0 η H W) {id:Nat} {E:TypeId} {fr:Bool} {e:Ty} {l:List e.den} (ho:H[id]? = some (.rows E fr e l)) (h0:0<l.length):(AObj.rows E fr e l).mat η id:=by
 obtain ⟨hln,R⟩:=I.obj id _ ho
 rcases R with ⟨_,h⟩ | ⟨c,cap,g1,g2,g3,g4,g5,g6⟩
 ·rw [h] at h0;simp at h0
 ·exact not_nul g1 g4.1
theorem B9q {N:Nat→Prop} {w0 W:World} {η:Env} {H:List AObj} (I:Inv N w0 η H W) {id:Nat} (ho:H[id]? = some (.box [.ptr 1 0 1 0])) {bk:Nat} (hk:η.ι 1=bk):∃ (c:Array Value) (E:TypeId),W.heap[η.ι id]? = some (.cells c E (0,0))∧c.size=1∧c.getD 0 undef=.pointer (some ⟨bk,0,none⟩):=by
 obtain ⟨_,c,E,g1,g2,g3⟩:=I.obj id _ ho
 refine ⟨c,E,g1,g2,?_⟩
 have h:=(g3 0 _ rfl).1
 generalize c.getD 0 undef=v at h
 cases h with
 | ptr hid hr=>rw [hk]
theorem B8z {c h k:List Int} {i:Nat} {x:AV} (hx:(stB c h k).slots[i]? = some x):(i=3∧x=.ptr 0 0 1 0)∨(i=4∧x=.ptr 2 0 1 0)∨(i=5∧x=.t false B4 c)∨x=.junk:=by
 match i,hx with
 | 0,hx=>simp only [stB,List.cons_append,List.getElem?_cons_zero,Option.some.injEq] at hx;exact .inr (.inr (.inr hx.symm))
 | 1,hx=>simp only [stB,List.cons_append,List.getElem?_cons_succ,List.getElem?_cons_zero,Option.some.injEq] at hx;exact .inr (.inr (.inr hx.symm))
 | 2,hx=>simp only [stB,List.cons_append,List.getElem?_cons_succ,List.getElem?_cons_zero,Option.some.injEq] at hx;exact .inr (.inr (.inr hx.symm))
 | 3,hx=>simp only [stB,List.cons_append,List.getElem?_cons_succ,List.getElem?_cons_zero,Option.some.injEq] at hx;exact .inl ⟨rfl,hx.symm⟩
 | 4,hx=>simp only [stB,List.cons_append,List.getElem?_cons_succ,List.getElem?_cons_zero,Option.some.injEq] at hx;exact .inr (.inl ⟨rfl,hx.symm⟩)
 | 5,hx=>simp only [stB,List.cons_append,List.getElem?_cons_succ,List.getElem?_cons_zero,Option.some.injEq] at hx;exact .inr (.inr (.inl ⟨rfl,hx.symm⟩))
 | i+6,hx =>
  simp only [stB,List.cons_append,List.getElem?_cons_succ,List.nil_append] at hx
  exact .inr (.inr (.inr (List.eq_of_mem_replicate (List.mem_of_getElem? hx))))
theorem B8w {w w1 W:World} {bh bk bx bd:Nat} {h:List Int} (D:DI w w1 bh bk bx h W) (h8:h.length=8) (d1:bh ≠ bk) (d2:bh ≠ bx) (d3:bk ≠ bx) (z1:bd<W.heap.size) (z2:bd ≠ bh) (z3:bd ≠ bk) (z4:bd ≠ bx)
  (g1:w.heap.size≤bh) (g2:w.heap.size≤bk) (g3:w.heap.size≤bx) (n l:Nat) {a1:Act} (a2:a1.tmps.size=39) (a3:a1.tmps.getD 3 undef=.pointer (some ⟨bh,0,none⟩)) (a4:a1.tmps.getD 4 undef=.pointer (some ⟨bx,0,none⟩)) (a5:a1.defers=[])
  {c:List Int} (hc:c.length=64) (hl:Lay (fun b=>b=bd) W B4 c (fun j=>if j=0 then some (a1.tmps.getD 5 undef) else none)) {Q:Exit→Act→World→Prop}
  (hQ:∀ a' W', KeepsOthers W W'→(∀ b,b<W.heap.size→b ≠ bh→b ≠ bk→b ≠ bx→W'.heap[b]? = W.heap[b]?)→DI w w1 bh bk bx (D5 c h irounds).1 W'→Q .normal a' W') :
  (Code.block 1 (.region 5 drb false)).wpIn (Fence.wide.inRound l) n Try.prog Q a1 W:=by
 obtain ⟨η,e0,e1,e2,hZ,n0,n1,n2,I⟩:=D.inv h8 d1 d2 d3 z1 z2 z3 z4
 obtain ⟨q,t8,tk⟩:=B1f c h hc h8
 refine wpIn_block (wpIn_region_list ?_)
 have s:SR (NB W bh bk bx) W η 3 W η (stB c h irounds) a1 W:=by
  refine ⟨I,Ext.refl,⟨by rw [a2];simp [stB],fun i x hx=>?_,a5⟩,rfl⟩
  rcases B8z hx with ⟨rfl,rfl⟩ | ⟨rfl,rfl⟩ | ⟨rfl,rfl⟩ | rfl
  ·rw [a3,← e0];exact .ptr (η:=η) (row:=0) (sz:=1) (sub:=0) (by simp [stB]) (by rw [n0];decide)
  ·rw [a4,← e2];exact .ptr (η:=η) (row:=0) (sz:=1) (sub:=0) (by simp [stB]) (by rw [n2];decide)
  ·refine .t rfl (Lay.mono (fun b hb=>(hZ _ _).2 ⟨rfl,hb⟩) (fun _ _=>rfl) _ _ _ hl)
  ·exact .junk _
 have hrun:=(B7t c h irounds).trans (by rw [q];rfl:_=some (C1r c h irounds))
 have key:=execOps_in (Q:=Exit.inBlock 1 Q) (F:=Fence.wide.inRound l) (n:=n) G51.types G51.tab (.inr ⟨l,rfl⟩) drb [] drb.toList (stB c h irounds) (fun s=>some s) η a1 W s (by kernel_rfl) hrun (fun st' η' a' W' hk s'=>?_)
 ·rwa [List.append_nil] at key
 ·simp only [Option.some.injEq] at hk
  subst hk
  show Q .normal a' W'
  have nm:∀ id,id<3→η'.ι id=η.ι id:=fun id hid=>(s'.ext.nm id hid rfl).2.1
  have I':=s'.inv
  have other:∀ b,b<W.heap.size→b ≠ bh→b ≠ bk→b ≠ bx→W'.heap[b]? = W.heap[b]?:=fun b h1 h2 h3 h4=>I'.fr.block b ⟨h1,h2,h3,h4⟩
  have ah:=arrAt.of I' (id:=0) (E:=158) (fr:=true) (l:=(D5 c h irounds).1) rfl (by rw [t8];decide)
  have ak:=arrAt.of I' (id:=1) (E:=176) (fr:=true) (l:=(D5 c h irounds).2) rfl (by rw [tk];decide)
  have px:=B9q I' (id:=2) rfl (bk:=bk) (by rw [nm 1 (by decide),e1])
  rw [nm 0 (by decide),e0] at ah
  rw [nm 1 (by decide),e1,tk] at ak
  rw [nm 2 (by decide),e2] at px
  refine hQ a' W' ⟨I'.fr.size,fun k o hk ho=>?_⟩ other ⟨⟨I'.fr.os.trans D.fr.os,I'.fr.tape.trans D.fr.tape,I'.fr.output.trans D.fr.output,Nat.le_trans D.fr.size I'.fr.size,fun k hk=>?_⟩,Nat.le_trans D.sz I'.fr.size,fun b cc E f h1 h2 h3 hb=>?_,ah,ak,px⟩
  ·have hlt:=(Array.getElem?_eq_some_iff.1 hk).1
   obtain ⟨c1,x1,_⟩:=D.ah
   obtain ⟨c2,x2,_⟩:=D.ak
   obtain ⟨c3,E3,x3,_⟩:=D.px
   refine (other k hlt ?_ ?_ ?_).trans hk
   ·rintro rfl;rw [x1] at hk;cases hk;cases ho
   ·rintro rfl;rw [x2] at hk;cases hk;cases ho
   ·rintro rfl;rw [x3] at hk;cases hk;cases ho
  ·have:=D.fr.size
   exact (other k (by omega) (by omega) (by omega) (by omega)).trans (D.fr.block k hk)
  ·have h0:=D.old b cc E f h1 h2 h3 hb
   exact (other b (Array.getElem?_eq_some_iff.1 h0).1 h1 h2 h3).trans h0
theorem B9N {vs:Array Value} {x y:Value} (hs:vs.size=2) (h0:vs.getD 0 undef=x) (h1:vs.getD 1 undef=y):vs=#[x,y]:=by
 apply Array.ext
 ·simp [hs]
 ·intro i h2 h3
  match i,h2 with
  | 0,h2=>rw [← h0];simp [Array.getD,hs]
  | 1,h2=>rw [← h1];simp [Array.getD,hs]
  | k+2,h2=>omega
noncomputable def B7r (p:List Int):List Int:=(List.range (p.length / 64)).foldl (fun h i=>(D5 ((p.drop (64*i)).take 64) h irounds).1) hinit
noncomputable def H8 (a0:List Int):ByteArray:=A8e (B7r (N9 a0))
noncomputable def Q1 (a0:List Int):Bool:=let z1:=N9 a0;Y4 a0&&(decide (z1.length % 64=0)&&(decide (0<z1.length)&&decide (z1.length≤64000000000000)))
abbrev A6R:List PSh:=[.t B4]
noncomputable abbrev B27:pshsDen A6R→AV×List AObj:=fun d=>(.t true .str (H8 d.1),[])
noncomputable abbrev B0J:pshsDen A6R→Bool:=fun d=>Q1 d.1
noncomputable def B4E (p:List Int) {m:Nat} (pre:List (Fin m)):List Int:=pre.foldl (fun h x=>(D5 ((p.drop (64*x.1)).take 64) h irounds).1) hinit
theorem A6Y {p:List Int} {m:Nat} (hm:64*m=p.length) (x:Fin m):((p.drop (64*x.1)).take 64).length=64:=by
 have:=x.2
 simp only [List.length_take,List.length_drop]
 omega
theorem B1o {p:List Int} {m:Nat} (hm:64*m=p.length):∀ (pre:List (Fin m)) (h:List Int),h.length=8→(pre.foldl (fun h (x:Fin m)=>(D5 ((p.drop (64*x.1)).take 64) h irounds).1) h).length=8
 | [],h,h8=>h8
 | x::pre,h,h8=>B1o hm pre _ (B1f _ _ (A6Y hm x) h8).2.1
theorem B7s (p:List Int) {m:Nat} (pre:List (Fin m)) (x:Fin m):B4E p (pre++[x])=(D5 ((p.drop (64*x.1)).take 64) (B4E p pre) irounds).1:=by simp [B4E]
theorem B8b (p:List Int) {m:Nat} (hm:m=p.length / 64):B4E p (cupto m (Nat.le_refl _))=B7r p:=by
 have e:(cupto m (Nat.le_refl _)).map (fun x:Fin m=>x.1)=List.range m:=by simp [cupto]
 have:=List.foldl_map (f:=fun x:Fin m=>x.1) (g:=fun h i=>(D5 ((p.drop (64*i)).take 64) h irounds).1) (l:=cupto m (Nat.le_refl _)) (init:=hinit)
 rw [e] at this
 rw [B4E,← this,B7r,hm]
theorem B8A {h:List Int} {i:Nat} {x:AV} (hx:(stT h).slots[i]? = some x):(i=3∧x=.ptr 0 0 1 0)∨x=.junk:=by
 match i,hx with
 | 0,hx=>simp only [stT,List.cons_append,List.getElem?_cons_zero,Option.some.injEq] at hx;exact .inr hx.symm
 | 1,hx=>simp only [stT,List.cons_append,List.getElem?_cons_succ,List.getElem?_cons_zero,Option.some.injEq] at hx;exact .inr hx.symm
 | 2,hx=>simp only [stT,List.cons_append,List.getElem?_cons_succ,List.getElem?_cons_zero,Option.some.injEq] at hx;exact .inr hx.symm
 | 3,hx=>simp only [stT,List.cons_append,List.getElem?_cons_succ,List.getElem?_cons_zero,Option.some.injEq] at hx;exact .inl ⟨rfl,hx.symm⟩
 | i+4,hx =>
  simp only [stT,List.cons_append,List.getElem?_cons_succ,List.nil_append] at hx
  exact .inr (List.eq_of_mem_replicate (List.mem_of_getElem? hx))
theorem B89 {w w1 W:World} {bh bk bx D:Nat} {h:List Int} (I0:DI w w1 bh bk bx h W) (h8:h.length=8) (g1:w.heap.size≤bh) (hD:w1.heap.size≤D) (hw:w.heap.size≤w1.heap.size) (hDb:D ≠ bh) (hd:W.heap[D]? = some (.deferred (some []))) {a:Act} (a2:a.tmps.size=39) (a3:a.tmps.getD 3 undef=.pointer (some ⟨bh,0,none⟩))
  {R:Ending→World→Prop} (hR:∀ W', (W'.os=w.os∧W'.tape=w.tape∧W'.output=w.output∧w.heap.size≤W'.heap.size∧∀ k,k<w.heap.size→W'.heap[k]? = w.heap[k]?)→R (.returned (.string (A8e h))) W') (n:Nat) :
  dc4.wpIn Fence.wide n Try.prog (bodyPostM Fence.wide n Try.prog Try.f115 R) { a with defers:=[{ target:=.collected D,args:=#[] }] } W:=by
 obtain ⟨c1,o1⟩:=I0.ah.obj
 have hDl:D<W.heap.size:=(Array.getElem?_eq_some_iff.1 hd).1
 let η:Env:={ ι:=fun _=>bh,hv:=fun i=>if i=0 then .slice (some ⟨bh,0,none⟩) h.length c1 else nilV,ln:=fun _=>h.length,Z:=fun _ _=>False,nv:=fun _ _ _=>nilV,O:=fun _=>none }
 letI:DF:=⟨[{ target:=.collected D,args:=#[] }]⟩
 have I:Inv (fun b=>b<w.heap.size∨b=D) W η [tB 158 true h] W:=by
  refine ⟨fun k hk=>?_,⟨rfl,rfl,rfl,Nat.le_refl _,fun _ _=>rfl⟩,fun _ _ hb=>hb.elim,fun _ hb=>hb.elim,fun _ hb=>hb.elim,fun id=>?_,fun id o ho=>?_,fun id o ho hm=>?_,fun i j y z hy hz my mz he=>?_,fun b k hk=>(by cases hk),fun _ _ _=>⟨none,0,0,rfl⟩⟩
  ·rcases hk with hk | hk
   ·exact Nat.lt_of_lt_of_le hk I0.fr.size
   ·rw [hk];exact hDl
  ·show ∃ A n c,(if id=0 then _ else _)=_
   split
   ·exact ⟨_,_,_,rfl⟩
   ·exact ⟨none,0,0,rfl⟩
  ·match id,ho with
   | 0,ho=>simp only [List.getElem?_cons_zero,Option.some.injEq] at ho;subst ho;exact o1 η _ 0 rfl rfl rfl
   | k+1,ho=>simp at ho
  ·match id,ho with
   | 0,ho=>exact ⟨fun hn=>hn.elim (fun h=>by have:bh<w.heap.size:=h;omega) (fun h=>hDb h.symm),fun hz=>hz.elim,I0.ah.lt⟩
   | k+1,ho=>simp at ho
  ·match i,j,hy,hz with
   | 0,0,_,_=>rfl
   | k+1,_,hy,_=>simp at hy
   | _,k+1,_,hz=>simp at hz
 have s:SR (fun b=>b<w.heap.size∨b=D) W η 1 W η (stT h) { a with defers:=[{ target:=.collected D,args:=#[] }] } W:=by
  refine ⟨I,Ext.refl,⟨by rw [a2];simp [stT],fun i x hx=>?_,rfl⟩,rfl⟩
  rcases B8A hx with ⟨rfl,rfl⟩ | rfl
  ·rw [a3];exact .ptr (η:=η) (row:=0) (sz:=1) (sub:=0) (by simp [stT]) (by show 0<h.length;omega)
  ·exact .junk _
 have hrun:execC Try.prog tt S51 B3n dL 0 dc4 (stT h) dKT=some (A8e h):=by
  match h,h8 with
  | [x0,x1,x2,x3,x4,x5,x6,x7],_=>exact B8d x0 x1 x2 x3 x4 x5 x6 x7
 refine wpIn_wide.2 (execC_sound G51 dL dc4 0 (stT h) dKT _ η _ W C0J hrun (fun e st' η' a' W' hk s'=>?_) s)
 cases e with
 | normal=>simp [dKT] at hk
 | exit id=>simp [dKT] at hk
 | ret =>
  have hsl:∃ u v f r,st'.slots=u::v::.t f .str (A8e h)::r:=by
   simp only [dKT] at hk
   split at hk
   ·rename_i u v x r e
    simp only [Option.some.injEq] at hk
    exact ⟨u,v,true,r,by rw [e,hk]⟩
   ·cases hk
  obtain ⟨u,v,f,r,hsl⟩:=hsl
  have h2:=s'.sl.slot 2 _ (by rw [hsl];rfl)
  have hv:a'.tmps.getD 2 undef=.string (A8e h):=by
   generalize a'.tmps.getD 2 undef=y at h2
   cases h2 with
   | t _ hl=>simpa [Lay] using hl
  have hdd:W'.heap[D]? = some (.deferred (some [])):=(s'.inv.fr.block D (.inr rfl)).trans hd
  show LeavesInM Fence.wide n Try.prog Try.f115 a'.tmps R a'.defers .returning W'
  rw [show a'.defers=[{ target:=.collected D,args:=#[] }] from s'.sl.defers]
  refine ⟨by simp,.inl ⟨D,_,rfl,run_takeDeferred hdd,?_⟩⟩
  refine ⟨.string (A8e h),?_,hR _ ⟨?_,?_,?_,?_,fun k hk=>?_⟩⟩
  ·rw [results_tmp (t:=2) (by kernel_rfl) a'.tmps Try.prog _];exact congrArg (fun v=>Result.ok v _) hv
  ·exact s'.inv.fr.os.trans I0.fr.os
  ·exact s'.inv.fr.tape.trans I0.fr.tape
  ·exact s'.inv.fr.output.trans I0.fr.output
  ·have:=s'.inv.fr.size;have:=I0.fr.size;simp;omega
  ·have hne:k ≠ D:=by omega
   rw [World.putObj_heap_other hne]
   exact (s'.inv.fr.block k (.inl hk)).trans (I0.fr.block k hk)
theorem B8v {η:Env} {h:Nat} {w:World} {i:Nat} {v:Value} (r:AVR η h w (.ptr i 0 1 0) v):v=.pointer (some ⟨η.ι i,0,none⟩):=by
 cases r with
 | ptr hid hrr=>rfl
theorem B9x {η:Env} {h:Nat} {w:World} {f:FuncId} {i j:Nat} {v:Value} (r:AVR η h w (.fn f [.ptr i 0 1 0,.ptr j 0 1 0]) v):v=.func (.func f) #[] #[.pointer (some ⟨η.ι i,0,none⟩),.pointer (some ⟨η.ι j,0,none⟩)]:=by
 cases r with
 | fn hsz hcs =>
  rw [B9N hsz (B8v (hcs 0 _ rfl)) (B8v (hcs 1 _ rfl))]
theorem B9r:∃ o,dasg.toList=[o]∧o.op=.assign (.tmp 14)∧o.dst=some 5∧o.guard=none:=by
 have h0:dasg.toList.length=1:=by kernel_rfl
 have h1:dasg.toList.map (fun o=>o.op)=[.assign (.tmp 14)]:=by kernel_rfl
 have h2:dasg.toList.map (fun o=>o.dst)=[some 5]:=by kernel_rfl
 have h3:dasg.toList.map (fun o=>o.guard)=[none]:=by kernel_rfl
 obtain ⟨o,e⟩:=List.length_eq_one_iff.1 h0
 rw [e] at h1 h2 h3
 exact ⟨o,e,by simpa using h1,by simpa using h2,by simpa using h3⟩
theorem A9K {a:Array Value} {i j:Nat} {v:Value} (h:i ≠ j):(a.setIfInBounds i v).getD j undef=a.getD j undef:=by
 simp only [Array.getD_eq_getD_getElem?,Array.getElem?_setIfInBounds,if_neg h]
theorem A77 {a:Array Value} {i:Nat} {v:Value} (h:i<a.size):(a.setIfInBounds i v).getD i undef=v:=by
 simp [Array.getD_eq_getD_getElem?,Array.getElem?_setIfInBounds,h]
theorem B64:aPP 115 (sumOf A6R B0J B27):=by
 refine PContract.of_calls _ _ _ (fun d hd w vs hl hr=>?_)
 obtain ⟨a0,_⟩:=d
 have hq:Q1 a0=true:=hd
 simp only [Q1,Bool.and_eq_true,decide_eq_true_eq] at hq
 obtain ⟨qp,qm,q0,ql⟩:=hq
 obtain ⟨p,hp⟩:∃ p,p=N9 a0:=⟨_,rfl⟩
 obtain ⟨m,hm⟩:∃ m,m=p.length / 64:=⟨_,rfl⟩
 have hm64:64*m=p.length:=by rw [← hp] at qm;omega
 show Calls Try.prog 115 vs w fun e w'=>∃ v η', e=.returned v∧Inv (·<w.heap.size) w η' [] w'∧AVR η' 0 w' (.t true .str (H8 a0)) v
 refine callsIn_wide.1 (callsIn_of_wp_marks (n:=5) (F:=Fence.wide) (fn:=Try.f115) (by kernel_rfl) B8c trivial ?_)
 have s0:=SR.start (Inv.empty w) hl hr Try.f115
 have hrun:=(B8K a0).trans (by rw [qp];rfl:_=some (Ex.normal,stR a0))
 refine wpIn_seq (wpIn_wide.2 (execC_sound G51 aLn dc0 0 _ dK1 _ _ _ w (hl0 (L:=fun _ _=>none) (b:=0) (x:=dc0) (by kernel_rfl)) hrun (fun e st1 η1 a1 w1 hk s1=>?_) s0))
 cases e with
 | exit id=>cases hk
 | ret=>cases hk
 | normal =>
 refine wpIn_seq (wpIn_wide.2 (execC_sound G51 aLn dc1 0 _ dK2 _ _ _ w1 (hl0 (L:=fun _ _=>none) (b:=0) (x:=dc1) (by kernel_rfl)) hk (fun e st2 η2 a2 w2 hk s2=>?_) s1))
 cases e with
 | exit id=>cases hk
 | ret=>cases hk
 | normal =>
 refine wpIn_seq (wpIn_wide.2 (execC_sound G51 aLn dc2 0 _ dK3 _ _ _ w2 (hl0 (L:=fun _ _=>none) (b:=0) (x:=dc2) (by kernel_rfl)) hk (fun e st3 η3 a3 w3 hk s3=>?_) s2))
 cases e with
 | exit id=>cases hk
 | ret=>cases hk
 | normal =>
 refine wpIn_seq (wpIn_seq (wpIn_wide.2 (wp_region_list (execOps_sound G51.types C0D B4G B4G.toList _ _ _ _ w3 s3 hk (fun st4 η aR W1 hk sR=>?_)))))
 obtain rfl:stR a0=st4:=by simpa using hk.symm
 clear hk s1 s2 s3
 have I1:=sR.inv
 -- the objects
 obtain ⟨bh,ebh⟩:∃ bh,bh=η.ι 0:=⟨_,rfl⟩
 obtain ⟨bk,ebk⟩:∃ bk,bk=η.ι 1:=⟨_,rfl⟩
 obtain ⟨bx,ebx⟩:∃ bx,bx=η.ι 2:=⟨_,rfl⟩
 obtain ⟨Bs,eBs⟩:∃ bs,bs=η.ι 3:=⟨_,rfl⟩
 obtain ⟨Bn,eBn⟩:∃ bn,bn=η.ι 4:=⟨_,rfl⟩
 have h0':(stR a0).heap[0]? = some (.rows 158 true (.int .u32) hinit):=rfl
 have h1':(stR a0).heap[1]? = some (.rows 176 true (.int .u32) irounds):=rfl
 have h2':(stR a0).heap[2]? = some (.box [.ptr 1 0 1 0]):=rfl
 have h3':(stR a0).heap[3]? = some (.box [.t true B4 (N9 a0)]):=rfl
 have h4':(stR a0).heap[4]? = some (.box [(ti (64:Int):AV)]):=rfl
 have m0:=B5b I1 h0' (by decide)
 have m1:=B5b I1 h1' (by decide)
 have d1:bh ≠ bk:=fun e=>absurd (I1.inj 0 1 _ _ h0' h1' m0 m1 (ebh ▸ ebk ▸ e)) (by decide)
 have d2:bh ≠ bx:=fun e=>absurd (I1.inj 0 2 _ _ h0' h2' m0 trivial (ebh ▸ ebx ▸ e)) (by decide)
 have d3:bk ≠ bx:=fun e=>absurd (I1.inj 1 2 _ _ h1' h2' m1 trivial (ebk ▸ ebx ▸ e)) (by decide)
 have s0':Bs ≠ bh:=fun e=>absurd (I1.inj 3 0 _ _ h3' h0' trivial m0 (eBs ▸ ebh ▸ e)) (by decide)
 have s1':Bs ≠ bk:=fun e=>absurd (I1.inj 3 1 _ _ h3' h1' trivial m1 (eBs ▸ ebk ▸ e)) (by decide)
 have s2':Bs ≠ bx:=fun e=>absurd (I1.inj 3 2 _ _ h3' h2' trivial trivial (eBs ▸ ebx ▸ e)) (by decide)
 have n0':Bn ≠ bh:=fun e=>absurd (I1.inj 4 0 _ _ h4' h0' trivial m0 (eBn ▸ ebh ▸ e)) (by decide)
 have n1':Bn ≠ bk:=fun e=>absurd (I1.inj 4 1 _ _ h4' h1' trivial m1 (eBn ▸ ebk ▸ e)) (by decide)
 have n2':Bn ≠ bx:=fun e=>absurd (I1.inj 4 2 _ _ h4' h2' trivial trivial (eBn ▸ ebx ▸ e)) (by decide)
 obtain ⟨o0a,o0b,l0⟩:=I1.own 0 _ h0' m0
 obtain ⟨o1a,o1b,l1⟩:=I1.own 1 _ h1' m1
 obtain ⟨o2a,o2b,l2⟩:=I1.own 2 _ h2' trivial
 obtain ⟨o3a,o3b,l3⟩:=I1.own 3 _ h3' trivial
 obtain ⟨o4a,o4b,l4⟩:=I1.own 4 _ h4' trivial
 rw [← ebh] at o0a o0b l0
 rw [← ebk] at o1a o1b l1
 rw [← ebx] at o2a o2b l2
 rw [← eBs] at o3a o3b l3
 rw [← eBn] at o4a o4b l4
 have g0:w.heap.size≤bh:=Nat.not_lt.1 o0a
 have g1:w.heap.size≤bk:=Nat.not_lt.1 o1a
 have g2:w.heap.size≤bx:=Nat.not_lt.1 o2a
 have hww:w.heap.size≤W1.heap.size:=I1.fr.size
 -- the slots
 have t3:aR.tmps.getD 3 undef=.pointer (some ⟨bh,0,none⟩):=by
  have h:=sR.sl.slot 3 (.ptr 0 0 1 0) rfl
  generalize aR.tmps.getD 3 undef=v at h
  cases h with
  | ptr hid hrr=>rw [ebh]
 have t4:aR.tmps.getD 4 undef=.pointer (some ⟨bx,0,none⟩):=by
  have h:=sR.sl.slot 4 (.ptr 2 0 1 0) rfl
  generalize aR.tmps.getD 4 undef=v at h
  cases h with
  | ptr hid hrr=>rw [ebx]
 have t13:aR.tmps.getD 13 undef=.func (.func 168) #[] #[.pointer (some ⟨Bs,0,none⟩),.pointer (some ⟨Bn,0,none⟩)]:=by
  rw [eBs,eBn]
  exact B9x (sR.sl.slot 13 (.fn 168 [.ptr 3 0 1 0,.ptr 4 0 1 0]) rfl)
 have tsz:aR.tmps.size=39:=by rw [sR.sl.size];rfl
 -- the padded bytes
 obtain ⟨_,c3,E3,g3,z3,x3⟩:=I1.obj 3 _ h3'
 obtain ⟨_,c4,E4,g4,z4,x4⟩:=I1.obj 4 _ h4'
 rw [← eBs] at g3
 rw [← eBn] at g4
 have y3:=(x3 0 _ rfl).1
 have y4:=(x4 0 _ rfl).1
 have v4:c4.getD 0 undef=.int .i64 64:=int_rel y4
 obtain ⟨ad,cap,v3,hcap,hzt,hcell⟩:∃ (ad:Addr) (cap:Nat),c3.getD 0 undef=.slice (some ad) (64*m) cap∧64*m≤cap∧η.Z true ad.block∧∀ (i:Nat) (x:Int),p[i]? = some x→W1.cell? (ad.add i)=some (.int .u8 x):=by
  rw [← hp] at y3
  generalize c3.getD 0 undef=v at y3
  cases y3 with
  | t _ hlay =>
   obtain ⟨A,cap,e1,e2,e3⟩:=hlay
   simp only [if_true,Option.some.injEq] at e1
   rcases e3 with rfl | ⟨ad,rfl,hz,hcs⟩
   ·rw [← hp] at q0;simp at q0
   ·refine ⟨ad,cap,by rw [e1,hm64],by rw [hm64];exact e2,hz,fun i x hx=>?_⟩
    have h:=hcs i x hx
    simp only [Lay,Ty.cells,Nat.mul_one,Nat.add_zero] at h
    exact h
 have hzf:η.Z false ad.block:=I1.zsub _ hzt
 have b0:ad.block ≠ bh:=fun e=>o0b (e ▸ hzf)
 have b1:ad.block ≠ bk:=fun e=>o1b (e ▸ hzf)
 have b2:ad.block ≠ bx:=fun e=>o2b (e ▸ hzf)
 have bl:ad.block<W1.heap.size:=I1.zlt _ _ hzf
 obtain ⟨cd,Ed,fd,gd⟩:∃ cd Ed fd,W1.heap[ad.block]? = some (.cells cd Ed fd):=by
  obtain ⟨x,hx⟩:∃ x,p[0]? = some x:=by cases p with
   | nil=>rw [← hp] at q0;simp at q0
   | cons x _=>exact ⟨x,rfl⟩
  have h:=hcell 0 x hx
  obtain ⟨o,ho,hc⟩:=cells_of_cell h
  rw [addr_block] at ho
  cases o with
  | cells a b c=>exact ⟨a,b,c,ho⟩
  | _=>cases hc
 have cs:W1.cell? ⟨Bs,0,none⟩=some (.slice (some ad) (64*m) cap):=by rw [cell_block g3,← v3];exact getElem?_getD (by rw [z3];simp)
 have cn:W1.cell? ⟨Bn,0,none⟩=some (.int .i64 64):=by rw [cell_block g4,← v4];exact getElem?_getD (by rw [z4];simp)
 have D0:DI w W1 bh bk bx hinit W1:=by
  refine ⟨I1.fr,Nat.le_refl _,fun _ _ _ _ _ _ _ h=>h,?_,?_,?_⟩
  ·rw [ebh];exact arrAt.of I1 h0' (by decide)
  ·rw [ebk];exact arrAt.of I1 h1' (by decide)
  ·rw [ebx];exact B9q I1 h2' ebk.symm
 refine wpIn_block (wpIn_rangeFunc_ownF (F:=Fence.wide) (n:=5) rfl (by decide) (gf:=168) (lb:=#[.pointer (some ⟨Bs,0,none⟩),.pointer (some ⟨Bn,0,none⟩)]) t13 trivial (enters_of Try.func168 (by kernel_rfl) rfl)
  (B4D 4 (by decide) Bs Bn m cap ad hcap (by rw [← hp] at ql;omega) W1 cs cn l3 l4) (fun h k=>⟨k.1.trans h.1,k.2.trans h.2⟩) (fun W l o o' hwl ho hc _=>?_) (Below.refl _ _) (fun _=>rfl)
  (fun pre W=>DI w W1 bh bk bx (B4E p pre) W) (fun _ _ _=>False) (DI.from w W1 bh bk bx (B4E p) hww l0 l1 l2) (fun _ _ _ _ _ h=>h.elim) D0
  (fun x=>{ tmps:=(aR.tmps.setIfInBounds 14 (.slice (some (ad.add (64*x.1))) 64 64)).setIfInBounds 5 (.slice (some (ad.add (64*x.1))) 64 64),defers:=[] })
  (fun l x W K hK=>?_) (fun l pre x W D hlen=>?_) (fun Dd xs W hD hS D hdd=>?_) (fun _ _ _ _ _ _ h _=>h.elim))
 ·have k1:Bs ≠ l:=by omega
  have k2:Bn ≠ l:=by omega
  exact ⟨World.cell?_of_block (World.putObj_heap_other k1),World.cell?_of_block (World.putObj_heap_other k2)⟩
 ·obtain ⟨o,e,e1,e2,e3⟩:=B9r
  have ez:((#[14]:Array Tmp).zip #[Value.slice (some (ad.add (64*x.1))) 64 64]).foldl (fun t (p,v)=>t.setIfInBounds p v) aR.tmps=aR.tmps.setIfInBounds 14 (.slice (some (ad.add (64*x.1))) 64 64):=by simp
  refine wpIn_region_list ?_
  rw [e,ez]
  have ev:(aR.tmps.setIfInBounds 14 (Value.slice (some (ad.add (64*x.1))) 64 64)).getD 14 undef=.slice (some (ad.add (64*x.1))) 64 64:=A77 (by rw [tsz];decide)
  refine wpListIn_plain e3 (fun Kc hKc=>wp_in (.inr ⟨l,rfl⟩) (by simp [notDefer,e1]) (wp_value (w':=W) (x:=.slice (some (ad.add (64*x.1))) 64 64) (by simp only [execOp,e1,Act.eval,ev];rfl) (hKc _ _ ?_)))
  rw [e2]
  exact hK
 ·refine B8w D (B1o hm64 pre hinit rfl) d1 d2 d3 (bd:=ad.block) (Nat.lt_of_lt_of_le bl D.sz) b0 b1 b2 g0 g1 g2 _ l (c:=(p.drop (64*x.1)).take 64) ?_ ?_ ?_ rfl (A6Y hm64 x) ?_ (fun a' W' ko oth DI'=>⟨ko,⟨?_,?_⟩,?_⟩)
  ·show ((aR.tmps.setIfInBounds 14 _).setIfInBounds 5 _).size=39
   simp [tsz]
  ·show ((aR.tmps.setIfInBounds 14 _).setIfInBounds 5 _).getD 3 undef=_
   rw [A9K (by decide),A9K (by decide)];exact t3
  ·show ((aR.tmps.setIfInBounds 14 _).setIfInBounds 5 _).getD 4 undef=_
   rw [A9K (by decide),A9K (by decide)];exact t4
  ·have e5:((aR.tmps.setIfInBounds 14 (Value.slice (some (ad.add (64*x.1))) 64 64)).setIfInBounds 5 (Value.slice (some (ad.add (64*x.1))) 64 64)).getD 5 undef=.slice (some (ad.add (64*x.1))) 64 64:=A77 (by rw [Array.size_setIfInBounds,tsz];decide)
   refine ⟨some (ad.add (64*x.1)),64,?_,by rw [A6Y hm64 x];exact Nat.le_refl _,.inr ⟨_,rfl,addr_block _ _,fun i y hy=>?_⟩⟩
   ·rw [A6Y hm64 x]
    exact congrArg some e5
   ·rw [List.getElem?_take] at hy
    split at hy
    ·rw [List.getElem?_drop] at hy
     have h1:=hcell _ y hy
     have h2:W.cell? (ad.add (64*x.1+i))=W1.cell? (ad.add (64*x.1+i)):=World.cell?_of_block (by rw [addr_block,gd];exact D.old _ _ _ _ b0 b1 b2 gd)
     show W.cell? ((ad.add (64*x.1)).add (i*1+0))=some (.int .u8 y)
     rw [addr_add,Nat.mul_one,Nat.add_zero,h2];exact h1
    ·cases hy
  ·have hl3:Bs<W.heap.size:=Nat.lt_of_lt_of_le l3 D.sz
   exact World.cell?_of_block (oth Bs hl3 s0' s1' s2')
  ·have hl4:Bn<W.heap.size:=Nat.lt_of_lt_of_le l4 D.sz
   exact World.cell?_of_block (oth Bn hl4 n0' n1' n2')
  ·show DI w W1 bh bk bx (B4E p (pre++[x])) W'
   rw [B7s];exact DI'
 ·show dc4.wpIn Fence.wide 5 Try.prog _ { aR with defers:={ target:=.collected Dd,args:=#[] }::aR.defers } W
  rw [show aR.defers=[] from sR.sl.defers]
  subst hS
  refine B89 D (B1o hm64 _ hinit rfl) g0 hD hww (by omega) hdd tsz t3 (fun W' hW'=>?_) 5
  obtain ⟨w1', w2', w3', w4', w5'⟩:=hW'
  refine ⟨.string _,{ ι:=fun _=>0,hv:=fun _=>nilV,ln:=fun _=>0,Z:=fun _ _=>False,nv:=fun _ _ _=>nilV,O:=fun _=>none },rfl,⟨fun _ h=>h,⟨w1', w2', w3', w4', w5'⟩,fun _ _ hb=>hb.elim,fun _ hb=>hb.elim,fun _ hb=>hb.elim,fun _=>⟨none,0,0,rfl⟩,fun id o h=>by simp at h,fun id o h=>by simp at h,fun id id' o o' h=>by simp at h,fun b k h=>(by cases h),fun _ _ _=>⟨none,0,0,rfl⟩⟩,?_⟩
  rw [B8b p hm,hp]
  exact .t rfl (by simp [Lay,H8])
noncomputable def S52:Tab:=Tab.add S51 115 (lift (sumOf A6R B0J B27))
noncomputable def C0u:FuncId→Bool:=qadd B3n 115
theorem G52:aPG S52 C0u:=G51.addQ B64 (cbl Try.f115) (fun _=>rfl)

abbrev A4g:List PSh:=[.agg [(.int .i64),(.int .i64),tq2]]
noncomputable def A0e (a0 a1:Int) (a2:Lq1):List Int:=let z1:=F0 a1 (C4 a0);let z2:=A46 a2 z1;(cond (decide ((a2.length:Int) > (0:Int))) (((C4 ((z2.length:Nat):Int))++z2)++strInts ((H8 z2).extract (0:Int).toNat (4:Int).toNat)) (((C4 ((z1.length:Nat):Int))++z1)++strInts ((H8 z1).extract (0:Int).toNat (4:Int).toNat)))
noncomputable abbrev A61 (r:List Int):AV×List AObj:=((.t true B4 r),[])
noncomputable abbrev A95:pshsDen A4g→AV×List AObj:=fun d=>A61 (A0e d.1.1 d.1.2.1 d.1.2.2.1)
noncomputable def M5 (a0 a1:Int) (a2:Lq1):Bool:=let z1:=F0 a1 (C4 a0);let z2:=A46 a2 z1;let z3:=C4 ((z2.length:Nat):Int);let z4:=C4 ((z1.length:Nat):Int);(C9 a1 (C4 a0))&&(cond (decide ((a2.length:Int) > (0:Int))) ((A2I a2 z1)&&((decide ((z3.length+z2.length)*1≤MAXB))&&((Q1 z2)&&((decide (0≤(0:Int)∧(0:Int)≤(4:Int)∧(4:Int)≤(((H8 z2).size:Nat):Int)))&&(decide ((z3++z2).length+((H8 z2).extract (0:Int).toNat (4:Int).toNat).size≤MAXB)))))) ((decide ((z4.length+z1.length)*1≤MAXB))&&((Q1 z1)&&((decide (0≤(0:Int)∧(0:Int)≤(4:Int)∧(4:Int)≤(((H8 z1).size:Nat):Int)))&&(decide ((z4++z1).length+((H8 z1).extract (0:Int).toNat (4:Int).toNat).size≤MAXB))))))
noncomputable abbrev A6n:pshsDen A4g→Bool:=fun d=>M5 d.1.1 d.1.2.1 d.1.2.2.1
theorem B5o:RunP true G52 aLn Try.f67 A4g A6n A95:=by
 rintro ⟨⟨a0,⟨a1,⟨a2,_⟩⟩⟩,_⟩ hp
 change M5 a0 a1 a2=true at hp
 unfold M5 at hp
 refine Eq.trans (b:=(let z1:=F0 a1 (C4 a0);let z2:=A46 a2 z1;let z3:=C4 ((z2.length:Nat):Int);let z4:=C4 ((z1.length:Nat):Int);let z5:=(H8 z2).extract (0:Int).toNat (4:Int).toNat;let z6:=(H8 z1).extract (0:Int).toNat (4:Int).toNat;cond (C9 a1 (C4 a0)) (cond (decide ((a2.length:Int) > (0:Int))) (cond (A2I a2 z1) (cond (decide ((z3.length+z2.length)*1≤MAXB)) (cond (Q1 z2) (cond (decide (0≤(0:Int)∧(0:Int)≤(4:Int)∧(4:Int)≤(((H8 z2).size:Nat):Int))) (cond (decide ((z3++z2).length+z5.size≤MAXB)) (some (A61 ((z3++z2)++strInts z5))) none) none) none) none) none) (cond (decide ((z4.length+z1.length)*1≤MAXB)) (cond (Q1 z1) (cond (decide (0≤(0:Int)∧(0:Int)≤(4:Int)∧(4:Int)≤(((H8 z1).size:Nat):Int))) (cond (decide ((z4++z1).length+z6.size≤MAXB)) (some (A61 ((z4++z1)++strInts z6))) none) none) none) none)) none)) (by kernel_rfl) ?_
 exact (cndA hp fun hp=>(M2 A61 hp (fun hp=>(cndA hp fun hp=>(cndA hp fun hp=>(cndA hp fun hp=>(cndA hp fun hp=>(cndT hp fun _h=>rfl)))))) (fun hp=>(cndA hp fun hp=>(cndA hp fun hp=>(cndA hp fun hp=>(cndT hp fun _h=>rfl)))))))
theorem B7c:aPP 67 (sumOf A4g A6n A95):=pcD true G52 hlz B5o
noncomputable def S53:Tab:=Tab.add S52 67 (lift (sumOf A4g A6n A95))
noncomputable def C0v:FuncId→Bool:=qadd C0u 67
theorem G53:aPG S53 C0v:=G52.addQ B7c (cbl Try.f67) (fun _=>rfl)

abbrev Z5:List PSh:=[.t B4,.t B4]
noncomputable def N8 (a0 a1:List Int):Bool:=((⟨(a0.map fun n=>UInt8.ofNat n.toNat).toArray⟩:ByteArray).toList==(⟨(a1.map fun n=>UInt8.ofNat n.toNat).toArray⟩:ByteArray).toList)
noncomputable abbrev B2k (r:Bool):AV×List AObj:=((.t true .bool r),[])
noncomputable abbrev A3U:pshsDen Z5→AV×List AObj:=fun d=>B2k (N8 d.1 d.2.1)
noncomputable abbrev A2e:pshsDen Z5→Bool:=fun d=>true
theorem B03:RunP true G53 aLn Try.f79 Z5 A2e A3U:=by
 rintro ⟨a0,⟨a1,_⟩⟩ hp
 kernel_rfl
theorem B2d:aPP 79 (sumOf Z5 A2e A3U):=pcD true G53 hlz B03
noncomputable def S54:Tab:=Tab.add S53 79 (lift (sumOf Z5 A2e A3U))
noncomputable def C0w:FuncId→Bool:=qadd C0v 79
theorem G54:aPG S54 C0w:=G53.addQ B2d (cbl Try.f79) (fun _=>rfl)

abbrev A4c:List PSh:=[.t B4,.t (.int .i64)]
noncomputable def P0 (a0:List Int) (a1:Int):=let z1:=B9 a0 a1;A6 ((a0.take (IntKind.wrap .i64 ((z1.2.1)+(z1.1))).toNat).drop (z1.2.1).toNat) (0:Int) false
noncomputable def T4 (a0:List Int) (a1:Int):=let z2:=P0 a0 a1;let z1:=A6 (z2.2.1) (z2.2.2.1) (z2.2.2.2);K1 (z1.2.1) (z1.2.2.1) (z1.2.2.2)
noncomputable def A29 (a0:List Int) (a1:Int):=let z1:=P0 a0 a1;A2d (z1.1) ((A6 (z1.2.1) (z1.2.2.1) (z1.2.2.2)).1) ((T4 a0 a1).2.2.2)
noncomputable def A8n (a0:List Int) (a1:Int):=let z1:=P0 a0 a1;A0e (z1.1) ((A6 (z1.2.1) (z1.2.2.1) (z1.2.2.2)).1) ((T4 a0 a1).2.2.2)
noncomputable def A49 (a0:List Int) (a1:Int):=N8 (A8n a0 a1) ((a0.take (IntKind.wrap .i64 ((IntKind.wrap .i64 (((B9 a0 a1).2.1)+((B9 a0 a1).1)))+(4:Int))).toNat).drop a1.toNat)
noncomputable def A3c (a0:List Int) (a1:Int):=let z1:=P0 a0 a1;A2d (z1.1) ((A6 (z1.2.1) (z1.2.2.1) (z1.2.2.2)).1) []
noncomputable def A8o (a0:List Int) (a1:Int):=let z1:=P0 a0 a1;A0e (z1.1) ((A6 (z1.2.1) (z1.2.2.1) (z1.2.2.2)).1) []
noncomputable def A5a (a0:List Int) (a1:Int):=N8 (A8o a0 a1) ((a0.take (IntKind.wrap .i64 ((IntKind.wrap .i64 (((B9 a0 a1).2.1)+((B9 a0 a1).1)))+(4:Int))).toNat).drop a1.toNat)
noncomputable def V4 (a0:List Int) (a1:Int):Int×Int×Int×Bool×Lq1:=let z2:=P0 a0 a1;let z1:=A6 (z2.2.1) (z2.2.2.1) (z2.2.2.2);let z3:=B9 a0 a1;let z4:=(IntKind.wrap .i64 ((z3.2.1)+(z3.1)))+(4:Int);(cond (!(z3.2.2)) ((0:Int),(0:Int),a1,false,([]:Lq1)) (cond (decide ((z3.1) > (IntKind.wrap .i64 ((IntKind.wrap .i64 ((a0.length:Int) - (z3.2.1))) - (4:Int))))) ((0:Int),(0:Int),a1,false,([]:Lq1)) (cond ((z2.1)==(1:Int)) (cond ((T4 a0 a1).2.2.1) ((0:Int),(0:Int),a1,false,([]:Lq1)) (cond (!(A29 a0 a1)) ((0:Int),(0:Int),a1,false,([]:Lq1)) (cond (!(A49 a0 a1)) ((0:Int),(0:Int),a1,false,([]:Lq1)) ((z2.1),(z1.1),IntKind.wrap .i64 z4,true,((T4 a0 a1).2.2.2))))) (cond (z1.2.2.2) ((0:Int),(0:Int),a1,false,([]:Lq1)) (cond (!(A3c a0 a1)) ((0:Int),(0:Int),a1,false,([]:Lq1)) (cond (!(A5a a0 a1)) ((0:Int),(0:Int),a1,false,([]:Lq1)) ((z2.1),(z1.1),IntKind.wrap .i64 z4,true,([]:Lq1))))))))
noncomputable abbrev K6 (r:Int×Int×Int×Bool×Lq1):AV×List AObj:=((.tup [(.agg [(ti r.1),(ti r.2.1),(.all 0 3)]),(ti r.2.2.1),(.t true .bool r.2.2.2.1)]),[(.rows 124 true tq3 r.2.2.2.2)])
noncomputable abbrev A91:pshsDen A4c→AV×List AObj:=fun d=>K6 (V4 d.1 d.2.1)
noncomputable def A0C (a0:List Int) (a1:Int):Bool:=let z3:=P0 a0 a1;let z1:=A6 (z3.2.1) (z3.2.2.1) (z3.2.2.2);let z5:=B9 a0 a1;let z2:=IntKind.wrap .i64 ((z5.2.1)+(z5.1));let z6:=T4 a0 a1;let z7:=IntKind.wrap .i64 (z2+(4:Int));let z4:=decide (0≤a1∧a1≤z7∧z7≤(a0.length:Int));(Q2 a0 a1)&&(cond (!(z5.2.2)) true (cond (decide ((z5.1) > (IntKind.wrap .i64 ((IntKind.wrap .i64 ((a0.length:Int) - (z5.2.1))) - (4:Int))))) true ((decide (0≤(z5.2.1)∧(z5.2.1)≤z2∧z2≤(a0.length:Int)))&&((B8 ((a0.take z2.toNat).drop (z5.2.1).toNat) (0:Int) false)&&((B8 (z3.2.1) (z3.2.2.1) (z3.2.2.2))&&(cond ((z3.1)==(1:Int)) ((P1 (z1.2.1) (z1.2.2.1) (z1.2.2.2))&&(cond (z6.2.2.1) true ((J5 (z3.1) (z1.1) (z6.2.2.2))&&(cond (!(A29 a0 a1)) true ((M5 (z3.1) (z1.1) (z6.2.2.2))&&z4))))) (cond (z1.2.2.2) true ((J5 (z3.1) (z1.1) [])&&(cond (!(A3c a0 a1)) true ((M5 (z3.1) (z1.1) [])&&z4))))))))))
noncomputable abbrev A6j:pshsDen A4c→Bool:=fun d=>A0C d.1 d.2.1
theorem B5i:RunP false G54 aLn Try.f28 A4c A6j A91:=by
 rintro ⟨a0,⟨a1,_⟩⟩ hp
 change A0C a0 a1=true at hp
 unfold A0C at hp
 refine Eq.trans (b:=(let z3:=K6 ((0:Int),(0:Int),a1,false,([]:Lq1));let z4:=P0 a0 a1;let z1:=A6 (z4.2.1) (z4.2.2.1) (z4.2.2.2);let z6:=B9 a0 a1;let z2:=IntKind.wrap .i64 ((z6.2.1)+(z6.1));let z7:=(T4 a0 a1).2.2.2;let z8:=IntKind.wrap .i64 (z2+(4:Int));let z5:=decide (0≤a1∧a1≤z8∧z8≤(a0.length:Int));cond (Q2 a0 a1) (cond (!(z6.2.2)) (some z3) (cond (decide ((z6.1) > (IntKind.wrap .i64 ((IntKind.wrap .i64 ((a0.length:Int) - (z6.2.1))) - (4:Int))))) (some z3) (cond (decide (0≤(z6.2.1)∧(z6.2.1)≤z2∧z2≤(a0.length:Int))) (cond (B8 ((a0.take z2.toNat).drop (z6.2.1).toNat) (0:Int) false) (cond (B8 (z4.2.1) (z4.2.2.1) (z4.2.2.2)) (cond ((z4.1)==(1:Int)) (cond (P1 (z1.2.1) (z1.2.2.1) (z1.2.2.2)) (cond ((T4 a0 a1).2.2.1) (some z3) (cond (J5 (z4.1) (z1.1) z7) (cond (!(A29 a0 a1)) (some z3) (cond (M5 (z4.1) (z1.1) z7) (cond z5 (cond (!(A49 a0 a1)) (some z3) (some (K6 ((z4.1),(z1.1),IntKind.wrap .i64 (z2+(4:Int)),true,z7)))) none) none)) none)) none) (cond (z1.2.2.2) (some z3) (cond (J5 (z4.1) (z1.1) []) (cond (!(A3c a0 a1)) (some z3) (cond (M5 (z4.1) (z1.1) []) (cond z5 (cond (!(A5a a0 a1)) (some z3) (some (K6 ((z4.1),(z1.1),IntKind.wrap .i64 (z2+(4:Int)),true,([]:Lq1))))) none) none)) none))) none) none) none))) none)) (by kernel_rfl) ?_
 exact (cndA hp fun hp=>(M2 K6 hp (fun hp=>rfl) (fun hp=>(M2 K6 hp (fun hp=>rfl) (fun hp=>(cndA hp fun hp=>(cndA hp fun hp=>(cndA hp fun hp=>(M2 K6 hp (fun hp=>(cndA hp fun hp=>(M2 K6 hp (fun hp=>rfl) (fun hp=>(cndA hp fun hp=>(M2 K6 hp (fun hp=>rfl) (fun hp=>(cndA hp fun hp=>(cndT hp fun _h=>(L4 K6 (fun _h=>rfl) (fun _h=>rfl))))))))))) (fun hp=>(M2 K6 hp (fun hp=>rfl) (fun hp=>(cndA hp fun hp=>(M2 K6 hp (fun hp=>rfl) (fun hp=>(cndA hp fun hp=>(cndT hp fun _h=>(L4 K6 (fun _h=>rfl) (fun _h=>rfl)))))))))))))))))))
theorem B66:aPP 28 (sumOf A4c A6j A91):=pcD false G54 hlz B5i
noncomputable def S55:Tab:=Tab.add S54 28 (lift (sumOf A4c A6j A91))
noncomputable def C0x:FuncId→Bool:=C0w
theorem G55:aPG S55 C0x:=G54.add B66 (cbl Try.f28) (by kernel_rfl)

abbrev C1a:List Sh:=.junk::.junk::B8Z
abbrev C1b:List Sh:=.junk::.junk::.junk::.junk::.junk::.junk::C1a
abbrev u58:=((),(),u56)
abbrev u65:=((),(),(),(),u61)
abbrev B9B:List AV:=.junk::.junk::B8S
abbrev C0X:List AV:=.junk::.junk::.junk::.junk::.junk::.junk::B9B
abbrev A4j:List PSh:=[.t B4,.t (.int .i64)]
abbrev N4:SS:=⟨(.t false B4::tI::.junk::.junk::.junk::.junk::.junk::tI::tI::B8Z),[]⟩
abbrev U7:SS:=⟨(.junk::.junk::.junk::.junk::tI::tI::.t true .bool::C1a),[]⟩
abbrev Z4:SS:=⟨(.junk::C1b),[]⟩
noncomputable def A9R (x0:List Int) (x1 x7 x8:Int):RT N4.den:=let z2:=IntKind.wrap .i64 ((7:Int)*x8);let z3:=IntKind.wrap .i64 (x1+x8);let z1:=IntKind.wrap .i64 (x0.getD (z3.toNat) (0:Int));let z4:=iand .i64 z1 (127:Int);let z5:=IntKind.bits .i64;(.br (decide (x8<(5:Int))) (.br (decide (x1 ≥ (0:Int))) (.br (decide (x1<(x0.length:Int))) (.br (decide (z3<(x0.length:Int))) (.br (decide (0≤z3∧z3<(x0.length:Int))) (.br (decide (0≤(IntKind.wrap .u64 z2))) (.br (decide (z1 > (127:Int))) (.next ((x0,x1,(),(),(),(),(),ior .i64 x7 (IntKind.wrap .i64 (z4*2 ^ (min (Int.toNat (IntKind.wrap .u64 z2)) z5))),IntKind.wrap .i64 (x8+(1:Int)),u56),())) (.br (decide (x8 > (0:Int))) (.br (z1==(0:Int)) (.done .ret U7 (((),(),(),(),(0:Int),(0:Int),false,u58),())) (.br (decide ((ior .i64 x7 (IntKind.wrap .i64 (z4*2 ^ (min (Int.toNat (IntKind.wrap .u64 z2)) z5)))) > (1000000000:Int))) (.done .ret U7 (((),(),(),(),(0:Int),(0:Int),false,u58),())) (.done .ret U7 (((),(),(),(),ior .i64 x7 (IntKind.wrap .i64 (z4*2 ^ (min (Int.toNat (IntKind.wrap .u64 z2)) z5))),IntKind.wrap .i64 (z3+(1:Int)),true,u58),())))) (.br (decide ((ior .i64 x7 (IntKind.wrap .i64 (z4*2 ^ (min (Int.toNat (IntKind.wrap .u64 z2)) z5)))) > (1000000000:Int))) (.done .ret U7 (((),(),(),(),(0:Int),(0:Int),false,u58),())) (.done .ret U7 (((),(),(),(),ior .i64 x7 (IntKind.wrap .i64 (z4*2 ^ (min (Int.toNat (IntKind.wrap .u64 z2)) z5))),IntKind.wrap .i64 (z3+(1:Int)),true,u58),()))))) .fail) .fail) (.done (.exit 0) Z4 ((u65),()))) (.done (.exit 0) Z4 ((u65),()))) (.done (.exit 0) Z4 ((u65),()))) (.done (.exit 0) Z4 ((u65),())))
abbrev A1N:=(List Int)×(Int)×(Int)×(Int)
abbrev A0s:=Nat×(Int)×(Int)×(Bool)
def A40:A0s:=(99,((0:Int):Int),((0:Int):Int),(false:Bool))
noncomputable def Z2 (x0:List Int) (x1 x7 x8:Int):A1N ⊕ A0s:=let z2:=IntKind.wrap .i64 ((7:Int)*x8);let z3:=IntKind.wrap .i64 (x1+x8);let z1:=IntKind.wrap .i64 (x0.getD (z3.toNat) (0:Int));let z4:=iand .i64 z1 (127:Int);let z5:=IntKind.bits .i64;(cond (decide (x8<(5:Int))) (cond (decide (x1 ≥ (0:Int))) (cond (decide (x1<(x0.length:Int))) (cond (decide (z3<(x0.length:Int))) (cond (decide (0≤z3∧z3<(x0.length:Int))) (cond (decide (0≤(IntKind.wrap .u64 z2))) (cond (decide (z1 > (127:Int))) (.inl (x0,x1,ior .i64 x7 (IntKind.wrap .i64 (z4*2 ^ (min (Int.toNat (IntKind.wrap .u64 z2)) z5))),IntKind.wrap .i64 (x8+(1:Int)))) (cond (decide (x8 > (0:Int))) (cond (z1==(0:Int)) (.inr (0,(0:Int),(0:Int),false)) (cond (decide ((ior .i64 x7 (IntKind.wrap .i64 (z4*2 ^ (min (Int.toNat (IntKind.wrap .u64 z2)) z5)))) > (1000000000:Int))) (.inr (0,(0:Int),(0:Int),false)) (.inr (0,ior .i64 x7 (IntKind.wrap .i64 (z4*2 ^ (min (Int.toNat (IntKind.wrap .u64 z2)) z5))),IntKind.wrap .i64 (z3+(1:Int)),true)))) (cond (decide ((ior .i64 x7 (IntKind.wrap .i64 (z4*2 ^ (min (Int.toNat (IntKind.wrap .u64 z2)) z5)))) > (1000000000:Int))) (.inr (0,(0:Int),(0:Int),false)) (.inr (0,ior .i64 x7 (IntKind.wrap .i64 (z4*2 ^ (min (Int.toNat (IntKind.wrap .u64 z2)) z5))),IntKind.wrap .i64 (z3+(1:Int)),true))))) (.inr A40)) (.inr A40)) (.inr (1,((0:Int):Int),((0:Int):Int),(false:Bool)))) (.inr (1,((0:Int):Int),((0:Int):Int),(false:Bool)))) (.inr (1,((0:Int):Int),((0:Int):Int),(false:Bool)))) (.inr (1,((0:Int):Int),((0:Int):Int),(false:Bool))))
noncomputable def O2 (x0:List Int) (x1 x7 x8:Int):A0s:=itX (fun v:A1N=>Z2 v.1 v.2.1 v.2.2.1 v.2.2.2) A40 (x0,x1,x7,x8)
noncomputable def A4R (a:A0s):CT:=(.br (a.1==0) (.done .ret U7 (((),(),(),(),a.2.1,a.2.2.1,a.2.2.2,u58),())) (.br (a.1==1) (.done (.exit 0) Z4 ((u65),())) .fail))
noncomputable def B4y (x0:List Int) (x1 x7 x8:Int):CT:=A4R (O2 x0 x1 x7 x8)
noncomputable abbrev A2n {α:Sort _} (f:(List Int)→Int→Int→Int→α) (d:N4.den):α:=f d.1.1 d.1.2.1 d.1.2.2.2.2.2.2.2.1 d.1.2.2.2.2.2.2.2.2.1
noncomputable abbrev A5s:N4.den→RT N4.den:=(A2n A9R)
noncomputable def A55:Code:=((loopsIn 0 (bodyOf Try.f83)).getD 0 (0,.skip)).2
noncomputable abbrev A9p (v:A1N):N4.den:=((v.1,v.2.1,(),(),(),(),(),v.2.2.1,v.2.2.2,u56),())
theorem B37:(∀ v:A1N,(A9R v.1 v.2.1 v.2.2.1 v.2.2.2).val=relS A9p A4R (Z2 v.1 v.2.1 v.2.2.1 v.2.2.2))∧∀ a:A0s,CEnd N4.den (A4R a):=⟨fun v=>by repeat' first | apply relB | rfl,fun a=>(cendB aCD (cendB aCD cendF))⟩
noncomputable def A89 (x0:List Int) (x1 x7 x8:Int):Option (Ex×St):=let z3:=(⟨(.junk::.junk::.junk::.junk::(ti (0:Int))::(ti (0:Int))::(.t true .bool false)::B9B),[],0,[]⟩:St);let z4:=IntKind.wrap .i64 ((7:Int)*x8);let z5:=IntKind.wrap .i64 (x1+x8);let z1:=IntKind.wrap .i64 (x0.getD (z5.toNat) (0:Int));let z6:=(⟨(.junk::C0X),[],0,[]⟩:St);let z7:=iand .i64 z1 (127:Int);let z8:=IntKind.bits .i64;let z2:=(⟨(.junk::.junk::.junk::.junk::(ti (ior .i64 x7 (IntKind.wrap .i64 (z7*2 ^ (min (Int.toNat (IntKind.wrap .u64 z4)) z8)))))::(ti (IntKind.wrap .i64 (z5+(1:Int))))::(.t true .bool true)::B9B),[],0,[]⟩:St);(cond (decide (x8<(5:Int))) (cond (decide (x1 ≥ (0:Int))) (cond (decide (x1<(x0.length:Int))) (cond (decide (z5<(x0.length:Int))) (cond (decide (0≤z5∧z5<(x0.length:Int))) (cond (decide (0≤(IntKind.wrap .u64 z4))) (cond (decide (z1 > (127:Int))) (some (.normal,(⟨((.t false B4 x0)::(ti x1)::.junk::.junk::.junk::.junk::.junk::(ti (ior .i64 x7 (IntKind.wrap .i64 (z7*2 ^ (min (Int.toNat (IntKind.wrap .u64 z4)) z8)))))::(ti (IntKind.wrap .i64 (x8+(1:Int))))::B8S),[],0,[]⟩:St))) (cond (decide (x8 > (0:Int))) (cond (z1==(0:Int)) (some (.ret,z3)) (cond (decide ((ior .i64 x7 (IntKind.wrap .i64 (z7*2 ^ (min (Int.toNat (IntKind.wrap .u64 z4)) z8)))) > (1000000000:Int))) (some (.ret,z3)) (some (.ret,z2)))) (cond (decide ((ior .i64 x7 (IntKind.wrap .i64 (z7*2 ^ (min (Int.toNat (IntKind.wrap .u64 z4)) z8)))) > (1000000000:Int))) (some (.ret,z3)) (some (.ret,z2))))) none) none) (some ((.exit 0),z6))) (some ((.exit 0),z6))) (some ((.exit 0),z6))) (some ((.exit 0),z6)))
theorem B2A:RdA G55 aLn 0 A55 N4 0 [] (kepts [4,5,6] [(0,[])]) (A2n A89):=by
 intro d
 kernel_rfl
theorem B2M:∀ d:N4.den,(A2n A89) d=(A5s d).opt 0 []:=by
 intro d
 kernel_rfl
noncomputable abbrev A70:St→Option Tree:=N4.say 0 [] [] (A2n B4y)
theorem B3M:aPL A70 A55:=SS.wp2 hlz [] A5s B2A B2M _ (fun d=>Runs.ofI2 (step:=A5s) A9p B37 rfl (d.1.1,d.1.2.1,d.1.2.2.2.2.2.2.2.1,d.1.2.2.2.2.2.2.2.2.1))
noncomputable def A4 (a0:List Int) (a1:Int):Int×Int×Bool:=let z1:=O2 a0 a1 (0:Int) (0:Int);(cond (z1.1==0) ((z1.2.1),(z1.2.2.1),(z1.2.2.2)) ((0:Int),(0:Int),false))
noncomputable abbrev A62 (r:Int×Int×Bool):AV×List AObj:=((.tup [(ti r.1),(ti r.2.1),(.t true .bool r.2.2)]),[])
noncomputable abbrev A98:pshsDen A4j→AV×List AObj:=fun d=>A62 (A4 d.1 d.2.1)
noncomputable def E5 (a0:List Int) (a1:Int):Bool:=let z1:=O2 a0 a1 (0:Int) (0:Int);cond (z1.1==0) true (z1.1==1)
noncomputable abbrev A6r:pshsDen A4j→Bool:=fun d=>E5 d.1 d.2.1
noncomputable abbrev B6Y:Nat→St→Option Tree:=fun b=>match b with | 0=>A70 | _=>fun _=>none
theorem B5r:RunP true G55 (B6Y) Try.f83 A4j A6r A98:=by
 rintro ⟨a0,⟨a1,_⟩⟩ hp
 change E5 a0 a1=true at hp
 unfold E5 at hp
 refine Eq.trans (b:=(let z1:=O2 a0 a1 (0:Int) (0:Int);cond (z1.1==0) (some (A62 ((z1.2.1),(z1.2.2.1),(z1.2.2.2)))) (cond (z1.1==1) (some (A62 ((0:Int),(0:Int),false))) none))) (by kernel_rfl) ?_
 exact (M2 A62 hp (fun hp=>rfl) (fun hp=>(cndT hp fun _h=>rfl)))
theorem B7f:aPP 83 (sumOf A4j A6r A98):=pcD true G55 (hl1 (i:=0) (by kernel_rfl) B3M) B5r
noncomputable def S56:Tab:=Tab.add S55 83 (lift (sumOf A4j A6r A98))
noncomputable def C0y:FuncId→Bool:=qadd C0x 83
theorem G56:aPG S56 C0y:=G55.addQ B7f (cbl Try.f83) (fun _=>rfl)

abbrev A2N:List PSh:=[.t B4,.t (.int .i64)]
noncomputable def A04 (a0:List Int) (a1:Int):ByteArray×Int×Bool:=(cond (!((A4 a0 a1).2.2)) (bE,(0:Int),false) (cond (decide (((A4 a0 a1).1) > (IntKind.wrap .i64 ((a0.length:Int) - ((A4 a0 a1).2.1))))) (bE,(0:Int),false) ((⟨(((a0.take (IntKind.wrap .i64 (((A4 a0 a1).2.1)+((A4 a0 a1).1))).toNat).drop ((A4 a0 a1).2.1).toNat).map fun n=>UInt8.ofNat n.toNat).toArray⟩:ByteArray),IntKind.wrap .i64 (((A4 a0 a1).2.1)+((A4 a0 a1).1)),true)))
noncomputable abbrev A1d (r:ByteArray×Int×Bool):AV×List AObj:=((.tup [(.t true .str r.1),(ti r.2.1),(.t true .bool r.2.2)]),[])
noncomputable abbrev A8i:pshsDen A2N→AV×List AObj:=fun d=>A1d (A04 d.1 d.2.1)
noncomputable def M0 (a0:List Int) (a1:Int):Bool:=let z1:=A4 a0 a1;let z2:=IntKind.wrap .i64 ((z1.2.1)+(z1.1));(E5 a0 a1)&&(cond (!(z1.2.2)) true (cond (decide ((z1.1) > (IntKind.wrap .i64 ((a0.length:Int) - (z1.2.1))))) true (decide (0≤(z1.2.1)∧(z1.2.1)≤z2∧z2≤(a0.length:Int)))))
noncomputable abbrev A5h:pshsDen A2N→Bool:=fun d=>M0 d.1 d.2.1
theorem B4g:RunP true G56 aLn Try.f123 A2N A5h A8i:=by
 rintro ⟨a0,⟨a1,_⟩⟩ hp
 change M0 a0 a1=true at hp
 unfold M0 at hp
 refine Eq.trans (b:=(cond (E5 a0 a1) (cond (!((A4 a0 a1).2.2)) (some (A1d ((⟨#[]⟩:ByteArray),(0:Int),false))) (cond (decide (((A4 a0 a1).1) > (IntKind.wrap .i64 ((a0.length:Int) - ((A4 a0 a1).2.1))))) (some (A1d ((⟨#[]⟩:ByteArray),(0:Int),false))) (cond (decide (0≤((A4 a0 a1).2.1)∧((A4 a0 a1).2.1)≤(IntKind.wrap .i64 (((A4 a0 a1).2.1)+((A4 a0 a1).1)))∧(IntKind.wrap .i64 (((A4 a0 a1).2.1)+((A4 a0 a1).1)))≤(a0.length:Int))) (some (A1d ((⟨(((a0.take (IntKind.wrap .i64 (((A4 a0 a1).2.1)+((A4 a0 a1).1))).toNat).drop ((A4 a0 a1).2.1).toNat).map fun n=>UInt8.ofNat n.toNat).toArray⟩:ByteArray),IntKind.wrap .i64 (((A4 a0 a1).2.1)+((A4 a0 a1).1)),true))) none))) none)) (by kernel_rfl) ?_
 exact (cndA hp fun hp=>(M2 A1d hp (fun hp=>rfl) (fun hp=>(M2 A1d hp (fun hp=>rfl) (fun hp=>(cndT hp fun _h=>rfl))))))
theorem B5Z:aPP 123 (sumOf A2N A5h A8i):=pcD true G56 hlz B4g
noncomputable def S57:Tab:=Tab.add S56 123 (lift (sumOf A2N A5h A8i))
noncomputable def C0z:FuncId→Bool:=qadd C0y 123
theorem G57:aPG S57 C0z:=G56.addQ B5Z (cbl Try.f123) (fun _=>rfl)

abbrev C1O:List Sh:=.junk::.junk::.junk::.junk::.junk::.junk::.junk::.junk::.junk::.junk::.junk::.junk::.junk::.junk::.junk::.junk::.junk::C1b
abbrev u81:=((),(),(),(),(),(),(),(),(),(),(),(),(),(),(),(),u65)
abbrev u84:=((),(),u82)
abbrev C1D:List AV:=.junk::.junk::.junk::.junk::.junk::.junk::.junk::.junk::.junk::.junk::.junk::.junk::.junk::.junk::.junk::.junk::.junk::C0X
abbrev A4k:List PSh:=[.t B4]
abbrev N5:SS:=⟨(.t false B4::.junk::.junk::.junk::.all 0 3::tI::tI::.junk::.all 1 3::tI::C1O),[.rows 124 true tq3,.rows 124 true tq3]⟩
abbrev A1r:SS:=⟨(.junk::.junk::.all 0 3::.t true .bool::C1c),[.rows 124 true tq3]⟩
abbrev A7k:SS:=⟨(.t false B4::.junk::.junk::.junk::.all 0 3::.junk::tI::.junk::.all 1 3::B80),[.rows 124 true tq3,.rows 124 true tq3]⟩
noncomputable def A9S (x0:List Int) (x5 x6 x9:Int) (h0 h1:Lq1):RT N5.den:=let z3:=A4 x0 x6;let z1:=A04 x0 (z3.2.1);let z2:=A04 x0 (z1.2.1);(.br (decide (x9<x5)) (.br (E5 x0 x6) (.br (M0 x0 (z3.2.1)) (.br (M0 x0 (z1.2.1)) (.br (!(z3.2.2)) (.done .ret A1r (((),(),(),false,u87),(h0,()))) (.br (!(z1.2.2)) (.done .ret A1r (((),(),(),false,u87),(h0,()))) (.br (!(z2.2.2)) (.done .ret A1r (((),(),(),false,u87),(h0,()))) (.br (decide ((h1.length+[((z3.1),((z1.1),(z2.1)))].length)*40≤MAXB)) (.next ((x0,(),(),(),(),x5,(z2.2.1),(),(),IntKind.wrap .i64 (x9+(1:Int)),u81),(h0,h1++[((z3.1),((z1.1),(z2.1)))],()))) .fail)))) .fail) .fail) .fail) (.done (.exit 0) A7k ((x0,(),(),(),(),(),x6,u84),(h0,h1,()))))
abbrev A1O:=(List Int)×(Int)×(Int)×(Int)×Lq1×(Lq1)
abbrev A1F:=Nat×(Bool)×Lq1×(List Int)×(Int)×(Lq1)
def A0X:A1F:=(99,(false:Bool),([]:Lq1),([]:List Int),((0:Int):Int),([]:Lq1))
noncomputable def A2x (x0:List Int) (x5 x6 x9:Int) (h0 h1:Lq1):A1O ⊕ A1F:=let z3:=A4 x0 x6;let z1:=A04 x0 (z3.2.1);let z2:=A04 x0 (z1.2.1);let z4:=([]:List Int);(cond (decide (x9<x5)) (cond (E5 x0 x6) (cond (M0 x0 (z3.2.1)) (cond (M0 x0 (z1.2.1)) (cond (!(z3.2.2)) (.inr (0,false,h0,z4,((0:Int):Int),([]:Lq1))) (cond (!(z1.2.2)) (.inr (0,false,h0,z4,((0:Int):Int),([]:Lq1))) (cond (!(z2.2.2)) (.inr (0,false,h0,z4,((0:Int):Int),([]:Lq1))) (cond (decide ((h1.length+[((z3.1),((z1.1),(z2.1)))].length)*40≤MAXB)) (.inl (x0,x5,(z2.2.1),IntKind.wrap .i64 (x9+(1:Int)),h0,h1++[((z3.1),((z1.1),(z2.1)))])) (.inr A0X))))) (.inr A0X)) (.inr A0X)) (.inr A0X)) (.inr (1,(false:Bool),h0,x0,x6,h1)))
noncomputable def A2t (x0:List Int) (x5 x6 x9:Int) (h0 h1:Lq1):A1F:=itX (fun v:A1O=>A2x v.1 v.2.1 v.2.2.1 v.2.2.2.1 v.2.2.2.2.1 v.2.2.2.2.2) A0X (x0,x5,x6,x9,h0,h1)
noncomputable def A4S (a:A1F):CT:=(.br (a.1==0) (.done .ret A1r (((),(),(),a.2.1,u87),(a.2.2.1,()))) (.br (a.1==1) (.done (.exit 0) A7k ((a.2.2.2.1,(),(),(),(),(),a.2.2.2.2.1,u84),(a.2.2.1,a.2.2.2.2.2,()))) .fail))
noncomputable def B4z (x0:List Int) (x5 x6 x9:Int) (h0 h1:Lq1):CT:=A4S (A2t x0 x5 x6 x9 h0 h1)
noncomputable abbrev A2o {α:Sort _} (f:(List Int)→Int→Int→Int→Lq1→Lq1→α) (d:N5.den):α:=f d.1.1 d.1.2.2.2.2.2.1 d.1.2.2.2.2.2.2.1 d.1.2.2.2.2.2.2.2.2.2.1 d.2.1 d.2.2.1
noncomputable abbrev A5t:N5.den→RT N5.den:=(A2o A9S)
noncomputable def A56:Code:=((loopsIn 0 (bodyOf Try.f84)).getD 0 (0,.skip)).2
noncomputable abbrev A9q (v:A1O):N5.den:=((v.1,(),(),(),(),v.2.1,v.2.2.1,(),(),v.2.2.2.1,u81),(v.2.2.2.2.1,v.2.2.2.2.2,()))
theorem B38:(∀ v:A1O,(A9S v.1 v.2.1 v.2.2.1 v.2.2.2.1 v.2.2.2.2.1 v.2.2.2.2.2).val=relS A9q A4S (A2x v.1 v.2.1 v.2.2.1 v.2.2.2.1 v.2.2.2.2.1 v.2.2.2.2.2))∧∀ a:A1F,CEnd N5.den (A4S a):=⟨fun v=>by repeat' first | apply relB | rfl,fun a=>(cendB aCD (cendB aCD cendF))⟩
noncomputable def A9a (x0:List Int) (x5 x6 x9:Int) (h0 h1:Lq1):Option (Ex×St):=let z2:=(⟨(.junk::.junk::(.all 0 3)::(.t true .bool false)::C0Y),[(.rows 124 true tq3 h0)],0,[]⟩:St);let z4:=A4 x0 x6;let z1:=A04 x0 (z4.2.1);let z3:=A04 x0 (z1.2.1);(cond (decide (x9<x5)) (cond (E5 x0 x6) (cond (M0 x0 (z4.2.1)) (cond (M0 x0 (z1.2.1)) (cond (!(z4.2.2)) (some (.ret,z2)) (cond (!(z1.2.2)) (some (.ret,z2)) (cond (!(z3.2.2)) (some (.ret,z2)) (cond (decide ((h1.length+[((z4.1),((z1.1),(z3.1)))].length)*40≤MAXB)) (some (.normal,(⟨((.t false B4 x0)::.junk::.junk::.junk::(.all 0 3)::(ti x5)::(ti (z3.2.1))::.junk::(.all 1 3)::(ti (IntKind.wrap .i64 (x9+(1:Int))))::C1D),[(.rows 124 true tq3 h0),(.rows 124 true tq3 (h1++[((z4.1),((z1.1),(z3.1)))]))],0,[]⟩:St))) none)))) none) none) none) (some ((.exit 0),(⟨((.t false B4 x0)::.junk::.junk::.junk::(.all 0 3)::.junk::(ti x6)::.junk::(.all 1 3)::B8T),[(.rows 124 true tq3 h0),(.rows 124 true tq3 h1)],0,[]⟩:St))))
theorem B2B:RdA G57 aLn 0 A56 N5 0 [] (kepts [2,3] [(0,[0,4,6,8])]) (A2o A9a):=by
 intro d
 kernel_rfl
theorem B2N:∀ d:N5.den,(A2o A9a) d=(A5t d).opt 0 []:=by
 intro d
 kernel_rfl
noncomputable abbrev A71:St→Option Tree:=N5.say 0 [] [] (A2o B4z)
theorem B3N:aPL A71 A56:=SS.wp2 hlz [] A5t B2B B2N _ (fun d=>Runs.ofI2 (step:=A5t) A9q B38 rfl (d.1.1,d.1.2.2.2.2.2.1,d.1.2.2.2.2.2.2.1,d.1.2.2.2.2.2.2.2.2.2.1,d.2.1,d.2.2.1))
noncomputable def A47 (a0:List Int):=let z1:=A4 a0 (0:Int);A2t a0 (z1.1) (z1.2.1) (0:Int) ([]:Lq1) ([]:Lq1)
noncomputable def B1e (a0:List Int):Lq1×Bool:=let z1:=A47 a0;let z2:=A4 a0 (0:Int);(cond (!(z2.2.2)) (([]:Lq1),false) (cond (decide ((z2.1) > (8:Int))) (([]:Lq1),false) (cond (z1.1==0) ((z1.2.2.1),(z1.2.1)) (cond ((z1.2.2.2.2.1) != (((z1.2.2.2.1).length:Nat):Int)) ((z1.2.2.1),false) (cond (!(I5 (z1.2.2.2.2.2))) ((z1.2.2.1),false) ((z1.2.2.2.2.2),true))))))
noncomputable abbrev U8 (r:Lq1×Bool):AV×List AObj:=((.tup [(.t true tq2 r.1),(.t true .bool r.2)]),[])
noncomputable abbrev A99:pshsDen A4k→AV×List AObj:=fun d=>U8 (B1e d.1)
noncomputable def A1i (a0:List Int):Bool:=let z1:=A47 a0;let z2:=A4 a0 (0:Int);(E5 a0 (0:Int))&&(cond (!(z2.2.2)) true (cond (decide ((z2.1) > (8:Int))) true (cond (z1.1==0) true ((z1.1==1)&&(cond ((z1.2.2.2.2.1) != (((z1.2.2.2.1).length:Nat):Int)) true (X1 (z1.2.2.2.2.2)))))))
noncomputable abbrev A6s:pshsDen A4k→Bool:=fun d=>A1i d.1
noncomputable abbrev B6Z:Nat→St→Option Tree:=fun b=>match b with | 0=>A71 | _=>fun _=>none
theorem B5s:RunP true G57 (B6Z) Try.f84 A4k A6s A99:=by
 rintro ⟨a0,_⟩ hp
 change A1i a0=true at hp
 unfold A1i at hp
 refine Eq.trans (b:=(let z1:=A47 a0;let z2:=U8 ((z1.2.2.1),false);let z3:=U8 (([]:Lq1),false);let z4:=A4 a0 (0:Int);cond (E5 a0 (0:Int)) (cond (!(z4.2.2)) (some z3) (cond (decide ((z4.1) > (8:Int))) (some z3) (cond (z1.1==0) (some (U8 ((z1.2.2.1),(z1.2.1)))) (cond (z1.1==1) (cond ((z1.2.2.2.2.1) != (((z1.2.2.2.1).length:Nat):Int)) (some z2) (cond (X1 (z1.2.2.2.2.2)) (cond (!(I5 (z1.2.2.2.2.2))) (some z2) (some (U8 ((z1.2.2.2.2.2),true)))) none)) none)))) none)) (by kernel_rfl) ?_
 exact (cndA hp fun hp=>(M2 U8 hp (fun hp=>rfl) (fun hp=>(M2 U8 hp (fun hp=>rfl) (fun hp=>(M2 U8 hp (fun hp=>rfl) (fun hp=>(cndA hp fun hp=>(M2 U8 hp (fun hp=>rfl) (fun hp=>(cndT hp fun _h=>(L4 U8 (fun _h=>rfl) (fun _h=>rfl)))))))))))))
theorem B7g:aPP 84 (sumOf A4k A6s A99):=pcD true G57 (hl1 (i:=0) (by kernel_rfl) B3N) B5s
noncomputable def S58:Tab:=Tab.add S57 84 (lift (sumOf A4k A6s A99))
noncomputable def C0A:FuncId→Bool:=qadd C0z 84
theorem G58:aPG S58 C0A:=G57.addQ B7g (cbl Try.f84) (fun _=>rfl)


end Go.Proofs.Ytccelbeahdcooaa.Eng
