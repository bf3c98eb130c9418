/- What the functions that FnExactCrashCoord reaches compute: further. -/
import Derived.Test.YtapikgcgahomlaaFExactCrashCoordA
namespace Go.Proofs.Ytapikgcgahomlaa.Eng
open Go Go.RowKit
set_option linter.unusedSimpArgs false
set_option linter.unusedVariables false
set_option maxRecDepth 10000
abbrev C9w:List Sh:=.junk::.junk::.junk::.junk::.junk::.junk::.junk::.junk::.junk::.junk::[]
abbrev C9z:List Sh:=.junk::C9y
abbrev u15:=((),u14)
abbrev u11:=((),(),(),(),(),(),(),(),(),(),())
abbrev u20:=((),u19)
abbrev M3:SS:=⟨[.t false tq4,.fn 92 [0]],[.box [tI]]⟩
abbrev I4:SS:=⟨(.t false tq4::.fn 92 [0]::.junk::.junk::.junk::.junk::.junk::tI::tI::C9w),[.box [tI]]⟩
abbrev W7:SS:=⟨(.junk::.junk::.junk::.junk::tI::C9z),[.box [tI]]⟩
abbrev W8:SS:=⟨(.junk::C6f),[.box [tI]]⟩
noncomputable def Q8 (x0:LIbe) (x8 p0:Int):=let z1:=x0.getD x8.toNat ((0:Int),false);A9H (z1.1) (z1.2) p0
noncomputable def Y2 (x0:LIbe) (x7 x8 p0:Int):RT I4.den:=(.br (decide (x8<x7)) (.br (decide (0≤x8∧x8<(x0.length:Int))) (.br (Q8 x0 x8 p0) (.done .ret W7 (((),(),(),(),x8,u15),((p0,()),()))) (.next ((x0,(),(),(),(),(),(),x7,wI (x8+(1:Int)),u11),((p0,()),())))) .fail) (.done (.exit 0) W8 ((u20),((p0,()),()))))
abbrev L9:=(LIbe)×(Int)×(Int)
abbrev K5:=Nat×(Int)
def X5:K5:=(99,((0:Int):Int))
noncomputable def L7 (x0:LIbe) (x7 x8 p0:Int):L9 ⊕ K5:=(cond (decide (x8<x7)) (cond (decide (0≤x8∧x8<(x0.length:Int))) (cond (Q8 x0 x8 p0) (.inr (0,x8)) (.inl (x0,x7,wI (x8+(1:Int))))) (.inr X5)) (.inr (1,((0:Int):Int))))
noncomputable def K1 (x0:LIbe) (x7 x8 p0:Int):K5:=itX (fun v:L9=>L7 v.1 v.2.1 v.2.2 p0) X5 (x0,x7,x8)
noncomputable def O9 (p0:Int) (a:K5):CT:=(.br (a.1==0) (.done .ret W7 (((),(),(),(),a.2,u15),((p0,()),()))) (.br (a.1==1) (.done (.exit 0) W8 ((u20),((p0,()),()))) .fail))
noncomputable def B07 (x0:LIbe) (x7 x8 p0:Int):CT:=(O9 p0) (K1 x0 x7 x8 p0)
noncomputable abbrev X4 {α:Sort _} (f:LIbe→Int→Int→Int→α) (d:I4.den):α:=f d.1.1 d.1.2.2.2.2.2.2.2.1 d.1.2.2.2.2.2.2.2.2.1 d.2.1.1
noncomputable abbrev P6:I4.den→RT I4.den:=(X4 Y2)
noncomputable def W1:Code:=((C9 0 (A0N Try.f91)).getD 0 (0,.skip)).2
noncomputable abbrev X6 (p0:Int) (v:L9):I4.den:=((v.1,(),(),(),(),(),(),v.2.1,v.2.2,u11),((p0,()),()))
theorem B0Y (p0:Int):(∀ v:L9,(Y2 v.1 v.2.1 v.2.2 p0).val=A6u (X6 p0) (O9 p0) (L7 v.1 v.2.1 v.2.2 p0))∧∀ a:K5,CEnd I4.den ((O9 p0) a):=⟨fun v=>(A7x (A7x (A7x rfl rfl) rfl) rfl),fun a=>(A7k aCD (A7k aCD A7m))⟩
theorem B0m:RdA G39 aLn 0 W1 I4 1 [] (kepts [4] [(0,[])]) (fun d=>(P6 d).opt 1 []):=by
 intro d
 kernel_rfl
noncomputable abbrev X2:St→Option Tree:=I4.say 1 [] [] (X4 B07)
theorem B0U:aPL X2 W1:=SS.wp2 hlz [] P6 B0m (fun d=>rfl) _ (fun d=>Runs.ofI2 (step:=P6) (X6 d.2.1.1) (B0Y d.2.1.1) rfl (d.1.1,d.1.2.2.2.2.2.2.2.1,d.1.2.2.2.2.2.2.2.2.1))
noncomputable def O4 (x0:LIbe) (p0:Int):Int:=let z1:=K1 x0 (x0.length:Int) (0:Int) p0;(cond (z1.1==0) (z1.2) (-1:Int))
noncomputable abbrev M8 (p0 r:Int):AV×List AObj×List Nat:=((ti r),[(.box [(ti p0)])],[])
noncomputable abbrev A7S:M3.den→AV×List AObj×List Nat:=fun d=>M8 d.2.1.1 (O4 d.1.1 d.2.1.1)
noncomputable def J7 (x0:LIbe) (p0:Int):Bool:=let z1:=K1 x0 (x0.length:Int) (0:Int) p0;cond (z1.1==0) true (z1.1==1)
noncomputable abbrev A0a:M3.den→Bool:=fun d=>J7 d.1.1 d.2.1.1
noncomputable abbrev B12:Nat→St→Option Tree:=fun b=>match b with | 0=>X2 | _=>fun _=>none
theorem B1h:A7r G39 (B12) Try.f91 M3 A0a A7S:=by
 rintro ⟨⟨x0,_,_⟩,⟨⟨p0,_⟩,_⟩⟩ hp
 change J7 x0 p0=true at hp
 unfold J7 at hp
 refine Eq.trans (b:=(let z1:=K1 x0 (x0.length:Int) (0:Int) p0;cond (z1.1==0) (some (M8 p0 (z1.2))) (cond (z1.1==1) (some (M8 p0 (-1:Int))) none))) (by kernel_rfl) ?_
 exact (K6 (M8 p0) hp (fun hp=>rfl) (fun hp=>(A7v hp fun _h=>rfl)))
noncomputable abbrev A7Z:=winQ (msum M3 A0a A7S)
theorem B2l:aPM 91 A7Z:=(mcM G39 (hl1 (i:=0) (by kernel_rfl) B0U) B1h).winQ (A6U fun d=>⟨rfl,rfl⟩)
noncomputable def S40:Tab:=Tab.add S39 91 (A7Z)
noncomputable def D0a:FuncId→Bool:=qadd C99 91
theorem G40:aPG S40 D0a:=G39.addMQ B2l (A60 _) (cbl Try.f91) (A5z _)

abbrev Y5:SS:=⟨[.ptr 0 0 1 0,tI],[.box [tI,tI,tI,.t false tq2,.t false tq4,tI]]⟩
noncomputable def M0 (x1 p0 p1 p2:Int) (p3:LT1) (p4:LIbe) (p5:Int):Int:=(O4 p4 x1)
noncomputable abbrev B29 (p0 p1 p2:Int) (p3:LT1) (p4:LIbe) (p5 r:Int):AV×List AObj×List Nat:=((ti r),[(.box [(ti p0),(ti p1),(ti p2),(.t false tq2 p3),(.t false tq4 p4),(ti p5)])],[])
noncomputable abbrev B3i:Y5.den→AV×List AObj×List Nat:=fun d=>B29 d.2.1.1 d.2.1.2.1 d.2.1.2.2.1 d.2.1.2.2.2.1 d.2.1.2.2.2.2.1 d.2.1.2.2.2.2.2.1 (M0 d.1.2.1 d.2.1.1 d.2.1.2.1 d.2.1.2.2.1 d.2.1.2.2.2.1 d.2.1.2.2.2.2.1 d.2.1.2.2.2.2.2.1)
noncomputable def J9 (x1 p0 p1 p2:Int) (p3:LT1) (p4:LIbe) (p5:Int):Bool:=J7 p4 x1
noncomputable abbrev B1s:Y5.den→Bool:=fun d=>J9 d.1.2.1 d.2.1.1 d.2.1.2.1 d.2.1.2.2.1 d.2.1.2.2.2.1 d.2.1.2.2.2.2.1 d.2.1.2.2.2.2.2.1
theorem B7X:A7r G40 aLn Try.f49 Y5 B1s B3i:=by
 rintro ⟨⟨_,x1,_⟩,⟨⟨p0,p1,p2,p3,p4,p5,_⟩,_⟩⟩ hp
 change J9 x1 p0 p1 p2 p3 p4 p5=true at hp
 unfold J9 at hp
 refine Eq.trans (b:=(cond (J7 p4 x1) (some (B29 p0 p1 p2 p3 p4 p5 (O4 p4 x1))) none)) (by kernel_rfl) ?_
 exact (A7v hp fun _h=>rfl)
noncomputable abbrev B3m:=winQ (msum Y5 B1s B3i)
theorem B9H:aPM 49 B3m:=(mcM G40 hlz B7X).winQ (A6U fun d=>⟨rfl,rfl⟩)
noncomputable def S41:Tab:=Tab.add S40 49 (B3m)
noncomputable def D0b:FuncId→Bool:=qadd D0a 49
theorem G41:aPG S41 D0b:=G40.addMQ B9H (A60 _) (cbl Try.f49) (A5z _)

abbrev A9k:List PSh:=[.t (.int .u8)]
noncomputable def B2w (a0:Int):Bool:=let z1:=decide (a0 ≥ (48:Int));let z2:=decide (a0≤(57:Int));(cond (decide (a0 ≥ (97:Int))) (cond (decide (a0≤(122:Int))) true (cond z1 z2 false)) (cond z1 z2 false))
noncomputable abbrev Q7 (r:Bool):AV×List AObj:=((.t true .bool r),[])
noncomputable abbrev B42:H6 A9k→AV×List AObj:=fun d=>Q7 (B2w d.1)
noncomputable abbrev B2F:H6 A9k→Bool:=fun d=>true
theorem C3e:A7s true G41 aLn Try.f158 A9k B2F B42:=by
 rintro ⟨a0,_⟩ hp
 refine Eq.trans (b:=(let z1:=Q7 (decide (a0≤(57:Int)));let z2:=decide (a0 ≥ (48:Int));cond (decide (a0 ≥ (97:Int))) (cond (decide (a0≤(122:Int))) (some (Q7 true)) (cond z2 (some z1) (some (Q7 false)))) (cond z2 (some z1) (some (Q7 false))))) (by kernel_rfl) ?_
 exact (O8 Q7 (fun _h=>(O8 Q7 (fun _h=>rfl) (fun _h=>(O8 Q7 (fun _h=>rfl) (fun _h=>rfl))))) (fun _h=>(O8 Q7 (fun _h=>rfl) (fun _h=>rfl))))
theorem C4B:aPP 158 (A2W A9k B2F B42):=pcD true G41 hlz C3e
noncomputable def S42:Tab:=Tab.add S41 158 (lift (A2W A9k B2F B42))
noncomputable def D0c:FuncId→Bool:=qadd D0b 158
theorem G42:aPG S42 D0c:=G41.addQ C4B (cbl Try.f158) (fun _=>rfl)

abbrev D1v:List Sh:=.junk::C9w
abbrev u12:=((),u11)
noncomputable def B49 (s:ByteArray) (i:Nat):Bool:=B2w (bt s (i:Int))
abbrev B36:List PSh:=[.t .str]
abbrev A7G:SS:=⟨(.t true .str::.junk::.junk::tI::D1v),[]⟩
abbrev B7Z:SS:=⟨(.junk::.junk::.t true .bool::C9x),[]⟩
abbrev B70:SS:=⟨(.junk::C9z),[]⟩
noncomputable def B5z (x0:ByteArray) (x3:Int):RT A7G.den:=(.br (decide (x3<(x0.size:Int))) (.br (decide (0≤x3∧x3<(x0.size:Int))) (.br (!(B2w (bt x0 x3))) (.done .ret B7Z (((),(),false,u13),())) (.next ((x0,(),(),wI (x3+(1:Int)),u12),()))) .fail) (.done (.exit 0) B70 ((u16),())))
noncomputable def B0M (x0:ByteArray) (x3:Int):CT:=(.br (decide (0≤x3)&&okS x0) (.br (A4B (B49 x0) (x0.size - x3.toNat) x3.toNat) (.done (.exit 0) B70 ((u16),())) (.done .ret B7Z (((),(),false,u13),()))) .fail)
noncomputable abbrev A9V:A7G.den→RT A7G.den:=(fun d=>B5z d.1.1 d.1.2.2.2.1)
noncomputable abbrev B94 (x0:ByteArray) (x3:Int):A7G.den:=((x0,(),(),x3,u12),())
noncomputable def B6s:Code:=((C9 0 (A0N Try.f156)).getD 0 (0,.skip)).2
theorem C5M (x0:ByteArray) (x3:Int):(B0M x0 x3).val (D:=A7G.den)=.fail∨Runs A9V (B94 x0 x3) (B0M x0 x3).val:=by
 cases hc:(decide (0≤x3)&&okS x0) with
 | false=>left;simp only [B0M,CT.val,hc,cond_false]
 | true =>
  right
  simp only [B0M,CT.val,hc,cond_true]
  simp only [Bool.and_eq_true,decide_eq_true_eq] at hc
  obtain ⟨i,rfl⟩:=Int.eq_ofNat_of_zero_le hc.1
  have hs:=A7h hc.2
  simp only [Int.toNat_natCast]
  refine Runs.scan (fun j=>B94 x0 (j:Int)) (x0.size) (B49 x0) (fun i hi=>?_) (fun i hi=>?_) ⟨_,_,_,rfl,by simp⟩ ⟨_,_,_,rfl,by simp⟩ _ _ rfl
  ·
   have h0a:decide ((i:Int)<(x0.size:Int))=true:=decide_eq_true (by omega)
   have h0b:decide (0≤(i:Int)∧(i:Int)<(x0.size:Int))=true:=decide_eq_true (by omega)
   simp only [A9V,B5z,RT.val,h0a,h0b,cond_true,A7o i (by omega),Int.toNat_natCast]
   simp only [B49]
   cases B2w (bt x0 (i:Int))<;>rfl
  ·have h1:decide ((i:Int)<(x0.size:Int))=false:=decide_eq_false (by omega)
   simp only [A9V,B5z,RT.val,h1,cond_false]
theorem C3P:RdA G42 aLn 0 B6s A7G 0 [] (kepts [2] [(0,[])]) (fun d=>(A9V d).opt 0 []):=by
 intro d
 kernel_rfl
noncomputable abbrev B8z:St→Option Tree:=A7G.say 0 [] [] (fun d=>B0M d.1.1 d.1.2.2.2.1)
theorem C41:aPL B8z B6s:=SS.wp2 hlz [] A9V C3P (fun d=>rfl) _ (fun d=>C5M d.1.1 d.1.2.2.2.1)
noncomputable def C15 (a0:ByteArray):Bool:=(cond (A4B (B49 a0) (a0.size - (0:Int).toNat) (0:Int).toNat) true false)
noncomputable abbrev B7E (r:Bool):AV×List AObj:=((.t true .bool r),[])
noncomputable abbrev C0z:H6 B36→AV×List AObj:=fun d=>B7E (C15 d.1)
noncomputable def B7L (a0:ByteArray):Bool:=okS a0
noncomputable abbrev B60:H6 B36→Bool:=fun d=>B7L d.1
noncomputable abbrev C7J:Nat→St→Option Tree:=fun b=>match b with | 0=>B8z | _=>fun _=>none
theorem C6v:A7s true G42 (C7J) Try.f156 B36 B60 C0z:=by
 rintro ⟨a0,_⟩ hp
 change B7L a0=true at hp
 unfold B7L at hp
 refine Eq.trans (b:=(cond (decide (0≤(0:Int))&&okS a0) (cond (A4B (B49 a0) (a0.size - (0:Int).toNat) (0:Int).toNat) (some (B7E true)) (some (B7E false))) none)) (by kernel_rfl) ?_
 exact (A7v (by first | rfl | decide | exact hp | (simp only [Bool.and_eq_true] at hp;simp only [hp];done) | (simp [*];done) | (simp [okL] at hp;simp [okL,MAXB];omega) | (simp_all;done) | (simp at *;omega)) (fun _h=>(O8 B7E (fun _h=>rfl) (fun _h=>rfl))))
theorem C7U:aPP 156 (A2W B36 B60 C0z):=pcD true G42 (hl1 (i:=0) (by kernel_rfl) C41) C6v
noncomputable def S43:Tab:=Tab.add S42 156 (lift (A2W B36 B60 C0z))
noncomputable def D0d:FuncId→Bool:=qadd D0c 156
theorem G43:aPG S43 D0d:=G42.addQ C7U (cbl Try.f156) (fun _=>rfl)

abbrev B6e:List PSh:=[.t .str]
noncomputable def B3I (a0:ByteArray):Bool:=(cond (J6 (a0.size:Int) (1:Int) (12:Int)) (C15 a0) false)
noncomputable abbrev B9K (r:Bool):AV×List AObj:=((.t true .bool r),[])
noncomputable abbrev C2p:H6 B6e→AV×List AObj:=fun d=>B9K (B3I d.1)
noncomputable def C0c (a0:ByteArray):Bool:=okS a0
noncomputable abbrev B85:H6 B6e→Bool:=fun d=>C0c d.1
theorem C7m:A7s true G43 aLn Try.f141 B6e B85 C2p:=by
 rintro ⟨a0,_⟩ hp
 change C0c a0=true at hp
 unfold C0c at hp
 refine Eq.trans (b:=(cond (J6 (a0.size:Int) (1:Int) (12:Int)) (cond (B7L a0) (some (B9K (C15 a0))) none) (some (B9K false)))) (by kernel_rfl) ?_
 exact (O8 B9K (fun _h=>(A7v (by first | rfl | decide | exact hp | (simp only [Bool.and_eq_true] at hp;simp only [hp];done) | (simp [*];done) | (simp [okL] at hp;simp [okL,MAXB];omega) | (simp_all;done) | (simp at *;omega)) (fun _h=>rfl))) (fun _h=>rfl))
theorem C8q:aPP 141 (A2W B6e B85 C2p):=pcD true G43 hlz C7m
noncomputable def S44:Tab:=Tab.add S43 141 (lift (A2W B6e B85 C2p))
noncomputable def D0e:FuncId→Bool:=qadd D0d 141
theorem G44:aPG S44 D0e:=G43.addQ C8q (cbl Try.f141) (fun _=>rfl)

abbrev B9y:List PSh:=[.agg [(.int .i64),.str,.str]]
noncomputable def C2C (a0:Int) (a1 a2:ByteArray):Bool:=let z1:=decide ((a2.size:Int)≤(20:Int));(cond (a0==(1:Int)) (cond (B3I a1) z1 false) (cond (a0==(3:Int)) (cond (B3I a1) z1 false) (cond (a0==(2:Int)) (cond (B3I a1) (a2.toList==bE.toList) false) false)))
noncomputable abbrev A8b (r:Bool):AV×List AObj:=((.t true .bool r),[])
noncomputable abbrev C4M:H6 B9y→AV×List AObj:=fun d=>A8b (C2C d.1.1 d.1.2.1 d.1.2.2.1)
noncomputable def B7M (a0:Int) (a1 a2:ByteArray):Bool:=okS a1
noncomputable abbrev C0O:H6 B9y→Bool:=fun d=>B7M d.1.1 d.1.2.1 d.1.2.2.1
theorem C79:A7s true G44 aLn Try.f113 B9y C0O C4M:=by
 rintro ⟨⟨a0,⟨a1,⟨a2,_⟩⟩⟩,_⟩ hp
 change B7M a0 a1 a2=true at hp
 unfold B7M at hp
 refine Eq.trans (b:=(let z1:=A8b (decide ((a2.size:Int)≤(20:Int)));let z2:=C0c a1;cond (a0==(1:Int)) (cond z2 (cond (B3I a1) (some z1) (some (A8b false))) none) (cond (a0==(3:Int)) (cond z2 (cond (B3I a1) (some z1) (some (A8b false))) none) (cond (a0==(2:Int)) (cond z2 (cond (B3I a1) (some (A8b (a2.toList==(⟨#[]⟩:ByteArray).toList))) (some (A8b false))) none) (some (A8b false)))))) (by kernel_rfl) ?_
 exact (O8 A8b (fun _h=>(A7v (by first | rfl | decide | exact hp | (simp only [Bool.and_eq_true] at hp;simp only [hp];done) | (simp [*];done) | (simp [okL] at hp;simp [okL,MAXB];omega) | (simp_all;done) | (simp at *;omega)) (fun _h=>(O8 A8b (fun _h=>rfl) (fun _h=>rfl))))) (fun _h=>(O8 A8b (fun _h=>(A7v (by first | rfl | decide | exact hp | (simp only [Bool.and_eq_true] at hp;simp only [hp];done) | (simp [*];done) | (simp [okL] at hp;simp [okL,MAXB];omega) | (simp_all;done) | (simp at *;omega)) (fun _h=>(O8 A8b (fun _h=>rfl) (fun _h=>rfl))))) (fun _h=>(O8 A8b (fun _h=>(A7v (by first | rfl | decide | exact hp | (simp only [Bool.and_eq_true] at hp;simp only [hp];done) | (simp [*];done) | (simp [okL] at hp;simp [okL,MAXB];omega) | (simp_all;done) | (simp at *;omega)) (fun _h=>(O8 A8b (fun _h=>rfl) (fun _h=>rfl))))) (fun _h=>rfl))))))
theorem C8T:aPP 113 (A2W B9y C0O C4M):=pcD true G44 hlz C79
noncomputable def S45:Tab:=Tab.add S44 113 (lift (A2W B9y C0O C4M))
noncomputable def D0f:FuncId→Bool:=qadd D0e 113
theorem G45:aPG S45 D0f:=G44.addQ C8T (cbl Try.f113) (fun _=>rfl)

abbrev u32:=((),(),(),(),(),u27)
abbrev C85:List AV:=.junk::.junk::.junk::C84
noncomputable def C1i (l:Lq1) (i:Nat):Bool:=let z1:=l.getD i dOp;let z2:=l.getD (i - 1) dOp;C2C z1.1 z1.2.1 z1.2.2&&(decide (i=0)||!(Op.bytesLess z1.2.1.toList z2.2.1.toList||(z1.2.1.toList==z2.2.1.toList)))
abbrev B6f:List PSh:=[.t tq5]
abbrev Y7:SS:=⟨(.t false tq5::.junk::.junk::.junk::.junk::.t false tq5::tI::tI::C4W),[]⟩
abbrev B4J:SS:=⟨(.junk::.junk::.t true .bool::C9B),[]⟩
abbrev B9p:SS:=⟨(.t false tq5::C9C),[]⟩
noncomputable def B7s (x0 x5:Lq1) (x6 x7:Int):RT Y7.den:=let z1:=x5.getD x7.toNat ((0:Int),(bE,bE));let z2:=wI (x7 - (1:Int));let z3:=((x0.getD (z2.toNat) ((0:Int),(bE,bE))).2).1;(.br (decide (x7<x6)) (.br (decide (0≤x7∧x7<(x5.length:Int))) (.br (B7M (z1.1) ((z1.2).1) ((z1.2).2)) (.br (!(C2C (z1.1) ((z1.2).1) ((z1.2).2))) (.done .ret B4J (((),(),false,u32),())) (.br (decide (x7 > (0:Int))) (.br (decide (0≤z2∧z2<(x0.length:Int))) (.br (Op.bytesLess ((z1.2).1).toList z3.toList||(((z1.2).1).toList==z3.toList)) (.done .ret B4J (((),(),false,u32),())) (.next ((x0,(),(),(),(),x5,x6,wI (x7+(1:Int)),u27),()))) .fail) (.next ((x0,(),(),(),(),x5,x6,wI (x7+(1:Int)),u27),())))) .fail) .fail) (.done (.exit 0) B9p ((x0,u34),())))
noncomputable def B2d (x0 x5:Lq1) (x6 x7:Int):CT:=(.br (decide (0≤x7)&&(decide (x6=(x5.length:Int))&&(decide (x5=x0)&&Z9 x5))) (.br (A4B (C1i x5) (x5.length - x7.toNat) x7.toNat) (.done (.exit 0) B9p ((x0,u34),())) (.done .ret B4J (((),(),false,u32),()))) .fail)
noncomputable abbrev B24 {α:Sort _} (f:Lq1→Lq1→Int→Int→α) (d:Y7.den):α:=f d.1.1 d.1.2.2.2.2.2.1 d.1.2.2.2.2.2.2.1 d.1.2.2.2.2.2.2.2.1
noncomputable abbrev B0Z:Y7.den→RT Y7.den:=(B24 B7s)
noncomputable abbrev C1u (x0 x5:Lq1) (x6 x7:Int):Y7.den:=((x0,(),(),(),(),x5,x6,x7,u27),())
noncomputable def B79:Code:=((C9 0 (A0N Try.f77)).getD 0 (0,.skip)).2
theorem C6N (x0 x5:Lq1) (x6 x7:Int):(B2d x0 x5 x6 x7).val (D:=Y7.den)=.fail∨Runs B0Z (C1u x0 x5 x6 x7) (B2d x0 x5 x6 x7).val:=by
 cases hc:(decide (0≤x7)&&(decide (x6=(x5.length:Int))&&(decide (x5=x0)&&Z9 x5))) with
 | false=>left;simp only [B2d,CT.val,hc,cond_false]
 | true =>
  right
  simp only [B2d,CT.val,hc,cond_true]
  simp only [Bool.and_eq_true,decide_eq_true_eq] at hc
  obtain ⟨i,rfl⟩:=Int.eq_ofNat_of_zero_le hc.1
  obtain ⟨_,e6,e5,hc⟩:=hc
  subst e5;subst e6
  have hs:=A8f hc
  simp only [Int.toNat_natCast]
  refine Runs.scan (fun j=>C1u x5 x5 (x5.length:Int) (j:Int)) (x5.length) (C1i x5) (fun i hi=>?_) (fun i hi=>?_) ⟨_,_,_,rfl,by simp⟩ ⟨_,_,_,rfl,by simp⟩ _ _ rfl
  ·
   have h0a:decide ((i:Int)<(x5.length:Int))=true:=decide_eq_true (by omega)
   have h0b:decide (0≤(i:Int)∧(i:Int)<(x5.length:Int))=true:=decide_eq_true (by omega)
   simp only [B0Z,B7s,RT.val,h0a,h0b,cond_true,A7o i (by omega),Int.toNat_natCast]
   have hq:B7M (x5.getD i dOp).1 (x5.getD i dOp).2.1 (x5.getD i dOp).2.2=true:=(C6q hc i hi).1
   simp only [dOp] at hq
   simp only [hq,cond_true,C1i,dOp]
   cases C2C (x5.getD i ((0:Int),((⟨#[]⟩:ByteArray),(⟨#[]⟩:ByteArray)))).1 (x5.getD i ((0:Int),((⟨#[]⟩:ByteArray),(⟨#[]⟩:ByteArray)))).2.1 (x5.getD i ((0:Int),((⟨#[]⟩:ByteArray),(⟨#[]⟩:ByteArray)))).2.2 with
   | false=>rfl
   | true =>
    cases i with
    | zero=>rfl
    | succ i =>
     have h3:decide (((i+1:Nat):Int) > 0)=true:=decide_eq_true (by omega)
     have h4:wI (((i+1:Nat):Int) - 1)=(i:Int):=by have:=A6A (n:=((i+1:Nat):Int) - 1) (by omega) (by omega);omega
     have h5:decide (0≤(i:Int)∧(i:Int)<(x5.length:Int))=true:=decide_eq_true (by omega)
     have h6:decide (i+1=0)=false:=by simp
     simp only [h3,h4,h5,h6,cond_true,Bool.true_and,Bool.false_or,Int.toNat_natCast,Nat.add_sub_cancel,Bool.not_true,cond_false]
     cases (Op.bytesLess (x5.getD (i+1) ((0:Int),((⟨#[]⟩:ByteArray),(⟨#[]⟩:ByteArray)))).2.1.toList (x5.getD i ((0:Int),((⟨#[]⟩:ByteArray),(⟨#[]⟩:ByteArray)))).2.1.toList||((x5.getD (i+1) ((0:Int),((⟨#[]⟩:ByteArray),(⟨#[]⟩:ByteArray)))).2.1.toList==(x5.getD i ((0:Int),((⟨#[]⟩:ByteArray),(⟨#[]⟩:ByteArray)))).2.1.toList))<;>rfl
  ·have h1:decide ((i:Int)<(x5.length:Int))=false:=decide_eq_false (by omega)
   simp only [B0Z,B7s,RT.val,h1,cond_false]
noncomputable def C1r (x0 x5:Lq1) (x6 x7:Int):Option (Ex×St):=let z1:=x5.getD x7.toNat ((0:Int),(bE,bE));let z2:=(⟨((.t false tq5 x0)::.junk::.junk::.junk::.junk::(.t false tq5 x5)::(ti x6)::(ti (wI (x7+(1:Int))))::C85),[],0,[]⟩:St);let z3:=wI (x7 - (1:Int));let z4:=(⟨(.junk::.junk::(.t true .bool false)::C9q),[],0,[]⟩:St);let z5:=((x0.getD (z3.toNat) ((0:Int),(bE,bE))).2).1;(cond (decide (x7<x6)) (cond (decide (0≤x7∧x7<(x5.length:Int))) (cond (B7M (z1.1) ((z1.2).1) ((z1.2).2)) (cond (!(C2C (z1.1) ((z1.2).1) ((z1.2).2))) (some (.ret,z4)) (cond (decide (x7 > (0:Int))) (cond (decide (0≤z3∧z3<(x0.length:Int))) (cond (Op.bytesLess ((z1.2).1).toList z5.toList||(((z1.2).1).toList==z5.toList)) (some (.ret,z4)) (some (.normal,z2))) none) (some (.normal,z2)))) none) none) (some ((.exit 0),(⟨((.t false tq5 x0)::D0O),[],0,[]⟩:St))))
theorem C48:RdA G45 aLn 0 B79 Y7 0 [] (kepts [2] [(0,[0])]) (B24 C1r):=by
 intro d
 kernel_rfl
theorem C5g:∀ d:Y7.den,(B24 C1r) d=(B0Z d).opt 0 []:=by
 intro d
 kernel_rfl
noncomputable abbrev C0g:St→Option Tree:=Y7.say 0 [] [] (B24 B2d)
theorem C6i:aPL C0g B79:=SS.wp2 hlz [] B0Z C48 C5g _ (fun d=>C6N d.1.1 d.1.2.2.2.2.2.1 d.1.2.2.2.2.2.2.1 d.1.2.2.2.2.2.2.2.1)
noncomputable def C0H (a0:Lq1):Bool:=(cond (A4B (C1i a0) (a0.length - (0:Int).toNat) (0:Int).toNat) (J6 (a0.length:Int) (1:Int) (8:Int)) false)
noncomputable abbrev B9L (r:Bool):AV×List AObj:=((.t true .bool r),[])
noncomputable abbrev C2q:H6 B6f→AV×List AObj:=fun d=>B9L (C0H d.1)
noncomputable def B4w (a0:Lq1):Bool:=Z9 a0
noncomputable abbrev B86:H6 B6f→Bool:=fun d=>B4w d.1
noncomputable abbrev C8i:Nat→St→Option Tree:=fun b=>match b with | 0=>C0g | _=>fun _=>none
theorem C7n:A7s true G45 (C8i) Try.f77 B6f B86 C2q:=by
 rintro ⟨a0,_⟩ hp
 change B4w a0=true at hp
 unfold B4w at hp
 refine Eq.trans (b:=(cond (decide (0≤(0:Int))&&(decide ((a0.length:Int)=(a0.length:Int))&&(decide (a0=a0)&&Z9 a0))) (cond (A4B (C1i a0) (a0.length - (0:Int).toNat) (0:Int).toNat) (some (B9L (J6 (a0.length:Int) (1:Int) (8:Int)))) (some (B9L false))) none)) (by kernel_rfl) ?_
 exact (A7v (by first | rfl | decide | exact hp | (simp only [Bool.and_eq_true] at hp;simp only [hp];done) | (simp [*];done) | (simp [okL] at hp;simp [okL,MAXB];omega) | (simp_all;done) | (simp at *;omega)) (fun _h=>(O8 B9L (fun _h=>rfl) (fun _h=>rfl))))
theorem C8r:aPP 77 (A2W B6f B86 C2q):=pcD true G45 (hl1 (i:=0) (by kernel_rfl) C6i) C7n
noncomputable def S46:Tab:=Tab.add S45 77 (lift (A2W B6f B86 C2q))
noncomputable def D0g:FuncId→Bool:=qadd D0f 77
theorem G46:aPG S46 D0g:=G45.addQ C8r (cbl Try.f77) (fun _=>rfl)

abbrev B9x:List PSh:=[.t .str]
abbrev B0d:SS:=⟨(.t true .str::.junk::.junk::.t true (.int .u32)::tI::C7a),[]⟩
abbrev C04:SS:=⟨(.junk::.junk::.junk::.t true (.int .u32)::C74),[]⟩
noncomputable def C3r (x0:ByteArray) (x3 x4:Int):RT B0d.den:=(.br (decide (x4<(x0.size:Int))) (.br (decide (0≤x4∧x4<(x0.size:Int))) (.next ((x0,(),(),IntKind.wrap .u32 ((ixor .u32 x3 (IntKind.wrap .u32 (bt x0 x4)))*(16777619:Int)),wI (x4+(1:Int)),u17),())) .fail) (.done (.exit 0) C04 (((),(),(),x3,u18),())))
abbrev B4e:=(ByteArray)×(Int)×(Int)
abbrev B3Z:=Nat×(Int)
def B8S:B3Z:=(99,((0:Int):Int))
noncomputable def B2W (x0:ByteArray) (x3 x4:Int):B4e ⊕ B3Z:=(cond (decide (x4<(x0.size:Int))) (cond (decide (0≤x4∧x4<(x0.size:Int))) (.inl (x0,IntKind.wrap .u32 ((ixor .u32 x3 (IntKind.wrap .u32 (bt x0 x4)))*(16777619:Int)),wI (x4+(1:Int)))) (.inr B8S)) (.inr (0,x3)))
noncomputable def B2x (x0:ByteArray) (x3 x4:Int):B3Z:=itX (fun v:B4e=>B2W v.1 v.2.1 v.2.2) B8S (x0,x3,x4)
noncomputable def B8Q (a:B3Z):CT:=(.br (a.1==0) (.done (.exit 0) C04 (((),(),(),a.2,u18),())) .fail)
noncomputable def C7Q (x0:ByteArray) (x3 x4:Int):CT:=B8Q (B2x x0 x3 x4)
noncomputable abbrev B9m:B0d.den→RT B0d.den:=(fun d=>C3r d.1.1 d.1.2.2.2.1 d.1.2.2.2.2.1)
noncomputable def B9F:Code:=((C9 0 (A0N Try.f108)).getD 0 (0,.skip)).2
noncomputable abbrev C2R (v:B4e):B0d.den:=((v.1,(),(),v.2.1,v.2.2,u17),())
theorem C7k:(∀ v:B4e,(C3r v.1 v.2.1 v.2.2).val=A6u C2R B8Q (B2W v.1 v.2.1 v.2.2))∧∀ a:B3Z,CEnd B0d.den (B8Q a):=⟨fun v=>(A7x (A7x rfl rfl) rfl),fun a=>(A7k aCD A7m)⟩
theorem C6r:RdA G46 aLn 0 B9F B0d 0 [] (kepts [] [(0,[3])]) (fun d=>(B9m d).opt 0 []):=by
 intro d
 kernel_rfl
noncomputable abbrev C1C:St→Option Tree:=B0d.say 0 [] [] (fun d=>C7Q d.1.1 d.1.2.2.2.1 d.1.2.2.2.2.1)
theorem C7f:aPL C1C B9F:=SS.wp2 hlz [] B9m C6r (fun d=>rfl) _ (fun d=>Runs.ofI2 (step:=B9m) C2R C7k rfl (d.1.1,d.1.2.2.2.1,d.1.2.2.2.2.1))
noncomputable def C7D (a0:ByteArray):Int:=(wI ((B2x a0 (2166136261:Int) (0:Int)).2))
noncomputable abbrev C7B (r:Int):AV×List AObj:=((ti r),[])
noncomputable abbrev C4L:H6 B9x→AV×List AObj:=fun d=>C7B (C7D d.1)
noncomputable def B7K (a0:ByteArray):Bool:=((B2x a0 (2166136261:Int) (0:Int)).1==0)
noncomputable abbrev C0N:H6 B9x→Bool:=fun d=>B7K d.1
noncomputable abbrev C8N:Nat→St→Option Tree:=fun b=>match b with | 0=>C1C | _=>fun _=>none
theorem C78:A7s true G46 (C8N) Try.f108 B9x C0N C4L:=by
 rintro ⟨a0,_⟩ hp
 change B7K a0=true at hp
 unfold B7K at hp
 refine Eq.trans (b:=(let z1:=B2x a0 (2166136261:Int) (0:Int);cond (z1.1==0) (some (C7B (wI (z1.2)))) none)) (by kernel_rfl) ?_
 exact (A7v hp fun _h=>rfl)
theorem C8S:aPP 108 (A2W B9x C0N C4L):=pcD true G46 (hl1 (i:=0) (by kernel_rfl) C7f) C78
noncomputable def S47:Tab:=Tab.add S46 108 (lift (A2W B9x C0N C4L))
noncomputable def D0h:FuncId→Bool:=qadd D0g 108
theorem G47:aPG S47 D0h:=G46.addQ C8S (cbl Try.f108) (fun _=>rfl)

abbrev B14:List PSh:=[.t .str,.t (.int .i64)]
noncomputable def B2v (a0:ByteArray) (a1:Int):Int:=(cond (decide (a1<(1:Int))) (0:Int) (Int.tmod (C7D a0) a1))
noncomputable abbrev B4V (r:Int):AV×List AObj:=((ti r),[])
noncomputable abbrev B8V:H6 B14→AV×List AObj:=fun d=>B4V (B2v d.1 d.2.1)
noncomputable def A8W (a0:ByteArray) (a1:Int):Bool:=cond (decide (a1<(1:Int))) true ((B7K a0)&&(decide (a1 ≠ 0)))
noncomputable abbrev B5k:H6 B14→Bool:=fun d=>A8W d.1 d.2.1
theorem C5o:A7s true G47 aLn Try.f69 B14 B5k B8V:=by
 rintro ⟨a0,⟨a1,_⟩⟩ hp
 change A8W a0 a1=true at hp
 unfold A8W at hp
 refine Eq.trans (b:=(cond (decide (a1<(1:Int))) (some (B4V (0:Int))) (cond (B7K a0) (cond (decide (a1 ≠ 0)) (some (B4V (Int.tmod (C7D a0) a1))) none) none))) (by kernel_rfl) ?_
 exact (K6 B4V hp (fun hp=>rfl) (fun hp=>(A7t hp fun hp=>(A7v hp fun _h=>rfl))))
theorem C6Z:aPP 69 (A2W B14 B5k B8V):=pcD true G47 hlz C5o
noncomputable def S48:Tab:=Tab.add S47 69 (lift (A2W B14 B5k B8V))
noncomputable def D0i:FuncId→Bool:=qadd D0h 69
theorem G48:aPG S48 D0i:=G47.addQ C6Z (cbl Try.f69) (fun _=>rfl)

noncomputable def S49:Tab:=Tab.add S48 70 (orLend (win E6 A5L))
noncomputable def D0j:FuncId→Bool:=D0i
theorem G49:aPG S49 D0j:=G48.addM C72.orLend (A6O (A62 _)) ⟨Try.f70,by kernel_rfl,by kernel_rfl,by kernel_rfl⟩ (by kernel_rfl)

noncomputable def S50:Tab:=Tab.add S49 72 (win E6 A3b)
noncomputable def D0k:FuncId→Bool:=D0j
theorem G50:aPG S50 D0k:=G49.addM C4z (A62 _) ⟨Try.f72,by kernel_rfl,by kernel_rfl,by kernel_rfl⟩ (by kernel_rfl)

abbrev Y6:SS:=⟨[.arr 0 1],[.rows 3 true (.int .i64)]⟩
noncomputable def A8I (x0a x0b:Nat) (h0:List Int):Nat×Nat×List Int:=(x0a,((x0b:Nat):Int).toNat,h0)
noncomputable abbrev B3f (r:Nat×Nat×List Int):AV×List AObj×List Nat:=((.arr 0 1 r.1 r.2.1),[(.rows 3 true (.int .i64) r.2.2)],[])
noncomputable abbrev B3j:Y6.den→AV×List AObj×List Nat:=fun d=>B3f (A8I d.1.1.1 d.1.1.2 d.2.1)
noncomputable def P7 (x0a x0b:Nat) (h0:List Int):Bool:=decide (0≤((x0b:Nat):Int)∧((x0b:Nat):Int)≤((x0b:Nat):Int)∧((x0b:Nat):Int)≤((x0b:Nat):Int))
noncomputable abbrev B1t:Y6.den→Bool:=fun d=>P7 d.1.1.1 d.1.1.2 d.2.1
theorem B7Y:A7r G50 aLn Try.f71 Y6 B1t B3j:=by
 rintro ⟨⟨⟨x0a,x0b⟩,_⟩,⟨h0,_⟩⟩ hp
 change P7 x0a x0b h0=true at hp
 unfold P7 at hp
 refine Eq.trans (b:=(cond (decide (0≤((x0b:Nat):Int)∧((x0b:Nat):Int)≤((x0b:Nat):Int)∧((x0b:Nat):Int)≤((x0b:Nat):Int))) (some (B3f (x0a,((x0b:Nat):Int).toNat,h0))) none)) (by kernel_rfl) ?_
 exact (A7v hp fun _h=>rfl)
noncomputable abbrev B3n:=win E6 (msum Y6 B1t B3j)
theorem B9I:aPM 71 B3n:=(mcM G50 hlz B7Y).win E6
noncomputable def S51:Tab:=Tab.add S50 71 (B3n)
noncomputable def D0l:FuncId→Bool:=D0k
theorem G51:aPG S51 D0l:=G50.addM B9I (A62 _) (cbl Try.f71) (by kernel_rfl)

abbrev u28:=((),u27)
abbrev B0F:List PSh:=[.t tq5,.t (.int .i64)]
abbrev R0:SS:=⟨(.junk::tI::.junk::.junk::.junk::.all 0 1::.junk::.junk::.t false tq5::tI::tI::C7a),[.rows 3 true (.int .i64)]⟩
abbrev B5D:SS:=⟨(.junk::.junk::.junk::.junk::.junk::.all 0 1::C4V),[.rows 3 true (.int .i64)]⟩
noncomputable def B5c (x1:Int) (x8:Lq1) (x10:Int):=B2v (((x8.getD x10.toNat ((0:Int),(bE,bE))).2).1) x1
noncomputable def B7t (x1:Int) (x8:Lq1) (x9 x10:Int) (h0:List Int):RT R0.den:=let z1:=B5c x1 x8 x10;(.br (decide (x10<x9)) (.br (decide (0≤x10∧x10<(x8.length:Int))) (.br (A8W (((x8.getD x10.toNat ((0:Int),(bE,bE))).2).1) x1) (.br (decide ((h0.length+[z1].length)*8≤MAXB)) (.next (((),x1,(),(),(),(),(),(),x8,x9,wI (x10+(1:Int)),u17),(h0++[z1],()))) .fail) .fail) .fail) (.done (.exit 0) B5D ((u28),(h0,()))))
abbrev A8s:=(Int)×Lq1×(Int)×(Int)×(List Int)
abbrev A0d:=Nat×(List Int)
def A9B:A0d:=(99,([]:List Int))
noncomputable def A9X (x1:Int) (x8:Lq1) (x9 x10:Int) (h0:List Int):A8s ⊕ A0d:=let z1:=B5c x1 x8 x10;(cond (decide (x10<x9)) (cond (decide (0≤x10∧x10<(x8.length:Int))) (cond (A8W (((x8.getD x10.toNat ((0:Int),(bE,bE))).2).1) x1) (cond (decide ((h0.length+[z1].length)*8≤MAXB)) (.inl (x1,x8,x9,wI (x10+(1:Int)),h0++[z1])) (.inr A9B)) (.inr A9B)) (.inr A9B)) (.inr (0,h0)))
noncomputable def A7U (x1:Int) (x8:Lq1) (x9 x10:Int) (h0:List Int):A0d:=itX (fun v:A8s=>A9X v.1 v.2.1 v.2.2.1 v.2.2.2.1 v.2.2.2.2) A9B (x1,x8,x9,x10,h0)
noncomputable def B2m (a:A0d):CT:=(.br (a.1==0) (.done (.exit 0) B5D ((u28),(a.2,()))) .fail)
noncomputable def C3z (x1:Int) (x8:Lq1) (x9 x10:Int) (h0:List Int):CT:=B2m (A7U x1 x8 x9 x10 h0)
noncomputable abbrev B6q {α:Sort _} (f:Int→Lq1→Int→Int→(List Int)→α) (d:R0.den):α:=f d.1.2.1 d.1.2.2.2.2.2.2.2.2.1 d.1.2.2.2.2.2.2.2.2.2.1 d.1.2.2.2.2.2.2.2.2.2.2.1 d.2.1
noncomputable abbrev B2R:R0.den→RT R0.den:=(B6q B7t)
noncomputable def B4g:Code:=((C9 0 (A0N Try.f29)).getD 0 (0,.skip)).2
noncomputable abbrev B69 (v:A8s):R0.den:=(((),v.1,(),(),(),(),(),(),v.2.1,v.2.2.1,v.2.2.2.1,u17),(v.2.2.2.2,()))
theorem C28:(∀ v:A8s,(B7t v.1 v.2.1 v.2.2.1 v.2.2.2.1 v.2.2.2.2).val=A6u B69 B2m (A9X v.1 v.2.1 v.2.2.1 v.2.2.2.1 v.2.2.2.2))∧∀ a:A0d,CEnd R0.den (B2m a):=⟨fun v=>(A7x (A7x (A7x (A7x rfl rfl) rfl) rfl) rfl),fun a=>(A7k aCD A7m)⟩
theorem C1P:RdA G51 aLn 0 B4g R0 0 [] (kepts [] [(0,[5])]) (fun d=>(B2R d).opt 0 []):=by
 intro d
 kernel_rfl
noncomputable abbrev B5U:St→Option Tree:=R0.say 0 [] [(5,3,(.int .i64))] (B6q C3z)
theorem C2F:aPL B5U B4g:=SS.wp2 hlz [(5,3,(.int .i64))] B2R C1P (fun d=>rfl) _ (fun d=>Runs.ofI2 (step:=B2R) B69 C28 rfl (d.1.2.1,d.1.2.2.2.2.2.2.2.2.1,d.1.2.2.2.2.2.2.2.2.2.1,d.1.2.2.2.2.2.2.2.2.2.2.1,d.2.1))
noncomputable def B1K (a0:Lq1) (a1:Int):=C56 (A5K ((A7U a1 a0 (a0.length:Int) (0:Int) ([]:List Int)).2))
noncomputable def B1R (a0:Lq1) (a1:Int):List Int:=let z2:=B1K a0 a1;let z1:=A8I 0 (z2.1) (z2.2);(((z1.2.2).drop (z1.1)).take (z1.2.1))
noncomputable abbrev C08 (r:List Int):AV×List AObj:=((.t true W3 r),[])
noncomputable abbrev B6H:H6 B0F→AV×List AObj:=fun d=>C08 (B1R d.1 d.2.1)
noncomputable def X7 (a0:Lq1) (a1:Int):Bool:=let z1:=A7U a1 a0 (a0.length:Int) (0:Int) ([]:List Int);let z2:=B1K a0 a1;(z1.1==0)&&((C0d (z1.2))&&((C0d (A5K (z1.2)))&&(P7 0 (z2.1) (z2.2))))
noncomputable abbrev B3K:H6 B0F→Bool:=fun d=>X7 d.1 d.2.1
noncomputable abbrev C5E:Nat→St→Option Tree:=fun b=>match b with | 0=>B5U | _=>fun _=>none
theorem C32:A7s true G51 (C5E) Try.f29 B0F B3K B6H:=by
 rintro ⟨a0,⟨a1,_⟩⟩ hp
 change X7 a0 a1=true at hp
 unfold X7 at hp
 refine Eq.trans (b:=(let z2:=A7U a1 a0 (a0.length:Int) (0:Int) ([]:List Int);let z3:=B1K a0 a1;let z1:=A8I 0 (z3.1) (z3.2);cond (z2.1==0) (cond (C0d (z2.2)) (cond (C0d (A5K (z2.2))) (cond (P7 0 (z3.1) (z3.2)) (some (C08 (((z1.2.2).drop (z1.1)).take (z1.2.1)))) none) none) none) none)) (by kernel_rfl) ?_
 exact (A7t hp fun hp=>(A7t hp fun hp=>(A7t hp fun hp=>(A7v hp fun _h=>rfl))))
theorem C5U:aPP 29 (A2W B0F B3K B6H):=pcD true G51 (hl1 (i:=0) (by kernel_rfl) C2F) C32
noncomputable def S52:Tab:=Tab.add S51 29 (lift (A2W B0F B3K B6H))
noncomputable def D0m:FuncId→Bool:=qadd D0l 29
theorem G52:aPG S52 D0m:=G51.addQ C5U (cbl Try.f29) (fun _=>rfl)

abbrev T2:List PSh:=[.t W3,.t (.int .i64)]
abbrev K0:SS:=⟨(.t false W3::tI::.junk::.junk::.junk::.junk::.junk::tI::tI::C9w),[]⟩
abbrev A9h:SS:=⟨(.junk::.junk::.junk::.junk::tI::C9z),[]⟩
abbrev A9i:SS:=⟨(.junk::C6f),[]⟩
noncomputable def B0a (x0:List Int) (x1 x7 x8:Int):RT K0.den:=(.br (decide (x8<x7)) (.br (decide (0≤x8∧x8<(x0.length:Int))) (.br (x1==(x0.getD x8.toNat (0:Int))) (.done .ret A9h (((),(),(),(),x8,u15),())) (.next ((x0,x1,(),(),(),(),(),x7,wI (x8+(1:Int)),u11),()))) .fail) (.done (.exit 0) A9i ((u20),())))
abbrev V4:=(List Int)×(Int)×(Int)×(Int)
abbrev O5:=Nat×(Int)
def A97:O5:=(99,((0:Int):Int))
noncomputable def U7 (x0:List Int) (x1 x7 x8:Int):V4 ⊕ O5:=(cond (decide (x8<x7)) (cond (decide (0≤x8∧x8<(x0.length:Int))) (cond (x1==(x0.getD x8.toNat (0:Int))) (.inr (0,x8)) (.inl (x0,x1,x7,wI (x8+(1:Int))))) (.inr A97)) (.inr (1,((0:Int):Int))))
noncomputable def N5 (x0:List Int) (x1 x7 x8:Int):O5:=itX (fun v:V4=>U7 v.1 v.2.1 v.2.2.1 v.2.2.2) A97 (x0,x1,x7,x8)
noncomputable def A0m (a:O5):CT:=(.br (a.1==0) (.done .ret A9h (((),(),(),(),a.2,u15),())) (.br (a.1==1) (.done (.exit 0) A9i ((u20),())) .fail))
noncomputable def B6p (x0:List Int) (x1 x7 x8:Int):CT:=A0m (N5 x0 x1 x7 x8)
noncomputable abbrev A95 {α:Sort _} (f:(List Int)→Int→Int→Int→α) (d:K0.den):α:=f d.1.1 d.1.2.1 d.1.2.2.2.2.2.2.2.1 d.1.2.2.2.2.2.2.2.2.1
noncomputable abbrev A0o:K0.den→RT K0.den:=(A95 B0a)
noncomputable def A83:Code:=((C9 0 (A0N Try.f124)).getD 0 (0,.skip)).2
noncomputable abbrev A99 (v:V4):K0.den:=((v.1,v.2.1,(),(),(),(),(),v.2.2.1,v.2.2.2,u11),())
theorem B56:(∀ v:V4,(B0a v.1 v.2.1 v.2.2.1 v.2.2.2).val=A6u A99 A0m (U7 v.1 v.2.1 v.2.2.1 v.2.2.2))∧∀ a:O5,CEnd K0.den (A0m a):=⟨fun v=>(A7x (A7x (A7x rfl rfl) rfl) rfl),fun a=>(A7k aCD (A7k aCD A7m))⟩
theorem B5t:RdA G52 aLn 0 A83 K0 0 [] (kepts [4] [(0,[])]) (fun d=>(A0o d).opt 0 []):=by
 intro d
 kernel_rfl
noncomputable abbrev A9T:St→Option Tree:=K0.say 0 [] [] (A95 B6p)
theorem B55:aPL A9T A83:=SS.wp2 hlz [] A0o B5t (fun d=>rfl) _ (fun d=>Runs.ofI2 (step:=A0o) A99 B56 rfl (d.1.1,d.1.2.1,d.1.2.2.2.2.2.2.2.1,d.1.2.2.2.2.2.2.2.2.1))
noncomputable def A8i (a0:List Int) (a1:Int):Int:=let z1:=N5 a0 a1 (a0.length:Int) (0:Int);(cond (z1.1==0) (z1.2) (-1:Int))
noncomputable abbrev Y8 (r:Int):AV×List AObj:=((ti r),[])
noncomputable abbrev A8U:H6 T2→AV×List AObj:=fun d=>Y8 (A8i d.1 d.2.1)
noncomputable def O1 (a0:List Int) (a1:Int):Bool:=let z1:=N5 a0 a1 (a0.length:Int) (0:Int);cond (z1.1==0) true (z1.1==1)
noncomputable abbrev A71:H6 T2→Bool:=fun d=>O1 d.1 d.2.1
noncomputable abbrev B8M:Nat→St→Option Tree:=fun b=>match b with | 0=>A9T | _=>fun _=>none
theorem B7g:A7s true G52 (B8M) Try.f124 T2 A71 A8U:=by
 rintro ⟨a0,⟨a1,_⟩⟩ hp
 change O1 a0 a1=true at hp
 unfold O1 at hp
 refine Eq.trans (b:=(let z1:=N5 a0 a1 (a0.length:Int) (0:Int);cond (z1.1==0) (some (Y8 (z1.2))) (cond (z1.1==1) (some (Y8 (-1:Int))) none))) (by kernel_rfl) ?_
 exact (K6 Y8 hp (fun hp=>rfl) (fun hp=>(A7v hp fun _h=>rfl)))
theorem B8P:aPP 124 (A2W T2 A71 A8U):=pcD true G52 (hl1 (i:=0) (by kernel_rfl) B55) B7g
noncomputable def S53:Tab:=Tab.add S52 124 (lift (A2W T2 A71 A8U))
noncomputable def D0n:FuncId→Bool:=qadd D0m 124
theorem G53:aPG S53 D0n:=G52.addQ B8P (cbl Try.f124) (fun _=>rfl)

abbrev N4:List PSh:=[.t W3,.t (.int .i64)]
noncomputable def N3 (a0:List Int) (a1:Int):Bool:=(decide ((A8i a0 a1) ≥ (0:Int)))
noncomputable abbrev A96 (r:Bool):AV×List AObj:=((.t true .bool r),[])
noncomputable abbrev A0n:H6 N4→AV×List AObj:=fun d=>A96 (N3 d.1 d.2.1)
noncomputable def J5 (a0:List Int) (a1:Int):Bool:=O1 a0 a1
noncomputable abbrev X1:H6 N4→Bool:=fun d=>J5 d.1 d.2.1
theorem B4E:A7s true G53 aLn Try.f93 N4 X1 A0n:=by
 rintro ⟨a0,⟨a1,_⟩⟩ hp
 change J5 a0 a1=true at hp
 unfold J5 at hp
 refine Eq.trans (b:=(cond (O1 a0 a1) (some (A96 (decide ((A8i a0 a1) ≥ (0:Int))))) none)) (by kernel_rfl) ?_
 exact (A7v hp fun _h=>rfl)
theorem B54:aPP 93 (A2W N4 X1 A0n):=pcD true G53 hlz B4E
noncomputable def S54:Tab:=Tab.add S53 93 (lift (A2W N4 X1 A0n))
noncomputable def D0o:FuncId→Bool:=qadd D0n 93
theorem G54:aPG S54 D0o:=G53.addQ B54 (cbl Try.f93) (fun _=>rfl)

abbrev D1C:List Sh:=.junk::.junk::.junk::.junk::.junk::.junk::.junk::.junk::.junk::.junk::.junk::.junk::.junk::.junk::.junk::.junk::.junk::.junk::.junk::.junk::.junk::.junk::.junk::C2D
abbrev D07:List Sh:=.junk::.junk::.junk::.junk::.junk::.junk::.junk::.junk::.junk::.junk::.junk::.junk::.junk::.junk::.junk::C9F
abbrev D1F:List Sh:=.junk::D07
abbrev u96:=((),(),(),(),(),(),(),(),(),(),(),(),(),(),u82)
abbrev u63:=((),(),(),(),(),(),(),(),(),(),(),(),(),(),(),(),(),(),(),(),u43)
abbrev D1e:=((),(),(),(),(),u96)
abbrev D0U:List AV:=.junk::.junk::.junk::.junk::.junk::.junk::.junk::.junk::.junk::.junk::.junk::.junk::.junk::.junk::.junk::C9u
abbrev D1q:List AV:=.junk::.junk::.junk::.junk::.junk::.junk::.junk::.junk::.junk::.junk::.junk::.junk::.junk::.junk::.junk::.junk::.junk::.junk::.junk::.junk::.junk::.junk::.junk::C0I
abbrev D1u:List AV:=.junk::D0U
abbrev A8D:SS:=⟨[.ptr 0 0 1 0,.agg [.t true (.int .i64),.t false tq5,.t true (.int .i64),.t false W3]],[.box [tI,tI,tI,.t false tq2,.t false tq4,tI]]⟩
abbrev L4:SS:=⟨(.ptr 0 0 1 0::.junk::.junk::.ptr 1 0 1 0::.junk::.t true W3::.junk::.junk::.junk::.junk::.junk::.junk::.junk::.junk::.junk::.junk::.junk::.junk::.junk::.junk::.junk::.junk::.junk::.junk::.junk::.junk::.junk::.junk::.junk::.junk::.junk::.junk::.junk::.junk::.junk::.t false W3::tI::tI::D1C),[.box [tI,tI,tI,.t false tq2,.t false tq4,tI],.box [tI,.t false tq5,tI,.t false W3]]⟩
abbrev A8L:SS:=⟨(.junk::.junk::.junk::.junk::.t true .bool::D07),[.box [tI,tI,tI,.t false tq2,.t false tq4,tI]]⟩
abbrev B1Y:SS:=⟨(.ptr 0 0 1 0::.junk::.junk::.ptr 1 0 1 0::D1F),[.box [tI,tI,tI,.t false tq2,.t false tq4,tI],.box [tI,.t false tq5,tI,.t false W3]]⟩
noncomputable def B3w (x5 x35:List Int) (x36 x37 p0 p1 p2:Int) (p3:LT1) (p4:LIbe) (p5 q0:Int) (q1:Lq1) (q2:Int) (q3:List Int):RT L4.den:=let z1:=wI (x37 - (1:Int));let z2:=x35.getD x37.toNat (0:Int);(.br (decide (x37<x36)) (.br (decide (0≤x37∧x37<(x35.length:Int))) (.br (J5 x5 z2) (.br (!(N3 x5 z2)) (.done .ret A8L (((),(),(),(),false,u96),((p0,p1,p2,p3,p4,p5,()),()))) (.br (decide (x37 > (0:Int))) (.br (decide (0≤z1∧z1<(q3.length:Int))) (.br (decide (z2≤(q3.getD (z1.toNat) (0:Int)))) (.done .ret A8L (((),(),(),(),false,u96),((p0,p1,p2,p3,p4,p5,()),()))) (.next (((),(),(),(),(),x5,(),(),(),(),(),(),(),(),(),(),(),(),(),(),(),(),(),(),(),(),(),(),(),(),(),(),(),(),(),x35,x36,wI (x37+(1:Int)),u63),((p0,p1,p2,p3,p4,p5,()),(q0,q1,q2,q3,()),())))) .fail) (.next (((),(),(),(),(),x5,(),(),(),(),(),(),(),(),(),(),(),(),(),(),(),(),(),(),(),(),(),(),(),(),(),(),(),(),(),x35,x36,wI (x37+(1:Int)),u63),((p0,p1,p2,p3,p4,p5,()),(q0,q1,q2,q3,()),()))))) .fail) .fail) (.done (.exit 0) B1Y ((D1e),((p0,p1,p2,p3,p4,p5,()),(q0,q1,q2,q3,()),()))))
abbrev A8a:=(List Int)×(List Int)×(Int)×(Int)
abbrev W5:=Nat×(Bool)
def A7y:W5:=(99,(false:Bool))
noncomputable def A7B (x5 x35:List Int) (x36 x37 p0 p1 p2:Int) (p3:LT1) (p4:LIbe) (p5 q0:Int) (q1:Lq1) (q2:Int) (q3:List Int):A8a ⊕ W5:=let z1:=wI (x37 - (1:Int));let z2:=x35.getD x37.toNat (0:Int);(cond (decide (x37<x36)) (cond (decide (0≤x37∧x37<(x35.length:Int))) (cond (J5 x5 z2) (cond (!(N3 x5 z2)) (.inr (0,false)) (cond (decide (x37 > (0:Int))) (cond (decide (0≤z1∧z1<(q3.length:Int))) (cond (decide (z2≤(q3.getD (z1.toNat) (0:Int)))) (.inr (0,false)) (.inl (x5,x35,x36,wI (x37+(1:Int))))) (.inr A7y)) (.inl (x5,x35,x36,wI (x37+(1:Int)))))) (.inr A7y)) (.inr A7y)) (.inr (1,(false:Bool))))
noncomputable def A9I (x5 x35:List Int) (x36 x37 p0 p1 p2:Int) (p3:LT1) (p4:LIbe) (p5 q0:Int) (q1:Lq1) (q2:Int) (q3:List Int):W5:=itX (fun v:A8a=>A7B v.1 v.2.1 v.2.2.1 v.2.2.2 p0 p1 p2 p3 p4 p5 q0 q1 q2 q3) A7y (x5,x35,x36,x37)
noncomputable def A9v (p0 p1 p2:Int) (p3:LT1) (p4:LIbe) (p5 q0:Int) (q1:Lq1) (q2:Int) (q3:List Int) (a:W5):CT:=(.br (a.1==0) (.done .ret A8L (((),(),(),(),a.2,u96),((p0,p1,p2,p3,p4,p5,()),()))) (.br (a.1==1) (.done (.exit 0) B1Y ((D1e),((p0,p1,p2,p3,p4,p5,()),(q0,q1,q2,q3,()),()))) .fail))
noncomputable def C0w (x5 x35:List Int) (x36 x37 p0 p1 p2:Int) (p3:LT1) (p4:LIbe) (p5 q0:Int) (q1:Lq1) (q2:Int) (q3:List Int):CT:=(A9v p0 p1 p2 p3 p4 p5 q0 q1 q2 q3) (A9I x5 x35 x36 x37 p0 p1 p2 p3 p4 p5 q0 q1 q2 q3)
noncomputable abbrev A0q {α:Sort _} (f:(List Int)→(List Int)→Int→Int→Int→Int→Int→LT1→LIbe→Int→Int→Lq1→Int→(List Int)→α) (d:L4.den):α:=f d.1.2.2.2.2.2.1 d.1.2.2.2.2.2.2.2.2.2.2.2.2.2.2.2.2.2.2.2.2.2.2.2.2.2.2.2.2.2.2.2.2.2.2.2.1 d.1.2.2.2.2.2.2.2.2.2.2.2.2.2.2.2.2.2.2.2.2.2.2.2.2.2.2.2.2.2.2.2.2.2.2.2.2.1 d.1.2.2.2.2.2.2.2.2.2.2.2.2.2.2.2.2.2.2.2.2.2.2.2.2.2.2.2.2.2.2.2.2.2.2.2.2.2.1 d.2.1.1 d.2.1.2.1 d.2.1.2.2.1 d.2.1.2.2.2.1 d.2.1.2.2.2.2.1 d.2.1.2.2.2.2.2.1 d.2.2.1.1 d.2.2.1.2.1 d.2.2.1.2.2.1 d.2.2.1.2.2.2.1
noncomputable abbrev A9U:L4.den→RT L4.den:=(A0q B3w)
noncomputable def B1n:Code:=((C9 0 (A0N Try.f50)).getD 0 (0,.skip)).2
noncomputable abbrev B3u (p0 p1 p2:Int) (p3:LT1) (p4:LIbe) (p5 q0:Int) (q1:Lq1) (q2:Int) (q3:List Int) (v:A8a):L4.den:=(((),(),(),(),(),v.1,(),(),(),(),(),(),(),(),(),(),(),(),(),(),(),(),(),(),(),(),(),(),(),(),(),(),(),(),(),v.2.1,v.2.2.1,v.2.2.2,u63),((p0,p1,p2,p3,p4,p5,()),(q0,q1,q2,q3,()),()))
theorem C0e (p0 p1 p2:Int) (p3:LT1) (p4:LIbe) (p5 q0:Int) (q1:Lq1) (q2:Int) (q3:List Int):(∀ v:A8a,(B3w v.1 v.2.1 v.2.2.1 v.2.2.2 p0 p1 p2 p3 p4 p5 q0 q1 q2 q3).val=A6u (B3u p0 p1 p2 p3 p4 p5 q0 q1 q2 q3) (A9v p0 p1 p2 p3 p4 p5 q0 q1 q2 q3) (A7B v.1 v.2.1 v.2.2.1 v.2.2.2 p0 p1 p2 p3 p4 p5 q0 q1 q2 q3))∧∀ a:W5,CEnd L4.den ((A9v p0 p1 p2 p3 p4 p5 q0 q1 q2 q3) a):=⟨fun v=>by repeat' first | apply A7x | rfl,fun a=>(A7k aCD (A7k aCD A7m))⟩
noncomputable def B3p (x5 x35:List Int) (x36 x37 p0 p1 p2:Int) (p3:LT1) (p4:LIbe) (p5 q0:Int) (q1:Lq1) (q2:Int) (q3:List Int):Option (Ex×St):=let z1:=(⟨((.ptr 0 0 1 0)::.junk::.junk::(.ptr 1 0 1 0)::.junk::(.t true W3 x5)::.junk::.junk::.junk::.junk::.junk::.junk::.junk::.junk::.junk::.junk::.junk::.junk::.junk::.junk::.junk::.junk::.junk::.junk::.junk::.junk::.junk::.junk::.junk::.junk::.junk::.junk::.junk::.junk::.junk::(.t false W3 x35)::(ti x36)::(ti (wI (x37+(1:Int))))::D1q),[(.box [(ti p0),(ti p1),(ti p2),(.t false tq2 p3),(.t false tq4 p4),(ti p5)]),(.box [(ti q0),(.t false tq5 q1),(ti q2),(.t false W3 q3)])],1,[]⟩:St);let z2:=(⟨(.junk::.junk::.junk::.junk::(.t true .bool false)::D0U),[(.box [(ti p0),(ti p1),(ti p2),(.t false tq2 p3),(.t false tq4 p4),(ti p5)])],1,[]⟩:St);let z3:=wI (x37 - (1:Int));let z4:=x35.getD x37.toNat (0:Int);(cond (decide (x37<x36)) (cond (decide (0≤x37∧x37<(x35.length:Int))) (cond (J5 x5 z4) (cond (!(N3 x5 z4)) (some (.ret,z2)) (cond (decide (x37 > (0:Int))) (cond (decide (0≤z3∧z3<(q3.length:Int))) (cond (decide (z4≤(q3.getD (z3.toNat) (0:Int)))) (some (.ret,z2)) (some (.normal,z1))) none) (some (.normal,z1)))) none) none) (some ((.exit 0),(⟨((.ptr 0 0 1 0)::.junk::.junk::(.ptr 1 0 1 0)::D1u),[(.box [(ti p0),(ti p1),(ti p2),(.t false tq2 p3),(.t false tq4 p4),(ti p5)]),(.box [(ti q0),(.t false tq5 q1),(ti q2),(.t false W3 q3)])],1,[]⟩:St))))
theorem B9g:RdA G54 aLn 0 B1n L4 1 [] (kepts [4] [(0,[0,3])]) (A0q B3p):=by
 intro d
 kernel_rfl
theorem B9j:∀ d:L4.den,(A0q B3p) d=(A9U d).opt 1 []:=by
 intro d
 kernel_rfl
noncomputable abbrev B2N:St→Option Tree:=L4.say 1 [] [] (A0q C0w)
theorem B9Y:aPL B2N B1n:=SS.wp2 hlz [] A9U B9g B9j _ (fun d=>Runs.ofI2 (step:=A9U) (B3u d.2.1.1 d.2.1.2.1 d.2.1.2.2.1 d.2.1.2.2.2.1 d.2.1.2.2.2.2.1 d.2.1.2.2.2.2.2.1 d.2.2.1.1 d.2.2.1.2.1 d.2.2.1.2.2.1 d.2.2.1.2.2.2.1) (C0e d.2.1.1 d.2.1.2.1 d.2.1.2.2.1 d.2.1.2.2.2.1 d.2.1.2.2.2.2.1 d.2.1.2.2.2.2.2.1 d.2.2.1.1 d.2.2.1.2.1 d.2.2.1.2.2.1 d.2.2.1.2.2.2.1) rfl (d.1.2.2.2.2.2.1,d.1.2.2.2.2.2.2.2.2.2.2.2.2.2.2.2.2.2.2.2.2.2.2.2.2.2.2.2.2.2.2.2.2.2.2.2.1,d.1.2.2.2.2.2.2.2.2.2.2.2.2.2.2.2.2.2.2.2.2.2.2.2.2.2.2.2.2.2.2.2.2.2.2.2.2.1,d.1.2.2.2.2.2.2.2.2.2.2.2.2.2.2.2.2.2.2.2.2.2.2.2.2.2.2.2.2.2.2.2.2.2.2.2.2.2.1))
noncomputable def A8G (x1_0 p0 p1 p2:Int) (p3:LT1) (p4:LIbe) (p5:Int):=J6 x1_0 (wI (p1*(1000:Int))) (wI ((A0g p0 p1 p2 p3 p4 p5) - (1:Int)))
noncomputable def A8H (x1_0:Int) (x1_1:Lq1) (x1_2:Int) (x1_3:List Int) (p0 p1 p2:Int) (p3:LT1) (p4:LIbe) (p5:Int):=A9I (B1R x1_1 p0) x1_3 (x1_3.length:Int) (0:Int) p0 p1 p2 p3 p4 p5 x1_0 x1_1 x1_2 x1_3
noncomputable def B1J (x1_0:Int) (x1_1:Lq1) (x1_2:Int) (x1_3:List Int) (p0 p1 p2:Int) (p3:LT1) (p4:LIbe) (p5:Int):Bool:=let z1:=M0 x1_0 p0 p1 p2 p3 p4 p5;let z2:=A8H x1_0 x1_1 x1_2 x1_3 p0 p1 p2 p3 p4 p5;let z3:=(p4.getD (z1.toNat) ((0:Int),false)).2;let z4:=decide (z1 ≥ (0:Int));(cond (!(A8G x1_0 p0 p1 p2 p3 p4 p5)) false (cond (!(C0H x1_1)) false (cond (z2.1==0) (z2.2) (cond (x1_2==(1:Int)) (decide (z1<(0:Int))) (cond (x1_2==(2:Int)) (cond z4 z3 false) (cond (x1_2==(3:Int)) (cond z4 (!z3) false) false))))))
noncomputable abbrev I5 (p0 p1 p2:Int) (p3:LT1) (p4:LIbe) (p5:Int) (r:Bool):AV×List AObj×List Nat:=((.t true .bool r),[(.box [(ti p0),(ti p1),(ti p2),(.t false tq2 p3),(.t false tq4 p4),(ti p5)])],[])
noncomputable abbrev B6G:A8D.den→AV×List AObj×List Nat:=fun d=>I5 d.2.1.1 d.2.1.2.1 d.2.1.2.2.1 d.2.1.2.2.2.1 d.2.1.2.2.2.2.1 d.2.1.2.2.2.2.2.1 (B1J d.1.2.1.1 d.1.2.1.2.1 d.1.2.1.2.2.1 d.1.2.1.2.2.2.1 d.2.1.1 d.2.1.2.1 d.2.1.2.2.1 d.2.1.2.2.2.1 d.2.1.2.2.2.2.1 d.2.1.2.2.2.2.2.1)
noncomputable def P1 (x1_0:Int) (x1_1:Lq1) (x1_2:Int) (x1_3:List Int) (p0 p1 p2:Int) (p3:LT1) (p4:LIbe) (p5:Int):Bool:=let z1:=M0 x1_0 p0 p1 p2 p3 p4 p5;let z2:=A8H x1_0 x1_1 x1_2 x1_3 p0 p1 p2 p3 p4 p5;let z3:=decide (0≤z1∧z1<(p4.length:Int));let z4:=decide (z1 ≥ (0:Int));cond (!(A8G x1_0 p0 p1 p2 p3 p4 p5)) true ((B4w x1_1)&&(cond (!(C0H x1_1)) true ((X7 x1_1 p0)&&(cond (z2.1==0) true ((z2.1==1)&&((J9 x1_0 p0 p1 p2 p3 p4 p5)&&(cond (x1_2==(1:Int)) true (cond (x1_2==(2:Int)) (cond z4 z3 true) (cond (x1_2==(3:Int)) (cond z4 z3 true) true)))))))))
noncomputable abbrev B4u:A8D.den→Bool:=fun d=>P1 d.1.2.1.1 d.1.2.1.2.1 d.1.2.1.2.2.1 d.1.2.1.2.2.2.1 d.2.1.1 d.2.1.2.1 d.2.1.2.2.1 d.2.1.2.2.2.1 d.2.1.2.2.2.2.1 d.2.1.2.2.2.2.2.1
noncomputable abbrev C17:Nat→St→Option Tree:=fun b=>match b with | 0=>B2N | _=>fun _=>none
theorem C01:A7r G54 (C17) Try.f50 A8D B4u B6G:=by
 rintro ⟨⟨_,⟨x1_0,x1_1,x1_2,x1_3,_⟩,_⟩,⟨⟨p0,p1,p2,p3,p4,p5,_⟩,_⟩⟩ hp
 change P1 x1_0 x1_1 x1_2 x1_3 p0 p1 p2 p3 p4 p5=true at hp
 unfold P1 at hp
 refine Eq.trans (b:=(let z1:=M0 x1_0 p0 p1 p2 p3 p4 p5;let z2:=A8H x1_0 x1_1 x1_2 x1_3 p0 p1 p2 p3 p4 p5;let z3:=(p4.getD (z1.toNat) ((0:Int),false)).2;let z4:=decide (0≤z1∧z1<(p4.length:Int));let z5:=decide (z1 ≥ (0:Int));cond (!(A8G x1_0 p0 p1 p2 p3 p4 p5)) (some (I5 p0 p1 p2 p3 p4 p5 false)) (cond (B4w x1_1) (cond (!(C0H x1_1)) (some (I5 p0 p1 p2 p3 p4 p5 false)) (cond (X7 x1_1 p0) (cond (z2.1==0) (some (I5 p0 p1 p2 p3 p4 p5 (z2.2))) (cond (z2.1==1) (cond (J9 x1_0 p0 p1 p2 p3 p4 p5) (cond (x1_2==(1:Int)) (some (I5 p0 p1 p2 p3 p4 p5 (decide (z1<(0:Int))))) (cond (x1_2==(2:Int)) (cond z5 (cond z4 (some (I5 p0 p1 p2 p3 p4 p5 z3)) none) (some (I5 p0 p1 p2 p3 p4 p5 false))) (cond (x1_2==(3:Int)) (cond z5 (cond z4 (some (I5 p0 p1 p2 p3 p4 p5 (!z3))) none) (some (I5 p0 p1 p2 p3 p4 p5 false))) (some (I5 p0 p1 p2 p3 p4 p5 false))))) none) none)) none)) none))) (by kernel_rfl) ?_
 exact (K6 (I5 p0 p1 p2 p3 p4 p5) hp (fun hp=>rfl) (fun hp=>(A7t hp fun hp=>(K6 (I5 p0 p1 p2 p3 p4 p5) hp (fun hp=>rfl) (fun hp=>(A7t hp fun hp=>(K6 (I5 p0 p1 p2 p3 p4 p5) hp (fun hp=>rfl) (fun hp=>(A7t hp fun hp=>(A7t hp fun hp=>(K6 (I5 p0 p1 p2 p3 p4 p5) hp (fun hp=>rfl) (fun hp=>(K6 (I5 p0 p1 p2 p3 p4 p5) hp (fun hp=>(K6 (I5 p0 p1 p2 p3 p4 p5) hp (fun hp=>(A7v hp fun _h=>rfl)) (fun hp=>rfl))) (fun hp=>(K6 (I5 p0 p1 p2 p3 p4 p5) hp (fun hp=>(K6 (I5 p0 p1 p2 p3 p4 p5) hp (fun hp=>(A7v hp fun _h=>rfl)) (fun hp=>rfl))) (fun hp=>rfl))))))))))))))))
noncomputable abbrev B6U:=winQ (msum A8D B4u B6G)
theorem C2g:aPM 50 B6U:=(mcM G54 (hl1 (i:=0) (by kernel_rfl) B9Y) C01).winQ (A6U fun d=>⟨rfl,rfl⟩)
noncomputable def S55:Tab:=Tab.add S54 50 (B6U)
noncomputable def D0p:FuncId→Bool:=qadd D0o 50
theorem G55:aPG S55 D0p:=G54.addMQ C2g (A60 _) (cbl Try.f50) (A5z _)

abbrev D03:List Sh:=.junk::.junk::.junk::.junk::.junk::.junk::.junk::C2D
abbrev C9G:List Sh:=.junk::.junk::.junk::.junk::.junk::C9F
abbrev D06:List Sh:=.junk::C9G
abbrev u86:=((),(),(),(),u82)
abbrev u47:=((),(),(),(),u43)
abbrev u89:=((),(),(),u86)
abbrev C9v:List AV:=.junk::.junk::.junk::.junk::.junk::C9u
abbrev D0R:List AV:=.junk::.junk::.junk::.junk::.junk::.junk::.junk::C0I
abbrev D0T:List AV:=.junk::C9v
abbrev D1E:List Sh:=.junk::D06
abbrev D1i:List AV:=.junk::C84
abbrev D1t:List AV:=.junk::D0T
abbrev B13:List PSh:=[.agg [(.int .i64),(.int .i64),(.int .i64),tq2,tq4,(.int .i64)]]
noncomputable def B08:Code:=((C9 0 (A0N Try.f16)).getD 0 (0,.skip)).2
noncomputable def B09:Code:=((C9 0 (A0N Try.f16)).getD 1 (0,.skip)).2
abbrev Q2:SS:=⟨(.junk::.ptr 0 0 1 0::.junk::.junk::.junk::.junk::.junk::.junk::.junk::.junk::.junk::.junk::.junk::.junk::.junk::.junk::.junk::.junk::.junk::.junk::.junk::.junk::.junk::.junk::.junk::.junk::.junk::.junk::.junk::.junk::.junk::.junk::.junk::.junk::.junk::.junk::.junk::.junk::.junk::.t false tq4::tI::tI::D03),[.box [tI,tI,tI,.t false tq2,.t false tq4,tI]]⟩
abbrev B1W:SS:=⟨(.junk::.junk::.t true .bool::C9G),[]⟩
abbrev B58:SS:=⟨(.junk::.ptr 0 0 1 0::D06),[.box [tI,tI,tI,.t false tq2,.t false tq4,tI]]⟩
noncomputable def B0S (x39:LIbe) (x41 p0 p1 p2:Int) (p3:LT1) (p4:LIbe) (p5:Int):=J6 ((x39.getD x41.toNat ((0:Int),false)).1) (1000:Int) (wI ((A0g p0 p1 p2 p3 p4 p5) - (1:Int)))
noncomputable def B8H (x39:LIbe) (x40 x41 p0 p1 p2:Int) (p3:LT1) (p4:LIbe) (p5:Int):RT Q2.den:=let z1:=(x39.getD x41.toNat ((0:Int),false)).1;(.br (decide (x41<x40)) (.br (decide (0≤x41∧x41<(x39.length:Int))) (.br (!(B0S x39 x41 p0 p1 p2 p3 p4 p5)) (.done .ret B1W (((),(),false,u86),())) (.br (J9 z1 p0 p1 p2 p3 p4 p5) (.br ((M0 z1 p0 p1 p2 p3 p4 p5) != x41) (.done .ret B1W (((),(),false,u86),())) (.next (((),(),(),(),(),(),(),(),(),(),(),(),(),(),(),(),(),(),(),(),(),(),(),(),(),(),(),(),(),(),(),(),(),(),(),(),(),(),(),x39,x40,wI (x41+(1:Int)),u47),((p0,p1,p2,p3,p4,p5,()),())))) .fail)) .fail) (.done (.exit 0) B58 ((u89),((p0,p1,p2,p3,p4,p5,()),()))))
abbrev B1z:=(LIbe)×(Int)×(Int)
abbrev A9d:=Nat×(Bool)
def B3F:A9d:=(99,(false:Bool))
noncomputable def A0k (x39:LIbe) (x40 x41 p0 p1 p2:Int) (p3:LT1) (p4:LIbe) (p5:Int):B1z ⊕ A9d:=let z1:=(x39.getD x41.toNat ((0:Int),false)).1;(cond (decide (x41<x40)) (cond (decide (0≤x41∧x41<(x39.length:Int))) (cond (!(B0S x39 x41 p0 p1 p2 p3 p4 p5)) (.inr (0,false)) (cond (J9 z1 p0 p1 p2 p3 p4 p5) (cond ((M0 z1 p0 p1 p2 p3 p4 p5) != x41) (.inr (0,false)) (.inl (x39,x40,wI (x41+(1:Int))))) (.inr B3F))) (.inr B3F)) (.inr (1,(false:Bool))))
noncomputable def A0h (x39:LIbe) (x40 x41 p0 p1 p2:Int) (p3:LT1) (p4:LIbe) (p5:Int):A9d:=itX (fun v:B1z=>A0k v.1 v.2.1 v.2.2 p0 p1 p2 p3 p4 p5) B3F (x39,x40,x41)
noncomputable def B3z (p0 p1 p2:Int) (p3:LT1) (p4:LIbe) (p5:Int) (a:A9d):CT:=(.br (a.1==0) (.done .ret B1W (((),(),a.2,u86),())) (.br (a.1==1) (.done (.exit 0) B58 ((u89),((p0,p1,p2,p3,p4,p5,()),()))) .fail))
noncomputable def C4t (x39:LIbe) (x40 x41 p0 p1 p2:Int) (p3:LT1) (p4:LIbe) (p5:Int):CT:=(B3z p0 p1 p2 p3 p4 p5) (A0h x39 x40 x41 p0 p1 p2 p3 p4 p5)
noncomputable abbrev B0r {α:Sort _} (f:LIbe→Int→Int→Int→Int→Int→LT1→LIbe→Int→α) (d:Q2.den):α:=f d.1.2.2.2.2.2.2.2.2.2.2.2.2.2.2.2.2.2.2.2.2.2.2.2.2.2.2.2.2.2.2.2.2.2.2.2.2.2.2.2.1 d.1.2.2.2.2.2.2.2.2.2.2.2.2.2.2.2.2.2.2.2.2.2.2.2.2.2.2.2.2.2.2.2.2.2.2.2.2.2.2.2.2.1 d.1.2.2.2.2.2.2.2.2.2.2.2.2.2.2.2.2.2.2.2.2.2.2.2.2.2.2.2.2.2.2.2.2.2.2.2.2.2.2.2.2.2.1 d.2.1.1 d.2.1.2.1 d.2.1.2.2.1 d.2.1.2.2.2.1 d.2.1.2.2.2.2.1 d.2.1.2.2.2.2.2.1
noncomputable abbrev B3S:Q2.den→RT Q2.den:=(B0r B8H)
noncomputable abbrev B8u (p0 p1 p2:Int) (p3:LT1) (p4:LIbe) (p5:Int) (v:B1z):Q2.den:=(((),(),(),(),(),(),(),(),(),(),(),(),(),(),(),(),(),(),(),(),(),(),(),(),(),(),(),(),(),(),(),(),(),(),(),(),(),(),(),v.1,v.2.1,v.2.2,u47),((p0,p1,p2,p3,p4,p5,()),()))
theorem C3X (p0 p1 p2:Int) (p3:LT1) (p4:LIbe) (p5:Int):(∀ v:B1z,(B8H v.1 v.2.1 v.2.2 p0 p1 p2 p3 p4 p5).val=A6u (B8u p0 p1 p2 p3 p4 p5) (B3z p0 p1 p2 p3 p4 p5) (A0k v.1 v.2.1 v.2.2 p0 p1 p2 p3 p4 p5))∧∀ a:A9d,CEnd Q2.den ((B3z p0 p1 p2 p3 p4 p5) a):=⟨fun v=>(A7x (A7x (A7x rfl (A7x (A7x rfl rfl) rfl)) rfl) rfl),fun a=>(A7k aCD (A7k aCD A7m))⟩
noncomputable def B8i (x39:LIbe) (x40 x41 p0 p1 p2:Int) (p3:LT1) (p4:LIbe) (p5:Int):Option (Ex×St):=let z1:=(⟨(.junk::.junk::(.t true .bool false)::C9v),[],0,[]⟩:St);let z2:=(x39.getD x41.toNat ((0:Int),false)).1;(cond (decide (x41<x40)) (cond (decide (0≤x41∧x41<(x39.length:Int))) (cond (!(B0S x39 x41 p0 p1 p2 p3 p4 p5)) (some (.ret,z1)) (cond (J9 z2 p0 p1 p2 p3 p4 p5) (cond ((M0 z2 p0 p1 p2 p3 p4 p5) != x41) (some (.ret,z1)) (some (.normal,(⟨(.junk::(.ptr 0 0 1 0)::.junk::.junk::.junk::.junk::.junk::.junk::.junk::.junk::.junk::.junk::.junk::.junk::.junk::.junk::.junk::.junk::.junk::.junk::.junk::.junk::.junk::.junk::.junk::.junk::.junk::.junk::.junk::.junk::.junk::.junk::.junk::.junk::.junk::.junk::.junk::.junk::.junk::(.t false tq4 x39)::(ti x40)::(ti (wI (x41+(1:Int))))::D0R),[(.box [(ti p0),(ti p1),(ti p2),(.t false tq2 p3),(.t false tq4 p4),(ti p5)])],0,[]⟩:St)))) none)) none) (some ((.exit 0),(⟨(.junk::(.ptr 0 0 1 0)::D0T),[(.box [(ti p0),(ti p1),(ti p2),(.t false tq2 p3),(.t false tq4 p4),(ti p5)])],0,[]⟩:St))))
theorem C2U:RdA G55 aLn 0 B08 Q2 0 [] (kepts [2] [(0,[1])]) (B0r B8i):=by
 intro d
 kernel_rfl
theorem C21:∀ d:Q2.den,(B0r B8i) d=(B3S d).opt 0 []:=by
 intro d
 kernel_rfl
noncomputable abbrev B7j:St→Option Tree:=Q2.say 0 [] [] (B0r C4t)
theorem C3H:aPL B7j B08:=SS.wp2 hlz [] B3S C2U C21 _ (fun d=>Runs.ofI2 (step:=B3S) (B8u d.2.1.1 d.2.1.2.1 d.2.1.2.2.1 d.2.1.2.2.2.1 d.2.1.2.2.2.2.1 d.2.1.2.2.2.2.2.1) (C3X d.2.1.1 d.2.1.2.1 d.2.1.2.2.1 d.2.1.2.2.2.1 d.2.1.2.2.2.2.1 d.2.1.2.2.2.2.2.1) rfl (d.1.2.2.2.2.2.2.2.2.2.2.2.2.2.2.2.2.2.2.2.2.2.2.2.2.2.2.2.2.2.2.2.2.2.2.2.2.2.2.2.1,d.1.2.2.2.2.2.2.2.2.2.2.2.2.2.2.2.2.2.2.2.2.2.2.2.2.2.2.2.2.2.2.2.2.2.2.2.2.2.2.2.2.1,d.1.2.2.2.2.2.2.2.2.2.2.2.2.2.2.2.2.2.2.2.2.2.2.2.2.2.2.2.2.2.2.2.2.2.2.2.2.2.2.2.2.2.1))
abbrev Q3:SS:=⟨(.junk::.ptr 0 0 1 0::.junk::.junk::.junk::.junk::.junk::.junk::.junk::.junk::.junk::.junk::.junk::.junk::.junk::.junk::.junk::.junk::.junk::.junk::.junk::.junk::.junk::.junk::.junk::.junk::.junk::.junk::.junk::.junk::.junk::.junk::.junk::.junk::.junk::.junk::.junk::.junk::.junk::.junk::.junk::.junk::.junk::.junk::.junk::.junk::.junk::.junk::.junk::.junk::.junk::.junk::.junk::.junk::.junk::.junk::.junk::.junk::.junk::.junk::.junk::.t false tq2::tI::tI::D0Y),[.box [tI,tI,tI,.t false tq2,.t false tq4,tI]]⟩
abbrev B1X:SS:=⟨(.junk::.junk::.t true .bool::C9G),[]⟩
abbrev B59:SS:=⟨(.junk::D1E),[]⟩
noncomputable def B0T (x61:LT1) (x63 p0 p1 p2:Int) (p3:LT1) (p4:LIbe) (p5:Int):=let z1:=x61.getD x63.toNat ((0:Int),([],((0:Int),[])));B1J (z1.1) ((z1.2).1) (((z1.2).2).1) (((z1.2).2).2) p0 p1 p2 p3 p4 p5
noncomputable def B8I (x61:LT1) (x62 x63 p0 p1 p2:Int) (p3:LT1) (p4:LIbe) (p5:Int):RT Q3.den:=let z1:=x61.getD x63.toNat ((0:Int),([],((0:Int),[])));let z2:=wI (x63 - (1:Int));(.br (decide (x63<x62)) (.br (decide (0≤x63∧x63<(x61.length:Int))) (.br (P1 (z1.1) ((z1.2).1) (((z1.2).2).1) (((z1.2).2).2) p0 p1 p2 p3 p4 p5) (.br (!(B0T x61 x63 p0 p1 p2 p3 p4 p5)) (.done .ret B1X (((),(),false,u86),())) (.br (decide (x63 > (0:Int))) (.br (decide (0≤z2∧z2<(p3.length:Int))) (.br (decide ((z1.1)≤((p3.getD (z2.toNat) ((0:Int),([],((0:Int),[])))).1))) (.done .ret B1X (((),(),false,u86),())) (.next (((),(),(),(),(),(),(),(),(),(),(),(),(),(),(),(),(),(),(),(),(),(),(),(),(),(),(),(),(),(),(),(),(),(),(),(),(),(),(),(),(),(),(),(),(),(),(),(),(),(),(),(),(),(),(),(),(),(),(),(),(),x61,x62,wI (x63+(1:Int)),u25),((p0,p1,p2,p3,p4,p5,()),())))) .fail) (.next (((),(),(),(),(),(),(),(),(),(),(),(),(),(),(),(),(),(),(),(),(),(),(),(),(),(),(),(),(),(),(),(),(),(),(),(),(),(),(),(),(),(),(),(),(),(),(),(),(),(),(),(),(),(),(),(),(),(),(),(),(),x61,x62,wI (x63+(1:Int)),u25),((p0,p1,p2,p3,p4,p5,()),()))))) .fail) .fail) (.done (.exit 2) B59 ((u89),())))
abbrev B1A:=LT1×(Int)×(Int)
abbrev A9e:=Nat×(Bool)
def B0x:A9e:=(99,(false:Bool))
noncomputable def A0l (x61:LT1) (x62 x63 p0 p1 p2:Int) (p3:LT1) (p4:LIbe) (p5:Int):B1A ⊕ A9e:=let z1:=x61.getD x63.toNat ((0:Int),([],((0:Int),[])));let z2:=wI (x63 - (1:Int));(cond (decide (x63<x62)) (cond (decide (0≤x63∧x63<(x61.length:Int))) (cond (P1 (z1.1) ((z1.2).1) (((z1.2).2).1) (((z1.2).2).2) p0 p1 p2 p3 p4 p5) (cond (!(B0T x61 x63 p0 p1 p2 p3 p4 p5)) (.inr (0,false)) (cond (decide (x63 > (0:Int))) (cond (decide (0≤z2∧z2<(p3.length:Int))) (cond (decide ((z1.1)≤((p3.getD (z2.toNat) ((0:Int),([],((0:Int),[])))).1))) (.inr (0,false)) (.inl (x61,x62,wI (x63+(1:Int))))) (.inr B0x)) (.inl (x61,x62,wI (x63+(1:Int)))))) (.inr B0x)) (.inr B0x)) (.inr (1,(false:Bool))))
noncomputable def A0i (x61:LT1) (x62 x63 p0 p1 p2:Int) (p3:LT1) (p4:LIbe) (p5:Int):A9e:=itX (fun v:B1A=>A0l v.1 v.2.1 v.2.2 p0 p1 p2 p3 p4 p5) B0x (x61,x62,x63)
noncomputable def B3A (p0 p1 p2:Int) (p3:LT1) (p4:LIbe) (p5:Int) (a:A9e):CT:=(.br (a.1==0) (.done .ret B1X (((),(),a.2,u86),())) (.br (a.1==1) (.done (.exit 2) B59 ((u89),())) .fail))
noncomputable def C4u (x61:LT1) (x62 x63 p0 p1 p2:Int) (p3:LT1) (p4:LIbe) (p5:Int):CT:=(B3A p0 p1 p2 p3 p4 p5) (A0i x61 x62 x63 p0 p1 p2 p3 p4 p5)
noncomputable abbrev B0s {α:Sort _} (f:LT1→Int→Int→Int→Int→Int→LT1→LIbe→Int→α) (d:Q3.den):α:=f d.1.2.2.2.2.2.2.2.2.2.2.2.2.2.2.2.2.2.2.2.2.2.2.2.2.2.2.2.2.2.2.2.2.2.2.2.2.2.2.2.2.2.2.2.2.2.2.2.2.2.2.2.2.2.2.2.2.2.2.2.2.2.1 d.1.2.2.2.2.2.2.2.2.2.2.2.2.2.2.2.2.2.2.2.2.2.2.2.2.2.2.2.2.2.2.2.2.2.2.2.2.2.2.2.2.2.2.2.2.2.2.2.2.2.2.2.2.2.2.2.2.2.2.2.2.2.2.1 d.1.2.2.2.2.2.2.2.2.2.2.2.2.2.2.2.2.2.2.2.2.2.2.2.2.2.2.2.2.2.2.2.2.2.2.2.2.2.2.2.2.2.2.2.2.2.2.2.2.2.2.2.2.2.2.2.2.2.2.2.2.2.2.2.1 d.2.1.1 d.2.1.2.1 d.2.1.2.2.1 d.2.1.2.2.2.1 d.2.1.2.2.2.2.1 d.2.1.2.2.2.2.2.1
noncomputable abbrev B3T:Q3.den→RT Q3.den:=(B0s B8I)
noncomputable abbrev B8v (p0 p1 p2:Int) (p3:LT1) (p4:LIbe) (p5:Int) (v:B1A):Q3.den:=(((),(),(),(),(),(),(),(),(),(),(),(),(),(),(),(),(),(),(),(),(),(),(),(),(),(),(),(),(),(),(),(),(),(),(),(),(),(),(),(),(),(),(),(),(),(),(),(),(),(),(),(),(),(),(),(),(),(),(),(),(),v.1,v.2.1,v.2.2,u25),((p0,p1,p2,p3,p4,p5,()),()))
theorem C3Y (p0 p1 p2:Int) (p3:LT1) (p4:LIbe) (p5:Int):(∀ v:B1A,(B8I v.1 v.2.1 v.2.2 p0 p1 p2 p3 p4 p5).val=A6u (B8v p0 p1 p2 p3 p4 p5) (B3A p0 p1 p2 p3 p4 p5) (A0l v.1 v.2.1 v.2.2 p0 p1 p2 p3 p4 p5))∧∀ a:A9e,CEnd Q3.den ((B3A p0 p1 p2 p3 p4 p5) a):=⟨fun v=>by repeat' first | apply A7x | rfl,fun a=>(A7k aCD (A7k aCD A7m))⟩
noncomputable def B8j (x61:LT1) (x62 x63 p0 p1 p2:Int) (p3:LT1) (p4:LIbe) (p5:Int):Option (Ex×St):=let z1:=(⟨(.junk::(.ptr 0 0 1 0)::.junk::.junk::.junk::.junk::.junk::.junk::.junk::.junk::.junk::.junk::.junk::.junk::.junk::.junk::.junk::.junk::.junk::.junk::.junk::.junk::.junk::.junk::.junk::.junk::.junk::.junk::.junk::.junk::.junk::.junk::.junk::.junk::.junk::.junk::.junk::.junk::.junk::.junk::.junk::.junk::.junk::.junk::.junk::.junk::.junk::.junk::.junk::.junk::.junk::.junk::.junk::.junk::.junk::.junk::.junk::.junk::.junk::.junk::.junk::(.t false tq2 x61)::(ti x62)::(ti (wI (x63+(1:Int))))::D1i),[(.box [(ti p0),(ti p1),(ti p2),(.t false tq2 p3),(.t false tq4 p4),(ti p5)])],0,[]⟩:St);let z2:=x61.getD x63.toNat ((0:Int),([],((0:Int),[])));let z3:=wI (x63 - (1:Int));let z4:=(⟨(.junk::.junk::(.t true .bool false)::C9v),[],0,[]⟩:St);(cond (decide (x63<x62)) (cond (decide (0≤x63∧x63<(x61.length:Int))) (cond (P1 (z2.1) ((z2.2).1) (((z2.2).2).1) (((z2.2).2).2) p0 p1 p2 p3 p4 p5) (cond (!(B0T x61 x63 p0 p1 p2 p3 p4 p5)) (some (.ret,z4)) (cond (decide (x63 > (0:Int))) (cond (decide (0≤z3∧z3<(p3.length:Int))) (cond (decide ((z2.1)≤((p3.getD (z3.toNat) ((0:Int),([],((0:Int),[])))).1))) (some (.ret,z4)) (some (.normal,z1))) none) (some (.normal,z1)))) none) none) (some ((.exit 2),(⟨(.junk::D1t),[],0,[]⟩:St))))
theorem C2V:RdA G55 aLn 2 B09 Q3 0 [] (kepts [2] [(2,[])]) (B0s B8j):=by
 intro d
 kernel_rfl
theorem C22:∀ d:Q3.den,(B0s B8j) d=(B3T d).opt 0 []:=by
 intro d
 kernel_rfl
noncomputable abbrev B7k:St→Option Tree:=Q3.say 0 [] [] (B0s C4u)
theorem C3I:aPL B7k B09:=SS.wp2 hlz [] B3T C2V C22 _ (fun d=>Runs.ofI2 (step:=B3T) (B8v d.2.1.1 d.2.1.2.1 d.2.1.2.2.1 d.2.1.2.2.2.1 d.2.1.2.2.2.2.1 d.2.1.2.2.2.2.2.1) (C3Y d.2.1.1 d.2.1.2.1 d.2.1.2.2.1 d.2.1.2.2.2.1 d.2.1.2.2.2.2.1 d.2.1.2.2.2.2.2.1) rfl (d.1.2.2.2.2.2.2.2.2.2.2.2.2.2.2.2.2.2.2.2.2.2.2.2.2.2.2.2.2.2.2.2.2.2.2.2.2.2.2.2.2.2.2.2.2.2.2.2.2.2.2.2.2.2.2.2.2.2.2.2.2.2.1,d.1.2.2.2.2.2.2.2.2.2.2.2.2.2.2.2.2.2.2.2.2.2.2.2.2.2.2.2.2.2.2.2.2.2.2.2.2.2.2.2.2.2.2.2.2.2.2.2.2.2.2.2.2.2.2.2.2.2.2.2.2.2.2.1,d.1.2.2.2.2.2.2.2.2.2.2.2.2.2.2.2.2.2.2.2.2.2.2.2.2.2.2.2.2.2.2.2.2.2.2.2.2.2.2.2.2.2.2.2.2.2.2.2.2.2.2.2.2.2.2.2.2.2.2.2.2.2.2.2.1))
noncomputable def A9G (a0 a1 a2:Int) (a3:LT1) (a4:LIbe) (a5:Int):Bool:=let z1:=A0h a4 (a4.length:Int) (0:Int) a0 a1 a2 a3 a4 a5;let z2:=A0i a3 (a3.length:Int) (0:Int) a0 a1 a2 a3 a4 a5;(cond (!(J6 a0 (1:Int) (8:Int))) false (cond (!(J6 a1 (1:Int) (900:Int))) false (cond (!(J6 a2 (0:Int) (999:Int))) false (cond (decide ((a4.length:Int) > (1000:Int))) false (cond (!(J6 a5 (0:Int) (a4.length:Int))) false (cond (z1.1==0) (z1.2) (cond (z2.1==0) (z2.2) true)))))))
noncomputable abbrev L5 (r:Bool):AV×List AObj:=((.t true .bool r),[])
noncomputable abbrev B8U:H6 B13→AV×List AObj:=fun d=>L5 (A9G d.1.1 d.1.2.1 d.1.2.2.1 d.1.2.2.2.1 d.1.2.2.2.2.1 d.1.2.2.2.2.2.1)
noncomputable def Z0 (a0 a1 a2:Int) (a3:LT1) (a4:LIbe) (a5:Int):Bool:=let z1:=A0h a4 (a4.length:Int) (0:Int) a0 a1 a2 a3 a4 a5;let z2:=A0i a3 (a3.length:Int) (0:Int) a0 a1 a2 a3 a4 a5;cond (!(J6 a0 (1:Int) (8:Int))) true (cond (!(J6 a1 (1:Int) (900:Int))) true (cond (!(J6 a2 (0:Int) (999:Int))) true (cond (decide ((a4.length:Int) > (1000:Int))) true (cond (!(J6 a5 (0:Int) (a4.length:Int))) true (cond (z1.1==0) true ((z1.1==1)&&(cond (z2.1==0) true (z2.1==1))))))))
noncomputable abbrev B5j:H6 B13→Bool:=fun d=>Z0 d.1.1 d.1.2.1 d.1.2.2.1 d.1.2.2.2.1 d.1.2.2.2.2.1 d.1.2.2.2.2.2.1
noncomputable abbrev C6I:Nat→St→Option Tree:=fun b=>match b with | 0=>B7j | 2=>B7k | _=>fun _=>none
theorem C5n:A7s true G55 (C6I) Try.f16 B13 B5j B8U:=by
 rintro ⟨⟨a0,⟨a1,⟨a2,⟨a3,⟨a4,⟨a5,_⟩⟩⟩⟩⟩⟩,_⟩ hp
 change Z0 a0 a1 a2 a3 a4 a5=true at hp
 unfold Z0 at hp
 refine Eq.trans (b:=(let z1:=A0h a4 (a4.length:Int) (0:Int) a0 a1 a2 a3 a4 a5;let z2:=A0i a3 (a3.length:Int) (0:Int) a0 a1 a2 a3 a4 a5;cond (!(J6 a0 (1:Int) (8:Int))) (some (L5 false)) (cond (!(J6 a1 (1:Int) (900:Int))) (some (L5 false)) (cond (!(J6 a2 (0:Int) (999:Int))) (some (L5 false)) (cond (decide ((a4.length:Int) > (1000:Int))) (some (L5 false)) (cond (!(J6 a5 (0:Int) (a4.length:Int))) (some (L5 false)) (cond (z1.1==0) (some (L5 (z1.2))) (cond (z1.1==1) (cond (z2.1==0) (some (L5 (z2.2))) (cond (z2.1==1) (some (L5 true)) none)) none)))))))) (by kernel_rfl) ?_
 exact (K6 L5 hp (fun hp=>rfl) (fun hp=>(K6 L5 hp (fun hp=>rfl) (fun hp=>(K6 L5 hp (fun hp=>rfl) (fun hp=>(K6 L5 hp (fun hp=>rfl) (fun hp=>(K6 L5 hp (fun hp=>rfl) (fun hp=>(K6 L5 hp (fun hp=>rfl) (fun hp=>(A7t hp fun hp=>(K6 L5 hp (fun hp=>rfl) (fun hp=>(A7v hp fun _h=>rfl))))))))))))))))
theorem C6Y:aPP 16 (A2W B13 B5j B8U):=pcD true G55 (by
  rw [show C9 0 (A0N Try.f16)=[(0,B08),(2,B09)] by kernel_rfl];intro p hp;simp only [List.mem_cons,List.mem_nil_iff,or_false] at hp
  rcases hp with rfl | rfl
  ·exact C3H
  ·exact C3I) C5n
noncomputable def S56:Tab:=Tab.add S55 16 (lift (A2W B13 B5j B8U))
noncomputable def D0q:FuncId→Bool:=qadd D0p 16
theorem G56:aPG S56 D0q:=G55.addQ C6Y (cbl Try.f16) (fun _=>rfl)

abbrev A8C:SS:=⟨[.ptr 0 0 1 0,tI],[.box [tI,tI,tI,.all 1 4,.all 2 2,tI],.deep 48 [90,3] tq3,.rows 43 true W2]⟩
noncomputable def B1I (x1 p0 p1 p2 p5:Int) (h1:LT1) (h2:LIbe):Int×Int×Int×Int×LT1×LIbe:=let z2:=wI ((h2.length:Int) - p5);let z3:=if (0:Int) > x1 then (0:Int) else x1;let z1:=p5+(if z2<z3 then z2 else z3);(p0,wI (p1+(1:Int)),(0:Int),wI z1,h1,h2.take ((wI z1).toNat))
noncomputable abbrev B6D (r:Int×Int×Int×Int×LT1×LIbe):AV×List AObj×List Nat:=((.tup []),[(.box [(ti r.1),(ti r.2.1),(ti r.2.2.1),(.raw (.slice none 0 0)),(.all 2 2),(ti r.2.2.2.1)]),(.deep 48 [90,3] tq3 r.2.2.2.2.1),(.rows 43 true W2 r.2.2.2.2.2)],[2])
noncomputable abbrev B6F:A8C.den→AV×List AObj×List Nat:=fun d=>B6D (B1I d.1.2.1 d.2.1.1 d.2.1.2.1 d.2.1.2.2.1 d.2.1.2.2.2.2.2.1 d.2.2.1 d.2.2.2.1)
noncomputable def U0 (x1 p0 p1 p2 p5:Int) (h1:LT1) (h2:LIbe):Bool:=let z2:=wI ((h2.length:Int) - p5);let z3:=if (0:Int) > x1 then (0:Int) else x1;let z1:=wI (p5+(if z2<z3 then z2 else z3));decide (0≤(0:Int)∧(0:Int)≤z1∧z1≤(h2.length:Int))
noncomputable abbrev B4t:A8C.den→Bool:=fun d=>U0 d.1.2.1 d.2.1.1 d.2.1.2.1 d.2.1.2.2.1 d.2.1.2.2.2.2.2.1 d.2.2.1 d.2.2.2.1
theorem C00:A7q false [] [2] [(0,4,2,43,W2)] G56 aLn Try.f59 A8C B4t B6F:=by
 rintro ⟨⟨_,x1,_⟩,⟨⟨p0,p1,p2,_,_,p5,_⟩,h1,h2,_⟩⟩ hp
 change U0 x1 p0 p1 p2 p5 h1 h2=true at hp
 unfold U0 at hp
 refine Eq.trans (b:=(let z2:=wI ((h2.length:Int) - p5);let z4:=if (0:Int) > x1 then (0:Int) else x1;let z1:=p5+(if z2<z4 then z2 else z4);let z3:=wI z1;cond (decide (0≤(0:Int)∧(0:Int)≤z3∧z3≤(h2.length:Int))) (some (B6D (p0,wI (p1+(1:Int)),(0:Int),wI z1,h1,h2.take (z3.toNat)))) none)) (by kernel_rfl) ?_
 exact (A7v hp fun _h=>rfl)
noncomputable abbrev B6T:=win E6 (msum A8C B4t B6F)
theorem C2f:aPM 59 B6T:=(mcE false [] [2] [(0,4,2,43,W2)]  G56 hlz C00).win E6
noncomputable def S57:Tab:=Tab.add S56 59 (B6T)
noncomputable def D0r:FuncId→Bool:=D0q
theorem G57:aPG S57 D0r:=G56.addM C2f (A62 _) (cbl Try.f59) (by kernel_rfl)

abbrev A8n:List PSh:=[.agg [(.int .i64),(.int .i64),(.int .i64),tq2,tq4,(.int .i64)],.t (.int .i64)]
noncomputable def A9L (a0 a1 a2:Int) (a3:LT1) (a4:LIbe) (a5 a6:Int):=let z1:=Y9 a0 a1 a2 a3 a4 a5;B1I a6 (z1.1) (z1.2.1) (z1.2.2.1) (z1.2.2.2.1) (z1.2.2.2.2.1) (z1.2.2.2.2.2)
noncomputable def B2B (a0 a1 a2:Int) (a3:LT1) (a4:LIbe) (a5 a6:Int):=let z1:=A9L a0 a1 a2 a3 a4 a5 a6;Y9 (z1.1) (z1.2.1) (z1.2.2.1) [] (z1.2.2.2.2.2) (z1.2.2.2.1)
noncomputable def A9N (a0 a1 a2:Int) (a3:LT1) (a4:LIbe) (a5:Int):=let z1:=Y9 a0 a1 a2 a3 a4 a5;Y9 (z1.1) (z1.2.1) (z1.2.2.1) (z1.2.2.2.2.1) (z1.2.2.2.2.2) (z1.2.2.2.1)
noncomputable def A7T (a0 a1 a2:Int) (a3:LT1) (a4:LIbe) (a5 a6:Int):Int×Int×Int×Int×LT1×LIbe:=let z1:=A9N a0 a1 a2 a3 a4 a5;let z2:=B2B a0 a1 a2 a3 a4 a5 a6;(cond (a1 != (900:Int)) (cond (A9G a0 a1 a2 a3 a4 a5) ((z2.1),(z2.2.1),(z2.2.2.1),(z2.2.2.2.1),(z2.2.2.2.2.1),(z2.2.2.2.2.2)) ((z1.1),(z1.2.1),(z1.2.2.1),(z1.2.2.2.1),(z1.2.2.2.2.1),(z1.2.2.2.2.2))) ((z1.1),(z1.2.1),(z1.2.2.1),(z1.2.2.2.1),(z1.2.2.2.2.1),(z1.2.2.2.2.2)))
noncomputable abbrev A8v (r:Int×Int×Int×Int×LT1×LIbe):AV×List AObj:=((.agg [(ti r.1),(ti r.2.1),(ti r.2.2.1),(.all 0 4),(.all 1 2),(ti r.2.2.2.1)]),[(.deep 48 [90,3] tq3 r.2.2.2.2.1),(.rows 43 true W2 r.2.2.2.2.2)])
noncomputable abbrev B3G:H6 A8n→AV×List AObj:=fun d=>A8v (A7T d.1.1 d.1.2.1 d.1.2.2.1 d.1.2.2.2.1 d.1.2.2.2.2.1 d.1.2.2.2.2.2.1 d.2.1)
noncomputable def M4 (a0 a1 a2:Int) (a3:LT1) (a4:LIbe) (a5 a6:Int):Bool:=let z1:=Y9 a0 a1 a2 a3 a4 a5;let z2:=A9L a0 a1 a2 a3 a4 a5 a6;let z3:=N0 (z1.1) (z1.2.1) (z1.2.2.1) (z1.2.2.2.2.1) (z1.2.2.2.2.2) (z1.2.2.2.1);(N0 a0 a1 a2 a3 a4 a5)&&(cond (a1 != (900:Int)) ((Z0 a0 a1 a2 a3 a4 a5)&&(cond (A9G a0 a1 a2 a3 a4 a5) ((U0 a6 (z1.1) (z1.2.1) (z1.2.2.1) (z1.2.2.2.1) (z1.2.2.2.2.1) (z1.2.2.2.2.2))&&(N0 (z2.1) (z2.2.1) (z2.2.2.1) [] (z2.2.2.2.2.2) (z2.2.2.2.1))) z3)) z3)
noncomputable abbrev B1f:H6 A8n→Bool:=fun d=>M4 d.1.1 d.1.2.1 d.1.2.2.1 d.1.2.2.2.1 d.1.2.2.2.2.1 d.1.2.2.2.2.2.1 d.2.1
theorem C12:A7s false (G57.deep ow) aLn Try.f23 A8n B1f B3G:=by
 rintro ⟨⟨a0,⟨a1,⟨a2,⟨a3,⟨a4,⟨a5,_⟩⟩⟩⟩⟩⟩,⟨a6,_⟩⟩ hp
 change M4 a0 a1 a2 a3 a4 a5 a6=true at hp
 unfold M4 at hp
 refine Eq.trans (b:=(let z1:=Y9 a0 a1 a2 a3 a4 a5;let z2:=A9N a0 a1 a2 a3 a4 a5;let z3:=B2B a0 a1 a2 a3 a4 a5 a6;let z4:=A9L a0 a1 a2 a3 a4 a5 a6;let z5:=A8v ((z2.1),(z2.2.1),(z2.2.2.1),(z2.2.2.2.1),(z2.2.2.2.2.1),(z2.2.2.2.2.2));let z6:=N0 (z1.1) (z1.2.1) (z1.2.2.1) (z1.2.2.2.2.1) (z1.2.2.2.2.2) (z1.2.2.2.1);cond (N0 a0 a1 a2 a3 a4 a5) (cond (a1 != (900:Int)) (cond (Z0 a0 a1 a2 a3 a4 a5) (cond (A9G a0 a1 a2 a3 a4 a5) (cond (U0 a6 (z1.1) (z1.2.1) (z1.2.2.1) (z1.2.2.2.1) (z1.2.2.2.2.1) (z1.2.2.2.2.2)) (cond (N0 (z4.1) (z4.2.1) (z4.2.2.1) [] (z4.2.2.2.2.2) (z4.2.2.2.1)) (some (A8v ((z3.1),(z3.2.1),(z3.2.2.1),(z3.2.2.2.1),(z3.2.2.2.2.1),(z3.2.2.2.2.2)))) none) none) (cond z6 (some z5) none)) none) (cond z6 (some z5) none)) none)) (by kernel_rfl) ?_
 exact (A7t hp fun hp=>(K6 A8v hp (fun hp=>(A7t hp fun hp=>(K6 A8v hp (fun hp=>(A7t hp fun hp=>(A7v hp fun _h=>rfl))) (fun hp=>(A7v hp fun _h=>rfl))))) (fun hp=>(A7v hp fun _h=>rfl))))
theorem C3E:aPP 23 (A2W A8n B1f B3G):=pcD false (G57.deep ow) hlz C12
noncomputable def S58:Tab:=Tab.add S57 23 (lift (A2W A8n B1f B3G))
noncomputable def D0s:FuncId→Bool:=D0r
theorem G58:aPG S58 D0s:=G57.add C3E (cbl Try.f23) (by kernel_rfl)

abbrev B9z:List PSh:=[.agg [(.int .i64),.str,.str],.agg [(.int .i64),.str,.str]]
noncomputable def C4h (a0:Int) (a1 a2:ByteArray) (a3:Int) (a4 a5:ByteArray):Bool:=(cond (a0 != a3) false (cond (!(a1.toList==a4.toList)) false (cond (!(a2.toList==a5.toList)) false true)))
noncomputable abbrev B3a (r:Bool):AV×List AObj:=((.t true .bool r),[])
noncomputable abbrev C4N:H6 B9z→AV×List AObj:=fun d=>B3a (C4h d.1.1 d.1.2.1 d.1.2.2.1 d.2.1.1 d.2.1.2.1 d.2.1.2.2.1)
noncomputable abbrev C0P:H6 B9z→Bool:=fun d=>true
theorem C8a:A7s true G58 aLn Try.f142 B9z C0P C4N:=by
 rintro ⟨⟨a0,⟨a1,⟨a2,_⟩⟩⟩,⟨⟨a3,⟨a4,⟨a5,_⟩⟩⟩,_⟩⟩ hp
 refine Eq.trans (b:=(cond (a0 != a3) (some (B3a false)) (cond (!(a1.toList==a4.toList)) (some (B3a false)) (cond (!(a2.toList==a5.toList)) (some (B3a false)) (some (B3a true)))))) (by kernel_rfl) ?_
 exact (O8 B3a (fun _h=>rfl) (fun _h=>(O8 B3a (fun _h=>rfl) (fun _h=>(O8 B3a (fun _h=>rfl) (fun _h=>rfl))))))
theorem C8U:aPP 142 (A2W B9z C0P C4N):=pcD true G58 hlz C8a
noncomputable def S59:Tab:=Tab.add S58 142 (lift (A2W B9z C0P C4N))
noncomputable def D0t:FuncId→Bool:=qadd D0s 142
theorem G59:aPG S59 D0t:=G58.addQ C8U (cbl Try.f142) (fun _=>rfl)


noncomputable def A8T (x0 x1:Lq1) (i:Nat):Bool:=!(!(C4h ((x0.getD i ((0:Int),(bE,bE))).1) (((x0.getD i ((0:Int),(bE,bE))).2).1) (((x0.getD i ((0:Int),(bE,bE))).2).2) ((x1.getD i ((0:Int),(bE,bE))).1) (((x1.getD i ((0:Int),(bE,bE))).2).1) (((x1.getD i ((0:Int),(bE,bE))).2).2)))
abbrev B6h:List PSh:=[.t tq5,.t tq5]
abbrev A8O:SS:=⟨(.t false tq5::.t false tq5::.junk::.junk::.junk::tI::C4V),[]⟩
abbrev B9q:SS:=⟨(.junk::.junk::.junk::.junk::.t true .bool::C7b),[]⟩
abbrev B9r:SS:=⟨(.junk::C4W),[]⟩
noncomputable def B7u (x0 x1:Lq1) (x5:Int):RT A8O.den:=let z1:=x0.getD x5.toNat ((0:Int),(bE,bE));let z2:=x1.getD x5.toNat ((0:Int),(bE,bE));(.br (decide (x5<(x0.length:Int))) (.br (decide (0≤x5∧x5<(x0.length:Int))) (.br (decide (0≤x5∧x5<(x1.length:Int))) (.br (!(C4h (z1.1) ((z1.2).1) ((z1.2).2) (z2.1) ((z2.2).1) ((z2.2).2))) (.done .ret B9q (((),(),(),(),false,u23),())) (.next ((x0,x1,(),(),(),wI (x5+(1:Int)),u22),()))) .fail) .fail) (.done (.exit 0) B9r ((u28),())))
noncomputable def B2e (x0 x1:Lq1) (x5:Int):CT:=(.br (decide (0≤x5)&&(decide (x0.length=x1.length)&&okL x0)) (.br (A4B (A8T x0 x1) (x0.length - x5.toNat) x5.toNat) (.done (.exit 0) B9r ((u28),())) (.done .ret B9q (((),(),(),(),false,u23),()))) .fail)
noncomputable abbrev B00:A8O.den→RT A8O.den:=(fun d=>B7u d.1.1 d.1.2.1 d.1.2.2.2.2.2.1)
noncomputable abbrev C1v (x0 x1:Lq1) (x5:Int):A8O.den:=((x0,x1,(),(),(),x5,u22),())
noncomputable def B8a:Code:=((C9 0 (A0N Try.f116)).getD 0 (0,.skip)).2
theorem C6O (x0 x1:Lq1) (x5:Int):(B2e x0 x1 x5).val (D:=A8O.den)=.fail∨Runs B00 (C1v x0 x1 x5) (B2e x0 x1 x5).val:=by
 cases hc:(decide (0≤x5)&&(decide (x0.length=x1.length)&&okL x0)) with
 | false=>left;simp only [B2e,CT.val,hc,cond_false]
 | true =>
  right
  simp only [B2e,CT.val,hc,cond_true]
  simp only [Bool.and_eq_true,decide_eq_true_eq] at hc
  obtain ⟨i,rfl⟩:=Int.eq_ofNat_of_zero_le hc.1
  have hs:=A7g hc.2.2
  simp only [Int.toNat_natCast]
  refine Runs.scan (fun j=>C1v x0 x1 (j:Int)) (x0.length) (A8T x0 x1) (fun i hi=>?_) (fun i hi=>?_) ⟨_,_,_,rfl,by simp⟩ ⟨_,_,_,rfl,by simp⟩ _ _ rfl
  ·
   have h0a:decide ((i:Int)<(x0.length:Int))=true:=decide_eq_true (by omega)
   have h0b:decide (0≤(i:Int)∧(i:Int)<(x0.length:Int))=true:=decide_eq_true (by omega)
   simp only [B00,B7u,RT.val,h0a,h0b,cond_true,A7o i (by omega),Int.toNat_natCast]
   have h9:decide (0≤(i:Int)∧(i:Int)<(x1.length:Int))=true:=decide_eq_true (by omega)
   simp only [h9,cond_true]
   simp only [A8T]
   generalize (!(C4h ((x0.getD i ((0:Int),((⟨#[]⟩:ByteArray),(⟨#[]⟩:ByteArray)))).1) (((x0.getD i ((0:Int),((⟨#[]⟩:ByteArray),(⟨#[]⟩:ByteArray)))).2).1) (((x0.getD i ((0:Int),((⟨#[]⟩:ByteArray),(⟨#[]⟩:ByteArray)))).2).2) ((x1.getD i ((0:Int),((⟨#[]⟩:ByteArray),(⟨#[]⟩:ByteArray)))).1) (((x1.getD i ((0:Int),((⟨#[]⟩:ByteArray),(⟨#[]⟩:ByteArray)))).2).1) (((x1.getD i ((0:Int),((⟨#[]⟩:ByteArray),(⟨#[]⟩:ByteArray)))).2).2)))=c
   cases c<;>rfl
  ·have h1:decide ((i:Int)<(x0.length:Int))=false:=decide_eq_false (by omega)
   simp only [B00,B7u,RT.val,h1,cond_false]
theorem C49:RdA G59 aLn 0 B8a A8O 0 [] (kepts [4] [(0,[])]) (fun d=>(B00 d).opt 0 []):=by
 intro d
 kernel_rfl
noncomputable abbrev C0h:St→Option Tree:=A8O.say 0 [] [] (fun d=>B2e d.1.1 d.1.2.1 d.1.2.2.2.2.2.1)
theorem C6j:aPL C0h B8a:=SS.wp2 hlz [] B00 C49 (fun d=>rfl) _ (fun d=>C6O d.1.1 d.1.2.1 d.1.2.2.2.2.2.1)
noncomputable def C0K (a0 a1:Lq1):Bool:=(cond ((a0.length:Int) != (a1.length:Int)) false (cond (A4B (A8T a0 a1) (a0.length - (0:Int).toNat) (0:Int).toNat) true false))
noncomputable abbrev B4o (r:Bool):AV×List AObj:=((.t true .bool r),[])
noncomputable abbrev C2s:H6 B6h→AV×List AObj:=fun d=>B4o (C0K d.1 d.2.1)
noncomputable def B4y (a0 a1:Lq1):Bool:=okL a0
noncomputable abbrev B88:H6 B6h→Bool:=fun d=>B4y d.1 d.2.1
noncomputable abbrev C8j:Nat→St→Option Tree:=fun b=>match b with | 0=>C0h | _=>fun _=>none
theorem C7p:A7s true G59 (C8j) Try.f116 B6h B88 C2s:=by
 rintro ⟨a0,⟨a1,_⟩⟩ hp
 change B4y a0 a1=true at hp
 unfold B4y at hp
 refine Eq.trans (b:=(cond ((a0.length:Int) != (a1.length:Int)) (some (B4o false)) (cond (decide (0≤(0:Int))&&(decide (a0.length=a1.length)&&okL a0)) (cond (A4B (A8T a0 a1) (a0.length - (0:Int).toNat) (0:Int).toNat) (some (B4o true)) (some (B4o false))) none))) (by kernel_rfl) ?_
 exact (O8 B4o (fun _h=>rfl) (fun _h=>(A7v (by simp only [okL,Bool.and_eq_true,decide_eq_true_eq] at hp ⊢;simp at _h;exact ⟨Int.le_refl 0,by omega,hp⟩) (fun _h=>(O8 B4o (fun _h=>rfl) (fun _h=>rfl))))))
theorem C8t:aPP 116 (A2W B6h B88 C2s):=pcD true G59 (hl1 (i:=0) (by kernel_rfl) C6j) C7p
noncomputable def S60:Tab:=Tab.add S59 116 (lift (A2W B6h B88 C2s))
noncomputable def D0u:FuncId→Bool:=qadd D0t 116
theorem G60:aPG S60 D0u:=G59.addQ C8t (cbl Try.f116) (fun _=>rfl)

abbrev D1w:List Sh:=.junk::C8D
abbrev u21:=((),u20)

noncomputable def A7R (x0 x1:List Int) (i:Nat):Bool:=!((x0.getD i (0:Int)) != (x1.getD i (0:Int)))
abbrev B37:List PSh:=[.t W3,.t W3]
abbrev A7H:SS:=⟨(.t false W3::.t false W3::.junk::.junk::.junk::tI::D1w),[]⟩
abbrev B71:SS:=⟨(.junk::.junk::.junk::.junk::.t true .bool::C4V),[]⟩
abbrev B72:SS:=⟨(.junk::C8E),[]⟩
noncomputable def B5A (x0 x1:List Int) (x5:Int):RT A7H.den:=(.br (decide (x5<(x0.length:Int))) (.br (decide (0≤x5∧x5<(x0.length:Int))) (.br (decide (0≤x5∧x5<(x1.length:Int))) (.br ((x0.getD x5.toNat (0:Int)) != (x1.getD x5.toNat (0:Int))) (.done .ret B71 (((),(),(),(),false,u22),())) (.next ((x0,x1,(),(),(),wI (x5+(1:Int)),u21),()))) .fail) .fail) (.done (.exit 0) B72 ((u27),())))
noncomputable def B0N (x0 x1:List Int) (x5:Int):CT:=(.br (decide (0≤x5)&&(decide (x0.length=x1.length)&&okL x0)) (.br (A4B (A7R x0 x1) (x0.length - x5.toNat) x5.toNat) (.done (.exit 0) B72 ((u27),())) (.done .ret B71 (((),(),(),(),false,u22),()))) .fail)
noncomputable abbrev A9W:A7H.den→RT A7H.den:=(fun d=>B5A d.1.1 d.1.2.1 d.1.2.2.2.2.2.1)
noncomputable abbrev B95 (x0 x1:List Int) (x5:Int):A7H.den:=((x0,x1,(),(),(),x5,u21),())
noncomputable def B6t:Code:=((C9 0 (A0N Try.f125)).getD 0 (0,.skip)).2
theorem C5N (x0 x1:List Int) (x5:Int):(B0N x0 x1 x5).val (D:=A7H.den)=.fail∨Runs A9W (B95 x0 x1 x5) (B0N x0 x1 x5).val:=by
 cases hc:(decide (0≤x5)&&(decide (x0.length=x1.length)&&okL x0)) with
 | false=>left;simp only [B0N,CT.val,hc,cond_false]
 | true =>
  right
  simp only [B0N,CT.val,hc,cond_true]
  simp only [Bool.and_eq_true,decide_eq_true_eq] at hc
  obtain ⟨i,rfl⟩:=Int.eq_ofNat_of_zero_le hc.1
  have hs:=A7g hc.2.2
  simp only [Int.toNat_natCast]
  refine Runs.scan (fun j=>B95 x0 x1 (j:Int)) (x0.length) (A7R x0 x1) (fun i hi=>?_) (fun i hi=>?_) ⟨_,_,_,rfl,by simp⟩ ⟨_,_,_,rfl,by simp⟩ _ _ rfl
  ·
   have h0a:decide ((i:Int)<(x0.length:Int))=true:=decide_eq_true (by omega)
   have h0b:decide (0≤(i:Int)∧(i:Int)<(x0.length:Int))=true:=decide_eq_true (by omega)
   simp only [A9W,B5A,RT.val,h0a,h0b,cond_true,A7o i (by omega),Int.toNat_natCast]
   have h9:decide (0≤(i:Int)∧(i:Int)<(x1.length:Int))=true:=decide_eq_true (by omega)
   simp only [h9,cond_true]
   simp only [A7R]
   generalize ((x0.getD i (0:Int)) != (x1.getD i (0:Int)))=c
   cases c<;>rfl
  ·have h1:decide ((i:Int)<(x0.length:Int))=false:=decide_eq_false (by omega)
   simp only [A9W,B5A,RT.val,h1,cond_false]
theorem C3Q:RdA G60 aLn 0 B6t A7H 0 [] (kepts [4] [(0,[])]) (fun d=>(A9W d).opt 0 []):=by
 intro d
 kernel_rfl
noncomputable abbrev B8A:St→Option Tree:=A7H.say 0 [] [] (fun d=>B0N d.1.1 d.1.2.1 d.1.2.2.2.2.2.1)
theorem C42:aPL B8A B6t:=SS.wp2 hlz [] A9W C3Q (fun d=>rfl) _ (fun d=>C5N d.1.1 d.1.2.1 d.1.2.2.2.2.2.1)
noncomputable def B9W (a0 a1:List Int):Bool:=(cond ((a0.length:Int) != (a1.length:Int)) false (cond (A4B (A7R a0 a1) (a0.length - (0:Int).toNat) (0:Int).toNat) true false))
noncomputable abbrev B1O (r:Bool):AV×List AObj:=((.t true .bool r),[])
noncomputable abbrev C0A:H6 B37→AV×List AObj:=fun d=>B1O (B9W d.1 d.2.1)
noncomputable def B1T (a0 a1:List Int):Bool:=okL a0
noncomputable abbrev B61:H6 B37→Bool:=fun d=>B1T d.1 d.2.1
noncomputable abbrev C7K:Nat→St→Option Tree:=fun b=>match b with | 0=>B8A | _=>fun _=>none
theorem C6w:A7s true G60 (C7K) Try.f125 B37 B61 C0A:=by
 rintro ⟨a0,⟨a1,_⟩⟩ hp
 change B1T a0 a1=true at hp
 unfold B1T at hp
 refine Eq.trans (b:=(cond ((a0.length:Int) != (a1.length:Int)) (some (B1O false)) (cond (decide (0≤(0:Int))&&(decide (a0.length=a1.length)&&okL a0)) (cond (A4B (A7R a0 a1) (a0.length - (0:Int).toNat) (0:Int).toNat) (some (B1O true)) (some (B1O false))) none))) (by kernel_rfl) ?_
 exact (O8 B1O (fun _h=>rfl) (fun _h=>(A7v (by simp only [okL,Bool.and_eq_true,decide_eq_true_eq] at hp ⊢;simp at _h;exact ⟨Int.le_refl 0,by omega,hp⟩) (fun _h=>(O8 B1O (fun _h=>rfl) (fun _h=>rfl))))))
theorem C7V:aPP 125 (A2W B37 B61 C0A):=pcD true G60 (hl1 (i:=0) (by kernel_rfl) C42) C6w
noncomputable def S61:Tab:=Tab.add S60 125 (lift (A2W B37 B61 C0A))
noncomputable def D0v:FuncId→Bool:=qadd D0u 125
theorem G61:aPG S61 D0v:=G60.addQ C7V (cbl Try.f125) (fun _=>rfl)

abbrev B6g:List PSh:=[.agg [(.int .i64),tq5,(.int .i64),W3],.agg [(.int .i64),tq5,(.int .i64),W3]]
noncomputable def C4Y (a0:Int) (a1:Lq1) (a2:Int) (a3:List Int) (a4:Int) (a5:Lq1) (a6:Int) (a7:List Int):Bool:=(cond (a0 != a4) false (cond (!(C0K a1 a5)) false (cond (a2 != a6) false (cond (!(B9W a3 a7)) false true))))
noncomputable abbrev A8w (r:Bool):AV×List AObj:=((.t true .bool r),[])
noncomputable abbrev C2r:H6 B6g→AV×List AObj:=fun d=>A8w (C4Y d.1.1 d.1.2.1 d.1.2.2.1 d.1.2.2.2.1 d.2.1.1 d.2.1.2.1 d.2.1.2.2.1 d.2.1.2.2.2.1)
noncomputable def B4x (a0:Int) (a1:Lq1) (a2:Int) (a3:List Int) (a4:Int) (a5:Lq1) (a6:Int) (a7:List Int):Bool:=cond (a0 != a4) true ((B4y a1 a5)&&(cond (!(C0K a1 a5)) true (cond (a2 != a6) true (B1T a3 a7))))
noncomputable abbrev B87:H6 B6g→Bool:=fun d=>B4x d.1.1 d.1.2.1 d.1.2.2.1 d.1.2.2.2.1 d.2.1.1 d.2.1.2.1 d.2.1.2.2.1 d.2.1.2.2.2.1
theorem C7o:A7s true G61 aLn Try.f94 B6g B87 C2r:=by
 rintro ⟨⟨a0,⟨a1,⟨a2,⟨a3,_⟩⟩⟩⟩,⟨⟨a4,⟨a5,⟨a6,⟨a7,_⟩⟩⟩⟩,_⟩⟩ hp
 change B4x a0 a1 a2 a3 a4 a5 a6 a7=true at hp
 unfold B4x at hp
 refine Eq.trans (b:=(cond (a0 != a4) (some (A8w false)) (cond (B4y a1 a5) (cond (!(C0K a1 a5)) (some (A8w false)) (cond (a2 != a6) (some (A8w false)) (cond (B1T a3 a7) (cond (!(B9W a3 a7)) (some (A8w false)) (some (A8w true))) none))) none))) (by kernel_rfl) ?_
 exact (K6 A8w hp (fun hp=>rfl) (fun hp=>(A7t hp fun hp=>(K6 A8w hp (fun hp=>rfl) (fun hp=>(K6 A8w hp (fun hp=>rfl) (fun hp=>(A7v hp fun _h=>(O8 A8w (fun _h=>rfl) (fun _h=>rfl))))))))))
theorem C8s:aPP 94 (A2W B6g B87 C2r):=pcD true G61 hlz C7o
noncomputable def S62:Tab:=Tab.add S61 94 (lift (A2W B6g B87 C2r))
noncomputable def D0w:FuncId→Bool:=qadd D0v 94
theorem G62:aPG S62 D0w:=G61.addQ C8s (cbl Try.f94) (fun _=>rfl)

abbrev B38:List PSh:=[.t tq2,.t tq2]
abbrev A7I:SS:=⟨(.t false tq2::.t false tq2::.junk::.junk::.junk::tI::C4V),[]⟩
abbrev B73:SS:=⟨(.junk::.junk::.junk::.junk::.t true .bool::C7b),[]⟩
abbrev B74:SS:=⟨(.junk::C4W),[]⟩
noncomputable def C0p (x0 x1:LT1) (x5:Int):RT A7I.den:=let z1:=x0.getD x5.toNat ((0:Int),([],((0:Int),[])));let z2:=x1.getD x5.toNat ((0:Int),([],((0:Int),[])));(.br (decide (x5<(x0.length:Int))) (.br (decide (0≤x5∧x5<(x0.length:Int))) (.br (decide (0≤x5∧x5<(x1.length:Int))) (.br (B4x (z1.1) ((z1.2).1) (((z1.2).2).1) (((z1.2).2).2) (z2.1) ((z2.2).1) (((z2.2).2).1) (((z2.2).2).2)) (.br (!(C4Y (z1.1) ((z1.2).1) (((z1.2).2).1) (((z1.2).2).2) (z2.1) ((z2.2).1) (((z2.2).2).1) (((z2.2).2).2))) (.done .ret B73 (((),(),(),(),false,u23),())) (.next ((x0,x1,(),(),(),wI (x5+(1:Int)),u22),()))) .fail) .fail) .fail) (.done (.exit 0) B74 ((u28),())))
abbrev B22:=LT1×LT1×(Int)
abbrev A7C:=Nat×(Bool)
def B1G:A7C:=(99,(false:Bool))
noncomputable def B1L (x0 x1:LT1) (x5:Int):B22 ⊕ A7C:=let z1:=x0.getD x5.toNat ((0:Int),([],((0:Int),[])));let z2:=x1.getD x5.toNat ((0:Int),([],((0:Int),[])));(cond (decide (x5<(x0.length:Int))) (cond (decide (0≤x5∧x5<(x0.length:Int))) (cond (decide (0≤x5∧x5<(x1.length:Int))) (cond (B4x (z1.1) ((z1.2).1) (((z1.2).2).1) (((z1.2).2).2) (z2.1) ((z2.2).1) (((z2.2).2).1) (((z2.2).2).2)) (cond (!(C4Y (z1.1) ((z1.2).1) (((z1.2).2).1) (((z1.2).2).2) (z2.1) ((z2.2).1) (((z2.2).2).1) (((z2.2).2).2))) (.inr (0,false)) (.inl (x0,x1,wI (x5+(1:Int))))) (.inr B1G)) (.inr B1G)) (.inr B1G)) (.inr (1,(false:Bool))))
noncomputable def A9J (x0 x1:LT1) (x5:Int):A7C:=itX (fun v:B22=>B1L v.1 v.2.1 v.2.2) B1G (x0,x1,x5)
noncomputable def B4R (a:A7C):CT:=(.br (a.1==0) (.done .ret B73 (((),(),(),(),a.2,u23),())) (.br (a.1==1) (.done (.exit 0) B74 ((u28),())) .fail))
noncomputable def C5P (x0 x1:LT1) (x5:Int):CT:=B4R (A9J x0 x1 x5)
noncomputable abbrev B5v:A7I.den→RT A7I.den:=(fun d=>C0p d.1.1 d.1.2.1 d.1.2.2.2.2.2.1)
noncomputable def B6u:Code:=((C9 0 (A0N Try.f51)).getD 0 (0,.skip)).2
noncomputable abbrev B98 (v:B22):A7I.den:=((v.1,v.2.1,(),(),(),v.2.2,u22),())
theorem C5j:(∀ v:B22,(C0p v.1 v.2.1 v.2.2).val=A6u B98 B4R (B1L v.1 v.2.1 v.2.2))∧∀ a:A7C,CEnd A7I.den (B4R a):=⟨fun v=>(A7x (A7x (A7x (A7x (A7x rfl rfl) rfl) rfl) rfl) rfl),fun a=>(A7k aCD (A7k aCD A7m))⟩
theorem C3R:RdA G62 aLn 0 B6u A7I 0 [] (kepts [4] [(0,[])]) (fun d=>(B5v d).opt 0 []):=by
 intro d
 kernel_rfl
noncomputable abbrev B8B:St→Option Tree:=A7I.say 0 [] [] (fun d=>C5P d.1.1 d.1.2.1 d.1.2.2.2.2.2.1)
theorem C43:aPL B8B B6u:=SS.wp2 hlz [] B5v C3R (fun d=>rfl) _ (fun d=>Runs.ofI2 (step:=B5v) B98 C5j rfl (d.1.1,d.1.2.1,d.1.2.2.2.2.2.1))
noncomputable def B7H (a0 a1:LT1):Bool:=let z1:=A9J a0 a1 (0:Int);(cond ((a0.length:Int) != (a1.length:Int)) false (cond (z1.1==0) (z1.2) true))
noncomputable abbrev B1P (r:Bool):AV×List AObj:=((.t true .bool r),[])
noncomputable abbrev C0B:H6 B38→AV×List AObj:=fun d=>B1P (B7H d.1 d.2.1)
noncomputable def B0i (a0 a1:LT1):Bool:=let z1:=A9J a0 a1 (0:Int);cond ((a0.length:Int) != (a1.length:Int)) true (cond (z1.1==0) true (z1.1==1))
noncomputable abbrev B62:H6 B38→Bool:=fun d=>B0i d.1 d.2.1
noncomputable abbrev C7L:Nat→St→Option Tree:=fun b=>match b with | 0=>B8B | _=>fun _=>none
theorem C6x:A7s true G62 (C7L) Try.f51 B38 B62 C0B:=by
 rintro ⟨a0,⟨a1,_⟩⟩ hp
 change B0i a0 a1=true at hp
 unfold B0i at hp
 refine Eq.trans (b:=(let z1:=A9J a0 a1 (0:Int);cond ((a0.length:Int) != (a1.length:Int)) (some (B1P false)) (cond (z1.1==0) (some (B1P (z1.2))) (cond (z1.1==1) (some (B1P true)) none)))) (by kernel_rfl) ?_
 exact (K6 B1P hp (fun hp=>rfl) (fun hp=>(K6 B1P hp (fun hp=>rfl) (fun hp=>(A7v hp fun _h=>rfl)))))
theorem C7W:aPP 51 (A2W B38 B62 C0B):=pcD true G62 (hl1 (i:=0) (by kernel_rfl) C43) C6x
noncomputable def S63:Tab:=Tab.add S62 51 (lift (A2W B38 B62 C0B))
noncomputable def D0x:FuncId→Bool:=qadd D0w 51
theorem G63:aPG S63 D0x:=G62.addQ C7W (cbl Try.f51) (fun _=>rfl)

abbrev B0G:List PSh:=[.agg [(.int .i64),.bool],.agg [(.int .i64),.bool]]
noncomputable def B4r (a0:Int) (a1:Bool) (a2:Int) (a3:Bool):Bool:=(cond (a0 != a2) false (cond (!(a1==a3)) false true))
noncomputable abbrev A84 (r:Bool):AV×List AObj:=((.t true .bool r),[])
noncomputable abbrev B6I:H6 B0G→AV×List AObj:=fun d=>A84 (B4r d.1.1 d.1.2.1 d.2.1.1 d.2.1.2.1)
noncomputable abbrev B3L:H6 B0G→Bool:=fun d=>true
theorem C33:A7s true G63 aLn Try.f95 B0G B3L B6I:=by
 rintro ⟨⟨a0,⟨a1,_⟩⟩,⟨⟨a2,⟨a3,_⟩⟩,_⟩⟩ hp
 refine Eq.trans (b:=(cond (a0 != a2) (some (A84 false)) (cond (!(a1==a3)) (some (A84 false)) (some (A84 true))))) (by kernel_rfl) ?_
 exact (O8 A84 (fun _h=>rfl) (fun _h=>(O8 A84 (fun _h=>rfl) (fun _h=>rfl))))
theorem C5V:aPP 95 (A2W B0G B3L B6I):=pcD true G63 hlz C33
noncomputable def S64:Tab:=Tab.add S63 95 (lift (A2W B0G B3L B6I))
noncomputable def D0y:FuncId→Bool:=qadd D0x 95
theorem G64:aPG S64 D0y:=G63.addQ C5V (cbl Try.f95) (fun _=>rfl)


noncomputable def T7 (x0 x1:LIbe) (i:Nat):Bool:=!(!(B4r ((x0.getD i ((0:Int),false)).1) ((x0.getD i ((0:Int),false)).2) ((x1.getD i ((0:Int),false)).1) ((x1.getD i ((0:Int),false)).2)))
abbrev A9l:List PSh:=[.t tq4,.t tq4]
abbrev T3:SS:=⟨(.t false tq4::.t false tq4::.junk::.junk::.junk::tI::C4V),[]⟩
abbrev B32:SS:=⟨(.junk::.junk::.junk::.junk::.t true .bool::C7b),[]⟩
abbrev B33:SS:=⟨(.junk::C4W),[]⟩
noncomputable def B1l (x0 x1:LIbe) (x5:Int):RT T3.den:=let z1:=x0.getD x5.toNat ((0:Int),false);let z2:=x1.getD x5.toNat ((0:Int),false);(.br (decide (x5<(x0.length:Int))) (.br (decide (0≤x5∧x5<(x0.length:Int))) (.br (decide (0≤x5∧x5<(x1.length:Int))) (.br (!(B4r (z1.1) (z1.2) (z2.1) (z2.2))) (.done .ret B32 (((),(),(),(),false,u23),())) (.next ((x0,x1,(),(),(),wI (x5+(1:Int)),u22),()))) .fail) .fail) (.done (.exit 0) B33 ((u28),())))
noncomputable def A7O (x0 x1:LIbe) (x5:Int):CT:=(.br (decide (0≤x5)&&(decide (x0.length=x1.length)&&okL x0)) (.br (A4B (T7 x0 x1) (x0.length - x5.toNat) x5.toNat) (.done (.exit 0) B33 ((u28),())) (.done .ret B32 (((),(),(),(),false,u23),()))) .fail)
noncomputable abbrev A0c:T3.den→RT T3.den:=(fun d=>B1l d.1.1 d.1.2.1 d.1.2.2.2.2.2.1)
noncomputable abbrev B5Q (x0 x1:LIbe) (x5:Int):T3.den:=((x0,x1,(),(),(),x5,u22),())
noncomputable def B26:Code:=((C9 0 (A0N Try.f52)).getD 0 (0,.skip)).2
theorem C2a (x0 x1:LIbe) (x5:Int):(A7O x0 x1 x5).val (D:=T3.den)=.fail∨Runs A0c (B5Q x0 x1 x5) (A7O x0 x1 x5).val:=by
 cases hc:(decide (0≤x5)&&(decide (x0.length=x1.length)&&okL x0)) with
 | false=>left;simp only [A7O,CT.val,hc,cond_false]
 | true =>
  right
  simp only [A7O,CT.val,hc,cond_true]
  simp only [Bool.and_eq_true,decide_eq_true_eq] at hc
  obtain ⟨i,rfl⟩:=Int.eq_ofNat_of_zero_le hc.1
  have hs:=A7g hc.2.2
  simp only [Int.toNat_natCast]
  refine Runs.scan (fun j=>B5Q x0 x1 (j:Int)) (x0.length) (T7 x0 x1) (fun i hi=>?_) (fun i hi=>?_) ⟨_,_,_,rfl,by simp⟩ ⟨_,_,_,rfl,by simp⟩ _ _ rfl
  ·
   have h0a:decide ((i:Int)<(x0.length:Int))=true:=decide_eq_true (by omega)
   have h0b:decide (0≤(i:Int)∧(i:Int)<(x0.length:Int))=true:=decide_eq_true (by omega)
   simp only [A0c,B1l,RT.val,h0a,h0b,cond_true,A7o i (by omega),Int.toNat_natCast]
   have h9:decide (0≤(i:Int)∧(i:Int)<(x1.length:Int))=true:=decide_eq_true (by omega)
   simp only [h9,cond_true]
   simp only [T7]
   generalize (!(B4r ((x0.getD i ((0:Int),false)).1) ((x0.getD i ((0:Int),false)).2) ((x1.getD i ((0:Int),false)).1) ((x1.getD i ((0:Int),false)).2)))=c
   cases c<;>rfl
  ·have h1:decide ((i:Int)<(x0.length:Int))=false:=decide_eq_false (by omega)
   simp only [A0c,B1l,RT.val,h1,cond_false]
theorem C0W:RdA G64 aLn 0 B26 T3 0 [] (kepts [4] [(0,[])]) (fun d=>(A0c d).opt 0 []):=by
 intro d
 kernel_rfl
noncomputable abbrev B4G:St→Option Tree:=T3.say 0 [] [] (fun d=>A7O d.1.1 d.1.2.1 d.1.2.2.2.2.2.1)
theorem C1M:aPL B4G B26:=SS.wp2 hlz [] A0c C0W (fun d=>rfl) _ (fun d=>C2a d.1.1 d.1.2.1 d.1.2.2.2.2.2.1)
noncomputable def B2C (a0 a1:LIbe):Bool:=(cond ((a0.length:Int) != (a1.length:Int)) false (cond (A4B (T7 a0 a1) (a0.length - (0:Int).toNat) (0:Int).toNat) true false))
noncomputable abbrev A8c (r:Bool):AV×List AObj:=((.t true .bool r),[])
noncomputable abbrev B43:H6 A9l→AV×List AObj:=fun d=>A8c (B2C d.1 d.2.1)
noncomputable def A8g (a0 a1:LIbe):Bool:=okL a0
noncomputable abbrev B2G:H6 A9l→Bool:=fun d=>A8g d.1 d.2.1
noncomputable abbrev C4o:Nat→St→Option Tree:=fun b=>match b with | 0=>B4G | _=>fun _=>none
theorem C3f:A7s true G64 (C4o) Try.f52 A9l B2G B43:=by
 rintro ⟨a0,⟨a1,_⟩⟩ hp
 change A8g a0 a1=true at hp
 unfold A8g at hp
 refine Eq.trans (b:=(cond ((a0.length:Int) != (a1.length:Int)) (some (A8c false)) (cond (decide (0≤(0:Int))&&(decide (a0.length=a1.length)&&okL a0)) (cond (A4B (T7 a0 a1) (a0.length - (0:Int).toNat) (0:Int).toNat) (some (A8c true)) (some (A8c false))) none))) (by kernel_rfl) ?_
 exact (O8 A8c (fun _h=>rfl) (fun _h=>(A7v (by simp only [okL,Bool.and_eq_true,decide_eq_true_eq] at hp ⊢;simp at _h;exact ⟨Int.le_refl 0,by omega,hp⟩) (fun _h=>(O8 A8c (fun _h=>rfl) (fun _h=>rfl))))))
theorem C4C:aPP 52 (A2W A9l B2G B43):=pcD true G64 (hl1 (i:=0) (by kernel_rfl) C1M) C3f
noncomputable def S65:Tab:=Tab.add S64 52 (lift (A2W A9l B2G B43))
noncomputable def D0z:FuncId→Bool:=qadd D0y 52
theorem G65:aPG S65 D0z:=G64.addQ C4C (cbl Try.f52) (fun _=>rfl)

abbrev B16:List PSh:=[.agg [(.int .i64),(.int .i64),(.int .i64),tq2,tq4,(.int .i64)],.agg [(.int .i64),(.int .i64),(.int .i64),tq2,tq4,(.int .i64)]]
noncomputable def B6S (a0 a1 a2:Int) (a3:LT1) (a4:LIbe) (a5 a6 a7 a8:Int) (a9:LT1) (a10:LIbe) (a11:Int):Bool:=(cond (a0 != a6) false (cond (a1 != a7) false (cond (a2 != a8) false (cond (!(B7H a3 a9)) false (cond (!(B2C a4 a10)) false (cond (a5 != a11) false true))))))
noncomputable abbrev M6 (r:Bool):AV×List AObj:=((.t true .bool r),[])
noncomputable abbrev B8X:H6 B16→AV×List AObj:=fun d=>M6 (B6S d.1.1 d.1.2.1 d.1.2.2.1 d.1.2.2.2.1 d.1.2.2.2.2.1 d.1.2.2.2.2.2.1 d.2.1.1 d.2.1.2.1 d.2.1.2.2.1 d.2.1.2.2.2.1 d.2.1.2.2.2.2.1 d.2.1.2.2.2.2.2.1)
noncomputable def Z1 (a0 a1 a2:Int) (a3:LT1) (a4:LIbe) (a5 a6 a7 a8:Int) (a9:LT1) (a10:LIbe) (a11:Int):Bool:=cond (a0 != a6) true (cond (a1 != a7) true (cond (a2 != a8) true ((B0i a3 a9)&&(cond (!(B7H a3 a9)) true (A8g a4 a10)))))
noncomputable abbrev B5m:H6 B16→Bool:=fun d=>Z1 d.1.1 d.1.2.1 d.1.2.2.1 d.1.2.2.2.1 d.1.2.2.2.2.1 d.1.2.2.2.2.2.1 d.2.1.1 d.2.1.2.1 d.2.1.2.2.1 d.2.1.2.2.2.1 d.2.1.2.2.2.2.1 d.2.1.2.2.2.2.2.1
theorem C5q:A7s true G65 aLn Try.f17 B16 B5m B8X:=by
 rintro ⟨⟨a0,⟨a1,⟨a2,⟨a3,⟨a4,⟨a5,_⟩⟩⟩⟩⟩⟩,⟨⟨a6,⟨a7,⟨a8,⟨a9,⟨a10,⟨a11,_⟩⟩⟩⟩⟩⟩,_⟩⟩ hp
 change Z1 a0 a1 a2 a3 a4 a5 a6 a7 a8 a9 a10 a11=true at hp
 unfold Z1 at hp
 refine Eq.trans (b:=(cond (a0 != a6) (some (M6 false)) (cond (a1 != a7) (some (M6 false)) (cond (a2 != a8) (some (M6 false)) (cond (B0i a3 a9) (cond (!(B7H a3 a9)) (some (M6 false)) (cond (A8g a4 a10) (cond (!(B2C a4 a10)) (some (M6 false)) (cond (a5 != a11) (some (M6 false)) (some (M6 true)))) none)) none))))) (by kernel_rfl) ?_
 exact (K6 M6 hp (fun hp=>rfl) (fun hp=>(K6 M6 hp (fun hp=>rfl) (fun hp=>(K6 M6 hp (fun hp=>rfl) (fun hp=>(A7t hp fun hp=>(K6 M6 hp (fun hp=>rfl) (fun hp=>(A7v hp fun _h=>(O8 M6 (fun _h=>rfl) (fun _h=>(O8 M6 (fun _h=>rfl) (fun _h=>rfl))))))))))))))
theorem C61:aPP 17 (A2W B16 B5m B8X):=pcD true G65 hlz C5q
noncomputable def S66:Tab:=Tab.add S65 17 (lift (A2W B16 B5m B8X))
noncomputable def D0A:FuncId→Bool:=qadd D0z 17
theorem G66:aPG S66 D0A:=G65.addQ C61 (cbl Try.f17) (fun _=>rfl)

abbrev B0J:List PSh:=[.t (.int .i64)]
abbrev R4:SS:=⟨(tI::.junk::.junk::.t true .str::C7a),[]⟩
abbrev B05:SS:=⟨(.junk::.junk::.junk::.t true .str::C7a),[]⟩
noncomputable def A94 (x0:Int) (x3:ByteArray):RT R4.den:=(.br (decide (x0 > (0:Int))) (.br (decide ((((⟨([IntKind.wrap .u8 (wI ((48:Int)+(Int.tmod x0 (10:Int))))].map fun n=>UInt8.ofNat n.toNat).toArray⟩:ByteArray).size+x3.size:Nat):Int)≤IntKind.i64.max)) (.next ((wI (Int.tdiv x0 (10:Int)),(),(),(⟨([IntKind.wrap .u8 (wI ((48:Int)+(Int.tmod x0 (10:Int))))].map fun n=>UInt8.ofNat n.toNat).toArray⟩:ByteArray)++x3,u17),())) .fail) (.done (.exit 0) B05 (((),(),(),x3,u17),())))
noncomputable def A8r (x0:Int) (x3:ByteArray):CT:=(.br (decide (x0≤1000000000000)&&decide (x3.size≤1000)) (.done (.exit 0) B05 (((),(),(),(C0t 13 x0 x3),u17),())) .fail)
noncomputable abbrev P5:R4.den→RT R4.den:=(fun d=>A94 d.1.1 d.1.2.2.2.1)
noncomputable abbrev A70 (x0:Int) (x3:ByteArray):R4.den:=((x0,(),(),x3,u17),())
noncomputable def B4l:Code:=((C9 0 (A0N Try.f117)).getD 0 (0,.skip)).2
theorem C3y (x0:Int) (x3:ByteArray):(A8r x0 x3).val (D:=R4.den)=.fail∨Runs P5 (A70 x0 x3) (A8r x0 x3).val:=by
 cases hc:(decide (x0≤1000000000000)&&decide (x3.size≤1000)) with
 | false=>left;simp only [A8r,CT.val,hc,cond_false]
 | true =>
  right
  simp only [A8r,CT.val,hc,cond_true]
  simp only [Bool.and_eq_true,decide_eq_true_eq] at hc
  have key:∀ (k:Nat) (x:Int) (s:ByteArray),x<10 ^ k→x≤1000000000000→s.size+k≤2000→Runs P5 (A70 x s) (((.done (.exit 0) B05 (((),(),(),(C0t k x s),u17),())):CT).val (D:=R4.den)):=by
   intro k
   induction k with
   | zero =>
    intro x s h1 h2 h3
    rw [show (10:Int) ^ 0=1 from rfl] at h1
    have e1:decide (x > (0:Int))=false:=decide_eq_false (by omega)
    refine .done (by simp) ?_
    simp only [P5,A94,RT.val,e1,cond_false,C0t]
   | succ k ih =>
    intro x s h1 h2 h3
    rw [Int.pow_succ] at h1
    by_cases hx:x > 0
    ·have e1:decide (x > (0:Int))=true:=decide_eq_true hx
     have e2:decide ((((C4K x).size+s.size:Nat):Int)≤IntKind.i64.max)=true:=decide_eq_true (by rw [C0y,show IntKind.i64.max=9223372036854775807 from rfl];omega)
     have e4:Int.tdiv x (10:Int)=x / 10:=Int.tdiv_eq_ediv_of_nonneg (by omega)
     have e5:wI (Int.tdiv x (10:Int))=x / 10:=by rw [e4];exact A6A (by omega) (by omega)
     have:=ih (wI (Int.tdiv x (10:Int))) (C4K x++s) (by rw [e5];omega) (by rw [e5];omega) (by rw [ByteArray.size_append,C0y];omega)
     refine .next (d':=A70 (wI (Int.tdiv x (10:Int))) (C4K x++s)) ?_ ?_
     ·have e6 : (P5 (A70 x s)).val = cond (decide ((((C4K x).size + s.size : Nat) : Int) ≤ IntKind.i64.max)) (.next (A70 (wI (Int.tdiv x (10 : Int))) (C4K x ++ s))) .fail := by
       simp only [P5,A94,RT.val,e1,cond_true];rfl
      rw [e6,e2];rfl
     ·have e3:C0t (k+1) x s=C0t k (wI (Int.tdiv x (10:Int))) (C4K x++s):=by simp only [C0t,e1,cond_true]
      rw [e3]
      exact this
    ·have e1:decide (x > (0:Int))=false:=decide_eq_false hx
     refine .done (by simp) ?_
     simp only [P5,A94,RT.val,e1,cond_false,C0t]
  exact key 13 x0 x3 (by have:=hc.1;rw [show (10:Int) ^ 13=10000000000000 from rfl];omega) hc.1 (by have:=hc.2;omega)
theorem C1U:RdA G66 aLn 0 B4l R4 0 [] (kepts [] [(0,[3])]) (fun d=>(P5 d).opt 0 []):=by
 intro d
 kernel_rfl
noncomputable abbrev B5Z:St→Option Tree:=R4.say 0 [] [] (fun d=>A8r d.1.1 d.1.2.2.2.1)
theorem C2K:aPL B5Z B4l:=SS.wp2 hlz [] P5 C1U (fun d=>rfl) _ (fun d=>C3y d.1.1 d.1.2.2.2.1)
noncomputable def J4 (a0:Int):ByteArray:=(cond (decide (a0≤(0:Int))) (⟨#[109,48]⟩:ByteArray) ((⟨#[109]⟩:ByteArray)++(C0t 13 a0 bE)))
noncomputable abbrev B3d (r:ByteArray):AV×List AObj:=((.t true .str r),[])
noncomputable abbrev B6M:H6 B0J→AV×List AObj:=fun d=>B3d (J4 d.1)
noncomputable def J0 (a0:Int):Bool:=decide (a0≤1000000000000)
noncomputable abbrev B3O:H6 B0J→Bool:=fun d=>J0 d.1
noncomputable abbrev C5J:Nat→St→Option Tree:=fun b=>match b with | 0=>B5Z | _=>fun _=>none
theorem C38:A7s true G66 (C5J) Try.f117 B0J B3O B6M:=by
 rintro ⟨a0,_⟩ hp
 change J0 a0=true at hp
 unfold J0 at hp
 refine Eq.trans (b:=(cond (decide (a0≤(0:Int))) (some (B3d (⟨#[109,48]⟩:ByteArray))) (cond (decide (a0≤1000000000000)&&decide ((⟨#[]⟩:ByteArray).size≤1000)) (cond (decide ((((⟨#[109]⟩:ByteArray).size+(C0t 13 a0 (⟨#[]⟩:ByteArray)).size:Nat):Int)≤IntKind.i64.max)) (some (B3d ((⟨#[109]⟩:ByteArray)++(C0t 13 a0 (⟨#[]⟩:ByteArray))))) none) none))) (by kernel_rfl) ?_
 exact (O8 B3d (fun _h=>rfl) (fun _h=>(A7v (by rw [hp];rfl) (fun _h=>(A7v (by have h1:=C8L 13 a0 (⟨#[]⟩:ByteArray);rw [decide_eq_true_eq];have h2:((⟨#[]⟩:ByteArray)).size=0:=rfl;have h3:((⟨#[109]⟩:ByteArray)).size=1:=rfl;rw [h2] at h1;rw [h3,show IntKind.i64.max=9223372036854775807 from rfl];omega) (fun _h=>rfl))))))
theorem C50:aPP 117 (A2W B0J B3O B6M):=pcD true G66 (hl1 (i:=0) (by kernel_rfl) C2K) C38
noncomputable def S67:Tab:=Tab.add S66 117 (lift (A2W B0J B3O B6M))
noncomputable def D0B:FuncId→Bool:=qadd D0A 117
theorem G67:aPG S67 D0B:=G66.addQ C50 (cbl Try.f117) (fun _=>rfl)

abbrev D1y:List Sh:=.junk::.junk::.junk::.junk::C4W
abbrev u31:=((),(),(),u28)
abbrev D1l:List AV:=.junk::.junk::.junk::.junk::C85

noncomputable def K3 (i:Nat) (b:Int×Lq1):Int×Lq1:=(wI ((wI ((wI (b.1+(1:Int)))+(1:Int)))+(1:Int)),((b.2.set i (b.1,(((b.2.getD i ((0:Int),(bE,bE))).2).1,((b.2.getD i ((0:Int),(bE,bE))).2).2))).set i (((b.2.set i (b.1,(((b.2.getD i ((0:Int),(bE,bE))).2).1,((b.2.getD i ((0:Int),(bE,bE))).2).2))).getD i ((0:Int),(bE,bE))).1,((J4 (wI (b.1+(1:Int)))),(((b.2.set i (b.1,(((b.2.getD i ((0:Int),(bE,bE))).2).1,((b.2.getD i ((0:Int),(bE,bE))).2).2))).getD i ((0:Int),(bE,bE))).2).2))).set i ((((b.2.set i (b.1,(((b.2.getD i ((0:Int),(bE,bE))).2).1,((b.2.getD i ((0:Int),(bE,bE))).2).2))).set i (((b.2.set i (b.1,(((b.2.getD i ((0:Int),(bE,bE))).2).1,((b.2.getD i ((0:Int),(bE,bE))).2).2))).getD i ((0:Int),(bE,bE))).1,((J4 (wI (b.1+(1:Int)))),(((b.2.set i (b.1,(((b.2.getD i ((0:Int),(bE,bE))).2).1,((b.2.getD i ((0:Int),(bE,bE))).2).2))).getD i ((0:Int),(bE,bE))).2).2))).getD i ((0:Int),(bE,bE))).1,(((((b.2.set i (b.1,(((b.2.getD i ((0:Int),(bE,bE))).2).1,((b.2.getD i ((0:Int),(bE,bE))).2).2))).set i (((b.2.set i (b.1,(((b.2.getD i ((0:Int),(bE,bE))).2).1,((b.2.getD i ((0:Int),(bE,bE))).2).2))).getD i ((0:Int),(bE,bE))).1,((J4 (wI (b.1+(1:Int)))),(((b.2.set i (b.1,(((b.2.getD i ((0:Int),(bE,bE))).2).1,((b.2.getD i ((0:Int),(bE,bE))).2).2))).getD i ((0:Int),(bE,bE))).2).2))).getD i ((0:Int),(bE,bE))).2).1,(J4 (wI ((wI (b.1+(1:Int)))+(1:Int)))))))
abbrev B21:SS:=⟨[.all 0 3,tI],[.rows 90 true tq7]⟩
abbrev V2:SS:=⟨(.all 0 3::tI::.junk::.junk::.junk::tI::D1y),[.rows 90 true tq7]⟩
abbrev B10:SS:=⟨(.junk::tI::C88),[.rows 90 true tq7]⟩
noncomputable def B3Y (x1 x5:Int) (h0:Lq1):RT V2.den:=let z4:=wI (x1+(1:Int));let z3:=wI (z4+(1:Int));let z5:=(h0.getD x5.toNat ((0:Int),(bE,bE))).2;let z2:=h0.set x5.toNat (x1,(z5.1,z5.2));let z7:=z2.getD x5.toNat ((0:Int),(bE,bE));let z1:=z2.set x5.toNat (z7.1,((J4 z4),(z7.2).2));let z6:=z1.getD x5.toNat ((0:Int),(bE,bE));(.br (decide (x5<(h0.length:Int))) (.br (decide (0≤x5∧x5<(h0.length:Int))) (.br (J0 z4) (.br (decide (0≤x5∧x5<((z2.length:Nat):Int))) (.br (J0 z3) (.br (decide (0≤x5∧x5<((z1.length:Nat):Int))) (.next (((),wI (z3+(1:Int)),(),(),(),wI (x5+(1:Int)),u31),(z1.set x5.toNat (z6.1,((z6.2).1,(J4 z3))),()))) .fail) .fail) .fail) .fail) .fail) (.done (.exit 0) B10 (((),x1,u35),(h0,()))))
noncomputable def A9s (x1 x5:Int) (h0:Lq1):CT:=(.br (decide (0≤x5)&&(decide (0≤x1∧x1≤100000*(x5+100))&&okL h0)) (.done (.exit 0) B10 (((),((foldN K3 (h0.length - x5.toNat) x5.toNat (x1,h0)).1),u35),(((foldN K3 (h0.length - x5.toNat) x5.toNat (x1,h0)).2),()))) .fail)
noncomputable abbrev A0j:V2.den→RT V2.den:=(fun d=>B3Y d.1.2.1 d.1.2.2.2.2.2.1 d.2.1)
noncomputable abbrev B8p (x1 x5:Int) (h0:Lq1):V2.den:=(((),x1,(),(),(),x5,u31),(h0,()))
noncomputable def B5J:Code:=((C9 0 (A0N Try.f83)).getD 0 (0,.skip)).2
theorem C4s (x1 x5:Int) (h0:Lq1):(A9s x1 x5 h0).val (D:=V2.den)=.fail∨Runs A0j (B8p x1 x5 h0) (A9s x1 x5 h0).val:=by
 cases hc:(decide (0≤x5)&&(decide (0≤x1∧x1≤100000*(x5+100))&&okL h0)) with
 | false=>left;simp only [A9s,CT.val,hc,cond_false]
 | true =>
  right
  simp only [A9s,CT.val,hc,cond_true]
  simp only [Bool.and_eq_true,decide_eq_true_eq] at hc
  obtain ⟨i,rfl⟩:=Int.eq_ofNat_of_zero_le hc.1
  have hs:=A7g hc.2.2
  have hk:=hc.2.1
  simp only [Int.toNat_natCast]
  refine Runs.foldN (step:=A0j) (fun j b=>B8p b.1 (j:Int) b.2) (fun i b=>(0≤b.1∧b.1≤100000*((i:Int)+100))∧b.2.length=h0.length) (h0.length) K3
   (fin:=fun b=>((.done (.exit 0) B10 (((),b.1,u35),(b.2,()))):CT).val) (fun i b hi hb=>?_) (fun i b hi hb=>?_) (h0.length - i) i (x1,h0) rfl ⟨hk,rfl⟩
  ·obtain ⟨k,h⟩:=b
   obtain ⟨hb1,hb2⟩:=hb
   simp only at hb1 hb2
   have w1:wI (k+(1:Int))=k+(1:Int):=A6A (by omega) (by omega)
   have w2:wI (k+(1:Int)+(1:Int))=k+(1:Int)+(1:Int):=A6A (by omega) (by omega)
   have w3:wI (k+(1:Int)+(1:Int)+(1:Int))=k+(1:Int)+(1:Int)+(1:Int):=A6A (by omega) (by omega)
   have e0:(decide (0≤(i:Int)∧(i:Int)<(h.length:Int)))=true:=decide_eq_true (by (try simp only [List.length_set]);omega)
   have e1:(J0 (wI (k+(1:Int))))=true:=by simp only [J0,w1,w2,w3];exact decide_eq_true (by omega)
   have e2:(decide (0≤(i:Int)∧(i:Int)<(((h.set i (k,(((h.getD i ((0:Int),((⟨#[]⟩:ByteArray),(⟨#[]⟩:ByteArray)))).2).1,((h.getD i ((0:Int),((⟨#[]⟩:ByteArray),(⟨#[]⟩:ByteArray)))).2).2))).length:Nat):Int)))=true:=decide_eq_true (by (try simp only [List.length_set]);omega)
   have e3:(J0 (wI ((wI (k+(1:Int)))+(1:Int))))=true:=by simp only [J0,w1,w2,w3];exact decide_eq_true (by omega)
   have e4:(decide (0≤(i:Int)∧(i:Int)<((((h.set i (k,(((h.getD i ((0:Int),((⟨#[]⟩:ByteArray),(⟨#[]⟩:ByteArray)))).2).1,((h.getD i ((0:Int),((⟨#[]⟩:ByteArray),(⟨#[]⟩:ByteArray)))).2).2))).set i (((h.set i (k,(((h.getD i ((0:Int),((⟨#[]⟩:ByteArray),(⟨#[]⟩:ByteArray)))).2).1,((h.getD i ((0:Int),((⟨#[]⟩:ByteArray),(⟨#[]⟩:ByteArray)))).2).2))).getD i ((0:Int),((⟨#[]⟩:ByteArray),(⟨#[]⟩:ByteArray)))).1,((J4 (wI (k+(1:Int)))),(((h.set i (k,(((h.getD i ((0:Int),((⟨#[]⟩:ByteArray),(⟨#[]⟩:ByteArray)))).2).1,((h.getD i ((0:Int),((⟨#[]⟩:ByteArray),(⟨#[]⟩:ByteArray)))).2).2))).getD i ((0:Int),((⟨#[]⟩:ByteArray),(⟨#[]⟩:ByteArray)))).2).2))).length:Nat):Int)))=true:=decide_eq_true (by (try simp only [List.length_set]);omega)
   have h1:decide ((i:Int)<(h.length:Int))=true:=decide_eq_true (by omega)
   have v1:(K3 i (k,h)).1=k+(1:Int)+(1:Int)+(1:Int):=by simp only [K3,w1,w2,w3]
   have v2:(K3 i (k,h)).2.length=h.length:=by simp only [K3,List.length_set]
   refine ⟨⟨by rw [v1];omega,by rw [v2];exact hb2⟩,?_⟩
   simp only [A0j,B3Y,RT.val,h1,e0,e1,e2,e3,e4,cond_true,A7o i (by omega),Int.toNat_natCast]
   rfl
  ·have h1:decide ((i:Int)<(b.2.length:Int))=false:=decide_eq_false (by omega)
   exact ⟨by simp only [A0j,B3Y,RT.val,h1,cond_false];rfl,_,_,_,rfl,by simp⟩
noncomputable def B8l (x1 x5:Int) (h0:Lq1):Option (Ex×St):=let z4:=wI (x1+(1:Int));let z3:=wI (z4+(1:Int));let z5:=(h0.getD x5.toNat ((0:Int),(bE,bE))).2;let z2:=h0.set x5.toNat (x1,(z5.1,z5.2));let z7:=z2.getD x5.toNat ((0:Int),(bE,bE));let z1:=z2.set x5.toNat (z7.1,((J4 z4),(z7.2).2));let z6:=z1.getD x5.toNat ((0:Int),(bE,bE));(cond (decide (x5<(h0.length:Int))) (cond (decide (0≤x5∧x5<(h0.length:Int))) (cond (J0 z4) (cond (decide (0≤x5∧x5<((z2.length:Nat):Int))) (cond (J0 z3) (cond (decide (0≤x5∧x5<((z1.length:Nat):Int))) (some (.normal,(⟨((.all 0 3)::(ti (wI (z3+(1:Int))))::.junk::.junk::.junk::(ti (wI (x5+(1:Int))))::D1l),[(.rows 90 true tq7 (z1.set x5.toNat (z6.1,((z6.2).1,(J4 z3)))))],1,[]⟩:St))) none) none) none) none) none) (some ((.exit 0),(⟨(.junk::(ti x1)::C86),[(.rows 90 true tq7 h0)],1,[]⟩:St))))
theorem C2X:RdA G67 aLn 0 B5J V2 1 [] (kepts [] [(0,[1])]) (fun d=>B8l d.1.2.1 d.1.2.2.2.2.2.1 d.2.1):=by
 intro d
 kernel_rfl
theorem C24:∀ d:V2.den,(fun d=>B8l d.1.2.1 d.1.2.2.2.2.2.1 d.2.1) d=(A0j d).opt 1 []:=by
 intro d
 kernel_rfl
noncomputable abbrev B7m:St→Option Tree:=V2.say 1 [] [] (fun d=>A9s d.1.2.1 d.1.2.2.2.2.2.1 d.2.1)
theorem C3K:aPL B7m B5J:=SS.wp2 hlz [] A0j C2X C24 _ (fun d=>C4s d.1.2.1 d.1.2.2.2.2.2.1 d.2.1)
noncomputable def K9 (x1:Int) (h0:Lq1):Int×Lq1:=let z1:=foldN K3 (h0.length - (0:Int).toNat) (0:Int).toNat (x1,h0);((z1.1),(z1.2))
noncomputable abbrev C2l (r:Int×Lq1):AV×List AObj×List Nat:=((ti r.1),[(.rows 90 true tq7 r.2)],[])
noncomputable abbrev C2t:B21.den→AV×List AObj×List Nat:=fun d=>C2l (K9 d.1.2.1 d.2.1)
noncomputable def A75 (x1:Int) (h0:Lq1):Bool:=okL h0&&decide (0≤x1∧x1≤10000000)
noncomputable abbrev B97:B21.den→Bool:=fun d=>A75 d.1.2.1 d.2.1
noncomputable abbrev C6K:Nat→St→Option Tree:=fun b=>match b with | 0=>B7m | _=>fun _=>none
theorem C5s:A7r G67 (C6K) Try.f83 B21 B97 C2t:=by
 rintro ⟨⟨_,x1,_⟩,⟨h0,_⟩⟩ hp
 change A75 x1 h0=true at hp
 unfold A75 at hp
 refine Eq.trans (b:=(let z1:=foldN K3 (h0.length - (0:Int).toNat) (0:Int).toNat (x1,h0);cond (decide (0≤(0:Int))&&(decide (0≤x1∧x1≤100000*((0:Int)+100))&&okL h0)) (some (C2l ((z1.1),(z1.2)))) none)) (by kernel_rfl) ?_
 exact (A7v (by first | rfl | decide | exact hp | (simp only [Bool.and_eq_true] at hp;simp only [hp];done) | (simp [*];done) | (simp [okL] at hp;simp [okL,MAXB];omega) | (simp_all;done) | (simp at *;omega)) (fun _h=>rfl))
noncomputable abbrev C2N:=win E6 (msum B21 B97 C2t)
theorem C63:aPM 83 C2N:=(mcM G67 (hl1 (i:=0) (by kernel_rfl) C3K) C5s).win E6
noncomputable def S68:Tab:=Tab.add S67 83 (orLend C2N)
noncomputable def D0C:FuncId→Bool:=D0B
theorem G68:aPG S68 D0C:=G67.addM C63.orLend (A6O (A62 _)) (cbl Try.f83) (by kernel_rfl)


noncomputable def L3 (i:Nat) (b:Int×List Int):Int×List Int:=(wI (b.1+(1:Int)),b.2.set i b.1)
abbrev B1v:SS:=⟨[.all 0 1,tI],[.rows 3 true (.int .i64)]⟩
abbrev V9:SS:=⟨(.all 0 1::tI::.junk::.junk::.junk::tI::C9y),[.rows 3 true (.int .i64)]⟩
abbrev B04:SS:=⟨(.junk::tI::C74),[.rows 3 true (.int .i64)]⟩
noncomputable def B2Z (x1 x5:Int) (h0:List Int):RT V9.den:=(.br (decide (x5<(h0.length:Int))) (.br (decide (0≤x5∧x5<(h0.length:Int))) (.next (((),wI (x1+(1:Int)),(),(),(),wI (x5+(1:Int)),u14),(h0.set x5.toNat x1,()))) .fail) (.done (.exit 0) B04 (((),x1,u18),(h0,()))))
noncomputable def A8q (x1 x5:Int) (h0:List Int):CT:=(.br (decide (0≤x5)&&(decide (0≤x1∧x1≤100000*(x5+100))&&okL h0)) (.done (.exit 0) B04 (((),((foldN L3 (h0.length - x5.toNat) x5.toNat (x1,h0)).1),u18),(((foldN L3 (h0.length - x5.toNat) x5.toNat (x1,h0)).2),()))) .fail)
noncomputable abbrev X3:V9.den→RT V9.den:=(fun d=>B2Z d.1.2.1 d.1.2.2.2.2.2.1 d.2.1)
noncomputable abbrev B6Z (x1 x5:Int) (h0:List Int):V9.den:=(((),x1,(),(),(),x5,u14),(h0,()))
noncomputable def B4j:Code:=((C9 0 (A0N Try.f114)).getD 0 (0,.skip)).2
theorem C3x (x1 x5:Int) (h0:List Int):(A8q x1 x5 h0).val (D:=V9.den)=.fail∨Runs X3 (B6Z x1 x5 h0) (A8q x1 x5 h0).val:=by
 cases hc:(decide (0≤x5)&&(decide (0≤x1∧x1≤100000*(x5+100))&&okL h0)) with
 | false=>left;simp only [A8q,CT.val,hc,cond_false]
 | true =>
  right
  simp only [A8q,CT.val,hc,cond_true]
  simp only [Bool.and_eq_true,decide_eq_true_eq] at hc
  obtain ⟨i,rfl⟩:=Int.eq_ofNat_of_zero_le hc.1
  have hs:=A7g hc.2.2
  have hk:=hc.2.1
  simp only [Int.toNat_natCast]
  refine Runs.foldN (step:=X3) (fun j b=>B6Z b.1 (j:Int) b.2) (fun i b=>(0≤b.1∧b.1≤100000*((i:Int)+100))∧b.2.length=h0.length) (h0.length) L3
   (fin:=fun b=>((.done (.exit 0) B04 (((),b.1,u18),(b.2,()))):CT).val) (fun i b hi hb=>?_) (fun i b hi hb=>?_) (h0.length - i) i (x1,h0) rfl ⟨hk,rfl⟩
  ·obtain ⟨k,h⟩:=b
   obtain ⟨hb1,hb2⟩:=hb
   simp only at hb1 hb2
   have w1:wI (k+(1:Int))=k+(1:Int):=A6A (by omega) (by omega)
   have e0:(decide (0≤(i:Int)∧(i:Int)<(h.length:Int)))=true:=decide_eq_true (by (try simp only [List.length_set]);omega)
   have h1:decide ((i:Int)<(h.length:Int))=true:=decide_eq_true (by omega)
   have v1:(L3 i (k,h)).1=k+(1:Int):=by simp only [L3,w1]
   have v2:(L3 i (k,h)).2.length=h.length:=by simp only [L3,List.length_set]
   refine ⟨⟨by rw [v1];omega,by rw [v2];exact hb2⟩,?_⟩
   simp only [X3,B2Z,RT.val,h1,e0,cond_true,A7o i (by omega),Int.toNat_natCast]
   rfl
  ·have h1:decide ((i:Int)<(b.2.length:Int))=false:=decide_eq_false (by omega)
   exact ⟨by simp only [X3,B2Z,RT.val,h1,cond_false];rfl,_,_,_,rfl,by simp⟩
theorem C1S:RdA G68 aLn 0 B4j V9 1 [] (kepts [] [(0,[1])]) (fun d=>(X3 d).opt 1 []):=by
 intro d
 kernel_rfl
noncomputable abbrev B5X:St→Option Tree:=V9.say 1 [] [] (fun d=>A8q d.1.2.1 d.1.2.2.2.2.2.1 d.2.1)
theorem C2I:aPL B5X B4j:=SS.wp2 hlz [] X3 C1S (fun d=>rfl) _ (fun d=>C3x d.1.2.1 d.1.2.2.2.2.2.1 d.2.1)
noncomputable def R8 (x1:Int) (h0:List Int):Int×List Int:=let z1:=foldN L3 (h0.length - (0:Int).toNat) (0:Int).toNat (x1,h0);((z1.1),(z1.2))
noncomputable abbrev C09 (r:Int×List Int):AV×List AObj×List Nat:=((ti r.1),[(.rows 3 true (.int .i64) r.2)],[])
noncomputable abbrev C1e:B1v.den→AV×List AObj×List Nat:=fun d=>C09 (R8 d.1.2.1 d.2.1)
noncomputable def X9 (x1:Int) (h0:List Int):Bool:=okL h0&&decide (0≤x1∧x1≤10000000)
noncomputable abbrev B8q:B1v.den→Bool:=fun d=>X9 d.1.2.1 d.2.1
noncomputable abbrev C5H:Nat→St→Option Tree:=fun b=>match b with | 0=>B5X | _=>fun _=>none
theorem C36:A7r G68 (C5H) Try.f114 B1v B8q C1e:=by
 rintro ⟨⟨_,x1,_⟩,⟨h0,_⟩⟩ hp
 change X9 x1 h0=true at hp
 unfold X9 at hp
 refine Eq.trans (b:=(let z1:=foldN L3 (h0.length - (0:Int).toNat) (0:Int).toNat (x1,h0);cond (decide (0≤(0:Int))&&(decide (0≤x1∧x1≤100000*((0:Int)+100))&&okL h0)) (some (C09 ((z1.1),(z1.2)))) none)) (by kernel_rfl) ?_
 exact (A7v (by first | rfl | decide | exact hp | (simp only [Bool.and_eq_true] at hp;simp only [hp];done) | (simp [*];done) | (simp [okL] at hp;simp [okL,MAXB];omega) | (simp_all;done) | (simp at *;omega)) (fun _h=>rfl))
noncomputable abbrev C1n:=win E6 (msum B1v B8q C1e)
theorem C5Y:aPM 114 C1n:=(mcM G68 (hl1 (i:=0) (by kernel_rfl) C2I) C36).win E6
noncomputable def S69:Tab:=Tab.add S68 114 (orLend C1n)
noncomputable def D0D:FuncId→Bool:=D0C
theorem G69:aPG S69 D0D:=G68.addM C5Y.orLend (A6O (A62 _)) (cbl Try.f114) (by kernel_rfl)


end Go.Proofs.Ytapikgcgahomlaa.Eng
