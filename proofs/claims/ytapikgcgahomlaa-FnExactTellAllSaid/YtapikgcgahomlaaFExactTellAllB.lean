/- What the functions that FnExactTellAll reaches compute: further. -/
import Derived.Test.YtapikgcgahomlaaFExactTellAllA
namespace Go.Proofs.Ytapikgcgahomlaa.Eng
open Go Go.RowKit
set_option linter.unusedSimpArgs false
set_option linter.unusedVariables false
set_option maxRecDepth 10000
abbrev D1N:List Sh:=.junk::.junk::.junk::.junk::.junk::.junk::.junk::.junk::.junk::.junk::[]
abbrev D1Q:List Sh:=.junk::D1P
abbrev u15:=((),u14)
abbrev u11:=((),(),(),(),(),(),(),(),(),(),())
abbrev u20:=((),u19)
abbrev M5:SS:=⟨[.t false tq5,.fn 92 [0]],[.box [tI]]⟩
abbrev I5:SS:=⟨(.t false tq5::.fn 92 [0]::.junk::.junk::.junk::.junk::.junk::tI::tI::D1N),[.box [tI]]⟩
abbrev W9:SS:=⟨(.junk::.junk::.junk::.junk::tI::D1Q),[.box [tI]]⟩
abbrev X0:SS:=⟨(.junk::C6I),[.box [tI]]⟩
noncomputable def Q9 (x0:LIbe) (x8 p0:Int):=let z1:=x0.getD x8.toNat ((0:Int),false);A9L (z1.1) (z1.2) p0
noncomputable def Y3 (x0:LIbe) (x7 x8 p0:Int):RT I5.den:=(.br (decide (x8<x7)) (.br (decide (0≤x8∧x8<(x0.length:Int))) (.br (Q9 x0 x8 p0) (.done .ret W9 (((),(),(),(),x8,u15),((p0,()),()))) (.next ((x0,(),(),(),(),(),(),x7,wI (x8+(1:Int)),u11),((p0,()),())))) .fail) (.done (.exit 0) X0 ((u20),((p0,()),()))))
abbrev M2:=(LIbe)×(Int)×(Int)
abbrev L0:=Nat×(Int)
def X8:L0:=(99,((0:Int):Int))
noncomputable def L9 (x0:LIbe) (x7 x8 p0:Int):M2 ⊕ L0:=(cond (decide (x8<x7)) (cond (decide (0≤x8∧x8<(x0.length:Int))) (cond (Q9 x0 x8 p0) (.inr (0,x8)) (.inl (x0,x7,wI (x8+(1:Int))))) (.inr X8)) (.inr (1,((0:Int):Int))))
noncomputable def K5 (x0:LIbe) (x7 x8 p0:Int):L0:=itX (fun v:M2=>L9 v.1 v.2.1 v.2.2 p0) X8 (x0,x7,x8)
noncomputable def O9 (p0:Int) (a:L0):CT:=(.br (a.1==0) (.done .ret W9 (((),(),(),(),a.2,u15),((p0,()),()))) (.br (a.1==1) (.done (.exit 0) X0 ((u20),((p0,()),()))) .fail))
noncomputable def B1n (x0:LIbe) (x7 x8 p0:Int):CT:=(O9 p0) (K5 x0 x7 x8 p0)
noncomputable abbrev X7 {α:Sort _} (f:LIbe→Int→Int→Int→α) (d:I5.den):α:=f d.1.1 d.1.2.2.2.2.2.2.2.1 d.1.2.2.2.2.2.2.2.2.1 d.2.1.1
noncomputable abbrev P3:I5.den→RT I5.den:=(X7 Y3)
noncomputable def W5:Code:=((D3 0 (A1f Try.f91)).getD 0 (0,.skip)).2
noncomputable abbrev X9 (p0:Int) (v:M2):I5.den:=((v.1,(),(),(),(),(),(),v.2.1,v.2.2,u11),((p0,()),()))
theorem B1b (p0:Int):(∀ v:M2,(Y3 v.1 v.2.1 v.2.2 p0).val=A6l (X9 p0) (O9 p0) (L9 v.1 v.2.1 v.2.2 p0))∧∀ a:L0,CEnd I5.den ((O9 p0) a):=⟨fun v=>(A7m (A7m (A7m rfl rfl) rfl) rfl),fun a=>(A7a aCD (A7a aCD A7c))⟩
theorem B0A:RdA G37 aLn 0 W5 I5 1 [] (kepts [4] [(0,[])]) (fun d=>(P3 d).opt 1 []):=by
 intro d
 kernel_rfl
noncomputable abbrev X3:St→Option Tree:=I5.say 1 [] [] (X7 B1n)
theorem B1a:aPL X3 W5:=SS.wp2 hlz [] P3 B0A (fun d=>rfl) _ (fun d=>Runs.ofI2 (step:=P3) (X9 d.2.1.1) (B1b d.2.1.1) rfl (d.1.1,d.1.2.2.2.2.2.2.2.1,d.1.2.2.2.2.2.2.2.2.1))
noncomputable def O3 (x0:LIbe) (p0:Int):Int:=let z1:=K5 x0 (x0.length:Int) (0:Int) p0;(cond (z1.1==0) (z1.2) (-1:Int))
noncomputable abbrev M7 (p0 r:Int):AV×List AObj×List Nat:=((ti r),[(.box [(ti p0)])],[])
noncomputable abbrev A7R:M5.den→AV×List AObj×List Nat:=fun d=>M7 d.2.1.1 (O3 d.1.1 d.2.1.1)
noncomputable def K2 (x0:LIbe) (p0:Int):Bool:=let z1:=K5 x0 (x0.length:Int) (0:Int) p0;cond (z1.1==0) true (z1.1==1)
noncomputable abbrev A0f:M5.den→Bool:=fun d=>K2 d.1.1 d.2.1.1
noncomputable abbrev B2u:Nat→St→Option Tree:=fun b=>match b with | 0=>X3 | _=>fun _=>none
theorem B1w:A7g G37 (B2u) Try.f91 M5 A0f A7R:=by
 rintro ⟨⟨x0,_,_⟩,⟨⟨p0,_⟩,_⟩⟩ hp
 change K2 x0 p0=true at hp
 unfold K2 at hp
 refine Eq.trans (b:=(let z1:=K5 x0 (x0.length:Int) (0:Int) p0;cond (z1.1==0) (some (M7 p0 (z1.2))) (cond (z1.1==1) (some (M7 p0 (-1:Int))) none))) (by kernel_rfl) ?_
 exact (K8 (M7 p0) hp (fun hp=>rfl) (fun hp=>(A7k hp fun _h=>rfl)))
noncomputable abbrev A7X:=winQ (msum M5 A0f A7R)
theorem B2Q:aPM 91 A7X:=(mcM G37 (hl1 (i:=0) (by kernel_rfl) B1a) B1w).winQ (A6K fun d=>⟨rfl,rfl⟩)
noncomputable def S38:Tab:=Tab.add S37 91 (A7X)
noncomputable def D2t:FuncId→Bool:=qadd D2s 91
theorem G38:aPG S38 D2t:=G37.addMQ B2Q (A6Q _) (cbl Try.f91) (A5u _)

abbrev Y4:SS:=⟨[.ptr 0 0 1 0,tI],[.box [tI,tI,tI,.t false tq2,.t false tq5,tI]]⟩
noncomputable def K0 (x1 p0 p1 p2:Int) (p3:LT1) (p4:LIbe) (p5:Int):Int:=(O3 p4 x1)
noncomputable abbrev B3G (p0 p1 p2:Int) (p3:LT1) (p4:LIbe) (p5 r:Int):AV×List AObj×List Nat:=((ti r),[(.box [(ti p0),(ti p1),(ti p2),(.t false tq2 p3),(.t false tq5 p4),(ti p5)])],[])
noncomputable abbrev B3P:Y4.den→AV×List AObj×List Nat:=fun d=>B3G d.2.1.1 d.2.1.2.1 d.2.1.2.2.1 d.2.1.2.2.2.1 d.2.1.2.2.2.2.1 d.2.1.2.2.2.2.2.1 (K0 d.1.2.1 d.2.1.1 d.2.1.2.1 d.2.1.2.2.1 d.2.1.2.2.2.1 d.2.1.2.2.2.2.1 d.2.1.2.2.2.2.2.1)
noncomputable def I9 (x1 p0 p1 p2:Int) (p3:LT1) (p4:LIbe) (p5:Int):Bool:=K2 p4 x1
noncomputable abbrev B1L:Y4.den→Bool:=fun d=>I9 d.1.2.1 d.2.1.1 d.2.1.2.1 d.2.1.2.2.1 d.2.1.2.2.2.1 d.2.1.2.2.2.2.1 d.2.1.2.2.2.2.2.1
theorem B88:A7g G38 aLn Try.f49 Y4 B1L B3P:=by
 rintro ⟨⟨_,x1,_⟩,⟨⟨p0,p1,p2,p3,p4,p5,_⟩,_⟩⟩ hp
 change I9 x1 p0 p1 p2 p3 p4 p5=true at hp
 unfold I9 at hp
 refine Eq.trans (b:=(cond (K2 p4 x1) (some (B3G p0 p1 p2 p3 p4 p5 (O3 p4 x1))) none)) (by kernel_rfl) ?_
 exact (A7k hp fun _h=>rfl)
noncomputable abbrev B3U:=winQ (msum Y4 B1L B3P)
theorem C05:aPM 49 B3U:=(mcM G38 hlz B88).winQ (A6K fun d=>⟨rfl,rfl⟩)
noncomputable def S39:Tab:=Tab.add S38 49 (B3U)
noncomputable def D2u:FuncId→Bool:=qadd D2t 49
theorem G39:aPG S39 D2u:=G38.addMQ C05 (A6Q _) (cbl Try.f49) (A5u _)

abbrev A9m:List PSh:=[.t (.int .u8)]
noncomputable def B20 (a0:Int):Bool:=let z1:=decide (a0 ≥ (48:Int));let z2:=decide (a0≤(57:Int));(cond (decide (a0 ≥ (97:Int))) (cond (decide (a0≤(122:Int))) true (cond z1 z2 false)) (cond z1 z2 false))
noncomputable abbrev Q8 (r:Bool):AV×List AObj:=((.t true .bool r),[])
noncomputable abbrev B5Q:H5 A9m→AV×List AObj:=fun d=>Q8 (B20 d.1)
noncomputable abbrev B29:H5 A9m→Bool:=fun d=>true
theorem C4R:A7h true G39 aLn Try.f158 A9m B29 B5Q:=by
 rintro ⟨a0,_⟩ hp
 refine Eq.trans (b:=(let z1:=Q8 (decide (a0≤(57:Int)));let z2:=decide (a0 ≥ (48:Int));cond (decide (a0 ≥ (97:Int))) (cond (decide (a0≤(122:Int))) (some (Q8 true)) (cond z2 (some z1) (some (Q8 false)))) (cond z2 (some z1) (some (Q8 false))))) (by kernel_rfl) ?_
 exact (N4 Q8 (fun _h=>(N4 Q8 (fun _h=>rfl) (fun _h=>(N4 Q8 (fun _h=>rfl) (fun _h=>rfl))))) (fun _h=>(N4 Q8 (fun _h=>rfl) (fun _h=>rfl))))
theorem C6h:aPP 158 (A2T A9m B29 B5Q):=pcD true G39 hlz C4R
noncomputable def S40:Tab:=Tab.add S39 158 (lift (A2T A9m B29 B5Q))
noncomputable def D2v:FuncId→Bool:=qadd D2u 158
theorem G40:aPG S40 D2v:=G39.addQ C6h (cbl Try.f158) (fun _=>rfl)

abbrev D3P:List Sh:=.junk::D1N
abbrev u12:=((),u11)
noncomputable def B5X (s:ByteArray) (i:Nat):Bool:=B20 (bt s (i:Int))
abbrev B4F:List PSh:=[.t .str]
abbrev A7G:SS:=⟨(.t true .str::.junk::.junk::tI::D3P),[]⟩
abbrev B9d:SS:=⟨(.junk::.junk::.t true .bool::D1O),[]⟩
abbrev B9e:SS:=⟨(.junk::D1Q),[]⟩
noncomputable def B6u (x0:ByteArray) (x3:Int):RT A7G.den:=(.br (decide (x3<(x0.size:Int))) (.br (decide (0≤x3∧x3<(x0.size:Int))) (.br (!(B20 (bt x0 x3))) (.done .ret B9d (((),(),false,u13),())) (.next ((x0,(),(),wI (x3+(1:Int)),u12),()))) .fail) (.done (.exit 0) B9e ((u16),())))
noncomputable def B00 (x0:ByteArray) (x3:Int):CT:=(.br (decide (0≤x3)&&okS x0) (.br (A4x (B5X x0) (x0.size - x3.toNat) x3.toNat) (.done (.exit 0) B9e ((u16),())) (.done .ret B9d (((),(),false,u13),()))) .fail)
noncomputable abbrev A94:A7G.den→RT A7G.den:=(fun d=>B6u d.1.1 d.1.2.2.2.1)
noncomputable abbrev C1v (x0:ByteArray) (x3:Int):A7G.den:=((x0,(),(),x3,u12),())
noncomputable def B7v:Code:=((D3 0 (A1f Try.f156)).getD 0 (0,.skip)).2
theorem C7D (x0:ByteArray) (x3:Int):(B00 x0 x3).val (D:=A7G.den)=.fail∨Runs A94 (C1v x0 x3) (B00 x0 x3).val:=by
 cases hc:(decide (0≤x3)&&okS x0) with
 | false=>left;simp only [B00,CT.val,hc,cond_false]
 | true =>
  right
  simp only [B00,CT.val,hc,cond_true]
  simp only [Bool.and_eq_true,decide_eq_true_eq] at hc
  obtain ⟨i,rfl⟩:=Int.eq_ofNat_of_zero_le hc.1
  have hs:=A67 hc.2
  simp only [Int.toNat_natCast]
  refine Runs.scan (fun j=>C1v x0 (j:Int)) (x0.size) (B5X x0) (fun i hi=>?_) (fun i hi=>?_) ⟨_,_,_,rfl,by simp⟩ ⟨_,_,_,rfl,by simp⟩ _ _ rfl
  ·
   have h0a:decide ((i:Int)<(x0.size:Int))=true:=decide_eq_true (by omega)
   have h0b:decide (0≤(i:Int)∧(i:Int)<(x0.size:Int))=true:=decide_eq_true (by omega)
   simp only [A94,B6u,RT.val,h0a,h0b,cond_true,A7e i (by omega),Int.toNat_natCast]
   simp only [B5X]
   cases B20 (bt x0 (i:Int))<;>rfl
  ·have h1:decide ((i:Int)<(x0.size:Int))=false:=decide_eq_false (by omega)
   simp only [A94,B6u,RT.val,h1,cond_false]
theorem C5r:RdA G40 aLn 0 B7v A7G 0 [] (kepts [2] [(0,[])]) (fun d=>(A94 d).opt 0 []):=by
 intro d
 kernel_rfl
noncomputable abbrev B9P:St→Option Tree:=A7G.say 0 [] [] (fun d=>B00 d.1.1 d.1.2.2.2.1)
theorem C6P:aPL B9P B7v:=SS.wp2 hlz [] A94 C5r (fun d=>rfl) _ (fun d=>C7D d.1.1 d.1.2.2.2.1)
noncomputable def C3J (a0:ByteArray):Bool:=(cond (A4x (B5X a0) (a0.size - (0:Int).toNat) (0:Int).toNat) true false)
noncomputable abbrev B8P (r:Bool):AV×List AObj:=((.t true .bool r),[])
noncomputable abbrev C18:H5 B4F→AV×List AObj:=fun d=>B8P (C3J d.1)
noncomputable def B8W (a0:ByteArray):Bool:=okS a0
noncomputable abbrev B71:H5 B4F→Bool:=fun d=>B8W d.1
noncomputable abbrev C9L:Nat→St→Option Tree:=fun b=>match b with | 0=>B9P | _=>fun _=>none
theorem C8q:A7h true G40 (C9L) Try.f156 B4F B71 C18:=by
 rintro ⟨a0,_⟩ hp
 change B8W a0=true at hp
 unfold B8W at hp
 refine Eq.trans (b:=(cond (decide (0≤(0:Int))&&okS a0) (cond (A4x (B5X a0) (a0.size - (0:Int).toNat) (0:Int).toNat) (some (B8P true)) (some (B8P false))) none)) (by kernel_rfl) ?_
 exact (A7k (by first | rfl | decide | exact hp | (simp only [Bool.and_eq_true] at hp;simp only [hp];done) | (simp [*];done) | (simp [okL] at hp;simp [okL,MAXB];omega) | (simp_all;done) | (simp at *;omega)) (fun _h=>(N4 B8P (fun _h=>rfl) (fun _h=>rfl))))
theorem C9Y:aPP 156 (A2T B4F B71 C18):=pcD true G40 (hl1 (i:=0) (by kernel_rfl) C6P) C8q
noncomputable def S41:Tab:=Tab.add S40 156 (lift (A2T B4F B71 C18))
noncomputable def D2w:FuncId→Bool:=qadd D2v 156
theorem G41:aPG S41 D2w:=G40.addQ C9Y (cbl Try.f156) (fun _=>rfl)

abbrev B7g:List PSh:=[.t .str]
noncomputable def B4g (a0:ByteArray):Bool:=(cond (K1 (a0.size:Int) (1:Int) (12:Int)) (C3J a0) false)
noncomputable abbrev C09 (r:Bool):AV×List AObj:=((.t true .bool r),[])
noncomputable abbrev C30:H5 B7g→AV×List AObj:=fun d=>C09 (B4g d.1)
noncomputable def C1F (a0:ByteArray):Bool:=okS a0
noncomputable abbrev C0r:H5 B7g→Bool:=fun d=>C1F d.1
theorem C9j:A7h true G41 aLn Try.f141 B7g C0r C30:=by
 rintro ⟨a0,_⟩ hp
 change C1F a0=true at hp
 unfold C1F at hp
 refine Eq.trans (b:=(cond (K1 (a0.size:Int) (1:Int) (12:Int)) (cond (B8W a0) (some (C09 (C3J a0))) none) (some (C09 false)))) (by kernel_rfl) ?_
 exact (N4 C09 (fun _h=>(A7k (by first | rfl | decide | exact hp | (simp only [Bool.and_eq_true] at hp;simp only [hp];done) | (simp [*];done) | (simp [okL] at hp;simp [okL,MAXB];omega) | (simp_all;done) | (simp at *;omega)) (fun _h=>rfl))) (fun _h=>rfl))
theorem D0D:aPP 141 (A2T B7g C0r C30):=pcD true G41 hlz C9j
noncomputable def S42:Tab:=Tab.add S41 141 (lift (A2T B7g C0r C30))
noncomputable def D2x:FuncId→Bool:=qadd D2w 141
theorem G42:aPG S42 D2x:=G41.addQ D0D (cbl Try.f141) (fun _=>rfl)

abbrev C0V:List PSh:=[.agg [(.int .i64),.str,.str]]
noncomputable def C4e (a0:Int) (a1 a2:ByteArray):Bool:=let z1:=decide ((a2.size:Int)≤(20:Int));(cond (a0==(1:Int)) (cond (B4g a1) z1 false) (cond (a0==(3:Int)) (cond (B4g a1) z1 false) (cond (a0==(2:Int)) (cond (B4g a1) (a2.toList==bE.toList) false) false)))
noncomputable abbrev A8a (r:Bool):AV×List AObj:=((.t true .bool r),[])
noncomputable abbrev C6w:H5 C0V→AV×List AObj:=fun d=>A8a (C4e d.1.1 d.1.2.1 d.1.2.2.1)
noncomputable def B8X (a0:Int) (a1 a2:ByteArray):Bool:=okS a1
noncomputable abbrev C2n:H5 C0V→Bool:=fun d=>B8X d.1.1 d.1.2.1 d.1.2.2.1
theorem D0h:A7h true G42 aLn Try.f113 C0V C2n C6w:=by
 rintro ⟨⟨a0,⟨a1,⟨a2,_⟩⟩⟩,_⟩ hp
 change B8X a0 a1 a2=true at hp
 unfold B8X at hp
 refine Eq.trans (b:=(let z1:=A8a (decide ((a2.size:Int)≤(20:Int)));let z2:=C1F a1;cond (a0==(1:Int)) (cond z2 (cond (B4g a1) (some z1) (some (A8a false))) none) (cond (a0==(3:Int)) (cond z2 (cond (B4g a1) (some z1) (some (A8a false))) none) (cond (a0==(2:Int)) (cond z2 (cond (B4g a1) (some (A8a (a2.toList==(⟨#[]⟩:ByteArray).toList))) (some (A8a false))) none) (some (A8a false)))))) (by kernel_rfl) ?_
 exact (N4 A8a (fun _h=>(A7k (by first | rfl | decide | exact hp | (simp only [Bool.and_eq_true] at hp;simp only [hp];done) | (simp [*];done) | (simp [okL] at hp;simp [okL,MAXB];omega) | (simp_all;done) | (simp at *;omega)) (fun _h=>(N4 A8a (fun _h=>rfl) (fun _h=>rfl))))) (fun _h=>(N4 A8a (fun _h=>(A7k (by first | rfl | decide | exact hp | (simp only [Bool.and_eq_true] at hp;simp only [hp];done) | (simp [*];done) | (simp [okL] at hp;simp [okL,MAXB];omega) | (simp_all;done) | (simp at *;omega)) (fun _h=>(N4 A8a (fun _h=>rfl) (fun _h=>rfl))))) (fun _h=>(N4 A8a (fun _h=>(A7k (by first | rfl | decide | exact hp | (simp only [Bool.and_eq_true] at hp;simp only [hp];done) | (simp [*];done) | (simp [okL] at hp;simp [okL,MAXB];omega) | (simp_all;done) | (simp at *;omega)) (fun _h=>(N4 A8a (fun _h=>rfl) (fun _h=>rfl))))) (fun _h=>rfl))))))
theorem D04:aPP 113 (A2T C0V C2n C6w):=pcD true G42 hlz D0h
noncomputable def S43:Tab:=Tab.add S42 113 (lift (A2T C0V C2n C6w))
noncomputable def D2y:FuncId→Bool:=qadd D2x 113
theorem G43:aPG S43 D2y:=G42.addQ D04 (cbl Try.f113) (fun _=>rfl)

abbrev D3S:List Sh:=.junk::.junk::.junk::.junk::.junk::C5i
abbrev u32:=((),(),(),(),(),u27)
abbrev D3F:List AV:=.junk::.junk::.junk::.junk::.junk::.junk::D1G
abbrev D3a:List AV:=.junk::D1G
noncomputable def C2R (l:Lq1) (i:Nat):Bool:=let z1:=l.getD i dOp;let z2:=l.getD (i - 1) dOp;C4e z1.1 z1.2.1 z1.2.2&&(decide (i=0)||!(Op.bytesLess z1.2.1.toList z2.2.1.toList||(z1.2.1.toList==z2.2.1.toList)))
abbrev B7h:List PSh:=[.t tq4]
abbrev Y7:SS:=⟨(.t false tq4::.junk::.junk::.junk::.junk::.t false tq4::tI::tI::C5i),[]⟩
abbrev B5u:SS:=⟨(.junk::.junk::.t true .bool::D3S),[]⟩
abbrev C0M:SS:=⟨(.t false tq4::D1T),[]⟩
noncomputable def B8C (x0 x5:Lq1) (x6 x7:Int):RT Y7.den:=let z1:=x5.getD x7.toNat ((0:Int),(bE,bE));let z2:=wI (x7 - (1:Int));let z3:=((x0.getD (z2.toNat) ((0:Int),(bE,bE))).2).1;(.br (decide (x7<x6)) (.br (decide (0≤x7∧x7<(x5.length:Int))) (.br (B8X (z1.1) ((z1.2).1) ((z1.2).2)) (.br (!(C4e (z1.1) ((z1.2).1) ((z1.2).2))) (.done .ret B5u (((),(),false,u32),())) (.br (decide (x7 > (0:Int))) (.br (decide (0≤z2∧z2<(x0.length:Int))) (.br (Op.bytesLess ((z1.2).1).toList z3.toList||(((z1.2).1).toList==z3.toList)) (.done .ret B5u (((),(),false,u32),())) (.next ((x0,(),(),(),(),x5,x6,wI (x7+(1:Int)),u27),()))) .fail) (.next ((x0,(),(),(),(),x5,x6,wI (x7+(1:Int)),u27),())))) .fail) .fail) (.done (.exit 0) C0M ((x0,u34),())))
noncomputable def B2H (x0 x5:Lq1) (x6 x7:Int):CT:=(.br (decide (0≤x7)&&(decide (x6=(x5.length:Int))&&(decide (x5=x0)&&T5 x5))) (.br (A4x (C2R x5) (x5.length - x7.toNat) x7.toNat) (.done (.exit 0) C0M ((x0,u34),())) (.done .ret B5u (((),(),false,u32),()))) .fail)
noncomputable abbrev B3A {α:Sort _} (f:Lq1→Lq1→Int→Int→α) (d:Y7.den):α:=f d.1.1 d.1.2.2.2.2.2.1 d.1.2.2.2.2.2.2.1 d.1.2.2.2.2.2.2.2.1
noncomputable abbrev B1f:Y7.den→RT Y7.den:=(B3A B8C)
noncomputable abbrev C22 (x0 x5:Lq1) (x6 x7:Int):Y7.den:=((x0,(),(),(),(),x5,x6,x7,u27),())
noncomputable def B9o:Code:=((D3 0 (A1f Try.f77)).getD 0 (0,.skip)).2
theorem C8K (x0 x5:Lq1) (x6 x7:Int):(B2H x0 x5 x6 x7).val (D:=Y7.den)=.fail∨Runs B1f (C22 x0 x5 x6 x7) (B2H x0 x5 x6 x7).val:=by
 cases hc:(decide (0≤x7)&&(decide (x6=(x5.length:Int))&&(decide (x5=x0)&&T5 x5))) with
 | false=>left;simp only [B2H,CT.val,hc,cond_false]
 | true =>
  right
  simp only [B2H,CT.val,hc,cond_true]
  simp only [Bool.and_eq_true,decide_eq_true_eq] at hc
  obtain ⟨i,rfl⟩:=Int.eq_ofNat_of_zero_le hc.1
  obtain ⟨_,e6,e5,hc⟩:=hc
  subst e5;subst e6
  have hs:=A8e hc
  simp only [Int.toNat_natCast]
  refine Runs.scan (fun j=>C22 x5 x5 (x5.length:Int) (j:Int)) (x5.length) (C2R x5) (fun i hi=>?_) (fun i hi=>?_) ⟨_,_,_,rfl,by simp⟩ ⟨_,_,_,rfl,by simp⟩ _ _ rfl
  ·
   have h0a:decide ((i:Int)<(x5.length:Int))=true:=decide_eq_true (by omega)
   have h0b:decide (0≤(i:Int)∧(i:Int)<(x5.length:Int))=true:=decide_eq_true (by omega)
   simp only [B1f,B8C,RT.val,h0a,h0b,cond_true,A7e i (by omega),Int.toNat_natCast]
   have hq:B8X (x5.getD i dOp).1 (x5.getD i dOp).2.1 (x5.getD i dOp).2.2=true:=(C8k hc i hi).1
   simp only [dOp] at hq
   simp only [hq,cond_true,C2R,dOp]
   cases C4e (x5.getD i ((0:Int),((⟨#[]⟩:ByteArray),(⟨#[]⟩:ByteArray)))).1 (x5.getD i ((0:Int),((⟨#[]⟩:ByteArray),(⟨#[]⟩:ByteArray)))).2.1 (x5.getD i ((0:Int),((⟨#[]⟩:ByteArray),(⟨#[]⟩:ByteArray)))).2.2 with
   | false=>rfl
   | true =>
    cases i with
    | zero=>rfl
    | succ i =>
     have h3:decide (((i+1:Nat):Int) > 0)=true:=decide_eq_true (by omega)
     have h4:wI (((i+1:Nat):Int) - 1)=(i:Int):=by have:=A6r (n:=((i+1:Nat):Int) - 1) (by omega) (by omega);omega
     have h5:decide (0≤(i:Int)∧(i:Int)<(x5.length:Int))=true:=decide_eq_true (by omega)
     have h6:decide (i+1=0)=false:=by simp
     simp only [h3,h4,h5,h6,cond_true,Bool.true_and,Bool.false_or,Int.toNat_natCast,Nat.add_sub_cancel,Bool.not_true,cond_false]
     cases (Op.bytesLess (x5.getD (i+1) ((0:Int),((⟨#[]⟩:ByteArray),(⟨#[]⟩:ByteArray)))).2.1.toList (x5.getD i ((0:Int),((⟨#[]⟩:ByteArray),(⟨#[]⟩:ByteArray)))).2.1.toList||((x5.getD (i+1) ((0:Int),((⟨#[]⟩:ByteArray),(⟨#[]⟩:ByteArray)))).2.1.toList==(x5.getD i ((0:Int),((⟨#[]⟩:ByteArray),(⟨#[]⟩:ByteArray)))).2.1.toList))<;>rfl
  ·have h1:decide ((i:Int)<(x5.length:Int))=false:=decide_eq_false (by omega)
   simp only [B1f,B8C,RT.val,h1,cond_false]
noncomputable def C2Z (x0 x5:Lq1) (x6 x7:Int):Option (Ex×St):=let z1:=x5.getD x7.toNat ((0:Int),(bE,bE));let z2:=(⟨((.t false tq4 x0)::.junk::.junk::.junk::.junk::(.t false tq4 x5)::(ti x6)::(ti (wI (x7+(1:Int))))::D3a),[],0,[]⟩:St);let z3:=wI (x7 - (1:Int));let z4:=(⟨(.junk::.junk::(.t true .bool false)::D3F),[],0,[]⟩:St);let z5:=((x0.getD (z3.toNat) ((0:Int),(bE,bE))).2).1;(cond (decide (x7<x6)) (cond (decide (0≤x7∧x7<(x5.length:Int))) (cond (B8X (z1.1) ((z1.2).1) ((z1.2).2)) (cond (!(C4e (z1.1) ((z1.2).1) ((z1.2).2))) (some (.ret,z4)) (cond (decide (x7 > (0:Int))) (cond (decide (0≤z3∧z3<(x0.length:Int))) (cond (Op.bytesLess ((z1.2).1).toList z5.toList||(((z1.2).1).toList==z5.toList)) (some (.ret,z4)) (some (.normal,z2))) none) (some (.normal,z2)))) none) none) (some ((.exit 0),(⟨((.t false tq4 x0)::D3b),[],0,[]⟩:St))))
theorem C6X:RdA G43 aLn 0 B9o Y7 0 [] (kepts [2] [(0,[0])]) (B3A C2Z):=by
 intro d
 kernel_rfl
theorem C65:∀ d:Y7.den,(B3A C2Z) d=(B1f d).opt 0 []:=by
 intro d
 kernel_rfl
noncomputable abbrev C1M:St→Option Tree:=Y7.say 0 [] [] (B3A B2H)
theorem C8c:aPL C1M B9o:=SS.wp2 hlz [] B1f C6X C65 _ (fun d=>C8K d.1.1 d.1.2.2.2.2.2.1 d.1.2.2.2.2.2.2.1 d.1.2.2.2.2.2.2.2.1)
noncomputable def C2i (a0:Lq1):Bool:=(cond (A4x (C2R a0) (a0.length - (0:Int).toNat) (0:Int).toNat) (K1 (a0.length:Int) (1:Int) (8:Int)) false)
noncomputable abbrev C1a (r:Bool):AV×List AObj:=((.t true .bool r),[])
noncomputable abbrev C31:H5 B7h→AV×List AObj:=fun d=>C1a (C2i d.1)
noncomputable def B5f (a0:Lq1):Bool:=T5 a0
noncomputable abbrev C0s:H5 B7h→Bool:=fun d=>B5f d.1
noncomputable abbrev D0u:Nat→St→Option Tree:=fun b=>match b with | 0=>C1M | _=>fun _=>none
theorem C9k:A7h true G43 (D0u) Try.f77 B7h C0s C31:=by
 rintro ⟨a0,_⟩ hp
 change B5f a0=true at hp
 unfold B5f at hp
 refine Eq.trans (b:=(cond (decide (0≤(0:Int))&&(decide ((a0.length:Int)=(a0.length:Int))&&(decide (a0=a0)&&T5 a0))) (cond (A4x (C2R a0) (a0.length - (0:Int).toNat) (0:Int).toNat) (some (C1a (K1 (a0.length:Int) (1:Int) (8:Int)))) (some (C1a false))) none)) (by kernel_rfl) ?_
 exact (A7k (by first | rfl | decide | exact hp | (simp only [Bool.and_eq_true] at hp;simp only [hp];done) | (simp [*];done) | (simp [okL] at hp;simp [okL,MAXB];omega) | (simp_all;done) | (simp at *;omega)) (fun _h=>(N4 C1a (fun _h=>rfl) (fun _h=>rfl))))
theorem D0E:aPP 77 (A2T B7h C0s C31):=pcD true G43 (hl1 (i:=0) (by kernel_rfl) C8c) C9k
noncomputable def S44:Tab:=Tab.add S43 77 (lift (A2T B7h C0s C31))
noncomputable def D2z:FuncId→Bool:=qadd D2y 77
theorem G44:aPG S44 D2z:=G43.addQ D0E (cbl Try.f77) (fun _=>rfl)

abbrev C0U:List PSh:=[.t .str]
abbrev B0m:SS:=⟨(.t true .str::.junk::.junk::.t true (.int .u32)::tI::D0a),[]⟩
abbrev C2F:SS:=⟨(.junk::.junk::.junk::.t true (.int .u32)::D0b),[]⟩
noncomputable def C41 (x0:ByteArray) (x3 x4:Int):RT B0m.den:=(.br (decide (x4<(x0.size:Int))) (.br (decide (0≤x4∧x4<(x0.size:Int))) (.next ((x0,(),(),IntKind.wrap .u32 ((ixor .u32 x3 (IntKind.wrap .u32 (bt x0 x4)))*(16777619:Int)),wI (x4+(1:Int)),u17),())) .fail) (.done (.exit 0) C2F (((),(),(),x3,u18),())))
abbrev B4P:=(ByteArray)×(Int)×(Int)
abbrev B4w:=Nat×(Int)
def C0b:B4w:=(99,((0:Int):Int))
noncomputable def B3t (x0:ByteArray) (x3 x4:Int):B4P ⊕ B4w:=(cond (decide (x4<(x0.size:Int))) (cond (decide (0≤x4∧x4<(x0.size:Int))) (.inl (x0,IntKind.wrap .u32 ((ixor .u32 x3 (IntKind.wrap .u32 (bt x0 x4)))*(16777619:Int)),wI (x4+(1:Int)))) (.inr C0b)) (.inr (0,x3)))
noncomputable def B21 (x0:ByteArray) (x3 x4:Int):B4w:=itX (fun v:B4P=>B3t v.1 v.2.1 v.2.2) C0b (x0,x3,x4)
noncomputable def B99 (a:B4w):CT:=(.br (a.1==0) (.done (.exit 0) C2F (((),(),(),a.2,u18),())) .fail)
noncomputable def C9T (x0:ByteArray) (x3 x4:Int):CT:=B99 (B21 x0 x3 x4)
noncomputable abbrev C0J:B0m.den→RT B0m.den:=(fun d=>C41 d.1.1 d.1.2.2.2.1 d.1.2.2.2.2.1)
noncomputable def C03:Code:=((D3 0 (A1f Try.f108)).getD 0 (0,.skip)).2
noncomputable abbrev C4v (v:B4P):B0m.den:=((v.1,(),(),v.2.1,v.2.2,u17),())
theorem C9h:(∀ v:B4P,(C41 v.1 v.2.1 v.2.2).val=A6l C4v B99 (B3t v.1 v.2.1 v.2.2))∧∀ a:B4w,CEnd B0m.den (B99 a):=⟨fun v=>(A7m (A7m rfl rfl) rfl),fun a=>(A7a aCD A7c)⟩
theorem C8l:RdA G44 aLn 0 C03 B0m 0 [] (kepts [] [(0,[3])]) (fun d=>(C0J d).opt 0 []):=by
 intro d
 kernel_rfl
noncomputable abbrev C29:St→Option Tree:=B0m.say 0 [] [] (fun d=>C9T d.1.1 d.1.2.2.2.1 d.1.2.2.2.2.1)
theorem C9b:aPL C29 C03:=SS.wp2 hlz [] C0J C8l (fun d=>rfl) _ (fun d=>Runs.ofI2 (step:=C0J) C4v C9h rfl (d.1.1,d.1.2.2.2.1,d.1.2.2.2.2.1))
noncomputable def C9C (a0:ByteArray):Int:=(wI ((B21 a0 (2166136261:Int) (0:Int)).2))
noncomputable abbrev C9A (r:Int):AV×List AObj:=((ti r),[])
noncomputable abbrev C6v:H5 C0U→AV×List AObj:=fun d=>C9A (C9C d.1)
noncomputable def B8V (a0:ByteArray):Bool:=((B21 a0 (2166136261:Int) (0:Int)).1==0)
noncomputable abbrev C2m:H5 C0U→Bool:=fun d=>B8V d.1
noncomputable abbrev D01:Nat→St→Option Tree:=fun b=>match b with | 0=>C29 | _=>fun _=>none
theorem D0g:A7h true G44 (D01) Try.f108 C0U C2m C6v:=by
 rintro ⟨a0,_⟩ hp
 change B8V a0=true at hp
 unfold B8V at hp
 refine Eq.trans (b:=(let z1:=B21 a0 (2166136261:Int) (0:Int);cond (z1.1==0) (some (C9A (wI (z1.2)))) none)) (by kernel_rfl) ?_
 exact (A7k hp fun _h=>rfl)
theorem D03:aPP 108 (A2T C0U C2m C6v):=pcD true G44 (hl1 (i:=0) (by kernel_rfl) C9b) D0g
noncomputable def S45:Tab:=Tab.add S44 108 (lift (A2T C0U C2m C6v))
noncomputable def D2A:FuncId→Bool:=qadd D2z 108
theorem G45:aPG S45 D2A:=G44.addQ D03 (cbl Try.f108) (fun _=>rfl)

abbrev B2w:List PSh:=[.t .str,.t (.int .i64)]
noncomputable def A9M (a0:ByteArray) (a1:Int):Int:=(cond (decide (a1<(1:Int))) (0:Int) (Int.tmod (C9C a0) a1))
noncomputable abbrev B5I (r:Int):AV×List AObj:=((ti r),[])
noncomputable abbrev C0e:H5 B2w→AV×List AObj:=fun d=>B5I (A9M d.1 d.2.1)
noncomputable def Z5 (a0:ByteArray) (a1:Int):Bool:=cond (decide (a1<(1:Int))) true ((B8V a0)&&(decide (a1 ≠ 0)))
noncomputable abbrev B6a:H5 B2w→Bool:=fun d=>Z5 d.1 d.2.1
theorem C7f:A7h true G45 aLn Try.f69 B2w B6a C0e:=by
 rintro ⟨a0,⟨a1,_⟩⟩ hp
 change Z5 a0 a1=true at hp
 unfold Z5 at hp
 refine Eq.trans (b:=(cond (decide (a1<(1:Int))) (some (B5I (0:Int))) (cond (B8V a0) (cond (decide (a1 ≠ 0)) (some (B5I (Int.tmod (C9C a0) a1))) none) none))) (by kernel_rfl) ?_
 exact (K8 B5I hp (fun hp=>rfl) (fun hp=>(A7i hp fun hp=>(A7k hp fun _h=>rfl))))
theorem C8W:aPP 69 (A2T B2w B6a C0e):=pcD true G45 hlz C7f
noncomputable def S46:Tab:=Tab.add S45 69 (lift (A2T B2w B6a C0e))
noncomputable def D2B:FuncId→Bool:=qadd D2A 69
theorem G46:aPG S46 D2B:=G45.addQ C8W (cbl Try.f69) (fun _=>rfl)

noncomputable def S47:Tab:=Tab.add S46 70 (orLend (win E5 A5G))
noncomputable def D2C:FuncId→Bool:=D2B
theorem G47:aPG S47 D2C:=G46.addM C98.orLend (A6E (A6S _)) ⟨Try.f70,by kernel_rfl,by kernel_rfl,by kernel_rfl⟩ (by kernel_rfl)

noncomputable def S48:Tab:=Tab.add S47 72 (win E5 A28)
noncomputable def D2D:FuncId→Bool:=D2C
theorem G48:aPG S48 D2D:=G47.addM C6g (A6S _) ⟨Try.f72,by kernel_rfl,by kernel_rfl,by kernel_rfl⟩ (by kernel_rfl)

abbrev Y6:SS:=⟨[.arr 0 1],[.rows 3 true (.int .i64)]⟩
noncomputable def A8G (x0a x0b:Nat) (h0:List Int):Nat×Nat×List Int:=(x0a,((x0b:Nat):Int).toNat,h0)
noncomputable abbrev B3M (r:Nat×Nat×List Int):AV×List AObj×List Nat:=((.arr 0 1 r.1 r.2.1),[(.rows 3 true (.int .i64) r.2.2)],[])
noncomputable abbrev B3S:Y6.den→AV×List AObj×List Nat:=fun d=>B3M (A8G d.1.1.1 d.1.1.2 d.2.1)
noncomputable def P5 (x0a x0b:Nat) (h0:List Int):Bool:=decide (0≤((x0b:Nat):Int)∧((x0b:Nat):Int)≤((x0b:Nat):Int)∧((x0b:Nat):Int)≤((x0b:Nat):Int))
noncomputable abbrev B1N:Y6.den→Bool:=fun d=>P5 d.1.1.1 d.1.1.2 d.2.1
theorem B9b:A7g G48 aLn Try.f71 Y6 B1N B3S:=by
 rintro ⟨⟨⟨x0a,x0b⟩,_⟩,⟨h0,_⟩⟩ hp
 change P5 x0a x0b h0=true at hp
 unfold P5 at hp
 refine Eq.trans (b:=(cond (decide (0≤((x0b:Nat):Int)∧((x0b:Nat):Int)≤((x0b:Nat):Int)∧((x0b:Nat):Int)≤((x0b:Nat):Int))) (some (B3M (x0a,((x0b:Nat):Int).toNat,h0))) none)) (by kernel_rfl) ?_
 exact (A7k hp fun _h=>rfl)
noncomputable abbrev B3W:=win E5 (msum Y6 B1N B3S)
theorem C08:aPM 71 B3W:=(mcM G48 hlz B9b).win E5
noncomputable def S49:Tab:=Tab.add S48 71 (B3W)
noncomputable def D2E:FuncId→Bool:=D2D
theorem G49:aPG S49 D2E:=G48.addM C08 (A6S _) (cbl Try.f71) (by kernel_rfl)

abbrev u28:=((),u27)
abbrev B0T:List PSh:=[.t tq4,.t (.int .i64)]
abbrev R0:SS:=⟨(.junk::tI::.junk::.junk::.junk::.all 0 1::.junk::.junk::.t false tq4::tI::tI::D0a),[.rows 3 true (.int .i64)]⟩
abbrev B6y:SS:=⟨(.junk::.junk::.junk::.junk::.junk::.all 0 1::C5h),[.rows 3 true (.int .i64)]⟩
noncomputable def B50 (x1:Int) (x8:Lq1) (x10:Int):=A9M (((x8.getD x10.toNat ((0:Int),(bE,bE))).2).1) x1
noncomputable def B8D (x1:Int) (x8:Lq1) (x9 x10:Int) (h0:List Int):RT R0.den:=let z1:=B50 x1 x8 x10;(.br (decide (x10<x9)) (.br (decide (0≤x10∧x10<(x8.length:Int))) (.br (Z5 (((x8.getD x10.toNat ((0:Int),(bE,bE))).2).1) x1) (.br (decide ((h0.length+[z1].length)*8≤MAXB)) (.next (((),x1,(),(),(),(),(),(),x8,x9,wI (x10+(1:Int)),u17),(h0++[z1],()))) .fail) .fail) .fail) (.done (.exit 0) B6y ((u28),(h0,()))))
abbrev A8u:=(Int)×Lq1×(Int)×(Int)×(List Int)
abbrev A0h:=Nat×(List Int)
def A9F:A0h:=(99,([]:List Int))
noncomputable def A96 (x1:Int) (x8:Lq1) (x9 x10:Int) (h0:List Int):A8u ⊕ A0h:=let z1:=B50 x1 x8 x10;(cond (decide (x10<x9)) (cond (decide (0≤x10∧x10<(x8.length:Int))) (cond (Z5 (((x8.getD x10.toNat ((0:Int),(bE,bE))).2).1) x1) (cond (decide ((h0.length+[z1].length)*8≤MAXB)) (.inl (x1,x8,x9,wI (x10+(1:Int)),h0++[z1])) (.inr A9F)) (.inr A9F)) (.inr A9F)) (.inr (0,h0)))
noncomputable def A7T (x1:Int) (x8:Lq1) (x9 x10:Int) (h0:List Int):A0h:=itX (fun v:A8u=>A96 v.1 v.2.1 v.2.2.1 v.2.2.2.1 v.2.2.2.2) A9F (x1,x8,x9,x10,h0)
noncomputable def B2R (a:A0h):CT:=(.br (a.1==0) (.done (.exit 0) B6y ((u28),(a.2,()))) .fail)
noncomputable def C49 (x1:Int) (x8:Lq1) (x9 x10:Int) (h0:List Int):CT:=B2R (A7T x1 x8 x9 x10 h0)
noncomputable abbrev B7s {α:Sort _} (f:Int→Lq1→Int→Int→(List Int)→α) (d:R0.den):α:=f d.1.2.1 d.1.2.2.2.2.2.2.2.2.1 d.1.2.2.2.2.2.2.2.2.2.1 d.1.2.2.2.2.2.2.2.2.2.2.1 d.2.1
noncomputable abbrev B3n:R0.den→RT R0.den:=(B7s B8D)
noncomputable def B4S:Code:=((D3 0 (A1f Try.f29)).getD 0 (0,.skip)).2
noncomputable abbrev B8d (v:A8u):R0.den:=(((),v.1,(),(),(),(),(),(),v.2.1,v.2.2.1,v.2.2.2.1,u17),(v.2.2.2.2,()))
theorem C4L:(∀ v:A8u,(B8D v.1 v.2.1 v.2.2.1 v.2.2.2.1 v.2.2.2.2).val=A6l B8d B2R (A96 v.1 v.2.1 v.2.2.1 v.2.2.2.1 v.2.2.2.2))∧∀ a:A0h,CEnd R0.den (B2R a):=⟨fun v=>(A7m (A7m (A7m (A7m rfl rfl) rfl) rfl) rfl),fun a=>(A7a aCD A7c)⟩
theorem C3s:RdA G49 aLn 0 B4S R0 0 [] (kepts [] [(0,[5])]) (fun d=>(B3n d).opt 0 []):=by
 intro d
 kernel_rfl
noncomputable abbrev B6T:St→Option Tree:=R0.say 0 [] [(5,3,(.int .i64))] (B7s C49)
theorem C4g:aPL B6T B4S:=SS.wp2 hlz [(5,3,(.int .i64))] B3n C3s (fun d=>rfl) _ (fun d=>Runs.ofI2 (step:=B3n) B8d C4L rfl (d.1.2.1,d.1.2.2.2.2.2.2.2.2.1,d.1.2.2.2.2.2.2.2.2.2.1,d.1.2.2.2.2.2.2.2.2.2.2.1,d.2.1))
noncomputable def B2a (a0:Lq1) (a1:Int):=C7Z (A5F ((A7T a1 a0 (a0.length:Int) (0:Int) ([]:List Int)).2))
noncomputable def B0q (a0:Lq1) (a1:Int):List Int:=let z2:=B2a a0 a1;let z1:=A8G 0 (z2.1) (z2.2);(((z1.2.2).drop (z1.1)).take (z1.2.1))
noncomputable abbrev C2I (r:List Int):AV×List AObj:=((.t true M9 r),[])
noncomputable abbrev B7I:H5 B0T→AV×List AObj:=fun d=>C2I (B0q d.1 d.2.1)
noncomputable def P1 (a0:Lq1) (a1:Int):Bool:=let z1:=A7T a1 a0 (a0.length:Int) (0:Int) ([]:List Int);let z2:=B2a a0 a1;(z1.1==0)&&((C1G (z1.2))&&((C1G (A5F (z1.2)))&&(P5 0 (z2.1) (z2.2))))
noncomputable abbrev B4h:H5 B0T→Bool:=fun d=>P1 d.1 d.2.1
noncomputable abbrev C7v:Nat→St→Option Tree:=fun b=>match b with | 0=>B6T | _=>fun _=>none
theorem C5G:A7h true G49 (C7v) Try.f29 B0T B4h B7I:=by
 rintro ⟨a0,⟨a1,_⟩⟩ hp
 change P1 a0 a1=true at hp
 unfold P1 at hp
 refine Eq.trans (b:=(let z2:=A7T a1 a0 (a0.length:Int) (0:Int) ([]:List Int);let z3:=B2a a0 a1;let z1:=A8G 0 (z3.1) (z3.2);cond (z2.1==0) (cond (C1G (z2.2)) (cond (C1G (A5F (z2.2))) (cond (P5 0 (z3.1) (z3.2)) (some (C2I (((z1.2.2).drop (z1.1)).take (z1.2.1)))) none) none) none) none)) (by kernel_rfl) ?_
 exact (A7i hp fun hp=>(A7i hp fun hp=>(A7i hp fun hp=>(A7k hp fun _h=>rfl))))
theorem C7O:aPP 29 (A2T B0T B4h B7I):=pcD true G49 (hl1 (i:=0) (by kernel_rfl) C4g) C5G
noncomputable def S50:Tab:=Tab.add S49 29 (lift (A2T B0T B4h B7I))
noncomputable def D2F:FuncId→Bool:=qadd D2E 29
theorem G50:aPG S50 D2F:=G49.addQ C7O (cbl Try.f29) (fun _=>rfl)

abbrev R8:List PSh:=[.t M9,.t (.int .i64)]
abbrev K4:SS:=⟨(.t false M9::tI::.junk::.junk::.junk::.junk::.junk::tI::tI::D1N),[]⟩
abbrev A9k:SS:=⟨(.junk::.junk::.junk::.junk::tI::D1Q),[]⟩
abbrev A9l:SS:=⟨(.junk::C6I),[]⟩
noncomputable def B0i (x0:List Int) (x1 x7 x8:Int):RT K4.den:=(.br (decide (x8<x7)) (.br (decide (0≤x8∧x8<(x0.length:Int))) (.br (x1==(x0.getD x8.toNat (0:Int))) (.done .ret A9k (((),(),(),(),x8,u15),())) (.next ((x0,x1,(),(),(),(),(),x7,wI (x8+(1:Int)),u11),()))) .fail) (.done (.exit 0) A9l ((u20),())))
abbrev V2:=(List Int)×(Int)×(Int)×(Int)
abbrev O4:=Nat×(Int)
def B0f:O4:=(99,((0:Int):Int))
noncomputable def U1 (x0:List Int) (x1 x7 x8:Int):V2 ⊕ O4:=(cond (decide (x8<x7)) (cond (decide (0≤x8∧x8<(x0.length:Int))) (cond (x1==(x0.getD x8.toNat (0:Int))) (.inr (0,x8)) (.inl (x0,x1,x7,wI (x8+(1:Int))))) (.inr B0f)) (.inr (1,((0:Int):Int))))
noncomputable def N5 (x0:List Int) (x1 x7 x8:Int):O4:=itX (fun v:V2=>U1 v.1 v.2.1 v.2.2.1 v.2.2.2) B0f (x0,x1,x7,x8)
noncomputable def A7r (a:O4):CT:=(.br (a.1==0) (.done .ret A9k (((),(),(),(),a.2,u15),())) (.br (a.1==1) (.done (.exit 0) A9l ((u20),())) .fail))
noncomputable def B7r (x0:List Int) (x1 x7 x8:Int):CT:=A7r (N5 x0 x1 x7 x8)
noncomputable abbrev B0c {α:Sort _} (f:(List Int)→Int→Int→Int→α) (d:K4.den):α:=f d.1.1 d.1.2.1 d.1.2.2.2.2.2.2.2.1 d.1.2.2.2.2.2.2.2.2.1
noncomputable abbrev A7t:K4.den→RT K4.den:=(B0c B0i)
noncomputable def A84:Code:=((D3 0 (A1f Try.f124)).getD 0 (0,.skip)).2
noncomputable abbrev B0h (v:V2):K4.den:=((v.1,v.2.1,(),(),(),(),(),v.2.2.1,v.2.2.2,u11),())
theorem B67:(∀ v:V2,(B0i v.1 v.2.1 v.2.2.1 v.2.2.2).val=A6l B0h A7r (U1 v.1 v.2.1 v.2.2.1 v.2.2.2))∧∀ a:O4,CEnd K4.den (A7r a):=⟨fun v=>(A7m (A7m (A7m rfl rfl) rfl) rfl),fun a=>(A7a aCD (A7a aCD A7c))⟩
theorem B6m:RdA G50 aLn 0 A84 K4 0 [] (kepts [4] [(0,[])]) (fun d=>(A7t d).opt 0 []):=by
 intro d
 kernel_rfl
noncomputable abbrev A91:St→Option Tree:=K4.say 0 [] [] (B0c B7r)
theorem B66:aPL A91 A84:=SS.wp2 hlz [] A7t B6m (fun d=>rfl) _ (fun d=>Runs.ofI2 (step:=A7t) B0h B67 rfl (d.1.1,d.1.2.1,d.1.2.2.2.2.2.2.2.1,d.1.2.2.2.2.2.2.2.2.1))
noncomputable def A8h (a0:List Int) (a1:Int):Int:=let z1:=N5 a0 a1 (a0.length:Int) (0:Int);(cond (z1.1==0) (z1.2) (-1:Int))
noncomputable abbrev Y9 (r:Int):AV×List AObj:=((ti r),[])
noncomputable abbrev A8S:H5 R8→AV×List AObj:=fun d=>Y9 (A8h d.1 d.2.1)
noncomputable def O0 (a0:List Int) (a1:Int):Bool:=let z1:=N5 a0 a1 (a0.length:Int) (0:Int);cond (z1.1==0) true (z1.1==1)
noncomputable abbrev A7Z:H5 R8→Bool:=fun d=>O0 d.1 d.2.1
noncomputable abbrev B95:Nat→St→Option Tree:=fun b=>match b with | 0=>A91 | _=>fun _=>none
theorem B8p:A7h true G50 (B95) Try.f124 R8 A7Z A8S:=by
 rintro ⟨a0,⟨a1,_⟩⟩ hp
 change O0 a0 a1=true at hp
 unfold O0 at hp
 refine Eq.trans (b:=(let z1:=N5 a0 a1 (a0.length:Int) (0:Int);cond (z1.1==0) (some (Y9 (z1.2))) (cond (z1.1==1) (some (Y9 (-1:Int))) none))) (by kernel_rfl) ?_
 exact (K8 Y9 hp (fun hp=>rfl) (fun hp=>(A7k hp fun _h=>rfl)))
theorem B98:aPP 124 (A2T R8 A7Z A8S):=pcD true G50 (hl1 (i:=0) (by kernel_rfl) B66) B8p
noncomputable def S51:Tab:=Tab.add S50 124 (lift (A2T R8 A7Z A8S))
noncomputable def D2G:FuncId→Bool:=qadd D2F 124
theorem G51:aPG S51 D2G:=G50.addQ B98 (cbl Try.f124) (fun _=>rfl)

abbrev N3:List PSh:=[.t M9,.t (.int .i64)]
noncomputable def J9 (a0:List Int) (a1:Int):Bool:=(decide ((A8h a0 a1) ≥ (0:Int)))
noncomputable abbrev B0e (r:Bool):AV×List AObj:=((.t true .bool r),[])
noncomputable abbrev A7s:H5 N3→AV×List AObj:=fun d=>B0e (J9 d.1 d.2.1)
noncomputable def I7 (a0:List Int) (a1:Int):Bool:=O0 a0 a1
noncomputable abbrev X2:H5 N3→Bool:=fun d=>I7 d.1 d.2.1
theorem B5k:A7h true G51 aLn Try.f93 N3 X2 A7s:=by
 rintro ⟨a0,⟨a1,_⟩⟩ hp
 change I7 a0 a1=true at hp
 unfold I7 at hp
 refine Eq.trans (b:=(cond (O0 a0 a1) (some (B0e (decide ((A8h a0 a1) ≥ (0:Int))))) none)) (by kernel_rfl) ?_
 exact (A7k hp fun _h=>rfl)
theorem B64:aPP 93 (A2T N3 X2 A7s):=pcD true G51 hlz B5k
noncomputable def S52:Tab:=Tab.add S51 93 (lift (A2T N3 X2 A7s))
noncomputable def D2H:FuncId→Bool:=qadd D2G 93
theorem G52:aPG S52 D2H:=G51.addQ B64 (cbl Try.f93) (fun _=>rfl)

abbrev D3p:List Sh:=.junk::.junk::.junk::.junk::.junk::.junk::.junk::.junk::.junk::.junk::.junk::.junk::.junk::.junk::.junk::.junk::.junk::.junk::D1o
abbrev D3t:List Sh:=.junk::.junk::.junk::.junk::.junk::.junk::.junk::.junk::.junk::.junk::.junk::.junk::.junk::.junk::.junk::D1X
abbrev D3Z:List Sh:=.junk::D3t
abbrev u96:=((),(),(),(),(),(),(),(),(),(),(),(),(),(),u82)
abbrev u63:=((),(),(),(),(),(),(),(),(),(),(),(),u51)
abbrev D3A:=((),(),(),(),(),u96)
abbrev D3g:List AV:=.junk::.junk::.junk::.junk::.junk::.junk::.junk::.junk::.junk::.junk::.junk::.junk::.junk::.junk::.junk::D1L
abbrev D3d:List AV:=.junk::.junk::.junk::.junk::.junk::.junk::.junk::.junk::.junk::.junk::.junk::.junk::.junk::.junk::.junk::.junk::.junk::.junk::D1k
abbrev D3O:List AV:=.junk::D3g
abbrev A8C:SS:=⟨[.ptr 0 0 1 0,.agg [.t true (.int .i64),.t false tq4,.t true (.int .i64),.t false M9]],[.box [tI,tI,tI,.t false tq2,.t false tq5,tI]]⟩
abbrev L4:SS:=⟨(.ptr 0 0 1 0::.junk::.junk::.ptr 1 0 1 0::.junk::.t true M9::.junk::.junk::.junk::.junk::.junk::.junk::.junk::.junk::.junk::.junk::.junk::.junk::.junk::.junk::.junk::.junk::.junk::.junk::.junk::.junk::.junk::.junk::.junk::.junk::.junk::.junk::.junk::.junk::.junk::.t false M9::tI::tI::D3p),[.box [tI,tI,tI,.t false tq2,.t false tq5,tI],.box [tI,.t false tq4,tI,.t false M9]]⟩
abbrev A8K:SS:=⟨(.junk::.junk::.junk::.junk::.t true .bool::D3t),[.box [tI,tI,tI,.t false tq2,.t false tq5,tI]]⟩
abbrev B2q:SS:=⟨(.ptr 0 0 1 0::.junk::.junk::.ptr 1 0 1 0::D3Z),[.box [tI,tI,tI,.t false tq2,.t false tq5,tI],.box [tI,.t false tq4,tI,.t false M9]]⟩
noncomputable def B35 (x5 x35:List Int) (x36 x37 p0 p1 p2:Int) (p3:LT1) (p4:LIbe) (p5 q0:Int) (q1:Lq1) (q2:Int) (q3:List Int):RT L4.den:=let z1:=wI (x37 - (1:Int));let z2:=x35.getD x37.toNat (0:Int);(.br (decide (x37<x36)) (.br (decide (0≤x37∧x37<(x35.length:Int))) (.br (I7 x5 z2) (.br (!(J9 x5 z2)) (.done .ret A8K (((),(),(),(),false,u96),((p0,p1,p2,p3,p4,p5,()),()))) (.br (decide (x37 > (0:Int))) (.br (decide (0≤z1∧z1<(q3.length:Int))) (.br (decide (z2≤(q3.getD (z1.toNat) (0:Int)))) (.done .ret A8K (((),(),(),(),false,u96),((p0,p1,p2,p3,p4,p5,()),()))) (.next (((),(),(),(),(),x5,(),(),(),(),(),(),(),(),(),(),(),(),(),(),(),(),(),(),(),(),(),(),(),(),(),(),(),(),(),x35,x36,wI (x37+(1:Int)),u63),((p0,p1,p2,p3,p4,p5,()),(q0,q1,q2,q3,()),())))) .fail) (.next (((),(),(),(),(),x5,(),(),(),(),(),(),(),(),(),(),(),(),(),(),(),(),(),(),(),(),(),(),(),(),(),(),(),(),(),x35,x36,wI (x37+(1:Int)),u63),((p0,p1,p2,p3,p4,p5,()),(q0,q1,q2,q3,()),()))))) .fail) .fail) (.done (.exit 0) B2q ((D3A),((p0,p1,p2,p3,p4,p5,()),(q0,q1,q2,q3,()),()))))
abbrev A79:=(List Int)×(List Int)×(Int)×(Int)
abbrev W8:=Nat×(Bool)
def A7x:W8:=(99,(false:Bool))
noncomputable def A7A (x5 x35:List Int) (x36 x37 p0 p1 p2:Int) (p3:LT1) (p4:LIbe) (p5 q0:Int) (q1:Lq1) (q2:Int) (q3:List Int):A79 ⊕ W8:=let z1:=wI (x37 - (1:Int));let z2:=x35.getD x37.toNat (0:Int);(cond (decide (x37<x36)) (cond (decide (0≤x37∧x37<(x35.length:Int))) (cond (I7 x5 z2) (cond (!(J9 x5 z2)) (.inr (0,false)) (cond (decide (x37 > (0:Int))) (cond (decide (0≤z1∧z1<(q3.length:Int))) (cond (decide (z2≤(q3.getD (z1.toNat) (0:Int)))) (.inr (0,false)) (.inl (x5,x35,x36,wI (x37+(1:Int))))) (.inr A7x)) (.inl (x5,x35,x36,wI (x37+(1:Int)))))) (.inr A7x)) (.inr A7x)) (.inr (1,(false:Bool))))
noncomputable def A9N (x5 x35:List Int) (x36 x37 p0 p1 p2:Int) (p3:LT1) (p4:LIbe) (p5 q0:Int) (q1:Lq1) (q2:Int) (q3:List Int):W8:=itX (fun v:A79=>A7A v.1 v.2.1 v.2.2.1 v.2.2.2 p0 p1 p2 p3 p4 p5 q0 q1 q2 q3) A7x (x5,x35,x36,x37)
noncomputable def A9B (p0 p1 p2:Int) (p3:LT1) (p4:LIbe) (p5 q0:Int) (q1:Lq1) (q2:Int) (q3:List Int) (a:W8):CT:=(.br (a.1==0) (.done .ret A8K (((),(),(),(),a.2,u96),((p0,p1,p2,p3,p4,p5,()),()))) (.br (a.1==1) (.done (.exit 0) B2q ((D3A),((p0,p1,p2,p3,p4,p5,()),(q0,q1,q2,q3,()),()))) .fail))
noncomputable def C13 (x5 x35:List Int) (x36 x37 p0 p1 p2:Int) (p3:LT1) (p4:LIbe) (p5 q0:Int) (q1:Lq1) (q2:Int) (q3:List Int):CT:=(A9B p0 p1 p2 p3 p4 p5 q0 q1 q2 q3) (A9N x5 x35 x36 x37 p0 p1 p2 p3 p4 p5 q0 q1 q2 q3)
noncomputable abbrev A7w {α:Sort _} (f:(List Int)→(List Int)→Int→Int→Int→Int→Int→LT1→LIbe→Int→Int→Lq1→Int→(List Int)→α) (d:L4.den):α:=f d.1.2.2.2.2.2.1 d.1.2.2.2.2.2.2.2.2.2.2.2.2.2.2.2.2.2.2.2.2.2.2.2.2.2.2.2.2.2.2.2.2.2.2.2.1 d.1.2.2.2.2.2.2.2.2.2.2.2.2.2.2.2.2.2.2.2.2.2.2.2.2.2.2.2.2.2.2.2.2.2.2.2.2.1 d.1.2.2.2.2.2.2.2.2.2.2.2.2.2.2.2.2.2.2.2.2.2.2.2.2.2.2.2.2.2.2.2.2.2.2.2.2.2.1 d.2.1.1 d.2.1.2.1 d.2.1.2.2.1 d.2.1.2.2.2.1 d.2.1.2.2.2.2.1 d.2.1.2.2.2.2.2.1 d.2.2.1.1 d.2.2.1.2.1 d.2.2.1.2.2.1 d.2.2.1.2.2.2.1
noncomputable abbrev A93:L4.den→RT L4.den:=(A7w B35)
noncomputable def B1E:Code:=((D3 0 (A1f Try.f50)).getD 0 (0,.skip)).2
noncomputable abbrev B32 (p0 p1 p2:Int) (p3:LT1) (p4:LIbe) (p5 q0:Int) (q1:Lq1) (q2:Int) (q3:List Int) (v:A79):L4.den:=(((),(),(),(),(),v.1,(),(),(),(),(),(),(),(),(),(),(),(),(),(),(),(),(),(),(),(),(),(),(),(),(),(),(),(),(),v.2.1,v.2.2.1,v.2.2.2,u63),((p0,p1,p2,p3,p4,p5,()),(q0,q1,q2,q3,()),()))
theorem C1I (p0 p1 p2:Int) (p3:LT1) (p4:LIbe) (p5 q0:Int) (q1:Lq1) (q2:Int) (q3:List Int):(∀ v:A79,(B35 v.1 v.2.1 v.2.2.1 v.2.2.2 p0 p1 p2 p3 p4 p5 q0 q1 q2 q3).val=A6l (B32 p0 p1 p2 p3 p4 p5 q0 q1 q2 q3) (A9B p0 p1 p2 p3 p4 p5 q0 q1 q2 q3) (A7A v.1 v.2.1 v.2.2.1 v.2.2.2 p0 p1 p2 p3 p4 p5 q0 q1 q2 q3))∧∀ a:W8,CEnd L4.den ((A9B p0 p1 p2 p3 p4 p5 q0 q1 q2 q3) a):=⟨fun v=>by repeat' first | apply A7m | rfl,fun a=>(A7a aCD (A7a aCD A7c))⟩
noncomputable def B3X (x5 x35:List Int) (x36 x37 p0 p1 p2:Int) (p3:LT1) (p4:LIbe) (p5 q0:Int) (q1:Lq1) (q2:Int) (q3:List Int):Option (Ex×St):=let z1:=(⟨((.ptr 0 0 1 0)::.junk::.junk::(.ptr 1 0 1 0)::.junk::(.t true M9 x5)::.junk::.junk::.junk::.junk::.junk::.junk::.junk::.junk::.junk::.junk::.junk::.junk::.junk::.junk::.junk::.junk::.junk::.junk::.junk::.junk::.junk::.junk::.junk::.junk::.junk::.junk::.junk::.junk::.junk::(.t false M9 x35)::(ti x36)::(ti (wI (x37+(1:Int))))::D3d),[(.box [(ti p0),(ti p1),(ti p2),(.t false tq2 p3),(.t false tq5 p4),(ti p5)]),(.box [(ti q0),(.t false tq4 q1),(ti q2),(.t false M9 q3)])],1,[]⟩:St);let z2:=(⟨(.junk::.junk::.junk::.junk::(.t true .bool false)::D3g),[(.box [(ti p0),(ti p1),(ti p2),(.t false tq2 p3),(.t false tq5 p4),(ti p5)])],1,[]⟩:St);let z3:=wI (x37 - (1:Int));let z4:=x35.getD x37.toNat (0:Int);(cond (decide (x37<x36)) (cond (decide (0≤x37∧x37<(x35.length:Int))) (cond (I7 x5 z4) (cond (!(J9 x5 z4)) (some (.ret,z2)) (cond (decide (x37 > (0:Int))) (cond (decide (0≤z3∧z3<(q3.length:Int))) (cond (decide (z4≤(q3.getD (z3.toNat) (0:Int)))) (some (.ret,z2)) (some (.normal,z1))) none) (some (.normal,z1)))) none) none) (some ((.exit 0),(⟨((.ptr 0 0 1 0)::.junk::.junk::(.ptr 1 0 1 0)::D3O),[(.box [(ti p0),(ti p1),(ti p2),(.t false tq2 p3),(.t false tq5 p4),(ti p5)]),(.box [(ti q0),(.t false tq4 q1),(ti q2),(.t false M9 q3)])],1,[]⟩:St))))
theorem C0C:RdA G52 aLn 0 B1E L4 1 [] (kepts [4] [(0,[0,3])]) (A7w B3X):=by
 intro d
 kernel_rfl
theorem C0E:∀ d:L4.den,(A7w B3X) d=(A93 d).opt 1 []:=by
 intro d
 kernel_rfl
noncomputable abbrev B3k:St→Option Tree:=L4.say 1 [] [] (A7w C13)
theorem C1o:aPL B3k B1E:=SS.wp2 hlz [] A93 C0C C0E _ (fun d=>Runs.ofI2 (step:=A93) (B32 d.2.1.1 d.2.1.2.1 d.2.1.2.2.1 d.2.1.2.2.2.1 d.2.1.2.2.2.2.1 d.2.1.2.2.2.2.2.1 d.2.2.1.1 d.2.2.1.2.1 d.2.2.1.2.2.1 d.2.2.1.2.2.2.1) (C1I d.2.1.1 d.2.1.2.1 d.2.1.2.2.1 d.2.1.2.2.2.1 d.2.1.2.2.2.2.1 d.2.1.2.2.2.2.2.1 d.2.2.1.1 d.2.2.1.2.1 d.2.2.1.2.2.1 d.2.2.1.2.2.2.1) rfl (d.1.2.2.2.2.2.1,d.1.2.2.2.2.2.2.2.2.2.2.2.2.2.2.2.2.2.2.2.2.2.2.2.2.2.2.2.2.2.2.2.2.2.2.2.1,d.1.2.2.2.2.2.2.2.2.2.2.2.2.2.2.2.2.2.2.2.2.2.2.2.2.2.2.2.2.2.2.2.2.2.2.2.2.1,d.1.2.2.2.2.2.2.2.2.2.2.2.2.2.2.2.2.2.2.2.2.2.2.2.2.2.2.2.2.2.2.2.2.2.2.2.2.2.1))
noncomputable def A8E (x1_0 p0 p1 p2:Int) (p3:LT1) (p4:LIbe) (p5:Int):=K1 x1_0 (wI (p1*(1000:Int))) (wI ((A0n p0 p1 p2 p3 p4 p5) - (1:Int)))
noncomputable def A8F (x1_0:Int) (x1_1:Lq1) (x1_2:Int) (x1_3:List Int) (p0 p1 p2:Int) (p3:LT1) (p4:LIbe) (p5:Int):=A9N (B0q x1_1 p0) x1_3 (x1_3.length:Int) (0:Int) p0 p1 p2 p3 p4 p5 x1_0 x1_1 x1_2 x1_3
noncomputable def B19 (x1_0:Int) (x1_1:Lq1) (x1_2:Int) (x1_3:List Int) (p0 p1 p2:Int) (p3:LT1) (p4:LIbe) (p5:Int):Bool:=let z1:=K0 x1_0 p0 p1 p2 p3 p4 p5;let z2:=A8F x1_0 x1_1 x1_2 x1_3 p0 p1 p2 p3 p4 p5;let z3:=(p4.getD (z1.toNat) ((0:Int),false)).2;let z4:=decide (z1 ≥ (0:Int));(cond (!(A8E x1_0 p0 p1 p2 p3 p4 p5)) false (cond (!(C2i x1_1)) false (cond (z2.1==0) (z2.2) (cond (x1_2==(1:Int)) (decide (z1<(0:Int))) (cond (x1_2==(2:Int)) (cond z4 z3 false) (cond (x1_2==(3:Int)) (cond z4 (!z3) false) false))))))
noncomputable abbrev I6 (p0 p1 p2:Int) (p3:LT1) (p4:LIbe) (p5:Int) (r:Bool):AV×List AObj×List Nat:=((.t true .bool r),[(.box [(ti p0),(ti p1),(ti p2),(.t false tq2 p3),(.t false tq5 p4),(ti p5)])],[])
noncomputable abbrev B7H:A8C.den→AV×List AObj×List Nat:=fun d=>I6 d.2.1.1 d.2.1.2.1 d.2.1.2.2.1 d.2.1.2.2.2.1 d.2.1.2.2.2.2.1 d.2.1.2.2.2.2.2.1 (B19 d.1.2.1.1 d.1.2.1.2.1 d.1.2.1.2.2.1 d.1.2.1.2.2.2.1 d.2.1.1 d.2.1.2.1 d.2.1.2.2.1 d.2.1.2.2.2.1 d.2.1.2.2.2.2.1 d.2.1.2.2.2.2.2.1)
noncomputable def P0 (x1_0:Int) (x1_1:Lq1) (x1_2:Int) (x1_3:List Int) (p0 p1 p2:Int) (p3:LT1) (p4:LIbe) (p5:Int):Bool:=let z1:=K0 x1_0 p0 p1 p2 p3 p4 p5;let z2:=A8F x1_0 x1_1 x1_2 x1_3 p0 p1 p2 p3 p4 p5;let z3:=decide (0≤z1∧z1<(p4.length:Int));let z4:=decide (z1 ≥ (0:Int));cond (!(A8E x1_0 p0 p1 p2 p3 p4 p5)) true ((B5f x1_1)&&(cond (!(C2i x1_1)) true ((P1 x1_1 p0)&&(cond (z2.1==0) true ((z2.1==1)&&((I9 x1_0 p0 p1 p2 p3 p4 p5)&&(cond (x1_2==(1:Int)) true (cond (x1_2==(2:Int)) (cond z4 z3 true) (cond (x1_2==(3:Int)) (cond z4 z3 true) true)))))))))
noncomputable abbrev B5c:A8C.den→Bool:=fun d=>P0 d.1.2.1.1 d.1.2.1.2.1 d.1.2.1.2.2.1 d.1.2.1.2.2.2.1 d.2.1.1 d.2.1.2.1 d.2.1.2.2.1 d.2.1.2.2.2.1 d.2.1.2.2.2.2.1 d.2.1.2.2.2.2.2.1
noncomputable abbrev C3M:Nat→St→Option Tree:=fun b=>match b with | 0=>B3k | _=>fun _=>none
theorem C2C:A7g G52 (C3M) Try.f50 A8C B5c B7H:=by
 rintro ⟨⟨_,⟨x1_0,x1_1,x1_2,x1_3,_⟩,_⟩,⟨⟨p0,p1,p2,p3,p4,p5,_⟩,_⟩⟩ hp
 change P0 x1_0 x1_1 x1_2 x1_3 p0 p1 p2 p3 p4 p5=true at hp
 unfold P0 at hp
 refine Eq.trans (b:=(let z1:=K0 x1_0 p0 p1 p2 p3 p4 p5;let z2:=A8F x1_0 x1_1 x1_2 x1_3 p0 p1 p2 p3 p4 p5;let z3:=(p4.getD (z1.toNat) ((0:Int),false)).2;let z4:=decide (0≤z1∧z1<(p4.length:Int));let z5:=decide (z1 ≥ (0:Int));cond (!(A8E x1_0 p0 p1 p2 p3 p4 p5)) (some (I6 p0 p1 p2 p3 p4 p5 false)) (cond (B5f x1_1) (cond (!(C2i x1_1)) (some (I6 p0 p1 p2 p3 p4 p5 false)) (cond (P1 x1_1 p0) (cond (z2.1==0) (some (I6 p0 p1 p2 p3 p4 p5 (z2.2))) (cond (z2.1==1) (cond (I9 x1_0 p0 p1 p2 p3 p4 p5) (cond (x1_2==(1:Int)) (some (I6 p0 p1 p2 p3 p4 p5 (decide (z1<(0:Int))))) (cond (x1_2==(2:Int)) (cond z5 (cond z4 (some (I6 p0 p1 p2 p3 p4 p5 z3)) none) (some (I6 p0 p1 p2 p3 p4 p5 false))) (cond (x1_2==(3:Int)) (cond z5 (cond z4 (some (I6 p0 p1 p2 p3 p4 p5 (!z3))) none) (some (I6 p0 p1 p2 p3 p4 p5 false))) (some (I6 p0 p1 p2 p3 p4 p5 false))))) none) none)) none)) none))) (by kernel_rfl) ?_
 exact (K8 (I6 p0 p1 p2 p3 p4 p5) hp (fun hp=>rfl) (fun hp=>(A7i hp fun hp=>(K8 (I6 p0 p1 p2 p3 p4 p5) hp (fun hp=>rfl) (fun hp=>(A7i hp fun hp=>(K8 (I6 p0 p1 p2 p3 p4 p5) hp (fun hp=>rfl) (fun hp=>(A7i hp fun hp=>(A7i hp fun hp=>(K8 (I6 p0 p1 p2 p3 p4 p5) hp (fun hp=>rfl) (fun hp=>(K8 (I6 p0 p1 p2 p3 p4 p5) hp (fun hp=>(K8 (I6 p0 p1 p2 p3 p4 p5) hp (fun hp=>(A7k hp fun _h=>rfl)) (fun hp=>rfl))) (fun hp=>(K8 (I6 p0 p1 p2 p3 p4 p5) hp (fun hp=>(K8 (I6 p0 p1 p2 p3 p4 p5) hp (fun hp=>(A7k hp fun _h=>rfl)) (fun hp=>rfl))) (fun hp=>rfl))))))))))))))))
noncomputable abbrev B7T:=winQ (msum A8C B5c B7H)
theorem C3U:aPM 50 B7T:=(mcM G52 (hl1 (i:=0) (by kernel_rfl) C1o) C2C).winQ (A6K fun d=>⟨rfl,rfl⟩)
noncomputable def S53:Tab:=Tab.add S52 50 (B7T)
noncomputable def D2I:FuncId→Bool:=qadd D2H 50
theorem G53:aPG S53 D2I:=G52.addMQ C3U (A6Q _) (cbl Try.f50) (A5u _)

abbrev D1U:List Sh:=.junk::.junk::D1o
abbrev D1Y:List Sh:=.junk::.junk::.junk::.junk::.junk::D1X
abbrev D3s:List Sh:=.junk::D1Y
abbrev u86:=((),(),(),(),u82)
abbrev u47:=((),(),(),(),(),(),u41)
abbrev u89:=((),(),(),u86)
abbrev D1M:List AV:=.junk::.junk::.junk::.junk::.junk::D1L
abbrev D1H:List AV:=.junk::.junk::D1k
abbrev D3f:List AV:=.junk::D1M
abbrev D3Y:List Sh:=.junk::D3s
abbrev D3N:List AV:=.junk::D3f
abbrev B2v:List PSh:=[.agg [(.int .i64),(.int .i64),(.int .i64),tq2,tq5,(.int .i64)]]
noncomputable def B1o:Code:=((D3 0 (A1f Try.f16)).getD 0 (0,.skip)).2
noncomputable def B1p:Code:=((D3 0 (A1f Try.f16)).getD 1 (0,.skip)).2
abbrev Q4:SS:=⟨(.junk::.ptr 0 0 1 0::.junk::.junk::.junk::.junk::.junk::.junk::.junk::.junk::.junk::.junk::.junk::.junk::.junk::.junk::.junk::.junk::.junk::.junk::.junk::.junk::.junk::.junk::.junk::.junk::.junk::.junk::.junk::.junk::.junk::.junk::.junk::.junk::.junk::.junk::.junk::.junk::.junk::.t false tq5::tI::tI::D1U),[.box [tI,tI,tI,.t false tq2,.t false tq5,tI]]⟩
abbrev B2o:SS:=⟨(.junk::.junk::.t true .bool::D1Y),[]⟩
abbrev B69:SS:=⟨(.junk::.ptr 0 0 1 0::D3s),[.box [tI,tI,tI,.t false tq2,.t false tq5,tI]]⟩
noncomputable def B08 (x39:LIbe) (x41 p0 p1 p2:Int) (p3:LT1) (p4:LIbe) (p5:Int):=K1 ((x39.getD x41.toNat ((0:Int),false)).1) (1000:Int) (wI ((A0n p0 p1 p2 p3 p4 p5) - (1:Int)))
noncomputable def B9Y (x39:LIbe) (x40 x41 p0 p1 p2:Int) (p3:LT1) (p4:LIbe) (p5:Int):RT Q4.den:=let z1:=(x39.getD x41.toNat ((0:Int),false)).1;(.br (decide (x41<x40)) (.br (decide (0≤x41∧x41<(x39.length:Int))) (.br (!(B08 x39 x41 p0 p1 p2 p3 p4 p5)) (.done .ret B2o (((),(),false,u86),())) (.br (I9 z1 p0 p1 p2 p3 p4 p5) (.br ((K0 z1 p0 p1 p2 p3 p4 p5) != x41) (.done .ret B2o (((),(),false,u86),())) (.next (((),(),(),(),(),(),(),(),(),(),(),(),(),(),(),(),(),(),(),(),(),(),(),(),(),(),(),(),(),(),(),(),(),(),(),(),(),(),(),x39,x40,wI (x41+(1:Int)),u47),((p0,p1,p2,p3,p4,p5,()),())))) .fail)) .fail) (.done (.exit 0) B69 ((u89),((p0,p1,p2,p3,p4,p5,()),()))))
abbrev B1W:=(LIbe)×(Int)×(Int)
abbrev A9g:=Nat×(Bool)
def B4e:A9g:=(99,(false:Bool))
noncomputable def A7o (x39:LIbe) (x40 x41 p0 p1 p2:Int) (p3:LT1) (p4:LIbe) (p5:Int):B1W ⊕ A9g:=let z1:=(x39.getD x41.toNat ((0:Int),false)).1;(cond (decide (x41<x40)) (cond (decide (0≤x41∧x41<(x39.length:Int))) (cond (!(B08 x39 x41 p0 p1 p2 p3 p4 p5)) (.inr (0,false)) (cond (I9 z1 p0 p1 p2 p3 p4 p5) (cond ((K0 z1 p0 p1 p2 p3 p4 p5) != x41) (.inr (0,false)) (.inl (x39,x40,wI (x41+(1:Int))))) (.inr B4e))) (.inr B4e)) (.inr (1,(false:Bool))))
noncomputable def A0o (x39:LIbe) (x40 x41 p0 p1 p2:Int) (p3:LT1) (p4:LIbe) (p5:Int):A9g:=itX (fun v:B1W=>A7o v.1 v.2.1 v.2.2 p0 p1 p2 p3 p4 p5) B4e (x39,x40,x41)
noncomputable def B39 (p0 p1 p2:Int) (p3:LT1) (p4:LIbe) (p5:Int) (a:A9g):CT:=(.br (a.1==0) (.done .ret B2o (((),(),a.2,u86),())) (.br (a.1==1) (.done (.exit 0) B69 ((u89),((p0,p1,p2,p3,p4,p5,()),()))) .fail))
noncomputable def C6a (x39:LIbe) (x40 x41 p0 p1 p2:Int) (p3:LT1) (p4:LIbe) (p5:Int):CT:=(B39 p0 p1 p2 p3 p4 p5) (A0o x39 x40 x41 p0 p1 p2 p3 p4 p5)
noncomputable abbrev B0F {α:Sort _} (f:LIbe→Int→Int→Int→Int→Int→LT1→LIbe→Int→α) (d:Q4.den):α:=f d.1.2.2.2.2.2.2.2.2.2.2.2.2.2.2.2.2.2.2.2.2.2.2.2.2.2.2.2.2.2.2.2.2.2.2.2.2.2.2.2.1 d.1.2.2.2.2.2.2.2.2.2.2.2.2.2.2.2.2.2.2.2.2.2.2.2.2.2.2.2.2.2.2.2.2.2.2.2.2.2.2.2.2.1 d.1.2.2.2.2.2.2.2.2.2.2.2.2.2.2.2.2.2.2.2.2.2.2.2.2.2.2.2.2.2.2.2.2.2.2.2.2.2.2.2.2.2.1 d.2.1.1 d.2.1.2.1 d.2.1.2.2.1 d.2.1.2.2.2.1 d.2.1.2.2.2.2.1 d.2.1.2.2.2.2.2.1
noncomputable abbrev B4o:Q4.den→RT Q4.den:=(B0F B9Y)
noncomputable abbrev B9J (p0 p1 p2:Int) (p3:LT1) (p4:LIbe) (p5:Int) (v:B1W):Q4.den:=(((),(),(),(),(),(),(),(),(),(),(),(),(),(),(),(),(),(),(),(),(),(),(),(),(),(),(),(),(),(),(),(),(),(),(),(),(),(),(),v.1,v.2.1,v.2.2,u47),((p0,p1,p2,p3,p4,p5,()),()))
theorem C5B (p0 p1 p2:Int) (p3:LT1) (p4:LIbe) (p5:Int):(∀ v:B1W,(B9Y v.1 v.2.1 v.2.2 p0 p1 p2 p3 p4 p5).val=A6l (B9J p0 p1 p2 p3 p4 p5) (B39 p0 p1 p2 p3 p4 p5) (A7o v.1 v.2.1 v.2.2 p0 p1 p2 p3 p4 p5))∧∀ a:A9g,CEnd Q4.den ((B39 p0 p1 p2 p3 p4 p5) a):=⟨fun v=>(A7m (A7m (A7m rfl (A7m (A7m rfl rfl) rfl)) rfl) rfl),fun a=>(A7a aCD (A7a aCD A7c))⟩
noncomputable def B9z (x39:LIbe) (x40 x41 p0 p1 p2:Int) (p3:LT1) (p4:LIbe) (p5:Int):Option (Ex×St):=let z1:=(⟨(.junk::.junk::(.t true .bool false)::D1M),[],0,[]⟩:St);let z2:=(x39.getD x41.toNat ((0:Int),false)).1;(cond (decide (x41<x40)) (cond (decide (0≤x41∧x41<(x39.length:Int))) (cond (!(B08 x39 x41 p0 p1 p2 p3 p4 p5)) (some (.ret,z1)) (cond (I9 z2 p0 p1 p2 p3 p4 p5) (cond ((K0 z2 p0 p1 p2 p3 p4 p5) != x41) (some (.ret,z1)) (some (.normal,(⟨(.junk::(.ptr 0 0 1 0)::.junk::.junk::.junk::.junk::.junk::.junk::.junk::.junk::.junk::.junk::.junk::.junk::.junk::.junk::.junk::.junk::.junk::.junk::.junk::.junk::.junk::.junk::.junk::.junk::.junk::.junk::.junk::.junk::.junk::.junk::.junk::.junk::.junk::.junk::.junk::.junk::.junk::(.t false tq5 x39)::(ti x40)::(ti (wI (x41+(1:Int))))::D1H),[(.box [(ti p0),(ti p1),(ti p2),(.t false tq2 p3),(.t false tq5 p4),(ti p5)])],0,[]⟩:St)))) none)) none) (some ((.exit 0),(⟨(.junk::(.ptr 0 0 1 0)::D3f),[(.box [(ti p0),(ti p1),(ti p2),(.t false tq2 p3),(.t false tq5 p4),(ti p5)])],0,[]⟩:St))))
theorem C4y:RdA G53 aLn 0 B1o Q4 0 [] (kepts [2] [(0,[1])]) (B0F B9z):=by
 intro d
 kernel_rfl
theorem C4F:∀ d:Q4.den,(B0F B9z) d=(B4o d).opt 0 []:=by
 intro d
 kernel_rfl
noncomputable abbrev B8t:St→Option Tree:=Q4.say 0 [] [] (B0F C6a)
theorem C5j:aPL B8t B1o:=SS.wp2 hlz [] B4o C4y C4F _ (fun d=>Runs.ofI2 (step:=B4o) (B9J d.2.1.1 d.2.1.2.1 d.2.1.2.2.1 d.2.1.2.2.2.1 d.2.1.2.2.2.2.1 d.2.1.2.2.2.2.2.1) (C5B d.2.1.1 d.2.1.2.1 d.2.1.2.2.1 d.2.1.2.2.2.1 d.2.1.2.2.2.2.1 d.2.1.2.2.2.2.2.1) rfl (d.1.2.2.2.2.2.2.2.2.2.2.2.2.2.2.2.2.2.2.2.2.2.2.2.2.2.2.2.2.2.2.2.2.2.2.2.2.2.2.2.1,d.1.2.2.2.2.2.2.2.2.2.2.2.2.2.2.2.2.2.2.2.2.2.2.2.2.2.2.2.2.2.2.2.2.2.2.2.2.2.2.2.2.1,d.1.2.2.2.2.2.2.2.2.2.2.2.2.2.2.2.2.2.2.2.2.2.2.2.2.2.2.2.2.2.2.2.2.2.2.2.2.2.2.2.2.2.1))
abbrev Q5:SS:=⟨(.junk::.ptr 0 0 1 0::.junk::.junk::.junk::.junk::.junk::.junk::.junk::.junk::.junk::.junk::.junk::.junk::.junk::.junk::.junk::.junk::.junk::.junk::.junk::.junk::.junk::.junk::.junk::.junk::.junk::.junk::.junk::.junk::.junk::.junk::.junk::.junk::.junk::.junk::.junk::.junk::.junk::.junk::.junk::.junk::.junk::.junk::.junk::.junk::.junk::.junk::.junk::.junk::.junk::.junk::.junk::.junk::.junk::.junk::.junk::.junk::.junk::.junk::.junk::.t false tq2::tI::tI::D1S),[.box [tI,tI,tI,.t false tq2,.t false tq5,tI]]⟩
abbrev B2p:SS:=⟨(.junk::.junk::.t true .bool::D1Y),[]⟩
abbrev B7a:SS:=⟨(.junk::D3Y),[]⟩
noncomputable def B09 (x61:LT1) (x63 p0 p1 p2:Int) (p3:LT1) (p4:LIbe) (p5:Int):=let z1:=x61.getD x63.toNat ((0:Int),([],((0:Int),[])));B19 (z1.1) ((z1.2).1) (((z1.2).2).1) (((z1.2).2).2) p0 p1 p2 p3 p4 p5
noncomputable def B9Z (x61:LT1) (x62 x63 p0 p1 p2:Int) (p3:LT1) (p4:LIbe) (p5:Int):RT Q5.den:=let z1:=x61.getD x63.toNat ((0:Int),([],((0:Int),[])));let z2:=wI (x63 - (1:Int));(.br (decide (x63<x62)) (.br (decide (0≤x63∧x63<(x61.length:Int))) (.br (P0 (z1.1) ((z1.2).1) (((z1.2).2).1) (((z1.2).2).2) p0 p1 p2 p3 p4 p5) (.br (!(B09 x61 x63 p0 p1 p2 p3 p4 p5)) (.done .ret B2p (((),(),false,u86),())) (.br (decide (x63 > (0:Int))) (.br (decide (0≤z2∧z2<(p3.length:Int))) (.br (decide ((z1.1)≤((p3.getD (z2.toNat) ((0:Int),([],((0:Int),[])))).1))) (.done .ret B2p (((),(),false,u86),())) (.next (((),(),(),(),(),(),(),(),(),(),(),(),(),(),(),(),(),(),(),(),(),(),(),(),(),(),(),(),(),(),(),(),(),(),(),(),(),(),(),(),(),(),(),(),(),(),(),(),(),(),(),(),(),(),(),(),(),(),(),(),(),x61,x62,wI (x63+(1:Int)),u25),((p0,p1,p2,p3,p4,p5,()),())))) .fail) (.next (((),(),(),(),(),(),(),(),(),(),(),(),(),(),(),(),(),(),(),(),(),(),(),(),(),(),(),(),(),(),(),(),(),(),(),(),(),(),(),(),(),(),(),(),(),(),(),(),(),(),(),(),(),(),(),(),(),(),(),(),(),x61,x62,wI (x63+(1:Int)),u25),((p0,p1,p2,p3,p4,p5,()),()))))) .fail) .fail) (.done (.exit 2) B7a ((u89),())))
abbrev B1X:=LT1×(Int)×(Int)
abbrev A9h:=Nat×(Bool)
def B0J:A9h:=(99,(false:Bool))
noncomputable def A7p (x61:LT1) (x62 x63 p0 p1 p2:Int) (p3:LT1) (p4:LIbe) (p5:Int):B1X ⊕ A9h:=let z1:=x61.getD x63.toNat ((0:Int),([],((0:Int),[])));let z2:=wI (x63 - (1:Int));(cond (decide (x63<x62)) (cond (decide (0≤x63∧x63<(x61.length:Int))) (cond (P0 (z1.1) ((z1.2).1) (((z1.2).2).1) (((z1.2).2).2) p0 p1 p2 p3 p4 p5) (cond (!(B09 x61 x63 p0 p1 p2 p3 p4 p5)) (.inr (0,false)) (cond (decide (x63 > (0:Int))) (cond (decide (0≤z2∧z2<(p3.length:Int))) (cond (decide ((z1.1)≤((p3.getD (z2.toNat) ((0:Int),([],((0:Int),[])))).1))) (.inr (0,false)) (.inl (x61,x62,wI (x63+(1:Int))))) (.inr B0J)) (.inl (x61,x62,wI (x63+(1:Int)))))) (.inr B0J)) (.inr B0J)) (.inr (1,(false:Bool))))
noncomputable def A0p (x61:LT1) (x62 x63 p0 p1 p2:Int) (p3:LT1) (p4:LIbe) (p5:Int):A9h:=itX (fun v:B1X=>A7p v.1 v.2.1 v.2.2 p0 p1 p2 p3 p4 p5) B0J (x61,x62,x63)
noncomputable def B4a (p0 p1 p2:Int) (p3:LT1) (p4:LIbe) (p5:Int) (a:A9h):CT:=(.br (a.1==0) (.done .ret B2p (((),(),a.2,u86),())) (.br (a.1==1) (.done (.exit 2) B7a ((u89),())) .fail))
noncomputable def C6b (x61:LT1) (x62 x63 p0 p1 p2:Int) (p3:LT1) (p4:LIbe) (p5:Int):CT:=(B4a p0 p1 p2 p3 p4 p5) (A0p x61 x62 x63 p0 p1 p2 p3 p4 p5)
noncomputable abbrev B0G {α:Sort _} (f:LT1→Int→Int→Int→Int→Int→LT1→LIbe→Int→α) (d:Q5.den):α:=f d.1.2.2.2.2.2.2.2.2.2.2.2.2.2.2.2.2.2.2.2.2.2.2.2.2.2.2.2.2.2.2.2.2.2.2.2.2.2.2.2.2.2.2.2.2.2.2.2.2.2.2.2.2.2.2.2.2.2.2.2.2.2.1 d.1.2.2.2.2.2.2.2.2.2.2.2.2.2.2.2.2.2.2.2.2.2.2.2.2.2.2.2.2.2.2.2.2.2.2.2.2.2.2.2.2.2.2.2.2.2.2.2.2.2.2.2.2.2.2.2.2.2.2.2.2.2.2.1 d.1.2.2.2.2.2.2.2.2.2.2.2.2.2.2.2.2.2.2.2.2.2.2.2.2.2.2.2.2.2.2.2.2.2.2.2.2.2.2.2.2.2.2.2.2.2.2.2.2.2.2.2.2.2.2.2.2.2.2.2.2.2.2.2.1 d.2.1.1 d.2.1.2.1 d.2.1.2.2.1 d.2.1.2.2.2.1 d.2.1.2.2.2.2.1 d.2.1.2.2.2.2.2.1
noncomputable abbrev B4p:Q5.den→RT Q5.den:=(B0G B9Z)
noncomputable abbrev B9K (p0 p1 p2:Int) (p3:LT1) (p4:LIbe) (p5:Int) (v:B1X):Q5.den:=(((),(),(),(),(),(),(),(),(),(),(),(),(),(),(),(),(),(),(),(),(),(),(),(),(),(),(),(),(),(),(),(),(),(),(),(),(),(),(),(),(),(),(),(),(),(),(),(),(),(),(),(),(),(),(),(),(),(),(),(),(),v.1,v.2.1,v.2.2,u25),((p0,p1,p2,p3,p4,p5,()),()))
theorem C5C (p0 p1 p2:Int) (p3:LT1) (p4:LIbe) (p5:Int):(∀ v:B1X,(B9Z v.1 v.2.1 v.2.2 p0 p1 p2 p3 p4 p5).val=A6l (B9K p0 p1 p2 p3 p4 p5) (B4a p0 p1 p2 p3 p4 p5) (A7p v.1 v.2.1 v.2.2 p0 p1 p2 p3 p4 p5))∧∀ a:A9h,CEnd Q5.den ((B4a p0 p1 p2 p3 p4 p5) a):=⟨fun v=>by repeat' first | apply A7m | rfl,fun a=>(A7a aCD (A7a aCD A7c))⟩
noncomputable def B9A (x61:LT1) (x62 x63 p0 p1 p2:Int) (p3:LT1) (p4:LIbe) (p5:Int):Option (Ex×St):=let z1:=(⟨(.junk::(.ptr 0 0 1 0)::.junk::.junk::.junk::.junk::.junk::.junk::.junk::.junk::.junk::.junk::.junk::.junk::.junk::.junk::.junk::.junk::.junk::.junk::.junk::.junk::.junk::.junk::.junk::.junk::.junk::.junk::.junk::.junk::.junk::.junk::.junk::.junk::.junk::.junk::.junk::.junk::.junk::.junk::.junk::.junk::.junk::.junk::.junk::.junk::.junk::.junk::.junk::.junk::.junk::.junk::.junk::.junk::.junk::.junk::.junk::.junk::.junk::.junk::.junk::(.t false tq2 x61)::(ti x62)::(ti (wI (x63+(1:Int))))::D1g),[(.box [(ti p0),(ti p1),(ti p2),(.t false tq2 p3),(.t false tq5 p4),(ti p5)])],0,[]⟩:St);let z2:=x61.getD x63.toNat ((0:Int),([],((0:Int),[])));let z3:=wI (x63 - (1:Int));let z4:=(⟨(.junk::.junk::(.t true .bool false)::D1M),[],0,[]⟩:St);(cond (decide (x63<x62)) (cond (decide (0≤x63∧x63<(x61.length:Int))) (cond (P0 (z2.1) ((z2.2).1) (((z2.2).2).1) (((z2.2).2).2) p0 p1 p2 p3 p4 p5) (cond (!(B09 x61 x63 p0 p1 p2 p3 p4 p5)) (some (.ret,z4)) (cond (decide (x63 > (0:Int))) (cond (decide (0≤z3∧z3<(p3.length:Int))) (cond (decide ((z2.1)≤((p3.getD (z3.toNat) ((0:Int),([],((0:Int),[])))).1))) (some (.ret,z4)) (some (.normal,z1))) none) (some (.normal,z1)))) none) none) (some ((.exit 2),(⟨(.junk::D3N),[],0,[]⟩:St))))
theorem C4z:RdA G53 aLn 2 B1p Q5 0 [] (kepts [2] [(2,[])]) (B0G B9A):=by
 intro d
 kernel_rfl
theorem C4G:∀ d:Q5.den,(B0G B9A) d=(B4p d).opt 0 []:=by
 intro d
 kernel_rfl
noncomputable abbrev B8u:St→Option Tree:=Q5.say 0 [] [] (B0G C6b)
theorem C5k:aPL B8u B1p:=SS.wp2 hlz [] B4p C4z C4G _ (fun d=>Runs.ofI2 (step:=B4p) (B9K d.2.1.1 d.2.1.2.1 d.2.1.2.2.1 d.2.1.2.2.2.1 d.2.1.2.2.2.2.1 d.2.1.2.2.2.2.2.1) (C5C d.2.1.1 d.2.1.2.1 d.2.1.2.2.1 d.2.1.2.2.2.1 d.2.1.2.2.2.2.1 d.2.1.2.2.2.2.2.1) rfl (d.1.2.2.2.2.2.2.2.2.2.2.2.2.2.2.2.2.2.2.2.2.2.2.2.2.2.2.2.2.2.2.2.2.2.2.2.2.2.2.2.2.2.2.2.2.2.2.2.2.2.2.2.2.2.2.2.2.2.2.2.2.2.1,d.1.2.2.2.2.2.2.2.2.2.2.2.2.2.2.2.2.2.2.2.2.2.2.2.2.2.2.2.2.2.2.2.2.2.2.2.2.2.2.2.2.2.2.2.2.2.2.2.2.2.2.2.2.2.2.2.2.2.2.2.2.2.2.1,d.1.2.2.2.2.2.2.2.2.2.2.2.2.2.2.2.2.2.2.2.2.2.2.2.2.2.2.2.2.2.2.2.2.2.2.2.2.2.2.2.2.2.2.2.2.2.2.2.2.2.2.2.2.2.2.2.2.2.2.2.2.2.2.2.1))
noncomputable def B07 (a0 a1 a2:Int) (a3:LT1) (a4:LIbe) (a5:Int):Bool:=let z1:=A0o a4 (a4.length:Int) (0:Int) a0 a1 a2 a3 a4 a5;let z2:=A0p a3 (a3.length:Int) (0:Int) a0 a1 a2 a3 a4 a5;(cond (!(K1 a0 (1:Int) (8:Int))) false (cond (!(K1 a1 (1:Int) (900:Int))) false (cond (!(K1 a2 (0:Int) (999:Int))) false (cond (decide ((a4.length:Int) > (1000:Int))) false (cond (!(K1 a5 (0:Int) (a4.length:Int))) false (cond (z1.1==0) (z1.2) (cond (z2.1==0) (z2.2) true)))))))
noncomputable abbrev L5 (r:Bool):AV×List AObj:=((.t true .bool r),[])
noncomputable abbrev C0d:H5 B2v→AV×List AObj:=fun d=>L5 (B07 d.1.1 d.1.2.1 d.1.2.2.1 d.1.2.2.2.1 d.1.2.2.2.2.1 d.1.2.2.2.2.2.1)
noncomputable def Z4 (a0 a1 a2:Int) (a3:LT1) (a4:LIbe) (a5:Int):Bool:=let z1:=A0o a4 (a4.length:Int) (0:Int) a0 a1 a2 a3 a4 a5;let z2:=A0p a3 (a3.length:Int) (0:Int) a0 a1 a2 a3 a4 a5;cond (!(K1 a0 (1:Int) (8:Int))) true (cond (!(K1 a1 (1:Int) (900:Int))) true (cond (!(K1 a2 (0:Int) (999:Int))) true (cond (decide ((a4.length:Int) > (1000:Int))) true (cond (!(K1 a5 (0:Int) (a4.length:Int))) true (cond (z1.1==0) true ((z1.1==1)&&(cond (z2.1==0) true (z2.1==1))))))))
noncomputable abbrev B59:H5 B2v→Bool:=fun d=>Z4 d.1.1 d.1.2.1 d.1.2.2.1 d.1.2.2.2.1 d.1.2.2.2.2.1 d.1.2.2.2.2.2.1
noncomputable abbrev C8F:Nat→St→Option Tree:=fun b=>match b with | 0=>B8t | 2=>B8u | _=>fun _=>none
theorem C7e:A7h true G53 (C8F) Try.f16 B2v B59 C0d:=by
 rintro ⟨⟨a0,⟨a1,⟨a2,⟨a3,⟨a4,⟨a5,_⟩⟩⟩⟩⟩⟩,_⟩ hp
 change Z4 a0 a1 a2 a3 a4 a5=true at hp
 unfold Z4 at hp
 refine Eq.trans (b:=(let z1:=A0o a4 (a4.length:Int) (0:Int) a0 a1 a2 a3 a4 a5;let z2:=A0p a3 (a3.length:Int) (0:Int) a0 a1 a2 a3 a4 a5;cond (!(K1 a0 (1:Int) (8:Int))) (some (L5 false)) (cond (!(K1 a1 (1:Int) (900:Int))) (some (L5 false)) (cond (!(K1 a2 (0:Int) (999:Int))) (some (L5 false)) (cond (decide ((a4.length:Int) > (1000:Int))) (some (L5 false)) (cond (!(K1 a5 (0:Int) (a4.length:Int))) (some (L5 false)) (cond (z1.1==0) (some (L5 (z1.2))) (cond (z1.1==1) (cond (z2.1==0) (some (L5 (z2.2))) (cond (z2.1==1) (some (L5 true)) none)) none)))))))) (by kernel_rfl) ?_
 exact (K8 L5 hp (fun hp=>rfl) (fun hp=>(K8 L5 hp (fun hp=>rfl) (fun hp=>(K8 L5 hp (fun hp=>rfl) (fun hp=>(K8 L5 hp (fun hp=>rfl) (fun hp=>(K8 L5 hp (fun hp=>rfl) (fun hp=>(K8 L5 hp (fun hp=>rfl) (fun hp=>(A7i hp fun hp=>(K8 L5 hp (fun hp=>rfl) (fun hp=>(A7k hp fun _h=>rfl))))))))))))))))
theorem C8V:aPP 16 (A2T B2v B59 C0d):=pcD true G53 (by
  rw [show D3 0 (A1f Try.f16)=[(0,B1o),(2,B1p)] by kernel_rfl];intro p hp;simp only [List.mem_cons,List.mem_nil_iff,or_false] at hp
  rcases hp with rfl | rfl
  ·exact C5j
  ·exact C5k) C7e
noncomputable def S54:Tab:=Tab.add S53 16 (lift (A2T B2v B59 C0d))
noncomputable def D2J:FuncId→Bool:=qadd D2I 16
theorem G54:aPG S54 D2J:=G53.addQ C8V (cbl Try.f16) (fun _=>rfl)

abbrev A77:SS:=⟨[.ptr 0 0 1 0,tI],[.box [tI,tI,tI,.t false tq2,.t false tq5,tI]]⟩
noncomputable def A0m (x1 p0 p1 p2:Int) (p3:LT1) (p4:LIbe) (p5:Int):Bool×Bool:=let z1:=K0 x1 p0 p1 p2 p3 p4 p5;(cond (decide (x1<(1000:Int))) (false,false) (cond (decide (z1<(0:Int))) (false,decide (x1<(wI (p1*(1000:Int))))) (cond (decide (z1 ≥ p5)) (false,false) ((p4.getD (z1.toNat) ((0:Int),false)).2,true))))
noncomputable abbrev P7 (p0 p1 p2:Int) (p3:LT1) (p4:LIbe) (p5:Int) (r:Bool×Bool):AV×List AObj×List Nat:=((.tup [(.t true .bool r.1),(.t true .bool r.2)]),[(.box [(ti p0),(ti p1),(ti p2),(.t false tq2 p3),(.t false tq5 p4),(ti p5)])],[])
noncomputable abbrev B6I:A77.den→AV×List AObj×List Nat:=fun d=>P7 d.2.1.1 d.2.1.2.1 d.2.1.2.2.1 d.2.1.2.2.2.1 d.2.1.2.2.2.2.1 d.2.1.2.2.2.2.2.1 (A0m d.1.2.1 d.2.1.1 d.2.1.2.1 d.2.1.2.2.1 d.2.1.2.2.2.1 d.2.1.2.2.2.2.1 d.2.1.2.2.2.2.2.1)
noncomputable def L3 (x1 p0 p1 p2:Int) (p3:LT1) (p4:LIbe) (p5:Int):Bool:=let z1:=K0 x1 p0 p1 p2 p3 p4 p5;cond (decide (x1<(1000:Int))) true ((I9 x1 p0 p1 p2 p3 p4 p5)&&(cond (decide (z1<(0:Int))) true (cond (decide (z1 ≥ p5)) true (decide (0≤z1∧z1<(p4.length:Int))))))
noncomputable abbrev B30:A77.den→Bool:=fun d=>L3 d.1.2.1 d.2.1.1 d.2.1.2.1 d.2.1.2.2.1 d.2.1.2.2.2.1 d.2.1.2.2.2.2.1 d.2.1.2.2.2.2.2.1
theorem C1J:A7g G54 aLn Try.f54 A77 B30 B6I:=by
 rintro ⟨⟨_,x1,_⟩,⟨⟨p0,p1,p2,p3,p4,p5,_⟩,_⟩⟩ hp
 change L3 x1 p0 p1 p2 p3 p4 p5=true at hp
 unfold L3 at hp
 refine Eq.trans (b:=(let z1:=K0 x1 p0 p1 p2 p3 p4 p5;let z2:=P7 p0 p1 p2 p3 p4 p5 (false,false);cond (decide (x1<(1000:Int))) (some z2) (cond (I9 x1 p0 p1 p2 p3 p4 p5) (cond (decide (z1<(0:Int))) (some (P7 p0 p1 p2 p3 p4 p5 (false,decide (x1<(wI (p1*(1000:Int))))))) (cond (decide (z1 ≥ p5)) (some z2) (cond (decide (0≤z1∧z1<(p4.length:Int))) (some (P7 p0 p1 p2 p3 p4 p5 ((p4.getD (z1.toNat) ((0:Int),false)).2,true))) none))) none))) (by kernel_rfl) ?_
 exact (K8 (P7 p0 p1 p2 p3 p4 p5) hp (fun hp=>rfl) (fun hp=>(A7i hp fun hp=>(K8 (P7 p0 p1 p2 p3 p4 p5) hp (fun hp=>rfl) (fun hp=>(K8 (P7 p0 p1 p2 p3 p4 p5) hp (fun hp=>rfl) (fun hp=>(A7k hp fun _h=>rfl))))))))
noncomputable abbrev B6K:=winQ (msum A77 B30 B6I)
theorem C3i:aPM 54 B6K:=(mcM G54 hlz C1J).winQ (A6K fun d=>⟨rfl,rfl⟩)
noncomputable def S55:Tab:=Tab.add S54 54 (B6K)
noncomputable def D2K:FuncId→Bool:=qadd D2J 54
theorem G55:aPG S55 D2K:=G54.addMQ C3i (A6Q _) (cbl Try.f54) (A5u _)

abbrev D3k:List Sh:=.junk::D0R
abbrev u29:=((),u28)
abbrev B4E:List PSh:=[.t tq4,.t (.int .i64),.t (.int .i64)]
abbrev X6:SS:=⟨(.junk::tI::tI::.junk::.junk::.junk::.junk::.all 0 3::.junk::.junk::.t false tq4::tI::tI::D3j),[.rows 90 true tq8]⟩
abbrev B9c:SS:=⟨(.junk::.junk::.junk::.junk::.junk::.junk::.junk::.all 0 3::D3k),[.rows 90 true tq8]⟩
noncomputable def C0p (x2:Int) (x10:Lq1) (x12:Int):=A9M (((x10.getD x12.toNat ((0:Int),(bE,bE))).2).1) x2
noncomputable def C1U (x1 x2:Int) (x10:Lq1) (x11 x12:Int) (h0:Lq1):RT X6.den:=let z1:=x10.getD x12.toNat ((0:Int),(bE,bE));(.br (decide (x12<x11)) (.br (decide (0≤x12∧x12<(x10.length:Int))) (.br (Z5 ((z1.2).1) x2) (.br ((C0p x2 x10 x12)==x1) (.br (decide ((h0.length+([(z1.1,((z1.2).1,(z1.2).2))]).length)*40≤MAXB)) (.next (((),x1,x2,(),(),(),(),(),(),(),x10,x11,wI (x12+(1:Int)),u16),(h0++([(z1.1,((z1.2).1,(z1.2).2))]),()))) .fail) (.next (((),x1,x2,(),(),(),(),(),(),(),x10,x11,wI (x12+(1:Int)),u16),(h0,())))) .fail) .fail) (.done (.exit 0) B9c ((u29),(h0,()))))
abbrev B03:=(Int)×(Int)×Lq1×(Int)×(Int)×(Lq1)
abbrev A80:=Nat×(Lq1)
def B16:A80:=(99,([]:Lq1))
noncomputable def B2c (x1 x2:Int) (x10:Lq1) (x11 x12:Int) (h0:Lq1):B03 ⊕ A80:=let z1:=x10.getD x12.toNat ((0:Int),(bE,bE));(cond (decide (x12<x11)) (cond (decide (0≤x12∧x12<(x10.length:Int))) (cond (Z5 ((z1.2).1) x2) (cond ((C0p x2 x10 x12)==x1) (cond (decide ((h0.length+([(z1.1,((z1.2).1,(z1.2).2))]).length)*40≤MAXB)) (.inl (x1,x2,x10,x11,wI (x12+(1:Int)),h0++([(z1.1,((z1.2).1,(z1.2).2))]))) (.inr B16)) (.inl (x1,x2,x10,x11,wI (x12+(1:Int)),h0))) (.inr B16)) (.inr B16)) (.inr (0,h0)))
noncomputable def B5Y (x1 x2:Int) (x10:Lq1) (x11 x12:Int) (h0:Lq1):A80:=itX (fun v:B03=>B2c v.1 v.2.1 v.2.2.1 v.2.2.2.1 v.2.2.2.2.1 v.2.2.2.2.2) B16 (x1,x2,x10,x11,x12,h0)
noncomputable def B5C (a:A80):CT:=(.br (a.1==0) (.done (.exit 0) B9c ((u29),(a.2,()))) .fail)
noncomputable def C7G (x1 x2:Int) (x10:Lq1) (x11 x12:Int) (h0:Lq1):CT:=B5C (B5Y x1 x2 x10 x11 x12 h0)
noncomputable abbrev C02 {α:Sort _} (f:Int→Int→Lq1→Int→Int→Lq1→α) (d:X6.den):α:=f d.1.2.1 d.1.2.2.1 d.1.2.2.2.2.2.2.2.2.2.2.1 d.1.2.2.2.2.2.2.2.2.2.2.2.1 d.1.2.2.2.2.2.2.2.2.2.2.2.2.1 d.2.1
noncomputable abbrev B6o:X6.den→RT X6.den:=(C02 C1U)
noncomputable def B7u:Code:=((D3 0 (A1f Try.f140)).getD 0 (0,.skip)).2
noncomputable abbrev C1z (v:B03):X6.den:=(((),v.1,v.2.1,(),(),(),(),(),(),(),v.2.2.1,v.2.2.2.1,v.2.2.2.2.1,u16),(v.2.2.2.2.2,()))
theorem C68:(∀ v:B03,(C1U v.1 v.2.1 v.2.2.1 v.2.2.2.1 v.2.2.2.2.1 v.2.2.2.2.2).val=A6l C1z B5C (B2c v.1 v.2.1 v.2.2.1 v.2.2.2.1 v.2.2.2.2.1 v.2.2.2.2.2))∧∀ a:A80,CEnd X6.den (B5C a):=⟨fun v=>(A7m (A7m (A7m (A7m (A7m rfl rfl) rfl) rfl) rfl) rfl),fun a=>(A7a aCD A7c)⟩
theorem C5q:RdA G55 aLn 0 B7u X6 0 [] (kepts [] [(0,[7])]) (fun d=>(B6o d).opt 0 []):=by
 intro d
 kernel_rfl
noncomputable abbrev B9O:St→Option Tree:=X6.say 0 [] [(7,90,tq8)] (C02 C7G)
theorem C6O:aPL B9O B7u:=SS.wp2 hlz [(7,90,tq8)] B6o C5q (fun d=>rfl) _ (fun d=>Runs.ofI2 (step:=B6o) C1z C68 rfl (d.1.2.1,d.1.2.2.1,d.1.2.2.2.2.2.2.2.2.2.2.1,d.1.2.2.2.2.2.2.2.2.2.2.2.1,d.1.2.2.2.2.2.2.2.2.2.2.2.2.1,d.2.1))
noncomputable def B54 (a0:Lq1) (a1 a2:Int):=B5Y a1 a2 a0 (a0.length:Int) (0:Int) ([]:Lq1)
noncomputable def C1k (a0:Lq1) (a1 a2:Int):Lq1:=((B54 a0 a1 a2).2)
noncomputable abbrev C5S (r:Lq1):AV×List AObj:=((.all 0 3),[(.rows 90 true tq8 r)])
noncomputable abbrev C17:H5 B4E→AV×List AObj:=fun d=>C5S (C1k d.1 d.2.1 d.2.2.1)
noncomputable def B0v (a0:Lq1) (a1 a2:Int):Bool:=((B54 a0 a1 a2).1==0)
noncomputable abbrev B70:H5 B4E→Bool:=fun d=>B0v d.1 d.2.1 d.2.2.1
noncomputable abbrev C9K:Nat→St→Option Tree:=fun b=>match b with | 0=>B9O | _=>fun _=>none
theorem C8p:A7h false G55 (C9K) Try.f140 B4E B70 C17:=by
 rintro ⟨a0,⟨a1,⟨a2,_⟩⟩⟩ hp
 change B0v a0 a1 a2=true at hp
 unfold B0v at hp
 refine Eq.trans (b:=(let z1:=B54 a0 a1 a2;cond (z1.1==0) (some (C5S (z1.2))) none)) (by kernel_rfl) ?_
 exact (A7k hp fun _h=>rfl)
theorem C9X:aPP 140 (A2T B4E B70 C17):=pcD false G55 (hl1 (i:=0) (by kernel_rfl) C6O) C8p
noncomputable def S56:Tab:=Tab.add S55 140 (lift (A2T B4E B70 C17))
noncomputable def D2L:FuncId→Bool:=D2K
theorem G56:aPG S56 D2L:=G55.add C9X (cbl Try.f140) (by kernel_rfl)

abbrev Y5:SS:=⟨[.ptr 0 0 1 0,tI,.t false tq4,tI],[.box [tI,tI,tI,.t false tq2,.t false tq5,tI]]⟩
noncomputable def U4 (x1:Int) (x2:Lq1) (x3 p0 p1 p2:Int) (p3:LT1) (p4:LIbe) (p5:Int):Int×Int×Int×Bool×Int×Int×Int×LT1×LIbe×Int×Int×Int×Int×Bool×Lq1:=((1:Int),x3,x1,false,p0,p1,p2,p3,p4,p5,(1:Int),x3,x1,false,(C1k x2 x3 p0))
noncomputable abbrev B3H (r:Int×Int×Int×Bool×Int×Int×Int×LT1×LIbe×Int×Int×Int×Int×Bool×Lq1):AV×List AObj×List Nat:=((.agg [(ti r.1),(ti r.2.1),(ti r.2.2.1),(.all 2 3),(.t true .bool r.2.2.2.1)]),[(.box [(ti r.2.2.2.2.1),(ti r.2.2.2.2.2.1),(ti r.2.2.2.2.2.2.1),(.t false tq2 r.2.2.2.2.2.2.2.1),(.t false tq5 r.2.2.2.2.2.2.2.2.1),(ti r.2.2.2.2.2.2.2.2.2.1)]),(.box [(ti r.2.2.2.2.2.2.2.2.2.2.1),(ti r.2.2.2.2.2.2.2.2.2.2.2.1),(ti r.2.2.2.2.2.2.2.2.2.2.2.2.1),(.all 2 3),(.t true .bool r.2.2.2.2.2.2.2.2.2.2.2.2.2.1)]),(.rows 90 true tq8 r.2.2.2.2.2.2.2.2.2.2.2.2.2.2)],[])
noncomputable abbrev B3Q:Y5.den→AV×List AObj×List Nat:=fun d=>B3H (U4 d.1.2.1 d.1.2.2.1 d.1.2.2.2.1 d.2.1.1 d.2.1.2.1 d.2.1.2.2.1 d.2.1.2.2.2.1 d.2.1.2.2.2.2.1 d.2.1.2.2.2.2.2.1)
noncomputable def L8 (x1:Int) (x2:Lq1) (x3 p0 p1 p2:Int) (p3:LT1) (p4:LIbe) (p5:Int):Bool:=B0v x2 x3 p0
noncomputable abbrev B1M:Y5.den→Bool:=fun d=>L8 d.1.2.1 d.1.2.2.1 d.1.2.2.2.1 d.2.1.1 d.2.1.2.1 d.2.1.2.2.1 d.2.1.2.2.2.1 d.2.1.2.2.2.2.1 d.2.1.2.2.2.2.2.1
theorem B89:A7g G56 aLn Try.f111 Y5 B1M B3Q:=by
 rintro ⟨⟨_,x1,x2,x3,_⟩,⟨⟨p0,p1,p2,p3,p4,p5,_⟩,_⟩⟩ hp
 change L8 x1 x2 x3 p0 p1 p2 p3 p4 p5=true at hp
 unfold L8 at hp
 refine Eq.trans (b:=(cond (B0v x2 x3 p0) (some (B3H ((1:Int),x3,x1,false,p0,p1,p2,p3,p4,p5,(1:Int),x3,x1,false,(C1k x2 x3 p0)))) none)) (by kernel_rfl) ?_
 exact (A7k hp fun _h=>rfl)
noncomputable abbrev B3V:=win E5 (msum Y5 B1M B3Q)
theorem C06:aPM 111 B3V:=(mcM G56 hlz B89).win E5
noncomputable def S57:Tab:=Tab.add S56 111 (B3V)
noncomputable def D2M:FuncId→Bool:=D2L
theorem G57:aPG S57 D2M:=G56.addM C06 (A6S _) (cbl Try.f111) (by kernel_rfl)

abbrev D3l:List Sh:=.junk::D1m
abbrev D1V:List Sh:=.junk::.junk::.junk::.junk::.junk::.junk::.junk::.junk::.junk::.junk::D1U
abbrev u38:=((),u37)
abbrev u57:=((),(),(),(),(),(),u51)
abbrev D1j:List AV:=.junk::D1i
abbrev D1J:List AV:=.junk::.junk::.junk::.junk::.junk::.junk::.junk::.junk::.junk::.junk::D1H
abbrev D3W:List Sh:=.junk::.junk::.junk::.junk::.junk::.junk::D3p
abbrev u73:=((),(),(),(),(),(),(),(),(),(),u63)
abbrev D3K:List AV:=.junk::.junk::.junk::.junk::.junk::.junk::D3d
abbrev A7v:SS:=⟨[.ptr 0 0 1 0],[.box [tI,tI,tI,.t false tq2,.t false tq5,tI]]⟩
noncomputable def A7q:Code:=((D3 0 (A1f Try.f73)).getD 0 (0,.skip)).2
noncomputable def B0d:Code:=((D3 0 A7q).getD 0 (0,.skip)).2
abbrev K7:SS:=⟨(.ptr 0 0 1 0::.junk::.junk::.all 1 5::.junk::.ptr 2 0 1 0::.t true .bool::.t true .bool::.junk::.junk::.junk::.junk::.junk::.t false tq2::tI::tI::.junk::.junk::.junk::.junk::.junk::.junk::.junk::.junk::.junk::.junk::.junk::.junk::.junk::.junk::.junk::.junk::.t true M9::tI::tI::D3l),[.box [tI,tI,tI,.t false tq2,.t false tq5,tI],.deep 58 [90] tq3,.box [tI,.t false tq4,tI,.t false M9]]⟩
abbrev B0S:SS:=⟨(.ptr 0 0 1 0::.junk::.junk::.all 1 5::.junk::.junk::.junk::.junk::.junk::.junk::.junk::.junk::.junk::.t false tq2::tI::tI::D1V),[.box [tI,tI,tI,.t false tq2,.t false tq5,tI],.deep 58 [90] tq3]⟩
noncomputable def B1R (x6 x7:Bool) (x13:LT1) (x14 x15:Int) (x32:List Int) (x33 x34 p0 p1 p2:Int) (p3:LT1) (p4:LIbe) (p5:Int) (h1:LT2) (r0:Int) (r1:Lq1) (r2:Int) (r3:List Int):RT K7.den:=let z2:=x32.getD x34.toNat (0:Int);let z1:=U4 r0 r1 z2 p0 p1 p2 p3 p4 p5;(.br (decide (x34<x33)) (.br (decide (0≤x34∧x34<(x32.length:Int))) (.br x7 (.br (decide ((h1.length+([((3:Int),(x32.getD x34.toNat (0:Int),(r0,([],x6))))]:LT2).length)*56≤MAXB)) (.next (((),(),(),(),(),(),x6,x7,(),(),(),(),(),x13,x14,x15,(),(),(),(),(),(),(),(),(),(),(),(),(),(),(),(),x32,x33,wI (x34+(1:Int)),u38),((p0,p1,p2,p3,p4,p5,()),h1++([((3:Int),(x32.getD x34.toNat (0:Int),(r0,([],x6))))]),(r0,r1,r2,r3,()),()))) .fail) (.br (r2==(1:Int)) (.br (I7 r3 z2) (.br (!(J9 r3 z2)) (.br (L8 r0 r1 z2 p0 p1 p2 p3 p4 p5) (.br (decide ((h1.length+[((z1.1),((z1.2.1),((z1.2.2.1),((z1.2.2.2.2.2.2.2.2.2.2.2.2.2.2),(z1.2.2.2.1)))))].length)*56≤MAXB)) (.next (((),(),(),(),(),(),x6,x7,(),(),(),(),(),x13,x14,x15,(),(),(),(),(),(),(),(),(),(),(),(),(),(),(),(),x32,x33,wI (x34+(1:Int)),u38),(((z1.2.2.2.2.1),(z1.2.2.2.2.2.1),(z1.2.2.2.2.2.2.1),(z1.2.2.2.2.2.2.2.1),(z1.2.2.2.2.2.2.2.2.1),(z1.2.2.2.2.2.2.2.2.2.1),()),h1++[((z1.1),((z1.2.1),((z1.2.2.1),((z1.2.2.2.2.2.2.2.2.2.2.2.2.2.2),(z1.2.2.2.1)))))],(r0,r1,r2,r3,()),()))) .fail) .fail) (.next (((),(),(),(),(),(),x6,x7,(),(),(),(),(),x13,x14,x15,(),(),(),(),(),(),(),(),(),(),(),(),(),(),(),(),x32,x33,wI (x34+(1:Int)),u38),((p0,p1,p2,p3,p4,p5,()),h1,(r0,r1,r2,r3,()),())))) .fail) (.next (((),(),(),(),(),(),x6,x7,(),(),(),(),(),x13,x14,x15,(),(),(),(),(),(),(),(),(),(),(),(),(),(),(),(),x32,x33,wI (x34+(1:Int)),u38),((p0,p1,p2,p3,p4,p5,()),h1,(r0,r1,r2,r3,()),()))))) .fail) (.done (.exit 2) B0S (((),(),(),(),(),(),(),(),(),(),(),(),(),x13,x14,x15,u57),((p0,p1,p2,p3,p4,p5,()),h1,()))))
abbrev M4:=(Bool)×(Bool)×LT1×(Int)×(Int)×(List Int)×(Int)×(Int)×(Int)×(Int)×(Int)×LT1×LIbe×(Int)×LT2
abbrev N6:=Nat×LT1×(Int)×(Int)×(Int)×(Int)×(Int)×LT1×LIbe×(Int)×LT2
def L7:N6:=(99,([]:LT1),((0:Int):Int),((0:Int):Int),((0:Int):Int),((0:Int):Int),((0:Int):Int),([]:LT1),([]:LIbe),((0:Int):Int),([]:LT2))
noncomputable def Q3 (x6 x7:Bool) (x13:LT1) (x14 x15:Int) (x32:List Int) (x33 x34 p0 p1 p2:Int) (p3:LT1) (p4:LIbe) (p5:Int) (h1:LT2) (r0:Int) (r1:Lq1) (r2:Int) (r3:List Int):M4 ⊕ N6:=let z2:=x32.getD x34.toNat (0:Int);let z1:=U4 r0 r1 z2 p0 p1 p2 p3 p4 p5;(cond (decide (x34<x33)) (cond (decide (0≤x34∧x34<(x32.length:Int))) (cond x7 (cond (decide ((h1.length+([((3:Int),(x32.getD x34.toNat (0:Int),(r0,([],x6))))]:LT2).length)*56≤MAXB)) (.inl (x6,x7,x13,x14,x15,x32,x33,wI (x34+(1:Int)),p0,p1,p2,p3,p4,p5,h1++([((3:Int),(x32.getD x34.toNat (0:Int),(r0,([],x6))))]))) (.inr L7)) (cond (r2==(1:Int)) (cond (I7 r3 z2) (cond (!(J9 r3 z2)) (cond (L8 r0 r1 z2 p0 p1 p2 p3 p4 p5) (cond (decide ((h1.length+[((z1.1),((z1.2.1),((z1.2.2.1),((z1.2.2.2.2.2.2.2.2.2.2.2.2.2.2),(z1.2.2.2.1)))))].length)*56≤MAXB)) (.inl (x6,x7,x13,x14,x15,x32,x33,wI (x34+(1:Int)),(z1.2.2.2.2.1),(z1.2.2.2.2.2.1),(z1.2.2.2.2.2.2.1),(z1.2.2.2.2.2.2.2.1),(z1.2.2.2.2.2.2.2.2.1),(z1.2.2.2.2.2.2.2.2.2.1),h1++[((z1.1),((z1.2.1),((z1.2.2.1),((z1.2.2.2.2.2.2.2.2.2.2.2.2.2.2),(z1.2.2.2.1)))))])) (.inr L7)) (.inr L7)) (.inl (x6,x7,x13,x14,x15,x32,x33,wI (x34+(1:Int)),p0,p1,p2,p3,p4,p5,h1))) (.inr L7)) (.inl (x6,x7,x13,x14,x15,x32,x33,wI (x34+(1:Int)),p0,p1,p2,p3,p4,p5,h1)))) (.inr L7)) (.inr (0,x13,x14,x15,p0,p1,p2,p3,p4,p5,h1)))
noncomputable def A8n (x6 x7:Bool) (x13:LT1) (x14 x15:Int) (x32:List Int) (x33 x34 p0 p1 p2:Int) (p3:LT1) (p4:LIbe) (p5:Int) (h1:LT2) (r0:Int) (r1:Lq1) (r2:Int) (r3:List Int):N6:=itX (fun v:M4=>Q3 v.1 v.2.1 v.2.2.1 v.2.2.2.1 v.2.2.2.2.1 v.2.2.2.2.2.1 v.2.2.2.2.2.2.1 v.2.2.2.2.2.2.2.1 v.2.2.2.2.2.2.2.2.1 v.2.2.2.2.2.2.2.2.2.1 v.2.2.2.2.2.2.2.2.2.2.1 v.2.2.2.2.2.2.2.2.2.2.2.1 v.2.2.2.2.2.2.2.2.2.2.2.2.1 v.2.2.2.2.2.2.2.2.2.2.2.2.2.1 v.2.2.2.2.2.2.2.2.2.2.2.2.2.2 r0 r1 r2 r3) L7 (x6,x7,x13,x14,x15,x32,x33,x34,p0,p1,p2,p3,p4,p5,h1)
noncomputable def A8m (r0:Int) (r1:Lq1) (r2:Int) (r3:List Int) (a:N6):CT:=(.br (a.1==0) (.done (.exit 2) B0S (((),(),(),(),(),(),(),(),(),(),(),(),(),a.2.1,a.2.2.1,a.2.2.2.1,u57),((a.2.2.2.2.1,a.2.2.2.2.2.1,a.2.2.2.2.2.2.1,a.2.2.2.2.2.2.2.1,a.2.2.2.2.2.2.2.2.1,a.2.2.2.2.2.2.2.2.2.1,()),a.2.2.2.2.2.2.2.2.2.2,()))) .fail)
noncomputable def B97 (x6 x7:Bool) (x13:LT1) (x14 x15:Int) (x32:List Int) (x33 x34 p0 p1 p2:Int) (p3:LT1) (p4:LIbe) (p5:Int) (h1:LT2) (r0:Int) (r1:Lq1) (r2:Int) (r3:List Int):CT:=(A8m r0 r1 r2 r3) (A8n x6 x7 x13 x14 x15 x32 x33 x34 p0 p1 p2 p3 p4 p5 h1 r0 r1 r2 r3)
noncomputable abbrev W7 {α:Sort _} (f:Bool→Bool→LT1→Int→Int→(List Int)→Int→Int→Int→Int→Int→LT1→LIbe→Int→LT2→Int→Lq1→Int→(List Int)→α) (d:K7.den):α:=f d.1.2.2.2.2.2.2.1 d.1.2.2.2.2.2.2.2.1 d.1.2.2.2.2.2.2.2.2.2.2.2.2.2.1 d.1.2.2.2.2.2.2.2.2.2.2.2.2.2.2.1 d.1.2.2.2.2.2.2.2.2.2.2.2.2.2.2.2.1 d.1.2.2.2.2.2.2.2.2.2.2.2.2.2.2.2.2.2.2.2.2.2.2.2.2.2.2.2.2.2.2.2.2.1 d.1.2.2.2.2.2.2.2.2.2.2.2.2.2.2.2.2.2.2.2.2.2.2.2.2.2.2.2.2.2.2.2.2.2.1 d.1.2.2.2.2.2.2.2.2.2.2.2.2.2.2.2.2.2.2.2.2.2.2.2.2.2.2.2.2.2.2.2.2.2.2.1 d.2.1.1 d.2.1.2.1 d.2.1.2.2.1 d.2.1.2.2.2.1 d.2.1.2.2.2.2.1 d.2.1.2.2.2.2.2.1 d.2.2.1 d.2.2.2.1.1 d.2.2.2.1.2.1 d.2.2.2.1.2.2.1 d.2.2.2.1.2.2.2.1
noncomputable abbrev A8p:K7.den→RT K7.den:=(W7 B1R)
noncomputable abbrev B1P (r0:Int) (r1:Lq1) (r2:Int) (r3:List Int) (v:M4):K7.den:=(((),(),(),(),(),(),v.1,v.2.1,(),(),(),(),(),v.2.2.1,v.2.2.2.1,v.2.2.2.2.1,(),(),(),(),(),(),(),(),(),(),(),(),(),(),(),(),v.2.2.2.2.2.1,v.2.2.2.2.2.2.1,v.2.2.2.2.2.2.2.1,u38),((v.2.2.2.2.2.2.2.2.1,v.2.2.2.2.2.2.2.2.2.1,v.2.2.2.2.2.2.2.2.2.2.1,v.2.2.2.2.2.2.2.2.2.2.2.1,v.2.2.2.2.2.2.2.2.2.2.2.2.1,v.2.2.2.2.2.2.2.2.2.2.2.2.2.1,()),v.2.2.2.2.2.2.2.2.2.2.2.2.2.2,(r0,r1,r2,r3,()),()))
theorem B87 (r0:Int) (r1:Lq1) (r2:Int) (r3:List Int):(∀ v:M4,(B1R v.1 v.2.1 v.2.2.1 v.2.2.2.1 v.2.2.2.2.1 v.2.2.2.2.2.1 v.2.2.2.2.2.2.1 v.2.2.2.2.2.2.2.1 v.2.2.2.2.2.2.2.2.1 v.2.2.2.2.2.2.2.2.2.1 v.2.2.2.2.2.2.2.2.2.2.1 v.2.2.2.2.2.2.2.2.2.2.2.1 v.2.2.2.2.2.2.2.2.2.2.2.2.1 v.2.2.2.2.2.2.2.2.2.2.2.2.2.1 v.2.2.2.2.2.2.2.2.2.2.2.2.2.2 r0 r1 r2 r3).val=A6l (B1P r0 r1 r2 r3) (A8m r0 r1 r2 r3) (Q3 v.1 v.2.1 v.2.2.1 v.2.2.2.1 v.2.2.2.2.1 v.2.2.2.2.2.1 v.2.2.2.2.2.2.1 v.2.2.2.2.2.2.2.1 v.2.2.2.2.2.2.2.2.1 v.2.2.2.2.2.2.2.2.2.1 v.2.2.2.2.2.2.2.2.2.2.1 v.2.2.2.2.2.2.2.2.2.2.2.1 v.2.2.2.2.2.2.2.2.2.2.2.2.1 v.2.2.2.2.2.2.2.2.2.2.2.2.2.1 v.2.2.2.2.2.2.2.2.2.2.2.2.2.2 r0 r1 r2 r3))∧∀ a:N6,CEnd K7.den ((A8m r0 r1 r2 r3) a):=⟨fun v=>by repeat' first | apply A7m | rfl,fun a=>(A7a aCD A7c)⟩
noncomputable def B1K (x6 x7:Bool) (x13:LT1) (x14 x15:Int) (x32:List Int) (x33 x34 p0 p1 p2:Int) (p3:LT1) (p4:LIbe) (p5:Int) (h1:LT2) (r0:Int) (r1:Lq1) (r2:Int) (r3:List Int):Option (Ex×St):=let z3:=x32.getD x34.toNat (0:Int);let z1:=U4 r0 r1 z3 p0 p1 p2 p3 p4 p5;let z4:=ti (wI (x34+(1:Int)));let z2:=(⟨((.ptr 0 0 1 0)::.junk::.junk::(.all 1 5)::.junk::(.ptr 2 0 1 0)::(.t true .bool x6)::(.t true .bool x7)::.junk::.junk::.junk::.junk::.junk::(.t false tq2 x13)::(ti x14)::(ti x15)::.junk::.junk::.junk::.junk::.junk::.junk::.junk::.junk::.junk::.junk::.junk::.junk::.junk::.junk::.junk::.junk::(.t true M9 x32)::(ti x33)::z4::D1j),[(.box [(ti p0),(ti p1),(ti p2),(.t false tq2 p3),(.t false tq5 p4),(ti p5)]),(.deep 58 [90] tq3 h1),(.box [(ti r0),(.t false tq4 r1),(ti r2),(.t false M9 r3)])],1,[]⟩:St);(cond (decide (x34<x33)) (cond (decide (0≤x34∧x34<(x32.length:Int))) (cond x7 (cond (decide ((h1.length+([((3:Int),(x32.getD x34.toNat (0:Int),(r0,([],x6))))]:LT2).length)*56≤MAXB)) (some (.normal,(⟨((.ptr 0 0 1 0)::.junk::.junk::(.all 1 5)::.junk::(.ptr 2 0 1 0)::(.t true .bool x6)::(.t true .bool x7)::.junk::.junk::.junk::.junk::.junk::(.t false tq2 x13)::(ti x14)::(ti x15)::.junk::.junk::.junk::.junk::.junk::.junk::.junk::.junk::.junk::.junk::.junk::.junk::.junk::.junk::.junk::.junk::(.t true M9 x32)::(ti x33)::z4::D1j),[(.box [(ti p0),(ti p1),(ti p2),(.t false tq2 p3),(.t false tq5 p4),(ti p5)]),(.deep 58 [90] tq3 (h1++([((3:Int),(x32.getD x34.toNat (0:Int),(r0,([],x6))))]))),(.box [(ti r0),(.t false tq4 r1),(ti r2),(.t false M9 r3)])],1,[]⟩:St))) none) (cond (r2==(1:Int)) (cond (I7 r3 z3) (cond (!(J9 r3 z3)) (cond (L8 r0 r1 z3 p0 p1 p2 p3 p4 p5) (cond (decide ((h1.length+[((z1.1),((z1.2.1),((z1.2.2.1),((z1.2.2.2.2.2.2.2.2.2.2.2.2.2.2),(z1.2.2.2.1)))))].length)*56≤MAXB)) (some (.normal,(⟨((.ptr 0 0 1 0)::.junk::.junk::(.all 1 5)::.junk::(.ptr 2 0 1 0)::(.t true .bool x6)::(.t true .bool x7)::.junk::.junk::.junk::.junk::.junk::(.t false tq2 x13)::(ti x14)::(ti x15)::.junk::.junk::.junk::.junk::.junk::.junk::.junk::.junk::.junk::.junk::.junk::.junk::.junk::.junk::.junk::.junk::(.t true M9 x32)::(ti x33)::z4::D1j),[(.box [(ti (z1.2.2.2.2.1)),(ti (z1.2.2.2.2.2.1)),(ti (z1.2.2.2.2.2.2.1)),(.t false tq2 (z1.2.2.2.2.2.2.2.1)),(.t false tq5 (z1.2.2.2.2.2.2.2.2.1)),(ti (z1.2.2.2.2.2.2.2.2.2.1))]),(.deep 58 [90] tq3 (h1++[((z1.1),((z1.2.1),((z1.2.2.1),((z1.2.2.2.2.2.2.2.2.2.2.2.2.2.2),(z1.2.2.2.1)))))])),(.box [(ti r0),(.t false tq4 r1),(ti r2),(.t false M9 r3)])],1,[]⟩:St))) none) none) (some (.normal,z2))) none) (some (.normal,z2)))) none) (some ((.exit 2),(⟨((.ptr 0 0 1 0)::.junk::.junk::(.all 1 5)::.junk::.junk::.junk::.junk::.junk::.junk::.junk::.junk::.junk::(.t false tq2 x13)::(ti x14)::(ti x15)::D1J),[(.box [(ti p0),(ti p1),(ti p2),(.t false tq2 p3),(.t false tq5 p4),(ti p5)]),(.deep 58 [90] tq3 h1)],1,[]⟩:St))))
theorem B8m:RdA (G57.deep ow) aLn 2 B0d K7 1 [] (kepts [] [(2,[0,3,13,14,15])]) (W7 B1K):=by
 intro d
 kernel_rfl
theorem B8o:∀ d:K7.den,(W7 B1K) d=(A8p d).opt 1 []:=by
 intro d
 kernel_rfl
noncomputable abbrev B1d:St→Option Tree:=K7.say 1 [] [(3,900000058,tq3)] (W7 B97)
theorem B85:aPL B1d B0d:=SS.wp2 hlz [(3,900000058,tq3)] A8p B8m B8o _ (fun d=>Runs.ofI2 (step:=A8p) (B1P d.2.2.2.1.1 d.2.2.2.1.2.1 d.2.2.2.1.2.2.1 d.2.2.2.1.2.2.2.1) (B87 d.2.2.2.1.1 d.2.2.2.1.2.1 d.2.2.2.1.2.2.1 d.2.2.2.1.2.2.2.1) rfl (d.1.2.2.2.2.2.2.1,d.1.2.2.2.2.2.2.2.1,d.1.2.2.2.2.2.2.2.2.2.2.2.2.2.1,d.1.2.2.2.2.2.2.2.2.2.2.2.2.2.2.1,d.1.2.2.2.2.2.2.2.2.2.2.2.2.2.2.2.1,d.1.2.2.2.2.2.2.2.2.2.2.2.2.2.2.2.2.2.2.2.2.2.2.2.2.2.2.2.2.2.2.2.2.1,d.1.2.2.2.2.2.2.2.2.2.2.2.2.2.2.2.2.2.2.2.2.2.2.2.2.2.2.2.2.2.2.2.2.2.1,d.1.2.2.2.2.2.2.2.2.2.2.2.2.2.2.2.2.2.2.2.2.2.2.2.2.2.2.2.2.2.2.2.2.2.2.1,d.2.1.1,d.2.1.2.1,d.2.1.2.2.1,d.2.1.2.2.2.1,d.2.1.2.2.2.2.1,d.2.1.2.2.2.2.2.1,d.2.2.1))
abbrev K6:SS:=⟨(.ptr 0 0 1 0::.junk::.junk::.all 1 5::.junk::.junk::.junk::.junk::.junk::.junk::.junk::.junk::.junk::.t false tq2::tI::tI::D1V),[.box [tI,tI,tI,.t false tq2,.t false tq5,tI],.deep 58 [90] tq3]⟩
abbrev B0R:SS:=⟨(.junk::.junk::.junk::.all 1 5::D3W),[.box [tI,tI,tI,.t false tq2,.t false tq5,tI],.deep 58 [90] tq3]⟩
noncomputable def A9S (x13:LT1) (x15 p0 p1 p2:Int) (p3:LT1) (p4:LIbe) (p5:Int):=A0m ((x13.getD x15.toNat ((0:Int),([],((0:Int),[])))).1) p0 p1 p2 p3 p4 p5
noncomputable def V6 (x13:LT1) (x14 x15 p0 p1 p2:Int) (p3:LT1) (p4:LIbe) (p5:Int) (h1:LT2):=let z1:=x13.getD x15.toNat ((0:Int),([],((0:Int),[])));let z2:=A9S x13 x15 p0 p1 p2 p3 p4 p5;let z3:=B0q ((z1.2).1) p0;A8n (z2.1) (z2.2) x13 x14 x15 z3 ((z3.length:Nat):Int) (0:Int) p0 p1 p2 p3 p4 p5 h1 (z1.1) ((z1.2).1) (((z1.2).2).1) (((z1.2).2).2)
noncomputable def B1Q (x13:LT1) (x14 x15 p0 p1 p2:Int) (p3:LT1) (p4:LIbe) (p5:Int) (h1:LT2):RT K6.den:=let z1:=V6 x13 x14 x15 p0 p1 p2 p3 p4 p5 h1;let z2:=x13.getD x15.toNat ((0:Int),([],((0:Int),[])));(.br (decide (x15<x14)) (.br (decide (0≤x15∧x15<(x13.length:Int))) (.br (L3 (z2.1) p0 p1 p2 p3 p4 p5) (.br (P1 ((z2.2).1) p0) (.br (z1.1==0) (.next (((),(),(),(),(),(),(),(),(),(),(),(),(),(z1.2.1),(z1.2.2.1),wI ((z1.2.2.2.1)+(1:Int)),u57),(((z1.2.2.2.2.1),(z1.2.2.2.2.2.1),(z1.2.2.2.2.2.2.1),(z1.2.2.2.2.2.2.2.1),(z1.2.2.2.2.2.2.2.2.1),(z1.2.2.2.2.2.2.2.2.2.1),()),(z1.2.2.2.2.2.2.2.2.2.2),()))) .fail) .fail) .fail) .fail) (.done (.exit 0) B0R ((u73),((p0,p1,p2,p3,p4,p5,()),h1,()))))
abbrev T1:=LT1×(Int)×(Int)×(Int)×(Int)×(Int)×LT1×LIbe×(Int)×LT2
abbrev R7:=Nat×(Int)×(Int)×(Int)×LT1×LIbe×(Int)×LT2
def M8:R7:=(99,((0:Int):Int),((0:Int):Int),((0:Int):Int),([]:LT1),([]:LIbe),((0:Int):Int),([]:LT2))
noncomputable def Q2 (x13:LT1) (x14 x15 p0 p1 p2:Int) (p3:LT1) (p4:LIbe) (p5:Int) (h1:LT2):T1 ⊕ R7:=let z1:=V6 x13 x14 x15 p0 p1 p2 p3 p4 p5 h1;let z2:=x13.getD x15.toNat ((0:Int),([],((0:Int),[])));(cond (decide (x15<x14)) (cond (decide (0≤x15∧x15<(x13.length:Int))) (cond (L3 (z2.1) p0 p1 p2 p3 p4 p5) (cond (P1 ((z2.2).1) p0) (cond (z1.1==0) (.inl ((z1.2.1),(z1.2.2.1),wI ((z1.2.2.2.1)+(1:Int)),(z1.2.2.2.2.1),(z1.2.2.2.2.2.1),(z1.2.2.2.2.2.2.1),(z1.2.2.2.2.2.2.2.1),(z1.2.2.2.2.2.2.2.2.1),(z1.2.2.2.2.2.2.2.2.2.1),(z1.2.2.2.2.2.2.2.2.2.2))) (.inr M8)) (.inr M8)) (.inr M8)) (.inr M8)) (.inr (0,p0,p1,p2,p3,p4,p5,h1)))
noncomputable def B1H (x13:LT1) (x14 x15 p0 p1 p2:Int) (p3:LT1) (p4:LIbe) (p5:Int) (h1:LT2):R7:=itX (fun v:T1=>Q2 v.1 v.2.1 v.2.2.1 v.2.2.2.1 v.2.2.2.2.1 v.2.2.2.2.2.1 v.2.2.2.2.2.2.1 v.2.2.2.2.2.2.2.1 v.2.2.2.2.2.2.2.2.1 v.2.2.2.2.2.2.2.2.2) M8 (x13,x14,x15,p0,p1,p2,p3,p4,p5,h1)
noncomputable def A8l (a:R7):CT:=(.br (a.1==0) (.done (.exit 0) B0R ((u73),((a.2.1,a.2.2.1,a.2.2.2.1,a.2.2.2.2.1,a.2.2.2.2.2.1,a.2.2.2.2.2.2.1,()),a.2.2.2.2.2.2.2,()))) .fail)
noncomputable def B96 (x13:LT1) (x14 x15 p0 p1 p2:Int) (p3:LT1) (p4:LIbe) (p5:Int) (h1:LT2):CT:=A8l (B1H x13 x14 x15 p0 p1 p2 p3 p4 p5 h1)
noncomputable abbrev W6 {α:Sort _} (f:LT1→Int→Int→Int→Int→Int→LT1→LIbe→Int→LT2→α) (d:K6.den):α:=f d.1.2.2.2.2.2.2.2.2.2.2.2.2.2.1 d.1.2.2.2.2.2.2.2.2.2.2.2.2.2.2.1 d.1.2.2.2.2.2.2.2.2.2.2.2.2.2.2.2.1 d.2.1.1 d.2.1.2.1 d.2.1.2.2.1 d.2.1.2.2.2.1 d.2.1.2.2.2.2.1 d.2.1.2.2.2.2.2.1 d.2.2.1
noncomputable abbrev A8o:K6.den→RT K6.den:=(W6 B1Q)
noncomputable abbrev B1O (v:T1):K6.den:=(((),(),(),(),(),(),(),(),(),(),(),(),(),v.1,v.2.1,v.2.2.1,u57),((v.2.2.2.1,v.2.2.2.2.1,v.2.2.2.2.2.1,v.2.2.2.2.2.2.1,v.2.2.2.2.2.2.2.1,v.2.2.2.2.2.2.2.2.1,()),v.2.2.2.2.2.2.2.2.2,()))
theorem B86:(∀ v:T1,(B1Q v.1 v.2.1 v.2.2.1 v.2.2.2.1 v.2.2.2.2.1 v.2.2.2.2.2.1 v.2.2.2.2.2.2.1 v.2.2.2.2.2.2.2.1 v.2.2.2.2.2.2.2.2.1 v.2.2.2.2.2.2.2.2.2).val=A6l B1O A8l (Q2 v.1 v.2.1 v.2.2.1 v.2.2.2.1 v.2.2.2.2.1 v.2.2.2.2.2.1 v.2.2.2.2.2.2.1 v.2.2.2.2.2.2.2.1 v.2.2.2.2.2.2.2.2.1 v.2.2.2.2.2.2.2.2.2))∧∀ a:R7,CEnd K6.den (A8l a):=⟨fun v=>(A7m (A7m (A7m (A7m (A7m rfl rfl) rfl) rfl) rfl) rfl),fun a=>(A7a aCD A7c)⟩
noncomputable abbrev B94:Nat→St→Option Tree:=fun b=>match b with | 2=>B1d | _=>fun _=>none
noncomputable def B1J (x13:LT1) (x14 x15 p0 p1 p2:Int) (p3:LT1) (p4:LIbe) (p5:Int) (h1:LT2):Option (Ex×St):=let z1:=V6 x13 x14 x15 p0 p1 p2 p3 p4 p5 h1;let z2:=x13.getD x15.toNat ((0:Int),([],((0:Int),[])));(cond (decide (x15<x14)) (cond (decide (0≤x15∧x15<(x13.length:Int))) (cond (L3 (z2.1) p0 p1 p2 p3 p4 p5) (cond (P1 ((z2.2).1) p0) (cond (z1.1==0) (some (.normal,(⟨((.ptr 0 0 1 0)::.junk::.junk::(.all 1 5)::.junk::.junk::.junk::.junk::.junk::.junk::.junk::.junk::.junk::(.t false tq2 (z1.2.1))::(ti (z1.2.2.1))::(ti (wI ((z1.2.2.2.1)+(1:Int))))::D1J),[(.box [(ti (z1.2.2.2.2.1)),(ti (z1.2.2.2.2.2.1)),(ti (z1.2.2.2.2.2.2.1)),(.t false tq2 (z1.2.2.2.2.2.2.2.1)),(.t false tq5 (z1.2.2.2.2.2.2.2.2.1)),(ti (z1.2.2.2.2.2.2.2.2.2.1))]),(.deep 58 [90] tq3 (z1.2.2.2.2.2.2.2.2.2.2))],1,[]⟩:St))) none) none) none) none) (some ((.exit 0),(⟨(.junk::.junk::.junk::(.all 1 5)::D3K),[(.box [(ti p0),(ti p1),(ti p2),(.t false tq2 p3),(.t false tq5 p4),(ti p5)]),(.deep 58 [90] tq3 h1)],1,[]⟩:St))))
theorem B8l:RdA (G57.deep ow) (B94) 0 A7q K6 1 [] (kepts [] [(0,[3])]) (W6 B1J):=by
 intro d
 kernel_rfl
theorem B8n:∀ d:K6.den,(W6 B1J) d=(A8o d).opt 1 []:=by
 intro d
 kernel_rfl
noncomputable abbrev B1c:St→Option Tree:=K6.say 1 [] [(3,900000058,tq3)] (W6 B96)
theorem B84:aPL B1c A7q:=SS.wp2 (hl1 (i:=2) (by kernel_rfl) B85) [(3,900000058,tq3)] A8o B8l B8n _ (fun d=>Runs.ofI2 (step:=A8o) B1O B86 rfl (d.1.2.2.2.2.2.2.2.2.2.2.2.2.2.1,d.1.2.2.2.2.2.2.2.2.2.2.2.2.2.2.1,d.1.2.2.2.2.2.2.2.2.2.2.2.2.2.2.2.1,d.2.1.1,d.2.1.2.1,d.2.1.2.2.1,d.2.1.2.2.2.1,d.2.1.2.2.2.2.1,d.2.1.2.2.2.2.2.1,d.2.2.1))
noncomputable def A7y (p0 p1 p2:Int) (p3:LT1) (p4:LIbe) (p5:Int):=B1H p3 (p3.length:Int) (0:Int) p0 p1 p2 p3 p4 p5 ([]:LT2)
noncomputable def A7S (p0 p1 p2:Int) (p3:LT1) (p4:LIbe) (p5:Int):Int×Int×Int×LT1×LIbe×Int×LT2:=let z1:=A7y p0 p1 p2 p3 p4 p5;((z1.2.1),(z1.2.2.1),(z1.2.2.2.1),(z1.2.2.2.2.1),(z1.2.2.2.2.2.1),(z1.2.2.2.2.2.2.1),(z1.2.2.2.2.2.2.2))
noncomputable abbrev B40 (r:Int×Int×Int×LT1×LIbe×Int×LT2):AV×List AObj×List Nat:=((.all 1 5),[(.box [(ti r.1),(ti r.2.1),(ti r.2.2.1),(.t false tq2 r.2.2.2.1),(.t false tq5 r.2.2.2.2.1),(ti r.2.2.2.2.2.1)]),(.deep 58 [90] tq3 r.2.2.2.2.2.2)],[])
noncomputable abbrev B44:A7v.den→AV×List AObj×List Nat:=fun d=>B40 (A7S d.2.1.1 d.2.1.2.1 d.2.1.2.2.1 d.2.1.2.2.2.1 d.2.1.2.2.2.2.1 d.2.1.2.2.2.2.2.1)
noncomputable def N9 (p0 p1 p2:Int) (p3:LT1) (p4:LIbe) (p5:Int):Bool:=((A7y p0 p1 p2 p3 p4 p5).1==0)
noncomputable abbrev B28:A7v.den→Bool:=fun d=>N9 d.2.1.1 d.2.1.2.1 d.2.1.2.2.1 d.2.1.2.2.2.1 d.2.1.2.2.2.2.1 d.2.1.2.2.2.2.2.1
noncomputable abbrev C11:Nat→St→Option Tree:=fun b=>match b with | 0=>B1c | _=>fun _=>none
theorem C0F:A7g (G57.deep ow) (C11) Try.f73 A7v B28 B44:=by
 rintro ⟨⟨_,_⟩,⟨⟨p0,p1,p2,p3,p4,p5,_⟩,_⟩⟩ hp
 change N9 p0 p1 p2 p3 p4 p5=true at hp
 unfold N9 at hp
 refine Eq.trans (b:=(let z1:=A7y p0 p1 p2 p3 p4 p5;cond (z1.1==0) (some (B40 ((z1.2.1),(z1.2.2.1),(z1.2.2.2.1),(z1.2.2.2.2.1),(z1.2.2.2.2.2.1),(z1.2.2.2.2.2.2.1),(z1.2.2.2.2.2.2.2)))) none)) (by kernel_rfl) ?_
 exact (A7k hp fun _h=>rfl)
noncomputable abbrev B5a:=win E5 (msum A7v B28 B44)
theorem C15:aPM 73 B5a:=(mcM (G57.deep ow) (hl1 (i:=0) (by kernel_rfl) B84) C0F).win E5
noncomputable def S58:Tab:=Tab.add S57 73 (B5a)
noncomputable def D2N:FuncId→Bool:=D2M
theorem G58:aPG S58 D2N:=G57.addM C15 (A6S _) (cbl Try.f73) (by kernel_rfl)

abbrev B2x:List PSh:=[.agg [(.int .i64),(.int .i64),(.int .i64),tq2,tq5,(.int .i64)]]
noncomputable def B7Q (a0 a1 a2:Int) (a3:LT1) (a4:LIbe) (a5:Int):LT2:=(cond (!(B07 a0 a1 a2 a3 a4 a5)) ([]:LT2) ((A7S a0 a1 a2 a3 a4 a5).2.2.2.2.2.2))
noncomputable abbrev B5J (r:LT2):AV×List AObj:=((.all 0 5),[(.deep 58 [90] tq3 r)])
noncomputable abbrev C0f:H5 B2x→AV×List AObj:=fun d=>B5J (B7Q d.1.1 d.1.2.1 d.1.2.2.1 d.1.2.2.2.1 d.1.2.2.2.2.1 d.1.2.2.2.2.2.1)
noncomputable def A70 (a0 a1 a2:Int) (a3:LT1) (a4:LIbe) (a5:Int):Bool:=(Z4 a0 a1 a2 a3 a4 a5)&&(cond (!(B07 a0 a1 a2 a3 a4 a5)) true (N9 a0 a1 a2 a3 a4 a5))
noncomputable abbrev B6b:H5 B2x→Bool:=fun d=>A70 d.1.1 d.1.2.1 d.1.2.2.1 d.1.2.2.2.1 d.1.2.2.2.2.1 d.1.2.2.2.2.2.1
theorem C7g:A7h false (G58.deep ow) aLn Try.f31 B2x B6b C0f:=by
 rintro ⟨⟨a0,⟨a1,⟨a2,⟨a3,⟨a4,⟨a5,_⟩⟩⟩⟩⟩⟩,_⟩ hp
 change A70 a0 a1 a2 a3 a4 a5=true at hp
 unfold A70 at hp
 refine Eq.trans (b:=(cond (Z4 a0 a1 a2 a3 a4 a5) (cond (!(B07 a0 a1 a2 a3 a4 a5)) (some (B5J ([]:LT2))) (cond (N9 a0 a1 a2 a3 a4 a5) (some (B5J ((A7S a0 a1 a2 a3 a4 a5).2.2.2.2.2.2))) none)) none)) (by kernel_rfl) ?_
 exact (A7i hp fun hp=>(K8 B5J hp (fun hp=>rfl) (fun hp=>(A7k hp fun _h=>rfl))))
theorem C8X:aPP 31 (A2T B2x B6b C0f):=pcD false (G58.deep ow) hlz C7g
noncomputable def S59:Tab:=Tab.add S58 31 (lift (A2T B2x B6b C0f))
noncomputable def D2O:FuncId→Bool:=D2N
theorem G59:aPG S59 D2O:=G58.add C8X (cbl Try.f31) (by kernel_rfl)

abbrev C0W:List PSh:=[.agg [(.int .i64),.str,.str],.agg [(.int .i64),.str,.str]]
noncomputable def C5W (a0:Int) (a1 a2:ByteArray) (a3:Int) (a4 a5:ByteArray):Bool:=(cond (a0 != a3) false (cond (!(a1.toList==a4.toList)) false (cond (!(a2.toList==a5.toList)) false true)))
noncomputable abbrev B3I (r:Bool):AV×List AObj:=((.t true .bool r),[])
noncomputable abbrev C6x:H5 C0W→AV×List AObj:=fun d=>B3I (C5W d.1.1 d.1.2.1 d.1.2.2.1 d.2.1.1 d.2.1.2.1 d.2.1.2.2.1)
noncomputable abbrev C2o:H5 C0W→Bool:=fun d=>true
theorem D0i:A7h true G59 aLn Try.f142 C0W C2o C6x:=by
 rintro ⟨⟨a0,⟨a1,⟨a2,_⟩⟩⟩,⟨⟨a3,⟨a4,⟨a5,_⟩⟩⟩,_⟩⟩ hp
 refine Eq.trans (b:=(cond (a0 != a3) (some (B3I false)) (cond (!(a1.toList==a4.toList)) (some (B3I false)) (cond (!(a2.toList==a5.toList)) (some (B3I false)) (some (B3I true)))))) (by kernel_rfl) ?_
 exact (N4 B3I (fun _h=>rfl) (fun _h=>(N4 B3I (fun _h=>rfl) (fun _h=>(N4 B3I (fun _h=>rfl) (fun _h=>rfl))))))
theorem D05:aPP 142 (A2T C0W C2o C6x):=pcD true G59 hlz D0i
noncomputable def S60:Tab:=Tab.add S59 142 (lift (A2T C0W C2o C6x))
noncomputable def D2P:FuncId→Bool:=qadd D2O 142
theorem G60:aPG S60 D2P:=G59.addQ D05 (cbl Try.f142) (fun _=>rfl)


noncomputable def A8R (x0 x1:Lq1) (i:Nat):Bool:=!(!(C5W ((x0.getD i ((0:Int),(bE,bE))).1) (((x0.getD i ((0:Int),(bE,bE))).2).1) (((x0.getD i ((0:Int),(bE,bE))).2).2) ((x1.getD i ((0:Int),(bE,bE))).1) (((x1.getD i ((0:Int),(bE,bE))).2).1) (((x1.getD i ((0:Int),(bE,bE))).2).2)))
abbrev B7j:List PSh:=[.t tq4,.t tq4]
abbrev A8M:SS:=⟨(.t false tq4::.t false tq4::.junk::.junk::.junk::tI::C5h),[]⟩
abbrev C0N:SS:=⟨(.junk::.junk::.junk::.junk::.t true .bool::C79),[]⟩
abbrev C0O:SS:=⟨(.junk::C5i),[]⟩
noncomputable def B8E (x0 x1:Lq1) (x5:Int):RT A8M.den:=let z1:=x0.getD x5.toNat ((0:Int),(bE,bE));let z2:=x1.getD x5.toNat ((0:Int),(bE,bE));(.br (decide (x5<(x0.length:Int))) (.br (decide (0≤x5∧x5<(x0.length:Int))) (.br (decide (0≤x5∧x5<(x1.length:Int))) (.br (!(C5W (z1.1) ((z1.2).1) ((z1.2).2) (z2.1) ((z2.2).1) ((z2.2).2))) (.done .ret C0N (((),(),(),(),false,u23),())) (.next ((x0,x1,(),(),(),wI (x5+(1:Int)),u22),()))) .fail) .fail) (.done (.exit 0) C0O ((u28),())))
noncomputable def B2I (x0 x1:Lq1) (x5:Int):CT:=(.br (decide (0≤x5)&&(decide (x0.length=x1.length)&&okL x0)) (.br (A4x (A8R x0 x1) (x0.length - x5.toNat) x5.toNat) (.done (.exit 0) C0O ((u28),())) (.done .ret C0N (((),(),(),(),false,u23),()))) .fail)
noncomputable abbrev B1g:A8M.den→RT A8M.den:=(fun d=>B8E d.1.1 d.1.2.1 d.1.2.2.2.2.2.1)
noncomputable abbrev C23 (x0 x1:Lq1) (x5:Int):A8M.den:=((x0,x1,(),(),(),x5,u22),())
noncomputable def B9p:Code:=((D3 0 (A1f Try.f116)).getD 0 (0,.skip)).2
theorem C8L (x0 x1:Lq1) (x5:Int):(B2I x0 x1 x5).val (D:=A8M.den)=.fail∨Runs B1g (C23 x0 x1 x5) (B2I x0 x1 x5).val:=by
 cases hc:(decide (0≤x5)&&(decide (x0.length=x1.length)&&okL x0)) with
 | false=>left;simp only [B2I,CT.val,hc,cond_false]
 | true =>
  right
  simp only [B2I,CT.val,hc,cond_true]
  simp only [Bool.and_eq_true,decide_eq_true_eq] at hc
  obtain ⟨i,rfl⟩:=Int.eq_ofNat_of_zero_le hc.1
  have hs:=A66 hc.2.2
  simp only [Int.toNat_natCast]
  refine Runs.scan (fun j=>C23 x0 x1 (j:Int)) (x0.length) (A8R x0 x1) (fun i hi=>?_) (fun i hi=>?_) ⟨_,_,_,rfl,by simp⟩ ⟨_,_,_,rfl,by simp⟩ _ _ rfl
  ·
   have h0a:decide ((i:Int)<(x0.length:Int))=true:=decide_eq_true (by omega)
   have h0b:decide (0≤(i:Int)∧(i:Int)<(x0.length:Int))=true:=decide_eq_true (by omega)
   simp only [B1g,B8E,RT.val,h0a,h0b,cond_true,A7e i (by omega),Int.toNat_natCast]
   have h9:decide (0≤(i:Int)∧(i:Int)<(x1.length:Int))=true:=decide_eq_true (by omega)
   simp only [h9,cond_true]
   simp only [A8R]
   generalize (!(C5W ((x0.getD i ((0:Int),((⟨#[]⟩:ByteArray),(⟨#[]⟩:ByteArray)))).1) (((x0.getD i ((0:Int),((⟨#[]⟩:ByteArray),(⟨#[]⟩:ByteArray)))).2).1) (((x0.getD i ((0:Int),((⟨#[]⟩:ByteArray),(⟨#[]⟩:ByteArray)))).2).2) ((x1.getD i ((0:Int),((⟨#[]⟩:ByteArray),(⟨#[]⟩:ByteArray)))).1) (((x1.getD i ((0:Int),((⟨#[]⟩:ByteArray),(⟨#[]⟩:ByteArray)))).2).1) (((x1.getD i ((0:Int),((⟨#[]⟩:ByteArray),(⟨#[]⟩:ByteArray)))).2).2)))=c
   cases c<;>rfl
  ·have h1:decide ((i:Int)<(x0.length:Int))=false:=decide_eq_false (by omega)
   simp only [B1g,B8E,RT.val,h1,cond_false]
theorem C6Y:RdA G60 aLn 0 B9p A8M 0 [] (kepts [4] [(0,[])]) (fun d=>(B1g d).opt 0 []):=by
 intro d
 kernel_rfl
noncomputable abbrev C1N:St→Option Tree:=A8M.say 0 [] [] (fun d=>B2I d.1.1 d.1.2.1 d.1.2.2.2.2.2.1)
theorem C8d:aPL C1N B9p:=SS.wp2 hlz [] B1g C6Y (fun d=>rfl) _ (fun d=>C8L d.1.1 d.1.2.1 d.1.2.2.2.2.2.1)
noncomputable def B7S (a0 a1:Lq1):Bool:=(cond ((a0.length:Int) != (a1.length:Int)) false (cond (A4x (A8R a0 a1) (a0.length - (0:Int).toNat) (0:Int).toNat) true false))
noncomputable abbrev B41 (r:Bool):AV×List AObj:=((.t true .bool r),[])
noncomputable abbrev C33:H5 B7j→AV×List AObj:=fun d=>B41 (B7S d.1 d.2.1)
noncomputable def B3g (a0 a1:Lq1):Bool:=okL a0
noncomputable abbrev C0u:H5 B7j→Bool:=fun d=>B3g d.1 d.2.1
noncomputable abbrev D0v:Nat→St→Option Tree:=fun b=>match b with | 0=>C1N | _=>fun _=>none
theorem C9m:A7h true G60 (D0v) Try.f116 B7j C0u C33:=by
 rintro ⟨a0,⟨a1,_⟩⟩ hp
 change B3g a0 a1=true at hp
 unfold B3g at hp
 refine Eq.trans (b:=(cond ((a0.length:Int) != (a1.length:Int)) (some (B41 false)) (cond (decide (0≤(0:Int))&&(decide (a0.length=a1.length)&&okL a0)) (cond (A4x (A8R a0 a1) (a0.length - (0:Int).toNat) (0:Int).toNat) (some (B41 true)) (some (B41 false))) none))) (by kernel_rfl) ?_
 exact (N4 B41 (fun _h=>rfl) (fun _h=>(A7k (by simp only [okL,Bool.and_eq_true,decide_eq_true_eq] at hp ⊢;simp at _h;exact ⟨Int.le_refl 0,by omega,hp⟩) (fun _h=>(N4 B41 (fun _h=>rfl) (fun _h=>rfl))))))
theorem D0G:aPP 116 (A2T B7j C0u C33):=pcD true G60 (hl1 (i:=0) (by kernel_rfl) C8d) C9m
noncomputable def S61:Tab:=Tab.add S60 116 (lift (A2T B7j C0u C33))
noncomputable def D2Q:FuncId→Bool:=qadd D2P 116
theorem G61:aPG S61 D2Q:=G60.addQ D0G (cbl Try.f116) (fun _=>rfl)

abbrev B4I:List PSh:=[.agg [(.int .i64),(.int .i64),(.int .i64),tq4,.bool],.agg [(.int .i64),(.int .i64),(.int .i64),tq4,.bool]]
noncomputable def C3K (a0 a1 a2:Int) (a3:Lq1) (a4:Bool) (a5 a6 a7:Int) (a8:Lq1) (a9:Bool):Bool:=(cond (a0 != a5) false (cond (a1 != a6) false (cond (a2 != a7) false (cond (!(B7S a3 a8)) false (cond (!(a4==a9)) false true)))))
noncomputable abbrev U3 (r:Bool):AV×List AObj:=((.t true .bool r),[])
noncomputable abbrev C2b:H5 B4I→AV×List AObj:=fun d=>U3 (C3K d.1.1 d.1.2.1 d.1.2.2.1 d.1.2.2.2.1 d.1.2.2.2.2.1 d.2.1.1 d.2.1.2.1 d.2.1.2.2.1 d.2.1.2.2.2.1 d.2.1.2.2.2.2.1)
noncomputable def B2l (a0 a1 a2:Int) (a3:Lq1) (a4:Bool) (a5 a6 a7:Int) (a8:Lq1) (a9:Bool):Bool:=okL a3
noncomputable abbrev B74:H5 B4I→Bool:=fun d=>B2l d.1.1 d.1.2.1 d.1.2.2.1 d.1.2.2.2.1 d.1.2.2.2.2.1 d.2.1.1 d.2.1.2.1 d.2.1.2.2.1 d.2.1.2.2.2.1 d.2.1.2.2.2.2.1
theorem C8t:A7h true G61 aLn Try.f82 B4I B74 C2b:=by
 rintro ⟨⟨a0,⟨a1,⟨a2,⟨a3,⟨a4,_⟩⟩⟩⟩⟩,⟨⟨a5,⟨a6,⟨a7,⟨a8,⟨a9,_⟩⟩⟩⟩⟩,_⟩⟩ hp
 change B2l a0 a1 a2 a3 a4 a5 a6 a7 a8 a9=true at hp
 unfold B2l at hp
 refine Eq.trans (b:=(cond (a0 != a5) (some (U3 false)) (cond (a1 != a6) (some (U3 false)) (cond (a2 != a7) (some (U3 false)) (cond (B3g a3 a8) (cond (!(B7S a3 a8)) (some (U3 false)) (cond (!(a4==a9)) (some (U3 false)) (some (U3 true)))) none))))) (by kernel_rfl) ?_
 exact (N4 U3 (fun _h=>rfl) (fun _h=>(N4 U3 (fun _h=>rfl) (fun _h=>(N4 U3 (fun _h=>rfl) (fun _h=>(A7k (by first | rfl | decide | exact hp | (simp only [Bool.and_eq_true] at hp;simp only [hp];done) | (simp [*];done) | (simp [okL] at hp;simp [okL,MAXB];omega) | (simp_all;done) | (simp at *;omega)) (fun _h=>(N4 U3 (fun _h=>rfl) (fun _h=>(N4 U3 (fun _h=>rfl) (fun _h=>rfl))))))))))))
theorem C91:aPP 82 (A2T B4I B74 C2b):=pcD true G61 hlz C8t
noncomputable def S62:Tab:=Tab.add S61 82 (lift (A2T B4I B74 C2b))
noncomputable def D2R:FuncId→Bool:=qadd D2Q 82
theorem G62:aPG S62 D2R:=G61.addQ C91 (cbl Try.f82) (fun _=>rfl)

abbrev B2A:List PSh:=[.t tq6,.t tq6]
abbrev Y8:SS:=⟨(.t false tq6::.t false tq6::.junk::.junk::.junk::tI::C5h),[]⟩
abbrev B7b:SS:=⟨(.junk::.junk::.junk::.junk::.t true .bool::C79),[]⟩
abbrev B7c:SS:=⟨(.junk::C5i),[]⟩
noncomputable def B90 (x0 x1:LT2) (x5:Int):RT Y8.den:=let z1:=x0.getD x5.toNat ((0:Int),((0:Int),((0:Int),([],false))));let z2:=x1.getD x5.toNat ((0:Int),((0:Int),((0:Int),([],false))));(.br (decide (x5<(x0.length:Int))) (.br (decide (0≤x5∧x5<(x0.length:Int))) (.br (decide (0≤x5∧x5<(x1.length:Int))) (.br (B2l (z1.1) ((z1.2).1) (((z1.2).2).1) ((((z1.2).2).2).1) ((((z1.2).2).2).2) (z2.1) ((z2.2).1) (((z2.2).2).1) ((((z2.2).2).2).1) ((((z2.2).2).2).2)) (.br (!(C3K (z1.1) ((z1.2).1) (((z1.2).2).1) ((((z1.2).2).2).1) ((((z1.2).2).2).2) (z2.1) ((z2.2).1) (((z2.2).2).1) ((((z2.2).2).2).1) ((((z2.2).2).2).2))) (.done .ret B7b (((),(),(),(),false,u23),())) (.next ((x0,x1,(),(),(),wI (x5+(1:Int)),u22),()))) .fail) .fail) .fail) (.done (.exit 0) B7c ((u28),())))
abbrev A9v:=LT2×LT2×(Int)
abbrev A76:=Nat×(Bool)
def B0K:A76:=(99,(false:Bool))
noncomputable def B0N (x0 x1:LT2) (x5:Int):A9v ⊕ A76:=let z1:=x0.getD x5.toNat ((0:Int),((0:Int),((0:Int),([],false))));let z2:=x1.getD x5.toNat ((0:Int),((0:Int),((0:Int),([],false))));(cond (decide (x5<(x0.length:Int))) (cond (decide (0≤x5∧x5<(x0.length:Int))) (cond (decide (0≤x5∧x5<(x1.length:Int))) (cond (B2l (z1.1) ((z1.2).1) (((z1.2).2).1) ((((z1.2).2).2).1) ((((z1.2).2).2).2) (z2.1) ((z2.2).1) (((z2.2).2).1) ((((z2.2).2).2).1) ((((z2.2).2).2).2)) (cond (!(C3K (z1.1) ((z1.2).1) (((z1.2).2).1) ((((z1.2).2).2).1) ((((z1.2).2).2).2) (z2.1) ((z2.2).1) (((z2.2).2).1) ((((z2.2).2).2).1) ((((z2.2).2).2).2))) (.inr (0,false)) (.inl (x0,x1,wI (x5+(1:Int))))) (.inr B0K)) (.inr B0K)) (.inr B0K)) (.inr (1,(false:Bool))))
noncomputable def A8z (x0 x1:LT2) (x5:Int):A76:=itX (fun v:A9v=>B0N v.1 v.2.1 v.2.2) B0K (x0,x1,x5)
noncomputable def B4b (a:A76):CT:=(.br (a.1==0) (.done .ret B7b (((),(),(),(),a.2,u23),())) (.br (a.1==1) (.done (.exit 0) B7c ((u28),())) .fail))
noncomputable def C6c (x0 x1:LT2) (x5:Int):CT:=B4b (A8z x0 x1 x5)
noncomputable abbrev B4q:Y8.den→RT Y8.den:=(fun d=>B90 d.1.1 d.1.2.1 d.1.2.2.2.2.2.1)
noncomputable def B6D:Code:=((D3 0 (A1f Try.f37)).getD 0 (0,.skip)).2
noncomputable abbrev B9L (v:A9v):Y8.den:=((v.1,v.2.1,(),(),(),v.2.2,u22),())
theorem C5D:(∀ v:A9v,(B90 v.1 v.2.1 v.2.2).val=A6l B9L B4b (B0N v.1 v.2.1 v.2.2))∧∀ a:A76,CEnd Y8.den (B4b a):=⟨fun v=>(A7m (A7m (A7m (A7m (A7m rfl rfl) rfl) rfl) rfl) rfl),fun a=>(A7a aCD (A7a aCD A7c))⟩
theorem C4A:RdA G62 aLn 0 B6D Y8 0 [] (kepts [4] [(0,[])]) (fun d=>(B4q d).opt 0 []):=by
 intro d
 kernel_rfl
noncomputable abbrev B8v:St→Option Tree:=Y8.say 0 [] [] (fun d=>C6c d.1.1 d.1.2.1 d.1.2.2.2.2.2.1)
theorem C5l:aPL B8v B6D:=SS.wp2 hlz [] B4q C4A (fun d=>rfl) _ (fun d=>Runs.ofI2 (step:=B4q) B9L C5D rfl (d.1.1,d.1.2.1,d.1.2.2.2.2.2.1))
noncomputable def B48 (a0 a1:LT2):Bool:=let z1:=A8z a0 a1 (0:Int);(cond ((a0.length:Int) != (a1.length:Int)) false (cond (z1.1==0) (z1.2) true))
noncomputable abbrev B0p (r:Bool):AV×List AObj:=((.t true .bool r),[])
noncomputable abbrev C0i:H5 B2A→AV×List AObj:=fun d=>B0p (B48 d.1 d.2.1)
noncomputable def A8W (a0 a1:LT2):Bool:=let z1:=A8z a0 a1 (0:Int);cond ((a0.length:Int) != (a1.length:Int)) true (cond (z1.1==0) true (z1.1==1))
noncomputable abbrev B6e:H5 B2A→Bool:=fun d=>A8W d.1 d.2.1
noncomputable abbrev C8G:Nat→St→Option Tree:=fun b=>match b with | 0=>B8v | _=>fun _=>none
theorem C7j:A7h true G62 (C8G) Try.f37 B2A B6e C0i:=by
 rintro ⟨a0,⟨a1,_⟩⟩ hp
 change A8W a0 a1=true at hp
 unfold A8W at hp
 refine Eq.trans (b:=(let z1:=A8z a0 a1 (0:Int);cond ((a0.length:Int) != (a1.length:Int)) (some (B0p false)) (cond (z1.1==0) (some (B0p (z1.2))) (cond (z1.1==1) (some (B0p true)) none)))) (by kernel_rfl) ?_
 exact (K8 B0p hp (fun hp=>rfl) (fun hp=>(K8 B0p hp (fun hp=>rfl) (fun hp=>(A7k hp fun _h=>rfl)))))
theorem C80:aPP 37 (A2T B2A B6e C0i):=pcD true G62 (hl1 (i:=0) (by kernel_rfl) C5l) C7j
noncomputable def S63:Tab:=Tab.add S62 37 (lift (A2T B2A B6e C0i))
noncomputable def D2S:FuncId→Bool:=qadd D2R 37
theorem G63:aPG S63 D2S:=G62.addQ C80 (cbl Try.f37) (fun _=>rfl)

abbrev u21:=((),u20)

noncomputable def A7Q (x0 x1:List Int) (i:Nat):Bool:=!((x0.getD i (0:Int)) != (x1.getD i (0:Int)))
abbrev B4G:List PSh:=[.t M9,.t M9]
abbrev A7H:SS:=⟨(.t false M9::.t false M9::.junk::.junk::.junk::tI::D3k),[]⟩
abbrev B9f:SS:=⟨(.junk::.junk::.junk::.junk::.t true .bool::C5h),[]⟩
abbrev B9g:SS:=⟨(.junk::D0S),[]⟩
noncomputable def B6v (x0 x1:List Int) (x5:Int):RT A7H.den:=(.br (decide (x5<(x0.length:Int))) (.br (decide (0≤x5∧x5<(x0.length:Int))) (.br (decide (0≤x5∧x5<(x1.length:Int))) (.br ((x0.getD x5.toNat (0:Int)) != (x1.getD x5.toNat (0:Int))) (.done .ret B9f (((),(),(),(),false,u22),())) (.next ((x0,x1,(),(),(),wI (x5+(1:Int)),u21),()))) .fail) .fail) (.done (.exit 0) B9g ((u27),())))
noncomputable def B01 (x0 x1:List Int) (x5:Int):CT:=(.br (decide (0≤x5)&&(decide (x0.length=x1.length)&&okL x0)) (.br (A4x (A7Q x0 x1) (x0.length - x5.toNat) x5.toNat) (.done (.exit 0) B9g ((u27),())) (.done .ret B9f (((),(),(),(),false,u22),()))) .fail)
noncomputable abbrev A95:A7H.den→RT A7H.den:=(fun d=>B6v d.1.1 d.1.2.1 d.1.2.2.2.2.2.1)
noncomputable abbrev C1w (x0 x1:List Int) (x5:Int):A7H.den:=((x0,x1,(),(),(),x5,u21),())
noncomputable def B7w:Code:=((D3 0 (A1f Try.f125)).getD 0 (0,.skip)).2
theorem C7E (x0 x1:List Int) (x5:Int):(B01 x0 x1 x5).val (D:=A7H.den)=.fail∨Runs A95 (C1w x0 x1 x5) (B01 x0 x1 x5).val:=by
 cases hc:(decide (0≤x5)&&(decide (x0.length=x1.length)&&okL x0)) with
 | false=>left;simp only [B01,CT.val,hc,cond_false]
 | true =>
  right
  simp only [B01,CT.val,hc,cond_true]
  simp only [Bool.and_eq_true,decide_eq_true_eq] at hc
  obtain ⟨i,rfl⟩:=Int.eq_ofNat_of_zero_le hc.1
  have hs:=A66 hc.2.2
  simp only [Int.toNat_natCast]
  refine Runs.scan (fun j=>C1w x0 x1 (j:Int)) (x0.length) (A7Q x0 x1) (fun i hi=>?_) (fun i hi=>?_) ⟨_,_,_,rfl,by simp⟩ ⟨_,_,_,rfl,by simp⟩ _ _ rfl
  ·
   have h0a:decide ((i:Int)<(x0.length:Int))=true:=decide_eq_true (by omega)
   have h0b:decide (0≤(i:Int)∧(i:Int)<(x0.length:Int))=true:=decide_eq_true (by omega)
   simp only [A95,B6v,RT.val,h0a,h0b,cond_true,A7e i (by omega),Int.toNat_natCast]
   have h9:decide (0≤(i:Int)∧(i:Int)<(x1.length:Int))=true:=decide_eq_true (by omega)
   simp only [h9,cond_true]
   simp only [A7Q]
   generalize ((x0.getD i (0:Int)) != (x1.getD i (0:Int)))=c
   cases c<;>rfl
  ·have h1:decide ((i:Int)<(x0.length:Int))=false:=decide_eq_false (by omega)
   simp only [A95,B6v,RT.val,h1,cond_false]
theorem C5s:RdA G63 aLn 0 B7w A7H 0 [] (kepts [4] [(0,[])]) (fun d=>(A95 d).opt 0 []):=by
 intro d
 kernel_rfl
noncomputable abbrev B9Q:St→Option Tree:=A7H.say 0 [] [] (fun d=>B01 d.1.1 d.1.2.1 d.1.2.2.2.2.2.1)
theorem C6Q:aPL B9Q B7w:=SS.wp2 hlz [] A95 C5s (fun d=>rfl) _ (fun d=>C7E d.1.1 d.1.2.1 d.1.2.2.2.2.2.1)
noncomputable def C1m (a0 a1:List Int):Bool:=(cond ((a0.length:Int) != (a1.length:Int)) false (cond (A4x (A7Q a0 a1) (a0.length - (0:Int).toNat) (0:Int).toNat) true false))
noncomputable abbrev B2h (r:Bool):AV×List AObj:=((.t true .bool r),[])
noncomputable abbrev C19:H5 B4G→AV×List AObj:=fun d=>B2h (C1m d.1 d.2.1)
noncomputable def B2k (a0 a1:List Int):Bool:=okL a0
noncomputable abbrev B72:H5 B4G→Bool:=fun d=>B2k d.1 d.2.1
noncomputable abbrev C9M:Nat→St→Option Tree:=fun b=>match b with | 0=>B9Q | _=>fun _=>none
theorem C8r:A7h true G63 (C9M) Try.f125 B4G B72 C19:=by
 rintro ⟨a0,⟨a1,_⟩⟩ hp
 change B2k a0 a1=true at hp
 unfold B2k at hp
 refine Eq.trans (b:=(cond ((a0.length:Int) != (a1.length:Int)) (some (B2h false)) (cond (decide (0≤(0:Int))&&(decide (a0.length=a1.length)&&okL a0)) (cond (A4x (A7Q a0 a1) (a0.length - (0:Int).toNat) (0:Int).toNat) (some (B2h true)) (some (B2h false))) none))) (by kernel_rfl) ?_
 exact (N4 B2h (fun _h=>rfl) (fun _h=>(A7k (by simp only [okL,Bool.and_eq_true,decide_eq_true_eq] at hp ⊢;simp at _h;exact ⟨Int.le_refl 0,by omega,hp⟩) (fun _h=>(N4 B2h (fun _h=>rfl) (fun _h=>rfl))))))
theorem C9Z:aPP 125 (A2T B4G B72 C19):=pcD true G63 (hl1 (i:=0) (by kernel_rfl) C6Q) C8r
noncomputable def S64:Tab:=Tab.add S63 125 (lift (A2T B4G B72 C19))
noncomputable def D2T:FuncId→Bool:=qadd D2S 125
theorem G64:aPG S64 D2T:=G63.addQ C9Z (cbl Try.f125) (fun _=>rfl)

abbrev B7i:List PSh:=[.agg [(.int .i64),tq4,(.int .i64),M9],.agg [(.int .i64),tq4,(.int .i64),M9]]
noncomputable def C6L (a0:Int) (a1:Lq1) (a2:Int) (a3:List Int) (a4:Int) (a5:Lq1) (a6:Int) (a7:List Int):Bool:=(cond (a0 != a4) false (cond (!(B7S a1 a5)) false (cond (a2 != a6) false (cond (!(C1m a3 a7)) false true))))
noncomputable abbrev A8y (r:Bool):AV×List AObj:=((.t true .bool r),[])
noncomputable abbrev C32:H5 B7i→AV×List AObj:=fun d=>A8y (C6L d.1.1 d.1.2.1 d.1.2.2.1 d.1.2.2.2.1 d.2.1.1 d.2.1.2.1 d.2.1.2.2.1 d.2.1.2.2.2.1)
noncomputable def B5g (a0:Int) (a1:Lq1) (a2:Int) (a3:List Int) (a4:Int) (a5:Lq1) (a6:Int) (a7:List Int):Bool:=cond (a0 != a4) true ((B3g a1 a5)&&(cond (!(B7S a1 a5)) true (cond (a2 != a6) true (B2k a3 a7))))
noncomputable abbrev C0t:H5 B7i→Bool:=fun d=>B5g d.1.1 d.1.2.1 d.1.2.2.1 d.1.2.2.2.1 d.2.1.1 d.2.1.2.1 d.2.1.2.2.1 d.2.1.2.2.2.1
theorem C9l:A7h true G64 aLn Try.f94 B7i C0t C32:=by
 rintro ⟨⟨a0,⟨a1,⟨a2,⟨a3,_⟩⟩⟩⟩,⟨⟨a4,⟨a5,⟨a6,⟨a7,_⟩⟩⟩⟩,_⟩⟩ hp
 change B5g a0 a1 a2 a3 a4 a5 a6 a7=true at hp
 unfold B5g at hp
 refine Eq.trans (b:=(cond (a0 != a4) (some (A8y false)) (cond (B3g a1 a5) (cond (!(B7S a1 a5)) (some (A8y false)) (cond (a2 != a6) (some (A8y false)) (cond (B2k a3 a7) (cond (!(C1m a3 a7)) (some (A8y false)) (some (A8y true))) none))) none))) (by kernel_rfl) ?_
 exact (K8 A8y hp (fun hp=>rfl) (fun hp=>(A7i hp fun hp=>(K8 A8y hp (fun hp=>rfl) (fun hp=>(K8 A8y hp (fun hp=>rfl) (fun hp=>(A7k hp fun _h=>(N4 A8y (fun _h=>rfl) (fun _h=>rfl))))))))))
theorem D0F:aPP 94 (A2T B7i C0t C32):=pcD true G64 hlz C9l
noncomputable def S65:Tab:=Tab.add S64 94 (lift (A2T B7i C0t C32))
noncomputable def D2U:FuncId→Bool:=qadd D2T 94
theorem G65:aPG S65 D2U:=G64.addQ D0F (cbl Try.f94) (fun _=>rfl)

abbrev B4H:List PSh:=[.t tq2,.t tq2]
abbrev A7I:SS:=⟨(.t false tq2::.t false tq2::.junk::.junk::.junk::tI::C5h),[]⟩
abbrev B9h:SS:=⟨(.junk::.junk::.junk::.junk::.t true .bool::C79),[]⟩
abbrev B9i:SS:=⟨(.junk::C5i),[]⟩
noncomputable def C1V (x0 x1:LT1) (x5:Int):RT A7I.den:=let z1:=x0.getD x5.toNat ((0:Int),([],((0:Int),[])));let z2:=x1.getD x5.toNat ((0:Int),([],((0:Int),[])));(.br (decide (x5<(x0.length:Int))) (.br (decide (0≤x5∧x5<(x0.length:Int))) (.br (decide (0≤x5∧x5<(x1.length:Int))) (.br (B5g (z1.1) ((z1.2).1) (((z1.2).2).1) (((z1.2).2).2) (z2.1) ((z2.2).1) (((z2.2).2).1) (((z2.2).2).2)) (.br (!(C6L (z1.1) ((z1.2).1) (((z1.2).2).1) (((z1.2).2).2) (z2.1) ((z2.2).1) (((z2.2).2).1) (((z2.2).2).2))) (.done .ret B9h (((),(),(),(),false,u23),())) (.next ((x0,x1,(),(),(),wI (x5+(1:Int)),u22),()))) .fail) .fail) .fail) (.done (.exit 0) B9i ((u28),())))
abbrev B3y:=LT1×LT1×(Int)
abbrev A7B:=Nat×(Bool)
def B17:A7B:=(99,(false:Bool))
noncomputable def B2d (x0 x1:LT1) (x5:Int):B3y ⊕ A7B:=let z1:=x0.getD x5.toNat ((0:Int),([],((0:Int),[])));let z2:=x1.getD x5.toNat ((0:Int),([],((0:Int),[])));(cond (decide (x5<(x0.length:Int))) (cond (decide (0≤x5∧x5<(x0.length:Int))) (cond (decide (0≤x5∧x5<(x1.length:Int))) (cond (B5g (z1.1) ((z1.2).1) (((z1.2).2).1) (((z1.2).2).2) (z2.1) ((z2.2).1) (((z2.2).2).1) (((z2.2).2).2)) (cond (!(C6L (z1.1) ((z1.2).1) (((z1.2).2).1) (((z1.2).2).2) (z2.1) ((z2.2).1) (((z2.2).2).1) (((z2.2).2).2))) (.inr (0,false)) (.inl (x0,x1,wI (x5+(1:Int))))) (.inr B17)) (.inr B17)) (.inr B17)) (.inr (1,(false:Bool))))
noncomputable def A9O (x0 x1:LT1) (x5:Int):A7B:=itX (fun v:B3y=>B2d v.1 v.2.1 v.2.2) B17 (x0,x1,x5)
noncomputable def B5D (a:A7B):CT:=(.br (a.1==0) (.done .ret B9h (((),(),(),(),a.2,u23),())) (.br (a.1==1) (.done (.exit 0) B9i ((u28),())) .fail))
noncomputable def C7H (x0 x1:LT1) (x5:Int):CT:=B5D (A9O x0 x1 x5)
noncomputable abbrev B6p:A7I.den→RT A7I.den:=(fun d=>C1V d.1.1 d.1.2.1 d.1.2.2.2.2.2.1)
noncomputable def B7x:Code:=((D3 0 (A1f Try.f51)).getD 0 (0,.skip)).2
noncomputable abbrev C1A (v:B3y):A7I.den:=((v.1,v.2.1,(),(),(),v.2.2,u22),())
theorem C69:(∀ v:B3y,(C1V v.1 v.2.1 v.2.2).val=A6l C1A B5D (B2d v.1 v.2.1 v.2.2))∧∀ a:A7B,CEnd A7I.den (B5D a):=⟨fun v=>(A7m (A7m (A7m (A7m (A7m rfl rfl) rfl) rfl) rfl) rfl),fun a=>(A7a aCD (A7a aCD A7c))⟩
theorem C5t:RdA G65 aLn 0 B7x A7I 0 [] (kepts [4] [(0,[])]) (fun d=>(B6p d).opt 0 []):=by
 intro d
 kernel_rfl
noncomputable abbrev B9R:St→Option Tree:=A7I.say 0 [] [] (fun d=>C7H d.1.1 d.1.2.1 d.1.2.2.2.2.2.1)
theorem C6R:aPL B9R B7x:=SS.wp2 hlz [] B6p C5t (fun d=>rfl) _ (fun d=>Runs.ofI2 (step:=B6p) C1A C69 rfl (d.1.1,d.1.2.1,d.1.2.2.2.2.2.1))
noncomputable def B8S (a0 a1:LT1):Bool:=let z1:=A9O a0 a1 (0:Int);(cond ((a0.length:Int) != (a1.length:Int)) false (cond (z1.1==0) (z1.2) true))
noncomputable abbrev B2i (r:Bool):AV×List AObj:=((.t true .bool r),[])
noncomputable abbrev C2a:H5 B4H→AV×List AObj:=fun d=>B2i (B8S d.1 d.2.1)
noncomputable def B0w (a0 a1:LT1):Bool:=let z1:=A9O a0 a1 (0:Int);cond ((a0.length:Int) != (a1.length:Int)) true (cond (z1.1==0) true (z1.1==1))
noncomputable abbrev B73:H5 B4H→Bool:=fun d=>B0w d.1 d.2.1
noncomputable abbrev C9N:Nat→St→Option Tree:=fun b=>match b with | 0=>B9R | _=>fun _=>none
theorem C8s:A7h true G65 (C9N) Try.f51 B4H B73 C2a:=by
 rintro ⟨a0,⟨a1,_⟩⟩ hp
 change B0w a0 a1=true at hp
 unfold B0w at hp
 refine Eq.trans (b:=(let z1:=A9O a0 a1 (0:Int);cond ((a0.length:Int) != (a1.length:Int)) (some (B2i false)) (cond (z1.1==0) (some (B2i (z1.2))) (cond (z1.1==1) (some (B2i true)) none)))) (by kernel_rfl) ?_
 exact (K8 B2i hp (fun hp=>rfl) (fun hp=>(K8 B2i hp (fun hp=>rfl) (fun hp=>(A7k hp fun _h=>rfl)))))
theorem C90:aPP 51 (A2T B4H B73 C2a):=pcD true G65 (hl1 (i:=0) (by kernel_rfl) C6R) C8s
noncomputable def S66:Tab:=Tab.add S65 51 (lift (A2T B4H B73 C2a))
noncomputable def D2V:FuncId→Bool:=qadd D2U 51
theorem G66:aPG S66 D2V:=G65.addQ C90 (cbl Try.f51) (fun _=>rfl)

abbrev B0U:List PSh:=[.agg [(.int .i64),.bool],.agg [(.int .i64),.bool]]
noncomputable def B47 (a0:Int) (a1:Bool) (a2:Int) (a3:Bool):Bool:=(cond (a0 != a2) false (cond (!(a1==a3)) false true))
noncomputable abbrev A85 (r:Bool):AV×List AObj:=((.t true .bool r),[])
noncomputable abbrev B7J:H5 B0U→AV×List AObj:=fun d=>A85 (B47 d.1.1 d.1.2.1 d.2.1.1 d.2.1.2.1)
noncomputable abbrev B4i:H5 B0U→Bool:=fun d=>true
theorem C5H:A7h true G66 aLn Try.f95 B0U B4i B7J:=by
 rintro ⟨⟨a0,⟨a1,_⟩⟩,⟨⟨a2,⟨a3,_⟩⟩,_⟩⟩ hp
 refine Eq.trans (b:=(cond (a0 != a2) (some (A85 false)) (cond (!(a1==a3)) (some (A85 false)) (some (A85 true))))) (by kernel_rfl) ?_
 exact (N4 A85 (fun _h=>rfl) (fun _h=>(N4 A85 (fun _h=>rfl) (fun _h=>rfl))))
theorem C7P:aPP 95 (A2T B0U B4i B7J):=pcD true G66 hlz C5H
noncomputable def S67:Tab:=Tab.add S66 95 (lift (A2T B0U B4i B7J))
noncomputable def D2W:FuncId→Bool:=qadd D2V 95
theorem G67:aPG S67 D2W:=G66.addQ C7P (cbl Try.f95) (fun _=>rfl)


noncomputable def T2 (x0 x1:LIbe) (i:Nat):Bool:=!(!(B47 ((x0.getD i ((0:Int),false)).1) ((x0.getD i ((0:Int),false)).2) ((x1.getD i ((0:Int),false)).1) ((x1.getD i ((0:Int),false)).2)))
abbrev A9n:List PSh:=[.t tq5,.t tq5]
abbrev R9:SS:=⟨(.t false tq5::.t false tq5::.junk::.junk::.junk::tI::C5h),[]⟩
abbrev B4y:SS:=⟨(.junk::.junk::.junk::.junk::.t true .bool::C79),[]⟩
abbrev B4z:SS:=⟨(.junk::C5i),[]⟩
noncomputable def B1B (x0 x1:LIbe) (x5:Int):RT R9.den:=let z1:=x0.getD x5.toNat ((0:Int),false);let z2:=x1.getD x5.toNat ((0:Int),false);(.br (decide (x5<(x0.length:Int))) (.br (decide (0≤x5∧x5<(x0.length:Int))) (.br (decide (0≤x5∧x5<(x1.length:Int))) (.br (!(B47 (z1.1) (z1.2) (z2.1) (z2.2))) (.done .ret B4y (((),(),(),(),false,u23),())) (.next ((x0,x1,(),(),(),wI (x5+(1:Int)),u22),()))) .fail) .fail) (.done (.exit 0) B4z ((u28),())))
noncomputable def A7O (x0 x1:LIbe) (x5:Int):CT:=(.br (decide (0≤x5)&&(decide (x0.length=x1.length)&&okL x0)) (.br (A4x (T2 x0 x1) (x0.length - x5.toNat) x5.toNat) (.done (.exit 0) B4z ((u28),())) (.done .ret B4y (((),(),(),(),false,u23),()))) .fail)
noncomputable abbrev A0g:R9.den→RT R9.den:=(fun d=>B1B d.1.1 d.1.2.1 d.1.2.2.2.2.2.1)
noncomputable abbrev B6O (x0 x1:LIbe) (x5:Int):R9.den:=((x0,x1,(),(),(),x5,u22),())
noncomputable def B3B:Code:=((D3 0 (A1f Try.f52)).getD 0 (0,.skip)).2
theorem C3O (x0 x1:LIbe) (x5:Int):(A7O x0 x1 x5).val (D:=R9.den)=.fail∨Runs A0g (B6O x0 x1 x5) (A7O x0 x1 x5).val:=by
 cases hc:(decide (0≤x5)&&(decide (x0.length=x1.length)&&okL x0)) with
 | false=>left;simp only [A7O,CT.val,hc,cond_false]
 | true =>
  right
  simp only [A7O,CT.val,hc,cond_true]
  simp only [Bool.and_eq_true,decide_eq_true_eq] at hc
  obtain ⟨i,rfl⟩:=Int.eq_ofNat_of_zero_le hc.1
  have hs:=A66 hc.2.2
  simp only [Int.toNat_natCast]
  refine Runs.scan (fun j=>B6O x0 x1 (j:Int)) (x0.length) (T2 x0 x1) (fun i hi=>?_) (fun i hi=>?_) ⟨_,_,_,rfl,by simp⟩ ⟨_,_,_,rfl,by simp⟩ _ _ rfl
  ·
   have h0a:decide ((i:Int)<(x0.length:Int))=true:=decide_eq_true (by omega)
   have h0b:decide (0≤(i:Int)∧(i:Int)<(x0.length:Int))=true:=decide_eq_true (by omega)
   simp only [A0g,B1B,RT.val,h0a,h0b,cond_true,A7e i (by omega),Int.toNat_natCast]
   have h9:decide (0≤(i:Int)∧(i:Int)<(x1.length:Int))=true:=decide_eq_true (by omega)
   simp only [h9,cond_true]
   simp only [T2]
   generalize (!(B47 ((x0.getD i ((0:Int),false)).1) ((x0.getD i ((0:Int),false)).2) ((x1.getD i ((0:Int),false)).1) ((x1.getD i ((0:Int),false)).2)))=c
   cases c<;>rfl
  ·have h1:decide ((i:Int)<(x0.length:Int))=false:=decide_eq_false (by omega)
   simp only [A0g,B1B,RT.val,h1,cond_false]
theorem C2u:RdA G67 aLn 0 B3B R9 0 [] (kepts [4] [(0,[])]) (fun d=>(A0g d).opt 0 []):=by
 intro d
 kernel_rfl
noncomputable abbrev B5m:St→Option Tree:=R9.say 0 [] [] (fun d=>A7O d.1.1 d.1.2.1 d.1.2.2.2.2.2.1)
theorem C3n:aPL B5m B3B:=SS.wp2 hlz [] A0g C2u (fun d=>rfl) _ (fun d=>C3O d.1.1 d.1.2.1 d.1.2.2.2.2.2.1)
noncomputable def B25 (a0 a1:LIbe):Bool:=(cond ((a0.length:Int) != (a1.length:Int)) false (cond (A4x (T2 a0 a1) (a0.length - (0:Int).toNat) (0:Int).toNat) true false))
noncomputable abbrev A8b (r:Bool):AV×List AObj:=((.t true .bool r),[])
noncomputable abbrev B5R:H5 A9n→AV×List AObj:=fun d=>A8b (B25 d.1 d.2.1)
noncomputable def A8f (a0 a1:LIbe):Bool:=okL a0
noncomputable abbrev B3a:H5 A9n→Bool:=fun d=>A8f d.1 d.2.1
noncomputable abbrev C53:Nat→St→Option Tree:=fun b=>match b with | 0=>B5m | _=>fun _=>none
theorem C4S:A7h true G67 (C53) Try.f52 A9n B3a B5R:=by
 rintro ⟨a0,⟨a1,_⟩⟩ hp
 change A8f a0 a1=true at hp
 unfold A8f at hp
 refine Eq.trans (b:=(cond ((a0.length:Int) != (a1.length:Int)) (some (A8b false)) (cond (decide (0≤(0:Int))&&(decide (a0.length=a1.length)&&okL a0)) (cond (A4x (T2 a0 a1) (a0.length - (0:Int).toNat) (0:Int).toNat) (some (A8b true)) (some (A8b false))) none))) (by kernel_rfl) ?_
 exact (N4 A8b (fun _h=>rfl) (fun _h=>(A7k (by simp only [okL,Bool.and_eq_true,decide_eq_true_eq] at hp ⊢;simp at _h;exact ⟨Int.le_refl 0,by omega,hp⟩) (fun _h=>(N4 A8b (fun _h=>rfl) (fun _h=>rfl))))))
theorem C6i:aPP 52 (A2T A9n B3a B5R):=pcD true G67 (hl1 (i:=0) (by kernel_rfl) C3n) C4S
noncomputable def S68:Tab:=Tab.add S67 52 (lift (A2T A9n B3a B5R))
noncomputable def D2X:FuncId→Bool:=qadd D2W 52
theorem G68:aPG S68 D2X:=G67.addQ C6i (cbl Try.f52) (fun _=>rfl)

abbrev B2z:List PSh:=[.agg [(.int .i64),(.int .i64),(.int .i64),tq2,tq5,(.int .i64)],.agg [(.int .i64),(.int .i64),(.int .i64),tq2,tq5,(.int .i64)]]
noncomputable def C1l (a0 a1 a2:Int) (a3:LT1) (a4:LIbe) (a5 a6 a7 a8:Int) (a9:LT1) (a10:LIbe) (a11:Int):Bool:=(cond (a0 != a6) false (cond (a1 != a7) false (cond (a2 != a8) false (cond (!(B8S a3 a9)) false (cond (!(B25 a4 a10)) false (cond (a5 != a11) false true))))))
noncomputable abbrev M6 (r:Bool):AV×List AObj:=((.t true .bool r),[])
noncomputable abbrev C0h:H5 B2z→AV×List AObj:=fun d=>M6 (C1l d.1.1 d.1.2.1 d.1.2.2.1 d.1.2.2.2.1 d.1.2.2.2.2.1 d.1.2.2.2.2.2.1 d.2.1.1 d.2.1.2.1 d.2.1.2.2.1 d.2.1.2.2.2.1 d.2.1.2.2.2.2.1 d.2.1.2.2.2.2.2.1)
noncomputable def A8V (a0 a1 a2:Int) (a3:LT1) (a4:LIbe) (a5 a6 a7 a8:Int) (a9:LT1) (a10:LIbe) (a11:Int):Bool:=cond (a0 != a6) true (cond (a1 != a7) true (cond (a2 != a8) true ((B0w a3 a9)&&(cond (!(B8S a3 a9)) true (A8f a4 a10)))))
noncomputable abbrev B6d:H5 B2z→Bool:=fun d=>A8V d.1.1 d.1.2.1 d.1.2.2.1 d.1.2.2.2.1 d.1.2.2.2.2.1 d.1.2.2.2.2.2.1 d.2.1.1 d.2.1.2.1 d.2.1.2.2.1 d.2.1.2.2.2.1 d.2.1.2.2.2.2.1 d.2.1.2.2.2.2.2.1
theorem C7i:A7h true G68 aLn Try.f17 B2z B6d C0h:=by
 rintro ⟨⟨a0,⟨a1,⟨a2,⟨a3,⟨a4,⟨a5,_⟩⟩⟩⟩⟩⟩,⟨⟨a6,⟨a7,⟨a8,⟨a9,⟨a10,⟨a11,_⟩⟩⟩⟩⟩⟩,_⟩⟩ hp
 change A8V a0 a1 a2 a3 a4 a5 a6 a7 a8 a9 a10 a11=true at hp
 unfold A8V at hp
 refine Eq.trans (b:=(cond (a0 != a6) (some (M6 false)) (cond (a1 != a7) (some (M6 false)) (cond (a2 != a8) (some (M6 false)) (cond (B0w a3 a9) (cond (!(B8S a3 a9)) (some (M6 false)) (cond (A8f a4 a10) (cond (!(B25 a4 a10)) (some (M6 false)) (cond (a5 != a11) (some (M6 false)) (some (M6 true)))) none)) none))))) (by kernel_rfl) ?_
 exact (K8 M6 hp (fun hp=>rfl) (fun hp=>(K8 M6 hp (fun hp=>rfl) (fun hp=>(K8 M6 hp (fun hp=>rfl) (fun hp=>(A7i hp fun hp=>(K8 M6 hp (fun hp=>rfl) (fun hp=>(A7k hp fun _h=>(N4 M6 (fun _h=>rfl) (fun _h=>(N4 M6 (fun _h=>rfl) (fun _h=>rfl))))))))))))))
theorem C8Z:aPP 17 (A2T B2z B6d C0h):=pcD true G68 hlz C7i
noncomputable def S69:Tab:=Tab.add S68 17 (lift (A2T B2z B6d C0h))
noncomputable def D2Y:FuncId→Bool:=qadd D2X 17
theorem G69:aPG S69 D2Y:=G68.addQ C8Z (cbl Try.f17) (fun _=>rfl)

abbrev B0V:List PSh:=[.t (.int .i64)]
abbrev R3:SS:=⟨(tI::.junk::.junk::.t true .str::D0a),[]⟩
abbrev B1k:SS:=⟨(.junk::.junk::.junk::.t true .str::D0a),[]⟩
noncomputable def B0b (x0:Int) (x3:ByteArray):RT R3.den:=(.br (decide (x0 > (0:Int))) (.br (decide ((((⟨([IntKind.wrap .u8 (wI ((48:Int)+(Int.tmod x0 (10:Int))))].map fun n=>UInt8.ofNat n.toNat).toArray⟩:ByteArray).size+x3.size:Nat):Int)≤IntKind.i64.max)) (.next ((wI (Int.tdiv x0 (10:Int)),(),(),(⟨([IntKind.wrap .u8 (wI ((48:Int)+(Int.tmod x0 (10:Int))))].map fun n=>UInt8.ofNat n.toNat).toArray⟩:ByteArray)++x3,u17),())) .fail) (.done (.exit 0) B1k (((),(),(),x3,u17),())))
noncomputable def A8t (x0:Int) (x3:ByteArray):CT:=(.br (decide (x0≤1000000000000)&&decide (x3.size≤1000)) (.done (.exit 0) B1k (((),(),(),(C10 13 x0 x3),u17),())) .fail)
noncomputable abbrev P2:R3.den→RT R3.den:=(fun d=>B0b d.1.1 d.1.2.2.2.1)
noncomputable abbrev A7Y (x0:Int) (x3:ByteArray):R3.den:=((x0,(),(),x3,u17),())
noncomputable def B4V:Code:=((D3 0 (A1f Try.f117)).getD 0 (0,.skip)).2
theorem C48 (x0:Int) (x3:ByteArray):(A8t x0 x3).val (D:=R3.den)=.fail∨Runs P2 (A7Y x0 x3) (A8t x0 x3).val:=by
 cases hc:(decide (x0≤1000000000000)&&decide (x3.size≤1000)) with
 | false=>left;simp only [A8t,CT.val,hc,cond_false]
 | true =>
  right
  simp only [A8t,CT.val,hc,cond_true]
  simp only [Bool.and_eq_true,decide_eq_true_eq] at hc
  have key:∀ (k:Nat) (x:Int) (s:ByteArray),x<10 ^ k→x≤1000000000000→s.size+k≤2000→Runs P2 (A7Y x s) (((.done (.exit 0) B1k (((),(),(),(C10 k x s),u17),())):CT).val (D:=R3.den)):=by
   intro k
   induction k with
   | zero =>
    intro x s h1 h2 h3
    rw [show (10:Int) ^ 0=1 from rfl] at h1
    have e1:decide (x > (0:Int))=false:=decide_eq_false (by omega)
    refine .done (by simp) ?_
    simp only [P2,B0b,RT.val,e1,cond_false,C10]
   | succ k ih =>
    intro x s h1 h2 h3
    rw [Int.pow_succ] at h1
    by_cases hx:x > 0
    ·have e1:decide (x > (0:Int))=true:=decide_eq_true hx
     have e2:decide ((((C6t x).size+s.size:Nat):Int)≤IntKind.i64.max)=true:=decide_eq_true (by rw [C16,show IntKind.i64.max=9223372036854775807 from rfl];omega)
     have e4:Int.tdiv x (10:Int)=x / 10:=Int.tdiv_eq_ediv_of_nonneg (by omega)
     have e5:wI (Int.tdiv x (10:Int))=x / 10:=by rw [e4];exact A6r (by omega) (by omega)
     have:=ih (wI (Int.tdiv x (10:Int))) (C6t x++s) (by rw [e5];omega) (by rw [e5];omega) (by rw [ByteArray.size_append,C16];omega)
     refine .next (d':=A7Y (wI (Int.tdiv x (10:Int))) (C6t x++s)) ?_ ?_
     ·have e6 : (P2 (A7Y x s)).val = cond (decide ((((C6t x).size + s.size : Nat) : Int) ≤ IntKind.i64.max)) (.next (A7Y (wI (Int.tdiv x (10 : Int))) (C6t x ++ s))) .fail := by
       simp only [P2,B0b,RT.val,e1,cond_true];rfl
      rw [e6,e2];rfl
     ·have e3:C10 (k+1) x s=C10 k (wI (Int.tdiv x (10:Int))) (C6t x++s):=by simp only [C10,e1,cond_true]
      rw [e3]
      exact this
    ·have e1:decide (x > (0:Int))=false:=decide_eq_false hx
     refine .done (by simp) ?_
     simp only [P2,B0b,RT.val,e1,cond_false,C10]
  exact key 13 x0 x3 (by have:=hc.1;rw [show (10:Int) ^ 13=10000000000000 from rfl];omega) hc.1 (by have:=hc.2;omega)
theorem C3v:RdA G69 aLn 0 B4V R3 0 [] (kepts [] [(0,[3])]) (fun d=>(P2 d).opt 0 []):=by
 intro d
 kernel_rfl
noncomputable abbrev B6W:St→Option Tree:=R3.say 0 [] [] (fun d=>A8t d.1.1 d.1.2.2.2.1)
theorem C4j:aPL B6W B4V:=SS.wp2 hlz [] P2 C3v (fun d=>rfl) _ (fun d=>C48 d.1.1 d.1.2.2.2.1)
noncomputable def J8 (a0:Int):ByteArray:=(cond (decide (a0≤(0:Int))) (⟨#[109,48]⟩:ByteArray) ((⟨#[109]⟩:ByteArray)++(C10 13 a0 bE)))
noncomputable abbrev B3J (r:ByteArray):AV×List AObj:=((.t true .str r),[])
noncomputable abbrev B7L:H5 B0V→AV×List AObj:=fun d=>B3J (J8 d.1)
noncomputable def J7 (a0:Int):Bool:=decide (a0≤1000000000000)
noncomputable abbrev B4j:H5 B0V→Bool:=fun d=>J7 d.1
noncomputable abbrev C7y:Nat→St→Option Tree:=fun b=>match b with | 0=>B6W | _=>fun _=>none
theorem C5K:A7h true G69 (C7y) Try.f117 B0V B4j B7L:=by
 rintro ⟨a0,_⟩ hp
 change J7 a0=true at hp
 unfold J7 at hp
 refine Eq.trans (b:=(cond (decide (a0≤(0:Int))) (some (B3J (⟨#[109,48]⟩:ByteArray))) (cond (decide (a0≤1000000000000)&&decide ((⟨#[]⟩:ByteArray).size≤1000)) (cond (decide ((((⟨#[109]⟩:ByteArray).size+(C10 13 a0 (⟨#[]⟩:ByteArray)).size:Nat):Int)≤IntKind.i64.max)) (some (B3J ((⟨#[109]⟩:ByteArray)++(C10 13 a0 (⟨#[]⟩:ByteArray))))) none) none))) (by kernel_rfl) ?_
 exact (N4 B3J (fun _h=>rfl) (fun _h=>(A7k (by rw [hp];rfl) (fun _h=>(A7k (by have h1:=D0Z 13 a0 (⟨#[]⟩:ByteArray);rw [decide_eq_true_eq];have h2:((⟨#[]⟩:ByteArray)).size=0:=rfl;have h3:((⟨#[109]⟩:ByteArray)).size=1:=rfl;rw [h2] at h1;rw [h3,show IntKind.i64.max=9223372036854775807 from rfl];omega) (fun _h=>rfl))))))
theorem C7S:aPP 117 (A2T B0V B4j B7L):=pcD true G69 (hl1 (i:=0) (by kernel_rfl) C4j) C5K
noncomputable def S70:Tab:=Tab.add S69 117 (lift (A2T B0V B4j B7L))
noncomputable def D2Z:FuncId→Bool:=qadd D2Y 117
theorem G70:aPG S70 D2Z:=G69.addQ C7S (cbl Try.f117) (fun _=>rfl)

abbrev D3R:List Sh:=.junk::.junk::.junk::.junk::C5i
abbrev u31:=((),(),u29)
abbrev D3E:List AV:=.junk::.junk::.junk::.junk::D3a

noncomputable def K9 (i:Nat) (b:Int×Lq1):Int×Lq1:=(wI ((wI ((wI (b.1+(1:Int)))+(1:Int)))+(1:Int)),((b.2.set i (b.1,(((b.2.getD i ((0:Int),(bE,bE))).2).1,((b.2.getD i ((0:Int),(bE,bE))).2).2))).set i (((b.2.set i (b.1,(((b.2.getD i ((0:Int),(bE,bE))).2).1,((b.2.getD i ((0:Int),(bE,bE))).2).2))).getD i ((0:Int),(bE,bE))).1,((J8 (wI (b.1+(1:Int)))),(((b.2.set i (b.1,(((b.2.getD i ((0:Int),(bE,bE))).2).1,((b.2.getD i ((0:Int),(bE,bE))).2).2))).getD i ((0:Int),(bE,bE))).2).2))).set i ((((b.2.set i (b.1,(((b.2.getD i ((0:Int),(bE,bE))).2).1,((b.2.getD i ((0:Int),(bE,bE))).2).2))).set i (((b.2.set i (b.1,(((b.2.getD i ((0:Int),(bE,bE))).2).1,((b.2.getD i ((0:Int),(bE,bE))).2).2))).getD i ((0:Int),(bE,bE))).1,((J8 (wI (b.1+(1:Int)))),(((b.2.set i (b.1,(((b.2.getD i ((0:Int),(bE,bE))).2).1,((b.2.getD i ((0:Int),(bE,bE))).2).2))).getD i ((0:Int),(bE,bE))).2).2))).getD i ((0:Int),(bE,bE))).1,(((((b.2.set i (b.1,(((b.2.getD i ((0:Int),(bE,bE))).2).1,((b.2.getD i ((0:Int),(bE,bE))).2).2))).set i (((b.2.set i (b.1,(((b.2.getD i ((0:Int),(bE,bE))).2).1,((b.2.getD i ((0:Int),(bE,bE))).2).2))).getD i ((0:Int),(bE,bE))).1,((J8 (wI (b.1+(1:Int)))),(((b.2.set i (b.1,(((b.2.getD i ((0:Int),(bE,bE))).2).1,((b.2.getD i ((0:Int),(bE,bE))).2).2))).getD i ((0:Int),(bE,bE))).2).2))).getD i ((0:Int),(bE,bE))).2).1,(J8 (wI ((wI (b.1+(1:Int)))+(1:Int)))))))
abbrev B3x:SS:=⟨[.all 0 3,tI],[.rows 90 true tq8]⟩
abbrev U9:SS:=⟨(.all 0 3::tI::.junk::.junk::.junk::tI::D3R),[.rows 90 true tq8]⟩
abbrev B2s:SS:=⟨(.junk::tI::D1l),[.rows 90 true tq8]⟩
noncomputable def B4u (x1 x5:Int) (h0:Lq1):RT U9.den:=let z4:=wI (x1+(1:Int));let z3:=wI (z4+(1:Int));let z5:=(h0.getD x5.toNat ((0:Int),(bE,bE))).2;let z2:=h0.set x5.toNat (x1,(z5.1,z5.2));let z7:=z2.getD x5.toNat ((0:Int),(bE,bE));let z1:=z2.set x5.toNat (z7.1,((J8 z4),(z7.2).2));let z6:=z1.getD x5.toNat ((0:Int),(bE,bE));(.br (decide (x5<(h0.length:Int))) (.br (decide (0≤x5∧x5<(h0.length:Int))) (.br (J7 z4) (.br (decide (0≤x5∧x5<((z2.length:Nat):Int))) (.br (J7 z3) (.br (decide (0≤x5∧x5<((z1.length:Nat):Int))) (.next (((),wI (z3+(1:Int)),(),(),(),wI (x5+(1:Int)),u31),(z1.set x5.toNat (z6.1,((z6.2).1,(J8 z3))),()))) .fail) .fail) .fail) .fail) .fail) (.done (.exit 0) B2s (((),x1,u35),(h0,()))))
noncomputable def A9u (x1 x5:Int) (h0:Lq1):CT:=(.br (decide (0≤x5)&&(decide (0≤x1∧x1≤100000*(x5+100))&&okL h0)) (.done (.exit 0) B2s (((),((foldN K9 (h0.length - x5.toNat) x5.toNat (x1,h0)).1),u35),(((foldN K9 (h0.length - x5.toNat) x5.toNat (x1,h0)).2),()))) .fail)
noncomputable abbrev A7n:U9.den→RT U9.den:=(fun d=>B4u d.1.2.1 d.1.2.2.2.2.2.1 d.2.1)
noncomputable abbrev B9F (x1 x5:Int) (h0:Lq1):U9.den:=(((),x1,(),(),(),x5,u31),(h0,()))
noncomputable def B6F:Code:=((D3 0 (A1f Try.f83)).getD 0 (0,.skip)).2
theorem C59 (x1 x5:Int) (h0:Lq1):(A9u x1 x5 h0).val (D:=U9.den)=.fail∨Runs A7n (B9F x1 x5 h0) (A9u x1 x5 h0).val:=by
 cases hc:(decide (0≤x5)&&(decide (0≤x1∧x1≤100000*(x5+100))&&okL h0)) with
 | false=>left;simp only [A9u,CT.val,hc,cond_false]
 | true =>
  right
  simp only [A9u,CT.val,hc,cond_true]
  simp only [Bool.and_eq_true,decide_eq_true_eq] at hc
  obtain ⟨i,rfl⟩:=Int.eq_ofNat_of_zero_le hc.1
  have hs:=A66 hc.2.2
  have hk:=hc.2.1
  simp only [Int.toNat_natCast]
  refine Runs.foldN (step:=A7n) (fun j b=>B9F b.1 (j:Int) b.2) (fun i b=>(0≤b.1∧b.1≤100000*((i:Int)+100))∧b.2.length=h0.length) (h0.length) K9
   (fin:=fun b=>((.done (.exit 0) B2s (((),b.1,u35),(b.2,()))):CT).val) (fun i b hi hb=>?_) (fun i b hi hb=>?_) (h0.length - i) i (x1,h0) rfl ⟨hk,rfl⟩
  ·obtain ⟨k,h⟩:=b
   obtain ⟨hb1,hb2⟩:=hb
   simp only at hb1 hb2
   have w1:wI (k+(1:Int))=k+(1:Int):=A6r (by omega) (by omega)
   have w2:wI (k+(1:Int)+(1:Int))=k+(1:Int)+(1:Int):=A6r (by omega) (by omega)
   have w3:wI (k+(1:Int)+(1:Int)+(1:Int))=k+(1:Int)+(1:Int)+(1:Int):=A6r (by omega) (by omega)
   have e0:(decide (0≤(i:Int)∧(i:Int)<(h.length:Int)))=true:=decide_eq_true (by (try simp only [List.length_set]);omega)
   have e1:(J7 (wI (k+(1:Int))))=true:=by simp only [J7,w1,w2,w3];exact decide_eq_true (by omega)
   have e2:(decide (0≤(i:Int)∧(i:Int)<(((h.set i (k,(((h.getD i ((0:Int),((⟨#[]⟩:ByteArray),(⟨#[]⟩:ByteArray)))).2).1,((h.getD i ((0:Int),((⟨#[]⟩:ByteArray),(⟨#[]⟩:ByteArray)))).2).2))).length:Nat):Int)))=true:=decide_eq_true (by (try simp only [List.length_set]);omega)
   have e3:(J7 (wI ((wI (k+(1:Int)))+(1:Int))))=true:=by simp only [J7,w1,w2,w3];exact decide_eq_true (by omega)
   have e4:(decide (0≤(i:Int)∧(i:Int)<((((h.set i (k,(((h.getD i ((0:Int),((⟨#[]⟩:ByteArray),(⟨#[]⟩:ByteArray)))).2).1,((h.getD i ((0:Int),((⟨#[]⟩:ByteArray),(⟨#[]⟩:ByteArray)))).2).2))).set i (((h.set i (k,(((h.getD i ((0:Int),((⟨#[]⟩:ByteArray),(⟨#[]⟩:ByteArray)))).2).1,((h.getD i ((0:Int),((⟨#[]⟩:ByteArray),(⟨#[]⟩:ByteArray)))).2).2))).getD i ((0:Int),((⟨#[]⟩:ByteArray),(⟨#[]⟩:ByteArray)))).1,((J8 (wI (k+(1:Int)))),(((h.set i (k,(((h.getD i ((0:Int),((⟨#[]⟩:ByteArray),(⟨#[]⟩:ByteArray)))).2).1,((h.getD i ((0:Int),((⟨#[]⟩:ByteArray),(⟨#[]⟩:ByteArray)))).2).2))).getD i ((0:Int),((⟨#[]⟩:ByteArray),(⟨#[]⟩:ByteArray)))).2).2))).length:Nat):Int)))=true:=decide_eq_true (by (try simp only [List.length_set]);omega)
   have h1:decide ((i:Int)<(h.length:Int))=true:=decide_eq_true (by omega)
   have v1:(K9 i (k,h)).1=k+(1:Int)+(1:Int)+(1:Int):=by simp only [K9,w1,w2,w3]
   have v2:(K9 i (k,h)).2.length=h.length:=by simp only [K9,List.length_set]
   refine ⟨⟨by rw [v1];omega,by rw [v2];exact hb2⟩,?_⟩
   simp only [A7n,B4u,RT.val,h1,e0,e1,e2,e3,e4,cond_true,A7e i (by omega),Int.toNat_natCast]
   rfl
  ·have h1:decide ((i:Int)<(b.2.length:Int))=false:=decide_eq_false (by omega)
   exact ⟨by simp only [A7n,B4u,RT.val,h1,cond_false];rfl,_,_,_,rfl,by simp⟩
noncomputable def B9C (x1 x5:Int) (h0:Lq1):Option (Ex×St):=let z4:=wI (x1+(1:Int));let z3:=wI (z4+(1:Int));let z5:=(h0.getD x5.toNat ((0:Int),(bE,bE))).2;let z2:=h0.set x5.toNat (x1,(z5.1,z5.2));let z7:=z2.getD x5.toNat ((0:Int),(bE,bE));let z1:=z2.set x5.toNat (z7.1,((J8 z4),(z7.2).2));let z6:=z1.getD x5.toNat ((0:Int),(bE,bE));(cond (decide (x5<(h0.length:Int))) (cond (decide (0≤x5∧x5<(h0.length:Int))) (cond (J7 z4) (cond (decide (0≤x5∧x5<((z2.length:Nat):Int))) (cond (J7 z3) (cond (decide (0≤x5∧x5<((z1.length:Nat):Int))) (some (.normal,(⟨((.all 0 3)::(ti (wI (z3+(1:Int))))::.junk::.junk::.junk::(ti (wI (x5+(1:Int))))::D3E),[(.rows 90 true tq8 (z1.set x5.toNat (z6.1,((z6.2).1,(J8 z3)))))],1,[]⟩:St))) none) none) none) none) none) (some ((.exit 0),(⟨(.junk::(ti x1)::D1h),[(.rows 90 true tq8 h0)],1,[]⟩:St))))
theorem C4C:RdA G70 aLn 0 B6F U9 1 [] (kepts [] [(0,[1])]) (fun d=>B9C d.1.2.1 d.1.2.2.2.2.2.1 d.2.1):=by
 intro d
 kernel_rfl
theorem C4I:∀ d:U9.den,(fun d=>B9C d.1.2.1 d.1.2.2.2.2.2.1 d.2.1) d=(A7n d).opt 1 []:=by
 intro d
 kernel_rfl
noncomputable abbrev B8x:St→Option Tree:=U9.say 1 [] [] (fun d=>A9u d.1.2.1 d.1.2.2.2.2.2.1 d.2.1)
theorem C5n:aPL B8x B6F:=SS.wp2 hlz [] A7n C4C C4I _ (fun d=>C59 d.1.2.1 d.1.2.2.2.2.2.1 d.2.1)
noncomputable def J4 (x1:Int) (h0:Lq1):Int×Lq1:=let z1:=foldN K9 (h0.length - (0:Int).toNat) (0:Int).toNat (x1,h0);((z1.1),(z1.2))
noncomputable abbrev C3W (r:Int×Lq1):AV×List AObj×List Nat:=((ti r.1),[(.rows 90 true tq8 r.2)],[])
noncomputable abbrev C34:B3x.den→AV×List AObj×List Nat:=fun d=>C3W (J4 d.1.2.1 d.2.1)
noncomputable def T7 (x1:Int) (h0:Lq1):Bool:=okL h0&&decide (0≤x1∧x1≤10000000)
noncomputable abbrev C1y:B3x.den→Bool:=fun d=>T7 d.1.2.1 d.2.1
noncomputable abbrev C8I:Nat→St→Option Tree:=fun b=>match b with | 0=>B8x | _=>fun _=>none
theorem C7l:A7g G70 (C8I) Try.f83 B3x C1y C34:=by
 rintro ⟨⟨_,x1,_⟩,⟨h0,_⟩⟩ hp
 change T7 x1 h0=true at hp
 unfold T7 at hp
 refine Eq.trans (b:=(let z1:=foldN K9 (h0.length - (0:Int).toNat) (0:Int).toNat (x1,h0);cond (decide (0≤(0:Int))&&(decide (0≤x1∧x1≤100000*((0:Int)+100))&&okL h0)) (some (C3W ((z1.1),(z1.2)))) none)) (by kernel_rfl) ?_
 exact (A7k (by first | rfl | decide | exact hp | (simp only [Bool.and_eq_true] at hp;simp only [hp];done) | (simp [*];done) | (simp [okL] at hp;simp [okL,MAXB];omega) | (simp_all;done) | (simp at *;omega)) (fun _h=>rfl))
noncomputable abbrev C4o:=win E5 (msum B3x C1y C34)
theorem C82:aPM 83 C4o:=(mcM G70 (hl1 (i:=0) (by kernel_rfl) C5n) C7l).win E5
noncomputable def S71:Tab:=Tab.add S70 83 (orLend C4o)
noncomputable def D20:FuncId→Bool:=D2Z
theorem G71:aPG S71 D20:=G70.addM C82.orLend (A6E (A6S _)) (cbl Try.f83) (by kernel_rfl)


noncomputable def L2 (i:Nat) (b:Int×List Int):Int×List Int:=(wI (b.1+(1:Int)),b.2.set i b.1)
abbrev B1T:SS:=⟨[.all 0 1,tI],[.rows 3 true (.int .i64)]⟩
abbrev W1:SS:=⟨(.all 0 1::tI::.junk::.junk::.junk::tI::D1P),[.rows 3 true (.int .i64)]⟩
abbrev B1j:SS:=⟨(.junk::tI::D0b),[.rows 3 true (.int .i64)]⟩
noncomputable def B3v (x1 x5:Int) (h0:List Int):RT W1.den:=(.br (decide (x5<(h0.length:Int))) (.br (decide (0≤x5∧x5<(h0.length:Int))) (.next (((),wI (x1+(1:Int)),(),(),(),wI (x5+(1:Int)),u14),(h0.set x5.toNat x1,()))) .fail) (.done (.exit 0) B1j (((),x1,u18),(h0,()))))
noncomputable def A8s (x1 x5:Int) (h0:List Int):CT:=(.br (decide (0≤x5)&&(decide (0≤x1∧x1≤100000*(x5+100))&&okL h0)) (.done (.exit 0) B1j (((),((foldN L2 (h0.length - x5.toNat) x5.toNat (x1,h0)).1),u18),(((foldN L2 (h0.length - x5.toNat) x5.toNat (x1,h0)).2),()))) .fail)
noncomputable abbrev X4:W1.den→RT W1.den:=(fun d=>B3v d.1.2.1 d.1.2.2.2.2.2.1 d.2.1)
noncomputable abbrev B7Z (x1 x5:Int) (h0:List Int):W1.den:=(((),x1,(),(),(),x5,u14),(h0,()))
noncomputable def B4T:Code:=((D3 0 (A1f Try.f114)).getD 0 (0,.skip)).2
theorem C47 (x1 x5:Int) (h0:List Int):(A8s x1 x5 h0).val (D:=W1.den)=.fail∨Runs X4 (B7Z x1 x5 h0) (A8s x1 x5 h0).val:=by
 cases hc:(decide (0≤x5)&&(decide (0≤x1∧x1≤100000*(x5+100))&&okL h0)) with
 | false=>left;simp only [A8s,CT.val,hc,cond_false]
 | true =>
  right
  simp only [A8s,CT.val,hc,cond_true]
  simp only [Bool.and_eq_true,decide_eq_true_eq] at hc
  obtain ⟨i,rfl⟩:=Int.eq_ofNat_of_zero_le hc.1
  have hs:=A66 hc.2.2
  have hk:=hc.2.1
  simp only [Int.toNat_natCast]
  refine Runs.foldN (step:=X4) (fun j b=>B7Z b.1 (j:Int) b.2) (fun i b=>(0≤b.1∧b.1≤100000*((i:Int)+100))∧b.2.length=h0.length) (h0.length) L2
   (fin:=fun b=>((.done (.exit 0) B1j (((),b.1,u18),(b.2,()))):CT).val) (fun i b hi hb=>?_) (fun i b hi hb=>?_) (h0.length - i) i (x1,h0) rfl ⟨hk,rfl⟩
  ·obtain ⟨k,h⟩:=b
   obtain ⟨hb1,hb2⟩:=hb
   simp only at hb1 hb2
   have w1:wI (k+(1:Int))=k+(1:Int):=A6r (by omega) (by omega)
   have e0:(decide (0≤(i:Int)∧(i:Int)<(h.length:Int)))=true:=decide_eq_true (by (try simp only [List.length_set]);omega)
   have h1:decide ((i:Int)<(h.length:Int))=true:=decide_eq_true (by omega)
   have v1:(L2 i (k,h)).1=k+(1:Int):=by simp only [L2,w1]
   have v2:(L2 i (k,h)).2.length=h.length:=by simp only [L2,List.length_set]
   refine ⟨⟨by rw [v1];omega,by rw [v2];exact hb2⟩,?_⟩
   simp only [X4,B3v,RT.val,h1,e0,cond_true,A7e i (by omega),Int.toNat_natCast]
   rfl
  ·have h1:decide ((i:Int)<(b.2.length:Int))=false:=decide_eq_false (by omega)
   exact ⟨by simp only [X4,B3v,RT.val,h1,cond_false];rfl,_,_,_,rfl,by simp⟩
theorem C3t:RdA G71 aLn 0 B4T W1 1 [] (kepts [] [(0,[1])]) (fun d=>(X4 d).opt 1 []):=by
 intro d
 kernel_rfl
noncomputable abbrev B6U:St→Option Tree:=W1.say 1 [] [] (fun d=>A8s d.1.2.1 d.1.2.2.2.2.2.1 d.2.1)
theorem C4h:aPL B6U B4T:=SS.wp2 hlz [] X4 C3t (fun d=>rfl) _ (fun d=>C47 d.1.2.1 d.1.2.2.2.2.2.1 d.2.1)
noncomputable def A88 (x1:Int) (h0:List Int):Int×List Int:=let z1:=foldN L2 (h0.length - (0:Int).toNat) (0:Int).toNat (x1,h0);((z1.1),(z1.2))
noncomputable abbrev C2J (r:Int×List Int):AV×List AObj×List Nat:=((ti r.1),[(.rows 3 true (.int .i64) r.2)],[])
noncomputable abbrev C2O:B1T.den→AV×List AObj×List Nat:=fun d=>C2J (A88 d.1.2.1 d.2.1)
noncomputable def Y0 (x1:Int) (h0:List Int):Bool:=okL h0&&decide (0≤x1∧x1≤10000000)
noncomputable abbrev B9G:B1T.den→Bool:=fun d=>Y0 d.1.2.1 d.2.1
noncomputable abbrev C7w:Nat→St→Option Tree:=fun b=>match b with | 0=>B6U | _=>fun _=>none
theorem C5I:A7g G71 (C7w) Try.f114 B1T B9G C2O:=by
 rintro ⟨⟨_,x1,_⟩,⟨h0,_⟩⟩ hp
 change Y0 x1 h0=true at hp
 unfold Y0 at hp
 refine Eq.trans (b:=(let z1:=foldN L2 (h0.length - (0:Int).toNat) (0:Int).toNat (x1,h0);cond (decide (0≤(0:Int))&&(decide (0≤x1∧x1≤100000*((0:Int)+100))&&okL h0)) (some (C2J ((z1.1),(z1.2)))) none)) (by kernel_rfl) ?_
 exact (A7k (by first | rfl | decide | exact hp | (simp only [Bool.and_eq_true] at hp;simp only [hp];done) | (simp [*];done) | (simp [okL] at hp;simp [okL,MAXB];omega) | (simp_all;done) | (simp at *;omega)) (fun _h=>rfl))
noncomputable abbrev C2W:=win E5 (msum B1T B9G C2O)
theorem C7Q:aPM 114 C2W:=(mcM G71 (hl1 (i:=0) (by kernel_rfl) C4h) C5I).win E5
noncomputable def S72:Tab:=Tab.add S71 114 (orLend C2W)
noncomputable def D21:FuncId→Bool:=D20
theorem G72:aPG S72 D21:=G71.addM C7Q.orLend (A6E (A6S _)) (cbl Try.f114) (by kernel_rfl)


end Go.Proofs.Ytapikgcgahomlaa.Eng
