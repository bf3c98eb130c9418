/- What the functions that FnExactMakeSure reaches compute: further. -/
import Derived.Test.YtgglehejlddghaaFExactMakeSureA
namespace Go.Proofs.Ytgglehejlddghaa.Eng
open Go Go.RowKit
set_option linter.unusedSimpArgs false
set_option linter.unusedVariables false
set_option maxRecDepth 10000
abbrev B3H:List PSh:=[.t tq3]
abbrev A0c:SS:=⟨(.junk::.junk::.junk::.all 0 3::.junk::.junk::.t false tq3::tI::tI::D8a),[.deep 32 [85] tq5]⟩
abbrev B9c:SS:=⟨(.junk::.junk::.junk::.all 0 3::D10),[.deep 32 [85] tq5]⟩
noncomputable def C1q (x6:Lq1) (x7 x8:Int) (h0:Lq1):RT A0c.den:=let z1:=x6.getD x8.toNat ((0:Int),((0:Int),[]));let z2:=L1 ((z1.2).2);(.br (decide (x8<x7)) (.br (decide (0≤x8∧x8<(x6.length:Int))) (.br (K0 ((z1.2).2)) (.br (decide ((h0.length+([(z1.1,((z1.2).1,z2))]:Lq1).length)*40≤MAXB)) (.next (((),(),(),(),(),(),x6,x7,wI (x8+(1:Int)),u14),(h0++([(z1.1,((z1.2).1,z2))]),()))) .fail) .fail) .fail) (.done (.exit 0) B9c ((u23),(h0,()))))
abbrev B0Y:=(Lq1)×(Int)×(Int)×(Lq1)
abbrev B0L:=Nat×(Lq1)
def A9T:B0L:=(99,([]:Lq1))
noncomputable def B0j (x6:Lq1) (x7 x8:Int) (h0:Lq1):B0Y ⊕ B0L:=let z1:=x6.getD x8.toNat ((0:Int),((0:Int),[]));let z2:=L1 ((z1.2).2);(cond (decide (x8<x7)) (cond (decide (0≤x8∧x8<(x6.length:Int))) (cond (K0 ((z1.2).2)) (cond (decide ((h0.length+([(z1.1,((z1.2).1,z2))]:Lq1).length)*40≤MAXB)) (.inl (x6,x7,wI (x8+(1:Int)),h0++([(z1.1,((z1.2).1,z2))]))) (.inr A9T)) (.inr A9T)) (.inr A9T)) (.inr (0,h0)))
noncomputable def C0A (x6:Lq1) (x7 x8:Int) (h0:Lq1):B0L:=itX (fun v:B0Y=>B0j v.1 v.2.1 v.2.2.1 v.2.2.2) A9T (x6,x7,x8,h0)
noncomputable def B5B (a:B0L):CT:=(.br (a.1==0) (.done (.exit 0) B9c ((u23),(a.2,()))) .fail)
noncomputable def C8T (x6:Lq1) (x7 x8:Int) (h0:Lq1):CT:=B5B (C0A x6 x7 x8 h0)
noncomputable abbrev C0c {α:Sort _} (f:Lq1→Int→Int→Lq1→α) (d:A0c.den):α:=f d.1.2.2.2.2.2.2.1 d.1.2.2.2.2.2.2.2.1 d.1.2.2.2.2.2.2.2.2.1 d.2.1
noncomputable abbrev B54:A0c.den→RT A0c.den:=(C0c C1q)
noncomputable def B7r:Code:=((D4 0 (A1l Try.f80)).getD 0 (0,.skip)).2
noncomputable abbrev C0Z (v:B0Y):A0c.den:=(((),(),(),(),(),(),v.1,v.2.1,v.2.2.1,u14),(v.2.2.2,()))
theorem C8r:(∀ v:B0Y,(C1q v.1 v.2.1 v.2.2.1 v.2.2.2).val=A6D C0Z B5B (B0j v.1 v.2.1 v.2.2.1 v.2.2.2))∧∀ a:B0L,CEnd A0c.den (B5B a):=⟨fun v=>(A7G (A7G (A7G (A7G rfl rfl) rfl) rfl) rfl),fun a=>(A7t aCD A7v)⟩
theorem C6U:RdA (G40.deep ow) aLn 0 B7r A0c 0 [] (kepts [] [(0,[3])]) (fun d=>(B54 d).opt 0 []):=by
 intro d
 kernel_rfl
noncomputable abbrev B9A:St→Option Tree:=A0c.say 0 [] [(3,850000032,tq5)] (C0c C8T)
theorem C75:aPL B9A B7r:=SS.wp2 hlz [(3,850000032,tq5)] B54 C6U (fun d=>rfl) _ (fun d=>Runs.ofI2 (step:=B54) C0Z C8r rfl (d.1.2.2.2.2.2.2.1,d.1.2.2.2.2.2.2.2.1,d.1.2.2.2.2.2.2.2.2.1,d.2.1))
noncomputable def B2r (a0:Lq1):=C0A a0 (a0.length:Int) (0:Int) ([]:Lq1)
noncomputable def B3d (a0:Lq1):Lq1:=((B2r a0).2)
noncomputable abbrev C51 (r:Lq1):AV×List AObj:=((.all 0 3),[(.deep 32 [85] tq5 r)])
noncomputable abbrev C0u:H7 B3H→AV×List AObj:=fun d=>C51 (B3d d.1)
noncomputable def A75 (a0:Lq1):Bool:=((B2r a0).1==0)
noncomputable abbrev B6T:H7 B3H→Bool:=fun d=>A75 d.1
noncomputable abbrev D1j:Nat→St→Option Tree:=fun b=>match b with | 0=>B9A | _=>fun _=>none
theorem C9n:A7B false (G40.deep ow) (D1j) Try.f80 B3H B6T C0u:=by
 rintro ⟨a0,_⟩ hp
 change A75 a0=true at hp
 unfold A75 at hp
 refine Eq.trans (b:=(cond ((B2r a0).1==0) (some (C51 ((B2r a0).2))) none)) (by kernel_rfl) ?_
 exact (A7E hp fun _h=>rfl)
theorem D1B:aPP 80 (A21 B3H B6T C0u):=pcD false (G40.deep ow) (hl1 (i:=0) (by kernel_rfl) C75) C9n
noncomputable def S41:Tab:=Tab.add S40 80 (lift (A21 B3H B6T C0u))
noncomputable def D5L:FuncId→Bool:=D68
theorem G41:aPG S41 D5L:=G40.add D1B (cbl Try.f80) (by kernel_rfl)

abbrev A7V:List PSh:=[.t tq6]
noncomputable def L2 (a0:LBBe):LBBe:=a0
noncomputable abbrev X2 (r:LBBe):AV×List AObj:=(.all 0 2,[.rows 70 true J8 r])
noncomputable abbrev B3R:H7 A7V→AV×List AObj:=fun d=>X2 (L2 d.1)
noncomputable def J7 (a0:LBBe):Bool:=decide ((([]:LBBe).length+a0.length)*32≤MAXB)
noncomputable abbrev B2x:H7 A7V→Bool:=fun d=>J7 d.1
theorem B9N (a0:LBBe) (h0:0<a0.length) (hp:J7 a0=true):A6F false Try.prog tt S41 D5L aLn Try.f64 [.t (Ty.sl J8).flat tq6 a0]=some (X2 a0):=by
 refine Eq.trans (b:=cond (decide (0<a0.length)) (cond (J7 a0) (some (X2 a0)) none) none) (by kernel_rfl) ?_
 rw [decide_eq_true h0,hp];rfl
theorem B9O (A:Option Addr) (c:Nat):A6F false Try.prog tt S41 D5L aLn Try.f64 [.raw (.slice A 0 c)]=some (X2 []):=by
 cases A<;>kernel_rfl
theorem C0k:aPP 64 (A21 A7V B2x B3R):=PContract.split (e:=J8) (pre:=J7) (g:=fun a0=>X2 (L2 a0)) (fun l h0 hp=>PCalls.of_run false G41 (fn:=Try.f64) (by kernel_rfl) (L:=fun _ _=>none) (by rw [show D4 0 (A1l Try.f64)=[] by kernel_rfl];simp) (B9N l h0 hp) rfl rfl) (fun A c=>PCalls.of_run false G41 (fn:=Try.f64) (by kernel_rfl) (L:=fun _ _=>none) (by rw [show D4 0 (A1l Try.f64)=[] by kernel_rfl];simp) (B9O A c) rfl rfl)
noncomputable def S42:Tab:=Tab.add S41 64 (lift (A21 A7V B2x B3R))
noncomputable def D69:FuncId→Bool:=D5L
theorem G42:aPG S42 D69:=G41.add C0k ⟨Try.f64,by kernel_rfl,by kernel_rfl,by kernel_rfl⟩ (by kernel_rfl)

abbrev B1X:List PSh:=[.agg [(.int .i64),tq3,(.int .i64),tq6,tq3]]
noncomputable def B5M (a0:Int) (a1:Lq1) (a2:Int) (a3:LBBe) (a4:Lq1):Int×Int×Lq1×LBBe×Lq1:=(a0,a2,(B3d a1),(L2 a3),(B3d a4))
noncomputable abbrev C3Y (r:Int×Int×Lq1×LBBe×Lq1):AV×List AObj:=((.agg [(ti r.1),(.all 0 3),(ti r.2.1),(.all 1 2),(.all 2 3)]),[(.deep 32 [85] tq5 r.2.2.1),(.rows 70 true J8 r.2.2.2.1),(.deep 32 [85] tq5 r.2.2.2.2)])
noncomputable abbrev B8s:H7 B1X→AV×List AObj:=fun d=>C3Y (B5M d.1.1 d.1.2.1 d.1.2.2.1 d.1.2.2.2.1 d.1.2.2.2.2.1)
noncomputable def A8W (a0:Int) (a1:Lq1) (a2:Int) (a3:LBBe) (a4:Lq1):Bool:=(A75 a1)&&((J7 a3)&&(A75 a4))
noncomputable abbrev B5R:H7 B1X→Bool:=fun d=>A8W d.1.1 d.1.2.1 d.1.2.2.1 d.1.2.2.2.1 d.1.2.2.2.2.1
theorem C8x:A7B false (G42.deep ow) aLn Try.f40 B1X B5R B8s:=by
 rintro ⟨⟨a0,⟨a1,⟨a2,⟨a3,⟨a4,_⟩⟩⟩⟩⟩,_⟩ hp
 change A8W a0 a1 a2 a3 a4=true at hp
 unfold A8W at hp
 refine Eq.trans (b:=(cond (A75 a1) (cond (J7 a3) (cond (A75 a4) (some (C3Y (a0,a2,(B3d a1),(L2 a3),(B3d a4)))) none) none) none)) (by kernel_rfl) ?_
 exact (A7C hp fun hp=>(A7C hp fun hp=>(A7E hp fun _h=>rfl)))
theorem C9W:aPP 40 (A21 B1X B5R B8s):=pcD false (G42.deep ow) hlz C8x
noncomputable def S43:Tab:=Tab.add S42 40 (lift (A21 B1X B5R B8s))
noncomputable def D7a:FuncId→Bool:=D69
theorem G43:aPG S43 D7a:=G42.add C9W (cbl Try.f40) (by kernel_rfl)

abbrev B5d:List PSh:=[.t (.int .i64),.t (.int .i64),.t (.int .i64)]
noncomputable def A8w (a0 a1 a2:Int):Bool:=(cond (decide (a0 ≥ a1)) (decide (a0≤a2)) false)
noncomputable abbrev B8l (r:Bool):AV×List AObj:=((.t true .bool r),[])
noncomputable abbrev C2S:H7 B5d→AV×List AObj:=fun d=>B8l (A8w d.1 d.2.1 d.2.2.1)
noncomputable abbrev B8L:H7 B5d→Bool:=fun d=>true
theorem D01:A7B true G43 aLn Try.f44 B5d B8L C2S:=by
 rintro ⟨a0,⟨a1,⟨a2,_⟩⟩⟩ hp
 refine Eq.trans (b:=(cond (decide (a0 ≥ a1)) (some (B8l (decide (a0≤a2)))) (some (B8l false)))) (by kernel_rfl) ?_
 exact (P9 B8l (fun _h=>rfl) (fun _h=>rfl))
theorem D27:aPP 44 (A21 B5d B8L C2S):=pcD true G43 hlz D01
noncomputable def S44:Tab:=Tab.add S43 44 (lift (A21 B5d B8L C2S))
noncomputable def D7b:FuncId→Bool:=qadd D7a 44
theorem G44:aPG S44 D7b:=G43.addQ D27 (cbl Try.f44) (fun _=>rfl)

abbrev C3H:List PSh:=[.t (.int .i64)]
noncomputable def D1W (a0:Int):Bool:=(A8w a0 (0:Int) (7:Int))
noncomputable abbrev D5W (r:Bool):AV×List AObj:=((.t true .bool r),[])
noncomputable abbrev C98:H7 C3H→AV×List AObj:=fun d=>D5W (D1W d.1)
noncomputable abbrev C5A:H7 C3H→Bool:=fun d=>true
theorem D4D:A7B true G44 aLn Try.f43 C3H C5A C98:=by
 rintro ⟨a0,_⟩ hp
 kernel_rfl
theorem D5N:aPP 43 (A21 C3H C5A C98):=pcD true G44 hlz D4D
noncomputable def S45:Tab:=Tab.add S44 43 (lift (A21 C3H C5A C98))
noncomputable def D7c:FuncId→Bool:=qadd D7b 43
theorem G45:aPG S45 D7c:=G44.addQ D5N (cbl Try.f43) (fun _=>rfl)

abbrev C3I:List PSh:=[.t (.int .i64)]
noncomputable def C59 (a0:Int):Bool:=(A8w a0 (1:Int) (1000000:Int))
noncomputable abbrev D5X (r:Bool):AV×List AObj:=((.t true .bool r),[])
noncomputable abbrev C99:H7 C3I→AV×List AObj:=fun d=>D5X (C59 d.1)
noncomputable abbrev C5B:H7 C3I→Bool:=fun d=>true
theorem D4E:A7B true G45 aLn Try.f91 C3I C5B C99:=by
 rintro ⟨a0,_⟩ hp
 kernel_rfl
theorem D5O:aPP 91 (A21 C3I C5B C99):=pcD true G45 hlz D4E
noncomputable def S46:Tab:=Tab.add S45 91 (lift (A21 C3I C5B C99))
noncomputable def D7d:FuncId→Bool:=qadd D7c 91
theorem G46:aPG S46 D7d:=G45.addQ D5O (cbl Try.f91) (fun _=>rfl)

abbrev B1Z:List PSh:=[.t (.int .u8)]
noncomputable def B5N (a0:Int):Bool:=let z1:=decide (a0 ≥ (48:Int));let z2:=decide (a0≤(57:Int));(cond (decide (a0 ≥ (97:Int))) (cond (decide (a0≤(122:Int))) true (cond z1 z2 false)) (cond z1 z2 false))
noncomputable abbrev A0a (r:Bool):AV×List AObj:=((.t true .bool r),[])
noncomputable abbrev B8u:H7 B1Z→AV×List AObj:=fun d=>A0a (B5N d.1)
noncomputable abbrev B5T:H7 B1Z→Bool:=fun d=>true
theorem C8z:A7B true G46 aLn Try.f149 B1Z B5T B8u:=by
 rintro ⟨a0,_⟩ hp
 refine Eq.trans (b:=(let z1:=A0a (decide (a0≤(57:Int)));let z2:=decide (a0 ≥ (48:Int));cond (decide (a0 ≥ (97:Int))) (cond (decide (a0≤(122:Int))) (some (A0a true)) (cond z2 (some z1) (some (A0a false)))) (cond z2 (some z1) (some (A0a false))))) (by kernel_rfl) ?_
 exact (P9 A0a (fun _h=>(P9 A0a (fun _h=>rfl) (fun _h=>(P9 A0a (fun _h=>rfl) (fun _h=>rfl))))) (fun _h=>(P9 A0a (fun _h=>rfl) (fun _h=>rfl))))
theorem C9Y:aPP 149 (A21 B1Z B5T B8u):=pcD true G46 hlz C8z
noncomputable def S47:Tab:=Tab.add S46 149 (lift (A21 B1Z B5T B8u))
noncomputable def D7e:FuncId→Bool:=qadd D7d 149
theorem G47:aPG S47 D7e:=G46.addQ C9Y (cbl Try.f149) (fun _=>rfl)

abbrev D79:List Sh:=.junk::.junk::.junk::.junk::.junk::.junk::.junk::.junk::.junk::.junk::.junk::[]
abbrev u12:=((),(),(),(),(),(),(),(),(),(),(),())
noncomputable def B8C (s:ByteArray) (i:Nat):Bool:=B5N (bt s (i:Int))
abbrev B7f:List PSh:=[.t .str]
abbrev A9H:SS:=⟨(.t true .str::.junk::.junk::tI::D79),[]⟩
abbrev C10:SS:=⟨(.junk::.junk::.t true .bool::D5s),[]⟩
abbrev C11:SS:=⟨(.junk::D4v),[]⟩
noncomputable def B9a (x0:ByteArray) (x3:Int):RT A9H.den:=(.br (decide (x3<(x0.size:Int))) (.br (decide (0≤x3∧x3<(x0.size:Int))) (.br (!(B5N (bt x0 x3))) (.done .ret C10 (((),(),false,u13),())) (.next ((x0,(),(),wI (x3+(1:Int)),u12),()))) .fail) (.done (.exit 0) C11 ((u16),())))
noncomputable def B3M (x0:ByteArray) (x3:Int):CT:=(.br (decide (0≤x3)&&okS x0) (.br (A4G (B8C x0) (x0.size - x3.toNat) x3.toNat) (.done (.exit 0) C11 ((u16),())) (.done .ret C10 (((),(),false,u13),()))) .fail)
noncomputable abbrev B2G:A9H.den→RT A9H.den:=(fun d=>B9a d.1.1 d.1.2.2.2.1)
noncomputable abbrev C4p (x0:ByteArray) (x3:Int):A9H.den:=((x0,(),(),x3,u12),())
noncomputable def C0d:Code:=((D4 0 (A1l Try.f147)).getD 0 (0,.skip)).2
theorem D1o (x0:ByteArray) (x3:Int):(B3M x0 x3).val (D:=A9H.den)=.fail∨Runs B2G (C4p x0 x3) (B3M x0 x3).val:=by
 cases hc:(decide (0≤x3)&&okS x0) with
 | false=>left;simp only [B3M,CT.val,hc,cond_false]
 | true =>
  right
  simp only [B3M,CT.val,hc,cond_true]
  simp only [Bool.and_eq_true,decide_eq_true_eq] at hc
  obtain ⟨i,rfl⟩:=Int.eq_ofNat_of_zero_le hc.1
  have hs:=A7q hc.2
  simp only [Int.toNat_natCast]
  refine Runs.scan (fun j=>C4p x0 (j:Int)) (x0.size) (B8C x0) (fun i hi=>?_) (fun i hi=>?_) ⟨_,_,_,rfl,by simp⟩ ⟨_,_,_,rfl,by simp⟩ _ _ rfl
  ·
   have h0a:decide ((i:Int)<(x0.size:Int))=true:=decide_eq_true (by omega)
   have h0b:decide (0≤(i:Int)∧(i:Int)<(x0.size:Int))=true:=decide_eq_true (by omega)
   simp only [B2G,B9a,RT.val,h0a,h0b,cond_true,A7x i (by omega),Int.toNat_natCast]
   simp only [B8C]
   cases B5N (bt x0 (i:Int))<;>rfl
  ·have h1:decide ((i:Int)<(x0.size:Int))=false:=decide_eq_false (by omega)
   simp only [B2G,B9a,RT.val,h1,cond_false]
theorem C89:RdA G47 aLn 0 C0d A9H 0 [] (kepts [2] [(0,[])]) (fun d=>(B2G d).opt 0 []):=by
 intro d
 kernel_rfl
noncomputable abbrev C2B:St→Option Tree:=A9H.say 0 [] [] (fun d=>B3M d.1.1 d.1.2.2.2.1)
theorem D0q:aPL C2B C0d:=SS.wp2 hlz [] B2G C89 (fun d=>rfl) _ (fun d=>D1o d.1.1 d.1.2.2.2.1)
noncomputable def C7i (a0:ByteArray):Bool:=(cond (A4G (B8C a0) (a0.size - (0:Int).toNat) (0:Int).toNat) true false)
noncomputable abbrev C1F (r:Bool):AV×List AObj:=((.t true .bool r),[])
noncomputable abbrev C5f:H7 B7f→AV×List AObj:=fun d=>C1F (C7i d.1)
noncomputable def C1U (a0:ByteArray):Bool:=okS a0
noncomputable abbrev C0L:H7 B7f→Bool:=fun d=>C1U d.1
noncomputable abbrev D3Z:Nat→St→Option Tree:=fun b=>match b with | 0=>C2B | _=>fun _=>none
theorem D2s:A7B true G47 (D3Z) Try.f147 B7f C0L C5f:=by
 rintro ⟨a0,_⟩ hp
 change C1U a0=true at hp
 unfold C1U at hp
 refine Eq.trans (b:=(cond (decide (0≤(0:Int))&&okS a0) (cond (A4G (B8C a0) (a0.size - (0:Int).toNat) (0:Int).toNat) (some (C1F true)) (some (C1F false))) none)) (by kernel_rfl) ?_
 exact (A7E (by first | rfl | decide | exact hp | (simp only [Bool.and_eq_true] at hp;simp only [hp];done) | (simp [*];done) | (simp [okL] at hp;simp [okL,MAXB];omega) | (simp_all;done) | (simp at *;omega)) (fun _h=>(P9 C1F (fun _h=>rfl) (fun _h=>rfl))))
theorem D4c:aPP 147 (A21 B7f C0L C5f):=pcD true G47 (hl1 (i:=0) (by kernel_rfl) D0q) D2s
noncomputable def S48:Tab:=Tab.add S47 147 (lift (A21 B7f C0L C5f))
noncomputable def D7f:FuncId→Bool:=qadd D7e 147
theorem G48:aPG S48 D7f:=G47.addQ D4c (cbl Try.f147) (fun _=>rfl)

abbrev B9U:List PSh:=[.t .str]
noncomputable def B6Q (a0:ByteArray):Bool:=(cond (A8w (a0.size:Int) (1:Int) (12:Int)) (C7i a0) false)
noncomputable abbrev C3V (r:Bool):AV×List AObj:=((.t true .bool r),[])
noncomputable abbrev C7H:H7 B9U→AV×List AObj:=fun d=>C3V (B6Q d.1)
noncomputable def C4z (a0:ByteArray):Bool:=okS a0
noncomputable abbrev C26:H7 B9U→Bool:=fun d=>C4z d.1
theorem D3y:A7B true G48 aLn Try.f141 B9U C26 C7H:=by
 rintro ⟨a0,_⟩ hp
 change C4z a0=true at hp
 unfold C4z at hp
 refine Eq.trans (b:=(cond (A8w (a0.size:Int) (1:Int) (12:Int)) (cond (C1U a0) (some (C3V (C7i a0))) none) (some (C3V false)))) (by kernel_rfl) ?_
 exact (P9 C3V (fun _h=>(A7E (by first | rfl | decide | exact hp | (simp only [Bool.and_eq_true] at hp;simp only [hp];done) | (simp [*];done) | (simp [okL] at hp;simp [okL,MAXB];omega) | (simp_all;done) | (simp at *;omega)) (fun _h=>rfl))) (fun _h=>rfl))
theorem D43:aPP 141 (A21 B9U C26 C7H):=pcD true G48 hlz D3y
noncomputable def S49:Tab:=Tab.add S48 141 (lift (A21 B9U C26 C7H))
noncomputable def D7g:FuncId→Bool:=qadd D7f 141
theorem G49:aPG S49 D7g:=G48.addQ D43 (cbl Try.f141) (fun _=>rfl)

abbrev C3J:List PSh:=[.agg [(.int .i64),.str,.str]]
noncomputable def C70 (a0:Int) (a1 a2:ByteArray):Bool:=let z1:=decide ((a2.size:Int)≤(20:Int));(cond (a0==(1:Int)) (cond (B6Q a1) z1 false) (cond (a0==(3:Int)) (cond (B6Q a1) z1 false) (cond (a0==(2:Int)) (cond (B6Q a1) (a2.toList==bE.toList) false) false)))
noncomputable abbrev B0n (r:Bool):AV×List AObj:=((.t true .bool r),[])
noncomputable abbrev D0a:H7 C3J→AV×List AObj:=fun d=>B0n (C70 d.1.1 d.1.2.1 d.1.2.2.1)
noncomputable def C1V (a0:Int) (a1 a2:ByteArray):Bool:=okS a1
noncomputable abbrev C5C:H7 C3J→Bool:=fun d=>C1V d.1.1 d.1.2.1 d.1.2.2.1
theorem D4F:A7B true G49 aLn Try.f128 C3J C5C D0a:=by
 rintro ⟨⟨a0,⟨a1,⟨a2,_⟩⟩⟩,_⟩ hp
 change C1V a0 a1 a2=true at hp
 unfold C1V at hp
 refine Eq.trans (b:=(let z1:=B0n (decide ((a2.size:Int)≤(20:Int)));let z2:=C4z a1;cond (a0==(1:Int)) (cond z2 (cond (B6Q a1) (some z1) (some (B0n false))) none) (cond (a0==(3:Int)) (cond z2 (cond (B6Q a1) (some z1) (some (B0n false))) none) (cond (a0==(2:Int)) (cond z2 (cond (B6Q a1) (some (B0n (a2.toList==(⟨#[]⟩:ByteArray).toList))) (some (B0n false))) none) (some (B0n false)))))) (by kernel_rfl) ?_
 exact (P9 B0n (fun _h=>(A7E (by first | rfl | decide | exact hp | (simp only [Bool.and_eq_true] at hp;simp only [hp];done) | (simp [*];done) | (simp [okL] at hp;simp [okL,MAXB];omega) | (simp_all;done) | (simp at *;omega)) (fun _h=>(P9 B0n (fun _h=>rfl) (fun _h=>rfl))))) (fun _h=>(P9 B0n (fun _h=>(A7E (by first | rfl | decide | exact hp | (simp only [Bool.and_eq_true] at hp;simp only [hp];done) | (simp [*];done) | (simp [okL] at hp;simp [okL,MAXB];omega) | (simp_all;done) | (simp at *;omega)) (fun _h=>(P9 B0n (fun _h=>rfl) (fun _h=>rfl))))) (fun _h=>(P9 B0n (fun _h=>(A7E (by first | rfl | decide | exact hp | (simp only [Bool.and_eq_true] at hp;simp only [hp];done) | (simp [*];done) | (simp [okL] at hp;simp [okL,MAXB];omega) | (simp_all;done) | (simp at *;omega)) (fun _h=>(P9 B0n (fun _h=>rfl) (fun _h=>rfl))))) (fun _h=>rfl))))))
theorem D5P:aPP 128 (A21 C3J C5C D0a):=pcD true G49 hlz D4F
noncomputable def S50:Tab:=Tab.add S49 128 (lift (A21 C3J C5C D0a))
noncomputable def D7h:FuncId→Bool:=qadd D7g 128
theorem G50:aPG S50 D7h:=G49.addQ D5P (cbl Try.f128) (fun _=>rfl)

abbrev D6d:List Sh:=.junk::.junk::D6y
abbrev u32:=((),(),u30)
abbrev D56:List AV:=.junk::.junk::D6v
abbrev D71:List AV:=.junk::.junk::.junk::.junk::.junk::.junk::.junk::.junk::.junk::.junk::.junk::.junk::.junk::.junk::.junk::.junk::.junk::.junk::.junk::.junk::.junk::.junk::.junk::.junk::.junk::.junk::[]
noncomputable def C58 (l:Lq2) (i:Nat):Bool:=let z1:=l.getD i dOp;let z2:=l.getD (i - 1) dOp;C70 z1.1 z1.2.1 z1.2.2&&(decide (i=0)||!(Op.bytesLess z1.2.1.toList z2.2.1.toList||(z1.2.1.toList==z2.2.1.toList)))
abbrev B9W:List PSh:=[.t tq4]
abbrev A8Q:SS:=⟨(.t false tq4::.junk::.junk::.junk::.junk::.t false tq4::tI::tI::D11),[]⟩
abbrev B76:SS:=⟨(.junk::.junk::.t true .bool::D6d),[]⟩
abbrev C3v:SS:=⟨(.t false tq4::D12),[]⟩
noncomputable def C1p (x0 x5:Lq2) (x6 x7:Int):RT A8Q.den:=let z1:=x5.getD x7.toNat ((0:Int),(bE,bE));let z2:=wI (x7 - (1:Int));let z3:=((x0.getD (z2.toNat) ((0:Int),(bE,bE))).2).1;(.br (decide (x7<x6)) (.br (decide (0≤x7∧x7<(x5.length:Int))) (.br (C1V (z1.1) ((z1.2).1) ((z1.2).2)) (.br (!(C70 (z1.1) ((z1.2).1) ((z1.2).2))) (.done .ret B76 (((),(),false,u32),())) (.br (decide (x7 > (0:Int))) (.br (decide (0≤z2∧z2<(x0.length:Int))) (.br (Op.bytesLess ((z1.2).1).toList z3.toList||(((z1.2).1).toList==z3.toList)) (.done .ret B76 (((),(),false,u32),())) (.next ((x0,(),(),(),(),x5,x6,wI (x7+(1:Int)),u27),()))) .fail) (.next ((x0,(),(),(),(),x5,x6,wI (x7+(1:Int)),u27),())))) .fail) .fail) (.done (.exit 0) C3v ((x0,u34),())))
noncomputable def B5n (x0 x5:Lq2) (x6 x7:Int):CT:=(.br (decide (0≤x7)&&(decide (x6=(x5.length:Int))&&(decide (x5=x0)&&A0h x5))) (.br (A4G (C58 x5) (x5.length - x7.toNat) x7.toNat) (.done (.exit 0) C3v ((x0,u34),())) (.done .ret B76 (((),(),false,u32),()))) .fail)
noncomputable abbrev B6n {α:Sort _} (f:Lq2→Lq2→Int→Int→α) (d:A8Q.den):α:=f d.1.1 d.1.2.2.2.2.2.1 d.1.2.2.2.2.2.2.1 d.1.2.2.2.2.2.2.2.1
noncomputable abbrev B35:A8Q.den→RT A8Q.den:=(B6n C1p)
noncomputable abbrev C6m (x0 x5:Lq2) (x6 x7:Int):A8Q.den:=((x0,(),(),(),(),x5,x6,x7,u27),())
noncomputable def C2e:Code:=((D4 0 (A1l Try.f92)).getD 0 (0,.skip)).2
theorem D2R (x0 x5:Lq2) (x6 x7:Int):(B5n x0 x5 x6 x7).val (D:=A8Q.den)=.fail∨Runs B35 (C6m x0 x5 x6 x7) (B5n x0 x5 x6 x7).val:=by
 cases hc:(decide (0≤x7)&&(decide (x6=(x5.length:Int))&&(decide (x5=x0)&&A0h x5))) with
 | false=>left;simp only [B5n,CT.val,hc,cond_false]
 | true =>
  right
  simp only [B5n,CT.val,hc,cond_true]
  simp only [Bool.and_eq_true,decide_eq_true_eq] at hc
  obtain ⟨i,rfl⟩:=Int.eq_ofNat_of_zero_le hc.1
  obtain ⟨_,e6,e5,hc⟩:=hc
  subst e5;subst e6
  have hs:=A7T hc
  simp only [Int.toNat_natCast]
  refine Runs.scan (fun j=>C6m x5 x5 (x5.length:Int) (j:Int)) (x5.length) (C58 x5) (fun i hi=>?_) (fun i hi=>?_) ⟨_,_,_,rfl,by simp⟩ ⟨_,_,_,rfl,by simp⟩ _ _ rfl
  ·
   have h0a:decide ((i:Int)<(x5.length:Int))=true:=decide_eq_true (by omega)
   have h0b:decide (0≤(i:Int)∧(i:Int)<(x5.length:Int))=true:=decide_eq_true (by omega)
   simp only [B35,C1p,RT.val,h0a,h0b,cond_true,A7x i (by omega),Int.toNat_natCast]
   have hq:C1V (x5.getD i dOp).1 (x5.getD i dOp).2.1 (x5.getD i dOp).2.2=true:=(D2g hc i hi).1
   simp only [dOp] at hq
   simp only [hq,cond_true,C58,dOp]
   cases C70 (x5.getD i ((0:Int),((⟨#[]⟩:ByteArray),(⟨#[]⟩:ByteArray)))).1 (x5.getD i ((0:Int),((⟨#[]⟩:ByteArray),(⟨#[]⟩:ByteArray)))).2.1 (x5.getD i ((0:Int),((⟨#[]⟩:ByteArray),(⟨#[]⟩:ByteArray)))).2.2 with
   | false=>rfl
   | true =>
    cases i with
    | zero=>rfl
    | succ i =>
     have h3:decide (((i+1:Nat):Int) > 0)=true:=decide_eq_true (by omega)
     have h4:wI (((i+1:Nat):Int) - 1)=(i:Int):=by have:=A6J (n:=((i+1:Nat):Int) - 1) (by omega) (by omega);omega
     have h5:decide (0≤(i:Int)∧(i:Int)<(x5.length:Int))=true:=decide_eq_true (by omega)
     have h6:decide (i+1=0)=false:=by simp
     simp only [h3,h4,h5,h6,cond_true,Bool.true_and,Bool.false_or,Int.toNat_natCast,Nat.add_sub_cancel,Bool.not_true,cond_false]
     cases (Op.bytesLess (x5.getD (i+1) ((0:Int),((⟨#[]⟩:ByteArray),(⟨#[]⟩:ByteArray)))).2.1.toList (x5.getD i ((0:Int),((⟨#[]⟩:ByteArray),(⟨#[]⟩:ByteArray)))).2.1.toList||((x5.getD (i+1) ((0:Int),((⟨#[]⟩:ByteArray),(⟨#[]⟩:ByteArray)))).2.1.toList==(x5.getD i ((0:Int),((⟨#[]⟩:ByteArray),(⟨#[]⟩:ByteArray)))).2.1.toList))<;>rfl
  ·have h1:decide ((i:Int)<(x5.length:Int))=false:=decide_eq_false (by omega)
   simp only [B35,C1p,RT.val,h1,cond_false]
noncomputable def C6h (x0 x5:Lq2) (x6 x7:Int):Option (Ex×St):=let z1:=x5.getD x7.toNat ((0:Int),(bE,bE));let z2:=(⟨((.t false tq4 x0)::.junk::.junk::.junk::.junk::(.t false tq4 x5)::(ti x6)::(ti (wI (x7+(1:Int))))::D71),[],0,[]⟩:St);let z3:=wI (x7 - (1:Int));let z4:=(⟨(.junk::.junk::(.t true .bool false)::D56),[],0,[]⟩:St);let z5:=((x0.getD (z3.toNat) ((0:Int),(bE,bE))).2).1;(cond (decide (x7<x6)) (cond (decide (0≤x7∧x7<(x5.length:Int))) (cond (C1V (z1.1) ((z1.2).1) ((z1.2).2)) (cond (!(C70 (z1.1) ((z1.2).1) ((z1.2).2))) (some (.ret,z4)) (cond (decide (x7 > (0:Int))) (cond (decide (0≤z3∧z3<(x0.length:Int))) (cond (Op.bytesLess ((z1.2).1).toList z5.toList||(((z1.2).1).toList==z5.toList)) (some (.ret,z4)) (some (.normal,z2))) none) (some (.normal,z2)))) none) none) (some ((.exit 0),(⟨((.t false tq4 x0)::D3j),[],0,[]⟩:St))))
theorem D0C:RdA G50 aLn 0 C2e A8Q 0 [] (kepts [2] [(0,[0])]) (B6n C6h):=by
 intro d
 kernel_rfl
theorem D0O:∀ d:A8Q.den,(B6n C6h) d=(B35 d).opt 0 []:=by
 intro d
 kernel_rfl
noncomputable abbrev C4N:St→Option Tree:=A8Q.say 0 [] [] (B6n B5n)
theorem D16:aPL C4N C2e:=SS.wp2 hlz [] B35 D0C D0O _ (fun d=>D2R d.1.1 d.1.2.2.2.2.2.1 d.1.2.2.2.2.2.2.1 d.1.2.2.2.2.2.2.2.1)
noncomputable def C7Z (a0:Lq2):Bool:=(cond (A4G (C58 a0) (a0.length - (0:Int).toNat) (0:Int).toNat) (A8w (a0.length:Int) (1:Int) (8:Int)) false)
noncomputable abbrev C3X (r:Bool):AV×List AObj:=((.t true .bool r),[])
noncomputable abbrev C7J:H7 B9W→AV×List AObj:=fun d=>C3X (C7Z d.1)
noncomputable def C4A (a0:Lq2):Bool:=A0h a0
noncomputable abbrev C28:H7 B9W→Bool:=fun d=>C4A d.1
noncomputable abbrev D4Q:Nat→St→Option Tree:=fun b=>match b with | 0=>C4N | _=>fun _=>none
theorem D3A:A7B true G50 (D4Q) Try.f92 B9W C28 C7J:=by
 rintro ⟨a0,_⟩ hp
 change C4A a0=true at hp
 unfold C4A at hp
 refine Eq.trans (b:=(cond (decide (0≤(0:Int))&&(decide ((a0.length:Int)=(a0.length:Int))&&(decide (a0=a0)&&A0h a0))) (cond (A4G (C58 a0) (a0.length - (0:Int).toNat) (0:Int).toNat) (some (C3X (A8w (a0.length:Int) (1:Int) (8:Int)))) (some (C3X false))) none)) (by kernel_rfl) ?_
 exact (A7E (by first | rfl | decide | exact hp | (simp only [Bool.and_eq_true] at hp;simp only [hp];done) | (simp [*];done) | (simp [okL] at hp;simp [okL,MAXB];omega) | (simp_all;done) | (simp at *;omega)) (fun _h=>(P9 C3X (fun _h=>rfl) (fun _h=>rfl))))
theorem D45:aPP 92 (A21 B9W C28 C7J):=pcD true G50 (hl1 (i:=0) (by kernel_rfl) D16) D3A
noncomputable def S51:Tab:=Tab.add S50 92 (lift (A21 B9W C28 C7J))
noncomputable def D7i:FuncId→Bool:=qadd D7h 92
theorem G51:aPG S51 D7i:=G50.addQ D45 (cbl Try.f92) (fun _=>rfl)

abbrev B9X:List PSh:=[.agg [(.int .i64),(.int .i64),tq4]]
noncomputable def D0j (a0 a1:Int) (a2:Lq2):Bool:=(cond (a0==(1:Int)) (cond (C59 a1) (C7Z a2) false) (cond (a0==(2:Int)) (cond (C59 a1) ((a2.length:Int)==(0:Int)) false) (cond (a0==(3:Int)) (cond (C59 a1) ((a2.length:Int)==(0:Int)) false) false)))
noncomputable abbrev A8t (r:Bool):AV×List AObj:=((.t true .bool r),[])
noncomputable abbrev C7K:H7 B9X→AV×List AObj:=fun d=>A8t (D0j d.1.1 d.1.2.1 d.1.2.2.1)
noncomputable def B51 (a0 a1:Int) (a2:Lq2):Bool:=A0h a2
noncomputable abbrev C29:H7 B9X→Bool:=fun d=>B51 d.1.1 d.1.2.1 d.1.2.2.1
theorem D3B:A7B true G51 aLn Try.f82 B9X C29 C7K:=by
 rintro ⟨⟨a0,⟨a1,⟨a2,_⟩⟩⟩,_⟩ hp
 change B51 a0 a1 a2=true at hp
 unfold B51 at hp
 refine Eq.trans (b:=(let z1:=A8t ((a2.length:Int)==(0:Int));cond (a0==(1:Int)) (cond (C59 a1) (cond (C4A a2) (some (A8t (C7Z a2))) none) (some (A8t false))) (cond (a0==(2:Int)) (cond (C59 a1) (some z1) (some (A8t false))) (cond (a0==(3:Int)) (cond (C59 a1) (some z1) (some (A8t false))) (some (A8t false)))))) (by kernel_rfl) ?_
 exact (P9 A8t (fun _h=>(P9 A8t (fun _h=>(A7E (by first | rfl | decide | exact hp | (simp only [Bool.and_eq_true] at hp;simp only [hp];done) | (simp [*];done) | (simp [okL] at hp;simp [okL,MAXB];omega) | (simp_all;done) | (simp at *;omega)) (fun _h=>rfl))) (fun _h=>rfl))) (fun _h=>(P9 A8t (fun _h=>(P9 A8t (fun _h=>rfl) (fun _h=>rfl))) (fun _h=>(P9 A8t (fun _h=>(P9 A8t (fun _h=>rfl) (fun _h=>rfl))) (fun _h=>rfl))))))
theorem D46:aPP 82 (A21 B9X C29 C7K):=pcD true G51 hlz D3B
noncomputable def S52:Tab:=Tab.add S51 82 (lift (A21 B9X C29 C7K))
noncomputable def D7j:FuncId→Bool:=qadd D7i 82
theorem G52:aPG S52 D7j:=G51.addQ D46 (cbl Try.f82) (fun _=>rfl)

abbrev B9Y:List PSh:=[.t tq3,.t (.int .i64)]
abbrev B1e:SS:=⟨(.t false tq3::tI::.junk::.junk::.junk::tI::D8b),[]⟩
abbrev C3w:SS:=⟨(.junk::.junk::.junk::.junk::tI::D5t),[]⟩
abbrev C3x:SS:=⟨(.junk::D59),[]⟩
noncomputable def C6E (x0:Lq1) (x1 x5:Int):RT B1e.den:=(.br (decide (x5 ≥ (0:Int))) (.br (decide (0≤x5∧x5<(x0.length:Int))) (.br ((((x0.getD x5.toNat ((0:Int),((0:Int),[]))).2).1)==x1) (.done .ret C3w (((),(),(),(),x5,u17),())) (.next ((x0,x1,(),(),(),wI (x5 - (1:Int)),u16),()))) .fail) (.done (.exit 0) C3x ((u22),())))
abbrev B1k:=(Lq1)×(Int)×(Int)
abbrev B2U:=Nat×(Int)
def B6z:B2U:=(99,((0:Int):Int))
noncomputable def B1R (x0:Lq1) (x1 x5:Int):B1k ⊕ B2U:=(cond (decide (x5 ≥ (0:Int))) (cond (decide (0≤x5∧x5<(x0.length:Int))) (cond ((((x0.getD x5.toNat ((0:Int),((0:Int),[]))).2).1)==x1) (.inr (0,x5)) (.inl (x0,x1,wI (x5 - (1:Int))))) (.inr B6z)) (.inr (1,((0:Int):Int))))
noncomputable def B1F (x0:Lq1) (x1 x5:Int):B2U:=itX (fun v:B1k=>B1R v.1 v.2.1 v.2.2) B6z (x0,x1,x5)
noncomputable def C0p (a:B2U):CT:=(.br (a.1==0) (.done .ret C3w (((),(),(),(),a.2,u17),())) (.br (a.1==1) (.done (.exit 0) C3x ((u22),())) .fail))
noncomputable def D2Z (x0:Lq1) (x1 x5:Int):CT:=C0p (B1F x0 x1 x5)
noncomputable abbrev C1l:B1e.den→RT B1e.den:=(fun d=>C6E d.1.1 d.1.2.1 d.1.2.2.2.2.2.1)
noncomputable def C2f:Code:=((D4 0 (A1l Try.f79)).getD 0 (0,.skip)).2
noncomputable abbrev C6u (v:B1k):B1e.den:=((v.1,v.2.1,(),(),(),v.2.2,u16),())
theorem D2m:(∀ v:B1k,(C6E v.1 v.2.1 v.2.2).val=A6D C6u C0p (B1R v.1 v.2.1 v.2.2))∧∀ a:B2U,CEnd B1e.den (C0p a):=⟨fun v=>(A7G (A7G (A7G rfl rfl) rfl) rfl),fun a=>(A7t aCD (A7t aCD A7v))⟩
theorem D0D:RdA G52 aLn 0 C2f B1e 0 [] (kepts [4] [(0,[])]) (fun d=>(C1l d).opt 0 []):=by
 intro d
 kernel_rfl
noncomputable abbrev C4O:St→Option Tree:=B1e.say 0 [] [] (fun d=>D2Z d.1.1 d.1.2.1 d.1.2.2.2.2.2.1)
theorem D17:aPL C4O C2f:=SS.wp2 hlz [] C1l D0D (fun d=>rfl) _ (fun d=>Runs.ofI2 (step:=C1l) C6u D2m rfl (d.1.1,d.1.2.1,d.1.2.2.2.2.2.1))
noncomputable def A7J (a0:Lq1) (a1:Int):Int:=let z1:=B1F a0 a1 (wI ((a0.length:Int) - (1:Int)));(cond (z1.1==0) (z1.2) (-1:Int))
noncomputable abbrev C3Z (r:Int):AV×List AObj:=((ti r),[])
noncomputable abbrev C7L:H7 B9Y→AV×List AObj:=fun d=>C3Z (A7J d.1 d.2.1)
noncomputable def X6 (a0:Lq1) (a1:Int):Bool:=let z1:=B1F a0 a1 (wI ((a0.length:Int) - (1:Int)));cond (z1.1==0) true (z1.1==1)
noncomputable abbrev C3a:H7 B9Y→Bool:=fun d=>X6 d.1 d.2.1
noncomputable abbrev D4R:Nat→St→Option Tree:=fun b=>match b with | 0=>C4O | _=>fun _=>none
theorem D3C:A7B true G52 (D4R) Try.f79 B9Y C3a C7L:=by
 rintro ⟨a0,⟨a1,_⟩⟩ hp
 change X6 a0 a1=true at hp
 unfold X6 at hp
 refine Eq.trans (b:=(let z1:=B1F a0 a1 (wI ((a0.length:Int) - (1:Int)));cond (z1.1==0) (some (C3Z (z1.2))) (cond (z1.1==1) (some (C3Z (-1:Int))) none))) (by kernel_rfl) ?_
 exact (M2 C3Z hp (fun hp=>rfl) (fun hp=>(A7E hp fun _h=>rfl)))
theorem D47:aPP 79 (A21 B9Y C3a C7L):=pcD true G52 (hl1 (i:=0) (by kernel_rfl) D17) D3C
noncomputable def S53:Tab:=Tab.add S52 79 (lift (A21 B9Y C3a C7L))
noncomputable def D7k:FuncId→Bool:=qadd D7j 79
theorem G53:aPG S53 D7k:=G52.addQ D47 (cbl Try.f79) (fun _=>rfl)

abbrev u18:=((),u17)
abbrev D6q:List AV:=.junk::.junk::.junk::.junk::.junk::.junk::.junk::.junk::.junk::.junk::.junk::[]
abbrev D5q:List AV:=.junk::.junk::.junk::.junk::.junk::.junk::D6q
abbrev D6s:List AV:=.junk::.junk::.junk::.junk::.junk::.junk::.junk::D5q
abbrev B1Y:List PSh:=[.t tq3,.t tq4]
noncomputable def B2d:Code:=((D4 0 (A1l Try.f118)).getD 0 (0,.skip)).2
noncomputable def B2e:Code:=((D4 0 B2d).getD 0 (0,.skip)).2
noncomputable def B6o:Code:=((D4 2 B2e).getD 0 (0,.skip)).2
abbrev T5:SS:=⟨(.junk::.t false tq4::.junk::.junk::.junk::.junk::.junk::.junk::.ptr 0 0 1 0::.junk::.junk::.t false tq3::tI::tI::.junk::.junk::.junk::.junk::.t false tq4::tI::tI::.junk::.junk::.junk::.t false tq4::tI::tI::D79),[.box [tI,.t true .str,.t true .str]]⟩
abbrev B69:SS:=⟨(.junk::.junk::.junk::.junk::.t true .bool::D12),[]⟩
abbrev B7a:SS:=⟨(.junk::.t false tq4::.junk::.junk::.junk::.junk::.junk::.junk::.junk::.junk::.junk::.t false tq3::tI::tI::.junk::.junk::.junk::.junk::.t false tq4::tI::tI::D58),[]⟩
noncomputable def B9K (x1:Lq2) (x11:Lq1) (x12 x13:Int) (x18:Lq2) (x19 x20:Int) (x24:Lq2) (x25 x26 p0:Int) (p1 p2:ByteArray):RT T5.den:=(.br (decide (x26<x25)) (.br (decide (0≤x26∧x26<(x24.length:Int))) (.br ((((x24.getD x26.toNat ((0:Int),(bE,bE))).2).1).toList==p1.toList) (.done .ret B69 (((),(),(),(),true,u34),())) (.next (((),x1,(),(),(),(),(),(),(),(),(),x11,x12,x13,(),(),(),(),x18,x19,x20,(),(),(),x24,x25,wI (x26+(1:Int)),u12),((p0,p1,p2,()),())))) .fail) (.done (.exit 4) B7a (((),x1,(),(),(),(),(),(),(),(),(),x11,x12,x13,(),(),(),(),x18,x19,x20,u18),())))
abbrev A8p:=(Lq2)×Lq1×(Int)×(Int)×Lq2×(Int)×(Int)×Lq2×(Int)×(Int)
abbrev A9C:=Nat×(Bool)×Lq2×Lq1×(Int)×(Int)×Lq2×(Int)×(Int)
def B4j:A9C:=(99,(false:Bool),([]:Lq2),([]:Lq1),((0:Int):Int),((0:Int):Int),([]:Lq2),((0:Int):Int),((0:Int):Int))
noncomputable def A9g (x1:Lq2) (x11:Lq1) (x12 x13:Int) (x18:Lq2) (x19 x20:Int) (x24:Lq2) (x25 x26 p0:Int) (p1 p2:ByteArray):A8p ⊕ A9C:=(cond (decide (x26<x25)) (cond (decide (0≤x26∧x26<(x24.length:Int))) (cond ((((x24.getD x26.toNat ((0:Int),(bE,bE))).2).1).toList==p1.toList) (.inr (0,true,([]:Lq2),([]:Lq1),((0:Int):Int),((0:Int):Int),([]:Lq2),((0:Int):Int),((0:Int):Int))) (.inl (x1,x11,x12,x13,x18,x19,x20,x24,x25,wI (x26+(1:Int))))) (.inr B4j)) (.inr (1,(false:Bool),x1,x11,x12,x13,x18,x19,x20)))
noncomputable def B4m (x1:Lq2) (x11:Lq1) (x12 x13:Int) (x18:Lq2) (x19 x20:Int) (x24:Lq2) (x25 x26 p0:Int) (p1 p2:ByteArray):A9C:=itX (fun v:A8p=>A9g v.1 v.2.1 v.2.2.1 v.2.2.2.1 v.2.2.2.2.1 v.2.2.2.2.2.1 v.2.2.2.2.2.2.1 v.2.2.2.2.2.2.2.1 v.2.2.2.2.2.2.2.2.1 v.2.2.2.2.2.2.2.2.2 p0 p1 p2) B4j (x1,x11,x12,x13,x18,x19,x20,x24,x25,x26)
noncomputable def B4h (p0:Int) (p1 p2:ByteArray) (a:A9C):CT:=(.br (a.1==0) (.done .ret B69 (((),(),(),(),a.2.1,u34),())) (.br (a.1==1) (.done (.exit 4) B7a (((),a.2.2.1,(),(),(),(),(),(),(),(),(),a.2.2.2.1,a.2.2.2.2.1,a.2.2.2.2.2.1,(),(),(),(),a.2.2.2.2.2.2.1,a.2.2.2.2.2.2.2.1,a.2.2.2.2.2.2.2.2,u18),())) .fail))
noncomputable def C7u (x1:Lq2) (x11:Lq1) (x12 x13:Int) (x18:Lq2) (x19 x20:Int) (x24:Lq2) (x25 x26 p0:Int) (p1 p2:ByteArray):CT:=(B4h p0 p1 p2) (B4m x1 x11 x12 x13 x18 x19 x20 x24 x25 x26 p0 p1 p2)
noncomputable abbrev B05 {α:Sort _} (f:Lq2→Lq1→Int→Int→Lq2→Int→Int→Lq2→Int→Int→Int→ByteArray→ByteArray→α) (d:T5.den):α:=f d.1.2.1 d.1.2.2.2.2.2.2.2.2.2.2.2.1 d.1.2.2.2.2.2.2.2.2.2.2.2.2.1 d.1.2.2.2.2.2.2.2.2.2.2.2.2.2.1 d.1.2.2.2.2.2.2.2.2.2.2.2.2.2.2.2.2.2.2.1 d.1.2.2.2.2.2.2.2.2.2.2.2.2.2.2.2.2.2.2.2.1 d.1.2.2.2.2.2.2.2.2.2.2.2.2.2.2.2.2.2.2.2.2.1 d.1.2.2.2.2.2.2.2.2.2.2.2.2.2.2.2.2.2.2.2.2.2.2.2.2.1 d.1.2.2.2.2.2.2.2.2.2.2.2.2.2.2.2.2.2.2.2.2.2.2.2.2.2.1 d.1.2.2.2.2.2.2.2.2.2.2.2.2.2.2.2.2.2.2.2.2.2.2.2.2.2.2.1 d.2.1.1 d.2.1.2.1 d.2.1.2.2.1
noncomputable abbrev B4w:T5.den→RT T5.den:=(B05 B9K)
noncomputable abbrev B9y (p0:Int) (p1 p2:ByteArray) (v:A8p):T5.den:=(((),v.1,(),(),(),(),(),(),(),(),(),v.2.1,v.2.2.1,v.2.2.2.1,(),(),(),(),v.2.2.2.2.1,v.2.2.2.2.2.1,v.2.2.2.2.2.2.1,(),(),(),v.2.2.2.2.2.2.2.1,v.2.2.2.2.2.2.2.2.1,v.2.2.2.2.2.2.2.2.2,u12),((p0,p1,p2,()),()))
theorem C68 (p0:Int) (p1 p2:ByteArray):(∀ v:A8p,(B9K v.1 v.2.1 v.2.2.1 v.2.2.2.1 v.2.2.2.2.1 v.2.2.2.2.2.1 v.2.2.2.2.2.2.1 v.2.2.2.2.2.2.2.1 v.2.2.2.2.2.2.2.2.1 v.2.2.2.2.2.2.2.2.2 p0 p1 p2).val=A6D (B9y p0 p1 p2) (B4h p0 p1 p2) (A9g v.1 v.2.1 v.2.2.1 v.2.2.2.1 v.2.2.2.2.1 v.2.2.2.2.2.1 v.2.2.2.2.2.2.1 v.2.2.2.2.2.2.2.1 v.2.2.2.2.2.2.2.2.1 v.2.2.2.2.2.2.2.2.2 p0 p1 p2))∧∀ a:A9C,CEnd T5.den ((B4h p0 p1 p2) a):=⟨fun v=>(A7G (A7G (A7G rfl rfl) rfl) rfl),fun a=>(A7t aCD (A7t aCD A7v))⟩
noncomputable def B9s (x1:Lq2) (x11:Lq1) (x12 x13:Int) (x18:Lq2) (x19 x20:Int) (x24:Lq2) (x25 x26 p0:Int) (p1 p2:ByteArray):Option (Ex×St):=(cond (decide (x26<x25)) (cond (decide (0≤x26∧x26<(x24.length:Int))) (cond ((((x24.getD x26.toNat ((0:Int),(bE,bE))).2).1).toList==p1.toList) (some (.ret,(⟨(.junk::.junk::.junk::.junk::(.t true .bool true)::D3j),[],0,[]⟩:St))) (some (.normal,(⟨(.junk::(.t false tq4 x1)::.junk::.junk::.junk::.junk::.junk::.junk::(.ptr 0 0 1 0)::.junk::.junk::(.t false tq3 x11)::(ti x12)::(ti x13)::.junk::.junk::.junk::.junk::(.t false tq4 x18)::(ti x19)::(ti x20)::.junk::.junk::.junk::(.t false tq4 x24)::(ti x25)::(ti (wI (x26+(1:Int))))::D6q),[(.box [(ti p0),(.t true .str p1),(.t true .str p2)])],0,[]⟩:St)))) none) (some ((.exit 4),(⟨(.junk::(.t false tq4 x1)::.junk::.junk::.junk::.junk::.junk::.junk::.junk::.junk::.junk::(.t false tq3 x11)::(ti x12)::(ti x13)::.junk::.junk::.junk::.junk::(.t false tq4 x18)::(ti x19)::(ti x20)::D5q),[],0,[]⟩:St))))
theorem C5L:RdA G53 aLn 4 B6o T5 0 [] (kepts [4] [(4,[1,11,12,13,18,19,20])]) (B05 B9s):=by
 intro d
 kernel_rfl
theorem C5R:∀ d:T5.den,(B05 B9s) d=(B4w d).opt 0 []:=by
 intro d
 kernel_rfl
noncomputable abbrev B7W:St→Option Tree:=T5.say 0 [] [] (B05 C7u)
theorem C6Q:aPL B7W B6o:=SS.wp2 hlz [] B4w C5L C5R _ (fun d=>Runs.ofI2 (step:=B4w) (B9y d.2.1.1 d.2.1.2.1 d.2.1.2.2.1) (C68 d.2.1.1 d.2.1.2.1 d.2.1.2.2.1) rfl (d.1.2.1,d.1.2.2.2.2.2.2.2.2.2.2.2.1,d.1.2.2.2.2.2.2.2.2.2.2.2.2.1,d.1.2.2.2.2.2.2.2.2.2.2.2.2.2.1,d.1.2.2.2.2.2.2.2.2.2.2.2.2.2.2.2.2.2.2.1,d.1.2.2.2.2.2.2.2.2.2.2.2.2.2.2.2.2.2.2.2.1,d.1.2.2.2.2.2.2.2.2.2.2.2.2.2.2.2.2.2.2.2.2.1,d.1.2.2.2.2.2.2.2.2.2.2.2.2.2.2.2.2.2.2.2.2.2.2.2.2.1,d.1.2.2.2.2.2.2.2.2.2.2.2.2.2.2.2.2.2.2.2.2.2.2.2.2.2.1,d.1.2.2.2.2.2.2.2.2.2.2.2.2.2.2.2.2.2.2.2.2.2.2.2.2.2.2.1))
abbrev T4:SS:=⟨(.junk::.t false tq4::.junk::.junk::.junk::.junk::.junk::.junk::.junk::.junk::.junk::.t false tq3::tI::tI::.junk::.junk::.junk::.junk::.t false tq4::tI::tI::D58),[]⟩
abbrev B67:SS:=⟨(.junk::.junk::.junk::.junk::.t true .bool::D12),[]⟩
abbrev B68:SS:=⟨(.junk::.t false tq4::.junk::.junk::.junk::.junk::.junk::.junk::.junk::.junk::.junk::.t false tq3::tI::tI::D6b),[]⟩
noncomputable def B3x (x1:Lq2) (x11:Lq1) (x12 x13:Int) (x18:Lq2) (x19 x20:Int):=let z1:=x18.getD x20.toNat ((0:Int),(bE,bE));B4m x1 x11 x12 x13 x18 x19 x20 x1 (x1.length:Int) (0:Int) (z1.1) ((z1.2).1) ((z1.2).2)
noncomputable def B9J (x1:Lq2) (x11:Lq1) (x12 x13:Int) (x18:Lq2) (x19 x20:Int):RT T4.den:=let z1:=B3x x1 x11 x12 x13 x18 x19 x20;(.br (decide (x20<x19)) (.br (decide (0≤x20∧x20<(x18.length:Int))) (.br (z1.1==0) (.done .ret B67 (((),(),(),(),(z1.2.1),u34),())) (.br (z1.1==1) (.next (((),(z1.2.2.1),(),(),(),(),(),(),(),(),(),(z1.2.2.2.1),(z1.2.2.2.2.1),(z1.2.2.2.2.2.1),(),(),(),(),(z1.2.2.2.2.2.2.1),(z1.2.2.2.2.2.2.2.1),wI ((z1.2.2.2.2.2.2.2.2)+(1:Int)),u18),())) .fail)) .fail) (.done (.exit 2) B68 (((),x1,(),(),(),(),(),(),(),(),(),x11,x12,x13,u25),())))
abbrev A8o:=(Lq2)×Lq1×(Int)×(Int)×Lq2×(Int)×(Int)
abbrev A9B:=Nat×(Bool)×Lq2×Lq1×(Int)×(Int)
def B07:A9B:=(99,(false:Bool),([]:Lq2),([]:Lq1),((0:Int):Int),((0:Int):Int))
noncomputable def A9f (x1:Lq2) (x11:Lq1) (x12 x13:Int) (x18:Lq2) (x19 x20:Int):A8o ⊕ A9B:=let z1:=B3x x1 x11 x12 x13 x18 x19 x20;(cond (decide (x20<x19)) (cond (decide (0≤x20∧x20<(x18.length:Int))) (cond (z1.1==0) (.inr (0,(z1.2.1),([]:Lq2),([]:Lq1),((0:Int):Int),((0:Int):Int))) (cond (z1.1==1) (.inl ((z1.2.2.1),(z1.2.2.2.1),(z1.2.2.2.2.1),(z1.2.2.2.2.2.1),(z1.2.2.2.2.2.2.1),(z1.2.2.2.2.2.2.2.1),wI ((z1.2.2.2.2.2.2.2.2)+(1:Int)))) (.inr B07))) (.inr B07)) (.inr (1,(false:Bool),x1,x11,x12,x13)))
noncomputable def B4l (x1:Lq2) (x11:Lq1) (x12 x13:Int) (x18:Lq2) (x19 x20:Int):A9B:=itX (fun v:A8o=>A9f v.1 v.2.1 v.2.2.1 v.2.2.2.1 v.2.2.2.2.1 v.2.2.2.2.2.1 v.2.2.2.2.2.2) B07 (x1,x11,x12,x13,x18,x19,x20)
noncomputable def B4g (a:A9B):CT:=(.br (a.1==0) (.done .ret B67 (((),(),(),(),a.2.1,u34),())) (.br (a.1==1) (.done (.exit 2) B68 (((),a.2.2.1,(),(),(),(),(),(),(),(),(),a.2.2.2.1,a.2.2.2.2.1,a.2.2.2.2.2,u25),())) .fail))
noncomputable def C7t (x1:Lq2) (x11:Lq1) (x12 x13:Int) (x18:Lq2) (x19 x20:Int):CT:=B4g (B4l x1 x11 x12 x13 x18 x19 x20)
noncomputable abbrev B04 {α:Sort _} (f:Lq2→Lq1→Int→Int→Lq2→Int→Int→α) (d:T4.den):α:=f d.1.2.1 d.1.2.2.2.2.2.2.2.2.2.2.2.1 d.1.2.2.2.2.2.2.2.2.2.2.2.2.1 d.1.2.2.2.2.2.2.2.2.2.2.2.2.2.1 d.1.2.2.2.2.2.2.2.2.2.2.2.2.2.2.2.2.2.2.1 d.1.2.2.2.2.2.2.2.2.2.2.2.2.2.2.2.2.2.2.2.1 d.1.2.2.2.2.2.2.2.2.2.2.2.2.2.2.2.2.2.2.2.2.1
noncomputable abbrev B4v:T4.den→RT T4.den:=(B04 B9J)
noncomputable abbrev B9x (v:A8o):T4.den:=(((),v.1,(),(),(),(),(),(),(),(),(),v.2.1,v.2.2.1,v.2.2.2.1,(),(),(),(),v.2.2.2.2.1,v.2.2.2.2.2.1,v.2.2.2.2.2.2,u18),())
theorem C67:(∀ v:A8o,(B9J v.1 v.2.1 v.2.2.1 v.2.2.2.1 v.2.2.2.2.1 v.2.2.2.2.2.1 v.2.2.2.2.2.2).val=A6D B9x B4g (A9f v.1 v.2.1 v.2.2.1 v.2.2.2.1 v.2.2.2.2.1 v.2.2.2.2.2.1 v.2.2.2.2.2.2))∧∀ a:A9B,CEnd T4.den (B4g a):=⟨fun v=>(A7G (A7G (A7G rfl (A7G rfl rfl)) rfl) rfl),fun a=>(A7t aCD (A7t aCD A7v))⟩
noncomputable abbrev C7o:Nat→St→Option Tree:=fun b=>match b with | 4=>B7W | _=>fun _=>none
noncomputable def B9r (x1:Lq2) (x11:Lq1) (x12 x13:Int) (x18:Lq2) (x19 x20:Int):Option (Ex×St):=let z1:=B3x x1 x11 x12 x13 x18 x19 x20;(cond (decide (x20<x19)) (cond (decide (0≤x20∧x20<(x18.length:Int))) (cond (z1.1==0) (some (.ret,(⟨(.junk::.junk::.junk::.junk::(.t true .bool (z1.2.1))::D3j),[],0,[]⟩:St))) (cond (z1.1==1) (some (.normal,(⟨(.junk::(.t false tq4 (z1.2.2.1))::.junk::.junk::.junk::.junk::.junk::.junk::.junk::.junk::.junk::(.t false tq3 (z1.2.2.2.1))::(ti (z1.2.2.2.2.1))::(ti (z1.2.2.2.2.2.1))::.junk::.junk::.junk::.junk::(.t false tq4 (z1.2.2.2.2.2.2.1))::(ti (z1.2.2.2.2.2.2.2.1))::(ti (wI ((z1.2.2.2.2.2.2.2.2)+(1:Int))))::D5q),[],0,[]⟩:St))) none)) none) (some ((.exit 2),(⟨(.junk::(.t false tq4 x1)::.junk::.junk::.junk::.junk::.junk::.junk::.junk::.junk::.junk::(.t false tq3 x11)::(ti x12)::(ti x13)::D6s),[],0,[]⟩:St))))
theorem C5K:RdA G53 (C7o) 2 B2e T4 0 [] (kepts [4] [(2,[1,11,12,13])]) (B04 B9r):=by
 intro d
 kernel_rfl
theorem C5Q:∀ d:T4.den,(B04 B9r) d=(B4v d).opt 0 []:=by
 intro d
 kernel_rfl
noncomputable abbrev B7V:St→Option Tree:=T4.say 0 [] [] (B04 C7t)
theorem C6P:aPL B7V B2e:=SS.wp2 (hl1 (i:=4) (by kernel_rfl) C6Q) [] B4v C5K C5Q _ (fun d=>Runs.ofI2 (step:=B4v) B9x C67 rfl (d.1.2.1,d.1.2.2.2.2.2.2.2.2.2.2.2.1,d.1.2.2.2.2.2.2.2.2.2.2.2.2.1,d.1.2.2.2.2.2.2.2.2.2.2.2.2.2.1,d.1.2.2.2.2.2.2.2.2.2.2.2.2.2.2.2.2.2.2.1,d.1.2.2.2.2.2.2.2.2.2.2.2.2.2.2.2.2.2.2.2.1,d.1.2.2.2.2.2.2.2.2.2.2.2.2.2.2.2.2.2.2.2.2.1))
abbrev T3:SS:=⟨(.junk::.t false tq4::.junk::.junk::.junk::.junk::.junk::.junk::.junk::.junk::.junk::.t false tq3::tI::tI::D6b),[]⟩
abbrev B65:SS:=⟨(.junk::.junk::.junk::.junk::.t true .bool::D12),[]⟩
abbrev B66:SS:=⟨(.junk::D5x),[]⟩
noncomputable def B3y (x1:Lq2) (x11:Lq1) (x12 x13:Int):=let z1:=((x11.getD x13.toNat ((0:Int),((0:Int),[]))).2).2;B4l x1 x11 x12 x13 z1 ((z1.length:Nat):Int) (0:Int)
noncomputable def B9I (x1:Lq2) (x11:Lq1) (x12 x13:Int):RT T3.den:=let z1:=B3y x1 x11 x12 x13;(.br (decide (x13<x12)) (.br (decide (0≤x13∧x13<(x11.length:Int))) (.br (z1.1==0) (.done .ret B65 (((),(),(),(),(z1.2.1),u34),())) (.br (z1.1==1) (.next (((),(z1.2.2.1),(),(),(),(),(),(),(),(),(),(z1.2.2.2.1),(z1.2.2.2.2.1),wI ((z1.2.2.2.2.2)+(1:Int)),u25),())) .fail)) .fail) (.done (.exit 0) B66 ((u39),())))
abbrev A8n:=(Lq2)×Lq1×(Int)×(Int)
abbrev A9A:=Nat×(Bool)
def B06:A9A:=(99,(false:Bool))
noncomputable def A9e (x1:Lq2) (x11:Lq1) (x12 x13:Int):A8n ⊕ A9A:=let z1:=B3y x1 x11 x12 x13;(cond (decide (x13<x12)) (cond (decide (0≤x13∧x13<(x11.length:Int))) (cond (z1.1==0) (.inr (0,(z1.2.1))) (cond (z1.1==1) (.inl ((z1.2.2.1),(z1.2.2.2.1),(z1.2.2.2.2.1),wI ((z1.2.2.2.2.2)+(1:Int)))) (.inr B06))) (.inr B06)) (.inr (1,(false:Bool))))
noncomputable def A88 (x1:Lq2) (x11:Lq1) (x12 x13:Int):A9A:=itX (fun v:A8n=>A9e v.1 v.2.1 v.2.2.1 v.2.2.2) B06 (x1,x11,x12,x13)
noncomputable def B4f (a:A9A):CT:=(.br (a.1==0) (.done .ret B65 (((),(),(),(),a.2,u34),())) (.br (a.1==1) (.done (.exit 0) B66 ((u39),())) .fail))
noncomputable def C7s (x1:Lq2) (x11:Lq1) (x12 x13:Int):CT:=B4f (A88 x1 x11 x12 x13)
noncomputable abbrev B03 {α:Sort _} (f:Lq2→Lq1→Int→Int→α) (d:T3.den):α:=f d.1.2.1 d.1.2.2.2.2.2.2.2.2.2.2.2.1 d.1.2.2.2.2.2.2.2.2.2.2.2.2.1 d.1.2.2.2.2.2.2.2.2.2.2.2.2.2.1
noncomputable abbrev B4u:T3.den→RT T3.den:=(B03 B9I)
noncomputable abbrev B9w (v:A8n):T3.den:=(((),v.1,(),(),(),(),(),(),(),(),(),v.2.1,v.2.2.1,v.2.2.2,u25),())
theorem C66:(∀ v:A8n,(B9I v.1 v.2.1 v.2.2.1 v.2.2.2).val=A6D B9w B4f (A9e v.1 v.2.1 v.2.2.1 v.2.2.2))∧∀ a:A9A,CEnd T3.den (B4f a):=⟨fun v=>(A7G (A7G (A7G rfl (A7G rfl rfl)) rfl) rfl),fun a=>(A7t aCD (A7t aCD A7v))⟩
noncomputable abbrev C7n:Nat→St→Option Tree:=fun b=>match b with | 2=>B7V | _=>fun _=>none
noncomputable def B9q (x1:Lq2) (x11:Lq1) (x12 x13:Int):Option (Ex×St):=let z1:=B3y x1 x11 x12 x13;(cond (decide (x13<x12)) (cond (decide (0≤x13∧x13<(x11.length:Int))) (cond (z1.1==0) (some (.ret,(⟨(.junk::.junk::.junk::.junk::(.t true .bool (z1.2.1))::D3j),[],0,[]⟩:St))) (cond (z1.1==1) (some (.normal,(⟨(.junk::(.t false tq4 (z1.2.2.1))::.junk::.junk::.junk::.junk::.junk::.junk::.junk::.junk::.junk::(.t false tq3 (z1.2.2.2.1))::(ti (z1.2.2.2.2.1))::(ti (wI ((z1.2.2.2.2.2)+(1:Int))))::D6s),[],0,[]⟩:St))) none)) none) (some ((.exit 0),(⟨(.junk::D57),[],0,[]⟩:St))))
theorem C5J:RdA G53 (C7n) 0 B2d T3 0 [] (kepts [4] [(0,[])]) (B03 B9q):=by
 intro d
 kernel_rfl
theorem C5P:∀ d:T3.den,(B03 B9q) d=(B4u d).opt 0 []:=by
 intro d
 kernel_rfl
noncomputable abbrev B7U:St→Option Tree:=T3.say 0 [] [] (B03 C7s)
theorem C6O:aPL B7U B2d:=SS.wp2 (hl1 (i:=2) (by kernel_rfl) C6P) [] B4u C5J C5P _ (fun d=>Runs.ofI2 (step:=B4u) B9w C66 rfl (d.1.2.1,d.1.2.2.2.2.2.2.2.2.2.2.2.1,d.1.2.2.2.2.2.2.2.2.2.2.2.2.1,d.1.2.2.2.2.2.2.2.2.2.2.2.2.2.1))
noncomputable def Z3 (a0:Lq1) (a1:Lq2):Bool:=let z1:=A88 a1 a0 (a0.length:Int) (0:Int);(cond (z1.1==0) (z1.2) false)
noncomputable abbrev B4K (r:Bool):AV×List AObj:=((.t true .bool r),[])
noncomputable abbrev B8t:H7 B1Y→AV×List AObj:=fun d=>B4K (Z3 d.1 d.2.1)
noncomputable def U0 (a0:Lq1) (a1:Lq2):Bool:=let z1:=A88 a1 a0 (a0.length:Int) (0:Int);cond (z1.1==0) true (z1.1==1)
noncomputable abbrev B5S:H7 B1Y→Bool:=fun d=>U0 d.1 d.2.1
noncomputable abbrev C9M:Nat→St→Option Tree:=fun b=>match b with | 0=>B7U | _=>fun _=>none
theorem C8y:A7B true G53 (C9M) Try.f118 B1Y B5S B8t:=by
 rintro ⟨a0,⟨a1,_⟩⟩ hp
 change U0 a0 a1=true at hp
 unfold U0 at hp
 refine Eq.trans (b:=(let z1:=A88 a1 a0 (a0.length:Int) (0:Int);cond (z1.1==0) (some (B4K (z1.2))) (cond (z1.1==1) (some (B4K false)) none))) (by kernel_rfl) ?_
 exact (M2 B4K hp (fun hp=>rfl) (fun hp=>(A7E hp fun _h=>rfl)))
theorem C9X:aPP 118 (A21 B1Y B5S B8t):=pcD true G53 (hl1 (i:=0) (by kernel_rfl) C6O) C8y
noncomputable def S54:Tab:=Tab.add S53 118 (lift (A21 B1Y B5S B8t))
noncomputable def D7l:FuncId→Bool:=qadd D7k 118
theorem G54:aPG S54 D7l:=G53.addQ C9X (cbl Try.f118) (fun _=>rfl)

abbrev B4D:SS:=⟨[.agg [.t true .str,.t true .str],.ptr 0 0 1 0],[.box [.t true .str]]⟩
noncomputable def C5r (x0_0 x0_1 p0:ByteArray):Bool:=(x0_0.toList==p0.toList)
noncomputable abbrev D1O (p0:ByteArray) (r:Bool):AV×List AObj×List Nat:=((.t true .bool r),[(.box [(.t true .str p0)])],[])
noncomputable abbrev C55:B4D.den→AV×List AObj×List Nat:=fun d=>D1O d.2.1.1 (C5r d.1.1.1 d.1.1.2.1 d.2.1.1)
noncomputable abbrev C2y:B4D.den→Bool:=fun d=>true
theorem C9o:A7A G54 aLn Try.f132 B4D C2y C55:=by
 rintro ⟨⟨⟨x0_0,x0_1,_⟩,_,_⟩,⟨⟨p0,_⟩,_⟩⟩ hp
 kernel_rfl
noncomputable abbrev C6c:=winQ (msum B4D C2y C55)
theorem D1C:aPM 132 C6c:=(mcM G54 hlz C9o).winQ (A64 fun d=>⟨rfl,rfl⟩)
noncomputable def S55:Tab:=Tab.add S54 132 (C6c)
noncomputable def D7m:FuncId→Bool:=qadd D7l 132
theorem G55:aPG S55 D7m:=G54.addMQ D1C (A7b _) (cbl Try.f132) (A5F _)

abbrev D78:List Sh:=.junk::.junk::.junk::.junk::.junk::.junk::.junk::.junk::.junk::.junk::[]
abbrev u11:=((),(),(),(),(),(),(),(),(),(),())
abbrev N5:SS:=⟨[.t false tq6,.fn 132 [0]],[.box [.t true .str]]⟩
abbrev I7:SS:=⟨(.t false tq6::.fn 132 [0]::.junk::.junk::.junk::.junk::.junk::tI::tI::D78),[.box [.t true .str]]⟩
abbrev W8:SS:=⟨(.junk::.junk::.junk::.junk::tI::D4v),[.box [.t true .str]]⟩
abbrev W9:SS:=⟨(.junk::D10),[.box [.t true .str]]⟩
noncomputable def Q3 (x0:LBBe) (x8:Int) (p0:ByteArray):=let z1:=x0.getD x8.toNat (bE,bE);C5r (z1.1) (z1.2) p0
noncomputable def Y7 (x0:LBBe) (x7 x8:Int) (p0:ByteArray):RT I7.den:=(.br (decide (x8<x7)) (.br (decide (0≤x8∧x8<(x0.length:Int))) (.br (Q3 x0 x8 p0) (.done .ret W8 (((),(),(),(),x8,u15),((p0,()),()))) (.next ((x0,(),(),(),(),(),(),x7,wI (x8+(1:Int)),u11),((p0,()),())))) .fail) (.done (.exit 0) W9 ((u20),((p0,()),()))))
abbrev K5:=(LBBe)×(Int)×(Int)
abbrev K3:=Nat×(Int)
def P6:K3:=(99,((0:Int):Int))
noncomputable def L6 (x0:LBBe) (x7 x8:Int) (p0:ByteArray):K5 ⊕ K3:=(cond (decide (x8<x7)) (cond (decide (0≤x8∧x8<(x0.length:Int))) (cond (Q3 x0 x8 p0) (.inr (0,x8)) (.inl (x0,x7,wI (x8+(1:Int))))) (.inr P6)) (.inr (1,((0:Int):Int))))
noncomputable def L4 (x0:LBBe) (x7 x8:Int) (p0:ByteArray):K3:=itX (fun v:K5=>L6 v.1 v.2.1 v.2.2 p0) P6 (x0,x7,x8)
noncomputable def P3 (p0:ByteArray) (a:K3):CT:=(.br (a.1==0) (.done .ret W8 (((),(),(),(),a.2,u15),((p0,()),()))) (.br (a.1==1) (.done (.exit 0) W9 ((u20),((p0,()),()))) .fail))
noncomputable def B0I (x0:LBBe) (x7 x8:Int) (p0:ByteArray):CT:=(P3 p0) (L4 x0 x7 x8 p0)
noncomputable abbrev Y1 {α:Sort _} (f:LBBe→Int→Int→ByteArray→α) (d:I7.den):α:=f d.1.1 d.1.2.2.2.2.2.2.2.1 d.1.2.2.2.2.2.2.2.2.1 d.2.1.1
noncomputable abbrev P8:I7.den→RT I7.den:=(Y1 Y7)
noncomputable def V8:Code:=((D4 0 (A1l Try.f131)).getD 0 (0,.skip)).2
noncomputable abbrev Y5 (p0:ByteArray) (v:K5):I7.den:=((v.1,(),(),(),(),(),(),v.2.1,v.2.2,u11),((p0,()),()))
theorem B0A (p0:ByteArray):(∀ v:K5,(Y7 v.1 v.2.1 v.2.2 p0).val=A6D (Y5 p0) (P3 p0) (L6 v.1 v.2.1 v.2.2 p0))∧∀ a:K3,CEnd I7.den ((P3 p0) a):=⟨fun v=>(A7G (A7G (A7G rfl rfl) rfl) rfl),fun a=>(A7t aCD (A7t aCD A7v))⟩
theorem B0g:RdA G55 aLn 0 V8 I7 1 [] (kepts [4] [(0,[])]) (fun d=>(P8 d).opt 1 []):=by
 intro d
 kernel_rfl
noncomputable abbrev X8:St→Option Tree:=I7.say 1 [] [] (Y1 B0I)
theorem B0u:aPL X8 V8:=SS.wp2 hlz [] P8 B0g (fun d=>rfl) _ (fun d=>Runs.ofI2 (step:=P8) (Y5 d.2.1.1) (B0A d.2.1.1) rfl (d.1.1,d.1.2.2.2.2.2.2.2.1,d.1.2.2.2.2.2.2.2.2.1))
noncomputable def O7 (x0:LBBe) (p0:ByteArray):Int:=let z1:=L4 x0 (x0.length:Int) (0:Int) p0;(cond (z1.1==0) (z1.2) (-1:Int))
noncomputable abbrev N8 (p0:ByteArray) (r:Int):AV×List AObj×List Nat:=((ti r),[(.box [(.t true .str p0)])],[])
noncomputable abbrev A7I:N5.den→AV×List AObj×List Nat:=fun d=>N8 d.2.1.1 (O7 d.1.1 d.2.1.1)
noncomputable def L0 (x0:LBBe) (p0:ByteArray):Bool:=let z1:=L4 x0 (x0.length:Int) (0:Int) p0;cond (z1.1==0) true (z1.1==1)
noncomputable abbrev Z9:N5.den→Bool:=fun d=>L0 d.1.1 d.2.1.1
noncomputable abbrev B1d:Nat→St→Option Tree:=fun b=>match b with | 0=>X8 | _=>fun _=>none
theorem B0K:A7A G55 (B1d) Try.f131 N5 Z9 A7I:=by
 rintro ⟨⟨x0,_,_⟩,⟨⟨p0,_⟩,_⟩⟩ hp
 change L0 x0 p0=true at hp
 unfold L0 at hp
 refine Eq.trans (b:=(let z1:=L4 x0 (x0.length:Int) (0:Int) p0;cond (z1.1==0) (some (N8 p0 (z1.2))) (cond (z1.1==1) (some (N8 p0 (-1:Int))) none))) (by kernel_rfl) ?_
 exact (M2 (N8 p0) hp (fun hp=>rfl) (fun hp=>(A7E hp fun _h=>rfl)))
noncomputable abbrev Q8:=winQ (msum N5 Z9 A7I)
theorem A0q:aPM 131 Q8:=(mcM G55 (hl1 (i:=0) (by kernel_rfl) B0u) B0K).winQ (A64 fun d=>⟨rfl,rfl⟩)
noncomputable def S56:Tab:=Tab.add S55 131 (Q8)
noncomputable def D7n:FuncId→Bool:=qadd D7m 131
theorem G56:aPG S56 D7n:=G55.addMQ A0q (A7b _) (cbl Try.f131) (A5F _)

abbrev B7g:List PSh:=[.t tq6,.t .str]
noncomputable def B3w (a0:LBBe) (a1:ByteArray):Int:=(O7 a0 a1)
noncomputable abbrev C9z (r:Int):AV×List AObj:=((ti r),[])
noncomputable abbrev C5g:H7 B7g→AV×List AObj:=fun d=>C9z (B3w d.1 d.2.1)
noncomputable def B0v (a0:LBBe) (a1:ByteArray):Bool:=L0 a0 a1
noncomputable abbrev C0M:H7 B7g→Bool:=fun d=>B0v d.1 d.2.1
theorem D2t:A7B true G56 aLn Try.f104 B7g C0M C5g:=by
 rintro ⟨a0,⟨a1,_⟩⟩ hp
 change B0v a0 a1=true at hp
 unfold B0v at hp
 refine Eq.trans (b:=(cond (L0 a0 a1) (some (C9z (O7 a0 a1))) none)) (by kernel_rfl) ?_
 exact (A7E hp fun _h=>rfl)
theorem D4d:aPP 104 (A21 B7g C0M C5g):=pcD true G56 hlz D2t
noncomputable def S57:Tab:=Tab.add S56 104 (lift (A21 B7g C0M C5g))
noncomputable def D7o:FuncId→Bool:=qadd D7n 104
theorem G57:aPG S57 D7o:=G56.addQ D4d (cbl Try.f104) (fun _=>rfl)

abbrev B7e:List PSh:=[.t tq6,.t .str]
noncomputable def C4c (a0:LBBe) (a1:ByteArray):ByteArray×Bool:=(cond (decide ((B3w a0 a1)<(0:Int))) (bE,false) ((a0.getD ((B3w a0 a1).toNat) (bE,bE)).2,true))
noncomputable abbrev C1E (r:ByteArray×Bool):AV×List AObj:=((.tup [(.t true .str r.1),(.t true .bool r.2)]),[])
noncomputable abbrev C5e:H7 B7e→AV×List AObj:=fun d=>C1E (C4c d.1 d.2.1)
noncomputable def B1K (a0:LBBe) (a1:ByteArray):Bool:=let z1:=B3w a0 a1;(B0v a0 a1)&&(cond (decide (z1<(0:Int))) true (decide (0≤z1∧z1<(a0.length:Int))))
noncomputable abbrev C0K:H7 B7e→Bool:=fun d=>B1K d.1 d.2.1
theorem D2r:A7B true G57 aLn Try.f138 B7e C0K C5e:=by
 rintro ⟨a0,⟨a1,_⟩⟩ hp
 change B1K a0 a1=true at hp
 unfold B1K at hp
 refine Eq.trans (b:=(let z1:=B3w a0 a1;cond (B0v a0 a1) (cond (decide (z1<(0:Int))) (some (C1E ((⟨#[]⟩:ByteArray),false))) (cond (decide (0≤z1∧z1<(a0.length:Int))) (some (C1E ((a0.getD (z1.toNat) ((⟨#[]⟩:ByteArray),(⟨#[]⟩:ByteArray))).2,true))) none)) none)) (by kernel_rfl) ?_
 exact (A7C hp fun hp=>(M2 C1E hp (fun hp=>rfl) (fun hp=>(A7E hp fun _h=>rfl))))
theorem D4b:aPP 138 (A21 B7e C0K C5e):=pcD true G57 hlz D2r
noncomputable def S58:Tab:=Tab.add S57 138 (lift (A21 B7e C0K C5e))
noncomputable def D7p:FuncId→Bool:=qadd D7o 138
theorem G58:aPG S58 D7p:=G57.addQ D4b (cbl Try.f138) (fun _=>rfl)

abbrev D8c:List Sh:=.junk::D6d
abbrev u33:=((),u32)
abbrev D6t:List AV:=.junk::D6s
abbrev D72:List AV:=.junk::D56
abbrev B9V:List PSh:=[.t tq6,.t tq4]
abbrev A8P:SS:=⟨(.t false tq6::.junk::.junk::.junk::.junk::.junk::.junk::.junk::.junk::.t false tq4::tI::tI::C72),[]⟩
abbrev B75:SS:=⟨(.junk::.junk::.junk::.junk::.t true .bool::D8c),[]⟩
abbrev C3u:SS:=⟨(.junk::D5w),[]⟩
noncomputable def C1N (x0:LBBe) (x9:Lq2) (x11:Int):=C4c x0 (((x9.getD x11.toNat ((0:Int),(bE,bE))).2).1)
noncomputable def C6D (x0:LBBe) (x9:Lq2) (x10 x11:Int):RT A8P.den:=let z1:=x9.getD x11.toNat ((0:Int),(bE,bE));let z2:=C1N x0 x9 x11;(.br (decide (x11<x10)) (.br (decide (0≤x11∧x11<(x9.length:Int))) (.br ((z1.1) != (3:Int)) (.next ((x0,(),(),(),(),(),(),(),(),x9,x10,wI (x11+(1:Int)),u26),())) (.br (B1K x0 ((z1.2).1)) (.br (!((z2.2)==(!(((z1.2).2).toList==bE.toList)))) (.done .ret B75 (((),(),(),(),false,u33),())) (.br (!((z2.1).toList==((z1.2).2).toList)) (.done .ret B75 (((),(),(),(),false,u33),())) (.next ((x0,(),(),(),(),(),(),(),(),x9,x10,wI (x11+(1:Int)),u26),())))) .fail)) .fail) (.done (.exit 0) C3u ((u38),())))
abbrev B21:=(LBBe)×Lq2×(Int)×(Int)
abbrev B44:=Nat×(Bool)
def B6y:B44:=(99,(false:Bool))
noncomputable def B4a (x0:LBBe) (x9:Lq2) (x10 x11:Int):B21 ⊕ B44:=let z1:=x9.getD x11.toNat ((0:Int),(bE,bE));let z2:=C1N x0 x9 x11;(cond (decide (x11<x10)) (cond (decide (0≤x11∧x11<(x9.length:Int))) (cond ((z1.1) != (3:Int)) (.inl (x0,x9,x10,wI (x11+(1:Int)))) (cond (B1K x0 ((z1.2).1)) (cond (!((z2.2)==(!(((z1.2).2).toList==bE.toList)))) (.inr (0,false)) (cond (!((z2.1).toList==((z1.2).2).toList)) (.inr (0,false)) (.inl (x0,x9,x10,wI (x11+(1:Int)))))) (.inr B6y))) (.inr B6y)) (.inr (1,(false:Bool))))
noncomputable def B3U (x0:LBBe) (x9:Lq2) (x10 x11:Int):B44:=itX (fun v:B21=>B4a v.1 v.2.1 v.2.2.1 v.2.2.2) B6y (x0,x9,x10,x11)
noncomputable def C0o (a:B44):CT:=(.br (a.1==0) (.done .ret B75 (((),(),(),(),a.2,u33),())) (.br (a.1==1) (.done (.exit 0) C3u ((u38),())) .fail))
noncomputable def D2Y (x0:LBBe) (x9:Lq2) (x10 x11:Int):CT:=C0o (B3U x0 x9 x10 x11)
noncomputable abbrev B6m {α:Sort _} (f:LBBe→Lq2→Int→Int→α) (d:A8P.den):α:=f d.1.1 d.1.2.2.2.2.2.2.2.2.2.1 d.1.2.2.2.2.2.2.2.2.2.2.1 d.1.2.2.2.2.2.2.2.2.2.2.2.1
noncomputable abbrev C1k:A8P.den→RT A8P.den:=(B6m C6D)
noncomputable def C2d:Code:=((D4 0 (A1l Try.f119)).getD 0 (0,.skip)).2
noncomputable abbrev C6t (v:B21):A8P.den:=((v.1,(),(),(),(),(),(),(),(),v.2.1,v.2.2.1,v.2.2.2,u26),())
theorem D2l:(∀ v:B21,(C6D v.1 v.2.1 v.2.2.1 v.2.2.2).val=A6D C6t C0o (B4a v.1 v.2.1 v.2.2.1 v.2.2.2))∧∀ a:B44,CEnd A8P.den (C0o a):=⟨fun v=>by repeat' first | apply A7G | rfl,fun a=>(A7t aCD (A7t aCD A7v))⟩
noncomputable def C6g (x0:LBBe) (x9:Lq2) (x10 x11:Int):Option (Ex×St):=let z1:=(⟨((.t false tq6 x0)::.junk::.junk::.junk::.junk::.junk::.junk::.junk::.junk::(.t false tq4 x9)::(ti x10)::(ti (wI (x11+(1:Int))))::D6t),[],0,[]⟩:St);let z2:=x9.getD x11.toNat ((0:Int),(bE,bE));let z3:=(⟨(.junk::.junk::.junk::.junk::(.t true .bool false)::D72),[],0,[]⟩:St);let z4:=C1N x0 x9 x11;(cond (decide (x11<x10)) (cond (decide (0≤x11∧x11<(x9.length:Int))) (cond ((z2.1) != (3:Int)) (some (.normal,z1)) (cond (B1K x0 ((z2.2).1)) (cond (!((z4.2)==(!(((z2.2).2).toList==bE.toList)))) (some (.ret,z3)) (cond (!((z4.1).toList==((z2.2).2).toList)) (some (.ret,z3)) (some (.normal,z1)))) none)) none) (some ((.exit 0),(⟨(.junk::D4s),[],0,[]⟩:St))))
theorem D0B:RdA G58 aLn 0 C2d A8P 0 [] (kepts [4] [(0,[])]) (B6m C6g):=by
 intro d
 kernel_rfl
theorem D0N:∀ d:A8P.den,(B6m C6g) d=(C1k d).opt 0 []:=by
 intro d
 kernel_rfl
noncomputable abbrev C4M:St→Option Tree:=A8P.say 0 [] [] (B6m D2Y)
theorem D15:aPL C4M C2d:=SS.wp2 hlz [] C1k D0B D0N _ (fun d=>Runs.ofI2 (step:=C1k) C6t D2l rfl (d.1.1,d.1.2.2.2.2.2.2.2.2.2.1,d.1.2.2.2.2.2.2.2.2.2.2.1,d.1.2.2.2.2.2.2.2.2.2.2.2.1))
noncomputable def B4k (a0:LBBe) (a1:Lq2):Bool:=let z1:=B3U a0 a1 (a1.length:Int) (0:Int);(cond (z1.1==0) (z1.2) true)
noncomputable abbrev C3W (r:Bool):AV×List AObj:=((.t true .bool r),[])
noncomputable abbrev C7I:H7 B9V→AV×List AObj:=fun d=>C3W (B4k d.1 d.2.1)
noncomputable def B0a (a0:LBBe) (a1:Lq2):Bool:=let z1:=B3U a0 a1 (a1.length:Int) (0:Int);cond (z1.1==0) true (z1.1==1)
noncomputable abbrev C27:H7 B9V→Bool:=fun d=>B0a d.1 d.2.1
noncomputable abbrev D4P:Nat→St→Option Tree:=fun b=>match b with | 0=>C4M | _=>fun _=>none
theorem D3z:A7B true G58 (D4P) Try.f119 B9V C27 C7I:=by
 rintro ⟨a0,⟨a1,_⟩⟩ hp
 change B0a a0 a1=true at hp
 unfold B0a at hp
 refine Eq.trans (b:=(let z1:=B3U a0 a1 (a1.length:Int) (0:Int);cond (z1.1==0) (some (C3W (z1.2))) (cond (z1.1==1) (some (C3W true)) none))) (by kernel_rfl) ?_
 exact (M2 C3W hp (fun hp=>rfl) (fun hp=>(A7E hp fun _h=>rfl)))
theorem D44:aPP 119 (A21 B9V C27 C7I):=pcD true G58 (hl1 (i:=0) (by kernel_rfl) D15) D3z
noncomputable def S59:Tab:=Tab.add S58 119 (lift (A21 B9V C27 C7I))
noncomputable def D7q:FuncId→Bool:=qadd D7p 119
theorem G59:aPG S59 D7q:=G58.addQ D44 (cbl Try.f119) (fun _=>rfl)

section
open Go.Proofs Go.Lib
theorem iT0:∀ w,(isAgg 0).run Try.prog w=.ok false w:=fun w=>by kernel_rfl
theorem iT3:∀ w,(isAgg 3).run Try.prog w=.ok false w:=fun w=>by kernel_rfl
theorem D5o:∀ w,(Go.sizeOf 70).run Try.prog w=.ok 2 w:=fun w=>by kernel_rfl
theorem D53:∀ w,(Go.sizeOf 25).run Try.prog w=.ok 1 w:=fun w=>by kernel_rfl
theorem D52:∀ w,(zeroValue 25).run Try.prog w=.ok (Value.slice none 0 0) w:=fun w=>by kernel_rfl
theorem D51:(Try.prog.info? 70).map (fun i=>(i.zero,i.size,i.bytes))=some (some (Value.agg #[.string ⟨#[]⟩,.string ⟨#[]⟩]),2,32):=by kernel_rfl
theorem C4l:Try.f105.ntmps=95:=by kernel_rfl

set_option maxHeartbeats 4000000 in
set_option maxRecDepth 100000 in
theorem D4r (b n c i vb voff m vc:Nat) (cs vs:List Value) (w:World) (hi:i<n) (hm:0<m) (hroom:n+m≤c) (hc63:c≤9223372036854775807) (hvb:vb ≠ b)
  (hcl:cs.length=n*2) (hvl:vs.length=m*2)
  (hcs:∀ j v,cs[j]? = some v→w.cell? ⟨b,j,none⟩=some v) (hsp:∀ j,j<(n+m)*2→(w.cell? ⟨b,j,none⟩).isSome=true) (hfz:∀ j,j<(n+m)*2→w.frozen? ⟨b,j,none⟩=false)
  (hvs:∀ j v,vs[j]? = some v→w.cell? ⟨vb,voff+j,none⟩=some v) (h1c:∀ v∈cs,v.oneCell'=true) (h1v:∀ v∈vs,v.oneCell'=true)
  (tA tB:TypeId) (kA kB:Nat) (hsa:w.shape? vb=some (tA,kA)) (hsb:w.shape? b=some (tB,kB)) (hkB:kB ≠ 0) (hfa:w.frozen? ⟨vb,voff,none⟩=false) (hfe:w.frozen? ⟨vb,kA,none⟩=false) :
  Calls Try.prog 105 #[.slice (some ⟨b,0,none⟩) n c,.int .i64 i,.slice (some ⟨vb,voff,none⟩) m vc] w fun e w' =>
   e=.returned (.slice (some ⟨b,0,none⟩) (n+m) c)∧w'=(w.drew.setCells b ((i+m)*2) (cs.drop (i*2))).setCells b (i*2) vs:=by
 have t0:=Try.underlying0;have t3:=Try.underlying3;have t4:=Try.underlying4;have t25:=Try.underlying25
 have a0:=iT0;have a3:=iT3;have z70:=D5o;have z25:=D53;have v25:=D52
 have u0:=run_underlying t0;have u3:=run_underlying t3;have u4:=run_underlying t4;have u25:=run_underlying t25
 have hz1:¬ ((m:Int)=0):=by omega
 have hz2:¬ ((i:Int)=(n:Int)):=by omega
 have hsz:(Try.prog.info? 70).map (·.size)=some 2:=by
  obtain ⟨i0,hi0,h0,h1,h2⟩:=info_parts D51
  rw [hi0];simp [h1]
 have hov:∀ lb cb,(callFunc 133 #[.slice (some ⟨vb,voff,none⟩) m vc,.slice (some ⟨b,(i+m)*2,none⟩) lb cb]).run Try.prog w=.ok (.value (.bool false)) w:=fun lb cb=>by
  rw [run_callFunc_extern Try.func133 (by kernel_rfl) (by kernel_rfl) (by kernel_rfl) (e:=Extern.SlicesOverlaps.overlaps #[25,25] #[4]) (by kernel_rfl),
   Lib.run_overlaps_apart w 25 4 70 t25 2 D5o ⟨vb,voff,none⟩ ⟨b,(i+m)*2,none⟩ m vc lb cb hvb tA tB kA kB hsa hsb hkB hfa hfe]
  rfl
 have hdl:(cs.drop (i*2)).length=(n - i)*2:=by rw [List.length_drop,hcl];omega
 have mixed:Try.prog.follows .mixedOrders=true:=by kernel_rfl
 have hw1:IntKind.i64.wrap ((i:Int)+(m:Int))=(i:Int)+(m:Int):=by rw [IntKind.wrap_i64];omega
 have hb1:(0:Int)≤(i:Int)+(m:Int):=by omega
 have hin:i≤n:=by omega
 have htn:((i:Int)+(m:Int)).toNat=i+m:=by omega
 have hb2:¬ (c=i+m):=by omega
 have hb3:(i:Int)≤(n:Int)+(m:Int):=by omega
 have hb4:¬ (c=i):=by omega
 have hcp1:∀ ty dc sc,(Builtin.copy_ #[25,25] ty #[.slice (some ⟨b,(i+m)*2,none⟩) (n+m - (i+m)) dc,.slice (some ⟨b,i*2,none⟩) (n+m - i) sc]).run Try.prog w.drew=.ok (goInt ((n - i:Nat):Int)) (w.drew.setCells b ((i+m)*2) (cs.drop (i*2))):=fun ty dc sc=>by
  have hmin:Nat.min (n+m - i) (n+m - (i+m))=n - i:=by simp only [Nat.min_def];split<;>omega
  have:=A7a w.drew 25 25 ty 70 2 b ((i+m)*2) (n+m - (i+m)) dc ⟨b,i*2,none⟩ (n+m - i) sc (cs.drop (i*2)) t25 hsz (by rw [hdl,hmin])
   (fun j v hj=>by rw [Addr.add_lit];exact hcs (i*2+j) v (by rwa [List.getElem?_drop] at hj))
   (fun j hj=>hsp _ (by rw [hdl] at hj;omega)) (fun j hj=>hfz _ (by rw [hdl] at hj;omega)) (fun v hv=>h1c v (List.mem_of_mem_drop hv))
  rw [hmin] at this
  exact this
 obtain ⟨W1,hW1⟩:∃ W1,W1=w.drew.setCells b ((i+m)*2) (cs.drop (i*2)):=⟨_,rfl⟩
 have hsp1:∀ k,k<(n+m)*2→(W1.cell? ⟨b,k,none⟩).isSome=true:=fun k hk=>by
  rw [hW1]
  exact isSome_setCells b (cs.drop (i*2)) ((i+m)*2) w.drew (fun j hj=>hsp ((i+m)*2+j) (by rw [hdl] at hj;omega)) k (hsp k hk)
 have hcp2:∀ (W:World),(∀ x,W.cell? x=W1.cell? x)→(∀ x,W.frozen? x=W1.frozen? x)→∀ ty dc,(Builtin.copy_ #[25,25] ty #[.slice (some ⟨b,i*2,none⟩) (n+m - i) dc,.slice (some ⟨vb,voff,none⟩) m vc]).run Try.prog W=.ok (goInt m) (W.setCells b (i*2) vs):=fun W hWc hWf ty dc=>by
  have hmin:Nat.min m (n+m - i)=m:=by simp only [Nat.min_def];split<;>omega
  have:=A7a W 25 25 ty 70 2 b (i*2) (n+m - i) dc ⟨vb,voff,none⟩ m vc vs t25 hsz (by rw [hvl,hmin])
   (fun j v hj=>by
    rw [Addr.add_lit,hWc,hW1,World.cell?_setCells_out b _ _ _ _ (fun h _=>absurd h hvb)]
    exact hvs j v hj)
   (fun j hj=>by rw [hWc];exact hsp1 _ (by omega)) (fun j hj=>by rw [hWf,hW1,World.frozen?_setCells];exact hfz _ (by omega)) h1v
  rw [hmin] at this
  exact this
 rw [← hW1] at hcp1
 go_enter Try.func105,C4l
 go_wp2_with (simp only [hov])
 go_region_law_o (refine step_copy_runI rfl _ _ 25 25 rfl _ _ (by simp [Act.eval,Act.put]) (by simp [Act.eval,Act.put]) (hcp1 _ _ _) ?_)
 go_wp2_with (at_builtin;refine wpList_copy_runI _ rfl _ _ 25 25 rfl _ _ rfl rfl (hcp2 _ (fun _=>rfl) (fun _=>rfl) _ _) ?_)
 go_ret
 first | exact ⟨rfl,rfl⟩ | exact ⟨rfl,by rw [hW1]⟩
set_option maxHeartbeats 4000000 in
set_option maxRecDepth 100000 in
theorem D0m (b n c vb voff m vc:Nat) (vs:List Value) (w:World) (hm:0<m) (hroom:n+m≤c) (hc63:c≤9223372036854775807)
  (hvl:vs.length=m*2) (hsp:∀ j,j<m*2→(w.cell? ⟨b,n*2+j,none⟩).isSome=true) (hfz:∀ j,j<m*2→w.frozen? ⟨b,n*2+j,none⟩=false)
  (hvs:∀ j v,vs[j]? = some v→w.cell? ⟨vb,voff+j,none⟩=some v) (h1v:∀ v∈vs,v.oneCell'=true) :
  Calls Try.prog 105 #[.slice (some ⟨b,0,none⟩) n c,.int .i64 n,.slice (some ⟨vb,voff,none⟩) m vc] w fun e w' =>
   e=.returned (.slice (some ⟨b,0,none⟩) (n+m) c)∧w'=w.setCells b (n*2) vs:=by
 have t0:=Try.underlying0;have t3:=Try.underlying3;have t4:=Try.underlying4;have t25:=Try.underlying25
 have a0:=iT0;have a3:=iT3;have z70:=D5o;have z25:=D53;have v25:=D52
 have u0:=run_underlying t0;have u3:=run_underlying t3;have u4:=run_underlying t4;have u25:=run_underlying t25
 have mixed:Try.prog.follows .mixedOrders=true:=by kernel_rfl
 obtain ⟨i0,hi0,hz0,hzs,hzb⟩:=info_parts D51
 have hz1:¬ ((m:Int)=0):=by omega
 have hsrc:Src Try.prog i0.size 25 (.slice (some ⟨vb,voff,none⟩) m vc) m vs w:=Src.ofSlice w t25 ⟨vb,voff,none⟩ m vc vs (by rw [hzs];exact hvl) (fun j u hj=>by rw [Addr.add_lit];exact hvs j u hj) h1v
 have h1:∀ j,j<vs.length→(w.cell? ⟨b,0+n*i0.size+j,none⟩).isSome=true:=fun j hj=>by rw [hzs,Nat.zero_add];exact hsp j (by omega)
 have h2:∀ j,j<vs.length→w.frozen? ⟨b,0+n*i0.size+j,none⟩=false:=fun j hj=>by rw [hzs,Nat.zero_add];exact hfz j (by omega)
 have hoff:0+n*i0.size=n*2:=by rw [hzs];omega
 go_enter Try.func105,C4l
 go_wp2_with (at_builtin;refine wpList_append_room_src _ rfl _ _ 25 25 rfl 70 i0 t25 hi0 b 0 n c rfl _ rfl m vs hsrc hroom h1 h2 ?_)
 go_ret
 first | exact ⟨rfl,rfl⟩ | exact ⟨rfl,by rw [hoff]⟩ | exact ⟨rfl,by rw [← hoff]⟩ | exact ⟨rfl,by simp [hzs]⟩

set_option maxHeartbeats 4000000 in
set_option maxRecDepth 100000 in
theorem D0l (base:Option Addr) (n c vb voff m vc:Nat) (cs vs:List Value) (w:World) (hm:0<m) (hnc:n≤c) (hroom:c<n+m) (hbig:(n+m)*32≤140737488355328)
  (hcl:cs.length=n*2) (hvl:vs.length=m*2) (hnil:base=none→n=0)
  (hcs:∀ a,base=some a→∀ j v,cs[j]? = some v→w.cell? (a.add j)=some v)
  (hvs:∀ j v,vs[j]? = some v→w.cell? ⟨vb,voff+j,none⟩=some v) (h1v:∀ v∈vs,v.oneCell'=true) :
  Calls Try.prog 105 #[.slice base n c,.int .i64 n,.slice (some ⟨vb,voff,none⟩) m vc] w fun e w' =>
   e=.returned (.slice (some ⟨w.heap.size,0,none⟩) (n+m) (grownCap w (n+m) c 70)) ∧
   w'=w.drew.alloc (.cells ((cs++vs).toArray++Builtin.zeroCells #[Value.string ⟨#[]⟩,Value.string ⟨#[]⟩] (grownCap w (n+m) c 70 - (n+m))) 70):=by
 have t0:=Try.underlying0;have t3:=Try.underlying3;have t4:=Try.underlying4;have t25:=Try.underlying25
 have a0:=iT0;have a3:=iT3;have z70:=D5o;have z25:=D53;have v25:=D52
 have u0:=run_underlying t0;have u3:=run_underlying t3;have u4:=run_underlying t4;have u25:=run_underlying t25
 have mixed:Try.prog.follows .mixedOrders=true:=by kernel_rfl
 obtain ⟨i0,hi0,hz0,hzs,hzb⟩:=info_parts D51
 have hz1:¬ ((m:Int)=0):=by omega
 have hsrc:Src Try.prog i0.size 25 (.slice (some ⟨vb,voff,none⟩) m vc) m vs w:=Src.ofSlice w t25 ⟨vb,voff,none⟩ m vc vs (by rw [hzs];exact hvl) (fun j u hj=>by rw [Addr.add_lit];exact hvs j u hj) h1v
 have hold:(Builtin.firstCells i0.size n (.slice base n c)).run Try.prog w.drew=.ok cs.toArray w.drew:=by
  rw [hzs]
  cases base with
  | none =>
   have h0:=hnil rfl
   subst h0
   have hc0:cs=[]:=List.length_eq_zero_iff.1 (by omega)
   rw [hc0]
   exact run_firstCells_none w.drew 2 0 0 c
  | some a=>exact run_firstCells_some w.drew 2 n a n c cs (by omega) (fun j v hj=>hcs a rfl j v hj)
 have hrun:∀ ty,(Builtin.append_ #[25,25] ty #[.slice base n c,.slice (some ⟨vb,voff,none⟩) m vc]).run Try.prog w=_:=fun ty =>
  run_append_grow_src w 25 25 ty 70 i0 _ t25 hi0 hz0 base n c cs hold _ m vs hsrc hroom (by omega) (by rw [hzb];exact growslice_fits hroom hbig)
 go_enter Try.func105,C4l
 cases base with
 | none =>
  have h0:=hnil rfl
  subst h0
  go_wp2_with (at_builtin;refine Lib.wpList_append_run _ rfl _ _ _ _ rfl _ _ rfl rfl _ _ (hrun _) ?_)
  go_ret
  exact ⟨rfl,rfl⟩
 | some a =>
  obtain ⟨ab,ao,asp⟩:=a
  go_wp2_with (at_builtin;refine Lib.wpList_append_run _ rfl _ _ _ _ rfl _ _ rfl rfl _ _ (hrun _) ?_)
  all_goals (go_ret;exact ⟨rfl,rfl⟩)
set_option maxHeartbeats 4000000 in
set_option maxRecDepth 100000 in
theorem D5p (b n c i vb voff m vc:Nat) (cs vs:List Value) (w:World) (hi:i<n) (hm:0<m) (hnc:n≤c) (hroom:c<n+m) (hbig:(n+m)*32≤140737488355328)
    (hcl:cs.length=n*2) (hvl:vs.length=m*2)
    (hcs:∀ j v,cs[j]? = some v→w.cell? ⟨b,j,none⟩=some v)
    (hvs:∀ j v,vs[j]? = some v→w.cell? ⟨vb,voff+j,none⟩=some v) (h1c:∀ v∈cs,v.oneCell'=true) (h1v:∀ v∈vs,v.oneCell'=true) :
    Calls Try.prog 105 #[.slice (some ⟨b,0,none⟩) n c,.int .i64 i,.slice (some ⟨vb,voff,none⟩) m vc] w fun e w' =>
      e=.returned (.slice (some ⟨w.heap.size,0,none⟩) (n+m) (grownCap w (n+m) c 70)) ∧
      w'=(((w.alloc (.cells ((cs.take (i*2)).toArray++Builtin.zeroCells #[Value.string ⟨#[]⟩,Value.string ⟨#[]⟩] (n+m - i)++Builtin.zeroCells #[Value.string ⟨#[]⟩,Value.string ⟨#[]⟩] (grownCap w (n+m) c 70 - (n+m))) 70)).drew.setCells w.heap.size (i*2) vs).drew).setCells w.heap.size ((i+m)*2) (cs.drop (i*2)):=by
  have t0:=Try.underlying0;have t3:=Try.underlying3;have t4:=Try.underlying4;have t25:=Try.underlying25
  have a0:=iT0;have a3:=iT3;have z70:=D5o;have z25:=D53;have v25:=D52
  have u0:=run_underlying t0;have u3:=run_underlying t3;have u4:=run_underlying t4;have u25:=run_underlying t25
  have mixed:Try.prog.follows .mixedOrders=true:=by kernel_rfl
  obtain ⟨i0,hi0,hz0,hzs,hzb⟩:=info_parts D51
  have hz1:¬ ((m:Int)=0):=by omega
  have hz2:¬ ((i:Int)=(n:Int)):=by omega
  have hz3:(c:Int)<(n:Int)+(m:Int):=by omega
  have hsz:(Try.prog.info? 70).map (·.size)=some 2:=by rw [hi0];simp [hzs]
  have hbw:b<w.heap.size:=block_lt_of_cell (hcs 0 _ (List.getElem?_eq_getElem (by omega)))
  have hvw:vb<w.heap.size:=block_lt_of_cell (hvs 0 _ (List.getElem?_eq_getElem (by omega)))
  have hkk:(n:Int)+(m:Int) - (i:Int)=((n+m - i:Nat):Int):=by omega
  have hik:i+(n+m - i)=n+m:=by omega
  have hold:(Builtin.firstCells i0.size i (.slice (some ⟨b,0,none⟩) i c)).run Try.prog w.drew=.ok (cs.take (i*2)).toArray w.drew:=by
    rw [hzs]
    exact run_firstCells_some w.drew 2 i ⟨b,0,none⟩ i c (cs.take (i*2)) (by rw [List.length_take];omega) (fun j v hj=>by
      rw [Addr.add_lit,Nat.zero_add]
      rw [List.getElem?_take] at hj
      split at hj
      · exact hcs j v hj
      · cases hj)
  have hrz : ∀ ty, (Builtin.append_ #[25, 3] ty #[.slice (some ⟨b, 0, none⟩) i c, .int .i64 ((n : Int) + (m : Int) - (i : Int))]).run Try.prog w =
      .ok (.slice (some ⟨w.heap.size,0,none⟩) (n+m) (grownCap w (n+m) c 70)) (w.drew.alloc (.cells ((cs.take (i*2)).toArray++Builtin.zeroCells #[Value.string ⟨#[]⟩,Value.string ⟨#[]⟩] (n+m - i)++Builtin.zeroCells #[Value.string ⟨#[]⟩,Value.string ⟨#[]⟩] (grownCap w (n+m) c 70 - (n+m))) 70)):=fun ty=>by
    have h:=Lib.run_append_grow_zeros w 25 3 ty 70 i0 _ .i64 .i64 t25 t3 hi0 hz0 (some ⟨b,0,none⟩) i c (cs.take (i*2)) hold (n+m - i) (by omega) (by omega) (by omega) (by omega) (by rw [hzb];omega) (by rw [hzb,hik];exact growslice_fits hroom hbig)
    rw [hik] at h
    rw [hkk]
    exact h
  obtain ⟨G,hG⟩:∃ G,G=grownCap w (n+m) c 70:=⟨_,rfl⟩
  obtain ⟨ROW,hROW⟩:∃ ROW:Array Value,ROW=(cs.take (i*2)).toArray++Builtin.zeroCells #[Value.string ⟨#[]⟩,Value.string ⟨#[]⟩] (n+m - i)++Builtin.zeroCells #[Value.string ⟨#[]⟩,Value.string ⟨#[]⟩] (G - (n+m)):=⟨_,rfl⟩
  rw [← hG] at hrz ⊢
  rw [← hROW] at hrz ⊢
  have hRl:(n+m)*2≤ROW.size:=by
    rw [hROW]
    simp [Builtin.zeroCells]
    omega
  obtain ⟨W1,hW1⟩:∃ W1,W1=w.drew.alloc (.cells ROW 70):=⟨_,rfl⟩
  rw [← hW1] at hrz
  have hN:∀ j,j<(n+m)*2→(W1.cell? ⟨w.heap.size,j,none⟩).isSome=true:=fun j hj=>by
    rw [hW1,World.cell?_alloc_at (w:=w.drew) ROW _ w.heap.size j rfl,Array.getElem?_eq_getElem (by omega)];rfl
  have hNf:∀ j,W1.frozen? ⟨w.heap.size,j,none⟩=false:=fun j=>by rw [hW1];exact World.frozen?_alloc_at (w:=w.drew) ROW _ w.heap.size j rfl
  have hOb:∀ j v,w.cell? ⟨b,j,none⟩=some v→W1.cell? ⟨b,j,none⟩=some v:=fun j v h=>by rw [hW1,World.cell?_alloc_past (w:=w.drew) _ b j hbw];exact h
  have hOv:∀ j v,w.cell? ⟨vb,j,none⟩=some v→W1.cell? ⟨vb,j,none⟩=some v:=fun j v h=>by rw [hW1,World.cell?_alloc_past (w:=w.drew) _ vb j hvw];exact h
  have hcpA:∀ (W:World),(∀ x,W.cell? x=W1.cell? x)→(∀ x,W.frozen? x=W1.frozen? x)→∀ ty dc,(Builtin.copy_ #[25,25] ty #[.slice (some ⟨w.heap.size,i*2,none⟩) (n+m - i) dc,.slice (some ⟨vb,voff,none⟩) m vc]).run Try.prog W=.ok (goInt m) (W.setCells w.heap.size (i*2) vs):=fun W hWc hWf ty dc=>by
    have hmin:Nat.min m (n+m - i)=m:=by simp only [Nat.min_def];split<;>omega
    have:=A7a W 25 25 ty 70 2 w.heap.size (i*2) (n+m - i) dc ⟨vb,voff,none⟩ m vc vs t25 hsz (by rw [hvl,hmin])
      (fun j v hj=>by rw [Addr.add_lit,hWc];exact hOv _ v (hvs j v hj))
      (fun j hj=>by rw [hWc];exact hN _ (by omega)) (fun j hj=>by rw [hWf];exact hNf _) h1v
    rw [hmin] at this
    exact this
  have hGn:n+m≤G:=by rw [hG];exact grownCap_ge w _ _ _
  have hG63:G≤9223372036854775807:=by
    have:=grownCap_le_maxLen w (n+m) c 70 (by unfold maxLen;omega)
    rw [← hG] at this
    unfold maxLen at this
    omega
  have hGi:¬ (G=i):=by omega
  have hGim:¬ (G=i+m):=by omega
  have hci:¬ (c=i):=by omega
  have hbN:b ≠ w.heap.size:=by omega
  have hdl:(cs.drop (i*2)).length=(n - i)*2:=by rw [List.length_drop,hcl];omega
  have hcpB:∀ (W:World),(∀ x,W.cell? x=(W1.setCells w.heap.size (i*2) vs).cell? x)→(∀ x,W.frozen? x=(W1.setCells w.heap.size (i*2) vs).frozen? x)→∀ ty dc sc,(Builtin.copy_ #[25,25] ty #[.slice (some ⟨w.heap.size,(i+m)*2,none⟩) (n+m - (i+m)) dc,.slice (some ⟨b,i*2,none⟩) (n - i) sc]).run Try.prog W=.ok (goInt ((n - i:Nat):Int)) (W.setCells w.heap.size ((i+m)*2) (cs.drop (i*2))):=fun W hWc hWf ty dc sc=>by
    have hmin:Nat.min (n - i) (n+m - (i+m))=n - i:=by simp only [Nat.min_def];split<;>omega
    have:=A7a W 25 25 ty 70 2 w.heap.size ((i+m)*2) (n+m - (i+m)) dc ⟨b,i*2,none⟩ (n - i) sc (cs.drop (i*2)) t25 hsz (by rw [hdl,hmin])
      (fun j v hj=>by
        rw [Addr.add_lit,hWc,World.cell?_setCells_out _ _ _ _ _ (fun h _=>absurd h hbN)]
        exact hOb _ v (hcs (i*2+j) v (by rwa [List.getElem?_drop] at hj)))
      (fun j hj=>by rw [hWc];exact isSome_setCells w.heap.size vs (i*2) W1 (fun t ht=>hN (i*2+t) (by omega)) _ (hN _ (by rw [hdl] at hj;omega)))
      (fun j hj=>by rw [hWf,World.frozen?_setCells];exact hNf _) (fun v hv=>h1c v (List.mem_of_mem_drop hv))
    rw [hmin] at this
    exact this
  subst hW1
  have hE1:∀ x,((w.alloc (.cells ROW 70)).drew).cell? x=(w.drew.alloc (.cells ROW 70)).cell? x:=fun x=>rfl
  have hE2:∀ x,((w.alloc (.cells ROW 70)).drew).frozen? x=(w.drew.alloc (.cells ROW 70)).frozen? x:=fun x=>rfl
  have hF1:∀ x,(((w.alloc (.cells ROW 70)).drew.setCells w.heap.size (i*2) vs).drew).cell? x=((w.drew.alloc (.cells ROW 70)).setCells w.heap.size (i*2) vs).cell? x:=fun x=>rfl
  have hF2:∀ x,(((w.alloc (.cells ROW 70)).drew.setCells w.heap.size (i*2) vs).drew).frozen? x=((w.drew.alloc (.cells ROW 70)).setCells w.heap.size (i*2) vs).frozen? x:=fun x=>rfl
  have hw1:IntKind.i64.wrap ((i:Int)+(m:Int))=(i:Int)+(m:Int):=by rw [IntKind.wrap_i64];omega
  have hb1:(0:Int)≤(i:Int)+(m:Int):=by omega
  have hin:i≤n:=by omega
  have htn:((i:Int)+(m:Int)).toNat=i+m:=by omega
  have hb3:(i:Int)≤(n:Int):=by omega
  clear hkk hik hold hROW hG hRl
  go_enter Try.func105,C4l
  go_wp2_with (first
    | (at_builtin;refine Lib.wpList_append_run _ rfl _ _ _ _ rfl _ _ rfl rfl _ _ (hrz _) ?_)
    | (at_builtin;refine wpList_copy_runI _ rfl _ _ 25 25 rfl _ _ rfl rfl (hcpA _ hE1 hE2 _ _) ?_)
    | (at_builtin;refine wpList_copy_runI _ rfl _ _ 25 25 rfl _ _ rfl rfl (hcpB _ (fun _=>rfl) (fun _=>rfl) _ _ _) ?_))
  go_region_law_o (refine step_copy_runI rfl _ _ 25 25 rfl (.slice (some ⟨w.heap.size,(i+m)*2,none⟩) (n+m - (i+m)) (G - (i+m))) (.slice (some ⟨b,i*2,none⟩) (n - i) (c - i)) (by simp [Act.eval,Act.put]) (by simp [Act.eval,Act.put]) (hcpB _ hF1 hF2 3 (G - (i+m)) (c - i)) ?_)
  go_wp2
  go_ret
  exact ⟨rfl,rfl⟩
end
theorem D6m:aPM 105 (A6r 70):=MContract.insPair (F:=105) (E:=70)
 (fun b n c i vb vc cs vs w h1 h2 h3 h4 h5 h6 h7 h8 h9 h10 h11 h12 tA tB kA kB g1 g2 g3 g4 g5=>D4r b n c i vb 0 1 vc cs vs w h1 (by decide) h2 h3 h4 h5 h6 h7 h8 h9 h10 h11 h12 tA tB kA kB g1 g2 g3 g4 g5)
 (fun b n c vb vc vs w h1 h2 h3 h4 h5 h6 h7=>D0m b n c vb 0 1 vc vs w (by decide) h1 h2 h3 h4 h5 h6 h7)
 (fun base n c vb vc cs vs w h1 h2 h3 h4 h5 h6 h7 h8 h9=>(D0l base n c vb 0 1 vc cs vs w (by decide) h1 h2 h3 h4 h5 h6 h7 h8 h9).mono (fun _ _ h=>⟨_,grownCap_ge w (n+1) c 70,grownCap_le_maxLen w (n+1) c 70 (by simp only [maxLen];omega),h.1,h.2⟩))
 (fun b n c i vb vc cs vs w h1 h2 h3 h4 h5 h6 h7 h8 h9 h10=>(D5p b n c i vb 0 1 vc cs vs w h1 (by decide) h2 h3 h4 h5 h6 h7 h8 h9 h10).mono (fun _ _ h=>⟨_,grownCap_ge w (n+1) c 70,grownCap_le_maxLen w (n+1) c 70 (by simp only [maxLen];omega),h.1,h.2⟩))
noncomputable def D70 (l:LBBe) (i:Int) (y:LBBe):LBBe:=l.take i.toNat++(y++l.drop i.toNat)
noncomputable def D3t (l:LBBe) (i:Int) (y:LBBe):Bool:=decide (0≤i∧i≤(l.length:Int))&&decide ((l.length+1)*32≤140737488355328)
noncomputable def S60:Tab:=Tab.add S59 105 (win E8 (A6r 70))
noncomputable def D7r:FuncId→Bool:=D7q
theorem G60:aPG S60 D7r:=G59.addM (D6m.win E8) (A7d _) ⟨Try.f105,by kernel_rfl,by kernel_rfl,by kernel_rfl⟩ (by kernel_rfl)

abbrev B8b:SS:=⟨[.all 0 2,.t true .str,.t true .str],[.rows 70 true J8]⟩
abbrev A7W:SS:=⟨(.all 0 2::.t true .str::.t true .str::.junk::.junk::.junk::.junk::.junk::tI::D12),[.rows 70 true J8]⟩
abbrev B6J:SS:=⟨(.all 0 2::.t true .str::.t true .str::.junk::.junk::.junk::.junk::.junk::tI::D12),[.rows 70 true J8]⟩
noncomputable def C4Z (x1 x2:ByteArray) (x8:Int) (h0:LBBe):RT A7W.den:=let z1:=(h0.getD x8.toNat (bE,bE)).1;(.br (decide (x8<(h0.length:Int))) (.br (decide (0≤x8∧x8<(h0.length:Int))) (.br (Op.bytesLess z1.toList x1.toList||(z1.toList==x1.toList)) (.next (((),x1,x2,(),(),(),(),(),wI (x8+(1:Int)),u34),(h0,()))) (.done (.exit 0) B6J (((),x1,x2,(),(),(),(),(),x8,u34),(h0,())))) .fail) (.done (.exit 0) B6J (((),x1,x2,(),(),(),(),(),x8,u34),(h0,()))))
abbrev B1x:=(ByteArray)×(ByteArray)×(Int)×(LBBe)
abbrev B1t:=Nat×(ByteArray)×(ByteArray)×(Int)×(LBBe)
def B8p:B1t:=(99,(bE:ByteArray),(bE:ByteArray),((0:Int):Int),([]:LBBe))
noncomputable def B2I (x1 x2:ByteArray) (x8:Int) (h0:LBBe):B1x ⊕ B1t:=let z1:=(h0.getD x8.toNat (bE,bE)).1;(cond (decide (x8<(h0.length:Int))) (cond (decide (0≤x8∧x8<(h0.length:Int))) (cond (Op.bytesLess z1.toList x1.toList||(z1.toList==x1.toList)) (.inl (x1,x2,wI (x8+(1:Int)),h0)) (.inr (0,x1,x2,x8,h0))) (.inr B8p)) (.inr (0,x1,x2,x8,h0)))
noncomputable def B2l (x1 x2:ByteArray) (x8:Int) (h0:LBBe):B1t:=itX (fun v:B1x=>B2I v.1 v.2.1 v.2.2.1 v.2.2.2) B8p (x1,x2,x8,h0)
noncomputable def B8d (a:B1t):CT:=(.br (a.1==0) (.done (.exit 0) B6J (((),a.2.1,a.2.2.1,(),(),(),(),(),a.2.2.2.1,u34),(a.2.2.2.2,()))) .fail)
noncomputable def D1p (x1 x2:ByteArray) (x8:Int) (h0:LBBe):CT:=B8d (B2l x1 x2 x8 h0)
noncomputable abbrev B4H {α:Sort _} (f:ByteArray→ByteArray→Int→LBBe→α) (d:A7W.den):α:=f d.1.2.1 d.1.2.2.1 d.1.2.2.2.2.2.2.2.2.1 d.2.1
noncomputable abbrev B82:A7W.den→RT A7W.den:=(B4H C4Z)
noncomputable def C0e:Code:=((D4 0 (A1l Try.f65)).getD 0 (0,.skip)).2
noncomputable abbrev C4r (v:B1x):A7W.den:=(((),v.1,v.2.1,(),(),(),(),(),v.2.2.1,u34),(v.2.2.2,()))
theorem D0S:(∀ v:B1x,(C4Z v.1 v.2.1 v.2.2.1 v.2.2.2).val=A6D C4r B8d (B2I v.1 v.2.1 v.2.2.1 v.2.2.2))∧∀ a:B1t,CEnd A7W.den (B8d a):=⟨fun v=>(A7G (A7G (A7G rfl rfl) rfl) rfl),fun a=>(A7t aCD A7v)⟩
noncomputable def C4m (x1 x2:ByteArray) (x8:Int) (h0:LBBe):Option (Ex×St):=let z1:=(⟨((.all 0 2)::(.t true .str x1)::(.t true .str x2)::.junk::.junk::.junk::.junk::.junk::(ti x8)::D3j),[(.rows 70 true J8 h0)],1,[]⟩:St);let z2:=(h0.getD x8.toNat (bE,bE)).1;(cond (decide (x8<(h0.length:Int))) (cond (decide (0≤x8∧x8<(h0.length:Int))) (cond (Op.bytesLess z2.toList x1.toList||(z2.toList==x1.toList)) (some (.normal,(⟨((.all 0 2)::(.t true .str x1)::(.t true .str x2)::.junk::.junk::.junk::.junk::.junk::(ti (wI (x8+(1:Int))))::D3j),[(.rows 70 true J8 h0)],1,[]⟩:St))) (some ((.exit 0),z1))) none) (some ((.exit 0),z1)))
theorem C9a:RdA G60 aLn 0 C0e A7W 1 [] (kepts [] [(0,[0,1,2,8])]) (B4H C4m):=by
 intro d
 kernel_rfl
theorem C9i:∀ d:A7W.den,(B4H C4m) d=(B82 d).opt 1 []:=by
 intro d
 kernel_rfl
noncomputable abbrev C2C:St→Option Tree:=A7W.say 1 [] [] (B4H D1p)
theorem D0r:aPL C2C C0e:=SS.wp2 hlz [] B82 C9a C9i _ (fun d=>Runs.ofI2 (step:=B82) C4r D0S rfl (d.1.2.1,d.1.2.2.1,d.1.2.2.2.2.2.2.2.2.1,d.2.1))
noncomputable def C22 (x1 x2:ByteArray) (h0:LBBe):=let z1:=B2l x1 x2 (0:Int) h0;D70 (z1.2.2.2.2) (z1.2.2.2.1) [((z1.2.1),(z1.2.2.1))]
noncomputable def C7j (x1 x2:ByteArray) (h0:LBBe):LBBe:=let z1:=B3w h0 x1;(cond (decide (z1 ≥ (0:Int))) (h0.set (z1.toNat) ((h0.getD (z1.toNat) (bE,bE)).1,x2)) (C22 x1 x2 h0))
noncomputable abbrev C1G (r:LBBe):AV×List AObj×List Nat:=((.all 0 2),[(.rows 70 true J8 r)],[0])
noncomputable abbrev C9D:B8b.den→AV×List AObj×List Nat:=fun d=>C1G (C7j d.1.2.1 d.1.2.2.1 d.2.1)
noncomputable def B1L (x1 x2:ByteArray) (h0:LBBe):Bool:=let z1:=B2l x1 x2 (0:Int) h0;let z2:=B3w h0 x1;(B0v h0 x1)&&(cond (decide (z2 ≥ (0:Int))) (decide (0≤z2∧z2<(h0.length:Int))) ((z1.1==0)&&(D3t (z1.2.2.2.2) (z1.2.2.2.1) [((z1.2.1),(z1.2.2.1))])))
noncomputable abbrev C6r:B8b.den→Bool:=fun d=>B1L d.1.2.1 d.1.2.2.1 d.2.1
noncomputable abbrev D30:Nat→St→Option Tree:=fun b=>match b with | 0=>C2C | _=>fun _=>none
theorem D2u:A7z false [] [0] [] G60 (D30) Try.f65 B8b C6r C9D:=by
 rintro ⟨⟨_,x1,x2,_⟩,⟨h0,_⟩⟩ hp
 change B1L x1 x2 h0=true at hp
 unfold B1L at hp
 refine Eq.trans (b:=(let z1:=B2l x1 x2 (0:Int) h0;let z2:=B3w h0 x1;cond (B0v h0 x1) (cond (decide (z2 ≥ (0:Int))) (cond (decide (0≤z2∧z2<(h0.length:Int))) (some (C1G (h0.set (z2.toNat) ((h0.getD (z2.toNat) ((⟨#[]⟩:ByteArray),(⟨#[]⟩:ByteArray))).1,x2)))) none) (cond (z1.1==0) (cond (D3t (z1.2.2.2.2) (z1.2.2.2.1) [((z1.2.1),(z1.2.2.1))]) (some (C1G (C22 x1 x2 h0))) none) none)) none)) (by kernel_rfl) ?_
 exact (A7C hp fun hp=>(M2 C1G hp (fun hp=>(A7E hp fun _h=>rfl)) (fun hp=>(A7C hp fun hp=>(A7E hp fun _h=>rfl)))))
noncomputable abbrev C9G:=win E8 (msum B8b C6r C9D)
theorem D4e:aPM 65 C9G:=(mcE false [] [0] []  G60 (hl1 (i:=0) (by kernel_rfl) D0r) D2u).win E8
noncomputable def S61:Tab:=Tab.add S60 65 (C9G)
noncomputable def D7s:FuncId→Bool:=D7r
theorem G61:aPG S61 D7s:=G60.addM D4e (A7d _) (cbl Try.f65) (by kernel_rfl)

abbrev B4C:SS:=⟨[.agg [.t true .str,.t true .str],.ptr 0 0 1 0],[.box [.t true .str]]⟩
noncomputable def B43 (x0_0 x0_1 p0:ByteArray):Bool:=(x0_0.toList==p0.toList)
noncomputable abbrev D1N (p0:ByteArray) (r:Bool):AV×List AObj×List Nat:=((.t true .bool r),[(.box [(.t true .str p0)])],[])
noncomputable abbrev C54:B4C.den→AV×List AObj×List Nat:=fun d=>D1N d.2.1.1 (B43 d.1.1.1 d.1.1.2.1 d.2.1.1)
noncomputable abbrev C2x:B4C.den→Bool:=fun d=>true
theorem C9l:A7A G61 aLn Try.f107 B4C C2x C54:=by
 rintro ⟨⟨⟨x0_0,x0_1,_⟩,_,_⟩,⟨⟨p0,_⟩,_⟩⟩ hp
 kernel_rfl
noncomputable abbrev C6b:=winQ (msum B4C C2x C54)
theorem D1z:aPM 107 C6b:=(mcM G61 hlz C9l).winQ (A64 fun d=>⟨rfl,rfl⟩)
noncomputable def S62:Tab:=Tab.add S61 107 (C6b)
noncomputable def D7t:FuncId→Bool:=qadd D7s 107
theorem G62:aPG S62 D7t:=G61.addMQ D1z (A7b _) (cbl Try.f107) (A5F _)

abbrev N4:SS:=⟨[.all 0 2,.fn 107 [1]],[.rows 70 true J8,.box [.t true .str]]⟩
abbrev I6:SS:=⟨(.all 0 2::.fn 107 [1]::.junk::.junk::.junk::.junk::.junk::tI::tI::D78),[.rows 70 true J8,.box [.t true .str]]⟩
abbrev W6:SS:=⟨(.junk::.junk::.junk::.junk::tI::D4v),[.rows 70 true J8,.box [.t true .str]]⟩
abbrev W7:SS:=⟨(.junk::D10),[.rows 70 true J8,.box [.t true .str]]⟩
noncomputable def Q2 (x8:Int) (h0:LBBe) (q0:ByteArray):=let z1:=h0.getD x8.toNat (bE,bE);B43 (z1.1) (z1.2) q0
noncomputable def Y6 (x7 x8:Int) (h0:LBBe) (q0:ByteArray):RT I6.den:=(.br (decide (x8<x7)) (.br (decide (0≤x8∧x8<(h0.length:Int))) (.br (Q2 x8 h0 q0) (.done .ret W6 (((),(),(),(),x8,u15),(h0,(q0,()),()))) (.next (((),(),(),(),(),(),(),x7,wI (x8+(1:Int)),u11),(h0,(q0,()),())))) .fail) (.done (.exit 0) W7 ((u20),(h0,(q0,()),()))))
abbrev K4:=(Int)×(Int)
abbrev K2:=Nat×(Int)
def P5:K2:=(99,((0:Int):Int))
noncomputable def L5 (x7 x8:Int) (h0:LBBe) (q0:ByteArray):K4 ⊕ K2:=(cond (decide (x8<x7)) (cond (decide (0≤x8∧x8<(h0.length:Int))) (cond (Q2 x8 h0 q0) (.inr (0,x8)) (.inl (x7,wI (x8+(1:Int))))) (.inr P5)) (.inr (1,((0:Int):Int))))
noncomputable def L3 (x7 x8:Int) (h0:LBBe) (q0:ByteArray):K2:=itX (fun v:K4=>L5 v.1 v.2 h0 q0) P5 (x7,x8)
noncomputable def P2 (h0:LBBe) (q0:ByteArray) (a:K2):CT:=(.br (a.1==0) (.done .ret W6 (((),(),(),(),a.2,u15),(h0,(q0,()),()))) (.br (a.1==1) (.done (.exit 0) W7 ((u20),(h0,(q0,()),()))) .fail))
noncomputable def B0H (x7 x8:Int) (h0:LBBe) (q0:ByteArray):CT:=(P2 h0 q0) (L3 x7 x8 h0 q0)
noncomputable abbrev Y0 {α:Sort _} (f:Int→Int→LBBe→ByteArray→α) (d:I6.den):α:=f d.1.2.2.2.2.2.2.2.1 d.1.2.2.2.2.2.2.2.2.1 d.2.1 d.2.2.1.1
noncomputable abbrev P7:I6.den→RT I6.den:=(Y0 Y6)
noncomputable def V7:Code:=((D4 0 (A1l Try.f131)).getD 0 (0,.skip)).2
noncomputable abbrev Y4 (h0:LBBe) (q0:ByteArray) (v:K4):I6.den:=(((),(),(),(),(),(),(),v.1,v.2,u11),(h0,(q0,()),()))
theorem B0z (h0:LBBe) (q0:ByteArray):(∀ v:K4,(Y6 v.1 v.2 h0 q0).val=A6D (Y4 h0 q0) (P2 h0 q0) (L5 v.1 v.2 h0 q0))∧∀ a:K2,CEnd I6.den ((P2 h0 q0) a):=⟨fun v=>(A7G (A7G (A7G rfl rfl) rfl) rfl),fun a=>(A7t aCD (A7t aCD A7v))⟩
theorem B0f:RdA G62 aLn 0 V7 I6 2 [] (kepts [4] [(0,[])]) (fun d=>(P7 d).opt 2 []):=by
 intro d
 kernel_rfl
noncomputable abbrev X7:St→Option Tree:=I6.say 2 [] [] (Y0 B0H)
theorem B0t:aPL X7 V7:=SS.wp2 hlz [] P7 B0f (fun d=>rfl) _ (fun d=>Runs.ofI2 (step:=P7) (Y4 d.2.1 d.2.2.1.1) (B0z d.2.1 d.2.2.1.1) rfl (d.1.2.2.2.2.2.2.2.1,d.1.2.2.2.2.2.2.2.2.1))
noncomputable def K1 (h0:LBBe) (q0:ByteArray):Int:=let z1:=L3 (h0.length:Int) (0:Int) h0 q0;(cond (z1.1==0) (z1.2) (-1:Int))
noncomputable abbrev N7 (h0:LBBe) (q0:ByteArray) (r:Int):AV×List AObj×List Nat:=((ti r),[(.rows 70 true J8 h0),(.box [(.t true .str q0)])],[])
noncomputable abbrev A7H:N4.den→AV×List AObj×List Nat:=fun d=>N7 d.2.1 d.2.2.1.1 (K1 d.2.1 d.2.2.1.1)
noncomputable def J5 (h0:LBBe) (q0:ByteArray):Bool:=let z1:=L3 (h0.length:Int) (0:Int) h0 q0;cond (z1.1==0) true (z1.1==1)
noncomputable abbrev Z8:N4.den→Bool:=fun d=>J5 d.2.1 d.2.2.1.1
noncomputable abbrev B1c:Nat→St→Option Tree:=fun b=>match b with | 0=>X7 | _=>fun _=>none
theorem B0J:A7A G62 (B1c) Try.f131 N4 Z8 A7H:=by
 rintro ⟨⟨_,_,_⟩,⟨h0,⟨q0,_⟩,_⟩⟩ hp
 change J5 h0 q0=true at hp
 unfold J5 at hp
 refine Eq.trans (b:=(let z1:=L3 (h0.length:Int) (0:Int) h0 q0;cond (z1.1==0) (some (N7 h0 q0 (z1.2))) (cond (z1.1==1) (some (N7 h0 q0 (-1:Int))) none))) (by kernel_rfl) ?_
 exact (M2 (N7 h0 q0) hp (fun hp=>rfl) (fun hp=>(A7E hp fun _h=>rfl)))
noncomputable abbrev A7K:=winQ (msum N4 Z8 A7H)
theorem B1l:aPM 131 A7K:=(mcM G62 (hl1 (i:=0) (by kernel_rfl) B0t) B0J).winQ (A64 fun d=>⟨rfl,rfl⟩)
noncomputable def S63:Tab:=Tab.add S62 131 (A2b (Q8) (A7K))
noncomputable def D7u:FuncId→Bool:=qadd D7t 131
theorem G63:aPG S63 D7u:=G62.addMQ (MContract.orElse A0q B1l) (A6W (A7b _) (A7b _)) (cbl Try.f131) (QuietS.orElse (A5F _) (A5F _))

abbrev D8d:List Sh:=.junk::D5v
abbrev u36:=((),u35)
abbrev D6w:List AV:=.junk::D5r
abbrev T2:SS:=⟨[.all 0 2,.fn 107 [1]],[.rows 70 true J8,.box [.t true .str]]⟩
abbrev J9:SS:=⟨(.all 0 2::.fn 107 [1]::.junk::.junk::.junk::tI::tI::D8d),[.rows 70 true J8,.box [.t true .str]]⟩
abbrev A8I:SS:=⟨(.all 0 2::.junk::.junk::.junk::.junk::tI::D5w),[.rows 70 true J8,.box [.t true .str]]⟩
noncomputable def M1 (x6:Int) (h0:LBBe) (q0:ByteArray):=let z1:=h0.getD x6.toNat (bE,bE);B43 (z1.1) (z1.2) q0
noncomputable def A9i (x5 x6:Int) (h0:LBBe) (q0:ByteArray):RT J9.den:=let z1:=h0.getD x6.toNat (bE,bE);(.br (decide (x6<(h0.length:Int))) (.br (decide (0≤x6∧x6<(h0.length:Int))) (.br (!(M1 x6 h0 q0)) (.br (decide (0≤x5∧x5<(h0.length:Int))) (.next (((),(),(),(),(),wI (x5+(1:Int)),wI (x6+(1:Int)),u36),(h0.set x5.toNat (z1.1,z1.2),(q0,()),()))) .fail) (.next (((),(),(),(),(),x5,wI (x6+(1:Int)),u36),(h0,(q0,()),())))) .fail) (.done (.exit 0) A8I (((),(),(),(),(),x5,u37),(h0,(q0,()),()))))
abbrev O5:=(Int)×(Int)×(LBBe)
abbrev N0:=Nat×(Int)×(LBBe)
def Z2:N0:=(99,((0:Int):Int),([]:LBBe))
noncomputable def O3 (x5 x6:Int) (h0:LBBe) (q0:ByteArray):O5 ⊕ N0:=let z1:=h0.getD x6.toNat (bE,bE);(cond (decide (x6<(h0.length:Int))) (cond (decide (0≤x6∧x6<(h0.length:Int))) (cond (!(M1 x6 h0 q0)) (cond (decide (0≤x5∧x5<(h0.length:Int))) (.inl (wI (x5+(1:Int)),wI (x6+(1:Int)),h0.set x5.toNat (z1.1,z1.2))) (.inr Z2)) (.inl (x5,wI (x6+(1:Int)),h0))) (.inr Z2)) (.inr (0,x5,h0)))
noncomputable def Z4 (x5 x6:Int) (h0:LBBe) (q0:ByteArray):N0:=itX (fun v:O5=>O3 v.1 v.2.1 v.2.2 q0) Z2 (x5,x6,h0)
noncomputable def Y9 (q0:ByteArray) (a:N0):CT:=(.br (a.1==0) (.done (.exit 0) A8I (((),(),(),(),(),a.2.1,u37),(a.2.2,(q0,()),()))) .fail)
noncomputable def B4G (x5 x6:Int) (h0:LBBe) (q0:ByteArray):CT:=(Y9 q0) (Z4 x5 x6 h0 q0)
noncomputable abbrev Q6 {α:Sort _} (f:Int→Int→LBBe→ByteArray→α) (d:J9.den):α:=f d.1.2.2.2.2.2.1 d.1.2.2.2.2.2.2.1 d.2.1 d.2.2.1.1
noncomputable abbrev Z6:J9.den→RT J9.den:=(Q6 A9i)
noncomputable def A8r:Code:=((D4 0 (A1l Try.f106)).getD 0 (0,.skip)).2
noncomputable abbrev A9c (q0:ByteArray) (v:O5):J9.den:=(((),(),(),(),(),v.1,v.2.1,u36),(v.2.2,(q0,()),()))
theorem B4t (q0:ByteArray):(∀ v:O5,(A9i v.1 v.2.1 v.2.2 q0).val=A6D (A9c q0) (Y9 q0) (O3 v.1 v.2.1 v.2.2 q0))∧∀ a:N0,CEnd J9.den ((Y9 q0) a):=⟨fun v=>(A7G (A7G (A7G (A7G rfl rfl) rfl) rfl) rfl),fun a=>(A7t aCD A7v)⟩
noncomputable def A9b (x5 x6:Int) (h0:LBBe) (q0:ByteArray):Option (Ex×St):=let z1:=ti (wI (x6+(1:Int)));let z2:=h0.getD x6.toNat (bE,bE);(cond (decide (x6<(h0.length:Int))) (cond (decide (0≤x6∧x6<(h0.length:Int))) (cond (!(M1 x6 h0 q0)) (cond (decide (0≤x5∧x5<(h0.length:Int))) (some (.normal,(⟨((.all 0 2)::(.fn 107 [(.ptr 1 0 1 0)])::.junk::.junk::.junk::(ti (wI (x5+(1:Int))))::z1::D6w),[(.rows 70 true J8 (h0.set x5.toNat (z2.1,z2.2))),(.box [(.t true .str q0)])],2,[]⟩:St))) none) (some (.normal,(⟨((.all 0 2)::(.fn 107 [(.ptr 1 0 1 0)])::.junk::.junk::.junk::(ti x5)::z1::D6w),[(.rows 70 true J8 h0),(.box [(.t true .str q0)])],2,[]⟩:St)))) none) (some ((.exit 0),(⟨((.all 0 2)::.junk::.junk::.junk::.junk::(ti x5)::D4s),[(.rows 70 true J8 h0),(.box [(.t true .str q0)])],2,[]⟩:St))))
theorem B30:RdA G63 aLn 0 A8r J9 2 [] (kepts [] [(0,[0,5])]) (Q6 A9b):=by
 intro d
 kernel_rfl
theorem B31:∀ d:J9.den,(Q6 A9b) d=(Z6 d).opt 2 []:=by
 intro d
 kernel_rfl
noncomputable abbrev A8L:St→Option Tree:=J9.say 2 [] [] (Q6 B4G)
theorem B4n:aPL A8L A8r:=SS.wp2 hlz [] Z6 B30 B31 _ (fun d=>Runs.ofI2 (step:=Z6) (A9c d.2.2.1.1) (B4t d.2.2.1.1) rfl (d.1.2.2.2.2.2.1,d.1.2.2.2.2.2.2.1,d.2.1))
noncomputable def T7 (h0:LBBe) (q0:ByteArray):=let z1:=K1 h0 q0;Z4 z1 (wI (z1+(1:Int))) h0 q0
noncomputable def R6 (h0:LBBe) (q0:ByteArray):LBBe×ByteArray:=let z1:=T7 h0 q0;let z2:=(((z1.2.2).length:Nat):Int).toNat - (z1.2.1).toNat;(cond ((K1 h0 q0)==(-1:Int)) (h0,q0) ((((z1.2.2).take ((z1.2.1).toNat)++List.replicate z2 (bE,bE))++(z1.2.2).drop (((z1.2.1).toNat)+z2)).take ((z1.2.1).toNat),q0))
noncomputable abbrev U8 (r:LBBe×ByteArray):AV×List AObj×List Nat:=((.all 0 2),[(.rows 70 true J8 r.1),(.box [(.t true .str r.2)])],[0])
noncomputable abbrev B0F:T2.den→AV×List AObj×List Nat:=fun d=>U8 (R6 d.2.1 d.2.2.1.1)
noncomputable def M5 (h0:LBBe) (q0:ByteArray):Bool:=let z1:=T7 h0 q0;let z2:=(((z1.2.2).length:Nat):Int).toNat - (z1.2.1).toNat;(J5 h0 q0)&&(cond ((K1 h0 q0)==(-1:Int)) true ((z1.1==0)&&((decide (0≤(z1.2.1)∧(z1.2.1)≤(((z1.2.2).length:Nat):Int)∧(((z1.2.2).length:Nat):Int)≤(((z1.2.2).length:Nat):Int)))&&(decide (0≤(0:Int)∧(0:Int)≤(z1.2.1)∧(z1.2.1)≤(((((z1.2.2).take ((z1.2.1).toNat)++List.replicate z2 (bE,bE))++(z1.2.2).drop (((z1.2.1).toNat)+z2)).length:Nat):Int))))))
noncomputable abbrev A9y:T2.den→Bool:=fun d=>M5 d.2.1 d.2.2.1.1
noncomputable abbrev B6b:Nat→St→Option Tree:=fun b=>match b with | 0=>A8L | _=>fun _=>none
theorem B4U:A7z false [] [0] [] G63 (B6b) Try.f106 T2 A9y B0F:=by
 rintro ⟨⟨_,_,_⟩,⟨h0,⟨q0,_⟩,_⟩⟩ hp
 change M5 h0 q0=true at hp
 unfold M5 at hp
 refine Eq.trans (b:=(let z1:=T7 h0 q0;let z2:=(((z1.2.2).length:Nat):Int).toNat - (z1.2.1).toNat;cond (J5 h0 q0) (cond ((K1 h0 q0)==(-1:Int)) (some (U8 (h0,q0))) (cond (z1.1==0) (cond (decide (0≤(z1.2.1)∧(z1.2.1)≤(((z1.2.2).length:Nat):Int)∧(((z1.2.2).length:Nat):Int)≤(((z1.2.2).length:Nat):Int))) (cond (decide (0≤(0:Int)∧(0:Int)≤(z1.2.1)∧(z1.2.1)≤(((((z1.2.2).take ((z1.2.1).toNat)++List.replicate z2 ((⟨#[]⟩:ByteArray),(⟨#[]⟩:ByteArray)))++(z1.2.2).drop (((z1.2.1).toNat)+z2)).length:Nat):Int))) (some (U8 ((((z1.2.2).take ((z1.2.1).toNat)++List.replicate z2 ((⟨#[]⟩:ByteArray),(⟨#[]⟩:ByteArray)))++(z1.2.2).drop (((z1.2.1).toNat)+z2)).take ((z1.2.1).toNat),q0))) none) none) none)) none)) (by kernel_rfl) ?_
 exact (A7C hp fun hp=>(M2 U8 hp (fun hp=>rfl) (fun hp=>(A7C hp fun hp=>(A7C hp fun hp=>(A7E hp fun _h=>rfl))))))
noncomputable abbrev B0G:=win E8 (msum T2 A9y B0F)
theorem B6c:aPM 106 B0G:=(mcE false [] [0] []  G63 (hl1 (i:=0) (by kernel_rfl) B4n) B4U).win E8
noncomputable def S64:Tab:=Tab.add S63 106 (B0G)
noncomputable def D7v:FuncId→Bool:=D7u
theorem G64:aPG S64 D7v:=G63.addM B6c (A7d _) (cbl Try.f106) (by kernel_rfl)

abbrev B7d:List PSh:=[.t tq6,.t .str]
noncomputable def C7h (a0:LBBe) (a1:ByteArray):LBBe:=((R6 (L2 a0) a1).1)
noncomputable abbrev C9y (r:LBBe):AV×List AObj:=((.all 0 2),[(.rows 70 true J8 r)])
noncomputable abbrev C5d:H7 B7d→AV×List AObj:=fun d=>C9y (C7h d.1 d.2.1)
noncomputable def B1J (a0:LBBe) (a1:ByteArray):Bool:=(J7 a0)&&(M5 (L2 a0) a1)
noncomputable abbrev C0J:H7 B7d→Bool:=fun d=>B1J d.1 d.2.1
theorem D2q:A7B false G64 aLn Try.f66 B7d C0J C5d:=by
 rintro ⟨a0,⟨a1,_⟩⟩ hp
 change B1J a0 a1=true at hp
 unfold B1J at hp
 refine Eq.trans (b:=(let z1:=L2 a0;cond (J7 a0) (cond (M5 z1 a1) (some (C9y ((R6 z1 a1).1))) none) none)) (by kernel_rfl) ?_
 exact (A7C hp fun hp=>(A7E hp fun _h=>rfl))
theorem D4a:aPP 66 (A21 B7d C0J C5d):=pcD false G64 hlz D2q
noncomputable def S65:Tab:=Tab.add S64 66 (lift (A21 B7d C0J C5d))
noncomputable def D7w:FuncId→Bool:=D7v
theorem G65:aPG S65 D7w:=G64.add D4a (cbl Try.f66) (by kernel_rfl)

abbrev D6r:List AV:=.junk::.junk::.junk::.junk::D5q
abbrev B9T:List PSh:=[.t tq6,.t tq4]
abbrev A8O:SS:=⟨(.junk::.junk::.junk::.junk::.junk::.all 0 2::.junk::.junk::.junk::.junk::.t false tq4::tI::tI::C6N),[.rows 70 true J8]⟩
abbrev C3t:SS:=⟨(.junk::.junk::.junk::.junk::.junk::.all 0 2::D6c),[.rows 70 true J8]⟩
noncomputable def C1M (x10:Lq2) (x12:Int) (h0:LBBe):=let z1:=(x10.getD x12.toNat ((0:Int),(bE,bE))).2;C7j (z1.1) (z1.2) h0
noncomputable def C1Q (x10:Lq2) (x12:Int) (h0:LBBe):=C7h h0 (((x10.getD x12.toNat ((0:Int),(bE,bE))).2).1)
noncomputable def C6C (x10:Lq2) (x11 x12:Int) (h0:LBBe):RT A8O.den:=let z1:=x10.getD x12.toNat ((0:Int),(bE,bE));(.br (decide (x12<x11)) (.br (decide (0≤x12∧x12<(x10.length:Int))) (.br ((z1.1)==(1:Int)) (.br (B1L ((z1.2).1) ((z1.2).2) h0) (.next (((),(),(),(),(),(),(),(),(),(),x10,x11,wI (x12+(1:Int)),u22),((C1M x10 x12 h0),()))) .fail) (.br ((z1.1)==(2:Int)) (.br (B1J h0 ((z1.2).1)) (.next (((),(),(),(),(),(),(),(),(),(),x10,x11,wI (x12+(1:Int)),u22),((C1Q x10 x12 h0),()))) .fail) (.next (((),(),(),(),(),(),(),(),(),(),x10,x11,wI (x12+(1:Int)),u22),(h0,()))))) .fail) (.done (.exit 0) C3t ((u35),(h0,()))))
abbrev B20:=(Lq2)×(Int)×(Int)×(LBBe)
abbrev B2T:=Nat×(LBBe)
def B3Q:B2T:=(99,([]:LBBe))
noncomputable def B39 (x10:Lq2) (x11 x12:Int) (h0:LBBe):B20 ⊕ B2T:=let z1:=x10.getD x12.toNat ((0:Int),(bE,bE));(cond (decide (x12<x11)) (cond (decide (0≤x12∧x12<(x10.length:Int))) (cond ((z1.1)==(1:Int)) (cond (B1L ((z1.2).1) ((z1.2).2) h0) (.inl (x10,x11,wI (x12+(1:Int)),(C1M x10 x12 h0))) (.inr B3Q)) (cond ((z1.1)==(2:Int)) (cond (B1J h0 ((z1.2).1)) (.inl (x10,x11,wI (x12+(1:Int)),(C1Q x10 x12 h0))) (.inr B3Q)) (.inl (x10,x11,wI (x12+(1:Int)),h0)))) (.inr B3Q)) (.inr (0,h0)))
noncomputable def B3T (x10:Lq2) (x11 x12:Int) (h0:LBBe):B2T:=itX (fun v:B20=>B39 v.1 v.2.1 v.2.2.1 v.2.2.2) B3Q (x10,x11,x12,h0)
noncomputable def C0n (a:B2T):CT:=(.br (a.1==0) (.done (.exit 0) C3t ((u35),(a.2,()))) .fail)
noncomputable def D2X (x10:Lq2) (x11 x12:Int) (h0:LBBe):CT:=C0n (B3T x10 x11 x12 h0)
noncomputable abbrev B6l {α:Sort _} (f:Lq2→Int→Int→LBBe→α) (d:A8O.den):α:=f d.1.2.2.2.2.2.2.2.2.2.2.1 d.1.2.2.2.2.2.2.2.2.2.2.2.1 d.1.2.2.2.2.2.2.2.2.2.2.2.2.1 d.2.1
noncomputable abbrev C1j:A8O.den→RT A8O.den:=(B6l C6C)
noncomputable def C2c:Code:=((D4 0 (A1l Try.f29)).getD 0 (0,.skip)).2
noncomputable abbrev C6s (v:B20):A8O.den:=(((),(),(),(),(),(),(),(),(),(),v.1,v.2.1,v.2.2.1,u22),(v.2.2.2,()))
theorem D2k:(∀ v:B20,(C6C v.1 v.2.1 v.2.2.1 v.2.2.2).val=A6D C6s C0n (B39 v.1 v.2.1 v.2.2.1 v.2.2.2))∧∀ a:B2T,CEnd A8O.den (C0n a):=⟨fun v=>by repeat' first | apply A7G | rfl,fun a=>(A7t aCD A7v)⟩
noncomputable def C6f (x10:Lq2) (x11 x12:Int) (h0:LBBe):Option (Ex×St):=let z1:=x10.getD x12.toNat ((0:Int),(bE,bE));let z2:=ti (wI (x12+(1:Int)));(cond (decide (x12<x11)) (cond (decide (0≤x12∧x12<(x10.length:Int))) (cond ((z1.1)==(1:Int)) (cond (B1L ((z1.2).1) ((z1.2).2) h0) (some (.normal,(⟨(.junk::.junk::.junk::.junk::.junk::(.all 0 2)::.junk::.junk::.junk::.junk::(.t false tq4 x10)::(ti x11)::z2::D6r),[(.rows 70 true J8 (C1M x10 x12 h0))],0,[]⟩:St))) none) (cond ((z1.1)==(2:Int)) (cond (B1J h0 ((z1.2).1)) (some (.normal,(⟨(.junk::.junk::.junk::.junk::.junk::(.all 0 2)::.junk::.junk::.junk::.junk::(.t false tq4 x10)::(ti x11)::z2::D6r),[(.rows 70 true J8 (C1Q x10 x12 h0))],0,[]⟩:St))) none) (some (.normal,(⟨(.junk::.junk::.junk::.junk::.junk::(.all 0 2)::.junk::.junk::.junk::.junk::(.t false tq4 x10)::(ti x11)::z2::D6r),[(.rows 70 true J8 h0)],0,[]⟩:St))))) none) (some ((.exit 0),(⟨(.junk::.junk::.junk::.junk::.junk::(.all 0 2)::D55),[(.rows 70 true J8 h0)],0,[]⟩:St))))
theorem D0A:RdA G65 aLn 0 C2c A8O 0 [] (kepts [] [(0,[5])]) (B6l C6f):=by
 intro d
 kernel_rfl
theorem D0M:∀ d:A8O.den,(B6l C6f) d=(C1j d).opt 0 []:=by
 intro d
 kernel_rfl
noncomputable abbrev C4L:St→Option Tree:=A8O.say 0 [] [] (B6l D2X)
theorem D14:aPL C4L C2c:=SS.wp2 hlz [] C1j D0A D0M _ (fun d=>Runs.ofI2 (step:=C1j) C6s D2k rfl (d.1.2.2.2.2.2.2.2.2.2.2.1,d.1.2.2.2.2.2.2.2.2.2.2.2.1,d.1.2.2.2.2.2.2.2.2.2.2.2.2.1,d.2.1))
noncomputable def B8B (a0:LBBe) (a1:Lq2):LBBe:=((B3T a1 (a1.length:Int) (0:Int) (L2 a0)).2)
noncomputable abbrev D1M (r:LBBe):AV×List AObj:=((.all 0 2),[(.rows 70 true J8 r)])
noncomputable abbrev C7G:H7 B9T→AV×List AObj:=fun d=>D1M (B8B d.1 d.2.1)
noncomputable def B2z (a0:LBBe) (a1:Lq2):Bool:=(J7 a0)&&((B3T a1 (a1.length:Int) (0:Int) (L2 a0)).1==0)
noncomputable abbrev C25:H7 B9T→Bool:=fun d=>B2z d.1 d.2.1
noncomputable abbrev D4O:Nat→St→Option Tree:=fun b=>match b with | 0=>C4L | _=>fun _=>none
theorem D3x:A7B false G65 (D4O) Try.f29 B9T C25 C7G:=by
 rintro ⟨a0,⟨a1,_⟩⟩ hp
 change B2z a0 a1=true at hp
 unfold B2z at hp
 refine Eq.trans (b:=(let z1:=B3T a1 (a1.length:Int) (0:Int) (L2 a0);cond (J7 a0) (cond (z1.1==0) (some (D1M (z1.2))) none) none)) (by kernel_rfl) ?_
 exact (A7C hp fun hp=>(A7E hp fun _h=>rfl))
theorem D42:aPP 29 (A21 B9T C25 C7G):=pcD false G65 (hl1 (i:=0) (by kernel_rfl) D14) D3x
noncomputable def S66:Tab:=Tab.add S65 29 (lift (A21 B9T C25 C7G))
noncomputable def D7x:FuncId→Bool:=D7w
theorem G66:aPG S66 D7x:=G65.add D42 (cbl Try.f29) (by kernel_rfl)

abbrev B15:SS:=⟨[.ptr 0 0 1 0,.agg [.t true (.int .i64),.t true (.int .i64),.t false tq4],.t false tq3],[.box [.nil,.nil]]⟩
noncomputable def D1X (x1_0 x1_1:Int) (x1_2:Lq2) (x2:Lq1):Bool×Lq1:=let z1:=decide ((A7J x2 x1_1) ≥ (0:Int));(cond (x1_0==(1:Int)) (cond z1 (false,([]:Lq1)) (cond (Z3 [] x1_2) (false,([]:Lq1)) (cond (!(B4k [] x1_2)) (false,([]:Lq1)) (true,[((1:Int),(x1_1,(L1 x1_2)))])))) (cond (x1_0==(3:Int)) (!z1,([]:Lq1)) (false,([]:Lq1))))
noncomputable abbrev W2 (r:Bool×Lq1):AV×List AObj×List Nat:=((.t true .bool r.1),[(.box [(.raw (.slice none 0 0)),(.all 1 3)]),(.rows 32 true tq5 r.2)],[])
noncomputable abbrev C2q:B15.den→AV×List AObj×List Nat:=fun d=>W2 (D1X d.1.2.1.1 d.1.2.1.2.1 d.1.2.1.2.2.1 d.1.2.2.1)
noncomputable def B6Y (x1_0 x1_1:Int) (x1_2:Lq2) (x2:Lq1):Bool:=(X6 x2 x1_1)&&(cond (x1_0==(1:Int)) (cond (decide ((A7J x2 x1_1) ≥ (0:Int))) true ((U0 [] x1_2)&&(cond (Z3 [] x1_2) true ((B0a [] x1_2)&&(cond (!(B4k [] x1_2)) true ((K0 x1_2)&&(decide ([((1:Int),(x1_1,(L1 x1_2)))].length*40≤MAXB)))))))) ((X6 [] x1_1)&&(decide ((A7J [] x1_1)<(0:Int)))))
noncomputable abbrev B9v:B15.den→Bool:=fun d=>B6Y d.1.2.1.1 d.1.2.1.2.1 d.1.2.1.2.2.1 d.1.2.2.1
theorem C7b:A7z false [] [] [(0,1,99999,32,tq5)] G66 aLn Try.f83 B15 B9v C2q:=by
 rintro ⟨⟨_,⟨x1_0,x1_1,x1_2,_⟩,x2,_⟩,⟨⟨_,_,_⟩,_⟩⟩ hp
 change B6Y x1_0 x1_1 x1_2 x2=true at hp
 unfold B6Y at hp
 refine Eq.trans (b:=(let z1:=W2 (false,([]:Lq1));let z2:=decide ((A7J x2 x1_1) ≥ (0:Int));let z3:=L1 x1_2;cond (X6 x2 x1_1) (cond (x1_0==(1:Int)) (cond z2 (some z1) (cond (U0 [] x1_2) (cond (Z3 [] x1_2) (some z1) (cond (B0a [] x1_2) (cond (!(B4k [] x1_2)) (some z1) (cond (K0 x1_2) (cond (decide ([((1:Int),(x1_1,z3))].length*40≤MAXB)) (some (W2 (true,[((1:Int),(x1_1,z3))]))) none) none)) none)) none)) (cond (X6 [] x1_1) (cond (decide ((A7J [] x1_1)<(0:Int))) (cond (x1_0==(3:Int)) (some (W2 (!z2,([]:Lq1)))) (some z1)) (cond (x1_0==(2:Int)) none none)) none)) none)) (by kernel_rfl) ?_
 exact (A7C hp fun hp=>(M2 W2 hp (fun hp=>(M2 W2 hp (fun hp=>rfl) (fun hp=>(A7C hp fun hp=>(M2 W2 hp (fun hp=>rfl) (fun hp=>(A7C hp fun hp=>(M2 W2 hp (fun hp=>rfl) (fun hp=>(A7C hp fun hp=>(A7E hp fun _h=>rfl))))))))))) (fun hp=>(A7C hp fun hp=>(A7E hp fun _h=>(P9 W2 (fun _h=>rfl) (fun _h=>rfl)))))))
noncomputable abbrev B3A:=win E8 (msum B15 B9v C2q)
theorem B6L:aPM 83 B3A:=(mcE false [] [] [(0,1,99999,32,tq5)]  G66 hlz C7b).win E8
noncomputable def S67:Tab:=Tab.add S66 83 (B3A)
noncomputable def D7y:FuncId→Bool:=D7x
theorem G67:aPG S67 D7y:=G66.addM B6L (A7d _) (cbl Try.f83) (by kernel_rfl)

abbrev A7N:SS:=⟨[.all 0 3,tI,tI],[.rows 32 true tq5]⟩
noncomputable def R0 (x1 x2:Int) (h0:Lq1):Lq1:=let z1:=(h0.drop x2.toNat).take ((h0.length:Int).toNat - x2.toNat);let z2:=(h0.length:Int).toNat - ((x1.toNat+z1.length:Nat):Int).toNat;let z3:=(h0.take x1.toNat++z1)++h0.drop (x1.toNat+z1.length);(cond (x1==x2) h0 (((z3.take (((x1.toNat+z1.length:Nat):Int).toNat)++List.replicate z2 ((0:Int),((0:Int),[])))++z3.drop ((((x1.toNat+z1.length:Nat):Int).toNat)+z2)).take (x1.toNat+z1.length)))
noncomputable abbrev A71 (r:Lq1):AV×List AObj×List Nat:=((.all 0 3),[(.rows 32 true tq5 r)],[0])
noncomputable abbrev B3S:A7N.den→AV×List AObj×List Nat:=fun d=>A71 (R0 d.1.2.1 d.1.2.2.1 d.2.1)
noncomputable def M7 (x1 x2:Int) (h0:Lq1):Bool:=let z1:=(h0.drop x2.toNat).take ((h0.length:Int).toNat - x2.toNat);(decide (0≤x1∧x1≤x2∧x2≤(h0.length:Int)∧(h0.length:Int)≤(h0.length:Int)))&&(cond (x1==x2) true ((decide (0≤(0:Int)∧(0:Int)≤x1∧x1≤(h0.length:Int)))&&((decide (0≤x2∧x2≤(h0.length:Int)∧(h0.length:Int)≤(h0.length:Int)))&&((decide (x1.toNat+z1.length≤h0.length))&&(decide (0≤((x1.toNat+z1.length:Nat):Int)∧((x1.toNat+z1.length:Nat):Int)≤(h0.length:Int)∧(h0.length:Int)≤((((h0.take x1.toNat++z1)++h0.drop (x1.toNat+z1.length)).length:Nat):Int)))))))
noncomputable abbrev B2y:A7N.den→Bool:=fun d=>M7 d.1.2.1 d.1.2.2.1 d.2.1
theorem B8X:A7z false [] [0] [] G67 aLn Try.f103 A7N B2y B3S:=by
 rintro ⟨⟨_,x1,x2,_⟩,⟨h0,_⟩⟩ hp
 change M7 x1 x2 h0=true at hp
 unfold M7 at hp
 refine Eq.trans (b:=(let z1:=(h0.drop x2.toNat).take ((h0.length:Int).toNat - x2.toNat);let z2:=(h0.take x1.toNat++z1)++h0.drop (x1.toNat+z1.length);let z3:=(h0.length:Int).toNat - ((x1.toNat+z1.length:Nat):Int).toNat;cond (decide (0≤x1∧x1≤x2∧x2≤(h0.length:Int)∧(h0.length:Int)≤(h0.length:Int))) (cond (x1==x2) (some (A71 h0)) (cond (decide (0≤(0:Int)∧(0:Int)≤x1∧x1≤(h0.length:Int))) (cond (decide (0≤x2∧x2≤(h0.length:Int)∧(h0.length:Int)≤(h0.length:Int))) (cond (decide (x1.toNat+z1.length≤h0.length)) (cond (decide (0≤((x1.toNat+z1.length:Nat):Int)∧((x1.toNat+z1.length:Nat):Int)≤(h0.length:Int)∧(h0.length:Int)≤((z2.length:Nat):Int))) (some (A71 (((z2.take (((x1.toNat+z1.length:Nat):Int).toNat)++List.replicate z3 ((0:Int),((0:Int),[])))++z2.drop ((((x1.toNat+z1.length:Nat):Int).toNat)+z3)).take (x1.toNat+z1.length)))) none) none) none) none)) none)) (by kernel_rfl) ?_
 exact (A7C hp fun hp=>(M2 A71 hp (fun hp=>rfl) (fun hp=>(A7C hp fun hp=>(A7C hp fun hp=>(A7C hp fun hp=>(A7E hp fun _h=>rfl)))))))
noncomputable abbrev B3X:=win E8 (msum A7N B2y B3S)
theorem C0l:aPM 103 B3X:=(mcE false [] [0] []  G67 hlz B8X).win E8
noncomputable def S68:Tab:=Tab.add S67 103 (B3X)
noncomputable def D7z:FuncId→Bool:=D7y
theorem G68:aPG S68 D7z:=G67.addM C0l (A7d _) (cbl Try.f103) (by kernel_rfl)

abbrev A9v:SS:=⟨[.ptr 0 0 1 0,.agg [.t true (.int .i64),.t true (.int .i64),.t false tq4],.t false tq3],[.box [.nil,.all 1 3],.rows 32 true tq5]⟩
noncomputable def C71 (x1_0 x1_1:Int) (x1_2:Lq2) (x2 h1:Lq1):Bool×Lq1×LBBe:=let z3:=A7J h1 x1_1;let z1:=R0 z3 (wI (z3+(1:Int))) h1;let z2:=B8B [] (((h1.getD (z3.toNat) ((0:Int),((0:Int),[]))).2).2);let z4:=decide ((A7J x2 x1_1) ≥ (0:Int));(cond (x1_0==(1:Int)) (cond z4 (false,h1,([]:LBBe)) (cond (Z3 h1 x1_2) (false,h1,([]:LBBe)) (cond (!(B4k [] x1_2)) (false,h1,([]:LBBe)) (true,h1++[((1:Int),(x1_1,(L1 x1_2)))],([]:LBBe))))) (cond (decide (z3<(0:Int))) (cond (x1_0==(3:Int)) (!z4,h1,([]:LBBe)) (false,h1,([]:LBBe))) (cond (x1_0==(2:Int)) (decide (((z2.length:Nat):Int)≤(60:Int)),z1,z2) (decide (((0:Nat):Int)≤(60:Int)),z1,([]:LBBe)))))
noncomputable abbrev L8 (r:Bool×Lq1×LBBe):AV×List AObj×List Nat:=((.t true .bool r.1),[(.box [(.all 2 2),(.all 1 3)]),(.rows 32 true tq5 r.2.1),(.rows 70 true J8 r.2.2)],[1])
noncomputable abbrev B7A:A9v.den→AV×List AObj×List Nat:=fun d=>L8 (C71 d.1.2.1.1 d.1.2.1.2.1 d.1.2.1.2.2.1 d.1.2.2.1 d.2.2.1)
noncomputable def B3g (x1_0 x1_1:Int) (x1_2:Lq2) (x2 h1:Lq1):Bool:=let z1:=A7J h1 x1_1;let z2:=M7 z1 (wI (z1+(1:Int))) h1;(X6 x2 x1_1)&&(cond (x1_0==(1:Int)) (cond (decide ((A7J x2 x1_1) ≥ (0:Int))) true ((U0 h1 x1_2)&&(cond (Z3 h1 x1_2) true ((B0a [] x1_2)&&(cond (!(B4k [] x1_2)) true ((K0 x1_2)&&(decide ((h1.length+[((1:Int),(x1_1,(L1 x1_2)))].length)*40≤MAXB)))))))) ((X6 h1 x1_1)&&(cond (decide (z1<(0:Int))) true (cond (x1_0==(2:Int)) ((decide (0≤z1∧z1<(h1.length:Int)))&&((B2z [] (((h1.getD (z1.toNat) ((0:Int),((0:Int),[]))).2).2))&&z2)) z2))))
noncomputable abbrev B5U:A9v.den→Bool:=fun d=>B3g d.1.2.1.1 d.1.2.1.2.1 d.1.2.1.2.2.1 d.1.2.2.1 d.2.2.1
theorem C3o:A7z false [] [1] [(0,0,99999,70,J8)] G68 aLn Try.f83 A9v B5U B7A:=by
 rintro ⟨⟨_,⟨x1_0,x1_1,x1_2,_⟩,x2,_⟩,⟨⟨_,_,_⟩,h1,_⟩⟩ hp
 change B3g x1_0 x1_1 x1_2 x2 h1=true at hp
 unfold B3g at hp
 refine Eq.trans (b:=(let z1:=A7J h1 x1_1;let z2:=L8 (false,h1,([]:LBBe));let z3:=((h1.getD (z1.toNat) ((0:Int),((0:Int),[]))).2).2;let z4:=wI (z1+(1:Int));let z5:=decide ((A7J x2 x1_1) ≥ (0:Int));let z6:=M7 z1 z4 h1;let z7:=R0 z1 z4 h1;let z8:=L1 x1_2;cond (X6 x2 x1_1) (cond (x1_0==(1:Int)) (cond z5 (some z2) (cond (U0 h1 x1_2) (cond (Z3 h1 x1_2) (some z2) (cond (B0a [] x1_2) (cond (!(B4k [] x1_2)) (some z2) (cond (K0 x1_2) (cond (decide ((h1.length+[((1:Int),(x1_1,z8))].length)*40≤MAXB)) (some (L8 (true,h1++[((1:Int),(x1_1,z8))],([]:LBBe)))) none) none)) none)) none)) (cond (X6 h1 x1_1) (cond (decide (z1<(0:Int))) (cond (x1_0==(3:Int)) (some (L8 (!z5,h1,([]:LBBe)))) (some z2)) (cond (x1_0==(2:Int)) (cond (decide (0≤z1∧z1<(h1.length:Int))) (cond (B2z [] z3) (cond z6 (some (L8 (decide ((((B8B [] z3).length:Nat):Int)≤(60:Int)),z7,(B8B [] z3)))) none) none) none) (cond z6 (some (L8 (decide (((0:Nat):Int)≤(60:Int)),z7,([]:LBBe)))) none))) none)) none)) (by kernel_rfl) ?_
 exact (A7C hp fun hp=>(M2 L8 hp (fun hp=>(M2 L8 hp (fun hp=>rfl) (fun hp=>(A7C hp fun hp=>(M2 L8 hp (fun hp=>rfl) (fun hp=>(A7C hp fun hp=>(M2 L8 hp (fun hp=>rfl) (fun hp=>(A7C hp fun hp=>(A7E hp fun _h=>rfl))))))))))) (fun hp=>(A7C hp fun hp=>(M2 L8 hp (fun hp=>(P9 L8 (fun _h=>rfl) (fun _h=>rfl))) (fun hp=>(M2 L8 hp (fun hp=>(A7C hp fun hp=>(A7C hp fun hp=>(A7E hp fun _h=>rfl)))) (fun hp=>(A7E hp fun _h=>rfl)))))))))
noncomputable abbrev B3e:=win E8 (msum A9v B5U B7A)
theorem B7w:aPM 83 B3e:=(mcE false [] [1] [(0,0,99999,70,J8)]  G68 hlz C3o).win E8
noncomputable def S69:Tab:=Tab.add S68 83 (A2b (B3A) (B3e))
noncomputable def D7A:FuncId→Bool:=D7z
theorem G69:aPG S69 D7A:=G68.addM (MContract.orElse B6L B7w) (A6W (A7d _) (A7d _)) (cbl Try.f83) (by kernel_rfl)

abbrev A9w:SS:=⟨[.ptr 0 0 1 0,.agg [.t true (.int .i64),.t true (.int .i64),.t false tq4],.t false tq3],[.box [.all 1 2,.all 2 3],.rows 70 true J8,.rows 32 true tq5]⟩
noncomputable def A9Z (x1_0 x1_1:Int) (x1_2:Lq2) (x2:Lq1) (h1:LBBe) (h2:Lq1):Bool×LBBe×Lq1:=let z3:=A7J h2 x1_1;let z1:=R0 z3 (wI (z3+(1:Int))) h2;let z2:=B8B h1 (((h2.getD (z3.toNat) ((0:Int),((0:Int),[]))).2).2);let z4:=decide ((A7J x2 x1_1) ≥ (0:Int));(cond (x1_0==(1:Int)) (cond z4 (false,h1,h2) (cond (Z3 h2 x1_2) (false,h1,h2) (cond (!(B4k h1 x1_2)) (false,h1,h2) (true,h1,h2++[((1:Int),(x1_1,(L1 x1_2)))])))) (cond (decide (z3<(0:Int))) (cond (x1_0==(3:Int)) (!z4,h1,h2) (false,h1,h2)) (cond (x1_0==(2:Int)) (decide (((z2.length:Nat):Int)≤(60:Int)),z2,z1) (decide ((h1.length:Int)≤(60:Int)),h1,z1))))
noncomputable abbrev L9 (r:Bool×LBBe×Lq1):AV×List AObj×List Nat:=((.t true .bool r.1),[(.box [(.all 1 2),(.all 2 3)]),(.rows 70 true J8 r.2.1),(.rows 32 true tq5 r.2.2)],[1,2])
noncomputable abbrev B7B:A9w.den→AV×List AObj×List Nat:=fun d=>L9 (A9Z d.1.2.1.1 d.1.2.1.2.1 d.1.2.1.2.2.1 d.1.2.2.1 d.2.2.1 d.2.2.2.1)
noncomputable def R5 (x1_0 x1_1:Int) (x1_2:Lq2) (x2:Lq1) (h1:LBBe) (h2:Lq1):Bool:=let z1:=A7J h2 x1_1;let z2:=M7 z1 (wI (z1+(1:Int))) h2;(X6 x2 x1_1)&&(cond (x1_0==(1:Int)) (cond (decide ((A7J x2 x1_1) ≥ (0:Int))) true ((U0 h2 x1_2)&&(cond (Z3 h2 x1_2) true ((B0a h1 x1_2)&&(cond (!(B4k h1 x1_2)) true ((K0 x1_2)&&(decide ((h2.length+[((1:Int),(x1_1,(L1 x1_2)))].length)*40≤MAXB)))))))) ((X6 h2 x1_1)&&(cond (decide (z1<(0:Int))) true (cond (x1_0==(2:Int)) ((decide (0≤z1∧z1<(h2.length:Int)))&&((B2z h1 (((h2.getD (z1.toNat) ((0:Int),((0:Int),[]))).2).2))&&z2)) z2))))
noncomputable abbrev B5V:A9w.den→Bool:=fun d=>R5 d.1.2.1.1 d.1.2.1.2.1 d.1.2.1.2.2.1 d.1.2.2.1 d.2.2.1 d.2.2.2.1
theorem C3p:A7z false [] [1,2] [(0,0,1,70,J8)] G69 aLn Try.f83 A9w B5V B7B:=by
 rintro ⟨⟨_,⟨x1_0,x1_1,x1_2,_⟩,x2,_⟩,⟨⟨_,_,_⟩,h1,h2,_⟩⟩ hp
 change R5 x1_0 x1_1 x1_2 x2 h1 h2=true at hp
 unfold R5 at hp
 refine Eq.trans (b:=(let z1:=A7J h2 x1_1;let z2:=((h2.getD (z1.toNat) ((0:Int),((0:Int),[]))).2).2;let z3:=L9 (false,h1,h2);let z4:=wI (z1+(1:Int));let z5:=decide ((A7J x2 x1_1) ≥ (0:Int));let z6:=M7 z1 z4 h2;let z7:=R0 z1 z4 h2;let z8:=L1 x1_2;cond (X6 x2 x1_1) (cond (x1_0==(1:Int)) (cond z5 (some z3) (cond (U0 h2 x1_2) (cond (Z3 h2 x1_2) (some z3) (cond (B0a h1 x1_2) (cond (!(B4k h1 x1_2)) (some z3) (cond (K0 x1_2) (cond (decide ((h2.length+[((1:Int),(x1_1,z8))].length)*40≤MAXB)) (some (L9 (true,h1,h2++[((1:Int),(x1_1,z8))]))) none) none)) none)) none)) (cond (X6 h2 x1_1) (cond (decide (z1<(0:Int))) (cond (x1_0==(3:Int)) (some (L9 (!z5,h1,h2))) (some z3)) (cond (x1_0==(2:Int)) (cond (decide (0≤z1∧z1<(h2.length:Int))) (cond (B2z h1 z2) (cond z6 (some (L9 (decide ((((B8B h1 z2).length:Nat):Int)≤(60:Int)),(B8B h1 z2),z7))) none) none) none) (cond z6 (some (L9 (decide ((h1.length:Int)≤(60:Int)),h1,z7))) none))) none)) none)) (by kernel_rfl) ?_
 exact (A7C hp fun hp=>(M2 L9 hp (fun hp=>(M2 L9 hp (fun hp=>rfl) (fun hp=>(A7C hp fun hp=>(M2 L9 hp (fun hp=>rfl) (fun hp=>(A7C hp fun hp=>(M2 L9 hp (fun hp=>rfl) (fun hp=>(A7C hp fun hp=>(A7E hp fun _h=>rfl))))))))))) (fun hp=>(A7C hp fun hp=>(M2 L9 hp (fun hp=>(P9 L9 (fun _h=>rfl) (fun _h=>rfl))) (fun hp=>(M2 L9 hp (fun hp=>(A7C hp fun hp=>(A7C hp fun hp=>(A7E hp fun _h=>rfl)))) (fun hp=>(A7E hp fun _h=>rfl)))))))))
noncomputable abbrev B7I:=win E8 (msum A9w B5V B7B)
theorem C49:aPM 83 B7I:=(mcE false [] [1,2] [(0,0,1,70,J8)]  G69 hlz C3p).win E8
noncomputable def S70:Tab:=Tab.add S69 83 (A2b (A2b (B3A) (B3e)) (B7I))
noncomputable def D7B:FuncId→Bool:=D7A
theorem G70:aPG S70 D7B:=G69.addM (MContract.orElse (MContract.orElse B6L B7w) C49) (A6W (A6W (A7d _) (A7d _)) (A7d _)) (cbl Try.f83) (by kernel_rfl)

abbrev D8u:List AV:=.junk::.junk::.junk::D5q
abbrev B0T:List PSh:=[.t tq3]
abbrev Q4:SS:=⟨(.t false tq3::.junk::.junk::.junk::.junk::.ptr 0 0 1 0::.junk::.junk::.t false tq3::tI::tI::D59),[.box [.all 1 2,.all 2 3],.rows 70 true J8,.rows 32 true tq5]⟩
abbrev B1T:SS:=⟨(.junk::.junk::.nil::.nil::.t true .bool::D11),[]⟩
abbrev B6d:SS:=⟨(.junk::.junk::.junk::.junk::.junk::.ptr 0 0 1 0::C72),[.box [.all 1 2,.all 2 3],.rows 70 true J8,.rows 32 true tq5]⟩
noncomputable def B2q (x8:Lq1) (x10:Int):=let z1:=x8.getD x10.toNat ((0:Int),((0:Int),[]));D0j (z1.1) ((z1.2).1) ((z1.2).2)
noncomputable def B2u (x0 x8:Lq1) (x10:Int) (h1:LBBe) (h2:Lq1):=let z1:=x8.getD x10.toNat ((0:Int),((0:Int),[]));A9Z (z1.1) ((z1.2).1) ((z1.2).2) ((x0.take x10.toNat).drop (0:Int).toNat) h1 h2
noncomputable def B71 (x0 x8:Lq1) (x9 x10:Int) (h1:LBBe) (h2:Lq1):RT Q4.den:=let z1:=x8.getD x10.toNat ((0:Int),((0:Int),[]));let z2:=B2u x0 x8 x10 h1 h2;(.br (decide (x10<x9)) (.br (decide (0≤x10∧x10<(x8.length:Int))) (.br (B51 (z1.1) ((z1.2).1) ((z1.2).2)) (.br (!(B2q x8 x10)) (.done .ret B1T (((),(),(),(),false,u27),())) (.br (decide (0≤(0:Int)∧(0:Int)≤x10∧x10≤(x0.length:Int))) (.br (R5 (z1.1) ((z1.2).1) ((z1.2).2) ((x0.take x10.toNat).drop (0:Int).toNat) h1 h2) (.br (!(z2.1)) (.done .ret B1T (((),(),(),(),false,u27),())) (.next ((x0,(),(),(),(),(),(),(),x8,x9,wI (x10+(1:Int)),u21),(((),(),()),(z2.2.1),(z2.2.2),())))) .fail) .fail)) .fail) .fail) (.done (.exit 0) B6d ((u32),(((),(),()),h1,h2,()))))
abbrev A85:=(Lq1)×Lq1×(Int)×(Int)×LBBe×(Lq1)
abbrev A7Q:=Nat×(Bool)×LBBe×(Lq1)
def A0k:A7Q:=(99,(false:Bool),([]:LBBe),([]:Lq1))
noncomputable def A8D (x0 x8:Lq1) (x9 x10:Int) (h1:LBBe) (h2:Lq1):A85 ⊕ A7Q:=let z1:=x8.getD x10.toNat ((0:Int),((0:Int),[]));let z2:=B2u x0 x8 x10 h1 h2;(cond (decide (x10<x9)) (cond (decide (0≤x10∧x10<(x8.length:Int))) (cond (B51 (z1.1) ((z1.2).1) ((z1.2).2)) (cond (!(B2q x8 x10)) (.inr (0,false,([]:LBBe),([]:Lq1))) (cond (decide (0≤(0:Int)∧(0:Int)≤x10∧x10≤(x0.length:Int))) (cond (R5 (z1.1) ((z1.2).1) ((z1.2).2) ((x0.take x10.toNat).drop (0:Int).toNat) h1 h2) (cond (!(z2.1)) (.inr (0,false,([]:LBBe),([]:Lq1))) (.inl (x0,x8,x9,wI (x10+(1:Int)),(z2.2.1),(z2.2.2)))) (.inr A0k)) (.inr A0k))) (.inr A0k)) (.inr A0k)) (.inr (1,(false:Bool),h1,h2)))
noncomputable def B7D (x0 x8:Lq1) (x9 x10:Int) (h1:LBBe) (h2:Lq1):A7Q:=itX (fun v:A85=>A8D v.1 v.2.1 v.2.2.1 v.2.2.2.1 v.2.2.2.2.1 v.2.2.2.2.2) A0k (x0,x8,x9,x10,h1,h2)
noncomputable def B26 (a:A7Q):CT:=(.br (a.1==0) (.done .ret B1T (((),(),(),(),a.2.1,u27),())) (.br (a.1==1) (.done (.exit 0) B6d ((u32),(((),(),()),a.2.2.1,a.2.2.2,()))) .fail))
noncomputable def C6I (x0 x8:Lq1) (x9 x10:Int) (h1:LBBe) (h2:Lq1):CT:=B26 (B7D x0 x8 x9 x10 h1 h2)
noncomputable abbrev B0l {α:Sort _} (f:Lq1→Lq1→Int→Int→LBBe→Lq1→α) (d:Q4.den):α:=f d.1.1 d.1.2.2.2.2.2.2.2.2.1 d.1.2.2.2.2.2.2.2.2.2.1 d.1.2.2.2.2.2.2.2.2.2.2.1 d.2.2.1 d.2.2.2.1
noncomputable abbrev B3m:Q4.den→RT Q4.den:=(B0l B71)
noncomputable def B5v:Code:=((D4 0 (A1l Try.f45)).getD 0 (0,.skip)).2
noncomputable abbrev B7N (v:A85):Q4.den:=((v.1,(),(),(),(),(),(),(),v.2.1,v.2.2.1,v.2.2.2.1,u21),(((),(),()),v.2.2.2.2.1,v.2.2.2.2.2,()))
theorem C5T:(∀ v:A85,(B71 v.1 v.2.1 v.2.2.1 v.2.2.2.1 v.2.2.2.2.1 v.2.2.2.2.2).val=A6D B7N B26 (A8D v.1 v.2.1 v.2.2.1 v.2.2.2.1 v.2.2.2.2.1 v.2.2.2.2.2))∧∀ a:A7Q,CEnd Q4.den (B26 a):=⟨fun v=>by repeat' first | apply A7G | rfl,fun a=>(A7t aCD (A7t aCD A7v))⟩
noncomputable def B7J (x0 x8:Lq1) (x9 x10:Int) (h1:LBBe) (h2:Lq1):Option (Ex×St):=let z1:=x8.getD x10.toNat ((0:Int),((0:Int),[]));let z2:=(⟨(.junk::.junk::(.raw (.slice none 0 0))::(.raw (.slice none 0 0))::(.t true .bool false)::D71),[],0,[]⟩:St);let z3:=B2u x0 x8 x10 h1 h2;(cond (decide (x10<x9)) (cond (decide (0≤x10∧x10<(x8.length:Int))) (cond (B51 (z1.1) ((z1.2).1) ((z1.2).2)) (cond (!(B2q x8 x10)) (some (.ret,z2)) (cond (decide (0≤(0:Int)∧(0:Int)≤x10∧x10≤(x0.length:Int))) (cond (R5 (z1.1) ((z1.2).1) ((z1.2).2) ((x0.take x10.toNat).drop (0:Int).toNat) h1 h2) (cond (!(z3.1)) (some (.ret,z2)) (some (.normal,(⟨((.t false tq3 x0)::.junk::.junk::.junk::.junk::(.ptr 0 0 1 0)::.junk::.junk::(.t false tq3 x8)::(ti x9)::(ti (wI (x10+(1:Int))))::D8u),[(.box [(.all 1 2),(.all 2 3)]),(.rows 70 true J8 (z3.2.1)),(.rows 32 true tq5 (z3.2.2))],0,[]⟩:St)))) none) none)) none) none) (some ((.exit 0),(⟨(.junk::.junk::.junk::.junk::.junk::(.ptr 0 0 1 0)::D6t),[(.box [(.all 1 2),(.all 2 3)]),(.rows 70 true J8 h1),(.rows 32 true tq5 h2)],0,[]⟩:St))))
theorem C4C:RdA G70 aLn 0 B5v Q4 0 [] (kepts [2,3,4] [(0,[5])]) (B0l B7J):=by
 intro d
 kernel_rfl
theorem C4G:∀ d:Q4.den,(B0l B7J) d=(B3m d).opt 0 []:=by
 intro d
 kernel_rfl
noncomputable abbrev B6D:St→Option Tree:=Q4.say 0 [] [(2005001,32,tq5),(2005000,70,J8)] (B0l C6I)
theorem C5t:aPL B6D B5v:=SS.wp2 hlz [(2005001,32,tq5),(2005000,70,J8)] B3m C4C C4G _ (fun d=>Runs.ofI2 (step:=B3m) B7N C5T rfl (d.1.1,d.1.2.2.2.2.2.2.2.2.1,d.1.2.2.2.2.2.2.2.2.2.1,d.1.2.2.2.2.2.2.2.2.2.2.1,d.2.2.1,d.2.2.2.1))
noncomputable def T8 (a0:Lq1):=B7D a0 a0 (a0.length:Int) (0:Int) ([]:LBBe) ([]:Lq1)
noncomputable def B1E (a0:Lq1):LBBe×Lq1×Bool:=let z1:=T8 a0;(cond (z1.1==0) ([],[],(z1.2.1)) ((z1.2.2.1),(z1.2.2.2),true))
noncomputable abbrev B3u (r:LBBe×Lq1×Bool):AV×List AObj:=((.tup [(.t true tq6 r.1),(.t true tq3 r.2.1),(.t true .bool r.2.2)]),[])
noncomputable abbrev B6M:H7 B0T→AV×List AObj:=fun d=>B3u (B1E d.1)
noncomputable def A8b (a0:Lq1):Bool:=cond ((T8 a0).1==0) true ((T8 a0).1==1)
noncomputable abbrev B4p:H7 B0T→Bool:=fun d=>A8b d.1
noncomputable abbrev C8M:Nat→St→Option Tree:=fun b=>match b with | 0=>B6D | _=>fun _=>none
theorem C7a:A7B true G70 (C8M) Try.f45 B0T B4p B6M:=by
 rintro ⟨a0,_⟩ hp
 change A8b a0=true at hp
 unfold A8b at hp
 refine Eq.trans (b:=(let z1:=T8 a0;cond (z1.1==0) (some (B3u ([],[],(z1.2.1)))) (cond (z1.1==1) (some (B3u ((z1.2.2.1),(z1.2.2.2),true))) none))) (by kernel_rfl) ?_
 exact (M2 B3u hp (fun hp=>rfl) (fun hp=>(A7E hp fun _h=>rfl)))
theorem C8Z:aPP 45 (A21 B0T B4p B6M):=pcD true G70 (hl1 (i:=0) (by kernel_rfl) C5t) C7a
noncomputable def S71:Tab:=Tab.add S70 45 (lift (A21 B0T B4p B6M))
noncomputable def D7C:FuncId→Bool:=qadd D7B 45
theorem G71:aPG S71 D7C:=G70.addQ C8Z (cbl Try.f45) (fun _=>rfl)

abbrev X0:List PSh:=[.t tq6,.t tq6]
abbrev M6:SS:=⟨(.t false tq6::.t false tq6::.junk::.junk::.junk::.junk::.junk::.junk::.junk::.junk::.junk::.junk::tI::tI::D5s),[]⟩
abbrev B0R:SS:=⟨(.junk::.junk::.junk::.junk::.t true .bool::C6N),[]⟩
abbrev B0S:SS:=⟨(.junk::C72),[]⟩
noncomputable def B1S (x0 x1:LBBe) (x12 x13:Int):RT M6.den:=let z1:=x0.getD x13.toNat (bE,bE);let z2:=x1.getD x13.toNat (bE,bE);(.br (decide (x13<x12)) (.br (decide (0≤x13∧x13<(x0.length:Int))) (.br (decide (0≤x13∧x13<(x1.length:Int))) (.br (!(((z1.1).toList==(z2.1).toList)&&(((z1.2).toList==(z2.2).toList)&&true))) (.done .ret B0R (((),(),(),(),false,u22),())) (.next ((x0,x1,(),(),(),(),(),(),(),(),(),(),x12,wI (x13+(1:Int)),u13),()))) .fail) .fail) (.done (.exit 0) B0S ((u27),())))
abbrev P1:=(LBBe)×LBBe×(Int)×(Int)
abbrev R9:=Nat×(Bool)
def Y2:R9:=(99,(false:Bool))
noncomputable def R7 (x0 x1:LBBe) (x12 x13:Int):P1 ⊕ R9:=let z1:=x0.getD x13.toNat (bE,bE);let z2:=x1.getD x13.toNat (bE,bE);(cond (decide (x13<x12)) (cond (decide (0≤x13∧x13<(x0.length:Int))) (cond (decide (0≤x13∧x13<(x1.length:Int))) (cond (!(((z1.1).toList==(z2.1).toList)&&(((z1.2).toList==(z2.2).toList)&&true))) (.inr (0,false)) (.inl (x0,x1,x12,wI (x13+(1:Int))))) (.inr Y2)) (.inr Y2)) (.inr (1,(false:Bool))))
noncomputable def R4 (x0 x1:LBBe) (x12 x13:Int):R9:=itX (fun v:P1=>R7 v.1 v.2.1 v.2.2.1 v.2.2.2) Y2 (x0,x1,x12,x13)
noncomputable def A8s (a:R9):CT:=(.br (a.1==0) (.done .ret B0R (((),(),(),(),a.2,u22),())) (.br (a.1==1) (.done (.exit 0) B0S ((u27),())) .fail))
noncomputable def B8c (x0 x1:LBBe) (x12 x13:Int):CT:=A8s (R4 x0 x1 x12 x13)
noncomputable abbrev B1B {α:Sort _} (f:LBBe→LBBe→Int→Int→α) (d:M6.den):α:=f d.1.1 d.1.2.1 d.1.2.2.2.2.2.2.2.2.2.2.2.2.1 d.1.2.2.2.2.2.2.2.2.2.2.2.2.2.1
noncomputable abbrev A8C:M6.den→RT M6.den:=(B1B B1S)
noncomputable def B0E:Code:=((D4 0 (A1l Try.f46)).getD 0 (0,.skip)).2
noncomputable abbrev B1I (v:P1):M6.den:=((v.1,v.2.1,(),(),(),(),(),(),(),(),(),(),v.2.2.1,v.2.2.2,u13),())
theorem B7T:(∀ v:P1,(B1S v.1 v.2.1 v.2.2.1 v.2.2.2).val=A6D B1I A8s (R7 v.1 v.2.1 v.2.2.1 v.2.2.2))∧∀ a:R9,CEnd M6.den (A8s a):=⟨fun v=>(A7G (A7G (A7G (A7G rfl rfl) rfl) rfl) rfl),fun a=>(A7t aCD (A7t aCD A7v))⟩
theorem B6Z:RdA G71 aLn 0 B0E M6 0 [] (kepts [4] [(0,[])]) (fun d=>(A8C d).opt 0 []):=by
 intro d
 kernel_rfl
noncomputable abbrev B00:St→Option Tree:=M6.say 0 [] [] (B1B B8c)
theorem B7H:aPL B00 B0E:=SS.wp2 hlz [] A8C B6Z (fun d=>rfl) _ (fun d=>Runs.ofI2 (step:=A8C) B1I B7T rfl (d.1.1,d.1.2.1,d.1.2.2.2.2.2.2.2.2.2.2.2.2.1,d.1.2.2.2.2.2.2.2.2.2.2.2.2.2.1))
noncomputable def V6 (a0 a1:LBBe):Bool:=let z1:=R4 a0 a1 (a0.length:Int) (0:Int);(cond ((a0.length:Int) != (a1.length:Int)) false (cond (z1.1==0) (z1.2) true))
noncomputable abbrev R3 (r:Bool):AV×List AObj:=((.t true .bool r),[])
noncomputable abbrev A9Y:H7 X0→AV×List AObj:=fun d=>R3 (V6 d.1 d.2.1)
noncomputable def P0 (a0 a1:LBBe):Bool:=let z1:=R4 a0 a1 (a0.length:Int) (0:Int);cond ((a0.length:Int) != (a1.length:Int)) true (cond (z1.1==0) true (z1.1==1))
noncomputable abbrev A8V:H7 X0→Bool:=fun d=>P0 d.1 d.2.1
noncomputable abbrev B9S:Nat→St→Option Tree:=fun b=>match b with | 0=>B00 | _=>fun _=>none
theorem B8Y:A7B true G71 (B9S) Try.f46 X0 A8V A9Y:=by
 rintro ⟨a0,⟨a1,_⟩⟩ hp
 change P0 a0 a1=true at hp
 unfold P0 at hp
 refine Eq.trans (b:=(let z1:=R4 a0 a1 (a0.length:Int) (0:Int);cond ((a0.length:Int) != (a1.length:Int)) (some (R3 false)) (cond (z1.1==0) (some (R3 (z1.2))) (cond (z1.1==1) (some (R3 true)) none)))) (by kernel_rfl) ?_
 exact (M2 R3 hp (fun hp=>rfl) (fun hp=>(M2 R3 hp (fun hp=>rfl) (fun hp=>(A7E hp fun _h=>rfl)))))
theorem C0m:aPP 46 (A21 X0 A8V A9Y):=pcD true G71 (hl1 (i:=0) (by kernel_rfl) B7H) B8Y
noncomputable def S72:Tab:=Tab.add S71 46 (lift (A21 X0 A8V A9Y))
noncomputable def D7D:FuncId→Bool:=qadd D7C 46
theorem G72:aPG S72 D7D:=G71.addQ C0m (cbl Try.f46) (fun _=>rfl)

abbrev A0m:List PSh:=[.t tq4,.t tq4]
abbrev N6:SS:=⟨(.t false tq4::.t false tq4::.junk::.junk::.junk::.junk::.junk::.junk::.junk::.junk::.junk::.junk::tI::tI::D5s),[]⟩
abbrev B1V:SS:=⟨(.junk::.junk::.junk::.junk::.t true .bool::C6N),[]⟩
abbrev B1W:SS:=⟨(.junk::C72),[]⟩
noncomputable def B2S (x0 x1:Lq2) (x12 x13:Int):RT N6.den:=let z1:=x0.getD x13.toNat ((0:Int),(bE,bE));let z2:=x1.getD x13.toNat ((0:Int),(bE,bE));(.br (decide (x13<x12)) (.br (decide (0≤x13∧x13<(x0.length:Int))) (.br (decide (0≤x13∧x13<(x1.length:Int))) (.br (!(((z1.1)==(z2.1))&&((((z1.2).1).toList==((z2.2).1).toList)&&((((z1.2).2).toList==((z2.2).2).toList)&&true)))) (.done .ret B1V (((),(),(),(),false,u22),())) (.next ((x0,x1,(),(),(),(),(),(),(),(),(),(),x12,wI (x13+(1:Int)),u13),()))) .fail) .fail) (.done (.exit 0) B1W ((u27),())))
abbrev R1:=(Lq2)×Lq2×(Int)×(Int)
abbrev W4:=Nat×(Bool)
def A7O:W4:=(99,(false:Bool))
noncomputable def V1 (x0 x1:Lq2) (x12 x13:Int):R1 ⊕ W4:=let z1:=x0.getD x13.toNat ((0:Int),(bE,bE));let z2:=x1.getD x13.toNat ((0:Int),(bE,bE));(cond (decide (x13<x12)) (cond (decide (0≤x13∧x13<(x0.length:Int))) (cond (decide (0≤x13∧x13<(x1.length:Int))) (cond (!(((z1.1)==(z2.1))&&((((z1.2).1).toList==((z2.2).1).toList)&&((((z1.2).2).toList==((z2.2).2).toList)&&true)))) (.inr (0,false)) (.inl (x0,x1,x12,wI (x13+(1:Int))))) (.inr A7O)) (.inr A7O)) (.inr (1,(false:Bool))))
noncomputable def U9 (x0 x1:Lq2) (x12 x13:Int):W4:=itX (fun v:R1=>V1 v.1 v.2.1 v.2.2.1 v.2.2.2) A7O (x0,x1,x12,x13)
noncomputable def A9q (a:W4):CT:=(.br (a.1==0) (.done .ret B1V (((),(),(),(),a.2,u22),())) (.br (a.1==1) (.done (.exit 0) B1W ((u27),())) .fail))
noncomputable def C0b (x0 x1:Lq2) (x12 x13:Int):CT:=A9q (U9 x0 x1 x12 x13)
noncomputable abbrev B2Q {α:Sort _} (f:Lq2→Lq2→Int→Int→α) (d:N6.den):α:=f d.1.1 d.1.2.1 d.1.2.2.2.2.2.2.2.2.2.2.2.2.1 d.1.2.2.2.2.2.2.2.2.2.2.2.2.2.1
noncomputable abbrev A9t:N6.den→RT N6.den:=(B2Q B2S)
noncomputable def B1C:Code:=((D4 0 (A1l Try.f84)).getD 0 (0,.skip)).2
noncomputable abbrev B2R (v:R1):N6.den:=((v.1,v.2.1,(),(),(),(),(),(),(),(),(),(),v.2.2.1,v.2.2.2,u13),())
theorem B9P:(∀ v:R1,(B2S v.1 v.2.1 v.2.2.1 v.2.2.2).val=A6D B2R A9q (V1 v.1 v.2.1 v.2.2.1 v.2.2.2))∧∀ a:W4,CEnd N6.den (A9q a):=⟨fun v=>(A7G (A7G (A7G (A7G rfl rfl) rfl) rfl) rfl),fun a=>(A7t aCD (A7t aCD A7v))⟩
theorem B8V:RdA G72 aLn 0 B1C N6 0 [] (kepts [4] [(0,[])]) (fun d=>(A9t d).opt 0 []):=by
 intro d
 kernel_rfl
noncomputable abbrev B2F:St→Option Tree:=N6.say 0 [] [] (B2Q C0b)
theorem B9M:aPL B2F B1C:=SS.wp2 hlz [] A9t B8V (fun d=>rfl) _ (fun d=>Runs.ofI2 (step:=A9t) B2R B9P rfl (d.1.1,d.1.2.1,d.1.2.2.2.2.2.2.2.2.2.2.2.2.1,d.1.2.2.2.2.2.2.2.2.2.2.2.2.2.1))
noncomputable def A8B (a0 a1:Lq2):Bool:=let z1:=U9 a0 a1 (a0.length:Int) (0:Int);(cond ((a0.length:Int) != (a1.length:Int)) false (cond (z1.1==0) (z1.2) true))
noncomputable abbrev V3 (r:Bool):AV×List AObj:=((.t true .bool r),[])
noncomputable abbrev B1n:H7 A0m→AV×List AObj:=fun d=>V3 (A8B d.1 d.2.1)
noncomputable def Q9 (a0 a1:Lq2):Bool:=let z1:=U9 a0 a1 (a0.length:Int) (0:Int);cond ((a0.length:Int) != (a1.length:Int)) true (cond (z1.1==0) true (z1.1==1))
noncomputable abbrev A98:H7 A0m→Bool:=fun d=>Q9 d.1 d.2.1
noncomputable abbrev C2K:Nat→St→Option Tree:=fun b=>match b with | 0=>B2F | _=>fun _=>none
theorem C1a:A7B true G72 (C2K) Try.f84 A0m A98 B1n:=by
 rintro ⟨a0,⟨a1,_⟩⟩ hp
 change Q9 a0 a1=true at hp
 unfold Q9 at hp
 refine Eq.trans (b:=(let z1:=U9 a0 a1 (a0.length:Int) (0:Int);cond ((a0.length:Int) != (a1.length:Int)) (some (V3 false)) (cond (z1.1==0) (some (V3 (z1.2))) (cond (z1.1==1) (some (V3 true)) none)))) (by kernel_rfl) ?_
 exact (M2 V3 hp (fun hp=>rfl) (fun hp=>(M2 V3 hp (fun hp=>rfl) (fun hp=>(A7E hp fun _h=>rfl)))))
theorem C2O:aPP 84 (A21 A0m A98 B1n):=pcD true G72 (hl1 (i:=0) (by kernel_rfl) B9M) C1a
noncomputable def S73:Tab:=Tab.add S72 84 (lift (A21 A0m A98 B1n))
noncomputable def D7E:FuncId→Bool:=qadd D7D 84
theorem G73:aPG S73 D7E:=G72.addQ C2O (cbl Try.f84) (fun _=>rfl)

abbrev B5e:List PSh:=[.agg [(.int .i64),(.int .i64),tq4],.agg [(.int .i64),(.int .i64),tq4]]
noncomputable def C4e (a0 a1:Int) (a2:Lq2) (a3 a4:Int) (a5:Lq2):Bool:=(cond (a0==a3) (cond (a1==a4) (A8B a2 a5) false) false)
noncomputable abbrev B3a (r:Bool):AV×List AObj:=((.t true .bool r),[])
noncomputable abbrev C2T:H7 B5e→AV×List AObj:=fun d=>B3a (C4e d.1.1 d.1.2.1 d.1.2.2.1 d.2.1.1 d.2.1.2.1 d.2.1.2.2.1)
noncomputable def B0b (a0 a1:Int) (a2:Lq2) (a3 a4:Int) (a5:Lq2):Bool:=cond (a0==a3) (cond (a1==a4) (Q9 a2 a5) true) true
noncomputable abbrev B8M:H7 B5e→Bool:=fun d=>B0b d.1.1 d.1.2.1 d.1.2.2.1 d.2.1.1 d.2.1.2.1 d.2.1.2.2.1
theorem D02:A7B true G73 aLn Try.f48 B5e B8M C2T:=by
 rintro ⟨⟨a0,⟨a1,⟨a2,_⟩⟩⟩,⟨⟨a3,⟨a4,⟨a5,_⟩⟩⟩,_⟩⟩ hp
 change B0b a0 a1 a2 a3 a4 a5=true at hp
 unfold B0b at hp
 refine Eq.trans (b:=(cond (a0==a3) (cond (a1==a4) (cond (Q9 a2 a5) (some (B3a (A8B a2 a5))) none) (some (B3a false))) (some (B3a false)))) (by kernel_rfl) ?_
 exact (M2 B3a hp (fun hp=>(M2 B3a hp (fun hp=>(A7E hp fun _h=>rfl)) (fun hp=>rfl))) (fun hp=>rfl))
theorem D28:aPP 48 (A21 B5e B8M C2T):=pcD true G73 hlz D02
noncomputable def S74:Tab:=Tab.add S73 48 (lift (A21 B5e B8M C2T))
noncomputable def D7F:FuncId→Bool:=qadd D7E 48
theorem G74:aPG S74 D7F:=G73.addQ D28 (cbl Try.f48) (fun _=>rfl)

abbrev D8t:List AV:=.junk::.junk::.junk::D6q
abbrev M3:SS:=⟨[.t false tq3,.t false tq3,.fn 48 []],[]⟩
abbrev H9:SS:=⟨(.junk::.t false tq3::.fn 48 []::.junk::.junk::.junk::.junk::.junk::.junk::.junk::.junk::.junk::.junk::.junk::.junk::.t false tq3::tI::tI::D4v),[]⟩
abbrev T0:SS:=⟨(.junk::.junk::.junk::.junk::.junk::.junk::.t true .bool::C72),[]⟩
abbrev T1:SS:=⟨(.junk::D6d),[]⟩
noncomputable def M4 (x1 x15:Lq1) (x17:Int):=let z1:=x15.getD x17.toNat ((0:Int),((0:Int),[]));let z2:=x1.getD x17.toNat ((0:Int),((0:Int),[]));C4e (z1.1) ((z1.2).1) ((z1.2).2) (z2.1) ((z2.2).1) ((z2.2).2)
noncomputable def U7 (x1 x15:Lq1) (x16 x17:Int):RT H9.den:=let z1:=x15.getD x17.toNat ((0:Int),((0:Int),[]));let z2:=x1.getD x17.toNat ((0:Int),((0:Int),[]));(.br (decide (x17<x16)) (.br (decide (0≤x17∧x17<(x15.length:Int))) (.br (decide (0≤x17∧x17<(x1.length:Int))) (.br (B0b (z1.1) ((z1.2).1) ((z1.2).2) (z2.1) ((z2.2).1) ((z2.2).2)) (.br (!(M4 x1 x15 x17)) (.done .ret T0 (((),(),(),(),(),(),false,u26),())) (.next (((),x1,(),(),(),(),(),(),(),(),(),(),(),(),(),x15,x16,wI (x17+(1:Int)),u15),()))) .fail) .fail) .fail) (.done (.exit 0) T1 ((u33),())))
abbrev J4:=(Lq1)×Lq1×(Int)×(Int)
abbrev K9:=Nat×(Bool)
def K6:K9:=(99,(false:Bool))
noncomputable def K8 (x1 x15:Lq1) (x16 x17:Int):J4 ⊕ K9:=let z1:=x15.getD x17.toNat ((0:Int),((0:Int),[]));let z2:=x1.getD x17.toNat ((0:Int),((0:Int),[]));(cond (decide (x17<x16)) (cond (decide (0≤x17∧x17<(x15.length:Int))) (cond (decide (0≤x17∧x17<(x1.length:Int))) (cond (B0b (z1.1) ((z1.2).1) ((z1.2).2) (z2.1) ((z2.2).1) ((z2.2).2)) (cond (!(M4 x1 x15 x17)) (.inr (0,false)) (.inl (x1,x15,x16,wI (x17+(1:Int))))) (.inr K6)) (.inr K6)) (.inr K6)) (.inr (1,(false:Bool))))
noncomputable def K7 (x1 x15:Lq1) (x16 x17:Int):K9:=itX (fun v:J4=>K8 v.1 v.2.1 v.2.2.1 v.2.2.2) K6 (x1,x15,x16,x17)
noncomputable def O0 (a:K9):CT:=(.br (a.1==0) (.done .ret T0 (((),(),(),(),(),(),a.2,u26),())) (.br (a.1==1) (.done (.exit 0) T1 ((u33),())) .fail))
noncomputable def A9p (x1 x15:Lq1) (x16 x17:Int):CT:=O0 (K7 x1 x15 x16 x17)
noncomputable abbrev M0 {α:Sort _} (f:Lq1→Lq1→Int→Int→α) (d:H9.den):α:=f d.1.2.1 d.1.2.2.2.2.2.2.2.2.2.2.2.2.2.2.2.1 d.1.2.2.2.2.2.2.2.2.2.2.2.2.2.2.2.2.1 d.1.2.2.2.2.2.2.2.2.2.2.2.2.2.2.2.2.2.1
noncomputable abbrev O2:H9.den→RT H9.den:=(M0 U7)
noncomputable def R8:Code:=((D4 0 (A1l Try.f47)).getD 0 (0,.skip)).2
noncomputable abbrev U6 (v:J4):H9.den:=(((),v.1,(),(),(),(),(),(),(),(),(),(),(),(),(),v.2.1,v.2.2.1,v.2.2.2,u15),())
theorem A9d:(∀ v:J4,(U7 v.1 v.2.1 v.2.2.1 v.2.2.2).val=A6D U6 O0 (K8 v.1 v.2.1 v.2.2.1 v.2.2.2))∧∀ a:K9,CEnd H9.den (O0 a):=⟨fun v=>(A7G (A7G (A7G (A7G (A7G rfl rfl) rfl) rfl) rfl) rfl),fun a=>(A7t aCD (A7t aCD A7v))⟩
noncomputable def U5 (x1 x15:Lq1) (x16 x17:Int):Option (Ex×St):=let z1:=x15.getD x17.toNat ((0:Int),((0:Int),[]));let z2:=x1.getD x17.toNat ((0:Int),((0:Int),[]));(cond (decide (x17<x16)) (cond (decide (0≤x17∧x17<(x15.length:Int))) (cond (decide (0≤x17∧x17<(x1.length:Int))) (cond (B0b (z1.1) ((z1.2).1) ((z1.2).2) (z2.1) ((z2.2).1) ((z2.2).2)) (cond (!(M4 x1 x15 x17)) (some (.ret,(⟨(.junk::.junk::.junk::.junk::.junk::.junk::(.t true .bool false)::D6t),[],0,[]⟩:St))) (some (.normal,(⟨(.junk::(.t false tq3 x1)::(.fn 48 [])::.junk::.junk::.junk::.junk::.junk::.junk::.junk::.junk::.junk::.junk::.junk::.junk::(.t false tq3 x15)::(ti x16)::(ti (wI (x17+(1:Int))))::D8t),[],0,[]⟩:St)))) none) none) none) (some ((.exit 0),(⟨(.junk::D56),[],0,[]⟩:St))))
theorem A81:RdA G74 aLn 0 R8 H9 0 [] (kepts [6] [(0,[])]) (M0 U5):=by
 intro d
 kernel_rfl
theorem A82:∀ d:H9.den,(M0 U5) d=(O2 d).opt 0 []:=by
 intro d
 kernel_rfl
noncomputable abbrev U2:St→Option Tree:=H9.say 0 [] [] (M0 A9p)
theorem A9a:aPL U2 R8:=SS.wp2 hlz [] O2 A81 A82 _ (fun d=>Runs.ofI2 (step:=O2) U6 A9d rfl (d.1.2.1,d.1.2.2.2.2.2.2.2.2.2.2.2.2.2.2.2.1,d.1.2.2.2.2.2.2.2.2.2.2.2.2.2.2.2.2.1,d.1.2.2.2.2.2.2.2.2.2.2.2.2.2.2.2.2.2.1))
noncomputable def L7 (x0 x1:Lq1):Bool:=let z1:=K7 x1 x0 (x0.length:Int) (0:Int);(cond ((x0.length:Int) != (x1.length:Int)) false (cond (z1.1==0) (z1.2) true))
noncomputable abbrev J6 (r:Bool):AV×List AObj×List Nat:=((.t true .bool r),[],[])
noncomputable abbrev X3:M3.den→AV×List AObj×List Nat:=fun d=>J6 (L7 d.1.1 d.1.2.1)
noncomputable def J0 (x0 x1:Lq1):Bool:=let z1:=K7 x1 x0 (x0.length:Int) (0:Int);cond ((x0.length:Int) != (x1.length:Int)) true (cond (z1.1==0) true (z1.1==1))
noncomputable abbrev V0:M3.den→Bool:=fun d=>J0 d.1.1 d.1.2.1
noncomputable abbrev A9F:Nat→St→Option Tree:=fun b=>match b with | 0=>U2 | _=>fun _=>none
theorem A9s:A7A G74 (A9F) Try.f47 M3 V0 X3:=by
 rintro ⟨⟨x0,x1,_,_⟩,_⟩ hp
 change J0 x0 x1=true at hp
 unfold J0 at hp
 refine Eq.trans (b:=(let z1:=K7 x1 x0 (x0.length:Int) (0:Int);cond ((x0.length:Int) != (x1.length:Int)) (some (J6 false)) (cond (z1.1==0) (some (J6 (z1.2))) (cond (z1.1==1) (some (J6 true)) none)))) (by kernel_rfl) ?_
 exact (M2 J6 hp (fun hp=>rfl) (fun hp=>(M2 J6 hp (fun hp=>rfl) (fun hp=>(A7E hp fun _h=>rfl)))))
noncomputable abbrev X4:=winQ (msum M3 V0 X3)
theorem A9S:aPM 47 X4:=(mcM G74 (hl1 (i:=0) (by kernel_rfl) A9a) A9s).winQ (A64 fun d=>⟨rfl,rfl⟩)
noncomputable def S75:Tab:=Tab.add S74 47 (X4)
noncomputable def D7G:FuncId→Bool:=qadd D7F 47
theorem G75:aPG S75 D7G:=G74.addMQ A9S (A7b _) (cbl Try.f47) (A5F _)

abbrev B5c:List PSh:=[.agg [(.int .i64),tq3,(.int .i64),tq6,tq3]]
noncomputable def B7C (a0:Int) (a1:Lq1) (a2:Int) (a3:LBBe) (a4:Lq1):Bool:=let z1:=B1E a1;(cond (!(D1W a0)) false (cond (!(A8w a2 (0:Int) (a1.length:Int))) false (cond (decide ((wI ((a1.length:Int)+(a4.length:Int))) > (300:Int))) false (cond (z1.2.2) (cond (V6 (z1.1) a3) (L7 (z1.2.1) a4) false) false))))
noncomputable abbrev Z0 (r:Bool):AV×List AObj:=((.t true .bool r),[])
noncomputable abbrev C2R:H7 B5c→AV×List AObj:=fun d=>Z0 (B7C d.1.1 d.1.2.1 d.1.2.2.1 d.1.2.2.2.1 d.1.2.2.2.2.1)
noncomputable def B1p (a0:Int) (a1:Lq1) (a2:Int) (a3:LBBe) (a4:Lq1):Bool:=let z1:=B1E a1;cond (!(D1W a0)) true (cond (!(A8w a2 (0:Int) (a1.length:Int))) true (cond (decide ((wI ((a1.length:Int)+(a4.length:Int))) > (300:Int))) true ((A8b a1)&&(cond (z1.2.2) ((P0 (z1.1) a3)&&(cond (V6 (z1.1) a3) (J0 (z1.2.1) a4) true)) true))))
noncomputable abbrev B8K:H7 B5c→Bool:=fun d=>B1p d.1.1 d.1.2.1 d.1.2.2.1 d.1.2.2.2.1 d.1.2.2.2.2.1
theorem D00:A7B true G75 aLn Try.f17 B5c B8K C2R:=by
 rintro ⟨⟨a0,⟨a1,⟨a2,⟨a3,⟨a4,_⟩⟩⟩⟩⟩,_⟩ hp
 change B1p a0 a1 a2 a3 a4=true at hp
 unfold B1p at hp
 refine Eq.trans (b:=(let z1:=B1E a1;cond (!(D1W a0)) (some (Z0 false)) (cond (!(A8w a2 (0:Int) (a1.length:Int))) (some (Z0 false)) (cond (decide ((wI ((a1.length:Int)+(a4.length:Int))) > (300:Int))) (some (Z0 false)) (cond (A8b a1) (cond (z1.2.2) (cond (P0 (z1.1) a3) (cond (V6 (z1.1) a3) (cond (J0 (z1.2.1) a4) (some (Z0 (L7 (z1.2.1) a4))) none) (some (Z0 false))) none) (some (Z0 false))) none))))) (by kernel_rfl) ?_
 exact (M2 Z0 hp (fun hp=>rfl) (fun hp=>(M2 Z0 hp (fun hp=>rfl) (fun hp=>(M2 Z0 hp (fun hp=>rfl) (fun hp=>(A7C hp fun hp=>(M2 Z0 hp (fun hp=>(A7C hp fun hp=>(M2 Z0 hp (fun hp=>(A7E hp fun _h=>rfl)) (fun hp=>rfl)))) (fun hp=>rfl)))))))))
theorem D26:aPP 17 (A21 B5c B8K C2R):=pcD true G75 hlz D00
noncomputable def S76:Tab:=Tab.add S75 17 (lift (A21 B5c B8K C2R))
noncomputable def D7H:FuncId→Bool:=qadd D7G 17
theorem G76:aPG S76 D7H:=G75.addQ D26 (cbl Try.f17) (fun _=>rfl)

abbrev B3G:List PSh:=[.agg [(.int .i64),tq3,(.int .i64),tq6,tq3]]
noncomputable def C1K (a0:Int) (a1:Lq1) (a2:Int) (a3:LBBe) (a4:Lq1):Int×Int×Lq1×LBBe×Lq1:=let z1:=B5M a0 a1 a2 a3 a4;(cond (B7C a0 a1 a2 a3 a4) ((z1.1),(a1.length:Int),(z1.2.2.1),(z1.2.2.2.1),(z1.2.2.2.2)) ((z1.1),(z1.2.1),(z1.2.2.1),(z1.2.2.2.1),(z1.2.2.2.2)))
noncomputable abbrev B6s (r:Int×Int×Lq1×LBBe×Lq1):AV×List AObj:=((.agg [(ti r.1),(.all 0 3),(ti r.2.1),(.all 1 2),(.all 2 3)]),[(.deep 32 [85] tq5 r.2.2.1),(.rows 70 true J8 r.2.2.2.1),(.deep 32 [85] tq5 r.2.2.2.2)])
noncomputable abbrev C0t:H7 B3G→AV×List AObj:=fun d=>B6s (C1K d.1.1 d.1.2.1 d.1.2.2.1 d.1.2.2.2.1 d.1.2.2.2.2.1)
noncomputable def A99 (a0:Int) (a1:Lq1) (a2:Int) (a3:LBBe) (a4:Lq1):Bool:=(A8W a0 a1 a2 a3 a4)&&(B1p a0 a1 a2 a3 a4)
noncomputable abbrev B6S:H7 B3G→Bool:=fun d=>A99 d.1.1 d.1.2.1 d.1.2.2.1 d.1.2.2.2.1 d.1.2.2.2.2.1
theorem C9m:A7B false (G76.deep ow) aLn Try.f19 B3G B6S C0t:=by
 rintro ⟨⟨a0,⟨a1,⟨a2,⟨a3,⟨a4,_⟩⟩⟩⟩⟩,_⟩ hp
 change A99 a0 a1 a2 a3 a4=true at hp
 unfold A99 at hp
 refine Eq.trans (b:=(let z1:=B5M a0 a1 a2 a3 a4;cond (A8W a0 a1 a2 a3 a4) (cond (B1p a0 a1 a2 a3 a4) (cond (B7C a0 a1 a2 a3 a4) (some (B6s ((z1.1),(a1.length:Int),(z1.2.2.1),(z1.2.2.2.1),(z1.2.2.2.2)))) (some (B6s ((z1.1),(z1.2.1),(z1.2.2.1),(z1.2.2.2.1),(z1.2.2.2.2))))) none) none)) (by kernel_rfl) ?_
 exact (A7C hp fun hp=>(A7E hp fun _h=>(P9 B6s (fun _h=>rfl) (fun _h=>rfl))))
theorem D1A:aPP 19 (A21 B3G B6S C0t):=pcD false (G76.deep ow) hlz C9m
noncomputable def S77:Tab:=Tab.add S76 19 (lift (A21 B3G B6S C0t))
noncomputable def D7I:FuncId→Bool:=D7H
theorem G77:aPG S77 D7I:=G76.add D1A (cbl Try.f19) (by kernel_rfl)

abbrev C3K:List PSh:=[.agg [(.int .i64),.str,.str],.agg [(.int .i64),.str,.str]]
noncomputable def C9E (a0:Int) (a1 a2:ByteArray) (a3:Int) (a4 a5:ByteArray):Bool:=(cond (a0 != a3) false (cond (!(a1.toList==a4.toList)) false (cond (!(a2.toList==a5.toList)) false true)))
noncomputable abbrev B6t (r:Bool):AV×List AObj:=((.t true .bool r),[])
noncomputable abbrev D0b:H7 C3K→AV×List AObj:=fun d=>B6t (C9E d.1.1 d.1.2.1 d.1.2.2.1 d.2.1.1 d.2.1.2.1 d.2.1.2.2.1)
noncomputable abbrev C5D:H7 C3K→Bool:=fun d=>true
theorem D4G:A7B true G77 aLn Try.f146 C3K C5D D0b:=by
 rintro ⟨⟨a0,⟨a1,⟨a2,_⟩⟩⟩,⟨⟨a3,⟨a4,⟨a5,_⟩⟩⟩,_⟩⟩ hp
 refine Eq.trans (b:=(cond (a0 != a3) (some (B6t false)) (cond (!(a1.toList==a4.toList)) (some (B6t false)) (cond (!(a2.toList==a5.toList)) (some (B6t false)) (some (B6t true)))))) (by kernel_rfl) ?_
 exact (P9 B6t (fun _h=>rfl) (fun _h=>(P9 B6t (fun _h=>rfl) (fun _h=>(P9 B6t (fun _h=>rfl) (fun _h=>rfl))))))
theorem D5Q:aPP 146 (A21 C3K C5D D0b):=pcD true G77 hlz D4G
noncomputable def S78:Tab:=Tab.add S77 146 (lift (A21 C3K C5D D0b))
noncomputable def D7J:FuncId→Bool:=qadd D7I 146
theorem G78:aPG S78 D7J:=G77.addQ D5Q (cbl Try.f146) (fun _=>rfl)


noncomputable def B1m (x0 x1:Lq2) (i:Nat):Bool:=!(!(C9E ((x0.getD i ((0:Int),(bE,bE))).1) (((x0.getD i ((0:Int),(bE,bE))).2).1) (((x0.getD i ((0:Int),(bE,bE))).2).2) ((x1.getD i ((0:Int),(bE,bE))).1) (((x1.getD i ((0:Int),(bE,bE))).2).1) (((x1.getD i ((0:Int),(bE,bE))).2).2)))
abbrev B9Z:List PSh:=[.t tq4,.t tq4]
abbrev B1f:SS:=⟨(.t false tq4::.t false tq4::.junk::.junk::.junk::tI::C6N),[]⟩
abbrev C3y:SS:=⟨(.junk::.junk::.junk::.junk::.t true .bool::D0o),[]⟩
abbrev C3z:SS:=⟨(.junk::D11),[]⟩
noncomputable def C1r (x0 x1:Lq2) (x5:Int):RT B1f.den:=let z1:=x0.getD x5.toNat ((0:Int),(bE,bE));let z2:=x1.getD x5.toNat ((0:Int),(bE,bE));(.br (decide (x5<(x0.length:Int))) (.br (decide (0≤x5∧x5<(x0.length:Int))) (.br (decide (0≤x5∧x5<(x1.length:Int))) (.br (!(C9E (z1.1) ((z1.2).1) ((z1.2).2) (z2.1) ((z2.2).1) ((z2.2).2))) (.done .ret C3y (((),(),(),(),false,u23),())) (.next ((x0,x1,(),(),(),wI (x5+(1:Int)),u22),()))) .fail) .fail) (.done (.exit 0) C3z ((u28),())))
noncomputable def B5o (x0 x1:Lq2) (x5:Int):CT:=(.br (decide (0≤x5)&&(decide (x0.length=x1.length)&&okL x0)) (.br (A4G (B1m x0 x1) (x0.length - x5.toNat) x5.toNat) (.done (.exit 0) C3z ((u28),())) (.done .ret C3y (((),(),(),(),false,u23),()))) .fail)
noncomputable abbrev B36:B1f.den→RT B1f.den:=(fun d=>C1r d.1.1 d.1.2.1 d.1.2.2.2.2.2.1)
noncomputable abbrev C6n (x0 x1:Lq2) (x5:Int):B1f.den:=((x0,x1,(),(),(),x5,u22),())
noncomputable def C2g:Code:=((D4 0 (A1l Try.f137)).getD 0 (0,.skip)).2
theorem D2S (x0 x1:Lq2) (x5:Int):(B5o x0 x1 x5).val (D:=B1f.den)=.fail∨Runs B36 (C6n x0 x1 x5) (B5o x0 x1 x5).val:=by
 cases hc:(decide (0≤x5)&&(decide (x0.length=x1.length)&&okL x0)) with
 | false=>left;simp only [B5o,CT.val,hc,cond_false]
 | true =>
  right
  simp only [B5o,CT.val,hc,cond_true]
  simp only [Bool.and_eq_true,decide_eq_true_eq] at hc
  obtain ⟨i,rfl⟩:=Int.eq_ofNat_of_zero_le hc.1
  have hs:=A7p hc.2.2
  simp only [Int.toNat_natCast]
  refine Runs.scan (fun j=>C6n x0 x1 (j:Int)) (x0.length) (B1m x0 x1) (fun i hi=>?_) (fun i hi=>?_) ⟨_,_,_,rfl,by simp⟩ ⟨_,_,_,rfl,by simp⟩ _ _ rfl
  ·
   have h0a:decide ((i:Int)<(x0.length:Int))=true:=decide_eq_true (by omega)
   have h0b:decide (0≤(i:Int)∧(i:Int)<(x0.length:Int))=true:=decide_eq_true (by omega)
   simp only [B36,C1r,RT.val,h0a,h0b,cond_true,A7x i (by omega),Int.toNat_natCast]
   have h9:decide (0≤(i:Int)∧(i:Int)<(x1.length:Int))=true:=decide_eq_true (by omega)
   simp only [h9,cond_true]
   simp only [B1m]
   generalize (!(C9E ((x0.getD i ((0:Int),((⟨#[]⟩:ByteArray),(⟨#[]⟩:ByteArray)))).1) (((x0.getD i ((0:Int),((⟨#[]⟩:ByteArray),(⟨#[]⟩:ByteArray)))).2).1) (((x0.getD i ((0:Int),((⟨#[]⟩:ByteArray),(⟨#[]⟩:ByteArray)))).2).2) ((x1.getD i ((0:Int),((⟨#[]⟩:ByteArray),(⟨#[]⟩:ByteArray)))).1) (((x1.getD i ((0:Int),((⟨#[]⟩:ByteArray),(⟨#[]⟩:ByteArray)))).2).1) (((x1.getD i ((0:Int),((⟨#[]⟩:ByteArray),(⟨#[]⟩:ByteArray)))).2).2)))=c
   cases c<;>rfl
  ·have h1:decide ((i:Int)<(x0.length:Int))=false:=decide_eq_false (by omega)
   simp only [B36,C1r,RT.val,h1,cond_false]
theorem D0E:RdA G78 aLn 0 C2g B1f 0 [] (kepts [4] [(0,[])]) (fun d=>(B36 d).opt 0 []):=by
 intro d
 kernel_rfl
noncomputable abbrev C4P:St→Option Tree:=B1f.say 0 [] [] (fun d=>B5o d.1.1 d.1.2.1 d.1.2.2.2.2.2.1)
theorem D18:aPL C4P C2g:=SS.wp2 hlz [] B36 D0E (fun d=>rfl) _ (fun d=>D2S d.1.1 d.1.2.1 d.1.2.2.2.2.2.1)
noncomputable def C5s (a0 a1:Lq2):Bool:=(cond ((a0.length:Int) != (a1.length:Int)) false (cond (A4G (B1m a0 a1) (a0.length - (0:Int).toNat) (0:Int).toNat) true false))
noncomputable abbrev B7x (r:Bool):AV×List AObj:=((.t true .bool r),[])
noncomputable abbrev C7M:H7 B9Z→AV×List AObj:=fun d=>B7x (C5s d.1 d.2.1)
noncomputable def C05 (a0 a1:Lq2):Bool:=okL a0
noncomputable abbrev C3b:H7 B9Z→Bool:=fun d=>C05 d.1 d.2.1
noncomputable abbrev D4S:Nat→St→Option Tree:=fun b=>match b with | 0=>C4P | _=>fun _=>none
theorem D3D:A7B true G78 (D4S) Try.f137 B9Z C3b C7M:=by
 rintro ⟨a0,⟨a1,_⟩⟩ hp
 change C05 a0 a1=true at hp
 unfold C05 at hp
 refine Eq.trans (b:=(cond ((a0.length:Int) != (a1.length:Int)) (some (B7x false)) (cond (decide (0≤(0:Int))&&(decide (a0.length=a1.length)&&okL a0)) (cond (A4G (B1m a0 a1) (a0.length - (0:Int).toNat) (0:Int).toNat) (some (B7x true)) (some (B7x false))) none))) (by kernel_rfl) ?_
 exact (P9 B7x (fun _h=>rfl) (fun _h=>(A7E (by simp only [okL,Bool.and_eq_true,decide_eq_true_eq] at hp ⊢;simp at _h;exact ⟨Int.le_refl 0,by omega,hp⟩) (fun _h=>(P9 B7x (fun _h=>rfl) (fun _h=>rfl))))))
theorem D48:aPP 137 (A21 B9Z C3b C7M):=pcD true G78 (hl1 (i:=0) (by kernel_rfl) D18) D3D
noncomputable def S79:Tab:=Tab.add S78 137 (lift (A21 B9Z C3b C7M))
noncomputable def D7K:FuncId→Bool:=qadd D7J 137
theorem G79:aPG S79 D7K:=G78.addQ D48 (cbl Try.f137) (fun _=>rfl)

abbrev B90:List PSh:=[.agg [(.int .i64),(.int .i64),tq4],.agg [(.int .i64),(.int .i64),tq4]]
noncomputable def C73 (a0 a1:Int) (a2:Lq2) (a3 a4:Int) (a5:Lq2):Bool:=(cond (a0 != a3) false (cond (a1 != a4) false (cond (!(C5s a2 a5)) false true)))
noncomputable abbrev B3P (r:Bool):AV×List AObj:=((.t true .bool r),[])
noncomputable abbrev C7N:H7 B90→AV×List AObj:=fun d=>B3P (C73 d.1.1 d.1.2.1 d.1.2.2.1 d.2.1.1 d.2.1.2.1 d.2.1.2.2.1)
noncomputable def B52 (a0 a1:Int) (a2:Lq2) (a3 a4:Int) (a5:Lq2):Bool:=okL a2
noncomputable abbrev C3c:H7 B90→Bool:=fun d=>B52 d.1.1 d.1.2.1 d.1.2.2.1 d.2.1.1 d.2.1.2.1 d.2.1.2.2.1
theorem D3E:A7B true G79 aLn Try.f112 B90 C3c C7N:=by
 rintro ⟨⟨a0,⟨a1,⟨a2,_⟩⟩⟩,⟨⟨a3,⟨a4,⟨a5,_⟩⟩⟩,_⟩⟩ hp
 change B52 a0 a1 a2 a3 a4 a5=true at hp
 unfold B52 at hp
 refine Eq.trans (b:=(cond (a0 != a3) (some (B3P false)) (cond (a1 != a4) (some (B3P false)) (cond (C05 a2 a5) (cond (!(C5s a2 a5)) (some (B3P false)) (some (B3P true))) none)))) (by kernel_rfl) ?_
 exact (P9 B3P (fun _h=>rfl) (fun _h=>(P9 B3P (fun _h=>rfl) (fun _h=>(A7E (by first | rfl | decide | exact hp | (simp only [Bool.and_eq_true] at hp;simp only [hp];done) | (simp [*];done) | (simp [okL] at hp;simp [okL,MAXB];omega) | (simp_all;done) | (simp at *;omega)) (fun _h=>(P9 B3P (fun _h=>rfl) (fun _h=>rfl))))))))
theorem D49:aPP 112 (A21 B90 C3c C7N):=pcD true G79 hlz D3E
noncomputable def S80:Tab:=Tab.add S79 112 (lift (A21 B90 C3c C7N))
noncomputable def D7L:FuncId→Bool:=qadd D7K 112
theorem G80:aPG S80 D7L:=G79.addQ D49 (cbl Try.f112) (fun _=>rfl)

abbrev B7i:List PSh:=[.t tq3,.t tq3]
abbrev A9I:SS:=⟨(.t false tq3::.t false tq3::.junk::.junk::.junk::tI::C6N),[]⟩
abbrev C12:SS:=⟨(.junk::.junk::.junk::.junk::.t true .bool::D0o),[]⟩
abbrev C13:SS:=⟨(.junk::D11),[]⟩
noncomputable def C40 (x0 x1:Lq1) (x5:Int):RT A9I.den:=let z1:=x0.getD x5.toNat ((0:Int),((0:Int),[]));let z2:=x1.getD x5.toNat ((0:Int),((0:Int),[]));(.br (decide (x5<(x0.length:Int))) (.br (decide (0≤x5∧x5<(x0.length:Int))) (.br (decide (0≤x5∧x5<(x1.length:Int))) (.br (B52 (z1.1) ((z1.2).1) ((z1.2).2) (z2.1) ((z2.2).1) ((z2.2).2)) (.br (!(C73 (z1.1) ((z1.2).1) ((z1.2).2) (z2.1) ((z2.2).1) ((z2.2).2))) (.done .ret C12 (((),(),(),(),false,u23),())) (.next ((x0,x1,(),(),(),wI (x5+(1:Int)),u22),()))) .fail) .fail) .fail) (.done (.exit 0) C13 ((u28),())))
abbrev B6j:=(Lq1)×Lq1×(Int)
abbrev A9D:=Nat×(Bool)
def B4N:A9D:=(99,(false:Bool))
noncomputable def B4V (x0 x1:Lq1) (x5:Int):B6j ⊕ A9D:=let z1:=x0.getD x5.toNat ((0:Int),((0:Int),[]));let z2:=x1.getD x5.toNat ((0:Int),((0:Int),[]));(cond (decide (x5<(x0.length:Int))) (cond (decide (0≤x5∧x5<(x0.length:Int))) (cond (decide (0≤x5∧x5<(x1.length:Int))) (cond (B52 (z1.1) ((z1.2).1) ((z1.2).2) (z2.1) ((z2.2).1) ((z2.2).2)) (cond (!(C73 (z1.1) ((z1.2).1) ((z1.2).2) (z2.1) ((z2.2).1) ((z2.2).2))) (.inr (0,false)) (.inl (x0,x1,wI (x5+(1:Int))))) (.inr B4N)) (.inr B4N)) (.inr B4N)) (.inr (1,(false:Bool))))
noncomputable def B2m (x0 x1:Lq1) (x5:Int):A9D:=itX (fun v:B6j=>B4V v.1 v.2.1 v.2.2) B4N (x0,x1,x5)
noncomputable def B8e (a:A9D):CT:=(.br (a.1==0) (.done .ret C12 (((),(),(),(),a.2,u23),())) (.br (a.1==1) (.done (.exit 0) C13 ((u28),())) .fail))
noncomputable def D1q (x0 x1:Lq1) (x5:Int):CT:=B8e (B2m x0 x1 x5)
noncomputable abbrev B83:A9I.den→RT A9I.den:=(fun d=>C40 d.1.1 d.1.2.1 d.1.2.2.2.2.2.1)
noncomputable def C0f:Code:=((D4 0 (A1l Try.f71)).getD 0 (0,.skip)).2
noncomputable abbrev C4s (v:B6j):A9I.den:=((v.1,v.2.1,(),(),(),v.2.2,u22),())
theorem D0T:(∀ v:B6j,(C40 v.1 v.2.1 v.2.2).val=A6D C4s B8e (B4V v.1 v.2.1 v.2.2))∧∀ a:A9D,CEnd A9I.den (B8e a):=⟨fun v=>(A7G (A7G (A7G (A7G (A7G rfl rfl) rfl) rfl) rfl) rfl),fun a=>(A7t aCD (A7t aCD A7v))⟩
theorem C9b:RdA G80 aLn 0 C0f A9I 0 [] (kepts [4] [(0,[])]) (fun d=>(B83 d).opt 0 []):=by
 intro d
 kernel_rfl
noncomputable abbrev C2D:St→Option Tree:=A9I.say 0 [] [] (fun d=>D1q d.1.1 d.1.2.1 d.1.2.2.2.2.2.1)
theorem D0s:aPL C2D C0f:=SS.wp2 hlz [] B83 C9b (fun d=>rfl) _ (fun d=>Runs.ofI2 (step:=B83) C4s D0T rfl (d.1.1,d.1.2.1,d.1.2.2.2.2.2.1))
noncomputable def B6A (a0 a1:Lq1):Bool:=let z1:=B2m a0 a1 (0:Int);(cond ((a0.length:Int) != (a1.length:Int)) false (cond (z1.1==0) (z1.2) true))
noncomputable abbrev B41 (r:Bool):AV×List AObj:=((.t true .bool r),[])
noncomputable abbrev C5i:H7 B7i→AV×List AObj:=fun d=>B41 (B6A d.1 d.2.1)
noncomputable def B0w (a0 a1:Lq1):Bool:=let z1:=B2m a0 a1 (0:Int);cond ((a0.length:Int) != (a1.length:Int)) true (cond (z1.1==0) true (z1.1==1))
noncomputable abbrev C0O:H7 B7i→Bool:=fun d=>B0w d.1 d.2.1
noncomputable abbrev D31:Nat→St→Option Tree:=fun b=>match b with | 0=>C2D | _=>fun _=>none
theorem D2w:A7B true G80 (D31) Try.f71 B7i C0O C5i:=by
 rintro ⟨a0,⟨a1,_⟩⟩ hp
 change B0w a0 a1=true at hp
 unfold B0w at hp
 refine Eq.trans (b:=(let z1:=B2m a0 a1 (0:Int);cond ((a0.length:Int) != (a1.length:Int)) (some (B41 false)) (cond (z1.1==0) (some (B41 (z1.2))) (cond (z1.1==1) (some (B41 true)) none)))) (by kernel_rfl) ?_
 exact (M2 B41 hp (fun hp=>rfl) (fun hp=>(M2 B41 hp (fun hp=>rfl) (fun hp=>(A7E hp fun _h=>rfl)))))
theorem D4g:aPP 71 (A21 B7i C0O C5i):=pcD true G80 (hl1 (i:=0) (by kernel_rfl) D0s) D2w
noncomputable def S81:Tab:=Tab.add S80 71 (lift (A21 B7i C0O C5i))
noncomputable def D7M:FuncId→Bool:=qadd D7L 71
theorem G81:aPG S81 D7M:=G80.addQ D4g (cbl Try.f71) (fun _=>rfl)

abbrev B7h:List PSh:=[.agg [.str,.str],.agg [.str,.str]]
noncomputable def C4f (a0 a1 a2 a3:ByteArray):Bool:=(cond (!(a0.toList==a2.toList)) false (cond (!(a1.toList==a3.toList)) false true))
noncomputable abbrev B40 (r:Bool):AV×List AObj:=((.t true .bool r),[])
noncomputable abbrev C5h:H7 B7h→AV×List AObj:=fun d=>B40 (C4f d.1.1 d.1.2.1 d.2.1.1 d.2.1.2.1)
noncomputable abbrev C0N:H7 B7h→Bool:=fun d=>true
theorem D2v:A7B true G81 aLn Try.f113 B7h C0N C5h:=by
 rintro ⟨⟨a0,⟨a1,_⟩⟩,⟨⟨a2,⟨a3,_⟩⟩,_⟩⟩ hp
 refine Eq.trans (b:=(cond (!(a0.toList==a2.toList)) (some (B40 false)) (cond (!(a1.toList==a3.toList)) (some (B40 false)) (some (B40 true))))) (by kernel_rfl) ?_
 exact (P9 B40 (fun _h=>rfl) (fun _h=>(P9 B40 (fun _h=>rfl) (fun _h=>rfl))))
theorem D4f:aPP 113 (A21 B7h C0N C5h):=pcD true G81 hlz D2v
noncomputable def S82:Tab:=Tab.add S81 113 (lift (A21 B7h C0N C5h))
noncomputable def D7N:FuncId→Bool:=qadd D7M 113
theorem G82:aPG S82 D7N:=G81.addQ D4f (cbl Try.f113) (fun _=>rfl)


noncomputable def A8U (x0 x1:LBBe) (i:Nat):Bool:=!(!(C4f ((x0.getD i (bE,bE)).1) ((x0.getD i (bE,bE)).2) ((x1.getD i (bE,bE)).1) ((x1.getD i (bE,bE)).2)))
abbrev B5f:List PSh:=[.t tq6,.t tq6]
abbrev A8R:SS:=⟨(.t false tq6::.t false tq6::.junk::.junk::.junk::tI::C6N),[]⟩
abbrev B9Q:SS:=⟨(.junk::.junk::.junk::.junk::.t true .bool::D0o),[]⟩
abbrev B9R:SS:=⟨(.junk::D11),[]⟩
noncomputable def B60 (x0 x1:LBBe) (x5:Int):RT A8R.den:=let z1:=x0.getD x5.toNat (bE,bE);let z2:=x1.getD x5.toNat (bE,bE);(.br (decide (x5<(x0.length:Int))) (.br (decide (0≤x5∧x5<(x0.length:Int))) (.br (decide (0≤x5∧x5<(x1.length:Int))) (.br (!(C4f (z1.1) (z1.2) (z2.1) (z2.2))) (.done .ret B9Q (((),(),(),(),false,u23),())) (.next ((x0,x1,(),(),(),wI (x5+(1:Int)),u22),()))) .fail) .fail) (.done (.exit 0) B9R ((u28),())))
noncomputable def B16 (x0 x1:LBBe) (x5:Int):CT:=(.br (decide (0≤x5)&&(decide (x0.length=x1.length)&&okL x0)) (.br (A4G (A8U x0 x1) (x0.length - x5.toNat) x5.toNat) (.done (.exit 0) B9R ((u28),())) (.done .ret B9Q (((),(),(),(),false,u23),()))) .fail)
noncomputable abbrev B01:A8R.den→RT A8R.den:=(fun d=>B60 d.1.1 d.1.2.1 d.1.2.2.2.2.2.1)
noncomputable abbrev C2u (x0 x1:LBBe) (x5:Int):A8R.den:=((x0,x1,(),(),(),x5,u22),())
noncomputable def B9l:Code:=((D4 0 (A1l Try.f72)).getD 0 (0,.skip)).2
theorem C9Q (x0 x1:LBBe) (x5:Int):(B16 x0 x1 x5).val (D:=A8R.den)=.fail∨Runs B01 (C2u x0 x1 x5) (B16 x0 x1 x5).val:=by
 cases hc:(decide (0≤x5)&&(decide (x0.length=x1.length)&&okL x0)) with
 | false=>left;simp only [B16,CT.val,hc,cond_false]
 | true =>
  right
  simp only [B16,CT.val,hc,cond_true]
  simp only [Bool.and_eq_true,decide_eq_true_eq] at hc
  obtain ⟨i,rfl⟩:=Int.eq_ofNat_of_zero_le hc.1
  have hs:=A7p hc.2.2
  simp only [Int.toNat_natCast]
  refine Runs.scan (fun j=>C2u x0 x1 (j:Int)) (x0.length) (A8U x0 x1) (fun i hi=>?_) (fun i hi=>?_) ⟨_,_,_,rfl,by simp⟩ ⟨_,_,_,rfl,by simp⟩ _ _ rfl
  ·
   have h0a:decide ((i:Int)<(x0.length:Int))=true:=decide_eq_true (by omega)
   have h0b:decide (0≤(i:Int)∧(i:Int)<(x0.length:Int))=true:=decide_eq_true (by omega)
   simp only [B01,B60,RT.val,h0a,h0b,cond_true,A7x i (by omega),Int.toNat_natCast]
   have h9:decide (0≤(i:Int)∧(i:Int)<(x1.length:Int))=true:=decide_eq_true (by omega)
   simp only [h9,cond_true]
   simp only [A8U]
   generalize (!(C4f ((x0.getD i ((⟨#[]⟩:ByteArray),(⟨#[]⟩:ByteArray))).1) ((x0.getD i ((⟨#[]⟩:ByteArray),(⟨#[]⟩:ByteArray))).2) ((x1.getD i ((⟨#[]⟩:ByteArray),(⟨#[]⟩:ByteArray))).1) ((x1.getD i ((⟨#[]⟩:ByteArray),(⟨#[]⟩:ByteArray))).2)))=c
   cases c<;>rfl
  ·have h1:decide ((i:Int)<(x0.length:Int))=false:=decide_eq_false (by omega)
   simp only [B01,B60,RT.val,h1,cond_false]
theorem C8j:RdA G82 aLn 0 B9l A8R 0 [] (kepts [4] [(0,[])]) (fun d=>(B01 d).opt 0 []):=by
 intro d
 kernel_rfl
noncomputable abbrev C1e:St→Option Tree:=A8R.say 0 [] [] (fun d=>B16 d.1.1 d.1.2.1 d.1.2.2.2.2.2.1)
theorem C84:aPL C1e B9l:=SS.wp2 hlz [] B01 C8j (fun d=>rfl) _ (fun d=>C9Q d.1.1 d.1.2.1 d.1.2.2.2.2.2.1)
noncomputable def B7F (a0 a1:LBBe):Bool:=(cond ((a0.length:Int) != (a1.length:Int)) false (cond (A4G (A8U a0 a1) (a0.length - (0:Int).toNat) (0:Int).toNat) true false))
noncomputable abbrev B3b (r:Bool):AV×List AObj:=((.t true .bool r),[])
noncomputable abbrev C2U:H7 B5f→AV×List AObj:=fun d=>B3b (B7F d.1 d.2.1)
noncomputable def B3h (a0 a1:LBBe):Bool:=okL a0
noncomputable abbrev B8N:H7 B5f→Bool:=fun d=>B3h d.1 d.2.1
noncomputable abbrev D2M:Nat→St→Option Tree:=fun b=>match b with | 0=>C1e | _=>fun _=>none
theorem D03:A7B true G82 (D2M) Try.f72 B5f B8N C2U:=by
 rintro ⟨a0,⟨a1,_⟩⟩ hp
 change B3h a0 a1=true at hp
 unfold B3h at hp
 refine Eq.trans (b:=(cond ((a0.length:Int) != (a1.length:Int)) (some (B3b false)) (cond (decide (0≤(0:Int))&&(decide (a0.length=a1.length)&&okL a0)) (cond (A4G (A8U a0 a1) (a0.length - (0:Int).toNat) (0:Int).toNat) (some (B3b true)) (some (B3b false))) none))) (by kernel_rfl) ?_
 exact (P9 B3b (fun _h=>rfl) (fun _h=>(A7E (by simp only [okL,Bool.and_eq_true,decide_eq_true_eq] at hp ⊢;simp at _h;exact ⟨Int.le_refl 0,by omega,hp⟩) (fun _h=>(P9 B3b (fun _h=>rfl) (fun _h=>rfl))))))
theorem D29:aPP 72 (A21 B5f B8N C2U):=pcD true G82 (hl1 (i:=0) (by kernel_rfl) C84) D03
noncomputable def S83:Tab:=Tab.add S82 72 (lift (A21 B5f B8N C2U))
noncomputable def D7O:FuncId→Bool:=qadd D7N 72
theorem G83:aPG S83 D7O:=G82.addQ D29 (cbl Try.f72) (fun _=>rfl)


end Go.Proofs.Ytgglehejlddghaa.Eng
