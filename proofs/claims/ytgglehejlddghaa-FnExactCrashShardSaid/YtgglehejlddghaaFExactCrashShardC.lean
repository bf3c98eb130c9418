/- What the functions that FnExactCrashShard reaches compute: further. -/
import Derived.Test.YtgglehejlddghaaFExactCrashShardB
namespace Go.Proofs.Ytgglehejlddghaa.Eng
open Go Go.RowKit
set_option linter.unusedSimpArgs false
set_option linter.unusedVariables false
set_option maxRecDepth 10000
abbrev B7J:List PSh:=[.t tq3,.t tq3]
abbrev A9V:SS:=⟨(.t false tq3::.t false tq3::.junk::.junk::.junk::tI::C7i),[]⟩
abbrev C2x:SS:=⟨(.junk::.junk::.junk::.junk::.t true .bool::D02),[]⟩
abbrev C2y:SS:=⟨(.junk::D2D),[]⟩
noncomputable def C5u (x0 x1:Lq1) (x5:Int):RT A9V.den:=let z1:=x0.getD x5.toNat ((0:Int),((0:Int),[]));let z2:=x1.getD x5.toNat ((0:Int),((0:Int),[]));(.br (decide (x5<(x0.length:Int))) (.br (decide (0≤x5∧x5<(x0.length:Int))) (.br (decide (0≤x5∧x5<(x1.length:Int))) (.br (B6p (z1.1) ((z1.2).1) ((z1.2).2) (z2.1) ((z2.2).1) ((z2.2).2)) (.br (!(C8C (z1.1) ((z1.2).1) ((z1.2).2) (z2.1) ((z2.2).1) ((z2.2).2))) (.done .ret C2x (((),(),(),(),false,u23),())) (.next ((x0,x1,(),(),(),wI (x5+(1:Int)),u22),()))) .fail) .fail) .fail) (.done (.exit 0) C2y ((u28),())))
abbrev B6J:=(Lq1)×Lq1×(Int)
abbrev A9Q:=Nat×(Bool)
def B48:A9Q:=(99,(false:Bool))
noncomputable def B5h (x0 x1:Lq1) (x5:Int):B6J ⊕ A9Q:=let z1:=x0.getD x5.toNat ((0:Int),((0:Int),[]));let z2:=x1.getD x5.toNat ((0:Int),((0:Int),[]));(cond (decide (x5<(x0.length:Int))) (cond (decide (0≤x5∧x5<(x0.length:Int))) (cond (decide (0≤x5∧x5<(x1.length:Int))) (cond (B6p (z1.1) ((z1.2).1) ((z1.2).2) (z2.1) ((z2.2).1) ((z2.2).2)) (cond (!(C8C (z1.1) ((z1.2).1) ((z1.2).2) (z2.1) ((z2.2).1) ((z2.2).2))) (.inr (0,false)) (.inl (x0,x1,wI (x5+(1:Int))))) (.inr B48)) (.inr B48)) (.inr B48)) (.inr (1,(false:Bool))))
noncomputable def B2G (x0 x1:Lq1) (x5:Int):A9Q:=itX (fun v:B6J=>B5h v.1 v.2.1 v.2.2) B48 (x0,x1,x5)
noncomputable def B8F (a:A9Q):CT:=(.br (a.1==0) (.done .ret C2x (((),(),(),(),a.2,u23),())) (.br (a.1==1) (.done (.exit 0) C2y ((u28),())) .fail))
noncomputable def D15 (x0 x1:Lq1) (x5:Int):CT:=B8F (B2G x0 x1 x5)
noncomputable abbrev B9x:A9V.den→RT A9V.den:=(fun d=>C5u d.1.1 d.1.2.1 d.1.2.2.2.2.2.1)
noncomputable def C0J:Code:=((D4 0 (A1l Try.f71)).getD 0 (0,.skip)).2
noncomputable abbrev C4U (v:B6J):A9V.den:=((v.1,v.2.1,(),(),(),v.2.2,u22),())
theorem D1y:(∀ v:B6J,(C5u v.1 v.2.1 v.2.2).val=A6D C4U B8F (B5h v.1 v.2.1 v.2.2))∧∀ a:A9Q,CEnd A9V.den (B8F a):=⟨fun v=>(A7H (A7H (A7H (A7H (A7H rfl rfl) rfl) rfl) rfl) rfl),fun a=>(A7u aCD (A7u aCD A7w))⟩
theorem C9O:RdA G82 aLn 0 C0J A9V 0 [] (kepts [4] [(0,[])]) (fun d=>(B9x d).opt 0 []):=by
 intro d
 kernel_rfl
noncomputable abbrev C28:St→Option Tree:=A9V.say 0 [] [] (fun d=>D15 d.1.1 d.1.2.1 d.1.2.2.2.2.2.1)
theorem D06:aPL C28 C0J:=SS.wp2 hlz [] B9x C9O (fun d=>rfl) _ (fun d=>Runs.ofI2 (step:=B9x) C4U D1y rfl (d.1.1,d.1.2.1,d.1.2.2.2.2.2.1))
noncomputable def B6Z (a0 a1:Lq1):Bool:=let z1:=B2G a0 a1 (0:Int);(cond ((a0.length:Int) != (a1.length:Int)) false (cond (z1.1==0) (z1.2) true))
noncomputable abbrev B5n (r:Bool):AV×List AObj:=((.t true .bool r),[])
noncomputable abbrev C5M:H7 B7J→AV×List AObj:=fun d=>B5n (B6Z d.1 d.2.1)
noncomputable def B0K (a0 a1:Lq1):Bool:=let z1:=B2G a0 a1 (0:Int);cond ((a0.length:Int) != (a1.length:Int)) true (cond (z1.1==0) true (z1.1==1))
noncomputable abbrev C1n:H7 B7J→Bool:=fun d=>B0K d.1 d.2.1
noncomputable abbrev D4G:Nat→St→Option Tree:=fun b=>match b with | 0=>C28 | _=>fun _=>none
theorem D29:A7C true G82 (D4G) Try.f71 B7J C1n C5M:=by
 rintro ⟨a0,⟨a1,_⟩⟩ hp
 change B0K a0 a1=true at hp
 unfold B0K at hp
 refine Eq.trans (b:=(let z1:=B2G a0 a1 (0:Int);cond ((a0.length:Int) != (a1.length:Int)) (some (B5n false)) (cond (z1.1==0) (some (B5n (z1.2))) (cond (z1.1==1) (some (B5n true)) none)))) (by kernel_rfl) ?_
 exact (L8 B5n hp (fun hp=>rfl) (fun hp=>(L8 B5n hp (fun hp=>rfl) (fun hp=>(A7F hp fun _h=>rfl)))))
theorem D4V:aPP 71 (A22 B7J C1n C5M):=pcD true G82 (hl1 (i:=0) (by kernel_rfl) D06) D29
noncomputable def S83:Tab:=Tab.add S82 71 (lift (A22 B7J C1n C5M))
noncomputable def D8H:FuncId→Bool:=qadd D8G 71
theorem G83:aPG S83 D8H:=G82.addQ D4V (cbl Try.f71) (fun _=>rfl)

abbrev B7I:List PSh:=[.agg [.str,.str],.agg [.str,.str]]
noncomputable def C2n (a0 a1 a2 a3:ByteArray):Bool:=(cond (!(a0.toList==a2.toList)) false (cond (!(a1.toList==a3.toList)) false true))
noncomputable abbrev B5m (r:Bool):AV×List AObj:=((.t true .bool r),[])
noncomputable abbrev C5L:H7 B7I→AV×List AObj:=fun d=>B5m (C2n d.1.1 d.1.2.1 d.2.1.1 d.2.1.2.1)
noncomputable abbrev C1m:H7 B7I→Bool:=fun d=>true
theorem D28:A7C true G83 aLn Try.f113 B7I C1m C5L:=by
 rintro ⟨⟨a0,⟨a1,_⟩⟩,⟨⟨a2,⟨a3,_⟩⟩,_⟩⟩ hp
 refine Eq.trans (b:=(cond (!(a0.toList==a2.toList)) (some (B5m false)) (cond (!(a1.toList==a3.toList)) (some (B5m false)) (some (B5m true))))) (by kernel_rfl) ?_
 exact (Q2 B5m (fun _h=>rfl) (fun _h=>(Q2 B5m (fun _h=>rfl) (fun _h=>rfl))))
theorem D4U:aPP 113 (A22 B7I C1m C5L):=pcD true G83 hlz D28
noncomputable def S84:Tab:=Tab.add S83 113 (lift (A22 B7I C1m C5L))
noncomputable def D8I:FuncId→Bool:=qadd D8H 113
theorem G84:aPG S84 D8I:=G83.addQ D4U (cbl Try.f113) (fun _=>rfl)


noncomputable def A0m (x0 x1:LBBe) (i:Nat):Bool:=!(!(C2n ((x0.getD i (bE,bE)).1) ((x0.getD i (bE,bE)).2) ((x1.getD i (bE,bE)).1) ((x1.getD i (bE,bE)).2)))
abbrev B5B:List PSh:=[.t tq6,.t tq6]
abbrev A87:SS:=⟨(.t false tq6::.t false tq6::.junk::.junk::.junk::tI::C7i),[]⟩
abbrev C0k:SS:=⟨(.junk::.junk::.junk::.junk::.t true .bool::D02),[]⟩
abbrev C0l:SS:=⟨(.junk::D2D),[]⟩
noncomputable def B7q (x0 x1:LBBe) (x5:Int):RT A87.den:=let z1:=x0.getD x5.toNat (bE,bE);let z2:=x1.getD x5.toNat (bE,bE);(.br (decide (x5<(x0.length:Int))) (.br (decide (0≤x5∧x5<(x0.length:Int))) (.br (decide (0≤x5∧x5<(x1.length:Int))) (.br (!(C2n (z1.1) (z1.2) (z2.1) (z2.2))) (.done .ret C0k (((),(),(),(),false,u23),())) (.next ((x0,x1,(),(),(),wI (x5+(1:Int)),u22),()))) .fail) .fail) (.done (.exit 0) C0l ((u28),())))
noncomputable def B2q (x0 x1:LBBe) (x5:Int):CT:=(.br (decide (0≤x5)&&(decide (x0.length=x1.length)&&okL x0)) (.br (A4H (A0m x0 x1) (x0.length - x5.toNat) x5.toNat) (.done (.exit 0) C0l ((u28),())) (.done .ret C0k (((),(),(),(),false,u23),()))) .fail)
noncomputable abbrev B1i:A87.den→RT A87.den:=(fun d=>B7q d.1.1 d.1.2.1 d.1.2.2.2.2.2.1)
noncomputable abbrev C2Z (x0 x1:LBBe) (x5:Int):A87.den:=((x0,x1,(),(),(),x5,u22),())
noncomputable def B9O:Code:=((D4 0 (A1l Try.f72)).getD 0 (0,.skip)).2
theorem D0v (x0 x1:LBBe) (x5:Int):(B2q x0 x1 x5).val (D:=A87.den)=.fail∨Runs B1i (C2Z x0 x1 x5) (B2q x0 x1 x5).val:=by
 cases hc:(decide (0≤x5)&&(decide (x0.length=x1.length)&&okL x0)) with
 | false=>left;simp only [B2q,CT.val,hc,cond_false]
 | true =>
  right
  simp only [B2q,CT.val,hc,cond_true]
  simp only [Bool.and_eq_true,decide_eq_true_eq] at hc
  obtain ⟨i,rfl⟩:=Int.eq_ofNat_of_zero_le hc.1
  have hs:=A7q hc.2.2
  simp only [Int.toNat_natCast]
  refine Runs.scan (fun j=>C2Z x0 x1 (j:Int)) (x0.length) (A0m x0 x1) (fun i hi=>?_) (fun i hi=>?_) ⟨_,_,_,rfl,by simp⟩ ⟨_,_,_,rfl,by simp⟩ _ _ rfl
  ·
   have h0a:decide ((i:Int)<(x0.length:Int))=true:=decide_eq_true (by omega)
   have h0b:decide (0≤(i:Int)∧(i:Int)<(x0.length:Int))=true:=decide_eq_true (by omega)
   simp only [B1i,B7q,RT.val,h0a,h0b,cond_true,A7y i (by omega),Int.toNat_natCast]
   have h9:decide (0≤(i:Int)∧(i:Int)<(x1.length:Int))=true:=decide_eq_true (by omega)
   simp only [h9,cond_true]
   simp only [A0m]
   generalize (!(C2n ((x0.getD i ((⟨#[]⟩:ByteArray),(⟨#[]⟩:ByteArray))).1) ((x0.getD i ((⟨#[]⟩:ByteArray),(⟨#[]⟩:ByteArray))).2) ((x1.getD i ((⟨#[]⟩:ByteArray),(⟨#[]⟩:ByteArray))).1) ((x1.getD i ((⟨#[]⟩:ByteArray),(⟨#[]⟩:ByteArray))).2)))=c
   cases c<;>rfl
  ·have h1:decide ((i:Int)<(x0.length:Int))=false:=decide_eq_false (by omega)
   simp only [B1i,B7q,RT.val,h1,cond_false]
theorem C8T:RdA G84 aLn 0 B9O A87 0 [] (kepts [4] [(0,[])]) (fun d=>(B1i d).opt 0 []):=by
 intro d
 kernel_rfl
noncomputable abbrev C1L:St→Option Tree:=A87.say 0 [] [] (fun d=>B2q d.1.1 d.1.2.1 d.1.2.2.2.2.2.1)
theorem C9H:aPL C1L B9O:=SS.wp2 hlz [] B1i C8T (fun d=>rfl) _ (fun d=>D0v d.1.1 d.1.2.1 d.1.2.2.2.2.2.1)
noncomputable def B4h (a0 a1:LBBe):Bool:=(cond ((a0.length:Int) != (a1.length:Int)) false (cond (A4H (A0m a0 a1) (a0.length - (0:Int).toNat) (0:Int).toNat) true false))
noncomputable abbrev B3u (r:Bool):AV×List AObj:=((.t true .bool r),[])
noncomputable abbrev C3n:H7 B5B→AV×List AObj:=fun d=>B3u (B4h d.1 d.2.1)
noncomputable def B1J (a0 a1:LBBe):Bool:=okL a0
noncomputable abbrev B9f:H7 B5B→Bool:=fun d=>B1J d.1 d.2.1
noncomputable abbrev D3q:Nat→St→Option Tree:=fun b=>match b with | 0=>C1L | _=>fun _=>none
theorem D1I:A7C true G84 (D3q) Try.f72 B5B B9f C3n:=by
 rintro ⟨a0,⟨a1,_⟩⟩ hp
 change B1J a0 a1=true at hp
 unfold B1J at hp
 refine Eq.trans (b:=(cond ((a0.length:Int) != (a1.length:Int)) (some (B3u false)) (cond (decide (0≤(0:Int))&&(decide (a0.length=a1.length)&&okL a0)) (cond (A4H (A0m a0 a1) (a0.length - (0:Int).toNat) (0:Int).toNat) (some (B3u true)) (some (B3u false))) none))) (by kernel_rfl) ?_
 exact (Q2 B3u (fun _h=>rfl) (fun _h=>(A7F (by simp only [okL,Bool.and_eq_true,decide_eq_true_eq] at hp ⊢;simp at _h;exact ⟨Int.le_refl 0,by omega,hp⟩) (fun _h=>(Q2 B3u (fun _h=>rfl) (fun _h=>rfl))))))
theorem D3N:aPP 72 (A22 B5B B9f C3n):=pcD true G84 (hl1 (i:=0) (by kernel_rfl) C9H) D1I
noncomputable def S85:Tab:=Tab.add S84 72 (lift (A22 B5B B9f C3n))
noncomputable def D8J:FuncId→Bool:=qadd D8I 72
theorem G85:aPG S85 D8J:=G84.addQ D3N (cbl Try.f72) (fun _=>rfl)

abbrev B5C:List PSh:=[.agg [(.int .i64),tq3,(.int .i64),tq6,tq3],.agg [(.int .i64),tq3,(.int .i64),tq6,tq3]]
noncomputable def B6d (a0:Int) (a1:Lq1) (a2:Int) (a3:LBBe) (a4:Lq1) (a5:Int) (a6:Lq1) (a7:Int) (a8:LBBe) (a9:Lq1):Bool:=(cond (a0 != a5) false (cond (!(B6Z a1 a6)) false (cond (a2 != a7) false (cond (!(B4h a3 a8)) false (cond (!(B6Z a4 a9)) false true)))))
noncomputable abbrev A0d (r:Bool):AV×List AObj:=((.t true .bool r),[])
noncomputable abbrev C3o:H7 B5C→AV×List AObj:=fun d=>A0d (B6d d.1.1 d.1.2.1 d.1.2.2.1 d.1.2.2.2.1 d.1.2.2.2.2.1 d.2.1.1 d.2.1.2.1 d.2.1.2.2.1 d.2.1.2.2.2.1 d.2.1.2.2.2.2.1)
noncomputable def A70 (a0:Int) (a1:Lq1) (a2:Int) (a3:LBBe) (a4:Lq1) (a5:Int) (a6:Lq1) (a7:Int) (a8:LBBe) (a9:Lq1):Bool:=cond (a0 != a5) true ((B0K a1 a6)&&(cond (!(B6Z a1 a6)) true (cond (a2 != a7) true ((B1J a3 a8)&&(cond (!(B4h a3 a8)) true (B0K a4 a9))))))
noncomputable abbrev B9g:H7 B5C→Bool:=fun d=>A70 d.1.1 d.1.2.1 d.1.2.2.1 d.1.2.2.2.1 d.1.2.2.2.2.1 d.2.1.1 d.2.1.2.1 d.2.1.2.2.1 d.2.1.2.2.2.1 d.2.1.2.2.2.2.1
theorem D1J:A7C true G85 aLn Try.f33 B5C B9g C3o:=by
 rintro ⟨⟨a0,⟨a1,⟨a2,⟨a3,⟨a4,_⟩⟩⟩⟩⟩,⟨⟨a5,⟨a6,⟨a7,⟨a8,⟨a9,_⟩⟩⟩⟩⟩,_⟩⟩ hp
 change A70 a0 a1 a2 a3 a4 a5 a6 a7 a8 a9=true at hp
 unfold A70 at hp
 refine Eq.trans (b:=(cond (a0 != a5) (some (A0d false)) (cond (B0K a1 a6) (cond (!(B6Z a1 a6)) (some (A0d false)) (cond (a2 != a7) (some (A0d false)) (cond (B1J a3 a8) (cond (!(B4h a3 a8)) (some (A0d false)) (cond (B0K a4 a9) (cond (!(B6Z a4 a9)) (some (A0d false)) (some (A0d true))) none)) none))) none))) (by kernel_rfl) ?_
 exact (L8 A0d hp (fun hp=>rfl) (fun hp=>(A7D hp fun hp=>(L8 A0d hp (fun hp=>rfl) (fun hp=>(L8 A0d hp (fun hp=>rfl) (fun hp=>(A7D hp fun hp=>(L8 A0d hp (fun hp=>rfl) (fun hp=>(A7F hp fun _h=>(Q2 A0d (fun _h=>rfl) (fun _h=>rfl)))))))))))))
theorem D3O:aPP 33 (A22 B5C B9g C3o):=pcD true G85 hlz D1J
noncomputable def S86:Tab:=Tab.add S85 33 (lift (A22 B5C B9g C3o))
noncomputable def D8K:FuncId→Bool:=qadd D8J 33
theorem G86:aPG S86 D8K:=G85.addQ D3O (cbl Try.f33) (fun _=>rfl)

abbrev B31:List PSh:=[.t (.int .i64)]
abbrev A0r:SS:=⟨(tI::.junk::.junk::.t true .str::D6b),[]⟩
abbrev B4x:SS:=⟨(.junk::.junk::.junk::.t true .str::D6b),[]⟩
noncomputable def B28 (x0:Int) (x3:ByteArray):RT A0r.den:=(.br (decide (x0 > (0:Int))) (.br (decide ((((⟨([IntKind.wrap .u8 (wI ((48:Int)+(Int.tmod x0 (10:Int))))].map fun n=>UInt8.ofNat n.toNat).toArray⟩:ByteArray).size+x3.size:Nat):Int)≤IntKind.i64.max)) (.next ((wI (Int.tdiv x0 (10:Int)),(),(),(⟨([IntKind.wrap .u8 (wI ((48:Int)+(Int.tmod x0 (10:Int))))].map fun n=>UInt8.ofNat n.toNat).toArray⟩:ByteArray)++x3,u17),())) .fail) (.done (.exit 0) B4x (((),(),(),x3,u17),())))
noncomputable def B1e (x0:Int) (x3:ByteArray):CT:=(.br (decide (x0≤1000000000000)&&decide (x3.size≤1000)) (.done (.exit 0) B4x (((),(),(),(C5B 13 x0 x3),u17),())) .fail)
noncomputable abbrev Z1:A0r.den→RT A0r.den:=(fun d=>B28 d.1.1 d.1.2.2.2.1)
noncomputable abbrev B0n (x0:Int) (x3:ByteArray):A0r.den:=((x0,(),(),x3,u17),())
noncomputable def B7V:Code:=((D4 0 (A1l Try.f115)).getD 0 (0,.skip)).2
theorem C9t (x0:Int) (x3:ByteArray):(B1e x0 x3).val (D:=A0r.den)=.fail∨Runs Z1 (B0n x0 x3) (B1e x0 x3).val:=by
 cases hc:(decide (x0≤1000000000000)&&decide (x3.size≤1000)) with
 | false=>left;simp only [B1e,CT.val,hc,cond_false]
 | true =>
  right
  simp only [B1e,CT.val,hc,cond_true]
  simp only [Bool.and_eq_true,decide_eq_true_eq] at hc
  have key:∀ (k:Nat) (x:Int) (s:ByteArray),x<10 ^ k→x≤1000000000000→s.size+k≤2000→Runs Z1 (B0n x s) (((.done (.exit 0) B4x (((),(),(),(C5B k x s),u17),())):CT).val (D:=A0r.den)):=by
   intro k
   induction k with
   | zero =>
    intro x s h1 h2 h3
    rw [show (10:Int) ^ 0=1 from rfl] at h1
    have e1:decide (x > (0:Int))=false:=decide_eq_false (by omega)
    refine .done (by simp) ?_
    simp only [Z1,B28,RT.val,e1,cond_false,C5B]
   | succ k ih =>
    intro x s h1 h2 h3
    rw [Int.pow_succ] at h1
    by_cases hx:x > 0
    ·have e1:decide (x > (0:Int))=true:=decide_eq_true hx
     have e2:decide ((((D0M x).size+s.size:Nat):Int)≤IntKind.i64.max)=true:=decide_eq_true (by rw [C5G,show IntKind.i64.max=9223372036854775807 from rfl];omega)
     have e4:Int.tdiv x (10:Int)=x / 10:=Int.tdiv_eq_ediv_of_nonneg (by omega)
     have e5:wI (Int.tdiv x (10:Int))=x / 10:=by rw [e4];exact A6J (by omega) (by omega)
     have:=ih (wI (Int.tdiv x (10:Int))) (D0M x++s) (by rw [e5];omega) (by rw [e5];omega) (by rw [ByteArray.size_append,C5G];omega)
     refine .next (d':=B0n (wI (Int.tdiv x (10:Int))) (D0M x++s)) ?_ ?_
     ·have e6 : (Z1 (B0n x s)).val = cond (decide ((((D0M x).size + s.size : Nat) : Int) ≤ IntKind.i64.max)) (.next (B0n (wI (Int.tdiv x (10 : Int))) (D0M x ++ s))) .fail := by
       simp only [Z1,B28,RT.val,e1,cond_true];rfl
      rw [e6,e2];rfl
     ·have e3:C5B (k+1) x s=C5B k (wI (Int.tdiv x (10:Int))) (D0M x++s):=by simp only [C5B,e1,cond_true]
      rw [e3]
      exact this
    ·have e1:decide (x > (0:Int))=false:=decide_eq_false hx
     refine .done (by simp) ?_
     simp only [Z1,B28,RT.val,e1,cond_false,C5B]
  exact key 13 x0 x3 (by have:=hc.1;rw [show (10:Int) ^ 13=10000000000000 from rfl];omega) hc.1 (by have:=hc.2;omega)
theorem C7s:RdA G86 aLn 0 B7V A0r 0 [] (kepts [] [(0,[3])]) (fun d=>(Z1 d).opt 0 []):=by
 intro d
 kernel_rfl
noncomputable abbrev B97:St→Option Tree:=A0r.say 0 [] [] (fun d=>B1e d.1.1 d.1.2.2.2.1)
theorem C8H:aPL B97 B7V:=SS.wp2 hlz [] Z1 C7s (fun d=>rfl) _ (fun d=>C9t d.1.1 d.1.2.2.2.1)
noncomputable def I9 (a0:Int):ByteArray:=(cond (decide (a0≤(0:Int))) (⟨#[109,48]⟩:ByteArray) ((⟨#[109]⟩:ByteArray)++(C5B 13 a0 bE)))
noncomputable abbrev B6U (r:ByteArray):AV×List AObj:=((.t true .str r),[])
noncomputable abbrev C05:H7 B31→AV×List AObj:=fun d=>B6U (I9 d.1)
noncomputable def I8 (a0:Int):Bool:=decide (a0≤1000000000000)
noncomputable abbrev B7m:H7 B31→Bool:=fun d=>I8 d.1
noncomputable abbrev D11:Nat→St→Option Tree:=fun b=>match b with | 0=>B97 | _=>fun _=>none
theorem C93:A7C true G86 (D11) Try.f115 B31 B7m C05:=by
 rintro ⟨a0,_⟩ hp
 change I8 a0=true at hp
 unfold I8 at hp
 refine Eq.trans (b:=(cond (decide (a0≤(0:Int))) (some (B6U (⟨#[109,48]⟩:ByteArray))) (cond (decide (a0≤1000000000000)&&decide ((⟨#[]⟩:ByteArray).size≤1000)) (cond (decide ((((⟨#[109]⟩:ByteArray).size+(C5B 13 a0 (⟨#[]⟩:ByteArray)).size:Nat):Int)≤IntKind.i64.max)) (some (B6U ((⟨#[109]⟩:ByteArray)++(C5B 13 a0 (⟨#[]⟩:ByteArray))))) none) none))) (by kernel_rfl) ?_
 exact (Q2 B6U (fun _h=>rfl) (fun _h=>(A7F (by rw [hp];rfl) (fun _h=>(A7F (by have h1:=D6w 13 a0 (⟨#[]⟩:ByteArray);rw [decide_eq_true_eq];have h2:((⟨#[]⟩:ByteArray)).size=0:=rfl;have h3:((⟨#[109]⟩:ByteArray)).size=1:=rfl;rw [h2] at h1;rw [h3,show IntKind.i64.max=9223372036854775807 from rfl];omega) (fun _h=>rfl))))))
theorem D2j:aPP 115 (A22 B31 B7m C05):=pcD true G86 (hl1 (i:=0) (by kernel_rfl) C8H) C93
noncomputable def S87:Tab:=Tab.add S86 115 (lift (A22 B31 B7m C05))
noncomputable def D8L:FuncId→Bool:=qadd D8K 115
theorem G87:aPG S87 D8L:=G86.addQ D2j (cbl Try.f115) (fun _=>rfl)

abbrev D9x:List Sh:=.junk::D7q
abbrev u31:=((),u30)
abbrev D9r:List AV:=.junk::D7n

noncomputable def O1 (i:Nat) (b:Int×Lq2):Int×Lq2:=(wI ((wI ((wI (b.1+(1:Int)))+(1:Int)))+(1:Int)),((b.2.set i (b.1,(((b.2.getD i ((0:Int),(bE,bE))).2).1,((b.2.getD i ((0:Int),(bE,bE))).2).2))).set i (((b.2.set i (b.1,(((b.2.getD i ((0:Int),(bE,bE))).2).1,((b.2.getD i ((0:Int),(bE,bE))).2).2))).getD i ((0:Int),(bE,bE))).1,((I9 (wI (b.1+(1:Int)))),(((b.2.set i (b.1,(((b.2.getD i ((0:Int),(bE,bE))).2).1,((b.2.getD i ((0:Int),(bE,bE))).2).2))).getD i ((0:Int),(bE,bE))).2).2))).set i ((((b.2.set i (b.1,(((b.2.getD i ((0:Int),(bE,bE))).2).1,((b.2.getD i ((0:Int),(bE,bE))).2).2))).set i (((b.2.set i (b.1,(((b.2.getD i ((0:Int),(bE,bE))).2).1,((b.2.getD i ((0:Int),(bE,bE))).2).2))).getD i ((0:Int),(bE,bE))).1,((I9 (wI (b.1+(1:Int)))),(((b.2.set i (b.1,(((b.2.getD i ((0:Int),(bE,bE))).2).1,((b.2.getD i ((0:Int),(bE,bE))).2).2))).getD i ((0:Int),(bE,bE))).2).2))).getD i ((0:Int),(bE,bE))).1,(((((b.2.set i (b.1,(((b.2.getD i ((0:Int),(bE,bE))).2).1,((b.2.getD i ((0:Int),(bE,bE))).2).2))).set i (((b.2.set i (b.1,(((b.2.getD i ((0:Int),(bE,bE))).2).1,((b.2.getD i ((0:Int),(bE,bE))).2).2))).getD i ((0:Int),(bE,bE))).1,((I9 (wI (b.1+(1:Int)))),(((b.2.set i (b.1,(((b.2.getD i ((0:Int),(bE,bE))).2).1,((b.2.getD i ((0:Int),(bE,bE))).2).2))).getD i ((0:Int),(bE,bE))).2).2))).getD i ((0:Int),(bE,bE))).2).1,(I9 (wI ((wI (b.1+(1:Int)))+(1:Int)))))))
abbrev B6H:SS:=⟨[.all 0 3,tI],[.rows 85 true tq8]⟩
abbrev A8k:SS:=⟨(.all 0 3::tI::.junk::.junk::.junk::tI::D9x),[.rows 85 true tq8]⟩
abbrev B5t:SS:=⟨(.junk::tI::D6d),[.rows 85 true tq8]⟩
noncomputable def B7s (x1 x5:Int) (h0:Lq2):RT A8k.den:=let z4:=wI (x1+(1:Int));let z3:=wI (z4+(1:Int));let z5:=(h0.getD x5.toNat ((0:Int),(bE,bE))).2;let z2:=h0.set x5.toNat (x1,(z5.1,z5.2));let z7:=z2.getD x5.toNat ((0:Int),(bE,bE));let z1:=z2.set x5.toNat (z7.1,((I9 z4),(z7.2).2));let z6:=z1.getD x5.toNat ((0:Int),(bE,bE));(.br (decide (x5<(h0.length:Int))) (.br (decide (0≤x5∧x5<(h0.length:Int))) (.br (I8 z4) (.br (decide (0≤x5∧x5<((z2.length:Nat):Int))) (.br (I8 z3) (.br (decide (0≤x5∧x5<((z1.length:Nat):Int))) (.next (((),wI (z3+(1:Int)),(),(),(),wI (x5+(1:Int)),u31),(z1.set x5.toNat (z6.1,((z6.2).1,(I9 z3))),()))) .fail) .fail) .fail) .fail) .fail) (.done (.exit 0) B5t (((),x1,u35),(h0,()))))
noncomputable def B2s (x1 x5:Int) (h0:Lq2):CT:=(.br (decide (0≤x5)&&(decide (0≤x1∧x1≤100000*(x5+100))&&okL h0)) (.done (.exit 0) B5t (((),((foldN O1 (h0.length - x5.toNat) x5.toNat (x1,h0)).1),u35),(((foldN O1 (h0.length - x5.toNat) x5.toNat (x1,h0)).2),()))) .fail)
noncomputable abbrev A9B:A8k.den→RT A8k.den:=(fun d=>B7s d.1.2.1 d.1.2.2.2.2.2.1 d.2.1)
noncomputable abbrev C20 (x1 x5:Int) (h0:Lq2):A8k.den:=(((),x1,(),(),(),x5,u31),(h0,()))
noncomputable def B9Q:Code:=((D4 0 (A1l Try.f114)).getD 0 (0,.skip)).2
theorem D0x (x1 x5:Int) (h0:Lq2):(B2s x1 x5 h0).val (D:=A8k.den)=.fail∨Runs A9B (C20 x1 x5 h0) (B2s x1 x5 h0).val:=by
 cases hc:(decide (0≤x5)&&(decide (0≤x1∧x1≤100000*(x5+100))&&okL h0)) with
 | false=>left;simp only [B2s,CT.val,hc,cond_false]
 | true =>
  right
  simp only [B2s,CT.val,hc,cond_true]
  simp only [Bool.and_eq_true,decide_eq_true_eq] at hc
  obtain ⟨i,rfl⟩:=Int.eq_ofNat_of_zero_le hc.1
  have hs:=A7q hc.2.2
  have hk:=hc.2.1
  simp only [Int.toNat_natCast]
  refine Runs.foldN (step:=A9B) (fun j b=>C20 b.1 (j:Int) b.2) (fun i b=>(0≤b.1∧b.1≤100000*((i:Int)+100))∧b.2.length=h0.length) (h0.length) O1
   (fin:=fun b=>((.done (.exit 0) B5t (((),b.1,u35),(b.2,()))):CT).val) (fun i b hi hb=>?_) (fun i b hi hb=>?_) (h0.length - i) i (x1,h0) rfl ⟨hk,rfl⟩
  ·obtain ⟨k,h⟩:=b
   obtain ⟨hb1,hb2⟩:=hb
   simp only at hb1 hb2
   have w1:wI (k+(1:Int))=k+(1:Int):=A6J (by omega) (by omega)
   have w2:wI (k+(1:Int)+(1:Int))=k+(1:Int)+(1:Int):=A6J (by omega) (by omega)
   have w3:wI (k+(1:Int)+(1:Int)+(1:Int))=k+(1:Int)+(1:Int)+(1:Int):=A6J (by omega) (by omega)
   have e0:(decide (0≤(i:Int)∧(i:Int)<(h.length:Int)))=true:=decide_eq_true (by (try simp only [List.length_set]);omega)
   have e1:(I8 (wI (k+(1:Int))))=true:=by simp only [I8,w1,w2,w3];exact decide_eq_true (by omega)
   have e2:(decide (0≤(i:Int)∧(i:Int)<(((h.set i (k,(((h.getD i ((0:Int),((⟨#[]⟩:ByteArray),(⟨#[]⟩:ByteArray)))).2).1,((h.getD i ((0:Int),((⟨#[]⟩:ByteArray),(⟨#[]⟩:ByteArray)))).2).2))).length:Nat):Int)))=true:=decide_eq_true (by (try simp only [List.length_set]);omega)
   have e3:(I8 (wI ((wI (k+(1:Int)))+(1:Int))))=true:=by simp only [I8,w1,w2,w3];exact decide_eq_true (by omega)
   have e4:(decide (0≤(i:Int)∧(i:Int)<((((h.set i (k,(((h.getD i ((0:Int),((⟨#[]⟩:ByteArray),(⟨#[]⟩:ByteArray)))).2).1,((h.getD i ((0:Int),((⟨#[]⟩:ByteArray),(⟨#[]⟩:ByteArray)))).2).2))).set i (((h.set i (k,(((h.getD i ((0:Int),((⟨#[]⟩:ByteArray),(⟨#[]⟩:ByteArray)))).2).1,((h.getD i ((0:Int),((⟨#[]⟩:ByteArray),(⟨#[]⟩:ByteArray)))).2).2))).getD i ((0:Int),((⟨#[]⟩:ByteArray),(⟨#[]⟩:ByteArray)))).1,((I9 (wI (k+(1:Int)))),(((h.set i (k,(((h.getD i ((0:Int),((⟨#[]⟩:ByteArray),(⟨#[]⟩:ByteArray)))).2).1,((h.getD i ((0:Int),((⟨#[]⟩:ByteArray),(⟨#[]⟩:ByteArray)))).2).2))).getD i ((0:Int),((⟨#[]⟩:ByteArray),(⟨#[]⟩:ByteArray)))).2).2))).length:Nat):Int)))=true:=decide_eq_true (by (try simp only [List.length_set]);omega)
   have h1:decide ((i:Int)<(h.length:Int))=true:=decide_eq_true (by omega)
   have v1:(O1 i (k,h)).1=k+(1:Int)+(1:Int)+(1:Int):=by simp only [O1,w1,w2,w3]
   have v2:(O1 i (k,h)).2.length=h.length:=by simp only [O1,List.length_set]
   refine ⟨⟨by rw [v1];omega,by rw [v2];exact hb2⟩,?_⟩
   simp only [A9B,B7s,RT.val,h1,e0,e1,e2,e3,e4,cond_true,A7y i (by omega),Int.toNat_natCast]
   rfl
  ·have h1:decide ((i:Int)<(b.2.length:Int))=false:=decide_eq_false (by omega)
   exact ⟨by simp only [A9B,B7s,RT.val,h1,cond_false];rfl,_,_,_,rfl,by simp⟩
noncomputable def C2Y (x1 x5:Int) (h0:Lq2):Option (Ex×St):=let z4:=wI (x1+(1:Int));let z3:=wI (z4+(1:Int));let z5:=(h0.getD x5.toNat ((0:Int),(bE,bE))).2;let z2:=h0.set x5.toNat (x1,(z5.1,z5.2));let z7:=z2.getD x5.toNat ((0:Int),(bE,bE));let z1:=z2.set x5.toNat (z7.1,((I9 z4),(z7.2).2));let z6:=z1.getD x5.toNat ((0:Int),(bE,bE));(cond (decide (x5<(h0.length:Int))) (cond (decide (0≤x5∧x5<(h0.length:Int))) (cond (I8 z4) (cond (decide (0≤x5∧x5<((z2.length:Nat):Int))) (cond (I8 z3) (cond (decide (0≤x5∧x5<((z1.length:Nat):Int))) (some (.normal,(⟨((.all 0 3)::(ti (wI (z3+(1:Int))))::.junk::.junk::.junk::(ti (wI (x5+(1:Int))))::D9r),[(.rows 85 true tq8 (z1.set x5.toNat (z6.1,((z6.2).1,(I9 z3)))))],1,[]⟩:St))) none) none) none) none) none) (some ((.exit 0),(⟨(.junk::(ti x1)::D59),[(.rows 85 true tq8 h0)],1,[]⟩:St))))
theorem C8V:RdA G87 aLn 0 B9Q A8k 1 [] (kepts [] [(0,[1])]) (fun d=>C2Y d.1.2.1 d.1.2.2.2.2.2.1 d.2.1):=by
 intro d
 kernel_rfl
theorem C8Z:∀ d:A8k.den,(fun d=>C2Y d.1.2.1 d.1.2.2.2.2.2.1 d.2.1) d=(A9B d).opt 1 []:=by
 intro d
 kernel_rfl
noncomputable abbrev C1N:St→Option Tree:=A8k.say 1 [] [] (fun d=>B2s d.1.2.1 d.1.2.2.2.2.2.1 d.2.1)
theorem C9J:aPL C1N B9Q:=SS.wp2 hlz [] A9B C8V C8Z _ (fun d=>D0x d.1.2.1 d.1.2.2.2.2.2.1 d.2.1)
noncomputable def A8r (x1:Int) (h0:Lq2):Int×Lq2:=let z1:=foldN O1 (h0.length - (0:Int).toNat) (0:Int).toNat (x1,h0);((z1.1),(z1.2))
noncomputable abbrev C8a (r:Int×Lq2):AV×List AObj×List Nat:=((ti r.1),[(.rows 85 true tq8 r.2)],[])
noncomputable abbrev C8m:B6H.den→AV×List AObj×List Nat:=fun d=>C8a (A8r d.1.2.1 d.2.1)
noncomputable def B0s (x1:Int) (h0:Lq2):Bool:=okL h0&&decide (0≤x1∧x1≤10000000)
noncomputable abbrev C4R:B6H.den→Bool:=fun d=>B0s d.1.2.1 d.2.1
noncomputable abbrev D3s:Nat→St→Option Tree:=fun b=>match b with | 0=>C1N | _=>fun _=>none
theorem D1L:A7B G87 (D3s) Try.f114 B6H C4R C8m:=by
 rintro ⟨⟨_,x1,_⟩,⟨h0,_⟩⟩ hp
 change B0s x1 h0=true at hp
 unfold B0s at hp
 refine Eq.trans (b:=(let z1:=foldN O1 (h0.length - (0:Int).toNat) (0:Int).toNat (x1,h0);cond (decide (0≤(0:Int))&&(decide (0≤x1∧x1≤100000*((0:Int)+100))&&okL h0)) (some (C8a ((z1.1),(z1.2)))) none)) (by kernel_rfl) ?_
 exact (A7F (by first | rfl | decide | exact hp | (simp only [Bool.and_eq_true] at hp;simp only [hp];done) | (simp [*];done) | (simp [okL] at hp;simp [okL,MAXB];omega) | (simp_all;done) | (simp at *;omega)) (fun _h=>rfl))
noncomputable abbrev C8L:=win E8 (msum B6H C4R C8m)
theorem D3Q:aPM 114 C8L:=(mcM G87 (hl1 (i:=0) (by kernel_rfl) C9J) D1L).win E8
noncomputable def S88:Tab:=Tab.add S87 114 (orLend C8L)
noncomputable def D8M:FuncId→Bool:=D8L
theorem G88:aPG S88 D8M:=G87.addM D3Q.orLend (A6X (A7d _)) (cbl Try.f114) (by kernel_rfl)

abbrev u29:=((),u28)
abbrev B4Z:SS:=⟨[.all 0 3,tI],[.deep 32 [85] tq5]⟩
abbrev A0q:SS:=⟨(.all 0 3::tI::.junk::.junk::.junk::tI::D64),[.deep 32 [85] tq5]⟩
abbrev B9H:SS:=⟨(.junk::tI::D87),[.deep 32 [85] tq5]⟩
noncomputable def C10 (x1 x5:Int) (h0:Lq1):RT A0q.den:=let z4:=wI ((wI (x1+(1:Int)))+(1:Int));let z5:=(h0.getD x5.toNat ((0:Int),((0:Int),[]))).2;let z2:=h0.set x5.toNat (x1,(z5.1,z5.2));let z6:=z2.getD x5.toNat ((0:Int),((0:Int),[]));let z1:=z2.set x5.toNat (z6.1,(wI (x1+(1:Int)),(z6.2).2));let z3:=z1.getD x5.toNat ((0:Int),((0:Int),[]));let z7:=A8r z4 ((z3.2).2);(.br (decide (x5<(h0.length:Int))) (.br (decide (0≤x5∧x5<(h0.length:Int))) (.br (decide (0≤x5∧x5<((z2.length:Nat):Int))) (.br (decide (0≤x5∧x5<((z1.length:Nat):Int))) (.br (B0s z4 ((z3.2).2)) (.next (((),(z7.1),(),(),(),wI (x5+(1:Int)),u29),(z1.set x5.toNat (z3.1,((z3.2).1,(z7.2))),()))) .fail) .fail) .fail) .fail) (.done (.exit 0) B9H (((),x1,u33),(h0,()))))
abbrev B3L:=(Int)×(Int)×(Lq1)
abbrev B02:=Nat×(Int)×(Lq1)
def A98:B02:=(99,((0:Int):Int),([]:Lq1))
noncomputable def B24 (x1 x5:Int) (h0:Lq1):B3L ⊕ B02:=let z4:=wI ((wI (x1+(1:Int)))+(1:Int));let z5:=(h0.getD x5.toNat ((0:Int),((0:Int),[]))).2;let z2:=h0.set x5.toNat (x1,(z5.1,z5.2));let z6:=z2.getD x5.toNat ((0:Int),((0:Int),[]));let z1:=z2.set x5.toNat (z6.1,(wI (x1+(1:Int)),(z6.2).2));let z3:=z1.getD x5.toNat ((0:Int),((0:Int),[]));let z7:=A8r z4 ((z3.2).2);(cond (decide (x5<(h0.length:Int))) (cond (decide (0≤x5∧x5<(h0.length:Int))) (cond (decide (0≤x5∧x5<((z2.length:Nat):Int))) (cond (decide (0≤x5∧x5<((z1.length:Nat):Int))) (cond (B0s z4 ((z3.2).2)) (.inl ((z7.1),wI (x5+(1:Int)),z1.set x5.toNat (z3.1,((z3.2).1,(z7.2))))) (.inr A98)) (.inr A98)) (.inr A98)) (.inr A98)) (.inr (0,x1,h0)))
noncomputable def B0g (x1 x5:Int) (h0:Lq1):B02:=itX (fun v:B3L=>B24 v.1 v.2.1 v.2.2) A98 (x1,x5,h0)
noncomputable def B5Z (a:B02):CT:=(.br (a.1==0) (.done (.exit 0) B9H (((),a.2.1,u33),(a.2.2,()))) .fail)
noncomputable def C9w (x1 x5:Int) (h0:Lq1):CT:=B5Z (B0g x1 x5 h0)
noncomputable abbrev B6t:A0q.den→RT A0q.den:=(fun d=>C10 d.1.2.1 d.1.2.2.2.2.2.1 d.2.1)
noncomputable def B7U:Code:=((D4 0 (A1l Try.f73)).getD 0 (0,.skip)).2
noncomputable abbrev C1A (v:B3L):A0q.den:=(((),v.1,(),(),(),v.2.1,u29),(v.2.2,()))
theorem C83:(∀ v:B3L,(C10 v.1 v.2.1 v.2.2).val=A6D C1A B5Z (B24 v.1 v.2.1 v.2.2))∧∀ a:B02,CEnd A0q.den (B5Z a):=⟨fun v=>(A7H (A7H (A7H (A7H (A7H rfl rfl) rfl) rfl) rfl) rfl),fun a=>(A7u aCD A7w)⟩
noncomputable def C1e (x1 x5:Int) (h0:Lq1):Option (Ex×St):=let z4:=wI ((wI (x1+(1:Int)))+(1:Int));let z5:=(h0.getD x5.toNat ((0:Int),((0:Int),[]))).2;let z2:=h0.set x5.toNat (x1,(z5.1,z5.2));let z6:=z2.getD x5.toNat ((0:Int),((0:Int),[]));let z1:=z2.set x5.toNat (z6.1,(wI (x1+(1:Int)),(z6.2).2));let z3:=z1.getD x5.toNat ((0:Int),((0:Int),[]));let z7:=A8r z4 ((z3.2).2);(cond (decide (x5<(h0.length:Int))) (cond (decide (0≤x5∧x5<(h0.length:Int))) (cond (decide (0≤x5∧x5<((z2.length:Nat):Int))) (cond (decide (0≤x5∧x5<((z1.length:Nat):Int))) (cond (B0s z4 ((z3.2).2)) (some (.normal,(⟨((.all 0 3)::(ti (z7.1))::.junk::.junk::.junk::(ti (wI (x5+(1:Int))))::D6X),[(.deep 32 [85] tq5 (z1.set x5.toNat (z3.1,((z3.2).1,(z7.2)))))],1,[]⟩:St))) none) none) none) none) (some ((.exit 0),(⟨(.junk::(ti x1)::D8X),[(.deep 32 [85] tq5 h0)],1,[]⟩:St))))
theorem C7r:RdA G88 aLn 0 B7U A0q 1 [] (kepts [] [(0,[1])]) (fun d=>C1e d.1.2.1 d.1.2.2.2.2.2.1 d.2.1):=by
 intro d
 kernel_rfl
theorem C7x:∀ d:A0q.den,(fun d=>C1e d.1.2.1 d.1.2.2.2.2.2.1 d.2.1) d=(B6t d).opt 1 []:=by
 intro d
 kernel_rfl
noncomputable abbrev B96:St→Option Tree:=A0q.say 1 [] [] (fun d=>C9w d.1.2.1 d.1.2.2.2.2.2.1 d.2.1)
theorem C8G:aPL B96 B7U:=SS.wp2 hlz [] B6t C7r C7x _ (fun d=>Runs.ofI2 (step:=B6t) C1A C83 rfl (d.1.2.1,d.1.2.2.2.2.2.1,d.2.1))
noncomputable def B0G (x1:Int) (h0:Lq1):Int×Lq1:=let z1:=B0g x1 (0:Int) h0;((z1.2.1),(z1.2.2))
noncomputable abbrev C6z (r:Int×Lq1):AV×List AObj×List Nat:=((ti r.1),[(.deep 32 [85] tq5 r.2)],[])
noncomputable abbrev C6D:B4Z.den→AV×List AObj×List Nat:=fun d=>C6z (B0G d.1.2.1 d.2.1)
noncomputable def A8u (x1:Int) (h0:Lq1):Bool:=((B0g x1 (0:Int) h0).1==0)
noncomputable abbrev C24:B4Z.den→Bool:=fun d=>A8u d.1.2.1 d.2.1
noncomputable abbrev D10:Nat→St→Option Tree:=fun b=>match b with | 0=>B96 | _=>fun _=>none
theorem C92:A7B G88 (D10) Try.f73 B4Z C24 C6D:=by
 rintro ⟨⟨_,x1,_⟩,⟨h0,_⟩⟩ hp
 change A8u x1 h0=true at hp
 unfold A8u at hp
 refine Eq.trans (b:=(let z1:=B0g x1 (0:Int) h0;cond (z1.1==0) (some (C6z ((z1.2.1),(z1.2.2)))) none)) (by kernel_rfl) ?_
 exact (A7F hp fun _h=>rfl)
noncomputable abbrev C6K:=win E8 (msum B4Z C24 C6D)
theorem D2i:aPM 73 C6K:=(mcM G88 (hl1 (i:=0) (by kernel_rfl) C8G) C92).win E8
noncomputable def S89:Tab:=Tab.add S88 73 (C6K)
noncomputable def D8N:FuncId→Bool:=D8M
theorem G89:aPG S89 D8N:=G88.addM D2i (A7d _) (cbl Try.f73) (by kernel_rfl)


noncomputable def O3 (i:Nat) (b:Int×LBBe):Int×LBBe:=(wI ((wI (b.1+(1:Int)))+(1:Int)),(b.2.set i ((I9 b.1),(b.2.getD i (bE,bE)).2)).set i (((b.2.set i ((I9 b.1),(b.2.getD i (bE,bE)).2)).getD i (bE,bE)).1,(I9 (wI (b.1+(1:Int))))))
abbrev B3I:SS:=⟨[.all 0 2,tI],[.rows 70 true J5]⟩
abbrev A7P:SS:=⟨(.all 0 2::tI::.junk::.junk::.junk::tI::D62),[.rows 70 true J5]⟩
abbrev B3h:SS:=⟨(.junk::tI::D6c),[.rows 70 true J5]⟩
noncomputable def B4U (x1 x5:Int) (h0:LBBe):RT A7P.den:=let z1:=h0.set x5.toNat ((I9 x1),(h0.getD x5.toNat (bE,bE)).2);let z2:=wI (x1+(1:Int));(.br (decide (x5<(h0.length:Int))) (.br (I8 x1) (.br (decide (0≤x5∧x5<(h0.length:Int))) (.br (I8 z2) (.br (decide (0≤x5∧x5<((z1.length:Nat):Int))) (.next (((),wI (z2+(1:Int)),(),(),(),wI (x5+(1:Int)),u24),(z1.set x5.toNat ((z1.getD x5.toNat (bE,bE)).1,(I9 z2)),()))) .fail) .fail) .fail) .fail) (.done (.exit 0) B3h (((),x1,u28),(h0,()))))
noncomputable def A94 (x1 x5:Int) (h0:LBBe):CT:=(.br (decide (0≤x5)&&(decide (0≤x1∧x1≤100000*(x5+100))&&okL h0)) (.done (.exit 0) B3h (((),((foldN O3 (h0.length - x5.toNat) x5.toNat (x1,h0)).1),u28),(((foldN O3 (h0.length - x5.toNat) x5.toNat (x1,h0)).2),()))) .fail)
noncomputable abbrev A8f:A7P.den→RT A7P.den:=(fun d=>B4U d.1.2.1 d.1.2.2.2.2.2.1 d.2.1)
noncomputable abbrev B9Y (x1 x5:Int) (h0:LBBe):A7P.den:=(((),x1,(),(),(),x5,u24),(h0,()))
noncomputable def B6Q:Code:=((D4 0 (A1l Try.f74)).getD 0 (0,.skip)).2
theorem C7Z (x1 x5:Int) (h0:LBBe):(A94 x1 x5 h0).val (D:=A7P.den)=.fail∨Runs A8f (B9Y x1 x5 h0) (A94 x1 x5 h0).val:=by
 cases hc:(decide (0≤x5)&&(decide (0≤x1∧x1≤100000*(x5+100))&&okL h0)) with
 | false=>left;simp only [A94,CT.val,hc,cond_false]
 | true =>
  right
  simp only [A94,CT.val,hc,cond_true]
  simp only [Bool.and_eq_true,decide_eq_true_eq] at hc
  obtain ⟨i,rfl⟩:=Int.eq_ofNat_of_zero_le hc.1
  have hs:=A7q hc.2.2
  have hk:=hc.2.1
  simp only [Int.toNat_natCast]
  refine Runs.foldN (step:=A8f) (fun j b=>B9Y b.1 (j:Int) b.2) (fun i b=>(0≤b.1∧b.1≤100000*((i:Int)+100))∧b.2.length=h0.length) (h0.length) O3
   (fin:=fun b=>((.done (.exit 0) B3h (((),b.1,u28),(b.2,()))):CT).val) (fun i b hi hb=>?_) (fun i b hi hb=>?_) (h0.length - i) i (x1,h0) rfl ⟨hk,rfl⟩
  ·obtain ⟨k,h⟩:=b
   obtain ⟨hb1,hb2⟩:=hb
   simp only at hb1 hb2
   have w1:wI (k+(1:Int))=k+(1:Int):=A6J (by omega) (by omega)
   have w2:wI (k+(1:Int)+(1:Int))=k+(1:Int)+(1:Int):=A6J (by omega) (by omega)
   have e0:(I8 k)=true:=by simp only [I8,w1,w2];exact decide_eq_true (by omega)
   have e1:(decide (0≤(i:Int)∧(i:Int)<(h.length:Int)))=true:=decide_eq_true (by (try simp only [List.length_set]);omega)
   have e2:(I8 (wI (k+(1:Int))))=true:=by simp only [I8,w1,w2];exact decide_eq_true (by omega)
   have e3:(decide (0≤(i:Int)∧(i:Int)<(((h.set i ((I9 k),(h.getD i ((⟨#[]⟩:ByteArray),(⟨#[]⟩:ByteArray))).2)).length:Nat):Int)))=true:=decide_eq_true (by (try simp only [List.length_set]);omega)
   have h1:decide ((i:Int)<(h.length:Int))=true:=decide_eq_true (by omega)
   have v1:(O3 i (k,h)).1=k+(1:Int)+(1:Int):=by simp only [O3,w1,w2]
   have v2:(O3 i (k,h)).2.length=h.length:=by simp only [O3,List.length_set]
   refine ⟨⟨by rw [v1];omega,by rw [v2];exact hb2⟩,?_⟩
   simp only [A8f,B4U,RT.val,h1,e0,e1,e2,e3,cond_true,A7y i (by omega),Int.toNat_natCast]
   rfl
  ·have h1:decide ((i:Int)<(b.2.length:Int))=false:=decide_eq_false (by omega)
   exact ⟨by simp only [A8f,B4U,RT.val,h1,cond_false];rfl,_,_,_,rfl,by simp⟩
theorem C6h:RdA G89 aLn 0 B6Q A7P 1 [] (kepts [] [(0,[1])]) (fun d=>(A8f d).opt 1 []):=by
 intro d
 kernel_rfl
noncomputable abbrev B8o:St→Option Tree:=A7P.say 1 [] [] (fun d=>A94 d.1.2.1 d.1.2.2.2.2.2.1 d.2.1)
theorem C7n:aPL B8o B6Q:=SS.wp2 hlz [] A8f C6h (fun d=>rfl) _ (fun d=>C7Z d.1.2.1 d.1.2.2.2.2.2.1 d.2.1)
noncomputable def Q0 (x1:Int) (h0:LBBe):Int×LBBe:=let z1:=foldN O3 (h0.length - (0:Int).toNat) (0:Int).toNat (x1,h0);((z1.1),(z1.2))
noncomputable abbrev C4t (r:Int×LBBe):AV×List AObj×List Nat:=((ti r.1),[(.rows 70 true J5 r.2)],[])
noncomputable abbrev C4C:B3I.den→AV×List AObj×List Nat:=fun d=>C4t (Q0 d.1.2.1 d.2.1)
noncomputable def A9e (x1:Int) (h0:LBBe):Bool:=okL h0&&decide (0≤x1∧x1≤10000000)
noncomputable abbrev C1o:B3I.den→Bool:=fun d=>A9e d.1.2.1 d.2.1
noncomputable abbrev D0t:Nat→St→Option Tree:=fun b=>match b with | 0=>B8o | _=>fun _=>none
theorem C9c:A7B G89 (D0t) Try.f74 B3I C1o C4C:=by
 rintro ⟨⟨_,x1,_⟩,⟨h0,_⟩⟩ hp
 change A9e x1 h0=true at hp
 unfold A9e at hp
 refine Eq.trans (b:=(let z1:=foldN O3 (h0.length - (0:Int).toNat) (0:Int).toNat (x1,h0);cond (decide (0≤(0:Int))&&(decide (0≤x1∧x1≤100000*((0:Int)+100))&&okL h0)) (some (C4t ((z1.1),(z1.2)))) none)) (by kernel_rfl) ?_
 exact (A7F (by first | rfl | decide | exact hp | (simp only [Bool.and_eq_true] at hp;simp only [hp];done) | (simp [*];done) | (simp [okL] at hp;simp [okL,MAXB];omega) | (simp_all;done) | (simp at *;omega)) (fun _h=>rfl))
noncomputable abbrev C4K:=win E8 (msum B3I C1o C4C)
theorem D0G:aPM 74 C4K:=(mcM G89 (hl1 (i:=0) (by kernel_rfl) C7n) C9c).win E8
noncomputable def S90:Tab:=Tab.add S89 74 (C4K)
noncomputable def D8O:FuncId→Bool:=D8N
theorem G90:aPG S90 D8O:=G89.addM D0G (A7d _) (cbl Try.f74) (by kernel_rfl)

abbrev B3J:SS:=⟨[.agg [.t true (.int .i64),.all 0 3,.t true (.int .i64),.all 1 2,.all 2 3],tI],[.deep 32 [85] tq5,.rows 70 true J5,.deep 32 [85] tq5]⟩
noncomputable def U4 (x0_0 x0_2 x1:Int) (h0:Lq1) (h1:LBBe) (h2:Lq1):Int×Lq1×LBBe×Lq1:=let z1:=Q0 ((B0G x1 h0).1) h1;let z2:=B0G (z1.1) h2;((z2.1),((B0G x1 h0).2),(z1.2),(z2.2))
noncomputable abbrev C4u (r:Int×Lq1×LBBe×Lq1):AV×List AObj×List Nat:=((ti r.1),[(.deep 32 [85] tq5 r.2.1),(.rows 70 true J5 r.2.2.1),(.deep 32 [85] tq5 r.2.2.2)],[])
noncomputable abbrev C4D:B3J.den→AV×List AObj×List Nat:=fun d=>C4u (U4 d.1.1.1 d.1.1.2.2.1 d.1.2.1 d.2.1 d.2.2.1 d.2.2.2.1)
noncomputable def A0n (x0_0 x0_2 x1:Int) (h0:Lq1) (h1:LBBe) (h2:Lq1):Bool:=let z1:=(B0G x1 h0).1;(A8u x1 h0)&&((A9e z1 h1)&&(A8u ((Q0 z1 h1).1) h2))
noncomputable abbrev C1p:B3J.den→Bool:=fun d=>A0n d.1.1.1 d.1.1.2.2.1 d.1.2.1 d.2.1 d.2.2.1 d.2.2.2.1
theorem C9d:A7B G90 aLn Try.f34 B3J C1p C4D:=by
 rintro ⟨⟨⟨x0_0,_,x0_2,_,_,_⟩,x1,_⟩,⟨h0,h1,h2,_⟩⟩ hp
 change A0n x0_0 x0_2 x1 h0 h1 h2=true at hp
 unfold A0n at hp
 refine Eq.trans (b:=(let z2:=B0G x1 h0;let z1:=Q0 (z2.1) h1;let z3:=B0G (z1.1) h2;cond (A8u x1 h0) (cond (A9e (z2.1) h1) (cond (A8u (z1.1) h2) (some (C4u ((z3.1),(z2.2),(z1.2),(z3.2)))) none) none) none)) (by kernel_rfl) ?_
 exact (A7D hp fun hp=>(A7D hp fun hp=>(A7F hp fun _h=>rfl)))
noncomputable abbrev C4L:=win E8 (msum B3J C1p C4D)
theorem D0H:aPM 34 C4L:=(mcM G90 hlz C9d).win E8
noncomputable def S91:Tab:=Tab.add S90 34 (C4L)
noncomputable def D8P:FuncId→Bool:=D8O
theorem G91:aPG S91 D8P:=G90.addM D0H (A7d _) (cbl Try.f34) (by kernel_rfl)


noncomputable def O7 (x0:Lq2) (i:Nat) (k:Int):Int ⊕ Unit:=(cond (((x0.getD i ((0:Int),(bE,bE))).1) != k) (.inr ()) (cond (!((((x0.getD i ((0:Int),(bE,bE))).2).1).toList==(I9 (wI (k+(1:Int)))).toList)) (.inr ()) (cond (!((((x0.getD i ((0:Int),(bE,bE))).2).2).toList==(I9 (wI ((wI (k+(1:Int)))+(1:Int)))).toList)) (.inr ()) (.inl (wI ((wI ((wI (k+(1:Int)))+(1:Int)))+(1:Int)))))))
abbrev B5D:List PSh:=[.t tq4,.t (.int .i64)]
abbrev A8j:SS:=⟨(.t false tq4::tI::.junk::.junk::.junk::tI::D6e),[]⟩
abbrev X8:SS:=⟨(.junk::.junk::.junk::.junk::tI::D6f),[]⟩
abbrev B5s:SS:=⟨(.junk::tI::D5c),[]⟩
noncomputable def B7r (x0:Lq2) (x1 x5:Int):RT A8j.den:=let z2:=x0.getD x5.toNat ((0:Int),(bE,bE));let z3:=decide (0≤x5∧x5<(x0.length:Int));let z4:=wI (x1+(1:Int));let z1:=wI (z4+(1:Int));(.br (decide (x5<(x0.length:Int))) (.br z3 (.br ((z2.1) != x1) (.done .ret X8 (((),(),(),(),(-1:Int),u38),())) (.br z3 (.br (I8 z4) (.br (!(((z2.2).1).toList==(I9 z4).toList)) (.done .ret X8 (((),(),(),(),(-1:Int),u38),())) (.br z3 (.br (I8 z1) (.br (!(((z2.2).2).toList==(I9 z1).toList)) (.done .ret X8 (((),(),(),(),(-1:Int),u38),())) (.next ((x0,wI (z1+(1:Int)),(),(),(),wI (x5+(1:Int)),u37),()))) .fail) .fail)) .fail) .fail)) .fail) (.done (.exit 0) B5s (((),x1,u41),())))
noncomputable def B2r (x0:Lq2) (x1 x5:Int):CT:=(.br (decide (0≤x5)&&(decide (0≤x1∧x1≤100000*(x5+100))&&okL x0)) (.br (A7x (loopN (O7 x0) (x0.length - x5.toNat) x5.toNat x1)) (.done (.exit 0) B5s (((),(A7o (-1) (loopN (O7 x0) (x0.length - x5.toNat) x5.toNat x1)),u41),())) (.done .ret X8 (((),(),(),(),(-1:Int),u38),()))) .fail)
noncomputable abbrev A8B:A8j.den→RT A8j.den:=(fun d=>B7r d.1.1 d.1.2.1 d.1.2.2.2.2.2.1)
noncomputable abbrev B3U (x0:Lq2) (x1 x5:Int):A8j.den:=((x0,x1,(),(),(),x5,u37),())
noncomputable def B9P:Code:=((D4 0 (A1l Try.f116)).getD 0 (0,.skip)).2
theorem D0w (x0:Lq2) (x1 x5:Int):(B2r x0 x1 x5).val (D:=A8j.den)=.fail∨Runs A8B (B3U x0 x1 x5) (B2r x0 x1 x5).val:=by
 cases hc:(decide (0≤x5)&&(decide (0≤x1∧x1≤100000*(x5+100))&&okL x0)) with
 | false=>left;simp only [B2r,CT.val,hc,cond_false]
 | true =>
  right
  simp only [B2r,CT.val,hc,cond_true]
  simp only [Bool.and_eq_true,decide_eq_true_eq] at hc
  obtain ⟨i,rfl⟩:=Int.eq_ofNat_of_zero_le hc.1
  have hs:=A7q hc.2.2
  have hk:=hc.2.1
  simp only [Int.toNat_natCast]
  have h:=Runs.loopN (step:=A8B) (fun j b=>B3U x0 b (j:Int)) (fun i b=>0≤b∧b≤100000*((i:Int)+100)) (x0.length) (O7 x0)
   (fin:=fun b=>((.done (.exit 0) B5s (((),b,u41),())):CT).val) (bad:=fun _=>((.done .ret X8 (((),(),(),(),(-1:Int),u38),())):CT).val)
   (fun i b hi hb=>?_) (fun i b hi hb=>?_) (x0.length - i) i x1 rfl hk
  ·revert h
   cases loopN (O7 x0) (x0.length - i) i x1 with
   | inl b=>exact id
   | inr c=>exact id
  ·revert hb
   generalize b=k
   intro hb
   have w1:wI (k+(1:Int))=k+(1:Int):=A6J (by omega) (by omega)
   have w2:wI (k+(1:Int)+(1:Int))=k+(1:Int)+(1:Int):=A6J (by omega) (by omega)
   have w3:wI (k+(1:Int)+(1:Int)+(1:Int))=k+(1:Int)+(1:Int)+(1:Int):=A6J (by omega) (by omega)
   have e0:(decide (0≤(i:Int)∧(i:Int)<(x0.length:Int)))=true:=decide_eq_true (by omega)
   have e1:(decide (0≤(i:Int)∧(i:Int)<(x0.length:Int)))=true:=decide_eq_true (by omega)
   have e2:(I8 (wI (k+(1:Int))))=true:=by simp only [I8,w1,w2,w3];exact decide_eq_true (by omega)
   have e3:(decide (0≤(i:Int)∧(i:Int)<(x0.length:Int)))=true:=decide_eq_true (by omega)
   have e4:(I8 (wI ((wI (k+(1:Int)))+(1:Int))))=true:=by simp only [I8,w1,w2,w3];exact decide_eq_true (by omega)
   have h1:decide ((i:Int)<(x0.length:Int))=true:=decide_eq_true (by omega)
   have e:(A8B (B3U x0 k (i:Int))).val=(cond (((x0.getD i ((0:Int),((⟨#[]⟩:ByteArray),(⟨#[]⟩:ByteArray)))).1) != k) ((.done .ret X8 (((),(),(),(),(-1:Int),u38),())):CT).val (cond (!((((x0.getD i ((0:Int),((⟨#[]⟩:ByteArray),(⟨#[]⟩:ByteArray)))).2).1).toList==(I9 (wI (k+(1:Int)))).toList)) ((.done .ret X8 (((),(),(),(),(-1:Int),u38),())):CT).val (cond (!((((x0.getD i ((0:Int),((⟨#[]⟩:ByteArray),(⟨#[]⟩:ByteArray)))).2).2).toList==(I9 (wI ((wI (k+(1:Int)))+(1:Int)))).toList)) ((.done .ret X8 (((),(),(),(),(-1:Int),u38),())):CT).val (.next (B3U x0 (wI ((wI ((wI (k+(1:Int)))+(1:Int)))+(1:Int))) ((i+1:Nat):Int)))))):=by
    simp only [A8B,B7r,RT.val,h1,e0,e1,e2,e3,e4,cond_true,A7y i (by omega),Int.toNat_natCast]
    rfl
   cases g0:(((x0.getD i ((0:Int),((⟨#[]⟩:ByteArray),(⟨#[]⟩:ByteArray)))).1) != k) with
   | true=>exact .inr ⟨(),_,_,_,by simp only [O7,g0,cond_true,cond_false],by rw [e,g0];rfl,rfl,by simp⟩
   | false =>
    cases g1:(!((((x0.getD i ((0:Int),((⟨#[]⟩:ByteArray),(⟨#[]⟩:ByteArray)))).2).1).toList==(I9 (wI (k+(1:Int)))).toList)) with
    | true=>exact .inr ⟨(),_,_,_,by simp only [O7,g0,g1,cond_true,cond_false],by rw [e,g0,g1];rfl,rfl,by simp⟩
    | false =>
     cases g2:(!((((x0.getD i ((0:Int),((⟨#[]⟩:ByteArray),(⟨#[]⟩:ByteArray)))).2).2).toList==(I9 (wI ((wI (k+(1:Int)))+(1:Int)))).toList)) with
     | true=>exact .inr ⟨(),_,_,_,by simp only [O7,g0,g1,g2,cond_true,cond_false],by rw [e,g0,g1,g2];rfl,rfl,by simp⟩
     | false =>
      exact .inl ⟨wI ((wI ((wI (k+(1:Int)))+(1:Int)))+(1:Int)),by simp only [O7,g0,g1,g2,cond_false],by rw [w1,w2,w3];omega,by rw [e,g0,g1,g2];rfl⟩
  ·have h1:decide ((i:Int)<(x0.length:Int))=false:=decide_eq_false (by omega)
   exact ⟨by simp only [A8B,B7r,RT.val,h1,cond_false];rfl,_,_,_,rfl,by simp⟩
noncomputable def C2X (x0:Lq2) (x1 x5:Int):Option (Ex×St):=let z1:=(⟨(.junk::.junk::.junk::.junk::(ti (-1:Int))::D6Z),[],0,[]⟩:St);let z3:=x0.getD x5.toNat ((0:Int),(bE,bE));let z4:=decide (0≤x5∧x5<(x0.length:Int));let z5:=wI (x1+(1:Int));let z2:=wI (z5+(1:Int));(cond (decide (x5<(x0.length:Int))) (cond z4 (cond ((z3.1) != x1) (some (.ret,z1)) (cond z4 (cond (I8 z5) (cond (!(((z3.2).1).toList==(I9 z5).toList)) (some (.ret,z1)) (cond z4 (cond (I8 z2) (cond (!(((z3.2).2).toList==(I9 z2).toList)) (some (.ret,z1)) (some (.normal,(⟨((.t false tq4 x0)::(ti (wI (z2+(1:Int))))::.junk::.junk::.junk::(ti (wI (x5+(1:Int))))::D47),[],0,[]⟩:St)))) none) none)) none) none)) none) (some ((.exit 0),(⟨(.junk::(ti x1)::D48),[],0,[]⟩:St))))
theorem C8U:RdA G91 aLn 0 B9P A8j 0 [] (kepts [4] [(0,[1])]) (fun d=>C2X d.1.1 d.1.2.1 d.1.2.2.2.2.2.1):=by
 intro d
 kernel_rfl
theorem C8Y:∀ d:A8j.den,(fun d=>C2X d.1.1 d.1.2.1 d.1.2.2.2.2.2.1) d=(A8B d).opt 0 []:=by
 intro d
 kernel_rfl
noncomputable abbrev C1M:St→Option Tree:=A8j.say 0 [] [] (fun d=>B2r d.1.1 d.1.2.1 d.1.2.2.2.2.2.1)
theorem C9I:aPL C1M B9P:=SS.wp2 hlz [] A8B C8U C8Y _ (fun d=>D0w d.1.1 d.1.2.1 d.1.2.2.2.2.2.1)
noncomputable def B75 (a0:Lq2) (a1:Int):Int:=let z1:=loopN (O7 a0) (a0.length - (0:Int).toNat) (0:Int).toNat a1;(cond (A7x z1) (A7o (-1) z1) (-1:Int))
noncomputable abbrev B8N (r:Int):AV×List AObj:=((ti r),[])
noncomputable abbrev C3p:H7 B5D→AV×List AObj:=fun d=>B8N (B75 d.1 d.2.1)
noncomputable def B0r (a0:Lq2) (a1:Int):Bool:=okL a0&&decide (0≤a1∧a1≤10000000)
noncomputable abbrev B9h:H7 B5D→Bool:=fun d=>B0r d.1 d.2.1
noncomputable abbrev D3r:Nat→St→Option Tree:=fun b=>match b with | 0=>C1M | _=>fun _=>none
theorem D1K:A7C true G91 (D3r) Try.f116 B5D B9h C3p:=by
 rintro ⟨a0,⟨a1,_⟩⟩ hp
 change B0r a0 a1=true at hp
 unfold B0r at hp
 refine Eq.trans (b:=(let z1:=loopN (O7 a0) (a0.length - (0:Int).toNat) (0:Int).toNat a1;cond (decide (0≤(0:Int))&&(decide (0≤a1∧a1≤100000*((0:Int)+100))&&okL a0)) (cond (A7x z1) (some (B8N (A7o (-1) z1))) (some (B8N (-1:Int)))) none)) (by kernel_rfl) ?_
 exact (A7F (by first | rfl | decide | exact hp | (simp only [Bool.and_eq_true] at hp;simp only [hp];done) | (simp [*];done) | (simp [okL] at hp;simp [okL,MAXB];omega) | (simp_all;done) | (simp at *;omega)) (fun _h=>(Q2 B8N (fun _h=>rfl) (fun _h=>rfl))))
theorem D3P:aPP 116 (A22 B5D B9h C3p):=pcD true G91 (hl1 (i:=0) (by kernel_rfl) C9I) D1K
noncomputable def S92:Tab:=Tab.add S91 116 (lift (A22 B5D B9h C3p))
noncomputable def D8Q:FuncId→Bool:=qadd D8P 116
theorem G92:aPG S92 D8Q:=G91.addQ D3P (cbl Try.f116) (fun _=>rfl)

abbrev B30:List PSh:=[.t tq3,.t (.int .i64)]
abbrev A0p:SS:=⟨(.t false tq3::tI::.junk::.junk::.junk::tI::D6d),[]⟩
abbrev B1j:SS:=⟨(.junk::.junk::.junk::.junk::tI::D88),[]⟩
abbrev B9G:SS:=⟨(.junk::tI::D6g),[]⟩
noncomputable def C1Z (x0:Lq1) (x1 x5:Int):RT A0p.den:=let z1:=x0.getD x5.toNat ((0:Int),((0:Int),[]));let z3:=decide (0≤x5∧x5<(x0.length:Int));let z4:=wI (x1+(1:Int));let z2:=wI (z4+(1:Int));let z5:=B75 ((z1.2).2) z2;(.br (decide (x5<(x0.length:Int))) (.br z3 (.br ((z1.1) != x1) (.done .ret B1j (((),(),(),(),(-1:Int),u36),())) (.br z3 (.br (((z1.2).1) != z4) (.done .ret B1j (((),(),(),(),(-1:Int),u36),())) (.br z3 (.br (B0r ((z1.2).2) z2) (.br (decide (z5<(0:Int))) (.done .ret B1j (((),(),(),(),(-1:Int),u36),())) (.next ((x0,z5,(),(),(),wI (x5+(1:Int)),u35),()))) .fail) .fail)) .fail)) .fail) (.done (.exit 0) B9G (((),x1,u39),())))
abbrev B3K:=(Lq1)×(Int)×(Int)
abbrev B01:=Nat×(Int)×(Int)
def A97:B01:=(99,((0:Int):Int),((0:Int):Int))
noncomputable def B23 (x0:Lq1) (x1 x5:Int):B3K ⊕ B01:=let z1:=x0.getD x5.toNat ((0:Int),((0:Int),[]));let z3:=decide (0≤x5∧x5<(x0.length:Int));let z4:=wI (x1+(1:Int));let z2:=wI (z4+(1:Int));let z5:=B75 ((z1.2).2) z2;(cond (decide (x5<(x0.length:Int))) (cond z3 (cond ((z1.1) != x1) (.inr (0,(-1:Int),((0:Int):Int))) (cond z3 (cond (((z1.2).1) != z4) (.inr (0,(-1:Int),((0:Int):Int))) (cond z3 (cond (B0r ((z1.2).2) z2) (cond (decide (z5<(0:Int))) (.inr (0,(-1:Int),((0:Int):Int))) (.inl (x0,z5,wI (x5+(1:Int))))) (.inr A97)) (.inr A97))) (.inr A97))) (.inr A97)) (.inr (1,((0:Int):Int),x1)))
noncomputable def B0f (x0:Lq1) (x1 x5:Int):B01:=itX (fun v:B3K=>B23 v.1 v.2.1 v.2.2) A97 (x0,x1,x5)
noncomputable def B5Y (a:B01):CT:=(.br (a.1==0) (.done .ret B1j (((),(),(),(),a.2.1,u36),())) (.br (a.1==1) (.done (.exit 0) B9G (((),a.2.2,u39),())) .fail))
noncomputable def C9v (x0:Lq1) (x1 x5:Int):CT:=B5Y (B0f x0 x1 x5)
noncomputable abbrev B6s:A0p.den→RT A0p.den:=(fun d=>C1Z d.1.1 d.1.2.1 d.1.2.2.2.2.2.1)
noncomputable def B7T:Code:=((D4 0 (A1l Try.f75)).getD 0 (0,.skip)).2
noncomputable abbrev C1z (v:B3K):A0p.den:=((v.1,v.2.1,(),(),(),v.2.2,u35),())
theorem C82:(∀ v:B3K,(C1Z v.1 v.2.1 v.2.2).val=A6D C1z B5Y (B23 v.1 v.2.1 v.2.2))∧∀ a:B01,CEnd A0p.den (B5Y a):=⟨fun v=>by repeat' first | apply A7H | rfl,fun a=>(A7u aCD (A7u aCD A7w))⟩
noncomputable def C1d (x0:Lq1) (x1 x5:Int):Option (Ex×St):=let z1:=x0.getD x5.toNat ((0:Int),((0:Int),[]));let z2:=(⟨(.junk::.junk::.junk::.junk::(ti (-1:Int))::D7o),[],0,[]⟩:St);let z4:=decide (0≤x5∧x5<(x0.length:Int));let z5:=wI (x1+(1:Int));let z3:=wI (z5+(1:Int));let z6:=B75 ((z1.2).2) z3;(cond (decide (x5<(x0.length:Int))) (cond z4 (cond ((z1.1) != x1) (some (.ret,z2)) (cond z4 (cond (((z1.2).1) != z5) (some (.ret,z2)) (cond z4 (cond (B0r ((z1.2).2) z3) (cond (decide (z6<(0:Int))) (some (.ret,z2)) (some (.normal,(⟨((.t false tq3 x0)::(ti z6)::.junk::.junk::.junk::(ti (wI (x5+(1:Int))))::D59),[],0,[]⟩:St)))) none) none)) none)) none) (some ((.exit 0),(⟨(.junk::(ti x1)::D30),[],0,[]⟩:St))))
theorem C7q:RdA G92 aLn 0 B7T A0p 0 [] (kepts [4] [(0,[1])]) (fun d=>C1d d.1.1 d.1.2.1 d.1.2.2.2.2.2.1):=by
 intro d
 kernel_rfl
theorem C7w:∀ d:A0p.den,(fun d=>C1d d.1.1 d.1.2.1 d.1.2.2.2.2.2.1) d=(B6s d).opt 0 []:=by
 intro d
 kernel_rfl
noncomputable abbrev B95:St→Option Tree:=A0p.say 0 [] [] (fun d=>C9v d.1.1 d.1.2.1 d.1.2.2.2.2.2.1)
theorem C8F:aPL B95 B7T:=SS.wp2 hlz [] B6s C7q C7w _ (fun d=>Runs.ofI2 (step:=B6s) C1z C82 rfl (d.1.1,d.1.2.1,d.1.2.2.2.2.2.1))
noncomputable def A8P (a0:Lq1) (a1:Int):Int:=let z1:=B0f a0 a1 (0:Int);(cond (z1.1==0) (z1.2.1) (z1.2.2))
noncomputable abbrev B6T (r:Int):AV×List AObj:=((ti r),[])
noncomputable abbrev C04:H7 B30→AV×List AObj:=fun d=>B6T (A8P d.1 d.2.1)
noncomputable def A8t (a0:Lq1) (a1:Int):Bool:=let z1:=B0f a0 a1 (0:Int);cond (z1.1==0) true (z1.1==1)
noncomputable abbrev B7l:H7 B30→Bool:=fun d=>A8t d.1 d.2.1
noncomputable abbrev D1Z:Nat→St→Option Tree:=fun b=>match b with | 0=>B95 | _=>fun _=>none
theorem C91:A7C true G92 (D1Z) Try.f75 B30 B7l C04:=by
 rintro ⟨a0,⟨a1,_⟩⟩ hp
 change A8t a0 a1=true at hp
 unfold A8t at hp
 refine Eq.trans (b:=(let z1:=B0f a0 a1 (0:Int);cond (z1.1==0) (some (B6T (z1.2.1))) (cond (z1.1==1) (some (B6T (z1.2.2))) none))) (by kernel_rfl) ?_
 exact (L8 B6T hp (fun hp=>rfl) (fun hp=>(A7F hp fun _h=>rfl)))
theorem D2h:aPP 75 (A22 B30 B7l C04):=pcD true G92 (hl1 (i:=0) (by kernel_rfl) C8F) C91
noncomputable def S93:Tab:=Tab.add S92 75 (lift (A22 B30 B7l C04))
noncomputable def D8R:FuncId→Bool:=qadd D8Q 75
theorem G93:aPG S93 D8R:=G92.addQ D2h (cbl Try.f75) (fun _=>rfl)


noncomputable def N4 (x0:LBBe) (i:Nat) (k:Int):Int ⊕ Unit:=(cond (!(((x0.getD i (bE,bE)).1).toList==(I9 k).toList)) (.inr ()) (cond (!(((x0.getD i (bE,bE)).2).toList==(I9 (wI (k+(1:Int)))).toList)) (.inr ()) (.inl (wI ((wI (k+(1:Int)))+(1:Int))))))
abbrev B2k:List PSh:=[.t tq6,.t (.int .i64)]
abbrev Y4:SS:=⟨(.t false tq6::tI::.junk::.junk::.junk::tI::D6c),[]⟩
abbrev A7L:SS:=⟨(.junk::.junk::.junk::.junk::tI::D64),[]⟩
abbrev B3g:SS:=⟨(.junk::tI::D65),[]⟩
noncomputable def B4T (x0:LBBe) (x1 x5:Int):RT Y4.den:=let z1:=wI (x1+(1:Int));let z2:=decide (0≤x5∧x5<(x0.length:Int));let z3:=x0.getD x5.toNat (bE,bE);(.br (decide (x5<(x0.length:Int))) (.br z2 (.br (I8 x1) (.br (!((z3.1).toList==(I9 x1).toList)) (.done .ret A7L (((),(),(),(),(-1:Int),u29),())) (.br z2 (.br (I8 z1) (.br (!((z3.2).toList==(I9 z1).toList)) (.done .ret A7L (((),(),(),(),(-1:Int),u29),())) (.next ((x0,wI (z1+(1:Int)),(),(),(),wI (x5+(1:Int)),u28),()))) .fail) .fail)) .fail) .fail) (.done (.exit 0) B3g (((),x1,u32),())))
noncomputable def A93 (x0:LBBe) (x1 x5:Int):CT:=(.br (decide (0≤x5)&&(decide (0≤x1∧x1≤100000*(x5+100))&&okL x0)) (.br (A7x (loopN (N4 x0) (x0.length - x5.toNat) x5.toNat x1)) (.done (.exit 0) B3g (((),(A7o (-1) (loopN (N4 x0) (x0.length - x5.toNat) x5.toNat x1)),u32),())) (.done .ret A7L (((),(),(),(),(-1:Int),u29),()))) .fail)
noncomputable abbrev A0h:Y4.den→RT Y4.den:=(fun d=>B4T d.1.1 d.1.2.1 d.1.2.2.2.2.2.1)
noncomputable abbrev B1t (x0:LBBe) (x1 x5:Int):Y4.den:=((x0,x1,(),(),(),x5,u28),())
noncomputable def B6P:Code:=((D4 0 (A1l Try.f76)).getD 0 (0,.skip)).2
theorem C7Y (x0:LBBe) (x1 x5:Int):(A93 x0 x1 x5).val (D:=Y4.den)=.fail∨Runs A0h (B1t x0 x1 x5) (A93 x0 x1 x5).val:=by
 cases hc:(decide (0≤x5)&&(decide (0≤x1∧x1≤100000*(x5+100))&&okL x0)) with
 | false=>left;simp only [A93,CT.val,hc,cond_false]
 | true =>
  right
  simp only [A93,CT.val,hc,cond_true]
  simp only [Bool.and_eq_true,decide_eq_true_eq] at hc
  obtain ⟨i,rfl⟩:=Int.eq_ofNat_of_zero_le hc.1
  have hs:=A7q hc.2.2
  have hk:=hc.2.1
  simp only [Int.toNat_natCast]
  have h:=Runs.loopN (step:=A0h) (fun j b=>B1t x0 b (j:Int)) (fun i b=>0≤b∧b≤100000*((i:Int)+100)) (x0.length) (N4 x0)
   (fin:=fun b=>((.done (.exit 0) B3g (((),b,u32),())):CT).val) (bad:=fun _=>((.done .ret A7L (((),(),(),(),(-1:Int),u29),())):CT).val)
   (fun i b hi hb=>?_) (fun i b hi hb=>?_) (x0.length - i) i x1 rfl hk
  ·revert h
   cases loopN (N4 x0) (x0.length - i) i x1 with
   | inl b=>exact id
   | inr c=>exact id
  ·revert hb
   generalize b=k
   intro hb
   have w1:wI (k+(1:Int))=k+(1:Int):=A6J (by omega) (by omega)
   have w2:wI (k+(1:Int)+(1:Int))=k+(1:Int)+(1:Int):=A6J (by omega) (by omega)
   have e0:(decide (0≤(i:Int)∧(i:Int)<(x0.length:Int)))=true:=decide_eq_true (by omega)
   have e1:(I8 k)=true:=by simp only [I8,w1,w2];exact decide_eq_true (by omega)
   have e2:(decide (0≤(i:Int)∧(i:Int)<(x0.length:Int)))=true:=decide_eq_true (by omega)
   have e3:(I8 (wI (k+(1:Int))))=true:=by simp only [I8,w1,w2];exact decide_eq_true (by omega)
   have h1:decide ((i:Int)<(x0.length:Int))=true:=decide_eq_true (by omega)
   have e:(A0h (B1t x0 k (i:Int))).val=(cond (!(((x0.getD i ((⟨#[]⟩:ByteArray),(⟨#[]⟩:ByteArray))).1).toList==(I9 k).toList)) ((.done .ret A7L (((),(),(),(),(-1:Int),u29),())):CT).val (cond (!(((x0.getD i ((⟨#[]⟩:ByteArray),(⟨#[]⟩:ByteArray))).2).toList==(I9 (wI (k+(1:Int)))).toList)) ((.done .ret A7L (((),(),(),(),(-1:Int),u29),())):CT).val (.next (B1t x0 (wI ((wI (k+(1:Int)))+(1:Int))) ((i+1:Nat):Int))))):=by
    simp only [A0h,B4T,RT.val,h1,e0,e1,e2,e3,cond_true,A7y i (by omega),Int.toNat_natCast]
    rfl
   cases g0:(!(((x0.getD i ((⟨#[]⟩:ByteArray),(⟨#[]⟩:ByteArray))).1).toList==(I9 k).toList)) with
   | true=>exact .inr ⟨(),_,_,_,by simp only [N4,g0,cond_true,cond_false],by rw [e,g0];rfl,rfl,by simp⟩
   | false =>
    cases g1:(!(((x0.getD i ((⟨#[]⟩:ByteArray),(⟨#[]⟩:ByteArray))).2).toList==(I9 (wI (k+(1:Int)))).toList)) with
    | true=>exact .inr ⟨(),_,_,_,by simp only [N4,g0,g1,cond_true,cond_false],by rw [e,g0,g1];rfl,rfl,by simp⟩
    | false =>
     exact .inl ⟨wI ((wI (k+(1:Int)))+(1:Int)),by simp only [N4,g0,g1,cond_false],by rw [w1,w2];omega,by rw [e,g0,g1];rfl⟩
  ·have h1:decide ((i:Int)<(x0.length:Int))=false:=decide_eq_false (by omega)
   exact ⟨by simp only [A0h,B4T,RT.val,h1,cond_false];rfl,_,_,_,rfl,by simp⟩
noncomputable def B9X (x0:LBBe) (x1 x5:Int):Option (Ex×St):=let z1:=(⟨(.junk::.junk::.junk::.junk::(ti (-1:Int))::D6X),[],0,[]⟩:St);let z2:=wI (x1+(1:Int));let z3:=decide (0≤x5∧x5<(x0.length:Int));let z4:=x0.getD x5.toNat (bE,bE);(cond (decide (x5<(x0.length:Int))) (cond z3 (cond (I8 x1) (cond (!((z4.1).toList==(I9 x1).toList)) (some (.ret,z1)) (cond z3 (cond (I8 z2) (cond (!((z4.2).toList==(I9 z2).toList)) (some (.ret,z1)) (some (.normal,(⟨((.t false tq6 x0)::(ti (wI (z2+(1:Int))))::.junk::.junk::.junk::(ti (wI (x5+(1:Int))))::D7m),[],0,[]⟩:St)))) none) none)) none) none) (some ((.exit 0),(⟨(.junk::(ti x1)::D6Y),[],0,[]⟩:St))))
theorem C6g:RdA G93 aLn 0 B6P Y4 0 [] (kepts [4] [(0,[1])]) (fun d=>B9X d.1.1 d.1.2.1 d.1.2.2.2.2.2.1):=by
 intro d
 kernel_rfl
theorem C6m:∀ d:Y4.den,(fun d=>B9X d.1.1 d.1.2.1 d.1.2.2.2.2.2.1) d=(A0h d).opt 0 []:=by
 intro d
 kernel_rfl
noncomputable abbrev B8n:St→Option Tree:=Y4.say 0 [] [] (fun d=>A93 d.1.1 d.1.2.1 d.1.2.2.2.2.2.1)
theorem C7m:aPL B8n B6P:=SS.wp2 hlz [] A0h C6g C6m _ (fun d=>C7Y d.1.1 d.1.2.1 d.1.2.2.2.2.2.1)
noncomputable def B0l (a0:LBBe) (a1:Int):Int:=let z1:=loopN (N4 a0) (a0.length - (0:Int).toNat) (0:Int).toNat a1;(cond (A7x z1) (A7o (-1) z1) (-1:Int))
noncomputable abbrev B46 (r:Int):AV×List AObj:=((ti r),[])
noncomputable abbrev B8V:H7 B2k→AV×List AObj:=fun d=>B46 (B0l d.1 d.2.1)
noncomputable def A9c (a0:LBBe) (a1:Int):Bool:=okL a0&&decide (0≤a1∧a1≤10000000)
noncomputable abbrev B6j:H7 B2k→Bool:=fun d=>A9c d.1 d.2.1
noncomputable abbrev D0s:Nat→St→Option Tree:=fun b=>match b with | 0=>B8n | _=>fun _=>none
theorem C9a:A7C true G93 (D0s) Try.f76 B2k B6j B8V:=by
 rintro ⟨a0,⟨a1,_⟩⟩ hp
 change A9c a0 a1=true at hp
 unfold A9c at hp
 refine Eq.trans (b:=(let z1:=loopN (N4 a0) (a0.length - (0:Int).toNat) (0:Int).toNat a1;cond (decide (0≤(0:Int))&&(decide (0≤a1∧a1≤100000*((0:Int)+100))&&okL a0)) (cond (A7x z1) (some (B46 (A7o (-1) z1))) (some (B46 (-1:Int)))) none)) (by kernel_rfl) ?_
 exact (A7F (by first | rfl | decide | exact hp | (simp only [Bool.and_eq_true] at hp;simp only [hp];done) | (simp [*];done) | (simp [okL] at hp;simp [okL,MAXB];omega) | (simp_all;done) | (simp at *;omega)) (fun _h=>(Q2 B46 (fun _h=>rfl) (fun _h=>rfl))))
theorem D0E:aPP 76 (A22 B2k B6j B8V):=pcD true G93 (hl1 (i:=0) (by kernel_rfl) C7m) C9a
noncomputable def S94:Tab:=Tab.add S93 76 (lift (A22 B2k B6j B8V))
noncomputable def D8S:FuncId→Bool:=qadd D8R 76
theorem G94:aPG S94 D8S:=G93.addQ D0E (cbl Try.f76) (fun _=>rfl)

abbrev B2l:List PSh:=[.agg [(.int .i64),tq3,(.int .i64),tq6,tq3],.t (.int .i64)]
noncomputable def B87 (a0:Int) (a1:Lq1) (a2:Int) (a3:LBBe) (a4:Lq1) (a5:Int):Int:=let z1:=B0l a3 (A8P a1 a5);(cond (decide ((A8P a1 a5)<(0:Int))) (-1:Int) (cond (decide (z1<(0:Int))) (-1:Int) (cond (decide ((A8P a4 z1)<(0:Int))) (-1:Int) (A8P a4 z1))))
noncomputable abbrev B0C (r:Int):AV×List AObj:=((ti r),[])
noncomputable abbrev B8W:H7 B2l→AV×List AObj:=fun d=>B0C (B87 d.1.1 d.1.2.1 d.1.2.2.1 d.1.2.2.2.1 d.1.2.2.2.2.1 d.2.1)
noncomputable def A9d (a0:Int) (a1:Lq1) (a2:Int) (a3:LBBe) (a4:Lq1) (a5:Int):Bool:=let z1:=A8P a1 a5;(A8t a1 a5)&&(cond (decide (z1<(0:Int))) true ((A9c a3 z1)&&(cond (decide ((B0l a3 z1)<(0:Int))) true (A8t a4 (B0l a3 z1)))))
noncomputable abbrev B6k:H7 B2l→Bool:=fun d=>A9d d.1.1 d.1.2.1 d.1.2.2.1 d.1.2.2.2.1 d.1.2.2.2.2.1 d.2.1
theorem C9b:A7C true G94 aLn Try.f35 B2l B6k B8W:=by
 rintro ⟨⟨a0,⟨a1,⟨a2,⟨a3,⟨a4,_⟩⟩⟩⟩⟩,⟨a5,_⟩⟩ hp
 change A9d a0 a1 a2 a3 a4 a5=true at hp
 unfold A9d at hp
 refine Eq.trans (b:=(let z2:=B0C (-1:Int);let z3:=A8P a1 a5;let z1:=B0l a3 z3;cond (A8t a1 a5) (cond (decide (z3<(0:Int))) (some z2) (cond (A9c a3 z3) (cond (decide (z1<(0:Int))) (some z2) (cond (A8t a4 z1) (cond (decide ((A8P a4 z1)<(0:Int))) (some z2) (some (B0C (A8P a4 z1)))) none)) none)) none)) (by kernel_rfl) ?_
 exact (A7D hp fun hp=>(L8 B0C hp (fun hp=>rfl) (fun hp=>(A7D hp fun hp=>(L8 B0C hp (fun hp=>rfl) (fun hp=>(A7F hp fun _h=>(Q2 B0C (fun _h=>rfl) (fun _h=>rfl)))))))))
theorem D0F:aPP 35 (A22 B2l B6k B8W):=pcD true G94 hlz C9b
noncomputable def S95:Tab:=Tab.add S94 35 (lift (A22 B2l B6k B8W))
noncomputable def D9o:FuncId→Bool:=qadd D8S 35
theorem G95:aPG S95 D9o:=G94.addQ D0F (cbl Try.f35) (fun _=>rfl)


end Go.Proofs.Ytgglehejlddghaa.Eng
