/- What the functions that FnExactMakeSure reaches compute: further. -/
import Derived.Test.YtgglehejlddghaaFExactMakeSureB
namespace Go.Proofs.Ytgglehejlddghaa.Eng
open Go Go.RowKit
set_option linter.unusedSimpArgs false
set_option linter.unusedVariables false
set_option maxRecDepth 10000
abbrev B5g:List PSh:=[.agg [(.int .i64),tq3,(.int .i64),tq6,tq3],.agg [(.int .i64),tq3,(.int .i64),tq6,tq3]]
noncomputable def C0B (a0:Int) (a1:Lq1) (a2:Int) (a3:LBBe) (a4:Lq1) (a5:Int) (a6:Lq1) (a7:Int) (a8:LBBe) (a9:Lq1):Bool:=(cond (a0 != a5) false (cond (!(B6A a1 a6)) false (cond (a2 != a7) false (cond (!(B7F a3 a8)) false (cond (!(B6A a4 a9)) false true)))))
noncomputable abbrev Z1 (r:Bool):AV×List AObj:=((.t true .bool r),[])
noncomputable abbrev C2V:H7 B5g→AV×List AObj:=fun d=>Z1 (C0B d.1.1 d.1.2.1 d.1.2.2.1 d.1.2.2.2.1 d.1.2.2.2.2.1 d.2.1.1 d.2.1.2.1 d.2.1.2.2.1 d.2.1.2.2.2.1 d.2.1.2.2.2.2.1)
noncomputable def A8X (a0:Int) (a1:Lq1) (a2:Int) (a3:LBBe) (a4:Lq1) (a5:Int) (a6:Lq1) (a7:Int) (a8:LBBe) (a9:Lq1):Bool:=cond (a0 != a5) true ((B0w a1 a6)&&(cond (!(B6A a1 a6)) true (cond (a2 != a7) true ((B3h a3 a8)&&(cond (!(B7F a3 a8)) true (B0w a4 a9))))))
noncomputable abbrev B8O:H7 B5g→Bool:=fun d=>A8X d.1.1 d.1.2.1 d.1.2.2.1 d.1.2.2.2.1 d.1.2.2.2.2.1 d.2.1.1 d.2.1.2.1 d.2.1.2.2.1 d.2.1.2.2.2.1 d.2.1.2.2.2.2.1
theorem D04:A7B true G83 aLn Try.f33 B5g B8O C2V:=by
 rintro ⟨⟨a0,⟨a1,⟨a2,⟨a3,⟨a4,_⟩⟩⟩⟩⟩,⟨⟨a5,⟨a6,⟨a7,⟨a8,⟨a9,_⟩⟩⟩⟩⟩,_⟩⟩ hp
 change A8X a0 a1 a2 a3 a4 a5 a6 a7 a8 a9=true at hp
 unfold A8X at hp
 refine Eq.trans (b:=(cond (a0 != a5) (some (Z1 false)) (cond (B0w a1 a6) (cond (!(B6A a1 a6)) (some (Z1 false)) (cond (a2 != a7) (some (Z1 false)) (cond (B3h a3 a8) (cond (!(B7F a3 a8)) (some (Z1 false)) (cond (B0w a4 a9) (cond (!(B6A a4 a9)) (some (Z1 false)) (some (Z1 true))) none)) none))) none))) (by kernel_rfl) ?_
 exact (M2 Z1 hp (fun hp=>rfl) (fun hp=>(A7C hp fun hp=>(M2 Z1 hp (fun hp=>rfl) (fun hp=>(M2 Z1 hp (fun hp=>rfl) (fun hp=>(A7C hp fun hp=>(M2 Z1 hp (fun hp=>rfl) (fun hp=>(A7E hp fun _h=>(P9 Z1 (fun _h=>rfl) (fun _h=>rfl)))))))))))))
theorem D3a:aPP 33 (A21 B5g B8O C2V):=pcD true G83 hlz D04
noncomputable def S84:Tab:=Tab.add S83 33 (lift (A21 B5g B8O C2V))
noncomputable def D7P:FuncId→Bool:=qadd D7O 33
theorem G84:aPG S84 D7P:=G83.addQ D3a (cbl Try.f33) (fun _=>rfl)

abbrev B3J:List PSh:=[.t (.int .i64)]
abbrev A0f:SS:=⟨(tI::.junk::.junk::.t true .str::D5t),[]⟩
abbrev B4d:SS:=⟨(.junk::.junk::.junk::.t true .str::D5t),[]⟩
noncomputable def B2O (x0:Int) (x3:ByteArray):RT A0f.den:=(.br (decide (x0 > (0:Int))) (.br (decide ((((⟨([IntKind.wrap .u8 (wI ((48:Int)+(Int.tmod x0 (10:Int))))].map fun n=>UInt8.ofNat n.toNat).toArray⟩:ByteArray).size+x3.size:Nat):Int)≤IntKind.i64.max)) (.next ((wI (Int.tdiv x0 (10:Int)),(),(),(⟨([IntKind.wrap .u8 (wI ((48:Int)+(Int.tmod x0 (10:Int))))].map fun n=>UInt8.ofNat n.toNat).toArray⟩:ByteArray)++x3,u17),())) .fail) (.done (.exit 0) B4d (((),(),(),x3,u17),())))
noncomputable def B0X (x0:Int) (x3:ByteArray):CT:=(.br (decide (x0≤1000000000000)&&decide (x3.size≤1000)) (.done (.exit 0) B4d (((),(),(),(C47 13 x0 x3),u17),())) .fail)
noncomputable abbrev X9:A0f.den→RT A0f.den:=(fun d=>B2O d.1.1 d.1.2.2.2.1)
noncomputable abbrev A97 (x0:Int) (x3:ByteArray):A0f.den:=((x0,(),(),x3,u17),())
noncomputable def B7u:Code:=((D4 0 (A1l Try.f115)).getD 0 (0,.skip)).2
theorem C8S (x0:Int) (x3:ByteArray):(B0X x0 x3).val (D:=A0f.den)=.fail∨Runs X9 (A97 x0 x3) (B0X x0 x3).val:=by
 cases hc:(decide (x0≤1000000000000)&&decide (x3.size≤1000)) with
 | false=>left;simp only [B0X,CT.val,hc,cond_false]
 | true =>
  right
  simp only [B0X,CT.val,hc,cond_true]
  simp only [Bool.and_eq_true,decide_eq_true_eq] at hc
  have key:∀ (k:Nat) (x:Int) (s:ByteArray),x<10 ^ k→x≤1000000000000→s.size+k≤2000→Runs X9 (A97 x s) (((.done (.exit 0) B4d (((),(),(),(C47 k x s),u17),())):CT).val (D:=A0f.den)):=by
   intro k
   induction k with
   | zero =>
    intro x s h1 h2 h3
    rw [show (10:Int) ^ 0=1 from rfl] at h1
    have e1:decide (x > (0:Int))=false:=decide_eq_false (by omega)
    refine .done (by simp) ?_
    simp only [X9,B2O,RT.val,e1,cond_false,C47]
   | succ k ih =>
    intro x s h1 h2 h3
    rw [Int.pow_succ] at h1
    by_cases hx:x > 0
    ·have e1:decide (x > (0:Int))=true:=decide_eq_true hx
     have e2:decide ((((C97 x).size+s.size:Nat):Int)≤IntKind.i64.max)=true:=decide_eq_true (by rw [C5b,show IntKind.i64.max=9223372036854775807 from rfl];omega)
     have e4:Int.tdiv x (10:Int)=x / 10:=Int.tdiv_eq_ediv_of_nonneg (by omega)
     have e5:wI (Int.tdiv x (10:Int))=x / 10:=by rw [e4];exact A6J (by omega) (by omega)
     have:=ih (wI (Int.tdiv x (10:Int))) (C97 x++s) (by rw [e5];omega) (by rw [e5];omega) (by rw [ByteArray.size_append,C5b];omega)
     refine .next (d':=A97 (wI (Int.tdiv x (10:Int))) (C97 x++s)) ?_ ?_
     ·have e6 : (X9 (A97 x s)).val = cond (decide ((((C97 x).size + s.size : Nat) : Int) ≤ IntKind.i64.max)) (.next (A97 (wI (Int.tdiv x (10 : Int))) (C97 x ++ s))) .fail := by
       simp only [X9,B2O,RT.val,e1,cond_true];rfl
      rw [e6,e2];rfl
     ·have e3:C47 (k+1) x s=C47 k (wI (Int.tdiv x (10:Int))) (C97 x++s):=by simp only [C47,e1,cond_true]
      rw [e3]
      exact this
    ·have e1:decide (x > (0:Int))=false:=decide_eq_false hx
     refine .done (by simp) ?_
     simp only [X9,B2O,RT.val,e1,cond_false,C47]
  exact key 13 x0 x3 (by have:=hc.1;rw [show (10:Int) ^ 13=10000000000000 from rfl];omega) hc.1 (by have:=hc.2;omega)
theorem C6X:RdA G84 aLn 0 B7u A0f 0 [] (kepts [] [(0,[3])]) (fun d=>(X9 d).opt 0 []):=by
 intro d
 kernel_rfl
noncomputable abbrev B9D:St→Option Tree:=A0f.say 0 [] [] (fun d=>B0X d.1.1 d.1.2.2.2.1)
theorem C78:aPL B9D B7u:=SS.wp2 hlz [] X9 C6X (fun d=>rfl) _ (fun d=>C8S d.1.1 d.1.2.2.2.1)
noncomputable def I9 (a0:Int):ByteArray:=(cond (decide (a0≤(0:Int))) (⟨#[109,48]⟩:ByteArray) ((⟨#[109]⟩:ByteArray)++(C47 13 a0 bE)))
noncomputable abbrev B6v (r:ByteArray):AV×List AObj:=((.t true .str r),[])
noncomputable abbrev C0w:H7 B3J→AV×List AObj:=fun d=>B6v (I9 d.1)
noncomputable def I8 (a0:Int):Bool:=decide (a0≤1000000000000)
noncomputable abbrev B6V:H7 B3J→Bool:=fun d=>I8 d.1
noncomputable abbrev D1m:Nat→St→Option Tree:=fun b=>match b with | 0=>B9D | _=>fun _=>none
theorem C9r:A7B true G84 (D1m) Try.f115 B3J B6V C0w:=by
 rintro ⟨a0,_⟩ hp
 change I8 a0=true at hp
 unfold I8 at hp
 refine Eq.trans (b:=(cond (decide (a0≤(0:Int))) (some (B6v (⟨#[109,48]⟩:ByteArray))) (cond (decide (a0≤1000000000000)&&decide ((⟨#[]⟩:ByteArray).size≤1000)) (cond (decide ((((⟨#[109]⟩:ByteArray).size+(C47 13 a0 (⟨#[]⟩:ByteArray)).size:Nat):Int)≤IntKind.i64.max)) (some (B6v ((⟨#[109]⟩:ByteArray)++(C47 13 a0 (⟨#[]⟩:ByteArray))))) none) none))) (by kernel_rfl) ?_
 exact (P9 B6v (fun _h=>rfl) (fun _h=>(A7E (by rw [hp];rfl) (fun _h=>(A7E (by have h1:=D5H 13 a0 (⟨#[]⟩:ByteArray);rw [decide_eq_true_eq];have h2:((⟨#[]⟩:ByteArray)).size=0:=rfl;have h3:((⟨#[109]⟩:ByteArray)).size=1:=rfl;rw [h2] at h1;rw [h3,show IntKind.i64.max=9223372036854775807 from rfl];omega) (fun _h=>rfl))))))
theorem D1F:aPP 115 (A21 B3J B6V C0w):=pcD true G84 (hl1 (i:=0) (by kernel_rfl) C78) C9r
noncomputable def S85:Tab:=Tab.add S84 115 (lift (A21 B3J B6V C0w))
noncomputable def D7Q:FuncId→Bool:=qadd D7P 115
theorem G85:aPG S85 D7Q:=G84.addQ D1F (cbl Try.f115) (fun _=>rfl)

abbrev D8B:List Sh:=.junk::D6y
abbrev u31:=((),u30)
abbrev D8v:List AV:=.junk::D6v

noncomputable def N9 (i:Nat) (b:Int×Lq2):Int×Lq2:=(wI ((wI ((wI (b.1+(1:Int)))+(1:Int)))+(1:Int)),((b.2.set i (b.1,(((b.2.getD i ((0:Int),(bE,bE))).2).1,((b.2.getD i ((0:Int),(bE,bE))).2).2))).set i (((b.2.set i (b.1,(((b.2.getD i ((0:Int),(bE,bE))).2).1,((b.2.getD i ((0:Int),(bE,bE))).2).2))).getD i ((0:Int),(bE,bE))).1,((I9 (wI (b.1+(1:Int)))),(((b.2.set i (b.1,(((b.2.getD i ((0:Int),(bE,bE))).2).1,((b.2.getD i ((0:Int),(bE,bE))).2).2))).getD i ((0:Int),(bE,bE))).2).2))).set i ((((b.2.set i (b.1,(((b.2.getD i ((0:Int),(bE,bE))).2).1,((b.2.getD i ((0:Int),(bE,bE))).2).2))).set i (((b.2.set i (b.1,(((b.2.getD i ((0:Int),(bE,bE))).2).1,((b.2.getD i ((0:Int),(bE,bE))).2).2))).getD i ((0:Int),(bE,bE))).1,((I9 (wI (b.1+(1:Int)))),(((b.2.set i (b.1,(((b.2.getD i ((0:Int),(bE,bE))).2).1,((b.2.getD i ((0:Int),(bE,bE))).2).2))).getD i ((0:Int),(bE,bE))).2).2))).getD i ((0:Int),(bE,bE))).1,(((((b.2.set i (b.1,(((b.2.getD i ((0:Int),(bE,bE))).2).1,((b.2.getD i ((0:Int),(bE,bE))).2).2))).set i (((b.2.set i (b.1,(((b.2.getD i ((0:Int),(bE,bE))).2).1,((b.2.getD i ((0:Int),(bE,bE))).2).2))).getD i ((0:Int),(bE,bE))).1,((I9 (wI (b.1+(1:Int)))),(((b.2.set i (b.1,(((b.2.getD i ((0:Int),(bE,bE))).2).1,((b.2.getD i ((0:Int),(bE,bE))).2).2))).getD i ((0:Int),(bE,bE))).2).2))).getD i ((0:Int),(bE,bE))).2).1,(I9 (wI ((wI (b.1+(1:Int)))+(1:Int)))))))
abbrev B6i:SS:=⟨[.all 0 3,tI],[.rows 85 true tq8]⟩
abbrev A7Y:SS:=⟨(.all 0 3::tI::.junk::.junk::.junk::tI::D8B),[.rows 85 true tq8]⟩
abbrev B47:SS:=⟨(.junk::tI::D5v),[.rows 85 true tq8]⟩
noncomputable def B62 (x1 x5:Int) (h0:Lq2):RT A7Y.den:=let z4:=wI (x1+(1:Int));let z3:=wI (z4+(1:Int));let z5:=(h0.getD x5.toNat ((0:Int),(bE,bE))).2;let z2:=h0.set x5.toNat (x1,(z5.1,z5.2));let z7:=z2.getD x5.toNat ((0:Int),(bE,bE));let z1:=z2.set x5.toNat (z7.1,((I9 z4),(z7.2).2));let z6:=z1.getD x5.toNat ((0:Int),(bE,bE));(.br (decide (x5<(h0.length:Int))) (.br (decide (0≤x5∧x5<(h0.length:Int))) (.br (I8 z4) (.br (decide (0≤x5∧x5<((z2.length:Nat):Int))) (.br (I8 z3) (.br (decide (0≤x5∧x5<((z1.length:Nat):Int))) (.next (((),wI (z3+(1:Int)),(),(),(),wI (x5+(1:Int)),u31),(z1.set x5.toNat (z6.1,((z6.2).1,(I9 z3))),()))) .fail) .fail) .fail) .fail) .fail) (.done (.exit 0) B47 (((),x1,u35),(h0,()))))
noncomputable def B18 (x1 x5:Int) (h0:Lq2):CT:=(.br (decide (0≤x5)&&(decide (0≤x1∧x1≤100000*(x5+100))&&okL h0)) (.done (.exit 0) B47 (((),((foldN N9 (h0.length - x5.toNat) x5.toNat (x1,h0)).1),u35),(((foldN N9 (h0.length - x5.toNat) x5.toNat (x1,h0)).2),()))) .fail)
noncomputable abbrev A9n:A7Y.den→RT A7Y.den:=(fun d=>B62 d.1.2.1 d.1.2.2.2.2.2.1 d.2.1)
noncomputable abbrev C2v (x1 x5:Int) (h0:Lq2):A7Y.den:=(((),x1,(),(),(),x5,u31),(h0,()))
noncomputable def B9n:Code:=((D4 0 (A1l Try.f114)).getD 0 (0,.skip)).2
theorem C9S (x1 x5:Int) (h0:Lq2):(B18 x1 x5 h0).val (D:=A7Y.den)=.fail∨Runs A9n (C2v x1 x5 h0) (B18 x1 x5 h0).val:=by
 cases hc:(decide (0≤x5)&&(decide (0≤x1∧x1≤100000*(x5+100))&&okL h0)) with
 | false=>left;simp only [B18,CT.val,hc,cond_false]
 | true =>
  right
  simp only [B18,CT.val,hc,cond_true]
  simp only [Bool.and_eq_true,decide_eq_true_eq] at hc
  obtain ⟨i,rfl⟩:=Int.eq_ofNat_of_zero_le hc.1
  have hs:=A7p hc.2.2
  have hk:=hc.2.1
  simp only [Int.toNat_natCast]
  refine Runs.foldN (step:=A9n) (fun j b=>C2v b.1 (j:Int) b.2) (fun i b=>(0≤b.1∧b.1≤100000*((i:Int)+100))∧b.2.length=h0.length) (h0.length) N9
   (fin:=fun b=>((.done (.exit 0) B47 (((),b.1,u35),(b.2,()))):CT).val) (fun i b hi hb=>?_) (fun i b hi hb=>?_) (h0.length - i) i (x1,h0) rfl ⟨hk,rfl⟩
  ·obtain ⟨k,h⟩:=b
   obtain ⟨hb1,hb2⟩:=hb
   simp only at hb1 hb2
   have w1:wI (k+(1:Int))=k+(1:Int):=A6J (by omega) (by omega)
   have w2:wI (k+(1:Int)+(1:Int))=k+(1:Int)+(1:Int):=A6J (by omega) (by omega)
   have w3:wI (k+(1:Int)+(1:Int)+(1:Int))=k+(1:Int)+(1:Int)+(1:Int):=A6J (by omega) (by omega)
   have e0:(decide (0≤(i:Int)∧(i:Int)<(h.length:Int)))=true:=decide_eq_true (by (try simp only [List.length_set]);omega)
   have e1:(I8 (wI (k+(1:Int))))=true:=by simp only [I8,w1,w2,w3];exact decide_eq_true (by omega)
   have e2:(decide (0≤(i:Int)∧(i:Int)<(((h.set i (k,(((h.getD i ((0:Int),((⟨#[]⟩:ByteArray),(⟨#[]⟩:ByteArray)))).2).1,((h.getD i ((0:Int),((⟨#[]⟩:ByteArray),(⟨#[]⟩:ByteArray)))).2).2))).length:Nat):Int)))=true:=decide_eq_true (by (try simp only [List.length_set]);omega)
   have e3:(I8 (wI ((wI (k+(1:Int)))+(1:Int))))=true:=by simp only [I8,w1,w2,w3];exact decide_eq_true (by omega)
   have e4:(decide (0≤(i:Int)∧(i:Int)<((((h.set i (k,(((h.getD i ((0:Int),((⟨#[]⟩:ByteArray),(⟨#[]⟩:ByteArray)))).2).1,((h.getD i ((0:Int),((⟨#[]⟩:ByteArray),(⟨#[]⟩:ByteArray)))).2).2))).set i (((h.set i (k,(((h.getD i ((0:Int),((⟨#[]⟩:ByteArray),(⟨#[]⟩:ByteArray)))).2).1,((h.getD i ((0:Int),((⟨#[]⟩:ByteArray),(⟨#[]⟩:ByteArray)))).2).2))).getD i ((0:Int),((⟨#[]⟩:ByteArray),(⟨#[]⟩:ByteArray)))).1,((I9 (wI (k+(1:Int)))),(((h.set i (k,(((h.getD i ((0:Int),((⟨#[]⟩:ByteArray),(⟨#[]⟩:ByteArray)))).2).1,((h.getD i ((0:Int),((⟨#[]⟩:ByteArray),(⟨#[]⟩:ByteArray)))).2).2))).getD i ((0:Int),((⟨#[]⟩:ByteArray),(⟨#[]⟩:ByteArray)))).2).2))).length:Nat):Int)))=true:=decide_eq_true (by (try simp only [List.length_set]);omega)
   have h1:decide ((i:Int)<(h.length:Int))=true:=decide_eq_true (by omega)
   have v1:(N9 i (k,h)).1=k+(1:Int)+(1:Int)+(1:Int):=by simp only [N9,w1,w2,w3]
   have v2:(N9 i (k,h)).2.length=h.length:=by simp only [N9,List.length_set]
   refine ⟨⟨by rw [v1];omega,by rw [v2];exact hb2⟩,?_⟩
   simp only [A9n,B62,RT.val,h1,e0,e1,e2,e3,e4,cond_true,A7x i (by omega),Int.toNat_natCast]
   rfl
  ·have h1:decide ((i:Int)<(b.2.length:Int))=false:=decide_eq_false (by omega)
   exact ⟨by simp only [A9n,B62,RT.val,h1,cond_false];rfl,_,_,_,rfl,by simp⟩
noncomputable def C2t (x1 x5:Int) (h0:Lq2):Option (Ex×St):=let z4:=wI (x1+(1:Int));let z3:=wI (z4+(1:Int));let z5:=(h0.getD x5.toNat ((0:Int),(bE,bE))).2;let z2:=h0.set x5.toNat (x1,(z5.1,z5.2));let z7:=z2.getD x5.toNat ((0:Int),(bE,bE));let z1:=z2.set x5.toNat (z7.1,((I9 z4),(z7.2).2));let z6:=z1.getD x5.toNat ((0:Int),(bE,bE));(cond (decide (x5<(h0.length:Int))) (cond (decide (0≤x5∧x5<(h0.length:Int))) (cond (I8 z4) (cond (decide (0≤x5∧x5<((z2.length:Nat):Int))) (cond (I8 z3) (cond (decide (0≤x5∧x5<((z1.length:Nat):Int))) (some (.normal,(⟨((.all 0 3)::(ti (wI (z3+(1:Int))))::.junk::.junk::.junk::(ti (wI (x5+(1:Int))))::D8v),[(.rows 85 true tq8 (z1.set x5.toNat (z6.1,((z6.2).1,(I9 z3)))))],1,[]⟩:St))) none) none) none) none) none) (some ((.exit 0),(⟨(.junk::(ti x1)::D5r),[(.rows 85 true tq8 h0)],1,[]⟩:St))))
theorem C8l:RdA G85 aLn 0 B9n A7Y 1 [] (kepts [] [(0,[1])]) (fun d=>C2t d.1.2.1 d.1.2.2.2.2.2.1 d.2.1):=by
 intro d
 kernel_rfl
theorem C8p:∀ d:A7Y.den,(fun d=>C2t d.1.2.1 d.1.2.2.2.2.2.1 d.2.1) d=(A9n d).opt 1 []:=by
 intro d
 kernel_rfl
noncomputable abbrev C1g:St→Option Tree:=A7Y.say 1 [] [] (fun d=>B18 d.1.2.1 d.1.2.2.2.2.2.1 d.2.1)
theorem C86:aPL C1g B9n:=SS.wp2 hlz [] A9n C8l C8p _ (fun d=>C9S d.1.2.1 d.1.2.2.2.2.2.1 d.2.1)
noncomputable def A74 (x1:Int) (h0:Lq2):Int×Lq2:=let z1:=foldN N9 (h0.length - (0:Int).toNat) (0:Int).toNat (x1,h0);((z1.1),(z1.2))
noncomputable abbrev C7A (r:Int×Lq2):AV×List AObj×List Nat:=((ti r.1),[(.rows 85 true tq8 r.2)],[])
noncomputable abbrev C7O:B6i.den→AV×List AObj×List Nat:=fun d=>C7A (A74 d.1.2.1 d.2.1)
noncomputable def B0d (x1:Int) (h0:Lq2):Bool:=okL h0&&decide (0≤x1∧x1≤10000000)
noncomputable abbrev C4q:B6i.den→Bool:=fun d=>B0d d.1.2.1 d.2.1
noncomputable abbrev D2O:Nat→St→Option Tree:=fun b=>match b with | 0=>C1g | _=>fun _=>none
theorem D06:A7A G85 (D2O) Try.f114 B6i C4q C7O:=by
 rintro ⟨⟨_,x1,_⟩,⟨h0,_⟩⟩ hp
 change B0d x1 h0=true at hp
 unfold B0d at hp
 refine Eq.trans (b:=(let z1:=foldN N9 (h0.length - (0:Int).toNat) (0:Int).toNat (x1,h0);cond (decide (0≤(0:Int))&&(decide (0≤x1∧x1≤100000*((0:Int)+100))&&okL h0)) (some (C7A ((z1.1),(z1.2)))) none)) (by kernel_rfl) ?_
 exact (A7E (by first | rfl | decide | exact hp | (simp only [Bool.and_eq_true] at hp;simp only [hp];done) | (simp [*];done) | (simp [okL] at hp;simp [okL,MAXB];omega) | (simp_all;done) | (simp at *;omega)) (fun _h=>rfl))
noncomputable abbrev C8c:=win E8 (msum B6i C4q C7O)
theorem D3c:aPM 114 C8c:=(mcM G85 (hl1 (i:=0) (by kernel_rfl) C86) D06).win E8
noncomputable def S86:Tab:=Tab.add S85 114 (orLend C8c)
noncomputable def D7R:FuncId→Bool:=D7Q
theorem G86:aPG S86 D7R:=G85.addM D3c.orLend (A6X (A7d _)) (cbl Try.f114) (by kernel_rfl)

abbrev u29:=((),u28)
abbrev B4E:SS:=⟨[.all 0 3,tI],[.deep 32 [85] tq5]⟩
abbrev A0e:SS:=⟨(.all 0 3::tI::.junk::.junk::.junk::tI::D6c),[.deep 32 [85] tq5]⟩
abbrev B9e:SS:=⟨(.junk::tI::D8c),[.deep 32 [85] tq5]⟩
noncomputable def C1t (x1 x5:Int) (h0:Lq1):RT A0e.den:=let z4:=wI ((wI (x1+(1:Int)))+(1:Int));let z5:=(h0.getD x5.toNat ((0:Int),((0:Int),[]))).2;let z2:=h0.set x5.toNat (x1,(z5.1,z5.2));let z6:=z2.getD x5.toNat ((0:Int),((0:Int),[]));let z1:=z2.set x5.toNat (z6.1,(wI (x1+(1:Int)),(z6.2).2));let z3:=z1.getD x5.toNat ((0:Int),((0:Int),[]));let z7:=A74 z4 ((z3.2).2);(.br (decide (x5<(h0.length:Int))) (.br (decide (0≤x5∧x5<(h0.length:Int))) (.br (decide (0≤x5∧x5<((z2.length:Nat):Int))) (.br (decide (0≤x5∧x5<((z1.length:Nat):Int))) (.br (B0d z4 ((z3.2).2)) (.next (((),(z7.1),(),(),(),wI (x5+(1:Int)),u29),(z1.set x5.toNat (z3.1,((z3.2).1,(z7.2))),()))) .fail) .fail) .fail) .fail) (.done (.exit 0) B9e (((),x1,u33),(h0,()))))
abbrev B3t:=(Int)×(Int)×(Lq1)
abbrev B0N:=Nat×(Int)×(Lq1)
def A9V:B0N:=(99,((0:Int):Int),([]:Lq1))
noncomputable def B2K (x1 x5:Int) (h0:Lq1):B3t ⊕ B0N:=let z4:=wI ((wI (x1+(1:Int)))+(1:Int));let z5:=(h0.getD x5.toNat ((0:Int),((0:Int),[]))).2;let z2:=h0.set x5.toNat (x1,(z5.1,z5.2));let z6:=z2.getD x5.toNat ((0:Int),((0:Int),[]));let z1:=z2.set x5.toNat (z6.1,(wI (x1+(1:Int)),(z6.2).2));let z3:=z1.getD x5.toNat ((0:Int),((0:Int),[]));let z7:=A74 z4 ((z3.2).2);(cond (decide (x5<(h0.length:Int))) (cond (decide (0≤x5∧x5<(h0.length:Int))) (cond (decide (0≤x5∧x5<((z2.length:Nat):Int))) (cond (decide (0≤x5∧x5<((z1.length:Nat):Int))) (cond (B0d z4 ((z3.2).2)) (.inl ((z7.1),wI (x5+(1:Int)),z1.set x5.toNat (z3.1,((z3.2).1,(z7.2))))) (.inr A9V)) (.inr A9V)) (.inr A9V)) (.inr A9V)) (.inr (0,x1,h0)))
noncomputable def A91 (x1 x5:Int) (h0:Lq1):B0N:=itX (fun v:B3t=>B2K v.1 v.2.1 v.2.2) A9V (x1,x5,h0)
noncomputable def B5D (a:B0N):CT:=(.br (a.1==0) (.done (.exit 0) B9e (((),a.2.1,u33),(a.2.2,()))) .fail)
noncomputable def C8V (x1 x5:Int) (h0:Lq1):CT:=B5D (A91 x1 x5 h0)
noncomputable abbrev B56:A0e.den→RT A0e.den:=(fun d=>C1t d.1.2.1 d.1.2.2.2.2.2.1 d.2.1)
noncomputable def B7t:Code:=((D4 0 (A1l Try.f73)).getD 0 (0,.skip)).2
noncomputable abbrev C01 (v:B3t):A0e.den:=(((),v.1,(),(),(),v.2.1,u29),(v.2.2,()))
theorem C8t:(∀ v:B3t,(C1t v.1 v.2.1 v.2.2).val=A6D C01 B5D (B2K v.1 v.2.1 v.2.2))∧∀ a:B0N,CEnd A0e.den (B5D a):=⟨fun v=>(A7G (A7G (A7G (A7G (A7G rfl rfl) rfl) rfl) rfl) rfl),fun a=>(A7t aCD A7v)⟩
noncomputable def C0F (x1 x5:Int) (h0:Lq1):Option (Ex×St):=let z4:=wI ((wI (x1+(1:Int)))+(1:Int));let z5:=(h0.getD x5.toNat ((0:Int),((0:Int),[]))).2;let z2:=h0.set x5.toNat (x1,(z5.1,z5.2));let z6:=z2.getD x5.toNat ((0:Int),((0:Int),[]));let z1:=z2.set x5.toNat (z6.1,(wI (x1+(1:Int)),(z6.2).2));let z3:=z1.getD x5.toNat ((0:Int),((0:Int),[]));let z7:=A74 z4 ((z3.2).2);(cond (decide (x5<(h0.length:Int))) (cond (decide (0≤x5∧x5<(h0.length:Int))) (cond (decide (0≤x5∧x5<((z2.length:Nat):Int))) (cond (decide (0≤x5∧x5<((z1.length:Nat):Int))) (cond (B0d z4 ((z3.2).2)) (some (.normal,(⟨((.all 0 3)::(ti (z7.1))::.junk::.junk::.junk::(ti (wI (x5+(1:Int))))::D55),[(.deep 32 [85] tq5 (z1.set x5.toNat (z3.1,((z3.2).1,(z7.2)))))],1,[]⟩:St))) none) none) none) none) (some ((.exit 0),(⟨(.junk::(ti x1)::D72),[(.deep 32 [85] tq5 h0)],1,[]⟩:St))))
theorem C6W:RdA G86 aLn 0 B7t A0e 1 [] (kepts [] [(0,[1])]) (fun d=>C0F d.1.2.1 d.1.2.2.2.2.2.1 d.2.1):=by
 intro d
 kernel_rfl
theorem C62:∀ d:A0e.den,(fun d=>C0F d.1.2.1 d.1.2.2.2.2.2.1 d.2.1) d=(B56 d).opt 1 []:=by
 intro d
 kernel_rfl
noncomputable abbrev B9C:St→Option Tree:=A0e.say 1 [] [] (fun d=>C8V d.1.2.1 d.1.2.2.2.2.2.1 d.2.1)
theorem C77:aPL B9C B7t:=SS.wp2 hlz [] B56 C6W C62 _ (fun d=>Runs.ofI2 (step:=B56) C01 C8t rfl (d.1.2.1,d.1.2.2.2.2.2.1,d.2.1))
noncomputable def B0s (x1:Int) (h0:Lq1):Int×Lq1:=let z1:=A91 x1 (0:Int) h0;((z1.2.1),(z1.2.2))
noncomputable abbrev C52 (r:Int×Lq1):AV×List AObj×List Nat:=((ti r.1),[(.deep 32 [85] tq5 r.2)],[])
noncomputable abbrev C56:B4E.den→AV×List AObj×List Nat:=fun d=>C52 (B0s d.1.2.1 d.2.1)
noncomputable def A77 (x1:Int) (h0:Lq1):Bool:=((A91 x1 (0:Int) h0).1==0)
noncomputable abbrev C2z:B4E.den→Bool:=fun d=>A77 d.1.2.1 d.2.1
noncomputable abbrev D1l:Nat→St→Option Tree:=fun b=>match b with | 0=>B9C | _=>fun _=>none
theorem C9q:A7A G86 (D1l) Try.f73 B4E C2z C56:=by
 rintro ⟨⟨_,x1,_⟩,⟨h0,_⟩⟩ hp
 change A77 x1 h0=true at hp
 unfold A77 at hp
 refine Eq.trans (b:=(let z1:=A91 x1 (0:Int) h0;cond (z1.1==0) (some (C52 ((z1.2.1),(z1.2.2)))) none)) (by kernel_rfl) ?_
 exact (A7E hp fun _h=>rfl)
noncomputable abbrev C6d:=win E8 (msum B4E C2z C56)
theorem D1E:aPM 73 C6d:=(mcM G86 (hl1 (i:=0) (by kernel_rfl) C77) C9q).win E8
noncomputable def S87:Tab:=Tab.add S86 73 (C6d)
noncomputable def D7S:FuncId→Bool:=D7R
theorem G87:aPG S87 D7S:=G86.addM D1E (A7d _) (cbl Try.f73) (by kernel_rfl)


noncomputable def O1 (i:Nat) (b:Int×LBBe):Int×LBBe:=(wI ((wI (b.1+(1:Int)))+(1:Int)),(b.2.set i ((I9 b.1),(b.2.getD i (bE,bE)).2)).set i (((b.2.set i ((I9 b.1),(b.2.getD i (bE,bE)).2)).getD i (bE,bE)).1,(I9 (wI (b.1+(1:Int))))))
abbrev B3q:SS:=⟨[.all 0 2,tI],[.rows 70 true J8]⟩
abbrev A0o:SS:=⟨(.all 0 2::tI::.junk::.junk::.junk::tI::D6a),[.rows 70 true J8]⟩
abbrev B2Y:SS:=⟨(.junk::tI::D5u),[.rows 70 true J8]⟩
noncomputable def B4z (x1 x5:Int) (h0:LBBe):RT A0o.den:=let z1:=h0.set x5.toNat ((I9 x1),(h0.getD x5.toNat (bE,bE)).2);let z2:=wI (x1+(1:Int));(.br (decide (x5<(h0.length:Int))) (.br (I8 x1) (.br (decide (0≤x5∧x5<(h0.length:Int))) (.br (I8 z2) (.br (decide (0≤x5∧x5<((z1.length:Nat):Int))) (.next (((),wI (z2+(1:Int)),(),(),(),wI (x5+(1:Int)),u24),(z1.set x5.toNat ((z1.getD x5.toNat (bE,bE)).1,(I9 z2)),()))) .fail) .fail) .fail) .fail) (.done (.exit 0) B2Y (((),x1,u28),(h0,()))))
noncomputable def A9R (x1 x5:Int) (h0:LBBe):CT:=(.br (decide (0≤x5)&&(decide (0≤x1∧x1≤100000*(x5+100))&&okL h0)) (.done (.exit 0) B2Y (((),((foldN O1 (h0.length - x5.toNat) x5.toNat (x1,h0)).1),u28),(((foldN O1 (h0.length - x5.toNat) x5.toNat (x1,h0)).2),()))) .fail)
noncomputable abbrev A7U:A0o.den→RT A0o.den:=(fun d=>B4z d.1.2.1 d.1.2.2.2.2.2.1 d.2.1)
noncomputable abbrev B9u (x1 x5:Int) (h0:LBBe):A0o.den:=(((),x1,(),(),(),x5,u24),(h0,()))
noncomputable def B6q:Code:=((D4 0 (A1l Try.f74)).getD 0 (0,.skip)).2
theorem C7r (x1 x5:Int) (h0:LBBe):(A9R x1 x5 h0).val (D:=A0o.den)=.fail∨Runs A7U (B9u x1 x5 h0) (A9R x1 x5 h0).val:=by
 cases hc:(decide (0≤x5)&&(decide (0≤x1∧x1≤100000*(x5+100))&&okL h0)) with
 | false=>left;simp only [A9R,CT.val,hc,cond_false]
 | true =>
  right
  simp only [A9R,CT.val,hc,cond_true]
  simp only [Bool.and_eq_true,decide_eq_true_eq] at hc
  obtain ⟨i,rfl⟩:=Int.eq_ofNat_of_zero_le hc.1
  have hs:=A7p hc.2.2
  have hk:=hc.2.1
  simp only [Int.toNat_natCast]
  refine Runs.foldN (step:=A7U) (fun j b=>B9u b.1 (j:Int) b.2) (fun i b=>(0≤b.1∧b.1≤100000*((i:Int)+100))∧b.2.length=h0.length) (h0.length) O1
   (fin:=fun b=>((.done (.exit 0) B2Y (((),b.1,u28),(b.2,()))):CT).val) (fun i b hi hb=>?_) (fun i b hi hb=>?_) (h0.length - i) i (x1,h0) rfl ⟨hk,rfl⟩
  ·obtain ⟨k,h⟩:=b
   obtain ⟨hb1,hb2⟩:=hb
   simp only at hb1 hb2
   have w1:wI (k+(1:Int))=k+(1:Int):=A6J (by omega) (by omega)
   have w2:wI (k+(1:Int)+(1:Int))=k+(1:Int)+(1:Int):=A6J (by omega) (by omega)
   have e0:(I8 k)=true:=by simp only [I8,w1,w2];exact decide_eq_true (by omega)
   have e1:(decide (0≤(i:Int)∧(i:Int)<(h.length:Int)))=true:=decide_eq_true (by (try simp only [List.length_set]);omega)
   have e2:(I8 (wI (k+(1:Int))))=true:=by simp only [I8,w1,w2];exact decide_eq_true (by omega)
   have e3:(decide (0≤(i:Int)∧(i:Int)<(((h.set i ((I9 k),(h.getD i ((⟨#[]⟩:ByteArray),(⟨#[]⟩:ByteArray))).2)).length:Nat):Int)))=true:=decide_eq_true (by (try simp only [List.length_set]);omega)
   have h1:decide ((i:Int)<(h.length:Int))=true:=decide_eq_true (by omega)
   have v1:(O1 i (k,h)).1=k+(1:Int)+(1:Int):=by simp only [O1,w1,w2]
   have v2:(O1 i (k,h)).2.length=h.length:=by simp only [O1,List.length_set]
   refine ⟨⟨by rw [v1];omega,by rw [v2];exact hb2⟩,?_⟩
   simp only [A7U,B4z,RT.val,h1,e0,e1,e2,e3,cond_true,A7x i (by omega),Int.toNat_natCast]
   rfl
  ·have h1:decide ((i:Int)<(b.2.length:Int))=false:=decide_eq_false (by omega)
   exact ⟨by simp only [A7U,B4z,RT.val,h1,cond_false];rfl,_,_,_,rfl,by simp⟩
theorem C5N:RdA G87 aLn 0 B6q A0o 1 [] (kepts [] [(0,[1])]) (fun d=>(A7U d).opt 1 []):=by
 intro d
 kernel_rfl
noncomputable abbrev B7Y:St→Option Tree:=A0o.say 1 [] [] (fun d=>A9R d.1.2.1 d.1.2.2.2.2.2.1 d.2.1)
theorem C6S:aPL B7Y B6q:=SS.wp2 hlz [] A7U C5N (fun d=>rfl) _ (fun d=>C7r d.1.2.1 d.1.2.2.2.2.2.1 d.2.1)
noncomputable def Q0 (x1:Int) (h0:LBBe):Int×LBBe:=let z1:=foldN O1 (h0.length - (0:Int).toNat) (0:Int).toNat (x1,h0);((z1.1),(z1.2))
noncomputable abbrev C30 (r:Int×LBBe):AV×List AObj×List Nat:=((ti r.1),[(.rows 70 true J8 r.2)],[])
noncomputable abbrev C39:B3q.den→AV×List AObj×List Nat:=fun d=>C30 (Q0 d.1.2.1 d.2.1)
noncomputable def A80 (x1:Int) (h0:LBBe):Bool:=okL h0&&decide (0≤x1∧x1≤10000000)
noncomputable abbrev C0P:B3q.den→Bool:=fun d=>A80 d.1.2.1 d.2.1
noncomputable abbrev C9O:Nat→St→Option Tree:=fun b=>match b with | 0=>B7Y | _=>fun _=>none
theorem C8C:A7A G87 (C9O) Try.f74 B3q C0P C39:=by
 rintro ⟨⟨_,x1,_⟩,⟨h0,_⟩⟩ hp
 change A80 x1 h0=true at hp
 unfold A80 at hp
 refine Eq.trans (b:=(let z1:=foldN O1 (h0.length - (0:Int).toNat) (0:Int).toNat (x1,h0);cond (decide (0≤(0:Int))&&(decide (0≤x1∧x1≤100000*((0:Int)+100))&&okL h0)) (some (C30 ((z1.1),(z1.2)))) none)) (by kernel_rfl) ?_
 exact (A7E (by first | rfl | decide | exact hp | (simp only [Bool.and_eq_true] at hp;simp only [hp];done) | (simp [*];done) | (simp [okL] at hp;simp [okL,MAXB];omega) | (simp_all;done) | (simp at *;omega)) (fun _h=>rfl))
noncomputable abbrev C4i:=win E8 (msum B3q C0P C39)
theorem C91:aPM 74 C4i:=(mcM G87 (hl1 (i:=0) (by kernel_rfl) C6S) C8C).win E8
noncomputable def S88:Tab:=Tab.add S87 74 (C4i)
noncomputable def D7T:FuncId→Bool:=D7S
theorem G88:aPG S88 D7T:=G87.addM C91 (A7d _) (cbl Try.f74) (by kernel_rfl)

abbrev B3r:SS:=⟨[.agg [.t true (.int .i64),.all 0 3,.t true (.int .i64),.all 1 2,.all 2 3],tI],[.deep 32 [85] tq5,.rows 70 true J8,.deep 32 [85] tq5]⟩
noncomputable def T9 (x0_0 x0_2 x1:Int) (h0:Lq1) (h1:LBBe) (h2:Lq1):Int×Lq1×LBBe×Lq1:=let z1:=Q0 ((B0s x1 h0).1) h1;let z2:=B0s (z1.1) h2;((z2.1),((B0s x1 h0).2),(z1.2),(z2.2))
noncomputable abbrev C31 (r:Int×Lq1×LBBe×Lq1):AV×List AObj×List Nat:=((ti r.1),[(.deep 32 [85] tq5 r.2.1),(.rows 70 true J8 r.2.2.1),(.deep 32 [85] tq5 r.2.2.2)],[])
noncomputable abbrev C4a:B3r.den→AV×List AObj×List Nat:=fun d=>C31 (T9 d.1.1.1 d.1.1.2.2.1 d.1.2.1 d.2.1 d.2.2.1 d.2.2.2.1)
noncomputable def A0b (x0_0 x0_2 x1:Int) (h0:Lq1) (h1:LBBe) (h2:Lq1):Bool:=let z1:=(B0s x1 h0).1;(A77 x1 h0)&&((A80 z1 h1)&&(A77 ((Q0 z1 h1).1) h2))
noncomputable abbrev C0Q:B3r.den→Bool:=fun d=>A0b d.1.1.1 d.1.1.2.2.1 d.1.2.1 d.2.1 d.2.2.1 d.2.2.2.1
theorem C8D:A7A G88 aLn Try.f34 B3r C0Q C4a:=by
 rintro ⟨⟨⟨x0_0,_,x0_2,_,_,_⟩,x1,_⟩,⟨h0,h1,h2,_⟩⟩ hp
 change A0b x0_0 x0_2 x1 h0 h1 h2=true at hp
 unfold A0b at hp
 refine Eq.trans (b:=(let z2:=B0s x1 h0;let z1:=Q0 (z2.1) h1;let z3:=B0s (z1.1) h2;cond (A77 x1 h0) (cond (A80 (z2.1) h1) (cond (A77 (z1.1) h2) (some (C31 ((z3.1),(z2.2),(z1.2),(z3.2)))) none) none) none)) (by kernel_rfl) ?_
 exact (A7C hp fun hp=>(A7C hp fun hp=>(A7E hp fun _h=>rfl)))
noncomputable abbrev C4j:=win E8 (msum B3r C0Q C4a)
theorem C92:aPM 34 C4j:=(mcM G88 hlz C8D).win E8
noncomputable def S89:Tab:=Tab.add S88 34 (C4j)
noncomputable def D7U:FuncId→Bool:=D7T
theorem G89:aPG S89 D7U:=G88.addM C92 (A7d _) (cbl Try.f34) (by kernel_rfl)


noncomputable def O6 (x0:Lq2) (i:Nat) (k:Int):Int ⊕ Unit:=(cond (((x0.getD i ((0:Int),(bE,bE))).1) != k) (.inr ()) (cond (!((((x0.getD i ((0:Int),(bE,bE))).2).1).toList==(I9 (wI (k+(1:Int)))).toList)) (.inr ()) (cond (!((((x0.getD i ((0:Int),(bE,bE))).2).2).toList==(I9 (wI ((wI (k+(1:Int)))+(1:Int)))).toList)) (.inr ()) (.inl (wI ((wI ((wI (k+(1:Int)))+(1:Int)))+(1:Int)))))))
abbrev B5h:List PSh:=[.t tq4,.t (.int .i64)]
abbrev A7X:SS:=⟨(.t false tq4::tI::.junk::.junk::.junk::tI::D5w),[]⟩
abbrev W5:SS:=⟨(.junk::.junk::.junk::.junk::tI::D5x),[]⟩
abbrev B46:SS:=⟨(.junk::tI::D4x),[]⟩
noncomputable def B61 (x0:Lq2) (x1 x5:Int):RT A7X.den:=let z2:=x0.getD x5.toNat ((0:Int),(bE,bE));let z3:=decide (0≤x5∧x5<(x0.length:Int));let z4:=wI (x1+(1:Int));let z1:=wI (z4+(1:Int));(.br (decide (x5<(x0.length:Int))) (.br z3 (.br ((z2.1) != x1) (.done .ret W5 (((),(),(),(),(-1:Int),u38),())) (.br z3 (.br (I8 z4) (.br (!(((z2.2).1).toList==(I9 z4).toList)) (.done .ret W5 (((),(),(),(),(-1:Int),u38),())) (.br z3 (.br (I8 z1) (.br (!(((z2.2).2).toList==(I9 z1).toList)) (.done .ret W5 (((),(),(),(),(-1:Int),u38),())) (.next ((x0,wI (z1+(1:Int)),(),(),(),wI (x5+(1:Int)),u37),()))) .fail) .fail)) .fail) .fail)) .fail) (.done (.exit 0) B46 (((),x1,u41),())))
noncomputable def B17 (x0:Lq2) (x1 x5:Int):CT:=(.br (decide (0≤x5)&&(decide (0≤x1∧x1≤100000*(x5+100))&&okL x0)) (.br (A7w (loopN (O6 x0) (x0.length - x5.toNat) x5.toNat x1)) (.done (.exit 0) B46 (((),(A7n (-1) (loopN (O6 x0) (x0.length - x5.toNat) x5.toNat x1)),u41),())) (.done .ret W5 (((),(),(),(),(-1:Int),u38),()))) .fail)
noncomputable abbrev A8f:A7X.den→RT A7X.den:=(fun d=>B61 d.1.1 d.1.2.1 d.1.2.2.2.2.2.1)
noncomputable abbrev B3B (x0:Lq2) (x1 x5:Int):A7X.den:=((x0,x1,(),(),(),x5,u37),())
noncomputable def B9m:Code:=((D4 0 (A1l Try.f116)).getD 0 (0,.skip)).2
theorem C9R (x0:Lq2) (x1 x5:Int):(B17 x0 x1 x5).val (D:=A7X.den)=.fail∨Runs A8f (B3B x0 x1 x5) (B17 x0 x1 x5).val:=by
 cases hc:(decide (0≤x5)&&(decide (0≤x1∧x1≤100000*(x5+100))&&okL x0)) with
 | false=>left;simp only [B17,CT.val,hc,cond_false]
 | true =>
  right
  simp only [B17,CT.val,hc,cond_true]
  simp only [Bool.and_eq_true,decide_eq_true_eq] at hc
  obtain ⟨i,rfl⟩:=Int.eq_ofNat_of_zero_le hc.1
  have hs:=A7p hc.2.2
  have hk:=hc.2.1
  simp only [Int.toNat_natCast]
  have h:=Runs.loopN (step:=A8f) (fun j b=>B3B x0 b (j:Int)) (fun i b=>0≤b∧b≤100000*((i:Int)+100)) (x0.length) (O6 x0)
   (fin:=fun b=>((.done (.exit 0) B46 (((),b,u41),())):CT).val) (bad:=fun _=>((.done .ret W5 (((),(),(),(),(-1:Int),u38),())):CT).val)
   (fun i b hi hb=>?_) (fun i b hi hb=>?_) (x0.length - i) i x1 rfl hk
  ·revert h
   cases loopN (O6 x0) (x0.length - i) i x1 with
   | inl b=>exact id
   | inr c=>exact id
  ·revert hb
   generalize b=k
   intro hb
   have w1:wI (k+(1:Int))=k+(1:Int):=A6J (by omega) (by omega)
   have w2:wI (k+(1:Int)+(1:Int))=k+(1:Int)+(1:Int):=A6J (by omega) (by omega)
   have w3:wI (k+(1:Int)+(1:Int)+(1:Int))=k+(1:Int)+(1:Int)+(1:Int):=A6J (by omega) (by omega)
   have e0:(decide (0≤(i:Int)∧(i:Int)<(x0.length:Int)))=true:=decide_eq_true (by omega)
   have e1:(decide (0≤(i:Int)∧(i:Int)<(x0.length:Int)))=true:=decide_eq_true (by omega)
   have e2:(I8 (wI (k+(1:Int))))=true:=by simp only [I8,w1,w2,w3];exact decide_eq_true (by omega)
   have e3:(decide (0≤(i:Int)∧(i:Int)<(x0.length:Int)))=true:=decide_eq_true (by omega)
   have e4:(I8 (wI ((wI (k+(1:Int)))+(1:Int))))=true:=by simp only [I8,w1,w2,w3];exact decide_eq_true (by omega)
   have h1:decide ((i:Int)<(x0.length:Int))=true:=decide_eq_true (by omega)
   have e:(A8f (B3B x0 k (i:Int))).val=(cond (((x0.getD i ((0:Int),((⟨#[]⟩:ByteArray),(⟨#[]⟩:ByteArray)))).1) != k) ((.done .ret W5 (((),(),(),(),(-1:Int),u38),())):CT).val (cond (!((((x0.getD i ((0:Int),((⟨#[]⟩:ByteArray),(⟨#[]⟩:ByteArray)))).2).1).toList==(I9 (wI (k+(1:Int)))).toList)) ((.done .ret W5 (((),(),(),(),(-1:Int),u38),())):CT).val (cond (!((((x0.getD i ((0:Int),((⟨#[]⟩:ByteArray),(⟨#[]⟩:ByteArray)))).2).2).toList==(I9 (wI ((wI (k+(1:Int)))+(1:Int)))).toList)) ((.done .ret W5 (((),(),(),(),(-1:Int),u38),())):CT).val (.next (B3B x0 (wI ((wI ((wI (k+(1:Int)))+(1:Int)))+(1:Int))) ((i+1:Nat):Int)))))):=by
    simp only [A8f,B61,RT.val,h1,e0,e1,e2,e3,e4,cond_true,A7x i (by omega),Int.toNat_natCast]
    rfl
   cases g0:(((x0.getD i ((0:Int),((⟨#[]⟩:ByteArray),(⟨#[]⟩:ByteArray)))).1) != k) with
   | true=>exact .inr ⟨(),_,_,_,by simp only [O6,g0,cond_true,cond_false],by rw [e,g0];rfl,rfl,by simp⟩
   | false =>
    cases g1:(!((((x0.getD i ((0:Int),((⟨#[]⟩:ByteArray),(⟨#[]⟩:ByteArray)))).2).1).toList==(I9 (wI (k+(1:Int)))).toList)) with
    | true=>exact .inr ⟨(),_,_,_,by simp only [O6,g0,g1,cond_true,cond_false],by rw [e,g0,g1];rfl,rfl,by simp⟩
    | false =>
     cases g2:(!((((x0.getD i ((0:Int),((⟨#[]⟩:ByteArray),(⟨#[]⟩:ByteArray)))).2).2).toList==(I9 (wI ((wI (k+(1:Int)))+(1:Int)))).toList)) with
     | true=>exact .inr ⟨(),_,_,_,by simp only [O6,g0,g1,g2,cond_true,cond_false],by rw [e,g0,g1,g2];rfl,rfl,by simp⟩
     | false =>
      exact .inl ⟨wI ((wI ((wI (k+(1:Int)))+(1:Int)))+(1:Int)),by simp only [O6,g0,g1,g2,cond_false],by rw [w1,w2,w3];omega,by rw [e,g0,g1,g2];rfl⟩
  ·have h1:decide ((i:Int)<(x0.length:Int))=false:=decide_eq_false (by omega)
   exact ⟨by simp only [A8f,B61,RT.val,h1,cond_false];rfl,_,_,_,rfl,by simp⟩
noncomputable def C2s (x0:Lq2) (x1 x5:Int):Option (Ex×St):=let z1:=(⟨(.junk::.junk::.junk::.junk::(ti (-1:Int))::D57),[],0,[]⟩:St);let z3:=x0.getD x5.toNat ((0:Int),(bE,bE));let z4:=decide (0≤x5∧x5<(x0.length:Int));let z5:=wI (x1+(1:Int));let z2:=wI (z5+(1:Int));(cond (decide (x5<(x0.length:Int))) (cond z4 (cond ((z3.1) != x1) (some (.ret,z1)) (cond z4 (cond (I8 z5) (cond (!(((z3.2).1).toList==(I9 z5).toList)) (some (.ret,z1)) (cond z4 (cond (I8 z2) (cond (!(((z3.2).2).toList==(I9 z2).toList)) (some (.ret,z1)) (some (.normal,(⟨((.t false tq4 x0)::(ti (wI (z2+(1:Int))))::.junk::.junk::.junk::(ti (wI (x5+(1:Int))))::D4s),[],0,[]⟩:St)))) none) none)) none) none)) none) (some ((.exit 0),(⟨(.junk::(ti x1)::D4t),[],0,[]⟩:St))))
theorem C8k:RdA G89 aLn 0 B9m A7X 0 [] (kepts [4] [(0,[1])]) (fun d=>C2s d.1.1 d.1.2.1 d.1.2.2.2.2.2.1):=by
 intro d
 kernel_rfl
theorem C8o:∀ d:A7X.den,(fun d=>C2s d.1.1 d.1.2.1 d.1.2.2.2.2.2.1) d=(A8f d).opt 0 []:=by
 intro d
 kernel_rfl
noncomputable abbrev C1f:St→Option Tree:=A7X.say 0 [] [] (fun d=>B17 d.1.1 d.1.2.1 d.1.2.2.2.2.2.1)
theorem C85:aPL C1f B9m:=SS.wp2 hlz [] A8f C8k C8o _ (fun d=>C9R d.1.1 d.1.2.1 d.1.2.2.2.2.2.1)
noncomputable def B7G (a0:Lq2) (a1:Int):Int:=let z1:=loopN (O6 a0) (a0.length - (0:Int).toNat) (0:Int).toNat a1;(cond (A7w z1) (A7n (-1) z1) (-1:Int))
noncomputable abbrev B8m (r:Int):AV×List AObj:=((ti r),[])
noncomputable abbrev C2W:H7 B5h→AV×List AObj:=fun d=>B8m (B7G d.1 d.2.1)
noncomputable def B0c (a0:Lq2) (a1:Int):Bool:=okL a0&&decide (0≤a1∧a1≤10000000)
noncomputable abbrev B8P:H7 B5h→Bool:=fun d=>B0c d.1 d.2.1
noncomputable abbrev D2N:Nat→St→Option Tree:=fun b=>match b with | 0=>C1f | _=>fun _=>none
theorem D05:A7B true G89 (D2N) Try.f116 B5h B8P C2W:=by
 rintro ⟨a0,⟨a1,_⟩⟩ hp
 change B0c a0 a1=true at hp
 unfold B0c at hp
 refine Eq.trans (b:=(let z1:=loopN (O6 a0) (a0.length - (0:Int).toNat) (0:Int).toNat a1;cond (decide (0≤(0:Int))&&(decide (0≤a1∧a1≤100000*((0:Int)+100))&&okL a0)) (cond (A7w z1) (some (B8m (A7n (-1) z1))) (some (B8m (-1:Int)))) none)) (by kernel_rfl) ?_
 exact (A7E (by first | rfl | decide | exact hp | (simp only [Bool.and_eq_true] at hp;simp only [hp];done) | (simp [*];done) | (simp [okL] at hp;simp [okL,MAXB];omega) | (simp_all;done) | (simp at *;omega)) (fun _h=>(P9 B8m (fun _h=>rfl) (fun _h=>rfl))))
theorem D3b:aPP 116 (A21 B5h B8P C2W):=pcD true G89 (hl1 (i:=0) (by kernel_rfl) C85) D05
noncomputable def S90:Tab:=Tab.add S89 116 (lift (A21 B5h B8P C2W))
noncomputable def D7V:FuncId→Bool:=qadd D7U 116
theorem G90:aPG S90 D7V:=G89.addQ D3b (cbl Try.f116) (fun _=>rfl)

abbrev B3I:List PSh:=[.t tq3,.t (.int .i64)]
abbrev A0d:SS:=⟨(.t false tq3::tI::.junk::.junk::.junk::tI::D5v),[]⟩
abbrev B02:SS:=⟨(.junk::.junk::.junk::.junk::tI::D8d),[]⟩
abbrev B9d:SS:=⟨(.junk::tI::D5y),[]⟩
noncomputable def C1s (x0:Lq1) (x1 x5:Int):RT A0d.den:=let z1:=x0.getD x5.toNat ((0:Int),((0:Int),[]));let z3:=decide (0≤x5∧x5<(x0.length:Int));let z4:=wI (x1+(1:Int));let z2:=wI (z4+(1:Int));let z5:=B7G ((z1.2).2) z2;(.br (decide (x5<(x0.length:Int))) (.br z3 (.br ((z1.1) != x1) (.done .ret B02 (((),(),(),(),(-1:Int),u36),())) (.br z3 (.br (((z1.2).1) != z4) (.done .ret B02 (((),(),(),(),(-1:Int),u36),())) (.br z3 (.br (B0c ((z1.2).2) z2) (.br (decide (z5<(0:Int))) (.done .ret B02 (((),(),(),(),(-1:Int),u36),())) (.next ((x0,z5,(),(),(),wI (x5+(1:Int)),u35),()))) .fail) .fail)) .fail)) .fail) (.done (.exit 0) B9d (((),x1,u39),())))
abbrev B3s:=(Lq1)×(Int)×(Int)
abbrev B0M:=Nat×(Int)×(Int)
def A9U:B0M:=(99,((0:Int):Int),((0:Int):Int))
noncomputable def B2J (x0:Lq1) (x1 x5:Int):B3s ⊕ B0M:=let z1:=x0.getD x5.toNat ((0:Int),((0:Int),[]));let z3:=decide (0≤x5∧x5<(x0.length:Int));let z4:=wI (x1+(1:Int));let z2:=wI (z4+(1:Int));let z5:=B7G ((z1.2).2) z2;(cond (decide (x5<(x0.length:Int))) (cond z3 (cond ((z1.1) != x1) (.inr (0,(-1:Int),((0:Int):Int))) (cond z3 (cond (((z1.2).1) != z4) (.inr (0,(-1:Int),((0:Int):Int))) (cond z3 (cond (B0c ((z1.2).2) z2) (cond (decide (z5<(0:Int))) (.inr (0,(-1:Int),((0:Int):Int))) (.inl (x0,z5,wI (x5+(1:Int))))) (.inr A9U)) (.inr A9U))) (.inr A9U))) (.inr A9U)) (.inr (1,((0:Int):Int),x1)))
noncomputable def A90 (x0:Lq1) (x1 x5:Int):B0M:=itX (fun v:B3s=>B2J v.1 v.2.1 v.2.2) A9U (x0,x1,x5)
noncomputable def B5C (a:B0M):CT:=(.br (a.1==0) (.done .ret B02 (((),(),(),(),a.2.1,u36),())) (.br (a.1==1) (.done (.exit 0) B9d (((),a.2.2,u39),())) .fail))
noncomputable def C8U (x0:Lq1) (x1 x5:Int):CT:=B5C (A90 x0 x1 x5)
noncomputable abbrev B55:A0d.den→RT A0d.den:=(fun d=>C1s d.1.1 d.1.2.1 d.1.2.2.2.2.2.1)
noncomputable def B7s:Code:=((D4 0 (A1l Try.f75)).getD 0 (0,.skip)).2
noncomputable abbrev C00 (v:B3s):A0d.den:=((v.1,v.2.1,(),(),(),v.2.2,u35),())
theorem C8s:(∀ v:B3s,(C1s v.1 v.2.1 v.2.2).val=A6D C00 B5C (B2J v.1 v.2.1 v.2.2))∧∀ a:B0M,CEnd A0d.den (B5C a):=⟨fun v=>by repeat' first | apply A7G | rfl,fun a=>(A7t aCD (A7t aCD A7v))⟩
noncomputable def C0E (x0:Lq1) (x1 x5:Int):Option (Ex×St):=let z1:=x0.getD x5.toNat ((0:Int),((0:Int),[]));let z2:=(⟨(.junk::.junk::.junk::.junk::(ti (-1:Int))::D6w),[],0,[]⟩:St);let z4:=decide (0≤x5∧x5<(x0.length:Int));let z5:=wI (x1+(1:Int));let z3:=wI (z5+(1:Int));let z6:=B7G ((z1.2).2) z3;(cond (decide (x5<(x0.length:Int))) (cond z4 (cond ((z1.1) != x1) (some (.ret,z2)) (cond z4 (cond (((z1.2).1) != z5) (some (.ret,z2)) (cond z4 (cond (B0c ((z1.2).2) z3) (cond (decide (z6<(0:Int))) (some (.ret,z2)) (some (.normal,(⟨((.t false tq3 x0)::(ti z6)::.junk::.junk::.junk::(ti (wI (x5+(1:Int))))::D5r),[],0,[]⟩:St)))) none) none)) none)) none) (some ((.exit 0),(⟨(.junk::(ti x1)::D3k),[],0,[]⟩:St))))
theorem C6V:RdA G90 aLn 0 B7s A0d 0 [] (kepts [4] [(0,[1])]) (fun d=>C0E d.1.1 d.1.2.1 d.1.2.2.2.2.2.1):=by
 intro d
 kernel_rfl
theorem C61:∀ d:A0d.den,(fun d=>C0E d.1.1 d.1.2.1 d.1.2.2.2.2.2.1) d=(B55 d).opt 0 []:=by
 intro d
 kernel_rfl
noncomputable abbrev B9B:St→Option Tree:=A0d.say 0 [] [] (fun d=>C8U d.1.1 d.1.2.1 d.1.2.2.2.2.2.1)
theorem C76:aPL B9B B7s:=SS.wp2 hlz [] B55 C6V C61 _ (fun d=>Runs.ofI2 (step:=B55) C00 C8s rfl (d.1.1,d.1.2.1,d.1.2.2.2.2.2.1))
noncomputable def A8z (a0:Lq1) (a1:Int):Int:=let z1:=A90 a0 a1 (0:Int);(cond (z1.1==0) (z1.2.1) (z1.2.2))
noncomputable abbrev B6u (r:Int):AV×List AObj:=((ti r),[])
noncomputable abbrev C0v:H7 B3I→AV×List AObj:=fun d=>B6u (A8z d.1 d.2.1)
noncomputable def A76 (a0:Lq1) (a1:Int):Bool:=let z1:=A90 a0 a1 (0:Int);cond (z1.1==0) true (z1.1==1)
noncomputable abbrev B6U:H7 B3I→Bool:=fun d=>A76 d.1 d.2.1
noncomputable abbrev D1k:Nat→St→Option Tree:=fun b=>match b with | 0=>B9B | _=>fun _=>none
theorem C9p:A7B true G90 (D1k) Try.f75 B3I B6U C0v:=by
 rintro ⟨a0,⟨a1,_⟩⟩ hp
 change A76 a0 a1=true at hp
 unfold A76 at hp
 refine Eq.trans (b:=(let z1:=A90 a0 a1 (0:Int);cond (z1.1==0) (some (B6u (z1.2.1))) (cond (z1.1==1) (some (B6u (z1.2.2))) none))) (by kernel_rfl) ?_
 exact (M2 B6u hp (fun hp=>rfl) (fun hp=>(A7E hp fun _h=>rfl)))
theorem D1D:aPP 75 (A21 B3I B6U C0v):=pcD true G90 (hl1 (i:=0) (by kernel_rfl) C76) C9p
noncomputable def S91:Tab:=Tab.add S90 75 (lift (A21 B3I B6U C0v))
noncomputable def D7W:FuncId→Bool:=qadd D7V 75
theorem G91:aPG S91 D7W:=G90.addQ D1D (cbl Try.f75) (fun _=>rfl)


noncomputable def N3 (x0:LBBe) (i:Nat) (k:Int):Int ⊕ Unit:=(cond (!(((x0.getD i (bE,bE)).1).toList==(I9 k).toList)) (.inr ()) (cond (!(((x0.getD i (bE,bE)).2).toList==(I9 (wI (k+(1:Int)))).toList)) (.inr ()) (.inl (wI ((wI (k+(1:Int)))+(1:Int))))))
abbrev B10:List PSh:=[.t tq6,.t (.int .i64)]
abbrev X1:SS:=⟨(.t false tq6::tI::.junk::.junk::.junk::tI::D5u),[]⟩
abbrev A0i:SS:=⟨(.junk::.junk::.junk::.junk::tI::D6c),[]⟩
abbrev B2X:SS:=⟨(.junk::tI::D6d),[]⟩
noncomputable def B4y (x0:LBBe) (x1 x5:Int):RT X1.den:=let z1:=wI (x1+(1:Int));let z2:=decide (0≤x5∧x5<(x0.length:Int));let z3:=x0.getD x5.toNat (bE,bE);(.br (decide (x5<(x0.length:Int))) (.br z2 (.br (I8 x1) (.br (!((z3.1).toList==(I9 x1).toList)) (.done .ret A0i (((),(),(),(),(-1:Int),u29),())) (.br z2 (.br (I8 z1) (.br (!((z3.2).toList==(I9 z1).toList)) (.done .ret A0i (((),(),(),(),(-1:Int),u29),())) (.next ((x0,wI (z1+(1:Int)),(),(),(),wI (x5+(1:Int)),u28),()))) .fail) .fail)) .fail) .fail) (.done (.exit 0) B2X (((),x1,u32),())))
noncomputable def A9Q (x0:LBBe) (x1 x5:Int):CT:=(.br (decide (0≤x5)&&(decide (0≤x1∧x1≤100000*(x5+100))&&okL x0)) (.br (A7w (loopN (N3 x0) (x0.length - x5.toNat) x5.toNat x1)) (.done (.exit 0) B2X (((),(A7n (-1) (loopN (N3 x0) (x0.length - x5.toNat) x5.toNat x1)),u32),())) (.done .ret A0i (((),(),(),(),(-1:Int),u29),()))) .fail)
noncomputable abbrev Z5:X1.den→RT X1.den:=(fun d=>B4y d.1.1 d.1.2.1 d.1.2.2.2.2.2.1)
noncomputable abbrev B1b (x0:LBBe) (x1 x5:Int):X1.den:=((x0,x1,(),(),(),x5,u28),())
noncomputable def B6p:Code:=((D4 0 (A1l Try.f76)).getD 0 (0,.skip)).2
theorem C7q (x0:LBBe) (x1 x5:Int):(A9Q x0 x1 x5).val (D:=X1.den)=.fail∨Runs Z5 (B1b x0 x1 x5) (A9Q x0 x1 x5).val:=by
 cases hc:(decide (0≤x5)&&(decide (0≤x1∧x1≤100000*(x5+100))&&okL x0)) with
 | false=>left;simp only [A9Q,CT.val,hc,cond_false]
 | true =>
  right
  simp only [A9Q,CT.val,hc,cond_true]
  simp only [Bool.and_eq_true,decide_eq_true_eq] at hc
  obtain ⟨i,rfl⟩:=Int.eq_ofNat_of_zero_le hc.1
  have hs:=A7p hc.2.2
  have hk:=hc.2.1
  simp only [Int.toNat_natCast]
  have h:=Runs.loopN (step:=Z5) (fun j b=>B1b x0 b (j:Int)) (fun i b=>0≤b∧b≤100000*((i:Int)+100)) (x0.length) (N3 x0)
   (fin:=fun b=>((.done (.exit 0) B2X (((),b,u32),())):CT).val) (bad:=fun _=>((.done .ret A0i (((),(),(),(),(-1:Int),u29),())):CT).val)
   (fun i b hi hb=>?_) (fun i b hi hb=>?_) (x0.length - i) i x1 rfl hk
  ·revert h
   cases loopN (N3 x0) (x0.length - i) i x1 with
   | inl b=>exact id
   | inr c=>exact id
  ·revert hb
   generalize b=k
   intro hb
   have w1:wI (k+(1:Int))=k+(1:Int):=A6J (by omega) (by omega)
   have w2:wI (k+(1:Int)+(1:Int))=k+(1:Int)+(1:Int):=A6J (by omega) (by omega)
   have e0:(decide (0≤(i:Int)∧(i:Int)<(x0.length:Int)))=true:=decide_eq_true (by omega)
   have e1:(I8 k)=true:=by simp only [I8,w1,w2];exact decide_eq_true (by omega)
   have e2:(decide (0≤(i:Int)∧(i:Int)<(x0.length:Int)))=true:=decide_eq_true (by omega)
   have e3:(I8 (wI (k+(1:Int))))=true:=by simp only [I8,w1,w2];exact decide_eq_true (by omega)
   have h1:decide ((i:Int)<(x0.length:Int))=true:=decide_eq_true (by omega)
   have e:(Z5 (B1b x0 k (i:Int))).val=(cond (!(((x0.getD i ((⟨#[]⟩:ByteArray),(⟨#[]⟩:ByteArray))).1).toList==(I9 k).toList)) ((.done .ret A0i (((),(),(),(),(-1:Int),u29),())):CT).val (cond (!(((x0.getD i ((⟨#[]⟩:ByteArray),(⟨#[]⟩:ByteArray))).2).toList==(I9 (wI (k+(1:Int)))).toList)) ((.done .ret A0i (((),(),(),(),(-1:Int),u29),())):CT).val (.next (B1b x0 (wI ((wI (k+(1:Int)))+(1:Int))) ((i+1:Nat):Int))))):=by
    simp only [Z5,B4y,RT.val,h1,e0,e1,e2,e3,cond_true,A7x i (by omega),Int.toNat_natCast]
    rfl
   cases g0:(!(((x0.getD i ((⟨#[]⟩:ByteArray),(⟨#[]⟩:ByteArray))).1).toList==(I9 k).toList)) with
   | true=>exact .inr ⟨(),_,_,_,by simp only [N3,g0,cond_true,cond_false],by rw [e,g0];rfl,rfl,by simp⟩
   | false =>
    cases g1:(!(((x0.getD i ((⟨#[]⟩:ByteArray),(⟨#[]⟩:ByteArray))).2).toList==(I9 (wI (k+(1:Int)))).toList)) with
    | true=>exact .inr ⟨(),_,_,_,by simp only [N3,g0,g1,cond_true,cond_false],by rw [e,g0,g1];rfl,rfl,by simp⟩
    | false =>
     exact .inl ⟨wI ((wI (k+(1:Int)))+(1:Int)),by simp only [N3,g0,g1,cond_false],by rw [w1,w2];omega,by rw [e,g0,g1];rfl⟩
  ·have h1:decide ((i:Int)<(x0.length:Int))=false:=decide_eq_false (by omega)
   exact ⟨by simp only [Z5,B4y,RT.val,h1,cond_false];rfl,_,_,_,rfl,by simp⟩
noncomputable def B9t (x0:LBBe) (x1 x5:Int):Option (Ex×St):=let z1:=(⟨(.junk::.junk::.junk::.junk::(ti (-1:Int))::D55),[],0,[]⟩:St);let z2:=wI (x1+(1:Int));let z3:=decide (0≤x5∧x5<(x0.length:Int));let z4:=x0.getD x5.toNat (bE,bE);(cond (decide (x5<(x0.length:Int))) (cond z3 (cond (I8 x1) (cond (!((z4.1).toList==(I9 x1).toList)) (some (.ret,z1)) (cond z3 (cond (I8 z2) (cond (!((z4.2).toList==(I9 z2).toList)) (some (.ret,z1)) (some (.normal,(⟨((.t false tq6 x0)::(ti (wI (z2+(1:Int))))::.junk::.junk::.junk::(ti (wI (x5+(1:Int))))::D6u),[],0,[]⟩:St)))) none) none)) none) none) (some ((.exit 0),(⟨(.junk::(ti x1)::D56),[],0,[]⟩:St))))
theorem C5M:RdA G91 aLn 0 B6p X1 0 [] (kepts [4] [(0,[1])]) (fun d=>B9t d.1.1 d.1.2.1 d.1.2.2.2.2.2.1):=by
 intro d
 kernel_rfl
theorem C5S:∀ d:X1.den,(fun d=>B9t d.1.1 d.1.2.1 d.1.2.2.2.2.2.1) d=(Z5 d).opt 0 []:=by
 intro d
 kernel_rfl
noncomputable abbrev B7X:St→Option Tree:=X1.say 0 [] [] (fun d=>A9Q d.1.1 d.1.2.1 d.1.2.2.2.2.2.1)
theorem C6R:aPL B7X B6p:=SS.wp2 hlz [] Z5 C5M C5S _ (fun d=>C7q d.1.1 d.1.2.1 d.1.2.2.2.2.2.1)
noncomputable def A95 (a0:LBBe) (a1:Int):Int:=let z1:=loopN (N3 a0) (a0.length - (0:Int).toNat) (0:Int).toNat a1;(cond (A7w z1) (A7n (-1) z1) (-1:Int))
noncomputable abbrev B4L (r:Int):AV×List AObj:=((ti r),[])
noncomputable abbrev B8v:H7 B10→AV×List AObj:=fun d=>B4L (A95 d.1 d.2.1)
noncomputable def A8Y (a0:LBBe) (a1:Int):Bool:=okL a0&&decide (0≤a1∧a1≤10000000)
noncomputable abbrev B5W:H7 B10→Bool:=fun d=>A8Y d.1 d.2.1
noncomputable abbrev C9N:Nat→St→Option Tree:=fun b=>match b with | 0=>B7X | _=>fun _=>none
theorem C8A:A7B true G91 (C9N) Try.f76 B10 B5W B8v:=by
 rintro ⟨a0,⟨a1,_⟩⟩ hp
 change A8Y a0 a1=true at hp
 unfold A8Y at hp
 refine Eq.trans (b:=(let z1:=loopN (N3 a0) (a0.length - (0:Int).toNat) (0:Int).toNat a1;cond (decide (0≤(0:Int))&&(decide (0≤a1∧a1≤100000*((0:Int)+100))&&okL a0)) (cond (A7w z1) (some (B4L (A7n (-1) z1))) (some (B4L (-1:Int)))) none)) (by kernel_rfl) ?_
 exact (A7E (by first | rfl | decide | exact hp | (simp only [Bool.and_eq_true] at hp;simp only [hp];done) | (simp [*];done) | (simp [okL] at hp;simp [okL,MAXB];omega) | (simp_all;done) | (simp at *;omega)) (fun _h=>(P9 B4L (fun _h=>rfl) (fun _h=>rfl))))
theorem C9Z:aPP 76 (A21 B10 B5W B8v):=pcD true G91 (hl1 (i:=0) (by kernel_rfl) C6R) C8A
noncomputable def S92:Tab:=Tab.add S91 76 (lift (A21 B10 B5W B8v))
noncomputable def D7X:FuncId→Bool:=qadd D7W 76
theorem G92:aPG S92 D7X:=G91.addQ C9Z (cbl Try.f76) (fun _=>rfl)

abbrev B11:List PSh:=[.agg [(.int .i64),tq3,(.int .i64),tq6,tq3],.t (.int .i64)]
noncomputable def B8G (a0:Int) (a1:Lq1) (a2:Int) (a3:LBBe) (a4:Lq1) (a5:Int):Int:=let z1:=A95 a3 (A8z a1 a5);(cond (decide ((A8z a1 a5)<(0:Int))) (-1:Int) (cond (decide (z1<(0:Int))) (-1:Int) (cond (decide ((A8z a4 z1)<(0:Int))) (-1:Int) (A8z a4 z1))))
noncomputable abbrev B0o (r:Int):AV×List AObj:=((ti r),[])
noncomputable abbrev B8w:H7 B11→AV×List AObj:=fun d=>B0o (B8G d.1.1 d.1.2.1 d.1.2.2.1 d.1.2.2.2.1 d.1.2.2.2.2.1 d.2.1)
noncomputable def A8Z (a0:Int) (a1:Lq1) (a2:Int) (a3:LBBe) (a4:Lq1) (a5:Int):Bool:=let z1:=A8z a1 a5;(A76 a1 a5)&&(cond (decide (z1<(0:Int))) true ((A8Y a3 z1)&&(cond (decide ((A95 a3 z1)<(0:Int))) true (A76 a4 (A95 a3 z1)))))
noncomputable abbrev B5X:H7 B11→Bool:=fun d=>A8Z d.1.1 d.1.2.1 d.1.2.2.1 d.1.2.2.2.1 d.1.2.2.2.2.1 d.2.1
theorem C8B:A7B true G92 aLn Try.f35 B11 B5X B8w:=by
 rintro ⟨⟨a0,⟨a1,⟨a2,⟨a3,⟨a4,_⟩⟩⟩⟩⟩,⟨a5,_⟩⟩ hp
 change A8Z a0 a1 a2 a3 a4 a5=true at hp
 unfold A8Z at hp
 refine Eq.trans (b:=(let z2:=B0o (-1:Int);let z3:=A8z a1 a5;let z1:=A95 a3 z3;cond (A76 a1 a5) (cond (decide (z3<(0:Int))) (some z2) (cond (A8Y a3 z3) (cond (decide (z1<(0:Int))) (some z2) (cond (A76 a4 z1) (cond (decide ((A8z a4 z1)<(0:Int))) (some z2) (some (B0o (A8z a4 z1)))) none)) none)) none)) (by kernel_rfl) ?_
 exact (A7C hp fun hp=>(M2 B0o hp (fun hp=>rfl) (fun hp=>(A7C hp fun hp=>(M2 B0o hp (fun hp=>rfl) (fun hp=>(A7E hp fun _h=>(P9 B0o (fun _h=>rfl) (fun _h=>rfl)))))))))
theorem C90:aPP 35 (A21 B11 B5X B8w):=pcD true G92 hlz C8B
noncomputable def S93:Tab:=Tab.add S92 35 (lift (A21 B11 B5X B8w))
noncomputable def D8s:FuncId→Bool:=qadd D7X 35
theorem G93:aPG S93 D8s:=G92.addQ C90 (cbl Try.f35) (fun _=>rfl)


end Go.Proofs.Ytgglehejlddghaa.Eng
