/- What the functions that FnExactTellAll reaches compute: further. -/
import Derived.Test.YtapikgcgahomlaaFExactTellAllD
namespace Go.Proofs.Ytapikgcgahomlaa.Eng
open Go Go.RowKit
set_option linter.unusedSimpArgs false
set_option linter.unusedVariables false
set_option maxRecDepth 10000

noncomputable def L1 (x0:Lq1) (i:Nat) (k:Int):Int ⊕ Unit:=(cond (((x0.getD i ((0:Int),(bE,bE))).1) != k) (.inr ()) (cond (!((((x0.getD i ((0:Int),(bE,bE))).2).1).toList==(J8 (wI (k+(1:Int)))).toList)) (.inr ()) (cond (!((((x0.getD i ((0:Int),(bE,bE))).2).2).toList==(J8 (wI ((wI (k+(1:Int)))+(1:Int)))).toList)) (.inr ()) (.inl (wI ((wI ((wI (k+(1:Int)))+(1:Int)))+(1:Int)))))))
abbrev B2B:List PSh:=[.t tq4,.t (.int .i64)]
abbrev U8:SS:=⟨(.t false tq4::tI::.junk::.junk::.junk::tI::D1m),[]⟩
abbrev O5:SS:=⟨(.junk::.junk::.junk::.junk::tI::D3l),[]⟩
abbrev B2r:SS:=⟨(.junk::tI::D1n),[]⟩
noncomputable def B4t (x0:Lq1) (x1 x5:Int):RT U8.den:=let z2:=x0.getD x5.toNat ((0:Int),(bE,bE));let z3:=decide (0≤x5∧x5<(x0.length:Int));let z4:=wI (x1+(1:Int));let z1:=wI (z4+(1:Int));(.br (decide (x5<(x0.length:Int))) (.br z3 (.br ((z2.1) != x1) (.done .ret O5 (((),(),(),(),(-1:Int),u38),())) (.br z3 (.br (J7 z4) (.br (!(((z2.2).1).toList==(J8 z4).toList)) (.done .ret O5 (((),(),(),(),(-1:Int),u38),())) (.br z3 (.br (J7 z1) (.br (!(((z2.2).2).toList==(J8 z1).toList)) (.done .ret O5 (((),(),(),(),(-1:Int),u38),())) (.next ((x0,wI (z1+(1:Int)),(),(),(),wI (x5+(1:Int)),u37),()))) .fail) .fail)) .fail) .fail)) .fail) (.done (.exit 0) B2r (((),x1,u41),())))
noncomputable def A9t (x0:Lq1) (x1 x5:Int):CT:=(.br (decide (0≤x5)&&(decide (0≤x1∧x1≤100000*(x5+100))&&okL x0)) (.br (A7d (loopN (L1 x0) (x0.length - x5.toNat) x5.toNat x1)) (.done (.exit 0) B2r (((),(A65 (-1) (loopN (L1 x0) (x0.length - x5.toNat) x5.toNat x1)),u41),())) (.done .ret O5 (((),(),(),(),(-1:Int),u38),()))) .fail)
noncomputable abbrev W4:U8.den→RT U8.den:=(fun d=>B4t d.1.1 d.1.2.1 d.1.2.2.2.2.2.1)
noncomputable abbrev B0M (x0:Lq1) (x1 x5:Int):U8.den:=((x0,x1,(),(),(),x5,u37),())
noncomputable def B6E:Code:=((D3 0 (A1f Try.f84)).getD 0 (0,.skip)).2
theorem C58 (x0:Lq1) (x1 x5:Int):(A9t x0 x1 x5).val (D:=U8.den)=.fail∨Runs W4 (B0M x0 x1 x5) (A9t x0 x1 x5).val:=by
 cases hc:(decide (0≤x5)&&(decide (0≤x1∧x1≤100000*(x5+100))&&okL x0)) with
 | false=>left;simp only [A9t,CT.val,hc,cond_false]
 | true =>
  right
  simp only [A9t,CT.val,hc,cond_true]
  simp only [Bool.and_eq_true,decide_eq_true_eq] at hc
  obtain ⟨i,rfl⟩:=Int.eq_ofNat_of_zero_le hc.1
  have hs:=A66 hc.2.2
  have hk:=hc.2.1
  simp only [Int.toNat_natCast]
  have h:=Runs.loopN (step:=W4) (fun j b=>B0M x0 b (j:Int)) (fun i b=>0≤b∧b≤100000*((i:Int)+100)) (x0.length) (L1 x0)
   (fin:=fun b=>((.done (.exit 0) B2r (((),b,u41),())):CT).val) (bad:=fun _=>((.done .ret O5 (((),(),(),(),(-1:Int),u38),())):CT).val)
   (fun i b hi hb=>?_) (fun i b hi hb=>?_) (x0.length - i) i x1 rfl hk
  ·revert h
   cases loopN (L1 x0) (x0.length - i) i x1 with
   | inl b=>exact id
   | inr c=>exact id
  ·revert hb
   generalize b=k
   intro hb
   have w1:wI (k+(1:Int))=k+(1:Int):=A6r (by omega) (by omega)
   have w2:wI (k+(1:Int)+(1:Int))=k+(1:Int)+(1:Int):=A6r (by omega) (by omega)
   have w3:wI (k+(1:Int)+(1:Int)+(1:Int))=k+(1:Int)+(1:Int)+(1:Int):=A6r (by omega) (by omega)
   have e0:(decide (0≤(i:Int)∧(i:Int)<(x0.length:Int)))=true:=decide_eq_true (by omega)
   have e1:(decide (0≤(i:Int)∧(i:Int)<(x0.length:Int)))=true:=decide_eq_true (by omega)
   have e2:(J7 (wI (k+(1:Int))))=true:=by simp only [J7,w1,w2,w3];exact decide_eq_true (by omega)
   have e3:(decide (0≤(i:Int)∧(i:Int)<(x0.length:Int)))=true:=decide_eq_true (by omega)
   have e4:(J7 (wI ((wI (k+(1:Int)))+(1:Int))))=true:=by simp only [J7,w1,w2,w3];exact decide_eq_true (by omega)
   have h1:decide ((i:Int)<(x0.length:Int))=true:=decide_eq_true (by omega)
   have e:(W4 (B0M x0 k (i:Int))).val=(cond (((x0.getD i ((0:Int),((⟨#[]⟩:ByteArray),(⟨#[]⟩:ByteArray)))).1) != k) ((.done .ret O5 (((),(),(),(),(-1:Int),u38),())):CT).val (cond (!((((x0.getD i ((0:Int),((⟨#[]⟩:ByteArray),(⟨#[]⟩:ByteArray)))).2).1).toList==(J8 (wI (k+(1:Int)))).toList)) ((.done .ret O5 (((),(),(),(),(-1:Int),u38),())):CT).val (cond (!((((x0.getD i ((0:Int),((⟨#[]⟩:ByteArray),(⟨#[]⟩:ByteArray)))).2).2).toList==(J8 (wI ((wI (k+(1:Int)))+(1:Int)))).toList)) ((.done .ret O5 (((),(),(),(),(-1:Int),u38),())):CT).val (.next (B0M x0 (wI ((wI ((wI (k+(1:Int)))+(1:Int)))+(1:Int))) ((i+1:Nat):Int)))))):=by
    simp only [W4,B4t,RT.val,h1,e0,e1,e2,e3,e4,cond_true,A7e i (by omega),Int.toNat_natCast]
    rfl
   cases g0:(((x0.getD i ((0:Int),((⟨#[]⟩:ByteArray),(⟨#[]⟩:ByteArray)))).1) != k) with
   | true=>exact .inr ⟨(),_,_,_,by simp only [L1,g0,cond_true,cond_false],by rw [e,g0];rfl,rfl,by simp⟩
   | false =>
    cases g1:(!((((x0.getD i ((0:Int),((⟨#[]⟩:ByteArray),(⟨#[]⟩:ByteArray)))).2).1).toList==(J8 (wI (k+(1:Int)))).toList)) with
    | true=>exact .inr ⟨(),_,_,_,by simp only [L1,g0,g1,cond_true,cond_false],by rw [e,g0,g1];rfl,rfl,by simp⟩
    | false =>
     cases g2:(!((((x0.getD i ((0:Int),((⟨#[]⟩:ByteArray),(⟨#[]⟩:ByteArray)))).2).2).toList==(J8 (wI ((wI (k+(1:Int)))+(1:Int)))).toList)) with
     | true=>exact .inr ⟨(),_,_,_,by simp only [L1,g0,g1,g2,cond_true,cond_false],by rw [e,g0,g1,g2];rfl,rfl,by simp⟩
     | false =>
      exact .inl ⟨wI ((wI ((wI (k+(1:Int)))+(1:Int)))+(1:Int)),by simp only [L1,g0,g1,g2,cond_false],by rw [w1,w2,w3];omega,by rw [e,g0,g1,g2];rfl⟩
  ·have h1:decide ((i:Int)<(x0.length:Int))=false:=decide_eq_false (by omega)
   exact ⟨by simp only [W4,B4t,RT.val,h1,cond_false];rfl,_,_,_,rfl,by simp⟩
noncomputable def B9B (x0:Lq1) (x1 x5:Int):Option (Ex×St):=let z1:=(⟨(.junk::.junk::.junk::.junk::(ti (-1:Int))::D1j),[],0,[]⟩:St);let z3:=x0.getD x5.toNat ((0:Int),(bE,bE));let z4:=decide (0≤x5∧x5<(x0.length:Int));let z5:=wI (x1+(1:Int));let z2:=wI (z5+(1:Int));(cond (decide (x5<(x0.length:Int))) (cond z4 (cond ((z3.1) != x1) (some (.ret,z1)) (cond z4 (cond (J7 z5) (cond (!(((z3.2).1).toList==(J8 z5).toList)) (some (.ret,z1)) (cond z4 (cond (J7 z2) (cond (!(((z3.2).2).toList==(J8 z2).toList)) (some (.ret,z1)) (some (.normal,(⟨((.t false tq4 x0)::(ti (wI (z2+(1:Int))))::.junk::.junk::.junk::(ti (wI (x5+(1:Int))))::D1i),[],0,[]⟩:St)))) none) none)) none) none)) none) (some ((.exit 0),(⟨(.junk::(ti x1)::D0P),[],0,[]⟩:St))))
theorem C4B:RdA G76 aLn 0 B6E U8 0 [] (kepts [4] [(0,[1])]) (fun d=>B9B d.1.1 d.1.2.1 d.1.2.2.2.2.2.1):=by
 intro d
 kernel_rfl
theorem C4H:∀ d:U8.den,(fun d=>B9B d.1.1 d.1.2.1 d.1.2.2.2.2.2.1) d=(W4 d).opt 0 []:=by
 intro d
 kernel_rfl
noncomputable abbrev B8w:St→Option Tree:=U8.say 0 [] [] (fun d=>A9t d.1.1 d.1.2.1 d.1.2.2.2.2.2.1)
theorem C5m:aPL B8w B6E:=SS.wp2 hlz [] W4 C4B C4H _ (fun d=>C58 d.1.1 d.1.2.1 d.1.2.2.2.2.2.1)
noncomputable def B49 (a0:Lq1) (a1:Int):Int:=let z1:=loopN (L1 a0) (a0.length - (0:Int).toNat) (0:Int).toNat a1;(cond (A7d z1) (A65 (-1) z1) (-1:Int))
noncomputable abbrev B5L (r:Int):AV×List AObj:=((ti r),[])
noncomputable abbrev C0j:H5 B2B→AV×List AObj:=fun d=>B5L (B49 d.1 d.2.1)
noncomputable def A71 (a0:Lq1) (a1:Int):Bool:=okL a0&&decide (0≤a1∧a1≤10000000)
noncomputable abbrev B6f:H5 B2B→Bool:=fun d=>A71 d.1 d.2.1
noncomputable abbrev C8H:Nat→St→Option Tree:=fun b=>match b with | 0=>B8w | _=>fun _=>none
theorem C7k:A7h true G76 (C8H) Try.f84 B2B B6f C0j:=by
 rintro ⟨a0,⟨a1,_⟩⟩ hp
 change A71 a0 a1=true at hp
 unfold A71 at hp
 refine Eq.trans (b:=(let z1:=loopN (L1 a0) (a0.length - (0:Int).toNat) (0:Int).toNat a1;cond (decide (0≤(0:Int))&&(decide (0≤a1∧a1≤100000*((0:Int)+100))&&okL a0)) (cond (A7d z1) (some (B5L (A65 (-1) z1))) (some (B5L (-1:Int)))) none)) (by kernel_rfl) ?_
 exact (A7k (by first | rfl | decide | exact hp | (simp only [Bool.and_eq_true] at hp;simp only [hp];done) | (simp [*];done) | (simp [okL] at hp;simp [okL,MAXB];omega) | (simp_all;done) | (simp at *;omega)) (fun _h=>(N4 B5L (fun _h=>rfl) (fun _h=>rfl))))
theorem C81:aPP 84 (A2T B2B B6f C0j):=pcD true G76 (hl1 (i:=0) (by kernel_rfl) C5m) C7k
noncomputable def S77:Tab:=Tab.add S76 84 (lift (A2T B2B B6f C0j))
noncomputable def D26:FuncId→Bool:=qadd D25 84
theorem G77:aPG S77 D26:=G76.addQ C81 (cbl Try.f84) (fun _=>rfl)

abbrev D3o:List Sh:=.junk::.junk::.junk::.junk::.junk::.junk::D3n
abbrev D3U:List Sh:=.junk::D3o
abbrev D3V:List Sh:=.junk::.junk::D1V
abbrev u56:=((),(),(),(),(),u51)
abbrev u55:=((),(),(),(),u51)
abbrev u59:=((),(),u57)
abbrev D3I:List AV:=.junk::.junk::.junk::.junk::.junk::.junk::.junk::D1I
abbrev D3H:List AV:=.junk::.junk::.junk::.junk::.junk::.junk::D1I
abbrev D3J:List AV:=.junk::.junk::D1J
abbrev A9o:List PSh:=[.t tq6,.t (.int .i64)]
abbrev O6:SS:=⟨(.t false tq6::tI::.junk::.junk::.junk::tI::D3o),[]⟩
abbrev R6:SS:=⟨(.junk::.junk::.junk::.junk::tI::D3U),[]⟩
abbrev B4A:SS:=⟨(.junk::tI::D3V),[]⟩
noncomputable def B61 (x0:LT2) (x1 x5:Int):RT O6.den:=let z1:=x0.getD x5.toNat ((0:Int),((0:Int),((0:Int),([],false))));let z3:=decide (0≤x5∧x5<(x0.length:Int));let z6:=wI (x1+(1:Int));let z4:=wI (z6+(1:Int));let z2:=wI (z4+(1:Int));let z5:=B49 ((((z1.2).2).2).1) z2;(.br (decide (x5<(x0.length:Int))) (.br z3 (.br ((z1.1) != x1) (.done .ret R6 (((),(),(),(),(-1:Int),u56),())) (.br z3 (.br (((z1.2).1) != z6) (.done .ret R6 (((),(),(),(),(-1:Int),u56),())) (.br z3 (.br ((((z1.2).2).1) != z4) (.done .ret R6 (((),(),(),(),(-1:Int),u56),())) (.br z3 (.br (A71 ((((z1.2).2).2).1) z2) (.br (decide (z5<(0:Int))) (.done .ret R6 (((),(),(),(),(-1:Int),u56),())) (.br z3 (.br (!(((((z1.2).2).2).2)==((Int.tmod z5 (3:Int))==(0:Int)))) (.done .ret R6 (((),(),(),(),(-1:Int),u56),())) (.next ((x0,wI (z5+(1:Int)),(),(),(),wI (x5+(1:Int)),u55),()))) .fail)) .fail) .fail)) .fail)) .fail)) .fail) (.done (.exit 0) B4A (((),x1,u59),())))
abbrev A9w:=LT2×(Int)×(Int)
abbrev A7C:=Nat×(Int)×(Int)
def P8:A7C:=(99,((0:Int):Int),((0:Int):Int))
noncomputable def A8H (x0:LT2) (x1 x5:Int):A9w ⊕ A7C:=let z1:=x0.getD x5.toNat ((0:Int),((0:Int),((0:Int),([],false))));let z3:=decide (0≤x5∧x5<(x0.length:Int));let z6:=wI (x1+(1:Int));let z4:=wI (z6+(1:Int));let z2:=wI (z4+(1:Int));let z5:=B49 ((((z1.2).2).2).1) z2;(cond (decide (x5<(x0.length:Int))) (cond z3 (cond ((z1.1) != x1) (.inr (0,(-1:Int),((0:Int):Int))) (cond z3 (cond (((z1.2).1) != z6) (.inr (0,(-1:Int),((0:Int):Int))) (cond z3 (cond ((((z1.2).2).1) != z4) (.inr (0,(-1:Int),((0:Int):Int))) (cond z3 (cond (A71 ((((z1.2).2).2).1) z2) (cond (decide (z5<(0:Int))) (.inr (0,(-1:Int),((0:Int):Int))) (cond z3 (cond (!(((((z1.2).2).2).2)==((Int.tmod z5 (3:Int))==(0:Int)))) (.inr (0,(-1:Int),((0:Int):Int))) (.inl (x0,wI (z5+(1:Int)),wI (x5+(1:Int))))) (.inr P8))) (.inr P8)) (.inr P8))) (.inr P8))) (.inr P8))) (.inr P8)) (.inr (1,((0:Int):Int),x1)))
noncomputable def A0c (x0:LT2) (x1 x5:Int):A7C:=itX (fun v:A9w=>A8H v.1 v.2.1 v.2.2) P8 (x0,x1,x5)
noncomputable def B1s (a:A7C):CT:=(.br (a.1==0) (.done .ret R6 (((),(),(),(),a.2.1,u56),())) (.br (a.1==1) (.done (.exit 0) B4A (((),a.2.2,u59),())) .fail))
noncomputable def C3Q (x0:LT2) (x1 x5:Int):CT:=B1s (A0c x0 x1 x5)
noncomputable abbrev B1y:O6.den→RT O6.den:=(fun d=>B61 d.1.1 d.1.2.1 d.1.2.2.2.2.2.1)
noncomputable def B3C:Code:=((D3 0 (A1f Try.f39)).getD 0 (0,.skip)).2
noncomputable abbrev B6Q (v:A9w):O6.den:=((v.1,v.2.1,(),(),(),v.2.2,u55),())
theorem C3E:(∀ v:A9w,(B61 v.1 v.2.1 v.2.2).val=A6l B6Q B1s (A8H v.1 v.2.1 v.2.2))∧∀ a:A7C,CEnd O6.den (B1s a):=⟨fun v=>by repeat' first | apply A7m | rfl,fun a=>(A7a aCD (A7a aCD A7c))⟩
noncomputable def B6M (x0:LT2) (x1 x5:Int):Option (Ex×St):=let z1:=x0.getD x5.toNat ((0:Int),((0:Int),((0:Int),([],false))));let z3:=(⟨(.junk::.junk::.junk::.junk::(ti (-1:Int))::D3I),[],0,[]⟩:St);let z4:=decide (0≤x5∧x5<(x0.length:Int));let z7:=wI (x1+(1:Int));let z5:=wI (z7+(1:Int));let z2:=wI (z5+(1:Int));let z6:=B49 ((((z1.2).2).2).1) z2;(cond (decide (x5<(x0.length:Int))) (cond z4 (cond ((z1.1) != x1) (some (.ret,z3)) (cond z4 (cond (((z1.2).1) != z7) (some (.ret,z3)) (cond z4 (cond ((((z1.2).2).1) != z5) (some (.ret,z3)) (cond z4 (cond (A71 ((((z1.2).2).2).1) z2) (cond (decide (z6<(0:Int))) (some (.ret,z3)) (cond z4 (cond (!(((((z1.2).2).2).2)==((Int.tmod z6 (3:Int))==(0:Int)))) (some (.ret,z3)) (some (.normal,(⟨((.t false tq6 x0)::(ti (wI (z6+(1:Int))))::.junk::.junk::.junk::(ti (wI (x5+(1:Int))))::D3H),[],0,[]⟩:St)))) none)) none) none)) none)) none)) none) (some ((.exit 0),(⟨(.junk::(ti x1)::D3J),[],0,[]⟩:St))))
theorem C2v:RdA G77 aLn 0 B3C O6 0 [] (kepts [4] [(0,[1])]) (fun d=>B6M d.1.1 d.1.2.1 d.1.2.2.2.2.2.1):=by
 intro d
 kernel_rfl
theorem C2z:∀ d:O6.den,(fun d=>B6M d.1.1 d.1.2.1 d.1.2.2.2.2.2.1) d=(B1y d).opt 0 []:=by
 intro d
 kernel_rfl
noncomputable abbrev B5n:St→Option Tree:=O6.say 0 [] [] (fun d=>C3Q d.1.1 d.1.2.1 d.1.2.2.2.2.2.1)
theorem C3o:aPL B5n B3C:=SS.wp2 hlz [] B1y C2v C2z _ (fun d=>Runs.ofI2 (step:=B1y) B6Q C3E rfl (d.1.1,d.1.2.1,d.1.2.2.2.2.2.1))
noncomputable def B0r (a0:LT2) (a1:Int):Int:=let z1:=A0c a0 a1 (0:Int);(cond (z1.1==0) (z1.2.1) (z1.2.2))
noncomputable abbrev B13 (r:Int):AV×List AObj:=((ti r),[])
noncomputable abbrev B5S:H5 A9o→AV×List AObj:=fun d=>B13 (B0r d.1 d.2.1)
noncomputable def Z6 (a0:LT2) (a1:Int):Bool:=let z1:=A0c a0 a1 (0:Int);cond (z1.1==0) true (z1.1==1)
noncomputable abbrev B3b:H5 A9o→Bool:=fun d=>Z6 d.1 d.2.1
noncomputable abbrev C54:Nat→St→Option Tree:=fun b=>match b with | 0=>B5n | _=>fun _=>none
theorem C4T:A7h true G77 (C54) Try.f39 A9o B3b B5S:=by
 rintro ⟨a0,⟨a1,_⟩⟩ hp
 change Z6 a0 a1=true at hp
 unfold Z6 at hp
 refine Eq.trans (b:=(let z1:=A0c a0 a1 (0:Int);cond (z1.1==0) (some (B13 (z1.2.1))) (cond (z1.1==1) (some (B13 (z1.2.2))) none))) (by kernel_rfl) ?_
 exact (K8 B13 hp (fun hp=>rfl) (fun hp=>(A7k hp fun _h=>rfl)))
theorem C6j:aPP 39 (A2T A9o B3b B5S):=pcD true G77 (hl1 (i:=0) (by kernel_rfl) C3o) C4T
noncomputable def S78:Tab:=Tab.add S77 39 (lift (A2T A9o B3b B5S))
noncomputable def D3D:FuncId→Bool:=qadd D26 39
theorem G78:aPG S78 D3D:=G77.addQ C6j (cbl Try.f39) (fun _=>rfl)

abbrev D3C:=List (Int×Int×Int×List (Int×ByteArray×ByteArray)×Bool)
abbrev tq9:Ty:=.pair (.int .i64) (.pair (.int .i64) (.pair (.int .i64) (.pair (.sl (.pair (.int .i64) (.pair (.sl (.pair (.int .i64) (.pair .str .str))) (.pair (.int .i64) (.sl (.int .i64)))))) (.pair (.sl (.pair (.int .i64) .bool)) (.int .i64)))))
abbrev A7u:List PSh:=[.agg [(.int .i64),(.int .i64),(.int .i64),tq2,tq5,(.int .i64)]]
noncomputable def Z0 (a0 a1 a2:Int) (a3:LT1) (a4:LIbe) (a5:Int):=let z1:=A90 a0 a1 a2 a3 a4 a5;B8s (z1.1) (z1.2.1) (z1.2.2.1) (z1.2.2.2.2.1) (z1.2.2.2.2.2) (z1.2.2.2.1)
noncomputable def Z1 (a0 a1 a2:Int) (a3:LT1) (a4:LIbe) (a5:Int):=let z1:=A90 a0 a1 a2 a3 a4 a5;B7Q (z1.1) (z1.2.1) (z1.2.2.1) (z1.2.2.2.2.1) (z1.2.2.2.2.2) (z1.2.2.2.1)
noncomputable def Z2 (a0 a1 a2:Int) (a3:LT1) (a4:LIbe) (a5:Int):=let z1:=A90 a0 a1 a2 a3 a4 a5;C1l (z1.1) (z1.2.1) (z1.2.2.1) (z1.2.2.2.2.1) (z1.2.2.2.2.2) (z1.2.2.2.1) (z1.1) (z1.2.1) (z1.2.2.1) (z1.2.2.2.2.1) (z1.2.2.2.2.2) (z1.2.2.2.1)
noncomputable def Z3 (a0 a1 a2:Int) (a3:LT1) (a4:LIbe) (a5:Int):=let z1:=A90 a0 a1 a2 a3 a4 a5;B26 (z1.1) (z1.2.1) (z1.2.2.1) (z1.2.2.2.1) (1:Int) (z1.2.2.2.2.1) (z1.2.2.2.2.2)
noncomputable def U5 (a0 a1 a2:Int) (a3:LT1) (a4:LIbe) (a5:Int):Bool:=let z1:=Z1 a0 a1 a2 a3 a4 a5;let z3:=!(B48 z1 (Z0 a0 a1 a2 a3 a4 a5));let z4:=B0t (1:Int) z1;let z2:=B0r (z4.2) (1:Int);let z5:=decide (z2<(0:Int));(cond (decide ((A9Z a0 a1 a2 a3 a4 a5 (1048576:Int))<(0:Int))) true (cond z3 false (cond (!(Z2 a0 a1 a2 a3 a4 a5)) false (cond (decide (((Z3 a0 a1 a2 a3 a4 a5).1)<(0:Int))) false (cond z3 false (cond z5 false (cond (z2 != (z4.1)) false (cond z3 false (cond z5 false (cond (z2 != (z4.1)) false true))))))))))
noncomputable abbrev H9 (r:Bool):AV×List AObj:=((.t true .bool r),[])
noncomputable abbrev B3R:H5 A7u→AV×List AObj:=fun d=>H9 (U5 d.1.1 d.1.2.1 d.1.2.2.1 d.1.2.2.2.1 d.1.2.2.2.2.1 d.1.2.2.2.2.2.1)
noncomputable def P4 (a0 a1 a2:Int) (a3:LT1) (a4:LIbe) (a5:Int):Bool:=let z1:=A90 a0 a1 a2 a3 a4 a5;let z2:=Z1 a0 a1 a2 a3 a4 a5;let z3:=Z0 a0 a1 a2 a3 a4 a5;let z4:=A8X a0 a1 a2 a3 a4 a5;let z5:=B0t (1:Int) z2;let z6:=A70 (z1.1) (z1.2.1) (z1.2.2.1) (z1.2.2.2.2.1) (z1.2.2.2.2.2) (z1.2.2.2.1);let z7:=!(B48 z2 z3);let z8:=A8W z2 z3;let z9:=Z6 (z5.2) (1:Int);let z10:=B0r (z5.2) (1:Int);(B0x a0 a1 a2 a3 a4 a5 (1048576:Int))&&(cond (decide ((A9Z a0 a1 a2 a3 a4 a5 (1048576:Int))<(0:Int))) true (z4&&((A73 (z1.1) (z1.2.1) (z1.2.2.1) (z1.2.2.2.2.1) (z1.2.2.2.2.2) (z1.2.2.2.1))&&(z4&&(z6&&(z8&&(cond z7 true (z4&&((A8V (z1.1) (z1.2.1) (z1.2.2.1) (z1.2.2.2.2.1) (z1.2.2.2.2.2) (z1.2.2.2.1) (z1.1) (z1.2.1) (z1.2.2.1) (z1.2.2.2.2.1) (z1.2.2.2.2.2) (z1.2.2.2.1))&&(cond (!(Z2 a0 a1 a2 a3 a4 a5)) true ((Z7 (z1.1) (z1.2.1) (z1.2.2.1) (z1.2.2.2.1) (1:Int) (z1.2.2.2.2.1) (z1.2.2.2.2.2))&&(cond (decide (((Z3 a0 a1 a2 a3 a4 a5).1)<(0:Int))) true (z8&&(cond z7 true ((Z8 (1:Int) z2)&&(z9&&(cond (decide (z10<(0:Int))) true (cond (z10 != (z5.1)) true (z4&&(z6&&(z8&&(cond z7 true z9))))))))))))))))))))))
noncomputable abbrev Q1:H5 A7u→Bool:=fun d=>P4 d.1.1 d.1.2.1 d.1.2.2.1 d.1.2.2.2.1 d.1.2.2.2.2.1 d.1.2.2.2.2.2.1
theorem B9a:A7h true G78 aLn Try.f12 A7u Q1 B3R:=by
 rintro ⟨⟨a0,⟨a1,⟨a2,⟨a3,⟨a4,⟨a5,_⟩⟩⟩⟩⟩⟩,_⟩ hp
 change P4 a0 a1 a2 a3 a4 a5=true at hp
 unfold P4 at hp
 refine Eq.trans (b:=(let z1:=A90 a0 a1 a2 a3 a4 a5;let z2:=Z1 a0 a1 a2 a3 a4 a5;let z3:=Z0 a0 a1 a2 a3 a4 a5;let z4:=B0t (1:Int) z2;let z5:=A8X a0 a1 a2 a3 a4 a5;let z6:=A70 (z1.1) (z1.2.1) (z1.2.2.1) (z1.2.2.2.2.1) (z1.2.2.2.2.2) (z1.2.2.2.1);let z7:=B0r (z4.2) (1:Int);let z8:=!(B48 z2 z3);let z9:=A8W z2 z3;let z10:=Z6 (z4.2) (1:Int);let z11:=decide (z7<(0:Int));cond (B0x a0 a1 a2 a3 a4 a5 (1048576:Int)) (cond (decide ((A9Z a0 a1 a2 a3 a4 a5 (1048576:Int))<(0:Int))) (some (H9 true)) (cond z5 (cond (A73 (z1.1) (z1.2.1) (z1.2.2.1) (z1.2.2.2.2.1) (z1.2.2.2.2.2) (z1.2.2.2.1)) (cond z5 (cond z6 (cond z9 (cond z8 (some (H9 false)) (cond z5 (cond (A8V (z1.1) (z1.2.1) (z1.2.2.1) (z1.2.2.2.2.1) (z1.2.2.2.2.2) (z1.2.2.2.1) (z1.1) (z1.2.1) (z1.2.2.1) (z1.2.2.2.2.1) (z1.2.2.2.2.2) (z1.2.2.2.1)) (cond (!(Z2 a0 a1 a2 a3 a4 a5)) (some (H9 false)) (cond (Z7 (z1.1) (z1.2.1) (z1.2.2.1) (z1.2.2.2.1) (1:Int) (z1.2.2.2.2.1) (z1.2.2.2.2.2)) (cond (decide (((Z3 a0 a1 a2 a3 a4 a5).1)<(0:Int))) (some (H9 false)) (cond z9 (cond z8 (some (H9 false)) (cond (Z8 (1:Int) z2) (cond z10 (cond z11 (some (H9 false)) (cond (z7 != (z4.1)) (some (H9 false)) (cond z5 (cond z6 (cond z9 (cond z8 (some (H9 false)) (cond z10 (cond z11 (some (H9 false)) (cond (z7 != (z4.1)) (some (H9 false)) (some (H9 true)))) none)) none) none) none))) none) none)) none)) none)) none) none)) none) none) none) none) none)) none)) (by kernel_rfl) ?_
 exact (A7i hp fun hp=>(K8 H9 hp (fun hp=>rfl) (fun hp=>(A7i hp fun hp=>(A7i hp fun hp=>(A7i hp fun hp=>(A7i hp fun hp=>(A7i hp fun hp=>(K8 H9 hp (fun hp=>rfl) (fun hp=>(A7i hp fun hp=>(A7i hp fun hp=>(K8 H9 hp (fun hp=>rfl) (fun hp=>(A7i hp fun hp=>(K8 H9 hp (fun hp=>rfl) (fun hp=>(A7i hp fun hp=>(K8 H9 hp (fun hp=>rfl) (fun hp=>(A7i hp fun hp=>(A7i hp fun hp=>(K8 H9 hp (fun hp=>rfl) (fun hp=>(K8 H9 hp (fun hp=>rfl) (fun hp=>(A7i hp fun hp=>(A7i hp fun hp=>(A7i hp fun hp=>(K8 H9 hp (fun hp=>rfl) (fun hp=>(A7k hp fun _h=>(N4 H9 (fun _h=>rfl) (fun _h=>(N4 H9 (fun _h=>rfl) (fun _h=>rfl))))))))))))))))))))))))))))))))))))
theorem C07:aPP 12 (A2T A7u Q1 B3R):=pcD true G78 hlz B9a
noncomputable abbrev M1:=Int×Lq1×Int×List Int
noncomputable def C8S (j:M1):Prop:=B2O j.2.1=true∧j.2.2.2.length≤9223372036854775807
noncomputable def B5A (l:List M1):Prop:=l.length≤9223372036854775807∧∀ j∈l,C8S j
noncomputable def A89 (j:M1):Prop:=T5 j.2.1=true∧j.2.2.2.length≤1048576
theorem C50 (k:Int) (s v:ByteArray) (b:Int) (h0:0≤b) (h1:b≤1048576) (hs:C7N s=true) (hv:C7N v=true) (h:0≤C5X k s v b):C5X k s v b≤b∧okS s=true∧okS v=true:=by
 simp only [C7N,decide_eq_true_eq] at hs hv
 have e1:=A6r (n:=b - (s.size:Int)) (by omega) (by omega)
 simp only [C5X,e1] at h ⊢
 cases hd:decide (b - (s.size:Int)<0) with
 | true=>rw [hd] at h;simp at h
 | false =>
  rw [hd] at h
  have:=of_decide_eq_false hd
  have e2:=A6r (n:=b - (s.size:Int) - (v.size:Int)) (by omega) (by omega)
  simp only [cond_false,e2] at h ⊢
  cases hd2:decide (b - (s.size:Int) - (v.size:Int)<0) with
  | true=>rw [hd2] at h;simp at h
  | false =>
   have:=of_decide_eq_false hd2
   simp only [cond_false,okS,decide_eq_true_eq]
   omega
theorem C9x (l:Lq1) (b:Int) (h0:0≤b) (h1:b≤1048576) (hb:B2O l=true) (h:0≤A7W l b):A7W l b≤b∧T5 l=true:=by
 have hl:l.length≤9223372036854775807:=by simp only [B2O,Bool.and_eq_true,decide_eq_true_eq] at hb;exact hb.1
 have e1:=A6r (n:=b - (l.length:Int)) (by omega) (by omega)
 simp only [A7W,e1,Int.toNat_zero,Nat.sub_zero] at h ⊢
 cases hd:decide (b - (l.length:Int)<0) with
 | true=>rw [hd] at h;simp at h
 | false =>
  rw [hd] at h
  have:=of_decide_eq_false hd
  simp only [cond_false] at h ⊢
  cases hi:A7d (szN (N8 l) l.length 0 (b - (l.length:Int))) with
  | false=>rw [hi] at h;simp at h
  | true =>
   obtain ⟨r1,r2,r3⟩:=C9J (M:=1048576) (Q:=fun i=>okS (l.getD i dOp).2.1=true∧okS (l.getD i dOp).2.2=true) l.length 0 (b - (l.length:Int)) (fun j b' _ hj q0 q1 hf=>by
    obtain ⟨p1,p2⟩:=C5Q hb j (by omega)
    obtain ⟨s1,s2,s3⟩:=C50 _ _ _ b' q0 q1 p1 p2 hf
    exact ⟨⟨s2,s3⟩,s1⟩) (by omega) (by omega) hi
   simp only [cond_true]
   exact ⟨by omega,D0T (by omega) (fun i hi=>r1 i (Nat.zero_le _) (by omega))⟩
theorem C8C {l:List Int} {b:Int} (hl:l.length≤9223372036854775807) (h0:0≤b) (h1:b≤1048576) (h:0≤A8d l b):A8d l b≤b∧l.length≤1048576:=by
 have e1:=A6r (n:=b - (l.length:Int)) (by omega) (by omega)
 simp only [A8d,e1] at h ⊢
 by_cases hd:b - (l.length:Int)<0
 ·rw [decide_eq_true hd] at h;simp at h
 ·rw [decide_eq_false hd];simp only [cond_false];omega
theorem C43 {j:M1} {b:Int} (hj:C8S j) (h0:0≤b) (h1:b≤1048576):B5h j.1 j.2.1 j.2.2.1 j.2.2.2 b=true∧(0≤B27 j.1 j.2.1 j.2.2.1 j.2.2.2 b→B27 j.1 j.2.1 j.2.2.1 j.2.2.2 b≤b∧A89 j):=by
 obtain ⟨h2,h3⟩:=hj
 refine ⟨decide_eq_true ⟨h0,h1,C8U h2⟩,fun h=>?_⟩
 simp only [B27] at h ⊢
 by_cases hd:A7W j.2.1 b<0
 ·rw [decide_eq_true hd] at h;simp at h
 ·obtain ⟨s1,s2⟩:=C9x _ b h0 h1 h2 (by omega)
  rw [decide_eq_false hd] at h ⊢
  simp only [cond_false] at h ⊢
  by_cases hd2:A8d j.2.2.2 (A7W j.2.1 b)<0
  ·rw [decide_eq_true hd2] at h;simp at h
  ·obtain ⟨t1,t2⟩:=C8C h3 (by omega) (by omega) (by omega:0≤A8d j.2.2.2 (A7W j.2.1 b))
   rw [decide_eq_false hd2]
   simp only [cond_false]
   exact ⟨by omega,s2,t2⟩
theorem M0 {α:Type} {l:List α} {i:Nat} (h:i<l.length) (d:α):l.getD i d∈l:=by
 simp [List.getD_eq_getElem?_getD,h]
noncomputable def J0:M1:=(0,[],0,[])
theorem I8 {α:Type} {l:List α} {i:Nat} (hi:i<l.length) (d:α):l.take (i+1)=l.take i++[l.getD i d]:=by
 rw [List.take_add_one,List.getElem?_eq_getElem hi];simp [List.getD_eq_getElem?_getD,hi]
theorem C3e {l:List M1} {b:Int} (hl:B5A l) (h0:0≤b) (h1:b≤1048576):B0y l b=true∧(0≤V7 l b→V7 l b≤b∧l.length≤1048576∧∀ j∈l,A89 j):=by
 obtain ⟨h2,h3⟩:=hl
 have e1:=A6r (n:=b - (l.length:Int)) (by omega) (by omega)
 simp only [B0y,V7,e1]
 by_cases hd:b - (l.length:Int)<0
 ·rw [decide_eq_true hd];simp
 ·rw [decide_eq_false hd]
  simp only [cond_false]
  have key:(V5 l (b - (l.length:Int)) 0=(0,-1,0))∨∃ c,V5 l (b - (l.length:Int)) 0=(1,0,c)∧0≤c∧c≤b∧∀ j∈l,A89 j:=by
   refine A60 (fun v:A83=>∃ (i:Nat) (c:Int),v=(l,c,(i:Int))∧i≤l.length∧0≤c∧c≤b∧∀ j∈l.take i,A89 j) (fun a:A7E=>a=(0,-1,0)∨∃ c,a=(1,0,c)∧0≤c∧c≤b∧∀ j∈l,A89 j) (fun v=>l.length - v.2.2.toNat) ?_ ⟨0,_,rfl,Nat.zero_le _,by omega,by omega,by simp⟩ (by simp;omega)
   rintro v ⟨i,c,rfl,hi,c0,c1,hj⟩
   by_cases hlt:i<l.length
   ·have e1:decide ((i:Int)<(l.length:Int))=true:=decide_eq_true (by omega)
    have e2:decide (0≤(i:Int)∧(i:Int)<(l.length:Int))=true:=decide_eq_true (by omega)
    obtain ⟨q1,q2⟩:=C43 (h3 _ (M0 hlt J0)) c0 (by omega)
    have hdj:((0:Int),(([]:Lq1),((0:Int),([]:List Int))))=J0:=rfl
    simp only [A8j,hdj,e1,e2,cond_true,Int.toNat_natCast,q1,A7f i (by omega)]
    by_cases hn:B27 (l.getD i J0).1 (l.getD i J0).2.1 (l.getD i J0).2.2.1 (l.getD i J0).2.2.2 c<0
    ·simp only [decide_eq_true hn,cond_true]
     exact .inr ⟨_,rfl,.inl rfl⟩
    ·simp only [decide_eq_false hn,cond_false]
     obtain ⟨r1,r2⟩:=q2 (by omega)
     refine .inl ⟨_,rfl,⟨i+1,_,rfl,by omega,by omega,by omega,fun j hj2=>?_⟩,by simp only [Int.toNat_natCast];omega⟩
     rw [I8 hlt J0] at hj2
     rcases List.mem_append.1 hj2 with h | h
     ·exact hj j h
     ·simp only [List.mem_singleton] at h;rw [h];exact r2
   ·obtain rfl:i=l.length:=by omega
    have e1:decide ((l.length:Int)<(l.length:Int))=false:=decide_eq_false (by omega)
    simp only [A8j,e1,cond_false]
    rw [List.take_length] at hj
    exact .inr ⟨_,rfl,.inr ⟨c,rfl,c0,c1,hj⟩⟩
  rcases key with h | ⟨c,h,c0,c1,hj⟩
  ·rw [h];exact ⟨rfl,fun h=>by simp at h⟩
  ·rw [h];exact ⟨rfl,fun _=>⟨c1,by omega,hj⟩⟩
theorem C7t {a3:List M1} {a4:LIbe} (hb:B5A a3) (h4:a4.length≤9223372036854775807) (a0 a1 a2 a5:Int):B0x a0 a1 a2 a3 a4 a5 1048576=true∧(0≤A9Z a0 a1 a2 a3 a4 a5 1048576→a3.length≤1048576∧(∀ j∈a3,A89 j)∧a4.length≤1048576):=by
 obtain ⟨z1,z2⟩:=C3e hb (b:=1048576) (by decide) (by decide)
 refine ⟨z1,fun h=>?_⟩
 simp only [A9Z] at h
 by_cases hd:V7 a3 1048576<0
 ·rw [decide_eq_true hd] at h;simp at h
 ·obtain ⟨y1,y2,y3⟩:=z2 (by omega)
  rw [decide_eq_false hd] at h
  simp only [cond_false] at h
  by_cases hd2:A8T a4 (V7 a3 1048576)<0
  ·rw [decide_eq_true hd2] at h;simp at h
  ·refine ⟨y2,y3,?_⟩
   generalize V7 a3 1048576=c at *
   have e1:=A6r (n:=c - (a4.length:Int)) (by omega) (by omega)
   simp only [A8T,e1] at hd2
   by_cases hd3:c - (a4.length:Int)<0
   ·rw [decide_eq_true hd3] at hd2;simp at hd2
   ·omega
noncomputable def Z9 {α:Type} (w:α→Nat) (l:List α):Nat:=(l.map w).sum
noncomputable def B36 (j:M1):Nat:=2+3*j.2.1.length+j.2.2.2.length
theorem D1w {l:Lq1} {b:Int} (h0:0≤b) (h1:b≤1048576) (hb:B2O l=true) (h:0≤A7W l b):A7W l b+(l.length:Int)≤b:=by
 have hl:l.length≤9223372036854775807:=by simp only [B2O,Bool.and_eq_true,decide_eq_true_eq] at hb;exact hb.1
 have e1:=A6r (n:=b - (l.length:Int)) (by omega) (by omega)
 simp only [A7W,e1,Int.toNat_zero,Nat.sub_zero] at h ⊢
 cases hd:decide (b - (l.length:Int)<0) with
 | true=>rw [hd] at h;simp at h
 | false =>
  rw [hd] at h
  have:=of_decide_eq_false hd
  simp only [cond_false] at h ⊢
  cases hi:A7d (szN (N8 l) l.length 0 (b - (l.length:Int))) with
  | false=>rw [hi] at h;simp at h
  | true =>
   obtain ⟨r1,r2,r3⟩:=C9J (M:=1048576) (Q:=fun i=>True) l.length 0 (b - (l.length:Int)) (fun j b' _ hj q0 q1 hf=>by
    obtain ⟨p1,p2⟩:=C5Q hb j (by omega)
    obtain ⟨s1,s2,s3⟩:=C50 _ _ _ b' q0 q1 p1 p2 hf
    exact ⟨trivial,s1⟩) (by omega) (by omega) hi
   simp only [cond_true]
   omega
theorem D0X {l:List Int} {b:Int} (hl:l.length≤9223372036854775807) (h0:0≤b) (h1:b≤1048576) (h:0≤A8d l b):A8d l b+(l.length:Int)≤b:=by
 have e1:=A6r (n:=b - (l.length:Int)) (by omega) (by omega)
 simp only [A8d,e1] at h ⊢
 by_cases hd:b - (l.length:Int)<0
 ·rw [decide_eq_true hd] at h;simp at h
 ·rw [decide_eq_false hd];simp only [cond_false];omega
theorem D1v {j:M1} {b:Int} (hj:C8S j) (h0:0≤b) (h1:b≤1048576) (h:0≤B27 j.1 j.2.1 j.2.2.1 j.2.2.2 b):3*B27 j.1 j.2.1 j.2.2.1 j.2.2.2 b+(B36 j:Int)≤3*b+2:=by
 obtain ⟨h2,h3⟩:=hj
 simp only [B27] at h ⊢
 by_cases hd:A7W j.2.1 b<0
 ·rw [decide_eq_true hd] at h;simp at h
 ·have s1:=D1w h0 h1 h2 (by omega)
  rw [decide_eq_false hd] at h ⊢
  simp only [cond_false] at h ⊢
  by_cases hd2:A8d j.2.2.2 (A7W j.2.1 b)<0
  ·rw [decide_eq_true hd2] at h;simp at h
  ·have t1:=D0X h3 (by omega) (by omega) (by omega:0≤A8d j.2.2.2 (A7W j.2.1 b))
   rw [decide_eq_false hd2]
   simp only [cond_false,B36]
   omega
theorem D0r {α:Type} (w:α→Nat) (l:List α) (x:α):Z9 w (l++[x])=Z9 w l+w x:=by simp [Z9]
theorem D0Y {l:List M1} {b:Int} (hl:B5A l) (h0:0≤b) (h1:b≤1048576) (h:0≤V7 l b):3*V7 l b+(Z9 B36 l:Int)≤3*b:=by
 obtain ⟨h2,h3⟩:=hl
 have e1:=A6r (n:=b - (l.length:Int)) (by omega) (by omega)
 simp only [V7,e1] at h ⊢
 by_cases hd:b - (l.length:Int)<0
 ·rw [decide_eq_true hd] at h;simp at h
 ·rw [decide_eq_false hd] at h ⊢
  simp only [cond_false] at h ⊢
  have key:(V5 l (b - (l.length:Int)) 0=(0,-1,0))∨∃ c,V5 l (b - (l.length:Int)) 0=(1,0,c)∧3*c+(Z9 B36 l:Int)≤3*b:=by
   refine A60 (fun v:A83=>∃ (i:Nat) (c:Int),v=(l,c,(i:Int))∧i≤l.length∧0≤c∧c≤b∧3*c+(Z9 B36 (l.take i):Int)≤3*(b - (l.length:Int))+2*(i:Int)) (fun a:A7E=>a=(0,-1,0)∨∃ c,a=(1,0,c)∧3*c+(Z9 B36 l:Int)≤3*b) (fun v=>l.length - v.2.2.toNat) ?_ ⟨0,_,rfl,Nat.zero_le _,by omega,by omega,by simp [Z9]⟩ (by simp;omega)
   rintro v ⟨i,c,rfl,hi,c0,c1,hj⟩
   by_cases hlt:i<l.length
   ·have e1:decide ((i:Int)<(l.length:Int))=true:=decide_eq_true (by omega)
    have e2:decide (0≤(i:Int)∧(i:Int)<(l.length:Int))=true:=decide_eq_true (by omega)
    obtain ⟨q1,q2⟩:=C43 (h3 _ (M0 hlt J0)) c0 (by omega)
    have hdj:((0:Int),(([]:Lq1),((0:Int),([]:List Int))))=J0:=rfl
    simp only [A8j,hdj,e1,e2,cond_true,Int.toNat_natCast,q1,A7f i (by omega)]
    by_cases hn:B27 (l.getD i J0).1 (l.getD i J0).2.1 (l.getD i J0).2.2.1 (l.getD i J0).2.2.2 c<0
    ·simp only [decide_eq_true hn,cond_true]
     exact .inr ⟨_,rfl,.inl rfl⟩
    ·simp only [decide_eq_false hn,cond_false]
     obtain ⟨r1,r2⟩:=q2 (by omega)
     have r3:=D1v (h3 _ (M0 hlt J0)) c0 (by omega) (by omega)
     refine .inl ⟨_,rfl,⟨i+1,_,rfl,by omega,by omega,by omega,?_⟩,by simp only [Int.toNat_natCast];omega⟩
     rw [I8 hlt J0,D0r,Int.natCast_add]
     omega
   ·obtain rfl:i=l.length:=by omega
    have e1:decide ((l.length:Int)<(l.length:Int))=false:=decide_eq_false (by omega)
    simp only [A8j,e1,cond_false]
    rw [List.take_length] at hj
    exact .inr ⟨_,rfl,.inr ⟨_,rfl,by omega⟩⟩
  rcases key with e | ⟨c,e,hc⟩
  ·rw [e] at h;simp at h
  ·rw [e];exact hc
theorem D0s {a3:List M1} {a4:LIbe} (hb:B5A a3) (h4:a4.length≤9223372036854775807) (a0 a1 a2 a5:Int) (h:0≤A9Z a0 a1 a2 a3 a4 a5 1048576):Z9 B36 a3+2*a4.length≤3145728:=by
 simp only [A9Z] at h
 by_cases hd:V7 a3 1048576<0
 ·rw [decide_eq_true hd] at h;simp at h
 ·have y1:=D0Y hb (b:=1048576) (by decide) (by decide) (by omega)
  obtain ⟨z1,_,_⟩:=(C3e hb (b:=1048576) (by decide) (by decide)).2 (by omega)
  rw [decide_eq_false hd] at h
  simp only [cond_false] at h
  by_cases hd2:A8T a4 (V7 a3 1048576)<0
  ·rw [decide_eq_true hd2] at h;simp at h
  ·generalize V7 a3 1048576=c at *
   have e1:=A6r (n:=c - (a4.length:Int)) (by omega) (by omega)
   simp only [A8T,e1] at hd2
   by_cases hd3:c - (a4.length:Int)<0
   ·rw [decide_eq_true hd3] at hd2;simp at hd2
   ·omega
noncomputable def A7z {A:Type} (f:Nat→Option A) (last:A):Nat→Nat→A
 | 0,_=>last
 | k+1,i=>match f i with
  | some a=>a
  | none=>A7z f last k (i+1)
theorem A0b {V A:Type} {ss:V→V ⊕ A} {fa:A} (pk:Nat→V) (n:Nat) (f:Nat→Option A) (last:A) (hn:n<4611686018427387904)
  (h:∀ i,i<n→ss (pk i)=(match f i with | some a=>.inr a | none=>.inl (pk (i+1)))) (hl:ss (pk n)=.inr last):itX ss fa (pk 0)=A7z f last n 0:=by
 rw [A4l]
 have key:∀ k N i,i+k=n→k<N→itN ss fa N (pk i)=A7z f last k i:=by
  intro k
  induction k with
  | zero =>
   intro N i hi hN
   obtain ⟨M,rfl⟩:∃ M,N=M+1:=⟨N - 1,by omega⟩
   obtain rfl:i=n:=by omega
   rw [A6w,hl];rfl
  | succ k ih =>
   intro N i hi hN
   obtain ⟨M,rfl⟩:∃ M,N=M+1:=⟨N - 1,by omega⟩
   rw [A6w,h i (by omega)]
   simp only [A7z]
   cases hf:f i with
   | some a=>rfl
   | none=>exact ih M (i+1) (by omega) (by omega)
 exact key n _ 0 (by omega) hn
theorem C99 (k:Int) (s v:ByteArray):C5W k s v k s v=true:=by simp [C5W]
theorem C3Z (l:Lq1):B7S l l=true:=by
 have e:A4x (A8R l l) (l.length - (0:Int).toNat) (0:Int).toNat=true:=C14 _ _ (fun j _ _=>by simp [A8R,C99])
 simp only [B7S,e,cond_true]
 simp
theorem C76 (l:List Int):C1m l l=true:=by
 have e:A4x (A7Q l l) (l.length - (0:Int).toNat) (0:Int).toNat=true:=C14 _ _ fun j _ _=>by simp [A7Q]
 simp only [C1m,e,cond_true]
 simp
theorem A9d {A:Type} (f:Nat→Option A) (last:A):∀ k i,(∃ j a,i≤j∧j<i+k∧f j=some a∧(∀ m,i≤m→m<j→f m=none)∧A7z f last k i=a)∨((∀ j,i≤j→j<i+k→f j=none)∧A7z f last k i=last):=by
 intro k
 induction k with
 | zero=>intro i;exact .inr ⟨fun j h1 h2=>by omega,rfl⟩
 | succ k ih =>
  intro i
  simp only [A7z]
  cases hf:f i with
  | some a=>exact .inl ⟨i,a,Nat.le_refl _,by omega,hf,fun m h1 h2=>by omega,rfl⟩
  | none =>
   rcases ih (i+1) with ⟨j,a,h1,h2,h3,h4,h5⟩ | ⟨h1,h2⟩
   ·refine .inl ⟨j,a,by omega,by omega,h3,fun m m1 m2=>?_,h5⟩
    by_cases hm:m=i
    ·rw [hm];exact hf
    ·exact h4 m (by omega) m2
   ·refine .inr ⟨fun j j1 j2=>?_,h2⟩
    by_cases hj:j=i
    ·rw [hj];exact hf
    ·exact h1 j (by omega) (by omega)
theorem C77 {l:List M1} (hl:l.length≤1048576) (h:∀ j∈l,A89 j):B0w l l=true∧B8S l l=true:=by
 have key:A9O l l 0=A7z (fun _=>none) (1,false) l.length 0:=by
  refine A0b (fun i=>(l,l,(i:Int))) l.length _ _ (by omega) (fun i hi=>?_) ?_
  ·have e1:decide ((i:Int)<(l.length:Int))=true:=decide_eq_true (by omega)
   have e2:decide (0≤(i:Int)∧(i:Int)<(l.length:Int))=true:=decide_eq_true (by omega)
   obtain ⟨o1,o2⟩:=h _ (M0 hi J0)
   have hdj:((0:Int),(([]:Lq1),((0:Int),([]:List Int))))=J0:=rfl
   have q1:okL (l.getD i J0).2.2.2=true:=decide_eq_true o2
   have e0:∀ x:Int,(x != x)=false:=fun x=>by simp
   simp only [B2d,hdj,e1,e2,cond_true,Int.toNat_natCast,B5g,C6L,B3g,B2k,e0,C3Z,C76,C5Y o1,q1,cond_false,Bool.not_true,Bool.true_and,A7f i (by omega)]
  ·have e1:decide ((l.length:Int)<(l.length:Int))=false:=decide_eq_false (by omega)
   simp only [B2d,e1,cond_false]
 have k2:A7z (fun _=>none) ((1,false):A7B) l.length 0=(1,false):=by
  rcases A9d (fun _=>none) ((1,false):A7B) l.length 0 with ⟨j,a,_,_,h3,_⟩ | ⟨_,h⟩
  ·cases h3
  ·exact h
 rw [k2] at key
 have e0:∀ x:Int,(x != x)=false:=fun x=>by simp
 simp only [B0w,B8S,key,e0,cond_false]
 exact ⟨rfl,rfl⟩
theorem C9y (l:Lq1):C6N l=l:=by
 have e:=A7l (fun o:Int×ByteArray×ByteArray=>(C2V o.1 o.2.1 o.2.2)) dOp l l.length 0 (List.replicate l.length dOp) (by simp) (by simp)
 simp only [List.take_zero,List.nil_append,List.drop_zero] at e
 have e2:l.map (fun o:Int×ByteArray×ByteArray=>(C2V o.1 o.2.1 o.2.2))=l:=by
  rw [show (fun o:Int×ByteArray×ByteArray=>(C2V o.1 o.2.1 o.2.2))=id from funext fun _=>rfl,List.map_id]
 rw [e2] at e
 exact e
theorem C8D (l:List Int):C3L l=l:=by
 have e:=A7l (fun o:Int=>o) (0:Int) l l.length 0 (List.replicate l.length 0) (by simp) (by simp)
 simp only [List.take_zero,List.nil_append,List.drop_zero] at e
 have e2:l.map (fun o:Int=>o)=l:=by
  rw [show (fun o:Int=>o)=id from funext fun _=>rfl,List.map_id]
 rw [e2] at e
 exact e
theorem B45 {α:Type} {l:List α} {i:Nat} (hi:i<l.length) (x d:α):(l.set i x).getD i d=x:=by
 simp [List.getD_eq_getElem?_getD,hi]
theorem C8E {l:List M1} (hl:l.length≤1048576) (h:∀ j∈l,A89 j):B0z l=true∧C1n l=l:=by
 have key:A9P l 0 (List.replicate l.length J0)=(0,l):=by
  refine A60 (fun v:B04=>∃ (i:Nat) (r:List M1),v=(l,(i:Int),r)∧i≤l.length∧r.length=l.length∧r.take i=l.take i) (fun a:A81=>a=(0,l)) (fun v=>l.length - v.2.1.toNat) ?_ ⟨0,_,rfl,Nat.zero_le _,by simp,by simp⟩ (by simp;omega)
  rintro v ⟨i,r,rfl,hi,hr,ht⟩
  by_cases hlt:i<l.length
  ·have e1:decide ((i:Int)<(l.length:Int))=true:=decide_eq_true (by omega)
   have e2:decide (0≤(i:Int)∧(i:Int)<(l.length:Int))=true:=decide_eq_true (by omega)
   have e3:decide (0≤(i:Int)∧(i:Int)<(r.length:Int))=true:=decide_eq_true (by omega)
   obtain ⟨o1,o2⟩:=h _ (M0 hlt J0)
   have hdj:((0:Int),(([]:Lq1),((0:Int),([]:List Int))))=J0:=rfl
   have q1:B3h (l.getD i J0).1 (l.getD i J0).2.1 (l.getD i J0).2.2.1 (l.getD i J0).2.2.2=true:=by
    simp only [B3h,B5i,B2m,C5Y o1,Bool.true_and]
    exact decide_eq_true o2
   simp only [B2e,hdj,e1,e2,e3,cond_true,Int.toNat_natCast,q1,A7f i (by omega),C6M,C9y,C8D]
   refine .inl ⟨_,rfl,⟨i+1,_,rfl,by omega,by rw [List.length_set];exact hr,?_⟩,by simp only [Int.toNat_natCast];omega⟩
   rw [I8 (by rw [List.length_set];omega) J0,I8 hlt J0,B45 (by omega),List.take_set_of_le (Nat.le_refl _),ht]
  ·obtain rfl:i=l.length:=by omega
   have e1:decide ((l.length:Int)<(l.length:Int))=false:=decide_eq_false (by omega)
   simp only [B2e,e1,cond_false]
   rw [← hr,List.take_length,hr,List.take_length] at ht
   exact .inr ⟨_,rfl,by rw [ht]⟩
 have hdj:((0:Int),(([]:Lq1),((0:Int),([]:List Int))))=J0:=rfl
 simp only [B0z,C1n,hdj,Int.toNat_natCast,key]
 refine ⟨?_,trivial⟩
 rw [Bool.and_eq_true]
 exact ⟨decide_eq_true ⟨by omega,trivial,by simp only [MAXB];omega,by omega⟩,rfl⟩
theorem C44 (l:LIbe):B58 l=l:=by
 have e:=A7l (fun o:Int×Bool=>(B0u o.1 o.2)) ((0:Int),false) l l.length 0 (List.replicate l.length ((0:Int),false)) (by simp) (by simp)
 simp only [List.take_zero,List.nil_append,List.drop_zero] at e
 have e2:l.map (fun o:Int×Bool=>(B0u o.1 o.2))=l:=by
  rw [show (fun o:Int×Bool=>(B0u o.1 o.2))=id from funext fun _=>rfl,List.map_id]
 rw [e2] at e
 exact e
theorem C3Y (l:LIbe):B25 l l=true:=by
 have e:A4x (T2 l l) (l.length - (0:Int).toNat) (0:Int).toNat=true:=C14 _ _ fun j _ _=>by simp [T2,B47]
 simp only [B25,e,cond_true]
 simp
theorem C75 {a3:List M1} {a4:LIbe} (h3:a3.length≤1048576) (hj:∀ j∈a3,A89 j) (h4:a4.length≤1048576) (a0 a1 a2 a5:Int):A8V a0 a1 a2 a3 a4 a5 a0 a1 a2 a3 a4 a5=true∧C1l a0 a1 a2 a3 a4 a5 a0 a1 a2 a3 a4 a5=true∧A8X a0 a1 a2 a3 a4 a5=true∧A90 a0 a1 a2 a3 a4 a5=(a0,a1,a2,a5,a3,a4):=by
 obtain ⟨e1,e2⟩:=C77 h3 hj
 obtain ⟨t1,t2⟩:=C8E h3 hj
 have e0:∀ x:Int,(x != x)=false:=fun x=>by simp
 have e3:okL a4=true:=decide_eq_true h4
 simp only [A8V,C1l,A8X,A90,e0,e1,e2,t1,t2,C44,C3Y,A8f,A8g,e3,cond_false,Bool.not_true,Bool.and_self]
 exact ⟨trivial,trivial,trivial,trivial⟩
noncomputable def dCh:Int×Bool:=(0,false)
noncomputable def chP (log:LIbe) (tx:Int):Nat×Int:=A7z (fun i=>cond ((log.getD i dCh).1==tx) (some (0,(i:Int))) none) (1,0) log.length 0
noncomputable def A8x (log:LIbe) (tx:Int):Int:=cond ((chP log tx).1==0) (chP log tx).2 (-1)
theorem C5R (log:LIbe) (tx:Int):(∃ j:Nat,j<log.length∧chP log tx=(0,(j:Int)))∨chP log tx=(1,0):=by
 rcases A9d (fun i=>cond ((log.getD i dCh).1==tx) (some ((0:Nat),(i:Int))) none) (1,0) log.length 0 with ⟨j,a,_,h2,h3,_,h5⟩ | ⟨_,h⟩
 ·refine .inl ⟨j,by omega,?_⟩
  rw [chP,h5]
  cases hc:((log.getD j dCh).1==tx) with
  | true=>simp only [hc,cond_true,Option.some.injEq] at h3;exact h3.symm
  | false=>simp only [hc,cond_false] at h3;cases h3
 ·exact .inr h
theorem D1y (log:LIbe) (tx:Int):(cond ((chP log tx).1==0) true ((chP log tx).1==1))=true:=by
 rcases C5R log tx with ⟨j,h1,h2⟩ | h
 ·rw [h2];rfl
 ·rw [h];rfl
theorem C0G (a0 a1 a2:Int) (a3:List M1) {a4:LIbe} (a5:Int) (hl:a4.length≤1048576) (tx:Int):M3 a0 a1 a2 a3 a4 a5 tx=true∧Q0 a0 a1 a2 a3 a4 a5 tx=A8x a4 tx:=by
 have e:A0e tx 0 a0 a1 a2 a3 a4 a5=chP a4 tx:=by
  refine A0b (fun i=>(tx,(i:Int))) a4.length _ _ (by omega) (fun i hi=>?_) ?_
  ·have e1:decide ((i:Int)<(a4.length:Int))=true:=decide_eq_true (by omega)
   have e2:decide (0≤(i:Int)∧(i:Int)<(a4.length:Int))=true:=decide_eq_true (by omega)
   simp only [A8J,e1,e2,cond_true,Int.toNat_natCast,A7f i (by omega),dCh]
   cases ((a4.getD i (0,false)).1==tx)<;>rfl
  ·have e1:decide ((a4.length:Int)<(a4.length:Int))=false:=decide_eq_false (by omega)
   simp only [A8J,e1,cond_false]
 simp only [M3,Q0,e]
 exact ⟨D1y a4 tx,rfl⟩
theorem B2Z (a0 a1 a2:Int) (a3:List M1) {a4:LIbe} (a5:Int) (hl:a4.length≤1048576) (tx:Int):I9 tx a0 a1 a2 a3 a4 a5=true∧K0 tx a0 a1 a2 a3 a4 a5=A8x a4 tx:=by
 have e:K5 a4 (a4.length:Int) 0 tx=chP a4 tx:=by
  refine A0b (fun i=>(a4,(a4.length:Int),(i:Int))) a4.length _ _ (by omega) (fun i hi=>?_) ?_
  ·have e1:decide ((i:Int)<(a4.length:Int))=true:=decide_eq_true (by omega)
   have e2:decide (0≤(i:Int)∧(i:Int)<(a4.length:Int))=true:=decide_eq_true (by omega)
   simp only [L9,Q9,A9L,e1,e2,cond_true,Int.toNat_natCast,A7f i (by omega),dCh]
   cases ((a4.getD i (0,false)).1==tx)<;>rfl
  ·have e1:decide ((a4.length:Int)<(a4.length:Int))=false:=decide_eq_false (by omega)
   simp only [L9,e1,cond_false]
 simp only [I9,K0,K2,O3,e]
 exact ⟨D1y a4 tx,rfl⟩
noncomputable def D00 (L ys:List Int) (i:Nat):Option (Nat×Bool):=cond (!decide (ys.getD i 0∈L)) (some (0,false)) (cond (decide ((i:Int) > 0)) (cond (decide (ys.getD (i - 1) 0 ≥ ys.getD i 0)) (some (0,false)) none) none)
noncomputable def C9z (L ys:List Int):Nat×Bool:=A7z (D00 L ys) (1,false) ys.length 0
noncomputable def D1c (log:LIbe) (st ch:Int):Bool:=cond (st==1) (decide (ch<0)) (cond (st==2) (cond (decide (ch ≥ 0)) (log.getD ch.toNat dCh).2 false) (cond (st==3) (cond (decide (ch ≥ 0)) (!(log.getD ch.toNat dCh).2) false) false))
noncomputable def B83 (a0 a1 a2:Int) (a4:LIbe) (j:M1):Bool:=J5 j.1 (wI (a1*1000)) (wI (wI (wI (a1*1000)+a2) - 1))&&(B1x j.2.1&&((C9z (H8 j.2.1 a0) j.2.2.2).1==1&&D1c a4 j.2.2.1 (A8x a4 j.1)))
noncomputable def C1s (a3:List M1) (i:Nat):Bool:=cond (decide ((i:Int) > 0)) (!decide ((a3.getD (i - 1) J0).1 ≥ (a3.getD i J0).1)) true
noncomputable def shO (n:Int) (o:Int×ByteArray×ByteArray):Int:=A9M o.2.1 n
theorem B5b {l:Lq1} (h:T5 l=true) {o:Int×ByteArray×ByteArray} (ho:o∈l):o.2.1.size≤1048576:=(D0d h o ho).1
theorem D1C (s:ByteArray) (i:Int):∃ n:Nat,bt s i=(n:Int)∧n<256:=by
 unfold bt
 split
 ·exact ⟨_,rfl,UInt8.toNat_lt _⟩
 ·exact ⟨0,rfl,by decide⟩
theorem C7u (n:Nat):IntKind.wrap .u32 (n:Int)=((n % 4294967296:Nat):Int):=by
 show (if (false&&decide ((n:Int) % (2 ^ 32:Int) ≥ (2 ^ 31:Int)))=true then (n:Int) % (2 ^ 32:Int) - (2 ^ 32:Int) else (n:Int) % (2 ^ 32:Int))=_
 simp only [Bool.false_and,Bool.false_eq_true,if_false];omega
theorem C45 {a b:Nat} (ha:a<4294967296) (hb:b<4294967296):a ^^^ b<4294967296:=Nat.xor_lt_two_pow (n:=32) ha hb
theorem C9G (n:Nat) (h:n<4294967296):(BitVec.ofInt 32 (n:Int)).toNat=n:=by
 simp [BitVec.toNat_ofInt];omega
theorem D1E {a b:Nat} (ha:a<4294967296) (hb:b<4294967296):ixor .u32 (a:Int) (b:Int)=((a ^^^ b:Nat):Int):=by
 have h:=C45 ha hb
 show IntKind.wrap .u32 (((BitVec.ofInt 32 (a:Int) ^^^ BitVec.ofInt 32 (b:Int)).toNat:Nat):Int)=_
 rw [BitVec.toNat_xor,C9G a ha,C9G b hb,C7u,Nat.mod_eq_of_lt h]
theorem B8U (n:Nat) (h:n<18446744073709551616):(BitVec.ofInt 64 (n:Int)).toNat=n:=by
 simp [BitVec.toNat_ofInt];omega
theorem D1F {a b:Nat} (ha:a<4294967296) (hb:b<4294967296):ixor .i64 (a:Int) (b:Int)=((a ^^^ b:Nat):Int):=by
 have h:=C45 ha hb
 show wI (((BitVec.ofInt 64 (a:Int) ^^^ BitVec.ofInt 64 (b:Int)).toNat:Nat):Int)=_
 rw [BitVec.toNat_xor,B8U a (by omega),B8U b (by omega)]
 exact A6r (by omega) (by omega)
theorem D1D (n:Nat) (h:n<9223372036854775808):iand .i64 (n:Int) 4294967295=((n % 4294967296:Nat):Int):=by
 show wI (((BitVec.ofInt 64 (n:Int) &&& BitVec.ofInt 64 ((4294967295:Nat):Int)).toNat:Nat):Int)=_
 rw [BitVec.toNat_and,B8U n (by omega),B8U 4294967295 (by omega),show (4294967295:Nat)=2 ^ 32 - 1 from rfl,Nat.and_two_pow_sub_one_eq_mod]
 exact A6r (by omega) (by omega)
theorem D0O {s:ByteArray} (hs:s.size≤1048576):∃ h:Nat,h<4294967296∧B21 s 2166136261 0=(0,(h:Int))∧B22 s 2166136261 0=(0,(h:Int)):=by
 have key:=A61 (ss:=fun v:B4P=>B3t v.1 v.2.1 v.2.2) (fa:=C0b) (tt:=fun v:B4Q=>B3u v.1 v.2.1 v.2.2) (fb:=C0c) (v:=(s,2166136261,0)) (w:=(s,2166136261,0))
  (fun v w=>∃ h i:Nat,v=(s,(h:Int),(i:Int))∧w=(s,(h:Int),(i:Int))∧h<4294967296∧i≤s.size) (fun a b=>∃ h:Nat,h<4294967296∧a=(0,(h:Int))∧b=(0,(h:Int))) (fun v=>s.size - v.2.2.toNat) (fun v w hr=>by
   obtain ⟨h,i,rfl,rfl,h1,h2⟩:=hr
   by_cases hi:i<s.size
   ·have e1:decide ((i:Int)<(s.size:Int))=true:=decide_eq_true (by omega)
    have e2:decide (0≤(i:Int)∧(i:Int)<(s.size:Int))=true:=decide_eq_true (by omega)
    obtain ⟨b,hb,hb2⟩:=D1C s (i:Int)
    have w1:IntKind.wrap .u32 (b:Int)=(b:Int):=by rw [C7u];omega
    have w2:wI (b:Int)=(b:Int):=A6r (by omega) (by omega)
    have hx:=C45 h1 (show b<4294967296 by omega)
    have c1:((h ^^^ b:Nat):Int)*16777619=(((h ^^^ b)*16777619:Nat):Int):=by simp
    have w3:wI ((((h ^^^ b)*16777619:Nat):Int))=(((h ^^^ b)*16777619:Nat):Int):=A6r (by omega) (by omega)
    refine .inl ⟨(s,(((h ^^^ b)*16777619 % 4294967296:Nat):Int),((i+1:Nat):Int)),(s,(((h ^^^ b)*16777619 % 4294967296:Nat):Int),((i+1:Nat):Int)),?_,?_,⟨_,i+1,rfl,rfl,Nat.mod_lt _ (by decide),by omega⟩,by simp only [Int.toNat_natCast];omega⟩
    ·simp only [B3t,e1,e2,cond_true,hb,w1,D1E h1 (show b<4294967296 by omega),c1,C7u,A7f i (by omega)]
    ·simp only [B3u,e1,e2,cond_true,hb,w2,D1F h1 (show b<4294967296 by omega),c1,w3,D1D _ (show (h ^^^ b)*16777619<9223372036854775808 by omega),A7f i (by omega)]
   ·have e1:decide ((i:Int)<(s.size:Int))=false:=decide_eq_false (by omega)
    exact .inr ⟨_,_,by simp only [B3t,e1,cond_false],by simp only [B3u,e1,cond_false],h,h1,rfl,rfl⟩) ⟨2166136261,0,rfl,rfl,by decide,Nat.zero_le _⟩ (by simp;omega)
 obtain ⟨h,h1,h2,h3⟩:=key
 exact ⟨h,h1,h2,h3⟩
theorem A92 {s:ByteArray} (hs:s.size≤1048576) (n:Int):Z5 s n=true∧W2 s n=true∧A9M s n=B3j s n∧0≤A9M s n∧(1≤n→A9M s n<n):=by
 obtain ⟨h,h1,h2,h3⟩:=D0O hs
 have w:wI (h:Int)=(h:Int):=A6r (by omega) (by omega)
 simp only [Z5,W2,A9M,B3j,B8V,B8Y,C9C,C9H,h2,h3,w]
 by_cases hn:n<1
 ·simp only [decide_eq_true hn,cond_true]
  exact ⟨trivial,trivial,trivial,Int.le_refl _,fun h=>by omega⟩
 ·have e:decide (n ≠ 0)=true:=decide_eq_true (by omega)
  simp only [decide_eq_false hn,cond_false,e]
  exact ⟨rfl,rfl,trivial,Int.tmod_nonneg _ (by omega),fun _=>Int.tmod_lt_of_pos _ (by omega)⟩
theorem B57 {l:List Int} (hl:l.length≤1048576) (x:Int):T8 l x=true∧A8Z l x=decide (x∈l):=by
 have key:A87 l x 0=(0,true)∧x∈l∨A87 l x 0=(1,false)∧x ∉ l:=by
  refine A60 (fun v:B2N=>∃ i:Nat,v=(l,x,(i:Int))∧i≤l.length∧x ∉ l.take i) (fun a:B0k=>a=(0,true)∧x∈l∨a=(1,false)∧x ∉ l) (fun v=>l.length - v.2.2.toNat) ?_ ⟨0,rfl,Nat.zero_le _,by simp⟩ (by simp;omega)
  rintro v ⟨i,rfl,hi,hx⟩
  by_cases hlt:i<l.length
  ·have e1:decide ((i:Int)<(l.length:Int))=true:=decide_eq_true (by omega)
   have e2:decide (0≤(i:Int)∧(i:Int)<(l.length:Int))=true:=decide_eq_true (by omega)
   simp only [B34,e1,e2,cond_true,Int.toNat_natCast,A7f i (by omega)]
   cases hc:(l.getD i 0==x) with
   | true=>exact .inr ⟨_,rfl,.inl ⟨rfl,by have:=M0 hlt 0;simp only [beq_iff_eq] at hc;rw [hc] at this;exact this⟩⟩
   | false =>
    refine .inl ⟨_,rfl,⟨i+1,rfl,by omega,?_⟩,by simp only [Int.toNat_natCast];omega⟩
    rw [I8 hlt 0]
    simp only [beq_eq_false_iff_ne] at hc
    simp only [List.mem_append,List.mem_singleton,not_or]
    exact ⟨hx,fun h=>hc h.symm⟩
  ·obtain rfl:i=l.length:=by omega
   have e1:decide ((l.length:Int)<(l.length:Int))=false:=decide_eq_false (by omega)
   simp only [B34,e1,cond_false]
   rw [List.take_length] at hx
   exact .inr ⟨_,rfl,.inr ⟨rfl,hx⟩⟩
 simp only [T8,A8Z]
 rcases key with ⟨h1,h2⟩ | ⟨h1,h2⟩
 ·rw [h1,decide_eq_true h2];exact ⟨rfl,rfl⟩
 ·rw [h1,decide_eq_false h2];exact ⟨rfl,rfl⟩
theorem C7r {α:Type} (a b:List α) (y x:α):(a++y::b).set a.length x=a++x::b:=by
 rw [List.set_append_right _ _ (Nat.le_refl _),Nat.sub_self];rfl
theorem D1r {α:Type} {R:α→α→Prop} {l:List α} (h:l.Pairwise R) (i:Nat) (hi:i<l.length) (d:α):∀ x∈l.take i,R x (l.getD i d):=by
 intro x hx
 obtain ⟨j,hj,rfl⟩:=List.getElem_of_mem hx
 rw [List.length_take] at hj
 have:=List.pairwise_iff_getElem.1 h j i (by omega) hi (by omega)
 simpa [List.getD_eq_getElem?_getD,hi] using this
theorem C9a {l:List Int} (hl:l.length≤1048576) (hs:l.Pairwise (·<·)) (x:Int):Y2 l x=true∧(A9e l x).Pairwise (·<·)∧(A9e l x).length≤l.length+1∧∀ z,z∈A9e l x↔z∈l∨z=x:=by
 obtain ⟨h1,h2⟩:=B57 hl x
 by_cases hx:x∈l
 ·simp only [Y2,A9e,h1,h2,decide_eq_true hx,cond_true,Bool.true_and]
  exact ⟨trivial,hs,by omega,fun z=>⟨.inl,fun h=>h.elim id (fun h=>h ▸ hx)⟩⟩
 ·have key : ∃ (k : Nat) (y : Int), B24 x (l.length : Int) (l ++ [x]) = (0, x, (k : Int), l.take k ++ y :: l.drop k) ∧ k ≤ l.length ∧ (∀ z ∈ l.drop k, x < z) ∧ ∀ z ∈ l.take k, z < x := by
   refine A60 (fun v:A8w=>∃ (k:Nat) (y:Int),v=(x,(k:Int),l.take k++y::l.drop k)∧k≤l.length∧∀ z∈l.drop k,x<z) (fun a:A0j=>∃ (k:Nat) (y:Int),a=(0,x,(k:Int),l.take k++y::l.drop k)∧k≤l.length∧(∀ z∈l.drop k,x<z)∧∀ z∈l.take k,z<x) (fun v=>v.2.1.toNat) ?_ ⟨l.length,x,by rw [List.take_length,List.drop_length],Nat.le_refl _,by simp⟩ (by simp;omega)
   rintro v ⟨k,y,rfl,hk,hd⟩
   have hlen:(l.take k++y::l.drop k).length=l.length+1:=by simp;omega
   cases k with
   | zero =>
    have e1:decide (((0:Nat):Int) > 0)=false:=by decide
    simp only [A99,e1,cond_false]
    exact .inr ⟨_,rfl,0,y,rfl,Nat.zero_le _,hd,by simp⟩
   | succ k =>
    have hlt:k<l.length:=by omega
    have w:wI (((k+1:Nat):Int) - 1)=((k:Nat):Int):=by rw [A6r (by omega) (by omega)];omega
    have e1:decide (((k+1:Nat):Int) > 0)=true:=decide_eq_true (by omega)
    have e2:decide (0≤((k:Nat):Int)∧((k:Nat):Int)<(((l.take (k+1)++y::l.drop (k+1)).length:Nat):Int))=true:=decide_eq_true (by omega)
    have e3:decide (0≤((k+1:Nat):Int)∧((k+1:Nat):Int)<(((l.take (k+1)++y::l.drop (k+1)).length:Nat):Int))=true:=decide_eq_true (by omega)
    have hg:(l.take (k+1)++y::l.drop (k+1)).getD k 0=l.getD k 0:=by
     rw [List.getD_eq_getElem?_getD,List.getElem?_append_left (by rw [List.length_take];omega),List.getElem?_take_of_lt (by omega),← List.getD_eq_getElem?_getD]
    have hset:(l.take (k+1)++y::l.drop (k+1)).set (k+1) (l.getD k 0)=l.take k++l.getD k 0::l.drop k:=by
     have hk1:(l.take (k+1)).length=k+1:=by rw [List.length_take];omega
     have:=C7r (l.take (k+1)) (l.drop (k+1)) y (l.getD k 0)
     rw [hk1] at this
     rw [this,I8 hlt 0,List.append_assoc]
     have hd2:l.drop k=l.getD k 0::l.drop (k+1):=by
      rw [List.drop_eq_getElem_cons hlt];simp [List.getD_eq_getElem?_getD,hlt]
     rw [hd2];rfl
    simp only [A99,w,e1,e2,e3,hg,hset,cond_true,Int.toNat_natCast]
    by_cases hgt:l.getD k 0 > x
    ·simp only [decide_eq_true hgt,cond_true]
     refine .inl ⟨_,rfl,⟨k,l.getD k 0,rfl,by omega,fun z hz=>?_⟩,by simp only [Int.toNat_natCast];omega⟩
     have hd2:l.drop k=l.getD k 0::l.drop (k+1):=by
      rw [List.drop_eq_getElem_cons hlt];simp [List.getD_eq_getElem?_getD,hlt]
     rw [hd2] at hz
     rcases List.mem_cons.1 hz with rfl | hz
     ·exact hgt
     ·exact hd z hz
    ·simp only [decide_eq_false hgt,cond_false]
     refine .inr ⟨_,rfl,k+1,y,rfl,hk,hd,fun z hz=>?_⟩
     have hzl:z∈l:=List.mem_of_mem_take hz
     have hne:z ≠ x:=fun h=>hx (h ▸ hzl)
     rw [I8 hlt 0] at hz
     rcases List.mem_append.1 hz with hz | hz
     ·have:=D1r hs k hlt 0 z hz;omega
     ·simp only [List.mem_singleton] at hz;omega
  obtain ⟨k,y,e,hk,hd,ht⟩:=key
  have hlen:(l.take k++y::l.drop k).length=l.length+1:=by simp;omega
  have w:wI ((((([]:List Int)++l)++[x]).length:Int) - 1)=(l.length:Int):=by rw [List.nil_append,List.length_append,List.length_singleton,A6r (by omega) (by omega)];omega
  have hk1:(l.take k).length=k:=by rw [List.length_take];omega
  have hset:=C7r (l.take k) (l.drop k) y x
  rw [hk1] at hset
  have m1:decide ((([]:List Int).length+l.length)*8≤MAXB)=true:=decide_eq_true (by simp only [List.length_nil,MAXB];omega)
  have m2:decide (((([]:List Int)++l).length+[x].length)*8≤MAXB)=true:=decide_eq_true (by simp only [List.nil_append,List.length_singleton,MAXB];omega)
  have m3:decide (0≤(k:Int)∧(k:Int)<(((l.take k++y::l.drop k).length:Nat):Int))=true:=decide_eq_true (by omega)
  have k1:A9W l x=(0,x,(k:Int),l.take k++y::l.drop k):=by rw [A9W,w,List.nil_append,e]
  simp only [Y2,A9e,h1,h2,decide_eq_false hx,cond_false,m1,m2,k1,m3,Int.toNat_natCast,hset,Bool.true_and]
  have hs':=hs
  rw [← List.take_append_drop k l,List.pairwise_append] at hs'
  obtain ⟨p1,p2,p3⟩:=hs'
  refine ⟨rfl,List.pairwise_append.2 ⟨p1,List.pairwise_cons.2 ⟨hd,p2⟩,fun a ha b hb=>?_⟩,by simp;omega,fun z=>?_⟩
  ·rcases List.mem_cons.1 hb with rfl | hb
   ·exact ht a ha
   ·exact p3 a ha b hb
  ·have : z ∈ l ↔ z ∈ l.take k ∨ z ∈ l.drop k := by
    rw [← List.mem_append,List.take_append_drop]
   rw [this,List.mem_append,List.mem_cons]
   constructor
   ·rintro (h | h | h)
    ·exact .inl (.inl h)
    ·exact .inr h
    ·exact .inl (.inr h)
   ·rintro ((h | h) | h)
    ·exact .inl h
    ·exact .inr (.inr h)
    ·exact .inr (.inl h)
theorem B8r {l:Lq1} (ho:T5 l=true) (n:Int):N2 l n=true∧(H8 l n).Pairwise (·<·)∧∀ z,z∈H8 l n↔z∈l.map (shO n):=by
 have hl:=A8e ho
 have key:∃ r:List Int,A7V l n [] 0=(0,r)∧r.Pairwise (·<·)∧∀ z,z∈r↔z∈l.map (shO n):=by
  refine A60 (fun v:A8v=>∃ (i:Nat) (r:List Int),v=(l,n,r,(i:Int))∧i≤l.length∧r.Pairwise (·<·)∧r.length≤i∧∀ z,z∈r↔z∈(l.take i).map (shO n)) (fun a:A0i=>∃ r:List Int,a=(0,r)∧r.Pairwise (·<·)∧∀ z,z∈r↔z∈l.map (shO n)) (fun v=>l.length - v.2.2.2.toNat) ?_ ⟨0,[],rfl,Nat.zero_le _,.nil,Nat.le_refl _,by simp⟩ (by simp;omega)
  rintro v ⟨i,r,rfl,hi,hp,hr,hm⟩
  by_cases hlt:i<l.length
  ·have e1:decide ((i:Int)<(l.length:Int))=true:=decide_eq_true (by omega)
   have e2:decide (0≤(i:Int)∧(i:Int)<(l.length:Int))=true:=decide_eq_true (by omega)
   have hk:=B5b ho (M0 hlt dOp)
   obtain ⟨_,q1,q2,_⟩:=A92 hk n
   obtain ⟨p1,p2,p3,p4⟩:=C9a (l:=r) (by omega) hp (B3j (l.getD i dOp).2.1 n)
   have hd:((0:Int),((⟨#[]⟩:ByteArray),(⟨#[]⟩:ByteArray)))=dOp:=rfl
   simp only [A98,B52,hd,e1,e2,cond_true,Int.toNat_natCast,q1,p1,A7f i (by omega)]
   refine .inl ⟨_,rfl,⟨i+1,_,rfl,by omega,p2,by omega,fun z=>?_⟩,by simp only [Int.toNat_natCast];omega⟩
   rw [p4,hm,I8 hlt dOp,List.map_append,List.mem_append,← q2]
   simp only [List.map_cons,List.map_nil,List.mem_singleton,shO]
  ·obtain rfl:i=l.length:=by omega
   have e1:decide ((l.length:Int)<(l.length:Int))=false:=decide_eq_false (by omega)
   simp only [A98,e1,cond_false]
   rw [List.take_length] at hm
   exact .inr ⟨_,rfl,r,rfl,hp,hm⟩
 obtain ⟨r,e,h1,h2⟩:=key
 simp only [N2,H8,e]
 exact ⟨rfl,h1,h2⟩
theorem C6F {l:Lq1} (ho:T5 l=true) (n:Int):A7T n l (l.length:Int) 0 []=(0,l.map (shO n)):=by
 have hl:=A8e ho
 refine A60 (fun v:A8u=>∃ i:Nat,v=(n,l,(l.length:Int),(i:Int),(l.take i).map (shO n))∧i≤l.length) (fun a:A0h=>a=(0,l.map (shO n))) (fun v=>l.length - v.2.2.2.1.toNat) ?_ ⟨0,by simp,Nat.zero_le _⟩ (by simp;omega)
 rintro v ⟨i,rfl,hi⟩
 by_cases hlt:i<l.length
 ·have e1:decide ((i:Int)<(l.length:Int))=true:=decide_eq_true (by omega)
  have e2:decide (0≤(i:Int)∧(i:Int)<(l.length:Int))=true:=decide_eq_true (by omega)
  have hm:∀ x:Int,decide ((((l.take i).map (shO n)).length+[x].length)*8≤MAXB)=true:=fun x=>decide_eq_true (by simp only [List.length_map,List.length_take,List.length_singleton,MAXB];omega)
  have hk:=B5b ho (M0 hlt dOp)
  have hq:=(A92 hk n).1
  simp only [dOp] at hq
  simp only [A96,e1,e2,cond_true,Int.toNat_natCast,hq,hm,B50,A7f i (by omega)]
  refine .inl ⟨_,rfl,⟨i+1,?_,by omega⟩,by simp only [Int.toNat_natCast];omega⟩
  rw [I8 hlt dOp,List.map_append]
  rfl
 ·obtain rfl:i=l.length:=by omega
  have e1:decide ((l.length:Int)<(l.length:Int))=false:=decide_eq_false (by omega)
  simp only [A96,e1,cond_false]
  exact .inr ⟨_,rfl,by rw [List.take_length]⟩
theorem C4d {l:Lq1} (ho:T5 l=true) (n:Int):P1 l n=true∧B0q l n=Lib.compact (A5F (l.map (shO n))):=by
 have hl:=A8e ho
 have q1:∀ x:List Int,x.length=l.length→C1G x=true:=fun x hx=>decide_eq_true (by omega)
 simp only [P1,B0q,B2a,C6F ho n,A8G,P5,q1 _ (by simp:(l.map (shO n)).length=l.length),q1 (A5F (l.map (shO n))) (by simp [A5F]),C7Z]
 refine ⟨?_,?_⟩
 ·simp
 ·rw [Int.toNat_natCast,List.drop_zero,List.take_left]
theorem D1q {α:Type} {R:α→α→Prop} {h:List α} {x:α} (h1:h.Pairwise R) (h2:∀ y∈h,R y x):(h++[x]).Pairwise R:=by
 rw [List.pairwise_append]
 exact ⟨h1,by simp,fun a ha b hb=>by simp at hb;subst hb;exact h2 a ha⟩
theorem C70 {zs:List Int} (hs:zs.Pairwise (·≤·)):∀ m,m≤zs.length→(∀ x∈Lib.compactUpTo zs.toArray m,x∈zs)∧(∀ j,j<m→zs.getD j 0∈Lib.compactUpTo zs.toArray m)∧(Lib.compactUpTo zs.toArray m).Pairwise (·<·)∧(∀ x∈Lib.compactUpTo zs.toArray m,x≤zs.getD (m - 1) 0):=by
 have hg:∀ j,j<zs.length→zs.toArray[j]! = zs.getD j 0:=fun j hj=>by
  rw [getElem!_pos zs.toArray j (by simpa using hj)];simp [List.getD_eq_getElem?_getD,hj]
 intro m
 induction m with
 | zero=>intro _;exact ⟨fun x hx=>by simp [Lib.compactUpTo] at hx,fun j hj=>by omega,by simp [Lib.compactUpTo],fun x hx=>by simp [Lib.compactUpTo] at hx⟩
 | succ m ih =>
  intro hm
  obtain ⟨i1,i2,i3,i4⟩:=ih (by omega)
  rw [Lib.compactUpTo_succ]
  have hmz:zs.getD m 0∈zs:=M0 (by omega) _
  by_cases hk:Lib.keeps zs.toArray m=true
  ·rw [if_pos hk,hg m (by omega)]
   have hlt:∀ x∈Lib.compactUpTo zs.toArray m,x<zs.getD m 0:=by
    intro x hx
    have hm0:0<m:=by
     cases m with
     | zero=>simp [Lib.compactUpTo] at hx
     | succ m=>omega
    have h1:=i4 x hx
    have h2:=List.pairwise_iff_getElem.1 hs (m - 1) m (by omega) (by omega) (by omega)
    have e1:zs.getD (m - 1) 0=zs[m - 1]:=by simp [List.getD_eq_getElem?_getD,show m - 1<zs.length by omega]
    have e2:zs.getD m 0=zs[m]:=by simp [List.getD_eq_getElem?_getD,show m<zs.length by omega]
    have h3:zs.getD m 0 ≠ zs.getD (m - 1) 0:=by
     simp only [Lib.keeps,decide_eq_true_eq] at hk
     rcases hk with hk | hk
     ·omega
     ·rw [hg m (by omega),hg (m - 1) (by omega)] at hk;exact hk
    rw [e1] at h1 h3
    rw [e2] at h3 ⊢
    omega
   refine ⟨fun x hx=>?_,fun j hj=>?_,D1q i3 hlt,fun x hx=>?_⟩
   ·rcases List.mem_append.1 hx with hx | hx
    ·exact i1 x hx
    ·simp at hx;rw [hx];simpa using hmz
   ·by_cases e:j=m
    ·subst e;simp
    ·exact List.mem_append_left _ (i2 j (by omega))
   ·rw [Nat.add_sub_cancel]
    rcases List.mem_append.1 hx with hx | hx
    ·exact Int.le_of_lt (hlt x hx)
    ·simp only [List.mem_singleton] at hx;rw [hx];exact Int.le_refl _
  ·have hk':Lib.keeps zs.toArray m=false:=by simpa using hk
   have hm0:¬ m=0:=by
    intro e;subst e;simp [Lib.keeps] at hk
   have heq:zs.getD m 0=zs.getD (m - 1) 0:=by
    simp only [Lib.keeps,decide_eq_false_iff_not,not_or,Classical.not_not] at hk'
    rw [hg m (by omega),hg (m - 1) (by omega)] at hk'
    exact hk'.2
   rw [if_neg hk,List.append_nil]
   refine ⟨i1,fun j hj=>?_,i3,fun x hx=>?_⟩
   ·by_cases e:j=m
    ·subst e;rw [heq];exact i2 (j - 1) (by omega)
    ·exact i2 j (by omega)
   ·rw [Nat.add_sub_cancel,heq];exact i4 x hx
theorem C7s (l:List Int):(A5F l).Pairwise (·≤·):=by
 have h:=List.pairwise_mergeSort (le:=fun x y:Int=>decide (x≤y)) (fun a b c h1 h2=>by simp at *;omega) (fun a b=>by simp;omega) l
 exact h.imp (fun h=>by simpa using h)
theorem C5Z (l:List Int) (x:Int):x∈A5F l↔x∈l:=by simp [A5F]
theorem C6q (l:List Int):(Lib.compact (A5F l)).Pairwise (·<·)∧∀ x,x∈Lib.compact (A5F l)↔x∈l:=by
 obtain ⟨i1,i2,i3,_⟩:=C70 (C7s l) (A5F l).length (Nat.le_refl _)
 refine ⟨i3,fun x=>⟨fun h=>(C5Z l x).1 (i1 x h),fun h=>?_⟩⟩
 obtain ⟨j,hj,e⟩:=List.getElem_of_mem ((C5Z l x).2 h)
 have:=i2 j hj
 rw [List.getD_eq_getElem?_getD,List.getElem?_eq_getElem hj,Option.getD_some,e] at this
 exact this
theorem C40:∀ a b:List Int,a.Pairwise (·<·)→b.Pairwise (·<·)→(∀ x,x∈a↔x∈b)→a=b
 | [],[],_,_,_=>rfl
 | [],y::b,_,_,h=>absurd ((h y).2 List.mem_cons_self) (by simp)
 | x::a,[],_,_,h=>absurd ((h x).1 List.mem_cons_self) (by simp)
 | x::a,y::b,ha,hb,h=>by
  obtain ⟨a1,a2⟩:=List.pairwise_cons.1 ha
  obtain ⟨b1,b2⟩:=List.pairwise_cons.1 hb
  have hxy:x=y:=by
   rcases List.mem_cons.1 ((h x).1 List.mem_cons_self) with h1 | h1
   ·exact h1
   ·rcases List.mem_cons.1 ((h y).2 List.mem_cons_self) with h2 | h2
    ·exact h2.symm
    ·have:=b1 x h1;have:=a1 y h2;omega
  subst hxy
  rw [C40 a b a2 b2 fun z=>⟨fun hz=>?_,fun hz=>?_⟩]
  ·rcases List.mem_cons.1 ((h z).1 (List.mem_cons_of_mem _ hz)) with h1 | h1
   ·have:=a1 z hz;omega
   ·exact h1
  ·rcases List.mem_cons.1 ((h z).2 (List.mem_cons_of_mem _ hz)) with h1 | h1
   ·have:=b1 z hz;omega
   ·exact h1
theorem B6G (zs:Array Int):∀ m,(Lib.compactUpTo zs m).length≤m
 | 0=>by simp [Lib.compactUpTo]
 | m+1=>by
  have:=B6G zs m
  rw [Lib.compactUpTo_succ]
  by_cases hk:Lib.keeps zs m=true
  ·rw [if_pos hk,List.length_append];simp;omega
  ·rw [if_neg hk,List.append_nil];omega
theorem C71 (l:List Int):(Lib.compact (A5F l)).length≤l.length:=by
 have h:=B6G (A5F l).toArray (A5F l).length
 have e:(A5F l).length=l.length:=by simp [A5F]
 rw [e] at h
 exact Nat.le_trans (Nat.le_of_eq (by simp [Lib.compact,e])) h
theorem A0q {l:Lq1} (ho:T5 l=true) (n:Int):N2 l n=true∧P1 l n=true∧B0q l n=H8 l n∧(H8 l n).length≤1048576:=by
 obtain ⟨s1,s2,s3⟩:=B8r ho n
 obtain ⟨i1,i2⟩:=C4d ho n
 obtain ⟨c1,c2⟩:=C6q (l.map (shO n))
 have e:B0q l n=H8 l n:=by rw [i2];exact C40 _ _ c1 s2 (fun z=>by rw [c2,s3])
 refine ⟨s1,i1,e,?_⟩
 have hc:=C71 (l.map (shO n))
 have hl:=A8e ho
 rw [← e,i2]
 rw [List.length_map] at hc
 omega
theorem B5B (log:LIbe) (tx:Int):A8x log tx=-1∨0≤A8x log tx∧A8x log tx<(log.length:Int):=by
 rcases C5R log tx with ⟨j,h1,h2⟩ | h
 ·right;simp only [A8x,h2];show 0≤(j:Int)∧(j:Int)<_;omega
 ·left;simp only [A8x,h];rfl
theorem D1t {L ys:List Int} (hL:L.length≤1048576) (hy:ys.length≤1048576) (a0 a1 a2:Int) (a3:List M1) (a4:LIbe) (a5 b0:Int) (b1:Lq1) (b2:Int):B5Z L 0 a0 a1 a2 a3 a4 a5 b0 b1 b2 ys=C9z L ys:=by
 refine A0b (fun i=>(L,(i:Int))) ys.length _ _ (by omega) (fun i hi=>?_) ?_
 ·have e1:decide ((i:Int)<(ys.length:Int))=true:=decide_eq_true (by omega)
  have e2:decide (0≤(i:Int)∧(i:Int)<(ys.length:Int))=true:=decide_eq_true (by omega)
  obtain ⟨q1,q2⟩:=B57 hL (ys.getD i 0)
  simp only [B2g,e1,e2,cond_true,Int.toNat_natCast,q1,q2,A7f i (by omega),D00]
  cases i with
  | zero=>cases decide (ys.getD 0 0∈L)<;>rfl
  | succ k =>
   have w:wI (((k+1:Nat):Int) - 1)=((k:Nat):Int):=by rw [A6r (by omega) (by omega)];omega
   have e3:decide (((k+1:Nat):Int) > 0)=true:=decide_eq_true (by omega)
   have e4:decide (0≤((k:Nat):Int)∧((k:Nat):Int)<(ys.length:Int))=true:=decide_eq_true (by omega)
   simp only [w,e3,e4,cond_true,Int.toNat_natCast,Nat.add_sub_cancel]
   cases decide (ys.getD (k+1) 0∈L)<;>cases decide (ys.getD k 0 ≥ ys.getD (k+1) 0)<;>rfl
 ·have e1:decide ((ys.length:Int)<(ys.length:Int))=false:=decide_eq_false (by omega)
  simp only [B2g,e1,cond_false]
theorem D0W (x:Int):((x==1)=true∧(x==2)=false∧(x==3)=false∧J5 x 1 3=true)∨((x==1)=false∧(x==2)=true∧(x==3)=false∧J5 x 1 3=true)∨((x==1)=false∧(x==2)=false∧(x==3)=true∧J5 x 1 3=true)∨((x==1)=false∧(x==2)=false∧(x==3)=false∧J5 x 1 3=false):=by
 by_cases h1:x=1
 ·subst h1;exact .inl ⟨rfl,rfl,rfl,rfl⟩
 by_cases h2:x=2
 ·subst h2;exact .inr (.inl ⟨rfl,rfl,rfl,rfl⟩)
 by_cases h3:x=3
 ·subst h3;exact .inr (.inr (.inl ⟨rfl,rfl,rfl,rfl⟩))
 refine .inr (.inr (.inr ⟨by simpa using h1,by simpa using h2,by simpa using h3,?_⟩))
 simp only [J5]
 by_cases h4:x ≥ 1
 ·rw [decide_eq_true h4,decide_eq_false (by omega)];rfl
 ·rw [decide_eq_false h4];rfl
theorem C0L (L ys:List Int):C9z L ys=(0,false)∨C9z L ys=(1,false):=by
 rcases A9d (D00 L ys) (1,false) ys.length 0 with ⟨j,a,_,h2,h3,_,h5⟩ | ⟨_,h⟩
 ·left
  rw [C9z,h5]
  simp only [D00] at h3
  revert h3
  cases (!decide (ys.getD j 0∈L))<;>cases decide ((j:Int) > 0)<;>cases decide (ys.getD (j - 1) 0 ≥ ys.getD j 0)<;>simp [eq_comm]
 ·exact .inr h
theorem D1s (a0 a1 a2:Int) {a3:List M1} {a4:LIbe} (a5:Int) (hl:a4.length≤1048576) (h3:a3.length≤1048576) {i:Nat} (hi:i<a3.length) (hj:A89 (a3.getD i J0)):A9c a0 a1 a2 a3 a4 a5 (i:Int)=true∧B80 a0 a1 a2 a3 a4 a5 (i:Int)=(B83 a0 a1 a2 a4 (a3.getD i J0)&&C1s a3 i):=by
 have hdj:((0:Int),(([]:Lq1),((0:Int),([]:List Int))))=J0:=rfl
 have e2:decide (0≤(i:Int)∧(i:Int)<(a3.length:Int))=true:=decide_eq_true (by omega)
 have hw:decide ((i:Int) > 0)=true→decide (0≤wI ((i:Int) - 1)∧wI ((i:Int) - 1)<(a3.length:Int))=true∧(wI ((i:Int) - 1)).toNat=i - 1:=fun h=>by
  have:=of_decide_eq_true h
  have w:wI ((i:Int) - 1)=(i:Int) - 1:=A6r (by omega) (by omega)
  rw [w]
  exact ⟨decide_eq_true (by omega),by omega⟩
 obtain ⟨o1,o2⟩:=hj
 obtain ⟨s1,s2,s3,s4⟩:=A0q o1 a0
 obtain ⟨c1,c2⟩:=C0G a0 a1 a2 a3 a5 hl (a3.getD i J0).1
 have hr:=B5B a4 (a3.getD i J0).1
 have hy:=D1t s4 o2 a0 a1 a2 a3 a4 a5 (a3.getD i J0).1 (a3.getD i J0).2.1 (a3.getD i J0).2.2.1
 simp only [A9c,B80,B53,B55,B56,B5j,hdj,Int.toNat_natCast,e2,s1,c1,c2,o1,hy,B83,D1c,C1s,dCh,Bool.true_and]
 generalize a3.getD i J0=j at *
 generalize A8x a4 j.1=ch at *
 have hneg:decide (ch<0)=!decide (ch ≥ 0):=by
  by_cases h:ch<0
  ·rw [decide_eq_true h,decide_eq_false (by omega)];rfl
  ·rw [decide_eq_false h,decide_eq_true (by omega)];rfl
 rw [hneg]
 have hrd:decide (ch ≥ 0)=true→decide (0≤ch∧ch<(a4.length:Int))=true:=fun h=>by
  have:=of_decide_eq_true h
  exact decide_eq_true (by omega)
 generalize decide (0≤ch∧ch<(a4.length:Int))=q at hrd
 generalize decide (ch ≥ 0)=g at hrd
 generalize (a4.getD ch.toNat (0,false)).2=b
 generalize J5 j.1 (wI (a1*1000)) (wI (wI (wI (a1*1000)+a2) - 1))=r
 generalize B1x j.2.1=p
 have hst:=D0W j.2.2.1
 generalize (j.2.2.1==1)=t1 at hst ⊢
 generalize (j.2.2.1==2)=t2 at hst ⊢
 generalize (j.2.2.1==3)=t3 at hst ⊢
 generalize J5 j.2.2.1 1 3=t4 at hst ⊢
 generalize hz:decide ((i:Int) > 0)=z at hw
 generalize decide (0≤wI ((i:Int) - 1)∧wI ((i:Int) - 1)<(a3.length:Int))=wq at hw
 generalize (wI ((i:Int) - 1)).toNat=wn at hw
 rcases C0L (H8 j.2.1 a0) j.2.2.2 with e | e<;>rw [e]
 all_goals cases z with
  | true =>
   obtain ⟨rfl,rfl⟩:=hw rfl
   generalize decide ((a3.getD (i - 1) J0).1 ≥ j.1)=od
   cases g with
   | true=>obtain rfl:=hrd rfl;rcases hst with ⟨rfl,rfl,rfl,rfl⟩ | ⟨rfl,rfl,rfl,rfl⟩ | ⟨rfl,rfl,rfl,rfl⟩ | ⟨rfl,rfl,rfl,rfl⟩<;>cases r<;>cases p<;>cases od<;>cases b<;>exact ⟨rfl,rfl⟩
   | false=>rcases hst with ⟨rfl,rfl,rfl,rfl⟩ | ⟨rfl,rfl,rfl,rfl⟩ | ⟨rfl,rfl,rfl,rfl⟩ | ⟨rfl,rfl,rfl,rfl⟩<;>cases r<;>cases p<;>cases od<;>cases b<;>exact ⟨rfl,rfl⟩
  | false =>
   cases g with
   | true=>obtain rfl:=hrd rfl;rcases hst with ⟨rfl,rfl,rfl,rfl⟩ | ⟨rfl,rfl,rfl,rfl⟩ | ⟨rfl,rfl,rfl,rfl⟩ | ⟨rfl,rfl,rfl,rfl⟩<;>cases r<;>cases p<;>cases b<;>exact ⟨rfl,rfl⟩
   | false=>rcases hst with ⟨rfl,rfl,rfl,rfl⟩ | ⟨rfl,rfl,rfl,rfl⟩ | ⟨rfl,rfl,rfl,rfl⟩ | ⟨rfl,rfl,rfl,rfl⟩<;>cases r<;>cases p<;>cases b<;>exact ⟨rfl,rfl⟩
theorem B9w {l:List Int} (hl:l.length≤1048576) (x:Int):I7 l x=true∧J9 l x=decide (x∈l):=by
 have e:N5 l x (l.length:Int) 0=A7z (fun i=>cond (x==l.getD i 0) (some (0,(i:Int))) none) (1,0) l.length 0:=by
  refine A0b (fun i=>(l,x,(l.length:Int),(i:Int))) l.length _ _ (by omega) (fun i hi=>?_) ?_
  ·have e1:decide ((i:Int)<(l.length:Int))=true:=decide_eq_true (by omega)
   have e2:decide (0≤(i:Int)∧(i:Int)<(l.length:Int))=true:=decide_eq_true (by omega)
   simp only [U1,e1,e2,cond_true,Int.toNat_natCast,A7f i (by omega)]
   cases (x==l.getD i 0)<;>rfl
  ·have e1:decide ((l.length:Int)<(l.length:Int))=false:=decide_eq_false (by omega)
   simp only [U1,e1,cond_false]
 simp only [I7,J9,O0,A8h,e]
 rcases A9d (fun i=>cond (x==l.getD i 0) (some ((0:Nat),(i:Int))) none) (1,0) l.length 0 with ⟨j,a,_,h2,h3,_,h5⟩ | ⟨h1,h2⟩
 ·cases hc:(x==l.getD j 0) with
  | true =>
   simp only [hc,cond_true,Option.some.injEq] at h3
   rw [h5,← h3]
   have hm:x∈l:=by
    simp only [beq_iff_eq] at hc
    rw [hc];exact M0 (by omega) 0
   rw [decide_eq_true hm]
   exact ⟨rfl,decide_eq_true (by show (j:Int) ≥ 0;omega)⟩
  | false=>simp only [hc,cond_false] at h3;cases h3
 ·rw [h2]
  have hm:x ∉ l:=by
   intro hm
   obtain ⟨j,hj,e⟩:=List.getElem_of_mem hm
   have:=h1 j (Nat.zero_le _) (by omega)
   have hg:l.getD j 0=x:=by simp [List.getD_eq_getElem?_getD,hj,e]
   simp only [hg,beq_self_eq_true,cond_true] at this
   cases this
  rw [decide_eq_false hm]
  exact ⟨rfl,rfl⟩
theorem D1e {L ys:List Int} (hL:L.length≤1048576) (hy:ys.length≤1048576) (a0 a1 a2:Int) (a3:List M1) (a4:LIbe) (a5 b0:Int) (b1:Lq1) (b2:Int):A9N L ys (ys.length:Int) 0 a0 a1 a2 a3 a4 a5 b0 b1 b2 ys=C9z L ys:=by
 refine A0b (fun i=>(L,ys,(ys.length:Int),(i:Int))) ys.length _ _ (by omega) (fun i hi=>?_) ?_
 ·have e1:decide ((i:Int)<(ys.length:Int))=true:=decide_eq_true (by omega)
  have e2:decide (0≤(i:Int)∧(i:Int)<(ys.length:Int))=true:=decide_eq_true (by omega)
  obtain ⟨q1,q2⟩:=B9w hL (ys.getD i 0)
  simp only [A7A,e1,e2,cond_true,Int.toNat_natCast,q1,q2,A7f i (by omega),D00]
  cases i with
  | zero=>cases decide (ys.getD 0 0∈L)<;>rfl
  | succ k =>
   have w:wI (((k+1:Nat):Int) - 1)=((k:Nat):Int):=by rw [A6r (by omega) (by omega)];omega
   have e3:decide (((k+1:Nat):Int) > 0)=true:=decide_eq_true (by omega)
   have e4:decide (0≤((k:Nat):Int)∧((k:Nat):Int)<(ys.length:Int))=true:=decide_eq_true (by omega)
   have e5:decide (ys.getD (k+1) 0≤ys.getD k 0)=decide (ys.getD k 0 ≥ ys.getD (k+1) 0):=rfl
   simp only [w,e3,e4,e5,cond_true,Int.toNat_natCast,Nat.add_sub_cancel]
   cases decide (ys.getD (k+1) 0∈L)<;>cases decide (ys.getD k 0 ≥ ys.getD (k+1) 0)<;>rfl
 ·have e1:decide ((ys.length:Int)<(ys.length:Int))=false:=decide_eq_false (by omega)
  simp only [A7A,e1,cond_false]
theorem C88 (s:ByteArray) (i:Nat):B8q s i=B5X s i:=by
 have hb:0≤bt s (i:Int)∧bt s (i:Int)<256:=by
  unfold bt
  split
  ·have:=UInt8.toNat_lt s[(i:Int).toNat];omega
  ·simp
 have e:=A6r (n:=bt s (i:Int)) (by omega) (by omega)
 simp only [B8q,B5X,J5,B20,e]
 generalize bt s (i:Int)=c
 by_cases h1:c ≥ 97<;>by_cases h2:c≤122<;>by_cases h3:c ≥ 48<;>by_cases h4:c≤57<;>simp [h1,h2,h3,h4]
theorem C89 (s:ByteArray):C0H s=B4g s:=by
 have e:A4x (B8q s) (s.size - (0:Int).toNat) (0:Int).toNat=A4x (B5X s) (s.size - (0:Int).toNat) (0:Int).toNat:=C3T _ _ (fun j _ _=>C88 s j)
 simp only [C0H,B4g,C3J,K1,J5,e]
 cases A4x (B5X s) (s.size - (0:Int).toNat) (0:Int).toNat<;>cases decide ((s.size:Int) ≥ 1)<;>cases decide ((s.size:Int)≤12)<;>rfl
theorem D0f (k:Int) (s v:ByteArray):B9X k s v=C4e k s v:=by
 simp only [B9X,C4e,C89,D1B,J5]
 cases B4g s with
 | false =>
  by_cases h1:k=1<;>by_cases h2:k=2<;>by_cases h3:k=3<;>by_cases h4:v=⟨#[]⟩<;>by_cases h5:k ≥ 1<;>by_cases h6:k≤3<;>simp [h1,h2,h3,h4,h5,h6]<;>omega
 | true =>
  by_cases h2:k=2
  ·subst h2
   by_cases h4:v=⟨#[]⟩
   ·subst h4;simp [ByteArray.size]
   ·simp [h4]
  ·by_cases h1:k=1
   ·subst h1;simp
   ·by_cases h3:k=3
    ·subst h3;simp
    ·by_cases h5:k ≥ 1<;>by_cases h6:k≤3<;>simp [h1,h2,h3,h5,h6]<;>omega
theorem D0e (l:Lq1) (i:Nat):B5l l i=C2R l i:=by
 simp only [B5l,C2R,D0f]
 rw [← C6f,Bool.not_not]
theorem C9e (l:Lq1):B1x l=C2i l:=by
 have e:A4x (B5l l) (l.length - (0:Int).toNat) (0:Int).toNat=A4x (C2R l) (l.length - (0:Int).toNat) (0:Int).toNat:=C3T _ _ (fun j _ _=>D0e l j)
 simp only [B1x,C2i,e]
 rfl
theorem C9D (a0 a1 a2:Int) (a3:List M1) {a4:LIbe} (a5:Int) (hl:a4.length≤1048576) {j:M1} (hj:A89 j):P0 j.1 j.2.1 j.2.2.1 j.2.2.2 a0 a1 a2 a3 a4 a5=true∧B19 j.1 j.2.1 j.2.2.1 j.2.2.2 a0 a1 a2 a3 a4 a5=B83 a0 a1 a2 a4 j:=by
 obtain ⟨o1,o2⟩:=hj
 obtain ⟨s1,s2,s3,s4⟩:=A0q o1 a0
 obtain ⟨c1,c2⟩:=B2Z a0 a1 a2 a3 a5 hl j.1
 have hr:=B5B a4 j.1
 have hin:∀ x y z:Int,K1 x y z=J5 x y z:=fun _ _ _=>rfl
 have hy:=D1e s4 o2 a0 a1 a2 a3 a4 a5 j.1 j.2.1 j.2.2.1
 simp only [P0,B19,A8E,A8F,B5f,A0n,hin,← C9e,s2,s3,c1,c2,o1,hy,B83,D1c,dCh]
 generalize A8x a4 j.1=ch at *
 have hrd:decide (ch ≥ 0)=true→decide (0≤ch∧ch<(a4.length:Int))=true:=fun h=>by
  have:=of_decide_eq_true h
  exact decide_eq_true (by omega)
 generalize hq:decide (0≤ch∧ch<(a4.length:Int))=q at hrd
 generalize decide (ch ≥ 0)=g at hrd
 generalize decide (ch<0)=g2
 generalize (a4.getD ch.toNat (0,false)).2=b
 generalize J5 j.1 (wI (a1*1000)) (wI (wI (wI (a1*1000)+a2) - 1))=r
 generalize B1x j.2.1=p
 generalize (j.2.2.1==1)=t1
 generalize (j.2.2.1==2)=t2
 generalize (j.2.2.1==3)=t3
 rcases C0L (H8 j.2.1 a0) j.2.2.2 with e | e<;>rw [e]
 ·cases r<;>cases p<;>exact ⟨rfl,rfl⟩
 ·cases g with
  | true=>obtain rfl:=hrd rfl;cases r<;>cases p<;>cases t1<;>cases t2<;>cases t3<;>exact ⟨rfl,rfl⟩
  | false=>cases r<;>cases p<;>cases t1<;>cases t2<;>cases t3<;>exact ⟨rfl,rfl⟩
theorem C6r (a0 a1 a2:Int) {a3:List M1} {a4:LIbe} (a5:Int) (h3:a3.length≤1048576) (hj:∀ j∈a3,A89 j) (h4:a4.length≤1048576):A8Y a0 a1 a2 a3 a4 a5=true∧Z4 a0 a1 a2 a3 a4 a5=true∧B07 a0 a1 a2 a3 a4 a5=B3i a0 a1 a2 a3 a4 a5:=by
 have hin:∀ x y z:Int,K1 x y z=J5 x y z:=fun _ _ _=>rfl
 have nb:∀ x y:Int,(x != y)=!(x==y):=fun _ _=>rfl
 -- choices
 have f0:∃ f:Nat→Option (Nat×Bool),A8A 0 a0 a1 a2 a3 a4 a5=A7z f (1,false) a4.length 0∧A0o a4 (a4.length:Int) 0 a0 a1 a2 a3 a4 a5=A7z f (1,false) a4.length 0∧∀ i,f i=none∨f i=some (0,false):=by
  refine ⟨fun i=>cond (!J5 (a4.getD i dCh).1 1000 (wI (wI (wI (a1*1000)+a2) - 1))) (some (0,false)) (cond (A8x a4 (a4.getD i dCh).1 != (i:Int)) (some (0,false)) none),?_,?_,fun i=>?_⟩
  ·refine A0b (fun i=>((i:Int))) a4.length _ _ (by omega) (fun i hi=>?_) ?_
   ·have e1:decide ((i:Int)<(a4.length:Int))=true:=decide_eq_true (by omega)
    have e2:decide (0≤(i:Int)∧(i:Int)<(a4.length:Int))=true:=decide_eq_true (by omega)
    obtain ⟨c1,c2⟩:=C0G a0 a1 a2 a3 a5 h4 (a4.getD i dCh).1
    simp only [dCh] at c1 c2
    simp only [B0O,B3T,e1,e2,cond_true,Int.toNat_natCast,c1,c2,A7f i (by omega),dCh]
    cases J5 (a4.getD i (0,false)).1 1000 (wI (wI (wI (a1*1000)+a2) - 1))<;>cases (A8x a4 (a4.getD i (0,false)).1 != (i:Int))<;>rfl
   ·have e1:decide ((a4.length:Int)<(a4.length:Int))=false:=decide_eq_false (by omega)
    simp only [B0O,e1,cond_false]
  ·refine A0b (fun i=>(a4,(a4.length:Int),(i:Int))) a4.length _ _ (by omega) (fun i hi=>?_) ?_
   ·have e1:decide ((i:Int)<(a4.length:Int))=true:=decide_eq_true (by omega)
    have e2:decide (0≤(i:Int)∧(i:Int)<(a4.length:Int))=true:=decide_eq_true (by omega)
    obtain ⟨c1,c2⟩:=B2Z a0 a1 a2 a3 a5 h4 (a4.getD i dCh).1
    simp only [dCh] at c1 c2
    simp only [A7o,B08,A0n,hin,e1,e2,cond_true,Int.toNat_natCast,c1,c2,A7f i (by omega),dCh]
    cases J5 (a4.getD i (0,false)).1 1000 (wI (wI (wI (a1*1000)+a2) - 1))<;>cases (A8x a4 (a4.getD i (0,false)).1 != (i:Int))<;>rfl
   ·have e1:decide ((a4.length:Int)<(a4.length:Int))=false:=decide_eq_false (by omega)
    simp only [A7o,e1,cond_false]
  ·dsimp only
   generalize J5 (a4.getD i dCh).1 1000 (wI (wI (wI (a1*1000)+a2) - 1))=u
   generalize (A8x a4 (a4.getD i dCh).1 != (i:Int))=u2
   cases u<;>cases u2<;>first | exact .inl rfl | exact .inr rfl
 have f1:∃ f:Nat→Option (Nat×Bool),A8B 0 a0 a1 a2 a3 a4 a5=A7z f (1,false) a3.length 0∧A0p a3 (a3.length:Int) 0 a0 a1 a2 a3 a4 a5=A7z f (1,false) a3.length 0∧∀ i,f i=none∨f i=some (0,false):=by
  have hdj:((0:Int),(([]:Lq1),((0:Int),([]:List Int))))=J0:=rfl
  refine ⟨fun i=>cond (B83 a0 a1 a2 a4 (a3.getD i J0)&&C1s a3 i) none (some (0,false)),?_,?_,fun i=>?_⟩
  ·refine A0b (fun i=>((i:Int))) a3.length _ _ (by omega) (fun i hi=>?_) ?_
   ·have e1:decide ((i:Int)<(a3.length:Int))=true:=decide_eq_true (by omega)
    obtain ⟨c1,c2⟩:=D1s a0 a1 a2 a5 h4 h3 hi (hj _ (M0 hi J0))
    simp only [B0P,e1,cond_true,c1,c2,A7f i (by omega)]
    cases (B83 a0 a1 a2 a4 (a3.getD i J0)&&C1s a3 i)<;>rfl
   ·have e1:decide ((a3.length:Int)<(a3.length:Int))=false:=decide_eq_false (by omega)
    simp only [B0P,e1,cond_false]
  ·refine A0b (fun i=>(a3,(a3.length:Int),(i:Int))) a3.length _ _ (by omega) (fun i hi=>?_) ?_
   ·have e1:decide ((i:Int)<(a3.length:Int))=true:=decide_eq_true (by omega)
    have e2:decide (0≤(i:Int)∧(i:Int)<(a3.length:Int))=true:=decide_eq_true (by omega)
    obtain ⟨c1,c2⟩:=C9D a0 a1 a2 a3 a5 h4 (hj _ (M0 hi J0))
    simp only [A7p,B09,hdj,e1,e2,cond_true,Int.toNat_natCast,c1,c2,A7f i (by omega),C1s]
    generalize B83 a0 a1 a2 a4 (a3.getD i J0)=jb
    cases i with
    | zero=>cases jb<;>rfl
    | succ k =>
     have w:wI (((k+1:Nat):Int) - 1)=((k:Nat):Int):=by rw [A6r (by omega) (by omega)];omega
     have e3:decide (((k+1:Nat):Int) > 0)=true:=decide_eq_true (by omega)
     have e4:decide (0≤((k:Nat):Int)∧((k:Nat):Int)<(a3.length:Int))=true:=decide_eq_true (by omega)
     have e5:decide ((a3.getD (k+1) J0).1≤(a3.getD k J0).1)=decide ((a3.getD k J0).1 ≥ (a3.getD (k+1) J0).1):=rfl
     simp only [w,e3,e4,e5,cond_true,Int.toNat_natCast,Nat.add_sub_cancel]
     cases jb<;>cases decide ((a3.getD k J0).1 ≥ (a3.getD (k+1) J0).1)<;>rfl
   ·have e1:decide ((a3.length:Int)<(a3.length:Int))=false:=decide_eq_false (by omega)
    simp only [A7p,e1,cond_false]
  ·dsimp only
   generalize (B83 a0 a1 a2 a4 (a3.getD i J0)&&C1s a3 i)=u
   cases u<;>first | exact .inl rfl | exact .inr rfl
 have two:∀ (f:Nat→Option (Nat×Bool)) (n:Nat),(∀ i,f i=none∨f i=some (0,false))→A7z f (1,false) n 0=(0,false)∨A7z f (1,false) n 0=(1,false):=by
  intro f n h
  rcases A9d f (1,false) n 0 with ⟨j,a,_,_,h3,_,h5⟩ | ⟨_,h5⟩
  ·rcases h j with h | h
   ·rw [h] at h3;cases h3
   ·rw [h] at h3;exact .inl (by rw [h5];exact (Option.some.inj h3).symm)
  ·exact .inr h5
 obtain ⟨f,s0,i0,r0⟩:=f0
 obtain ⟨g,s1,i1,r1⟩:=f1
 have t0:=two f a4.length r0
 have t1:=two g a3.length r1
 simp only [A8Y,Z4,B3i,B07,hin,s0,i0,s1,i1]
 generalize J5 a0 1 8=b0
 generalize J5 a1 1 900=b1
 generalize J5 a2 0 999=b2
 generalize decide ((a4.length:Int) > 1000)=b3
 generalize J5 a5 0 (a4.length:Int)=b4
 generalize A7z f (1,false) a4.length 0=x0 at t0
 generalize A7z g (1,false) a3.length 0=x1 at t1
 rcases t0 with rfl | rfl<;>rcases t1 with rfl | rfl<;>cases b0<;>cases b1<;>cases b2<;>cases b3<;>cases b4<;>exact ⟨rfl,rfl,trivial⟩
noncomputable def C8B (j:M1):Prop:=j.2.1.length≤1048576∧j.2.2.2.length≤1048576
noncomputable def K3 {α:Type} (mk:Int→α→Int×α):Int→List α→Int×List α
 | k,[]=>(k,[])
 | k,x::r=>((K3 mk (mk k x).1 r).1,(mk k x).2::(K3 mk (mk k x).1 r).2)
noncomputable def C4s (k:Int) (j:M1):Int×M1:=((A88 ((J4 (k+1) j.2.1).1+1) j.2.2.2).1,(k,(J4 (k+1) j.2.1).2,(J4 (k+1) j.2.1).1,(A88 ((J4 (k+1) j.2.1).1+1) j.2.2.2).2))
theorem C2l {α:Type} (mk:Int→α→Int×α):∀ (l:List α) (k:Int),(K3 mk k l).2.length=l.length:=by
 intro l
 induction l with
 | nil=>intro k;rfl
 | cons y l ih=>intro k;simp only [K3,List.length_cons,ih]
theorem B8T {α:Type} (mk:Int→α→Int×α) (wt:α→Nat) (ok:α→Prop) (hw:∀ k x,0≤k→k+(wt x:Int)≤10000000→ok x→(mk k x).1=k+(wt x:Int)) :
  ∀ (l:List α) (k:Int),(∀ x∈l,ok x)→0≤k→k+(Z9 wt l:Int)≤10000000→(K3 mk k l).1=k+(Z9 wt l:Int):=by
 intro l
 induction l with
 | nil=>intro k _ _ _;simp [K3,Z9]
 | cons y l ih =>
  intro k ho h0 h1
  have e:Z9 wt (y::l)=wt y+Z9 wt l:=by simp [Z9]
  rw [e,Int.natCast_add] at h1
  simp only [K3]
  rw [hw k y h0 (by omega) (ho y (by simp)),ih _ (fun x hx=>ho x (by simp [hx])) (by omega) (by omega),e,Int.natCast_add]
  omega
theorem B6x {α:Type} (w:α→Nat) (l:List α) (i:Nat):Z9 w l=Z9 w (l.take i)+Z9 w (l.drop i):=by
 simp only [Z9]
 rw [← List.sum_append,← List.map_append,List.take_append_drop]
theorem A9C {α:Type} {l:List α} {i:Nat} (h:i<l.length) (d:α):l.drop i=l.getD i d::l.drop (i+1):=by
 rw [List.drop_eq_getElem_cons h]
 simp [List.getD_eq_getElem?_getD,h]
theorem C4q {α:Type} (mk:Int→α→Int×α) (x:α):∀ (l:List α) (k:Int),K3 mk k (l++[x])=((mk (K3 mk k l).1 x).1,(K3 mk k l).2++[(mk (K3 mk k l).1 x).2]):=by
 intro l
 induction l with
 | nil=>intro k;rfl
 | cons y l ih=>intro k;simp only [List.cons_append,K3,ih]
theorem C9F {α:Type} (d:α) (mk:Int→α→Int×α) (wt:α→Nat) (ok:α→Prop) {ss:Int→Int→List α→(Int×Int×List α) ⊕ (Nat×Int×List α)} {fl:Nat×Int×List α}
  (hw:∀ k x,0≤k→k+(wt x:Int)≤10000000→ok x→(mk k x).1=k+(wt x:Int))
  (hs:∀ (k:Int) (i:Nat) (h:List α),i<h.length→h.length≤1048576→0≤k→k+(wt (h.getD i d):Int)≤10000000→ok (h.getD i d)→ss k (i:Int) h=.inl ((mk k (h.getD i d)).1,((i+1:Nat):Int),h.set i (mk k (h.getD i d)).2))
  (he:∀ (k:Int) (h:List α),h.length≤1048576→ss k (h.length:Int) h=.inr (0,k,h))
  {l:List α} (hl:l.length≤1048576) (hok:∀ x∈l,ok x) {k:Int} (h0:0≤k) (h1:k+(Z9 wt l:Int)≤10000000) :
  itX (fun v=>ss v.1 v.2.1 v.2.2) fl (k,0,l)=(0,K3 mk k l):=by
 refine A60 (fun v:Int×Int×List α=>∃ i:Nat,i≤l.length∧v=((K3 mk k (l.take i)).1,(i:Int),(K3 mk k (l.take i)).2++l.drop i)) (fun a=>a=(0,K3 mk k l)) (fun v=>l.length - v.2.1.toNat) ?_ ⟨0,Nat.zero_le _,by simp [K3]⟩ (by simp;omega)
 rintro v ⟨i,hi,rfl⟩
 have hlen:((K3 mk k (l.take i)).2++l.drop i).length=l.length:=by rw [List.length_append,C2l,List.length_take,List.length_drop];omega
 have hlm:(K3 mk k (l.take i)).2.length=i:=by rw [C2l,List.length_take];omega
 have hf:(K3 mk k (l.take i)).1=k+(Z9 wt (l.take i):Int):=B8T mk wt ok hw _ k (fun x hx=>hok x (List.mem_of_mem_take hx)) h0 (by have:=B6x wt l i;omega)
 by_cases hlt:i<l.length
 ·have hg : ((K3 mk k (l.take i)).2 ++ l.drop i).getD i d = l.getD i d := by
   rw [A9C hlt d]
   simp [List.getD_eq_getElem?_getD,hlm]
  have hsum:Z9 wt l=Z9 wt (l.take i)+(wt (l.getD i d)+Z9 wt (l.drop (i+1))):=by
   rw [B6x wt l i,A9C hlt d];simp [Z9]
  have:=hs (K3 mk k (l.take i)).1 i ((K3 mk k (l.take i)).2++l.drop i) (by omega) (by omega) (by rw [hf];omega) (by rw [hg,hf];omega) (by rw [hg];exact hok _ (M0 hlt d))
  rw [hg] at this
  refine .inl ⟨_,this,⟨i+1,by omega,?_⟩,by simp only [Int.toNat_natCast];omega⟩
  rw [I8 hlt d,C4q,A9C hlt d]
  have e:=C7r (K3 mk k (l.take i)).2 (l.drop (i+1)) (l.getD i d) (mk (K3 mk k (l.take i)).1 (l.getD i d)).2
  rw [hlm] at e
  rw [e]
  simp only [List.append_assoc,List.cons_append,List.nil_append]
 ·obtain rfl:i=l.length:=by omega
  have:=he (K3 mk k (l.take l.length)).1 ((K3 mk k (l.take l.length)).2++l.drop l.length) (by omega)
  rw [hlen] at this
  refine .inr ⟨_,this,?_⟩
  simp [List.take_length]
theorem C9E {α:Type} (el:Int→α) (c:Int) (hc:0≤c∧c≤100000) (d:α) (f:Nat→Int×List α→Int×List α)
  (hf:∀ i k (h:List α),i<h.length→0≤k→k≤100000*((i:Int)+100)→h.length≤1048576→f i (k,h)=(k+c,h.set i (el k))) :
  ∀ n i k (h:List α),i+n=h.length→0≤k→k≤100000*((i:Int)+100)→h.length≤1048576 →
   (foldN f n i (k,h)).1=k+c*(n:Int)∧(foldN f n i (k,h)).2.length=h.length∧(∀ j,i≤j→j<h.length→(foldN f n i (k,h)).2.getD j d=el (k+c*((j - i:Nat):Int)))∧∀ j,j<i→(foldN f n i (k,h)).2.getD j d=h.getD j d:=by
 intro n
 induction n with
 | zero=>intro i k h hi h0 h1 h2;exact ⟨by simp [foldN],rfl,fun j hj hl=>by omega,fun j _=>rfl⟩
 | succ n ih =>
  intro i k h hi h0 h1 h2
  simp only [foldN]
  rw [hf i k h (by omega) h0 h1 h2]
  obtain ⟨q1,q2,q3,q4⟩:=ih (i+1) (k+c) (h.set i (el k)) (by simp;omega) (by omega) (by omega) (by simpa using h2)
  refine ⟨?_,by rw [q2];simp,fun j hj hl=>?_,fun j hj=>?_⟩
  ·rw [q1,Int.natCast_add,Int.mul_add];simp;omega
  ·by_cases e:j=i
   ·subst e
    rw [q4 j (by omega)]
    have:j<h.length:=hl
    simp [List.getD_eq_getElem?_getD,this]
   ·rw [q3 j (by omega) (by simpa using hl)]
    congr 1
    have:((j - i:Nat):Int)=((j - (i+1):Nat):Int)+1:=by omega
    rw [this,Int.mul_add];omega
  ·rw [q4 j (by omega)]
   have:i ≠ j:=by omega
   simp [List.getD_eq_getElem?_getD,List.getElem?_set_ne this]
theorem A9a (l:Lq1) (k:Int) (h:l.length≤1048576) (h0:0≤k) (h1:k≤10000000):(J4 k l).1=k+3*(l.length:Int)∧(J4 k l).2.length=l.length:=by
 obtain ⟨q1,q2,_⟩:=C9E (fun k=>(k,J8 (k+1),J8 (k+1+1))) 3 (by omega) dOp K9 (fun i k h hi h0 h1 h2=>by
  have w1:wI (k+(1:Int))=k+1:=A6r (by omega) (by omega)
  have w2:wI (k+1+(1:Int))=k+1+1:=A6r (by omega) (by omega)
  have w3:wI (k+1+1+(1:Int))=k+3:=by rw [A6r (by omega) (by omega)];omega
  simp only [K9,w1,w2,w3,List.set_set,B45 hi]) l.length 0 k l (by omega) h0 (by omega) h
 have e1:J4 k l=foldN K9 l.length 0 (k,l):=rfl
 rw [e1];exact ⟨q1,q2⟩
theorem C2S (l:List Int) (k:Int) (h:l.length≤1048576) (h0:0≤k) (h1:k≤10000000):(A88 k l).1=k+(l.length:Int)∧Y0 k l=true:=by
 obtain ⟨q1,q2,_⟩:=C9E (fun k=>k) 1 (by omega) (0:Int) L2 (fun i k h hi h0 h1 h2=>by
  have w1:wI (k+(1:Int))=k+1:=A6r (by omega) (by omega)
  simp only [L2,w1]) l.length 0 k l (by omega) h0 (by omega) h
 have e1:A88 k l=foldN L2 l.length 0 (k,l):=rfl
 rw [e1]
 exact ⟨by rw [q1];omega,by simp only [Y0,okL];simp;omega⟩
theorem C4t (k:Int) (j:M1) (h0:0≤k) (h1:k+(B36 j:Int)≤10000000) (hj:C8B j):(C4s k j).1=k+(B36 j:Int):=by
 obtain ⟨s1,s2⟩:=hj
 simp only [B36] at h1 ⊢
 have m1:=(A9a j.2.1 (k+1) s1 (by omega) (by omega)).1
 have m2:=(C2S j.2.2.2 ((J4 (k+1) j.2.1).1+1) s2 (by omega) (by omega)).1
 simp only [C4s]
 rw [m2,m1]
 omega
theorem C9g {k:Int} {l:Lq1} (h:l.length≤1048576) (h0:0≤k) (h1:k≤10000000):T7 k l=true∧A71 (J4 k l).2 k=true:=by
 have h2:=(A9a l k h h0 h1).2
 exact ⟨by simp only [T7,okL];simp;omega,by simp only [A71,okL,h2];simp;omega⟩
theorem C5g (l:LIbe) (k:Int) (h:l.length≤1048576) (h0:0≤k) (h1:k≤10000000):(A9Y k l).1=k+2*(l.length:Int)∧T6 k l=true:=by
 obtain ⟨q1,q2,_⟩:=C9E (fun k=>(k,Int.tmod (k+1) 3==0)) 2 (by omega) ((0:Int),false) J6 (fun i k h hi h0 h1 h2=>by
  have w1:wI (k+(1:Int))=k+1:=A6r (by omega) (by omega)
  have w2:wI (k+1+(1:Int))=k+2:=by rw [A6r (by omega) (by omega)];omega
  simp only [J6,w1,w2,List.set_set,B45 hi]) l.length 0 k l (by omega) h0 (by omega) h
 have e1:A9Y k l=foldN J6 l.length 0 (k,l):=rfl
 rw [e1]
 exact ⟨q1,by simp only [T6,okL];simp;omega⟩
theorem C6s (a b c d:Int) {jobs:List M1} {log:LIbe} (h3:jobs.length≤1048576) (hj:∀ j∈jobs,C8B j) (h4:log.length≤1048576) (hw:Z9 B36 jobs+2*log.length≤9000000) :
  Z7 a b c d 1 jobs log=true∧0≤(B26 a b c d 1 jobs log).1:=by
 have hdj:((0:Int),(([]:Lq1),((0:Int),([]:List Int))))=J0:=rfl
 have e1:A7U 1 0 jobs=(0,K3 C4s 1 jobs):=by
  refine C9F J0 C4s B36 C8B C4t (fun k i h hi hl h0 h1 ho=>?_) (fun k h hl=>?_) h3 hj (by decide) (by omega)
  ·have c1:decide ((i:Int)<(h.length:Int))=true:=decide_eq_true (by omega)
   have c2:decide (0≤(i:Int)∧(i:Int)<(h.length:Int))=true:=decide_eq_true (by omega)
   obtain ⟨s1,s2⟩:=ho
   simp only [B36] at h1
   have w1:wI (k+(1:Int))=k+1:=A6r (by omega) (by omega)
   have m1:=(A9a (h.getD i J0).2.1 (k+1) s1 (by omega) (by omega)).1
   have w2:wI ((J4 (k+1) (h.getD i J0).2.1).1+(1:Int))=(J4 (k+1) (h.getD i J0).2.1).1+1:=A6r (by omega) (by omega)
   have q1:=(C9g s1 (k:=k+1) (by omega) (by omega)).1
   have q2:=(C2S (h.getD i J0).2.2.2 ((J4 (k+1) (h.getD i J0).2.1).1+1) s2 (by omega) (by omega)).2
   simp only [A97,hdj,c1,c2,cond_true,Int.toNat_natCast,List.length_set,B45 hi,List.set_set,w1,w2,q1,q2,A7f i (by omega)]
   rfl
  ·have c1:decide ((h.length:Int)<(h.length:Int))=false:=decide_eq_false (by omega)
   simp only [A97,c1,cond_false]
 have f1:=B8T C4s B36 C8B C4t jobs 1 hj (by decide) (by omega)
 obtain ⟨t1,t2⟩:=C5g log (K3 C4s 1 jobs).1 h4 (by omega) (by omega)
 have m1:A72 1 jobs=true:=by simp only [A72,e1];rfl
 have m2:B0s 1 jobs=K3 C4s 1 jobs:=by simp only [B0s,e1]
 simp only [Z7,B26,m1,m2,t2,Bool.and_self]
 exact ⟨trivial,by omega⟩
theorem D0V {j:M1} (h:A89 j):C8B j:=⟨A8e h.1,h.2⟩
noncomputable abbrev B06:=Int×Int×Int×Lq1×Bool
structure JobR (n life next:Int) (log:LIbe) (j:M1):Prop where
 lo:life*1000≤j.1
 hi:j.1≤life*1000+next - 1
 ops:B1x j.2.1=true
 yes:C9z (H8 j.2.1 n) j.2.2.2=(1,false)
 fin:D1c log j.2.2.1 (A8x log j.1)=true
structure CR (n life next:Int) (jobs:List M1) (log:LIbe) (sure:Int):Prop where
 n1:1≤n∧n≤8
 l1:1≤life∧life≤900
 x1:0≤next∧next≤999
 lg:log.length≤1000
 s1:0≤sure∧sure≤log.length
 tx:∀ i,i<log.length→1000≤(log.getD i dCh).1∧(log.getD i dCh).1≤life*1000+next - 1∧A8x log (log.getD i dCh).1=(i:Int)
 jb:∀ i,i<jobs.length→JobR n life next log (jobs.getD i J0)
 jo:∀ i,i+1<jobs.length→(jobs.getD i J0).1<(jobs.getD (i+1) J0).1
theorem C9I {f:Nat→Option (Nat×Bool)} {n:Nat} (h:∀ i,f i=none∨f i=some (0,false)):(A7z f (1,false) n 0=(1,false)∧∀ i,i<n→f i=none)∨(A7z f (1,false) n 0=(0,false)∧∃ i,i<n∧f i ≠ none):=by
 rcases A9d f (1,false) n 0 with ⟨j,a,_,h2,h3,_,h5⟩ | ⟨h4,h5⟩
 ·rcases h j with h | h
  ·rw [h] at h3;cases h3
  ·rw [h] at h3;exact .inr ⟨by rw [h5];exact (Option.some.inj h3).symm,j,by omega,by rw [h];simp⟩
 ·exact .inl ⟨h5,fun i hi=>h4 i (Nat.zero_le _) (by omega)⟩
theorem V4 {x a b:Int}:J5 x a b=true↔a≤x∧x≤b:=by
 simp only [J5]
 by_cases h:x ≥ a
 ·rw [decide_eq_true h];simp only [cond_true,decide_eq_true_eq];omega
 ·rw [decide_eq_false h];simp only [cond_false,Bool.false_eq_true,false_iff];omega
theorem B7R {x a b:Int} (h:¬ (a≤x∧x≤b)):J5 x a b=false:=by
 cases hb:J5 x a b with
 | false=>rfl
 | true=>exact absurd (V4.1 hb) h
theorem txw {life next:Int} (l1:1≤life∧life≤900) (x1:0≤next∧next≤999):wI (life*1000)=life*1000∧wI (wI (life*1000)+next)=life*1000+next∧wI (wI (wI (life*1000)+next) - 1)=life*1000+next - 1:=by
 have e1:wI (life*1000)=life*1000:=A6r (by omega) (by omega)
 have e2:wI (life*1000+next)=life*1000+next:=A6r (by omega) (by omega)
 have e3:wI (life*1000+next - 1)=life*1000+next - 1:=A6r (by omega) (by omega)
 rw [e1,e2,e3]
 exact ⟨rfl,rfl,rfl⟩
theorem C8a {n life next:Int} {log:LIbe} {j:M1} (l1:1≤life∧life≤900) (x1:0≤next∧next≤999):B83 n life next log j=true↔JobR n life next log j:=by
 obtain ⟨w1,w2,w3⟩:=txw l1 x1
 simp only [B83,Bool.and_eq_true,V4,beq_iff_eq]
 rw [w3,w1]
 constructor
 ·rintro ⟨⟨h1,h2⟩,h3,h4,h5⟩
  refine ⟨h1,h2,h3,?_,h5⟩
  rcases C0L (H8 j.2.1 n) j.2.2.2 with e | e
  ·rw [e] at h4;cases h4
  ·exact e
 ·rintro ⟨h1,h2,h3,h4,h5⟩
  exact ⟨⟨h1,h2⟩,h3,by rw [h4],h5⟩
theorem C6D {a0 a1 a2:Int} {a3:List M1} {a4:LIbe} {a5:Int} (h3:a3.length≤1048576) (hj:∀ j∈a3,A89 j) (h4:a4.length≤1048576):Z4 a0 a1 a2 a3 a4 a5=true∧(B07 a0 a1 a2 a3 a4 a5=true↔CR a0 a1 a2 a3 a4 a5):=by
  have hin:∀ x y z:Int,K1 x y z=J5 x y z:=fun _ _ _=>rfl
  have hdj:((0:Int),(([]:Lq1),((0:Int),([]:List Int))))=J0:=rfl
  have e0:A0o a4 (a4.length:Int) 0 a0 a1 a2 a3 a4 a5=A7z (fun i=>cond (!J5 (a4.getD i dCh).1 1000 (wI (wI (wI (a1*1000)+a2) - 1))) (some (0,false)) (cond (A8x a4 (a4.getD i dCh).1 != (i:Int)) (some (0,false)) none)) (1,false) a4.length 0:=by
    refine A0b (fun i=>(a4,(a4.length:Int),(i:Int))) a4.length _ _ (by omega) (fun i hi=>?_) ?_
    · have e1:decide ((i:Int)<(a4.length:Int))=true:=decide_eq_true (by omega)
      have e2:decide (0≤(i:Int)∧(i:Int)<(a4.length:Int))=true:=decide_eq_true (by omega)
      obtain ⟨c1,c2⟩:=B2Z a0 a1 a2 a3 a5 h4 (a4.getD i dCh).1
      simp only [dCh] at c1 c2
      simp only [A7o,B08,A0n,hin,e1,e2,cond_true,Int.toNat_natCast,c1,c2,A7f i (by omega),dCh]
      cases J5 (a4.getD i (0,false)).1 1000 (wI (wI (wI (a1*1000)+a2) - 1))<;>cases (A8x a4 (a4.getD i (0,false)).1 != (i:Int))<;>rfl
    · have e1:decide ((a4.length:Int)<(a4.length:Int))=false:=decide_eq_false (by omega)
      simp only [A7o,e1,cond_false]
  have e1:A0p a3 (a3.length:Int) 0 a0 a1 a2 a3 a4 a5=A7z (fun i=>cond (B83 a0 a1 a2 a4 (a3.getD i J0)&&C1s a3 i) none (some (0,false))) (1,false) a3.length 0:=by
    refine A0b (fun i=>(a3,(a3.length:Int),(i:Int))) a3.length _ _ (by omega) (fun i hi=>?_) ?_
    · have e1:decide ((i:Int)<(a3.length:Int))=true:=decide_eq_true (by omega)
      have e2:decide (0≤(i:Int)∧(i:Int)<(a3.length:Int))=true:=decide_eq_true (by omega)
      obtain ⟨c1,c2⟩:=C9D a0 a1 a2 a3 a5 h4 (hj _ (M0 hi J0))
      simp only [A7p,B09,hdj,e1,e2,cond_true,Int.toNat_natCast,c1,c2,A7f i (by omega),C1s]
      generalize B83 a0 a1 a2 a4 (a3.getD i J0)=jb
      cases i with
      | zero=>cases jb<;>rfl
      | succ k =>
        have w:wI (((k+1:Nat):Int) - 1)=((k:Nat):Int):=by rw [A6r (by omega) (by omega)];omega
        have e3:decide (((k+1:Nat):Int) > 0)=true:=decide_eq_true (by omega)
        have e4:decide (0≤((k:Nat):Int)∧((k:Nat):Int)<(a3.length:Int))=true:=decide_eq_true (by omega)
        have e5:decide ((a3.getD (k+1) J0).1≤(a3.getD k J0).1)=decide ((a3.getD k J0).1 ≥ (a3.getD (k+1) J0).1):=rfl
        simp only [w,e3,e4,e5,cond_true,Int.toNat_natCast,Nat.add_sub_cancel]
        cases jb<;>cases decide ((a3.getD k J0).1 ≥ (a3.getD (k+1) J0).1)<;>rfl
    · have e1:decide ((a3.length:Int)<(a3.length:Int))=false:=decide_eq_false (by omega)
      simp only [A7p,e1,cond_false]
  have two0:∀ i,(fun i:Nat=>cond (!J5 (a4.getD i dCh).1 1000 (wI (wI (wI (a1*1000)+a2) - 1))) (some ((0:Nat),false)) (cond (A8x a4 (a4.getD i dCh).1 != (i:Int)) (some (0,false)) none)) i=none∨(fun i:Nat=>cond (!J5 (a4.getD i dCh).1 1000 (wI (wI (wI (a1*1000)+a2) - 1))) (some ((0:Nat),false)) (cond (A8x a4 (a4.getD i dCh).1 != (i:Int)) (some (0,false)) none)) i=some (0,false):=by
    intro i
    dsimp only
    generalize J5 (a4.getD i dCh).1 1000 (wI (wI (wI (a1*1000)+a2) - 1))=u
    generalize (A8x a4 (a4.getD i dCh).1 != (i:Int))=u2
    cases u<;>cases u2<;>first | exact .inl rfl | exact .inr rfl
  have two1:∀ i,(fun i:Nat=>cond (B83 a0 a1 a2 a4 (a3.getD i J0)&&C1s a3 i) none (some ((0:Nat),false))) i=none∨(fun i:Nat=>cond (B83 a0 a1 a2 a4 (a3.getD i J0)&&C1s a3 i) none (some ((0:Nat),false))) i=some (0,false):=by
    intro i
    dsimp only
    generalize (B83 a0 a1 a2 a4 (a3.getD i J0)&&C1s a3 i)=u
    cases u<;>first | exact .inl rfl | exact .inr rfl
  have s0:=C9I (n:=a4.length) two0
  have s1:=C9I (n:=a3.length) two1
  rw [← e0] at s0
  rw [← e1] at s1
  refine ⟨?_,?_⟩
  · simp only [Z4]
    rcases s0 with ⟨q0,_⟩ | ⟨q0,_⟩<;>rcases s1 with ⟨q1,_⟩ | ⟨q1,_⟩<;>rw [q0,q1]<;>cases (K1 a0 1 8)<;>cases (K1 a1 1 900)<;>cases (K1 a2 0 999)<;>cases decide ((a4.length:Int) > 1000)<;>cases (K1 a5 0 (a4.length:Int))<;>rfl
  simp only [B07,hin]
  by_cases b0:1≤a0∧a0≤8
  case neg=>rw [B7R b0];simp only [Bool.not_false,cond_true,Bool.false_eq_true,false_iff];exact fun h=>b0 h.n1
  by_cases b1:1≤a1∧a1≤900
  case neg=>rw [B7R b1,V4.2 b0];simp only [Bool.not_false,Bool.not_true,cond_true,cond_false,Bool.false_eq_true,false_iff];exact fun h=>b1 h.l1
  by_cases b2:0≤a2∧a2≤999
  case neg=>rw [B7R b2,V4.2 b0,V4.2 b1];simp only [Bool.not_false,Bool.not_true,cond_true,cond_false,Bool.false_eq_true,false_iff];exact fun h=>b2 h.x1
  by_cases b3:(a4.length:Int) > 1000
  case pos=>rw [decide_eq_true b3,V4.2 b0,V4.2 b1,V4.2 b2];simp only [Bool.not_true,cond_true,cond_false,Bool.false_eq_true,false_iff];exact fun h=>by have:=h.lg;omega
  by_cases b4:0≤a5∧a5≤(a4.length:Int)
  case neg=>rw [B7R b4,decide_eq_false b3,V4.2 b0,V4.2 b1,V4.2 b2];simp only [Bool.not_false,Bool.not_true,cond_true,cond_false,Bool.false_eq_true,false_iff];exact fun h=>b4 h.s1
  rw [V4.2 b4,decide_eq_false b3,V4.2 b0,V4.2 b1,V4.2 b2]
  simp only [Bool.not_true,cond_false]
  obtain ⟨w1,w2,w3⟩:=txw b1 b2
  have pt:∀ i,i<a4.length→((fun i:Nat=>cond (!J5 (a4.getD i dCh).1 1000 (wI (wI (wI (a1*1000)+a2) - 1))) (some ((0:Nat),false)) (cond (A8x a4 (a4.getD i dCh).1 != (i:Int)) (some (0,false)) none)) i=none↔(i<a4.length→1000≤(a4.getD i dCh).1∧(a4.getD i dCh).1≤a1*1000+a2 - 1∧A8x a4 (a4.getD i dCh).1=(i:Int))):=by
    intro i hi
    dsimp only
    rw [w3]
    by_cases c1:1000≤(a4.getD i dCh).1∧(a4.getD i dCh).1≤a1*1000+a2 - 1
    · rw [V4.2 c1]
      simp only [Bool.not_true,cond_false]
      by_cases c2:A8x a4 (a4.getD i dCh).1=(i:Int)
      · have:(A8x a4 (a4.getD i dCh).1 != (i:Int))=false:=by rw [c2];simp
        rw [this];simp only [cond_false,true_iff];exact fun _=>⟨c1.1,c1.2,c2⟩
      · have:(A8x a4 (a4.getD i dCh).1 != (i:Int))=true:=by simpa using c2
        rw [this];simp only [cond_true,reduceCtorEq,false_iff];exact fun h=>c2 (h hi).2.2
    · rw [B7R c1]
      simp only [Bool.not_false,cond_true,reduceCtorEq,false_iff];exact fun h=>c1 ⟨(h hi).1,(h hi).2.1⟩
  have ordI:∀ i,i<a3.length→(C1s a3 i=true↔(i=0∨(a3.getD (i - 1) J0).1<(a3.getD i J0).1)):=by
    intro i hi
    simp only [C1s]
    by_cases h:(i:Int) > 0
    · rw [decide_eq_true h]
      simp only [cond_true,Bool.not_eq_true', decide_eq_false_iff_not]
      omega
    · rw [decide_eq_false h]
      simp only [cond_false,true_iff]
      omega
  rcases s0 with ⟨q0,r0⟩ | ⟨q0,i,hi,r0⟩
  case inr =>
    rw [q0]
    simp only [beq_self_eq_true,cond_true,Bool.false_eq_true,false_iff]
    exact fun h=>r0 ((pt i hi).2 (fun _=>h.tx i hi))
  rw [q0]
  rcases s1 with ⟨q1,r1⟩ | ⟨q1,i,hi,r1⟩
  · rw [q1]
    refine ⟨fun _=>⟨b0,b1,b2,by omega,b4,fun i hi=>(pt i hi).1 (r0 i hi) hi,fun i hi=>?_,fun i hi=>?_⟩,fun _=>rfl⟩
    · have:=r1 i hi
      try dsimp only at this
      cases hb:B83 a0 a1 a2 a4 (a3.getD i J0) with
      | true=>exact (C8a b1 b2).1 hb
      | false=>rw [hb] at this;cases this
    · have:=r1 (i+1) hi
      try dsimp only at this
      cases hb:C1s a3 (i+1) with
      | true => rcases (ordI (i + 1) hi).1 hb with h | h
                · omega
                · exact h
      | false=>rw [hb,Bool.and_false] at this;cases this
  · rw [q1]
    refine ⟨fun h=>(by cases h),fun h=>?_⟩
    exfalso
    apply r1
    try dsimp only
    rw [(C8a b1 b2).2 (h.jb i hi),(ordI i hi).2 (by
      cases i with
      | zero=>exact .inl rfl
      | succ i=>exact .inr (h.jo i hi))]
    rfl
noncomputable def B10 (life:Int) (log:LIbe) (sure tx:Int):Bool×Bool:=cond (decide (tx<1000)) (false,false) (cond (decide (A8x log tx<0)) (false,decide (tx<wI (life*1000))) (cond (decide (A8x log tx ≥ sure)) (false,false) ((log.getD (A8x log tx).toNat dCh).2,true)))
noncomputable def B0j (n life:Int) (log:LIbe) (sure:Int) (j:M1) (s:Int):List B06 :=
 cond (B10 life log sure j.1).2 [(3,(s,(j.1,([],(B10 life log sure j.1).1))))] (cond (j.2.2.1==1) (cond (!decide (s∈j.2.2.2)) [(1,(s,(j.1,(j.2.1.filter (fun o=>shO n o==s),false))))] []) [])
noncomputable def A8k (n life:Int) (log:LIbe) (sure:Int) (j:M1):List B06:=(H8 j.2.1 n).flatMap (B0j n life log sure j)
noncomputable def B4v (n life:Int) (jobs:List M1) (log:LIbe) (sure:Int):List B06:=jobs.flatMap (A8k n life log sure)
theorem C4c (n life next:Int) (jobs:List M1) {log:LIbe} (sure:Int) (h4:log.length≤1048576) (tx:Int):L3 tx n life next jobs log sure=true∧A0m tx n life next jobs log sure=B10 life log sure tx:=by
 obtain ⟨c1,c2⟩:=B2Z n life next jobs sure h4 tx
 have hr:=B5B log tx
 simp only [L3,A0m,c1,c2,B10,dCh]
 generalize A8x log tx=ch at *
 have hrd:decide (ch<0)=false→decide (0≤ch∧ch<(log.length:Int))=true:=fun h=>by
  have:=of_decide_eq_false h
  exact decide_eq_true (by omega)
 generalize decide (0≤ch∧ch<(log.length:Int))=q at hrd
 generalize decide (ch<0)=g at hrd
 generalize decide (tx<1000)=t
 generalize decide (ch ≥ sure)=s
 cases g with
 | true=>cases t<;>exact ⟨rfl,trivial⟩
 | false=>obtain rfl:=hrd rfl;cases t<;>cases s<;>exact ⟨rfl,trivial⟩
theorem A86 {α β:Type} (l:List α) (f:α→List β) (k:Nat) (h:∀ x∈l,(f x).length≤k):(l.flatMap f).length≤l.length*k:=by
 induction l with
 | nil=>simp
 | cons x l ih =>
  have h1:=h x (by simp)
  have h2:=ih fun y hy=>h y (by simp [hy])
  simp only [List.flatMap_cons,List.length_append,List.length_cons,Nat.succ_mul]
  omega
theorem C51 (n life:Int) (log:LIbe) (sure:Int) (j:M1) (s:Int):(B0j n life log sure j s).length≤1:=by
 simp only [B0j]
 cases (B10 life log sure j.1).2<;>cases (j.2.2.1==1)<;>cases (!decide (s∈j.2.2.2))<;>simp
theorem C2E (n life:Int) (log:LIbe) (sure:Int) (j:M1):(A8k n life log sure j).length≤(H8 j.2.1 n).length:=by
 have:=A86 (H8 j.2.1 n) (B0j n life log sure j) 1 (fun x _=>C51 n life log sure j x)
 simp only [A8k];omega
theorem B6n {l:Lq1} (ho:T5 l=true) (n:Int):(H8 l n).length≤1048576:=(A0q ho n).2.2.2
theorem C52 {jobs:List M1} (hj:∀ j∈jobs,A89 j) (n life:Int) (log:LIbe) (sure:Int) (i:Nat):((jobs.take i).flatMap (A8k n life log sure)).length≤i*1048576:=by
 have:=A86 (jobs.take i) (A8k n life log sure) 1048576 (fun x hx=>Nat.le_trans (C2E n life log sure x) (B6n (hj x (List.mem_of_mem_take hx)).1 n))
 have h2:(jobs.take i).length≤i:=by simp;omega
 exact Nat.le_trans this (Nat.mul_le_mul_right 1048576 h2)
theorem C6E {l:Lq1} (ho:T5 l=true) (k n:Int):B0v l k n=true∧C1k l k n=l.filter (fun o=>shO n o==k):=by
 have hl:=A8e ho
 have key:B5Y k n l (l.length:Int) 0 []=(0,l.filter (fun o=>shO n o==k)):=by
  refine A60 (fun v:B03=>∃ i:Nat,v=(k,n,l,(l.length:Int),(i:Int),(l.take i).filter (fun o=>shO n o==k))∧i≤l.length) (fun a:A80=>a=(0,l.filter (fun o=>shO n o==k))) (fun v=>l.length - v.2.2.2.2.1.toNat) ?_ ⟨0,by simp,Nat.zero_le _⟩ (by simp;omega)
  rintro v ⟨i,rfl,hi⟩
  by_cases hlt:i<l.length
  ·have e1:decide ((i:Int)<(l.length:Int))=true:=decide_eq_true (by omega)
   have e2:decide (0≤(i:Int)∧(i:Int)<(l.length:Int))=true:=decide_eq_true (by omega)
   have hf:((l.take i).filter (fun o=>shO n o==k)).length≤i:=Nat.le_trans (List.length_filter_le _ _) (by rw [List.length_take];omega)
   have hm:∀ x:Int×ByteArray×ByteArray,decide ((((l.take i).filter (fun o=>shO n o==k)).length+[x].length)*40≤MAXB)=true:=fun x=>decide_eq_true (by simp only [List.length_singleton,MAXB];omega)
   have hk:=B5b ho (M0 hlt dOp)
   have hq:=(A92 hk n).1
   have hd:((0:Int),((⟨#[]⟩:ByteArray),(⟨#[]⟩:ByteArray)))=dOp:=rfl
   have hsh:A9M (l.getD i dOp).2.1 n=shO n (l.getD i dOp):=rfl
   simp only [B2c,hd,e1,e2,cond_true,Int.toNat_natCast,hq,hm,C0p,A7f i (by omega),hsh]
   left
   cases hc:(shO n (l.getD i dOp)==k) with
   | true =>
    refine ⟨_,rfl,⟨i+1,?_,by omega⟩,by simp only [Int.toNat_natCast];omega⟩
    rw [I8 hlt dOp,List.filter_append,List.filter_cons,hc]
    rfl
   | false =>
    refine ⟨_,rfl,⟨i+1,?_,by omega⟩,by simp only [Int.toNat_natCast];omega⟩
    rw [I8 hlt dOp,List.filter_append,List.filter_cons,hc]
    simp
  ·obtain rfl:i=l.length:=by omega
   have e1:decide ((l.length:Int)<(l.length:Int))=false:=decide_eq_false (by omega)
   simp only [B2c,e1,cond_false]
   exact .inr ⟨_,rfl,by rw [List.take_length]⟩
 simp only [B0v,C1k,B54,key]
 exact ⟨rfl,trivial⟩
theorem C3l (tx:Int) {ops:Lq1} (ho:T5 ops=true) (s n life next:Int) (jobs:List M1) (log:LIbe) (sure:Int):L8 tx ops s n life next jobs log sure=true∧U4 tx ops s n life next jobs log sure=(1,s,tx,false,n,life,next,jobs,log,sure,1,s,tx,false,ops.filter (fun o=>shO n o==s)):=by
 obtain ⟨a1,a2⟩:=C6E ho s n
 simp only [L8,U4,a1,a2]
 exact ⟨trivial,trivial⟩
theorem A9K {α β:Type} {l:List α} {i:Nat} (hi:i<l.length) (d:α) (f:α→List β):(l.take (i+1)).flatMap f=(l.take i).flatMap f++f (l.getD i d):=by
 rw [I8 hi d,List.flatMap_append];simp
theorem C6G (n life next:Int) (jobs:List M1) {log:LIbe} (sure:Int) (l:List M1) (k i0:Int) {j:M1} (hj:A89 j) (h0:List B06) (hh:h0.length≤1099511627776) :
  A8n (B10 life log sure j.1).1 (B10 life log sure j.1).2 l k i0 (H8 j.2.1 n) (((H8 j.2.1 n).length:Nat):Int) 0 n life next jobs log sure h0 j.1 j.2.1 j.2.2.1 j.2.2.2=(0,l,k,i0,n,life,next,jobs,log,sure,h0++A8k n life log sure j):=by
 have hL:=B6n hj.1 n
 refine A60 (ss:=fun v:M4=>Q3 v.1 v.2.1 v.2.2.1 v.2.2.2.1 v.2.2.2.2.1 v.2.2.2.2.2.1 v.2.2.2.2.2.2.1 v.2.2.2.2.2.2.2.1 v.2.2.2.2.2.2.2.2.1 v.2.2.2.2.2.2.2.2.2.1 v.2.2.2.2.2.2.2.2.2.2.1 v.2.2.2.2.2.2.2.2.2.2.2.1 v.2.2.2.2.2.2.2.2.2.2.2.2.1 v.2.2.2.2.2.2.2.2.2.2.2.2.2.1 v.2.2.2.2.2.2.2.2.2.2.2.2.2.2 j.1 j.2.1 j.2.2.1 j.2.2.2) (fa:=L7)
  (fun v=>∃ i:Nat,v=((B10 life log sure j.1).1,(B10 life log sure j.1).2,l,k,i0,H8 j.2.1 n,(((H8 j.2.1 n).length:Nat):Int),(i:Int),n,life,next,jobs,log,sure,h0++((H8 j.2.1 n).take i).flatMap (B0j n life log sure j))∧i≤(H8 j.2.1 n).length)
  (fun a=>a=(0,l,k,i0,n,life,next,jobs,log,sure,h0++A8k n life log sure j)) (fun v=>(H8 j.2.1 n).length - v.2.2.2.2.2.2.2.1.toNat) ?_ ⟨0,by simp,Nat.zero_le _⟩ (by simp;omega)
 rintro v ⟨i,rfl,hi⟩
 by_cases hlt:i<(H8 j.2.1 n).length
 ·have e1:decide ((i:Int)<(((H8 j.2.1 n).length:Nat):Int))=true:=decide_eq_true (by omega)
  have e2:decide (0≤(i:Int)∧(i:Int)<(((H8 j.2.1 n).length:Nat):Int))=true:=decide_eq_true (by omega)
  obtain ⟨c1,c2⟩:=B9w hj.2 ((H8 j.2.1 n).getD i 0)
  obtain ⟨w1,w2⟩:=C3l j.1 hj.1 ((H8 j.2.1 n).getD i 0) n life next jobs log sure
  have hlen:(((H8 j.2.1 n).take i).flatMap (B0j n life log sure j)).length≤i:=by
   have:=A86 ((H8 j.2.1 n).take i) (B0j n life log sure j) 1 (fun x _=>C51 n life log sure j x)
   have h2:((H8 j.2.1 n).take i).length≤i:=by simp;omega
   omega
  have m:∀ x:B06,decide (((h0++((H8 j.2.1 n).take i).flatMap (B0j n life log sure j)).length+[x].length)*56≤MAXB)=true:=fun x=>decide_eq_true (by simp only [List.length_append,List.length_singleton,MAXB];omega)
  simp only [Q3,e1,e2,c1,c2,w1,w2,m,cond_true,Int.toNat_natCast,A7f i (by omega),List.append_assoc]
  have hstep:=A9K hlt 0 (B0j n life log sure j)
  have fin:∀ (x:List B06),x=B0j n life log sure j ((H8 j.2.1 n).getD i 0)→(∃ v':M4,(Sum.inl ((B10 life log sure j.1).1,(B10 life log sure j.1).2,l,k,i0,H8 j.2.1 n,(((H8 j.2.1 n).length:Nat):Int),((i+1:Nat):Int),n,life,next,jobs,log,sure,h0++(((H8 j.2.1 n).take i).flatMap (B0j n life log sure j)++x)):M4 ⊕ N6)=.inl v'∧(∃ i:Nat,v'=((B10 life log sure j.1).1,(B10 life log sure j.1).2,l,k,i0,H8 j.2.1 n,(((H8 j.2.1 n).length:Nat):Int),(i:Int),n,life,next,jobs,log,sure,h0++((H8 j.2.1 n).take i).flatMap (B0j n life log sure j))∧i≤(H8 j.2.1 n).length)∧(H8 j.2.1 n).length - v'.2.2.2.2.2.2.2.1.toNat<(H8 j.2.1 n).length - i):=fun x hx=>⟨_,rfl,⟨i+1,by rw [hstep,hx],by omega⟩,by simp only [Int.toNat_natCast];omega⟩
  have hx1:B0j n life log sure j ((H8 j.2.1 n).getD i 0)=cond (B10 life log sure j.1).2 [(3,((H8 j.2.1 n).getD i 0,(j.1,([],(B10 life log sure j.1).1))))] (cond (j.2.2.1==1) (cond (!decide ((H8 j.2.1 n).getD i 0∈j.2.2.2)) [(1,((H8 j.2.1 n).getD i 0,(j.1,(j.2.1.filter (fun o=>shO n o==(H8 j.2.1 n).getD i 0),false))))] []) []):=rfl
  cases h7:(B10 life log sure j.1).2 with
  | true =>
   rw [h7] at fin hx1
   simp only [cond_true]
   exact .inl (fin _ hx1.symm)
  | false =>
   rw [h7] at fin hx1
   cases h8:(j.2.2.1==1) with
   | true =>
    rw [h8] at hx1
    cases h9:(!decide ((H8 j.2.1 n).getD i 0∈j.2.2.2)) with
    | true =>
     rw [h9] at hx1
     simp only [cond_true,cond_false]
     exact .inl (fin _ hx1.symm)
    | false =>
     rw [h9] at hx1
     have:=fin [] hx1.symm
     rw [List.append_nil] at this
     simp only [cond_true,cond_false]
     exact .inl this
   | false =>
    rw [h8] at hx1
    have:=fin [] hx1.symm
    rw [List.append_nil] at this
    simp only [cond_true,cond_false]
    exact .inl this
 ·obtain rfl:i=(H8 j.2.1 n).length:=by omega
  have e1:decide ((((H8 j.2.1 n).length:Nat):Int)<(((H8 j.2.1 n).length:Nat):Int))=false:=decide_eq_false (by omega)
  simp only [Q3,e1,cond_false,List.take_length]
  exact .inr ⟨_,rfl,rfl⟩
theorem C6H {n life next:Int} {jobs:List M1} {log:LIbe} {sure:Int} (h3:jobs.length≤1000) (hj:∀ j∈jobs,A89 j) (h4:log.length≤1048576):N9 n life next jobs log sure=true∧A7S n life next jobs log sure=(n,life,next,jobs,log,sure,B4v n life jobs log sure):=by
 have hdj:((0:Int),(([]:Lq1),((0:Int),([]:List Int))))=J0:=rfl
 have key:A7y n life next jobs log sure=(0,n,life,next,jobs,log,sure,B4v n life jobs log sure):=by
  refine A60 (ss:=fun v:T1=>Q2 v.1 v.2.1 v.2.2.1 v.2.2.2.1 v.2.2.2.2.1 v.2.2.2.2.2.1 v.2.2.2.2.2.2.1 v.2.2.2.2.2.2.2.1 v.2.2.2.2.2.2.2.2.1 v.2.2.2.2.2.2.2.2.2) (fa:=M8)
   (fun v=>∃ i:Nat,v=(jobs,(jobs.length:Int),(i:Int),n,life,next,jobs,log,sure,(jobs.take i).flatMap (A8k n life log sure))∧i≤jobs.length)
   (fun a=>a=(0,n,life,next,jobs,log,sure,B4v n life jobs log sure)) (fun v=>jobs.length - v.2.2.1.toNat) ?_ ⟨0,by simp,Nat.zero_le _⟩ (by simp;omega)
  rintro v ⟨i,rfl,hi⟩
  by_cases hlt:i<jobs.length
  ·have e1:decide ((i:Int)<(jobs.length:Int))=true:=decide_eq_true (by omega)
   have e2:decide (0≤(i:Int)∧(i:Int)<(jobs.length:Int))=true:=decide_eq_true (by omega)
   have ok:=hj _ (M0 hlt J0)
   obtain ⟨a1,a2⟩:=C4c n life next jobs sure h4 (jobs.getD i J0).1
   obtain ⟨s1,s2,s3,s4⟩:=A0q ok.1 n
   have hlen:=C52 hj n life log sure i
   have k1:A9S jobs (i:Int) n life next jobs log sure=B10 life log sure (jobs.getD i J0).1:=by simp only [A9S,hdj,Int.toNat_natCast,a2]
   have k2:V6 jobs (jobs.length:Int) (i:Int) n life next jobs log sure ((jobs.take i).flatMap (A8k n life log sure))=(0,jobs,(jobs.length:Int),(i:Int),n,life,next,jobs,log,sure,(jobs.take i).flatMap (A8k n life log sure)++A8k n life log sure (jobs.getD i J0)):=by
    simp only [V6,k1,hdj,Int.toNat_natCast,s3]
    exact C6G n life next jobs sure jobs (jobs.length:Int) (i:Int) ok _ (by omega)
   simp only [Q2,hdj,e1,e2,a1,s2,k2,cond_true,Int.toNat_natCast,A7f i (by omega)]
   exact .inl ⟨_,rfl,⟨i+1,by rw [A9K hlt J0],by omega⟩,by simp only [Int.toNat_natCast];omega⟩
  ·obtain rfl:i=jobs.length:=by omega
   have e1:decide ((jobs.length:Int)<(jobs.length:Int))=false:=decide_eq_false (by omega)
   simp only [Q2,e1,cond_false,List.take_length]
   exact .inr ⟨_,rfl,rfl⟩
 simp only [N9,A7S,key]
 exact ⟨rfl,trivial⟩
theorem CR.jlo {n life next:Int} {jobs:List M1} {log:LIbe} {sure:Int} (D:CR n life next jobs log sure):∀ i:Nat,i<jobs.length→life*1000+(i:Int)≤(jobs.getD i J0).1:=by
 intro i
 induction i with
 | zero=>intro h;have:=(D.jb 0 h).lo;omega
 | succ i ih=>intro h;have:=ih (by omega);have:=D.jo i h;omega
theorem CR.jlen {n life next:Int} {jobs:List M1} {log:LIbe} {sure:Int} (D:CR n life next jobs log sure):(jobs.length:Int)≤next:=by
 cases h:jobs.length with
 | zero=>have:=D.x1;omega
 | succ k =>
  have h1:=D.jlo k (by omega)
  have h2:=(D.jb k (by omega)).hi
  omega
theorem C7M (a0 a1 a2:Int) (a3:List M1) {a4:LIbe} (a5:Int) (h4:a4.length≤1048576) (tx:Int):V8 a0 a1 a2 a3 a4 a5 tx=true∧L3 tx a0 a1 a2 a3 a4 a5=true∧A0m tx a0 a1 a2 a3 a4 a5=B3m a0 a1 a2 a3 a4 a5 tx:=by
 obtain ⟨c1,c2⟩:=B2Z a0 a1 a2 a3 a5 h4 tx
 obtain ⟨d1,d2⟩:=C0G a0 a1 a2 a3 a5 h4 tx
 have hr:=B5B a4 tx
 simp only [V8,B3m,L3,A0m,c1,c2,d1,d2,Bool.true_and]
 generalize A8x a4 tx=ch at *
 have hneg:decide (ch<0)=!decide (ch ≥ 0):=by
  by_cases h:ch<0
  ·rw [decide_eq_true h,decide_eq_false (by omega)];rfl
  ·rw [decide_eq_false h,decide_eq_true (by omega)];rfl
 have hsure:decide (ch ≥ a5)=!decide (ch<a5):=by
  by_cases h:ch<a5
  ·rw [decide_eq_true h,decide_eq_false (by omega)];rfl
  ·rw [decide_eq_false h,decide_eq_true (by omega)];rfl
 have hrd:decide (ch ≥ 0)=true→decide (0≤ch∧ch<(a4.length:Int))=true:=fun h=>by
  have:=of_decide_eq_true h
  exact decide_eq_true (by omega)
 rw [hneg,hsure]
 generalize decide (0≤ch∧ch<(a4.length:Int))=q at hrd
 generalize decide (ch ≥ 0)=g at hrd
 generalize decide (ch<a5)=sr
 generalize (a4.getD ch.toNat (0,false)).2=b
 generalize decide (tx<1000)=t
 cases g with
 | true=>obtain rfl:=hrd rfl;cases t<;>cases b<;>cases sr<;>exact ⟨rfl,rfl,rfl⟩
 | false=>cases t<;>cases b<;>cases sr<;>exact ⟨rfl,rfl,rfl⟩
theorem C9v (n life next:Int) (jobs:List M1) {log:LIbe} (sure:Int) (h4:log.length≤1048576) (tx:Int):V8 n life next jobs log sure tx=true∧B3m n life next jobs log sure tx=B10 life log sure tx:=by
 obtain ⟨a1,_,a3⟩:=C7M n life next jobs sure h4 tx
 exact ⟨a1,a3.symm.trans (C4c n life next jobs sure h4 tx).2⟩
theorem D0C {n life next:Int} {jobs:List M1} {log:LIbe} {sure:Int} (D:CR n life next jobs log sure) {j:M1} (J:JobR n life next log j) (hs:(j.2.2.1==1)=true):B10 life log sure j.1=(false,false):=by
 have hf:=J.fin
 have hlo:=J.lo
 have hl1:=D.l1
 have hs':j.2.2.1=1:=by simpa using hs
 rw [hs'] at hf
 have hneg:decide (A8x log j.1<0)=true:=hf
 have t1:decide (j.1<1000)=false:=decide_eq_false (by omega)
 have hw:wI (life*1000)=life*1000:=A6r (by omega) (by omega)
 have t2:decide (j.1<life*1000)=false:=decide_eq_false (by omega)
 simp only [B10,hneg,t1,hw,t2,cond_true,cond_false]
theorem C1L {l:Lq1} (ho:T5 l=true) (k n:Int):A9b l k n=true∧B2b l k n=l.filter (fun o=>shO n o==k):=by
 have hl:=A8e ho
 have key:A9Q l k n 0 []=(0,l.filter (fun o=>shO n o==k)):=by
  refine A60 (fun v:B05=>∃ i:Nat,v=(l,k,n,(i:Int),(l.take i).filter (fun o=>shO n o==k))∧i≤l.length) (fun a:A82=>a=(0,l.filter (fun o=>shO n o==k))) (fun v=>l.length - v.2.2.2.1.toNat) ?_ ⟨0,by simp,Nat.zero_le _⟩ (by simp;omega)
  rintro v ⟨i,rfl,hi⟩
  by_cases hlt:i<l.length
  ·have e1:decide ((i:Int)<(l.length:Int))=true:=decide_eq_true (by omega)
   have e2:decide (0≤(i:Int)∧(i:Int)<(l.length:Int))=true:=decide_eq_true (by omega)
   have hf:((l.take i).filter (fun o=>shO n o==k)).length≤i:=Nat.le_trans (List.length_filter_le _ _) (by rw [List.length_take];omega)
   have hm:∀ x:Int×ByteArray×ByteArray,decide ((((l.take i).filter (fun o=>shO n o==k)).length+[x].length)*40≤MAXB)=true:=fun x=>decide_eq_true (by simp only [List.length_singleton,MAXB];omega)
   have hk:=B5b ho (M0 hlt dOp)
   obtain ⟨_,hq,he,_⟩:=A92 hk n
   have hd:((0:Int),((⟨#[]⟩:ByteArray),(⟨#[]⟩:ByteArray)))=dOp:=rfl
   have hsh:B3j (l.getD i dOp).2.1 n=shO n (l.getD i dOp):=he.symm
   simp only [B2f,hd,e1,e2,cond_true,Int.toNat_natCast,hq,hm,B51,A7f i (by omega),hsh]
   left
   cases hc:(shO n (l.getD i dOp)==k) with
   | true =>
    refine ⟨_,rfl,⟨i+1,?_,by omega⟩,by simp only [Int.toNat_natCast];omega⟩
    rw [I8 hlt dOp,List.filter_append,List.filter_cons,hc]
    rfl
   | false =>
    refine ⟨_,rfl,⟨i+1,?_,by omega⟩,by simp only [Int.toNat_natCast];omega⟩
    rw [I8 hlt dOp,List.filter_append,List.filter_cons,hc]
    simp
  ·obtain rfl:i=l.length:=by omega
   have e1:decide ((l.length:Int)<(l.length:Int))=false:=decide_eq_false (by omega)
   simp only [B2f,e1,cond_false]
   exact .inr ⟨_,rfl,by rw [List.take_length]⟩
 simp only [A9b,B2b,key]
 exact ⟨rfl,trivial⟩
theorem D0U (a0 a1 a2:Int) (a3:List M1) (a4:LIbe) (a5 b0:Int) {b1:Lq1} (b2:Int) {b3:List Int} (ho:T5 b1=true) (hy:b3.length≤1048576):A74 a0 a1 a2 a3 a4 a5 b0 b1 b2 b3=true:=by
 obtain ⟨s1,_,_,s4⟩:=A0q ho a0
 have key:(A9R (H8 b1 a0) 0 a0 a1 a2 a3 a4 a5 b0 b1 b2 b3 []).1=0:=by
  refine A60 (fun v:A0k=>∃ (i:Nat) (h:D3C),v=(H8 b1 a0,(i:Int),h)∧i≤(H8 b1 a0).length∧h.length≤i) (fun a:V9=>a.1=0) (fun v=>(H8 b1 a0).length - v.2.1.toNat) ?_ ⟨0,[],rfl,Nat.zero_le _,by simp⟩ (by simp;omega)
  rintro v ⟨i,h,rfl,hi,hh⟩
  by_cases hlt:i<(H8 b1 a0).length
  ·have e1:decide ((i:Int)<(((H8 b1 a0).length:Nat):Int))=true:=decide_eq_true (by omega)
   have e2:decide (0≤(i:Int)∧(i:Int)<(((H8 b1 a0).length:Nat):Int))=true:=decide_eq_true (by omega)
   obtain ⟨q1,q2⟩:=B57 hy ((H8 b1 a0).getD i 0)
   obtain ⟨q3,q4⟩:=C1L ho ((H8 b1 a0).getD i 0) a0
   have e3:∀ x:Int×Int×Int×Lq1×Bool,decide ((h.length+[x].length)*56≤MAXB)=true:=fun x=>decide_eq_true (by simp only [List.length_singleton,MAXB];omega)
   simp only [T9,e1,e2,q1,q2,q3,e3,cond_true,Int.toNat_natCast,A7f i (by omega)]
   cases decide ((H8 b1 a0).getD i 0∈b3) with
   | true=>exact .inl ⟨_,rfl,⟨i+1,_,rfl,by omega,by omega⟩,by simp only [Int.toNat_natCast];omega⟩
   | false=>exact .inl ⟨_,rfl,⟨i+1,_,rfl,by omega,by simp;omega⟩,by simp only [Int.toNat_natCast];omega⟩
  ·have e1:decide ((i:Int)<(((H8 b1 a0).length:Nat):Int))=false:=decide_eq_false (by omega)
   simp only [T9,e1,cond_false]
   exact .inr ⟨_,rfl,rfl⟩
 simp only [A74,A9T,s1,key]
 rfl
theorem D0o (a0 a1 a2:Int) (a3:List M1) (a4:LIbe) (a5 b0:Int) {b1:Lq1} (b2:Int) {b3:List Int} (ho:T5 b1=true) (hy:b3.length≤1048576):B5r a0 a1 a2 a3 a4 a5 b0 b1 b2 b3=(H8 b1 a0).flatMap (fun s=>cond (!decide (s∈b3)) [((1:Int),(s,(b0,(b1.filter (fun o=>shO a0 o==s),false))))] []):=by
 have hL:=B6n ho a0
 have key:A9R (H8 b1 a0) 0 a0 a1 a2 a3 a4 a5 b0 b1 b2 b3 []=(0,(H8 b1 a0).flatMap (fun s=>cond (!decide (s∈b3)) [((1:Int),(s,(b0,(b1.filter (fun o=>shO a0 o==s),false))))] [])):=by
  generalize hf:(fun s:Int=>cond (!decide (s∈b3)) [((1:Int),(s,(b0,(b1.filter (fun o=>shO a0 o==s),false))))] [])=f
  have fl:∀ s,(f s).length≤1:=fun s=>by rw [← hf];dsimp only;cases (!decide (s∈b3))<;>simp
  refine A60 (ss:=fun v:A0k=>T9 v.1 v.2.1 a0 a1 a2 a3 a4 a5 b0 b1 b2 b3 v.2.2) (fun v=>∃ i:Nat,v=(H8 b1 a0,(i:Int),((H8 b1 a0).take i).flatMap f)∧i≤(H8 b1 a0).length) (fun a:V9=>a=(0,(H8 b1 a0).flatMap f)) (fun v=>(H8 b1 a0).length - v.2.1.toNat) ?_ ⟨0,by simp,Nat.zero_le _⟩ (by simp;omega)
  rintro v ⟨i,rfl,hi⟩
  by_cases hlt:i<(H8 b1 a0).length
  ·have e1:decide ((i:Int)<(((H8 b1 a0).length:Nat):Int))=true:=decide_eq_true (by omega)
   have e2:decide (0≤(i:Int)∧(i:Int)<(((H8 b1 a0).length:Nat):Int))=true:=decide_eq_true (by omega)
   obtain ⟨q1,q2⟩:=B57 hy ((H8 b1 a0).getD i 0)
   obtain ⟨q3,q4⟩:=C1L ho ((H8 b1 a0).getD i 0) a0
   have hlen:(((H8 b1 a0).take i).flatMap f).length≤i:=by
    have:=A86 ((H8 b1 a0).take i) f 1 (fun x _=>fl x)
    have h2:((H8 b1 a0).take i).length≤i:=by simp;omega
    omega
   have e3:∀ x:B06,decide (((((H8 b1 a0).take i).flatMap f).length+[x].length)*56≤MAXB)=true:=fun x=>decide_eq_true (by simp only [List.length_singleton,MAXB];omega)
   have hstep:=A9K hlt 0 f
   have hfi:f ((H8 b1 a0).getD i 0)=cond (!decide ((H8 b1 a0).getD i 0∈b3)) [((1:Int),((H8 b1 a0).getD i 0,(b0,(b1.filter (fun o=>shO a0 o==(H8 b1 a0).getD i 0),false))))] []:=by rw [← hf]
   simp only [T9,e1,e2,q1,q2,q3,q4,e3,cond_true,Int.toNat_natCast,A7f i (by omega)]
   cases h9:(!decide ((H8 b1 a0).getD i 0∈b3)) with
   | false =>
    rw [h9] at hfi
    exact .inl ⟨_,rfl,⟨i+1,by rw [hstep,hfi];simp,by omega⟩,by simp only [Int.toNat_natCast];omega⟩
   | true =>
    rw [h9] at hfi
    exact .inl ⟨_,rfl,⟨i+1,by rw [hstep,hfi];rfl,by omega⟩,by simp only [Int.toNat_natCast];omega⟩
  ·obtain rfl:i=(H8 b1 a0).length:=by omega
   have e1:decide ((((H8 b1 a0).length:Nat):Int)<(((H8 b1 a0).length:Nat):Int))=false:=decide_eq_false (by omega)
   simp only [T9,e1,cond_false,List.take_length]
   exact .inr ⟨_,rfl,rfl⟩
 simp only [B5r,A9T,key]
theorem D0p (ok yes:Bool) {L:List Int} (hL:L.length≤1048576) (tx:Int) (ops:Lq1) (st:Int) (ys:List Int):B23 yes ok L 0 tx ops st ys []=(0,cond ok (L.flatMap fun s=>[((3:Int),(s,(tx,(([]:Lq1),yes))))]) []):=by
 cases ok with
 | false =>
  refine A60 (ss:=fun v:A0l=>U0 v.1 v.2.1 v.2.2.1 v.2.2.2.1 tx ops st ys v.2.2.2.2) (fun v=>v=(yes,false,L,0,[])) (fun a:W0=>a=(0,cond false (L.flatMap fun s=>[((3:Int),(s,(tx,(([]:Lq1),yes))))]) [])) (fun _=>0) ?_ rfl (by omega)
  rintro v rfl
  right
  simp only [U0]
  cases decide ((0:Int)<(L.length:Int))<;>exact ⟨_,rfl,rfl⟩
 | true =>
  generalize hf:(fun s:Int=>[((3:Int),(s,(tx,(([]:Lq1),yes))))])=f
  have fl:∀ s,(f s).length≤1:=fun s=>by rw [← hf];simp
  refine A60 (ss:=fun v:A0l=>U0 v.1 v.2.1 v.2.2.1 v.2.2.2.1 tx ops st ys v.2.2.2.2) (fun v=>∃ i:Nat,v=(yes,true,L,(i:Int),(L.take i).flatMap f)∧i≤L.length) (fun a:W0=>a=(0,L.flatMap f)) (fun v=>L.length - v.2.2.2.1.toNat) ?_ ⟨0,by simp,Nat.zero_le _⟩ (by simp;omega)
  rintro v ⟨i,rfl,hi⟩
  by_cases hlt:i<L.length
  ·have e1:decide ((i:Int)<(L.length:Int))=true:=decide_eq_true (by omega)
   have e2:decide (0≤(i:Int)∧(i:Int)<(L.length:Int))=true:=decide_eq_true (by omega)
   have hlen:((L.take i).flatMap f).length≤i:=by
    have:=A86 (L.take i) f 1 (fun x _=>fl x)
    have h2:(L.take i).length≤i:=by simp;omega
    omega
   have e3:∀ x:B06,decide ((((L.take i).flatMap f).length+[x].length)*56≤MAXB)=true:=fun x=>decide_eq_true (by simp only [List.length_singleton,MAXB];omega)
   simp only [U0,e1,e2,e3,cond_true,Int.toNat_natCast,A7f i (by omega)]
   refine .inl ⟨_,rfl,⟨i+1,by rw [A9K hlt 0 f,← hf],by omega⟩,by simp only [Int.toNat_natCast];omega⟩
  ·obtain rfl:i=L.length:=by omega
   have e1:decide ((L.length:Int)<(L.length:Int))=false:=decide_eq_false (by omega)
   simp only [U0,e1,cond_false,List.take_length]
   exact .inr ⟨_,rfl,rfl⟩
theorem D0q {n life next:Int} {jobs:List M1} {log:LIbe} {sure:Int} (D:CR n life next jobs log sure) {j:M1} (J:JobR n life next log j) (hj:A89 j):Y1 n life next jobs log sure j.1 j.2.1 j.2.2.1 j.2.2.2=true∧B5s n life next jobs log sure j.1 j.2.1 j.2.2.1 j.2.2.2=A8k n life log sure j:=by
 obtain ⟨a1,a2⟩:=C9v n life next jobs sure (by have:=D.lg;omega:log.length≤1048576) j.1
 cases hs:(j.2.2.1==1) with
 | true =>
  have h0:=D0C D J hs
  simp only [Y1,B5s,a1,hs,cond_true,D0U n life next jobs log sure j.1 j.2.2.1 hj.1 hj.2,Bool.and_self]
  refine ⟨trivial,?_⟩
  rw [D0o n life next jobs log sure j.1 j.2.2.1 hj.1 hj.2]
  simp only [A8k]
  congr 1
  funext s
  simp only [B0j,h0,hs,cond_false,cond_true]
 | false =>
  obtain ⟨s1,_,_,s4⟩:=A0q hj.1 n
  have hk:A9V n life next jobs log sure j.1 j.2.1 j.2.2.1 j.2.2.2=(0,cond (B10 life log sure j.1).2 ((H8 j.2.1 n).flatMap fun s=>[((3:Int),(s,(j.1,(([]:Lq1),(B10 life log sure j.1).1))))]) []):=by
   simp only [A9V,a2]
   exact D0p _ _ s4 j.1 j.2.1 j.2.2.1 j.2.2.2
  simp only [Y1,B5s,a1,hs,cond_false,s1,hk]
  refine ⟨rfl,?_⟩
  cases h2:(B10 life log sure j.1).2 with
  | true =>
   simp only [cond_true,A8k]
   congr 1
   funext s
   simp only [B0j,h2,cond_true]
  | false =>
   simp only [cond_false,A8k]
   have:B0j n life log sure j=fun _=>[]:=by
    funext s
    simp only [B0j,h2,hs,cond_false]
   rw [this]
   simp
theorem C8A {n life next:Int} {jobs:List M1} {log:LIbe} {sure:Int} (D:CR n life next jobs log sure) (hj:∀ j∈jobs,A89 j):W3 n life next jobs log sure=true∧B1e n life next jobs log sure=B4v n life jobs log sure:=by
 have hdj:((0:Int),(([]:Lq1),((0:Int),([]:List Int))))=J0:=rfl
 have hjl:=CR.jlen D
 have hx1:=D.x1
 have key:A9X n life next jobs log sure=(0,B4v n life jobs log sure):=by
  refine A60 (ss:=fun v:A0a=>X5 v.1 n life next jobs log sure v.2) (fun v=>∃ i:Nat,v=((i:Int),(jobs.take i).flatMap (A8k n life log sure))∧i≤jobs.length) (fun a:U2=>a=(0,B4v n life jobs log sure)) (fun v=>jobs.length - v.1.toNat) ?_ ⟨0,by simp,Nat.zero_le _⟩ (by simp;omega)
  rintro v ⟨i,rfl,hi⟩
  by_cases hlt:i<jobs.length
  ·have e1:decide ((i:Int)<(jobs.length:Int))=true:=decide_eq_true (by omega)
   have e2:decide (0≤(i:Int)∧(i:Int)<(jobs.length:Int))=true:=decide_eq_true (by omega)
   have ok:=hj _ (M0 hlt J0)
   obtain ⟨t1,t2⟩:=D0q D (D.jb i hlt) ok
   have k1:A9U (i:Int) n life next jobs log sure=A8k n life log sure (jobs.getD i J0):=by simp only [A9U,hdj,Int.toNat_natCast,t2]
   have hlen:=C52 hj n life log sure i
   have hlen2:=Nat.le_trans (C2E n life log sure (jobs.getD i J0)) (B6n ok.1 n)
   have e3:decide ((((jobs.take i).flatMap (A8k n life log sure)).length+(A8k n life log sure (jobs.getD i J0)).length)*56≤MAXB)=true:=decide_eq_true (by simp only [MAXB];omega)
   simp only [X5,hdj,e1,e2,k1,e3,t1,cond_true,Int.toNat_natCast,A7f i (by omega)]
   exact .inl ⟨_,rfl,⟨i+1,by rw [A9K hlt J0],by omega⟩,by simp only [Int.toNat_natCast];omega⟩
  ·obtain rfl:i=jobs.length:=by omega
   have e1:decide ((jobs.length:Int)<(jobs.length:Int))=false:=decide_eq_false (by omega)
   simp only [X5,e1,cond_false,List.take_length]
   exact .inr ⟨_,rfl,rfl⟩
 simp only [W3,B1e,key]
 exact ⟨rfl,trivial⟩
noncomputable def ltO (a b:Int×ByteArray×ByteArray):Prop:=Op.bytesLess a.2.1.toList b.2.1.toList=true
theorem C3h:∀ a b c:List UInt8,Op.bytesLess a b=true→Op.bytesLess b c=true→Op.bytesLess a c=true:=by
 intro a
 induction a with
 | nil=>intro b c h1 h2;cases c with
  | nil=>cases b<;>simp [Op.bytesLess] at h2
  | cons z c=>rfl
 | cons x a ih =>
  intro b c h1 h2
  cases b with
  | nil=>simp [Op.bytesLess] at h1
  | cons y b=>cases c with
   | nil=>simp [Op.bytesLess] at h2
   | cons z c =>
    simp only [Op.bytesLess,Bool.or_eq_true,Bool.and_eq_true,decide_eq_true_eq,beq_iff_eq] at h1 h2 ⊢
    rcases h1 with h1 | ⟨rfl,h1⟩
    ·rcases h2 with h2 | ⟨rfl,h2⟩
     ·exact .inl (UInt8.lt_trans h1 h2)
     ·exact .inl h1
    ·rcases h2 with h2 | ⟨rfl,h2⟩
     ·exact .inl h2
     ·exact .inr ⟨rfl,ih b c h1 h2⟩
theorem D0c {a b c:Int×ByteArray×ByteArray} (h1:ltO a b) (h2:ltO b c):ltO a c:=C3h _ _ _ h1 h2
theorem C9w (l:Lq1):B1x l=true↔1≤l.length∧l.length≤8∧(∀ o∈l,B9X o.1 o.2.1 o.2.2=true)∧l.Pairwise ltO:=by
 have one:∀ j,j<l.length→(B5l l j=true↔B9X (l.getD j dOp).1 (l.getD j dOp).2.1 (l.getD j dOp).2.2=true∧(j=0∨ltO (l.getD (j - 1) dOp) (l.getD j dOp))):=by
  intro j hj
  simp only [B5l,Bool.and_eq_true,Bool.or_eq_true,decide_eq_true_eq,ltO]
 have all:A4x (B5l l) (l.length - (0:Int).toNat) (0:Int).toNat=true↔(∀ o∈l,B9X o.1 o.2.1 o.2.2=true)∧l.Pairwise ltO:=by
  rw [A6R]
  constructor
  ·intro h
   have h':∀ j,j<l.length→B5l l j=true:=fun j hj=>h j (Nat.zero_le _) (by simpa using hj)
   refine ⟨fun o ho=>?_,?_⟩
   ·obtain ⟨j,hj,e⟩:=List.getElem_of_mem ho
    have:=((one j hj).1 (h' j hj)).1
    have e2:l.getD j dOp=o:=by simp [List.getD_eq_getElem?_getD,hj,e]
    rwa [e2] at this
   ·rw [List.pairwise_iff_getElem]
    intro i j hi hj hij
    have step:∀ k:Nat,∀ i:Nat,i<k→k<l.length→ltO (l.getD i dOp) (l.getD k dOp):=by
     intro k
     induction k with
     | zero=>intro i h;omega
     | succ k ih =>
      intro i hik hk
      have h1:ltO (l.getD k dOp) (l.getD (k+1) dOp):=by
       rcases ((one (k+1) hk).1 (h' (k+1) hk)).2 with h | h
       ·omega
       ·exact h
      by_cases e:i=k
      ·rw [e];exact h1
      ·exact D0c (ih i (by omega) (by omega)) h1
    have:=step j i hij hj
    simpa [List.getD_eq_getElem?_getD,hi,hj] using this
  ·rintro ⟨h1,h2⟩ j _ hj
   have hj':j<l.length:=by simpa using hj
   refine (one j hj').2 ⟨h1 _ (M0 hj' dOp),?_⟩
   cases j with
   | zero=>exact .inl rfl
   | succ j =>
    right
    have:=List.pairwise_iff_getElem.1 h2 j (j+1) (by omega) hj' (by omega)
    simpa [List.getD_eq_getElem?_getD,hj', show j<l.length by omega] using this
 simp only [B1x]
 cases ha:A4x (B5l l) (l.length - (0:Int).toNat) (0:Int).toNat with
 | true =>
  simp only [cond_true]
  rw [V4]
  have:=all.1 ha
  constructor
  ·intro h;exact ⟨by omega,by omega,this.1,this.2⟩
  ·intro h;omega
 | false =>
  simp only [cond_false,Bool.false_eq_true,false_iff]
  rintro ⟨_,_,h3,h4⟩
  rw [all.2 ⟨h3,h4⟩] at ha;cases ha
theorem D1f:∀ (l:List Int) (a b:Int),l.Pairwise (·<·)→(∀ z∈l,a≤z∧z<b)→a≤b→(l.length:Int)≤b - a:=by
 intro l
 induction l with
 | nil=>intro a b _ _ h;simp;omega
 | cons x l ih =>
  intro a b hp h hab
  have hx:=h x (by simp)
  have:=ih (x+1) b (List.pairwise_cons.1 hp).2 (fun z hz=>by have:=(List.pairwise_cons.1 hp).1 z hz;have:=(h z (by simp [hz])).2;omega) (by omega)
  simp only [List.length_cons]
  omega
theorem D0t {n life next:Int} {jobs:List M1} {log:LIbe} {sure:Int} (D:CR n life next jobs log sure) (hj:∀ j∈jobs,A89 j):(B4v n life jobs log sure).length≤8000∧∀ w∈B4v n life jobs log sure,w.2.2.2.1.length≤8:=by
 have hops:∀ j∈jobs,j.2.1.length≤8:=fun j hjm=>by
  obtain ⟨i,hi,hij⟩:=List.getElem_of_mem hjm
  have J:=D.jb i hi
  have hg:jobs.getD i J0=j:=by simp [List.getD_eq_getElem?_getD,hi,hij]
  rw [hg] at J
  exact ((C9w _).1 J.ops).2.1
 have h8:∀ j∈jobs,(A8k n life log sure j).length≤8:=fun j hjm=>by
  have h1:=C2E n life log sure j
  obtain ⟨_,s2,s3⟩:=B8r (hj j hjm).1 n
  have hn:=D.n1
  have:=D1f _ 0 n s2 (fun z hz=>by
   obtain ⟨o,ho,hos⟩:=List.mem_map.1 ((s3 z).1 hz)
   have hr:=(A92 (B5b (hj j hjm).1 ho) n).2.2.2
   rw [← hos];exact ⟨hr.1,hr.2 (by omega)⟩) (by omega)
  omega
 refine ⟨?_,fun w hw=>?_⟩
 ·have:=A86 jobs (A8k n life log sure) 8 h8
  have h2:=D.jlen
  have h3:=D.x1
  simp only [B4v]
  omega
 ·simp only [B4v,List.mem_flatMap] at hw
  obtain ⟨j,hjm,hw⟩:=hw
  simp only [A8k,List.mem_flatMap] at hw
  obtain ⟨s,_,hw⟩:=hw
  have h9:=hops j hjm
  simp only [B0j] at hw
  cases h2:(B10 life log sure j.1).2 with
  | true =>
   rw [h2] at hw
   simp only [cond_true,List.mem_singleton] at hw
   subst hw;simp
  | false =>
   rw [h2] at hw
   cases h3:(j.2.2.1==1) with
   | false=>rw [h3] at hw;simp at hw
   | true =>
    rw [h3] at hw
    cases h4:(!decide (s∈j.2.2.2)) with
    | false=>rw [h4] at hw;simp at hw
    | true =>
     rw [h4] at hw
     simp only [cond_true,cond_false,List.mem_singleton] at hw
     subst hw
     exact Nat.le_trans (List.length_filter_le _ _) h9
noncomputable def C0I (x:B06):Prop:=x.2.2.2.1.length≤1048576
noncomputable def B7F:B06:=(0,0,0,[],false)
theorem C6u {l:List B06} (hl:l.length≤1048576) (h:∀ j∈l,C0I j):A8W l l=true∧B48 l l=true:=by
 have hdj:((0:Int),((0:Int),((0:Int),(([]:Lq1),false))))=B7F:=rfl
 have key:∃ z,A8z l l 0=(1,z):=by
  refine A60 (fun v:A9v=>∃ i:Nat,v=(l,l,(i:Int))∧i≤l.length) (fun a:A76=>∃ z,a=(1,z)) (fun v=>l.length - v.2.2.toNat) ?_ ⟨0,rfl,Nat.zero_le _⟩ (by simp;omega)
  rintro v ⟨i,rfl,hi⟩
  by_cases hlt:i<l.length
  ·have e1:decide ((i:Int)<(l.length:Int))=true:=decide_eq_true (by omega)
   have e2:decide (0≤(i:Int)∧(i:Int)<(l.length:Int))=true:=decide_eq_true (by omega)
   have hs:(l.getD i B7F).2.2.2.1.length≤1048576:=h _ (M0 hlt B7F)
   have q1:∀ a b c d e f g,B2l a b c (l.getD i B7F).2.2.2.1 d e f g (l.getD i B7F).2.2.2.1 d=true:=fun a b c d e f g=>decide_eq_true hs
   have e0:∀ x:Int,(x != x)=false:=fun x=>by simp
   simp only [B0N,hdj,e1,e2,cond_true,Int.toNat_natCast,q1,C3K,e0,C3Z,beq_self_eq_true,cond_false,Bool.not_true,A7f i (by omega)]
   exact .inl ⟨_,rfl,⟨i+1,rfl,by omega⟩,by simp only [Int.toNat_natCast];omega⟩
  ·obtain rfl:i=l.length:=by omega
   have e1:decide ((l.length:Int)<(l.length:Int))=false:=decide_eq_false (by omega)
   simp only [B0N,e1,cond_false]
   exact .inr ⟨_,rfl,⟨_,rfl⟩⟩
 obtain ⟨z,key⟩:=key
 have e0:((l.length:Int) != (l.length:Int))=false:=by simp
 simp only [A8W,B48,key,e0,cond_false]
 exact ⟨rfl,rfl⟩
theorem D1u {α:Type} {w:α→Nat} {c:Nat}:∀ (l:List α),(∀ x∈l,w x≤c)→Z9 w l≤c*l.length:=by
 intro l
 induction l with
 | nil=>intro _;simp [Z9]
 | cons x l ih =>
  intro h
  have h1:=h x (by simp)
  have h2:=ih fun y hy=>h y (by simp [hy])
  have e:Z9 w (x::l)=w x+Z9 w l:=by simp [Z9]
  rw [e,List.length_cons,Nat.mul_succ]
  omega
noncomputable def B1D (x:B06):Nat:=4+3*x.2.2.2.1.length
noncomputable def A8U (k:Int) (x:B06):Int×B06:=((J4 (k+3) x.2.2.2.1).1+1,(k,k+1,k+2,(J4 (k+3) x.2.2.2.1).2,Int.tmod (J4 (k+3) x.2.2.2.1).1 3==0))
theorem C0q (k:Int) (x:B06) (h0:0≤k) (h1:k+(B1D x:Int)≤10000000) (hj:C0I x):(A8U k x).1=k+(B1D x:Int):=by
 simp only [B1D] at h1 ⊢
 have m1:=(A9a x.2.2.2.1 (k+3) hj (by omega) (by omega)).1
 simp only [A8U]
 rw [m1]
 omega
theorem C9d {α:Type} (mk:Int→α→Int×α) (d:α):∀ (l:List α) (k:Int) (i:Nat),i<l.length→(K3 mk k l).2.getD i d=(mk (K3 mk k (l.take i)).1 (l.getD i d)).2:=by
 intro l
 induction l with
 | nil=>intro k i h;simp at h
 | cons y l ih =>
  intro k i h
  cases i with
  | zero=>simp [K3]
  | succ i =>
   simp only [K3,List.getD_cons_succ,List.take_succ_cons]
   exact ih _ i (by simpa using h)
theorem D1d {α:Type} (d:α) (mk:Int→α→Int×α) (wt:α→Nat) (ok:α→Prop) {ss:List α→Int→Int→(List α×Int×Int) ⊕ (Nat×Int×Int)} {fl:Nat×Int×Int} {z:Int}
  (hw:∀ k x,0≤k→k+(wt x:Int)≤10000000→ok x→(mk k x).1=k+(wt x:Int))
  (hs:∀ (k:Int) (i:Nat) (h:List α) (x:α),i<h.length→h.length≤1048576→0≤k→k+(wt x:Int)≤10000000→ok x→h.getD i d=(mk k x).2→ss h k (i:Int)=.inl (h,(mk k x).1,((i+1:Nat):Int)))
  (he:∀ (k:Int) (h:List α),h.length≤1048576→ss h k (h.length:Int)=.inr (1,z,k))
  {l:List α} (hl:l.length≤1048576) (hok:∀ x∈l,ok x) {k:Int} (h0:0≤k) (h1:k+(Z9 wt l:Int)≤10000000) :
  itX (fun v=>ss v.1 v.2.1 v.2.2) fl ((K3 mk k l).2,k,0)=(1,z,(K3 mk k l).1):=by
 have hl2:=C2l mk l k
 refine A60 (fun v:List α×Int×Int=>∃ i:Nat,i≤l.length∧v=((K3 mk k l).2,(K3 mk k (l.take i)).1,(i:Int))) (fun a=>a=(1,z,(K3 mk k l).1)) (fun v=>l.length - v.2.2.toNat) ?_ ⟨0,Nat.zero_le _,by simp [K3]⟩ (by simp;omega)
 rintro v ⟨i,hi,rfl⟩
 have hf:(K3 mk k (l.take i)).1=k+(Z9 wt (l.take i):Int):=B8T mk wt ok hw _ k (fun x hx=>hok x (List.mem_of_mem_take hx)) h0 (by have:=B6x wt l i;omega)
 by_cases hlt:i<l.length
 ·have hsum : Z9 wt l = Z9 wt (l.take i) + (wt (l.getD i d) + Z9 wt (l.drop (i + 1))) := by
   rw [B6x wt l i,A9C hlt d];simp [Z9]
  have:=hs (K3 mk k (l.take i)).1 i (K3 mk k l).2 (l.getD i d) (by omega) (by omega) (by rw [hf];omega) (by rw [hf];omega) (hok _ (M0 hlt d)) (C9d mk d l k i hlt)
  refine .inl ⟨_,this,⟨i+1,by omega,?_⟩,by simp only [Int.toNat_natCast];omega⟩
  rw [I8 hlt d,C4q]
 ·obtain rfl:i=l.length:=by omega
  have:=he (K3 mk k (l.take l.length)).1 (K3 mk k l).2 (by omega)
  rw [hl2] at this
  refine .inr ⟨_,this,?_⟩
  rw [List.take_length]
theorem D27 {α:Type} (el:Int→α) (c:Int) (hc:0≤c∧c≤100000) (d:α) (x:List α) (hx:x.length≤1048576) (g:Nat→Int→Int ⊕ Unit)
  (hg:∀ i k,i<x.length→0≤k→k≤100000*((i:Int)+100)→x.getD i d=el k→g i k=.inl (k+c)) :
  ∀ n i k,i+n=x.length→0≤k→k≤100000*((i:Int)+100)→(∀ j,i≤j→j<x.length→x.getD j d=el (k+c*((j - i:Nat):Int)))→loopN g n i k=.inl (k+c*(n:Int)):=by
 intro n
 induction n with
 | zero=>intro i k hi h0 h1 he;simp [loopN]
 | succ n ih =>
  intro i k hi h0 h1 he
  have h2:=he i (Nat.le_refl _) (by omega)
  rw [Nat.sub_self] at h2
  simp only [loopN]
  rw [hg i k (by omega) h0 h1 (by simpa using h2)]
  simp only
  rw [ih (i+1) (k+c) (by omega) (by omega) (by omega) (fun j hj hl=>by
   rw [he j (by omega) hl]
   congr 1
   have:((j - i:Nat):Int)=((j - (i+1):Nat):Int)+1:=by omega
   rw [this,Int.mul_add];omega)]
  rw [Int.natCast_add,Int.mul_add];congr 1;simp;omega
theorem heldmark {α:Type} (el:Int→α) (c:Int) (hc:0≤c∧c≤100000) (d:α) (f:Nat→Int×List α→Int×List α) (g:List α→Nat→Int→Int ⊕ Unit)
  (hf:∀ i k (h:List α),i<h.length→0≤k→k≤100000*((i:Int)+100)→h.length≤1048576→f i (k,h)=(k+c,h.set i (el k)))
  (hg:∀ (x:List α) i k,x.length≤1048576→i<x.length→0≤k→k≤100000*((i:Int)+100)→x.getD i d=el k→g x i k=.inl (k+c)) (h:List α) (hh:h.length≤1048576) (k:Int) (h0:0≤k) (h1:k≤10000000) :
  (foldN f h.length 0 (k,h)).1=k+c*(h.length:Int)∧(foldN f h.length 0 (k,h)).2.length=h.length∧loopN (g (foldN f h.length 0 (k,h)).2) (foldN f h.length 0 (k,h)).2.length 0 k=.inl (k+c*(h.length:Int)):=by
 obtain ⟨q1,q2,q3,_⟩:=C9E el c hc d f hf h.length 0 k h (by omega) h0 (by omega) hh
 refine ⟨q1,q2,?_⟩
 have:=D27 el c hc d (foldN f h.length 0 (k,h)).2 (by rw [q2];exact hh) (g (foldN f h.length 0 (k,h)).2) (fun i k hi=>hg _ i k (by rw [q2];exact hh) hi) (foldN f h.length 0 (k,h)).2.length 0 k (by omega) h0 (by omega) (fun j hj hl=>q3 j hj (by rw [q2] at hl;exact hl))
 rw [this,q2]
theorem C9f (l:Lq1) (k:Int) (h:l.length≤1048576) (h0:0≤k) (h1:k≤10000000):B49 (J4 k l).2 k=(J4 k l).1:=by
 obtain ⟨q1,q2,q3⟩:=heldmark (fun k=>(k,J8 (k+1),J8 (k+1+1))) 3 (by omega) dOp K9 L1 (fun i k h hi h0 h1 h2=>by
  have w1:wI (k+(1:Int))=k+1:=A6r (by omega) (by omega)
  have w2:wI (k+1+(1:Int))=k+1+1:=A6r (by omega) (by omega)
  have w3:wI (k+1+1+(1:Int))=k+3:=by rw [A6r (by omega) (by omega)];omega
  simp only [K9,w1,w2,w3,List.set_set,B45 hi]) (fun x i k hx hi h0 h1 he=>by
  have w1:wI (k+(1:Int))=k+1:=A6r (by omega) (by omega)
  have w2:wI (k+1+(1:Int))=k+1+1:=A6r (by omega) (by omega)
  have w3:wI (k+1+1+(1:Int))=k+3:=by rw [A6r (by omega) (by omega)];omega
  simp only [dOp] at he
  have e:(k != k)=false:=by simp
  simp only [L1,he,e,cond_false,w1,w2,w3,beq_self_eq_true,Bool.not_true]) l h k h0 h1
 have e1:J4 k l=foldN K9 l.length 0 (k,l):=rfl
 have e2:∀ x,B49 x k=cond (A7d (loopN (L1 x) x.length 0 k)) (A65 (-1) (loopN (L1 x) x.length 0 k)) (-1:Int):=fun x=>rfl
 rw [e1,e2,q3,q1];rfl
theorem C4r {l:List B06} (hl:l.length≤1048576) (ho:∀ j∈l,C0I j) {k:Int} (h0:0≤k) (h1:k+(Z9 B1D l:Int)≤10000000) :
  Z8 k l=true∧B0t k l=K3 A8U k l∧(K3 A8U k l).1=k+(Z9 B1D l:Int)∧Z6 (K3 A8U k l).2 k=true∧B0r (K3 A8U k l).2 k=(K3 A8U k l).1:=by
 have hdj:((0:Int),((0:Int),((0:Int),(([]:Lq1),false))))=B7F:=rfl
 have e1:A0d k 0 l=(0,K3 A8U k l):=by
  refine C9F B7F A8U B1D C0I C0q (fun k i h hi hl h0 h1 ho=>?_) (fun k h hl=>?_) hl ho h0 h1
  ·have c1:decide ((i:Int)<(h.length:Int))=true:=decide_eq_true (by omega)
   have c2:decide (0≤(i:Int)∧(i:Int)<(h.length:Int))=true:=decide_eq_true (by omega)
   simp only [B1D] at h1
   have w1:wI (k+(1:Int))=k+1:=A6r (by omega) (by omega)
   have w2:wI (k+1+(1:Int))=k+2:=by rw [A6r (by omega) (by omega)];omega
   have w3:wI (k+2+(1:Int))=k+3:=by rw [A6r (by omega) (by omega)];omega
   have m1:=(A9a (h.getD i B7F).2.2.2.1 (k+3) ho (by omega) (by omega)).1
   have w4:wI ((J4 (k+3) (h.getD i B7F).2.2.2.1).1+(1:Int))=(J4 (k+3) (h.getD i B7F).2.2.2.1).1+1:=A6r (by omega) (by omega)
   have q1:=(C9g ho (k:=k+3) (by omega) (by omega)).1
   simp only [A8I,hdj,c1,c2,cond_true,Int.toNat_natCast,List.length_set,B45 hi,List.set_set,w1,w2,w3,w4,q1,A7f i (by omega)]
   rfl
  ·have c1:decide ((h.length:Int)<(h.length:Int))=false:=decide_eq_false (by omega)
   simp only [A8I,c1,cond_false]
 have e2:A0c (K3 A8U k l).2 k 0=(1,0,(K3 A8U k l).1):=by
  refine D1d B7F A8U B1D C0I C0q (fun k i h x hi hl h0 h1 ho hg=>?_) (fun k h hl=>?_) hl ho h0 h1
  ·have c1:decide ((i:Int)<(h.length:Int))=true:=decide_eq_true (by omega)
   have c2:decide (0≤(i:Int)∧(i:Int)<(h.length:Int))=true:=decide_eq_true (by omega)
   simp only [B1D] at h1
   have w1:wI (k+(1:Int))=k+1:=A6r (by omega) (by omega)
   have w2:wI (k+1+(1:Int))=k+2:=by rw [A6r (by omega) (by omega)];omega
   have w3:wI (k+2+(1:Int))=k+3:=by rw [A6r (by omega) (by omega)];omega
   have m1:=(A9a x.2.2.2.1 (k+3) ho (by omega) (by omega)).1
   have w4:wI ((J4 (k+3) x.2.2.2.1).1+(1:Int))=(J4 (k+3) x.2.2.2.1).1+1:=A6r (by omega) (by omega)
   have q1:=(C9g ho (k:=k+3) (by omega) (by omega)).2
   have q3:=C9f x.2.2.2.1 (k+3) ho (by omega) (by omega)
   have n2:∀ y:Int,(y != y)=false:=fun y=>by simp
   have d1:decide ((J4 (k+3) x.2.2.2.1).1<0)=false:=decide_eq_false (by omega)
   simp only [A8U] at hg
   simp only [A8H,hdj,c1,c2,cond_true,Int.toNat_natCast,hg,n2,cond_false,w1,w2,w3,w4,q1,q3,d1,beq_self_eq_true,Bool.not_true,A7f i (by omega)]
   rfl
  ·have c1:decide ((h.length:Int)<(h.length:Int))=false:=decide_eq_false (by omega)
   simp only [A8H,c1,cond_false]
 refine ⟨by simp only [Z8,e1];rfl,by simp only [B0t,e1],B8T A8U B1D C0I C0q l k ho h0 h1,by simp only [Z6,e2];rfl,by simp only [B0r,e2];rfl⟩
theorem C8T {l:List M1} (h:A2V tq2 l=true):B5A l:=by
 have h:(decide (l.length≤maxLen)&&l.all fun j=>(Lit.int .i64 j.1).wf&&(A2V tq4 j.2.1&&((Lit.int .i64 j.2.2.1).wf&&(decide (j.2.2.2.length≤maxLen)&&j.2.2.2.all fun x=>(Lit.int .i64 x).wf))))=true:=h
 have hm:maxLen=9223372036854775807:=by decide
 rw [hm] at h
 simp only [Bool.and_eq_true,decide_eq_true_eq,List.all_eq_true] at h
 exact ⟨h.1,fun j hj=>⟨C9W (h.2 j hj).2.1,(h.2 j hj).2.2.2.1⟩⟩
theorem C9V {l:LIbe} (h:A2V tq5 l=true):l.length≤9223372036854775807:=by
 have h:(decide (l.length≤maxLen)&&l.all fun j=>(Lit.int .i64 j.1).wf&&true)=true:=h
 have hm:maxLen=9223372036854775807:=by decide
 rw [hm] at h
 simp only [Bool.and_eq_true,decide_eq_true_eq] at h
 exact h.1
theorem C2H {a0 a1 a2:Int} {a3:List M1} {a4:LIbe} {a5:Int} (h:A2V tq9 (a0,(a1,(a2,(a3,(a4,a5)))))=true):B5A a3∧a4.length≤9223372036854775807:=by
 have h:((Lit.int .i64 a0).wf&&((Lit.int .i64 a1).wf&&((Lit.int .i64 a2).wf&&(A2V tq2 a3&&(A2V tq5 a4&&(Lit.int .i64 a5).wf)))))=true:=h
 simp only [Bool.and_eq_true] at h
 exact ⟨C8T h.2.2.2.1,C9V h.2.2.2.2.1⟩
theorem C3f (a0 a1 a2:Int) {a3:List M1} {a4:LIbe} (a5:Int) (hb:B5A a3∧a4.length≤9223372036854775807):P4 a0 a1 a2 a3 a4 a5=true∧U5 a0 a1 a2 a3 a4 a5=true:=by
 obtain ⟨z1,z2⟩:=C7t hb.1 hb.2 a0 a1 a2 a5
 by_cases hd:A9Z a0 a1 a2 a3 a4 a5 1048576<0
 ·simp only [P4,U5,z1,decide_eq_true hd,cond_true]
  exact ⟨rfl,trivial⟩
 ·obtain ⟨y1,y2,y3⟩:=z2 (by omega)
  have hw:=D0s hb.1 hb.2 a0 a1 a2 a5 (by omega)
  obtain ⟨e1,e2,e3,e4⟩:=C75 y1 y2 y3 a0 a1 a2 a5
  obtain ⟨c1,c2,c3⟩:=C6r a0 a1 a2 a5 y1 y2 y3
  obtain ⟨m1,m2⟩:=C6s a0 a1 a2 a5 y1 (fun j h=>D0V (y2 j h)) y3 (by omega)
  have hs:A73 a0 a1 a2 a3 a4 a5=true∧A70 a0 a1 a2 a3 a4 a5=true∧∃ ws:List B06,B8s a0 a1 a2 a3 a4 a5=ws∧B7Q a0 a1 a2 a3 a4 a5=ws∧ws.length≤8000∧∀ w∈ws,w.2.2.2.1.length≤8:=by
   cases hs:B3i a0 a1 a2 a3 a4 a5 with
   | false =>
    have h3:=c3.trans hs
    simp only [A73,A70,B8s,B7Q,c1,c2,hs,h3,Bool.not_false,cond_true,Bool.and_self]
    exact ⟨trivial,trivial,[],rfl,rfl,by simp,fun w hw=>by simp at hw⟩
   | true =>
    have h3:=c3.trans hs
    have D:=(C6D (a0:=a0) (a1:=a1) (a2:=a2) (a5:=a5) y1 y2 y3).2.1 h3
    have j1:=D.jlen
    have j2:=D.x1
    obtain ⟨i1,i2⟩:=C6H (n:=a0) (life:=a1) (next:=a2) (sure:=a5) (jobs:=a3) (log:=a4) (by omega) y2 y3
    obtain ⟨s1,s2⟩:=C8A D y2
    obtain ⟨t1,t2⟩:=D0t D y2
    simp only [A73,A70,B8s,B7Q,c1,c2,hs,h3,i1,i2,s1,s2,Bool.not_true,cond_false,Bool.and_self]
    exact ⟨trivial,trivial,_,rfl,rfl,t1,t2⟩
  obtain ⟨q1,q2,ws,r1,r2,l1,l2⟩:=hs
  have l3:∀ w∈ws,C0I w:=fun w hw=>Nat.le_trans (l2 w hw) (by decide)
  obtain ⟨f1,f2⟩:=C6u (by omega:ws.length≤1048576) l3
  have hsum:=D1u (w:=B1D) (c:=28) ws (fun w hw=>by have:=l2 w hw;simp only [B1D];omega)
  obtain ⟨n1,n2,n3,n4,n5⟩:=C4r (by omega:ws.length≤1048576) l3 (k:=1) (by decide) (by omega)
  have d1:decide ((B26 a0 a1 a2 a5 1 a3 a4).1<0)=false:=decide_eq_false (by omega)
  have d2:decide ((K3 A8U 1 ws).1<0)=false:=decide_eq_false (by omega)
  have nn:∀ x:Int,(x != x)=false:=fun x=>by simp
  simp only [P4,U5,Z0,Z1,Z2,Z3,z1,decide_eq_false hd,e1,e2,e3,e4,q1,q2,r1,r2,f1,f2,m1,n1,n2,n4,n5,d1,d2,nn,cond_false,Bool.not_true,Bool.and_self]
  exact ⟨trivial,trivial⟩
theorem B6i (a0 a1 a2:Int) (a3:List M1) (a4:LIbe) (a5:Int) (h:A2V tq9 (a0,(a1,(a2,(a3,(a4,a5)))))=true):Q1 ((a0,a1,a2,a3,a4,a5,()),())=true:=(C3f a0 a1 a2 a5 (C2H h)).1
theorem B65 (a0 a1 a2:Int) (a3:List M1) (a4:LIbe) (a5:Int) (h:A2V tq9 (a0,(a1,(a2,(a3,(a4,a5)))))=true):U5 a0 a1 a2 a3 a4 a5=true:=(C3f a0 a1 a2 a5 (C2H h)).2

end Go.Proofs.Ytapikgcgahomlaa.Eng
