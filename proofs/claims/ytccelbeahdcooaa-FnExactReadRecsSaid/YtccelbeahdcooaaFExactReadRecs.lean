/- What the functions that FnExactReadRecs reaches compute: further. -/
import Derived.Test.YtccelbeahdcooaaFExactReadRecsB
namespace Go.Proofs.Ytccelbeahdcooaa.Eng
open Go Go.RowKit
set_option linter.unusedSimpArgs false
set_option linter.unusedVariables false
set_option maxRecDepth 10000
abbrev C0v:List Sh:=.junk::B9L
abbrev C2A:List Sh:=.junk::.junk::.junk::C0v
abbrev u38:=((),u37)
abbrev u41:=((),(),(),u38)
abbrev C0n:List AV:=.junk::B84
abbrev C2p:List AV:=.junk::.junk::.junk::C0n

noncomputable def D3 (x0:Lq1) (i:Nat) (k:Int):Int ⊕ Unit:=(cond (((x0.getD i ((0:Int),(bE,bE))).1) != k) (.inr ()) (cond (!((((x0.getD i ((0:Int),(bE,bE))).2).1).toList==(C1 (IntKind.wrap .i64 (k+(1:Int)))).toList)) (.inr ()) (cond (!((((x0.getD i ((0:Int),(bE,bE))).2).2).toList==(C1 (IntKind.wrap .i64 ((IntKind.wrap .i64 (k+(1:Int)))+(1:Int)))).toList)) (.inr ()) (.inl (IntKind.wrap .i64 ((IntKind.wrap .i64 ((IntKind.wrap .i64 (k+(1:Int)))+(1:Int)))+(1:Int)))))))
abbrev A24:List PSh:=[.t tq3,.t (.int .i64)]
abbrev M0:SS:=⟨(.t false tq3::tI::.junk::.junk::.junk::tI::B9L),[]⟩
abbrev H7:SS:=⟨(.junk::.junk::.junk::.junk::tI::C0v),[]⟩
abbrev A2X:SS:=⟨(.junk::tI::C2A),[]⟩
noncomputable def A4w (x0:Lq1) (x1 x5:Int):RT M0.den:=let z2:=x0.getD x5.toNat ((0:Int),(bE,bE));let z3:=decide (0≤x5∧x5<(x0.length:Int));let z4:=IntKind.wrap .i64 (x1+(1:Int));let z1:=IntKind.wrap .i64 (z4+(1:Int));(.br (decide (x5<(x0.length:Int))) (.br z3 (.br ((z2.1) != x1) (.done .ret H7 (((),(),(),(),(-1:Int),u38),())) (.br z3 (.br (B9 z4) (.br (!(((z2.2).1).toList==(C1 z4).toList)) (.done .ret H7 (((),(),(),(),(-1:Int),u38),())) (.br z3 (.br (B9 z1) (.br (!(((z2.2).2).toList==(C1 z1).toList)) (.done .ret H7 (((),(),(),(),(-1:Int),u38),())) (.next ((x0,IntKind.wrap .i64 (z1+(1:Int)),(),(),(),IntKind.wrap .i64 (x5+(1:Int)),u37),()))) .fail) .fail)) .fail) .fail)) .fail) (.done (.exit 0) A2X (((),x1,u41),())))
noncomputable def A0R (x0:Lq1) (x1 x5:Int):CT:=(.br (decide (0≤x5)&&(decide (0≤x1∧x1≤100000*(x5+100))&&okL x0)) (.br (isInl (loopN (D3 x0) (x0.length - x5.toNat) x5.toNat x1)) (.done (.exit 0) A2X (((),(getInl (-1) (loopN (D3 x0) (x0.length - x5.toNat) x5.toNat x1)),u41),())) (.done .ret H7 (((),(),(),(),(-1:Int),u38),()))) .fail)
noncomputable abbrev O5:M0.den→RT M0.den:=(fun d=>A4w d.1.1 d.1.2.1 d.1.2.2.2.2.2.1)
noncomputable abbrev A1Q (x0:Lq1) (x1 x5:Int):M0.den:=((x0,x1,(),(),(),x5,u37),())
noncomputable def A56:Code:=((loopsIn 0 (bodyOf Try.f85)).getD 0 (0,.skip)).2
theorem B4w (x0:Lq1) (x1 x5:Int):(A0R x0 x1 x5).val (D:=M0.den)=.fail∨Runs O5 (A1Q x0 x1 x5) (A0R x0 x1 x5).val:=by
 cases hc:(decide (0≤x5)&&(decide (0≤x1∧x1≤100000*(x5+100))&&okL x0)) with
 | false=>left;simp only [A0R,CT.val,hc,cond_false]
 | true =>
  right
  simp only [A0R,CT.val,hc,cond_true]
  simp only [Bool.and_eq_true,decide_eq_true_eq] at hc
  obtain ⟨i,rfl⟩:=Int.eq_ofNat_of_zero_le hc.1
  have hs:=okL_le hc.2.2
  have hk:=hc.2.1
  simp only [Int.toNat_natCast]
  have h:=Runs.loopN (step:=O5) (fun j b=>A1Q x0 b (j:Int)) (fun i b=>0≤b∧b≤100000*((i:Int)+100)) (x0.length) (D3 x0)
   (fin:=fun b=>((.done (.exit 0) A2X (((),b,u41),())):CT).val) (bad:=fun _=>((.done .ret H7 (((),(),(),(),(-1:Int),u38),())):CT).val)
   (fun i b hi hb=>?_) (fun i b hi hb=>?_) (x0.length - i) i x1 rfl hk
  ·revert h
   cases loopN (D3 x0) (x0.length - i) i x1 with
   | inl b=>exact id
   | inr c=>exact id
  ·revert hb
   generalize b=k
   intro hb
   have w1:IntKind.wrap .i64 (k+(1:Int))=k+(1:Int):=wrap64 (by omega) (by omega)
   have w2:IntKind.wrap .i64 (k+(1:Int)+(1:Int))=k+(1:Int)+(1:Int):=wrap64 (by omega) (by omega)
   have w3:IntKind.wrap .i64 (k+(1:Int)+(1:Int)+(1:Int))=k+(1:Int)+(1:Int)+(1:Int):=wrap64 (by omega) (by omega)
   have e0:(decide (0≤(i:Int)∧(i:Int)<(x0.length:Int)))=true:=decide_eq_true (by omega)
   have e1:(decide (0≤(i:Int)∧(i:Int)<(x0.length:Int)))=true:=decide_eq_true (by omega)
   have e2:(B9 (IntKind.wrap .i64 (k+(1:Int))))=true:=by simp only [B9,w1,w2,w3];exact decide_eq_true (by omega)
   have e3:(decide (0≤(i:Int)∧(i:Int)<(x0.length:Int)))=true:=decide_eq_true (by omega)
   have e4:(B9 (IntKind.wrap .i64 ((IntKind.wrap .i64 (k+(1:Int)))+(1:Int))))=true:=by simp only [B9,w1,w2,w3];exact decide_eq_true (by omega)
   have h1:decide ((i:Int)<(x0.length:Int))=true:=decide_eq_true (by omega)
   have e:(O5 (A1Q x0 k (i:Int))).val=(cond (((x0.getD i ((0:Int),((⟨#[]⟩:ByteArray),(⟨#[]⟩:ByteArray)))).1) != k) ((.done .ret H7 (((),(),(),(),(-1:Int),u38),())):CT).val (cond (!((((x0.getD i ((0:Int),((⟨#[]⟩:ByteArray),(⟨#[]⟩:ByteArray)))).2).1).toList==(C1 (IntKind.wrap .i64 (k+(1:Int)))).toList)) ((.done .ret H7 (((),(),(),(),(-1:Int),u38),())):CT).val (cond (!((((x0.getD i ((0:Int),((⟨#[]⟩:ByteArray),(⟨#[]⟩:ByteArray)))).2).2).toList==(C1 (IntKind.wrap .i64 ((IntKind.wrap .i64 (k+(1:Int)))+(1:Int)))).toList)) ((.done .ret H7 (((),(),(),(),(-1:Int),u38),())):CT).val (.next (A1Q x0 (IntKind.wrap .i64 ((IntKind.wrap .i64 ((IntKind.wrap .i64 (k+(1:Int)))+(1:Int)))+(1:Int))) ((i+1:Nat):Int)))))):=by
    simp only [O5,A4w,RT.val,h1,e0,e1,e2,e3,e4,cond_true,wrapS i (by omega),Int.toNat_natCast]
    rfl
   cases g0:(((x0.getD i ((0:Int),((⟨#[]⟩:ByteArray),(⟨#[]⟩:ByteArray)))).1) != k) with
   | true=>exact .inr ⟨(),_,_,_,by simp only [D3,g0,cond_true,cond_false],by rw [e,g0];rfl,rfl,by simp⟩
   | false =>
    cases g1:(!((((x0.getD i ((0:Int),((⟨#[]⟩:ByteArray),(⟨#[]⟩:ByteArray)))).2).1).toList==(C1 (IntKind.wrap .i64 (k+(1:Int)))).toList)) with
    | true=>exact .inr ⟨(),_,_,_,by simp only [D3,g0,g1,cond_true,cond_false],by rw [e,g0,g1];rfl,rfl,by simp⟩
    | false =>
     cases g2:(!((((x0.getD i ((0:Int),((⟨#[]⟩:ByteArray),(⟨#[]⟩:ByteArray)))).2).2).toList==(C1 (IntKind.wrap .i64 ((IntKind.wrap .i64 (k+(1:Int)))+(1:Int)))).toList)) with
     | true=>exact .inr ⟨(),_,_,_,by simp only [D3,g0,g1,g2,cond_true,cond_false],by rw [e,g0,g1,g2];rfl,rfl,by simp⟩
     | false =>
      exact .inl ⟨IntKind.wrap .i64 ((IntKind.wrap .i64 ((IntKind.wrap .i64 (k+(1:Int)))+(1:Int)))+(1:Int)),by simp only [D3,g0,g1,g2,cond_false],by rw [w1,w2,w3];omega,by rw [e,g0,g1,g2];rfl⟩
  ·have h1:decide ((i:Int)<(x0.length:Int))=false:=decide_eq_false (by omega)
   exact ⟨by simp only [O5,A4w,RT.val,h1,cond_false];rfl,_,_,_,rfl,by simp⟩
noncomputable def A8u (x0:Lq1) (x1 x5:Int):Option (Ex×St):=let z1:=(⟨(.junk::.junk::.junk::.junk::(ti (-1:Int))::C0n),[],0,[]⟩:St);let z3:=x0.getD x5.toNat ((0:Int),(bE,bE));let z4:=decide (0≤x5∧x5<(x0.length:Int));let z5:=IntKind.wrap .i64 (x1+(1:Int));let z2:=IntKind.wrap .i64 (z5+(1:Int));(cond (decide (x5<(x0.length:Int))) (cond z4 (cond ((z3.1) != x1) (some (.ret,z1)) (cond z4 (cond (B9 z5) (cond (!(((z3.2).1).toList==(C1 z5).toList)) (some (.ret,z1)) (cond z4 (cond (B9 z2) (cond (!(((z3.2).2).toList==(C1 z2).toList)) (some (.ret,z1)) (some (.normal,(⟨((.t false tq3 x0)::(ti (IntKind.wrap .i64 (z2+(1:Int))))::.junk::.junk::.junk::(ti (IntKind.wrap .i64 (x5+(1:Int))))::B84),[],0,[]⟩:St)))) none) none)) none) none)) none) (some ((.exit 0),(⟨(.junk::(ti x1)::C2p),[],0,[]⟩:St))))
theorem B2M:RdA G55 aLn 0 A56 M0 0 [] (kepts [4] [(0,[1])]) (fun d=>A8u d.1.1 d.1.2.1 d.1.2.2.2.2.2.1):=by
 intro d
 kernel_rfl
theorem B2V:∀ d:M0.den,(fun d=>A8u d.1.1 d.1.2.1 d.1.2.2.2.2.2.1) d=(O5 d).opt 0 []:=by
 intro d
 kernel_rfl
noncomputable abbrev A7y:St→Option Tree:=M0.say 0 [] [] (fun d=>A0R d.1.1 d.1.2.1 d.1.2.2.2.2.2.1)
theorem B3r:aPL A7y A56:=SS.wp2 hlz [] O5 B2M B2V _ (fun d=>B4w d.1.1 d.1.2.1 d.1.2.2.2.2.2.1)
noncomputable def A4Y (a0:Lq1) (a1:Int):Int:=let z1:=loopN (D3 a0) (a0.length - (0:Int).toNat) (0:Int).toNat a1;(cond (isInl z1) (getInl (-1) z1) (-1:Int))
noncomputable abbrev A5o (r:Int):AV×List AObj:=((ti r),[])
noncomputable abbrev A9b:pshsDen A24→AV×List AObj:=fun d=>A5o (A4Y d.1 d.2.1)
noncomputable def X1 (a0:Lq1) (a1:Int):Bool:=okL a0&&decide (0≤a1∧a1≤10000000)
noncomputable abbrev A5I:pshsDen A24→Bool:=fun d=>X1 d.1 d.2.1
noncomputable abbrev B6H:Nat→St→Option Tree:=fun b=>match b with | 0=>A7y | _=>fun _=>none
theorem B5u:RunP true G55 (B6H) Try.f85 A24 A5I A9b:=by
 rintro ⟨a0,⟨a1,_⟩⟩ hp
 change X1 a0 a1=true at hp
 unfold X1 at hp
 refine Eq.trans (b:=(let z1:=loopN (D3 a0) (a0.length - (0:Int).toNat) (0:Int).toNat a1;cond (decide (0≤(0:Int))&&(decide (0≤a1∧a1≤100000*((0:Int)+100))&&okL a0)) (cond (isInl z1) (some (A5o (getInl (-1) z1))) (some (A5o (-1:Int)))) none)) (by kernel_rfl) ?_
 exact (cndT (by first | rfl | decide | exact hp | (simp only [Bool.and_eq_true] at hp;simp only [hp];done) | (simp [*];done) | (simp [okL] at hp;simp [okL,MAXB];omega) | (simp_all;done) | (simp at *;omega)) (fun _h=>(F9 A5o (fun _h=>rfl) (fun _h=>rfl))))
theorem B6W:aPP 85 (sumOf A24 A5I A9b):=pcD true G55 (hl1 (i:=0) (by kernel_rfl) B3r) B5u
noncomputable def S56:Tab:=Tab.add S55 85 (lift (sumOf A24 A5I A9b))
noncomputable def C1p:FuncId→Bool:=qadd C1o 85
theorem G56:aPG S56 C1p:=G55.addQ B6W (cbl Try.f85) (fun _=>rfl)

abbrev C2y:List Sh:=.junk::B88
abbrev C2z:List Sh:=.junk::C0v
abbrev u39:=((),u38)
abbrev C2n:List AV:=.junk::B83
abbrev C2o:List AV:=.junk::C0n
abbrev A1Y:List PSh:=[.t tq6,.t (.int .i64)]
abbrev J5:SS:=⟨(.t false tq6::tI::.junk::.junk::.junk::tI::B88),[]⟩
abbrev A0h:SS:=⟨(.junk::.junk::.junk::.junk::tI::C2y),[]⟩
abbrev A51:SS:=⟨(.junk::tI::C2z),[]⟩
noncomputable def A7I (x0:Lq2) (x1 x5:Int):RT J5.den:=let z1:=x0.getD x5.toNat ((0:Int),((0:Int),[]));let z3:=decide (0≤x5∧x5<(x0.length:Int));let z4:=IntKind.wrap .i64 (x1+(1:Int));let z2:=IntKind.wrap .i64 (z4+(1:Int));let z5:=A4Y ((z1.2).2) z2;(.br (decide (x5<(x0.length:Int))) (.br z3 (.br ((z1.1) != x1) (.done .ret A0h (((),(),(),(),(-1:Int),u36),())) (.br z3 (.br (((z1.2).1) != z4) (.done .ret A0h (((),(),(),(),(-1:Int),u36),())) (.br z3 (.br (X1 ((z1.2).2) z2) (.br (decide (z5<(0:Int))) (.done .ret A0h (((),(),(),(),(-1:Int),u36),())) (.next ((x0,z5,(),(),(),IntKind.wrap .i64 (x5+(1:Int)),u35),()))) .fail) .fail)) .fail)) .fail) (.done (.exit 0) A51 (((),x1,u39),())))
abbrev A1I:=(Lq2)×(Int)×(Int)
abbrev Z7:=Nat×(Int)×(Int)
def V6:Z7:=(99,((0:Int):Int),((0:Int):Int))
noncomputable def A1h (x0:Lq2) (x1 x5:Int):A1I ⊕ Z7:=let z1:=x0.getD x5.toNat ((0:Int),((0:Int),[]));let z3:=decide (0≤x5∧x5<(x0.length:Int));let z4:=IntKind.wrap .i64 (x1+(1:Int));let z2:=IntKind.wrap .i64 (z4+(1:Int));let z5:=A4Y ((z1.2).2) z2;(cond (decide (x5<(x0.length:Int))) (cond z3 (cond ((z1.1) != x1) (.inr (0,(-1:Int),((0:Int):Int))) (cond z3 (cond (((z1.2).1) != z4) (.inr (0,(-1:Int),((0:Int):Int))) (cond z3 (cond (X1 ((z1.2).2) z2) (cond (decide (z5<(0:Int))) (.inr (0,(-1:Int),((0:Int):Int))) (.inl (x0,z5,IntKind.wrap .i64 (x5+(1:Int))))) (.inr V6)) (.inr V6))) (.inr V6))) (.inr V6)) (.inr (1,((0:Int):Int),x1)))
noncomputable def W2 (x0:Lq2) (x1 x5:Int):Z7:=itX (fun v:A1I=>A1h v.1 v.2.1 v.2.2) V6 (x0,x1,x5)
noncomputable def A3n (a:Z7):CT:=(.br (a.1==0) (.done .ret A0h (((),(),(),(),a.2.1,u36),())) (.br (a.1==1) (.done (.exit 0) A51 (((),a.2.2,u39),())) .fail))
noncomputable def B3e (x0:Lq2) (x1 x5:Int):CT:=A3n (W2 x0 x1 x5)
noncomputable abbrev A3G:J5.den→RT J5.den:=(fun d=>A7I d.1.1 d.1.2.1 d.1.2.2.2.2.2.1)
noncomputable def A4Q:Code:=((loopsIn 0 (bodyOf Try.f42)).getD 0 (0,.skip)).2
noncomputable abbrev A7n (v:A1I):J5.den:=((v.1,v.2.1,(),(),(),v.2.2,u35),())
theorem B22:(∀ v:A1I,(A7I v.1 v.2.1 v.2.2).val=relS A7n A3n (A1h v.1 v.2.1 v.2.2))∧∀ a:Z7,CEnd J5.den (A3n a):=⟨fun v=>by repeat' first | apply relB | rfl,fun a=>(cendB aCD (cendB aCD cendF))⟩
noncomputable def A64 (x0:Lq2) (x1 x5:Int):Option (Ex×St):=let z1:=x0.getD x5.toNat ((0:Int),((0:Int),[]));let z2:=(⟨(.junk::.junk::.junk::.junk::(ti (-1:Int))::C2n),[],0,[]⟩:St);let z4:=decide (0≤x5∧x5<(x0.length:Int));let z5:=IntKind.wrap .i64 (x1+(1:Int));let z3:=IntKind.wrap .i64 (z5+(1:Int));let z6:=A4Y ((z1.2).2) z3;(cond (decide (x5<(x0.length:Int))) (cond z4 (cond ((z1.1) != x1) (some (.ret,z2)) (cond z4 (cond (((z1.2).1) != z5) (some (.ret,z2)) (cond z4 (cond (X1 ((z1.2).2) z3) (cond (decide (z6<(0:Int))) (some (.ret,z2)) (some (.normal,(⟨((.t false tq6 x0)::(ti z6)::.junk::.junk::.junk::(ti (IntKind.wrap .i64 (x5+(1:Int))))::B83),[],0,[]⟩:St)))) none) none)) none)) none) (some ((.exit 0),(⟨(.junk::(ti x1)::C2o),[],0,[]⟩:St))))
theorem B1I:RdA G56 aLn 0 A4Q J5 0 [] (kepts [4] [(0,[1])]) (fun d=>A64 d.1.1 d.1.2.1 d.1.2.2.2.2.2.1):=by
 intro d
 kernel_rfl
theorem B1M:∀ d:J5.den,(fun d=>A64 d.1.1 d.1.2.1 d.1.2.2.2.2.2.1) d=(A3G d).opt 0 []:=by
 intro d
 kernel_rfl
noncomputable abbrev A6l:St→Option Tree:=J5.say 0 [] [] (fun d=>B3e d.1.1 d.1.2.1 d.1.2.2.2.2.2.1)
theorem B2A:aPL A6l A4Q:=SS.wp2 hlz [] A3G B1I B1M _ (fun d=>Runs.ofI2 (step:=A3G) A7n B22 rfl (d.1.1,d.1.2.1,d.1.2.2.2.2.2.1))
noncomputable def A2U (a0:Lq2) (a1:Int):Int:=let z1:=W2 a0 a1 (0:Int);(cond (z1.1==0) (z1.2.1) (z1.2.2))
noncomputable abbrev A3S (r:Int):AV×List AObj:=((ti r),[])
noncomputable abbrev A6U:pshsDen A1Y→AV×List AObj:=fun d=>A3S (A2U d.1 d.2.1)
noncomputable def X2 (a0:Lq2) (a1:Int):Bool:=let z1:=W2 a0 a1 (0:Int);cond (z1.1==0) true (z1.1==1)
noncomputable abbrev A4j:pshsDen A1Y→Bool:=fun d=>X2 d.1 d.2.1
noncomputable abbrev B5G:Nat→St→Option Tree:=fun b=>match b with | 0=>A6l | _=>fun _=>none
theorem B32:RunP true G56 (B5G) Try.f42 A1Y A4j A6U:=by
 rintro ⟨a0,⟨a1,_⟩⟩ hp
 change X2 a0 a1=true at hp
 unfold X2 at hp
 refine Eq.trans (b:=(let z1:=W2 a0 a1 (0:Int);cond (z1.1==0) (some (A3S (z1.2.1))) (cond (z1.1==1) (some (A3S (z1.2.2))) none))) (by kernel_rfl) ?_
 exact (O8 A3S hp (fun hp=>rfl) (fun hp=>(cndT hp fun _h=>rfl)))
theorem B5Y:aPP 42 (sumOf A1Y A4j A6U):=pcD true G56 (hl1 (i:=0) (by kernel_rfl) B2A) B32
noncomputable def S57:Tab:=Tab.add S56 42 (lift (sumOf A1Y A4j A6U))
noncomputable def C2i:FuncId→Bool:=qadd C1p 42
theorem G57:aPG S57 C2i:=G56.addQ B5Y (cbl Try.f42) (fun _=>rfl)

abbrev Q9:List PSh:=[.t C6]
noncomputable def P4 (a0:List Int):Bool:=let z6:=A60 a0;let z1:=A1q z6;let z3:=A1C z6;let z4:=!(A7U (z1.2) (z3.1));let z5:=A2V (1:Int) (z1.2);let z2:=A2U (z5.2) (1:Int);let z7:=decide (z2<(0:Int));(cond (decide ((a0.length:Int) > (1048576:Int))) true (cond z4 false (cond ((z1.1) != (z3.2)) false (cond (!(A4X z6 z6)) false (cond (decide (((A1t (1:Int) z6).1)<(0:Int))) false (cond z4 false (cond ((z1.1) != (z3.2)) false (cond z7 false (cond (z2 != (z5.1)) false (cond z4 false (cond ((z1.1) != (z3.2)) false (cond z7 false (cond (z2 != (z5.1)) false true)))))))))))))
noncomputable abbrev A5 (r:Bool):AV×List AObj:=((.t true .bool r),[])
noncomputable abbrev A3t:pshsDen Q9→AV×List AObj:=fun d=>A5 (P4 d.1)
noncomputable def L1 (a0:List Int):Bool:=let z1:=A60 a0;let z2:=(A1q z1).2;let z3:=A1C z1;let z4:=A2V (1:Int) z2;let z5:=((A1q z1).1) != (z3.2);let z6:=!(A7U z2 (z3.1));let z7:=A1x a0;let z8:=A1w z2 (z3.1);let z9:=X2 (z4.2) (1:Int);let z10:=A2U (z4.2) (1:Int);cond (decide ((a0.length:Int) > (1048576:Int))) true (z7&&((Q6 z1)&&(z7&&((N6 z1)&&(z8&&(cond z6 true (cond z5 true (z7&&((A1v z1 z1)&&(cond (!(A4X z1 z1)) true ((Y9 (1:Int) z1)&&(cond (decide (((A1t (1:Int) z1).1)<(0:Int))) true (z8&&(cond z6 true (cond z5 true ((X4 (1:Int) z2)&&(z9&&(cond (decide (z10<(0:Int))) true (cond (z10 != (z4.1)) true (z7&&((N6 z1)&&(z8&&(cond z6 true (cond z5 true z9))))))))))))))))))))))))
noncomputable abbrev H8:pshsDen Q9→Bool:=fun d=>L1 d.1
theorem A7u:RunP true G57 aLn Try.f9 Q9 H8 A3t:=by
 rintro ⟨a0,_⟩ hp
 change L1 a0=true at hp
 unfold L1 at hp
 refine Eq.trans (b:=(let z2:=A60 a0;let z1:=A1q z2;let z3:=A2V (1:Int) (z1.2);let z4:=A1C z2;let z5:=A2U (z3.2) (1:Int);let z6:=!(A7U (z1.2) (z4.1));let z7:=A1w (z1.2) (z4.1);let z8:=A1x a0;let z9:=X2 (z3.2) (1:Int);let z10:=decide (z5<(0:Int));cond (decide ((a0.length:Int) > (1048576:Int))) (some (A5 true)) (cond z8 (cond (Q6 z2) (cond z8 (cond (N6 z2) (cond z7 (cond z6 (some (A5 false)) (cond ((z1.1) != (z4.2)) (some (A5 false)) (cond z8 (cond (A1v z2 z2) (cond (!(A4X z2 z2)) (some (A5 false)) (cond (Y9 (1:Int) z2) (cond (decide (((A1t (1:Int) z2).1)<(0:Int))) (some (A5 false)) (cond z7 (cond z6 (some (A5 false)) (cond ((z1.1) != (z4.2)) (some (A5 false)) (cond (X4 (1:Int) (z1.2)) (cond z9 (cond z10 (some (A5 false)) (cond (z5 != (z3.1)) (some (A5 false)) (cond z8 (cond (N6 z2) (cond z7 (cond z6 (some (A5 false)) (cond ((z1.1) != (z4.2)) (some (A5 false)) (cond z9 (cond z10 (some (A5 false)) (cond (z5 != (z3.1)) (some (A5 false)) (some (A5 true)))) none))) none) none) none))) none) none))) none)) none)) none) none))) none) none) none) none) none))) (by kernel_rfl) ?_
 exact (O8 A5 hp (fun hp=>rfl) (fun hp=>(cndA hp fun hp=>(cndA hp fun hp=>(cndA hp fun hp=>(cndA hp fun hp=>(cndA hp fun hp=>(O8 A5 hp (fun hp=>rfl) (fun hp=>(O8 A5 hp (fun hp=>rfl) (fun hp=>(cndA hp fun hp=>(cndA hp fun hp=>(O8 A5 hp (fun hp=>rfl) (fun hp=>(cndA hp fun hp=>(O8 A5 hp (fun hp=>rfl) (fun hp=>(cndA hp fun hp=>(O8 A5 hp (fun hp=>rfl) (fun hp=>(O8 A5 hp (fun hp=>rfl) (fun hp=>(cndA hp fun hp=>(cndA hp fun hp=>(O8 A5 hp (fun hp=>rfl) (fun hp=>(O8 A5 hp (fun hp=>rfl) (fun hp=>(cndA hp fun hp=>(cndA hp fun hp=>(cndA hp fun hp=>(O8 A5 hp (fun hp=>rfl) (fun hp=>(O8 A5 hp (fun hp=>rfl) (fun hp=>(cndT hp fun _h=>(F9 A5 (fun _h=>rfl) (fun _h=>(F9 A5 (fun _h=>rfl) (fun _h=>rfl)))))))))))))))))))))))))))))))))))))))))
theorem A85:aPP 9 (sumOf Q9 H8 A3t):=pcD true G57 hlz A7u
noncomputable def okB (b:List Int):Prop:=∀ c∈b,0≤c∧c≤255
theorem B9u {l:List Int} (h:bigT C6 l=true):okB l:=by
 have hb:(decide (l.length≤maxLen)&&l.all (fun x=>(Lit.int .u8 x).wf))=true:=h
 rw [Bool.and_eq_true,List.all_eq_true] at hb
 intro c hc
 have:=hb.2 c hc
 simp only [Lit.wf,Bool.and_eq_true,decide_eq_true_eq] at this
 exact ⟨this.1,this.2⟩
theorem B5B (l:List Int):A60 l=l:=by
 have e:=mapN (fun o:Int=>o) (0:Int) l l.length 0 (List.replicate l.length (0:Int)) (by simp) (by simp)
 simp only [List.take_zero,List.nil_append,List.drop_zero,List.map_id'] at e
 exact e
noncomputable abbrev V1:=(Int)×(Int)×Lq1
noncomputable def B7h (l:List V1):Prop:=∀ r∈l,F0 r.1 r.2.1 r.2.2=true
noncomputable def A3A (l:Lq1):List Int:=A8 (l.length:Int)++(l.map opB).flatten
noncomputable def A6 (k t:Int) (l:Lq1):List Int:=A8 k++(A8 t++cond (k==1) (A3A l) [])
noncomputable def A59 (b:List Int):List Int:=strInts ((H6 b).extract 0 4)
noncomputable def I5 (k t:Int) (l:Lq1):List Int:=A8 ((A6 k t l).length:Int)++(A6 k t l++A59 (A6 k t l))
noncomputable def N7 (l:List V1):List Int:=(l.map fun r=>I5 r.1 r.2.1 r.2.2).flatten
noncomputable def RdOk (b:List Int) (rs:List V1) (p:Nat):Prop:=B7h rs∧p≤b.length∧b.take p=N7 rs∧∀ (r:V1) (post:List Int),F0 r.1 r.2.1 r.2.2=true→b.drop p ≠ I5 r.1 r.2.1 r.2.2++post
noncomputable def pN:Nat→Nat→Nat→List Int→Option (Nat×Nat)
 | 0,_,_,_=>none
 | _+1,_,_,[]=>none
 | f+1,k,n,c::r =>
  if c > 127 then pN f (k+1) (n+c.toNat % 128*2 ^ (7*k)) r
  else if (0<k∧c=0)∨n+c.toNat*2 ^ (7*k) > 1000000000 then none else some (n+c.toNat*2 ^ (7*k),k+1)
noncomputable def gN (b:List Int) (at':Int):Int×Int×Bool :=
 if 0≤at'∧at'<b.length then (match pN 5 0 0 (b.drop at'.toNat) with
  | some (n,l)=>((n:Int),at'+l,true)
  | none=>(0,0,false)) else (0,0,false)
theorem B5D {n:Int} (h1:0≤n) (h2:n<18446744073709551616):IntKind.wrap .u64 n=n:=by
 show (if (false&&decide (n % (2 ^ 64:Int) ≥ (2 ^ 63:Int)))=true then n % (2 ^ 64:Int) - (2 ^ 64:Int) else n % (2 ^ 64:Int))=n
 simp only [Bool.false_and,Bool.false_eq_true,if_false];omega
theorem B38 {b:List Int} {i:Nat} (h:i<b.length):b.drop i=b.getD i 0::b.drop (i+1):=by
 rw [List.drop_eq_getElem_cons h];simp [List.getD_eq_getElem?_getD,h]
theorem A7V (n:Nat) (h:n<18446744073709551616):(BitVec.ofInt 64 (n:Int)).toNat=n:=by
 simp [BitVec.toNat_ofInt];omega
theorem B7z (n:Nat) (h:n<9223372036854775808):iand .i64 (n:Int) 127=((n % 128:Nat):Int):=by
 show IntKind.wrap .i64 (((BitVec.ofInt 64 (n:Int) &&& BitVec.ofInt 64 ((127:Nat):Int)).toNat:Nat):Int)=_
 rw [BitVec.toNat_and,A7V n (by omega),A7V 127 (by omega),show (127:Nat)=2 ^ 7 - 1 from rfl,Nat.and_two_pow_sub_one_eq_mod]
 exact wrap64 (by omega) (by omega)
theorem C2I (c k:Nat) (hc:c≤255) (hk:k<5):IntKind.wrap .i64 ((iand .i64 (IntKind.wrap .i64 (c:Int)) (127:Int))*2 ^ (min (Int.toNat (IntKind.wrap .u64 (IntKind.wrap .i64 ((7:Int)*(k:Int))))) (IntKind.bits .i64)))=((c % 128*2 ^ (7*k):Nat):Int):=by
 rw [wrap64 (n:=(c:Int)) (by omega) (by omega),B7z c (by omega),wrap64 (n:=(7:Int)*(k:Int)) (by omega) (by omega),B5D (by omega) (by omega)]
 have e:Int.toNat ((7:Int)*(k:Int))=7*k:=by omega
 have e2:min (7*k) (IntKind.bits .i64)=7*k:=Nat.min_eq_left (by show 7*k≤64;omega)
 rw [e,e2]
 have h1:c % 128*2 ^ (7*k)≤128*2 ^ 28:=Nat.mul_le_mul (by omega) (Nat.pow_le_pow_right (by decide) (by omega))
 have h2:(128:Nat)*2 ^ 28=34359738368:=by decide
 have e3:((c % 128:Nat):Int)*2 ^ (7*k)=((c % 128*2 ^ (7*k):Nat):Int):=by simp
 rw [e3]
 exact wrap64 (by omega) (by omega)
theorem B80 (n m j:Nat) (hn:n<2 ^ j) (h:n+m*2 ^ j<9223372036854775808):ior .i64 (n:Int) ((m*2 ^ j:Nat):Int)=((n+m*2 ^ j:Nat):Int):=by
 show IntKind.wrap .i64 (((BitVec.ofInt 64 (n:Int) ||| BitVec.ofInt 64 ((m*2 ^ j:Nat):Int)).toNat:Nat):Int)=_
 rw [BitVec.toNat_or,A7V n (by omega),A7V _ (by omega),Nat.or_comm,Nat.mul_comm m,← Nat.two_pow_add_eq_or_of_lt hn,Nat.add_comm]
 rw [Nat.mul_comm m] at h
 exact wrap64 (by omega) (by omega)
theorem C1s (n c k:Nat) (hc:c≤255) (hk:k<5) (hn:n<2 ^ (7*k)):ior .i64 (n:Int) (IntKind.wrap .i64 ((iand .i64 (IntKind.wrap .i64 (c:Int)) (127:Int))*2 ^ (min (Int.toNat (IntKind.wrap .u64 (IntKind.wrap .i64 ((7:Int)*(k:Int))))) (IntKind.bits .i64))))=((n+c % 128*2 ^ (7*k):Nat):Int)∧n+c % 128*2 ^ (7*k)<2 ^ (7*(k+1))∧n+c % 128*2 ^ (7*k)<9223372036854775808:=by
 have h3:n+c % 128*2 ^ (7*k)<2 ^ (7*(k+1)):=by
  rw [show 7*(k+1)=7*k+7 by omega,Nat.pow_add,show (2:Nat) ^ 7=128 from rfl]
  have:c % 128*2 ^ (7*k)≤127*2 ^ (7*k):=Nat.mul_le_mul_right _ (by omega)
  omega
 have h4:(2:Nat) ^ (7*(k+1))≤2 ^ 35:=Nat.pow_le_pow_right (by decide) (by omega)
 have h5:(2:Nat) ^ 35=34359738368:=by decide
 refine ⟨?_,h3,by omega⟩
 rw [C2I c k hc hk]
 exact B80 n (c % 128) (7*k) hn (by omega)
theorem okB.getD {b:List Int} (h:okB b) (i:Nat):0≤b.getD i 0∧b.getD i 0≤255:=by
 rw [List.getD_eq_getElem?_getD]
 cases e:b[i]? with
 | none=>simp
 | some c=>exact h c (List.mem_of_getElem? e)
theorem okB.drop {b:List Int} (h:okB b) (i:Nat):okB (b.drop i):=fun c hc=>h c (List.mem_of_mem_drop hc)
theorem B7s {b:List Int} (hb:okB b) (hl:b.length≤1099511627776) {i:Nat} (hi:i<b.length) :
    (match pN 5 0 0 (b.drop i) with
      | some (n,l)=>N3 b (i:Int) 0 0=(0,(n:Int),(i:Int)+l,true)
      | none=>N3 b (i:Int) 0 0=(0,0,0,false)∨(N3 b (i:Int) 0 0).1=1):=by
  refine itX_inv (fun v => ∃ k n : Nat, v = (b, (i : Int), (n : Int), (k : Int)) ∧ k ≤ 5 ∧ n < 2 ^ (7 * k) ∧ pN (5 - k) k n (b.drop (i + k)) = pN 5 0 0 (b.drop i)) (fun a => match pN 5 0 0 (b.drop i) with
      | some (n,l)=>a=(0,(n:Int),(i:Int)+l,true)
      | none=>a=(0,0,0,false)∨a.1=1) (fun v=>5 - v.2.2.2.toNat) ?_ ⟨0,0,rfl,by omega,by simp,rfl⟩ (by simp)
  rintro v ⟨k,n,rfl,hk,hn,hp⟩
  by_cases h5:k<5
  · have e1:decide ((k:Int)<5)=true:=decide_eq_true (by omega)
    have e2:decide ((i:Int) ≥ 0)=true:=decide_eq_true (by omega)
    have e3:decide ((i:Int)<(b.length:Int))=true:=decide_eq_true (by omega)
    have e4:IntKind.wrap .i64 ((i:Int)+(k:Int))=((i+k:Nat):Int):=by rw [wrap64 (by omega) (by omega)];omega
    by_cases hik:i+k<b.length
    · have e5:decide (((i+k:Nat):Int)<(b.length:Int))=true:=decide_eq_true (by omega)
      have e6:decide (0≤((i+k:Nat):Int)∧((i+k:Nat):Int)<(b.length:Int))=true:=decide_eq_true (by omega)
      have e7:decide (0≤(IntKind.wrap .u64 (IntKind.wrap .i64 ((7:Int)*(k:Int)))))=true:=by
        rw [wrap64 (n:=(7:Int)*(k:Int)) (by omega) (by omega),B5D (by omega) (by omega)];exact decide_eq_true (by omega)
      obtain ⟨hc0,hc1⟩:=hb.getD (i+k)
      have hdc:=B38 hik
      obtain ⟨c,hc⟩:=Int.eq_ofNat_of_zero_le hc0
      rw [hc] at hc1 hdc
      have hc255:c≤255:=by omega
      obtain ⟨f1,f2,f3⟩:=C1s n c k hc255 h5 hn
      have e8:IntKind.wrap .i64 (c:Int)=(c:Int):=wrap64 (by omega) (by omega)
      rw [hdc,show 5 - k=(4 - k)+1 by omega,pN] at hp
      simp only [Int.toNat_natCast] at hp
      simp only [Z5,e1,e2,e3,e4,e5,e6,e7,cond_true,Int.toNat_natCast,hc,f1]
      simp only [e8]
      by_cases h127:c > 127
      · rw [if_pos (by omega)] at hp
        have e9:decide ((c:Int) > 127)=true:=decide_eq_true (by omega)
        simp only [e9,cond_true]
        refine .inl ⟨_,rfl,⟨k+1,n+c % 128*2 ^ (7*k),?_,by omega,f2,?_⟩,?_⟩
        · rw [wrapU k (by omega)]
        · rw [show 5 - (k+1)=4 - k by omega,← hp];rfl
        · rw [wrapU k (by omega)];simp;omega
      · rw [if_neg (by omega)] at hp
        have e9:decide ((c:Int) > 127)=false:=decide_eq_false (by omega)
        have hcm:c % 128=c:=by omega
        rw [hcm] at f3 ⊢
        simp only [e9,cond_false]
        right
        by_cases hz:0<k∧c=0
        · rw [if_pos (by omega)] at hp
          have e10:decide ((k:Int) > 0)=true:=decide_eq_true (by omega)
          have e11:((c:Int)==0)=true:=by rw [beq_iff_eq];omega
          simp only [e10,e11,cond_true]
          exact ⟨_,rfl,by rw [← hp];exact .inl rfl⟩
        · by_cases hg:n+c*2 ^ (7*k) > 1000000000
          · rw [if_pos (.inr hg)] at hp
            have e12:decide (((n+c*2 ^ (7*k):Nat):Int) > 1000000000)=true:=decide_eq_true (by omega)
            simp only [e12,cond_true]
            refine ⟨(0,0,0,false),?_,by rw [← hp];exact .inl rfl⟩
            cases decide ((k:Int) > 0)<;>cases ((c:Int)==0)<;>rfl
          · rw [if_neg (fun h=>h.elim (fun h=>hz ⟨h.1,by omega⟩) hg)] at hp
            have e12:decide (((n+c*2 ^ (7*k):Nat):Int) > 1000000000)=false:=decide_eq_false (by omega)
            have e13:IntKind.wrap .i64 (((i+k:Nat):Int)+1)=((i+k+1:Nat):Int):=wrapU (i+k) (by omega)
            simp only [e12,cond_false,e13]
            refine ⟨(0,((n+c*2 ^ (7*k):Nat):Int),((i+k+1:Nat):Int),true),?_,?_⟩
            · by_cases h0:0<k
              · have e10:decide ((k:Int) > 0)=true:=decide_eq_true (by omega)
                have e11:((c:Int)==0)=false:=by rw [beq_eq_false_iff_ne];intro h;exact hz ⟨h0,by omega⟩
                simp only [e10,e11,cond_true,cond_false]
              · have e10:decide ((k:Int) > 0)=false:=decide_eq_false (by omega)
                simp only [e10,cond_false]
            · rw [← hp];show _=_
              congr 3
    · have e5:decide (((i+k:Nat):Int)<(b.length:Int))=false:=decide_eq_false (by omega)
      rw [show 5 - k=(4 - k)+1 by omega,List.drop_eq_nil_of_le (by omega),pN] at hp
      simp only [Z5,e1,e2,e3,e4,e5,cond_true,cond_false]
      exact .inr ⟨_,rfl,by rw [← hp];exact .inr rfl⟩
  · obtain rfl:k=5:=by omega
    have e1:decide (((5:Nat):Int)<5)=false:=by decide
    simp only [Z5,e1,cond_false]
    exact .inr ⟨_,rfl,by rw [← hp];exact .inr rfl⟩
theorem T1 {b:List Int} (hb:okB b) (hl:b.length≤1099511627776) (a:Int):A4 b a=gN b a∧E1 b a=true:=by
 simp only [A4,E1,gN]
 by_cases h:0≤a∧a<b.length
 ·obtain ⟨i,rfl⟩:=Int.eq_ofNat_of_zero_le h.1
  have hi:i<b.length:=by omega
  rw [if_pos h,Int.toNat_natCast]
  have:=B7s hb hl hi
  cases hp:pN 5 0 0 (b.drop i) with
  | some x =>
   rw [hp] at this
   simp only at this
   rw [this];exact ⟨rfl,rfl⟩
  | none =>
   rw [hp] at this
   rcases this with h1 | h1
   ·rw [h1];exact ⟨rfl,rfl⟩
   ·rw [h1];exact ⟨rfl,rfl⟩
 ·rw [if_neg h]
  have:(N3 b a 0 0).1=1:=by
   refine itX_inv (fun v:A16=>v.1=b∧v.2.1=a) (fun r:A0x=>r.1=1) (fun _=>0) (fun v hv=>?_) ⟨rfl,rfl⟩ (by simp)
   obtain ⟨x,y,n,k⟩:=v
   obtain ⟨rfl,rfl⟩:=hv
   right
   simp only [Z5]
   cases decide (k<5) with
   | false=>exact ⟨_,rfl,rfl⟩
   | true =>
    by_cases h1:y ≥ 0
    ·have e2:decide (y<(x.length:Int))=false:=decide_eq_false (fun h2=>h ⟨h1,h2⟩)
     simp only [decide_eq_true h1,e2,cond_true,cond_false]
     exact ⟨_,rfl,rfl⟩
    ·simp only [decide_eq_false h1,cond_true,cond_false]
     exact ⟨_,rfl,rfl⟩
  rw [this];exact ⟨rfl,rfl⟩
noncomputable def hiB (j x:Nat):List Int:=(hiF A9O j (x:Int)).1++[IntKind.wrap .u8 (hiF A9O j (x:Int)).2]
theorem B8Y (j x:Nat) (h:¬ 127<x):hiF A9O j (x:Int)=([],(x:Int)):=by
 cases j with
 | zero=>rfl
 | succ j =>
  have e:decide ((x:Int) > 127)=false:=decide_eq_false (by omega)
  simp only [hiF,e,cond_false]
theorem B9s {n:Int} (h1:0≤n) (h2:n<256):IntKind.wrap .u8 n=n:=by
 show (if (false&&decide (n % (2 ^ 8:Int) ≥ (2 ^ 7:Int)))=true then n % (2 ^ 8:Int) - (2 ^ 8:Int) else n % (2 ^ 8:Int))=n
 simp only [Bool.false_and,Bool.false_eq_true,if_false];omega
theorem A2b (j x:Nat) (h:¬ 127<x):hiB j x=[(x:Int)]:=by
 simp only [hiB,B8Y j x h,List.nil_append];rw [B9s (by omega) (by omega)]
theorem C1x (n:Nat):Int.fdiv (n:Int) (2 ^ 7)=((n / 128:Nat):Int):=by
 rw [Int.fdiv_eq_ediv_of_nonneg _ (by decide)];rfl
theorem B8X (j x:Nat) (h:127<x):hiF A9O (j+1) (x:Int)=(A9O x::(hiF A9O j ((x / 128:Nat):Int)).1,(hiF A9O j ((x / 128:Nat):Int)).2):=by
 have e:decide ((x:Int) > 127)=true:=decide_eq_true (by omega)
 simp only [hiF,e,cond_true,C1x]
theorem B8U (n:Nat) (h:n<9223372036854775808):A9O (n:Int)=((128+n % 128:Nat):Int):=by
 simp only [A9O]
 rw [B7z n h]
 have:=B80 (n % 128) 1 7 (by omega) (by omega)
 have e:((1*2 ^ 7:Nat):Int)=128:=rfl
 rw [e] at this
 rw [this,B9s (by omega) (by omega)];omega
theorem B2u (j x:Nat) (h:127<x) (hx:x<9223372036854775808):hiB (j+1) x=((128+x % 128:Nat):Int)::hiB j (x / 128):=by
 simp only [hiB,B8X j x h,B8U x hx,List.cons_append]
theorem C0B:∀ (j k n:Nat) (l:List Int) (m len:Nat),okB l→k+j≤4→pN (j+1) k n l=some (m,len) →
  ∃ (x:Nat) (post:List Int),l=hiB j x++post∧m=n+x*2 ^ (7*k)∧len=k+(hiB j x).length∧(0<k→0<x)∧x<128 ^ (j+1)∧m≤1000000000:=by
 intro j
 induction j with
 | zero =>
  intro k n l m len hb hk h
  cases l with
  | nil=>simp [pN] at h
  | cons c r =>
   obtain ⟨hc,_⟩:=hb c (by simp)
   obtain ⟨x,rfl⟩:=Int.eq_ofNat_of_zero_le hc
   simp only [pN,Int.toNat_natCast] at h
   split at h
   ·cases h
   ·split at h
    ·cases h
    ·simp only [Option.some.injEq,Prod.mk.injEq] at h
     obtain ⟨rfl,rfl⟩:=h
     exact ⟨x,r,by rw [A2b 0 x (by omega)];rfl,rfl,by rw [A2b 0 x (by omega)];rfl,by omega,by simp;omega,by omega⟩
 | succ j ih =>
  intro k n l m len hb hk h
  cases l with
  | nil=>simp [pN] at h
  | cons c r =>
   obtain ⟨hc,hc'⟩:=hb c (by simp)
   obtain ⟨y,rfl⟩:=Int.eq_ofNat_of_zero_le hc
   rw [pN] at h
   simp only [Int.toNat_natCast] at h
   split at h
   ·rename_i hgt
    obtain ⟨x,post,e1,e2,e3,e4,e5,e6⟩:=ih (k+1) (n+y % 128*2 ^ (7*k)) r m len (fun c hc=>hb c (by simp [hc])) (by omega) h
    have hx0:=e4 (by omega)
    have hxb:y % 128+128*x<128 ^ (j+1+1):=by rw [Nat.pow_succ];omega
    have hxs:y % 128+128*x<9223372036854775808:=by
     have:(128:Nat) ^ (j+1+1)≤128 ^ 5:=Nat.pow_le_pow_right (by decide) (by omega)
     have h5:(128:Nat) ^ 5=34359738368:=by decide
     omega
    have hst:=B2u j (y % 128+128*x) (by omega) hxs
    have q1:(y % 128+128*x) / 128=x:=by omega
    have q2:128+(y % 128+128*x) % 128=y:=by omega
    rw [q1,q2] at hst
    refine ⟨y % 128+128*x,post,by rw [hst,e1];rfl,?_,by rw [hst,e3];simp;omega,fun _=>by omega,hxb,e6⟩
    rw [e2,show 7*(k+1)=7*k+7 by omega,Nat.pow_add,show (2:Nat) ^ 7=128 from rfl,Nat.add_mul,Nat.mul_comm (2 ^ (7*k)) 128,← Nat.mul_assoc,Nat.mul_comm x 128]
    omega
   ·rename_i hgt
    split at h
    ·cases h
    ·simp only [Option.some.injEq,Prod.mk.injEq] at h
     obtain ⟨rfl,rfl⟩:=h
     refine ⟨y,r,by rw [A2b _ y (by omega)];rfl,rfl,by rw [A2b _ y (by omega)];rfl,by omega,?_,by omega⟩
     have:(128:Nat) ^ 1≤128 ^ (j+1+1):=Nat.pow_le_pow_right (by decide) (by omega)
     omega
theorem B10 (x:Nat):A8 (x:Int)=hiB 4 x:=by simp only [A8,hiB,B9b]
theorem C13 {l:List Int} (hb:okB l) {m len:Nat} (h:pN 5 0 0 l=some (m,len)):∃ post,l=A8 (m:Int)++post∧len=(A8 (m:Int)).length∧m≤1000000000:=by
 obtain ⟨x,post,e1,e2,e3,e4,e5,e6⟩:=C0B 4 0 0 l m len hb (by omega) h
 have:x=m:=by simp at e2;omega
 subst this
 exact ⟨post,by rw [B10];exact e1,by rw [B10];omega,e6⟩
theorem okB.take {b:List Int} (h:okB b) (i:Nat):okB (b.take i):=fun c hc=>h c (List.mem_of_mem_take hc)
theorem B57 {b:List Int} (hb:okB b) {a n p:Int} (h:gN b a=(n,p,true)):∃ pre post,b=pre++(A8 n++post)∧a=pre.length∧p=a+(A8 n).length∧0≤n∧n≤1000000000:=by
 simp only [gN] at h
 split at h
 ·rename_i hc
  split at h
  ·rename_i m l hp
   simp only [Prod.mk.injEq] at h
   obtain ⟨rfl,rfl,_⟩:=h
   obtain ⟨post,e1,e2,e3⟩:=C13 (hb.drop _) hp
   refine ⟨b.take a.toNat,post,?_,by rw [List.length_take];omega,by rw [e2],by omega,by omega⟩
   rw [← e1,List.take_append_drop]
  ·cases h
 ·cases h
theorem A6R {b:List Int} (hb:okB b) {a:Int} (h:(gN b a).2.2=true):0≤a∧a<(gN b a).2.1∧(gN b a).2.1≤b.length∧0≤(gN b a).1∧(gN b a).1≤1000000000:=by
 obtain ⟨pre,post,e1,e2,e3,e4,e5⟩:=B57 hb (a:=a) (n:=(gN b a).1) (p:=(gN b a).2.1) (by rw [← h])
 have hlen:=congrArg List.length e1
 simp only [List.length_append] at hlen
 have:1≤(A8 (gN b a).1).length:=by simp [A8]
 omega
theorem B5E {len p n:Int} (hl:0≤len∧len≤1048576) (hp:0≤p∧p≤len) (hn:0≤n∧n≤1000000000):IntKind.wrap .i64 (len - p)=len - p∧IntKind.wrap .i64 (len - p - 4)=len - p - 4∧IntKind.wrap .i64 (p+n)=p+n∧IntKind.wrap .i64 (p+n+4)=p+n+4 :=
 ⟨wrap64 (by omega) (by omega),wrap64 (by omega) (by omega),wrap64 (by omega) (by omega),wrap64 (by omega) (by omega)⟩
theorem okB.right {a b:List Int} (h:okB (a++b)):okB b:=fun c hc=>h c (List.mem_append_right _ hc)
theorem B7y {b:List Int} (hb:okB b) (hl:b.length≤1048576) {a n p:Int} (h:gN b a=(n,p,true)) (hn:¬ n > (b.length:Int) - p - 4):∃ pre body s4 rest:List Int,b=pre++(A8 n++(body++(s4++rest)))∧a=pre.length∧p=a+(A8 n).length∧(body.length:Int)=n∧s4.length=4∧n≤1000000000∧0≤n∧okB body∧okB s4:=by
 obtain ⟨pre,post,e,ea,ep,h0,h1⟩:=B57 hb h
 have hlen:=congrArg List.length e
 simp only [List.length_append] at hlen
 have hp:okB post:=okB.right (okB.right (by rw [← e];exact hb))
 refine ⟨pre,post.take n.toNat,(post.drop n.toNat).take 4,(post.drop n.toNat).drop 4,by rw [List.take_append_drop,List.take_append_drop];exact e,ea,ep,?_,?_,h1,h0,hp.take _,(hp.drop _).take _⟩
 ·rw [List.length_take];omega
 ·rw [List.length_take,List.length_drop];omega
theorem B63 {b x y z:List Int} {i j:Int} (e:b=x++(y++z)) (hi:i=(x.length:Int)) (hj:j=(x.length:Int)+(y.length:Int)):(b.take j.toNat).drop i.toNat=y:=by
 rw [e,← List.append_assoc,List.take_left' (by rw [List.length_append];omega),List.drop_left' (by omega)]
noncomputable def A94 (n:Nat):Nat:=(64 - (n+8) % 64) % 64
theorem C1B (a:List Int) (ha:a.length≤1000000000000) (h:List Int) (hh:h.length=a.length+1) :
  (D8 a h).1=0∧(D8 a h).2.1=a∧((D8 a h).2.2.length+8) % 64=0∧(D8 a h).2.2.length≤a.length+64:=by
 refine itX_inv (v:=(a,h)) (fun (v:A0A)=>v.1=a∧v.2.length+A94 v.2.length≤a.length+64)
  (fun (x:U8)=>x.1=0∧x.2.1=a∧(x.2.2.length+8) % 64=0∧x.2.2.length≤a.length+64) (fun v=>A94 v.2.length) ?_ ⟨rfl,by simp only [A94];omega⟩ (by simp only [A94];omega)
 rintro ⟨a1,l⟩ ⟨h1,h4⟩
 simp only at h1 h4
 subst h1
 simp only [A94] at h4
 have e1:IntKind.wrap .i64 ((l.length:Int)+(8:Int))=((l.length+8:Nat):Int):=by rw [P9 _ (by omega) (by omega)];omega
 have t1:Int.tmod ((l.length+8:Nat):Int) 64=(((l.length+8) % 64:Nat):Int):=by rw [Int.tmod_eq_emod_of_nonneg (by omega)];omega
 by_cases hm:(l.length+8) % 64=0
 ·refine .inr ⟨(0,a1,l),?_,rfl,rfl,hm,by simp only;omega⟩
  simp only [Z2,e1,t1,hm];rfl
 ·refine .inl ⟨(a1,l++[0]),?_,⟨rfl,by simp only [A94,List.length_append,List.length_singleton];omega⟩,by simp only [A94,List.length_append,List.length_singleton];omega⟩
  have c1:((((l.length+8) % 64:Nat):Int) != (0:Int))=true:=by simp only [bne_iff_ne,ne_eq];omega
  simp only [Z2,e1,t1,c1,cond_true,List.length_singleton]
  rw [decide_eq_true (by simp only [MAXB];omega)];rfl
theorem C1C (n:Int) (h:List Int) (hh:h.length≤1000000000100) :
  (N2 n 7 h).1=0∧(N2 n 7 h).2.length=h.length+8:=by
 refine itX_inv (v:=(n,(7:Int),h)) (fun (v:A0B)=>v.1=n∧(-1≤v.2.1∧v.2.1≤7)∧(v.2.2.length:Int)=(h.length:Int)+(7 - v.2.1))
  (fun (x:U9)=>x.1=0∧x.2.length=h.length+8) (fun v=>(v.2.1+1).toNat) ?_ ⟨rfl,⟨by simp only;omega,by simp only;omega⟩,by simp only;omega⟩ (by simp only;decide)
 rintro ⟨n2,i,l⟩ ⟨h1,h4,h6⟩
 simp only at h1 h4 h6
 subst h1
 by_cases hi:0≤i
 ·have e0 : IntKind.wrap .u64 (8 * i) = 8 * i := by
   have:IntKind.wrap .u64 (8*i)=(8*i) % 18446744073709551616:=by simp [IntKind.wrap,IntKind.bits,IntKind.signed]
   rw [this];omega
  refine .inl ⟨(n2,i - 1,l++[IntKind.wrap .u8 (Int.fdiv n2 (2 ^ (min (Int.toNat (8*i)) (IntKind.bits .i64))))]),?_,⟨rfl,by simp only;omega,by simp only [List.length_append,List.length_singleton];omega⟩,by simp only;omega⟩
  simp only [Z3,P9 (8*i) (by omega) (by omega),e0,wrap64 (n:=i - 1) (by omega) (by omega),decide_eq_true (show i ≥ 0 from hi),cond_true,List.length_singleton]
  rw [decide_eq_true (by omega),decide_eq_true (by simp only [MAXB];omega)];rfl
 ·refine .inr ⟨(0,l),?_,rfl,by simp only;omega⟩
  simp only [Z3,decide_eq_false (show ¬ i ≥ 0 from hi),cond_false]
theorem B68 (a:List Int) (ha:a.length≤1000000000000):Y7 a=true∧(M9 a).length % 64=0∧0<(M9 a).length∧(M9 a).length≤a.length+72:=by
 obtain ⟨a1,a3,a6,a7⟩:=C1B a ha (a++[128]) (by simp)
 obtain ⟨b1,b4⟩:=C1C (IntKind.wrap .i64 ((8:Int)*(a.length:Int))) (D8 a (a++[128])).2.2 (by omega)
 have ei:W9 a=N2 (IntKind.wrap .i64 ((8:Int)*(a.length:Int))) 7 (D8 a (a++[128])).2.2:=by
  simp only [W9,D4,a3]
 refine ⟨?_,?_,?_,?_⟩
 ·have q1:D2 a=true:=decide_eq_true (by simp only [MAXB,List.length_nil];omega)
  simp only [Y7,q1,D4,a1,ei,b1,List.length_singleton,Bool.true_and,beq_self_eq_true,Bool.and_true]
  exact decide_eq_true (by simp only [MAXB];omega)
 ·simp only [M9,ei,b4];omega
 ·simp only [M9,ei,b4];omega
 ·simp only [M9,ei,b4];omega
theorem B3k (h:List Int):(E6 h).length=4*h.length:=by
 induction h with
 | nil=>rfl
 | cons x h ih=>simp only [E6,List.flatMap_cons,List.length_append,List.length_cons,List.length_nil] at ih ⊢;omega
theorem B8N (p:List Int):(B76 p).length=8:=by
 have key:∀ n,64*n≤p.length→((List.range n).foldl (fun h i=>(D6 ((p.drop (64*i)).take 64) h irounds).1) hinit).length=8:=by
  intro n
  induction n with
  | zero=>intro _;rfl
  | succ n ih =>
   intro hn
   rw [List.range_succ,List.foldl_append]
   exact (B13 _ _ (by simp only [List.length_take,List.length_drop];omega) (ih (by omega))).2.1
 exact key _ (by omega)
theorem B28 (s:ByteArray):okB (strInts s):=by
 intro c hc
 simp only [strInts,List.mem_map] at hc
 obtain ⟨x,_,rfl⟩:=hc
 have:=x.toNat_lt
 omega
theorem A5x (b:List Int) (hl:b.length≤1000000000000):P6 b=true∧(H6 b).size=32∧(A59 b).length=4∧okB (A59 b):=by
 obtain ⟨p1,p2,p3,p4⟩:=B68 b hl
 have hs:(H6 b).size=32:=by
  have:(H6 b).size=(E6 (B76 (M9 b))).length:=by
   show (((E6 _).map _).toArray).size=_
   simp
  rw [this,B3k,B8N]
 refine ⟨?_,hs,?_,B28 _⟩
 ·simp only [P6,p1,Bool.true_and,Bool.and_eq_true,decide_eq_true_eq];omega
 ·simp only [A59,A33,ByteArray.size_extract,hs];rfl
noncomputable def AllB (l:List Int):Prop:=∀ x∈l,0≤x∧x<256
theorem AllB.app {l m:List Int} (h:AllB l) (h2:AllB m):AllB (l++m):=fun x hx=>by
 rcases List.mem_append.1 hx with hx | hx
 ·exact h x hx
 ·exact h2 x hx
theorem B8k (a:List Int) (ha:a.length≤1000000000000) (hb:AllB a) (h:List Int) (hh:h.length=a.length+1) (hB:AllB h) :
  (D8 a h).1=0∧(D9 a h).1=0∧(D8 a h).2.1=a∧(D9 a h).2.1=a∧(D8 a h).2.2=(D9 a h).2.2∧((D9 a h).2.2.length+8) % 64=0∧(D9 a h).2.2.length≤a.length+64∧AllB (D9 a h).2.2:=by
 refine itX_sim (v:=(a,h)) (w:=(a,h)) (fun (v:A0A) (w:A18)=>v.1=a∧w.1=a∧v.2=w.2∧v.2.length+A94 v.2.length≤a.length+64∧AllB v.2)
  (fun (x:U8) (y:A0y)=>x.1=0∧y.1=0∧x.2.1=a∧y.2.1=a∧x.2.2=y.2.2∧(y.2.2.length+8) % 64=0∧y.2.2.length≤a.length+64∧AllB y.2.2) (fun v=>A94 v.2.length) ?_ ⟨rfl,rfl,rfl,by simp only [A94];omega,hB⟩ (by simp only [A94];omega)
 rintro ⟨a1,l⟩ ⟨a2,l2⟩ ⟨h1,h2,h3,h4,h5⟩
 simp only at h1 h2 h3 h4 h5
 subst h1;subst h2;subst h3
 simp only [A94] at h4
 have e1:IntKind.wrap .i64 ((l.length:Int)+(8:Int))=((l.length+8:Nat):Int):=by rw [P9 _ (by omega) (by omega)];omega
 have t1:Int.tmod ((l.length+8:Nat):Int) 64=(((l.length+8) % 64:Nat):Int):=by rw [Int.tmod_eq_emod_of_nonneg (by omega)];omega
 have t2:Int.tmod (l.length:Int) 64=((l.length % 64:Nat):Int):=by rw [Int.tmod_eq_emod_of_nonneg (by omega)];omega
 by_cases hm:(l.length+8) % 64=0
 ·refine .inr ⟨(0,a2,l),(0,a2,l),?_,?_,rfl,rfl,rfl,rfl,rfl,hm,by simp only;omega,h5⟩
  ·simp only [Z2,e1,t1,hm];rfl
  ·simp only [A2O,t2,show l.length % 64=56 by omega];rfl
 ·refine .inl ⟨(a2,l++[0]),(a2,l++[0]),?_,?_,⟨rfl,rfl,rfl,by simp only [A94,List.length_append,List.length_singleton];omega,h5.app (fun x hx=>by rw [List.mem_singleton.1 hx];exact ⟨by decide,by decide⟩)⟩,by simp only [A94,List.length_append,List.length_singleton];omega⟩
  ·have c1:((((l.length+8) % 64:Nat):Int) != (0:Int))=true:=by simp only [bne_iff_ne,ne_eq];omega
   simp only [Z2,e1,t1,c1,cond_true,List.length_singleton]
   rw [decide_eq_true (by simp only [MAXB];omega)];rfl
  ·have c1:(((l.length % 64:Nat):Int) != (56:Int))=true:=by simp only [bne_iff_ne,ne_eq];omega
   simp only [A2O,t2,c1,cond_true,List.length_singleton]
   rw [decide_eq_true (by simp only [MAXB];omega)];rfl
theorem w8B (n:Int):0≤IntKind.wrap .u8 n∧IntKind.wrap .u8 n<256:=by
 have:IntKind.wrap .u8 n=n % 256:=by simp [IntKind.wrap,IntKind.bits,IntKind.signed]
 rw [this];exact ⟨Int.emod_nonneg _ (by decide),Int.emod_lt_of_pos _ (by decide)⟩
theorem B8l (n:Int) (h:List Int) (hh:h.length≤1000000000100) (hB:AllB h) :
  (N2 n 7 h).1=0∧(R9 n 56 h).1=0∧(N2 n 7 h).2=(R9 n 56 h).2∧(R9 n 56 h).2.length=h.length+8∧AllB (R9 n 56 h).2:=by
 refine itX_sim (v:=(n,(7:Int),h)) (w:=(n,(56:Int),h)) (fun (v:A0B) (w:A19)=>v.1=n∧w.1=n∧v.2.2=w.2.2∧(-1≤v.2.1∧v.2.1≤7)∧w.2.1=8*v.2.1∧(v.2.2.length:Int)=(h.length:Int)+(7 - v.2.1)∧AllB v.2.2)
  (fun (x:U9) (y:A0z)=>x.1=0∧y.1=0∧x.2=y.2∧y.2.length=h.length+8∧AllB y.2) (fun v=>(v.2.1+1).toNat) ?_ ⟨rfl,rfl,rfl,⟨by simp only;omega,by simp only;omega⟩,by simp only;omega,by simp only;omega,hB⟩ (by simp only;decide)
 rintro ⟨n1,i,l⟩ ⟨n2,j,l2⟩ ⟨h1,h2,h3,h4,h5,h6,h7⟩
 simp only at h1 h2 h3 h4 h5 h6 h7
 subst h1;subst h2;subst h3;subst h5
 by_cases hi:0≤i
 ·have e0 : IntKind.wrap .u64 (8 * i) = 8 * i := by
   have:IntKind.wrap .u64 (8*i)=(8*i) % 18446744073709551616:=by simp [IntKind.wrap,IntKind.bits,IntKind.signed]
   rw [this];omega
  refine .inl ⟨(n2,i - 1,l++[IntKind.wrap .u8 (Int.fdiv n2 (2 ^ (min (Int.toNat (8*i)) (IntKind.bits .i64))))]),(n2,8*i - 8,l++[IntKind.wrap .u8 (Int.fdiv n2 (2 ^ (min (Int.toNat (8*i)) (IntKind.bits .i64))))]),?_,?_,⟨rfl,rfl,rfl,by simp only;omega,by simp only;omega,by simp only [List.length_append,List.length_singleton];omega,h7.app (fun x hx=>by rw [List.mem_singleton.1 hx];exact w8B _)⟩,by simp only;omega⟩
  ·simp only [Z3,P9 (8*i) (by omega) (by omega),e0,wrap64 (n:=i - 1) (by omega) (by omega),decide_eq_true (show i ≥ 0 from hi),cond_true,List.length_singleton]
   rw [decide_eq_true (by omega),decide_eq_true (by simp only [MAXB];omega)];rfl
  ·simp only [A2P,e0,wrap64 (n:=8*i - 8) (by omega) (by omega),decide_eq_true (show 8*i ≥ 0 by omega),cond_true,List.length_singleton]
   rw [decide_eq_true (show _≤_ from by simp only [MAXB];omega)];rfl
 ·refine .inr ⟨(0,l),(0,l),?_,?_,rfl,rfl,rfl,by simp only;omega,h7⟩
  ·simp only [Z3,decide_eq_false (show ¬ i ≥ 0 from hi),cond_false]
  ·simp only [A2P,decide_eq_false (show ¬ 8*i ≥ 0 by omega),cond_false]
theorem B6h (a:List Int) (ha:a.length≤1000000000000) (hb:AllB a):Y7 a=true∧A1z a=true∧M9 a=F6 a∧(F6 a).length % 64=0∧0<(F6 a).length∧(F6 a).length≤a.length+72∧AllB (F6 a):=by
 have h128:AllB (a++[128]):=hb.app (fun x hx=>by rw [List.mem_singleton.1 hx];exact ⟨by decide,by decide⟩)
 obtain ⟨a1,a2,a3,a4,a5,a6,a7,a8⟩:=B8k a ha hb (a++[128]) (by simp) h128
 obtain ⟨b1,b2,b3,b4,b5⟩:=B8l (IntKind.wrap .i64 ((8:Int)*(a.length:Int))) (D9 a (a++[128])).2.2 (by omega) a8
 have ei:W9 a=N2 (IntKind.wrap .i64 ((8:Int)*(a.length:Int))) 7 (D9 a (a++[128])).2.2:=by
  simp only [W9,D4,a3,a5]
 have es:A1s a=R9 (IntKind.wrap .i64 ((8:Int)*(a.length:Int))) 56 (D9 a (a++[128])).2.2:=by
  simp only [A1s,List.nil_append,a4,Int.mul_comm]
 have e1:M9 a=F6 a:=by simp only [M9,F6,ei,es,b3]
 refine ⟨?_,?_,e1,?_,?_,?_,?_⟩
 ·have q1:D2 a=true:=decide_eq_true (by simp only [MAXB,List.length_nil];omega)
  simp only [Y7,q1,D4,a1,ei,b1,List.length_singleton,Bool.true_and,beq_self_eq_true,Bool.and_true]
  exact decide_eq_true (by simp only [MAXB];omega)
 ·simp only [A1z,List.nil_append,a2,es,b2,List.length_singleton,List.length_nil,List.length_append,beq_self_eq_true,Bool.and_true,Bool.and_eq_true,decide_eq_true_eq,MAXB]
  exact ⟨decide_eq_true (by omega),decide_eq_true (by omega)⟩
 ·simp only [F6,es,b4];omega
 ·simp only [F6,es,b4];omega
 ·simp only [F6,es,b4];omega
 ·simp only [F6,es];exact b5
noncomputable def A3s (p:List Int) (n:Nat):List Int:=(List.range n).foldl (fun h i=>A1e h ((p.drop (64*i)).take 64) A6t) hinit
noncomputable def Wd (x:Int):Prop:=0≤x∧x<4294967296
noncomputable def AllW (l:List Int):Prop:=∀ x∈l,Wd x
theorem C0m:AllW hinit:=by
 intro x hx
 have:hinit.all (fun x=>decide (0≤x∧x<4294967296))=true:=by decide
 exact of_decide_eq_true (p:=0≤x∧x<4294967296) (List.all_eq_true.1 this x hx)
theorem w32 (n:Int):IntKind.wrap .u32 n=n % 4294967296:=by simp [IntKind.wrap,IntKind.bits,IntKind.signed]
theorem B8u {n:Nat} (h:n<4294967296):IntKind.wrap .u32 (n:Int)=(n:Int):=by rw [w32];omega
theorem B7v {n:Nat} (h:n<9223372036854775808):IntKind.wrap .i64 (n:Int)=(n:Int):=wrap64 (by omega) (by omega)
theorem B7f {n:Nat} (h:n<4294967296):Wd (n:Int):=⟨by omega,by omega⟩
theorem B8C {x:Int} (h:0≤x∧x<256) (k:Nat) (hk:k≤24):IntKind.wrap .u32 (IntKind.wrap .u32 x*2 ^ k)=IntKind.wrap .i64 (IntKind.wrap .i64 x*2 ^ k)∧Wd (IntKind.wrap .u32 (IntKind.wrap .u32 x*2 ^ k)):=by
 obtain ⟨a,rfl⟩:∃ a:Nat,x=(a:Int):=⟨x.toNat,by omega⟩
 have hp:2 ^ k≤2 ^ 24:=Nat.pow_le_pow_right (by decide) hk
 have h1:a*2 ^ k<4294967296:=by
  calc a*2 ^ k≤a*2 ^ 24:=Nat.mul_le_mul_left _ hp
   _<4294967296:=by omega
 have e1:(a:Int)*2 ^ k=((a*2 ^ k:Nat):Int):=by push_cast;rfl
 rw [B8u (n:=a) (by omega),B7v (n:=a) (by omega),e1,B8u h1,B7v (by omega)]
 exact ⟨rfl,B7f h1⟩
theorem C1v {x:Int} (h:0≤x∧x<256):IntKind.wrap .u32 x=IntKind.wrap .i64 x∧Wd (IntKind.wrap .u32 x):=by
 obtain ⟨a,rfl⟩:∃ a:Nat,x=(a:Int):=⟨x.toNat,by omega⟩
 rw [B8u (n:=a) (by omega),B7v (n:=a) (by omega)]
 exact ⟨rfl,B7f (by omega)⟩
theorem bvn {k x:Nat} (h:x<2 ^ k):(BitVec.ofInt k (x:Int)).toNat=x:=by
 rw [BitVec.ofInt_natCast,BitVec.toNat_ofNat,Nat.mod_eq_of_lt h]
theorem C11 {x y:Nat} (hx:x<4294967296) (hy:y<4294967296):ior .u32 (x:Int) (y:Int)=((x ||| y:Nat):Int):=by
 unfold ior
 rw [BitVec.toNat_or,show IntKind.bits .u32=32 from rfl,bvn (k:=32) hx,bvn (k:=32) hy]
 exact B8u (Nat.or_lt_two_pow (n:=32) hx hy)
theorem C12 {x y:Nat} (hx:x<9223372036854775808) (hy:y<9223372036854775808):ior .i64 (x:Int) (y:Int)=((x ||| y:Nat):Int):=by
 unfold ior
 rw [BitVec.toNat_or,show IntKind.bits .i64=64 from rfl,bvn (k:=64) (by omega),bvn (k:=64) (by omega)]
 exact B7v (Nat.or_lt_two_pow (n:=63) hx hy)
theorem Wd.nat {x:Int} (h:Wd x):∃ n:Nat,x=(n:Int)∧n<4294967296:=⟨x.toNat,by have:=h.1;omega,by have:=h.1;have:=h.2;omega⟩
theorem orS {x y:Int} (hx:Wd x) (hy:Wd y):ior .u32 x y=ior .i64 x y∧Wd (ior .u32 x y):=by
 obtain ⟨a,rfl,ha⟩:=hx.nat
 obtain ⟨b,rfl,hb⟩:=hy.nat
 rw [C11 ha hb,C12 (by omega) (by omega)]
 exact ⟨rfl,B7f (Nat.or_lt_two_pow (n:=32) ha hb)⟩
theorem B9Y {a b c d:Int} (ha:0≤a∧a<256) (hb:0≤b∧b<256) (hc:0≤c∧c<256) (hd:0≤d∧d<256) :
  ior .u32 (ior .u32 (ior .u32 (IntKind.wrap .u32 (IntKind.wrap .u32 a*2 ^ (24))) (IntKind.wrap .u32 (IntKind.wrap .u32 b*2 ^ (16)))) (IntKind.wrap .u32 (IntKind.wrap .u32 c*2 ^ (8)))) (IntKind.wrap .u32 d) =
  ior .i64 (ior .i64 (ior .i64 (IntKind.wrap .i64 (IntKind.wrap .i64 a*2 ^ (24))) (IntKind.wrap .i64 (IntKind.wrap .i64 b*2 ^ (16)))) (IntKind.wrap .i64 (IntKind.wrap .i64 c*2 ^ (8)))) (IntKind.wrap .i64 d) ∧
  Wd (ior .u32 (ior .u32 (ior .u32 (IntKind.wrap .u32 (IntKind.wrap .u32 a*2 ^ (24))) (IntKind.wrap .u32 (IntKind.wrap .u32 b*2 ^ (16)))) (IntKind.wrap .u32 (IntKind.wrap .u32 c*2 ^ (8)))) (IntKind.wrap .u32 d)):=by
 obtain ⟨a1,a2⟩:=B8C ha 24 (by decide)
 obtain ⟨b1,b2⟩:=B8C hb 16 (by decide)
 obtain ⟨c1,c2⟩:=B8C hc 8 (by decide)
 obtain ⟨d1,d2⟩:=C1v hd
 rw [← a1,← b1,← c1,← d1]
 obtain ⟨e1,e2⟩:=orS a2 b2
 rw [← e1]
 obtain ⟨f1,f2⟩:=orS e2 c2
 rw [← f1]
 obtain ⟨g1,g2⟩:=orS f2 d2
 exact ⟨g1,g2⟩
theorem B6z {l:List Int} {k:Nat} (x:Int) (hk:0<k):(l++List.replicate k 0).set l.length x=(l++[x])++List.replicate (k - 1) 0:=by
 obtain ⟨j,rfl⟩:∃ j,k=j+1:=⟨k - 1,by omega⟩
 rw [List.set_append_right _ _ (Nat.le_refl _),Nat.sub_self,List.replicate_succ]
 simp
theorem AllB.at {l:List Int} (h:AllB l) {i:Nat} (hi:i<l.length):0≤l.getD i 0∧l.getD i 0<256:=by
 rw [List.getD_eq_getElem?_getD,List.getElem?_eq_getElem hi];exact h _ (List.getElem_mem hi)
theorem AllW.at {l:List Int} (h:AllW l) (i:Nat):Wd (l.getD i 0):=by
 rcases Nat.lt_or_ge i l.length with hi | hi
 ·rw [List.getD_eq_getElem?_getD,List.getElem?_eq_getElem hi];exact h _ (List.getElem_mem hi)
 ·rw [List.getD_eq_getElem?_getD,List.getElem?_eq_none hi];exact ⟨by decide,by decide⟩
theorem AllW.snoc {l:List Int} (h:AllW l) {x:Int} (hx:Wd x):AllW (l++[x]):=fun y hy=>by
 rcases List.mem_append.1 hy with hy | hy
 ·exact h y hy
 ·rw [List.mem_singleton.1 hy];exact hx
theorem B6D (c:List Int) (hc:c.length=64) (hb:AllB c):(K0 c 0 []).1=0∧(O0 c 0 (List.replicate 64 0)).2=(K0 c 0 []).2++List.replicate 48 0∧(K0 c 0 []).2.length=16∧AllW (K0 c 0 []).2:=by
 refine itX_sim (v:=(c,(0:Int),List.replicate 64 (0:Int))) (w:=(c,(0:Int),([]:List Int)))
  (fun (v:R4) (w:A0W)=>v.1=c∧w.1=c∧v.2.1=w.2.1∧(0≤v.2.1∧v.2.1≤16)∧v.2.1=(w.2.2.length:Int)∧v.2.2=w.2.2++List.replicate (64 - w.2.2.length) 0∧AllW w.2.2)
  (fun (a:Q7) (b:Y0)=>b.1=0∧a.2=b.2++List.replicate 48 0∧b.2.length=16∧AllW b.2) (fun v=>(16 - v.2.1).toNat) ?_ ⟨rfl,rfl,rfl,⟨by simp only;omega,by simp only;omega⟩,rfl,rfl,fun x hx=>by simp at hx⟩ (by simp only;decide)
 rintro ⟨c1,i,l⟩ ⟨c2,j,ws⟩ ⟨h1,h2,h3,h4,h5,h6,h7⟩
 simp only at h1 h2 h3 h4 h5 h6 h7
 subst h1;subst h2;subst h3
 by_cases hi:i<16
 ·obtain ⟨n,rfl⟩:∃ n:Nat,i=(n:Int):=⟨ws.length,h5⟩
  have hn:n=ws.length:=by omega
  obtain ⟨e,ew⟩:=B9Y (hb.at (i:=4*n) (by omega)) (hb.at (i:=4*n+1) (by omega)) (hb.at (i:=4*n+2) (by omega)) (hb.at (i:=4*n+3) (by omega))
  refine .inl ⟨(c2,(n:Int)+1,(ws++[_])++List.replicate (64 - ws.length - 1) 0),(c2,(n:Int)+1,ws++[_]),?_,?_,⟨rfl,rfl,rfl,by simp only;omega,by simp only [List.length_append,List.length_singleton];omega,by simp only [List.length_append,List.length_singleton];rw [Nat.sub_sub],h7.snoc ew⟩,by simp only;omega⟩
  ·simp only [O6,P9 (4*(n:Int)) (by omega) (by omega),P9 (4*(n:Int)+1) (by omega) (by omega),P9 (4*(n:Int)+2) (by omega) (by omega),P9 (4*(n:Int)+3) (by omega) (by omega),P9 ((n:Int)+1) (by omega) (by omega),decide_eq_true hi,cond_true]
   rw [decide_eq_true (by omega),decide_eq_true (by omega),decide_eq_true (by omega),decide_eq_true (by omega),decide_eq_true (by rw [h6];simp only [List.length_append,List.length_replicate];omega)]
   simp only [cond_true]
   rw [h6,show ((n:Int)).toNat=ws.length by omega,B6z _ (by omega)]
   rw [show (4*(n:Int)).toNat=4*n by omega,show (4*(n:Int)+1).toNat=4*n+1 by omega,show (4*(n:Int)+2).toNat=4*n+2 by omega,show (4*(n:Int)+3).toNat=4*n+3 by omega]
  ·simp only [A1T,P9 (4*(n:Int)) (by omega) (by omega),P9 (4*(n:Int)+1) (by omega) (by omega),P9 (4*(n:Int)+2) (by omega) (by omega),P9 (4*(n:Int)+3) (by omega) (by omega),P9 ((n:Int)+1) (by omega) (by omega),decide_eq_true hi,cond_true,List.length_singleton]
   rw [decide_eq_true (by omega),decide_eq_true (by omega),decide_eq_true (by omega),decide_eq_true (by omega),decide_eq_true (by simp only [MAXB];omega)]
   simp only [cond_true]
   rw [show (4*(n:Int)).toNat=4*n by omega,show (4*(n:Int)+1).toNat=4*n+1 by omega,show (4*(n:Int)+2).toNat=4*n+2 by omega,show (4*(n:Int)+3).toNat=4*n+3 by omega]
   rw [← e]
 ·have hl:ws.length=16:=by omega
  refine .inr ⟨(0,l),(0,ws),?_,?_,rfl,?_,hl,h7⟩
  ·simp only [O6,decide_eq_false hi,cond_false]
  ·simp only [A1T,decide_eq_false hi,cond_false]
  ·rw [h6,hl]
theorem B9Z {x y:Nat} (hx:x<9223372036854775808) (hy:y<9223372036854775808):iand .i64 (x:Int) (y:Int)=((x &&& y:Nat):Int):=by
 unfold iand
 rw [BitVec.toNat_and,show IntKind.bits .i64=64 from rfl,bvn (k:=64) (by omega),bvn (k:=64) (by omega)]
 exact B7v (Nat.and_lt_two_pow (n:=63) x hy)
theorem A9U {n:Int} (h0:0≤n) (h1:n<9223372036854775808):iand .i64 n (4294967295:Int)=n % 4294967296:=by
 obtain ⟨a,rfl⟩:∃ a:Nat,n=(a:Int):=⟨n.toNat,by omega⟩
 have:=B9Z (x:=a) (y:=4294967295) (by omega) (by omega)
 rw [show ((4294967295:Nat):Int)=(4294967295:Int) from rfl] at this
 rw [this,show a &&& 4294967295=a % 4294967296 from Nat.and_two_pow_sub_one_eq_mod a 32]
 omega
theorem B9R {x:Int} (hx:Wd x) (r s:Nat) (hs:s<32) :
  ior .u32 (IntKind.wrap .u32 (x*2 ^ s)) (Int.fdiv x (2 ^ r))=iand .i64 (ior .i64 (Int.fdiv x (2 ^ r)) (IntKind.wrap .i64 (x*2 ^ s))) (4294967295:Int)∧Wd (ior .u32 (IntKind.wrap .u32 (x*2 ^ s)) (Int.fdiv x (2 ^ r))):=by
 obtain ⟨a,rfl,ha⟩:=hx.nat
 have e1:(a:Int)*2 ^ s=((a*2 ^ s:Nat):Int):=by push_cast;rfl
 have e2:Int.fdiv (a:Int) (2 ^ r)=((a / 2 ^ r:Nat):Int):=by
  have:((2:Int) ^ r)=((2 ^ r:Nat):Int):=by push_cast;rfl
  rw [this];exact (Int.ofNat_fdiv a (2 ^ r)).symm
 have hp:2 ^ s≤2 ^ 31:=Nat.pow_le_pow_right (by decide) (by omega)
 have h1:a*2 ^ s<9223372036854775808:=by
  calc a*2 ^ s≤a*2 ^ 31:=Nat.mul_le_mul_left _ hp
   _<9223372036854775808:=by omega
 have h2:a / 2 ^ r<4294967296:=Nat.lt_of_le_of_lt (Nat.div_le_self _ _) ha
 have h3:(a*2 ^ s) % 4294967296<4294967296:=Nat.mod_lt _ (by decide)
 have e3:((a*2 ^ s:Nat):Int) % 4294967296=(((a*2 ^ s) % 4294967296:Nat):Int):=by omega
 rw [e1,e2,w32,e3,C11 h3 h2,B7v h1,C12 (by omega) h1]
 refine ⟨?_,B7f (Nat.or_lt_two_pow (n:=32) h3 h2)⟩
 have h4:(a / 2 ^ r ||| a*2 ^ s)<9223372036854775808:=Nat.or_lt_two_pow (n:=63) (by omega) h1
 rw [A9U (by omega) (by omega)]
 have h5:(a / 2 ^ r ||| a*2 ^ s) % 4294967296=(a*2 ^ s) % 4294967296 ||| a / 2 ^ r:=by
  rw [show (4294967296:Nat)=2 ^ 32 from rfl,Nat.or_mod_two_pow,Nat.mod_eq_of_lt (a:=a / 2 ^ r) (b:=2 ^ 32) h2,Nat.or_comm]
 rw [← h5];omega
theorem A4n {x:Int} (hx:Wd x) (r:Nat) (s:Nat) (hs:s<32) (k:Int) (h1:min (Int.toNat (iand .u64 (IntKind.wrap .u64 k) (31:Int))) (IntKind.bits .u32)=s) (h2:min (Int.toNat (IntKind.wrap .u64 ((32:Int) - (iand .u64 (IntKind.wrap .u64 k) (31:Int))))) (IntKind.bits .u32)=r)
  (h3:min (Int.toNat (IntKind.wrap .u64 (r:Int))) (IntKind.bits .i64)=r) (h4:min (Int.toNat (IntKind.wrap .u64 (IntKind.wrap .i64 ((32:Int) - (r:Int))))) (IntKind.bits .i64)=s) :
  A3 x k=B3 x (r:Int)∧Wd (A3 x k):=by
 simp only [A3,B3,h1,h2,h3,h4]
 exact B9R hx r s hs
theorem C2H {x:Int} (hx:Wd x):A3 x (-7)=B3 x 7∧Wd (A3 x (-7)):=A4n hx 7 25 (by decide) (-7) (by decide) (by decide) (by decide) (by decide)
theorem C18 {x:Int} (hx:Wd x):A3 x (-18)=B3 x 18∧Wd (A3 x (-18)):=A4n hx 18 14 (by decide) (-18) (by decide) (by decide) (by decide) (by decide)
theorem C17 {x:Int} (hx:Wd x):A3 x (-17)=B3 x 17∧Wd (A3 x (-17)):=A4n hx 17 15 (by decide) (-17) (by decide) (by decide) (by decide) (by decide)
theorem C19 {x:Int} (hx:Wd x):A3 x (-19)=B3 x 19∧Wd (A3 x (-19)):=A4n hx 19 13 (by decide) (-19) (by decide) (by decide) (by decide) (by decide)
theorem C2g {x y:Nat} (hx:x<4294967296) (hy:y<4294967296):ixor .u32 (x:Int) (y:Int)=((x ^^^ y:Nat):Int):=by
 unfold ixor
 rw [BitVec.toNat_xor,show IntKind.bits .u32=32 from rfl,bvn (k:=32) hx,bvn (k:=32) hy]
 exact B8u (Nat.xor_lt_two_pow (n:=32) hx hy)
theorem C2h {x y:Nat} (hx:x<9223372036854775808) (hy:y<9223372036854775808):ixor .i64 (x:Int) (y:Int)=((x ^^^ y:Nat):Int):=by
 unfold ixor
 rw [BitVec.toNat_xor,show IntKind.bits .i64=64 from rfl,bvn (k:=64) (by omega),bvn (k:=64) (by omega)]
 exact B7v (Nat.xor_lt_two_pow (n:=63) hx hy)
theorem B1W {x y:Int} (hx:Wd x) (hy:Wd y):ixor .u32 x y=ixor .i64 x y∧Wd (ixor .u32 x y):=by
 obtain ⟨a,rfl,ha⟩:=hx.nat
 obtain ⟨b,rfl,hb⟩:=hy.nat
 rw [C2g ha hb,C2h (by omega) (by omega)]
 exact ⟨rfl,B7f (Nat.xor_lt_two_pow (n:=32) ha hb)⟩
theorem C2c {x:Int} (hx:Wd x) (k:Nat):Wd (Int.fdiv x (2 ^ k)):=by
 obtain ⟨a,rfl,ha⟩:=hx.nat
 have:((2:Int) ^ k)=((2 ^ k:Nat):Int):=by push_cast;rfl
 rw [this,← Int.ofNat_fdiv a (2 ^ k)]
 exact B7f (Nat.lt_of_le_of_lt (Nat.div_le_self _ _) ha)
theorem C2K {a b c d:Int} (ha:Wd a) (hb:Wd b) (hc:Wd c) (hd:Wd d):IntKind.wrap .u32 (IntKind.wrap .u32 (IntKind.wrap .u32 (a+b)+c)+d)=iand .i64 (IntKind.wrap .i64 (IntKind.wrap .i64 (IntKind.wrap .i64 (a+b)+c)+d)) (4294967295:Int):=by
 obtain ⟨a0,a1⟩:=ha
 obtain ⟨b0,b1⟩:=hb
 obtain ⟨c0,c1⟩:=hc
 obtain ⟨d0,d1⟩:=hd
 rw [wrap64 (n:=a+b) (by omega) (by omega),wrap64 (n:=a+b+c) (by omega) (by omega),wrap64 (n:=a+b+c+d) (by omega) (by omega),A9U (by omega) (by omega),w32,w32,w32]
 omega
theorem B9X (n:Int):Wd (IntKind.wrap .u32 n):=by rw [w32];exact ⟨Int.emod_nonneg _ (by decide),Int.emod_lt_of_pos _ (by decide)⟩
theorem A7T {l m:List Int} {i:Nat} (h:i<l.length):(l++m).getD i 0=l.getD i 0:=by
 rw [List.getD_eq_getElem?_getD,List.getElem?_append_left h,List.getD_eq_getElem?_getD]
theorem qturn (x k:Int):B0 x k=true:=by
 simp only [B0,Bool.and_eq_true,decide_eq_true_eq]
 exact ⟨A2S _,A2S _⟩
theorem B6E (ws:List Int) (hl:ws.length=16) (hw:AllW ws):(K1 16 ws).1=0∧(O1 16 (ws++List.replicate 48 0)).2=(K1 16 ws).2∧(K1 16 ws).2.length=64∧AllW (K1 16 ws).2:=by
 refine itX_sim (v:=((16:Int),ws++List.replicate 48 (0:Int))) (w:=((16:Int),ws))
  (fun (v:R5) (w:A0X)=>v.1=w.1∧(16≤v.1∧v.1≤64)∧v.1=(w.2.length:Int)∧v.2=w.2++List.replicate (64 - w.2.length) 0∧AllW w.2)
  (fun (a:Q8) (b:Y1)=>b.1=0∧a.2=b.2∧b.2.length=64∧AllW b.2) (fun v=>(64 - v.1).toNat) ?_ ⟨rfl,⟨by simp only;omega,by simp only;omega⟩,by simp only;omega,by simp only [hl],hw⟩ (by simp only;decide)
 rintro ⟨i,l⟩ ⟨j,ws⟩ ⟨h3,h4,h5,h6,h7⟩
 simp only at h3 h4 h5 h6 h7
 subst h3
 by_cases hi:i<64
 ·obtain ⟨n,rfl⟩:∃ n:Nat,i=(n:Int):=⟨ws.length,h5⟩
  have hn:n=ws.length:=by omega
  have x1:=h7.at (n - 15)
  have x2:=h7.at (n - 2)
  have x3:=h7.at (n - 16)
  have x4:=h7.at (n - 7)
  obtain ⟨r1,r1w⟩:=C2H x1
  obtain ⟨r2,r2w⟩:=C18 x1
  obtain ⟨r3,r3w⟩:=C17 x2
  obtain ⟨r4,r4w⟩:=C19 x2
  obtain ⟨s1,s1w⟩:=B1W r1w r2w
  obtain ⟨s2,s2w⟩:=B1W s1w (C2c x1 3)
  obtain ⟨t1,t1w⟩:=B1W r3w r4w
  obtain ⟨t2,t2w⟩:=B1W t1w (C2c x2 10)
  have e:=C2K x3 s2w x4 t2w
  have ew:=B9X (IntKind.wrap .u32 (IntKind.wrap .u32 (ws.getD (n - 16) 0+ixor .u32 (ixor .u32 (A3 (ws.getD (n - 15) 0) (-7)) (A3 (ws.getD (n - 15) 0) (-18))) (Int.fdiv (ws.getD (n - 15) 0) (2 ^ 3)))+ws.getD (n - 7) 0)+ixor .u32 (ixor .u32 (A3 (ws.getD (n - 2) 0) (-17)) (A3 (ws.getD (n - 2) 0) (-19))) (Int.fdiv (ws.getD (n - 2) 0) (2 ^ 10)))
  refine .inl ⟨((n:Int)+1,(ws++[_])++List.replicate (64 - ws.length - 1) 0),((n:Int)+1,ws++[_]),?_,?_,⟨rfl,by simp only;omega,by simp only [List.length_append,List.length_singleton];omega,by simp only [List.length_append,List.length_singleton];rw [Nat.sub_sub],h7.snoc ew⟩,by simp only;omega⟩
  ·simp only [O7,P9 ((n:Int) - 15) (by omega) (by omega),P9 ((n:Int) - 2) (by omega) (by omega),P9 ((n:Int) - 16) (by omega) (by omega),P9 ((n:Int) - 7) (by omega) (by omega),P9 ((n:Int)+1) (by omega) (by omega),decide_eq_true hi,cond_true,A3W,A3X,A3Y,A3Z]
   have hll:l.length=64:=by rw [h6];simp only [List.length_append,List.length_replicate];omega
   rw [decide_eq_true (by omega),decide_eq_true (by omega),decide_eq_true (by omega),decide_eq_true (by omega),decide_eq_true (by omega)]
   simp only [cond_true]
   rw [h6,show ((n:Int)).toNat=ws.length by omega,B6z _ (by omega)]
   rw [show ((n:Int) - 15).toNat=n - 15 by omega,show ((n:Int) - 2).toNat=n - 2 by omega,show ((n:Int) - 16).toNat=n - 16 by omega,show ((n:Int) - 7).toNat=n - 7 by omega]
   rw [A7T (i:=n - 15) (by omega),A7T (i:=n - 2) (by omega),A7T (i:=n - 16) (by omega),A7T (i:=n - 7) (by omega)]
  ·simp only [A1U,P9 ((n:Int) - 15) (by omega) (by omega),P9 ((n:Int) - 2) (by omega) (by omega),P9 ((n:Int) - 16) (by omega) (by omega),P9 ((n:Int) - 7) (by omega) (by omega),P9 ((n:Int)+1) (by omega) (by omega),decide_eq_true hi,cond_true,qturn,List.length_singleton]
   rw [decide_eq_true (by omega),decide_eq_true (by omega),decide_eq_true (by omega),decide_eq_true (by omega),decide_eq_true (by simp only [MAXB];omega)]
   simp only [cond_true]
   rw [show ((n:Int) - 15).toNat=n - 15 by omega,show ((n:Int) - 2).toNat=n - 2 by omega,show ((n:Int) - 16).toNat=n - 16 by omega,show ((n:Int) - 7).toNat=n - 7 by omega]
   rw [e,s2,s1,t2,t1,r1,r2,r3,r4]
 ·have hl:ws.length=64:=by omega
  refine .inr ⟨(0,l),(0,ws),?_,?_,rfl,?_,hl,h7⟩
  ·simp only [O7,decide_eq_false hi,cond_false]
  ·simp only [A1U,decide_eq_false hi,cond_false]
  ·simp only [h6,hl,Nat.sub_self,List.replicate_zero,List.append_nil]
theorem B36 (c:List Int) (hc:c.length=64) (hb:AllB c):A3w c=F1 c∧A0u c=true∧(F1 c).length=64∧AllW (F1 c):=by
 obtain ⟨a1,a2,a3,a4⟩:=B6D c hc hb
 obtain ⟨b1,b2,b3,b4⟩:=B6E _ a3 a4
 refine ⟨?_,?_,b3,b4⟩
 ·simp only [A3w,a2,b2];rfl
 ·simp only [A0u,a1,b1];rfl
theorem eight {v:List Int} (h:v.length=8):∃ a b c d e f g i,v=[a,b,c,d,e,f,g,i]:=by
 match v,h with
 | [a,b,c,d,e,f,g,i],_=>exact ⟨a,b,c,d,e,f,g,i,rfl⟩
theorem C2G {x:Int} (hx:Wd x):A3 x (-6)=B3 x 6∧Wd (A3 x (-6)):=A4n hx 6 26 (by decide) (-6) (by decide) (by decide) (by decide) (by decide)
theorem C15 {x:Int} (hx:Wd x):A3 x (-11)=B3 x 11∧Wd (A3 x (-11)):=A4n hx 11 21 (by decide) (-11) (by decide) (by decide) (by decide) (by decide)
theorem C2b {x:Int} (hx:Wd x):A3 x (-25)=B3 x 25∧Wd (A3 x (-25)):=A4n hx 25 7 (by decide) (-25) (by decide) (by decide) (by decide) (by decide)
theorem C1t {x y:Nat} (hx:x<4294967296) (hy:y<4294967296):iand .u32 (x:Int) (y:Int)=((x &&& y:Nat):Int):=by
 unfold iand
 rw [BitVec.toNat_and,show IntKind.bits .u32=32 from rfl,bvn (k:=32) hx,bvn (k:=32) hy]
 exact B8u (Nat.and_lt_two_pow (n:=32) x hy)
theorem B8B {x y:Int} (hx:Wd x) (hy:Wd y):iand .u32 x y=iand .i64 x y∧Wd (iand .u32 x y):=by
 obtain ⟨a,rfl,ha⟩:=hx.nat
 obtain ⟨b,rfl,hb⟩:=hy.nat
 rw [C1t ha hb,B9Z (by omega) (by omega)]
 exact ⟨rfl,B7f (Nat.and_lt_two_pow (n:=32) a hb)⟩
theorem C2F {x:Int} (hx:Wd x):A3 x (-2)=B3 x 2∧Wd (A3 x (-2)):=A4n hx 2 30 (by decide) (-2) (by decide) (by decide) (by decide) (by decide)
theorem C16 {x:Int} (hx:Wd x):A3 x (-13)=B3 x 13∧Wd (A3 x (-13)):=A4n hx 13 19 (by decide) (-13) (by decide) (by decide) (by decide) (by decide)
theorem C2a {x:Int} (hx:Wd x):A3 x (-22)=B3 x 22∧Wd (A3 x (-22)):=A4n hx 22 10 (by decide) (-22) (by decide) (by decide) (by decide) (by decide)
noncomputable def T32 (a b c d e:Int):Int:=IntKind.wrap .u32 (IntKind.wrap .u32 (IntKind.wrap .u32 (IntKind.wrap .u32 (a+b)+c)+d)+e)
noncomputable def T64 (a b c d e:Int):Int:=IntKind.wrap .i64 (IntKind.wrap .i64 (IntKind.wrap .i64 (IntKind.wrap .i64 (a+b)+c)+d)+e)
theorem C1r {a b c d e:Int} (ha:Wd a) (hb:Wd b) (hc:Wd c) (hd:Wd d) (he:Wd e):T64 a b c d e=a+b+c+d+e∧T32 a b c d e=(a+b+c+d+e) % 4294967296:=by
 obtain ⟨a0,a1⟩:=ha
 obtain ⟨b0,b1⟩:=hb
 obtain ⟨c0,c1⟩:=hc
 obtain ⟨d0,d1⟩:=hd
 obtain ⟨e0,e1⟩:=he
 simp only [T64,T32]
 rw [wrap64 (n:=a+b) (by omega) (by omega),wrap64 (n:=a+b+c) (by omega) (by omega),wrap64 (n:=a+b+c+d) (by omega) (by omega),wrap64 (n:=a+b+c+d+e) (by omega) (by omega),w32,w32,w32,w32]
 exact ⟨rfl,by omega⟩
theorem C2L {a b c d e s m:Int} (ha:Wd a) (hb:Wd b) (hc:Wd c) (hd:Wd d) (he:Wd e) (hs:Wd s) (hm:Wd m):IntKind.wrap .u32 (IntKind.wrap .u32 (T32 a b c d e+s)+m)=iand .i64 (IntKind.wrap .i64 (T64 a b c d e+IntKind.wrap .i64 (s+m))) (4294967295:Int):=by
 obtain ⟨t1,t2⟩:=C1r ha hb hc hd he
 rw [t1,t2]
 obtain ⟨a0,a1⟩:=ha
 obtain ⟨b0,b1⟩:=hb
 obtain ⟨c0,c1⟩:=hc
 obtain ⟨d0,d1⟩:=hd
 obtain ⟨e0,e1⟩:=he
 obtain ⟨s0,s1⟩:=hs
 obtain ⟨m0,m1⟩:=hm
 rw [wrap64 (n:=s+m) (by omega) (by omega),wrap64 (by omega) (by omega),A9U (by omega) (by omega),w32,w32]
 omega
theorem C2M {a b c d e v:Int} (ha:Wd a) (hb:Wd b) (hc:Wd c) (hd:Wd d) (he:Wd e) (hv:Wd v):IntKind.wrap .u32 (v+T32 a b c d e)=iand .i64 (IntKind.wrap .i64 (v+T64 a b c d e)) (4294967295:Int):=by
 obtain ⟨t1,t2⟩:=C1r ha hb hc hd he
 rw [t1,t2]
 obtain ⟨a0,a1⟩:=ha
 obtain ⟨b0,b1⟩:=hb
 obtain ⟨c0,c1⟩:=hc
 obtain ⟨d0,d1⟩:=hd
 obtain ⟨e0,e1⟩:=he
 obtain ⟨v0,v1⟩:=hv
 rw [wrap64 (by omega) (by omega),A9U (by omega) (by omega),w32]
 omega
theorem B7d (h k ws v:List Int) (hk:k.length=64) (hkW:AllW k) (hw:ws.length=64) (hwW:AllW ws) (hv:v.length=8) (hvW:AllW v):(C5 h k ws 0 v).1=0∧(C5 h k ws 0 v).2.1=h∧(B5 0 h k ws v).2.2.2=(C5 h k ws 0 v).2.2∧(C5 h k ws 0 v).2.2.length=8∧AllW (C5 h k ws 0 v).2.2:=by
 refine itX_sim (v:=((0:Int),h,k,ws,v)) (w:=(h,k,ws,(0:Int),v))
  (fun (x:K7) (y:A0U)=>x.1=y.2.2.2.1∧(0≤x.1∧x.1≤64)∧x.2.1=h∧x.2.2.1=k∧x.2.2.2.1=ws∧y.1=h∧y.2.1=k∧y.2.2.1=ws∧x.2.2.2.2=y.2.2.2.2∧x.2.2.2.2.length=8∧AllW x.2.2.2.2)
  (fun (a:K4) (b:X8)=>b.1=0∧b.2.1=h∧a.2.2.2=b.2.2∧b.2.2.length=8∧AllW b.2.2) (fun x=>(64 - x.1).toNat) ?_ ⟨rfl,⟨by simp only;omega,by simp only;omega⟩,rfl,rfl,rfl,rfl,rfl,rfl,rfl,hv,hvW⟩ (by simp only;decide)
 rintro ⟨i,h1,k1,w1,v1⟩ ⟨h2,k2,w2,j,v2⟩ ⟨e1,e2,e3,e4,e5,e6,e7,e8,e9,e10,e11⟩
 simp only at e1 e2 e3 e4 e5 e6 e7 e8 e9 e10 e11
 subst e1;subst e3;subst e4;subst e5;subst e6;subst e7;subst e8;subst e9
 by_cases hi:i<64
 ·obtain ⟨v0,va,vb,vc,v4,v5,v6,v7,rfl⟩:=eight e10
  have W0:Wd v0:=e11 _ (by simp)
  have Wa:Wd va:=e11 _ (by simp)
  have Wb:Wd vb:=e11 _ (by simp)
  have Wc:Wd vc:=e11 _ (by simp)
  have W4:Wd v4:=e11 _ (by simp)
  have W5:Wd v5:=e11 _ (by simp)
  have W6:Wd v6:=e11 _ (by simp)
  have W7:Wd v7:=e11 _ (by simp)
  have Wk:=hkW.at i.toNat
  have Ww:=hwW.at i.toNat
  obtain ⟨r1,r1w⟩:=C2G W4
  obtain ⟨r2,r2w⟩:=C15 W4
  obtain ⟨r3,r3w⟩:=C2b W4
  obtain ⟨s1,s1w⟩:=B1W r1w r2w
  obtain ⟨s2,s2w⟩:=B1W s1w r3w
  obtain ⟨c1,c1w⟩:=B8B W4 W5
  obtain ⟨c2,c2w⟩:=B1W (show Wd 4294967295 from ⟨by decide,by decide⟩) W4
  obtain ⟨c3,c3w⟩:=B8B c2w W6
  obtain ⟨c4,c4w⟩:=B1W c1w c3w
  obtain ⟨q1,q1w⟩:=C2F W0
  obtain ⟨q2,q2w⟩:=C16 W0
  obtain ⟨q3,q3w⟩:=C2a W0
  obtain ⟨p1,p1w⟩:=B1W q1w q2w
  obtain ⟨p2,p2w⟩:=B1W p1w q3w
  obtain ⟨m1,m1w⟩:=B8B W0 Wa
  obtain ⟨m2,m2w⟩:=B8B W0 Wb
  obtain ⟨m3,m3w⟩:=B8B Wa Wb
  obtain ⟨m4,m4w⟩:=B1W m1w m2w
  obtain ⟨m5,m5w⟩:=B1W m4w m3w
  have eA:=C2L W7 s2w c4w Wk Ww p2w m5w
  have eE:=C2M W7 s2w c4w Wk Ww Wc
  have wA:=B9X (IntKind.wrap .u32 (T32 v7 (ixor .u32 (ixor .u32 (A3 v4 (-6)) (A3 v4 (-11))) (A3 v4 (-25))) (ixor .u32 (iand .u32 v4 v5) (iand .u32 (ixor .u32 4294967295 v4) v6)) (k2.getD i.toNat 0) (w2.getD i.toNat 0)+ixor .u32 (ixor .u32 (A3 v0 (-2)) (A3 v0 (-13))) (A3 v0 (-22)))+ixor .u32 (ixor .u32 (iand .u32 v0 va) (iand .u32 v0 vb)) (iand .u32 va vb))
  have wE:=B9X (vc+T32 v7 (ixor .u32 (ixor .u32 (A3 v4 (-6)) (A3 v4 (-11))) (A3 v4 (-25))) (ixor .u32 (iand .u32 v4 v5) (iand .u32 (ixor .u32 4294967295 v4) v6)) (k2.getD i.toNat 0) (w2.getD i.toNat 0))
  obtain ⟨nA,hnA,wA⟩:∃ n,n=_∧Wd n:=⟨_,rfl,wA⟩
  obtain ⟨nE,hnE,wE⟩:∃ n,n=_∧Wd n:=⟨_,rfl,wE⟩
  refine .inl ⟨(i+1,h2,k2,w2,[nA,v0,va,vb,nE,v4,v5,v6]),(h2,k2,w2,i+1,[nA,v0,va,vb,nE,v4,v5,v6]),?_,?_,⟨rfl,by simp only;omega,rfl,rfl,rfl,rfl,rfl,rfl,rfl,rfl,?_⟩,by simp only;omega⟩
  rotate_left 2
  ·intro x hx
   simp only [List.mem_cons,List.not_mem_nil,or_false] at hx
   rcases hx with rfl | rfl | rfl | rfl | rfl | rfl | rfl | rfl
   ·exact wA
   ·exact W0
   ·exact Wa
   ·exact Wb
   ·exact wE
   ·exact W4
   ·exact W5
   ·exact W6
  ·simp only [I6,P9 (i+1) (by omega) (by omega),decide_eq_true hi,cond_true,hk,hw]
   rw [show decide (0≤i∧i<((64:Nat):Int)∧i<((64:Nat):Int))=true from decide_eq_true (by omega)]
   rw [hnA,hnE]
   rfl
  ·simp only [A1R,P9 (i+1) (by omega) (by omega),decide_eq_true hi,cond_true,qturn,hk,hw]
   rw [show decide (0≤i∧i<((64:Nat):Int))=true from decide_eq_true (by omega)]
   rw [hnA,hnE,eA,eE,s2,s1,r1,r2,r3,c4,c3,c2,c1,p2,p1,q1,q2,q3,m5,m4,m3,m2,m1]
   rfl
 ·refine .inr ⟨(0,h2,k2,v1),(0,h2,v1),?_,?_,rfl,rfl,rfl,e10,e11⟩
  ·simp only [I6,decide_eq_false hi,cond_false]
  ·simp only [A1R,decide_eq_false hi,cond_false]
theorem B9S:AllW irounds:=by
 intro x hx
 have:irounds.all (fun x=>decide (0≤x∧x<4294967296))=true:=by decide
 exact of_decide_eq_true (p:=0≤x∧x<4294967296) (List.all_eq_true.1 this x hx)
theorem B4n {l:List Int} {i j:Nat} {x:Int} (hi:i<l.length):(l.set i x).getD j 0=if j=i then x else l.getD j 0:=by
 rw [List.getD_eq_getElem?_getD,List.getElem?_set,List.getD_eq_getElem?_getD]
 by_cases h:i=j
 ·subst h;simp [hi]
 ·rw [if_neg h,if_neg (fun e=>h e.symm)]
theorem B9N (h k v:List Int) (hh:h.length=8) (hv:v.length=8):(D7 0 h k v).2.1.length=8∧∀ j,j<8→(D7 0 h k v).2.1.getD j 0=IntKind.wrap .u32 (h.getD j 0+v.getD j 0):=by
 refine itX_inv (v:=((0:Int),h,k,v)) (fun x:K8=>(0≤x.1∧x.1≤8)∧x.2.1.length=8∧x.2.2.2=v∧∀ j:Nat,j<8→x.2.1.getD j 0=if (j:Int)<x.1 then IntKind.wrap .u32 (h.getD j 0+v.getD j 0) else h.getD j 0)
  (fun a:K5=>a.2.1.length=8∧∀ j,j<8→a.2.1.getD j 0=IntKind.wrap .u32 (h.getD j 0+v.getD j 0)) (fun x=>(8 - x.1).toNat) ?_ ⟨⟨by simp only;omega,by simp only;omega⟩,hh,rfl,fun j hj=>by rw [if_neg (by simp only;omega)]⟩ (by simp only;decide)
 rintro ⟨i,h', k', v'⟩ ⟨h2,h3,h4,h6⟩
 simp only at h2 h3 h4 h6
 subst h4
 by_cases hi:i<8
 ·refine .inl ⟨(i+1,h'.set i.toNat (IntKind.wrap .u32 (h'.getD i.toNat 0+v'.getD i.toNat 0)),k', v'),?_,⟨by simp only;omega,by simp only [List.length_set];exact h3,rfl,fun j hj=>?_⟩,by simp only;omega⟩
  ·simp only [I7,P9 (i+1) (by omega) (by omega),decide_eq_true hi,cond_true,hv,h3]
   rw [show decide (0≤i∧i<((8:Nat):Int)∧i<((8:Nat):Int))=true from decide_eq_true (by omega)]
   rfl
  ·simp only
   rw [B4n (by omega)]
   by_cases e:j=i.toNat
   ·rw [if_pos e,if_pos (by omega),← e,h6 j hj,if_neg (by omega)]
   ·rw [if_neg e,h6 j hj]
    by_cases e2:(j:Int)<i
    ·rw [if_pos e2,if_pos (by omega)]
    ·rw [if_neg e2,if_neg (by omega)]
 ·refine .inr ⟨(0,h', k'),?_,h3,fun j hj=>?_⟩
  ·simp only [I7,decide_eq_false hi,cond_false]
  ·simp only;rw [h6 j hj,if_pos (by omega)]
theorem B9O (h v:List Int) (hh:h.length=8) (hv:v.length=8):(O2 h 0 v).1=0∧(O2 h 0 v).2.length=8∧∀ j,j<8→(O2 h 0 v).2.getD j 0=iand .i64 (IntKind.wrap .i64 (v.getD j 0+h.getD j 0)) (4294967295:Int):=by
 refine itX_inv (v:=(h,(0:Int),v)) (fun x:A0V=>(0≤x.2.1∧x.2.1≤8)∧x.2.2.length=8∧x.1=h∧∀ j:Nat,j<8→x.2.2.getD j 0=if (j:Int)<x.2.1 then iand .i64 (IntKind.wrap .i64 (v.getD j 0+h.getD j 0)) (4294967295:Int) else v.getD j 0)
  (fun a:X9=>a.1=0∧a.2.length=8∧∀ j,j<8→a.2.getD j 0=iand .i64 (IntKind.wrap .i64 (v.getD j 0+h.getD j 0)) (4294967295:Int)) (fun x=>(8 - x.2.1).toNat) ?_ ⟨⟨by simp only;omega,by simp only;omega⟩,hv,rfl,fun j hj=>by rw [if_neg (by simp only;omega)]⟩ (by simp only;decide)
 rintro ⟨h', i,v'⟩ ⟨h2,h3,h4,h6⟩
 simp only at h2 h3 h4 h6
 subst h4
 by_cases hi:i<8
 ·refine .inl ⟨(h', i+1,v'.set i.toNat (iand .i64 (IntKind.wrap .i64 (v'.getD i.toNat 0+h'.getD i.toNat 0)) (4294967295:Int))),?_,⟨by simp only;omega,by simp only [List.length_set];exact h3,rfl,fun j hj=>?_⟩,by simp only;omega⟩
  ·simp only [A1S,P9 (i+1) (by omega) (by omega),decide_eq_true hi,cond_true,hh,h3]
   rw [show decide (0≤i∧i<((8:Nat):Int))=true from decide_eq_true (by omega)]
   rfl
  ·simp only
   rw [B4n (by omega)]
   by_cases e:j=i.toNat
   ·rw [if_pos e,if_pos (by omega),← e,h6 j hj,if_neg (by omega)]
   ·rw [if_neg e,h6 j hj]
    by_cases e2:(j:Int)<i
    ·rw [if_pos e2,if_pos (by omega)]
    ·rw [if_neg e2,if_neg (by omega)]
 ·refine .inr ⟨(0,v'),?_,rfl,h3,fun j hj=>?_⟩
  ·simp only [A1S,decide_eq_false hi,cond_false]
  ·simp only;rw [h6 j hj,if_pos (by omega)]
theorem B8a {a b:List Int} (ha:a.length=8) (hb:b.length=8) (h:∀ j,j<8→a.getD j 0=b.getD j 0):a=b:=by
 apply List.ext_getElem (by omega)
 intro i h1 h2
 have:=h i (by omega)
 rwa [List.getD_eq_getElem?_getD,List.getElem?_eq_getElem h1,List.getD_eq_getElem?_getD,List.getElem?_eq_getElem h2] at this
theorem C2J {a b:Int} (ha:Wd a) (hb:Wd b):IntKind.wrap .u32 (a+b)=iand .i64 (IntKind.wrap .i64 (b+a)) (4294967295:Int):=by
 obtain ⟨a0,a1⟩:=ha
 obtain ⟨b0,b1⟩:=hb
 rw [wrap64 (by omega) (by omega),A9U (by omega) (by omega),w32]
 omega
theorem B4r (c h:List Int) (hc:c.length=64) (hb:AllB c) (hh:h.length=8) (hW:AllW h):X5 h c A6t=true∧(D6 c h irounds).1=A1e h c A6t∧AllW (A1e h c A6t):=by
 obtain ⟨w1,w2,w3,w4⟩:=B36 c hc hb
 have ev:[h.getD 0 0,h.getD 1 0,h.getD 2 0,h.getD 3 0,h.getD 4 0,h.getD 5 0,h.getD 6 0,h.getD 7 0]=h:=by
  obtain ⟨a,b,c,d,e,f,g,i,rfl⟩:=eight hh
  rfl
 obtain ⟨l1,l2,l3,l4,l5⟩:=B7d h irounds (F1 c) h rfl B9S w3 w4 hh hW
 obtain ⟨t1,t2,t3,t4⟩:=B6C h irounds (F1 c) h rfl w3 hh
 have ek:C0 c h irounds=B5 0 h irounds (F1 c) h:=by simp only [C0,w1,ev]
 obtain ⟨i1,i2⟩:=B9N h (B5 0 h irounds (F1 c) h).2.2.1 (B5 0 h irounds (F1 c) h).2.2.2 hh t4
 have hW2:AllW (B5 0 h irounds (F1 c) h).2.2.2:=by rw [l3];exact l5
 have eks:A0E h c A6t=O2 h 0 (C5 h irounds (F1 c) 0 h).2.2:=by
  show O2 ((C5 h irounds (F1 c) (0:Int) (([]:List Int)++h)).2.1) 0 ((C5 h irounds (F1 c) (0:Int) (([]:List Int)++h)).2.2)=_
  rw [List.nil_append,l2]
 obtain ⟨s0,s1,s2⟩:=B9O h (C5 h irounds (F1 c) 0 h).2.2 hh l4
 have e1:(D6 c h irounds).1=A1e h c A6t:=by
  show (D7 0 (C0 c h irounds).2.1 (C0 c h irounds).2.2.1 (C0 c h irounds).2.2.2).2.1=(A0E h c A6t).2
  rw [ek,eks,t2]
  refine B8a i1 s1 (fun j hj=>?_)
  rw [i2 j hj,s2 j hj,← l3]
  exact C2J (hW.at j) (hW2.at j)
 refine ⟨?_,e1,?_⟩
 ·have q1:(C5 h A6t (F1 c) 0 (([]:List Int)++h)).1=0:=l1
  have q2:(A0E h c A6t).1=0:=by rw [eks];exact s0
  simp only [X5,w2,q1,q2,Bool.true_and,beq_self_eq_true,Bool.and_true]
  exact decide_eq_true (by rw [hh];decide)
 ·rw [← e1]
  show AllW (D7 0 (C0 c h irounds).2.1 (C0 c h irounds).2.2.1 (C0 c h irounds).2.2.2).2.1
  rw [ek,t2]
  intro x hx
  obtain ⟨j,hj,rfl⟩:=List.mem_iff_getElem.1 hx
  have:=i2 j (by rw [← i1];exact hj)
  rw [List.getD_eq_getElem?_getD,List.getElem?_eq_getElem hj] at this
  have h9:(D7 0 h (B5 0 h irounds (F1 c) h).2.2.1 (B5 0 h irounds (F1 c) h).2.2.2).2.1[j]=IntKind.wrap .u32 _:=this
  rw [h9];exact B9X _
theorem B2h (p:List Int) (n:Nat):A3s p (n+1)=A1e (A3s p n) ((p.drop (64*n)).take 64) A6t:=by simp [A3s,List.range_succ]
theorem AllB.cut {l:List Int} (h:AllB l) (i n:Nat):AllB ((l.drop i).take n):=fun x hx=>h x (List.mem_of_mem_drop (List.mem_of_mem_take hx))
theorem B56 (p:List Int) (hb:AllB p) (m:Nat) (hm:64*m=p.length):∀ n,n≤m→(A3s p n).length=8∧AllW (A3s p n)∧(List.range n).foldl (fun h i=>(D6 ((p.drop (64*i)).take 64) h irounds).1) hinit=A3s p n:=by
 intro n
 induction n with
 | zero=>intro _;exact ⟨rfl,C0m,rfl⟩
 | succ n ih =>
  intro hn
  obtain ⟨h1,h2,h3⟩:=ih (by omega)
  have hc:((p.drop (64*n)).take 64).length=64:=by simp only [List.length_take,List.length_drop];omega
  obtain ⟨q,e,w⟩:=B4r _ (A3s p n) hc (hb.cut _ _) h1 h2
  rw [B2h]
  refine ⟨?_,w,?_⟩
  ·rw [← e];exact (B13 _ _ hc h1).2.1
  ·rw [List.range_succ,List.foldl_append,h3];exact e
theorem B74 (p:List Int) (hb:AllB p) (m:Nat) (hm:64*m=p.length) (hl:p.length≤1000000000100):(A07 p hinit A6t 0).1=0∧(A07 p hinit A6t 0).2=A3s p m:=by
 refine itX_inv (v:=(p,hinit,A6t,(0:Int))) (fun x:A14=>x.1=p∧x.2.2.1=A6t∧∃ n:Nat,n≤m∧x.2.2.2=((64*n:Nat):Int)∧x.2.1=A3s p n) (fun a:A0v=>a.1=0∧a.2=A3s p m) (fun x=>(p.length - x.2.2.2).toNat) ?_ ⟨rfl,rfl,0,Nat.zero_le _,rfl,rfl⟩ (by simp only;omega)
 rintro ⟨p', h,k,i⟩ ⟨h1,h2,n,hn,h3,h4⟩
 simp only at h1 h2 h3 h4
 subst h1;subst h2;subst h3;subst h4
 by_cases hi:n<m
 ·have hc:((p'.drop (64*n)).take 64).length=64:=by simp only [List.length_take,List.length_drop];omega
  obtain ⟨f1,f2,_⟩:=B56 p' hb m hm n hn
  obtain ⟨q,e,w⟩:=B4r _ (A3s p' n) hc (hb.cut _ _) f1 f2
  have ew:IntKind.wrap .i64 (((64*n:Nat):Int)+64)=((64*(n+1):Nat):Int):=by rw [wrap64 (by omega) (by omega)];omega
  have ec:(p'.take (64*(n+1))).drop (64*n)=(p'.drop (64*n)).take 64:=by
   rw [List.drop_take];congr 1;omega
  refine .inl ⟨(p', A3s p' (n+1),A6t,((64*(n+1):Nat):Int)),?_,⟨rfl,rfl,n+1,hi,rfl,rfl⟩,by simp only;omega⟩
  simp only [A2L,ew,Int.toNat_natCast,ec,q,cond_true]
  rw [decide_eq_true (by omega),decide_eq_true (by omega),B2h];rfl
 ·obtain rfl:n=m:=by omega
  refine .inr ⟨(0,A3s p' n),?_,rfl,rfl⟩
  simp only [A2L]
  rw [decide_eq_false (by omega)];rfl
theorem A9F (h:List Int):(E6 h).length=4*h.length:=by
 induction h with
 | nil=>rfl
 | cons x h ih=>simp only [E6,List.flatMap_cons,List.length_append,List.length_cons,List.length_nil] at ih ⊢;omega
theorem B3l (h:List Int) (n:Nat) (hn:n<h.length):E6 (h.take (n+1))=E6 (h.take n)++E6 [h.getD n 0]:=by
 rw [List.take_succ_eq_append_getElem hn,E6,List.flatMap_append,List.getD_eq_getElem?_getD,List.getElem?_eq_getElem hn]
 rfl
theorem B75 (h:List Int) (h8:h.length=8):(R8 h 0 []).1=0∧(R8 h 0 []).2=E6 h:=by
 refine itX_inv (v:=(h,(0:Int),([]:List Int))) (fun x:A15=>x.1=h∧∃ n:Nat,n≤8∧x.2.1=(n:Int)∧x.2.2=E6 (h.take n)) (fun a:A0w=>a.1=0∧a.2=E6 h) (fun x=>(8 - x.2.1).toNat) ?_ ⟨rfl,0,Nat.zero_le _,rfl,by simp [E6]⟩ (by simp only;decide)
 rintro ⟨h', i,l⟩ ⟨h1,n,hn,h3,h4⟩
 simp only at h1 h3 h4
 subst h1;subst h3;subst h4
 by_cases hi:n<8
 ·refine .inl ⟨(h', ((n+1:Nat):Int),E6 (h'.take (n+1))),?_,⟨rfl,n+1,hi,rfl,rfl⟩,by simp only;omega⟩
  simp only [A2M,P9 ((n:Int)+1) (by omega) (by omega),h8,Int.toNat_natCast]
  rw [decide_eq_true (by omega),decide_eq_true (by omega),decide_eq_true (by simp only [A9F,List.length_take,List.length_cons,List.length_nil,MAXB];omega),B3l _ _ (by omega)]
  rfl
 ·obtain rfl:n=8:=by omega
  refine .inr ⟨(0,E6 (h'.take 8)),?_,rfl,?_⟩
  ·simp only [A2M]
   rw [decide_eq_false (by omega)];rfl
  ·show E6 (h'.take 8)=E6 h'
   rw [List.take_of_length_le (by omega)]
theorem B54 (a:List Int) (ha:a.length≤1000000000000) (hb:AllB a):P6 a=true∧A0H a=true∧H6 a=A1c a∧(A1c a).size=32:=by
 obtain ⟨p1,p2,p3,p4,p5,p6,p7⟩:=B6h a ha hb
 have hm:64*((F6 a).length / 64)=(F6 a).length:=by omega
 obtain ⟨f1,f2,f3⟩:=B56 (F6 a) p7 _ hm _ (Nat.le_refl _)
 obtain ⟨d1,d2⟩:=B74 (F6 a) p7 _ hm (by omega)
 have ek:A0q a=A07 (F6 a) hinit A6t 0:=rfl
 obtain ⟨e1,e2⟩:=B75 _ f1
 have hI:B76 (F6 a)=A3s (F6 a) ((F6 a).length / 64):=f3
 refine ⟨?_,?_,?_,?_⟩
 ·simp only [P6,p1,p3,Bool.true_and,Bool.and_eq_true,decide_eq_true_eq]
  omega
 ·simp only [A0H,p2,ek,d1,d2,e1];rfl
 ·simp only [H6,p3,hI,A1c,ek,d2,e2];rfl
 ·have : (A1c a).size = (E6 (A3s (F6 a) ((F6 a).length / 64))).length := by
   simp only [A1c,ek,d2,e2]
   show (((E6 _).map _).toArray).size=_
   simp
  rw [this,A9F,f1]
theorem B9d {b:List Int} (h:okB b):AllB b:=fun x hx=>by have:=h x hx;omega
theorem B8Q {b:List Int} (h:okB b) (hl:b.length≤1000000000000):A0H b=true∧A1c b=H6 b:=by
 obtain ⟨d1,d2,d3,d4⟩:=B54 b hl (B9d h)
 exact ⟨d2,d3.symm⟩
noncomputable def A71 (l:List Int):ByteArray:=⟨(l.map fun n=>UInt8.ofNat n.toNat).toArray⟩
theorem A2R {l:List Int} (h:okB l):strInts (A71 l)=l:=by
 simp only [A71,strInts,List.map_map,List.toList_toArray]
 conv=>rhs;rw [← List.map_id l]
 apply List.map_congr_left
 intro n hn
 obtain ⟨h0,h1⟩:=h n hn
 simp only [Function.comp_apply,UInt8.toNat_ofNat', id_eq]
 omega
theorem B4p (s:ByteArray):A71 (strInts s)=s:=by
 cases s with
 | mk a =>
  simp only [A71,strInts,List.map_map]
  congr 1
  apply Array.toList_inj.1
  simp only [List.toList_toArray]
  conv=>rhs;rw [← List.map_id a.toList]
  apply List.map_congr_left
  intro b _
  simp
theorem B6A {a:List Int} {s:ByteArray} (ha:okB a):((A71 a).toList==s.toList)=true↔a=strInts s:=by
 rw [beq_iff_eq]
 constructor
 ·intro h
  have h2:A71 a=s:=by
   have h3:=congrArg (fun l=>(⟨l.toArray⟩:ByteArray)) h
   have k:∀ s:ByteArray,(⟨s.toList.toArray⟩:ByteArray)=s:=fun s=>by rw [ByteArray.toList_eq]
   simpa only [k] using h3
  rw [← A2R ha,h2]
 ·rintro rfl;rw [B4p]
theorem okB.app {a b:List Int} (h:okB a) (h':okB b):okB (a++b):=fun c hc=>(List.mem_append.1 hc).elim (h c) (h' c)
theorem B91 {pre rest:List Int} (hb:okB (pre++rest)) {n p:Int} (h:gN (pre++rest) (pre.length:Int)=(n,p,true)):∃ post,rest=A8 n++post∧p=((pre++A8 n).length:Int)∧0≤n∧n≤1000000000:=by
 obtain ⟨pre', post,e1,e2,e3,e4,e5⟩:=B57 hb h
 obtain ⟨_,q2⟩:=List.append_inj e1 (by omega)
 exact ⟨post,q2,by rw [e3,List.length_append];omega,e4,e5⟩
theorem B8T {b:List Int} (hb:okB b) {n p:Int} (h:gN b 0=(n,p,true)):∃ post,b=A8 n++post∧p=((A8 n).length:Int)∧0≤n∧n≤1000000000:=B91 (pre:=[]) hb h
noncomputable def gT (b:List Int) (a:Int):ByteArray×Int×Bool :=
 if (gN b a).2.2=true∧(gN b a).1≤(b.length:Int) - (gN b a).2.1 then (A71 ((b.drop (gN b a).2.1.toNat).take (gN b a).1.toNat),(gN b a).2.1+(gN b a).1,true) else (⟨#[]⟩,0,false)
noncomputable def gO (b:List Int) (p:Int):(Int×ByteArray×ByteArray)×Int×Bool :=
 (((gN b p).1,(gT b (gN b p).2.1).1,(gT b (gT b (gN b p).2.1).2.1).1),(gT b (gT b (gN b p).2.1).2.1).2.1,(gN b p).2.2&&((gT b (gN b p).2.1).2.2&&(gT b (gT b (gN b p).2.1).2.1).2.2))
noncomputable def pO:Nat→List Int→Int→Lq1→Option (Lq1×Int)
 | 0,_,p,acc=>some (acc,p)
 | k+1,b,p,acc=>cond (gO b p).2.2 (pO k b (gO b p).2.1 (acc++[(gO b p).1])) none
noncomputable def B4M (b:List Int):Lq1×Bool :=
 if (gN b 0).2.2=true∧(gN b 0).1≤8 then (match pO (gN b 0).1.toNat b (gN b 0).2.1 [] with
  | some (l,q)=>if q=(b.length:Int)∧L4 l=true then (l,true) else ([],false)
  | none=>([],false)) else ([],false)
theorem B92 {b:List Int} (hb:okB b) (hl:b.length≤1099511627776) (a:Int) :
  gT b a=(cond (!((gN b a).2.2)) ((⟨#[]⟩:ByteArray),(0:Int),false) (cond (decide (((gN b a).1) > (IntKind.wrap .i64 ((b.length:Int) - ((gN b a).2.1))))) ((⟨#[]⟩:ByteArray),(0:Int),false) ((⟨(((b.take (IntKind.wrap .i64 (((gN b a).2.1)+((gN b a).1))).toNat).drop ((gN b a).2.1).toNat).map fun n=>UInt8.ofNat n.toNat).toArray⟩:ByteArray),IntKind.wrap .i64 (((gN b a).2.1)+((gN b a).1)),true))) ∧
  (cond (!((gN b a).2.2)) true (cond (decide (((gN b a).1) > (IntKind.wrap .i64 ((b.length:Int) - ((gN b a).2.1))))) true (decide (0≤((gN b a).2.1)∧((gN b a).2.1)≤(IntKind.wrap .i64 (((gN b a).2.1)+((gN b a).1)))∧(IntKind.wrap .i64 (((gN b a).2.1)+((gN b a).1)))≤(b.length:Int)))))=true:=by
 cases h:(gN b a).2.2 with
 | false=>simp only [gT,h,Bool.not_false,cond_true];exact ⟨by rw [if_neg (by simp)],trivial⟩
 | true =>
  obtain ⟨r1,r2,r3,r4,r5⟩:=A6R hb h
  have w1:IntKind.wrap .i64 ((b.length:Int) - ((gN b a).2.1))=(b.length:Int) - (gN b a).2.1:=wrap64 (by omega) (by omega)
  have w2:IntKind.wrap .i64 (((gN b a).2.1)+((gN b a).1))=(gN b a).2.1+(gN b a).1:=wrap64 (by omega) (by omega)
  simp only [gT,h,Bool.not_true,cond_false,w1,w2]
  by_cases hc:(gN b a).1≤(b.length:Int) - (gN b a).2.1
  ·rw [if_pos ⟨trivial,hc⟩,decide_eq_false (by omega),cond_false,cond_false]
   refine ⟨?_,decide_eq_true (by omega)⟩
   simp only [A71]
   congr 4
   have:((gN b a).2.1+(gN b a).1).toNat=(gN b a).2.1.toNat+(gN b a).1.toNat:=by omega
   rw [this,List.take_drop]
  ·rw [if_neg (fun h=>hc h.2),decide_eq_true (by omega),cond_true,cond_true]
   exact ⟨rfl,rfl⟩
theorem A8K {b:List Int} (hb:okB b) (hl:b.length≤1099511627776) (a:Int):A1d b a=gT b a∧L2 b a=true:=by
 obtain ⟨h1,h2⟩:=T1 hb hl a
 obtain ⟨h3,h4⟩:=B92 hb hl a
 rw [h3]
 simp only [A1d,L2,h1,h2,Bool.true_and]
 exact ⟨trivial,h4⟩
theorem B4q (l:List Int):(A71 l).size=l.length:=by simp [A71,ByteArray.size]
theorem B4N {b:List Int} (hb:okB b) (a:Int):(gT b a).1.size≤b.length:=by
 simp only [gT]
 split
 ·rw [B4q,List.length_take,List.length_drop];omega
 ·exact Nat.zero_le _
theorem B8V {b:List Int} (hb:okB b) (p:Int):(gO b p).1.2.1.size≤b.length∧(gO b p).1.2.2.size≤b.length:=⟨B4N hb _,B4N hb _⟩
theorem B7t {b:List Int} (hb:okB b) (hl:b.length≤1048576) (n p:Int) (hn:n≤8) (h0:0≤n) :
    (match pO n.toNat b p [] with
      | some (l,q)=>A2I b n p 0 [] []=(1,false,[],b,q,l)∧F5 l=true
      | none=>A2I b n p 0 [] []=(0,false,[],[],0,[])):=by
  refine itX_inv (fun v : A17 => ∃ (i : Nat) (p' : Int) (l : Lq1), v = (b, n, p', (i : Int), [], l) ∧ (i : Int) ≤ n ∧ l.length = i ∧ F5 l = true ∧ pO (n.toNat - i) b p' l = pO n.toNat b p []) (fun a => match pO n.toNat b p [] with
      | some (l,q)=>a=(1,false,[],b,q,l)∧F5 l=true
      | none=>a=(0,false,[],[],0,[])) (fun v=>8 - v.2.2.2.1.toNat) ?_ ⟨0,p,[],rfl,h0,rfl,rfl,rfl⟩ (by simp)
  rintro v ⟨i,p', l,rfl,hi,hll,hok,hp⟩
  by_cases h5:(i:Int)<n
  · have e1:decide ((i:Int)<n)=true:=decide_eq_true h5
    obtain ⟨s1,s2⟩:=T1 hb (by omega) p'
    obtain ⟨t1,t2⟩:=A8K hb (by omega) (gN b p').2.1
    obtain ⟨u1,u2⟩:=A8K hb (by omega) (gT b (gN b p').2.1).2.1
    have e2:∀ o:Int×ByteArray×ByteArray,decide ((l.length+[o].length)*40≤MAXB)=true:=fun o=>decide_eq_true (by simp only [List.length_singleton,MAXB];omega)
    rw [show n.toNat - i=(n.toNat - (i+1))+1 by omega,pO] at hp
    simp only [A2N,e1,s1,s2,t1,t2,u1,u2,e2,cond_true]
    cases hc:(gO b p').2.2 with
    | true =>
      rw [hc,cond_true] at hp
      have hc':=hc
      simp only [gO,Bool.and_eq_true] at hc'
      simp only [hc'.1,hc'.2.1,hc'.2.2,Bool.not_true,cond_false]
      refine .inl ⟨_,rfl,⟨i+1,(gO b p').2.1,l++[(gO b p').1],?_,by omega,by simp [hll],?_,hp⟩,?_⟩
      · rw [wrapU i (by omega)];rfl
      · obtain ⟨x1,x2⟩:=B8V hb p'
        simp only [F5,okL,List.length_append,List.length_singleton,List.all_append,List.all_cons,List.all_nil,Bool.and_true,Bool.and_eq_true,decide_eq_true_eq] at hok ⊢
        exact ⟨by omega,hok.2,by simp only [B9e,okS,Bool.and_eq_true,decide_eq_true_eq];omega⟩
      · rw [wrapU i (by omega)];simp;omega
    | false =>
      rw [hc,cond_false] at hp
      right
      rw [← hp]
      simp only [gO] at hc
      cases h1:(gN b p').2.2 with
      | false=>exact ⟨_,rfl,rfl⟩
      | true=>cases h2:(gT b (gN b p').2.1).2.2 with
        | false=>exact ⟨_,rfl,rfl⟩
        | true=>cases h3:(gT b (gT b (gN b p').2.1).2.1).2.2 with
          | false=>exact ⟨_,rfl,rfl⟩
          | true=>rw [h1,h2,h3] at hc;cases hc
  · have e1:decide ((i:Int)<n)=false:=decide_eq_false h5
    have:n.toNat - i=0:=by omega
    rw [this,pO] at hp
    simp only [A2N,e1,cond_false]
    exact .inr ⟨_,rfl,by rw [← hp];exact ⟨rfl,hok⟩⟩
theorem B0q {b:List Int} (hb:okB b) (hl:b.length≤1048576):B12 b=B4M b∧A1y b=true:=by
 obtain ⟨s1,s2⟩:=T1 hb (by omega) 0
 simp only [B12,A1y,B4M,s1,s2,Bool.true_and,A5A]
 cases h:(gN b 0).2.2 with
 | false=>simp
 | true =>
  obtain ⟨r1,r2,r3,r4,r5⟩:=A6R hb h
  by_cases h8:(gN b 0).1≤8
  ·have e1:decide ((gN b 0).1 > 8)=false:=decide_eq_false (by omega)
   have:=B7t hb hl (gN b 0).1 (gN b 0).2.1 h8 r4
   rw [if_pos ⟨rfl,h8⟩]
   simp only [Bool.not_true,cond_false,e1]
   cases hp:pO (gN b 0).1.toNat b (gN b 0).2.1 [] with
   | none=>rw [hp] at this;simp only at this;rw [this];exact ⟨rfl,rfl⟩
   | some x =>
    obtain ⟨l,q⟩:=x
    rw [hp] at this
    obtain ⟨this,hok⟩:=this
    rw [this]
    have h10:((1:Nat)==0)=false:=rfl
    simp only [h10,cond_false,A3D,hok,Nat.reduceBEq,beq_self_eq_true,Bool.true_and]
    by_cases hq:q=(b.length:Int)
    ·have e2:(q != (b.length:Int))=false:=by rw [hq];simp
     simp only [e2,cond_false]
     cases ho:L4 l with
     | true=>rw [if_pos ⟨hq,rfl⟩];exact ⟨rfl,trivial⟩
     | false=>rw [if_neg (fun h=>by cases h.2)];exact ⟨rfl,trivial⟩
    ·have e2:(q != (b.length:Int))=true:=by rw [bne_iff_ne];exact hq
     simp only [e2,cond_true]
     rw [if_neg (fun h=>hq h.1)];exact ⟨rfl,trivial⟩
  ·have e1:decide ((gN b 0).1 > 8)=true:=decide_eq_true (by omega)
   rw [if_neg (fun h=>h8 h.2)]
   simp only [Bool.not_true,cond_false,e1,cond_true]
   exact ⟨trivial,trivial⟩
noncomputable def B65 (o:Int×ByteArray×ByteArray):Prop:=0≤o.1∧o.1≤1000000000∧o.2.1.size≤1000000000∧o.2.2.size≤1000000000
theorem B93 {b:List Int} (hb:okB b) {a p:Int} {s:ByteArray} (h:gT b a=(s,p,true)):∃ pre post,b=pre++(I4 s++post)∧a=pre.length∧p=a+(I4 s).length∧s.size≤1000000000:=by
 simp only [gT] at h
 split at h
 ·rename_i hc
  obtain ⟨h1,h2⟩:=hc
  obtain ⟨pre,post,e1,e2,e3,e4,e5⟩:=B57 hb (a:=a) (n:=(gN b a).1) (p:=(gN b a).2.1) (by rw [← h1])
  simp only [Prod.mk.injEq,and_true] at h
  obtain ⟨h3,h4⟩:=h
  have hlen:=congrArg List.length e1
  simp only [List.length_append] at hlen
  have ed:b.drop (gN b a).2.1.toNat=post:=by
   have hd:∀ n,b=pre++(A8 n++post)→b.drop (pre.length+(A8 n).length)=post:=fun n e=>by rw [e,← List.append_assoc,← List.length_append,List.drop_left]
   have:(gN b a).2.1.toNat=pre.length+(A8 (gN b a).1).length:=by omega
   rw [this];exact hd _ e1
  rw [ed] at h3
  have hpl:(gN b a).1.toNat≤post.length:=by omega
  have hz:s.size=(gN b a).1.toNat:=by rw [← h3,B4q,List.length_take];omega
  have hpo:okB (post.take (gN b a).1.toNat):=(by rw [← ed];exact (hb.drop _).take _)
  have hi:strInts s=post.take (gN b a).1.toNat:=by rw [← h3,A2R hpo]
  have hsz:(s.size:Int)=(gN b a).1:=by omega
  refine ⟨pre,post.drop (gN b a).1.toNat,?_,e2,?_,by omega⟩
  ·rw [I4,hsz,hi,List.append_assoc,List.take_append_drop];exact e1
  ·simp only [I4,List.length_append,A33,hsz];omega
 ·cases h
theorem C1y {b:List Int} (hb:okB b) {p:Int} (h:(gO b p).2.2=true):∃ pre post,b=pre++(opB (gO b p).1++post)∧p=pre.length∧(gO b p).2.1=p+(opB (gO b p).1).length∧B65 (gO b p).1:=by
 simp only [gO,Bool.and_eq_true] at h
 obtain ⟨h1,h2,h3⟩:=h
 obtain ⟨pre1,post1,a1,a2,a3,a4,a5⟩:=B57 hb (a:=p) (n:=(gN b p).1) (p:=(gN b p).2.1) (by rw [← h1])
 obtain ⟨pre2,post2,b1,b2,b3,b4⟩:=B93 hb (a:=(gN b p).2.1) (s:=(gT b (gN b p).2.1).1) (p:=(gT b (gN b p).2.1).2.1) (by rw [← h2])
 obtain ⟨pre3,post3,c1,c2,c3,c4⟩:=B93 hb (a:=(gT b (gN b p).2.1).2.1) (s:=(gT b (gT b (gN b p).2.1).2.1).1) (p:=(gT b (gT b (gN b p).2.1).2.1).2.1) (by rw [← h3])
 have d1:post1=b.drop (pre1++A8 (gN b p).1).length:=by
  have hd:∀ (u v w x:List Int),x=u++(v++w)→w=x.drop (u++v).length:=fun u v w x e=>by rw [e,← List.append_assoc,List.drop_left]
  exact hd _ _ _ _ a1
 have d2:I4 (gT b (gN b p).2.1).1++post2=b.drop pre2.length:=by
  have hd:∀ (u v x:List Int),x=u++v→v=x.drop u.length:=fun u v x e=>by rw [e,List.drop_left]
  exact hd _ _ _ b1
 have d3:post2=b.drop (pre2++I4 (gT b (gN b p).2.1).1).length:=by
  have hd:∀ (u v w x:List Int),x=u++(v++w)→w=x.drop (u++v).length:=fun u v w x e=>by rw [e,← List.append_assoc,List.drop_left]
  exact hd _ _ _ _ b1
 have d4:I4 (gT b (gT b (gN b p).2.1).2.1).1++post3=b.drop pre3.length:=by
  have hd:∀ (u v x:List Int),x=u++v→v=x.drop u.length:=fun u v x e=>by rw [e,List.drop_left]
  exact hd _ _ _ c1
 have f1:post1=I4 (gT b (gN b p).2.1).1++post2:=by rw [d1,d2];congr 1;simp only [List.length_append];omega
 have f2:post2=I4 (gT b (gT b (gN b p).2.1).2.1).1++post3:=by rw [d3,d4];congr 1;simp only [List.length_append];omega
 have hk:A00 (gN b p).1=(gN b p).1:=A0C a4 a5
 refine ⟨pre1,post3,?_,a2,?_,a4,a5,b4,c4⟩
 ·simp only [opB,gO,hk,List.append_assoc]
  rw [← f2,← f1];exact a1
 ·simp only [opB,gO,hk,List.length_append];omega
theorem C14 {b:List Int} (hb:okB b):∀ (k:Nat) (p:Int) (acc l:Lq1) (q:Int),0≤p→p≤b.length→pO k b p acc=some (l,q) →
  ∃ l' pre post,l=acc++l'∧l'.length=k∧b=pre++((l'.map opB).flatten++post)∧p=pre.length∧q=p+(l'.map opB).flatten.length∧∀ o∈l', B65 o:=by
 intro k
 induction k with
 | zero =>
  intro p acc l q h0 h1 h
  simp only [pO,Option.some.injEq,Prod.mk.injEq] at h
  obtain ⟨rfl,rfl⟩:=h
  exact ⟨[],b.take p.toNat,b.drop p.toNat,by simp,rfl,by simp,by rw [List.length_take];omega,by simp,by simp⟩
 | succ k ih =>
  intro p acc l q h0 h1 h
  simp only [pO] at h
  cases hc:(gO b p).2.2 with
  | false=>rw [hc] at h;cases h
  | true =>
   rw [hc,cond_true] at h
   obtain ⟨pre,post,a1,a2,a3,a4⟩:=C1y hb hc
   have hlen:=congrArg List.length a1
   simp only [List.length_append] at hlen
   obtain ⟨l', pre', post', b1,b2,b3,b4,b5,b6⟩:=ih (gO b p).2.1 (acc++[(gO b p).1]) l q (by omega) (by omega) h
   have d1:post=b.drop (pre++opB (gO b p).1).length:=by
    have hd:∀ (u v w x:List Int),x=u++(v++w)→w=x.drop (u++v).length:=fun u v w x e=>by rw [e,← List.append_assoc,List.drop_left]
    exact hd _ _ _ _ a1
   have d2:(l'.map opB).flatten++post'=b.drop pre'.length:=by
    have hd:∀ (u v x:List Int),x=u++v→v=x.drop u.length:=fun u v x e=>by rw [e,List.drop_left]
    exact hd _ _ _ b3
   have f1:post=(l'.map opB).flatten++post':=by rw [d1,d2];congr 1;simp only [List.length_append];omega
   refine ⟨(gO b p).1::l', pre,post', by rw [b1];simp,by simp [b2],?_,a2,?_,?_⟩
   ·simp only [List.map_cons,List.flatten_cons,List.append_assoc]
    rw [← f1];exact a1
   ·simp only [List.map_cons,List.flatten_cons,List.length_append];omega
   ·intro o ho
    rcases List.mem_cons.1 ho with rfl | ho
    ·exact a4
    ·exact b6 o ho
theorem B9E {b:List Int} (hb:okB b) {l:Lq1} (h:B4M b=(l,true)):L4 l=true∧b=A3A l:=by
 simp only [B4M] at h
 split at h
 ·rename_i hc
  obtain ⟨c1,c2⟩:=hc
  obtain ⟨post,e1,e2,e3,e4⟩:=B8T hb (n:=(gN b 0).1) (p:=(gN b 0).2.1) (by rw [← c1])
  have hlen:=congrArg List.length e1
  rw [List.length_append] at hlen
  split at h
  ·rename_i l' q hp
   split at h
   ·rename_i hq
    simp only [Prod.mk.injEq,and_true] at h
    subst h
    obtain ⟨l2,pre,post2,f1,f2,f3,f4,f5,f6⟩:=C14 hb _ _ _ _ _ (by omega) (by omega) hp
    simp only [List.nil_append] at f1
    subst f1
    refine ⟨hq.2,?_⟩
    have g1:(l'.length:Int)=(gN b 0).1:=by omega
    have hlen2:=congrArg List.length f3
    simp only [List.length_append] at hlen2
    have hp2:post2=[]:=List.eq_nil_of_length_eq_zero (by have:=hq.1;omega)
    subst hp2
    have key:∀ b':List Int,b'=A8 (gN b 0).1++post→b'=pre++((l'.map opB).flatten++[])→pre.length=(A8 (gN b 0).1).length→b'=A8 (gN b 0).1++(l'.map opB).flatten:=by
     intro b' x1 x2 x3
     obtain ⟨q1,q2⟩:=List.append_inj (x2.symm.trans x1) x3
     rw [x2,q1,List.append_nil]
    rw [A3A,g1]
    exact key b e1 f3 (by omega)
   ·cases h
  ·cases h
 ·cases h
theorem N5 {l:Lq1} (h:L4 l=true):l.length≤8∧∀ o∈l,o.2.1.size≤12∧o.2.2.size≤20:=by
 simp only [L4] at h
 cases h5:allF (A44 l) (l.length - (0:Int).toNat) (0:Int).toNat with
 | false=>rw [h5] at h;simp at h
 | true =>
  rw [h5] at h
  simp only [cond_true,P8] at h
  constructor
  ·cases h6:decide ((l.length:Int) ≥ 1) with
   | false=>simp [h6] at h
   | true=>rw [h6] at h;simp only [cond_true,decide_eq_true_eq] at h;omega
  ·intro o ho
   obtain ⟨i,hi,rfl⟩:=List.getElem_of_mem ho
   have h6:=(allF_true _ _).1 h5 i (Nat.zero_le _) (by simpa using hi)
   simp only [A44,Bool.and_eq_true,List.getD_eq_getElem?_getD,List.getElem?_eq_getElem hi,Option.getD_some] at h6
   have h7:=h6.1
   simp only [B0x] at h7
   have hk:∀ s:ByteArray,A4o s=true→s.size≤12:=by
    intro s hs
    simp only [A4o] at hs
    cases h8:allF (A5N s) (s.size - (0:Int).toNat) (0:Int).toNat with
    | false=>rw [h8] at hs;simp at hs
    | true =>
     rw [h8] at hs
     simp only [cond_true,P8] at hs
     cases h9:decide ((s.size:Int) ≥ 1) with
     | false=>simp [h9] at hs
     | true=>rw [h9] at hs;simp only [cond_true,decide_eq_true_eq] at hs;omega
   cases h8:A4o (l[i]).2.1 with
   | false=>exfalso;revert h7;simp only [h8,cond_false];cases P8 (l[i]).1 1 3<;>cases ((l[i]).1==2)<;>simp
   | true =>
    refine ⟨hk _ h8,?_⟩
    revert h7
    simp only [h8,cond_true]
    cases P8 (l[i]).1 1 3<;>cases ((l[i]).1==2)<;>simp<;>omega
theorem B1r {l:Lq1} (h:L4 l=true):F5 l=true:=by
 obtain ⟨a1,a2⟩:=N5 h
 simp only [F5,okL,Bool.and_eq_true,decide_eq_true_eq,List.all_eq_true]
 refine ⟨by omega,fun o ho=>?_⟩
 have:=a2 o ho
 simp only [B9e,okS,Bool.and_eq_true,decide_eq_true_eq];omega
theorem A1b {k t:Int} {l:Lq1} (h:F0 k t l=true):1≤k∧k≤3∧1≤t∧t≤1000000∧(k=1→L4 l=true)∧(k ≠ 1→l=[])∧F5 l=true:=by
 simp only [F0,P8] at h
 cases h1:decide (t ≥ 1) with
 | false=>simp [h1] at h
 | true=>cases h2:decide (t≤1000000) with
  | false=>simp [h1,h2] at h
  | true =>
   simp only [h1,h2,cond_true,Bool.not_true,cond_false] at h
   have:=of_decide_eq_true h1;have:=of_decide_eq_true h2
   cases k1:(k==1) with
   | true =>
    have:=eq_of_beq k1
    simp only [k1,cond_true] at h
    exact ⟨by omega,by omega,by omega,by omega,fun _=>h,fun hk=>absurd this hk,B1r h⟩
   | false =>
    have hk:k ≠ 1:=by rw [beq_eq_false_iff_ne] at k1;exact k1
    simp only [k1,cond_false] at h
    have key:(k=2∨k=3)∧l=[]:=by
     cases k2:(k==2) with
     | true =>
      simp only [k2,cond_true] at h
      have:=eq_of_beq h
      exact ⟨.inl (eq_of_beq k2),List.eq_nil_of_length_eq_zero (by omega)⟩
     | false =>
      cases k3:(k==3) with
      | true =>
       simp only [k2,k3,cond_true,cond_false] at h
       have:=eq_of_beq h
       exact ⟨.inr (eq_of_beq k3),List.eq_nil_of_length_eq_zero (by omega)⟩
      | false=>simp [k2,k3] at h
    exact ⟨by omega,by omega,by omega,by omega,fun e=>absurd e hk,fun _=>key.2,by rw [key.2];rfl⟩
theorem A9s {l:Lq1} (h:L4 l=true):1≤l.length:=by
 simp only [L4] at h
 cases h5:allF (A44 l) (l.length - (0:Int).toNat) (0:Int).toNat with
 | false=>rw [h5] at h;simp at h
 | true =>
  rw [h5] at h
  simp only [cond_true,P8] at h
  cases h6:decide ((l.length:Int) ≥ 1) with
  | false=>simp [h6] at h
  | true=>have:=of_decide_eq_true h6;omega
theorem B7u {b:List Int} (hb:okB b) (hl:b.length≤1048576) (a:Int):Z0 b a=true∧((∃ k t l pre post,A0m b a=(k,t,l,((pre.length+(I5 k t l).length:Nat):Int),true)∧F0 k t l=true∧b=pre++(I5 k t l++post)∧a=(pre.length:Int))∨A0m b a=(0,0,[],a,false)):=by
 obtain ⟨g1,g2⟩:=T1 hb (by omega) a
 simp only [A0m,Z0,g1,g2,C3,B2,A0r,K9,Bool.true_and]
 cases h1:(gN b a).2.2 with
 | false=>exact ⟨rfl,.inr rfl⟩
 | true =>
 obtain ⟨r1,r2,r3,r4,r5⟩:=A6R hb h1
 generalize eg:gN b a=g at *
 obtain ⟨n,p,o⟩:=g
 simp only at h1 r1 r2 r3 r4 r5 ⊢
 subst h1
 obtain ⟨w1,w2,w3,w4⟩:=B5E (len:=(b.length:Int)) (p:=p) (n:=n) ⟨by omega,by omega⟩ ⟨by omega,by omega⟩ ⟨by omega,by omega⟩
 simp only [w1,w2,w3,w4,Bool.not_true,cond_false]
 by_cases hn:n > (b.length:Int) - p - 4
 ·simp only [decide_eq_true hn,cond_true];exact ⟨trivial,.inr trivial⟩
 simp only [decide_eq_false hn,cond_false]
 obtain ⟨pre,body,s4,rest,e,ea,ep,el,e4,n1,n0,hB,h4⟩:=B7y hb hl eg hn
 have hlen:=congrArg List.length e
 simp only [List.length_append] at hlen
 have c1:(b.take (p+n).toNat).drop p.toNat=body:=B63 (x:=pre++A8 n) (z:=s4++rest) (by rw [e];simp only [List.append_assoc]) (by rw [List.length_append];omega) (by rw [List.length_append];omega)
 have c2:(b.take (p+n+4).toNat).drop (p+n).toNat=s4:=B63 (x:=pre++(A8 n++body)) (z:=rest) (by rw [e];simp only [List.append_assoc]) (by simp only [List.length_append];omega) (by simp only [List.length_append];omega)
 have gb:=fun a=>(T1 hB (by omega) a)
 obtain ⟨_,d4,d5,d6⟩:=A5x body (by omega)
 obtain ⟨d1,dS⟩:=B8Q hB (by omega)
 have m1:decide (0≤p∧p≤p+n∧p+n≤(b.length:Int))=true:=decide_eq_true (by omega)
 have m2:decide (0≤p+n∧p+n≤p+n+4∧p+n+4≤(b.length:Int))=true:=decide_eq_true (by omega)
 have m3:decide ((([]:List Int).length+body.length)*1≤MAXB)=true:=decide_eq_true (by simp only [List.length_nil,MAXB];omega)
 have m4:decide (0≤(0:Int)∧(0:Int)≤(4:Int)∧(4:Int)≤(((A1c body).size:Nat):Int))=true:=decide_eq_true (by rw [dS];omega)
 simp only [c1,c2,m1,m2,m3,m4,d1,List.nil_append,gb,Bool.true_and]
 cases h2:(gN body 0).2.2 with
 | false=>exact ⟨rfl,.inr rfl⟩
 | true =>
 cases h3:(gN body (gN body 0).2.1).2.2 with
 | false=>exact ⟨rfl,.inr rfl⟩
 | true =>
 simp only [Bool.not_true,cond_false]
 cases hs:((⟨(s4.map fun n=>UInt8.ofNat n.toNat).toArray⟩:ByteArray).toList==((A1c body).extract (0:Int).toNat (4:Int).toNat).toList) with
 | false=>exact ⟨rfl,.inr rfl⟩
 | true =>
 have hs4:s4=A59 body:=by rw [dS] at hs;exact (B6A h4).1 hs
 simp only [Bool.not_true,cond_false]
 generalize e1:gN body 0=x1 at *
 obtain ⟨k,p1,o1⟩:=x1
 simp only at h2 h3 ⊢
 subst h2
 obtain ⟨r1,y1,z1,_,_⟩:=B8T hB e1
 subst z1
 generalize e2:gN body ((A8 k).length:Int)=x2 at *
 obtain ⟨t,p2,o2⟩:=x2
 simp only at h3 ⊢
 subst h3
 obtain ⟨r2,y2,z2,_,_⟩:=B91 (pre:=A8 k) (rest:=r1) (by rw [← y1];exact hB) (by rw [← y1];exact e2)
 subst z2
 have y3:body=(A8 k++A8 t)++r2:=by rw [y1,y2,List.append_assoc]
 have hlb:=congrArg List.length y3
 rw [List.length_append] at hlb
 have hr2:okB r2:=okB.right (by rw [← y3];exact hB)
 have fin:∀ l,F0 k t l=true→A6 k t l=body→∃ k' t' l' pre' post', (k,t,l,p+n+4,true)=(k', t', l', ((pre'.length+(I5 k' t' l').length:Nat):Int),true)∧F0 k' t' l'=true∧b=pre'++(I5 k' t' l'++post')∧a=(pre'.length:Int):=by
  intro l hw hbd
  have hE:p+n+4=((pre.length+(I5 k t l).length:Nat):Int):=by
   rw [I5,hbd,el];simp only [List.length_append,d5];omega
  refine ⟨k,t,l,pre,rest,by rw [hE],hw,?_,ea⟩
  ·rw [I5,hbd,el,e,hs4];simp only [List.append_assoc]
 have et:(body.drop ((A8 k++A8 t).length:Int).toNat).take ((body.length:Int).toNat - ((A8 k++A8 t).length:Int).toNat)=r2:=by
  rw [Int.toNat_natCast,Int.toNat_natCast]
  rw [show body.drop (A8 k++A8 t).length=r2 by rw [y3,List.drop_left]]
  exact List.take_of_length_le (by omega)
 by_cases hr:((A8 k++A8 t).length:Int)<(body.length:Int)
 ·obtain ⟨so1,so2⟩:=B0q hr2 (by omega)
  have m5:decide (0≤((A8 k++A8 t).length:Int)∧((A8 k++A8 t).length:Int)≤(body.length:Int)∧(body.length:Int)≤(body.length:Int))=true:=decide_eq_true (by omega)
  simp only [decide_eq_true hr,cond_true,et,so1,so2,m5,Bool.true_and]
  cases ho:(B4M r2).2 with
  | false=>exact ⟨rfl,.inr rfl⟩
  | true =>
   obtain ⟨m1,m2⟩:=B9E hr2 (l:=(B4M r2).1) (by rw [← ho])
   simp only [Bool.not_true,cond_false,A1a,B1r m1]
   cases hw:F0 k t (B4M r2).1 with
   | false=>exact ⟨trivial,.inr rfl⟩
   | true =>
    refine ⟨trivial,.inl (fin _ hw ?_)⟩
    have hk:(k==1)=true:=by
     cases hk:(k==1) with
     | true=>rfl
     | false =>
      obtain ⟨a1,a2,a3,a4,a7,a8,a9⟩:=A1b hw
      have:=A9s m1
      rw [a8 (by simpa using hk)] at this;simp at this
    rw [A6,hk,cond_true,← m2,y3,List.append_assoc]
 ·simp only [decide_eq_false hr,cond_false,A1a]
  have hr0:r2=[]:=List.eq_nil_of_length_eq_zero (by omega)
  cases hw:F0 k t [] with
  | false=>exact ⟨rfl,.inr rfl⟩
  | true =>
   refine ⟨rfl,.inl (fin _ hw ?_)⟩
   have hk:(k==1)=false:=by
    cases hk:(k==1) with
    | false=>rfl
    | true =>
     obtain ⟨a1,a2,a3,a4,a7,a8,a9⟩:=A1b hw
     have:=A9s (a7 (eq_of_beq hk))
     simp at this
   rw [A6,hk,cond_false,y3,hr0,List.append_nil,List.append_nil]
theorem B67 {b:List Int} (hb:okB b) (hl:b.length≤1099511627776) {i:Nat} (hi:i<b.length) :
    (match pN 5 0 0 (b.drop i) with
      | some (n,l)=>R7 b (i:Int) 0 0=(0,(n:Int),(i:Int)+l,true)
      | none=>R7 b (i:Int) 0 0=(0,0,0,false)∨(R7 b (i:Int) 0 0).1=1):=by
  refine itX_inv (fun v => ∃ k n : Nat, v = (b, ((i + k : Nat) : Int), (n : Int), (k : Int)) ∧ k ≤ 5 ∧ n < 2 ^ (7 * k) ∧ pN (5 - k) k n (b.drop (i + k)) = pN 5 0 0 (b.drop i)) (fun a => match pN 5 0 0 (b.drop i) with
      | some (n,l)=>a=(0,(n:Int),(i:Int)+l,true)
      | none=>a=(0,0,0,false)∨a.1=1) (fun v=>5 - v.2.2.2.toNat) ?_ ⟨0,0,rfl,by omega,by simp,rfl⟩ (by simp)
  rintro v ⟨k,n,rfl,hk,hn,hp⟩
  by_cases h5:k<5
  · have e1:decide ((k:Int)<5)=true:=decide_eq_true (by omega)
    by_cases hik:i+k<b.length
    · have e5:decide (((i+k:Nat):Int)<(b.length:Int))=true:=decide_eq_true (by omega)
      have e6:decide (0≤((i+k:Nat):Int)∧((i+k:Nat):Int)<(b.length:Int))=true:=decide_eq_true (by omega)
      have e7:decide (0≤(IntKind.wrap .u64 (IntKind.wrap .i64 ((7:Int)*(k:Int)))))=true:=by
        rw [wrap64 (n:=(7:Int)*(k:Int)) (by omega) (by omega),B5D (by omega) (by omega)];exact decide_eq_true (by omega)
      obtain ⟨hc0,hc1⟩:=hb.getD (i+k)
      have hdc:=B38 hik
      obtain ⟨c,hc⟩:=Int.eq_ofNat_of_zero_le hc0
      rw [hc] at hc1 hdc
      have hc255:c≤255:=by omega
      obtain ⟨f1,f2,f3⟩:=C1s n c k hc255 h5 hn
      have e8:IntKind.wrap .i64 (c:Int)=(c:Int):=wrap64 (by omega) (by omega)
      have e13:IntKind.wrap .i64 (((i+k:Nat):Int)+1)=((i+k+1:Nat):Int):=wrapU (i+k) (by omega)
      rw [hdc,show 5 - k=(4 - k)+1 by omega,pN] at hp
      simp only [Int.toNat_natCast] at hp
      simp only [A1g,e1,e5,e6,e7,cond_true,Int.toNat_natCast,hc,f1,e13]
      simp only [e8]
      by_cases h127:c > 127
      · rw [if_pos (by omega)] at hp
        have e9:decide ((c:Int)<128)=false:=decide_eq_false (by omega)
        simp only [e9,cond_false]
        refine .inl ⟨_,rfl,⟨k+1,n+c % 128*2 ^ (7*k),?_,by omega,f2,?_⟩,?_⟩
        · rw [wrapU k (by omega)];rfl
        · rw [show 5 - (k+1)=4 - k by omega,← hp];rfl
        · rw [wrapU k (by omega)];simp;omega
      · rw [if_neg (by omega)] at hp
        have e9:decide ((c:Int)<128)=true:=decide_eq_true (by omega)
        have hcm:c % 128=c:=by omega
        rw [hcm] at f3 ⊢
        simp only [e9,cond_true]
        right
        by_cases hz:0<k∧c=0
        · rw [if_pos (by omega)] at hp
          have e10:decide ((k:Int) > 0)=true:=decide_eq_true (by omega)
          have e11:((c:Int)==0)=true:=by rw [beq_iff_eq];omega
          simp only [e10,e11,cond_true]
          exact ⟨_,rfl,by rw [← hp];exact .inl rfl⟩
        · by_cases hg:n+c*2 ^ (7*k) > 1000000000
          · rw [if_pos (.inr hg)] at hp
            have e12:decide (((n+c*2 ^ (7*k):Nat):Int) > 1000000000)=true:=decide_eq_true (by omega)
            simp only [e12,cond_true]
            refine ⟨(0,0,0,false),?_,by rw [← hp];exact .inl rfl⟩
            cases decide ((k:Int) > 0)<;>cases ((c:Int)==0)<;>rfl
          · rw [if_neg (fun h=>h.elim (fun h=>hz ⟨h.1,by omega⟩) hg)] at hp
            have e12:decide (((n+c*2 ^ (7*k):Nat):Int) > 1000000000)=false:=decide_eq_false (by omega)
            simp only [e12,cond_false]
            refine ⟨(0,((n+c*2 ^ (7*k):Nat):Int),((i+k+1:Nat):Int),true),?_,?_⟩
            · by_cases h0:0<k
              · have e10:decide ((k:Int) > 0)=true:=decide_eq_true (by omega)
                have e11:((c:Int)==0)=false:=by rw [beq_eq_false_iff_ne];intro h;exact hz ⟨h0,by omega⟩
                simp only [e10,e11,cond_true,cond_false]
              · have e10:decide ((k:Int) > 0)=false:=decide_eq_false (by omega)
                simp only [e10,cond_false]
                cases ((c:Int)==0)<;>rfl
            · rw [← hp];show _=_
              congr 3
    · have e5:decide (((i+k:Nat):Int)<(b.length:Int))=false:=decide_eq_false (by omega)
      rw [show 5 - k=(4 - k)+1 by omega,List.drop_eq_nil_of_le (by omega),pN] at hp
      simp only [A1g,e1,e5,cond_true,cond_false]
      exact .inr ⟨_,rfl,by rw [← hp];exact .inr rfl⟩
  · obtain rfl:k=5:=by omega
    have e1:decide (((5:Nat):Int)<5)=false:=by decide
    simp only [A1g,e1,cond_false]
    exact .inr ⟨_,rfl,by rw [← hp];exact .inr rfl⟩
theorem A2G {b:List Int} (hb:okB b) (hl:b.length≤1099511627776) (a:Int):B8 b a=gN b a∧P7 b a=true:=by
 have hw:IntKind.wrap .i64 ((b.length:Int) - 1)=(b.length:Int) - 1:=wrap64 (by omega) (by omega)
 simp only [B8,P7,gN,T6,hw]
 by_cases h:0≤a∧a<b.length
 ·obtain ⟨i,rfl⟩:=Int.eq_ofNat_of_zero_le h.1
  have hi:i<b.length:=by omega
  have e1:decide ((i:Int) ≥ 0)=true:=decide_eq_true (by omega)
  have e2:decide ((i:Int)≤(b.length:Int) - 1)=true:=decide_eq_true (by omega)
  rw [if_pos h,Int.toNat_natCast]
  simp only [e1,e2,cond_true,Bool.not_true,cond_false]
  have:=B67 hb hl hi
  cases hp:pN 5 0 0 (b.drop i) with
  | some x =>
   rw [hp] at this
   simp only at this
   rw [this];exact ⟨rfl,rfl⟩
  | none =>
   rw [hp] at this
   rcases this with h1 | h1
   ·rw [h1];exact ⟨rfl,rfl⟩
   ·rw [h1];exact ⟨rfl,rfl⟩
 ·rw [if_neg h]
  have e:cond (decide (a ≥ 0)) (decide (a≤(b.length:Int) - 1)) false=false:=by
   by_cases h1:a ≥ 0
   ·rw [decide_eq_true h1,cond_true,decide_eq_false (by omega)]
   ·rw [decide_eq_false h1,cond_false]
  rw [e];exact ⟨rfl,rfl⟩
theorem Y6 {b:List Int} (hb:okB b) (hl:b.length≤1048576) (a:Int) (bad:Bool):B7 b a bad=true∧A7 b a bad=cond bad ((0:Int),b,a,true) (cond (gN b a).2.2 ((gN b a).1,b,(gN b a).2.1,false) ((0:Int),b,a,true)):=by
 obtain ⟨h1,h2⟩:=A2G hb (by omega) a
 simp only [A7,B7,h1,h2]
 cases bad<;>cases (gN b a).2.2<;>simp
noncomputable def B7w (b:List Int) (a:Int):Option (Lq1×Int) :=
 cond (gN b a).2.2 (cond (decide ((gN b a).1≤8)) (pO (gN b a).1.toNat b (gN b a).2.1 []) none) none
theorem B3n {b:List Int} (hb:okB b) (hl:b.length≤1099511627776) (a:Int):A6X b a=gT b a∧A0s b a=true:=by
 obtain ⟨h1,h2⟩:=A2G hb hl a
 obtain ⟨h3,h4⟩:=B92 hb hl a
 rw [h3]
 simp only [A6X,A0s,h1,h2,Bool.true_and]
 exact ⟨trivial,h4⟩
theorem A9R {b:List Int} (hb:okB b) (hl:b.length≤1048576) (a:Int) (bad:Bool):C4 b a bad=true∧R6 b a bad=cond bad ((⟨#[]⟩:ByteArray),b,a,true) (cond (gT b a).2.2 ((gT b a).1,b,(gT b a).2.1,false) ((⟨#[]⟩:ByteArray),b,a,true)):=by
 obtain ⟨h1,h2⟩:=B3n hb (by omega) a
 simp only [R6,C4,h1,h2]
 cases bad<;>cases (gT b a).2.2<;>simp
theorem B58 {b:List Int} (hb:okB b) (hl:b.length≤1048576) (a:Int) (bad:Bool) :
  B7 b a bad=true∧C4 (A7 b a bad).2.1 (A7 b a bad).2.2.1 (A7 b a bad).2.2.2=true ∧
  C4 (B4 b a bad).2.1 (B4 b a bad).2.2.1 (B4 b a bad).2.2.2=true ∧
  (B6 b a bad).2.1=b∧(B4 b a bad).1.size≤b.length∧(B6 b a bad).1.size≤b.length ∧
  (bad=true→(B6 b a bad).2.2.2=true) ∧
  (bad=false→(B6 b a bad).2.2.2=!(gO b a).2.2) ∧
  (bad=false→(gO b a).2.2=true→(B6 b a bad).2.2.1=(gO b a).2.1∧((A7 b a bad).1,(B4 b a bad).1,(B6 b a bad).1)=(gO b a).1):=by
 obtain ⟨n1,n2⟩:=Y6 hb hl a bad
 have nb:(A7 b a bad).2.1=b:=by rw [n2];cases bad<;>cases (gN b a).2.2<;>rfl
 have t:=fun (x:Int) (y:Bool)=>A9R hb hl x y
 have tb:∀ x y,(R6 b x y).2.1=b:=fun x y=>by rw [(t x y).2];cases y<;>cases (gT b x).2.2<;>rfl
 have ts:∀ x y,(R6 b x y).1.size≤b.length:=fun x y=>by
  rw [(t x y).2]
  cases y with
  | true=>exact Nat.zero_le _
  | false=>cases (gT b x).2.2 with
   | true=>exact B4N hb x
   | false=>exact Nat.zero_le _
 refine ⟨n1,by rw [nb];exact (t _ _).1,?_,?_,?_,?_,?_,?_,?_⟩
 ·simp only [B4,nb,tb];exact (t _ _).1
 ·simp only [B6,B4,nb,tb]
 ·simp only [B4,nb];exact ts _ _
 ·simp only [B6,B4,nb,tb];exact ts _ _
 ·rintro rfl
  simp only [B6,B4,nb,tb]
  simp only [n2,t,cond_true]
 ·rintro rfl
  simp only [B6,B4,nb,tb]
  simp only [n2,cond_false,gO]
  cases h1:(gN b a).2.2 with
  | false=>simp only [cond_false,t,cond_true];rfl
  | true =>
   simp only [cond_true,t,cond_false]
   cases h2:(gT b (gN b a).2.1).2.2 with
   | false=>simp only [cond_false,cond_true];rfl
   | true =>
    simp only [cond_true,cond_false]
    cases h3:(gT b (gT b (gN b a).2.1).2.1).2.2<;>rfl
 ·rintro rfl hc
  simp only [B6,B4,nb,tb]
  simp only [gO,Bool.and_eq_true] at hc ⊢
  obtain ⟨h1,h2,h3⟩:=hc
  simp only [n2,cond_false,h1,cond_true,t,h2,h3]
  exact ⟨trivial,trivial⟩
theorem B2w {b:List Int} (hb:okB b) (hl:b.length≤1048576) (n p:Int) (bad:Bool) (hn:n≤8) (h0:0≤n) :
    (H4 n 0 b p bad []).1=0∧(H4 n 0 b p bad []).2.1=b∧F5 (H4 n 0 b p bad []).2.2.2.2=true∧(match cond bad none (pO n.toNat b p []) with
      | some (l,q)=>H4 n 0 b p bad []=(0,b,q,false,l)
      | none=>(H4 n 0 b p bad []).2.2.2.1=true):=by
  refine itX_inv (fun v : T5 => ∃ (i : Nat) (p' : Int) (bd : Bool) (l : Lq1), v = (n, (i : Int), b, p', bd, l) ∧ (i : Int) ≤ n ∧ l.length = i ∧ F5 l = true ∧ cond bd none (pO (n.toNat - i) b p' l) = cond bad none (pO n.toNat b p [])) (fun a : L5 => a.1 = 0 ∧ a.2.1 = b ∧ F5 a.2.2.2.2 = true ∧ (match cond bad none (pO n.toNat b p []) with
      | some (l,q)=>a=(0,b,q,false,l)
      | none=>a.2.2.2.1=true)) (fun v=>8 - v.2.1.toNat) ?_ ⟨0,p,bad,[],rfl,h0,rfl,rfl,rfl⟩ (by simp)
  rintro v ⟨i,p', bd,l,rfl,hi,hll,hok,hp⟩
  by_cases h5:(i:Int)<n
  · have e1:decide ((i:Int)<n)=true:=decide_eq_true h5
    obtain ⟨q1,q2,q3,q4,q5,q6,q7,q8,q9⟩:=B58 hb hl p' bd
    have e2:∀ o:Int×ByteArray×ByteArray,decide ((l.length+[o].length)*40≤MAXB)=true:=fun o=>decide_eq_true (by simp only [List.length_singleton,MAXB];omega)
    simp only [Z4,e1,q1,q2,q3,q4,e2,cond_true]
    refine .inl ⟨_,rfl,⟨i+1,_,_,l++[((A7 b p' bd).1,(B4 b p' bd).1,(B6 b p' bd).1)],by rw [wrapU i (by omega)],by omega,by simp [hll],?_,?_⟩,?_⟩
    · simp only [F5,okL,List.length_append,List.length_singleton,List.all_append,List.all_cons,List.all_nil,Bool.and_true,Bool.and_eq_true,decide_eq_true_eq] at hok ⊢
      exact ⟨by omega,hok.2,by simp only [B9e,okS,Bool.and_eq_true,decide_eq_true_eq];omega⟩
    · rw [← hp]
      cases bd with
      | true=>rw [q7 rfl];rfl
      | false =>
        rw [q8 rfl,show n.toNat - i=(n.toNat - (i+1))+1 by omega,pO]
        cases hc:(gO b p').2.2 with
        | false=>rfl
        | true =>
          obtain ⟨z1,z2⟩:=q9 rfl hc
          rw [z1,z2];rfl
    · rw [wrapU i (by omega)];simp;omega
  · have e1:decide ((i:Int)<n)=false:=decide_eq_false h5
    have e3:n.toNat - i=0:=by omega
    rw [e3,pO] at hp
    simp only [Z4,e1,cond_false]
    refine .inr ⟨_,rfl,rfl,rfl,hok,?_⟩
    rw [← hp]
    cases bd<;>rfl
theorem A4W {b:List Int} (hb:okB b) (hl:b.length≤1048576) (a:Int) (bad:Bool):O4 b a bad=true∧(J9 b a bad).1=b∧F5 (J9 b a bad).2.2.2=true ∧
  (match cond bad none (B7w b a) with
   | some (l,q)=>J9 b a bad=(b,q,false,l)
   | none=>(J9 b a bad).2.2.1=true):=by
 obtain ⟨n1,n2⟩:=Y6 hb hl a bad
 have nb:(A7 b a bad).2.1=b:=by rw [n2];cases bad<;>cases (gN b a).2.2<;>rfl
 have nr:0≤(A7 b a bad).1:=by
  rw [n2]
  cases bad with
  | true=>exact Int.le_refl _
  | false=>cases h:(gN b a).2.2 with
   | true=>exact (A6R hb h).2.2.2.1
   | false=>exact Int.le_refl _
 simp only [J9,O4,A08,n1,nb,Bool.true_and]
 by_cases h8:(A7 b a bad).1≤8
 ·have e1:decide ((A7 b a bad).1 > 8)=false:=decide_eq_false (by omega)
  obtain ⟨i1,i2,i3,i4⟩:=B2w hb hl (A7 b a bad).1 (A7 b a bad).2.2.1 (A7 b a bad).2.2.2 h8 nr
  simp only [e1,cond_false,i1,i2,i3]
  refine ⟨rfl,trivial,trivial,?_⟩
  revert i4
  rw [n2]
  cases bad with
  | true=>simp
  | false =>
   simp only [cond_false,B7w]
   cases h:(gN b a).2.2 with
   | false=>simp
   | true =>
    have h9:decide ((gN b a).1≤8)=true:=by rw [n2] at h8;simp only [cond_false,h,cond_true] at h8;exact decide_eq_true h8
    simp only [cond_true,h9,cond_false]
    cases pO (gN b a).1.toNat b (gN b a).2.1 [] with
    | none=>exact id
    | some x=>intro i4;simp only at i4 ⊢;rw [i4]
 ·have e1:decide ((A7 b a bad).1 > 8)=true:=decide_eq_true (by omega)
  simp only [e1,cond_true]
  refine ⟨trivial,trivial,rfl,?_⟩
  cases bad with
  | true=>simp
  | false =>
   simp only [cond_false,B7w]
   rw [n2] at h8
   cases h:(gN b a).2.2 with
   | false=>rw [h] at h8;simp at h8
   | true =>
    simp only [cond_false,h,cond_true] at h8
    simp only [cond_true,decide_eq_false h8,cond_false]
theorem C0l:∀ (j x:Nat),x<128 ^ (j+1)→x<9223372036854775808→okB (hiB j x):=by
 intro j
 induction j with
 | zero=>intro x h h';rw [A2b 0 x (by simp at h;omega)];intro c hc;simp at hc;simp at h;omega
 | succ j ih =>
  intro x h h'
  by_cases hx:127<x
  ·rw [B2u j x hx h']
   rw [Nat.pow_succ] at h
   have hx':x / 128<128 ^ (j+1):=Nat.div_lt_of_lt_mul (by rw [Nat.mul_comm];exact h)
   intro c hc
   rcases List.mem_cons.1 hc with rfl | hc
   ·omega
   ·exact ih (x / 128) hx' (by omega) c hc
  ·rw [A2b _ x hx];intro c hc;simp at hc;omega
theorem A2J {x:Int} (h0:0≤x) (h1:x≤1000000000):okB (A8 x):=by
 obtain ⟨n,rfl⟩:=Int.eq_ofNat_of_zero_le h0
 rw [B10];exact C0l 4 n (by simp;omega) (by omega)
theorem B6g {l:Lq1} (h:L4 l=true):(A3A l).length≤400:=by
 obtain ⟨a1,a2⟩:=N5 h
 have h5:=B8S (M:=47) l (fun o ho'=>by have:=a2 o ho';have:=B9Q o;omega)
 have h6:=P5 (l.length:Int)
 simp only [A3A,List.length_append];omega
theorem B6B {s:ByteArray} (h:s.size≤1000000000):okB (I4 s):=(A2J (by omega) (by omega)).app (B28 s)
theorem C0z {o:Int×ByteArray×ByteArray} (h:B65 o):okB (opB o):=by
 obtain ⟨h0,h1,h2,h3⟩:=h
 simp only [opB,A0C h0 h1]
 exact (A2J h0 h1).app ((B6B h2).app (B6B h3))
theorem B9D:∀ l:Lq1,(∀ o∈l,B65 o)→okB (l.map opB).flatten:=by
 intro l
 induction l with
 | nil=>intro _ c hc;simp at hc
 | cons o l ih=>intro h;simp only [List.map_cons,List.flatten_cons];exact (C0z (h o (by simp))).app (ih fun x hx=>h x (by simp [hx]))
theorem B4l {l:Lq1} (h:L4 l=true):∀ o∈l,B65 o:=by
 intro o ho
 obtain ⟨_,a2⟩:=N5 h
 have a3:=a2 o ho
 simp only [L4] at h
 cases h5:allF (A44 l) (l.length - (0:Int).toNat) (0:Int).toNat with
 | false=>rw [h5] at h;simp at h
 | true =>
  obtain ⟨i,hi,rfl⟩:=List.getElem_of_mem ho
  have h6:=(allF_true _ _).1 h5 i (Nat.zero_le _) (by simpa using hi)
  simp only [A44,Bool.and_eq_true,List.getD_eq_getElem?_getD,List.getElem?_eq_getElem hi,Option.getD_some] at h6
  have h7:=h6.1
  simp only [B0x,P8] at h7
  cases h8:decide ((l[i]).1 ≥ 1) with
  | false=>simp [h8] at h7
  | true =>
   cases h9:decide ((l[i]).1≤3) with
   | false=>simp [h8,h9] at h7
   | true =>
    have:=of_decide_eq_true h8
    have:=of_decide_eq_true h9
    exact ⟨by omega,by omega,by omega,by omega⟩
theorem B7A {l:Lq1} (h:L4 l=true):okB (A3A l):=by
 obtain ⟨a1,_⟩:=N5 h
 exact (A2J (by omega) (by omega)).app (B9D l (B4l h))
theorem A1A {k t:Int} {l:Lq1} (h:F0 k t l=true):okB (A6 k t l)∧(A6 k t l).length≤410∧2≤(A6 k t l).length:=by
 obtain ⟨a1,a2,a3,a4,a7,a8,a9⟩:=A1b h
 have l1:=P5 k;have l2:=P5 t
 have m1:1≤(A8 k).length:=by simp [A8]
 have m2:1≤(A8 t).length:=by simp [A8]
 cases hk:(k==1) with
 | true =>
  have ho:=a7 (eq_of_beq hk)
  have l5:=B6g ho
  refine ⟨?_,by simp only [A6,hk,cond_true,List.length_append];omega,by simp only [A6,hk,cond_true,List.length_append];omega⟩
  simp only [A6,hk,cond_true]
  exact (A2J (by omega) (by omega)).app ((A2J (by omega) (by omega)).app (B7A ho))
 | false =>
  refine ⟨?_,by simp only [A6,hk,cond_false,List.length_append,List.length_nil];omega,by simp only [A6,hk,cond_false,List.length_append,List.length_nil];omega⟩
  simp only [A6,hk,cond_false]
  exact (A2J (by omega) (by omega)).app ((A2J (by omega) (by omega)).app (fun c hc=>by simp at hc))
theorem B90 {p:Prop} {i:Decidable p} (h:p):@decide p i=true:=@decide_eq_true p i h
theorem A5z {k t:Int} {l:Lq1} (h:F0 k t l=true):U5 k t l=true∧A1O k t l=I5 k t l:=by
 obtain ⟨a1,a2,a3,a4,a7,a8,ho⟩:=A1b h
 obtain ⟨b1,b2,b3⟩:=A1A h
 obtain ⟨d2,d4,d5,d6⟩:=A5x (A6 k t l) (by omega)
 have e0:E8 t (C2 k)=A8 k++A8 t:=by
  rw [A1r,A3v,A0C (by omega) (by omega),A0C (by omega) (by omega)]
 have e1:∀ n:Nat,n≤410→C2 (n:Int)=A8 (n:Int):=fun n hn=>by rw [A3v,A0C (by omega) (by omega)]
 have sz:((H6 (A6 k t l)).extract 0 4).size=4:=by rw [ByteArray.size_extract,d4];rfl
 have lb:=P5 ((A6 k t l).length:Int)
 have l0:=A6a k
 have lk:=P5 k
 have lt:=P5 t
 cases hk:(k==1) with
 | true =>
  have hs:=a7 (eq_of_beq hk)
  have hl:=A9s hs
  have hd:decide ((l.length:Int) > 0)=true:=decide_eq_true (by omega)
  have oe:A5y l (A8 k++A8 t)=A6 k t l:=by
   obtain ⟨c1,_⟩:=N5 hs
   rw [B69 l _ ho,A0C (by omega) (by omega)]
   simp only [A6,hk,cond_true,List.append_assoc,A3A]
  refine ⟨?_,?_⟩
  ·simp only [U5,D1,A2W,hd,ho,e0,oe,e1 _ b2,d2,d4,cond_true,Bool.true_and,Int.toNat_zero,List.length_append]
   rw [show ((4:Int).toNat)=4 from rfl,sz]
   simp only [Bool.and_eq_true,Bool.and_true,MAXB,d4]
   repeat' first | exact B90 (by omega) | exact trivial | refine And.intro ?_ ?_
  ·simp only [A1O,hd,e0,oe,e1 _ b2,cond_true]
   simp only [I5,A59,List.append_assoc];rfl
 | false =>
  have hn:=a8 (by rw [beq_eq_false_iff_ne] at hk;exact hk)
  have hd:decide ((l.length:Int) > 0)=false:=decide_eq_false (by rw [hn];simp)
  have be:A8 k++A8 t=A6 k t l:=by simp only [A6,hk,cond_false,List.append_nil]
  refine ⟨?_,?_⟩
  ·simp only [U5,D1,hd,e0,be,e1 _ b2,d2,d4,cond_false,Bool.true_and,Int.toNat_zero,List.length_append]
   rw [show ((4:Int).toNat)=4 from rfl,sz]
   simp only [Bool.and_eq_true,MAXB,d4]
   repeat' first | exact B90 (by omega) | exact trivial | refine And.intro ?_ ?_
  ·simp only [A1O,hd,e0,be,e1 _ b2,cond_false]
   simp only [I5,A59,List.append_assoc];rfl
theorem A8h {a b:List Int} (ha:okB a) (hb:okB b):M8 a b=true↔a=b:=by
 have e:M8 a b=((A71 a).toList==(A71 b).toList):=rfl
 rw [e,beq_iff_eq]
 constructor
 ·intro h
  have h2:A71 a=A71 b:=by
   have h3:=congrArg (fun l=>(⟨l.toArray⟩:ByteArray)) h
   have k:∀ s:ByteArray,(⟨s.toList.toArray⟩:ByteArray)=s:=fun s=>by rw [ByteArray.toList_eq]
   simpa only [k] using h3
  rw [← A2R ha,← A2R hb,h2]
 ·rintro rfl;rfl
theorem A7Z {k t:Int} {l:Lq1} (h:F0 k t l=true):okB (I5 k t l)∧(I5 k t l).length≤419∧5≤(I5 k t l).length:=by
 obtain ⟨a1,a2,a3⟩:=A1A h
 obtain ⟨_,_,b1,b2⟩:=A5x (A6 k t l) (by omega)
 have l1:=P5 ((A6 k t l).length:Int)
 refine ⟨(A2J (by omega) (by omega)).app (a1.app b2),?_,?_⟩<;>simp only [I5,List.length_append]<;>omega
theorem B7b (s:ByteArray) (i:Nat):A5N s i=A5w s i:=by
 have hb:0≤bt s (i:Int)∧bt s (i:Int)<256:=by
  unfold bt
  split
  ·have:=UInt8.toNat_lt s[(i:Int).toNat];omega
  ·simp
 have e:=wrap64 (n:=bt s (i:Int)) (by omega) (by omega)
 simp only [A5N,A5w,P8,A3u,e]
 generalize bt s (i:Int)=c
 by_cases h1:c ≥ 97<;>by_cases h2:c≤122<;>by_cases h3:c ≥ 48<;>by_cases h4:c≤57<;>simp [h1,h2,h3,h4]
theorem B7c (s:ByteArray):A4o s=A4f s:=by
 have e:allF (A5N s) (s.size - (0:Int).toNat) (0:Int).toNat=allF (A5w s) (s.size - (0:Int).toNat) (0:Int).toNat:=B18 _ _ (fun j _ _=>B7b s j)
 simp only [A4o,A4f,B1Z,T6,P8,e]
 cases allF (A5w s) (s.size - (0:Int).toNat) (0:Int).toNat<;>cases decide ((s.size:Int) ≥ 1)<;>cases decide ((s.size:Int)≤12)<;>rfl
theorem B8j (k:Int) (s v:ByteArray):B0x k s v=B2x k s v:=by
 simp only [B0x,B2x,B7c,C0g,P8]
 cases A4f s with
 | false =>
  by_cases h1:k=1<;>by_cases h2:k=2<;>by_cases h3:k=3<;>by_cases h4:v=⟨#[]⟩<;>by_cases h5:k ≥ 1<;>by_cases h6:k≤3<;>simp [h1,h2,h3,h4,h5,h6]<;>omega
 | true =>
  by_cases h2:k=2
  ·subst h2
   by_cases h4:v=⟨#[]⟩
   ·subst h4;simp [ByteArray.size]
   ·simp [h4]
  ·by_cases h1:k=1
   ·subst h1;simp
   ·by_cases h3:k=3
    ·subst h3;simp
    ·by_cases h5:k ≥ 1<;>by_cases h6:k≤3<;>simp [h1,h2,h3,h5,h6]<;>omega
theorem B8i (l:Lq1) (i:Nat):A44 l i=B1o l i:=by
 simp only [A44,B1o,B8j]
 rw [← B4F,Bool.not_not]
theorem B7i (l:Lq1):L4 l=B2v l:=by
 have e:allF (A44 l) (l.length - (0:Int).toNat) (0:Int).toNat=allF (B1o l) (l.length - (0:Int).toNat) (0:Int).toNat:=B18 _ _ (fun j _ _=>B8i l j)
 simp only [L4,B2v,e]
 rfl
theorem A9r (k t:Int) (l:Lq1):F0 k t l=A6Y k t l:=by
 simp only [F0,A6Y,B1p,B7i]
 rw [show T6 t 1 1000000=P8 t 1 1000000 from rfl]
 cases P8 t 1 1000000<;>simp
theorem A9g {b:List Int} (hb:okB b) (hl:b.length≤1048576) (a:Int):A0G b a=true∧((∃ k t l pre post,L3 b a=(k,t,((pre.length+(I5 k t l).length:Nat):Int),true,l)∧F0 k t l=true∧b=pre++(I5 k t l++post)∧a=(pre.length:Int))∨L3 b a=(0,0,a,false,[])):=by
 obtain ⟨g1,g2⟩:=A2G hb (by omega) a
 simp only [L3,A0G,g1,g2,O3,T0,A3x,A9h,A5B,A3y,A9i,A5C,Bool.true_and]
 cases h1:(gN b a).2.2 with
 | false=>exact ⟨rfl,.inr rfl⟩
 | true =>
 obtain ⟨r1,r2,r3,r4,r5⟩:=A6R hb h1
 generalize eg:gN b a=g at *
 obtain ⟨n,p,o⟩:=g
 simp only at h1 r1 r2 r3 r4 r5 ⊢
 subst h1
 obtain ⟨w1,w2,w3,w4⟩:=B5E (len:=(b.length:Int)) (p:=p) (n:=n) ⟨by omega,by omega⟩ ⟨by omega,by omega⟩ ⟨by omega,by omega⟩
 simp only [w1,w2,w3,w4,Bool.not_true,cond_false]
 by_cases hn:n > (b.length:Int) - p - 4
 ·simp only [decide_eq_true hn,cond_true];exact ⟨trivial,.inr trivial⟩
 simp only [decide_eq_false hn,cond_false]
 obtain ⟨pre,body,s4,rest,e,ea,ep,el,e4,n1,n0,hB,h4⟩:=B7y hb hl eg hn
 have hlen:=congrArg List.length e
 simp only [List.length_append] at hlen
 have c1:(b.take (p+n).toNat).drop p.toNat=body:=B63 (x:=pre++A8 n) (z:=s4++rest) (by rw [e];simp only [List.append_assoc]) (by rw [List.length_append];omega) (by rw [List.length_append];omega)
 have c3:(b.take (p+n+4).toNat).drop a.toNat=A8 n++(body++s4):=B63 (x:=pre) (z:=rest) (by rw [e];simp only [List.append_assoc]) ea (by simp only [List.length_append];omega)
 have hlB:body.length≤1048576:=by omega
 have gn:=fun a bad=>Y6 hB hlB a bad
 have nb:∀ a bad,(A7 body a bad).2.1=body:=fun a bad=>by rw [(gn a bad).2];cases bad<;>cases (gN body a).2.2<;>rfl
 have gq:∀ a bad,B7 body a bad=true:=fun a bad=>(gn a bad).1
 have go:=fun a bad=>A4W hB hlB a bad
 have m1:decide (0≤p∧p≤p+n∧p+n≤(b.length:Int))=true:=decide_eq_true (by omega)
 have m2:decide (0≤a∧a≤p+n+4∧p+n+4≤(b.length:Int))=true:=decide_eq_true (by omega)
 have h3B:okB (A8 n++(body++s4)):=(A2J n0 n1).app (hB.app h4)
 have fin:∀ k t l,F0 k t l=true→M8 (A1O k t l) (A8 n++(body++s4))=true→∃ k' t' l' pre' post', (k,t,p+n+4,true,l)=(k', t', ((pre'.length+(I5 k' t' l').length:Nat):Int),true,l')∧F0 k' t' l'=true∧b=pre'++(I5 k' t' l'++post')∧a=(pre'.length:Int):=by
  intro k t l hw he
  obtain ⟨_,i2⟩:=A5z hw
  rw [i2] at he
  have he:=(A8h (A7Z hw).1 h3B).1 he
  have hE:p+n+4=((pre.length+(I5 k t l).length:Nat):Int):=by rw [he];simp only [List.length_append,e4];omega
  refine ⟨k,t,l,pre,rest,by rw [hE],hw,?_,ea⟩
  rw [he,e];simp only [List.append_assoc]
 simp only [c1,c3,m1,m2,nb,gq,Bool.true_and]
 generalize A7 body 0 false=x1
 generalize A7 body x1.2.2.1 x1.2.2.2=x2
 cases hk:(x1.1==1) with
 | true =>
  obtain ⟨o1,o2,o3,o4⟩:=go x2.2.2.1 x2.2.2.2
  simp only [cond_true,o1,Bool.true_and]
  cases hbad:(J9 body x2.2.2.1 x2.2.2.2).2.2.1 with
  | true=>exact ⟨rfl,.inr rfl⟩
  | false =>
   simp only [cond_false,A09,o3,Bool.true_and]
   cases hw:A6Y x1.1 x2.1 (J9 body x2.2.2.1 x2.2.2.2).2.2.2 with
   | false=>exact ⟨rfl,.inr rfl⟩
   | true =>
    rw [← A9r] at hw
    simp only [Bool.not_true,cond_false,(A5z hw).1,Bool.and_self]
    cases he:M8 (A1O x1.1 x2.1 (J9 body x2.2.2.1 x2.2.2.2).2.2.2) (A8 n++(body++s4)) with
    | false=>exact ⟨trivial,.inr rfl⟩
    | true=>exact ⟨trivial,.inl (fin _ _ _ hw he)⟩
 | false =>
  simp only [cond_false]
  cases hbad:x2.2.2.2 with
  | true=>exact ⟨rfl,.inr rfl⟩
  | false =>
   have o3:F5 []=true:=rfl
   simp only [cond_false,A09,o3,Bool.true_and]
   cases hw:A6Y x1.1 x2.1 [] with
   | false=>exact ⟨rfl,.inr rfl⟩
   | true =>
    rw [← A9r] at hw
    simp only [Bool.not_true,cond_false,(A5z hw).1,Bool.and_self]
    cases he:M8 (A1O x1.1 x2.1 []) (A8 n++(body++s4)) with
    | false=>exact ⟨trivial,.inr rfl⟩
    | true=>exact ⟨trivial,.inl (fin _ _ _ hw he)⟩
theorem C0A:∀ (j k n x:Nat) (post:List Int),x<128 ^ (j+1)→(0<k→0<x)→n+x*2 ^ (7*k)≤1000000000→pN (j+1) k n (hiB j x++post)=some (n+x*2 ^ (7*k),k+(hiB j x).length):=by
 intro j
 induction j with
 | zero =>
  intro k n x post h1 h2 h3
  have hx:¬ 127<x:=by simp at h1;omega
  rw [A2b 0 x hx]
  simp only [List.cons_append,List.nil_append,pN,List.length_singleton,Int.toNat_natCast]
  rw [if_neg (by omega),if_neg (by omega)]
 | succ j ih =>
  intro k n x post h1 h2 h3
  by_cases hx:127<x
  ·have hb : x < 9223372036854775808 := by
    have:x*1≤x*2 ^ (7*k):=Nat.mul_le_mul_left _ (Nat.pow_pos (by decide))
    omega
   rw [B2u j x hx hb]
   have hx':x / 128<128 ^ (j+1):=Nat.div_lt_of_lt_mul (by rw [Nat.pow_succ] at h1;rw [Nat.mul_comm];exact h1)
   have e:n+x % 128*2 ^ (7*k)+x / 128*2 ^ (7*(k+1))=n+x*2 ^ (7*k):=by
    rw [show 7*(k+1)=7*k+7 by omega,Nat.pow_add]
    have:=Nat.div_add_mod x 128
    have h4:x*2 ^ (7*k)=(128*(x / 128)+x % 128)*2 ^ (7*k):=by rw [this]
    rw [h4,Nat.add_mul,show (2:Nat) ^ 7=128 from rfl,Nat.mul_comm 128 (x / 128),Nat.mul_assoc,Nat.mul_comm 128 (2 ^ (7*k)),← Nat.mul_assoc]
    omega
   have:=ih (k+1) (n+x % 128*2 ^ (7*k)) (x / 128) post hx' (fun _=>by omega) (by rw [e];exact h3)
   simp only [List.cons_append,pN]
   rw [if_pos (by omega)]
   have e2:(((128+x % 128:Nat):Int).toNat % 128)=x % 128:=by omega
   rw [e2,this,e]
   simp only [List.length_cons]
   congr 2;omega
  ·rw [A2b _ x hx]
   simp only [List.cons_append,List.nil_append,pN,List.length_singleton,Int.toNat_natCast]
   rw [if_neg (by omega),if_neg (by omega)]
theorem C0C {n:Int} (h0:0≤n) (h1:n≤1000000000) (post:List Int):pN 5 0 0 (A8 n++post)=some (n.toNat,(A8 n).length):=by
 obtain ⟨x,rfl⟩:=Int.eq_ofNat_of_zero_le h0
 rw [B10,C0A 4 0 0 x post (by simp;omega) (by omega) (by simp;omega)]
 simp
theorem B0L {n:Int} (h0:0≤n) (h1:n≤1000000000) (pre post:List Int):gN (pre++(A8 n++post)) (pre.length:Int)=(n,(pre.length:Int)+(A8 n).length,true):=by
 have hl:1≤(A8 n).length:=by simp [A8]
 simp only [gN]
 rw [if_pos (by simp only [List.length_append];omega),Int.toNat_natCast,List.drop_left,C0C h0 h1]
 show ((n.toNat:Int),_,_)=_
 rw [Int.toNat_of_nonneg h0]
theorem B7D {k t:Int} {l:Lq1} (h:F0 k t l=true) {b pre post:List Int} (e:b=pre++(I5 k t l++post)) :
  gN b (pre.length:Int)=(((A6 k t l).length:Int),(pre.length:Int)+((A8 ((A6 k t l).length:Int)).length:Int),true) ∧
  gN (A6 k t l) 0=(k,((A8 k).length:Int),true)∧gN (A6 k t l) ((A8 k).length:Int)=(t,((A8 k++A8 t).length:Int),true) ∧
  b.length=pre.length+(A8 ((A6 k t l).length:Int)).length+(A6 k t l).length+4+post.length:=by
 obtain ⟨a1,a2,a3,a4,a7,a8,ho⟩:=A1b h
 obtain ⟨b1,b2,b3⟩:=A1A h
 obtain ⟨_,_,d5,d6⟩:=A5x (A6 k t l) (by omega)
 have h1:=B0L (n:=((A6 k t l).length:Int)) (by omega) (by omega) pre ((A6 k t l++A59 (A6 k t l))++post)
 have h2:=B0L (n:=k) (by omega) (by omega) [] (A8 t++cond (k==1) (A3A l) [])
 have h3:=B0L (n:=t) (by omega) (by omega) (A8 k) (cond (k==1) (A3A l) [])
 have e':b=pre++(A8 ((A6 k t l).length:Int)++((A6 k t l++A59 (A6 k t l))++post)):=by rw [e,I5,List.append_assoc]
 rw [← e'] at h1
 refine ⟨h1,?_,?_,?_⟩
 ·simpa [A6] using h2
 ·rw [List.length_append,Int.natCast_add];exact h3
 ·rw [e'];simp only [List.length_append,d5];omega
theorem B7C {k t:Int} {l:Lq1} (h:F0 k t l=true) {b pre post:List Int} (e:b=pre++(I5 k t l++post)) (hl:b.length≤1048576) :
  (b.take ((pre.length:Int)+((A8 ((A6 k t l).length:Int)).length:Int)+((A6 k t l).length:Int)).toNat).drop ((pre.length:Int)+((A8 ((A6 k t l).length:Int)).length:Int)).toNat=A6 k t l ∧
  (b.take ((pre.length:Int)+((A8 ((A6 k t l).length:Int)).length:Int)+((A6 k t l).length:Int)+4).toNat).drop ((pre.length:Int)+((A8 ((A6 k t l).length:Int)).length:Int)+((A6 k t l).length:Int)).toNat=A59 (A6 k t l) ∧
  (b.take ((pre.length:Int)+((A8 ((A6 k t l).length:Int)).length:Int)+((A6 k t l).length:Int)+4).toNat).drop (pre.length:Int).toNat=I5 k t l:=by
 obtain ⟨b1,b2,b3⟩:=A1A h
 obtain ⟨_,_,d5,d6⟩:=A5x (A6 k t l) (by omega)
 refine ⟨B63 (x:=pre++A8 ((A6 k t l).length:Int)) (z:=A59 (A6 k t l)++post) ?_ ?_ ?_,B63 (x:=pre++(A8 ((A6 k t l).length:Int)++A6 k t l)) (z:=post) ?_ ?_ ?_,B63 (x:=pre) (z:=post) e rfl ?_⟩
 ·rw [e,I5];simp only [List.append_assoc]
 ·rw [List.length_append,Int.natCast_add]
 ·rw [List.length_append,Int.natCast_add]
 ·rw [e,I5];simp only [List.append_assoc]
 ·simp only [List.length_append,Int.natCast_add];omega
 ·simp only [List.length_append,Int.natCast_add,d5];omega
 ·simp only [I5,List.length_append,Int.natCast_add,d5];omega
theorem B7x {s:ByteArray} (h:s.size≤1000000000) (pre post:List Int):gT (pre++(I4 s++post)) (pre.length:Int)=(s,(pre.length:Int)+(I4 s).length,true):=by
 have h1:=B0L (n:=(s.size:Int)) (by omega) (by omega) pre (strInts s++post)
 have e:pre++(I4 s++post)=pre++(A8 (s.size:Int)++(strInts s++post)):=by simp only [I4,List.append_assoc]
 rw [e]
 simp only [gT,h1]
 have hs:=A33 s
 rw [if_pos ⟨trivial,by simp only [List.length_append];omega⟩]
 have e2:((pre.length:Int)+((A8 (s.size:Int)).length:Int)).toNat=pre.length+(A8 (s.size:Int)).length:=by omega
 rw [e2,Int.toNat_natCast,← List.append_assoc,← List.length_append,List.drop_left,List.take_left' hs,B4p]
 congr 2
 simp only [I4,List.length_append];omega
theorem C1z {o:Int×ByteArray×ByteArray} (h:B65 o) (pre post:List Int):gO (pre++(opB o++post)) (pre.length:Int)=(o,(pre.length:Int)+(opB o).length,true):=by
 obtain ⟨h0,h1,h2,h3⟩:=h
 have e:opB o=A8 o.1++(I4 o.2.1++I4 o.2.2):=by simp only [opB,A0C h0 h1]
 have q1:=B0L h0 h1 pre (I4 o.2.1++(I4 o.2.2++post))
 have q2:=B7x h2 (pre++A8 o.1) (I4 o.2.2++post)
 have q3:=B7x h3 (pre++A8 o.1++I4 o.2.1) post
 have e1:pre++(opB o++post)=pre++(A8 o.1++(I4 o.2.1++(I4 o.2.2++post))):=by simp only [e,List.append_assoc]
 have e2:pre++(opB o++post)=pre++A8 o.1++(I4 o.2.1++(I4 o.2.2++post)):=by simp only [e,List.append_assoc]
 have e3:pre++(opB o++post)=pre++A8 o.1++I4 o.2.1++(I4 o.2.2++post):=by simp only [e,List.append_assoc]
 rw [← e1] at q1;rw [← e2] at q2;rw [← e3] at q3
 have l1:((pre++A8 o.1).length:Int)=(pre.length:Int)+(A8 o.1).length:=by simp
 have l2:((pre++A8 o.1++I4 o.2.1).length:Int)=((pre++A8 o.1).length:Int)+(I4 o.2.1).length:=by simp;omega
 rw [l1] at q2;rw [l2,l1] at q3
 simp only [gO,q1,q2,q3,Bool.and_true]
 congr 2
 simp only [e,List.length_append];omega
theorem C0D:∀ (l:Lq1) (pre post:List Int) (acc:Lq1),(∀ o∈l,B65 o)→pO l.length (pre++((l.map opB).flatten++post)) (pre.length:Int) acc=some (acc++l,(pre.length:Int)+(l.map opB).flatten.length):=by
 intro l
 induction l with
 | nil=>intro pre post acc _;simp [pO]
 | cons o l ih =>
  intro pre post acc h
  have h1:=C1z (h o (by simp)) pre ((l.map opB).flatten++post)
  have h2:=ih (pre++opB o) post (acc++[o]) (fun x hx=>h x (by simp [hx]))
  have e:pre++(((o::l).map opB).flatten++post)=pre++(opB o++((l.map opB).flatten++post)):=by simp
  have e2:pre++opB o++((l.map opB).flatten++post)=pre++(opB o++((l.map opB).flatten++post)):=by simp
  rw [e2,List.length_append,Int.natCast_add] at h2
  rw [e]
  simp only [List.length_cons,pO,h1,cond_true,h2]
  simp only [List.append_assoc,List.singleton_append,List.map_cons,List.flatten_cons,List.length_append,Int.natCast_add]
  congr 2;omega
theorem B9h {l:Lq1} (h:L4 l=true) (pre post:List Int):gN (pre++(A3A l++post)) (pre.length:Int)=((l.length:Int),((pre++A8 (l.length:Int)).length:Int),true)∧pO l.length (pre++(A3A l++post)) ((pre++A8 (l.length:Int)).length:Int) []=some (l,(((pre++A3A l).length:Nat):Int)):=by
 obtain ⟨a1,_⟩:=N5 h
 have e:pre++(A3A l++post)=pre++(A8 (l.length:Int)++((l.map opB).flatten++post)):=by simp only [A3A,List.append_assoc]
 have h1:=B0L (n:=(l.length:Int)) (by omega) (by omega) pre ((l.map opB).flatten++post)
 have h2:=C0D l (pre++A8 (l.length:Int)) post [] (B4l h)
 rw [List.append_assoc] at h2
 rw [e]
 refine ⟨?_,?_⟩
 ·rw [h1,List.length_append,Int.natCast_add]
 ·rw [h2];simp only [List.nil_append,A3A,List.length_append,Int.natCast_add];congr 2;omega
theorem A3V {k t:Int} {l:Lq1} (h:F0 k t l=true) {b pre post:List Int} (e:b=pre++(I5 k t l++post)) (hb:okB b) (hl:b.length≤1048576):L3 b (pre.length:Int)=(k,t,((pre.length+(I5 k t l).length:Nat):Int),true,l):=by
 obtain ⟨a1,a2,a3,a4,a7,a8,ho⟩:=A1b h
 obtain ⟨b1,b2,b3⟩:=A1A h
 obtain ⟨_,d4,d5,d6⟩:=A5x (A6 k t l) (by omega)
 obtain ⟨n1,n2,n3,hlen⟩:=B7D h e
 obtain ⟨c1,c2,c3⟩:=B7C h e hl
 have g1:=(A2G hb (by omega) (pre.length:Int)).1
 have ln:=P5 ((A6 k t l).length:Int)
 obtain ⟨w1,w2,w3,w4⟩:=B5E (len:=(b.length:Int)) (p:=(pre.length:Int)+((A8 ((A6 k t l).length:Int)).length:Int)) (n:=((A6 k t l).length:Int)) ⟨by omega,by omega⟩ ⟨by omega,by omega⟩ ⟨by omega,by omega⟩
 have hd:decide (((A6 k t l).length:Int) > (b.length:Int) - ((pre.length:Int)+((A8 ((A6 k t l).length:Int)).length:Int)) - 4)=false:=decide_eq_false (by omega)
 have hend:(pre.length:Int)+((A8 ((A6 k t l).length:Int)).length:Int)+((A6 k t l).length:Int)+4=((pre.length+(I5 k t l).length:Nat):Int):=by simp only [I5,List.length_append,d5,Int.natCast_add];omega
 have gn:=fun a bad=>(Y6 b1 (by omega) a bad).2
 have hw:A6Y k t l=true:=by rw [← A9r];exact h
 have he:M8 (A1O k t l) (I5 k t l)=true:=by rw [(A5z h).2];exact (A8h (A7Z h).1 (A7Z h).1).2 rfl
 simp only [L3,O3,T0,A3x,A9h,A5B,A3y,A9i,A5C,g1,n1,w1,w2,w3,w4,hd,c1,c3,gn,n2,n3,Bool.not_true,cond_false,cond_true]
 cases hk:(k==1) with
 | true =>
  have hO:=a7 (eq_of_beq hk)
  have hlo:=(N5 hO).1
  obtain ⟨_,_,_,o4⟩:=A4W b1 (by omega) ((A8 k++A8 t).length:Int) false
  have eb:A6 k t l=(A8 k++A8 t)++(A3A l++[]):=by simp only [A6,hk,cond_true,List.append_assoc,List.append_nil]
  obtain ⟨p1,p2⟩:=B9h hO (A8 k++A8 t) []
  rw [← eb] at p1 p2
  have e8:decide ((l.length:Int)≤8)=true:=decide_eq_true (by omega)
  simp only [cond_false,B7w,p1,cond_true,e8,Int.toNat_natCast,p2] at o4
  simp only [cond_true,o4,cond_false,hw,Bool.not_true,he,hend]
 | false =>
  have hl0:l=[]:=a8 (by simpa using hk)
  subst hl0
  simp only [cond_false,hw,Bool.not_true,he,hend]
theorem B8W {l:Lq1} (h:L4 l=true):B4M (A3A l)=(l,true):=by
 obtain ⟨a1,_⟩:=N5 h
 obtain ⟨h1,h2⟩:=B9h h [] []
 simp only [List.nil_append,List.append_nil,List.length_nil] at h1 h2
 have h1':gN (A3A l) 0=((l.length:Int),((A8 (l.length:Int)).length:Int),true):=h1
 simp only [B4M,h1']
 rw [if_pos ⟨trivial,by omega⟩,Int.toNat_natCast,h2]
 simp only
 rw [if_pos ⟨trivial,h⟩]
theorem B6x {k t:Int} {l:Lq1} (h:F0 k t l=true) {b pre post:List Int} (e:b=pre++(I5 k t l++post)) (hb:okB b) (hl:b.length≤1048576):A0m b (pre.length:Int)=(k,t,l,((pre.length+(I5 k t l).length:Nat):Int),true):=by
 obtain ⟨a1,a2,a3,a4,a7,a8,ho⟩:=A1b h
 obtain ⟨b1,b2,b3⟩:=A1A h
 obtain ⟨_,d4,d5,d6⟩:=A5x (A6 k t l) (by omega)
 have dS:=(B8Q b1 (by omega)).2
 obtain ⟨n1,n2,n3,hlen⟩:=B7D h e
 obtain ⟨c1,c2,c3⟩:=B7C h e hl
 have g1:=(T1 hb (by omega) (pre.length:Int)).1
 have gb:=fun a=>(T1 b1 (by omega) a).1
 have ln:=P5 ((A6 k t l).length:Int)
 obtain ⟨w1,w2,w3,w4⟩:=B5E (len:=(b.length:Int)) (p:=(pre.length:Int)+((A8 ((A6 k t l).length:Int)).length:Int)) (n:=((A6 k t l).length:Int)) ⟨by omega,by omega⟩ ⟨by omega,by omega⟩ ⟨by omega,by omega⟩
 have hd:decide (((A6 k t l).length:Int) > (b.length:Int) - ((pre.length:Int)+((A8 ((A6 k t l).length:Int)).length:Int)) - 4)=false:=decide_eq_false (by omega)
 have hs:((A71 (A59 (A6 k t l))).toList==((A1c (A6 k t l)).extract (0:Int).toNat (4:Int).toNat).toList)=true:=by rw [dS];exact (B6A d6).2 rfl
 simp only [A71] at hs
 have hend:(pre.length:Int)+((A8 ((A6 k t l).length:Int)).length:Int)+((A6 k t l).length:Int)+4=((pre.length+(I5 k t l).length:Nat):Int):=by simp only [I5,List.length_append,d5,Int.natCast_add];omega
 simp only [A0m,C3,B2,A0r,K9,g1,n1,w1,w2,w3,w4,hd,c1,c2,List.nil_append,gb,n2,n3,hs,Bool.not_true,cond_false]
 cases hk:(k==1) with
 | true =>
  have hO:=a7 (eq_of_beq hk)
  have eb:A6 k t l=(A8 k++A8 t)++A3A l:=by simp only [A6,hk,cond_true,List.append_assoc]
  have hpos:1≤(A3A l).length:=by simp [A3A,A8];omega
  have lb:=congrArg List.length eb
  rw [List.length_append] at lb
  have e1:decide (((A8 k++A8 t).length:Int)<(((A6 k t l).length:Nat):Int))=true:=decide_eq_true (by omega)
  have e2:((A6 k t l).drop ((A8 k++A8 t).length:Int).toNat).take ((((A6 k t l).length:Nat):Int).toNat - ((A8 k++A8 t).length:Int).toNat)=A3A l:=by
   rw [Int.toNat_natCast,Int.toNat_natCast]
   rw [show (A6 k t l).drop (A8 k++A8 t).length=A3A l by rw [eb,List.drop_left]]
   exact List.take_of_length_le (by omega)
  have g2:=(B0q (B7A hO) (by have:=B6g hO;omega)).1
  rw [B8W hO] at g2
  simp only [e1,cond_true,e2,g2,Bool.not_true,cond_false,h,hend]
 | false =>
  have hl0:l=[]:=a8 (by simpa using hk)
  have eb:A6 k t l=A8 k++A8 t:=by simp only [A6,hk,cond_false,List.append_nil]
  have e1:decide (((A8 k++A8 t).length:Int)<(((A6 k t l).length:Nat):Int))=false:=decide_eq_false (by rw [eb];omega)
  simp only [e1,cond_false,cond_true]
  subst hl0
  simp only [h,Bool.not_true,cond_false,hend]
theorem B1n {b:List Int} (hb:okB b) (hl:b.length≤1048576) (a:Int):Z0 b a=true∧A0G b a=true∧((∃ k t l pre post,A0m b a=(k,t,l,((pre.length+(I5 k t l).length:Nat):Int),true)∧L3 b a=(k,t,((pre.length+(I5 k t l).length:Nat):Int),true,l)∧F0 k t l=true∧b=pre++(I5 k t l++post)∧a=(pre.length:Int))∨A0m b a=(0,0,[],a,false)∧L3 b a=(0,0,a,false,[])):=by
 obtain ⟨s1,s2⟩:=B7u hb hl a
 obtain ⟨i1,i2⟩:=A9g hb hl a
 refine ⟨s1,i1,?_⟩
 rcases s2 with ⟨k,t,l,pre,post,e1,e2,e3,rfl⟩ | e1
 ·exact .inl ⟨k,t,l,pre,post,e1,A3V e2 e3 hb hl,e2,e3,rfl⟩
 ·rcases i2 with ⟨k,t,l,pre,post,f1,f2,f3,rfl⟩ | f1
  ·rw [B6x f2 f3 hb hl] at e1
   simp at e1
  ·exact .inr ⟨e1,f1⟩
theorem B8m (l m:List V1):N7 (l++m)=N7 l++N7 m:=by simp [N7]
theorem B8n (r:V1):N7 [r]=I5 r.1 r.2.1 r.2.2:=by simp [N7]
theorem B7B {b:List Int} (hb:okB b) (hl:b.length≤1048576) {rs:List V1} {p:Nat} (h1:B7h rs) (hp:p<b.length) (ht:b.take p=N7 rs):(∃ (r:V1) (p':Nat),L3 b (p:Int)=(r.1,r.2.1,(p':Int),true,r.2.2)∧F0 r.1 r.2.1 r.2.2=true∧p<p'∧p'≤b.length∧b.take p'=N7 (rs++[r]))∨L3 b (p:Int)=(0,0,(p:Int),false,[]):=by
 obtain ⟨_,g⟩:=A9g hb hl (p:Int)
 rcases g with ⟨k,t,l,pre,post,i1,hw,eb,ea⟩ | h
 ·left
  have hpp:p=pre.length:=by omega
  have hlen:=congrArg List.length eb
  simp only [List.length_append] at hlen
  have hR:=(A7Z hw).2.2
  refine ⟨(k,t,l),pre.length+(I5 k t l).length,i1,hw,by omega,by omega,?_⟩
  rw [B8m,B8n,← ht,hpp]
  rw [eb,List.take_left' rfl,← List.append_assoc,List.take_left' (by rw [List.length_append])]
 ·exact .inr h
theorem A1B (r:V1) (l:List V1):N7 (r::l)=I5 r.1 r.2.1 r.2.2++N7 l:=by simp [N7]
theorem B1g {l:List V1} (h:B7h l):5*l.length≤(N7 l).length∧(N7 l).length≤419*l.length:=by
 induction l with
 | nil=>simp [N7]
 | cons r l ih =>
  have h1:=A7Z (h r (by simp))
  have h2:=ih (fun x hx=>h x (by simp [hx]))
  rw [A1B,List.length_append,List.length_cons];omega
theorem B4m {b:List Int} (hb:okB b) (hl:b.length≤1048576) (a:Int):A0m b a=((L3 b a).1,(L3 b a).2.1,(L3 b a).2.2.2.2,(L3 b a).2.2.1,(L3 b a).2.2.2.1):=by
 rcases (B1n hb hl a).2.2 with ⟨k,t,l,pre,post,s1,i1,_⟩ | ⟨s1,i1⟩<;>rw [s1,i1]
theorem B11 {b:List Int} (hb:okB b) (hl:b.length≤1048576) {p:Nat} (hp:p≤b.length) (h:p=b.length∨(L3 b (p:Int)).2.2.2.1=false) (r:V1) (post:List Int) (hr:F0 r.1 r.2.1 r.2.2=true):b.drop p ≠ I5 r.1 r.2.1 r.2.2++post:=by
 intro e
 rcases h with rfl | h
 ·have:=congrArg List.length e
  have:=(A7Z hr).2.2
  simp only [List.length_drop,List.length_append] at *
  omega
 ·have e1:b=b.take p++(I5 r.1 r.2.1 r.2.2++post):=by rw [← e,List.take_append_drop]
  have g:=A3V hr e1 hb hl
  rw [List.length_take,Nat.min_eq_left hp] at g
  rw [g] at h;cases h
theorem B5A {b:List Int} (hb:okB b) (hl:b.length≤1048576):Q6 b=true∧∃ (rs:List V1) (p:Nat),A1C b=(rs,(p:Int))∧RdOk b rs p:=by
 have key:∃ (rs:List V1) (p:Nat),RdOk b rs p∧(P3 b 0 []=(0,(p:Int),rs,0)∨P3 b 0 []=(1,0,rs,(p:Int))):=by
  refine itX_inv (fun v:A0d=>∃ (p:Nat) (rs:List V1),v=(b,(p:Int),rs)∧p≤b.length∧B7h rs∧b.take p=N7 rs) (fun a:T8=>∃ (rs:List V1) (p:Nat),RdOk b rs p∧(a=(0,(p:Int),rs,0)∨a=(1,0,rs,(p:Int)))) (fun v=>b.length - v.2.1.toNat) ?_ ⟨0,[],rfl,Nat.zero_le _,fun r hr=>(by cases hr),rfl⟩ (by simp;omega)
  rintro v ⟨p,rs,rfl,hp,h1,ht⟩
  by_cases hlt:p<b.length
  ·have e1:decide ((p:Int)<(b.length:Int))=true:=decide_eq_true (by omega)
   have q1:=(B1n hb hl (p:Int)).1
   rcases B7B hb hl h1 hlt ht with ⟨r,p', i1,hr,hp1,hp2,ht2⟩ | i1
   ·have hrs:=B1g h1
    have hM:decide ((rs.length+[((r.1:Int),(r.2.1,r.2.2))].length)*40≤MAXB)=true:=decide_eq_true (by
     have:=congrArg List.length ht
     rw [List.length_take] at this
     simp only [List.length_singleton,MAXB];omega)
    have s1:=B4m hb hl (p:Int)
    rw [i1] at s1
    simp only [X7,e1,q1,s1,hM,cond_true,cond_false,Bool.not_true]
    refine .inl ⟨_,rfl,⟨p', rs++[r],rfl,hp2,fun z hz=>?_,ht2⟩,by simp only [Int.toNat_natCast];omega⟩
    rcases List.mem_append.1 hz with hz | hz
    ·exact h1 z hz
    ·rw [List.mem_singleton.1 hz];exact hr
   ·have s1:=B4m hb hl (p:Int)
    rw [i1] at s1
    simp only [X7,e1,q1,s1,cond_true,Bool.not_false]
    exact .inr ⟨_,rfl,rs,p,⟨h1,hp,ht,B11 hb hl hp (.inr (by rw [i1]))⟩,.inl rfl⟩
  ·obtain rfl:p=b.length:=by omega
   have e1:decide ((b.length:Int)<(b.length:Int))=false:=decide_eq_false (by omega)
   simp only [X7,e1,cond_false]
   exact .inr ⟨_,rfl,rs,b.length,⟨h1,hp,ht,B11 hb hl hp (.inl rfl)⟩,.inr rfl⟩
 obtain ⟨rs,p,h1,h2⟩:=key
 rcases h2 with h2 | h2
 ·refine ⟨by simp only [Q6,h2];rfl,rs,p,by simp only [A1C,h2];rfl,h1⟩
 ·refine ⟨by simp only [Q6,h2];rfl,rs,p,by simp only [A1C,h2];rfl,h1⟩
theorem B4T {b:List Int} (hb:okB b) (hl:b.length≤1048576):N6 b=true∧∃ (rs:List V1) (p:Nat),A1q b=((p:Int),rs)∧RdOk b rs p:=by
 have key:∃ (rs:List V1) (p:Nat),RdOk b rs p∧V9 b 0 []=(0,(p:Int),rs):=by
  refine itX_inv (fun v:A0c=>∃ (p:Nat) (rs:List V1),v=(b,(p:Int),rs)∧p≤b.length∧B7h rs∧b.take p=N7 rs) (fun a:T7=>∃ (rs:List V1) (p:Nat),RdOk b rs p∧a=(0,(p:Int),rs)) (fun v=>b.length - v.2.1.toNat) ?_ ⟨0,[],rfl,Nat.zero_le _,fun r hr=>(by cases hr),rfl⟩ (by simp;omega)
  rintro v ⟨p,rs,rfl,hp,h1,ht⟩
  by_cases hlt:p<b.length
  ·have e1:decide ((p:Int)<(b.length:Int))=true:=decide_eq_true (by omega)
   have q1:=(A9g hb hl (p:Int)).1
   rcases B7B hb hl h1 hlt ht with ⟨r,p', s1,hr,hp1,hp2,ht2⟩ | s1
   ·have hrs:=B1g h1
    have hM:decide ((rs.length+[((r.1:Int),(r.2.1,r.2.2))].length)*40≤MAXB)=true:=decide_eq_true (by
     have:=congrArg List.length ht
     rw [List.length_take] at this
     simp only [List.length_singleton,MAXB];omega)
    simp only [X6,e1,q1,s1,hM,cond_true,cond_false,Bool.not_true]
    refine .inl ⟨_,rfl,⟨p', rs++[r],rfl,hp2,fun z hz=>?_,ht2⟩,by simp only [Int.toNat_natCast];omega⟩
    rcases List.mem_append.1 hz with hz | hz
    ·exact h1 z hz
    ·rw [List.mem_singleton.1 hz];exact hr
   ·simp only [X6,e1,q1,s1,cond_true,Bool.not_false]
    exact .inr ⟨_,rfl,rs,p,⟨h1,hp,ht,B11 hb hl hp (.inr (by rw [s1]))⟩,rfl⟩
  ·obtain rfl:p=b.length:=by omega
   have e1:decide ((b.length:Int)<(b.length:Int))=false:=decide_eq_false (by omega)
   simp only [X6,e1,cond_false]
   exact .inr ⟨_,rfl,rs,b.length,⟨h1,hp,ht,B11 hb hl hp (.inl rfl)⟩,rfl⟩
 obtain ⟨rs,p,h1,h2⟩:=key
 exact ⟨by simp only [N6,h2];rfl,rs,p,by simp only [A1q,h2],h1⟩
theorem B9j {r r':V1} {x y:List Int} (h:F0 r.1 r.2.1 r.2.2=true) (h':F0 r'.1 r'.2.1 r'.2.2=true) (e:I5 r.1 r.2.1 r.2.2++x=I5 r'.1 r'.2.1 r'.2.2++y) (hb:okB (I5 r.1 r.2.1 r.2.2++x)) (hl:(I5 r.1 r.2.1 r.2.2++x).length≤1048576):r=r'∧x=y:=by
 have g1:=A3V h (b:=I5 r.1 r.2.1 r.2.2++x) (pre:=[]) (post:=x) rfl hb hl
 have g2:=A3V h' (b:=I5 r.1 r.2.1 r.2.2++x) (pre:=[]) (post:=y) e hb hl
 rw [g1] at g2
 simp only [Prod.mk.injEq] at g2
 obtain ⟨e1,e2,e3,_,e4⟩:=g2
 have er:r=r':=Prod.ext e1 (Prod.ext e2 e4)
 subst er
 exact ⟨rfl,List.append_cancel_left e⟩
theorem B9k:∀ (rs rs':List V1) (x y:List Int),B7h rs→B7h rs'→N7 rs++x=N7 rs'++y→okB (N7 rs++x)→(N7 rs++x).length≤1048576→(∃ t,rs'=rs++t∧x=N7 t++y)∨(∃ t,rs=rs'++t∧y=N7 t++x):=by
 intro rs
 induction rs with
 | nil=>intro rs' x y _ _ e _ _;exact .inl ⟨rs', rfl,by simpa [N7] using e⟩
 | cons r rs ih =>
  intro rs' x y h h' e hb hl
  cases rs' with
  | nil=>exact .inr ⟨r::rs,rfl,by simpa [N7] using e.symm⟩
  | cons r' rs' =>
   rw [A1B,A1B,List.append_assoc,List.append_assoc] at e
   rw [A1B,List.append_assoc] at hb hl
   obtain ⟨rfl,e2⟩:=B9j (h r (by simp)) (h' r' (by simp)) e hb hl
   rcases ih rs' x y (fun z hz=>h z (by simp [hz])) (fun z hz=>h' z (by simp [hz])) e2 hb.right (by rw [List.length_append] at hl;omega) with ⟨t,e3,e4⟩ | ⟨t,e3,e4⟩
   ·exact .inl ⟨t,by rw [e3];rfl,e4⟩
   ·exact .inr ⟨t,by rw [e3];rfl,e4⟩
theorem RdOk.uniq {b:List Int} (hb:okB b) (hl:b.length≤1048576) {rs rs':List V1} {p p':Nat} (h:RdOk b rs p) (h':RdOk b rs' p'):rs=rs'∧p=p':=by
 obtain ⟨a1,a2,a3,a4⟩:=h
 obtain ⟨b1,b2,b3,b4⟩:=h'
 have e1:b=N7 rs++b.drop p:=by rw [← a3,List.take_append_drop]
 have e2:b=N7 rs'++b.drop p':=by rw [← b3,List.take_append_drop]
 have la:p=(N7 rs).length:=by have:=congrArg List.length a3;rw [List.length_take] at this;omega
 have lb:p'=(N7 rs').length:=by have:=congrArg List.length b3;rw [List.length_take] at this;omega
 have key:rs=rs':=by
  rcases B9k rs rs' (b.drop p) (b.drop p') a1 b1 (by rw [← e1,← e2]) (by rw [← e1];exact hb) (by rw [← e1];exact hl) with ⟨t,e3,e4⟩ | ⟨t,e3,e4⟩
  ·cases t with
   | nil=>rw [e3,List.append_nil]
   | cons r t =>
    rw [A1B,List.append_assoc] at e4
    exact absurd e4 (a4 r _ (b1 r (by rw [e3];simp)))
  ·cases t with
   | nil=>rw [e3,List.append_nil]
   | cons r t =>
    rw [A1B,List.append_assoc] at e4
    exact absurd e4 (b4 r _ (a1 r (by rw [e3];simp)))
 subst key
 exact ⟨rfl,by rw [la,lb]⟩
noncomputable def C0d (l:Lq1):Prop:=F5 l=true
noncomputable def C10 (x:V1):Prop:=C0d x.2.2
noncomputable def B7g (l:List V1):Prop:=l.length≤1048576∧∀ x∈l,C10 x
noncomputable def A0I {α:Type} (w:α→Nat) (l:List α):Nat:=(l.map w).sum
noncomputable def A6r (r:V1):Nat:=2+3*r.2.2.length
theorem B9U {α:Type} {w:α→Nat} {c:Nat}:∀ (l:List α),(∀ x∈l,w x≤c)→A0I w l≤c*l.length:=by
 intro l
 induction l with
 | nil=>intro _;simp [A0I]
 | cons x l ih =>
  intro h
  have h1:=h x (by simp)
  have h2:=ih fun y hy=>h y (by simp [hy])
  have e:A0I w (x::l)=w x+A0I w l:=by simp [A0I]
  rw [e,List.length_cons,Nat.mul_succ]
  omega
noncomputable def A6s:V1:=((0:Int),((0:Int),([]:Lq1)))
noncomputable def B0v {A:Type} (f:Nat→Option A) (last:A):Nat→Nat→A
 | 0,_=>last
 | k+1,i=>match f i with
  | some a=>a
  | none=>B0v f last k (i+1)
theorem B81 {V A:Type} {ss:V→V ⊕ A} {fa:A} (pk:Nat→V) (n:Nat) (f:Nat→Option A) (last:A) (hn:n<4611686018427387904)
  (h:∀ i,i<n→ss (pk i)=(match f i with | some a=>.inr a | none=>.inl (pk (i+1)))) (hl:ss (pk n)=.inr last):itX ss fa (pk 0)=B0v f last n 0:=by
 rw [itX_eq]
 have key:∀ k N i,i+k=n→k<N→itN ss fa N (pk i)=B0v f last k i:=by
  intro k
  induction k with
  | zero =>
   intro N i hi hN
   obtain ⟨M,rfl⟩:∃ M,N=M+1:=⟨N - 1,by omega⟩
   obtain rfl:i=n:=by omega
   rw [itN_one,hl];rfl
  | succ k ih =>
   intro N i hi hN
   obtain ⟨M,rfl⟩:∃ M,N=M+1:=⟨N - 1,by omega⟩
   rw [itN_one,h i (by omega)]
   simp only [B0v]
   cases hf:f i with
   | some a=>rfl
   | none=>exact ih M (i+1) (by omega) (by omega)
 exact key n _ 0 (by omega) hn
theorem B2s {α:Type} {l:List α} {i:Nat} (h:i<l.length) (d:α):l.getD i d∈l:=by
 simp [List.getD_eq_getElem?_getD,h]
theorem B8b (k:Int) (s v:ByteArray):B4i k s v k s v=true:=by simp [B4i]
theorem B64 (l:Lq1):B0Z l l=true:=by
 have e:allF (A0p l l) (l.length - (0:Int).toNat) (0:Int).toNat=true:=B37 _ _ (fun j _ _=>by simp [A0p,B8b])
 simp only [B0Z,e,cond_true]
 simp
theorem C0j {l:Lq1} (h:C0d l):A7q l l=true∧B0Z l l=true:=⟨B8h h,B64 l⟩
theorem B6y {A:Type} (f:Nat→Option A) (last:A):∀ k i,(∃ j a,i≤j∧j<i+k∧f j=some a∧(∀ m,i≤m→m<j→f m=none)∧B0v f last k i=a)∨((∀ j,i≤j→j<i+k→f j=none)∧B0v f last k i=last):=by
 intro k
 induction k with
 | zero=>intro i;exact .inr ⟨fun j h1 h2=>by omega,rfl⟩
 | succ k ih =>
  intro i
  simp only [B0v]
  cases hf:f i with
  | some a=>exact .inl ⟨i,a,Nat.le_refl _,by omega,hf,fun m h1 h2=>by omega,rfl⟩
  | none =>
   rcases ih (i+1) with ⟨j,a,h1,h2,h3,h4,h5⟩ | ⟨h1,h2⟩
   ·refine .inl ⟨j,a,by omega,by omega,h3,fun m m1 m2=>?_,h5⟩
    by_cases hm:m=i
    ·rw [hm];exact hf
    ·exact h4 m (by omega) m2
   ·refine .inr ⟨fun j j1 j2=>?_,h2⟩
    by_cases hj:j=i
    ·rw [hj];exact hf
    ·exact h1 j (by omega) (by omega)
theorem B9C {l:List V1} (h:B7g l):A1w l l=true∧A7U l l=true:=by
 obtain ⟨hl,h3⟩:=h
 have hdj:(((0:Int),((0:Int),([]:Lq1))):V1)=A6s:=rfl
 have e0:∀ x:Int,(x != x)=false:=fun x=>by simp
 have e9:∀ x:Bool,(x==x)=true:=fun x=>by simp
 have key:A06 l l 0=B0v (fun _=>none) (1,false) l.length 0:=by
  refine B81 (fun i=>(l,l,(i:Int))) l.length _ _ (by omega) (fun i hi=>?_) ?_
  ·have e1:decide ((i:Int)<(l.length:Int))=true:=decide_eq_true (by omega)
   have e2:decide (0≤(i:Int)∧(i:Int)<(l.length:Int))=true:=decide_eq_true (by omega)
   have ho:=h3 _ (B2s hi A6s)
   have o2:=ho
   obtain ⟨qE2,toE2⟩:=C0j o2
   have q1:A3C (l.getD i A6s).1 (l.getD i A6s).2.1 (l.getD i A6s).2.2 (l.getD i A6s).1 (l.getD i A6s).2.1 (l.getD i A6s).2.2=true:=by
    first | exact qE2 | (simp only [A3C,e0,cond_false];exact qE2)
   have q2:B2y (l.getD i A6s).1 (l.getD i A6s).2.1 (l.getD i A6s).2.2 (l.getD i A6s).1 (l.getD i A6s).2.1 (l.getD i A6s).2.2=true:=by
    simp only [B2y,e0,e9,toE2,cond_false,Bool.not_true]
   simp only [A2K,hdj,e1,e2,cond_true,cond_false,Bool.not_true,Int.toNat_natCast,q1,q2,wrapU i (by omega)]
  ·have e1:decide ((l.length:Int)<(l.length:Int))=false:=decide_eq_false (by omega)
   simp only [A2K,e1,cond_false]
 have k2:B0v (fun _=>none) ((1,false):V0) l.length 0=(1,false):=by
  rcases B6y (fun _=>none) ((1,false):V0) l.length 0 with ⟨j,a,_,_,h3,_⟩ | ⟨_,h⟩
  ·cases h3
  ·exact h
 rw [k2] at key
 simp only [A1w,A7U,key,e0,cond_false]
 exact ⟨rfl,rfl⟩
noncomputable def B4o (r:V1):Prop:=r.2.2.length≤1048576
noncomputable def C9 {α:Type} (mk:Int→α→Int×α):Int→List α→Int×List α
 | k,[]=>(k,[])
 | k,x::r=>((C9 mk (mk k x).1 r).1,(mk k x).2::(C9 mk (mk k x).1 r).2)
noncomputable def A3z (k:Int) (r:V1):Int×V1:=((N4 (k+1+1) r.2.2).1,(k,k+1,(N4 (k+1+1) r.2.2).2))
theorem B04 {α:Type} (mk:Int→α→Int×α):∀ (l:List α) (k:Int),(C9 mk k l).2.length=l.length:=by
 intro l
 induction l with
 | nil=>intro k;rfl
 | cons y l ih=>intro k;simp only [C9,List.length_cons,ih]
theorem B03 {α:Type} (mk:Int→α→Int×α) (wt:α→Nat) (ok:α→Prop) (hw:∀ k x,0≤k→k+(wt x:Int)≤10000000→ok x→(mk k x).1=k+(wt x:Int)) :
  ∀ (l:List α) (k:Int),(∀ x∈l,ok x)→0≤k→k+(A0I wt l:Int)≤10000000→(C9 mk k l).1=k+(A0I wt l:Int):=by
 intro l
 induction l with
 | nil=>intro k _ _ _;simp [C9,A0I]
 | cons y l ih =>
  intro k ho h0 h1
  have e:A0I wt (y::l)=wt y+A0I wt l:=by simp [A0I]
  rw [e,Int.natCast_add] at h1
  simp only [C9]
  rw [hw k y h0 (by omega) (ho y (by simp)),ih _ (fun x hx=>ho x (by simp [hx])) (by omega) (by omega),e,Int.natCast_add]
  omega
theorem A50 {α:Type} (w:α→Nat) (l:List α) (i:Nat):A0I w l=A0I w (l.take i)+A0I w (l.drop i):=by
 simp only [A0I]
 rw [← List.sum_append,← List.map_append,List.take_append_drop]
theorem A02 {α:Type} {l:List α} {i:Nat} (h:i<l.length) (d:α):l.drop i=l.getD i d::l.drop (i+1):=by
 rw [List.drop_eq_getElem_cons h]
 simp [List.getD_eq_getElem?_getD,h]
theorem A7N {α:Type} {l:List α} {i:Nat} (hi:i<l.length) (d:α):l.take (i+1)=l.take i++[l.getD i d]:=by
 rw [List.take_add_one,List.getElem?_eq_getElem hi];simp [List.getD_eq_getElem?_getD,hi]
theorem B2G {α:Type} (mk:Int→α→Int×α) (x:α):∀ (l:List α) (k:Int),C9 mk k (l++[x])=((mk (C9 mk k l).1 x).1,(C9 mk k l).2++[(mk (C9 mk k l).1 x).2]):=by
 intro l
 induction l with
 | nil=>intro k;rfl
 | cons y l ih=>intro k;simp only [List.cons_append,C9,ih]
theorem B9T {α:Type} (a b:List α) (y x:α):(a++y::b).set a.length x=a++x::b:=by
 rw [List.set_append_right _ _ (Nat.le_refl _),Nat.sub_self];rfl
theorem B9P {α:Type} (d:α) (mk:Int→α→Int×α) (wt:α→Nat) (ok:α→Prop) {ss:Int→Int→List α→(Int×Int×List α) ⊕ (Nat×Int×List α)} {fl:Nat×Int×List α}
  (hw:∀ k x,0≤k→k+(wt x:Int)≤10000000→ok x→(mk k x).1=k+(wt x:Int))
  (hs:∀ (k:Int) (i:Nat) (h:List α),i<h.length→h.length≤1048576→0≤k→k+(wt (h.getD i d):Int)≤10000000→ok (h.getD i d)→ss k (i:Int) h=.inl ((mk k (h.getD i d)).1,((i+1:Nat):Int),h.set i (mk k (h.getD i d)).2))
  (he:∀ (k:Int) (h:List α),h.length≤1048576→ss k (h.length:Int) h=.inr (0,k,h))
  {l:List α} (hl:l.length≤1048576) (hok:∀ x∈l,ok x) {k:Int} (h0:0≤k) (h1:k+(A0I wt l:Int)≤10000000) :
  itX (fun v=>ss v.1 v.2.1 v.2.2) fl (k,0,l)=(0,C9 mk k l):=by
 refine itX_inv (fun v:Int×Int×List α=>∃ i:Nat,i≤l.length∧v=((C9 mk k (l.take i)).1,(i:Int),(C9 mk k (l.take i)).2++l.drop i)) (fun a=>a=(0,C9 mk k l)) (fun v=>l.length - v.2.1.toNat) ?_ ⟨0,Nat.zero_le _,by simp [C9]⟩ (by simp;omega)
 rintro v ⟨i,hi,rfl⟩
 have hlen:((C9 mk k (l.take i)).2++l.drop i).length=l.length:=by rw [List.length_append,B04,List.length_take,List.length_drop];omega
 have hlm:(C9 mk k (l.take i)).2.length=i:=by rw [B04,List.length_take];omega
 have hf:(C9 mk k (l.take i)).1=k+(A0I wt (l.take i):Int):=B03 mk wt ok hw _ k (fun x hx=>hok x (List.mem_of_mem_take hx)) h0 (by have:=A50 wt l i;omega)
 by_cases hlt:i<l.length
 ·have hg : ((C9 mk k (l.take i)).2 ++ l.drop i).getD i d = l.getD i d := by
   rw [A02 hlt d]
   simp [List.getD_eq_getElem?_getD,hlm]
  have hsum:A0I wt l=A0I wt (l.take i)+(wt (l.getD i d)+A0I wt (l.drop (i+1))):=by
   rw [A50 wt l i,A02 hlt d];simp [A0I]
  have:=hs (C9 mk k (l.take i)).1 i ((C9 mk k (l.take i)).2++l.drop i) (by omega) (by omega) (by rw [hf];omega) (by rw [hg,hf];omega) (by rw [hg];exact hok _ (B2s hlt d))
  rw [hg] at this
  refine .inl ⟨_,this,⟨i+1,by omega,?_⟩,by simp only [Int.toNat_natCast];omega⟩
  rw [A7N hlt d,B2G,A02 hlt d]
  have e:=B9T (C9 mk k (l.take i)).2 (l.drop (i+1)) (l.getD i d) (mk (C9 mk k (l.take i)).1 (l.getD i d)).2
  rw [hlm] at e
  rw [e]
  simp only [List.append_assoc,List.cons_append,List.nil_append]
 ·obtain rfl:i=l.length:=by omega
  have:=he (C9 mk k (l.take l.length)).1 ((C9 mk k (l.take l.length)).2++l.drop l.length) (by omega)
  rw [hlen] at this
  refine .inr ⟨_,this,?_⟩
  simp [List.take_length]
theorem B9a {α:Type} (el:Int→α) (c:Int) (hc:0≤c∧c≤100000) (d:α) (f:Nat→Int×List α→Int×List α)
  (hf:∀ i k (h:List α),i<h.length→0≤k→k≤100000*((i:Int)+100)→h.length≤1048576→f i (k,h)=(k+c,h.set i (el k))) :
  ∀ n i k (h:List α),i+n=h.length→0≤k→k≤100000*((i:Int)+100)→h.length≤1048576 →
   (foldN f n i (k,h)).1=k+c*(n:Int)∧(foldN f n i (k,h)).2.length=h.length∧(∀ j,i≤j→j<h.length→(foldN f n i (k,h)).2.getD j d=el (k+c*((j - i:Nat):Int)))∧∀ j,j<i→(foldN f n i (k,h)).2.getD j d=h.getD j d:=by
 intro n
 induction n with
 | zero=>intro i k h hi h0 h1 h2;exact ⟨by simp [foldN],rfl,fun j hj hl=>by omega,fun j _=>rfl⟩
 | succ n ih =>
  intro i k h hi h0 h1 h2
  simp only [foldN]
  rw [hf i k h (by omega) h0 h1 h2]
  obtain ⟨q1,q2,q3,q4⟩:=ih (i+1) (k+c) (h.set i (el k)) (by simp;omega) (by omega) (by omega) (by simpa using h2)
  refine ⟨?_,by rw [q2];simp,fun j hj hl=>?_,fun j hj=>?_⟩
  ·rw [q1,Int.natCast_add,Int.mul_add];simp;omega
  ·by_cases e:j=i
   ·subst e
    rw [q4 j (by omega)]
    have:j<h.length:=hl
    simp [List.getD_eq_getElem?_getD,this]
   ·rw [q3 j (by omega) (by simpa using hl)]
    congr 1
    have:((j - i:Nat):Int)=((j - (i+1):Nat):Int)+1:=by omega
    rw [this,Int.mul_add];omega
  ·rw [q4 j (by omega)]
   have:i ≠ j:=by omega
   simp [List.getD_eq_getElem?_getD,List.getElem?_set_ne this]
theorem B2t {α:Type} {l:List α} {i:Nat} (hi:i<l.length) (x d:α):(l.set i x).getD i d=x:=by
 simp [List.getD_eq_getElem?_getD,hi]
theorem A63 (l:Lq1) (k:Int) (h:l.length≤1048576) (h0:0≤k) (h1:k≤10000000):(N4 k l).1=k+3*(l.length:Int)∧(N4 k l).2.length=l.length:=by
 obtain ⟨q1,q2,_⟩:=B9a (fun k=>(k,C1 (k+1),C1 (k+1+1))) 3 (by omega) dOp C7 (fun i k h hi h0 h1 h2=>by
  have w1:IntKind.wrap .i64 (k+(1:Int))=k+1:=wrap64 (by omega) (by omega)
  have w2:IntKind.wrap .i64 (k+1+(1:Int))=k+1+1:=wrap64 (by omega) (by omega)
  have w3:IntKind.wrap .i64 (k+1+1+(1:Int))=k+3:=by rw [wrap64 (by omega) (by omega)];omega
  simp only [C7,w1,w2,w3,List.set_set,B2t hi]) l.length 0 k l (by omega) h0 (by omega) h
 have e1:N4 k l=foldN C7 l.length 0 (k,l):=rfl
 rw [e1];exact ⟨q1,q2⟩
theorem B05 (k:Int) (r:V1) (h0:0≤k) (h1:k+(A6r r:Int)≤10000000) (hj:B4o r):(A3z k r).1=k+(A6r r:Int):=by
 simp only [A6r] at h1 ⊢
 have m1:=(A63 r.2.2 (k+1+1) hj (by omega) (by omega)).1
 simp only [A3z]
 rw [m1]
 omega
theorem B9g {k:Int} {l:Lq1} (h:l.length≤1048576) (h0:0≤k) (h1:k≤10000000):X3 k l=true∧X1 (N4 k l).2 k=true:=by
 have h2:=(A63 l k h h0 h1).2
 exact ⟨by simp only [X3,okL];simp;omega,by simp only [X1,okL,h2];simp;omega⟩
theorem B7e {α:Type} (mk:Int→α→Int×α) (d:α):∀ (l:List α) (k:Int) (i:Nat),i<l.length→(C9 mk k l).2.getD i d=(mk (C9 mk k (l.take i)).1 (l.getD i d)).2:=by
 intro l
 induction l with
 | nil=>intro k i h;simp at h
 | cons y l ih =>
  intro k i h
  cases i with
  | zero=>simp [C9]
  | succ i =>
   simp only [C9,List.getD_cons_succ,List.take_succ_cons]
   exact ih _ i (by simpa using h)
theorem B9F {α:Type} (d:α) (mk:Int→α→Int×α) (wt:α→Nat) (ok:α→Prop) {ss:List α→Int→Int→(List α×Int×Int) ⊕ (Nat×Int×Int)} {fl:Nat×Int×Int} {z:Int}
  (hw:∀ k x,0≤k→k+(wt x:Int)≤10000000→ok x→(mk k x).1=k+(wt x:Int))
  (hs:∀ (k:Int) (i:Nat) (h:List α) (x:α),i<h.length→h.length≤1048576→0≤k→k+(wt x:Int)≤10000000→ok x→h.getD i d=(mk k x).2→ss h k (i:Int)=.inl (h,(mk k x).1,((i+1:Nat):Int)))
  (he:∀ (k:Int) (h:List α),h.length≤1048576→ss h k (h.length:Int)=.inr (1,z,k))
  {l:List α} (hl:l.length≤1048576) (hok:∀ x∈l,ok x) {k:Int} (h0:0≤k) (h1:k+(A0I wt l:Int)≤10000000) :
  itX (fun v=>ss v.1 v.2.1 v.2.2) fl ((C9 mk k l).2,k,0)=(1,z,(C9 mk k l).1):=by
 have hl2:=B04 mk l k
 refine itX_inv (fun v:List α×Int×Int=>∃ i:Nat,i≤l.length∧v=((C9 mk k l).2,(C9 mk k (l.take i)).1,(i:Int))) (fun a=>a=(1,z,(C9 mk k l).1)) (fun v=>l.length - v.2.2.toNat) ?_ ⟨0,Nat.zero_le _,by simp [C9]⟩ (by simp;omega)
 rintro v ⟨i,hi,rfl⟩
 have hf:(C9 mk k (l.take i)).1=k+(A0I wt (l.take i):Int):=B03 mk wt ok hw _ k (fun x hx=>hok x (List.mem_of_mem_take hx)) h0 (by have:=A50 wt l i;omega)
 by_cases hlt:i<l.length
 ·have hsum : A0I wt l = A0I wt (l.take i) + (wt (l.getD i d) + A0I wt (l.drop (i + 1))) := by
   rw [A50 wt l i,A02 hlt d];simp [A0I]
  have:=hs (C9 mk k (l.take i)).1 i (C9 mk k l).2 (l.getD i d) (by omega) (by omega) (by rw [hf];omega) (by rw [hf];omega) (hok _ (B2s hlt d)) (B7e mk d l k i hlt)
  refine .inl ⟨_,this,⟨i+1,by omega,?_⟩,by simp only [Int.toNat_natCast];omega⟩
  rw [A7N hlt d,B2G]
 ·obtain rfl:i=l.length:=by omega
  have:=he (C9 mk k (l.take l.length)).1 (C9 mk k l).2 (by omega)
  rw [hl2] at this
  refine .inr ⟨_,this,?_⟩
  rw [List.take_length]
theorem C1A {α:Type} (el:Int→α) (c:Int) (hc:0≤c∧c≤100000) (d:α) (x:List α) (hx:x.length≤1048576) (g:Nat→Int→Int ⊕ Unit)
  (hg:∀ i k,i<x.length→0≤k→k≤100000*((i:Int)+100)→x.getD i d=el k→g i k=.inl (k+c)) :
  ∀ n i k,i+n=x.length→0≤k→k≤100000*((i:Int)+100)→(∀ j,i≤j→j<x.length→x.getD j d=el (k+c*((j - i:Nat):Int)))→loopN g n i k=.inl (k+c*(n:Int)):=by
 intro n
 induction n with
 | zero=>intro i k hi h0 h1 he;simp [loopN]
 | succ n ih =>
  intro i k hi h0 h1 he
  have h2:=he i (Nat.le_refl _) (by omega)
  rw [Nat.sub_self] at h2
  simp only [loopN]
  rw [hg i k (by omega) h0 h1 (by simpa using h2)]
  simp only
  rw [ih (i+1) (k+c) (by omega) (by omega) (by omega) (fun j hj hl=>by
   rw [he j (by omega) hl]
   congr 1
   have:((j - i:Nat):Int)=((j - (i+1):Nat):Int)+1:=by omega
   rw [this,Int.mul_add];omega)]
  rw [Int.natCast_add,Int.mul_add];congr 1;simp;omega
theorem heldmark {α:Type} (el:Int→α) (c:Int) (hc:0≤c∧c≤100000) (d:α) (f:Nat→Int×List α→Int×List α) (g:List α→Nat→Int→Int ⊕ Unit)
  (hf:∀ i k (h:List α),i<h.length→0≤k→k≤100000*((i:Int)+100)→h.length≤1048576→f i (k,h)=(k+c,h.set i (el k)))
  (hg:∀ (x:List α) i k,x.length≤1048576→i<x.length→0≤k→k≤100000*((i:Int)+100)→x.getD i d=el k→g x i k=.inl (k+c)) (h:List α) (hh:h.length≤1048576) (k:Int) (h0:0≤k) (h1:k≤10000000) :
  (foldN f h.length 0 (k,h)).1=k+c*(h.length:Int)∧(foldN f h.length 0 (k,h)).2.length=h.length∧loopN (g (foldN f h.length 0 (k,h)).2) (foldN f h.length 0 (k,h)).2.length 0 k=.inl (k+c*(h.length:Int)):=by
 obtain ⟨q1,q2,q3,_⟩:=B9a el c hc d f hf h.length 0 k h (by omega) h0 (by omega) hh
 refine ⟨q1,q2,?_⟩
 have:=C1A el c hc d (foldN f h.length 0 (k,h)).2 (by rw [q2];exact hh) (g (foldN f h.length 0 (k,h)).2) (fun i k hi=>hg _ i k (by rw [q2];exact hh) hi) (foldN f h.length 0 (k,h)).2.length 0 k (by omega) h0 (by omega) (fun j hj hl=>q3 j hj (by rw [q2] at hl;exact hl))
 rw [this,q2]
theorem B7j (l:Lq1) (k:Int) (h:l.length≤1048576) (h0:0≤k) (h1:k≤10000000):A4Y (N4 k l).2 k=(N4 k l).1:=by
 obtain ⟨q1,q2,q3⟩:=heldmark (fun k=>(k,C1 (k+1),C1 (k+1+1))) 3 (by omega) dOp C7 D3 (fun i k h hi h0 h1 h2=>by
  have w1:IntKind.wrap .i64 (k+(1:Int))=k+1:=wrap64 (by omega) (by omega)
  have w2:IntKind.wrap .i64 (k+1+(1:Int))=k+1+1:=wrap64 (by omega) (by omega)
  have w3:IntKind.wrap .i64 (k+1+1+(1:Int))=k+3:=by rw [wrap64 (by omega) (by omega)];omega
  simp only [C7,w1,w2,w3,List.set_set,B2t hi]) (fun x i k hx hi h0 h1 he=>by
  have w1:IntKind.wrap .i64 (k+(1:Int))=k+1:=wrap64 (by omega) (by omega)
  have w2:IntKind.wrap .i64 (k+1+(1:Int))=k+1+1:=wrap64 (by omega) (by omega)
  have w3:IntKind.wrap .i64 (k+1+1+(1:Int))=k+3:=by rw [wrap64 (by omega) (by omega)];omega
  simp only [dOp] at he
  have e:(k != k)=false:=by simp
  simp only [D3,he,e,cond_false,w1,w2,w3,beq_self_eq_true,Bool.not_true]) l h k h0 h1
 have e1:N4 k l=foldN C7 l.length 0 (k,l):=rfl
 have e2:∀ x,A4Y x k=cond (isInl (loopN (D3 x) x.length 0 k)) (getInl (-1) (loopN (D3 x) x.length 0 k)) (-1:Int):=fun x=>rfl
 rw [e1,e2,q3,q1];rfl
theorem B3y {l:List V1} (hl:l.length≤1048576) (ho:∀ r∈l,B4o r) {k:Int} (h0:0≤k) (h1:k+(A0I A6r l:Int)≤10000000) :
  X4 k l=true∧A2V k l=C9 A3z k l∧(C9 A3z k l).1=k+(A0I A6r l:Int)∧X2 (C9 A3z k l).2 k=true∧A2U (C9 A3z k l).2 k=(C9 A3z k l).1:=by
 have hdj:((0:Int),((0:Int),([]:Lq1)))=A6s:=rfl
 have e1:W8 k 0 l=(0,C9 A3z k l):=by
  refine B9P A6s A3z A6r B4o B05 (fun k i h hi hl h0 h1 ho=>?_) (fun k h hl=>?_) hl ho h0 h1
  ·have c1:decide ((i:Int)<(h.length:Int))=true:=decide_eq_true (by omega)
   have c2:decide (0≤(i:Int)∧(i:Int)<(h.length:Int))=true:=decide_eq_true (by omega)
   have s1:(h.getD i A6s).2.2.length≤1048576:=ho
   simp only [A6r] at h1
   have w1:IntKind.wrap .i64 (k+(1:Int))=k+1:=wrap64 (by omega) (by omega)
   have w2:IntKind.wrap .i64 (k+1+(1:Int))=k+1+1:=wrap64 (by omega) (by omega)
   have q1:=(B9g s1 (k:=k+1+1) (by omega) (by omega)).1
   simp only [A1i,hdj,c1,c2,cond_true,Int.toNat_natCast,List.length_set,B2t hi,List.set_set,w1,w2,q1,wrapU i (by omega)]
   rfl
  ·have c1:decide ((h.length:Int)<(h.length:Int))=false:=decide_eq_false (by omega)
   simp only [A1i,c1,cond_false]
 have e2:W2 (C9 A3z k l).2 k 0=(1,0,(C9 A3z k l).1):=by
  refine B9F A6s A3z A6r B4o B05 (fun k i h x hi hl h0 h1 ho hg=>?_) (fun k h hl=>?_) hl ho h0 h1
  ·have c1:decide ((i:Int)<(h.length:Int))=true:=decide_eq_true (by omega)
   have c2:decide (0≤(i:Int)∧(i:Int)<(h.length:Int))=true:=decide_eq_true (by omega)
   have s1:x.2.2.length≤1048576:=ho
   simp only [A6r] at h1
   have w1:IntKind.wrap .i64 (k+(1:Int))=k+1:=wrap64 (by omega) (by omega)
   have w2:IntKind.wrap .i64 (k+1+(1:Int))=k+1+1:=wrap64 (by omega) (by omega)
   have m1:=(A63 x.2.2 (k+1+1) s1 (by omega) (by omega)).1
   have q1:=(B9g s1 (k:=k+1+1) (by omega) (by omega)).2
   have q3:=B7j x.2.2 (k+1+1) s1 (by omega) (by omega)
   have n2:∀ y:Int,(y != y)=false:=fun y=>by simp
   have d1:decide ((N4 (k+1+1) x.2.2).1<0)=false:=decide_eq_false (by omega)
   simp only [A3z] at hg
   simp only [A1h,hdj,c1,c2,cond_true,Int.toNat_natCast,hg,n2,cond_false,w1,w2,q1,q3,d1,wrapU i (by omega)]
   rfl
  ·have c1:decide ((h.length:Int)<(h.length:Int))=false:=decide_eq_false (by omega)
   simp only [A1h,c1,cond_false]
 refine ⟨by simp only [X4,e1];rfl,by simp only [A2V,e1],B03 A3z A6r B4o B05 l k ho h0 h1,by simp only [X2,e2];rfl,by simp only [A2U,e2];rfl⟩
theorem B8t {l:List V1} (h:B7g l):∀ r∈l,B4o r:=fun r hr=>A0F (h.2 r hr)
theorem B6Q (l:List Int) (h:l.length≤1048576):(A1t 1 l).1=1+(l.length:Int):=by
 have q:=(B9a (fun k=>IntKind.wrap .u8 k) 1 (by omega) (0:Int) C8 (fun i k h hi h0 h1 h2=>by
  have w1:IntKind.wrap .i64 (k+(1:Int))=k+1:=wrap64 (by omega) (by omega)
  simp only [C8,w1]) l.length 0 1 l (by omega) (by omega) (by omega) h).1
 rw [Int.one_mul] at q
 have e1:A1t 1 l=foldN C8 l.length 0 (1,l):=rfl
 rw [e1,q]
theorem B4L (l:List Int):A4X l l=true:=by
 have e:((l.length:Int) != (l.length:Int))=false:=by simp
 simp only [A4X,e,cond_false]
 rw [B37]
 ·rfl
 ·intro j _ _;simp [Y4]
theorem B0p {b:List Int} (h:bigT C6 b=true):L1 b=true∧P4 b=true:=by
 have hb:=B9u h
 simp only [P4,L1,B5B]
 cases hd:decide ((b.length:Int) > 1048576) with
 | true=>exact ⟨rfl,rfl⟩
 | false =>
  have hl:b.length≤1048576:=by have:=of_decide_eq_false hd;omega
  obtain ⟨s1,rs,p,s2,s3⟩:=B5A hb hl
  obtain ⟨i1,rs', p', i2,i3⟩:=B4T hb hl
  obtain ⟨rfl,rfl⟩:=RdOk.uniq hb hl s3 i3
  obtain ⟨a1,a2,a3,a4⟩:=s3
  have hlen:=congrArg List.length a3
  rw [List.length_take] at hlen
  have hn:=(B1g a1).1
  have hO:B7g rs:=⟨by omega,fun x hx=>(A1b (a1 x hx)).2.2.2.2.2.2⟩
  have hW:A0I A6r rs≤26*rs.length:=B9U rs fun x hx=>by
   simp only [A6r]
   obtain ⟨_,_,_,_,o1,o2,_⟩:=A1b (a1 x hx)
   by_cases hk:x.1=1
   ·have:=(N5 (o1 hk)).1;omega
   ·rw [o2 hk];simp
  obtain ⟨e1,e2⟩:=B9C hO
  obtain ⟨m1,m2,m3,m4,m5⟩:=B3y hO.1 (B8t hO) (k:=1) (by decide) (by omega)
  have b1:=B6Q b hl
  have c1:decide ((1+(b.length:Int))<0)=false:=decide_eq_false (by omega)
  have c2:decide ((C9 A3z 1 rs).1<0)=false:=decide_eq_false (by omega)
  have c3:okL b=true:=decide_eq_true hl
  have c7:∀ x:Int,(x != x)=false:=fun x=>by simp
  have c9:decide ((0:Int)≤1∧(1:Int)≤100000)=true:=by decide
  have c10:decide ((0:Int)≤1∧(1:Int)≤10000000)=true:=by decide
  simp only [s1,s2,i1,i2,e1,e2,m1,m2,m4,m5,A1x,A1v,Y9,c1,c2,c3,c7,c9,c10,B4L,b1,cond_false,cond_true,Bool.not_true,Bool.and_true,Bool.and_self]
  exact ⟨trivial,trivial⟩
theorem A42 (b:List Int) (h:bigT C6 b=true):H8 (b,())=true:=(B0p h).1
theorem A5p (b:List Int) (h:bigT C6 b=true):P4 b=true:=(B0p h).2

end Go.Proofs.Ytccelbeahdcooaa.Eng
