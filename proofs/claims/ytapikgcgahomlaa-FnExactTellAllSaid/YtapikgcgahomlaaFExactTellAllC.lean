/- What the functions that FnExactTellAll reaches compute: further. -/
import Derived.Test.YtapikgcgahomlaaFExactTellAllB
namespace Go.Proofs.Ytapikgcgahomlaa.Eng
open Go Go.RowKit
set_option linter.unusedSimpArgs false
set_option linter.unusedVariables false
set_option maxRecDepth 10000
abbrev D3T:List Sh:=.junk::D1l
abbrev u36:=((),u35)
abbrev D3G:List AV:=.junk::D1h
abbrev B1U:SS:=⟨[.all 0 4,tI],[.deep 48 [90,3] tq7]⟩
abbrev R1:SS:=⟨(.all 0 4::tI::.junk::.junk::.junk::tI::D3T),[.deep 48 [90,3] tq7]⟩
abbrev B6z:SS:=⟨(.junk::tI::C6J),[.deep 48 [90,3] tq7]⟩
noncomputable def B8F (x1 x5:Int) (h0:LT1):RT R1.den:=let z7:=(h0.getD x5.toNat ((0:Int),([],((0:Int),[])))).2;let z3:=h0.set x5.toNat (x1,(z7.1,((z7.2).1,(z7.2).2)));let z6:=z3.getD x5.toNat ((0:Int),([],((0:Int),[])));let z10:=wI (x1+(1:Int));let z4:=J4 z10 ((z6.2).1);let z1:=z3.set x5.toNat (z6.1,((z4.2),(z6.2).2));let z8:=z1.getD x5.toNat ((0:Int),([],((0:Int),[])));let z2:=z1.set x5.toNat (z8.1,((z8.2).1,((z4.1),((z8.2).2).2)));let z5:=z2.getD x5.toNat ((0:Int),([],((0:Int),[])));let z9:=wI ((z4.1)+(1:Int));let z11:=A88 z9 (((z5.2).2).2);(.br (decide (x5<(h0.length:Int))) (.br (decide (0≤x5∧x5<(h0.length:Int))) (.br (decide (0≤x5∧x5<((z3.length:Nat):Int))) (.br (T7 z10 ((z6.2).1)) (.br (decide (0≤x5∧x5<((z1.length:Nat):Int))) (.br (decide (0≤x5∧x5<((z2.length:Nat):Int))) (.br (Y0 z9 (((z5.2).2).2)) (.next (((),(z11.1),(),(),(),wI (x5+(1:Int)),u36),(z2.set x5.toNat (z5.1,((z5.2).1,(((z5.2).2).1,(z11.2)))),()))) .fail) .fail) .fail) .fail) .fail) .fail) (.done (.exit 0) B6z (((),x1,u40),(h0,()))))
abbrev B0E:=(Int)×(Int)×LT1
abbrev A8q:=Nat×(Int)×LT1
def T3:A8q:=(99,((0:Int):Int),([]:LT1))
noncomputable def A97 (x1 x5:Int) (h0:LT1):B0E ⊕ A8q:=let z7:=(h0.getD x5.toNat ((0:Int),([],((0:Int),[])))).2;let z3:=h0.set x5.toNat (x1,(z7.1,((z7.2).1,(z7.2).2)));let z6:=z3.getD x5.toNat ((0:Int),([],((0:Int),[])));let z10:=wI (x1+(1:Int));let z4:=J4 z10 ((z6.2).1);let z1:=z3.set x5.toNat (z6.1,((z4.2),(z6.2).2));let z8:=z1.getD x5.toNat ((0:Int),([],((0:Int),[])));let z2:=z1.set x5.toNat (z8.1,((z8.2).1,((z4.1),((z8.2).2).2)));let z5:=z2.getD x5.toNat ((0:Int),([],((0:Int),[])));let z9:=wI ((z4.1)+(1:Int));let z11:=A88 z9 (((z5.2).2).2);(cond (decide (x5<(h0.length:Int))) (cond (decide (0≤x5∧x5<(h0.length:Int))) (cond (decide (0≤x5∧x5<((z3.length:Nat):Int))) (cond (T7 z10 ((z6.2).1)) (cond (decide (0≤x5∧x5<((z1.length:Nat):Int))) (cond (decide (0≤x5∧x5<((z2.length:Nat):Int))) (cond (Y0 z9 (((z5.2).2).2)) (.inl ((z11.1),wI (x5+(1:Int)),z2.set x5.toNat (z5.1,((z5.2).1,(((z5.2).2).1,(z11.2)))))) (.inr T3)) (.inr T3)) (.inr T3)) (.inr T3)) (.inr T3)) (.inr T3)) (.inr (0,x1,h0)))
noncomputable def A7U (x1 x5:Int) (h0:LT1):A8q:=itX (fun v:B0E=>A97 v.1 v.2.1 v.2.2) T3 (x1,x5,h0)
noncomputable def B2S (a:A8q):CT:=(.br (a.1==0) (.done (.exit 0) B6z (((),a.2.1,u40),(a.2.2,()))) .fail)
noncomputable def C5a (x1 x5:Int) (h0:LT1):CT:=B2S (A7U x1 x5 h0)
noncomputable abbrev B3o:R1.den→RT R1.den:=(fun d=>B8F d.1.2.1 d.1.2.2.2.2.2.1 d.2.1)
noncomputable def B4U:Code:=((D3 0 (A1f Try.f78)).getD 0 (0,.skip)).2
noncomputable abbrev B8e (v:B0E):R1.den:=(((),v.1,(),(),(),v.2.1,u36),(v.2.2,()))
theorem C4M:(∀ v:B0E,(B8F v.1 v.2.1 v.2.2).val=A6l B8e B2S (A97 v.1 v.2.1 v.2.2))∧∀ a:A8q,CEnd R1.den (B2S a):=⟨fun v=>by repeat' first | apply A7m | rfl,fun a=>(A7a aCD A7c)⟩
noncomputable def B7V (x1 x5:Int) (h0:LT1):Option (Ex×St):=let z7:=(h0.getD x5.toNat ((0:Int),([],((0:Int),[])))).2;let z3:=h0.set x5.toNat (x1,(z7.1,((z7.2).1,(z7.2).2)));let z6:=z3.getD x5.toNat ((0:Int),([],((0:Int),[])));let z10:=wI (x1+(1:Int));let z4:=J4 z10 ((z6.2).1);let z1:=z3.set x5.toNat (z6.1,((z4.2),(z6.2).2));let z8:=z1.getD x5.toNat ((0:Int),([],((0:Int),[])));let z2:=z1.set x5.toNat (z8.1,((z8.2).1,((z4.1),((z8.2).2).2)));let z5:=z2.getD x5.toNat ((0:Int),([],((0:Int),[])));let z9:=wI ((z4.1)+(1:Int));let z11:=A88 z9 (((z5.2).2).2);(cond (decide (x5<(h0.length:Int))) (cond (decide (0≤x5∧x5<(h0.length:Int))) (cond (decide (0≤x5∧x5<((z3.length:Nat):Int))) (cond (T7 z10 ((z6.2).1)) (cond (decide (0≤x5∧x5<((z1.length:Nat):Int))) (cond (decide (0≤x5∧x5<((z2.length:Nat):Int))) (cond (Y0 z9 (((z5.2).2).2)) (some (.normal,(⟨((.all 0 4)::(ti (z11.1))::.junk::.junk::.junk::(ti (wI (x5+(1:Int))))::D3G),[(.deep 48 [90,3] tq7 (z2.set x5.toNat (z5.1,((z5.2).1,(((z5.2).2).1,(z11.2))))))],1,[]⟩:St))) none) none) none) none) none) none) (some ((.exit 0),(⟨(.junk::(ti x1)::C4f),[(.deep 48 [90,3] tq7 h0)],1,[]⟩:St))))
theorem C3u:RdA G72 aLn 0 B4U R1 1 [] (kepts [] [(0,[1])]) (fun d=>B7V d.1.2.1 d.1.2.2.2.2.2.1 d.2.1):=by
 intro d
 kernel_rfl
theorem C3A:∀ d:R1.den,(fun d=>B7V d.1.2.1 d.1.2.2.2.2.2.1 d.2.1) d=(B3o d).opt 1 []:=by
 intro d
 kernel_rfl
noncomputable abbrev B6V:St→Option Tree:=R1.say 1 [] [] (fun d=>C5a d.1.2.1 d.1.2.2.2.2.2.1 d.2.1)
theorem C4i:aPL B6V B4U:=SS.wp2 hlz [] B3o C3u C3A _ (fun d=>Runs.ofI2 (step:=B3o) B8e C4M rfl (d.1.2.1,d.1.2.2.2.2.2.1,d.2.1))
noncomputable def B0s (x1:Int) (h0:LT1):Int×LT1:=let z1:=A7U x1 (0:Int) h0;((z1.2.1),(z1.2.2))
noncomputable abbrev C2K (r:Int×LT1):AV×List AObj×List Nat:=((ti r.1),[(.deep 48 [90,3] tq7 r.2)],[])
noncomputable abbrev C2P:B1U.den→AV×List AObj×List Nat:=fun d=>C2K (B0s d.1.2.1 d.2.1)
noncomputable def A72 (x1:Int) (h0:LT1):Bool:=((A7U x1 (0:Int) h0).1==0)
noncomputable abbrev B9H:B1U.den→Bool:=fun d=>A72 d.1.2.1 d.2.1
noncomputable abbrev C7x:Nat→St→Option Tree:=fun b=>match b with | 0=>B6V | _=>fun _=>none
theorem C5J:A7g G72 (C7x) Try.f78 B1U B9H C2P:=by
 rintro ⟨⟨_,x1,_⟩,⟨h0,_⟩⟩ hp
 change A72 x1 h0=true at hp
 unfold A72 at hp
 refine Eq.trans (b:=(let z1:=A7U x1 (0:Int) h0;cond (z1.1==0) (some (C2K ((z1.2.1),(z1.2.2)))) none)) (by kernel_rfl) ?_
 exact (A7k hp fun _h=>rfl)
noncomputable abbrev C2X:=win E5 (msum B1U B9H C2P)
theorem C7R:aPM 78 C2X:=(mcM G72 (hl1 (i:=0) (by kernel_rfl) C4i) C5J).win E5
noncomputable def S73:Tab:=Tab.add S72 78 (C2X)
noncomputable def D22:FuncId→Bool:=D21
theorem G73:aPG S73 D22:=G72.addM C7R (A6S _) (cbl Try.f78) (by kernel_rfl)

abbrev D3Q:List Sh:=.junk::C5i

noncomputable def J6 (i:Nat) (b:Int×LIbe):Int×LIbe:=(wI ((wI (b.1+(1:Int)))+(1:Int)),(b.2.set i (b.1,(b.2.getD i ((0:Int),false)).2)).set i (((b.2.set i (b.1,(b.2.getD i ((0:Int),false)).2)).getD i ((0:Int),false)).1,((Int.tmod (wI (b.1+(1:Int))) (3:Int))==(0:Int))))
abbrev A8D:SS:=⟨[.all 0 2,tI],[.rows 43 true B93]⟩
abbrev N7:SS:=⟨(.all 0 2::tI::.junk::.junk::.junk::tI::D1R),[.rows 43 true B93]⟩
abbrev A8L:SS:=⟨(.junk::tI::D3Q),[.rows 43 true B93]⟩
noncomputable def B0a (x1 x5:Int) (h0:LIbe):RT N7.den:=let z1:=h0.set x5.toNat (x1,(h0.getD x5.toNat ((0:Int),false)).2);let z2:=wI (x1+(1:Int));(.br (decide (x5<(h0.length:Int))) (.br (decide (0≤x5∧x5<(h0.length:Int))) (.br (decide (0≤x5∧x5<((z1.length:Nat):Int))) (.next (((),wI (z2+(1:Int)),(),(),(),wI (x5+(1:Int)),u24),(z1.set x5.toNat ((z1.getD x5.toNat ((0:Int),false)).1,((Int.tmod z2 (3:Int))==(0:Int))),()))) .fail) .fail) (.done (.exit 0) A8L (((),x1,u28),(h0,()))))
noncomputable def X1 (x1 x5:Int) (h0:LIbe):CT:=(.br (decide (0≤x5)&&(decide (0≤x1∧x1≤100000*(x5+100))&&okL h0)) (.done (.exit 0) A8L (((),((foldN J6 (h0.length - x5.toNat) x5.toNat (x1,h0)).1),u28),(((foldN J6 (h0.length - x5.toNat) x5.toNat (x1,h0)).2),()))) .fail)
noncomputable abbrev P6:N7.den→RT N7.den:=(fun d=>B0a d.1.2.1 d.1.2.2.2.2.2.1 d.2.1)
noncomputable abbrev B3Y (x1 x5:Int) (h0:LIbe):N7.den:=(((),x1,(),(),(),x5,u24),(h0,()))
noncomputable def B1F:Code:=((D3 0 (A1f Try.f79)).getD 0 (0,.skip)).2
theorem C12 (x1 x5:Int) (h0:LIbe):(X1 x1 x5 h0).val (D:=N7.den)=.fail∨Runs P6 (B3Y x1 x5 h0) (X1 x1 x5 h0).val:=by
 cases hc:(decide (0≤x5)&&(decide (0≤x1∧x1≤100000*(x5+100))&&okL h0)) with
 | false=>left;simp only [X1,CT.val,hc,cond_false]
 | true =>
  right
  simp only [X1,CT.val,hc,cond_true]
  simp only [Bool.and_eq_true,decide_eq_true_eq] at hc
  obtain ⟨i,rfl⟩:=Int.eq_ofNat_of_zero_le hc.1
  have hs:=A66 hc.2.2
  have hk:=hc.2.1
  simp only [Int.toNat_natCast]
  refine Runs.foldN (step:=P6) (fun j b=>B3Y b.1 (j:Int) b.2) (fun i b=>(0≤b.1∧b.1≤100000*((i:Int)+100))∧b.2.length=h0.length) (h0.length) J6
   (fin:=fun b=>((.done (.exit 0) A8L (((),b.1,u28),(b.2,()))):CT).val) (fun i b hi hb=>?_) (fun i b hi hb=>?_) (h0.length - i) i (x1,h0) rfl ⟨hk,rfl⟩
  ·obtain ⟨k,h⟩:=b
   obtain ⟨hb1,hb2⟩:=hb
   simp only at hb1 hb2
   have w1:wI (k+(1:Int))=k+(1:Int):=A6r (by omega) (by omega)
   have w2:wI (k+(1:Int)+(1:Int))=k+(1:Int)+(1:Int):=A6r (by omega) (by omega)
   have e0:(decide (0≤(i:Int)∧(i:Int)<(h.length:Int)))=true:=decide_eq_true (by (try simp only [List.length_set]);omega)
   have e1:(decide (0≤(i:Int)∧(i:Int)<(((h.set i (k,(h.getD i ((0:Int),false)).2)).length:Nat):Int)))=true:=decide_eq_true (by (try simp only [List.length_set]);omega)
   have h1:decide ((i:Int)<(h.length:Int))=true:=decide_eq_true (by omega)
   have v1:(J6 i (k,h)).1=k+(1:Int)+(1:Int):=by simp only [J6,w1,w2]
   have v2:(J6 i (k,h)).2.length=h.length:=by simp only [J6,List.length_set]
   refine ⟨⟨by rw [v1];omega,by rw [v2];exact hb2⟩,?_⟩
   simp only [P6,B0a,RT.val,h1,e0,e1,cond_true,A7e i (by omega),Int.toNat_natCast]
   rfl
  ·have h1:decide ((i:Int)<(b.2.length:Int))=false:=decide_eq_false (by omega)
   exact ⟨by simp only [P6,B0a,RT.val,h1,cond_false];rfl,_,_,_,rfl,by simp⟩
theorem C0D:RdA G73 aLn 0 B1F N7 1 [] (kepts [] [(0,[1])]) (fun d=>(P6 d).opt 1 []):=by
 intro d
 kernel_rfl
noncomputable abbrev B3l:St→Option Tree:=N7.say 1 [] [] (fun d=>X1 d.1.2.1 d.1.2.2.2.2.2.1 d.2.1)
theorem C1p:aPL B3l B1F:=SS.wp2 hlz [] P6 C0D (fun d=>rfl) _ (fun d=>C12 d.1.2.1 d.1.2.2.2.2.2.1 d.2.1)
noncomputable def A9Y (x1:Int) (h0:LIbe):Int×LIbe:=let z1:=foldN J6 (h0.length - (0:Int).toNat) (0:Int).toNat (x1,h0);((z1.1),(z1.2))
noncomputable abbrev B7G (r:Int×LIbe):AV×List AObj×List Nat:=((ti r.1),[(.rows 43 true B93 r.2)],[])
noncomputable abbrev B7K:A8D.den→AV×List AObj×List Nat:=fun d=>B7G (A9Y d.1.2.1 d.2.1)
noncomputable def T6 (x1:Int) (h0:LIbe):Bool:=okL h0&&decide (0≤x1∧x1≤10000000)
noncomputable abbrev B5d:A8D.den→Bool:=fun d=>T6 d.1.2.1 d.2.1
noncomputable abbrev C3N:Nat→St→Option Tree:=fun b=>match b with | 0=>B3l | _=>fun _=>none
theorem C2D:A7g G73 (C3N) Try.f79 A8D B5d B7K:=by
 rintro ⟨⟨_,x1,_⟩,⟨h0,_⟩⟩ hp
 change T6 x1 h0=true at hp
 unfold T6 at hp
 refine Eq.trans (b:=(let z1:=foldN J6 (h0.length - (0:Int).toNat) (0:Int).toNat (x1,h0);cond (decide (0≤(0:Int))&&(decide (0≤x1∧x1≤100000*((0:Int)+100))&&okL h0)) (some (B7G ((z1.1),(z1.2)))) none)) (by kernel_rfl) ?_
 exact (A7k (by first | rfl | decide | exact hp | (simp only [Bool.and_eq_true] at hp;simp only [hp];done) | (simp [*];done) | (simp [okL] at hp;simp [okL,MAXB];omega) | (simp_all;done) | (simp at *;omega)) (fun _h=>rfl))
noncomputable abbrev B7U:=win E5 (msum A8D B5d B7K)
theorem C3V:aPM 79 B7U:=(mcM G73 (hl1 (i:=0) (by kernel_rfl) C1p) C2D).win E5
noncomputable def S74:Tab:=Tab.add S73 79 (B7U)
noncomputable def D23:FuncId→Bool:=D22
theorem G74:aPG S74 D23:=G73.addM C3V (A6S _) (cbl Try.f79) (by kernel_rfl)

abbrev B0C:SS:=⟨[.agg [.t true (.int .i64),.t true (.int .i64),.t true (.int .i64),.all 0 4,.all 1 2,.t true (.int .i64)],tI],[.deep 48 [90,3] tq7,.rows 43 true B93]⟩
noncomputable def B26 (x0_0 x0_1 x0_2 x0_5 x1:Int) (h0:LT1) (h1:LIbe):Int×LT1×LIbe:=let z1:=A9Y ((B0s x1 h0).1) h1;((z1.1),((B0s x1 h0).2),(z1.2))
noncomputable abbrev C1b (r:Int×LT1×LIbe):AV×List AObj×List Nat:=((ti r.1),[(.deep 48 [90,3] tq7 r.2.1),(.rows 43 true B93 r.2.2)],[])
noncomputable abbrev C1i:B0C.den→AV×List AObj×List Nat:=fun d=>C1b (B26 d.1.1.1 d.1.1.2.1 d.1.1.2.2.1 d.1.1.2.2.2.2.2.1 d.1.2.1 d.2.1 d.2.2.1)
noncomputable def Z7 (x0_0 x0_1 x0_2 x0_5 x1:Int) (h0:LT1) (h1:LIbe):Bool:=(A72 x1 h0)&&(T6 ((B0s x1 h0).1) h1)
noncomputable abbrev B75:B0C.den→Bool:=fun d=>Z7 d.1.1.1 d.1.1.2.1 d.1.1.2.2.1 d.1.1.2.2.2.2.2.1 d.1.2.1 d.2.1 d.2.2.1
theorem C4U:A7g G74 aLn Try.f35 B0C B75 C1i:=by
 rintro ⟨⟨⟨x0_0,x0_1,x0_2,_,_,x0_5,_⟩,x1,_⟩,⟨h0,h1,_⟩⟩ hp
 change Z7 x0_0 x0_1 x0_2 x0_5 x1 h0 h1=true at hp
 unfold Z7 at hp
 refine Eq.trans (b:=(let z1:=B0s x1 h0;let z2:=A9Y (z1.1) h1;cond (A72 x1 h0) (cond (T6 (z1.1) h1) (some (C1b ((z2.1),(z1.2),(z2.2)))) none) none)) (by kernel_rfl) ?_
 exact (A7i hp fun hp=>(A7k hp fun _h=>rfl))
noncomputable abbrev C1q:=win E5 (msum B0C B75 C1i)
theorem C6k:aPM 35 C1q:=(mcM G74 hlz C4U).win E5
noncomputable def S75:Tab:=Tab.add S74 35 (C1q)
noncomputable def D24:FuncId→Bool:=D23
theorem G75:aPG S75 D24:=G74.addM C6k (A6S _) (cbl Try.f35) (by kernel_rfl)


end Go.Proofs.Ytapikgcgahomlaa.Eng
