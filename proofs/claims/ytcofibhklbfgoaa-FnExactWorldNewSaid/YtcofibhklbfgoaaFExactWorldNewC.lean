/- What the functions that FnExactWorldNew reaches compute: further. -/
import Derived.Test.YtcofibhklbfgoaaFExactWorldNewB
namespace Go.Proofs.Ytcofibhklbfgoaa.Eng
open Go Go.RowKit
set_option linter.unusedSimpArgs false
set_option linter.unusedVariables false
set_option maxRecDepth 10000
abbrev C0W:List Sh:=.junk::.junk::.junk::C1c
abbrev C1d:List Sh:=.junk::.junk::.junk::.junk::C0W
abbrev u43:=((),(),(),u40)
abbrev u47:=((),(),(),(),u43)
abbrev C0Q:List AV:=.junk::.junk::.junk::C05
abbrev C06:List AV:=.junk::.junk::.junk::.junk::C0Q
abbrev A7H:SS:=⟨[.all 0 5,tI],[.deep 53 [69,131,69] tq3]⟩
abbrev K1:SS:=⟨(.all 0 5::tI::.junk::.junk::.junk::tI::C0W),[.deep 53 [69,131,69] tq3]⟩
abbrev B0n:SS:=⟨(.junk::tI::C1d),[.deep 53 [69,131,69] tq3]⟩
noncomputable def B1X (x1 x5:Int) (h0:LT2):RT K1.den:=let z6:=(h0.getD x5.toNat ((0:Int),([],((0:Int),([],[]))))).2;let z2:=h0.set x5.toNat (x1,(z6.1,((z6.2).1,(((z6.2).2).1,((z6.2).2).2))));let z5:=z2.getD x5.toNat ((0:Int),([],((0:Int),([],[]))));let z10:=decide (0≤x5∧x5<((z2.length:Nat):Int));let z11:=wI (x1+(1:Int));let z8:=A7s ((z5.2).1) z11;let z1:=z2.set x5.toNat (z5.1,((z5.2).1,(z8,((((z5.2).2).2).1,(((z5.2).2).2).2))));let z4:=z1.getD x5.toNat ((0:Int),([],((0:Int),([],[]))));let z12:=wI (z8+(1:Int));let z3:=A90 z12 ((((z4.2).2).2).1);let z7:=z1.set x5.toNat (z4.1,((z4.2).1,(((z4.2).2).1,((z3.2),(((z4.2).2).2).2))));let z9:=((((z7.getD x5.toNat ((0:Int),([],((0:Int),([],[]))))).2).2).2).2;(.br (decide (x5<(h0.length:Int))) (.br (decide (0≤x5∧x5<(h0.length:Int))) (.br z10 (.br (N4 ((z5.2).1) z11) (.br z10 (.br (decide (0≤x5∧x5<((z1.length:Nat):Int))) (.br (P5 z12 ((((z4.2).2).2).1)) (.br (decide (0≤x5∧x5<((z7.length:Nat):Int))) (.br (N4 z9 (z3.1)) (.next (((),(A7s z9 (z3.1)),(),(),(),wI (x5+(1:Int)),u43),(z1.set x5.toNat (z4.1,((z4.2).1,(((z4.2).2).1,((z3.2),(((z4.2).2).2).2)))),()))) .fail) .fail) .fail) .fail) .fail) .fail) .fail) .fail) (.done (.exit 0) B0n (((),x1,u47),(h0,()))))
abbrev A0g:=(Int)×(Int)×LT2
abbrev T9:=Nat×(Int)×LT2
def I9:T9:=(99,((0:Int):Int),([]:LT2))
noncomputable def Y1 (x1 x5:Int) (h0:LT2):A0g ⊕ T9:=let z6:=(h0.getD x5.toNat ((0:Int),([],((0:Int),([],[]))))).2;let z2:=h0.set x5.toNat (x1,(z6.1,((z6.2).1,(((z6.2).2).1,((z6.2).2).2))));let z5:=z2.getD x5.toNat ((0:Int),([],((0:Int),([],[]))));let z10:=decide (0≤x5∧x5<((z2.length:Nat):Int));let z11:=wI (x1+(1:Int));let z8:=A7s ((z5.2).1) z11;let z1:=z2.set x5.toNat (z5.1,((z5.2).1,(z8,((((z5.2).2).2).1,(((z5.2).2).2).2))));let z4:=z1.getD x5.toNat ((0:Int),([],((0:Int),([],[]))));let z12:=wI (z8+(1:Int));let z3:=A90 z12 ((((z4.2).2).2).1);let z7:=z1.set x5.toNat (z4.1,((z4.2).1,(((z4.2).2).1,((z3.2),(((z4.2).2).2).2))));let z9:=((((z7.getD x5.toNat ((0:Int),([],((0:Int),([],[]))))).2).2).2).2;(cond (decide (x5<(h0.length:Int))) (cond (decide (0≤x5∧x5<(h0.length:Int))) (cond z10 (cond (N4 ((z5.2).1) z11) (cond z10 (cond (decide (0≤x5∧x5<((z1.length:Nat):Int))) (cond (P5 z12 ((((z4.2).2).2).1)) (cond (decide (0≤x5∧x5<((z7.length:Nat):Int))) (cond (N4 z9 (z3.1)) (.inl ((A7s z9 (z3.1)),wI (x5+(1:Int)),z1.set x5.toNat (z4.1,((z4.2).1,(((z4.2).2).1,((z3.2),(((z4.2).2).2).2)))))) (.inr I9)) (.inr I9)) (.inr I9)) (.inr I9)) (.inr I9)) (.inr I9)) (.inr I9)) (.inr I9)) (.inr (0,x1,h0)))
noncomputable def R4 (x1 x5:Int) (h0:LT2):T9:=itX (fun v:A0g=>Y1 v.1 v.2.1 v.2.2) I9 (x1,x5,h0)
noncomputable def A79 (a:T9):CT:=(.br (a.1==0) (.done (.exit 0) B0n (((),a.2.1,u47),(a.2.2,()))) .fail)
noncomputable def B6n (x1 x5:Int) (h0:LT2):CT:=A79 (R4 x1 x5 h0)
noncomputable abbrev A8p:K1.den→RT K1.den:=(fun d=>B1X d.1.2.1 d.1.2.2.2.2.2.1 d.2.1)
noncomputable def A9L:Code:=((D4 0 (A1T Try.f31)).getD 0 (0,.skip)).2
noncomputable abbrev B1J (v:A0g):K1.den:=(((),v.1,(),(),(),v.2.1,u43),(v.2.2,()))
theorem B58:(∀ v:A0g,(B1X v.1 v.2.1 v.2.2).val=A6u B1J A79 (Y1 v.1 v.2.1 v.2.2))∧∀ a:T9,CEnd K1.den (A79 a):=⟨fun v=>by repeat' first | apply A7n | rfl,fun a=>(A7c aCD A7e)⟩
noncomputable def B1D (x1 x5:Int) (h0:LT2):Option (Ex×St):=let z7:=(h0.getD x5.toNat ((0:Int),([],((0:Int),([],[]))))).2;let z2:=h0.set x5.toNat (x1,(z7.1,((z7.2).1,(((z7.2).2).1,((z7.2).2).2))));let z4:=z2.getD x5.toNat ((0:Int),([],((0:Int),([],[]))));let z10:=wI (x1+(1:Int));let z11:=decide (0≤x5∧x5<((z2.length:Nat):Int));let z12:=A7s ((z4.2).1) z10;let z1:=z2.set x5.toNat (z4.1,((z4.2).1,(z12,((((z4.2).2).2).1,(((z4.2).2).2).2))));let z5:=z1.getD x5.toNat ((0:Int),([],((0:Int),([],[]))));let z6:=wI (z12+(1:Int));let z9:=A90 z6 ((((z5.2).2).2).1);let z3:=z1.set x5.toNat (z5.1,((z5.2).1,(((z5.2).2).1,((z9.2),(((z5.2).2).2).2))));let z8:=((((z3.getD x5.toNat ((0:Int),([],((0:Int),([],[]))))).2).2).2).2;(cond (decide (x5<(h0.length:Int))) (cond (decide (0≤x5∧x5<(h0.length:Int))) (cond z11 (cond (N4 ((z4.2).1) z10) (cond z11 (cond (decide (0≤x5∧x5<((z1.length:Nat):Int))) (cond (P5 z6 ((((z5.2).2).2).1)) (cond (decide (0≤x5∧x5<((z3.length:Nat):Int))) (cond (N4 z8 (z9.1)) (some (.normal,(⟨((.all 0 5)::(ti (A7s z8 (z9.1)))::.junk::.junk::.junk::(ti (wI (x5+(1:Int))))::C0Q),[(.deep 53 [69,131,69] tq3 z3)],1,[]⟩:St))) none) none) none) none) none) none) none) none) (some ((.exit 0),(⟨(.junk::(ti x1)::C06),[(.deep 53 [69,131,69] tq3 h0)],1,[]⟩:St))))
theorem B5r:RdA G36 aLn 0 A9L K1 1 [] (kepts [] [(0,[1])]) (fun d=>B1D d.1.2.1 d.1.2.2.2.2.2.1 d.2.1):=by
 intro d
 kernel_rfl
theorem B5u:∀ d:K1.den,(fun d=>B1D d.1.2.1 d.1.2.2.2.2.2.1 d.2.1) d=(A8p d).opt 1 []:=by
 intro d
 kernel_rfl
noncomputable abbrev B0O:St→Option Tree:=K1.say 1 [] [] (fun d=>B6n d.1.2.1 d.1.2.2.2.2.2.1 d.2.1)
theorem B5Q:aPL B0O A9L:=SS.wp2 hlz [] A8p B5r B5u _ (fun d=>Runs.ofI2 (step:=A8p) B1J B58 rfl (d.1.2.1,d.1.2.2.2.2.2.1,d.2.1))
noncomputable def A7t (x1:Int) (h0:LT2):Int×LT2:=let z1:=R4 x1 (0:Int) h0;((z1.2.1),(z1.2.2))
noncomputable abbrev B4r (r:Int×LT2):AV×List AObj×List Nat:=((ti r.1),[(.deep 53 [69,131,69] tq3 r.2)],[])
noncomputable abbrev B4t:A7H.den→AV×List AObj×List Nat:=fun d=>B4r (A7t d.1.2.1 d.2.1)
noncomputable def Q3 (x1:Int) (h0:LT2):Bool:=((R4 x1 (0:Int) h0).1==0)
noncomputable abbrev B2H:A7H.den→Bool:=fun d=>Q3 d.1.2.1 d.2.1
noncomputable abbrev B7N:Nat→St→Option Tree:=fun b=>match b with | 0=>B0O | _=>fun _=>none
theorem B6N:A7i G36 (B7N) Try.f31 A7H B2H B4t:=by
 rintro ⟨⟨_,x1,_⟩,⟨h0,_⟩⟩ hp
 change Q3 x1 h0=true at hp
 unfold Q3 at hp
 refine Eq.trans (b:=(let z1:=R4 x1 (0:Int) h0;cond (z1.1==0) (some (B4r ((z1.2.1),(z1.2.2)))) none)) (by kernel_rfl) ?_
 exact (A7m hp fun _h=>rfl)
noncomputable abbrev B4v:=win E7 (msum A7H B2H B4t)
theorem B72:aPM 31 B4v:=(mcM G36 (hl1 (i:=0) (by kernel_rfl) B5Q) B6N).win E7
noncomputable def S37:Tab:=Tab.add S36 31 (B4v)
noncomputable def C1G:FuncId→Bool:=C1F
theorem G37:aPG S37 C1G:=G36.addM B72 (A6W _) (cbl Try.f31) (by kernel_rfl)


end Go.Proofs.Ytcofibhklbfgoaa.Eng
