/- What the functions that FnExactTellAll reaches compute: further. -/
import Derived.Test.YtapikgcgahomlaaFExactTellAllC
namespace Go.Proofs.Ytapikgcgahomlaa.Eng
open Go Go.RowKit
set_option linter.unusedSimpArgs false
set_option linter.unusedVariables false
set_option maxRecDepth 10000
abbrev D3n:List Sh:=.junk::.junk::D1U
abbrev u45:=((),(),(),(),u41)
abbrev D1I:List AV:=.junk::.junk::D1H
abbrev B0D:SS:=⟨[.all 0 5,tI],[.deep 58 [90] tq3]⟩
abbrev O7:SS:=⟨(.all 0 5::tI::.junk::.junk::.junk::tI::D1o),[.deep 58 [90] tq3]⟩
abbrev B4B:SS:=⟨(.junk::tI::D3n),[.deep 58 [90] tq3]⟩
noncomputable def B62 (x1 x5:Int) (h0:LT2):RT O7.den:=let z7:=(h0.getD x5.toNat ((0:Int),((0:Int),((0:Int),([],false))))).2;let z4:=h0.set x5.toNat (x1,(z7.1,((z7.2).1,(((z7.2).2).1,((z7.2).2).2))));let z9:=z4.getD x5.toNat ((0:Int),((0:Int),((0:Int),([],false))));let z1:=z4.set x5.toNat (z9.1,(wI (x1+(1:Int)),(((z9.2).2).1,((((z9.2).2).2).1,(((z9.2).2).2).2))));let z10:=z1.getD x5.toNat ((0:Int),((0:Int),((0:Int),([],false))));let z12:=(wI (x1+(1:Int)))+(1:Int);let z2:=z1.set x5.toNat (z10.1,((z10.2).1,(wI z12,((((z10.2).2).2).1,(((z10.2).2).2).2))));let z5:=z2.getD x5.toNat ((0:Int),((0:Int),((0:Int),([],false))));let z6:=wI ((wI z12)+(1:Int));let z11:=J4 z6 ((((z5.2).2).2).1);let z3:=z2.set x5.toNat (z5.1,((z5.2).1,(((z5.2).2).1,((z11.2),(((z5.2).2).2).2))));let z8:=z3.getD x5.toNat ((0:Int),((0:Int),((0:Int),([],false))));(.br (decide (x5<(h0.length:Int))) (.br (decide (0≤x5∧x5<(h0.length:Int))) (.br (decide (0≤x5∧x5<((z4.length:Nat):Int))) (.br (decide (0≤x5∧x5<((z1.length:Nat):Int))) (.br (decide (0≤x5∧x5<((z2.length:Nat):Int))) (.br (T7 z6 ((((z5.2).2).2).1)) (.br (decide (0≤x5∧x5<((z3.length:Nat):Int))) (.next (((),wI ((z11.1)+(1:Int)),(),(),(),wI (x5+(1:Int)),u45),(z3.set x5.toNat (z8.1,((z8.2).1,(((z8.2).2).1,((((z8.2).2).2).1,((Int.tmod (z11.1) (3:Int))==(0:Int)))))),()))) .fail) .fail) .fail) .fail) .fail) .fail) (.done (.exit 0) B4B (((),x1,u49),(h0,()))))
abbrev A9x:=(Int)×(Int)×LT2
abbrev A7D:=Nat×(Int)×LT2
def P9:A7D:=(99,((0:Int):Int),([]:LT2))
noncomputable def A8I (x1 x5:Int) (h0:LT2):A9x ⊕ A7D:=let z7:=(h0.getD x5.toNat ((0:Int),((0:Int),((0:Int),([],false))))).2;let z4:=h0.set x5.toNat (x1,(z7.1,((z7.2).1,(((z7.2).2).1,((z7.2).2).2))));let z9:=z4.getD x5.toNat ((0:Int),((0:Int),((0:Int),([],false))));let z1:=z4.set x5.toNat (z9.1,(wI (x1+(1:Int)),(((z9.2).2).1,((((z9.2).2).2).1,(((z9.2).2).2).2))));let z10:=z1.getD x5.toNat ((0:Int),((0:Int),((0:Int),([],false))));let z12:=(wI (x1+(1:Int)))+(1:Int);let z2:=z1.set x5.toNat (z10.1,((z10.2).1,(wI z12,((((z10.2).2).2).1,(((z10.2).2).2).2))));let z5:=z2.getD x5.toNat ((0:Int),((0:Int),((0:Int),([],false))));let z6:=wI ((wI z12)+(1:Int));let z11:=J4 z6 ((((z5.2).2).2).1);let z3:=z2.set x5.toNat (z5.1,((z5.2).1,(((z5.2).2).1,((z11.2),(((z5.2).2).2).2))));let z8:=z3.getD x5.toNat ((0:Int),((0:Int),((0:Int),([],false))));(cond (decide (x5<(h0.length:Int))) (cond (decide (0≤x5∧x5<(h0.length:Int))) (cond (decide (0≤x5∧x5<((z4.length:Nat):Int))) (cond (decide (0≤x5∧x5<((z1.length:Nat):Int))) (cond (decide (0≤x5∧x5<((z2.length:Nat):Int))) (cond (T7 z6 ((((z5.2).2).2).1)) (cond (decide (0≤x5∧x5<((z3.length:Nat):Int))) (.inl (wI ((z11.1)+(1:Int)),wI (x5+(1:Int)),z3.set x5.toNat (z8.1,((z8.2).1,(((z8.2).2).1,((((z8.2).2).2).1,((Int.tmod (z11.1) (3:Int))==(0:Int)))))))) (.inr P9)) (.inr P9)) (.inr P9)) (.inr P9)) (.inr P9)) (.inr P9)) (.inr (0,x1,h0)))
noncomputable def A0d (x1 x5:Int) (h0:LT2):A7D:=itX (fun v:A9x=>A8I v.1 v.2.1 v.2.2) P9 (x1,x5,h0)
noncomputable def B1t (a:A7D):CT:=(.br (a.1==0) (.done (.exit 0) B4B (((),a.2.1,u49),(a.2.2,()))) .fail)
noncomputable def C3R (x1 x5:Int) (h0:LT2):CT:=B1t (A0d x1 x5 h0)
noncomputable abbrev B1z:O7.den→RT O7.den:=(fun d=>B62 d.1.2.1 d.1.2.2.2.2.2.1 d.2.1)
noncomputable def B3D:Code:=((D3 0 (A1f Try.f38)).getD 0 (0,.skip)).2
noncomputable abbrev B6R (v:A9x):O7.den:=(((),v.1,(),(),(),v.2.1,u45),(v.2.2,()))
theorem C3F:(∀ v:A9x,(B62 v.1 v.2.1 v.2.2).val=A6l B6R B1t (A8I v.1 v.2.1 v.2.2))∧∀ a:A7D,CEnd O7.den (B1t a):=⟨fun v=>by repeat' first | apply A7m | rfl,fun a=>(A7a aCD A7c)⟩
noncomputable def B6N (x1 x5:Int) (h0:LT2):Option (Ex×St):=let z7:=(h0.getD x5.toNat ((0:Int),((0:Int),((0:Int),([],false))))).2;let z4:=h0.set x5.toNat (x1,(z7.1,((z7.2).1,(((z7.2).2).1,((z7.2).2).2))));let z9:=z4.getD x5.toNat ((0:Int),((0:Int),((0:Int),([],false))));let z1:=z4.set x5.toNat (z9.1,(wI (x1+(1:Int)),(((z9.2).2).1,((((z9.2).2).2).1,(((z9.2).2).2).2))));let z10:=z1.getD x5.toNat ((0:Int),((0:Int),((0:Int),([],false))));let z12:=(wI (x1+(1:Int)))+(1:Int);let z2:=z1.set x5.toNat (z10.1,((z10.2).1,(wI z12,((((z10.2).2).2).1,(((z10.2).2).2).2))));let z5:=z2.getD x5.toNat ((0:Int),((0:Int),((0:Int),([],false))));let z6:=wI ((wI z12)+(1:Int));let z11:=J4 z6 ((((z5.2).2).2).1);let z3:=z2.set x5.toNat (z5.1,((z5.2).1,(((z5.2).2).1,((z11.2),(((z5.2).2).2).2))));let z8:=z3.getD x5.toNat ((0:Int),((0:Int),((0:Int),([],false))));(cond (decide (x5<(h0.length:Int))) (cond (decide (0≤x5∧x5<(h0.length:Int))) (cond (decide (0≤x5∧x5<((z4.length:Nat):Int))) (cond (decide (0≤x5∧x5<((z1.length:Nat):Int))) (cond (decide (0≤x5∧x5<((z2.length:Nat):Int))) (cond (T7 z6 ((((z5.2).2).2).1)) (cond (decide (0≤x5∧x5<((z3.length:Nat):Int))) (some (.normal,(⟨((.all 0 5)::(ti (wI ((z11.1)+(1:Int))))::.junk::.junk::.junk::(ti (wI (x5+(1:Int))))::D1k),[(.deep 58 [90] tq3 (z3.set x5.toNat (z8.1,((z8.2).1,(((z8.2).2).1,((((z8.2).2).2).1,((Int.tmod (z11.1) (3:Int))==(0:Int))))))))],1,[]⟩:St))) none) none) none) none) none) none) (some ((.exit 0),(⟨(.junk::(ti x1)::D1I),[(.deep 58 [90] tq3 h0)],1,[]⟩:St))))
theorem C2w:RdA G75 aLn 0 B3D O7 1 [] (kepts [] [(0,[1])]) (fun d=>B6N d.1.2.1 d.1.2.2.2.2.2.1 d.2.1):=by
 intro d
 kernel_rfl
theorem C2A:∀ d:O7.den,(fun d=>B6N d.1.2.1 d.1.2.2.2.2.2.1 d.2.1) d=(B1z d).opt 1 []:=by
 intro d
 kernel_rfl
noncomputable abbrev B5o:St→Option Tree:=O7.say 1 [] [] (fun d=>C3R d.1.2.1 d.1.2.2.2.2.2.1 d.2.1)
theorem C3p:aPL B5o B3D:=SS.wp2 hlz [] B1z C2w C2A _ (fun d=>Runs.ofI2 (step:=B1z) B6R C3F rfl (d.1.2.1,d.1.2.2.2.2.2.1,d.2.1))
noncomputable def B0t (x1:Int) (h0:LT2):Int×LT2:=let z1:=A0d x1 (0:Int) h0;((z1.2.1),(z1.2.2))
noncomputable abbrev C1c (r:Int×LT2):AV×List AObj×List Nat:=((ti r.1),[(.deep 58 [90] tq3 r.2)],[])
noncomputable abbrev C1j:B0D.den→AV×List AObj×List Nat:=fun d=>C1c (B0t d.1.2.1 d.2.1)
noncomputable def Z8 (x1:Int) (h0:LT2):Bool:=((A0d x1 (0:Int) h0).1==0)
noncomputable abbrev B76:B0D.den→Bool:=fun d=>Z8 d.1.2.1 d.2.1
noncomputable abbrev C55:Nat→St→Option Tree:=fun b=>match b with | 0=>B5o | _=>fun _=>none
theorem C4V:A7g G75 (C55) Try.f38 B0D B76 C1j:=by
 rintro ⟨⟨_,x1,_⟩,⟨h0,_⟩⟩ hp
 change Z8 x1 h0=true at hp
 unfold Z8 at hp
 refine Eq.trans (b:=(let z1:=A0d x1 (0:Int) h0;cond (z1.1==0) (some (C1c ((z1.2.1),(z1.2.2)))) none)) (by kernel_rfl) ?_
 exact (A7k hp fun _h=>rfl)
noncomputable abbrev C1r:=win E5 (msum B0D B76 C1j)
theorem C6l:aPM 38 C1r:=(mcM G75 (hl1 (i:=0) (by kernel_rfl) C3p) C4V).win E5
noncomputable def S76:Tab:=Tab.add S75 38 (C1r)
noncomputable def D25:FuncId→Bool:=D24
theorem G76:aPG S76 D25:=G75.addM C6l (A6S _) (cbl Try.f38) (by kernel_rfl)


end Go.Proofs.Ytapikgcgahomlaa.Eng
