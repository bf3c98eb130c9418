/- What the functions that FnExactWorldNew reaches compute: further. -/
import Derived.Test.YtcofibhklbfgoaaFExactWorldNewC
namespace Go.Proofs.Ytcofibhklbfgoaa.Eng
open Go Go.RowKit
set_option linter.unusedSimpArgs false
set_option linter.unusedVariables false
set_option maxRecDepth 10000
abbrev C15:List Sh:=.junk::.junk::C0W
abbrev C16:List Sh:=.junk::.junk::C1d
abbrev u45:=((),(),u43)
abbrev u49:=((),(),u47)
abbrev C1X:List AV:=.junk::.junk::C0Q
abbrev C07:List AV:=.junk::.junk::C06
abbrev A8t:SS:=⟨[.all 0 5,tI],[.deep 89 [83] tq9]⟩
abbrev K9:SS:=⟨(.all 0 5::tI::.junk::.junk::.junk::tI::C15),[.deep 89 [83] tq9]⟩
abbrev B1d:SS:=⟨(.junk::tI::C16),[.deep 89 [83] tq9]⟩
noncomputable def B2Y (x1 x5:Int) (h0:LT3):RT K9.den:=let z7:=(h0.getD x5.toNat ((0:Int),((0:Int),((0:Int),([],false))))).2;let z4:=h0.set x5.toNat (x1,(z7.1,((z7.2).1,(((z7.2).2).1,((z7.2).2).2))));let z9:=z4.getD x5.toNat ((0:Int),((0:Int),((0:Int),([],false))));let z1:=z4.set x5.toNat (z9.1,(wI (x1+(1:Int)),(((z9.2).2).1,((((z9.2).2).2).1,(((z9.2).2).2).2))));let z10:=z1.getD x5.toNat ((0:Int),((0:Int),((0:Int),([],false))));let z12:=(wI (x1+(1:Int)))+(1:Int);let z2:=z1.set x5.toNat (z10.1,((z10.2).1,(wI z12,((((z10.2).2).2).1,(((z10.2).2).2).2))));let z5:=z2.getD x5.toNat ((0:Int),((0:Int),((0:Int),([],false))));let z6:=wI ((wI z12)+(1:Int));let z11:=A7U z6 ((((z5.2).2).2).1);let z3:=z2.set x5.toNat (z5.1,((z5.2).1,(((z5.2).2).1,((z11.2),(((z5.2).2).2).2))));let z8:=z3.getD x5.toNat ((0:Int),((0:Int),((0:Int),([],false))));(.br (decide (x5<(h0.length:Int))) (.br (decide (0≤x5∧x5<(h0.length:Int))) (.br (decide (0≤x5∧x5<((z4.length:Nat):Int))) (.br (decide (0≤x5∧x5<((z1.length:Nat):Int))) (.br (decide (0≤x5∧x5<((z2.length:Nat):Int))) (.br (O5 z6 ((((z5.2).2).2).1)) (.br (decide (0≤x5∧x5<((z3.length:Nat):Int))) (.next (((),wI ((z11.1)+(1:Int)),(),(),(),wI (x5+(1:Int)),u45),(z3.set x5.toNat (z8.1,((z8.2).1,(((z8.2).2).1,((((z8.2).2).2).1,((Int.tmod (z11.1) (3:Int))==(0:Int)))))),()))) .fail) .fail) .fail) .fail) .fail) .fail) (.done (.exit 0) B1d (((),x1,u49),(h0,()))))
abbrev A7M:=(Int)×(Int)×LT3
abbrev V0:=Nat×(Int)×LT3
def L9:V0:=(99,((0:Int):Int),([]:LT3))
noncomputable def B2W (x1 x5:Int) (h0:LT3):A7M ⊕ V0:=let z7:=(h0.getD x5.toNat ((0:Int),((0:Int),((0:Int),([],false))))).2;let z4:=h0.set x5.toNat (x1,(z7.1,((z7.2).1,(((z7.2).2).1,((z7.2).2).2))));let z9:=z4.getD x5.toNat ((0:Int),((0:Int),((0:Int),([],false))));let z1:=z4.set x5.toNat (z9.1,(wI (x1+(1:Int)),(((z9.2).2).1,((((z9.2).2).2).1,(((z9.2).2).2).2))));let z10:=z1.getD x5.toNat ((0:Int),((0:Int),((0:Int),([],false))));let z12:=(wI (x1+(1:Int)))+(1:Int);let z2:=z1.set x5.toNat (z10.1,((z10.2).1,(wI z12,((((z10.2).2).2).1,(((z10.2).2).2).2))));let z5:=z2.getD x5.toNat ((0:Int),((0:Int),((0:Int),([],false))));let z6:=wI ((wI z12)+(1:Int));let z11:=A7U z6 ((((z5.2).2).2).1);let z3:=z2.set x5.toNat (z5.1,((z5.2).1,(((z5.2).2).1,((z11.2),(((z5.2).2).2).2))));let z8:=z3.getD x5.toNat ((0:Int),((0:Int),((0:Int),([],false))));(cond (decide (x5<(h0.length:Int))) (cond (decide (0≤x5∧x5<(h0.length:Int))) (cond (decide (0≤x5∧x5<((z4.length:Nat):Int))) (cond (decide (0≤x5∧x5<((z1.length:Nat):Int))) (cond (decide (0≤x5∧x5<((z2.length:Nat):Int))) (cond (O5 z6 ((((z5.2).2).2).1)) (cond (decide (0≤x5∧x5<((z3.length:Nat):Int))) (.inl (wI ((z11.1)+(1:Int)),wI (x5+(1:Int)),z3.set x5.toNat (z8.1,((z8.2).1,(((z8.2).2).1,((((z8.2).2).2).1,((Int.tmod (z11.1) (3:Int))==(0:Int)))))))) (.inr L9)) (.inr L9)) (.inr L9)) (.inr L9)) (.inr L9)) (.inr L9)) (.inr (0,x1,h0)))
noncomputable def U2 (x1 x5:Int) (h0:LT3):V0:=itX (fun v:A7M=>B2W v.1 v.2.1 v.2.2) L9 (x1,x5,h0)
noncomputable def A83 (a:V0):CT:=(.br (a.1==0) (.done (.exit 0) B1d (((),a.2.1,u49),(a.2.2,()))) .fail)
noncomputable def B6V (x1 x5:Int) (h0:LT3):CT:=A83 (U2 x1 x5 h0)
noncomputable abbrev A87:K9.den→RT K9.den:=(fun d=>B2Y d.1.2.1 d.1.2.2.2.2.2.1 d.2.1)
noncomputable def B0v:Code:=((D4 0 (A1T Try.f32)).getD 0 (0,.skip)).2
noncomputable abbrev B2J (v:A7M):K9.den:=(((),v.1,(),(),(),v.2.1,u45),(v.2.2,()))
theorem B6J:(∀ v:A7M,(B2Y v.1 v.2.1 v.2.2).val=A6u B2J A83 (B2W v.1 v.2.1 v.2.2))∧∀ a:V0,CEnd K9.den (A83 a):=⟨fun v=>by repeat' first | apply A7n | rfl,fun a=>(A7c aCD A7e)⟩
noncomputable def B2D (x1 x5:Int) (h0:LT3):Option (Ex×St):=let z7:=(h0.getD x5.toNat ((0:Int),((0:Int),((0:Int),([],false))))).2;let z4:=h0.set x5.toNat (x1,(z7.1,((z7.2).1,(((z7.2).2).1,((z7.2).2).2))));let z9:=z4.getD x5.toNat ((0:Int),((0:Int),((0:Int),([],false))));let z1:=z4.set x5.toNat (z9.1,(wI (x1+(1:Int)),(((z9.2).2).1,((((z9.2).2).2).1,(((z9.2).2).2).2))));let z10:=z1.getD x5.toNat ((0:Int),((0:Int),((0:Int),([],false))));let z12:=(wI (x1+(1:Int)))+(1:Int);let z2:=z1.set x5.toNat (z10.1,((z10.2).1,(wI z12,((((z10.2).2).2).1,(((z10.2).2).2).2))));let z5:=z2.getD x5.toNat ((0:Int),((0:Int),((0:Int),([],false))));let z6:=wI ((wI z12)+(1:Int));let z11:=A7U z6 ((((z5.2).2).2).1);let z3:=z2.set x5.toNat (z5.1,((z5.2).1,(((z5.2).2).1,((z11.2),(((z5.2).2).2).2))));let z8:=z3.getD x5.toNat ((0:Int),((0:Int),((0:Int),([],false))));(cond (decide (x5<(h0.length:Int))) (cond (decide (0≤x5∧x5<(h0.length:Int))) (cond (decide (0≤x5∧x5<((z4.length:Nat):Int))) (cond (decide (0≤x5∧x5<((z1.length:Nat):Int))) (cond (decide (0≤x5∧x5<((z2.length:Nat):Int))) (cond (O5 z6 ((((z5.2).2).2).1)) (cond (decide (0≤x5∧x5<((z3.length:Nat):Int))) (some (.normal,(⟨((.all 0 5)::(ti (wI ((z11.1)+(1:Int))))::.junk::.junk::.junk::(ti (wI (x5+(1:Int))))::C1X),[(.deep 89 [83] tq9 (z3.set x5.toNat (z8.1,((z8.2).1,(((z8.2).2).1,((((z8.2).2).2).1,((Int.tmod (z11.1) (3:Int))==(0:Int))))))))],1,[]⟩:St))) none) none) none) none) none) none) (some ((.exit 0),(⟨(.junk::(ti x1)::C07),[(.deep 89 [83] tq9 h0)],1,[]⟩:St))))
theorem B51:RdA G37 aLn 0 B0v K9 1 [] (kepts [] [(0,[1])]) (fun d=>B2D d.1.2.1 d.1.2.2.2.2.2.1 d.2.1):=by
 intro d
 kernel_rfl
theorem B54:∀ d:K9.den,(fun d=>B2D d.1.2.1 d.1.2.2.2.2.2.1 d.2.1) d=(A87 d).opt 1 []:=by
 intro d
 kernel_rfl
noncomputable abbrev B1R:St→Option Tree:=K9.say 1 [] [] (fun d=>B6V d.1.2.1 d.1.2.2.2.2.2.1 d.2.1)
theorem B6s:aPL B1R B0v:=SS.wp2 hlz [] A87 B51 B54 _ (fun d=>Runs.ofI2 (step:=A87) B2J B6J rfl (d.1.2.1,d.1.2.2.2.2.2.1,d.2.1))
noncomputable def T3 (x1:Int) (h0:LT3):Int×LT3:=let z1:=U2 x1 (0:Int) h0;((z1.2.1),(z1.2.2))
noncomputable abbrev B46 (r:Int×LT3):AV×List AObj×List Nat:=((ti r.1),[(.deep 89 [83] tq9 r.2)],[])
noncomputable abbrev B5a:A8t.den→AV×List AObj×List Nat:=fun d=>B46 (T3 d.1.2.1 d.2.1)
noncomputable def P6 (x1:Int) (h0:LT3):Bool:=((U2 x1 (0:Int) h0).1==0)
noncomputable abbrev B3I:A8t.den→Bool:=fun d=>P6 d.1.2.1 d.2.1
noncomputable abbrev B8y:Nat→St→Option Tree:=fun b=>match b with | 0=>B1R | _=>fun _=>none
theorem B7F:A7i G37 (B8y) Try.f32 A8t B3I B5a:=by
 rintro ⟨⟨_,x1,_⟩,⟨h0,_⟩⟩ hp
 change P6 x1 h0=true at hp
 unfold P6 at hp
 refine Eq.trans (b:=(let z1:=U2 x1 (0:Int) h0;cond (z1.1==0) (some (B46 ((z1.2.1),(z1.2.2)))) none)) (by kernel_rfl) ?_
 exact (A7m hp fun _h=>rfl)
noncomputable abbrev B5i:=win E7 (msum A8t B3I B5a)
theorem B8K:aPM 32 B5i:=(mcM G37 (hl1 (i:=0) (by kernel_rfl) B6s) B7F).win E7
noncomputable def S38:Tab:=Tab.add S37 32 (B5i)
noncomputable def C1H:FuncId→Bool:=C1G
theorem G38:aPG S38 C1H:=G37.addM B8K (A6W _) (cbl Try.f32) (by kernel_rfl)


end Go.Proofs.Ytcofibhklbfgoaa.Eng
