/- What the functions that FnRecsRead reaches compute: further. -/
import Derived.Test.YtccelbeahdcooaaFRecsReadB
namespace Go.Proofs.Ytccelbeahdcooaa.Eng
open Go Go.RowKit
set_option linter.unusedSimpArgs false
set_option linter.unusedVariables false
set_option maxRecDepth 10000
abbrev A4l:List PSh:=[.t B4,.t (.int .i64)]
noncomputable def C5 (a0:List Int) (a1:Int):=let z1:=A4 a0 a1;A4 (([]:List Int)++((a0.take (IntKind.wrap .i64 ((z1.2.1)+(z1.1))).toNat).drop (z1.2.1).toNat)) (0:Int)
noncomputable def B1 (a0:List Int) (a1:Int):=let z1:=A4 a0 a1;A4 (([]:List Int)++((a0.take (IntKind.wrap .i64 ((z1.2.1)+(z1.1))).toNat).drop (z1.2.1).toNat)) ((C5 a0 a1).2.1)
noncomputable def A0k (a0:List Int) (a1:Int):=let z1:=A4 a0 a1;I7 (([]:List Int)++((a0.take (IntKind.wrap .i64 ((z1.2.1)+(z1.1))).toNat).drop (z1.2.1).toNat))
noncomputable def L7 (a0:List Int) (a1:Int):=let z2:=A4 a0 a1;let z1:=([]:List Int)++((a0.take (IntKind.wrap .i64 ((z2.2.1)+(z2.1))).toNat).drop (z2.2.1).toNat);let z3:=(B1 a0 a1).2.1;B1e ((z1.drop (z3.toNat)).take (((z1.length:Nat):Int).toNat - z3.toNat))
noncomputable def A03 (a0:List Int) (a1:Int):Int×Int×Lq1×Int×Bool:=(cond (!((A4 a0 a1).2.2)) ((0:Int),(0:Int),[],a1,false) (cond (decide (((A4 a0 a1).1) > (IntKind.wrap .i64 ((IntKind.wrap .i64 ((a0.length:Int) - ((A4 a0 a1).2.1))) - (4:Int))))) ((0:Int),(0:Int),[],a1,false) (cond (!((C5 a0 a1).2.2)) ((0:Int),(0:Int),[],a1,false) (cond (!((B1 a0 a1).2.2)) ((0:Int),(0:Int),[],a1,false) (cond (!((⟨(((a0.take (IntKind.wrap .i64 ((IntKind.wrap .i64 (((A4 a0 a1).2.1)+((A4 a0 a1).1)))+(4:Int))).toNat).drop (IntKind.wrap .i64 (((A4 a0 a1).2.1)+((A4 a0 a1).1))).toNat).map fun n=>UInt8.ofNat n.toNat).toArray⟩:ByteArray).toList==((A0k a0 a1).extract (0:Int).toNat (4:Int).toNat).toList)) ((0:Int),(0:Int),[],a1,false) (cond (decide (((B1 a0 a1).2.1)<(((([]:List Int)++((a0.take (IntKind.wrap .i64 (((A4 a0 a1).2.1)+((A4 a0 a1).1))).toNat).drop ((A4 a0 a1).2.1).toNat)).length:Nat):Int))) (cond (!((L7 a0 a1).2)) ((0:Int),(0:Int),[],a1,false) (cond (!(E1 ((C5 a0 a1).1) ((B1 a0 a1).1) ((L7 a0 a1).1))) ((0:Int),(0:Int),[],a1,false) (((C5 a0 a1).1),((B1 a0 a1).1),((L7 a0 a1).1),IntKind.wrap .i64 ((IntKind.wrap .i64 (((A4 a0 a1).2.1)+((A4 a0 a1).1)))+(4:Int)),true))) (cond (!(E1 ((C5 a0 a1).1) ((B1 a0 a1).1) [])) ((0:Int),(0:Int),[],a1,false) (((C5 a0 a1).1),((B1 a0 a1).1),[],IntKind.wrap .i64 ((IntKind.wrap .i64 (((A4 a0 a1).2.1)+((A4 a0 a1).1)))+(4:Int)),true))))))))
noncomputable abbrev D3 (r:Int×Int×Lq1×Int×Bool):AV×List AObj:=((.tup [(.agg [(ti r.1),(ti r.2.1),(.t true tq2 r.2.2.1)]),(ti r.2.2.2.1),(.t true .bool r.2.2.2.2)]),[])
noncomputable abbrev B0a:pshsDen A4l→AV×List AObj:=fun d=>D3 (A03 d.1 d.2.1)
noncomputable def A0E (a0:List Int) (a1:Int):Bool:=(E5 a0 a1)&&(cond (!((A4 a0 a1).2.2)) true (cond (decide (((A4 a0 a1).1) > (IntKind.wrap .i64 ((IntKind.wrap .i64 ((a0.length:Int) - ((A4 a0 a1).2.1))) - (4:Int))))) true ((decide (0≤((A4 a0 a1).2.1)∧((A4 a0 a1).2.1)≤(IntKind.wrap .i64 (((A4 a0 a1).2.1)+((A4 a0 a1).1)))∧(IntKind.wrap .i64 (((A4 a0 a1).2.1)+((A4 a0 a1).1)))≤(a0.length:Int)))&&((decide ((([]:List Int).length+((a0.take (IntKind.wrap .i64 (((A4 a0 a1).2.1)+((A4 a0 a1).1))).toNat).drop ((A4 a0 a1).2.1).toNat).length)*1≤MAXB))&&((E5 (([]:List Int)++((a0.take (IntKind.wrap .i64 (((A4 a0 a1).2.1)+((A4 a0 a1).1))).toNat).drop ((A4 a0 a1).2.1).toNat)) (0:Int))&&((E5 (([]:List Int)++((a0.take (IntKind.wrap .i64 (((A4 a0 a1).2.1)+((A4 a0 a1).1))).toNat).drop ((A4 a0 a1).2.1).toNat)) ((C5 a0 a1).2.1))&&(cond (!((C5 a0 a1).2.2)) true (cond (!((B1 a0 a1).2.2)) true ((decide (0≤(IntKind.wrap .i64 (((A4 a0 a1).2.1)+((A4 a0 a1).1)))∧(IntKind.wrap .i64 (((A4 a0 a1).2.1)+((A4 a0 a1).1)))≤(IntKind.wrap .i64 ((IntKind.wrap .i64 (((A4 a0 a1).2.1)+((A4 a0 a1).1)))+(4:Int)))∧(IntKind.wrap .i64 ((IntKind.wrap .i64 (((A4 a0 a1).2.1)+((A4 a0 a1).1)))+(4:Int)))≤(a0.length:Int)))&&((M6 (([]:List Int)++((a0.take (IntKind.wrap .i64 (((A4 a0 a1).2.1)+((A4 a0 a1).1))).toNat).drop ((A4 a0 a1).2.1).toNat)))&&((decide (0≤(0:Int)∧(0:Int)≤(4:Int)∧(4:Int)≤(((A0k a0 a1).size:Nat):Int)))&&(cond (!((⟨(((a0.take (IntKind.wrap .i64 ((IntKind.wrap .i64 (((A4 a0 a1).2.1)+((A4 a0 a1).1)))+(4:Int))).toNat).drop (IntKind.wrap .i64 (((A4 a0 a1).2.1)+((A4 a0 a1).1))).toNat).map fun n=>UInt8.ofNat n.toNat).toArray⟩:ByteArray).toList==((A0k a0 a1).extract (0:Int).toNat (4:Int).toNat).toList)) true (cond (decide (((B1 a0 a1).2.1)<(((([]:List Int)++((a0.take (IntKind.wrap .i64 (((A4 a0 a1).2.1)+((A4 a0 a1).1))).toNat).drop ((A4 a0 a1).2.1).toNat)).length:Nat):Int))) ((decide (0≤((B1 a0 a1).2.1)∧((B1 a0 a1).2.1)≤(((([]:List Int)++((a0.take (IntKind.wrap .i64 (((A4 a0 a1).2.1)+((A4 a0 a1).1))).toNat).drop ((A4 a0 a1).2.1).toNat)).length:Nat):Int)∧(((([]:List Int)++((a0.take (IntKind.wrap .i64 (((A4 a0 a1).2.1)+((A4 a0 a1).1))).toNat).drop ((A4 a0 a1).2.1).toNat)).length:Nat):Int)≤(((([]:List Int)++((a0.take (IntKind.wrap .i64 (((A4 a0 a1).2.1)+((A4 a0 a1).1))).toNat).drop ((A4 a0 a1).2.1).toNat)).length:Nat):Int)))&&((A1i (((([]:List Int)++((a0.take (IntKind.wrap .i64 (((A4 a0 a1).2.1)+((A4 a0 a1).1))).toNat).drop ((A4 a0 a1).2.1).toNat)).drop (((B1 a0 a1).2.1).toNat)).take ((((([]:List Int)++((a0.take (IntKind.wrap .i64 (((A4 a0 a1).2.1)+((A4 a0 a1).1))).toNat).drop ((A4 a0 a1).2.1).toNat)).length:Nat):Int).toNat - ((B1 a0 a1).2.1).toNat)))&&(cond (!((L7 a0 a1).2)) true (O5 ((C5 a0 a1).1) ((B1 a0 a1).1) ((L7 a0 a1).1))))) (O5 ((C5 a0 a1).1) ((B1 a0 a1).1) []))))))))))))))
noncomputable abbrev A6t:pshsDen A4l→Bool:=fun d=>A0E d.1 d.2.1
theorem B5t:RunP true G58 aLn Try.f34 A4l A6t B0a:=by
 rintro ⟨a0,⟨a1,_⟩⟩ hp
 change A0E a0 a1=true at hp
 unfold A0E at hp
 refine Eq.trans (b:=(cond (E5 a0 a1) (cond (!((A4 a0 a1).2.2)) (some (D3 ((0:Int),(0:Int),[],a1,false))) (cond (decide (((A4 a0 a1).1) > (IntKind.wrap .i64 ((IntKind.wrap .i64 ((a0.length:Int) - ((A4 a0 a1).2.1))) - (4:Int))))) (some (D3 ((0:Int),(0:Int),[],a1,false))) (cond (decide (0≤((A4 a0 a1).2.1)∧((A4 a0 a1).2.1)≤(IntKind.wrap .i64 (((A4 a0 a1).2.1)+((A4 a0 a1).1)))∧(IntKind.wrap .i64 (((A4 a0 a1).2.1)+((A4 a0 a1).1)))≤(a0.length:Int))) (cond (decide ((([]:List Int).length+((a0.take (IntKind.wrap .i64 (((A4 a0 a1).2.1)+((A4 a0 a1).1))).toNat).drop ((A4 a0 a1).2.1).toNat).length)*1≤MAXB)) (cond (E5 (([]:List Int)++((a0.take (IntKind.wrap .i64 (((A4 a0 a1).2.1)+((A4 a0 a1).1))).toNat).drop ((A4 a0 a1).2.1).toNat)) (0:Int)) (cond (E5 (([]:List Int)++((a0.take (IntKind.wrap .i64 (((A4 a0 a1).2.1)+((A4 a0 a1).1))).toNat).drop ((A4 a0 a1).2.1).toNat)) ((C5 a0 a1).2.1)) (cond (!((C5 a0 a1).2.2)) (some (D3 ((0:Int),(0:Int),[],a1,false))) (cond (!((B1 a0 a1).2.2)) (some (D3 ((0:Int),(0:Int),[],a1,false))) (cond (decide (0≤(IntKind.wrap .i64 (((A4 a0 a1).2.1)+((A4 a0 a1).1)))∧(IntKind.wrap .i64 (((A4 a0 a1).2.1)+((A4 a0 a1).1)))≤(IntKind.wrap .i64 ((IntKind.wrap .i64 (((A4 a0 a1).2.1)+((A4 a0 a1).1)))+(4:Int)))∧(IntKind.wrap .i64 ((IntKind.wrap .i64 (((A4 a0 a1).2.1)+((A4 a0 a1).1)))+(4:Int)))≤(a0.length:Int))) (cond (M6 (([]:List Int)++((a0.take (IntKind.wrap .i64 (((A4 a0 a1).2.1)+((A4 a0 a1).1))).toNat).drop ((A4 a0 a1).2.1).toNat))) (cond (decide (0≤(0:Int)∧(0:Int)≤(4:Int)∧(4:Int)≤(((A0k a0 a1).size:Nat):Int))) (cond (!((⟨(((a0.take (IntKind.wrap .i64 ((IntKind.wrap .i64 (((A4 a0 a1).2.1)+((A4 a0 a1).1)))+(4:Int))).toNat).drop (IntKind.wrap .i64 (((A4 a0 a1).2.1)+((A4 a0 a1).1))).toNat).map fun n=>UInt8.ofNat n.toNat).toArray⟩:ByteArray).toList==((A0k a0 a1).extract (0:Int).toNat (4:Int).toNat).toList)) (some (D3 ((0:Int),(0:Int),[],a1,false))) (cond (decide (((B1 a0 a1).2.1)<(((([]:List Int)++((a0.take (IntKind.wrap .i64 (((A4 a0 a1).2.1)+((A4 a0 a1).1))).toNat).drop ((A4 a0 a1).2.1).toNat)).length:Nat):Int))) (cond (decide (0≤((B1 a0 a1).2.1)∧((B1 a0 a1).2.1)≤(((([]:List Int)++((a0.take (IntKind.wrap .i64 (((A4 a0 a1).2.1)+((A4 a0 a1).1))).toNat).drop ((A4 a0 a1).2.1).toNat)).length:Nat):Int)∧(((([]:List Int)++((a0.take (IntKind.wrap .i64 (((A4 a0 a1).2.1)+((A4 a0 a1).1))).toNat).drop ((A4 a0 a1).2.1).toNat)).length:Nat):Int)≤(((([]:List Int)++((a0.take (IntKind.wrap .i64 (((A4 a0 a1).2.1)+((A4 a0 a1).1))).toNat).drop ((A4 a0 a1).2.1).toNat)).length:Nat):Int))) (cond (A1i (((([]:List Int)++((a0.take (IntKind.wrap .i64 (((A4 a0 a1).2.1)+((A4 a0 a1).1))).toNat).drop ((A4 a0 a1).2.1).toNat)).drop (((B1 a0 a1).2.1).toNat)).take ((((([]:List Int)++((a0.take (IntKind.wrap .i64 (((A4 a0 a1).2.1)+((A4 a0 a1).1))).toNat).drop ((A4 a0 a1).2.1).toNat)).length:Nat):Int).toNat - ((B1 a0 a1).2.1).toNat))) (cond (!((L7 a0 a1).2)) (some (D3 ((0:Int),(0:Int),[],a1,false))) (cond (O5 ((C5 a0 a1).1) ((B1 a0 a1).1) ((L7 a0 a1).1)) (cond (!(E1 ((C5 a0 a1).1) ((B1 a0 a1).1) ((L7 a0 a1).1))) (some (D3 ((0:Int),(0:Int),[],a1,false))) (some (D3 (((C5 a0 a1).1),((B1 a0 a1).1),((L7 a0 a1).1),IntKind.wrap .i64 ((IntKind.wrap .i64 (((A4 a0 a1).2.1)+((A4 a0 a1).1)))+(4:Int)),true)))) none)) none) none) (cond (O5 ((C5 a0 a1).1) ((B1 a0 a1).1) []) (cond (!(E1 ((C5 a0 a1).1) ((B1 a0 a1).1) [])) (some (D3 ((0:Int),(0:Int),[],a1,false))) (some (D3 (((C5 a0 a1).1),((B1 a0 a1).1),[],IntKind.wrap .i64 ((IntKind.wrap .i64 (((A4 a0 a1).2.1)+((A4 a0 a1).1)))+(4:Int)),true)))) none))) none) none) none))) none) none) none) none))) none)) (by kernel_rfl) ?_
 exact (cndA hp fun hp=>(M2 D3 hp (fun hp=>rfl) (fun hp=>(M2 D3 hp (fun hp=>rfl) (fun hp=>(cndA hp fun hp=>(cndA hp fun hp=>(cndA hp fun hp=>(cndA hp fun hp=>(M2 D3 hp (fun hp=>rfl) (fun hp=>(M2 D3 hp (fun hp=>rfl) (fun hp=>(cndA hp fun hp=>(cndA hp fun hp=>(cndA hp fun hp=>(M2 D3 hp (fun hp=>rfl) (fun hp=>(M2 D3 hp (fun hp=>(cndA hp fun hp=>(cndA hp fun hp=>(M2 D3 hp (fun hp=>rfl) (fun hp=>(cndT hp fun _h=>(L4 D3 (fun _h=>rfl) (fun _h=>rfl)))))))) (fun hp=>(cndT hp fun _h=>(L4 D3 (fun _h=>rfl) (fun _h=>rfl)))))))))))))))))))))))
theorem B7h:aPP 34 (sumOf A4l A6t B0a):=pcD true G58 hlz B5t
noncomputable def S59:Tab:=Tab.add S58 34 (lift (sumOf A4l A6t B0a))
noncomputable def C0B:FuncId→Bool:=qadd C0A 34
theorem G59:aPG S59 C0B:=G58.addQ B7h (cbl Try.f34) (fun _=>rfl)

abbrev A4e:List PSh:=[.agg [(.int .i64),(.int .i64),tq2]]
noncomputable def A80 (a0 a1:Int) (a2:Lq1):List Int:=(cond (!(A2d a0 a1 a2)) [] (A0e a0 a1 a2))
noncomputable abbrev A6Z (r:List Int):AV×List AObj:=((.t true B4 r),[])
noncomputable abbrev A93:pshsDen A4e→AV×List AObj:=fun d=>A6Z (A80 d.1.1 d.1.2.1 d.1.2.2.1)
noncomputable def A0D (a0 a1:Int) (a2:Lq1):Bool:=(J5 a0 a1 a2)&&(cond (!(A2d a0 a1 a2)) true (M5 a0 a1 a2))
noncomputable abbrev A6l:pshsDen A4e→Bool:=fun d=>A0D d.1.1 d.1.2.1 d.1.2.2.1
theorem B5k:RunP true G59 aLn Try.f18 A4e A6l A93:=by
 rintro ⟨⟨a0,⟨a1,⟨a2,_⟩⟩⟩,_⟩ hp
 change A0D a0 a1 a2=true at hp
 unfold A0D at hp
 refine Eq.trans (b:=(cond (J5 a0 a1 a2) (cond (!(A2d a0 a1 a2)) (some (A6Z [])) (cond (M5 a0 a1 a2) (some (A6Z (A0e a0 a1 a2))) none)) none)) (by kernel_rfl) ?_
 exact (cndA hp fun hp=>(M2 A6Z hp (fun hp=>rfl) (fun hp=>(cndT hp fun _h=>rfl))))
theorem B68:aPP 18 (sumOf A4e A6l A93):=pcD true G59 hlz B5k
noncomputable def S60:Tab:=Tab.add S59 18 (lift (sumOf A4e A6l A93))
noncomputable def C0C:FuncId→Bool:=qadd C0B 18
theorem G60:aPG S60 C0C:=G59.addQ B68 (cbl Try.f18) (fun _=>rfl)

abbrev C06:List Sh:=.junk::.junk::.junk::.junk::B9C
abbrev C1G:List Sh:=.junk::C06
abbrev C1H:List Sh:=.junk::B9D
abbrev u22:=((),(),(),u19)
abbrev u21:=((),(),u19)
abbrev A0J:List PSh:=[.t B4,.t B4]
abbrev L1:SS:=⟨(.t false B4::.t false B4::.junk::.junk::.junk::tI::C06),[]⟩
abbrev A39:SS:=⟨(.junk::.junk::.junk::.junk::.t true .bool::C1G),[]⟩
abbrev A4a:SS:=⟨(.junk::C1H),[]⟩
noncomputable def A5M (x0 x1:List Int) (x5:Int):RT L1.den:=(.br (decide (x5<(x0.length:Int))) (.br (decide (0≤x5∧x5<(x0.length:Int))) (.br (decide (0≤x5∧x5<(x1.length:Int))) (.br ((x0.getD x5.toNat (0:Int)) != (x1.getD x5.toNat (0:Int))) (.done .ret A39 (((),(),(),(),false,u22),())) (.next ((x0,x1,(),(),(),IntKind.wrap .i64 (x5+(1:Int)),u21),()))) .fail) .fail) (.done (.exit 0) A4a ((u27),())))
abbrev W2:=(List Int)×(List Int)×(Int)
abbrev P6:=Nat×(Bool)
def A2b:P6:=(99,(false:Bool))
noncomputable def A0f (x0 x1:List Int) (x5:Int):W2 ⊕ P6:=(cond (decide (x5<(x0.length:Int))) (cond (decide (0≤x5∧x5<(x0.length:Int))) (cond (decide (0≤x5∧x5<(x1.length:Int))) (cond ((x0.getD x5.toNat (0:Int)) != (x1.getD x5.toNat (0:Int))) (.inr (0,false)) (.inl (x0,x1,IntKind.wrap .i64 (x5+(1:Int))))) (.inr A2b)) (.inr A2b)) (.inr (1,(false:Bool))))
noncomputable def U3 (x0 x1:List Int) (x5:Int):P6:=itX (fun v:W2=>A0f v.1 v.2.1 v.2.2) A2b (x0,x1,x5)
noncomputable def A2a (a:P6):CT:=(.br (a.1==0) (.done .ret A39 (((),(),(),(),a.2,u22),())) (.br (a.1==1) (.done (.exit 0) A4a ((u27),())) .fail))
noncomputable def B1l (x0 x1:List Int) (x5:Int):CT:=A2a (U3 x0 x1 x5)
noncomputable abbrev A2i:L1.den→RT L1.den:=(fun d=>A5M d.1.1 d.1.2.1 d.1.2.2.2.2.2.1)
noncomputable def A3w:Code:=((loopsIn 0 (bodyOf Try.f38)).getD 0 (0,.skip)).2
noncomputable abbrev A5J (v:W2):L1.den:=((v.1,v.2.1,(),(),(),v.2.2,u21),())
theorem B02:(∀ v:W2,(A5M v.1 v.2.1 v.2.2).val=relS A5J A2a (A0f v.1 v.2.1 v.2.2))∧∀ a:P6,CEnd L1.den (A2a a):=⟨fun v=>(relB (relB (relB (relB rfl rfl) rfl) rfl) rfl),fun a=>(cendB aCD (cendB aCD cendF))⟩
theorem B0r:RdA G60 aLn 0 A3w L1 0 [] (kepts [4] [(0,[])]) (fun d=>(A2i d).opt 0 []):=by
 intro d
 kernel_rfl
noncomputable abbrev A4D:St→Option Tree:=L1.say 0 [] [] (fun d=>B1l d.1.1 d.1.2.1 d.1.2.2.2.2.2.1)
theorem B0Z:aPL A4D A3w:=SS.wp2 hlz [] A2i B0r (fun d=>rfl) _ (fun d=>Runs.ofI2 (step:=A2i) A5J B02 rfl (d.1.1,d.1.2.1,d.1.2.2.2.2.2.1))
noncomputable def A5b (a0 a1:List Int):Bool:=let z1:=U3 a0 a1 (0:Int);(cond ((a0.length:Int) != (a1.length:Int)) false (cond (z1.1==0) (z1.2) true))
noncomputable abbrev Y1 (r:Bool):AV×List AObj:=((.t true .bool r),[])
noncomputable abbrev A44:pshsDen A0J→AV×List AObj:=fun d=>Y1 (A5b d.1 d.2.1)
noncomputable def T5 (a0 a1:List Int):Bool:=let z1:=U3 a0 a1 (0:Int);cond ((a0.length:Int) != (a1.length:Int)) true (cond (z1.1==0) true (z1.1==1))
noncomputable abbrev A3i:pshsDen A0J→Bool:=fun d=>T5 d.1 d.2.1
noncomputable abbrev B3m:Nat→St→Option Tree:=fun b=>match b with | 0=>A4D | _=>fun _=>none
theorem B16:RunP true G60 (B3m) Try.f38 A0J A3i A44:=by
 rintro ⟨a0,⟨a1,_⟩⟩ hp
 change T5 a0 a1=true at hp
 unfold T5 at hp
 refine Eq.trans (b:=(let z1:=U3 a0 a1 (0:Int);cond ((a0.length:Int) != (a1.length:Int)) (some (Y1 false)) (cond (z1.1==0) (some (Y1 (z1.2))) (cond (z1.1==1) (some (Y1 true)) none)))) (by kernel_rfl) ?_
 exact (M2 Y1 hp (fun hp=>rfl) (fun hp=>(M2 Y1 hp (fun hp=>rfl) (fun hp=>(cndT hp fun _h=>rfl)))))
theorem B3w:aPP 38 (sumOf A0J A3i A44):=pcD true G60 (hl1 (i:=0) (by kernel_rfl) B0Z) B16
noncomputable def S61:Tab:=Tab.add S60 38 (lift (sumOf A0J A3i A44))
noncomputable def C1w:FuncId→Bool:=qadd C0C 38
theorem G61:aPG S61 C1w:=G60.addQ B3w (cbl Try.f38) (fun _=>rfl)

abbrev A1s:List PSh:=[.t B4]
noncomputable def A0Z (a0:List Int):=let z1:=V4 ((F4 a0).2) ((F4 a0).1);A2d (z1.1) (z1.2.1) (z1.2.2.2.2)
noncomputable def A00 (a0:List Int):=let z1:=V4 ((F4 a0).2) ((F4 a0).1);A80 (z1.1) (z1.2.1) (z1.2.2.2.2)
noncomputable def A3a (a0:List Int):=let z1:=F4 a0;A5b (A00 a0) (((z1.2).drop ((z1.1).toNat)).take (((V4 (z1.2) (z1.1)).2.2.1).toNat - (z1.1).toNat))
noncomputable def A0B (a0:List Int):Bool:=let z1:=F4 a0;let z4:=V4 (z1.2) (z1.1);let z5:=A03 (z1.2) (z1.1);let z2:=(z4.2.2.2.1)==(z5.2.2.2.2);let z3:=(z4.2.2.1)==(z5.2.2.2.1);(cond (lbig a0) true (cond (!z2) (cond z2 z3 false) (cond ((z4.2.2.1) != (z5.2.2.2.1)) (cond z2 z3 false) (cond (!(z4.2.2.2.1)) (cond z2 z3 false) (cond (A0Z a0) (A3a a0) false)))))
noncomputable abbrev B7 (r:Bool):AV×List AObj:=((.t true .bool r),[])
noncomputable abbrev A7C:pshsDen A1s→AV×List AObj:=fun d=>B7 (A0B d.1)
noncomputable def V2 (a0:List Int):Bool:=let z2:=F4 a0;let z1:=V4 (z2.2) (z2.1);let z3:=A03 (z2.2) (z2.1);cond (lbig a0) true ((P2 a0)&&((A0C (z2.2) (z2.1))&&((A0E (z2.2) (z2.1))&&(cond (!((z1.2.2.2.1)==(z3.2.2.2.2))) true (cond ((z1.2.2.1) != (z3.2.2.2.1)) true (cond (!(z1.2.2.2.1)) true ((J5 (z1.1) (z1.2.1) (z1.2.2.2.2))&&(cond (A0Z a0) ((A0D (z1.1) (z1.2.1) (z1.2.2.2.2))&&((decide (0≤(z2.1)∧(z2.1)≤(z1.2.2.1)∧(z1.2.2.1)≤(((z2.2).length:Nat):Int)))&&(T5 (A00 a0) (((z2.2).drop ((z2.1).toNat)).take ((z1.2.2.1).toNat - (z2.1).toNat))))) true))))))))
noncomputable abbrev U4:pshsDen A1s→Bool:=fun d=>V2 d.1
theorem B08:RunP true G61 aLn Try.f8 A1s U4 A7C:=by
 rintro ⟨a0,_⟩ hp
 change V2 a0=true at hp
 unfold V2 at hp
 refine Eq.trans (b:=(let z2:=F4 a0;let z1:=V4 (z2.2) (z2.1);let z3:=A03 (z2.2) (z2.1);let z4:=B7 ((z1.2.2.1)==(z3.2.2.2.1));cond (lbig a0) (some (B7 true)) (cond (P2 a0) (cond (A0C (z2.2) (z2.1)) (cond (A0E (z2.2) (z2.1)) (cond (!((z1.2.2.2.1)==(z3.2.2.2.2))) (cond ((z1.2.2.2.1)==(z3.2.2.2.2)) (some z4) (some (B7 false))) (cond ((z1.2.2.1) != (z3.2.2.2.1)) (cond ((z1.2.2.2.1)==(z3.2.2.2.2)) (some z4) (some (B7 false))) (cond (!(z1.2.2.2.1)) (cond ((z1.2.2.2.1)==(z3.2.2.2.2)) (some z4) (some (B7 false))) (cond (J5 (z1.1) (z1.2.1) (z1.2.2.2.2)) (cond (A0Z a0) (cond (A0D (z1.1) (z1.2.1) (z1.2.2.2.2)) (cond (decide (0≤(z2.1)∧(z2.1)≤(z1.2.2.1)∧(z1.2.2.1)≤(((z2.2).length:Nat):Int))) (cond (T5 (A00 a0) (((z2.2).drop ((z2.1).toNat)).take ((z1.2.2.1).toNat - (z2.1).toNat))) (some (B7 (A3a a0))) none) none) none) (some (B7 false))) none)))) none) none) none))) (by kernel_rfl) ?_
 exact (M2 B7 hp (fun hp=>rfl) (fun hp=>(cndA hp fun hp=>(cndA hp fun hp=>(cndA hp fun hp=>(M2 B7 hp (fun hp=>(L4 B7 (fun _h=>rfl) (fun _h=>rfl))) (fun hp=>(M2 B7 hp (fun hp=>(L4 B7 (fun _h=>rfl) (fun _h=>rfl))) (fun hp=>(M2 B7 hp (fun hp=>(L4 B7 (fun _h=>rfl) (fun _h=>rfl))) (fun hp=>(cndA hp fun hp=>(M2 B7 hp (fun hp=>(cndA hp fun hp=>(cndA hp fun hp=>(cndT hp fun _h=>rfl)))) (fun hp=>rfl))))))))))))))
theorem B2g:aPP 8 (sumOf A1s U4 A7C):=pcD true G61 hlz B08
noncomputable def okB (b:List Int):Prop:=∀ c∈b,0≤c∧c≤255
theorem B8F {l:List Int} (h:bigT B4 l=true):okB l:=by
 have hb:(decide (l.length≤maxLen)&&l.all (fun x=>(Lit.int .u8 x).wf))=true:=h
 rw [Bool.and_eq_true,List.all_eq_true] at hb
 intro c hc
 have:=hb.2 c hc
 simp only [Lit.wf,Bool.and_eq_true,decide_eq_true_eq] at this
 exact ⟨this.1,this.2⟩
noncomputable def cOk (b:List Int) (i:Int):Prop:=okB b∧0≤i∧i≤b.length∧b.length≤1048576
theorem B5D {b:List Int} (hb:okB b) (hl:b.length≤1048576):A3j b=true∧(A1o b).1=b∧cOk b (A1o b).2.1:=by
 have key:∀ x:Int,(A0z b x 0).1=0∧(A0z b x 0).2.1=b:=by
  intro x
  refine itX_inv (fun v:A2U=>v.1=b∧0≤v.2.2∧v.2.2≤b.length) (fun a:A1a=>a.1=0∧a.2.1=b) (fun v=>b.length - v.2.2.toNat) ?_ ⟨rfl,Int.le_refl _,by simp⟩ (by simp;omega)
  rintro ⟨y,z,i⟩ ⟨hy,h1,h2⟩
  simp only at hy h1 h2
  subst hy
  by_cases hi:i<(y.length:Int)
  ·have e:decide (i<(y.length:Int))=true:=decide_eq_true hi
   have e2:decide (0≤i∧i<(y.length:Int))=true:=decide_eq_true ⟨h1,hi⟩
   have w:IntKind.wrap .i64 (i+1)=i+1:=wrap64 (by omega) (by omega)
   by_cases h4:i<4000
   ·simp only [A10,e,e2,decide_eq_true h4,cond_true,w]
    exact .inl ⟨_,rfl,⟨rfl,by simp only;omega,by simp only;omega⟩,by simp only;omega⟩
   ·simp only [A10,e,decide_eq_false h4,cond_true,cond_false]
    exact .inr ⟨_,rfl,rfl,rfl⟩
  ·simp only [A10,decide_eq_false hi,cond_false]
   exact .inr ⟨_,rfl,rfl,rfl⟩
 simp only [A3j,A1o,key]
 exact ⟨rfl,trivial,hb,Int.le_refl _,by omega,hl⟩
theorem A4w (n:Nat) (h:n<18446744073709551616):(BitVec.ofInt 64 (n:Int)).toNat=n:=by
 simp [BitVec.toNat_ofInt];omega
theorem B6e (x:Int) (m:Nat) (hm:m<9223372036854775808):0≤iand .i64 x (m:Int)∧iand .i64 x (m:Int)≤m:=by
 have e:iand .i64 x (m:Int)=IntKind.wrap .i64 (((BitVec.ofInt 64 x).toNat &&& m:Nat):Int):=by
  show IntKind.wrap .i64 (((BitVec.ofInt 64 x &&& BitVec.ofInt 64 (m:Int)).toNat:Nat):Int)=_
  rw [BitVec.toNat_and,A4w m (by omega)]
 have h:(BitVec.ofInt 64 x).toNat &&& m≤m:=Nat.and_le_right
 rw [e,wrap64 (by omega) (by omega)]
 omega
theorem A5m {b:List Int} {i:Int} (hc:cOk b i) (h:Int):M7 b i h=true∧0≤(F1 b i h).1∧(F1 b i h).1≤255∧(F1 b i h).2.1=b∧cOk b (F1 b i h).2.2.1:=by
 obtain ⟨h0,h1,h2,h3⟩:=hc
 have r:=fun x=>B6e x 255 (by decide)
 by_cases hi:i<(b.length:Int)
 ·have e:decide (i<(b.length:Int))=true:=decide_eq_true hi
  have w:IntKind.wrap .i64 (i+1)=i+1:=wrap64 (by omega) (by omega)
  simp only [M7,F1,e,cond_true,w]
  exact ⟨decide_eq_true ⟨h1,hi⟩,(r _).1,(r _).2,trivial,h0,by omega,by omega,h3⟩
 ·have e:decide (i<(b.length:Int))=false:=decide_eq_false hi
  simp only [M7,F1,e,cond_false]
  exact ⟨trivial,(r _).1,(r _).2,trivial,h0,h1,h2,h3⟩
theorem K4 {b:List Int} {i:Int} (hc:cOk b i) (n:Int) (h:Int):C2 n b i h=true∧0≤(C8 n b i h).1∧(0<n→(C8 n b i h).1<n)∧(C8 n b i h).2.1=b∧cOk b (C8 n b i h).2.2.1:=by
 obtain ⟨a1,a2,a3,a4,a5⟩:=A5m hc h
 by_cases h0:n≤0
 ·have e:decide (n≤0)=true:=decide_eq_true h0
  simp only [C2,C8,e,cond_true]
  exact ⟨trivial,Int.le_refl _,fun h=>by omega,trivial,hc⟩
 ·have e:decide (n≤0)=false:=decide_eq_false h0
  have en:decide (n ≠ 0)=true:=decide_eq_true (by omega)
  by_cases h1:n≤256
  ·have e2:decide (n≤256)=true:=decide_eq_true h1
   simp only [C2,C8,e,e2,cond_true,cond_false,a1,en,Bool.and_self]
   exact ⟨trivial,Int.tmod_nonneg _ a2,fun h=>Int.tmod_lt_of_pos _ h,a4,a5⟩
  ·have e2:decide (n≤256)=false:=decide_eq_false h1
   obtain ⟨b1,b2,b3,b4,b5⟩:=A5m a5 (F1 b i h).2.2.2
   obtain ⟨c1,c2,c3,c4,c5⟩:=A5m b5 (F1 b (F1 b i h).2.2.1 (F1 b i h).2.2.2).2.2.2
   simp only [C2,C8,e,e2,cond_false,a1,a4,en,A1U,A6g,b1,b4,c1,Bool.and_self]
   rw [wrap64 (n:=(F1 b i h).1*65536) (by omega) (by omega),wrap64 (n:=(F1 b (F1 b i h).2.2.1 (F1 b i h).2.2.2).1*256) (by omega) (by omega),wrap64 (n:=(F1 b i h).1*65536+(F1 b (F1 b i h).2.2.1 (F1 b i h).2.2.2).1*256) (by omega) (by omega),wrap64 (by omega) (by omega)]
   exact ⟨trivial,Int.tmod_nonneg _ (by omega),fun h=>Int.tmod_lt_of_pos _ h,c4,c5⟩
theorem A8Z {α:Type} {l:List α} {i:Nat} (h:i<l.length) (d:α):l.getD i d∈l:=by
 simp [List.getD_eq_getElem?_getD,h]
theorem A0F {b:List Int} {i:Int} (hc:cOk b i) (h:Int) {l:List Int} (hl:0<l.length):F3 b i h l=true∧(H7 b i h l).1∈l∧(H7 b i h l).2.1=b∧cOk b (H7 b i h l).2.2.1:=by
 obtain ⟨a1,a2,a3,a4,a5⟩:=K4 hc (l.length:Int) h
 have:=a3 (by omega)
 simp only [F3,H7,a1,Bool.true_and]
 exact ⟨decide_eq_true ⟨a2,this⟩,A8Z (by omega) _,a4,a5⟩
noncomputable def ltO (a b:Int×ByteArray×ByteArray):Prop:=Op.bytesLess a.2.1.toList b.2.1.toList=true
noncomputable def B0A:List ByteArray:=[(⟨#[97]⟩:ByteArray),(⟨#[98]⟩:ByteArray),(⟨#[99]⟩:ByteArray),(⟨#[107,49]⟩:ByteArray),(⟨#[107,50]⟩:ByteArray),(⟨#[109]⟩:ByteArray),(⟨#[122]⟩:ByteArray)]
noncomputable def B6a (k:Int) (s v:ByteArray):Prop:=s∈B0A∧((k=1∨k=3)∧v.size≤1∨k=2∧v=⟨#[]⟩)
noncomputable def A9Y (l:Lq1):Prop:=l.Pairwise ltO∧∀ o∈l,B6a o.1 o.2.1 o.2.2∧o.2.1.size≤20∧o.2.2.size≤20
theorem B0Q {b:List Int} {i:Int} (hc:cOk b i) (h:Int) {l:List ByteArray} (hl:0<l.length):A02 b i h l=true∧(A6J b i h l).1∈l∧(A6J b i h l).2.1=b∧cOk b (A6J b i h l).2.2.1:=by
 obtain ⟨a1,a2,a3,a4,a5⟩:=K4 hc (l.length:Int) h
 have:=a3 (by omega)
 simp only [A02,A6J,a1,Bool.true_and]
 exact ⟨decide_eq_true ⟨a2,this⟩,A8Z (by omega) _,a4,a5⟩
theorem B6m {s:ByteArray} (h:s∈B0A):s.size≤2:=by
 simp only [B0A,List.mem_cons,List.not_mem_nil,or_false] at h
 rcases h with rfl | rfl | rfl | rfl | rfl | rfl | rfl<;>decide
theorem B5E {b:List Int} {i:Int} (hc:cOk b i) (h:Int):A3k b i h=true∧(A6K b i h).1.size≤2∧(A6K b i h).1∈B0A∧(A6K b i h).2.1=b∧cOk b (A6K b i h).2.2.1:=by
 obtain ⟨a1,a2,a3,a4⟩:=B0Q hc h (l:=B0A) (by decide)
 simp only [B0A] at a1 a2 a3 a4
 simp only [A3k,A6K,B0g,a1]
 exact ⟨trivial,B6m a2,a2,a3,a4⟩
theorem B5G {b:List Int} {i:Int} (hc:cOk b i) (h:Int):A3m b i h=true∧(A0p b i h).2.1.size≤20∧(A0p b i h).2.2.1.size≤20∧B6a (A0p b i h).1 (A0p b i h).2.1 (A0p b i h).2.2.1∧(A0p b i h).2.2.2.1=b∧cOk b (A0p b i h).2.2.2.2.1:=by
 obtain ⟨a1,a2,a3,a4⟩:=A0F hc h (l:=[(1:Int),(1:Int),(1:Int),(2:Int),(3:Int)]) (by decide)
 simp only [A3m,A0p,A4u,B0h,a1,a3,Bool.true_and]
 generalize H7 b i h [(1:Int),(1:Int),(1:Int),(2:Int),(3:Int)]=r at *
 obtain ⟨b1,b2,b3,b4,b5⟩:=B5E a4 r.2.2.2.1
 simp only [b1,b4,Bool.true_and]
 generalize A6K b r.2.2.1 r.2.2.2.1=t at *
 have hk:r.1=1∨r.1=2∨r.1=3:=by simp only [List.mem_cons,List.not_mem_nil,or_false] at a2;omega
 cases e:(r.1 != 2) with
 | true =>
  obtain ⟨c1,c2,c3,c4⟩:=B0Q b5 t.2.2.2 (l:=[(⟨#[49]⟩:ByteArray),(⟨#[50]⟩:ByteArray),(⟨#[120]⟩:ByteArray),(⟨#[]⟩:ByteArray),(⟨#[49]⟩:ByteArray)]) (by decide)
  simp only [cond_true,c1]
  generalize A6J b t.2.2.1 t.2.2.2 [(⟨#[49]⟩:ByteArray),(⟨#[50]⟩:ByteArray),(⟨#[120]⟩:ByteArray),(⟨#[]⟩:ByteArray),(⟨#[49]⟩:ByteArray)]=u at *
  have hs:u.1.size≤1:=by
   have h0:∀ x∈[(⟨#[49]⟩:ByteArray),(⟨#[50]⟩:ByteArray),(⟨#[120]⟩:ByteArray),(⟨#[]⟩:ByteArray),(⟨#[49]⟩:ByteArray)],x.size≤1:=by
    intro x hx
    simp only [List.mem_cons,List.not_mem_nil,or_false] at hx
    rcases hx with rfl | rfl | rfl | rfl | rfl<;>decide
   exact h0 _ c2
  have hne:r.1 ≠ 2:=by simpa using e
  exact ⟨trivial,by omega,by omega,⟨b3,.inl ⟨by omega,hs⟩⟩,c3,c4⟩
 | false =>
  have he:r.1=2:=by simpa using e
  simp only [cond_false]
  exact ⟨trivial,by omega,by decide,⟨b3,.inr ⟨he,rfl⟩⟩,trivial,b5⟩
noncomputable def B9H (l:Lq1) (o:Int×ByteArray×ByteArray) (i:Nat) (p:Bool) (h:Lq1):Prop :=
 h.Pairwise ltO∧(∀ x∈h,x=o∨x∈l)∧h.length≤i+1 ∧
 (p=false→h=l.take i∧∀ x∈h,ltO x o) ∧
 (p=true→h ≠ []∧∀ x∈h,∀ y∈l.drop i,ltO x y)
theorem B86 {α:Type} {R:α→α→Prop} {l:List α} (h:l.Pairwise R) (i:Nat) (hi:i<l.length) (d:α):∀ x∈l.take i,R x (l.getD i d):=by
 intro x hx
 obtain ⟨j,hj,rfl⟩:=List.getElem_of_mem hx
 rw [List.length_take] at hj
 have:=List.pairwise_iff_getElem.1 h j i (by omega) hi (by omega)
 simpa [List.getD_eq_getElem?_getD,hi] using this
theorem B85 {α:Type} {R:α→α→Prop} {l:List α} (h:l.Pairwise R) (i:Nat) (hi:i<l.length) (d:α):∀ y∈l.drop (i+1),R (l.getD i d) y:=by
 intro y hy
 obtain ⟨j,hj,rfl⟩:=List.getElem_of_mem hy
 rw [List.length_drop] at hj
 have:=List.pairwise_iff_getElem.1 h i (i+1+j) hi (by omega) (by omega)
 simpa [List.getD_eq_getElem?_getD,hi] using this
theorem B19 {α:Type} {l:List α} {i:Nat} (hi:i<l.length) (d:α):l.take (i+1)=l.take i++[l.getD i d]:=by
 rw [List.take_add_one,List.getElem?_eq_getElem hi];simp [List.getD_eq_getElem?_getD,hi]
theorem A9u {α:Type} {R:α→α→Prop} {h:List α} {x:α} (h1:h.Pairwise R) (h2:∀ y∈h,R y x):(h++[x]).Pairwise R:=by
 rw [List.pairwise_append]
 exact ⟨h1,by simp,fun a ha b hb=>by simp at hb;subst hb;exact h2 a ha⟩
theorem B0W:∀ a b c:List UInt8,Op.bytesLess a b=true→Op.bytesLess b c=true→Op.bytesLess a c=true:=by
 intro a
 induction a with
 | nil=>intro b c h1 h2;cases c with
  | nil=>cases b<;>simp [Op.bytesLess] at h2
  | cons z c=>rfl
 | cons x a ih =>
  intro b c h1 h2
  cases b with
  | nil=>simp [Op.bytesLess] at h1
  | cons y b=>cases c with
   | nil=>simp [Op.bytesLess] at h2
   | cons z c =>
    simp only [Op.bytesLess,Bool.or_eq_true,Bool.and_eq_true,decide_eq_true_eq,beq_iff_eq] at h1 h2 ⊢
    rcases h1 with h1 | ⟨rfl,h1⟩
    ·rcases h2 with h2 | ⟨rfl,h2⟩
     ·exact .inl (UInt8.lt_trans h1 h2)
     ·exact .inl h1
    ·rcases h2 with h2 | ⟨rfl,h2⟩
     ·exact .inl h2
     ·exact .inr ⟨rfl,ih b c h1 h2⟩
theorem A4v {a b c:Int×ByteArray×ByteArray} (h1:ltO a b) (h2:ltO b c):ltO a c:=B0W _ _ _ h1 h2
theorem B7J {l:Lq1} (hs:l.Pairwise ltO) (hl:l.length≤1000) (o:Int×ByteArray×ByteArray) :
  ∃ p h,A1T l false 0 o.1 o.2.1 o.2.2 []=(0,p,h)∧B9H l o l.length p h:=by
 refine itX_inv (fun v:A0h=>∃ (i:Nat) (p:Bool) (h:Lq1),v=(l,p,(i:Int),h)∧i≤l.length∧B9H l o i p h) (fun a=>∃ p h,a=(0,p,h)∧B9H l o l.length p h) (fun v=>l.length - v.2.2.1.toNat) ?_ ⟨0,false,[],rfl,Nat.zero_le _,.nil,by simp,by simp,fun _=>⟨rfl,by simp⟩,fun h=>by cases h⟩ (by simp;omega)
 rintro v ⟨i,p,h,rfl,hi,hI⟩
 obtain ⟨i1,i2,i3,i4,i5⟩:=hI
 by_cases hlt:i<l.length
 ·have e1:decide ((i:Int)<(l.length:Int))=true:=decide_eq_true (by omega)
  have e2:decide (0≤(i:Int)∧(i:Int)<(l.length:Int))=true:=decide_eq_true (by omega)
  have w:=wrapU i (by omega)
  have m1:∀ x:Int×ByteArray×ByteArray,decide ((h.length+[x].length)*40≤MAXB)=true:=fun x=>decide_eq_true (by simp only [List.length_singleton,MAXB];omega)
  have m2:∀ x y:Int×ByteArray×ByteArray,decide (((h++[x]).length+[y].length)*40≤MAXB)=true:=fun x y=>decide_eq_true (by simp only [List.length_append,List.length_singleton,MAXB];omega)
  have eta:∀ x:Int×ByteArray×ByteArray,(x.1,(x.2.1,x.2.2))=x:=fun _=>rfl
  have hdrop:l.drop i=l.getD i dOp::l.drop (i+1):=by rw [List.drop_eq_getElem_cons hlt];simp [List.getD_eq_getElem?_getD,hlt]
  have htk:=B86 hs i hlt dOp
  have hdr:=B85 hs i hlt dOp
  have hmem:l.getD i dOp∈l:=A8Z hlt _
  have hts:=B19 hlt dOp
  have meas:∀ (p':Bool) (h':Lq1),l.length - ((l,p', ((i+1:Nat):Int),h'):A0h).2.2.1.toNat<l.length - ((l,p,(i:Int),h):A0h).2.2.1.toNat:=fun _ _=>by simp only [Int.toNat_natCast];omega
  simp only [A3G,e1,e2,m1,m2,w,cond_true,Int.toNat_natCast,eta]
  have hd:((0:Int),((⟨#[]⟩:ByteArray),(⟨#[]⟩:ByteArray)))=dOp:=rfl
  simp only [hd]
  generalize hx:l.getD i dOp=x at *
  left
  cases p with
  | false =>
   obtain ⟨j1,j2⟩:=i4 rfl
   simp only [Bool.not_false,cond_true]
   cases hb:Op.bytesLess x.2.1.toList o.2.1.toList with
   | true =>
    -- still ahead of it
    have hxo:ltO x o:=hb
    have hne:(x.2.1.toList==o.2.1.toList)=false:=by
     rw [beq_eq_false_iff_ne];intro e;rw [e] at hb;rw [A9W] at hb;cases hb
    simp only [Bool.not_true,cond_false,hne,Bool.not_false,cond_true]
    refine ⟨_,rfl,⟨i+1,false,h++[x],rfl,by omega,A9u i1 (fun y hy=>?_),?_,by simp;omega,fun _=>⟨by rw [j1,hts],?_⟩,fun h=>by cases h⟩,meas _ _⟩
    ·rw [j1] at hy;exact htk y hy
    ·intro y hy
     rcases List.mem_append.1 hy with hy | hy
     ·exact i2 y hy
     ·simp at hy;subst hy;exact .inr hmem
    ·intro y hy
     rcases List.mem_append.1 hy with hy | hy
     ·exact j2 y hy
     ·simp at hy;subst hy;exact hxo
   | false =>
    have hge:=A8L x.2.1.toList o.2.1.toList
    rw [hb] at hge
    simp only [Bool.not_false] at hge
    simp only [Bool.not_false,cond_true]
    have s1:(h++[o]).Pairwise ltO:=A9u i1 j2
    have s2:∀ y∈h++[o],y=o∨y∈l:=by
     intro y hy
     rcases List.mem_append.1 hy with hy | hy
     ·exact i2 y hy
     ·simp at hy;exact .inl hy
    cases hq:(x.2.1.toList==o.2.1.toList) with
    | true =>
     simp only [Bool.not_true,cond_false]
     have hkey:x.2.1.toList=o.2.1.toList:=by simpa using hq
     have ho:∀ y∈l.drop (i+1),ltO o y:=fun y hy=>by have:=hdr y hy;unfold ltO at this ⊢;rwa [hkey] at this
     refine ⟨_,rfl,⟨i+1,true,h++[o],rfl,by omega,s1,s2,by simp;omega,(fun h=>by cases h),fun _=>⟨by simp,?_⟩⟩,meas _ _⟩
     intro y hy z hz
     rcases List.mem_append.1 hy with hy | hy
     ·exact A4v (j2 y hy) (ho z hz)
     ·simp at hy;subst hy;exact ho z hz
    | false =>
     simp only [Bool.not_false,cond_true]
     have hox:ltO o x:=by
      have h9:Op.bytesLess o.2.1.toList x.2.1.toList=true:=by
       cases h8:Op.bytesLess o.2.1.toList x.2.1.toList with
       | true=>rfl
       | false =>
        rw [h8] at hge
        have h7:(o.2.1.toList==x.2.1.toList)=true:=by simpa using hge.symm
        rw [beq_iff_eq] at h7
        rw [h7] at hq;simp at hq
      exact h9
     refine ⟨_,rfl,⟨i+1,true,(h++[o])++[x],rfl,by omega,A9u s1 (fun y hy=>?_),?_,?_,(fun h=>by cases h),fun _=>⟨by simp,?_⟩⟩,meas _ _⟩
     ·rcases List.mem_append.1 hy with hy | hy
      ·exact A4v (j2 y hy) hox
      ·simp at hy;subst hy;exact hox
     ·intro y hy
      rcases List.mem_append.1 hy with hy | hy
      ·exact s2 y hy
      ·simp at hy;subst hy;exact .inr hmem
     ·have:h.length≤i:=by rw [j1,List.length_take];omega
      simp;omega
     ·intro y hy z hz
      have hxz:=hdr z hz
      rcases List.mem_append.1 hy with hy | hy
      ·rcases List.mem_append.1 hy with hy | hy
       ·exact A4v (A4v (j2 y hy) hox) hxz
       ·simp at hy;subst hy;exact A4v hox hxz
      ·simp at hy;subst hy;exact hxz
  | true =>
   obtain ⟨j1,j2⟩:=i5 rfl
   simp only [Bool.not_true,cond_false]
   have j3:∀ y∈h,∀ z∈l.drop (i+1),ltO y z:=fun y hy z hz=>j2 y hy z (by rw [hdrop];exact List.mem_cons_of_mem _ hz)
   cases hq:(x.2.1.toList==o.2.1.toList) with
   | true =>
    simp only [Bool.not_true,cond_false]
    exact ⟨_,rfl,⟨i+1,true,h,rfl,by omega,i1,i2,by omega,(fun h=>by cases h),fun _=>⟨j1,j3⟩⟩,meas _ _⟩
   | false =>
    simp only [Bool.not_false,cond_true]
    refine ⟨_,rfl,⟨i+1,true,h++[x],rfl,by omega,A9u i1 (fun y hy=>j2 y hy x (by rw [hdrop];simp)),?_,by simp;omega,(fun h=>by cases h),fun _=>⟨by simp,?_⟩⟩,meas _ _⟩
    ·intro y hy
     rcases List.mem_append.1 hy with hy | hy
     ·exact i2 y hy
     ·simp at hy;subst hy;exact .inr hmem
    ·intro y hy z hz
     rcases List.mem_append.1 hy with hy | hy
     ·exact j3 y hy z hz
     ·simp at hy;subst hy;exact hdr z hz
 ·obtain rfl:i=l.length:=by omega
  have e1:decide ((l.length:Int)<(l.length:Int))=false:=decide_eq_false (by omega)
  simp only [A3G,e1,cond_false]
  exact .inr ⟨_,rfl,p,h,rfl,i1,i2,i3,i4,i5⟩
theorem B5F {l:Lq1} (hs:l.Pairwise ltO) (hl:l.length≤1000) (k:Int) (s v:ByteArray) :
  A3l l k s v=true∧(A8z l k s v).Pairwise ltO∧(∀ x∈A8z l k s v,x=(k,s,v)∨x∈l)∧A8z l k s v ≠ []∧(A8z l k s v).length≤l.length+1:=by
 obtain ⟨p,h,e,i1,i2,i3,i4,i5⟩:=B7J hs hl (k,s,v)
 simp only at e
 have m1:∀ x:Int×ByteArray×ByteArray,decide ((h.length+[x].length)*40≤MAXB)=true:=fun x=>decide_eq_true (by simp only [List.length_singleton,MAXB];omega)
 simp only [A3l,A8z,e,m1]
 cases p with
 | true =>
  simp only [Bool.not_true,cond_false]
  exact ⟨rfl,i1,i2,(i5 rfl).1,i3⟩
 | false =>
  obtain ⟨j1,j2⟩:=i4 rfl
  simp only [Bool.not_false,cond_true]
  refine ⟨rfl,A9u i1 j2,?_,by simp,?_⟩
  ·intro y hy
   rcases List.mem_append.1 hy with hy | hy
   ·exact i2 y hy
   ·simp at hy;exact .inl hy
  ·rw [j1];simp
theorem A9L {b:List Int} {i:Int} (hc:cOk b i) (h:Int):A1l b i h=true∧(A1z b i h).1=b∧cOk b (A1z b i h).2.1∧A9Y (A1z b i h).2.2.2∧1≤(A1z b i h).2.2.2.length∧(A1z b i h).2.2.2.length≤4:=by
 obtain ⟨a1,a2,a3,a4,a5⟩:=K4 hc 4 h
 have a3:=a3 (by omega)
 simp only [A1l,A1z,A48,a1,a4,Bool.true_and]
 generalize C8 4 b i h=r at *
 have w:IntKind.wrap .i64 (1+r.1)=1+r.1:=wrap64 (by omega) (by omega)
 rw [w]
 obtain ⟨z1,z2,z3,z4,z5,z6⟩:(O3 (1+r.1) b r.2.2.1 r.2.2.2 []).1=0∧(O3 (1+r.1) b r.2.2.1 r.2.2.2 []).2.1=b∧cOk b (O3 (1+r.1) b r.2.2.1 r.2.2.2 []).2.2.1∧A9Y (O3 (1+r.1) b r.2.2.1 r.2.2.2 []).2.2.2.2∧1≤(O3 (1+r.1) b r.2.2.1 r.2.2.2 []).2.2.2.2.length∧(O3 (1+r.1) b r.2.2.1 r.2.2.2 []).2.2.2.2.length≤4:=by
  refine itX_inv (fun v:A1R=>v.2.1=b∧cOk b v.2.2.1∧A9Y v.2.2.2.2∧0≤v.1∧v.1≤4∧(v.2.2.2.2.length:Int)≤4 - v.1∧(v.1=0→1≤v.2.2.2.2.length)) (fun a:A0v=>a.1=0∧a.2.1=b∧cOk b a.2.2.1∧A9Y a.2.2.2.2∧1≤a.2.2.2.2.length∧a.2.2.2.2.length≤4) (fun v=>v.1.toNat) ?_ ⟨rfl,a5,⟨.nil,by simp⟩,by simp only;omega,by simp only;omega,by simp only [List.length_nil];omega,fun h=>by simp only at h;omega⟩ (by simp only;omega)
  rintro ⟨n,b', j,h', l⟩ ⟨e1,e2,e3,e4,e5,e6,e7⟩
  simp only at e1 e2 e3 e4 e5 e6 e7
  subst e1
  by_cases hn:n > 0
  ·obtain ⟨o1,o2,o3,o4,o5,o6⟩:=B5G e2 h'
   obtain ⟨p1,p2,p3,p4,p5⟩:=B5F e3.1 (by omega) (A0p b' j h').1 (A0p b' j h').2.1 (A0p b' j h').2.2.1
   have w2:IntKind.wrap .i64 (n - 1)=n - 1:=wrap64 (by omega) (by omega)
   simp only [A2A,decide_eq_true hn,o1,p1,cond_true,w2,o5,A8m]
   refine .inl ⟨_,rfl,⟨rfl,o6,⟨p2,fun x hx=>?_⟩,by simp only;omega,by simp only;omega,by simp only;omega,fun _=>List.length_pos_iff.2 p4⟩,by simp only;omega⟩
   rcases p3 x hx with rfl | hx
   ·exact ⟨o4,o2,o3⟩
   ·exact e3.2 x hx
  ·simp only [A2A,decide_eq_false hn,cond_false]
   exact .inr ⟨_,rfl,rfl,rfl,e2,e3,e7 (by omega),by simp only;omega⟩
 exact ⟨by rw [z1];rfl,z2,z3,z4,z5,z6⟩
theorem B5c {l:Lq1} (h1:l.length≤1048576) (h2:∀ o∈l,o.2.1.size≤1048576∧o.2.2.size≤1048576):D6 l=true:=by
 simp only [D6,okL,Bool.and_eq_true,decide_eq_true_eq,List.all_eq_true]
 refine ⟨h1,fun o ho=>?_⟩
 simp only [B7A,okS,Bool.and_eq_true,decide_eq_true_eq];exact h2 o ho
theorem B4H {l:Lq1} (h:A9Y l) (h8:l.length≤8):D6 l=true:=B5c (by omega) fun o ho=>by have:=h.2 o ho;omega
theorem B5H {b:List Int} {i:Int} (hc:cOk b i) (h:Int):A1W b i h=true∧D6 (M3 b i h).2.2.1=true∧(M3 b i h).2.2.2.1=b∧cOk b (M3 b i h).2.2.2.2.1∧(M3 b i h).2.1≤4:=by
 obtain ⟨a1,a2,a3,a4⟩:=A0F hc h (l:=[(1:Int),(1:Int),(2:Int),(3:Int)]) (by simp)
 obtain ⟨b1,b2,b3,b4,b5⟩:=K4 a4 4 (H7 b i h [(1:Int),(1:Int),(2:Int),(3:Int)]).2.2.2.1
 have k1:D4 b i h=C8 4 b (H7 b i h [(1:Int),(1:Int),(2:Int),(3:Int)]).2.2.1 (H7 b i h [(1:Int),(1:Int),(2:Int),(3:Int)]).2.2.2.1:=by simp only [D4,a3]
 rw [← k1] at b2 b3 b4 b5
 have b3:=b3 (by omega)
 have ht:IntKind.wrap .i64 ((1:Int)+(D4 b i h).1)≤4:=by rw [wrap64 (by omega) (by omega)];omega
 obtain ⟨c1,c2,c3,c4,c5,c6⟩:=A9L b5 (D4 b i h).2.2.2
 have k2:A2H b i h=A1z b (D4 b i h).2.2.1 (D4 b i h).2.2.2:=by simp only [A2H,b4]
 rw [← k2] at c2 c3 c4 c5 c6
 simp only [A1W,M3,a1,a3,b1,b4,c1,Bool.true_and]
 cases ((H7 b i h [(1:Int),(1:Int),(2:Int),(3:Int)]).1==1) with
 | true=>exact ⟨rfl,B4H c4 (Nat.le_trans c6 (by decide)),c2,c3,ht⟩
 | false=>exact ⟨rfl,rfl,rfl,b5,ht⟩
theorem B8q {s:ByteArray} (h:s∈B0A):A1n s=true:=by
 simp only [B0A,List.mem_cons,List.not_mem_nil,or_false] at h
 rcases h with rfl | rfl | rfl | rfl | rfl | rfl | rfl<;>kernel_rfl
theorem B7x {k:Int} {s v:ByteArray} (h:B6a k s v):A6L k s v=true:=by
 obtain ⟨h1,h2⟩:=h
 have b3:=B8q h1
 rcases h2 with ⟨h2,h3⟩ | ⟨rfl,rfl⟩
 ·have hd:decide ((v.size:Int)≤20)=true:=decide_eq_true (by omega)
  have hin:J6 k 1 3=true:=by rcases h2 with e | e<;>rw [e]<;>rfl
  have hne:(k==2)=false:=by rcases h2 with e | e<;>rw [e]<;>rfl
  simp only [A6L,hin,hne,b3,hd,Bool.not_true,cond_false,cond_true]
 ·have hin:J6 2 1 3=true:=rfl
  have e:((2:Int)==2)=true:=rfl
  have hs:((⟨#[]⟩:ByteArray).toList==(⟨#[]⟩:ByteArray).toList)=true:=beq_self_eq_true _
  have hz:decide ((((⟨#[]⟩:ByteArray).size:Nat):Int)≤(20:Int))=true:=by decide
  show cond (!(J6 2 1 3)) false (cond ((2:Int)==2) (cond (!((⟨#[]⟩:ByteArray).toList==(⟨#[]⟩:ByteArray).toList)) false (cond (A1n s) (decide ((((⟨#[]⟩:ByteArray).size:Nat):Int)≤(20:Int))) false)) (cond (A1n s) (decide ((((⟨#[]⟩:ByteArray).size:Nat):Int)≤(20:Int))) false))=true
  rw [hin,e,hs,b3,hz];rfl
theorem B4I {l:Lq1} (h:A9Y l) (h1:1≤l.length) (h8:l.length≤8):I5 l=true:=by
 have e:allF (A3o l) (l.length - (0:Int).toNat) (0:Int).toNat=true:=by
  refine (allF_true _ _).2 fun j _ hj=>?_
  have hj':j<l.length:=by simpa using hj
  simp only [A3o,Bool.and_eq_true,B7x (h.2 _ (A8Z hj' dOp)).1,true_and]
  by_cases h0:j=0
  ·subst h0;simp
  ·have hp:=List.pairwise_iff_getElem.1 h.1 (j - 1) j (by omega) hj' (by omega)
   have e2:l.getD (j - 1) dOp=l[j - 1]:=by simp [List.getD_eq_getElem?_getD,show j - 1<l.length by omega]
   have e3:l.getD j dOp=l[j]:=by simp [List.getD_eq_getElem?_getD,hj']
   rw [e2,e3]
   simp only [Bool.or_eq_true]
   exact .inr hp
 have e1:decide ((l.length:Int) ≥ 1)=true:=decide_eq_true (by omega)
 have e2:decide ((l.length:Int)≤8)=true:=decide_eq_true (by omega)
 simp only [I5,e,cond_true,J6,e1,e2]
theorem B7K {b:List Int} {i:Int} (hc:cOk b i) (h:Int):A1W b i h=true∧E1 (M3 b i h).1 (M3 b i h).2.1 (M3 b i h).2.2.1=true∧(M3 b i h).2.2.2.1=b∧cOk b (M3 b i h).2.2.2.2.1:=by
 obtain ⟨z1,_,z3,z4,_⟩:=B5H hc h
 refine ⟨z1,?_,z3,z4⟩
 obtain ⟨a1,a2,a3,a4⟩:=A0F hc h (l:=[(1:Int),(1:Int),(2:Int),(3:Int)]) (by simp)
 obtain ⟨b1,b2,b3,b4,b5⟩:=K4 a4 4 (H7 b i h [(1:Int),(1:Int),(2:Int),(3:Int)]).2.2.2.1
 have k1:D4 b i h=C8 4 b (H7 b i h [(1:Int),(1:Int),(2:Int),(3:Int)]).2.2.1 (H7 b i h [(1:Int),(1:Int),(2:Int),(3:Int)]).2.2.2.1:=by simp only [D4,a3]
 rw [← k1] at b2 b3 b4 b5
 have b3:=b3 (by omega)
 have ht:IntKind.wrap .i64 ((1:Int)+(D4 b i h).1)=1+(D4 b i h).1:=wrap64 (by omega) (by omega)
 obtain ⟨c1,c2,c3,c4,c5,c6⟩:=A9L b5 (D4 b i h).2.2.2
 have k2:A2H b i h=A1z b (D4 b i h).2.2.1 (D4 b i h).2.2.2:=by simp only [A2H,b4]
 rw [← k2] at c2 c3 c4 c5 c6
 have r2:J6 (1+(D4 b i h).1) 1 1000000=true:=by
  simp only [J6,decide_eq_true (show 1+(D4 b i h).1 ≥ 1 by omega),decide_eq_true (show 1+(D4 b i h).1≤1000000 by omega),cond_true]
 have hz:(((([]:Lq1).length:Nat):Int)==0)=true:=rfl
 have hK:(H7 b i h [(1:Int),(1:Int),(2:Int),(3:Int)]).1=1∨(H7 b i h [(1:Int),(1:Int),(2:Int),(3:Int)]).1=2∨(H7 b i h [(1:Int),(1:Int),(2:Int),(3:Int)]).1=3:=by
  simp only [List.mem_cons,List.not_mem_nil,or_false] at a2
  omega
 have ho:=B4I c4 c5 (by omega)
 have e21:((2:Int)==1)=false:=rfl
 have e31:((3:Int)==1)=false:=rfl
 have e32:((3:Int)==2)=false:=rfl
 simp only [M3,ht]
 rcases hK with hK | hK | hK<;>simp only [hK,E1,r2,ho,hz,e21,e31,e32,beq_self_eq_true,cond_true,cond_false,Bool.not_true]
theorem O4 {l:Lq1} (h:I5 l=true):l.length≤8∧∀ o∈l,o.2.1.size≤12∧o.2.2.size≤20:=by
 simp only [I5] at h
 cases h5:allF (A3o l) (l.length - (0:Int).toNat) (0:Int).toNat with
 | false=>rw [h5] at h;simp at h
 | true =>
  rw [h5] at h
  simp only [cond_true,J6] at h
  constructor
  ·cases h6:decide ((l.length:Int) ≥ 1) with
   | false=>simp [h6] at h
   | true=>rw [h6] at h;simp only [cond_true,decide_eq_true_eq] at h;omega
  ·intro o ho
   obtain ⟨i,hi,rfl⟩:=List.getElem_of_mem ho
   have h6:=(allF_true _ _).1 h5 i (Nat.zero_le _) (by simpa using hi)
   simp only [A3o,Bool.and_eq_true,List.getD_eq_getElem?_getD,List.getElem?_eq_getElem hi,Option.getD_some] at h6
   have h7:=h6.1
   simp only [A6L] at h7
   have hk:∀ s:ByteArray,A1n s=true→s.size≤12:=by
    intro s hs
    simp only [A1n] at hs
    cases h8:allF (A5l s) (s.size - (0:Int).toNat) (0:Int).toNat with
    | false=>rw [h8] at hs;simp at hs
    | true =>
     rw [h8] at hs
     simp only [cond_true,J6] at hs
     cases h9:decide ((s.size:Int) ≥ 1) with
     | false=>simp [h9] at hs
     | true=>rw [h9] at hs;simp only [cond_true,decide_eq_true_eq] at hs;omega
   cases h8:A1n (l[i]).2.1 with
   | false=>exfalso;revert h7;simp only [h8,cond_false];cases J6 (l[i]).1 1 3<;>cases ((l[i]).1==2)<;>simp
   | true =>
    refine ⟨hk _ h8,?_⟩
    revert h7
    simp only [h8,cond_true]
    cases J6 (l[i]).1 1 3<;>cases ((l[i]).1==2)<;>simp<;>omega
theorem B0B {l:Lq1} (h:I5 l=true):D6 l=true:=by
 obtain ⟨a1,a2⟩:=O4 h
 simp only [D6,okL,Bool.and_eq_true,decide_eq_true_eq,List.all_eq_true]
 refine ⟨by omega,fun o ho=>?_⟩
 have:=a2 o ho
 simp only [B7A,okS,Bool.and_eq_true,decide_eq_true_eq];omega
theorem Z9 {k t:Int} {l:Lq1} (h:E1 k t l=true):1≤k∧k≤3∧1≤t∧t≤1000000∧(k=1→I5 l=true)∧(k ≠ 1→l=[])∧D6 l=true:=by
 simp only [E1,J6] at h
 cases h1:decide (t ≥ 1) with
 | false=>simp [h1] at h
 | true=>cases h2:decide (t≤1000000) with
  | false=>simp [h1,h2] at h
  | true =>
   simp only [h1,h2,cond_true,Bool.not_true,cond_false] at h
   have:=of_decide_eq_true h1;have:=of_decide_eq_true h2
   cases k1:(k==1) with
   | true =>
    have:=eq_of_beq k1
    simp only [k1,cond_true] at h
    exact ⟨by omega,by omega,by omega,by omega,fun _=>h,fun hk=>absurd this hk,B0B h⟩
   | false =>
    have hk:k ≠ 1:=by rw [beq_eq_false_iff_ne] at k1;exact k1
    simp only [k1,cond_false] at h
    have key:(k=2∨k=3)∧l=[]:=by
     cases k2:(k==2) with
     | true =>
      simp only [k2,cond_true] at h
      have:=eq_of_beq h
      exact ⟨.inl (eq_of_beq k2),List.eq_nil_of_length_eq_zero (by omega)⟩
     | false =>
      cases k3:(k==3) with
      | true =>
       simp only [k2,k3,cond_true,cond_false] at h
       have:=eq_of_beq h
       exact ⟨.inr (eq_of_beq k3),List.eq_nil_of_length_eq_zero (by omega)⟩
      | false=>simp [k2,k3] at h
    exact ⟨by omega,by omega,by omega,by omega,fun e=>absurd e hk,fun _=>key.2,by rw [key.2];rfl⟩
noncomputable def A1V (l:Lq1):List Int:=A7 (l.length:Int)++(l.map opB).flatten
noncomputable def A5 (k t:Int) (l:Lq1):List Int:=A7 k++(A7 t++cond (k==1) (A1V l) [])
noncomputable def A3x (b:List Int):List Int:=strInts ((H8 b).extract 0 4)
noncomputable def K7 (k t:Int) (l:Lq1):List Int:=A7 ((A5 k t l).length:Int)++(A5 k t l++A3x (A5 k t l))
theorem B5d {l:Lq1} (h:I5 l=true):(A1V l).length≤400:=by
 obtain ⟨a1,a2⟩:=O4 h
 have h5:=B8e (M:=47) l (fun o ho'=>by have:=a2 o ho';have:=B84 o;omega)
 have h6:=L8 (l.length:Int)
 simp only [A1V,List.length_append];omega
noncomputable def hiB (j x:Nat):List Int:=(hiF A2q j (x:Int)).1++[IntKind.wrap .u8 (hiF A2q j (x:Int)).2]
theorem B1d (x:Nat):A7 (x:Int)=hiB 4 x:=by simp only [A7,hiB,B6O]
theorem B8k (j x:Nat) (h:¬ 127<x):hiF A2q j (x:Int)=([],(x:Int)):=by
 cases j with
 | zero=>rfl
 | succ j =>
  have e:decide ((x:Int) > 127)=false:=decide_eq_false (by omega)
  simp only [hiF,e,cond_false]
theorem B8D {n:Int} (h1:0≤n) (h2:n<256):IntKind.wrap .u8 n=n:=by
 show (if (false&&decide (n % (2 ^ 8:Int) ≥ (2 ^ 7:Int)))=true then n % (2 ^ 8:Int) - (2 ^ 8:Int) else n % (2 ^ 8:Int))=n
 simp only [Bool.false_and,Bool.false_eq_true,if_false];omega
theorem A1S (j x:Nat) (h:¬ 127<x):hiB j x=[(x:Int)]:=by
 simp only [hiB,B8k j x h,List.nil_append];rw [B8D (by omega) (by omega)]
theorem C0K (n:Nat):Int.fdiv (n:Int) (2 ^ 7)=((n / 128:Nat):Int):=by
 rw [Int.fdiv_eq_ediv_of_nonneg _ (by decide)];rfl
theorem B8j (j x:Nat) (h:127<x):hiF A2q (j+1) (x:Int)=(A2q x::(hiF A2q j ((x / 128:Nat):Int)).1,(hiF A2q j ((x / 128:Nat):Int)).2):=by
 have e:decide ((x:Int) > 127)=true:=decide_eq_true (by omega)
 simp only [hiF,e,cond_true,C0K]
theorem B6N (n:Nat) (h:n<9223372036854775808):iand .i64 (n:Int) 127=((n % 128:Nat):Int):=by
 show IntKind.wrap .i64 (((BitVec.ofInt 64 (n:Int) &&& BitVec.ofInt 64 ((127:Nat):Int)).toNat:Nat):Int)=_
 rw [BitVec.toNat_and,A4w n (by omega),A4w 127 (by omega),show (127:Nat)=2 ^ 7 - 1 from rfl,Nat.and_two_pow_sub_one_eq_mod]
 exact wrap64 (by omega) (by omega)
theorem B8m (n m j:Nat) (hn:n<2 ^ j) (h:n+m*2 ^ j<9223372036854775808):ior .i64 (n:Int) ((m*2 ^ j:Nat):Int)=((n+m*2 ^ j:Nat):Int):=by
 show IntKind.wrap .i64 (((BitVec.ofInt 64 (n:Int) ||| BitVec.ofInt 64 ((m*2 ^ j:Nat):Int)).toNat:Nat):Int)=_
 rw [BitVec.toNat_or,A4w n (by omega),A4w _ (by omega),Nat.or_comm,Nat.mul_comm m,← Nat.two_pow_add_eq_or_of_lt hn,Nat.add_comm]
 rw [Nat.mul_comm m] at h
 exact wrap64 (by omega) (by omega)
theorem B8g (n:Nat) (h:n<9223372036854775808):A2q (n:Int)=((128+n % 128:Nat):Int):=by
 simp only [A2q]
 rw [B6N n h]
 have:=B8m (n % 128) 1 7 (by omega) (by omega)
 have e:((1*2 ^ 7:Nat):Int)=128:=rfl
 rw [e] at this
 rw [this,B8D (by omega) (by omega)];omega
theorem B1E (j x:Nat) (h:127<x) (hx:x<9223372036854775808):hiB (j+1) x=((128+x % 128:Nat):Int)::hiB j (x / 128):=by
 simp only [hiB,B8j j x h,B8g x hx,List.cons_append]
theorem B9y:∀ (j x:Nat),x<128 ^ (j+1)→x<9223372036854775808→okB (hiB j x):=by
 intro j
 induction j with
 | zero=>intro x h h';rw [A1S 0 x (by simp at h;omega)];intro c hc;simp at hc;simp at h;omega
 | succ j ih =>
  intro x h h'
  by_cases hx:127<x
  ·rw [B1E j x hx h']
   rw [Nat.pow_succ] at h
   have hx':x / 128<128 ^ (j+1):=Nat.div_lt_of_lt_mul (by rw [Nat.mul_comm];exact h)
   intro c hc
   rcases List.mem_cons.1 hc with rfl | hc
   ·omega
   ·exact ih (x / 128) hx' (by omega) c hc
  ·rw [A1S _ x hx];intro c hc;simp at hc;omega
theorem A2u {x:Int} (h0:0≤x) (h1:x≤1000000000):okB (A7 x):=by
 obtain ⟨n,rfl⟩:=Int.eq_ofNat_of_zero_le h0
 rw [B1d];exact B9y 4 n (by simp;omega) (by omega)
noncomputable def B57 (o:Int×ByteArray×ByteArray):Prop:=0≤o.1∧o.1≤1000000000∧o.2.1.size≤1000000000∧o.2.2.size≤1000000000
theorem B18 (s:ByteArray):okB (strInts s):=by
 intro c hc
 simp only [strInts,List.mem_map] at hc
 obtain ⟨x,_,rfl⟩:=hc
 have:=x.toNat_lt
 omega
theorem okB.app {a b:List Int} (h:okB a) (h':okB b):okB (a++b):=fun c hc=>(List.mem_append.1 hc).elim (h c) (h' c)
theorem B5J {s:ByteArray} (h:s.size≤1000000000):okB (H9 s):=(A2u (by omega) (by omega)).app (B18 s)
theorem B9I {o:Int×ByteArray×ByteArray} (h:B57 o):okB (opB o):=by
 obtain ⟨h0,h1,h2,h3⟩:=h
 simp only [opB,K5 h0 h1]
 exact (A2u h0 h1).app ((B5J h2).app (B5J h3))
theorem B8M:∀ l:Lq1,(∀ o∈l,B57 o)→okB (l.map opB).flatten:=by
 intro l
 induction l with
 | nil=>intro _ c hc;simp at hc
 | cons o l ih=>intro h;simp only [List.map_cons,List.flatten_cons];exact (B9I (h o (by simp))).app (ih fun x hx=>h x (by simp [hx]))
theorem B3g {l:Lq1} (h:I5 l=true):∀ o∈l,B57 o:=by
 intro o ho
 obtain ⟨_,a2⟩:=O4 h
 have a3:=a2 o ho
 simp only [I5] at h
 cases h5:allF (A3o l) (l.length - (0:Int).toNat) (0:Int).toNat with
 | false=>rw [h5] at h;simp at h
 | true =>
  obtain ⟨i,hi,rfl⟩:=List.getElem_of_mem ho
  have h6:=(allF_true _ _).1 h5 i (Nat.zero_le _) (by simpa using hi)
  simp only [A3o,Bool.and_eq_true,List.getD_eq_getElem?_getD,List.getElem?_eq_getElem hi,Option.getD_some] at h6
  have h7:=h6.1
  simp only [A6L,J6] at h7
  cases h8:decide ((l[i]).1 ≥ 1) with
  | false=>simp [h8] at h7
  | true =>
   cases h9:decide ((l[i]).1≤3) with
   | false=>simp [h8,h9] at h7
   | true =>
    have:=of_decide_eq_true h8
    have:=of_decide_eq_true h9
    exact ⟨by omega,by omega,by omega,by omega⟩
theorem B6P {l:Lq1} (h:I5 l=true):okB (A1V l):=by
 obtain ⟨a1,_⟩:=O4 h
 exact (A2u (by omega) (by omega)).app (B8M l (B3g h))
theorem A0o {k t:Int} {l:Lq1} (h:E1 k t l=true):okB (A5 k t l)∧(A5 k t l).length≤410∧2≤(A5 k t l).length:=by
 obtain ⟨a1,a2,a3,a4,a7,a8,a9⟩:=Z9 h
 have l1:=L8 k;have l2:=L8 t
 have m1:1≤(A7 k).length:=by simp [A7]
 have m2:1≤(A7 t).length:=by simp [A7]
 cases hk:(k==1) with
 | true =>
  have ho:=a7 (eq_of_beq hk)
  have l5:=B5d ho
  refine ⟨?_,by simp only [A5,hk,cond_true,List.length_append];omega,by simp only [A5,hk,cond_true,List.length_append];omega⟩
  simp only [A5,hk,cond_true]
  exact (A2u (by omega) (by omega)).app ((A2u (by omega) (by omega)).app (B6P ho))
 | false =>
  refine ⟨?_,by simp only [A5,hk,cond_false,List.length_append,List.length_nil];omega,by simp only [A5,hk,cond_false,List.length_append,List.length_nil];omega⟩
  simp only [A5,hk,cond_false]
  exact (A2u (by omega) (by omega)).app ((A2u (by omega) (by omega)).app (fun c hc=>by simp at hc))
noncomputable def A9e (n:Nat):Nat:=(64 - (n+8) % 64) % 64
theorem C0N (a:List Int) (ha:a.length≤1000000000000) (h:List Int) (hh:h.length=a.length+1) :
  (D8 a h).1=0∧(D8 a h).2.1=a∧((D8 a h).2.2.length+8) % 64=0∧(D8 a h).2.2.length≤a.length+64:=by
 refine itX_inv (v:=(a,h)) (fun (v:A0w)=>v.1=a∧v.2.length+A9e v.2.length≤a.length+64)
  (fun (x:V5)=>x.1=0∧x.2.1=a∧(x.2.2.length+8) % 64=0∧x.2.2.length≤a.length+64) (fun v=>A9e v.2.length) ?_ ⟨rfl,by simp only [A9e];omega⟩ (by simp only [A9e];omega)
 rintro ⟨a1,l⟩ ⟨h1,h4⟩
 simp only at h1 h4
 subst h1
 simp only [A9e] at h4
 have e1:IntKind.wrap .i64 ((l.length:Int)+(8:Int))=((l.length+8:Nat):Int):=by rw [Q3 _ (by omega) (by omega)];omega
 have t1:Int.tmod ((l.length+8:Nat):Int) 64=(((l.length+8) % 64:Nat):Int):=by rw [Int.tmod_eq_emod_of_nonneg (by omega)];omega
 by_cases hm:(l.length+8) % 64=0
 ·refine .inr ⟨(0,a1,l),?_,rfl,rfl,hm,by simp only;omega⟩
  simp only [Y9,e1,t1,hm];rfl
 ·refine .inl ⟨(a1,l++[0]),?_,⟨rfl,by simp only [A9e,List.length_append,List.length_singleton];omega⟩,by simp only [A9e,List.length_append,List.length_singleton];omega⟩
  have c1:((((l.length+8) % 64:Nat):Int) != (0:Int))=true:=by simp only [bne_iff_ne,ne_eq];omega
  simp only [Y9,e1,t1,c1,cond_true,List.length_singleton]
  rw [decide_eq_true (by simp only [MAXB];omega)];rfl
theorem C0O (n:Int) (h:List Int) (hh:h.length≤1000000000100) :
  (O1 n 7 h).1=0∧(O1 n 7 h).2.length=h.length+8:=by
 refine itX_inv (v:=(n,(7:Int),h)) (fun (v:A0x)=>v.1=n∧(-1≤v.2.1∧v.2.1≤7)∧(v.2.2.length:Int)=(h.length:Int)+(7 - v.2.1))
  (fun (x:V6)=>x.1=0∧x.2.length=h.length+8) (fun v=>(v.2.1+1).toNat) ?_ ⟨rfl,⟨by simp only;omega,by simp only;omega⟩,by simp only;omega⟩ (by simp only;decide)
 rintro ⟨n2,i,l⟩ ⟨h1,h4,h6⟩
 simp only at h1 h4 h6
 subst h1
 by_cases hi:0≤i
 ·have e0 : IntKind.wrap .u64 (8 * i) = 8 * i := by
   have:IntKind.wrap .u64 (8*i)=(8*i) % 18446744073709551616:=by simp [IntKind.wrap,IntKind.bits,IntKind.signed]
   rw [this];omega
  refine .inl ⟨(n2,i - 1,l++[IntKind.wrap .u8 (Int.fdiv n2 (2 ^ (min (Int.toNat (8*i)) (IntKind.bits .i64))))]),?_,⟨rfl,by simp only;omega,by simp only [List.length_append,List.length_singleton];omega⟩,by simp only;omega⟩
  simp only [Z0,Q3 (8*i) (by omega) (by omega),e0,wrap64 (n:=i - 1) (by omega) (by omega),decide_eq_true (show i ≥ 0 from hi),cond_true,List.length_singleton]
  rw [decide_eq_true (by omega),decide_eq_true (by simp only [MAXB];omega)];rfl
 ·refine .inr ⟨(0,l),?_,rfl,by simp only;omega⟩
  simp only [Z0,decide_eq_false (show ¬ i ≥ 0 from hi),cond_false]
theorem B6f (a:List Int) (ha:a.length≤1000000000000):Y4 a=true∧(N9 a).length % 64=0∧0<(N9 a).length∧(N9 a).length≤a.length+72:=by
 obtain ⟨a1,a3,a6,a7⟩:=C0N a ha (a++[128]) (by simp)
 obtain ⟨b1,b4⟩:=C0O (IntKind.wrap .i64 ((8:Int)*(a.length:Int))) (D8 a (a++[128])).2.2 (by omega)
 have ei:W9 a=O1 (IntKind.wrap .i64 ((8:Int)*(a.length:Int))) 7 (D8 a (a++[128])).2.2:=by
  simp only [W9,D2,a3]
 refine ⟨?_,?_,?_,?_⟩
 ·have q1:D1 a=true:=decide_eq_true (by simp only [MAXB,List.length_nil];omega)
  simp only [Y4,q1,D2,a1,ei,b1,List.length_singleton,Bool.true_and,beq_self_eq_true,Bool.and_true]
  exact decide_eq_true (by simp only [MAXB];omega)
 ·simp only [N9,ei,b4];omega
 ·simp only [N9,ei,b4];omega
 ·simp only [N9,ei,b4];omega
theorem B2i (h:List Int):(E7 h).length=4*h.length:=by
 induction h with
 | nil=>rfl
 | cons x h ih=>simp only [E7,List.flatMap_cons,List.length_append,List.length_cons,List.length_nil] at ih ⊢;omega
theorem B8a (p:List Int):(B7r p).length=8:=by
 have key:∀ n,64*n≤p.length→((List.range n).foldl (fun h i=>(D5 ((p.drop (64*i)).take 64) h irounds).1) hinit).length=8:=by
  intro n
  induction n with
  | zero=>intro _;rfl
  | succ n ih =>
   intro hn
   rw [List.range_succ,List.foldl_append]
   exact (B1f _ _ (by simp only [List.length_take,List.length_drop];omega) (ih (by omega))).2.1
 exact key _ (by omega)
theorem A3y (b:List Int) (hl:b.length≤1000000000000):Q1 b=true∧(H8 b).size=32∧(A3x b).length=4∧okB (A3x b):=by
 obtain ⟨p1,p2,p3,p4⟩:=B6f b hl
 have hs:(H8 b).size=32:=by
  have:(H8 b).size=(E7 (B7r (N9 b))).length:=by
   show (((E7 _).map _).toArray).size=_
   simp
  rw [this,B2i,B8a]
 refine ⟨?_,hs,?_,B18 _⟩
 ·simp only [Q1,p1,Bool.true_and,Bool.and_eq_true,decide_eq_true_eq];omega
 ·simp only [A3x,A3H,ByteArray.size_extract,hs];rfl
theorem A9B {k t:Int} {l:Lq1} (h:E1 k t l=true):okB (K7 k t l)∧(K7 k t l).length≤419∧5≤(K7 k t l).length:=by
 obtain ⟨a1,a2,a3⟩:=A0o h
 obtain ⟨_,_,b1,b2⟩:=A3y (A5 k t l) (by omega)
 have l1:=L8 ((A5 k t l).length:Int)
 refine ⟨(A2u (by omega) (by omega)).app (a1.app b2),?_,?_⟩<;>simp only [K7,List.length_append]<;>omega
noncomputable def AllB (l:List Int):Prop:=∀ x∈l,0≤x∧x<256
theorem AllB.app {l m:List Int} (h:AllB l) (h2:AllB m):AllB (l++m):=fun x hx=>by
 rcases List.mem_append.1 hx with hx | hx
 ·exact h x hx
 ·exact h2 x hx
theorem B7D (a:List Int) (ha:a.length≤1000000000000) (hb:AllB a) (h:List Int) (hh:h.length=a.length+1) (hB:AllB h) :
  (D8 a h).1=0∧(D9 a h).1=0∧(D8 a h).2.1=a∧(D9 a h).2.1=a∧(D8 a h).2.2=(D9 a h).2.2∧((D9 a h).2.2.length+8) % 64=0∧(D9 a h).2.2.length≤a.length+64∧AllB (D9 a h).2.2:=by
 refine itX_sim (v:=(a,h)) (w:=(a,h)) (fun (v:A0w) (w:A1P)=>v.1=a∧w.1=a∧v.2=w.2∧v.2.length+A9e v.2.length≤a.length+64∧AllB v.2)
  (fun (x:V5) (y:A0t)=>x.1=0∧y.1=0∧x.2.1=a∧y.2.1=a∧x.2.2=y.2.2∧(y.2.2.length+8) % 64=0∧y.2.2.length≤a.length+64∧AllB y.2.2) (fun v=>A9e v.2.length) ?_ ⟨rfl,rfl,rfl,by simp only [A9e];omega,hB⟩ (by simp only [A9e];omega)
 rintro ⟨a1,l⟩ ⟨a2,l2⟩ ⟨h1,h2,h3,h4,h5⟩
 simp only at h1 h2 h3 h4 h5
 subst h1;subst h2;subst h3
 simp only [A9e] at h4
 have e1:IntKind.wrap .i64 ((l.length:Int)+(8:Int))=((l.length+8:Nat):Int):=by rw [Q3 _ (by omega) (by omega)];omega
 have t1:Int.tmod ((l.length+8:Nat):Int) 64=(((l.length+8) % 64:Nat):Int):=by rw [Int.tmod_eq_emod_of_nonneg (by omega)];omega
 have t2:Int.tmod (l.length:Int) 64=((l.length % 64:Nat):Int):=by rw [Int.tmod_eq_emod_of_nonneg (by omega)];omega
 by_cases hm:(l.length+8) % 64=0
 ·refine .inr ⟨(0,a2,l),(0,a2,l),?_,?_,rfl,rfl,rfl,rfl,rfl,hm,by simp only;omega,h5⟩
  ·simp only [Y9,e1,t1,hm];rfl
  ·simp only [A2y,t2,show l.length % 64=56 by omega];rfl
 ·refine .inl ⟨(a2,l++[0]),(a2,l++[0]),?_,?_,⟨rfl,rfl,rfl,by simp only [A9e,List.length_append,List.length_singleton];omega,h5.app (fun x hx=>by rw [List.mem_singleton.1 hx];exact ⟨by decide,by decide⟩)⟩,by simp only [A9e,List.length_append,List.length_singleton];omega⟩
  ·have c1:((((l.length+8) % 64:Nat):Int) != (0:Int))=true:=by simp only [bne_iff_ne,ne_eq];omega
   simp only [Y9,e1,t1,c1,cond_true,List.length_singleton]
   rw [decide_eq_true (by simp only [MAXB];omega)];rfl
  ·have c1:(((l.length % 64:Nat):Int) != (56:Int))=true:=by simp only [bne_iff_ne,ne_eq];omega
   simp only [A2y,t2,c1,cond_true,List.length_singleton]
   rw [decide_eq_true (by simp only [MAXB];omega)];rfl
theorem w8B (n:Int):0≤IntKind.wrap .u8 n∧IntKind.wrap .u8 n<256:=by
 have:IntKind.wrap .u8 n=n % 256:=by simp [IntKind.wrap,IntKind.bits,IntKind.signed]
 rw [this];exact ⟨Int.emod_nonneg _ (by decide),Int.emod_lt_of_pos _ (by decide)⟩
theorem B7E (n:Int) (h:List Int) (hh:h.length≤1000000000100) (hB:AllB h) :
  (O1 n 7 h).1=0∧(T3 n 56 h).1=0∧(O1 n 7 h).2=(T3 n 56 h).2∧(T3 n 56 h).2.length=h.length+8∧AllB (T3 n 56 h).2:=by
 refine itX_sim (v:=(n,(7:Int),h)) (w:=(n,(56:Int),h)) (fun (v:A0x) (w:A1Q)=>v.1=n∧w.1=n∧v.2.2=w.2.2∧(-1≤v.2.1∧v.2.1≤7)∧w.2.1=8*v.2.1∧(v.2.2.length:Int)=(h.length:Int)+(7 - v.2.1)∧AllB v.2.2)
  (fun (x:V6) (y:A0u)=>x.1=0∧y.1=0∧x.2=y.2∧y.2.length=h.length+8∧AllB y.2) (fun v=>(v.2.1+1).toNat) ?_ ⟨rfl,rfl,rfl,⟨by simp only;omega,by simp only;omega⟩,by simp only;omega,by simp only;omega,hB⟩ (by simp only;decide)
 rintro ⟨n1,i,l⟩ ⟨n2,j,l2⟩ ⟨h1,h2,h3,h4,h5,h6,h7⟩
 simp only at h1 h2 h3 h4 h5 h6 h7
 subst h1;subst h2;subst h3;subst h5
 by_cases hi:0≤i
 ·have e0 : IntKind.wrap .u64 (8 * i) = 8 * i := by
   have:IntKind.wrap .u64 (8*i)=(8*i) % 18446744073709551616:=by simp [IntKind.wrap,IntKind.bits,IntKind.signed]
   rw [this];omega
  refine .inl ⟨(n2,i - 1,l++[IntKind.wrap .u8 (Int.fdiv n2 (2 ^ (min (Int.toNat (8*i)) (IntKind.bits .i64))))]),(n2,8*i - 8,l++[IntKind.wrap .u8 (Int.fdiv n2 (2 ^ (min (Int.toNat (8*i)) (IntKind.bits .i64))))]),?_,?_,⟨rfl,rfl,rfl,by simp only;omega,by simp only;omega,by simp only [List.length_append,List.length_singleton];omega,h7.app (fun x hx=>by rw [List.mem_singleton.1 hx];exact w8B _)⟩,by simp only;omega⟩
  ·simp only [Z0,Q3 (8*i) (by omega) (by omega),e0,wrap64 (n:=i - 1) (by omega) (by omega),decide_eq_true (show i ≥ 0 from hi),cond_true,List.length_singleton]
   rw [decide_eq_true (by omega),decide_eq_true (by simp only [MAXB];omega)];rfl
  ·simp only [A2z,e0,wrap64 (n:=8*i - 8) (by omega) (by omega),decide_eq_true (show 8*i ≥ 0 by omega),cond_true,List.length_singleton]
   rw [decide_eq_true (show _≤_ from by simp only [MAXB];omega)];rfl
 ·refine .inr ⟨(0,l),(0,l),?_,?_,rfl,rfl,rfl,by simp only;omega,h7⟩
  ·simp only [Z0,decide_eq_false (show ¬ i ≥ 0 from hi),cond_false]
  ·simp only [A2z,decide_eq_false (show ¬ 8*i ≥ 0 by omega),cond_false]
theorem B5e (a:List Int) (ha:a.length≤1000000000000) (hb:AllB a):Y4 a=true∧A1j a=true∧N9 a=F9 a∧(F9 a).length % 64=0∧0<(F9 a).length∧(F9 a).length≤a.length+72∧AllB (F9 a):=by
 have h128:AllB (a++[128]):=hb.app (fun x hx=>by rw [List.mem_singleton.1 hx];exact ⟨by decide,by decide⟩)
 obtain ⟨a1,a2,a3,a4,a5,a6,a7,a8⟩:=B7D a ha hb (a++[128]) (by simp) h128
 obtain ⟨b1,b2,b3,b4,b5⟩:=B7E (IntKind.wrap .i64 ((8:Int)*(a.length:Int))) (D9 a (a++[128])).2.2 (by omega) a8
 have ei:W9 a=O1 (IntKind.wrap .i64 ((8:Int)*(a.length:Int))) 7 (D9 a (a++[128])).2.2:=by
  simp only [W9,D2,a3,a5]
 have es:A1g a=T3 (IntKind.wrap .i64 ((8:Int)*(a.length:Int))) 56 (D9 a (a++[128])).2.2:=by
  simp only [A1g,List.nil_append,a4,Int.mul_comm]
 have e1:N9 a=F9 a:=by simp only [N9,F9,ei,es,b3]
 refine ⟨?_,?_,e1,?_,?_,?_,?_⟩
 ·have q1:D1 a=true:=decide_eq_true (by simp only [MAXB,List.length_nil];omega)
  simp only [Y4,q1,D2,a1,ei,b1,List.length_singleton,Bool.true_and,beq_self_eq_true,Bool.and_true]
  exact decide_eq_true (by simp only [MAXB];omega)
 ·simp only [A1j,List.nil_append,a2,es,b2,List.length_singleton,List.length_nil,List.length_append,beq_self_eq_true,Bool.and_true,Bool.and_eq_true,decide_eq_true_eq,MAXB]
  exact ⟨decide_eq_true (by omega),decide_eq_true (by omega)⟩
 ·simp only [F9,es,b4];omega
 ·simp only [F9,es,b4];omega
 ·simp only [F9,es,b4];omega
 ·simp only [F9,es];exact b5
noncomputable def A24 (p:List Int) (n:Nat):List Int:=(List.range n).foldl (fun h i=>A06 h ((p.drop (64*i)).take 64) A5N) hinit
noncomputable def Wd (x:Int):Prop:=0≤x∧x<4294967296
noncomputable def AllW (l:List Int):Prop:=∀ x∈l,Wd x
theorem B9z:AllW hinit:=by
 intro x hx
 have:hinit.all (fun x=>decide (0≤x∧x<4294967296))=true:=by decide
 exact of_decide_eq_true (p:=0≤x∧x<4294967296) (List.all_eq_true.1 this x hx)
theorem w32 (n:Int):IntKind.wrap .u32 n=n % 4294967296:=by simp [IntKind.wrap,IntKind.bits,IntKind.signed]
theorem B7L {n:Nat} (h:n<4294967296):IntKind.wrap .u32 (n:Int)=(n:Int):=by rw [w32];omega
theorem B6I {n:Nat} (h:n<9223372036854775808):IntKind.wrap .i64 (n:Int)=(n:Int):=wrap64 (by omega) (by omega)
theorem B6o {n:Nat} (h:n<4294967296):Wd (n:Int):=⟨by omega,by omega⟩
theorem B7U {x:Int} (h:0≤x∧x<256) (k:Nat) (hk:k≤24):IntKind.wrap .u32 (IntKind.wrap .u32 x*2 ^ k)=IntKind.wrap .i64 (IntKind.wrap .i64 x*2 ^ k)∧Wd (IntKind.wrap .u32 (IntKind.wrap .u32 x*2 ^ k)):=by
 obtain ⟨a,rfl⟩:∃ a:Nat,x=(a:Int):=⟨x.toNat,by omega⟩
 have hp:2 ^ k≤2 ^ 24:=Nat.pow_le_pow_right (by decide) hk
 have h1:a*2 ^ k<4294967296:=by
  calc a*2 ^ k≤a*2 ^ 24:=Nat.mul_le_mul_left _ hp
   _<4294967296:=by omega
 have e1:(a:Int)*2 ^ k=((a*2 ^ k:Nat):Int):=by push_cast;rfl
 rw [B7L (n:=a) (by omega),B6I (n:=a) (by omega),e1,B7L h1,B6I (by omega)]
 exact ⟨rfl,B6o h1⟩
theorem C0I {x:Int} (h:0≤x∧x<256):IntKind.wrap .u32 x=IntKind.wrap .i64 x∧Wd (IntKind.wrap .u32 x):=by
 obtain ⟨a,rfl⟩:∃ a:Nat,x=(a:Int):=⟨x.toNat,by omega⟩
 rw [B7L (n:=a) (by omega),B6I (n:=a) (by omega)]
 exact ⟨rfl,B6o (by omega)⟩
theorem bvn {k x:Nat} (h:x<2 ^ k):(BitVec.ofInt k (x:Int)).toNat=x:=by
 rw [BitVec.ofInt_natCast,BitVec.toNat_ofNat,Nat.mod_eq_of_lt h]
theorem C1f {x y:Nat} (hx:x<4294967296) (hy:y<4294967296):ior .u32 (x:Int) (y:Int)=((x ||| y:Nat):Int):=by
 unfold ior
 rw [BitVec.toNat_or,show IntKind.bits .u32=32 from rfl,bvn (k:=32) hx,bvn (k:=32) hy]
 exact B7L (Nat.or_lt_two_pow (n:=32) hx hy)
theorem C1g {x y:Nat} (hx:x<9223372036854775808) (hy:y<9223372036854775808):ior .i64 (x:Int) (y:Int)=((x ||| y:Nat):Int):=by
 unfold ior
 rw [BitVec.toNat_or,show IntKind.bits .i64=64 from rfl,bvn (k:=64) (by omega),bvn (k:=64) (by omega)]
 exact B6I (Nat.or_lt_two_pow (n:=63) hx hy)
theorem Wd.nat {x:Int} (h:Wd x):∃ n:Nat,x=(n:Int)∧n<4294967296:=⟨x.toNat,by have:=h.1;omega,by have:=h.1;have:=h.2;omega⟩
theorem orS {x y:Int} (hx:Wd x) (hy:Wd y):ior .u32 x y=ior .i64 x y∧Wd (ior .u32 x y):=by
 obtain ⟨a,rfl,ha⟩:=hx.nat
 obtain ⟨b,rfl,hb⟩:=hy.nat
 rw [C1f ha hb,C1g (by omega) (by omega)]
 exact ⟨rfl,B6o (Nat.or_lt_two_pow (n:=32) ha hb)⟩
theorem B9c {a b c d:Int} (ha:0≤a∧a<256) (hb:0≤b∧b<256) (hc:0≤c∧c<256) (hd:0≤d∧d<256) :
  ior .u32 (ior .u32 (ior .u32 (IntKind.wrap .u32 (IntKind.wrap .u32 a*2 ^ (24))) (IntKind.wrap .u32 (IntKind.wrap .u32 b*2 ^ (16)))) (IntKind.wrap .u32 (IntKind.wrap .u32 c*2 ^ (8)))) (IntKind.wrap .u32 d) =
  ior .i64 (ior .i64 (ior .i64 (IntKind.wrap .i64 (IntKind.wrap .i64 a*2 ^ (24))) (IntKind.wrap .i64 (IntKind.wrap .i64 b*2 ^ (16)))) (IntKind.wrap .i64 (IntKind.wrap .i64 c*2 ^ (8)))) (IntKind.wrap .i64 d) ∧
  Wd (ior .u32 (ior .u32 (ior .u32 (IntKind.wrap .u32 (IntKind.wrap .u32 a*2 ^ (24))) (IntKind.wrap .u32 (IntKind.wrap .u32 b*2 ^ (16)))) (IntKind.wrap .u32 (IntKind.wrap .u32 c*2 ^ (8)))) (IntKind.wrap .u32 d)):=by
 obtain ⟨a1,a2⟩:=B7U ha 24 (by decide)
 obtain ⟨b1,b2⟩:=B7U hb 16 (by decide)
 obtain ⟨c1,c2⟩:=B7U hc 8 (by decide)
 obtain ⟨d1,d2⟩:=C0I hd
 rw [← a1,← b1,← c1,← d1]
 obtain ⟨e1,e2⟩:=orS a2 b2
 rw [← e1]
 obtain ⟨f1,f2⟩:=orS e2 c2
 rw [← f1]
 obtain ⟨g1,g2⟩:=orS f2 d2
 exact ⟨g1,g2⟩
theorem B5C {l:List Int} {k:Nat} (x:Int) (hk:0<k):(l++List.replicate k 0).set l.length x=(l++[x])++List.replicate (k - 1) 0:=by
 obtain ⟨j,rfl⟩:∃ j,k=j+1:=⟨k - 1,by omega⟩
 rw [List.set_append_right _ _ (Nat.le_refl _),Nat.sub_self,List.replicate_succ]
 simp
theorem AllB.at {l:List Int} (h:AllB l) {i:Nat} (hi:i<l.length):0≤l.getD i 0∧l.getD i 0<256:=by
 rw [List.getD_eq_getElem?_getD,List.getElem?_eq_getElem hi];exact h _ (List.getElem_mem hi)
theorem AllW.at {l:List Int} (h:AllW l) (i:Nat):Wd (l.getD i 0):=by
 rcases Nat.lt_or_ge i l.length with hi | hi
 ·rw [List.getD_eq_getElem?_getD,List.getElem?_eq_getElem hi];exact h _ (List.getElem_mem hi)
 ·rw [List.getD_eq_getElem?_getD,List.getElem?_eq_none hi];exact ⟨by decide,by decide⟩
theorem AllW.snoc {l:List Int} (h:AllW l) {x:Int} (hx:Wd x):AllW (l++[x]):=fun y hy=>by
 rcases List.mem_append.1 hy with hy | hy
 ·exact h y hy
 ·rw [List.mem_singleton.1 hy];exact hx
theorem B5L (c:List Int) (hc:c.length=64) (hb:AllB c):(K2 c 0 []).1=0∧(O7 c 0 (List.replicate 64 0)).2=(K2 c 0 []).2++List.replicate 48 0∧(K2 c 0 []).2.length=16∧AllW (K2 c 0 []).2:=by
 refine itX_sim (v:=(c,(0:Int),List.replicate 64 (0:Int))) (w:=(c,(0:Int),([]:List Int)))
  (fun (v:R8) (w:A0Q)=>v.1=c∧w.1=c∧v.2.1=w.2.1∧(0≤v.2.1∧v.2.1≤16)∧v.2.1=(w.2.2.length:Int)∧v.2.2=w.2.2++List.replicate (64 - w.2.2.length) 0∧AllW w.2.2)
  (fun (a:R4) (b:X7)=>b.1=0∧a.2=b.2++List.replicate 48 0∧b.2.length=16∧AllW b.2) (fun v=>(16 - v.2.1).toNat) ?_ ⟨rfl,rfl,rfl,⟨by simp only;omega,by simp only;omega⟩,rfl,rfl,fun x hx=>by simp at hx⟩ (by simp only;decide)
 rintro ⟨c1,i,l⟩ ⟨c2,j,ws⟩ ⟨h1,h2,h3,h4,h5,h6,h7⟩
 simp only at h1 h2 h3 h4 h5 h6 h7
 subst h1;subst h2;subst h3
 by_cases hi:i<16
 ·obtain ⟨n,rfl⟩:∃ n:Nat,i=(n:Int):=⟨ws.length,h5⟩
  have hn:n=ws.length:=by omega
  obtain ⟨e,ew⟩:=B9c (hb.at (i:=4*n) (by omega)) (hb.at (i:=4*n+1) (by omega)) (hb.at (i:=4*n+2) (by omega)) (hb.at (i:=4*n+3) (by omega))
  refine .inl ⟨(c2,(n:Int)+1,(ws++[_])++List.replicate (64 - ws.length - 1) 0),(c2,(n:Int)+1,ws++[_]),?_,?_,⟨rfl,rfl,rfl,by simp only;omega,by simp only [List.length_append,List.length_singleton];omega,by simp only [List.length_append,List.length_singleton];rw [Nat.sub_sub],h7.snoc ew⟩,by simp only;omega⟩
  ·simp only [P3,Q3 (4*(n:Int)) (by omega) (by omega),Q3 (4*(n:Int)+1) (by omega) (by omega),Q3 (4*(n:Int)+2) (by omega) (by omega),Q3 (4*(n:Int)+3) (by omega) (by omega),Q3 ((n:Int)+1) (by omega) (by omega),decide_eq_true hi,cond_true]
   rw [decide_eq_true (by omega),decide_eq_true (by omega),decide_eq_true (by omega),decide_eq_true (by omega),decide_eq_true (by rw [h6];simp only [List.length_append,List.length_replicate];omega)]
   simp only [cond_true]
   rw [h6,show ((n:Int)).toNat=ws.length by omega,B5C _ (by omega)]
   rw [show (4*(n:Int)).toNat=4*n by omega,show (4*(n:Int)+1).toNat=4*n+1 by omega,show (4*(n:Int)+2).toNat=4*n+2 by omega,show (4*(n:Int)+3).toNat=4*n+3 by omega]
  ·simp only [A1C,Q3 (4*(n:Int)) (by omega) (by omega),Q3 (4*(n:Int)+1) (by omega) (by omega),Q3 (4*(n:Int)+2) (by omega) (by omega),Q3 (4*(n:Int)+3) (by omega) (by omega),Q3 ((n:Int)+1) (by omega) (by omega),decide_eq_true hi,cond_true,List.length_singleton]
   rw [decide_eq_true (by omega),decide_eq_true (by omega),decide_eq_true (by omega),decide_eq_true (by omega),decide_eq_true (by simp only [MAXB];omega)]
   simp only [cond_true]
   rw [show (4*(n:Int)).toNat=4*n by omega,show (4*(n:Int)+1).toNat=4*n+1 by omega,show (4*(n:Int)+2).toNat=4*n+2 by omega,show (4*(n:Int)+3).toNat=4*n+3 by omega]
   rw [← e]
 ·have hl:ws.length=16:=by omega
  refine .inr ⟨(0,l),(0,ws),?_,?_,rfl,?_,hl,h7⟩
  ·simp only [P3,decide_eq_false hi,cond_false]
  ·simp only [A1C,decide_eq_false hi,cond_false]
  ·rw [h6,hl]
theorem B9d {x y:Nat} (hx:x<9223372036854775808) (hy:y<9223372036854775808):iand .i64 (x:Int) (y:Int)=((x &&& y:Nat):Int):=by
 unfold iand
 rw [BitVec.toNat_and,show IntKind.bits .i64=64 from rfl,bvn (k:=64) (by omega),bvn (k:=64) (by omega)]
 exact B6I (Nat.and_lt_two_pow (n:=63) x hy)
theorem A83 {n:Int} (h0:0≤n) (h1:n<9223372036854775808):iand .i64 n (4294967295:Int)=n % 4294967296:=by
 obtain ⟨a,rfl⟩:∃ a:Nat,n=(a:Int):=⟨n.toNat,by omega⟩
 have:=B9d (x:=a) (y:=4294967295) (by omega) (by omega)
 rw [show ((4294967295:Nat):Int)=(4294967295:Int) from rfl] at this
 rw [this,show a &&& 4294967295=a % 4294967296 from Nat.and_two_pow_sub_one_eq_mod a 32]
 omega
theorem B87 {x:Int} (hx:Wd x) (r s:Nat) (hs:s<32) :
  ior .u32 (IntKind.wrap .u32 (x*2 ^ s)) (Int.fdiv x (2 ^ r))=iand .i64 (ior .i64 (Int.fdiv x (2 ^ r)) (IntKind.wrap .i64 (x*2 ^ s))) (4294967295:Int)∧Wd (ior .u32 (IntKind.wrap .u32 (x*2 ^ s)) (Int.fdiv x (2 ^ r))):=by
 obtain ⟨a,rfl,ha⟩:=hx.nat
 have e1:(a:Int)*2 ^ s=((a*2 ^ s:Nat):Int):=by push_cast;rfl
 have e2:Int.fdiv (a:Int) (2 ^ r)=((a / 2 ^ r:Nat):Int):=by
  have:((2:Int) ^ r)=((2 ^ r:Nat):Int):=by push_cast;rfl
  rw [this];exact (Int.ofNat_fdiv a (2 ^ r)).symm
 have hp:2 ^ s≤2 ^ 31:=Nat.pow_le_pow_right (by decide) (by omega)
 have h1:a*2 ^ s<9223372036854775808:=by
  calc a*2 ^ s≤a*2 ^ 31:=Nat.mul_le_mul_left _ hp
   _<9223372036854775808:=by omega
 have h2:a / 2 ^ r<4294967296:=Nat.lt_of_le_of_lt (Nat.div_le_self _ _) ha
 have h3:(a*2 ^ s) % 4294967296<4294967296:=Nat.mod_lt _ (by decide)
 have e3:((a*2 ^ s:Nat):Int) % 4294967296=(((a*2 ^ s) % 4294967296:Nat):Int):=by omega
 rw [e1,e2,w32,e3,C1f h3 h2,B6I h1,C1g (by omega) h1]
 refine ⟨?_,B6o (Nat.or_lt_two_pow (n:=32) h3 h2)⟩
 have h4:(a / 2 ^ r ||| a*2 ^ s)<9223372036854775808:=Nat.or_lt_two_pow (n:=63) (by omega) h1
 rw [A83 (by omega) (by omega)]
 have h5:(a / 2 ^ r ||| a*2 ^ s) % 4294967296=(a*2 ^ s) % 4294967296 ||| a / 2 ^ r:=by
  rw [show (4294967296:Nat)=2 ^ 32 from rfl,Nat.or_mod_two_pow,Nat.mod_eq_of_lt (a:=a / 2 ^ r) (b:=2 ^ 32) h2,Nat.or_comm]
 rw [← h5];omega
theorem A30 {x:Int} (hx:Wd x) (r:Nat) (s:Nat) (hs:s<32) (k:Int) (h1:min (Int.toNat (iand .u64 (IntKind.wrap .u64 k) (31:Int))) (IntKind.bits .u32)=s) (h2:min (Int.toNat (IntKind.wrap .u64 ((32:Int) - (iand .u64 (IntKind.wrap .u64 k) (31:Int))))) (IntKind.bits .u32)=r)
  (h3:min (Int.toNat (IntKind.wrap .u64 (r:Int))) (IntKind.bits .i64)=r) (h4:min (Int.toNat (IntKind.wrap .u64 (IntKind.wrap .i64 ((32:Int) - (r:Int))))) (IntKind.bits .i64)=s) :
  A3 x k=B2 x (r:Int)∧Wd (A3 x k):=by
 simp only [A3,B2,h1,h2,h3,h4]
 exact B87 hx r s hs
theorem C1T {x:Int} (hx:Wd x):A3 x (-7)=B2 x 7∧Wd (A3 x (-7)):=A30 hx 7 25 (by decide) (-7) (by decide) (by decide) (by decide) (by decide)
theorem C1m {x:Int} (hx:Wd x):A3 x (-18)=B2 x 18∧Wd (A3 x (-18)):=A30 hx 18 14 (by decide) (-18) (by decide) (by decide) (by decide) (by decide)
theorem C1l {x:Int} (hx:Wd x):A3 x (-17)=B2 x 17∧Wd (A3 x (-17)):=A30 hx 17 15 (by decide) (-17) (by decide) (by decide) (by decide) (by decide)
theorem C1n {x:Int} (hx:Wd x):A3 x (-19)=B2 x 19∧Wd (A3 x (-19)):=A30 hx 19 13 (by decide) (-19) (by decide) (by decide) (by decide) (by decide)
theorem C1u {x y:Nat} (hx:x<4294967296) (hy:y<4294967296):ixor .u32 (x:Int) (y:Int)=((x ^^^ y:Nat):Int):=by
 unfold ixor
 rw [BitVec.toNat_xor,show IntKind.bits .u32=32 from rfl,bvn (k:=32) hx,bvn (k:=32) hy]
 exact B7L (Nat.xor_lt_two_pow (n:=32) hx hy)
theorem C1v {x y:Nat} (hx:x<9223372036854775808) (hy:y<9223372036854775808):ixor .i64 (x:Int) (y:Int)=((x ^^^ y:Nat):Int):=by
 unfold ixor
 rw [BitVec.toNat_xor,show IntKind.bits .i64=64 from rfl,bvn (k:=64) (by omega),bvn (k:=64) (by omega)]
 exact B6I (Nat.xor_lt_two_pow (n:=63) hx hy)
theorem B1a {x y:Int} (hx:Wd x) (hy:Wd y):ixor .u32 x y=ixor .i64 x y∧Wd (ixor .u32 x y):=by
 obtain ⟨a,rfl,ha⟩:=hx.nat
 obtain ⟨b,rfl,hb⟩:=hy.nat
 rw [C1u ha hb,C1v (by omega) (by omega)]
 exact ⟨rfl,B6o (Nat.xor_lt_two_pow (n:=32) ha hb)⟩
theorem C1q {x:Int} (hx:Wd x) (k:Nat):Wd (Int.fdiv x (2 ^ k)):=by
 obtain ⟨a,rfl,ha⟩:=hx.nat
 have:((2:Int) ^ k)=((2 ^ k:Nat):Int):=by push_cast;rfl
 rw [this,← Int.ofNat_fdiv a (2 ^ k)]
 exact B6o (Nat.lt_of_le_of_lt (Nat.div_le_self _ _) ha)
theorem C1W {a b c d:Int} (ha:Wd a) (hb:Wd b) (hc:Wd c) (hd:Wd d):IntKind.wrap .u32 (IntKind.wrap .u32 (IntKind.wrap .u32 (a+b)+c)+d)=iand .i64 (IntKind.wrap .i64 (IntKind.wrap .i64 (IntKind.wrap .i64 (a+b)+c)+d)) (4294967295:Int):=by
 obtain ⟨a0,a1⟩:=ha
 obtain ⟨b0,b1⟩:=hb
 obtain ⟨c0,c1⟩:=hc
 obtain ⟨d0,d1⟩:=hd
 rw [wrap64 (n:=a+b) (by omega) (by omega),wrap64 (n:=a+b+c) (by omega) (by omega),wrap64 (n:=a+b+c+d) (by omega) (by omega),A83 (by omega) (by omega),w32,w32,w32]
 omega
theorem B9b (n:Int):Wd (IntKind.wrap .u32 n):=by rw [w32];exact ⟨Int.emod_nonneg _ (by decide),Int.emod_lt_of_pos _ (by decide)⟩
theorem A66 {l m:List Int} {i:Nat} (h:i<l.length):(l++m).getD i 0=l.getD i 0:=by
 rw [List.getD_eq_getElem?_getD,List.getElem?_append_left h,List.getD_eq_getElem?_getD]
theorem qturn (x k:Int):A9 x k=true:=by
 simp only [A9,Bool.and_eq_true,decide_eq_true_eq]
 exact ⟨A2E _,A2E _⟩
theorem B5M (ws:List Int) (hl:ws.length=16) (hw:AllW ws):(K3 16 ws).1=0∧(O8 16 (ws++List.replicate 48 0)).2=(K3 16 ws).2∧(K3 16 ws).2.length=64∧AllW (K3 16 ws).2:=by
 refine itX_sim (v:=((16:Int),ws++List.replicate 48 (0:Int))) (w:=((16:Int),ws))
  (fun (v:R9) (w:A0R)=>v.1=w.1∧(16≤v.1∧v.1≤64)∧v.1=(w.2.length:Int)∧v.2=w.2++List.replicate (64 - w.2.length) 0∧AllW w.2)
  (fun (a:R5) (b:X8)=>b.1=0∧a.2=b.2∧b.2.length=64∧AllW b.2) (fun v=>(64 - v.1).toNat) ?_ ⟨rfl,⟨by simp only;omega,by simp only;omega⟩,by simp only;omega,by simp only [hl],hw⟩ (by simp only;decide)
 rintro ⟨i,l⟩ ⟨j,ws⟩ ⟨h3,h4,h5,h6,h7⟩
 simp only at h3 h4 h5 h6 h7
 subst h3
 by_cases hi:i<64
 ·obtain ⟨n,rfl⟩:∃ n:Nat,i=(n:Int):=⟨ws.length,h5⟩
  have hn:n=ws.length:=by omega
  have x1:=h7.at (n - 15)
  have x2:=h7.at (n - 2)
  have x3:=h7.at (n - 16)
  have x4:=h7.at (n - 7)
  obtain ⟨r1,r1w⟩:=C1T x1
  obtain ⟨r2,r2w⟩:=C1m x1
  obtain ⟨r3,r3w⟩:=C1l x2
  obtain ⟨r4,r4w⟩:=C1n x2
  obtain ⟨s1,s1w⟩:=B1a r1w r2w
  obtain ⟨s2,s2w⟩:=B1a s1w (C1q x1 3)
  obtain ⟨t1,t1w⟩:=B1a r3w r4w
  obtain ⟨t2,t2w⟩:=B1a t1w (C1q x2 10)
  have e:=C1W x3 s2w x4 t2w
  have ew:=B9b (IntKind.wrap .u32 (IntKind.wrap .u32 (ws.getD (n - 16) 0+ixor .u32 (ixor .u32 (A3 (ws.getD (n - 15) 0) (-7)) (A3 (ws.getD (n - 15) 0) (-18))) (Int.fdiv (ws.getD (n - 15) 0) (2 ^ 3)))+ws.getD (n - 7) 0)+ixor .u32 (ixor .u32 (A3 (ws.getD (n - 2) 0) (-17)) (A3 (ws.getD (n - 2) 0) (-19))) (Int.fdiv (ws.getD (n - 2) 0) (2 ^ 10)))
  refine .inl ⟨((n:Int)+1,(ws++[_])++List.replicate (64 - ws.length - 1) 0),((n:Int)+1,ws++[_]),?_,?_,⟨rfl,by simp only;omega,by simp only [List.length_append,List.length_singleton];omega,by simp only [List.length_append,List.length_singleton];rw [Nat.sub_sub],h7.snoc ew⟩,by simp only;omega⟩
  ·simp only [P4,Q3 ((n:Int) - 15) (by omega) (by omega),Q3 ((n:Int) - 2) (by omega) (by omega),Q3 ((n:Int) - 16) (by omega) (by omega),Q3 ((n:Int) - 7) (by omega) (by omega),Q3 ((n:Int)+1) (by omega) (by omega),decide_eq_true hi,cond_true,A3z,A3A,A3B,A3C]
   have hll:l.length=64:=by rw [h6];simp only [List.length_append,List.length_replicate];omega
   rw [decide_eq_true (by omega),decide_eq_true (by omega),decide_eq_true (by omega),decide_eq_true (by omega),decide_eq_true (by omega)]
   simp only [cond_true]
   rw [h6,show ((n:Int)).toNat=ws.length by omega,B5C _ (by omega)]
   rw [show ((n:Int) - 15).toNat=n - 15 by omega,show ((n:Int) - 2).toNat=n - 2 by omega,show ((n:Int) - 16).toNat=n - 16 by omega,show ((n:Int) - 7).toNat=n - 7 by omega]
   rw [A66 (i:=n - 15) (by omega),A66 (i:=n - 2) (by omega),A66 (i:=n - 16) (by omega),A66 (i:=n - 7) (by omega)]
  ·simp only [A1D,Q3 ((n:Int) - 15) (by omega) (by omega),Q3 ((n:Int) - 2) (by omega) (by omega),Q3 ((n:Int) - 16) (by omega) (by omega),Q3 ((n:Int) - 7) (by omega) (by omega),Q3 ((n:Int)+1) (by omega) (by omega),decide_eq_true hi,cond_true,qturn,List.length_singleton]
   rw [decide_eq_true (by omega),decide_eq_true (by omega),decide_eq_true (by omega),decide_eq_true (by omega),decide_eq_true (by simp only [MAXB];omega)]
   simp only [cond_true]
   rw [show ((n:Int) - 15).toNat=n - 15 by omega,show ((n:Int) - 2).toNat=n - 2 by omega,show ((n:Int) - 16).toNat=n - 16 by omega,show ((n:Int) - 7).toNat=n - 7 by omega]
   rw [e,s2,s1,t2,t1,r1,r2,r3,r4]
 ·have hl:ws.length=64:=by omega
  refine .inr ⟨(0,l),(0,ws),?_,?_,rfl,?_,hl,h7⟩
  ·simp only [P4,decide_eq_false hi,cond_false]
  ·simp only [A1D,decide_eq_false hi,cond_false]
  ·simp only [h6,hl,Nat.sub_self,List.replicate_zero,List.append_nil]
theorem B2X (c:List Int) (hc:c.length=64) (hb:AllB c):A28 c=F5 c∧A0n c=true∧(F5 c).length=64∧AllW (F5 c):=by
 obtain ⟨a1,a2,a3,a4⟩:=B5L c hc hb
 obtain ⟨b1,b2,b3,b4⟩:=B5M _ a3 a4
 refine ⟨?_,?_,b3,b4⟩
 ·simp only [A28,a2,b2];rfl
 ·simp only [A0n,a1,b1];rfl
theorem eight {v:List Int} (h:v.length=8):∃ a b c d e f g i,v=[a,b,c,d,e,f,g,i]:=by
 match v,h with
 | [a,b,c,d,e,f,g,i],_=>exact ⟨a,b,c,d,e,f,g,i,rfl⟩
theorem C1S {x:Int} (hx:Wd x):A3 x (-6)=B2 x 6∧Wd (A3 x (-6)):=A30 hx 6 26 (by decide) (-6) (by decide) (by decide) (by decide) (by decide)
theorem C1j {x:Int} (hx:Wd x):A3 x (-11)=B2 x 11∧Wd (A3 x (-11)):=A30 hx 11 21 (by decide) (-11) (by decide) (by decide) (by decide) (by decide)
theorem C1p {x:Int} (hx:Wd x):A3 x (-25)=B2 x 25∧Wd (A3 x (-25)):=A30 hx 25 7 (by decide) (-25) (by decide) (by decide) (by decide) (by decide)
theorem C0G {x y:Nat} (hx:x<4294967296) (hy:y<4294967296):iand .u32 (x:Int) (y:Int)=((x &&& y:Nat):Int):=by
 unfold iand
 rw [BitVec.toNat_and,show IntKind.bits .u32=32 from rfl,bvn (k:=32) hx,bvn (k:=32) hy]
 exact B7L (Nat.and_lt_two_pow (n:=32) x hy)
theorem B7T {x y:Int} (hx:Wd x) (hy:Wd y):iand .u32 x y=iand .i64 x y∧Wd (iand .u32 x y):=by
 obtain ⟨a,rfl,ha⟩:=hx.nat
 obtain ⟨b,rfl,hb⟩:=hy.nat
 rw [C0G ha hb,B9d (by omega) (by omega)]
 exact ⟨rfl,B6o (Nat.and_lt_two_pow (n:=32) a hb)⟩
theorem C1R {x:Int} (hx:Wd x):A3 x (-2)=B2 x 2∧Wd (A3 x (-2)):=A30 hx 2 30 (by decide) (-2) (by decide) (by decide) (by decide) (by decide)
theorem C1k {x:Int} (hx:Wd x):A3 x (-13)=B2 x 13∧Wd (A3 x (-13)):=A30 hx 13 19 (by decide) (-13) (by decide) (by decide) (by decide) (by decide)
theorem C1o {x:Int} (hx:Wd x):A3 x (-22)=B2 x 22∧Wd (A3 x (-22)):=A30 hx 22 10 (by decide) (-22) (by decide) (by decide) (by decide) (by decide)
noncomputable def T32 (a b c d e:Int):Int:=IntKind.wrap .u32 (IntKind.wrap .u32 (IntKind.wrap .u32 (IntKind.wrap .u32 (a+b)+c)+d)+e)
noncomputable def T64 (a b c d e:Int):Int:=IntKind.wrap .i64 (IntKind.wrap .i64 (IntKind.wrap .i64 (IntKind.wrap .i64 (a+b)+c)+d)+e)
theorem C0E {a b c d e:Int} (ha:Wd a) (hb:Wd b) (hc:Wd c) (hd:Wd d) (he:Wd e):T64 a b c d e=a+b+c+d+e∧T32 a b c d e=(a+b+c+d+e) % 4294967296:=by
 obtain ⟨a0,a1⟩:=ha
 obtain ⟨b0,b1⟩:=hb
 obtain ⟨c0,c1⟩:=hc
 obtain ⟨d0,d1⟩:=hd
 obtain ⟨e0,e1⟩:=he
 simp only [T64,T32]
 rw [wrap64 (n:=a+b) (by omega) (by omega),wrap64 (n:=a+b+c) (by omega) (by omega),wrap64 (n:=a+b+c+d) (by omega) (by omega),wrap64 (n:=a+b+c+d+e) (by omega) (by omega),w32,w32,w32,w32]
 exact ⟨rfl,by omega⟩
theorem C1X {a b c d e s m:Int} (ha:Wd a) (hb:Wd b) (hc:Wd c) (hd:Wd d) (he:Wd e) (hs:Wd s) (hm:Wd m):IntKind.wrap .u32 (IntKind.wrap .u32 (T32 a b c d e+s)+m)=iand .i64 (IntKind.wrap .i64 (T64 a b c d e+IntKind.wrap .i64 (s+m))) (4294967295:Int):=by
 obtain ⟨t1,t2⟩:=C0E ha hb hc hd he
 rw [t1,t2]
 obtain ⟨a0,a1⟩:=ha
 obtain ⟨b0,b1⟩:=hb
 obtain ⟨c0,c1⟩:=hc
 obtain ⟨d0,d1⟩:=hd
 obtain ⟨e0,e1⟩:=he
 obtain ⟨s0,s1⟩:=hs
 obtain ⟨m0,m1⟩:=hm
 rw [wrap64 (n:=s+m) (by omega) (by omega),wrap64 (by omega) (by omega),A83 (by omega) (by omega),w32,w32]
 omega
theorem C1Y {a b c d e v:Int} (ha:Wd a) (hb:Wd b) (hc:Wd c) (hd:Wd d) (he:Wd e) (hv:Wd v):IntKind.wrap .u32 (v+T32 a b c d e)=iand .i64 (IntKind.wrap .i64 (v+T64 a b c d e)) (4294967295:Int):=by
 obtain ⟨t1,t2⟩:=C0E ha hb hc hd he
 rw [t1,t2]
 obtain ⟨a0,a1⟩:=ha
 obtain ⟨b0,b1⟩:=hb
 obtain ⟨c0,c1⟩:=hc
 obtain ⟨d0,d1⟩:=hd
 obtain ⟨e0,e1⟩:=he
 obtain ⟨v0,v1⟩:=hv
 rw [wrap64 (by omega) (by omega),A83 (by omega) (by omega),w32]
 omega
theorem B6n (h k ws v:List Int) (hk:k.length=64) (hkW:AllW k) (hw:ws.length=64) (hwW:AllW ws) (hv:v.length=8) (hvW:AllW v):(C7 h k ws 0 v).1=0∧(C7 h k ws 0 v).2.1=h∧(B5 0 h k ws v).2.2.2=(C7 h k ws 0 v).2.2∧(C7 h k ws 0 v).2.2.length=8∧AllW (C7 h k ws 0 v).2.2:=by
 refine itX_sim (v:=((0:Int),h,k,ws,v)) (w:=(h,k,ws,(0:Int),v))
  (fun (x:L2) (y:A0O)=>x.1=y.2.2.2.1∧(0≤x.1∧x.1≤64)∧x.2.1=h∧x.2.2.1=k∧x.2.2.2.1=ws∧y.1=h∧y.2.1=k∧y.2.2.1=ws∧x.2.2.2.2=y.2.2.2.2∧x.2.2.2.2.length=8∧AllW x.2.2.2.2)
  (fun (a:K9) (b:X5)=>b.1=0∧b.2.1=h∧a.2.2.2=b.2.2∧b.2.2.length=8∧AllW b.2.2) (fun x=>(64 - x.1).toNat) ?_ ⟨rfl,⟨by simp only;omega,by simp only;omega⟩,rfl,rfl,rfl,rfl,rfl,rfl,rfl,hv,hvW⟩ (by simp only;decide)
 rintro ⟨i,h1,k1,w1,v1⟩ ⟨h2,k2,w2,j,v2⟩ ⟨e1,e2,e3,e4,e5,e6,e7,e8,e9,e10,e11⟩
 simp only at e1 e2 e3 e4 e5 e6 e7 e8 e9 e10 e11
 subst e1;subst e3;subst e4;subst e5;subst e6;subst e7;subst e8;subst e9
 by_cases hi:i<64
 ·obtain ⟨v0,va,vb,vc,v4,v5,v6,v7,rfl⟩:=eight e10
  have W0:Wd v0:=e11 _ (by simp)
  have Wa:Wd va:=e11 _ (by simp)
  have Wb:Wd vb:=e11 _ (by simp)
  have Wc:Wd vc:=e11 _ (by simp)
  have W4:Wd v4:=e11 _ (by simp)
  have W5:Wd v5:=e11 _ (by simp)
  have W6:Wd v6:=e11 _ (by simp)
  have W7:Wd v7:=e11 _ (by simp)
  have Wk:=hkW.at i.toNat
  have Ww:=hwW.at i.toNat
  obtain ⟨r1,r1w⟩:=C1S W4
  obtain ⟨r2,r2w⟩:=C1j W4
  obtain ⟨r3,r3w⟩:=C1p W4
  obtain ⟨s1,s1w⟩:=B1a r1w r2w
  obtain ⟨s2,s2w⟩:=B1a s1w r3w
  obtain ⟨c1,c1w⟩:=B7T W4 W5
  obtain ⟨c2,c2w⟩:=B1a (show Wd 4294967295 from ⟨by decide,by decide⟩) W4
  obtain ⟨c3,c3w⟩:=B7T c2w W6
  obtain ⟨c4,c4w⟩:=B1a c1w c3w
  obtain ⟨q1,q1w⟩:=C1R W0
  obtain ⟨q2,q2w⟩:=C1k W0
  obtain ⟨q3,q3w⟩:=C1o W0
  obtain ⟨p1,p1w⟩:=B1a q1w q2w
  obtain ⟨p2,p2w⟩:=B1a p1w q3w
  obtain ⟨m1,m1w⟩:=B7T W0 Wa
  obtain ⟨m2,m2w⟩:=B7T W0 Wb
  obtain ⟨m3,m3w⟩:=B7T Wa Wb
  obtain ⟨m4,m4w⟩:=B1a m1w m2w
  obtain ⟨m5,m5w⟩:=B1a m4w m3w
  have eA:=C1X W7 s2w c4w Wk Ww p2w m5w
  have eE:=C1Y W7 s2w c4w Wk Ww Wc
  have wA:=B9b (IntKind.wrap .u32 (T32 v7 (ixor .u32 (ixor .u32 (A3 v4 (-6)) (A3 v4 (-11))) (A3 v4 (-25))) (ixor .u32 (iand .u32 v4 v5) (iand .u32 (ixor .u32 4294967295 v4) v6)) (k2.getD i.toNat 0) (w2.getD i.toNat 0)+ixor .u32 (ixor .u32 (A3 v0 (-2)) (A3 v0 (-13))) (A3 v0 (-22)))+ixor .u32 (ixor .u32 (iand .u32 v0 va) (iand .u32 v0 vb)) (iand .u32 va vb))
  have wE:=B9b (vc+T32 v7 (ixor .u32 (ixor .u32 (A3 v4 (-6)) (A3 v4 (-11))) (A3 v4 (-25))) (ixor .u32 (iand .u32 v4 v5) (iand .u32 (ixor .u32 4294967295 v4) v6)) (k2.getD i.toNat 0) (w2.getD i.toNat 0))
  obtain ⟨nA,hnA,wA⟩:∃ n,n=_∧Wd n:=⟨_,rfl,wA⟩
  obtain ⟨nE,hnE,wE⟩:∃ n,n=_∧Wd n:=⟨_,rfl,wE⟩
  refine .inl ⟨(i+1,h2,k2,w2,[nA,v0,va,vb,nE,v4,v5,v6]),(h2,k2,w2,i+1,[nA,v0,va,vb,nE,v4,v5,v6]),?_,?_,⟨rfl,by simp only;omega,rfl,rfl,rfl,rfl,rfl,rfl,rfl,rfl,?_⟩,by simp only;omega⟩
  rotate_left 2
  ·intro x hx
   simp only [List.mem_cons,List.not_mem_nil,or_false] at hx
   rcases hx with rfl | rfl | rfl | rfl | rfl | rfl | rfl | rfl
   ·exact wA
   ·exact W0
   ·exact Wa
   ·exact Wb
   ·exact wE
   ·exact W4
   ·exact W5
   ·exact W6
  ·simp only [I9,Q3 (i+1) (by omega) (by omega),decide_eq_true hi,cond_true,hk,hw]
   rw [show decide (0≤i∧i<((64:Nat):Int)∧i<((64:Nat):Int))=true from decide_eq_true (by omega)]
   rw [hnA,hnE]
   rfl
  ·simp only [A1A,Q3 (i+1) (by omega) (by omega),decide_eq_true hi,cond_true,qturn,hk,hw]
   rw [show decide (0≤i∧i<((64:Nat):Int))=true from decide_eq_true (by omega)]
   rw [hnA,hnE,eA,eE,s2,s1,r1,r2,r3,c4,c3,c2,c1,p2,p1,q1,q2,q3,m5,m4,m3,m2,m1]
   rfl
 ·refine .inr ⟨(0,h2,k2,v1),(0,h2,v1),?_,?_,rfl,rfl,rfl,e10,e11⟩
  ·simp only [I9,decide_eq_false hi,cond_false]
  ·simp only [A1A,decide_eq_false hi,cond_false]
theorem B88:AllW irounds:=by
 intro x hx
 have:irounds.all (fun x=>decide (0≤x∧x<4294967296))=true:=by decide
 exact of_decide_eq_true (p:=0≤x∧x<4294967296) (List.all_eq_true.1 this x hx)
theorem B3h {l:List Int} {i j:Nat} {x:Int} (hi:i<l.length):(l.set i x).getD j 0=if j=i then x else l.getD j 0:=by
 rw [List.getD_eq_getElem?_getD,List.getElem?_set,List.getD_eq_getElem?_getD]
 by_cases h:i=j
 ·subst h;simp [hi]
 ·rw [if_neg h,if_neg (fun e=>h e.symm)]
theorem B81 (h k v:List Int) (hh:h.length=8) (hv:v.length=8):(D7 0 h k v).2.1.length=8∧∀ j,j<8→(D7 0 h k v).2.1.getD j 0=IntKind.wrap .u32 (h.getD j 0+v.getD j 0):=by
 refine itX_inv (v:=((0:Int),h,k,v)) (fun x:L3=>(0≤x.1∧x.1≤8)∧x.2.1.length=8∧x.2.2.2=v∧∀ j:Nat,j<8→x.2.1.getD j 0=if (j:Int)<x.1 then IntKind.wrap .u32 (h.getD j 0+v.getD j 0) else h.getD j 0)
  (fun a:L0=>a.2.1.length=8∧∀ j,j<8→a.2.1.getD j 0=IntKind.wrap .u32 (h.getD j 0+v.getD j 0)) (fun x=>(8 - x.1).toNat) ?_ ⟨⟨by simp only;omega,by simp only;omega⟩,hh,rfl,fun j hj=>by rw [if_neg (by simp only;omega)]⟩ (by simp only;decide)
 rintro ⟨i,h', k', v'⟩ ⟨h2,h3,h4,h6⟩
 simp only at h2 h3 h4 h6
 subst h4
 by_cases hi:i<8
 ·refine .inl ⟨(i+1,h'.set i.toNat (IntKind.wrap .u32 (h'.getD i.toNat 0+v'.getD i.toNat 0)),k', v'),?_,⟨by simp only;omega,by simp only [List.length_set];exact h3,rfl,fun j hj=>?_⟩,by simp only;omega⟩
  ·simp only [J0,Q3 (i+1) (by omega) (by omega),decide_eq_true hi,cond_true,hv,h3]
   rw [show decide (0≤i∧i<((8:Nat):Int)∧i<((8:Nat):Int))=true from decide_eq_true (by omega)]
   rfl
  ·simp only
   rw [B3h (by omega)]
   by_cases e:j=i.toNat
   ·rw [if_pos e,if_pos (by omega),← e,h6 j hj,if_neg (by omega)]
   ·rw [if_neg e,h6 j hj]
    by_cases e2:(j:Int)<i
    ·rw [if_pos e2,if_pos (by omega)]
    ·rw [if_neg e2,if_neg (by omega)]
 ·refine .inr ⟨(0,h', k'),?_,h3,fun j hj=>?_⟩
  ·simp only [J0,decide_eq_false hi,cond_false]
  ·simp only;rw [h6 j hj,if_pos (by omega)]
theorem B82 (h v:List Int) (hh:h.length=8) (hv:v.length=8):(O9 h 0 v).1=0∧(O9 h 0 v).2.length=8∧∀ j,j<8→(O9 h 0 v).2.getD j 0=iand .i64 (IntKind.wrap .i64 (v.getD j 0+h.getD j 0)) (4294967295:Int):=by
 refine itX_inv (v:=(h,(0:Int),v)) (fun x:A0P=>(0≤x.2.1∧x.2.1≤8)∧x.2.2.length=8∧x.1=h∧∀ j:Nat,j<8→x.2.2.getD j 0=if (j:Int)<x.2.1 then iand .i64 (IntKind.wrap .i64 (v.getD j 0+h.getD j 0)) (4294967295:Int) else v.getD j 0)
  (fun a:X6=>a.1=0∧a.2.length=8∧∀ j,j<8→a.2.getD j 0=iand .i64 (IntKind.wrap .i64 (v.getD j 0+h.getD j 0)) (4294967295:Int)) (fun x=>(8 - x.2.1).toNat) ?_ ⟨⟨by simp only;omega,by simp only;omega⟩,hv,rfl,fun j hj=>by rw [if_neg (by simp only;omega)]⟩ (by simp only;decide)
 rintro ⟨h', i,v'⟩ ⟨h2,h3,h4,h6⟩
 simp only at h2 h3 h4 h6
 subst h4
 by_cases hi:i<8
 ·refine .inl ⟨(h', i+1,v'.set i.toNat (iand .i64 (IntKind.wrap .i64 (v'.getD i.toNat 0+h'.getD i.toNat 0)) (4294967295:Int))),?_,⟨by simp only;omega,by simp only [List.length_set];exact h3,rfl,fun j hj=>?_⟩,by simp only;omega⟩
  ·simp only [A1B,Q3 (i+1) (by omega) (by omega),decide_eq_true hi,cond_true,hh,h3]
   rw [show decide (0≤i∧i<((8:Nat):Int))=true from decide_eq_true (by omega)]
   rfl
  ·simp only
   rw [B3h (by omega)]
   by_cases e:j=i.toNat
   ·rw [if_pos e,if_pos (by omega),← e,h6 j hj,if_neg (by omega)]
   ·rw [if_neg e,h6 j hj]
    by_cases e2:(j:Int)<i
    ·rw [if_pos e2,if_pos (by omega)]
    ·rw [if_neg e2,if_neg (by omega)]
 ·refine .inr ⟨(0,v'),?_,rfl,h3,fun j hj=>?_⟩
  ·simp only [A1B,decide_eq_false hi,cond_false]
  ·simp only;rw [h6 j hj,if_pos (by omega)]
theorem B7v {a b:List Int} (ha:a.length=8) (hb:b.length=8) (h:∀ j,j<8→a.getD j 0=b.getD j 0):a=b:=by
 apply List.ext_getElem (by omega)
 intro i h1 h2
 have:=h i (by omega)
 rwa [List.getD_eq_getElem?_getD,List.getElem?_eq_getElem h1,List.getD_eq_getElem?_getD,List.getElem?_eq_getElem h2] at this
theorem C1V {a b:Int} (ha:Wd a) (hb:Wd b):IntKind.wrap .u32 (a+b)=iand .i64 (IntKind.wrap .i64 (b+a)) (4294967295:Int):=by
 obtain ⟨a0,a1⟩:=ha
 obtain ⟨b0,b1⟩:=hb
 rw [wrap64 (by omega) (by omega),A83 (by omega) (by omega),w32]
 omega
theorem B3k (c h:List Int) (hc:c.length=64) (hb:AllB c) (hh:h.length=8) (hW:AllW h):X2 h c A5N=true∧(D5 c h irounds).1=A06 h c A5N∧AllW (A06 h c A5N):=by
 obtain ⟨w1,w2,w3,w4⟩:=B2X c hc hb
 have ev:[h.getD 0 0,h.getD 1 0,h.getD 2 0,h.getD 3 0,h.getD 4 0,h.getD 5 0,h.getD 6 0,h.getD 7 0]=h:=by
  obtain ⟨a,b,c,d,e,f,g,i,rfl⟩:=eight hh
  rfl
 obtain ⟨l1,l2,l3,l4,l5⟩:=B6n h irounds (F5 c) h rfl B88 w3 w4 hh hW
 obtain ⟨t1,t2,t3,t4⟩:=B5K h irounds (F5 c) h rfl w3 hh
 have ek:C1 c h irounds=B5 0 h irounds (F5 c) h:=by simp only [C1,w1,ev]
 obtain ⟨i1,i2⟩:=B81 h (B5 0 h irounds (F5 c) h).2.2.1 (B5 0 h irounds (F5 c) h).2.2.2 hh t4
 have hW2:AllW (B5 0 h irounds (F5 c) h).2.2.2:=by rw [l3];exact l5
 have eks:A0A h c A5N=O9 h 0 (C7 h irounds (F5 c) 0 h).2.2:=by
  show O9 ((C7 h irounds (F5 c) (0:Int) (([]:List Int)++h)).2.1) 0 ((C7 h irounds (F5 c) (0:Int) (([]:List Int)++h)).2.2)=_
  rw [List.nil_append,l2]
 obtain ⟨s0,s1,s2⟩:=B82 h (C7 h irounds (F5 c) 0 h).2.2 hh l4
 have e1:(D5 c h irounds).1=A06 h c A5N:=by
  show (D7 0 (C1 c h irounds).2.1 (C1 c h irounds).2.2.1 (C1 c h irounds).2.2.2).2.1=(A0A h c A5N).2
  rw [ek,eks,t2]
  refine B7v i1 s1 (fun j hj=>?_)
  rw [i2 j hj,s2 j hj,← l3]
  exact C1V (hW.at j) (hW2.at j)
 refine ⟨?_,e1,?_⟩
 ·have q1:(C7 h A5N (F5 c) 0 (([]:List Int)++h)).1=0:=l1
  have q2:(A0A h c A5N).1=0:=by rw [eks];exact s0
  simp only [X2,w2,q1,q2,Bool.true_and,beq_self_eq_true,Bool.and_true]
  exact decide_eq_true (by rw [hh];decide)
 ·rw [← e1]
  show AllW (D7 0 (C1 c h irounds).2.1 (C1 c h irounds).2.2.1 (C1 c h irounds).2.2.2).2.1
  rw [ek,t2]
  intro x hx
  obtain ⟨j,hj,rfl⟩:=List.mem_iff_getElem.1 hx
  have:=i2 j (by rw [← i1];exact hj)
  rw [List.getD_eq_getElem?_getD,List.getElem?_eq_getElem hj] at this
  have h9:(D7 0 h (B5 0 h irounds (F5 c) h).2.2.1 (B5 0 h irounds (F5 c) h).2.2.2).2.1[j]=IntKind.wrap .u32 _:=this
  rw [h9];exact B9b _
theorem B1u (p:List Int) (n:Nat):A24 p (n+1)=A06 (A24 p n) ((p.drop (64*n)).take 64) A5N:=by simp [A24,List.range_succ]
theorem AllB.cut {l:List Int} (h:AllB l) (i n:Nat):AllB ((l.drop i).take n):=fun x hx=>h x (List.mem_of_mem_drop (List.mem_of_mem_take hx))
theorem B4N (p:List Int) (hb:AllB p) (m:Nat) (hm:64*m=p.length):∀ n,n≤m→(A24 p n).length=8∧AllW (A24 p n)∧(List.range n).foldl (fun h i=>(D5 ((p.drop (64*i)).take 64) h irounds).1) hinit=A24 p n:=by
 intro n
 induction n with
 | zero=>intro _;exact ⟨rfl,B9z,rfl⟩
 | succ n ih =>
  intro hn
  obtain ⟨h1,h2,h3⟩:=ih (by omega)
  have hc:((p.drop (64*n)).take 64).length=64:=by simp only [List.length_take,List.length_drop];omega
  obtain ⟨q,e,w⟩:=B3k _ (A24 p n) hc (hb.cut _ _) h1 h2
  rw [B1u]
  refine ⟨?_,w,?_⟩
  ·rw [← e];exact (B1f _ _ hc h1).2.1
  ·rw [List.range_succ,List.foldl_append,h3];exact e
theorem B7p (p:List Int) (hb:AllB p) (m:Nat) (hm:64*m=p.length) (hl:p.length≤1000000000100):(A0Y p hinit A5N 0).1=0∧(A0Y p hinit A5N 0).2=A24 p m:=by
 refine itX_inv (v:=(p,hinit,A5N,(0:Int))) (fun x:A1L=>x.1=p∧x.2.2.1=A5N∧∃ n:Nat,n≤m∧x.2.2.2=((64*n:Nat):Int)∧x.2.1=A24 p n) (fun a:A0q=>a.1=0∧a.2=A24 p m) (fun x=>(p.length - x.2.2.2).toNat) ?_ ⟨rfl,rfl,0,Nat.zero_le _,rfl,rfl⟩ (by simp only;omega)
 rintro ⟨p', h,k,i⟩ ⟨h1,h2,n,hn,h3,h4⟩
 simp only at h1 h2 h3 h4
 subst h1;subst h2;subst h3;subst h4
 by_cases hi:n<m
 ·have hc:((p'.drop (64*n)).take 64).length=64:=by simp only [List.length_take,List.length_drop];omega
  obtain ⟨f1,f2,_⟩:=B4N p' hb m hm n hn
  obtain ⟨q,e,w⟩:=B3k _ (A24 p' n) hc (hb.cut _ _) f1 f2
  have ew:IntKind.wrap .i64 (((64*n:Nat):Int)+64)=((64*(n+1):Nat):Int):=by rw [wrap64 (by omega) (by omega)];omega
  have ec:(p'.take (64*(n+1))).drop (64*n)=(p'.drop (64*n)).take 64:=by
   rw [List.drop_take];congr 1;omega
  refine .inl ⟨(p', A24 p' (n+1),A5N,((64*(n+1):Nat):Int)),?_,⟨rfl,rfl,n+1,hi,rfl,rfl⟩,by simp only;omega⟩
  simp only [A2v,ew,Int.toNat_natCast,ec,q,cond_true]
  rw [decide_eq_true (by omega),decide_eq_true (by omega),B1u];rfl
 ·obtain rfl:n=m:=by omega
  refine .inr ⟨(0,A24 p' n),?_,rfl,rfl⟩
  simp only [A2v]
  rw [decide_eq_false (by omega)];rfl
theorem A8M (h:List Int):(E7 h).length=4*h.length:=by
 induction h with
 | nil=>rfl
 | cons x h ih=>simp only [E7,List.flatMap_cons,List.length_append,List.length_cons,List.length_nil] at ih ⊢;omega
theorem B2j (h:List Int) (n:Nat) (hn:n<h.length):E7 (h.take (n+1))=E7 (h.take n)++E7 [h.getD n 0]:=by
 rw [List.take_succ_eq_append_getElem hn,E7,List.flatMap_append,List.getD_eq_getElem?_getD,List.getElem?_eq_getElem hn]
 rfl
theorem B7q (h:List Int) (h8:h.length=8):(T2 h 0 []).1=0∧(T2 h 0 []).2=E7 h:=by
 refine itX_inv (v:=(h,(0:Int),([]:List Int))) (fun x:A1M=>x.1=h∧∃ n:Nat,n≤8∧x.2.1=(n:Int)∧x.2.2=E7 (h.take n)) (fun a:A0r=>a.1=0∧a.2=E7 h) (fun x=>(8 - x.2.1).toNat) ?_ ⟨rfl,0,Nat.zero_le _,rfl,by simp [E7]⟩ (by simp only;decide)
 rintro ⟨h', i,l⟩ ⟨h1,n,hn,h3,h4⟩
 simp only at h1 h3 h4
 subst h1;subst h3;subst h4
 by_cases hi:n<8
 ·refine .inl ⟨(h', ((n+1:Nat):Int),E7 (h'.take (n+1))),?_,⟨rfl,n+1,hi,rfl,rfl⟩,by simp only;omega⟩
  simp only [A2w,Q3 ((n:Int)+1) (by omega) (by omega),h8,Int.toNat_natCast]
  rw [decide_eq_true (by omega),decide_eq_true (by omega),decide_eq_true (by simp only [A8M,List.length_take,List.length_cons,List.length_nil,MAXB];omega),B2j _ _ (by omega)]
  rfl
 ·obtain rfl:n=8:=by omega
  refine .inr ⟨(0,E7 (h'.take 8)),?_,rfl,?_⟩
  ·simp only [A2w]
   rw [decide_eq_false (by omega)];rfl
  ·show E7 (h'.take 8)=E7 h'
   rw [List.take_of_length_le (by omega)]
theorem B4F (a:List Int) (ha:a.length≤1000000000000) (hb:AllB a):Q1 a=true∧M6 a=true∧H8 a=I7 a∧(I7 a).size=32:=by
 obtain ⟨p1,p2,p3,p4,p5,p6,p7⟩:=B5e a ha hb
 have hm:64*((F9 a).length / 64)=(F9 a).length:=by omega
 obtain ⟨f1,f2,f3⟩:=B4N (F9 a) p7 _ hm _ (Nat.le_refl _)
 obtain ⟨d1,d2⟩:=B7p (F9 a) p7 _ hm (by omega)
 have ek:A0i a=A0Y (F9 a) hinit A5N 0:=rfl
 obtain ⟨e1,e2⟩:=B7q _ f1
 have hI:B7r (F9 a)=A24 (F9 a) ((F9 a).length / 64):=f3
 refine ⟨?_,?_,?_,?_⟩
 ·simp only [Q1,p1,p3,Bool.true_and,Bool.and_eq_true,decide_eq_true_eq]
  omega
 ·simp only [M6,p2,ek,d1,d2,e1];rfl
 ·simp only [H8,p3,hI,I7,ek,d2,e2];rfl
 ·have : (I7 a).size = (E7 (A24 (F9 a) ((F9 a).length / 64))).length := by
   simp only [I7,ek,d2,e2]
   show (((E7 _).map _).toArray).size=_
   simp
  rw [this,A8M,f1]
theorem B8s {b:List Int} (h:okB b):AllB b:=fun x hx=>by have:=h x hx;omega
theorem B56 {b:List Int} (h:okB b) (hl:b.length≤1000000000000):M6 b=true∧I7 b=H8 b:=by
 obtain ⟨d1,d2,d3,d4⟩:=B4F b hl (B8s h)
 exact ⟨d2,d3.symm⟩
theorem B6J {p:Prop} {i:Decidable p} (h:p):@decide p i=true:=@decide_eq_true p i h
theorem B6H {k t:Int} {l:Lq1} (ho:D6 l=true):Y6 k t l=true∧A7a k t l=cond (E1 k t l) (K7 k t l) []:=by
 cases h:E1 k t l with
 | false=>simp only [Y6,A7a,O5,ho,h,Bool.not_false,cond_true,cond_false];exact ⟨rfl,trivial⟩
 | true =>
  obtain ⟨a1,a2,a3,a4,a7,a8,a9⟩:=Z9 h
  obtain ⟨b1,b2,b3⟩:=A0o h
  obtain ⟨d2,d4,d5,d6⟩:=A3y (A5 k t l) (by omega)
  obtain ⟨d1,d3⟩:=B56 b1 (by omega)
  have e0:C0 (C0 [] k) t=A7 k++A7 t:=by
   rw [X3,X3,K5 (by omega) (by omega),K5 (by omega) (by omega),List.nil_append]
  have e1:∀ n:Nat,n≤410→C0 [] (n:Int)=A7 (n:Int):=fun n hn=>by rw [X3,K5 (by omega) (by omega),List.nil_append]
  have l0:=X4 [] k
  simp only [List.length_nil] at l0
  have sz:((H8 (A5 k t l)).extract 0 4).size=4:=by rw [ByteArray.size_extract,d4];rfl
  have lb:=L8 ((A5 k t l).length:Int)
  cases hk:(k==1) with
  | true =>
   have hs:=a7 (eq_of_beq hk)
   have oe:A05 l=A1V l:=by
    obtain ⟨c1,_⟩:=O4 hs
    rw [B6G l ho,hs,K5 (by omega) (by omega)];rfl
   have be:(A7 k++A7 t)++A1V l=A5 k t l:=by simp only [A5,hk,cond_true,List.append_assoc]
   have lq:(A7 k).length+(A7 t).length+(A1V l).length=(A5 k t l).length:=by rw [← be];simp only [List.length_append]
   refine ⟨?_,?_⟩
   ·simp only [Y6,A0j,O5,C3,A1k,ho,h,hk,e0,oe,be,e1 _ b2,d1,d3,d4,Bool.not_true,cond_false,cond_true,lq,Bool.true_and,Int.toNat_zero,List.length_nil,List.length_append]
    rw [show ((4:Int).toNat)=4 from rfl,sz]
    simp only [Bool.and_eq_true,MAXB,d4]
    repeat' first | exact B6J (by omega) | exact trivial | refine And.intro ?_ ?_
   ·simp only [A7a,A0j,h,hk,e0,oe,be,e1 _ b2,d3,Bool.not_true,cond_false,cond_true]
    simp only [K7,A3x,List.append_assoc];rfl
  | false =>
   have be:A7 k++A7 t=A5 k t l:=by simp only [A5,hk,cond_false,List.append_nil]
   refine ⟨?_,?_⟩
   ·simp only [Y6,A0j,O5,C3,A1k,ho,h,hk,e0,be,e1 _ b2,d1,d3,d4,Bool.not_true,cond_false,cond_true,Bool.true_and,Int.toNat_zero,List.length_nil,List.length_append]
    rw [show ((4:Int).toNat)=4 from rfl,sz]
    simp only [Bool.and_eq_true,MAXB,d4]
    repeat' first | exact B6J (by omega) | exact trivial | refine And.intro ?_ ?_
   ·simp only [A7a,A0j,h,hk,e0,be,e1 _ b2,d3,Bool.not_true,cond_false,cond_true]
    simp only [K7,A3x,List.append_assoc];rfl
theorem B1g {n:Int} (h1:0≤n) (h2:n<18446744073709551616):IntKind.wrap .u64 n=n:=by
 show (if (false&&decide (n % (2 ^ 64:Int) ≥ (2 ^ 63:Int)))=true then n % (2 ^ 64:Int) - (2 ^ 64:Int) else n % (2 ^ 64:Int))=n
 simp only [Bool.false_and,Bool.false_eq_true,if_false];omega
theorem B4m (x:Int):0≤IntKind.wrap .u8 x∧IntKind.wrap .u8 x≤255:=by
 have e:IntKind.wrap .u8 x=(if (false&&decide (x % (2 ^ 8:Int) ≥ (2 ^ 7:Int)))=true then x % (2 ^ 8:Int) - (2 ^ 8:Int) else x % (2 ^ 8:Int)):=rfl
 rw [e]
 simp only [Bool.false_and,Bool.false_eq_true,if_false];omega
theorem B83 {b:List Int} (h:okB b) (i:Nat) {x:Int} (h0:0≤x) (h1:x≤255):okB (b.set i x):=by
 intro c hc
 rcases List.mem_or_eq_of_mem_set hc with hc | rfl
 ·exact h c hc
 ·exact ⟨h0,h1⟩
theorem okB.take {b:List Int} (h:okB b) (i:Nat):okB (b.take i):=fun c hc=>h c (List.mem_of_mem_take hc)
theorem B0w {b:List Int} (hb:okB b) (hl:b.length≤1048576):P2 b=true∧okB (F4 b).2∧(F4 b).2.length≤1000:=by
 obtain ⟨a1,a2,a3⟩:=B5D hb hl
 simp only [P2,F4,E8,L5,L6,X0,A3b,A3d,A3e,A3f,a1,a2,Bool.true_and]
 generalize A1o b=n at *
 obtain ⟨b1,b2,b3,b4⟩:=B7K a3 n.2.2
 have ho:=(Z9 b2).2.2.2.2.2.2
 obtain ⟨w1,w2,w3⟩:=A9B b2
 obtain ⟨p1,p2⟩:=B6H (k:=(M3 b n.2.1 n.2.2).1) (t:=(M3 b n.2.1 n.2.2).2.1) ho
 rw [b2,cond_true] at p2
 simp only [b1,b3,p1,p2,Bool.true_and]
 generalize K7 (M3 b n.2.1 n.2.2).1 (M3 b n.2.1 n.2.2).2.1 (M3 b n.2.1 n.2.2).2.2.1=W at *
 generalize M3 b n.2.1 n.2.2=r at *
 obtain ⟨c1,c2,c3,c4,c5⟩:=K4 b4 5 r.2.2.2.2.2
 simp only [c1,c4,Bool.true_and]
 generalize C8 5 b r.2.2.2.2.1 r.2.2.2.2.2=t at *
 obtain ⟨d1,d2,d3,d4,d5⟩:=K4 c5 (W.length:Int) t.2.2.2
 have d3:=d3 (by omega)
 simp only [d1,d4,Bool.true_and]
 generalize C8 (W.length:Int) b t.2.2.1 t.2.2.2=u at *
 obtain ⟨e1,e2,e3,e4,e5⟩:=K4 d5 8 u.2.2.2
 have e3:=e3 (by omega)
 simp only [e1,e4,Bool.true_and]
 generalize C8 8 b u.2.2.1 u.2.2.2=v at *
 have hi:decide (0≤u.1∧u.1<(W.length:Int))=true:=decide_eq_true ⟨d2,d3⟩
 have hi2:decide ((0:Int)≤0∧(0:Int)≤u.1∧u.1≤(W.length:Int))=true:=decide_eq_true (by omega)
 have hw:IntKind.wrap .u64 v.1=v.1:=B1g e2 (by omega)
 have hv:decide (0≤v.1)=true:=decide_eq_true e2
 have hM:decide ((W.length+W.length)*1≤MAXB)=true:=decide_eq_true (by simp only [MAXB];omega)
 have i1:∀ x:Int,F3 b v.2.2.1 v.2.2.2 [(0:Int),(0:Int),(0:Int),(1:Int),(-1:Int),x]=true:=fun x=>(A0F e5 v.2.2.2 (l:=[(0:Int),(0:Int),(0:Int),(1:Int),(-1:Int),x]) (by simp)).1
 have i2:∀ x:Int,F3 b u.2.2.1 u.2.2.2 [(0:Int),(0:Int),(0:Int),(1:Int),(-1:Int),x]=true:=fun x=>(A0F d5 u.2.2.2 (l:=[(0:Int),(0:Int),(0:Int),(1:Int),(-1:Int),x]) (by simp)).1
 have i3:∀ x:Int,F3 b t.2.2.1 t.2.2.2 [(0:Int),(0:Int),(0:Int),(1:Int),(-1:Int),x]=true:=fun x=>(A0F c5 t.2.2.2 (l:=[(0:Int),(0:Int),(0:Int),(1:Int),(-1:Int),x]) (by simp)).1
 have hr:=B4m
 simp only [hi,hi2,hw,hv,hM,i1,i2,i3,Bool.and_self]
 cases (t.1==0) with
 | true =>
  simp only [cond_true]
  exact ⟨trivial,B83 w1 _ (hr _).1 (hr _).2,by rw [List.length_set];omega⟩
 | false =>
  cases (t.1==1) with
  | true =>
   simp only [cond_true,cond_false]
   exact ⟨trivial,w1.take _,by rw [List.length_take];omega⟩
  | false =>
   cases (t.1==2) with
   | true =>
    simp only [cond_true,cond_false]
    exact ⟨trivial,w1.app w1,by rw [List.length_append];omega⟩
   | false =>
    simp only [cond_false]
    exact ⟨trivial,w1,by omega⟩
noncomputable def pN:Nat→Nat→Nat→List Int→Option (Nat×Nat)
 | 0,_,_,_=>none
 | _+1,_,_,[]=>none
 | f+1,k,n,c::r =>
  if c > 127 then pN f (k+1) (n+c.toNat % 128*2 ^ (7*k)) r
  else if (0<k∧c=0)∨n+c.toNat*2 ^ (7*k) > 1000000000 then none else some (n+c.toNat*2 ^ (7*k),k+1)
noncomputable def gN (b:List Int) (at':Int):Int×Int×Bool :=
 if 0≤at'∧at'<b.length then (match pN 5 0 0 (b.drop at'.toNat) with
  | some (n,l)=>((n:Int),at'+l,true)
  | none=>(0,0,false)) else (0,0,false)
theorem B2Y {b:List Int} {i:Nat} (h:i<b.length):b.drop i=b.getD i 0::b.drop (i+1):=by
 rw [List.drop_eq_getElem_cons h];simp [List.getD_eq_getElem?_getD,h]
theorem C1U (c k:Nat) (hc:c≤255) (hk:k<5):IntKind.wrap .i64 ((iand .i64 (IntKind.wrap .i64 (c:Int)) (127:Int))*2 ^ (min (Int.toNat (IntKind.wrap .u64 (IntKind.wrap .i64 ((7:Int)*(k:Int))))) (IntKind.bits .i64)))=((c % 128*2 ^ (7*k):Nat):Int):=by
 rw [wrap64 (n:=(c:Int)) (by omega) (by omega),B6N c (by omega),wrap64 (n:=(7:Int)*(k:Int)) (by omega) (by omega),B1g (by omega) (by omega)]
 have e:Int.toNat ((7:Int)*(k:Int))=7*k:=by omega
 have e2:min (7*k) (IntKind.bits .i64)=7*k:=Nat.min_eq_left (by show 7*k≤64;omega)
 rw [e,e2]
 have h1:c % 128*2 ^ (7*k)≤128*2 ^ 28:=Nat.mul_le_mul (by omega) (Nat.pow_le_pow_right (by decide) (by omega))
 have h2:(128:Nat)*2 ^ 28=34359738368:=by decide
 have e3:((c % 128:Nat):Int)*2 ^ (7*k)=((c % 128*2 ^ (7*k):Nat):Int):=by simp
 rw [e3]
 exact wrap64 (by omega) (by omega)
theorem C0F (n c k:Nat) (hc:c≤255) (hk:k<5) (hn:n<2 ^ (7*k)):ior .i64 (n:Int) (IntKind.wrap .i64 ((iand .i64 (IntKind.wrap .i64 (c:Int)) (127:Int))*2 ^ (min (Int.toNat (IntKind.wrap .u64 (IntKind.wrap .i64 ((7:Int)*(k:Int))))) (IntKind.bits .i64))))=((n+c % 128*2 ^ (7*k):Nat):Int)∧n+c % 128*2 ^ (7*k)<2 ^ (7*(k+1))∧n+c % 128*2 ^ (7*k)<9223372036854775808:=by
 have h3:n+c % 128*2 ^ (7*k)<2 ^ (7*(k+1)):=by
  rw [show 7*(k+1)=7*k+7 by omega,Nat.pow_add,show (2:Nat) ^ 7=128 from rfl]
  have:c % 128*2 ^ (7*k)≤127*2 ^ (7*k):=Nat.mul_le_mul_right _ (by omega)
  omega
 have h4:(2:Nat) ^ (7*(k+1))≤2 ^ 35:=Nat.pow_le_pow_right (by decide) (by omega)
 have h5:(2:Nat) ^ 35=34359738368:=by decide
 refine ⟨?_,h3,by omega⟩
 rw [C1U c k hc hk]
 exact B8m n (c % 128) (7*k) hn (by omega)
theorem okB.getD {b:List Int} (h:okB b) (i:Nat):0≤b.getD i 0∧b.getD i 0≤255:=by
 rw [List.getD_eq_getElem?_getD]
 cases e:b[i]? with
 | none=>simp
 | some c=>exact h c (List.mem_of_getElem? e)
theorem okB.drop {b:List Int} (h:okB b) (i:Nat):okB (b.drop i):=fun c hc=>h c (List.mem_of_mem_drop hc)
theorem B6D {b:List Int} (hb:okB b) (hl:b.length≤1099511627776) {i:Nat} (hi:i<b.length) :
    (match pN 5 0 0 (b.drop i) with
      | some (n,l)=>O2 b (i:Int) 0 0=(0,(n:Int),(i:Int)+l,true)
      | none=>O2 b (i:Int) 0 0=(0,0,0,false)∨(O2 b (i:Int) 0 0).1=1):=by
  refine itX_inv (fun v => ∃ k n : Nat, v = (b, (i : Int), (n : Int), (k : Int)) ∧ k ≤ 5 ∧ n < 2 ^ (7 * k) ∧ pN (5 - k) k n (b.drop (i + k)) = pN 5 0 0 (b.drop i)) (fun a => match pN 5 0 0 (b.drop i) with
      | some (n,l)=>a=(0,(n:Int),(i:Int)+l,true)
      | none=>a=(0,0,0,false)∨a.1=1) (fun v=>5 - v.2.2.2.toNat) ?_ ⟨0,0,rfl,by omega,by simp,rfl⟩ (by simp)
  rintro v ⟨k,n,rfl,hk,hn,hp⟩
  by_cases h5:k<5
  · have e1:decide ((k:Int)<5)=true:=decide_eq_true (by omega)
    have e2:decide ((i:Int) ≥ 0)=true:=decide_eq_true (by omega)
    have e3:decide ((i:Int)<(b.length:Int))=true:=decide_eq_true (by omega)
    have e4:IntKind.wrap .i64 ((i:Int)+(k:Int))=((i+k:Nat):Int):=by rw [wrap64 (by omega) (by omega)];omega
    by_cases hik:i+k<b.length
    · have e5:decide (((i+k:Nat):Int)<(b.length:Int))=true:=decide_eq_true (by omega)
      have e6:decide (0≤((i+k:Nat):Int)∧((i+k:Nat):Int)<(b.length:Int))=true:=decide_eq_true (by omega)
      have e7:decide (0≤(IntKind.wrap .u64 (IntKind.wrap .i64 ((7:Int)*(k:Int)))))=true:=by
        rw [wrap64 (n:=(7:Int)*(k:Int)) (by omega) (by omega),B1g (by omega) (by omega)];exact decide_eq_true (by omega)
      obtain ⟨hc0,hc1⟩:=hb.getD (i+k)
      have hdc:=B2Y hik
      obtain ⟨c,hc⟩:=Int.eq_ofNat_of_zero_le hc0
      rw [hc] at hc1 hdc
      have hc255:c≤255:=by omega
      obtain ⟨f1,f2,f3⟩:=C0F n c k hc255 h5 hn
      have e8:IntKind.wrap .i64 (c:Int)=(c:Int):=wrap64 (by omega) (by omega)
      rw [hdc,show 5 - k=(4 - k)+1 by omega,pN] at hp
      simp only [Int.toNat_natCast] at hp
      simp only [Z2,e1,e2,e3,e4,e5,e6,e7,cond_true,Int.toNat_natCast,hc,f1]
      simp only [e8]
      by_cases h127:c > 127
      · rw [if_pos (by omega)] at hp
        have e9:decide ((c:Int) > 127)=true:=decide_eq_true (by omega)
        simp only [e9,cond_true]
        refine .inl ⟨_,rfl,⟨k+1,n+c % 128*2 ^ (7*k),?_,by omega,f2,?_⟩,?_⟩
        · rw [wrapU k (by omega)]
        · rw [show 5 - (k+1)=4 - k by omega,← hp];rfl
        · rw [wrapU k (by omega)];simp;omega
      · rw [if_neg (by omega)] at hp
        have e9:decide ((c:Int) > 127)=false:=decide_eq_false (by omega)
        have hcm:c % 128=c:=by omega
        rw [hcm] at f3 ⊢
        simp only [e9,cond_false]
        right
        by_cases hz:0<k∧c=0
        · rw [if_pos (by omega)] at hp
          have e10:decide ((k:Int) > 0)=true:=decide_eq_true (by omega)
          have e11:((c:Int)==0)=true:=by rw [beq_iff_eq];omega
          simp only [e10,e11,cond_true]
          exact ⟨_,rfl,by rw [← hp];exact .inl rfl⟩
        · by_cases hg:n+c*2 ^ (7*k) > 1000000000
          · rw [if_pos (.inr hg)] at hp
            have e12:decide (((n+c*2 ^ (7*k):Nat):Int) > 1000000000)=true:=decide_eq_true (by omega)
            simp only [e12,cond_true]
            refine ⟨(0,0,0,false),?_,by rw [← hp];exact .inl rfl⟩
            cases decide ((k:Int) > 0)<;>cases ((c:Int)==0)<;>rfl
          · rw [if_neg (fun h=>h.elim (fun h=>hz ⟨h.1,by omega⟩) hg)] at hp
            have e12:decide (((n+c*2 ^ (7*k):Nat):Int) > 1000000000)=false:=decide_eq_false (by omega)
            have e13:IntKind.wrap .i64 (((i+k:Nat):Int)+1)=((i+k+1:Nat):Int):=wrapU (i+k) (by omega)
            simp only [e12,cond_false,e13]
            refine ⟨(0,((n+c*2 ^ (7*k):Nat):Int),((i+k+1:Nat):Int),true),?_,?_⟩
            · by_cases h0:0<k
              · have e10:decide ((k:Int) > 0)=true:=decide_eq_true (by omega)
                have e11:((c:Int)==0)=false:=by rw [beq_eq_false_iff_ne];intro h;exact hz ⟨h0,by omega⟩
                simp only [e10,e11,cond_true,cond_false]
              · have e10:decide ((k:Int) > 0)=false:=decide_eq_false (by omega)
                simp only [e10,cond_false]
            · rw [← hp];show _=_
              congr 3
    · have e5:decide (((i+k:Nat):Int)<(b.length:Int))=false:=decide_eq_false (by omega)
      rw [show 5 - k=(4 - k)+1 by omega,List.drop_eq_nil_of_le (by omega),pN] at hp
      simp only [Z2,e1,e2,e3,e4,e5,cond_true,cond_false]
      exact .inr ⟨_,rfl,by rw [← hp];exact .inr rfl⟩
  · obtain rfl:k=5:=by omega
    have e1:decide (((5:Nat):Int)<5)=false:=by decide
    simp only [Z2,e1,cond_false]
    exact .inr ⟨_,rfl,by rw [← hp];exact .inr rfl⟩
theorem T6 {b:List Int} (hb:okB b) (hl:b.length≤1099511627776) (a:Int):A4 b a=gN b a∧E5 b a=true:=by
 simp only [A4,E5,gN]
 by_cases h:0≤a∧a<b.length
 ·obtain ⟨i,rfl⟩:=Int.eq_ofNat_of_zero_le h.1
  have hi:i<b.length:=by omega
  rw [if_pos h,Int.toNat_natCast]
  have:=B6D hb hl hi
  cases hp:pN 5 0 0 (b.drop i) with
  | some x =>
   rw [hp] at this
   simp only at this
   rw [this];exact ⟨rfl,rfl⟩
  | none =>
   rw [hp] at this
   rcases this with h1 | h1
   ·rw [h1];exact ⟨rfl,rfl⟩
   ·rw [h1];exact ⟨rfl,rfl⟩
 ·rw [if_neg h]
  have:(O2 b a 0 0).1=1:=by
   refine itX_inv (fun v:A1N=>v.1=b∧v.2.1=a) (fun r:A0s=>r.1=1) (fun _=>0) (fun v hv=>?_) ⟨rfl,rfl⟩ (by simp)
   obtain ⟨x,y,n,k⟩:=v
   obtain ⟨rfl,rfl⟩:=hv
   right
   simp only [Z2]
   cases decide (k<5) with
   | false=>exact ⟨_,rfl,rfl⟩
   | true =>
    by_cases h1:y ≥ 0
    ·have e2:decide (y<(x.length:Int))=false:=decide_eq_false (fun h2=>h ⟨h1,h2⟩)
     simp only [decide_eq_true h1,e2,cond_true,cond_false]
     exact ⟨_,rfl,rfl⟩
    ·simp only [decide_eq_false h1,cond_true,cond_false]
     exact ⟨_,rfl,rfl⟩
  rw [this];exact ⟨rfl,rfl⟩
theorem B9K:∀ (j k n:Nat) (l:List Int) (m len:Nat),okB l→k+j≤4→pN (j+1) k n l=some (m,len) →
  ∃ (x:Nat) (post:List Int),l=hiB j x++post∧m=n+x*2 ^ (7*k)∧len=k+(hiB j x).length∧(0<k→0<x)∧x<128 ^ (j+1)∧m≤1000000000:=by
 intro j
 induction j with
 | zero =>
  intro k n l m len hb hk h
  cases l with
  | nil=>simp [pN] at h
  | cons c r =>
   obtain ⟨hc,_⟩:=hb c (by simp)
   obtain ⟨x,rfl⟩:=Int.eq_ofNat_of_zero_le hc
   simp only [pN,Int.toNat_natCast] at h
   split at h
   ·cases h
   ·split at h
    ·cases h
    ·simp only [Option.some.injEq,Prod.mk.injEq] at h
     obtain ⟨rfl,rfl⟩:=h
     exact ⟨x,r,by rw [A1S 0 x (by omega)];rfl,rfl,by rw [A1S 0 x (by omega)];rfl,by omega,by simp;omega,by omega⟩
 | succ j ih =>
  intro k n l m len hb hk h
  cases l with
  | nil=>simp [pN] at h
  | cons c r =>
   obtain ⟨hc,hc'⟩:=hb c (by simp)
   obtain ⟨y,rfl⟩:=Int.eq_ofNat_of_zero_le hc
   rw [pN] at h
   simp only [Int.toNat_natCast] at h
   split at h
   ·rename_i hgt
    obtain ⟨x,post,e1,e2,e3,e4,e5,e6⟩:=ih (k+1) (n+y % 128*2 ^ (7*k)) r m len (fun c hc=>hb c (by simp [hc])) (by omega) h
    have hx0:=e4 (by omega)
    have hxb:y % 128+128*x<128 ^ (j+1+1):=by rw [Nat.pow_succ];omega
    have hxs:y % 128+128*x<9223372036854775808:=by
     have:(128:Nat) ^ (j+1+1)≤128 ^ 5:=Nat.pow_le_pow_right (by decide) (by omega)
     have h5:(128:Nat) ^ 5=34359738368:=by decide
     omega
    have hst:=B1E j (y % 128+128*x) (by omega) hxs
    have q1:(y % 128+128*x) / 128=x:=by omega
    have q2:128+(y % 128+128*x) % 128=y:=by omega
    rw [q1,q2] at hst
    refine ⟨y % 128+128*x,post,by rw [hst,e1];rfl,?_,by rw [hst,e3];simp;omega,fun _=>by omega,hxb,e6⟩
    rw [e2,show 7*(k+1)=7*k+7 by omega,Nat.pow_add,show (2:Nat) ^ 7=128 from rfl,Nat.add_mul,Nat.mul_comm (2 ^ (7*k)) 128,← Nat.mul_assoc,Nat.mul_comm x 128]
    omega
   ·rename_i hgt
    split at h
    ·cases h
    ·simp only [Option.some.injEq,Prod.mk.injEq] at h
     obtain ⟨rfl,rfl⟩:=h
     refine ⟨y,r,by rw [A1S _ y (by omega)];rfl,rfl,by rw [A1S _ y (by omega)];rfl,by omega,?_,by omega⟩
     have:(128:Nat) ^ 1≤128 ^ (j+1+1):=Nat.pow_le_pow_right (by decide) (by omega)
     omega
theorem C1h {l:List Int} (hb:okB l) {m len:Nat} (h:pN 5 0 0 l=some (m,len)):∃ post,l=A7 (m:Int)++post∧len=(A7 (m:Int)).length∧m≤1000000000:=by
 obtain ⟨x,post,e1,e2,e3,e4,e5,e6⟩:=B9K 4 0 0 l m len hb (by omega) h
 have:x=m:=by simp at e2;omega
 subst this
 exact ⟨post,by rw [B1d];exact e1,by rw [B1d];omega,e6⟩
theorem B4O {b:List Int} (hb:okB b) {a n p:Int} (h:gN b a=(n,p,true)):∃ pre post,b=pre++(A7 n++post)∧a=pre.length∧p=a+(A7 n).length∧0≤n∧n≤1000000000:=by
 simp only [gN] at h
 split at h
 ·rename_i hc
  split at h
  ·rename_i m l hp
   simp only [Prod.mk.injEq] at h
   obtain ⟨rfl,rfl,_⟩:=h
   obtain ⟨post,e1,e2,e3⟩:=C1h (hb.drop _) hp
   refine ⟨b.take a.toNat,post,?_,by rw [List.length_take];omega,by rw [e2],by omega,by omega⟩
   rw [← e1,List.take_append_drop]
  ·cases h
 ·cases h
theorem A6c {b:List Int} (hb:okB b) {a:Int} (h:(gN b a).2.2=true):0≤a∧a<(gN b a).2.1∧(gN b a).2.1≤b.length∧0≤(gN b a).1∧(gN b a).1≤1000000000:=by
 obtain ⟨pre,post,e1,e2,e3,e4,e5⟩:=B4O hb (a:=a) (n:=(gN b a).1) (p:=(gN b a).2.1) (by rw [← h])
 have hlen:=congrArg List.length e1
 simp only [List.length_append] at hlen
 have:1≤(A7 (gN b a).1).length:=by simp [A7]
 omega
theorem B4n {len p n:Int} (hl:0≤len∧len≤1048576) (hp:0≤p∧p≤len) (hn:0≤n∧n≤1000000000):IntKind.wrap .i64 (len - p)=len - p∧IntKind.wrap .i64 (len - p - 4)=len - p - 4∧IntKind.wrap .i64 (p+n)=p+n∧IntKind.wrap .i64 (p+n+4)=p+n+4 :=
 ⟨wrap64 (by omega) (by omega),wrap64 (by omega) (by omega),wrap64 (by omega) (by omega),wrap64 (by omega) (by omega)⟩
theorem okB.right {a b:List Int} (h:okB (a++b)):okB b:=fun c hc=>h c (List.mem_append_right _ hc)
theorem B6M {b:List Int} (hb:okB b) (hl:b.length≤1048576) {a n p:Int} (h:gN b a=(n,p,true)) (hn:¬ n > (b.length:Int) - p - 4):∃ pre body s4 rest:List Int,b=pre++(A7 n++(body++(s4++rest)))∧a=pre.length∧p=a+(A7 n).length∧(body.length:Int)=n∧s4.length=4∧n≤1000000000∧0≤n∧okB body∧okB s4:=by
 obtain ⟨pre,post,e,ea,ep,h0,h1⟩:=B4O hb h
 have hlen:=congrArg List.length e
 simp only [List.length_append] at hlen
 have hp:okB post:=okB.right (okB.right (by rw [← e];exact hb))
 refine ⟨pre,post.take n.toNat,(post.drop n.toNat).take 4,(post.drop n.toNat).drop 4,by rw [List.take_append_drop,List.take_append_drop];exact e,ea,ep,?_,?_,h1,h0,hp.take _,(hp.drop _).take _⟩
 ·rw [List.length_take];omega
 ·rw [List.length_take,List.length_drop];omega
theorem B55 {b x y z:List Int} {i j:Int} (e:b=x++(y++z)) (hi:i=(x.length:Int)) (hj:j=(x.length:Int)+(y.length:Int)):(b.take j.toNat).drop i.toNat=y:=by
 rw [e,← List.append_assoc,List.take_left' (by rw [List.length_append];omega),List.drop_left' (by omega)]
noncomputable def A7d (l:List Int):ByteArray:=⟨(l.map fun n=>UInt8.ofNat n.toNat).toArray⟩
theorem A2D {l:List Int} (h:okB l):strInts (A7d l)=l:=by
 simp only [A7d,strInts,List.map_map,List.toList_toArray]
 conv=>rhs;rw [← List.map_id l]
 apply List.map_congr_left
 intro n hn
 obtain ⟨h0,h1⟩:=h n hn
 simp only [Function.comp_apply,UInt8.toNat_ofNat', id_eq]
 omega
theorem B3i (s:ByteArray):A7d (strInts s)=s:=by
 cases s with
 | mk a =>
  simp only [A7d,strInts,List.map_map]
  congr 1
  apply Array.toList_inj.1
  simp only [List.toList_toArray]
  conv=>rhs;rw [← List.map_id a.toList]
  apply List.map_congr_left
  intro b _
  simp
theorem B5I {a:List Int} {s:ByteArray} (ha:okB a):((A7d a).toList==s.toList)=true↔a=strInts s:=by
 rw [beq_iff_eq]
 constructor
 ·intro h
  have h2:A7d a=s:=by
   have h3:=congrArg (fun l=>(⟨l.toArray⟩:ByteArray)) h
   have k:∀ s:ByteArray,(⟨s.toList.toArray⟩:ByteArray)=s:=fun s=>by rw [ByteArray.toList_eq]
   simpa only [k] using h3
  rw [← A2D ha,h2]
 ·rintro rfl;rw [B3i]
theorem B9e {pre rest:List Int} (hb:okB (pre++rest)) {n p:Int} (h:gN (pre++rest) (pre.length:Int)=(n,p,true)):∃ post,rest=A7 n++post∧p=((pre++A7 n).length:Int)∧0≤n∧n≤1000000000:=by
 obtain ⟨pre', post,e1,e2,e3,e4,e5⟩:=B4O hb h
 obtain ⟨_,q2⟩:=List.append_inj e1 (by omega)
 exact ⟨post,q2,by rw [e3,List.length_append];omega,e4,e5⟩
theorem B8f {b:List Int} (hb:okB b) {n p:Int} (h:gN b 0=(n,p,true)):∃ post,b=A7 n++post∧p=((A7 n).length:Int)∧0≤n∧n≤1000000000:=B9e (pre:=[]) hb h
noncomputable def gT (b:List Int) (a:Int):ByteArray×Int×Bool :=
 if (gN b a).2.2=true∧(gN b a).1≤(b.length:Int) - (gN b a).2.1 then (A7d ((b.drop (gN b a).2.1.toNat).take (gN b a).1.toNat),(gN b a).2.1+(gN b a).1,true) else (⟨#[]⟩,0,false)
noncomputable def gO (b:List Int) (p:Int):(Int×ByteArray×ByteArray)×Int×Bool :=
 (((gN b p).1,(gT b (gN b p).2.1).1,(gT b (gT b (gN b p).2.1).2.1).1),(gT b (gT b (gN b p).2.1).2.1).2.1,(gN b p).2.2&&((gT b (gN b p).2.1).2.2&&(gT b (gT b (gN b p).2.1).2.1).2.2))
noncomputable def pO:Nat→List Int→Int→Lq1→Option (Lq1×Int)
 | 0,_,p,acc=>some (acc,p)
 | k+1,b,p,acc=>cond (gO b p).2.2 (pO k b (gO b p).2.1 (acc++[(gO b p).1])) none
noncomputable def B3y (b:List Int):Lq1×Bool :=
 if (gN b 0).2.2=true∧(gN b 0).1≤8 then (match pO (gN b 0).1.toNat b (gN b 0).2.1 [] with
  | some (l,q)=>if q=(b.length:Int)∧I5 l=true then (l,true) else ([],false)
  | none=>([],false)) else ([],false)
theorem B9f {b:List Int} (hb:okB b) (hl:b.length≤1099511627776) (a:Int) :
  gT b a=(cond (!((gN b a).2.2)) ((⟨#[]⟩:ByteArray),(0:Int),false) (cond (decide (((gN b a).1) > (IntKind.wrap .i64 ((b.length:Int) - ((gN b a).2.1))))) ((⟨#[]⟩:ByteArray),(0:Int),false) ((⟨(((b.take (IntKind.wrap .i64 (((gN b a).2.1)+((gN b a).1))).toNat).drop ((gN b a).2.1).toNat).map fun n=>UInt8.ofNat n.toNat).toArray⟩:ByteArray),IntKind.wrap .i64 (((gN b a).2.1)+((gN b a).1)),true))) ∧
  (cond (!((gN b a).2.2)) true (cond (decide (((gN b a).1) > (IntKind.wrap .i64 ((b.length:Int) - ((gN b a).2.1))))) true (decide (0≤((gN b a).2.1)∧((gN b a).2.1)≤(IntKind.wrap .i64 (((gN b a).2.1)+((gN b a).1)))∧(IntKind.wrap .i64 (((gN b a).2.1)+((gN b a).1)))≤(b.length:Int)))))=true:=by
 cases h:(gN b a).2.2 with
 | false=>simp only [gT,h,Bool.not_false,cond_true];exact ⟨by rw [if_neg (by simp)],trivial⟩
 | true =>
  obtain ⟨r1,r2,r3,r4,r5⟩:=A6c hb h
  have w1:IntKind.wrap .i64 ((b.length:Int) - ((gN b a).2.1))=(b.length:Int) - (gN b a).2.1:=wrap64 (by omega) (by omega)
  have w2:IntKind.wrap .i64 (((gN b a).2.1)+((gN b a).1))=(gN b a).2.1+(gN b a).1:=wrap64 (by omega) (by omega)
  simp only [gT,h,Bool.not_true,cond_false,w1,w2]
  by_cases hc:(gN b a).1≤(b.length:Int) - (gN b a).2.1
  ·rw [if_pos ⟨trivial,hc⟩,decide_eq_false (by omega),cond_false,cond_false]
   refine ⟨?_,decide_eq_true (by omega)⟩
   simp only [A7d]
   congr 4
   have:((gN b a).2.1+(gN b a).1).toNat=(gN b a).2.1.toNat+(gN b a).1.toNat:=by omega
   rw [this,List.take_drop]
  ·rw [if_neg (fun h=>hc h.2),decide_eq_true (by omega),cond_true,cond_true]
   exact ⟨rfl,rfl⟩
theorem A7R {b:List Int} (hb:okB b) (hl:b.length≤1099511627776) (a:Int):A04 b a=gT b a∧M0 b a=true:=by
 obtain ⟨h1,h2⟩:=T6 hb hl a
 obtain ⟨h3,h4⟩:=B9f hb hl a
 rw [h3]
 simp only [A04,M0,h1,h2,Bool.true_and]
 exact ⟨trivial,h4⟩
theorem B3j (l:List Int):(A7d l).size=l.length:=by simp [A7d,ByteArray.size]
theorem B3z {b:List Int} (hb:okB b) (a:Int):(gT b a).1.size≤b.length:=by
 simp only [gT]
 split
 ·rw [B3j,List.length_take,List.length_drop];omega
 ·exact Nat.zero_le _
theorem B8h {b:List Int} (hb:okB b) (p:Int):(gO b p).1.2.1.size≤b.length∧(gO b p).1.2.2.size≤b.length:=⟨B3z hb _,B3z hb _⟩
theorem B6E {b:List Int} (hb:okB b) (hl:b.length≤1048576) (n p:Int) (hn:n≤8) (h0:0≤n) :
    (match pO n.toNat b p [] with
      | some (l,q)=>A2t b n p 0 [] []=(1,false,[],b,q,l)∧D6 l=true
      | none=>A2t b n p 0 [] []=(0,false,[],[],0,[])):=by
  refine itX_inv (fun v : A1O => ∃ (i : Nat) (p' : Int) (l : Lq1), v = (b, n, p', (i : Int), [], l) ∧ (i : Int) ≤ n ∧ l.length = i ∧ D6 l = true ∧ pO (n.toNat - i) b p' l = pO n.toNat b p []) (fun a => match pO n.toNat b p [] with
      | some (l,q)=>a=(1,false,[],b,q,l)∧D6 l=true
      | none=>a=(0,false,[],[],0,[])) (fun v=>8 - v.2.2.2.1.toNat) ?_ ⟨0,p,[],rfl,h0,rfl,rfl,rfl⟩ (by simp)
  rintro v ⟨i,p', l,rfl,hi,hll,hok,hp⟩
  by_cases h5:(i:Int)<n
  · have e1:decide ((i:Int)<n)=true:=decide_eq_true h5
    obtain ⟨s1,s2⟩:=T6 hb (by omega) p'
    obtain ⟨t1,t2⟩:=A7R hb (by omega) (gN b p').2.1
    obtain ⟨u1,u2⟩:=A7R hb (by omega) (gT b (gN b p').2.1).2.1
    have e2:∀ o:Int×ByteArray×ByteArray,decide ((l.length+[o].length)*40≤MAXB)=true:=fun o=>decide_eq_true (by simp only [List.length_singleton,MAXB];omega)
    rw [show n.toNat - i=(n.toNat - (i+1))+1 by omega,pO] at hp
    simp only [A2x,e1,s1,s2,t1,t2,u1,u2,e2,cond_true]
    cases hc:(gO b p').2.2 with
    | true =>
      rw [hc,cond_true] at hp
      have hc':=hc
      simp only [gO,Bool.and_eq_true] at hc'
      simp only [hc'.1,hc'.2.1,hc'.2.2,Bool.not_true,cond_false]
      refine .inl ⟨_,rfl,⟨i+1,(gO b p').2.1,l++[(gO b p').1],?_,by omega,by simp [hll],?_,hp⟩,?_⟩
      · rw [wrapU i (by omega)];rfl
      · obtain ⟨x1,x2⟩:=B8h hb p'
        simp only [D6,okL,List.length_append,List.length_singleton,List.all_append,List.all_cons,List.all_nil,Bool.and_true,Bool.and_eq_true,decide_eq_true_eq] at hok ⊢
        exact ⟨by omega,hok.2,by simp only [B7A,okS,Bool.and_eq_true,decide_eq_true_eq];omega⟩
      · rw [wrapU i (by omega)];simp;omega
    | false =>
      rw [hc,cond_false] at hp
      right
      rw [← hp]
      simp only [gO] at hc
      cases h1:(gN b p').2.2 with
      | false=>exact ⟨_,rfl,rfl⟩
      | true=>cases h2:(gT b (gN b p').2.1).2.2 with
        | false=>exact ⟨_,rfl,rfl⟩
        | true=>cases h3:(gT b (gT b (gN b p').2.1).2.1).2.2 with
          | false=>exact ⟨_,rfl,rfl⟩
          | true=>rw [h1,h2,h3] at hc;cases hc
  · have e1:decide ((i:Int)<n)=false:=decide_eq_false h5
    have:n.toNat - i=0:=by omega
    rw [this,pO] at hp
    simp only [A2x,e1,cond_false]
    exact .inr ⟨_,rfl,by rw [← hp];exact ⟨rfl,hok⟩⟩
theorem A9D {b:List Int} (hb:okB b) (hl:b.length≤1048576):B1e b=B3y b∧A1i b=true:=by
 obtain ⟨s1,s2⟩:=T6 hb (by omega) 0
 simp only [B1e,A1i,B3y,s1,s2,Bool.true_and,A47]
 cases h:(gN b 0).2.2 with
 | false=>simp
 | true =>
  obtain ⟨r1,r2,r3,r4,r5⟩:=A6c hb h
  by_cases h8:(gN b 0).1≤8
  ·have e1:decide ((gN b 0).1 > 8)=false:=decide_eq_false (by omega)
   have:=B6E hb hl (gN b 0).1 (gN b 0).2.1 h8 r4
   rw [if_pos ⟨rfl,h8⟩]
   simp only [Bool.not_true,cond_false,e1]
   cases hp:pO (gN b 0).1.toNat b (gN b 0).2.1 [] with
   | none=>rw [hp] at this;simp only at this;rw [this];exact ⟨rfl,rfl⟩
   | some x =>
    obtain ⟨l,q⟩:=x
    rw [hp] at this
    obtain ⟨this,hok⟩:=this
    rw [this]
    have h10:((1:Nat)==0)=false:=rfl
    simp only [h10,cond_false,X1,hok,Nat.reduceBEq,beq_self_eq_true,Bool.true_and]
    by_cases hq:q=(b.length:Int)
    ·have e2:(q != (b.length:Int))=false:=by rw [hq];simp
     simp only [e2,cond_false]
     cases ho:I5 l with
     | true=>rw [if_pos ⟨hq,rfl⟩];exact ⟨rfl,trivial⟩
     | false=>rw [if_neg (fun h=>by cases h.2)];exact ⟨rfl,trivial⟩
    ·have e2:(q != (b.length:Int))=true:=by rw [bne_iff_ne];exact hq
     simp only [e2,cond_true]
     rw [if_neg (fun h=>hq h.1)];exact ⟨rfl,trivial⟩
  ·have e1:decide ((gN b 0).1 > 8)=true:=decide_eq_true (by omega)
   rw [if_neg (fun h=>h8 h.2)]
   simp only [Bool.not_true,cond_false,e1,cond_true]
   exact ⟨trivial,trivial⟩
theorem B9g {b:List Int} (hb:okB b) {a p:Int} {s:ByteArray} (h:gT b a=(s,p,true)):∃ pre post,b=pre++(H9 s++post)∧a=pre.length∧p=a+(H9 s).length∧s.size≤1000000000:=by
 simp only [gT] at h
 split at h
 ·rename_i hc
  obtain ⟨h1,h2⟩:=hc
  obtain ⟨pre,post,e1,e2,e3,e4,e5⟩:=B4O hb (a:=a) (n:=(gN b a).1) (p:=(gN b a).2.1) (by rw [← h1])
  simp only [Prod.mk.injEq,and_true] at h
  obtain ⟨h3,h4⟩:=h
  have hlen:=congrArg List.length e1
  simp only [List.length_append] at hlen
  have ed:b.drop (gN b a).2.1.toNat=post:=by
   have hd:∀ n,b=pre++(A7 n++post)→b.drop (pre.length+(A7 n).length)=post:=fun n e=>by rw [e,← List.append_assoc,← List.length_append,List.drop_left]
   have:(gN b a).2.1.toNat=pre.length+(A7 (gN b a).1).length:=by omega
   rw [this];exact hd _ e1
  rw [ed] at h3
  have hpl:(gN b a).1.toNat≤post.length:=by omega
  have hz:s.size=(gN b a).1.toNat:=by rw [← h3,B3j,List.length_take];omega
  have hpo:okB (post.take (gN b a).1.toNat):=(by rw [← ed];exact (hb.drop _).take _)
  have hi:strInts s=post.take (gN b a).1.toNat:=by rw [← h3,A2D hpo]
  have hsz:(s.size:Int)=(gN b a).1:=by omega
  refine ⟨pre,post.drop (gN b a).1.toNat,?_,e2,?_,by omega⟩
  ·rw [H9,hsz,hi,List.append_assoc,List.take_append_drop];exact e1
  ·simp only [H9,List.length_append,A3H,hsz];omega
 ·cases h
theorem C0L {b:List Int} (hb:okB b) {p:Int} (h:(gO b p).2.2=true):∃ pre post,b=pre++(opB (gO b p).1++post)∧p=pre.length∧(gO b p).2.1=p+(opB (gO b p).1).length∧B57 (gO b p).1:=by
 simp only [gO,Bool.and_eq_true] at h
 obtain ⟨h1,h2,h3⟩:=h
 obtain ⟨pre1,post1,a1,a2,a3,a4,a5⟩:=B4O hb (a:=p) (n:=(gN b p).1) (p:=(gN b p).2.1) (by rw [← h1])
 obtain ⟨pre2,post2,b1,b2,b3,b4⟩:=B9g hb (a:=(gN b p).2.1) (s:=(gT b (gN b p).2.1).1) (p:=(gT b (gN b p).2.1).2.1) (by rw [← h2])
 obtain ⟨pre3,post3,c1,c2,c3,c4⟩:=B9g hb (a:=(gT b (gN b p).2.1).2.1) (s:=(gT b (gT b (gN b p).2.1).2.1).1) (p:=(gT b (gT b (gN b p).2.1).2.1).2.1) (by rw [← h3])
 have d1:post1=b.drop (pre1++A7 (gN b p).1).length:=by
  have hd:∀ (u v w x:List Int),x=u++(v++w)→w=x.drop (u++v).length:=fun u v w x e=>by rw [e,← List.append_assoc,List.drop_left]
  exact hd _ _ _ _ a1
 have d2:H9 (gT b (gN b p).2.1).1++post2=b.drop pre2.length:=by
  have hd:∀ (u v x:List Int),x=u++v→v=x.drop u.length:=fun u v x e=>by rw [e,List.drop_left]
  exact hd _ _ _ b1
 have d3:post2=b.drop (pre2++H9 (gT b (gN b p).2.1).1).length:=by
  have hd:∀ (u v w x:List Int),x=u++(v++w)→w=x.drop (u++v).length:=fun u v w x e=>by rw [e,← List.append_assoc,List.drop_left]
  exact hd _ _ _ _ b1
 have d4:H9 (gT b (gT b (gN b p).2.1).2.1).1++post3=b.drop pre3.length:=by
  have hd:∀ (u v x:List Int),x=u++v→v=x.drop u.length:=fun u v x e=>by rw [e,List.drop_left]
  exact hd _ _ _ c1
 have f1:post1=H9 (gT b (gN b p).2.1).1++post2:=by rw [d1,d2];congr 1;simp only [List.length_append];omega
 have f2:post2=H9 (gT b (gT b (gN b p).2.1).2.1).1++post3:=by rw [d3,d4];congr 1;simp only [List.length_append];omega
 have hk:V3 (gN b p).1=(gN b p).1:=K5 a4 a5
 refine ⟨pre1,post3,?_,a2,?_,a4,a5,b4,c4⟩
 ·simp only [opB,gO,hk,List.append_assoc]
  rw [← f2,← f1];exact a1
 ·simp only [opB,gO,hk,List.length_append];omega
theorem C1i {b:List Int} (hb:okB b):∀ (k:Nat) (p:Int) (acc l:Lq1) (q:Int),0≤p→p≤b.length→pO k b p acc=some (l,q) →
  ∃ l' pre post,l=acc++l'∧l'.length=k∧b=pre++((l'.map opB).flatten++post)∧p=pre.length∧q=p+(l'.map opB).flatten.length∧∀ o∈l', B57 o:=by
 intro k
 induction k with
 | zero =>
  intro p acc l q h0 h1 h
  simp only [pO,Option.some.injEq,Prod.mk.injEq] at h
  obtain ⟨rfl,rfl⟩:=h
  exact ⟨[],b.take p.toNat,b.drop p.toNat,by simp,rfl,by simp,by rw [List.length_take];omega,by simp,by simp⟩
 | succ k ih =>
  intro p acc l q h0 h1 h
  simp only [pO] at h
  cases hc:(gO b p).2.2 with
  | false=>rw [hc] at h;cases h
  | true =>
   rw [hc,cond_true] at h
   obtain ⟨pre,post,a1,a2,a3,a4⟩:=C0L hb hc
   have hlen:=congrArg List.length a1
   simp only [List.length_append] at hlen
   obtain ⟨l', pre', post', b1,b2,b3,b4,b5,b6⟩:=ih (gO b p).2.1 (acc++[(gO b p).1]) l q (by omega) (by omega) h
   have d1:post=b.drop (pre++opB (gO b p).1).length:=by
    have hd:∀ (u v w x:List Int),x=u++(v++w)→w=x.drop (u++v).length:=fun u v w x e=>by rw [e,← List.append_assoc,List.drop_left]
    exact hd _ _ _ _ a1
   have d2:(l'.map opB).flatten++post'=b.drop pre'.length:=by
    have hd:∀ (u v x:List Int),x=u++v→v=x.drop u.length:=fun u v x e=>by rw [e,List.drop_left]
    exact hd _ _ _ b3
   have f1:post=(l'.map opB).flatten++post':=by rw [d1,d2];congr 1;simp only [List.length_append];omega
   refine ⟨(gO b p).1::l', pre,post', by rw [b1];simp,by simp [b2],?_,a2,?_,?_⟩
   ·simp only [List.map_cons,List.flatten_cons,List.append_assoc]
    rw [← f1];exact a1
   ·simp only [List.map_cons,List.flatten_cons,List.length_append];omega
   ·intro o ho
    rcases List.mem_cons.1 ho with rfl | ho
    ·exact a4
    ·exact b6 o ho
theorem B8N {b:List Int} (hb:okB b) {l:Lq1} (h:B3y b=(l,true)):I5 l=true∧b=A1V l:=by
 simp only [B3y] at h
 split at h
 ·rename_i hc
  obtain ⟨c1,c2⟩:=hc
  obtain ⟨post,e1,e2,e3,e4⟩:=B8f hb (n:=(gN b 0).1) (p:=(gN b 0).2.1) (by rw [← c1])
  have hlen:=congrArg List.length e1
  rw [List.length_append] at hlen
  split at h
  ·rename_i l' q hp
   split at h
   ·rename_i hq
    simp only [Prod.mk.injEq,and_true] at h
    subst h
    obtain ⟨l2,pre,post2,f1,f2,f3,f4,f5,f6⟩:=C1i hb _ _ _ _ _ (by omega) (by omega) hp
    simp only [List.nil_append] at f1
    subst f1
    refine ⟨hq.2,?_⟩
    have g1:(l'.length:Int)=(gN b 0).1:=by omega
    have hlen2:=congrArg List.length f3
    simp only [List.length_append] at hlen2
    have hp2:post2=[]:=List.eq_nil_of_length_eq_zero (by have:=hq.1;omega)
    subst hp2
    have key:∀ b':List Int,b'=A7 (gN b 0).1++post→b'=pre++((l'.map opB).flatten++[])→pre.length=(A7 (gN b 0).1).length→b'=A7 (gN b 0).1++(l'.map opB).flatten:=by
     intro b' x1 x2 x3
     obtain ⟨q1,q2⟩:=List.append_inj (x2.symm.trans x1) x3
     rw [x2,q1,List.append_nil]
    rw [A1V,g1]
    exact key b e1 f3 (by omega)
   ·cases h
  ·cases h
 ·cases h
theorem A8y {l:Lq1} (h:I5 l=true):1≤l.length:=by
 simp only [I5] at h
 cases h5:allF (A3o l) (l.length - (0:Int).toNat) (0:Int).toNat with
 | false=>rw [h5] at h;simp at h
 | true =>
  rw [h5] at h
  simp only [cond_true,J6] at h
  cases h6:decide ((l.length:Int) ≥ 1) with
  | false=>simp [h6] at h
  | true=>have:=of_decide_eq_true h6;omega
theorem B6F {b:List Int} (hb:okB b) (hl:b.length≤1048576) (a:Int):A0E b a=true∧((∃ k t l pre post,A03 b a=(k,t,l,((pre.length+(K7 k t l).length:Nat):Int),true)∧E1 k t l=true∧b=pre++(K7 k t l++post)∧a=(pre.length:Int))∨A03 b a=(0,0,[],a,false)):=by
 obtain ⟨g1,g2⟩:=T6 hb (by omega) a
 simp only [A03,A0E,g1,g2,C5,B1,A0k,L7,Bool.true_and]
 cases h1:(gN b a).2.2 with
 | false=>exact ⟨rfl,.inr rfl⟩
 | true =>
 obtain ⟨r1,r2,r3,r4,r5⟩:=A6c hb h1
 generalize eg:gN b a=g at *
 obtain ⟨n,p,o⟩:=g
 simp only at h1 r1 r2 r3 r4 r5 ⊢
 subst h1
 obtain ⟨w1,w2,w3,w4⟩:=B4n (len:=(b.length:Int)) (p:=p) (n:=n) ⟨by omega,by omega⟩ ⟨by omega,by omega⟩ ⟨by omega,by omega⟩
 simp only [w1,w2,w3,w4,Bool.not_true,cond_false]
 by_cases hn:n > (b.length:Int) - p - 4
 ·simp only [decide_eq_true hn,cond_true];exact ⟨trivial,.inr trivial⟩
 simp only [decide_eq_false hn,cond_false]
 obtain ⟨pre,body,s4,rest,e,ea,ep,el,e4,n1,n0,hB,h4⟩:=B6M hb hl eg hn
 have hlen:=congrArg List.length e
 simp only [List.length_append] at hlen
 have c1:(b.take (p+n).toNat).drop p.toNat=body:=B55 (x:=pre++A7 n) (z:=s4++rest) (by rw [e];simp only [List.append_assoc]) (by rw [List.length_append];omega) (by rw [List.length_append];omega)
 have c2:(b.take (p+n+4).toNat).drop (p+n).toNat=s4:=B55 (x:=pre++(A7 n++body)) (z:=rest) (by rw [e];simp only [List.append_assoc]) (by simp only [List.length_append];omega) (by simp only [List.length_append];omega)
 have gb:=fun a=>(T6 hB (by omega) a)
 obtain ⟨_,d4,d5,d6⟩:=A3y body (by omega)
 obtain ⟨d1,dS⟩:=B56 hB (by omega)
 have m1:decide (0≤p∧p≤p+n∧p+n≤(b.length:Int))=true:=decide_eq_true (by omega)
 have m2:decide (0≤p+n∧p+n≤p+n+4∧p+n+4≤(b.length:Int))=true:=decide_eq_true (by omega)
 have m3:decide ((([]:List Int).length+body.length)*1≤MAXB)=true:=decide_eq_true (by simp only [List.length_nil,MAXB];omega)
 have m4:decide (0≤(0:Int)∧(0:Int)≤(4:Int)∧(4:Int)≤(((I7 body).size:Nat):Int))=true:=decide_eq_true (by rw [dS];omega)
 simp only [c1,c2,m1,m2,m3,m4,d1,List.nil_append,gb,Bool.true_and]
 cases h2:(gN body 0).2.2 with
 | false=>exact ⟨rfl,.inr rfl⟩
 | true =>
 cases h3:(gN body (gN body 0).2.1).2.2 with
 | false=>exact ⟨rfl,.inr rfl⟩
 | true =>
 simp only [Bool.not_true,cond_false]
 cases hs:((⟨(s4.map fun n=>UInt8.ofNat n.toNat).toArray⟩:ByteArray).toList==((I7 body).extract (0:Int).toNat (4:Int).toNat).toList) with
 | false=>exact ⟨rfl,.inr rfl⟩
 | true =>
 have hs4:s4=A3x body:=by rw [dS] at hs;exact (B5I h4).1 hs
 simp only [Bool.not_true,cond_false]
 generalize e1:gN body 0=x1 at *
 obtain ⟨k,p1,o1⟩:=x1
 simp only at h2 h3 ⊢
 subst h2
 obtain ⟨r1,y1,z1,_,_⟩:=B8f hB e1
 subst z1
 generalize e2:gN body ((A7 k).length:Int)=x2 at *
 obtain ⟨t,p2,o2⟩:=x2
 simp only at h3 ⊢
 subst h3
 obtain ⟨r2,y2,z2,_,_⟩:=B9e (pre:=A7 k) (rest:=r1) (by rw [← y1];exact hB) (by rw [← y1];exact e2)
 subst z2
 have y3:body=(A7 k++A7 t)++r2:=by rw [y1,y2,List.append_assoc]
 have hlb:=congrArg List.length y3
 rw [List.length_append] at hlb
 have hr2:okB r2:=okB.right (by rw [← y3];exact hB)
 have fin:∀ l,E1 k t l=true→A5 k t l=body→∃ k' t' l' pre' post', (k,t,l,p+n+4,true)=(k', t', l', ((pre'.length+(K7 k' t' l').length:Nat):Int),true)∧E1 k' t' l'=true∧b=pre'++(K7 k' t' l'++post')∧a=(pre'.length:Int):=by
  intro l hw hbd
  have hE:p+n+4=((pre.length+(K7 k t l).length:Nat):Int):=by
   rw [K7,hbd,el];simp only [List.length_append,d5];omega
  refine ⟨k,t,l,pre,rest,by rw [hE],hw,?_,ea⟩
  ·rw [K7,hbd,el,e,hs4];simp only [List.append_assoc]
 have et:(body.drop ((A7 k++A7 t).length:Int).toNat).take ((body.length:Int).toNat - ((A7 k++A7 t).length:Int).toNat)=r2:=by
  rw [Int.toNat_natCast,Int.toNat_natCast]
  rw [show body.drop (A7 k++A7 t).length=r2 by rw [y3,List.drop_left]]
  exact List.take_of_length_le (by omega)
 by_cases hr:((A7 k++A7 t).length:Int)<(body.length:Int)
 ·obtain ⟨so1,so2⟩:=A9D hr2 (by omega)
  have m5:decide (0≤((A7 k++A7 t).length:Int)∧((A7 k++A7 t).length:Int)≤(body.length:Int)∧(body.length:Int)≤(body.length:Int))=true:=decide_eq_true (by omega)
  simp only [decide_eq_true hr,cond_true,et,so1,so2,m5,Bool.true_and]
  cases ho:(B3y r2).2 with
  | false=>exact ⟨rfl,.inr rfl⟩
  | true =>
   obtain ⟨m1,m2⟩:=B8N hr2 (l:=(B3y r2).1) (by rw [← ho])
   simp only [Bool.not_true,cond_false,O5,B0B m1]
   cases hw:E1 k t (B3y r2).1 with
   | false=>exact ⟨trivial,.inr rfl⟩
   | true =>
    refine ⟨trivial,.inl (fin _ hw ?_)⟩
    have hk:(k==1)=true:=by
     cases hk:(k==1) with
     | true=>rfl
     | false =>
      obtain ⟨a1,a2,a3,a4,a7,a8,a9⟩:=Z9 hw
      have:=A8y m1
      rw [a8 (by simpa using hk)] at this;simp at this
    rw [A5,hk,cond_true,← m2,y3,List.append_assoc]
 ·simp only [decide_eq_false hr,cond_false,O5]
  have hr0:r2=[]:=List.eq_nil_of_length_eq_zero (by omega)
  cases hw:E1 k t [] with
  | false=>exact ⟨rfl,.inr rfl⟩
  | true =>
   refine ⟨rfl,.inl (fin _ hw ?_)⟩
   have hk:(k==1)=false:=by
    cases hk:(k==1) with
    | false=>rfl
    | true =>
     obtain ⟨a1,a2,a3,a4,a7,a8,a9⟩:=Z9 hw
     have:=A8y (a7 (eq_of_beq hk))
     simp at this
   rw [A5,hk,cond_false,y3,hr0,List.append_nil,List.append_nil]
theorem B6b {b:List Int} (hb:okB b) (hl:b.length≤1099511627776) {i:Nat} (hi:i<b.length) :
    (match pN 5 0 0 (b.drop i) with
      | some (n,l)=>T1 b (i:Int) 0 0=(0,(n:Int),(i:Int)+l,true)
      | none=>T1 b (i:Int) 0 0=(0,0,0,false)∨(T1 b (i:Int) 0 0).1=1):=by
  refine itX_inv (fun v => ∃ k n : Nat, v = (b, ((i + k : Nat) : Int), (n : Int), (k : Int)) ∧ k ≤ 5 ∧ n < 2 ^ (7 * k) ∧ pN (5 - k) k n (b.drop (i + k)) = pN 5 0 0 (b.drop i)) (fun a => match pN 5 0 0 (b.drop i) with
      | some (n,l)=>a=(0,(n:Int),(i:Int)+l,true)
      | none=>a=(0,0,0,false)∨a.1=1) (fun v=>5 - v.2.2.2.toNat) ?_ ⟨0,0,rfl,by omega,by simp,rfl⟩ (by simp)
  rintro v ⟨k,n,rfl,hk,hn,hp⟩
  by_cases h5:k<5
  · have e1:decide ((k:Int)<5)=true:=decide_eq_true (by omega)
    by_cases hik:i+k<b.length
    · have e5:decide (((i+k:Nat):Int)<(b.length:Int))=true:=decide_eq_true (by omega)
      have e6:decide (0≤((i+k:Nat):Int)∧((i+k:Nat):Int)<(b.length:Int))=true:=decide_eq_true (by omega)
      have e7:decide (0≤(IntKind.wrap .u64 (IntKind.wrap .i64 ((7:Int)*(k:Int)))))=true:=by
        rw [wrap64 (n:=(7:Int)*(k:Int)) (by omega) (by omega),B1g (by omega) (by omega)];exact decide_eq_true (by omega)
      obtain ⟨hc0,hc1⟩:=hb.getD (i+k)
      have hdc:=B2Y hik
      obtain ⟨c,hc⟩:=Int.eq_ofNat_of_zero_le hc0
      rw [hc] at hc1 hdc
      have hc255:c≤255:=by omega
      obtain ⟨f1,f2,f3⟩:=C0F n c k hc255 h5 hn
      have e8:IntKind.wrap .i64 (c:Int)=(c:Int):=wrap64 (by omega) (by omega)
      have e13:IntKind.wrap .i64 (((i+k:Nat):Int)+1)=((i+k+1:Nat):Int):=wrapU (i+k) (by omega)
      rw [hdc,show 5 - k=(4 - k)+1 by omega,pN] at hp
      simp only [Int.toNat_natCast] at hp
      simp only [A08,e1,e5,e6,e7,cond_true,Int.toNat_natCast,hc,f1,e13]
      simp only [e8]
      by_cases h127:c > 127
      · rw [if_pos (by omega)] at hp
        have e9:decide ((c:Int)<128)=false:=decide_eq_false (by omega)
        simp only [e9,cond_false]
        refine .inl ⟨_,rfl,⟨k+1,n+c % 128*2 ^ (7*k),?_,by omega,f2,?_⟩,?_⟩
        · rw [wrapU k (by omega)];rfl
        · rw [show 5 - (k+1)=4 - k by omega,← hp];rfl
        · rw [wrapU k (by omega)];simp;omega
      · rw [if_neg (by omega)] at hp
        have e9:decide ((c:Int)<128)=true:=decide_eq_true (by omega)
        have hcm:c % 128=c:=by omega
        rw [hcm] at f3 ⊢
        simp only [e9,cond_true]
        right
        by_cases hz:0<k∧c=0
        · rw [if_pos (by omega)] at hp
          have e10:decide ((k:Int) > 0)=true:=decide_eq_true (by omega)
          have e11:((c:Int)==0)=true:=by rw [beq_iff_eq];omega
          simp only [e10,e11,cond_true]
          exact ⟨_,rfl,by rw [← hp];exact .inl rfl⟩
        · by_cases hg:n+c*2 ^ (7*k) > 1000000000
          · rw [if_pos (.inr hg)] at hp
            have e12:decide (((n+c*2 ^ (7*k):Nat):Int) > 1000000000)=true:=decide_eq_true (by omega)
            simp only [e12,cond_true]
            refine ⟨(0,0,0,false),?_,by rw [← hp];exact .inl rfl⟩
            cases decide ((k:Int) > 0)<;>cases ((c:Int)==0)<;>rfl
          · rw [if_neg (fun h=>h.elim (fun h=>hz ⟨h.1,by omega⟩) hg)] at hp
            have e12:decide (((n+c*2 ^ (7*k):Nat):Int) > 1000000000)=false:=decide_eq_false (by omega)
            simp only [e12,cond_false]
            refine ⟨(0,((n+c*2 ^ (7*k):Nat):Int),((i+k+1:Nat):Int),true),?_,?_⟩
            · by_cases h0:0<k
              · have e10:decide ((k:Int) > 0)=true:=decide_eq_true (by omega)
                have e11:((c:Int)==0)=false:=by rw [beq_eq_false_iff_ne];intro h;exact hz ⟨h0,by omega⟩
                simp only [e10,e11,cond_true,cond_false]
              · have e10:decide ((k:Int) > 0)=false:=decide_eq_false (by omega)
                simp only [e10,cond_false]
                cases ((c:Int)==0)<;>rfl
            · rw [← hp];show _=_
              congr 3
    · have e5:decide (((i+k:Nat):Int)<(b.length:Int))=false:=decide_eq_false (by omega)
      rw [show 5 - k=(4 - k)+1 by omega,List.drop_eq_nil_of_le (by omega),pN] at hp
      simp only [A08,e1,e5,cond_true,cond_false]
      exact .inr ⟨_,rfl,by rw [← hp];exact .inr rfl⟩
  · obtain rfl:k=5:=by omega
    have e1:decide (((5:Nat):Int)<5)=false:=by decide
    simp only [A08,e1,cond_false]
    exact .inr ⟨_,rfl,by rw [← hp];exact .inr rfl⟩
theorem A2r {b:List Int} (hb:okB b) (hl:b.length≤1099511627776) (a:Int):B9 b a=gN b a∧Q2 b a=true:=by
 have hw:IntKind.wrap .i64 ((b.length:Int) - 1)=(b.length:Int) - 1:=wrap64 (by omega) (by omega)
 simp only [B9,Q2,gN,U2,hw]
 by_cases h:0≤a∧a<b.length
 ·obtain ⟨i,rfl⟩:=Int.eq_ofNat_of_zero_le h.1
  have hi:i<b.length:=by omega
  have e1:decide ((i:Int) ≥ 0)=true:=decide_eq_true (by omega)
  have e2:decide ((i:Int)≤(b.length:Int) - 1)=true:=decide_eq_true (by omega)
  rw [if_pos h,Int.toNat_natCast]
  simp only [e1,e2,cond_true,Bool.not_true,cond_false]
  have:=B6b hb hl hi
  cases hp:pN 5 0 0 (b.drop i) with
  | some x =>
   rw [hp] at this
   simp only at this
   rw [this];exact ⟨rfl,rfl⟩
  | none =>
   rw [hp] at this
   rcases this with h1 | h1
   ·rw [h1];exact ⟨rfl,rfl⟩
   ·rw [h1];exact ⟨rfl,rfl⟩
 ·rw [if_neg h]
  have e:cond (decide (a ≥ 0)) (decide (a≤(b.length:Int) - 1)) false=false:=by
   by_cases h1:a ≥ 0
   ·rw [decide_eq_true h1,cond_true,decide_eq_false (by omega)]
   ·rw [decide_eq_false h1,cond_false]
  rw [e];exact ⟨rfl,rfl⟩
theorem Y3 {b:List Int} (hb:okB b) (hl:b.length≤1048576) (a:Int) (bad:Bool):B8 b a bad=true∧A6 b a bad=cond bad ((0:Int),b,a,true) (cond (gN b a).2.2 ((gN b a).1,b,(gN b a).2.1,false) ((0:Int),b,a,true)):=by
 obtain ⟨h1,h2⟩:=A2r hb (by omega) a
 simp only [A6,B8,h1,h2]
 cases bad<;>cases (gN b a).2.2<;>simp
noncomputable def B6K (b:List Int) (a:Int):Option (Lq1×Int) :=
 cond (gN b a).2.2 (cond (decide ((gN b a).1≤8)) (pO (gN b a).1.toNat b (gN b a).2.1 []) none) none
theorem B2l {b:List Int} (hb:okB b) (hl:b.length≤1099511627776) (a:Int):A6e b a=gT b a∧A0l b a=true:=by
 obtain ⟨h1,h2⟩:=A2r hb hl a
 obtain ⟨h3,h4⟩:=B9f hb hl a
 rw [h3]
 simp only [A6e,A0l,h1,h2,Bool.true_and]
 exact ⟨trivial,h4⟩
theorem A81 {b:List Int} (hb:okB b) (hl:b.length≤1048576) (a:Int) (bad:Bool):C6 b a bad=true∧T0 b a bad=cond bad ((⟨#[]⟩:ByteArray),b,a,true) (cond (gT b a).2.2 ((gT b a).1,b,(gT b a).2.1,false) ((⟨#[]⟩:ByteArray),b,a,true)):=by
 obtain ⟨h1,h2⟩:=B2l hb (by omega) a
 simp only [T0,C6,h1,h2]
 cases bad<;>cases (gT b a).2.2<;>simp
theorem B4X {b:List Int} (hb:okB b) (hl:b.length≤1048576) (a:Int) (bad:Bool) :
  B8 b a bad=true∧C6 (A6 b a bad).2.1 (A6 b a bad).2.2.1 (A6 b a bad).2.2.2=true ∧
  C6 (B3 b a bad).2.1 (B3 b a bad).2.2.1 (B3 b a bad).2.2.2=true ∧
  (B6 b a bad).2.1=b∧(B3 b a bad).1.size≤b.length∧(B6 b a bad).1.size≤b.length ∧
  (bad=true→(B6 b a bad).2.2.2=true) ∧
  (bad=false→(B6 b a bad).2.2.2=!(gO b a).2.2) ∧
  (bad=false→(gO b a).2.2=true→(B6 b a bad).2.2.1=(gO b a).2.1∧((A6 b a bad).1,(B3 b a bad).1,(B6 b a bad).1)=(gO b a).1):=by
 obtain ⟨n1,n2⟩:=Y3 hb hl a bad
 have nb:(A6 b a bad).2.1=b:=by rw [n2];cases bad<;>cases (gN b a).2.2<;>rfl
 have t:=fun (x:Int) (y:Bool)=>A81 hb hl x y
 have tb:∀ x y,(T0 b x y).2.1=b:=fun x y=>by rw [(t x y).2];cases y<;>cases (gT b x).2.2<;>rfl
 have ts:∀ x y,(T0 b x y).1.size≤b.length:=fun x y=>by
  rw [(t x y).2]
  cases y with
  | true=>exact Nat.zero_le _
  | false=>cases (gT b x).2.2 with
   | true=>exact B3z hb x
   | false=>exact Nat.zero_le _
 refine ⟨n1,by rw [nb];exact (t _ _).1,?_,?_,?_,?_,?_,?_,?_⟩
 ·simp only [B3,nb,tb];exact (t _ _).1
 ·simp only [B6,B3,nb,tb]
 ·simp only [B3,nb];exact ts _ _
 ·simp only [B6,B3,nb,tb];exact ts _ _
 ·rintro rfl
  simp only [B6,B3,nb,tb]
  simp only [n2,t,cond_true]
 ·rintro rfl
  simp only [B6,B3,nb,tb]
  simp only [n2,cond_false,gO]
  cases h1:(gN b a).2.2 with
  | false=>simp only [cond_false,t,cond_true];rfl
  | true =>
   simp only [cond_true,t,cond_false]
   cases h2:(gT b (gN b a).2.1).2.2 with
   | false=>simp only [cond_false,cond_true];rfl
   | true =>
    simp only [cond_true,cond_false]
    cases h3:(gT b (gT b (gN b a).2.1).2.1).2.2<;>rfl
 ·rintro rfl hc
  simp only [B6,B3,nb,tb]
  simp only [gO,Bool.and_eq_true] at hc ⊢
  obtain ⟨h1,h2,h3⟩:=hc
  simp only [n2,cond_false,h1,cond_true,t,h2,h3]
  exact ⟨trivial,trivial⟩
theorem B1G {b:List Int} (hb:okB b) (hl:b.length≤1048576) (n p:Int) (bad:Bool) (hn:n≤8) (h0:0≤n) :
    (I4 n 0 b p bad []).1=0∧(I4 n 0 b p bad []).2.1=b∧D6 (I4 n 0 b p bad []).2.2.2.2=true∧(match cond bad none (pO n.toNat b p []) with
      | some (l,q)=>I4 n 0 b p bad []=(0,b,q,false,l)
      | none=>(I4 n 0 b p bad []).2.2.2.1=true):=by
  refine itX_inv (fun v : U1 => ∃ (i : Nat) (p' : Int) (bd : Bool) (l : Lq1), v = (n, (i : Int), b, p', bd, l) ∧ (i : Int) ≤ n ∧ l.length = i ∧ D6 l = true ∧ cond bd none (pO (n.toNat - i) b p' l) = cond bad none (pO n.toNat b p [])) (fun a : M4 => a.1 = 0 ∧ a.2.1 = b ∧ D6 a.2.2.2.2 = true ∧ (match cond bad none (pO n.toNat b p []) with
      | some (l,q)=>a=(0,b,q,false,l)
      | none=>a.2.2.2.1=true)) (fun v=>8 - v.2.1.toNat) ?_ ⟨0,p,bad,[],rfl,h0,rfl,rfl,rfl⟩ (by simp)
  rintro v ⟨i,p', bd,l,rfl,hi,hll,hok,hp⟩
  by_cases h5:(i:Int)<n
  · have e1:decide ((i:Int)<n)=true:=decide_eq_true h5
    obtain ⟨q1,q2,q3,q4,q5,q6,q7,q8,q9⟩:=B4X hb hl p' bd
    have e2:∀ o:Int×ByteArray×ByteArray,decide ((l.length+[o].length)*40≤MAXB)=true:=fun o=>decide_eq_true (by simp only [List.length_singleton,MAXB];omega)
    simp only [Z1,e1,q1,q2,q3,q4,e2,cond_true]
    refine .inl ⟨_,rfl,⟨i+1,_,_,l++[((A6 b p' bd).1,(B3 b p' bd).1,(B6 b p' bd).1)],by rw [wrapU i (by omega)],by omega,by simp [hll],?_,?_⟩,?_⟩
    · simp only [D6,okL,List.length_append,List.length_singleton,List.all_append,List.all_cons,List.all_nil,Bool.and_true,Bool.and_eq_true,decide_eq_true_eq] at hok ⊢
      exact ⟨by omega,hok.2,by simp only [B7A,okS,Bool.and_eq_true,decide_eq_true_eq];omega⟩
    · rw [← hp]
      cases bd with
      | true=>rw [q7 rfl];rfl
      | false =>
        rw [q8 rfl,show n.toNat - i=(n.toNat - (i+1))+1 by omega,pO]
        cases hc:(gO b p').2.2 with
        | false=>rfl
        | true =>
          obtain ⟨z1,z2⟩:=q9 rfl hc
          rw [z1,z2];rfl
    · rw [wrapU i (by omega)];simp;omega
  · have e1:decide ((i:Int)<n)=false:=decide_eq_false h5
    have e3:n.toNat - i=0:=by omega
    rw [e3,pO] at hp
    simp only [Z1,e1,cond_false]
    refine .inr ⟨_,rfl,rfl,rfl,hok,?_⟩
    rw [← hp]
    cases bd<;>rfl
theorem A4t {b:List Int} (hb:okB b) (hl:b.length≤1048576) (a:Int) (bad:Bool):P1 b a bad=true∧(K1 b a bad).1=b∧D6 (K1 b a bad).2.2.2=true ∧
  (match cond bad none (B6K b a) with
   | some (l,q)=>K1 b a bad=(b,q,false,l)
   | none=>(K1 b a bad).2.2.1=true):=by
 obtain ⟨n1,n2⟩:=Y3 hb hl a bad
 have nb:(A6 b a bad).2.1=b:=by rw [n2];cases bad<;>cases (gN b a).2.2<;>rfl
 have nr:0≤(A6 b a bad).1:=by
  rw [n2]
  cases bad with
  | true=>exact Int.le_refl _
  | false=>cases h:(gN b a).2.2 with
   | true=>exact (A6c hb h).2.2.2.1
   | false=>exact Int.le_refl _
 simp only [K1,P1,A01,n1,nb,Bool.true_and]
 by_cases h8:(A6 b a bad).1≤8
 ·have e1:decide ((A6 b a bad).1 > 8)=false:=decide_eq_false (by omega)
  obtain ⟨i1,i2,i3,i4⟩:=B1G hb hl (A6 b a bad).1 (A6 b a bad).2.2.1 (A6 b a bad).2.2.2 h8 nr
  simp only [e1,cond_false,i1,i2,i3]
  refine ⟨rfl,trivial,trivial,?_⟩
  revert i4
  rw [n2]
  cases bad with
  | true=>simp
  | false =>
   simp only [cond_false,B6K]
   cases h:(gN b a).2.2 with
   | false=>simp
   | true =>
    have h9:decide ((gN b a).1≤8)=true:=by rw [n2] at h8;simp only [cond_false,h,cond_true] at h8;exact decide_eq_true h8
    simp only [cond_true,h9,cond_false]
    cases pO (gN b a).1.toNat b (gN b a).2.1 [] with
    | none=>exact id
    | some x=>intro i4;simp only at i4 ⊢;rw [i4]
 ·have e1:decide ((A6 b a bad).1 > 8)=true:=decide_eq_true (by omega)
  simp only [e1,cond_true]
  refine ⟨trivial,trivial,rfl,?_⟩
  cases bad with
  | true=>simp
  | false =>
   simp only [cond_false,B6K]
   rw [n2] at h8
   cases h:(gN b a).2.2 with
   | false=>rw [h] at h8;simp at h8
   | true =>
    simp only [cond_false,h,cond_true] at h8
    simp only [cond_true,decide_eq_false h8,cond_false]
theorem A27 {k t:Int} {l:Lq1} (h:E1 k t l=true):M5 k t l=true∧A0e k t l=K7 k t l:=by
 obtain ⟨a1,a2,a3,a4,a7,a8,ho⟩:=Z9 h
 obtain ⟨b1,b2,b3⟩:=A0o h
 obtain ⟨d2,d4,d5,d6⟩:=A3y (A5 k t l) (by omega)
 have e0:F0 t (C4 k)=A7 k++A7 t:=by
  rw [A1f,A26,K5 (by omega) (by omega),K5 (by omega) (by omega)]
 have e1:∀ n:Nat,n≤410→C4 (n:Int)=A7 (n:Int):=fun n hn=>by rw [A26,K5 (by omega) (by omega)]
 have sz:((H8 (A5 k t l)).extract 0 4).size=4:=by rw [ByteArray.size_extract,d4];rfl
 have lb:=L8 ((A5 k t l).length:Int)
 have l0:=A5A k
 have lk:=L8 k
 have lt:=L8 t
 cases hk:(k==1) with
 | true =>
  have hs:=a7 (eq_of_beq hk)
  have hl:=A8y hs
  have hd:decide ((l.length:Int) > 0)=true:=decide_eq_true (by omega)
  have oe:A46 l (A7 k++A7 t)=A5 k t l:=by
   obtain ⟨c1,_⟩:=O4 hs
   rw [B6g l _ ho,K5 (by omega) (by omega)]
   simp only [A5,hk,cond_true,List.append_assoc,A1V]
  refine ⟨?_,?_⟩
  ·simp only [M5,C9,A2I,hd,ho,e0,oe,e1 _ b2,d2,d4,cond_true,Bool.true_and,Int.toNat_zero,List.length_append]
   rw [show ((4:Int).toNat)=4 from rfl,sz]
   simp only [Bool.and_eq_true,Bool.and_true,MAXB,d4]
   repeat' first | exact B6J (by omega) | exact trivial | refine And.intro ?_ ?_
  ·simp only [A0e,hd,e0,oe,e1 _ b2,cond_true]
   simp only [K7,A3x,List.append_assoc];rfl
 | false =>
  have hn:=a8 (by rw [beq_eq_false_iff_ne] at hk;exact hk)
  have hd:decide ((l.length:Int) > 0)=false:=decide_eq_false (by rw [hn];simp)
  have be:A7 k++A7 t=A5 k t l:=by simp only [A5,hk,cond_false,List.append_nil]
  refine ⟨?_,?_⟩
  ·simp only [M5,C9,hd,e0,be,e1 _ b2,d2,d4,cond_false,Bool.true_and,Int.toNat_zero,List.length_append]
   rw [show ((4:Int).toNat)=4 from rfl,sz]
   simp only [Bool.and_eq_true,MAXB,d4]
   repeat' first | exact B6J (by omega) | exact trivial | refine And.intro ?_ ?_
  ·simp only [A0e,hd,e0,be,e1 _ b2,cond_false]
   simp only [K7,A3x,List.append_assoc];rfl
theorem A7t {a b:List Int} (ha:okB a) (hb:okB b):N8 a b=true↔a=b:=by
 have e:N8 a b=((A7d a).toList==(A7d b).toList):=rfl
 rw [e,beq_iff_eq]
 constructor
 ·intro h
  have h2:A7d a=A7d b:=by
   have h3:=congrArg (fun l=>(⟨l.toArray⟩:ByteArray)) h
   have k:∀ s:ByteArray,(⟨s.toList.toArray⟩:ByteArray)=s:=fun s=>by rw [ByteArray.toList_eq]
   simpa only [k] using h3
  rw [← A2D ha,← A2D hb,h2]
 ·rintro rfl;rfl
theorem B6k (s:ByteArray) (i:Nat):A5l s i=A45 s i:=by
 have hb:0≤bt s (i:Int)∧bt s (i:Int)<256:=by
  unfold bt
  split
  ·have:=UInt8.toNat_lt s[(i:Int).toNat];omega
  ·simp
 have e:=wrap64 (n:=bt s (i:Int)) (by omega) (by omega)
 simp only [A5l,A45,J6,A25,e]
 generalize bt s (i:Int)=c
 by_cases h1:c ≥ 97<;>by_cases h2:c≤122<;>by_cases h3:c ≥ 48<;>by_cases h4:c≤57<;>simp [h1,h2,h3,h4]
theorem B6l (s:ByteArray):A1n s=A3W s:=by
 have e:allF (A5l s) (s.size - (0:Int).toNat) (0:Int).toNat=allF (A45 s) (s.size - (0:Int).toNat) (0:Int).toNat:=B1m _ _ (fun j _ _=>B6k s j)
 simp only [A1n,A3W,B1c,U2,J6,e]
 cases allF (A45 s) (s.size - (0:Int).toNat) (0:Int).toNat<;>cases decide ((s.size:Int) ≥ 1)<;>cases decide ((s.size:Int)≤12)<;>rfl
theorem B7C (k:Int) (s v:ByteArray):A6L k s v=B1H k s v:=by
 simp only [A6L,B1H,B6l,B9s,J6]
 cases A3W s with
 | false =>
  by_cases h1:k=1<;>by_cases h2:k=2<;>by_cases h3:k=3<;>by_cases h4:v=⟨#[]⟩<;>by_cases h5:k ≥ 1<;>by_cases h6:k≤3<;>simp [h1,h2,h3,h4,h5,h6]<;>omega
 | true =>
  by_cases h2:k=2
  ·subst h2
   by_cases h4:v=⟨#[]⟩
   ·subst h4;simp [ByteArray.size]
   ·simp [h4]
  ·by_cases h1:k=1
   ·subst h1;simp
   ·by_cases h3:k=3
    ·subst h3;simp
    ·by_cases h5:k ≥ 1<;>by_cases h6:k≤3<;>simp [h1,h2,h3,h5,h6]<;>omega
theorem B7B (l:Lq1) (i:Nat):A3o l i=B0y l i:=by
 simp only [A3o,B0y,B7C]
 rw [← A8L,Bool.not_not]
theorem B6p (l:Lq1):I5 l=B1F l:=by
 have e:allF (A3o l) (l.length - (0:Int).toNat) (0:Int).toNat=allF (B0y l) (l.length - (0:Int).toNat) (0:Int).toNat:=B1m _ _ (fun j _ _=>B7B l j)
 simp only [I5,B1F,e]
 rfl
theorem A1m (k t:Int) (l:Lq1):E1 k t l=A2d k t l:=by
 simp only [E1,A2d,B0z,B6p]
 rw [show U2 t 1 1000000=J6 t 1 1000000 from rfl]
 cases J6 t 1 1000000<;>simp
theorem B6c {b:List Int} (hb:okB b) (hl:b.length≤1048576) (a:Int):A0C b a=true∧((∃ k t l pre post,V4 b a=(k,t,((pre.length+(K7 k t l).length:Nat):Int),true,l)∧E1 k t l=true∧b=pre++(K7 k t l++post)∧a=(pre.length:Int))∨V4 b a=(0,0,a,false,[])):=by
 obtain ⟨g1,g2⟩:=A2r hb (by omega) a
 simp only [V4,A0C,g1,g2,P0,T4,A29,A8n,A49,A3c,A8o,A5a,Bool.true_and]
 cases h1:(gN b a).2.2 with
 | false=>exact ⟨rfl,.inr rfl⟩
 | true =>
 obtain ⟨r1,r2,r3,r4,r5⟩:=A6c hb h1
 generalize eg:gN b a=g at *
 obtain ⟨n,p,o⟩:=g
 simp only at h1 r1 r2 r3 r4 r5 ⊢
 subst h1
 obtain ⟨w1,w2,w3,w4⟩:=B4n (len:=(b.length:Int)) (p:=p) (n:=n) ⟨by omega,by omega⟩ ⟨by omega,by omega⟩ ⟨by omega,by omega⟩
 simp only [w1,w2,w3,w4,Bool.not_true,cond_false]
 by_cases hn:n > (b.length:Int) - p - 4
 ·simp only [decide_eq_true hn,cond_true];exact ⟨trivial,.inr trivial⟩
 simp only [decide_eq_false hn,cond_false]
 obtain ⟨pre,body,s4,rest,e,ea,ep,el,e4,n1,n0,hB,h4⟩:=B6M hb hl eg hn
 have hlen:=congrArg List.length e
 simp only [List.length_append] at hlen
 have c1:(b.take (p+n).toNat).drop p.toNat=body:=B55 (x:=pre++A7 n) (z:=s4++rest) (by rw [e];simp only [List.append_assoc]) (by rw [List.length_append];omega) (by rw [List.length_append];omega)
 have c3:(b.take (p+n+4).toNat).drop a.toNat=A7 n++(body++s4):=B55 (x:=pre) (z:=rest) (by rw [e];simp only [List.append_assoc]) ea (by simp only [List.length_append];omega)
 have hlB:body.length≤1048576:=by omega
 have gn:=fun a bad=>Y3 hB hlB a bad
 have nb:∀ a bad,(A6 body a bad).2.1=body:=fun a bad=>by rw [(gn a bad).2];cases bad<;>cases (gN body a).2.2<;>rfl
 have gq:∀ a bad,B8 body a bad=true:=fun a bad=>(gn a bad).1
 have go:=fun a bad=>A4t hB hlB a bad
 have m1:decide (0≤p∧p≤p+n∧p+n≤(b.length:Int))=true:=decide_eq_true (by omega)
 have m2:decide (0≤a∧a≤p+n+4∧p+n+4≤(b.length:Int))=true:=decide_eq_true (by omega)
 have h3B:okB (A7 n++(body++s4)):=(A2u n0 n1).app (hB.app h4)
 have fin:∀ k t l,E1 k t l=true→N8 (A0e k t l) (A7 n++(body++s4))=true→∃ k' t' l' pre' post', (k,t,p+n+4,true,l)=(k', t', ((pre'.length+(K7 k' t' l').length:Nat):Int),true,l')∧E1 k' t' l'=true∧b=pre'++(K7 k' t' l'++post')∧a=(pre'.length:Int):=by
  intro k t l hw he
  obtain ⟨_,i2⟩:=A27 hw
  rw [i2] at he
  have he:=(A7t (A9B hw).1 h3B).1 he
  have hE:p+n+4=((pre.length+(K7 k t l).length:Nat):Int):=by rw [he];simp only [List.length_append,e4];omega
  refine ⟨k,t,l,pre,rest,by rw [hE],hw,?_,ea⟩
  rw [he,e];simp only [List.append_assoc]
 simp only [c1,c3,m1,m2,nb,gq,Bool.true_and]
 generalize A6 body 0 false=x1
 generalize A6 body x1.2.2.1 x1.2.2.2=x2
 cases hk:(x1.1==1) with
 | true =>
  obtain ⟨o1,o2,o3,o4⟩:=go x2.2.2.1 x2.2.2.2
  simp only [cond_true,o1,Bool.true_and]
  cases hbad:(K1 body x2.2.2.1 x2.2.2.2).2.2.1 with
  | true=>exact ⟨rfl,.inr rfl⟩
  | false =>
   simp only [cond_false,J5,o3,Bool.true_and]
   cases hw:A2d x1.1 x2.1 (K1 body x2.2.2.1 x2.2.2.2).2.2.2 with
   | false=>exact ⟨rfl,.inr rfl⟩
   | true =>
    rw [← A1m] at hw
    simp only [Bool.not_true,cond_false,(A27 hw).1,Bool.and_self]
    cases he:N8 (A0e x1.1 x2.1 (K1 body x2.2.2.1 x2.2.2.2).2.2.2) (A7 n++(body++s4)) with
    | false=>exact ⟨trivial,.inr rfl⟩
    | true=>exact ⟨trivial,.inl (fin _ _ _ hw he)⟩
 | false =>
  simp only [cond_false]
  cases hbad:x2.2.2.2 with
  | true=>exact ⟨rfl,.inr rfl⟩
  | false =>
   have o3:D6 []=true:=rfl
   simp only [cond_false,J5,o3,Bool.true_and]
   cases hw:A2d x1.1 x2.1 [] with
   | false=>exact ⟨rfl,.inr rfl⟩
   | true =>
    rw [← A1m] at hw
    simp only [Bool.not_true,cond_false,(A27 hw).1,Bool.and_self]
    cases he:N8 (A0e x1.1 x2.1 []) (A7 n++(body++s4)) with
    | false=>exact ⟨trivial,.inr rfl⟩
    | true=>exact ⟨trivial,.inl (fin _ _ _ hw he)⟩
theorem B9J:∀ (j k n x:Nat) (post:List Int),x<128 ^ (j+1)→(0<k→0<x)→n+x*2 ^ (7*k)≤1000000000→pN (j+1) k n (hiB j x++post)=some (n+x*2 ^ (7*k),k+(hiB j x).length):=by
 intro j
 induction j with
 | zero =>
  intro k n x post h1 h2 h3
  have hx:¬ 127<x:=by simp at h1;omega
  rw [A1S 0 x hx]
  simp only [List.cons_append,List.nil_append,pN,List.length_singleton,Int.toNat_natCast]
  rw [if_neg (by omega),if_neg (by omega)]
 | succ j ih =>
  intro k n x post h1 h2 h3
  by_cases hx:127<x
  ·have hb : x < 9223372036854775808 := by
    have:x*1≤x*2 ^ (7*k):=Nat.mul_le_mul_left _ (Nat.pow_pos (by decide))
    omega
   rw [B1E j x hx hb]
   have hx':x / 128<128 ^ (j+1):=Nat.div_lt_of_lt_mul (by rw [Nat.pow_succ] at h1;rw [Nat.mul_comm];exact h1)
   have e:n+x % 128*2 ^ (7*k)+x / 128*2 ^ (7*(k+1))=n+x*2 ^ (7*k):=by
    rw [show 7*(k+1)=7*k+7 by omega,Nat.pow_add]
    have:=Nat.div_add_mod x 128
    have h4:x*2 ^ (7*k)=(128*(x / 128)+x % 128)*2 ^ (7*k):=by rw [this]
    rw [h4,Nat.add_mul,show (2:Nat) ^ 7=128 from rfl,Nat.mul_comm 128 (x / 128),Nat.mul_assoc,Nat.mul_comm 128 (2 ^ (7*k)),← Nat.mul_assoc]
    omega
   have:=ih (k+1) (n+x % 128*2 ^ (7*k)) (x / 128) post hx' (fun _=>by omega) (by rw [e];exact h3)
   simp only [List.cons_append,pN]
   rw [if_pos (by omega)]
   have e2:(((128+x % 128:Nat):Int).toNat % 128)=x % 128:=by omega
   rw [e2,this,e]
   simp only [List.length_cons]
   congr 2;omega
  ·rw [A1S _ x hx]
   simp only [List.cons_append,List.nil_append,pN,List.length_singleton,Int.toNat_natCast]
   rw [if_neg (by omega),if_neg (by omega)]
theorem B9L {n:Int} (h0:0≤n) (h1:n≤1000000000) (post:List Int):pN 5 0 0 (A7 n++post)=some (n.toNat,(A7 n).length):=by
 obtain ⟨x,rfl⟩:=Int.eq_ofNat_of_zero_le h0
 rw [B1d,B9J 4 0 0 x post (by simp;omega) (by omega) (by simp;omega)]
 simp
theorem A9Z {n:Int} (h0:0≤n) (h1:n≤1000000000) (pre post:List Int):gN (pre++(A7 n++post)) (pre.length:Int)=(n,(pre.length:Int)+(A7 n).length,true):=by
 have hl:1≤(A7 n).length:=by simp [A7]
 simp only [gN]
 rw [if_pos (by simp only [List.length_append];omega),Int.toNat_natCast,List.drop_left,B9L h0 h1]
 show ((n.toNat:Int),_,_)=_
 rw [Int.toNat_of_nonneg h0]
theorem B6R {k t:Int} {l:Lq1} (h:E1 k t l=true) {b pre post:List Int} (e:b=pre++(K7 k t l++post)) :
  gN b (pre.length:Int)=(((A5 k t l).length:Int),(pre.length:Int)+((A7 ((A5 k t l).length:Int)).length:Int),true) ∧
  gN (A5 k t l) 0=(k,((A7 k).length:Int),true)∧gN (A5 k t l) ((A7 k).length:Int)=(t,((A7 k++A7 t).length:Int),true) ∧
  b.length=pre.length+(A7 ((A5 k t l).length:Int)).length+(A5 k t l).length+4+post.length:=by
 obtain ⟨a1,a2,a3,a4,a7,a8,ho⟩:=Z9 h
 obtain ⟨b1,b2,b3⟩:=A0o h
 obtain ⟨_,_,d5,d6⟩:=A3y (A5 k t l) (by omega)
 have h1:=A9Z (n:=((A5 k t l).length:Int)) (by omega) (by omega) pre ((A5 k t l++A3x (A5 k t l))++post)
 have h2:=A9Z (n:=k) (by omega) (by omega) [] (A7 t++cond (k==1) (A1V l) [])
 have h3:=A9Z (n:=t) (by omega) (by omega) (A7 k) (cond (k==1) (A1V l) [])
 have e':b=pre++(A7 ((A5 k t l).length:Int)++((A5 k t l++A3x (A5 k t l))++post)):=by rw [e,K7,List.append_assoc]
 rw [← e'] at h1
 refine ⟨h1,?_,?_,?_⟩
 ·simpa [A5] using h2
 ·rw [List.length_append,Int.natCast_add];exact h3
 ·rw [e'];simp only [List.length_append,d5];omega
theorem B6Q {k t:Int} {l:Lq1} (h:E1 k t l=true) {b pre post:List Int} (e:b=pre++(K7 k t l++post)) (hl:b.length≤1048576) :
  (b.take ((pre.length:Int)+((A7 ((A5 k t l).length:Int)).length:Int)+((A5 k t l).length:Int)).toNat).drop ((pre.length:Int)+((A7 ((A5 k t l).length:Int)).length:Int)).toNat=A5 k t l ∧
  (b.take ((pre.length:Int)+((A7 ((A5 k t l).length:Int)).length:Int)+((A5 k t l).length:Int)+4).toNat).drop ((pre.length:Int)+((A7 ((A5 k t l).length:Int)).length:Int)+((A5 k t l).length:Int)).toNat=A3x (A5 k t l) ∧
  (b.take ((pre.length:Int)+((A7 ((A5 k t l).length:Int)).length:Int)+((A5 k t l).length:Int)+4).toNat).drop (pre.length:Int).toNat=K7 k t l:=by
 obtain ⟨b1,b2,b3⟩:=A0o h
 obtain ⟨_,_,d5,d6⟩:=A3y (A5 k t l) (by omega)
 refine ⟨B55 (x:=pre++A7 ((A5 k t l).length:Int)) (z:=A3x (A5 k t l)++post) ?_ ?_ ?_,B55 (x:=pre++(A7 ((A5 k t l).length:Int)++A5 k t l)) (z:=post) ?_ ?_ ?_,B55 (x:=pre) (z:=post) e rfl ?_⟩
 ·rw [e,K7];simp only [List.append_assoc]
 ·rw [List.length_append,Int.natCast_add]
 ·rw [List.length_append,Int.natCast_add]
 ·rw [e,K7];simp only [List.append_assoc]
 ·simp only [List.length_append,Int.natCast_add];omega
 ·simp only [List.length_append,Int.natCast_add,d5];omega
 ·simp only [K7,List.length_append,Int.natCast_add,d5];omega
theorem B6L {s:ByteArray} (h:s.size≤1000000000) (pre post:List Int):gT (pre++(H9 s++post)) (pre.length:Int)=(s,(pre.length:Int)+(H9 s).length,true):=by
 have h1:=A9Z (n:=(s.size:Int)) (by omega) (by omega) pre (strInts s++post)
 have e:pre++(H9 s++post)=pre++(A7 (s.size:Int)++(strInts s++post)):=by simp only [H9,List.append_assoc]
 rw [e]
 simp only [gT,h1]
 have hs:=A3H s
 rw [if_pos ⟨trivial,by simp only [List.length_append];omega⟩]
 have e2:((pre.length:Int)+((A7 (s.size:Int)).length:Int)).toNat=pre.length+(A7 (s.size:Int)).length:=by omega
 rw [e2,Int.toNat_natCast,← List.append_assoc,← List.length_append,List.drop_left,List.take_left' hs,B3i]
 congr 2
 simp only [H9,List.length_append];omega
theorem C0M {o:Int×ByteArray×ByteArray} (h:B57 o) (pre post:List Int):gO (pre++(opB o++post)) (pre.length:Int)=(o,(pre.length:Int)+(opB o).length,true):=by
 obtain ⟨h0,h1,h2,h3⟩:=h
 have e:opB o=A7 o.1++(H9 o.2.1++H9 o.2.2):=by simp only [opB,K5 h0 h1]
 have q1:=A9Z h0 h1 pre (H9 o.2.1++(H9 o.2.2++post))
 have q2:=B6L h2 (pre++A7 o.1) (H9 o.2.2++post)
 have q3:=B6L h3 (pre++A7 o.1++H9 o.2.1) post
 have e1:pre++(opB o++post)=pre++(A7 o.1++(H9 o.2.1++(H9 o.2.2++post))):=by simp only [e,List.append_assoc]
 have e2:pre++(opB o++post)=pre++A7 o.1++(H9 o.2.1++(H9 o.2.2++post)):=by simp only [e,List.append_assoc]
 have e3:pre++(opB o++post)=pre++A7 o.1++H9 o.2.1++(H9 o.2.2++post):=by simp only [e,List.append_assoc]
 rw [← e1] at q1;rw [← e2] at q2;rw [← e3] at q3
 have l1:((pre++A7 o.1).length:Int)=(pre.length:Int)+(A7 o.1).length:=by simp
 have l2:((pre++A7 o.1++H9 o.2.1).length:Int)=((pre++A7 o.1).length:Int)+(H9 o.2.1).length:=by simp;omega
 rw [l1] at q2;rw [l2,l1] at q3
 simp only [gO,q1,q2,q3,Bool.and_true]
 congr 2
 simp only [e,List.length_append];omega
theorem B9M:∀ (l:Lq1) (pre post:List Int) (acc:Lq1),(∀ o∈l,B57 o)→pO l.length (pre++((l.map opB).flatten++post)) (pre.length:Int) acc=some (acc++l,(pre.length:Int)+(l.map opB).flatten.length):=by
 intro l
 induction l with
 | nil=>intro pre post acc _;simp [pO]
 | cons o l ih =>
  intro pre post acc h
  have h1:=C0M (h o (by simp)) pre ((l.map opB).flatten++post)
  have h2:=ih (pre++opB o) post (acc++[o]) (fun x hx=>h x (by simp [hx]))
  have e:pre++(((o::l).map opB).flatten++post)=pre++(opB o++((l.map opB).flatten++post)):=by simp
  have e2:pre++opB o++((l.map opB).flatten++post)=pre++(opB o++((l.map opB).flatten++post)):=by simp
  rw [e2,List.length_append,Int.natCast_add] at h2
  rw [e]
  simp only [List.length_cons,pO,h1,cond_true,h2]
  simp only [List.append_assoc,List.singleton_append,List.map_cons,List.flatten_cons,List.length_append,Int.natCast_add]
  congr 2;omega
theorem B8u {l:Lq1} (h:I5 l=true) (pre post:List Int):gN (pre++(A1V l++post)) (pre.length:Int)=((l.length:Int),((pre++A7 (l.length:Int)).length:Int),true)∧pO l.length (pre++(A1V l++post)) ((pre++A7 (l.length:Int)).length:Int) []=some (l,(((pre++A1V l).length:Nat):Int)):=by
 obtain ⟨a1,_⟩:=O4 h
 have e:pre++(A1V l++post)=pre++(A7 (l.length:Int)++((l.map opB).flatten++post)):=by simp only [A1V,List.append_assoc]
 have h1:=A9Z (n:=(l.length:Int)) (by omega) (by omega) pre ((l.map opB).flatten++post)
 have h2:=B9M l (pre++A7 (l.length:Int)) post [] (B3g h)
 rw [List.append_assoc] at h2
 rw [e]
 refine ⟨?_,?_⟩
 ·rw [h1,List.length_append,Int.natCast_add]
 ·rw [h2];simp only [List.nil_append,A1V,List.length_append,Int.natCast_add];congr 2;omega
theorem B4W {k t:Int} {l:Lq1} (h:E1 k t l=true) {b pre post:List Int} (e:b=pre++(K7 k t l++post)) (hb:okB b) (hl:b.length≤1048576):V4 b (pre.length:Int)=(k,t,((pre.length+(K7 k t l).length:Nat):Int),true,l):=by
 obtain ⟨a1,a2,a3,a4,a7,a8,ho⟩:=Z9 h
 obtain ⟨b1,b2,b3⟩:=A0o h
 obtain ⟨_,d4,d5,d6⟩:=A3y (A5 k t l) (by omega)
 obtain ⟨n1,n2,n3,hlen⟩:=B6R h e
 obtain ⟨c1,c2,c3⟩:=B6Q h e hl
 have g1:=(A2r hb (by omega) (pre.length:Int)).1
 have ln:=L8 ((A5 k t l).length:Int)
 obtain ⟨w1,w2,w3,w4⟩:=B4n (len:=(b.length:Int)) (p:=(pre.length:Int)+((A7 ((A5 k t l).length:Int)).length:Int)) (n:=((A5 k t l).length:Int)) ⟨by omega,by omega⟩ ⟨by omega,by omega⟩ ⟨by omega,by omega⟩
 have hd:decide (((A5 k t l).length:Int) > (b.length:Int) - ((pre.length:Int)+((A7 ((A5 k t l).length:Int)).length:Int)) - 4)=false:=decide_eq_false (by omega)
 have hend:(pre.length:Int)+((A7 ((A5 k t l).length:Int)).length:Int)+((A5 k t l).length:Int)+4=((pre.length+(K7 k t l).length:Nat):Int):=by simp only [K7,List.length_append,d5,Int.natCast_add];omega
 have gn:=fun a bad=>(Y3 b1 (by omega) a bad).2
 have hw:A2d k t l=true:=by rw [← A1m];exact h
 have he:N8 (A0e k t l) (K7 k t l)=true:=by rw [(A27 h).2];exact (A7t (A9B h).1 (A9B h).1).2 rfl
 simp only [V4,P0,T4,A29,A8n,A49,A3c,A8o,A5a,g1,n1,w1,w2,w3,w4,hd,c1,c3,gn,n2,n3,Bool.not_true,cond_false,cond_true]
 cases hk:(k==1) with
 | true =>
  have hO:=a7 (eq_of_beq hk)
  have hlo:=(O4 hO).1
  obtain ⟨_,_,_,o4⟩:=A4t b1 (by omega) ((A7 k++A7 t).length:Int) false
  have eb:A5 k t l=(A7 k++A7 t)++(A1V l++[]):=by simp only [A5,hk,cond_true,List.append_assoc,List.append_nil]
  obtain ⟨p1,p2⟩:=B8u hO (A7 k++A7 t) []
  rw [← eb] at p1 p2
  have e8:decide ((l.length:Int)≤8)=true:=decide_eq_true (by omega)
  simp only [cond_false,B6K,p1,cond_true,e8,Int.toNat_natCast,p2] at o4
  simp only [cond_true,o4,cond_false,hw,Bool.not_true,he,hend]
 | false =>
  have hl0:l=[]:=a8 (by simpa using hk)
  subst hl0
  simp only [cond_false,hw,Bool.not_true,he,hend]
theorem B8i {l:Lq1} (h:I5 l=true):B3y (A1V l)=(l,true):=by
 obtain ⟨a1,_⟩:=O4 h
 obtain ⟨h1,h2⟩:=B8u h [] []
 simp only [List.nil_append,List.append_nil,List.length_nil] at h1 h2
 have h1':gN (A1V l) 0=((l.length:Int),((A7 (l.length:Int)).length:Int),true):=h1
 simp only [B3y,h1']
 rw [if_pos ⟨trivial,by omega⟩,Int.toNat_natCast,h2]
 simp only
 rw [if_pos ⟨trivial,h⟩]
theorem B5B {k t:Int} {l:Lq1} (h:E1 k t l=true) {b pre post:List Int} (e:b=pre++(K7 k t l++post)) (hb:okB b) (hl:b.length≤1048576):A03 b (pre.length:Int)=(k,t,l,((pre.length+(K7 k t l).length:Nat):Int),true):=by
 obtain ⟨a1,a2,a3,a4,a7,a8,ho⟩:=Z9 h
 obtain ⟨b1,b2,b3⟩:=A0o h
 obtain ⟨_,d4,d5,d6⟩:=A3y (A5 k t l) (by omega)
 have dS:=(B56 b1 (by omega)).2
 obtain ⟨n1,n2,n3,hlen⟩:=B6R h e
 obtain ⟨c1,c2,c3⟩:=B6Q h e hl
 have g1:=(T6 hb (by omega) (pre.length:Int)).1
 have gb:=fun a=>(T6 b1 (by omega) a).1
 have ln:=L8 ((A5 k t l).length:Int)
 obtain ⟨w1,w2,w3,w4⟩:=B4n (len:=(b.length:Int)) (p:=(pre.length:Int)+((A7 ((A5 k t l).length:Int)).length:Int)) (n:=((A5 k t l).length:Int)) ⟨by omega,by omega⟩ ⟨by omega,by omega⟩ ⟨by omega,by omega⟩
 have hd:decide (((A5 k t l).length:Int) > (b.length:Int) - ((pre.length:Int)+((A7 ((A5 k t l).length:Int)).length:Int)) - 4)=false:=decide_eq_false (by omega)
 have hs:((A7d (A3x (A5 k t l))).toList==((I7 (A5 k t l)).extract (0:Int).toNat (4:Int).toNat).toList)=true:=by rw [dS];exact (B5I d6).2 rfl
 simp only [A7d] at hs
 have hend:(pre.length:Int)+((A7 ((A5 k t l).length:Int)).length:Int)+((A5 k t l).length:Int)+4=((pre.length+(K7 k t l).length:Nat):Int):=by simp only [K7,List.length_append,d5,Int.natCast_add];omega
 simp only [A03,C5,B1,A0k,L7,g1,n1,w1,w2,w3,w4,hd,c1,c2,List.nil_append,gb,n2,n3,hs,Bool.not_true,cond_false]
 cases hk:(k==1) with
 | true =>
  have hO:=a7 (eq_of_beq hk)
  have eb:A5 k t l=(A7 k++A7 t)++A1V l:=by simp only [A5,hk,cond_true,List.append_assoc]
  have hpos:1≤(A1V l).length:=by simp [A1V,A7];omega
  have lb:=congrArg List.length eb
  rw [List.length_append] at lb
  have e1:decide (((A7 k++A7 t).length:Int)<(((A5 k t l).length:Nat):Int))=true:=decide_eq_true (by omega)
  have e2:((A5 k t l).drop ((A7 k++A7 t).length:Int).toNat).take ((((A5 k t l).length:Nat):Int).toNat - ((A7 k++A7 t).length:Int).toNat)=A1V l:=by
   rw [Int.toNat_natCast,Int.toNat_natCast]
   rw [show (A5 k t l).drop (A7 k++A7 t).length=A1V l by rw [eb,List.drop_left]]
   exact List.take_of_length_le (by omega)
  have g2:=(A9D (B6P hO) (by have:=B5d hO;omega)).1
  rw [B8i hO] at g2
  simp only [e1,cond_true,e2,g2,Bool.not_true,cond_false,h,hend]
 | false =>
  have hl0:l=[]:=a8 (by simpa using hk)
  have eb:A5 k t l=A7 k++A7 t:=by simp only [A5,hk,cond_false,List.append_nil]
  have e1:decide (((A7 k++A7 t).length:Int)<(((A5 k t l).length:Nat):Int))=false:=decide_eq_false (by rw [eb];omega)
  simp only [e1,cond_false,cond_true]
  subst hl0
  simp only [h,Bool.not_true,cond_false,hend]
theorem B4V {b:List Int} (hb:okB b) (hl:b.length≤1048576) (a:Int):A0E b a=true∧A0C b a=true∧((∃ k t l pre post,A03 b a=(k,t,l,((pre.length+(K7 k t l).length:Nat):Int),true)∧V4 b a=(k,t,((pre.length+(K7 k t l).length:Nat):Int),true,l)∧E1 k t l=true∧b=pre++(K7 k t l++post)∧a=(pre.length:Int))∨A03 b a=(0,0,[],a,false)∧V4 b a=(0,0,a,false,[])):=by
 obtain ⟨s1,s2⟩:=B6F hb hl a
 obtain ⟨i1,i2⟩:=B6c hb hl a
 refine ⟨s1,i1,?_⟩
 rcases s2 with ⟨k,t,l,pre,post,e1,e2,e3,rfl⟩ | e1
 ·exact .inl ⟨k,t,l,pre,post,e1,B4W e2 e3 hb hl,e2,e3,rfl⟩
 ·rcases i2 with ⟨k,t,l,pre,post,f1,f2,f3,rfl⟩ | f1
  ·rw [B5B f2 f3 hb hl] at e1
   simp at e1
  ·exact .inr ⟨e1,f1⟩
theorem B6d {k t:Int} {l:Lq1} (ho:D6 l=true):A0D k t l=true∧A80 k t l=cond (E1 k t l) (K7 k t l) []:=by
 cases h:E1 k t l with
 | false=>simp only [A0D,A80,J5,ho,← A1m,h,Bool.not_false,cond_true,cond_false];exact ⟨rfl,trivial⟩
 | true =>
  obtain ⟨c1,c2⟩:=A27 h
  simp only [A0D,A80,J5,ho,← A1m,h,c1,c2,Bool.not_true,cond_true,cond_false];exact ⟨rfl,trivial⟩
theorem B17 {l:List Int} (h:l.length≤1048576):T5 l l=true∧A5b l l=true:=by
 have hn:((l.length:Int) != (l.length:Int))=false:=by simp
 have key:(U3 l l 0).1=1:=by
  refine itX_inv (fun v:W2=>∃ i:Nat,v=(l,l,(i:Int))∧i≤l.length) (fun a:P6=>a.1=1) (fun v=>l.length - v.2.2.toNat) ?_ ⟨0,rfl,Nat.zero_le _⟩ (by simp;omega)
  rintro v ⟨i,rfl,hi⟩
  by_cases hlt:i<l.length
  ·have e1:decide ((i:Int)<(l.length:Int))=true:=decide_eq_true (by omega)
   have e2:decide (0≤(i:Int)∧(i:Int)<(l.length:Int))=true:=decide_eq_true (by omega)
   have e3:(l.getD i (0:Int) != l.getD i (0:Int))=false:=by simp
   simp only [A0f,e1,e2,Int.toNat_natCast,e3,cond_true,cond_false,wrapU i (by omega)]
   exact .inl ⟨_,rfl,⟨i+1,rfl,by omega⟩,by simp only [Int.toNat_natCast];omega⟩
  ·have e1:decide ((i:Int)<(l.length:Int))=false:=decide_eq_false (by omega)
   simp only [A0f,e1,cond_false]
   exact .inr ⟨_,rfl,rfl⟩
 simp only [T5,A5b,hn,key,cond_false]
 exact ⟨rfl,rfl⟩
theorem A9C {b:List Int} (h:bigT B4 b=true):V2 b=true∧A0B b=true:=by
 have hb:=B8F h
 cases hd:lbig b with
 | true=>simp only [V2,A0B,hd,cond_true];exact ⟨trivial,trivial⟩
 | false =>
  have hl:b.length≤1048576:=by simp only [lbig] at hd;have:=of_decide_eq_false hd;omega
  obtain ⟨a1,a2,a3⟩:=B0w hb hl
  simp only [V2,A0B,A0Z,A00,A3a,hd,a1,cond_false,Bool.true_and]
  generalize F4 b=r at *
  obtain ⟨g1,g2,g3⟩:=B4V a2 (by omega) r.1
  have e0:∀ x:Bool,(x==x)=true:=fun x=>by simp
  have n0:∀ x:Int,(x != x)=false:=fun x=>by simp
  have e1:∀ x:Int,(x==x)=true:=fun x=>by simp
  rcases g3 with ⟨k,t,l,pre,post,s1,i1,hw,eb,ea⟩ | ⟨s1,i1⟩
  ·have ho:=(Z9 hw).2.2.2.2.2.2
   obtain ⟨w1,w2,w3⟩:=A9B hw
   obtain ⟨p1,p2⟩:=B6d (k:=k) (t:=t) ho
   rw [hw,cond_true] at p2
   have hlen:=congrArg List.length eb
   simp only [List.length_append] at hlen
   have hc:(r.2.drop r.1.toNat).take (((pre.length+(K7 k t l).length:Nat):Int).toNat - r.1.toNat)=K7 k t l:=by
    rw [ea,Int.toNat_natCast,Int.toNat_natCast,eb,List.drop_left,List.take_left' (by omega)]
   have hD:decide (0≤r.1∧r.1≤((pre.length+(K7 k t l).length:Nat):Int)∧((pre.length+(K7 k t l).length:Nat):Int)≤(r.2.length:Int))=true:=decide_eq_true (by omega)
   obtain ⟨sb1,sb2⟩:=B17 (l:=K7 k t l) (by omega)
   simp only [g1,g2,s1,i1,e0,n0,p1,p2,hc,hD,sb1,sb2,J5,ho,← A1m,hw,Bool.not_true,cond_false,cond_true,Bool.and_self]
   exact ⟨trivial,trivial⟩
  ·simp only [g1,g2,s1,i1,e0,e1,n0,Bool.not_true,Bool.not_false,cond_false,cond_true,Bool.and_self]
   exact ⟨trivial,trivial⟩
theorem A8s (b:List Int) (h:bigT B4 b=true):U4 (b,())=true:=(A9C h).1
theorem A8V (b:List Int) (h:bigT B4 b=true):A0B b=true:=(A9C h).2

end Go.Proofs.Ytccelbeahdcooaa.Eng
