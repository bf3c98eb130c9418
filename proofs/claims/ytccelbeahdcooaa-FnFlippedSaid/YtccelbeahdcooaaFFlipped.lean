/- What the functions that FnFlipped reaches compute: further. -/
import Derived.Test.YtccelbeahdcooaaFFlippedB
namespace Go.Proofs.Ytccelbeahdcooaa.Eng
open Go Go.RowKit
set_option linter.unusedSimpArgs false
set_option linter.unusedVariables false
set_option maxRecDepth 10000
abbrev A3Z:List PSh:=[.t B5,.t (.int .i64)]
noncomputable def C2 (a0:List Int) (a1:Int):=let z1:=A4 a0 a1;A4 (([]:List Int)++((a0.take (IntKind.wrap .i64 ((z1.2.1)+(z1.1))).toNat).drop (z1.2.1).toNat)) (0:Int)
noncomputable def B2 (a0:List Int) (a1:Int):=let z1:=A4 a0 a1;A4 (([]:List Int)++((a0.take (IntKind.wrap .i64 ((z1.2.1)+(z1.1))).toNat).drop (z1.2.1).toNat)) ((C2 a0 a1).2.1)
noncomputable def Y7 (a0:List Int) (a1:Int):=let z1:=A4 a0 a1;A0M (([]:List Int)++((a0.take (IntKind.wrap .i64 ((z1.2.1)+(z1.1))).toNat).drop (z1.2.1).toNat))
noncomputable def K6 (a0:List Int) (a1:Int):=let z2:=A4 a0 a1;let z1:=([]:List Int)++((a0.take (IntKind.wrap .i64 ((z2.2.1)+(z2.1))).toNat).drop (z2.2.1).toNat);let z3:=(B2 a0 a1).2.1;B0L ((z1.drop (z3.toNat)).take (((z1.length:Nat):Int).toNat - z3.toNat))
noncomputable def A1l (a0:List Int) (a1:Int):Int×Int×Lq1×Int×Bool:=(cond (!((A4 a0 a1).2.2)) ((0:Int),(0:Int),[],a1,false) (cond (decide (((A4 a0 a1).1) > (IntKind.wrap .i64 ((IntKind.wrap .i64 ((a0.length:Int) - ((A4 a0 a1).2.1))) - (4:Int))))) ((0:Int),(0:Int),[],a1,false) (cond (!((C2 a0 a1).2.2)) ((0:Int),(0:Int),[],a1,false) (cond (!((B2 a0 a1).2.2)) ((0:Int),(0:Int),[],a1,false) (cond (!((⟨(((a0.take (IntKind.wrap .i64 ((IntKind.wrap .i64 (((A4 a0 a1).2.1)+((A4 a0 a1).1)))+(4:Int))).toNat).drop (IntKind.wrap .i64 (((A4 a0 a1).2.1)+((A4 a0 a1).1))).toNat).map fun n=>UInt8.ofNat n.toNat).toArray⟩:ByteArray).toList==((Y7 a0 a1).extract (0:Int).toNat (4:Int).toNat).toList)) ((0:Int),(0:Int),[],a1,false) (cond (decide (((B2 a0 a1).2.1)<(((([]:List Int)++((a0.take (IntKind.wrap .i64 (((A4 a0 a1).2.1)+((A4 a0 a1).1))).toNat).drop ((A4 a0 a1).2.1).toNat)).length:Nat):Int))) (cond (!((K6 a0 a1).2)) ((0:Int),(0:Int),[],a1,false) (cond (!(E5 ((C2 a0 a1).1) ((B2 a0 a1).1) ((K6 a0 a1).1))) ((0:Int),(0:Int),[],a1,false) (((C2 a0 a1).1),((B2 a0 a1).1),((K6 a0 a1).1),IntKind.wrap .i64 ((IntKind.wrap .i64 (((A4 a0 a1).2.1)+((A4 a0 a1).1)))+(4:Int)),true))) (cond (!(E5 ((C2 a0 a1).1) ((B2 a0 a1).1) [])) ((0:Int),(0:Int),[],a1,false) (((C2 a0 a1).1),((B2 a0 a1).1),[],IntKind.wrap .i64 ((IntKind.wrap .i64 (((A4 a0 a1).2.1)+((A4 a0 a1).1)))+(4:Int)),true))))))))
noncomputable abbrev C9 (r:Int×Int×Lq1×Int×Bool):AV×List AObj:=((.tup [(.agg [(ti r.1),(ti r.2.1),(.t true tq2 r.2.2.1)]),(ti r.2.2.2.1),(.t true .bool r.2.2.2.2)]),[])
noncomputable abbrev A9J:pshsDen A3Z→AV×List AObj:=fun d=>C9 (A1l d.1 d.2.1)
noncomputable def A0l (a0:List Int) (a1:Int):Bool:=(D8 a0 a1)&&(cond (!((A4 a0 a1).2.2)) true (cond (decide (((A4 a0 a1).1) > (IntKind.wrap .i64 ((IntKind.wrap .i64 ((a0.length:Int) - ((A4 a0 a1).2.1))) - (4:Int))))) true ((decide (0≤((A4 a0 a1).2.1)∧((A4 a0 a1).2.1)≤(IntKind.wrap .i64 (((A4 a0 a1).2.1)+((A4 a0 a1).1)))∧(IntKind.wrap .i64 (((A4 a0 a1).2.1)+((A4 a0 a1).1)))≤(a0.length:Int)))&&((decide ((([]:List Int).length+((a0.take (IntKind.wrap .i64 (((A4 a0 a1).2.1)+((A4 a0 a1).1))).toNat).drop ((A4 a0 a1).2.1).toNat).length)*1≤MAXB))&&((D8 (([]:List Int)++((a0.take (IntKind.wrap .i64 (((A4 a0 a1).2.1)+((A4 a0 a1).1))).toNat).drop ((A4 a0 a1).2.1).toNat)) (0:Int))&&((D8 (([]:List Int)++((a0.take (IntKind.wrap .i64 (((A4 a0 a1).2.1)+((A4 a0 a1).1))).toNat).drop ((A4 a0 a1).2.1).toNat)) ((C2 a0 a1).2.1))&&(cond (!((C2 a0 a1).2.2)) true (cond (!((B2 a0 a1).2.2)) true ((decide (0≤(IntKind.wrap .i64 (((A4 a0 a1).2.1)+((A4 a0 a1).1)))∧(IntKind.wrap .i64 (((A4 a0 a1).2.1)+((A4 a0 a1).1)))≤(IntKind.wrap .i64 ((IntKind.wrap .i64 (((A4 a0 a1).2.1)+((A4 a0 a1).1)))+(4:Int)))∧(IntKind.wrap .i64 ((IntKind.wrap .i64 (((A4 a0 a1).2.1)+((A4 a0 a1).1)))+(4:Int)))≤(a0.length:Int)))&&((A0k (([]:List Int)++((a0.take (IntKind.wrap .i64 (((A4 a0 a1).2.1)+((A4 a0 a1).1))).toNat).drop ((A4 a0 a1).2.1).toNat)))&&((decide (0≤(0:Int)∧(0:Int)≤(4:Int)∧(4:Int)≤(((Y7 a0 a1).size:Nat):Int)))&&(cond (!((⟨(((a0.take (IntKind.wrap .i64 ((IntKind.wrap .i64 (((A4 a0 a1).2.1)+((A4 a0 a1).1)))+(4:Int))).toNat).drop (IntKind.wrap .i64 (((A4 a0 a1).2.1)+((A4 a0 a1).1))).toNat).map fun n=>UInt8.ofNat n.toNat).toArray⟩:ByteArray).toList==((Y7 a0 a1).extract (0:Int).toNat (4:Int).toNat).toList)) true (cond (decide (((B2 a0 a1).2.1)<(((([]:List Int)++((a0.take (IntKind.wrap .i64 (((A4 a0 a1).2.1)+((A4 a0 a1).1))).toNat).drop ((A4 a0 a1).2.1).toNat)).length:Nat):Int))) ((decide (0≤((B2 a0 a1).2.1)∧((B2 a0 a1).2.1)≤(((([]:List Int)++((a0.take (IntKind.wrap .i64 (((A4 a0 a1).2.1)+((A4 a0 a1).1))).toNat).drop ((A4 a0 a1).2.1).toNat)).length:Nat):Int)∧(((([]:List Int)++((a0.take (IntKind.wrap .i64 (((A4 a0 a1).2.1)+((A4 a0 a1).1))).toNat).drop ((A4 a0 a1).2.1).toNat)).length:Nat):Int)≤(((([]:List Int)++((a0.take (IntKind.wrap .i64 (((A4 a0 a1).2.1)+((A4 a0 a1).1))).toNat).drop ((A4 a0 a1).2.1).toNat)).length:Nat):Int)))&&((A03 (((([]:List Int)++((a0.take (IntKind.wrap .i64 (((A4 a0 a1).2.1)+((A4 a0 a1).1))).toNat).drop ((A4 a0 a1).2.1).toNat)).drop (((B2 a0 a1).2.1).toNat)).take ((((([]:List Int)++((a0.take (IntKind.wrap .i64 (((A4 a0 a1).2.1)+((A4 a0 a1).1))).toNat).drop ((A4 a0 a1).2.1).toNat)).length:Nat):Int).toNat - ((B2 a0 a1).2.1).toNat)))&&(cond (!((K6 a0 a1).2)) true (A0I ((C2 a0 a1).1) ((B2 a0 a1).1) ((K6 a0 a1).1))))) (A0I ((C2 a0 a1).1) ((B2 a0 a1).1) []))))))))))))))
noncomputable abbrev A6b:pshsDen A3Z→Bool:=fun d=>A0l d.1 d.2.1
theorem B41:RunP true G57 aLn Try.f34 A3Z A6b A9J:=by
 rintro ⟨a0,⟨a1,_⟩⟩ hp
 change A0l a0 a1=true at hp
 unfold A0l at hp
 refine Eq.trans (b:=(cond (D8 a0 a1) (cond (!((A4 a0 a1).2.2)) (some (C9 ((0:Int),(0:Int),[],a1,false))) (cond (decide (((A4 a0 a1).1) > (IntKind.wrap .i64 ((IntKind.wrap .i64 ((a0.length:Int) - ((A4 a0 a1).2.1))) - (4:Int))))) (some (C9 ((0:Int),(0:Int),[],a1,false))) (cond (decide (0≤((A4 a0 a1).2.1)∧((A4 a0 a1).2.1)≤(IntKind.wrap .i64 (((A4 a0 a1).2.1)+((A4 a0 a1).1)))∧(IntKind.wrap .i64 (((A4 a0 a1).2.1)+((A4 a0 a1).1)))≤(a0.length:Int))) (cond (decide ((([]:List Int).length+((a0.take (IntKind.wrap .i64 (((A4 a0 a1).2.1)+((A4 a0 a1).1))).toNat).drop ((A4 a0 a1).2.1).toNat).length)*1≤MAXB)) (cond (D8 (([]:List Int)++((a0.take (IntKind.wrap .i64 (((A4 a0 a1).2.1)+((A4 a0 a1).1))).toNat).drop ((A4 a0 a1).2.1).toNat)) (0:Int)) (cond (D8 (([]:List Int)++((a0.take (IntKind.wrap .i64 (((A4 a0 a1).2.1)+((A4 a0 a1).1))).toNat).drop ((A4 a0 a1).2.1).toNat)) ((C2 a0 a1).2.1)) (cond (!((C2 a0 a1).2.2)) (some (C9 ((0:Int),(0:Int),[],a1,false))) (cond (!((B2 a0 a1).2.2)) (some (C9 ((0:Int),(0:Int),[],a1,false))) (cond (decide (0≤(IntKind.wrap .i64 (((A4 a0 a1).2.1)+((A4 a0 a1).1)))∧(IntKind.wrap .i64 (((A4 a0 a1).2.1)+((A4 a0 a1).1)))≤(IntKind.wrap .i64 ((IntKind.wrap .i64 (((A4 a0 a1).2.1)+((A4 a0 a1).1)))+(4:Int)))∧(IntKind.wrap .i64 ((IntKind.wrap .i64 (((A4 a0 a1).2.1)+((A4 a0 a1).1)))+(4:Int)))≤(a0.length:Int))) (cond (A0k (([]:List Int)++((a0.take (IntKind.wrap .i64 (((A4 a0 a1).2.1)+((A4 a0 a1).1))).toNat).drop ((A4 a0 a1).2.1).toNat))) (cond (decide (0≤(0:Int)∧(0:Int)≤(4:Int)∧(4:Int)≤(((Y7 a0 a1).size:Nat):Int))) (cond (!((⟨(((a0.take (IntKind.wrap .i64 ((IntKind.wrap .i64 (((A4 a0 a1).2.1)+((A4 a0 a1).1)))+(4:Int))).toNat).drop (IntKind.wrap .i64 (((A4 a0 a1).2.1)+((A4 a0 a1).1))).toNat).map fun n=>UInt8.ofNat n.toNat).toArray⟩:ByteArray).toList==((Y7 a0 a1).extract (0:Int).toNat (4:Int).toNat).toList)) (some (C9 ((0:Int),(0:Int),[],a1,false))) (cond (decide (((B2 a0 a1).2.1)<(((([]:List Int)++((a0.take (IntKind.wrap .i64 (((A4 a0 a1).2.1)+((A4 a0 a1).1))).toNat).drop ((A4 a0 a1).2.1).toNat)).length:Nat):Int))) (cond (decide (0≤((B2 a0 a1).2.1)∧((B2 a0 a1).2.1)≤(((([]:List Int)++((a0.take (IntKind.wrap .i64 (((A4 a0 a1).2.1)+((A4 a0 a1).1))).toNat).drop ((A4 a0 a1).2.1).toNat)).length:Nat):Int)∧(((([]:List Int)++((a0.take (IntKind.wrap .i64 (((A4 a0 a1).2.1)+((A4 a0 a1).1))).toNat).drop ((A4 a0 a1).2.1).toNat)).length:Nat):Int)≤(((([]:List Int)++((a0.take (IntKind.wrap .i64 (((A4 a0 a1).2.1)+((A4 a0 a1).1))).toNat).drop ((A4 a0 a1).2.1).toNat)).length:Nat):Int))) (cond (A03 (((([]:List Int)++((a0.take (IntKind.wrap .i64 (((A4 a0 a1).2.1)+((A4 a0 a1).1))).toNat).drop ((A4 a0 a1).2.1).toNat)).drop (((B2 a0 a1).2.1).toNat)).take ((((([]:List Int)++((a0.take (IntKind.wrap .i64 (((A4 a0 a1).2.1)+((A4 a0 a1).1))).toNat).drop ((A4 a0 a1).2.1).toNat)).length:Nat):Int).toNat - ((B2 a0 a1).2.1).toNat))) (cond (!((K6 a0 a1).2)) (some (C9 ((0:Int),(0:Int),[],a1,false))) (cond (A0I ((C2 a0 a1).1) ((B2 a0 a1).1) ((K6 a0 a1).1)) (cond (!(E5 ((C2 a0 a1).1) ((B2 a0 a1).1) ((K6 a0 a1).1))) (some (C9 ((0:Int),(0:Int),[],a1,false))) (some (C9 (((C2 a0 a1).1),((B2 a0 a1).1),((K6 a0 a1).1),IntKind.wrap .i64 ((IntKind.wrap .i64 (((A4 a0 a1).2.1)+((A4 a0 a1).1)))+(4:Int)),true)))) none)) none) none) (cond (A0I ((C2 a0 a1).1) ((B2 a0 a1).1) []) (cond (!(E5 ((C2 a0 a1).1) ((B2 a0 a1).1) [])) (some (C9 ((0:Int),(0:Int),[],a1,false))) (some (C9 (((C2 a0 a1).1),((B2 a0 a1).1),[],IntKind.wrap .i64 ((IntKind.wrap .i64 (((A4 a0 a1).2.1)+((A4 a0 a1).1)))+(4:Int)),true)))) none))) none) none) none))) none) none) none) none))) none)) (by kernel_rfl) ?_
 exact (cndA hp fun hp=>(K5 C9 hp (fun hp=>rfl) (fun hp=>(K5 C9 hp (fun hp=>rfl) (fun hp=>(cndA hp fun hp=>(cndA hp fun hp=>(cndA hp fun hp=>(cndA hp fun hp=>(K5 C9 hp (fun hp=>rfl) (fun hp=>(K5 C9 hp (fun hp=>rfl) (fun hp=>(cndA hp fun hp=>(cndA hp fun hp=>(cndA hp fun hp=>(K5 C9 hp (fun hp=>rfl) (fun hp=>(K5 C9 hp (fun hp=>(cndA hp fun hp=>(cndA hp fun hp=>(K5 C9 hp (fun hp=>rfl) (fun hp=>(cndT hp fun _h=>(N9 C9 (fun _h=>rfl) (fun _h=>rfl)))))))) (fun hp=>(cndT hp fun _h=>(N9 C9 (fun _h=>rfl) (fun _h=>rfl)))))))))))))))))))))))
theorem B6I:aPP 34 (sumOf A3Z A6b A9J):=pcD true G57 hlz B41
noncomputable def S58:Tab:=Tab.add S57 34 (lift (sumOf A3Z A6b A9J))
noncomputable def B99:FuncId→Bool:=qadd B98 34
theorem G58:aPG S58 B99:=G57.addQ B6I (cbl Try.f34) (fun _=>rfl)

abbrev C0F:List Sh:=.junk::.junk::.junk::.junk::B7W
abbrev C1j:List Sh:=.junk::C0F
abbrev C1k:List Sh:=.junk::C0H
abbrev u21:=((),(),u19)
abbrev A2r:List PSh:=[.t tq2,.t tq2]
abbrev Q0:SS:=⟨(.t false tq2::.t false tq2::.junk::.junk::.junk::tI::C0F),[]⟩
abbrev A5r:SS:=⟨(.junk::.junk::.junk::.junk::.t true .bool::C1j),[]⟩
abbrev A5s:SS:=⟨(.junk::C1k),[]⟩
noncomputable def A7N (x0 x1:Lq1) (x5:Int):RT Q0.den:=let z1:=x0.getD x5.toNat ((0:Int),(bE,bE));let z2:=x1.getD x5.toNat ((0:Int),(bE,bE));(.br (decide (x5<(x0.length:Int))) (.br (decide (0≤x5∧x5<(x0.length:Int))) (.br (decide (0≤x5∧x5<(x1.length:Int))) (.br (!(((z1.1)==(z2.1))&&((((z1.2).1).toList==((z2.2).1).toList)&&((((z1.2).2).toList==((z2.2).2).toList)&&true)))) (.done .ret A5r (((),(),(),(),false,u22),())) (.next ((x0,x1,(),(),(),IntKind.wrap .i64 (x5+(1:Int)),u21),()))) .fail) .fail) (.done (.exit 0) A5s ((u27),())))
abbrev A0t:=(Lq1)×Lq1×(Int)
abbrev U8:=Nat×(Bool)
def A3x:U8:=(99,(false:Bool))
noncomputable def A1n (x0 x1:Lq1) (x5:Int):A0t ⊕ U8:=let z1:=x0.getD x5.toNat ((0:Int),(bE,bE));let z2:=x1.getD x5.toNat ((0:Int),(bE,bE));(cond (decide (x5<(x0.length:Int))) (cond (decide (0≤x5∧x5<(x0.length:Int))) (cond (decide (0≤x5∧x5<(x1.length:Int))) (cond (!(((z1.1)==(z2.1))&&((((z1.2).1).toList==((z2.2).1).toList)&&((((z1.2).2).toList==((z2.2).2).toList)&&true)))) (.inr (0,false)) (.inl (x0,x1,IntKind.wrap .i64 (x5+(1:Int))))) (.inr A3x)) (.inr A3x)) (.inr (1,(false:Bool))))
noncomputable def N0 (x0 x1:Lq1) (x5:Int):U8:=itX (fun v:A0t=>A1n v.1 v.2.1 v.2.2) A3x (x0,x1,x5)
noncomputable def A3s (a:U8):CT:=(.br (a.1==0) (.done .ret A5r (((),(),(),(),a.2,u22),())) (.br (a.1==1) (.done (.exit 0) A5s ((u27),())) .fail))
noncomputable def B2W (x0 x1:Lq1) (x5:Int):CT:=A3s (N0 x0 x1 x5)
noncomputable abbrev A3I:Q0.den→RT Q0.den:=(fun d=>A7N d.1.1 d.1.2.1 d.1.2.2.2.2.2.1)
noncomputable def A49:Code:=((loopsIn 0 (bodyOf Try.f80)).getD 0 (0,.skip)).2
noncomputable abbrev A7r (v:A0t):Q0.den:=((v.1,v.2.1,(),(),(),v.2.2,u21),())
theorem B2o:(∀ v:A0t,(A7N v.1 v.2.1 v.2.2).val=relS A7r A3s (A1n v.1 v.2.1 v.2.2))∧∀ a:U8,CEnd Q0.den (A3s a):=⟨fun v=>(relB (relB (relB (relB rfl rfl) rfl) rfl) rfl),fun a=>(cendB aCD (cendB aCD cendF))⟩
theorem B1r:RdA G58 aLn 0 A49 Q0 0 [] (kepts [4] [(0,[])]) (fun d=>(A3I d).opt 0 []):=by
 intro d
 kernel_rfl
noncomputable abbrev A6k:St→Option Tree:=Q0.say 0 [] [] (fun d=>B2W d.1.1 d.1.2.1 d.1.2.2.2.2.2.1)
theorem B1V:aPL A6k A49:=SS.wp2 hlz [] A3I B1r (fun d=>rfl) _ (fun d=>Runs.ofI2 (step:=A3I) A7r B2o rfl (d.1.1,d.1.2.1,d.1.2.2.2.2.2.1))
noncomputable def A2S (a0 a1:Lq1):Bool:=let z1:=N0 a0 a1 (0:Int);(cond ((a0.length:Int) != (a1.length:Int)) false (cond (z1.1==0) (z1.2) true))
noncomputable abbrev A0W (r:Bool):AV×List AObj:=((.t true .bool r),[])
noncomputable abbrev A7W:pshsDen A2r→AV×List AObj:=fun d=>A0W (A2S d.1 d.2.1)
noncomputable def U4 (a0 a1:Lq1):Bool:=let z1:=N0 a0 a1 (0:Int);cond ((a0.length:Int) != (a1.length:Int)) true (cond (z1.1==0) true (z1.1==1))
noncomputable abbrev A4P:pshsDen A2r→Bool:=fun d=>U4 d.1 d.2.1
noncomputable abbrev B5k:Nat→St→Option Tree:=fun b=>match b with | 0=>A6k | _=>fun _=>none
theorem B3M:RunP true G58 (B5k) Try.f80 A2r A4P A7W:=by
 rintro ⟨a0,⟨a1,_⟩⟩ hp
 change U4 a0 a1=true at hp
 unfold U4 at hp
 refine Eq.trans (b:=(let z1:=N0 a0 a1 (0:Int);cond ((a0.length:Int) != (a1.length:Int)) (some (A0W false)) (cond (z1.1==0) (some (A0W (z1.2))) (cond (z1.1==1) (some (A0W true)) none)))) (by kernel_rfl) ?_
 exact (K5 A0W hp (fun hp=>rfl) (fun hp=>(K5 A0W hp (fun hp=>rfl) (fun hp=>(cndT hp fun _h=>rfl)))))
theorem B5w:aPP 80 (sumOf A2r A4P A7W):=pcD true G58 (hl1 (i:=0) (by kernel_rfl) B1V) B3M
noncomputable def S59:Tab:=Tab.add S58 80 (lift (sumOf A2r A4P A7W))
noncomputable def C0a:FuncId→Bool:=qadd B99 80
theorem G59:aPG S59 C0a:=G58.addQ B5w (cbl Try.f80) (fun _=>rfl)

abbrev A2s:List PSh:=[.agg [(.int .i64),(.int .i64),tq2],.agg [(.int .i64),(.int .i64),tq2]]
noncomputable def A5X (a0 a1:Int) (a2:Lq1) (a3 a4:Int) (a5:Lq1):Bool:=(cond (a0==a3) (cond (a1==a4) (A2S a2 a5) false) false)
noncomputable abbrev A0X (r:Bool):AV×List AObj:=((.t true .bool r),[])
noncomputable abbrev A7X:pshsDen A2s→AV×List AObj:=fun d=>A0X (A5X d.1.1 d.1.2.1 d.1.2.2.1 d.2.1.1 d.2.1.2.1 d.2.1.2.2.1)
noncomputable def Z1 (a0 a1:Int) (a2:Lq1) (a3 a4:Int) (a5:Lq1):Bool:=cond (a0==a3) (cond (a1==a4) (U4 a2 a5) true) true
noncomputable abbrev A4Q:pshsDen A2s→Bool:=fun d=>Z1 d.1.1 d.1.2.1 d.1.2.2.1 d.2.1.1 d.2.1.2.1 d.2.1.2.2.1
theorem B3N:RunP true G59 aLn Try.f30 A2s A4Q A7X:=by
 rintro ⟨⟨a0,⟨a1,⟨a2,_⟩⟩⟩,⟨⟨a3,⟨a4,⟨a5,_⟩⟩⟩,_⟩⟩ hp
 change Z1 a0 a1 a2 a3 a4 a5=true at hp
 unfold Z1 at hp
 refine Eq.trans (b:=(cond (a0==a3) (cond (a1==a4) (cond (U4 a2 a5) (some (A0X (A2S a2 a5))) none) (some (A0X false))) (some (A0X false)))) (by kernel_rfl) ?_
 exact (K5 A0X hp (fun hp=>(K5 A0X hp (fun hp=>(cndT hp fun _h=>rfl)) (fun hp=>rfl))) (fun hp=>rfl))
theorem B5x:aPP 30 (sumOf A2s A4Q A7X):=pcD true G59 hlz B3N
noncomputable def S60:Tab:=Tab.add S59 30 (lift (sumOf A2s A4Q A7X))
noncomputable def C1a:FuncId→Bool:=qadd C0a 30
theorem G60:aPG S60 C1a:=G59.addQ B5x (cbl Try.f30) (fun _=>rfl)

abbrev A12:List PSh:=[.t B5]
noncomputable def N4 (a0:List Int):=let z1:=(O7 a0).getD ((0:Int).toNat) ((0:Int),((0:Int),[]));A3c (z1.1) ((z1.2).1) ((z1.2).2)
noncomputable def H7 (a0:List Int):=let z2:=N4 a0;let z1:=(Int.tmod (lat a0 (2:Int)) ((z2.length:Nat):Int)).toNat;A1h (z2.set z1 (ixor .u8 (z2.getD z1 (0:Int)) (IntKind.wrap .u8 ((1:Int)*2 ^ (min (Int.toNat (IntKind.wrap .u64 (Int.tmod (lat a0 (3:Int)) (8:Int)))) (IntKind.bits .u8)))))) (0:Int)
noncomputable def X9 (a0:List Int):=let z2:=N4 a0;let z1:=(Int.tmod (lat a0 (2:Int)) ((z2.length:Nat):Int)).toNat;A1l (z2.set z1 (ixor .u8 (z2.getD z1 (0:Int)) (IntKind.wrap .u8 ((1:Int)*2 ^ (min (Int.toNat (IntKind.wrap .u64 (Int.tmod (lat a0 (3:Int)) (8:Int)))) (IntKind.bits .u8)))))) (0:Int)
noncomputable def A1k (a0:List Int):=let z1:=(O7 a0).getD ((0:Int).toNat) ((0:Int),((0:Int),[]));let z2:=H7 a0;A5X (z2.1) (z2.2.1) (z2.2.2.2.2) (z1.1) ((z1.2).1) ((z1.2).2)
noncomputable def Y8 (a0:List Int):Bool:=let z1:=(H7 a0).2.2.2.1;(cond (lbig a0) true (cond ((((O7 a0).length:Nat):Int)==(0:Int)) (cond (!(X2 (0:Int) (0:Int) [])) (cond ((((A3c (0:Int) (0:Int) []).length:Nat):Int)==(0:Int)) (X2 (2:Int) (1:Int) []) false) false) (cond ((((N4 a0).length:Nat):Int)==(0:Int)) false (cond (z1==((X9 a0).2.2.2.2)) (cond (!z1) true (!(A1k a0))) false))))
noncomputable abbrev C1 (r:Bool):AV×List AObj:=((.t true .bool r),[])
noncomputable abbrev A8C:pshsDen A12→AV×List AObj:=fun d=>C1 (Y8 d.1)
noncomputable def Q9 (a0:List Int):Bool:=let z2:=(O7 a0).getD ((0:Int).toNat) ((0:Int),((0:Int),[]));let z4:=Int.tmod (lat a0 (3:Int)) (8:Int);let z5:=(((O7 a0).length:Nat):Int);let z6:=N4 a0;let z3:=((z6.length:Nat):Int);let z1:=Int.tmod (lat a0 (2:Int)) z3;let z7:=H7 a0;let z8:=decide (0≤(0:Int)∧(0:Int)<z5);let z9:=z6.getD (z1.toNat) (0:Int);let z10:=decide (0≤z1∧z1<z3);cond (lbig a0) true ((U5 a0)&&(cond (z5==(0:Int)) ((F9 (0:Int) (0:Int) [])&&(cond (!(X2 (0:Int) (0:Int) [])) ((T4 (0:Int) (0:Int) [])&&(cond ((((A3c (0:Int) (0:Int) []).length:Nat):Int)==(0:Int)) (F9 (2:Int) (1:Int) []) true)) true)) (z8&&((T4 (z2.1) ((z2.2).1) ((z2.2).2))&&(cond (z3==(0:Int)) true ((A5k a0 (2:Int))&&((decide (z3 ≠ 0))&&(z10&&((A5k a0 (3:Int))&&((decide (0≤(IntKind.wrap .u64 z4)))&&(z10&&((A0h (z6.set (z1.toNat) (ixor .u8 z9 (IntKind.wrap .u8 ((1:Int)*2 ^ (min (Int.toNat (IntKind.wrap .u64 z4)) (IntKind.bits .u8)))))) (0:Int))&&((A0l (z6.set (z1.toNat) (ixor .u8 z9 (IntKind.wrap .u8 ((1:Int)*2 ^ (min (Int.toNat (IntKind.wrap .u64 z4)) (IntKind.bits .u8)))))) (0:Int))&&(cond ((z7.2.2.2.1)==((X9 a0).2.2.2.2)) (cond (!(z7.2.2.2.1)) true (z8&&(Z1 (z7.1) (z7.2.1) (z7.2.2.2.2) (z2.1) ((z2.2).1) ((z2.2).2)))) true))))))))))))))
noncomputable abbrev U3:pshsDen A12→Bool:=fun d=>Q9 d.1
theorem B1F:RunP true G60 aLn Try.f6 A12 U3 A8C:=by
 rintro ⟨a0,_⟩ hp
 change Q9 a0=true at hp
 unfold Q9 at hp
 refine Eq.trans (b:=(let z2:=(O7 a0).getD ((0:Int).toNat) ((0:Int),((0:Int),[]));let z4:=Int.tmod (lat a0 (3:Int)) (8:Int);let z5:=(((O7 a0).length:Nat):Int);let z6:=N4 a0;let z3:=((z6.length:Nat):Int);let z1:=Int.tmod (lat a0 (2:Int)) z3;let z7:=H7 a0;let z8:=decide (0≤(0:Int)∧(0:Int)<z5);let z9:=z6.getD (z1.toNat) (0:Int);let z10:=decide (0≤z1∧z1<z3);cond (lbig a0) (some (C1 true)) (cond (U5 a0) (cond (z5==(0:Int)) (cond (F9 (0:Int) (0:Int) []) (cond (!(X2 (0:Int) (0:Int) [])) (cond (T4 (0:Int) (0:Int) []) (cond ((((A3c (0:Int) (0:Int) []).length:Nat):Int)==(0:Int)) (cond (F9 (2:Int) (1:Int) []) (some (C1 (X2 (2:Int) (1:Int) []))) none) (some (C1 false))) none) (some (C1 false))) none) (cond z8 (cond (T4 (z2.1) ((z2.2).1) ((z2.2).2)) (cond (z3==(0:Int)) (some (C1 false)) (cond (A5k a0 (2:Int)) (cond (decide (z3 ≠ 0)) (cond z10 (cond (A5k a0 (3:Int)) (cond (decide (0≤(IntKind.wrap .u64 z4))) (cond z10 (cond (A0h (z6.set (z1.toNat) (ixor .u8 z9 (IntKind.wrap .u8 ((1:Int)*2 ^ (min (Int.toNat (IntKind.wrap .u64 z4)) (IntKind.bits .u8)))))) (0:Int)) (cond (A0l (z6.set (z1.toNat) (ixor .u8 z9 (IntKind.wrap .u8 ((1:Int)*2 ^ (min (Int.toNat (IntKind.wrap .u64 z4)) (IntKind.bits .u8)))))) (0:Int)) (cond ((z7.2.2.2.1)==((X9 a0).2.2.2.2)) (cond (!(z7.2.2.2.1)) (some (C1 true)) (cond z8 (cond (Z1 (z7.1) (z7.2.1) (z7.2.2.2.2) (z2.1) ((z2.2).1) ((z2.2).2)) (some (C1 (!(A1k a0)))) none) none)) (some (C1 false))) none) none) none) none) none) none) none) none)) none) none)) none))) (by kernel_rfl) ?_
 exact (K5 C1 hp (fun hp=>rfl) (fun hp=>(cndA hp fun hp=>(K5 C1 hp (fun hp=>(cndA hp fun hp=>(K5 C1 hp (fun hp=>(cndA hp fun hp=>(K5 C1 hp (fun hp=>(cndT hp fun _h=>rfl)) (fun hp=>rfl)))) (fun hp=>rfl)))) (fun hp=>(cndA hp fun hp=>(cndA hp fun hp=>(K5 C1 hp (fun hp=>rfl) (fun hp=>(cndA hp fun hp=>(cndA hp fun hp=>(cndA hp fun hp=>(cndA hp fun hp=>(cndA hp fun hp=>(cndA hp fun hp=>(cndA hp fun hp=>(cndA hp fun hp=>(K5 C1 hp (fun hp=>(K5 C1 hp (fun hp=>rfl) (fun hp=>(cndA hp fun hp=>(cndT hp fun _h=>rfl))))) (fun hp=>rfl)))))))))))))))))))
theorem B23:aPP 6 (sumOf A12 U3 A8C):=pcD true G60 hlz B1F
noncomputable def A2T (l:Lq1):List Int:=A7 (l.length:Int)++(l.map opB).flatten
noncomputable def A5 (k t:Int) (l:Lq1):List Int:=A7 k++(A7 t++cond (k==1) (A2T l) [])
noncomputable def A5a (b:List Int):List Int:=strInts ((C6 b).extract 0 4)
noncomputable def O6 (k t:Int) (l:Lq1):List Int:=A7 ((A5 k t l).length:Int)++(A5 k t l++A5a (A5 k t l))
theorem B5O (s:ByteArray) (i:Nat):A4U s i=A4F s i:=by
 have hb:0≤bt s (i:Int)∧bt s (i:Int)<256:=by
  unfold bt
  split
  ·have:=UInt8.toNat_lt s[(i:Int).toNat];omega
  ·simp
 have e:=wrap64 (n:=bt s (i:Int)) (by omega) (by omega)
 simp only [A4U,A4F,I6,A2M,e]
 generalize bt s (i:Int)=c
 by_cases h1:c ≥ 97<;>by_cases h2:c≤122<;>by_cases h3:c ≥ 48<;>by_cases h4:c≤57<;>simp [h1,h2,h3,h4]
theorem B5P (s:ByteArray):A08 s=A3z s:=by
 have e:allF (A4U s) (s.size - (0:Int).toNat) (0:Int).toNat=allF (A4F s) (s.size - (0:Int).toNat) (0:Int).toNat:=B0S _ _ (fun j _ _=>B5O s j)
 simp only [A08,A3z,B0I,R6,I6,e]
 cases allF (A4F s) (s.size - (0:Int).toNat) (0:Int).toNat<;>cases decide ((s.size:Int) ≥ 1)<;>cases decide ((s.size:Int)≤12)<;>rfl
theorem B60 (k:Int) (s v:ByteArray):A6s k s v=B1c k s v:=by
 simp only [A6s,B1c,B5P,B80,I6]
 cases A3z s with
 | false =>
  by_cases h1:k=1<;>by_cases h2:k=2<;>by_cases h3:k=3<;>by_cases h4:v=⟨#[]⟩<;>by_cases h5:k ≥ 1<;>by_cases h6:k≤3<;>simp [h1,h2,h3,h4,h5,h6]<;>omega
 | true =>
  by_cases h2:k=2
  ·subst h2
   by_cases h4:v=⟨#[]⟩
   ·subst h4;simp [ByteArray.size]
   ·simp [h4]
  ·by_cases h1:k=1
   ·subst h1;simp
   ·by_cases h3:k=3
    ·subst h3;simp
    ·by_cases h5:k ≥ 1<;>by_cases h6:k≤3<;>simp [h1,h2,h3,h5,h6]<;>omega
theorem B6Z (l:Lq1) (i:Nat):A21 l i=A95 l i:=by
 simp only [A21,A95,B60]
 rw [← A8o,Bool.not_not]
theorem B5T (l:Lq1):J0 l=B1a l:=by
 have e:allF (A21 l) (l.length - (0:Int).toNat) (0:Int).toNat=allF (A95 l) (l.length - (0:Int).toNat) (0:Int).toNat:=B0S _ _ (fun j _ _=>B6Z l j)
 simp only [J0,B1a,e]
 rfl
theorem A07 (k t:Int) (l:Lq1):E5 k t l=X2 k t l:=by
 simp only [E5,X2,A97,B5T]
 rw [show R6 t 1 1000000=I6 t 1 1000000 from rfl]
 cases I6 t 1 1000000<;>simp
theorem P6 {l:Lq1} (h:J0 l=true):l.length≤8∧∀ o∈l,o.2.1.size≤12∧o.2.2.size≤20:=by
 simp only [J0] at h
 cases h5:allF (A21 l) (l.length - (0:Int).toNat) (0:Int).toNat with
 | false=>rw [h5] at h;simp at h
 | true =>
  rw [h5] at h
  simp only [cond_true,I6] at h
  constructor
  ·cases h6:decide ((l.length:Int) ≥ 1) with
   | false=>simp [h6] at h
   | true=>rw [h6] at h;simp only [cond_true,decide_eq_true_eq] at h;omega
  ·intro o ho
   obtain ⟨i,hi,rfl⟩:=List.getElem_of_mem ho
   have h6:=(allF_true _ _).1 h5 i (Nat.zero_le _) (by simpa using hi)
   simp only [A21,Bool.and_eq_true,List.getD_eq_getElem?_getD,List.getElem?_eq_getElem hi,Option.getD_some] at h6
   have h7:=h6.1
   simp only [A6s] at h7
   have hk:∀ s:ByteArray,A08 s=true→s.size≤12:=by
    intro s hs
    simp only [A08] at hs
    cases h8:allF (A4U s) (s.size - (0:Int).toNat) (0:Int).toNat with
    | false=>rw [h8] at hs;simp at hs
    | true =>
     rw [h8] at hs
     simp only [cond_true,I6] at hs
     cases h9:decide ((s.size:Int) ≥ 1) with
     | false=>simp [h9] at hs
     | true=>rw [h9] at hs;simp only [cond_true,decide_eq_true_eq] at hs;omega
   cases h8:A08 (l[i]).2.1 with
   | false=>exfalso;revert h7;simp only [h8,cond_false];cases I6 (l[i]).1 1 3<;>cases ((l[i]).1==2)<;>simp
   | true =>
    refine ⟨hk _ h8,?_⟩
    revert h7
    simp only [h8,cond_true]
    cases I6 (l[i]).1 1 3<;>cases ((l[i]).1==2)<;>simp<;>omega
theorem A99 {l:Lq1} (h:J0 l=true):E9 l=true:=by
 obtain ⟨a1,a2⟩:=P6 h
 simp only [E9,okL,Bool.and_eq_true,decide_eq_true_eq,List.all_eq_true]
 refine ⟨by omega,fun o ho=>?_⟩
 have:=a2 o ho
 simp only [B6Y,okS,Bool.and_eq_true,decide_eq_true_eq];omega
theorem A0L {k t:Int} {l:Lq1} (h:E5 k t l=true):1≤k∧k≤3∧1≤t∧t≤1000000∧(k=1→J0 l=true)∧(k ≠ 1→l=[])∧E9 l=true:=by
 simp only [E5,I6] at h
 cases h1:decide (t ≥ 1) with
 | false=>simp [h1] at h
 | true=>cases h2:decide (t≤1000000) with
  | false=>simp [h1,h2] at h
  | true =>
   simp only [h1,h2,cond_true,Bool.not_true,cond_false] at h
   have:=of_decide_eq_true h1;have:=of_decide_eq_true h2
   cases k1:(k==1) with
   | true =>
    have:=eq_of_beq k1
    simp only [k1,cond_true] at h
    exact ⟨by omega,by omega,by omega,by omega,fun _=>h,fun hk=>absurd this hk,A99 h⟩
   | false =>
    have hk:k ≠ 1:=by rw [beq_eq_false_iff_ne] at k1;exact k1
    simp only [k1,cond_false] at h
    have key:(k=2∨k=3)∧l=[]:=by
     cases k2:(k==2) with
     | true =>
      simp only [k2,cond_true] at h
      have:=eq_of_beq h
      exact ⟨.inl (eq_of_beq k2),List.eq_nil_of_length_eq_zero (by omega)⟩
     | false =>
      cases k3:(k==3) with
      | true =>
       simp only [k2,k3,cond_true,cond_false] at h
       have:=eq_of_beq h
       exact ⟨.inr (eq_of_beq k3),List.eq_nil_of_length_eq_zero (by omega)⟩
      | false=>simp [k2,k3] at h
    exact ⟨by omega,by omega,by omega,by omega,fun e=>absurd e hk,fun _=>key.2,by rw [key.2];rfl⟩
noncomputable def okB (b:List Int):Prop:=∀ c∈b,0≤c∧c≤255
theorem B4L {l:Lq1} (h:J0 l=true):(A2T l).length≤400:=by
 obtain ⟨a1,a2⟩:=P6 h
 have h5:=B7E (M:=47) l (fun o ho'=>by have:=a2 o ho';have:=B8A o;omega)
 have h6:=O3 (l.length:Int)
 simp only [A2T,List.length_append];omega
noncomputable def hiB (j x:Nat):List Int:=(hiF A8A j (x:Int)).1++[IntKind.wrap .u8 (hiF A8A j (x:Int)).2]
theorem B0J (x:Nat):A7 (x:Int)=hiB 4 x:=by simp only [A7,hiB,B71]
theorem B7M (j x:Nat) (h:¬ 127<x):hiF A8A j (x:Int)=([],(x:Int)):=by
 cases j with
 | zero=>rfl
 | succ j =>
  have e:decide ((x:Int) > 127)=false:=decide_eq_false (by omega)
  simp only [hiF,e,cond_false]
theorem B6c {n:Int} (h1:0≤n) (h2:n<256):IntKind.wrap .u8 n=n:=by
 show (if (false&&decide (n % (2 ^ 8:Int) ≥ (2 ^ 7:Int)))=true then n % (2 ^ 8:Int) - (2 ^ 8:Int) else n % (2 ^ 8:Int))=n
 simp only [Bool.false_and,Bool.false_eq_true,if_false];omega
theorem A1G (j x:Nat) (h:¬ 127<x):hiB j x=[(x:Int)]:=by
 simp only [hiB,B7M j x h,List.nil_append];rw [B6c (by omega) (by omega)]
theorem C0l (n:Nat):Int.fdiv (n:Int) (2 ^ 7)=((n / 128:Nat):Int):=by
 rw [Int.fdiv_eq_ediv_of_nonneg _ (by decide)];rfl
theorem B7L (j x:Nat) (h:127<x):hiF A8A (j+1) (x:Int)=(A8A x::(hiF A8A j ((x / 128:Nat):Int)).1,(hiF A8A j ((x / 128:Nat):Int)).2):=by
 have e:decide ((x:Int) > 127)=true:=decide_eq_true (by omega)
 simp only [hiF,e,cond_true,C0l]
theorem A38 (n:Nat) (h:n<18446744073709551616):(BitVec.ofInt 64 (n:Int)).toNat=n:=by
 simp [BitVec.toNat_ofInt];omega
theorem B6h (n:Nat) (h:n<9223372036854775808):iand .i64 (n:Int) 127=((n % 128:Nat):Int):=by
 show IntKind.wrap .i64 (((BitVec.ofInt 64 (n:Int) &&& BitVec.ofInt 64 ((127:Nat):Int)).toNat:Nat):Int)=_
 rw [BitVec.toNat_and,A38 n (by omega),A38 127 (by omega),show (127:Nat)=2 ^ 7 - 1 from rfl,Nat.and_two_pow_sub_one_eq_mod]
 exact wrap64 (by omega) (by omega)
theorem B7O (n m j:Nat) (hn:n<2 ^ j) (h:n+m*2 ^ j<9223372036854775808):ior .i64 (n:Int) ((m*2 ^ j:Nat):Int)=((n+m*2 ^ j:Nat):Int):=by
 show IntKind.wrap .i64 (((BitVec.ofInt 64 (n:Int) ||| BitVec.ofInt 64 ((m*2 ^ j:Nat):Int)).toNat:Nat):Int)=_
 rw [BitVec.toNat_or,A38 n (by omega),A38 _ (by omega),Nat.or_comm,Nat.mul_comm m,← Nat.two_pow_add_eq_or_of_lt hn,Nat.add_comm]
 rw [Nat.mul_comm m] at h
 exact wrap64 (by omega) (by omega)
theorem B7G (n:Nat) (h:n<9223372036854775808):A8A (n:Int)=((128+n % 128:Nat):Int):=by
 simp only [A8A]
 rw [B6h n h]
 have:=B7O (n % 128) 1 7 (by omega) (by omega)
 have e:((1*2 ^ 7:Nat):Int)=128:=rfl
 rw [e] at this
 rw [this,B6c (by omega) (by omega)];omega
theorem B09 (j x:Nat) (h:127<x) (hx:x<9223372036854775808):hiB (j+1) x=((128+x % 128:Nat):Int)::hiB j (x / 128):=by
 simp only [hiB,B7L j x h,B7G x hx,List.cons_append]
theorem B86:∀ (j x:Nat),x<128 ^ (j+1)→x<9223372036854775808→okB (hiB j x):=by
 intro j
 induction j with
 | zero=>intro x h h';rw [A1G 0 x (by simp at h;omega)];intro c hc;simp at hc;simp at h;omega
 | succ j ih =>
  intro x h h'
  by_cases hx:127<x
  ·rw [B09 j x hx h']
   rw [Nat.pow_succ] at h
   have hx':x / 128<128 ^ (j+1):=Nat.div_lt_of_lt_mul (by rw [Nat.mul_comm];exact h)
   intro c hc
   rcases List.mem_cons.1 hc with rfl | hc
   ·omega
   ·exact ih (x / 128) hx' (by omega) c hc
  ·rw [A1G _ x hx];intro c hc;simp at hc;omega
theorem A2c {x:Int} (h0:0≤x) (h1:x≤1000000000):okB (A7 x):=by
 obtain ⟨n,rfl⟩:=Int.eq_ofNat_of_zero_le h0
 rw [B0J];exact B86 4 n (by simp;omega) (by omega)
noncomputable def B5E (o:Int×ByteArray×ByteArray):Prop:=0≤o.1∧o.1≤1000000000∧o.2.1.size≤1000000000∧o.2.2.size≤1000000000
theorem B1H (s:ByteArray):okB (strInts s):=by
 intro c hc
 simp only [strInts,List.mem_map] at hc
 obtain ⟨x,_,rfl⟩:=hc
 have:=x.toNat_lt
 omega
theorem okB.app {a b:List Int} (h:okB a) (h':okB b):okB (a++b):=fun c hc=>(List.mem_append.1 hc).elim (h c) (h' c)
theorem B5f {s:ByteArray} (h:s.size≤1000000000):okB (H8 s):=(A2c (by omega) (by omega)).app (B1H s)
theorem B9h {o:Int×ByteArray×ByteArray} (h:B5E o):okB (opB o):=by
 obtain ⟨h0,h1,h2,h3⟩:=h
 simp only [opB,A0c h0 h1]
 exact (A2c h0 h1).app ((B5f h2).app (B5f h3))
theorem B8m:∀ l:Lq1,(∀ o∈l,B5E o)→okB (l.map opB).flatten:=by
 intro l
 induction l with
 | nil=>intro _ c hc;simp at hc
 | cons o l ih=>intro h;simp only [List.map_cons,List.flatten_cons];exact (B9h (h o (by simp))).app (ih fun x hx=>h x (by simp [hx]))
theorem B2N {l:Lq1} (h:J0 l=true):∀ o∈l,B5E o:=by
 intro o ho
 obtain ⟨_,a2⟩:=P6 h
 have a3:=a2 o ho
 simp only [J0] at h
 cases h5:allF (A21 l) (l.length - (0:Int).toNat) (0:Int).toNat with
 | false=>rw [h5] at h;simp at h
 | true =>
  obtain ⟨i,hi,rfl⟩:=List.getElem_of_mem ho
  have h6:=(allF_true _ _).1 h5 i (Nat.zero_le _) (by simpa using hi)
  simp only [A21,Bool.and_eq_true,List.getD_eq_getElem?_getD,List.getElem?_eq_getElem hi,Option.getD_some] at h6
  have h7:=h6.1
  simp only [A6s,I6] at h7
  cases h8:decide ((l[i]).1 ≥ 1) with
  | false=>simp [h8] at h7
  | true =>
   cases h9:decide ((l[i]).1≤3) with
   | false=>simp [h8,h9] at h7
   | true =>
    have:=of_decide_eq_true h8
    have:=of_decide_eq_true h9
    exact ⟨by omega,by omega,by omega,by omega⟩
theorem B6i {l:Lq1} (h:J0 l=true):okB (A2T l):=by
 obtain ⟨a1,_⟩:=P6 h
 exact (A2c (by omega) (by omega)).app (B8m l (B2N h))
theorem A06 {k t:Int} {l:Lq1} (h:E5 k t l=true):okB (A5 k t l)∧(A5 k t l).length≤410∧2≤(A5 k t l).length:=by
 obtain ⟨a1,a2,a3,a4,a7,a8,a9⟩:=A0L h
 have l1:=O3 k;have l2:=O3 t
 have m1:1≤(A7 k).length:=by simp [A7]
 have m2:1≤(A7 t).length:=by simp [A7]
 cases hk:(k==1) with
 | true =>
  have ho:=a7 (eq_of_beq hk)
  have l5:=B4L ho
  refine ⟨?_,by simp only [A5,hk,cond_true,List.length_append];omega,by simp only [A5,hk,cond_true,List.length_append];omega⟩
  simp only [A5,hk,cond_true]
  exact (A2c (by omega) (by omega)).app ((A2c (by omega) (by omega)).app (B6i ho))
 | false =>
  refine ⟨?_,by simp only [A5,hk,cond_false,List.length_append,List.length_nil];omega,by simp only [A5,hk,cond_false,List.length_append,List.length_nil];omega⟩
  simp only [A5,hk,cond_false]
  exact (A2c (by omega) (by omega)).app ((A2c (by omega) (by omega)).app (fun c hc=>by simp at hc))
noncomputable def A8P (n:Nat):Nat:=(64 - (n+8) % 64) % 64
theorem C0o (a:List Int) (ha:a.length≤1000000000000) (h:List Int) (hh:h.length=a.length+1) :
  (D6 a h).1=0∧(D6 a h).2.1=a∧((D6 a h).2.2.length+8) % 64=0∧(D6 a h).2.2.length≤a.length+64:=by
 refine itX_inv (v:=(a,h)) (fun (v:A0a)=>v.1=a∧v.2.length+A8P v.2.length≤a.length+64)
  (fun (x:T6)=>x.1=0∧x.2.1=a∧(x.2.2.length+8) % 64=0∧x.2.2.length≤a.length+64) (fun v=>A8P v.2.length) ?_ ⟨rfl,by simp only [A8P];omega⟩ (by simp only [A8P];omega)
 rintro ⟨a1,l⟩ ⟨h1,h4⟩
 simp only at h1 h4
 subst h1
 simp only [A8P] at h4
 have e1:IntKind.wrap .i64 ((l.length:Int)+(8:Int))=((l.length+8:Nat):Int):=by rw [O8 _ (by omega) (by omega)];omega
 have t1:Int.tmod ((l.length+8:Nat):Int) 64=(((l.length+8) % 64:Nat):Int):=by rw [Int.tmod_eq_emod_of_nonneg (by omega)];omega
 by_cases hm:(l.length+8) % 64=0
 ·refine .inr ⟨(0,a1,l),?_,rfl,rfl,hm,by simp only;omega⟩
  simp only [W2,e1,t1,hm];rfl
 ·refine .inl ⟨(a1,l++[0]),?_,⟨rfl,by simp only [A8P,List.length_append,List.length_singleton];omega⟩,by simp only [A8P,List.length_append,List.length_singleton];omega⟩
  have c1:((((l.length+8) % 64:Nat):Int) != (0:Int))=true:=by simp only [bne_iff_ne,ne_eq];omega
  simp only [W2,e1,t1,c1,cond_true,List.length_singleton]
  rw [decide_eq_true (by simp only [MAXB];omega)];rfl
theorem C0p (n:Int) (h:List Int) (hh:h.length≤1000000000100) :
  (M3 n 7 h).1=0∧(M3 n 7 h).2.length=h.length+8:=by
 refine itX_inv (v:=(n,(7:Int),h)) (fun (v:A0b)=>v.1=n∧(-1≤v.2.1∧v.2.1≤7)∧(v.2.2.length:Int)=(h.length:Int)+(7 - v.2.1))
  (fun (x:T7)=>x.1=0∧x.2.length=h.length+8) (fun v=>(v.2.1+1).toNat) ?_ ⟨rfl,⟨by simp only;omega,by simp only;omega⟩,by simp only;omega⟩ (by simp only;decide)
 rintro ⟨n2,i,l⟩ ⟨h1,h4,h6⟩
 simp only at h1 h4 h6
 subst h1
 by_cases hi:0≤i
 ·have e0 : IntKind.wrap .u64 (8 * i) = 8 * i := by
   have:IntKind.wrap .u64 (8*i)=(8*i) % 18446744073709551616:=by simp [IntKind.wrap,IntKind.bits,IntKind.signed]
   rw [this];omega
  refine .inl ⟨(n2,i - 1,l++[IntKind.wrap .u8 (Int.fdiv n2 (2 ^ (min (Int.toNat (8*i)) (IntKind.bits .i64))))]),?_,⟨rfl,by simp only;omega,by simp only [List.length_append,List.length_singleton];omega⟩,by simp only;omega⟩
  simp only [W8,O8 (8*i) (by omega) (by omega),e0,wrap64 (n:=i - 1) (by omega) (by omega),decide_eq_true (show i ≥ 0 from hi),cond_true,List.length_singleton]
  rw [decide_eq_true (by omega),decide_eq_true (by simp only [MAXB];omega)];rfl
 ·refine .inr ⟨(0,l),?_,rfl,by simp only;omega⟩
  simp only [W8,decide_eq_false (show ¬ i ≥ 0 from hi),cond_false]
theorem B5L (a:List Int) (ha:a.length≤1000000000000):V7 a=true∧(M1 a).length % 64=0∧0<(M1 a).length∧(M1 a).length≤a.length+72:=by
 obtain ⟨a1,a3,a6,a7⟩:=C0o a ha (a++[128]) (by simp)
 obtain ⟨b1,b4⟩:=C0p (IntKind.wrap .i64 ((8:Int)*(a.length:Int))) (D6 a (a++[128])).2.2 (by omega)
 have ei:U2 a=M3 (IntKind.wrap .i64 ((8:Int)*(a.length:Int))) 7 (D6 a (a++[128])).2.2:=by
  simp only [U2,C8,a3]
 refine ⟨?_,?_,?_,?_⟩
 ·have q1:C7 a=true:=decide_eq_true (by simp only [MAXB,List.length_nil];omega)
  simp only [V7,q1,C8,a1,ei,b1,List.length_singleton,Bool.true_and,beq_self_eq_true,Bool.and_true]
  exact decide_eq_true (by simp only [MAXB];omega)
 ·simp only [M1,ei,b4];omega
 ·simp only [M1,ei,b4];omega
 ·simp only [M1,ei,b4];omega
theorem B1P (h:List Int):(E1 h).length=4*h.length:=by
 induction h with
 | nil=>rfl
 | cons x h ih=>simp only [E1,List.flatMap_cons,List.length_append,List.length_cons,List.length_nil] at ih ⊢;omega
theorem B7z (p:List Int):(B6P p).length=8:=by
 have key:∀ n,64*n≤p.length→((List.range n).foldl (fun h i=>(D3 ((p.drop (64*i)).take 64) h irounds).1) hinit).length=8:=by
  intro n
  induction n with
  | zero=>intro _;rfl
  | succ n ih =>
   intro hn
   rw [List.range_succ,List.foldl_append]
   exact (B0M _ _ (by simp only [List.length_take,List.length_drop];omega) (ih (by omega))).2.1
 exact key _ (by omega)
theorem A4G (b:List Int) (hl:b.length≤1000000000000):H5 b=true∧(C6 b).size=32∧(A5a b).length=4∧okB (A5a b):=by
 obtain ⟨p1,p2,p3,p4⟩:=B5L b hl
 have hs:(C6 b).size=32:=by
  have:(C6 b).size=(E1 (B6P (M1 b))).length:=by
   show (((E1 _).map _).toArray).size=_
   simp
  rw [this,B1P,B7z]
 refine ⟨?_,hs,?_,B1H _⟩
 ·simp only [H5,p1,Bool.true_and,Bool.and_eq_true,decide_eq_true_eq];omega
 ·simp only [A5a,A3l,ByteArray.size_extract,hs];rfl
theorem A8b {l:Lq1} (h:J0 l=true):1≤l.length:=by
 simp only [J0] at h
 cases h5:allF (A21 l) (l.length - (0:Int).toNat) (0:Int).toNat with
 | false=>rw [h5] at h;simp at h
 | true =>
  rw [h5] at h
  simp only [cond_true,I6] at h
  cases h6:decide ((l.length:Int) ≥ 1) with
  | false=>simp [h6] at h
  | true=>have:=of_decide_eq_true h6;omega
theorem B8L {p:Prop} {i:Decidable p} (h:p):@decide p i=true:=@decide_eq_true p i h
theorem A2O {k t:Int} {l:Lq1} (h:E5 k t l=true):O5 k t l=true∧A0F k t l=O6 k t l:=by
 obtain ⟨a1,a2,a3,a4,a7,a8,ho⟩:=A0L h
 obtain ⟨b1,b2,b3⟩:=A06 h
 obtain ⟨d2,d4,d5,d6⟩:=A4G (A5 k t l) (by omega)
 have e0:D2 t (A8 k)=A7 k++A7 t:=by
  rw [A00,A2N,A0c (by omega) (by omega),A0c (by omega) (by omega)]
 have e1:∀ n:Nat,n≤410→A8 (n:Int)=A7 (n:Int):=fun n hn=>by rw [A2N,A0c (by omega) (by omega)]
 have sz:((C6 (A5 k t l)).extract 0 4).size=4:=by rw [ByteArray.size_extract,d4];rfl
 have lb:=O3 ((A5 k t l).length:Int)
 have l0:=A5b k
 have lk:=O3 k
 have lt:=O3 t
 cases hk:(k==1) with
 | true =>
  have hs:=a7 (eq_of_beq hk)
  have hl:=A8b hs
  have hd:decide ((l.length:Int) > 0)=true:=decide_eq_true (by omega)
  have oe:A1i l (A7 k++A7 t)=A5 k t l:=by
   obtain ⟨c1,_⟩:=P6 hs
   rw [B5M l _ ho,A0c (by omega) (by omega)]
   simp only [A5,hk,cond_true,List.append_assoc,A2T]
  refine ⟨?_,?_⟩
  ·simp only [O5,C4,A0i,hd,ho,e0,oe,e1 _ b2,d2,d4,cond_true,Bool.true_and,Int.toNat_zero,List.length_append]
   rw [show ((4:Int).toNat)=4 from rfl,sz]
   simp only [Bool.and_eq_true,Bool.and_true,MAXB,d4]
   repeat' first | exact B8L (by omega) | exact trivial | refine And.intro ?_ ?_
  ·simp only [A0F,hd,e0,oe,e1 _ b2,cond_true]
   simp only [O6,A5a,List.append_assoc];rfl
 | false =>
  have hn:=a8 (by rw [beq_eq_false_iff_ne] at hk;exact hk)
  have hd:decide ((l.length:Int) > 0)=false:=decide_eq_false (by rw [hn];simp)
  have be:A7 k++A7 t=A5 k t l:=by simp only [A5,hk,cond_false,List.append_nil]
  refine ⟨?_,?_⟩
  ·simp only [O5,C4,hd,e0,be,e1 _ b2,d2,d4,cond_false,Bool.true_and,Int.toNat_zero,List.length_append]
   rw [show ((4:Int).toNat)=4 from rfl,sz]
   simp only [Bool.and_eq_true,MAXB,d4]
   repeat' first | exact B8L (by omega) | exact trivial | refine And.intro ?_ ?_
  ·simp only [A0F,hd,e0,be,e1 _ b2,cond_false]
   simp only [O6,A5a,List.append_assoc];rfl
theorem A24 {α:Type} {l:List α} {i:Nat} (hi:i<l.length) (d:α):l.take (i+1)=l.take i++[l.getD i d]:=by
 rw [List.take_add_one,List.getElem?_eq_getElem hi];simp [List.getD_eq_getElem?_getD,hi]
theorem bvn {k x:Nat} (h:x<2 ^ k):(BitVec.ofInt k (x:Int)).toNat=x:=by
 rw [BitVec.ofInt_natCast,BitVec.toNat_ofNat,Nat.mod_eq_of_lt h]
theorem B8f {l:List Int} (h:bigT B5 l=true):okB l:=by
 have hb:(decide (l.length≤maxLen)&&l.all (fun x=>(Lit.int .u8 x).wf))=true:=h
 rw [Bool.and_eq_true,List.all_eq_true] at hb
 intro c hc
 have:=hb.2 c hc
 simp only [Lit.wf,Bool.and_eq_true,decide_eq_true_eq] at this
 exact ⟨this.1,this.2⟩
noncomputable abbrev C0b:=(Int)×(Int)×Lq1
noncomputable def B8z (l:List C0b):Prop:=∀ r∈l,E5 r.1 r.2.1 r.2.2=true
noncomputable def cOk (b:List Int) (i:Int):Prop:=okB b∧0≤i∧i≤b.length∧b.length≤1048576
theorem B49 {b:List Int} (hb:okB b) (hl:b.length≤1048576):A2W b=true∧(X3 b).1=b∧cOk b (X3 b).2.1:=by
 have key:∀ x:Int,(A0e b x 0).1=0∧(A0e b x 0).2.1=b:=by
  intro x
  refine itX_inv (fun v:A2z=>v.1=b∧0≤v.2.2∧v.2.2≤b.length) (fun a:A0T=>a.1=0∧a.2.1=b) (fun v=>b.length - v.2.2.toNat) ?_ ⟨rfl,Int.le_refl _,by simp⟩ (by simp;omega)
  rintro ⟨y,z,i⟩ ⟨hy,h1,h2⟩
  simp only at hy h1 h2
  subst hy
  by_cases hi:i<(y.length:Int)
  ·have e:decide (i<(y.length:Int))=true:=decide_eq_true hi
   have e2:decide (0≤i∧i<(y.length:Int))=true:=decide_eq_true ⟨h1,hi⟩
   have w:IntKind.wrap .i64 (i+1)=i+1:=wrap64 (by omega) (by omega)
   by_cases h4:i<4000
   ·simp only [A1N,e,e2,decide_eq_true h4,cond_true,w]
    exact .inl ⟨_,rfl,⟨rfl,by simp only;omega,by simp only;omega⟩,by simp only;omega⟩
   ·simp only [A1N,e,decide_eq_false h4,cond_true,cond_false]
    exact .inr ⟨_,rfl,rfl,rfl⟩
  ·simp only [A1N,decide_eq_false hi,cond_false]
   exact .inr ⟨_,rfl,rfl,rfl⟩
 simp only [A2W,X3,key]
 exact ⟨rfl,trivial,hb,Int.le_refl _,by omega,hl⟩
theorem B5K (x:Int) (m:Nat) (hm:m<9223372036854775808):0≤iand .i64 x (m:Int)∧iand .i64 x (m:Int)≤m:=by
 have e:iand .i64 x (m:Int)=IntKind.wrap .i64 (((BitVec.ofInt 64 x).toNat &&& m:Nat):Int):=by
  show IntKind.wrap .i64 (((BitVec.ofInt 64 x &&& BitVec.ofInt 64 (m:Int)).toNat:Nat):Int)=_
  rw [BitVec.toNat_and,A38 m (by omega)]
 have h:(BitVec.ofInt 64 x).toNat &&& m≤m:=Nat.and_le_right
 rw [e,wrap64 (by omega) (by omega)]
 omega
theorem A4V {b:List Int} {i:Int} (hc:cOk b i) (h:Int):L0 b i h=true∧0≤(E8 b i h).1∧(E8 b i h).1≤255∧(E8 b i h).2.1=b∧cOk b (E8 b i h).2.2.1:=by
 obtain ⟨h0,h1,h2,h3⟩:=hc
 have r:=fun x=>B5K x 255 (by decide)
 by_cases hi:i<(b.length:Int)
 ·have e:decide (i<(b.length:Int))=true:=decide_eq_true hi
  have w:IntKind.wrap .i64 (i+1)=i+1:=wrap64 (by omega) (by omega)
  simp only [L0,E8,e,cond_true,w]
  exact ⟨decide_eq_true ⟨h1,hi⟩,(r _).1,(r _).2,trivial,h0,by omega,by omega,h3⟩
 ·have e:decide (i<(b.length:Int))=false:=decide_eq_false hi
  simp only [L0,E8,e,cond_false]
  exact ⟨trivial,(r _).1,(r _).2,trivial,h0,h1,h2,h3⟩
theorem T5 {b:List Int} {i:Int} (hc:cOk b i) (n:Int) (h:Int):D4 n b i h=true∧0≤(E6 n b i h).1∧(0<n→(E6 n b i h).1<n)∧(E6 n b i h).2.1=b∧cOk b (E6 n b i h).2.2.1:=by
 obtain ⟨a1,a2,a3,a4,a5⟩:=A4V hc h
 by_cases h0:n≤0
 ·have e:decide (n≤0)=true:=decide_eq_true h0
  simp only [D4,E6,e,cond_true]
  exact ⟨trivial,Int.le_refl _,fun h=>by omega,trivial,hc⟩
 ·have e:decide (n≤0)=false:=decide_eq_false h0
  have en:decide (n ≠ 0)=true:=decide_eq_true (by omega)
  by_cases h1:n≤256
  ·have e2:decide (n≤256)=true:=decide_eq_true h1
   simp only [D4,E6,e,e2,cond_true,cond_false,a1,en,Bool.and_self]
   exact ⟨trivial,Int.tmod_nonneg _ a2,fun h=>Int.tmod_lt_of_pos _ h,a4,a5⟩
  ·have e2:decide (n≤256)=false:=decide_eq_false h1
   obtain ⟨b1,b2,b3,b4,b5⟩:=A4V a5 (E8 b i h).2.2.2
   obtain ⟨c1,c2,c3,c4,c5⟩:=A4V b5 (E8 b (E8 b i h).2.2.1 (E8 b i h).2.2.2).2.2.2
   simp only [D4,E6,e,e2,cond_false,a1,a4,en,A1I,A5W,b1,b4,c1,Bool.and_self]
   rw [wrap64 (n:=(E8 b i h).1*65536) (by omega) (by omega),wrap64 (n:=(E8 b (E8 b i h).2.2.1 (E8 b i h).2.2.2).1*256) (by omega) (by omega),wrap64 (n:=(E8 b i h).1*65536+(E8 b (E8 b i h).2.2.1 (E8 b i h).2.2.2).1*256) (by omega) (by omega),wrap64 (by omega) (by omega)]
   exact ⟨trivial,Int.tmod_nonneg _ (by omega),fun h=>Int.tmod_lt_of_pos _ h,c4,c5⟩
theorem A5S {α:Type} {l:List α} {i:Nat} (h:i<l.length) (d:α):l.getD i d∈l:=by
 simp [List.getD_eq_getElem?_getD,h]
theorem A6p {b:List Int} {i:Int} (hc:cOk b i) (h:Int) {l:List Int} (hl:0<l.length):A0J b i h l=true∧(J4 b i h l).1∈l∧(J4 b i h l).2.1=b∧cOk b (J4 b i h l).2.2.1:=by
 obtain ⟨a1,a2,a3,a4,a5⟩:=T5 hc (l.length:Int) h
 have:=a3 (by omega)
 simp only [A0J,J4,a1,Bool.true_and]
 exact ⟨decide_eq_true ⟨a2,this⟩,A5S (by omega) _,a4,a5⟩
noncomputable def ltO (a b:Int×ByteArray×ByteArray):Prop:=Op.bytesLess a.2.1.toList b.2.1.toList=true
noncomputable def A98:List ByteArray:=[(⟨#[97]⟩:ByteArray),(⟨#[98]⟩:ByteArray),(⟨#[99]⟩:ByteArray),(⟨#[107,49]⟩:ByteArray),(⟨#[107,50]⟩:ByteArray),(⟨#[109]⟩:ByteArray),(⟨#[122]⟩:ByteArray)]
noncomputable def B5H (k:Int) (s v:ByteArray):Prop:=s∈A98∧((k=1∨k=3)∧v.size≤1∨k=2∧v=⟨#[]⟩)
noncomputable def A9w (l:Lq1):Prop:=l.Pairwise ltO∧∀ o∈l,B5H o.1 o.2.1 o.2.2∧o.2.1.size≤20∧o.2.2.size≤20
theorem B0o {b:List Int} {i:Int} (hc:cOk b i) (h:Int) {l:List ByteArray} (hl:0<l.length):A0K b i h l=true∧(A6q b i h l).1∈l∧(A6q b i h l).2.1=b∧cOk b (A6q b i h l).2.2.1:=by
 obtain ⟨a1,a2,a3,a4,a5⟩:=T5 hc (l.length:Int) h
 have:=a3 (by omega)
 simp only [A0K,A6q,a1,Bool.true_and]
 exact ⟨decide_eq_true ⟨a2,this⟩,A5S (by omega) _,a4,a5⟩
theorem B5Q {s:ByteArray} (h:s∈A98):s.size≤2:=by
 simp only [A98,List.mem_cons,List.not_mem_nil,or_false] at h
 rcases h with rfl | rfl | rfl | rfl | rfl | rfl | rfl<;>decide
theorem B5a {b:List Int} {i:Int} (hc:cOk b i) (h:Int):A2X b i h=true∧(A6r b i h).1.size≤2∧(A6r b i h).1∈A98∧(A6r b i h).2.1=b∧cOk b (A6r b i h).2.2.1:=by
 obtain ⟨a1,a2,a3,a4⟩:=B0o hc h (l:=A98) (by decide)
 simp only [A98] at a1 a2 a3 a4
 simp only [A2X,A6r,A9M,a1]
 exact ⟨trivial,B5Q a2,a2,a3,a4⟩
theorem B5c {b:List Int} {i:Int} (hc:cOk b i) (h:Int):A2Z b i h=true∧(Z3 b i h).2.1.size≤20∧(Z3 b i h).2.2.1.size≤20∧B5H (Z3 b i h).1 (Z3 b i h).2.1 (Z3 b i h).2.2.1∧(Z3 b i h).2.2.2.1=b∧cOk b (Z3 b i h).2.2.2.2.1:=by
 obtain ⟨a1,a2,a3,a4⟩:=A6p hc h (l:=[(1:Int),(1:Int),(1:Int),(2:Int),(3:Int)]) (by decide)
 simp only [A2Z,Z3,A36,A9N,a1,a3,Bool.true_and]
 generalize J4 b i h [(1:Int),(1:Int),(1:Int),(2:Int),(3:Int)]=r at *
 obtain ⟨b1,b2,b3,b4,b5⟩:=B5a a4 r.2.2.2.1
 simp only [b1,b4,Bool.true_and]
 generalize A6r b r.2.2.1 r.2.2.2.1=t at *
 have hk:r.1=1∨r.1=2∨r.1=3:=by simp only [List.mem_cons,List.not_mem_nil,or_false] at a2;omega
 cases e:(r.1 != 2) with
 | true =>
  obtain ⟨c1,c2,c3,c4⟩:=B0o b5 t.2.2.2 (l:=[(⟨#[49]⟩:ByteArray),(⟨#[50]⟩:ByteArray),(⟨#[120]⟩:ByteArray),(⟨#[]⟩:ByteArray),(⟨#[49]⟩:ByteArray)]) (by decide)
  simp only [cond_true,c1]
  generalize A6q b t.2.2.1 t.2.2.2 [(⟨#[49]⟩:ByteArray),(⟨#[50]⟩:ByteArray),(⟨#[120]⟩:ByteArray),(⟨#[]⟩:ByteArray),(⟨#[49]⟩:ByteArray)]=u at *
  have hs:u.1.size≤1:=by
   have h0:∀ x∈[(⟨#[49]⟩:ByteArray),(⟨#[50]⟩:ByteArray),(⟨#[120]⟩:ByteArray),(⟨#[]⟩:ByteArray),(⟨#[49]⟩:ByteArray)],x.size≤1:=by
    intro x hx
    simp only [List.mem_cons,List.not_mem_nil,or_false] at hx
    rcases hx with rfl | rfl | rfl | rfl | rfl<;>decide
   exact h0 _ c2
  have hne:r.1 ≠ 2:=by simpa using e
  exact ⟨trivial,by omega,by omega,⟨b3,.inl ⟨by omega,hs⟩⟩,c3,c4⟩
 | false =>
  have he:r.1=2:=by simpa using e
  simp only [cond_false]
  exact ⟨trivial,by omega,by decide,⟨b3,.inr ⟨he,rfl⟩⟩,trivial,b5⟩
noncomputable def B9g (l:Lq1) (o:Int×ByteArray×ByteArray) (i:Nat) (p:Bool) (h:Lq1):Prop :=
 h.Pairwise ltO∧(∀ x∈h,x=o∨x∈l)∧h.length≤i+1 ∧
 (p=false→h=l.take i∧∀ x∈h,ltO x o) ∧
 (p=true→h ≠ []∧∀ x∈h,∀ y∈l.drop i,ltO x y)
theorem B8C {α:Type} {R:α→α→Prop} {l:List α} (h:l.Pairwise R) (i:Nat) (hi:i<l.length) (d:α):∀ x∈l.take i,R x (l.getD i d):=by
 intro x hx
 obtain ⟨j,hj,rfl⟩:=List.getElem_of_mem hx
 rw [List.length_take] at hj
 have:=List.pairwise_iff_getElem.1 h j i (by omega) hi (by omega)
 simpa [List.getD_eq_getElem?_getD,hi] using this
theorem B8B {α:Type} {R:α→α→Prop} {l:List α} (h:l.Pairwise R) (i:Nat) (hi:i<l.length) (d:α):∀ y∈l.drop (i+1),R (l.getD i d) y:=by
 intro y hy
 obtain ⟨j,hj,rfl⟩:=List.getElem_of_mem hy
 rw [List.length_drop] at hj
 have:=List.pairwise_iff_getElem.1 h i (i+1+j) hi (by omega) (by omega)
 simpa [List.getD_eq_getElem?_getD,hi] using this
theorem A85 {α:Type} {R:α→α→Prop} {h:List α} {x:α} (h1:h.Pairwise R) (h2:∀ y∈h,R y x):(h++[x]).Pairwise R:=by
 rw [List.pairwise_append]
 exact ⟨h1,by simp,fun a ha b hb=>by simp at hb;subst hb;exact h2 a ha⟩
theorem B0u:∀ a b c:List UInt8,Op.bytesLess a b=true→Op.bytesLess b c=true→Op.bytesLess a c=true:=by
 intro a
 induction a with
 | nil=>intro b c h1 h2;cases c with
  | nil=>cases b<;>simp [Op.bytesLess] at h2
  | cons z c=>rfl
 | cons x a ih =>
  intro b c h1 h2
  cases b with
  | nil=>simp [Op.bytesLess] at h1
  | cons y b=>cases c with
   | nil=>simp [Op.bytesLess] at h2
   | cons z c =>
    simp only [Op.bytesLess,Bool.or_eq_true,Bool.and_eq_true,decide_eq_true_eq,beq_iff_eq] at h1 h2 ⊢
    rcases h1 with h1 | ⟨rfl,h1⟩
    ·rcases h2 with h2 | ⟨rfl,h2⟩
     ·exact .inl (UInt8.lt_trans h1 h2)
     ·exact .inl h1
    ·rcases h2 with h2 | ⟨rfl,h2⟩
     ·exact .inl h2
     ·exact .inr ⟨rfl,ih b c h1 h2⟩
theorem A37 {a b c:Int×ByteArray×ByteArray} (h1:ltO a b) (h2:ltO b c):ltO a c:=B0u _ _ _ h1 h2
theorem B67 {l:Lq1} (hs:l.Pairwise ltO) (hl:l.length≤1000) (o:Int×ByteArray×ByteArray) :
  ∃ p h,A1H l false 0 o.1 o.2.1 o.2.2 []=(0,p,h)∧B9g l o l.length p h:=by
 refine itX_inv (fun v:Y5=>∃ (i:Nat) (p:Bool) (h:Lq1),v=(l,p,(i:Int),h)∧i≤l.length∧B9g l o i p h) (fun a=>∃ p h,a=(0,p,h)∧B9g l o l.length p h) (fun v=>l.length - v.2.2.1.toNat) ?_ ⟨0,false,[],rfl,Nat.zero_le _,.nil,by simp,by simp,fun _=>⟨rfl,by simp⟩,fun h=>by cases h⟩ (by simp;omega)
 rintro v ⟨i,p,h,rfl,hi,hI⟩
 obtain ⟨i1,i2,i3,i4,i5⟩:=hI
 by_cases hlt:i<l.length
 ·have e1:decide ((i:Int)<(l.length:Int))=true:=decide_eq_true (by omega)
  have e2:decide (0≤(i:Int)∧(i:Int)<(l.length:Int))=true:=decide_eq_true (by omega)
  have w:=wrapU i (by omega)
  have m1:∀ x:Int×ByteArray×ByteArray,decide ((h.length+[x].length)*40≤MAXB)=true:=fun x=>decide_eq_true (by simp only [List.length_singleton,MAXB];omega)
  have m2:∀ x y:Int×ByteArray×ByteArray,decide (((h++[x]).length+[y].length)*40≤MAXB)=true:=fun x y=>decide_eq_true (by simp only [List.length_append,List.length_singleton,MAXB];omega)
  have eta:∀ x:Int×ByteArray×ByteArray,(x.1,(x.2.1,x.2.2))=x:=fun _=>rfl
  have hdrop:l.drop i=l.getD i dOp::l.drop (i+1):=by rw [List.drop_eq_getElem_cons hlt];simp [List.getD_eq_getElem?_getD,hlt]
  have htk:=B8C hs i hlt dOp
  have hdr:=B8B hs i hlt dOp
  have hmem:l.getD i dOp∈l:=A5S hlt _
  have hts:=A24 hlt dOp
  have meas:∀ (p':Bool) (h':Lq1),l.length - ((l,p', ((i+1:Nat):Int),h'):Y5).2.2.1.toNat<l.length - ((l,p,(i:Int),h):Y5).2.2.1.toNat:=fun _ _=>by simp only [Int.toNat_natCast];omega
  simp only [A3k,e1,e2,m1,m2,w,cond_true,Int.toNat_natCast,eta]
  have hd:((0:Int),((⟨#[]⟩:ByteArray),(⟨#[]⟩:ByteArray)))=dOp:=rfl
  simp only [hd]
  generalize hx:l.getD i dOp=x at *
  left
  cases p with
  | false =>
   obtain ⟨j1,j2⟩:=i4 rfl
   simp only [Bool.not_false,cond_true]
   cases hb:Op.bytesLess x.2.1.toList o.2.1.toList with
   | true =>
    -- still ahead of it
    have hxo:ltO x o:=hb
    have hne:(x.2.1.toList==o.2.1.toList)=false:=by
     rw [beq_eq_false_iff_ne];intro e;rw [e] at hb;rw [A9u] at hb;cases hb
    simp only [Bool.not_true,cond_false,hne,Bool.not_false,cond_true]
    refine ⟨_,rfl,⟨i+1,false,h++[x],rfl,by omega,A85 i1 (fun y hy=>?_),?_,by simp;omega,fun _=>⟨by rw [j1,hts],?_⟩,fun h=>by cases h⟩,meas _ _⟩
    ·rw [j1] at hy;exact htk y hy
    ·intro y hy
     rcases List.mem_append.1 hy with hy | hy
     ·exact i2 y hy
     ·simp at hy;subst hy;exact .inr hmem
    ·intro y hy
     rcases List.mem_append.1 hy with hy | hy
     ·exact j2 y hy
     ·simp at hy;subst hy;exact hxo
   | false =>
    have hge:=A8o x.2.1.toList o.2.1.toList
    rw [hb] at hge
    simp only [Bool.not_false] at hge
    simp only [Bool.not_false,cond_true]
    have s1:(h++[o]).Pairwise ltO:=A85 i1 j2
    have s2:∀ y∈h++[o],y=o∨y∈l:=by
     intro y hy
     rcases List.mem_append.1 hy with hy | hy
     ·exact i2 y hy
     ·simp at hy;exact .inl hy
    cases hq:(x.2.1.toList==o.2.1.toList) with
    | true =>
     simp only [Bool.not_true,cond_false]
     have hkey:x.2.1.toList=o.2.1.toList:=by simpa using hq
     have ho:∀ y∈l.drop (i+1),ltO o y:=fun y hy=>by have:=hdr y hy;unfold ltO at this ⊢;rwa [hkey] at this
     refine ⟨_,rfl,⟨i+1,true,h++[o],rfl,by omega,s1,s2,by simp;omega,(fun h=>by cases h),fun _=>⟨by simp,?_⟩⟩,meas _ _⟩
     intro y hy z hz
     rcases List.mem_append.1 hy with hy | hy
     ·exact A37 (j2 y hy) (ho z hz)
     ·simp at hy;subst hy;exact ho z hz
    | false =>
     simp only [Bool.not_false,cond_true]
     have hox:ltO o x:=by
      have h9:Op.bytesLess o.2.1.toList x.2.1.toList=true:=by
       cases h8:Op.bytesLess o.2.1.toList x.2.1.toList with
       | true=>rfl
       | false =>
        rw [h8] at hge
        have h7:(o.2.1.toList==x.2.1.toList)=true:=by simpa using hge.symm
        rw [beq_iff_eq] at h7
        rw [h7] at hq;simp at hq
      exact h9
     refine ⟨_,rfl,⟨i+1,true,(h++[o])++[x],rfl,by omega,A85 s1 (fun y hy=>?_),?_,?_,(fun h=>by cases h),fun _=>⟨by simp,?_⟩⟩,meas _ _⟩
     ·rcases List.mem_append.1 hy with hy | hy
      ·exact A37 (j2 y hy) hox
      ·simp at hy;subst hy;exact hox
     ·intro y hy
      rcases List.mem_append.1 hy with hy | hy
      ·exact s2 y hy
      ·simp at hy;subst hy;exact .inr hmem
     ·have:h.length≤i:=by rw [j1,List.length_take];omega
      simp;omega
     ·intro y hy z hz
      have hxz:=hdr z hz
      rcases List.mem_append.1 hy with hy | hy
      ·rcases List.mem_append.1 hy with hy | hy
       ·exact A37 (A37 (j2 y hy) hox) hxz
       ·simp at hy;subst hy;exact A37 hox hxz
      ·simp at hy;subst hy;exact hxz
  | true =>
   obtain ⟨j1,j2⟩:=i5 rfl
   simp only [Bool.not_true,cond_false]
   have j3:∀ y∈h,∀ z∈l.drop (i+1),ltO y z:=fun y hy z hz=>j2 y hy z (by rw [hdrop];exact List.mem_cons_of_mem _ hz)
   cases hq:(x.2.1.toList==o.2.1.toList) with
   | true =>
    simp only [Bool.not_true,cond_false]
    exact ⟨_,rfl,⟨i+1,true,h,rfl,by omega,i1,i2,by omega,(fun h=>by cases h),fun _=>⟨j1,j3⟩⟩,meas _ _⟩
   | false =>
    simp only [Bool.not_false,cond_true]
    refine ⟨_,rfl,⟨i+1,true,h++[x],rfl,by omega,A85 i1 (fun y hy=>j2 y hy x (by rw [hdrop];simp)),?_,by simp;omega,(fun h=>by cases h),fun _=>⟨by simp,?_⟩⟩,meas _ _⟩
    ·intro y hy
     rcases List.mem_append.1 hy with hy | hy
     ·exact i2 y hy
     ·simp at hy;subst hy;exact .inr hmem
    ·intro y hy z hz
     rcases List.mem_append.1 hy with hy | hy
     ·exact j3 y hy z hz
     ·simp at hy;subst hy;exact hdr z hz
 ·obtain rfl:i=l.length:=by omega
  have e1:decide ((l.length:Int)<(l.length:Int))=false:=decide_eq_false (by omega)
  simp only [A3k,e1,cond_false]
  exact .inr ⟨_,rfl,p,h,rfl,i1,i2,i3,i4,i5⟩
theorem B5b {l:Lq1} (hs:l.Pairwise ltO) (hl:l.length≤1000) (k:Int) (s v:ByteArray) :
  A2Y l k s v=true∧(A8c l k s v).Pairwise ltO∧(∀ x∈A8c l k s v,x=(k,s,v)∨x∈l)∧A8c l k s v ≠ []∧(A8c l k s v).length≤l.length+1:=by
 obtain ⟨p,h,e,i1,i2,i3,i4,i5⟩:=B67 hs hl (k,s,v)
 simp only at e
 have m1:∀ x:Int×ByteArray×ByteArray,decide ((h.length+[x].length)*40≤MAXB)=true:=fun x=>decide_eq_true (by simp only [List.length_singleton,MAXB];omega)
 simp only [A2Y,A8c,e,m1]
 cases p with
 | true =>
  simp only [Bool.not_true,cond_false]
  exact ⟨rfl,i1,i2,(i5 rfl).1,i3⟩
 | false =>
  obtain ⟨j1,j2⟩:=i4 rfl
  simp only [Bool.not_false,cond_true]
  refine ⟨rfl,A85 i1 j2,?_,by simp,?_⟩
  ·intro y hy
   rcases List.mem_append.1 hy with hy | hy
   ·exact i2 y hy
   ·simp at hy;exact .inl hy
  ·rw [j1];simp
theorem A9j {b:List Int} {i:Int} (hc:cOk b i) (h:Int):A05 b i h=true∧(A1m b i h).1=b∧cOk b (A1m b i h).2.1∧A9w (A1m b i h).2.2.2∧1≤(A1m b i h).2.2.2.length∧(A1m b i h).2.2.2.length≤4:=by
 obtain ⟨a1,a2,a3,a4,a5⟩:=T5 hc 4 h
 have a3:=a3 (by omega)
 simp only [A05,A1m,A4I,a1,a4,Bool.true_and]
 generalize E6 4 b i h=r at *
 have w:IntKind.wrap .i64 (1+r.1)=1+r.1:=wrap64 (by omega) (by omega)
 rw [w]
 obtain ⟨z1,z2,z3,z4,z5,z6⟩:(M5 (1+r.1) b r.2.2.1 r.2.2.2 []).1=0∧(M5 (1+r.1) b r.2.2.1 r.2.2.2 []).2.1=b∧cOk b (M5 (1+r.1) b r.2.2.1 r.2.2.2 []).2.2.1∧A9w (M5 (1+r.1) b r.2.2.1 r.2.2.2 []).2.2.2.2∧1≤(M5 (1+r.1) b r.2.2.1 r.2.2.2 []).2.2.2.2.length∧(M5 (1+r.1) b r.2.2.1 r.2.2.2 []).2.2.2.2.length≤4:=by
  refine itX_inv (fun v:A1F=>v.2.1=b∧cOk b v.2.2.1∧A9w v.2.2.2.2∧0≤v.1∧v.1≤4∧(v.2.2.2.2.length:Int)≤4 - v.1∧(v.1=0→1≤v.2.2.2.2.length)) (fun a:Z9=>a.1=0∧a.2.1=b∧cOk b a.2.2.1∧A9w a.2.2.2.2∧1≤a.2.2.2.2.length∧a.2.2.2.2.length≤4) (fun v=>v.1.toNat) ?_ ⟨rfl,a5,⟨.nil,by simp⟩,by simp only;omega,by simp only;omega,by simp only [List.length_nil];omega,fun h=>by simp only at h;omega⟩ (by simp only;omega)
  rintro ⟨n,b', j,h', l⟩ ⟨e1,e2,e3,e4,e5,e6,e7⟩
  simp only at e1 e2 e3 e4 e5 e6 e7
  subst e1
  by_cases hn:n > 0
  ·obtain ⟨o1,o2,o3,o4,o5,o6⟩:=B5c e2 h'
   obtain ⟨p1,p2,p3,p4,p5⟩:=B5b e3.1 (by omega) (Z3 b' j h').1 (Z3 b' j h').2.1 (Z3 b' j h').2.2.1
   have w2:IntKind.wrap .i64 (n - 1)=n - 1:=wrap64 (by omega) (by omega)
   simp only [A2i,decide_eq_true hn,o1,p1,cond_true,w2,o5,A71]
   refine .inl ⟨_,rfl,⟨rfl,o6,⟨p2,fun x hx=>?_⟩,by simp only;omega,by simp only;omega,by simp only;omega,fun _=>List.length_pos_iff.2 p4⟩,by simp only;omega⟩
   rcases p3 x hx with rfl | hx
   ·exact ⟨o4,o2,o3⟩
   ·exact e3.2 x hx
  ·simp only [A2i,decide_eq_false hn,cond_false]
   exact .inr ⟨_,rfl,rfl,rfl,e2,e3,e7 (by omega),by simp only;omega⟩
 exact ⟨by rw [z1];rfl,z2,z3,z4,z5,z6⟩
theorem B4K {l:Lq1} (h1:l.length≤1048576) (h2:∀ o∈l,o.2.1.size≤1048576∧o.2.2.size≤1048576):E9 l=true:=by
 simp only [E9,okL,Bool.and_eq_true,decide_eq_true_eq,List.all_eq_true]
 refine ⟨h1,fun o ho=>?_⟩
 simp only [B6Y,okS,Bool.and_eq_true,decide_eq_true_eq];exact h2 o ho
theorem B4f {l:Lq1} (h:A9w l) (h8:l.length≤8):E9 l=true:=B4K (by omega) fun o ho=>by have:=h.2 o ho;omega
theorem B5d {b:List Int} {i:Int} (hc:cOk b i) (h:Int):A1J b i h=true∧E9 (U7 b i h).2.2.1=true∧(U7 b i h).2.2.2.1=b∧cOk b (U7 b i h).2.2.2.2.1∧(U7 b i h).2.1≤4:=by
 obtain ⟨a1,a2,a3,a4⟩:=A6p hc h (l:=[(1:Int),(1:Int),(2:Int),(3:Int)]) (by simp)
 obtain ⟨b1,b2,b3,b4,b5⟩:=T5 a4 4 (J4 b i h [(1:Int),(1:Int),(2:Int),(3:Int)]).2.2.2.1
 have k1:D1 b i h=E6 4 b (J4 b i h [(1:Int),(1:Int),(2:Int),(3:Int)]).2.2.1 (J4 b i h [(1:Int),(1:Int),(2:Int),(3:Int)]).2.2.2.1:=by simp only [D1,a3]
 rw [← k1] at b2 b3 b4 b5
 have b3:=b3 (by omega)
 have ht:IntKind.wrap .i64 ((1:Int)+(D1 b i h).1)≤4:=by rw [wrap64 (by omega) (by omega)];omega
 obtain ⟨c1,c2,c3,c4,c5,c6⟩:=A9j b5 (D1 b i h).2.2.2
 have k2:A2m b i h=A1m b (D1 b i h).2.2.1 (D1 b i h).2.2.2:=by simp only [A2m,b4]
 rw [← k2] at c2 c3 c4 c5 c6
 simp only [A1J,U7,a1,a3,b1,b4,c1,Bool.true_and]
 cases ((J4 b i h [(1:Int),(1:Int),(2:Int),(3:Int)]).1==1) with
 | true=>exact ⟨rfl,B4f c4 (Nat.le_trans c6 (by decide)),c2,c3,ht⟩
 | false=>exact ⟨rfl,rfl,rfl,b5,ht⟩
theorem B70 {s:ByteArray} (h:s∈A98):A08 s=true:=by
 simp only [A98,List.mem_cons,List.not_mem_nil,or_false] at h
 rcases h with rfl | rfl | rfl | rfl | rfl | rfl | rfl<;>kernel_rfl
theorem B6W {k:Int} {s v:ByteArray} (h:B5H k s v):A6s k s v=true:=by
 obtain ⟨h1,h2⟩:=h
 have b3:=B70 h1
 rcases h2 with ⟨h2,h3⟩ | ⟨rfl,rfl⟩
 ·have hd:decide ((v.size:Int)≤20)=true:=decide_eq_true (by omega)
  have hin:I6 k 1 3=true:=by rcases h2 with e | e<;>rw [e]<;>rfl
  have hne:(k==2)=false:=by rcases h2 with e | e<;>rw [e]<;>rfl
  simp only [A6s,hin,hne,b3,hd,Bool.not_true,cond_false,cond_true]
 ·have hin:I6 2 1 3=true:=rfl
  have e:((2:Int)==2)=true:=rfl
  have hs:((⟨#[]⟩:ByteArray).toList==(⟨#[]⟩:ByteArray).toList)=true:=beq_self_eq_true _
  have hz:decide ((((⟨#[]⟩:ByteArray).size:Nat):Int)≤(20:Int))=true:=by decide
  show cond (!(I6 2 1 3)) false (cond ((2:Int)==2) (cond (!((⟨#[]⟩:ByteArray).toList==(⟨#[]⟩:ByteArray).toList)) false (cond (A08 s) (decide ((((⟨#[]⟩:ByteArray).size:Nat):Int)≤(20:Int))) false)) (cond (A08 s) (decide ((((⟨#[]⟩:ByteArray).size:Nat):Int)≤(20:Int))) false))=true
  rw [hin,e,hs,b3,hz];rfl
theorem B4g {l:Lq1} (h:A9w l) (h1:1≤l.length) (h8:l.length≤8):J0 l=true:=by
 have e:allF (A21 l) (l.length - (0:Int).toNat) (0:Int).toNat=true:=by
  refine (allF_true _ _).2 fun j _ hj=>?_
  have hj':j<l.length:=by simpa using hj
  simp only [A21,Bool.and_eq_true,B6W (h.2 _ (A5S hj' dOp)).1,true_and]
  by_cases h0:j=0
  ·subst h0;simp
  ·have hp:=List.pairwise_iff_getElem.1 h.1 (j - 1) j (by omega) hj' (by omega)
   have e2:l.getD (j - 1) dOp=l[j - 1]:=by simp [List.getD_eq_getElem?_getD,show j - 1<l.length by omega]
   have e3:l.getD j dOp=l[j]:=by simp [List.getD_eq_getElem?_getD,hj']
   rw [e2,e3]
   simp only [Bool.or_eq_true]
   exact .inr hp
 have e1:decide ((l.length:Int) ≥ 1)=true:=decide_eq_true (by omega)
 have e2:decide ((l.length:Int)≤8)=true:=decide_eq_true (by omega)
 simp only [J0,e,cond_true,I6,e1,e2]
theorem B68 {b:List Int} {i:Int} (hc:cOk b i) (h:Int):A1J b i h=true∧E5 (U7 b i h).1 (U7 b i h).2.1 (U7 b i h).2.2.1=true∧(U7 b i h).2.2.2.1=b∧cOk b (U7 b i h).2.2.2.2.1:=by
 obtain ⟨z1,_,z3,z4,_⟩:=B5d hc h
 refine ⟨z1,?_,z3,z4⟩
 obtain ⟨a1,a2,a3,a4⟩:=A6p hc h (l:=[(1:Int),(1:Int),(2:Int),(3:Int)]) (by simp)
 obtain ⟨b1,b2,b3,b4,b5⟩:=T5 a4 4 (J4 b i h [(1:Int),(1:Int),(2:Int),(3:Int)]).2.2.2.1
 have k1:D1 b i h=E6 4 b (J4 b i h [(1:Int),(1:Int),(2:Int),(3:Int)]).2.2.1 (J4 b i h [(1:Int),(1:Int),(2:Int),(3:Int)]).2.2.2.1:=by simp only [D1,a3]
 rw [← k1] at b2 b3 b4 b5
 have b3:=b3 (by omega)
 have ht:IntKind.wrap .i64 ((1:Int)+(D1 b i h).1)=1+(D1 b i h).1:=wrap64 (by omega) (by omega)
 obtain ⟨c1,c2,c3,c4,c5,c6⟩:=A9j b5 (D1 b i h).2.2.2
 have k2:A2m b i h=A1m b (D1 b i h).2.2.1 (D1 b i h).2.2.2:=by simp only [A2m,b4]
 rw [← k2] at c2 c3 c4 c5 c6
 have r2:I6 (1+(D1 b i h).1) 1 1000000=true:=by
  simp only [I6,decide_eq_true (show 1+(D1 b i h).1 ≥ 1 by omega),decide_eq_true (show 1+(D1 b i h).1≤1000000 by omega),cond_true]
 have hz:(((([]:Lq1).length:Nat):Int)==0)=true:=rfl
 have hK:(J4 b i h [(1:Int),(1:Int),(2:Int),(3:Int)]).1=1∨(J4 b i h [(1:Int),(1:Int),(2:Int),(3:Int)]).1=2∨(J4 b i h [(1:Int),(1:Int),(2:Int),(3:Int)]).1=3:=by
  simp only [List.mem_cons,List.not_mem_nil,or_false] at a2
  omega
 have ho:=B4g c4 c5 (by omega)
 have e21:((2:Int)==1)=false:=rfl
 have e31:((3:Int)==1)=false:=rfl
 have e32:((3:Int)==2)=false:=rfl
 simp only [U7,ht]
 rcases hK with hK | hK | hK<;>simp only [hK,E5,r2,ho,hz,e21,e31,e32,beq_self_eq_true,cond_true,cond_false,Bool.not_true]
theorem B1G {b:List Int} (hb:okB b) (hl:b.length≤1048576):U5 b=true∧B8z (O7 b)∧(O7 b).length≤5:=by
 obtain ⟨a1,a2,a3⟩:=B49 hb hl
 obtain ⟨b1,b2,b3,b4,b5⟩:=T5 a3 6 (X3 b).2.2
 have b3:=b3 (by omega)
 have key:(M6 b).1=0∧B8z (M6 b).2∧(M6 b).2.length≤5:=by
  simp only [M6,a2,b4]
  generalize E6 6 b (X3 b).2.1 (X3 b).2.2=r at *
  refine itX_inv (fun v:X6=>v.2.1=b∧cOk b v.2.2.1∧0≤v.1∧v.1+(v.2.2.2.2.length:Int)≤5∧B8z v.2.2.2.2) (fun a:R7=>a.1=0∧B8z a.2∧a.2.length≤5) (fun v=>v.1.toNat) ?_ ⟨rfl,b5,b2,by simp only [List.length_nil];omega,fun x hx=>by cases hx⟩ (by simp only;omega)
  rintro ⟨x5,c,i,h,l⟩ ⟨h1,h2,h3,h4,h5⟩
  simp only at h1 h2 h3 h4 h5
  subst h1
  by_cases hx:x5 > 0
  ·obtain ⟨d1,d2,d3,d4⟩:=B68 h2 h
   have hM:decide ((l.length+[((U7 c i h).1,((U7 c i h).2.1,(U7 c i h).2.2.1))].length)*40≤MAXB)=true:=decide_eq_true (by simp only [List.length_singleton,MAXB];omega)
   have w:IntKind.wrap .i64 (x5 - 1)=x5 - 1:=wrap64 (by omega) (by omega)
   simp only [A0R,decide_eq_true hx,d1,hM,w,cond_true]
   refine .inl ⟨_,rfl,⟨d3,d4,by simp only;omega,by simp only [List.length_append,List.length_singleton];omega,fun z hz=>?_⟩,by simp only;omega⟩
   rcases List.mem_append.1 hz with hz | hz
   ·exact h5 z hz
   ·rw [List.mem_singleton.1 hz];exact d2
  ·simp only [A0R,decide_eq_false hx,cond_false]
   exact .inr ⟨_,rfl,rfl,h5,by simp only;omega⟩
 obtain ⟨k1,k2,k3⟩:=key
 refine ⟨?_,k2,k3⟩
 simp only [U5,a1,a2,b1,k1,Bool.true_and];rfl
theorem okB.getD {b:List Int} (h:okB b) (i:Nat):0≤b.getD i 0∧b.getD i 0≤255:=by
 rw [List.getD_eq_getElem?_getD]
 cases e:b[i]? with
 | none=>simp
 | some c=>exact h c (List.mem_of_getElem? e)
theorem B4x {b:List Int} (hb:okB b) (hl:b.length≤1048576) (i:Nat) (hi:i≤100):A5k b (i:Int)=true∧0≤lat b (i:Int)∧lat b (i:Int)≤255:=by
 by_cases h:(i:Int)<(b.length:Int)
 ·have e:decide ((i:Int)<(b.length:Int))=true:=decide_eq_true h
  have hx:=hb _ (A5S (show i<b.length by omega) 0)
  have w:=wrap64 (n:=b.getD i 0) (by omega) (by omega)
  simp only [A5k,lat,e,cond_true,Int.toNat_natCast,w]
  exact ⟨decide_eq_true (by omega),hx.1,hx.2⟩
 ·have e:decide ((i:Int)<(b.length:Int))=false:=decide_eq_false h
  have w1:=wrap64 (n:=(i:Int)*31) (by omega) (by omega)
  have w2:=wrap64 (n:=(b.length:Int)*7) (by omega) (by omega)
  have w3:=wrap64 (n:=(i:Int)*31+(b.length:Int)*7) (by omega) (by omega)
  simp only [A5k,lat,e,cond_false,w1,w2,w3]
  have h1:=Int.tmod_nonneg (a:=(i:Int)*31+(b.length:Int)*7) 256 (by omega)
  have h2:=Int.tmod_lt_of_pos ((i:Int)*31+(b.length:Int)*7) (show (0:Int)<256 by omega)
  exact ⟨by trivial,h1,by omega⟩
theorem B0K {k t:Int} {l:Lq1} (h:E5 k t l=true):okB (O6 k t l)∧(O6 k t l).length≤419∧5≤(O6 k t l).length:=by
 obtain ⟨a1,a2,a3⟩:=A06 h
 obtain ⟨_,_,b1,b2⟩:=A4G (A5 k t l) (by omega)
 have l1:=O3 ((A5 k t l).length:Int)
 refine ⟨(A2c (by omega) (by omega)).app (a1.app b2),?_,?_⟩<;>simp only [O6,List.length_append]<;>omega
theorem B0N {n:Int} (h1:0≤n) (h2:n<18446744073709551616):IntKind.wrap .u64 n=n:=by
 show (if (false&&decide (n % (2 ^ 64:Int) ≥ (2 ^ 63:Int)))=true then n % (2 ^ 64:Int) - (2 ^ 64:Int) else n % (2 ^ 64:Int))=n
 simp only [Bool.false_and,Bool.false_eq_true,if_false];omega
theorem B3S (x:Int):0≤IntKind.wrap .u8 x∧IntKind.wrap .u8 x≤255:=by
 have e:IntKind.wrap .u8 x=(if (false&&decide (x % (2 ^ 8:Int) ≥ (2 ^ 7:Int)))=true then x % (2 ^ 8:Int) - (2 ^ 8:Int) else x % (2 ^ 8:Int)):=rfl
 rw [e]
 simp only [Bool.false_and,Bool.false_eq_true,if_false];omega
theorem B8y {b:List Int} (h:okB b) (i:Nat) {x:Int} (h0:0≤x) (h1:x≤255):okB (b.set i x):=by
 intro c hc
 rcases List.mem_or_eq_of_mem_set hc with hc | rfl
 ·exact h c hc
 ·exact ⟨h0,h1⟩
theorem B7K {α:Type} {l:List α} {i:Nat} (hi:i<l.length) (x d:α):(l.set i x).getD i d=x:=by
 simp [List.getD_eq_getElem?_getD,hi]
noncomputable def pN:Nat→Nat→Nat→List Int→Option (Nat×Nat)
 | 0,_,_,_=>none
 | _+1,_,_,[]=>none
 | f+1,k,n,c::r =>
  if c > 127 then pN f (k+1) (n+c.toNat % 128*2 ^ (7*k)) r
  else if (0<k∧c=0)∨n+c.toNat*2 ^ (7*k) > 1000000000 then none else some (n+c.toNat*2 ^ (7*k),k+1)
noncomputable def gN (b:List Int) (at':Int):Int×Int×Bool :=
 if 0≤at'∧at'<b.length then (match pN 5 0 0 (b.drop at'.toNat) with
  | some (n,l)=>((n:Int),at'+l,true)
  | none=>(0,0,false)) else (0,0,false)
theorem B2w {b:List Int} {i:Nat} (h:i<b.length):b.drop i=b.getD i 0::b.drop (i+1):=by
 rw [List.drop_eq_getElem_cons h];simp [List.getD_eq_getElem?_getD,h]
theorem C1u (c k:Nat) (hc:c≤255) (hk:k<5):IntKind.wrap .i64 ((iand .i64 (IntKind.wrap .i64 (c:Int)) (127:Int))*2 ^ (min (Int.toNat (IntKind.wrap .u64 (IntKind.wrap .i64 ((7:Int)*(k:Int))))) (IntKind.bits .i64)))=((c % 128*2 ^ (7*k):Nat):Int):=by
 rw [wrap64 (n:=(c:Int)) (by omega) (by omega),B6h c (by omega),wrap64 (n:=(7:Int)*(k:Int)) (by omega) (by omega),B0N (by omega) (by omega)]
 have e:Int.toNat ((7:Int)*(k:Int))=7*k:=by omega
 have e2:min (7*k) (IntKind.bits .i64)=7*k:=Nat.min_eq_left (by show 7*k≤64;omega)
 rw [e,e2]
 have h1:c % 128*2 ^ (7*k)≤128*2 ^ 28:=Nat.mul_le_mul (by omega) (Nat.pow_le_pow_right (by decide) (by omega))
 have h2:(128:Nat)*2 ^ 28=34359738368:=by decide
 have e3:((c % 128:Nat):Int)*2 ^ (7*k)=((c % 128*2 ^ (7*k):Nat):Int):=by simp
 rw [e3]
 exact wrap64 (by omega) (by omega)
theorem C0e (n c k:Nat) (hc:c≤255) (hk:k<5) (hn:n<2 ^ (7*k)):ior .i64 (n:Int) (IntKind.wrap .i64 ((iand .i64 (IntKind.wrap .i64 (c:Int)) (127:Int))*2 ^ (min (Int.toNat (IntKind.wrap .u64 (IntKind.wrap .i64 ((7:Int)*(k:Int))))) (IntKind.bits .i64))))=((n+c % 128*2 ^ (7*k):Nat):Int)∧n+c % 128*2 ^ (7*k)<2 ^ (7*(k+1))∧n+c % 128*2 ^ (7*k)<9223372036854775808:=by
 have h3:n+c % 128*2 ^ (7*k)<2 ^ (7*(k+1)):=by
  rw [show 7*(k+1)=7*k+7 by omega,Nat.pow_add,show (2:Nat) ^ 7=128 from rfl]
  have:c % 128*2 ^ (7*k)≤127*2 ^ (7*k):=Nat.mul_le_mul_right _ (by omega)
  omega
 have h4:(2:Nat) ^ (7*(k+1))≤2 ^ 35:=Nat.pow_le_pow_right (by decide) (by omega)
 have h5:(2:Nat) ^ 35=34359738368:=by decide
 refine ⟨?_,h3,by omega⟩
 rw [C1u c k hc hk]
 exact B7O n (c % 128) (7*k) hn (by omega)
theorem okB.drop {b:List Int} (h:okB b) (i:Nat):okB (b.drop i):=fun c hc=>h c (List.mem_of_mem_drop hc)
theorem B57 {b:List Int} (hb:okB b) (hl:b.length≤1099511627776) {i:Nat} (hi:i<b.length) :
    (match pN 5 0 0 (b.drop i) with
      | some (n,l)=>M4 b (i:Int) 0 0=(0,(n:Int),(i:Int)+l,true)
      | none=>M4 b (i:Int) 0 0=(0,0,0,false)∨(M4 b (i:Int) 0 0).1=1):=by
  refine itX_inv (fun v => ∃ k n : Nat, v = (b, (i : Int), (n : Int), (k : Int)) ∧ k ≤ 5 ∧ n < 2 ^ (7 * k) ∧ pN (5 - k) k n (b.drop (i + k)) = pN 5 0 0 (b.drop i)) (fun a => match pN 5 0 0 (b.drop i) with
      | some (n,l)=>a=(0,(n:Int),(i:Int)+l,true)
      | none=>a=(0,0,0,false)∨a.1=1) (fun v=>5 - v.2.2.2.toNat) ?_ ⟨0,0,rfl,by omega,by simp,rfl⟩ (by simp)
  rintro v ⟨k,n,rfl,hk,hn,hp⟩
  by_cases h5:k<5
  · have e1:decide ((k:Int)<5)=true:=decide_eq_true (by omega)
    have e2:decide ((i:Int) ≥ 0)=true:=decide_eq_true (by omega)
    have e3:decide ((i:Int)<(b.length:Int))=true:=decide_eq_true (by omega)
    have e4:IntKind.wrap .i64 ((i:Int)+(k:Int))=((i+k:Nat):Int):=by rw [wrap64 (by omega) (by omega)];omega
    by_cases hik:i+k<b.length
    · have e5:decide (((i+k:Nat):Int)<(b.length:Int))=true:=decide_eq_true (by omega)
      have e6:decide (0≤((i+k:Nat):Int)∧((i+k:Nat):Int)<(b.length:Int))=true:=decide_eq_true (by omega)
      have e7:decide (0≤(IntKind.wrap .u64 (IntKind.wrap .i64 ((7:Int)*(k:Int)))))=true:=by
        rw [wrap64 (n:=(7:Int)*(k:Int)) (by omega) (by omega),B0N (by omega) (by omega)];exact decide_eq_true (by omega)
      obtain ⟨hc0,hc1⟩:=hb.getD (i+k)
      have hdc:=B2w hik
      obtain ⟨c,hc⟩:=Int.eq_ofNat_of_zero_le hc0
      rw [hc] at hc1 hdc
      have hc255:c≤255:=by omega
      obtain ⟨f1,f2,f3⟩:=C0e n c k hc255 h5 hn
      have e8:IntKind.wrap .i64 (c:Int)=(c:Int):=wrap64 (by omega) (by omega)
      rw [hdc,show 5 - k=(4 - k)+1 by omega,pN] at hp
      simp only [Int.toNat_natCast] at hp
      simp only [X0,e1,e2,e3,e4,e5,e6,e7,cond_true,Int.toNat_natCast,hc,f1]
      simp only [e8]
      by_cases h127:c > 127
      · rw [if_pos (by omega)] at hp
        have e9:decide ((c:Int) > 127)=true:=decide_eq_true (by omega)
        simp only [e9,cond_true]
        refine .inl ⟨_,rfl,⟨k+1,n+c % 128*2 ^ (7*k),?_,by omega,f2,?_⟩,?_⟩
        · rw [wrapU k (by omega)]
        · rw [show 5 - (k+1)=4 - k by omega,← hp];rfl
        · rw [wrapU k (by omega)];simp;omega
      · rw [if_neg (by omega)] at hp
        have e9:decide ((c:Int) > 127)=false:=decide_eq_false (by omega)
        have hcm:c % 128=c:=by omega
        rw [hcm] at f3 ⊢
        simp only [e9,cond_false]
        right
        by_cases hz:0<k∧c=0
        · rw [if_pos (by omega)] at hp
          have e10:decide ((k:Int) > 0)=true:=decide_eq_true (by omega)
          have e11:((c:Int)==0)=true:=by rw [beq_iff_eq];omega
          simp only [e10,e11,cond_true]
          exact ⟨_,rfl,by rw [← hp];exact .inl rfl⟩
        · by_cases hg:n+c*2 ^ (7*k) > 1000000000
          · rw [if_pos (.inr hg)] at hp
            have e12:decide (((n+c*2 ^ (7*k):Nat):Int) > 1000000000)=true:=decide_eq_true (by omega)
            simp only [e12,cond_true]
            refine ⟨(0,0,0,false),?_,by rw [← hp];exact .inl rfl⟩
            cases decide ((k:Int) > 0)<;>cases ((c:Int)==0)<;>rfl
          · rw [if_neg (fun h=>h.elim (fun h=>hz ⟨h.1,by omega⟩) hg)] at hp
            have e12:decide (((n+c*2 ^ (7*k):Nat):Int) > 1000000000)=false:=decide_eq_false (by omega)
            have e13:IntKind.wrap .i64 (((i+k:Nat):Int)+1)=((i+k+1:Nat):Int):=wrapU (i+k) (by omega)
            simp only [e12,cond_false,e13]
            refine ⟨(0,((n+c*2 ^ (7*k):Nat):Int),((i+k+1:Nat):Int),true),?_,?_⟩
            · by_cases h0:0<k
              · have e10:decide ((k:Int) > 0)=true:=decide_eq_true (by omega)
                have e11:((c:Int)==0)=false:=by rw [beq_eq_false_iff_ne];intro h;exact hz ⟨h0,by omega⟩
                simp only [e10,e11,cond_true,cond_false]
              · have e10:decide ((k:Int) > 0)=false:=decide_eq_false (by omega)
                simp only [e10,cond_false]
            · rw [← hp];show _=_
              congr 3
    · have e5:decide (((i+k:Nat):Int)<(b.length:Int))=false:=decide_eq_false (by omega)
      rw [show 5 - k=(4 - k)+1 by omega,List.drop_eq_nil_of_le (by omega),pN] at hp
      simp only [X0,e1,e2,e3,e4,e5,cond_true,cond_false]
      exact .inr ⟨_,rfl,by rw [← hp];exact .inr rfl⟩
  · obtain rfl:k=5:=by omega
    have e1:decide (((5:Nat):Int)<5)=false:=by decide
    simp only [X0,e1,cond_false]
    exact .inr ⟨_,rfl,by rw [← hp];exact .inr rfl⟩
theorem R0 {b:List Int} (hb:okB b) (hl:b.length≤1099511627776) (a:Int):A4 b a=gN b a∧D8 b a=true:=by
 simp only [A4,D8,gN]
 by_cases h:0≤a∧a<b.length
 ·obtain ⟨i,rfl⟩:=Int.eq_ofNat_of_zero_le h.1
  have hi:i<b.length:=by omega
  rw [if_pos h,Int.toNat_natCast]
  have:=B57 hb hl hi
  cases hp:pN 5 0 0 (b.drop i) with
  | some x =>
   rw [hp] at this
   simp only at this
   rw [this];exact ⟨rfl,rfl⟩
  | none =>
   rw [hp] at this
   rcases this with h1 | h1
   ·rw [h1];exact ⟨rfl,rfl⟩
   ·rw [h1];exact ⟨rfl,rfl⟩
 ·rw [if_neg h]
  have:(M4 b a 0 0).1=1:=by
   refine itX_inv (fun v:A1B=>v.1=b∧v.2.1=a) (fun r:Z6=>r.1=1) (fun _=>0) (fun v hv=>?_) ⟨rfl,rfl⟩ (by simp)
   obtain ⟨x,y,n,k⟩:=v
   obtain ⟨rfl,rfl⟩:=hv
   right
   simp only [X0]
   cases decide (k<5) with
   | false=>exact ⟨_,rfl,rfl⟩
   | true =>
    by_cases h1:y ≥ 0
    ·have e2:decide (y<(x.length:Int))=false:=decide_eq_false (fun h2=>h ⟨h1,h2⟩)
     simp only [decide_eq_true h1,e2,cond_true,cond_false]
     exact ⟨_,rfl,rfl⟩
    ·simp only [decide_eq_false h1,cond_true,cond_false]
     exact ⟨_,rfl,rfl⟩
  rw [this];exact ⟨rfl,rfl⟩
theorem B9j:∀ (j k n:Nat) (l:List Int) (m len:Nat),okB l→k+j≤4→pN (j+1) k n l=some (m,len) →
  ∃ (x:Nat) (post:List Int),l=hiB j x++post∧m=n+x*2 ^ (7*k)∧len=k+(hiB j x).length∧(0<k→0<x)∧x<128 ^ (j+1)∧m≤1000000000:=by
 intro j
 induction j with
 | zero =>
  intro k n l m len hb hk h
  cases l with
  | nil=>simp [pN] at h
  | cons c r =>
   obtain ⟨hc,_⟩:=hb c (by simp)
   obtain ⟨x,rfl⟩:=Int.eq_ofNat_of_zero_le hc
   simp only [pN,Int.toNat_natCast] at h
   split at h
   ·cases h
   ·split at h
    ·cases h
    ·simp only [Option.some.injEq,Prod.mk.injEq] at h
     obtain ⟨rfl,rfl⟩:=h
     exact ⟨x,r,by rw [A1G 0 x (by omega)];rfl,rfl,by rw [A1G 0 x (by omega)];rfl,by omega,by simp;omega,by omega⟩
 | succ j ih =>
  intro k n l m len hb hk h
  cases l with
  | nil=>simp [pN] at h
  | cons c r =>
   obtain ⟨hc,hc'⟩:=hb c (by simp)
   obtain ⟨y,rfl⟩:=Int.eq_ofNat_of_zero_le hc
   rw [pN] at h
   simp only [Int.toNat_natCast] at h
   split at h
   ·rename_i hgt
    obtain ⟨x,post,e1,e2,e3,e4,e5,e6⟩:=ih (k+1) (n+y % 128*2 ^ (7*k)) r m len (fun c hc=>hb c (by simp [hc])) (by omega) h
    have hx0:=e4 (by omega)
    have hxb:y % 128+128*x<128 ^ (j+1+1):=by rw [Nat.pow_succ];omega
    have hxs:y % 128+128*x<9223372036854775808:=by
     have:(128:Nat) ^ (j+1+1)≤128 ^ 5:=Nat.pow_le_pow_right (by decide) (by omega)
     have h5:(128:Nat) ^ 5=34359738368:=by decide
     omega
    have hst:=B09 j (y % 128+128*x) (by omega) hxs
    have q1:(y % 128+128*x) / 128=x:=by omega
    have q2:128+(y % 128+128*x) % 128=y:=by omega
    rw [q1,q2] at hst
    refine ⟨y % 128+128*x,post,by rw [hst,e1];rfl,?_,by rw [hst,e3];simp;omega,fun _=>by omega,hxb,e6⟩
    rw [e2,show 7*(k+1)=7*k+7 by omega,Nat.pow_add,show (2:Nat) ^ 7=128 from rfl,Nat.add_mul,Nat.mul_comm (2 ^ (7*k)) 128,← Nat.mul_assoc,Nat.mul_comm x 128]
    omega
   ·rename_i hgt
    split at h
    ·cases h
    ·simp only [Option.some.injEq,Prod.mk.injEq] at h
     obtain ⟨rfl,rfl⟩:=h
     refine ⟨y,r,by rw [A1G _ y (by omega)];rfl,rfl,by rw [A1G _ y (by omega)];rfl,by omega,?_,by omega⟩
     have:(128:Nat) ^ 1≤128 ^ (j+1+1):=Nat.pow_le_pow_right (by decide) (by omega)
     omega
theorem C0V {l:List Int} (hb:okB l) {m len:Nat} (h:pN 5 0 0 l=some (m,len)):∃ post,l=A7 (m:Int)++post∧len=(A7 (m:Int)).length∧m≤1000000000:=by
 obtain ⟨x,post,e1,e2,e3,e4,e5,e6⟩:=B9j 4 0 0 l m len hb (by omega) h
 have:x=m:=by simp at e2;omega
 subst this
 exact ⟨post,by rw [B0J];exact e1,by rw [B0J];omega,e6⟩
theorem okB.take {b:List Int} (h:okB b) (i:Nat):okB (b.take i):=fun c hc=>h c (List.mem_of_mem_take hc)
theorem B4m {b:List Int} (hb:okB b) {a n p:Int} (h:gN b a=(n,p,true)):∃ pre post,b=pre++(A7 n++post)∧a=pre.length∧p=a+(A7 n).length∧0≤n∧n≤1000000000:=by
 simp only [gN] at h
 split at h
 ·rename_i hc
  split at h
  ·rename_i m l hp
   simp only [Prod.mk.injEq] at h
   obtain ⟨rfl,rfl,_⟩:=h
   obtain ⟨post,e1,e2,e3⟩:=C0V (hb.drop _) hp
   refine ⟨b.take a.toNat,post,?_,by rw [List.length_take];omega,by rw [e2],by omega,by omega⟩
   rw [← e1,List.take_append_drop]
  ·cases h
 ·cases h
theorem A5O {b:List Int} (hb:okB b) {a:Int} (h:(gN b a).2.2=true):0≤a∧a<(gN b a).2.1∧(gN b a).2.1≤b.length∧0≤(gN b a).1∧(gN b a).1≤1000000000:=by
 obtain ⟨pre,post,e1,e2,e3,e4,e5⟩:=B4m hb (a:=a) (n:=(gN b a).1) (p:=(gN b a).2.1) (by rw [← h])
 have hlen:=congrArg List.length e1
 simp only [List.length_append] at hlen
 have:1≤(A7 (gN b a).1).length:=by simp [A7]
 omega
theorem B3T {len p n:Int} (hl:0≤len∧len≤1048576) (hp:0≤p∧p≤len) (hn:0≤n∧n≤1000000000):IntKind.wrap .i64 (len - p)=len - p∧IntKind.wrap .i64 (len - p - 4)=len - p - 4∧IntKind.wrap .i64 (p+n)=p+n∧IntKind.wrap .i64 (p+n+4)=p+n+4 :=
 ⟨wrap64 (by omega) (by omega),wrap64 (by omega) (by omega),wrap64 (by omega) (by omega),wrap64 (by omega) (by omega)⟩
theorem okB.right {a b:List Int} (h:okB (a++b)):okB b:=fun c hc=>h c (List.mem_append_right _ hc)
theorem B6g {b:List Int} (hb:okB b) (hl:b.length≤1048576) {a n p:Int} (h:gN b a=(n,p,true)) (hn:¬ n > (b.length:Int) - p - 4):∃ pre body s4 rest:List Int,b=pre++(A7 n++(body++(s4++rest)))∧a=pre.length∧p=a+(A7 n).length∧(body.length:Int)=n∧s4.length=4∧n≤1000000000∧0≤n∧okB body∧okB s4:=by
 obtain ⟨pre,post,e,ea,ep,h0,h1⟩:=B4m hb h
 have hlen:=congrArg List.length e
 simp only [List.length_append] at hlen
 have hp:okB post:=okB.right (okB.right (by rw [← e];exact hb))
 refine ⟨pre,post.take n.toNat,(post.drop n.toNat).take 4,(post.drop n.toNat).drop 4,by rw [List.take_append_drop,List.take_append_drop];exact e,ea,ep,?_,?_,h1,h0,hp.take _,(hp.drop _).take _⟩
 ·rw [List.length_take];omega
 ·rw [List.length_take,List.length_drop];omega
theorem B5D {b x y z:List Int} {i j:Int} (e:b=x++(y++z)) (hi:i=(x.length:Int)) (hj:j=(x.length:Int)+(y.length:Int)):(b.take j.toNat).drop i.toNat=y:=by
 rw [e,← List.append_assoc,List.take_left' (by rw [List.length_append];omega),List.drop_left' (by omega)]
noncomputable def AllB (l:List Int):Prop:=∀ x∈l,0≤x∧x<256
theorem AllB.app {l m:List Int} (h:AllB l) (h2:AllB m):AllB (l++m):=fun x hx=>by
 rcases List.mem_append.1 hx with hx | hx
 ·exact h x hx
 ·exact h2 x hx
theorem B61 (a:List Int) (ha:a.length≤1000000000000) (hb:AllB a) (h:List Int) (hh:h.length=a.length+1) (hB:AllB h) :
  (D6 a h).1=0∧(D7 a h).1=0∧(D6 a h).2.1=a∧(D7 a h).2.1=a∧(D6 a h).2.2=(D7 a h).2.2∧((D7 a h).2.2.length+8) % 64=0∧(D7 a h).2.2.length≤a.length+64∧AllB (D7 a h).2.2:=by
 refine itX_sim (v:=(a,h)) (w:=(a,h)) (fun (v:A0a) (w:A1D)=>v.1=a∧w.1=a∧v.2=w.2∧v.2.length+A8P v.2.length≤a.length+64∧AllB v.2)
  (fun (x:T6) (y:Z7)=>x.1=0∧y.1=0∧x.2.1=a∧y.2.1=a∧x.2.2=y.2.2∧(y.2.2.length+8) % 64=0∧y.2.2.length≤a.length+64∧AllB y.2.2) (fun v=>A8P v.2.length) ?_ ⟨rfl,rfl,rfl,by simp only [A8P];omega,hB⟩ (by simp only [A8P];omega)
 rintro ⟨a1,l⟩ ⟨a2,l2⟩ ⟨h1,h2,h3,h4,h5⟩
 simp only at h1 h2 h3 h4 h5
 subst h1;subst h2;subst h3
 simp only [A8P] at h4
 have e1:IntKind.wrap .i64 ((l.length:Int)+(8:Int))=((l.length+8:Nat):Int):=by rw [O8 _ (by omega) (by omega)];omega
 have t1:Int.tmod ((l.length+8:Nat):Int) 64=(((l.length+8) % 64:Nat):Int):=by rw [Int.tmod_eq_emod_of_nonneg (by omega)];omega
 have t2:Int.tmod (l.length:Int) 64=((l.length % 64:Nat):Int):=by rw [Int.tmod_eq_emod_of_nonneg (by omega)];omega
 by_cases hm:(l.length+8) % 64=0
 ·refine .inr ⟨(0,a2,l),(0,a2,l),?_,?_,rfl,rfl,rfl,rfl,rfl,hm,by simp only;omega,h5⟩
  ·simp only [W2,e1,t1,hm];rfl
  ·simp only [A2g,t2,show l.length % 64=56 by omega];rfl
 ·refine .inl ⟨(a2,l++[0]),(a2,l++[0]),?_,?_,⟨rfl,rfl,rfl,by simp only [A8P,List.length_append,List.length_singleton];omega,h5.app (fun x hx=>by rw [List.mem_singleton.1 hx];exact ⟨by decide,by decide⟩)⟩,by simp only [A8P,List.length_append,List.length_singleton];omega⟩
  ·have c1:((((l.length+8) % 64:Nat):Int) != (0:Int))=true:=by simp only [bne_iff_ne,ne_eq];omega
   simp only [W2,e1,t1,c1,cond_true,List.length_singleton]
   rw [decide_eq_true (by simp only [MAXB];omega)];rfl
  ·have c1:(((l.length % 64:Nat):Int) != (56:Int))=true:=by simp only [bne_iff_ne,ne_eq];omega
   simp only [A2g,t2,c1,cond_true,List.length_singleton]
   rw [decide_eq_true (by simp only [MAXB];omega)];rfl
theorem w8B (n:Int):0≤IntKind.wrap .u8 n∧IntKind.wrap .u8 n<256:=by
 have:IntKind.wrap .u8 n=n % 256:=by simp [IntKind.wrap,IntKind.bits,IntKind.signed]
 rw [this];exact ⟨Int.emod_nonneg _ (by decide),Int.emod_lt_of_pos _ (by decide)⟩
theorem B62 (n:Int) (h:List Int) (hh:h.length≤1000000000100) (hB:AllB h) :
  (M3 n 7 h).1=0∧(Q7 n 56 h).1=0∧(M3 n 7 h).2=(Q7 n 56 h).2∧(Q7 n 56 h).2.length=h.length+8∧AllB (Q7 n 56 h).2:=by
 refine itX_sim (v:=(n,(7:Int),h)) (w:=(n,(56:Int),h)) (fun (v:A0b) (w:A1E)=>v.1=n∧w.1=n∧v.2.2=w.2.2∧(-1≤v.2.1∧v.2.1≤7)∧w.2.1=8*v.2.1∧(v.2.2.length:Int)=(h.length:Int)+(7 - v.2.1)∧AllB v.2.2)
  (fun (x:T7) (y:Z8)=>x.1=0∧y.1=0∧x.2=y.2∧y.2.length=h.length+8∧AllB y.2) (fun v=>(v.2.1+1).toNat) ?_ ⟨rfl,rfl,rfl,⟨by simp only;omega,by simp only;omega⟩,by simp only;omega,by simp only;omega,hB⟩ (by simp only;decide)
 rintro ⟨n1,i,l⟩ ⟨n2,j,l2⟩ ⟨h1,h2,h3,h4,h5,h6,h7⟩
 simp only at h1 h2 h3 h4 h5 h6 h7
 subst h1;subst h2;subst h3;subst h5
 by_cases hi:0≤i
 ·have e0 : IntKind.wrap .u64 (8 * i) = 8 * i := by
   have:IntKind.wrap .u64 (8*i)=(8*i) % 18446744073709551616:=by simp [IntKind.wrap,IntKind.bits,IntKind.signed]
   rw [this];omega
  refine .inl ⟨(n2,i - 1,l++[IntKind.wrap .u8 (Int.fdiv n2 (2 ^ (min (Int.toNat (8*i)) (IntKind.bits .i64))))]),(n2,8*i - 8,l++[IntKind.wrap .u8 (Int.fdiv n2 (2 ^ (min (Int.toNat (8*i)) (IntKind.bits .i64))))]),?_,?_,⟨rfl,rfl,rfl,by simp only;omega,by simp only;omega,by simp only [List.length_append,List.length_singleton];omega,h7.app (fun x hx=>by rw [List.mem_singleton.1 hx];exact w8B _)⟩,by simp only;omega⟩
  ·simp only [W8,O8 (8*i) (by omega) (by omega),e0,wrap64 (n:=i - 1) (by omega) (by omega),decide_eq_true (show i ≥ 0 from hi),cond_true,List.length_singleton]
   rw [decide_eq_true (by omega),decide_eq_true (by simp only [MAXB];omega)];rfl
  ·simp only [A2h,e0,wrap64 (n:=8*i - 8) (by omega) (by omega),decide_eq_true (show 8*i ≥ 0 by omega),cond_true,List.length_singleton]
   rw [decide_eq_true (show _≤_ from by simp only [MAXB];omega)];rfl
 ·refine .inr ⟨(0,l),(0,l),?_,?_,rfl,rfl,rfl,by simp only;omega,h7⟩
  ·simp only [W8,decide_eq_false (show ¬ i ≥ 0 from hi),cond_false]
  ·simp only [A2h,decide_eq_false (show ¬ 8*i ≥ 0 by omega),cond_false]
theorem B4M (a:List Int) (ha:a.length≤1000000000000) (hb:AllB a):V7 a=true∧A04 a=true∧M1 a=F5 a∧(F5 a).length % 64=0∧0<(F5 a).length∧(F5 a).length≤a.length+72∧AllB (F5 a):=by
 have h128:AllB (a++[128]):=hb.app (fun x hx=>by rw [List.mem_singleton.1 hx];exact ⟨by decide,by decide⟩)
 obtain ⟨a1,a2,a3,a4,a5,a6,a7,a8⟩:=B61 a ha hb (a++[128]) (by simp) h128
 obtain ⟨b1,b2,b3,b4,b5⟩:=B62 (IntKind.wrap .i64 ((8:Int)*(a.length:Int))) (D7 a (a++[128])).2.2 (by omega) a8
 have ei:U2 a=M3 (IntKind.wrap .i64 ((8:Int)*(a.length:Int))) 7 (D7 a (a++[128])).2.2:=by
  simp only [U2,C8,a3,a5]
 have es:A01 a=Q7 (IntKind.wrap .i64 ((8:Int)*(a.length:Int))) 56 (D7 a (a++[128])).2.2:=by
  simp only [A01,List.nil_append,a4,Int.mul_comm]
 have e1:M1 a=F5 a:=by simp only [M1,F5,ei,es,b3]
 refine ⟨?_,?_,e1,?_,?_,?_,?_⟩
 ·have q1:C7 a=true:=decide_eq_true (by simp only [MAXB,List.length_nil];omega)
  simp only [V7,q1,C8,a1,ei,b1,List.length_singleton,Bool.true_and,beq_self_eq_true,Bool.and_true]
  exact decide_eq_true (by simp only [MAXB];omega)
 ·simp only [A04,List.nil_append,a2,es,b2,List.length_singleton,List.length_nil,List.length_append,beq_self_eq_true,Bool.and_true,Bool.and_eq_true,decide_eq_true_eq,MAXB]
  exact ⟨decide_eq_true (by omega),decide_eq_true (by omega)⟩
 ·simp only [F5,es,b4];omega
 ·simp only [F5,es,b4];omega
 ·simp only [F5,es,b4];omega
 ·simp only [F5,es];exact b5
noncomputable def A2L (p:List Int) (n:Nat):List Int:=(List.range n).foldl (fun h i=>A0O h ((p.drop (64*i)).take 64) A5o) hinit
noncomputable def Wd (x:Int):Prop:=0≤x∧x<4294967296
noncomputable def AllW (l:List Int):Prop:=∀ x∈l,Wd x
theorem B87:AllW hinit:=by
 intro x hx
 have:hinit.all (fun x=>decide (0≤x∧x<4294967296))=true:=by decide
 exact of_decide_eq_true (p:=0≤x∧x<4294967296) (List.all_eq_true.1 this x hx)
theorem w32 (n:Int):IntKind.wrap .u32 n=n % 4294967296:=by simp [IntKind.wrap,IntKind.bits,IntKind.signed]
theorem B7a {n:Nat} (h:n<4294967296):IntKind.wrap .u32 (n:Int)=(n:Int):=by rw [w32];omega
theorem B6b {n:Nat} (h:n<9223372036854775808):IntKind.wrap .i64 (n:Int)=(n:Int):=wrap64 (by omega) (by omega)
theorem B5S {n:Nat} (h:n<4294967296):Wd (n:Int):=⟨by omega,by omega⟩
theorem B7j {x:Int} (h:0≤x∧x<256) (k:Nat) (hk:k≤24):IntKind.wrap .u32 (IntKind.wrap .u32 x*2 ^ k)=IntKind.wrap .i64 (IntKind.wrap .i64 x*2 ^ k)∧Wd (IntKind.wrap .u32 (IntKind.wrap .u32 x*2 ^ k)):=by
 obtain ⟨a,rfl⟩:∃ a:Nat,x=(a:Int):=⟨x.toNat,by omega⟩
 have hp:2 ^ k≤2 ^ 24:=Nat.pow_le_pow_right (by decide) hk
 have h1:a*2 ^ k<4294967296:=by
  calc a*2 ^ k≤a*2 ^ 24:=Nat.mul_le_mul_left _ hp
   _<4294967296:=by omega
 have e1:(a:Int)*2 ^ k=((a*2 ^ k:Nat):Int):=by push_cast;rfl
 rw [B7a (n:=a) (by omega),B6b (n:=a) (by omega),e1,B7a h1,B6b (by omega)]
 exact ⟨rfl,B5S h1⟩
theorem C0i {x:Int} (h:0≤x∧x<256):IntKind.wrap .u32 x=IntKind.wrap .i64 x∧Wd (IntKind.wrap .u32 x):=by
 obtain ⟨a,rfl⟩:∃ a:Nat,x=(a:Int):=⟨x.toNat,by omega⟩
 rw [B7a (n:=a) (by omega),B6b (n:=a) (by omega)]
 exact ⟨rfl,B5S (by omega)⟩
theorem C0T {x y:Nat} (hx:x<4294967296) (hy:y<4294967296):ior .u32 (x:Int) (y:Int)=((x ||| y:Nat):Int):=by
 unfold ior
 rw [BitVec.toNat_or,show IntKind.bits .u32=32 from rfl,bvn (k:=32) hx,bvn (k:=32) hy]
 exact B7a (Nat.or_lt_two_pow (n:=32) hx hy)
theorem C0U {x y:Nat} (hx:x<9223372036854775808) (hy:y<9223372036854775808):ior .i64 (x:Int) (y:Int)=((x ||| y:Nat):Int):=by
 unfold ior
 rw [BitVec.toNat_or,show IntKind.bits .i64=64 from rfl,bvn (k:=64) (by omega),bvn (k:=64) (by omega)]
 exact B6b (Nat.or_lt_two_pow (n:=63) hx hy)
theorem Wd.nat {x:Int} (h:Wd x):∃ n:Nat,x=(n:Int)∧n<4294967296:=⟨x.toNat,by have:=h.1;omega,by have:=h.1;have:=h.2;omega⟩
theorem orS {x y:Int} (hx:Wd x) (hy:Wd y):ior .u32 x y=ior .i64 x y∧Wd (ior .u32 x y):=by
 obtain ⟨a,rfl,ha⟩:=hx.nat
 obtain ⟨b,rfl,hb⟩:=hy.nat
 rw [C0T ha hb,C0U (by omega) (by omega)]
 exact ⟨rfl,B5S (Nat.or_lt_two_pow (n:=32) ha hb)⟩
theorem B8I {a b c d:Int} (ha:0≤a∧a<256) (hb:0≤b∧b<256) (hc:0≤c∧c<256) (hd:0≤d∧d<256) :
  ior .u32 (ior .u32 (ior .u32 (IntKind.wrap .u32 (IntKind.wrap .u32 a*2 ^ (24))) (IntKind.wrap .u32 (IntKind.wrap .u32 b*2 ^ (16)))) (IntKind.wrap .u32 (IntKind.wrap .u32 c*2 ^ (8)))) (IntKind.wrap .u32 d) =
  ior .i64 (ior .i64 (ior .i64 (IntKind.wrap .i64 (IntKind.wrap .i64 a*2 ^ (24))) (IntKind.wrap .i64 (IntKind.wrap .i64 b*2 ^ (16)))) (IntKind.wrap .i64 (IntKind.wrap .i64 c*2 ^ (8)))) (IntKind.wrap .i64 d) ∧
  Wd (ior .u32 (ior .u32 (ior .u32 (IntKind.wrap .u32 (IntKind.wrap .u32 a*2 ^ (24))) (IntKind.wrap .u32 (IntKind.wrap .u32 b*2 ^ (16)))) (IntKind.wrap .u32 (IntKind.wrap .u32 c*2 ^ (8)))) (IntKind.wrap .u32 d)):=by
 obtain ⟨a1,a2⟩:=B7j ha 24 (by decide)
 obtain ⟨b1,b2⟩:=B7j hb 16 (by decide)
 obtain ⟨c1,c2⟩:=B7j hc 8 (by decide)
 obtain ⟨d1,d2⟩:=C0i hd
 rw [← a1,← b1,← c1,← d1]
 obtain ⟨e1,e2⟩:=orS a2 b2
 rw [← e1]
 obtain ⟨f1,f2⟩:=orS e2 c2
 rw [← f1]
 obtain ⟨g1,g2⟩:=orS f2 d2
 exact ⟨g1,g2⟩
theorem B48 {l:List Int} {k:Nat} (x:Int) (hk:0<k):(l++List.replicate k 0).set l.length x=(l++[x])++List.replicate (k - 1) 0:=by
 obtain ⟨j,rfl⟩:∃ j,k=j+1:=⟨k - 1,by omega⟩
 rw [List.set_append_right _ _ (Nat.le_refl _),Nat.sub_self,List.replicate_succ]
 simp
theorem AllB.at {l:List Int} (h:AllB l) {i:Nat} (hi:i<l.length):0≤l.getD i 0∧l.getD i 0<256:=by
 rw [List.getD_eq_getElem?_getD,List.getElem?_eq_getElem hi];exact h _ (List.getElem_mem hi)
theorem AllW.at {l:List Int} (h:AllW l) (i:Nat):Wd (l.getD i 0):=by
 rcases Nat.lt_or_ge i l.length with hi | hi
 ·rw [List.getD_eq_getElem?_getD,List.getElem?_eq_getElem hi];exact h _ (List.getElem_mem hi)
 ·rw [List.getD_eq_getElem?_getD,List.getElem?_eq_none hi];exact ⟨by decide,by decide⟩
theorem AllW.snoc {l:List Int} (h:AllW l) {x:Int} (hx:Wd x):AllW (l++[x]):=fun y hy=>by
 rcases List.mem_append.1 hy with hy | hy
 ·exact h y hy
 ·rw [List.mem_singleton.1 hy];exact hx
theorem B5h (c:List Int) (hc:c.length=64) (hb:AllB c):(J7 c 0 []).1=0∧(M8 c 0 (List.replicate 64 0)).2=(J7 c 0 []).2++List.replicate 48 0∧(J7 c 0 []).2.length=16∧AllW (J7 c 0 []).2:=by
 refine itX_sim (v:=(c,(0:Int),List.replicate 64 (0:Int))) (w:=(c,(0:Int),([]:List Int)))
  (fun (v:Q2) (w:A0w)=>v.1=c∧w.1=c∧v.2.1=w.2.1∧(0≤v.2.1∧v.2.1≤16)∧v.2.1=(w.2.2.length:Int)∧v.2.2=w.2.2++List.replicate (64 - w.2.2.length) 0∧AllW w.2.2)
  (fun (a:P7) (b:V1)=>b.1=0∧a.2=b.2++List.replicate 48 0∧b.2.length=16∧AllW b.2) (fun v=>(16 - v.2.1).toNat) ?_ ⟨rfl,rfl,rfl,⟨by simp only;omega,by simp only;omega⟩,rfl,rfl,fun x hx=>by simp at hx⟩ (by simp only;decide)
 rintro ⟨c1,i,l⟩ ⟨c2,j,ws⟩ ⟨h1,h2,h3,h4,h5,h6,h7⟩
 simp only at h1 h2 h3 h4 h5 h6 h7
 subst h1;subst h2;subst h3
 by_cases hi:i<16
 ·obtain ⟨n,rfl⟩:∃ n:Nat,i=(n:Int):=⟨ws.length,h5⟩
  have hn:n=ws.length:=by omega
  obtain ⟨e,ew⟩:=B8I (hb.at (i:=4*n) (by omega)) (hb.at (i:=4*n+1) (by omega)) (hb.at (i:=4*n+2) (by omega)) (hb.at (i:=4*n+3) (by omega))
  refine .inl ⟨(c2,(n:Int)+1,(ws++[_])++List.replicate (64 - ws.length - 1) 0),(c2,(n:Int)+1,ws++[_]),?_,?_,⟨rfl,rfl,rfl,by simp only;omega,by simp only [List.length_append,List.length_singleton];omega,by simp only [List.length_append,List.length_singleton];rw [Nat.sub_sub],h7.snoc ew⟩,by simp only;omega⟩
  ·simp only [N6,O8 (4*(n:Int)) (by omega) (by omega),O8 (4*(n:Int)+1) (by omega) (by omega),O8 (4*(n:Int)+2) (by omega) (by omega),O8 (4*(n:Int)+3) (by omega) (by omega),O8 ((n:Int)+1) (by omega) (by omega),decide_eq_true hi,cond_true]
   rw [decide_eq_true (by omega),decide_eq_true (by omega),decide_eq_true (by omega),decide_eq_true (by omega),decide_eq_true (by rw [h6];simp only [List.length_append,List.length_replicate];omega)]
   simp only [cond_true]
   rw [h6,show ((n:Int)).toNat=ws.length by omega,B48 _ (by omega)]
   rw [show (4*(n:Int)).toNat=4*n by omega,show (4*(n:Int)+1).toNat=4*n+1 by omega,show (4*(n:Int)+2).toNat=4*n+2 by omega,show (4*(n:Int)+3).toNat=4*n+3 by omega]
  ·simp only [A1q,O8 (4*(n:Int)) (by omega) (by omega),O8 (4*(n:Int)+1) (by omega) (by omega),O8 (4*(n:Int)+2) (by omega) (by omega),O8 (4*(n:Int)+3) (by omega) (by omega),O8 ((n:Int)+1) (by omega) (by omega),decide_eq_true hi,cond_true,List.length_singleton]
   rw [decide_eq_true (by omega),decide_eq_true (by omega),decide_eq_true (by omega),decide_eq_true (by omega),decide_eq_true (by simp only [MAXB];omega)]
   simp only [cond_true]
   rw [show (4*(n:Int)).toNat=4*n by omega,show (4*(n:Int)+1).toNat=4*n+1 by omega,show (4*(n:Int)+2).toNat=4*n+2 by omega,show (4*(n:Int)+3).toNat=4*n+3 by omega]
   rw [← e]
 ·have hl:ws.length=16:=by omega
  refine .inr ⟨(0,l),(0,ws),?_,?_,rfl,?_,hl,h7⟩
  ·simp only [N6,decide_eq_false hi,cond_false]
  ·simp only [A1q,decide_eq_false hi,cond_false]
  ·rw [h6,hl]
theorem B8K {x y:Nat} (hx:x<9223372036854775808) (hy:y<9223372036854775808):iand .i64 (x:Int) (y:Int)=((x &&& y:Nat):Int):=by
 unfold iand
 rw [BitVec.toNat_and,show IntKind.bits .i64=64 from rfl,bvn (k:=64) (by omega),bvn (k:=64) (by omega)]
 exact B6b (Nat.and_lt_two_pow (n:=63) x hy)
theorem A8F {n:Int} (h0:0≤n) (h1:n<9223372036854775808):iand .i64 n (4294967295:Int)=n % 4294967296:=by
 obtain ⟨a,rfl⟩:∃ a:Nat,n=(a:Int):=⟨n.toNat,by omega⟩
 have:=B8K (x:=a) (y:=4294967295) (by omega) (by omega)
 rw [show ((4294967295:Nat):Int)=(4294967295:Int) from rfl] at this
 rw [this,show a &&& 4294967295=a % 4294967296 from Nat.and_two_pow_sub_one_eq_mod a 32]
 omega
theorem B8D {x:Int} (hx:Wd x) (r s:Nat) (hs:s<32) :
  ior .u32 (IntKind.wrap .u32 (x*2 ^ s)) (Int.fdiv x (2 ^ r))=iand .i64 (ior .i64 (Int.fdiv x (2 ^ r)) (IntKind.wrap .i64 (x*2 ^ s))) (4294967295:Int)∧Wd (ior .u32 (IntKind.wrap .u32 (x*2 ^ s)) (Int.fdiv x (2 ^ r))):=by
 obtain ⟨a,rfl,ha⟩:=hx.nat
 have e1:(a:Int)*2 ^ s=((a*2 ^ s:Nat):Int):=by push_cast;rfl
 have e2:Int.fdiv (a:Int) (2 ^ r)=((a / 2 ^ r:Nat):Int):=by
  have:((2:Int) ^ r)=((2 ^ r:Nat):Int):=by push_cast;rfl
  rw [this];exact (Int.ofNat_fdiv a (2 ^ r)).symm
 have hp:2 ^ s≤2 ^ 31:=Nat.pow_le_pow_right (by decide) (by omega)
 have h1:a*2 ^ s<9223372036854775808:=by
  calc a*2 ^ s≤a*2 ^ 31:=Nat.mul_le_mul_left _ hp
   _<9223372036854775808:=by omega
 have h2:a / 2 ^ r<4294967296:=Nat.lt_of_le_of_lt (Nat.div_le_self _ _) ha
 have h3:(a*2 ^ s) % 4294967296<4294967296:=Nat.mod_lt _ (by decide)
 have e3:((a*2 ^ s:Nat):Int) % 4294967296=(((a*2 ^ s) % 4294967296:Nat):Int):=by omega
 rw [e1,e2,w32,e3,C0T h3 h2,B6b h1,C0U (by omega) h1]
 refine ⟨?_,B5S (Nat.or_lt_two_pow (n:=32) h3 h2)⟩
 have h4:(a / 2 ^ r ||| a*2 ^ s)<9223372036854775808:=Nat.or_lt_two_pow (n:=63) (by omega) h1
 rw [A8F (by omega) (by omega)]
 have h5:(a / 2 ^ r ||| a*2 ^ s) % 4294967296=(a*2 ^ s) % 4294967296 ||| a / 2 ^ r:=by
  rw [show (4294967296:Nat)=2 ^ 32 from rfl,Nat.or_mod_two_pow,Nat.mod_eq_of_lt (a:=a / 2 ^ r) (b:=2 ^ 32) h2,Nat.or_comm]
 rw [← h5];omega
theorem A3F {x:Int} (hx:Wd x) (r:Nat) (s:Nat) (hs:s<32) (k:Int) (h1:min (Int.toNat (iand .u64 (IntKind.wrap .u64 k) (31:Int))) (IntKind.bits .u32)=s) (h2:min (Int.toNat (IntKind.wrap .u64 ((32:Int) - (iand .u64 (IntKind.wrap .u64 k) (31:Int))))) (IntKind.bits .u32)=r)
  (h3:min (Int.toNat (IntKind.wrap .u64 (r:Int))) (IntKind.bits .i64)=r) (h4:min (Int.toNat (IntKind.wrap .u64 (IntKind.wrap .i64 ((32:Int) - (r:Int))))) (IntKind.bits .i64)=s) :
  A3 x k=B3 x (r:Int)∧Wd (A3 x k):=by
 simp only [A3,B3,h1,h2,h3,h4]
 exact B8D hx r s hs
theorem C1t {x:Int} (hx:Wd x):A3 x (-7)=B3 x 7∧Wd (A3 x (-7)):=A3F hx 7 25 (by decide) (-7) (by decide) (by decide) (by decide) (by decide)
theorem C00 {x:Int} (hx:Wd x):A3 x (-18)=B3 x 18∧Wd (A3 x (-18)):=A3F hx 18 14 (by decide) (-18) (by decide) (by decide) (by decide) (by decide)
theorem C0Z {x:Int} (hx:Wd x):A3 x (-17)=B3 x 17∧Wd (A3 x (-17)):=A3F hx 17 15 (by decide) (-17) (by decide) (by decide) (by decide) (by decide)
theorem C01 {x:Int} (hx:Wd x):A3 x (-19)=B3 x 19∧Wd (A3 x (-19)):=A3F hx 19 13 (by decide) (-19) (by decide) (by decide) (by decide) (by decide)
theorem C08 {x y:Nat} (hx:x<4294967296) (hy:y<4294967296):ixor .u32 (x:Int) (y:Int)=((x ^^^ y:Nat):Int):=by
 unfold ixor
 rw [BitVec.toNat_xor,show IntKind.bits .u32=32 from rfl,bvn (k:=32) hx,bvn (k:=32) hy]
 exact B7a (Nat.xor_lt_two_pow (n:=32) hx hy)
theorem C09 {x y:Nat} (hx:x<9223372036854775808) (hy:y<9223372036854775808):ixor .i64 (x:Int) (y:Int)=((x ^^^ y:Nat):Int):=by
 unfold ixor
 rw [BitVec.toNat_xor,show IntKind.bits .i64=64 from rfl,bvn (k:=64) (by omega),bvn (k:=64) (by omega)]
 exact B6b (Nat.xor_lt_two_pow (n:=63) hx hy)
theorem B0F {x y:Int} (hx:Wd x) (hy:Wd y):ixor .u32 x y=ixor .i64 x y∧Wd (ixor .u32 x y):=by
 obtain ⟨a,rfl,ha⟩:=hx.nat
 obtain ⟨b,rfl,hb⟩:=hy.nat
 rw [C08 ha hb,C09 (by omega) (by omega)]
 exact ⟨rfl,B5S (Nat.xor_lt_two_pow (n:=32) ha hb)⟩
theorem C04 {x:Int} (hx:Wd x) (k:Nat):Wd (Int.fdiv x (2 ^ k)):=by
 obtain ⟨a,rfl,ha⟩:=hx.nat
 have:((2:Int) ^ k)=((2 ^ k:Nat):Int):=by push_cast;rfl
 rw [this,← Int.ofNat_fdiv a (2 ^ k)]
 exact B5S (Nat.lt_of_le_of_lt (Nat.div_le_self _ _) ha)
theorem C1w {a b c d:Int} (ha:Wd a) (hb:Wd b) (hc:Wd c) (hd:Wd d):IntKind.wrap .u32 (IntKind.wrap .u32 (IntKind.wrap .u32 (a+b)+c)+d)=iand .i64 (IntKind.wrap .i64 (IntKind.wrap .i64 (IntKind.wrap .i64 (a+b)+c)+d)) (4294967295:Int):=by
 obtain ⟨a0,a1⟩:=ha
 obtain ⟨b0,b1⟩:=hb
 obtain ⟨c0,c1⟩:=hc
 obtain ⟨d0,d1⟩:=hd
 rw [wrap64 (n:=a+b) (by omega) (by omega),wrap64 (n:=a+b+c) (by omega) (by omega),wrap64 (n:=a+b+c+d) (by omega) (by omega),A8F (by omega) (by omega),w32,w32,w32]
 omega
theorem B8H (n:Int):Wd (IntKind.wrap .u32 n):=by rw [w32];exact ⟨Int.emod_nonneg _ (by decide),Int.emod_lt_of_pos _ (by decide)⟩
theorem A6M {l m:List Int} {i:Nat} (h:i<l.length):(l++m).getD i 0=l.getD i 0:=by
 rw [List.getD_eq_getElem?_getD,List.getElem?_append_left h,List.getD_eq_getElem?_getD]
theorem qturn (x k:Int):B0 x k=true:=by
 simp only [B0,Bool.and_eq_true,decide_eq_true_eq]
 exact ⟨A2l _,A2l _⟩
theorem B5i (ws:List Int) (hl:ws.length=16) (hw:AllW ws):(J8 16 ws).1=0∧(M9 16 (ws++List.replicate 48 0)).2=(J8 16 ws).2∧(J8 16 ws).2.length=64∧AllW (J8 16 ws).2:=by
 refine itX_sim (v:=((16:Int),ws++List.replicate 48 (0:Int))) (w:=((16:Int),ws))
  (fun (v:Q3) (w:A0x)=>v.1=w.1∧(16≤v.1∧v.1≤64)∧v.1=(w.2.length:Int)∧v.2=w.2++List.replicate (64 - w.2.length) 0∧AllW w.2)
  (fun (a:P8) (b:V2)=>b.1=0∧a.2=b.2∧b.2.length=64∧AllW b.2) (fun v=>(64 - v.1).toNat) ?_ ⟨rfl,⟨by simp only;omega,by simp only;omega⟩,by simp only;omega,by simp only [hl],hw⟩ (by simp only;decide)
 rintro ⟨i,l⟩ ⟨j,ws⟩ ⟨h3,h4,h5,h6,h7⟩
 simp only at h3 h4 h5 h6 h7
 subst h3
 by_cases hi:i<64
 ·obtain ⟨n,rfl⟩:∃ n:Nat,i=(n:Int):=⟨ws.length,h5⟩
  have hn:n=ws.length:=by omega
  have x1:=h7.at (n - 15)
  have x2:=h7.at (n - 2)
  have x3:=h7.at (n - 16)
  have x4:=h7.at (n - 7)
  obtain ⟨r1,r1w⟩:=C1t x1
  obtain ⟨r2,r2w⟩:=C00 x1
  obtain ⟨r3,r3w⟩:=C0Z x2
  obtain ⟨r4,r4w⟩:=C01 x2
  obtain ⟨s1,s1w⟩:=B0F r1w r2w
  obtain ⟨s2,s2w⟩:=B0F s1w (C04 x1 3)
  obtain ⟨t1,t1w⟩:=B0F r3w r4w
  obtain ⟨t2,t2w⟩:=B0F t1w (C04 x2 10)
  have e:=C1w x3 s2w x4 t2w
  have ew:=B8H (IntKind.wrap .u32 (IntKind.wrap .u32 (ws.getD (n - 16) 0+ixor .u32 (ixor .u32 (A3 (ws.getD (n - 15) 0) (-7)) (A3 (ws.getD (n - 15) 0) (-18))) (Int.fdiv (ws.getD (n - 15) 0) (2 ^ 3)))+ws.getD (n - 7) 0)+ixor .u32 (ixor .u32 (A3 (ws.getD (n - 2) 0) (-17)) (A3 (ws.getD (n - 2) 0) (-19))) (Int.fdiv (ws.getD (n - 2) 0) (2 ^ 10)))
  refine .inl ⟨((n:Int)+1,(ws++[_])++List.replicate (64 - ws.length - 1) 0),((n:Int)+1,ws++[_]),?_,?_,⟨rfl,by simp only;omega,by simp only [List.length_append,List.length_singleton];omega,by simp only [List.length_append,List.length_singleton];rw [Nat.sub_sub],h7.snoc ew⟩,by simp only;omega⟩
  ·simp only [N7,O8 ((n:Int) - 15) (by omega) (by omega),O8 ((n:Int) - 2) (by omega) (by omega),O8 ((n:Int) - 16) (by omega) (by omega),O8 ((n:Int) - 7) (by omega) (by omega),O8 ((n:Int)+1) (by omega) (by omega),decide_eq_true hi,cond_true,A3d,A3e,A3f,A3g]
   have hll:l.length=64:=by rw [h6];simp only [List.length_append,List.length_replicate];omega
   rw [decide_eq_true (by omega),decide_eq_true (by omega),decide_eq_true (by omega),decide_eq_true (by omega),decide_eq_true (by omega)]
   simp only [cond_true]
   rw [h6,show ((n:Int)).toNat=ws.length by omega,B48 _ (by omega)]
   rw [show ((n:Int) - 15).toNat=n - 15 by omega,show ((n:Int) - 2).toNat=n - 2 by omega,show ((n:Int) - 16).toNat=n - 16 by omega,show ((n:Int) - 7).toNat=n - 7 by omega]
   rw [A6M (i:=n - 15) (by omega),A6M (i:=n - 2) (by omega),A6M (i:=n - 16) (by omega),A6M (i:=n - 7) (by omega)]
  ·simp only [A1r,O8 ((n:Int) - 15) (by omega) (by omega),O8 ((n:Int) - 2) (by omega) (by omega),O8 ((n:Int) - 16) (by omega) (by omega),O8 ((n:Int) - 7) (by omega) (by omega),O8 ((n:Int)+1) (by omega) (by omega),decide_eq_true hi,cond_true,qturn,List.length_singleton]
   rw [decide_eq_true (by omega),decide_eq_true (by omega),decide_eq_true (by omega),decide_eq_true (by omega),decide_eq_true (by simp only [MAXB];omega)]
   simp only [cond_true]
   rw [show ((n:Int) - 15).toNat=n - 15 by omega,show ((n:Int) - 2).toNat=n - 2 by omega,show ((n:Int) - 16).toNat=n - 16 by omega,show ((n:Int) - 7).toNat=n - 7 by omega]
   rw [e,s2,s1,t2,t1,r1,r2,r3,r4]
 ·have hl:ws.length=64:=by omega
  refine .inr ⟨(0,l),(0,ws),?_,?_,rfl,?_,hl,h7⟩
  ·simp only [N7,decide_eq_false hi,cond_false]
  ·simp only [A1r,decide_eq_false hi,cond_false]
  ·simp only [h6,hl,Nat.sub_self,List.replicate_zero,List.append_nil]
theorem B2v (c:List Int) (hc:c.length=64) (hb:AllB c):A2P c=F1 c∧Z2 c=true∧(F1 c).length=64∧AllW (F1 c):=by
 obtain ⟨a1,a2,a3,a4⟩:=B5h c hc hb
 obtain ⟨b1,b2,b3,b4⟩:=B5i _ a3 a4
 refine ⟨?_,?_,b3,b4⟩
 ·simp only [A2P,a2,b2];rfl
 ·simp only [Z2,a1,b1];rfl
theorem eight {v:List Int} (h:v.length=8):∃ a b c d e f g i,v=[a,b,c,d,e,f,g,i]:=by
 match v,h with
 | [a,b,c,d,e,f,g,i],_=>exact ⟨a,b,c,d,e,f,g,i,rfl⟩
theorem C1s {x:Int} (hx:Wd x):A3 x (-6)=B3 x 6∧Wd (A3 x (-6)):=A3F hx 6 26 (by decide) (-6) (by decide) (by decide) (by decide) (by decide)
theorem C0X {x:Int} (hx:Wd x):A3 x (-11)=B3 x 11∧Wd (A3 x (-11)):=A3F hx 11 21 (by decide) (-11) (by decide) (by decide) (by decide) (by decide)
theorem C03 {x:Int} (hx:Wd x):A3 x (-25)=B3 x 25∧Wd (A3 x (-25)):=A3F hx 25 7 (by decide) (-25) (by decide) (by decide) (by decide) (by decide)
theorem C0f {x y:Nat} (hx:x<4294967296) (hy:y<4294967296):iand .u32 (x:Int) (y:Int)=((x &&& y:Nat):Int):=by
 unfold iand
 rw [BitVec.toNat_and,show IntKind.bits .u32=32 from rfl,bvn (k:=32) hx,bvn (k:=32) hy]
 exact B7a (Nat.and_lt_two_pow (n:=32) x hy)
theorem B7i {x y:Int} (hx:Wd x) (hy:Wd y):iand .u32 x y=iand .i64 x y∧Wd (iand .u32 x y):=by
 obtain ⟨a,rfl,ha⟩:=hx.nat
 obtain ⟨b,rfl,hb⟩:=hy.nat
 rw [C0f ha hb,B8K (by omega) (by omega)]
 exact ⟨rfl,B5S (Nat.and_lt_two_pow (n:=32) a hb)⟩
theorem C1r {x:Int} (hx:Wd x):A3 x (-2)=B3 x 2∧Wd (A3 x (-2)):=A3F hx 2 30 (by decide) (-2) (by decide) (by decide) (by decide) (by decide)
theorem C0Y {x:Int} (hx:Wd x):A3 x (-13)=B3 x 13∧Wd (A3 x (-13)):=A3F hx 13 19 (by decide) (-13) (by decide) (by decide) (by decide) (by decide)
theorem C02 {x:Int} (hx:Wd x):A3 x (-22)=B3 x 22∧Wd (A3 x (-22)):=A3F hx 22 10 (by decide) (-22) (by decide) (by decide) (by decide) (by decide)
noncomputable def T32 (a b c d e:Int):Int:=IntKind.wrap .u32 (IntKind.wrap .u32 (IntKind.wrap .u32 (IntKind.wrap .u32 (a+b)+c)+d)+e)
noncomputable def T64 (a b c d e:Int):Int:=IntKind.wrap .i64 (IntKind.wrap .i64 (IntKind.wrap .i64 (IntKind.wrap .i64 (a+b)+c)+d)+e)
theorem C0d {a b c d e:Int} (ha:Wd a) (hb:Wd b) (hc:Wd c) (hd:Wd d) (he:Wd e):T64 a b c d e=a+b+c+d+e∧T32 a b c d e=(a+b+c+d+e) % 4294967296:=by
 obtain ⟨a0,a1⟩:=ha
 obtain ⟨b0,b1⟩:=hb
 obtain ⟨c0,c1⟩:=hc
 obtain ⟨d0,d1⟩:=hd
 obtain ⟨e0,e1⟩:=he
 simp only [T64,T32]
 rw [wrap64 (n:=a+b) (by omega) (by omega),wrap64 (n:=a+b+c) (by omega) (by omega),wrap64 (n:=a+b+c+d) (by omega) (by omega),wrap64 (n:=a+b+c+d+e) (by omega) (by omega),w32,w32,w32,w32]
 exact ⟨rfl,by omega⟩
theorem C1x {a b c d e s m:Int} (ha:Wd a) (hb:Wd b) (hc:Wd c) (hd:Wd d) (he:Wd e) (hs:Wd s) (hm:Wd m):IntKind.wrap .u32 (IntKind.wrap .u32 (T32 a b c d e+s)+m)=iand .i64 (IntKind.wrap .i64 (T64 a b c d e+IntKind.wrap .i64 (s+m))) (4294967295:Int):=by
 obtain ⟨t1,t2⟩:=C0d ha hb hc hd he
 rw [t1,t2]
 obtain ⟨a0,a1⟩:=ha
 obtain ⟨b0,b1⟩:=hb
 obtain ⟨c0,c1⟩:=hc
 obtain ⟨d0,d1⟩:=hd
 obtain ⟨e0,e1⟩:=he
 obtain ⟨s0,s1⟩:=hs
 obtain ⟨m0,m1⟩:=hm
 rw [wrap64 (n:=s+m) (by omega) (by omega),wrap64 (by omega) (by omega),A8F (by omega) (by omega),w32,w32]
 omega
theorem C1y {a b c d e v:Int} (ha:Wd a) (hb:Wd b) (hc:Wd c) (hd:Wd d) (he:Wd e) (hv:Wd v):IntKind.wrap .u32 (v+T32 a b c d e)=iand .i64 (IntKind.wrap .i64 (v+T64 a b c d e)) (4294967295:Int):=by
 obtain ⟨t1,t2⟩:=C0d ha hb hc hd he
 rw [t1,t2]
 obtain ⟨a0,a1⟩:=ha
 obtain ⟨b0,b1⟩:=hb
 obtain ⟨c0,c1⟩:=hc
 obtain ⟨d0,d1⟩:=hd
 obtain ⟨e0,e1⟩:=he
 obtain ⟨v0,v1⟩:=hv
 rw [wrap64 (by omega) (by omega),A8F (by omega) (by omega),w32]
 omega
theorem B5R (h k ws v:List Int) (hk:k.length=64) (hkW:AllW k) (hw:ws.length=64) (hwW:AllW ws) (hv:v.length=8) (hvW:AllW v):(C5 h k ws 0 v).1=0∧(C5 h k ws 0 v).2.1=h∧(B6 0 h k ws v).2.2.2=(C5 h k ws 0 v).2.2∧(C5 h k ws 0 v).2.2.length=8∧AllW (C5 h k ws 0 v).2.2:=by
 refine itX_sim (v:=((0:Int),h,k,ws,v)) (w:=(h,k,ws,(0:Int),v))
  (fun (x:K3) (y:A0u)=>x.1=y.2.2.2.1∧(0≤x.1∧x.1≤64)∧x.2.1=h∧x.2.2.1=k∧x.2.2.2.1=ws∧y.1=h∧y.2.1=k∧y.2.2.1=ws∧x.2.2.2.2=y.2.2.2.2∧x.2.2.2.2.length=8∧AllW x.2.2.2.2)
  (fun (a:K1) (b:U9)=>b.1=0∧b.2.1=h∧a.2.2.2=b.2.2∧b.2.2.length=8∧AllW b.2.2) (fun x=>(64 - x.1).toNat) ?_ ⟨rfl,⟨by simp only;omega,by simp only;omega⟩,rfl,rfl,rfl,rfl,rfl,rfl,rfl,hv,hvW⟩ (by simp only;decide)
 rintro ⟨i,h1,k1,w1,v1⟩ ⟨h2,k2,w2,j,v2⟩ ⟨e1,e2,e3,e4,e5,e6,e7,e8,e9,e10,e11⟩
 simp only at e1 e2 e3 e4 e5 e6 e7 e8 e9 e10 e11
 subst e1;subst e3;subst e4;subst e5;subst e6;subst e7;subst e8;subst e9
 by_cases hi:i<64
 ·obtain ⟨v0,va,vb,vc,v4,v5,v6,v7,rfl⟩:=eight e10
  have W0:Wd v0:=e11 _ (by simp)
  have Wa:Wd va:=e11 _ (by simp)
  have Wb:Wd vb:=e11 _ (by simp)
  have Wc:Wd vc:=e11 _ (by simp)
  have W4:Wd v4:=e11 _ (by simp)
  have W5:Wd v5:=e11 _ (by simp)
  have W6:Wd v6:=e11 _ (by simp)
  have W7:Wd v7:=e11 _ (by simp)
  have Wk:=hkW.at i.toNat
  have Ww:=hwW.at i.toNat
  obtain ⟨r1,r1w⟩:=C1s W4
  obtain ⟨r2,r2w⟩:=C0X W4
  obtain ⟨r3,r3w⟩:=C03 W4
  obtain ⟨s1,s1w⟩:=B0F r1w r2w
  obtain ⟨s2,s2w⟩:=B0F s1w r3w
  obtain ⟨c1,c1w⟩:=B7i W4 W5
  obtain ⟨c2,c2w⟩:=B0F (show Wd 4294967295 from ⟨by decide,by decide⟩) W4
  obtain ⟨c3,c3w⟩:=B7i c2w W6
  obtain ⟨c4,c4w⟩:=B0F c1w c3w
  obtain ⟨q1,q1w⟩:=C1r W0
  obtain ⟨q2,q2w⟩:=C0Y W0
  obtain ⟨q3,q3w⟩:=C02 W0
  obtain ⟨p1,p1w⟩:=B0F q1w q2w
  obtain ⟨p2,p2w⟩:=B0F p1w q3w
  obtain ⟨m1,m1w⟩:=B7i W0 Wa
  obtain ⟨m2,m2w⟩:=B7i W0 Wb
  obtain ⟨m3,m3w⟩:=B7i Wa Wb
  obtain ⟨m4,m4w⟩:=B0F m1w m2w
  obtain ⟨m5,m5w⟩:=B0F m4w m3w
  have eA:=C1x W7 s2w c4w Wk Ww p2w m5w
  have eE:=C1y W7 s2w c4w Wk Ww Wc
  have wA:=B8H (IntKind.wrap .u32 (T32 v7 (ixor .u32 (ixor .u32 (A3 v4 (-6)) (A3 v4 (-11))) (A3 v4 (-25))) (ixor .u32 (iand .u32 v4 v5) (iand .u32 (ixor .u32 4294967295 v4) v6)) (k2.getD i.toNat 0) (w2.getD i.toNat 0)+ixor .u32 (ixor .u32 (A3 v0 (-2)) (A3 v0 (-13))) (A3 v0 (-22)))+ixor .u32 (ixor .u32 (iand .u32 v0 va) (iand .u32 v0 vb)) (iand .u32 va vb))
  have wE:=B8H (vc+T32 v7 (ixor .u32 (ixor .u32 (A3 v4 (-6)) (A3 v4 (-11))) (A3 v4 (-25))) (ixor .u32 (iand .u32 v4 v5) (iand .u32 (ixor .u32 4294967295 v4) v6)) (k2.getD i.toNat 0) (w2.getD i.toNat 0))
  obtain ⟨nA,hnA,wA⟩:∃ n,n=_∧Wd n:=⟨_,rfl,wA⟩
  obtain ⟨nE,hnE,wE⟩:∃ n,n=_∧Wd n:=⟨_,rfl,wE⟩
  refine .inl ⟨(i+1,h2,k2,w2,[nA,v0,va,vb,nE,v4,v5,v6]),(h2,k2,w2,i+1,[nA,v0,va,vb,nE,v4,v5,v6]),?_,?_,⟨rfl,by simp only;omega,rfl,rfl,rfl,rfl,rfl,rfl,rfl,rfl,?_⟩,by simp only;omega⟩
  rotate_left 2
  ·intro x hx
   simp only [List.mem_cons,List.not_mem_nil,or_false] at hx
   rcases hx with rfl | rfl | rfl | rfl | rfl | rfl | rfl | rfl
   ·exact wA
   ·exact W0
   ·exact Wa
   ·exact Wb
   ·exact wE
   ·exact W4
   ·exact W5
   ·exact W6
  ·simp only [H9,O8 (i+1) (by omega) (by omega),decide_eq_true hi,cond_true,hk,hw]
   rw [show decide (0≤i∧i<((64:Nat):Int)∧i<((64:Nat):Int))=true from decide_eq_true (by omega)]
   rw [hnA,hnE]
   rfl
  ·simp only [A1o,O8 (i+1) (by omega) (by omega),decide_eq_true hi,cond_true,qturn,hk,hw]
   rw [show decide (0≤i∧i<((64:Nat):Int))=true from decide_eq_true (by omega)]
   rw [hnA,hnE,eA,eE,s2,s1,r1,r2,r3,c4,c3,c2,c1,p2,p1,q1,q2,q3,m5,m4,m3,m2,m1]
   rfl
 ·refine .inr ⟨(0,h2,k2,v1),(0,h2,v1),?_,?_,rfl,rfl,rfl,e10,e11⟩
  ·simp only [H9,decide_eq_false hi,cond_false]
  ·simp only [A1o,decide_eq_false hi,cond_false]
theorem B8E:AllW irounds:=by
 intro x hx
 have:irounds.all (fun x=>decide (0≤x∧x<4294967296))=true:=by decide
 exact of_decide_eq_true (p:=0≤x∧x<4294967296) (List.all_eq_true.1 this x hx)
theorem B2O {l:List Int} {i j:Nat} {x:Int} (hi:i<l.length):(l.set i x).getD j 0=if j=i then x else l.getD j 0:=by
 rw [List.getD_eq_getElem?_getD,List.getElem?_set,List.getD_eq_getElem?_getD]
 by_cases h:i=j
 ·subst h;simp [hi]
 ·rw [if_neg h,if_neg (fun e=>h e.symm)]
theorem B8w (h k v:List Int) (hh:h.length=8) (hv:v.length=8):(D5 0 h k v).2.1.length=8∧∀ j,j<8→(D5 0 h k v).2.1.getD j 0=IntKind.wrap .u32 (h.getD j 0+v.getD j 0):=by
 refine itX_inv (v:=((0:Int),h,k,v)) (fun x:K4=>(0≤x.1∧x.1≤8)∧x.2.1.length=8∧x.2.2.2=v∧∀ j:Nat,j<8→x.2.1.getD j 0=if (j:Int)<x.1 then IntKind.wrap .u32 (h.getD j 0+v.getD j 0) else h.getD j 0)
  (fun a:K2=>a.2.1.length=8∧∀ j,j<8→a.2.1.getD j 0=IntKind.wrap .u32 (h.getD j 0+v.getD j 0)) (fun x=>(8 - x.1).toNat) ?_ ⟨⟨by simp only;omega,by simp only;omega⟩,hh,rfl,fun j hj=>by rw [if_neg (by simp only;omega)]⟩ (by simp only;decide)
 rintro ⟨i,h', k', v'⟩ ⟨h2,h3,h4,h6⟩
 simp only at h2 h3 h4 h6
 subst h4
 by_cases hi:i<8
 ·refine .inl ⟨(i+1,h'.set i.toNat (IntKind.wrap .u32 (h'.getD i.toNat 0+v'.getD i.toNat 0)),k', v'),?_,⟨by simp only;omega,by simp only [List.length_set];exact h3,rfl,fun j hj=>?_⟩,by simp only;omega⟩
  ·simp only [I4,O8 (i+1) (by omega) (by omega),decide_eq_true hi,cond_true,hv,h3]
   rw [show decide (0≤i∧i<((8:Nat):Int)∧i<((8:Nat):Int))=true from decide_eq_true (by omega)]
   rfl
  ·simp only
   rw [B2O (by omega)]
   by_cases e:j=i.toNat
   ·rw [if_pos e,if_pos (by omega),← e,h6 j hj,if_neg (by omega)]
   ·rw [if_neg e,h6 j hj]
    by_cases e2:(j:Int)<i
    ·rw [if_pos e2,if_pos (by omega)]
    ·rw [if_neg e2,if_neg (by omega)]
 ·refine .inr ⟨(0,h', k'),?_,h3,fun j hj=>?_⟩
  ·simp only [I4,decide_eq_false hi,cond_false]
  ·simp only;rw [h6 j hj,if_pos (by omega)]
theorem B8x (h v:List Int) (hh:h.length=8) (hv:v.length=8):(N2 h 0 v).1=0∧(N2 h 0 v).2.length=8∧∀ j,j<8→(N2 h 0 v).2.getD j 0=iand .i64 (IntKind.wrap .i64 (v.getD j 0+h.getD j 0)) (4294967295:Int):=by
 refine itX_inv (v:=(h,(0:Int),v)) (fun x:A0v=>(0≤x.2.1∧x.2.1≤8)∧x.2.2.length=8∧x.1=h∧∀ j:Nat,j<8→x.2.2.getD j 0=if (j:Int)<x.2.1 then iand .i64 (IntKind.wrap .i64 (v.getD j 0+h.getD j 0)) (4294967295:Int) else v.getD j 0)
  (fun a:V0=>a.1=0∧a.2.length=8∧∀ j,j<8→a.2.getD j 0=iand .i64 (IntKind.wrap .i64 (v.getD j 0+h.getD j 0)) (4294967295:Int)) (fun x=>(8 - x.2.1).toNat) ?_ ⟨⟨by simp only;omega,by simp only;omega⟩,hv,rfl,fun j hj=>by rw [if_neg (by simp only;omega)]⟩ (by simp only;decide)
 rintro ⟨h', i,v'⟩ ⟨h2,h3,h4,h6⟩
 simp only at h2 h3 h4 h6
 subst h4
 by_cases hi:i<8
 ·refine .inl ⟨(h', i+1,v'.set i.toNat (iand .i64 (IntKind.wrap .i64 (v'.getD i.toNat 0+h'.getD i.toNat 0)) (4294967295:Int))),?_,⟨by simp only;omega,by simp only [List.length_set];exact h3,rfl,fun j hj=>?_⟩,by simp only;omega⟩
  ·simp only [A1p,O8 (i+1) (by omega) (by omega),decide_eq_true hi,cond_true,hh,h3]
   rw [show decide (0≤i∧i<((8:Nat):Int))=true from decide_eq_true (by omega)]
   rfl
  ·simp only
   rw [B2O (by omega)]
   by_cases e:j=i.toNat
   ·rw [if_pos e,if_pos (by omega),← e,h6 j hj,if_neg (by omega)]
   ·rw [if_neg e,h6 j hj]
    by_cases e2:(j:Int)<i
    ·rw [if_pos e2,if_pos (by omega)]
    ·rw [if_neg e2,if_neg (by omega)]
 ·refine .inr ⟨(0,v'),?_,rfl,h3,fun j hj=>?_⟩
  ·simp only [A1p,decide_eq_false hi,cond_false]
  ·simp only;rw [h6 j hj,if_pos (by omega)]
theorem B6T {a b:List Int} (ha:a.length=8) (hb:b.length=8) (h:∀ j,j<8→a.getD j 0=b.getD j 0):a=b:=by
 apply List.ext_getElem (by omega)
 intro i h1 h2
 have:=h i (by omega)
 rwa [List.getD_eq_getElem?_getD,List.getElem?_eq_getElem h1,List.getD_eq_getElem?_getD,List.getElem?_eq_getElem h2] at this
theorem C1v {a b:Int} (ha:Wd a) (hb:Wd b):IntKind.wrap .u32 (a+b)=iand .i64 (IntKind.wrap .i64 (b+a)) (4294967295:Int):=by
 obtain ⟨a0,a1⟩:=ha
 obtain ⟨b0,b1⟩:=hb
 rw [wrap64 (by omega) (by omega),A8F (by omega) (by omega),w32]
 omega
theorem B2R (c h:List Int) (hc:c.length=64) (hb:AllB c) (hh:h.length=8) (hW:AllW h):U6 h c A5o=true∧(D3 c h irounds).1=A0O h c A5o∧AllW (A0O h c A5o):=by
 obtain ⟨w1,w2,w3,w4⟩:=B2v c hc hb
 have ev:[h.getD 0 0,h.getD 1 0,h.getD 2 0,h.getD 3 0,h.getD 4 0,h.getD 5 0,h.getD 6 0,h.getD 7 0]=h:=by
  obtain ⟨a,b,c,d,e,f,g,i,rfl⟩:=eight hh
  rfl
 obtain ⟨l1,l2,l3,l4,l5⟩:=B5R h irounds (F1 c) h rfl B8E w3 w4 hh hW
 obtain ⟨t1,t2,t3,t4⟩:=B5g h irounds (F1 c) h rfl w3 hh
 have ek:C0 c h irounds=B6 0 h irounds (F1 c) h:=by simp only [C0,w1,ev]
 obtain ⟨i1,i2⟩:=B8w h (B6 0 h irounds (F1 c) h).2.2.1 (B6 0 h irounds (F1 c) h).2.2.2 hh t4
 have hW2:AllW (B6 0 h irounds (F1 c) h).2.2.2:=by rw [l3];exact l5
 have eks:A0f h c A5o=N2 h 0 (C5 h irounds (F1 c) 0 h).2.2:=by
  show N2 ((C5 h irounds (F1 c) (0:Int) (([]:List Int)++h)).2.1) 0 ((C5 h irounds (F1 c) (0:Int) (([]:List Int)++h)).2.2)=_
  rw [List.nil_append,l2]
 obtain ⟨s0,s1,s2⟩:=B8x h (C5 h irounds (F1 c) 0 h).2.2 hh l4
 have e1:(D3 c h irounds).1=A0O h c A5o:=by
  show (D5 0 (C0 c h irounds).2.1 (C0 c h irounds).2.2.1 (C0 c h irounds).2.2.2).2.1=(A0f h c A5o).2
  rw [ek,eks,t2]
  refine B6T i1 s1 (fun j hj=>?_)
  rw [i2 j hj,s2 j hj,← l3]
  exact C1v (hW.at j) (hW2.at j)
 refine ⟨?_,e1,?_⟩
 ·have q1:(C5 h A5o (F1 c) 0 (([]:List Int)++h)).1=0:=l1
  have q2:(A0f h c A5o).1=0:=by rw [eks];exact s0
  simp only [U6,w2,q1,q2,Bool.true_and,beq_self_eq_true,Bool.and_true]
  exact decide_eq_true (by rw [hh];decide)
 ·rw [← e1]
  show AllW (D5 0 (C0 c h irounds).2.1 (C0 c h irounds).2.2.1 (C0 c h irounds).2.2.2).2.1
  rw [ek,t2]
  intro x hx
  obtain ⟨j,hj,rfl⟩:=List.mem_iff_getElem.1 hx
  have:=i2 j (by rw [← i1];exact hj)
  rw [List.getD_eq_getElem?_getD,List.getElem?_eq_getElem hj] at this
  have h9:(D5 0 h (B6 0 h irounds (F1 c) h).2.2.1 (B6 0 h irounds (F1 c) h).2.2.2).2.1[j]=IntKind.wrap .u32 _:=this
  rw [h9];exact B8H _
theorem B0Z (p:List Int) (n:Nat):A2L p (n+1)=A0O (A2L p n) ((p.drop (64*n)).take 64) A5o:=by simp [A2L,List.range_succ]
theorem AllB.cut {l:List Int} (h:AllB l) (i n:Nat):AllB ((l.drop i).take n):=fun x hx=>h x (List.mem_of_mem_drop (List.mem_of_mem_take hx))
theorem B4l (p:List Int) (hb:AllB p) (m:Nat) (hm:64*m=p.length):∀ n,n≤m→(A2L p n).length=8∧AllW (A2L p n)∧(List.range n).foldl (fun h i=>(D3 ((p.drop (64*i)).take 64) h irounds).1) hinit=A2L p n:=by
 intro n
 induction n with
 | zero=>intro _;exact ⟨rfl,B87,rfl⟩
 | succ n ih =>
  intro hn
  obtain ⟨h1,h2,h3⟩:=ih (by omega)
  have hc:((p.drop (64*n)).take 64).length=64:=by simp only [List.length_take,List.length_drop];omega
  obtain ⟨q,e,w⟩:=B2R _ (A2L p n) hc (hb.cut _ _) h1 h2
  rw [B0Z]
  refine ⟨?_,w,?_⟩
  ·rw [← e];exact (B0M _ _ hc h1).2.1
  ·rw [List.range_succ,List.foldl_append,h3];exact e
theorem B6N (p:List Int) (hb:AllB p) (m:Nat) (hm:64*m=p.length) (hl:p.length≤1000000000100):(A0G p hinit A5o 0).1=0∧(A0G p hinit A5o 0).2=A2L p m:=by
 refine itX_inv (v:=(p,hinit,A5o,(0:Int))) (fun x:A1z=>x.1=p∧x.2.2.1=A5o∧∃ n:Nat,n≤m∧x.2.2.2=((64*n:Nat):Int)∧x.2.1=A2L p n) (fun a:Z4=>a.1=0∧a.2=A2L p m) (fun x=>(p.length - x.2.2.2).toNat) ?_ ⟨rfl,rfl,0,Nat.zero_le _,rfl,rfl⟩ (by simp only;omega)
 rintro ⟨p', h,k,i⟩ ⟨h1,h2,n,hn,h3,h4⟩
 simp only at h1 h2 h3 h4
 subst h1;subst h2;subst h3;subst h4
 by_cases hi:n<m
 ·have hc:((p'.drop (64*n)).take 64).length=64:=by simp only [List.length_take,List.length_drop];omega
  obtain ⟨f1,f2,_⟩:=B4l p' hb m hm n hn
  obtain ⟨q,e,w⟩:=B2R _ (A2L p' n) hc (hb.cut _ _) f1 f2
  have ew:IntKind.wrap .i64 (((64*n:Nat):Int)+64)=((64*(n+1):Nat):Int):=by rw [wrap64 (by omega) (by omega)];omega
  have ec:(p'.take (64*(n+1))).drop (64*n)=(p'.drop (64*n)).take 64:=by
   rw [List.drop_take];congr 1;omega
  refine .inl ⟨(p', A2L p' (n+1),A5o,((64*(n+1):Nat):Int)),?_,⟨rfl,rfl,n+1,hi,rfl,rfl⟩,by simp only;omega⟩
  simp only [A2d,ew,Int.toNat_natCast,ec,q,cond_true]
  rw [decide_eq_true (by omega),decide_eq_true (by omega),B0Z];rfl
 ·obtain rfl:n=m:=by omega
  refine .inr ⟨(0,A2L p' n),?_,rfl,rfl⟩
  simp only [A2d]
  rw [decide_eq_false (by omega)];rfl
theorem A8p (h:List Int):(E1 h).length=4*h.length:=by
 induction h with
 | nil=>rfl
 | cons x h ih=>simp only [E1,List.flatMap_cons,List.length_append,List.length_cons,List.length_nil] at ih ⊢;omega
theorem B1Q (h:List Int) (n:Nat) (hn:n<h.length):E1 (h.take (n+1))=E1 (h.take n)++E1 [h.getD n 0]:=by
 rw [List.take_succ_eq_append_getElem hn,E1,List.flatMap_append,List.getD_eq_getElem?_getD,List.getElem?_eq_getElem hn]
 rfl
theorem B6O (h:List Int) (h8:h.length=8):(Q6 h 0 []).1=0∧(Q6 h 0 []).2=E1 h:=by
 refine itX_inv (v:=(h,(0:Int),([]:List Int))) (fun x:A1A=>x.1=h∧∃ n:Nat,n≤8∧x.2.1=(n:Int)∧x.2.2=E1 (h.take n)) (fun a:Z5=>a.1=0∧a.2=E1 h) (fun x=>(8 - x.2.1).toNat) ?_ ⟨rfl,0,Nat.zero_le _,rfl,by simp [E1]⟩ (by simp only;decide)
 rintro ⟨h', i,l⟩ ⟨h1,n,hn,h3,h4⟩
 simp only at h1 h3 h4
 subst h1;subst h3;subst h4
 by_cases hi:n<8
 ·refine .inl ⟨(h', ((n+1:Nat):Int),E1 (h'.take (n+1))),?_,⟨rfl,n+1,hi,rfl,rfl⟩,by simp only;omega⟩
  simp only [A2e,O8 ((n:Int)+1) (by omega) (by omega),h8,Int.toNat_natCast]
  rw [decide_eq_true (by omega),decide_eq_true (by omega),decide_eq_true (by simp only [A8p,List.length_take,List.length_cons,List.length_nil,MAXB];omega),B1Q _ _ (by omega)]
  rfl
 ·obtain rfl:n=8:=by omega
  refine .inr ⟨(0,E1 (h'.take 8)),?_,rfl,?_⟩
  ·simp only [A2e]
   rw [decide_eq_false (by omega)];rfl
  ·show E1 (h'.take 8)=E1 h'
   rw [List.take_of_length_le (by omega)]
theorem B4d (a:List Int) (ha:a.length≤1000000000000) (hb:AllB a):H5 a=true∧A0k a=true∧C6 a=A0M a∧(A0M a).size=32:=by
 obtain ⟨p1,p2,p3,p4,p5,p6,p7⟩:=B4M a ha hb
 have hm:64*((F5 a).length / 64)=(F5 a).length:=by omega
 obtain ⟨f1,f2,f3⟩:=B4l (F5 a) p7 _ hm _ (Nat.le_refl _)
 obtain ⟨d1,d2⟩:=B6N (F5 a) p7 _ hm (by omega)
 have ek:Y6 a=A0G (F5 a) hinit A5o 0:=rfl
 obtain ⟨e1,e2⟩:=B6O _ f1
 have hI:B6P (F5 a)=A2L (F5 a) ((F5 a).length / 64):=f3
 refine ⟨?_,?_,?_,?_⟩
 ·simp only [H5,p1,p3,Bool.true_and,Bool.and_eq_true,decide_eq_true_eq]
  omega
 ·simp only [A0k,p2,ek,d1,d2,e1];rfl
 ·simp only [C6,p3,hI,A0M,ek,d2,e2];rfl
 ·have : (A0M a).size = (E1 (A2L (F5 a) ((F5 a).length / 64))).length := by
   simp only [A0M,ek,d2,e2]
   show (((E1 _).map _).toArray).size=_
   simp
  rw [this,A8p,f1]
theorem B73 {b:List Int} (h:okB b):AllB b:=fun x hx=>by have:=h x hx;omega
theorem B7C {b:List Int} (h:okB b) (hl:b.length≤1000000000000):A0k b=true∧A0M b=C6 b:=by
 obtain ⟨d1,d2,d3,d4⟩:=B4d b hl (B73 h)
 exact ⟨d2,d3.symm⟩
noncomputable def A6S (l:List Int):ByteArray:=⟨(l.map fun n=>UInt8.ofNat n.toNat).toArray⟩
theorem A2k {l:List Int} (h:okB l):strInts (A6S l)=l:=by
 simp only [A6S,strInts,List.map_map,List.toList_toArray]
 conv=>rhs;rw [← List.map_id l]
 apply List.map_congr_left
 intro n hn
 obtain ⟨h0,h1⟩:=h n hn
 simp only [Function.comp_apply,UInt8.toNat_ofNat', id_eq]
 omega
theorem B2P (s:ByteArray):A6S (strInts s)=s:=by
 cases s with
 | mk a =>
  simp only [A6S,strInts,List.map_map]
  congr 1
  apply Array.toList_inj.1
  simp only [List.toList_toArray]
  conv=>rhs;rw [← List.map_id a.toList]
  apply List.map_congr_left
  intro b _
  simp
theorem B5e {a:List Int} {s:ByteArray} (ha:okB a):((A6S a).toList==s.toList)=true↔a=strInts s:=by
 rw [beq_iff_eq]
 constructor
 ·intro h
  have h2:A6S a=s:=by
   have h3:=congrArg (fun l=>(⟨l.toArray⟩:ByteArray)) h
   have k:∀ s:ByteArray,(⟨s.toList.toArray⟩:ByteArray)=s:=fun s=>by rw [ByteArray.toList_eq]
   simpa only [k] using h3
  rw [← A2k ha,h2]
 ·rintro rfl;rw [B2P]
theorem B8M {pre rest:List Int} (hb:okB (pre++rest)) {n p:Int} (h:gN (pre++rest) (pre.length:Int)=(n,p,true)):∃ post,rest=A7 n++post∧p=((pre++A7 n).length:Int)∧0≤n∧n≤1000000000:=by
 obtain ⟨pre', post,e1,e2,e3,e4,e5⟩:=B4m hb h
 obtain ⟨_,q2⟩:=List.append_inj e1 (by omega)
 exact ⟨post,q2,by rw [e3,List.length_append];omega,e4,e5⟩
theorem B7F {b:List Int} (hb:okB b) {n p:Int} (h:gN b 0=(n,p,true)):∃ post,b=A7 n++post∧p=((A7 n).length:Int)∧0≤n∧n≤1000000000:=B8M (pre:=[]) hb h
noncomputable def gT (b:List Int) (a:Int):ByteArray×Int×Bool :=
 if (gN b a).2.2=true∧(gN b a).1≤(b.length:Int) - (gN b a).2.1 then (A6S ((b.drop (gN b a).2.1.toNat).take (gN b a).1.toNat),(gN b a).2.1+(gN b a).1,true) else (⟨#[]⟩,0,false)
noncomputable def gO (b:List Int) (p:Int):(Int×ByteArray×ByteArray)×Int×Bool :=
 (((gN b p).1,(gT b (gN b p).2.1).1,(gT b (gT b (gN b p).2.1).2.1).1),(gT b (gT b (gN b p).2.1).2.1).2.1,(gN b p).2.2&&((gT b (gN b p).2.1).2.2&&(gT b (gT b (gN b p).2.1).2.1).2.2))
noncomputable def pO:Nat→List Int→Int→Lq1→Option (Lq1×Int)
 | 0,_,p,acc=>some (acc,p)
 | k+1,b,p,acc=>cond (gO b p).2.2 (pO k b (gO b p).2.1 (acc++[(gO b p).1])) none
noncomputable def B25 (b:List Int):Lq1×Bool :=
 if (gN b 0).2.2=true∧(gN b 0).1≤8 then (match pO (gN b 0).1.toNat b (gN b 0).2.1 [] with
  | some (l,q)=>if q=(b.length:Int)∧J0 l=true then (l,true) else ([],false)
  | none=>([],false)) else ([],false)
theorem B8N {b:List Int} (hb:okB b) (hl:b.length≤1099511627776) (a:Int) :
  gT b a=(cond (!((gN b a).2.2)) ((⟨#[]⟩:ByteArray),(0:Int),false) (cond (decide (((gN b a).1) > (IntKind.wrap .i64 ((b.length:Int) - ((gN b a).2.1))))) ((⟨#[]⟩:ByteArray),(0:Int),false) ((⟨(((b.take (IntKind.wrap .i64 (((gN b a).2.1)+((gN b a).1))).toNat).drop ((gN b a).2.1).toNat).map fun n=>UInt8.ofNat n.toNat).toArray⟩:ByteArray),IntKind.wrap .i64 (((gN b a).2.1)+((gN b a).1)),true))) ∧
  (cond (!((gN b a).2.2)) true (cond (decide (((gN b a).1) > (IntKind.wrap .i64 ((b.length:Int) - ((gN b a).2.1))))) true (decide (0≤((gN b a).2.1)∧((gN b a).2.1)≤(IntKind.wrap .i64 (((gN b a).2.1)+((gN b a).1)))∧(IntKind.wrap .i64 (((gN b a).2.1)+((gN b a).1)))≤(b.length:Int)))))=true:=by
 cases h:(gN b a).2.2 with
 | false=>simp only [gT,h,Bool.not_false,cond_true];exact ⟨by rw [if_neg (by simp)],trivial⟩
 | true =>
  obtain ⟨r1,r2,r3,r4,r5⟩:=A5O hb h
  have w1:IntKind.wrap .i64 ((b.length:Int) - ((gN b a).2.1))=(b.length:Int) - (gN b a).2.1:=wrap64 (by omega) (by omega)
  have w2:IntKind.wrap .i64 (((gN b a).2.1)+((gN b a).1))=(gN b a).2.1+(gN b a).1:=wrap64 (by omega) (by omega)
  simp only [gT,h,Bool.not_true,cond_false,w1,w2]
  by_cases hc:(gN b a).1≤(b.length:Int) - (gN b a).2.1
  ·rw [if_pos ⟨trivial,hc⟩,decide_eq_false (by omega),cond_false,cond_false]
   refine ⟨?_,decide_eq_true (by omega)⟩
   simp only [A6S]
   congr 4
   have:((gN b a).2.1+(gN b a).1).toNat=(gN b a).2.1.toNat+(gN b a).1.toNat:=by omega
   rw [this,List.take_drop]
  ·rw [if_neg (fun h=>hc h.2),decide_eq_true (by omega),cond_true,cond_true]
   exact ⟨rfl,rfl⟩
theorem A7w {b:List Int} (hb:okB b) (hl:b.length≤1099511627776) (a:Int):A0N b a=gT b a∧K8 b a=true:=by
 obtain ⟨h1,h2⟩:=R0 hb hl a
 obtain ⟨h3,h4⟩:=B8N hb hl a
 rw [h3]
 simp only [A0N,K8,h1,h2,Bool.true_and]
 exact ⟨trivial,h4⟩
theorem B2Q (l:List Int):(A6S l).size=l.length:=by simp [A6S,ByteArray.size]
theorem B26 {b:List Int} (hb:okB b) (a:Int):(gT b a).1.size≤b.length:=by
 simp only [gT]
 split
 ·rw [B2Q,List.length_take,List.length_drop];omega
 ·exact Nat.zero_le _
theorem B7H {b:List Int} (hb:okB b) (p:Int):(gO b p).1.2.1.size≤b.length∧(gO b p).1.2.2.size≤b.length:=⟨B26 hb _,B26 hb _⟩
theorem B58 {b:List Int} (hb:okB b) (hl:b.length≤1048576) (n p:Int) (hn:n≤8) (h0:0≤n) :
    (match pO n.toNat b p [] with
      | some (l,q)=>A2b b n p 0 [] []=(1,false,[],b,q,l)∧E9 l=true
      | none=>A2b b n p 0 [] []=(0,false,[],[],0,[])):=by
  refine itX_inv (fun v : A1C => ∃ (i : Nat) (p' : Int) (l : Lq1), v = (b, n, p', (i : Int), [], l) ∧ (i : Int) ≤ n ∧ l.length = i ∧ E9 l = true ∧ pO (n.toNat - i) b p' l = pO n.toNat b p []) (fun a => match pO n.toNat b p [] with
      | some (l,q)=>a=(1,false,[],b,q,l)∧E9 l=true
      | none=>a=(0,false,[],[],0,[])) (fun v=>8 - v.2.2.2.1.toNat) ?_ ⟨0,p,[],rfl,h0,rfl,rfl,rfl⟩ (by simp)
  rintro v ⟨i,p', l,rfl,hi,hll,hok,hp⟩
  by_cases h5:(i:Int)<n
  · have e1:decide ((i:Int)<n)=true:=decide_eq_true h5
    obtain ⟨s1,s2⟩:=R0 hb (by omega) p'
    obtain ⟨t1,t2⟩:=A7w hb (by omega) (gN b p').2.1
    obtain ⟨u1,u2⟩:=A7w hb (by omega) (gT b (gN b p').2.1).2.1
    have e2:∀ o:Int×ByteArray×ByteArray,decide ((l.length+[o].length)*40≤MAXB)=true:=fun o=>decide_eq_true (by simp only [List.length_singleton,MAXB];omega)
    rw [show n.toNat - i=(n.toNat - (i+1))+1 by omega,pO] at hp
    simp only [A2f,e1,s1,s2,t1,t2,u1,u2,e2,cond_true]
    cases hc:(gO b p').2.2 with
    | true =>
      rw [hc,cond_true] at hp
      have hc':=hc
      simp only [gO,Bool.and_eq_true] at hc'
      simp only [hc'.1,hc'.2.1,hc'.2.2,Bool.not_true,cond_false]
      refine .inl ⟨_,rfl,⟨i+1,(gO b p').2.1,l++[(gO b p').1],?_,by omega,by simp [hll],?_,hp⟩,?_⟩
      · rw [wrapU i (by omega)];rfl
      · obtain ⟨x1,x2⟩:=B7H hb p'
        simp only [E9,okL,List.length_append,List.length_singleton,List.all_append,List.all_cons,List.all_nil,Bool.and_true,Bool.and_eq_true,decide_eq_true_eq] at hok ⊢
        exact ⟨by omega,hok.2,by simp only [B6Y,okS,Bool.and_eq_true,decide_eq_true_eq];omega⟩
      · rw [wrapU i (by omega)];simp;omega
    | false =>
      rw [hc,cond_false] at hp
      right
      rw [← hp]
      simp only [gO] at hc
      cases h1:(gN b p').2.2 with
      | false=>exact ⟨_,rfl,rfl⟩
      | true=>cases h2:(gT b (gN b p').2.1).2.2 with
        | false=>exact ⟨_,rfl,rfl⟩
        | true=>cases h3:(gT b (gT b (gN b p').2.1).2.1).2.2 with
          | false=>exact ⟨_,rfl,rfl⟩
          | true=>rw [h1,h2,h3] at hc;cases hc
  · have e1:decide ((i:Int)<n)=false:=decide_eq_false h5
    have:n.toNat - i=0:=by omega
    rw [this,pO] at hp
    simp only [A2f,e1,cond_false]
    exact .inr ⟨_,rfl,by rw [← hp];exact ⟨rfl,hok⟩⟩
theorem A9c {b:List Int} (hb:okB b) (hl:b.length≤1048576):B0L b=B25 b∧A03 b=true:=by
 obtain ⟨s1,s2⟩:=R0 hb (by omega) 0
 simp only [B0L,A03,B25,s1,s2,Bool.true_and,A4H]
 cases h:(gN b 0).2.2 with
 | false=>simp
 | true =>
  obtain ⟨r1,r2,r3,r4,r5⟩:=A5O hb h
  by_cases h8:(gN b 0).1≤8
  ·have e1:decide ((gN b 0).1 > 8)=false:=decide_eq_false (by omega)
   have:=B58 hb hl (gN b 0).1 (gN b 0).2.1 h8 r4
   rw [if_pos ⟨rfl,h8⟩]
   simp only [Bool.not_true,cond_false,e1]
   cases hp:pO (gN b 0).1.toNat b (gN b 0).2.1 [] with
   | none=>rw [hp] at this;simp only at this;rw [this];exact ⟨rfl,rfl⟩
   | some x =>
    obtain ⟨l,q⟩:=x
    rw [hp] at this
    obtain ⟨this,hok⟩:=this
    rw [this]
    have h10:((1:Nat)==0)=false:=rfl
    simp only [h10,cond_false,A2V,hok,Nat.reduceBEq,beq_self_eq_true,Bool.true_and]
    by_cases hq:q=(b.length:Int)
    ·have e2:(q != (b.length:Int))=false:=by rw [hq];simp
     simp only [e2,cond_false]
     cases ho:J0 l with
     | true=>rw [if_pos ⟨hq,rfl⟩];exact ⟨rfl,trivial⟩
     | false=>rw [if_neg (fun h=>by cases h.2)];exact ⟨rfl,trivial⟩
    ·have e2:(q != (b.length:Int))=true:=by rw [bne_iff_ne];exact hq
     simp only [e2,cond_true]
     rw [if_neg (fun h=>hq h.1)];exact ⟨rfl,trivial⟩
  ·have e1:decide ((gN b 0).1 > 8)=true:=decide_eq_true (by omega)
   rw [if_neg (fun h=>h8 h.2)]
   simp only [Bool.not_true,cond_false,e1,cond_true]
   exact ⟨trivial,trivial⟩
theorem B8O {b:List Int} (hb:okB b) {a p:Int} {s:ByteArray} (h:gT b a=(s,p,true)):∃ pre post,b=pre++(H8 s++post)∧a=pre.length∧p=a+(H8 s).length∧s.size≤1000000000:=by
 simp only [gT] at h
 split at h
 ·rename_i hc
  obtain ⟨h1,h2⟩:=hc
  obtain ⟨pre,post,e1,e2,e3,e4,e5⟩:=B4m hb (a:=a) (n:=(gN b a).1) (p:=(gN b a).2.1) (by rw [← h1])
  simp only [Prod.mk.injEq,and_true] at h
  obtain ⟨h3,h4⟩:=h
  have hlen:=congrArg List.length e1
  simp only [List.length_append] at hlen
  have ed:b.drop (gN b a).2.1.toNat=post:=by
   have hd:∀ n,b=pre++(A7 n++post)→b.drop (pre.length+(A7 n).length)=post:=fun n e=>by rw [e,← List.append_assoc,← List.length_append,List.drop_left]
   have:(gN b a).2.1.toNat=pre.length+(A7 (gN b a).1).length:=by omega
   rw [this];exact hd _ e1
  rw [ed] at h3
  have hpl:(gN b a).1.toNat≤post.length:=by omega
  have hz:s.size=(gN b a).1.toNat:=by rw [← h3,B2Q,List.length_take];omega
  have hpo:okB (post.take (gN b a).1.toNat):=(by rw [← ed];exact (hb.drop _).take _)
  have hi:strInts s=post.take (gN b a).1.toNat:=by rw [← h3,A2k hpo]
  have hsz:(s.size:Int)=(gN b a).1:=by omega
  refine ⟨pre,post.drop (gN b a).1.toNat,?_,e2,?_,by omega⟩
  ·rw [H8,hsz,hi,List.append_assoc,List.take_append_drop];exact e1
  ·simp only [H8,List.length_append,A3l,hsz];omega
 ·cases h
theorem C0m {b:List Int} (hb:okB b) {p:Int} (h:(gO b p).2.2=true):∃ pre post,b=pre++(opB (gO b p).1++post)∧p=pre.length∧(gO b p).2.1=p+(opB (gO b p).1).length∧B5E (gO b p).1:=by
 simp only [gO,Bool.and_eq_true] at h
 obtain ⟨h1,h2,h3⟩:=h
 obtain ⟨pre1,post1,a1,a2,a3,a4,a5⟩:=B4m hb (a:=p) (n:=(gN b p).1) (p:=(gN b p).2.1) (by rw [← h1])
 obtain ⟨pre2,post2,b1,b2,b3,b4⟩:=B8O hb (a:=(gN b p).2.1) (s:=(gT b (gN b p).2.1).1) (p:=(gT b (gN b p).2.1).2.1) (by rw [← h2])
 obtain ⟨pre3,post3,c1,c2,c3,c4⟩:=B8O hb (a:=(gT b (gN b p).2.1).2.1) (s:=(gT b (gT b (gN b p).2.1).2.1).1) (p:=(gT b (gT b (gN b p).2.1).2.1).2.1) (by rw [← h3])
 have d1:post1=b.drop (pre1++A7 (gN b p).1).length:=by
  have hd:∀ (u v w x:List Int),x=u++(v++w)→w=x.drop (u++v).length:=fun u v w x e=>by rw [e,← List.append_assoc,List.drop_left]
  exact hd _ _ _ _ a1
 have d2:H8 (gT b (gN b p).2.1).1++post2=b.drop pre2.length:=by
  have hd:∀ (u v x:List Int),x=u++v→v=x.drop u.length:=fun u v x e=>by rw [e,List.drop_left]
  exact hd _ _ _ b1
 have d3:post2=b.drop (pre2++H8 (gT b (gN b p).2.1).1).length:=by
  have hd:∀ (u v w x:List Int),x=u++(v++w)→w=x.drop (u++v).length:=fun u v w x e=>by rw [e,← List.append_assoc,List.drop_left]
  exact hd _ _ _ _ b1
 have d4:H8 (gT b (gT b (gN b p).2.1).2.1).1++post3=b.drop pre3.length:=by
  have hd:∀ (u v x:List Int),x=u++v→v=x.drop u.length:=fun u v x e=>by rw [e,List.drop_left]
  exact hd _ _ _ c1
 have f1:post1=H8 (gT b (gN b p).2.1).1++post2:=by rw [d1,d2];congr 1;simp only [List.length_append];omega
 have f2:post2=H8 (gT b (gT b (gN b p).2.1).2.1).1++post3:=by rw [d3,d4];congr 1;simp only [List.length_append];omega
 have hk:A0A (gN b p).1=(gN b p).1:=A0c a4 a5
 refine ⟨pre1,post3,?_,a2,?_,a4,a5,b4,c4⟩
 ·simp only [opB,gO,hk,List.append_assoc]
  rw [← f2,← f1];exact a1
 ·simp only [opB,gO,hk,List.length_append];omega
theorem C0W {b:List Int} (hb:okB b):∀ (k:Nat) (p:Int) (acc l:Lq1) (q:Int),0≤p→p≤b.length→pO k b p acc=some (l,q) →
  ∃ l' pre post,l=acc++l'∧l'.length=k∧b=pre++((l'.map opB).flatten++post)∧p=pre.length∧q=p+(l'.map opB).flatten.length∧∀ o∈l', B5E o:=by
 intro k
 induction k with
 | zero =>
  intro p acc l q h0 h1 h
  simp only [pO,Option.some.injEq,Prod.mk.injEq] at h
  obtain ⟨rfl,rfl⟩:=h
  exact ⟨[],b.take p.toNat,b.drop p.toNat,by simp,rfl,by simp,by rw [List.length_take];omega,by simp,by simp⟩
 | succ k ih =>
  intro p acc l q h0 h1 h
  simp only [pO] at h
  cases hc:(gO b p).2.2 with
  | false=>rw [hc] at h;cases h
  | true =>
   rw [hc,cond_true] at h
   obtain ⟨pre,post,a1,a2,a3,a4⟩:=C0m hb hc
   have hlen:=congrArg List.length a1
   simp only [List.length_append] at hlen
   obtain ⟨l', pre', post', b1,b2,b3,b4,b5,b6⟩:=ih (gO b p).2.1 (acc++[(gO b p).1]) l q (by omega) (by omega) h
   have d1:post=b.drop (pre++opB (gO b p).1).length:=by
    have hd:∀ (u v w x:List Int),x=u++(v++w)→w=x.drop (u++v).length:=fun u v w x e=>by rw [e,← List.append_assoc,List.drop_left]
    exact hd _ _ _ _ a1
   have d2:(l'.map opB).flatten++post'=b.drop pre'.length:=by
    have hd:∀ (u v x:List Int),x=u++v→v=x.drop u.length:=fun u v x e=>by rw [e,List.drop_left]
    exact hd _ _ _ b3
   have f1:post=(l'.map opB).flatten++post':=by rw [d1,d2];congr 1;simp only [List.length_append];omega
   refine ⟨(gO b p).1::l', pre,post', by rw [b1];simp,by simp [b2],?_,a2,?_,?_⟩
   ·simp only [List.map_cons,List.flatten_cons,List.append_assoc]
    rw [← f1];exact a1
   ·simp only [List.map_cons,List.flatten_cons,List.length_append];omega
   ·intro o ho
    rcases List.mem_cons.1 ho with rfl | ho
    ·exact a4
    ·exact b6 o ho
theorem B8n {b:List Int} (hb:okB b) {l:Lq1} (h:B25 b=(l,true)):J0 l=true∧b=A2T l:=by
 simp only [B25] at h
 split at h
 ·rename_i hc
  obtain ⟨c1,c2⟩:=hc
  obtain ⟨post,e1,e2,e3,e4⟩:=B7F hb (n:=(gN b 0).1) (p:=(gN b 0).2.1) (by rw [← c1])
  have hlen:=congrArg List.length e1
  rw [List.length_append] at hlen
  split at h
  ·rename_i l' q hp
   split at h
   ·rename_i hq
    simp only [Prod.mk.injEq,and_true] at h
    subst h
    obtain ⟨l2,pre,post2,f1,f2,f3,f4,f5,f6⟩:=C0W hb _ _ _ _ _ (by omega) (by omega) hp
    simp only [List.nil_append] at f1
    subst f1
    refine ⟨hq.2,?_⟩
    have g1:(l'.length:Int)=(gN b 0).1:=by omega
    have hlen2:=congrArg List.length f3
    simp only [List.length_append] at hlen2
    have hp2:post2=[]:=List.eq_nil_of_length_eq_zero (by have:=hq.1;omega)
    subst hp2
    have key:∀ b':List Int,b'=A7 (gN b 0).1++post→b'=pre++((l'.map opB).flatten++[])→pre.length=(A7 (gN b 0).1).length→b'=A7 (gN b 0).1++(l'.map opB).flatten:=by
     intro b' x1 x2 x3
     obtain ⟨q1,q2⟩:=List.append_inj (x2.symm.trans x1) x3
     rw [x2,q1,List.append_nil]
    rw [A2T,g1]
    exact key b e1 f3 (by omega)
   ·cases h
  ·cases h
 ·cases h
theorem B59 {b:List Int} (hb:okB b) (hl:b.length≤1048576) (a:Int):A0l b a=true∧((∃ k t l pre post,A1l b a=(k,t,l,((pre.length+(O6 k t l).length:Nat):Int),true)∧E5 k t l=true∧b=pre++(O6 k t l++post)∧a=(pre.length:Int))∨A1l b a=(0,0,[],a,false)):=by
 obtain ⟨g1,g2⟩:=R0 hb (by omega) a
 simp only [A1l,A0l,g1,g2,C2,B2,Y7,K6,Bool.true_and]
 cases h1:(gN b a).2.2 with
 | false=>exact ⟨rfl,.inr rfl⟩
 | true =>
 obtain ⟨r1,r2,r3,r4,r5⟩:=A5O hb h1
 generalize eg:gN b a=g at *
 obtain ⟨n,p,o⟩:=g
 simp only at h1 r1 r2 r3 r4 r5 ⊢
 subst h1
 obtain ⟨w1,w2,w3,w4⟩:=B3T (len:=(b.length:Int)) (p:=p) (n:=n) ⟨by omega,by omega⟩ ⟨by omega,by omega⟩ ⟨by omega,by omega⟩
 simp only [w1,w2,w3,w4,Bool.not_true,cond_false]
 by_cases hn:n > (b.length:Int) - p - 4
 ·simp only [decide_eq_true hn,cond_true];exact ⟨trivial,.inr trivial⟩
 simp only [decide_eq_false hn,cond_false]
 obtain ⟨pre,body,s4,rest,e,ea,ep,el,e4,n1,n0,hB,h4⟩:=B6g hb hl eg hn
 have hlen:=congrArg List.length e
 simp only [List.length_append] at hlen
 have c1:(b.take (p+n).toNat).drop p.toNat=body:=B5D (x:=pre++A7 n) (z:=s4++rest) (by rw [e];simp only [List.append_assoc]) (by rw [List.length_append];omega) (by rw [List.length_append];omega)
 have c2:(b.take (p+n+4).toNat).drop (p+n).toNat=s4:=B5D (x:=pre++(A7 n++body)) (z:=rest) (by rw [e];simp only [List.append_assoc]) (by simp only [List.length_append];omega) (by simp only [List.length_append];omega)
 have gb:=fun a=>(R0 hB (by omega) a)
 obtain ⟨_,d4,d5,d6⟩:=A4G body (by omega)
 obtain ⟨d1,dS⟩:=B7C hB (by omega)
 have m1:decide (0≤p∧p≤p+n∧p+n≤(b.length:Int))=true:=decide_eq_true (by omega)
 have m2:decide (0≤p+n∧p+n≤p+n+4∧p+n+4≤(b.length:Int))=true:=decide_eq_true (by omega)
 have m3:decide ((([]:List Int).length+body.length)*1≤MAXB)=true:=decide_eq_true (by simp only [List.length_nil,MAXB];omega)
 have m4:decide (0≤(0:Int)∧(0:Int)≤(4:Int)∧(4:Int)≤(((A0M body).size:Nat):Int))=true:=decide_eq_true (by rw [dS];omega)
 simp only [c1,c2,m1,m2,m3,m4,d1,List.nil_append,gb,Bool.true_and]
 cases h2:(gN body 0).2.2 with
 | false=>exact ⟨rfl,.inr rfl⟩
 | true =>
 cases h3:(gN body (gN body 0).2.1).2.2 with
 | false=>exact ⟨rfl,.inr rfl⟩
 | true =>
 simp only [Bool.not_true,cond_false]
 cases hs:((⟨(s4.map fun n=>UInt8.ofNat n.toNat).toArray⟩:ByteArray).toList==((A0M body).extract (0:Int).toNat (4:Int).toNat).toList) with
 | false=>exact ⟨rfl,.inr rfl⟩
 | true =>
 have hs4:s4=A5a body:=by rw [dS] at hs;exact (B5e h4).1 hs
 simp only [Bool.not_true,cond_false]
 generalize e1:gN body 0=x1 at *
 obtain ⟨k,p1,o1⟩:=x1
 simp only at h2 h3 ⊢
 subst h2
 obtain ⟨r1,y1,z1,_,_⟩:=B7F hB e1
 subst z1
 generalize e2:gN body ((A7 k).length:Int)=x2 at *
 obtain ⟨t,p2,o2⟩:=x2
 simp only at h3 ⊢
 subst h3
 obtain ⟨r2,y2,z2,_,_⟩:=B8M (pre:=A7 k) (rest:=r1) (by rw [← y1];exact hB) (by rw [← y1];exact e2)
 subst z2
 have y3:body=(A7 k++A7 t)++r2:=by rw [y1,y2,List.append_assoc]
 have hlb:=congrArg List.length y3
 rw [List.length_append] at hlb
 have hr2:okB r2:=okB.right (by rw [← y3];exact hB)
 have fin:∀ l,E5 k t l=true→A5 k t l=body→∃ k' t' l' pre' post', (k,t,l,p+n+4,true)=(k', t', l', ((pre'.length+(O6 k' t' l').length:Nat):Int),true)∧E5 k' t' l'=true∧b=pre'++(O6 k' t' l'++post')∧a=(pre'.length:Int):=by
  intro l hw hbd
  have hE:p+n+4=((pre.length+(O6 k t l).length:Nat):Int):=by
   rw [O6,hbd,el];simp only [List.length_append,d5];omega
  refine ⟨k,t,l,pre,rest,by rw [hE],hw,?_,ea⟩
  ·rw [O6,hbd,el,e,hs4];simp only [List.append_assoc]
 have et:(body.drop ((A7 k++A7 t).length:Int).toNat).take ((body.length:Int).toNat - ((A7 k++A7 t).length:Int).toNat)=r2:=by
  rw [Int.toNat_natCast,Int.toNat_natCast]
  rw [show body.drop (A7 k++A7 t).length=r2 by rw [y3,List.drop_left]]
  exact List.take_of_length_le (by omega)
 by_cases hr:((A7 k++A7 t).length:Int)<(body.length:Int)
 ·obtain ⟨so1,so2⟩:=A9c hr2 (by omega)
  have m5:decide (0≤((A7 k++A7 t).length:Int)∧((A7 k++A7 t).length:Int)≤(body.length:Int)∧(body.length:Int)≤(body.length:Int))=true:=decide_eq_true (by omega)
  simp only [decide_eq_true hr,cond_true,et,so1,so2,m5,Bool.true_and]
  cases ho:(B25 r2).2 with
  | false=>exact ⟨rfl,.inr rfl⟩
  | true =>
   obtain ⟨m1,m2⟩:=B8n hr2 (l:=(B25 r2).1) (by rw [← ho])
   simp only [Bool.not_true,cond_false,A0I,A99 m1]
   cases hw:E5 k t (B25 r2).1 with
   | false=>exact ⟨trivial,.inr rfl⟩
   | true =>
    refine ⟨trivial,.inl (fin _ hw ?_)⟩
    have hk:(k==1)=true:=by
     cases hk:(k==1) with
     | true=>rfl
     | false =>
      obtain ⟨a1,a2,a3,a4,a7,a8,a9⟩:=A0L hw
      have:=A8b m1
      rw [a8 (by simpa using hk)] at this;simp at this
    rw [A5,hk,cond_true,← m2,y3,List.append_assoc]
 ·simp only [decide_eq_false hr,cond_false,A0I]
  have hr0:r2=[]:=List.eq_nil_of_length_eq_zero (by omega)
  cases hw:E5 k t [] with
  | false=>exact ⟨rfl,.inr rfl⟩
  | true =>
   refine ⟨rfl,.inl (fin _ hw ?_)⟩
   have hk:(k==1)=false:=by
    cases hk:(k==1) with
    | false=>rfl
    | true =>
     obtain ⟨a1,a2,a3,a4,a7,a8,a9⟩:=A0L hw
     have:=A8b (a7 (eq_of_beq hk))
     simp at this
   rw [A5,hk,cond_false,y3,hr0,List.append_nil,List.append_nil]
theorem B5I {b:List Int} (hb:okB b) (hl:b.length≤1099511627776) {i:Nat} (hi:i<b.length) :
    (match pN 5 0 0 (b.drop i) with
      | some (n,l)=>Q5 b (i:Int) 0 0=(0,(n:Int),(i:Int)+l,true)
      | none=>Q5 b (i:Int) 0 0=(0,0,0,false)∨(Q5 b (i:Int) 0 0).1=1):=by
  refine itX_inv (fun v => ∃ k n : Nat, v = (b, ((i + k : Nat) : Int), (n : Int), (k : Int)) ∧ k ≤ 5 ∧ n < 2 ^ (7 * k) ∧ pN (5 - k) k n (b.drop (i + k)) = pN 5 0 0 (b.drop i)) (fun a => match pN 5 0 0 (b.drop i) with
      | some (n,l)=>a=(0,(n:Int),(i:Int)+l,true)
      | none=>a=(0,0,0,false)∨a.1=1) (fun v=>5 - v.2.2.2.toNat) ?_ ⟨0,0,rfl,by omega,by simp,rfl⟩ (by simp)
  rintro v ⟨k,n,rfl,hk,hn,hp⟩
  by_cases h5:k<5
  · have e1:decide ((k:Int)<5)=true:=decide_eq_true (by omega)
    by_cases hik:i+k<b.length
    · have e5:decide (((i+k:Nat):Int)<(b.length:Int))=true:=decide_eq_true (by omega)
      have e6:decide (0≤((i+k:Nat):Int)∧((i+k:Nat):Int)<(b.length:Int))=true:=decide_eq_true (by omega)
      have e7:decide (0≤(IntKind.wrap .u64 (IntKind.wrap .i64 ((7:Int)*(k:Int)))))=true:=by
        rw [wrap64 (n:=(7:Int)*(k:Int)) (by omega) (by omega),B0N (by omega) (by omega)];exact decide_eq_true (by omega)
      obtain ⟨hc0,hc1⟩:=hb.getD (i+k)
      have hdc:=B2w hik
      obtain ⟨c,hc⟩:=Int.eq_ofNat_of_zero_le hc0
      rw [hc] at hc1 hdc
      have hc255:c≤255:=by omega
      obtain ⟨f1,f2,f3⟩:=C0e n c k hc255 h5 hn
      have e8:IntKind.wrap .i64 (c:Int)=(c:Int):=wrap64 (by omega) (by omega)
      have e13:IntKind.wrap .i64 (((i+k:Nat):Int)+1)=((i+k+1:Nat):Int):=wrapU (i+k) (by omega)
      rw [hdc,show 5 - k=(4 - k)+1 by omega,pN] at hp
      simp only [Int.toNat_natCast] at hp
      simp only [A0Q,e1,e5,e6,e7,cond_true,Int.toNat_natCast,hc,f1,e13]
      simp only [e8]
      by_cases h127:c > 127
      · rw [if_pos (by omega)] at hp
        have e9:decide ((c:Int)<128)=false:=decide_eq_false (by omega)
        simp only [e9,cond_false]
        refine .inl ⟨_,rfl,⟨k+1,n+c % 128*2 ^ (7*k),?_,by omega,f2,?_⟩,?_⟩
        · rw [wrapU k (by omega)];rfl
        · rw [show 5 - (k+1)=4 - k by omega,← hp];rfl
        · rw [wrapU k (by omega)];simp;omega
      · rw [if_neg (by omega)] at hp
        have e9:decide ((c:Int)<128)=true:=decide_eq_true (by omega)
        have hcm:c % 128=c:=by omega
        rw [hcm] at f3 ⊢
        simp only [e9,cond_true]
        right
        by_cases hz:0<k∧c=0
        · rw [if_pos (by omega)] at hp
          have e10:decide ((k:Int) > 0)=true:=decide_eq_true (by omega)
          have e11:((c:Int)==0)=true:=by rw [beq_iff_eq];omega
          simp only [e10,e11,cond_true]
          exact ⟨_,rfl,by rw [← hp];exact .inl rfl⟩
        · by_cases hg:n+c*2 ^ (7*k) > 1000000000
          · rw [if_pos (.inr hg)] at hp
            have e12:decide (((n+c*2 ^ (7*k):Nat):Int) > 1000000000)=true:=decide_eq_true (by omega)
            simp only [e12,cond_true]
            refine ⟨(0,0,0,false),?_,by rw [← hp];exact .inl rfl⟩
            cases decide ((k:Int) > 0)<;>cases ((c:Int)==0)<;>rfl
          · rw [if_neg (fun h=>h.elim (fun h=>hz ⟨h.1,by omega⟩) hg)] at hp
            have e12:decide (((n+c*2 ^ (7*k):Nat):Int) > 1000000000)=false:=decide_eq_false (by omega)
            simp only [e12,cond_false]
            refine ⟨(0,((n+c*2 ^ (7*k):Nat):Int),((i+k+1:Nat):Int),true),?_,?_⟩
            · by_cases h0:0<k
              · have e10:decide ((k:Int) > 0)=true:=decide_eq_true (by omega)
                have e11:((c:Int)==0)=false:=by rw [beq_eq_false_iff_ne];intro h;exact hz ⟨h0,by omega⟩
                simp only [e10,e11,cond_true,cond_false]
              · have e10:decide ((k:Int) > 0)=false:=decide_eq_false (by omega)
                simp only [e10,cond_false]
                cases ((c:Int)==0)<;>rfl
            · rw [← hp];show _=_
              congr 3
    · have e5:decide (((i+k:Nat):Int)<(b.length:Int))=false:=decide_eq_false (by omega)
      rw [show 5 - k=(4 - k)+1 by omega,List.drop_eq_nil_of_le (by omega),pN] at hp
      simp only [A0Q,e1,e5,cond_true,cond_false]
      exact .inr ⟨_,rfl,by rw [← hp];exact .inr rfl⟩
  · obtain rfl:k=5:=by omega
    have e1:decide (((5:Nat):Int)<5)=false:=by decide
    simp only [A0Q,e1,cond_false]
    exact .inr ⟨_,rfl,by rw [← hp];exact .inr rfl⟩
theorem A19 {b:List Int} (hb:okB b) (hl:b.length≤1099511627776) (a:Int):B9 b a=gN b a∧O4 b a=true:=by
 have hw:IntKind.wrap .i64 ((b.length:Int) - 1)=(b.length:Int) - 1:=wrap64 (by omega) (by omega)
 simp only [B9,O4,gN,R6,hw]
 by_cases h:0≤a∧a<b.length
 ·obtain ⟨i,rfl⟩:=Int.eq_ofNat_of_zero_le h.1
  have hi:i<b.length:=by omega
  have e1:decide ((i:Int) ≥ 0)=true:=decide_eq_true (by omega)
  have e2:decide ((i:Int)≤(b.length:Int) - 1)=true:=decide_eq_true (by omega)
  rw [if_pos h,Int.toNat_natCast]
  simp only [e1,e2,cond_true,Bool.not_true,cond_false]
  have:=B5I hb hl hi
  cases hp:pN 5 0 0 (b.drop i) with
  | some x =>
   rw [hp] at this
   simp only at this
   rw [this];exact ⟨rfl,rfl⟩
  | none =>
   rw [hp] at this
   rcases this with h1 | h1
   ·rw [h1];exact ⟨rfl,rfl⟩
   ·rw [h1];exact ⟨rfl,rfl⟩
 ·rw [if_neg h]
  have e:cond (decide (a ≥ 0)) (decide (a≤(b.length:Int) - 1)) false=false:=by
   by_cases h1:a ≥ 0
   ·rw [decide_eq_true h1,cond_true,decide_eq_false (by omega)]
   ·rw [decide_eq_false h1,cond_false]
  rw [e];exact ⟨rfl,rfl⟩
theorem V6 {b:List Int} (hb:okB b) (hl:b.length≤1048576) (a:Int) (bad:Bool):B8 b a bad=true∧A6 b a bad=cond bad ((0:Int),b,a,true) (cond (gN b a).2.2 ((gN b a).1,b,(gN b a).2.1,false) ((0:Int),b,a,true)):=by
 obtain ⟨h1,h2⟩:=A19 hb (by omega) a
 simp only [A6,B8,h1,h2]
 cases bad<;>cases (gN b a).2.2<;>simp
noncomputable def B6e (b:List Int) (a:Int):Option (Lq1×Int) :=
 cond (gN b a).2.2 (cond (decide ((gN b a).1≤8)) (pO (gN b a).1.toNat b (gN b a).2.1 []) none) none
theorem B1S {b:List Int} (hb:okB b) (hl:b.length≤1099511627776) (a:Int):A5T b a=gT b a∧Y9 b a=true:=by
 obtain ⟨h1,h2⟩:=A19 hb hl a
 obtain ⟨h3,h4⟩:=B8N hb hl a
 rw [h3]
 simp only [A5T,Y9,h1,h2,Bool.true_and]
 exact ⟨trivial,h4⟩
theorem A8D {b:List Int} (hb:okB b) (hl:b.length≤1048576) (a:Int) (bad:Bool):C3 b a bad=true∧Q4 b a bad=cond bad ((⟨#[]⟩:ByteArray),b,a,true) (cond (gT b a).2.2 ((gT b a).1,b,(gT b a).2.1,false) ((⟨#[]⟩:ByteArray),b,a,true)):=by
 obtain ⟨h1,h2⟩:=B1S hb (by omega) a
 simp only [Q4,C3,h1,h2]
 cases bad<;>cases (gT b a).2.2<;>simp
theorem B4v {b:List Int} (hb:okB b) (hl:b.length≤1048576) (a:Int) (bad:Bool) :
  B8 b a bad=true∧C3 (A6 b a bad).2.1 (A6 b a bad).2.2.1 (A6 b a bad).2.2.2=true ∧
  C3 (B4 b a bad).2.1 (B4 b a bad).2.2.1 (B4 b a bad).2.2.2=true ∧
  (B7 b a bad).2.1=b∧(B4 b a bad).1.size≤b.length∧(B7 b a bad).1.size≤b.length ∧
  (bad=true→(B7 b a bad).2.2.2=true) ∧
  (bad=false→(B7 b a bad).2.2.2=!(gO b a).2.2) ∧
  (bad=false→(gO b a).2.2=true→(B7 b a bad).2.2.1=(gO b a).2.1∧((A6 b a bad).1,(B4 b a bad).1,(B7 b a bad).1)=(gO b a).1):=by
 obtain ⟨n1,n2⟩:=V6 hb hl a bad
 have nb:(A6 b a bad).2.1=b:=by rw [n2];cases bad<;>cases (gN b a).2.2<;>rfl
 have t:=fun (x:Int) (y:Bool)=>A8D hb hl x y
 have tb:∀ x y,(Q4 b x y).2.1=b:=fun x y=>by rw [(t x y).2];cases y<;>cases (gT b x).2.2<;>rfl
 have ts:∀ x y,(Q4 b x y).1.size≤b.length:=fun x y=>by
  rw [(t x y).2]
  cases y with
  | true=>exact Nat.zero_le _
  | false=>cases (gT b x).2.2 with
   | true=>exact B26 hb x
   | false=>exact Nat.zero_le _
 refine ⟨n1,by rw [nb];exact (t _ _).1,?_,?_,?_,?_,?_,?_,?_⟩
 ·simp only [B4,nb,tb];exact (t _ _).1
 ·simp only [B7,B4,nb,tb]
 ·simp only [B4,nb];exact ts _ _
 ·simp only [B7,B4,nb,tb];exact ts _ _
 ·rintro rfl
  simp only [B7,B4,nb,tb]
  simp only [n2,t,cond_true]
 ·rintro rfl
  simp only [B7,B4,nb,tb]
  simp only [n2,cond_false,gO]
  cases h1:(gN b a).2.2 with
  | false=>simp only [cond_false,t,cond_true];rfl
  | true =>
   simp only [cond_true,t,cond_false]
   cases h2:(gT b (gN b a).2.1).2.2 with
   | false=>simp only [cond_false,cond_true];rfl
   | true =>
    simp only [cond_true,cond_false]
    cases h3:(gT b (gT b (gN b a).2.1).2.1).2.2<;>rfl
 ·rintro rfl hc
  simp only [B7,B4,nb,tb]
  simp only [gO,Bool.and_eq_true] at hc ⊢
  obtain ⟨h1,h2,h3⟩:=hc
  simp only [n2,cond_false,h1,cond_true,t,h2,h3]
  exact ⟨trivial,trivial⟩
theorem B1b {b:List Int} (hb:okB b) (hl:b.length≤1048576) (n p:Int) (bad:Bool) (hn:n≤8) (h0:0≤n) :
    (H4 n 0 b p bad []).1=0∧(H4 n 0 b p bad []).2.1=b∧E9 (H4 n 0 b p bad []).2.2.2.2=true∧(match cond bad none (pO n.toNat b p []) with
      | some (l,q)=>H4 n 0 b p bad []=(0,b,q,false,l)
      | none=>(H4 n 0 b p bad []).2.2.2.1=true):=by
  refine itX_inv (fun v : R5 => ∃ (i : Nat) (p' : Int) (bd : Bool) (l : Lq1), v = (n, (i : Int), b, p', bd, l) ∧ (i : Int) ≤ n ∧ l.length = i ∧ E9 l = true ∧ cond bd none (pO (n.toNat - i) b p' l) = cond bad none (pO n.toNat b p [])) (fun a : K9 => a.1 = 0 ∧ a.2.1 = b ∧ E9 a.2.2.2.2 = true ∧ (match cond bad none (pO n.toNat b p []) with
      | some (l,q)=>a=(0,b,q,false,l)
      | none=>a.2.2.2.1=true)) (fun v=>8 - v.2.1.toNat) ?_ ⟨0,p,bad,[],rfl,h0,rfl,rfl,rfl⟩ (by simp)
  rintro v ⟨i,p', bd,l,rfl,hi,hll,hok,hp⟩
  by_cases h5:(i:Int)<n
  · have e1:decide ((i:Int)<n)=true:=decide_eq_true h5
    obtain ⟨q1,q2,q3,q4,q5,q6,q7,q8,q9⟩:=B4v hb hl p' bd
    have e2:∀ o:Int×ByteArray×ByteArray,decide ((l.length+[o].length)*40≤MAXB)=true:=fun o=>decide_eq_true (by simp only [List.length_singleton,MAXB];omega)
    simp only [W9,e1,q1,q2,q3,q4,e2,cond_true]
    refine .inl ⟨_,rfl,⟨i+1,_,_,l++[((A6 b p' bd).1,(B4 b p' bd).1,(B7 b p' bd).1)],by rw [wrapU i (by omega)],by omega,by simp [hll],?_,?_⟩,?_⟩
    · simp only [E9,okL,List.length_append,List.length_singleton,List.all_append,List.all_cons,List.all_nil,Bool.and_true,Bool.and_eq_true,decide_eq_true_eq] at hok ⊢
      exact ⟨by omega,hok.2,by simp only [B6Y,okS,Bool.and_eq_true,decide_eq_true_eq];omega⟩
    · rw [← hp]
      cases bd with
      | true=>rw [q7 rfl];rfl
      | false =>
        rw [q8 rfl,show n.toNat - i=(n.toNat - (i+1))+1 by omega,pO]
        cases hc:(gO b p').2.2 with
        | false=>rfl
        | true =>
          obtain ⟨z1,z2⟩:=q9 rfl hc
          rw [z1,z2];rfl
    · rw [wrapU i (by omega)];simp;omega
  · have e1:decide ((i:Int)<n)=false:=decide_eq_false h5
    have e3:n.toNat - i=0:=by omega
    rw [e3,pO] at hp
    simp only [W9,e1,cond_false]
    refine .inr ⟨_,rfl,rfl,rfl,hok,?_⟩
    rw [← hp]
    cases bd<;>rfl
theorem A35 {b:List Int} (hb:okB b) (hl:b.length≤1048576) (a:Int) (bad:Bool):N5 b a bad=true∧(J6 b a bad).1=b∧E9 (J6 b a bad).2.2.2=true ∧
  (match cond bad none (B6e b a) with
   | some (l,q)=>J6 b a bad=(b,q,false,l)
   | none=>(J6 b a bad).2.2.1=true):=by
 obtain ⟨n1,n2⟩:=V6 hb hl a bad
 have nb:(A6 b a bad).2.1=b:=by rw [n2];cases bad<;>cases (gN b a).2.2<;>rfl
 have nr:0≤(A6 b a bad).1:=by
  rw [n2]
  cases bad with
  | true=>exact Int.le_refl _
  | false=>cases h:(gN b a).2.2 with
   | true=>exact (A5O hb h).2.2.2.1
   | false=>exact Int.le_refl _
 simp only [J6,N5,A0H,n1,nb,Bool.true_and]
 by_cases h8:(A6 b a bad).1≤8
 ·have e1:decide ((A6 b a bad).1 > 8)=false:=decide_eq_false (by omega)
  obtain ⟨i1,i2,i3,i4⟩:=B1b hb hl (A6 b a bad).1 (A6 b a bad).2.2.1 (A6 b a bad).2.2.2 h8 nr
  simp only [e1,cond_false,i1,i2,i3]
  refine ⟨rfl,trivial,trivial,?_⟩
  revert i4
  rw [n2]
  cases bad with
  | true=>simp
  | false =>
   simp only [cond_false,B6e]
   cases h:(gN b a).2.2 with
   | false=>simp
   | true =>
    have h9:decide ((gN b a).1≤8)=true:=by rw [n2] at h8;simp only [cond_false,h,cond_true] at h8;exact decide_eq_true h8
    simp only [cond_true,h9,cond_false]
    cases pO (gN b a).1.toNat b (gN b a).2.1 [] with
    | none=>exact id
    | some x=>intro i4;simp only at i4 ⊢;rw [i4]
 ·have e1:decide ((A6 b a bad).1 > 8)=true:=decide_eq_true (by omega)
  simp only [e1,cond_true]
  refine ⟨trivial,trivial,rfl,?_⟩
  cases bad with
  | true=>simp
  | false =>
   simp only [cond_false,B6e]
   rw [n2] at h8
   cases h:(gN b a).2.2 with
   | false=>rw [h] at h8;simp at h8
   | true =>
    simp only [cond_false,h,cond_true] at h8
    simp only [cond_true,decide_eq_false h8,cond_false]
theorem A68 {a b:List Int} (ha:okB a) (hb:okB b):M0 a b=true↔a=b:=by
 have e:M0 a b=((A6S a).toList==(A6S b).toList):=rfl
 rw [e,beq_iff_eq]
 constructor
 ·intro h
  have h2:A6S a=A6S b:=by
   have h3:=congrArg (fun l=>(⟨l.toArray⟩:ByteArray)) h
   have k:∀ s:ByteArray,(⟨s.toList.toArray⟩:ByteArray)=s:=fun s=>by rw [ByteArray.toList_eq]
   simpa only [k] using h3
  rw [← A2k ha,← A2k hb,h2]
 ·rintro rfl;rfl
theorem B5J {b:List Int} (hb:okB b) (hl:b.length≤1048576) (a:Int):A0h b a=true∧((∃ k t l pre post,A1h b a=(k,t,((pre.length+(O6 k t l).length:Nat):Int),true,l)∧E5 k t l=true∧b=pre++(O6 k t l++post)∧a=(pre.length:Int))∨A1h b a=(0,0,a,false,[])):=by
 obtain ⟨g1,g2⟩:=A19 hb (by omega) a
 simp only [A1h,A0h,g1,g2,N3,Q8,A2Q,A72,A4J,A2R,A73,A4K,Bool.true_and]
 cases h1:(gN b a).2.2 with
 | false=>exact ⟨rfl,.inr rfl⟩
 | true =>
 obtain ⟨r1,r2,r3,r4,r5⟩:=A5O hb h1
 generalize eg:gN b a=g at *
 obtain ⟨n,p,o⟩:=g
 simp only at h1 r1 r2 r3 r4 r5 ⊢
 subst h1
 obtain ⟨w1,w2,w3,w4⟩:=B3T (len:=(b.length:Int)) (p:=p) (n:=n) ⟨by omega,by omega⟩ ⟨by omega,by omega⟩ ⟨by omega,by omega⟩
 simp only [w1,w2,w3,w4,Bool.not_true,cond_false]
 by_cases hn:n > (b.length:Int) - p - 4
 ·simp only [decide_eq_true hn,cond_true];exact ⟨trivial,.inr trivial⟩
 simp only [decide_eq_false hn,cond_false]
 obtain ⟨pre,body,s4,rest,e,ea,ep,el,e4,n1,n0,hB,h4⟩:=B6g hb hl eg hn
 have hlen:=congrArg List.length e
 simp only [List.length_append] at hlen
 have c1:(b.take (p+n).toNat).drop p.toNat=body:=B5D (x:=pre++A7 n) (z:=s4++rest) (by rw [e];simp only [List.append_assoc]) (by rw [List.length_append];omega) (by rw [List.length_append];omega)
 have c3:(b.take (p+n+4).toNat).drop a.toNat=A7 n++(body++s4):=B5D (x:=pre) (z:=rest) (by rw [e];simp only [List.append_assoc]) ea (by simp only [List.length_append];omega)
 have hlB:body.length≤1048576:=by omega
 have gn:=fun a bad=>V6 hB hlB a bad
 have nb:∀ a bad,(A6 body a bad).2.1=body:=fun a bad=>by rw [(gn a bad).2];cases bad<;>cases (gN body a).2.2<;>rfl
 have gq:∀ a bad,B8 body a bad=true:=fun a bad=>(gn a bad).1
 have go:=fun a bad=>A35 hB hlB a bad
 have m1:decide (0≤p∧p≤p+n∧p+n≤(b.length:Int))=true:=decide_eq_true (by omega)
 have m2:decide (0≤a∧a≤p+n+4∧p+n+4≤(b.length:Int))=true:=decide_eq_true (by omega)
 have h3B:okB (A7 n++(body++s4)):=(A2c n0 n1).app (hB.app h4)
 have fin:∀ k t l,E5 k t l=true→M0 (A0F k t l) (A7 n++(body++s4))=true→∃ k' t' l' pre' post', (k,t,p+n+4,true,l)=(k', t', ((pre'.length+(O6 k' t' l').length:Nat):Int),true,l')∧E5 k' t' l'=true∧b=pre'++(O6 k' t' l'++post')∧a=(pre'.length:Int):=by
  intro k t l hw he
  obtain ⟨_,i2⟩:=A2O hw
  rw [i2] at he
  have he:=(A68 (B0K hw).1 h3B).1 he
  have hE:p+n+4=((pre.length+(O6 k t l).length:Nat):Int):=by rw [he];simp only [List.length_append,e4];omega
  refine ⟨k,t,l,pre,rest,by rw [hE],hw,?_,ea⟩
  rw [he,e];simp only [List.append_assoc]
 simp only [c1,c3,m1,m2,nb,gq,Bool.true_and]
 generalize A6 body 0 false=x1
 generalize A6 body x1.2.2.1 x1.2.2.2=x2
 cases hk:(x1.1==1) with
 | true =>
  obtain ⟨o1,o2,o3,o4⟩:=go x2.2.2.1 x2.2.2.2
  simp only [cond_true,o1,Bool.true_and]
  cases hbad:(J6 body x2.2.2.1 x2.2.2.2).2.2.1 with
  | true=>exact ⟨rfl,.inr rfl⟩
  | false =>
   simp only [cond_false,F9,o3,Bool.true_and]
   cases hw:X2 x1.1 x2.1 (J6 body x2.2.2.1 x2.2.2.2).2.2.2 with
   | false=>exact ⟨rfl,.inr rfl⟩
   | true =>
    rw [← A07] at hw
    simp only [Bool.not_true,cond_false,(A2O hw).1,Bool.and_self]
    cases he:M0 (A0F x1.1 x2.1 (J6 body x2.2.2.1 x2.2.2.2).2.2.2) (A7 n++(body++s4)) with
    | false=>exact ⟨trivial,.inr rfl⟩
    | true=>exact ⟨trivial,.inl (fin _ _ _ hw he)⟩
 | false =>
  simp only [cond_false]
  cases hbad:x2.2.2.2 with
  | true=>exact ⟨rfl,.inr rfl⟩
  | false =>
   have o3:E9 []=true:=rfl
   simp only [cond_false,F9,o3,Bool.true_and]
   cases hw:X2 x1.1 x2.1 [] with
   | false=>exact ⟨rfl,.inr rfl⟩
   | true =>
    rw [← A07] at hw
    simp only [Bool.not_true,cond_false,(A2O hw).1,Bool.and_self]
    cases he:M0 (A0F x1.1 x2.1 []) (A7 n++(body++s4)) with
    | false=>exact ⟨trivial,.inr rfl⟩
    | true=>exact ⟨trivial,.inl (fin _ _ _ hw he)⟩
theorem B9i:∀ (j k n x:Nat) (post:List Int),x<128 ^ (j+1)→(0<k→0<x)→n+x*2 ^ (7*k)≤1000000000→pN (j+1) k n (hiB j x++post)=some (n+x*2 ^ (7*k),k+(hiB j x).length):=by
 intro j
 induction j with
 | zero =>
  intro k n x post h1 h2 h3
  have hx:¬ 127<x:=by simp at h1;omega
  rw [A1G 0 x hx]
  simp only [List.cons_append,List.nil_append,pN,List.length_singleton,Int.toNat_natCast]
  rw [if_neg (by omega),if_neg (by omega)]
 | succ j ih =>
  intro k n x post h1 h2 h3
  by_cases hx:127<x
  ·have hb : x < 9223372036854775808 := by
    have:x*1≤x*2 ^ (7*k):=Nat.mul_le_mul_left _ (Nat.pow_pos (by decide))
    omega
   rw [B09 j x hx hb]
   have hx':x / 128<128 ^ (j+1):=Nat.div_lt_of_lt_mul (by rw [Nat.pow_succ] at h1;rw [Nat.mul_comm];exact h1)
   have e:n+x % 128*2 ^ (7*k)+x / 128*2 ^ (7*(k+1))=n+x*2 ^ (7*k):=by
    rw [show 7*(k+1)=7*k+7 by omega,Nat.pow_add]
    have:=Nat.div_add_mod x 128
    have h4:x*2 ^ (7*k)=(128*(x / 128)+x % 128)*2 ^ (7*k):=by rw [this]
    rw [h4,Nat.add_mul,show (2:Nat) ^ 7=128 from rfl,Nat.mul_comm 128 (x / 128),Nat.mul_assoc,Nat.mul_comm 128 (2 ^ (7*k)),← Nat.mul_assoc]
    omega
   have:=ih (k+1) (n+x % 128*2 ^ (7*k)) (x / 128) post hx' (fun _=>by omega) (by rw [e];exact h3)
   simp only [List.cons_append,pN]
   rw [if_pos (by omega)]
   have e2:(((128+x % 128:Nat):Int).toNat % 128)=x % 128:=by omega
   rw [e2,this,e]
   simp only [List.length_cons]
   congr 2;omega
  ·rw [A1G _ x hx]
   simp only [List.cons_append,List.nil_append,pN,List.length_singleton,Int.toNat_natCast]
   rw [if_neg (by omega),if_neg (by omega)]
theorem B9k {n:Int} (h0:0≤n) (h1:n≤1000000000) (post:List Int):pN 5 0 0 (A7 n++post)=some (n.toNat,(A7 n).length):=by
 obtain ⟨x,rfl⟩:=Int.eq_ofNat_of_zero_le h0
 rw [B0J,B9i 4 0 0 x post (by simp;omega) (by omega) (by simp;omega)]
 simp
theorem A9y {n:Int} (h0:0≤n) (h1:n≤1000000000) (pre post:List Int):gN (pre++(A7 n++post)) (pre.length:Int)=(n,(pre.length:Int)+(A7 n).length,true):=by
 have hl:1≤(A7 n).length:=by simp [A7]
 simp only [gN]
 rw [if_pos (by simp only [List.length_append];omega),Int.toNat_natCast,List.drop_left,B9k h0 h1]
 show ((n.toNat:Int),_,_)=_
 rw [Int.toNat_of_nonneg h0]
theorem B6k {k t:Int} {l:Lq1} (h:E5 k t l=true) {b pre post:List Int} (e:b=pre++(O6 k t l++post)) :
  gN b (pre.length:Int)=(((A5 k t l).length:Int),(pre.length:Int)+((A7 ((A5 k t l).length:Int)).length:Int),true) ∧
  gN (A5 k t l) 0=(k,((A7 k).length:Int),true)∧gN (A5 k t l) ((A7 k).length:Int)=(t,((A7 k++A7 t).length:Int),true) ∧
  b.length=pre.length+(A7 ((A5 k t l).length:Int)).length+(A5 k t l).length+4+post.length:=by
 obtain ⟨a1,a2,a3,a4,a7,a8,ho⟩:=A0L h
 obtain ⟨b1,b2,b3⟩:=A06 h
 obtain ⟨_,_,d5,d6⟩:=A4G (A5 k t l) (by omega)
 have h1:=A9y (n:=((A5 k t l).length:Int)) (by omega) (by omega) pre ((A5 k t l++A5a (A5 k t l))++post)
 have h2:=A9y (n:=k) (by omega) (by omega) [] (A7 t++cond (k==1) (A2T l) [])
 have h3:=A9y (n:=t) (by omega) (by omega) (A7 k) (cond (k==1) (A2T l) [])
 have e':b=pre++(A7 ((A5 k t l).length:Int)++((A5 k t l++A5a (A5 k t l))++post)):=by rw [e,O6,List.append_assoc]
 rw [← e'] at h1
 refine ⟨h1,?_,?_,?_⟩
 ·simpa [A5] using h2
 ·rw [List.length_append,Int.natCast_add];exact h3
 ·rw [e'];simp only [List.length_append,d5];omega
theorem B6j {k t:Int} {l:Lq1} (h:E5 k t l=true) {b pre post:List Int} (e:b=pre++(O6 k t l++post)) (hl:b.length≤1048576) :
  (b.take ((pre.length:Int)+((A7 ((A5 k t l).length:Int)).length:Int)+((A5 k t l).length:Int)).toNat).drop ((pre.length:Int)+((A7 ((A5 k t l).length:Int)).length:Int)).toNat=A5 k t l ∧
  (b.take ((pre.length:Int)+((A7 ((A5 k t l).length:Int)).length:Int)+((A5 k t l).length:Int)+4).toNat).drop ((pre.length:Int)+((A7 ((A5 k t l).length:Int)).length:Int)+((A5 k t l).length:Int)).toNat=A5a (A5 k t l) ∧
  (b.take ((pre.length:Int)+((A7 ((A5 k t l).length:Int)).length:Int)+((A5 k t l).length:Int)+4).toNat).drop (pre.length:Int).toNat=O6 k t l:=by
 obtain ⟨b1,b2,b3⟩:=A06 h
 obtain ⟨_,_,d5,d6⟩:=A4G (A5 k t l) (by omega)
 refine ⟨B5D (x:=pre++A7 ((A5 k t l).length:Int)) (z:=A5a (A5 k t l)++post) ?_ ?_ ?_,B5D (x:=pre++(A7 ((A5 k t l).length:Int)++A5 k t l)) (z:=post) ?_ ?_ ?_,B5D (x:=pre) (z:=post) e rfl ?_⟩
 ·rw [e,O6];simp only [List.append_assoc]
 ·rw [List.length_append,Int.natCast_add]
 ·rw [List.length_append,Int.natCast_add]
 ·rw [e,O6];simp only [List.append_assoc]
 ·simp only [List.length_append,Int.natCast_add];omega
 ·simp only [List.length_append,Int.natCast_add,d5];omega
 ·simp only [O6,List.length_append,Int.natCast_add,d5];omega
theorem B6f {s:ByteArray} (h:s.size≤1000000000) (pre post:List Int):gT (pre++(H8 s++post)) (pre.length:Int)=(s,(pre.length:Int)+(H8 s).length,true):=by
 have h1:=A9y (n:=(s.size:Int)) (by omega) (by omega) pre (strInts s++post)
 have e:pre++(H8 s++post)=pre++(A7 (s.size:Int)++(strInts s++post)):=by simp only [H8,List.append_assoc]
 rw [e]
 simp only [gT,h1]
 have hs:=A3l s
 rw [if_pos ⟨trivial,by simp only [List.length_append];omega⟩]
 have e2:((pre.length:Int)+((A7 (s.size:Int)).length:Int)).toNat=pre.length+(A7 (s.size:Int)).length:=by omega
 rw [e2,Int.toNat_natCast,← List.append_assoc,← List.length_append,List.drop_left,List.take_left' hs,B2P]
 congr 2
 simp only [H8,List.length_append];omega
theorem C0n {o:Int×ByteArray×ByteArray} (h:B5E o) (pre post:List Int):gO (pre++(opB o++post)) (pre.length:Int)=(o,(pre.length:Int)+(opB o).length,true):=by
 obtain ⟨h0,h1,h2,h3⟩:=h
 have e:opB o=A7 o.1++(H8 o.2.1++H8 o.2.2):=by simp only [opB,A0c h0 h1]
 have q1:=A9y h0 h1 pre (H8 o.2.1++(H8 o.2.2++post))
 have q2:=B6f h2 (pre++A7 o.1) (H8 o.2.2++post)
 have q3:=B6f h3 (pre++A7 o.1++H8 o.2.1) post
 have e1:pre++(opB o++post)=pre++(A7 o.1++(H8 o.2.1++(H8 o.2.2++post))):=by simp only [e,List.append_assoc]
 have e2:pre++(opB o++post)=pre++A7 o.1++(H8 o.2.1++(H8 o.2.2++post)):=by simp only [e,List.append_assoc]
 have e3:pre++(opB o++post)=pre++A7 o.1++H8 o.2.1++(H8 o.2.2++post):=by simp only [e,List.append_assoc]
 rw [← e1] at q1;rw [← e2] at q2;rw [← e3] at q3
 have l1:((pre++A7 o.1).length:Int)=(pre.length:Int)+(A7 o.1).length:=by simp
 have l2:((pre++A7 o.1++H8 o.2.1).length:Int)=((pre++A7 o.1).length:Int)+(H8 o.2.1).length:=by simp;omega
 rw [l1] at q2;rw [l2,l1] at q3
 simp only [gO,q1,q2,q3,Bool.and_true]
 congr 2
 simp only [e,List.length_append];omega
theorem B9l:∀ (l:Lq1) (pre post:List Int) (acc:Lq1),(∀ o∈l,B5E o)→pO l.length (pre++((l.map opB).flatten++post)) (pre.length:Int) acc=some (acc++l,(pre.length:Int)+(l.map opB).flatten.length):=by
 intro l
 induction l with
 | nil=>intro pre post acc _;simp [pO]
 | cons o l ih =>
  intro pre post acc h
  have h1:=C0n (h o (by simp)) pre ((l.map opB).flatten++post)
  have h2:=ih (pre++opB o) post (acc++[o]) (fun x hx=>h x (by simp [hx]))
  have e:pre++(((o::l).map opB).flatten++post)=pre++(opB o++((l.map opB).flatten++post)):=by simp
  have e2:pre++opB o++((l.map opB).flatten++post)=pre++(opB o++((l.map opB).flatten++post)):=by simp
  rw [e2,List.length_append,Int.natCast_add] at h2
  rw [e]
  simp only [List.length_cons,pO,h1,cond_true,h2]
  simp only [List.append_assoc,List.singleton_append,List.map_cons,List.flatten_cons,List.length_append,Int.natCast_add]
  congr 2;omega
theorem B75 {l:Lq1} (h:J0 l=true) (pre post:List Int):gN (pre++(A2T l++post)) (pre.length:Int)=((l.length:Int),((pre++A7 (l.length:Int)).length:Int),true)∧pO l.length (pre++(A2T l++post)) ((pre++A7 (l.length:Int)).length:Int) []=some (l,(((pre++A2T l).length:Nat):Int)):=by
 obtain ⟨a1,_⟩:=P6 h
 have e:pre++(A2T l++post)=pre++(A7 (l.length:Int)++((l.map opB).flatten++post)):=by simp only [A2T,List.append_assoc]
 have h1:=A9y (n:=(l.length:Int)) (by omega) (by omega) pre ((l.map opB).flatten++post)
 have h2:=B9l l (pre++A7 (l.length:Int)) post [] (B2N h)
 rw [List.append_assoc] at h2
 rw [e]
 refine ⟨?_,?_⟩
 ·rw [h1,List.length_append,Int.natCast_add]
 ·rw [h2];simp only [List.nil_append,A2T,List.length_append,Int.natCast_add];congr 2;omega
theorem B4u {k t:Int} {l:Lq1} (h:E5 k t l=true) {b pre post:List Int} (e:b=pre++(O6 k t l++post)) (hb:okB b) (hl:b.length≤1048576):A1h b (pre.length:Int)=(k,t,((pre.length+(O6 k t l).length:Nat):Int),true,l):=by
 obtain ⟨a1,a2,a3,a4,a7,a8,ho⟩:=A0L h
 obtain ⟨b1,b2,b3⟩:=A06 h
 obtain ⟨_,d4,d5,d6⟩:=A4G (A5 k t l) (by omega)
 obtain ⟨n1,n2,n3,hlen⟩:=B6k h e
 obtain ⟨c1,c2,c3⟩:=B6j h e hl
 have g1:=(A19 hb (by omega) (pre.length:Int)).1
 have ln:=O3 ((A5 k t l).length:Int)
 obtain ⟨w1,w2,w3,w4⟩:=B3T (len:=(b.length:Int)) (p:=(pre.length:Int)+((A7 ((A5 k t l).length:Int)).length:Int)) (n:=((A5 k t l).length:Int)) ⟨by omega,by omega⟩ ⟨by omega,by omega⟩ ⟨by omega,by omega⟩
 have hd:decide (((A5 k t l).length:Int) > (b.length:Int) - ((pre.length:Int)+((A7 ((A5 k t l).length:Int)).length:Int)) - 4)=false:=decide_eq_false (by omega)
 have hend:(pre.length:Int)+((A7 ((A5 k t l).length:Int)).length:Int)+((A5 k t l).length:Int)+4=((pre.length+(O6 k t l).length:Nat):Int):=by simp only [O6,List.length_append,d5,Int.natCast_add];omega
 have gn:=fun a bad=>(V6 b1 (by omega) a bad).2
 have hw:X2 k t l=true:=by rw [← A07];exact h
 have he:M0 (A0F k t l) (O6 k t l)=true:=by rw [(A2O h).2];exact (A68 (B0K h).1 (B0K h).1).2 rfl
 simp only [A1h,N3,Q8,A2Q,A72,A4J,A2R,A73,A4K,g1,n1,w1,w2,w3,w4,hd,c1,c3,gn,n2,n3,Bool.not_true,cond_false,cond_true]
 cases hk:(k==1) with
 | true =>
  have hO:=a7 (eq_of_beq hk)
  have hlo:=(P6 hO).1
  obtain ⟨_,_,_,o4⟩:=A35 b1 (by omega) ((A7 k++A7 t).length:Int) false
  have eb:A5 k t l=(A7 k++A7 t)++(A2T l++[]):=by simp only [A5,hk,cond_true,List.append_assoc,List.append_nil]
  obtain ⟨p1,p2⟩:=B75 hO (A7 k++A7 t) []
  rw [← eb] at p1 p2
  have e8:decide ((l.length:Int)≤8)=true:=decide_eq_true (by omega)
  simp only [cond_false,B6e,p1,cond_true,e8,Int.toNat_natCast,p2] at o4
  simp only [cond_true,o4,cond_false,hw,Bool.not_true,he,hend]
 | false =>
  have hl0:l=[]:=a8 (by simpa using hk)
  subst hl0
  simp only [cond_false,hw,Bool.not_true,he,hend]
theorem B7I {l:Lq1} (h:J0 l=true):B25 (A2T l)=(l,true):=by
 obtain ⟨a1,_⟩:=P6 h
 obtain ⟨h1,h2⟩:=B75 h [] []
 simp only [List.nil_append,List.append_nil,List.length_nil] at h1 h2
 have h1':gN (A2T l) 0=((l.length:Int),((A7 (l.length:Int)).length:Int),true):=h1
 simp only [B25,h1']
 rw [if_pos ⟨trivial,by omega⟩,Int.toNat_natCast,h2]
 simp only
 rw [if_pos ⟨trivial,h⟩]
theorem B46 {k t:Int} {l:Lq1} (h:E5 k t l=true) {b pre post:List Int} (e:b=pre++(O6 k t l++post)) (hb:okB b) (hl:b.length≤1048576):A1l b (pre.length:Int)=(k,t,l,((pre.length+(O6 k t l).length:Nat):Int),true):=by
 obtain ⟨a1,a2,a3,a4,a7,a8,ho⟩:=A0L h
 obtain ⟨b1,b2,b3⟩:=A06 h
 obtain ⟨_,d4,d5,d6⟩:=A4G (A5 k t l) (by omega)
 have dS:=(B7C b1 (by omega)).2
 obtain ⟨n1,n2,n3,hlen⟩:=B6k h e
 obtain ⟨c1,c2,c3⟩:=B6j h e hl
 have g1:=(R0 hb (by omega) (pre.length:Int)).1
 have gb:=fun a=>(R0 b1 (by omega) a).1
 have ln:=O3 ((A5 k t l).length:Int)
 obtain ⟨w1,w2,w3,w4⟩:=B3T (len:=(b.length:Int)) (p:=(pre.length:Int)+((A7 ((A5 k t l).length:Int)).length:Int)) (n:=((A5 k t l).length:Int)) ⟨by omega,by omega⟩ ⟨by omega,by omega⟩ ⟨by omega,by omega⟩
 have hd:decide (((A5 k t l).length:Int) > (b.length:Int) - ((pre.length:Int)+((A7 ((A5 k t l).length:Int)).length:Int)) - 4)=false:=decide_eq_false (by omega)
 have hs:((A6S (A5a (A5 k t l))).toList==((A0M (A5 k t l)).extract (0:Int).toNat (4:Int).toNat).toList)=true:=by rw [dS];exact (B5e d6).2 rfl
 simp only [A6S] at hs
 have hend:(pre.length:Int)+((A7 ((A5 k t l).length:Int)).length:Int)+((A5 k t l).length:Int)+4=((pre.length+(O6 k t l).length:Nat):Int):=by simp only [O6,List.length_append,d5,Int.natCast_add];omega
 simp only [A1l,C2,B2,Y7,K6,g1,n1,w1,w2,w3,w4,hd,c1,c2,List.nil_append,gb,n2,n3,hs,Bool.not_true,cond_false]
 cases hk:(k==1) with
 | true =>
  have hO:=a7 (eq_of_beq hk)
  have eb:A5 k t l=(A7 k++A7 t)++A2T l:=by simp only [A5,hk,cond_true,List.append_assoc]
  have hpos:1≤(A2T l).length:=by simp [A2T,A7];omega
  have lb:=congrArg List.length eb
  rw [List.length_append] at lb
  have e1:decide (((A7 k++A7 t).length:Int)<(((A5 k t l).length:Nat):Int))=true:=decide_eq_true (by omega)
  have e2:((A5 k t l).drop ((A7 k++A7 t).length:Int).toNat).take ((((A5 k t l).length:Nat):Int).toNat - ((A7 k++A7 t).length:Int).toNat)=A2T l:=by
   rw [Int.toNat_natCast,Int.toNat_natCast]
   rw [show (A5 k t l).drop (A7 k++A7 t).length=A2T l by rw [eb,List.drop_left]]
   exact List.take_of_length_le (by omega)
  have g2:=(A9c (B6i hO) (by have:=B4L hO;omega)).1
  rw [B7I hO] at g2
  simp only [e1,cond_true,e2,g2,Bool.not_true,cond_false,h,hend]
 | false =>
  have hl0:l=[]:=a8 (by simpa using hk)
  have eb:A5 k t l=A7 k++A7 t:=by simp only [A5,hk,cond_false,List.append_nil]
  have e1:decide (((A7 k++A7 t).length:Int)<(((A5 k t l).length:Nat):Int))=false:=decide_eq_false (by rw [eb];omega)
  simp only [e1,cond_false,cond_true]
  subst hl0
  simp only [h,Bool.not_true,cond_false,hend]
theorem B4t {b:List Int} (hb:okB b) (hl:b.length≤1048576) (a:Int):A0l b a=true∧A0h b a=true∧((∃ k t l pre post,A1l b a=(k,t,l,((pre.length+(O6 k t l).length:Nat):Int),true)∧A1h b a=(k,t,((pre.length+(O6 k t l).length:Nat):Int),true,l)∧E5 k t l=true∧b=pre++(O6 k t l++post)∧a=(pre.length:Int))∨A1l b a=(0,0,[],a,false)∧A1h b a=(0,0,a,false,[])):=by
 obtain ⟨s1,s2⟩:=B59 hb hl a
 obtain ⟨i1,i2⟩:=B5J hb hl a
 refine ⟨s1,i1,?_⟩
 rcases s2 with ⟨k,t,l,pre,post,e1,e2,e3,rfl⟩ | e1
 ·exact .inl ⟨k,t,l,pre,post,e1,B4u e2 e3 hb hl,e2,e3,rfl⟩
 ·rcases i2 with ⟨k,t,l,pre,post,f1,f2,f3,rfl⟩ | f1
  ·rw [B46 f2 f3 hb hl] at e1
   simp at e1
  ·exact .inr ⟨e1,f1⟩
theorem A96 {k t:Int} {l:Lq1} (ho:E9 l=true):T4 k t l=true∧A3c k t l=cond (E5 k t l) (O6 k t l) []:=by
 have e1:A0j k t l=O5 k t l:=rfl
 have e2:A6N k t l=A0F k t l:=rfl
 cases h:E5 k t l with
 | false=>simp only [T4,A3c,F9,ho,← A07,h,Bool.not_false,cond_true,cond_false];exact ⟨rfl,trivial⟩
 | true =>
  obtain ⟨c1,c2⟩:=A2O h
  simp only [T4,A3c,F9,ho,e1,e2,← A07,h,c1,c2,Bool.not_true,cond_true,cond_false];exact ⟨rfl,trivial⟩
theorem C0g {s t:ByteArray} (h:(s.toList==t.toList)=true):s=t:=by
 rw [beq_iff_eq] at h
 have h3:=congrArg (fun l=>(⟨l.toArray⟩:ByteArray)) h
 have k:∀ s:ByteArray,(⟨s.toList.toArray⟩:ByteArray)=s:=fun s=>by rw [ByteArray.toList_eq]
 simpa only [k] using h3
theorem B47 {l m:Lq1} (h:l.length≤1048576):U4 l m=true∧(A2S l m=true→l=m):=by
 by_cases hn:l.length=m.length
 ·have hn0:((l.length:Int) != (m.length:Int))=false:=by rw [hn];simp
  have key:(N0 l m 0).1=0∧(N0 l m 0).2=false∨(N0 l m 0).1=1∧l=m:=by
   refine itX_inv (fun v:A0t=>∃ i:Nat,v=(l,m,(i:Int))∧i≤l.length∧l.take i=m.take i) (fun a:U8=>a.1=0∧a.2=false∨a.1=1∧l=m) (fun v=>l.length - v.2.2.toNat) ?_ ⟨0,rfl,Nat.zero_le _,rfl⟩ (by simp;omega)
   rintro v ⟨i,rfl,hi,ht⟩
   by_cases hlt:i<l.length
   ·have e1:decide ((i:Int)<(l.length:Int))=true:=decide_eq_true (by omega)
    have e2:decide (0≤(i:Int)∧(i:Int)<(l.length:Int))=true:=decide_eq_true (by omega)
    have e3:decide (0≤(i:Int)∧(i:Int)<(m.length:Int))=true:=decide_eq_true (by omega)
    simp only [A1n,e1,e2,e3,Int.toNat_natCast,cond_true,wrapU i (by omega)]
    cases hB:(((l.getD i ((0:Int),((⟨#[]⟩:ByteArray),(⟨#[]⟩:ByteArray)))).1==(m.getD i ((0:Int),((⟨#[]⟩:ByteArray),(⟨#[]⟩:ByteArray)))).1)&&(((l.getD i ((0:Int),((⟨#[]⟩:ByteArray),(⟨#[]⟩:ByteArray)))).2.1.toList==(m.getD i ((0:Int),((⟨#[]⟩:ByteArray),(⟨#[]⟩:ByteArray)))).2.1.toList)&&(((l.getD i ((0:Int),((⟨#[]⟩:ByteArray),(⟨#[]⟩:ByteArray)))).2.2.toList==(m.getD i ((0:Int),((⟨#[]⟩:ByteArray),(⟨#[]⟩:ByteArray)))).2.2.toList)&&true))) with
    | false=>exact .inr ⟨(0,false),rfl,.inl ⟨rfl,rfl⟩⟩
    | true =>
     refine .inl ⟨(l,m,((i+1:Nat):Int)),rfl,⟨i+1,rfl,by omega,?_⟩,by simp only [Int.toNat_natCast];omega⟩
     simp only [Bool.and_eq_true] at hB
     obtain ⟨h1,h2,h3,_⟩:=hB
     have he:l.getD i dOp=m.getD i dOp:=Prod.ext (eq_of_beq h1) (Prod.ext (C0g h2) (C0g h3))
     rw [A24 hlt dOp,A24 (show i<m.length by omega) dOp,ht,he]
   ·obtain rfl:i=l.length:=by omega
    have e1:decide ((l.length:Int)<(l.length:Int))=false:=decide_eq_false (by omega)
    simp only [A1n,e1,cond_false]
    refine .inr ⟨_,rfl,.inr ⟨rfl,?_⟩⟩
    rw [List.take_length,hn,List.take_length] at ht
    exact ht
  simp only [U4,A2S,hn0,cond_false]
  rcases key with ⟨k1,k2⟩ | ⟨k1,k2⟩
  ·simp only [k1,k2];exact ⟨rfl,fun h=>by cases h⟩
  ·simp only [k1];exact ⟨rfl,fun _=>k2⟩
 ·have hn0:((l.length:Int) != (m.length:Int))=true:=by rw [bne_iff_ne];omega
  simp only [U4,A2S,hn0,cond_true]
  exact ⟨trivial,fun h=>by cases h⟩
theorem B8J {x y:Nat} (hx:x<256) (hy:y<256) (h0:0<y):ixor .u8 (x:Int) (y:Int) ≠ (x:Int):=by
 unfold ixor
 rw [BitVec.toNat_xor,show IntKind.bits .u8=8 from rfl,bvn (k:=8) hx,bvn (k:=8) hy,B6c (by omega) (by have:=Nat.xor_lt_two_pow (n:=8) hx hy;omega)]
 intro h
 have h:x ^^^ y=x:=by omega
 have:y=0:=by
  have h2:x ^^^ (x ^^^ y)=y:=by rw [← Nat.xor_assoc,Nat.xor_self,Nat.zero_xor]
  rw [← h2,h,Nat.xor_self]
 omega
theorem C1b {t:Int} (h0:0≤t) (h1:t<8):∃ m:Nat,IntKind.wrap .u8 ((1:Int)*2 ^ (min (Int.toNat (IntKind.wrap .u64 t)) (IntKind.bits .u8)))=(m:Int)∧0<m∧m<256:=by
 have:t=0∨t=1∨t=2∨t=3∨t=4∨t=5∨t=6∨t=7:=by omega
 rcases this with rfl | rfl | rfl | rfl | rfl | rfl | rfl | rfl
 ·exact ⟨1,rfl,by decide,by decide⟩
 ·exact ⟨2,rfl,by decide,by decide⟩
 ·exact ⟨4,rfl,by decide,by decide⟩
 ·exact ⟨8,rfl,by decide,by decide⟩
 ·exact ⟨16,rfl,by decide,by decide⟩
 ·exact ⟨32,rfl,by decide,by decide⟩
 ·exact ⟨64,rfl,by decide,by decide⟩
 ·exact ⟨128,rfl,by decide,by decide⟩
theorem A94 {b:List Int} (h:bigT B5 b=true):Q9 b=true∧Y8 b=true:=by
 have hb:=B8f h
 cases hd:lbig b with
 | true=>simp only [Q9,Y8,hd,cond_true];exact ⟨trivial,trivial⟩
 | false =>
  have hl:b.length≤1048576:=by simp only [lbig] at hd;have:=of_decide_eq_false hd;omega
  obtain ⟨a1,a2,a3⟩:=B1G hb hl
  obtain ⟨t1,t2,_⟩:=B4x hb hl 2 (by decide)
  obtain ⟨t3,t4,_⟩:=B4x hb hl 3 (by decide)
  have t1:A5k b 2=true:=t1
  have t2:0≤lat b 2:=t2
  have t3:A5k b 3=true:=t3
  have t4:0≤lat b 3:=t4
  generalize hdr:O7 b=l at *
  cases l with
  | nil =>
   have n0:((([]:List C0b).length:Int)==0)=true:=rfl
   have hs0:E5 0 0 []=false:=rfl
   have hs1:E5 2 1 []=true:=rfl
   obtain ⟨p1,p2⟩:=A96 (k:=0) (t:=0) (l:=[]) rfl
   rw [hs0,cond_false] at p2
   have n1:((([]:List Int).length:Int)==0)=true:=rfl
   have o0:E9 []=true:=rfl
   simp only [Q9,Y8,hd,hdr,a1,n0,n1,p1,p2,F9,o0,← A07,hs0,hs1,cond_true,cond_false,Bool.not_false,Bool.and_self]
   exact ⟨trivial,trivial⟩
  | cons r l' =>
   have hr:=a2 r (by simp)
   obtain ⟨w1,w2,w3⟩:=B0K hr
   have ho:=(A0L hr).2.2.2.2.2.2
   obtain ⟨p1,p2⟩:=A96 (k:=r.1) (t:=r.2.1) ho
   rw [hr,cond_true] at p2
   have hg:(r::l').getD ((0:Int).toNat) ((0:Int),((0:Int),[]))=r:=rfl
   have k1:N4 b=O6 r.1 r.2.1 r.2.2:=by simp only [N4,hdr,hg,p2]
   obtain ⟨m,e8,m0,m8⟩:=C1b (t:=Int.tmod (lat b 3) 8) (Int.tmod_nonneg _ t4) (Int.tmod_lt_of_pos _ (by decide))
   have s0:=Int.tmod_nonneg (a:=lat b 3) 8 t4
   have s1:=Int.tmod_lt_of_pos (lat b 3) (show (0:Int)<8 by decide)
   have dS:decide (0≤(IntKind.wrap .u64 (Int.tmod (lat b 3) 8)))=true:=decide_eq_true (by rw [B0N (by omega) (by omega)];exact s0)
   generalize hB:O6 r.1 r.2.1 r.2.2=B at *
   have c0:=Int.tmod_nonneg (a:=lat b 2) (B.length:Int) t2
   have c1:=Int.tmod_lt_of_pos (lat b 2) (show (0:Int)<(B.length:Int) by omega)
   have d1:decide ((B.length:Int) ≠ 0)=true:=decide_eq_true (by omega)
   have d2:decide (0≤Int.tmod (lat b 2) (B.length:Int)∧Int.tmod (lat b 2) (B.length:Int)<(B.length:Int))=true:=decide_eq_true (by omega)
   have d3:((B.length:Int)==0)=false:=by rw [beq_eq_false_iff_ne];omega
   have d4:((((r::l').length:Nat):Int)==0)=false:=by rw [beq_eq_false_iff_ne,List.length_cons];omega
   have d5:decide (0≤(0:Int)∧(0:Int)<(((r::l').length:Nat):Int))=true:=decide_eq_true (by rw [List.length_cons];omega)
   have k2:H7 b=A1h (B.set (Int.tmod (lat b 2) (B.length:Int)).toNat (ixor .u8 (B.getD (Int.tmod (lat b 2) (B.length:Int)).toNat 0) (m:Int))) 0:=by simp only [H7,k1,e8]
   have k3:X9 b=A1l (B.set (Int.tmod (lat b 2) (B.length:Int)).toNat (ixor .u8 (B.getD (Int.tmod (lat b 2) (B.length:Int)).toNat 0) (m:Int))) 0:=by simp only [X9,k1,e8]
   have k4:A1k b=A5X (H7 b).1 (H7 b).2.1 (H7 b).2.2.2.2 r.1 r.2.1 r.2.2:=by simp only [A1k,hdr,hg]
   obtain ⟨x,hx⟩:=Int.eq_ofNat_of_zero_le (w1.getD (Int.tmod (lat b 2) (B.length:Int)).toNat).1
   have hx8:=(w1.getD (Int.tmod (lat b 2) (B.length:Int)).toNat).2
   have hne:ixor .u8 (B.getD (Int.tmod (lat b 2) (B.length:Int)).toNat 0) (m:Int) ≠ B.getD (Int.tmod (lat b 2) (B.length:Int)).toNat 0:=by
    rw [hx];exact B8J (by omega) m8 m0
   have hrg:0≤ixor .u8 (B.getD (Int.tmod (lat b 2) (B.length:Int)).toNat 0) (m:Int)∧ixor .u8 (B.getD (Int.tmod (lat b 2) (B.length:Int)).toNat 0) (m:Int)≤255:=B3S _
   have hB':okB (B.set (Int.tmod (lat b 2) (B.length:Int)).toNat (ixor .u8 (B.getD (Int.tmod (lat b 2) (B.length:Int)).toNat 0) (m:Int))):=B8y w1 _ hrg.1 hrg.2
   have hB2:B.set (Int.tmod (lat b 2) (B.length:Int)).toNat (ixor .u8 (B.getD (Int.tmod (lat b 2) (B.length:Int)).toNat 0) (m:Int)) ≠ B:=by
    intro e
    have hi:(Int.tmod (lat b 2) (B.length:Int)).toNat<B.length:=by omega
    have e2:=congrArg (fun z:List Int=>z.getD (Int.tmod (lat b 2) (B.length:Int)).toNat 0) e
    simp only [B7K hi] at e2
    exact hne e2
   obtain ⟨q1,q2,q3⟩:=B4t hB' (by rw [List.length_set];omega) 0
   have hlen:(B.set (Int.tmod (lat b 2) (B.length:Int)).toNat (ixor .u8 (B.getD (Int.tmod (lat b 2) (B.length:Int)).toNat 0) (m:Int))).length=B.length:=List.length_set ..
   simp only [Q9,Y8,hd,hdr,a1,d4,d5,hg,p1,k1,k4,k2,k3,e8,t1,t3,d1,d2,d3,dS,cond_false,cond_true,Bool.true_and]
   generalize B.set (Int.tmod (lat b 2) (B.length:Int)).toNat (ixor .u8 (B.getD (Int.tmod (lat b 2) (B.length:Int)).toNat 0) (m:Int))=C at *
   have e0:∀ x:Bool,(x==x)=true:=fun x=>by simp
   rcases q3 with ⟨k,t,l,pre,post,g1,g2,g3,g4,g5⟩ | ⟨g1,g2⟩
   ·have ol:=(A0L g3).2.2.2.2.2.2
    obtain ⟨v1,v2⟩:=B47 (l:=l) (m:=r.2.2) (A0g ol)
    have hpre:pre=[]:=List.eq_nil_of_length_eq_zero (by omega)
    have qs:Z1 k t l r.1 r.2.1 r.2.2=true:=by
     simp only [Z1,v1];cases (k==r.1)<;>cases (t==r.2.1)<;>rfl
    have hf:A5X k t l r.1 r.2.1 r.2.2=false:=by
     simp only [A5X]
     cases h1:(k==r.1) with
     | false=>rfl
     | true =>
      cases h2:(t==r.2.1) with
      | false=>rfl
      | true =>
       cases h3:A2S l r.2.2 with
       | false=>rfl
       | true =>
        exfalso
        have x1:=eq_of_beq h1;have x2:=eq_of_beq h2;have x3:=v2 h3
        subst hpre
        rw [x1,x2,x3,hB,List.nil_append] at g4
        have:=congrArg List.length g4
        rw [List.length_append,hlen] at this
        have hp:post=[]:=List.eq_nil_of_length_eq_zero (by omega)
        rw [hp,List.append_nil] at g4
        exact hB2 g4
    simp only [q1,q2,g1,g2,e0,qs,hf,cond_true,cond_false,Bool.not_true,Bool.not_false,Bool.and_self]
    exact ⟨trivial,trivial⟩
   ·simp only [q1,q2,g1,g2,e0,cond_true,Bool.not_false,Bool.and_self]
    exact ⟨trivial,trivial⟩
theorem A8T (b:List Int) (h:bigT B5 b=true):U3 (b,())=true:=(A94 h).1
theorem A9x (b:List Int) (h:bigT B5 b=true):Y8 b=true:=(A94 h).2

end Go.Proofs.Ytccelbeahdcooaa.Eng
