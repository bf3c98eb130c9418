/- What the functions that FnExactPutRec reaches compute: further. -/
import Derived.Test.YtccelbeahdcooaaFExactPutRecA
namespace Go.Proofs.Ytccelbeahdcooaa.Eng
open Go Go.RowKit
set_option linter.unusedSimpArgs false
set_option linter.unusedVariables false
set_option maxRecDepth 10000
abbrev B04:List PSh:=[]
noncomputable def irounds :List Int:=[(1116352408:Int),(1899447441:Int),(3049323471:Int),(3921009573:Int),(961987163:Int),(1508970993:Int),(2453635748:Int),(2870763221:Int),(3624381080:Int),(310598401:Int),(607225278:Int),(1426881987:Int),(1925078388:Int),(2162078206:Int),(2614888103:Int),(3248222580:Int),(3835390401:Int),(4022224774:Int),(264347078:Int),(604807628:Int),(770255983:Int),(1249150122:Int),(1555081692:Int),(1996064986:Int),(2554220882:Int),(2821834349:Int),(2952996808:Int),(3210313671:Int),(3336571891:Int),(3584528711:Int),(113926993:Int),(338241895:Int),(666307205:Int),(773529912:Int),(1294757372:Int),(1396182291:Int),(1695183700:Int),(1986661051:Int),(2177026350:Int),(2456956037:Int),(2730485921:Int),(2820302411:Int),(3259730800:Int),(3345764771:Int),(3516065817:Int),(3600352804:Int),(4094571909:Int),(275423344:Int),(430227734:Int),(506948616:Int),(659060556:Int),(883997877:Int),(958139571:Int),(1322822218:Int),(1537002063:Int),(1747873779:Int),(1955562222:Int),(2024104815:Int),(2227730452:Int),(2361852424:Int),(2428436474:Int),(2756734187:Int),(3204031479:Int),(3329325298:Int)]
noncomputable abbrev C15 (r:List Int):AV×List AObj:=((.ptr 0 0 1 0),[(.rows 176 true (.int .u32) r)])
noncomputable abbrev B53:E7 B04→AV×List AObj:=fun d=>C15 (irounds )
noncomputable abbrev B2P:E7 B04→Bool:=fun d=>true
theorem C0v:A7X true G36 aLn Try.f148 B04 B2P B53:=by
 rintro _ hp
 kernel_rfl
theorem C1U:aPP 148 (A2n B04 B2P B53):=pcD true G36 hlz C0v
noncomputable def S37:Tab:=Tab.add S36 148 (lift (A2n B04 B2P B53))
noncomputable def C4O:FuncId→Bool:=C4N
theorem G37:aPG S37 C4O:=G36.add C1U (cbl Try.f148) (by kernel_rfl)

theorem A9F (x:Int):0≤IntKind.wrap .u64 x:=by
 simp only [IntKind.wrap]
 exact Int.emod_nonneg _ (by decide)
abbrev K8:List PSh:=[.t (.int .u32),.t (.int .i64)]
noncomputable def I5 (a0 a1:Int):Int:=(ior .u32 (IntKind.wrap .u32 (a0*2 ^ (min (Int.toNat (iand .u64 (IntKind.wrap .u64 a1) (31:Int))) (IntKind.bits .u32)))) (Int.fdiv a0 (2 ^ (min (Int.toNat (IntKind.wrap .u64 ((32:Int) - (iand .u64 (IntKind.wrap .u64 a1) (31:Int))))) (IntKind.bits .u32)))))
noncomputable abbrev Z7 (r:Int):AV×List AObj:=((.t true (.int .u32) r),[])
noncomputable abbrev Q1:E7 K8→AV×List AObj:=fun d=>Z7 (I5 d.1 d.2.1)
noncomputable abbrev O9:E7 K8→Bool:=fun d=>true
theorem B0e:A7X true G37 aLn Try.f171 K8 O9 Q1:=by
 rintro ⟨(a0:Int),⟨(a1:Int),_⟩⟩ hp
 refine Eq.trans (b:=(cond (decide (0≤(iand .u64 (IntKind.wrap .u64 a1) (31:Int)))) (cond (decide (0≤(IntKind.wrap .u64 ((32:Int) - (iand .u64 (IntKind.wrap .u64 a1) (31:Int)))))) (some (Z7 (ior .u32 (IntKind.wrap .u32 (a0*2 ^ (min (Int.toNat (iand .u64 (IntKind.wrap .u64 a1) (31:Int))) (IntKind.bits .u32)))) (Int.fdiv a0 (2 ^ (min (Int.toNat (IntKind.wrap .u64 ((32:Int) - (iand .u64 (IntKind.wrap .u64 a1) (31:Int))))) (IntKind.bits .u32))))))) none) none)) (by kernel_rfl) ?_
 exact (A70 (decide_eq_true (A9F _)) (fun _h=>(A70 (decide_eq_true (A9F _)) (fun _h=>rfl))))
theorem B0C:aPP 171 (A2n K8 O9 Q1):=pcD true G37 hlz B0e
noncomputable def S38:Tab:=Tab.add S37 171 (lift (A2n K8 O9 Q1))
noncomputable def C4P:FuncId→Bool:=qadd C4O 171
theorem G38:aPG S38 C4P:=G37.addQ B0C (cbl Try.f171) (fun _=>rfl)

abbrev C4j:List Sh:=.junk::.junk::.junk::.junk::.junk::.junk::.junk::.junk::.junk::.junk::.junk::.junk::.junk::.junk::.junk::.junk::.junk::.junk::.junk::.junk::.junk::.junk::.junk::.junk::.junk::.junk::C5r
abbrev C5s:List Sh:=.junk::.junk::.junk::.junk::.junk::.junk::.junk::C4j
abbrev u82:=((),(),(),(),(),(),(),(),(),(),(),(),(),(),(),(),(),(),(),(),(),u61)
abbrev u93:=((),(),(),(),(),(),(),(),(),(),(),u82)
abbrev C4e:List AV:=.junk::.junk::.junk::.junk::.junk::.junk::.junk::.junk::.junk::.junk::.junk::.junk::.junk::.junk::.junk::.junk::.junk::.junk::.junk::.junk::.junk::.junk::.junk::.junk::.junk::.junk::C5g
abbrev C5h:List AV:=.junk::.junk::.junk::.junk::.junk::.junk::.junk::C4e
abbrev C6r:List Sh:=.junk::.junk::.junk::.junk::.junk::C4j
abbrev u87:=((),(),(),(),(),u82)
abbrev C6k:List AV:=.junk::.junk::.junk::.junk::.junk::C4e
abbrev A9L:List PSh:=[.t P1]
noncomputable def A9b:Code:=((D8 0 (A2d Try.f170)).getD 0 (0,.skip)).2
noncomputable def A9c:Code:=((D8 0 (A2d Try.f170)).getD 1 (0,.skip)).2
abbrev P3:SS:=⟨(.t false P1::.junk::.junk::.ptr 0 0 1 0::.junk::.junk::.junk::.junk::.junk::.junk::tI::C4j),[.rows 176 true (.int .u32)]⟩
abbrev B2i:SS:=⟨(.junk::.junk::.junk::.ptr 0 0 1 0::C5s),[.rows 176 true (.int .u32)]⟩
noncomputable def B4h (x0:List Int) (x10:Int) (h0:List Int):RT P3.den:=let z1:=wI ((4:Int)*x10);let z2:=wI (z1+(1:Int));let z3:=wI (z1+(2:Int));let z4:=wI (z1+(3:Int));(.br (decide (x10<(16:Int))) (.br (decide (0≤z1∧z1<(x0.length:Int))) (.br (decide (0≤z2∧z2<(x0.length:Int))) (.br (decide (0≤z3∧z3<(x0.length:Int))) (.br (decide (0≤z4∧z4<(x0.length:Int))) (.br (decide (0≤x10∧x10<((64:Nat):Int)∧x10<(h0.length:Int))) (.next ((x0,(),(),(),(),(),(),(),(),(),wI (x10+(1:Int)),u82),(h0.set x10.toNat (ior .u32 (ior .u32 (ior .u32 (IntKind.wrap .u32 ((IntKind.wrap .u32 (x0.getD (z1.toNat) (0:Int)))*2 ^ (24))) (IntKind.wrap .u32 ((IntKind.wrap .u32 (x0.getD (z2.toNat) (0:Int)))*2 ^ (16)))) (IntKind.wrap .u32 ((IntKind.wrap .u32 (x0.getD (z3.toNat) (0:Int)))*2 ^ (8)))) (IntKind.wrap .u32 (x0.getD (z4.toNat) (0:Int)))),()))) .fail) .fail) .fail) .fail) .fail) (.done (.exit 0) B2i ((u93),(h0,()))))
abbrev T8:=(List Int)×(Int)×(List Int)
abbrev T4:=Nat×(List Int)
def V0:T4:=(99,([]:List Int))
noncomputable def Q5 (x0:List Int) (x10:Int) (h0:List Int):T8 ⊕ T4:=let z1:=wI ((4:Int)*x10);let z2:=wI (z1+(1:Int));let z3:=wI (z1+(2:Int));let z4:=wI (z1+(3:Int));(cond (decide (x10<(16:Int))) (cond (decide (0≤z1∧z1<(x0.length:Int))) (cond (decide (0≤z2∧z2<(x0.length:Int))) (cond (decide (0≤z3∧z3<(x0.length:Int))) (cond (decide (0≤z4∧z4<(x0.length:Int))) (cond (decide (0≤x10∧x10<((64:Nat):Int)∧x10<(h0.length:Int))) (.inl (x0,wI (x10+(1:Int)),h0.set x10.toNat (ior .u32 (ior .u32 (ior .u32 (IntKind.wrap .u32 ((IntKind.wrap .u32 (x0.getD (z1.toNat) (0:Int)))*2 ^ (24))) (IntKind.wrap .u32 ((IntKind.wrap .u32 (x0.getD (z2.toNat) (0:Int)))*2 ^ (16)))) (IntKind.wrap .u32 ((IntKind.wrap .u32 (x0.getD (z3.toNat) (0:Int)))*2 ^ (8)))) (IntKind.wrap .u32 (x0.getD (z4.toNat) (0:Int)))))) (.inr V0)) (.inr V0)) (.inr V0)) (.inr V0)) (.inr V0)) (.inr (0,h0)))
noncomputable def Q2 (x0:List Int) (x10:Int) (h0:List Int):T4:=itX (fun v:T8=>Q5 v.1 v.2.1 v.2.2) V0 (x0,x10,h0)
noncomputable def B0D (a:T4):CT:=(.br (a.1==0) (.done (.exit 0) B2i ((u93),(a.2,()))) .fail)
noncomputable def B8T (x0:List Int) (x10:Int) (h0:List Int):CT:=B0D (Q2 x0 x10 h0)
noncomputable abbrev B0Q:P3.den→RT P3.den:=(fun d=>B4h d.1.1 d.1.2.2.2.2.2.2.2.2.2.2.1 d.2.1)
noncomputable abbrev B3Z (v:T8):P3.den:=((v.1,(),(),(),(),(),(),(),(),(),v.2.1,u82),(v.2.2,()))
theorem B8o:(∀ v:T8,(B4h v.1 v.2.1 v.2.2).val=A62 B3Z B0D (Q5 v.1 v.2.1 v.2.2))∧∀ a:T4,CEnd P3.den (B0D a):=⟨fun v=>by repeat' first | apply A72 | rfl,fun a=>(A7R aCD A7T)⟩
noncomputable def B3Q (x0:List Int) (x10:Int) (h0:List Int):Option (Ex×St):=let z1:=wI ((4:Int)*x10);let z2:=wI (z1+(1:Int));let z3:=wI (z1+(2:Int));let z4:=wI (z1+(3:Int));(cond (decide (x10<(16:Int))) (cond (decide (0≤z1∧z1<(x0.length:Int))) (cond (decide (0≤z2∧z2<(x0.length:Int))) (cond (decide (0≤z3∧z3<(x0.length:Int))) (cond (decide (0≤z4∧z4<(x0.length:Int))) (cond (decide (0≤x10∧x10<((64:Nat):Int)∧x10<(h0.length:Int))) (some (.normal,(⟨((.t false P1 x0)::.junk::.junk::(.ptr 0 0 1 0)::.junk::.junk::.junk::.junk::.junk::.junk::(ti (wI (x10+(1:Int))))::C4e),[(.rows 176 true (.int .u32) (h0.set x10.toNat (ior .u32 (ior .u32 (ior .u32 (IntKind.wrap .u32 ((IntKind.wrap .u32 (x0.getD (z1.toNat) (0:Int)))*2 ^ (24))) (IntKind.wrap .u32 ((IntKind.wrap .u32 (x0.getD (z2.toNat) (0:Int)))*2 ^ (16)))) (IntKind.wrap .u32 ((IntKind.wrap .u32 (x0.getD (z3.toNat) (0:Int)))*2 ^ (8)))) (IntKind.wrap .u32 (x0.getD (z4.toNat) (0:Int))))))],0,[]⟩:St))) none) none) none) none) none) (some ((.exit 0),(⟨(.junk::.junk::.junk::(.ptr 0 0 1 0)::C5h),[(.rows 176 true (.int .u32) h0)],0,[]⟩:St))))
theorem B7y:RdA G38 aLn 0 A9b P3 0 [] (kepts [] [(0,[3])]) (fun d=>B3Q d.1.1 d.1.2.2.2.2.2.2.2.2.2.2.1 d.2.1):=by
 intro d
 kernel_rfl
theorem B7G:∀ d:P3.den,(fun d=>B3Q d.1.1 d.1.2.2.2.2.2.2.2.2.2.2.1 d.2.1) d=(B0Q d).opt 0 []:=by
 intro d
 kernel_rfl
noncomputable abbrev B22:St→Option Tree:=P3.say 0 [] [] (fun d=>B8T d.1.1 d.1.2.2.2.2.2.2.2.2.2.2.1 d.2.1)
theorem B7Y:aPL B22 A9b:=SS.wp2 hlz [] B0Q B7y B7G _ (fun d=>Runs.ofI2 (step:=B0Q) B3Z B8o rfl (d.1.1,d.1.2.2.2.2.2.2.2.2.2.2.1,d.2.1))
abbrev P4:SS:=⟨(.junk::.junk::.junk::.ptr 0 0 1 0::.junk::tI::C6r),[.rows 176 true (.int .u32)]⟩
abbrev B2j:SS:=⟨(.junk::.junk::.junk::.ptr 0 0 1 0::C5s),[.rows 176 true (.int .u32)]⟩
noncomputable def B0p (x5:Int) (h0:List Int):=I5 (h0.getD ((wI (x5 - (15:Int))).toNat) (0:Int)) (-7:Int)
noncomputable def B0q (x5:Int) (h0:List Int):=I5 (h0.getD ((wI (x5 - (15:Int))).toNat) (0:Int)) (-18:Int)
noncomputable def B0r (x5:Int) (h0:List Int):=I5 (h0.getD ((wI (x5 - (2:Int))).toNat) (0:Int)) (-17:Int)
noncomputable def B0s (x5:Int) (h0:List Int):=I5 (h0.getD ((wI (x5 - (2:Int))).toNat) (0:Int)) (-19:Int)
noncomputable def B4i (x5:Int) (h0:List Int):RT P4.den:=let z1:=wI (x5 - (15:Int));let z2:=wI (x5 - (16:Int));let z3:=wI (x5 - (2:Int));let z4:=wI (x5 - (7:Int));(.br (decide (x5<(64:Int))) (.br (decide (0≤z1∧z1<((64:Nat):Int)∧z1<(h0.length:Int))) (.br (decide (0≤z3∧z3<((64:Nat):Int)∧z3<(h0.length:Int))) (.br (decide (0≤z2∧z2<((64:Nat):Int)∧z2<(h0.length:Int))) (.br (decide (0≤z4∧z4<((64:Nat):Int)∧z4<(h0.length:Int))) (.br (decide (0≤x5∧x5<((64:Nat):Int)∧x5<(h0.length:Int))) (.next (((),(),(),(),(),wI (x5+(1:Int)),u87),(h0.set x5.toNat (IntKind.wrap .u32 ((IntKind.wrap .u32 ((IntKind.wrap .u32 ((h0.getD (z2.toNat) (0:Int))+(ixor .u32 (ixor .u32 (B0p x5 h0) (B0q x5 h0)) (Int.fdiv (h0.getD (z1.toNat) (0:Int)) (2 ^ (3))))))+(h0.getD (z4.toNat) (0:Int))))+(ixor .u32 (ixor .u32 (B0r x5 h0) (B0s x5 h0)) (Int.fdiv (h0.getD (z3.toNat) (0:Int)) (2 ^ (10)))))),()))) .fail) .fail) .fail) .fail) .fail) (.done (.exit 2) B2j ((u93),(h0,()))))
abbrev T9:=(Int)×(List Int)
abbrev T5:=Nat×(List Int)
def V1:T5:=(99,([]:List Int))
noncomputable def Q6 (x5:Int) (h0:List Int):T9 ⊕ T5:=let z1:=wI (x5 - (15:Int));let z2:=wI (x5 - (16:Int));let z3:=wI (x5 - (2:Int));let z4:=wI (x5 - (7:Int));(cond (decide (x5<(64:Int))) (cond (decide (0≤z1∧z1<((64:Nat):Int)∧z1<(h0.length:Int))) (cond (decide (0≤z3∧z3<((64:Nat):Int)∧z3<(h0.length:Int))) (cond (decide (0≤z2∧z2<((64:Nat):Int)∧z2<(h0.length:Int))) (cond (decide (0≤z4∧z4<((64:Nat):Int)∧z4<(h0.length:Int))) (cond (decide (0≤x5∧x5<((64:Nat):Int)∧x5<(h0.length:Int))) (.inl (wI (x5+(1:Int)),h0.set x5.toNat (IntKind.wrap .u32 ((IntKind.wrap .u32 ((IntKind.wrap .u32 ((h0.getD (z2.toNat) (0:Int))+(ixor .u32 (ixor .u32 (B0p x5 h0) (B0q x5 h0)) (Int.fdiv (h0.getD (z1.toNat) (0:Int)) (2 ^ (3))))))+(h0.getD (z4.toNat) (0:Int))))+(ixor .u32 (ixor .u32 (B0r x5 h0) (B0s x5 h0)) (Int.fdiv (h0.getD (z3.toNat) (0:Int)) (2 ^ (10)))))))) (.inr V1)) (.inr V1)) (.inr V1)) (.inr V1)) (.inr V1)) (.inr (0,h0)))
noncomputable def Q3 (x5:Int) (h0:List Int):T5:=itX (fun v:T9=>Q6 v.1 v.2) V1 (x5,h0)
noncomputable def B0E (a:T5):CT:=(.br (a.1==0) (.done (.exit 2) B2j ((u93),(a.2,()))) .fail)
noncomputable def B8U (x5:Int) (h0:List Int):CT:=B0E (Q3 x5 h0)
noncomputable abbrev B0R:P4.den→RT P4.den:=(fun d=>B4i d.1.2.2.2.2.2.1 d.2.1)
noncomputable abbrev B30 (v:T9):P4.den:=(((),(),(),(),(),v.1,u87),(v.2,()))
theorem B8p:(∀ v:T9,(B4i v.1 v.2).val=A62 B30 B0E (Q6 v.1 v.2))∧∀ a:T5,CEnd P4.den (B0E a):=⟨fun v=>by repeat' first | apply A72 | rfl,fun a=>(A7R aCD A7T)⟩
noncomputable def B3R (x5:Int) (h0:List Int):Option (Ex×St):=let z1:=wI (x5 - (15:Int));let z2:=wI (x5 - (16:Int));let z3:=wI (x5 - (2:Int));let z4:=wI (x5 - (7:Int));(cond (decide (x5<(64:Int))) (cond (decide (0≤z1∧z1<((64:Nat):Int)∧z1<(h0.length:Int))) (cond (decide (0≤z3∧z3<((64:Nat):Int)∧z3<(h0.length:Int))) (cond (decide (0≤z2∧z2<((64:Nat):Int)∧z2<(h0.length:Int))) (cond (decide (0≤z4∧z4<((64:Nat):Int)∧z4<(h0.length:Int))) (cond (decide (0≤x5∧x5<((64:Nat):Int)∧x5<(h0.length:Int))) (some (.normal,(⟨(.junk::.junk::.junk::(.ptr 0 0 1 0)::.junk::(ti (wI (x5+(1:Int))))::C6k),[(.rows 176 true (.int .u32) (h0.set x5.toNat (IntKind.wrap .u32 ((IntKind.wrap .u32 ((IntKind.wrap .u32 ((h0.getD (z2.toNat) (0:Int))+(ixor .u32 (ixor .u32 (B0p x5 h0) (B0q x5 h0)) (Int.fdiv (h0.getD (z1.toNat) (0:Int)) (2 ^ (3))))))+(h0.getD (z4.toNat) (0:Int))))+(ixor .u32 (ixor .u32 (B0r x5 h0) (B0s x5 h0)) (Int.fdiv (h0.getD (z3.toNat) (0:Int)) (2 ^ (10))))))))],0,[]⟩:St))) none) none) none) none) none) (some ((.exit 2),(⟨(.junk::.junk::.junk::(.ptr 0 0 1 0)::C5h),[(.rows 176 true (.int .u32) h0)],0,[]⟩:St))))
theorem B7z:RdA G38 aLn 2 A9c P4 0 [] (kepts [] [(2,[3])]) (fun d=>B3R d.1.2.2.2.2.2.1 d.2.1):=by
 intro d
 kernel_rfl
theorem B7H:∀ d:P4.den,(fun d=>B3R d.1.2.2.2.2.2.1 d.2.1) d=(B0R d).opt 0 []:=by
 intro d
 kernel_rfl
noncomputable abbrev B23:St→Option Tree:=P4.say 0 [] [] (fun d=>B8U d.1.2.2.2.2.2.1 d.2.1)
theorem B7Z:aPL B23 A9c:=SS.wp2 hlz [] B0R B7z B7H _ (fun d=>Runs.ofI2 (step:=B0R) B30 B8p rfl (d.1.2.2.2.2.2.1,d.2.1))
noncomputable def A98 (a0:List Int):List Int:=((Q3 (16:Int) ((Q2 a0 (0:Int) (List.replicate 64 (0:Int))).2)).2)
noncomputable abbrev B64 (r:List Int):AV×List AObj:=((.ptr 0 0 1 0),[(.rows 176 true (.int .u32) r)])
noncomputable abbrev B4p:E7 A9L→AV×List AObj:=fun d=>B64 (A98 d.1)
noncomputable def A0l (a0:List Int):Bool:=let z1:=Q2 a0 (0:Int) (List.replicate 64 (0:Int));(z1.1==0)&&((Q3 (16:Int) (z1.2)).1==0)
noncomputable abbrev B1O:E7 A9L→Bool:=fun d=>A0l d.1
noncomputable abbrev C0H:Nat→St→Option Tree:=fun b=>match b with | 0=>B22 | 2=>B23 | _=>fun _=>none
theorem B9H:A7X true G38 (C0H) Try.f170 A9L B1O B4p:=by
 rintro ⟨a0,_⟩ hp
 change A0l a0=true at hp
 unfold A0l at hp
 refine Eq.trans (b:=(let z1:=Q2 a0 (0:Int) (List.replicate 64 (0:Int));let z2:=Q3 (16:Int) (z1.2);cond (z1.1==0) (cond (z2.1==0) (some (B64 (z2.2))) none) none)) (by kernel_rfl) ?_
 exact (A7Y hp fun hp=>(A70 hp fun _h=>rfl))
theorem C0W:aPP 170 (A2n A9L B1O B4p):=pcD true G38 (by
  rw [show D8 0 (A2d Try.f170)=[(0,A9b),(2,A9c)] by kernel_rfl];intro p hp;simp only [List.mem_cons,List.mem_nil_iff,or_false] at hp
  rcases hp with rfl | rfl
  ·exact B7Y
  ·exact B7Z) B9H
noncomputable def S39:Tab:=Tab.add S38 170 (lift (A2n A9L B1O B4p))
noncomputable def C4Q:FuncId→Bool:=C4P
theorem G39:aPG S39 C4Q:=G38.add C0W (cbl Try.f170) (by kernel_rfl)

abbrev C3Y:List Sh:=.junk::.junk::.junk::.junk::C24
abbrev C3Z:List Sh:=.junk::.junk::.junk::.junk::.junk::.junk::.junk::.junk::.junk::.junk::.junk::.junk::.junk::.junk::.junk::C3Y
abbrev C3Q:=((),(),(),(),(),(),(),(),(),(),(),(),(),(),(),(),(),(),(),(),(),(),(),B9P)
abbrev C3U:List AV:=.junk::.junk::.junk::.junk::C20
abbrev C3V:List AV:=.junk::.junk::.junk::.junk::.junk::.junk::.junk::.junk::.junk::.junk::.junk::.junk::.junk::.junk::.junk::C3U
abbrev C5l:List Sh:=.junk::.junk::.junk::.junk::.junk::.junk::.junk::C3Z
abbrev u15:=((),(),u13)
abbrev C6f:List AV:=.junk::.junk::.junk::.junk::.junk::.junk::.junk::.junk::.junk::.junk::.junk::.junk::.junk::.junk::[]
abbrev C5a:List AV:=.junk::.junk::.junk::.junk::.junk::.junk::.junk::C3V
abbrev A8E:SS:=⟨[.ptr 0 0 1 0,.t false P1,.ptr 1 0 1 0],[.rows 158 true (.int .u32),.rows 176 true (.int .u32)]⟩
noncomputable def A8d:Code:=((D8 0 (A2d Try.f151)).getD 0 (0,.skip)).2
noncomputable def A8e:Code:=((D8 0 (A2d Try.f151)).getD 1 (0,.skip)).2
abbrev L4:SS:=⟨(.ptr 0 0 1 0::.junk::.ptr 1 0 1 0::.junk::.junk::.junk::.ptr 2 0 1 0::.ptr 3 0 1 0::.junk::.junk::.junk::.junk::.junk::.junk::.junk::.junk::.junk::.junk::.junk::.junk::.junk::.junk::tI::C3Y),[.rows 158 true (.int .u32),.rows 176 true (.int .u32),.rows 176 true (.int .u32),.rows 158 true (.int .u32)]⟩
abbrev B0Y:SS:=⟨(.ptr 0 0 1 0::.junk::.junk::.junk::.junk::.junk::.junk::.ptr 2 0 1 0::C3Z),[.rows 158 true (.int .u32),.rows 176 true (.int .u32),.rows 158 true (.int .u32)]⟩
noncomputable def B2e (x22:Int) (h0 h1 h2 h3:List Int):RT L4.den:=let z1:=h3.getD ((4:Int).toNat) (0:Int);let z2:=decide (0≤(1:Int)∧(1:Int)<((8:Nat):Int)∧(1:Int)<(h3.length:Int));let z3:=decide (0≤(2:Int)∧(2:Int)<((8:Nat):Int)∧(2:Int)<(h3.length:Int));let z4:=h3.getD ((0:Int).toNat) (0:Int);let z5:=decide (0≤(5:Int)∧(5:Int)<((8:Nat):Int)∧(5:Int)<(h3.length:Int));let z6:=decide (0≤(6:Int)∧(6:Int)<((8:Nat):Int)∧(6:Int)<(h3.length:Int));let z7:=I5 z1 (-11:Int);let z8:=I5 z1 (-25:Int);let z9:=I5 z1 (-6:Int);let z10:=h3.getD ((7:Int).toNat) (0:Int);let z11:=h3.getD ((5:Int).toNat) (0:Int);let z12:=h3.getD ((6:Int).toNat) (0:Int);let z13:=h3.getD ((1:Int).toNat) (0:Int);let z14:=h3.getD ((2:Int).toNat) (0:Int);let z15:=h1.getD x22.toNat (0:Int);let z16:=h2.getD x22.toNat (0:Int);(.br (decide (x22<(64:Int))) (.br (decide (0≤(0:Int)∧(0:Int)<((8:Nat):Int)∧(0:Int)<(h3.length:Int))) (.br (decide (0≤(4:Int)∧(4:Int)<((8:Nat):Int)∧(4:Int)<(h3.length:Int))) (.br z5 (.br z6 (.br (decide (0≤(7:Int)∧(7:Int)<((8:Nat):Int)∧(7:Int)<(h3.length:Int))) (.br (decide (0≤x22∧x22<((64:Nat):Int)∧x22<(h1.length:Int))) (.br (decide (0≤x22∧x22<((64:Nat):Int)∧x22<(h2.length:Int))) (.br z2 (.br z3 (.br z2 (.br z3 (.br z2 (.br z3 (.br (decide (0≤(3:Int)∧(3:Int)<((8:Nat):Int)∧(3:Int)<(h3.length:Int))) (.br z5 (.br z6 (.br (decide (h3.length=8)) (.next (((),(),(),(),(),(),(),(),(),(),(),(),(),(),(),(),(),(),(),(),(),(),wI (x22+(1:Int)),B9P),(h0,h1,h2,[IntKind.wrap .u32 ((IntKind.wrap .u32 ((IntKind.wrap .u32 ((IntKind.wrap .u32 ((IntKind.wrap .u32 ((IntKind.wrap .u32 (z10+(ixor .u32 (ixor .u32 z9 z7) z8)))+(ixor .u32 (iand .u32 z1 z11) (iand .u32 (ixor .u32 (4294967295) z1) z12))))+z15))+z16))+(ixor .u32 (ixor .u32 (I5 z4 (-2:Int)) (I5 z4 (-13:Int))) (I5 z4 (-22:Int)))))+(ixor .u32 (ixor .u32 (iand .u32 z4 z13) (iand .u32 z4 z14)) (iand .u32 z13 z14))),h3.getD ((0:Int).toNat) (0:Int),h3.getD ((1:Int).toNat) (0:Int),h3.getD ((2:Int).toNat) (0:Int),IntKind.wrap .u32 ((h3.getD ((3:Int).toNat) (0:Int))+(IntKind.wrap .u32 ((IntKind.wrap .u32 ((IntKind.wrap .u32 ((IntKind.wrap .u32 (z10+(ixor .u32 (ixor .u32 z9 z7) z8)))+(ixor .u32 (iand .u32 z1 z11) (iand .u32 (ixor .u32 (4294967295) z1) z12))))+z15))+z16))),h3.getD ((4:Int).toNat) (0:Int),h3.getD ((5:Int).toNat) (0:Int),h3.getD ((6:Int).toNat) (0:Int)],()))) .fail) .fail) .fail) .fail) .fail) .fail) .fail) .fail) .fail) .fail) .fail) .fail) .fail) .fail) .fail) .fail) .fail) (.done (.exit 0) B0Y ((C3Q),(h0,h1,h3,()))))
abbrev O6:=(Int)×(List Int)×(List Int)×(List Int)×(List Int)
abbrev O2:=Nat×(List Int)×(List Int)×(List Int)
def I9:O2:=(99,([]:List Int),([]:List Int),([]:List Int))
noncomputable def N0 (x22:Int) (h0 h1 h2 h3:List Int):O6 ⊕ O2:=let z1:=h3.getD ((4:Int).toNat) (0:Int);let z2:=decide (0≤(1:Int)∧(1:Int)<((8:Nat):Int)∧(1:Int)<(h3.length:Int));let z3:=decide (0≤(2:Int)∧(2:Int)<((8:Nat):Int)∧(2:Int)<(h3.length:Int));let z4:=h3.getD ((0:Int).toNat) (0:Int);let z5:=decide (0≤(5:Int)∧(5:Int)<((8:Nat):Int)∧(5:Int)<(h3.length:Int));let z6:=decide (0≤(6:Int)∧(6:Int)<((8:Nat):Int)∧(6:Int)<(h3.length:Int));let z7:=I5 z1 (-11:Int);let z8:=I5 z1 (-25:Int);let z9:=I5 z1 (-6:Int);let z10:=h3.getD ((7:Int).toNat) (0:Int);let z11:=h3.getD ((5:Int).toNat) (0:Int);let z12:=h3.getD ((6:Int).toNat) (0:Int);let z13:=h3.getD ((1:Int).toNat) (0:Int);let z14:=h3.getD ((2:Int).toNat) (0:Int);let z15:=h1.getD x22.toNat (0:Int);let z16:=h2.getD x22.toNat (0:Int);(cond (decide (x22<(64:Int))) (cond (decide (0≤(0:Int)∧(0:Int)<((8:Nat):Int)∧(0:Int)<(h3.length:Int))) (cond (decide (0≤(4:Int)∧(4:Int)<((8:Nat):Int)∧(4:Int)<(h3.length:Int))) (cond z5 (cond z6 (cond (decide (0≤(7:Int)∧(7:Int)<((8:Nat):Int)∧(7:Int)<(h3.length:Int))) (cond (decide (0≤x22∧x22<((64:Nat):Int)∧x22<(h1.length:Int))) (cond (decide (0≤x22∧x22<((64:Nat):Int)∧x22<(h2.length:Int))) (cond z2 (cond z3 (cond z2 (cond z3 (cond z2 (cond z3 (cond (decide (0≤(3:Int)∧(3:Int)<((8:Nat):Int)∧(3:Int)<(h3.length:Int))) (cond z5 (cond z6 (cond (decide (h3.length=8)) (.inl (wI (x22+(1:Int)),h0,h1,h2,[IntKind.wrap .u32 ((IntKind.wrap .u32 ((IntKind.wrap .u32 ((IntKind.wrap .u32 ((IntKind.wrap .u32 ((IntKind.wrap .u32 (z10+(ixor .u32 (ixor .u32 z9 z7) z8)))+(ixor .u32 (iand .u32 z1 z11) (iand .u32 (ixor .u32 (4294967295) z1) z12))))+z15))+z16))+(ixor .u32 (ixor .u32 (I5 z4 (-2:Int)) (I5 z4 (-13:Int))) (I5 z4 (-22:Int)))))+(ixor .u32 (ixor .u32 (iand .u32 z4 z13) (iand .u32 z4 z14)) (iand .u32 z13 z14))),h3.getD ((0:Int).toNat) (0:Int),h3.getD ((1:Int).toNat) (0:Int),h3.getD ((2:Int).toNat) (0:Int),IntKind.wrap .u32 ((h3.getD ((3:Int).toNat) (0:Int))+(IntKind.wrap .u32 ((IntKind.wrap .u32 ((IntKind.wrap .u32 ((IntKind.wrap .u32 (z10+(ixor .u32 (ixor .u32 z9 z7) z8)))+(ixor .u32 (iand .u32 z1 z11) (iand .u32 (ixor .u32 (4294967295) z1) z12))))+z15))+z16))),h3.getD ((4:Int).toNat) (0:Int),h3.getD ((5:Int).toNat) (0:Int),h3.getD ((6:Int).toNat) (0:Int)])) (.inr I9)) (.inr I9)) (.inr I9)) (.inr I9)) (.inr I9)) (.inr I9)) (.inr I9)) (.inr I9)) (.inr I9)) (.inr I9)) (.inr I9)) (.inr I9)) (.inr I9)) (.inr I9)) (.inr I9)) (.inr I9)) (.inr I9)) (.inr (0,h0,h1,h3)))
noncomputable def J4 (x22:Int) (h0 h1 h2 h3:List Int):O2:=itX (fun v:O6=>N0 v.1 v.2.1 v.2.2.1 v.2.2.2.1 v.2.2.2.2) I9 (x22,h0,h1,h2,h3)
noncomputable def A9i (a:O2):CT:=(.br (a.1==0) (.done (.exit 0) B0Y ((C3Q),(a.2.1,a.2.2.1,a.2.2.2,()))) .fail)
noncomputable def B6Y (x22:Int) (h0 h1 h2 h3:List Int):CT:=A9i (J4 x22 h0 h1 h2 h3)
noncomputable abbrev Z9 {α:Sort _} (f:Int→(List Int)→(List Int)→(List Int)→(List Int)→α) (d:L4.den):α:=f d.1.2.2.2.2.2.2.2.2.2.2.2.2.2.2.2.2.2.2.2.2.2.2.1 d.2.1 d.2.2.1 d.2.2.2.1 d.2.2.2.2.1
noncomputable abbrev A9l:L4.den→RT L4.den:=(Z9 B2e)
noncomputable abbrev B2b (v:O6):L4.den:=(((),(),(),(),(),(),(),(),(),(),(),(),(),(),(),(),(),(),(),(),(),(),v.1,B9P),(v.2.1,v.2.2.1,v.2.2.2.1,v.2.2.2.2,()))
theorem B6O:(∀ v:O6,(B2e v.1 v.2.1 v.2.2.1 v.2.2.2.1 v.2.2.2.2).val=A62 B2b A9i (N0 v.1 v.2.1 v.2.2.1 v.2.2.2.1 v.2.2.2.2))∧∀ a:O2,CEnd L4.den (A9i a):=⟨fun v=>by repeat' first | apply A72 | rfl,fun a=>(A7R aCD A7T)⟩
noncomputable def B16 (x22:Int) (h0 h1 h2 h3:List Int):Option (Ex×St):=let z1:=h3.getD ((4:Int).toNat) (0:Int);let z2:=decide (0≤(1:Int)∧(1:Int)<((8:Nat):Int)∧(1:Int)<(h3.length:Int));let z3:=decide (0≤(2:Int)∧(2:Int)<((8:Nat):Int)∧(2:Int)<(h3.length:Int));let z4:=h3.getD ((0:Int).toNat) (0:Int);let z5:=decide (0≤(5:Int)∧(5:Int)<((8:Nat):Int)∧(5:Int)<(h3.length:Int));let z6:=decide (0≤(6:Int)∧(6:Int)<((8:Nat):Int)∧(6:Int)<(h3.length:Int));let z7:=I5 z1 (-11:Int);let z8:=I5 z1 (-25:Int);let z9:=I5 z1 (-6:Int);let z10:=h3.getD ((7:Int).toNat) (0:Int);let z11:=h3.getD ((5:Int).toNat) (0:Int);let z12:=h3.getD ((6:Int).toNat) (0:Int);let z13:=h3.getD ((1:Int).toNat) (0:Int);let z14:=h3.getD ((2:Int).toNat) (0:Int);let z15:=h1.getD x22.toNat (0:Int);let z16:=h2.getD x22.toNat (0:Int);(cond (decide (x22<(64:Int))) (cond (decide (0≤(0:Int)∧(0:Int)<((8:Nat):Int)∧(0:Int)<(h3.length:Int))) (cond (decide (0≤(4:Int)∧(4:Int)<((8:Nat):Int)∧(4:Int)<(h3.length:Int))) (cond z5 (cond z6 (cond (decide (0≤(7:Int)∧(7:Int)<((8:Nat):Int)∧(7:Int)<(h3.length:Int))) (cond (decide (0≤x22∧x22<((64:Nat):Int)∧x22<(h1.length:Int))) (cond (decide (0≤x22∧x22<((64:Nat):Int)∧x22<(h2.length:Int))) (cond z2 (cond z3 (cond z2 (cond z3 (cond z2 (cond z3 (cond (decide (0≤(3:Int)∧(3:Int)<((8:Nat):Int)∧(3:Int)<(h3.length:Int))) (cond z5 (cond z6 (cond (decide (h3.length=8)) (some (.normal,(⟨((.ptr 0 0 1 0)::.junk::(.ptr 1 0 1 0)::.junk::.junk::.junk::(.ptr 2 0 1 0)::(.ptr 3 0 1 0)::.junk::.junk::.junk::.junk::.junk::.junk::.junk::.junk::.junk::.junk::.junk::.junk::.junk::.junk::(ti (wI (x22+(1:Int))))::C3U),[(.rows 158 true (.int .u32) h0),(.rows 176 true (.int .u32) h1),(.rows 176 true (.int .u32) h2),(.rows 158 true (.int .u32) [IntKind.wrap .u32 ((IntKind.wrap .u32 ((IntKind.wrap .u32 ((IntKind.wrap .u32 ((IntKind.wrap .u32 ((IntKind.wrap .u32 (z10+(ixor .u32 (ixor .u32 z9 z7) z8)))+(ixor .u32 (iand .u32 z1 z11) (iand .u32 (ixor .u32 (4294967295) z1) z12))))+z15))+z16))+(ixor .u32 (ixor .u32 (I5 z4 (-2:Int)) (I5 z4 (-13:Int))) (I5 z4 (-22:Int)))))+(ixor .u32 (ixor .u32 (iand .u32 z4 z13) (iand .u32 z4 z14)) (iand .u32 z13 z14))),h3.getD ((0:Int).toNat) (0:Int),h3.getD ((1:Int).toNat) (0:Int),h3.getD ((2:Int).toNat) (0:Int),IntKind.wrap .u32 ((h3.getD ((3:Int).toNat) (0:Int))+(IntKind.wrap .u32 ((IntKind.wrap .u32 ((IntKind.wrap .u32 ((IntKind.wrap .u32 (z10+(ixor .u32 (ixor .u32 z9 z7) z8)))+(ixor .u32 (iand .u32 z1 z11) (iand .u32 (ixor .u32 (4294967295) z1) z12))))+z15))+z16))),h3.getD ((4:Int).toNat) (0:Int),h3.getD ((5:Int).toNat) (0:Int),h3.getD ((6:Int).toNat) (0:Int)])],2,[]⟩:St))) none) none) none) none) none) none) none) none) none) none) none) none) none) none) none) none) none) (some ((.exit 0),(⟨((.ptr 0 0 1 0)::.junk::.junk::.junk::.junk::.junk::.junk::(.ptr 2 0 1 0)::C3V),[(.rows 158 true (.int .u32) h0),(.rows 176 true (.int .u32) h1),(.rows 158 true (.int .u32) h3)],2,[]⟩:St))))
theorem B6k:RdA G39 aLn 0 A8d L4 2 [] (kepts [] [(0,[0,7])]) (Z9 B16):=by
 intro d
 kernel_rfl
theorem B6o:∀ d:L4.den,(Z9 B16) d=(A9l d).opt 2 []:=by
 intro d
 kernel_rfl
noncomputable abbrev B1k:St→Option Tree:=L4.say 2 [] [] (Z9 B6Y)
theorem B6I:aPL B1k A8d:=SS.wp2 hlz [] A9l B6k B6o _ (fun d=>Runs.ofI2 (step:=A9l) B2b B6O rfl (d.1.2.2.2.2.2.2.2.2.2.2.2.2.2.2.2.2.2.2.2.2.2.2.1,d.2.1,d.2.2.1,d.2.2.2.1,d.2.2.2.2.1))
abbrev L5:SS:=⟨(.ptr 0 0 1 0::.junk::.junk::.junk::.junk::.junk::.junk::.ptr 2 0 1 0::.junk::.junk::.junk::.junk::.junk::.junk::.junk::.junk::.junk::.junk::.junk::.junk::.junk::.junk::.junk::.junk::.junk::.junk::.junk::.junk::.junk::.junk::.junk::.junk::.junk::.junk::.junk::.junk::.junk::.junk::.junk::.junk::.junk::.junk::.junk::.junk::.junk::.junk::.junk::.junk::.junk::.junk::.junk::.junk::.junk::.junk::.junk::.junk::.junk::.junk::.junk::.junk::.junk::.junk::.junk::.junk::.junk::.junk::.junk::.junk::.junk::.junk::.junk::.junk::.junk::.junk::.junk::.junk::.junk::.junk::.junk::.junk::.junk::.junk::.junk::.junk::.junk::.junk::.junk::.junk::.junk::.junk::.junk::.junk::.junk::.junk::.junk::.junk::.junk::.junk::.junk::.junk::.junk::.junk::.junk::.junk::.junk::.junk::.junk::.junk::.junk::tI::C3z),[.rows 158 true (.int .u32),.rows 176 true (.int .u32),.rows 158 true (.int .u32)]⟩
abbrev B0Z:SS:=⟨(.junk::C5l),[.rows 158 true (.int .u32),.rows 176 true (.int .u32)]⟩
noncomputable def B2f (x109:Int) (h0 h1 h2:List Int):RT L5.den:=let z1:=decide (0≤x109∧x109<((8:Nat):Int)∧x109<(h0.length:Int));(.br (decide (x109<(8:Int))) (.br z1 (.br (decide (0≤x109∧x109<((8:Nat):Int)∧x109<(h2.length:Int))) (.br z1 (.next (((),(),(),(),(),(),(),(),(),(),(),(),(),(),(),(),(),(),(),(),(),(),(),(),(),(),(),(),(),(),(),(),(),(),(),(),(),(),(),(),(),(),(),(),(),(),(),(),(),(),(),(),(),(),(),(),(),(),(),(),(),(),(),(),(),(),(),(),(),(),(),(),(),(),(),(),(),(),(),(),(),(),(),(),(),(),(),(),(),(),(),(),(),(),(),(),(),(),(),(),(),(),(),(),(),(),(),(),(),wI (x109+(1:Int)),u15),(h0.set x109.toNat (IntKind.wrap .u32 ((h0.getD x109.toNat (0:Int))+(h2.getD x109.toNat (0:Int)))),h1,h2,()))) .fail) .fail) .fail) (.done (.exit 2) B0Z ((C3Q),(h0,h1,()))))
abbrev O7:=(Int)×(List Int)×(List Int)×(List Int)
abbrev O3:=Nat×(List Int)×(List Int)
def A0b:O3:=(99,([]:List Int),([]:List Int))
noncomputable def N2 (x109:Int) (h0 h1 h2:List Int):O7 ⊕ O3:=let z1:=decide (0≤x109∧x109<((8:Nat):Int)∧x109<(h0.length:Int));(cond (decide (x109<(8:Int))) (cond z1 (cond (decide (0≤x109∧x109<((8:Nat):Int)∧x109<(h2.length:Int))) (cond z1 (.inl (wI (x109+(1:Int)),h0.set x109.toNat (IntKind.wrap .u32 ((h0.getD x109.toNat (0:Int))+(h2.getD x109.toNat (0:Int)))),h1,h2)) (.inr A0b)) (.inr A0b)) (.inr A0b)) (.inr (0,h0,h1)))
noncomputable def K3 (x109:Int) (h0 h1 h2:List Int):O3:=itX (fun v:O7=>N2 v.1 v.2.1 v.2.2.1 v.2.2.2) A0b (x109,h0,h1,h2)
noncomputable def A9j (a:O3):CT:=(.br (a.1==0) (.done (.exit 2) B0Z ((C3Q),(a.2.1,a.2.2,()))) .fail)
noncomputable def B6Z (x109:Int) (h0 h1 h2:List Int):CT:=A9j (K3 x109 h0 h1 h2)
noncomputable abbrev A0a {α:Sort _} (f:Int→(List Int)→(List Int)→(List Int)→α) (d:L5.den):α:=f d.1.2.2.2.2.2.2.2.2.2.2.2.2.2.2.2.2.2.2.2.2.2.2.2.2.2.2.2.2.2.2.2.2.2.2.2.2.2.2.2.2.2.2.2.2.2.2.2.2.2.2.2.2.2.2.2.2.2.2.2.2.2.2.2.2.2.2.2.2.2.2.2.2.2.2.2.2.2.2.2.2.2.2.2.2.2.2.2.2.2.2.2.2.2.2.2.2.2.2.2.2.2.2.2.2.2.2.2.2.2.1 d.2.1 d.2.2.1 d.2.2.2.1
noncomputable abbrev A9m:L5.den→RT L5.den:=(A0a B2f)
noncomputable abbrev B2c (v:O7):L5.den:=(((),(),(),(),(),(),(),(),(),(),(),(),(),(),(),(),(),(),(),(),(),(),(),(),(),(),(),(),(),(),(),(),(),(),(),(),(),(),(),(),(),(),(),(),(),(),(),(),(),(),(),(),(),(),(),(),(),(),(),(),(),(),(),(),(),(),(),(),(),(),(),(),(),(),(),(),(),(),(),(),(),(),(),(),(),(),(),(),(),(),(),(),(),(),(),(),(),(),(),(),(),(),(),(),(),(),(),(),(),v.1,u15),(v.2.1,v.2.2.1,v.2.2.2,()))
theorem B6P:(∀ v:O7,(B2f v.1 v.2.1 v.2.2.1 v.2.2.2).val=A62 B2c A9j (N2 v.1 v.2.1 v.2.2.1 v.2.2.2))∧∀ a:O3,CEnd L5.den (A9j a):=⟨fun v=>(A72 (A72 (A72 (A72 rfl rfl) rfl) rfl) rfl),fun a=>(A7R aCD A7T)⟩
noncomputable def B17 (x109:Int) (h0 h1 h2:List Int):Option (Ex×St):=let z1:=decide (0≤x109∧x109<((8:Nat):Int)∧x109<(h0.length:Int));(cond (decide (x109<(8:Int))) (cond z1 (cond (decide (0≤x109∧x109<((8:Nat):Int)∧x109<(h2.length:Int))) (cond z1 (some (.normal,(⟨((.ptr 0 0 1 0)::.junk::.junk::.junk::.junk::.junk::.junk::(.ptr 2 0 1 0)::.junk::.junk::.junk::.junk::.junk::.junk::.junk::.junk::.junk::.junk::.junk::.junk::.junk::.junk::.junk::.junk::.junk::.junk::.junk::.junk::.junk::.junk::.junk::.junk::.junk::.junk::.junk::.junk::.junk::.junk::.junk::.junk::.junk::.junk::.junk::.junk::.junk::.junk::.junk::.junk::.junk::.junk::.junk::.junk::.junk::.junk::.junk::.junk::.junk::.junk::.junk::.junk::.junk::.junk::.junk::.junk::.junk::.junk::.junk::.junk::.junk::.junk::.junk::.junk::.junk::.junk::.junk::.junk::.junk::.junk::.junk::.junk::.junk::.junk::.junk::.junk::.junk::.junk::.junk::.junk::.junk::.junk::.junk::.junk::.junk::.junk::.junk::.junk::.junk::.junk::.junk::.junk::.junk::.junk::.junk::.junk::.junk::.junk::.junk::.junk::.junk::(ti (wI (x109+(1:Int))))::C6f),[(.rows 158 true (.int .u32) (h0.set x109.toNat (IntKind.wrap .u32 ((h0.getD x109.toNat (0:Int))+(h2.getD x109.toNat (0:Int)))))),(.rows 176 true (.int .u32) h1),(.rows 158 true (.int .u32) h2)],2,[]⟩:St))) none) none) none) (some ((.exit 2),(⟨(.junk::C5a),[(.rows 158 true (.int .u32) h0),(.rows 176 true (.int .u32) h1)],2,[]⟩:St))))
theorem B6l:RdA G39 aLn 2 A8e L5 2 [] (kepts [] [(2,[])]) (A0a B17):=by
 intro d
 kernel_rfl
theorem B6p:∀ d:L5.den,(A0a B17) d=(A9m d).opt 2 []:=by
 intro d
 kernel_rfl
noncomputable abbrev B1l:St→Option Tree:=L5.say 2 [] [] (A0a B6Z)
theorem B6J:aPL B1l A8e:=SS.wp2 hlz [] A9m B6l B6p _ (fun d=>Runs.ofI2 (step:=A9m) B2c B6P rfl (d.1.2.2.2.2.2.2.2.2.2.2.2.2.2.2.2.2.2.2.2.2.2.2.2.2.2.2.2.2.2.2.2.2.2.2.2.2.2.2.2.2.2.2.2.2.2.2.2.2.2.2.2.2.2.2.2.2.2.2.2.2.2.2.2.2.2.2.2.2.2.2.2.2.2.2.2.2.2.2.2.2.2.2.2.2.2.2.2.2.2.2.2.2.2.2.2.2.2.2.2.2.2.2.2.2.2.2.2.2.2.1,d.2.1,d.2.2.1,d.2.2.2.1))
noncomputable def J6 (x1 h0 h1:List Int):=J4 (0:Int) h0 h1 (A98 x1) [h0.getD 0 0,h0.getD 1 0,h0.getD 2 0,h0.getD 3 0,h0.getD 4 0,h0.getD 5 0,h0.getD 6 0,h0.getD 7 0]
noncomputable def A8K (x1 h0 h1:List Int):=let z1:=J6 x1 h0 h1;K3 (0:Int) (z1.2.1) (z1.2.2.1) (z1.2.2.2)
noncomputable def K5 (x1 h0 h1:List Int):(List Int)×List Int:=let z1:=A8K x1 h0 h1;((z1.2.1),(z1.2.2))
noncomputable abbrev B41 (r:(List Int)×List Int):AV×List AObj×List Nat:=((.tup []),[(.rows 158 true (.int .u32) r.1),(.rows 176 true (.int .u32) r.2)],[])
noncomputable abbrev B48:A8E.den→AV×List AObj×List Nat:=fun d=>B41 (K5 d.1.2.1 d.2.1 d.2.2.1)
noncomputable def Y9 (x1 h0 h1:List Int):Bool:=(A0l x1)&&((decide (h0.length=8))&&((decide ([(0:Int),(0:Int),(0:Int),(0:Int),(0:Int),(0:Int),(0:Int),(0:Int)].length=8))&&(((J6 x1 h0 h1).1==0)&&((A8K x1 h0 h1).1==0))))
noncomputable abbrev B2Q:A8E.den→Bool:=fun d=>Y9 d.1.2.1 d.2.1 d.2.2.1
noncomputable abbrev B8N:Nat→St→Option Tree:=fun b=>match b with | 0=>B1k | 2=>B1l | _=>fun _=>none
theorem B7Q:A7W G39 (B8N) Try.f151 A8E B2Q B48:=by
 rintro ⟨⟨_,x1,_,_⟩,⟨h0,h1,_⟩⟩ hp
 change Y9 x1 h0 h1=true at hp
 unfold Y9 at hp
 refine Eq.trans (b:=(let z1:=A8K x1 h0 h1;cond (A0l x1) (cond (decide (h0.length=8)) (cond (decide ([(0:Int),(0:Int),(0:Int),(0:Int),(0:Int),(0:Int),(0:Int),(0:Int)].length=8)) (cond ((J6 x1 h0 h1).1==0) (cond (z1.1==0) (some (B41 ((z1.2.1),(z1.2.2)))) none) none) none) none) none)) (by kernel_rfl) ?_
 exact (A7Y hp fun hp=>(A7Y hp fun hp=>(A7Y hp fun hp=>(A7Y hp fun hp=>(A70 hp fun _h=>rfl)))))
noncomputable abbrev B5b:=win A0B (msum A8E B2Q B48)
theorem B81:aPM 151 B5b:=(mcM G39 (by
  rw [show D8 0 (A2d Try.f151)=[(0,A8d),(2,A8e)] by kernel_rfl];intro p hp;simp only [List.mem_cons,List.mem_nil_iff,or_false] at hp
  rcases hp with rfl | rfl
  ·exact B6I
  ·exact B6J) B7Q).win A0B
noncomputable def S40:Tab:=Tab.add S39 151 (B5b)
noncomputable def B8Q:FuncId→Bool:=C4Q
theorem G40:aPG S40 B8Q:=G39.addM B81 (A7y _) (cbl Try.f151) (by kernel_rfl)

theorem U5 (n:Int) (h1:0≤n) (h2:n<9223372036854775808):wI n=n:=A7v (by omega) h2
theorem C2q (c l:List Int) (hc:c.length=64) (hl:l.length=64):(Q2 c 0 l).1=0∧(Q2 c 0 l).2.length=64:=by
 refine A7I (v:=(c,(0:Int),l)) (fun v:T8=>v.1=c∧(0≤v.2.1∧v.2.1≤16)∧v.2.2.length=64) (fun a:T4=>a.1=0∧a.2.length=64) (fun v:T8=>(16 - v.2.1).toNat) ?_ ⟨rfl,⟨by simp only;omega,by simp only;omega⟩,hl⟩ (by simp only;decide)
 rintro ⟨c', i,m⟩ ⟨h1,h2,h3⟩
 simp only at h1 h2 h3
 subst h1
 by_cases hi:i<16
 ·obtain ⟨m', e, hm⟩ : ∃ m' : List Int, Q5 c' i m = .inl (c', i + 1, m') ∧ m'.length = 64 := by
   apply Exists.intro
   constructor
   ·simp only [Q5,U5 (4*i) (by omega) (by omega),U5 (4*i+1) (by omega) (by omega),U5 (4*i+2) (by omega) (by omega),U5 (4*i+3) (by omega) (by omega),U5 (i+1) (by omega) (by omega),decide_eq_true hi,cond_true]
    rw [decide_eq_true (by omega),decide_eq_true (by omega),decide_eq_true (by omega),decide_eq_true (by omega),decide_eq_true (by omega)]
    rfl
   ·simp only [List.length_set];exact h3
  exact .inl ⟨(c', i+1,m'),e,⟨rfl,by simp only;omega,hm⟩,by simp only;omega⟩
 ·refine .inr ⟨(0,m),?_,rfl,h3⟩
  simp only [Q5,decide_eq_false hi,cond_false]
theorem C2r (l:List Int) (hl:l.length=64):(Q3 16 l).1=0∧(Q3 16 l).2.length=64:=by
 refine A7I (v:=((16:Int),l)) (fun v:T9=>(16≤v.1∧v.1≤64)∧v.2.length=64) (fun a:T5=>a.1=0∧a.2.length=64) (fun v:T9=>(64 - v.1).toNat) ?_ ⟨⟨by simp only;omega,by simp only;omega⟩,hl⟩ (by simp only;decide)
 rintro ⟨i,m⟩ ⟨h2,h3⟩
 simp only at h2 h3
 by_cases hi:i<64
 ·obtain ⟨m', e, hm⟩ : ∃ m' : List Int, Q6 i m = .inl (i + 1, m') ∧ m'.length = 64 := by
   apply Exists.intro
   constructor
   ·simp only [Q6,U5 (i - 15) (by omega) (by omega),U5 (i - 2) (by omega) (by omega),U5 (i - 16) (by omega) (by omega),U5 (i - 7) (by omega) (by omega),U5 (i+1) (by omega) (by omega),decide_eq_true hi,cond_true]
    rw [decide_eq_true (by omega),decide_eq_true (by omega),decide_eq_true (by omega),decide_eq_true (by omega),decide_eq_true (by omega)]
    rfl
   ·simp only [List.length_set];exact h3
  exact .inl ⟨(i+1,m'),e,⟨by simp only;omega,hm⟩,by simp only;omega⟩
 ·refine .inr ⟨(0,m),?_,rfl,h3⟩
  simp only [Q6,decide_eq_false hi,cond_false]
theorem C3h (c:List Int) (hc:c.length=64):A0l c=true∧(A98 c).length=64:=by
 obtain ⟨a1,a2⟩:=C2q c (List.replicate 64 0) hc (by simp)
 obtain ⟨b1,b2⟩:=C2r _ a2
 exact ⟨by simp only [A0l,a1,b1];rfl,b2⟩
theorem C0E (h k ws v:List Int) (hk:k.length=64) (hw:ws.length=64) (hv:v.length=8):(J4 0 h k ws v).1=0∧(J4 0 h k ws v).2.1=h∧(J4 0 h k ws v).2.2.1=k∧(J4 0 h k ws v).2.2.2.length=8:=by
 refine A7I (v:=((0:Int),h,k,ws,v)) (fun x:O6=>(0≤x.1∧x.1≤64)∧x.2.1=h∧x.2.2.1=k∧x.2.2.2.1=ws∧x.2.2.2.2.length=8) (fun a:O2=>a.1=0∧a.2.1=h∧a.2.2.1=k∧a.2.2.2.length=8) (fun x:O6=>(64 - x.1).toNat) ?_ ⟨⟨by simp only;omega,by simp only;omega⟩,rfl,rfl,rfl,hv⟩ (by simp only;decide)
 rintro ⟨i,h', k', ws', v'⟩ ⟨h2,h3,h4,h5,h6⟩
 simp only at h2 h3 h4 h5 h6
 subst h3;subst h4;subst h5
 by_cases hi:i<64
 ·obtain ⟨m', e, hm⟩ : ∃ m' : List Int, N0 i h' k' ws' v' = .inl (i + 1, h', k', ws', m') ∧ m'.length = 8 := by
   apply Exists.intro
   constructor
   ·simp only [N0,U5 (i+1) (by omega) (by omega),decide_eq_true hi,cond_true,h6,hk,hw]
    rw [show decide (0≤i∧i<((64:Nat):Int)∧i<((64:Nat):Int))=true from decide_eq_true (by omega)]
    rfl
   ·rfl
  exact .inl ⟨(i+1,h', k', ws', m'),e,⟨by simp only;omega,rfl,rfl,rfl,hm⟩,by simp only;omega⟩
 ·refine .inr ⟨(0,h', k', v'),?_,rfl,rfl,rfl,h6⟩
  simp only [N0,decide_eq_false hi,cond_false]
theorem C3f (h k v:List Int) (hh:h.length=8) (hv:v.length=8):(K3 0 h k v).1=0∧(K3 0 h k v).2.1.length=8∧(K3 0 h k v).2.2=k:=by
 refine A7I (v:=((0:Int),h,k,v)) (fun x:O7=>(0≤x.1∧x.1≤8)∧x.2.1.length=8∧x.2.2.1=k∧x.2.2.2.length=8) (fun a:O3=>a.1=0∧a.2.1.length=8∧a.2.2=k) (fun x:O7=>(8 - x.1).toNat) ?_ ⟨⟨by simp only;omega,by simp only;omega⟩,hh,rfl,hv⟩ (by simp only;decide)
 rintro ⟨i,h', k', v'⟩ ⟨h2,h3,h4,h6⟩
 simp only at h2 h3 h4 h6
 subst h4
 by_cases hi:i<8
 ·obtain ⟨m', e, hm⟩ : ∃ m' : List Int, N2 i h' k' v' = .inl (i + 1, m', k', v') ∧ m'.length = 8 := by
   apply Exists.intro
   constructor
   ·simp only [N2,U5 (i+1) (by omega) (by omega),decide_eq_true hi,cond_true,h6,h3]
    rw [show decide (0≤i∧i<((8:Nat):Int)∧i<((8:Nat):Int))=true from decide_eq_true (by omega)]
    rfl
   ·simp only [List.length_set];exact h3
  exact .inl ⟨(i+1,m', k', v'),e,⟨by simp only;omega,hm,rfl,h6⟩,by simp only;omega⟩
 ·refine .inr ⟨(0,h', k'),?_,rfl,h3,rfl⟩
  simp only [N2,decide_eq_false hi,cond_false]
theorem B9O (c h:List Int) (hc:c.length=64) (hh:h.length=8):Y9 c h irounds=true∧(K5 c h irounds).1.length=8∧(K5 c h irounds).2=irounds:=by
 obtain ⟨q,hw⟩:=C3h c hc
 obtain ⟨a1,a2,a3,a4⟩:=C0E h irounds (A98 c) [h.getD 0 0,h.getD 1 0,h.getD 2 0,h.getD 3 0,h.getD 4 0,h.getD 5 0,h.getD 6 0,h.getD 7 0] rfl hw rfl
 have e:J6 c h irounds=J4 0 h irounds (A98 c) [h.getD 0 0,h.getD 1 0,h.getD 2 0,h.getD 3 0,h.getD 4 0,h.getD 5 0,h.getD 6 0,h.getD 7 0]:=rfl
 rw [← e] at a1 a2 a3 a4
 obtain ⟨b1,b2,b3⟩:=C3f (J6 c h irounds).2.1 (J6 c h irounds).2.2.1 (J6 c h irounds).2.2.2 (by rw [a2];exact hh) a4
 refine ⟨?_,b2,b3.trans a3⟩
 have e2:(A8K c h irounds).1=0:=b1
 simp only [Y9,q,a1,e2,decide_eq_true hh,Bool.true_and,beq_self_eq_true,Bool.and_true]
 rfl
attribute [local go_sem] Oper.semAt_some
noncomputable def cupto {m:Nat} (k:Nat) (hk:k≤m):List (Fin m):=(List.range k).attach.map fun i=>⟨i.1,by have:=List.mem_range.1 i.2;omega⟩
theorem A8f {m:Nat} (k:Nat) (hk:k≤m):(cupto k hk).length=k:=by simp [cupto]
theorem C03 {m:Nat} (k:Nat) (hk:k+1≤m):cupto (k+1) hk=cupto k (by omega)++[(⟨k,by omega⟩:Fin m)]:=by
 apply List.ext_getElem
 ·simp [A8f]
 ·intro i h1 h2
  simp only [A8f] at h1
  rcases Nat.lt_or_ge i k with h | h
  ·rw [List.getElem_append_left (by rw [A8f];exact h)];simp [cupto]
  ·have e:i=k:=by omega
   subst e
   rw [List.getElem_append_right (by rw [A8f];omega)];simp [cupto]
set_option maxRecDepth 100000 in
set_option maxHeartbeats 2000000 in
theorem C2M (F:Fence) (n:Nat) (h168:F.fn 168) (hro:F.round=none) (hn:1≤n) (l Bs Bn m cap:Nat) (ad:Addr) (hcap:64*m≤cap) (hm:m≤1000000000000) (J Jx:List (Fin m)→World→Prop)
  (hY:∀ pre x W,J pre W→pre.length<m→YieldAt F (n - 1) Try.prog l #[.slice (some (ad.add (64*x.1))) 64 64] W fun e W' =>
   (e=.returned (.bool true)∧J (pre++[x]) W'∧(W'.cell? ⟨Bs,0,none⟩=W.cell? ⟨Bs,0,none⟩∧W'.cell? ⟨Bn,0,none⟩=W.cell? ⟨Bn,0,none⟩))∨(e=.returned (.bool false)∧Jx (pre++[x]) W'))
  (W:World) (hJ:AbidesFrom W.heap.size J) (hBs:W.cell? ⟨Bs,0,none⟩=some (.slice (some ad) (64*m) cap)) (hBn:W.cell? ⟨Bn,0,none⟩=some (.int .i64 64)) (h0:J [] W) :
  CallsIn F n Try.prog 168 #[.func (.yield l) #[] #[],.pointer (some ⟨Bs,0,none⟩),.pointer (some ⟨Bn,0,none⟩)] W fun e W'=>(∃ v,e=.returned v) ∧
   ((∃ xs,xs=cupto (m:=m) m (Nat.le_refl _)∧J xs W')∨(∃ pre,True∧Jx pre W')):=by
 refine callsIn_of_wp Try.func168 rfl h168 ?_ hro
 simp only [Try.ntmps168,List.size_toArray,List.length_cons,List.length_nil,Nat.reduceAdd,Nat.reduceSub,Array.replicate_succ,Array.replicate_zero,List.push_toArray,List.append_toArray,List.nil_append,List.cons_append]
 gi_wp2
 gi_loopw [4] (fun i wr=>∃ k:Nat,∃ hk:k≤m,i=.int .i64 ((64*k:Nat):Int)∧J (cupto k hk) wr∧wr.cell? ⟨Bs,0,none⟩=some (.slice (some ad) (64*m) cap)∧wr.cell? ⟨Bn,0,none⟩=some (.int .i64 64))
  (fun i _=>64*m - (intOf i).toNat)
 case atStart=>exact ⟨0,Nat.zero_le _,rfl,h0,hBs,hBn⟩
 case round =>
  obtain ⟨k,hk,rfl,hJs,hs,hnn⟩:=hrel
  by_cases hlt:k<m
  ·have hc1:((64*k:Nat):Int)<((64*m:Nat):Int):=by omega
   have hc2:(0:Int)≤((64*k:Nat):Int):=by omega
   gi_wp2
   have hc3:((64*k:Nat):Int)≤((64*m:Nat):Int):=by omega
   have hc4:64*k≤64*m:=by omega
   have hc5:¬ cap=64*k:=by omega
   have hmin:¬ ((64*m - 64*k:Nat):Int)<64:=by omega
   have hJ2:J (cupto k hk) wr.drew:=hJ _ _ _ none hJs ⟨rfl,rfl,rfl,Nat.le_refl _,fun _ _ _=>rfl⟩ (fun r e=>by cases e)
   obtain ⟨fn,tmps,assign,body,hy,hR⟩:=hY _ ⟨k,hlt⟩ wr.drew hJ2 (by rw [A8f];exact hlt)
   dsimp only at hy
   have e1:wI (64*(k:Int)+64)=64*(k:Int)+64:=by rw [A7v (by omega) (by omega)]
   have e2:(0:Int)≤64*(k:Int)+64:=by omega
   have e3:64*(k:Int)+64≤(cap:Int):=by omega
   gi_region
   all_goals (rw [if_neg (show ¬ ((64*m - 64*k:Nat):Int)<64 by omega)])
   all_goals (gi_wp2)
   all_goals (
    refine hR.mono ?_
    rintro e W3 (⟨rfl,hJ3,hk1,hk2⟩ | ⟨rfl,hJx3⟩)
    ·gi_wp2
     go_roundw
     case rel=>exact ⟨k+1,by omega,by congr 1,by rw [C03];exact hJ3,hk1.trans hs,hk2.trans hnn⟩
     case measure=>simp [intOf];omega
    ·gi_wp2
     refine bodyPost_ret (results_none rfl _ _ _) rfl ?_
     exact ⟨⟨_,rfl⟩,.inr ⟨_,trivial,hJx3⟩⟩)
  ·obtain rfl:k=m:=by omega
   gi_wp2
   go_end0
   exact ⟨⟨_,rfl⟩,.inl ⟨_,rfl,hJs⟩⟩
theorem B94 (n:Nat) (hn:1≤n) (Bs Bn m cap:Nat) (ad:Addr) (hcap:64*m≤cap) (hm:m≤1000000000000) (w:World) (hBs:w.cell? ⟨Bs,0,none⟩=some (.slice (some ad) (64*m) cap)) (hBn:w.cell? ⟨Bn,0,none⟩=some (.int .i64 64)) (hs:Bs<w.heap.size) (hnn:Bn<w.heap.size) :
  SeqStopsK Fence.wide n Try.prog 168 #[.pointer (some ⟨Bs,0,none⟩),.pointer (some ⟨Bn,0,none⟩)] (fun x:Fin m=>#[Value.slice (some (ad.add (64*x.1))) 64 64]) (fun A B=>B.cell? ⟨Bs,0,none⟩=A.cell? ⟨Bs,0,none⟩∧B.cell? ⟨Bn,0,none⟩=A.cell? ⟨Bn,0,none⟩) (fun xs=>xs=cupto m (Nat.le_refl _)) (fun _=>True) m w :=
 fun l J Jx W hW hJ _ hY h0=>C2M Fence.wide n trivial rfl hn l Bs Bn m cap ad hcap hm J Jx hY W hJ ((hW.cell (p:=⟨Bs,0,none⟩) hs).trans hBs) ((hW.cell (p:=⟨Bn,0,none⟩) hnn).trans hBn) h0

noncomputable def sqL:Code→Code
 | .seq x _=>x
 | c=>c
noncomputable def sqR:Code→Code
 | .seq _ y=>y
 | c=>c
noncomputable def C45:Code→Code
 | .block _ x=>x
 | c=>c
noncomputable def rfA:Code→Code
 | .rangeFunc _ _ a _=>a
 | c=>c
noncomputable def rfB:Code→Code
 | .rangeFunc _ _ _ b=>b
 | c=>c
noncomputable def C29:Code→Array Oper
 | .region _ o _=>o
 | _=>#[]
noncomputable def dc0:Code:=sqL (A2d Try.f115)
noncomputable def dc1:Code:=sqL (sqR (A2d Try.f115))
noncomputable def dc2:Code:=sqL (sqR (sqR (A2d Try.f115)))
noncomputable def B97:Array Oper:=C29 (sqL (sqL (sqR (sqR (sqR (A2d Try.f115))))))
noncomputable def drng:Code:=C45 (sqR (sqL (sqR (sqR (sqR (A2d Try.f115))))))
noncomputable def dc4:Code:=sqR (sqR (sqR (sqR (A2d Try.f115))))
noncomputable def dasg:Array Oper:=C29 (rfA drng)
noncomputable def drb:Array Oper:=C29 (C45 (rfB drng))
theorem C2P:Try.f115.body=some (.seq dc0 (.seq dc1 (.seq dc2 (.seq (.seq (.region 3 B97 false) (.block 0 (.rangeFunc (.tmp 13) #[14] (.region 4 dasg false) (.block 1 (.region 5 drb false))))) dc4)))):=by kernel_rfl

noncomputable def C2W:Summ:=fun args H=>(A63 Try.prog tt S40 B8Q aLn Try.f149 args H).map fun p=>(p.1,p.2.1,p.2.2,true)
theorem C19:aPM 149 C2W:=MContract.of_run G40 (fn:=Try.f149) (by kernel_rfl) (L:=fun _ _=>none) (hl0 (L:=fun _ _=>none) (b:=0) (x:=A2d Try.f149) (by kernel_rfl)) (fun args H r H' ks h=>by
 obtain ⟨p,h1,h2⟩:=Option.map_eq_some_iff.1 h
 simp only [Prod.mk.injEq] at h2
 obtain ⟨rfl,rfl,rfl,_⟩:=h2
 exact h1)
noncomputable def SC:Tab:=Tab.add S40 149 C2W
theorem C42:TabOk Try.prog SC:=G40.tab.add C19 (cbl Try.f149)

noncomputable def hinit:List Int:=[1779033703,3144134277,1013904242,2773480762,1359893119,2600822924,528734635,1541459225]
noncomputable def tB (E:TypeId) (fr:Bool) (l:List Int):AObj:=.rows E fr (.int .u32) l
noncomputable def stR (a0:List Int):St:=⟨[.t false P1 a0,.raw undef,.t true .str ⟨#[]⟩,.ptr 0 0 1 0,.ptr 2 0 1 0,.raw undef,.raw undef,.raw undef,.raw undef,.agg (A5O .u32 hinit 8),.ptr 1 0 1 0,.t false P1 a0,.t true P1 (A8J a0),.fn 168 [.ptr 3 0 1 0,.ptr 4 0 1 0]]++List.replicate 25 (.raw undef),
 [tB 158 true hinit,tB 176 true irounds,.box [.ptr 1 0 1 0],.box [.t true P1 (A8J a0)],.box [(ti (64:Int):AV)]],0,[]⟩
noncomputable def dK3 (e:Ex) (s:St):Option (Ex×St):=match e with
 | .normal=>E0 Try.prog tt SC B97 B97.toList s fun s=>some (Ex.normal,s)
 | _=>none
noncomputable def dK2 (e:Ex) (s:St):Option (Ex×St):=match e with
 | .normal=>A0C Try.prog tt S40 B8Q aLn 0 dc2 s dK3
 | _=>none
noncomputable def dK1 (e:Ex) (s:St):Option (Ex×St):=match e with
 | .normal=>A0C Try.prog tt S40 B8Q aLn 0 dc1 s dK2
 | _=>none
theorem C3s (a0:List Int):A0C Try.prog tt S40 B8Q aLn 0 dc0 ⟨A1A Try.f115 [.t false P1 a0],[],0,[]⟩ dK1=cond (A8x a0) (some (.normal,stR a0)) none:=by kernel_rfl

noncomputable def stB (c h k:List Int):St:=⟨[.junk,.junk,.junk,.ptr 0 0 1 0,.ptr 2 0 1 0,.t false P1 c]++List.replicate 33 .junk,[tB 158 true h,tB 176 true k,.box [.ptr 1 0 1 0]],3,[]⟩
noncomputable def C5F (c h k:List Int):St:=⟨[.junk,.junk,.junk,.ptr 0 0 1 0,.ptr 2 0 1 0,.t false P1 c]++List.replicate 9 .junk++[.t false P1 c,.ptr 1 0 1 0,.tup []]++List.replicate 21 .junk,[tB 158 true (K5 c h k).1,tB 176 true (K5 c h k).2,.box [.ptr 1 0 1 0]],3,[]⟩
theorem C14 (c h k:List Int):E0 Try.prog tt S40 drb drb.toList (stB c h k) (fun s=>some s)=cond (Y9 c h k) (some (C5F c h k)) none:=by kernel_rfl

noncomputable def M4 (h:List Int):List Int:=h.flatMap fun x=>[IntKind.wrap .u8 (Int.fdiv x (2 ^ (24))),IntKind.wrap .u8 (Int.fdiv x (2 ^ (16))),IntKind.wrap .u8 (Int.fdiv x (2 ^ (8))),IntKind.wrap .u8 x]
noncomputable def B4n (h:List Int):ByteArray:=⟨((M4 h).map fun n=>UInt8.ofNat n.toNat).toArray⟩
noncomputable def C2N:Code:=match D8 0 dc4 with
 | p::_=>p.2
 | _=>.skip
noncomputable def dL:Nat→St→Option Tree:=fun b=>match b with
 | 2=>fun st=>(A5k (fun s=>A0C Try.prog tt S40 B8Q aLn 2 C2N s (fun e s'=>some (e,s'))) (fun s=>s) 9 st).map fun p=>.leaf p.1 p.2
 | _=>fun _=>none
theorem C47:∀ p∈D8 0 dc4,aPL (dL p.1) p.2:=hl1 (i:=2) (c:=C2N) (by kernel_rfl) (LoopWp.iter G40 aLn (hl0 (L:=fun _ _=>none) (b:=2) (x:=C2N) (by kernel_rfl)) 9)
noncomputable def stT (h:List Int):St:=⟨[.junk,.junk,.junk,.ptr 0 0 1 0]++List.replicate 35 .junk,[tB 158 true h],1,[]⟩
noncomputable def dKT (e:Ex) (s:St):Option ByteArray:=match e with
 | .ret=>match s.slots with
  | _::_::.t true .str x::_=>some x
  | _=>none
 | _=>none
theorem C2Q (x0 x1 x2 x3 x4 x5 x6 x7:Int):A0C Try.prog tt S40 B8Q dL 0 dc4 (stT [x0,x1,x2,x3,x4,x5,x6,x7]) dKT=some (B4n [x0,x1,x2,x3,x4,x5,x6,x7]):=by kernel_rfl
noncomputable def arrAt (W:World) (b:Nat) (E:TypeId) (l:List Int):Prop:=∃ c:Array Value,W.heap[b]? = some (.cells c E (0,0))∧l.length≤c.size∧0<c.size∧c.size≤maxLen∧∀ (i:Nat) (x:Int),l[i]? = some x→c[i]? = some (.int .u32 x)
theorem arrAt.lt {W:World} {b:Nat} {E:TypeId} {l:List Int} (h:arrAt W b E l):b<W.heap.size:=by
 obtain ⟨c,h1,_⟩:=h
 exact (Array.getElem?_eq_some_iff.1 h1).1
theorem arrAt.keep {W W':World} {b:Nat} {E:TypeId} {l:List Int} (h:arrAt W b E l) (hw:W'.heap[b]? = W.heap[b]?):arrAt W' b E l:=by
 obtain ⟨c,h1,h2⟩:=h
 exact ⟨c,hw.trans h1,h2⟩
theorem arrAt.of {N:Nat→Prop} {w0 W:World} {η:Env} {H:List AObj} (I:Inv N w0 η H W) {id:Nat} {E:TypeId} {fr:Bool} {l:List Int} (ho:H[id]? = some (.rows E fr (.int .u32) l)) (h0:0<l.length):arrAt W (η.ι id) E l:=by
 obtain ⟨hln,R⟩:=I.obj id _ ho
 rcases R with ⟨_,h⟩ | ⟨c,cap,g1,g2,g3,g4,g5,g6⟩
 ·rw [show l=[] from h] at h0;simp at h0
 ·have e:c.size=cap:=by simpa [Ty.cells] using g5
  refine ⟨c,g2,by omega,by omega,by omega,fun i x hx=>?_⟩
  have:=g6 i x hx
  simpa [Lay,Ty.cells] using this
theorem arrAt.obj {W:World} {b:Nat} {E:TypeId} {l:List Int} (h:arrAt W b E l):∃ cap:Nat,∀ (η:Env) (hh id:Nat),η.ι id=b→η.hv id=.slice (some ⟨b,0,none⟩) l.length cap→η.ln id=l.length→ObjR η hh W id (.rows E true (.int .u32) l):=by
 obtain ⟨c,h1,h2,h3,h4,h5⟩:=h
 refine ⟨c.size,fun η hh id e1 e2 e3=>⟨e3,.inr ⟨c,c.size,by rw [e1];exact e2,by rw [e1];exact h1,h2,⟨h3,h4⟩,by simp [Ty.cells],fun i x hx=>?_⟩⟩⟩
 show c[i*1+0]? = some (.int .u32 x)
 rw [Nat.mul_one];exact h5 i x hx
structure DI (w w1:World) (bh bk bx:Nat) (h:List Int) (W:World):Prop where
 fr:Fr (·<w.heap.size) w W
 sz:w1.heap.size≤W.heap.size
 old:∀ b c E f,b ≠ bh→b ≠ bk→b ≠ bx→w1.heap[b]? = some (.cells c E f)→W.heap[b]? = some (.cells c E f)
 ah:arrAt W bh 158 h
 ak:arrAt W bk 176 irounds
 px:∃ (c:Array Value) (E:TypeId),W.heap[bx]? = some (.cells c E (0,0))∧c.size=1∧c.getD 0 undef=.pointer (some ⟨bk,0,none⟩)

noncomputable def NB (W:World) (bh bk bx:Nat):Nat→Prop:=fun b=>b<W.heap.size∧b ≠ bh∧b ≠ bk∧b ≠ bx
theorem DI.inv {w w1 W:World} {bh bk bx:Nat} {h:List Int} (D:DI w w1 bh bk bx h W) (h8:h.length=8) (d1:bh ≠ bk) (d2:bh ≠ bx) (d3:bk ≠ bx) {bd:Nat} (z1:bd<W.heap.size) (z2:bd ≠ bh) (z3:bd ≠ bk) (z4:bd ≠ bx) :
  ∃ η:Env,η.ι 0=bh∧η.ι 1=bk∧η.ι 2=bx∧(∀ f b,η.Z f b↔f=false∧b=bd)∧η.ln 0=8∧η.ln 1=64∧η.ln 2=1∧Inv (NB W bh bk bx) W η [tB 158 true h,tB 176 true irounds,.box [.ptr 1 0 1 0]] W:=by
 obtain ⟨c1,o1⟩:=D.ah.obj
 obtain ⟨c2,o2⟩:=D.ak.obj
 obtain ⟨cx,Ex,x1,x2,x3⟩:=D.px
 refine ⟨{ ι:=fun i=>if i=0 then bh else if i=1 then bk else bx,hv:=fun i=>if i=0 then .slice (some ⟨bh,0,none⟩) h.length c1 else if i=1 then .slice (some ⟨bk,0,none⟩) irounds.length c2 else A1u,ln:=fun i=>if i=0 then 8 else if i=1 then 64 else 1,Z:=fun f b=>f=false∧b=bd,nv:=fun _ _ _=>A1u,O:=fun _=>none },rfl,rfl,rfl,fun f b=>Iff.rfl,rfl,rfl,rfl,?_⟩
 refine ⟨fun k hk=>hk.1,⟨rfl,rfl,rfl,Nat.le_refl _,fun _ _=>rfl⟩,fun f b hb=>by rw [hb.2];exact z1,fun b hb=>(by cases hb.1),fun b hb=>(by cases hb.1),fun id=>?_,fun id o ho=>?_,fun id o ho hm=>?_,fun i j y z hy hz my mz he=>?_,fun b k hk=>(by cases hk),fun _ _ _=>⟨none,0,0,rfl⟩⟩
 ·simp only []
  split
  ·exact ⟨_,_,_,rfl⟩
  ·split
   ·exact ⟨_,_,_,rfl⟩
   ·exact ⟨none,0,0,rfl⟩
 ·match id,ho with
  | 0,ho=>simp only [List.getElem?_cons_zero,Option.some.injEq] at ho;subst ho;exact o1 _ _ 0 rfl rfl (by simp [h8])
  | 1,ho=>simp only [List.getElem?_cons_succ,List.getElem?_cons_zero,Option.some.injEq] at ho;subst ho;exact o2 _ _ 1 rfl rfl rfl
  | 2,ho =>
   simp only [List.getElem?_cons_succ,List.getElem?_cons_zero,Option.some.injEq] at ho
   subst ho
   refine ⟨rfl,cx,Ex,x1,x2,fun j a hj=>?_⟩
   match j,hj with
   | 0,hj =>
    simp only [List.getElem?_cons_zero,Option.some.injEq] at hj
    subst hj
    rw [x3]
    exact ⟨.ptr (by simp) (by simp),rfl⟩
   | j+1,hj=>simp at hj
  | k+3,ho=>simp at ho
 ·match id,ho with
  | 0,ho=>exact ⟨fun hn=>hn.2.1 rfl,fun hz=>z2 hz.2.symm,D.ah.lt⟩
  | 1,ho=>exact ⟨fun hn=>hn.2.2.1 rfl,fun hz=>z3 hz.2.symm,D.ak.lt⟩
  | 2,ho=>exact ⟨fun hn=>hn.2.2.2 rfl,fun hz=>z4 hz.2.symm,(Array.getElem?_eq_some_iff.1 x1).1⟩
  | k+3,ho=>simp at ho
 ·match i,j,hy,hz with
  | 0,0,_,_=>rfl
  | 0,1,_,_=>exact absurd he d1
  | 0,2,_,_=>exact absurd he d2
  | 1,0,_,_=>exact absurd he.symm d1
  | 1,1,_,_=>rfl
  | 1,2,_,_=>exact absurd he d3
  | 2,0,_,_=>exact absurd he.symm d2
  | 2,1,_,_=>exact absurd he.symm d3
  | 2,2,_,_=>rfl
  | k+3,_,hy,_=>simp at hy
  | _,k+3,_,hz=>simp at hz
theorem DI.from {m:Nat} (w w1:World) (bh bk bx:Nat) (f:List (Fin m)→List Int) (hw:w.heap.size≤w1.heap.size) (l1:bh<w1.heap.size) (l2:bk<w1.heap.size) (l3:bx<w1.heap.size):OwnFrom w1.heap.size (fun pre W=>DI w w1 bh bk bx (f pre) W):=by
 intro s W W' row D hg hr
 have same:∀ b,b<w1.heap.size→W'.heap[b]? = W.heap[b]?:=fun b hb=>by
  refine hg.block b (Nat.lt_of_lt_of_le hb D.sz) (fun e=>?_)
  have:=(hr b e.symm).1
  omega
 refine ⟨⟨hg.os.trans D.fr.os,hg.tape.trans D.fr.tape,hg.output.trans D.fr.output,Nat.le_trans D.fr.size hg.size,fun k hk=>(same k (Nat.lt_of_lt_of_le hk hw)).trans (D.fr.block k hk)⟩,Nat.le_trans D.sz hg.size,fun b c E g h1 h2 h3 hb=>(same b (Array.getElem?_eq_some_iff.1 hb).1).trans (D.old b c E g h1 h2 h3 hb),D.ah.keep (same _ l1),D.ak.keep (same _ l2),?_⟩
 obtain ⟨c,E,x1,x2,x3⟩:=D.px
 exact ⟨c,E,(same _ l3).trans x1,x2,x3⟩
theorem C0l {N:Nat→Prop} {w0 W:World} {η:Env} {H:List AObj} (I:Inv N w0 η H W) {id:Nat} {E:TypeId} {fr:Bool} {e:Ty} {l:List e.den} (ho:H[id]? = some (.rows E fr e l)) (h0:0<l.length):(AObj.rows E fr e l).mat η id:=by
 obtain ⟨hln,R⟩:=I.obj id _ ho
 rcases R with ⟨_,h⟩ | ⟨c,cap,g1,g2,g3,g4,g5,g6⟩
 ·rw [h] at h0;simp at h0
 ·exact C3 g1 g4.1
theorem C33 {N:Nat→Prop} {w0 W:World} {η:Env} {H:List AObj} (I:Inv N w0 η H W) {id:Nat} (ho:H[id]? = some (.box [.ptr 1 0 1 0])) {bk:Nat} (hk:η.ι 1=bk):∃ (c:Array Value) (E:TypeId),W.heap[η.ι id]? = some (.cells c E (0,0))∧c.size=1∧c.getD 0 undef=.pointer (some ⟨bk,0,none⟩):=by
 obtain ⟨_,c,E,g1,g2,g3⟩:=I.obj id _ ho
 refine ⟨c,E,g1,g2,?_⟩
 have h:=(g3 0 _ rfl).1
 generalize c.getD 0 undef=v at h
 cases h with
 | ptr hid hr=>rw [hk]
theorem C3d {c h k:List Int} {i:Nat} {x:AV} (hx:(stB c h k).slots[i]? = some x):(i=3∧x=.ptr 0 0 1 0)∨(i=4∧x=.ptr 2 0 1 0)∨(i=5∧x=.t false P1 c)∨x=.junk:=by
 match i,hx with
 | 0,hx=>simp only [stB,List.cons_append,List.getElem?_cons_zero,Option.some.injEq] at hx;exact .inr (.inr (.inr hx.symm))
 | 1,hx=>simp only [stB,List.cons_append,List.getElem?_cons_succ,List.getElem?_cons_zero,Option.some.injEq] at hx;exact .inr (.inr (.inr hx.symm))
 | 2,hx=>simp only [stB,List.cons_append,List.getElem?_cons_succ,List.getElem?_cons_zero,Option.some.injEq] at hx;exact .inr (.inr (.inr hx.symm))
 | 3,hx=>simp only [stB,List.cons_append,List.getElem?_cons_succ,List.getElem?_cons_zero,Option.some.injEq] at hx;exact .inl ⟨rfl,hx.symm⟩
 | 4,hx=>simp only [stB,List.cons_append,List.getElem?_cons_succ,List.getElem?_cons_zero,Option.some.injEq] at hx;exact .inr (.inl ⟨rfl,hx.symm⟩)
 | 5,hx=>simp only [stB,List.cons_append,List.getElem?_cons_succ,List.getElem?_cons_zero,Option.some.injEq] at hx;exact .inr (.inr (.inl ⟨rfl,hx.symm⟩))
 | i+6,hx =>
  simp only [stB,List.cons_append,List.getElem?_cons_succ,List.nil_append] at hx
  exact .inr (.inr (.inr (List.eq_of_mem_replicate (List.mem_of_getElem? hx))))
theorem C3b {w w1 W:World} {bh bk bx bd:Nat} {h:List Int} (D:DI w w1 bh bk bx h W) (h8:h.length=8) (d1:bh ≠ bk) (d2:bh ≠ bx) (d3:bk ≠ bx) (z1:bd<W.heap.size) (z2:bd ≠ bh) (z3:bd ≠ bk) (z4:bd ≠ bx)
  (g1:w.heap.size≤bh) (g2:w.heap.size≤bk) (g3:w.heap.size≤bx) (n l:Nat) {a1:Act} (a2:a1.tmps.size=39) (a3:a1.tmps.getD 3 undef=.pointer (some ⟨bh,0,none⟩)) (a4:a1.tmps.getD 4 undef=.pointer (some ⟨bx,0,none⟩)) (a5:a1.defers=[])
  {c:List Int} (hc:c.length=64) (hl:Lay (fun b=>b=bd) W P1 c (fun j=>if j=0 then some (a1.tmps.getD 5 undef) else none)) {Q:Exit→Act→World→Prop}
  (hQ:∀ a' W', KeepsOthers W W'→(∀ b,b<W.heap.size→b ≠ bh→b ≠ bk→b ≠ bx→W'.heap[b]? = W.heap[b]?)→DI w w1 bh bk bx (K5 c h irounds).1 W'→Q .normal a' W') :
  (Code.block 1 (.region 5 drb false)).wpIn (Fence.wide.inRound l) n Try.prog Q a1 W:=by
 obtain ⟨η,e0,e1,e2,hZ,n0,n1,n2,I⟩:=D.inv h8 d1 d2 d3 z1 z2 z3 z4
 obtain ⟨q,t8,tk⟩:=B9O c h hc h8
 refine wpIn_block (wpIn_region_list ?_)
 have s:SR (NB W bh bk bx) W η 3 W η (stB c h irounds) a1 W:=by
  refine ⟨I,Ext.refl,⟨by rw [a2];simp [stB],fun i x hx=>?_,a5⟩,rfl⟩
  rcases C3d hx with ⟨rfl,rfl⟩ | ⟨rfl,rfl⟩ | ⟨rfl,rfl⟩ | rfl
  ·rw [a3,← e0];exact .ptr (η:=η) (row:=0) (sz:=1) (sub:=0) (by simp [stB]) (by rw [n0];decide)
  ·rw [a4,← e2];exact .ptr (η:=η) (row:=0) (sz:=1) (sub:=0) (by simp [stB]) (by rw [n2];decide)
  ·refine .t rfl (Lay.mono (fun b hb=>(hZ _ _).2 ⟨rfl,hb⟩) (fun _ _=>rfl) _ _ _ hl)
  ·exact .junk _
 have hrun:=(C14 c h irounds).trans (by rw [q];rfl:_=some (C5F c h irounds))
 have key:=A7o (Q:=Exit.inBlock 1 Q) (F:=Fence.wide.inRound l) (n:=n) G40.types G40.tab (.inr ⟨l,rfl⟩) drb [] drb.toList (stB c h irounds) (fun s=>some s) η a1 W s (by kernel_rfl) hrun (fun st' η' a' W' hk s'=>?_)
 ·rwa [List.append_nil] at key
 ·simp only [Option.some.injEq] at hk
  subst hk
  show Q .normal a' W'
  have nm:∀ id,id<3→η'.ι id=η.ι id:=fun id hid=>(s'.ext.nm id hid rfl).2.1
  have I':=s'.inv
  have other:∀ b,b<W.heap.size→b ≠ bh→b ≠ bk→b ≠ bx→W'.heap[b]? = W.heap[b]?:=fun b h1 h2 h3 h4=>I'.fr.block b ⟨h1,h2,h3,h4⟩
  have ah:=arrAt.of I' (id:=0) (E:=158) (fr:=true) (l:=(K5 c h irounds).1) rfl (by rw [t8];decide)
  have ak:=arrAt.of I' (id:=1) (E:=176) (fr:=true) (l:=(K5 c h irounds).2) rfl (by rw [tk];decide)
  have px:=C33 I' (id:=2) rfl (bk:=bk) (by rw [nm 1 (by decide),e1])
  rw [nm 0 (by decide),e0] at ah
  rw [nm 1 (by decide),e1,tk] at ak
  rw [nm 2 (by decide),e2] at px
  refine hQ a' W' ⟨I'.fr.size,fun k o hk ho=>?_⟩ other ⟨⟨I'.fr.os.trans D.fr.os,I'.fr.tape.trans D.fr.tape,I'.fr.output.trans D.fr.output,Nat.le_trans D.fr.size I'.fr.size,fun k hk=>?_⟩,Nat.le_trans D.sz I'.fr.size,fun b cc E f h1 h2 h3 hb=>?_,ah,ak,px⟩
  ·have hlt:=(Array.getElem?_eq_some_iff.1 hk).1
   obtain ⟨c1,x1,_⟩:=D.ah
   obtain ⟨c2,x2,_⟩:=D.ak
   obtain ⟨c3,E3,x3,_⟩:=D.px
   refine (other k hlt ?_ ?_ ?_).trans hk
   ·rintro rfl;rw [x1] at hk;cases hk;cases ho
   ·rintro rfl;rw [x2] at hk;cases hk;cases ho
   ·rintro rfl;rw [x3] at hk;cases hk;cases ho
  ·have:=D.fr.size
   exact (other k (by omega) (by omega) (by omega) (by omega)).trans (D.fr.block k hk)
  ·have h0:=D.old b cc E f h1 h2 h3 hb
   exact (other b (Array.getElem?_eq_some_iff.1 h0).1 h1 h2 h3).trans h0
theorem C4l {vs:Array Value} {x y:Value} (hs:vs.size=2) (h0:vs.getD 0 undef=x) (h1:vs.getD 1 undef=y):vs=#[x,y]:=by
 apply Array.ext
 ·simp [hs]
 ·intro i h2 h3
  match i,h2 with
  | 0,h2=>rw [← h0];simp [Array.getD,hs]
  | 1,h2=>rw [← h1];simp [Array.getD,hs]
  | k+2,h2=>omega
noncomputable def C3r (p:List Int):List Int:=(List.range (p.length / 64)).foldl (fun h i=>(K5 ((p.drop (64*i)).take 64) h irounds).1) hinit
noncomputable def Q8 (a0:List Int):ByteArray:=B4n (C3r (A8J a0))
noncomputable def V4 (a0:List Int):Bool:=let z1:=A8J a0;A8x a0&&(decide (z1.length % 64=0)&&(decide (0<z1.length)&&decide (z1.length≤64000000000000)))
abbrev B3g:List PSh:=[.t P1]
noncomputable abbrev B8E:E7 B3g→AV×List AObj:=fun d=>(.t true .str (Q8 d.1),[])
noncomputable abbrev B6B:E7 B3g→Bool:=fun d=>V4 d.1
noncomputable def B95 (p:List Int) {m:Nat} (pre:List (Fin m)):List Int:=pre.foldl (fun h x=>(K5 ((p.drop (64*x.1)).take 64) h irounds).1) hinit
theorem B3h {p:List Int} {m:Nat} (hm:64*m=p.length) (x:Fin m):((p.drop (64*x.1)).take 64).length=64:=by
 have:=x.2
 simp only [List.length_take,List.length_drop]
 omega
theorem B62 {p:List Int} {m:Nat} (hm:64*m=p.length):∀ (pre:List (Fin m)) (h:List Int),h.length=8→(pre.foldl (fun h (x:Fin m)=>(K5 ((p.drop (64*x.1)).take 64) h irounds).1) h).length=8
 | [],h,h8=>h8
 | x::pre,h,h8=>B62 hm pre _ (B9O _ _ (B3h hm x) h8).2.1
theorem C13 (p:List Int) {m:Nat} (pre:List (Fin m)) (x:Fin m):B95 p (pre++[x])=(K5 ((p.drop (64*x.1)).take 64) (B95 p pre) irounds).1:=by simp [B95]
theorem C2O (p:List Int) {m:Nat} (hm:m=p.length / 64):B95 p (cupto m (Nat.le_refl _))=C3r p:=by
 have e:(cupto m (Nat.le_refl _)).map (fun x:Fin m=>x.1)=List.range m:=by simp [cupto]
 have:=List.foldl_map (f:=fun x:Fin m=>x.1) (g:=fun h i=>(K5 ((p.drop (64*i)).take 64) h irounds).1) (l:=cupto m (Nat.le_refl _)) (init:=hinit)
 rw [e] at this
 rw [B95,← this,C3r,hm]
theorem C3e {h:List Int} {i:Nat} {x:AV} (hx:(stT h).slots[i]? = some x):(i=3∧x=.ptr 0 0 1 0)∨x=.junk:=by
 match i,hx with
 | 0,hx=>simp only [stT,List.cons_append,List.getElem?_cons_zero,Option.some.injEq] at hx;exact .inr hx.symm
 | 1,hx=>simp only [stT,List.cons_append,List.getElem?_cons_succ,List.getElem?_cons_zero,Option.some.injEq] at hx;exact .inr hx.symm
 | 2,hx=>simp only [stT,List.cons_append,List.getElem?_cons_succ,List.getElem?_cons_zero,Option.some.injEq] at hx;exact .inr hx.symm
 | 3,hx=>simp only [stT,List.cons_append,List.getElem?_cons_succ,List.getElem?_cons_zero,Option.some.injEq] at hx;exact .inl ⟨rfl,hx.symm⟩
 | i+4,hx =>
  simp only [stT,List.cons_append,List.getElem?_cons_succ,List.nil_append] at hx
  exact .inr (List.eq_of_mem_replicate (List.mem_of_getElem? hx))
theorem C3P {w w1 W:World} {bh bk bx D:Nat} {h:List Int} (I0:DI w w1 bh bk bx h W) (h8:h.length=8) (g1:w.heap.size≤bh) (hD:w1.heap.size≤D) (hw:w.heap.size≤w1.heap.size) (hDb:D ≠ bh) (hd:W.heap[D]? = some (.deferred (some []))) {a:Act} (a2:a.tmps.size=39) (a3:a.tmps.getD 3 undef=.pointer (some ⟨bh,0,none⟩))
  {R:Ending→World→Prop} (hR:∀ W', (W'.os=w.os∧W'.tape=w.tape∧W'.output=w.output∧w.heap.size≤W'.heap.size∧∀ k,k<w.heap.size→W'.heap[k]? = w.heap[k]?)→R (.returned (.string (B4n h))) W') (n:Nat) :
  dc4.wpIn Fence.wide n Try.prog (bodyPostM Fence.wide n Try.prog Try.f115 R) { a with defers:=[{ target:=.collected D,args:=#[] }] } W:=by
 obtain ⟨c1,o1⟩:=I0.ah.obj
 have hDl:D<W.heap.size:=(Array.getElem?_eq_some_iff.1 hd).1
 let η:Env:={ ι:=fun _=>bh,hv:=fun i=>if i=0 then .slice (some ⟨bh,0,none⟩) h.length c1 else A1u,ln:=fun _=>h.length,Z:=fun _ _=>False,nv:=fun _ _ _=>A1u,O:=fun _=>none }
 letI:DF:=⟨[{ target:=.collected D,args:=#[] }]⟩
 have I:Inv (fun b=>b<w.heap.size∨b=D) W η [tB 158 true h] W:=by
  refine ⟨fun k hk=>?_,⟨rfl,rfl,rfl,Nat.le_refl _,fun _ _=>rfl⟩,fun _ _ hb=>hb.elim,fun _ hb=>hb.elim,fun _ hb=>hb.elim,fun id=>?_,fun id o ho=>?_,fun id o ho hm=>?_,fun i j y z hy hz my mz he=>?_,fun b k hk=>(by cases hk),fun _ _ _=>⟨none,0,0,rfl⟩⟩
  ·rcases hk with hk | hk
   ·exact Nat.lt_of_lt_of_le hk I0.fr.size
   ·rw [hk];exact hDl
  ·show ∃ A n c,(if id=0 then _ else _)=_
   split
   ·exact ⟨_,_,_,rfl⟩
   ·exact ⟨none,0,0,rfl⟩
  ·match id,ho with
   | 0,ho=>simp only [List.getElem?_cons_zero,Option.some.injEq] at ho;subst ho;exact o1 η _ 0 rfl rfl rfl
   | k+1,ho=>simp at ho
  ·match id,ho with
   | 0,ho=>exact ⟨fun hn=>hn.elim (fun h=>by have:bh<w.heap.size:=h;omega) (fun h=>hDb h.symm),fun hz=>hz.elim,I0.ah.lt⟩
   | k+1,ho=>simp at ho
  ·match i,j,hy,hz with
   | 0,0,_,_=>rfl
   | k+1,_,hy,_=>simp at hy
   | _,k+1,_,hz=>simp at hz
 have s:SR (fun b=>b<w.heap.size∨b=D) W η 1 W η (stT h) { a with defers:=[{ target:=.collected D,args:=#[] }] } W:=by
  refine ⟨I,Ext.refl,⟨by rw [a2];simp [stT],fun i x hx=>?_,rfl⟩,rfl⟩
  rcases C3e hx with ⟨rfl,rfl⟩ | rfl
  ·rw [a3];exact .ptr (η:=η) (row:=0) (sz:=1) (sub:=0) (by simp [stT]) (by show 0<h.length;omega)
  ·exact .junk _
 have hrun:A0C Try.prog tt S40 B8Q dL 0 dc4 (stT h) dKT=some (B4n h):=by
  match h,h8 with
  | [x0,x1,x2,x3,x4,x5,x6,x7],_=>exact C2Q x0 x1 x2 x3 x4 x5 x6 x7
 refine wpIn_wide.2 (A09 G40 dL dc4 0 (stT h) dKT _ η _ W C47 hrun (fun e st' η' a' W' hk s'=>?_) s)
 cases e with
 | normal=>simp [dKT] at hk
 | exit id=>simp [dKT] at hk
 | ret =>
  have hsl:∃ u v f r,st'.slots=u::v::.t f .str (B4n h)::r:=by
   simp only [dKT] at hk
   split at hk
   ·rename_i u v x r e
    simp only [Option.some.injEq] at hk
    exact ⟨u,v,true,r,by rw [e,hk]⟩
   ·cases hk
  obtain ⟨u,v,f,r,hsl⟩:=hsl
  have h2:=s'.sl.slot 2 _ (by rw [hsl];rfl)
  have hv:a'.tmps.getD 2 undef=.string (B4n h):=by
   generalize a'.tmps.getD 2 undef=y at h2
   cases h2 with
   | t _ hl=>simpa [Lay] using hl
  have hdd:W'.heap[D]? = some (.deferred (some [])):=(s'.inv.fr.block D (.inr rfl)).trans hd
  show LeavesInM Fence.wide n Try.prog Try.f115 a'.tmps R a'.defers .returning W'
  rw [show a'.defers=[{ target:=.collected D,args:=#[] }] from s'.sl.defers]
  refine ⟨by simp,.inl ⟨D,_,rfl,run_takeDeferred hdd,?_⟩⟩
  refine ⟨.string (B4n h),?_,hR _ ⟨?_,?_,?_,?_,fun k hk=>?_⟩⟩
  ·rw [results_tmp (t:=2) (by kernel_rfl) a'.tmps Try.prog _];exact congrArg (fun v=>Result.ok v _) hv
  ·exact s'.inv.fr.os.trans I0.fr.os
  ·exact s'.inv.fr.tape.trans I0.fr.tape
  ·exact s'.inv.fr.output.trans I0.fr.output
  ·have:=s'.inv.fr.size;have:=I0.fr.size;simp;omega
  ·have hne:k ≠ D:=by omega
   rw [World.putObj_heap_other hne]
   exact (s'.inv.fr.block k (.inl hk)).trans (I0.fr.block k hk)
theorem C3a {η:Env} {h:Nat} {w:World} {i:Nat} {v:Value} (r:AVR η h w (.ptr i 0 1 0) v):v=.pointer (some ⟨η.ι i,0,none⟩):=by
 cases r with
 | ptr hid hrr=>rfl
theorem C4a {η:Env} {h:Nat} {w:World} {f:FuncId} {i j:Nat} {v:Value} (r:AVR η h w (.fn f [.ptr i 0 1 0,.ptr j 0 1 0]) v):v=.func (.func f) #[] #[.pointer (some ⟨η.ι i,0,none⟩),.pointer (some ⟨η.ι j,0,none⟩)]:=by
 cases r with
 | fn hsz hcs =>
  rw [C4l hsz (C3a (hcs 0 _ rfl)) (C3a (hcs 1 _ rfl))]
theorem C35:∃ o,dasg.toList=[o]∧o.op=.assign (.tmp 14)∧o.dst=some 5∧o.guard=none:=by
 have h0:dasg.toList.length=1:=by kernel_rfl
 have h1:dasg.toList.map (fun o=>o.op)=[.assign (.tmp 14)]:=by kernel_rfl
 have h2:dasg.toList.map (fun o=>o.dst)=[some 5]:=by kernel_rfl
 have h3:dasg.toList.map (fun o=>o.guard)=[none]:=by kernel_rfl
 obtain ⟨o,e⟩:=List.length_eq_one_iff.1 h0
 rw [e] at h1 h2 h3
 exact ⟨o,e,by simpa using h1,by simpa using h2,by simpa using h3⟩
theorem B5M {a:Array Value} {i j:Nat} {v:Value} (h:i ≠ j):(a.setIfInBounds i v).getD j undef=a.getD j undef:=by
 simp only [Array.getD_eq_getD_getElem?,Array.getElem?_setIfInBounds,if_neg h]
theorem B4g {a:Array Value} {i:Nat} {v:Value} (h:i<a.size):(a.setIfInBounds i v).getD i undef=v:=by
 simp [Array.getD_eq_getD_getElem?,Array.getElem?_setIfInBounds,h]
theorem C1N:aPP 115 (A2n B3g B6B B8E):=by
 refine PContract.of_calls _ _ _ (fun d hd w vs hl hr=>?_)
 obtain ⟨a0,_⟩:=d
 have hq:V4 a0=true:=hd
 simp only [V4,Bool.and_eq_true,decide_eq_true_eq] at hq
 obtain ⟨qp,qm,q0,ql⟩:=hq
 obtain ⟨p,hp⟩:∃ p,p=A8J a0:=⟨_,rfl⟩
 obtain ⟨m,hm⟩:∃ m,m=p.length / 64:=⟨_,rfl⟩
 have hm64:64*m=p.length:=by rw [← hp] at qm;omega
 show Calls Try.prog 115 vs w fun e w'=>∃ v η', e=.returned v∧Inv (·<w.heap.size) w η' [] w'∧AVR η' 0 w' (.t true .str (Q8 a0)) v
 refine callsIn_wide.1 (callsIn_of_wp_marks (n:=5) (F:=Fence.wide) (fn:=Try.f115) (by kernel_rfl) C2P trivial ?_)
 have s0:=SR.start (Inv.empty w) hl hr Try.f115
 have hrun:=(C3s a0).trans (by rw [qp];rfl:_=some (Ex.normal,stR a0))
 refine wpIn_seq (wpIn_wide.2 (A09 G40 aLn dc0 0 _ dK1 _ _ _ w (hl0 (L:=fun _ _=>none) (b:=0) (x:=dc0) (by kernel_rfl)) hrun (fun e st1 η1 a1 w1 hk s1=>?_) s0))
 cases e with
 | exit id=>cases hk
 | ret=>cases hk
 | normal =>
 refine wpIn_seq (wpIn_wide.2 (A09 G40 aLn dc1 0 _ dK2 _ _ _ w1 (hl0 (L:=fun _ _=>none) (b:=0) (x:=dc1) (by kernel_rfl)) hk (fun e st2 η2 a2 w2 hk s2=>?_) s1))
 cases e with
 | exit id=>cases hk
 | ret=>cases hk
 | normal =>
 refine wpIn_seq (wpIn_wide.2 (A09 G40 aLn dc2 0 _ dK3 _ _ _ w2 (hl0 (L:=fun _ _=>none) (b:=0) (x:=dc2) (by kernel_rfl)) hk (fun e st3 η3 a3 w3 hk s3=>?_) s2))
 cases e with
 | exit id=>cases hk
 | ret=>cases hk
 | normal =>
 refine wpIn_seq (wpIn_seq (wpIn_wide.2 (wp_region_list (A4a G40.types C42 B97 B97.toList _ _ _ _ w3 s3 hk (fun st4 η aR W1 hk sR=>?_)))))
 obtain rfl:stR a0=st4:=by simpa using hk.symm
 clear hk s1 s2 s3
 have I1:=sR.inv
 -- the objects
 obtain ⟨bh,ebh⟩:∃ bh,bh=η.ι 0:=⟨_,rfl⟩
 obtain ⟨bk,ebk⟩:∃ bk,bk=η.ι 1:=⟨_,rfl⟩
 obtain ⟨bx,ebx⟩:∃ bx,bx=η.ι 2:=⟨_,rfl⟩
 obtain ⟨Bs,eBs⟩:∃ bs,bs=η.ι 3:=⟨_,rfl⟩
 obtain ⟨Bn,eBn⟩:∃ bn,bn=η.ι 4:=⟨_,rfl⟩
 have h0':(stR a0).heap[0]? = some (.rows 158 true (.int .u32) hinit):=rfl
 have h1':(stR a0).heap[1]? = some (.rows 176 true (.int .u32) irounds):=rfl
 have h2':(stR a0).heap[2]? = some (.box [.ptr 1 0 1 0]):=rfl
 have h3':(stR a0).heap[3]? = some (.box [.t true P1 (A8J a0)]):=rfl
 have h4':(stR a0).heap[4]? = some (.box [(ti (64:Int):AV)]):=rfl
 have m0:=C0l I1 h0' (by decide)
 have m1:=C0l I1 h1' (by decide)
 have d1:bh ≠ bk:=fun e=>absurd (I1.inj 0 1 _ _ h0' h1' m0 m1 (ebh ▸ ebk ▸ e)) (by decide)
 have d2:bh ≠ bx:=fun e=>absurd (I1.inj 0 2 _ _ h0' h2' m0 trivial (ebh ▸ ebx ▸ e)) (by decide)
 have d3:bk ≠ bx:=fun e=>absurd (I1.inj 1 2 _ _ h1' h2' m1 trivial (ebk ▸ ebx ▸ e)) (by decide)
 have s0':Bs ≠ bh:=fun e=>absurd (I1.inj 3 0 _ _ h3' h0' trivial m0 (eBs ▸ ebh ▸ e)) (by decide)
 have s1':Bs ≠ bk:=fun e=>absurd (I1.inj 3 1 _ _ h3' h1' trivial m1 (eBs ▸ ebk ▸ e)) (by decide)
 have s2':Bs ≠ bx:=fun e=>absurd (I1.inj 3 2 _ _ h3' h2' trivial trivial (eBs ▸ ebx ▸ e)) (by decide)
 have n0':Bn ≠ bh:=fun e=>absurd (I1.inj 4 0 _ _ h4' h0' trivial m0 (eBn ▸ ebh ▸ e)) (by decide)
 have n1':Bn ≠ bk:=fun e=>absurd (I1.inj 4 1 _ _ h4' h1' trivial m1 (eBn ▸ ebk ▸ e)) (by decide)
 have n2':Bn ≠ bx:=fun e=>absurd (I1.inj 4 2 _ _ h4' h2' trivial trivial (eBn ▸ ebx ▸ e)) (by decide)
 obtain ⟨o0a,o0b,l0⟩:=I1.own 0 _ h0' m0
 obtain ⟨o1a,o1b,l1⟩:=I1.own 1 _ h1' m1
 obtain ⟨o2a,o2b,l2⟩:=I1.own 2 _ h2' trivial
 obtain ⟨o3a,o3b,l3⟩:=I1.own 3 _ h3' trivial
 obtain ⟨o4a,o4b,l4⟩:=I1.own 4 _ h4' trivial
 rw [← ebh] at o0a o0b l0
 rw [← ebk] at o1a o1b l1
 rw [← ebx] at o2a o2b l2
 rw [← eBs] at o3a o3b l3
 rw [← eBn] at o4a o4b l4
 have g0:w.heap.size≤bh:=Nat.not_lt.1 o0a
 have g1:w.heap.size≤bk:=Nat.not_lt.1 o1a
 have g2:w.heap.size≤bx:=Nat.not_lt.1 o2a
 have hww:w.heap.size≤W1.heap.size:=I1.fr.size
 -- the slots
 have t3:aR.tmps.getD 3 undef=.pointer (some ⟨bh,0,none⟩):=by
  have h:=sR.sl.slot 3 (.ptr 0 0 1 0) rfl
  generalize aR.tmps.getD 3 undef=v at h
  cases h with
  | ptr hid hrr=>rw [ebh]
 have t4:aR.tmps.getD 4 undef=.pointer (some ⟨bx,0,none⟩):=by
  have h:=sR.sl.slot 4 (.ptr 2 0 1 0) rfl
  generalize aR.tmps.getD 4 undef=v at h
  cases h with
  | ptr hid hrr=>rw [ebx]
 have t13:aR.tmps.getD 13 undef=.func (.func 168) #[] #[.pointer (some ⟨Bs,0,none⟩),.pointer (some ⟨Bn,0,none⟩)]:=by
  rw [eBs,eBn]
  exact C4a (sR.sl.slot 13 (.fn 168 [.ptr 3 0 1 0,.ptr 4 0 1 0]) rfl)
 have tsz:aR.tmps.size=39:=by rw [sR.sl.size];rfl
 -- the padded bytes
 obtain ⟨_,c3,E3,g3,z3,x3⟩:=I1.obj 3 _ h3'
 obtain ⟨_,c4,E4,g4,z4,x4⟩:=I1.obj 4 _ h4'
 rw [← eBs] at g3
 rw [← eBn] at g4
 have y3:=(x3 0 _ rfl).1
 have y4:=(x4 0 _ rfl).1
 have v4:c4.getD 0 undef=.int .i64 64:=A3n y4
 obtain ⟨ad,cap,v3,hcap,hzt,hcell⟩:∃ (ad:Addr) (cap:Nat),c3.getD 0 undef=.slice (some ad) (64*m) cap∧64*m≤cap∧η.Z true ad.block∧∀ (i:Nat) (x:Int),p[i]? = some x→W1.cell? (ad.add i)=some (.int .u8 x):=by
  rw [← hp] at y3
  generalize c3.getD 0 undef=v at y3
  cases y3 with
  | t _ hlay =>
   obtain ⟨A,cap,e1,e2,e3⟩:=hlay
   simp only [if_true,Option.some.injEq] at e1
   rcases e3 with rfl | ⟨ad,rfl,hz,hcs⟩
   ·rw [← hp] at q0;simp at q0
   ·refine ⟨ad,cap,by rw [e1,hm64],by rw [hm64];exact e2,hz,fun i x hx=>?_⟩
    have h:=hcs i x hx
    simp only [Lay,Ty.cells,Nat.mul_one,Nat.add_zero] at h
    exact h
 have hzf:η.Z false ad.block:=I1.zsub _ hzt
 have b0:ad.block ≠ bh:=fun e=>o0b (e ▸ hzf)
 have b1:ad.block ≠ bk:=fun e=>o1b (e ▸ hzf)
 have b2:ad.block ≠ bx:=fun e=>o2b (e ▸ hzf)
 have bl:ad.block<W1.heap.size:=I1.zlt _ _ hzf
 obtain ⟨cd,Ed,fd,gd⟩:∃ cd Ed fd,W1.heap[ad.block]? = some (.cells cd Ed fd):=by
  obtain ⟨x,hx⟩:∃ x,p[0]? = some x:=by cases p with
   | nil=>rw [← hp] at q0;simp at q0
   | cons x _=>exact ⟨x,rfl⟩
  have h:=hcell 0 x hx
  obtain ⟨o,ho,hc⟩:=cells_of_cell h
  rw [A01] at ho
  cases o with
  | cells a b c=>exact ⟨a,b,c,ho⟩
  | _=>cases hc
 have cs:W1.cell? ⟨Bs,0,none⟩=some (.slice (some ad) (64*m) cap):=by rw [D9 g3,← v3];exact F1 (by rw [z3];simp)
 have cn:W1.cell? ⟨Bn,0,none⟩=some (.int .i64 64):=by rw [D9 g4,← v4];exact F1 (by rw [z4];simp)
 have D0:DI w W1 bh bk bx hinit W1:=by
  refine ⟨I1.fr,Nat.le_refl _,fun _ _ _ _ _ _ _ h=>h,?_,?_,?_⟩
  ·rw [ebh];exact arrAt.of I1 h0' (by decide)
  ·rw [ebk];exact arrAt.of I1 h1' (by decide)
  ·rw [ebx];exact C33 I1 h2' ebk.symm
 refine wpIn_block (wpIn_rangeFunc_ownF (F:=Fence.wide) (n:=5) rfl (by decide) (gf:=168) (lb:=#[.pointer (some ⟨Bs,0,none⟩),.pointer (some ⟨Bn,0,none⟩)]) t13 trivial (enters_of Try.func168 (by kernel_rfl) rfl)
  (B94 4 (by decide) Bs Bn m cap ad hcap (by rw [← hp] at ql;omega) W1 cs cn l3 l4) (fun h k=>⟨k.1.trans h.1,k.2.trans h.2⟩) (fun W l o o' hwl ho hc _=>?_) (Below.refl _ _) (fun _=>rfl)
  (fun pre W=>DI w W1 bh bk bx (B95 p pre) W) (fun _ _ _=>False) (DI.from w W1 bh bk bx (B95 p) hww l0 l1 l2) (fun _ _ _ _ _ h=>h.elim) D0
  (fun x=>{ tmps:=(aR.tmps.setIfInBounds 14 (.slice (some (ad.add (64*x.1))) 64 64)).setIfInBounds 5 (.slice (some (ad.add (64*x.1))) 64 64),defers:=[] })
  (fun l x W K hK=>?_) (fun l pre x W D hlen=>?_) (fun Dd xs W hD hS D hdd=>?_) (fun _ _ _ _ _ _ h _=>h.elim))
 ·have k1:Bs ≠ l:=by omega
  have k2:Bn ≠ l:=by omega
  exact ⟨World.cell?_of_block (World.putObj_heap_other k1),World.cell?_of_block (World.putObj_heap_other k2)⟩
 ·obtain ⟨o,e,e1,e2,e3⟩:=C35
  have ez:((#[14]:Array Tmp).zip #[Value.slice (some (ad.add (64*x.1))) 64 64]).foldl (fun t (p,v)=>t.setIfInBounds p v) aR.tmps=aR.tmps.setIfInBounds 14 (.slice (some (ad.add (64*x.1))) 64 64):=by simp
  refine wpIn_region_list ?_
  rw [e,ez]
  have ev:(aR.tmps.setIfInBounds 14 (Value.slice (some (ad.add (64*x.1))) 64 64)).getD 14 undef=.slice (some (ad.add (64*x.1))) 64 64:=B4g (by rw [tsz];decide)
  refine wpListIn_plain e3 (fun Kc hKc=>A7F (.inr ⟨l,rfl⟩) (by simp [A3F,e1]) (A9 (w':=W) (x:=.slice (some (ad.add (64*x.1))) 64 64) (by simp only [execOp,e1,Act.eval,ev];rfl) (hKc _ _ ?_)))
  rw [e2]
  exact hK
 ·refine C3b D (B62 hm64 pre hinit rfl) d1 d2 d3 (bd:=ad.block) (Nat.lt_of_lt_of_le bl D.sz) b0 b1 b2 g0 g1 g2 _ l (c:=(p.drop (64*x.1)).take 64) ?_ ?_ ?_ rfl (B3h hm64 x) ?_ (fun a' W' ko oth DI'=>⟨ko,⟨?_,?_⟩,?_⟩)
  ·show ((aR.tmps.setIfInBounds 14 _).setIfInBounds 5 _).size=39
   simp [tsz]
  ·show ((aR.tmps.setIfInBounds 14 _).setIfInBounds 5 _).getD 3 undef=_
   rw [B5M (by decide),B5M (by decide)];exact t3
  ·show ((aR.tmps.setIfInBounds 14 _).setIfInBounds 5 _).getD 4 undef=_
   rw [B5M (by decide),B5M (by decide)];exact t4
  ·have e5:((aR.tmps.setIfInBounds 14 (Value.slice (some (ad.add (64*x.1))) 64 64)).setIfInBounds 5 (Value.slice (some (ad.add (64*x.1))) 64 64)).getD 5 undef=.slice (some (ad.add (64*x.1))) 64 64:=B4g (by rw [Array.size_setIfInBounds,tsz];decide)
   refine ⟨some (ad.add (64*x.1)),64,?_,by rw [B3h hm64 x];exact Nat.le_refl _,.inr ⟨_,rfl,A01 _ _,fun i y hy=>?_⟩⟩
   ·rw [B3h hm64 x]
    exact congrArg some e5
   ·rw [List.getElem?_take] at hy
    split at hy
    ·rw [List.getElem?_drop] at hy
     have h1:=hcell _ y hy
     have h2:W.cell? (ad.add (64*x.1+i))=W1.cell? (ad.add (64*x.1+i)):=World.cell?_of_block (by rw [A01,gd];exact D.old _ _ _ _ b0 b1 b2 gd)
     show W.cell? ((ad.add (64*x.1)).add (i*1+0))=some (.int .u8 y)
     rw [A2M,Nat.mul_one,Nat.add_zero,h2];exact h1
    ·cases hy
  ·have hl3:Bs<W.heap.size:=Nat.lt_of_lt_of_le l3 D.sz
   exact World.cell?_of_block (oth Bs hl3 s0' s1' s2')
  ·have hl4:Bn<W.heap.size:=Nat.lt_of_lt_of_le l4 D.sz
   exact World.cell?_of_block (oth Bn hl4 n0' n1' n2')
  ·show DI w W1 bh bk bx (B95 p (pre++[x])) W'
   rw [C13];exact DI'
 ·show dc4.wpIn Fence.wide 5 Try.prog _ { aR with defers:={ target:=.collected Dd,args:=#[] }::aR.defers } W
  rw [show aR.defers=[] from sR.sl.defers]
  subst hS
  refine C3P D (B62 hm64 _ hinit rfl) g0 hD hww (by omega) hdd tsz t3 (fun W' hW'=>?_) 5
  obtain ⟨w1', w2', w3', w4', w5'⟩:=hW'
  refine ⟨.string _,{ ι:=fun _=>0,hv:=fun _=>A1u,ln:=fun _=>0,Z:=fun _ _=>False,nv:=fun _ _ _=>A1u,O:=fun _=>none },rfl,⟨fun _ h=>h,⟨w1', w2', w3', w4', w5'⟩,fun _ _ hb=>hb.elim,fun _ hb=>hb.elim,fun _ hb=>hb.elim,fun _=>⟨none,0,0,rfl⟩,fun id o h=>by simp at h,fun id o h=>by simp at h,fun id id' o o' h=>by simp at h,fun b k h=>(by cases h),fun _ _ _=>⟨none,0,0,rfl⟩⟩,?_⟩
  rw [C2O p hm,hp]
  exact .t rfl (by simp [Lay,Q8])
noncomputable def S41:Tab:=Tab.add S40 115 (lift (A2n B3g B6B B8E))
noncomputable def C4R:FuncId→Bool:=qadd B8Q 115
theorem G41:aPG S41 C4R:=G40.addQ C1N (cbl Try.f115) (fun _=>rfl)

abbrev B03:List PSh:=[.agg [(.int .i64),(.int .i64),tq2]]
noncomputable def B3p (a0 a1:Int) (a2:Lq1):List Int:=let z1:=L0 a1 (J8 a0);let z2:=B1I a2 z1;(cond (decide ((a2.length:Int) > (0:Int))) (((J8 ((z2.length:Nat):Int))++z2)++A18 ((Q8 z2).extract (0:Int).toNat (4:Int).toNat)) (((J8 ((z1.length:Nat):Int))++z1)++A18 ((Q8 z1).extract (0:Int).toNat (4:Int).toNat)))
noncomputable abbrev B3k (r:List Int):AV×List AObj:=((.all 0 1),[(.rows 5 true (.int .u8) r)])
noncomputable abbrev B52:E7 B03→AV×List AObj:=fun d=>B3k (B3p d.1.1 d.1.2.1 d.1.2.2.1)
noncomputable def A0x (a0 a1:Int) (a2:Lq1):Bool:=let z1:=L0 a1 (J8 a0);let z2:=B1I a2 z1;let z3:=J8 ((z2.length:Nat):Int);let z4:=J8 ((z1.length:Nat):Int);(K2 a1 (J8 a0))&&(cond (decide ((a2.length:Int) > (0:Int))) ((A9I a2 z1)&&((decide ((z3.length+z2.length)*1≤MAXB))&&((V4 z2)&&((decide (0≤(0:Int)∧(0:Int)≤(4:Int)∧(4:Int)≤(((Q8 z2).size:Nat):Int)))&&(decide ((z3++z2).length+((Q8 z2).extract (0:Int).toNat (4:Int).toNat).size≤MAXB)))))) ((decide ((z4.length+z1.length)*1≤MAXB))&&((V4 z1)&&((decide (0≤(0:Int)∧(0:Int)≤(4:Int)∧(4:Int)≤(((Q8 z1).size:Nat):Int)))&&(decide ((z4++z1).length+((Q8 z1).extract (0:Int).toNat (4:Int).toNat).size≤MAXB))))))
noncomputable abbrev B2O:E7 B03→Bool:=fun d=>A0x d.1.1 d.1.2.1 d.1.2.2.1
theorem C0u:A7X false G41 aLn Try.f67 B03 B2O B52:=by
 rintro ⟨⟨a0,⟨a1,⟨a2,_⟩⟩⟩,_⟩ hp
 change A0x a0 a1 a2=true at hp
 unfold A0x at hp
 refine Eq.trans (b:=(let z1:=L0 a1 (J8 a0);let z2:=B1I a2 z1;let z3:=J8 ((z2.length:Nat):Int);let z4:=J8 ((z1.length:Nat):Int);let z5:=(Q8 z2).extract (0:Int).toNat (4:Int).toNat;let z6:=(Q8 z1).extract (0:Int).toNat (4:Int).toNat;cond (K2 a1 (J8 a0)) (cond (decide ((a2.length:Int) > (0:Int))) (cond (A9I a2 z1) (cond (decide ((z3.length+z2.length)*1≤MAXB)) (cond (V4 z2) (cond (decide (0≤(0:Int)∧(0:Int)≤(4:Int)∧(4:Int)≤(((Q8 z2).size:Nat):Int))) (cond (decide ((z3++z2).length+z5.size≤MAXB)) (some (B3k ((z3++z2)++A18 z5))) none) none) none) none) none) (cond (decide ((z4.length+z1.length)*1≤MAXB)) (cond (V4 z1) (cond (decide (0≤(0:Int)∧(0:Int)≤(4:Int)∧(4:Int)≤(((Q8 z1).size:Nat):Int))) (cond (decide ((z4++z1).length+z6.size≤MAXB)) (some (B3k ((z4++z1)++A18 z6))) none) none) none) none)) none)) (by kernel_rfl) ?_
 exact (A7Y hp fun hp=>(B6H B3k hp (fun hp=>(A7Y hp fun hp=>(A7Y hp fun hp=>(A7Y hp fun hp=>(A7Y hp fun hp=>(A70 hp fun _h=>rfl)))))) (fun hp=>(A7Y hp fun hp=>(A7Y hp fun hp=>(A7Y hp fun hp=>(A70 hp fun _h=>rfl)))))))
theorem C1T:aPP 67 (A2n B03 B2O B52):=pcD false G41 hlz C0u
noncomputable def S42:Tab:=Tab.add S41 67 (lift (A2n B03 B2O B52))
noncomputable def C4S:FuncId→Bool:=C4R
theorem G42:aPG S42 C4S:=G41.add C1T (cbl Try.f67) (by kernel_rfl)

abbrev B01:List PSh:=[.agg [(.int .i64),(.int .i64),tq2]]
noncomputable def B0o (a0 a1:Int) (a2:Lq1):List Int:=(cond (!(B6a a0 a1 a2)) ([]:List Int) (B3p a0 a1 a2))
noncomputable abbrev B3i (r:List Int):AV×List AObj:=((.all 0 1),[(.rows 5 true (.int .u8) r)])
noncomputable abbrev B50:E7 B01→AV×List AObj:=fun d=>B3i (B0o d.1.1 d.1.2.1 d.1.2.2.1)
noncomputable def A0w (a0 a1:Int) (a2:Lq1):Bool:=(B0c a0 a1 a2)&&(cond (!(B6a a0 a1 a2)) true (A0x a0 a1 a2))
noncomputable abbrev B2M:E7 B01→Bool:=fun d=>A0w d.1.1 d.1.2.1 d.1.2.2.1
theorem C0q:A7X false G42 aLn Try.f18 B01 B2M B50:=by
 rintro ⟨⟨a0,⟨a1,⟨a2,_⟩⟩⟩,_⟩ hp
 change A0w a0 a1 a2=true at hp
 unfold A0w at hp
 refine Eq.trans (b:=(cond (B0c a0 a1 a2) (cond (!(B6a a0 a1 a2)) (some (B3i ([]:List Int))) (cond (A0x a0 a1 a2) (some (B3i (B3p a0 a1 a2))) none)) none)) (by kernel_rfl) ?_
 exact (A7Y hp fun hp=>(B6H B3i hp (fun hp=>rfl) (fun hp=>(A70 hp fun _h=>rfl))))
theorem C1P:aPP 18 (A2n B01 B2M B50):=pcD false G42 hlz C0q
noncomputable def S43:Tab:=Tab.add S42 18 (lift (A2n B01 B2M B50))
noncomputable def C4T:FuncId→Bool:=C4S
theorem G43:aPG S43 C4T:=G42.add C1P (cbl Try.f18) (by kernel_rfl)

abbrev C5o:List Sh:=.junk::C5n
abbrev u21:=((),(),u19)

noncomputable def Y7 (x0 x1:List Int) (i:Nat):Bool:=!((x0.getD i (0:Int)) != (x1.getD i (0:Int)))
abbrev A9M:List PSh:=[.t P1,.t P1]
abbrev T7:SS:=⟨(.t false P1::.t false P1::.junk::.junk::.junk::tI::C5o),[]⟩
abbrev B2k:SS:=⟨(.junk::.junk::.junk::.junk::.t true .bool::C3B),[]⟩
abbrev B2l:SS:=⟨(.junk::C4h),[]⟩
noncomputable def B0W (x0 x1:List Int) (x5:Int):RT T7.den:=(.br (decide (x5<(x0.length:Int))) (.br (decide (0≤x5∧x5<(x0.length:Int))) (.br (decide (0≤x5∧x5<(x1.length:Int))) (.br ((x0.getD x5.toNat (0:Int)) != (x1.getD x5.toNat (0:Int))) (.done .ret B2k (((),(),(),(),false,u22),())) (.next ((x0,x1,(),(),(),wI (x5+(1:Int)),u21),()))) .fail) .fail) (.done (.exit 0) B2l ((u27),())))
noncomputable def A77 (x0 x1:List Int) (x5:Int):CT:=(.br (decide (0≤x5)&&(decide (x0.length=x1.length)&&okL x0)) (.br (A46 (Y7 x0 x1) (x0.length - x5.toNat) x5.toNat) (.done (.exit 0) B2l ((u27),())) (.done .ret B2k (((),(),(),(),false,u22),()))) .fail)
noncomputable abbrev Z8:T7.den→RT T7.den:=(fun d=>B0W d.1.1 d.1.2.1 d.1.2.2.2.2.2.1)
noncomputable abbrev B3X (x0 x1:List Int) (x5:Int):T7.den:=((x0,x1,(),(),(),x5,u21),())
noncomputable def B13:Code:=((D8 0 (A2d Try.f19)).getD 0 (0,.skip)).2
theorem B8R (x0 x1:List Int) (x5:Int):(A77 x0 x1 x5).val (D:=T7.den)=.fail∨Runs Z8 (B3X x0 x1 x5) (A77 x0 x1 x5).val:=by
 cases hc:(decide (0≤x5)&&(decide (x0.length=x1.length)&&okL x0)) with
 | false=>left;simp only [A77,CT.val,hc,cond_false]
 | true =>
  right
  simp only [A77,CT.val,hc,cond_true]
  simp only [Bool.and_eq_true,decide_eq_true_eq] at hc
  obtain ⟨i,rfl⟩:=Int.eq_ofNat_of_zero_le hc.1
  have hs:=A7N hc.2.2
  simp only [Int.toNat_natCast]
  refine Runs.scan (fun j=>B3X x0 x1 (j:Int)) (x0.length) (Y7 x0 x1) (fun i hi=>?_) (fun i hi=>?_) ⟨_,_,_,rfl,by simp⟩ ⟨_,_,_,rfl,by simp⟩ _ _ rfl
  ·
   have h0a:decide ((i:Int)<(x0.length:Int))=true:=decide_eq_true (by omega)
   have h0b:decide (0≤(i:Int)∧(i:Int)<(x0.length:Int))=true:=decide_eq_true (by omega)
   simp only [Z8,B0W,RT.val,h0a,h0b,cond_true,A7V i (by omega),Int.toNat_natCast]
   have h9:decide (0≤(i:Int)∧(i:Int)<(x1.length:Int))=true:=decide_eq_true (by omega)
   simp only [h9,cond_true]
   simp only [Y7]
   generalize ((x0.getD i (0:Int)) != (x1.getD i (0:Int)))=c
   cases c<;>rfl
  ·have h1:decide ((i:Int)<(x0.length:Int))=false:=decide_eq_false (by omega)
   simp only [Z8,B0W,RT.val,h1,cond_false]
theorem B7A:RdA G43 aLn 0 B13 T7 0 [] (kepts [4] [(0,[])]) (fun d=>(Z8 d).opt 0 []):=by
 intro d
 kernel_rfl
noncomputable abbrev B24:St→Option Tree:=T7.say 0 [] [] (fun d=>A77 d.1.1 d.1.2.1 d.1.2.2.2.2.2.1)
theorem B70:aPL B24 B13:=SS.wp2 hlz [] Z8 B7A (fun d=>rfl) _ (fun d=>B8R d.1.1 d.1.2.1 d.1.2.2.2.2.2.1)
noncomputable def B5a (a0 a1:List Int):Bool:=(cond ((a0.length:Int) != (a1.length:Int)) false (cond (A46 (Y7 a0 a1) (a0.length - (0:Int).toNat) (0:Int).toNat) true false))
noncomputable abbrev A8r (r:Bool):AV×List AObj:=((.t true .bool r),[])
noncomputable abbrev B4q:E7 A9M→AV×List AObj:=fun d=>A8r (B5a d.1 d.2.1)
noncomputable def A8y (a0 a1:List Int):Bool:=okL a0
noncomputable abbrev B1P:E7 A9M→Bool:=fun d=>A8y d.1 d.2.1
noncomputable abbrev C0I:Nat→St→Option Tree:=fun b=>match b with | 0=>B24 | _=>fun _=>none
theorem B9I:A7X true G43 (C0I) Try.f19 A9M B1P B4q:=by
 rintro ⟨(a0:List Int),⟨(a1:List Int),_⟩⟩ hp
 change A8y a0 a1=true at hp
 unfold A8y at hp
 refine Eq.trans (b:=(cond ((a0.length:Int) != (a1.length:Int)) (some (A8r false)) (cond (decide (0≤(0:Int))&&(decide (a0.length=a1.length)&&okL a0)) (cond (A46 (Y7 a0 a1) (a0.length - (0:Int).toNat) (0:Int).toNat) (some (A8r true)) (some (A8r false))) none))) (by kernel_rfl) ?_
 exact (M2 A8r (fun _h=>rfl) (fun _h=>(A70 (by simp only [okL,Bool.and_eq_true,decide_eq_true_eq] at hp ⊢;simp at _h;exact ⟨Int.le_refl 0,by omega,hp⟩) (fun _h=>(M2 A8r (fun _h=>rfl) (fun _h=>rfl))))))
theorem C0X:aPP 19 (A2n A9M B1P B4q):=pcD true G43 (hl1 (i:=0) (by kernel_rfl) B70) B9I
noncomputable def S44:Tab:=Tab.add S43 19 (lift (A2n A9M B1P B4q))
noncomputable def C4U:FuncId→Bool:=qadd C4T 19
theorem G44:aPG S44 C4U:=G43.addQ C0X (cbl Try.f19) (fun _=>rfl)

abbrev B4S:List PSh:=[.agg [(.int .i64),.str,.str],.agg [(.int .i64),.str,.str]]
noncomputable def B8H (a0:Int) (a1 a2:ByteArray) (a3:Int) (a4 a5:ByteArray):Bool:=(cond (a0 != a3) false (cond (!(a1.toList==a4.toList)) false (cond (!(a2.toList==a5.toList)) false true)))
noncomputable abbrev B0m (r:Bool):AV×List AObj:=((.t true .bool r),[])
noncomputable abbrev B89:E7 B4S→AV×List AObj:=fun d=>B0m (B8H d.1.1 d.1.2.1 d.1.2.2.1 d.2.1.1 d.2.1.2.1 d.2.1.2.2.1)
noncomputable abbrev B6f:E7 B4S→Bool:=fun d=>true
theorem C2j:A7X true G44 aLn Try.f116 B4S B6f B89:=by
 rintro ⟨⟨a0,⟨a1,⟨a2,_⟩⟩⟩,⟨⟨a3,⟨a4,⟨a5,_⟩⟩⟩,_⟩⟩ hp
 refine Eq.trans (b:=(cond (a0 != a3) (some (B0m false)) (cond (!(a1.toList==a4.toList)) (some (B0m false)) (cond (!(a2.toList==a5.toList)) (some (B0m false)) (some (B0m true)))))) (by kernel_rfl) ?_
 exact (M2 B0m (fun _h=>rfl) (fun _h=>(M2 B0m (fun _h=>rfl) (fun _h=>(M2 B0m (fun _h=>rfl) (fun _h=>rfl))))))
theorem C3m:aPP 116 (A2n B4S B6f B89):=pcD true G44 hlz C2j
noncomputable def S45:Tab:=Tab.add S44 116 (lift (A2n B4S B6f B89))
noncomputable def C4V:FuncId→Bool:=qadd C4U 116
theorem G45:aPG S45 C4V:=G44.addQ C3m (cbl Try.f116) (fun _=>rfl)


noncomputable def A0h (x0 x1:Lq1) (i:Nat):Bool:=!(!(B8H ((x0.getD i ((0:Int),(bE,bE))).1) (((x0.getD i ((0:Int),(bE,bE))).2).1) (((x0.getD i ((0:Int),(bE,bE))).2).2) ((x1.getD i ((0:Int),(bE,bE))).1) (((x1.getD i ((0:Int),(bE,bE))).2).1) (((x1.getD i ((0:Int),(bE,bE))).2).2)))
abbrev B2t:List PSh:=[.t tq2,.t tq2]
abbrev A0d:SS:=⟨(.t false tq2::.t false tq2::.junk::.junk::.junk::tI::C3B),[]⟩
abbrev B4L:SS:=⟨(.junk::.junk::.junk::.junk::.t true .bool::C0d),[]⟩
abbrev B4M:SS:=⟨(.junk::C2a),[]⟩
noncomputable def B3b (x0 x1:Lq1) (x5:Int):RT A0d.den:=let z1:=x0.getD x5.toNat ((0:Int),(bE,bE));let z2:=x1.getD x5.toNat ((0:Int),(bE,bE));(.br (decide (x5<(x0.length:Int))) (.br (decide (0≤x5∧x5<(x0.length:Int))) (.br (decide (0≤x5∧x5<(x1.length:Int))) (.br (!(B8H (z1.1) ((z1.2).1) ((z1.2).2) (z2.1) ((z2.2).1) ((z2.2).2))) (.done .ret B4L (((),(),(),(),false,u23),())) (.next ((x0,x1,(),(),(),wI (x5+(1:Int)),u22),()))) .fail) .fail) (.done (.exit 0) B4M ((u28),())))
noncomputable def A9R (x0 x1:Lq1) (x5:Int):CT:=(.br (decide (0≤x5)&&(decide (x0.length=x1.length)&&okL x0)) (.br (A46 (A0h x0 x1) (x0.length - x5.toNat) x5.toNat) (.done (.exit 0) B4M ((u28),())) (.done .ret B4L (((),(),(),(),false,u23),()))) .fail)
noncomputable abbrev A87:A0d.den→RT A0d.den:=(fun d=>B3b d.1.1 d.1.2.1 d.1.2.2.2.2.2.1)
noncomputable abbrev B6x (x0 x1:Lq1) (x5:Int):A0d.den:=((x0,x1,(),(),(),x5,u22),())
noncomputable def B3F:Code:=((D8 0 (A2d Try.f68)).getD 0 (0,.skip)).2
theorem C0N (x0 x1:Lq1) (x5:Int):(A9R x0 x1 x5).val (D:=A0d.den)=.fail∨Runs A87 (B6x x0 x1 x5) (A9R x0 x1 x5).val:=by
 cases hc:(decide (0≤x5)&&(decide (x0.length=x1.length)&&okL x0)) with
 | false=>left;simp only [A9R,CT.val,hc,cond_false]
 | true =>
  right
  simp only [A9R,CT.val,hc,cond_true]
  simp only [Bool.and_eq_true,decide_eq_true_eq] at hc
  obtain ⟨i,rfl⟩:=Int.eq_ofNat_of_zero_le hc.1
  have hs:=A7N hc.2.2
  simp only [Int.toNat_natCast]
  refine Runs.scan (fun j=>B6x x0 x1 (j:Int)) (x0.length) (A0h x0 x1) (fun i hi=>?_) (fun i hi=>?_) ⟨_,_,_,rfl,by simp⟩ ⟨_,_,_,rfl,by simp⟩ _ _ rfl
  ·
   have h0a:decide ((i:Int)<(x0.length:Int))=true:=decide_eq_true (by omega)
   have h0b:decide (0≤(i:Int)∧(i:Int)<(x0.length:Int))=true:=decide_eq_true (by omega)
   simp only [A87,B3b,RT.val,h0a,h0b,cond_true,A7V i (by omega),Int.toNat_natCast]
   have h9:decide (0≤(i:Int)∧(i:Int)<(x1.length:Int))=true:=decide_eq_true (by omega)
   simp only [h9,cond_true]
   simp only [A0h]
   generalize (!(B8H ((x0.getD i ((0:Int),((⟨#[]⟩:ByteArray),(⟨#[]⟩:ByteArray)))).1) (((x0.getD i ((0:Int),((⟨#[]⟩:ByteArray),(⟨#[]⟩:ByteArray)))).2).1) (((x0.getD i ((0:Int),((⟨#[]⟩:ByteArray),(⟨#[]⟩:ByteArray)))).2).2) ((x1.getD i ((0:Int),((⟨#[]⟩:ByteArray),(⟨#[]⟩:ByteArray)))).1) (((x1.getD i ((0:Int),((⟨#[]⟩:ByteArray),(⟨#[]⟩:ByteArray)))).2).1) (((x1.getD i ((0:Int),((⟨#[]⟩:ByteArray),(⟨#[]⟩:ByteArray)))).2).2)))=c
   cases c<;>rfl
  ·have h1:decide ((i:Int)<(x0.length:Int))=false:=decide_eq_false (by omega)
   simp only [A87,B3b,RT.val,h1,cond_false]
theorem B9s:RdA G45 aLn 0 B3F A0d 0 [] (kepts [4] [(0,[])]) (fun d=>(A87 d).opt 0 []):=by
 intro d
 kernel_rfl
noncomputable abbrev B5H:St→Option Tree:=A0d.say 0 [] [] (fun d=>A9R d.1.1 d.1.2.1 d.1.2.2.2.2.2.1)
theorem C0f:aPL B5H B3F:=SS.wp2 hlz [] A87 B9s (fun d=>rfl) _ (fun d=>C0N d.1.1 d.1.2.1 d.1.2.2.2.2.2.1)
noncomputable def B7s (a0 a1:Lq1):Bool:=(cond ((a0.length:Int) != (a1.length:Int)) false (cond (A46 (A0h a0 a1) (a0.length - (0:Int).toNat) (0:Int).toNat) true false))
noncomputable abbrev B1d (r:Bool):AV×List AObj:=((.t true .bool r),[])
noncomputable abbrev B7f:E7 B2t→AV×List AObj:=fun d=>B1d (B7s d.1 d.2.1)
noncomputable def B5A (a0 a1:Lq1):Bool:=okL a0
noncomputable abbrev B4y:E7 B2t→Bool:=fun d=>B5A d.1 d.2.1
noncomputable abbrev C2t:Nat→St→Option Tree:=fun b=>match b with | 0=>B5H | _=>fun _=>none
theorem C1k:A7X true G45 (C2t) Try.f68 B2t B4y B7f:=by
 rintro ⟨(a0:Lq1),⟨(a1:Lq1),_⟩⟩ hp
 change B5A a0 a1=true at hp
 unfold B5A at hp
 refine Eq.trans (b:=(cond ((a0.length:Int) != (a1.length:Int)) (some (B1d false)) (cond (decide (0≤(0:Int))&&(decide (a0.length=a1.length)&&okL a0)) (cond (A46 (A0h a0 a1) (a0.length - (0:Int).toNat) (0:Int).toNat) (some (B1d true)) (some (B1d false))) none))) (by kernel_rfl) ?_
 exact (M2 B1d (fun _h=>rfl) (fun _h=>(A70 (by simp only [okL,Bool.and_eq_true,decide_eq_true_eq] at hp ⊢;simp at _h;exact ⟨Int.le_refl 0,by omega,hp⟩) (fun _h=>(M2 B1d (fun _h=>rfl) (fun _h=>rfl))))))
theorem C2D:aPP 68 (A2n B2t B4y B7f):=pcD true G45 (hl1 (i:=0) (by kernel_rfl) C0f) C1k
noncomputable def S46:Tab:=Tab.add S45 68 (lift (A2n B2t B4y B7f))
noncomputable def C4W:FuncId→Bool:=qadd C4V 68
theorem G46:aPG S46 C4W:=G45.addQ C2D (cbl Try.f68) (fun _=>rfl)

abbrev B2u:List PSh:=[.agg [(.int .i64),(.int .i64),tq2],.agg [(.int .i64),(.int .i64),tq2]]
noncomputable def B9e (a0 a1:Int) (a2:Lq1) (a3 a4:Int) (a5:Lq1):Bool:=(cond (a0 != a3) false (cond (a1 != a4) false (cond (!(B7s a2 a5)) false true)))
noncomputable abbrev A81 (r:Bool):AV×List AObj:=((.t true .bool r),[])
noncomputable abbrev B7g:E7 B2u→AV×List AObj:=fun d=>A81 (B9e d.1.1 d.1.2.1 d.1.2.2.1 d.2.1.1 d.2.1.2.1 d.2.1.2.2.1)
noncomputable def B1h (a0 a1:Int) (a2:Lq1) (a3 a4:Int) (a5:Lq1):Bool:=okL a2
noncomputable abbrev B4z:E7 B2u→Bool:=fun d=>B1h d.1.1 d.1.2.1 d.1.2.2.1 d.2.1.1 d.2.1.2.1 d.2.1.2.2.1
theorem C1l:A7X true G46 aLn Try.f20 B2u B4z B7g:=by
 rintro ⟨⟨a0,⟨a1,⟨a2,_⟩⟩⟩,⟨⟨a3,⟨a4,⟨a5,_⟩⟩⟩,_⟩⟩ hp
 change B1h a0 a1 a2 a3 a4 a5=true at hp
 unfold B1h at hp
 refine Eq.trans (b:=(cond (a0 != a3) (some (A81 false)) (cond (a1 != a4) (some (A81 false)) (cond (B5A a2 a5) (cond (!(B7s a2 a5)) (some (A81 false)) (some (A81 true))) none)))) (by kernel_rfl) ?_
 exact (M2 A81 (fun _h=>rfl) (fun _h=>(M2 A81 (fun _h=>rfl) (fun _h=>(A70 (by first | rfl | decide | exact hp | (simp only [Bool.and_eq_true] at hp;simp only [hp];done) | (simp [*];done) | (simp [okL] at hp;simp [okL,MAXB];omega) | (simp_all;done) | (simp at *;omega)) (fun _h=>(M2 A81 (fun _h=>rfl) (fun _h=>rfl))))))))
theorem C2E:aPP 20 (A2n B2u B4z B7g):=pcD true G46 hlz C1l
noncomputable def S47:Tab:=Tab.add S46 20 (lift (A2n B2u B4z B7g))
noncomputable def C4X:FuncId→Bool:=qadd C4W 20
theorem G47:aPG S47 C4X:=G46.addQ C2E (cbl Try.f20) (fun _=>rfl)

abbrev C3A:List Sh:=.junk::C4f
abbrev u17:=((),u16)
abbrev A8P:List PSh:=[.t (.int .i64)]
abbrev N7:SS:=⟨(tI::.junk::.junk::.t true .str::C3A),[]⟩
abbrev A9a:SS:=⟨(.junk::.junk::.junk::.t true .str::C3A),[]⟩
noncomputable def A8n (x0:Int) (x3:ByteArray):RT N7.den:=(.br (decide (x0 > (0:Int))) (.br (decide ((((⟨([IntKind.wrap .u8 (wI ((48:Int)+(Int.tmod x0 (10:Int))))].map fun n=>UInt8.ofNat n.toNat).toArray⟩:ByteArray).size+x3.size:Nat):Int)≤IntKind.i64.max)) (.next ((wI (Int.tdiv x0 (10:Int)),(),(),(⟨([IntKind.wrap .u8 (wI ((48:Int)+(Int.tmod x0 (10:Int))))].map fun n=>UInt8.ofNat n.toNat).toArray⟩:ByteArray)++x3,u17),())) .fail) (.done (.exit 0) A9a (((),(),(),x3,u17),())))
noncomputable def Z6 (x0:Int) (x3:ByteArray):CT:=(.br (decide (x0≤1000000000000)&&decide (x3.size≤1000)) (.done (.exit 0) A9a (((),(),(),(B5V 13 x0 x3),u17),())) .fail)
noncomputable abbrev M7:N7.den→RT N7.den:=(fun d=>A8n d.1.1 d.1.2.2.2.1)
noncomputable abbrev X4 (x0:Int) (x3:ByteArray):N7.den:=((x0,(),(),x3,u17),())
noncomputable def B1c:Code:=((D8 0 (A2d Try.f90)).getD 0 (0,.skip)).2
theorem B7W (x0:Int) (x3:ByteArray):(Z6 x0 x3).val (D:=N7.den)=.fail∨Runs M7 (X4 x0 x3) (Z6 x0 x3).val:=by
 cases hc:(decide (x0≤1000000000000)&&decide (x3.size≤1000)) with
 | false=>left;simp only [Z6,CT.val,hc,cond_false]
 | true =>
  right
  simp only [Z6,CT.val,hc,cond_true]
  simp only [Bool.and_eq_true,decide_eq_true_eq] at hc
  have key:∀ (k:Nat) (x:Int) (s:ByteArray),x<10 ^ k→x≤1000000000000→s.size+k≤2000→Runs M7 (X4 x s) (((.done (.exit 0) A9a (((),(),(),(B5V k x s),u17),())):CT).val (D:=N7.den)):=by
   intro k
   induction k with
   | zero =>
    intro x s h1 h2 h3
    rw [show (10:Int) ^ 0=1 from rfl] at h1
    have e1:decide (x > (0:Int))=false:=decide_eq_false (by omega)
    refine .done (by simp) ?_
    simp only [M7,A8n,RT.val,e1,cond_false,B5V]
   | succ k ih =>
    intro x s h1 h2 h3
    rw [Int.pow_succ] at h1
    by_cases hx:x > 0
    ·have e1:decide (x > (0:Int))=true:=decide_eq_true hx
     have e2:decide ((((B85 x).size+s.size:Nat):Int)≤IntKind.i64.max)=true:=decide_eq_true (by rw [B5Y,show IntKind.i64.max=9223372036854775807 from rfl];omega)
     have e4:Int.tdiv x (10:Int)=x / 10:=Int.tdiv_eq_ediv_of_nonneg (by omega)
     have e5:wI (Int.tdiv x (10:Int))=x / 10:=by rw [e4];exact A7v (by omega) (by omega)
     have:=ih (wI (Int.tdiv x (10:Int))) (B85 x++s) (by rw [e5];omega) (by rw [e5];omega) (by rw [ByteArray.size_append,B5Y];omega)
     refine .next (d':=X4 (wI (Int.tdiv x (10:Int))) (B85 x++s)) ?_ ?_
     ·have e6 : (M7 (X4 x s)).val = cond (decide ((((B85 x).size + s.size : Nat) : Int) ≤ IntKind.i64.max)) (.next (X4 (wI (Int.tdiv x (10 : Int))) (B85 x ++ s))) .fail := by
       simp only [M7,A8n,RT.val,e1,cond_true];rfl
      rw [e6,e2];rfl
     ·have e3:B5V (k+1) x s=B5V k (wI (Int.tdiv x (10:Int))) (B85 x++s):=by simp only [B5V,e1,cond_true]
      rw [e3]
      exact this
    ·have e1:decide (x > (0:Int))=false:=decide_eq_false hx
     refine .done (by simp) ?_
     simp only [M7,A8n,RT.val,e1,cond_false,B5V]
  exact key 13 x0 x3 (by have:=hc.1;rw [show (10:Int) ^ 13=10000000000000 from rfl];omega) hc.1 (by have:=hc.2;omega)
theorem B6M:RdA G47 aLn 0 B1c N7 0 [] (kepts [] [(0,[3])]) (fun d=>(M7 d).opt 0 []):=by
 intro d
 kernel_rfl
noncomputable abbrev B2d:St→Option Tree:=N7.say 0 [] [] (fun d=>Z6 d.1.1 d.1.2.2.2.1)
theorem B7t:aPL B2d B1c:=SS.wp2 hlz [] M7 B6M (fun d=>rfl) _ (fun d=>B7W d.1.1 d.1.2.2.2.1)
noncomputable def V3 (a0:Int):ByteArray:=(cond (decide (a0≤(0:Int))) (⟨#[109,48]⟩:ByteArray) ((⟨#[109]⟩:ByteArray)++(B5V 13 a0 bE)))
noncomputable abbrev B0n (r:ByteArray):AV×List AObj:=((.t true .str r),[])
noncomputable abbrev B2I:E7 A8P→AV×List AObj:=fun d=>B0n (V3 d.1)
noncomputable def M6 (a0:Int):Bool:=decide (a0≤1000000000000)
noncomputable abbrev B0M:E7 A8P→Bool:=fun d=>M6 d.1
noncomputable abbrev B9Q:Nat→St→Option Tree:=fun b=>match b with | 0=>B2d | _=>fun _=>none
theorem B8u:A7X true G47 (B9Q) Try.f90 A8P B0M B2I:=by
 rintro ⟨(a0:Int),_⟩ hp
 change M6 a0=true at hp
 unfold M6 at hp
 refine Eq.trans (b:=(cond (decide (a0≤(0:Int))) (some (B0n (⟨#[109,48]⟩:ByteArray))) (cond (decide (a0≤1000000000000)&&decide ((⟨#[]⟩:ByteArray).size≤1000)) (cond (decide ((((⟨#[109]⟩:ByteArray).size+(B5V 13 a0 (⟨#[]⟩:ByteArray)).size:Nat):Int)≤IntKind.i64.max)) (some (B0n ((⟨#[109]⟩:ByteArray)++(B5V 13 a0 (⟨#[]⟩:ByteArray))))) none) none))) (by kernel_rfl) ?_
 exact (M2 B0n (fun _h=>rfl) (fun _h=>(A70 (by rw [hp];rfl) (fun _h=>(A70 (by have h1:=C3g 13 a0 (⟨#[]⟩:ByteArray);rw [decide_eq_true_eq];have h2:((⟨#[]⟩:ByteArray)).size=0:=rfl;have h3:((⟨#[109]⟩:ByteArray)).size=1:=rfl;rw [h2] at h1;rw [h3,show IntKind.i64.max=9223372036854775807 from rfl];omega) (fun _h=>rfl))))))
theorem B93:aPP 90 (A2n A8P B0M B2I):=pcD true G47 (hl1 (i:=0) (by kernel_rfl) B7t) B8u
noncomputable def S48:Tab:=Tab.add S47 90 (lift (A2n A8P B0M B2I))
noncomputable def C4Y:FuncId→Bool:=qadd C4X 90
theorem G48:aPG S48 C4Y:=G47.addQ B93 (cbl Try.f90) (fun _=>rfl)

abbrev u31:=((),u30)

noncomputable def K9 (i:Nat) (b:Int×Lq1):Int×Lq1:=(wI ((wI ((wI (b.1+(1:Int)))+(1:Int)))+(1:Int)),((b.2.set i (b.1,(((b.2.getD i ((0:Int),(bE,bE))).2).1,((b.2.getD i ((0:Int),(bE,bE))).2).2))).set i (((b.2.set i (b.1,(((b.2.getD i ((0:Int),(bE,bE))).2).1,((b.2.getD i ((0:Int),(bE,bE))).2).2))).getD i ((0:Int),(bE,bE))).1,((V3 (wI (b.1+(1:Int)))),(((b.2.set i (b.1,(((b.2.getD i ((0:Int),(bE,bE))).2).1,((b.2.getD i ((0:Int),(bE,bE))).2).2))).getD i ((0:Int),(bE,bE))).2).2))).set i ((((b.2.set i (b.1,(((b.2.getD i ((0:Int),(bE,bE))).2).1,((b.2.getD i ((0:Int),(bE,bE))).2).2))).set i (((b.2.set i (b.1,(((b.2.getD i ((0:Int),(bE,bE))).2).1,((b.2.getD i ((0:Int),(bE,bE))).2).2))).getD i ((0:Int),(bE,bE))).1,((V3 (wI (b.1+(1:Int)))),(((b.2.set i (b.1,(((b.2.getD i ((0:Int),(bE,bE))).2).1,((b.2.getD i ((0:Int),(bE,bE))).2).2))).getD i ((0:Int),(bE,bE))).2).2))).getD i ((0:Int),(bE,bE))).1,(((((b.2.set i (b.1,(((b.2.getD i ((0:Int),(bE,bE))).2).1,((b.2.getD i ((0:Int),(bE,bE))).2).2))).set i (((b.2.set i (b.1,(((b.2.getD i ((0:Int),(bE,bE))).2).1,((b.2.getD i ((0:Int),(bE,bE))).2).2))).getD i ((0:Int),(bE,bE))).1,((V3 (wI (b.1+(1:Int)))),(((b.2.set i (b.1,(((b.2.getD i ((0:Int),(bE,bE))).2).1,((b.2.getD i ((0:Int),(bE,bE))).2).2))).getD i ((0:Int),(bE,bE))).2).2))).getD i ((0:Int),(bE,bE))).2).1,(V3 (wI ((wI (b.1+(1:Int)))+(1:Int)))))))
abbrev B0h:SS:=⟨[.all 0 3,tI],[.rows 124 true tq3]⟩
abbrev P5:SS:=⟨(.all 0 3::tI::.junk::.junk::.junk::tI::C21),[.rows 124 true tq3]⟩
abbrev A9J:SS:=⟨(.junk::tI::C22),[.rows 124 true tq3]⟩
noncomputable def B0X (x1 x5:Int) (h0:Lq1):RT P5.den:=let z4:=wI (x1+(1:Int));let z3:=wI (z4+(1:Int));let z5:=(h0.getD x5.toNat ((0:Int),(bE,bE))).2;let z2:=h0.set x5.toNat (x1,(z5.1,z5.2));let z7:=z2.getD x5.toNat ((0:Int),(bE,bE));let z1:=z2.set x5.toNat (z7.1,((V3 z4),(z7.2).2));let z6:=z1.getD x5.toNat ((0:Int),(bE,bE));(.br (decide (x5<(h0.length:Int))) (.br (decide (0≤x5∧x5<(h0.length:Int))) (.br (M6 z4) (.br (decide (0≤x5∧x5<((z2.length:Nat):Int))) (.br (M6 z3) (.br (decide (0≤x5∧x5<((z1.length:Nat):Int))) (.next (((),wI (z3+(1:Int)),(),(),(),wI (x5+(1:Int)),u31),(z1.set x5.toNat (z6.1,((z6.2).1,(V3 z3))),()))) .fail) .fail) .fail) .fail) .fail) (.done (.exit 0) A9J (((),x1,u35),(h0,()))))
noncomputable def A78 (x1 x5:Int) (h0:Lq1):CT:=(.br (decide (0≤x5)&&(decide (0≤x1∧x1≤100000*(x5+100))&&okL h0)) (.done (.exit 0) A9J (((),((foldN K9 (h0.length - x5.toNat) x5.toNat (x1,h0)).1),u35),(((foldN K9 (h0.length - x5.toNat) x5.toNat (x1,h0)).2),()))) .fail)
noncomputable abbrev V6:P5.den→RT P5.den:=(fun d=>B0X d.1.2.1 d.1.2.2.2.2.2.1 d.2.1)
noncomputable abbrev B3Y (x1 x5:Int) (h0:Lq1):P5.den:=(((),x1,(),(),(),x5,u31),(h0,()))
noncomputable def B14:Code:=((D8 0 (A2d Try.f69)).getD 0 (0,.skip)).2
theorem B8S (x1 x5:Int) (h0:Lq1):(A78 x1 x5 h0).val (D:=P5.den)=.fail∨Runs V6 (B3Y x1 x5 h0) (A78 x1 x5 h0).val:=by
 cases hc:(decide (0≤x5)&&(decide (0≤x1∧x1≤100000*(x5+100))&&okL h0)) with
 | false=>left;simp only [A78,CT.val,hc,cond_false]
 | true =>
  right
  simp only [A78,CT.val,hc,cond_true]
  simp only [Bool.and_eq_true,decide_eq_true_eq] at hc
  obtain ⟨i,rfl⟩:=Int.eq_ofNat_of_zero_le hc.1
  have hs:=A7N hc.2.2
  have hk:=hc.2.1
  simp only [Int.toNat_natCast]
  refine Runs.foldN (step:=V6) (fun j b=>B3Y b.1 (j:Int) b.2) (fun i b=>(0≤b.1∧b.1≤100000*((i:Int)+100))∧b.2.length=h0.length) (h0.length) K9
   (fin:=fun b=>((.done (.exit 0) A9J (((),b.1,u35),(b.2,()))):CT).val) (fun i b hi hb=>?_) (fun i b hi hb=>?_) (h0.length - i) i (x1,h0) rfl ⟨hk,rfl⟩
  ·obtain ⟨k,h⟩:=b
   obtain ⟨hb1,hb2⟩:=hb
   simp only at hb1 hb2
   have w1:wI (k+(1:Int))=k+(1:Int):=A7v (by omega) (by omega)
   have w2:wI (k+(1:Int)+(1:Int))=k+(1:Int)+(1:Int):=A7v (by omega) (by omega)
   have w3:wI (k+(1:Int)+(1:Int)+(1:Int))=k+(1:Int)+(1:Int)+(1:Int):=A7v (by omega) (by omega)
   have e0:(decide (0≤(i:Int)∧(i:Int)<(h.length:Int)))=true:=decide_eq_true (by (try simp only [List.length_set]);omega)
   have e1:(M6 (wI (k+(1:Int))))=true:=by simp only [M6,w1,w2,w3];exact decide_eq_true (by omega)
   have e2:(decide (0≤(i:Int)∧(i:Int)<(((h.set i (k,(((h.getD i ((0:Int),((⟨#[]⟩:ByteArray),(⟨#[]⟩:ByteArray)))).2).1,((h.getD i ((0:Int),((⟨#[]⟩:ByteArray),(⟨#[]⟩:ByteArray)))).2).2))).length:Nat):Int)))=true:=decide_eq_true (by (try simp only [List.length_set]);omega)
   have e3:(M6 (wI ((wI (k+(1:Int)))+(1:Int))))=true:=by simp only [M6,w1,w2,w3];exact decide_eq_true (by omega)
   have e4:(decide (0≤(i:Int)∧(i:Int)<((((h.set i (k,(((h.getD i ((0:Int),((⟨#[]⟩:ByteArray),(⟨#[]⟩:ByteArray)))).2).1,((h.getD i ((0:Int),((⟨#[]⟩:ByteArray),(⟨#[]⟩:ByteArray)))).2).2))).set i (((h.set i (k,(((h.getD i ((0:Int),((⟨#[]⟩:ByteArray),(⟨#[]⟩:ByteArray)))).2).1,((h.getD i ((0:Int),((⟨#[]⟩:ByteArray),(⟨#[]⟩:ByteArray)))).2).2))).getD i ((0:Int),((⟨#[]⟩:ByteArray),(⟨#[]⟩:ByteArray)))).1,((V3 (wI (k+(1:Int)))),(((h.set i (k,(((h.getD i ((0:Int),((⟨#[]⟩:ByteArray),(⟨#[]⟩:ByteArray)))).2).1,((h.getD i ((0:Int),((⟨#[]⟩:ByteArray),(⟨#[]⟩:ByteArray)))).2).2))).getD i ((0:Int),((⟨#[]⟩:ByteArray),(⟨#[]⟩:ByteArray)))).2).2))).length:Nat):Int)))=true:=decide_eq_true (by (try simp only [List.length_set]);omega)
   have h1:decide ((i:Int)<(h.length:Int))=true:=decide_eq_true (by omega)
   have v1:(K9 i (k,h)).1=k+(1:Int)+(1:Int)+(1:Int):=by simp only [K9,w1,w2,w3]
   have v2:(K9 i (k,h)).2.length=h.length:=by simp only [K9,List.length_set]
   refine ⟨⟨by rw [v1];omega,by rw [v2];exact hb2⟩,?_⟩
   simp only [V6,B0X,RT.val,h1,e0,e1,e2,e3,e4,cond_true,A7V i (by omega),Int.toNat_natCast]
   rfl
  ·have h1:decide ((i:Int)<(b.2.length:Int))=false:=decide_eq_false (by omega)
   exact ⟨by simp only [V6,B0X,RT.val,h1,cond_false];rfl,_,_,_,rfl,by simp⟩
noncomputable def B3S (x1 x5:Int) (h0:Lq1):Option (Ex×St):=let z4:=wI (x1+(1:Int));let z3:=wI (z4+(1:Int));let z5:=(h0.getD x5.toNat ((0:Int),(bE,bE))).2;let z2:=h0.set x5.toNat (x1,(z5.1,z5.2));let z7:=z2.getD x5.toNat ((0:Int),(bE,bE));let z1:=z2.set x5.toNat (z7.1,((V3 z4),(z7.2).2));let z6:=z1.getD x5.toNat ((0:Int),(bE,bE));(cond (decide (x5<(h0.length:Int))) (cond (decide (0≤x5∧x5<(h0.length:Int))) (cond (M6 z4) (cond (decide (0≤x5∧x5<((z2.length:Nat):Int))) (cond (M6 z3) (cond (decide (0≤x5∧x5<((z1.length:Nat):Int))) (some (.normal,(⟨((.all 0 3)::(ti (wI (z3+(1:Int))))::.junk::.junk::.junk::(ti (wI (x5+(1:Int))))::C2X),[(.rows 124 true tq3 (z1.set x5.toNat (z6.1,((z6.2).1,(V3 z3)))))],1,[]⟩:St))) none) none) none) none) none) (some ((.exit 0),(⟨(.junk::(ti x1)::C2Y),[(.rows 124 true tq3 h0)],1,[]⟩:St))))
theorem B7B:RdA G48 aLn 0 B14 P5 1 [] (kepts [] [(0,[1])]) (fun d=>B3S d.1.2.1 d.1.2.2.2.2.2.1 d.2.1):=by
 intro d
 kernel_rfl
theorem B7I:∀ d:P5.den,(fun d=>B3S d.1.2.1 d.1.2.2.2.2.2.1 d.2.1) d=(V6 d).opt 1 []:=by
 intro d
 kernel_rfl
noncomputable abbrev B25:St→Option Tree:=P5.say 1 [] [] (fun d=>A78 d.1.2.1 d.1.2.2.2.2.2.1 d.2.1)
theorem B71:aPL B25 B14:=SS.wp2 hlz [] V6 B7B B7I _ (fun d=>B8S d.1.2.1 d.1.2.2.2.2.2.1 d.2.1)
noncomputable def A83 (x1:Int) (h0:Lq1):Int×Lq1:=let z1:=foldN K9 (h0.length - (0:Int).toNat) (0:Int).toNat (x1,h0);((z1.1),(z1.2))
noncomputable abbrev B65 (r:Int×Lq1):AV×List AObj×List Nat:=((ti r.1),[(.rows 124 true tq3 r.2)],[])
noncomputable abbrev B7h:B0h.den→AV×List AObj×List Nat:=fun d=>B65 (A83 d.1.2.1 d.2.1)
noncomputable def A8z (x1:Int) (h0:Lq1):Bool:=okL h0&&decide (0≤x1∧x1≤10000000)
noncomputable abbrev B5p:B0h.den→Bool:=fun d=>A8z d.1.2.1 d.2.1
noncomputable abbrev C0J:Nat→St→Option Tree:=fun b=>match b with | 0=>B25 | _=>fun _=>none
theorem B9J:A7W G48 (C0J) Try.f69 B0h B5p B7h:=by
 rintro ⟨⟨_,x1,_⟩,⟨h0,_⟩⟩ hp
 change A8z x1 h0=true at hp
 unfold A8z at hp
 refine Eq.trans (b:=(let z1:=foldN K9 (h0.length - (0:Int).toNat) (0:Int).toNat (x1,h0);cond (decide (0≤(0:Int))&&(decide (0≤x1∧x1≤100000*((0:Int)+100))&&okL h0)) (some (B65 ((z1.1),(z1.2)))) none)) (by kernel_rfl) ?_
 exact (A70 (by first | rfl | decide | exact hp | (simp only [Bool.and_eq_true] at hp;simp only [hp];done) | (simp [*];done) | (simp [okL] at hp;simp [okL,MAXB];omega) | (simp_all;done) | (simp at *;omega)) (fun _h=>rfl))
noncomputable abbrev B7v:=win A0B (msum B0h B5p B7h)
theorem C0Y:aPM 69 B7v:=(mcM G48 (hl1 (i:=0) (by kernel_rfl) B71) B9J).win A0B
noncomputable def S49:Tab:=Tab.add S48 69 (B7v)
noncomputable def C4Z:FuncId→Bool:=C4Y
theorem G49:aPG S49 C4Z:=G48.addM C0Y (A7y _) (cbl Try.f69) (by kernel_rfl)

abbrev B0i:SS:=⟨[.agg [.t true (.int .i64),.t true (.int .i64),.all 0 3],tI],[.rows 124 true tq3]⟩
noncomputable def B2K (x0_0 x0_1 x1:Int) (h0:Lq1):Int×Lq1:=(((A83 x1 h0).1),((A83 x1 h0).2))
noncomputable abbrev B66 (r:Int×Lq1):AV×List AObj×List Nat:=((ti r.1),[(.rows 124 true tq3 r.2)],[])
noncomputable abbrev B7i:B0i.den→AV×List AObj×List Nat:=fun d=>B66 (B2K d.1.1.1 d.1.1.2.1 d.1.2.1 d.2.1)
noncomputable def A8A (x0_0 x0_1 x1:Int) (h0:Lq1):Bool:=A8z x1 h0
noncomputable abbrev B5q:B0i.den→Bool:=fun d=>A8A d.1.1.1 d.1.1.2.1 d.1.2.1 d.2.1
theorem B9K:A7W G49 aLn Try.f21 B0i B5q B7i:=by
 rintro ⟨⟨⟨x0_0,x0_1,_,_⟩,x1,_⟩,⟨h0,_⟩⟩ hp
 change A8A x0_0 x0_1 x1 h0=true at hp
 unfold A8A at hp
 refine Eq.trans (b:=(cond (A8z x1 h0) (some (B66 (((A83 x1 h0).1),((A83 x1 h0).2)))) none)) (by kernel_rfl) ?_
 exact (A70 hp fun _h=>rfl)
noncomputable abbrev B7w:=win A0B (msum B0i B5q B7i)
theorem C0Z:aPM 21 B7w:=(mcM G49 hlz B9K).win A0B
noncomputable def S50:Tab:=Tab.add S49 21 (B7w)
noncomputable def C40:FuncId→Bool:=C4Z
theorem G50:aPG S50 C40:=G49.addM C0Z (A7y _) (cbl Try.f21) (by kernel_rfl)


noncomputable def K1 (i:Nat) (b:Int×List Int):Int×List Int:=(wI (b.1+(1:Int)),b.2.set i (IntKind.wrap .u8 b.1))
abbrev A8F:SS:=⟨[.all 0 1,tI],[.rows 5 true (.int .u8)]⟩
abbrev O5:SS:=⟨(.all 0 1::tI::.junk::.junk::.junk::tI::C3z),[.rows 5 true (.int .u8)]⟩
abbrev A8q:SS:=⟨(.junk::tI::C4g),[.rows 5 true (.int .u8)]⟩
noncomputable def A9o (x1 x5:Int) (h0:List Int):RT O5.den:=(.br (decide (x5<(h0.length:Int))) (.br (decide (0≤x5∧x5<(h0.length:Int))) (.next (((),wI (x1+(1:Int)),(),(),(),wI (x5+(1:Int)),u15),(h0.set x5.toNat (IntKind.wrap .u8 x1),()))) .fail) (.done (.exit 0) A8q (((),x1,u19),(h0,()))))
noncomputable def X1 (x1 x5:Int) (h0:List Int):CT:=(.br (decide (0≤x5)&&(decide (0≤x1∧x1≤100000*(x5+100))&&okL h0)) (.done (.exit 0) A8q (((),((foldN K1 (h0.length - x5.toNat) x5.toNat (x1,h0)).1),u19),(((foldN K1 (h0.length - x5.toNat) x5.toNat (x1,h0)).2),()))) .fail)
noncomputable abbrev P2:O5.den→RT O5.den:=(fun d=>A9o d.1.2.1 d.1.2.2.2.2.2.1 d.2.1)
noncomputable abbrev B18 (x1 x5:Int) (h0:List Int):O5.den:=(((),x1,(),(),(),x5,u15),(h0,()))
noncomputable def B0l:Code:=((D8 0 (A2d Try.f22)).getD 0 (0,.skip)).2
theorem B6X (x1 x5:Int) (h0:List Int):(X1 x1 x5 h0).val (D:=O5.den)=.fail∨Runs P2 (B18 x1 x5 h0) (X1 x1 x5 h0).val:=by
 cases hc:(decide (0≤x5)&&(decide (0≤x1∧x1≤100000*(x5+100))&&okL h0)) with
 | false=>left;simp only [X1,CT.val,hc,cond_false]
 | true =>
  right
  simp only [X1,CT.val,hc,cond_true]
  simp only [Bool.and_eq_true,decide_eq_true_eq] at hc
  obtain ⟨i,rfl⟩:=Int.eq_ofNat_of_zero_le hc.1
  have hs:=A7N hc.2.2
  have hk:=hc.2.1
  simp only [Int.toNat_natCast]
  refine Runs.foldN (step:=P2) (fun j b=>B18 b.1 (j:Int) b.2) (fun i b=>(0≤b.1∧b.1≤100000*((i:Int)+100))∧b.2.length=h0.length) (h0.length) K1
   (fin:=fun b=>((.done (.exit 0) A8q (((),b.1,u19),(b.2,()))):CT).val) (fun i b hi hb=>?_) (fun i b hi hb=>?_) (h0.length - i) i (x1,h0) rfl ⟨hk,rfl⟩
  ·obtain ⟨k,h⟩:=b
   obtain ⟨hb1,hb2⟩:=hb
   simp only at hb1 hb2
   have w1:wI (k+(1:Int))=k+(1:Int):=A7v (by omega) (by omega)
   have e0:(decide (0≤(i:Int)∧(i:Int)<(h.length:Int)))=true:=decide_eq_true (by (try simp only [List.length_set]);omega)
   have h1:decide ((i:Int)<(h.length:Int))=true:=decide_eq_true (by omega)
   have v1:(K1 i (k,h)).1=k+(1:Int):=by simp only [K1,w1]
   have v2:(K1 i (k,h)).2.length=h.length:=by simp only [K1,List.length_set]
   refine ⟨⟨by rw [v1];omega,by rw [v2];exact hb2⟩,?_⟩
   simp only [P2,A9o,RT.val,h1,e0,cond_true,A7V i (by omega),Int.toNat_natCast]
   rfl
  ·have h1:decide ((i:Int)<(b.2.length:Int))=false:=decide_eq_false (by omega)
   exact ⟨by simp only [P2,A9o,RT.val,h1,cond_false];rfl,_,_,_,rfl,by simp⟩
theorem B6n:RdA G50 aLn 0 B0l O5 1 [] (kepts [] [(0,[1])]) (fun d=>(P2 d).opt 1 []):=by
 intro d
 kernel_rfl
noncomputable abbrev B1n:St→Option Tree:=O5.say 1 [] [] (fun d=>X1 d.1.2.1 d.1.2.2.2.2.2.1 d.2.1)
theorem B6L:aPL B1n B0l:=SS.wp2 hlz [] P2 B6n (fun d=>rfl) _ (fun d=>B6X d.1.2.1 d.1.2.2.2.2.2.1 d.2.1)
noncomputable def A0k (x1:Int) (h0:List Int):Int×List Int:=let z1:=foldN K1 (h0.length - (0:Int).toNat) (0:Int).toNat (x1,h0);((z1.1),(z1.2))
noncomputable abbrev B42 (r:Int×List Int):AV×List AObj×List Nat:=((ti r.1),[(.rows 5 true (.int .u8) r.2)],[])
noncomputable abbrev B49:A8F.den→AV×List AObj×List Nat:=fun d=>B42 (A0k d.1.2.1 d.2.1)
noncomputable def Z1 (x1:Int) (h0:List Int):Bool:=okL h0&&decide (0≤x1∧x1≤10000000)
noncomputable abbrev B2R:A8F.den→Bool:=fun d=>Z1 d.1.2.1 d.2.1
noncomputable abbrev B8P:Nat→St→Option Tree:=fun b=>match b with | 0=>B1n | _=>fun _=>none
theorem B7S:A7W G50 (B8P) Try.f22 A8F B2R B49:=by
 rintro ⟨⟨_,x1,_⟩,⟨h0,_⟩⟩ hp
 change Z1 x1 h0=true at hp
 unfold Z1 at hp
 refine Eq.trans (b:=(let z1:=foldN K1 (h0.length - (0:Int).toNat) (0:Int).toNat (x1,h0);cond (decide (0≤(0:Int))&&(decide (0≤x1∧x1≤100000*((0:Int)+100))&&okL h0)) (some (B42 ((z1.1),(z1.2)))) none)) (by kernel_rfl) ?_
 exact (A70 (by first | rfl | decide | exact hp | (simp only [Bool.and_eq_true] at hp;simp only [hp];done) | (simp [*];done) | (simp [okL] at hp;simp [okL,MAXB];omega) | (simp_all;done) | (simp at *;omega)) (fun _h=>rfl))
noncomputable abbrev B5c:=win A0B (msum A8F B2R B49)
theorem B83:aPM 22 B5c:=(mcM G50 (hl1 (i:=0) (by kernel_rfl) B6L) B7S).win A0B
noncomputable def S51:Tab:=Tab.add S50 22 (B5c)
noncomputable def C41:FuncId→Bool:=C40
theorem G51:aPG S51 C41:=G50.addM B83 (A7y _) (cbl Try.f22) (by kernel_rfl)

abbrev C6m:List Sh:=.junk::C3A
abbrev u18:=((),u17)

noncomputable def K0 (x0:List Int) (i:Nat) (k:Int):Int ⊕ Unit:=(cond ((x0.getD i (0:Int)) != (IntKind.wrap .u8 k)) (.inr ()) (.inl (wI (k+(1:Int)))))
abbrev A74:List PSh:=[.t P1,.t (.int .i64)]
abbrev O4:SS:=⟨(.t false P1::tI::.junk::.junk::.junk::tI::C3A),[]⟩
abbrev Y4:SS:=⟨(.junk::.junk::.junk::.junk::tI::C6m),[]⟩
abbrev A8p:SS:=⟨(.junk::tI::C5o),[]⟩
noncomputable def A9n (x0:List Int) (x1 x5:Int):RT O4.den:=(.br (decide (x5<(x0.length:Int))) (.br (decide (0≤x5∧x5<(x0.length:Int))) (.br ((x0.getD x5.toNat (0:Int)) != (IntKind.wrap .u8 x1)) (.done .ret Y4 (((),(),(),(),(-1:Int),u18),())) (.next ((x0,wI (x1+(1:Int)),(),(),(),wI (x5+(1:Int)),u17),()))) .fail) (.done (.exit 0) A8p (((),x1,u21),())))
noncomputable def X0 (x0:List Int) (x1 x5:Int):CT:=(.br (decide (0≤x5)&&(decide (0≤x1∧x1≤100000*(x5+100))&&okL x0)) (.br (A7U (loopN (K0 x0) (x0.length - x5.toNat) x5.toNat x1)) (.done (.exit 0) A8p (((),(A7M (-1) (loopN (K0 x0) (x0.length - x5.toNat) x5.toNat x1)),u21),())) (.done .ret Y4 (((),(),(),(),(-1:Int),u18),()))) .fail)
noncomputable abbrev M9:O4.den→RT O4.den:=(fun d=>A9n d.1.1 d.1.2.1 d.1.2.2.2.2.2.1)
noncomputable abbrev A0c (x0:List Int) (x1 x5:Int):O4.den:=((x0,x1,(),(),(),x5,u17),())
noncomputable def B0k:Code:=((D8 0 (A2d Try.f23)).getD 0 (0,.skip)).2
theorem B6W (x0:List Int) (x1 x5:Int):(X0 x0 x1 x5).val (D:=O4.den)=.fail∨Runs M9 (A0c x0 x1 x5) (X0 x0 x1 x5).val:=by
 cases hc:(decide (0≤x5)&&(decide (0≤x1∧x1≤100000*(x5+100))&&okL x0)) with
 | false=>left;simp only [X0,CT.val,hc,cond_false]
 | true =>
  right
  simp only [X0,CT.val,hc,cond_true]
  simp only [Bool.and_eq_true,decide_eq_true_eq] at hc
  obtain ⟨i,rfl⟩:=Int.eq_ofNat_of_zero_le hc.1
  have hs:=A7N hc.2.2
  have hk:=hc.2.1
  simp only [Int.toNat_natCast]
  have h:=Runs.loopN (step:=M9) (fun j b=>A0c x0 b (j:Int)) (fun i b=>0≤b∧b≤100000*((i:Int)+100)) (x0.length) (K0 x0)
   (fin:=fun b=>((.done (.exit 0) A8p (((),b,u21),())):CT).val) (bad:=fun _=>((.done .ret Y4 (((),(),(),(),(-1:Int),u18),())):CT).val)
   (fun i b hi hb=>?_) (fun i b hi hb=>?_) (x0.length - i) i x1 rfl hk
  ·revert h
   cases loopN (K0 x0) (x0.length - i) i x1 with
   | inl b=>exact id
   | inr c=>exact id
  ·revert hb
   generalize b=k
   intro hb
   have w1:wI (k+(1:Int))=k+(1:Int):=A7v (by omega) (by omega)
   have e0:(decide (0≤(i:Int)∧(i:Int)<(x0.length:Int)))=true:=decide_eq_true (by omega)
   have h1:decide ((i:Int)<(x0.length:Int))=true:=decide_eq_true (by omega)
   have e:(M9 (A0c x0 k (i:Int))).val=(cond ((x0.getD i (0:Int)) != (IntKind.wrap .u8 k)) ((.done .ret Y4 (((),(),(),(),(-1:Int),u18),())):CT).val (.next (A0c x0 (wI (k+(1:Int))) ((i+1:Nat):Int)))):=by
    simp only [M9,A9n,RT.val,h1,e0,cond_true,A7V i (by omega),Int.toNat_natCast]
    rfl
   cases g0:((x0.getD i (0:Int)) != (IntKind.wrap .u8 k)) with
   | true=>exact .inr ⟨(),_,_,_,by simp only [K0,g0,cond_true,cond_false],by rw [e,g0];rfl,rfl,by simp⟩
   | false =>
    exact .inl ⟨wI (k+(1:Int)),by simp only [K0,g0,cond_false],by rw [w1];omega,by rw [e,g0];rfl⟩
  ·have h1:decide ((i:Int)<(x0.length:Int))=false:=decide_eq_false (by omega)
   exact ⟨by simp only [M9,A9n,RT.val,h1,cond_false];rfl,_,_,_,rfl,by simp⟩
theorem B6m:RdA G51 aLn 0 B0k O4 0 [] (kepts [4] [(0,[1])]) (fun d=>(M9 d).opt 0 []):=by
 intro d
 kernel_rfl
noncomputable abbrev B1m:St→Option Tree:=O4.say 0 [] [] (fun d=>X0 d.1.1 d.1.2.1 d.1.2.2.2.2.2.1)
theorem B6K:aPL B1m B0k:=SS.wp2 hlz [] M9 B6m (fun d=>rfl) _ (fun d=>B6W d.1.1 d.1.2.1 d.1.2.2.2.2.2.1)
noncomputable def A8v (a0:List Int) (a1:Int):Int:=let z1:=loopN (K0 a0) (a0.length - (0:Int).toNat) (0:Int).toNat a1;(cond (A7U z1) (A7M (-1) z1) (-1:Int))
noncomputable abbrev A9u (r:Int):AV×List AObj:=((ti r),[])
noncomputable abbrev B1G:E7 A74→AV×List AObj:=fun d=>A9u (A8v d.1 d.2.1)
noncomputable def Z0 (a0:List Int) (a1:Int):Bool:=okL a0&&decide (0≤a1∧a1≤10000000)
noncomputable abbrev B0b:E7 A74→Bool:=fun d=>Z0 d.1 d.2.1
noncomputable abbrev B8O:Nat→St→Option Tree:=fun b=>match b with | 0=>B1m | _=>fun _=>none
theorem B7R:A7X true G51 (B8O) Try.f23 A74 B0b B1G:=by
 rintro ⟨a0,⟨a1,_⟩⟩ hp
 change Z0 a0 a1=true at hp
 unfold Z0 at hp
 refine Eq.trans (b:=(let z1:=loopN (K0 a0) (a0.length - (0:Int).toNat) (0:Int).toNat a1;cond (decide (0≤(0:Int))&&(decide (0≤a1∧a1≤100000*((0:Int)+100))&&okL a0)) (cond (A7U z1) (some (A9u (A7M (-1) z1))) (some (A9u (-1:Int)))) none)) (by kernel_rfl) ?_
 exact (A70 (by first | rfl | decide | exact hp | (simp only [Bool.and_eq_true] at hp;simp only [hp];done) | (simp [*];done) | (simp [okL] at hp;simp [okL,MAXB];omega) | (simp_all;done) | (simp at *;omega)) (fun _h=>(M2 A9u (fun _h=>rfl) (fun _h=>rfl))))
theorem B82:aPP 23 (A2n A74 B0b B1G):=pcD true G51 (hl1 (i:=0) (by kernel_rfl) B6K) B7R
noncomputable def S52:Tab:=Tab.add S51 23 (lift (A2n A74 B0b B1G))
noncomputable def C6e:FuncId→Bool:=qadd C41 23
theorem G52:aPG S52 C6e:=G51.addQ B82 (cbl Try.f23) (fun _=>rfl)


end Go.Proofs.Ytccelbeahdcooaa.Eng
