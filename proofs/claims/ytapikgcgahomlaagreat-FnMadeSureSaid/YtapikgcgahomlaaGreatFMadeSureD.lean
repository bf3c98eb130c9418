/- What the functions that FnMadeSure reaches compute: further. -/
import Derived.Test.YtapikgcgahomlaaGreatFMadeSureC
namespace Go.Proofs.YtapikgcgahomlaaGreat.Eng
open Go Go.RowKit
set_option linter.unusedSimpArgs false
set_option linter.unusedVariables false
set_option maxRecDepth 10000
abbrev V9:SS:=⟨[.t false tq9,.fn 60 [0]],[.box [tI]]⟩
abbrev H3:SS:=⟨(.t false tq9::.fn 60 [0]::.junk::.junk::.junk::.junk::.junk::tI::tI::E81),[.box [tI]]⟩
abbrev A3k:SS:=⟨(.junk::.junk::.junk::.junk::tI::D52),[.box [tI]]⟩
abbrev A27:SS:=⟨(.junk::E4j),[.box [tI]]⟩
noncomputable def A1h (x0:LIbe) (x8 p0:Int):=let z1:=x0.getD x8.toNat ((0:Int),false);A80 (z1.1) (z1.2) p0
noncomputable def A3t (x0:LIbe) (x7 x8 p0:Int):RT H3.den:=(.br (decide (x8<x7)) (.br (decide (0≤x8∧x8<(x0.length:Int))) (.br (A1h x0 x8 p0) (.done .ret A3k (((),(),(),(),x8,u15),((p0,()),()))) (.next ((x0,(),(),(),(),(),(),x7,wI (x8+(1:Int)),u11),((p0,()),())))) .fail) (.done (.exit 0) A27 ((u20),((p0,()),()))))
abbrev U3:=(LIbe)×(Int)×(Int)
abbrev O2:=Nat×(Int)
def A3z:O2:=(99,((0:Int):Int))
noncomputable def R8 (x0:LIbe) (x7 x8 p0:Int):U3 ⊕ O2:=(cond (decide (x8<x7)) (cond (decide (0≤x8∧x8<(x0.length:Int))) (cond (A1h x0 x8 p0) (.inr (0,x8)) (.inl (x0,x7,wI (x8+(1:Int))))) (.inr A3z)) (.inr (1,((0:Int):Int))))
noncomputable def N2 (x0:LIbe) (x7 x8 p0:Int):O2:=itX (fun v:U3=>R8 v.1 v.2.1 v.2.2 p0) A3z (x0,x7,x8)
noncomputable def A0t (p0:Int) (a:O2):CT:=(.br (a.1==0) (.done .ret A3k (((),(),(),(),a.2,u15),((p0,()),()))) (.br (a.1==1) (.done (.exit 0) A27 ((u20),((p0,()),()))) .fail))
noncomputable def B2f (x0:LIbe) (x7 x8 p0:Int):CT:=(A0t p0) (N2 x0 x7 x8 p0)
noncomputable abbrev A3r {α:Sort _} (f:LIbe→Int→Int→Int→α) (d:H3.den):α:=f d.1.1 d.1.2.2.2.2.2.2.2.1 d.1.2.2.2.2.2.2.2.2.1 d.2.1.1
noncomputable abbrev A0I:H3.den→RT H3.den:=(A3r A3t)
noncomputable def A2N:Code:=((A6 0 (B4 Tryz.f59)).getD 0 (0,.skip)).2
noncomputable abbrev A3q (p0:Int) (v:U3):H3.den:=((v.1,(),(),(),(),(),(),v.2.1,v.2.2,u11),((p0,()),()))
theorem B1y (p0:Int):(∀ v:U3,(A3t v.1 v.2.1 v.2.2 p0).val=R5 (A3q p0) (A0t p0) (R8 v.1 v.2.1 v.2.2 p0))∧∀ a:O2,CEnd H3.den ((A0t p0) a):=⟨fun v=>(B3 (B3 (B3 rfl rfl) rfl) rfl),fun a=>(C5 aCD (C5 aCD K7))⟩
theorem B0v:RdA E9a aLn 0 A2N H3 1 [] (kepts [4] [(0,[])]) (fun d=>(A0I d).opt 1 []):=by
 intro d
 kernel_rfl
noncomputable abbrev A29:St→Option Tree:=H3.say 1 [] [] (A3r B2f)
theorem B1X:aPL A29 A2N:=SS.wp2 hlz [] A0I B0v (fun d=>rfl) _ (fun d=>Runs.ofI2 (step:=A0I) (A3q d.2.1.1) (B1y d.2.1.1) rfl (d.1.1,d.1.2.2.2.2.2.2.2.1,d.1.2.2.2.2.2.2.2.2.1))
noncomputable def A0o (x0:LIbe) (p0:Int):Int:=let z1:=N2 x0 (x0.length:Int) (0:Int) p0;(cond (z1.1==0) (z1.2) (-1:Int))
noncomputable abbrev W9 (p0 r:Int):AV×List AObj×List Nat:=((ti r),[(.box [(ti p0)])],[])
noncomputable abbrev A5w:V9.den→AV×List AObj×List Nat:=fun d=>W9 d.2.1.1 (A0o d.1.1 d.2.1.1)
noncomputable def M4 (x0:LIbe) (p0:Int):Bool:=let z1:=N2 x0 (x0.length:Int) (0:Int) p0;cond (z1.1==0) true (z1.1==1)
noncomputable abbrev A4g:V9.den→Bool:=fun d=>M4 d.1.1 d.2.1.1
noncomputable abbrev B48:Nat→St→Option Tree:=fun b=>match b with | 0=>A29 | _=>fun _=>none
theorem B2h:B0e E9a (B48) Tryz.f59 V9 A4g A5w:=by
 rintro ⟨⟨x0,_,_⟩,⟨⟨p0,_⟩,_⟩⟩ hp
 change M4 x0 p0=true at hp
 unfold M4 at hp
 refine Eq.trans (b:=(let z1:=N2 x0 (x0.length:Int) (0:Int) p0;cond (z1.1==0) (some (W9 p0 (z1.2))) (cond (z1.1==1) (some (W9 p0 (-1:Int))) none))) (by kernel_rfl) ?_
 exact (A9 (W9 p0) hp (fun hp=>rfl) (fun hp=>(B7 hp fun _h=>rfl)))
noncomputable abbrev A5z:=winQ (msum V9 A4g A5w)
theorem B4M:aPM 59 A5z:=(mcM E9a (hl1 (i:=0) (by kernel_rfl) B1X) B2h).winQ (A2F fun d=>⟨rfl,rfl⟩)
noncomputable def F28:Tab:=Tab.add F3x 59 (A5z)
noncomputable def F0h:FuncId→Bool:=qadd F0r 59
theorem F0S:aPG F28 F0h:=E9a.addMQ B4M (A1Q _) (cbl Tryz.f59) (A04 _)

abbrev A3R:SS:=⟨[.ptr 0 0 1 0,tI],[.box [tI,tI,tI,.t false tq6,.t false tq9,tI]]⟩
noncomputable def U0 (x1 p0 p1 p2:Int) (p3:LT1) (p4:LIbe) (p5:Int):Int:=(A0o p4 x1)
noncomputable abbrev B6l (p0 p1 p2:Int) (p3:LT1) (p4:LIbe) (p5 r:Int):AV×List AObj×List Nat:=((ti r),[(.box [(ti p0),(ti p1),(ti p2),(.t false tq6 p3),(.t false tq9 p4),(ti p5)])],[])
noncomputable abbrev B50:A3R.den→AV×List AObj×List Nat:=fun d=>B6l d.2.1.1 d.2.1.2.1 d.2.1.2.2.1 d.2.1.2.2.2.1 d.2.1.2.2.2.2.1 d.2.1.2.2.2.2.2.1 (U0 d.1.2.1 d.2.1.1 d.2.1.2.1 d.2.1.2.2.1 d.2.1.2.2.2.1 d.2.1.2.2.2.2.1 d.2.1.2.2.2.2.2.1)
noncomputable def M9 (x1 p0 p1 p2:Int) (p3:LT1) (p4:LIbe) (p5:Int):Bool:=M4 p4 x1
noncomputable abbrev B2M:A3R.den→Bool:=fun d=>M9 d.1.2.1 d.2.1.1 d.2.1.2.1 d.2.1.2.2.1 d.2.1.2.2.2.1 d.2.1.2.2.2.2.1 d.2.1.2.2.2.2.2.1
theorem C4R:B0e F0S aLn Tryz.f37 A3R B2M B50:=by
 rintro ⟨⟨_,x1,_⟩,⟨⟨p0,p1,p2,p3,p4,p5,_⟩,_⟩⟩ hp
 change M9 x1 p0 p1 p2 p3 p4 p5=true at hp
 unfold M9 at hp
 refine Eq.trans (b:=(cond (M4 p4 x1) (some (B6l p0 p1 p2 p3 p4 p5 (A0o p4 x1))) none)) (by kernel_rfl) ?_
 exact (B7 hp fun _h=>rfl)
noncomputable abbrev B5H:=winQ (msum A3R B2M B50)
theorem C7u:aPM 37 B5H:=(mcM F0S hlz C4R).winQ (A2F fun d=>⟨rfl,rfl⟩)
noncomputable def F14:Tab:=Tab.add F28 37 (B5H)
noncomputable def F0f:FuncId→Bool:=qadd F0h 37
theorem E9x:aPG F14 F0f:=F0S.addMQ C7u (A1Q _) (cbl Tryz.f37) (A04 _)

abbrev C8M:List PSh:=[.t .str]
abbrev B0r:SS:=⟨(.t true .str::.junk::.junk::.t true (.int .u32)::tI::E4F),[]⟩
abbrev D1V:SS:=⟨(.junk::.junk::.junk::.t true (.int .u32)::E2s),[]⟩
noncomputable def D4P (x0:ByteArray) (x3 x4:Int):RT B0r.den:=(.br (decide (x4<(x0.size:Int))) (.br (decide (0≤x4∧x4<(x0.size:Int))) (.next ((x0,(),(),IntKind.wrap .u32 ((ixor .u32 x3 (IntKind.wrap .u32 (bt x0 x4)))*(16777619:Int)),wI (x4+(1:Int)),u17),())) .fail) (.done (.exit 0) D1V (((),(),(),x3,u18),())))
abbrev B7L:=(ByteArray)×(Int)×(Int)
abbrev B8x:=Nat×(Int)
def C6A:B8x:=(99,((0:Int):Int))
noncomputable def B5m (x0:ByteArray) (x3 x4:Int):B7L ⊕ B8x:=(cond (decide (x4<(x0.size:Int))) (cond (decide (0≤x4∧x4<(x0.size:Int))) (.inl (x0,IntKind.wrap .u32 ((ixor .u32 x3 (IntKind.wrap .u32 (bt x0 x4)))*(16777619:Int)),wI (x4+(1:Int)))) (.inr C6A)) (.inr (0,x3)))
noncomputable def B4C (x0:ByteArray) (x3 x4:Int):B8x:=itX (fun v:B7L=>B5m v.1 v.2.1 v.2.2) C6A (x0,x3,x4)
noncomputable def C6s (a:B8x):CT:=(.br (a.1==0) (.done (.exit 0) D1V (((),(),(),a.2,u18),())) .fail)
noncomputable def E6b (x0:ByteArray) (x3 x4:Int):CT:=C6s (B4C x0 x3 x4)
noncomputable abbrev C6O:B0r.den→RT B0r.den:=(fun d=>D4P d.1.1 d.1.2.2.2.1 d.1.2.2.2.2.1)
noncomputable def C9p:Code:=((A6 0 (B4 Tryz.f116)).getD 0 (0,.skip)).2
noncomputable abbrev D3S (v:B7L):B0r.den:=((v.1,(),(),v.2.1,v.2.2,u17),())
theorem E3V:(∀ v:B7L,(D4P v.1 v.2.1 v.2.2).val=R5 D3S C6s (B5m v.1 v.2.1 v.2.2))∧∀ a:B8x,CEnd B0r.den (C6s a):=⟨fun v=>(B3 (B3 rfl rfl) rfl),fun a=>(C5 aCD K7)⟩
theorem E0O:RdA E9x aLn 0 C9p B0r 0 [] (kepts [] [(0,[3])]) (fun d=>(C6O d).opt 0 []):=by
 intro d
 kernel_rfl
noncomputable abbrev D0L:St→Option Tree:=B0r.say 0 [] [] (fun d=>E6b d.1.1 d.1.2.2.2.1 d.1.2.2.2.2.1)
theorem E35:aPL D0L C9p:=SS.wp2 hlz [] C6O E0O (fun d=>rfl) _ (fun d=>Runs.ofI2 (step:=C6O) D3S E3V rfl (d.1.1,d.1.2.2.2.1,d.1.2.2.2.2.1))
noncomputable def E5t (a0:ByteArray):Int:=(wI ((B4C a0 (2166136261:Int) (0:Int)).2))
noncomputable abbrev E5q (r:Int):AV×List AObj:=((ti r),[])
noncomputable abbrev D8o:A1 C8M→AV×List AObj:=fun d=>E5q (E5t d.1)
noncomputable def C4l (a0:ByteArray):Bool:=((B4C a0 (2166136261:Int) (0:Int)).1==0)
noncomputable abbrev C9T:A1 C8M→Bool:=fun d=>C4l d.1
noncomputable abbrev E90:Nat→St→Option Tree:=fun b=>match b with | 0=>D0L | _=>fun _=>none
theorem E7f:N0 true E9x (E90) Tryz.f116 C8M C9T D8o:=by
 rintro ⟨a0,_⟩ hp
 change C4l a0=true at hp
 unfold C4l at hp
 refine Eq.trans (b:=(let z1:=B4C a0 (2166136261:Int) (0:Int);cond (z1.1==0) (some (E5q (wI (z1.2)))) none)) (by kernel_rfl) ?_
 exact (B7 hp fun _h=>rfl)
theorem E9h:aPP 116 (A7 C8M C9T D8o):=pcD true E9x (hl1 (i:=0) (by kernel_rfl) E35) E7f
noncomputable def F36:Tab:=Tab.add F14 116 (lift (A7 C8M C9T D8o))
noncomputable def F0K:FuncId→Bool:=qadd F0f 116
theorem F1d:aPG F36 F0K:=E9x.addQ E9h (cbl Tryz.f116) (fun _=>rfl)

abbrev B4O:List PSh:=[.t .str,.t (.int .i64)]
noncomputable def B4c (a0:ByteArray) (a1:Int):Int:=(cond (decide (a1<(1:Int))) (0:Int) (Int.tmod (E5t a0) a1))
noncomputable abbrev B9Z (r:Int):AV×List AObj:=((ti r),[])
noncomputable abbrev C62:A1 B4O→AV×List AObj:=fun d=>B9Z (B4c d.1 d.2.1)
noncomputable def A7x (a0:ByteArray) (a1:Int):Bool:=cond (decide (a1<(1:Int))) true ((C4l a0)&&(decide (a1 ≠ 0)))
noncomputable abbrev B9T:A1 B4O→Bool:=fun d=>A7x d.1 d.2.1
theorem D81:N0 true F1d aLn Tryz.f93 B4O B9T C62:=by
 rintro ⟨a0,⟨a1,_⟩⟩ hp
 change A7x a0 a1=true at hp
 unfold A7x at hp
 refine Eq.trans (b:=(cond (decide (a1<(1:Int))) (some (B9Z (0:Int))) (cond (C4l a0) (cond (decide (a1 ≠ 0)) (some (B9Z (Int.tmod (E5t a0) a1))) none) none))) (by kernel_rfl) ?_
 exact (A9 B9Z hp (fun hp=>rfl) (fun hp=>(B2 hp fun hp=>(B7 hp fun _h=>rfl))))
theorem E5h:aPP 93 (A7 B4O B9T C62):=pcD true F1d hlz D81
noncomputable def F19:Tab:=Tab.add F36 93 (lift (A7 B4O B9T C62))
noncomputable def F0n:FuncId→Bool:=qadd F0K 93
theorem F4D:aPG F19 F0n:=F1d.addQ E5h (cbl Tryz.f93) (fun _=>rfl)

noncomputable def F1K:Tab:=Tab.add F19 94 (win B0 D2P)
noncomputable def F0d:FuncId→Bool:=F0n
theorem F4r:aPG F1K F0d:=F4D.addM E5W (C1 _) ⟨Tryz.f94,by kernel_rfl,by kernel_rfl,by kernel_rfl⟩ (by kernel_rfl)

noncomputable def F2x:Tab:=Tab.add F1K 96 (win B0 B8W)
noncomputable def F0v:FuncId→Bool:=F0d
theorem F1h:aPG F2x F0v:=F4r.addM D9d (C1 _) ⟨Tryz.f96,by kernel_rfl,by kernel_rfl,by kernel_rfl⟩ (by kernel_rfl)

abbrev A3C:SS:=⟨[.arr 0 1],[.rows 3 true (.int .i64)]⟩
noncomputable def A7l (x0a x0b:Nat) (h0:List Int):Nat×Nat×List Int:=(x0a,((x0b:Nat):Int).toNat,h0)
noncomputable abbrev B6r (r:Nat×Nat×List Int):AV×List AObj×List Nat:=((.arr 0 1 r.1 r.2.1),[(.rows 3 true (.int .i64) r.2.2)],[])
noncomputable abbrev B5Y:A3C.den→AV×List AObj×List Nat:=fun d=>B6r (A7l d.1.1.1 d.1.1.2 d.2.1)
noncomputable def A0P (x0a x0b:Nat) (h0:List Int):Bool:=decide (0≤((x0b:Nat):Int)∧((x0b:Nat):Int)≤((x0b:Nat):Int)∧((x0b:Nat):Int)≤((x0b:Nat):Int))
noncomputable abbrev B2Q:A3C.den→Bool:=fun d=>A0P d.1.1.1 d.1.1.2 d.2.1
theorem C4S:B0e F1h aLn Tryz.f95 A3C B2Q B5Y:=by
 rintro ⟨⟨⟨x0a,x0b⟩,_⟩,⟨h0,_⟩⟩ hp
 change A0P x0a x0b h0=true at hp
 unfold A0P at hp
 refine Eq.trans (b:=(cond (decide (0≤((x0b:Nat):Int)∧((x0b:Nat):Int)≤((x0b:Nat):Int)∧((x0b:Nat):Int)≤((x0b:Nat):Int))) (some (B6r (x0a,((x0b:Nat):Int).toNat,h0))) none)) (by kernel_rfl) ?_
 exact (B7 hp fun _h=>rfl)
noncomputable abbrev B5J:=win B0 (msum A3C B2Q B5Y)
theorem C7i:aPM 95 B5J:=(mcM F1h hlz C4S).win B0
noncomputable def F3G:Tab:=Tab.add F2x 95 (B5J)
noncomputable def F0o:FuncId→Bool:=F0v
theorem E9L:aPG F3G F0o:=F1h.addM C7i (C1 _) (cbl Tryz.f95) (by kernel_rfl)

abbrev B1l:List PSh:=[.t tq5,.t (.int .i64)]
abbrev A1q:SS:=⟨(.junk::tI::.junk::.junk::.junk::.all 0 1::.junk::.junk::.t false tq5::tI::tI::E4F),[.rows 3 true (.int .i64)]⟩
abbrev C0B:SS:=⟨(.junk::.junk::.junk::.junk::.junk::.all 0 1::D3n),[.rows 3 true (.int .i64)]⟩
noncomputable def C0p (x1:Int) (x8:Lq2) (x10:Int):=B4c (((x8.getD x10.toNat ((0:Int),(bE,bE))).2).1) x1
noncomputable def C3t (x1:Int) (x8:Lq2) (x9 x10:Int) (h0:List Int):RT A1q.den:=let z1:=C0p x1 x8 x10;(.br (decide (x10<x9)) (.br (decide (0≤x10∧x10<(x8.length:Int))) (.br (A7x (((x8.getD x10.toNat ((0:Int),(bE,bE))).2).1) x1) (.br (decide ((h0.length+[z1].length)*8≤MAXB)) (.next (((),x1,(),(),(),(),(),(),x8,x9,wI (x10+(1:Int)),u17),(h0++[z1],()))) .fail) .fail) .fail) (.done (.exit 0) C0B ((u28),(h0,()))))
abbrev A6H:=(Int)×Lq2×(Int)×(Int)×(List Int)
abbrev A4y:=Nat×(List Int)
def A8E:A4y:=(99,([]:List Int))
noncomputable def A8x (x1:Int) (x8:Lq2) (x9 x10:Int) (h0:List Int):A6H ⊕ A4y:=let z1:=C0p x1 x8 x10;(cond (decide (x10<x9)) (cond (decide (0≤x10∧x10<(x8.length:Int))) (cond (A7x (((x8.getD x10.toNat ((0:Int),(bE,bE))).2).1) x1) (cond (decide ((h0.length+[z1].length)*8≤MAXB)) (.inl (x1,x8,x9,wI (x10+(1:Int)),h0++[z1])) (.inr A8E)) (.inr A8E)) (.inr A8E)) (.inr (0,h0)))
noncomputable def A5G (x1:Int) (x8:Lq2) (x9 x10:Int) (h0:List Int):A4y:=itX (fun v:A6H=>A8x v.1 v.2.1 v.2.2.1 v.2.2.2.1 v.2.2.2.2) A8E (x1,x8,x9,x10,h0)
noncomputable def B3W (a:A4y):CT:=(.br (a.1==0) (.done (.exit 0) C0B ((u28),(a.2,()))) .fail)
noncomputable def D59 (x1:Int) (x8:Lq2) (x9 x10:Int) (h0:List Int):CT:=B3W (A5G x1 x8 x9 x10 h0)
noncomputable abbrev C3b {α:Sort _} (f:Int→Lq2→Int→Int→(List Int)→α) (d:A1q.den):α:=f d.1.2.1 d.1.2.2.2.2.2.2.2.2.1 d.1.2.2.2.2.2.2.2.2.2.1 d.1.2.2.2.2.2.2.2.2.2.2.1 d.2.1
noncomputable abbrev B4R:A1q.den→RT A1q.den:=(C3b C3t)
noncomputable def B8h:Code:=((A6 0 (B4 Tryz.f62)).getD 0 (0,.skip)).2
noncomputable abbrev C1P (v:A6H):A1q.den:=(((),v.1,(),(),(),(),(),(),v.2.1,v.2.2.1,v.2.2.2.1,u17),(v.2.2.2.2,()))
theorem D26:(∀ v:A6H,(C3t v.1 v.2.1 v.2.2.1 v.2.2.2.1 v.2.2.2.2).val=R5 C1P B3W (A8x v.1 v.2.1 v.2.2.1 v.2.2.2.1 v.2.2.2.2))∧∀ a:A4y,CEnd A1q.den (B3W a):=⟨fun v=>(B3 (B3 (B3 (B3 rfl rfl) rfl) rfl) rfl),fun a=>(C5 aCD K7)⟩
theorem D2d:RdA E9L aLn 0 B8h A1q 0 [] (kepts [] [(0,[5])]) (fun d=>(B4R d).opt 0 []):=by
 intro d
 kernel_rfl
noncomputable abbrev C1s:St→Option Tree:=A1q.say 0 [] [(5,3,(.int .i64))] (C3b D59)
theorem D4J:aPL C1s B8h:=SS.wp2 hlz [(5,3,(.int .i64))] B4R D2d (fun d=>rfl) _ (fun d=>Runs.ofI2 (step:=B4R) C1P D26 rfl (d.1.2.1,d.1.2.2.2.2.2.2.2.2.1,d.1.2.2.2.2.2.2.2.2.2.1,d.1.2.2.2.2.2.2.2.2.2.2.1,d.2.1))
noncomputable def B3x (a0:Lq2) (a1:Int):=E3b (A6L ((A5G a1 a0 (a0.length:Int) (0:Int) ([]:List Int)).2))
noncomputable def B3F (a0:Lq2) (a1:Int):List Int:=let z2:=B3x a0 a1;let z1:=A7l 0 (z2.1) (z2.2);(((z1.2.2).drop (z1.1)).take (z1.2.1))
noncomputable abbrev D08 (r:List Int):AV×List AObj:=((.t true A4X r),[])
noncomputable abbrev C2W:A1 B1l→AV×List AObj:=fun d=>D08 (B3F d.1 d.2.1)
noncomputable def A3n (a0:Lq2) (a1:Int):Bool:=let z1:=A5G a1 a0 (a0.length:Int) (0:Int) ([]:List Int);let z2:=B3x a0 a1;(z1.1==0)&&((C8b (z1.2))&&((C8b (A6L (z1.2)))&&(A0P 0 (z2.1) (z2.2))))
noncomputable abbrev B62:A1 B1l→Bool:=fun d=>A3n d.1 d.2.1
noncomputable abbrev E1y:Nat→St→Option Tree:=fun b=>match b with | 0=>C1s | _=>fun _=>none
theorem D6L:N0 true E9L (E1y) Tryz.f62 B1l B62 C2W:=by
 rintro ⟨a0,⟨a1,_⟩⟩ hp
 change A3n a0 a1=true at hp
 unfold A3n at hp
 refine Eq.trans (b:=(let z2:=A5G a1 a0 (a0.length:Int) (0:Int) ([]:List Int);let z3:=B3x a0 a1;let z1:=A7l 0 (z3.1) (z3.2);cond (z2.1==0) (cond (C8b (z2.2)) (cond (C8b (A6L (z2.2))) (cond (A0P 0 (z3.1) (z3.2)) (some (D08 (((z1.2.2).drop (z1.1)).take (z1.2.1)))) none) none) none) none)) (by kernel_rfl) ?_
 exact (B2 hp fun hp=>(B2 hp fun hp=>(B2 hp fun hp=>(B7 hp fun _h=>rfl))))
theorem E2b:aPP 62 (A7 B1l B62 C2W):=pcD true E9L (hl1 (i:=0) (by kernel_rfl) D4J) D6L
noncomputable def F3f:Tab:=Tab.add F3G 62 (lift (A7 B1l B62 C2W))
noncomputable def F0I:FuncId→Bool:=qadd F0o 62
theorem F0a:aPG F3f F0I:=E9L.addQ E2b (cbl Tryz.f62) (fun _=>rfl)

abbrev A1P:List PSh:=[.t A4X,.t (.int .i64)]
abbrev N3:SS:=⟨(.t false A4X::tI::.junk::.junk::.junk::.junk::.junk::tI::tI::E81),[]⟩
abbrev A8M:SS:=⟨(.junk::.junk::.junk::.junk::tI::D52),[]⟩
abbrev A81:SS:=⟨(.junk::E4j),[]⟩
noncomputable def A91 (x0:List Int) (x1 x7 x8:Int):RT N3.den:=(.br (decide (x8<x7)) (.br (decide (0≤x8∧x8<(x0.length:Int))) (.br (x1==(x0.getD x8.toNat (0:Int))) (.done .ret A8M (((),(),(),(),x8,u15),())) (.next ((x0,x1,(),(),(),(),(),x7,wI (x8+(1:Int)),u11),()))) .fail) (.done (.exit 0) A81 ((u20),())))
abbrev A2C:=(List Int)×(Int)×(Int)×(Int)
abbrev A0q:=Nat×(Int)
def A9W:A0q:=(99,((0:Int):Int))
noncomputable def A14 (x0:List Int) (x1 x7 x8:Int):A2C ⊕ A0q:=(cond (decide (x8<x7)) (cond (decide (0≤x8∧x8<(x0.length:Int))) (cond (x1==(x0.getD x8.toNat (0:Int))) (.inr (0,x8)) (.inl (x0,x1,x7,wI (x8+(1:Int))))) (.inr A9W)) (.inr (1,((0:Int):Int))))
noncomputable def Z3 (x0:List Int) (x1 x7 x8:Int):A0q:=itX (fun v:A2C=>A14 v.1 v.2.1 v.2.2.1 v.2.2.2) A9W (x0,x1,x7,x8)
noncomputable def A4H (a:A0q):CT:=(.br (a.1==0) (.done .ret A8M (((),(),(),(),a.2,u15),())) (.br (a.1==1) (.done (.exit 0) A81 ((u20),())) .fail))
noncomputable def C3X (x0:List Int) (x1 x7 x8:Int):CT:=A4H (Z3 x0 x1 x7 x8)
noncomputable abbrev A9T {α:Sort _} (f:(List Int)→Int→Int→Int→α) (d:N3.den):α:=f d.1.1 d.1.2.1 d.1.2.2.2.2.2.2.2.1 d.1.2.2.2.2.2.2.2.2.1
noncomputable abbrev A4J:N3.den→RT N3.den:=(A9T A91)
noncomputable def A8b:Code:=((A6 0 (B4 Tryz.f97)).getD 0 (0,.skip)).2
noncomputable abbrev A9Y (v:A2C):N3.den:=((v.1,v.2.1,(),(),(),(),(),v.2.2.1,v.2.2.2,u11),())
theorem C1z:(∀ v:A2C,(A91 v.1 v.2.1 v.2.2.1 v.2.2.2).val=R5 A9Y A4H (A14 v.1 v.2.1 v.2.2.1 v.2.2.2))∧∀ a:A0q,CEnd N3.den (A4H a):=⟨fun v=>(B3 (B3 (B3 rfl rfl) rfl) rfl),fun a=>(C5 aCD (C5 aCD K7))⟩
theorem C0j:RdA F0a aLn 0 A8b N3 0 [] (kepts [4] [(0,[])]) (fun d=>(A4J d).opt 0 []):=by
 intro d
 kernel_rfl
noncomputable abbrev A84:St→Option Tree:=N3.say 0 [] [] (A9T C3X)
theorem C1x:aPL A84 A8b:=SS.wp2 hlz [] A4J C0j (fun d=>rfl) _ (fun d=>Runs.ofI2 (step:=A4J) A9Y C1z rfl (d.1.1,d.1.2.1,d.1.2.2.2.2.2.2.2.1,d.1.2.2.2.2.2.2.2.2.1))
noncomputable def A54 (a0:List Int) (a1:Int):Int:=let z1:=Z3 a0 a1 (a0.length:Int) (0:Int);(cond (z1.1==0) (z1.2) (-1:Int))
noncomputable abbrev A3G (r:Int):AV×List AObj:=((ti r),[])
noncomputable abbrev A7M:A1 A1P→AV×List AObj:=fun d=>A3G (A54 d.1 d.2.1)
noncomputable def A0a (a0:List Int) (a1:Int):Bool:=let z1:=Z3 a0 a1 (a0.length:Int) (0:Int);cond (z1.1==0) true (z1.1==1)
noncomputable abbrev A5i:A1 A1P→Bool:=fun d=>A0a d.1 d.2.1
noncomputable abbrev C6r:Nat→St→Option Tree:=fun b=>match b with | 0=>A84 | _=>fun _=>none
theorem C3a:N0 true F0a (C6r) Tryz.f97 A1P A5i A7M:=by
 rintro ⟨a0,⟨a1,_⟩⟩ hp
 change A0a a0 a1=true at hp
 unfold A0a at hp
 refine Eq.trans (b:=(let z1:=Z3 a0 a1 (a0.length:Int) (0:Int);cond (z1.1==0) (some (A3G (z1.2))) (cond (z1.1==1) (some (A3G (-1:Int))) none))) (by kernel_rfl) ?_
 exact (A9 A3G hp (fun hp=>rfl) (fun hp=>(B7 hp fun _h=>rfl)))
theorem C6u:aPP 97 (A7 A1P A5i A7M):=pcD true F0a (hl1 (i:=0) (by kernel_rfl) C1x) C3a
noncomputable def F2h:Tab:=Tab.add F3f 97 (lift (A7 A1P A5i A7M))
noncomputable def F0g:FuncId→Bool:=qadd F0I 97
theorem F1k:aPG F2h F0g:=F0a.addQ C6u (cbl Tryz.f97) (fun _=>rfl)

abbrev Z1:List PSh:=[.t A4X,.t (.int .i64)]
noncomputable def Y0 (a0:List Int) (a1:Int):Bool:=(decide ((A54 a0 a1) ≥ (0:Int)))
noncomputable abbrev A9Z (r:Bool):AV×List AObj:=((.t true .bool r),[])
noncomputable abbrev A4I:A1 Z1→AV×List AObj:=fun d=>A9Z (Y0 d.1 d.2.1)
noncomputable def M0 (a0:List Int) (a1:Int):Bool:=A0a a0 a1
noncomputable abbrev A20:A1 Z1→Bool:=fun d=>M0 d.1 d.2.1
theorem B8t:N0 true F1k aLn Tryz.f63 Z1 A20 A4I:=by
 rintro ⟨a0,⟨a1,_⟩⟩ hp
 change M0 a0 a1=true at hp
 unfold M0 at hp
 refine Eq.trans (b:=(cond (A0a a0 a1) (some (A9Z (decide ((A54 a0 a1) ≥ (0:Int))))) none)) (by kernel_rfl) ?_
 exact (B7 hp fun _h=>rfl)
theorem C1y:aPP 63 (A7 Z1 A20 A4I):=pcD true F1k hlz B8t
noncomputable def F2q:Tab:=Tab.add F2h 63 (lift (A7 Z1 A20 A4I))
noncomputable def F0E:FuncId→Bool:=qadd F0g 63
theorem E9i:aPG F2q F0E:=F1k.addQ C1y (cbl Tryz.f63) (fun _=>rfl)

abbrev F4s:List Sh:=.junk::.junk::.junk::F09
abbrev F20:List Sh:=.junk::.junk::.junk::.junk::.junk::.junk::.junk::.junk::.junk::.junk::.junk::.junk::.junk::.junk::.junk::.junk::.junk::.junk::.junk::.junk::.junk::.junk::.junk::.junk::.junk::E8I
abbrev F2J:List Sh:=.junk::F20
abbrev u96:=((),(),(),(),(),(),(),(),(),(),(),(),(),(),(),(),(),(),(),u77)
abbrev E80:=((),(),(),(),(),u96)
abbrev F1J:List AV:=.junk::.junk::.junk::.junk::.junk::.junk::.junk::.junk::.junk::.junk::.junk::.junk::.junk::.junk::.junk::.junk::.junk::.junk::.junk::.junk::.junk::.junk::.junk::.junk::.junk::E6W
abbrev F4C:List AV:=.junk::.junk::.junk::F1g
abbrev F03:List AV:=.junk::F1J
abbrev A69:SS:=⟨[.ptr 0 0 1 0,.agg [.t true (.int .i64),.t false tq5,.t true (.int .i64),.t false A4X]],[.box [tI,tI,tI,.t false tq6,.t false tq9,tI]]⟩
abbrev Q8:SS:=⟨(.ptr 0 0 1 0::.junk::.junk::.ptr 1 0 1 0::.junk::.t true A4X::.junk::.junk::.junk::.junk::.junk::.junk::.junk::.junk::.junk::.junk::.junk::.junk::.junk::.junk::.junk::.junk::.junk::.junk::.junk::.junk::.junk::.junk::.junk::.junk::.junk::.junk::.junk::.junk::.junk::.t false A4X::tI::tI::F4s),[.box [tI,tI,tI,.t false tq6,.t false tq9,tI],.box [tI,.t false tq5,tI,.t false A4X]]⟩
abbrev A7F:SS:=⟨(.junk::.junk::.junk::.junk::.t true .bool::F20),[.box [tI,tI,tI,.t false tq6,.t false tq9,tI]]⟩
abbrev B4p:SS:=⟨(.ptr 0 0 1 0::.junk::.junk::.ptr 1 0 1 0::F2J),[.box [tI,tI,tI,.t false tq6,.t false tq9,tI],.box [tI,.t false tq5,tI,.t false A4X]]⟩
noncomputable def B6B (x5 x35:List Int) (x36 x37 p0 p1 p2:Int) (p3:LT1) (p4:LIbe) (p5 q0:Int) (q1:Lq2) (q2:Int) (q3:List Int):RT Q8.den:=let z1:=wI (x37 - (1:Int));let z2:=x35.getD x37.toNat (0:Int);(.br (decide (x37<x36)) (.br (decide (0≤x37∧x37<(x35.length:Int))) (.br (M0 x5 z2) (.br (!(Y0 x5 z2)) (.done .ret A7F (((),(),(),(),false,u96),((p0,p1,p2,p3,p4,p5,()),()))) (.br (decide (x37 > (0:Int))) (.br (decide (0≤z1∧z1<(q3.length:Int))) (.br (decide (z2≤(q3.getD (z1.toNat) (0:Int)))) (.done .ret A7F (((),(),(),(),false,u96),((p0,p1,p2,p3,p4,p5,()),()))) (.next (((),(),(),(),(),x5,(),(),(),(),(),(),(),(),(),(),(),(),(),(),(),(),(),(),(),(),(),(),(),(),(),(),(),(),(),x35,x36,wI (x37+(1:Int)),u63),((p0,p1,p2,p3,p4,p5,()),(q0,q1,q2,q3,()),())))) .fail) (.next (((),(),(),(),(),x5,(),(),(),(),(),(),(),(),(),(),(),(),(),(),(),(),(),(),(),(),(),(),(),(),(),(),(),(),(),x35,x36,wI (x37+(1:Int)),u63),((p0,p1,p2,p3,p4,p5,()),(q0,q1,q2,q3,()),()))))) .fail) .fail) (.done (.exit 0) B4p ((E80),((p0,p1,p2,p3,p4,p5,()),(q0,q1,q2,q3,()),()))))
abbrev A6o:=(List Int)×(List Int)×(Int)×(Int)
abbrev A3d:=Nat×(Bool)
def A4T:A3d:=(99,(false:Bool))
noncomputable def A4W (x5 x35:List Int) (x36 x37 p0 p1 p2:Int) (p3:LT1) (p4:LIbe) (p5 q0:Int) (q1:Lq2) (q2:Int) (q3:List Int):A6o ⊕ A3d:=let z1:=wI (x37 - (1:Int));let z2:=x35.getD x37.toNat (0:Int);(cond (decide (x37<x36)) (cond (decide (0≤x37∧x37<(x35.length:Int))) (cond (M0 x5 z2) (cond (!(Y0 x5 z2)) (.inr (0,false)) (cond (decide (x37 > (0:Int))) (cond (decide (0≤z1∧z1<(q3.length:Int))) (cond (decide (z2≤(q3.getD (z1.toNat) (0:Int)))) (.inr (0,false)) (.inl (x5,x35,x36,wI (x37+(1:Int))))) (.inr A4T)) (.inl (x5,x35,x36,wI (x37+(1:Int)))))) (.inr A4T)) (.inr A4T)) (.inr (1,(false:Bool))))
noncomputable def A9a (x5 x35:List Int) (x36 x37 p0 p1 p2:Int) (p3:LT1) (p4:LIbe) (p5 q0:Int) (q1:Lq2) (q2:Int) (q3:List Int):A3d:=itX (fun v:A6o=>A4W v.1 v.2.1 v.2.2.1 v.2.2.2 p0 p1 p2 p3 p4 p5 q0 q1 q2 q3) A4T (x5,x35,x36,x37)
noncomputable def A9u (p0 p1 p2:Int) (p3:LT1) (p4:LIbe) (p5 q0:Int) (q1:Lq2) (q2:Int) (q3:List Int) (a:A3d):CT:=(.br (a.1==0) (.done .ret A7F (((),(),(),(),a.2,u96),((p0,p1,p2,p3,p4,p5,()),()))) (.br (a.1==1) (.done (.exit 0) B4p ((E80),((p0,p1,p2,p3,p4,p5,()),(q0,q1,q2,q3,()),()))) .fail))
noncomputable def D0z (x5 x35:List Int) (x36 x37 p0 p1 p2:Int) (p3:LT1) (p4:LIbe) (p5 q0:Int) (q1:Lq2) (q2:Int) (q3:List Int):CT:=(A9u p0 p1 p2 p3 p4 p5 q0 q1 q2 q3) (A9a x5 x35 x36 x37 p0 p1 p2 p3 p4 p5 q0 q1 q2 q3)
noncomputable abbrev A4Q {α:Sort _} (f:(List Int)→(List Int)→Int→Int→Int→Int→Int→LT1→LIbe→Int→Int→Lq2→Int→(List Int)→α) (d:Q8.den):α:=f d.1.2.2.2.2.2.1 d.1.2.2.2.2.2.2.2.2.2.2.2.2.2.2.2.2.2.2.2.2.2.2.2.2.2.2.2.2.2.2.2.2.2.2.2.1 d.1.2.2.2.2.2.2.2.2.2.2.2.2.2.2.2.2.2.2.2.2.2.2.2.2.2.2.2.2.2.2.2.2.2.2.2.2.1 d.1.2.2.2.2.2.2.2.2.2.2.2.2.2.2.2.2.2.2.2.2.2.2.2.2.2.2.2.2.2.2.2.2.2.2.2.2.2.1 d.2.1.1 d.2.1.2.1 d.2.1.2.2.1 d.2.1.2.2.2.1 d.2.1.2.2.2.2.1 d.2.1.2.2.2.2.2.1 d.2.2.1.1 d.2.2.1.2.1 d.2.2.1.2.2.1 d.2.2.1.2.2.2.1
noncomputable abbrev A8A:Q8.den→RT Q8.den:=(A4Q B6B)
noncomputable def B2P:Code:=((A6 0 (B4 Tryz.f38)).getD 0 (0,.skip)).2
noncomputable abbrev B6j (p0 p1 p2:Int) (p3:LT1) (p4:LIbe) (p5 q0:Int) (q1:Lq2) (q2:Int) (q3:List Int) (v:A6o):Q8.den:=(((),(),(),(),(),v.1,(),(),(),(),(),(),(),(),(),(),(),(),(),(),(),(),(),(),(),(),(),(),(),(),(),(),(),(),(),v.2.1,v.2.2.1,v.2.2.2,u63),((p0,p1,p2,p3,p4,p5,()),(q0,q1,q2,q3,()),()))
theorem C9e (p0 p1 p2:Int) (p3:LT1) (p4:LIbe) (p5 q0:Int) (q1:Lq2) (q2:Int) (q3:List Int):(∀ v:A6o,(B6B v.1 v.2.1 v.2.2.1 v.2.2.2 p0 p1 p2 p3 p4 p5 q0 q1 q2 q3).val=R5 (B6j p0 p1 p2 p3 p4 p5 q0 q1 q2 q3) (A9u p0 p1 p2 p3 p4 p5 q0 q1 q2 q3) (A4W v.1 v.2.1 v.2.2.1 v.2.2.2 p0 p1 p2 p3 p4 p5 q0 q1 q2 q3))∧∀ a:A3d,CEnd Q8.den ((A9u p0 p1 p2 p3 p4 p5 q0 q1 q2 q3) a):=⟨fun v=>by repeat' first | apply B3 | rfl,fun a=>(C5 aCD (C5 aCD K7))⟩
noncomputable def B6o (x5 x35:List Int) (x36 x37 p0 p1 p2:Int) (p3:LT1) (p4:LIbe) (p5 q0:Int) (q1:Lq2) (q2:Int) (q3:List Int):Option (Ex×St):=let z1:=(⟨((.ptr 0 0 1 0)::.junk::.junk::(.ptr 1 0 1 0)::.junk::(.t true A4X x5)::.junk::.junk::.junk::.junk::.junk::.junk::.junk::.junk::.junk::.junk::.junk::.junk::.junk::.junk::.junk::.junk::.junk::.junk::.junk::.junk::.junk::.junk::.junk::.junk::.junk::.junk::.junk::.junk::.junk::(.t false A4X x35)::(ti x36)::(ti (wI (x37+(1:Int))))::F4C),[(.box [(ti p0),(ti p1),(ti p2),(.t false tq6 p3),(.t false tq9 p4),(ti p5)]),(.box [(ti q0),(.t false tq5 q1),(ti q2),(.t false A4X q3)])],1,[]⟩:St);let z2:=(⟨(.junk::.junk::.junk::.junk::(.t true .bool false)::F1J),[(.box [(ti p0),(ti p1),(ti p2),(.t false tq6 p3),(.t false tq9 p4),(ti p5)])],1,[]⟩:St);let z3:=wI (x37 - (1:Int));let z4:=x35.getD x37.toNat (0:Int);(cond (decide (x37<x36)) (cond (decide (0≤x37∧x37<(x35.length:Int))) (cond (M0 x5 z4) (cond (!(Y0 x5 z4)) (some (.ret,z2)) (cond (decide (x37 > (0:Int))) (cond (decide (0≤z3∧z3<(q3.length:Int))) (cond (decide (z4≤(q3.getD (z3.toNat) (0:Int)))) (some (.ret,z2)) (some (.normal,z1))) none) (some (.normal,z1)))) none) none) (some ((.exit 0),(⟨((.ptr 0 0 1 0)::.junk::.junk::(.ptr 1 0 1 0)::F03),[(.box [(ti p0),(ti p1),(ti p2),(.t false tq6 p3),(.t false tq9 p4),(ti p5)]),(.box [(ti q0),(.t false tq5 q1),(ti q2),(.t false A4X q3)])],1,[]⟩:St))))
theorem C6x:RdA E9i aLn 0 B2P Q8 1 [] (kepts [4] [(0,[0,3])]) (A4Q B6o):=by
 intro d
 kernel_rfl
theorem C6j:∀ d:Q8.den,(A4Q B6o) d=(A8A d).opt 1 []:=by
 intro d
 kernel_rfl
noncomputable abbrev B4X:St→Option Tree:=Q8.say 1 [] [] (A4Q D0z)
theorem C8f:aPL B4X B2P:=SS.wp2 hlz [] A8A C6x C6j _ (fun d=>Runs.ofI2 (step:=A8A) (B6j d.2.1.1 d.2.1.2.1 d.2.1.2.2.1 d.2.1.2.2.2.1 d.2.1.2.2.2.2.1 d.2.1.2.2.2.2.2.1 d.2.2.1.1 d.2.2.1.2.1 d.2.2.1.2.2.1 d.2.2.1.2.2.2.1) (C9e d.2.1.1 d.2.1.2.1 d.2.1.2.2.1 d.2.1.2.2.2.1 d.2.1.2.2.2.2.1 d.2.1.2.2.2.2.2.1 d.2.2.1.1 d.2.2.1.2.1 d.2.2.1.2.2.1 d.2.2.1.2.2.2.1) rfl (d.1.2.2.2.2.2.1,d.1.2.2.2.2.2.2.2.2.2.2.2.2.2.2.2.2.2.2.2.2.2.2.2.2.2.2.2.2.2.2.2.2.2.2.2.1,d.1.2.2.2.2.2.2.2.2.2.2.2.2.2.2.2.2.2.2.2.2.2.2.2.2.2.2.2.2.2.2.2.2.2.2.2.2.1,d.1.2.2.2.2.2.2.2.2.2.2.2.2.2.2.2.2.2.2.2.2.2.2.2.2.2.2.2.2.2.2.2.2.2.2.2.2.2.1))
noncomputable def A7d (x1_0 p0 p1 p2:Int) (p3:LT1) (p4:LIbe) (p5:Int):=J0 x1_0 (wI (p1*(1000:Int))) (wI ((A4o p0 p1 p2 p3 p4 p5) - (1:Int)))
noncomputable def A7j (x1_0:Int) (x1_1:Lq2) (x1_2:Int) (x1_3:List Int) (p0 p1 p2:Int) (p3:LT1) (p4:LIbe) (p5:Int):=A9a (B3F x1_1 p0) x1_3 (x1_3.length:Int) (0:Int) p0 p1 p2 p3 p4 p5 x1_0 x1_1 x1_2 x1_3
noncomputable def B3l (x1_0:Int) (x1_1:Lq2) (x1_2:Int) (x1_3:List Int) (p0 p1 p2:Int) (p3:LT1) (p4:LIbe) (p5:Int):Bool:=let z1:=U0 x1_0 p0 p1 p2 p3 p4 p5;let z2:=A7j x1_0 x1_1 x1_2 x1_3 p0 p1 p2 p3 p4 p5;let z3:=(p4.getD (z1.toNat) ((0:Int),false)).2;let z4:=decide (z1 ≥ (0:Int));(cond (!(A7d x1_0 p0 p1 p2 p3 p4 p5)) false (cond (!(C2l x1_1)) false (cond (z2.1==0) (z2.2) (cond (x1_2==(1:Int)) (decide (z1<(0:Int))) (cond (x1_2==(2:Int)) (cond z4 z3 false) (cond (x1_2==(3:Int)) (cond z4 (!z3) false) false))))))
noncomputable abbrev H8 (p0 p1 p2:Int) (p3:LT1) (p4:LIbe) (p5:Int) (r:Bool):AV×List AObj×List Nat:=((.t true .bool r),[(.box [(ti p0),(ti p1),(ti p2),(.t false tq6 p3),(.t false tq9 p4),(ti p5)])],[])
noncomputable abbrev C1S:A69.den→AV×List AObj×List Nat:=fun d=>H8 d.2.1.1 d.2.1.2.1 d.2.1.2.2.1 d.2.1.2.2.2.1 d.2.1.2.2.2.2.1 d.2.1.2.2.2.2.2.1 (B3l d.1.2.1.1 d.1.2.1.2.1 d.1.2.1.2.2.1 d.1.2.1.2.2.2.1 d.2.1.1 d.2.1.2.1 d.2.1.2.2.1 d.2.1.2.2.2.1 d.2.1.2.2.2.2.1 d.2.1.2.2.2.2.2.1)
noncomputable def A0B (x1_0:Int) (x1_1:Lq2) (x1_2:Int) (x1_3:List Int) (p0 p1 p2:Int) (p3:LT1) (p4:LIbe) (p5:Int):Bool:=let z1:=U0 x1_0 p0 p1 p2 p3 p4 p5;let z2:=A7j x1_0 x1_1 x1_2 x1_3 p0 p1 p2 p3 p4 p5;let z3:=decide (0≤z1∧z1<(p4.length:Int));let z4:=decide (z1 ≥ (0:Int));cond (!(A7d x1_0 p0 p1 p2 p3 p4 p5)) true ((B32 x1_1)&&(cond (!(C2l x1_1)) true ((A3n x1_1 p0)&&(cond (z2.1==0) true ((z2.1==1)&&((M9 x1_0 p0 p1 p2 p3 p4 p5)&&(cond (x1_2==(1:Int)) true (cond (x1_2==(2:Int)) (cond z4 z3 true) (cond (x1_2==(3:Int)) (cond z4 z3 true) true)))))))))
noncomputable abbrev B8b:A69.den→Bool:=fun d=>A0B d.1.2.1.1 d.1.2.1.2.1 d.1.2.1.2.2.1 d.1.2.1.2.2.2.1 d.2.1.1 d.2.1.2.1 d.2.1.2.2.1 d.2.1.2.2.2.1 d.2.1.2.2.2.2.1 d.2.1.2.2.2.2.2.1
noncomputable abbrev D37:Nat→St→Option Tree:=fun b=>match b with | 0=>B4X | _=>fun _=>none
theorem C90:B0e E9i (D37) Tryz.f38 A69 B8b C1S:=by
 rintro ⟨⟨_,⟨x1_0,x1_1,x1_2,x1_3,_⟩,_⟩,⟨⟨p0,p1,p2,p3,p4,p5,_⟩,_⟩⟩ hp
 change A0B x1_0 x1_1 x1_2 x1_3 p0 p1 p2 p3 p4 p5=true at hp
 unfold A0B at hp
 refine Eq.trans (b:=(let z1:=U0 x1_0 p0 p1 p2 p3 p4 p5;let z2:=A7j x1_0 x1_1 x1_2 x1_3 p0 p1 p2 p3 p4 p5;let z3:=(p4.getD (z1.toNat) ((0:Int),false)).2;let z4:=decide (0≤z1∧z1<(p4.length:Int));let z5:=decide (z1 ≥ (0:Int));cond (!(A7d x1_0 p0 p1 p2 p3 p4 p5)) (some (H8 p0 p1 p2 p3 p4 p5 false)) (cond (B32 x1_1) (cond (!(C2l x1_1)) (some (H8 p0 p1 p2 p3 p4 p5 false)) (cond (A3n x1_1 p0) (cond (z2.1==0) (some (H8 p0 p1 p2 p3 p4 p5 (z2.2))) (cond (z2.1==1) (cond (M9 x1_0 p0 p1 p2 p3 p4 p5) (cond (x1_2==(1:Int)) (some (H8 p0 p1 p2 p3 p4 p5 (decide (z1<(0:Int))))) (cond (x1_2==(2:Int)) (cond z5 (cond z4 (some (H8 p0 p1 p2 p3 p4 p5 z3)) none) (some (H8 p0 p1 p2 p3 p4 p5 false))) (cond (x1_2==(3:Int)) (cond z5 (cond z4 (some (H8 p0 p1 p2 p3 p4 p5 (!z3))) none) (some (H8 p0 p1 p2 p3 p4 p5 false))) (some (H8 p0 p1 p2 p3 p4 p5 false))))) none) none)) none)) none))) (by kernel_rfl) ?_
 exact (A9 (H8 p0 p1 p2 p3 p4 p5) hp (fun hp=>rfl) (fun hp=>(B2 hp fun hp=>(A9 (H8 p0 p1 p2 p3 p4 p5) hp (fun hp=>rfl) (fun hp=>(B2 hp fun hp=>(A9 (H8 p0 p1 p2 p3 p4 p5) hp (fun hp=>rfl) (fun hp=>(B2 hp fun hp=>(B2 hp fun hp=>(A9 (H8 p0 p1 p2 p3 p4 p5) hp (fun hp=>rfl) (fun hp=>(A9 (H8 p0 p1 p2 p3 p4 p5) hp (fun hp=>(A9 (H8 p0 p1 p2 p3 p4 p5) hp (fun hp=>(B7 hp fun _h=>rfl)) (fun hp=>rfl))) (fun hp=>(A9 (H8 p0 p1 p2 p3 p4 p5) hp (fun hp=>(A9 (H8 p0 p1 p2 p3 p4 p5) hp (fun hp=>(B7 hp fun _h=>rfl)) (fun hp=>rfl))) (fun hp=>rfl))))))))))))))))
noncomputable abbrev C3O:=winQ (msum A69 B8b C1S)
theorem D25:aPM 38 C3O:=(mcM E9i (hl1 (i:=0) (by kernel_rfl) C8f) C90).winQ (A2F fun d=>⟨rfl,rfl⟩)
noncomputable def F3w:Tab:=Tab.add F2q 38 (C3O)
noncomputable def F0q:FuncId→Bool:=qadd F0E 38
theorem E8a:aPG F3w F0q:=E9i.addMQ D25 (A1Q _) (cbl Tryz.f38) (A04 _)

abbrev F0U:List Sh:=.junk::.junk::.junk::.junk::.junk::.junk::.junk::.junk::.junk::.junk::.junk::.junk::.junk::.junk::.junk::E8I
abbrev F3L:List Sh:=.junk::F0U
abbrev u86:=((),(),(),(),(),(),(),(),(),u77)
abbrev u89:=((),(),(),u86)
abbrev F0Q:List AV:=.junk::.junk::.junk::.junk::.junk::.junk::.junk::.junk::.junk::.junk::.junk::.junk::.junk::.junk::.junk::E6W
abbrev F3B:List AV:=.junk::F0Q
abbrev F4M:List Sh:=.junk::F3L
abbrev F44:List AV:=.junk::F3B
abbrev B5z:List PSh:=[.agg [(.int .i64),(.int .i64),(.int .i64),tq6,tq9,(.int .i64)]]
noncomputable def B2v:Code:=((A6 0 (B4 Tryz.f15)).getD 0 (0,.skip)).2
noncomputable def B19:Code:=((A6 0 (B4 Tryz.f15)).getD 1 (0,.skip)).2
abbrev A1d:SS:=⟨(.junk::.ptr 0 0 1 0::.junk::.junk::.junk::.junk::.junk::.junk::.junk::.junk::.junk::.junk::.junk::.junk::.junk::.junk::.junk::.junk::.junk::.junk::.junk::.junk::.junk::.junk::.junk::.junk::.junk::.junk::.junk::.junk::.junk::.junk::.junk::.junk::.junk::.junk::.junk::.junk::.junk::.t false tq9::tI::tI::E8T),[.box [tI,tI,tI,.t false tq6,.t false tq9,tI]]⟩
abbrev B5i:SS:=⟨(.junk::.junk::.t true .bool::F0U),[]⟩
abbrev C2b:SS:=⟨(.junk::.ptr 0 0 1 0::F3L),[.box [tI,tI,tI,.t false tq6,.t false tq9,tI]]⟩
noncomputable def B1c (x39:LIbe) (x41 p0 p1 p2:Int) (p3:LT1) (p4:LIbe) (p5:Int):=J0 ((x39.getD x41.toNat ((0:Int),false)).1) (1000:Int) (wI ((A4o p0 p1 p2 p3 p4 p5) - (1:Int)))
noncomputable def C5F (x39:LIbe) (x40 x41 p0 p1 p2:Int) (p3:LT1) (p4:LIbe) (p5:Int):RT A1d.den:=let z1:=(x39.getD x41.toNat ((0:Int),false)).1;(.br (decide (x41<x40)) (.br (decide (0≤x41∧x41<(x39.length:Int))) (.br (!(B1c x39 x41 p0 p1 p2 p3 p4 p5)) (.done .ret B5i (((),(),false,u86),())) (.br (M9 z1 p0 p1 p2 p3 p4 p5) (.br ((U0 z1 p0 p1 p2 p3 p4 p5) != x41) (.done .ret B5i (((),(),false,u86),())) (.next (((),(),(),(),(),(),(),(),(),(),(),(),(),(),(),(),(),(),(),(),(),(),(),(),(),(),(),(),(),(),(),(),(),(),(),(),(),(),(),x39,x40,wI (x41+(1:Int)),u47),((p0,p1,p2,p3,p4,p5,()),())))) .fail)) .fail) (.done (.exit 0) C2b ((u89),((p0,p1,p2,p3,p4,p5,()),()))))
abbrev B2S:=(LIbe)×(Int)×(Int)
abbrev A9l:=Nat×(Bool)
def B7d:A9l:=(99,(false:Bool))
noncomputable def A4A (x39:LIbe) (x40 x41 p0 p1 p2:Int) (p3:LT1) (p4:LIbe) (p5:Int):B2S ⊕ A9l:=let z1:=(x39.getD x41.toNat ((0:Int),false)).1;(cond (decide (x41<x40)) (cond (decide (0≤x41∧x41<(x39.length:Int))) (cond (!(B1c x39 x41 p0 p1 p2 p3 p4 p5)) (.inr (0,false)) (cond (M9 z1 p0 p1 p2 p3 p4 p5) (cond ((U0 z1 p0 p1 p2 p3 p4 p5) != x41) (.inr (0,false)) (.inl (x39,x40,wI (x41+(1:Int))))) (.inr B7d))) (.inr B7d)) (.inr (1,(false:Bool))))
noncomputable def A4C (x39:LIbe) (x40 x41 p0 p1 p2:Int) (p3:LT1) (p4:LIbe) (p5:Int):A9l:=itX (fun v:B2S=>A4A v.1 v.2.1 v.2.2 p0 p1 p2 p3 p4 p5) B7d (x39,x40,x41)
noncomputable def B6Y (p0 p1 p2:Int) (p3:LT1) (p4:LIbe) (p5:Int) (a:A9l):CT:=(.br (a.1==0) (.done .ret B5i (((),(),a.2,u86),())) (.br (a.1==1) (.done (.exit 0) C2b ((u89),((p0,p1,p2,p3,p4,p5,()),()))) .fail))
noncomputable def E0j (x39:LIbe) (x40 x41 p0 p1 p2:Int) (p3:LT1) (p4:LIbe) (p5:Int):CT:=(B6Y p0 p1 p2 p3 p4 p5) (A4C x39 x40 x41 p0 p1 p2 p3 p4 p5)
noncomputable abbrev B0Z {α:Sort _} (f:LIbe→Int→Int→Int→Int→Int→LT1→LIbe→Int→α) (d:A1d.den):α:=f d.1.2.2.2.2.2.2.2.2.2.2.2.2.2.2.2.2.2.2.2.2.2.2.2.2.2.2.2.2.2.2.2.2.2.2.2.2.2.2.2.1 d.1.2.2.2.2.2.2.2.2.2.2.2.2.2.2.2.2.2.2.2.2.2.2.2.2.2.2.2.2.2.2.2.2.2.2.2.2.2.2.2.2.1 d.1.2.2.2.2.2.2.2.2.2.2.2.2.2.2.2.2.2.2.2.2.2.2.2.2.2.2.2.2.2.2.2.2.2.2.2.2.2.2.2.2.2.1 d.2.1.1 d.2.1.2.1 d.2.1.2.2.1 d.2.1.2.2.2.1 d.2.1.2.2.2.2.1 d.2.1.2.2.2.2.2.1
noncomputable abbrev B6H:A1d.den→RT A1d.den:=(B0Z C5F)
noncomputable abbrev C5B (p0 p1 p2:Int) (p3:LT1) (p4:LIbe) (p5:Int) (v:B2S):A1d.den:=(((),(),(),(),(),(),(),(),(),(),(),(),(),(),(),(),(),(),(),(),(),(),(),(),(),(),(),(),(),(),(),(),(),(),(),(),(),(),(),v.1,v.2.1,v.2.2,u47),((p0,p1,p2,p3,p4,p5,()),()))
theorem D5S (p0 p1 p2:Int) (p3:LT1) (p4:LIbe) (p5:Int):(∀ v:B2S,(C5F v.1 v.2.1 v.2.2 p0 p1 p2 p3 p4 p5).val=R5 (C5B p0 p1 p2 p3 p4 p5) (B6Y p0 p1 p2 p3 p4 p5) (A4A v.1 v.2.1 v.2.2 p0 p1 p2 p3 p4 p5))∧∀ a:A9l,CEnd A1d.den ((B6Y p0 p1 p2 p3 p4 p5) a):=⟨fun v=>(B3 (B3 (B3 rfl (B3 (B3 rfl rfl) rfl)) rfl) rfl),fun a=>(C5 aCD (C5 aCD K7))⟩
noncomputable def C5o (x39:LIbe) (x40 x41 p0 p1 p2:Int) (p3:LT1) (p4:LIbe) (p5:Int):Option (Ex×St):=let z1:=(⟨(.junk::.junk::(.t true .bool false)::F0Q),[],0,[]⟩:St);let z2:=(x39.getD x41.toNat ((0:Int),false)).1;(cond (decide (x41<x40)) (cond (decide (0≤x41∧x41<(x39.length:Int))) (cond (!(B1c x39 x41 p0 p1 p2 p3 p4 p5)) (some (.ret,z1)) (cond (M9 z2 p0 p1 p2 p3 p4 p5) (cond ((U0 z2 p0 p1 p2 p3 p4 p5) != x41) (some (.ret,z1)) (some (.normal,(⟨(.junk::(.ptr 0 0 1 0)::.junk::.junk::.junk::.junk::.junk::.junk::.junk::.junk::.junk::.junk::.junk::.junk::.junk::.junk::.junk::.junk::.junk::.junk::.junk::.junk::.junk::.junk::.junk::.junk::.junk::.junk::.junk::.junk::.junk::.junk::.junk::.junk::.junk::.junk::.junk::.junk::.junk::(.t false tq9 x39)::(ti x40)::(ti (wI (x41+(1:Int))))::E9P),[(.box [(ti p0),(ti p1),(ti p2),(.t false tq6 p3),(.t false tq9 p4),(ti p5)])],0,[]⟩:St)))) none)) none) (some ((.exit 0),(⟨(.junk::(.ptr 0 0 1 0)::F3B),[(.box [(ti p0),(ti p1),(ti p2),(.t false tq6 p3),(.t false tq9 p4),(ti p5)])],0,[]⟩:St))))
theorem D4f:RdA E8a aLn 0 B2v A1d 0 [] (kepts [2] [(0,[1])]) (B0Z C5o):=by
 intro d
 kernel_rfl
theorem D4s:∀ d:A1d.den,(B0Z C5o) d=(B6H d).opt 0 []:=by
 intro d
 kernel_rfl
noncomputable abbrev C3U:St→Option Tree:=A1d.say 0 [] [] (B0Z E0j)
theorem D6A:aPL C3U B2v:=SS.wp2 hlz [] B6H D4f D4s _ (fun d=>Runs.ofI2 (step:=B6H) (C5B d.2.1.1 d.2.1.2.1 d.2.1.2.2.1 d.2.1.2.2.2.1 d.2.1.2.2.2.2.1 d.2.1.2.2.2.2.2.1) (D5S d.2.1.1 d.2.1.2.1 d.2.1.2.2.1 d.2.1.2.2.2.1 d.2.1.2.2.2.2.1 d.2.1.2.2.2.2.2.1) rfl (d.1.2.2.2.2.2.2.2.2.2.2.2.2.2.2.2.2.2.2.2.2.2.2.2.2.2.2.2.2.2.2.2.2.2.2.2.2.2.2.2.1,d.1.2.2.2.2.2.2.2.2.2.2.2.2.2.2.2.2.2.2.2.2.2.2.2.2.2.2.2.2.2.2.2.2.2.2.2.2.2.2.2.2.1,d.1.2.2.2.2.2.2.2.2.2.2.2.2.2.2.2.2.2.2.2.2.2.2.2.2.2.2.2.2.2.2.2.2.2.2.2.2.2.2.2.2.2.1))
abbrev A1o:SS:=⟨(.junk::.ptr 0 0 1 0::.junk::.junk::.junk::.junk::.junk::.junk::.junk::.junk::.junk::.junk::.junk::.junk::.junk::.junk::.junk::.junk::.junk::.junk::.junk::.junk::.junk::.junk::.junk::.junk::.junk::.junk::.junk::.junk::.junk::.junk::.junk::.junk::.junk::.junk::.junk::.junk::.junk::.junk::.junk::.junk::.junk::.junk::.junk::.junk::.junk::.junk::.junk::.junk::.junk::.junk::.junk::.junk::.junk::.junk::.junk::.junk::.junk::.junk::.junk::.t false tq6::tI::tI::D8A),[.box [tI,tI,tI,.t false tq6,.t false tq9,tI]]⟩
abbrev B5g:SS:=⟨(.junk::.junk::.t true .bool::F0U),[]⟩
abbrev C32:SS:=⟨(.junk::F4M),[]⟩
noncomputable def B1a (x61:LT1) (x63 p0 p1 p2:Int) (p3:LT1) (p4:LIbe) (p5:Int):=let z1:=x61.getD x63.toNat ((0:Int),([],((0:Int),[])));B3l (z1.1) ((z1.2).1) (((z1.2).2).1) (((z1.2).2).2) p0 p1 p2 p3 p4 p5
noncomputable def C44 (x61:LT1) (x62 x63 p0 p1 p2:Int) (p3:LT1) (p4:LIbe) (p5:Int):RT A1o.den:=let z1:=x61.getD x63.toNat ((0:Int),([],((0:Int),[])));let z2:=wI (x63 - (1:Int));(.br (decide (x63<x62)) (.br (decide (0≤x63∧x63<(x61.length:Int))) (.br (A0B (z1.1) ((z1.2).1) (((z1.2).2).1) (((z1.2).2).2) p0 p1 p2 p3 p4 p5) (.br (!(B1a x61 x63 p0 p1 p2 p3 p4 p5)) (.done .ret B5g (((),(),false,u86),())) (.br (decide (x63 > (0:Int))) (.br (decide (0≤z2∧z2<(p3.length:Int))) (.br (decide ((z1.1)≤((p3.getD (z2.toNat) ((0:Int),([],((0:Int),[])))).1))) (.done .ret B5g (((),(),false,u86),())) (.next (((),(),(),(),(),(),(),(),(),(),(),(),(),(),(),(),(),(),(),(),(),(),(),(),(),(),(),(),(),(),(),(),(),(),(),(),(),(),(),(),(),(),(),(),(),(),(),(),(),(),(),(),(),(),(),(),(),(),(),(),(),x61,x62,wI (x63+(1:Int)),u25),((p0,p1,p2,p3,p4,p5,()),())))) .fail) (.next (((),(),(),(),(),(),(),(),(),(),(),(),(),(),(),(),(),(),(),(),(),(),(),(),(),(),(),(),(),(),(),(),(),(),(),(),(),(),(),(),(),(),(),(),(),(),(),(),(),(),(),(),(),(),(),(),(),(),(),(),(),x61,x62,wI (x63+(1:Int)),u25),((p0,p1,p2,p3,p4,p5,()),()))))) .fail) .fail) (.done (.exit 2) C32 ((u89),())))
abbrev B3A:=LT1×(Int)×(Int)
abbrev A9p:=Nat×(Bool)
def B00:A9p:=(99,(false:Bool))
noncomputable def A4z (x61:LT1) (x62 x63 p0 p1 p2:Int) (p3:LT1) (p4:LIbe) (p5:Int):B3A ⊕ A9p:=let z1:=x61.getD x63.toNat ((0:Int),([],((0:Int),[])));let z2:=wI (x63 - (1:Int));(cond (decide (x63<x62)) (cond (decide (0≤x63∧x63<(x61.length:Int))) (cond (A0B (z1.1) ((z1.2).1) (((z1.2).2).1) (((z1.2).2).2) p0 p1 p2 p3 p4 p5) (cond (!(B1a x61 x63 p0 p1 p2 p3 p4 p5)) (.inr (0,false)) (cond (decide (x63 > (0:Int))) (cond (decide (0≤z2∧z2<(p3.length:Int))) (cond (decide ((z1.1)≤((p3.getD (z2.toNat) ((0:Int),([],((0:Int),[])))).1))) (.inr (0,false)) (.inl (x61,x62,wI (x63+(1:Int))))) (.inr B00)) (.inl (x61,x62,wI (x63+(1:Int)))))) (.inr B00)) (.inr B00)) (.inr (1,(false:Bool))))
noncomputable def A4u (x61:LT1) (x62 x63 p0 p1 p2:Int) (p3:LT1) (p4:LIbe) (p5:Int):A9p:=itX (fun v:B3A=>A4z v.1 v.2.1 v.2.2 p0 p1 p2 p3 p4 p5) B00 (x61,x62,x63)
noncomputable def B6K (p0 p1 p2:Int) (p3:LT1) (p4:LIbe) (p5:Int) (a:A9p):CT:=(.br (a.1==0) (.done .ret B5g (((),(),a.2,u86),())) (.br (a.1==1) (.done (.exit 2) C32 ((u89),())) .fail))
noncomputable def D9K (x61:LT1) (x62 x63 p0 p1 p2:Int) (p3:LT1) (p4:LIbe) (p5:Int):CT:=(B6K p0 p1 p2 p3 p4 p5) (A4u x61 x62 x63 p0 p1 p2 p3 p4 p5)
noncomputable abbrev B0O {α:Sort _} (f:LT1→Int→Int→Int→Int→Int→LT1→LIbe→Int→α) (d:A1o.den):α:=f d.1.2.2.2.2.2.2.2.2.2.2.2.2.2.2.2.2.2.2.2.2.2.2.2.2.2.2.2.2.2.2.2.2.2.2.2.2.2.2.2.2.2.2.2.2.2.2.2.2.2.2.2.2.2.2.2.2.2.2.2.2.2.1 d.1.2.2.2.2.2.2.2.2.2.2.2.2.2.2.2.2.2.2.2.2.2.2.2.2.2.2.2.2.2.2.2.2.2.2.2.2.2.2.2.2.2.2.2.2.2.2.2.2.2.2.2.2.2.2.2.2.2.2.2.2.2.2.1 d.1.2.2.2.2.2.2.2.2.2.2.2.2.2.2.2.2.2.2.2.2.2.2.2.2.2.2.2.2.2.2.2.2.2.2.2.2.2.2.2.2.2.2.2.2.2.2.2.2.2.2.2.2.2.2.2.2.2.2.2.2.2.2.2.1 d.2.1.1 d.2.1.2.1 d.2.1.2.2.1 d.2.1.2.2.2.1 d.2.1.2.2.2.2.1 d.2.1.2.2.2.2.2.1
noncomputable abbrev B6W:A1o.den→RT A1o.den:=(B0O C44)
noncomputable abbrev C5c (p0 p1 p2:Int) (p3:LT1) (p4:LIbe) (p5:Int) (v:B3A):A1o.den:=(((),(),(),(),(),(),(),(),(),(),(),(),(),(),(),(),(),(),(),(),(),(),(),(),(),(),(),(),(),(),(),(),(),(),(),(),(),(),(),(),(),(),(),(),(),(),(),(),(),(),(),(),(),(),(),(),(),(),(),(),(),v.1,v.2.1,v.2.2,u25),((p0,p1,p2,p3,p4,p5,()),()))
theorem D69 (p0 p1 p2:Int) (p3:LT1) (p4:LIbe) (p5:Int):(∀ v:B3A,(C44 v.1 v.2.1 v.2.2 p0 p1 p2 p3 p4 p5).val=R5 (C5c p0 p1 p2 p3 p4 p5) (B6K p0 p1 p2 p3 p4 p5) (A4z v.1 v.2.1 v.2.2 p0 p1 p2 p3 p4 p5))∧∀ a:A9p,CEnd A1o.den ((B6K p0 p1 p2 p3 p4 p5) a):=⟨fun v=>by repeat' first | apply B3 | rfl,fun a=>(C5 aCD (C5 aCD K7))⟩
noncomputable def C5d (x61:LT1) (x62 x63 p0 p1 p2:Int) (p3:LT1) (p4:LIbe) (p5:Int):Option (Ex×St):=let z1:=(⟨(.junk::(.ptr 0 0 1 0)::.junk::.junk::.junk::.junk::.junk::.junk::.junk::.junk::.junk::.junk::.junk::.junk::.junk::.junk::.junk::.junk::.junk::.junk::.junk::.junk::.junk::.junk::.junk::.junk::.junk::.junk::.junk::.junk::.junk::.junk::.junk::.junk::.junk::.junk::.junk::.junk::.junk::.junk::.junk::.junk::.junk::.junk::.junk::.junk::.junk::.junk::.junk::.junk::.junk::.junk::.junk::.junk::.junk::.junk::.junk::.junk::.junk::.junk::.junk::(.t false tq6 x61)::(ti x62)::(ti (wI (x63+(1:Int))))::E6z),[(.box [(ti p0),(ti p1),(ti p2),(.t false tq6 p3),(.t false tq9 p4),(ti p5)])],0,[]⟩:St);let z2:=x61.getD x63.toNat ((0:Int),([],((0:Int),[])));let z3:=wI (x63 - (1:Int));let z4:=(⟨(.junk::.junk::(.t true .bool false)::F0Q),[],0,[]⟩:St);(cond (decide (x63<x62)) (cond (decide (0≤x63∧x63<(x61.length:Int))) (cond (A0B (z2.1) ((z2.2).1) (((z2.2).2).1) (((z2.2).2).2) p0 p1 p2 p3 p4 p5) (cond (!(B1a x61 x63 p0 p1 p2 p3 p4 p5)) (some (.ret,z4)) (cond (decide (x63 > (0:Int))) (cond (decide (0≤z3∧z3<(p3.length:Int))) (cond (decide ((z2.1)≤((p3.getD (z3.toNat) ((0:Int),([],((0:Int),[])))).1))) (some (.ret,z4)) (some (.normal,z1))) none) (some (.normal,z1)))) none) none) (some ((.exit 2),(⟨(.junk::F44),[],0,[]⟩:St))))
theorem D5H:RdA E8a aLn 2 B19 A1o 0 [] (kepts [2] [(2,[])]) (B0O C5d):=by
 intro d
 kernel_rfl
theorem D4Z:∀ d:A1o.den,(B0O C5d) d=(B6W d).opt 0 []:=by
 intro d
 kernel_rfl
noncomputable abbrev C3F:St→Option Tree:=A1o.say 0 [] [] (B0O D9K)
theorem D6l:aPL C3F B19:=SS.wp2 hlz [] B6W D5H D4Z _ (fun d=>Runs.ofI2 (step:=B6W) (C5c d.2.1.1 d.2.1.2.1 d.2.1.2.2.1 d.2.1.2.2.2.1 d.2.1.2.2.2.2.1 d.2.1.2.2.2.2.2.1) (D69 d.2.1.1 d.2.1.2.1 d.2.1.2.2.1 d.2.1.2.2.2.1 d.2.1.2.2.2.2.1 d.2.1.2.2.2.2.2.1) rfl (d.1.2.2.2.2.2.2.2.2.2.2.2.2.2.2.2.2.2.2.2.2.2.2.2.2.2.2.2.2.2.2.2.2.2.2.2.2.2.2.2.2.2.2.2.2.2.2.2.2.2.2.2.2.2.2.2.2.2.2.2.2.2.1,d.1.2.2.2.2.2.2.2.2.2.2.2.2.2.2.2.2.2.2.2.2.2.2.2.2.2.2.2.2.2.2.2.2.2.2.2.2.2.2.2.2.2.2.2.2.2.2.2.2.2.2.2.2.2.2.2.2.2.2.2.2.2.2.1,d.1.2.2.2.2.2.2.2.2.2.2.2.2.2.2.2.2.2.2.2.2.2.2.2.2.2.2.2.2.2.2.2.2.2.2.2.2.2.2.2.2.2.2.2.2.2.2.2.2.2.2.2.2.2.2.2.2.2.2.2.2.2.2.2.1))
noncomputable def A9N (a0 a1 a2:Int) (a3:LT1) (a4:LIbe) (a5:Int):Bool:=let z1:=A4C a4 (a4.length:Int) (0:Int) a0 a1 a2 a3 a4 a5;let z2:=A4u a3 (a3.length:Int) (0:Int) a0 a1 a2 a3 a4 a5;(cond (!(J0 a0 (1:Int) (8:Int))) false (cond (!(J0 a1 (1:Int) (900:Int))) false (cond (!(J0 a2 (0:Int) (999:Int))) false (cond (decide ((a4.length:Int) > (1000:Int))) false (cond (!(J0 a5 (0:Int) (a4.length:Int))) false (cond (z1.1==0) (z1.2) (cond (z2.1==0) (z2.2) true)))))))
noncomputable abbrev R6 (r:Bool):AV×List AObj:=((.t true .bool r),[])
noncomputable abbrev C6Y:A1 B5z→AV×List AObj:=fun d=>R6 (A9N d.1.1 d.1.2.1 d.1.2.2.1 d.1.2.2.2.1 d.1.2.2.2.2.1 d.1.2.2.2.2.2.1)
noncomputable def A1a (a0 a1 a2:Int) (a3:LT1) (a4:LIbe) (a5:Int):Bool:=let z1:=A4C a4 (a4.length:Int) (0:Int) a0 a1 a2 a3 a4 a5;let z2:=A4u a3 (a3.length:Int) (0:Int) a0 a1 a2 a3 a4 a5;cond (!(J0 a0 (1:Int) (8:Int))) true (cond (!(J0 a1 (1:Int) (900:Int))) true (cond (!(J0 a2 (0:Int) (999:Int))) true (cond (decide ((a4.length:Int) > (1000:Int))) true (cond (!(J0 a5 (0:Int) (a4.length:Int))) true (cond (z1.1==0) true ((z1.1==1)&&(cond (z2.1==0) true (z2.1==1))))))))
noncomputable abbrev C0c:A1 B5z→Bool:=fun d=>A1a d.1.1 d.1.2.1 d.1.2.2.1 d.1.2.2.2.1 d.1.2.2.2.2.1 d.1.2.2.2.2.2.1
noncomputable abbrev E3Q:Nat→St→Option Tree:=fun b=>match b with | 0=>C3U | 2=>C3F | _=>fun _=>none
theorem D8S:N0 true E8a (E3Q) Tryz.f15 B5z C0c C6Y:=by
 rintro ⟨⟨a0,⟨a1,⟨a2,⟨a3,⟨a4,⟨a5,_⟩⟩⟩⟩⟩⟩,_⟩ hp
 change A1a a0 a1 a2 a3 a4 a5=true at hp
 unfold A1a at hp
 refine Eq.trans (b:=(let z1:=A4C a4 (a4.length:Int) (0:Int) a0 a1 a2 a3 a4 a5;let z2:=A4u a3 (a3.length:Int) (0:Int) a0 a1 a2 a3 a4 a5;cond (!(J0 a0 (1:Int) (8:Int))) (some (R6 false)) (cond (!(J0 a1 (1:Int) (900:Int))) (some (R6 false)) (cond (!(J0 a2 (0:Int) (999:Int))) (some (R6 false)) (cond (decide ((a4.length:Int) > (1000:Int))) (some (R6 false)) (cond (!(J0 a5 (0:Int) (a4.length:Int))) (some (R6 false)) (cond (z1.1==0) (some (R6 (z1.2))) (cond (z1.1==1) (cond (z2.1==0) (some (R6 (z2.2))) (cond (z2.1==1) (some (R6 true)) none)) none)))))))) (by kernel_rfl) ?_
 exact (A9 R6 hp (fun hp=>rfl) (fun hp=>(A9 R6 hp (fun hp=>rfl) (fun hp=>(A9 R6 hp (fun hp=>rfl) (fun hp=>(A9 R6 hp (fun hp=>rfl) (fun hp=>(A9 R6 hp (fun hp=>rfl) (fun hp=>(A9 R6 hp (fun hp=>rfl) (fun hp=>(B2 hp fun hp=>(A9 R6 hp (fun hp=>rfl) (fun hp=>(B7 hp fun _h=>rfl))))))))))))))))
theorem E31:aPP 15 (A7 B5z C0c C6Y):=pcD true E8a (by
  rw [show A6 0 (B4 Tryz.f15)=[(0,B2v),(2,B19)] by kernel_rfl];intro p hp;simp only [List.mem_cons,List.mem_nil_iff,or_false] at hp
  rcases hp with rfl | rfl
  ·exact D6A
  ·exact D6l) D8S
noncomputable def F3l:Tab:=Tab.add F3w 15 (lift (A7 B5z C0c C6Y))
noncomputable def F0l:FuncId→Bool:=qadd F0q 15
theorem F0Y:aPG F3l F0l:=E8a.addQ E31 (cbl Tryz.f15) (fun _=>rfl)

abbrev B4G:List PSh:=[.agg [(.int .i64),(.int .i64),(.int .i64),tq6,tq9,(.int .i64)]]
noncomputable def C15 (a0 a1 a2:Int) (a3:LT1) (a4:LIbe) (a5:Int):Int×Int×Int×LT1×LIbe×Int:=let z1:=B5s a0 a1 a2 a3 a4 a5;(cond (A9N a0 a1 a2 a3 a4 a5) ((z1.1),(z1.2.1),(z1.2.2.1),(z1.2.2.2.1),(z1.2.2.2.2.1),(a4.length:Int)) ((z1.1),(z1.2.1),(z1.2.2.1),(z1.2.2.2.1),(z1.2.2.2.2.1),(z1.2.2.2.2.2)))
noncomputable abbrev B96 (r:Int×Int×Int×LT1×LIbe×Int):AV×List AObj:=((.agg [(ti r.1),(ti r.2.1),(ti r.2.2.1),(.t true tq6 r.2.2.2.1),(.t true tq9 r.2.2.2.2.1),(ti r.2.2.2.2.2)]),[])
noncomputable abbrev C60:A1 B4G→AV×List AObj:=fun d=>B96 (C15 d.1.1 d.1.2.1 d.1.2.2.1 d.1.2.2.2.1 d.1.2.2.2.2.1 d.1.2.2.2.2.2.1)
noncomputable def A5m (a0 a1 a2:Int) (a3:LT1) (a4:LIbe) (a5:Int):Bool:=(A3P a0 a1 a2 a3 a4 a5)&&(A1a a0 a1 a2 a3 a4 a5)
noncomputable abbrev B87:A1 B4G→Bool:=fun d=>A5m d.1.1 d.1.2.1 d.1.2.2.1 d.1.2.2.2.1 d.1.2.2.2.2.1 d.1.2.2.2.2.2.1
theorem D8G:N0 true F0Y aLn Tryz.f8 B4G B87 C60:=by
 rintro ⟨⟨a0,⟨a1,⟨a2,⟨a3,⟨a4,⟨a5,_⟩⟩⟩⟩⟩⟩,_⟩ hp
 change A5m a0 a1 a2 a3 a4 a5=true at hp
 unfold A5m at hp
 refine Eq.trans (b:=(let z1:=B5s a0 a1 a2 a3 a4 a5;cond (A3P a0 a1 a2 a3 a4 a5) (cond (A1a a0 a1 a2 a3 a4 a5) (cond (A9N a0 a1 a2 a3 a4 a5) (some (B96 ((z1.1),(z1.2.1),(z1.2.2.1),(z1.2.2.2.1),(z1.2.2.2.2.1),(a4.length:Int)))) (some (B96 ((z1.1),(z1.2.1),(z1.2.2.1),(z1.2.2.2.1),(z1.2.2.2.2.1),(z1.2.2.2.2.2))))) none) none)) (by kernel_rfl) ?_
 exact (B2 hp fun hp=>(B7 hp fun _h=>(A18 B96 (fun _h=>rfl) (fun _h=>rfl))))
theorem E3O:aPP 8 (A7 B4G B87 C60):=pcD true F0Y hlz D8G
noncomputable def F1Q:Tab:=Tab.add F3l 8 (lift (A7 B4G B87 C60))
noncomputable def F0F:FuncId→Bool:=qadd F0l 8
theorem E9T:aPG F1Q F0F:=F0Y.addQ E3O (cbl Tryz.f8) (fun _=>rfl)

abbrev A6O:List PSh:=[.t tq3]
abbrev A03:SS:=⟨(.t false tq3::.junk::.junk::.all 0 3::tI::E4F),[.rows 48 true tq4]⟩
abbrev B5Z:SS:=⟨(.junk::.junk::.junk::.all 0 3::E2s),[.rows 48 true tq4]⟩
noncomputable def B4F (x0:Lq1) (x4:Int):=let z1:=x0.getD x4.toNat ((0:Int),((0:Int),[]));U6 (z1.1) ((z1.2).1) ((z1.2).2)
noncomputable def B7S (x0:Lq1) (x4:Int) (h0:Lq1):RT A03.den:=let z1:=B4F x0 x4;let z2:=x0.getD x4.toNat ((0:Int),((0:Int),[]));(.br (decide (x4<(x0.length:Int))) (.br (decide (0≤x4∧x4<(x0.length:Int))) (.br (N5 (z2.1) ((z2.2).1) ((z2.2).2)) (.br (decide ((h0.length+[((z1.1),((z1.2.1),(z1.2.2)))].length)*40≤MAXB)) (.next ((x0,(),(),(),wI (x4+(1:Int)),u17),(h0++[((z1.1),((z1.2.1),(z1.2.2)))],()))) .fail) .fail) .fail) (.done (.exit 0) B5Z ((u22),(h0,()))))
abbrev A4a:=(Lq1)×(Int)×(Lq1)
abbrev A4m:=Nat×(Lq1)
def A2T:A4m:=(99,([]:Lq1))
noncomputable def A3e (x0:Lq1) (x4:Int) (h0:Lq1):A4a ⊕ A4m:=let z1:=B4F x0 x4;let z2:=x0.getD x4.toNat ((0:Int),((0:Int),[]));(cond (decide (x4<(x0.length:Int))) (cond (decide (0≤x4∧x4<(x0.length:Int))) (cond (N5 (z2.1) ((z2.2).1) ((z2.2).2)) (cond (decide ((h0.length+[((z1.1),((z1.2.1),(z1.2.2)))].length)*40≤MAXB)) (.inl (x0,wI (x4+(1:Int)),h0++[((z1.1),((z1.2.1),(z1.2.2)))])) (.inr A2T)) (.inr A2T)) (.inr A2T)) (.inr (0,h0)))
noncomputable def A2S (x0:Lq1) (x4:Int) (h0:Lq1):A4m:=itX (fun v:A4a=>A3e v.1 v.2.1 v.2.2) A2T (x0,x4,h0)
noncomputable def B0A (a:A4m):CT:=(.br (a.1==0) (.done (.exit 0) B5Z ((u22),(a.2,()))) .fail)
noncomputable def D2N (x0:Lq1) (x4:Int) (h0:Lq1):CT:=B0A (A2S x0 x4 h0)
noncomputable abbrev B0z:A03.den→RT A03.den:=(fun d=>B7S d.1.1 d.1.2.2.2.2.1 d.2.1)
noncomputable def B4r:Code:=((A6 0 (B4 Tryz.f51)).getD 0 (0,.skip)).2
noncomputable abbrev B8z (v:A4a):A03.den:=((v.1,(),(),(),v.2.1,u17),(v.2.2,()))
theorem D0f:(∀ v:A4a,(B7S v.1 v.2.1 v.2.2).val=R5 B8z B0A (A3e v.1 v.2.1 v.2.2))∧∀ a:A4m,CEnd A03.den (B0A a):=⟨fun v=>(B3 (B3 (B3 (B3 rfl rfl) rfl) rfl) rfl),fun a=>(C5 aCD K7)⟩
theorem C8z:RdA E9T aLn 0 B4r A03 0 [] (kepts [] [(0,[3])]) (fun d=>(B0z d).opt 0 []):=by
 intro d
 kernel_rfl
noncomputable abbrev B5K:St→Option Tree:=A03.say 0 [] [] (fun d=>D2N d.1.1 d.1.2.2.2.2.1 d.2.1)
theorem D0i:aPL B5K B4r:=SS.wp2 hlz [] B0z C8z (fun d=>rfl) _ (fun d=>Runs.ofI2 (step:=B0z) B8z D0f rfl (d.1.1,d.1.2.2.2.2.1,d.2.1))
noncomputable def A5Q (a0:Lq1):Lq1:=((A2S a0 (0:Int) ([]:Lq1)).2)
noncomputable abbrev C5K (r:Lq1):AV×List AObj:=((.t true tq3 r),[])
noncomputable abbrev B6E:A1 A6O→AV×List AObj:=fun d=>C5K (A5Q d.1)
noncomputable def A0g (a0:Lq1):Bool:=((A2S a0 (0:Int) ([]:Lq1)).1==0)
noncomputable abbrev B2u:A1 A6O→Bool:=fun d=>A0g d.1
noncomputable abbrev D6T:Nat→St→Option Tree:=fun b=>match b with | 0=>B5K | _=>fun _=>none
theorem D2A:N0 true E9T (D6T) Tryz.f51 A6O B2u B6E:=by
 rintro ⟨a0,_⟩ hp
 change A0g a0=true at hp
 unfold A0g at hp
 refine Eq.trans (b:=(let z1:=A2S a0 (0:Int) ([]:Lq1);cond (z1.1==0) (some (C5K (z1.2))) none)) (by kernel_rfl) ?_
 exact (B7 hp fun _h=>rfl)
theorem D6C:aPP 51 (A7 A6O B2u B6E):=pcD true E9T (hl1 (i:=0) (by kernel_rfl) D0i) D2A
noncomputable def F3C:Tab:=Tab.add F1Q 51 (lift (A7 A6O B2u B6E))
noncomputable def F0j:FuncId→Bool:=qadd F0F 51
theorem F0N:aPG F3C F0j:=E9T.addQ D6C (cbl Tryz.f51) (fun _=>rfl)

abbrev B7n:List PSh:=[.agg [(.int .i64),tq3,(.int .i64),tq8,tq3]]
noncomputable def C8Q (a0:Int) (a1:Lq1) (a2:Int) (a3:LBBe) (a4:Lq1):Int×Lq1×Int×LBBe×Lq1:=(a0,(A5Q a1),a2,([]:LBBe)++a3,(A5Q a4))
noncomputable abbrev D7K (r:Int×Lq1×Int×LBBe×Lq1):AV×List AObj:=((.agg [(ti r.1),(.t true tq3 r.2.1),(ti r.2.2.1),(.t true tq8 r.2.2.2.1),(.t true tq3 r.2.2.2.2)]),[])
noncomputable abbrev C9K:A1 B7n→AV×List AObj:=fun d=>D7K (C8Q d.1.1 d.1.2.1 d.1.2.2.1 d.1.2.2.2.1 d.1.2.2.2.2.1)
noncomputable def B0d (a0:Int) (a1:Lq1) (a2:Int) (a3:LBBe) (a4:Lq1):Bool:=(A0g a1)&&((decide ((([]:LBBe).length+a3.length)*32≤MAXB))&&(A0g a4))
noncomputable abbrev C25:A1 B7n→Bool:=fun d=>B0d d.1.1 d.1.2.1 d.1.2.2.1 d.1.2.2.2.1 d.1.2.2.2.2.1
theorem E2m:N0 true F0N aLn Tryz.f23 B7n C25 C9K:=by
 rintro ⟨⟨a0,⟨a1,⟨a2,⟨a3,⟨a4,_⟩⟩⟩⟩⟩,_⟩ hp
 change B0d a0 a1 a2 a3 a4=true at hp
 unfold B0d at hp
 refine Eq.trans (b:=(cond (A0g a1) (cond (decide ((([]:LBBe).length+a3.length)*32≤MAXB)) (cond (A0g a4) (some (D7K (a0,(A5Q a1),a2,([]:LBBe)++a3,(A5Q a4)))) none) none) none)) (by kernel_rfl) ?_
 exact (B2 hp fun hp=>(B2 hp fun hp=>(B7 hp fun _h=>rfl)))
theorem E69:aPP 23 (A7 B7n C25 C9K):=pcD true F0N hlz E2m
noncomputable def F17:Tab:=Tab.add F3C 23 (lift (A7 B7n C25 C9K))
noncomputable def F0s:FuncId→Bool:=qadd F0j 23
theorem E9M:aPG F17 F0s:=F0N.addQ E69 (cbl Tryz.f23) (fun _=>rfl)

abbrev A5R:List PSh:=[.t tq8,.t tq8]
abbrev A0b:SS:=⟨(.t false tq8::.t false tq8::.junk::.junk::.junk::tI::E3z),[]⟩
abbrev B5t:SS:=⟨(.junk::.junk::.junk::.junk::.t true .bool::D3n),[]⟩
abbrev B41:SS:=⟨(.junk::D7e),[]⟩
noncomputable def B5C (x0 x1:LBBe) (x5:Int):RT A0b.den:=let z1:=x0.getD x5.toNat (bE,bE);let z2:=x1.getD x5.toNat (bE,bE);(.br (decide (x5<(x0.length:Int))) (.br (decide (0≤x5∧x5<(x0.length:Int))) (.br (decide (0≤x5∧x5<(x1.length:Int))) (.br (!(((z1.1).toList==(z2.1).toList)&&(((z1.2).toList==(z2.2).toList)&&true))) (.done .ret B5t (((),(),(),(),false,u22),())) (.next ((x0,x1,(),(),(),wI (x5+(1:Int)),u21),()))) .fail) .fail) (.done (.exit 0) B41 ((u27),())))
abbrev A1F:=(LBBe)×LBBe×(Int)
abbrev A2U:=Nat×(Bool)
def A4U:A2U:=(99,(false:Bool))
noncomputable def A2m (x0 x1:LBBe) (x5:Int):A1F ⊕ A2U:=let z1:=x0.getD x5.toNat (bE,bE);let z2:=x1.getD x5.toNat (bE,bE);(cond (decide (x5<(x0.length:Int))) (cond (decide (0≤x5∧x5<(x0.length:Int))) (cond (decide (0≤x5∧x5<(x1.length:Int))) (cond (!(((z1.1).toList==(z2.1).toList)&&(((z1.2).toList==(z2.2).toList)&&true))) (.inr (0,false)) (.inl (x0,x1,wI (x5+(1:Int))))) (.inr A4U)) (.inr A4U)) (.inr (1,(false:Bool))))
noncomputable def A2w (x0 x1:LBBe) (x5:Int):A2U:=itX (fun v:A1F=>A2m v.1 v.2.1 v.2.2) A4U (x0,x1,x5)
noncomputable def A9G (a:A2U):CT:=(.br (a.1==0) (.done .ret B5t (((),(),(),(),a.2,u22),())) (.br (a.1==1) (.done (.exit 0) B41 ((u27),())) .fail))
noncomputable def C9S (x0 x1:LBBe) (x5:Int):CT:=A9G (A2w x0 x1 x5)
noncomputable abbrev A8B:A0b.den→RT A0b.den:=(fun d=>B5C d.1.1 d.1.2.1 d.1.2.2.2.2.2.1)
noncomputable def B2N:Code:=((A6 0 (B4 Tryz.f34)).getD 0 (0,.skip)).2
noncomputable abbrev B5S (v:A1F):A0b.den:=((v.1,v.2.1,(),(),(),v.2.2,u21),())
theorem C81:(∀ v:A1F,(B5C v.1 v.2.1 v.2.2).val=R5 B5S A9G (A2m v.1 v.2.1 v.2.2))∧∀ a:A2U,CEnd A0b.den (A9G a):=⟨fun v=>(B3 (B3 (B3 (B3 rfl rfl) rfl) rfl) rfl),fun a=>(C5 aCD (C5 aCD K7))⟩
theorem C6U:RdA E9M aLn 0 B2N A0b 0 [] (kepts [4] [(0,[])]) (fun d=>(A8B d).opt 0 []):=by
 intro d
 kernel_rfl
noncomputable abbrev B40:St→Option Tree:=A0b.say 0 [] [] (fun d=>C9S d.1.1 d.1.2.1 d.1.2.2.2.2.2.1)
theorem C8D:aPL B40 B2N:=SS.wp2 hlz [] A8B C6U (fun d=>rfl) _ (fun d=>Runs.ofI2 (step:=A8B) B5S C81 rfl (d.1.1,d.1.2.1,d.1.2.2.2.2.2.1))
noncomputable def A6a (a0 a1:LBBe):Bool:=let z1:=A2w a0 a1 (0:Int);(cond ((a0.length:Int) != (a1.length:Int)) false (cond (z1.1==0) (z1.2) true))
noncomputable abbrev A3l (r:Bool):AV×List AObj:=((.t true .bool r),[])
noncomputable abbrev B38:A1 A5R→AV×List AObj:=fun d=>A3l (A6a d.1 d.2.1)
noncomputable def A1W (a0 a1:LBBe):Bool:=let z1:=A2w a0 a1 (0:Int);cond ((a0.length:Int) != (a1.length:Int)) true (cond (z1.1==0) true (z1.1==1))
noncomputable abbrev B0h:A1 A5R→Bool:=fun d=>A1W d.1 d.2.1
noncomputable abbrev D3f:Nat→St→Option Tree:=fun b=>match b with | 0=>B40 | _=>fun _=>none
theorem C93:N0 true E9M (D3f) Tryz.f34 A5R B0h B38:=by
 rintro ⟨a0,⟨a1,_⟩⟩ hp
 change A1W a0 a1=true at hp
 unfold A1W at hp
 refine Eq.trans (b:=(let z1:=A2w a0 a1 (0:Int);cond ((a0.length:Int) != (a1.length:Int)) (some (A3l false)) (cond (z1.1==0) (some (A3l (z1.2))) (cond (z1.1==1) (some (A3l true)) none)))) (by kernel_rfl) ?_
 exact (A9 A3l hp (fun hp=>rfl) (fun hp=>(A9 A3l hp (fun hp=>rfl) (fun hp=>(B7 hp fun _h=>rfl)))))
theorem D3U:aPP 34 (A7 A5R B0h B38):=pcD true E9M (hl1 (i:=0) (by kernel_rfl) C8D) C93
noncomputable def F1H:Tab:=Tab.add F17 34 (lift (A7 A5R B0h B38))
noncomputable def F0H:FuncId→Bool:=qadd F0s 34
theorem E9t:aPG F1H F0H:=E9M.addQ D3U (cbl Tryz.f34) (fun _=>rfl)

abbrev A8Q:List PSh:=[.t tq5,.t tq5]
abbrev A12:SS:=⟨(.t false tq5::.t false tq5::.junk::.junk::.junk::tI::E3z),[]⟩
abbrev B8C:SS:=⟨(.junk::.junk::.junk::.junk::.t true .bool::D3n),[]⟩
abbrev B77:SS:=⟨(.junk::D7e),[]⟩
noncomputable def C06 (x0 x1:Lq2) (x5:Int):RT A12.den:=let z1:=x0.getD x5.toNat ((0:Int),(bE,bE));let z2:=x1.getD x5.toNat ((0:Int),(bE,bE));(.br (decide (x5<(x0.length:Int))) (.br (decide (0≤x5∧x5<(x0.length:Int))) (.br (decide (0≤x5∧x5<(x1.length:Int))) (.br (!(((z1.1)==(z2.1))&&((((z1.2).1).toList==((z2.2).1).toList)&&((((z1.2).2).toList==((z2.2).2).toList)&&true)))) (.done .ret B8C (((),(),(),(),false,u22),())) (.next ((x0,x1,(),(),(),wI (x5+(1:Int)),u21),()))) .fail) .fail) (.done (.exit 0) B77 ((u27),())))
abbrev A3a:=(Lq2)×Lq2×(Int)
abbrev A5V:=Nat×(Bool)
def A7e:A5V:=(99,(false:Bool))
noncomputable def A4j (x0 x1:Lq2) (x5:Int):A3a ⊕ A5V:=let z1:=x0.getD x5.toNat ((0:Int),(bE,bE));let z2:=x1.getD x5.toNat ((0:Int),(bE,bE));(cond (decide (x5<(x0.length:Int))) (cond (decide (0≤x5∧x5<(x0.length:Int))) (cond (decide (0≤x5∧x5<(x1.length:Int))) (cond (!(((z1.1)==(z2.1))&&((((z1.2).1).toList==((z2.2).1).toList)&&((((z1.2).2).toList==((z2.2).2).toList)&&true)))) (.inr (0,false)) (.inl (x0,x1,wI (x5+(1:Int))))) (.inr A7e)) (.inr A7e)) (.inr (1,(false:Bool))))
noncomputable def A35 (x0 x1:Lq2) (x5:Int):A5V:=itX (fun v:A3a=>A4j v.1 v.2.1 v.2.2) A7e (x0,x1,x5)
noncomputable def B2C (a:A5V):CT:=(.br (a.1==0) (.done .ret B8C (((),(),(),(),a.2,u22),())) (.br (a.1==1) (.done (.exit 0) B77 ((u27),())) .fail))
noncomputable def D46 (x0 x1:Lq2) (x5:Int):CT:=B2C (A35 x0 x1 x5)
noncomputable abbrev B2E:A12.den→RT A12.den:=(fun d=>C06 d.1.1 d.1.2.1 d.1.2.2.2.2.2.1)
noncomputable def B6n:Code:=((A6 0 (B4 Tryz.f58)).getD 0 (0,.skip)).2
noncomputable abbrev C1c (v:A3a):A12.den:=((v.1,v.2.1,(),(),(),v.2.2,u21),())
theorem D2p:(∀ v:A3a,(C06 v.1 v.2.1 v.2.2).val=R5 C1c B2C (A4j v.1 v.2.1 v.2.2))∧∀ a:A5V,CEnd A12.den (B2C a):=⟨fun v=>(B3 (B3 (B3 (B3 rfl rfl) rfl) rfl) rfl),fun a=>(C5 aCD (C5 aCD K7))⟩
theorem D0h:RdA E9t aLn 0 B6n A12 0 [] (kepts [4] [(0,[])]) (fun d=>(B2E d).opt 0 []):=by
 intro d
 kernel_rfl
noncomputable abbrev B8c:St→Option Tree:=A12.say 0 [] [] (fun d=>D46 d.1.1 d.1.2.1 d.1.2.2.2.2.2.1)
theorem D17:aPL B8c B6n:=SS.wp2 hlz [] B2E D0h (fun d=>rfl) _ (fun d=>Runs.ofI2 (step:=B2E) C1c D2p rfl (d.1.1,d.1.2.1,d.1.2.2.2.2.2.1))
noncomputable def B97 (a0 a1:Lq2):Bool:=let z1:=A35 a0 a1 (0:Int);(cond ((a0.length:Int) != (a1.length:Int)) false (cond (z1.1==0) (z1.2) true))
noncomputable abbrev A6m (r:Bool):AV×List AObj:=((.t true .bool r),[])
noncomputable abbrev B9f:A1 A8Q→AV×List AObj:=fun d=>A6m (B97 d.1 d.2.1)
noncomputable def A2k (a0 a1:Lq2):Bool:=let z1:=A35 a0 a1 (0:Int);cond ((a0.length:Int) != (a1.length:Int)) true (cond (z1.1==0) true (z1.1==1))
noncomputable abbrev B42:A1 A8Q→Bool:=fun d=>A2k d.1 d.2.1
noncomputable abbrev D9H:Nat→St→Option Tree:=fun b=>match b with | 0=>B8c | _=>fun _=>none
theorem D5v:N0 true E9t (D9H) Tryz.f58 A8Q B42 B9f:=by
 rintro ⟨a0,⟨a1,_⟩⟩ hp
 change A2k a0 a1=true at hp
 unfold A2k at hp
 refine Eq.trans (b:=(let z1:=A35 a0 a1 (0:Int);cond ((a0.length:Int) != (a1.length:Int)) (some (A6m false)) (cond (z1.1==0) (some (A6m (z1.2))) (cond (z1.1==1) (some (A6m true)) none)))) (by kernel_rfl) ?_
 exact (A9 A6m hp (fun hp=>rfl) (fun hp=>(A9 A6m hp (fun hp=>rfl) (fun hp=>(B7 hp fun _h=>rfl)))))
theorem D86:aPP 58 (A7 A8Q B42 B9f):=pcD true E9t (hl1 (i:=0) (by kernel_rfl) D17) D5v
noncomputable def F3P:Tab:=Tab.add F1H 58 (lift (A7 A8Q B42 B9f))
noncomputable def F0e:FuncId→Bool:=qadd F0H 58
theorem E9s:aPG F3P F0e:=E9t.addQ D86 (cbl Tryz.f58) (fun _=>rfl)

abbrev F2Q:List Sh:=.junk::E94
abbrev F4O:List Sh:=.junk::F2Q
abbrev F4N:List Sh:=.junk::F1b
abbrev u51:=((),(),u49)
abbrev u50:=((),u49)
abbrev u56:=((),(),u54)
abbrev F4k:List AV:=.junk::.junk::E7g
abbrev F4T:List AV:=.junk::E7g
abbrev F40:List AV:=.junk::F1C
abbrev A6P:List PSh:=[.t tq3,.t tq3]
abbrev Y5:SS:=⟨(.t false tq3::.t false tq3::.junk::.junk::.junk::tI::F2Q),[]⟩
abbrev A4V:SS:=⟨(.junk::.junk::.junk::.junk::.t true .bool::F4O),[]⟩
abbrev B5V:SS:=⟨(.junk::F4N),[]⟩
noncomputable def A9I (x0 x1:Lq1) (x5:Int):=B97 (((x0.getD x5.toNat ((0:Int),((0:Int),[]))).2).2) (((x1.getD x5.toNat ((0:Int),((0:Int),[]))).2).2)
noncomputable def B7A (x0 x1:Lq1) (x5:Int):RT Y5.den:=let z1:=x0.getD x5.toNat ((0:Int),((0:Int),[]));let z2:=x1.getD x5.toNat ((0:Int),((0:Int),[]));let z3:=decide (0≤x5∧x5<(x0.length:Int));let z4:=decide (0≤x5∧x5<(x1.length:Int));(.br (decide (x5<(x0.length:Int))) (.br z3 (.br z4 (.br ((z1.1) != (z2.1)) (.done .ret A4V (((),(),(),(),false,u51),())) (.br z3 (.br z4 (.br (((z1.2).1) != ((z2.2).1)) (.done .ret A4V (((),(),(),(),false,u51),())) (.br z3 (.br z4 (.br (A2k ((z1.2).2) ((z2.2).2)) (.br (!(A9I x0 x1 x5)) (.done .ret A4V (((),(),(),(),false,u51),())) (.next ((x0,x1,(),(),(),wI (x5+(1:Int)),u50),()))) .fail) .fail) .fail)) .fail) .fail)) .fail) .fail) (.done (.exit 0) B5V ((u56),())))
abbrev A19:=(Lq1)×Lq1×(Int)
abbrev A4h:=Nat×(Bool)
def Q7:A4h:=(99,(false:Bool))
noncomputable def A2W (x0 x1:Lq1) (x5:Int):A19 ⊕ A4h:=let z1:=x0.getD x5.toNat ((0:Int),((0:Int),[]));let z2:=x1.getD x5.toNat ((0:Int),((0:Int),[]));let z3:=decide (0≤x5∧x5<(x0.length:Int));let z4:=decide (0≤x5∧x5<(x1.length:Int));(cond (decide (x5<(x0.length:Int))) (cond z3 (cond z4 (cond ((z1.1) != (z2.1)) (.inr (0,false)) (cond z3 (cond z4 (cond (((z1.2).1) != ((z2.2).1)) (.inr (0,false)) (cond z3 (cond z4 (cond (A2k ((z1.2).2) ((z2.2).2)) (cond (!(A9I x0 x1 x5)) (.inr (0,false)) (.inl (x0,x1,wI (x5+(1:Int))))) (.inr Q7)) (.inr Q7)) (.inr Q7))) (.inr Q7)) (.inr Q7))) (.inr Q7)) (.inr Q7)) (.inr (1,(false:Bool))))
noncomputable def A26 (x0 x1:Lq1) (x5:Int):A4h:=itX (fun v:A19=>A2W v.1 v.2.1 v.2.2) Q7 (x0,x1,x5)
noncomputable def B0t (a:A4h):CT:=(.br (a.1==0) (.done .ret A4V (((),(),(),(),a.2,u51),())) (.br (a.1==1) (.done (.exit 0) B5V ((u56),())) .fail))
noncomputable def D2z (x0 x1:Lq1) (x5:Int):CT:=B0t (A26 x0 x1 x5)
noncomputable abbrev B0j:Y5.den→RT Y5.den:=(fun d=>B7A d.1.1 d.1.2.1 d.1.2.2.2.2.2.1)
noncomputable def B5u:Code:=((A6 0 (B4 Tryz.f35)).getD 0 (0,.skip)).2
noncomputable abbrev B8B (v:A19):Y5.den:=((v.1,v.2.1,(),(),(),v.2.2,u50),())
theorem D0b:(∀ v:A19,(B7A v.1 v.2.1 v.2.2).val=R5 B8B B0t (A2W v.1 v.2.1 v.2.2))∧∀ a:A4h,CEnd Y5.den (B0t a):=⟨fun v=>by repeat' first | apply B3 | rfl,fun a=>(C5 aCD (C5 aCD K7))⟩
noncomputable def B7E (x0 x1:Lq1) (x5:Int):Option (Ex×St):=let z1:=(⟨(.junk::.junk::.junk::.junk::(.t true .bool false)::F4k),[],0,[]⟩:St);let z2:=x0.getD x5.toNat ((0:Int),((0:Int),[]));let z3:=x1.getD x5.toNat ((0:Int),((0:Int),[]));let z4:=decide (0≤x5∧x5<(x0.length:Int));let z5:=decide (0≤x5∧x5<(x1.length:Int));(cond (decide (x5<(x0.length:Int))) (cond z4 (cond z5 (cond ((z2.1) != (z3.1)) (some (.ret,z1)) (cond z4 (cond z5 (cond (((z2.2).1) != ((z3.2).1)) (some (.ret,z1)) (cond z4 (cond z5 (cond (A2k ((z2.2).2) ((z3.2).2)) (cond (!(A9I x0 x1 x5)) (some (.ret,z1)) (some (.normal,(⟨((.t false tq3 x0)::(.t false tq3 x1)::.junk::.junk::.junk::(ti (wI (x5+(1:Int))))::F4T),[],0,[]⟩:St)))) none) none) none)) none) none)) none) none) (some ((.exit 0),(⟨(.junk::F40),[],0,[]⟩:St))))
theorem C8B:RdA E9s aLn 0 B5u Y5 0 [] (kepts [4] [(0,[])]) (fun d=>B7E d.1.1 d.1.2.1 d.1.2.2.2.2.2.1):=by
 intro d
 kernel_rfl
theorem C7M:∀ d:Y5.den,(fun d=>B7E d.1.1 d.1.2.1 d.1.2.2.2.2.2.1) d=(B0j d).opt 0 []:=by
 intro d
 kernel_rfl
noncomputable abbrev B6m:St→Option Tree:=Y5.say 0 [] [] (fun d=>D2z d.1.1 d.1.2.1 d.1.2.2.2.2.2.1)
theorem C9w:aPL B6m B5u:=SS.wp2 hlz [] B0j C8B C7M _ (fun d=>Runs.ofI2 (step:=B0j) B8B D0b rfl (d.1.1,d.1.2.1,d.1.2.2.2.2.2.1))
noncomputable def B1M (a0 a1:Lq1):Bool:=let z1:=A26 a0 a1 (0:Int);(cond ((a0.length:Int) != (a1.length:Int)) false (cond (z1.1==0) (z1.2) true))
noncomputable abbrev A4s (r:Bool):AV×List AObj:=((.t true .bool r),[])
noncomputable abbrev B61:A1 A6P→AV×List AObj:=fun d=>A4s (B1M d.1 d.2.1)
noncomputable def A2L (a0 a1:Lq1):Bool:=let z1:=A26 a0 a1 (0:Int);cond ((a0.length:Int) != (a1.length:Int)) true (cond (z1.1==0) true (z1.1==1))
noncomputable abbrev B2a:A1 A6P→Bool:=fun d=>A2L d.1 d.2.1
noncomputable abbrev D6e:Nat→St→Option Tree:=fun b=>match b with | 0=>B6m | _=>fun _=>none
theorem D2e:N0 true E9s (D6e) Tryz.f35 A6P B2a B61:=by
 rintro ⟨a0,⟨a1,_⟩⟩ hp
 change A2L a0 a1=true at hp
 unfold A2L at hp
 refine Eq.trans (b:=(let z1:=A26 a0 a1 (0:Int);cond ((a0.length:Int) != (a1.length:Int)) (some (A4s false)) (cond (z1.1==0) (some (A4s (z1.2))) (cond (z1.1==1) (some (A4s true)) none)))) (by kernel_rfl) ?_
 exact (A9 A4s hp (fun hp=>rfl) (fun hp=>(A9 A4s hp (fun hp=>rfl) (fun hp=>(B7 hp fun _h=>rfl)))))
theorem D6w:aPP 35 (A7 A6P B2a B61):=pcD true E9s (hl1 (i:=0) (by kernel_rfl) C9w) D2e
noncomputable def F1U:Tab:=Tab.add F3P 35 (lift (A7 A6P B2a B61))
noncomputable def F0k:FuncId→Bool:=qadd F0e 35
theorem F1u:aPG F1U F0k:=E9s.addQ D6w (cbl Tryz.f35) (fun _=>rfl)

abbrev B3S:List PSh:=[.agg [(.int .i64),tq3,(.int .i64),tq8,tq3]]
noncomputable def A6T (a0:Int) (a1:Lq1) (a2:Int) (a3:LBBe) (a4:Lq1):Bool:=let z1:=T3 a1;(cond (!(C0 a0 (0:Int) (7:Int))) false (cond (decide ((a1.length:Int) > (300:Int))) false (cond (!(C0 a2 (0:Int) (a1.length:Int))) false (cond (z1.1) (cond (A6a (z1.2.1) a3) (cond (B1M (z1.2.2) a4) (decide ((wI ((a1.length:Int)+(((z1.2.2).length:Nat):Int)))≤(300:Int))) false) false) false))))
noncomputable abbrev X7 (r:Bool):AV×List AObj:=((.t true .bool r),[])
noncomputable abbrev C63:A1 B3S→AV×List AObj:=fun d=>X7 (A6T d.1.1 d.1.2.1 d.1.2.2.1 d.1.2.2.2.1 d.1.2.2.2.2.1)
noncomputable def A1Y (a0:Int) (a1:Lq1) (a2:Int) (a3:LBBe) (a4:Lq1):Bool:=let z1:=T3 a1;cond (!(C0 a0 (0:Int) (7:Int))) true (cond (decide ((a1.length:Int) > (300:Int))) true (cond (!(C0 a2 (0:Int) (a1.length:Int))) true ((M8 a1)&&(cond (z1.1) ((A1W (z1.2.1) a3)&&(cond (A6a (z1.2.1) a3) (A2L (z1.2.2) a4) true)) true))))
noncomputable abbrev C0v:A1 B3S→Bool:=fun d=>A1Y d.1.1 d.1.2.1 d.1.2.2.1 d.1.2.2.2.1 d.1.2.2.2.2.1
theorem D8j:N0 true F1u aLn Tryz.f14 B3S C0v C63:=by
 rintro ⟨⟨a0,⟨a1,⟨a2,⟨a3,⟨a4,_⟩⟩⟩⟩⟩,_⟩ hp
 change A1Y a0 a1 a2 a3 a4=true at hp
 unfold A1Y at hp
 refine Eq.trans (b:=(let z1:=T3 a1;cond (!(C0 a0 (0:Int) (7:Int))) (some (X7 false)) (cond (decide ((a1.length:Int) > (300:Int))) (some (X7 false)) (cond (!(C0 a2 (0:Int) (a1.length:Int))) (some (X7 false)) (cond (M8 a1) (cond (z1.1) (cond (A1W (z1.2.1) a3) (cond (A6a (z1.2.1) a3) (cond (A2L (z1.2.2) a4) (cond (B1M (z1.2.2) a4) (some (X7 (decide ((wI ((a1.length:Int)+(((z1.2.2).length:Nat):Int)))≤(300:Int))))) (some (X7 false))) none) (some (X7 false))) none) (some (X7 false))) none))))) (by kernel_rfl) ?_
 exact (A9 X7 hp (fun hp=>rfl) (fun hp=>(A9 X7 hp (fun hp=>rfl) (fun hp=>(A9 X7 hp (fun hp=>rfl) (fun hp=>(B2 hp fun hp=>(A9 X7 hp (fun hp=>(B2 hp fun hp=>(A9 X7 hp (fun hp=>(B7 hp fun _h=>(A18 X7 (fun _h=>rfl) (fun _h=>rfl)))) (fun hp=>rfl)))) (fun hp=>rfl)))))))))
theorem E5c:aPP 14 (A7 B3S C0v C63):=pcD true F1u hlz D8j
noncomputable def F1X:Tab:=Tab.add F1U 14 (lift (A7 B3S C0v C63))
noncomputable def F0A:FuncId→Bool:=qadd F0k 14
theorem F1t:aPG F1X F0A:=F1u.addQ E5c (cbl Tryz.f14) (fun _=>rfl)

abbrev B1u:List PSh:=[.agg [(.int .i64),tq3,(.int .i64),tq8,tq3]]
noncomputable def B8g (a0:Int) (a1:Lq1) (a2:Int) (a3:LBBe) (a4:Lq1):Int×Lq1×Int×LBBe×Lq1:=let z1:=C8Q a0 a1 a2 a3 a4;(cond (A6T a0 a1 a2 a3 a4) ((z1.1),(z1.2.1),(((z1.2.1).length:Nat):Int),(z1.2.2.2.1),(z1.2.2.2.2)) ((z1.1),(z1.2.1),(z1.2.2.1),(z1.2.2.2.1),(z1.2.2.2.2)))
noncomputable abbrev B5W (r:Int×Lq1×Int×LBBe×Lq1):AV×List AObj:=((.agg [(ti r.1),(.t true tq3 r.2.1),(ti r.2.2.1),(.t true tq8 r.2.2.2.1),(.t true tq3 r.2.2.2.2)]),[])
noncomputable abbrev C1F:A1 B1u→AV×List AObj:=fun d=>B5W (B8g d.1.1 d.1.2.1 d.1.2.2.1 d.1.2.2.2.1 d.1.2.2.2.2.1)
noncomputable def A3x (a0:Int) (a1:Lq1) (a2:Int) (a3:LBBe) (a4:Lq1):Bool:=(B0d a0 a1 a2 a3 a4)&&(A1Y a0 a1 a2 a3 a4)
noncomputable abbrev B7f:A1 B1u→Bool:=fun d=>A3x d.1.1 d.1.2.1 d.1.2.2.1 d.1.2.2.2.1 d.1.2.2.2.2.1
theorem D5N:N0 true F1t aLn Tryz.f9 B1u B7f C1F:=by
 rintro ⟨⟨a0,⟨a1,⟨a2,⟨a3,⟨a4,_⟩⟩⟩⟩⟩,_⟩ hp
 change A3x a0 a1 a2 a3 a4=true at hp
 unfold A3x at hp
 refine Eq.trans (b:=(let z1:=C8Q a0 a1 a2 a3 a4;cond (B0d a0 a1 a2 a3 a4) (cond (A1Y a0 a1 a2 a3 a4) (cond (A6T a0 a1 a2 a3 a4) (some (B5W ((z1.1),(z1.2.1),(((z1.2.1).length:Nat):Int),(z1.2.2.2.1),(z1.2.2.2.2)))) (some (B5W ((z1.1),(z1.2.1),(z1.2.2.1),(z1.2.2.2.1),(z1.2.2.2.2))))) none) none)) (by kernel_rfl) ?_
 exact (B2 hp fun hp=>(B7 hp fun _h=>(A18 B5W (fun _h=>rfl) (fun _h=>rfl))))
theorem E3o:aPP 9 (A7 B1u B7f C1F):=pcD true F1t hlz D5N
noncomputable def F10:Tab:=Tab.add F1X 9 (lift (A7 B1u B7f C1F))
noncomputable def F0u:FuncId→Bool:=qadd F0A 9
theorem E9f:aPG F10 F0u:=F1t.addQ E3o (cbl Tryz.f9) (fun _=>rfl)

abbrev B5w:List PSh:=[.agg [(.int .i64),(.int .i64),(.int .i64),tq6,tq9,(.int .i64)]]
abbrev A1n:SS:=⟨(.junk::.ptr 0 0 1 0::.ptr 1 0 1 0::.ptr 2 0 1 0::tI::E8g),[.box [tI,tI,tI,.t false tq6,.t false tq9,tI],.box [tI,tI,tI,.nil,.nil,tI],.box [tI,tI,tI,.all 3 4,.all 4 2,tI],.rows 62 true tq7,.rows 57 true A3m]⟩
abbrev C3s:SS:=⟨(.junk::.junk::.ptr 0 0 1 0::.ptr 1 0 1 0::E8i),[.box [tI,tI,tI,.nil,.nil,tI],.box [tI,tI,tI,.all 2 4,.all 3 2,tI],.rows 62 true tq7,.rows 57 true A3m]⟩
noncomputable def C5Y (x4 p0 p1 p2:Int) (p3:LT1) (p4:LIbe) (p5 q0 q1 q2 q5 r0 r1 r2 r5:Int) (h3:LT1) (h4:LIbe):RT A1n.den:=let z1:=p3.getD x4.toNat ((0:Int),([],((0:Int),[])));let z2:=([]:List Int);let z3:=M5 ((z1.2).1);(.br (decide (x4<(p3.length:Int))) (.br (decide (0≤x4∧x4<(p3.length:Int))) (.br (N8 ((z1.2).1)) (.br (decide ((z2.length+(((z1.2).2).2).length)*8≤MAXB)) (.br (decide ((h3.length+([(z1.1,(z3,(((z1.2).2).1,z2++(((z1.2).2).2))))]:LT1).length)*64≤MAXB)) (.next (((),(),(),(),wI (x4+(1:Int)),u38),((p0,p1,p2,p3,p4,p5,()),(q0,q1,q2,(),(),q5,()),(r0,r1,r2,(),(),r5,()),h3++([(z1.1,(z3,(((z1.2).2).1,z2++(((z1.2).2).2))))]),h4,()))) .fail) .fail) .fail) .fail) (.done (.exit 0) C3s ((u43),((q0,q1,q2,(),(),q5,()),(r0,r1,r2,(),(),r5,()),h3,h4,()))))
abbrev A8V:=(Int)×LT1×(LIbe)
abbrev A57:=Nat×LT1×(LIbe)
def A6J:A57:=(99,([]:LT1),([]:LIbe))
noncomputable def B0P (x4 p0 p1 p2:Int) (p3:LT1) (p4:LIbe) (p5 q0 q1 q2 q5 r0 r1 r2 r5:Int) (h3:LT1) (h4:LIbe):A8V ⊕ A57:=let z1:=p3.getD x4.toNat ((0:Int),([],((0:Int),[])));let z2:=([]:List Int);let z3:=M5 ((z1.2).1);(cond (decide (x4<(p3.length:Int))) (cond (decide (0≤x4∧x4<(p3.length:Int))) (cond (N8 ((z1.2).1)) (cond (decide ((z2.length+(((z1.2).2).2).length)*8≤MAXB)) (cond (decide ((h3.length+([(z1.1,(z3,(((z1.2).2).1,z2++(((z1.2).2).2))))]:LT1).length)*64≤MAXB)) (.inl (wI (x4+(1:Int)),h3++([(z1.1,(z3,(((z1.2).2).1,z2++(((z1.2).2).2))))]),h4)) (.inr A6J)) (.inr A6J)) (.inr A6J)) (.inr A6J)) (.inr (0,h3,h4)))
noncomputable def B7j (x4 p0 p1 p2:Int) (p3:LT1) (p4:LIbe) (p5 q0 q1 q2 q5 r0 r1 r2 r5:Int) (h3:LT1) (h4:LIbe):A57:=itX (fun v:A8V=>B0P v.1 p0 p1 p2 p3 p4 p5 q0 q1 q2 q5 r0 r1 r2 r5 v.2.1 v.2.2) A6J (x4,h3,h4)
noncomputable def B7h (p0 p1 p2:Int) (p3:LT1) (p4:LIbe) (p5 q0 q1 q2 q5 r0 r1 r2 r5:Int) (a:A57):CT:=(.br (a.1==0) (.done (.exit 0) C3s ((u43),((q0,q1,q2,(),(),q5,()),(r0,r1,r2,(),(),r5,()),a.2.1,a.2.2,()))) .fail)
noncomputable def D91 (x4 p0 p1 p2:Int) (p3:LT1) (p4:LIbe) (p5 q0 q1 q2 q5 r0 r1 r2 r5:Int) (h3:LT1) (h4:LIbe):CT:=(B7h p0 p1 p2 p3 p4 p5 q0 q1 q2 q5 r0 r1 r2 r5) (B7j x4 p0 p1 p2 p3 p4 p5 q0 q1 q2 q5 r0 r1 r2 r5 h3 h4)
noncomputable abbrev B0J {α:Sort _} (f:Int→Int→Int→Int→LT1→LIbe→Int→Int→Int→Int→Int→Int→Int→Int→Int→LT1→LIbe→α) (d:A1n.den):α:=f d.1.2.2.2.2.1 d.2.1.1 d.2.1.2.1 d.2.1.2.2.1 d.2.1.2.2.2.1 d.2.1.2.2.2.2.1 d.2.1.2.2.2.2.2.1 d.2.2.1.1 d.2.2.1.2.1 d.2.2.1.2.2.1 d.2.2.1.2.2.2.2.2.1 d.2.2.2.1.1 d.2.2.2.1.2.1 d.2.2.2.1.2.2.1 d.2.2.2.1.2.2.2.2.2.1 d.2.2.2.2.1 d.2.2.2.2.2.1
noncomputable abbrev B67:A1n.den→RT A1n.den:=(B0J C5Y)
noncomputable def C1j:Code:=((A6 0 (B4 Tryz.f24)).getD 0 (0,.skip)).2
noncomputable abbrev C5I (p0 p1 p2:Int) (p3:LT1) (p4:LIbe) (p5 q0 q1 q2 q5 r0 r1 r2 r5:Int) (v:A8V):A1n.den:=(((),(),(),(),v.1,u38),((p0,p1,p2,p3,p4,p5,()),(q0,q1,q2,(),(),q5,()),(r0,r1,r2,(),(),r5,()),v.2.1,v.2.2,()))
theorem D6P (p0 p1 p2:Int) (p3:LT1) (p4:LIbe) (p5 q0 q1 q2 q5 r0 r1 r2 r5:Int):(∀ v:A8V,(C5Y v.1 p0 p1 p2 p3 p4 p5 q0 q1 q2 q5 r0 r1 r2 r5 v.2.1 v.2.2).val=R5 (C5I p0 p1 p2 p3 p4 p5 q0 q1 q2 q5 r0 r1 r2 r5) (B7h p0 p1 p2 p3 p4 p5 q0 q1 q2 q5 r0 r1 r2 r5) (B0P v.1 p0 p1 p2 p3 p4 p5 q0 q1 q2 q5 r0 r1 r2 r5 v.2.1 v.2.2))∧∀ a:A57,CEnd A1n.den ((B7h p0 p1 p2 p3 p4 p5 q0 q1 q2 q5 r0 r1 r2 r5) a):=⟨fun v=>(B3 (B3 (B3 (B3 (B3 rfl rfl) rfl) rfl) rfl) rfl),fun a=>(C5 aCD K7)⟩
noncomputable def C5b (x4 p0 p1 p2:Int) (p3:LT1) (p4:LIbe) (p5 q0 q1 q2 q5 r0 r1 r2 r5:Int) (h3:LT1) (h4:LIbe):Option (Ex×St):=let z1:=p3.getD x4.toNat ((0:Int),([],((0:Int),[])));let z2:=([]:List Int);let z3:=M5 ((z1.2).1);(cond (decide (x4<(p3.length:Int))) (cond (decide (0≤x4∧x4<(p3.length:Int))) (cond (N8 ((z1.2).1)) (cond (decide ((z2.length+(((z1.2).2).2).length)*8≤MAXB)) (cond (decide ((h3.length+([(z1.1,(z3,(((z1.2).2).1,z2++(((z1.2).2).2))))]:LT1).length)*64≤MAXB)) (some (.normal,(⟨(.junk::(.ptr 0 0 1 0)::(.ptr 1 0 1 0)::(.ptr 2 0 1 0)::(ti (wI (x4+(1:Int))))::E9q),[(.box [(ti p0),(ti p1),(ti p2),(.t false tq6 p3),(.t false tq9 p4),(ti p5)]),(.box [(ti q0),(ti q1),(ti q2),(.raw (.slice none 0 0)),(.raw (.slice none 0 0)),(ti q5)]),(.box [(ti r0),(ti r1),(ti r2),(.all 3 4),(.all 4 2),(ti r5)]),(.rows 62 true tq7 (h3++([(z1.1,(z3,(((z1.2).2).1,z2++(((z1.2).2).2))))]))),(.rows 57 true A3m h4)],0,[]⟩:St))) none) none) none) none) (some ((.exit 0),(⟨(.junk::.junk::(.ptr 0 0 1 0)::(.ptr 1 0 1 0)::E30),[(.box [(ti q0),(ti q1),(ti q2),(.raw (.slice none 0 0)),(.raw (.slice none 0 0)),(ti q5)]),(.box [(ti r0),(ti r1),(ti r2),(.all 2 4),(.all 3 2),(ti r5)]),(.rows 62 true tq7 h3),(.rows 57 true A3m h4)],0,[]⟩:St))))
theorem D5j:RdA E9f aLn 0 C1j A1n 0 [] (kepts [] [(0,[2,3])]) (B0J C5b):=by
 intro d
 kernel_rfl
theorem D3B:∀ d:A1n.den,(B0J C5b) d=(B67 d).opt 0 []:=by
 intro d
 kernel_rfl
noncomputable abbrev C2M:St→Option Tree:=A1n.say 0 [] [] (B0J D91)
theorem D6p:aPL C2M C1j:=SS.wp2 hlz [] B67 D5j D3B _ (fun d=>Runs.ofI2 (step:=B67) (C5I d.2.1.1 d.2.1.2.1 d.2.1.2.2.1 d.2.1.2.2.2.1 d.2.1.2.2.2.2.1 d.2.1.2.2.2.2.2.1 d.2.2.1.1 d.2.2.1.2.1 d.2.2.1.2.2.1 d.2.2.1.2.2.2.2.2.1 d.2.2.2.1.1 d.2.2.2.1.2.1 d.2.2.2.1.2.2.1 d.2.2.2.1.2.2.2.2.2.1) (D6P d.2.1.1 d.2.1.2.1 d.2.1.2.2.1 d.2.1.2.2.2.1 d.2.1.2.2.2.2.1 d.2.1.2.2.2.2.2.1 d.2.2.1.1 d.2.2.1.2.1 d.2.2.1.2.2.1 d.2.2.1.2.2.2.2.2.1 d.2.2.2.1.1 d.2.2.2.1.2.1 d.2.2.2.1.2.2.1 d.2.2.2.1.2.2.2.2.2.1) rfl (d.1.2.2.2.2.1,d.2.2.2.2.1,d.2.2.2.2.2.1))
noncomputable def B59 (a0 a1 a2:Int) (a3:LT1) (a4:LIbe) (a5:Int):=B7j (0:Int) a0 a1 a2 a3 a4 a5 (0:Int) (0:Int) (0:Int) (0:Int) a0 a1 a2 a5 ([]:LT1) (([]:LIbe)++a4)
noncomputable def C33 (a0 a1 a2:Int) (a3:LT1) (a4:LIbe) (a5:Int):Int×Int×Int×Int×LT1×LIbe:=let z1:=B59 a0 a1 a2 a3 a4 a5;(a0,a1,a2,a5,(z1.2.1),(z1.2.2))
noncomputable abbrev D4c (r:Int×Int×Int×Int×LT1×LIbe):AV×List AObj:=((.agg [(ti r.1),(ti r.2.1),(ti r.2.2.1),(.all 0 4),(.all 1 2),(ti r.2.2.2.1)]),[(.rows 62 true tq7 r.2.2.2.2.1),(.rows 57 true A3m r.2.2.2.2.2)])
noncomputable abbrev C6w:A1 B5w→AV×List AObj:=fun d=>D4c (C33 d.1.1 d.1.2.1 d.1.2.2.1 d.1.2.2.2.1 d.1.2.2.2.2.1 d.1.2.2.2.2.2.1)
noncomputable def A7J (a0 a1 a2:Int) (a3:LT1) (a4:LIbe) (a5:Int):Bool:=(decide ((([]:LIbe).length+a4.length)*16≤MAXB))&&((B59 a0 a1 a2 a3 a4 a5).1==0)
noncomputable abbrev B9j:A1 B5w→Bool:=fun d=>A7J d.1.1 d.1.2.1 d.1.2.2.1 d.1.2.2.2.1 d.1.2.2.2.2.1 d.1.2.2.2.2.2.1
noncomputable abbrev E4A:Nat→St→Option Tree:=fun b=>match b with | 0=>C2M | _=>fun _=>none
theorem E0c:N0 false E9f (E4A) Tryz.f24 B5w B9j C6w:=by
 rintro ⟨⟨a0,⟨a1,⟨a2,⟨a3,⟨a4,⟨a5,_⟩⟩⟩⟩⟩⟩,_⟩ hp
 change A7J a0 a1 a2 a3 a4 a5=true at hp
 unfold A7J at hp
 refine Eq.trans (b:=(let z1:=B59 a0 a1 a2 a3 a4 a5;cond (decide ((([]:LIbe).length+a4.length)*16≤MAXB)) (cond (z1.1==0) (some (D4c (a0,a1,a2,a5,(z1.2.1),(z1.2.2)))) none) none)) (by kernel_rfl) ?_
 exact (B2 hp fun hp=>(B7 hp fun _h=>rfl))
theorem E4r:aPP 24 (A7 B5w B9j C6w):=pcD false E9f (hl1 (i:=0) (by kernel_rfl) D6p) E0c
noncomputable def F2W:Tab:=Tab.add F10 24 (lift (A7 B5w B9j C6w))
noncomputable def F0z:FuncId→Bool:=F0u
theorem E9O:aPG F2W F0z:=E9f.add E4r (cbl Tryz.f24) (by kernel_rfl)

abbrev A9A:List PSh:=[.agg [(.int .i64),(.int .i64),(.int .i64),tq6,tq9,(.int .i64)],.t (.int .i64)]
abbrev A0p:SS:=⟨(.junk::tI::.ptr 0 0 1 0::.junk::.junk::tI::E4F),[.box [tI,tI,tI,.t false tq6,.t false tq9,tI]]⟩
abbrev B7B:SS:=⟨(.junk::.junk::.junk::.junk::tI::E2s),[]⟩
abbrev B7u:SS:=⟨(.junk::D3n),[]⟩
noncomputable def C01 (x1 x5 p0 p1 p2:Int) (p3:LT1) (p4:LIbe) (p5:Int):RT A0p.den:=(.br (decide (x5<(p4.length:Int))) (.br (decide (0≤x5∧x5<(p4.length:Int))) (.br (((p4.getD x5.toNat ((0:Int),false)).1)==x1) (.done .ret B7B (((),(),(),(),x5,u18),())) (.next (((),x1,(),(),(),wI (x5+(1:Int)),u17),((p0,p1,p2,p3,p4,p5,()),())))) .fail) (.done (.exit 0) B7u ((u23),())))
abbrev A8F:=(Int)×(Int)
abbrev A5N:=Nat×(Int)
def C0L:A5N:=(99,((0:Int):Int))
noncomputable def A7k (x1 x5 p0 p1 p2:Int) (p3:LT1) (p4:LIbe) (p5:Int):A8F ⊕ A5N:=(cond (decide (x5<(p4.length:Int))) (cond (decide (0≤x5∧x5<(p4.length:Int))) (cond (((p4.getD x5.toNat ((0:Int),false)).1)==x1) (.inr (0,x5)) (.inl (x1,wI (x5+(1:Int))))) (.inr C0L)) (.inr (1,((0:Int):Int))))
noncomputable def A3X (x1 x5 p0 p1 p2:Int) (p3:LT1) (p4:LIbe) (p5:Int):A5N:=itX (fun v:A8F=>A7k v.1 v.2 p0 p1 p2 p3 p4 p5) C0L (x1,x5)
noncomputable def B2e (p0 p1 p2:Int) (p3:LT1) (p4:LIbe) (p5:Int) (a:A5N):CT:=(.br (a.1==0) (.done .ret B7B (((),(),(),(),a.2,u18),())) (.br (a.1==1) (.done (.exit 0) B7u ((u23),())) .fail))
noncomputable def D40 (x1 x5 p0 p1 p2:Int) (p3:LT1) (p4:LIbe) (p5:Int):CT:=(B2e p0 p1 p2 p3 p4 p5) (A3X x1 x5 p0 p1 p2 p3 p4 p5)
noncomputable abbrev C1e {α:Sort _} (f:Int→Int→Int→Int→Int→LT1→LIbe→Int→α) (d:A0p.den):α:=f d.1.2.1 d.1.2.2.2.2.2.1 d.2.1.1 d.2.1.2.1 d.2.1.2.2.1 d.2.1.2.2.2.1 d.2.1.2.2.2.2.1 d.2.1.2.2.2.2.2.1
noncomputable abbrev B2o:A0p.den→RT A0p.den:=(C1e C01)
noncomputable def B6k:Code:=((A6 0 (B4 Tryz.f39)).getD 0 (0,.skip)).2
noncomputable abbrev C0A (p0 p1 p2:Int) (p3:LT1) (p4:LIbe) (p5:Int) (v:A8F):A0p.den:=(((),v.1,(),(),(),v.2,u17),((p0,p1,p2,p3,p4,p5,()),()))
theorem D2s (p0 p1 p2:Int) (p3:LT1) (p4:LIbe) (p5:Int):(∀ v:A8F,(C01 v.1 v.2 p0 p1 p2 p3 p4 p5).val=R5 (C0A p0 p1 p2 p3 p4 p5) (B2e p0 p1 p2 p3 p4 p5) (A7k v.1 v.2 p0 p1 p2 p3 p4 p5))∧∀ a:A5N,CEnd A0p.den ((B2e p0 p1 p2 p3 p4 p5) a):=⟨fun v=>(B3 (B3 (B3 rfl rfl) rfl) rfl),fun a=>(C5 aCD (C5 aCD K7))⟩
theorem D0l:RdA E9O aLn 0 B6k A0p 0 [] (kepts [4] [(0,[])]) (fun d=>(B2o d).opt 0 []):=by
 intro d
 kernel_rfl
noncomputable abbrev B7P:St→Option Tree:=A0p.say 0 [] [] (C1e D40)
theorem D2c:aPL B7P B6k:=SS.wp2 hlz [] B2o D0l (fun d=>rfl) _ (fun d=>Runs.ofI2 (step:=B2o) (C0A d.2.1.1 d.2.1.2.1 d.2.1.2.2.1 d.2.1.2.2.2.1 d.2.1.2.2.2.2.1 d.2.1.2.2.2.2.2.1) (D2s d.2.1.1 d.2.1.2.1 d.2.1.2.2.1 d.2.1.2.2.2.1 d.2.1.2.2.2.2.1 d.2.1.2.2.2.2.2.1) rfl (d.1.2.1,d.1.2.2.2.2.2.1))
noncomputable def A3E (a0 a1 a2:Int) (a3:LT1) (a4:LIbe) (a5 a6:Int):Int:=let z1:=A3X a6 (0:Int) a0 a1 a2 a3 a4 a5;(cond (z1.1==0) (z1.2) (-1:Int))
noncomputable abbrev B2R (r:Int):AV×List AObj:=((ti r),[])
noncomputable abbrev B9q:A1 A9A→AV×List AObj:=fun d=>B2R (A3E d.1.1 d.1.2.1 d.1.2.2.1 d.1.2.2.2.1 d.1.2.2.2.2.1 d.1.2.2.2.2.2.1 d.2.1)
noncomputable def A0f (a0 a1 a2:Int) (a3:LT1) (a4:LIbe) (a5 a6:Int):Bool:=let z1:=A3X a6 (0:Int) a0 a1 a2 a3 a4 a5;cond (z1.1==0) true (z1.1==1)
noncomputable abbrev B5d:A1 A9A→Bool:=fun d=>A0f d.1.1 d.1.2.1 d.1.2.2.1 d.1.2.2.2.1 d.1.2.2.2.2.1 d.1.2.2.2.2.2.1 d.2.1
noncomputable abbrev D94:Nat→St→Option Tree:=fun b=>match b with | 0=>B7P | _=>fun _=>none
theorem D4C:N0 true E9O (D94) Tryz.f39 A9A B5d B9q:=by
 rintro ⟨⟨a0,⟨a1,⟨a2,⟨a3,⟨a4,⟨a5,_⟩⟩⟩⟩⟩⟩,⟨a6,_⟩⟩ hp
 change A0f a0 a1 a2 a3 a4 a5 a6=true at hp
 unfold A0f at hp
 refine Eq.trans (b:=(let z1:=A3X a6 (0:Int) a0 a1 a2 a3 a4 a5;cond (z1.1==0) (some (B2R (z1.2))) (cond (z1.1==1) (some (B2R (-1:Int))) none))) (by kernel_rfl) ?_
 exact (A9 B2R hp (fun hp=>rfl) (fun hp=>(B7 hp fun _h=>rfl)))
theorem D9i:aPP 39 (A7 A9A B5d B9q):=pcD true E9O (hl1 (i:=0) (by kernel_rfl) D2c) D4C
noncomputable def F3K:Tab:=Tab.add F2W 39 (lift (A7 A9A B5d B9q))
noncomputable def F0i:FuncId→Bool:=qadd F0z 39
theorem E9B:aPG F3K F0i:=E9O.addQ D9i (cbl Tryz.f39) (fun _=>rfl)

abbrev E7W:List Sh:=.junk::.junk::.junk::.junk::.junk::.junk::.junk::.junk::.junk::.junk::.junk::.junk::.junk::.junk::.junk::.junk::.junk::.junk::.junk::.junk::.junk::.junk::.junk::.junk::F2J
abbrev F38:List Sh:=.junk::.junk::.junk::E7W
abbrev F1O:List Sh:=.junk::.junk::E7W
abbrev E9C:=((),(),(),(),(),(),(),(),(),(),(),(),(),(),(),(),(),(),(),(),(),(),(),E80)
abbrev F1e:=((),(),(),(),(),(),(),(),(),(),(),(),(),(),(),(),(),(),(),(),E80)
abbrev F3p:=((),(),(),(),(),E9C)
abbrev F13:List AV:=.junk::.junk::.junk::.junk::.junk::.junk::.junk::.junk::.junk::.junk::.junk::.junk::.junk::.junk::.junk::.junk::.junk::.junk::.junk::.junk::.junk::.junk::.junk::.junk::.junk::.junk::.junk::F03
abbrev F0J:List AV:=.junk::.junk::.junk::.junk::.junk::.junk::.junk::.junk::.junk::.junk::.junk::.junk::.junk::.junk::.junk::.junk::.junk::.junk::.junk::.junk::.junk::.junk::.junk::.junk::F03
abbrev F16:List AV:=.junk::.junk::F0J
abbrev B8d:List PSh:=[.agg [(.int .i64),(.int .i64),(.int .i64),tq6,tq9,(.int .i64)],.t (.int .i64)]
abbrev A2y:SS:=⟨(.junk::.junk::.ptr 0 0 1 0::.junk::.junk::.ptr 1 0 1 0::.t true A4X::tI::E7W),[.box [tI,tI,tI,.t false tq6,.t false tq9,tI],.box [tI,.t false tq5,tI,.t false A4X]]⟩
abbrev B68:SS:=⟨(.junk::.junk::.junk::.junk::.t true .bool::F38),[]⟩
abbrev C5H:SS:=⟨(.junk::.junk::.ptr 0 0 1 0::.junk::.junk::.ptr 1 0 1 0::F1O),[.box [tI,tI,tI,.t false tq6,.t false tq9,tI],.box [tI,.t false tq5,tI,.t false A4X]]⟩
noncomputable def C7Q (x6:List Int) (x7 p0 p1 p2:Int) (p3:LT1) (p4:LIbe) (p5 q0:Int) (q1:Lq2) (q2:Int) (q3:List Int):RT A2y.den:=let z1:=wI (x7 - (1:Int));let z2:=q3.getD x7.toNat (0:Int);let z3:=decide (0≤x7∧x7<(q3.length:Int));(.br (decide (x7<(q3.length:Int))) (.br z3 (.br (O5 x6 z2) (.br (!(Y7 x6 z2)) (.done .ret B68 (((),(),(),(),false,E9C),())) (.br (decide (x7 > (0:Int))) (.br (decide (0≤z1∧z1<(q3.length:Int))) (.br z3 (.br (decide ((q3.getD (z1.toNat) (0:Int)) ≥ z2)) (.done .ret B68 (((),(),(),(),false,E9C),())) (.next (((),(),(),(),(),(),x6,wI (x7+(1:Int)),F1e),((p0,p1,p2,p3,p4,p5,()),(q0,q1,q2,q3,()),())))) .fail) .fail) (.next (((),(),(),(),(),(),x6,wI (x7+(1:Int)),F1e),((p0,p1,p2,p3,p4,p5,()),(q0,q1,q2,q3,()),()))))) .fail) .fail) (.done (.exit 0) C5H ((F3p),((p0,p1,p2,p3,p4,p5,()),(q0,q1,q2,q3,()),()))))
abbrev B6d:=(List Int)×(Int)
abbrev B1o:=Nat×(Bool)
def A8H:B1o:=(99,(false:Bool))
noncomputable def B2U (x6:List Int) (x7 p0 p1 p2:Int) (p3:LT1) (p4:LIbe) (p5 q0:Int) (q1:Lq2) (q2:Int) (q3:List Int):B6d ⊕ B1o:=let z1:=wI (x7 - (1:Int));let z2:=q3.getD x7.toNat (0:Int);let z3:=decide (0≤x7∧x7<(q3.length:Int));(cond (decide (x7<(q3.length:Int))) (cond z3 (cond (O5 x6 z2) (cond (!(Y7 x6 z2)) (.inr (0,false)) (cond (decide (x7 > (0:Int))) (cond (decide (0≤z1∧z1<(q3.length:Int))) (cond z3 (cond (decide ((q3.getD (z1.toNat) (0:Int)) ≥ z2)) (.inr (0,false)) (.inl (x6,wI (x7+(1:Int))))) (.inr A8H)) (.inr A8H)) (.inl (x6,wI (x7+(1:Int)))))) (.inr A8H)) (.inr A8H)) (.inr (1,(false:Bool))))
noncomputable def B8X (x6:List Int) (x7 p0 p1 p2:Int) (p3:LT1) (p4:LIbe) (p5 q0:Int) (q1:Lq2) (q2:Int) (q3:List Int):B1o:=itX (fun v:B6d=>B2U v.1 v.2 p0 p1 p2 p3 p4 p5 q0 q1 q2 q3) A8H (x6,x7)
noncomputable def B8T (p0 p1 p2:Int) (p3:LT1) (p4:LIbe) (p5 q0:Int) (q1:Lq2) (q2:Int) (q3:List Int) (a:B1o):CT:=(.br (a.1==0) (.done .ret B68 (((),(),(),(),a.2,E9C),())) (.br (a.1==1) (.done (.exit 0) C5H ((F3p),((p0,p1,p2,p3,p4,p5,()),(q0,q1,q2,q3,()),()))) .fail))
noncomputable def E1m (x6:List Int) (x7 p0 p1 p2:Int) (p3:LT1) (p4:LIbe) (p5 q0:Int) (q1:Lq2) (q2:Int) (q3:List Int):CT:=(B8T p0 p1 p2 p3 p4 p5 q0 q1 q2 q3) (B8X x6 x7 p0 p1 p2 p3 p4 p5 q0 q1 q2 q3)
noncomputable abbrev B2X {α:Sort _} (f:(List Int)→Int→Int→Int→Int→LT1→LIbe→Int→Int→Lq2→Int→(List Int)→α) (d:A2y.den):α:=f d.1.2.2.2.2.2.2.1 d.1.2.2.2.2.2.2.2.1 d.2.1.1 d.2.1.2.1 d.2.1.2.2.1 d.2.1.2.2.2.1 d.2.1.2.2.2.2.1 d.2.1.2.2.2.2.2.1 d.2.2.1.1 d.2.2.1.2.1 d.2.2.1.2.2.1 d.2.2.1.2.2.2.1
noncomputable abbrev B8P:A2y.den→RT A2y.den:=(B2X C7Q)
noncomputable def C2o:Code:=((A6 0 (B4 Tryz.f40)).getD 0 (0,.skip)).2
noncomputable abbrev C7F (p0 p1 p2:Int) (p3:LT1) (p4:LIbe) (p5 q0:Int) (q1:Lq2) (q2:Int) (q3:List Int) (v:B6d):A2y.den:=(((),(),(),(),(),(),v.1,v.2,F1e),((p0,p1,p2,p3,p4,p5,()),(q0,q1,q2,q3,()),()))
theorem E0o (p0 p1 p2:Int) (p3:LT1) (p4:LIbe) (p5 q0:Int) (q1:Lq2) (q2:Int) (q3:List Int):(∀ v:B6d,(C7Q v.1 v.2 p0 p1 p2 p3 p4 p5 q0 q1 q2 q3).val=R5 (C7F p0 p1 p2 p3 p4 p5 q0 q1 q2 q3) (B8T p0 p1 p2 p3 p4 p5 q0 q1 q2 q3) (B2U v.1 v.2 p0 p1 p2 p3 p4 p5 q0 q1 q2 q3))∧∀ a:B1o,CEnd A2y.den ((B8T p0 p1 p2 p3 p4 p5 q0 q1 q2 q3) a):=⟨fun v=>by repeat' first | apply B3 | rfl,fun a=>(C5 aCD (C5 aCD K7))⟩
noncomputable def C8Y (x6:List Int) (x7 p0 p1 p2:Int) (p3:LT1) (p4:LIbe) (p5 q0:Int) (q1:Lq2) (q2:Int) (q3:List Int):Option (Ex×St):=let z1:=(⟨(.junk::.junk::(.ptr 0 0 1 0)::.junk::.junk::(.ptr 1 0 1 0)::(.t true A4X x6)::(ti (wI (x7+(1:Int))))::F0J),[(.box [(ti p0),(ti p1),(ti p2),(.t false tq6 p3),(.t false tq9 p4),(ti p5)]),(.box [(ti q0),(.t false tq5 q1),(ti q2),(.t false A4X q3)])],0,[]⟩:St);let z2:=(⟨(.junk::.junk::.junk::.junk::(.t true .bool false)::F13),[],0,[]⟩:St);let z3:=wI (x7 - (1:Int));let z4:=q3.getD x7.toNat (0:Int);let z5:=decide (0≤x7∧x7<(q3.length:Int));(cond (decide (x7<(q3.length:Int))) (cond z5 (cond (O5 x6 z4) (cond (!(Y7 x6 z4)) (some (.ret,z2)) (cond (decide (x7 > (0:Int))) (cond (decide (0≤z3∧z3<(q3.length:Int))) (cond z5 (cond (decide ((q3.getD (z3.toNat) (0:Int)) ≥ z4)) (some (.ret,z2)) (some (.normal,z1))) none) none) (some (.normal,z1)))) none) none) (some ((.exit 0),(⟨(.junk::.junk::(.ptr 0 0 1 0)::.junk::.junk::(.ptr 1 0 1 0)::F16),[(.box [(ti p0),(ti p1),(ti p2),(.t false tq6 p3),(.t false tq9 p4),(ti p5)]),(.box [(ti q0),(.t false tq5 q1),(ti q2),(.t false A4X q3)])],0,[]⟩:St))))
theorem D5Z:RdA E9B aLn 0 C2o A2y 0 [] (kepts [4] [(0,[2,5])]) (B2X C8Y):=by
 intro d
 kernel_rfl
theorem D6B:∀ d:A2y.den,(B2X C8Y) d=(B8P d).opt 0 []:=by
 intro d
 kernel_rfl
noncomputable abbrev C53:St→Option Tree:=A2y.say 0 [] [] (B2X E1m)
theorem D9A:aPL C53 C2o:=SS.wp2 hlz [] B8P D5Z D6B _ (fun d=>Runs.ofI2 (step:=B8P) (C7F d.2.1.1 d.2.1.2.1 d.2.1.2.2.1 d.2.1.2.2.2.1 d.2.1.2.2.2.2.1 d.2.1.2.2.2.2.2.1 d.2.2.1.1 d.2.2.1.2.1 d.2.2.1.2.2.1 d.2.2.1.2.2.2.1) (E0o d.2.1.1 d.2.1.2.1 d.2.1.2.2.1 d.2.1.2.2.2.1 d.2.1.2.2.2.2.1 d.2.1.2.2.2.2.2.1 d.2.2.1.1 d.2.2.1.2.1 d.2.2.1.2.2.1 d.2.2.1.2.2.2.1) rfl (d.1.2.2.2.2.2.2.1,d.1.2.2.2.2.2.2.2.1))
noncomputable def C0s (a1 a2:Int) (a3:LT1) (a6:Int):=let z1:=wI (a1*(1000:Int));C0 ((a3.getD a6.toNat ((0:Int),([],((0:Int),[])))).1) z1 (wI ((wI (z1+a2)) - (1:Int)))
noncomputable def B8U (a3:LT1) (a6:Int):=C0 ((((a3.getD a6.toNat ((0:Int),([],((0:Int),[])))).2).2).1) (1:Int) (3:Int)
noncomputable def B8Y (a0 a1 a2:Int) (a3:LT1) (a4:LIbe) (a5 a6:Int):=let z1:=a3.getD a6.toNat ((0:Int),([],((0:Int),[])));B8X (E4 ((z1.2).1) a0) (0:Int) a0 a1 a2 a3 a4 a5 (z1.1) ((z1.2).1) (((z1.2).2).1) (((z1.2).2).2)
noncomputable def C4u (a0 a1 a2:Int) (a3:LT1) (a4:LIbe) (a5 a6:Int):Bool:=let z2:=a3.getD a6.toNat ((0:Int),([],((0:Int),[])));let z4:=A3E a0 a1 a2 a3 a4 a5 (z2.1);let z3:=(a4.getD (z4.toNat) ((0:Int),false)).2;let z5:=B8Y a0 a1 a2 a3 a4 a5 a6;let z1:=cond (!(Z7 ((z2.2).1))) false (cond (!(B8U a3 a6)) false (cond (z5.1==0) (z5.2) (cond (decide (z4<(0:Int))) ((((z2.2).2).1)==(1:Int)) (cond ((((z2.2).2).1)==(2:Int)) (cond z3 true (cond ((((z2.2).2).1)==(3:Int)) (!z3) false)) (cond ((((z2.2).2).1)==(3:Int)) (!z3) false)))));(cond (!(C0s a1 a2 a3 a6)) false (cond (decide (a6 > (0:Int))) (cond (decide (((a3.getD ((wI (a6 - (1:Int))).toNat) ((0:Int),([],((0:Int),[])))).1) ≥ (z2.1))) false z1) z1))
noncomputable abbrev E3 (r:Bool):AV×List AObj:=((.t true .bool r),[])
noncomputable abbrev C9L:A1 B8d→AV×List AObj:=fun d=>E3 (C4u d.1.1 d.1.2.1 d.1.2.2.1 d.1.2.2.2.1 d.1.2.2.2.2.1 d.1.2.2.2.2.2.1 d.2.1)
noncomputable def A79 (a0 a1 a2:Int) (a3:LT1) (a4:LIbe) (a5 a6:Int):Bool:=let z2:=a3.getD a6.toNat ((0:Int),([],((0:Int),[])));let z3:=A3E a0 a1 a2 a3 a4 a5 (z2.1);let z4:=wI (a6 - (1:Int));let z5:=decide (0≤z3∧z3<(a4.length:Int));let z6:=B8Y a0 a1 a2 a3 a4 a5 a6;let z1:=(A2r ((z2.2).1))&&(cond (!(Z7 ((z2.2).1))) true (cond (!(B8U a3 a6)) true ((O9 ((z2.2).1) a0)&&(cond (z6.1==0) true ((z6.1==1)&&((A0f a0 a1 a2 a3 a4 a5 (z2.1))&&(cond (decide (z3<(0:Int))) true (cond ((((z2.2).2).1)==(2:Int)) (z5&&(cond ((a4.getD (z3.toNat) ((0:Int),false)).2) true (cond ((((z2.2).2).1)==(3:Int)) z5 true))) (cond ((((z2.2).2).1)==(3:Int)) z5 true)))))))));(decide (0≤a6∧a6<(a3.length:Int)))&&(cond (!(C0s a1 a2 a3 a6)) true (cond (decide (a6 > (0:Int))) ((decide (0≤z4∧z4<(a3.length:Int)))&&(cond (decide (((a3.getD (z4.toNat) ((0:Int),([],((0:Int),[])))).1) ≥ (z2.1))) true z1)) z1))
noncomputable abbrev C2P:A1 B8d→Bool:=fun d=>A79 d.1.1 d.1.2.1 d.1.2.2.1 d.1.2.2.2.1 d.1.2.2.2.2.1 d.1.2.2.2.2.2.1 d.2.1
noncomputable abbrev E6I:Nat→St→Option Tree:=fun b=>match b with | 0=>C53 | _=>fun _=>none
theorem E1g:N0 true E9B (E6I) Tryz.f40 B8d C2P C9L:=by
 rintro ⟨⟨a0,⟨a1,⟨a2,⟨a3,⟨a4,⟨a5,_⟩⟩⟩⟩⟩⟩,⟨a6,_⟩⟩ hp
 change A79 a0 a1 a2 a3 a4 a5 a6=true at hp
 unfold A79 at hp
 refine Eq.trans (b:=(let z1:=a3.getD a6.toNat ((0:Int),([],((0:Int),[])));let z2:=A3E a0 a1 a2 a3 a4 a5 (z1.1);let z3:=(a4.getD (z2.toNat) ((0:Int),false)).2;let z4:=decide (0≤z2∧z2<(a4.length:Int));let z5:=B8Y a0 a1 a2 a3 a4 a5 a6;let z6:=wI (a6 - (1:Int));let z7:=E3 (!z3);let z8:=A0f a0 a1 a2 a3 a4 a5 (z1.1);let z9:=E3 ((((z1.2).2).1)==(1:Int));let z10:=O9 ((z1.2).1) a0;let z11:=!(Z7 ((z1.2).1));let z12:=A2r ((z1.2).1);let z13:=!(B8U a3 a6);let z14:=decide (z2<(0:Int));cond (decide (0≤a6∧a6<(a3.length:Int))) (cond (!(C0s a1 a2 a3 a6)) (some (E3 false)) (cond (decide (a6 > (0:Int))) (cond (decide (0≤z6∧z6<(a3.length:Int))) (cond (decide (((a3.getD (z6.toNat) ((0:Int),([],((0:Int),[])))).1) ≥ (z1.1))) (some (E3 false)) (cond z12 (cond z11 (some (E3 false)) (cond z13 (some (E3 false)) (cond z10 (cond (z5.1==0) (some (E3 (z5.2))) (cond (z5.1==1) (cond z8 (cond z14 (some z9) (cond ((((z1.2).2).1)==(2:Int)) (cond z4 (cond z3 (some (E3 true)) (cond ((((z1.2).2).1)==(3:Int)) (cond z4 (some z7) none) (some (E3 false)))) none) (cond ((((z1.2).2).1)==(3:Int)) (cond z4 (some z7) none) (some (E3 false))))) none) none)) none))) none)) none) (cond z12 (cond z11 (some (E3 false)) (cond z13 (some (E3 false)) (cond z10 (cond (z5.1==0) (some (E3 (z5.2))) (cond (z5.1==1) (cond z8 (cond z14 (some z9) (cond ((((z1.2).2).1)==(2:Int)) (cond z4 (cond z3 (some (E3 true)) (cond ((((z1.2).2).1)==(3:Int)) (cond z4 (some z7) none) (some (E3 false)))) none) (cond ((((z1.2).2).1)==(3:Int)) (cond z4 (some z7) none) (some (E3 false))))) none) none)) none))) none))) none)) (by kernel_rfl) ?_
 exact (B2 hp fun hp=>(A9 E3 hp (fun hp=>rfl) (fun hp=>(A9 E3 hp (fun hp=>(B2 hp fun hp=>(A9 E3 hp (fun hp=>rfl) (fun hp=>(B2 hp fun hp=>(A9 E3 hp (fun hp=>rfl) (fun hp=>(A9 E3 hp (fun hp=>rfl) (fun hp=>(B2 hp fun hp=>(A9 E3 hp (fun hp=>rfl) (fun hp=>(B2 hp fun hp=>(B2 hp fun hp=>(A9 E3 hp (fun hp=>rfl) (fun hp=>(A9 E3 hp (fun hp=>(B2 hp fun hp=>(A9 E3 hp (fun hp=>rfl) (fun hp=>(A9 E3 hp (fun hp=>(B7 hp fun _h=>rfl)) (fun hp=>rfl)))))) (fun hp=>(A9 E3 hp (fun hp=>(B7 hp fun _h=>rfl)) (fun hp=>rfl)))))))))))))))))))) (fun hp=>(B2 hp fun hp=>(A9 E3 hp (fun hp=>rfl) (fun hp=>(A9 E3 hp (fun hp=>rfl) (fun hp=>(B2 hp fun hp=>(A9 E3 hp (fun hp=>rfl) (fun hp=>(B2 hp fun hp=>(B2 hp fun hp=>(A9 E3 hp (fun hp=>rfl) (fun hp=>(A9 E3 hp (fun hp=>(B2 hp fun hp=>(A9 E3 hp (fun hp=>rfl) (fun hp=>(A9 E3 hp (fun hp=>(B7 hp fun _h=>rfl)) (fun hp=>rfl)))))) (fun hp=>(A9 E3 hp (fun hp=>(B7 hp fun _h=>rfl)) (fun hp=>rfl)))))))))))))))))))))
theorem E6H:aPP 40 (A7 B8d C2P C9L):=pcD true E9B (hl1 (i:=0) (by kernel_rfl) D9A) E1g
noncomputable def F2X:Tab:=Tab.add F3K 40 (lift (A7 B8d C2P C9L))
noncomputable def F0p:FuncId→Bool:=qadd F0i 40
theorem E71:aPG F2X F0p:=E9B.addQ E6H (cbl Tryz.f40) (fun _=>rfl)

abbrev F1W:List Sh:=.junk::.junk::.junk::.junk::.junk::.junk::.junk::E8I
abbrev F1r:List Sh:=.junk::F1W
abbrev F3N:List Sh:=.junk::F1r
abbrev u79:=((),(),u77)
abbrev u78:=((),u77)
abbrev u82:=((),(),(),u79)
abbrev F0W:List AV:=.junk::.junk::.junk::.junk::.junk::.junk::.junk::.junk::E6W
abbrev F4t:List AV:=.junk::.junk::.junk::.junk::.junk::.junk::.junk::E6W
abbrev F3Y:List AV:=.junk::F0W
abbrev F4l:List Sh:=.junk::.junk::.junk::.junk::.junk::.junk::E8I
abbrev F4n:List Sh:=.junk::F3N
abbrev F45:List AV:=.junk::.junk::.junk::.junk::.junk::.junk::E6W
abbrev F4E:List AV:=.junk::F3Y
abbrev B5v:List PSh:=[.agg [(.int .i64),(.int .i64),(.int .i64),tq6,tq9,(.int .i64)]]
noncomputable def B2t:Code:=((A6 0 (B4 Tryz.f16)).getD 0 (0,.skip)).2
noncomputable def B2r:Code:=((A6 0 (B4 Tryz.f16)).getD 1 (0,.skip)).2
abbrev A1m:SS:=⟨(.junk::.ptr 0 0 1 0::.junk::tI::F1W),[.box [tI,tI,tI,.t false tq6,.t false tq9,tI]]⟩
abbrev B5l:SS:=⟨(.junk::.junk::.t true .bool::F1r),[]⟩
abbrev C1I:SS:=⟨(.junk::.ptr 0 0 1 0::F3N),[.box [tI,tI,tI,.t false tq6,.t false tq9,tI]]⟩
noncomputable def B6f (x3 p1 p2:Int) (p4:LIbe):=C0 ((p4.getD x3.toNat ((0:Int),false)).1) (1000:Int) (wI ((wI ((wI (p1*(1000:Int)))+p2)) - (1:Int)))
noncomputable def C5J (x3 p0 p1 p2:Int) (p3:LT1) (p4:LIbe) (p5:Int):RT A1m.den:=let z1:=(p4.getD x3.toNat ((0:Int),false)).1;let z2:=decide (0≤x3∧x3<(p4.length:Int));(.br (decide (x3<(p4.length:Int))) (.br z2 (.br (!(B6f x3 p1 p2 p4)) (.done .ret B5l (((),(),false,u79),())) (.br z2 (.br (A0f p0 p1 p2 p3 p4 p5 z1) (.br ((A3E p0 p1 p2 p3 p4 p5 z1) != x3) (.done .ret B5l (((),(),false,u79),())) (.next (((),(),(),wI (x3+(1:Int)),u78),((p0,p1,p2,p3,p4,p5,()),())))) .fail) .fail)) .fail) (.done (.exit 0) C1I ((u82),((p0,p1,p2,p3,p4,p5,()),()))))
abbrev B26:=(Int)
abbrev A9w:=Nat×(Bool)
def B0N:A9w:=(99,(false:Bool))
noncomputable def B01 (x3 p0 p1 p2:Int) (p3:LT1) (p4:LIbe) (p5:Int):B26 ⊕ A9w:=let z1:=(p4.getD x3.toNat ((0:Int),false)).1;let z2:=decide (0≤x3∧x3<(p4.length:Int));(cond (decide (x3<(p4.length:Int))) (cond z2 (cond (!(B6f x3 p1 p2 p4)) (.inr (0,false)) (cond z2 (cond (A0f p0 p1 p2 p3 p4 p5 z1) (cond ((A3E p0 p1 p2 p3 p4 p5 z1) != x3) (.inr (0,false)) (.inl (wI (x3+(1:Int))))) (.inr B0N)) (.inr B0N))) (.inr B0N)) (.inr (1,(false:Bool))))
noncomputable def A6Q (x3 p0 p1 p2:Int) (p3:LT1) (p4:LIbe) (p5:Int):A9w:=itX (fun v:B26=>B01 v p0 p1 p2 p3 p4 p5) B0N x3
noncomputable def B6F (p0 p1 p2:Int) (p3:LT1) (p4:LIbe) (p5:Int) (a:A9w):CT:=(.br (a.1==0) (.done .ret B5l (((),(),a.2,u79),())) (.br (a.1==1) (.done (.exit 0) C1I ((u82),((p0,p1,p2,p3,p4,p5,()),()))) .fail))
noncomputable def D83 (x3 p0 p1 p2:Int) (p3:LT1) (p4:LIbe) (p5:Int):CT:=(B6F p0 p1 p2 p3 p4 p5) (A6Q x3 p0 p1 p2 p3 p4 p5)
noncomputable abbrev B08 {α:Sort _} (f:Int→Int→Int→Int→LT1→LIbe→Int→α) (d:A1m.den):α:=f d.1.2.2.2.1 d.2.1.1 d.2.1.2.1 d.2.1.2.2.1 d.2.1.2.2.2.1 d.2.1.2.2.2.2.1 d.2.1.2.2.2.2.2.1
noncomputable abbrev B7k:A1m.den→RT A1m.den:=(B08 C5J)
noncomputable abbrev C5x (p0 p1 p2:Int) (p3:LT1) (p4:LIbe) (p5:Int) (v:B26):A1m.den:=(((),(),(),v,u78),((p0,p1,p2,p3,p4,p5,()),()))
theorem D6x (p0 p1 p2:Int) (p3:LT1) (p4:LIbe) (p5:Int):(∀ v:B26,(C5J v p0 p1 p2 p3 p4 p5).val=R5 (C5x p0 p1 p2 p3 p4 p5) (B6F p0 p1 p2 p3 p4 p5) (B01 v p0 p1 p2 p3 p4 p5))∧∀ a:A9w,CEnd A1m.den ((B6F p0 p1 p2 p3 p4 p5) a):=⟨fun v=>by repeat' first | apply B3 | rfl,fun a=>(C5 aCD (C5 aCD K7))⟩
noncomputable def C5X (x3 p0 p1 p2:Int) (p3:LT1) (p4:LIbe) (p5:Int):Option (Ex×St):=let z1:=(⟨(.junk::.junk::(.t true .bool false)::F0W),[],0,[]⟩:St);let z2:=(p4.getD x3.toNat ((0:Int),false)).1;let z3:=decide (0≤x3∧x3<(p4.length:Int));(cond (decide (x3<(p4.length:Int))) (cond z3 (cond (!(B6f x3 p1 p2 p4)) (some (.ret,z1)) (cond z3 (cond (A0f p0 p1 p2 p3 p4 p5 z2) (cond ((A3E p0 p1 p2 p3 p4 p5 z2) != x3) (some (.ret,z1)) (some (.normal,(⟨(.junk::(.ptr 0 0 1 0)::.junk::(ti (wI (x3+(1:Int))))::F4t),[(.box [(ti p0),(ti p1),(ti p2),(.t false tq6 p3),(.t false tq9 p4),(ti p5)])],0,[]⟩:St)))) none) none)) none) (some ((.exit 0),(⟨(.junk::(.ptr 0 0 1 0)::F3Y),[(.box [(ti p0),(ti p1),(ti p2),(.t false tq6 p3),(.t false tq9 p4),(ti p5)])],0,[]⟩:St))))
theorem D4i:RdA E71 aLn 0 B2t A1m 0 [] (kepts [2] [(0,[1])]) (B08 C5X):=by
 intro d
 kernel_rfl
theorem D5e:∀ d:A1m.den,(B08 C5X) d=(B7k d).opt 0 []:=by
 intro d
 kernel_rfl
noncomputable abbrev C24:St→Option Tree:=A1m.say 0 [] [] (B08 D83)
theorem D6I:aPL C24 B2t:=SS.wp2 hlz [] B7k D4i D5e _ (fun d=>Runs.ofI2 (step:=B7k) (C5x d.2.1.1 d.2.1.2.1 d.2.1.2.2.1 d.2.1.2.2.2.1 d.2.1.2.2.2.2.1 d.2.1.2.2.2.2.2.1) (D6x d.2.1.1 d.2.1.2.1 d.2.1.2.2.1 d.2.1.2.2.2.1 d.2.1.2.2.2.2.1 d.2.1.2.2.2.2.2.1) rfl d.1.2.2.2.1)
abbrev A1e:SS:=⟨(.junk::.ptr 0 0 1 0::.junk::.junk::tI::F4l),[.box [tI,tI,tI,.t false tq6,.t false tq9,tI]]⟩
abbrev C3d:SS:=⟨(.junk::.junk::.t true .bool::F1r),[]⟩
abbrev C1X:SS:=⟨(.junk::F4n),[]⟩
noncomputable def C5A (x4 p0 p1 p2:Int) (p3:LT1) (p4:LIbe) (p5:Int):RT A1e.den:=(.br (decide (x4<(p3.length:Int))) (.br (A79 p0 p1 p2 p3 p4 p5 x4) (.br (!(C4u p0 p1 p2 p3 p4 p5 x4)) (.done .ret C3d (((),(),false,u79),())) (.next (((),(),(),(),wI (x4+(1:Int)),u77),((p0,p1,p2,p3,p4,p5,()),())))) .fail) (.done (.exit 2) C1X ((u82),())))
abbrev B3r:=(Int)
abbrev A9z:=Nat×(Bool)
def C54:A9z:=(99,(false:Bool))
noncomputable def B03 (x4 p0 p1 p2:Int) (p3:LT1) (p4:LIbe) (p5:Int):B3r ⊕ A9z:=(cond (decide (x4<(p3.length:Int))) (cond (A79 p0 p1 p2 p3 p4 p5 x4) (cond (!(C4u p0 p1 p2 p3 p4 p5 x4)) (.inr (0,false)) (.inl (wI (x4+(1:Int))))) (.inr C54)) (.inr (1,(false:Bool))))
noncomputable def A6S (x4 p0 p1 p2:Int) (p3:LT1) (p4:LIbe) (p5:Int):A9z:=itX (fun v:B3r=>B03 v p0 p1 p2 p3 p4 p5) C54 x4
noncomputable def B64 (p0 p1 p2:Int) (p3:LT1) (p4:LIbe) (p5:Int) (a:A9z):CT:=(.br (a.1==0) (.done .ret C3d (((),(),a.2,u79),())) (.br (a.1==1) (.done (.exit 2) C1X ((u82),())) .fail))
noncomputable def D8O (x4 p0 p1 p2:Int) (p3:LT1) (p4:LIbe) (p5:Int):CT:=(B64 p0 p1 p2 p3 p4 p5) (A6S x4 p0 p1 p2 p3 p4 p5)
noncomputable abbrev B0K {α:Sort _} (f:Int→Int→Int→Int→LT1→LIbe→Int→α) (d:A1e.den):α:=f d.1.2.2.2.2.1 d.2.1.1 d.2.1.2.1 d.2.1.2.2.1 d.2.1.2.2.2.1 d.2.1.2.2.2.2.1 d.2.1.2.2.2.2.2.1
noncomputable abbrev B6L:A1e.den→RT A1e.den:=(B0K C5A)
noncomputable abbrev C5V (p0 p1 p2:Int) (p3:LT1) (p4:LIbe) (p5:Int) (v:B3r):A1e.den:=(((),(),(),(),v,u77),((p0,p1,p2,p3,p4,p5,()),()))
theorem D67 (p0 p1 p2:Int) (p3:LT1) (p4:LIbe) (p5:Int):(∀ v:B3r,(C5A v p0 p1 p2 p3 p4 p5).val=R5 (C5V p0 p1 p2 p3 p4 p5) (B64 p0 p1 p2 p3 p4 p5) (B03 v p0 p1 p2 p3 p4 p5))∧∀ a:A9z,CEnd A1e.den ((B64 p0 p1 p2 p3 p4 p5) a):=⟨fun v=>(B3 (B3 (B3 rfl rfl) rfl) rfl),fun a=>(C5 aCD (C5 aCD K7))⟩
noncomputable def C5Q (x4 p0 p1 p2:Int) (p3:LT1) (p4:LIbe) (p5:Int):Option (Ex×St):=(cond (decide (x4<(p3.length:Int))) (cond (A79 p0 p1 p2 p3 p4 p5 x4) (cond (!(C4u p0 p1 p2 p3 p4 p5 x4)) (some (.ret,(⟨(.junk::.junk::(.t true .bool false)::F0W),[],0,[]⟩:St))) (some (.normal,(⟨(.junk::(.ptr 0 0 1 0)::.junk::.junk::(ti (wI (x4+(1:Int))))::F45),[(.box [(ti p0),(ti p1),(ti p2),(.t false tq6 p3),(.t false tq9 p4),(ti p5)])],0,[]⟩:St)))) none) (some ((.exit 2),(⟨(.junk::F4E),[],0,[]⟩:St))))
theorem D4r:RdA E71 aLn 2 B2r A1e 0 [] (kepts [2] [(2,[])]) (B0K C5Q):=by
 intro d
 kernel_rfl
theorem D4l:∀ d:A1e.den,(B0K C5Q) d=(B6L d).opt 0 []:=by
 intro d
 kernel_rfl
noncomputable abbrev C19:St→Option Tree:=A1e.say 0 [] [] (B0K D8O)
theorem D58:aPL C19 B2r:=SS.wp2 hlz [] B6L D4r D4l _ (fun d=>Runs.ofI2 (step:=B6L) (C5V d.2.1.1 d.2.1.2.1 d.2.1.2.2.1 d.2.1.2.2.2.1 d.2.1.2.2.2.2.1 d.2.1.2.2.2.2.2.1) (D67 d.2.1.1 d.2.1.2.1 d.2.1.2.2.1 d.2.1.2.2.2.1 d.2.1.2.2.2.2.1 d.2.1.2.2.2.2.2.1) rfl d.1.2.2.2.2.1)
noncomputable def B1R (a0 a1 a2:Int) (a3:LT1) (a4:LIbe) (a5:Int):Bool:=let z1:=A6Q (0:Int) a0 a1 a2 a3 a4 a5;let z2:=A6S (0:Int) a0 a1 a2 a3 a4 a5;(cond (!(C0 a0 (1:Int) (8:Int))) false (cond (!(C0 a1 (1:Int) (900:Int))) false (cond (!(C0 a2 (0:Int) (999:Int))) false (cond (decide ((a4.length:Int) > (1000:Int))) false (cond (!(C0 a5 (0:Int) (a4.length:Int))) false (cond (z1.1==0) (z1.2) (cond (z2.1==0) (z2.2) true)))))))
noncomputable abbrev R4 (r:Bool):AV×List AObj:=((.t true .bool r),[])
noncomputable abbrev C6M:A1 B5v→AV×List AObj:=fun d=>R4 (B1R d.1.1 d.1.2.1 d.1.2.2.1 d.1.2.2.2.1 d.1.2.2.2.2.1 d.1.2.2.2.2.2.1)
noncomputable def A2K (a0 a1 a2:Int) (a3:LT1) (a4:LIbe) (a5:Int):Bool:=let z1:=A6Q (0:Int) a0 a1 a2 a3 a4 a5;let z2:=A6S (0:Int) a0 a1 a2 a3 a4 a5;cond (!(C0 a0 (1:Int) (8:Int))) true (cond (!(C0 a1 (1:Int) (900:Int))) true (cond (!(C0 a2 (0:Int) (999:Int))) true (cond (decide ((a4.length:Int) > (1000:Int))) true (cond (!(C0 a5 (0:Int) (a4.length:Int))) true (cond (z1.1==0) true ((z1.1==1)&&(cond (z2.1==0) true (z2.1==1))))))))
noncomputable abbrev B9O:A1 B5v→Bool:=fun d=>A2K d.1.1 d.1.2.1 d.1.2.2.1 d.1.2.2.2.1 d.1.2.2.2.2.1 d.1.2.2.2.2.2.1
noncomputable abbrev E4U:Nat→St→Option Tree:=fun b=>match b with | 0=>C24 | 2=>C19 | _=>fun _=>none
theorem E0p:N0 true E71 (E4U) Tryz.f16 B5v B9O C6M:=by
 rintro ⟨⟨a0,⟨a1,⟨a2,⟨a3,⟨a4,⟨a5,_⟩⟩⟩⟩⟩⟩,_⟩ hp
 change A2K a0 a1 a2 a3 a4 a5=true at hp
 unfold A2K at hp
 refine Eq.trans (b:=(let z1:=A6Q (0:Int) a0 a1 a2 a3 a4 a5;let z2:=A6S (0:Int) a0 a1 a2 a3 a4 a5;cond (!(C0 a0 (1:Int) (8:Int))) (some (R4 false)) (cond (!(C0 a1 (1:Int) (900:Int))) (some (R4 false)) (cond (!(C0 a2 (0:Int) (999:Int))) (some (R4 false)) (cond (decide ((a4.length:Int) > (1000:Int))) (some (R4 false)) (cond (!(C0 a5 (0:Int) (a4.length:Int))) (some (R4 false)) (cond (z1.1==0) (some (R4 (z1.2))) (cond (z1.1==1) (cond (z2.1==0) (some (R4 (z2.2))) (cond (z2.1==1) (some (R4 true)) none)) none)))))))) (by kernel_rfl) ?_
 exact (A9 R4 hp (fun hp=>rfl) (fun hp=>(A9 R4 hp (fun hp=>rfl) (fun hp=>(A9 R4 hp (fun hp=>rfl) (fun hp=>(A9 R4 hp (fun hp=>rfl) (fun hp=>(A9 R4 hp (fun hp=>rfl) (fun hp=>(A9 R4 hp (fun hp=>rfl) (fun hp=>(B2 hp fun hp=>(A9 R4 hp (fun hp=>rfl) (fun hp=>(B7 hp fun _h=>rfl))))))))))))))))
theorem E4V:aPP 16 (A7 B5v B9O C6M):=pcD true E71 (by
  rw [show A6 0 (B4 Tryz.f16)=[(0,B2t),(2,B2r)] by kernel_rfl];intro p hp;simp only [List.mem_cons,List.mem_nil_iff,or_false] at hp
  rcases hp with rfl | rfl
  ·exact D6I
  ·exact D58) E0p
noncomputable def F3d:Tab:=Tab.add F2X 16 (lift (A7 B5v B9O C6M))
noncomputable def F0y:FuncId→Bool:=qadd F0p 16
theorem F0R:aPG F3d F0y:=E71.addQ E4V (cbl Tryz.f16) (fun _=>rfl)

abbrev B4o:List PSh:=[.agg [(.int .i64),(.int .i64),(.int .i64),tq6,tq9,(.int .i64)]]
noncomputable def C1N (a0 a1 a2:Int) (a3:LT1) (a4:LIbe) (a5:Int):Int×Int×Int×LT1×LIbe×Int:=let z1:=C33 a0 a1 a2 a3 a4 a5;(cond (B1R a0 a1 a2 a3 a4 a5) ((z1.1),(z1.2.1),(z1.2.2.1),(z1.2.2.2.2.1),(z1.2.2.2.2.2),(((z1.2.2.2.2.2).length:Nat):Int)) ((z1.1),(z1.2.1),(z1.2.2.1),(z1.2.2.2.2.1),(z1.2.2.2.2.2),(z1.2.2.2.1)))
noncomputable abbrev C0m (r:Int×Int×Int×LT1×LIbe×Int):AV×List AObj:=((.agg [(ti r.1),(ti r.2.1),(ti r.2.2.1),(.t true tq6 r.2.2.2.1),(.t true tq9 r.2.2.2.2.1),(ti r.2.2.2.2.2)]),[])
noncomputable abbrev C6b:A1 B4o→AV×List AObj:=fun d=>C0m (C1N d.1.1 d.1.2.1 d.1.2.2.1 d.1.2.2.2.1 d.1.2.2.2.2.1 d.1.2.2.2.2.2.1)
noncomputable def A5h (a0 a1 a2:Int) (a3:LT1) (a4:LIbe) (a5:Int):Bool:=(A7J a0 a1 a2 a3 a4 a5)&&(A2K a0 a1 a2 a3 a4 a5)
noncomputable abbrev B9g:A1 B4o→Bool:=fun d=>A5h d.1.1 d.1.2.1 d.1.2.2.1 d.1.2.2.2.1 d.1.2.2.2.2.1 d.1.2.2.2.2.2.1
theorem D9Z:N0 true F0R aLn Tryz.f10 B4o B9g C6b:=by
 rintro ⟨⟨a0,⟨a1,⟨a2,⟨a3,⟨a4,⟨a5,_⟩⟩⟩⟩⟩⟩,_⟩ hp
 change A5h a0 a1 a2 a3 a4 a5=true at hp
 unfold A5h at hp
 refine Eq.trans (b:=(let z1:=C33 a0 a1 a2 a3 a4 a5;cond (A7J a0 a1 a2 a3 a4 a5) (cond (A2K a0 a1 a2 a3 a4 a5) (cond (B1R a0 a1 a2 a3 a4 a5) (some (C0m ((z1.1),(z1.2.1),(z1.2.2.1),(z1.2.2.2.2.1),(z1.2.2.2.2.2),(((z1.2.2.2.2.2).length:Nat):Int)))) (some (C0m ((z1.1),(z1.2.1),(z1.2.2.1),(z1.2.2.2.2.1),(z1.2.2.2.2.2),(z1.2.2.2.1))))) none) none)) (by kernel_rfl) ?_
 exact (B2 hp fun hp=>(B7 hp fun _h=>(A18 C0m (fun _h=>rfl) (fun _h=>rfl))))
theorem E5e:aPP 10 (A7 B4o B9g C6b):=pcD true F0R hlz D9Z
noncomputable def F3k:Tab:=Tab.add F3d 10 (lift (A7 B4o B9g C6b))
noncomputable def F0C:FuncId→Bool:=qadd F0y 10
theorem E83:aPG F3k F0C:=F0R.addQ E5e (cbl Tryz.f10) (fun _=>rfl)

abbrev B4Q:List PSh:=[.t tq5,.t tq5]
abbrev A3K:SS:=⟨(.t false tq5::.t false tq5::.junk::.junk::.junk::tI::E3z),[]⟩
abbrev C3H:SS:=⟨(.junk::.junk::.junk::.junk::.t true .bool::D3n),[]⟩
abbrev C3E:SS:=⟨(.junk::D7e),[]⟩
noncomputable def C5v (x0 x1:Lq2) (x5:Int):RT A3K.den:=let z1:=x0.getD x5.toNat ((0:Int),(bE,bE));let z2:=x1.getD x5.toNat ((0:Int),(bE,bE));(.br (decide (x5<(x0.length:Int))) (.br (decide (0≤x5∧x5<(x0.length:Int))) (.br (decide (0≤x5∧x5<(x1.length:Int))) (.br (!(((z1.1)==(z2.1))&&((((z1.2).1).toList==((z2.2).1).toList)&&((((z1.2).2).toList==((z2.2).2).toList)&&true)))) (.done .ret C3H (((),(),(),(),false,u22),())) (.next ((x0,x1,(),(),(),wI (x5+(1:Int)),u21),()))) .fail) .fail) (.done (.exit 0) C3E ((u27),())))
abbrev A6h:=(Lq2)×Lq2×(Int)
abbrev A8Z:=Nat×(Bool)
def B0W:A8Z:=(99,(false:Bool))
noncomputable def A67 (x0 x1:Lq2) (x5:Int):A6h ⊕ A8Z:=let z1:=x0.getD x5.toNat ((0:Int),(bE,bE));let z2:=x1.getD x5.toNat ((0:Int),(bE,bE));(cond (decide (x5<(x0.length:Int))) (cond (decide (0≤x5∧x5<(x0.length:Int))) (cond (decide (0≤x5∧x5<(x1.length:Int))) (cond (!(((z1.1)==(z2.1))&&((((z1.2).1).toList==((z2.2).1).toList)&&((((z1.2).2).toList==((z2.2).2).toList)&&true)))) (.inr (0,false)) (.inl (x0,x1,wI (x5+(1:Int))))) (.inr B0W)) (.inr B0W)) (.inr (1,(false:Bool))))
noncomputable def A6K (x0 x1:Lq2) (x5:Int):A8Z:=itX (fun v:A6h=>A67 v.1 v.2.1 v.2.2) B0W (x0,x1,x5)
noncomputable def B6Z (a:A8Z):CT:=(.br (a.1==0) (.done .ret C3H (((),(),(),(),a.2,u22),())) (.br (a.1==1) (.done (.exit 0) C3E ((u27),())) .fail))
noncomputable def D9e (x0 x1:Lq2) (x5:Int):CT:=B6Z (A6K x0 x1 x5)
noncomputable abbrev B6S:A3K.den→RT A3K.den:=(fun d=>C5v d.1.1 d.1.2.1 d.1.2.2.2.2.2.1)
noncomputable def C1i:Code:=((A6 0 (B4 Tryz.f53)).getD 0 (0,.skip)).2
noncomputable abbrev C5w (v:A6h):A3K.den:=((v.1,v.2.1,(),(),(),v.2.2,u21),())
theorem D5O:(∀ v:A6h,(C5v v.1 v.2.1 v.2.2).val=R5 C5w B6Z (A67 v.1 v.2.1 v.2.2))∧∀ a:A8Z,CEnd A3K.den (B6Z a):=⟨fun v=>(B3 (B3 (B3 (B3 rfl rfl) rfl) rfl) rfl),fun a=>(C5 aCD (C5 aCD K7))⟩
theorem D3t:RdA E83 aLn 0 C1i A3K 0 [] (kepts [4] [(0,[])]) (fun d=>(B6S d).opt 0 []):=by
 intro d
 kernel_rfl
noncomputable abbrev C3m:St→Option Tree:=A3K.say 0 [] [] (fun d=>D9e d.1.1 d.1.2.1 d.1.2.2.2.2.2.1)
theorem D57:aPL C3m C1i:=SS.wp2 hlz [] B6S D3t (fun d=>rfl) _ (fun d=>Runs.ofI2 (step:=B6S) C5w D5O rfl (d.1.1,d.1.2.1,d.1.2.2.2.2.2.1))
noncomputable def C1O (a0 a1:Lq2):Bool:=let z1:=A6K a0 a1 (0:Int);(cond ((a0.length:Int) != (a1.length:Int)) false (cond (z1.1==0) (z1.2) true))
noncomputable abbrev B0a (r:Bool):AV×List AObj:=((.t true .bool r),[])
noncomputable abbrev C6D:A1 B4Q→AV×List AObj:=fun d=>B0a (C1O d.1 d.2.1)
noncomputable def A7r (a0 a1:Lq2):Bool:=let z1:=A6K a0 a1 (0:Int);cond ((a0.length:Int) != (a1.length:Int)) true (cond (z1.1==0) true (z1.1==1))
noncomputable abbrev B93:A1 B4Q→Bool:=fun d=>A7r d.1 d.2.1
noncomputable abbrev E4e:Nat→St→Option Tree:=fun b=>match b with | 0=>C3m | _=>fun _=>none
theorem D9G:N0 true E83 (E4e) Tryz.f53 B4Q B93 C6D:=by
 rintro ⟨a0,⟨a1,_⟩⟩ hp
 change A7r a0 a1=true at hp
 unfold A7r at hp
 refine Eq.trans (b:=(let z1:=A6K a0 a1 (0:Int);cond ((a0.length:Int) != (a1.length:Int)) (some (B0a false)) (cond (z1.1==0) (some (B0a (z1.2))) (cond (z1.1==1) (some (B0a true)) none)))) (by kernel_rfl) ?_
 exact (A9 B0a hp (fun hp=>rfl) (fun hp=>(A9 B0a hp (fun hp=>rfl) (fun hp=>(B7 hp fun _h=>rfl)))))
theorem E4u:aPP 53 (A7 B4Q B93 C6D):=pcD true E83 (hl1 (i:=0) (by kernel_rfl) D57) D9G
noncomputable def F1D:Tab:=Tab.add F3k 53 (lift (A7 B4Q B93 C6D))
noncomputable def F0t:FuncId→Bool:=qadd F0C 53
theorem F1j:aPG F1D F0t:=E83.addQ E4u (cbl Tryz.f53) (fun _=>rfl)

abbrev B4h:List PSh:=[.agg [(.int .i64),(.int .i64),tq5],.agg [(.int .i64),(.int .i64),tq5]]
noncomputable def C8k (a0 a1:Int) (a2:Lq2) (a3 a4:Int) (a5:Lq2):Bool:=(cond (a0==a3) (cond (a1==a4) (C1O a2 a5) false) false)
noncomputable abbrev B0f (r:Bool):AV×List AObj:=((.t true .bool r),[])
noncomputable abbrev C6f:A1 B4h→AV×List AObj:=fun d=>B0f (C8k d.1.1 d.1.2.1 d.1.2.2.1 d.2.1.1 d.2.1.2.1 d.2.1.2.2.1)
noncomputable def A7G (a0 a1:Int) (a2:Lq2) (a3 a4:Int) (a5:Lq2):Bool:=cond (a0==a3) (cond (a1==a4) (A7r a2 a5) true) true
noncomputable abbrev B8N:A1 B4h→Bool:=fun d=>A7G d.1.1 d.1.2.1 d.1.2.2.1 d.2.1.1 d.2.1.2.1 d.2.1.2.2.1
theorem E0s:N0 true F1j aLn Tryz.f25 B4h B8N C6f:=by
 rintro ⟨⟨a0,⟨a1,⟨a2,_⟩⟩⟩,⟨⟨a3,⟨a4,⟨a5,_⟩⟩⟩,_⟩⟩ hp
 change A7G a0 a1 a2 a3 a4 a5=true at hp
 unfold A7G at hp
 refine Eq.trans (b:=(cond (a0==a3) (cond (a1==a4) (cond (A7r a2 a5) (some (B0f (C1O a2 a5))) none) (some (B0f false))) (some (B0f false)))) (by kernel_rfl) ?_
 exact (A9 B0f hp (fun hp=>(A9 B0f hp (fun hp=>(B7 hp fun _h=>rfl)) (fun hp=>rfl))) (fun hp=>rfl))
theorem E3E:aPP 25 (A7 B4h B8N C6f):=pcD true F1j hlz E0s
noncomputable def F2F:Tab:=Tab.add F1D 25 (lift (A7 B4h B8N C6f))
noncomputable def F0m:FuncId→Bool:=qadd F0t 25
theorem E9m:aPG F2F F0m:=F1j.addQ E3E (cbl Tryz.f25) (fun _=>rfl)

abbrev B1i:List PSh:=[.t tq3,.t tq3]
abbrev A2G:SS:=⟨(.t false tq3::.t false tq3::.junk::.junk::.junk::tI::D3n),[]⟩
abbrev C1h:SS:=⟨(.junk::.junk::.junk::.junk::.t true .bool::F32),[]⟩
abbrev C1d:SS:=⟨(.junk::E9z),[]⟩
noncomputable def B9e (x0 x1:Lq1) (x5:Int):=let z1:=x0.getD x5.toNat ((0:Int),((0:Int),[]));let z2:=x1.getD x5.toNat ((0:Int),((0:Int),[]));C8k (z1.1) ((z1.2).1) ((z1.2).2) (z2.1) ((z2.2).1) ((z2.2).2)
noncomputable def C3S (x0 x1:Lq1) (x5:Int):RT A2G.den:=let z1:=x0.getD x5.toNat ((0:Int),((0:Int),[]));let z2:=x1.getD x5.toNat ((0:Int),((0:Int),[]));(.br (decide (x5<(x0.length:Int))) (.br (decide (0≤x5∧x5<(x0.length:Int))) (.br (decide (0≤x5∧x5<(x1.length:Int))) (.br (A7G (z1.1) ((z1.2).1) ((z1.2).2) (z2.1) ((z2.2).1) ((z2.2).2)) (.br (!(B9e x0 x1 x5)) (.done .ret C1h (((),(),(),(),false,u23),())) (.next ((x0,x1,(),(),(),wI (x5+(1:Int)),u22),()))) .fail) .fail) .fail) (.done (.exit 0) C1d ((u28),())))
abbrev A4D:=(Lq1)×Lq1×(Int)
abbrev A6I:=Nat×(Bool)
def A5p:A6I:=(99,(false:Bool))
noncomputable def A5j (x0 x1:Lq1) (x5:Int):A4D ⊕ A6I:=let z1:=x0.getD x5.toNat ((0:Int),((0:Int),[]));let z2:=x1.getD x5.toNat ((0:Int),((0:Int),[]));(cond (decide (x5<(x0.length:Int))) (cond (decide (0≤x5∧x5<(x0.length:Int))) (cond (decide (0≤x5∧x5<(x1.length:Int))) (cond (A7G (z1.1) ((z1.2).1) ((z1.2).2) (z2.1) ((z2.2).1) ((z2.2).2)) (cond (!(B9e x0 x1 x5)) (.inr (0,false)) (.inl (x0,x1,wI (x5+(1:Int))))) (.inr A5p)) (.inr A5p)) (.inr A5p)) (.inr (1,(false:Bool))))
noncomputable def A5q (x0 x1:Lq1) (x5:Int):A6I:=itX (fun v:A4D=>A5j v.1 v.2.1 v.2.2) A5p (x0,x1,x5)
noncomputable def B4x (a:A6I):CT:=(.br (a.1==0) (.done .ret C1h (((),(),(),(),a.2,u23),())) (.br (a.1==1) (.done (.exit 0) C1d ((u28),())) .fail))
noncomputable def D6U (x0 x1:Lq1) (x5:Int):CT:=B4x (A5q x0 x1 x5)
noncomputable abbrev B4P:A2G.den→RT A2G.den:=(fun d=>C3S d.1.1 d.1.2.1 d.1.2.2.2.2.2.1)
noncomputable def B8J:Code:=((A6 0 (B4 Tryz.f11)).getD 0 (0,.skip)).2
noncomputable abbrev C1W (v:A4D):A2G.den:=((v.1,v.2.1,(),(),(),v.2.2,u22),())
theorem D5x:(∀ v:A4D,(C3S v.1 v.2.1 v.2.2).val=R5 C1W B4x (A5j v.1 v.2.1 v.2.2))∧∀ a:A6I,CEnd A2G.den (B4x a):=⟨fun v=>(B3 (B3 (B3 (B3 (B3 rfl rfl) rfl) rfl) rfl) rfl),fun a=>(C5 aCD (C5 aCD K7))⟩
theorem D2v:RdA E9m aLn 0 B8J A2G 0 [] (kepts [4] [(0,[])]) (fun d=>(B4P d).opt 0 []):=by
 intro d
 kernel_rfl
noncomputable abbrev C0I:St→Option Tree:=A2G.say 0 [] [] (fun d=>D6U d.1.1 d.1.2.1 d.1.2.2.2.2.2.1)
theorem D4H:aPL C0I B8J:=SS.wp2 hlz [] B4P D2v (fun d=>rfl) _ (fun d=>Runs.ofI2 (step:=B4P) C1W D5x rfl (d.1.1,d.1.2.1,d.1.2.2.2.2.2.1))
noncomputable def A95 (a0 a1:Lq1):Bool:=let z1:=A5q a0 a1 (0:Int);(cond ((a0.length:Int) != (a1.length:Int)) false (cond (z1.1==0) (z1.2) true))
noncomputable abbrev A8l (r:Bool):AV×List AObj:=((.t true .bool r),[])
noncomputable abbrev C30:A1 B1i→AV×List AObj:=fun d=>A8l (A95 d.1 d.2.1)
noncomputable def A3v (a0 a1:Lq1):Bool:=let z1:=A5q a0 a1 (0:Int);cond ((a0.length:Int) != (a1.length:Int)) true (cond (z1.1==0) true (z1.1==1))
noncomputable abbrev B6O:A1 B1i→Bool:=fun d=>A3v d.1 d.2.1
noncomputable abbrev E1h:Nat→St→Option Tree:=fun b=>match b with | 0=>C0I | _=>fun _=>none
theorem D6G:N0 true E9m (E1h) Tryz.f11 B1i B6O C30:=by
 rintro ⟨a0,⟨a1,_⟩⟩ hp
 change A3v a0 a1=true at hp
 unfold A3v at hp
 refine Eq.trans (b:=(let z1:=A5q a0 a1 (0:Int);cond ((a0.length:Int) != (a1.length:Int)) (some (A8l false)) (cond (z1.1==0) (some (A8l (z1.2))) (cond (z1.1==1) (some (A8l true)) none)))) (by kernel_rfl) ?_
 exact (A9 A8l hp (fun hp=>rfl) (fun hp=>(A9 A8l hp (fun hp=>rfl) (fun hp=>(B7 hp fun _h=>rfl)))))
theorem E2R:aPP 11 (A7 B1i B6O C30):=pcD true E9m (hl1 (i:=0) (by kernel_rfl) D4H) D6G
noncomputable def F1F:Tab:=Tab.add F2F 11 (lift (A7 B1i B6O C30))
noncomputable def F0B:FuncId→Bool:=qadd F0m 11
theorem E9F:aPG F1F F0B:=E9m.addQ E2R (cbl Tryz.f11) (fun _=>rfl)

abbrev A9i:List PSh:=[.t tq8,.t tq8]
abbrev A1G:SS:=⟨(.t false tq8::.t false tq8::.junk::.junk::.junk::tI::E3z),[]⟩
abbrev B8p:SS:=⟨(.junk::.junk::.junk::.junk::.t true .bool::D3n),[]⟩
abbrev B8G:SS:=⟨(.junk::D7e),[]⟩
noncomputable def C0X (x0 x1:LBBe) (x5:Int):RT A1G.den:=let z1:=x0.getD x5.toNat (bE,bE);let z2:=x1.getD x5.toNat (bE,bE);(.br (decide (x5<(x0.length:Int))) (.br (decide (0≤x5∧x5<(x0.length:Int))) (.br (decide (0≤x5∧x5<(x1.length:Int))) (.br (!(((z1.1).toList==(z2.1).toList)&&(((z1.2).toList==(z2.2).toList)&&true))) (.done .ret B8p (((),(),(),(),false,u22),())) (.next ((x0,x1,(),(),(),wI (x5+(1:Int)),u21),()))) .fail) .fail) (.done (.exit 0) B8G ((u27),())))
abbrev A3b:=(LBBe)×LBBe×(Int)
abbrev A5T:=Nat×(Bool)
def A7f:A5T:=(99,(false:Bool))
noncomputable def A3U (x0 x1:LBBe) (x5:Int):A3b ⊕ A5T:=let z1:=x0.getD x5.toNat (bE,bE);let z2:=x1.getD x5.toNat (bE,bE);(cond (decide (x5<(x0.length:Int))) (cond (decide (0≤x5∧x5<(x0.length:Int))) (cond (decide (0≤x5∧x5<(x1.length:Int))) (cond (!(((z1.1).toList==(z2.1).toList)&&(((z1.2).toList==(z2.2).toList)&&true))) (.inr (0,false)) (.inl (x0,x1,wI (x5+(1:Int))))) (.inr A7f)) (.inr A7f)) (.inr (1,(false:Bool))))
noncomputable def A4f (x0 x1:LBBe) (x5:Int):A5T:=itX (fun v:A3b=>A3U v.1 v.2.1 v.2.2) A7f (x0,x1,x5)
noncomputable def B2D (a:A5T):CT:=(.br (a.1==0) (.done .ret B8p (((),(),(),(),a.2,u22),())) (.br (a.1==1) (.done (.exit 0) B8G ((u27),())) .fail))
noncomputable def D29 (x0 x1:LBBe) (x5:Int):CT:=B2D (A4f x0 x1 x5)
noncomputable abbrev B2G:A1G.den→RT A1G.den:=(fun d=>C0X d.1.1 d.1.2.1 d.1.2.2.2.2.2.1)
noncomputable def B5Q:Code:=((A6 0 (B4 Tryz.f12)).getD 0 (0,.skip)).2
noncomputable abbrev C1u (v:A3b):A1G.den:=((v.1,v.2.1,(),(),(),v.2.2,u21),())
theorem D2C:(∀ v:A3b,(C0X v.1 v.2.1 v.2.2).val=R5 C1u B2D (A3U v.1 v.2.1 v.2.2))∧∀ a:A5T,CEnd A1G.den (B2D a):=⟨fun v=>(B3 (B3 (B3 (B3 rfl rfl) rfl) rfl) rfl),fun a=>(C5 aCD (C5 aCD K7))⟩
theorem C9X:RdA E9F aLn 0 B5Q A1G 0 [] (kepts [4] [(0,[])]) (fun d=>(B2G d).opt 0 []):=by
 intro d
 kernel_rfl
noncomputable abbrev B75:St→Option Tree:=A1G.say 0 [] [] (fun d=>D29 d.1.1 d.1.2.1 d.1.2.2.2.2.2.1)
theorem D2j:aPL B75 B5Q:=SS.wp2 hlz [] B2G C9X (fun d=>rfl) _ (fun d=>Runs.ofI2 (step:=B2G) C1u D2C rfl (d.1.1,d.1.2.1,d.1.2.2.2.2.2.1))
noncomputable def A7A (a0 a1:LBBe):Bool:=let z1:=A4f a0 a1 (0:Int);(cond ((a0.length:Int) != (a1.length:Int)) false (cond (z1.1==0) (z1.2) true))
noncomputable abbrev A6b (r:Bool):AV×List AObj:=((.t true .bool r),[])
noncomputable abbrev B9U:A1 A9i→AV×List AObj:=fun d=>A6b (A7A d.1 d.2.1)
noncomputable def A2A (a0 a1:LBBe):Bool:=let z1:=A4f a0 a1 (0:Int);cond ((a0.length:Int) != (a1.length:Int)) true (cond (z1.1==0) true (z1.1==1))
noncomputable abbrev B5h:A1 A9i→Bool:=fun d=>A2A d.1 d.2.1
noncomputable abbrev D9q:Nat→St→Option Tree:=fun b=>match b with | 0=>B75 | _=>fun _=>none
theorem D5D:N0 true E9F (D9q) Tryz.f12 A9i B5h B9U:=by
 rintro ⟨a0,⟨a1,_⟩⟩ hp
 change A2A a0 a1=true at hp
 unfold A2A at hp
 refine Eq.trans (b:=(let z1:=A4f a0 a1 (0:Int);cond ((a0.length:Int) != (a1.length:Int)) (some (A6b false)) (cond (z1.1==0) (some (A6b (z1.2))) (cond (z1.1==1) (some (A6b true)) none)))) (by kernel_rfl) ?_
 exact (A9 A6b hp (fun hp=>rfl) (fun hp=>(A9 A6b hp (fun hp=>rfl) (fun hp=>(B7 hp fun _h=>rfl)))))
theorem E0h:aPP 12 (A7 A9i B5h B9U):=pcD true E9F (hl1 (i:=0) (by kernel_rfl) D2j) D5D
noncomputable def F4j:Tab:=Tab.add F1F 12 (lift (A7 A9i B5h B9U))
noncomputable def F3A:FuncId→Bool:=qadd F0B 12
theorem F3z:aPG F4j F3A:=E9F.addQ E0h (cbl Tryz.f12) (fun _=>rfl)


end Go.Proofs.YtapikgcgahomlaaGreat.Eng
