/- What the functions that FnExactReadRecs reaches compute: further. -/
import Derived.Test.YtccelbeahdcooaaFExactReadRecsA
namespace Go.Proofs.Ytccelbeahdcooaa.Eng
open Go Go.RowKit
set_option linter.unusedSimpArgs false
set_option linter.unusedVariables false
set_option maxRecDepth 10000
abbrev A5b:SS:=⟨[.all 0 1,tI],[.rows 5 true (.int .u8)]⟩
abbrev Q2:SS:=⟨(.all 0 1::tI::B8f),[.rows 5 true (.int .u8)]⟩
abbrev A35:SS:=⟨(.all 0 1::tI::B8f),[.rows 5 true (.int .u8)]⟩
noncomputable def A2Q (x1:Int) (h0:List Int):RT Q2.den:=let z1:=ior .i64 (128:Int) (iand .i64 x1 (127:Int));(.br (decide (x1 > (127:Int))) (.br (decide ((h0.length+[IntKind.wrap .u8 z1].length)*1≤MAXB)) (.next (((),Int.fdiv x1 (2 ^ (7)),u23),(h0++[IntKind.wrap .u8 z1],()))) .fail) (.done (.exit 0) A35 (((),x1,u23),(h0,()))))
noncomputable def A12 (x1:Int) (h0:List Int):CT:=(.br (decide (0≤x1∧x1≤1000000000)&&decide (h0.length≤35184372088832)) (.done (.exit 0) A35 (((),((nX x1).2),u23),((h0++(nX x1).1),()))) .fail)
noncomputable abbrev T2:Q2.den→RT Q2.den:=(fun d=>A2Q d.1.2.1 d.2.1)
noncomputable abbrev A5D (x1:Int) (h0:List Int):Q2.den:=(((),x1,u23),(h0,()))
noncomputable def A6M:Code:=((loopsIn 0 (bodyOf Try.f113)).getD 0 (0,.skip)).2
theorem B5L (x1:Int) (h0:List Int):(A12 x1 h0).val (D:=Q2.den)=.fail∨Runs T2 (A5D x1 h0) (A12 x1 h0).val:=by
 cases hc:(decide (0≤x1∧x1≤1000000000)&&decide (h0.length≤35184372088832)) with
 | false=>left;simp only [A12,CT.val,hc,cond_false]
 | true =>
  right
  simp only [A12,CT.val,hc,cond_true]
  simp only [Bool.and_eq_true,decide_eq_true_eq] at hc
  rw [B9c]
  have key:∀ (k:Nat) (x1:Int) (h0:List Int),0≤x1→x1<128 ^ (k+1)→h0.length+k≤70368744177664→Runs T2 (A5D x1 h0) (((.done (.exit 0) A35 (((),((hiF V8 k x1).2),u23),((h0++(hiF V8 k x1).1),()))):CT).val (D:=Q2.den)):=by
   intro k
   induction k with
   | zero =>
    intro x h h1 h2 h3
    have e1:decide (x > 127)=false:=decide_eq_false (by simp at h2;omega)
    refine .done (by simp) ?_
    simp only [T2,A2Q,RT.val,e1,cond_false,hiF,List.append_nil]
   | succ k ih =>
    intro x h h1 h2 h3
    rw [Int.pow_succ] at h2
    by_cases hx:x > 127
    ·have e1:decide (x > 127)=true:=decide_eq_true hx
     have e2:decide ((h.length+[V8 x].length)*1≤MAXB)=true:=decide_eq_true (by simp [MAXB];omega)
     simp only [V8] at e2
     have:=ih (Int.fdiv x (2 ^ 7)) (h++[V8 x]) (by rw [B1Y];omega) (by rw [B1Y];omega) (by simp;omega)
     refine .next (d':=A5D (Int.fdiv x (2 ^ 7)) (h++[V8 x])) ?_ ?_
     ·simp only [T2,A2Q,RT.val,e1,e2,cond_true];rfl
     ·have e3:hiF V8 (k+1) x=(V8 x::(hiF V8 k (Int.fdiv x (2 ^ 7))).1,(hiF V8 k (Int.fdiv x (2 ^ 7))).2):=by simp only [hiF,e1,cond_true]
      rw [e3]
      simpa [List.append_assoc] using this
    ·have e1:decide (x > 127)=false:=decide_eq_false hx
     refine .done (by simp) ?_
     simp only [T2,A2Q,RT.val,e1,cond_false,hiF,List.append_nil]
  exact key 4 x1 h0 hc.1.1 (by have:=hc.1.2;simp;omega) (by have:=hc.2;omega)
theorem B3D:RdA G31 aLn 0 A6M Q2 1 [0] (kepts [] [(0,[0,1])]) (fun d=>(T2 d).opt 1 [0]):=by
 intro d
 kernel_rfl
noncomputable abbrev A8P:St→Option Tree:=Q2.say 1 [0] [] (fun d=>A12 d.1.2.1 d.2.1)
theorem B40:aPL A8P A6M:=SS.wp2 hlz [] T2 B3D (fun d=>rfl) _ (fun d=>B5L d.1.2.1 d.2.1)
noncomputable def E8 (x1:Int) (h0:List Int):List Int:=let z1:=if (1000000000:Int)<x1 then (1000000000:Int) else x1;let z2:=nX (if z1 > (0:Int) then z1 else (0:Int));((h0++z2.1)++[IntKind.wrap .u8 (z2.2)])
noncomputable abbrev B4a (r:List Int):AV×List AObj×List Nat:=((.all 0 1),[(.rows 5 true (.int .u8) r)],[0])
noncomputable abbrev B4g:A5b.den→AV×List AObj×List Nat:=fun d=>B4a (E8 d.1.2.1 d.2.1)
noncomputable def D1 (x1:Int) (h0:List Int):Bool:=decide (h0.length≤17592186044416)
noncomputable abbrev B1z:A5b.den→Bool:=fun d=>D1 d.1.2.1 d.2.1
noncomputable abbrev B7H:Nat→St→Option Tree:=fun b=>match b with | 0=>A8P | _=>fun _=>none
theorem B6m:RunM G31 (B7H) Try.f113 A5b B1z B4g:=by
 rintro ⟨⟨_,(x1:Int),_⟩,⟨(h0:List Int),_⟩⟩ hp
 change D1 x1 h0=true at hp
 unfold D1 at hp
 refine Eq.trans (b:=(let z2:=if (1000000000:Int)<x1 then (1000000000:Int) else x1;let z1:=if z2 > (0:Int) then z2 else (0:Int);cond (decide (0≤z1∧z1≤1000000000)&&decide (h0.length≤35184372088832)) (cond (decide (((h0++(nX z1).1).length+[IntKind.wrap .u8 ((nX z1).2)].length)*1≤MAXB)) (some (B4a ((h0++(nX z1).1)++[IntKind.wrap .u8 ((nX z1).2)]))) none) none)) (by kernel_rfl) ?_
 exact (cndT (by have h1:=B2H (A2o x1);have h2:=A2D x1;simp only [A2o] at h1 h2;simp only [D1,decide_eq_true_eq,Bool.and_eq_true] at *;(try simp only [MAXB,List.length_append,List.length_cons,List.length_nil])<;>omega) (fun _h=>(cndT (by have h1:=B2H (A2o x1);have h2:=A2D x1;simp only [A2o] at h1 h2;simp only [D1,decide_eq_true_eq,Bool.and_eq_true] at *;(try simp only [MAXB,List.length_append,List.length_cons,List.length_nil])<;>omega) (fun _h=>rfl))))
noncomputable abbrev B4j:=win winIds (msum A5b B1z B4g)
theorem B7T:aPM 113 B4j:=(mcM G31 (hl1 (i:=0) (by kernel_rfl) B40) B6m).win winIds
noncomputable def S32:Tab:=Tab.add S31 113 (orElseS (A4g) (B4j))
noncomputable def C03:FuncId→Bool:=C02
theorem G32:aPG S32 C03:=G31.addM (MContract.orElse A8i B7T) (orElse_local (win_local _) (win_local _)) (cbl Try.f113) (by kernel_rfl)
theorem A1r (n:Int) (b:List Int):E8 n b=b++A8 (A00 n):=by
 rw [← B0J,A8,← List.append_assoc]
 rfl
theorem A0D (b:List Int) (n:Int):(E8 n b).length≤b.length+5:=by
 rw [A1r,List.length_append]
 have:=P5 (A00 n)
 omega

abbrev A3L:SS:=⟨[.all 0 1,.t true .str],[.rows 5 true (.int .u8)]⟩
noncomputable def N0 (x1:ByteArray) (h0:List Int):List Int:=((E8 (x1.size:Int) h0)++strInts x1)
noncomputable abbrev B2b (r:List Int):AV×List AObj×List Nat:=((.all 0 1),[(.rows 5 true (.int .u8) r)],[0])
noncomputable abbrev B2l:A3L.den→AV×List AObj×List Nat:=fun d=>B2b (N0 d.1.2.1 d.2.1)
noncomputable def E9 (x1:ByteArray) (h0:List Int):Bool:=decide (h0.length≤8796093022208)&&okS x1
noncomputable abbrev A97:A3L.den→Bool:=fun d=>E9 d.1.2.1 d.2.1
theorem B5r:RunM G32 aLn Try.f147 A3L A97 B2l:=by
 rintro ⟨⟨_,(x1:ByteArray),_⟩,⟨(h0:List Int),_⟩⟩ hp
 change E9 x1 h0=true at hp
 unfold E9 at hp
 refine Eq.trans (b:=(let z1:=E8 (x1.size:Int) h0;cond (D1 (x1.size:Int) h0) (cond (decide (z1.length+x1.size≤MAXB)) (some (B2b (z1++strInts x1))) none) none)) (by kernel_rfl) ?_
 exact (cndT (by have h1:=A0D h0 (x1.size:Int);simp only [D1,okS,decide_eq_true_eq,decide_eq_false_iff_not,Bool.and_eq_true] at *;(try simp [MAXB])<;>omega) (fun _h=>(cndT (by have h1:=A0D h0 (x1.size:Int);simp only [D1,okS,decide_eq_true_eq,decide_eq_false_iff_not,Bool.and_eq_true] at *;(try simp [MAXB])<;>omega) (fun _h=>rfl))))
noncomputable abbrev B2E:=win winIds (msum A3L A97 B2l)
theorem B6T:aPM 147 B2E:=(mcM G32 hlz B5r).win winIds
noncomputable def S33:Tab:=Tab.add S32 147 (B2E)
noncomputable def C04:FuncId→Bool:=C03
theorem G33:aPG S33 C04:=G32.addM B6T (win_local _) (cbl Try.f147) (by kernel_rfl)
theorem A6Z (b:List Int) (s:ByteArray) (h:okS s=true):N0 s b=b++I4 s:=by
 simp only [okS,decide_eq_true_eq] at h
 simp only [N0,A1r,I4,List.append_assoc]
 rw [A0C (by omega) (by omega)]
theorem A2H (b:List Int) (s:ByteArray) (h:okS s=true):(N0 s b).length≤b.length+5+s.size:=by
 rw [A6Z b s h,List.length_append]
 have:=B1j s
 omega

abbrev C1R:List Sh:=.junk::B9J
abbrev u30:=((),u29)
noncomputable def A2r (l:Lq1) (i:Nat) (h:List Int):List Int:=let z1:=l.getD i dOp;N0 z1.2.2 (N0 z1.2.1 (E8 z1.1 h))
abbrev A0P:SS:=⟨[.nil,.t false tq3],[]⟩
abbrev F8:SS:=⟨(.all 0 1::.junk::.junk::.junk::.junk::.junk::.junk::.junk::.junk::.junk::.junk::.t false tq3::tI::tI::C1R),[.rows 5 true (.int .u8)]⟩
abbrev A0K:SS:=⟨(.all 0 1::B8g),[.rows 5 true (.int .u8)]⟩
noncomputable def A1E (x11:Lq1) (x12 x13:Int) (h0:List Int):RT F8.den:=let z1:=x11.getD x13.toNat ((0:Int),(bE,bE));let z2:=N0 ((z1.2).1) (E8 (z1.1) h0);(.br (decide (x13<x12)) (.br (decide (0≤x13∧x13<(x11.length:Int))) (.br (D1 (z1.1) h0) (.br (E9 ((z1.2).1) (E8 (z1.1) h0)) (.br (E9 ((z1.2).2) z2) (.next (((),(),(),(),(),(),(),(),(),(),(),x11,x12,IntKind.wrap .i64 (x13+(1:Int)),u16),((N0 ((z1.2).2) z2),()))) .fail) .fail) .fail) .fail) (.done (.exit 0) A0K ((u30),(h0,()))))
noncomputable def T4 (x11:Lq1) (x12 x13:Int) (h0:List Int):CT:=(.br (decide (0≤x13)&&(decide (x12=(x11.length:Int))&&(decide (h0.length≤4194304*(x13.toNat+1))&&F5 x11))) (.done (.exit 0) A0K ((u30),((foldN (A2r x11) (x11.length - x13.toNat) x13.toNat h0),()))) .fail)
noncomputable abbrev A4O {α:Sort _} (f:Lq1→Int→Int→(List Int)→α) (d:F8.den):α:=f d.1.2.2.2.2.2.2.2.2.2.2.2.1 d.1.2.2.2.2.2.2.2.2.2.2.2.2.1 d.1.2.2.2.2.2.2.2.2.2.2.2.2.2.1 d.2.1
noncomputable abbrev K3:F8.den→RT F8.den:=(A4O A1E)
noncomputable abbrev A40 (x11:Lq1) (x12 x13:Int) (h0:List Int):F8.den:=(((),(),(),(),(),(),(),(),(),(),(),x11,x12,x13,u16),(h0,()))
noncomputable def A3h:Code:=((loopsIn 0 (bodyOf Try.f114)).getD 0 (0,.skip)).2
theorem B1C (x11:Lq1) (x12 x13:Int) (h0:List Int):(T4 x11 x12 x13 h0).val (D:=F8.den)=.fail∨Runs K3 (A40 x11 x12 x13 h0) (T4 x11 x12 x13 h0).val:=by
 cases hc:(decide (0≤x13)&&(decide (x12=(x11.length:Int))&&(decide (h0.length≤4194304*(x13.toNat+1))&&F5 x11))) with
 | false=>left;simp only [T4,CT.val,hc,cond_false]
 | true =>
  right
  simp only [T4,CT.val,hc,cond_true]
  simp only [Bool.and_eq_true,decide_eq_true_eq] at hc
  obtain ⟨i,rfl⟩:=Int.eq_ofNat_of_zero_le hc.1
  obtain ⟨_,e1,hc⟩:=hc
  subst e1
  have hc:=And.intro (show True from trivial) hc
  have hs:=A0F hc.2.2
  have hb0:=hc.2.1
  simp only [Int.toNat_natCast] at hb0 ⊢
  refine Runs.foldN (step:=K3) (fun j b=>A40 x11 (x11.length:Int) (j:Int) b) (fun i b=>b.length≤4194304*(i+1)) (x11.length) (A2r x11)
   (fin:=fun b=>((.done (.exit 0) A0K ((u30),(b,()))):CT).val) (fun i b hi hb=>?_) (fun i b hi hb=>?_) (x11.length - i) i h0 rfl hb0
  ·obtain ⟨k1,k2⟩:=A62 hc.2.2 i hi
   have l1:=A0D b (x11.getD i dOp).1
   have l2:=A2H (E8 (x11.getD i dOp).1 b) (x11.getD i dOp).2.1 k1
   have l3:=A2H (N0 (x11.getD i dOp).2.1 (E8 (x11.getD i dOp).1 b)) (x11.getD i dOp).2.2 k2
   have m1:=okS_le k1
   have m2:=okS_le k2
   have q1:D1 (x11.getD i dOp).1 b=true:=by simp only [D1,decide_eq_true_eq];omega
   have q2:E9 (x11.getD i dOp).2.1 (E8 (x11.getD i dOp).1 b)=true:=by simp only [E9,k1,Bool.and_true,decide_eq_true_eq];omega
   have q3:E9 (x11.getD i dOp).2.2 (N0 (x11.getD i dOp).2.1 (E8 (x11.getD i dOp).1 b))=true:=by simp only [E9,k2,Bool.and_true,decide_eq_true_eq];omega
   refine ⟨by simp only [A2r];omega,?_⟩
   have h0a:decide ((i:Int)<(x11.length:Int))=true:=decide_eq_true (by omega)
   have h0b:decide (0≤(i:Int)∧(i:Int)<(x11.length:Int))=true:=decide_eq_true (by omega)
   simp only [dOp] at q1 q2 q3
   simp only [K3,A1E,RT.val,h0a,h0b,cond_true,wrapS i (by omega),Int.toNat_natCast,q1,q2,q3]
   rfl
  ·have h1:decide ((i:Int)<(x11.length:Int))=false:=decide_eq_false (by omega)
   exact ⟨by simp only [K3,A1E,RT.val,h1,cond_false];rfl,_,_,_,rfl,by simp⟩
theorem B0n:RdA G33 aLn 0 A3h F8 0 [] (kepts [] [(0,[0])]) (fun d=>(K3 d).opt 0 []):=by
 intro d
 kernel_rfl
noncomputable abbrev A32:St→Option Tree:=F8.say 0 [] [] (A4O T4)
theorem B02:aPL A32 A3h:=SS.wp2 hlz [] K3 B0n (fun d=>rfl) _ (fun d=>B1C d.1.2.2.2.2.2.2.2.2.2.2.2.1 d.1.2.2.2.2.2.2.2.2.2.2.2.2.1 d.1.2.2.2.2.2.2.2.2.2.2.2.2.2.1 d.2.1)
noncomputable def B59 (x1:Lq1):List Int:=(foldN (A2r x1) (x1.length - (0:Int).toNat) (0:Int).toNat (C2 (x1.length:Int)))
noncomputable abbrev A8l (r:List Int):AV×List AObj×List Nat:=((.all 0 1),[(.rows 5 true (.int .u8) r)],[])
noncomputable abbrev A8p:A0P.den→AV×List AObj×List Nat:=fun d=>A8l (B59 d.1.2.1)
noncomputable def A4m (x1:Lq1):Bool:=F5 x1
noncomputable abbrev A6h:A0P.den→Bool:=fun d=>A4m d.1.2.1
noncomputable abbrev B3b:Nat→St→Option Tree:=fun b=>match b with | 0=>A32 | _=>fun _=>none
theorem B1V:RunM G33 (B3b) Try.f114 A0P A6h A8p:=by
 rintro ⟨⟨_,(x1:Lq1),_⟩,_⟩ hp
 change A4m x1=true at hp
 unfold A4m at hp
 refine Eq.trans (b:=(let z1:=C2 (x1.length:Int);cond (decide (0≤(0:Int))&&(decide ((x1.length:Int)=(x1.length:Int))&&(decide (z1.length≤4194304*((0:Int).toNat+1))&&F5 x1))) (some (A8l (foldN (A2r x1) (x1.length - (0:Int).toNat) (0:Int).toNat z1))) none)) (by kernel_rfl) ?_
 exact (cndT (by have h1:=A6a (x1.length:Int);have hs:=A0F hp;simp only [hp,Bool.and_true,Bool.true_and,Bool.and_eq_true,decide_eq_true_eq]<;>(try simp only [Int.toNat_zero,Int.le_refl,true_and,and_true,eq_self] at h1 ⊢)<;>omega) (fun _h=>rfl))
noncomputable abbrev A4h:=win winIds (msum A0P A6h A8p)
theorem A8j:aPM 114 A4h:=(mcM G33 (hl1 (i:=0) (by kernel_rfl) B02) B1V).win winIds
noncomputable def S34:Tab:=Tab.add S33 114 (A4h)
noncomputable def C05:FuncId→Bool:=C04
theorem G34:aPG S34 C05:=G33.addM A8j (win_local _) (cbl Try.f114) (by kernel_rfl)

abbrev A5c:SS:=⟨[.all 0 1,.t false tq3],[.rows 5 true (.int .u8)]⟩
abbrev Q3:SS:=⟨(.all 0 1::.junk::.junk::.junk::.junk::.junk::.junk::.junk::.junk::.junk::.junk::.t false tq3::tI::tI::C1R),[.rows 5 true (.int .u8)]⟩
abbrev A36:SS:=⟨(.all 0 1::B8g),[.rows 5 true (.int .u8)]⟩
noncomputable def A5Z (x11:Lq1) (x12 x13:Int) (h0:List Int):RT Q3.den:=let z1:=x11.getD x13.toNat ((0:Int),(bE,bE));let z2:=N0 ((z1.2).1) (E8 (z1.1) h0);(.br (decide (x13<x12)) (.br (decide (0≤x13∧x13<(x11.length:Int))) (.br (D1 (z1.1) h0) (.br (E9 ((z1.2).1) (E8 (z1.1) h0)) (.br (E9 ((z1.2).2) z2) (.next (((),(),(),(),(),(),(),(),(),(),(),x11,x12,IntKind.wrap .i64 (x13+(1:Int)),u16),((N0 ((z1.2).2) z2),()))) .fail) .fail) .fail) .fail) (.done (.exit 0) A36 ((u30),(h0,()))))
noncomputable def A13 (x11:Lq1) (x12 x13:Int) (h0:List Int):CT:=(.br (decide (0≤x13)&&(decide (x12=(x11.length:Int))&&(decide (h0.length≤4194304*(x13.toNat+1))&&F5 x11))) (.done (.exit 0) A36 ((u30),((foldN (A2r x11) (x11.length - x13.toNat) x13.toNat h0),()))) .fail)
noncomputable abbrev A9E {α:Sort _} (f:Lq1→Int→Int→(List Int)→α) (d:Q3.den):α:=f d.1.2.2.2.2.2.2.2.2.2.2.2.1 d.1.2.2.2.2.2.2.2.2.2.2.2.2.1 d.1.2.2.2.2.2.2.2.2.2.2.2.2.2.1 d.2.1
noncomputable abbrev Z1:Q3.den→RT Q3.den:=(A9E A5Z)
noncomputable abbrev A96 (x11:Lq1) (x12 x13:Int) (h0:List Int):Q3.den:=(((),(),(),(),(),(),(),(),(),(),(),x11,x12,x13,u16),(h0,()))
noncomputable def A6N:Code:=((loopsIn 0 (bodyOf Try.f114)).getD 0 (0,.skip)).2
theorem B5M (x11:Lq1) (x12 x13:Int) (h0:List Int):(A13 x11 x12 x13 h0).val (D:=Q3.den)=.fail∨Runs Z1 (A96 x11 x12 x13 h0) (A13 x11 x12 x13 h0).val:=by
 cases hc:(decide (0≤x13)&&(decide (x12=(x11.length:Int))&&(decide (h0.length≤4194304*(x13.toNat+1))&&F5 x11))) with
 | false=>left;simp only [A13,CT.val,hc,cond_false]
 | true =>
  right
  simp only [A13,CT.val,hc,cond_true]
  simp only [Bool.and_eq_true,decide_eq_true_eq] at hc
  obtain ⟨i,rfl⟩:=Int.eq_ofNat_of_zero_le hc.1
  obtain ⟨_,e1,hc⟩:=hc
  subst e1
  have hc:=And.intro (show True from trivial) hc
  have hs:=A0F hc.2.2
  have hb0:=hc.2.1
  simp only [Int.toNat_natCast] at hb0 ⊢
  refine Runs.foldN (step:=Z1) (fun j b=>A96 x11 (x11.length:Int) (j:Int) b) (fun i b=>b.length≤4194304*(i+1)) (x11.length) (A2r x11)
   (fin:=fun b=>((.done (.exit 0) A36 ((u30),(b,()))):CT).val) (fun i b hi hb=>?_) (fun i b hi hb=>?_) (x11.length - i) i h0 rfl hb0
  ·obtain ⟨k1,k2⟩:=A62 hc.2.2 i hi
   have l1:=A0D b (x11.getD i dOp).1
   have l2:=A2H (E8 (x11.getD i dOp).1 b) (x11.getD i dOp).2.1 k1
   have l3:=A2H (N0 (x11.getD i dOp).2.1 (E8 (x11.getD i dOp).1 b)) (x11.getD i dOp).2.2 k2
   have m1:=okS_le k1
   have m2:=okS_le k2
   have q1:D1 (x11.getD i dOp).1 b=true:=by simp only [D1,decide_eq_true_eq];omega
   have q2:E9 (x11.getD i dOp).2.1 (E8 (x11.getD i dOp).1 b)=true:=by simp only [E9,k1,Bool.and_true,decide_eq_true_eq];omega
   have q3:E9 (x11.getD i dOp).2.2 (N0 (x11.getD i dOp).2.1 (E8 (x11.getD i dOp).1 b))=true:=by simp only [E9,k2,Bool.and_true,decide_eq_true_eq];omega
   refine ⟨by simp only [A2r];omega,?_⟩
   have h0a:decide ((i:Int)<(x11.length:Int))=true:=decide_eq_true (by omega)
   have h0b:decide (0≤(i:Int)∧(i:Int)<(x11.length:Int))=true:=decide_eq_true (by omega)
   simp only [dOp] at q1 q2 q3
   simp only [Z1,A5Z,RT.val,h0a,h0b,cond_true,wrapS i (by omega),Int.toNat_natCast,q1,q2,q3]
   rfl
  ·have h1:decide ((i:Int)<(x11.length:Int))=false:=decide_eq_false (by omega)
   exact ⟨by simp only [Z1,A5Z,RT.val,h1,cond_false];rfl,_,_,_,rfl,by simp⟩
theorem B3E:RdA G34 aLn 0 A6N Q3 1 [0] (kepts [] [(0,[0])]) (fun d=>(Z1 d).opt 1 [0]):=by
 intro d
 kernel_rfl
noncomputable abbrev A8Q:St→Option Tree:=Q3.say 1 [0] [] (A9E A13)
theorem B41:aPL A8Q A6N:=SS.wp2 hlz [] Z1 B3E (fun d=>rfl) _ (fun d=>B5M d.1.2.2.2.2.2.2.2.2.2.2.2.1 d.1.2.2.2.2.2.2.2.2.2.2.2.2.1 d.1.2.2.2.2.2.2.2.2.2.2.2.2.2.1 d.2.1)
noncomputable def A5y (x1:Lq1) (h0:List Int):List Int:=(foldN (A2r x1) (x1.length - (0:Int).toNat) (0:Int).toNat (E8 (x1.length:Int) h0))
noncomputable abbrev B4b (r:List Int):AV×List AObj×List Nat:=((.all 0 1),[(.rows 5 true (.int .u8) r)],[0])
noncomputable abbrev B4h:A5c.den→AV×List AObj×List Nat:=fun d=>B4b (A5y d.1.2.1 d.2.1)
noncomputable def A2W (x1:Lq1) (h0:List Int):Bool:=decide (h0.length≤1000)&&F5 x1
noncomputable abbrev B1A:A5c.den→Bool:=fun d=>A2W d.1.2.1 d.2.1
noncomputable abbrev B7I:Nat→St→Option Tree:=fun b=>match b with | 0=>A8Q | _=>fun _=>none
theorem B6n:RunM G34 (B7I) Try.f114 A5c B1A B4h:=by
 rintro ⟨⟨_,(x1:Lq1),_⟩,⟨(h0:List Int),_⟩⟩ hp
 change A2W x1 h0=true at hp
 unfold A2W at hp
 refine Eq.trans (b:=(let z1:=E8 (x1.length:Int) h0;cond (D1 (x1.length:Int) h0) (cond (decide (0≤(0:Int))&&(decide ((x1.length:Int)=(x1.length:Int))&&(decide (z1.length≤4194304*((0:Int).toNat+1))&&F5 x1))) (some (B4b (foldN (A2r x1) (x1.length - (0:Int).toNat) (0:Int).toNat z1))) none) none)) (by kernel_rfl) ?_
 exact (cndT (by obtain ⟨hp1,hp2⟩:=(Bool.and_eq_true _ _).mp hp;have h1:=A0D h0 (x1.length:Int);have hs:=A0F hp2;simp only [D1,hp2,Bool.and_true,Bool.true_and,Bool.and_eq_true,decide_eq_true_eq] at hp1 ⊢<;>(try simp only [Int.toNat_zero,Int.le_refl,true_and,and_true,eq_self] at h1 ⊢)<;>omega) (fun _h=>(cndT (by obtain ⟨hp1,hp2⟩:=(Bool.and_eq_true _ _).mp hp;have h1:=A0D h0 (x1.length:Int);have hs:=A0F hp2;simp only [D1,hp2,Bool.and_true,Bool.true_and,Bool.and_eq_true,decide_eq_true_eq] at hp1 ⊢<;>(try simp only [Int.toNat_zero,Int.le_refl,true_and,and_true,eq_self] at h1 ⊢)<;>omega) (fun _h=>rfl))))
noncomputable abbrev B4k:=win winIds (msum A5c B1A B4h)
theorem B7U:aPM 114 B4k:=(mcM G34 (hl1 (i:=0) (by kernel_rfl) B41) B6n).win winIds
noncomputable def S35:Tab:=Tab.add S34 114 (orElseS (A4h) (B4k))
noncomputable def B9t:FuncId→Bool:=C05
theorem G35:aPG S35 B9t:=G34.addM (MContract.orElse A8j B7U) (orElse_local (win_local _) (win_local _)) (cbl Try.f114) (by kernel_rfl)
theorem B69 (l:Lq1) (h:List Int) (ho:F5 l=true):A5y l h=h++(A8 (A00 (l.length:Int))++(l.map opB).flatten):=by
 simp only [A5y]
 have:=B8c opB dOp l (A2r l) (fun i h hi=>by
  obtain ⟨k1,k2⟩:=A62 ho i hi
  simp only [A2r,A6Z _ _ k1,A6Z _ _ k2,A1r,opB,List.append_assoc]) l.length 0 (E8 (l.length:Int) h) (by omega)
 rw [A1r,List.drop_zero,List.append_assoc] at this
 rw [← this,A1r]
 rfl


abbrev O9:List PSh:=[.t C6]
noncomputable def D4 (a0:List (Int)):List (Int):=a0
noncomputable abbrev I8 (r:List (Int)):AV×List AObj:=(.all 0 1,[.rows 5 true (.int .u8) r])
noncomputable abbrev A2w:pshsDen O9→AV×List AObj:=fun d=>I8 (D4 d.1)
noncomputable def D2 (a0:List (Int)):Bool:=decide ((([]:List (Int)).length+a0.length)*1≤MAXB)
noncomputable abbrev A1k:pshsDen O9→Bool:=fun d=>D2 d.1
theorem A7s (a0:List (Int)) (h0:0<a0.length) (hp:D2 a0=true):runP false Try.prog tt S35 B9t aLn Try.f169 [.t (Ty.sl (.int .u8)).flat C6 a0]=some (I8 a0):=by
 refine Eq.trans (b:=cond (decide (0<a0.length)) (cond (D2 a0) (some (I8 a0)) none) none) (by kernel_rfl) ?_
 rw [decide_eq_true h0,hp];rfl
theorem A7t (A:Option Addr) (c:Nat):runP false Try.prog tt S35 B9t aLn Try.f169 [.raw (.slice A 0 c)]=some (I8 []):=by
 cases A<;>kernel_rfl
theorem A70:aPP 169 (sumOf O9 A1k A2w):=PContract.split (e:=(.int .u8)) (pre:=D2) (g:=fun a0=>I8 (D4 a0)) (fun l h0 hp=>PCalls.of_run false G35 (fn:=Try.f169) (by kernel_rfl) (L:=fun _ _=>none) (by rw [show loopsIn 0 (bodyOf Try.f169)=[] by kernel_rfl];simp) (A7s l h0 hp) rfl rfl) (fun A c=>PCalls.of_run false G35 (fn:=Try.f169) (by kernel_rfl) (L:=fun _ _=>none) (by rw [show loopsIn 0 (bodyOf Try.f169)=[] by kernel_rfl];simp) (A7t A c) rfl rfl)
noncomputable def S36:Tab:=Tab.add S35 169 (lift (sumOf O9 A1k A2w))
noncomputable def C06:FuncId→Bool:=B9t
theorem G36:aPG S36 C06:=G35.add A70 ⟨Try.f169,by kernel_rfl,by kernel_rfl,by kernel_rfl⟩ (by kernel_rfl)

abbrev C2w:List Sh:=.junk::B8g
abbrev u36:=((),u35)
abbrev C2l:List AV:=.junk::B9I
abbrev A4D:List PSh:=[.t C6]
noncomputable def A3d:Code:=((loopsIn 0 (bodyOf Try.f150)).getD 0 (0,.skip)).2
noncomputable def A3e:Code:=((loopsIn 0 (bodyOf Try.f150)).getD 1 (0,.skip)).2
abbrev Q0:SS:=⟨(.t false C6::.junk::.junk::.all 0 1::B87),[.rows 5 true (.int .u8)]⟩
abbrev A72:SS:=⟨(.t false C6::.junk::.junk::.all 0 1::B87),[.rows 5 true (.int .u8)]⟩
noncomputable def B0z (x0 h0:List Int):RT Q0.den:=(.br ((Int.tmod (IntKind.wrap .i64 ((h0.length:Int)+(8:Int))) (64:Int)) != (0:Int)) (.br (decide ((h0.length+[(0:Int)].length)*1≤MAXB)) (.next ((x0,u35),(h0++[(0:Int)],()))) .fail) (.done (.exit 0) A72 ((x0,u35),(h0,()))))
abbrev A0A:=(List Int)×(List Int)
abbrev U8:=Nat×(List Int)×(List Int)
def A9M:U8:=(99,([]:List Int),([]:List Int))
noncomputable def Z2 (x0 h0:List Int):A0A ⊕ U8:=(cond ((Int.tmod (IntKind.wrap .i64 ((h0.length:Int)+(8:Int))) (64:Int)) != (0:Int)) (cond (decide ((h0.length+[(0:Int)].length)*1≤MAXB)) (.inl (x0,h0++[(0:Int)])) (.inr A9M)) (.inr (0,x0,h0)))
noncomputable def D8 (x0 h0:List Int):U8:=itX (fun v:A0A=>Z2 v.1 v.2) A9M (x0,h0)
noncomputable def A5e (a:U8):CT:=(.br (a.1==0) (.done (.exit 0) A72 ((a.2.1,u35),(a.2.2,()))) .fail)
noncomputable def B5O (x0 h0:List Int):CT:=A5e (D8 x0 h0)
noncomputable abbrev A5P:Q0.den→RT Q0.den:=(fun d=>B0z d.1.1 d.2.1)
noncomputable abbrev B0a (v:A0A):Q0.den:=((v.1,u35),(v.2,()))
theorem B5g:(∀ v:A0A,(B0z v.1 v.2).val=relS B0a A5e (Z2 v.1 v.2))∧∀ a:U8,CEnd Q0.den (A5e a):=⟨fun v=>(relB (relB rfl rfl) rfl),fun a=>(cendB aCD cendF)⟩
noncomputable def A9W (x0 h0:List Int):Option (Ex×St):=(cond ((Int.tmod (IntKind.wrap .i64 ((h0.length:Int)+(8:Int))) (64:Int)) != (0:Int)) (cond (decide ((h0.length+[(0:Int)].length)*1≤MAXB)) (some (.normal,(⟨((.t false C6 x0)::.junk::.junk::(.all 0 1)::B82),[(.rows 5 true (.int .u8) (h0++[(0:Int)]))],0,[]⟩:St))) none) (some ((.exit 0),(⟨((.t false C6 x0)::.junk::.junk::(.all 0 1)::B82),[(.rows 5 true (.int .u8) h0)],0,[]⟩:St))))
theorem B3A:RdA G36 aLn 0 A3d Q0 0 [] (kepts [] [(0,[0,3])]) (fun d=>A9W d.1.1 d.2.1):=by
 intro d
 kernel_rfl
theorem B3N:∀ d:Q0.den,(fun d=>A9W d.1.1 d.2.1) d=(A5P d).opt 0 []:=by
 intro d
 kernel_rfl
noncomputable abbrev A8M:St→Option Tree:=Q0.say 0 [] [] (fun d=>B5O d.1.1 d.2.1)
theorem B4X:aPL A8M A3d:=SS.wp2 hlz [] A5P B3A B3N _ (fun d=>Runs.ofI2 (step:=A5P) B0a B5g rfl (d.1.1,d.2.1))
abbrev Q1:SS:=⟨(.junk::.junk::.junk::.all 0 1::tI::tI::C2w),[.rows 5 true (.int .u8)]⟩
abbrev A73:SS:=⟨(.junk::.junk::.junk::.all 0 1::B87),[.rows 5 true (.int .u8)]⟩
noncomputable def B0A (x4 x5:Int) (h0:List Int):RT Q1.den:=let z1:=IntKind.wrap .i64 ((8:Int)*x5);(.br (decide (x5 ≥ (0:Int))) (.br (decide (0≤(IntKind.wrap .u64 z1))) (.br (decide ((h0.length+[IntKind.wrap .u8 (Int.fdiv x4 (2 ^ (min (Int.toNat (IntKind.wrap .u64 z1)) (IntKind.bits .i64))))].length)*1≤MAXB)) (.next (((),(),(),(),x4,IntKind.wrap .i64 (x5 - (1:Int)),u30),(h0++[IntKind.wrap .u8 (Int.fdiv x4 (2 ^ (min (Int.toNat (IntKind.wrap .u64 z1)) (IntKind.bits .i64))))],()))) .fail) .fail) (.done (.exit 2) A73 ((u36),(h0,()))))
abbrev A0B:=(Int)×(Int)×(List Int)
abbrev U9:=Nat×(List Int)
def A5r:U9:=(99,([]:List Int))
noncomputable def Z3 (x4 x5:Int) (h0:List Int):A0B ⊕ U9:=let z1:=IntKind.wrap .i64 ((8:Int)*x5);(cond (decide (x5 ≥ (0:Int))) (cond (decide (0≤(IntKind.wrap .u64 z1))) (cond (decide ((h0.length+[IntKind.wrap .u8 (Int.fdiv x4 (2 ^ (min (Int.toNat (IntKind.wrap .u64 z1)) (IntKind.bits .i64))))].length)*1≤MAXB)) (.inl (x4,IntKind.wrap .i64 (x5 - (1:Int)),h0++[IntKind.wrap .u8 (Int.fdiv x4 (2 ^ (min (Int.toNat (IntKind.wrap .u64 z1)) (IntKind.bits .i64))))])) (.inr A5r)) (.inr A5r)) (.inr (0,h0)))
noncomputable def N2 (x4 x5:Int) (h0:List Int):U9:=itX (fun v:A0B=>Z3 v.1 v.2.1 v.2.2) A5r (x4,x5,h0)
noncomputable def A5f (a:U9):CT:=(.br (a.1==0) (.done (.exit 2) A73 ((u36),(a.2,()))) .fail)
noncomputable def B5P (x4 x5:Int) (h0:List Int):CT:=A5f (N2 x4 x5 h0)
noncomputable abbrev A5Q:Q1.den→RT Q1.den:=(fun d=>B0A d.1.2.2.2.2.1 d.1.2.2.2.2.2.1 d.2.1)
noncomputable abbrev B0b (v:A0B):Q1.den:=(((),(),(),(),v.1,v.2.1,u30),(v.2.2,()))
theorem B5h:(∀ v:A0B,(B0A v.1 v.2.1 v.2.2).val=relS B0b A5f (Z3 v.1 v.2.1 v.2.2))∧∀ a:U9,CEnd Q1.den (A5f a):=⟨fun v=>(relB (relB (relB rfl rfl) rfl) rfl),fun a=>(cendB aCD cendF)⟩
noncomputable def A9X (x4 x5:Int) (h0:List Int):Option (Ex×St):=let z1:=IntKind.wrap .i64 ((8:Int)*x5);(cond (decide (x5 ≥ (0:Int))) (cond (decide (0≤(IntKind.wrap .u64 z1))) (cond (decide ((h0.length+[IntKind.wrap .u8 (Int.fdiv x4 (2 ^ (min (Int.toNat (IntKind.wrap .u64 z1)) (IntKind.bits .i64))))].length)*1≤MAXB)) (some (.normal,(⟨(.junk::.junk::.junk::(.all 0 1)::(ti x4)::(ti (IntKind.wrap .i64 (x5 - (1:Int))))::C2l),[(.rows 5 true (.int .u8) (h0++[IntKind.wrap .u8 (Int.fdiv x4 (2 ^ (min (Int.toNat (IntKind.wrap .u64 z1)) (IntKind.bits .i64))))]))],0,[]⟩:St))) none) none) (some ((.exit 2),(⟨(.junk::.junk::.junk::(.all 0 1)::B82),[(.rows 5 true (.int .u8) h0)],0,[]⟩:St))))
theorem B3B:RdA G36 aLn 2 A3e Q1 0 [] (kepts [] [(2,[3])]) (fun d=>A9X d.1.2.2.2.2.1 d.1.2.2.2.2.2.1 d.2.1):=by
 intro d
 kernel_rfl
theorem B3O:∀ d:Q1.den,(fun d=>A9X d.1.2.2.2.2.1 d.1.2.2.2.2.2.1 d.2.1) d=(A5Q d).opt 0 []:=by
 intro d
 kernel_rfl
noncomputable abbrev A8N:St→Option Tree:=Q1.say 0 [] [] (fun d=>B5P d.1.2.2.2.2.1 d.1.2.2.2.2.2.1 d.2.1)
theorem B4Y:aPL A8N A3e:=SS.wp2 hlz [] A5Q B3B B3O _ (fun d=>Runs.ofI2 (step:=A5Q) B0b B5h rfl (d.1.2.2.2.2.1,d.1.2.2.2.2.2.1,d.2.1))
noncomputable def W9 (a0:List Int):=let z1:=D8 a0 ((D4 a0)++[(128:Int)]);N2 (IntKind.wrap .i64 ((8:Int)*(((z1.2.1).length:Nat):Int))) (7:Int) (z1.2.2)
noncomputable def M9 (a0:List Int):List Int:=((W9 a0).2)
noncomputable abbrev B39 (r:List Int):AV×List AObj:=((.t true C6 r),[])
noncomputable abbrev B0O:pshsDen A4D→AV×List AObj:=fun d=>B39 (M9 d.1)
noncomputable def Y7 (a0:List Int):Bool:=let z1:=D4 a0;(D2 a0)&&((decide ((z1.length+[(128:Int)].length)*1≤MAXB))&&(((D8 a0 (z1++[(128:Int)])).1==0)&&((W9 a0).1==0)))
noncomputable abbrev A69:pshsDen A4D→Bool:=fun d=>Y7 d.1
noncomputable abbrev B7F:Nat→St→Option Tree:=fun b=>match b with | 0=>A8M | 2=>A8N | _=>fun _=>none
theorem B6k:RunP true G36 (B7F) Try.f150 A4D A69 B0O:=by
 rintro ⟨a0,_⟩ hp
 change Y7 a0=true at hp
 unfold Y7 at hp
 refine Eq.trans (b:=(let z1:=D4 a0;cond (D2 a0) (cond (decide ((z1.length+[(128:Int)].length)*1≤MAXB)) (cond ((D8 a0 (z1++[(128:Int)])).1==0) (cond ((W9 a0).1==0) (some (B39 ((W9 a0).2))) none) none) none) none)) (by kernel_rfl) ?_
 exact (cndA hp fun hp=>(cndA hp fun hp=>(cndA hp fun hp=>(cndT hp fun _h=>rfl))))
theorem B7R:aPP 150 (sumOf A4D A69 B0O):=pcD true G36 (by
  rw [show loopsIn 0 (bodyOf Try.f150)=[(0,A3d),(2,A3e)] by kernel_rfl];intro p hp;simp only [List.mem_cons,List.mem_nil_iff,or_false] at hp
  rcases hp with rfl | rfl
  ·exact B4X
  ·exact B4Y) B6k
noncomputable def S37:Tab:=Tab.add S36 150 (lift (sumOf A4D A69 B0O))
noncomputable def C07:FuncId→Bool:=qadd C06 150
theorem G37:aPG S37 C07:=G36.addQ B7R (cbl Try.f150) (fun _=>rfl)

abbrev A4G:List PSh:=[]
noncomputable def irounds :List Int:=[(1116352408:Int),(1899447441:Int),(3049323471:Int),(3921009573:Int),(961987163:Int),(1508970993:Int),(2453635748:Int),(2870763221:Int),(3624381080:Int),(310598401:Int),(607225278:Int),(1426881987:Int),(1925078388:Int),(2162078206:Int),(2614888103:Int),(3248222580:Int),(3835390401:Int),(4022224774:Int),(264347078:Int),(604807628:Int),(770255983:Int),(1249150122:Int),(1555081692:Int),(1996064986:Int),(2554220882:Int),(2821834349:Int),(2952996808:Int),(3210313671:Int),(3336571891:Int),(3584528711:Int),(113926993:Int),(338241895:Int),(666307205:Int),(773529912:Int),(1294757372:Int),(1396182291:Int),(1695183700:Int),(1986661051:Int),(2177026350:Int),(2456956037:Int),(2730485921:Int),(2820302411:Int),(3259730800:Int),(3345764771:Int),(3516065817:Int),(3600352804:Int),(4094571909:Int),(275423344:Int),(430227734:Int),(506948616:Int),(659060556:Int),(883997877:Int),(958139571:Int),(1322822218:Int),(1537002063:Int),(1747873779:Int),(1955562222:Int),(2024104815:Int),(2227730452:Int),(2361852424:Int),(2428436474:Int),(2756734187:Int),(3204031479:Int),(3329325298:Int)]
noncomputable abbrev B79 (r:List Int):AV×List AObj:=((.ptr 0 0 1 0),[(.rows 176 true (.int .u32) r)])
noncomputable abbrev B0R:pshsDen A4G→AV×List AObj:=fun d=>B79 (irounds )
noncomputable abbrev A7c:pshsDen A4G→Bool:=fun d=>true
theorem B6p:RunP true G37 aLn Try.f148 A4G A7c B0R:=by
 rintro _ hp
 kernel_rfl
theorem B7W:aPP 148 (sumOf A4G A7c B0R):=pcD true G37 hlz B6p
noncomputable def S38:Tab:=Tab.add S37 148 (lift (sumOf A4G A7c B0R))
noncomputable def C08:FuncId→Bool:=C07
theorem G38:aPG S38 C08:=G37.add B7W (cbl Try.f148) (by kernel_rfl)

theorem A2S (x:Int):0≤IntKind.wrap .u64 x:=by
 simp only [IntKind.wrap]
 exact Int.emod_nonneg _ (by decide)
abbrev E5:List PSh:=[.t (.int .u32),.t (.int .i64)]
noncomputable def A3 (a0 a1:Int):Int:=(ior .u32 (IntKind.wrap .u32 (a0*2 ^ (min (Int.toNat (iand .u64 (IntKind.wrap .u64 a1) (31:Int))) (IntKind.bits .u32)))) (Int.fdiv a0 (2 ^ (min (Int.toNat (IntKind.wrap .u64 ((32:Int) - (iand .u64 (IntKind.wrap .u64 a1) (31:Int))))) (IntKind.bits .u32)))))
noncomputable abbrev A0f (r:Int):AV×List AObj:=((.t true (.int .u32) r),[])
noncomputable abbrev N9:pshsDen E5→AV×List AObj:=fun d=>A0f (A3 d.1 d.2.1)
noncomputable abbrev L0:pshsDen E5→Bool:=fun d=>true
theorem A3E:RunP true G38 aLn Try.f171 E5 L0 N9:=by
 rintro ⟨(a0:Int),⟨(a1:Int),_⟩⟩ hp
 refine Eq.trans (b:=(cond (decide (0≤(iand .u64 (IntKind.wrap .u64 a1) (31:Int)))) (cond (decide (0≤(IntKind.wrap .u64 ((32:Int) - (iand .u64 (IntKind.wrap .u64 a1) (31:Int)))))) (some (A0f (ior .u32 (IntKind.wrap .u32 (a0*2 ^ (min (Int.toNat (iand .u64 (IntKind.wrap .u64 a1) (31:Int))) (IntKind.bits .u32)))) (Int.fdiv a0 (2 ^ (min (Int.toNat (IntKind.wrap .u64 ((32:Int) - (iand .u64 (IntKind.wrap .u64 a1) (31:Int))))) (IntKind.bits .u32))))))) none) none)) (by kernel_rfl) ?_
 exact (cndT (decide_eq_true (A2S _)) (fun _h=>(cndT (decide_eq_true (A2S _)) (fun _h=>rfl))))
theorem A37:aPP 171 (sumOf E5 L0 N9):=pcD true G38 hlz A3E
noncomputable def S39:Tab:=Tab.add S38 171 (lift (sumOf E5 L0 N9))
noncomputable def C09:FuncId→Bool:=qadd C08 171
theorem G39:aPG S39 C09:=G38.addQ A37 (cbl Try.f171) (fun _=>rfl)

abbrev C1Y:List Sh:=.junk::.junk::C0y
abbrev u82:=((),u81)
abbrev u93:=((),(),(),(),(),(),u87)
abbrev C1L:List AV:=.junk::.junk::C0q
abbrev A22:List PSh:=[.t C6]
noncomputable def A2i:Code:=((loopsIn 0 (bodyOf Try.f170)).getD 0 (0,.skip)).2
noncomputable def A2j:Code:=((loopsIn 0 (bodyOf Try.f170)).getD 1 (0,.skip)).2
abbrev L8:SS:=⟨(.t false C6::.junk::.junk::.ptr 0 0 1 0::.junk::.junk::.junk::.junk::.junk::.junk::tI::C1X),[.rows 176 true (.int .u32)]⟩
abbrev A6u:SS:=⟨(.junk::.junk::.junk::.ptr 0 0 1 0::C1Y),[.rows 176 true (.int .u32)]⟩
noncomputable def A8Z (x0:List Int) (x10:Int) (h0:List Int):RT L8.den:=let z1:=IntKind.wrap .i64 ((4:Int)*x10);let z2:=IntKind.wrap .i64 (z1+(1:Int));let z3:=IntKind.wrap .i64 (z1+(2:Int));let z4:=IntKind.wrap .i64 (z1+(3:Int));(.br (decide (x10<(16:Int))) (.br (decide (0≤z1∧z1<(x0.length:Int))) (.br (decide (0≤z2∧z2<(x0.length:Int))) (.br (decide (0≤z3∧z3<(x0.length:Int))) (.br (decide (0≤z4∧z4<(x0.length:Int))) (.br (decide (0≤x10∧x10<((64:Nat):Int)∧x10<(h0.length:Int))) (.next ((x0,(),(),(),(),(),(),(),(),(),IntKind.wrap .i64 (x10+(1:Int)),u82),(h0.set x10.toNat (ior .u32 (ior .u32 (ior .u32 (IntKind.wrap .u32 ((IntKind.wrap .u32 (x0.getD (z1.toNat) (0:Int)))*2 ^ (24))) (IntKind.wrap .u32 ((IntKind.wrap .u32 (x0.getD (z2.toNat) (0:Int)))*2 ^ (16)))) (IntKind.wrap .u32 ((IntKind.wrap .u32 (x0.getD (z3.toNat) (0:Int)))*2 ^ (8)))) (IntKind.wrap .u32 (x0.getD (z4.toNat) (0:Int)))),()))) .fail) .fail) .fail) .fail) .fail) (.done (.exit 0) A6u ((u93),(h0,()))))
abbrev R4:=(List Int)×(Int)×(List Int)
abbrev Q7:=Nat×(List Int)
def U2:Q7:=(99,([]:List Int))
noncomputable def O6 (x0:List Int) (x10:Int) (h0:List Int):R4 ⊕ Q7:=let z1:=IntKind.wrap .i64 ((4:Int)*x10);let z2:=IntKind.wrap .i64 (z1+(1:Int));let z3:=IntKind.wrap .i64 (z1+(2:Int));let z4:=IntKind.wrap .i64 (z1+(3:Int));(cond (decide (x10<(16:Int))) (cond (decide (0≤z1∧z1<(x0.length:Int))) (cond (decide (0≤z2∧z2<(x0.length:Int))) (cond (decide (0≤z3∧z3<(x0.length:Int))) (cond (decide (0≤z4∧z4<(x0.length:Int))) (cond (decide (0≤x10∧x10<((64:Nat):Int)∧x10<(h0.length:Int))) (.inl (x0,IntKind.wrap .i64 (x10+(1:Int)),h0.set x10.toNat (ior .u32 (ior .u32 (ior .u32 (IntKind.wrap .u32 ((IntKind.wrap .u32 (x0.getD (z1.toNat) (0:Int)))*2 ^ (24))) (IntKind.wrap .u32 ((IntKind.wrap .u32 (x0.getD (z2.toNat) (0:Int)))*2 ^ (16)))) (IntKind.wrap .u32 ((IntKind.wrap .u32 (x0.getD (z3.toNat) (0:Int)))*2 ^ (8)))) (IntKind.wrap .u32 (x0.getD (z4.toNat) (0:Int)))))) (.inr U2)) (.inr U2)) (.inr U2)) (.inr U2)) (.inr U2)) (.inr (0,h0)))
noncomputable def O0 (x0:List Int) (x10:Int) (h0:List Int):Q7:=itX (fun v:R4=>O6 v.1 v.2.1 v.2.2) U2 (x0,x10,h0)
noncomputable def A38 (a:Q7):CT:=(.br (a.1==0) (.done (.exit 0) A6u ((u93),(a.2,()))) .fail)
noncomputable def B4z (x0:List Int) (x10:Int) (h0:List Int):CT:=A38 (O0 x0 x10 h0)
noncomputable abbrev A4p:L8.den→RT L8.den:=(fun d=>A8Z d.1.1 d.1.2.2.2.2.2.2.2.2.2.2.1 d.2.1)
noncomputable abbrev A8E (v:R4):L8.den:=((v.1,(),(),(),(),(),(),(),(),(),v.2.1,u82),(v.2.2,()))
theorem B3V:(∀ v:R4,(A8Z v.1 v.2.1 v.2.2).val=relS A8E A38 (O6 v.1 v.2.1 v.2.2))∧∀ a:Q7,CEnd L8.den (A38 a):=⟨fun v=>by repeat' first | apply relB | rfl,fun a=>(cendB aCD cendF)⟩
noncomputable def A8s (x0:List Int) (x10:Int) (h0:List Int):Option (Ex×St):=let z1:=IntKind.wrap .i64 ((4:Int)*x10);let z2:=IntKind.wrap .i64 (z1+(1:Int));let z3:=IntKind.wrap .i64 (z1+(2:Int));let z4:=IntKind.wrap .i64 (z1+(3:Int));(cond (decide (x10<(16:Int))) (cond (decide (0≤z1∧z1<(x0.length:Int))) (cond (decide (0≤z2∧z2<(x0.length:Int))) (cond (decide (0≤z3∧z3<(x0.length:Int))) (cond (decide (0≤z4∧z4<(x0.length:Int))) (cond (decide (0≤x10∧x10<((64:Nat):Int)∧x10<(h0.length:Int))) (some (.normal,(⟨((.t false C6 x0)::.junk::.junk::(.ptr 0 0 1 0)::.junk::.junk::.junk::.junk::.junk::.junk::(ti (IntKind.wrap .i64 (x10+(1:Int))))::C1K),[(.rows 176 true (.int .u32) (h0.set x10.toNat (ior .u32 (ior .u32 (ior .u32 (IntKind.wrap .u32 ((IntKind.wrap .u32 (x0.getD (z1.toNat) (0:Int)))*2 ^ (24))) (IntKind.wrap .u32 ((IntKind.wrap .u32 (x0.getD (z2.toNat) (0:Int)))*2 ^ (16)))) (IntKind.wrap .u32 ((IntKind.wrap .u32 (x0.getD (z3.toNat) (0:Int)))*2 ^ (8)))) (IntKind.wrap .u32 (x0.getD (z4.toNat) (0:Int))))))],0,[]⟩:St))) none) none) none) none) none) (some ((.exit 0),(⟨(.junk::.junk::.junk::(.ptr 0 0 1 0)::C1L),[(.rows 176 true (.int .u32) h0)],0,[]⟩:St))))
theorem B2J:RdA G39 aLn 0 A2i L8 0 [] (kepts [] [(0,[3])]) (fun d=>A8s d.1.1 d.1.2.2.2.2.2.2.2.2.2.2.1 d.2.1):=by
 intro d
 kernel_rfl
theorem B2T:∀ d:L8.den,(fun d=>A8s d.1.1 d.1.2.2.2.2.2.2.2.2.2.2.1 d.2.1) d=(A4p d).opt 0 []:=by
 intro d
 kernel_rfl
noncomputable abbrev A7v:St→Option Tree:=L8.say 0 [] [] (fun d=>B4z d.1.1 d.1.2.2.2.2.2.2.2.2.2.2.1 d.2.1)
theorem B3o:aPL A7v A2i:=SS.wp2 hlz [] A4p B2J B2T _ (fun d=>Runs.ofI2 (step:=A4p) A8E B3V rfl (d.1.1,d.1.2.2.2.2.2.2.2.2.2.2.1,d.2.1))
abbrev L9:SS:=⟨(.junk::.junk::.junk::.ptr 0 0 1 0::.junk::tI::C0y),[.rows 176 true (.int .u32)]⟩
abbrev A6v:SS:=⟨(.junk::.junk::.junk::.ptr 0 0 1 0::C1Y),[.rows 176 true (.int .u32)]⟩
noncomputable def A3W (x5:Int) (h0:List Int):=A3 (h0.getD ((IntKind.wrap .i64 (x5 - (15:Int))).toNat) (0:Int)) (-7:Int)
noncomputable def A3X (x5:Int) (h0:List Int):=A3 (h0.getD ((IntKind.wrap .i64 (x5 - (15:Int))).toNat) (0:Int)) (-18:Int)
noncomputable def A3Y (x5:Int) (h0:List Int):=A3 (h0.getD ((IntKind.wrap .i64 (x5 - (2:Int))).toNat) (0:Int)) (-17:Int)
noncomputable def A3Z (x5:Int) (h0:List Int):=A3 (h0.getD ((IntKind.wrap .i64 (x5 - (2:Int))).toNat) (0:Int)) (-19:Int)
noncomputable def A80 (x5:Int) (h0:List Int):RT L9.den:=let z1:=IntKind.wrap .i64 (x5 - (15:Int));let z2:=IntKind.wrap .i64 (x5 - (16:Int));let z3:=IntKind.wrap .i64 (x5 - (2:Int));let z4:=IntKind.wrap .i64 (x5 - (7:Int));(.br (decide (x5<(64:Int))) (.br (decide (0≤z1∧z1<((64:Nat):Int)∧z1<(h0.length:Int))) (.br (decide (0≤z3∧z3<((64:Nat):Int)∧z3<(h0.length:Int))) (.br (decide (0≤z2∧z2<((64:Nat):Int)∧z2<(h0.length:Int))) (.br (decide (0≤z4∧z4<((64:Nat):Int)∧z4<(h0.length:Int))) (.br (decide (0≤x5∧x5<((64:Nat):Int)∧x5<(h0.length:Int))) (.next (((),(),(),(),(),IntKind.wrap .i64 (x5+(1:Int)),u87),(h0.set x5.toNat (IntKind.wrap .u32 ((IntKind.wrap .u32 ((IntKind.wrap .u32 ((h0.getD (z2.toNat) (0:Int))+(ixor .u32 (ixor .u32 (A3W x5 h0) (A3X x5 h0)) (Int.fdiv (h0.getD (z1.toNat) (0:Int)) (2 ^ (3))))))+(h0.getD (z4.toNat) (0:Int))))+(ixor .u32 (ixor .u32 (A3Y x5 h0) (A3Z x5 h0)) (Int.fdiv (h0.getD (z3.toNat) (0:Int)) (2 ^ (10)))))),()))) .fail) .fail) .fail) .fail) .fail) (.done (.exit 2) A6v ((u93),(h0,()))))
abbrev R5:=(Int)×(List Int)
abbrev Q8:=Nat×(List Int)
def U3:Q8:=(99,([]:List Int))
noncomputable def O7 (x5:Int) (h0:List Int):R5 ⊕ Q8:=let z1:=IntKind.wrap .i64 (x5 - (15:Int));let z2:=IntKind.wrap .i64 (x5 - (16:Int));let z3:=IntKind.wrap .i64 (x5 - (2:Int));let z4:=IntKind.wrap .i64 (x5 - (7:Int));(cond (decide (x5<(64:Int))) (cond (decide (0≤z1∧z1<((64:Nat):Int)∧z1<(h0.length:Int))) (cond (decide (0≤z3∧z3<((64:Nat):Int)∧z3<(h0.length:Int))) (cond (decide (0≤z2∧z2<((64:Nat):Int)∧z2<(h0.length:Int))) (cond (decide (0≤z4∧z4<((64:Nat):Int)∧z4<(h0.length:Int))) (cond (decide (0≤x5∧x5<((64:Nat):Int)∧x5<(h0.length:Int))) (.inl (IntKind.wrap .i64 (x5+(1:Int)),h0.set x5.toNat (IntKind.wrap .u32 ((IntKind.wrap .u32 ((IntKind.wrap .u32 ((h0.getD (z2.toNat) (0:Int))+(ixor .u32 (ixor .u32 (A3W x5 h0) (A3X x5 h0)) (Int.fdiv (h0.getD (z1.toNat) (0:Int)) (2 ^ (3))))))+(h0.getD (z4.toNat) (0:Int))))+(ixor .u32 (ixor .u32 (A3Y x5 h0) (A3Z x5 h0)) (Int.fdiv (h0.getD (z3.toNat) (0:Int)) (2 ^ (10)))))))) (.inr U3)) (.inr U3)) (.inr U3)) (.inr U3)) (.inr U3)) (.inr (0,h0)))
noncomputable def O1 (x5:Int) (h0:List Int):Q8:=itX (fun v:R5=>O7 v.1 v.2) U3 (x5,h0)
noncomputable def A39 (a:Q8):CT:=(.br (a.1==0) (.done (.exit 2) A6v ((u93),(a.2,()))) .fail)
noncomputable def B4A (x5:Int) (h0:List Int):CT:=A39 (O1 x5 h0)
noncomputable abbrev A4q:L9.den→RT L9.den:=(fun d=>A80 d.1.2.2.2.2.2.1 d.2.1)
noncomputable abbrev A8F (v:R5):L9.den:=(((),(),(),(),(),v.1,u87),(v.2,()))
theorem B3W:(∀ v:R5,(A80 v.1 v.2).val=relS A8F A39 (O7 v.1 v.2))∧∀ a:Q8,CEnd L9.den (A39 a):=⟨fun v=>by repeat' first | apply relB | rfl,fun a=>(cendB aCD cendF)⟩
noncomputable def A8t (x5:Int) (h0:List Int):Option (Ex×St):=let z1:=IntKind.wrap .i64 (x5 - (15:Int));let z2:=IntKind.wrap .i64 (x5 - (16:Int));let z3:=IntKind.wrap .i64 (x5 - (2:Int));let z4:=IntKind.wrap .i64 (x5 - (7:Int));(cond (decide (x5<(64:Int))) (cond (decide (0≤z1∧z1<((64:Nat):Int)∧z1<(h0.length:Int))) (cond (decide (0≤z3∧z3<((64:Nat):Int)∧z3<(h0.length:Int))) (cond (decide (0≤z2∧z2<((64:Nat):Int)∧z2<(h0.length:Int))) (cond (decide (0≤z4∧z4<((64:Nat):Int)∧z4<(h0.length:Int))) (cond (decide (0≤x5∧x5<((64:Nat):Int)∧x5<(h0.length:Int))) (some (.normal,(⟨(.junk::.junk::.junk::(.ptr 0 0 1 0)::.junk::(ti (IntKind.wrap .i64 (x5+(1:Int))))::C0q),[(.rows 176 true (.int .u32) (h0.set x5.toNat (IntKind.wrap .u32 ((IntKind.wrap .u32 ((IntKind.wrap .u32 ((h0.getD (z2.toNat) (0:Int))+(ixor .u32 (ixor .u32 (A3W x5 h0) (A3X x5 h0)) (Int.fdiv (h0.getD (z1.toNat) (0:Int)) (2 ^ (3))))))+(h0.getD (z4.toNat) (0:Int))))+(ixor .u32 (ixor .u32 (A3Y x5 h0) (A3Z x5 h0)) (Int.fdiv (h0.getD (z3.toNat) (0:Int)) (2 ^ (10))))))))],0,[]⟩:St))) none) none) none) none) none) (some ((.exit 2),(⟨(.junk::.junk::.junk::(.ptr 0 0 1 0)::C1L),[(.rows 176 true (.int .u32) h0)],0,[]⟩:St))))
theorem B2K:RdA G39 aLn 2 A2j L9 0 [] (kepts [] [(2,[3])]) (fun d=>A8t d.1.2.2.2.2.2.1 d.2.1):=by
 intro d
 kernel_rfl
theorem B2U:∀ d:L9.den,(fun d=>A8t d.1.2.2.2.2.2.1 d.2.1) d=(A4q d).opt 0 []:=by
 intro d
 kernel_rfl
noncomputable abbrev A7w:St→Option Tree:=L9.say 0 [] [] (fun d=>B4A d.1.2.2.2.2.2.1 d.2.1)
theorem B3p:aPL A7w A2j:=SS.wp2 hlz [] A4q B2K B2U _ (fun d=>Runs.ofI2 (step:=A4q) A8F B3W rfl (d.1.2.2.2.2.2.1,d.2.1))
noncomputable def A3w (a0:List Int):List Int:=((O1 (16:Int) ((O0 a0 (0:Int) (List.replicate 64 (0:Int))).2)).2)
noncomputable abbrev B2c (r:List Int):AV×List AObj:=((.ptr 0 0 1 0),[(.rows 176 true (.int .u32) r)])
noncomputable abbrev A89:pshsDen A22→AV×List AObj:=fun d=>B2c (A3w d.1)
noncomputable def A0t (a0:List Int):Bool:=let z1:=O0 a0 (0:Int) (List.replicate 64 (0:Int));(z1.1==0)&&((O1 (16:Int) (z1.2)).1==0)
noncomputable abbrev A5G:pshsDen A22→Bool:=fun d=>A0t d.1
noncomputable abbrev B6F:Nat→St→Option Tree:=fun b=>match b with | 0=>A7v | 2=>A7w | _=>fun _=>none
theorem B5s:RunP true G39 (B6F) Try.f170 A22 A5G A89:=by
 rintro ⟨a0,_⟩ hp
 change A0t a0=true at hp
 unfold A0t at hp
 refine Eq.trans (b:=(let z1:=O0 a0 (0:Int) (List.replicate 64 (0:Int));let z2:=O1 (16:Int) (z1.2);cond (z1.1==0) (cond (z2.1==0) (some (B2c (z2.2))) none) none)) (by kernel_rfl) ?_
 exact (cndA hp fun hp=>(cndT hp fun _h=>rfl))
theorem B6U:aPP 170 (sumOf A22 A5G A89):=pcD true G39 (by
  rw [show loopsIn 0 (bodyOf Try.f170)=[(0,A2i),(2,A2j)] by kernel_rfl];intro p hp;simp only [List.mem_cons,List.mem_nil_iff,or_false] at hp
  rcases hp with rfl | rfl
  ·exact B3o
  ·exact B3p) B5s
noncomputable def S40:Tab:=Tab.add S39 170 (lift (sumOf A22 A5G A89))
noncomputable def C1a:FuncId→Bool:=C09
theorem G40:aPG S40 C1a:=G39.add B6U (cbl Try.f170) (by kernel_rfl)

abbrev B98:List Sh:=.junk::.junk::.junk::.junk::B89
abbrev B99:List Sh:=.junk::.junk::.junk::.junk::.junk::.junk::.junk::.junk::.junk::.junk::.junk::.junk::.junk::.junk::.junk::B98
abbrev B9W:=((),(),(),(),(),(),(),(),(),(),(),(),(),(),(),(),(),(),(),(),(),(),(),B5C)
abbrev B94:List AV:=.junk::.junk::.junk::.junk::B86
abbrev B95:List AV:=.junk::.junk::.junk::.junk::.junk::.junk::.junk::.junk::.junk::.junk::.junk::.junk::.junk::.junk::.junk::B94
abbrev C1P:List Sh:=.junk::.junk::.junk::.junk::.junk::.junk::.junk::B99
abbrev u15:=((),(),u13)
abbrev C2j:List AV:=.junk::.junk::.junk::.junk::.junk::.junk::.junk::.junk::.junk::.junk::.junk::.junk::.junk::.junk::[]
abbrev C1D:List AV:=.junk::.junk::.junk::.junk::.junk::.junk::.junk::B95
abbrev A1G:SS:=⟨[.ptr 0 0 1 0,.t false C6,.ptr 1 0 1 0],[.rows 158 true (.int .u32),.rows 176 true (.int .u32)]⟩
noncomputable def A0Y:Code:=((loopsIn 0 (bodyOf Try.f151)).getD 0 (0,.skip)).2
noncomputable def A0Z:Code:=((loopsIn 0 (bodyOf Try.f151)).getD 1 (0,.skip)).2
abbrev F3:SS:=⟨(.ptr 0 0 1 0::.junk::.ptr 1 0 1 0::.junk::.junk::.junk::.ptr 2 0 1 0::.ptr 3 0 1 0::.junk::.junk::.junk::.junk::.junk::.junk::.junk::.junk::.junk::.junk::.junk::.junk::.junk::.junk::tI::B98),[.rows 158 true (.int .u32),.rows 176 true (.int .u32),.rows 176 true (.int .u32),.rows 158 true (.int .u32)]⟩
abbrev A4z:SS:=⟨(.ptr 0 0 1 0::.junk::.junk::.junk::.junk::.junk::.junk::.ptr 2 0 1 0::B99),[.rows 158 true (.int .u32),.rows 176 true (.int .u32),.rows 158 true (.int .u32)]⟩
noncomputable def A6p (x22:Int) (h0 h1 h2 h3:List Int):RT F3.den:=let z1:=h3.getD ((4:Int).toNat) (0:Int);let z2:=decide (0≤(1:Int)∧(1:Int)<((8:Nat):Int)∧(1:Int)<(h3.length:Int));let z3:=decide (0≤(2:Int)∧(2:Int)<((8:Nat):Int)∧(2:Int)<(h3.length:Int));let z4:=h3.getD ((0:Int).toNat) (0:Int);let z5:=decide (0≤(5:Int)∧(5:Int)<((8:Nat):Int)∧(5:Int)<(h3.length:Int));let z6:=decide (0≤(6:Int)∧(6:Int)<((8:Nat):Int)∧(6:Int)<(h3.length:Int));let z7:=A3 z1 (-11:Int);let z8:=A3 z1 (-25:Int);let z9:=A3 z1 (-6:Int);let z10:=h3.getD ((7:Int).toNat) (0:Int);let z11:=h3.getD ((5:Int).toNat) (0:Int);let z12:=h3.getD ((6:Int).toNat) (0:Int);let z13:=h3.getD ((1:Int).toNat) (0:Int);let z14:=h3.getD ((2:Int).toNat) (0:Int);let z15:=h1.getD x22.toNat (0:Int);let z16:=h2.getD x22.toNat (0:Int);(.br (decide (x22<(64:Int))) (.br (decide (0≤(0:Int)∧(0:Int)<((8:Nat):Int)∧(0:Int)<(h3.length:Int))) (.br (decide (0≤(4:Int)∧(4:Int)<((8:Nat):Int)∧(4:Int)<(h3.length:Int))) (.br z5 (.br z6 (.br (decide (0≤(7:Int)∧(7:Int)<((8:Nat):Int)∧(7:Int)<(h3.length:Int))) (.br (decide (0≤x22∧x22<((64:Nat):Int)∧x22<(h1.length:Int))) (.br (decide (0≤x22∧x22<((64:Nat):Int)∧x22<(h2.length:Int))) (.br z2 (.br z3 (.br z2 (.br z3 (.br z2 (.br z3 (.br (decide (0≤(3:Int)∧(3:Int)<((8:Nat):Int)∧(3:Int)<(h3.length:Int))) (.br z5 (.br z6 (.br (decide (h3.length=8)) (.next (((),(),(),(),(),(),(),(),(),(),(),(),(),(),(),(),(),(),(),(),(),(),IntKind.wrap .i64 (x22+(1:Int)),B5C),(h0,h1,h2,[IntKind.wrap .u32 ((IntKind.wrap .u32 ((IntKind.wrap .u32 ((IntKind.wrap .u32 ((IntKind.wrap .u32 ((IntKind.wrap .u32 (z10+(ixor .u32 (ixor .u32 z9 z7) z8)))+(ixor .u32 (iand .u32 z1 z11) (iand .u32 (ixor .u32 (4294967295) z1) z12))))+z15))+z16))+(ixor .u32 (ixor .u32 (A3 z4 (-2:Int)) (A3 z4 (-13:Int))) (A3 z4 (-22:Int)))))+(ixor .u32 (ixor .u32 (iand .u32 z4 z13) (iand .u32 z4 z14)) (iand .u32 z13 z14))),h3.getD ((0:Int).toNat) (0:Int),h3.getD ((1:Int).toNat) (0:Int),h3.getD ((2:Int).toNat) (0:Int),IntKind.wrap .u32 ((h3.getD ((3:Int).toNat) (0:Int))+(IntKind.wrap .u32 ((IntKind.wrap .u32 ((IntKind.wrap .u32 ((IntKind.wrap .u32 (z10+(ixor .u32 (ixor .u32 z9 z7) z8)))+(ixor .u32 (iand .u32 z1 z11) (iand .u32 (ixor .u32 (4294967295) z1) z12))))+z15))+z16))),h3.getD ((4:Int).toNat) (0:Int),h3.getD ((5:Int).toNat) (0:Int),h3.getD ((6:Int).toNat) (0:Int)],()))) .fail) .fail) .fail) .fail) .fail) .fail) .fail) .fail) .fail) .fail) .fail) .fail) .fail) .fail) .fail) .fail) .fail) (.done (.exit 0) A4z ((B9W),(h0,h1,h3,()))))
abbrev K7:=(Int)×(List Int)×(List Int)×(List Int)×(List Int)
abbrev K4:=Nat×(List Int)×(List Int)×(List Int)
def B1:K4:=(99,([]:List Int),([]:List Int),([]:List Int))
noncomputable def I6 (x22:Int) (h0 h1 h2 h3:List Int):K7 ⊕ K4:=let z1:=h3.getD ((4:Int).toNat) (0:Int);let z2:=decide (0≤(1:Int)∧(1:Int)<((8:Nat):Int)∧(1:Int)<(h3.length:Int));let z3:=decide (0≤(2:Int)∧(2:Int)<((8:Nat):Int)∧(2:Int)<(h3.length:Int));let z4:=h3.getD ((0:Int).toNat) (0:Int);let z5:=decide (0≤(5:Int)∧(5:Int)<((8:Nat):Int)∧(5:Int)<(h3.length:Int));let z6:=decide (0≤(6:Int)∧(6:Int)<((8:Nat):Int)∧(6:Int)<(h3.length:Int));let z7:=A3 z1 (-11:Int);let z8:=A3 z1 (-25:Int);let z9:=A3 z1 (-6:Int);let z10:=h3.getD ((7:Int).toNat) (0:Int);let z11:=h3.getD ((5:Int).toNat) (0:Int);let z12:=h3.getD ((6:Int).toNat) (0:Int);let z13:=h3.getD ((1:Int).toNat) (0:Int);let z14:=h3.getD ((2:Int).toNat) (0:Int);let z15:=h1.getD x22.toNat (0:Int);let z16:=h2.getD x22.toNat (0:Int);(cond (decide (x22<(64:Int))) (cond (decide (0≤(0:Int)∧(0:Int)<((8:Nat):Int)∧(0:Int)<(h3.length:Int))) (cond (decide (0≤(4:Int)∧(4:Int)<((8:Nat):Int)∧(4:Int)<(h3.length:Int))) (cond z5 (cond z6 (cond (decide (0≤(7:Int)∧(7:Int)<((8:Nat):Int)∧(7:Int)<(h3.length:Int))) (cond (decide (0≤x22∧x22<((64:Nat):Int)∧x22<(h1.length:Int))) (cond (decide (0≤x22∧x22<((64:Nat):Int)∧x22<(h2.length:Int))) (cond z2 (cond z3 (cond z2 (cond z3 (cond z2 (cond z3 (cond (decide (0≤(3:Int)∧(3:Int)<((8:Nat):Int)∧(3:Int)<(h3.length:Int))) (cond z5 (cond z6 (cond (decide (h3.length=8)) (.inl (IntKind.wrap .i64 (x22+(1:Int)),h0,h1,h2,[IntKind.wrap .u32 ((IntKind.wrap .u32 ((IntKind.wrap .u32 ((IntKind.wrap .u32 ((IntKind.wrap .u32 ((IntKind.wrap .u32 (z10+(ixor .u32 (ixor .u32 z9 z7) z8)))+(ixor .u32 (iand .u32 z1 z11) (iand .u32 (ixor .u32 (4294967295) z1) z12))))+z15))+z16))+(ixor .u32 (ixor .u32 (A3 z4 (-2:Int)) (A3 z4 (-13:Int))) (A3 z4 (-22:Int)))))+(ixor .u32 (ixor .u32 (iand .u32 z4 z13) (iand .u32 z4 z14)) (iand .u32 z13 z14))),h3.getD ((0:Int).toNat) (0:Int),h3.getD ((1:Int).toNat) (0:Int),h3.getD ((2:Int).toNat) (0:Int),IntKind.wrap .u32 ((h3.getD ((3:Int).toNat) (0:Int))+(IntKind.wrap .u32 ((IntKind.wrap .u32 ((IntKind.wrap .u32 ((IntKind.wrap .u32 (z10+(ixor .u32 (ixor .u32 z9 z7) z8)))+(ixor .u32 (iand .u32 z1 z11) (iand .u32 (ixor .u32 (4294967295) z1) z12))))+z15))+z16))),h3.getD ((4:Int).toNat) (0:Int),h3.getD ((5:Int).toNat) (0:Int),h3.getD ((6:Int).toNat) (0:Int)])) (.inr B1)) (.inr B1)) (.inr B1)) (.inr B1)) (.inr B1)) (.inr B1)) (.inr B1)) (.inr B1)) (.inr B1)) (.inr B1)) (.inr B1)) (.inr B1)) (.inr B1)) (.inr B1)) (.inr B1)) (.inr B1)) (.inr B1)) (.inr (0,h0,h1,h3)))
noncomputable def B5 (x22:Int) (h0 h1 h2 h3:List Int):K4:=itX (fun v:K7=>I6 v.1 v.2.1 v.2.2.1 v.2.2.2.1 v.2.2.2.2) B1 (x22,h0,h1,h2,h3)
noncomputable def A2p (a:K4):CT:=(.br (a.1==0) (.done (.exit 0) A4z ((B9W),(a.2.1,a.2.2.1,a.2.2.2,()))) .fail)
noncomputable def B16 (x22:Int) (h0 h1 h2 h3:List Int):CT:=A2p (B5 x22 h0 h1 h2 h3)
noncomputable abbrev A0j {α:Sort _} (f:Int→(List Int)→(List Int)→(List Int)→(List Int)→α) (d:F3.den):α:=f d.1.2.2.2.2.2.2.2.2.2.2.2.2.2.2.2.2.2.2.2.2.2.2.1 d.2.1 d.2.2.1 d.2.2.2.1 d.2.2.2.2.1
noncomputable abbrev A2t:F3.den→RT F3.den:=(A0j A6p)
noncomputable abbrev A6i (v:K7):F3.den:=(((),(),(),(),(),(),(),(),(),(),(),(),(),(),(),(),(),(),(),(),(),(),v.1,B5C),(v.2.1,v.2.2.1,v.2.2.2.1,v.2.2.2.2,()))
theorem B1P:(∀ v:K7,(A6p v.1 v.2.1 v.2.2.1 v.2.2.2.1 v.2.2.2.2).val=relS A6i A2p (I6 v.1 v.2.1 v.2.2.1 v.2.2.2.1 v.2.2.2.2))∧∀ a:K4,CEnd F3.den (A2p a):=⟨fun v=>by repeat' first | apply relB | rfl,fun a=>(cendB aCD cendF)⟩
noncomputable def A6b (x22:Int) (h0 h1 h2 h3:List Int):Option (Ex×St):=let z1:=h3.getD ((4:Int).toNat) (0:Int);let z2:=decide (0≤(1:Int)∧(1:Int)<((8:Nat):Int)∧(1:Int)<(h3.length:Int));let z3:=decide (0≤(2:Int)∧(2:Int)<((8:Nat):Int)∧(2:Int)<(h3.length:Int));let z4:=h3.getD ((0:Int).toNat) (0:Int);let z5:=decide (0≤(5:Int)∧(5:Int)<((8:Nat):Int)∧(5:Int)<(h3.length:Int));let z6:=decide (0≤(6:Int)∧(6:Int)<((8:Nat):Int)∧(6:Int)<(h3.length:Int));let z7:=A3 z1 (-11:Int);let z8:=A3 z1 (-25:Int);let z9:=A3 z1 (-6:Int);let z10:=h3.getD ((7:Int).toNat) (0:Int);let z11:=h3.getD ((5:Int).toNat) (0:Int);let z12:=h3.getD ((6:Int).toNat) (0:Int);let z13:=h3.getD ((1:Int).toNat) (0:Int);let z14:=h3.getD ((2:Int).toNat) (0:Int);let z15:=h1.getD x22.toNat (0:Int);let z16:=h2.getD x22.toNat (0:Int);(cond (decide (x22<(64:Int))) (cond (decide (0≤(0:Int)∧(0:Int)<((8:Nat):Int)∧(0:Int)<(h3.length:Int))) (cond (decide (0≤(4:Int)∧(4:Int)<((8:Nat):Int)∧(4:Int)<(h3.length:Int))) (cond z5 (cond z6 (cond (decide (0≤(7:Int)∧(7:Int)<((8:Nat):Int)∧(7:Int)<(h3.length:Int))) (cond (decide (0≤x22∧x22<((64:Nat):Int)∧x22<(h1.length:Int))) (cond (decide (0≤x22∧x22<((64:Nat):Int)∧x22<(h2.length:Int))) (cond z2 (cond z3 (cond z2 (cond z3 (cond z2 (cond z3 (cond (decide (0≤(3:Int)∧(3:Int)<((8:Nat):Int)∧(3:Int)<(h3.length:Int))) (cond z5 (cond z6 (cond (decide (h3.length=8)) (some (.normal,(⟨((.ptr 0 0 1 0)::.junk::(.ptr 1 0 1 0)::.junk::.junk::.junk::(.ptr 2 0 1 0)::(.ptr 3 0 1 0)::.junk::.junk::.junk::.junk::.junk::.junk::.junk::.junk::.junk::.junk::.junk::.junk::.junk::.junk::(ti (IntKind.wrap .i64 (x22+(1:Int))))::B94),[(.rows 158 true (.int .u32) h0),(.rows 176 true (.int .u32) h1),(.rows 176 true (.int .u32) h2),(.rows 158 true (.int .u32) [IntKind.wrap .u32 ((IntKind.wrap .u32 ((IntKind.wrap .u32 ((IntKind.wrap .u32 ((IntKind.wrap .u32 ((IntKind.wrap .u32 (z10+(ixor .u32 (ixor .u32 z9 z7) z8)))+(ixor .u32 (iand .u32 z1 z11) (iand .u32 (ixor .u32 (4294967295) z1) z12))))+z15))+z16))+(ixor .u32 (ixor .u32 (A3 z4 (-2:Int)) (A3 z4 (-13:Int))) (A3 z4 (-22:Int)))))+(ixor .u32 (ixor .u32 (iand .u32 z4 z13) (iand .u32 z4 z14)) (iand .u32 z13 z14))),h3.getD ((0:Int).toNat) (0:Int),h3.getD ((1:Int).toNat) (0:Int),h3.getD ((2:Int).toNat) (0:Int),IntKind.wrap .u32 ((h3.getD ((3:Int).toNat) (0:Int))+(IntKind.wrap .u32 ((IntKind.wrap .u32 ((IntKind.wrap .u32 ((IntKind.wrap .u32 (z10+(ixor .u32 (ixor .u32 z9 z7) z8)))+(ixor .u32 (iand .u32 z1 z11) (iand .u32 (ixor .u32 (4294967295) z1) z12))))+z15))+z16))),h3.getD ((4:Int).toNat) (0:Int),h3.getD ((5:Int).toNat) (0:Int),h3.getD ((6:Int).toNat) (0:Int)])],2,[]⟩:St))) none) none) none) none) none) none) none) none) none) none) none) none) none) none) none) none) none) (some ((.exit 0),(⟨((.ptr 0 0 1 0)::.junk::.junk::.junk::.junk::.junk::.junk::(.ptr 2 0 1 0)::B95),[(.rows 158 true (.int .u32) h0),(.rows 176 true (.int .u32) h1),(.rows 158 true (.int .u32) h3)],2,[]⟩:St))))
theorem B1b:RdA G40 aLn 0 A0Y F3 2 [] (kepts [] [(0,[0,7])]) (A0j A6b):=by
 intro d
 kernel_rfl
theorem B1e:∀ d:F3.den,(A0j A6b) d=(A2t d).opt 2 []:=by
 intro d
 kernel_rfl
noncomputable abbrev A45:St→Option Tree:=F3.say 2 [] [] (A0j B16)
theorem B1E:aPL A45 A0Y:=SS.wp2 hlz [] A2t B1b B1e _ (fun d=>Runs.ofI2 (step:=A2t) A6i B1P rfl (d.1.2.2.2.2.2.2.2.2.2.2.2.2.2.2.2.2.2.2.2.2.2.2.1,d.2.1,d.2.2.1,d.2.2.2.1,d.2.2.2.2.1))
abbrev F4:SS:=⟨(.ptr 0 0 1 0::.junk::.junk::.junk::.junk::.junk::.junk::.ptr 2 0 1 0::.junk::.junk::.junk::.junk::.junk::.junk::.junk::.junk::.junk::.junk::.junk::.junk::.junk::.junk::.junk::.junk::.junk::.junk::.junk::.junk::.junk::.junk::.junk::.junk::.junk::.junk::.junk::.junk::.junk::.junk::.junk::.junk::.junk::.junk::.junk::.junk::.junk::.junk::.junk::.junk::.junk::.junk::.junk::.junk::.junk::.junk::.junk::.junk::.junk::.junk::.junk::.junk::.junk::.junk::.junk::.junk::.junk::.junk::.junk::.junk::.junk::.junk::.junk::.junk::.junk::.junk::.junk::.junk::.junk::.junk::.junk::.junk::.junk::.junk::.junk::.junk::.junk::.junk::.junk::.junk::.junk::.junk::.junk::.junk::.junk::.junk::.junk::.junk::.junk::.junk::.junk::.junk::.junk::.junk::.junk::.junk::.junk::.junk::.junk::.junk::.junk::tI::B9J),[.rows 158 true (.int .u32),.rows 176 true (.int .u32),.rows 158 true (.int .u32)]⟩
abbrev A4A:SS:=⟨(.junk::C1P),[.rows 158 true (.int .u32),.rows 176 true (.int .u32)]⟩
noncomputable def A6q (x109:Int) (h0 h1 h2:List Int):RT F4.den:=let z1:=decide (0≤x109∧x109<((8:Nat):Int)∧x109<(h0.length:Int));(.br (decide (x109<(8:Int))) (.br z1 (.br (decide (0≤x109∧x109<((8:Nat):Int)∧x109<(h2.length:Int))) (.br z1 (.next (((),(),(),(),(),(),(),(),(),(),(),(),(),(),(),(),(),(),(),(),(),(),(),(),(),(),(),(),(),(),(),(),(),(),(),(),(),(),(),(),(),(),(),(),(),(),(),(),(),(),(),(),(),(),(),(),(),(),(),(),(),(),(),(),(),(),(),(),(),(),(),(),(),(),(),(),(),(),(),(),(),(),(),(),(),(),(),(),(),(),(),(),(),(),(),(),(),(),(),(),(),(),(),(),(),(),(),(),(),IntKind.wrap .i64 (x109+(1:Int)),u15),(h0.set x109.toNat (IntKind.wrap .u32 ((h0.getD x109.toNat (0:Int))+(h2.getD x109.toNat (0:Int)))),h1,h2,()))) .fail) .fail) .fail) (.done (.exit 2) A4A ((B9W),(h0,h1,()))))
abbrev K8:=(Int)×(List Int)×(List Int)×(List Int)
abbrev K5:=Nat×(List Int)×(List Int)
def A0l:K5:=(99,([]:List Int),([]:List Int))
noncomputable def I7 (x109:Int) (h0 h1 h2:List Int):K8 ⊕ K5:=let z1:=decide (0≤x109∧x109<((8:Nat):Int)∧x109<(h0.length:Int));(cond (decide (x109<(8:Int))) (cond z1 (cond (decide (0≤x109∧x109<((8:Nat):Int)∧x109<(h2.length:Int))) (cond z1 (.inl (IntKind.wrap .i64 (x109+(1:Int)),h0.set x109.toNat (IntKind.wrap .u32 ((h0.getD x109.toNat (0:Int))+(h2.getD x109.toNat (0:Int)))),h1,h2)) (.inr A0l)) (.inr A0l)) (.inr A0l)) (.inr (0,h0,h1)))
noncomputable def D7 (x109:Int) (h0 h1 h2:List Int):K5:=itX (fun v:K8=>I7 v.1 v.2.1 v.2.2.1 v.2.2.2) A0l (x109,h0,h1,h2)
noncomputable def A2q (a:K5):CT:=(.br (a.1==0) (.done (.exit 2) A4A ((B9W),(a.2.1,a.2.2,()))) .fail)
noncomputable def B17 (x109:Int) (h0 h1 h2:List Int):CT:=A2q (D7 x109 h0 h1 h2)
noncomputable abbrev A0k {α:Sort _} (f:Int→(List Int)→(List Int)→(List Int)→α) (d:F4.den):α:=f d.1.2.2.2.2.2.2.2.2.2.2.2.2.2.2.2.2.2.2.2.2.2.2.2.2.2.2.2.2.2.2.2.2.2.2.2.2.2.2.2.2.2.2.2.2.2.2.2.2.2.2.2.2.2.2.2.2.2.2.2.2.2.2.2.2.2.2.2.2.2.2.2.2.2.2.2.2.2.2.2.2.2.2.2.2.2.2.2.2.2.2.2.2.2.2.2.2.2.2.2.2.2.2.2.2.2.2.2.2.2.1 d.2.1 d.2.2.1 d.2.2.2.1
noncomputable abbrev A2u:F4.den→RT F4.den:=(A0k A6q)
noncomputable abbrev A6j (v:K8):F4.den:=(((),(),(),(),(),(),(),(),(),(),(),(),(),(),(),(),(),(),(),(),(),(),(),(),(),(),(),(),(),(),(),(),(),(),(),(),(),(),(),(),(),(),(),(),(),(),(),(),(),(),(),(),(),(),(),(),(),(),(),(),(),(),(),(),(),(),(),(),(),(),(),(),(),(),(),(),(),(),(),(),(),(),(),(),(),(),(),(),(),(),(),(),(),(),(),(),(),(),(),(),(),(),(),(),(),(),(),(),(),v.1,u15),(v.2.1,v.2.2.1,v.2.2.2,()))
theorem B1Q:(∀ v:K8,(A6q v.1 v.2.1 v.2.2.1 v.2.2.2).val=relS A6j A2q (I7 v.1 v.2.1 v.2.2.1 v.2.2.2))∧∀ a:K5,CEnd F4.den (A2q a):=⟨fun v=>(relB (relB (relB (relB rfl rfl) rfl) rfl) rfl),fun a=>(cendB aCD cendF)⟩
noncomputable def A6c (x109:Int) (h0 h1 h2:List Int):Option (Ex×St):=let z1:=decide (0≤x109∧x109<((8:Nat):Int)∧x109<(h0.length:Int));(cond (decide (x109<(8:Int))) (cond z1 (cond (decide (0≤x109∧x109<((8:Nat):Int)∧x109<(h2.length:Int))) (cond z1 (some (.normal,(⟨((.ptr 0 0 1 0)::.junk::.junk::.junk::.junk::.junk::.junk::(.ptr 2 0 1 0)::.junk::.junk::.junk::.junk::.junk::.junk::.junk::.junk::.junk::.junk::.junk::.junk::.junk::.junk::.junk::.junk::.junk::.junk::.junk::.junk::.junk::.junk::.junk::.junk::.junk::.junk::.junk::.junk::.junk::.junk::.junk::.junk::.junk::.junk::.junk::.junk::.junk::.junk::.junk::.junk::.junk::.junk::.junk::.junk::.junk::.junk::.junk::.junk::.junk::.junk::.junk::.junk::.junk::.junk::.junk::.junk::.junk::.junk::.junk::.junk::.junk::.junk::.junk::.junk::.junk::.junk::.junk::.junk::.junk::.junk::.junk::.junk::.junk::.junk::.junk::.junk::.junk::.junk::.junk::.junk::.junk::.junk::.junk::.junk::.junk::.junk::.junk::.junk::.junk::.junk::.junk::.junk::.junk::.junk::.junk::.junk::.junk::.junk::.junk::.junk::.junk::(ti (IntKind.wrap .i64 (x109+(1:Int))))::C2j),[(.rows 158 true (.int .u32) (h0.set x109.toNat (IntKind.wrap .u32 ((h0.getD x109.toNat (0:Int))+(h2.getD x109.toNat (0:Int)))))),(.rows 176 true (.int .u32) h1),(.rows 158 true (.int .u32) h2)],2,[]⟩:St))) none) none) none) (some ((.exit 2),(⟨(.junk::C1D),[(.rows 158 true (.int .u32) h0),(.rows 176 true (.int .u32) h1)],2,[]⟩:St))))
theorem B1c:RdA G40 aLn 2 A0Z F4 2 [] (kepts [] [(2,[])]) (A0k A6c):=by
 intro d
 kernel_rfl
theorem B1f:∀ d:F4.den,(A0k A6c) d=(A2u d).opt 2 []:=by
 intro d
 kernel_rfl
noncomputable abbrev A46:St→Option Tree:=F4.say 2 [] [] (A0k B17)
theorem B1F:aPL A46 A0Z:=SS.wp2 hlz [] A2u B1c B1f _ (fun d=>Runs.ofI2 (step:=A2u) A6j B1Q rfl (d.1.2.2.2.2.2.2.2.2.2.2.2.2.2.2.2.2.2.2.2.2.2.2.2.2.2.2.2.2.2.2.2.2.2.2.2.2.2.2.2.2.2.2.2.2.2.2.2.2.2.2.2.2.2.2.2.2.2.2.2.2.2.2.2.2.2.2.2.2.2.2.2.2.2.2.2.2.2.2.2.2.2.2.2.2.2.2.2.2.2.2.2.2.2.2.2.2.2.2.2.2.2.2.2.2.2.2.2.2.2.1,d.2.1,d.2.2.1,d.2.2.2.1))
noncomputable def C0 (x1 h0 h1:List Int):=B5 (0:Int) h0 h1 (A3w x1) [h0.getD 0 0,h0.getD 1 0,h0.getD 2 0,h0.getD 3 0,h0.getD 4 0,h0.getD 5 0,h0.getD 6 0,h0.getD 7 0]
noncomputable def A1P (x1 h0 h1:List Int):=let z1:=C0 x1 h0 h1;D7 (0:Int) (z1.2.1) (z1.2.2.1) (z1.2.2.2)
noncomputable def D6 (x1 h0 h1:List Int):(List Int)×List Int:=let z1:=A1P x1 h0 h1;((z1.2.1),(z1.2.2))
noncomputable abbrev A9I (r:(List Int)×List Int):AV×List AObj×List Nat:=((.tup []),[(.rows 158 true (.int .u32) r.1),(.rows 176 true (.int .u32) r.2)],[])
noncomputable abbrev A9P:A1G.den→AV×List AObj×List Nat:=fun d=>A9I (D6 d.1.2.1 d.2.1 d.2.2.1)
noncomputable def Y8 (x1 h0 h1:List Int):Bool:=(A0t x1)&&((decide (h0.length=8))&&((decide ([(0:Int),(0:Int),(0:Int),(0:Int),(0:Int),(0:Int),(0:Int),(0:Int)].length=8))&&(((C0 x1 h0 h1).1==0)&&((A1P x1 h0 h1).1==0))))
noncomputable abbrev A7d:A1G.den→Bool:=fun d=>Y8 d.1.2.1 d.2.1 d.2.2.1
noncomputable abbrev B4s:Nat→St→Option Tree:=fun b=>match b with | 0=>A45 | 2=>A46 | _=>fun _=>none
theorem B26:RunM G40 (B4s) Try.f151 A1G A7d A9P:=by
 rintro ⟨⟨_,x1,_,_⟩,⟨h0,h1,_⟩⟩ hp
 change Y8 x1 h0 h1=true at hp
 unfold Y8 at hp
 refine Eq.trans (b:=(let z1:=A1P x1 h0 h1;cond (A0t x1) (cond (decide (h0.length=8)) (cond (decide ([(0:Int),(0:Int),(0:Int),(0:Int),(0:Int),(0:Int),(0:Int),(0:Int)].length=8)) (cond ((C0 x1 h0 h1).1==0) (cond (z1.1==0) (some (A9I ((z1.2.1),(z1.2.2)))) none) none) none) none) none)) (by kernel_rfl) ?_
 exact (cndA hp fun hp=>(cndA hp fun hp=>(cndA hp fun hp=>(cndA hp fun hp=>(cndT hp fun _h=>rfl)))))
noncomputable abbrev A9S:=win winIds (msum A1G A7d A9P)
theorem B4H:aPM 151 A9S:=(mcM G40 (by
  rw [show loopsIn 0 (bodyOf Try.f151)=[(0,A0Y),(2,A0Z)] by kernel_rfl];intro p hp;simp only [List.mem_cons,List.mem_nil_iff,or_false] at hp
  rcases hp with rfl | rfl
  ·exact B1E
  ·exact B1F) B26).win winIds
noncomputable def S41:Tab:=Tab.add S40 151 (A9S)
noncomputable def B4u:FuncId→Bool:=C1a
theorem G41:aPG S41 B4u:=G40.addM B4H (win_local _) (cbl Try.f151) (by kernel_rfl)

theorem P9 (n:Int) (h1:0≤n) (h2:n<9223372036854775808):IntKind.wrap .i64 n=n:=wrap64 (by omega) h2
theorem B8v (c l:List Int) (hc:c.length=64) (hl:l.length=64):(O0 c 0 l).1=0∧(O0 c 0 l).2.length=64:=by
 refine itX_inv (v:=(c,(0:Int),l)) (fun v:R4=>v.1=c∧(0≤v.2.1∧v.2.1≤16)∧v.2.2.length=64) (fun a:Q7=>a.1=0∧a.2.length=64) (fun v:R4=>(16 - v.2.1).toNat) ?_ ⟨rfl,⟨by simp only;omega,by simp only;omega⟩,hl⟩ (by simp only;decide)
 rintro ⟨c', i,m⟩ ⟨h1,h2,h3⟩
 simp only at h1 h2 h3
 subst h1
 by_cases hi:i<16
 ·obtain ⟨m', e, hm⟩ : ∃ m' : List Int, O6 c' i m = .inl (c', i + 1, m') ∧ m'.length = 64 := by
   apply Exists.intro
   constructor
   ·simp only [O6,P9 (4*i) (by omega) (by omega),P9 (4*i+1) (by omega) (by omega),P9 (4*i+2) (by omega) (by omega),P9 (4*i+3) (by omega) (by omega),P9 (i+1) (by omega) (by omega),decide_eq_true hi,cond_true]
    rw [decide_eq_true (by omega),decide_eq_true (by omega),decide_eq_true (by omega),decide_eq_true (by omega),decide_eq_true (by omega)]
    rfl
   ·simp only [List.length_set];exact h3
  exact .inl ⟨(c', i+1,m'),e,⟨rfl,by simp only;omega,hm⟩,by simp only;omega⟩
 ·refine .inr ⟨(0,m),?_,rfl,h3⟩
  simp only [O6,decide_eq_false hi,cond_false]
theorem B8w (l:List Int) (hl:l.length=64):(O1 16 l).1=0∧(O1 16 l).2.length=64:=by
 refine itX_inv (v:=((16:Int),l)) (fun v:R5=>(16≤v.1∧v.1≤64)∧v.2.length=64) (fun a:Q8=>a.1=0∧a.2.length=64) (fun v:R5=>(64 - v.1).toNat) ?_ ⟨⟨by simp only;omega,by simp only;omega⟩,hl⟩ (by simp only;decide)
 rintro ⟨i,m⟩ ⟨h2,h3⟩
 simp only at h2 h3
 by_cases hi:i<64
 ·obtain ⟨m', e, hm⟩ : ∃ m' : List Int, O7 i m = .inl (i + 1, m') ∧ m'.length = 64 := by
   apply Exists.intro
   constructor
   ·simp only [O7,P9 (i - 15) (by omega) (by omega),P9 (i - 2) (by omega) (by omega),P9 (i - 16) (by omega) (by omega),P9 (i - 7) (by omega) (by omega),P9 (i+1) (by omega) (by omega),decide_eq_true hi,cond_true]
    rw [decide_eq_true (by omega),decide_eq_true (by omega),decide_eq_true (by omega),decide_eq_true (by omega),decide_eq_true (by omega)]
    rfl
   ·simp only [List.length_set];exact h3
  exact .inl ⟨(i+1,m'),e,⟨by simp only;omega,hm⟩,by simp only;omega⟩
 ·refine .inr ⟨(0,m),?_,rfl,h3⟩
  simp only [O7,decide_eq_false hi,cond_false]
theorem B9r (c:List Int) (hc:c.length=64):A0t c=true∧(A3w c).length=64:=by
 obtain ⟨a1,a2⟩:=B8v c (List.replicate 64 0) hc (by simp)
 obtain ⟨b1,b2⟩:=B8w _ a2
 exact ⟨by simp only [A0t,a1,b1];rfl,b2⟩
theorem B6C (h k ws v:List Int) (hk:k.length=64) (hw:ws.length=64) (hv:v.length=8):(B5 0 h k ws v).1=0∧(B5 0 h k ws v).2.1=h∧(B5 0 h k ws v).2.2.1=k∧(B5 0 h k ws v).2.2.2.length=8:=by
 refine itX_inv (v:=((0:Int),h,k,ws,v)) (fun x:K7=>(0≤x.1∧x.1≤64)∧x.2.1=h∧x.2.2.1=k∧x.2.2.2.1=ws∧x.2.2.2.2.length=8) (fun a:K4=>a.1=0∧a.2.1=h∧a.2.2.1=k∧a.2.2.2.length=8) (fun x:K7=>(64 - x.1).toNat) ?_ ⟨⟨by simp only;omega,by simp only;omega⟩,rfl,rfl,rfl,hv⟩ (by simp only;decide)
 rintro ⟨i,h', k', ws', v'⟩ ⟨h2,h3,h4,h5,h6⟩
 simp only at h2 h3 h4 h5 h6
 subst h3;subst h4;subst h5
 by_cases hi:i<64
 ·obtain ⟨m', e, hm⟩ : ∃ m' : List Int, I6 i h' k' ws' v' = .inl (i + 1, h', k', ws', m') ∧ m'.length = 8 := by
   apply Exists.intro
   constructor
   ·simp only [I6,P9 (i+1) (by omega) (by omega),decide_eq_true hi,cond_true,h6,hk,hw]
    rw [show decide (0≤i∧i<((64:Nat):Int)∧i<((64:Nat):Int))=true from decide_eq_true (by omega)]
    rfl
   ·rfl
  exact .inl ⟨(i+1,h', k', ws', m'),e,⟨by simp only;omega,rfl,rfl,rfl,hm⟩,by simp only;omega⟩
 ·refine .inr ⟨(0,h', k', v'),?_,rfl,rfl,rfl,h6⟩
  simp only [I6,decide_eq_false hi,cond_false]
theorem B9p (h k v:List Int) (hh:h.length=8) (hv:v.length=8):(D7 0 h k v).1=0∧(D7 0 h k v).2.1.length=8∧(D7 0 h k v).2.2=k:=by
 refine itX_inv (v:=((0:Int),h,k,v)) (fun x:K8=>(0≤x.1∧x.1≤8)∧x.2.1.length=8∧x.2.2.1=k∧x.2.2.2.length=8) (fun a:K5=>a.1=0∧a.2.1.length=8∧a.2.2=k) (fun x:K8=>(8 - x.1).toNat) ?_ ⟨⟨by simp only;omega,by simp only;omega⟩,hh,rfl,hv⟩ (by simp only;decide)
 rintro ⟨i,h', k', v'⟩ ⟨h2,h3,h4,h6⟩
 simp only at h2 h3 h4 h6
 subst h4
 by_cases hi:i<8
 ·obtain ⟨m', e, hm⟩ : ∃ m' : List Int, I7 i h' k' v' = .inl (i + 1, m', k', v') ∧ m'.length = 8 := by
   apply Exists.intro
   constructor
   ·simp only [I7,P9 (i+1) (by omega) (by omega),decide_eq_true hi,cond_true,h6,h3]
    rw [show decide (0≤i∧i<((8:Nat):Int)∧i<((8:Nat):Int))=true from decide_eq_true (by omega)]
    rfl
   ·simp only [List.length_set];exact h3
  exact .inl ⟨(i+1,m', k', v'),e,⟨by simp only;omega,hm,rfl,h6⟩,by simp only;omega⟩
 ·refine .inr ⟨(0,h', k'),?_,rfl,h3,rfl⟩
  simp only [I7,decide_eq_false hi,cond_false]
theorem B13 (c h:List Int) (hc:c.length=64) (hh:h.length=8):Y8 c h irounds=true∧(D6 c h irounds).1.length=8∧(D6 c h irounds).2=irounds:=by
 obtain ⟨q,hw⟩:=B9r c hc
 obtain ⟨a1,a2,a3,a4⟩:=B6C h irounds (A3w c) [h.getD 0 0,h.getD 1 0,h.getD 2 0,h.getD 3 0,h.getD 4 0,h.getD 5 0,h.getD 6 0,h.getD 7 0] rfl hw rfl
 have e:C0 c h irounds=B5 0 h irounds (A3w c) [h.getD 0 0,h.getD 1 0,h.getD 2 0,h.getD 3 0,h.getD 4 0,h.getD 5 0,h.getD 6 0,h.getD 7 0]:=rfl
 rw [← e] at a1 a2 a3 a4
 obtain ⟨b1,b2,b3⟩:=B9p (C0 c h irounds).2.1 (C0 c h irounds).2.2.1 (C0 c h irounds).2.2.2 (by rw [a2];exact hh) a4
 refine ⟨?_,b2,b3.trans a3⟩
 have e2:(A1P c h irounds).1=0:=b1
 simp only [Y8,q,a1,e2,decide_eq_true hh,Bool.true_and,beq_self_eq_true,Bool.and_true]
 rfl
attribute [local go_sem] Oper.semAt_some
noncomputable def cupto {m:Nat} (k:Nat) (hk:k≤m):List (Fin m):=(List.range k).attach.map fun i=>⟨i.1,by have:=List.mem_range.1 i.2;omega⟩
theorem A01 {m:Nat} (k:Nat) (hk:k≤m):(cupto k hk).length=k:=by simp [cupto]
theorem B62 {m:Nat} (k:Nat) (hk:k+1≤m):cupto (k+1) hk=cupto k (by omega)++[(⟨k,by omega⟩:Fin m)]:=by
 apply List.ext_getElem
 ·simp [A01]
 ·intro i h1 h2
  simp only [A01] at h1
  rcases Nat.lt_or_ge i k with h | h
  ·rw [List.getElem_append_left (by rw [A01];exact h)];simp [cupto]
  ·have e:i=k:=by omega
   subst e
   rw [List.getElem_append_right (by rw [A01];omega)];simp [cupto]
set_option maxRecDepth 100000 in
set_option maxHeartbeats 2000000 in
theorem B8L (F:Fence) (n:Nat) (h168:F.fn 168) (hro:F.round=none) (hn:1≤n) (l Bs Bn m cap:Nat) (ad:Addr) (hcap:64*m≤cap) (hm:m≤1000000000000) (J Jx:List (Fin m)→World→Prop)
  (hY:∀ pre x W,J pre W→pre.length<m→YieldAt F (n - 1) Try.prog l #[.slice (some (ad.add (64*x.1))) 64 64] W fun e W' =>
   (e=.returned (.bool true)∧J (pre++[x]) W'∧(W'.cell? ⟨Bs,0,none⟩=W.cell? ⟨Bs,0,none⟩∧W'.cell? ⟨Bn,0,none⟩=W.cell? ⟨Bn,0,none⟩))∨(e=.returned (.bool false)∧Jx (pre++[x]) W'))
  (W:World) (hJ:AbidesFrom W.heap.size J) (hBs:W.cell? ⟨Bs,0,none⟩=some (.slice (some ad) (64*m) cap)) (hBn:W.cell? ⟨Bn,0,none⟩=some (.int .i64 64)) (h0:J [] W) :
  CallsIn F n Try.prog 168 #[.func (.yield l) #[] #[],.pointer (some ⟨Bs,0,none⟩),.pointer (some ⟨Bn,0,none⟩)] W fun e W'=>(∃ v,e=.returned v) ∧
   ((∃ xs,xs=cupto (m:=m) m (Nat.le_refl _)∧J xs W')∨(∃ pre,True∧Jx pre W')):=by
 refine callsIn_of_wp Try.func168 rfl h168 ?_ hro
 simp only [Try.ntmps168,List.size_toArray,List.length_cons,List.length_nil,Nat.reduceAdd,Nat.reduceSub,Array.replicate_succ,Array.replicate_zero,List.push_toArray,List.append_toArray,List.nil_append,List.cons_append]
 gi_wp2
 gi_loopw [4] (fun i wr=>∃ k:Nat,∃ hk:k≤m,i=.int .i64 ((64*k:Nat):Int)∧J (cupto k hk) wr∧wr.cell? ⟨Bs,0,none⟩=some (.slice (some ad) (64*m) cap)∧wr.cell? ⟨Bn,0,none⟩=some (.int .i64 64))
  (fun i _=>64*m - (intOf i).toNat)
 case atStart=>exact ⟨0,Nat.zero_le _,rfl,h0,hBs,hBn⟩
 case round =>
  obtain ⟨k,hk,rfl,hJs,hs,hnn⟩:=hrel
  by_cases hlt:k<m
  ·have hc1:((64*k:Nat):Int)<((64*m:Nat):Int):=by omega
   have hc2:(0:Int)≤((64*k:Nat):Int):=by omega
   gi_wp2
   have hc3:((64*k:Nat):Int)≤((64*m:Nat):Int):=by omega
   have hc4:64*k≤64*m:=by omega
   have hc5:¬ cap=64*k:=by omega
   have hmin:¬ ((64*m - 64*k:Nat):Int)<64:=by omega
   have hJ2:J (cupto k hk) wr.drew:=hJ _ _ _ none hJs ⟨rfl,rfl,rfl,Nat.le_refl _,fun _ _ _=>rfl⟩ (fun r e=>by cases e)
   obtain ⟨fn,tmps,assign,body,hy,hR⟩:=hY _ ⟨k,hlt⟩ wr.drew hJ2 (by rw [A01];exact hlt)
   dsimp only at hy
   have e1:IntKind.wrap .i64 (64*(k:Int)+64)=64*(k:Int)+64:=by rw [wrap64 (by omega) (by omega)]
   have e2:(0:Int)≤64*(k:Int)+64:=by omega
   have e3:64*(k:Int)+64≤(cap:Int):=by omega
   gi_region
   all_goals (rw [if_neg (show ¬ ((64*m - 64*k:Nat):Int)<64 by omega)])
   all_goals (gi_wp2)
   all_goals (
    refine hR.mono ?_
    rintro e W3 (⟨rfl,hJ3,hk1,hk2⟩ | ⟨rfl,hJx3⟩)
    ·gi_wp2
     go_roundw
     case rel=>exact ⟨k+1,by omega,by congr 1,by rw [B62];exact hJ3,hk1.trans hs,hk2.trans hnn⟩
     case measure=>simp [intOf];omega
    ·gi_wp2
     refine bodyPost_ret (results_none rfl _ _ _) rfl ?_
     exact ⟨⟨_,rfl⟩,.inr ⟨_,trivial,hJx3⟩⟩)
  ·obtain rfl:k=m:=by omega
   gi_wp2
   go_end0
   exact ⟨⟨_,rfl⟩,.inl ⟨_,rfl,hJs⟩⟩
theorem B52 (n:Nat) (hn:1≤n) (Bs Bn m cap:Nat) (ad:Addr) (hcap:64*m≤cap) (hm:m≤1000000000000) (w:World) (hBs:w.cell? ⟨Bs,0,none⟩=some (.slice (some ad) (64*m) cap)) (hBn:w.cell? ⟨Bn,0,none⟩=some (.int .i64 64)) (hs:Bs<w.heap.size) (hnn:Bn<w.heap.size) :
  SeqStopsK Fence.wide n Try.prog 168 #[.pointer (some ⟨Bs,0,none⟩),.pointer (some ⟨Bn,0,none⟩)] (fun x:Fin m=>#[Value.slice (some (ad.add (64*x.1))) 64 64]) (fun A B=>B.cell? ⟨Bs,0,none⟩=A.cell? ⟨Bs,0,none⟩∧B.cell? ⟨Bn,0,none⟩=A.cell? ⟨Bn,0,none⟩) (fun xs=>xs=cupto m (Nat.le_refl _)) (fun _=>True) m w :=
 fun l J Jx W hW hJ _ hY h0=>B8L Fence.wide n trivial rfl hn l Bs Bn m cap ad hcap hm J Jx hY W hJ ((hW.cell (p:=⟨Bs,0,none⟩) hs).trans hBs) ((hW.cell (p:=⟨Bn,0,none⟩) hnn).trans hBn) h0

noncomputable def sqL:Code→Code
 | .seq x _=>x
 | c=>c
noncomputable def sqR:Code→Code
 | .seq _ y=>y
 | c=>c
noncomputable def C1u:Code→Code
 | .block _ x=>x
 | c=>c
noncomputable def rfA:Code→Code
 | .rangeFunc _ _ a _=>a
 | c=>c
noncomputable def rfB:Code→Code
 | .rangeFunc _ _ _ b=>b
 | c=>c
noncomputable def B9f:Code→Array Oper
 | .region _ o _=>o
 | _=>#[]
noncomputable def dc0:Code:=sqL (bodyOf Try.f115)
noncomputable def dc1:Code:=sqL (sqR (bodyOf Try.f115))
noncomputable def dc2:Code:=sqL (sqR (sqR (bodyOf Try.f115)))
noncomputable def B55:Array Oper:=B9f (sqL (sqL (sqR (sqR (sqR (bodyOf Try.f115))))))
noncomputable def drng:Code:=C1u (sqR (sqL (sqR (sqR (sqR (bodyOf Try.f115))))))
noncomputable def dc4:Code:=sqR (sqR (sqR (sqR (bodyOf Try.f115))))
noncomputable def dasg:Array Oper:=B9f (rfA drng)
noncomputable def drb:Array Oper:=B9f (C1u (rfB drng))
theorem B8P:Try.f115.body=some (.seq dc0 (.seq dc1 (.seq dc2 (.seq (.seq (.region 3 B55 false) (.block 0 (.rangeFunc (.tmp 13) #[14] (.region 4 dasg false) (.block 1 (.region 5 drb false))))) dc4)))):=by kernel_rfl

noncomputable def B8Z:Summ:=fun args H=>(runM Try.prog tt S41 B4u aLn Try.f149 args H).map fun p=>(p.1,p.2.1,p.2.2,true)
theorem B8e:aPM 149 B8Z:=MContract.of_run G41 (fn:=Try.f149) (by kernel_rfl) (L:=fun _ _=>none) (hl0 (L:=fun _ _=>none) (b:=0) (x:=bodyOf Try.f149) (by kernel_rfl)) (fun args H r H' ks h=>by
 obtain ⟨p,h1,h2⟩:=Option.map_eq_some_iff.1 h
 simp only [Prod.mk.injEq] at h2
 obtain ⟨rfl,rfl,rfl,_⟩:=h2
 exact h1)
noncomputable def SC:Tab:=Tab.add S41 149 B8Z
theorem C1q:TabOk Try.prog SC:=G41.tab.add B8e (cbl Try.f149)

noncomputable def hinit:List Int:=[1779033703,3144134277,1013904242,2773480762,1359893119,2600822924,528734635,1541459225]
noncomputable def tB (E:TypeId) (fr:Bool) (l:List Int):AObj:=.rows E fr (.int .u32) l
noncomputable def stR (a0:List Int):St:=⟨[.t false C6 a0,.raw undef,.t true .str ⟨#[]⟩,.ptr 0 0 1 0,.ptr 2 0 1 0,.raw undef,.raw undef,.raw undef,.raw undef,.agg (arrAVs .u32 hinit 8),.ptr 1 0 1 0,.t false C6 a0,.t true C6 (M9 a0),.fn 168 [.ptr 3 0 1 0,.ptr 4 0 1 0]]++List.replicate 25 (.raw undef),
 [tB 158 true hinit,tB 176 true irounds,.box [.ptr 1 0 1 0],.box [.t true C6 (M9 a0)],.box [(ti (64:Int):AV)]],0,[]⟩
noncomputable def dK3 (e:Ex) (s:St):Option (Ex×St):=match e with
 | .normal=>execOps Try.prog tt SC B55 B55.toList s fun s=>some (Ex.normal,s)
 | _=>none
noncomputable def dK2 (e:Ex) (s:St):Option (Ex×St):=match e with
 | .normal=>execC Try.prog tt S41 B4u aLn 0 dc2 s dK3
 | _=>none
noncomputable def dK1 (e:Ex) (s:St):Option (Ex×St):=match e with
 | .normal=>execC Try.prog tt S41 B4u aLn 0 dc1 s dK2
 | _=>none
theorem B9A (a0:List Int):execC Try.prog tt S41 B4u aLn 0 dc0 ⟨startSlots Try.f115 [.t false C6 a0],[],0,[]⟩ dK1=cond (Y7 a0) (some (.normal,stR a0)) none:=by kernel_rfl

noncomputable def stB (c h k:List Int):St:=⟨[.junk,.junk,.junk,.ptr 0 0 1 0,.ptr 2 0 1 0,.t false C6 c]++List.replicate 33 .junk,[tB 158 true h,tB 176 true k,.box [.ptr 1 0 1 0]],3,[]⟩
noncomputable def C2d (c h k:List Int):St:=⟨[.junk,.junk,.junk,.ptr 0 0 1 0,.ptr 2 0 1 0,.t false C6 c]++List.replicate 9 .junk++[.t false C6 c,.ptr 1 0 1 0,.tup []]++List.replicate 21 .junk,[tB 158 true (D6 c h k).1,tB 176 true (D6 c h k).2,.box [.ptr 1 0 1 0]],3,[]⟩
theorem B78 (c h k:List Int):execOps Try.prog tt S41 drb drb.toList (stB c h k) (fun s=>some s)=cond (Y8 c h k) (some (C2d c h k)) none:=by kernel_rfl

noncomputable def E6 (h:List Int):List Int:=h.flatMap fun x=>[IntKind.wrap .u8 (Int.fdiv x (2 ^ (24))),IntKind.wrap .u8 (Int.fdiv x (2 ^ (16))),IntKind.wrap .u8 (Int.fdiv x (2 ^ (8))),IntKind.wrap .u8 x]
noncomputable def A86 (h:List Int):ByteArray:=⟨((E6 h).map fun n=>UInt8.ofNat n.toNat).toArray⟩
noncomputable def B8M:Code:=match loopsIn 0 dc4 with
 | p::_=>p.2
 | _=>.skip
noncomputable def dL:Nat→St→Option Tree:=fun b=>match b with
 | 2=>fun st=>(iterD (fun s=>execC Try.prog tt S41 B4u aLn 2 B8M s (fun e s'=>some (e,s'))) (fun s=>s) 9 st).map fun p=>.leaf p.1 p.2
 | _=>fun _=>none
theorem C1w:∀ p∈loopsIn 0 dc4,aPL (dL p.1) p.2:=hl1 (i:=2) (c:=B8M) (by kernel_rfl) (LoopWp.iter G41 aLn (hl0 (L:=fun _ _=>none) (b:=2) (x:=B8M) (by kernel_rfl)) 9)
noncomputable def stT (h:List Int):St:=⟨[.junk,.junk,.junk,.ptr 0 0 1 0]++List.replicate 35 .junk,[tB 158 true h],1,[]⟩
noncomputable def dKT (e:Ex) (s:St):Option ByteArray:=match e with
 | .ret=>match s.slots with
  | _::_::.t true .str x::_=>some x
  | _=>none
 | _=>none
theorem B8R (x0 x1 x2 x3 x4 x5 x6 x7:Int):execC Try.prog tt S41 B4u dL 0 dc4 (stT [x0,x1,x2,x3,x4,x5,x6,x7]) dKT=some (A86 [x0,x1,x2,x3,x4,x5,x6,x7]):=by kernel_rfl
noncomputable def arrAt (W:World) (b:Nat) (E:TypeId) (l:List Int):Prop:=∃ c:Array Value,W.heap[b]? = some (.cells c E (0,0))∧l.length≤c.size∧0<c.size∧c.size≤maxLen∧∀ (i:Nat) (x:Int),l[i]? = some x→c[i]? = some (.int .u32 x)
theorem arrAt.lt {W:World} {b:Nat} {E:TypeId} {l:List Int} (h:arrAt W b E l):b<W.heap.size:=by
 obtain ⟨c,h1,_⟩:=h
 exact (Array.getElem?_eq_some_iff.1 h1).1
theorem arrAt.keep {W W':World} {b:Nat} {E:TypeId} {l:List Int} (h:arrAt W b E l) (hw:W'.heap[b]? = W.heap[b]?):arrAt W' b E l:=by
 obtain ⟨c,h1,h2⟩:=h
 exact ⟨c,hw.trans h1,h2⟩
theorem arrAt.of {N:Nat→Prop} {w0 W:World} {η:Env} {H:List AObj} (I:Inv N w0 η H W) {id:Nat} {E:TypeId} {fr:Bool} {l:List Int} (ho:H[id]? = some (.rows E fr (.int .u32) l)) (h0:0<l.length):arrAt W (η.ι id) E l:=by
 obtain ⟨hln,R⟩:=I.obj id _ ho
 rcases R with ⟨_,h⟩ | ⟨c,cap,g1,g2,g3,g4,g5,g6⟩
 ·rw [show l=[] from h] at h0;simp at h0
 ·have e:c.size=cap:=by simpa [Ty.cells] using g5
  refine ⟨c,g2,by omega,by omega,by omega,fun i x hx=>?_⟩
  have:=g6 i x hx
  simpa [Lay,Ty.cells] using this
theorem arrAt.obj {W:World} {b:Nat} {E:TypeId} {l:List Int} (h:arrAt W b E l):∃ cap:Nat,∀ (η:Env) (hh id:Nat),η.ι id=b→η.hv id=.slice (some ⟨b,0,none⟩) l.length cap→η.ln id=l.length→ObjR η hh W id (.rows E true (.int .u32) l):=by
 obtain ⟨c,h1,h2,h3,h4,h5⟩:=h
 refine ⟨c.size,fun η hh id e1 e2 e3=>⟨e3,.inr ⟨c,c.size,by rw [e1];exact e2,by rw [e1];exact h1,h2,⟨h3,h4⟩,by simp [Ty.cells],fun i x hx=>?_⟩⟩⟩
 show c[i*1+0]? = some (.int .u32 x)
 rw [Nat.mul_one];exact h5 i x hx
structure DI (w w1:World) (bh bk bx:Nat) (h:List Int) (W:World):Prop where
 fr:Fr (·<w.heap.size) w W
 sz:w1.heap.size≤W.heap.size
 old:∀ b c E f,b ≠ bh→b ≠ bk→b ≠ bx→w1.heap[b]? = some (.cells c E f)→W.heap[b]? = some (.cells c E f)
 ah:arrAt W bh 158 h
 ak:arrAt W bk 176 irounds
 px:∃ (c:Array Value) (E:TypeId),W.heap[bx]? = some (.cells c E (0,0))∧c.size=1∧c.getD 0 undef=.pointer (some ⟨bk,0,none⟩)

noncomputable def NB (W:World) (bh bk bx:Nat):Nat→Prop:=fun b=>b<W.heap.size∧b ≠ bh∧b ≠ bk∧b ≠ bx
theorem DI.inv {w w1 W:World} {bh bk bx:Nat} {h:List Int} (D:DI w w1 bh bk bx h W) (h8:h.length=8) (d1:bh ≠ bk) (d2:bh ≠ bx) (d3:bk ≠ bx) {bd:Nat} (z1:bd<W.heap.size) (z2:bd ≠ bh) (z3:bd ≠ bk) (z4:bd ≠ bx) :
  ∃ η:Env,η.ι 0=bh∧η.ι 1=bk∧η.ι 2=bx∧(∀ f b,η.Z f b↔f=false∧b=bd)∧η.ln 0=8∧η.ln 1=64∧η.ln 2=1∧Inv (NB W bh bk bx) W η [tB 158 true h,tB 176 true irounds,.box [.ptr 1 0 1 0]] W:=by
 obtain ⟨c1,o1⟩:=D.ah.obj
 obtain ⟨c2,o2⟩:=D.ak.obj
 obtain ⟨cx,Ex,x1,x2,x3⟩:=D.px
 refine ⟨{ ι:=fun i=>if i=0 then bh else if i=1 then bk else bx,hv:=fun i=>if i=0 then .slice (some ⟨bh,0,none⟩) h.length c1 else if i=1 then .slice (some ⟨bk,0,none⟩) irounds.length c2 else nilV,ln:=fun i=>if i=0 then 8 else if i=1 then 64 else 1,Z:=fun f b=>f=false∧b=bd,nv:=fun _ _ _=>nilV,O:=fun _=>none },rfl,rfl,rfl,fun f b=>Iff.rfl,rfl,rfl,rfl,?_⟩
 refine ⟨fun k hk=>hk.1,⟨rfl,rfl,rfl,Nat.le_refl _,fun _ _=>rfl⟩,fun f b hb=>by rw [hb.2];exact z1,fun b hb=>(by cases hb.1),fun b hb=>(by cases hb.1),fun id=>?_,fun id o ho=>?_,fun id o ho hm=>?_,fun i j y z hy hz my mz he=>?_,fun b k hk=>(by cases hk),fun _ _ _=>⟨none,0,0,rfl⟩⟩
 ·simp only []
  split
  ·exact ⟨_,_,_,rfl⟩
  ·split
   ·exact ⟨_,_,_,rfl⟩
   ·exact ⟨none,0,0,rfl⟩
 ·match id,ho with
  | 0,ho=>simp only [List.getElem?_cons_zero,Option.some.injEq] at ho;subst ho;exact o1 _ _ 0 rfl rfl (by simp [h8])
  | 1,ho=>simp only [List.getElem?_cons_succ,List.getElem?_cons_zero,Option.some.injEq] at ho;subst ho;exact o2 _ _ 1 rfl rfl rfl
  | 2,ho =>
   simp only [List.getElem?_cons_succ,List.getElem?_cons_zero,Option.some.injEq] at ho
   subst ho
   refine ⟨rfl,cx,Ex,x1,x2,fun j a hj=>?_⟩
   match j,hj with
   | 0,hj =>
    simp only [List.getElem?_cons_zero,Option.some.injEq] at hj
    subst hj
    rw [x3]
    exact ⟨.ptr (by simp) (by simp),rfl⟩
   | j+1,hj=>simp at hj
  | k+3,ho=>simp at ho
 ·match id,ho with
  | 0,ho=>exact ⟨fun hn=>hn.2.1 rfl,fun hz=>z2 hz.2.symm,D.ah.lt⟩
  | 1,ho=>exact ⟨fun hn=>hn.2.2.1 rfl,fun hz=>z3 hz.2.symm,D.ak.lt⟩
  | 2,ho=>exact ⟨fun hn=>hn.2.2.2 rfl,fun hz=>z4 hz.2.symm,(Array.getElem?_eq_some_iff.1 x1).1⟩
  | k+3,ho=>simp at ho
 ·match i,j,hy,hz with
  | 0,0,_,_=>rfl
  | 0,1,_,_=>exact absurd he d1
  | 0,2,_,_=>exact absurd he d2
  | 1,0,_,_=>exact absurd he.symm d1
  | 1,1,_,_=>rfl
  | 1,2,_,_=>exact absurd he d3
  | 2,0,_,_=>exact absurd he.symm d2
  | 2,1,_,_=>exact absurd he.symm d3
  | 2,2,_,_=>rfl
  | k+3,_,hy,_=>simp at hy
  | _,k+3,_,hz=>simp at hz
theorem DI.from {m:Nat} (w w1:World) (bh bk bx:Nat) (f:List (Fin m)→List Int) (hw:w.heap.size≤w1.heap.size) (l1:bh<w1.heap.size) (l2:bk<w1.heap.size) (l3:bx<w1.heap.size):OwnFrom w1.heap.size (fun pre W=>DI w w1 bh bk bx (f pre) W):=by
 intro s W W' row D hg hr
 have same:∀ b,b<w1.heap.size→W'.heap[b]? = W.heap[b]?:=fun b hb=>by
  refine hg.block b (Nat.lt_of_lt_of_le hb D.sz) (fun e=>?_)
  have:=(hr b e.symm).1
  omega
 refine ⟨⟨hg.os.trans D.fr.os,hg.tape.trans D.fr.tape,hg.output.trans D.fr.output,Nat.le_trans D.fr.size hg.size,fun k hk=>(same k (Nat.lt_of_lt_of_le hk hw)).trans (D.fr.block k hk)⟩,Nat.le_trans D.sz hg.size,fun b c E g h1 h2 h3 hb=>(same b (Array.getElem?_eq_some_iff.1 hb).1).trans (D.old b c E g h1 h2 h3 hb),D.ah.keep (same _ l1),D.ak.keep (same _ l2),?_⟩
 obtain ⟨c,E,x1,x2,x3⟩:=D.px
 exact ⟨c,E,(same _ l3).trans x1,x2,x3⟩
theorem B6f {N:Nat→Prop} {w0 W:World} {η:Env} {H:List AObj} (I:Inv N w0 η H W) {id:Nat} {E:TypeId} {fr:Bool} {e:Ty} {l:List e.den} (ho:H[id]? = some (.rows E fr e l)) (h0:0<l.length):(AObj.rows E fr e l).mat η id:=by
 obtain ⟨hln,R⟩:=I.obj id _ ho
 rcases R with ⟨_,h⟩ | ⟨c,cap,g1,g2,g3,g4,g5,g6⟩
 ·rw [h] at h0;simp at h0
 ·exact not_nul g1 g4.1
theorem C0e {N:Nat→Prop} {w0 W:World} {η:Env} {H:List AObj} (I:Inv N w0 η H W) {id:Nat} (ho:H[id]? = some (.box [.ptr 1 0 1 0])) {bk:Nat} (hk:η.ι 1=bk):∃ (c:Array Value) (E:TypeId),W.heap[η.ι id]? = some (.cells c E (0,0))∧c.size=1∧c.getD 0 undef=.pointer (some ⟨bk,0,none⟩):=by
 obtain ⟨_,c,E,g1,g2,g3⟩:=I.obj id _ ho
 refine ⟨c,E,g1,g2,?_⟩
 have h:=(g3 0 _ rfl).1
 generalize c.getD 0 undef=v at h
 cases h with
 | ptr hid hr=>rw [hk]
theorem B9n {c h k:List Int} {i:Nat} {x:AV} (hx:(stB c h k).slots[i]? = some x):(i=3∧x=.ptr 0 0 1 0)∨(i=4∧x=.ptr 2 0 1 0)∨(i=5∧x=.t false C6 c)∨x=.junk:=by
 match i,hx with
 | 0,hx=>simp only [stB,List.cons_append,List.getElem?_cons_zero,Option.some.injEq] at hx;exact .inr (.inr (.inr hx.symm))
 | 1,hx=>simp only [stB,List.cons_append,List.getElem?_cons_succ,List.getElem?_cons_zero,Option.some.injEq] at hx;exact .inr (.inr (.inr hx.symm))
 | 2,hx=>simp only [stB,List.cons_append,List.getElem?_cons_succ,List.getElem?_cons_zero,Option.some.injEq] at hx;exact .inr (.inr (.inr hx.symm))
 | 3,hx=>simp only [stB,List.cons_append,List.getElem?_cons_succ,List.getElem?_cons_zero,Option.some.injEq] at hx;exact .inl ⟨rfl,hx.symm⟩
 | 4,hx=>simp only [stB,List.cons_append,List.getElem?_cons_succ,List.getElem?_cons_zero,Option.some.injEq] at hx;exact .inr (.inl ⟨rfl,hx.symm⟩)
 | 5,hx=>simp only [stB,List.cons_append,List.getElem?_cons_succ,List.getElem?_cons_zero,Option.some.injEq] at hx;exact .inr (.inr (.inl ⟨rfl,hx.symm⟩))
 | i+6,hx =>
  simp only [stB,List.cons_append,List.getElem?_cons_succ,List.nil_append] at hx
  exact .inr (.inr (.inr (List.eq_of_mem_replicate (List.mem_of_getElem? hx))))
theorem B9l {w w1 W:World} {bh bk bx bd:Nat} {h:List Int} (D:DI w w1 bh bk bx h W) (h8:h.length=8) (d1:bh ≠ bk) (d2:bh ≠ bx) (d3:bk ≠ bx) (z1:bd<W.heap.size) (z2:bd ≠ bh) (z3:bd ≠ bk) (z4:bd ≠ bx)
  (g1:w.heap.size≤bh) (g2:w.heap.size≤bk) (g3:w.heap.size≤bx) (n l:Nat) {a1:Act} (a2:a1.tmps.size=39) (a3:a1.tmps.getD 3 undef=.pointer (some ⟨bh,0,none⟩)) (a4:a1.tmps.getD 4 undef=.pointer (some ⟨bx,0,none⟩)) (a5:a1.defers=[])
  {c:List Int} (hc:c.length=64) (hl:Lay (fun b=>b=bd) W C6 c (fun j=>if j=0 then some (a1.tmps.getD 5 undef) else none)) {Q:Exit→Act→World→Prop}
  (hQ:∀ a' W', KeepsOthers W W'→(∀ b,b<W.heap.size→b ≠ bh→b ≠ bk→b ≠ bx→W'.heap[b]? = W.heap[b]?)→DI w w1 bh bk bx (D6 c h irounds).1 W'→Q .normal a' W') :
  (Code.block 1 (.region 5 drb false)).wpIn (Fence.wide.inRound l) n Try.prog Q a1 W:=by
 obtain ⟨η,e0,e1,e2,hZ,n0,n1,n2,I⟩:=D.inv h8 d1 d2 d3 z1 z2 z3 z4
 obtain ⟨q,t8,tk⟩:=B13 c h hc h8
 refine wpIn_block (wpIn_region_list ?_)
 have s:SR (NB W bh bk bx) W η 3 W η (stB c h irounds) a1 W:=by
  refine ⟨I,Ext.refl,⟨by rw [a2];simp [stB],fun i x hx=>?_,a5⟩,rfl⟩
  rcases B9n hx with ⟨rfl,rfl⟩ | ⟨rfl,rfl⟩ | ⟨rfl,rfl⟩ | rfl
  ·rw [a3,← e0];exact .ptr (η:=η) (row:=0) (sz:=1) (sub:=0) (by simp [stB]) (by rw [n0];decide)
  ·rw [a4,← e2];exact .ptr (η:=η) (row:=0) (sz:=1) (sub:=0) (by simp [stB]) (by rw [n2];decide)
  ·refine .t rfl (Lay.mono (fun b hb=>(hZ _ _).2 ⟨rfl,hb⟩) (fun _ _=>rfl) _ _ _ hl)
  ·exact .junk _
 have hrun:=(B78 c h irounds).trans (by rw [q];rfl:_=some (C2d c h irounds))
 have key:=execOps_in (Q:=Exit.inBlock 1 Q) (F:=Fence.wide.inRound l) (n:=n) G41.types G41.tab (.inr ⟨l,rfl⟩) drb [] drb.toList (stB c h irounds) (fun s=>some s) η a1 W s (by kernel_rfl) hrun (fun st' η' a' W' hk s'=>?_)
 ·rwa [List.append_nil] at key
 ·simp only [Option.some.injEq] at hk
  subst hk
  show Q .normal a' W'
  have nm:∀ id,id<3→η'.ι id=η.ι id:=fun id hid=>(s'.ext.nm id hid rfl).2.1
  have I':=s'.inv
  have other:∀ b,b<W.heap.size→b ≠ bh→b ≠ bk→b ≠ bx→W'.heap[b]? = W.heap[b]?:=fun b h1 h2 h3 h4=>I'.fr.block b ⟨h1,h2,h3,h4⟩
  have ah:=arrAt.of I' (id:=0) (E:=158) (fr:=true) (l:=(D6 c h irounds).1) rfl (by rw [t8];decide)
  have ak:=arrAt.of I' (id:=1) (E:=176) (fr:=true) (l:=(D6 c h irounds).2) rfl (by rw [tk];decide)
  have px:=C0e I' (id:=2) rfl (bk:=bk) (by rw [nm 1 (by decide),e1])
  rw [nm 0 (by decide),e0] at ah
  rw [nm 1 (by decide),e1,tk] at ak
  rw [nm 2 (by decide),e2] at px
  refine hQ a' W' ⟨I'.fr.size,fun k o hk ho=>?_⟩ other ⟨⟨I'.fr.os.trans D.fr.os,I'.fr.tape.trans D.fr.tape,I'.fr.output.trans D.fr.output,Nat.le_trans D.fr.size I'.fr.size,fun k hk=>?_⟩,Nat.le_trans D.sz I'.fr.size,fun b cc E f h1 h2 h3 hb=>?_,ah,ak,px⟩
  ·have hlt:=(Array.getElem?_eq_some_iff.1 hk).1
   obtain ⟨c1,x1,_⟩:=D.ah
   obtain ⟨c2,x2,_⟩:=D.ak
   obtain ⟨c3,E3,x3,_⟩:=D.px
   refine (other k hlt ?_ ?_ ?_).trans hk
   ·rintro rfl;rw [x1] at hk;cases hk;cases ho
   ·rintro rfl;rw [x2] at hk;cases hk;cases ho
   ·rintro rfl;rw [x3] at hk;cases hk;cases ho
  ·have:=D.fr.size
   exact (other k (by omega) (by omega) (by omega) (by omega)).trans (D.fr.block k hk)
  ·have h0:=D.old b cc E f h1 h2 h3 hb
   exact (other b (Array.getElem?_eq_some_iff.1 h0).1 h1 h2 h3).trans h0
theorem C0E {vs:Array Value} {x y:Value} (hs:vs.size=2) (h0:vs.getD 0 undef=x) (h1:vs.getD 1 undef=y):vs=#[x,y]:=by
 apply Array.ext
 ·simp [hs]
 ·intro i h2 h3
  match i,h2 with
  | 0,h2=>rw [← h0];simp [Array.getD,hs]
  | 1,h2=>rw [← h1];simp [Array.getD,hs]
  | k+2,h2=>omega
noncomputable def B76 (p:List Int):List Int:=(List.range (p.length / 64)).foldl (fun h i=>(D6 ((p.drop (64*i)).take 64) h irounds).1) hinit
noncomputable def H6 (a0:List Int):ByteArray:=A86 (B76 (M9 a0))
noncomputable def P6 (a0:List Int):Bool:=let z1:=M9 a0;Y7 a0&&(decide (z1.length % 64=0)&&(decide (0<z1.length)&&decide (z1.length≤64000000000000)))
abbrev A7O:List PSh:=[.t C6]
noncomputable abbrev B4f:pshsDen A7O→AV×List AObj:=fun d=>(.t true .str (H6 d.1),[])
noncomputable abbrev B1y:pshsDen A7O→Bool:=fun d=>P6 d.1
noncomputable def B53 (p:List Int) {m:Nat} (pre:List (Fin m)):List Int:=pre.foldl (fun h x=>(D6 ((p.drop (64*x.1)).take 64) h irounds).1) hinit
theorem A7P {p:List Int} {m:Nat} (hm:64*m=p.length) (x:Fin m):((p.drop (64*x.1)).take 64).length=64:=by
 have:=x.2
 simp only [List.length_take,List.length_drop]
 omega
theorem B2a {p:List Int} {m:Nat} (hm:64*m=p.length):∀ (pre:List (Fin m)) (h:List Int),h.length=8→(pre.foldl (fun h (x:Fin m)=>(D6 ((p.drop (64*x.1)).take 64) h irounds).1) h).length=8
 | [],h,h8=>h8
 | x::pre,h,h8=>B2a hm pre _ (B13 _ _ (A7P hm x) h8).2.1
theorem B77 (p:List Int) {m:Nat} (pre:List (Fin m)) (x:Fin m):B53 p (pre++[x])=(D6 ((p.drop (64*x.1)).take 64) (B53 p pre) irounds).1:=by simp [B53]
theorem B8O (p:List Int) {m:Nat} (hm:m=p.length / 64):B53 p (cupto m (Nat.le_refl _))=B76 p:=by
 have e:(cupto m (Nat.le_refl _)).map (fun x:Fin m=>x.1)=List.range m:=by simp [cupto]
 have:=List.foldl_map (f:=fun x:Fin m=>x.1) (g:=fun h i=>(D6 ((p.drop (64*i)).take 64) h irounds).1) (l:=cupto m (Nat.le_refl _)) (init:=hinit)
 rw [e] at this
 rw [B53,← this,B76,hm]
theorem B9o {h:List Int} {i:Nat} {x:AV} (hx:(stT h).slots[i]? = some x):(i=3∧x=.ptr 0 0 1 0)∨x=.junk:=by
 match i,hx with
 | 0,hx=>simp only [stT,List.cons_append,List.getElem?_cons_zero,Option.some.injEq] at hx;exact .inr hx.symm
 | 1,hx=>simp only [stT,List.cons_append,List.getElem?_cons_succ,List.getElem?_cons_zero,Option.some.injEq] at hx;exact .inr hx.symm
 | 2,hx=>simp only [stT,List.cons_append,List.getElem?_cons_succ,List.getElem?_cons_zero,Option.some.injEq] at hx;exact .inr hx.symm
 | 3,hx=>simp only [stT,List.cons_append,List.getElem?_cons_succ,List.getElem?_cons_zero,Option.some.injEq] at hx;exact .inl ⟨rfl,hx.symm⟩
 | i+4,hx =>
  simp only [stT,List.cons_append,List.getElem?_cons_succ,List.nil_append] at hx
  exact .inr (List.eq_of_mem_replicate (List.mem_of_getElem? hx))
theorem B9V {w w1 W:World} {bh bk bx D:Nat} {h:List Int} (I0:DI w w1 bh bk bx h W) (h8:h.length=8) (g1:w.heap.size≤bh) (hD:w1.heap.size≤D) (hw:w.heap.size≤w1.heap.size) (hDb:D ≠ bh) (hd:W.heap[D]? = some (.deferred (some []))) {a:Act} (a2:a.tmps.size=39) (a3:a.tmps.getD 3 undef=.pointer (some ⟨bh,0,none⟩))
  {R:Ending→World→Prop} (hR:∀ W', (W'.os=w.os∧W'.tape=w.tape∧W'.output=w.output∧w.heap.size≤W'.heap.size∧∀ k,k<w.heap.size→W'.heap[k]? = w.heap[k]?)→R (.returned (.string (A86 h))) W') (n:Nat) :
  dc4.wpIn Fence.wide n Try.prog (bodyPostM Fence.wide n Try.prog Try.f115 R) { a with defers:=[{ target:=.collected D,args:=#[] }] } W:=by
 obtain ⟨c1,o1⟩:=I0.ah.obj
 have hDl:D<W.heap.size:=(Array.getElem?_eq_some_iff.1 hd).1
 let η:Env:={ ι:=fun _=>bh,hv:=fun i=>if i=0 then .slice (some ⟨bh,0,none⟩) h.length c1 else nilV,ln:=fun _=>h.length,Z:=fun _ _=>False,nv:=fun _ _ _=>nilV,O:=fun _=>none }
 letI:DF:=⟨[{ target:=.collected D,args:=#[] }]⟩
 have I:Inv (fun b=>b<w.heap.size∨b=D) W η [tB 158 true h] W:=by
  refine ⟨fun k hk=>?_,⟨rfl,rfl,rfl,Nat.le_refl _,fun _ _=>rfl⟩,fun _ _ hb=>hb.elim,fun _ hb=>hb.elim,fun _ hb=>hb.elim,fun id=>?_,fun id o ho=>?_,fun id o ho hm=>?_,fun i j y z hy hz my mz he=>?_,fun b k hk=>(by cases hk),fun _ _ _=>⟨none,0,0,rfl⟩⟩
  ·rcases hk with hk | hk
   ·exact Nat.lt_of_lt_of_le hk I0.fr.size
   ·rw [hk];exact hDl
  ·show ∃ A n c,(if id=0 then _ else _)=_
   split
   ·exact ⟨_,_,_,rfl⟩
   ·exact ⟨none,0,0,rfl⟩
  ·match id,ho with
   | 0,ho=>simp only [List.getElem?_cons_zero,Option.some.injEq] at ho;subst ho;exact o1 η _ 0 rfl rfl rfl
   | k+1,ho=>simp at ho
  ·match id,ho with
   | 0,ho=>exact ⟨fun hn=>hn.elim (fun h=>by have:bh<w.heap.size:=h;omega) (fun h=>hDb h.symm),fun hz=>hz.elim,I0.ah.lt⟩
   | k+1,ho=>simp at ho
  ·match i,j,hy,hz with
   | 0,0,_,_=>rfl
   | k+1,_,hy,_=>simp at hy
   | _,k+1,_,hz=>simp at hz
 have s:SR (fun b=>b<w.heap.size∨b=D) W η 1 W η (stT h) { a with defers:=[{ target:=.collected D,args:=#[] }] } W:=by
  refine ⟨I,Ext.refl,⟨by rw [a2];simp [stT],fun i x hx=>?_,rfl⟩,rfl⟩
  rcases B9o hx with ⟨rfl,rfl⟩ | rfl
  ·rw [a3];exact .ptr (η:=η) (row:=0) (sz:=1) (sub:=0) (by simp [stT]) (by show 0<h.length;omega)
  ·exact .junk _
 have hrun:execC Try.prog tt S41 B4u dL 0 dc4 (stT h) dKT=some (A86 h):=by
  match h,h8 with
  | [x0,x1,x2,x3,x4,x5,x6,x7],_=>exact B8R x0 x1 x2 x3 x4 x5 x6 x7
 refine wpIn_wide.2 (execC_sound G41 dL dc4 0 (stT h) dKT _ η _ W C1w hrun (fun e st' η' a' W' hk s'=>?_) s)
 cases e with
 | normal=>simp [dKT] at hk
 | exit id=>simp [dKT] at hk
 | ret =>
  have hsl:∃ u v f r,st'.slots=u::v::.t f .str (A86 h)::r:=by
   simp only [dKT] at hk
   split at hk
   ·rename_i u v x r e
    simp only [Option.some.injEq] at hk
    exact ⟨u,v,true,r,by rw [e,hk]⟩
   ·cases hk
  obtain ⟨u,v,f,r,hsl⟩:=hsl
  have h2:=s'.sl.slot 2 _ (by rw [hsl];rfl)
  have hv:a'.tmps.getD 2 undef=.string (A86 h):=by
   generalize a'.tmps.getD 2 undef=y at h2
   cases h2 with
   | t _ hl=>simpa [Lay] using hl
  have hdd:W'.heap[D]? = some (.deferred (some [])):=(s'.inv.fr.block D (.inr rfl)).trans hd
  show LeavesInM Fence.wide n Try.prog Try.f115 a'.tmps R a'.defers .returning W'
  rw [show a'.defers=[{ target:=.collected D,args:=#[] }] from s'.sl.defers]
  refine ⟨by simp,.inl ⟨D,_,rfl,run_takeDeferred hdd,?_⟩⟩
  refine ⟨.string (A86 h),?_,hR _ ⟨?_,?_,?_,?_,fun k hk=>?_⟩⟩
  ·rw [results_tmp (t:=2) (by kernel_rfl) a'.tmps Try.prog _];exact congrArg (fun v=>Result.ok v _) hv
  ·exact s'.inv.fr.os.trans I0.fr.os
  ·exact s'.inv.fr.tape.trans I0.fr.tape
  ·exact s'.inv.fr.output.trans I0.fr.output
  ·have:=s'.inv.fr.size;have:=I0.fr.size;simp;omega
  ·have hne:k ≠ D:=by omega
   rw [World.putObj_heap_other hne]
   exact (s'.inv.fr.block k (.inl hk)).trans (I0.fr.block k hk)
theorem B9i {η:Env} {h:Nat} {w:World} {i:Nat} {v:Value} (r:AVR η h w (.ptr i 0 1 0) v):v=.pointer (some ⟨η.ι i,0,none⟩):=by
 cases r with
 | ptr hid hrr=>rfl
theorem C0k {η:Env} {h:Nat} {w:World} {f:FuncId} {i j:Nat} {v:Value} (r:AVR η h w (.fn f [.ptr i 0 1 0,.ptr j 0 1 0]) v):v=.func (.func f) #[] #[.pointer (some ⟨η.ι i,0,none⟩),.pointer (some ⟨η.ι j,0,none⟩)]:=by
 cases r with
 | fn hsz hcs =>
  rw [C0E hsz (B9i (hcs 0 _ rfl)) (B9i (hcs 1 _ rfl))]
theorem C0f:∃ o,dasg.toList=[o]∧o.op=.assign (.tmp 14)∧o.dst=some 5∧o.guard=none:=by
 have h0:dasg.toList.length=1:=by kernel_rfl
 have h1:dasg.toList.map (fun o=>o.op)=[.assign (.tmp 14)]:=by kernel_rfl
 have h2:dasg.toList.map (fun o=>o.dst)=[some 5]:=by kernel_rfl
 have h3:dasg.toList.map (fun o=>o.guard)=[none]:=by kernel_rfl
 obtain ⟨o,e⟩:=List.length_eq_one_iff.1 h0
 rw [e] at h1 h2 h3
 exact ⟨o,e,by simpa using h1,by simpa using h2,by simpa using h3⟩
theorem B0w {a:Array Value} {i j:Nat} {v:Value} (h:i ≠ j):(a.setIfInBounds i v).getD j undef=a.getD j undef:=by
 simp only [Array.getD_eq_getD_getElem?,Array.getElem?_setIfInBounds,if_neg h]
theorem A8Y {a:Array Value} {i:Nat} {v:Value} (h:i<a.size):(a.setIfInBounds i v).getD i undef=v:=by
 simp [Array.getD_eq_getD_getElem?,Array.getElem?_setIfInBounds,h]
theorem B7O:aPP 115 (sumOf A7O B1y B4f):=by
 refine PContract.of_calls _ _ _ (fun d hd w vs hl hr=>?_)
 obtain ⟨a0,_⟩:=d
 have hq:P6 a0=true:=hd
 simp only [P6,Bool.and_eq_true,decide_eq_true_eq] at hq
 obtain ⟨qp,qm,q0,ql⟩:=hq
 obtain ⟨p,hp⟩:∃ p,p=M9 a0:=⟨_,rfl⟩
 obtain ⟨m,hm⟩:∃ m,m=p.length / 64:=⟨_,rfl⟩
 have hm64:64*m=p.length:=by rw [← hp] at qm;omega
 show Calls Try.prog 115 vs w fun e w'=>∃ v η', e=.returned v∧Inv (·<w.heap.size) w η' [] w'∧AVR η' 0 w' (.t true .str (H6 a0)) v
 refine callsIn_wide.1 (callsIn_of_wp_marks (n:=5) (F:=Fence.wide) (fn:=Try.f115) (by kernel_rfl) B8P trivial ?_)
 have s0:=SR.start (Inv.empty w) hl hr Try.f115
 have hrun:=(B9A a0).trans (by rw [qp];rfl:_=some (Ex.normal,stR a0))
 refine wpIn_seq (wpIn_wide.2 (execC_sound G41 aLn dc0 0 _ dK1 _ _ _ w (hl0 (L:=fun _ _=>none) (b:=0) (x:=dc0) (by kernel_rfl)) hrun (fun e st1 η1 a1 w1 hk s1=>?_) s0))
 cases e with
 | exit id=>cases hk
 | ret=>cases hk
 | normal =>
 refine wpIn_seq (wpIn_wide.2 (execC_sound G41 aLn dc1 0 _ dK2 _ _ _ w1 (hl0 (L:=fun _ _=>none) (b:=0) (x:=dc1) (by kernel_rfl)) hk (fun e st2 η2 a2 w2 hk s2=>?_) s1))
 cases e with
 | exit id=>cases hk
 | ret=>cases hk
 | normal =>
 refine wpIn_seq (wpIn_wide.2 (execC_sound G41 aLn dc2 0 _ dK3 _ _ _ w2 (hl0 (L:=fun _ _=>none) (b:=0) (x:=dc2) (by kernel_rfl)) hk (fun e st3 η3 a3 w3 hk s3=>?_) s2))
 cases e with
 | exit id=>cases hk
 | ret=>cases hk
 | normal =>
 refine wpIn_seq (wpIn_seq (wpIn_wide.2 (wp_region_list (execOps_sound G41.types C1q B55 B55.toList _ _ _ _ w3 s3 hk (fun st4 η aR W1 hk sR=>?_)))))
 obtain rfl:stR a0=st4:=by simpa using hk.symm
 clear hk s1 s2 s3
 have I1:=sR.inv
 -- the objects
 obtain ⟨bh,ebh⟩:∃ bh,bh=η.ι 0:=⟨_,rfl⟩
 obtain ⟨bk,ebk⟩:∃ bk,bk=η.ι 1:=⟨_,rfl⟩
 obtain ⟨bx,ebx⟩:∃ bx,bx=η.ι 2:=⟨_,rfl⟩
 obtain ⟨Bs,eBs⟩:∃ bs,bs=η.ι 3:=⟨_,rfl⟩
 obtain ⟨Bn,eBn⟩:∃ bn,bn=η.ι 4:=⟨_,rfl⟩
 have h0':(stR a0).heap[0]? = some (.rows 158 true (.int .u32) hinit):=rfl
 have h1':(stR a0).heap[1]? = some (.rows 176 true (.int .u32) irounds):=rfl
 have h2':(stR a0).heap[2]? = some (.box [.ptr 1 0 1 0]):=rfl
 have h3':(stR a0).heap[3]? = some (.box [.t true C6 (M9 a0)]):=rfl
 have h4':(stR a0).heap[4]? = some (.box [(ti (64:Int):AV)]):=rfl
 have m0:=B6f I1 h0' (by decide)
 have m1:=B6f I1 h1' (by decide)
 have d1:bh ≠ bk:=fun e=>absurd (I1.inj 0 1 _ _ h0' h1' m0 m1 (ebh ▸ ebk ▸ e)) (by decide)
 have d2:bh ≠ bx:=fun e=>absurd (I1.inj 0 2 _ _ h0' h2' m0 trivial (ebh ▸ ebx ▸ e)) (by decide)
 have d3:bk ≠ bx:=fun e=>absurd (I1.inj 1 2 _ _ h1' h2' m1 trivial (ebk ▸ ebx ▸ e)) (by decide)
 have s0':Bs ≠ bh:=fun e=>absurd (I1.inj 3 0 _ _ h3' h0' trivial m0 (eBs ▸ ebh ▸ e)) (by decide)
 have s1':Bs ≠ bk:=fun e=>absurd (I1.inj 3 1 _ _ h3' h1' trivial m1 (eBs ▸ ebk ▸ e)) (by decide)
 have s2':Bs ≠ bx:=fun e=>absurd (I1.inj 3 2 _ _ h3' h2' trivial trivial (eBs ▸ ebx ▸ e)) (by decide)
 have n0':Bn ≠ bh:=fun e=>absurd (I1.inj 4 0 _ _ h4' h0' trivial m0 (eBn ▸ ebh ▸ e)) (by decide)
 have n1':Bn ≠ bk:=fun e=>absurd (I1.inj 4 1 _ _ h4' h1' trivial m1 (eBn ▸ ebk ▸ e)) (by decide)
 have n2':Bn ≠ bx:=fun e=>absurd (I1.inj 4 2 _ _ h4' h2' trivial trivial (eBn ▸ ebx ▸ e)) (by decide)
 obtain ⟨o0a,o0b,l0⟩:=I1.own 0 _ h0' m0
 obtain ⟨o1a,o1b,l1⟩:=I1.own 1 _ h1' m1
 obtain ⟨o2a,o2b,l2⟩:=I1.own 2 _ h2' trivial
 obtain ⟨o3a,o3b,l3⟩:=I1.own 3 _ h3' trivial
 obtain ⟨o4a,o4b,l4⟩:=I1.own 4 _ h4' trivial
 rw [← ebh] at o0a o0b l0
 rw [← ebk] at o1a o1b l1
 rw [← ebx] at o2a o2b l2
 rw [← eBs] at o3a o3b l3
 rw [← eBn] at o4a o4b l4
 have g0:w.heap.size≤bh:=Nat.not_lt.1 o0a
 have g1:w.heap.size≤bk:=Nat.not_lt.1 o1a
 have g2:w.heap.size≤bx:=Nat.not_lt.1 o2a
 have hww:w.heap.size≤W1.heap.size:=I1.fr.size
 -- the slots
 have t3:aR.tmps.getD 3 undef=.pointer (some ⟨bh,0,none⟩):=by
  have h:=sR.sl.slot 3 (.ptr 0 0 1 0) rfl
  generalize aR.tmps.getD 3 undef=v at h
  cases h with
  | ptr hid hrr=>rw [ebh]
 have t4:aR.tmps.getD 4 undef=.pointer (some ⟨bx,0,none⟩):=by
  have h:=sR.sl.slot 4 (.ptr 2 0 1 0) rfl
  generalize aR.tmps.getD 4 undef=v at h
  cases h with
  | ptr hid hrr=>rw [ebx]
 have t13:aR.tmps.getD 13 undef=.func (.func 168) #[] #[.pointer (some ⟨Bs,0,none⟩),.pointer (some ⟨Bn,0,none⟩)]:=by
  rw [eBs,eBn]
  exact C0k (sR.sl.slot 13 (.fn 168 [.ptr 3 0 1 0,.ptr 4 0 1 0]) rfl)
 have tsz:aR.tmps.size=39:=by rw [sR.sl.size];rfl
 -- the padded bytes
 obtain ⟨_,c3,E3,g3,z3,x3⟩:=I1.obj 3 _ h3'
 obtain ⟨_,c4,E4,g4,z4,x4⟩:=I1.obj 4 _ h4'
 rw [← eBs] at g3
 rw [← eBn] at g4
 have y3:=(x3 0 _ rfl).1
 have y4:=(x4 0 _ rfl).1
 have v4:c4.getD 0 undef=.int .i64 64:=int_rel y4
 obtain ⟨ad,cap,v3,hcap,hzt,hcell⟩:∃ (ad:Addr) (cap:Nat),c3.getD 0 undef=.slice (some ad) (64*m) cap∧64*m≤cap∧η.Z true ad.block∧∀ (i:Nat) (x:Int),p[i]? = some x→W1.cell? (ad.add i)=some (.int .u8 x):=by
  rw [← hp] at y3
  generalize c3.getD 0 undef=v at y3
  cases y3 with
  | t _ hlay =>
   obtain ⟨A,cap,e1,e2,e3⟩:=hlay
   simp only [if_true,Option.some.injEq] at e1
   rcases e3 with rfl | ⟨ad,rfl,hz,hcs⟩
   ·rw [← hp] at q0;simp at q0
   ·refine ⟨ad,cap,by rw [e1,hm64],by rw [hm64];exact e2,hz,fun i x hx=>?_⟩
    have h:=hcs i x hx
    simp only [Lay,Ty.cells,Nat.mul_one,Nat.add_zero] at h
    exact h
 have hzf:η.Z false ad.block:=I1.zsub _ hzt
 have b0:ad.block ≠ bh:=fun e=>o0b (e ▸ hzf)
 have b1:ad.block ≠ bk:=fun e=>o1b (e ▸ hzf)
 have b2:ad.block ≠ bx:=fun e=>o2b (e ▸ hzf)
 have bl:ad.block<W1.heap.size:=I1.zlt _ _ hzf
 obtain ⟨cd,Ed,fd,gd⟩:∃ cd Ed fd,W1.heap[ad.block]? = some (.cells cd Ed fd):=by
  obtain ⟨x,hx⟩:∃ x,p[0]? = some x:=by cases p with
   | nil=>rw [← hp] at q0;simp at q0
   | cons x _=>exact ⟨x,rfl⟩
  have h:=hcell 0 x hx
  obtain ⟨o,ho,hc⟩:=cells_of_cell h
  rw [addr_block] at ho
  cases o with
  | cells a b c=>exact ⟨a,b,c,ho⟩
  | _=>cases hc
 have cs:W1.cell? ⟨Bs,0,none⟩=some (.slice (some ad) (64*m) cap):=by rw [cell_block g3,← v3];exact getElem?_getD (by rw [z3];simp)
 have cn:W1.cell? ⟨Bn,0,none⟩=some (.int .i64 64):=by rw [cell_block g4,← v4];exact getElem?_getD (by rw [z4];simp)
 have D0:DI w W1 bh bk bx hinit W1:=by
  refine ⟨I1.fr,Nat.le_refl _,fun _ _ _ _ _ _ _ h=>h,?_,?_,?_⟩
  ·rw [ebh];exact arrAt.of I1 h0' (by decide)
  ·rw [ebk];exact arrAt.of I1 h1' (by decide)
  ·rw [ebx];exact C0e I1 h2' ebk.symm
 refine wpIn_block (wpIn_rangeFunc_ownF (F:=Fence.wide) (n:=5) rfl (by decide) (gf:=168) (lb:=#[.pointer (some ⟨Bs,0,none⟩),.pointer (some ⟨Bn,0,none⟩)]) t13 trivial (enters_of Try.func168 (by kernel_rfl) rfl)
  (B52 4 (by decide) Bs Bn m cap ad hcap (by rw [← hp] at ql;omega) W1 cs cn l3 l4) (fun h k=>⟨k.1.trans h.1,k.2.trans h.2⟩) (fun W l o o' hwl ho hc _=>?_) (Below.refl _ _) (fun _=>rfl)
  (fun pre W=>DI w W1 bh bk bx (B53 p pre) W) (fun _ _ _=>False) (DI.from w W1 bh bk bx (B53 p) hww l0 l1 l2) (fun _ _ _ _ _ h=>h.elim) D0
  (fun x=>{ tmps:=(aR.tmps.setIfInBounds 14 (.slice (some (ad.add (64*x.1))) 64 64)).setIfInBounds 5 (.slice (some (ad.add (64*x.1))) 64 64),defers:=[] })
  (fun l x W K hK=>?_) (fun l pre x W D hlen=>?_) (fun Dd xs W hD hS D hdd=>?_) (fun _ _ _ _ _ _ h _=>h.elim))
 ·have k1:Bs ≠ l:=by omega
  have k2:Bn ≠ l:=by omega
  exact ⟨World.cell?_of_block (World.putObj_heap_other k1),World.cell?_of_block (World.putObj_heap_other k2)⟩
 ·obtain ⟨o,e,e1,e2,e3⟩:=C0f
  have ez:((#[14]:Array Tmp).zip #[Value.slice (some (ad.add (64*x.1))) 64 64]).foldl (fun t (p,v)=>t.setIfInBounds p v) aR.tmps=aR.tmps.setIfInBounds 14 (.slice (some (ad.add (64*x.1))) 64 64):=by simp
  refine wpIn_region_list ?_
  rw [e,ez]
  have ev:(aR.tmps.setIfInBounds 14 (Value.slice (some (ad.add (64*x.1))) 64 64)).getD 14 undef=.slice (some (ad.add (64*x.1))) 64 64:=A8Y (by rw [tsz];decide)
  refine wpListIn_plain e3 (fun Kc hKc=>wp_in (.inr ⟨l,rfl⟩) (by simp [notDefer,e1]) (wp_value (w':=W) (x:=.slice (some (ad.add (64*x.1))) 64 64) (by simp only [execOp,e1,Act.eval,ev];rfl) (hKc _ _ ?_)))
  rw [e2]
  exact hK
 ·refine B9l D (B2a hm64 pre hinit rfl) d1 d2 d3 (bd:=ad.block) (Nat.lt_of_lt_of_le bl D.sz) b0 b1 b2 g0 g1 g2 _ l (c:=(p.drop (64*x.1)).take 64) ?_ ?_ ?_ rfl (A7P hm64 x) ?_ (fun a' W' ko oth DI'=>⟨ko,⟨?_,?_⟩,?_⟩)
  ·show ((aR.tmps.setIfInBounds 14 _).setIfInBounds 5 _).size=39
   simp [tsz]
  ·show ((aR.tmps.setIfInBounds 14 _).setIfInBounds 5 _).getD 3 undef=_
   rw [B0w (by decide),B0w (by decide)];exact t3
  ·show ((aR.tmps.setIfInBounds 14 _).setIfInBounds 5 _).getD 4 undef=_
   rw [B0w (by decide),B0w (by decide)];exact t4
  ·have e5:((aR.tmps.setIfInBounds 14 (Value.slice (some (ad.add (64*x.1))) 64 64)).setIfInBounds 5 (Value.slice (some (ad.add (64*x.1))) 64 64)).getD 5 undef=.slice (some (ad.add (64*x.1))) 64 64:=A8Y (by rw [Array.size_setIfInBounds,tsz];decide)
   refine ⟨some (ad.add (64*x.1)),64,?_,by rw [A7P hm64 x];exact Nat.le_refl _,.inr ⟨_,rfl,addr_block _ _,fun i y hy=>?_⟩⟩
   ·rw [A7P hm64 x]
    exact congrArg some e5
   ·rw [List.getElem?_take] at hy
    split at hy
    ·rw [List.getElem?_drop] at hy
     have h1:=hcell _ y hy
     have h2:W.cell? (ad.add (64*x.1+i))=W1.cell? (ad.add (64*x.1+i)):=World.cell?_of_block (by rw [addr_block,gd];exact D.old _ _ _ _ b0 b1 b2 gd)
     show W.cell? ((ad.add (64*x.1)).add (i*1+0))=some (.int .u8 y)
     rw [addr_add,Nat.mul_one,Nat.add_zero,h2];exact h1
    ·cases hy
  ·have hl3:Bs<W.heap.size:=Nat.lt_of_lt_of_le l3 D.sz
   exact World.cell?_of_block (oth Bs hl3 s0' s1' s2')
  ·have hl4:Bn<W.heap.size:=Nat.lt_of_lt_of_le l4 D.sz
   exact World.cell?_of_block (oth Bn hl4 n0' n1' n2')
  ·show DI w W1 bh bk bx (B53 p (pre++[x])) W'
   rw [B77];exact DI'
 ·show dc4.wpIn Fence.wide 5 Try.prog _ { aR with defers:={ target:=.collected Dd,args:=#[] }::aR.defers } W
  rw [show aR.defers=[] from sR.sl.defers]
  subst hS
  refine B9V D (B2a hm64 _ hinit rfl) g0 hD hww (by omega) hdd tsz t3 (fun W' hW'=>?_) 5
  obtain ⟨w1', w2', w3', w4', w5'⟩:=hW'
  refine ⟨.string _,{ ι:=fun _=>0,hv:=fun _=>nilV,ln:=fun _=>0,Z:=fun _ _=>False,nv:=fun _ _ _=>nilV,O:=fun _=>none },rfl,⟨fun _ h=>h,⟨w1', w2', w3', w4', w5'⟩,fun _ _ hb=>hb.elim,fun _ hb=>hb.elim,fun _ hb=>hb.elim,fun _=>⟨none,0,0,rfl⟩,fun id o h=>by simp at h,fun id o h=>by simp at h,fun id id' o o' h=>by simp at h,fun b k h=>(by cases h),fun _ _ _=>⟨none,0,0,rfl⟩⟩,?_⟩
  rw [B8O p hm,hp]
  exact .t rfl (by simp [Lay,H6])
noncomputable def S42:Tab:=Tab.add S41 115 (lift (sumOf A7O B1y B4f))
noncomputable def C1b:FuncId→Bool:=qadd B4u 115
theorem G42:aPG S42 C1b:=G41.addQ B7O (cbl Try.f115) (fun _=>rfl)

abbrev A4F:List PSh:=[.agg [(.int .i64),(.int .i64),tq3]]
noncomputable def A1O (a0 a1:Int) (a2:Lq1):List Int:=let z1:=E8 a1 (C2 a0);let z2:=A5y a2 z1;(cond (decide ((a2.length:Int) > (0:Int))) (((C2 ((z2.length:Nat):Int))++z2)++strInts ((H6 z2).extract (0:Int).toNat (4:Int).toNat)) (((C2 ((z1.length:Nat):Int))++z1)++strInts ((H6 z1).extract (0:Int).toNat (4:Int).toNat)))
noncomputable abbrev A7R (r:List Int):AV×List AObj:=((.t true C6 r),[])
noncomputable abbrev B0Q:pshsDen A4F→AV×List AObj:=fun d=>A7R (A1O d.1.1 d.1.2.1 d.1.2.2.1)
noncomputable def U5 (a0 a1:Int) (a2:Lq1):Bool:=let z1:=E8 a1 (C2 a0);let z2:=A5y a2 z1;let z3:=C2 ((z2.length:Nat):Int);let z4:=C2 ((z1.length:Nat):Int);(D1 a1 (C2 a0))&&(cond (decide ((a2.length:Int) > (0:Int))) ((A2W a2 z1)&&((decide ((z3.length+z2.length)*1≤MAXB))&&((P6 z2)&&((decide (0≤(0:Int)∧(0:Int)≤(4:Int)∧(4:Int)≤(((H6 z2).size:Nat):Int)))&&(decide ((z3++z2).length+((H6 z2).extract (0:Int).toNat (4:Int).toNat).size≤MAXB)))))) ((decide ((z4.length+z1.length)*1≤MAXB))&&((P6 z1)&&((decide (0≤(0:Int)∧(0:Int)≤(4:Int)∧(4:Int)≤(((H6 z1).size:Nat):Int)))&&(decide ((z4++z1).length+((H6 z1).extract (0:Int).toNat (4:Int).toNat).size≤MAXB))))))
noncomputable abbrev A7b:pshsDen A4F→Bool:=fun d=>U5 d.1.1 d.1.2.1 d.1.2.2.1
theorem B6o:RunP true G42 aLn Try.f67 A4F A7b B0Q:=by
 rintro ⟨⟨a0,⟨a1,⟨a2,_⟩⟩⟩,_⟩ hp
 change U5 a0 a1 a2=true at hp
 unfold U5 at hp
 refine Eq.trans (b:=(let z1:=E8 a1 (C2 a0);let z2:=A5y a2 z1;let z3:=C2 ((z2.length:Nat):Int);let z4:=C2 ((z1.length:Nat):Int);let z5:=(H6 z2).extract (0:Int).toNat (4:Int).toNat;let z6:=(H6 z1).extract (0:Int).toNat (4:Int).toNat;cond (D1 a1 (C2 a0)) (cond (decide ((a2.length:Int) > (0:Int))) (cond (A2W a2 z1) (cond (decide ((z3.length+z2.length)*1≤MAXB)) (cond (P6 z2) (cond (decide (0≤(0:Int)∧(0:Int)≤(4:Int)∧(4:Int)≤(((H6 z2).size:Nat):Int))) (cond (decide ((z3++z2).length+z5.size≤MAXB)) (some (A7R ((z3++z2)++strInts z5))) none) none) none) none) none) (cond (decide ((z4.length+z1.length)*1≤MAXB)) (cond (P6 z1) (cond (decide (0≤(0:Int)∧(0:Int)≤(4:Int)∧(4:Int)≤(((H6 z1).size:Nat):Int))) (cond (decide ((z4++z1).length+z6.size≤MAXB)) (some (A7R ((z4++z1)++strInts z6))) none) none) none) none)) none)) (by kernel_rfl) ?_
 exact (cndA hp fun hp=>(O8 A7R hp (fun hp=>(cndA hp fun hp=>(cndA hp fun hp=>(cndA hp fun hp=>(cndA hp fun hp=>(cndT hp fun _h=>rfl)))))) (fun hp=>(cndA hp fun hp=>(cndA hp fun hp=>(cndA hp fun hp=>(cndT hp fun _h=>rfl)))))))
theorem B7V:aPP 67 (sumOf A4F A7b B0Q):=pcD true G42 hlz B6o
noncomputable def S43:Tab:=Tab.add S42 67 (lift (sumOf A4F A7b B0Q))
noncomputable def C1c:FuncId→Bool:=qadd C1b 67
theorem G43:aPG S43 C1c:=G42.addQ B7V (cbl Try.f67) (fun _=>rfl)

abbrev A0a:List PSh:=[.t C6,.t C6]
noncomputable def M8 (a0 a1:List Int):Bool:=((⟨(a0.map fun n=>UInt8.ofNat n.toNat).toArray⟩:ByteArray).toList==(⟨(a1.map fun n=>UInt8.ofNat n.toNat).toArray⟩:ByteArray).toList)
noncomputable abbrev B3m (r:Bool):AV×List AObj:=((.t true .bool r),[])
noncomputable abbrev A4e:pshsDen A0a→AV×List AObj:=fun d=>B3m (M8 d.1 d.2.1)
noncomputable abbrev A2s:pshsDen A0a→Bool:=fun d=>true
theorem B1R:RunP true G43 aLn Try.f79 A0a A2s A4e:=by
 rintro ⟨a0,⟨a1,_⟩⟩ hp
 kernel_rfl
theorem B3h:aPP 79 (sumOf A0a A2s A4e):=pcD true G43 hlz B1R
noncomputable def S44:Tab:=Tab.add S43 79 (lift (sumOf A0a A2s A4e))
noncomputable def C1d:FuncId→Bool:=qadd C1c 79
theorem G44:aPG S44 C1d:=G43.addQ B3h (cbl Try.f79) (fun _=>rfl)

abbrev A4C:List PSh:=[.t C6,.t (.int .i64)]
noncomputable def O3 (a0:List Int) (a1:Int):=let z1:=B8 a0 a1;A7 ((a0.take (IntKind.wrap .i64 ((z1.2.1)+(z1.1))).toNat).drop (z1.2.1).toNat) (0:Int) false
noncomputable def T0 (a0:List Int) (a1:Int):=let z2:=O3 a0 a1;let z1:=A7 (z2.2.1) (z2.2.2.1) (z2.2.2.2);J9 (z1.2.1) (z1.2.2.1) (z1.2.2.2)
noncomputable def A3x (a0:List Int) (a1:Int):=let z1:=O3 a0 a1;A6Y (z1.1) ((A7 (z1.2.1) (z1.2.2.1) (z1.2.2.2)).1) ((T0 a0 a1).2.2.2)
noncomputable def A9h (a0:List Int) (a1:Int):=let z1:=O3 a0 a1;A1O (z1.1) ((A7 (z1.2.1) (z1.2.2.1) (z1.2.2.2)).1) ((T0 a0 a1).2.2.2)
noncomputable def A5B (a0:List Int) (a1:Int):=M8 (A9h a0 a1) ((a0.take (IntKind.wrap .i64 ((IntKind.wrap .i64 (((B8 a0 a1).2.1)+((B8 a0 a1).1)))+(4:Int))).toNat).drop a1.toNat)
noncomputable def A3y (a0:List Int) (a1:Int):=let z1:=O3 a0 a1;A6Y (z1.1) ((A7 (z1.2.1) (z1.2.2.1) (z1.2.2.2)).1) []
noncomputable def A9i (a0:List Int) (a1:Int):=let z1:=O3 a0 a1;A1O (z1.1) ((A7 (z1.2.1) (z1.2.2.1) (z1.2.2.2)).1) []
noncomputable def A5C (a0:List Int) (a1:Int):=M8 (A9i a0 a1) ((a0.take (IntKind.wrap .i64 ((IntKind.wrap .i64 (((B8 a0 a1).2.1)+((B8 a0 a1).1)))+(4:Int))).toNat).drop a1.toNat)
noncomputable def L3 (a0:List Int) (a1:Int):Int×Int×Int×Bool×Lq1:=let z2:=O3 a0 a1;let z1:=A7 (z2.2.1) (z2.2.2.1) (z2.2.2.2);let z3:=B8 a0 a1;let z4:=(IntKind.wrap .i64 ((z3.2.1)+(z3.1)))+(4:Int);(cond (!(z3.2.2)) ((0:Int),(0:Int),a1,false,([]:Lq1)) (cond (decide ((z3.1) > (IntKind.wrap .i64 ((IntKind.wrap .i64 ((a0.length:Int) - (z3.2.1))) - (4:Int))))) ((0:Int),(0:Int),a1,false,([]:Lq1)) (cond ((z2.1)==(1:Int)) (cond ((T0 a0 a1).2.2.1) ((0:Int),(0:Int),a1,false,([]:Lq1)) (cond (!(A3x a0 a1)) ((0:Int),(0:Int),a1,false,([]:Lq1)) (cond (!(A5B a0 a1)) ((0:Int),(0:Int),a1,false,([]:Lq1)) ((z2.1),(z1.1),IntKind.wrap .i64 z4,true,((T0 a0 a1).2.2.2))))) (cond (z1.2.2.2) ((0:Int),(0:Int),a1,false,([]:Lq1)) (cond (!(A3y a0 a1)) ((0:Int),(0:Int),a1,false,([]:Lq1)) (cond (!(A5C a0 a1)) ((0:Int),(0:Int),a1,false,([]:Lq1)) ((z2.1),(z1.1),IntKind.wrap .i64 z4,true,([]:Lq1))))))))
noncomputable abbrev K2 (r:Int×Int×Int×Bool×Lq1):AV×List AObj:=((.tup [(.agg [(ti r.1),(ti r.2.1),(.all 0 3)]),(ti r.2.2.1),(.t true .bool r.2.2.2.1)]),[(.rows 124 true tq5 r.2.2.2.2)])
noncomputable abbrev B0N:pshsDen A4C→AV×List AObj:=fun d=>K2 (L3 d.1 d.2.1)
noncomputable def A0G (a0:List Int) (a1:Int):Bool:=let z3:=O3 a0 a1;let z1:=A7 (z3.2.1) (z3.2.2.1) (z3.2.2.2);let z5:=B8 a0 a1;let z2:=IntKind.wrap .i64 ((z5.2.1)+(z5.1));let z6:=T0 a0 a1;let z7:=IntKind.wrap .i64 (z2+(4:Int));let z4:=decide (0≤a1∧a1≤z7∧z7≤(a0.length:Int));(P7 a0 a1)&&(cond (!(z5.2.2)) true (cond (decide ((z5.1) > (IntKind.wrap .i64 ((IntKind.wrap .i64 ((a0.length:Int) - (z5.2.1))) - (4:Int))))) true ((decide (0≤(z5.2.1)∧(z5.2.1)≤z2∧z2≤(a0.length:Int)))&&((B7 ((a0.take z2.toNat).drop (z5.2.1).toNat) (0:Int) false)&&((B7 (z3.2.1) (z3.2.2.1) (z3.2.2.2))&&(cond ((z3.1)==(1:Int)) ((O4 (z1.2.1) (z1.2.2.1) (z1.2.2.2))&&(cond (z6.2.2.1) true ((A09 (z3.1) (z1.1) (z6.2.2.2))&&(cond (!(A3x a0 a1)) true ((U5 (z3.1) (z1.1) (z6.2.2.2))&&z4))))) (cond (z1.2.2.2) true ((A09 (z3.1) (z1.1) [])&&(cond (!(A3y a0 a1)) true ((U5 (z3.1) (z1.1) [])&&z4))))))))))
noncomputable abbrev A68:pshsDen A4C→Bool:=fun d=>A0G d.1 d.2.1
theorem B6j:RunP false G44 aLn Try.f28 A4C A68 B0N:=by
 rintro ⟨a0,⟨a1,_⟩⟩ hp
 change A0G a0 a1=true at hp
 unfold A0G at hp
 refine Eq.trans (b:=(let z3:=K2 ((0:Int),(0:Int),a1,false,([]:Lq1));let z4:=O3 a0 a1;let z1:=A7 (z4.2.1) (z4.2.2.1) (z4.2.2.2);let z6:=B8 a0 a1;let z2:=IntKind.wrap .i64 ((z6.2.1)+(z6.1));let z7:=(T0 a0 a1).2.2.2;let z8:=IntKind.wrap .i64 (z2+(4:Int));let z5:=decide (0≤a1∧a1≤z8∧z8≤(a0.length:Int));cond (P7 a0 a1) (cond (!(z6.2.2)) (some z3) (cond (decide ((z6.1) > (IntKind.wrap .i64 ((IntKind.wrap .i64 ((a0.length:Int) - (z6.2.1))) - (4:Int))))) (some z3) (cond (decide (0≤(z6.2.1)∧(z6.2.1)≤z2∧z2≤(a0.length:Int))) (cond (B7 ((a0.take z2.toNat).drop (z6.2.1).toNat) (0:Int) false) (cond (B7 (z4.2.1) (z4.2.2.1) (z4.2.2.2)) (cond ((z4.1)==(1:Int)) (cond (O4 (z1.2.1) (z1.2.2.1) (z1.2.2.2)) (cond ((T0 a0 a1).2.2.1) (some z3) (cond (A09 (z4.1) (z1.1) z7) (cond (!(A3x a0 a1)) (some z3) (cond (U5 (z4.1) (z1.1) z7) (cond z5 (cond (!(A5B a0 a1)) (some z3) (some (K2 ((z4.1),(z1.1),IntKind.wrap .i64 (z2+(4:Int)),true,z7)))) none) none)) none)) none) (cond (z1.2.2.2) (some z3) (cond (A09 (z4.1) (z1.1) []) (cond (!(A3y a0 a1)) (some z3) (cond (U5 (z4.1) (z1.1) []) (cond z5 (cond (!(A5C a0 a1)) (some z3) (some (K2 ((z4.1),(z1.1),IntKind.wrap .i64 (z2+(4:Int)),true,([]:Lq1))))) none) none)) none))) none) none) none))) none)) (by kernel_rfl) ?_
 exact (cndA hp fun hp=>(O8 K2 hp (fun hp=>rfl) (fun hp=>(O8 K2 hp (fun hp=>rfl) (fun hp=>(cndA hp fun hp=>(cndA hp fun hp=>(cndA hp fun hp=>(O8 K2 hp (fun hp=>(cndA hp fun hp=>(O8 K2 hp (fun hp=>rfl) (fun hp=>(cndA hp fun hp=>(O8 K2 hp (fun hp=>rfl) (fun hp=>(cndA hp fun hp=>(cndT hp fun _h=>(F9 K2 (fun _h=>rfl) (fun _h=>rfl))))))))))) (fun hp=>(O8 K2 hp (fun hp=>rfl) (fun hp=>(cndA hp fun hp=>(O8 K2 hp (fun hp=>rfl) (fun hp=>(cndA hp fun hp=>(cndT hp fun _h=>(F9 K2 (fun _h=>rfl) (fun _h=>rfl)))))))))))))))))))
theorem B7Q:aPP 28 (sumOf A4C A68 B0N):=pcD false G44 hlz B6j
noncomputable def S45:Tab:=Tab.add S44 28 (lift (sumOf A4C A68 B0N))
noncomputable def C1e:FuncId→Bool:=C1d
theorem G45:aPG S45 C1e:=G44.add B7Q (cbl Try.f28) (by kernel_rfl)

abbrev A1X:List PSh:=[.t C6]
abbrev N8:SS:=⟨(.t false C6::.junk::.junk::.junk::.all 0 3::tI::B9K),[.deep 30 [124] tq4]⟩
abbrev A2g:SS:=⟨(.junk::.junk::.junk::.junk::.all 0 3::tI::B9K),[.deep 30 [124] tq4]⟩
noncomputable def A7G (x0:List Int) (x5:Int) (h0:Lq2):RT N8.den:=let z1:=L3 x0 x5;(.br (decide (x5<(x0.length:Int))) (.br (A0G x0 x5) (.br (!(z1.2.2.2.1)) (.done (.exit 0) A2g (((),(),(),(),(),x5,u24),(h0,()))) (.br (decide ((h0.length+[((z1.1),((z1.2.1),(z1.2.2.2.2)))].length)*40≤MAXB)) (.next ((x0,(),(),(),(),(z1.2.2.1),u24),(h0++[((z1.1),((z1.2.1),(z1.2.2.2.2)))],()))) .fail)) .fail) (.done (.exit 0) A2g (((),(),(),(),(),x5,u24),(h0,()))))
abbrev A0c:=(List Int)×(Int)×(Lq2)
abbrev T7:=Nat×(Int)×(Lq2)
def A3q:T7:=(99,((0:Int):Int),([]:Lq2))
noncomputable def X6 (x0:List Int) (x5:Int) (h0:Lq2):A0c ⊕ T7:=let z1:=L3 x0 x5;(cond (decide (x5<(x0.length:Int))) (cond (A0G x0 x5) (cond (!(z1.2.2.2.1)) (.inr (0,x5,h0)) (cond (decide ((h0.length+[((z1.1),((z1.2.1),(z1.2.2.2.2)))].length)*40≤MAXB)) (.inl (x0,(z1.2.2.1),h0++[((z1.1),((z1.2.1),(z1.2.2.2.2)))])) (.inr A3q))) (.inr A3q)) (.inr (0,x5,h0)))
noncomputable def V9 (x0:List Int) (x5:Int) (h0:Lq2):T7:=itX (fun v:A0c=>X6 v.1 v.2.1 v.2.2) A3q (x0,x5,h0)
noncomputable def A3m (a:T7):CT:=(.br (a.1==0) (.done (.exit 0) A2g (((),(),(),(),(),a.2.1,u24),(a.2.2,()))) .fail)
noncomputable def B3d (x0:List Int) (x5:Int) (h0:Lq2):CT:=A3m (V9 x0 x5 h0)
noncomputable abbrev A3F:N8.den→RT N8.den:=(fun d=>A7G d.1.1 d.1.2.2.2.2.2.1 d.2.1)
noncomputable def A4P:Code:=((loopsIn 0 (bodyOf Try.f32)).getD 0 (0,.skip)).2
noncomputable abbrev A7m (v:A0c):N8.den:=((v.1,(),(),(),(),v.2.1,u24),(v.2.2,()))
theorem B21:(∀ v:A0c,(A7G v.1 v.2.1 v.2.2).val=relS A7m A3m (X6 v.1 v.2.1 v.2.2))∧∀ a:T7,CEnd N8.den (A3m a):=⟨fun v=>(relB (relB (relB rfl (relB rfl rfl)) rfl) rfl),fun a=>(cendB aCD cendF)⟩
theorem B1H:RdA (G45.deep ow) aLn 0 A4P N8 0 [] (kepts [] [(0,[4,5])]) (fun d=>(A3F d).opt 0 []):=by
 intro d
 kernel_rfl
noncomputable abbrev A6k:St→Option Tree:=N8.say 0 [] [(4,1240000030,tq4)] (fun d=>B3d d.1.1 d.1.2.2.2.2.2.1 d.2.1)
theorem B2z:aPL A6k A4P:=SS.wp2 hlz [(4,1240000030,tq4)] A3F B1H (fun d=>rfl) _ (fun d=>Runs.ofI2 (step:=A3F) A7m B21 rfl (d.1.1,d.1.2.2.2.2.2.1,d.2.1))
noncomputable def A1q (a0:List Int):Int×Lq2:=let z1:=V9 a0 (0:Int) ([]:Lq2);((z1.2.1),(z1.2.2))
noncomputable abbrev B1k (r:Int×Lq2):AV×List AObj:=((.tup [(.all 0 3),(ti r.1)]),[(.deep 30 [124] tq4 r.2)])
noncomputable abbrev A6S:pshsDen A1X→AV×List AObj:=fun d=>B1k (A1q d.1)
noncomputable def N6 (a0:List Int):Bool:=((V9 a0 (0:Int) ([]:Lq2)).1==0)
noncomputable abbrev A4i:pshsDen A1X→Bool:=fun d=>N6 d.1
noncomputable abbrev B5F:Nat→St→Option Tree:=fun b=>match b with | 0=>A6k | _=>fun _=>none
theorem B31:RunP false (G45.deep ow) (B5F) Try.f32 A1X A4i A6S:=by
 rintro ⟨a0,_⟩ hp
 change N6 a0=true at hp
 unfold N6 at hp
 refine Eq.trans (b:=(let z1:=V9 a0 (0:Int) ([]:Lq2);cond (z1.1==0) (some (B1k ((z1.2.1),(z1.2.2)))) none)) (by kernel_rfl) ?_
 exact (cndT hp fun _h=>rfl)
theorem B5X:aPP 32 (sumOf A1X A4i A6S):=pcD false (G45.deep ow) (hl1 (i:=0) (by kernel_rfl) B2z) B31
noncomputable def S46:Tab:=Tab.add S45 32 (lift (sumOf A1X A4i A6S))
noncomputable def C1f:FuncId→Bool:=C1e
theorem G46:aPG S46 C1f:=G45.add B5X (cbl Try.f32) (by kernel_rfl)

abbrev A9B:List PSh:=[.agg [(.int .i64),.str,.str],.agg [(.int .i64),.str,.str]]
noncomputable def B4i (a0:Int) (a1 a2:ByteArray) (a3:Int) (a4 a5:ByteArray):Bool:=(cond (a0 != a3) false (cond (!(a1.toList==a4.toList)) false (cond (!(a2.toList==a5.toList)) false true)))
noncomputable abbrev A3R (r:Bool):AV×List AObj:=((.t true .bool r),[])
noncomputable abbrev B4Q:pshsDen A9B→AV×List AObj:=fun d=>A3R (B4i d.1.1 d.1.2.1 d.1.2.2.1 d.2.1.1 d.2.1.2.1 d.2.1.2.2.1)
noncomputable abbrev B08:pshsDen A9B→Bool:=fun d=>true
theorem B8q:RunP true G46 aLn Try.f116 A9B B08 B4Q:=by
 rintro ⟨⟨a0,⟨a1,⟨a2,_⟩⟩⟩,⟨⟨a3,⟨a4,⟨a5,_⟩⟩⟩,_⟩⟩ hp
 refine Eq.trans (b:=(cond (a0 != a3) (some (A3R false)) (cond (!(a1.toList==a4.toList)) (some (A3R false)) (cond (!(a2.toList==a5.toList)) (some (A3R false)) (some (A3R true)))))) (by kernel_rfl) ?_
 exact (F9 A3R (fun _h=>rfl) (fun _h=>(F9 A3R (fun _h=>rfl) (fun _h=>(F9 A3R (fun _h=>rfl) (fun _h=>rfl))))))
theorem B9x:aPP 116 (sumOf A9B B08 B4Q):=pcD true G46 hlz B8q
noncomputable def S47:Tab:=Tab.add S46 116 (lift (sumOf A9B B08 B4Q))
noncomputable def C1g:FuncId→Bool:=qadd C1f 116
theorem G47:aPG S47 C1g:=G46.addQ B9x (cbl Try.f116) (fun _=>rfl)

abbrev C0s:List Sh:=.junk::.junk::.junk::B4V
abbrev u22:=((),(),(),(),u18)
abbrev u28:=((),u27)

noncomputable def A0p (x0 x1:Lq1) (i:Nat):Bool:=!(!(B4i ((x0.getD i ((0:Int),(bE,bE))).1) (((x0.getD i ((0:Int),(bE,bE))).2).1) (((x0.getD i ((0:Int),(bE,bE))).2).2) ((x1.getD i ((0:Int),(bE,bE))).1) (((x1.getD i ((0:Int),(bE,bE))).2).1) (((x1.getD i ((0:Int),(bE,bE))).2).2)))
abbrev A6F:List PSh:=[.t tq3,.t tq3]
abbrev A0n:SS:=⟨(.t false tq3::.t false tq3::.junk::.junk::.junk::tI::C0s),[]⟩
abbrev A9u:SS:=⟨(.junk::.junk::.junk::.junk::.t true .bool::B8f),[]⟩
abbrev A9v:SS:=⟨(.junk::B7a),[]⟩
noncomputable def A7H (x0 x1:Lq1) (x5:Int):RT A0n.den:=let z1:=x0.getD x5.toNat ((0:Int),(bE,bE));let z2:=x1.getD x5.toNat ((0:Int),(bE,bE));(.br (decide (x5<(x0.length:Int))) (.br (decide (0≤x5∧x5<(x0.length:Int))) (.br (decide (0≤x5∧x5<(x1.length:Int))) (.br (!(B4i (z1.1) ((z1.2).1) ((z1.2).2) (z2.1) ((z2.2).1) ((z2.2).2))) (.done .ret A9u (((),(),(),(),false,u23),())) (.next ((x0,x1,(),(),(),IntKind.wrap .i64 (x5+(1:Int)),u22),()))) .fail) .fail) (.done (.exit 0) A9v ((u28),())))
noncomputable def A3a (x0 x1:Lq1) (x5:Int):CT:=(.br (decide (0≤x5)&&(decide (x0.length=x1.length)&&okL x0)) (.br (allF (A0p x0 x1) (x0.length - x5.toNat) x5.toNat) (.done (.exit 0) A9v ((u28),())) (.done .ret A9u (((),(),(),(),false,u23),()))) .fail)
noncomputable abbrev A2d:A0n.den→RT A0n.den:=(fun d=>A7H d.1.1 d.1.2.1 d.1.2.2.2.2.2.1)
noncomputable abbrev B1v (x0 x1:Lq1) (x5:Int):A0n.den:=((x0,x1,(),(),(),x5,u22),())
noncomputable def A8e:Code:=((loopsIn 0 (bodyOf Try.f68)).getD 0 (0,.skip)).2
theorem B6N (x0 x1:Lq1) (x5:Int):(A3a x0 x1 x5).val (D:=A0n.den)=.fail∨Runs A2d (B1v x0 x1 x5) (A3a x0 x1 x5).val:=by
 cases hc:(decide (0≤x5)&&(decide (x0.length=x1.length)&&okL x0)) with
 | false=>left;simp only [A3a,CT.val,hc,cond_false]
 | true =>
  right
  simp only [A3a,CT.val,hc,cond_true]
  simp only [Bool.and_eq_true,decide_eq_true_eq] at hc
  obtain ⟨i,rfl⟩:=Int.eq_ofNat_of_zero_le hc.1
  have hs:=okL_le hc.2.2
  simp only [Int.toNat_natCast]
  refine Runs.scan (fun j=>B1v x0 x1 (j:Int)) (x0.length) (A0p x0 x1) (fun i hi=>?_) (fun i hi=>?_) ⟨_,_,_,rfl,by simp⟩ ⟨_,_,_,rfl,by simp⟩ _ _ rfl
  ·
   have h0a:decide ((i:Int)<(x0.length:Int))=true:=decide_eq_true (by omega)
   have h0b:decide (0≤(i:Int)∧(i:Int)<(x0.length:Int))=true:=decide_eq_true (by omega)
   simp only [A2d,A7H,RT.val,h0a,h0b,cond_true,wrapS i (by omega),Int.toNat_natCast]
   have h9:decide (0≤(i:Int)∧(i:Int)<(x1.length:Int))=true:=decide_eq_true (by omega)
   simp only [h9,cond_true]
   simp only [A0p]
   generalize (!(B4i ((x0.getD i ((0:Int),((⟨#[]⟩:ByteArray),(⟨#[]⟩:ByteArray)))).1) (((x0.getD i ((0:Int),((⟨#[]⟩:ByteArray),(⟨#[]⟩:ByteArray)))).2).1) (((x0.getD i ((0:Int),((⟨#[]⟩:ByteArray),(⟨#[]⟩:ByteArray)))).2).2) ((x1.getD i ((0:Int),((⟨#[]⟩:ByteArray),(⟨#[]⟩:ByteArray)))).1) (((x1.getD i ((0:Int),((⟨#[]⟩:ByteArray),(⟨#[]⟩:ByteArray)))).2).1) (((x1.getD i ((0:Int),((⟨#[]⟩:ByteArray),(⟨#[]⟩:ByteArray)))).2).2)))=c
   cases c<;>rfl
  ·have h1:decide ((i:Int)<(x0.length:Int))=false:=decide_eq_false (by omega)
   simp only [A2d,A7H,RT.val,h1,cond_false]
theorem B5a:RdA G47 aLn 0 A8e A0n 0 [] (kepts [4] [(0,[])]) (fun d=>(A2d d).opt 0 []):=by
 intro d
 kernel_rfl
noncomputable abbrev B0s:St→Option Tree:=A0n.say 0 [] [] (fun d=>A3a d.1.1 d.1.2.1 d.1.2.2.2.2.2.1)
theorem B6c:aPL B0s A8e:=SS.wp2 hlz [] A2d B5a (fun d=>rfl) _ (fun d=>B6N d.1.1 d.1.2.1 d.1.2.2.2.2.2.1)
noncomputable def B0Z (a0 a1:Lq1):Bool:=(cond ((a0.length:Int) != (a1.length:Int)) false (cond (allF (A0p a0 a1) (a0.length - (0:Int).toNat) (0:Int).toNat) true false))
noncomputable abbrev A4V (r:Bool):AV×List AObj:=((.t true .bool r),[])
noncomputable abbrev B2m:pshsDen A6F→AV×List AObj:=fun d=>A4V (B0Z d.1 d.2.1)
noncomputable def A7q (a0 a1:Lq1):Bool:=okL a0
noncomputable abbrev A9m:pshsDen A6F→Bool:=fun d=>A7q d.1 d.2.1
noncomputable abbrev B8y:Nat→St→Option Tree:=fun b=>match b with | 0=>B0s | _=>fun _=>none
theorem B7n:RunP true G47 (B8y) Try.f68 A6F A9m B2m:=by
 rintro ⟨(a0:Lq1),⟨(a1:Lq1),_⟩⟩ hp
 change A7q a0 a1=true at hp
 unfold A7q at hp
 refine Eq.trans (b:=(cond ((a0.length:Int) != (a1.length:Int)) (some (A4V false)) (cond (decide (0≤(0:Int))&&(decide (a0.length=a1.length)&&okL a0)) (cond (allF (A0p a0 a1) (a0.length - (0:Int).toNat) (0:Int).toNat) (some (A4V true)) (some (A4V false))) none))) (by kernel_rfl) ?_
 exact (F9 A4V (fun _h=>rfl) (fun _h=>(cndT (by simp only [okL,Bool.and_eq_true,decide_eq_true_eq] at hp ⊢;simp at _h;exact ⟨Int.le_refl 0,by omega,hp⟩) (fun _h=>(F9 A4V (fun _h=>rfl) (fun _h=>rfl))))))
theorem B8G:aPP 68 (sumOf A6F A9m B2m):=pcD true G47 (hl1 (i:=0) (by kernel_rfl) B6c) B7n
noncomputable def S48:Tab:=Tab.add S47 68 (lift (sumOf A6F A9m B2m))
noncomputable def C1h:FuncId→Bool:=qadd C1g 68
theorem G48:aPG S48 C1h:=G47.addQ B8G (cbl Try.f68) (fun _=>rfl)

abbrev A6G:List PSh:=[.agg [(.int .i64),(.int .i64),tq3],.agg [(.int .i64),(.int .i64),tq3]]
noncomputable def B2y (a0 a1:Int) (a2:Lq1) (a3 a4:Int) (a5:Lq1):Bool:=(cond (a0 != a3) false (cond (a1 != a4) false (cond (!(B0Z a2 a5)) false true)))
noncomputable abbrev A2a (r:Bool):AV×List AObj:=((.t true .bool r),[])
noncomputable abbrev B2n:pshsDen A6G→AV×List AObj:=fun d=>A2a (B2y d.1.1 d.1.2.1 d.1.2.2.1 d.2.1.1 d.2.1.2.1 d.2.1.2.2.1)
noncomputable def A3C (a0 a1:Int) (a2:Lq1) (a3 a4:Int) (a5:Lq1):Bool:=okL a2
noncomputable abbrev A9n:pshsDen A6G→Bool:=fun d=>A3C d.1.1 d.1.2.1 d.1.2.2.1 d.2.1.1 d.2.1.2.1 d.2.1.2.2.1
theorem B7o:RunP true G48 aLn Try.f20 A6G A9n B2n:=by
 rintro ⟨⟨a0,⟨a1,⟨a2,_⟩⟩⟩,⟨⟨a3,⟨a4,⟨a5,_⟩⟩⟩,_⟩⟩ hp
 change A3C a0 a1 a2 a3 a4 a5=true at hp
 unfold A3C at hp
 refine Eq.trans (b:=(cond (a0 != a3) (some (A2a false)) (cond (a1 != a4) (some (A2a false)) (cond (A7q a2 a5) (cond (!(B0Z a2 a5)) (some (A2a false)) (some (A2a true))) none)))) (by kernel_rfl) ?_
 exact (F9 A2a (fun _h=>rfl) (fun _h=>(F9 A2a (fun _h=>rfl) (fun _h=>(cndT (by first | rfl | decide | exact hp | (simp only [Bool.and_eq_true] at hp;simp only [hp];done) | (simp [*];done) | (simp [okL] at hp;simp [okL,MAXB];omega) | (simp_all;done) | (simp at *;omega)) (fun _h=>(F9 A2a (fun _h=>rfl) (fun _h=>rfl))))))))
theorem B8H:aPP 20 (sumOf A6G A9n B2n):=pcD true G48 hlz B7o
noncomputable def S49:Tab:=Tab.add S48 20 (lift (sumOf A6G A9n B2n))
noncomputable def C1i:FuncId→Bool:=qadd C1h 20
theorem G49:aPG S49 C1i:=G48.addQ B8H (cbl Try.f20) (fun _=>rfl)

abbrev A4H:List PSh:=[.t tq6,.t tq6]
abbrev V3:SS:=⟨(.t false tq6::.t false tq6::.junk::.junk::.junk::tI::C0s),[]⟩
abbrev A76:SS:=⟨(.junk::.junk::.junk::.junk::.t true .bool::B8f),[]⟩
abbrev A77:SS:=⟨(.junk::B7a),[]⟩
noncomputable def B0B (x0 x1:Lq2) (x5:Int):RT V3.den:=let z1:=x0.getD x5.toNat ((0:Int),((0:Int),[]));let z2:=x1.getD x5.toNat ((0:Int),((0:Int),[]));(.br (decide (x5<(x0.length:Int))) (.br (decide (0≤x5∧x5<(x0.length:Int))) (.br (decide (0≤x5∧x5<(x1.length:Int))) (.br (A3C (z1.1) ((z1.2).1) ((z1.2).2) (z2.1) ((z2.2).1) ((z2.2).2)) (.br (!(B2y (z1.1) ((z1.2).1) ((z1.2).2) (z2.1) ((z2.2).1) ((z2.2).2))) (.done .ret A76 (((),(),(),(),false,u23),())) (.next ((x0,x1,(),(),(),IntKind.wrap .i64 (x5+(1:Int)),u22),()))) .fail) .fail) .fail) (.done (.exit 0) A77 ((u28),())))
abbrev A3O:=(Lq2)×Lq2×(Int)
abbrev V0:=Nat×(Bool)
def A2F:V0:=(99,(false:Bool))
noncomputable def A2K (x0 x1:Lq2) (x5:Int):A3O ⊕ V0:=let z1:=x0.getD x5.toNat ((0:Int),((0:Int),[]));let z2:=x1.getD x5.toNat ((0:Int),((0:Int),[]));(cond (decide (x5<(x0.length:Int))) (cond (decide (0≤x5∧x5<(x0.length:Int))) (cond (decide (0≤x5∧x5<(x1.length:Int))) (cond (A3C (z1.1) ((z1.2).1) ((z1.2).2) (z2.1) ((z2.2).1) ((z2.2).2)) (cond (!(B2y (z1.1) ((z1.2).1) ((z1.2).2) (z2.1) ((z2.2).1) ((z2.2).2))) (.inr (0,false)) (.inl (x0,x1,IntKind.wrap .i64 (x5+(1:Int))))) (.inr A2F)) (.inr A2F)) (.inr A2F)) (.inr (1,(false:Bool))))
noncomputable def A06 (x0 x1:Lq2) (x5:Int):V0:=itX (fun v:A3O=>A2K v.1 v.2.1 v.2.2) A2F (x0,x1,x5)
noncomputable def A5g (a:V0):CT:=(.br (a.1==0) (.done .ret A76 (((),(),(),(),a.2,u23),())) (.br (a.1==1) (.done (.exit 0) A77 ((u28),())) .fail))
noncomputable def B5Q (x0 x1:Lq2) (x5:Int):CT:=A5g (A06 x0 x1 x5)
noncomputable abbrev A5R:V3.den→RT V3.den:=(fun d=>B0B d.1.1 d.1.2.1 d.1.2.2.2.2.2.1)
noncomputable def A6O:Code:=((loopsIn 0 (bodyOf Try.f40)).getD 0 (0,.skip)).2
noncomputable abbrev B0c (v:A3O):V3.den:=((v.1,v.2.1,(),(),(),v.2.2,u22),())
theorem B5i:(∀ v:A3O,(B0B v.1 v.2.1 v.2.2).val=relS B0c A5g (A2K v.1 v.2.1 v.2.2))∧∀ a:V0,CEnd V3.den (A5g a):=⟨fun v=>(relB (relB (relB (relB (relB rfl rfl) rfl) rfl) rfl) rfl),fun a=>(cendB aCD (cendB aCD cendF))⟩
theorem B3F:RdA G49 aLn 0 A6O V3 0 [] (kepts [4] [(0,[])]) (fun d=>(A5R d).opt 0 []):=by
 intro d
 kernel_rfl
noncomputable abbrev A8R:St→Option Tree:=V3.say 0 [] [] (fun d=>B5Q d.1.1 d.1.2.1 d.1.2.2.2.2.2.1)
theorem B42:aPL A8R A6O:=SS.wp2 hlz [] A5R B3F (fun d=>rfl) _ (fun d=>Runs.ofI2 (step:=A5R) B0c B5i rfl (d.1.1,d.1.2.1,d.1.2.2.2.2.2.1))
noncomputable def A7U (a0 a1:Lq2):Bool:=let z1:=A06 a0 a1 (0:Int);(cond ((a0.length:Int) != (a1.length:Int)) false (cond (z1.1==0) (z1.2) true))
noncomputable abbrev A2T (r:Bool):AV×List AObj:=((.t true .bool r),[])
noncomputable abbrev B0S:pshsDen A4H→AV×List AObj:=fun d=>A2T (A7U d.1 d.2.1)
noncomputable def A1w (a0 a1:Lq2):Bool:=let z1:=A06 a0 a1 (0:Int);cond ((a0.length:Int) != (a1.length:Int)) true (cond (z1.1==0) true (z1.1==1))
noncomputable abbrev A7e:pshsDen A4H→Bool:=fun d=>A1w d.1 d.2.1
noncomputable abbrev B7J:Nat→St→Option Tree:=fun b=>match b with | 0=>A8R | _=>fun _=>none
theorem B6q:RunP true G49 (B7J) Try.f40 A4H A7e B0S:=by
 rintro ⟨a0,⟨a1,_⟩⟩ hp
 change A1w a0 a1=true at hp
 unfold A1w at hp
 refine Eq.trans (b:=(let z1:=A06 a0 a1 (0:Int);cond ((a0.length:Int) != (a1.length:Int)) (some (A2T false)) (cond (z1.1==0) (some (A2T (z1.2))) (cond (z1.1==1) (some (A2T true)) none)))) (by kernel_rfl) ?_
 exact (O8 A2T hp (fun hp=>rfl) (fun hp=>(O8 A2T hp (fun hp=>rfl) (fun hp=>(cndT hp fun _h=>rfl)))))
theorem B7X:aPP 40 (sumOf A4H A7e B0S):=pcD true G49 (hl1 (i:=0) (by kernel_rfl) B42) B6q
noncomputable def S50:Tab:=Tab.add S49 40 (lift (sumOf A4H A7e B0S))
noncomputable def C1j:FuncId→Bool:=qadd C1i 40
theorem G50:aPG S50 C1j:=G49.addQ B7X (cbl Try.f40) (fun _=>rfl)

abbrev C2u:List Sh:=.junk::.junk::B4V
abbrev C2v:List Sh:=.junk::C0t
abbrev u21:=((),(),(),u18)

noncomputable def Y4 (x0 x1:List Int) (i:Nat):Bool:=!((x0.getD i (0:Int)) != (x1.getD i (0:Int)))
abbrev A23:List PSh:=[.t C6,.t C6]
abbrev R1:SS:=⟨(.t false C6::.t false C6::.junk::.junk::.junk::tI::C2u),[]⟩
abbrev A6w:SS:=⟨(.junk::.junk::.junk::.junk::.t true .bool::C0s),[]⟩
abbrev A6x:SS:=⟨(.junk::C2v),[]⟩
noncomputable def A4v (x0 x1:List Int) (x5:Int):RT R1.den:=(.br (decide (x5<(x0.length:Int))) (.br (decide (0≤x5∧x5<(x0.length:Int))) (.br (decide (0≤x5∧x5<(x1.length:Int))) (.br ((x0.getD x5.toNat (0:Int)) != (x1.getD x5.toNat (0:Int))) (.done .ret A6w (((),(),(),(),false,u22),())) (.next ((x0,x1,(),(),(),IntKind.wrap .i64 (x5+(1:Int)),u21),()))) .fail) .fail) (.done (.exit 0) A6x ((u27),())))
noncomputable def A0Q (x0 x1:List Int) (x5:Int):CT:=(.br (decide (0≤x5)&&(decide (x0.length=x1.length)&&okL x0)) (.br (allF (Y4 x0 x1) (x0.length - x5.toNat) x5.toNat) (.done (.exit 0) A6x ((u27),())) (.done .ret A6w (((),(),(),(),false,u22),()))) .fail)
noncomputable abbrev A0g:R1.den→RT R1.den:=(fun d=>A4v d.1.1 d.1.2.1 d.1.2.2.2.2.2.1)
noncomputable abbrev A8A (x0 x1:List Int) (x5:Int):R1.den:=((x0,x1,(),(),(),x5,u21),())
noncomputable def A55:Code:=((loopsIn 0 (bodyOf Try.f19)).getD 0 (0,.skip)).2
theorem B4v (x0 x1:List Int) (x5:Int):(A0Q x0 x1 x5).val (D:=R1.den)=.fail∨Runs A0g (A8A x0 x1 x5) (A0Q x0 x1 x5).val:=by
 cases hc:(decide (0≤x5)&&(decide (x0.length=x1.length)&&okL x0)) with
 | false=>left;simp only [A0Q,CT.val,hc,cond_false]
 | true =>
  right
  simp only [A0Q,CT.val,hc,cond_true]
  simp only [Bool.and_eq_true,decide_eq_true_eq] at hc
  obtain ⟨i,rfl⟩:=Int.eq_ofNat_of_zero_le hc.1
  have hs:=okL_le hc.2.2
  simp only [Int.toNat_natCast]
  refine Runs.scan (fun j=>A8A x0 x1 (j:Int)) (x0.length) (Y4 x0 x1) (fun i hi=>?_) (fun i hi=>?_) ⟨_,_,_,rfl,by simp⟩ ⟨_,_,_,rfl,by simp⟩ _ _ rfl
  ·
   have h0a:decide ((i:Int)<(x0.length:Int))=true:=decide_eq_true (by omega)
   have h0b:decide (0≤(i:Int)∧(i:Int)<(x0.length:Int))=true:=decide_eq_true (by omega)
   simp only [A0g,A4v,RT.val,h0a,h0b,cond_true,wrapS i (by omega),Int.toNat_natCast]
   have h9:decide (0≤(i:Int)∧(i:Int)<(x1.length:Int))=true:=decide_eq_true (by omega)
   simp only [h9,cond_true]
   simp only [Y4]
   generalize ((x0.getD i (0:Int)) != (x1.getD i (0:Int)))=c
   cases c<;>rfl
  ·have h1:decide ((i:Int)<(x0.length:Int))=false:=decide_eq_false (by omega)
   simp only [A0g,A4v,RT.val,h1,cond_false]
theorem B2L:RdA G50 aLn 0 A55 R1 0 [] (kepts [4] [(0,[])]) (fun d=>(A0g d).opt 0 []):=by
 intro d
 kernel_rfl
noncomputable abbrev A7x:St→Option Tree:=R1.say 0 [] [] (fun d=>A0Q d.1.1 d.1.2.1 d.1.2.2.2.2.2.1)
theorem B3q:aPL A7x A55:=SS.wp2 hlz [] A0g B2L (fun d=>rfl) _ (fun d=>B4v d.1.1 d.1.2.1 d.1.2.2.2.2.2.1)
noncomputable def A4X (a0 a1:List Int):Bool:=(cond ((a0.length:Int) != (a1.length:Int)) false (cond (allF (Y4 a0 a1) (a0.length - (0:Int).toNat) (0:Int).toNat) true false))
noncomputable abbrev A1o (r:Bool):AV×List AObj:=((.t true .bool r),[])
noncomputable abbrev A9a:pshsDen A23→AV×List AObj:=fun d=>A1o (A4X d.1 d.2.1)
noncomputable def A1v (a0 a1:List Int):Bool:=okL a0
noncomputable abbrev A5H:pshsDen A23→Bool:=fun d=>A1v d.1 d.2.1
noncomputable abbrev B6G:Nat→St→Option Tree:=fun b=>match b with | 0=>A7x | _=>fun _=>none
theorem B5t:RunP true G50 (B6G) Try.f19 A23 A5H A9a:=by
 rintro ⟨(a0:List Int),⟨(a1:List Int),_⟩⟩ hp
 change A1v a0 a1=true at hp
 unfold A1v at hp
 refine Eq.trans (b:=(cond ((a0.length:Int) != (a1.length:Int)) (some (A1o false)) (cond (decide (0≤(0:Int))&&(decide (a0.length=a1.length)&&okL a0)) (cond (allF (Y4 a0 a1) (a0.length - (0:Int).toNat) (0:Int).toNat) (some (A1o true)) (some (A1o false))) none))) (by kernel_rfl) ?_
 exact (F9 A1o (fun _h=>rfl) (fun _h=>(cndT (by simp only [okL,Bool.and_eq_true,decide_eq_true_eq] at hp ⊢;simp at _h;exact ⟨Int.le_refl 0,by omega,hp⟩) (fun _h=>(F9 A1o (fun _h=>rfl) (fun _h=>rfl))))))
theorem B6V:aPP 19 (sumOf A23 A5H A9a):=pcD true G50 (hl1 (i:=0) (by kernel_rfl) B3q) B5t
noncomputable def S51:Tab:=Tab.add S50 19 (lift (sumOf A23 A5H A9a))
noncomputable def C1k:FuncId→Bool:=qadd C1j 19
theorem G51:aPG S51 C1k:=G50.addQ B6V (cbl Try.f19) (fun _=>rfl)

abbrev u19:=((),u18)

noncomputable def C8 (i:Nat) (b:Int×List Int):Int×List Int:=(IntKind.wrap .i64 (b.1+(1:Int)),b.2.set i (IntKind.wrap .u8 b.1))
abbrev A1H:SS:=⟨[.all 0 1,tI],[.rows 5 true (.int .u8)]⟩
abbrev K6:SS:=⟨(.all 0 1::tI::.junk::.junk::.junk::tI::B9J),[.rows 5 true (.int .u8)]⟩
abbrev A1l:SS:=⟨(.junk::tI::B4V),[.rows 5 true (.int .u8)]⟩
noncomputable def A2v (x1 x5:Int) (h0:List Int):RT K6.den:=(.br (decide (x5<(h0.length:Int))) (.br (decide (0≤x5∧x5<(h0.length:Int))) (.next (((),IntKind.wrap .i64 (x1+(1:Int)),(),(),(),IntKind.wrap .i64 (x5+(1:Int)),u15),(h0.set x5.toNat (IntKind.wrap .u8 x1),()))) .fail) (.done (.exit 0) A1l (((),x1,u19),(h0,()))))
noncomputable def V5 (x1 x5:Int) (h0:List Int):CT:=(.br (decide (0≤x5)&&(decide (0≤x1∧x1≤100000*(x5+100))&&okL h0)) (.done (.exit 0) A1l (((),((foldN C8 (h0.length - x5.toNat) x5.toNat (x1,h0)).1),u19),(((foldN C8 (h0.length - x5.toNat) x5.toNat (x1,h0)).2),()))) .fail)
noncomputable abbrev L6:K6.den→RT K6.den:=(fun d=>A2v d.1.2.1 d.1.2.2.2.2.2.1 d.2.1)
noncomputable abbrev A6d (x1 x5:Int) (h0:List Int):K6.den:=(((),x1,(),(),(),x5,u15),(h0,()))
noncomputable def A3Q:Code:=((loopsIn 0 (bodyOf Try.f22)).getD 0 (0,.skip)).2
theorem B15 (x1 x5:Int) (h0:List Int):(V5 x1 x5 h0).val (D:=K6.den)=.fail∨Runs L6 (A6d x1 x5 h0) (V5 x1 x5 h0).val:=by
 cases hc:(decide (0≤x5)&&(decide (0≤x1∧x1≤100000*(x5+100))&&okL h0)) with
 | false=>left;simp only [V5,CT.val,hc,cond_false]
 | true =>
  right
  simp only [V5,CT.val,hc,cond_true]
  simp only [Bool.and_eq_true,decide_eq_true_eq] at hc
  obtain ⟨i,rfl⟩:=Int.eq_ofNat_of_zero_le hc.1
  have hs:=okL_le hc.2.2
  have hk:=hc.2.1
  simp only [Int.toNat_natCast]
  refine Runs.foldN (step:=L6) (fun j b=>A6d b.1 (j:Int) b.2) (fun i b=>(0≤b.1∧b.1≤100000*((i:Int)+100))∧b.2.length=h0.length) (h0.length) C8
   (fin:=fun b=>((.done (.exit 0) A1l (((),b.1,u19),(b.2,()))):CT).val) (fun i b hi hb=>?_) (fun i b hi hb=>?_) (h0.length - i) i (x1,h0) rfl ⟨hk,rfl⟩
  ·obtain ⟨k,h⟩:=b
   obtain ⟨hb1,hb2⟩:=hb
   simp only at hb1 hb2
   have w1:IntKind.wrap .i64 (k+(1:Int))=k+(1:Int):=wrap64 (by omega) (by omega)
   have e0:(decide (0≤(i:Int)∧(i:Int)<(h.length:Int)))=true:=decide_eq_true (by (try simp only [List.length_set]);omega)
   have h1:decide ((i:Int)<(h.length:Int))=true:=decide_eq_true (by omega)
   have v1:(C8 i (k,h)).1=k+(1:Int):=by simp only [C8,w1]
   have v2:(C8 i (k,h)).2.length=h.length:=by simp only [C8,List.length_set]
   refine ⟨⟨by rw [v1];omega,by rw [v2];exact hb2⟩,?_⟩
   simp only [L6,A2v,RT.val,h1,e0,cond_true,wrapS i (by omega),Int.toNat_natCast]
   rfl
  ·have h1:decide ((i:Int)<(b.2.length:Int))=false:=decide_eq_false (by omega)
   exact ⟨by simp only [L6,A2v,RT.val,h1,cond_false];rfl,_,_,_,rfl,by simp⟩
theorem B1d:RdA G51 aLn 0 A3Q K6 1 [] (kepts [] [(0,[1])]) (fun d=>(L6 d).opt 1 []):=by
 intro d
 kernel_rfl
noncomputable abbrev A47:St→Option Tree:=K6.say 1 [] [] (fun d=>V5 d.1.2.1 d.1.2.2.2.2.2.1 d.2.1)
theorem B1G:aPL A47 A3Q:=SS.wp2 hlz [] L6 B1d (fun d=>rfl) _ (fun d=>B15 d.1.2.1 d.1.2.2.2.2.2.1 d.2.1)
noncomputable def A1t (x1:Int) (h0:List Int):Int×List Int:=let z1:=foldN C8 (h0.length - (0:Int).toNat) (0:Int).toNat (x1,h0);((z1.1),(z1.2))
noncomputable abbrev A9J (r:Int×List Int):AV×List AObj×List Nat:=((ti r.1),[(.rows 5 true (.int .u8) r.2)],[])
noncomputable abbrev A9Q:A1H.den→AV×List AObj×List Nat:=fun d=>A9J (A1t d.1.2.1 d.2.1)
noncomputable def Y9 (x1:Int) (h0:List Int):Bool:=okL h0&&decide (0≤x1∧x1≤10000000)
noncomputable abbrev A7f:A1H.den→Bool:=fun d=>Y9 d.1.2.1 d.2.1
noncomputable abbrev B4t:Nat→St→Option Tree:=fun b=>match b with | 0=>A47 | _=>fun _=>none
theorem B27:RunM G51 (B4t) Try.f22 A1H A7f A9Q:=by
 rintro ⟨⟨_,x1,_⟩,⟨h0,_⟩⟩ hp
 change Y9 x1 h0=true at hp
 unfold Y9 at hp
 refine Eq.trans (b:=(let z1:=foldN C8 (h0.length - (0:Int).toNat) (0:Int).toNat (x1,h0);cond (decide (0≤(0:Int))&&(decide (0≤x1∧x1≤100000*((0:Int)+100))&&okL h0)) (some (A9J ((z1.1),(z1.2)))) none)) (by kernel_rfl) ?_
 exact (cndT (by first | rfl | decide | exact hp | (simp only [Bool.and_eq_true] at hp;simp only [hp];done) | (simp [*];done) | (simp [okL] at hp;simp [okL,MAXB];omega) | (simp_all;done) | (simp at *;omega)) (fun _h=>rfl))
noncomputable abbrev A9T:=win winIds (msum A1H A7f A9Q)
theorem B4I:aPM 22 A9T:=(mcM G51 (hl1 (i:=0) (by kernel_rfl) B1G) B27).win winIds
noncomputable def S52:Tab:=Tab.add S51 22 (A9T)
noncomputable def C1l:FuncId→Bool:=C1k
theorem G52:aPG S52 C1l:=G51.addM B4I (win_local _) (cbl Try.f22) (by kernel_rfl)

abbrev A1Z:List PSh:=[.t (.int .i64)]
abbrev J7:SS:=⟨(tI::.junk::.junk::.t true .str::C0r),[]⟩
abbrev A2h:SS:=⟨(.junk::.junk::.junk::.t true .str::C0r),[]⟩
noncomputable def A1j (x0:Int) (x3:ByteArray):RT J7.den:=(.br (decide (x0 > (0:Int))) (.br (decide ((((⟨([IntKind.wrap .u8 (IntKind.wrap .i64 ((48:Int)+(Int.tmod x0 (10:Int))))].map fun n=>UInt8.ofNat n.toNat).toArray⟩:ByteArray).size+x3.size:Nat):Int)≤IntKind.i64.max)) (.next ((IntKind.wrap .i64 (Int.tdiv x0 (10:Int)),(),(),(⟨([IntKind.wrap .u8 (IntKind.wrap .i64 ((48:Int)+(Int.tmod x0 (10:Int))))].map fun n=>UInt8.ofNat n.toNat).toArray⟩:ByteArray)++x3,u17),())) .fail) (.done (.exit 0) A2h (((),(),(),x3,u17),())))
noncomputable def A0b (x0:Int) (x3:ByteArray):CT:=(.br (decide (x0≤1000000000000)&&decide (x3.size≤1000)) (.done (.exit 0) A2h (((),(),(),(B0I 13 x0 x3),u17),())) .fail)
noncomputable abbrev H9:J7.den→RT J7.den:=(fun d=>A1j d.1.1 d.1.2.2.2.1)
noncomputable abbrev X0 (x0:Int) (x3:ByteArray):J7.den:=((x0,(),(),x3,u17),())
noncomputable def A4S:Code:=((loopsIn 0 (bodyOf Try.f90)).getD 0 (0,.skip)).2
theorem B3c (x0:Int) (x3:ByteArray):(A0b x0 x3).val (D:=J7.den)=.fail∨Runs H9 (X0 x0 x3) (A0b x0 x3).val:=by
 cases hc:(decide (x0≤1000000000000)&&decide (x3.size≤1000)) with
 | false=>left;simp only [A0b,CT.val,hc,cond_false]
 | true =>
  right
  simp only [A0b,CT.val,hc,cond_true]
  simp only [Bool.and_eq_true,decide_eq_true_eq] at hc
  have key:∀ (k:Nat) (x:Int) (s:ByteArray),x<10 ^ k→x≤1000000000000→s.size+k≤2000→Runs H9 (X0 x s) (((.done (.exit 0) A2h (((),(),(),(B0I k x s),u17),())):CT).val (D:=J7.den)):=by
   intro k
   induction k with
   | zero =>
    intro x s h1 h2 h3
    rw [show (10:Int) ^ 0=1 from rfl] at h1
    have e1:decide (x > (0:Int))=false:=decide_eq_false (by omega)
    refine .done (by simp) ?_
    simp only [H9,A1j,RT.val,e1,cond_false,B0I]
   | succ k ih =>
    intro x s h1 h2 h3
    rw [Int.pow_succ] at h1
    by_cases hx:x > 0
    ·have e1:decide (x > (0:Int))=true:=decide_eq_true hx
     have e2:decide ((((B4K x).size+s.size:Nat):Int)≤IntKind.i64.max)=true:=decide_eq_true (by rw [B0K,show IntKind.i64.max=9223372036854775807 from rfl];omega)
     have e4:Int.tdiv x (10:Int)=x / 10:=Int.tdiv_eq_ediv_of_nonneg (by omega)
     have e5:IntKind.wrap .i64 (Int.tdiv x (10:Int))=x / 10:=by rw [e4];exact wrap64 (by omega) (by omega)
     have:=ih (IntKind.wrap .i64 (Int.tdiv x (10:Int))) (B4K x++s) (by rw [e5];omega) (by rw [e5];omega) (by rw [ByteArray.size_append,B0K];omega)
     refine .next (d':=X0 (IntKind.wrap .i64 (Int.tdiv x (10:Int))) (B4K x++s)) ?_ ?_
     ·have e6 : (H9 (X0 x s)).val = cond (decide ((((B4K x).size + s.size : Nat) : Int) ≤ IntKind.i64.max)) (.next (X0 (IntKind.wrap .i64 (Int.tdiv x (10 : Int))) (B4K x ++ s))) .fail := by
       simp only [H9,A1j,RT.val,e1,cond_true];rfl
      rw [e6,e2];rfl
     ·have e3:B0I (k+1) x s=B0I k (IntKind.wrap .i64 (Int.tdiv x (10:Int))) (B4K x++s):=by simp only [B0I,e1,cond_true]
      rw [e3]
      exact this
    ·have e1:decide (x > (0:Int))=false:=decide_eq_false hx
     refine .done (by simp) ?_
     simp only [H9,A1j,RT.val,e1,cond_false,B0I]
  exact key 13 x0 x3 (by have:=hc.1;rw [show (10:Int) ^ 13=10000000000000 from rfl];omega) hc.1 (by have:=hc.2;omega)
theorem B1K:RdA G52 aLn 0 A4S J7 0 [] (kepts [] [(0,[3])]) (fun d=>(H9 d).opt 0 []):=by
 intro d
 kernel_rfl
noncomputable abbrev A6n:St→Option Tree:=J7.say 0 [] [] (fun d=>A0b d.1.1 d.1.2.2.2.1)
theorem B2C:aPL A6n A4S:=SS.wp2 hlz [] H9 B1K (fun d=>rfl) _ (fun d=>B3c d.1.1 d.1.2.2.2.1)
noncomputable def C1 (a0:Int):ByteArray:=(cond (decide (a0≤(0:Int))) (⟨#[109,48]⟩:ByteArray) ((⟨#[109]⟩:ByteArray)++(B0I 13 a0 bE)))
noncomputable abbrev A3T (r:ByteArray):AV×List AObj:=((.t true .str r),[])
noncomputable abbrev A6V:pshsDen A1Z→AV×List AObj:=fun d=>A3T (C1 d.1)
noncomputable def B9 (a0:Int):Bool:=decide (a0≤1000000000000)
noncomputable abbrev A4k:pshsDen A1Z→Bool:=fun d=>B9 d.1
noncomputable abbrev B5I:Nat→St→Option Tree:=fun b=>match b with | 0=>A6n | _=>fun _=>none
theorem B34:RunP true G52 (B5I) Try.f90 A1Z A4k A6V:=by
 rintro ⟨(a0:Int),_⟩ hp
 change B9 a0=true at hp
 unfold B9 at hp
 refine Eq.trans (b:=(cond (decide (a0≤(0:Int))) (some (A3T (⟨#[109,48]⟩:ByteArray))) (cond (decide (a0≤1000000000000)&&decide ((⟨#[]⟩:ByteArray).size≤1000)) (cond (decide ((((⟨#[109]⟩:ByteArray).size+(B0I 13 a0 (⟨#[]⟩:ByteArray)).size:Nat):Int)≤IntKind.i64.max)) (some (A3T ((⟨#[109]⟩:ByteArray)++(B0I 13 a0 (⟨#[]⟩:ByteArray))))) none) none))) (by kernel_rfl) ?_
 exact (F9 A3T (fun _h=>rfl) (fun _h=>(cndT (by rw [hp];rfl) (fun _h=>(cndT (by have h1:=B9q 13 a0 (⟨#[]⟩:ByteArray);rw [decide_eq_true_eq];have h2:((⟨#[]⟩:ByteArray)).size=0:=rfl;have h3:((⟨#[109]⟩:ByteArray)).size=1:=rfl;rw [h2] at h1;rw [h3,show IntKind.i64.max=9223372036854775807 from rfl];omega) (fun _h=>rfl))))))
theorem B50:aPP 90 (sumOf A1Z A4k A6V):=pcD true G52 (hl1 (i:=0) (by kernel_rfl) B2C) B34
noncomputable def S53:Tab:=Tab.add S52 90 (lift (sumOf A1Z A4k A6V))
noncomputable def C1m:FuncId→Bool:=qadd C1l 90
theorem G53:aPG S53 C1m:=G52.addQ B50 (cbl Try.f90) (fun _=>rfl)

abbrev u31:=((),u30)

noncomputable def C7 (i:Nat) (b:Int×Lq1):Int×Lq1:=(IntKind.wrap .i64 ((IntKind.wrap .i64 ((IntKind.wrap .i64 (b.1+(1:Int)))+(1:Int)))+(1:Int)),((b.2.set i (b.1,(((b.2.getD i ((0:Int),(bE,bE))).2).1,((b.2.getD i ((0:Int),(bE,bE))).2).2))).set i (((b.2.set i (b.1,(((b.2.getD i ((0:Int),(bE,bE))).2).1,((b.2.getD i ((0:Int),(bE,bE))).2).2))).getD i ((0:Int),(bE,bE))).1,((C1 (IntKind.wrap .i64 (b.1+(1:Int)))),(((b.2.set i (b.1,(((b.2.getD i ((0:Int),(bE,bE))).2).1,((b.2.getD i ((0:Int),(bE,bE))).2).2))).getD i ((0:Int),(bE,bE))).2).2))).set i ((((b.2.set i (b.1,(((b.2.getD i ((0:Int),(bE,bE))).2).1,((b.2.getD i ((0:Int),(bE,bE))).2).2))).set i (((b.2.set i (b.1,(((b.2.getD i ((0:Int),(bE,bE))).2).1,((b.2.getD i ((0:Int),(bE,bE))).2).2))).getD i ((0:Int),(bE,bE))).1,((C1 (IntKind.wrap .i64 (b.1+(1:Int)))),(((b.2.set i (b.1,(((b.2.getD i ((0:Int),(bE,bE))).2).1,((b.2.getD i ((0:Int),(bE,bE))).2).2))).getD i ((0:Int),(bE,bE))).2).2))).getD i ((0:Int),(bE,bE))).1,(((((b.2.set i (b.1,(((b.2.getD i ((0:Int),(bE,bE))).2).1,((b.2.getD i ((0:Int),(bE,bE))).2).2))).set i (((b.2.set i (b.1,(((b.2.getD i ((0:Int),(bE,bE))).2).1,((b.2.getD i ((0:Int),(bE,bE))).2).2))).getD i ((0:Int),(bE,bE))).1,((C1 (IntKind.wrap .i64 (b.1+(1:Int)))),(((b.2.set i (b.1,(((b.2.getD i ((0:Int),(bE,bE))).2).1,((b.2.getD i ((0:Int),(bE,bE))).2).2))).getD i ((0:Int),(bE,bE))).2).2))).getD i ((0:Int),(bE,bE))).2).1,(C1 (IntKind.wrap .i64 ((IntKind.wrap .i64 (b.1+(1:Int)))+(1:Int)))))))
abbrev A3M:SS:=⟨[.all 0 3,tI],[.rows 124 true tq5]⟩
abbrev M1:SS:=⟨(.all 0 3::tI::.junk::.junk::.junk::tI::B6a),[.rows 124 true tq5]⟩
abbrev A2Y:SS:=⟨(.junk::tI::B88),[.rows 124 true tq5]⟩
noncomputable def A4x (x1 x5:Int) (h0:Lq1):RT M1.den:=let z4:=IntKind.wrap .i64 (x1+(1:Int));let z3:=IntKind.wrap .i64 (z4+(1:Int));let z5:=(h0.getD x5.toNat ((0:Int),(bE,bE))).2;let z2:=h0.set x5.toNat (x1,(z5.1,z5.2));let z7:=z2.getD x5.toNat ((0:Int),(bE,bE));let z1:=z2.set x5.toNat (z7.1,((C1 z4),(z7.2).2));let z6:=z1.getD x5.toNat ((0:Int),(bE,bE));(.br (decide (x5<(h0.length:Int))) (.br (decide (0≤x5∧x5<(h0.length:Int))) (.br (B9 z4) (.br (decide (0≤x5∧x5<((z2.length:Nat):Int))) (.br (B9 z3) (.br (decide (0≤x5∧x5<((z1.length:Nat):Int))) (.next (((),IntKind.wrap .i64 (z3+(1:Int)),(),(),(),IntKind.wrap .i64 (x5+(1:Int)),u31),(z1.set x5.toNat (z6.1,((z6.2).1,(C1 z3))),()))) .fail) .fail) .fail) .fail) .fail) (.done (.exit 0) A2Y (((),x1,u35),(h0,()))))
noncomputable def A0S (x1 x5:Int) (h0:Lq1):CT:=(.br (decide (0≤x5)&&(decide (0≤x1∧x1≤100000*(x5+100))&&okL h0)) (.done (.exit 0) A2Y (((),((foldN C7 (h0.length - x5.toNat) x5.toNat (x1,h0)).1),u35),(((foldN C7 (h0.length - x5.toNat) x5.toNat (x1,h0)).2),()))) .fail)
noncomputable abbrev U6:M1.den→RT M1.den:=(fun d=>A4x d.1.2.1 d.1.2.2.2.2.2.1 d.2.1)
noncomputable abbrev A8B (x1 x5:Int) (h0:Lq1):M1.den:=(((),x1,(),(),(),x5,u31),(h0,()))
noncomputable def A57:Code:=((loopsIn 0 (bodyOf Try.f69)).getD 0 (0,.skip)).2
theorem B4x (x1 x5:Int) (h0:Lq1):(A0S x1 x5 h0).val (D:=M1.den)=.fail∨Runs U6 (A8B x1 x5 h0) (A0S x1 x5 h0).val:=by
 cases hc:(decide (0≤x5)&&(decide (0≤x1∧x1≤100000*(x5+100))&&okL h0)) with
 | false=>left;simp only [A0S,CT.val,hc,cond_false]
 | true =>
  right
  simp only [A0S,CT.val,hc,cond_true]
  simp only [Bool.and_eq_true,decide_eq_true_eq] at hc
  obtain ⟨i,rfl⟩:=Int.eq_ofNat_of_zero_le hc.1
  have hs:=okL_le hc.2.2
  have hk:=hc.2.1
  simp only [Int.toNat_natCast]
  refine Runs.foldN (step:=U6) (fun j b=>A8B b.1 (j:Int) b.2) (fun i b=>(0≤b.1∧b.1≤100000*((i:Int)+100))∧b.2.length=h0.length) (h0.length) C7
   (fin:=fun b=>((.done (.exit 0) A2Y (((),b.1,u35),(b.2,()))):CT).val) (fun i b hi hb=>?_) (fun i b hi hb=>?_) (h0.length - i) i (x1,h0) rfl ⟨hk,rfl⟩
  ·obtain ⟨k,h⟩:=b
   obtain ⟨hb1,hb2⟩:=hb
   simp only at hb1 hb2
   have w1:IntKind.wrap .i64 (k+(1:Int))=k+(1:Int):=wrap64 (by omega) (by omega)
   have w2:IntKind.wrap .i64 (k+(1:Int)+(1:Int))=k+(1:Int)+(1:Int):=wrap64 (by omega) (by omega)
   have w3:IntKind.wrap .i64 (k+(1:Int)+(1:Int)+(1:Int))=k+(1:Int)+(1:Int)+(1:Int):=wrap64 (by omega) (by omega)
   have e0:(decide (0≤(i:Int)∧(i:Int)<(h.length:Int)))=true:=decide_eq_true (by (try simp only [List.length_set]);omega)
   have e1:(B9 (IntKind.wrap .i64 (k+(1:Int))))=true:=by simp only [B9,w1,w2,w3];exact decide_eq_true (by omega)
   have e2:(decide (0≤(i:Int)∧(i:Int)<(((h.set i (k,(((h.getD i ((0:Int),((⟨#[]⟩:ByteArray),(⟨#[]⟩:ByteArray)))).2).1,((h.getD i ((0:Int),((⟨#[]⟩:ByteArray),(⟨#[]⟩:ByteArray)))).2).2))).length:Nat):Int)))=true:=decide_eq_true (by (try simp only [List.length_set]);omega)
   have e3:(B9 (IntKind.wrap .i64 ((IntKind.wrap .i64 (k+(1:Int)))+(1:Int))))=true:=by simp only [B9,w1,w2,w3];exact decide_eq_true (by omega)
   have e4:(decide (0≤(i:Int)∧(i:Int)<((((h.set i (k,(((h.getD i ((0:Int),((⟨#[]⟩:ByteArray),(⟨#[]⟩:ByteArray)))).2).1,((h.getD i ((0:Int),((⟨#[]⟩:ByteArray),(⟨#[]⟩:ByteArray)))).2).2))).set i (((h.set i (k,(((h.getD i ((0:Int),((⟨#[]⟩:ByteArray),(⟨#[]⟩:ByteArray)))).2).1,((h.getD i ((0:Int),((⟨#[]⟩:ByteArray),(⟨#[]⟩:ByteArray)))).2).2))).getD i ((0:Int),((⟨#[]⟩:ByteArray),(⟨#[]⟩:ByteArray)))).1,((C1 (IntKind.wrap .i64 (k+(1:Int)))),(((h.set i (k,(((h.getD i ((0:Int),((⟨#[]⟩:ByteArray),(⟨#[]⟩:ByteArray)))).2).1,((h.getD i ((0:Int),((⟨#[]⟩:ByteArray),(⟨#[]⟩:ByteArray)))).2).2))).getD i ((0:Int),((⟨#[]⟩:ByteArray),(⟨#[]⟩:ByteArray)))).2).2))).length:Nat):Int)))=true:=decide_eq_true (by (try simp only [List.length_set]);omega)
   have h1:decide ((i:Int)<(h.length:Int))=true:=decide_eq_true (by omega)
   have v1:(C7 i (k,h)).1=k+(1:Int)+(1:Int)+(1:Int):=by simp only [C7,w1,w2,w3]
   have v2:(C7 i (k,h)).2.length=h.length:=by simp only [C7,List.length_set]
   refine ⟨⟨by rw [v1];omega,by rw [v2];exact hb2⟩,?_⟩
   simp only [U6,A4x,RT.val,h1,e0,e1,e2,e3,e4,cond_true,wrapS i (by omega),Int.toNat_natCast]
   rfl
  ·have h1:decide ((i:Int)<(b.2.length:Int))=false:=decide_eq_false (by omega)
   exact ⟨by simp only [U6,A4x,RT.val,h1,cond_false];rfl,_,_,_,rfl,by simp⟩
noncomputable def A8v (x1 x5:Int) (h0:Lq1):Option (Ex×St):=let z4:=IntKind.wrap .i64 (x1+(1:Int));let z3:=IntKind.wrap .i64 (z4+(1:Int));let z5:=(h0.getD x5.toNat ((0:Int),(bE,bE))).2;let z2:=h0.set x5.toNat (x1,(z5.1,z5.2));let z7:=z2.getD x5.toNat ((0:Int),(bE,bE));let z1:=z2.set x5.toNat (z7.1,((C1 z4),(z7.2).2));let z6:=z1.getD x5.toNat ((0:Int),(bE,bE));(cond (decide (x5<(h0.length:Int))) (cond (decide (0≤x5∧x5<(h0.length:Int))) (cond (B9 z4) (cond (decide (0≤x5∧x5<((z2.length:Nat):Int))) (cond (B9 z3) (cond (decide (0≤x5∧x5<((z1.length:Nat):Int))) (some (.normal,(⟨((.all 0 3)::(ti (IntKind.wrap .i64 (z3+(1:Int))))::.junk::.junk::.junk::(ti (IntKind.wrap .i64 (x5+(1:Int))))::B4U),[(.rows 124 true tq5 (z1.set x5.toNat (z6.1,((z6.2).1,(C1 z3)))))],1,[]⟩:St))) none) none) none) none) none) (some ((.exit 0),(⟨(.junk::(ti x1)::B83),[(.rows 124 true tq5 h0)],1,[]⟩:St))))
theorem B2N:RdA G53 aLn 0 A57 M1 1 [] (kepts [] [(0,[1])]) (fun d=>A8v d.1.2.1 d.1.2.2.2.2.2.1 d.2.1):=by
 intro d
 kernel_rfl
theorem B2W:∀ d:M1.den,(fun d=>A8v d.1.2.1 d.1.2.2.2.2.2.1 d.2.1) d=(U6 d).opt 1 []:=by
 intro d
 kernel_rfl
noncomputable abbrev A7z:St→Option Tree:=M1.say 1 [] [] (fun d=>A0S d.1.2.1 d.1.2.2.2.2.2.1 d.2.1)
theorem B3s:aPL A7z A57:=SS.wp2 hlz [] U6 B2N B2W _ (fun d=>B4x d.1.2.1 d.1.2.2.2.2.2.1 d.2.1)
noncomputable def N4 (x1:Int) (h0:Lq1):Int×Lq1:=let z1:=foldN C7 (h0.length - (0:Int).toNat) (0:Int).toNat (x1,h0);((z1.1),(z1.2))
noncomputable abbrev B2d (r:Int×Lq1):AV×List AObj×List Nat:=((ti r.1),[(.rows 124 true tq5 r.2)],[])
noncomputable abbrev B2o:A3M.den→AV×List AObj×List Nat:=fun d=>B2d (N4 d.1.2.1 d.2.1)
noncomputable def X3 (x1:Int) (h0:Lq1):Bool:=okL h0&&decide (0≤x1∧x1≤10000000)
noncomputable abbrev A98:A3M.den→Bool:=fun d=>X3 d.1.2.1 d.2.1
noncomputable abbrev B6I:Nat→St→Option Tree:=fun b=>match b with | 0=>A7z | _=>fun _=>none
theorem B5v:RunM G53 (B6I) Try.f69 A3M A98 B2o:=by
 rintro ⟨⟨_,x1,_⟩,⟨h0,_⟩⟩ hp
 change X3 x1 h0=true at hp
 unfold X3 at hp
 refine Eq.trans (b:=(let z1:=foldN C7 (h0.length - (0:Int).toNat) (0:Int).toNat (x1,h0);cond (decide (0≤(0:Int))&&(decide (0≤x1∧x1≤100000*((0:Int)+100))&&okL h0)) (some (B2d ((z1.1),(z1.2)))) none)) (by kernel_rfl) ?_
 exact (cndT (by first | rfl | decide | exact hp | (simp only [Bool.and_eq_true] at hp;simp only [hp];done) | (simp [*];done) | (simp [okL] at hp;simp [okL,MAXB];omega) | (simp_all;done) | (simp at *;omega)) (fun _h=>rfl))
noncomputable abbrev B2F:=win winIds (msum A3M A98 B2o)
theorem B6X:aPM 69 B2F:=(mcM G53 (hl1 (i:=0) (by kernel_rfl) B3s) B5v).win winIds
noncomputable def S54:Tab:=Tab.add S53 69 (orLend B2F)
noncomputable def C1n:FuncId→Bool:=C1m
theorem G54:aPG S54 C1n:=G53.addM B6X.orLend (orLend_local (win_local _)) (cbl Try.f69) (by kernel_rfl)

abbrev C2x:List Sh:=.junk::B87
abbrev u33:=((),u32)
abbrev C2m:List AV:=.junk::B82
abbrev A2x:SS:=⟨[.all 0 3,tI],[.deep 30 [124] tq4]⟩
abbrev J6:SS:=⟨(.all 0 3::tI::.junk::.junk::.junk::tI::B8g),[.deep 30 [124] tq4]⟩
abbrev A52:SS:=⟨(.junk::tI::C2x),[.deep 30 [124] tq4]⟩
noncomputable def A7J (x1 x5:Int) (h0:Lq2):RT J6.den:=let z4:=IntKind.wrap .i64 ((IntKind.wrap .i64 (x1+(1:Int)))+(1:Int));let z5:=(h0.getD x5.toNat ((0:Int),((0:Int),[]))).2;let z2:=h0.set x5.toNat (x1,(z5.1,z5.2));let z6:=z2.getD x5.toNat ((0:Int),((0:Int),[]));let z1:=z2.set x5.toNat (z6.1,(IntKind.wrap .i64 (x1+(1:Int)),(z6.2).2));let z3:=z1.getD x5.toNat ((0:Int),((0:Int),[]));let z7:=N4 z4 ((z3.2).2);(.br (decide (x5<(h0.length:Int))) (.br (decide (0≤x5∧x5<(h0.length:Int))) (.br (decide (0≤x5∧x5<((z2.length:Nat):Int))) (.br (decide (0≤x5∧x5<((z1.length:Nat):Int))) (.br (X3 z4 ((z3.2).2)) (.next (((),(z7.1),(),(),(),IntKind.wrap .i64 (x5+(1:Int)),u29),(z1.set x5.toNat (z3.1,((z3.2).1,(z7.2))),()))) .fail) .fail) .fail) .fail) (.done (.exit 0) A52 (((),x1,u33),(h0,()))))
abbrev A1J:=(Int)×(Int)×(Lq2)
abbrev Z8:=Nat×(Int)×(Lq2)
def V7:Z8:=(99,((0:Int):Int),([]:Lq2))
noncomputable def A1i (x1 x5:Int) (h0:Lq2):A1J ⊕ Z8:=let z4:=IntKind.wrap .i64 ((IntKind.wrap .i64 (x1+(1:Int)))+(1:Int));let z5:=(h0.getD x5.toNat ((0:Int),((0:Int),[]))).2;let z2:=h0.set x5.toNat (x1,(z5.1,z5.2));let z6:=z2.getD x5.toNat ((0:Int),((0:Int),[]));let z1:=z2.set x5.toNat (z6.1,(IntKind.wrap .i64 (x1+(1:Int)),(z6.2).2));let z3:=z1.getD x5.toNat ((0:Int),((0:Int),[]));let z7:=N4 z4 ((z3.2).2);(cond (decide (x5<(h0.length:Int))) (cond (decide (0≤x5∧x5<(h0.length:Int))) (cond (decide (0≤x5∧x5<((z2.length:Nat):Int))) (cond (decide (0≤x5∧x5<((z1.length:Nat):Int))) (cond (X3 z4 ((z3.2).2)) (.inl ((z7.1),IntKind.wrap .i64 (x5+(1:Int)),z1.set x5.toNat (z3.1,((z3.2).1,(z7.2))))) (.inr V7)) (.inr V7)) (.inr V7)) (.inr V7)) (.inr (0,x1,h0)))
noncomputable def W8 (x1 x5:Int) (h0:Lq2):Z8:=itX (fun v:A1J=>A1i v.1 v.2.1 v.2.2) V7 (x1,x5,h0)
noncomputable def A3o (a:Z8):CT:=(.br (a.1==0) (.done (.exit 0) A52 (((),a.2.1,u33),(a.2.2,()))) .fail)
noncomputable def B3f (x1 x5:Int) (h0:Lq2):CT:=A3o (W8 x1 x5 h0)
noncomputable abbrev A3H:J6.den→RT J6.den:=(fun d=>A7J d.1.2.1 d.1.2.2.2.2.2.1 d.2.1)
noncomputable def A4R:Code:=((loopsIn 0 (bodyOf Try.f41)).getD 0 (0,.skip)).2
noncomputable abbrev A7o (v:A1J):J6.den:=(((),v.1,(),(),(),v.2.1,u29),(v.2.2,()))
theorem B23:(∀ v:A1J,(A7J v.1 v.2.1 v.2.2).val=relS A7o A3o (A1i v.1 v.2.1 v.2.2))∧∀ a:Z8,CEnd J6.den (A3o a):=⟨fun v=>(relB (relB (relB (relB (relB rfl rfl) rfl) rfl) rfl) rfl),fun a=>(cendB aCD cendF)⟩
noncomputable def A65 (x1 x5:Int) (h0:Lq2):Option (Ex×St):=let z4:=IntKind.wrap .i64 ((IntKind.wrap .i64 (x1+(1:Int)))+(1:Int));let z5:=(h0.getD x5.toNat ((0:Int),((0:Int),[]))).2;let z2:=h0.set x5.toNat (x1,(z5.1,z5.2));let z6:=z2.getD x5.toNat ((0:Int),((0:Int),[]));let z1:=z2.set x5.toNat (z6.1,(IntKind.wrap .i64 (x1+(1:Int)),(z6.2).2));let z3:=z1.getD x5.toNat ((0:Int),((0:Int),[]));let z7:=N4 z4 ((z3.2).2);(cond (decide (x5<(h0.length:Int))) (cond (decide (0≤x5∧x5<(h0.length:Int))) (cond (decide (0≤x5∧x5<((z2.length:Nat):Int))) (cond (decide (0≤x5∧x5<((z1.length:Nat):Int))) (cond (X3 z4 ((z3.2).2)) (some (.normal,(⟨((.all 0 3)::(ti (z7.1))::.junk::.junk::.junk::(ti (IntKind.wrap .i64 (x5+(1:Int))))::B9I),[(.deep 30 [124] tq4 (z1.set x5.toNat (z3.1,((z3.2).1,(z7.2)))))],1,[]⟩:St))) none) none) none) none) (some ((.exit 0),(⟨(.junk::(ti x1)::C2m),[(.deep 30 [124] tq4 h0)],1,[]⟩:St))))
theorem B1J:RdA G54 aLn 0 A4R J6 1 [] (kepts [] [(0,[1])]) (fun d=>A65 d.1.2.1 d.1.2.2.2.2.2.1 d.2.1):=by
 intro d
 kernel_rfl
theorem B1N:∀ d:J6.den,(fun d=>A65 d.1.2.1 d.1.2.2.2.2.2.1 d.2.1) d=(A3H d).opt 1 []:=by
 intro d
 kernel_rfl
noncomputable abbrev A6m:St→Option Tree:=J6.say 1 [] [] (fun d=>B3f d.1.2.1 d.1.2.2.2.2.2.1 d.2.1)
theorem B2B:aPL A6m A4R:=SS.wp2 hlz [] A3H B1J B1N _ (fun d=>Runs.ofI2 (step:=A3H) A7o B23 rfl (d.1.2.1,d.1.2.2.2.2.2.1,d.2.1))
noncomputable def A2V (x1:Int) (h0:Lq2):Int×Lq2:=let z1:=W8 x1 (0:Int) h0;((z1.2.1),(z1.2.2))
noncomputable abbrev B1l (r:Int×Lq2):AV×List AObj×List Nat:=((ti r.1),[(.deep 30 [124] tq4 r.2)],[])
noncomputable abbrev B1m:A2x.den→AV×List AObj×List Nat:=fun d=>B1l (A2V d.1.2.1 d.2.1)
noncomputable def X4 (x1:Int) (h0:Lq2):Bool:=((W8 x1 (0:Int) h0).1==0)
noncomputable abbrev A8D:A2x.den→Bool:=fun d=>X4 d.1.2.1 d.2.1
noncomputable abbrev B5H:Nat→St→Option Tree:=fun b=>match b with | 0=>A6m | _=>fun _=>none
theorem B33:RunM G54 (B5H) Try.f41 A2x A8D B1m:=by
 rintro ⟨⟨_,x1,_⟩,⟨h0,_⟩⟩ hp
 change X4 x1 h0=true at hp
 unfold X4 at hp
 refine Eq.trans (b:=(let z1:=W8 x1 (0:Int) h0;cond (z1.1==0) (some (B1l ((z1.2.1),(z1.2.2)))) none)) (by kernel_rfl) ?_
 exact (cndT hp fun _h=>rfl)
noncomputable abbrev B1q:=win winIds (msum A2x A8D B1m)
theorem B5Z:aPM 41 B1q:=(mcM G54 (hl1 (i:=0) (by kernel_rfl) B2B) B33).win winIds
noncomputable def S55:Tab:=Tab.add S54 41 (B1q)
noncomputable def C1o:FuncId→Bool:=C1n
theorem G55:aPG S55 C1o:=G54.addM B5Z (win_local _) (cbl Try.f41) (by kernel_rfl)


end Go.Proofs.Ytccelbeahdcooaa.Eng
