/- What the functions that FnFlipped reaches compute, and that it answers true. -/
import Derived.Test.YtccelbeahdcooaaT
import Derived.Test.YtccelbeahdcooaaRows
import Derived.Test.YtccelbeahdcooaaE50
import Derived.RangeFuncBox
import Derived.Shelf.Abstract
import Derived.WalkKit
import Derived.OwnWalkIn
import Derived.TacticsInMore
import Derived.LoopNIn
import Derived.LoopIn
import Derived.RegionIn
namespace Go.Proofs.Ytccelbeahdcooaa.Eng
open Go Go.RowKit
set_option linter.unusedSimpArgs false
set_option linter.unusedVariables false
set_option maxRecDepth 10000
abbrev bE:ByteArray:=⟨#[]⟩
abbrev Lq1:=List (Int×ByteArray×ByteArray)
abbrev tq2:Ty:=.sl (.pair (.int .i64) (.pair .str .str))
abbrev tq5:Ty:=.pair (.int .i64) (.pair (.int .i64) (.sl (.pair (.int .i64) (.pair .str .str))))
abbrev ti:=@AV.t true (.int .i64)
abbrev tI:Sh:=.t true (.int .i64)
abbrev aPG:=Good Try.prog tt
abbrev aPM:=MContract Try.prog
abbrev aPP:=PContract Try.prog
abbrev aPL:=LoopWp Try.prog
abbrev aLn:Nat→St→Option Tree:=fun _ _=>none
theorem aCD{D:Type}{e:Ex}{s:SS}{x:s.den}(h:e ≠ .normal:=by simp):CEnd D (.done e s x):=cendD h
noncomputable def S0:Tab:=fun _=>none
noncomputable def QF0:FuncId→Bool:=fun _=>false
theorem G0:aPG S0 QF0:=Good.start tt_ok (by kernel_rfl)
theorem Runs.ofI2 {D V A:Type} {step:D→RT D} (pk:V→D) {ss:V→V ⊕ A} {ct:A→CT} {fa:A} (h:(∀ v,(step (pk v)).val=relS pk ct (ss v))∧∀ a,CEnd D (ct a)) (hf:(ct fa).val (D:=D)=.fail) (v:V):(ct (itX ss fa v)).val (D:=D)=.fail∨Runs step (pk v) (ct (itX ss fa v)).val:=Runs.ofIt pk hf h.1 h.2 v
theorem K5 {α β:Type} (e:α→β) {c q r:Bool} {X Y:Option β} {a b:α} (hq:cond c q r=true) (hx:q=true→X=some (e a)) (hy:r=true→Y=some (e b)):cond c X Y=some (e (cond c a b)):=cndQ (F:=fun r=>some (e r)) hq hx hy
theorem N9 {α β:Type} (e:α→β) {c:Bool} {X Y:Option β} {a b:α} (hx:c=true→X=some (e a)) (hy:c=false→Y=some (e b)):cond c X Y=some (e (cond c a b)):=cnd (F:=fun r=>some (e r)) hx hy
theorem hlz {L:Nat→St→Option Tree} {b:Nat} {x:Code} (h:loopsIn b x=[]:=by kernel_rfl):∀ p∈loopsIn b x,aPL (L p.1) p.2:=hl0 h
theorem cbl {f : FuncId} (F : Func) (h1 : Try.prog.funcs[f]? = some F := by kernel_rfl) (h2 : (F.name == "runtime.NumGoroutine") = false := by kernel_rfl) (h3 : F.body.isNone = false := by kernel_rfl) : Callable Try.prog f := ⟨F, h1, h2, h3⟩
theorem pcD (ro:Bool) {TB:TT} {S:Tab} {Q:FuncId→Bool} (G:Good Try.prog TB S Q) {f:FuncId} {fn:Func} {L:Nat→St→Option Tree} (hL:∀ p∈loopsIn 0 (bodyOf fn),aPL (L p.1) p.2) {l:List PSh} {pre:pshsDen l→Bool} {g:pshsDen l→AV×List AObj} (h:RunP ro G L fn l pre g) (hf:Try.prog.funcs[f]? = some fn:=by kernel_rfl):aPP f (sumOf l pre g):=PContract.of_data ro G hf hL l pre g h
theorem mcM {TB:TT} {S:Tab} {Q:FuncId→Bool} (G:Good Try.prog TB S Q) {f:FuncId} {fn:Func} {L:Nat→St→Option Tree} (hL:∀ p∈loopsIn 0 (bodyOf fn),aPL (L p.1) p.2) {s:SS} {pre:s.den→Bool} {g:s.den→AV×List AObj×List Nat} (h:RunM G L fn s pre g) (hf:Try.prog.funcs[f]? = some fn:=by kernel_rfl):aPM f (msum s pre g):=MContract.of_data G hf hL s pre g h
theorem C1q (dl:List AV) {TB:TT} {S:Tab} {Q:FuncId→Bool} (G:Good Try.prog TB S Q) {f:FuncId} {fn:Func} {L:Nat→St→Option Tree} (hL:∀ p∈loopsIn 0 (bodyOf fn),aPL (L p.1) p.2) {s:SS} {pre:s.den→Bool} {g:s.den→AV×List AObj×List Nat} (h:RunMRD dl G L fn s pre g) (hf:Try.prog.funcs[f]? = some fn:=by kernel_rfl):aPM f (msum s pre g):=MContract.of_dataRD dl G hf hL s pre g h
theorem A9u:∀ a:List UInt8,Op.bytesLess a a=false:=by
 intro a
 induction a with
 | nil=>rfl
 | cons x a ih=>simp only [Op.bytesLess,ih,Bool.and_false,Bool.or_false,decide_eq_false_iff_not];exact UInt8.lt_irrefl x
theorem A8o:∀ a b:List UInt8,(!(Op.bytesLess a b))=(Op.bytesLess b a||b==a):=by
 intro a
 induction a with
 | nil=>intro b;cases b<;>simp [Op.bytesLess]
 | cons x a ih =>
  intro b
  cases b with
  | nil=>simp [Op.bytesLess]
  | cons y b =>
   simp only [Op.bytesLess]
   by_cases h1:x<y
   ·have h2:¬ y<x:=fun h=>UInt8.lt_irrefl _ (UInt8.lt_trans h1 h)
    have h3:(y==x)=false:=by rw [beq_eq_false_iff_ne];intro h;subst h;exact h2 h1
    have h4:(y::b==x::a)=false:=by rw [List.cons_beq_cons,h3,Bool.false_and]
    simp [h1,h2,h3,h4]
   ·by_cases h5:x=y
    ·subst h5
     have h6:(x::b==x::a)=(b==a):=by rw [List.cons_beq_cons];simp
     have:=ih b
     simp only [h1,decide_false,Bool.false_or,beq_self_eq_true,Bool.true_and,h6,this]
    ·have h7 : y < x := by
      rcases Nat.lt_trichotomy x.toNat y.toNat with h | h | h
      ·exact absurd (UInt8.lt_iff_toNat_lt.2 h) h1
      ·exact absurd (UInt8.toNat_inj.1 h) h5
      ·exact UInt8.lt_iff_toNat_lt.2 h
     have h8:(x==y)=false:=by rw [beq_eq_false_iff_ne];exact h5
     simp [h1,h7,h8]
theorem B0S {p q:Nat→Bool}:∀ k i,(∀ j,i≤j→j<i+k→p j=q j)→allF p k i=allF q k i:=by
 intro k
 induction k with
 | zero=>intro i h;rfl
 | succ k ih=>intro i h;simp only [allF];rw [h i (Nat.le_refl _) (by omega),ih (i+1) (fun j h1 h2=>h j (by omega) (by omega))]
noncomputable def dOp:Int×ByteArray×ByteArray:=((0:Int),(bE,bE))
noncomputable def B6Y (o:Int×ByteArray×ByteArray):Bool:=okS o.2.1&&okS o.2.2
noncomputable def E9 (l:Lq1):Bool:=okL l&&l.all B6Y
theorem A5Z {l:Lq1} (h:E9 l=true) (i:Nat) (hi:i<l.length):okS (l.getD i dOp).2.1=true∧okS (l.getD i dOp).2.2=true:=by
 simp only [E9,Bool.and_eq_true,List.all_eq_true] at h
 have:=h.2 (l.getD i dOp) (by simp [List.getD_eq_getElem?_getD,hi])
 simpa [B6Y] using this
theorem A0g {l:Lq1} (h:E9 l=true):l.length≤1048576:=by
 simp only [E9,Bool.and_eq_true] at h
 exact okL_le h.1
theorem B80 (a b:ByteArray):(a.toList==b.toList)=decide (a=b):=by
 rw [ByteArray.toList_eq,ByteArray.toList_eq]
 by_cases h:a=b
 ·subst h;simp
 ·rw [decide_eq_false h,beq_eq_false_iff_ne]
  intro e
  exact h (by cases a;cases b;simp at e;rw [e])
noncomputable def hiF (g:Int→Int):Nat→Int→List Int×Int
 | 0,x=>([],x)
 | k+1,x=>cond (decide (x > 127)) (g x::(hiF g k (Int.fdiv x (2 ^ 7))).1,(hiF g k (Int.fdiv x (2 ^ 7))).2) ([],x)
theorem B0H (x:Int):Int.fdiv x (2 ^ 7)=x / 128:=by
 rw [show (2:Int) ^ 7=128 from rfl,Int.fdiv_eq_ediv_of_nonneg _ (by decide)]
theorem B8o (g:Int→Int) (k:Nat):∀ x:Int,(hiF g k x).1.length≤k:=by
 induction k with
 | zero=>intro x;simp [hiF]
 | succ k ih =>
  intro x
  simp only [hiF]
  cases decide (x > 127) with
  | true=>simp;exact ih _
  | false=>simp
noncomputable def A8A (x:Int):Int:=IntKind.wrap .u8 (ior .i64 (iand .i64 x (127:Int)) (128:Int))
noncomputable def U1 (x:Int):Int:=IntKind.wrap .u8 (ior .i64 (128:Int) (iand .i64 x (127:Int)))
theorem B6V:U1=A8A:=by
 funext x
 simp only [A8A,U1, ior]
 rw [BitVec.or_comm]
theorem B8X:∃ f:Int→List Int×Int,∀ x,f x=hiF A8A 4 x:=⟨_,fun _=>rfl⟩
noncomputable def nX:Int→List Int×Int:=Classical.choose B8X
theorem B71 (x:Int):nX x=hiF A8A 4 x:=Classical.choose_spec B8X x
theorem B72 (x:Int):nX x=hiF U1 4 x:=by rw [B6V];exact B71 x
theorem B1g (x:Int):(nX x).1.length≤4:=by rw [B71];exact B8o A8A 4 x
noncomputable def A7 (x:Int):List Int:=(nX x).1++[IntKind.wrap .u8 (nX x).2]
theorem O3 (x:Int):(A7 x).length≤5:=by
 have:=B1g x
 simp [A7];omega
noncomputable def A0A (n:Int):Int:=if n > 1000000000 then 1000000000 else if n<0 then 0 else n
noncomputable def H8 (s:ByteArray):List Int:=A7 (s.size:Int)++strInts s
noncomputable def opB (o:Int×ByteArray×ByteArray):List Int:=A7 (A0A o.1)++(H8 o.2.1++H8 o.2.2)
theorem A0c {n:Int} (h0:0≤n) (h1:n≤1000000000):A0A n=n:=by simp only [A0A];split<;>(try split)<;>omega
theorem A3l (s:ByteArray):(strInts s).length=s.size:=by rw [strInts,List.length_map,Array.length_toList];rfl
theorem A91 (s:ByteArray):(H8 s).length≤5+s.size:=by
 have:=O3 (s.size:Int)
 simp [H8,A3l];omega

noncomputable def A1U (x:Int):Int:=if (if (1000000000:Int)<x then (1000000000:Int) else x) > (0:Int) then (if (1000000000:Int)<x then (1000000000:Int) else x) else (0:Int)
theorem A9v (x:Int):A1U x=A0A x:=by
 simp only [A1U,A0A]
 split<;>split<;>(try split)<;>omega
theorem B24 (x:Int):0≤A0A x∧A0A x≤1000000000:=by
 simp only [A0A]
 split<;>(try split)<;>omega
theorem A18 (x:Int):0≤A1U x∧A1U x≤1000000000:=by rw [A9v];exact B24 x

theorem B6U {α:Type} (f:α→List Int) (d:α) (l:List α) (g:Nat→List Int→List Int) (hg:∀ i h,i<l.length→g i h=h++f (l.getD i d)):∀ k i h,i+k=l.length→foldN g k i h=h++((l.drop i).map f).flatten:=by
 intro k
 induction k with
 | zero =>
  intro i h hi
  have:l.drop i=[]:=List.drop_eq_nil_of_le (by omega)
  simp [foldN,this]
 | succ k ih =>
  intro i h hi
  have hlt:i<l.length:=by omega
  simp only [foldN]
  rw [ih (i+1) (g i h) (by omega),hg i h hlt,List.append_assoc,show l.drop i=l[i]::l.drop (i+1) from List.drop_eq_getElem_cons hlt,List.map_cons,List.flatten_cons,show l.getD i d=l[i] from by simp [List.getD_eq_getElem?_getD,hlt]]
theorem B8A (o:Int×ByteArray×ByteArray):(opB o).length≤15+o.2.1.size+o.2.2.size:=by
 have h1:=O3 (A0A o.1)
 have h2:=A91 o.2.1
 have h3:=A91 o.2.2
 simp only [opB,List.length_append];omega
theorem B7E {M:Nat}:∀ l:Lq1,(∀ o∈l,(opB o).length≤M)→(l.map opB).flatten.length≤M*l.length:=by
 intro l
 induction l with
 | nil=>intro _;simp
 | cons o l ih =>
  intro h
  have h1:=h o (by simp)
  have h2:=ih fun x hx=>h x (by simp [hx])
  simp only [List.map_cons,List.flatten_cons,List.length_append,List.length_cons]
  rw [Nat.mul_add];omega
abbrev B5:Ty:=.sl (.int .u8)
abbrev B0O:List PSh:=[.t B5]
noncomputable def lbig (a0:List Int):Bool:=(decide ((a0.length:Int) > (1048576:Int)))
noncomputable abbrev B83 (r:Bool):AV×List AObj:=((.t true .bool r),[])
noncomputable abbrev B5F:pshsDen B0O→AV×List AObj:=fun d=>B83 (lbig d.1)
noncomputable abbrev B1h:pshsDen B0O→Bool:=fun d=>true
theorem B78:RunP true G0 aLn Try.f24 B0O B1h B5F:=by
 rintro ⟨a0,_⟩ hp
 kernel_rfl
theorem B81:aPP 24 (sumOf B0O B1h B5F):=pcD true G0 hlz B78
noncomputable def S1:Tab:=Tab.add S0 24 (lift (sumOf B0O B1h B5F))
noncomputable def QF1:FuncId→Bool:=qadd QF0 24
theorem G1:aPG S1 QF1:=G0.addQ B81 (cbl Try.f24) (fun _=>rfl)

abbrev C0I:List Sh:=.junk::.junk::.junk::.junk::.junk::.junk::.junk::.junk::.junk::.junk::.junk::.junk::.junk::.junk::.junk::.junk::.junk::.junk::.junk::.junk::.junk::.junk::.junk::.junk::.junk::.junk::.junk::[]
abbrev B5N:List Sh:=.junk::C0I
abbrev u28:=((),(),(),(),(),(),(),(),(),(),(),(),(),(),(),(),(),(),(),(),(),(),(),(),(),(),(),())
abbrev u29:=((),u28)
abbrev C0t:List AV:=.junk::.junk::.junk::.junk::.junk::.junk::.junk::.junk::.junk::.junk::.junk::.junk::.junk::.junk::.junk::.junk::.junk::.junk::.junk::.junk::.junk::.junk::.junk::.junk::.junk::.junk::.junk::[]
abbrev B7Q:List AV:=.junk::C0t
abbrev A6B:SS:=⟨[.t false B5],[]⟩
abbrev U0:SS:=⟨(.t false B5::.junk::.junk::tI::tI::C0I),[]⟩
abbrev A4i:SS:=⟨(.t false B5::.junk::.junk::tI::B5N),[]⟩
noncomputable def B0p (x0:List Int) (x3 x4:Int):RT U0.den:=(.br (decide (x4<(x0.length:Int))) (.br (decide (x4<(4000:Int))) (.br (decide (0≤x4∧x4<(x0.length:Int))) (.next ((x0,(),(),iand .i64 (IntKind.wrap .i64 ((IntKind.wrap .i64 ((IntKind.wrap .i64 (x3*(137:Int)))+(IntKind.wrap .i64 (x0.getD x4.toNat (0:Int)))))+(11:Int))) (1073741823:Int),IntKind.wrap .i64 (x4+(1:Int)),u28),())) .fail) (.done (.exit 0) A4i ((x0,(),(),x3,u29),()))) (.done (.exit 0) A4i ((x0,(),(),x3,u29),())))
abbrev A2z:=(List Int)×(Int)×(Int)
abbrev A0T:=Nat×(List Int)×(Int)
def A93:A0T:=(99,([]:List Int),((0:Int):Int))
noncomputable def A1N (x0:List Int) (x3 x4:Int):A2z ⊕ A0T:=(cond (decide (x4<(x0.length:Int))) (cond (decide (x4<(4000:Int))) (cond (decide (0≤x4∧x4<(x0.length:Int))) (.inl (x0,iand .i64 (IntKind.wrap .i64 ((IntKind.wrap .i64 ((IntKind.wrap .i64 (x3*(137:Int)))+(IntKind.wrap .i64 (x0.getD x4.toNat (0:Int)))))+(11:Int))) (1073741823:Int),IntKind.wrap .i64 (x4+(1:Int)))) (.inr A93)) (.inr (0,x0,x3))) (.inr (0,x0,x3)))
noncomputable def A0e (x0:List Int) (x3 x4:Int):A0T:=itX (fun v:A2z=>A1N v.1 v.2.1 v.2.2) A93 (x0,x3,x4)
noncomputable def A5M (a:A0T):CT:=(.br (a.1==0) (.done (.exit 0) A4i ((a.2.1,(),(),a.2.2,u29),())) .fail)
noncomputable def B5q (x0:List Int) (x3 x4:Int):CT:=A5M (A0e x0 x3 x4)
noncomputable abbrev A6t:U0.den→RT U0.den:=(fun d=>B0p d.1.1 d.1.2.2.2.1 d.1.2.2.2.2.1)
noncomputable def A66:Code:=((loopsIn 0 (bodyOf Try.f70)).getD 0 (0,.skip)).2
noncomputable abbrev B0m (v:A2z):U0.den:=((v.1,(),(),v.2.1,v.2.2,u28),())
theorem B4N:(∀ v:A2z,(B0p v.1 v.2.1 v.2.2).val=relS B0m A5M (A1N v.1 v.2.1 v.2.2))∧∀ a:A0T,CEnd U0.den (A5M a):=⟨fun v=>(relB (relB (relB rfl rfl) rfl) rfl),fun a=>(cendB aCD cendF)⟩
noncomputable def B0c (x0:List Int) (x3 x4:Int):Option (Ex×St):=let z1:=(⟨((.t false B5 x0)::.junk::.junk::(ti x3)::B7Q),[],0,[]⟩:St);(cond (decide (x4<(x0.length:Int))) (cond (decide (x4<(4000:Int))) (cond (decide (0≤x4∧x4<(x0.length:Int))) (some (.normal,(⟨((.t false B5 x0)::.junk::.junk::(ti (iand .i64 (IntKind.wrap .i64 ((IntKind.wrap .i64 ((IntKind.wrap .i64 (x3*(137:Int)))+(IntKind.wrap .i64 (x0.getD x4.toNat (0:Int)))))+(11:Int))) (1073741823:Int)))::(ti (IntKind.wrap .i64 (x4+(1:Int))))::C0t),[],0,[]⟩:St))) none) (some ((.exit 0),z1))) (some ((.exit 0),z1)))
theorem B3s:RdA G1 aLn 0 A66 U0 0 [] (kepts [] [(0,[0,3])]) (fun d=>B0c d.1.1 d.1.2.2.2.1 d.1.2.2.2.2.1):=by
 intro d
 kernel_rfl
theorem B3w:∀ d:U0.den,(fun d=>B0c d.1.1 d.1.2.2.2.1 d.1.2.2.2.2.1) d=(A6t d).opt 0 []:=by
 intro d
 kernel_rfl
noncomputable abbrev A9g:St→Option Tree:=U0.say 0 [] [] (fun d=>B5q d.1.1 d.1.2.2.2.1 d.1.2.2.2.2.1)
theorem B4B:aPL A9g A66:=SS.wp2 hlz [] A6t B3s B3w _ (fun d=>Runs.ofI2 (step:=A6t) B0m B4N rfl (d.1.1,d.1.2.2.2.1,d.1.2.2.2.2.1))
noncomputable def X3 (x0:List Int):(List Int)×Int×Int:=let z1:=A0e x0 (IntKind.wrap .i64 ((381381:Int)+(x0.length:Int))) (0:Int);((z1.2.1),(0:Int),(z1.2.2))
noncomputable abbrev B4i (r:(List Int)×Int×Int):AV×List AObj×List Nat:=((.ptr 0 0 1 0),[(.box [(.t false B5 r.1),(ti r.2.1),(ti r.2.2)])],[])
noncomputable abbrev B4o:A6B.den→AV×List AObj×List Nat:=fun d=>B4i (X3 d.1.1)
noncomputable def A2W (x0:List Int):Bool:=((A0e x0 (IntKind.wrap .i64 ((381381:Int)+(x0.length:Int))) (0:Int)).1==0)
noncomputable abbrev B1j:A6B.den→Bool:=fun d=>A2W d.1.1
noncomputable abbrev B7g:Nat→St→Option Tree:=fun b=>match b with | 0=>A9g | _=>fun _=>none
theorem B51:RunM G1 (B7g) Try.f70 A6B B1j B4o:=by
 rintro ⟨⟨x0,_⟩,_⟩ hp
 change A2W x0=true at hp
 unfold A2W at hp
 refine Eq.trans (b:=(let z1:=A0e x0 (IntKind.wrap .i64 ((381381:Int)+(x0.length:Int))) (0:Int);cond (z1.1==0) (some (B4i ((z1.2.1),(0:Int),(z1.2.2)))) none)) (by kernel_rfl) ?_
 exact (cndT hp fun _h=>rfl)
noncomputable abbrev B4E:=win winIds (msum A6B B1j B4o)
theorem B7r:aPM 70 B4E:=(mcM G1 (hl1 (i:=0) (by kernel_rfl) B4B) B51).win winIds
noncomputable def S2:Tab:=Tab.add S1 70 (B4E)
noncomputable def QF2:FuncId→Bool:=QF1
theorem G2:aPG S2 QF2:=G1.addM B7r (win_local _) (cbl Try.f70) (by kernel_rfl)

abbrev A4l:SS:=⟨[.ptr 0 0 1 0],[.box [.t false B5,tI,tI]]⟩
noncomputable def E8 (p0:List Int) (p1 p2:Int):Int×(List Int)×Int×Int:=let z1:=(IntKind.wrap .i64 (p2*(6364136223846793005:Int)))+(1442695040888963407:Int);let z3:=IntKind.wrap .i64 z1;let z2:=ixor .i64 (Int.fdiv z3 (2 ^ (33))) (Int.fdiv z3 (2 ^ (47)));(cond (decide (p1<(p0.length:Int))) (iand .i64 (IntKind.wrap .i64 ((iand .i64 z2 (255:Int))+(IntKind.wrap .i64 (p0.getD p1.toNat (0:Int))))) (255:Int),p0,IntKind.wrap .i64 (p1+(1:Int)),IntKind.wrap .i64 z1) (iand .i64 z2 (255:Int),p0,p1,IntKind.wrap .i64 z1))
noncomputable abbrev A6L (r:Int×(List Int)×Int×Int):AV×List AObj×List Nat:=((ti r.1),[(.box [(.t false B5 r.2.1),(ti r.2.2.1),(ti r.2.2.2)])],[])
noncomputable abbrev B2H:A4l.den→AV×List AObj×List Nat:=fun d=>A6L (E8 d.2.1.1 d.2.1.2.1 d.2.1.2.2.1)
noncomputable def L0 (p0:List Int) (p1 p2:Int):Bool:=cond (decide (p1<(p0.length:Int))) (decide (0≤p1∧p1<(p0.length:Int))) true
noncomputable abbrev B0k:A4l.den→Bool:=fun d=>L0 d.2.1.1 d.2.1.2.1 d.2.1.2.2.1
theorem B43:RunM G2 aLn Try.f121 A4l B0k B2H:=by
 rintro ⟨⟨_,_⟩,⟨⟨p0,p1,p2,_⟩,_⟩⟩ hp
 change L0 p0 p1 p2=true at hp
 unfold L0 at hp
 refine Eq.trans (b:=(let z1:=(IntKind.wrap .i64 (p2*(6364136223846793005:Int)))+(1442695040888963407:Int);let z3:=IntKind.wrap .i64 z1;let z2:=ixor .i64 (Int.fdiv z3 (2 ^ (33))) (Int.fdiv z3 (2 ^ (47)));cond (decide (p1<(p0.length:Int))) (cond (decide (0≤p1∧p1<(p0.length:Int))) (some (A6L (iand .i64 (IntKind.wrap .i64 ((iand .i64 z2 (255:Int))+(IntKind.wrap .i64 (p0.getD p1.toNat (0:Int))))) (255:Int),p0,IntKind.wrap .i64 (p1+(1:Int)),IntKind.wrap .i64 z1))) none) (some (A6L (iand .i64 z2 (255:Int),p0,p1,IntKind.wrap .i64 z1))))) (by kernel_rfl) ?_
 exact (K5 A6L hp (fun hp=>(cndT hp fun _h=>rfl)) (fun hp=>rfl))
noncomputable abbrev B2L:=win winIds (msum A4l B0k B2H)
theorem B6K:aPM 121 B2L:=(mcM G2 hlz B43).win winIds
noncomputable def S3:Tab:=Tab.add S2 121 (B2L)
noncomputable def QF3:FuncId→Bool:=QF2
theorem G3:aPG S3 QF3:=G2.addM B6K (win_local _) (cbl Try.f121) (by kernel_rfl)

abbrev A27:SS:=⟨[.ptr 0 0 1 0,tI],[.box [.t false B5,tI,tI]]⟩
noncomputable def A1I (p0:List Int) (p1 p2:Int):=let z1:=E8 p0 p1 p2;E8 (z1.2.1) (z1.2.2.1) (z1.2.2.2)
noncomputable def A5W (p0:List Int) (p1 p2:Int):=let z1:=A1I p0 p1 p2;E8 (z1.2.1) (z1.2.2.1) (z1.2.2.2)
noncomputable def E6 (x1:Int) (p0:List Int) (p1 p2:Int):Int×(List Int)×Int×Int:=let z1:=E8 p0 p1 p2;let z2:=A5W p0 p1 p2;(cond (decide (x1≤(0:Int))) ((0:Int),p0,p1,p2) (cond (decide (x1≤(256:Int))) (Int.tmod (z1.1) x1,(z1.2.1),(z1.2.2.1),(z1.2.2.2)) (Int.tmod (IntKind.wrap .i64 ((IntKind.wrap .i64 ((IntKind.wrap .i64 ((z1.1)*(65536:Int)))+(IntKind.wrap .i64 (((A1I p0 p1 p2).1)*(256:Int)))))+(z2.1))) x1,(z2.2.1),(z2.2.2.1),(z2.2.2.2))))
noncomputable abbrev A0Z (r:Int×(List Int)×Int×Int):AV×List AObj×List Nat:=((ti r.1),[(.box [(.t false B5 r.2.1),(ti r.2.2.1),(ti r.2.2.2)])],[])
noncomputable abbrev B07:A27.den→AV×List AObj×List Nat:=fun d=>A0Z (E6 d.1.2.1 d.2.1.1 d.2.1.2.1 d.2.1.2.2.1)
noncomputable def D4 (x1:Int) (p0:List Int) (p1 p2:Int):Bool:=let z1:=A1I p0 p1 p2;let z2:=E8 p0 p1 p2;let z3:=L0 p0 p1 p2;cond (decide (x1≤(0:Int))) true (cond (decide (x1≤(256:Int))) (z3&&(decide (x1 ≠ 0))) (z3&&((L0 (z2.2.1) (z2.2.2.1) (z2.2.2.2))&&((L0 (z1.2.1) (z1.2.2.1) (z1.2.2.2))&&(decide (x1 ≠ 0))))))
noncomputable abbrev A8U:A27.den→Bool:=fun d=>D4 d.1.2.1 d.2.1.1 d.2.1.2.1 d.2.1.2.2.1
theorem B3P:RunM G3 aLn Try.f81 A27 A8U B07:=by
 rintro ⟨⟨_,x1,_⟩,⟨⟨p0,p1,p2,_⟩,_⟩⟩ hp
 change D4 x1 p0 p1 p2=true at hp
 unfold D4 at hp
 refine Eq.trans (b:=(let z1:=E8 p0 p1 p2;let z2:=A1I p0 p1 p2;let z3:=A5W p0 p1 p2;let z4:=L0 p0 p1 p2;cond (decide (x1≤(0:Int))) (some (A0Z ((0:Int),p0,p1,p2))) (cond (decide (x1≤(256:Int))) (cond z4 (cond (decide (x1 ≠ 0)) (some (A0Z (Int.tmod (z1.1) x1,(z1.2.1),(z1.2.2.1),(z1.2.2.2)))) none) none) (cond z4 (cond (L0 (z1.2.1) (z1.2.2.1) (z1.2.2.2)) (cond (L0 (z2.2.1) (z2.2.2.1) (z2.2.2.2)) (cond (decide (x1 ≠ 0)) (some (A0Z (Int.tmod (IntKind.wrap .i64 ((IntKind.wrap .i64 ((IntKind.wrap .i64 ((z1.1)*(65536:Int)))+(IntKind.wrap .i64 ((z2.1)*(256:Int)))))+(z3.1))) x1,(z3.2.1),(z3.2.2.1),(z3.2.2.2)))) none) none) none) none)))) (by kernel_rfl) ?_
 exact (K5 A0Z hp (fun hp=>rfl) (fun hp=>(K5 A0Z hp (fun hp=>(cndA hp fun hp=>(cndT hp fun _h=>rfl))) (fun hp=>(cndA hp fun hp=>(cndA hp fun hp=>(cndA hp fun hp=>(cndT hp fun _h=>rfl))))))))
noncomputable abbrev B1f:=win winIds (msum A27 A8U B07)
theorem B5z:aPM 81 B1f:=(mcM G3 hlz B3P).win winIds
noncomputable def S4:Tab:=Tab.add S3 81 (B1f)
noncomputable def QF4:FuncId→Bool:=QF3
theorem G4:aPG S4 QF4:=G3.addM B5z (win_local _) (cbl Try.f81) (by kernel_rfl)

abbrev A6A:SS:=⟨[.ptr 0 0 1 0,.all 1 1],[.box [.t false B5,tI,tI],.rows 3 true (.int .i64)]⟩
noncomputable def J4 (p0:List Int) (p1 p2:Int) (h1:List Int):Int×(List Int)×Int×Int×List Int:=let z1:=E6 (h1.length:Int) p0 p1 p2;(h1.getD ((z1.1).toNat) (0:Int),(z1.2.1),(z1.2.2.1),(z1.2.2.2),h1)
noncomputable abbrev B4h (r:Int×(List Int)×Int×Int×List Int):AV×List AObj×List Nat:=((ti r.1),[(.box [(.t false B5 r.2.1),(ti r.2.2.1),(ti r.2.2.2.1)]),(.rows 3 true (.int .i64) r.2.2.2.2)],[])
noncomputable abbrev B4n:A6A.den→AV×List AObj×List Nat:=fun d=>B4h (J4 d.2.1.1 d.2.1.2.1 d.2.1.2.2.1 d.2.2.1)
noncomputable def A0J (p0:List Int) (p1 p2:Int) (h1:List Int):Bool:=let z1:=(E6 (h1.length:Int) p0 p1 p2).1;(D4 (h1.length:Int) p0 p1 p2)&&(decide (0≤z1∧z1<(h1.length:Int)))
noncomputable abbrev B1i:A6A.den→Bool:=fun d=>A0J d.2.1.1 d.2.1.2.1 d.2.1.2.2.1 d.2.2.1
theorem B50:RunM G4 aLn Try.f86 A6A B1i B4n:=by
 rintro ⟨⟨_,_,_⟩,⟨⟨p0,p1,p2,_⟩,h1,_⟩⟩ hp
 change A0J p0 p1 p2 h1=true at hp
 unfold A0J at hp
 refine Eq.trans (b:=(let z1:=E6 (h1.length:Int) p0 p1 p2;cond (D4 (h1.length:Int) p0 p1 p2) (cond (decide (0≤(z1.1)∧(z1.1)<(h1.length:Int))) (some (B4h (h1.getD ((z1.1).toNat) (0:Int),(z1.2.1),(z1.2.2.1),(z1.2.2.2),h1))) none) none)) (by kernel_rfl) ?_
 exact (cndA hp fun hp=>(cndT hp fun _h=>rfl))
noncomputable abbrev B4D:=win winIds (msum A6A B1i B4n)
theorem B7q:aPM 86 B4D:=(mcM G4 hlz B50).win winIds
noncomputable def S5:Tab:=Tab.add S4 86 (B4D)
noncomputable def QF5:FuncId→Bool:=QF4
theorem G5:aPG S5 QF5:=G4.addM B7q (win_local _) (cbl Try.f86) (by kernel_rfl)

abbrev A6C:SS:=⟨[.ptr 0 0 1 0,.all 1 1],[.box [.t false B5,tI,tI],.rows 9 true .str]⟩
noncomputable def A6q (p0:List Int) (p1 p2:Int) (h1:List ByteArray):ByteArray×(List Int)×Int×Int×List ByteArray:=let z1:=E6 (h1.length:Int) p0 p1 p2;(h1.getD ((z1.1).toNat) bE,(z1.2.1),(z1.2.2.1),(z1.2.2.2),h1)
noncomputable abbrev B4j (r:ByteArray×(List Int)×Int×Int×List ByteArray):AV×List AObj×List Nat:=((.t true .str r.1),[(.box [(.t false B5 r.2.1),(ti r.2.2.1),(ti r.2.2.2.1)]),(.rows 9 true .str r.2.2.2.2)],[])
noncomputable abbrev B4p:A6C.den→AV×List AObj×List Nat:=fun d=>B4j (A6q d.2.1.1 d.2.1.2.1 d.2.1.2.2.1 d.2.2.1)
noncomputable def A0K (p0:List Int) (p1 p2:Int) (h1:List ByteArray):Bool:=let z1:=(E6 (h1.length:Int) p0 p1 p2).1;(D4 (h1.length:Int) p0 p1 p2)&&(decide (0≤z1∧z1<(h1.length:Int)))
noncomputable abbrev B1k:A6C.den→Bool:=fun d=>A0K d.2.1.1 d.2.1.2.1 d.2.1.2.2.1 d.2.2.1
theorem B52:RunM G5 aLn Try.f173 A6C B1k B4p:=by
 rintro ⟨⟨_,_,_⟩,⟨⟨p0,p1,p2,_⟩,h1,_⟩⟩ hp
 change A0K p0 p1 p2 h1=true at hp
 unfold A0K at hp
 refine Eq.trans (b:=(let z1:=E6 (h1.length:Int) p0 p1 p2;cond (D4 (h1.length:Int) p0 p1 p2) (cond (decide (0≤(z1.1)∧(z1.1)<(h1.length:Int))) (some (B4j (h1.getD ((z1.1).toNat) (⟨#[]⟩:ByteArray),(z1.2.1),(z1.2.2.1),(z1.2.2.2),h1))) none) none)) (by kernel_rfl) ?_
 exact (cndA hp fun hp=>(cndT hp fun _h=>rfl))
noncomputable abbrev B4F:=win winIds (msum A6C B1k B4p)
theorem B7s:aPM 173 B4F:=(mcM G5 hlz B52).win winIds
noncomputable def S6:Tab:=Tab.add S5 173 (B4F)
noncomputable def QF6:FuncId→Bool:=QF5
theorem G6:aPG S6 QF6:=G5.addM B7s (win_local _) (cbl Try.f173) (by kernel_rfl)

abbrev A6D:SS:=⟨[.ptr 0 0 1 0],[.box [.t false B5,tI,tI]]⟩
noncomputable def A9M (p0:List Int) (p1 p2:Int):=A6q p0 p1 p2 ([(⟨#[97]⟩:ByteArray),(⟨#[98]⟩:ByteArray),(⟨#[99]⟩:ByteArray),(⟨#[107,49]⟩:ByteArray),(⟨#[107,50]⟩:ByteArray),(⟨#[109]⟩:ByteArray),(⟨#[122]⟩:ByteArray)])
noncomputable def A6r (p0:List Int) (p1 p2:Int):ByteArray×(List Int)×Int×Int:=let z1:=A9M p0 p1 p2;((z1.1),(z1.2.1),(z1.2.2.1),(z1.2.2.2.1))
noncomputable abbrev B4k (r:ByteArray×(List Int)×Int×Int):AV×List AObj×List Nat:=((.t true .str r.1),[(.box [(.t false B5 r.2.1),(ti r.2.2.1),(ti r.2.2.2)])],[])
noncomputable abbrev B4q:A6D.den→AV×List AObj×List Nat:=fun d=>B4k (A6r d.2.1.1 d.2.1.2.1 d.2.1.2.2.1)
noncomputable def A2X (p0:List Int) (p1 p2:Int):Bool:=A0K p0 p1 p2 ([(⟨#[97]⟩:ByteArray),(⟨#[98]⟩:ByteArray),(⟨#[99]⟩:ByteArray),(⟨#[107,49]⟩:ByteArray),(⟨#[107,50]⟩:ByteArray),(⟨#[109]⟩:ByteArray),(⟨#[122]⟩:ByteArray)])
noncomputable abbrev B1m:A6D.den→Bool:=fun d=>A2X d.2.1.1 d.2.1.2.1 d.2.1.2.2.1
theorem B53:RunM G6 aLn Try.f172 A6D B1m B4q:=by
 rintro ⟨⟨_,_⟩,⟨⟨p0,p1,p2,_⟩,_⟩⟩ hp
 change A2X p0 p1 p2=true at hp
 unfold A2X at hp
 refine Eq.trans (b:=(let z1:=A9M p0 p1 p2;cond (A0K p0 p1 p2 ([(⟨#[97]⟩:ByteArray),(⟨#[98]⟩:ByteArray),(⟨#[99]⟩:ByteArray),(⟨#[107,49]⟩:ByteArray),(⟨#[107,50]⟩:ByteArray),(⟨#[109]⟩:ByteArray),(⟨#[122]⟩:ByteArray)])) (some (B4k ((z1.1),(z1.2.1),(z1.2.2.1),(z1.2.2.2.1)))) none)) (by kernel_rfl) ?_
 exact (cndT hp fun _h=>rfl)
noncomputable abbrev B4G:=win winIds (msum A6D B1m B4q)
theorem B7t:aPM 172 B4G:=(mcM G6 hlz B53).win winIds
noncomputable def S7:Tab:=Tab.add S6 172 (B4G)
noncomputable def QF7:FuncId→Bool:=QF6
theorem G7:aPG S7 QF7:=G6.addM B7t (win_local _) (cbl Try.f172) (by kernel_rfl)

abbrev A6E:SS:=⟨[.ptr 0 0 1 0],[.box [.t false B5,tI,tI]]⟩
noncomputable def A36 (p0:List Int) (p1 p2:Int):=let z1:=J4 p0 p1 p2 [(1:Int),(1:Int),(1:Int),(2:Int),(3:Int)];A6r (z1.2.1) (z1.2.2.1) (z1.2.2.2.1)
noncomputable def A9N (p0:List Int) (p1 p2:Int):=let z1:=A36 p0 p1 p2;A6q (z1.2.1) (z1.2.2.1) (z1.2.2.2) ([(⟨#[49]⟩:ByteArray),(⟨#[50]⟩:ByteArray),(⟨#[120]⟩:ByteArray),bE,(⟨#[49]⟩:ByteArray)])
noncomputable def Z3 (p0:List Int) (p1 p2:Int):Int×ByteArray×ByteArray×(List Int)×Int×Int×Int×ByteArray×ByteArray:=let z1:=(J4 p0 p1 p2 [(1:Int),(1:Int),(1:Int),(2:Int),(3:Int)]).1;let z2:=A36 p0 p1 p2;let z3:=A9N p0 p1 p2;(cond (z1 != (2:Int)) (z1,(z2.1),(z3.1),(z3.2.1),(z3.2.2.1),(z3.2.2.2.1),z1,(z2.1),(z3.1)) (z1,(z2.1),bE,(z2.2.1),(z2.2.2.1),(z2.2.2.2),z1,(z2.1),bE))
noncomputable abbrev A8w (r:Int×ByteArray×ByteArray×(List Int)×Int×Int×Int×ByteArray×ByteArray):AV×List AObj×List Nat:=((.agg [(ti r.1),(.t true .str r.2.1),(.t true .str r.2.2.1)]),[(.box [(.t false B5 r.2.2.2.1),(ti r.2.2.2.2.1),(ti r.2.2.2.2.2.1)]),(.box [(ti r.2.2.2.2.2.2.1),(.t true .str r.2.2.2.2.2.2.2.1),(.t true .str r.2.2.2.2.2.2.2.2)])],[])
noncomputable abbrev B4r:A6E.den→AV×List AObj×List Nat:=fun d=>A8w (Z3 d.2.1.1 d.2.1.2.1 d.2.1.2.2.1)
noncomputable def A2Z (p0:List Int) (p1 p2:Int):Bool:=let z1:=J4 p0 p1 p2 [(1:Int),(1:Int),(1:Int),(2:Int),(3:Int)];let z2:=A36 p0 p1 p2;(A0J p0 p1 p2 [(1:Int),(1:Int),(1:Int),(2:Int),(3:Int)])&&((A2X (z1.2.1) (z1.2.2.1) (z1.2.2.2.1))&&(cond ((z1.1) != (2:Int)) (A0K (z2.2.1) (z2.2.2.1) (z2.2.2.2) ([(⟨#[49]⟩:ByteArray),(⟨#[50]⟩:ByteArray),(⟨#[120]⟩:ByteArray),bE,(⟨#[49]⟩:ByteArray)])) true))
noncomputable abbrev B1n:A6E.den→Bool:=fun d=>A2Z d.2.1.1 d.2.1.2.1 d.2.1.2.2.1
theorem B55:RunM G7 aLn Try.f152 A6E B1n B4r:=by
 rintro ⟨⟨_,_⟩,⟨⟨p0,p1,p2,_⟩,_⟩⟩ hp
 change A2Z p0 p1 p2=true at hp
 unfold A2Z at hp
 refine Eq.trans (b:=(let z1:=J4 p0 p1 p2 [(1:Int),(1:Int),(1:Int),(2:Int),(3:Int)];let z2:=A36 p0 p1 p2;let z3:=A9N p0 p1 p2;cond (A0J p0 p1 p2 [(1:Int),(1:Int),(1:Int),(2:Int),(3:Int)]) (cond (A2X (z1.2.1) (z1.2.2.1) (z1.2.2.2.1)) (cond ((z1.1) != (2:Int)) (cond (A0K (z2.2.1) (z2.2.2.1) (z2.2.2.2) ([(⟨#[49]⟩:ByteArray),(⟨#[50]⟩:ByteArray),(⟨#[120]⟩:ByteArray),(⟨#[]⟩:ByteArray),(⟨#[49]⟩:ByteArray)])) (some (A8w ((z1.1),(z2.1),(z3.1),(z3.2.1),(z3.2.2.1),(z3.2.2.2.1),(z1.1),(z2.1),(z3.1)))) none) (some (A8w ((z1.1),(z2.1),(⟨#[]⟩:ByteArray),(z2.2.1),(z2.2.2.1),(z2.2.2.2),(z1.1),(z2.1),(⟨#[]⟩:ByteArray))))) none) none)) (by kernel_rfl) ?_
 exact (cndA hp fun hp=>(cndA hp fun hp=>(K5 A8w hp (fun hp=>(cndT hp fun _h=>rfl)) (fun hp=>rfl))))
noncomputable abbrev B4H:=win winIds (msum A6E B1n B4r)
theorem B7v:aPM 152 B4H:=(mcM G7 hlz B55).win winIds
noncomputable def S8:Tab:=Tab.add S7 152 (B4H)
noncomputable def QF8:FuncId→Bool:=QF7
theorem G8:aPG S8 QF8:=G7.addM B7v (win_local _) (cbl Try.f152) (by kernel_rfl)

abbrev C0L:List Sh:=.junk::.junk::.junk::.junk::.junk::.junk::.junk::.junk::.junk::.junk::.junk::.junk::.junk::.junk::.junk::.junk::.junk::B5N
abbrev tq3:Ty:=.pair (.int .i64) (.pair .str .str)
abbrev B8t:List Sh:=.junk::C0L
abbrev u46:=((),(),(),(),(),(),(),(),(),(),(),(),(),(),(),(),(),u29)
abbrev u47:=((),u46)
abbrev B7S:List AV:=.junk::.junk::.junk::.junk::.junk::.junk::.junk::.junk::.junk::.junk::.junk::.junk::.junk::.junk::.junk::.junk::.junk::B7Q
abbrev B8p:List AV:=.junk::B7S
abbrev A5D:List PSh:=[.t tq2,.agg [(.int .i64),.str,.str]]
abbrev Q1:SS:=⟨(.t false tq2::.junk::.junk::.ptr 0 0 1 0::.junk::.all 1 3::.t true .bool::tI::C0L),[.box [tI,.t true .str,.t true .str],.rows 124 true tq3]⟩
abbrev A8h:SS:=⟨(.junk::.junk::.junk::.ptr 0 0 1 0::.junk::.all 1 3::.t true .bool::B8t),[.box [tI,.t true .str,.t true .str],.rows 124 true tq3]⟩
noncomputable def B0q (x0:Lq1) (x6:Bool) (x7 p0:Int) (p1 p2:ByteArray) (h1:Lq1):RT Q1.den:=let z1:=x0.getD x7.toNat ((0:Int),(bE,bE));let z2:=decide (0≤x7∧x7<(x0.length:Int));let z3:=decide ((h1.length+([(z1.1,((z1.2).1,(z1.2).2))]).length)*40≤MAXB);(.br (decide (x7<(x0.length:Int))) (.br (!x6) (.br z2 (.br (!(Op.bytesLess ((z1.2).1).toList p1.toList)) (.br (decide ((h1.length+[(p0,(p1,p2))].length)*40≤MAXB)) (.br z2 (.br (!(((z1.2).1).toList==p1.toList)) (.br z2 (.br (decide (((h1++[(p0,(p1,p2))]).length+([(z1.1,((z1.2).1,(z1.2).2))]).length)*40≤MAXB)) (.next ((x0,(),(),(),(),(),true,IntKind.wrap .i64 (x7+(1:Int)),u46),((p0,p1,p2,()),(h1++[(p0,(p1,p2))])++([(z1.1,((z1.2).1,(z1.2).2))]),()))) .fail) .fail) (.next ((x0,(),(),(),(),(),true,IntKind.wrap .i64 (x7+(1:Int)),u46),((p0,p1,p2,()),h1++[(p0,(p1,p2))],())))) .fail) .fail) (.br z2 (.br (!(((z1.2).1).toList==p1.toList)) (.br z2 (.br z3 (.next ((x0,(),(),(),(),(),x6,IntKind.wrap .i64 (x7+(1:Int)),u46),((p0,p1,p2,()),h1++([(z1.1,((z1.2).1,(z1.2).2))]),()))) .fail) .fail) (.next ((x0,(),(),(),(),(),x6,IntKind.wrap .i64 (x7+(1:Int)),u46),((p0,p1,p2,()),h1,())))) .fail)) .fail) (.br z2 (.br (!(((z1.2).1).toList==p1.toList)) (.br z2 (.br z3 (.next ((x0,(),(),(),(),(),x6,IntKind.wrap .i64 (x7+(1:Int)),u46),((p0,p1,p2,()),h1++([(z1.1,((z1.2).1,(z1.2).2))]),()))) .fail) .fail) (.next ((x0,(),(),(),(),(),x6,IntKind.wrap .i64 (x7+(1:Int)),u46),((p0,p1,p2,()),h1,())))) .fail)) (.done (.exit 0) A8h (((),(),(),(),(),(),x6,u47),((p0,p1,p2,()),h1,()))))
abbrev Y5:=(Lq1)×(Bool)×(Int)×(Lq1)
abbrev A2n:=Nat×(Bool)×(Lq1)
def F8:A2n:=(99,(false:Bool),([]:Lq1))
noncomputable def A3k (x0:Lq1) (x6:Bool) (x7 p0:Int) (p1 p2:ByteArray) (h1:Lq1):Y5 ⊕ A2n:=let z1:=x0.getD x7.toNat ((0:Int),(bE,bE));let z2:=decide (0≤x7∧x7<(x0.length:Int));let z3:=decide ((h1.length+([(z1.1,((z1.2).1,(z1.2).2))]).length)*40≤MAXB);(cond (decide (x7<(x0.length:Int))) (cond (!x6) (cond z2 (cond (!(Op.bytesLess ((z1.2).1).toList p1.toList)) (cond (decide ((h1.length+[(p0,(p1,p2))].length)*40≤MAXB)) (cond z2 (cond (!(((z1.2).1).toList==p1.toList)) (cond z2 (cond (decide (((h1++[(p0,(p1,p2))]).length+([(z1.1,((z1.2).1,(z1.2).2))]).length)*40≤MAXB)) (.inl (x0,true,IntKind.wrap .i64 (x7+(1:Int)),(h1++[(p0,(p1,p2))])++([(z1.1,((z1.2).1,(z1.2).2))]))) (.inr F8)) (.inr F8)) (.inl (x0,true,IntKind.wrap .i64 (x7+(1:Int)),h1++[(p0,(p1,p2))]))) (.inr F8)) (.inr F8)) (cond z2 (cond (!(((z1.2).1).toList==p1.toList)) (cond z2 (cond z3 (.inl (x0,x6,IntKind.wrap .i64 (x7+(1:Int)),h1++([(z1.1,((z1.2).1,(z1.2).2))]))) (.inr F8)) (.inr F8)) (.inl (x0,x6,IntKind.wrap .i64 (x7+(1:Int)),h1))) (.inr F8))) (.inr F8)) (cond z2 (cond (!(((z1.2).1).toList==p1.toList)) (cond z2 (cond z3 (.inl (x0,x6,IntKind.wrap .i64 (x7+(1:Int)),h1++([(z1.1,((z1.2).1,(z1.2).2))]))) (.inr F8)) (.inr F8)) (.inl (x0,x6,IntKind.wrap .i64 (x7+(1:Int)),h1))) (.inr F8))) (.inr (0,x6,h1)))
noncomputable def A1H (x0:Lq1) (x6:Bool) (x7 p0:Int) (p1 p2:ByteArray) (h1:Lq1):A2n:=itX (fun v:Y5=>A3k v.1 v.2.1 v.2.2.1 p0 p1 p2 v.2.2.2) F8 (x0,x6,x7,h1)
noncomputable def A5N (p0:Int) (p1 p2:ByteArray) (a:A2n):CT:=(.br (a.1==0) (.done (.exit 0) A8h (((),(),(),(),(),(),a.2.1,u47),((p0,p1,p2,()),a.2.2,()))) .fail)
noncomputable def B5r (x0:Lq1) (x6:Bool) (x7 p0:Int) (p1 p2:ByteArray) (h1:Lq1):CT:=(A5N p0 p1 p2) (A1H x0 x6 x7 p0 p1 p2 h1)
noncomputable abbrev A3a {α:Sort _} (f:Lq1→Bool→Int→Int→ByteArray→ByteArray→Lq1→α) (d:Q1.den):α:=f d.1.1 d.1.2.2.2.2.2.2.1 d.1.2.2.2.2.2.2.2.1 d.2.1.1 d.2.1.2.1 d.2.1.2.2.1 d.2.2.1
noncomputable abbrev A6u:Q1.den→RT Q1.den:=(A3a B0q)
noncomputable def A67:Code:=((loopsIn 0 (bodyOf Try.f156)).getD 0 (0,.skip)).2
noncomputable abbrev B0n (p0:Int) (p1 p2:ByteArray) (v:Y5):Q1.den:=((v.1,(),(),(),(),(),v.2.1,v.2.2.1,u46),((p0,p1,p2,()),v.2.2.2,()))
theorem B4O (p0:Int) (p1 p2:ByteArray):(∀ v:Y5,(B0q v.1 v.2.1 v.2.2.1 p0 p1 p2 v.2.2.2).val=relS (B0n p0 p1 p2) (A5N p0 p1 p2) (A3k v.1 v.2.1 v.2.2.1 p0 p1 p2 v.2.2.2))∧∀ a:A2n,CEnd Q1.den ((A5N p0 p1 p2) a):=⟨fun v=>by repeat' first | apply relB | rfl,fun a=>(cendB aCD cendF)⟩
noncomputable def B0d (x0:Lq1) (x6:Bool) (x7 p0:Int) (p1 p2:ByteArray) (h1:Lq1):Option (Ex×St):=let z1:=x0.getD x7.toNat ((0:Int),(bE,bE));let z4:=decide (0≤x7∧x7<(x0.length:Int));let z5:=ti (IntKind.wrap .i64 (x7+(1:Int)));let z2:=(⟨((.t false tq2 x0)::.junk::.junk::(.ptr 0 0 1 0)::.junk::(.all 1 3)::(.t true .bool x6)::z5::B7S),[(.box [(ti p0),(.t true .str p1),(.t true .str p2)]),(.rows 124 true tq3 (h1++([(z1.1,((z1.2).1,(z1.2).2))])))],0,[]⟩:St);let z3:=(⟨((.t false tq2 x0)::.junk::.junk::(.ptr 0 0 1 0)::.junk::(.all 1 3)::(.t true .bool x6)::z5::B7S),[(.box [(ti p0),(.t true .str p1),(.t true .str p2)]),(.rows 124 true tq3 h1)],0,[]⟩:St);let z6:=decide ((h1.length+([(z1.1,((z1.2).1,(z1.2).2))]).length)*40≤MAXB);(cond (decide (x7<(x0.length:Int))) (cond (!x6) (cond z4 (cond (!(Op.bytesLess ((z1.2).1).toList p1.toList)) (cond (decide ((h1.length+[(p0,(p1,p2))].length)*40≤MAXB)) (cond z4 (cond (!(((z1.2).1).toList==p1.toList)) (cond z4 (cond (decide (((h1++[(p0,(p1,p2))]).length+([(z1.1,((z1.2).1,(z1.2).2))]).length)*40≤MAXB)) (some (.normal,(⟨((.t false tq2 x0)::.junk::.junk::(.ptr 0 0 1 0)::.junk::(.all 1 3)::(.t true .bool true)::z5::B7S),[(.box [(ti p0),(.t true .str p1),(.t true .str p2)]),(.rows 124 true tq3 ((h1++[(p0,(p1,p2))])++([(z1.1,((z1.2).1,(z1.2).2))])))],0,[]⟩:St))) none) none) (some (.normal,(⟨((.t false tq2 x0)::.junk::.junk::(.ptr 0 0 1 0)::.junk::(.all 1 3)::(.t true .bool true)::z5::B7S),[(.box [(ti p0),(.t true .str p1),(.t true .str p2)]),(.rows 124 true tq3 (h1++[(p0,(p1,p2))]))],0,[]⟩:St)))) none) none) (cond z4 (cond (!(((z1.2).1).toList==p1.toList)) (cond z4 (cond z6 (some (.normal,z2)) none) none) (some (.normal,z3))) none)) none) (cond z4 (cond (!(((z1.2).1).toList==p1.toList)) (cond z4 (cond z6 (some (.normal,z2)) none) none) (some (.normal,z3))) none)) (some ((.exit 0),(⟨(.junk::.junk::.junk::(.ptr 0 0 1 0)::.junk::(.all 1 3)::(.t true .bool x6)::B8p),[(.box [(ti p0),(.t true .str p1),(.t true .str p2)]),(.rows 124 true tq3 h1)],0,[]⟩:St))))
theorem B3t:RdA G8 aLn 0 A67 Q1 0 [] (kepts [] [(0,[3,5,6])]) (A3a B0d):=by
 intro d
 kernel_rfl
theorem B3x:∀ d:Q1.den,(A3a B0d) d=(A6u d).opt 0 []:=by
 intro d
 kernel_rfl
noncomputable abbrev A9h:St→Option Tree:=Q1.say 0 [] [] (A3a B5r)
theorem B4C:aPL A9h A67:=SS.wp2 hlz [] A6u B3t B3x _ (fun d=>Runs.ofI2 (step:=A6u) (B0n d.2.1.1 d.2.1.2.1 d.2.1.2.2.1) (B4O d.2.1.1 d.2.1.2.1 d.2.1.2.2.1) rfl (d.1.1,d.1.2.2.2.2.2.2.1,d.1.2.2.2.2.2.2.2.1,d.2.2.1))
noncomputable def A8c (a0:Lq1) (a1:Int) (a2 a3:ByteArray):Lq1:=let z1:=A1H a0 false (0:Int) a1 a2 a3 ([]:Lq1);(cond (!(z1.2.1)) ((z1.2.2)++[(a1,(a2,a3))]) (z1.2.2))
noncomputable abbrev A8v (r:Lq1):AV×List AObj:=((.all 0 3),[(.rows 124 true tq3 r)])
noncomputable abbrev B08:pshsDen A5D→AV×List AObj:=fun d=>A8v (A8c d.1 d.2.1.1 d.2.1.2.1 d.2.1.2.2.1)
noncomputable def A2Y (a0:Lq1) (a1:Int) (a2 a3:ByteArray):Bool:=let z1:=A1H a0 false (0:Int) a1 a2 a3 ([]:Lq1);(z1.1==0)&&(cond (!(z1.2.1)) (decide (((z1.2.2).length+[(a1,(a2,a3))].length)*40≤MAXB)) true)
noncomputable abbrev A8a:pshsDen A5D→Bool:=fun d=>A2Y d.1 d.2.1.1 d.2.1.2.1 d.2.1.2.2.1
noncomputable abbrev B7h:Nat→St→Option Tree:=fun b=>match b with | 0=>A9h | _=>fun _=>none
theorem B54:RunP false G8 (B7h) Try.f156 A5D A8a B08:=by
 rintro ⟨a0,⟨⟨a1,⟨a2,⟨a3,_⟩⟩⟩,_⟩⟩ hp
 change A2Y a0 a1 a2 a3=true at hp
 unfold A2Y at hp
 refine Eq.trans (b:=(let z1:=A1H a0 false (0:Int) a1 a2 a3 ([]:Lq1);cond (z1.1==0) (cond (!(z1.2.1)) (cond (decide (((z1.2.2).length+[(a1,(a2,a3))].length)*40≤MAXB)) (some (A8v ((z1.2.2)++[(a1,(a2,a3))]))) none) (some (A8v (z1.2.2)))) none)) (by kernel_rfl) ?_
 exact (cndA hp fun hp=>(K5 A8v hp (fun hp=>(cndT hp fun _h=>rfl)) (fun hp=>rfl)))
theorem B7u:aPP 156 (sumOf A5D A8a B08):=pcD false G8 (hl1 (i:=0) (by kernel_rfl) B4C) B54
noncomputable def S9:Tab:=Tab.add S8 156 (lift (sumOf A5D A8a B08))
noncomputable def QF9:FuncId→Bool:=QF8
theorem G9:aPG S9 QF9:=G8.add B7u (cbl Try.f156) (by kernel_rfl)

abbrev C0E:List Sh:=.junk::.junk::.junk::.junk::.junk::.junk::.junk::.junk::.junk::.junk::.junk::.junk::.junk::[]
abbrev B8r:List Sh:=.junk::C0E
abbrev u14:=((),(),(),(),(),(),(),(),(),(),(),(),(),())
abbrev u19:=((),(),(),(),(),u14)
abbrev A4m:SS:=⟨[.ptr 0 0 1 0],[.box [.t false B5,tI,tI]]⟩
abbrev P5:SS:=⟨(.ptr 0 0 1 0::.junk::.junk::.all 1 3::tI::C0E),[.box [.t false B5,tI,tI],.rows 124 true tq3]⟩
abbrev A62:SS:=⟨(.junk::.junk::.junk::.all 1 3::B8r),[.box [.t false B5,tI,tI],.rows 124 true tq3]⟩
noncomputable def A71 (p0:List Int) (p1 p2:Int) (h1:Lq1):=let z1:=Z3 p0 p1 p2;A8c h1 (z1.1) (z1.2.1) (z1.2.2.1)
noncomputable def A9t (x4:Int) (p0:List Int) (p1 p2:Int) (h1:Lq1):RT P5.den:=let z1:=Z3 p0 p1 p2;(.br (decide (x4 > (0:Int))) (.br (A2Z p0 p1 p2) (.br (A2Y h1 (z1.1) (z1.2.1) (z1.2.2.1)) (.next (((),(),(),(),IntKind.wrap .i64 (x4 - (1:Int)),u14),(((z1.2.2.2.1),(z1.2.2.2.2.1),(z1.2.2.2.2.2.1),()),(A71 p0 p1 p2 h1),()))) .fail) .fail) (.done (.exit 0) A62 ((u19),((p0,p1,p2,()),h1,()))))
abbrev A1F:=(Int)×(List Int)×(Int)×(Int)×(Lq1)
abbrev Z9:=Nat×(List Int)×(Int)×(Int)×(Lq1)
def A4D:Z9:=(99,([]:List Int),((0:Int):Int),((0:Int):Int),([]:Lq1))
noncomputable def A2i (x4:Int) (p0:List Int) (p1 p2:Int) (h1:Lq1):A1F ⊕ Z9:=let z1:=Z3 p0 p1 p2;(cond (decide (x4 > (0:Int))) (cond (A2Z p0 p1 p2) (cond (A2Y h1 (z1.1) (z1.2.1) (z1.2.2.1)) (.inl (IntKind.wrap .i64 (x4 - (1:Int)),(z1.2.2.2.1),(z1.2.2.2.2.1),(z1.2.2.2.2.2.1),(A71 p0 p1 p2 h1))) (.inr A4D)) (.inr A4D)) (.inr (0,p0,p1,p2,h1)))
noncomputable def M5 (x4:Int) (p0:List Int) (p1 p2:Int) (h1:Lq1):Z9:=itX (fun v:A1F=>A2i v.1 v.2.1 v.2.2.1 v.2.2.2.1 v.2.2.2.2) A4D (x4,p0,p1,p2,h1)
noncomputable def A4w (a:Z9):CT:=(.br (a.1==0) (.done (.exit 0) A62 ((u19),((a.2.1,a.2.2.1,a.2.2.2.1,()),a.2.2.2.2,()))) .fail)
noncomputable def B38 (x4:Int) (p0:List Int) (p1 p2:Int) (h1:Lq1):CT:=A4w (M5 x4 p0 p1 p2 h1)
noncomputable abbrev A8n {α:Sort _} (f:Int→(List Int)→Int→Int→Lq1→α) (d:P5.den):α:=f d.1.2.2.2.2.1 d.2.1.1 d.2.1.2.1 d.2.1.2.2.1 d.2.2.1
noncomputable abbrev A45:P5.den→RT P5.den:=(A8n A9t)
noncomputable def A5L:Code:=((loopsIn 0 (bodyOf Try.f122)).getD 0 (0,.skip)).2
noncomputable abbrev A84 (v:A1F):P5.den:=(((),(),(),(),v.1,u14),((v.2.1,v.2.2.1,v.2.2.2.1,()),v.2.2.2.2,()))
theorem B3H:(∀ v:A1F,(A9t v.1 v.2.1 v.2.2.1 v.2.2.2.1 v.2.2.2.2).val=relS A84 A4w (A2i v.1 v.2.1 v.2.2.1 v.2.2.2.1 v.2.2.2.2))∧∀ a:Z9,CEnd P5.den (A4w a):=⟨fun v=>(relB (relB (relB rfl rfl) rfl) rfl),fun a=>(cendB aCD cendF)⟩
theorem B2c:RdA G9 aLn 0 A5L P5 1 [] (kepts [] [(0,[3])]) (fun d=>(A45 d).opt 1 []):=by
 intro d
 kernel_rfl
noncomputable abbrev A7J:St→Option Tree:=P5.say 1 [] [] (A8n B38)
theorem B3n:aPL A7J A5L:=SS.wp2 hlz [] A45 B2c (fun d=>rfl) _ (fun d=>Runs.ofI2 (step:=A45) A84 B3H rfl (d.1.2.2.2.2.1,d.2.1.1,d.2.1.2.1,d.2.1.2.2.1,d.2.2.1))
noncomputable def A4I (p0:List Int) (p1 p2:Int):=let z1:=E6 (4:Int) p0 p1 p2;M5 (IntKind.wrap .i64 ((1:Int)+(z1.1))) (z1.2.1) (z1.2.2.1) (z1.2.2.2) ([]:Lq1)
noncomputable def A1m (p0:List Int) (p1 p2:Int):(List Int)×Int×Int×Lq1:=let z1:=A4I p0 p1 p2;((z1.2.1),(z1.2.2.1),(z1.2.2.2.1),(z1.2.2.2.2))
noncomputable abbrev B2D (r:(List Int)×Int×Int×Lq1):AV×List AObj×List Nat:=((.all 1 3),[(.box [(.t false B5 r.1),(ti r.2.1),(ti r.2.2.1)]),(.rows 124 true tq3 r.2.2.2)],[])
noncomputable abbrev B2I:A4m.den→AV×List AObj×List Nat:=fun d=>B2D (A1m d.2.1.1 d.2.1.2.1 d.2.1.2.2.1)
noncomputable def A05 (p0:List Int) (p1 p2:Int):Bool:=(D4 (4:Int) p0 p1 p2)&&((A4I p0 p1 p2).1==0)
noncomputable abbrev B0l:A4m.den→Bool:=fun d=>A05 d.2.1.1 d.2.1.2.1 d.2.1.2.2.1
noncomputable abbrev B6u:Nat→St→Option Tree:=fun b=>match b with | 0=>A7J | _=>fun _=>none
theorem B45:RunM G9 (B6u) Try.f122 A4m B0l B2I:=by
 rintro ⟨⟨_,_⟩,⟨⟨p0,p1,p2,_⟩,_⟩⟩ hp
 change A05 p0 p1 p2=true at hp
 unfold A05 at hp
 refine Eq.trans (b:=(let z1:=A4I p0 p1 p2;cond (D4 (4:Int) p0 p1 p2) (cond (z1.1==0) (some (B2D ((z1.2.1),(z1.2.2.1),(z1.2.2.2.1),(z1.2.2.2.2)))) none) none)) (by kernel_rfl) ?_
 exact (cndA hp fun hp=>(cndT hp fun _h=>rfl))
noncomputable abbrev B2M:=win winIds (msum A4m B0l B2I)
theorem B6M:aPM 122 B2M:=(mcM G9 (hl1 (i:=0) (by kernel_rfl) B3n) B45).win winIds
noncomputable def S10:Tab:=Tab.add S9 122 (B2M)
noncomputable def B9p:FuncId→Bool:=QF9
theorem G10:aPG S10 B9p:=G9.addM B6M (win_local _) (cbl Try.f122) (by kernel_rfl)

abbrev A6F:SS:=⟨[.ptr 0 0 1 0],[.box [.t false B5,tI,tI]]⟩
noncomputable def D1 (p0:List Int) (p1 p2:Int):=let z1:=J4 p0 p1 p2 [(1:Int),(1:Int),(2:Int),(3:Int)];E6 (4:Int) (z1.2.1) (z1.2.2.1) (z1.2.2.2.1)
noncomputable def A2m (p0:List Int) (p1 p2:Int):=let z1:=D1 p0 p1 p2;A1m (z1.2.1) (z1.2.2.1) (z1.2.2.2)
noncomputable def U7 (p0:List Int) (p1 p2:Int):Int×Int×Lq1×(List Int)×Int×Int:=let z1:=(J4 p0 p1 p2 [(1:Int),(1:Int),(2:Int),(3:Int)]).1;let z2:=D1 p0 p1 p2;let z3:=A2m p0 p1 p2;(cond (z1==(1:Int)) (z1,IntKind.wrap .i64 ((1:Int)+(z2.1)),(z3.2.2.2),(z3.1),(z3.2.1),(z3.2.2.1)) (z1,IntKind.wrap .i64 ((1:Int)+(z2.1)),[],(z2.2.1),(z2.2.2.1),(z2.2.2.2)))
noncomputable abbrev A8x (r:Int×Int×Lq1×(List Int)×Int×Int):AV×List AObj×List Nat:=((.agg [(ti r.1),(ti r.2.1),(.t true tq2 r.2.2.1)]),[(.box [(.t false B5 r.2.2.2.1),(ti r.2.2.2.2.1),(ti r.2.2.2.2.2)])],[])
noncomputable abbrev B4s:A6F.den→AV×List AObj×List Nat:=fun d=>A8x (U7 d.2.1.1 d.2.1.2.1 d.2.1.2.2.1)
noncomputable def A1J (p0:List Int) (p1 p2:Int):Bool:=let z1:=J4 p0 p1 p2 [(1:Int),(1:Int),(2:Int),(3:Int)];let z2:=D1 p0 p1 p2;(A0J p0 p1 p2 [(1:Int),(1:Int),(2:Int),(3:Int)])&&((D4 (4:Int) (z1.2.1) (z1.2.2.1) (z1.2.2.2.1))&&(cond ((z1.1)==(1:Int)) (A05 (z2.2.1) (z2.2.2.1) (z2.2.2.2)) true))
noncomputable abbrev B1o:A6F.den→Bool:=fun d=>A1J d.2.1.1 d.2.1.2.1 d.2.1.2.2.1
theorem B56:RunMRD [] G10 aLn Try.f82 A6F B1o B4s:=by
 rintro ⟨⟨_,_⟩,⟨⟨p0,p1,p2,_⟩,_⟩⟩ hp
 change A1J p0 p1 p2=true at hp
 unfold A1J at hp
 refine Eq.trans (b:=(let z1:=J4 p0 p1 p2 [(1:Int),(1:Int),(2:Int),(3:Int)];let z2:=D1 p0 p1 p2;let z3:=A2m p0 p1 p2;cond (A0J p0 p1 p2 [(1:Int),(1:Int),(2:Int),(3:Int)]) (cond (D4 (4:Int) (z1.2.1) (z1.2.2.1) (z1.2.2.2.1)) (cond ((z1.1)==(1:Int)) (cond (A05 (z2.2.1) (z2.2.2.1) (z2.2.2.2)) (some (A8x ((z1.1),IntKind.wrap .i64 ((1:Int)+(z2.1)),(z3.2.2.2),(z3.1),(z3.2.1),(z3.2.2.1)))) none) (some (A8x ((z1.1),IntKind.wrap .i64 ((1:Int)+(z2.1)),[],(z2.2.1),(z2.2.2.1),(z2.2.2.2))))) none) none)) (by kernel_rfl) ?_
 exact (cndA hp fun hp=>(cndA hp fun hp=>(K5 A8x hp (fun hp=>(cndT hp fun _h=>rfl)) (fun hp=>rfl))))
noncomputable abbrev B4I:=win winIds (msum A6F B1o B4s)
theorem B7w:aPM 82 B4I:=(C1q []  G10 hlz B56).win winIds
noncomputable def S11:Tab:=Tab.add S10 82 (B4I)
noncomputable def B9q:FuncId→Bool:=B9p
theorem G11:aPG S11 B9q:=G10.addM B7w (win_local _) (cbl Try.f82) (by kernel_rfl)

abbrev B8s:List Sh:=.junk::B8r
abbrev B7W:List Sh:=.junk::B8s
abbrev u16:=((),(),u14)
abbrev u22:=((),(),(),u19)
abbrev Lq4:=List (Int×Int×List (Int×ByteArray×ByteArray))
abbrev tq6:Ty:=.sl (.pair (.int .i64) (.pair (.int .i64) (.sl (.pair (.int .i64) (.pair .str .str)))))
abbrev A1v:List PSh:=[.t B5]
abbrev J5:SS:=⟨(.junk::.junk::.junk::.ptr 0 0 1 0::.all 1 3::tI::B8s),[.box [.t false B5,tI,tI],.rows 30 true tq5]⟩
abbrev A48:SS:=⟨(.junk::.junk::.junk::.junk::.all 0 3::B7W),[.rows 30 true tq5]⟩
noncomputable def A6w (x5:Int) (p0:List Int) (p1 p2:Int) (h1:Lq4):RT J5.den:=let z1:=U7 p0 p1 p2;(.br (decide (x5 > (0:Int))) (.br (A1J p0 p1 p2) (.br (decide ((h1.length+[((z1.1),((z1.2.1),(z1.2.2.1)))].length)*40≤MAXB)) (.next (((),(),(),(),(),IntKind.wrap .i64 (x5 - (1:Int)),u16),(((z1.2.2.2.1),(z1.2.2.2.2.1),(z1.2.2.2.2.2),()),h1++[((z1.1),((z1.2.1),(z1.2.2.1)))],()))) .fail) .fail) (.done (.exit 0) A48 ((u22),(h1,()))))
abbrev X6:=(Int)×(List Int)×(Int)×(Int)×(Lq4)
abbrev R7:=Nat×(Lq4)
def A2K:R7:=(99,([]:Lq4))
noncomputable def A0R (x5:Int) (p0:List Int) (p1 p2:Int) (h1:Lq4):X6 ⊕ R7:=let z1:=U7 p0 p1 p2;(cond (decide (x5 > (0:Int))) (cond (A1J p0 p1 p2) (cond (decide ((h1.length+[((z1.1),((z1.2.1),(z1.2.2.1)))].length)*40≤MAXB)) (.inl (IntKind.wrap .i64 (x5 - (1:Int)),(z1.2.2.2.1),(z1.2.2.2.2.1),(z1.2.2.2.2.2),h1++[((z1.1),((z1.2.1),(z1.2.2.1)))])) (.inr A2K)) (.inr A2K)) (.inr (0,h1)))
noncomputable def A5V (x5:Int) (p0:List Int) (p1 p2:Int) (h1:Lq4):R7:=itX (fun v:X6=>A0R v.1 v.2.1 v.2.2.1 v.2.2.2.1 v.2.2.2.2) A2K (x5,p0,p1,p2,h1)
noncomputable def A2J (a:R7):CT:=(.br (a.1==0) (.done (.exit 0) A48 ((u22),(a.2,()))) .fail)
noncomputable def B1L (x5:Int) (p0:List Int) (p1 p2:Int) (h1:Lq4):CT:=A2J (A5V x5 p0 p1 p2 h1)
noncomputable abbrev A5E {α:Sort _} (f:Int→(List Int)→Int→Int→Lq4→α) (d:J5.den):α:=f d.1.2.2.2.2.2.1 d.2.1.1 d.2.1.2.1 d.2.1.2.2.1 d.2.2.1
noncomputable abbrev A22:J5.den→RT J5.den:=(A5E A6w)
noncomputable def A33:Code:=((loopsIn 0 (bodyOf Try.f31)).getD 0 (0,.skip)).2
noncomputable abbrev A6e (v:X6):J5.den:=(((),(),(),(),(),v.1,u16),((v.2.1,v.2.2.1,v.2.2.2.1,()),v.2.2.2.2,()))
theorem B1C:(∀ v:X6,(A6w v.1 v.2.1 v.2.2.1 v.2.2.2.1 v.2.2.2.2).val=relS A6e A2J (A0R v.1 v.2.1 v.2.2.1 v.2.2.2.1 v.2.2.2.2))∧∀ a:R7,CEnd J5.den (A2J a):=⟨fun v=>(relB (relB (relB rfl rfl) rfl) rfl),fun a=>(cendB aCD cendF)⟩
theorem B0x:RdA G11 aLn 0 A33 J5 0 [] (kepts [] [(0,[4])]) (fun d=>(A22 d).opt 0 []):=by
 intro d
 kernel_rfl
noncomputable abbrev A5l:St→Option Tree:=J5.say 0 [] [] (A5E B1L)
theorem B1d:aPL A5l A33:=SS.wp2 hlz [] A22 B0x (fun d=>rfl) _ (fun d=>Runs.ofI2 (step:=A22) A6e B1C rfl (d.1.2.2.2.2.2.1,d.2.1.1,d.2.1.2.1,d.2.1.2.2.1,d.2.2.1))
noncomputable def M6 (a0:List Int):=let z1:=E6 (6:Int) ((X3 a0).1) ((X3 a0).2.1) ((X3 a0).2.2);A5V (z1.1) (z1.2.1) (z1.2.2.1) (z1.2.2.2) ([]:Lq4)
noncomputable def O7 (a0:List Int):Lq4:=((M6 a0).2)
noncomputable abbrev A92 (r:Lq4):AV×List AObj:=((.t true tq6 r),[])
noncomputable abbrev A5R:pshsDen A1v→AV×List AObj:=fun d=>A92 (O7 d.1)
noncomputable def U5 (a0:List Int):Bool:=(A2W a0)&&((D4 (6:Int) ((X3 a0).1) ((X3 a0).2.1) ((X3 a0).2.2))&&((M6 a0).1==0))
noncomputable abbrev A3D:pshsDen A1v→Bool:=fun d=>U5 d.1
noncomputable abbrev B3U:Nat→St→Option Tree:=fun b=>match b with | 0=>A5l | _=>fun _=>none
theorem B2u:RunP true G11 (B3U) Try.f31 A1v A3D A5R:=by
 rintro ⟨a0,_⟩ hp
 change U5 a0=true at hp
 unfold U5 at hp
 refine Eq.trans (b:=(cond (A2W a0) (cond (D4 (6:Int) ((X3 a0).1) ((X3 a0).2.1) ((X3 a0).2.2)) (cond ((M6 a0).1==0) (some (A92 ((M6 a0).2))) none) none) none)) (by kernel_rfl) ?_
 exact (cndA hp fun hp=>(cndA hp fun hp=>(cndT hp fun _h=>rfl)))
theorem B4a:aPP 31 (sumOf A1v A3D A5R):=pcD true G11 (hl1 (i:=0) (by kernel_rfl) B1d) B2u
noncomputable def S12:Tab:=Tab.add S11 31 (lift (sumOf A1v A3D A5R))
noncomputable def B9r:FuncId→Bool:=qadd B9q 31
theorem G12:aPG S12 B9r:=G11.addQ B4a (cbl Try.f31) (fun _=>rfl)

abbrev A2p:List PSh:=[.t (.int .i64),.t (.int .i64),.t (.int .i64)]
noncomputable def R6 (a0 a1 a2:Int):Bool:=(cond (decide (a0 ≥ a1)) (decide (a0≤a2)) false)
noncomputable abbrev A4x (r:Bool):AV×List AObj:=((.t true .bool r),[])
noncomputable abbrev A7U:pshsDen A2p→AV×List AObj:=fun d=>A4x (R6 d.1 d.2.1 d.2.2.1)
noncomputable abbrev A4N:pshsDen A2p→Bool:=fun d=>true
theorem B3J:RunP true G12 aLn Try.f101 A2p A4N A7U:=by
 rintro ⟨a0,⟨a1,⟨a2,_⟩⟩⟩ hp
 refine Eq.trans (b:=(cond (decide (a0 ≥ a1)) (some (A4x (decide (a0≤a2)))) (some (A4x false)))) (by kernel_rfl) ?_
 exact (N9 A4x (fun _h=>rfl) (fun _h=>rfl))
theorem B5t:aPP 101 (sumOf A2p A4N A7U):=pcD true G12 hlz B3J
noncomputable def S13:Tab:=Tab.add S12 101 (lift (sumOf A2p A4N A7U))
noncomputable def B9s:FuncId→Bool:=qadd B9r 101
theorem G13:aPG S13 B9s:=G12.addQ B5t (cbl Try.f101) (fun _=>rfl)

abbrev A8i:List PSh:=[.t (.int .i64)]
noncomputable def A97 (a0:Int):Bool:=(R6 a0 (1:Int) (1000000:Int))
noncomputable abbrev B8l (r:Bool):AV×List AObj:=((.t true .bool r),[])
noncomputable abbrev B27:pshsDen A8i→AV×List AObj:=fun d=>B8l (A97 d.1)
noncomputable abbrev A9R:pshsDen A8i→Bool:=fun d=>true
theorem B63:RunP true G13 aLn Try.f74 A8i A9R B27:=by
 rintro ⟨a0,_⟩ hp
 kernel_rfl
theorem B8g:aPP 74 (sumOf A8i A9R B27):=pcD true G13 hlz B63
noncomputable def S14:Tab:=Tab.add S13 74 (lift (sumOf A8i A9R B27))
noncomputable def B9t:FuncId→Bool:=qadd B9s 74
theorem G14:aPG S14 B9t:=G13.addQ B8g (cbl Try.f74) (fun _=>rfl)

abbrev A0o:List PSh:=[.t (.int .u8)]
noncomputable def A2M (a0:Int):Bool:=let z1:=decide (a0 ≥ (48:Int));let z2:=decide (a0≤(57:Int));(cond (decide (a0 ≥ (97:Int))) (cond (decide (a0≤(122:Int))) true (cond z1 z2 false)) (cond z1 z2 false))
noncomputable abbrev I9 (r:Bool):AV×List AObj:=((.t true .bool r),[])
noncomputable abbrev A4E:pshsDen A0o→AV×List AObj:=fun d=>I9 (A2M d.1)
noncomputable abbrev A2U:pshsDen A0o→Bool:=fun d=>true
theorem B1D:RunP true G14 aLn Try.f178 A0o A2U A4E:=by
 rintro ⟨a0,_⟩ hp
 refine Eq.trans (b:=(let z1:=I9 (decide (a0≤(57:Int)));let z2:=decide (a0 ≥ (48:Int));cond (decide (a0 ≥ (97:Int))) (cond (decide (a0≤(122:Int))) (some (I9 true)) (cond z2 (some z1) (some (I9 false)))) (cond z2 (some z1) (some (I9 false))))) (by kernel_rfl) ?_
 exact (N9 I9 (fun _h=>(N9 I9 (fun _h=>rfl) (fun _h=>(N9 I9 (fun _h=>rfl) (fun _h=>rfl))))) (fun _h=>(N9 I9 (fun _h=>rfl) (fun _h=>rfl))))
theorem B21:aPP 178 (sumOf A0o A2U A4E):=pcD true G14 hlz B1D
noncomputable def S15:Tab:=Tab.add S14 178 (lift (sumOf A0o A2U A4E))
noncomputable def B9u:FuncId→Bool:=qadd B9t 178
theorem G15:aPG S15 B9u:=G14.addQ B21 (cbl Try.f178) (fun _=>rfl)

abbrev C0C:List Sh:=.junk::.junk::.junk::.junk::.junk::.junk::.junk::.junk::.junk::.junk::.junk::[]
abbrev C1i:List Sh:=.junk::C0C
abbrev u13:=((),(),(),(),(),(),(),(),(),(),(),(),())
abbrev u12:=((),(),(),(),(),(),(),(),(),(),(),())
noncomputable def A4F (s:ByteArray) (i:Nat):Bool:=A2M (bt s (i:Int))
abbrev A3T:List PSh:=[.t .str]
abbrev T8:SS:=⟨(.t true .str::.junk::.junk::tI::C0C),[]⟩
abbrev A6V:SS:=⟨(.junk::.junk::.t true .bool::C1i),[]⟩
abbrev A6W:SS:=⟨(.junk::B8r),[]⟩
noncomputable def A46 (x0:ByteArray) (x3:Int):RT T8.den:=(.br (decide (x3<(x0.size:Int))) (.br (decide (0≤x3∧x3<(x0.size:Int))) (.br (!(A2M (bt x0 x3))) (.done .ret A6V (((),(),false,u13),())) (.next ((x0,(),(),IntKind.wrap .i64 (x3+(1:Int)),u12),()))) .fail) (.done (.exit 0) A6W ((u16),())))
noncomputable def A1w (x0:ByteArray) (x3:Int):CT:=(.br (decide (0≤x3)&&okS x0) (.br (allF (A4F x0) (x0.size - x3.toNat) x3.toNat) (.done (.exit 0) A6W ((u16),())) (.done .ret A6V (((),(),false,u13),()))) .fail)
noncomputable abbrev A0P:T8.den→RT T8.den:=(fun d=>A46 d.1.1 d.1.2.2.2.1)
noncomputable abbrev A8Q (x0:ByteArray) (x3:Int):T8.den:=((x0,(),(),x3,u12),())
noncomputable def A5G:Code:=((loopsIn 0 (bodyOf Try.f167)).getD 0 (0,.skip)).2
theorem B3W (x0:ByteArray) (x3:Int):(A1w x0 x3).val (D:=T8.den)=.fail∨Runs A0P (A8Q x0 x3) (A1w x0 x3).val:=by
 cases hc:(decide (0≤x3)&&okS x0) with
 | false=>left;simp only [A1w,CT.val,hc,cond_false]
 | true =>
  right
  simp only [A1w,CT.val,hc,cond_true]
  simp only [Bool.and_eq_true,decide_eq_true_eq] at hc
  obtain ⟨i,rfl⟩:=Int.eq_ofNat_of_zero_le hc.1
  have hs:=okS_le hc.2
  simp only [Int.toNat_natCast]
  refine Runs.scan (fun j=>A8Q x0 (j:Int)) (x0.size) (A4F x0) (fun i hi=>?_) (fun i hi=>?_) ⟨_,_,_,rfl,by simp⟩ ⟨_,_,_,rfl,by simp⟩ _ _ rfl
  ·
   have h0a:decide ((i:Int)<(x0.size:Int))=true:=decide_eq_true (by omega)
   have h0b:decide (0≤(i:Int)∧(i:Int)<(x0.size:Int))=true:=decide_eq_true (by omega)
   simp only [A0P,A46,RT.val,h0a,h0b,cond_true,wrapS i (by omega),Int.toNat_natCast]
   simp only [A4F]
   cases A2M (bt x0 (i:Int))<;>rfl
  ·have h1:decide ((i:Int)<(x0.size:Int))=false:=decide_eq_false (by omega)
   simp only [A0P,A46,RT.val,h1,cond_false]
theorem B13:RdA G15 aLn 0 A5G T8 0 [] (kepts [2] [(0,[])]) (fun d=>(A0P d).opt 0 []):=by
 intro d
 kernel_rfl
noncomputable abbrev A7A:St→Option Tree:=T8.say 0 [] [] (fun d=>A1w d.1.1 d.1.2.2.2.1)
theorem B3e:aPL A7A A5G:=SS.wp2 hlz [] A0P B13 (fun d=>rfl) _ (fun d=>B3W d.1.1 d.1.2.2.2.1)
noncomputable def B0I (a0:ByteArray):Bool:=(cond (allF (A4F a0) (a0.size - (0:Int).toNat) (0:Int).toNat) true false)
noncomputable abbrev A6I (r:Bool):AV×List AObj:=((.t true .bool r),[])
noncomputable abbrev A9D:pshsDen A3T→AV×List AObj:=fun d=>A6I (B0I d.1)
noncomputable def A6O (a0:ByteArray):Bool:=okS a0
noncomputable abbrev A54:pshsDen A3T→Bool:=fun d=>A6O d.1
noncomputable abbrev B6n:Nat→St→Option Tree:=fun b=>match b with | 0=>A7A | _=>fun _=>none
theorem B4T:RunP true G15 (B6n) Try.f167 A3T A54 A9D:=by
 rintro ⟨a0,_⟩ hp
 change A6O a0=true at hp
 unfold A6O at hp
 refine Eq.trans (b:=(cond (decide (0≤(0:Int))&&okS a0) (cond (allF (A4F a0) (a0.size - (0:Int).toNat) (0:Int).toNat) (some (A6I true)) (some (A6I false))) none)) (by kernel_rfl) ?_
 exact (cndT (by first | rfl | decide | exact hp | (simp only [Bool.and_eq_true] at hp;simp only [hp];done) | (simp [*];done) | (simp [okL] at hp;simp [okL,MAXB];omega) | (simp_all;done) | (simp at *;omega)) (fun _h=>(N9 A6I (fun _h=>rfl) (fun _h=>rfl))))
theorem B6A:aPP 167 (sumOf A3T A54 A9D):=pcD true G15 (hl1 (i:=0) (by kernel_rfl) B3e) B4T
noncomputable def S16:Tab:=Tab.add S15 167 (lift (sumOf A3T A54 A9D))
noncomputable def B9v:FuncId→Bool:=qadd B9u 167
theorem G16:aPG S16 B9v:=G15.addQ B6A (cbl Try.f167) (fun _=>rfl)

abbrev A5x:List PSh:=[.t .str]
noncomputable def A3z (a0:ByteArray):Bool:=(cond (R6 (a0.size:Int) (1:Int) (12:Int)) (B0I a0) false)
noncomputable abbrev A8q (r:Bool):AV×List AObj:=((.t true .bool r),[])
noncomputable abbrev B00:pshsDen A5x→AV×List AObj:=fun d=>A8q (A3z d.1)
noncomputable def A86 (a0:ByteArray):Bool:=okS a0
noncomputable abbrev A74:pshsDen A5x→Bool:=fun d=>A86 d.1
theorem B5U:RunP true G16 aLn Try.f140 A5x A74 B00:=by
 rintro ⟨a0,_⟩ hp
 change A86 a0=true at hp
 unfold A86 at hp
 refine Eq.trans (b:=(cond (R6 (a0.size:Int) (1:Int) (12:Int)) (cond (A6O a0) (some (A8q (B0I a0))) none) (some (A8q false)))) (by kernel_rfl) ?_
 exact (N9 A8q (fun _h=>(cndT (by first | rfl | decide | exact hp | (simp only [Bool.and_eq_true] at hp;simp only [hp];done) | (simp [*];done) | (simp [okL] at hp;simp [okL,MAXB];omega) | (simp_all;done) | (simp at *;omega)) (fun _h=>rfl))) (fun _h=>rfl))
theorem B7k:aPP 140 (sumOf A5x A74 B00):=pcD true G16 hlz B5U
noncomputable def S17:Tab:=Tab.add S16 140 (lift (sumOf A5x A74 B00))
noncomputable def B9w:FuncId→Bool:=qadd B9v 140
theorem G17:aPG S17 B9w:=G16.addQ B7k (cbl Try.f140) (fun _=>rfl)

abbrev A8j:List PSh:=[.agg [(.int .i64),.str,.str]]
noncomputable def B1c (a0:Int) (a1 a2:ByteArray):Bool:=let z1:=decide ((a2.size:Int)≤(20:Int));(cond (a0==(1:Int)) (cond (A3z a1) z1 false) (cond (a0==(3:Int)) (cond (A3z a1) z1 false) (cond (a0==(2:Int)) (cond (A3z a1) (a2.toList==bE.toList) false) false)))
noncomputable abbrev V4 (r:Bool):AV×List AObj:=((.t true .bool r),[])
noncomputable abbrev B28:pshsDen A8j→AV×List AObj:=fun d=>V4 (B1c d.1.1 d.1.2.1 d.1.2.2.1)
noncomputable def A6P (a0:Int) (a1 a2:ByteArray):Bool:=okS a1
noncomputable abbrev A9S:pshsDen A8j→Bool:=fun d=>A6P d.1.1 d.1.2.1 d.1.2.2.1
theorem B64:RunP true G17 aLn Try.f119 A8j A9S B28:=by
 rintro ⟨⟨a0,⟨a1,⟨a2,_⟩⟩⟩,_⟩ hp
 change A6P a0 a1 a2=true at hp
 unfold A6P at hp
 refine Eq.trans (b:=(let z1:=V4 (decide ((a2.size:Int)≤(20:Int)));let z2:=A86 a1;cond (a0==(1:Int)) (cond z2 (cond (A3z a1) (some z1) (some (V4 false))) none) (cond (a0==(3:Int)) (cond z2 (cond (A3z a1) (some z1) (some (V4 false))) none) (cond (a0==(2:Int)) (cond z2 (cond (A3z a1) (some (V4 (a2.toList==(⟨#[]⟩:ByteArray).toList))) (some (V4 false))) none) (some (V4 false)))))) (by kernel_rfl) ?_
 exact (N9 V4 (fun _h=>(cndT (by first | rfl | decide | exact hp | (simp only [Bool.and_eq_true] at hp;simp only [hp];done) | (simp [*];done) | (simp [okL] at hp;simp [okL,MAXB];omega) | (simp_all;done) | (simp at *;omega)) (fun _h=>(N9 V4 (fun _h=>rfl) (fun _h=>rfl))))) (fun _h=>(N9 V4 (fun _h=>(cndT (by first | rfl | decide | exact hp | (simp only [Bool.and_eq_true] at hp;simp only [hp];done) | (simp [*];done) | (simp [okL] at hp;simp [okL,MAXB];omega) | (simp_all;done) | (simp at *;omega)) (fun _h=>(N9 V4 (fun _h=>rfl) (fun _h=>rfl))))) (fun _h=>(N9 V4 (fun _h=>(cndT (by first | rfl | decide | exact hp | (simp only [Bool.and_eq_true] at hp;simp only [hp];done) | (simp [*];done) | (simp [okL] at hp;simp [okL,MAXB];omega) | (simp_all;done) | (simp at *;omega)) (fun _h=>(N9 V4 (fun _h=>rfl) (fun _h=>rfl))))) (fun _h=>rfl))))))
theorem B8h:aPP 119 (sumOf A8j A9S B28):=pcD true G17 hlz B64
noncomputable def S18:Tab:=Tab.add S17 119 (lift (sumOf A8j A9S B28))
noncomputable def B9x:FuncId→Bool:=qadd B9w 119
theorem G18:aPG S18 B9x:=G17.addQ B8h (cbl Try.f119) (fun _=>rfl)

abbrev B9c:List Sh:=.junk::.junk::.junk::.junk::.junk::.junk::.junk::.junk::.junk::.junk::B7W
abbrev B7Y:List Sh:=.junk::.junk::.junk::B5N
abbrev B9e:List Sh:=.junk::.junk::B7Y
abbrev u32:=((),(),(),u29)
abbrev u27:=((),(),(),(),(),u22)
abbrev u34:=((),(),u32)
abbrev B7R:List AV:=.junk::.junk::.junk::B7Q
abbrev C0s:List AV:=.junk::.junk::.junk::.junk::.junk::.junk::.junk::.junk::.junk::.junk::.junk::.junk::.junk::.junk::.junk::.junk::.junk::.junk::.junk::.junk::.junk::.junk::.junk::.junk::.junk::.junk::[]
abbrev B89:List AV:=.junk::.junk::B7R
noncomputable def A95 (l:Lq1) (i:Nat):Bool:=let z1:=l.getD i dOp;let z2:=l.getD (i - 1) dOp;B1c z1.1 z1.2.1 z1.2.2&&(decide (i=0)||!(Op.bytesLess z1.2.1.toList z2.2.1.toList||(z1.2.1.toList==z2.2.1.toList)))
abbrev A5y:List PSh:=[.t tq2]
abbrev P9:SS:=⟨(.t false tq2::.junk::.junk::.junk::.junk::.t false tq2::tI::tI::B9c),[]⟩
abbrev A4g:SS:=⟨(.junk::.junk::.t true .bool::B7Y),[]⟩
abbrev A8d:SS:=⟨(.t false tq2::B9e),[]⟩
noncomputable def A6v (x0 x5:Lq1) (x6 x7:Int):RT P9.den:=let z1:=x5.getD x7.toNat ((0:Int),(bE,bE));let z2:=IntKind.wrap .i64 (x7 - (1:Int));let z3:=((x0.getD (z2.toNat) ((0:Int),(bE,bE))).2).1;(.br (decide (x7<x6)) (.br (decide (0≤x7∧x7<(x5.length:Int))) (.br (A6P (z1.1) ((z1.2).1) ((z1.2).2)) (.br (!(B1c (z1.1) ((z1.2).1) ((z1.2).2))) (.done .ret A4g (((),(),false,u32),())) (.br (decide (x7 > (0:Int))) (.br (decide (0≤z2∧z2<(x0.length:Int))) (.br (Op.bytesLess ((z1.2).1).toList z3.toList||(((z1.2).1).toList==z3.toList)) (.done .ret A4g (((),(),false,u32),())) (.next ((x0,(),(),(),(),x5,x6,IntKind.wrap .i64 (x7+(1:Int)),u27),()))) .fail) (.next ((x0,(),(),(),(),x5,x6,IntKind.wrap .i64 (x7+(1:Int)),u27),())))) .fail) .fail) (.done (.exit 0) A8d ((x0,u34),())))
noncomputable def A2w (x0 x5:Lq1) (x6 x7:Int):CT:=(.br (decide (0≤x7)&&(decide (x6=(x5.length:Int))&&(decide (x5=x0)&&E9 x5))) (.br (allF (A95 x5) (x5.length - x7.toNat) x7.toNat) (.done (.exit 0) A8d ((x0,u34),())) (.done .ret A4g (((),(),false,u32),()))) .fail)
noncomputable abbrev A29 {α:Sort _} (f:Lq1→Lq1→Int→Int→α) (d:P9.den):α:=f d.1.1 d.1.2.2.2.2.2.1 d.1.2.2.2.2.2.2.1 d.1.2.2.2.2.2.2.2.1
noncomputable abbrev A1K:P9.den→RT P9.den:=(A29 A6v)
noncomputable abbrev B0e (x0 x5:Lq1) (x6 x7:Int):P9.den:=((x0,(),(),(),(),x5,x6,x7,u27),())
noncomputable def A63:Code:=((loopsIn 0 (bodyOf Try.f75)).getD 0 (0,.skip)).2
theorem B5n (x0 x5:Lq1) (x6 x7:Int):(A2w x0 x5 x6 x7).val (D:=P9.den)=.fail∨Runs A1K (B0e x0 x5 x6 x7) (A2w x0 x5 x6 x7).val:=by
 cases hc:(decide (0≤x7)&&(decide (x6=(x5.length:Int))&&(decide (x5=x0)&&E9 x5))) with
 | false=>left;simp only [A2w,CT.val,hc,cond_false]
 | true =>
  right
  simp only [A2w,CT.val,hc,cond_true]
  simp only [Bool.and_eq_true,decide_eq_true_eq] at hc
  obtain ⟨i,rfl⟩:=Int.eq_ofNat_of_zero_le hc.1
  obtain ⟨_,e6,e5,hc⟩:=hc
  subst e5;subst e6
  have hs:=A0g hc
  simp only [Int.toNat_natCast]
  refine Runs.scan (fun j=>B0e x5 x5 (x5.length:Int) (j:Int)) (x5.length) (A95 x5) (fun i hi=>?_) (fun i hi=>?_) ⟨_,_,_,rfl,by simp⟩ ⟨_,_,_,rfl,by simp⟩ _ _ rfl
  ·
   have h0a:decide ((i:Int)<(x5.length:Int))=true:=decide_eq_true (by omega)
   have h0b:decide (0≤(i:Int)∧(i:Int)<(x5.length:Int))=true:=decide_eq_true (by omega)
   simp only [A1K,A6v,RT.val,h0a,h0b,cond_true,wrapS i (by omega),Int.toNat_natCast]
   have hq:A6P (x5.getD i dOp).1 (x5.getD i dOp).2.1 (x5.getD i dOp).2.2=true:=(A5Z hc i hi).1
   simp only [dOp] at hq
   simp only [hq,cond_true,A95,dOp]
   cases B1c (x5.getD i ((0:Int),((⟨#[]⟩:ByteArray),(⟨#[]⟩:ByteArray)))).1 (x5.getD i ((0:Int),((⟨#[]⟩:ByteArray),(⟨#[]⟩:ByteArray)))).2.1 (x5.getD i ((0:Int),((⟨#[]⟩:ByteArray),(⟨#[]⟩:ByteArray)))).2.2 with
   | false=>rfl
   | true =>
    cases i with
    | zero=>rfl
    | succ i =>
     have h3:decide (((i+1:Nat):Int) > 0)=true:=decide_eq_true (by omega)
     have h4:IntKind.wrap .i64 (((i+1:Nat):Int) - 1)=(i:Int):=by have:=wrap64 (n:=((i+1:Nat):Int) - 1) (by omega) (by omega);omega
     have h5:decide (0≤(i:Int)∧(i:Int)<(x5.length:Int))=true:=decide_eq_true (by omega)
     have h6:decide (i+1=0)=false:=by simp
     simp only [h3,h4,h5,h6,cond_true,Bool.true_and,Bool.false_or,Int.toNat_natCast,Nat.add_sub_cancel,Bool.not_true,cond_false]
     cases (Op.bytesLess (x5.getD (i+1) ((0:Int),((⟨#[]⟩:ByteArray),(⟨#[]⟩:ByteArray)))).2.1.toList (x5.getD i ((0:Int),((⟨#[]⟩:ByteArray),(⟨#[]⟩:ByteArray)))).2.1.toList||((x5.getD (i+1) ((0:Int),((⟨#[]⟩:ByteArray),(⟨#[]⟩:ByteArray)))).2.1.toList==(x5.getD i ((0:Int),((⟨#[]⟩:ByteArray),(⟨#[]⟩:ByteArray)))).2.1.toList))<;>rfl
  ·have h1:decide ((i:Int)<(x5.length:Int))=false:=decide_eq_false (by omega)
   simp only [A1K,A6v,RT.val,h1,cond_false]
noncomputable def B0a (x0 x5:Lq1) (x6 x7:Int):Option (Ex×St):=let z1:=x5.getD x7.toNat ((0:Int),(bE,bE));let z2:=(⟨((.t false tq2 x0)::.junk::.junk::.junk::.junk::(.t false tq2 x5)::(ti x6)::(ti (IntKind.wrap .i64 (x7+(1:Int))))::C0s),[],0,[]⟩:St);let z3:=IntKind.wrap .i64 (x7 - (1:Int));let z4:=(⟨(.junk::.junk::(.t true .bool false)::B7R),[],0,[]⟩:St);let z5:=((x0.getD (z3.toNat) ((0:Int),(bE,bE))).2).1;(cond (decide (x7<x6)) (cond (decide (0≤x7∧x7<(x5.length:Int))) (cond (A6P (z1.1) ((z1.2).1) ((z1.2).2)) (cond (!(B1c (z1.1) ((z1.2).1) ((z1.2).2))) (some (.ret,z4)) (cond (decide (x7 > (0:Int))) (cond (decide (0≤z3∧z3<(x0.length:Int))) (cond (Op.bytesLess ((z1.2).1).toList z5.toList||(((z1.2).1).toList==z5.toList)) (some (.ret,z4)) (some (.normal,z2))) none) (some (.normal,z2)))) none) none) (some ((.exit 0),(⟨((.t false tq2 x0)::B89),[],0,[]⟩:St))))
theorem B3p:RdA G18 aLn 0 A63 P9 0 [] (kepts [2] [(0,[0])]) (A29 B0a):=by
 intro d
 kernel_rfl
theorem B3u:∀ d:P9.den,(A29 B0a) d=(A1K d).opt 0 []:=by
 intro d
 kernel_rfl
noncomputable abbrev A9d:St→Option Tree:=P9.say 0 [] [] (A29 A2w)
theorem B4y:aPL A9d A63:=SS.wp2 hlz [] A1K B3p B3u _ (fun d=>B5n d.1.1 d.1.2.2.2.2.2.1 d.1.2.2.2.2.2.2.1 d.1.2.2.2.2.2.2.2.1)
noncomputable def B1a (a0:Lq1):Bool:=(cond (allF (A95 a0) (a0.length - (0:Int).toNat) (0:Int).toNat) (R6 (a0.length:Int) (1:Int) (8:Int)) false)
noncomputable abbrev A8r (r:Bool):AV×List AObj:=((.t true .bool r),[])
noncomputable abbrev B01:pshsDen A5y→AV×List AObj:=fun d=>A8r (B1a d.1)
noncomputable def A87 (a0:Lq1):Bool:=E9 a0
noncomputable abbrev A75:pshsDen A5y→Bool:=fun d=>A87 d.1
noncomputable abbrev B7d:Nat→St→Option Tree:=fun b=>match b with | 0=>A9d | _=>fun _=>none
theorem B5V:RunP true G18 (B7d) Try.f75 A5y A75 B01:=by
 rintro ⟨a0,_⟩ hp
 change A87 a0=true at hp
 unfold A87 at hp
 refine Eq.trans (b:=(cond (decide (0≤(0:Int))&&(decide ((a0.length:Int)=(a0.length:Int))&&(decide (a0=a0)&&E9 a0))) (cond (allF (A95 a0) (a0.length - (0:Int).toNat) (0:Int).toNat) (some (A8r (R6 (a0.length:Int) (1:Int) (8:Int)))) (some (A8r false))) none)) (by kernel_rfl) ?_
 exact (cndT (by first | rfl | decide | exact hp | (simp only [Bool.and_eq_true] at hp;simp only [hp];done) | (simp [*];done) | (simp [okL] at hp;simp [okL,MAXB];omega) | (simp_all;done) | (simp at *;omega)) (fun _h=>(N9 A8r (fun _h=>rfl) (fun _h=>rfl))))
theorem B7l:aPP 75 (sumOf A5y A75 B01):=pcD true G18 (hl1 (i:=0) (by kernel_rfl) B4y) B5V
noncomputable def S19:Tab:=Tab.add S18 75 (lift (sumOf A5y A75 B01))
noncomputable def B9y:FuncId→Bool:=qadd B9x 75
theorem G19:aPG S19 B9y:=G18.addQ B7l (cbl Try.f75) (fun _=>rfl)

abbrev A5z:List PSh:=[.agg [(.int .i64),(.int .i64),tq2]]
noncomputable def X2 (a0 a1:Int) (a2:Lq1):Bool:=(cond (a0==(1:Int)) (cond (A97 a1) (B1a a2) false) (cond (a0==(2:Int)) (cond (A97 a1) ((a2.length:Int)==(0:Int)) false) (cond (a0==(3:Int)) (cond (A97 a1) ((a2.length:Int)==(0:Int)) false) false)))
noncomputable abbrev O0 (r:Bool):AV×List AObj:=((.t true .bool r),[])
noncomputable abbrev B02:pshsDen A5z→AV×List AObj:=fun d=>O0 (X2 d.1.1 d.1.2.1 d.1.2.2.1)
noncomputable def F9 (a0 a1:Int) (a2:Lq1):Bool:=E9 a2
noncomputable abbrev A76:pshsDen A5z→Bool:=fun d=>F9 d.1.1 d.1.2.1 d.1.2.2.1
theorem B5W:RunP true G19 aLn Try.f27 A5z A76 B02:=by
 rintro ⟨⟨a0,⟨a1,⟨a2,_⟩⟩⟩,_⟩ hp
 change F9 a0 a1 a2=true at hp
 unfold F9 at hp
 refine Eq.trans (b:=(let z1:=O0 ((a2.length:Int)==(0:Int));cond (a0==(1:Int)) (cond (A97 a1) (cond (A87 a2) (some (O0 (B1a a2))) none) (some (O0 false))) (cond (a0==(2:Int)) (cond (A97 a1) (some z1) (some (O0 false))) (cond (a0==(3:Int)) (cond (A97 a1) (some z1) (some (O0 false))) (some (O0 false)))))) (by kernel_rfl) ?_
 exact (N9 O0 (fun _h=>(N9 O0 (fun _h=>(cndT (by first | rfl | decide | exact hp | (simp only [Bool.and_eq_true] at hp;simp only [hp];done) | (simp [*];done) | (simp [okL] at hp;simp [okL,MAXB];omega) | (simp_all;done) | (simp at *;omega)) (fun _h=>rfl))) (fun _h=>rfl))) (fun _h=>(N9 O0 (fun _h=>(N9 O0 (fun _h=>rfl) (fun _h=>rfl))) (fun _h=>(N9 O0 (fun _h=>(N9 O0 (fun _h=>rfl) (fun _h=>rfl))) (fun _h=>rfl))))))
theorem B7m:aPP 27 (sumOf A5z A76 B02):=pcD true G19 hlz B5W
noncomputable def S20:Tab:=Tab.add S19 27 (lift (sumOf A5z A76 B02))
noncomputable def B9z:FuncId→Bool:=qadd B9y 27
theorem G20:aPG S20 B9z:=G19.addQ B7m (cbl Try.f27) (fun _=>rfl)

abbrev B7X:List Sh:=.junk::.junk::.junk::.junk::.junk::.junk::B7W
abbrev u23:=((),u22)
abbrev A0r:SS:=⟨[.nil,tI],[]⟩
abbrev F6:SS:=⟨(.all 0 1::tI::B7X),[.rows 5 true (.int .u8)]⟩
abbrev A0m:SS:=⟨(.all 0 1::tI::B7X),[.rows 5 true (.int .u8)]⟩
noncomputable def X1 (x1:Int) (h0:List Int):RT F6.den:=let z1:=ior .i64 (128:Int) (iand .i64 x1 (127:Int));(.br (decide (x1 > (127:Int))) (.br (decide ((h0.length+[IntKind.wrap .u8 z1].length)*1≤MAXB)) (.next (((),Int.fdiv x1 (2 ^ (7)),u23),(h0++[IntKind.wrap .u8 z1],()))) .fail) (.done (.exit 0) A0m (((),x1,u23),(h0,()))))
noncomputable def R3 (x1:Int) (h0:List Int):CT:=(.br (decide (0≤x1∧x1≤1000000000)&&decide (h0.length≤35184372088832)) (.done (.exit 0) A0m (((),((nX x1).2),u23),((h0++(nX x1).1),()))) .fail)
noncomputable abbrev H6:F6.den→RT F6.den:=(fun d=>X1 d.1.2.1 d.2.1)
noncomputable abbrev A02 (x1:Int) (h0:List Int):F6.den:=(((),x1,u23),(h0,()))
noncomputable def A2D:Code:=((loopsIn 0 (bodyOf Try.f113)).getD 0 (0,.skip)).2
theorem B0r (x1:Int) (h0:List Int):(R3 x1 h0).val (D:=F6.den)=.fail∨Runs H6 (A02 x1 h0) (R3 x1 h0).val:=by
 cases hc:(decide (0≤x1∧x1≤1000000000)&&decide (h0.length≤35184372088832)) with
 | false=>left;simp only [R3,CT.val,hc,cond_false]
 | true =>
  right
  simp only [R3,CT.val,hc,cond_true]
  simp only [Bool.and_eq_true,decide_eq_true_eq] at hc
  rw [B72]
  have key:∀ (k:Nat) (x1:Int) (h0:List Int),0≤x1→x1<128 ^ (k+1)→h0.length+k≤70368744177664→Runs H6 (A02 x1 h0) (((.done (.exit 0) A0m (((),((hiF U1 k x1).2),u23),((h0++(hiF U1 k x1).1),()))):CT).val (D:=F6.den)):=by
   intro k
   induction k with
   | zero =>
    intro x h h1 h2 h3
    have e1:decide (x > 127)=false:=decide_eq_false (by simp at h2;omega)
    refine .done (by simp) ?_
    simp only [H6,X1,RT.val,e1,cond_false,hiF,List.append_nil]
   | succ k ih =>
    intro x h h1 h2 h3
    rw [Int.pow_succ] at h2
    by_cases hx:x > 127
    ·have e1:decide (x > 127)=true:=decide_eq_true hx
     have e2:decide ((h.length+[U1 x].length)*1≤MAXB)=true:=decide_eq_true (by simp [MAXB];omega)
     simp only [U1] at e2
     have:=ih (Int.fdiv x (2 ^ 7)) (h++[U1 x]) (by rw [B0H];omega) (by rw [B0H];omega) (by simp;omega)
     refine .next (d':=A02 (Int.fdiv x (2 ^ 7)) (h++[U1 x])) ?_ ?_
     ·simp only [H6,X1,RT.val,e1,e2,cond_true];rfl
     ·have e3:hiF U1 (k+1) x=(U1 x::(hiF U1 k (Int.fdiv x (2 ^ 7))).1,(hiF U1 k (Int.fdiv x (2 ^ 7))).2):=by simp only [hiF,e1,cond_true]
      rw [e3]
      simpa [List.append_assoc] using this
    ·have e1:decide (x > 127)=false:=decide_eq_false hx
     refine .done (by simp) ?_
     simp only [H6,X1,RT.val,e1,cond_false,hiF,List.append_nil]
  exact key 4 x1 h0 hc.1.1 (by have:=hc.1.2;simp;omega) (by have:=hc.2;omega)
theorem A89:RdA G20 aLn 0 A2D F6 0 [] (kepts [] [(0,[0,1])]) (fun d=>(H6 d).opt 0 []):=by
 intro d
 kernel_rfl
noncomputable abbrev A3i:St→Option Tree:=F6.say 0 [] [(0,5,(.int .u8))] (fun d=>R3 d.1.2.1 d.2.1)
theorem A9P:aPL A3i A2D:=SS.wp2 hlz [(0,5,(.int .u8))] H6 A89 (fun d=>rfl) _ (fun d=>B0r d.1.2.1 d.2.1)
noncomputable def A8 (x1:Int):List Int:=let z1:=if (1000000000:Int)<x1 then (1000000000:Int) else x1;let z2:=nX (if z1 > (0:Int) then z1 else (0:Int));((([]:List Int)++z2.1)++[IntKind.wrap .u8 (z2.2)])
noncomputable abbrev A7b (r:List Int):AV×List AObj×List Nat:=((.all 0 1),[(.rows 5 true (.int .u8) r)],[])
noncomputable abbrev A7f:A0r.den→AV×List AObj×List Nat:=fun d=>A7b (A8 d.1.2.1)
noncomputable abbrev A5g:A0r.den→Bool:=fun d=>true
noncomputable abbrev B1J:Nat→St→Option Tree:=fun b=>match b with | 0=>A3i | _=>fun _=>none
theorem B0D:RunM G20 (B1J) Try.f113 A0r A5g A7f:=by
 rintro ⟨⟨_,(x1:Int),_⟩,_⟩ hp
 refine Eq.trans (b:=(let z2:=if (1000000000:Int)<x1 then (1000000000:Int) else x1;let z1:=if z2 > (0:Int) then z2 else (0:Int);let z3:=([]:List Int)++(nX z1).1;cond (decide (0≤z1∧z1≤1000000000)&&decide (([]:List Int).length≤35184372088832)) (cond (decide ((z3.length+[IntKind.wrap .u8 ((nX z1).2)].length)*1≤MAXB)) (some (A7b (z3++[IntKind.wrap .u8 ((nX z1).2)]))) none) none)) (by kernel_rfl) ?_
 exact (cndT (by have h1:=B1g (A1U x1);have h2:=A18 x1;simp only [A1U] at h1 h2;simp only [decide_eq_true_eq,Bool.and_eq_true] at *;(try simp only [MAXB,List.length_append,List.length_cons,List.length_nil])<;>omega) (fun _h=>(cndT (by have h1:=B1g (A1U x1);have h2:=A18 x1;simp only [A1U] at h1 h2;simp only [decide_eq_true_eq,Bool.and_eq_true] at *;(try simp only [MAXB,List.length_append,List.length_cons,List.length_nil])<;>omega) (fun _h=>rfl))))
noncomputable abbrev A3A:=win winIds (msum A0r A5g A7f)
theorem A69:aPM 113 A3A:=(mcM G20 (hl1 (i:=0) (by kernel_rfl) A9P) B0D).win winIds
noncomputable def S21:Tab:=Tab.add S20 113 (A3A)
noncomputable def B9A:FuncId→Bool:=B9z
theorem G21:aPG S21 B9A:=G20.addM A69 (win_local _) (cbl Try.f113) (by kernel_rfl)
theorem A2N (n:Int):A8 n=A7 (A0A n):=by
 rw [← A9v]
 rfl
theorem A5b (n:Int):(A8 n).length≤5:=by rw [A2N];exact O3 _

abbrev A4j:SS:=⟨[.all 0 1,tI],[.rows 5 true (.int .u8)]⟩
abbrev P1:SS:=⟨(.all 0 1::tI::B7X),[.rows 5 true (.int .u8)]⟩
abbrev A3n:SS:=⟨(.all 0 1::tI::B7X),[.rows 5 true (.int .u8)]⟩
noncomputable def A2j (x1:Int) (h0:List Int):RT P1.den:=let z1:=ior .i64 (128:Int) (iand .i64 x1 (127:Int));(.br (decide (x1 > (127:Int))) (.br (decide ((h0.length+[IntKind.wrap .u8 z1].length)*1≤MAXB)) (.next (((),Int.fdiv x1 (2 ^ (7)),u23),(h0++[IntKind.wrap .u8 z1],()))) .fail) (.done (.exit 0) A3n (((),x1,u23),(h0,()))))
noncomputable def A1x (x1:Int) (h0:List Int):CT:=(.br (decide (0≤x1∧x1≤1000000000)&&decide (h0.length≤35184372088832)) (.done (.exit 0) A3n (((),((nX x1).2),u23),((h0++(nX x1).1),()))) .fail)
noncomputable abbrev R1:P1.den→RT P1.den:=(fun d=>A2j d.1.2.1 d.2.1)
noncomputable abbrev A4L (x1:Int) (h0:List Int):P1.den:=(((),x1,u23),(h0,()))
noncomputable def A5H:Code:=((loopsIn 0 (bodyOf Try.f113)).getD 0 (0,.skip)).2
theorem B3X (x1:Int) (h0:List Int):(A1x x1 h0).val (D:=P1.den)=.fail∨Runs R1 (A4L x1 h0) (A1x x1 h0).val:=by
 cases hc:(decide (0≤x1∧x1≤1000000000)&&decide (h0.length≤35184372088832)) with
 | false=>left;simp only [A1x,CT.val,hc,cond_false]
 | true =>
  right
  simp only [A1x,CT.val,hc,cond_true]
  simp only [Bool.and_eq_true,decide_eq_true_eq] at hc
  rw [B72]
  have key:∀ (k:Nat) (x1:Int) (h0:List Int),0≤x1→x1<128 ^ (k+1)→h0.length+k≤70368744177664→Runs R1 (A4L x1 h0) (((.done (.exit 0) A3n (((),((hiF U1 k x1).2),u23),((h0++(hiF U1 k x1).1),()))):CT).val (D:=P1.den)):=by
   intro k
   induction k with
   | zero =>
    intro x h h1 h2 h3
    have e1:decide (x > 127)=false:=decide_eq_false (by simp at h2;omega)
    refine .done (by simp) ?_
    simp only [R1,A2j,RT.val,e1,cond_false,hiF,List.append_nil]
   | succ k ih =>
    intro x h h1 h2 h3
    rw [Int.pow_succ] at h2
    by_cases hx:x > 127
    ·have e1:decide (x > 127)=true:=decide_eq_true hx
     have e2:decide ((h.length+[U1 x].length)*1≤MAXB)=true:=decide_eq_true (by simp [MAXB];omega)
     simp only [U1] at e2
     have:=ih (Int.fdiv x (2 ^ 7)) (h++[U1 x]) (by rw [B0H];omega) (by rw [B0H];omega) (by simp;omega)
     refine .next (d':=A4L (Int.fdiv x (2 ^ 7)) (h++[U1 x])) ?_ ?_
     ·simp only [R1,A2j,RT.val,e1,e2,cond_true];rfl
     ·have e3:hiF U1 (k+1) x=(U1 x::(hiF U1 k (Int.fdiv x (2 ^ 7))).1,(hiF U1 k (Int.fdiv x (2 ^ 7))).2):=by simp only [hiF,e1,cond_true]
      rw [e3]
      simpa [List.append_assoc] using this
    ·have e1:decide (x > 127)=false:=decide_eq_false hx
     refine .done (by simp) ?_
     simp only [R1,A2j,RT.val,e1,cond_false,hiF,List.append_nil]
  exact key 4 x1 h0 hc.1.1 (by have:=hc.1.2;simp;omega) (by have:=hc.2;omega)
theorem B14:RdA G21 aLn 0 A5H P1 1 [0] (kepts [] [(0,[0,1])]) (fun d=>(R1 d).opt 1 [0]):=by
 intro d
 kernel_rfl
noncomputable abbrev A7B:St→Option Tree:=P1.say 1 [0] [] (fun d=>A1x d.1.2.1 d.2.1)
theorem B3f:aPL A7B A5H:=SS.wp2 hlz [] R1 B14 (fun d=>rfl) _ (fun d=>B3X d.1.2.1 d.2.1)
noncomputable def D2 (x1:Int) (h0:List Int):List Int:=let z1:=if (1000000000:Int)<x1 then (1000000000:Int) else x1;let z2:=nX (if z1 > (0:Int) then z1 else (0:Int));((h0++z2.1)++[IntKind.wrap .u8 (z2.2)])
noncomputable abbrev B2y (r:List Int):AV×List AObj×List Nat:=((.all 0 1),[(.rows 5 true (.int .u8) r)],[0])
noncomputable abbrev B2F:A4j.den→AV×List AObj×List Nat:=fun d=>B2y (D2 d.1.2.1 d.2.1)
noncomputable def C4 (x1:Int) (h0:List Int):Bool:=decide (h0.length≤17592186044416)
noncomputable abbrev B0i:A4j.den→Bool:=fun d=>C4 d.1.2.1 d.2.1
noncomputable abbrev B6o:Nat→St→Option Tree:=fun b=>match b with | 0=>A7B | _=>fun _=>none
theorem B4U:RunM G21 (B6o) Try.f113 A4j B0i B2F:=by
 rintro ⟨⟨_,(x1:Int),_⟩,⟨(h0:List Int),_⟩⟩ hp
 change C4 x1 h0=true at hp
 unfold C4 at hp
 refine Eq.trans (b:=(let z2:=if (1000000000:Int)<x1 then (1000000000:Int) else x1;let z1:=if z2 > (0:Int) then z2 else (0:Int);cond (decide (0≤z1∧z1≤1000000000)&&decide (h0.length≤35184372088832)) (cond (decide (((h0++(nX z1).1).length+[IntKind.wrap .u8 ((nX z1).2)].length)*1≤MAXB)) (some (B2y ((h0++(nX z1).1)++[IntKind.wrap .u8 ((nX z1).2)]))) none) none)) (by kernel_rfl) ?_
 exact (cndT (by have h1:=B1g (A1U x1);have h2:=A18 x1;simp only [A1U] at h1 h2;simp only [C4,decide_eq_true_eq,Bool.and_eq_true] at *;(try simp only [MAXB,List.length_append,List.length_cons,List.length_nil])<;>omega) (fun _h=>(cndT (by have h1:=B1g (A1U x1);have h2:=A18 x1;simp only [A1U] at h1 h2;simp only [C4,decide_eq_true_eq,Bool.and_eq_true] at *;(try simp only [MAXB,List.length_append,List.length_cons,List.length_nil])<;>omega) (fun _h=>rfl))))
noncomputable abbrev B2J:=win winIds (msum A4j B0i B2F)
theorem B6B:aPM 113 B2J:=(mcM G21 (hl1 (i:=0) (by kernel_rfl) B3f) B4U).win winIds
noncomputable def S22:Tab:=Tab.add S21 113 (orElseS (A3A) (B2J))
noncomputable def B9B:FuncId→Bool:=B9A
theorem G22:aPG S22 B9B:=G21.addM (MContract.orElse A69 B6B) (orElse_local (win_local _) (win_local _)) (cbl Try.f113) (by kernel_rfl)
theorem A00 (n:Int) (b:List Int):D2 n b=b++A7 (A0A n):=by
 rw [← A9v,A7,← List.append_assoc]
 rfl
theorem A0d (b:List Int) (n:Int):(D2 n b).length≤b.length+5:=by
 rw [A00,List.length_append]
 have:=O3 (A0A n)
 omega

abbrev A26:SS:=⟨[.all 0 1,.t true .str],[.rows 5 true (.int .u8)]⟩
noncomputable def M2 (x1:ByteArray) (h0:List Int):List Int:=((D2 (x1.size:Int) h0)++strInts x1)
noncomputable abbrev B0V (r:List Int):AV×List AObj×List Nat:=((.all 0 1),[(.rows 5 true (.int .u8) r)],[0])
noncomputable abbrev B03:A26.den→AV×List AObj×List Nat:=fun d=>B0V (M2 d.1.2.1 d.2.1)
noncomputable def F0 (x1:ByteArray) (h0:List Int):Bool:=decide (h0.length≤8796093022208)&&okS x1
noncomputable abbrev A8S:A26.den→Bool:=fun d=>F0 d.1.2.1 d.2.1
theorem B3K:RunM G22 aLn Try.f147 A26 A8S B03:=by
 rintro ⟨⟨_,(x1:ByteArray),_⟩,⟨(h0:List Int),_⟩⟩ hp
 change F0 x1 h0=true at hp
 unfold F0 at hp
 refine Eq.trans (b:=(let z1:=D2 (x1.size:Int) h0;cond (C4 (x1.size:Int) h0) (cond (decide (z1.length+x1.size≤MAXB)) (some (B0V (z1++strInts x1))) none) none)) (by kernel_rfl) ?_
 exact (cndT (by have h1:=A0d h0 (x1.size:Int);simp only [C4,okS,decide_eq_true_eq,decide_eq_false_iff_not,Bool.and_eq_true] at *;(try simp [MAXB])<;>omega) (fun _h=>(cndT (by have h1:=A0d h0 (x1.size:Int);simp only [C4,okS,decide_eq_true_eq,decide_eq_false_iff_not,Bool.and_eq_true] at *;(try simp [MAXB])<;>omega) (fun _h=>rfl))))
noncomputable abbrev B1e:=win winIds (msum A26 A8S B03)
theorem B5u:aPM 147 B1e:=(mcM G22 hlz B3K).win winIds
noncomputable def S23:Tab:=Tab.add S22 147 (B1e)
noncomputable def B9C:FuncId→Bool:=B9B
theorem G23:aPG S23 B9C:=G22.addM B5u (win_local _) (cbl Try.f147) (by kernel_rfl)
theorem A5U (b:List Int) (s:ByteArray) (h:okS s=true):M2 s b=b++H8 s:=by
 simp only [okS,decide_eq_true_eq] at h
 simp only [M2,A00,H8,List.append_assoc]
 rw [A0c (by omega) (by omega)]
theorem A2a (b:List Int) (s:ByteArray) (h:okS s=true):(M2 s b).length≤b.length+5+s.size:=by
 rw [A5U b s h,List.length_append]
 have:=A91 s
 omega

abbrev u30:=((),u29)
noncomputable def A1X (l:Lq1) (i:Nat) (h:List Int):List Int:=let z1:=l.getD i dOp;M2 z1.2.2 (M2 z1.2.1 (D2 z1.1 h))
abbrev A0s:SS:=⟨[.nil,.t false tq2],[]⟩
abbrev F7:SS:=⟨(.all 0 1::.junk::.junk::.junk::.junk::.junk::.junk::.junk::.junk::.junk::.junk::.t false tq2::tI::tI::B8s),[.rows 5 true (.int .u8)]⟩
abbrev A0n:SS:=⟨(.all 0 1::B5N),[.rows 5 true (.int .u8)]⟩
noncomputable def A1a (x11:Lq1) (x12 x13:Int) (h0:List Int):RT F7.den:=let z1:=x11.getD x13.toNat ((0:Int),(bE,bE));let z2:=M2 ((z1.2).1) (D2 (z1.1) h0);(.br (decide (x13<x12)) (.br (decide (0≤x13∧x13<(x11.length:Int))) (.br (C4 (z1.1) h0) (.br (F0 ((z1.2).1) (D2 (z1.1) h0)) (.br (F0 ((z1.2).2) z2) (.next (((),(),(),(),(),(),(),(),(),(),(),x11,x12,IntKind.wrap .i64 (x13+(1:Int)),u16),((M2 ((z1.2).2) z2),()))) .fail) .fail) .fail) .fail) (.done (.exit 0) A0n ((u30),(h0,()))))
noncomputable def R4 (x11:Lq1) (x12 x13:Int) (h0:List Int):CT:=(.br (decide (0≤x13)&&(decide (x12=(x11.length:Int))&&(decide (h0.length≤4194304*(x13.toNat+1))&&E9 x11))) (.done (.exit 0) A0n ((u30),((foldN (A1X x11) (x11.length - x13.toNat) x13.toNat h0),()))) .fail)
noncomputable abbrev A32 {α:Sort _} (f:Lq1→Int→Int→(List Int)→α) (d:F7.den):α:=f d.1.2.2.2.2.2.2.2.2.2.2.2.1 d.1.2.2.2.2.2.2.2.2.2.2.2.2.1 d.1.2.2.2.2.2.2.2.2.2.2.2.2.2.1 d.2.1
noncomputable abbrev K0:F7.den→RT F7.den:=(A32 A1a)
noncomputable abbrev A4a (x11:Lq1) (x12 x13:Int) (h0:List Int):F7.den:=(((),(),(),(),(),(),(),(),(),(),(),x11,x12,x13,u16),(h0,()))
noncomputable def A2E:Code:=((loopsIn 0 (bodyOf Try.f114)).getD 0 (0,.skip)).2
theorem B0s (x11:Lq1) (x12 x13:Int) (h0:List Int):(R4 x11 x12 x13 h0).val (D:=F7.den)=.fail∨Runs K0 (A4a x11 x12 x13 h0) (R4 x11 x12 x13 h0).val:=by
 cases hc:(decide (0≤x13)&&(decide (x12=(x11.length:Int))&&(decide (h0.length≤4194304*(x13.toNat+1))&&E9 x11))) with
 | false=>left;simp only [R4,CT.val,hc,cond_false]
 | true =>
  right
  simp only [R4,CT.val,hc,cond_true]
  simp only [Bool.and_eq_true,decide_eq_true_eq] at hc
  obtain ⟨i,rfl⟩:=Int.eq_ofNat_of_zero_le hc.1
  obtain ⟨_,e1,hc⟩:=hc
  subst e1
  have hc:=And.intro (show True from trivial) hc
  have hs:=A0g hc.2.2
  have hb0:=hc.2.1
  simp only [Int.toNat_natCast] at hb0 ⊢
  refine Runs.foldN (step:=K0) (fun j b=>A4a x11 (x11.length:Int) (j:Int) b) (fun i b=>b.length≤4194304*(i+1)) (x11.length) (A1X x11)
   (fin:=fun b=>((.done (.exit 0) A0n ((u30),(b,()))):CT).val) (fun i b hi hb=>?_) (fun i b hi hb=>?_) (x11.length - i) i h0 rfl hb0
  ·obtain ⟨k1,k2⟩:=A5Z hc.2.2 i hi
   have l1:=A0d b (x11.getD i dOp).1
   have l2:=A2a (D2 (x11.getD i dOp).1 b) (x11.getD i dOp).2.1 k1
   have l3:=A2a (M2 (x11.getD i dOp).2.1 (D2 (x11.getD i dOp).1 b)) (x11.getD i dOp).2.2 k2
   have m1:=okS_le k1
   have m2:=okS_le k2
   have q1:C4 (x11.getD i dOp).1 b=true:=by simp only [C4,decide_eq_true_eq];omega
   have q2:F0 (x11.getD i dOp).2.1 (D2 (x11.getD i dOp).1 b)=true:=by simp only [F0,k1,Bool.and_true,decide_eq_true_eq];omega
   have q3:F0 (x11.getD i dOp).2.2 (M2 (x11.getD i dOp).2.1 (D2 (x11.getD i dOp).1 b))=true:=by simp only [F0,k2,Bool.and_true,decide_eq_true_eq];omega
   refine ⟨by simp only [A1X];omega,?_⟩
   have h0a:decide ((i:Int)<(x11.length:Int))=true:=decide_eq_true (by omega)
   have h0b:decide (0≤(i:Int)∧(i:Int)<(x11.length:Int))=true:=decide_eq_true (by omega)
   simp only [dOp] at q1 q2 q3
   simp only [K0,A1a,RT.val,h0a,h0b,cond_true,wrapS i (by omega),Int.toNat_natCast,q1,q2,q3]
   rfl
  ·have h1:decide ((i:Int)<(x11.length:Int))=false:=decide_eq_false (by omega)
   exact ⟨by simp only [K0,A1a,RT.val,h1,cond_false];rfl,_,_,_,rfl,by simp⟩
theorem A9a:RdA G23 aLn 0 A2E F7 0 [] (kepts [] [(0,[0])]) (fun d=>(K0 d).opt 0 []):=by
 intro d
 kernel_rfl
noncomputable abbrev A3j:St→Option Tree:=F7.say 0 [] [] (A32 R4)
theorem A9Q:aPL A3j A2E:=SS.wp2 hlz [] K0 A9a (fun d=>rfl) _ (fun d=>B0s d.1.2.2.2.2.2.2.2.2.2.2.2.1 d.1.2.2.2.2.2.2.2.2.2.2.2.2.1 d.1.2.2.2.2.2.2.2.2.2.2.2.2.2.1 d.2.1)
noncomputable def B4w (x1:Lq1):List Int:=(foldN (A1X x1) (x1.length - (0:Int).toNat) (0:Int).toNat (A8 (x1.length:Int)))
noncomputable abbrev A7c (r:List Int):AV×List AObj×List Nat:=((.all 0 1),[(.rows 5 true (.int .u8) r)],[])
noncomputable abbrev A7g:A0s.den→AV×List AObj×List Nat:=fun d=>A7c (B4w d.1.2.1)
noncomputable def A3E (x1:Lq1):Bool:=E9 x1
noncomputable abbrev A5h:A0s.den→Bool:=fun d=>A3E d.1.2.1
noncomputable abbrev B1K:Nat→St→Option Tree:=fun b=>match b with | 0=>A3j | _=>fun _=>none
theorem B0E:RunM G23 (B1K) Try.f114 A0s A5h A7g:=by
 rintro ⟨⟨_,(x1:Lq1),_⟩,_⟩ hp
 change A3E x1=true at hp
 unfold A3E at hp
 refine Eq.trans (b:=(let z1:=A8 (x1.length:Int);cond (decide (0≤(0:Int))&&(decide ((x1.length:Int)=(x1.length:Int))&&(decide (z1.length≤4194304*((0:Int).toNat+1))&&E9 x1))) (some (A7c (foldN (A1X x1) (x1.length - (0:Int).toNat) (0:Int).toNat z1))) none)) (by kernel_rfl) ?_
 exact (cndT (by have h1:=A5b (x1.length:Int);have hs:=A0g hp;simp only [hp,Bool.and_true,Bool.true_and,Bool.and_eq_true,decide_eq_true_eq]<;>(try simp only [Int.toNat_zero,Int.le_refl,true_and,and_true,eq_self] at h1 ⊢)<;>omega) (fun _h=>rfl))
noncomputable abbrev A3B:=win winIds (msum A0s A5h A7g)
theorem A7a:aPM 114 A3B:=(mcM G23 (hl1 (i:=0) (by kernel_rfl) A9Q) B0E).win winIds
noncomputable def S24:Tab:=Tab.add S23 114 (A3B)
noncomputable def B9D:FuncId→Bool:=B9C
theorem G24:aPG S24 B9D:=G23.addM A7a (win_local _) (cbl Try.f114) (by kernel_rfl)

abbrev A4k:SS:=⟨[.all 0 1,.t false tq2],[.rows 5 true (.int .u8)]⟩
abbrev P2:SS:=⟨(.all 0 1::.junk::.junk::.junk::.junk::.junk::.junk::.junk::.junk::.junk::.junk::.t false tq2::tI::tI::B8s),[.rows 5 true (.int .u8)]⟩
abbrev A3o:SS:=⟨(.all 0 1::B5N),[.rows 5 true (.int .u8)]⟩
noncomputable def A47 (x11:Lq1) (x12 x13:Int) (h0:List Int):RT P2.den:=let z1:=x11.getD x13.toNat ((0:Int),(bE,bE));let z2:=M2 ((z1.2).1) (D2 (z1.1) h0);(.br (decide (x13<x12)) (.br (decide (0≤x13∧x13<(x11.length:Int))) (.br (C4 (z1.1) h0) (.br (F0 ((z1.2).1) (D2 (z1.1) h0)) (.br (F0 ((z1.2).2) z2) (.next (((),(),(),(),(),(),(),(),(),(),(),x11,x12,IntKind.wrap .i64 (x13+(1:Int)),u16),((M2 ((z1.2).2) z2),()))) .fail) .fail) .fail) .fail) (.done (.exit 0) A3o ((u30),(h0,()))))
noncomputable def A1y (x11:Lq1) (x12 x13:Int) (h0:List Int):CT:=(.br (decide (0≤x13)&&(decide (x12=(x11.length:Int))&&(decide (h0.length≤4194304*(x13.toNat+1))&&E9 x11))) (.done (.exit 0) A3o ((u30),((foldN (A1X x11) (x11.length - x13.toNat) x13.toNat h0),()))) .fail)
noncomputable abbrev A8m {α:Sort _} (f:Lq1→Int→Int→(List Int)→α) (d:P2.den):α:=f d.1.2.2.2.2.2.2.2.2.2.2.2.1 d.1.2.2.2.2.2.2.2.2.2.2.2.2.1 d.1.2.2.2.2.2.2.2.2.2.2.2.2.2.1 d.2.1
noncomputable abbrev V9:P2.den→RT P2.den:=(A8m A47)
noncomputable abbrev A8R (x11:Lq1) (x12 x13:Int) (h0:List Int):P2.den:=(((),(),(),(),(),(),(),(),(),(),(),x11,x12,x13,u16),(h0,()))
noncomputable def A5I:Code:=((loopsIn 0 (bodyOf Try.f114)).getD 0 (0,.skip)).2
theorem B3Y (x11:Lq1) (x12 x13:Int) (h0:List Int):(A1y x11 x12 x13 h0).val (D:=P2.den)=.fail∨Runs V9 (A8R x11 x12 x13 h0) (A1y x11 x12 x13 h0).val:=by
 cases hc:(decide (0≤x13)&&(decide (x12=(x11.length:Int))&&(decide (h0.length≤4194304*(x13.toNat+1))&&E9 x11))) with
 | false=>left;simp only [A1y,CT.val,hc,cond_false]
 | true =>
  right
  simp only [A1y,CT.val,hc,cond_true]
  simp only [Bool.and_eq_true,decide_eq_true_eq] at hc
  obtain ⟨i,rfl⟩:=Int.eq_ofNat_of_zero_le hc.1
  obtain ⟨_,e1,hc⟩:=hc
  subst e1
  have hc:=And.intro (show True from trivial) hc
  have hs:=A0g hc.2.2
  have hb0:=hc.2.1
  simp only [Int.toNat_natCast] at hb0 ⊢
  refine Runs.foldN (step:=V9) (fun j b=>A8R x11 (x11.length:Int) (j:Int) b) (fun i b=>b.length≤4194304*(i+1)) (x11.length) (A1X x11)
   (fin:=fun b=>((.done (.exit 0) A3o ((u30),(b,()))):CT).val) (fun i b hi hb=>?_) (fun i b hi hb=>?_) (x11.length - i) i h0 rfl hb0
  ·obtain ⟨k1,k2⟩:=A5Z hc.2.2 i hi
   have l1:=A0d b (x11.getD i dOp).1
   have l2:=A2a (D2 (x11.getD i dOp).1 b) (x11.getD i dOp).2.1 k1
   have l3:=A2a (M2 (x11.getD i dOp).2.1 (D2 (x11.getD i dOp).1 b)) (x11.getD i dOp).2.2 k2
   have m1:=okS_le k1
   have m2:=okS_le k2
   have q1:C4 (x11.getD i dOp).1 b=true:=by simp only [C4,decide_eq_true_eq];omega
   have q2:F0 (x11.getD i dOp).2.1 (D2 (x11.getD i dOp).1 b)=true:=by simp only [F0,k1,Bool.and_true,decide_eq_true_eq];omega
   have q3:F0 (x11.getD i dOp).2.2 (M2 (x11.getD i dOp).2.1 (D2 (x11.getD i dOp).1 b))=true:=by simp only [F0,k2,Bool.and_true,decide_eq_true_eq];omega
   refine ⟨by simp only [A1X];omega,?_⟩
   have h0a:decide ((i:Int)<(x11.length:Int))=true:=decide_eq_true (by omega)
   have h0b:decide (0≤(i:Int)∧(i:Int)<(x11.length:Int))=true:=decide_eq_true (by omega)
   simp only [dOp] at q1 q2 q3
   simp only [V9,A47,RT.val,h0a,h0b,cond_true,wrapS i (by omega),Int.toNat_natCast,q1,q2,q3]
   rfl
  ·have h1:decide ((i:Int)<(x11.length:Int))=false:=decide_eq_false (by omega)
   exact ⟨by simp only [V9,A47,RT.val,h1,cond_false];rfl,_,_,_,rfl,by simp⟩
theorem B15:RdA G24 aLn 0 A5I P2 1 [0] (kepts [] [(0,[0])]) (fun d=>(V9 d).opt 1 [0]):=by
 intro d
 kernel_rfl
noncomputable abbrev A7C:St→Option Tree:=P2.say 1 [0] [] (A8m A1y)
theorem B3g:aPL A7C A5I:=SS.wp2 hlz [] V9 B15 (fun d=>rfl) _ (fun d=>B3Y d.1.2.2.2.2.2.2.2.2.2.2.2.1 d.1.2.2.2.2.2.2.2.2.2.2.2.2.1 d.1.2.2.2.2.2.2.2.2.2.2.2.2.2.1 d.2.1)
noncomputable def A1i (x1:Lq1) (h0:List Int):List Int:=(foldN (A1X x1) (x1.length - (0:Int).toNat) (0:Int).toNat (D2 (x1.length:Int) h0))
noncomputable abbrev B2z (r:List Int):AV×List AObj×List Nat:=((.all 0 1),[(.rows 5 true (.int .u8) r)],[0])
noncomputable abbrev B2G:A4k.den→AV×List AObj×List Nat:=fun d=>B2z (A1i d.1.2.1 d.2.1)
noncomputable def A0i (x1:Lq1) (h0:List Int):Bool:=decide (h0.length≤1000)&&E9 x1
noncomputable abbrev B0j:A4k.den→Bool:=fun d=>A0i d.1.2.1 d.2.1
noncomputable abbrev B6p:Nat→St→Option Tree:=fun b=>match b with | 0=>A7C | _=>fun _=>none
theorem B4V:RunM G24 (B6p) Try.f114 A4k B0j B2G:=by
 rintro ⟨⟨_,(x1:Lq1),_⟩,⟨(h0:List Int),_⟩⟩ hp
 change A0i x1 h0=true at hp
 unfold A0i at hp
 refine Eq.trans (b:=(let z1:=D2 (x1.length:Int) h0;cond (C4 (x1.length:Int) h0) (cond (decide (0≤(0:Int))&&(decide ((x1.length:Int)=(x1.length:Int))&&(decide (z1.length≤4194304*((0:Int).toNat+1))&&E9 x1))) (some (B2z (foldN (A1X x1) (x1.length - (0:Int).toNat) (0:Int).toNat z1))) none) none)) (by kernel_rfl) ?_
 exact (cndT (by obtain ⟨hp1,hp2⟩:=(Bool.and_eq_true _ _).mp hp;have h1:=A0d h0 (x1.length:Int);have hs:=A0g hp2;simp only [C4,hp2,Bool.and_true,Bool.true_and,Bool.and_eq_true,decide_eq_true_eq] at hp1 ⊢<;>(try simp only [Int.toNat_zero,Int.le_refl,true_and,and_true,eq_self] at h1 ⊢)<;>omega) (fun _h=>(cndT (by obtain ⟨hp1,hp2⟩:=(Bool.and_eq_true _ _).mp hp;have h1:=A0d h0 (x1.length:Int);have hs:=A0g hp2;simp only [C4,hp2,Bool.and_true,Bool.true_and,Bool.and_eq_true,decide_eq_true_eq] at hp1 ⊢<;>(try simp only [Int.toNat_zero,Int.le_refl,true_and,and_true,eq_self] at h1 ⊢)<;>omega) (fun _h=>rfl))))
noncomputable abbrev B2K:=win winIds (msum A4k B0j B2G)
theorem B6C:aPM 114 B2K:=(mcM G24 (hl1 (i:=0) (by kernel_rfl) B3g) B4V).win winIds
noncomputable def S25:Tab:=Tab.add S24 114 (orElseS (A3B) (B2K))
noncomputable def B8e:FuncId→Bool:=B9D
theorem G25:aPG S25 B8e:=G24.addM (MContract.orElse A7a B6C) (orElse_local (win_local _) (win_local _)) (cbl Try.f114) (by kernel_rfl)
theorem B5M (l:Lq1) (h:List Int) (ho:E9 l=true):A1i l h=h++(A7 (A0A (l.length:Int))++(l.map opB).flatten):=by
 simp only [A1i]
 have:=B6U opB dOp l (A1X l) (fun i h hi=>by
  obtain ⟨k1,k2⟩:=A5Z ho i hi
  simp only [A1X,A5U _ _ k1,A5U _ _ k2,A00,opB,List.append_assoc]) l.length 0 (D2 (l.length:Int) h) (by omega)
 rw [A00,List.drop_zero,List.append_assoc] at this
 rw [← this,A00]
 rfl


abbrev N8:List PSh:=[.t B5]
noncomputable def C8 (a0:List (Int)):List (Int):=a0
noncomputable abbrev I5 (r:List (Int)):AV×List AObj:=(.all 0 1,[.rows 5 true (.int .u8) r])
noncomputable abbrev A11:pshsDen N8→AV×List AObj:=fun d=>I5 (C8 d.1)
noncomputable def C7 (a0:List (Int)):Bool:=decide ((([]:List (Int)).length+a0.length)*1≤MAXB)
noncomputable abbrev A0S:pshsDen N8→Bool:=fun d=>C7 d.1
theorem A6g (a0:List (Int)) (h0:0<a0.length) (hp:C7 a0=true):runP false Try.prog tt S25 B8e aLn Try.f169 [.t (Ty.sl (.int .u8)).flat B5 a0]=some (I5 a0):=by
 refine Eq.trans (b:=cond (decide (0<a0.length)) (cond (C7 a0) (some (I5 a0)) none) none) (by kernel_rfl) ?_
 rw [decide_eq_true h0,hp];rfl
theorem A6h (A:Option Addr) (c:Nat):runP false Try.prog tt S25 B8e aLn Try.f169 [.raw (.slice A 0 c)]=some (I5 []):=by
 cases A<;>kernel_rfl
theorem A6R:aPP 169 (sumOf N8 A0S A11):=PContract.split (e:=(.int .u8)) (pre:=C7) (g:=fun a0=>I5 (C8 a0)) (fun l h0 hp=>PCalls.of_run false G25 (fn:=Try.f169) (by kernel_rfl) (L:=fun _ _=>none) (by rw [show loopsIn 0 (bodyOf Try.f169)=[] by kernel_rfl];simp) (A6g l h0 hp) rfl rfl) (fun A c=>PCalls.of_run false G25 (fn:=Try.f169) (by kernel_rfl) (L:=fun _ _=>none) (by rw [show loopsIn 0 (bodyOf Try.f169)=[] by kernel_rfl];simp) (A6h A c) rfl rfl)
noncomputable def S26:Tab:=Tab.add S25 169 (lift (sumOf N8 A0S A11))
noncomputable def B9E:FuncId→Bool:=B8e
theorem G26:aPG S26 B9E:=G25.add A6R ⟨Try.f169,by kernel_rfl,by kernel_rfl,by kernel_rfl⟩ (by kernel_rfl)

abbrev u35:=((),u34)
abbrev C0J:List Sh:=.junk::B5N
abbrev u36:=((),u35)
abbrev C0u:List AV:=.junk::B7Q
abbrev A3R:List PSh:=[.t B5]
noncomputable def A2A:Code:=((loopsIn 0 (bodyOf Try.f150)).getD 0 (0,.skip)).2
noncomputable def A2B:Code:=((loopsIn 0 (bodyOf Try.f150)).getD 1 (0,.skip)).2
abbrev O9:SS:=⟨(.t false B5::.junk::.junk::.all 0 1::B7Y),[.rows 5 true (.int .u8)]⟩
abbrev A6T:SS:=⟨(.t false B5::.junk::.junk::.all 0 1::B7Y),[.rows 5 true (.int .u8)]⟩
noncomputable def A9l (x0 h0:List Int):RT O9.den:=(.br ((Int.tmod (IntKind.wrap .i64 ((h0.length:Int)+(8:Int))) (64:Int)) != (0:Int)) (.br (decide ((h0.length+[(0:Int)].length)*1≤MAXB)) (.next ((x0,u35),(h0++[(0:Int)],()))) .fail) (.done (.exit 0) A6T ((x0,u35),(h0,()))))
abbrev A0a:=(List Int)×(List Int)
abbrev T6:=Nat×(List Int)×(List Int)
def A8y:T6:=(99,([]:List Int),([]:List Int))
noncomputable def W2 (x0 h0:List Int):A0a ⊕ T6:=(cond ((Int.tmod (IntKind.wrap .i64 ((h0.length:Int)+(8:Int))) (64:Int)) != (0:Int)) (cond (decide ((h0.length+[(0:Int)].length)*1≤MAXB)) (.inl (x0,h0++[(0:Int)])) (.inr A8y)) (.inr (0,x0,h0)))
noncomputable def D6 (x0 h0:List Int):T6:=itX (fun v:A0a=>W2 v.1 v.2) A8y (x0,h0)
noncomputable def A4o (a:T6):CT:=(.br (a.1==0) (.done (.exit 0) A6T ((a.2.1,u35),(a.2.2,()))) .fail)
noncomputable def B30 (x0 h0:List Int):CT:=A4o (D6 x0 h0)
noncomputable abbrev A4X:O9.den→RT O9.den:=(fun d=>A9l d.1.1 d.2.1)
noncomputable abbrev A8W (v:A0a):O9.den:=((v.1,u35),(v.2,()))
theorem B3z:(∀ v:A0a,(A9l v.1 v.2).val=relS A8W A4o (W2 v.1 v.2))∧∀ a:T6,CEnd O9.den (A4o a):=⟨fun v=>(relB (relB rfl rfl) rfl),fun a=>(cendB aCD cendF)⟩
noncomputable def A8H (x0 h0:List Int):Option (Ex×St):=(cond ((Int.tmod (IntKind.wrap .i64 ((h0.length:Int)+(8:Int))) (64:Int)) != (0:Int)) (cond (decide ((h0.length+[(0:Int)].length)*1≤MAXB)) (some (.normal,(⟨((.t false B5 x0)::.junk::.junk::(.all 0 1)::B7R),[(.rows 5 true (.int .u8) (h0++[(0:Int)]))],0,[]⟩:St))) none) (some ((.exit 0),(⟨((.t false B5 x0)::.junk::.junk::(.all 0 1)::B7R),[(.rows 5 true (.int .u8) h0)],0,[]⟩:St))))
theorem B11:RdA G26 aLn 0 A2A O9 0 [] (kepts [] [(0,[0,3])]) (fun d=>A8H d.1.1 d.2.1):=by
 intro d
 kernel_rfl
theorem B2e:∀ d:O9.den,(fun d=>A8H d.1.1 d.2.1) d=(A4X d).opt 0 []:=by
 intro d
 kernel_rfl
noncomputable abbrev A7y:St→Option Tree:=O9.say 0 [] [] (fun d=>B30 d.1.1 d.2.1)
theorem B3c:aPL A7y A2A:=SS.wp2 hlz [] A4X B11 B2e _ (fun d=>Runs.ofI2 (step:=A4X) A8W B3z rfl (d.1.1,d.2.1))
abbrev P0:SS:=⟨(.junk::.junk::.junk::.all 0 1::tI::tI::C0J),[.rows 5 true (.int .u8)]⟩
abbrev A6U:SS:=⟨(.junk::.junk::.junk::.all 0 1::B7Y),[.rows 5 true (.int .u8)]⟩
noncomputable def A9m (x4 x5:Int) (h0:List Int):RT P0.den:=let z1:=IntKind.wrap .i64 ((8:Int)*x5);(.br (decide (x5 ≥ (0:Int))) (.br (decide (0≤(IntKind.wrap .u64 z1))) (.br (decide ((h0.length+[IntKind.wrap .u8 (Int.fdiv x4 (2 ^ (min (Int.toNat (IntKind.wrap .u64 z1)) (IntKind.bits .i64))))].length)*1≤MAXB)) (.next (((),(),(),(),x4,IntKind.wrap .i64 (x5 - (1:Int)),u30),(h0++[IntKind.wrap .u8 (Int.fdiv x4 (2 ^ (min (Int.toNat (IntKind.wrap .u64 z1)) (IntKind.bits .i64))))],()))) .fail) .fail) (.done (.exit 2) A6U ((u36),(h0,()))))
abbrev A0b:=(Int)×(Int)×(List Int)
abbrev T7:=Nat×(List Int)
def A4z:T7:=(99,([]:List Int))
noncomputable def W8 (x4 x5:Int) (h0:List Int):A0b ⊕ T7:=let z1:=IntKind.wrap .i64 ((8:Int)*x5);(cond (decide (x5 ≥ (0:Int))) (cond (decide (0≤(IntKind.wrap .u64 z1))) (cond (decide ((h0.length+[IntKind.wrap .u8 (Int.fdiv x4 (2 ^ (min (Int.toNat (IntKind.wrap .u64 z1)) (IntKind.bits .i64))))].length)*1≤MAXB)) (.inl (x4,IntKind.wrap .i64 (x5 - (1:Int)),h0++[IntKind.wrap .u8 (Int.fdiv x4 (2 ^ (min (Int.toNat (IntKind.wrap .u64 z1)) (IntKind.bits .i64))))])) (.inr A4z)) (.inr A4z)) (.inr (0,h0)))
noncomputable def M3 (x4 x5:Int) (h0:List Int):T7:=itX (fun v:A0b=>W8 v.1 v.2.1 v.2.2) A4z (x4,x5,h0)
noncomputable def A4p (a:T7):CT:=(.br (a.1==0) (.done (.exit 2) A6U ((u36),(a.2,()))) .fail)
noncomputable def B31 (x4 x5:Int) (h0:List Int):CT:=A4p (M3 x4 x5 h0)
noncomputable abbrev A4Y:P0.den→RT P0.den:=(fun d=>A9m d.1.2.2.2.2.1 d.1.2.2.2.2.2.1 d.2.1)
noncomputable abbrev A8X (v:A0b):P0.den:=(((),(),(),(),v.1,v.2.1,u30),(v.2.2,()))
theorem B3A:(∀ v:A0b,(A9m v.1 v.2.1 v.2.2).val=relS A8X A4p (W8 v.1 v.2.1 v.2.2))∧∀ a:T7,CEnd P0.den (A4p a):=⟨fun v=>(relB (relB (relB rfl rfl) rfl) rfl),fun a=>(cendB aCD cendF)⟩
noncomputable def A8I (x4 x5:Int) (h0:List Int):Option (Ex×St):=let z1:=IntKind.wrap .i64 ((8:Int)*x5);(cond (decide (x5 ≥ (0:Int))) (cond (decide (0≤(IntKind.wrap .u64 z1))) (cond (decide ((h0.length+[IntKind.wrap .u8 (Int.fdiv x4 (2 ^ (min (Int.toNat (IntKind.wrap .u64 z1)) (IntKind.bits .i64))))].length)*1≤MAXB)) (some (.normal,(⟨(.junk::.junk::.junk::(.all 0 1)::(ti x4)::(ti (IntKind.wrap .i64 (x5 - (1:Int))))::C0u),[(.rows 5 true (.int .u8) (h0++[IntKind.wrap .u8 (Int.fdiv x4 (2 ^ (min (Int.toNat (IntKind.wrap .u64 z1)) (IntKind.bits .i64))))]))],0,[]⟩:St))) none) none) (some ((.exit 2),(⟨(.junk::.junk::.junk::(.all 0 1)::B7R),[(.rows 5 true (.int .u8) h0)],0,[]⟩:St))))
theorem B12:RdA G26 aLn 2 A2B P0 0 [] (kepts [] [(2,[3])]) (fun d=>A8I d.1.2.2.2.2.1 d.1.2.2.2.2.2.1 d.2.1):=by
 intro d
 kernel_rfl
theorem B2f:∀ d:P0.den,(fun d=>A8I d.1.2.2.2.2.1 d.1.2.2.2.2.2.1 d.2.1) d=(A4Y d).opt 0 []:=by
 intro d
 kernel_rfl
noncomputable abbrev A7z:St→Option Tree:=P0.say 0 [] [] (fun d=>B31 d.1.2.2.2.2.1 d.1.2.2.2.2.2.1 d.2.1)
theorem B3d:aPL A7z A2B:=SS.wp2 hlz [] A4Y B12 B2f _ (fun d=>Runs.ofI2 (step:=A4Y) A8X B3A rfl (d.1.2.2.2.2.1,d.1.2.2.2.2.2.1,d.2.1))
noncomputable def U2 (a0:List Int):=let z1:=D6 a0 ((C8 a0)++[(128:Int)]);M3 (IntKind.wrap .i64 ((8:Int)*(((z1.2.1).length:Nat):Int))) (7:Int) (z1.2.2)
noncomputable def M1 (a0:List Int):List Int:=((U2 a0).2)
noncomputable abbrev B2x (r:List Int):AV×List AObj:=((.t true B5 r),[])
noncomputable abbrev A9B:pshsDen A3R→AV×List AObj:=fun d=>B2x (M1 d.1)
noncomputable def V7 (a0:List Int):Bool:=let z1:=C8 a0;(C7 a0)&&((decide ((z1.length+[(128:Int)].length)*1≤MAXB))&&(((D6 a0 (z1++[(128:Int)])).1==0)&&((U2 a0).1==0)))
noncomputable abbrev A52:pshsDen A3R→Bool:=fun d=>V7 d.1
noncomputable abbrev B6m:Nat→St→Option Tree:=fun b=>match b with | 0=>A7y | 2=>A7z | _=>fun _=>none
theorem B4R:RunP true G26 (B6m) Try.f150 A3R A52 A9B:=by
 rintro ⟨a0,_⟩ hp
 change V7 a0=true at hp
 unfold V7 at hp
 refine Eq.trans (b:=(let z1:=C8 a0;cond (C7 a0) (cond (decide ((z1.length+[(128:Int)].length)*1≤MAXB)) (cond ((D6 a0 (z1++[(128:Int)])).1==0) (cond ((U2 a0).1==0) (some (B2x ((U2 a0).2))) none) none) none) none)) (by kernel_rfl) ?_
 exact (cndA hp fun hp=>(cndA hp fun hp=>(cndA hp fun hp=>(cndT hp fun _h=>rfl))))
theorem B6y:aPP 150 (sumOf A3R A52 A9B):=pcD true G26 (by
  rw [show loopsIn 0 (bodyOf Try.f150)=[(0,A2A),(2,A2B)] by kernel_rfl];intro p hp;simp only [List.mem_cons,List.mem_nil_iff,or_false] at hp
  rcases hp with rfl | rfl
  ·exact B3c
  ·exact B3d) B4R
noncomputable def S27:Tab:=Tab.add S26 150 (lift (sumOf A3R A52 A9B))
noncomputable def B9F:FuncId→Bool:=qadd B9E 150
theorem G27:aPG S27 B9F:=G26.addQ B6y (cbl Try.f150) (fun _=>rfl)

abbrev A3V:List PSh:=[]
noncomputable def irounds :List Int:=[(1116352408:Int),(1899447441:Int),(3049323471:Int),(3921009573:Int),(961987163:Int),(1508970993:Int),(2453635748:Int),(2870763221:Int),(3624381080:Int),(310598401:Int),(607225278:Int),(1426881987:Int),(1925078388:Int),(2162078206:Int),(2614888103:Int),(3248222580:Int),(3835390401:Int),(4022224774:Int),(264347078:Int),(604807628:Int),(770255983:Int),(1249150122:Int),(1555081692:Int),(1996064986:Int),(2554220882:Int),(2821834349:Int),(2952996808:Int),(3210313671:Int),(3336571891:Int),(3584528711:Int),(113926993:Int),(338241895:Int),(666307205:Int),(773529912:Int),(1294757372:Int),(1396182291:Int),(1695183700:Int),(1986661051:Int),(2177026350:Int),(2456956037:Int),(2730485921:Int),(2820302411:Int),(3259730800:Int),(3345764771:Int),(3516065817:Int),(3600352804:Int),(4094571909:Int),(275423344:Int),(430227734:Int),(506948616:Int),(659060556:Int),(883997877:Int),(958139571:Int),(1322822218:Int),(1537002063:Int),(1747873779:Int),(1955562222:Int),(2024104815:Int),(2227730452:Int),(2361852424:Int),(2428436474:Int),(2756734187:Int),(3204031479:Int),(3329325298:Int)]
noncomputable abbrev B6S (r:List Int):AV×List AObj:=((.ptr 0 0 1 0),[(.rows 176 true (.int .u32) r)])
noncomputable abbrev A9F:pshsDen A3V→AV×List AObj:=fun d=>B6S (irounds )
noncomputable abbrev A56:pshsDen A3V→Bool:=fun d=>true
theorem B4X:RunP true G27 aLn Try.f148 A3V A56 A9F:=by
 rintro _ hp
 kernel_rfl
theorem B6E:aPP 148 (sumOf A3V A56 A9F):=pcD true G27 hlz B4X
noncomputable def S28:Tab:=Tab.add S27 148 (lift (sumOf A3V A56 A9F))
noncomputable def B9G:FuncId→Bool:=B9F
theorem G28:aPG S28 B9G:=G27.add B6E (cbl Try.f148) (by kernel_rfl)

theorem A2l (x:Int):0≤IntKind.wrap .u64 x:=by
 simp only [IntKind.wrap]
 exact Int.emod_nonneg _ (by decide)
abbrev D9:List PSh:=[.t (.int .u32),.t (.int .i64)]
noncomputable def A3 (a0 a1:Int):Int:=(ior .u32 (IntKind.wrap .u32 (a0*2 ^ (min (Int.toNat (iand .u64 (IntKind.wrap .u64 a1) (31:Int))) (IntKind.bits .u32)))) (Int.fdiv a0 (2 ^ (min (Int.toNat (IntKind.wrap .u64 ((32:Int) - (iand .u64 (IntKind.wrap .u64 a1) (31:Int))))) (IntKind.bits .u32)))))
noncomputable abbrev X8 (r:Int):AV×List AObj:=((.t true (.int .u32) r),[])
noncomputable abbrev M7:pshsDen D9→AV×List AObj:=fun d=>X8 (A3 d.1 d.2.1)
noncomputable abbrev K7:pshsDen D9→Bool:=fun d=>true
theorem A20:RunP true G28 aLn Try.f171 D9 K7 M7:=by
 rintro ⟨(a0:Int),⟨(a1:Int),_⟩⟩ hp
 refine Eq.trans (b:=(cond (decide (0≤(iand .u64 (IntKind.wrap .u64 a1) (31:Int)))) (cond (decide (0≤(IntKind.wrap .u64 ((32:Int) - (iand .u64 (IntKind.wrap .u64 a1) (31:Int)))))) (some (X8 (ior .u32 (IntKind.wrap .u32 (a0*2 ^ (min (Int.toNat (iand .u64 (IntKind.wrap .u64 a1) (31:Int))) (IntKind.bits .u32)))) (Int.fdiv a0 (2 ^ (min (Int.toNat (IntKind.wrap .u64 ((32:Int) - (iand .u64 (IntKind.wrap .u64 a1) (31:Int))))) (IntKind.bits .u32))))))) none) none)) (by kernel_rfl) ?_
 exact (cndT (decide_eq_true (A2l _)) (fun _h=>(cndT (decide_eq_true (A2l _)) (fun _h=>rfl))))
theorem A3p:aPP 171 (sumOf D9 K7 M7):=pcD true G28 hlz A20
noncomputable def S29:Tab:=Tab.add S28 171 (lift (sumOf D9 K7 M7))
noncomputable def B9H:FuncId→Bool:=qadd B9G 171
theorem G29:aPG S29 B9H:=G28.addQ A3p (cbl Try.f171) (fun _=>rfl)

abbrev B8v:List Sh:=.junk::.junk::.junk::.junk::.junk::.junk::.junk::.junk::.junk::.junk::.junk::.junk::.junk::.junk::.junk::.junk::.junk::.junk::.junk::.junk::.junk::.junk::.junk::.junk::.junk::.junk::.junk::.junk::.junk::.junk::.junk::.junk::.junk::.junk::.junk::B8t
abbrev B7Z:List Sh:=.junk::.junk::.junk::.junk::.junk::.junk::.junk::B8v
abbrev u82:=((),(),(),(),(),(),(),(),(),(),(),(),(),(),(),(),(),(),(),(),(),(),(),(),(),(),(),(),(),(),(),(),(),(),(),u47)
abbrev u93:=((),(),(),(),(),(),(),(),(),(),(),u82)
abbrev B8q:List AV:=.junk::.junk::.junk::.junk::.junk::.junk::.junk::.junk::.junk::.junk::.junk::.junk::.junk::.junk::.junk::.junk::.junk::.junk::.junk::.junk::.junk::.junk::.junk::.junk::.junk::.junk::.junk::.junk::.junk::.junk::.junk::.junk::.junk::.junk::.junk::B8p
abbrev B7U:List AV:=.junk::.junk::.junk::.junk::.junk::.junk::.junk::B8q
abbrev C0Q:List Sh:=.junk::.junk::.junk::.junk::.junk::B8v
abbrev u87:=((),(),(),(),(),u82)
abbrev C0z:List AV:=.junk::.junk::.junk::.junk::.junk::B8q
abbrev A2q:List PSh:=[.t B5]
noncomputable def A1O:Code:=((loopsIn 0 (bodyOf Try.f170)).getD 0 (0,.skip)).2
noncomputable def A1P:Code:=((loopsIn 0 (bodyOf Try.f170)).getD 1 (0,.skip)).2
abbrev L2:SS:=⟨(.t false B5::.junk::.junk::.ptr 0 0 1 0::.junk::.junk::.junk::.junk::.junk::.junk::tI::B8v),[.rows 176 true (.int .u32)]⟩
abbrev A5p:SS:=⟨(.junk::.junk::.junk::.ptr 0 0 1 0::B7Z),[.rows 176 true (.int .u32)]⟩
noncomputable def A7L (x0:List Int) (x10:Int) (h0:List Int):RT L2.den:=let z1:=IntKind.wrap .i64 ((4:Int)*x10);let z2:=IntKind.wrap .i64 (z1+(1:Int));let z3:=IntKind.wrap .i64 (z1+(2:Int));let z4:=IntKind.wrap .i64 (z1+(3:Int));(.br (decide (x10<(16:Int))) (.br (decide (0≤z1∧z1<(x0.length:Int))) (.br (decide (0≤z2∧z2<(x0.length:Int))) (.br (decide (0≤z3∧z3<(x0.length:Int))) (.br (decide (0≤z4∧z4<(x0.length:Int))) (.br (decide (0≤x10∧x10<((64:Nat):Int)∧x10<(h0.length:Int))) (.next ((x0,(),(),(),(),(),(),(),(),(),IntKind.wrap .i64 (x10+(1:Int)),u82),(h0.set x10.toNat (ior .u32 (ior .u32 (ior .u32 (IntKind.wrap .u32 ((IntKind.wrap .u32 (x0.getD (z1.toNat) (0:Int)))*2 ^ (24))) (IntKind.wrap .u32 ((IntKind.wrap .u32 (x0.getD (z2.toNat) (0:Int)))*2 ^ (16)))) (IntKind.wrap .u32 ((IntKind.wrap .u32 (x0.getD (z3.toNat) (0:Int)))*2 ^ (8)))) (IntKind.wrap .u32 (x0.getD (z4.toNat) (0:Int)))),()))) .fail) .fail) .fail) .fail) .fail) (.done (.exit 0) A5p ((u93),(h0,()))))
abbrev Q2:=(List Int)×(Int)×(List Int)
abbrev P7:=Nat×(List Int)
def T1:P7:=(99,([]:List Int))
noncomputable def N6 (x0:List Int) (x10:Int) (h0:List Int):Q2 ⊕ P7:=let z1:=IntKind.wrap .i64 ((4:Int)*x10);let z2:=IntKind.wrap .i64 (z1+(1:Int));let z3:=IntKind.wrap .i64 (z1+(2:Int));let z4:=IntKind.wrap .i64 (z1+(3:Int));(cond (decide (x10<(16:Int))) (cond (decide (0≤z1∧z1<(x0.length:Int))) (cond (decide (0≤z2∧z2<(x0.length:Int))) (cond (decide (0≤z3∧z3<(x0.length:Int))) (cond (decide (0≤z4∧z4<(x0.length:Int))) (cond (decide (0≤x10∧x10<((64:Nat):Int)∧x10<(h0.length:Int))) (.inl (x0,IntKind.wrap .i64 (x10+(1:Int)),h0.set x10.toNat (ior .u32 (ior .u32 (ior .u32 (IntKind.wrap .u32 ((IntKind.wrap .u32 (x0.getD (z1.toNat) (0:Int)))*2 ^ (24))) (IntKind.wrap .u32 ((IntKind.wrap .u32 (x0.getD (z2.toNat) (0:Int)))*2 ^ (16)))) (IntKind.wrap .u32 ((IntKind.wrap .u32 (x0.getD (z3.toNat) (0:Int)))*2 ^ (8)))) (IntKind.wrap .u32 (x0.getD (z4.toNat) (0:Int)))))) (.inr T1)) (.inr T1)) (.inr T1)) (.inr T1)) (.inr T1)) (.inr (0,h0)))
noncomputable def M8 (x0:List Int) (x10:Int) (h0:List Int):P7:=itX (fun v:Q2=>N6 v.1 v.2.1 v.2.2) T1 (x0,x10,h0)
noncomputable def A3q (a:P7):CT:=(.br (a.1==0) (.done (.exit 0) A5p ((u93),(a.2,()))) .fail)
noncomputable def B2U (x0:List Int) (x10:Int) (h0:List Int):CT:=A3q (M8 x0 x10 h0)
noncomputable abbrev A3G:L2.den→RT L2.den:=(fun d=>A7L d.1.1 d.1.2.2.2.2.2.2.2.2.2.2.1 d.2.1)
noncomputable abbrev A7p (v:Q2):L2.den:=((v.1,(),(),(),(),(),(),(),(),(),v.2.1,u82),(v.2.2,()))
theorem B2m:(∀ v:Q2,(A7L v.1 v.2.1 v.2.2).val=relS A7p A3q (N6 v.1 v.2.1 v.2.2))∧∀ a:P7,CEnd L2.den (A3q a):=⟨fun v=>by repeat' first | apply relB | rfl,fun a=>(cendB aCD cendF)⟩
noncomputable def A7j (x0:List Int) (x10:Int) (h0:List Int):Option (Ex×St):=let z1:=IntKind.wrap .i64 ((4:Int)*x10);let z2:=IntKind.wrap .i64 (z1+(1:Int));let z3:=IntKind.wrap .i64 (z1+(2:Int));let z4:=IntKind.wrap .i64 (z1+(3:Int));(cond (decide (x10<(16:Int))) (cond (decide (0≤z1∧z1<(x0.length:Int))) (cond (decide (0≤z2∧z2<(x0.length:Int))) (cond (decide (0≤z3∧z3<(x0.length:Int))) (cond (decide (0≤z4∧z4<(x0.length:Int))) (cond (decide (0≤x10∧x10<((64:Nat):Int)∧x10<(h0.length:Int))) (some (.normal,(⟨((.t false B5 x0)::.junk::.junk::(.ptr 0 0 1 0)::.junk::.junk::.junk::.junk::.junk::.junk::(ti (IntKind.wrap .i64 (x10+(1:Int))))::B8q),[(.rows 176 true (.int .u32) (h0.set x10.toNat (ior .u32 (ior .u32 (ior .u32 (IntKind.wrap .u32 ((IntKind.wrap .u32 (x0.getD (z1.toNat) (0:Int)))*2 ^ (24))) (IntKind.wrap .u32 ((IntKind.wrap .u32 (x0.getD (z2.toNat) (0:Int)))*2 ^ (16)))) (IntKind.wrap .u32 ((IntKind.wrap .u32 (x0.getD (z3.toNat) (0:Int)))*2 ^ (8)))) (IntKind.wrap .u32 (x0.getD (z4.toNat) (0:Int))))))],0,[]⟩:St))) none) none) none) none) none) (some ((.exit 0),(⟨(.junk::.junk::.junk::(.ptr 0 0 1 0)::B7U),[(.rows 176 true (.int .u32) h0)],0,[]⟩:St))))
theorem B1p:RdA G29 aLn 0 A1O L2 0 [] (kepts [] [(0,[3])]) (fun d=>A7j d.1.1 d.1.2.2.2.2.2.2.2.2.2.2.1 d.2.1):=by
 intro d
 kernel_rfl
theorem B1w:∀ d:L2.den,(fun d=>A7j d.1.1 d.1.2.2.2.2.2.2.2.2.2.2.1 d.2.1) d=(A3G d).opt 0 []:=by
 intro d
 kernel_rfl
noncomputable abbrev A6i:St→Option Tree:=L2.say 0 [] [] (fun d=>B2U d.1.1 d.1.2.2.2.2.2.2.2.2.2.2.1 d.2.1)
theorem B1T:aPL A6i A1O:=SS.wp2 hlz [] A3G B1p B1w _ (fun d=>Runs.ofI2 (step:=A3G) A7p B2m rfl (d.1.1,d.1.2.2.2.2.2.2.2.2.2.2.1,d.2.1))
abbrev L3:SS:=⟨(.junk::.junk::.junk::.ptr 0 0 1 0::.junk::tI::C0Q),[.rows 176 true (.int .u32)]⟩
abbrev A5q:SS:=⟨(.junk::.junk::.junk::.ptr 0 0 1 0::B7Z),[.rows 176 true (.int .u32)]⟩
noncomputable def A3d (x5:Int) (h0:List Int):=A3 (h0.getD ((IntKind.wrap .i64 (x5 - (15:Int))).toNat) (0:Int)) (-7:Int)
noncomputable def A3e (x5:Int) (h0:List Int):=A3 (h0.getD ((IntKind.wrap .i64 (x5 - (15:Int))).toNat) (0:Int)) (-18:Int)
noncomputable def A3f (x5:Int) (h0:List Int):=A3 (h0.getD ((IntKind.wrap .i64 (x5 - (2:Int))).toNat) (0:Int)) (-17:Int)
noncomputable def A3g (x5:Int) (h0:List Int):=A3 (h0.getD ((IntKind.wrap .i64 (x5 - (2:Int))).toNat) (0:Int)) (-19:Int)
noncomputable def A7M (x5:Int) (h0:List Int):RT L3.den:=let z1:=IntKind.wrap .i64 (x5 - (15:Int));let z2:=IntKind.wrap .i64 (x5 - (16:Int));let z3:=IntKind.wrap .i64 (x5 - (2:Int));let z4:=IntKind.wrap .i64 (x5 - (7:Int));(.br (decide (x5<(64:Int))) (.br (decide (0≤z1∧z1<((64:Nat):Int)∧z1<(h0.length:Int))) (.br (decide (0≤z3∧z3<((64:Nat):Int)∧z3<(h0.length:Int))) (.br (decide (0≤z2∧z2<((64:Nat):Int)∧z2<(h0.length:Int))) (.br (decide (0≤z4∧z4<((64:Nat):Int)∧z4<(h0.length:Int))) (.br (decide (0≤x5∧x5<((64:Nat):Int)∧x5<(h0.length:Int))) (.next (((),(),(),(),(),IntKind.wrap .i64 (x5+(1:Int)),u87),(h0.set x5.toNat (IntKind.wrap .u32 ((IntKind.wrap .u32 ((IntKind.wrap .u32 ((h0.getD (z2.toNat) (0:Int))+(ixor .u32 (ixor .u32 (A3d x5 h0) (A3e x5 h0)) (Int.fdiv (h0.getD (z1.toNat) (0:Int)) (2 ^ (3))))))+(h0.getD (z4.toNat) (0:Int))))+(ixor .u32 (ixor .u32 (A3f x5 h0) (A3g x5 h0)) (Int.fdiv (h0.getD (z3.toNat) (0:Int)) (2 ^ (10)))))),()))) .fail) .fail) .fail) .fail) .fail) (.done (.exit 2) A5q ((u93),(h0,()))))
abbrev Q3:=(Int)×(List Int)
abbrev P8:=Nat×(List Int)
def T2:P8:=(99,([]:List Int))
noncomputable def N7 (x5:Int) (h0:List Int):Q3 ⊕ P8:=let z1:=IntKind.wrap .i64 (x5 - (15:Int));let z2:=IntKind.wrap .i64 (x5 - (16:Int));let z3:=IntKind.wrap .i64 (x5 - (2:Int));let z4:=IntKind.wrap .i64 (x5 - (7:Int));(cond (decide (x5<(64:Int))) (cond (decide (0≤z1∧z1<((64:Nat):Int)∧z1<(h0.length:Int))) (cond (decide (0≤z3∧z3<((64:Nat):Int)∧z3<(h0.length:Int))) (cond (decide (0≤z2∧z2<((64:Nat):Int)∧z2<(h0.length:Int))) (cond (decide (0≤z4∧z4<((64:Nat):Int)∧z4<(h0.length:Int))) (cond (decide (0≤x5∧x5<((64:Nat):Int)∧x5<(h0.length:Int))) (.inl (IntKind.wrap .i64 (x5+(1:Int)),h0.set x5.toNat (IntKind.wrap .u32 ((IntKind.wrap .u32 ((IntKind.wrap .u32 ((h0.getD (z2.toNat) (0:Int))+(ixor .u32 (ixor .u32 (A3d x5 h0) (A3e x5 h0)) (Int.fdiv (h0.getD (z1.toNat) (0:Int)) (2 ^ (3))))))+(h0.getD (z4.toNat) (0:Int))))+(ixor .u32 (ixor .u32 (A3f x5 h0) (A3g x5 h0)) (Int.fdiv (h0.getD (z3.toNat) (0:Int)) (2 ^ (10)))))))) (.inr T2)) (.inr T2)) (.inr T2)) (.inr T2)) (.inr T2)) (.inr (0,h0)))
noncomputable def M9 (x5:Int) (h0:List Int):P8:=itX (fun v:Q3=>N7 v.1 v.2) T2 (x5,h0)
noncomputable def A3r (a:P8):CT:=(.br (a.1==0) (.done (.exit 2) A5q ((u93),(a.2,()))) .fail)
noncomputable def B2V (x5:Int) (h0:List Int):CT:=A3r (M9 x5 h0)
noncomputable abbrev A3H:L3.den→RT L3.den:=(fun d=>A7M d.1.2.2.2.2.2.1 d.2.1)
noncomputable abbrev A7q (v:Q3):L3.den:=(((),(),(),(),(),v.1,u87),(v.2,()))
theorem B2n:(∀ v:Q3,(A7M v.1 v.2).val=relS A7q A3r (N7 v.1 v.2))∧∀ a:P8,CEnd L3.den (A3r a):=⟨fun v=>by repeat' first | apply relB | rfl,fun a=>(cendB aCD cendF)⟩
noncomputable def A7k (x5:Int) (h0:List Int):Option (Ex×St):=let z1:=IntKind.wrap .i64 (x5 - (15:Int));let z2:=IntKind.wrap .i64 (x5 - (16:Int));let z3:=IntKind.wrap .i64 (x5 - (2:Int));let z4:=IntKind.wrap .i64 (x5 - (7:Int));(cond (decide (x5<(64:Int))) (cond (decide (0≤z1∧z1<((64:Nat):Int)∧z1<(h0.length:Int))) (cond (decide (0≤z3∧z3<((64:Nat):Int)∧z3<(h0.length:Int))) (cond (decide (0≤z2∧z2<((64:Nat):Int)∧z2<(h0.length:Int))) (cond (decide (0≤z4∧z4<((64:Nat):Int)∧z4<(h0.length:Int))) (cond (decide (0≤x5∧x5<((64:Nat):Int)∧x5<(h0.length:Int))) (some (.normal,(⟨(.junk::.junk::.junk::(.ptr 0 0 1 0)::.junk::(ti (IntKind.wrap .i64 (x5+(1:Int))))::C0z),[(.rows 176 true (.int .u32) (h0.set x5.toNat (IntKind.wrap .u32 ((IntKind.wrap .u32 ((IntKind.wrap .u32 ((h0.getD (z2.toNat) (0:Int))+(ixor .u32 (ixor .u32 (A3d x5 h0) (A3e x5 h0)) (Int.fdiv (h0.getD (z1.toNat) (0:Int)) (2 ^ (3))))))+(h0.getD (z4.toNat) (0:Int))))+(ixor .u32 (ixor .u32 (A3f x5 h0) (A3g x5 h0)) (Int.fdiv (h0.getD (z3.toNat) (0:Int)) (2 ^ (10))))))))],0,[]⟩:St))) none) none) none) none) none) (some ((.exit 2),(⟨(.junk::.junk::.junk::(.ptr 0 0 1 0)::B7U),[(.rows 176 true (.int .u32) h0)],0,[]⟩:St))))
theorem B1q:RdA G29 aLn 2 A1P L3 0 [] (kepts [] [(2,[3])]) (fun d=>A7k d.1.2.2.2.2.2.1 d.2.1):=by
 intro d
 kernel_rfl
theorem B1x:∀ d:L3.den,(fun d=>A7k d.1.2.2.2.2.2.1 d.2.1) d=(A3H d).opt 0 []:=by
 intro d
 kernel_rfl
noncomputable abbrev A6j:St→Option Tree:=L3.say 0 [] [] (fun d=>B2V d.1.2.2.2.2.2.1 d.2.1)
theorem B1U:aPL A6j A1P:=SS.wp2 hlz [] A3H B1q B1x _ (fun d=>Runs.ofI2 (step:=A3H) A7q B2n rfl (d.1.2.2.2.2.2.1,d.2.1))
noncomputable def A2P (a0:List Int):List Int:=((M9 (16:Int) ((M8 a0 (0:Int) (List.replicate 64 (0:Int))).2)).2)
noncomputable abbrev B0W (r:List Int):AV×List AObj:=((.ptr 0 0 1 0),[(.rows 176 true (.int .u32) r)])
noncomputable abbrev A7V:pshsDen A2q→AV×List AObj:=fun d=>B0W (A2P d.1)
noncomputable def Z0 (a0:List Int):Bool:=let z1:=M8 a0 (0:Int) (List.replicate 64 (0:Int));(z1.1==0)&&((M9 (16:Int) (z1.2)).1==0)
noncomputable abbrev A4O:pshsDen A2q→Bool:=fun d=>Z0 d.1
noncomputable abbrev B5j:Nat→St→Option Tree:=fun b=>match b with | 0=>A6i | 2=>A6j | _=>fun _=>none
theorem B3L:RunP true G29 (B5j) Try.f170 A2q A4O A7V:=by
 rintro ⟨a0,_⟩ hp
 change Z0 a0=true at hp
 unfold Z0 at hp
 refine Eq.trans (b:=(let z1:=M8 a0 (0:Int) (List.replicate 64 (0:Int));let z2:=M9 (16:Int) (z1.2);cond (z1.1==0) (cond (z2.1==0) (some (B0W (z2.2))) none) none)) (by kernel_rfl) ?_
 exact (cndA hp fun hp=>(cndT hp fun _h=>rfl))
theorem B5v:aPP 170 (sumOf A2q A4O A7V):=pcD true G29 (by
  rw [show loopsIn 0 (bodyOf Try.f170)=[(0,A1O),(2,A1P)] by kernel_rfl];intro p hp;simp only [List.mem_cons,List.mem_nil_iff,or_false] at hp
  rcases hp with rfl | rfl
  ·exact B1T
  ·exact B1U) B3L
noncomputable def S30:Tab:=Tab.add S29 170 (lift (sumOf A2q A4O A7V))
noncomputable def B9I:FuncId→Bool:=B9H
theorem G30:aPG S30 B9I:=G29.add B5v (cbl Try.f170) (by kernel_rfl)

abbrev B8T:List Sh:=.junk::.junk::.junk::.junk::.junk::.junk::.junk::.junk::.junk::.junk::.junk::.junk::.junk::B7Z
abbrev B8U:List Sh:=.junk::.junk::.junk::.junk::.junk::.junk::.junk::.junk::.junk::.junk::.junk::.junk::.junk::.junk::.junk::B8T
abbrev B6a:=((),(),(),(),(),(),(),(),(),u93)
abbrev B69:=((),(),(),(),(),(),(),(),(),(),(),(),(),(),(),(),(),(),(),(),(),(),(),B6a)
abbrev B8P:List AV:=.junk::.junk::.junk::.junk::.junk::.junk::.junk::.junk::.junk::.junk::.junk::.junk::.junk::B7U
abbrev B8Q:List AV:=.junk::.junk::.junk::.junk::.junk::.junk::.junk::.junk::.junk::.junk::.junk::.junk::.junk::.junk::.junk::B8P
abbrev B7V:List Sh:=.junk::.junk::.junk::.junk::.junk::.junk::.junk::B8U
abbrev u15:=((),u14)
abbrev C0r:List AV:=.junk::.junk::.junk::.junk::.junk::.junk::.junk::.junk::.junk::.junk::.junk::.junk::.junk::.junk::[]
abbrev B7P:List AV:=.junk::.junk::.junk::.junk::.junk::.junk::.junk::B8Q
abbrev A1c:SS:=⟨[.ptr 0 0 1 0,.t false B5,.ptr 1 0 1 0],[.rows 158 true (.int .u32),.rows 176 true (.int .u32)]⟩
noncomputable def A0y:Code:=((loopsIn 0 (bodyOf Try.f151)).getD 0 (0,.skip)).2
noncomputable def A0z:Code:=((loopsIn 0 (bodyOf Try.f151)).getD 1 (0,.skip)).2
abbrev F3:SS:=⟨(.ptr 0 0 1 0::.junk::.ptr 1 0 1 0::.junk::.junk::.junk::.ptr 2 0 1 0::.ptr 3 0 1 0::.junk::.junk::.junk::.junk::.junk::.junk::.junk::.junk::.junk::.junk::.junk::.junk::.junk::.junk::tI::B8T),[.rows 158 true (.int .u32),.rows 176 true (.int .u32),.rows 176 true (.int .u32),.rows 158 true (.int .u32)]⟩
abbrev A3N:SS:=⟨(.ptr 0 0 1 0::.junk::.junk::.junk::.junk::.junk::.junk::.ptr 2 0 1 0::B8U),[.rows 158 true (.int .u32),.rows 176 true (.int .u32),.rows 158 true (.int .u32)]⟩
noncomputable def A5m (x22:Int) (h0 h1 h2 h3:List Int):RT F3.den:=let z1:=h3.getD ((4:Int).toNat) (0:Int);let z2:=decide (0≤(1:Int)∧(1:Int)<((8:Nat):Int)∧(1:Int)<(h3.length:Int));let z3:=decide (0≤(2:Int)∧(2:Int)<((8:Nat):Int)∧(2:Int)<(h3.length:Int));let z4:=h3.getD ((0:Int).toNat) (0:Int);let z5:=decide (0≤(5:Int)∧(5:Int)<((8:Nat):Int)∧(5:Int)<(h3.length:Int));let z6:=decide (0≤(6:Int)∧(6:Int)<((8:Nat):Int)∧(6:Int)<(h3.length:Int));let z7:=A3 z1 (-11:Int);let z8:=A3 z1 (-25:Int);let z9:=A3 z1 (-6:Int);let z10:=h3.getD ((7:Int).toNat) (0:Int);let z11:=h3.getD ((5:Int).toNat) (0:Int);let z12:=h3.getD ((6:Int).toNat) (0:Int);let z13:=h3.getD ((1:Int).toNat) (0:Int);let z14:=h3.getD ((2:Int).toNat) (0:Int);let z15:=h1.getD x22.toNat (0:Int);let z16:=h2.getD x22.toNat (0:Int);(.br (decide (x22<(64:Int))) (.br (decide (0≤(0:Int)∧(0:Int)<((8:Nat):Int)∧(0:Int)<(h3.length:Int))) (.br (decide (0≤(4:Int)∧(4:Int)<((8:Nat):Int)∧(4:Int)<(h3.length:Int))) (.br z5 (.br z6 (.br (decide (0≤(7:Int)∧(7:Int)<((8:Nat):Int)∧(7:Int)<(h3.length:Int))) (.br (decide (0≤x22∧x22<((64:Nat):Int)∧x22<(h1.length:Int))) (.br (decide (0≤x22∧x22<((64:Nat):Int)∧x22<(h2.length:Int))) (.br z2 (.br z3 (.br z2 (.br z3 (.br z2 (.br z3 (.br (decide (0≤(3:Int)∧(3:Int)<((8:Nat):Int)∧(3:Int)<(h3.length:Int))) (.br z5 (.br z6 (.br (decide (h3.length=8)) (.next (((),(),(),(),(),(),(),(),(),(),(),(),(),(),(),(),(),(),(),(),(),(),IntKind.wrap .i64 (x22+(1:Int)),B6a),(h0,h1,h2,[IntKind.wrap .u32 ((IntKind.wrap .u32 ((IntKind.wrap .u32 ((IntKind.wrap .u32 ((IntKind.wrap .u32 ((IntKind.wrap .u32 (z10+(ixor .u32 (ixor .u32 z9 z7) z8)))+(ixor .u32 (iand .u32 z1 z11) (iand .u32 (ixor .u32 (4294967295) z1) z12))))+z15))+z16))+(ixor .u32 (ixor .u32 (A3 z4 (-2:Int)) (A3 z4 (-13:Int))) (A3 z4 (-22:Int)))))+(ixor .u32 (ixor .u32 (iand .u32 z4 z13) (iand .u32 z4 z14)) (iand .u32 z13 z14))),h3.getD ((0:Int).toNat) (0:Int),h3.getD ((1:Int).toNat) (0:Int),h3.getD ((2:Int).toNat) (0:Int),IntKind.wrap .u32 ((h3.getD ((3:Int).toNat) (0:Int))+(IntKind.wrap .u32 ((IntKind.wrap .u32 ((IntKind.wrap .u32 ((IntKind.wrap .u32 (z10+(ixor .u32 (ixor .u32 z9 z7) z8)))+(ixor .u32 (iand .u32 z1 z11) (iand .u32 (ixor .u32 (4294967295) z1) z12))))+z15))+z16))),h3.getD ((4:Int).toNat) (0:Int),h3.getD ((5:Int).toNat) (0:Int),h3.getD ((6:Int).toNat) (0:Int)],()))) .fail) .fail) .fail) .fail) .fail) .fail) .fail) .fail) .fail) .fail) .fail) .fail) .fail) .fail) .fail) .fail) .fail) (.done (.exit 0) A3N ((B69),(h0,h1,h3,()))))
abbrev K3:=(Int)×(List Int)×(List Int)×(List Int)×(List Int)
abbrev K1:=Nat×(List Int)×(List Int)×(List Int)
def B1:K1:=(99,([]:List Int),([]:List Int),([]:List Int))
noncomputable def H9 (x22:Int) (h0 h1 h2 h3:List Int):K3 ⊕ K1:=let z1:=h3.getD ((4:Int).toNat) (0:Int);let z2:=decide (0≤(1:Int)∧(1:Int)<((8:Nat):Int)∧(1:Int)<(h3.length:Int));let z3:=decide (0≤(2:Int)∧(2:Int)<((8:Nat):Int)∧(2:Int)<(h3.length:Int));let z4:=h3.getD ((0:Int).toNat) (0:Int);let z5:=decide (0≤(5:Int)∧(5:Int)<((8:Nat):Int)∧(5:Int)<(h3.length:Int));let z6:=decide (0≤(6:Int)∧(6:Int)<((8:Nat):Int)∧(6:Int)<(h3.length:Int));let z7:=A3 z1 (-11:Int);let z8:=A3 z1 (-25:Int);let z9:=A3 z1 (-6:Int);let z10:=h3.getD ((7:Int).toNat) (0:Int);let z11:=h3.getD ((5:Int).toNat) (0:Int);let z12:=h3.getD ((6:Int).toNat) (0:Int);let z13:=h3.getD ((1:Int).toNat) (0:Int);let z14:=h3.getD ((2:Int).toNat) (0:Int);let z15:=h1.getD x22.toNat (0:Int);let z16:=h2.getD x22.toNat (0:Int);(cond (decide (x22<(64:Int))) (cond (decide (0≤(0:Int)∧(0:Int)<((8:Nat):Int)∧(0:Int)<(h3.length:Int))) (cond (decide (0≤(4:Int)∧(4:Int)<((8:Nat):Int)∧(4:Int)<(h3.length:Int))) (cond z5 (cond z6 (cond (decide (0≤(7:Int)∧(7:Int)<((8:Nat):Int)∧(7:Int)<(h3.length:Int))) (cond (decide (0≤x22∧x22<((64:Nat):Int)∧x22<(h1.length:Int))) (cond (decide (0≤x22∧x22<((64:Nat):Int)∧x22<(h2.length:Int))) (cond z2 (cond z3 (cond z2 (cond z3 (cond z2 (cond z3 (cond (decide (0≤(3:Int)∧(3:Int)<((8:Nat):Int)∧(3:Int)<(h3.length:Int))) (cond z5 (cond z6 (cond (decide (h3.length=8)) (.inl (IntKind.wrap .i64 (x22+(1:Int)),h0,h1,h2,[IntKind.wrap .u32 ((IntKind.wrap .u32 ((IntKind.wrap .u32 ((IntKind.wrap .u32 ((IntKind.wrap .u32 ((IntKind.wrap .u32 (z10+(ixor .u32 (ixor .u32 z9 z7) z8)))+(ixor .u32 (iand .u32 z1 z11) (iand .u32 (ixor .u32 (4294967295) z1) z12))))+z15))+z16))+(ixor .u32 (ixor .u32 (A3 z4 (-2:Int)) (A3 z4 (-13:Int))) (A3 z4 (-22:Int)))))+(ixor .u32 (ixor .u32 (iand .u32 z4 z13) (iand .u32 z4 z14)) (iand .u32 z13 z14))),h3.getD ((0:Int).toNat) (0:Int),h3.getD ((1:Int).toNat) (0:Int),h3.getD ((2:Int).toNat) (0:Int),IntKind.wrap .u32 ((h3.getD ((3:Int).toNat) (0:Int))+(IntKind.wrap .u32 ((IntKind.wrap .u32 ((IntKind.wrap .u32 ((IntKind.wrap .u32 (z10+(ixor .u32 (ixor .u32 z9 z7) z8)))+(ixor .u32 (iand .u32 z1 z11) (iand .u32 (ixor .u32 (4294967295) z1) z12))))+z15))+z16))),h3.getD ((4:Int).toNat) (0:Int),h3.getD ((5:Int).toNat) (0:Int),h3.getD ((6:Int).toNat) (0:Int)])) (.inr B1)) (.inr B1)) (.inr B1)) (.inr B1)) (.inr B1)) (.inr B1)) (.inr B1)) (.inr B1)) (.inr B1)) (.inr B1)) (.inr B1)) (.inr B1)) (.inr B1)) (.inr B1)) (.inr B1)) (.inr B1)) (.inr B1)) (.inr (0,h0,h1,h3)))
noncomputable def B6 (x22:Int) (h0 h1 h2 h3:List Int):K1:=itX (fun v:K3=>H9 v.1 v.2.1 v.2.2.1 v.2.2.2.1 v.2.2.2.2) B1 (x22,h0,h1,h2,h3)
noncomputable def A1V (a:K1):CT:=(.br (a.1==0) (.done (.exit 0) A3N ((B69),(a.2.1,a.2.2.1,a.2.2.2,()))) .fail)
noncomputable def B0Q (x22:Int) (h0 h1 h2 h3:List Int):CT:=A1V (B6 x22 h0 h1 h2 h3)
noncomputable abbrev Y1 {α:Sort _} (f:Int→(List Int)→(List Int)→(List Int)→(List Int)→α) (d:F3.den):α:=f d.1.2.2.2.2.2.2.2.2.2.2.2.2.2.2.2.2.2.2.2.2.2.2.1 d.2.1 d.2.2.1 d.2.2.2.1 d.2.2.2.2.1
noncomputable abbrev A1Z:F3.den→RT F3.den:=(Y1 A5m)
noncomputable abbrev A5i (v:K3):F3.den:=(((),(),(),(),(),(),(),(),(),(),(),(),(),(),(),(),(),(),(),(),(),(),v.1,B6a),(v.2.1,v.2.2.1,v.2.2.2.1,v.2.2.2.2,()))
theorem B0y:(∀ v:K3,(A5m v.1 v.2.1 v.2.2.1 v.2.2.2.1 v.2.2.2.2).val=relS A5i A1V (H9 v.1 v.2.1 v.2.2.1 v.2.2.2.1 v.2.2.2.2))∧∀ a:K1,CEnd F3.den (A1V a):=⟨fun v=>by repeat' first | apply relB | rfl,fun a=>(cendB aCD cendF)⟩
noncomputable def A5c (x22:Int) (h0 h1 h2 h3:List Int):Option (Ex×St):=let z1:=h3.getD ((4:Int).toNat) (0:Int);let z2:=decide (0≤(1:Int)∧(1:Int)<((8:Nat):Int)∧(1:Int)<(h3.length:Int));let z3:=decide (0≤(2:Int)∧(2:Int)<((8:Nat):Int)∧(2:Int)<(h3.length:Int));let z4:=h3.getD ((0:Int).toNat) (0:Int);let z5:=decide (0≤(5:Int)∧(5:Int)<((8:Nat):Int)∧(5:Int)<(h3.length:Int));let z6:=decide (0≤(6:Int)∧(6:Int)<((8:Nat):Int)∧(6:Int)<(h3.length:Int));let z7:=A3 z1 (-11:Int);let z8:=A3 z1 (-25:Int);let z9:=A3 z1 (-6:Int);let z10:=h3.getD ((7:Int).toNat) (0:Int);let z11:=h3.getD ((5:Int).toNat) (0:Int);let z12:=h3.getD ((6:Int).toNat) (0:Int);let z13:=h3.getD ((1:Int).toNat) (0:Int);let z14:=h3.getD ((2:Int).toNat) (0:Int);let z15:=h1.getD x22.toNat (0:Int);let z16:=h2.getD x22.toNat (0:Int);(cond (decide (x22<(64:Int))) (cond (decide (0≤(0:Int)∧(0:Int)<((8:Nat):Int)∧(0:Int)<(h3.length:Int))) (cond (decide (0≤(4:Int)∧(4:Int)<((8:Nat):Int)∧(4:Int)<(h3.length:Int))) (cond z5 (cond z6 (cond (decide (0≤(7:Int)∧(7:Int)<((8:Nat):Int)∧(7:Int)<(h3.length:Int))) (cond (decide (0≤x22∧x22<((64:Nat):Int)∧x22<(h1.length:Int))) (cond (decide (0≤x22∧x22<((64:Nat):Int)∧x22<(h2.length:Int))) (cond z2 (cond z3 (cond z2 (cond z3 (cond z2 (cond z3 (cond (decide (0≤(3:Int)∧(3:Int)<((8:Nat):Int)∧(3:Int)<(h3.length:Int))) (cond z5 (cond z6 (cond (decide (h3.length=8)) (some (.normal,(⟨((.ptr 0 0 1 0)::.junk::(.ptr 1 0 1 0)::.junk::.junk::.junk::(.ptr 2 0 1 0)::(.ptr 3 0 1 0)::.junk::.junk::.junk::.junk::.junk::.junk::.junk::.junk::.junk::.junk::.junk::.junk::.junk::.junk::(ti (IntKind.wrap .i64 (x22+(1:Int))))::B8P),[(.rows 158 true (.int .u32) h0),(.rows 176 true (.int .u32) h1),(.rows 176 true (.int .u32) h2),(.rows 158 true (.int .u32) [IntKind.wrap .u32 ((IntKind.wrap .u32 ((IntKind.wrap .u32 ((IntKind.wrap .u32 ((IntKind.wrap .u32 ((IntKind.wrap .u32 (z10+(ixor .u32 (ixor .u32 z9 z7) z8)))+(ixor .u32 (iand .u32 z1 z11) (iand .u32 (ixor .u32 (4294967295) z1) z12))))+z15))+z16))+(ixor .u32 (ixor .u32 (A3 z4 (-2:Int)) (A3 z4 (-13:Int))) (A3 z4 (-22:Int)))))+(ixor .u32 (ixor .u32 (iand .u32 z4 z13) (iand .u32 z4 z14)) (iand .u32 z13 z14))),h3.getD ((0:Int).toNat) (0:Int),h3.getD ((1:Int).toNat) (0:Int),h3.getD ((2:Int).toNat) (0:Int),IntKind.wrap .u32 ((h3.getD ((3:Int).toNat) (0:Int))+(IntKind.wrap .u32 ((IntKind.wrap .u32 ((IntKind.wrap .u32 ((IntKind.wrap .u32 (z10+(ixor .u32 (ixor .u32 z9 z7) z8)))+(ixor .u32 (iand .u32 z1 z11) (iand .u32 (ixor .u32 (4294967295) z1) z12))))+z15))+z16))),h3.getD ((4:Int).toNat) (0:Int),h3.getD ((5:Int).toNat) (0:Int),h3.getD ((6:Int).toNat) (0:Int)])],2,[]⟩:St))) none) none) none) none) none) none) none) none) none) none) none) none) none) none) none) none) none) (some ((.exit 0),(⟨((.ptr 0 0 1 0)::.junk::.junk::.junk::.junk::.junk::.junk::(.ptr 2 0 1 0)::B8Q),[(.rows 158 true (.int .u32) h0),(.rows 176 true (.int .u32) h1),(.rows 158 true (.int .u32) h3)],2,[]⟩:St))))
theorem A9V:RdA G30 aLn 0 A0y F3 2 [] (kepts [] [(0,[0,7])]) (Y1 A5c):=by
 intro d
 kernel_rfl
theorem A9X:∀ d:F3.den,(Y1 A5c) d=(A1Z d).opt 2 []:=by
 intro d
 kernel_rfl
noncomputable abbrev A4d:St→Option Tree:=F3.say 2 [] [] (Y1 B0Q)
theorem B0v:aPL A4d A0y:=SS.wp2 hlz [] A1Z A9V A9X _ (fun d=>Runs.ofI2 (step:=A1Z) A5i B0y rfl (d.1.2.2.2.2.2.2.2.2.2.2.2.2.2.2.2.2.2.2.2.2.2.2.1,d.2.1,d.2.2.1,d.2.2.2.1,d.2.2.2.2.1))
abbrev F4:SS:=⟨(.ptr 0 0 1 0::.junk::.junk::.junk::.junk::.junk::.junk::.ptr 2 0 1 0::.junk::.junk::.junk::.junk::.junk::.junk::.junk::.junk::.junk::.junk::.junk::.junk::.junk::.junk::.junk::.junk::.junk::.junk::.junk::.junk::.junk::.junk::.junk::.junk::.junk::.junk::.junk::.junk::.junk::.junk::.junk::.junk::.junk::.junk::.junk::.junk::.junk::.junk::.junk::.junk::.junk::.junk::.junk::.junk::.junk::.junk::.junk::.junk::.junk::.junk::.junk::.junk::.junk::.junk::.junk::.junk::.junk::.junk::.junk::.junk::.junk::.junk::.junk::.junk::.junk::.junk::.junk::.junk::.junk::.junk::.junk::.junk::.junk::.junk::.junk::.junk::.junk::.junk::.junk::.junk::.junk::.junk::.junk::.junk::.junk::.junk::.junk::.junk::.junk::.junk::.junk::.junk::.junk::.junk::.junk::.junk::.junk::.junk::.junk::.junk::.junk::tI::B8r),[.rows 158 true (.int .u32),.rows 176 true (.int .u32),.rows 158 true (.int .u32)]⟩
abbrev A3O:SS:=⟨(.junk::B7V),[.rows 158 true (.int .u32),.rows 176 true (.int .u32)]⟩
noncomputable def A5n (x109:Int) (h0 h1 h2:List Int):RT F4.den:=let z1:=decide (0≤x109∧x109<((8:Nat):Int)∧x109<(h0.length:Int));(.br (decide (x109<(8:Int))) (.br z1 (.br (decide (0≤x109∧x109<((8:Nat):Int)∧x109<(h2.length:Int))) (.br z1 (.next (((),(),(),(),(),(),(),(),(),(),(),(),(),(),(),(),(),(),(),(),(),(),(),(),(),(),(),(),(),(),(),(),(),(),(),(),(),(),(),(),(),(),(),(),(),(),(),(),(),(),(),(),(),(),(),(),(),(),(),(),(),(),(),(),(),(),(),(),(),(),(),(),(),(),(),(),(),(),(),(),(),(),(),(),(),(),(),(),(),(),(),(),(),(),(),(),(),(),(),(),(),(),(),(),(),(),(),(),(),IntKind.wrap .i64 (x109+(1:Int)),u15),(h0.set x109.toNat (IntKind.wrap .u32 ((h0.getD x109.toNat (0:Int))+(h2.getD x109.toNat (0:Int)))),h1,h2,()))) .fail) .fail) .fail) (.done (.exit 2) A3O ((B69),(h0,h1,()))))
abbrev K4:=(Int)×(List Int)×(List Int)×(List Int)
abbrev K2:=Nat×(List Int)×(List Int)
def Y3:K2:=(99,([]:List Int),([]:List Int))
noncomputable def I4 (x109:Int) (h0 h1 h2:List Int):K4 ⊕ K2:=let z1:=decide (0≤x109∧x109<((8:Nat):Int)∧x109<(h0.length:Int));(cond (decide (x109<(8:Int))) (cond z1 (cond (decide (0≤x109∧x109<((8:Nat):Int)∧x109<(h2.length:Int))) (cond z1 (.inl (IntKind.wrap .i64 (x109+(1:Int)),h0.set x109.toNat (IntKind.wrap .u32 ((h0.getD x109.toNat (0:Int))+(h2.getD x109.toNat (0:Int)))),h1,h2)) (.inr Y3)) (.inr Y3)) (.inr Y3)) (.inr (0,h0,h1)))
noncomputable def D5 (x109:Int) (h0 h1 h2:List Int):K2:=itX (fun v:K4=>I4 v.1 v.2.1 v.2.2.1 v.2.2.2) Y3 (x109,h0,h1,h2)
noncomputable def A1W (a:K2):CT:=(.br (a.1==0) (.done (.exit 2) A3O ((B69),(a.2.1,a.2.2,()))) .fail)
noncomputable def B0R (x109:Int) (h0 h1 h2:List Int):CT:=A1W (D5 x109 h0 h1 h2)
noncomputable abbrev Y2 {α:Sort _} (f:Int→(List Int)→(List Int)→(List Int)→α) (d:F4.den):α:=f d.1.2.2.2.2.2.2.2.2.2.2.2.2.2.2.2.2.2.2.2.2.2.2.2.2.2.2.2.2.2.2.2.2.2.2.2.2.2.2.2.2.2.2.2.2.2.2.2.2.2.2.2.2.2.2.2.2.2.2.2.2.2.2.2.2.2.2.2.2.2.2.2.2.2.2.2.2.2.2.2.2.2.2.2.2.2.2.2.2.2.2.2.2.2.2.2.2.2.2.2.2.2.2.2.2.2.2.2.2.2.1 d.2.1 d.2.2.1 d.2.2.2.1
noncomputable abbrev A10:F4.den→RT F4.den:=(Y2 A5n)
noncomputable abbrev A5j (v:K4):F4.den:=(((),(),(),(),(),(),(),(),(),(),(),(),(),(),(),(),(),(),(),(),(),(),(),(),(),(),(),(),(),(),(),(),(),(),(),(),(),(),(),(),(),(),(),(),(),(),(),(),(),(),(),(),(),(),(),(),(),(),(),(),(),(),(),(),(),(),(),(),(),(),(),(),(),(),(),(),(),(),(),(),(),(),(),(),(),(),(),(),(),(),(),(),(),(),(),(),(),(),(),(),(),(),(),(),(),(),(),(),(),v.1,u15),(v.2.1,v.2.2.1,v.2.2.2,()))
theorem B0z:(∀ v:K4,(A5n v.1 v.2.1 v.2.2.1 v.2.2.2).val=relS A5j A1W (I4 v.1 v.2.1 v.2.2.1 v.2.2.2))∧∀ a:K2,CEnd F4.den (A1W a):=⟨fun v=>(relB (relB (relB (relB rfl rfl) rfl) rfl) rfl),fun a=>(cendB aCD cendF)⟩
noncomputable def A5d (x109:Int) (h0 h1 h2:List Int):Option (Ex×St):=let z1:=decide (0≤x109∧x109<((8:Nat):Int)∧x109<(h0.length:Int));(cond (decide (x109<(8:Int))) (cond z1 (cond (decide (0≤x109∧x109<((8:Nat):Int)∧x109<(h2.length:Int))) (cond z1 (some (.normal,(⟨((.ptr 0 0 1 0)::.junk::.junk::.junk::.junk::.junk::.junk::(.ptr 2 0 1 0)::.junk::.junk::.junk::.junk::.junk::.junk::.junk::.junk::.junk::.junk::.junk::.junk::.junk::.junk::.junk::.junk::.junk::.junk::.junk::.junk::.junk::.junk::.junk::.junk::.junk::.junk::.junk::.junk::.junk::.junk::.junk::.junk::.junk::.junk::.junk::.junk::.junk::.junk::.junk::.junk::.junk::.junk::.junk::.junk::.junk::.junk::.junk::.junk::.junk::.junk::.junk::.junk::.junk::.junk::.junk::.junk::.junk::.junk::.junk::.junk::.junk::.junk::.junk::.junk::.junk::.junk::.junk::.junk::.junk::.junk::.junk::.junk::.junk::.junk::.junk::.junk::.junk::.junk::.junk::.junk::.junk::.junk::.junk::.junk::.junk::.junk::.junk::.junk::.junk::.junk::.junk::.junk::.junk::.junk::.junk::.junk::.junk::.junk::.junk::.junk::.junk::(ti (IntKind.wrap .i64 (x109+(1:Int))))::C0r),[(.rows 158 true (.int .u32) (h0.set x109.toNat (IntKind.wrap .u32 ((h0.getD x109.toNat (0:Int))+(h2.getD x109.toNat (0:Int)))))),(.rows 176 true (.int .u32) h1),(.rows 158 true (.int .u32) h2)],2,[]⟩:St))) none) none) none) (some ((.exit 2),(⟨(.junk::B7P),[(.rows 158 true (.int .u32) h0),(.rows 176 true (.int .u32) h1)],2,[]⟩:St))))
theorem A9W:RdA G30 aLn 2 A0z F4 2 [] (kepts [] [(2,[])]) (Y2 A5d):=by
 intro d
 kernel_rfl
theorem A9Y:∀ d:F4.den,(Y2 A5d) d=(A10 d).opt 2 []:=by
 intro d
 kernel_rfl
noncomputable abbrev A4e:St→Option Tree:=F4.say 2 [] [] (Y2 B0R)
theorem B0w:aPL A4e A0z:=SS.wp2 hlz [] A10 A9W A9Y _ (fun d=>Runs.ofI2 (step:=A10) A5j B0z rfl (d.1.2.2.2.2.2.2.2.2.2.2.2.2.2.2.2.2.2.2.2.2.2.2.2.2.2.2.2.2.2.2.2.2.2.2.2.2.2.2.2.2.2.2.2.2.2.2.2.2.2.2.2.2.2.2.2.2.2.2.2.2.2.2.2.2.2.2.2.2.2.2.2.2.2.2.2.2.2.2.2.2.2.2.2.2.2.2.2.2.2.2.2.2.2.2.2.2.2.2.2.2.2.2.2.2.2.2.2.2.2.1,d.2.1,d.2.2.1,d.2.2.2.1))
noncomputable def C0 (x1 h0 h1:List Int):=B6 (0:Int) h0 h1 (A2P x1) [h0.getD 0 0,h0.getD 1 0,h0.getD 2 0,h0.getD 3 0,h0.getD 4 0,h0.getD 5 0,h0.getD 6 0,h0.getD 7 0]
noncomputable def A1j (x1 h0 h1:List Int):=let z1:=C0 x1 h0 h1;D5 (0:Int) (z1.2.1) (z1.2.2.1) (z1.2.2.2)
noncomputable def D3 (x1 h0 h1:List Int):(List Int)×List Int:=let z1:=A1j x1 h0 h1;((z1.2.1),(z1.2.2))
noncomputable abbrev A8s (r:(List Int)×List Int):AV×List AObj×List Nat:=((.tup []),[(.rows 158 true (.int .u32) r.1),(.rows 176 true (.int .u32) r.2)],[])
noncomputable abbrev A8B:A1c.den→AV×List AObj×List Nat:=fun d=>A8s (D3 d.1.2.1 d.2.1 d.2.2.1)
noncomputable def V8 (x1 h0 h1:List Int):Bool:=(Z0 x1)&&((decide (h0.length=8))&&((decide ([(0:Int),(0:Int),(0:Int),(0:Int),(0:Int),(0:Int),(0:Int),(0:Int)].length=8))&&(((C0 x1 h0 h1).1==0)&&((A1j x1 h0 h1).1==0))))
noncomputable abbrev A57:A1c.den→Bool:=fun d=>V8 d.1.2.1 d.2.1 d.2.2.1
noncomputable abbrev B2S:Nat→St→Option Tree:=fun b=>match b with | 0=>A4d | 2=>A4e | _=>fun _=>none
theorem B1E:RunM G30 (B2S) Try.f151 A1c A57 A8B:=by
 rintro ⟨⟨_,x1,_,_⟩,⟨h0,h1,_⟩⟩ hp
 change V8 x1 h0 h1=true at hp
 unfold V8 at hp
 refine Eq.trans (b:=(let z1:=A1j x1 h0 h1;cond (Z0 x1) (cond (decide (h0.length=8)) (cond (decide ([(0:Int),(0:Int),(0:Int),(0:Int),(0:Int),(0:Int),(0:Int),(0:Int)].length=8)) (cond ((C0 x1 h0 h1).1==0) (cond (z1.1==0) (some (A8s ((z1.2.1),(z1.2.2)))) none) none) none) none) none)) (by kernel_rfl) ?_
 exact (cndA hp fun hp=>(cndA hp fun hp=>(cndA hp fun hp=>(cndA hp fun hp=>(cndT hp fun _h=>rfl)))))
noncomputable abbrev A8E:=win winIds (msum A1c A57 A8B)
theorem B22:aPM 151 A8E:=(mcM G30 (by
  rw [show loopsIn 0 (bodyOf Try.f151)=[(0,A0y),(2,A0z)] by kernel_rfl];intro p hp;simp only [List.mem_cons,List.mem_nil_iff,or_false] at hp
  rcases hp with rfl | rfl
  ·exact B0v
  ·exact B0w) B1E).win winIds
noncomputable def S31:Tab:=Tab.add S30 151 (A8E)
noncomputable def B2T:FuncId→Bool:=B9I
theorem G31:aPG S31 B2T:=G30.addM B22 (win_local _) (cbl Try.f151) (by kernel_rfl)


end Go.Proofs.Ytccelbeahdcooaa.Eng
