/- What the functions that FnRecsRead reaches compute, and that it answers true. -/
import Derived.Test.YtccelbeahdcooaaT
import Derived.Test.YtccelbeahdcooaaRows
import Derived.Test.YtccelbeahdcooaaE50
import Derived.RangeFuncBox
import Derived.Shelf.Abstract
import Derived.WalkKit
import Derived.OwnWalkIn
import Derived.TacticsInMore
import Derived.LoopNIn
import Derived.LoopIn
import Derived.RegionIn
namespace Go.Proofs.Ytccelbeahdcooaa.Eng
open Go Go.RowKit
set_option linter.unusedSimpArgs false
set_option linter.unusedVariables false
set_option maxRecDepth 10000
abbrev bE:ByteArray:=⟨#[]⟩
abbrev Lq1:=List (Int×ByteArray×ByteArray)
abbrev tq2:Ty:=.sl (.pair (.int .i64) (.pair .str .str))
abbrev ti:=@AV.t true (.int .i64)
abbrev tI:Sh:=.t true (.int .i64)
abbrev aPG:=Good Try.prog tt
abbrev aPM:=MContract Try.prog
abbrev aPP:=PContract Try.prog
abbrev aPL:=LoopWp Try.prog
abbrev aLn:Nat→St→Option Tree:=fun _ _=>none
theorem aCD{D:Type}{e:Ex}{s:SS}{x:s.den}(h:e ≠ .normal:=by simp):CEnd D (.done e s x):=cendD h
noncomputable def S0:Tab:=fun _=>none
noncomputable def QF0:FuncId→Bool:=fun _=>false
theorem G0:aPG S0 QF0:=Good.start tt_ok (by kernel_rfl)
theorem Runs.ofI2 {D V A:Type} {step:D→RT D} (pk:V→D) {ss:V→V ⊕ A} {ct:A→CT} {fa:A} (h:(∀ v,(step (pk v)).val=relS pk ct (ss v))∧∀ a,CEnd D (ct a)) (hf:(ct fa).val (D:=D)=.fail) (v:V):(ct (itX ss fa v)).val (D:=D)=.fail∨Runs step (pk v) (ct (itX ss fa v)).val:=Runs.ofIt pk hf h.1 h.2 v
theorem M2 {α β:Type} (e:α→β) {c q r:Bool} {X Y:Option β} {a b:α} (hq:cond c q r=true) (hx:q=true→X=some (e a)) (hy:r=true→Y=some (e b)):cond c X Y=some (e (cond c a b)):=cndQ (F:=fun r=>some (e r)) hq hx hy
theorem L4 {α β:Type} (e:α→β) {c:Bool} {X Y:Option β} {a b:α} (hx:c=true→X=some (e a)) (hy:c=false→Y=some (e b)):cond c X Y=some (e (cond c a b)):=cnd (F:=fun r=>some (e r)) hx hy
theorem hlz {L:Nat→St→Option Tree} {b:Nat} {x:Code} (h:loopsIn b x=[]:=by kernel_rfl):∀ p∈loopsIn b x,aPL (L p.1) p.2:=hl0 h
theorem cbl {f : FuncId} (F : Func) (h1 : Try.prog.funcs[f]? = some F := by kernel_rfl) (h2 : (F.name == "runtime.NumGoroutine") = false := by kernel_rfl) (h3 : F.body.isNone = false := by kernel_rfl) : Callable Try.prog f := ⟨F, h1, h2, h3⟩
theorem pcD (ro:Bool) {TB:TT} {S:Tab} {Q:FuncId→Bool} (G:Good Try.prog TB S Q) {f:FuncId} {fn:Func} {L:Nat→St→Option Tree} (hL:∀ p∈loopsIn 0 (bodyOf fn),aPL (L p.1) p.2) {l:List PSh} {pre:pshsDen l→Bool} {g:pshsDen l→AV×List AObj} (h:RunP ro G L fn l pre g) (hf:Try.prog.funcs[f]? = some fn:=by kernel_rfl):aPP f (sumOf l pre g):=PContract.of_data ro G hf hL l pre g h
theorem mcM {TB:TT} {S:Tab} {Q:FuncId→Bool} (G:Good Try.prog TB S Q) {f:FuncId} {fn:Func} {L:Nat→St→Option Tree} (hL:∀ p∈loopsIn 0 (bodyOf fn),aPL (L p.1) p.2) {s:SS} {pre:s.den→Bool} {g:s.den→AV×List AObj×List Nat} (h:RunM G L fn s pre g) (hf:Try.prog.funcs[f]? = some fn:=by kernel_rfl):aPM f (msum s pre g):=MContract.of_data G hf hL s pre g h
theorem C1Q (dl:List AV) {TB:TT} {S:Tab} {Q:FuncId→Bool} (G:Good Try.prog TB S Q) {f:FuncId} {fn:Func} {L:Nat→St→Option Tree} (hL:∀ p∈loopsIn 0 (bodyOf fn),aPL (L p.1) p.2) {s:SS} {pre:s.den→Bool} {g:s.den→AV×List AObj×List Nat} (h:RunMRD dl G L fn s pre g) (hf:Try.prog.funcs[f]? = some fn:=by kernel_rfl):aPM f (msum s pre g):=MContract.of_dataRD dl G hf hL s pre g h
theorem A9W:∀ a:List UInt8,Op.bytesLess a a=false:=by
 intro a
 induction a with
 | nil=>rfl
 | cons x a ih=>simp only [Op.bytesLess,ih,Bool.and_false,Bool.or_false,decide_eq_false_iff_not];exact UInt8.lt_irrefl x
theorem A8L:∀ a b:List UInt8,(!(Op.bytesLess a b))=(Op.bytesLess b a||b==a):=by
 intro a
 induction a with
 | nil=>intro b;cases b<;>simp [Op.bytesLess]
 | cons x a ih =>
  intro b
  cases b with
  | nil=>simp [Op.bytesLess]
  | cons y b =>
   simp only [Op.bytesLess]
   by_cases h1:x<y
   ·have h2:¬ y<x:=fun h=>UInt8.lt_irrefl _ (UInt8.lt_trans h1 h)
    have h3:(y==x)=false:=by rw [beq_eq_false_iff_ne];intro h;subst h;exact h2 h1
    have h4:(y::b==x::a)=false:=by rw [List.cons_beq_cons,h3,Bool.false_and]
    simp [h1,h2,h3,h4]
   ·by_cases h5:x=y
    ·subst h5
     have h6:(x::b==x::a)=(b==a):=by rw [List.cons_beq_cons];simp
     have:=ih b
     simp only [h1,decide_false,Bool.false_or,beq_self_eq_true,Bool.true_and,h6,this]
    ·have h7 : y < x := by
      rcases Nat.lt_trichotomy x.toNat y.toNat with h | h | h
      ·exact absurd (UInt8.lt_iff_toNat_lt.2 h) h1
      ·exact absurd (UInt8.toNat_inj.1 h) h5
      ·exact UInt8.lt_iff_toNat_lt.2 h
     have h8:(x==y)=false:=by rw [beq_eq_false_iff_ne];exact h5
     simp [h1,h7,h8]
theorem B1m {p q:Nat→Bool}:∀ k i,(∀ j,i≤j→j<i+k→p j=q j)→allF p k i=allF q k i:=by
 intro k
 induction k with
 | zero=>intro i h;rfl
 | succ k ih=>intro i h;simp only [allF];rw [h i (Nat.le_refl _) (by omega),ih (i+1) (fun j h1 h2=>h j (by omega) (by omega))]
noncomputable def dOp:Int×ByteArray×ByteArray:=((0:Int),(bE,bE))
noncomputable def B7A (o:Int×ByteArray×ByteArray):Bool:=okS o.2.1&&okS o.2.2
noncomputable def D6 (l:Lq1):Bool:=okL l&&l.all B7A
theorem A3g {l:Lq1} (h:D6 l=true) (i:Nat) (hi:i<l.length):okS (l.getD i dOp).2.1=true∧okS (l.getD i dOp).2.2=true:=by
 simp only [D6,Bool.and_eq_true,List.all_eq_true] at h
 have:=h.2 (l.getD i dOp) (by simp [List.getD_eq_getElem?_getD,hi])
 simpa [B7A] using this
theorem Q0 {l:Lq1} (h:D6 l=true):l.length≤1048576:=by
 simp only [D6,Bool.and_eq_true] at h
 exact okL_le h.1
theorem B9s (a b:ByteArray):(a.toList==b.toList)=decide (a=b):=by
 rw [ByteArray.toList_eq,ByteArray.toList_eq]
 by_cases h:a=b
 ·subst h;simp
 ·rw [decide_eq_false h,beq_eq_false_iff_ne]
  intro e
  exact h (by cases a;cases b;simp at e;rw [e])
noncomputable def hiF (g:Int→Int):Nat→Int→List Int×Int
 | 0,x=>([],x)
 | k+1,x=>cond (decide (x > 127)) (g x::(hiF g k (Int.fdiv x (2 ^ 7))).1,(hiF g k (Int.fdiv x (2 ^ 7))).2) ([],x)
theorem A65 (x:Int):Int.fdiv x (2 ^ 7)=x / 128:=by
 rw [show (2:Int) ^ 7=128 from rfl,Int.fdiv_eq_ediv_of_nonneg _ (by decide)]
theorem B8O (g:Int→Int) (k:Nat):∀ x:Int,(hiF g k x).1.length≤k:=by
 induction k with
 | zero=>intro x;simp [hiF]
 | succ k ih =>
  intro x
  simp only [hiF]
  cases decide (x > 127) with
  | true=>simp;exact ih _
  | false=>simp
noncomputable def A2q (x:Int):Int:=IntKind.wrap .u8 (ior .i64 (iand .i64 x (127:Int)) (128:Int))
noncomputable def W8 (x:Int):Int:=IntKind.wrap .u8 (ior .i64 (128:Int) (iand .i64 x (127:Int)))
theorem B7w:W8=A2q:=by
 funext x
 simp only [A2q,W8, ior]
 rw [BitVec.or_comm]
theorem B9p:∃ f:Int→List Int×Int,∀ x,f x=hiF A2q 4 x:=⟨_,fun _=>rfl⟩
noncomputable def nX:Int→List Int×Int:=Classical.choose B9p
theorem B6O (x:Int):nX x=hiF A2q 4 x:=Classical.choose_spec B9p x
theorem B8r (x:Int):nX x=hiF W8 4 x:=by rw [B7w];exact B6O x
theorem I8 (x:Int):(nX x).1.length≤4:=by rw [B6O];exact B8O A2q 4 x
noncomputable def A7 (x:Int):List Int:=(nX x).1++[IntKind.wrap .u8 (nX x).2]
theorem L8 (x:Int):(A7 x).length≤5:=by
 have:=I8 x
 simp [A7];omega
noncomputable def V3 (n:Int):Int:=if n > 1000000000 then 1000000000 else if n<0 then 0 else n
noncomputable def H9 (s:ByteArray):List Int:=A7 (s.size:Int)++strInts s
noncomputable def opB (o:Int×ByteArray×ByteArray):List Int:=A7 (V3 o.1)++(H9 o.2.1++H9 o.2.2)
theorem K5 {n:Int} (h0:0≤n) (h1:n≤1000000000):V3 n=n:=by simp only [V3];split<;>(try split)<;>omega
theorem A3H (s:ByteArray):(strInts s).length=s.size:=by rw [strInts,List.length_map,Array.length_toList];rfl
theorem A7b (s:ByteArray):(H9 s).length≤5+s.size:=by
 have:=L8 (s.size:Int)
 simp [H9,A3H];omega

noncomputable def A17 (x:Int):Int:=if (if (1000000000:Int)<x then (1000000000:Int) else x) > (0:Int) then (if (1000000000:Int)<x then (1000000000:Int) else x) else (0:Int)
theorem A9X (x:Int):A17 x=V3 x:=by
 simp only [A17,V3]
 split<;>split<;>(try split)<;>omega
theorem B3x (x:Int):0≤V3 x∧V3 x≤1000000000:=by
 simp only [V3]
 split<;>(try split)<;>omega
theorem A2p (x:Int):0≤A17 x∧A17 x≤1000000000:=by rw [A9X];exact B3x x

theorem B26 {α:Type} (f:α→List Int) (d:α) (l:List α) (g:Nat→List Int→List Int) (hg:∀ i h,i<l.length→g i h=h++f (l.getD i d)):∀ k i h,i+k=l.length→foldN g k i h=h++((l.drop i).map f).flatten:=by
 intro k
 induction k with
 | zero =>
  intro i h hi
  have:l.drop i=[]:=List.drop_eq_nil_of_le (by omega)
  simp [foldN,this]
 | succ k ih =>
  intro i h hi
  have hlt:i<l.length:=by omega
  simp only [foldN]
  rw [ih (i+1) (g i h) (by omega),hg i h hlt,List.append_assoc,show l.drop i=l[i]::l.drop (i+1) from List.drop_eq_getElem_cons hlt,List.map_cons,List.flatten_cons,show l.getD i d=l[i] from by simp [List.getD_eq_getElem?_getD,hlt]]
theorem B84 (o:Int×ByteArray×ByteArray):(opB o).length≤15+o.2.1.size+o.2.2.size:=by
 have h1:=L8 (V3 o.1)
 have h2:=A7b o.2.1
 have h3:=A7b o.2.2
 simp only [opB,List.length_append];omega
theorem B8e {M:Nat}:∀ l:Lq1,(∀ o∈l,(opB o).length≤M)→(l.map opB).flatten.length≤M*l.length:=by
 intro l
 induction l with
 | nil=>intro _;simp
 | cons o l ih =>
  intro h
  have h1:=h o (by simp)
  have h2:=ih fun x hx=>h x (by simp [hx])
  simp only [List.map_cons,List.flatten_cons,List.length_append,List.length_cons]
  rw [Nat.mul_add];omega
abbrev B4:Ty:=.sl (.int .u8)
abbrev B1h:List PSh:=[.t B4]
noncomputable def lbig (a0:List Int):Bool:=(decide ((a0.length:Int) > (1048576:Int)))
noncomputable abbrev B9v (r:Bool):AV×List AObj:=((.t true .bool r),[])
noncomputable abbrev B58:pshsDen B1h→AV×List AObj:=fun d=>B9v (lbig d.1)
noncomputable abbrev B1K:pshsDen B1h→Bool:=fun d=>true
theorem B8x:RunP true G0 aLn Try.f24 B1h B1K B58:=by
 rintro ⟨a0,_⟩ hp
 kernel_rfl
theorem B9t:aPP 24 (sumOf B1h B1K B58):=pcD true G0 hlz B8x
noncomputable def S1:Tab:=Tab.add S0 24 (lift (sumOf B1h B1K B58))
noncomputable def QF1:FuncId→Bool:=qadd QF0 24
theorem G1:aPG S1 QF1:=G0.addQ B9t (cbl Try.f24) (fun _=>rfl)

abbrev C07:List Sh:=.junk::.junk::.junk::.junk::.junk::.junk::.junk::.junk::.junk::.junk::.junk::.junk::.junk::.junk::.junk::.junk::.junk::.junk::.junk::.junk::.junk::.junk::.junk::.junk::.junk::.junk::.junk::[]
abbrev B4Z:List Sh:=.junk::C07
abbrev u28:=((),(),(),(),(),(),(),(),(),(),(),(),(),(),(),(),(),(),(),(),(),(),(),(),(),(),(),())
abbrev u29:=((),u28)
abbrev C0T:List AV:=.junk::.junk::.junk::.junk::.junk::.junk::.junk::.junk::.junk::.junk::.junk::.junk::.junk::.junk::.junk::.junk::.junk::.junk::.junk::.junk::.junk::.junk::.junk::.junk::.junk::.junk::.junk::[]
abbrev B6h:List AV:=.junk::C0T
abbrev A6T:SS:=⟨[.t false B4],[]⟩
abbrev V9:SS:=⟨(.t false B4::.junk::.junk::tI::tI::C07),[]⟩
abbrev A4H:SS:=⟨(.t false B4::.junk::.junk::tI::B4Z),[]⟩
noncomputable def B0R (x0:List Int) (x3 x4:Int):RT V9.den:=(.br (decide (x4<(x0.length:Int))) (.br (decide (x4<(4000:Int))) (.br (decide (0≤x4∧x4<(x0.length:Int))) (.next ((x0,(),(),iand .i64 (IntKind.wrap .i64 ((IntKind.wrap .i64 ((IntKind.wrap .i64 (x3*(137:Int)))+(IntKind.wrap .i64 (x0.getD x4.toNat (0:Int)))))+(11:Int))) (1073741823:Int),IntKind.wrap .i64 (x4+(1:Int)),u28),())) .fail) (.done (.exit 0) A4H ((x0,(),(),x3,u29),()))) (.done (.exit 0) A4H ((x0,(),(),x3,u29),())))
abbrev A2U:=(List Int)×(Int)×(Int)
abbrev A1a:=Nat×(List Int)×(Int)
def B0x:A1a:=(99,([]:List Int),((0:Int):Int))
noncomputable def A10 (x0:List Int) (x3 x4:Int):A2U ⊕ A1a:=(cond (decide (x4<(x0.length:Int))) (cond (decide (x4<(4000:Int))) (cond (decide (0≤x4∧x4<(x0.length:Int))) (.inl (x0,iand .i64 (IntKind.wrap .i64 ((IntKind.wrap .i64 ((IntKind.wrap .i64 (x3*(137:Int)))+(IntKind.wrap .i64 (x0.getD x4.toNat (0:Int)))))+(11:Int))) (1073741823:Int),IntKind.wrap .i64 (x4+(1:Int)))) (.inr B0x)) (.inr (0,x0,x3))) (.inr (0,x0,x3)))
noncomputable def A0z (x0:List Int) (x3 x4:Int):A1a:=itX (fun v:A2U=>A10 v.1 v.2.1 v.2.2) B0x (x0,x3,x4)
noncomputable def A6a (a:A1a):CT:=(.br (a.1==0) (.done (.exit 0) A4H ((a.2.1,(),(),a.2.2,u29),())) .fail)
noncomputable def B5T (x0:List Int) (x3 x4:Int):CT:=A6a (A0z x0 x3 x4)
noncomputable abbrev A6M:V9.den→RT V9.den:=(fun d=>B0R d.1.1 d.1.2.2.2.1 d.1.2.2.2.2.1)
noncomputable def A7r:Code:=((loopsIn 0 (bodyOf Try.f70)).getD 0 (0,.skip)).2
noncomputable abbrev B0O (v:A2U):V9.den:=((v.1,(),(),v.2.1,v.2.2,u28),())
theorem B5f:(∀ v:A2U,(B0R v.1 v.2.1 v.2.2).val=relS B0O A6a (A10 v.1 v.2.1 v.2.2))∧∀ a:A1a,CEnd V9.den (A6a a):=⟨fun v=>(relB (relB (relB rfl rfl) rfl) rfl),fun a=>(cendB aCD cendF)⟩
noncomputable def B0E (x0:List Int) (x3 x4:Int):Option (Ex×St):=let z1:=(⟨((.t false B4 x0)::.junk::.junk::(ti x3)::B6h),[],0,[]⟩:St);(cond (decide (x4<(x0.length:Int))) (cond (decide (x4<(4000:Int))) (cond (decide (0≤x4∧x4<(x0.length:Int))) (some (.normal,(⟨((.t false B4 x0)::.junk::.junk::(ti (iand .i64 (IntKind.wrap .i64 ((IntKind.wrap .i64 ((IntKind.wrap .i64 (x3*(137:Int)))+(IntKind.wrap .i64 (x0.getD x4.toNat (0:Int)))))+(11:Int))) (1073741823:Int)))::(ti (IntKind.wrap .i64 (x4+(1:Int))))::C0T),[],0,[]⟩:St))) none) (some ((.exit 0),z1))) (some ((.exit 0),z1)))
theorem B3W:RdA G1 aLn 0 A7r V9 0 [] (kepts [] [(0,[0,3])]) (fun d=>B0E d.1.1 d.1.2.2.2.1 d.1.2.2.2.2.1):=by
 intro d
 kernel_rfl
theorem B30:∀ d:V9.den,(fun d=>B0E d.1.1 d.1.2.2.2.1 d.1.2.2.2.2.1) d=(A6M d).opt 0 []:=by
 intro d
 kernel_rfl
noncomputable abbrev A9I:St→Option Tree:=V9.say 0 [] [] (fun d=>B5T d.1.1 d.1.2.2.2.1 d.1.2.2.2.2.1)
theorem B43:aPL A9I A7r:=SS.wp2 hlz [] A6M B3W B30 _ (fun d=>Runs.ofI2 (step:=A6M) B0O B5f rfl (d.1.1,d.1.2.2.2.1,d.1.2.2.2.2.1))
noncomputable def A1o (x0:List Int):(List Int)×Int×Int:=let z1:=A0z x0 (IntKind.wrap .i64 ((381381:Int)+(x0.length:Int))) (0:Int);((z1.2.1),(0:Int),(z1.2.2))
noncomputable abbrev B4K (r:(List Int)×Int×Int):AV×List AObj×List Nat:=((.ptr 0 0 1 0),[(.box [(.t false B4 r.1),(ti r.2.1),(ti r.2.2)])],[])
noncomputable abbrev B4Q:A6T.den→AV×List AObj×List Nat:=fun d=>B4K (A1o d.1.1)
noncomputable def A3j (x0:List Int):Bool:=((A0z x0 (IntKind.wrap .i64 ((381381:Int)+(x0.length:Int))) (0:Int)).1==0)
noncomputable abbrev B1M:A6T.den→Bool:=fun d=>A3j d.1.1
noncomputable abbrev B7R:Nat→St→Option Tree:=fun b=>match b with | 0=>A9I | _=>fun _=>none
theorem B6x:RunM G1 (B7R) Try.f70 A6T B1M B4Q:=by
 rintro ⟨⟨x0,_⟩,_⟩ hp
 change A3j x0=true at hp
 unfold A3j at hp
 refine Eq.trans (b:=(let z1:=A0z x0 (IntKind.wrap .i64 ((381381:Int)+(x0.length:Int))) (0:Int);cond (z1.1==0) (some (B4K ((z1.2.1),(0:Int),(z1.2.2)))) none)) (by kernel_rfl) ?_
 exact (cndT hp fun _h=>rfl)
noncomputable abbrev B46:=win winIds (msum A6T B1M B4Q)
theorem B72:aPM 70 B46:=(mcM G1 (hl1 (i:=0) (by kernel_rfl) B43) B6x).win winIds
noncomputable def S2:Tab:=Tab.add S1 70 (B46)
noncomputable def QF2:FuncId→Bool:=QF1
theorem G2:aPG S2 QF2:=G1.addM B72 (win_local _) (cbl Try.f70) (by kernel_rfl)

abbrev A4K:SS:=⟨[.ptr 0 0 1 0],[.box [.t false B4,tI,tI]]⟩
noncomputable def F1 (p0:List Int) (p1 p2:Int):Int×(List Int)×Int×Int:=let z1:=(IntKind.wrap .i64 (p2*(6364136223846793005:Int)))+(1442695040888963407:Int);let z3:=IntKind.wrap .i64 z1;let z2:=ixor .i64 (Int.fdiv z3 (2 ^ (33))) (Int.fdiv z3 (2 ^ (47)));(cond (decide (p1<(p0.length:Int))) (iand .i64 (IntKind.wrap .i64 ((iand .i64 z2 (255:Int))+(IntKind.wrap .i64 (p0.getD p1.toNat (0:Int))))) (255:Int),p0,IntKind.wrap .i64 (p1+(1:Int)),IntKind.wrap .i64 z1) (iand .i64 z2 (255:Int),p0,p1,IntKind.wrap .i64 z1))
noncomputable abbrev A64 (r:Int×(List Int)×Int×Int):AV×List AObj×List Nat:=((ti r.1),[(.box [(.t false B4 r.2.1),(ti r.2.2.1),(ti r.2.2.2)])],[])
noncomputable abbrev B3a:A4K.den→AV×List AObj×List Nat:=fun d=>A64 (F1 d.2.1.1 d.2.1.2.1 d.2.1.2.2.1)
noncomputable def M7 (p0:List Int) (p1 p2:Int):Bool:=cond (decide (p1<(p0.length:Int))) (decide (0≤p1∧p1<(p0.length:Int))) true
noncomputable abbrev B0M:A4K.den→Bool:=fun d=>M7 d.2.1.1 d.2.1.2.1 d.2.1.2.2.1
theorem B5y:RunM G2 aLn Try.f121 A4K B0M B3a:=by
 rintro ⟨⟨_,_⟩,⟨⟨p0,p1,p2,_⟩,_⟩⟩ hp
 change M7 p0 p1 p2=true at hp
 unfold M7 at hp
 refine Eq.trans (b:=(let z1:=(IntKind.wrap .i64 (p2*(6364136223846793005:Int)))+(1442695040888963407:Int);let z3:=IntKind.wrap .i64 z1;let z2:=ixor .i64 (Int.fdiv z3 (2 ^ (33))) (Int.fdiv z3 (2 ^ (47)));cond (decide (p1<(p0.length:Int))) (cond (decide (0≤p1∧p1<(p0.length:Int))) (some (A64 (iand .i64 (IntKind.wrap .i64 ((iand .i64 z2 (255:Int))+(IntKind.wrap .i64 (p0.getD p1.toNat (0:Int))))) (255:Int),p0,IntKind.wrap .i64 (p1+(1:Int)),IntKind.wrap .i64 z1))) none) (some (A64 (iand .i64 z2 (255:Int),p0,p1,IntKind.wrap .i64 z1))))) (by kernel_rfl) ?_
 exact (M2 A64 hp (fun hp=>(cndT hp fun _h=>rfl)) (fun hp=>rfl))
noncomputable abbrev B3e:=win winIds (msum A4K B0M B3a)
theorem B7m:aPM 121 B3e:=(mcM G2 hlz B5y).win winIds
noncomputable def S3:Tab:=Tab.add S2 121 (B3e)
noncomputable def QF3:FuncId→Bool:=QF2
theorem G3:aPG S3 QF3:=G2.addM B7m (win_local _) (cbl Try.f121) (by kernel_rfl)

abbrev A3s:SS:=⟨[.ptr 0 0 1 0,tI],[.box [.t false B4,tI,tI]]⟩
noncomputable def A1U (p0:List Int) (p1 p2:Int):=let z1:=F1 p0 p1 p2;F1 (z1.2.1) (z1.2.2.1) (z1.2.2.2)
noncomputable def A6g (p0:List Int) (p1 p2:Int):=let z1:=A1U p0 p1 p2;F1 (z1.2.1) (z1.2.2.1) (z1.2.2.2)
noncomputable def C8 (x1:Int) (p0:List Int) (p1 p2:Int):Int×(List Int)×Int×Int:=let z1:=F1 p0 p1 p2;let z2:=A6g p0 p1 p2;(cond (decide (x1≤(0:Int))) ((0:Int),p0,p1,p2) (cond (decide (x1≤(256:Int))) (Int.tmod (z1.1) x1,(z1.2.1),(z1.2.2.1),(z1.2.2.2)) (Int.tmod (IntKind.wrap .i64 ((IntKind.wrap .i64 ((IntKind.wrap .i64 ((z1.1)*(65536:Int)))+(IntKind.wrap .i64 (((A1U p0 p1 p2).1)*(256:Int)))))+(z2.1))) x1,(z2.2.1),(z2.2.2.1),(z2.2.2.2))))
noncomputable abbrev A1e (r:Int×(List Int)×Int×Int):AV×List AObj×List Nat:=((ti r.1),[(.box [(.t false B4 r.2.1),(ti r.2.2.1),(ti r.2.2.2)])],[])
noncomputable abbrev B1C:A3s.den→AV×List AObj×List Nat:=fun d=>A1e (C8 d.1.2.1 d.2.1.1 d.2.1.2.1 d.2.1.2.2.1)
noncomputable def C2 (x1:Int) (p0:List Int) (p1 p2:Int):Bool:=let z1:=A1U p0 p1 p2;let z2:=F1 p0 p1 p2;let z3:=M7 p0 p1 p2;cond (decide (x1≤(0:Int))) true (cond (decide (x1≤(256:Int))) (z3&&(decide (x1 ≠ 0))) (z3&&((M7 (z2.2.1) (z2.2.2.1) (z2.2.2.2))&&((M7 (z1.2.1) (z1.2.2.1) (z1.2.2.2))&&(decide (x1 ≠ 0))))))
noncomputable abbrev A9j:A3s.den→Bool:=fun d=>C2 d.1.2.1 d.2.1.1 d.2.1.2.1 d.2.1.2.2.1
theorem B4i:RunM G3 aLn Try.f81 A3s A9j B1C:=by
 rintro ⟨⟨_,x1,_⟩,⟨⟨p0,p1,p2,_⟩,_⟩⟩ hp
 change C2 x1 p0 p1 p2=true at hp
 unfold C2 at hp
 refine Eq.trans (b:=(let z1:=F1 p0 p1 p2;let z2:=A1U p0 p1 p2;let z3:=A6g p0 p1 p2;let z4:=M7 p0 p1 p2;cond (decide (x1≤(0:Int))) (some (A1e ((0:Int),p0,p1,p2))) (cond (decide (x1≤(256:Int))) (cond z4 (cond (decide (x1 ≠ 0)) (some (A1e (Int.tmod (z1.1) x1,(z1.2.1),(z1.2.2.1),(z1.2.2.2)))) none) none) (cond z4 (cond (M7 (z1.2.1) (z1.2.2.1) (z1.2.2.2)) (cond (M7 (z2.2.1) (z2.2.2.1) (z2.2.2.2)) (cond (decide (x1 ≠ 0)) (some (A1e (Int.tmod (IntKind.wrap .i64 ((IntKind.wrap .i64 ((IntKind.wrap .i64 ((z1.1)*(65536:Int)))+(IntKind.wrap .i64 ((z2.1)*(256:Int)))))+(z3.1))) x1,(z3.2.1),(z3.2.2.1),(z3.2.2.2)))) none) none) none) none)))) (by kernel_rfl) ?_
 exact (M2 A1e hp (fun hp=>rfl) (fun hp=>(M2 A1e hp (fun hp=>(cndA hp fun hp=>(cndT hp fun _h=>rfl))) (fun hp=>(cndA hp fun hp=>(cndA hp fun hp=>(cndA hp fun hp=>(cndT hp fun _h=>rfl))))))))
noncomputable abbrev B1J:=win winIds (msum A3s A9j B1C)
theorem B51:aPM 81 B1J:=(mcM G3 hlz B4i).win winIds
noncomputable def S4:Tab:=Tab.add S3 81 (B1J)
noncomputable def QF4:FuncId→Bool:=QF3
theorem G4:aPG S4 QF4:=G3.addM B51 (win_local _) (cbl Try.f81) (by kernel_rfl)

abbrev A6S:SS:=⟨[.ptr 0 0 1 0,.all 1 1],[.box [.t false B4,tI,tI],.rows 3 true (.int .i64)]⟩
noncomputable def H7 (p0:List Int) (p1 p2:Int) (h1:List Int):Int×(List Int)×Int×Int×List Int:=let z1:=C8 (h1.length:Int) p0 p1 p2;(h1.getD ((z1.1).toNat) (0:Int),(z1.2.1),(z1.2.2.1),(z1.2.2.2),h1)
noncomputable abbrev B4J (r:Int×(List Int)×Int×Int×List Int):AV×List AObj×List Nat:=((ti r.1),[(.box [(.t false B4 r.2.1),(ti r.2.2.1),(ti r.2.2.2.1)]),(.rows 3 true (.int .i64) r.2.2.2.2)],[])
noncomputable abbrev B4P:A6S.den→AV×List AObj×List Nat:=fun d=>B4J (H7 d.2.1.1 d.2.1.2.1 d.2.1.2.2.1 d.2.2.1)
noncomputable def F3 (p0:List Int) (p1 p2:Int) (h1:List Int):Bool:=let z1:=(C8 (h1.length:Int) p0 p1 p2).1;(C2 (h1.length:Int) p0 p1 p2)&&(decide (0≤z1∧z1<(h1.length:Int)))
noncomputable abbrev B1L:A6S.den→Bool:=fun d=>F3 d.2.1.1 d.2.1.2.1 d.2.1.2.2.1 d.2.2.1
theorem B6w:RunM G4 aLn Try.f86 A6S B1L B4P:=by
 rintro ⟨⟨_,_,_⟩,⟨⟨p0,p1,p2,_⟩,h1,_⟩⟩ hp
 change F3 p0 p1 p2 h1=true at hp
 unfold F3 at hp
 refine Eq.trans (b:=(let z1:=C8 (h1.length:Int) p0 p1 p2;cond (C2 (h1.length:Int) p0 p1 p2) (cond (decide (0≤(z1.1)∧(z1.1)<(h1.length:Int))) (some (B4J (h1.getD ((z1.1).toNat) (0:Int),(z1.2.1),(z1.2.2.1),(z1.2.2.2),h1))) none) none)) (by kernel_rfl) ?_
 exact (cndA hp fun hp=>(cndT hp fun _h=>rfl))
noncomputable abbrev B45:=win winIds (msum A6S B1L B4P)
theorem B71:aPM 86 B45:=(mcM G4 hlz B6w).win winIds
noncomputable def S5:Tab:=Tab.add S4 86 (B45)
noncomputable def QF5:FuncId→Bool:=QF4
theorem G5:aPG S5 QF5:=G4.addM B71 (win_local _) (cbl Try.f86) (by kernel_rfl)

abbrev A6U:SS:=⟨[.ptr 0 0 1 0,.all 1 1],[.box [.t false B4,tI,tI],.rows 9 true .str]⟩
noncomputable def A6J (p0:List Int) (p1 p2:Int) (h1:List ByteArray):ByteArray×(List Int)×Int×Int×List ByteArray:=let z1:=C8 (h1.length:Int) p0 p1 p2;(h1.getD ((z1.1).toNat) bE,(z1.2.1),(z1.2.2.1),(z1.2.2.2),h1)
noncomputable abbrev B4L (r:ByteArray×(List Int)×Int×Int×List ByteArray):AV×List AObj×List Nat:=((.t true .str r.1),[(.box [(.t false B4 r.2.1),(ti r.2.2.1),(ti r.2.2.2.1)]),(.rows 9 true .str r.2.2.2.2)],[])
noncomputable abbrev B4R:A6U.den→AV×List AObj×List Nat:=fun d=>B4L (A6J d.2.1.1 d.2.1.2.1 d.2.1.2.2.1 d.2.2.1)
noncomputable def A02 (p0:List Int) (p1 p2:Int) (h1:List ByteArray):Bool:=let z1:=(C8 (h1.length:Int) p0 p1 p2).1;(C2 (h1.length:Int) p0 p1 p2)&&(decide (0≤z1∧z1<(h1.length:Int)))
noncomputable abbrev B1N:A6U.den→Bool:=fun d=>A02 d.2.1.1 d.2.1.2.1 d.2.1.2.2.1 d.2.2.1
theorem B6y:RunM G5 aLn Try.f173 A6U B1N B4R:=by
 rintro ⟨⟨_,_,_⟩,⟨⟨p0,p1,p2,_⟩,h1,_⟩⟩ hp
 change A02 p0 p1 p2 h1=true at hp
 unfold A02 at hp
 refine Eq.trans (b:=(let z1:=C8 (h1.length:Int) p0 p1 p2;cond (C2 (h1.length:Int) p0 p1 p2) (cond (decide (0≤(z1.1)∧(z1.1)<(h1.length:Int))) (some (B4L (h1.getD ((z1.1).toNat) (⟨#[]⟩:ByteArray),(z1.2.1),(z1.2.2.1),(z1.2.2.2),h1))) none) none)) (by kernel_rfl) ?_
 exact (cndA hp fun hp=>(cndT hp fun _h=>rfl))
noncomputable abbrev B47:=win winIds (msum A6U B1N B4R)
theorem B73:aPM 173 B47:=(mcM G5 hlz B6y).win winIds
noncomputable def S6:Tab:=Tab.add S5 173 (B47)
noncomputable def QF6:FuncId→Bool:=QF5
theorem G6:aPG S6 QF6:=G5.addM B73 (win_local _) (cbl Try.f173) (by kernel_rfl)

abbrev A6V:SS:=⟨[.ptr 0 0 1 0],[.box [.t false B4,tI,tI]]⟩
noncomputable def B0g (p0:List Int) (p1 p2:Int):=A6J p0 p1 p2 ([(⟨#[97]⟩:ByteArray),(⟨#[98]⟩:ByteArray),(⟨#[99]⟩:ByteArray),(⟨#[107,49]⟩:ByteArray),(⟨#[107,50]⟩:ByteArray),(⟨#[109]⟩:ByteArray),(⟨#[122]⟩:ByteArray)])
noncomputable def A6K (p0:List Int) (p1 p2:Int):ByteArray×(List Int)×Int×Int:=let z1:=B0g p0 p1 p2;((z1.1),(z1.2.1),(z1.2.2.1),(z1.2.2.2.1))
noncomputable abbrev B4M (r:ByteArray×(List Int)×Int×Int):AV×List AObj×List Nat:=((.t true .str r.1),[(.box [(.t false B4 r.2.1),(ti r.2.2.1),(ti r.2.2.2)])],[])
noncomputable abbrev B4S:A6V.den→AV×List AObj×List Nat:=fun d=>B4M (A6K d.2.1.1 d.2.1.2.1 d.2.1.2.2.1)
noncomputable def A3k (p0:List Int) (p1 p2:Int):Bool:=A02 p0 p1 p2 ([(⟨#[97]⟩:ByteArray),(⟨#[98]⟩:ByteArray),(⟨#[99]⟩:ByteArray),(⟨#[107,49]⟩:ByteArray),(⟨#[107,50]⟩:ByteArray),(⟨#[109]⟩:ByteArray),(⟨#[122]⟩:ByteArray)])
noncomputable abbrev B1P:A6V.den→Bool:=fun d=>A3k d.2.1.1 d.2.1.2.1 d.2.1.2.2.1
theorem B6z:RunM G6 aLn Try.f172 A6V B1P B4S:=by
 rintro ⟨⟨_,_⟩,⟨⟨p0,p1,p2,_⟩,_⟩⟩ hp
 change A3k p0 p1 p2=true at hp
 unfold A3k at hp
 refine Eq.trans (b:=(let z1:=B0g p0 p1 p2;cond (A02 p0 p1 p2 ([(⟨#[97]⟩:ByteArray),(⟨#[98]⟩:ByteArray),(⟨#[99]⟩:ByteArray),(⟨#[107,49]⟩:ByteArray),(⟨#[107,50]⟩:ByteArray),(⟨#[109]⟩:ByteArray),(⟨#[122]⟩:ByteArray)])) (some (B4M ((z1.1),(z1.2.1),(z1.2.2.1),(z1.2.2.2.1)))) none)) (by kernel_rfl) ?_
 exact (cndT hp fun _h=>rfl)
noncomputable abbrev B48:=win winIds (msum A6V B1P B4S)
theorem B74:aPM 172 B48:=(mcM G6 hlz B6z).win winIds
noncomputable def S7:Tab:=Tab.add S6 172 (B48)
noncomputable def QF7:FuncId→Bool:=QF6
theorem G7:aPG S7 QF7:=G6.addM B74 (win_local _) (cbl Try.f172) (by kernel_rfl)

abbrev A6W:SS:=⟨[.ptr 0 0 1 0],[.box [.t false B4,tI,tI]]⟩
noncomputable def A4u (p0:List Int) (p1 p2:Int):=let z1:=H7 p0 p1 p2 [(1:Int),(1:Int),(1:Int),(2:Int),(3:Int)];A6K (z1.2.1) (z1.2.2.1) (z1.2.2.2.1)
noncomputable def B0h (p0:List Int) (p1 p2:Int):=let z1:=A4u p0 p1 p2;A6J (z1.2.1) (z1.2.2.1) (z1.2.2.2) ([(⟨#[49]⟩:ByteArray),(⟨#[50]⟩:ByteArray),(⟨#[120]⟩:ByteArray),bE,(⟨#[49]⟩:ByteArray)])
noncomputable def A0p (p0:List Int) (p1 p2:Int):Int×ByteArray×ByteArray×(List Int)×Int×Int×Int×ByteArray×ByteArray:=let z1:=(H7 p0 p1 p2 [(1:Int),(1:Int),(1:Int),(2:Int),(3:Int)]).1;let z2:=A4u p0 p1 p2;let z3:=B0h p0 p1 p2;(cond (z1 != (2:Int)) (z1,(z2.1),(z3.1),(z3.2.1),(z3.2.2.1),(z3.2.2.2.1),z1,(z2.1),(z3.1)) (z1,(z2.1),bE,(z2.2.1),(z2.2.2.1),(z2.2.2.2),z1,(z2.1),bE))
noncomputable abbrev A8T (r:Int×ByteArray×ByteArray×(List Int)×Int×Int×Int×ByteArray×ByteArray):AV×List AObj×List Nat:=((.agg [(ti r.1),(.t true .str r.2.1),(.t true .str r.2.2.1)]),[(.box [(.t false B4 r.2.2.2.1),(ti r.2.2.2.2.1),(ti r.2.2.2.2.2.1)]),(.box [(ti r.2.2.2.2.2.2.1),(.t true .str r.2.2.2.2.2.2.2.1),(.t true .str r.2.2.2.2.2.2.2.2)])],[])
noncomputable abbrev B4T:A6W.den→AV×List AObj×List Nat:=fun d=>A8T (A0p d.2.1.1 d.2.1.2.1 d.2.1.2.2.1)
noncomputable def A3m (p0:List Int) (p1 p2:Int):Bool:=let z1:=H7 p0 p1 p2 [(1:Int),(1:Int),(1:Int),(2:Int),(3:Int)];let z2:=A4u p0 p1 p2;(F3 p0 p1 p2 [(1:Int),(1:Int),(1:Int),(2:Int),(3:Int)])&&((A3k (z1.2.1) (z1.2.2.1) (z1.2.2.2.1))&&(cond ((z1.1) != (2:Int)) (A02 (z2.2.1) (z2.2.2.1) (z2.2.2.2) ([(⟨#[49]⟩:ByteArray),(⟨#[50]⟩:ByteArray),(⟨#[120]⟩:ByteArray),bE,(⟨#[49]⟩:ByteArray)])) true))
noncomputable abbrev B1Q:A6W.den→Bool:=fun d=>A3m d.2.1.1 d.2.1.2.1 d.2.1.2.2.1
theorem B6B:RunM G7 aLn Try.f152 A6W B1Q B4T:=by
 rintro ⟨⟨_,_⟩,⟨⟨p0,p1,p2,_⟩,_⟩⟩ hp
 change A3m p0 p1 p2=true at hp
 unfold A3m at hp
 refine Eq.trans (b:=(let z1:=H7 p0 p1 p2 [(1:Int),(1:Int),(1:Int),(2:Int),(3:Int)];let z2:=A4u p0 p1 p2;let z3:=B0h p0 p1 p2;cond (F3 p0 p1 p2 [(1:Int),(1:Int),(1:Int),(2:Int),(3:Int)]) (cond (A3k (z1.2.1) (z1.2.2.1) (z1.2.2.2.1)) (cond ((z1.1) != (2:Int)) (cond (A02 (z2.2.1) (z2.2.2.1) (z2.2.2.2) ([(⟨#[49]⟩:ByteArray),(⟨#[50]⟩:ByteArray),(⟨#[120]⟩:ByteArray),(⟨#[]⟩:ByteArray),(⟨#[49]⟩:ByteArray)])) (some (A8T ((z1.1),(z2.1),(z3.1),(z3.2.1),(z3.2.2.1),(z3.2.2.2.1),(z1.1),(z2.1),(z3.1)))) none) (some (A8T ((z1.1),(z2.1),(⟨#[]⟩:ByteArray),(z2.2.1),(z2.2.2.1),(z2.2.2.2),(z1.1),(z2.1),(⟨#[]⟩:ByteArray))))) none) none)) (by kernel_rfl) ?_
 exact (cndA hp fun hp=>(cndA hp fun hp=>(M2 A8T hp (fun hp=>(cndT hp fun _h=>rfl)) (fun hp=>rfl))))
noncomputable abbrev B49:=win winIds (msum A6W B1Q B4T)
theorem B76:aPM 152 B49:=(mcM G7 hlz B6B).win winIds
noncomputable def S8:Tab:=Tab.add S7 152 (B49)
noncomputable def QF8:FuncId→Bool:=QF7
theorem G8:aPG S8 QF8:=G7.addM B76 (win_local _) (cbl Try.f152) (by kernel_rfl)

abbrev C08:List Sh:=.junk::.junk::.junk::.junk::.junk::.junk::.junk::.junk::.junk::.junk::.junk::.junk::.junk::.junk::.junk::.junk::.junk::B4Z
abbrev tq3:Ty:=.pair (.int .i64) (.pair .str .str)
abbrev B6j:List Sh:=.junk::C08
abbrev u46:=((),(),(),(),(),(),(),(),(),(),(),(),(),(),(),(),(),u29)
abbrev u47:=((),u46)
abbrev B8n:List AV:=.junk::.junk::.junk::.junk::.junk::.junk::.junk::.junk::.junk::.junk::.junk::.junk::.junk::.junk::.junk::.junk::.junk::B6h
abbrev B6i:List AV:=.junk::B8n
abbrev A50:List PSh:=[.t tq2,.agg [(.int .i64),.str,.str]]
abbrev R7:SS:=⟨(.t false tq2::.junk::.junk::.ptr 0 0 1 0::.junk::.all 1 3::.t true .bool::tI::C08),[.box [tI,.t true .str,.t true .str],.rows 124 true tq3]⟩
abbrev A8E:SS:=⟨(.junk::.junk::.junk::.ptr 0 0 1 0::.junk::.all 1 3::.t true .bool::B6j),[.box [tI,.t true .str,.t true .str],.rows 124 true tq3]⟩
noncomputable def B0S (x0:Lq1) (x6:Bool) (x7 p0:Int) (p1 p2:ByteArray) (h1:Lq1):RT R7.den:=let z1:=x0.getD x7.toNat ((0:Int),(bE,bE));let z2:=decide (0≤x7∧x7<(x0.length:Int));let z3:=decide ((h1.length+([(z1.1,((z1.2).1,(z1.2).2))]).length)*40≤MAXB);(.br (decide (x7<(x0.length:Int))) (.br (!x6) (.br z2 (.br (!(Op.bytesLess ((z1.2).1).toList p1.toList)) (.br (decide ((h1.length+[(p0,(p1,p2))].length)*40≤MAXB)) (.br z2 (.br (!(((z1.2).1).toList==p1.toList)) (.br z2 (.br (decide (((h1++[(p0,(p1,p2))]).length+([(z1.1,((z1.2).1,(z1.2).2))]).length)*40≤MAXB)) (.next ((x0,(),(),(),(),(),true,IntKind.wrap .i64 (x7+(1:Int)),u46),((p0,p1,p2,()),(h1++[(p0,(p1,p2))])++([(z1.1,((z1.2).1,(z1.2).2))]),()))) .fail) .fail) (.next ((x0,(),(),(),(),(),true,IntKind.wrap .i64 (x7+(1:Int)),u46),((p0,p1,p2,()),h1++[(p0,(p1,p2))],())))) .fail) .fail) (.br z2 (.br (!(((z1.2).1).toList==p1.toList)) (.br z2 (.br z3 (.next ((x0,(),(),(),(),(),x6,IntKind.wrap .i64 (x7+(1:Int)),u46),((p0,p1,p2,()),h1++([(z1.1,((z1.2).1,(z1.2).2))]),()))) .fail) .fail) (.next ((x0,(),(),(),(),(),x6,IntKind.wrap .i64 (x7+(1:Int)),u46),((p0,p1,p2,()),h1,())))) .fail)) .fail) (.br z2 (.br (!(((z1.2).1).toList==p1.toList)) (.br z2 (.br z3 (.next ((x0,(),(),(),(),(),x6,IntKind.wrap .i64 (x7+(1:Int)),u46),((p0,p1,p2,()),h1++([(z1.1,((z1.2).1,(z1.2).2))]),()))) .fail) .fail) (.next ((x0,(),(),(),(),(),x6,IntKind.wrap .i64 (x7+(1:Int)),u46),((p0,p1,p2,()),h1,())))) .fail)) (.done (.exit 0) A8E (((),(),(),(),(),(),x6,u47),((p0,p1,p2,()),h1,()))))
abbrev A0h:=(Lq1)×(Bool)×(Int)×(Lq1)
abbrev A2J:=Nat×(Bool)×(Lq1)
def H6:A2J:=(99,(false:Bool),([]:Lq1))
noncomputable def A3G (x0:Lq1) (x6:Bool) (x7 p0:Int) (p1 p2:ByteArray) (h1:Lq1):A0h ⊕ A2J:=let z1:=x0.getD x7.toNat ((0:Int),(bE,bE));let z2:=decide (0≤x7∧x7<(x0.length:Int));let z3:=decide ((h1.length+([(z1.1,((z1.2).1,(z1.2).2))]).length)*40≤MAXB);(cond (decide (x7<(x0.length:Int))) (cond (!x6) (cond z2 (cond (!(Op.bytesLess ((z1.2).1).toList p1.toList)) (cond (decide ((h1.length+[(p0,(p1,p2))].length)*40≤MAXB)) (cond z2 (cond (!(((z1.2).1).toList==p1.toList)) (cond z2 (cond (decide (((h1++[(p0,(p1,p2))]).length+([(z1.1,((z1.2).1,(z1.2).2))]).length)*40≤MAXB)) (.inl (x0,true,IntKind.wrap .i64 (x7+(1:Int)),(h1++[(p0,(p1,p2))])++([(z1.1,((z1.2).1,(z1.2).2))]))) (.inr H6)) (.inr H6)) (.inl (x0,true,IntKind.wrap .i64 (x7+(1:Int)),h1++[(p0,(p1,p2))]))) (.inr H6)) (.inr H6)) (cond z2 (cond (!(((z1.2).1).toList==p1.toList)) (cond z2 (cond z3 (.inl (x0,x6,IntKind.wrap .i64 (x7+(1:Int)),h1++([(z1.1,((z1.2).1,(z1.2).2))]))) (.inr H6)) (.inr H6)) (.inl (x0,x6,IntKind.wrap .i64 (x7+(1:Int)),h1))) (.inr H6))) (.inr H6)) (cond z2 (cond (!(((z1.2).1).toList==p1.toList)) (cond z2 (cond z3 (.inl (x0,x6,IntKind.wrap .i64 (x7+(1:Int)),h1++([(z1.1,((z1.2).1,(z1.2).2))]))) (.inr H6)) (.inr H6)) (.inl (x0,x6,IntKind.wrap .i64 (x7+(1:Int)),h1))) (.inr H6))) (.inr (0,x6,h1)))
noncomputable def A1T (x0:Lq1) (x6:Bool) (x7 p0:Int) (p1 p2:ByteArray) (h1:Lq1):A2J:=itX (fun v:A0h=>A3G v.1 v.2.1 v.2.2.1 p0 p1 p2 v.2.2.2) H6 (x0,x6,x7,h1)
noncomputable def A6b (p0:Int) (p1 p2:ByteArray) (a:A2J):CT:=(.br (a.1==0) (.done (.exit 0) A8E (((),(),(),(),(),(),a.2.1,u47),((p0,p1,p2,()),a.2.2,()))) .fail)
noncomputable def B5U (x0:Lq1) (x6:Bool) (x7 p0:Int) (p1 p2:ByteArray) (h1:Lq1):CT:=(A6b p0 p1 p2) (A1T x0 x6 x7 p0 p1 p2 h1)
noncomputable abbrev A3v {α:Sort _} (f:Lq1→Bool→Int→Int→ByteArray→ByteArray→Lq1→α) (d:R7.den):α:=f d.1.1 d.1.2.2.2.2.2.2.1 d.1.2.2.2.2.2.2.2.1 d.2.1.1 d.2.1.2.1 d.2.1.2.2.1 d.2.2.1
noncomputable abbrev A6N:R7.den→RT R7.den:=(A3v B0S)
noncomputable def A7s:Code:=((loopsIn 0 (bodyOf Try.f156)).getD 0 (0,.skip)).2
noncomputable abbrev B0P (p0:Int) (p1 p2:ByteArray) (v:A0h):R7.den:=((v.1,(),(),(),(),(),v.2.1,v.2.2.1,u46),((p0,p1,p2,()),v.2.2.2,()))
theorem B5g (p0:Int) (p1 p2:ByteArray):(∀ v:A0h,(B0S v.1 v.2.1 v.2.2.1 p0 p1 p2 v.2.2.2).val=relS (B0P p0 p1 p2) (A6b p0 p1 p2) (A3G v.1 v.2.1 v.2.2.1 p0 p1 p2 v.2.2.2))∧∀ a:A2J,CEnd R7.den ((A6b p0 p1 p2) a):=⟨fun v=>by repeat' first | apply relB | rfl,fun a=>(cendB aCD cendF)⟩
noncomputable def B0F (x0:Lq1) (x6:Bool) (x7 p0:Int) (p1 p2:ByteArray) (h1:Lq1):Option (Ex×St):=let z1:=x0.getD x7.toNat ((0:Int),(bE,bE));let z4:=decide (0≤x7∧x7<(x0.length:Int));let z5:=ti (IntKind.wrap .i64 (x7+(1:Int)));let z2:=(⟨((.t false tq2 x0)::.junk::.junk::(.ptr 0 0 1 0)::.junk::(.all 1 3)::(.t true .bool x6)::z5::B8n),[(.box [(ti p0),(.t true .str p1),(.t true .str p2)]),(.rows 124 true tq3 (h1++([(z1.1,((z1.2).1,(z1.2).2))])))],0,[]⟩:St);let z3:=(⟨((.t false tq2 x0)::.junk::.junk::(.ptr 0 0 1 0)::.junk::(.all 1 3)::(.t true .bool x6)::z5::B8n),[(.box [(ti p0),(.t true .str p1),(.t true .str p2)]),(.rows 124 true tq3 h1)],0,[]⟩:St);let z6:=decide ((h1.length+([(z1.1,((z1.2).1,(z1.2).2))]).length)*40≤MAXB);(cond (decide (x7<(x0.length:Int))) (cond (!x6) (cond z4 (cond (!(Op.bytesLess ((z1.2).1).toList p1.toList)) (cond (decide ((h1.length+[(p0,(p1,p2))].length)*40≤MAXB)) (cond z4 (cond (!(((z1.2).1).toList==p1.toList)) (cond z4 (cond (decide (((h1++[(p0,(p1,p2))]).length+([(z1.1,((z1.2).1,(z1.2).2))]).length)*40≤MAXB)) (some (.normal,(⟨((.t false tq2 x0)::.junk::.junk::(.ptr 0 0 1 0)::.junk::(.all 1 3)::(.t true .bool true)::z5::B8n),[(.box [(ti p0),(.t true .str p1),(.t true .str p2)]),(.rows 124 true tq3 ((h1++[(p0,(p1,p2))])++([(z1.1,((z1.2).1,(z1.2).2))])))],0,[]⟩:St))) none) none) (some (.normal,(⟨((.t false tq2 x0)::.junk::.junk::(.ptr 0 0 1 0)::.junk::(.all 1 3)::(.t true .bool true)::z5::B8n),[(.box [(ti p0),(.t true .str p1),(.t true .str p2)]),(.rows 124 true tq3 (h1++[(p0,(p1,p2))]))],0,[]⟩:St)))) none) none) (cond z4 (cond (!(((z1.2).1).toList==p1.toList)) (cond z4 (cond z6 (some (.normal,z2)) none) none) (some (.normal,z3))) none)) none) (cond z4 (cond (!(((z1.2).1).toList==p1.toList)) (cond z4 (cond z6 (some (.normal,z2)) none) none) (some (.normal,z3))) none)) (some ((.exit 0),(⟨(.junk::.junk::.junk::(.ptr 0 0 1 0)::.junk::(.all 1 3)::(.t true .bool x6)::B6i),[(.box [(ti p0),(.t true .str p1),(.t true .str p2)]),(.rows 124 true tq3 h1)],0,[]⟩:St))))
theorem B3X:RdA G8 aLn 0 A7s R7 0 [] (kepts [] [(0,[3,5,6])]) (A3v B0F):=by
 intro d
 kernel_rfl
theorem B31:∀ d:R7.den,(A3v B0F) d=(A6N d).opt 0 []:=by
 intro d
 kernel_rfl
noncomputable abbrev A9J:St→Option Tree:=R7.say 0 [] [] (A3v B5U)
theorem B44:aPL A9J A7s:=SS.wp2 hlz [] A6N B3X B31 _ (fun d=>Runs.ofI2 (step:=A6N) (B0P d.2.1.1 d.2.1.2.1 d.2.1.2.2.1) (B5g d.2.1.1 d.2.1.2.1 d.2.1.2.2.1) rfl (d.1.1,d.1.2.2.2.2.2.2.1,d.1.2.2.2.2.2.2.2.1,d.2.2.1))
noncomputable def A8z (a0:Lq1) (a1:Int) (a2 a3:ByteArray):Lq1:=let z1:=A1T a0 false (0:Int) a1 a2 a3 ([]:Lq1);(cond (!(z1.2.1)) ((z1.2.2)++[(a1,(a2,a3))]) (z1.2.2))
noncomputable abbrev A8S (r:Lq1):AV×List AObj:=((.all 0 3),[(.rows 124 true tq3 r)])
noncomputable abbrev B1D:pshsDen A50→AV×List AObj:=fun d=>A8S (A8z d.1 d.2.1.1 d.2.1.2.1 d.2.1.2.2.1)
noncomputable def A3l (a0:Lq1) (a1:Int) (a2 a3:ByteArray):Bool:=let z1:=A1T a0 false (0:Int) a1 a2 a3 ([]:Lq1);(z1.1==0)&&(cond (!(z1.2.1)) (decide (((z1.2.2).length+[(a1,(a2,a3))].length)*40≤MAXB)) true)
noncomputable abbrev A8w:pshsDen A50→Bool:=fun d=>A3l d.1 d.2.1.1 d.2.1.2.1 d.2.1.2.2.1
noncomputable abbrev B7S:Nat→St→Option Tree:=fun b=>match b with | 0=>A9J | _=>fun _=>none
theorem B6A:RunP false G8 (B7S) Try.f156 A50 A8w B1D:=by
 rintro ⟨a0,⟨⟨a1,⟨a2,⟨a3,_⟩⟩⟩,_⟩⟩ hp
 change A3l a0 a1 a2 a3=true at hp
 unfold A3l at hp
 refine Eq.trans (b:=(let z1:=A1T a0 false (0:Int) a1 a2 a3 ([]:Lq1);cond (z1.1==0) (cond (!(z1.2.1)) (cond (decide (((z1.2.2).length+[(a1,(a2,a3))].length)*40≤MAXB)) (some (A8S ((z1.2.2)++[(a1,(a2,a3))]))) none) (some (A8S (z1.2.2)))) none)) (by kernel_rfl) ?_
 exact (cndA hp fun hp=>(M2 A8S hp (fun hp=>(cndT hp fun _h=>rfl)) (fun hp=>rfl)))
theorem B75:aPP 156 (sumOf A50 A8w B1D):=pcD false G8 (hl1 (i:=0) (by kernel_rfl) B44) B6A
noncomputable def S9:Tab:=Tab.add S8 156 (lift (sumOf A50 A8w B1D))
noncomputable def QF9:FuncId→Bool:=QF8
theorem G9:aPG S9 QF9:=G8.add B75 (cbl Try.f156) (by kernel_rfl)

abbrev C04:List Sh:=.junk::.junk::.junk::.junk::.junk::.junk::.junk::.junk::.junk::.junk::.junk::.junk::.junk::[]
abbrev B7z:List Sh:=.junk::C04
abbrev u14:=((),(),(),(),(),(),(),(),(),(),(),(),(),())
abbrev u19:=((),(),(),(),(),u14)
abbrev A4L:SS:=⟨[.ptr 0 0 1 0],[.box [.t false B4,tI,tI]]⟩
abbrev R3:SS:=⟨(.ptr 0 0 1 0::.junk::.junk::.all 1 3::tI::C04),[.box [.t false B4,tI,tI],.rows 124 true tq3]⟩
abbrev A7n:SS:=⟨(.junk::.junk::.junk::.all 1 3::B7z),[.box [.t false B4,tI,tI],.rows 124 true tq3]⟩
noncomputable def A8m (p0:List Int) (p1 p2:Int) (h1:Lq1):=let z1:=A0p p0 p1 p2;A8z h1 (z1.1) (z1.2.1) (z1.2.2.1)
noncomputable def A9V (x4:Int) (p0:List Int) (p1 p2:Int) (h1:Lq1):RT R3.den:=let z1:=A0p p0 p1 p2;(.br (decide (x4 > (0:Int))) (.br (A3m p0 p1 p2) (.br (A3l h1 (z1.1) (z1.2.1) (z1.2.2.1)) (.next (((),(),(),(),IntKind.wrap .i64 (x4 - (1:Int)),u14),(((z1.2.2.2.1),(z1.2.2.2.2.1),(z1.2.2.2.2.2.1),()),(A8m p0 p1 p2 h1),()))) .fail) .fail) (.done (.exit 0) A7n ((u19),((p0,p1,p2,()),h1,()))))
abbrev A1R:=(Int)×(List Int)×(Int)×(Int)×(Lq1)
abbrev A0v:=Nat×(List Int)×(Int)×(Int)×(Lq1)
def A42:A0v:=(99,([]:List Int),((0:Int):Int),((0:Int):Int),([]:Lq1))
noncomputable def A2A (x4:Int) (p0:List Int) (p1 p2:Int) (h1:Lq1):A1R ⊕ A0v:=let z1:=A0p p0 p1 p2;(cond (decide (x4 > (0:Int))) (cond (A3m p0 p1 p2) (cond (A3l h1 (z1.1) (z1.2.1) (z1.2.2.1)) (.inl (IntKind.wrap .i64 (x4 - (1:Int)),(z1.2.2.2.1),(z1.2.2.2.2.1),(z1.2.2.2.2.2.1),(A8m p0 p1 p2 h1))) (.inr A42)) (.inr A42)) (.inr (0,p0,p1,p2,h1)))
noncomputable def O3 (x4:Int) (p0:List Int) (p1 p2:Int) (h1:Lq1):A0v:=itX (fun v:A1R=>A2A v.1 v.2.1 v.2.2.1 v.2.2.2.1 v.2.2.2.2) A42 (x4,p0,p1,p2,h1)
noncomputable def A4V (a:A0v):CT:=(.br (a.1==0) (.done (.exit 0) A7n ((u19),((a.2.1,a.2.2.1,a.2.2.2.1,()),a.2.2.2.2,()))) .fail)
noncomputable def B4C (x4:Int) (p0:List Int) (p1 p2:Int) (h1:Lq1):CT:=A4V (O3 x4 p0 p1 p2 h1)
noncomputable abbrev A8K {α:Sort _} (f:Int→(List Int)→Int→Int→Lq1→α) (d:R3.den):α:=f d.1.2.2.2.2.1 d.2.1.1 d.2.1.2.1 d.2.1.2.2.1 d.2.2.1
noncomputable abbrev A5w:R3.den→RT R3.den:=(A8K A9V)
noncomputable def A59:Code:=((loopsIn 0 (bodyOf Try.f122)).getD 0 (0,.skip)).2
noncomputable abbrev A9t (v:A1R):R3.den:=(((),(),(),(),v.1,u14),((v.2.1,v.2.2.1,v.2.2.2.1,()),v.2.2.2.2,()))
theorem B4b:(∀ v:A1R,(A9V v.1 v.2.1 v.2.2.1 v.2.2.2.1 v.2.2.2.2).val=relS A9t A4V (A2A v.1 v.2.1 v.2.2.1 v.2.2.2.1 v.2.2.2.2))∧∀ a:A0v,CEnd R3.den (A4V a):=⟨fun v=>(relB (relB (relB rfl rfl) rfl) rfl),fun a=>(cendB aCD cendF)⟩
theorem B2G:RdA G9 aLn 0 A59 R3 1 [] (kepts [] [(0,[3])]) (fun d=>(A5w d).opt 1 []):=by
 intro d
 kernel_rfl
noncomputable abbrev A76:St→Option Tree:=R3.say 1 [] [] (A8K B4C)
theorem B3S:aPL A76 A59:=SS.wp2 hlz [] A5w B2G (fun d=>rfl) _ (fun d=>Runs.ofI2 (step:=A5w) A9t B4b rfl (d.1.2.2.2.2.1,d.2.1.1,d.2.1.2.1,d.2.1.2.2.1,d.2.2.1))
noncomputable def A48 (p0:List Int) (p1 p2:Int):=let z1:=C8 (4:Int) p0 p1 p2;O3 (IntKind.wrap .i64 ((1:Int)+(z1.1))) (z1.2.1) (z1.2.2.1) (z1.2.2.2) ([]:Lq1)
noncomputable def A1z (p0:List Int) (p1 p2:Int):(List Int)×Int×Int×Lq1:=let z1:=A48 p0 p1 p2;((z1.2.1),(z1.2.2.1),(z1.2.2.2.1),(z1.2.2.2.2))
noncomputable abbrev B25 (r:(List Int)×Int×Int×Lq1):AV×List AObj×List Nat:=((.all 1 3),[(.box [(.t false B4 r.1),(ti r.2.1),(ti r.2.2.1)]),(.rows 124 true tq3 r.2.2.2)],[])
noncomputable abbrev B3b:A4L.den→AV×List AObj×List Nat:=fun d=>B25 (A1z d.2.1.1 d.2.1.2.1 d.2.1.2.2.1)
noncomputable def A1l (p0:List Int) (p1 p2:Int):Bool:=(C2 (4:Int) p0 p1 p2)&&((A48 p0 p1 p2).1==0)
noncomputable abbrev B0N:A4L.den→Bool:=fun d=>A1l d.2.1.1 d.2.1.2.1 d.2.1.2.2.1
noncomputable abbrev B63:Nat→St→Option Tree:=fun b=>match b with | 0=>A76 | _=>fun _=>none
theorem B5A:RunM G9 (B63) Try.f122 A4L B0N B3b:=by
 rintro ⟨⟨_,_⟩,⟨⟨p0,p1,p2,_⟩,_⟩⟩ hp
 change A1l p0 p1 p2=true at hp
 unfold A1l at hp
 refine Eq.trans (b:=(let z1:=A48 p0 p1 p2;cond (C2 (4:Int) p0 p1 p2) (cond (z1.1==0) (some (B25 ((z1.2.1),(z1.2.2.1),(z1.2.2.2.1),(z1.2.2.2.2)))) none) none)) (by kernel_rfl) ?_
 exact (cndA hp fun hp=>(cndT hp fun _h=>rfl))
noncomputable abbrev B3f:=win winIds (msum A4L B0N B3b)
theorem B7o:aPM 122 B3f:=(mcM G9 (hl1 (i:=0) (by kernel_rfl) B3S) B5A).win winIds
noncomputable def S10:Tab:=Tab.add S9 122 (B3f)
noncomputable def B9Q:FuncId→Bool:=QF9
theorem G10:aPG S10 B9Q:=G9.addM B7o (win_local _) (cbl Try.f122) (by kernel_rfl)

abbrev A6X:SS:=⟨[.ptr 0 0 1 0],[.box [.t false B4,tI,tI]]⟩
noncomputable def D4 (p0:List Int) (p1 p2:Int):=let z1:=H7 p0 p1 p2 [(1:Int),(1:Int),(2:Int),(3:Int)];C8 (4:Int) (z1.2.1) (z1.2.2.1) (z1.2.2.2.1)
noncomputable def A2H (p0:List Int) (p1 p2:Int):=let z1:=D4 p0 p1 p2;A1z (z1.2.1) (z1.2.2.1) (z1.2.2.2)
noncomputable def M3 (p0:List Int) (p1 p2:Int):Int×Int×Lq1×(List Int)×Int×Int:=let z1:=(H7 p0 p1 p2 [(1:Int),(1:Int),(2:Int),(3:Int)]).1;let z2:=D4 p0 p1 p2;let z3:=A2H p0 p1 p2;(cond (z1==(1:Int)) (z1,IntKind.wrap .i64 ((1:Int)+(z2.1)),(z3.2.2.2),(z3.1),(z3.2.1),(z3.2.2.1)) (z1,IntKind.wrap .i64 ((1:Int)+(z2.1)),[],(z2.2.1),(z2.2.2.1),(z2.2.2.2)))
noncomputable abbrev A8U (r:Int×Int×Lq1×(List Int)×Int×Int):AV×List AObj×List Nat:=((.agg [(ti r.1),(ti r.2.1),(.t true tq2 r.2.2.1)]),[(.box [(.t false B4 r.2.2.2.1),(ti r.2.2.2.2.1),(ti r.2.2.2.2.2)])],[])
noncomputable abbrev B4U:A6X.den→AV×List AObj×List Nat:=fun d=>A8U (M3 d.2.1.1 d.2.1.2.1 d.2.1.2.2.1)
noncomputable def A1W (p0:List Int) (p1 p2:Int):Bool:=let z1:=H7 p0 p1 p2 [(1:Int),(1:Int),(2:Int),(3:Int)];let z2:=D4 p0 p1 p2;(F3 p0 p1 p2 [(1:Int),(1:Int),(2:Int),(3:Int)])&&((C2 (4:Int) (z1.2.1) (z1.2.2.1) (z1.2.2.2.1))&&(cond ((z1.1)==(1:Int)) (A1l (z2.2.1) (z2.2.2.1) (z2.2.2.2)) true))
noncomputable abbrev B1R:A6X.den→Bool:=fun d=>A1W d.2.1.1 d.2.1.2.1 d.2.1.2.2.1
theorem B6C:RunMRD [] G10 aLn Try.f82 A6X B1R B4U:=by
 rintro ⟨⟨_,_⟩,⟨⟨p0,p1,p2,_⟩,_⟩⟩ hp
 change A1W p0 p1 p2=true at hp
 unfold A1W at hp
 refine Eq.trans (b:=(let z1:=H7 p0 p1 p2 [(1:Int),(1:Int),(2:Int),(3:Int)];let z2:=D4 p0 p1 p2;let z3:=A2H p0 p1 p2;cond (F3 p0 p1 p2 [(1:Int),(1:Int),(2:Int),(3:Int)]) (cond (C2 (4:Int) (z1.2.1) (z1.2.2.1) (z1.2.2.2.1)) (cond ((z1.1)==(1:Int)) (cond (A1l (z2.2.1) (z2.2.2.1) (z2.2.2.2)) (some (A8U ((z1.1),IntKind.wrap .i64 ((1:Int)+(z2.1)),(z3.2.2.2),(z3.1),(z3.2.1),(z3.2.2.1)))) none) (some (A8U ((z1.1),IntKind.wrap .i64 ((1:Int)+(z2.1)),[],(z2.2.1),(z2.2.2.1),(z2.2.2.2))))) none) none)) (by kernel_rfl) ?_
 exact (cndA hp fun hp=>(cndA hp fun hp=>(M2 A8U hp (fun hp=>(cndT hp fun _h=>rfl)) (fun hp=>rfl))))
noncomputable abbrev B5a:=win winIds (msum A6X B1R B4U)
theorem B77:aPM 82 B5a:=(C1Q []  G10 hlz B6C).win winIds
noncomputable def S11:Tab:=Tab.add S10 82 (B5a)
noncomputable def B9R:FuncId→Bool:=B9Q
theorem G11:aPG S11 B9R:=G10.addM B77 (win_local _) (cbl Try.f82) (by kernel_rfl)

abbrev A8H:List PSh:=[.t (.int .i64),.t (.int .i64),.t (.int .i64)]
noncomputable def J6 (a0 a1 a2:Int):Bool:=(cond (decide (a0 ≥ a1)) (decide (a0≤a2)) false)
noncomputable abbrev B1b (r:Bool):AV×List AObj:=((.t true .bool r),[])
noncomputable abbrev B3C:pshsDen A8H→AV×List AObj:=fun d=>B1b (J6 d.1 d.2.1 d.2.2.1)
noncomputable abbrev B0n:pshsDen A8H→Bool:=fun d=>true
theorem B7H:RunP true G11 aLn Try.f72 A8H B0n B3C:=by
 rintro ⟨a0,⟨a1,⟨a2,_⟩⟩⟩ hp
 refine Eq.trans (b:=(cond (decide (a0 ≥ a1)) (some (B1b (decide (a0≤a2)))) (some (B1b false)))) (by kernel_rfl) ?_
 exact (L4 B1b (fun _h=>rfl) (fun _h=>rfl))
theorem B8I:aPP 72 (sumOf A8H B0n B3C):=pcD true G11 hlz B7H
noncomputable def S12:Tab:=Tab.add S11 72 (lift (sumOf A8H B0n B3C))
noncomputable def B9S:FuncId→Bool:=qadd B9R 72
theorem G12:aPG S12 B9S:=G11.addQ B8I (cbl Try.f72) (fun _=>rfl)

abbrev B8V:List Sh:=.junk::.junk::.junk::.junk::.junk::.junk::.junk::.junk::.junk::B7z
abbrev B9D:List Sh:=.junk::B8V
abbrev B9E:List Sh:=.junk::.junk::B9D
abbrev u25:=((),(),(),(),(),(),u19)
abbrev u24:=((),(),(),(),(),u19)
abbrev u27:=((),(),u25)
noncomputable def A5l (s:ByteArray) (i:Nat):Bool:=let z1:=IntKind.wrap .i64 (bt s (i:Int));J6 z1 97 122||J6 z1 48 57
abbrev A5X:List PSh:=[.t .str]
abbrev A0g:SS:=⟨(.t true .str::.junk::.junk::tI::B8V),[]⟩
abbrev A8B:SS:=⟨(.junk::.junk::.t true .bool::B9D),[]⟩
abbrev A8C:SS:=⟨(.t true .str::B9E),[]⟩
noncomputable def A6P (x0:ByteArray) (x3:Int):RT A0g.den:=let z1:=decide (0≤x3∧x3<(x0.size:Int));let z2:=IntKind.wrap .i64 (bt x0 x3);(.br (decide (x3<(x0.size:Int))) (.br z1 (.br (!(J6 z2 (97:Int) (122:Int))) (.br z1 (.br (!(J6 z2 (48:Int) (57:Int))) (.done .ret A8B (((),(),false,u25),())) (.next ((x0,(),(),IntKind.wrap .i64 (x3+(1:Int)),u24),()))) .fail) (.next ((x0,(),(),IntKind.wrap .i64 (x3+(1:Int)),u24),()))) .fail) (.done (.exit 0) A8C ((x0,u27),())))
noncomputable def A2S (x0:ByteArray) (x3:Int):CT:=(.br (decide (0≤x3)&&okS x0) (.br (allF (A5l x0) (x0.size - x3.toNat) x3.toNat) (.done (.exit 0) A8C ((x0,u27),())) (.done .ret A8B (((),(),false,u25),()))) .fail)
noncomputable abbrev A1Y:A0g.den→RT A0g.den:=(fun d=>A6P d.1.1 d.1.2.2.2.1)
noncomputable abbrev B0H (x0:ByteArray) (x3:Int):A0g.den:=((x0,(),(),x3,u24),())
noncomputable def A7p:Code:=((loopsIn 0 (bodyOf Try.f154)).getD 0 (0,.skip)).2
theorem B5R (x0:ByteArray) (x3:Int):(A2S x0 x3).val (D:=A0g.den)=.fail∨Runs A1Y (B0H x0 x3) (A2S x0 x3).val:=by
 cases hc:(decide (0≤x3)&&okS x0) with
 | false=>left;simp only [A2S,CT.val,hc,cond_false]
 | true =>
  right
  simp only [A2S,CT.val,hc,cond_true]
  simp only [Bool.and_eq_true,decide_eq_true_eq] at hc
  obtain ⟨i,rfl⟩:=Int.eq_ofNat_of_zero_le hc.1
  have hs:=okS_le hc.2
  simp only [Int.toNat_natCast]
  refine Runs.scan (fun j=>B0H x0 (j:Int)) (x0.size) (A5l x0) (fun i hi=>?_) (fun i hi=>?_) ⟨_,_,_,rfl,by simp⟩ ⟨_,_,_,rfl,by simp⟩ _ _ rfl
  ·
   have h0a:decide ((i:Int)<(x0.size:Int))=true:=decide_eq_true (by omega)
   have h0b:decide (0≤(i:Int)∧(i:Int)<(x0.size:Int))=true:=decide_eq_true (by omega)
   simp only [A1Y,A6P,RT.val,h0a,h0b,cond_true,wrapS i (by omega),Int.toNat_natCast]
   simp only [A5l]
   cases J6 (IntKind.wrap .i64 (bt x0 (i:Int))) 97 122<;>cases J6 (IntKind.wrap .i64 (bt x0 (i:Int))) 48 57<;>rfl
  ·have h1:decide ((i:Int)<(x0.size:Int))=false:=decide_eq_false (by omega)
   simp only [A1Y,A6P,RT.val,h1,cond_false]
theorem B3U:RdA G12 aLn 0 A7p A0g 0 [] (kepts [2] [(0,[0])]) (fun d=>(A1Y d).opt 0 []):=by
 intro d
 kernel_rfl
noncomputable abbrev A9G:St→Option Tree:=A0g.say 0 [] [] (fun d=>A2S d.1.1 d.1.2.2.2.1)
theorem B41:aPL A9G A7p:=SS.wp2 hlz [] A1Y B3U (fun d=>rfl) _ (fun d=>B5R d.1.1 d.1.2.2.2.1)
noncomputable def A1n (a0:ByteArray):Bool:=(cond (allF (A5l a0) (a0.size - (0:Int).toNat) (0:Int).toNat) (J6 (a0.size:Int) (1:Int) (12:Int)) false)
noncomputable abbrev A8Q (r:Bool):AV×List AObj:=((.t true .bool r),[])
noncomputable abbrev B1z:pshsDen A5X→AV×List AObj:=fun d=>A8Q (A1n d.1)
noncomputable def A6z (a0:ByteArray):Bool:=okS a0
noncomputable abbrev A8t:pshsDen A5X→Bool:=fun d=>A6z d.1
noncomputable abbrev B7P:Nat→St→Option Tree:=fun b=>match b with | 0=>A9G | _=>fun _=>none
theorem B6t:RunP true G12 (B7P) Try.f154 A5X A8t B1z:=by
 rintro ⟨a0,_⟩ hp
 change A6z a0=true at hp
 unfold A6z at hp
 refine Eq.trans (b:=(cond (decide (0≤(0:Int))&&okS a0) (cond (allF (A5l a0) (a0.size - (0:Int).toNat) (0:Int).toNat) (some (A8Q (J6 (a0.size:Int) (1:Int) (12:Int)))) (some (A8Q false))) none)) (by kernel_rfl) ?_
 exact (cndT (by first | rfl | decide | exact hp | (simp only [Bool.and_eq_true] at hp;simp only [hp];done) | (simp [*];done) | (simp [okL] at hp;simp [okL,MAXB];omega) | (simp_all;done) | (simp at *;omega)) (fun _h=>(L4 A8Q (fun _h=>rfl) (fun _h=>rfl))))
theorem B7Y:aPP 154 (sumOf A5X A8t B1z):=pcD true G12 (hl1 (i:=0) (by kernel_rfl) B41) B6t
noncomputable def S13:Tab:=Tab.add S12 154 (lift (sumOf A5X A8t B1z))
noncomputable def B9T:FuncId→Bool:=qadd B9S 154
theorem G13:aPG S13 B9T:=G12.addQ B7Y (cbl Try.f154) (fun _=>rfl)

abbrev A8I:List PSh:=[.agg [(.int .i64),.str,.str]]
noncomputable def A6L (a0:Int) (a1 a2:ByteArray):Bool:=let z1:=decide ((a2.size:Int)≤(20:Int));(cond (!(J6 a0 (1:Int) (3:Int))) false (cond (a0==(2:Int)) (cond (!(a2.toList==bE.toList)) false (cond (A1n a1) z1 false)) (cond (A1n a1) z1 false)))
noncomputable abbrev A0W (r:Bool):AV×List AObj:=((.t true .bool r),[])
noncomputable abbrev B3D:pshsDen A8I→AV×List AObj:=fun d=>A0W (A6L d.1.1 d.1.2.1 d.1.2.2.1)
noncomputable def A69 (a0:Int) (a1 a2:ByteArray):Bool:=okS a1
noncomputable abbrev B0o:pshsDen A8I→Bool:=fun d=>A69 d.1.1 d.1.2.1 d.1.2.2.1
theorem B7I:RunP true G13 aLn Try.f118 A8I B0o B3D:=by
 rintro ⟨⟨a0,⟨a1,⟨a2,_⟩⟩⟩,_⟩ hp
 change A69 a0 a1 a2=true at hp
 unfold A69 at hp
 refine Eq.trans (b:=(let z1:=A0W (decide ((a2.size:Int)≤(20:Int)));cond (!(J6 a0 (1:Int) (3:Int))) (some (A0W false)) (cond (a0==(2:Int)) (cond (!(a2.toList==(⟨#[]⟩:ByteArray).toList)) (some (A0W false)) (cond (A6z a1) (cond (A1n a1) (some z1) (some (A0W false))) none)) (cond (A6z a1) (cond (A1n a1) (some z1) (some (A0W false))) none)))) (by kernel_rfl) ?_
 exact (L4 A0W (fun _h=>rfl) (fun _h=>(L4 A0W (fun _h=>(L4 A0W (fun _h=>rfl) (fun _h=>(cndT (by first | rfl | decide | exact hp | (simp only [Bool.and_eq_true] at hp;simp only [hp];done) | (simp [*];done) | (simp [okL] at hp;simp [okL,MAXB];omega) | (simp_all;done) | (simp at *;omega)) (fun _h=>(L4 A0W (fun _h=>rfl) (fun _h=>rfl))))))) (fun _h=>(cndT (by first | rfl | decide | exact hp | (simp only [Bool.and_eq_true] at hp;simp only [hp];done) | (simp [*];done) | (simp [okL] at hp;simp [okL,MAXB];omega) | (simp_all;done) | (simp at *;omega)) (fun _h=>(L4 A0W (fun _h=>rfl) (fun _h=>rfl))))))))
theorem B8J:aPP 118 (sumOf A8I B0o B3D):=pcD true G13 hlz B7I
noncomputable def S14:Tab:=Tab.add S13 118 (lift (sumOf A8I B0o B3D))
noncomputable def B9U:FuncId→Bool:=qadd B9T 118
theorem G14:aPG S14 B9U:=G13.addQ B8J (cbl Try.f118) (fun _=>rfl)

abbrev B9F:List Sh:=.junk::.junk::.junk::.junk::.junk::B4Z
abbrev B8Y:List Sh:=.junk::B9F
abbrev C1K:List Sh:=.junk::.junk::B8Y
abbrev u35:=((),(),(),(),(),(),u29)
abbrev u34:=((),(),(),(),(),u29)
abbrev u37:=((),(),u35)
abbrev B8R:List AV:=.junk::.junk::.junk::.junk::.junk::.junk::B6h
abbrev C0U:List AV:=.junk::.junk::.junk::.junk::.junk::B6h
abbrev C1A:List AV:=.junk::.junk::B8R
noncomputable def A3o (l:Lq1) (i:Nat):Bool:=let z1:=l.getD i dOp;A6L z1.1 z1.2.1 z1.2.2&&(decide (i=0)||Op.bytesLess (l.getD (i - 1) dOp).2.1.toList z1.2.1.toList)
abbrev A5Y:List PSh:=[.t tq2]
abbrev V8:SS:=⟨(.t false tq2::.junk::.junk::tI::B9F),[]⟩
abbrev A4G:SS:=⟨(.junk::.junk::.t true .bool::B8Y),[]⟩
abbrev A8D:SS:=⟨(.t false tq2::C1K),[]⟩
noncomputable def A6Q (x0:Lq1) (x3:Int):RT V8.den:=let z1:=x0.getD x3.toNat ((0:Int),(bE,bE));let z2:=IntKind.wrap .i64 (x3 - (1:Int));let z3:=decide (0≤x3∧x3<(x0.length:Int));(.br (decide (x3<(x0.length:Int))) (.br z3 (.br (A69 (z1.1) ((z1.2).1) ((z1.2).2)) (.br (!(A6L (z1.1) ((z1.2).1) ((z1.2).2))) (.done .ret A4G (((),(),false,u35),())) (.br (decide (x3 > (0:Int))) (.br (decide (0≤z2∧z2<(x0.length:Int))) (.br z3 (.br (!(Op.bytesLess (((x0.getD (z2.toNat) ((0:Int),(bE,bE))).2).1).toList ((z1.2).1).toList)) (.done .ret A4G (((),(),false,u35),())) (.next ((x0,(),(),IntKind.wrap .i64 (x3+(1:Int)),u34),()))) .fail) .fail) (.next ((x0,(),(),IntKind.wrap .i64 (x3+(1:Int)),u34),())))) .fail) .fail) (.done (.exit 0) A8D ((x0,u37),())))
noncomputable def A2T (x0:Lq1) (x3:Int):CT:=(.br (decide (0≤x3)&&D6 x0) (.br (allF (A3o x0) (x0.length - x3.toNat) x3.toNat) (.done (.exit 0) A8D ((x0,u37),())) (.done .ret A4G (((),(),false,u35),()))) .fail)
noncomputable abbrev A1Z:V8.den→RT V8.den:=(fun d=>A6Q d.1.1 d.1.2.2.2.1)
noncomputable abbrev B0I (x0:Lq1) (x3:Int):V8.den:=((x0,(),(),x3,u34),())
noncomputable def A7q:Code:=((loopsIn 0 (bodyOf Try.f73)).getD 0 (0,.skip)).2
theorem B5S (x0:Lq1) (x3:Int):(A2T x0 x3).val (D:=V8.den)=.fail∨Runs A1Z (B0I x0 x3) (A2T x0 x3).val:=by
 cases hc:(decide (0≤x3)&&D6 x0) with
 | false=>left;simp only [A2T,CT.val,hc,cond_false]
 | true =>
  right
  simp only [A2T,CT.val,hc,cond_true]
  simp only [Bool.and_eq_true,decide_eq_true_eq] at hc
  obtain ⟨i,rfl⟩:=Int.eq_ofNat_of_zero_le hc.1
  have hs:=Q0 hc.2
  simp only [Int.toNat_natCast]
  refine Runs.scan (fun j=>B0I x0 (j:Int)) (x0.length) (A3o x0) (fun i hi=>?_) (fun i hi=>?_) ⟨_,_,_,rfl,by simp⟩ ⟨_,_,_,rfl,by simp⟩ _ _ rfl
  ·
   have h0a:decide ((i:Int)<(x0.length:Int))=true:=decide_eq_true (by omega)
   have h0b:decide (0≤(i:Int)∧(i:Int)<(x0.length:Int))=true:=decide_eq_true (by omega)
   simp only [A1Z,A6Q,RT.val,h0a,h0b,cond_true,wrapS i (by omega),Int.toNat_natCast]
   have hq:A69 (x0.getD i dOp).1 (x0.getD i dOp).2.1 (x0.getD i dOp).2.2=true:=(A3g hc.2 i hi).1
   simp only [dOp] at hq
   simp only [hq,cond_true,A3o,dOp]
   cases A6L (x0.getD i ((0:Int),((⟨#[]⟩:ByteArray),(⟨#[]⟩:ByteArray)))).1 (x0.getD i ((0:Int),((⟨#[]⟩:ByteArray),(⟨#[]⟩:ByteArray)))).2.1 (x0.getD i ((0:Int),((⟨#[]⟩:ByteArray),(⟨#[]⟩:ByteArray)))).2.2 with
   | false=>rfl
   | true =>
    cases i with
    | zero=>rfl
    | succ i =>
     have h3:decide (((i+1:Nat):Int) > 0)=true:=decide_eq_true (by omega)
     have h4:IntKind.wrap .i64 (((i+1:Nat):Int) - 1)=(i:Int):=by have:=wrap64 (n:=((i+1:Nat):Int) - 1) (by omega) (by omega);omega
     have h5:decide (0≤(i:Int)∧(i:Int)<(x0.length:Int))=true:=decide_eq_true (by omega)
     have h6:decide (i+1=0)=false:=by simp
     simp only [h3,h4,h5,h6,cond_true,Bool.true_and,Bool.false_or,Int.toNat_natCast,Nat.add_sub_cancel,Bool.not_true,cond_false]
     cases Op.bytesLess (x0.getD i ((0:Int),((⟨#[]⟩:ByteArray),(⟨#[]⟩:ByteArray)))).2.1.toList (x0.getD (i+1) ((0:Int),((⟨#[]⟩:ByteArray),(⟨#[]⟩:ByteArray)))).2.1.toList<;>rfl
  ·have h1:decide ((i:Int)<(x0.length:Int))=false:=decide_eq_false (by omega)
   simp only [A1Z,A6Q,RT.val,h1,cond_false]
noncomputable def B0D (x0:Lq1) (x3:Int):Option (Ex×St):=let z1:=x0.getD x3.toNat ((0:Int),(bE,bE));let z2:=(⟨((.t false tq2 x0)::.junk::.junk::(ti (IntKind.wrap .i64 (x3+(1:Int))))::C0U),[],0,[]⟩:St);let z3:=IntKind.wrap .i64 (x3 - (1:Int));let z4:=(⟨(.junk::.junk::(.t true .bool false)::B8R),[],0,[]⟩:St);let z5:=decide (0≤x3∧x3<(x0.length:Int));(cond (decide (x3<(x0.length:Int))) (cond z5 (cond (A69 (z1.1) ((z1.2).1) ((z1.2).2)) (cond (!(A6L (z1.1) ((z1.2).1) ((z1.2).2))) (some (.ret,z4)) (cond (decide (x3 > (0:Int))) (cond (decide (0≤z3∧z3<(x0.length:Int))) (cond z5 (cond (!(Op.bytesLess (((x0.getD (z3.toNat) ((0:Int),(bE,bE))).2).1).toList ((z1.2).1).toList)) (some (.ret,z4)) (some (.normal,z2))) none) none) (some (.normal,z2)))) none) none) (some ((.exit 0),(⟨((.t false tq2 x0)::C1A),[],0,[]⟩:St))))
theorem B3V:RdA G14 aLn 0 A7q V8 0 [] (kepts [2] [(0,[0])]) (fun d=>B0D d.1.1 d.1.2.2.2.1):=by
 intro d
 kernel_rfl
theorem B3Z:∀ d:V8.den,(fun d=>B0D d.1.1 d.1.2.2.2.1) d=(A1Z d).opt 0 []:=by
 intro d
 kernel_rfl
noncomputable abbrev A9H:St→Option Tree:=V8.say 0 [] [] (fun d=>A2T d.1.1 d.1.2.2.2.1)
theorem B42:aPL A9H A7q:=SS.wp2 hlz [] A1Z B3V B3Z _ (fun d=>B5S d.1.1 d.1.2.2.2.1)
noncomputable def I5 (a0:Lq1):Bool:=(cond (allF (A3o a0) (a0.length - (0:Int).toNat) (0:Int).toNat) (J6 (a0.length:Int) (1:Int) (8:Int)) false)
noncomputable abbrev A8R (r:Bool):AV×List AObj:=((.t true .bool r),[])
noncomputable abbrev B1A:pshsDen A5Y→AV×List AObj:=fun d=>A8R (I5 d.1)
noncomputable def X1 (a0:Lq1):Bool:=D6 a0
noncomputable abbrev A8u:pshsDen A5Y→Bool:=fun d=>X1 d.1
noncomputable abbrev B7Q:Nat→St→Option Tree:=fun b=>match b with | 0=>A9H | _=>fun _=>none
theorem B6u:RunP true G14 (B7Q) Try.f73 A5Y A8u B1A:=by
 rintro ⟨a0,_⟩ hp
 change X1 a0=true at hp
 unfold X1 at hp
 refine Eq.trans (b:=(cond (decide (0≤(0:Int))&&D6 a0) (cond (allF (A3o a0) (a0.length - (0:Int).toNat) (0:Int).toNat) (some (A8R (J6 (a0.length:Int) (1:Int) (8:Int)))) (some (A8R false))) none)) (by kernel_rfl) ?_
 exact (cndT (by first | rfl | decide | exact hp | (simp only [Bool.and_eq_true] at hp;simp only [hp];done) | (simp [*];done) | (simp [okL] at hp;simp [okL,MAXB];omega) | (simp_all;done) | (simp at *;omega)) (fun _h=>(L4 A8R (fun _h=>rfl) (fun _h=>rfl))))
theorem B7Z:aPP 73 (sumOf A5Y A8u B1A):=pcD true G14 (hl1 (i:=0) (by kernel_rfl) B42) B6u
noncomputable def S15:Tab:=Tab.add S14 73 (lift (sumOf A5Y A8u B1A))
noncomputable def B9V:FuncId→Bool:=qadd B9U 73
theorem G15:aPG S15 B9V:=G14.addQ B7Z (cbl Try.f73) (fun _=>rfl)

abbrev A5Z:List PSh:=[.agg [(.int .i64),(.int .i64),tq2]]
noncomputable def E1 (a0 a1:Int) (a2:Lq1):Bool:=(cond (!(J6 a1 (1:Int) (1000000:Int))) false (cond (a0==(1:Int)) (I5 a2) (cond (a0==(2:Int)) ((a2.length:Int)==(0:Int)) (cond (a0==(3:Int)) ((a2.length:Int)==(0:Int)) false))))
noncomputable abbrev A0V (r:Bool):AV×List AObj:=((.t true .bool r),[])
noncomputable abbrev B1B:pshsDen A5Z→AV×List AObj:=fun d=>A0V (E1 d.1.1 d.1.2.1 d.1.2.2.1)
noncomputable def O5 (a0 a1:Int) (a2:Lq1):Bool:=D6 a2
noncomputable abbrev A8v:pshsDen A5Z→Bool:=fun d=>O5 d.1.1 d.1.2.1 d.1.2.2.1
theorem B6v:RunP true G15 aLn Try.f26 A5Z A8v B1B:=by
 rintro ⟨⟨a0,⟨a1,⟨a2,_⟩⟩⟩,_⟩ hp
 change O5 a0 a1 a2=true at hp
 unfold O5 at hp
 refine Eq.trans (b:=(let z1:=A0V ((a2.length:Int)==(0:Int));cond (!(J6 a1 (1:Int) (1000000:Int))) (some (A0V false)) (cond (a0==(1:Int)) (cond (X1 a2) (some (A0V (I5 a2))) none) (cond (a0==(2:Int)) (some z1) (cond (a0==(3:Int)) (some z1) (some (A0V false))))))) (by kernel_rfl) ?_
 exact (L4 A0V (fun _h=>rfl) (fun _h=>(L4 A0V (fun _h=>(cndT (by first | rfl | decide | exact hp | (simp only [Bool.and_eq_true] at hp;simp only [hp];done) | (simp [*];done) | (simp [okL] at hp;simp [okL,MAXB];omega) | (simp_all;done) | (simp at *;omega)) (fun _h=>rfl))) (fun _h=>(L4 A0V (fun _h=>rfl) (fun _h=>(L4 A0V (fun _h=>rfl) (fun _h=>rfl))))))))
theorem B70:aPP 26 (sumOf A5Z A8v B1B):=pcD true G15 hlz B6v
noncomputable def S16:Tab:=Tab.add S15 26 (lift (sumOf A5Z A8v B1B))
noncomputable def B9W:FuncId→Bool:=qadd B9V 26
theorem G16:aPG S16 B9W:=G15.addQ B70 (cbl Try.f26) (fun _=>rfl)

abbrev A4n:List PSh:=[.t B4,.t (.int .i64)]
abbrev R0:SS:=⟨(.junk::tI::.junk::.junk::.junk::.all 0 1::B8V),[.rows 5 true (.int .u8)]⟩
abbrev A3L:SS:=⟨(.junk::tI::.junk::.junk::.junk::.all 0 1::B8V),[.rows 5 true (.int .u8)]⟩
noncomputable def A2C (x1:Int) (h0:List Int):RT R0.den:=let z1:=ior .i64 (iand .i64 x1 (127:Int)) (128:Int);(.br (decide (x1 > (127:Int))) (.br (decide ((h0.length+[IntKind.wrap .u8 z1].length)*1≤MAXB)) (.next (((),Int.fdiv x1 (2 ^ (7)),u28),(h0++[IntKind.wrap .u8 z1],()))) .fail) (.done (.exit 0) A3L (((),x1,u28),(h0,()))))
noncomputable def A1J (x1:Int) (h0:List Int):CT:=(.br (decide (0≤x1∧x1≤1000000000)&&decide (h0.length≤35184372088832)) (.done (.exit 0) A3L (((),((nX x1).2),u28),((h0++(nX x1).1),()))) .fail)
noncomputable abbrev T8:R0.den→RT R0.den:=(fun d=>A2C d.1.2.1 d.2.1)
noncomputable abbrev A5d (x1:Int) (h0:List Int):R0.den:=(((),x1,u28),(h0,()))
noncomputable def A57:Code:=((loopsIn 0 (bodyOf Try.f63)).getD 0 (0,.skip)).2
theorem B4r (x1:Int) (h0:List Int):(A1J x1 h0).val (D:=R0.den)=.fail∨Runs T8 (A5d x1 h0) (A1J x1 h0).val:=by
 cases hc:(decide (0≤x1∧x1≤1000000000)&&decide (h0.length≤35184372088832)) with
 | false=>left;simp only [A1J,CT.val,hc,cond_false]
 | true =>
  right
  simp only [A1J,CT.val,hc,cond_true]
  simp only [Bool.and_eq_true,decide_eq_true_eq] at hc
  rw [B6O]
  have key:∀ (k:Nat) (x1:Int) (h0:List Int),0≤x1→x1<128 ^ (k+1)→h0.length+k≤70368744177664→Runs T8 (A5d x1 h0) (((.done (.exit 0) A3L (((),((hiF A2q k x1).2),u28),((h0++(hiF A2q k x1).1),()))):CT).val (D:=R0.den)):=by
   intro k
   induction k with
   | zero =>
    intro x h h1 h2 h3
    have e1:decide (x > 127)=false:=decide_eq_false (by simp at h2;omega)
    refine .done (by simp) ?_
    simp only [T8,A2C,RT.val,e1,cond_false,hiF,List.append_nil]
   | succ k ih =>
    intro x h h1 h2 h3
    rw [Int.pow_succ] at h2
    by_cases hx:x > 127
    ·have e1:decide (x > 127)=true:=decide_eq_true hx
     have e2:decide ((h.length+[A2q x].length)*1≤MAXB)=true:=decide_eq_true (by simp [MAXB];omega)
     simp only [A2q] at e2
     have:=ih (Int.fdiv x (2 ^ 7)) (h++[A2q x]) (by rw [A65];omega) (by rw [A65];omega) (by simp;omega)
     refine .next (d':=A5d (Int.fdiv x (2 ^ 7)) (h++[A2q x])) ?_ ?_
     ·simp only [T8,A2C,RT.val,e1,e2,cond_true];rfl
     ·have e3:hiF A2q (k+1) x=(A2q x::(hiF A2q k (Int.fdiv x (2 ^ 7))).1,(hiF A2q k (Int.fdiv x (2 ^ 7))).2):=by simp only [hiF,e1,cond_true]
      rw [e3]
      simpa [List.append_assoc] using this
    ·have e1:decide (x > 127)=false:=decide_eq_false hx
     refine .done (by simp) ?_
     simp only [T8,A2C,RT.val,e1,cond_false,hiF,List.append_nil]
  exact key 4 x1 h0 hc.1.1 (by have:=hc.1.2;simp;omega) (by have:=hc.2;omega)
theorem B2E:RdA G16 aLn 0 A57 R0 0 [] (kepts [] [(0,[1,5])]) (fun d=>(T8 d).opt 0 []):=by
 intro d
 kernel_rfl
noncomputable abbrev A74:St→Option Tree:=R0.say 0 [] [] (fun d=>A1J d.1.2.1 d.2.1)
theorem B3Q:aPL A74 A57:=SS.wp2 hlz [] T8 B2E (fun d=>rfl) _ (fun d=>B4r d.1.2.1 d.2.1)
noncomputable def C0 (a0:List Int) (a1:Int):List Int:=let z1:=([]:List Int)++a0;let z2:=nX (1000000000:Int);(cond (decide (a1 > (1000000000:Int))) ((z1++z2.1)++[IntKind.wrap .u8 (z2.2)]) (cond (decide (a1<(0:Int))) ((z1++(nX (0:Int)).1)++[IntKind.wrap .u8 ((nX (0:Int)).2)]) ((z1++(nX a1).1)++[IntKind.wrap .u8 ((nX a1).2)])))
noncomputable abbrev A2F (r:List Int):AV×List AObj:=((.all 0 1),[(.rows 5 true (.int .u8) r)])
noncomputable abbrev B0c:pshsDen A4n→AV×List AObj:=fun d=>A2F (C0 d.1 d.2.1)
noncomputable def C3 (a0:List Int) (a1:Int):Bool:=decide (a0.length≤17592186044416)
noncomputable abbrev A6v:pshsDen A4n→Bool:=fun d=>C3 d.1 d.2.1
noncomputable abbrev B61:Nat→St→Option Tree:=fun b=>match b with | 0=>A74 | _=>fun _=>none
theorem B5v:RunP false G16 (B61) Try.f63 A4n A6v B0c:=by
 rintro ⟨(a0:List Int),⟨(a1:Int),_⟩⟩ hp
 change C3 a0 a1=true at hp
 unfold C3 at hp
 refine Eq.trans (b:=(let z1:=([]:List Int)++a0;let z2:=nX (1000000000:Int);let z3:=nX (0:Int);cond (decide ((([]:List Int).length+a0.length)*1≤MAXB)) (cond (decide (a1 > (1000000000:Int))) (cond (decide (0≤(1000000000:Int)∧(1000000000:Int)≤1000000000)&&decide (z1.length≤35184372088832)) (cond (decide (((z1++z2.1).length+[IntKind.wrap .u8 (z2.2)].length)*1≤MAXB)) (some (A2F ((z1++z2.1)++[IntKind.wrap .u8 (z2.2)]))) none) none) (cond (decide (a1<(0:Int))) (cond (decide (0≤(0:Int)∧(0:Int)≤1000000000)&&decide (z1.length≤35184372088832)) (cond (decide (((z1++z3.1).length+[IntKind.wrap .u8 (z3.2)].length)*1≤MAXB)) (some (A2F ((z1++z3.1)++[IntKind.wrap .u8 (z3.2)]))) none) none) (cond (decide (0≤a1∧a1≤1000000000)&&decide (z1.length≤35184372088832)) (cond (decide (((z1++(nX a1).1).length+[IntKind.wrap .u8 ((nX a1).2)].length)*1≤MAXB)) (some (A2F ((z1++(nX a1).1)++[IntKind.wrap .u8 ((nX a1).2)]))) none) none))) none)) (by kernel_rfl) ?_
 exact (cndT (by have h1:=I8 a1;have h2:=I8 0;have h3:=I8 1000000000;simp only [decide_eq_true_eq,decide_eq_false_iff_not,Bool.and_eq_true] at *;(try simp [MAXB])<;>omega) (fun _h=>(L4 A2F (fun _h=>(cndT (by have h1:=I8 a1;have h2:=I8 0;have h3:=I8 1000000000;simp only [decide_eq_true_eq,decide_eq_false_iff_not,Bool.and_eq_true] at *;(try simp [MAXB])<;>omega) (fun _h=>(cndT (by have h1:=I8 a1;have h2:=I8 0;have h3:=I8 1000000000;simp only [decide_eq_true_eq,decide_eq_false_iff_not,Bool.and_eq_true] at *;(try simp [MAXB])<;>omega) (fun _h=>rfl))))) (fun _h=>(L4 A2F (fun _h=>(cndT (by have h1:=I8 a1;have h2:=I8 0;have h3:=I8 1000000000;simp only [decide_eq_true_eq,decide_eq_false_iff_not,Bool.and_eq_true] at *;(try simp [MAXB])<;>omega) (fun _h=>(cndT (by have h1:=I8 a1;have h2:=I8 0;have h3:=I8 1000000000;simp only [decide_eq_true_eq,decide_eq_false_iff_not,Bool.and_eq_true] at *;(try simp [MAXB])<;>omega) (fun _h=>rfl))))) (fun _h=>(cndT (by have h1:=I8 a1;have h2:=I8 0;have h3:=I8 1000000000;simp only [decide_eq_true_eq,decide_eq_false_iff_not,Bool.and_eq_true] at *;(try simp [MAXB])<;>omega) (fun _h=>(cndT (by have h1:=I8 a1;have h2:=I8 0;have h3:=I8 1000000000;simp only [decide_eq_true_eq,decide_eq_false_iff_not,Bool.and_eq_true] at *;(try simp [MAXB])<;>omega) (fun _h=>rfl))))))))))
theorem B7j:aPP 63 (sumOf A4n A6v B0c):=pcD false G16 (hl1 (i:=0) (by kernel_rfl) B3Q) B5v
noncomputable def S17:Tab:=Tab.add S16 63 (lift (sumOf A4n A6v B0c))
noncomputable def B9X:FuncId→Bool:=B9W
theorem G17:aPG S17 B9X:=G16.add B7j (cbl Try.f63) (by kernel_rfl)
theorem X3 (b:List Int) (n:Int):C0 b n=b++A7 (V3 n):=by
 simp only [C0,A7,V3]
 by_cases h1:n > 1000000000
 ·simp [h1]
 ·by_cases h2:n<0
  ·simp [h1,h2]
  ·simp [h1,h2]
theorem X4 (b:List Int) (n:Int):(C0 b n).length≤b.length+5:=by
 rw [X3,List.length_append]
 have:=L8 (V3 n)
 omega

abbrev A2O:List PSh:=[.t B4,.t .str]
noncomputable def U5 (a0:List Int) (a1:ByteArray):List Int:=((C0 a0 (a1.size:Int))++strInts a1)
noncomputable abbrev B1r (r:List Int):AV×List AObj:=((.all 0 1),[(.rows 5 true (.int .u8) r)])
noncomputable abbrev A8j:pshsDen A2O→AV×List AObj:=fun d=>B1r (U5 d.1 d.2.1)
noncomputable def M1 (a0:List Int) (a1:ByteArray):Bool:=decide (a0.length≤8796093022208)&&okS a1
noncomputable abbrev A5i:pshsDen A2O→Bool:=fun d=>M1 d.1 d.2.1
theorem B4h:RunP false G17 aLn Try.f108 A2O A5i A8j:=by
 rintro ⟨(a0:List Int),⟨(a1:ByteArray),_⟩⟩ hp
 change M1 a0 a1=true at hp
 unfold M1 at hp
 refine Eq.trans (b:=(let z1:=C0 a0 (a1.size:Int);cond (C3 a0 (a1.size:Int)) (cond (decide (z1.length+a1.size≤MAXB)) (some (B1r (z1++strInts a1))) none) none)) (by kernel_rfl) ?_
 exact (cndT (by have h1:=X4 a0 (a1.size:Int);simp only [C3,okS,decide_eq_true_eq,decide_eq_false_iff_not,Bool.and_eq_true] at *;(try simp [MAXB])<;>omega) (fun _h=>(cndT (by have h1:=X4 a0 (a1.size:Int);simp only [C3,okS,decide_eq_true_eq,decide_eq_false_iff_not,Bool.and_eq_true] at *;(try simp [MAXB])<;>omega) (fun _h=>rfl))))
theorem B50:aPP 108 (sumOf A2O A5i A8j):=pcD false G17 hlz B4h
noncomputable def S18:Tab:=Tab.add S17 108 (lift (sumOf A2O A5i A8j))
noncomputable def B9Y:FuncId→Bool:=B9X
theorem G18:aPG S18 B9Y:=G17.add B50 (cbl Try.f108) (by kernel_rfl)
theorem A6C (b:List Int) (s:ByteArray) (h:okS s=true):U5 b s=b++H9 s:=by
 simp only [okS,decide_eq_true_eq] at h
 simp only [U5,X3,H9,List.append_assoc]
 rw [K5 (by omega) (by omega)]
theorem A9E (b:List Int) (s:ByteArray) (h:okS s=true):(U5 b s).length≤b.length+5+s.size:=by
 rw [A6C b s h,List.length_append]
 have:=A7b s
 omega

abbrev C1J:List Sh:=.junk::B8Y
abbrev u40:=((),(),(),u37)
abbrev C1z:List AV:=.junk::B8R
noncomputable def A8x (l:Lq1) (i:Nat) (h:List Int):List Int:=let z1:=l.getD i dOp;U5 (U5 (C0 h z1.1) z1.2.1) z1.2.2
abbrev A4o:List PSh:=[.t tq2]
abbrev R1:SS:=⟨(.t false tq2::.junk::.junk::.all 0 1::tI::B8Y),[.rows 5 true (.int .u8)]⟩
abbrev A3M:SS:=⟨(.junk::.junk::.junk::.all 0 1::C1J),[.rows 5 true (.int .u8)]⟩
noncomputable def A5z (x0:Lq1) (x4:Int) (h0:List Int):RT R1.den:=let z1:=x0.getD x4.toNat ((0:Int),(bE,bE));let z2:=decide (0≤x4∧x4<(x0.length:Int));let z3:=U5 (C0 h0 (z1.1)) ((z1.2).1);(.br (decide (x4<(x0.length:Int))) (.br z2 (.br z2 (.br z2 (.br (C3 h0 (z1.1)) (.br (M1 (C0 h0 (z1.1)) ((z1.2).1)) (.br (M1 z3 ((z1.2).2)) (.next ((x0,(),(),(),IntKind.wrap .i64 (x4+(1:Int)),u35),((U5 z3 ((z1.2).2)),()))) .fail) .fail) .fail) .fail) .fail) .fail) (.done (.exit 0) A3M ((u40),(h0,()))))
noncomputable def A1K (x0:Lq1) (x4:Int) (h0:List Int):CT:=(.br (decide (0≤x4)&&(decide (h0.length≤4194304*(x4.toNat+1))&&D6 x0)) (.done (.exit 0) A3M ((u40),((foldN (A8x x0) (x0.length - x4.toNat) x4.toNat h0),()))) .fail)
noncomputable abbrev Y8:R1.den→RT R1.den:=(fun d=>A5z d.1.1 d.1.2.2.2.2.1 d.2.1)
noncomputable abbrev A9h (x0:Lq1) (x4:Int) (h0:List Int):R1.den:=((x0,(),(),(),x4,u35),(h0,()))
noncomputable def A58:Code:=((loopsIn 0 (bodyOf Try.f64)).getD 0 (0,.skip)).2
theorem B4s (x0:Lq1) (x4:Int) (h0:List Int):(A1K x0 x4 h0).val (D:=R1.den)=.fail∨Runs Y8 (A9h x0 x4 h0) (A1K x0 x4 h0).val:=by
 cases hc:(decide (0≤x4)&&(decide (h0.length≤4194304*(x4.toNat+1))&&D6 x0)) with
 | false=>left;simp only [A1K,CT.val,hc,cond_false]
 | true =>
  right
  simp only [A1K,CT.val,hc,cond_true]
  simp only [Bool.and_eq_true,decide_eq_true_eq] at hc
  obtain ⟨i,rfl⟩:=Int.eq_ofNat_of_zero_le hc.1
  have hs:=Q0 hc.2.2
  have hb0:=hc.2.1
  simp only [Int.toNat_natCast] at hb0 ⊢
  refine Runs.foldN (step:=Y8) (fun j b=>A9h x0 (j:Int) b) (fun i b=>b.length≤4194304*(i+1)) (x0.length) (A8x x0)
   (fin:=fun b=>((.done (.exit 0) A3M ((u40),(b,()))):CT).val) (fun i b hi hb=>?_) (fun i b hi hb=>?_) (x0.length - i) i h0 rfl hb0
  ·obtain ⟨k1,k2⟩:=A3g hc.2.2 i hi
   have l1:=X4 b (x0.getD i dOp).1
   have l2:=A9E (C0 b (x0.getD i dOp).1) (x0.getD i dOp).2.1 k1
   have l3:=A9E (U5 (C0 b (x0.getD i dOp).1) (x0.getD i dOp).2.1) (x0.getD i dOp).2.2 k2
   have m1:=okS_le k1
   have m2:=okS_le k2
   have q1:C3 b (x0.getD i dOp).1=true:=by simp only [C3,decide_eq_true_eq];omega
   have q2:M1 (C0 b (x0.getD i dOp).1) (x0.getD i dOp).2.1=true:=by simp only [M1,k1,Bool.and_true,decide_eq_true_eq];omega
   have q3:M1 (U5 (C0 b (x0.getD i dOp).1) (x0.getD i dOp).2.1) (x0.getD i dOp).2.2=true:=by simp only [M1,k2,Bool.and_true,decide_eq_true_eq];omega
   refine ⟨by simp only [A8x];omega,?_⟩
   have h0a:decide ((i:Int)<(x0.length:Int))=true:=decide_eq_true (by omega)
   have h0b:decide (0≤(i:Int)∧(i:Int)<(x0.length:Int))=true:=decide_eq_true (by omega)
   simp only [dOp] at q1 q2 q3
   simp only [Y8,A5z,RT.val,h0a,h0b,cond_true,wrapS i (by omega),Int.toNat_natCast,q1,q2,q3]
   rfl
  ·have h1:decide ((i:Int)<(x0.length:Int))=false:=decide_eq_false (by omega)
   exact ⟨by simp only [Y8,A5z,RT.val,h1,cond_false];rfl,_,_,_,rfl,by simp⟩
noncomputable def A9d (x0:Lq1) (x4:Int) (h0:List Int):Option (Ex×St):=let z1:=x0.getD x4.toNat ((0:Int),(bE,bE));let z2:=decide (0≤x4∧x4<(x0.length:Int));let z3:=U5 (C0 h0 (z1.1)) ((z1.2).1);(cond (decide (x4<(x0.length:Int))) (cond z2 (cond z2 (cond z2 (cond (C3 h0 (z1.1)) (cond (M1 (C0 h0 (z1.1)) ((z1.2).1)) (cond (M1 z3 ((z1.2).2)) (some (.normal,(⟨((.t false tq2 x0)::.junk::.junk::(.all 0 1)::(ti (IntKind.wrap .i64 (x4+(1:Int))))::B8R),[(.rows 5 true (.int .u8) (U5 z3 ((z1.2).2)))],0,[]⟩:St))) none) none) none) none) none) none) (some ((.exit 0),(⟨(.junk::.junk::.junk::(.all 0 1)::C1z),[(.rows 5 true (.int .u8) h0)],0,[]⟩:St))))
theorem B2F:RdA G18 aLn 0 A58 R1 0 [] (kepts [] [(0,[3])]) (fun d=>A9d d.1.1 d.1.2.2.2.2.1 d.2.1):=by
 intro d
 kernel_rfl
theorem B2Q:∀ d:R1.den,(fun d=>A9d d.1.1 d.1.2.2.2.2.1 d.2.1) d=(Y8 d).opt 0 []:=by
 intro d
 kernel_rfl
noncomputable abbrev A75:St→Option Tree:=R1.say 0 [] [] (fun d=>A1K d.1.1 d.1.2.2.2.2.1 d.2.1)
theorem B3R:aPL A75 A58:=SS.wp2 hlz [] Y8 B2F B2Q _ (fun d=>B4s d.1.1 d.1.2.2.2.2.1 d.2.1)
noncomputable def A05 (a0:Lq1):List Int:=(cond (!(I5 a0)) ([]:List Int) (foldN (A8x a0) (a0.length - (0:Int).toNat) (0:Int).toNat (C0 ([]:List Int) (a0.length:Int))))
noncomputable abbrev A63 (r:List Int):AV×List AObj:=((.all 0 1),[(.rows 5 true (.int .u8) r)])
noncomputable abbrev B0d:pshsDen A4o→AV×List AObj:=fun d=>A63 (A05 d.1)
noncomputable def A1k (a0:Lq1):Bool:=D6 a0
noncomputable abbrev A6w:pshsDen A4o→Bool:=fun d=>A1k d.1
noncomputable abbrev B62:Nat→St→Option Tree:=fun b=>match b with | 0=>A75 | _=>fun _=>none
theorem B5w:RunP false G18 (B62) Try.f64 A4o A6w B0d:=by
 rintro ⟨(a0:Lq1),_⟩ hp
 change A1k a0=true at hp
 unfold A1k at hp
 refine Eq.trans (b:=(let z2:=([]:List Int);let z1:=C0 z2 (a0.length:Int);cond (X1 a0) (cond (!(I5 a0)) (some (A63 z2)) (cond (C3 z2 (a0.length:Int)) (cond (decide (0≤(0:Int))&&(decide (z1.length≤4194304*((0:Int).toNat+1))&&D6 a0)) (some (A63 (foldN (A8x a0) (a0.length - (0:Int).toNat) (0:Int).toNat z1))) none) none)) none)) (by kernel_rfl) ?_
 exact (cndT (by have h1:=X4 [] (a0.length:Int);have hs:=Q0 hp;simp only [X1,C3,hp,Bool.and_true,Bool.true_and,Bool.and_eq_true,decide_eq_true_eq]<;>(try simp only [List.length_nil,Int.toNat_zero,Int.le_refl,true_and] at h1 ⊢)<;>omega) (fun _h=>(L4 A63 (fun _h=>rfl) (fun _h=>(cndT (by have h1:=X4 [] (a0.length:Int);have hs:=Q0 hp;simp only [X1,C3,hp,Bool.and_true,Bool.true_and,Bool.and_eq_true,decide_eq_true_eq]<;>(try simp only [List.length_nil,Int.toNat_zero,Int.le_refl,true_and] at h1 ⊢)<;>omega) (fun _h=>(cndT (by have h1:=X4 [] (a0.length:Int);have hs:=Q0 hp;simp only [X1,C3,hp,Bool.and_true,Bool.true_and,Bool.and_eq_true,decide_eq_true_eq]<;>(try simp only [List.length_nil,Int.toNat_zero,Int.le_refl,true_and] at h1 ⊢)<;>omega) (fun _h=>rfl))))))))
theorem B7k:aPP 64 (sumOf A4o A6w B0d):=pcD false G18 (hl1 (i:=0) (by kernel_rfl) B3R) B5w
noncomputable def S19:Tab:=Tab.add S18 64 (lift (sumOf A4o A6w B0d))
noncomputable def B9Z:FuncId→Bool:=B9Y
theorem G19:aPG S19 B9Z:=G18.add B7k (cbl Try.f64) (by kernel_rfl)
theorem B6G (l:Lq1) (ho:D6 l=true):A05 l=cond (!(I5 l)) [] (A7 (V3 (l.length:Int))++(l.map opB).flatten):=by
 simp only [A05]
 congr 1
 have:=B26 opB dOp l (A8x l) (fun i h hi=>by
  obtain ⟨k1,k2⟩:=A3g ho i hi
  simp only [A8x,A6C _ _ k1,A6C _ _ k2,X3,opB,List.append_assoc]) l.length 0 (C0 [] (l.length:Int)) (by omega)
 rw [X3,List.nil_append,List.drop_zero] at this
 rw [← this]
 rw [X3,List.nil_append]
 rfl
abbrev B8W:List Sh:=.junk::.junk::B4Z
abbrev B8P:List AV:=.junk::.junk::B6h
abbrev A4m:List PSh:=[.t B4]
noncomputable def A22:Code:=((loopsIn 0 (bodyOf Try.f109)).getD 0 (0,.skip)).2
noncomputable def A23:Code:=((loopsIn 0 (bodyOf Try.f109)).getD 1 (0,.skip)).2
abbrev Q8:SS:=⟨(.t false B4::.junk::.junk::.all 0 1::B8W),[.rows 5 true (.int .u8)]⟩
abbrev A7l:SS:=⟨(.t false B4::.junk::.junk::.all 0 1::B8W),[.rows 5 true (.int .u8)]⟩
noncomputable def A9T (x0 h0:List Int):RT Q8.den:=(.br ((Int.tmod (h0.length:Int) (64:Int)) != (56:Int)) (.br (decide ((h0.length+[(0:Int)].length)*1≤MAXB)) (.next ((x0,u34),(h0++[(0:Int)],()))) .fail) (.done (.exit 0) A7l ((x0,u34),(h0,()))))
abbrev A1P:=(List Int)×(List Int)
abbrev A0t:=Nat×(List Int)×(List Int)
def A8X:A0t:=(99,([]:List Int),([]:List Int))
noncomputable def A2y (x0 h0:List Int):A1P ⊕ A0t:=(cond ((Int.tmod (h0.length:Int) (64:Int)) != (56:Int)) (cond (decide ((h0.length+[(0:Int)].length)*1≤MAXB)) (.inl (x0,h0++[(0:Int)])) (.inr A8X)) (.inr (0,x0,h0)))
noncomputable def D9 (x0 h0:List Int):A0t:=itX (fun v:A1P=>A2y v.1 v.2) A8X (x0,h0)
noncomputable def A4T (a:A0t):CT:=(.br (a.1==0) (.done (.exit 0) A7l ((a.2.1,u34),(a.2.2,()))) .fail)
noncomputable def B4A (x0 h0:List Int):CT:=A4T (D9 x0 h0)
noncomputable abbrev A5u:Q8.den→RT Q8.den:=(fun d=>A9T d.1.1 d.2.1)
noncomputable abbrev A9r (v:A1P):Q8.den:=((v.1,u34),(v.2,()))
theorem B39:(∀ v:A1P,(A9T v.1 v.2).val=relS A9r A4T (A2y v.1 v.2))∧∀ a:A0t,CEnd Q8.den (A4T a):=⟨fun v=>(relB (relB rfl rfl) rfl),fun a=>(cendB aCD cendF)⟩
noncomputable def A9b (x0 h0:List Int):Option (Ex×St):=(cond ((Int.tmod (h0.length:Int) (64:Int)) != (56:Int)) (cond (decide ((h0.length+[(0:Int)].length)*1≤MAXB)) (some (.normal,(⟨((.t false B4 x0)::.junk::.junk::(.all 0 1)::B8P),[(.rows 5 true (.int .u8) (h0++[(0:Int)]))],0,[]⟩:St))) none) (some ((.exit 0),(⟨((.t false B4 x0)::.junk::.junk::(.all 0 1)::B8P),[(.rows 5 true (.int .u8) h0)],0,[]⟩:St))))
theorem B2C:RdA G19 aLn 0 A22 Q8 0 [] (kepts [] [(0,[0,3])]) (fun d=>A9b d.1.1 d.2.1):=by
 intro d
 kernel_rfl
theorem B2O:∀ d:Q8.den,(fun d=>A9b d.1.1 d.2.1) d=(A5u d).opt 0 []:=by
 intro d
 kernel_rfl
noncomputable abbrev A72:St→Option Tree:=Q8.say 0 [] [] (fun d=>B4A d.1.1 d.2.1)
theorem B3O:aPL A72 A22:=SS.wp2 hlz [] A5u B2C B2O _ (fun d=>Runs.ofI2 (step:=A5u) A9r B39 rfl (d.1.1,d.2.1))
abbrev Q9:SS:=⟨(.junk::.junk::.junk::.all 0 1::tI::tI::B4Z),[.rows 5 true (.int .u8)]⟩
abbrev A7m:SS:=⟨(.junk::.junk::.junk::.all 0 1::B8W),[.rows 5 true (.int .u8)]⟩
noncomputable def A9U (x4 x5:Int) (h0:List Int):RT Q9.den:=(.br (decide (x5 ≥ (0:Int))) (.br (decide (0≤(IntKind.wrap .u64 x5))) (.br (decide ((h0.length+[IntKind.wrap .u8 (Int.fdiv x4 (2 ^ (min (Int.toNat (IntKind.wrap .u64 x5)) (IntKind.bits .i64))))].length)*1≤MAXB)) (.next (((),(),(),(),x4,IntKind.wrap .i64 (x5 - (8:Int)),u29),(h0++[IntKind.wrap .u8 (Int.fdiv x4 (2 ^ (min (Int.toNat (IntKind.wrap .u64 x5)) (IntKind.bits .i64))))],()))) .fail) .fail) (.done (.exit 2) A7m ((u35),(h0,()))))
abbrev A1Q:=(Int)×(Int)×(List Int)
abbrev A0u:=Nat×(List Int)
def A41:A0u:=(99,([]:List Int))
noncomputable def A2z (x4 x5:Int) (h0:List Int):A1Q ⊕ A0u:=(cond (decide (x5 ≥ (0:Int))) (cond (decide (0≤(IntKind.wrap .u64 x5))) (cond (decide ((h0.length+[IntKind.wrap .u8 (Int.fdiv x4 (2 ^ (min (Int.toNat (IntKind.wrap .u64 x5)) (IntKind.bits .i64))))].length)*1≤MAXB)) (.inl (x4,IntKind.wrap .i64 (x5 - (8:Int)),h0++[IntKind.wrap .u8 (Int.fdiv x4 (2 ^ (min (Int.toNat (IntKind.wrap .u64 x5)) (IntKind.bits .i64))))])) (.inr A41)) (.inr A41)) (.inr (0,h0)))
noncomputable def T3 (x4 x5:Int) (h0:List Int):A0u:=itX (fun v:A1Q=>A2z v.1 v.2.1 v.2.2) A41 (x4,x5,h0)
noncomputable def A4U (a:A0u):CT:=(.br (a.1==0) (.done (.exit 2) A7m ((u35),(a.2,()))) .fail)
noncomputable def B4B (x4 x5:Int) (h0:List Int):CT:=A4U (T3 x4 x5 h0)
noncomputable abbrev A5v:Q9.den→RT Q9.den:=(fun d=>A9U d.1.2.2.2.2.1 d.1.2.2.2.2.2.1 d.2.1)
noncomputable abbrev A9s (v:A1Q):Q9.den:=(((),(),(),(),v.1,v.2.1,u29),(v.2.2,()))
theorem B4a:(∀ v:A1Q,(A9U v.1 v.2.1 v.2.2).val=relS A9s A4U (A2z v.1 v.2.1 v.2.2))∧∀ a:A0u,CEnd Q9.den (A4U a):=⟨fun v=>(relB (relB (relB rfl rfl) rfl) rfl),fun a=>(cendB aCD cendF)⟩
noncomputable def A9c (x4 x5:Int) (h0:List Int):Option (Ex×St):=(cond (decide (x5 ≥ (0:Int))) (cond (decide (0≤(IntKind.wrap .u64 x5))) (cond (decide ((h0.length+[IntKind.wrap .u8 (Int.fdiv x4 (2 ^ (min (Int.toNat (IntKind.wrap .u64 x5)) (IntKind.bits .i64))))].length)*1≤MAXB)) (some (.normal,(⟨(.junk::.junk::.junk::(.all 0 1)::(ti x4)::(ti (IntKind.wrap .i64 (x5 - (8:Int))))::B6h),[(.rows 5 true (.int .u8) (h0++[IntKind.wrap .u8 (Int.fdiv x4 (2 ^ (min (Int.toNat (IntKind.wrap .u64 x5)) (IntKind.bits .i64))))]))],0,[]⟩:St))) none) none) (some ((.exit 2),(⟨(.junk::.junk::.junk::(.all 0 1)::B8P),[(.rows 5 true (.int .u8) h0)],0,[]⟩:St))))
theorem B2D:RdA G19 aLn 2 A23 Q9 0 [] (kepts [] [(2,[3])]) (fun d=>A9c d.1.2.2.2.2.1 d.1.2.2.2.2.2.1 d.2.1):=by
 intro d
 kernel_rfl
theorem B2P:∀ d:Q9.den,(fun d=>A9c d.1.2.2.2.2.1 d.1.2.2.2.2.2.1 d.2.1) d=(A5v d).opt 0 []:=by
 intro d
 kernel_rfl
noncomputable abbrev A73:St→Option Tree:=Q9.say 0 [] [] (fun d=>B4B d.1.2.2.2.2.1 d.1.2.2.2.2.2.1 d.2.1)
theorem B3P:aPL A73 A23:=SS.wp2 hlz [] A5v B2D B2P _ (fun d=>Runs.ofI2 (step:=A5v) A9s B4a rfl (d.1.2.2.2.2.1,d.1.2.2.2.2.2.1,d.2.1))
noncomputable def A1g (a0:List Int):=let z1:=D9 a0 ((([]:List Int)++a0)++[(128:Int)]);T3 (IntKind.wrap .i64 ((((z1.2.1).length:Nat):Int)*(8:Int))) (56:Int) (z1.2.2)
noncomputable def F9 (a0:List Int):List Int:=((A1g a0).2)
noncomputable abbrev B23 (r:List Int):AV×List AObj:=((.t true B4 r),[])
noncomputable abbrev B0b:pshsDen A4m→AV×List AObj:=fun d=>B23 (F9 d.1)
noncomputable def A1j (a0:List Int):Bool:=let z1:=([]:List Int);(decide ((z1.length+a0.length)*1≤MAXB))&&((decide (((z1++a0).length+[(128:Int)].length)*1≤MAXB))&&(((D9 a0 ((z1++a0)++[(128:Int)])).1==0)&&((A1g a0).1==0)))
noncomputable abbrev A6u:pshsDen A4m→Bool:=fun d=>A1j d.1
noncomputable abbrev B60:Nat→St→Option Tree:=fun b=>match b with | 0=>A72 | 2=>A73 | _=>fun _=>none
theorem B5u:RunP true G19 (B60) Try.f109 A4m A6u B0b:=by
 rintro ⟨a0,_⟩ hp
 change A1j a0=true at hp
 unfold A1j at hp
 refine Eq.trans (b:=(let z1:=([]:List Int);cond (decide ((z1.length+a0.length)*1≤MAXB)) (cond (decide (((z1++a0).length+[(128:Int)].length)*1≤MAXB)) (cond ((D9 a0 ((z1++a0)++[(128:Int)])).1==0) (cond ((A1g a0).1==0) (some (B23 ((A1g a0).2))) none) none) none) none)) (by kernel_rfl) ?_
 exact (cndA hp fun hp=>(cndA hp fun hp=>(cndA hp fun hp=>(cndT hp fun _h=>rfl))))
theorem B7i:aPP 109 (sumOf A4m A6u B0b):=pcD true G19 (by
  rw [show loopsIn 0 (bodyOf Try.f109)=[(0,A22),(2,A23)] by kernel_rfl];intro p hp;simp only [List.mem_cons,List.mem_nil_iff,or_false] at hp
  rcases hp with rfl | rfl
  ·exact B3O
  ·exact B3P) B5u
noncomputable def S20:Tab:=Tab.add S19 109 (lift (sumOf A4m A6u B0b))
noncomputable def B90:FuncId→Bool:=qadd B9Z 109
theorem G20:aPG S20 B90:=G19.addQ B7i (cbl Try.f109) (fun _=>rfl)

abbrev A3p:Ty:=.sl (.int .i64)
abbrev B1i:List PSh:=[]
noncomputable def A5N :List Int:=[(1116352408:Int),(1899447441:Int),(3049323471:Int),(3921009573:Int),(961987163:Int),(1508970993:Int),(2453635748:Int),(2870763221:Int),(3624381080:Int),(310598401:Int),(607225278:Int),(1426881987:Int),(1925078388:Int),(2162078206:Int),(2614888103:Int),(3248222580:Int),(3835390401:Int),(4022224774:Int),(264347078:Int),(604807628:Int),(770255983:Int),(1249150122:Int),(1555081692:Int),(1996064986:Int),(2554220882:Int),(2821834349:Int),(2952996808:Int),(3210313671:Int),(3336571891:Int),(3584528711:Int),(113926993:Int),(338241895:Int),(666307205:Int),(773529912:Int),(1294757372:Int),(1396182291:Int),(1695183700:Int),(1986661051:Int),(2177026350:Int),(2456956037:Int),(2730485921:Int),(2820302411:Int),(3259730800:Int),(3345764771:Int),(3516065817:Int),(3600352804:Int),(4094571909:Int),(275423344:Int),(430227734:Int),(506948616:Int),(659060556:Int),(883997877:Int),(958139571:Int),(1322822218:Int),(1537002063:Int),(1747873779:Int),(1955562222:Int),(2024104815:Int),(2227730452:Int),(2361852424:Int),(2428436474:Int),(2756734187:Int),(3204031479:Int),(3329325298:Int)]
noncomputable abbrev B9w (r:List Int):AV×List AObj:=((.t true A3p r),[])
noncomputable abbrev B59:pshsDen B1i→AV×List AObj:=fun d=>B9w (A5N )
noncomputable abbrev B1O:pshsDen B1i→Bool:=fun d=>true
theorem B8y:RunP true G20 aLn Try.f110 B1i B1O B59:=by
 rintro _ hp
 kernel_rfl
theorem B9u:aPP 110 (sumOf B1i B1O B59):=pcD true G20 hlz B8y
noncomputable def S21:Tab:=Tab.add S20 110 (lift (sumOf B1i B1O B59))
noncomputable def B91:FuncId→Bool:=qadd B90 110
theorem G21:aPG S21 B91:=G20.addQ B9u (cbl Try.f110) (fun _=>rfl)

abbrev A4q:List PSh:=[.t (.int .i64),.t (.int .i64)]
noncomputable def B2 (a0 a1:Int):Int:=(iand .i64 (ior .i64 (Int.fdiv a0 (2 ^ (min (Int.toNat (IntKind.wrap .u64 a1)) (IntKind.bits .i64)))) (IntKind.wrap .i64 (a0*2 ^ (min (Int.toNat (IntKind.wrap .u64 (IntKind.wrap .i64 ((32:Int) - a1)))) (IntKind.bits .i64))))) (4294967295:Int))
noncomputable abbrev B24 (r:Int):AV×List AObj:=((ti r),[])
noncomputable abbrev B0f:pshsDen A4q→AV×List AObj:=fun d=>B24 (B2 d.1 d.2.1)
noncomputable def A9 (a0 a1:Int):Bool:=(decide (0≤(IntKind.wrap .u64 a1)))&&(decide (0≤(IntKind.wrap .u64 (IntKind.wrap .i64 ((32:Int) - a1)))))
noncomputable abbrev A6y:pshsDen A4q→Bool:=fun d=>A9 d.1 d.2.1
theorem B5z:RunP true G21 aLn Try.f146 A4q A6y B0f:=by
 rintro ⟨a0,⟨a1,_⟩⟩ hp
 change A9 a0 a1=true at hp
 unfold A9 at hp
 refine Eq.trans (b:=(let z1:=IntKind.wrap .i64 ((32:Int) - a1);cond (decide (0≤(IntKind.wrap .u64 a1))) (cond (decide (0≤(IntKind.wrap .u64 z1))) (some (B24 (iand .i64 (ior .i64 (Int.fdiv a0 (2 ^ (min (Int.toNat (IntKind.wrap .u64 a1)) (IntKind.bits .i64)))) (IntKind.wrap .i64 (a0*2 ^ (min (Int.toNat (IntKind.wrap .u64 z1)) (IntKind.bits .i64))))) (4294967295:Int)))) none) none)) (by kernel_rfl) ?_
 exact (cndA hp fun hp=>(cndT hp fun _h=>rfl))
theorem B7n:aPP 146 (sumOf A4q A6y B0f):=pcD true G21 hlz B5z
noncomputable def S22:Tab:=Tab.add S21 146 (lift (sumOf A4q A6y B0f))
noncomputable def B92:FuncId→Bool:=qadd B91 146
theorem G22:aPG S22 B92:=G21.addQ B7n (cbl Try.f146) (fun _=>rfl)

abbrev C1e:List Sh:=.junk::.junk::.junk::.junk::.junk::.junk::.junk::.junk::.junk::.junk::.junk::.junk::.junk::.junk::.junk::.junk::.junk::.junk::.junk::.junk::.junk::.junk::.junk::.junk::.junk::.junk::.junk::.junk::.junk::.junk::.junk::.junk::.junk::.junk::.junk::.junk::.junk::.junk::.junk::.junk::.junk::.junk::.junk::.junk::.junk::.junk::.junk::.junk::.junk::.junk::B6j
abbrev B8p:List Sh:=.junk::C1e
abbrev u97:=((),(),(),(),(),(),(),(),(),(),(),(),(),(),(),(),(),(),(),(),(),(),(),(),(),(),(),(),(),(),(),(),(),(),(),(),(),(),(),(),(),(),(),(),(),(),(),(),(),(),u47)
abbrev B4l:=((),(),(),(),(),u97)
abbrev C00:List AV:=.junk::.junk::.junk::.junk::.junk::.junk::.junk::.junk::.junk::.junk::.junk::.junk::.junk::.junk::.junk::.junk::.junk::.junk::.junk::.junk::.junk::.junk::.junk::.junk::.junk::.junk::.junk::.junk::.junk::.junk::.junk::.junk::.junk::.junk::.junk::.junk::.junk::.junk::.junk::.junk::.junk::.junk::.junk::.junk::.junk::.junk::.junk::.junk::.junk::.junk::B6i
abbrev B8o:List AV:=.junk::C00
abbrev C1P:List Sh:=.junk::.junk::.junk::.junk::.junk::.junk::.junk::.junk::.junk::.junk::.junk::.junk::.junk::.junk::.junk::.junk::.junk::.junk::.junk::.junk::.junk::.junk::.junk::.junk::.junk::.junk::.junk::.junk::.junk::.junk::.junk::.junk::.junk::.junk::.junk::.junk::.junk::.junk::.junk::.junk::.junk::.junk::.junk::.junk::.junk::.junk::.junk::.junk::.junk::B6j
abbrev u96:=((),(),(),(),(),(),(),(),(),(),(),(),(),(),(),(),(),(),(),(),(),(),(),(),(),(),(),(),(),(),(),(),(),(),(),(),(),(),(),(),(),(),(),(),(),(),(),(),(),u47)
abbrev C1E:List AV:=.junk::.junk::.junk::.junk::.junk::.junk::.junk::.junk::.junk::.junk::.junk::.junk::.junk::.junk::.junk::.junk::.junk::.junk::.junk::.junk::.junk::.junk::.junk::.junk::.junk::.junk::.junk::.junk::.junk::.junk::.junk::.junk::.junk::.junk::.junk::.junk::.junk::.junk::.junk::.junk::.junk::.junk::.junk::.junk::.junk::.junk::.junk::.junk::.junk::B6i
abbrev A2Q:List PSh:=[.t B4]
noncomputable def A15:Code:=((loopsIn 0 (bodyOf Try.f145)).getD 0 (0,.skip)).2
noncomputable def A16:Code:=((loopsIn 0 (bodyOf Try.f145)).getD 1 (0,.skip)).2
abbrev N6:SS:=⟨(.t false B4::.junk::.junk::.all 0 1::tI::C1e),[.rows 3 true (.int .i64)]⟩
abbrev A5S:SS:=⟨(.junk::.junk::.junk::.all 0 1::B8p),[.rows 3 true (.int .i64)]⟩
noncomputable def A8c (x0:List Int) (x4:Int) (h0:List Int):RT N6.den:=let z1:=IntKind.wrap .i64 ((4:Int)*x4);let z3:=IntKind.wrap .i64 (z1+(3:Int));let z4:=IntKind.wrap .i64 (z1+(1:Int));let z5:=IntKind.wrap .i64 (z1+(2:Int));let z2:=ior .i64 (ior .i64 (IntKind.wrap .i64 ((IntKind.wrap .i64 (x0.getD (z1.toNat) (0:Int)))*2 ^ (24))) (IntKind.wrap .i64 ((IntKind.wrap .i64 (x0.getD (z4.toNat) (0:Int)))*2 ^ (16)))) (IntKind.wrap .i64 ((IntKind.wrap .i64 (x0.getD (z5.toNat) (0:Int)))*2 ^ (8)));let z6:=IntKind.wrap .i64 (x0.getD (z3.toNat) (0:Int));(.br (decide (x4<(16:Int))) (.br (decide (0≤z1∧z1<(x0.length:Int))) (.br (decide (0≤z4∧z4<(x0.length:Int))) (.br (decide (0≤z5∧z5<(x0.length:Int))) (.br (decide (0≤z3∧z3<(x0.length:Int))) (.br (decide ((h0.length+[ior .i64 z2 z6].length)*8≤MAXB)) (.next ((x0,(),(),(),IntKind.wrap .i64 (x4+(1:Int)),u97),(h0++[ior .i64 z2 z6],()))) .fail) .fail) .fail) .fail) .fail) (.done (.exit 0) A5S ((B4l),(h0,()))))
abbrev A0Q:=(List Int)×(Int)×(List Int)
abbrev X7:=Nat×(List Int)
def V1:X7:=(99,([]:List Int))
noncomputable def A1C (x0:List Int) (x4:Int) (h0:List Int):A0Q ⊕ X7:=let z1:=IntKind.wrap .i64 ((4:Int)*x4);let z3:=IntKind.wrap .i64 (z1+(3:Int));let z4:=IntKind.wrap .i64 (z1+(1:Int));let z5:=IntKind.wrap .i64 (z1+(2:Int));let z2:=ior .i64 (ior .i64 (IntKind.wrap .i64 ((IntKind.wrap .i64 (x0.getD (z1.toNat) (0:Int)))*2 ^ (24))) (IntKind.wrap .i64 ((IntKind.wrap .i64 (x0.getD (z4.toNat) (0:Int)))*2 ^ (16)))) (IntKind.wrap .i64 ((IntKind.wrap .i64 (x0.getD (z5.toNat) (0:Int)))*2 ^ (8)));let z6:=IntKind.wrap .i64 (x0.getD (z3.toNat) (0:Int));(cond (decide (x4<(16:Int))) (cond (decide (0≤z1∧z1<(x0.length:Int))) (cond (decide (0≤z4∧z4<(x0.length:Int))) (cond (decide (0≤z5∧z5<(x0.length:Int))) (cond (decide (0≤z3∧z3<(x0.length:Int))) (cond (decide ((h0.length+[ior .i64 z2 z6].length)*8≤MAXB)) (.inl (x0,IntKind.wrap .i64 (x4+(1:Int)),h0++[ior .i64 z2 z6])) (.inr V1)) (.inr V1)) (.inr V1)) (.inr V1)) (.inr V1)) (.inr (0,h0)))
noncomputable def K2 (x0:List Int) (x4:Int) (h0:List Int):X7:=itX (fun v:A0Q=>A1C v.1 v.2.1 v.2.2) V1 (x0,x4,h0)
noncomputable def A3S (a:X7):CT:=(.br (a.1==0) (.done (.exit 0) A5S ((B4l),(a.2,()))) .fail)
noncomputable def B3s (x0:List Int) (x4:Int) (h0:List Int):CT:=A3S (K2 x0 x4 h0)
noncomputable abbrev A35:N6.den→RT N6.den:=(fun d=>A8c d.1.1 d.1.2.2.2.2.1 d.2.1)
noncomputable abbrev A7P (v:A0Q):N6.den:=((v.1,(),(),(),v.2.1,u97),(v.2.2,()))
theorem B2V:(∀ v:A0Q,(A8c v.1 v.2.1 v.2.2).val=relS A7P A3S (A1C v.1 v.2.1 v.2.2))∧∀ a:X7,CEnd N6.den (A3S a):=⟨fun v=>by repeat' first | apply relB | rfl,fun a=>(cendB aCD cendF)⟩
noncomputable def A7J (x0:List Int) (x4:Int) (h0:List Int):Option (Ex×St):=let z1:=IntKind.wrap .i64 ((4:Int)*x4);let z3:=IntKind.wrap .i64 (z1+(3:Int));let z4:=IntKind.wrap .i64 (z1+(1:Int));let z5:=IntKind.wrap .i64 (z1+(2:Int));let z2:=ior .i64 (ior .i64 (IntKind.wrap .i64 ((IntKind.wrap .i64 (x0.getD (z1.toNat) (0:Int)))*2 ^ (24))) (IntKind.wrap .i64 ((IntKind.wrap .i64 (x0.getD (z4.toNat) (0:Int)))*2 ^ (16)))) (IntKind.wrap .i64 ((IntKind.wrap .i64 (x0.getD (z5.toNat) (0:Int)))*2 ^ (8)));let z6:=IntKind.wrap .i64 (x0.getD (z3.toNat) (0:Int));(cond (decide (x4<(16:Int))) (cond (decide (0≤z1∧z1<(x0.length:Int))) (cond (decide (0≤z4∧z4<(x0.length:Int))) (cond (decide (0≤z5∧z5<(x0.length:Int))) (cond (decide (0≤z3∧z3<(x0.length:Int))) (cond (decide ((h0.length+[ior .i64 z2 z6].length)*8≤MAXB)) (some (.normal,(⟨((.t false B4 x0)::.junk::.junk::(.all 0 1)::(ti (IntKind.wrap .i64 (x4+(1:Int))))::C00),[(.rows 3 true (.int .i64) (h0++[ior .i64 z2 z6]))],0,[]⟩:St))) none) none) none) none) none) (some ((.exit 0),(⟨(.junk::.junk::.junk::(.all 0 1)::B8o),[(.rows 3 true (.int .i64) h0)],0,[]⟩:St))))
theorem B1W:RdA G22 aLn 0 A15 N6 0 [] (kepts [] [(0,[3])]) (fun d=>A7J d.1.1 d.1.2.2.2.2.1 d.2.1):=by
 intro d
 kernel_rfl
theorem B12:∀ d:N6.den,(fun d=>A7J d.1.1 d.1.2.2.2.2.1 d.2.1) d=(A35 d).opt 0 []:=by
 intro d
 kernel_rfl
noncomputable abbrev A6H:St→Option Tree:=N6.say 0 [] [] (fun d=>B3s d.1.1 d.1.2.2.2.2.1 d.2.1)
theorem B2q:aPL A6H A15:=SS.wp2 hlz [] A35 B1W B12 _ (fun d=>Runs.ofI2 (step:=A35) A7P B2V rfl (d.1.1,d.1.2.2.2.2.1,d.2.1))
abbrev N7:SS:=⟨(.junk::.junk::.junk::.all 0 1::.junk::tI::C1P),[.rows 3 true (.int .i64)]⟩
abbrev A5T:SS:=⟨(.junk::.junk::.junk::.all 0 1::B8p),[.rows 3 true (.int .i64)]⟩
noncomputable def A8d (x5:Int) (h0:List Int):RT N7.den:=let z4:=IntKind.wrap .i64 (x5 - (15:Int));let z2:=h0.getD (z4.toNat) (0:Int);let z5:=IntKind.wrap .i64 (x5 - (16:Int));let z6:=IntKind.wrap .i64 (x5 - (2:Int));let z3:=h0.getD (z6.toNat) (0:Int);let z7:=IntKind.wrap .i64 (x5 - (7:Int));let z1:=IntKind.wrap .i64 ((IntKind.wrap .i64 ((IntKind.wrap .i64 ((h0.getD (z5.toNat) (0:Int))+(ixor .i64 (ixor .i64 (B2 z2 (7:Int)) (B2 z2 (18:Int))) (Int.fdiv z2 (2 ^ (3))))))+(h0.getD (z7.toNat) (0:Int))))+(ixor .i64 (ixor .i64 (B2 z3 (17:Int)) (B2 z3 (19:Int))) (Int.fdiv z3 (2 ^ (10)))));(.br (decide (x5<(64:Int))) (.br (decide (0≤z4∧z4<(h0.length:Int))) (.br (decide (0≤z6∧z6<(h0.length:Int))) (.br (A9 z2 (7:Int)) (.br (A9 z2 (18:Int)) (.br (A9 z3 (17:Int)) (.br (A9 z3 (19:Int)) (.br (decide (0≤z5∧z5<(h0.length:Int))) (.br (decide (0≤z7∧z7<(h0.length:Int))) (.br (decide ((h0.length+[iand .i64 z1 (4294967295:Int)].length)*8≤MAXB)) (.next (((),(),(),(),(),IntKind.wrap .i64 (x5+(1:Int)),u96),(h0++[iand .i64 z1 (4294967295:Int)],()))) .fail) .fail) .fail) .fail) .fail) .fail) .fail) .fail) .fail) (.done (.exit 2) A5T ((B4l),(h0,()))))
abbrev A0R:=(Int)×(List Int)
abbrev X8:=Nat×(List Int)
def F6:X8:=(99,([]:List Int))
noncomputable def A1D (x5:Int) (h0:List Int):A0R ⊕ X8:=let z4:=IntKind.wrap .i64 (x5 - (15:Int));let z2:=h0.getD (z4.toNat) (0:Int);let z5:=IntKind.wrap .i64 (x5 - (16:Int));let z6:=IntKind.wrap .i64 (x5 - (2:Int));let z3:=h0.getD (z6.toNat) (0:Int);let z7:=IntKind.wrap .i64 (x5 - (7:Int));let z1:=IntKind.wrap .i64 ((IntKind.wrap .i64 ((IntKind.wrap .i64 ((h0.getD (z5.toNat) (0:Int))+(ixor .i64 (ixor .i64 (B2 z2 (7:Int)) (B2 z2 (18:Int))) (Int.fdiv z2 (2 ^ (3))))))+(h0.getD (z7.toNat) (0:Int))))+(ixor .i64 (ixor .i64 (B2 z3 (17:Int)) (B2 z3 (19:Int))) (Int.fdiv z3 (2 ^ (10)))));(cond (decide (x5<(64:Int))) (cond (decide (0≤z4∧z4<(h0.length:Int))) (cond (decide (0≤z6∧z6<(h0.length:Int))) (cond (A9 z2 (7:Int)) (cond (A9 z2 (18:Int)) (cond (A9 z3 (17:Int)) (cond (A9 z3 (19:Int)) (cond (decide (0≤z5∧z5<(h0.length:Int))) (cond (decide (0≤z7∧z7<(h0.length:Int))) (cond (decide ((h0.length+[iand .i64 z1 (4294967295:Int)].length)*8≤MAXB)) (.inl (IntKind.wrap .i64 (x5+(1:Int)),h0++[iand .i64 z1 (4294967295:Int)])) (.inr F6)) (.inr F6)) (.inr F6)) (.inr F6)) (.inr F6)) (.inr F6)) (.inr F6)) (.inr F6)) (.inr F6)) (.inr (0,h0)))
noncomputable def K3 (x5:Int) (h0:List Int):X8:=itX (fun v:A0R=>A1D v.1 v.2) F6 (x5,h0)
noncomputable def A3T (a:X8):CT:=(.br (a.1==0) (.done (.exit 2) A5T ((B4l),(a.2,()))) .fail)
noncomputable def B3t (x5:Int) (h0:List Int):CT:=A3T (K3 x5 h0)
noncomputable abbrev A36:N7.den→RT N7.den:=(fun d=>A8d d.1.2.2.2.2.2.1 d.2.1)
noncomputable abbrev A7Q (v:A0R):N7.den:=(((),(),(),(),(),v.1,u96),(v.2,()))
theorem B2W:(∀ v:A0R,(A8d v.1 v.2).val=relS A7Q A3T (A1D v.1 v.2))∧∀ a:X8,CEnd N7.den (A3T a):=⟨fun v=>by repeat' first | apply relB | rfl,fun a=>(cendB aCD cendF)⟩
noncomputable def A7K (x5:Int) (h0:List Int):Option (Ex×St):=let z4:=IntKind.wrap .i64 (x5 - (15:Int));let z2:=h0.getD (z4.toNat) (0:Int);let z5:=IntKind.wrap .i64 (x5 - (16:Int));let z6:=IntKind.wrap .i64 (x5 - (2:Int));let z3:=h0.getD (z6.toNat) (0:Int);let z7:=IntKind.wrap .i64 (x5 - (7:Int));let z1:=IntKind.wrap .i64 ((IntKind.wrap .i64 ((IntKind.wrap .i64 ((h0.getD (z5.toNat) (0:Int))+(ixor .i64 (ixor .i64 (B2 z2 (7:Int)) (B2 z2 (18:Int))) (Int.fdiv z2 (2 ^ (3))))))+(h0.getD (z7.toNat) (0:Int))))+(ixor .i64 (ixor .i64 (B2 z3 (17:Int)) (B2 z3 (19:Int))) (Int.fdiv z3 (2 ^ (10)))));(cond (decide (x5<(64:Int))) (cond (decide (0≤z4∧z4<(h0.length:Int))) (cond (decide (0≤z6∧z6<(h0.length:Int))) (cond (A9 z2 (7:Int)) (cond (A9 z2 (18:Int)) (cond (A9 z3 (17:Int)) (cond (A9 z3 (19:Int)) (cond (decide (0≤z5∧z5<(h0.length:Int))) (cond (decide (0≤z7∧z7<(h0.length:Int))) (cond (decide ((h0.length+[iand .i64 z1 (4294967295:Int)].length)*8≤MAXB)) (some (.normal,(⟨(.junk::.junk::.junk::(.all 0 1)::.junk::(ti (IntKind.wrap .i64 (x5+(1:Int))))::C1E),[(.rows 3 true (.int .i64) (h0++[iand .i64 z1 (4294967295:Int)]))],0,[]⟩:St))) none) none) none) none) none) none) none) none) none) (some ((.exit 2),(⟨(.junk::.junk::.junk::(.all 0 1)::B8o),[(.rows 3 true (.int .i64) h0)],0,[]⟩:St))))
theorem B1X:RdA G22 aLn 2 A16 N7 0 [] (kepts [] [(2,[3])]) (fun d=>A7K d.1.2.2.2.2.2.1 d.2.1):=by
 intro d
 kernel_rfl
theorem B13:∀ d:N7.den,(fun d=>A7K d.1.2.2.2.2.2.1 d.2.1) d=(A36 d).opt 0 []:=by
 intro d
 kernel_rfl
noncomputable abbrev A6I:St→Option Tree:=N7.say 0 [] [] (fun d=>B3t d.1.2.2.2.2.2.1 d.2.1)
theorem B2r:aPL A6I A16:=SS.wp2 hlz [] A36 B1X B13 _ (fun d=>Runs.ofI2 (step:=A36) A7Q B2W rfl (d.1.2.2.2.2.2.1,d.2.1))
noncomputable def F5 (a0:List Int):List Int:=((K3 (16:Int) ((K2 a0 (0:Int) ([]:List Int)).2)).2)
noncomputable abbrev B1t (r:List Int):AV×List AObj:=((.t true A3p r),[])
noncomputable abbrev A8l:pshsDen A2Q→AV×List AObj:=fun d=>B1t (F5 d.1)
noncomputable def A0n (a0:List Int):Bool:=let z1:=K2 a0 (0:Int) ([]:List Int);(z1.1==0)&&((K3 (16:Int) (z1.2)).1==0)
noncomputable abbrev A5k:pshsDen A2Q→Bool:=fun d=>A0n d.1
noncomputable abbrev B5P:Nat→St→Option Tree:=fun b=>match b with | 0=>A6H | 2=>A6I | _=>fun _=>none
theorem B4k:RunP true G22 (B5P) Try.f145 A2Q A5k A8l:=by
 rintro ⟨a0,_⟩ hp
 change A0n a0=true at hp
 unfold A0n at hp
 refine Eq.trans (b:=(let z1:=K2 a0 (0:Int) ([]:List Int);let z2:=K3 (16:Int) (z1.2);cond (z1.1==0) (cond (z2.1==0) (some (B1t (z2.2))) none) none)) (by kernel_rfl) ?_
 exact (cndA hp fun hp=>(cndT hp fun _h=>rfl))
theorem B53:aPP 145 (sumOf A2Q A5k A8l):=pcD true G22 (by
  rw [show loopsIn 0 (bodyOf Try.f145)=[(0,A15),(2,A16)] by kernel_rfl];intro p hp;simp only [List.mem_cons,List.mem_nil_iff,or_false] at hp
  rcases hp with rfl | rfl
  ·exact B2q
  ·exact B2r) B4k
noncomputable def S23:Tab:=Tab.add S22 145 (lift (sumOf A2Q A5k A8l))
noncomputable def B93:FuncId→Bool:=qadd B92 145
theorem G23:aPG S23 B93:=G22.addQ B53 (cbl Try.f145) (fun _=>rfl)

abbrev B9n:List Sh:=.junk::.junk::.junk::.junk::.junk::.junk::.junk::.junk::.junk::.junk::.junk::.junk::.junk::.junk::.junk::.junk::.junk::.junk::.junk::.junk::.junk::.junk::.junk::.junk::.junk::.junk::.junk::.junk::.junk::.junk::.junk::.junk::.junk::.junk::.junk::.junk::.junk::B8p
abbrev B9o:List Sh:=.junk::B9n
abbrev B9O:=((),(),(),(),(),(),(),(),(),(),(),(),(),(),(),(),(),(),(),(),(),(),(),(),(),(),(),(),(),(),(),(),(),B4l)
abbrev B9P:=((),(),(),(),(),(),(),(),(),B9O)
abbrev B9j:List AV:=.junk::.junk::.junk::.junk::.junk::.junk::.junk::.junk::.junk::.junk::.junk::.junk::.junk::.junk::.junk::.junk::.junk::.junk::.junk::.junk::.junk::.junk::.junk::.junk::.junk::.junk::.junk::.junk::.junk::.junk::.junk::.junk::.junk::.junk::.junk::.junk::.junk::B8o
abbrev B9k:List AV:=.junk::B9j
abbrev C03:List Sh:=.junk::.junk::.junk::.junk::.junk::.junk::.junk::.junk::.junk::.junk::.junk::.junk::.junk::.junk::.junk::.junk::.junk::.junk::.junk::.junk::.junk::.junk::.junk::.junk::.junk::.junk::.junk::.junk::B8p
abbrev C1s:=((),(),(),(),(),(),(),(),(),(),(),(),(),(),(),(),(),(),(),(),(),(),(),(),B4l)
abbrev C1t:=((),B9P)
abbrev C0Q:List AV:=.junk::.junk::.junk::.junk::.junk::.junk::.junk::.junk::.junk::.junk::.junk::.junk::.junk::.junk::.junk::.junk::.junk::.junk::.junk::.junk::.junk::.junk::.junk::.junk::.junk::.junk::.junk::.junk::B8o
abbrev A2P:List PSh:=[.t A3p,.t B4,.t A3p]
noncomputable def A13:Code:=((loopsIn 0 (bodyOf Try.f111)).getD 0 (0,.skip)).2
noncomputable def A14:Code:=((loopsIn 0 (bodyOf Try.f111)).getD 1 (0,.skip)).2
abbrev J7:SS:=⟨(.t false A3p::.junk::.t false A3p::.junk::.junk::.junk::.junk::.t true A3p::.all 0 1::tI::B9n),[.rows 3 true (.int .i64)]⟩
abbrev A5Q:SS:=⟨(.t false A3p::.junk::.junk::.junk::.junk::.junk::.junk::.junk::.all 0 1::B9o),[.rows 3 true (.int .i64)]⟩
noncomputable def A8a (x0 x2 x7:List Int) (x9:Int) (h0:List Int):RT J7.den:=let z2:=h0.getD ((4:Int).toNat) (0:Int);let z1:=IntKind.wrap .i64 ((IntKind.wrap .i64 ((IntKind.wrap .i64 ((IntKind.wrap .i64 ((h0.getD ((7:Int).toNat) (0:Int))+(ixor .i64 (ixor .i64 (B2 z2 (6:Int)) (B2 z2 (11:Int))) (B2 z2 (25:Int)))))+(ixor .i64 (iand .i64 z2 (h0.getD ((5:Int).toNat) (0:Int))) (iand .i64 (ixor .i64 (4294967295:Int) z2) (h0.getD ((6:Int).toNat) (0:Int))))))+(x2.getD x9.toNat (0:Int))))+(x7.getD x9.toNat (0:Int)));let z3:=h0.getD ((0:Int).toNat) (0:Int);let z4:=decide (0≤(1:Int)∧(1:Int)<(h0.length:Int));let z5:=decide (0≤(2:Int)∧(2:Int)<(h0.length:Int));let z6:=decide (0≤(5:Int)∧(5:Int)<(h0.length:Int));let z7:=decide (0≤(6:Int)∧(6:Int)<(h0.length:Int));let z8:=h0.getD ((1:Int).toNat) (0:Int);let z9:=h0.getD ((2:Int).toNat) (0:Int);(.br (decide (x9<(64:Int))) (.br (decide (0≤(4:Int)∧(4:Int)<(h0.length:Int))) (.br (A9 z2 (6:Int)) (.br (A9 z2 (11:Int)) (.br (A9 z2 (25:Int)) (.br z6 (.br z7 (.br (decide (0≤(7:Int)∧(7:Int)<(h0.length:Int))) (.br (decide (0≤x9∧x9<(x2.length:Int))) (.br (decide (0≤x9∧x9<(x7.length:Int))) (.br (decide (0≤(0:Int)∧(0:Int)<(h0.length:Int))) (.br (A9 z3 (2:Int)) (.br (A9 z3 (13:Int)) (.br (A9 z3 (22:Int)) (.br z4 (.br z5 (.br z4 (.br z5 (.br z4 (.br z5 (.br (decide (0≤(3:Int)∧(3:Int)<(h0.length:Int))) (.br z6 (.br z7 (.next ((x0,(),x2,(),(),(),(),x7,(),IntKind.wrap .i64 (x9+(1:Int)),B9O),([iand .i64 (IntKind.wrap .i64 (z1+(IntKind.wrap .i64 ((ixor .i64 (ixor .i64 (B2 z3 (2:Int)) (B2 z3 (13:Int))) (B2 z3 (22:Int)))+(ixor .i64 (ixor .i64 (iand .i64 z3 z8) (iand .i64 z3 z9)) (iand .i64 z8 z9)))))) (4294967295:Int),h0.getD ((0:Int).toNat) (0:Int),h0.getD ((1:Int).toNat) (0:Int),h0.getD ((2:Int).toNat) (0:Int),iand .i64 (IntKind.wrap .i64 ((h0.getD ((3:Int).toNat) (0:Int))+z1)) (4294967295:Int),h0.getD ((4:Int).toNat) (0:Int),h0.getD ((5:Int).toNat) (0:Int),h0.getD ((6:Int).toNat) (0:Int)],()))) .fail) .fail) .fail) .fail) .fail) .fail) .fail) .fail) .fail) .fail) .fail) .fail) .fail) .fail) .fail) .fail) .fail) .fail) .fail) .fail) .fail) .fail) (.done (.exit 0) A5Q ((x0,B9P),(h0,()))))
abbrev A0O:=(List Int)×(List Int)×(List Int)×(Int)×(List Int)
abbrev X5:=Nat×(List Int)×(List Int)
def A8:X5:=(99,([]:List Int),([]:List Int))
noncomputable def A1A (x0 x2 x7:List Int) (x9:Int) (h0:List Int):A0O ⊕ X5:=let z2:=h0.getD ((4:Int).toNat) (0:Int);let z1:=IntKind.wrap .i64 ((IntKind.wrap .i64 ((IntKind.wrap .i64 ((IntKind.wrap .i64 ((h0.getD ((7:Int).toNat) (0:Int))+(ixor .i64 (ixor .i64 (B2 z2 (6:Int)) (B2 z2 (11:Int))) (B2 z2 (25:Int)))))+(ixor .i64 (iand .i64 z2 (h0.getD ((5:Int).toNat) (0:Int))) (iand .i64 (ixor .i64 (4294967295:Int) z2) (h0.getD ((6:Int).toNat) (0:Int))))))+(x2.getD x9.toNat (0:Int))))+(x7.getD x9.toNat (0:Int)));let z3:=h0.getD ((0:Int).toNat) (0:Int);let z4:=decide (0≤(1:Int)∧(1:Int)<(h0.length:Int));let z5:=decide (0≤(2:Int)∧(2:Int)<(h0.length:Int));let z6:=decide (0≤(5:Int)∧(5:Int)<(h0.length:Int));let z7:=decide (0≤(6:Int)∧(6:Int)<(h0.length:Int));let z8:=h0.getD ((1:Int).toNat) (0:Int);let z9:=h0.getD ((2:Int).toNat) (0:Int);(cond (decide (x9<(64:Int))) (cond (decide (0≤(4:Int)∧(4:Int)<(h0.length:Int))) (cond (A9 z2 (6:Int)) (cond (A9 z2 (11:Int)) (cond (A9 z2 (25:Int)) (cond z6 (cond z7 (cond (decide (0≤(7:Int)∧(7:Int)<(h0.length:Int))) (cond (decide (0≤x9∧x9<(x2.length:Int))) (cond (decide (0≤x9∧x9<(x7.length:Int))) (cond (decide (0≤(0:Int)∧(0:Int)<(h0.length:Int))) (cond (A9 z3 (2:Int)) (cond (A9 z3 (13:Int)) (cond (A9 z3 (22:Int)) (cond z4 (cond z5 (cond z4 (cond z5 (cond z4 (cond z5 (cond (decide (0≤(3:Int)∧(3:Int)<(h0.length:Int))) (cond z6 (cond z7 (.inl (x0,x2,x7,IntKind.wrap .i64 (x9+(1:Int)),[iand .i64 (IntKind.wrap .i64 (z1+(IntKind.wrap .i64 ((ixor .i64 (ixor .i64 (B2 z3 (2:Int)) (B2 z3 (13:Int))) (B2 z3 (22:Int)))+(ixor .i64 (ixor .i64 (iand .i64 z3 z8) (iand .i64 z3 z9)) (iand .i64 z8 z9)))))) (4294967295:Int),h0.getD ((0:Int).toNat) (0:Int),h0.getD ((1:Int).toNat) (0:Int),h0.getD ((2:Int).toNat) (0:Int),iand .i64 (IntKind.wrap .i64 ((h0.getD ((3:Int).toNat) (0:Int))+z1)) (4294967295:Int),h0.getD ((4:Int).toNat) (0:Int),h0.getD ((5:Int).toNat) (0:Int),h0.getD ((6:Int).toNat) (0:Int)])) (.inr A8)) (.inr A8)) (.inr A8)) (.inr A8)) (.inr A8)) (.inr A8)) (.inr A8)) (.inr A8)) (.inr A8)) (.inr A8)) (.inr A8)) (.inr A8)) (.inr A8)) (.inr A8)) (.inr A8)) (.inr A8)) (.inr A8)) (.inr A8)) (.inr A8)) (.inr A8)) (.inr A8)) (.inr A8)) (.inr (0,x0,h0)))
noncomputable def C7 (x0 x2 x7:List Int) (x9:Int) (h0:List Int):X5:=itX (fun v:A0O=>A1A v.1 v.2.1 v.2.2.1 v.2.2.2.1 v.2.2.2.2) A8 (x0,x2,x7,x9,h0)
noncomputable def A3Q (a:X5):CT:=(.br (a.1==0) (.done (.exit 0) A5Q ((a.2.1,B9P),(a.2.2,()))) .fail)
noncomputable def B3q (x0 x2 x7:List Int) (x9:Int) (h0:List Int):CT:=A3Q (C7 x0 x2 x7 x9 h0)
noncomputable abbrev A1u {α:Sort _} (f:(List Int)→(List Int)→(List Int)→Int→(List Int)→α) (d:J7.den):α:=f d.1.1 d.1.2.2.1 d.1.2.2.2.2.2.2.2.1 d.1.2.2.2.2.2.2.2.2.2.1 d.2.1
noncomputable abbrev A33:J7.den→RT J7.den:=(A1u A8a)
noncomputable abbrev A7N (v:A0O):J7.den:=((v.1,(),v.2.1,(),(),(),(),v.2.2.1,(),v.2.2.2.1,B9O),(v.2.2.2.2,()))
theorem B2T:(∀ v:A0O,(A8a v.1 v.2.1 v.2.2.1 v.2.2.2.1 v.2.2.2.2).val=relS A7N A3Q (A1A v.1 v.2.1 v.2.2.1 v.2.2.2.1 v.2.2.2.2))∧∀ a:X5,CEnd J7.den (A3Q a):=⟨fun v=>by repeat' first | apply relB | rfl,fun a=>(cendB aCD cendF)⟩
noncomputable def A7H (x0 x2 x7:List Int) (x9:Int) (h0:List Int):Option (Ex×St):=let z2:=h0.getD ((4:Int).toNat) (0:Int);let z1:=IntKind.wrap .i64 ((IntKind.wrap .i64 ((IntKind.wrap .i64 ((IntKind.wrap .i64 ((h0.getD ((7:Int).toNat) (0:Int))+(ixor .i64 (ixor .i64 (B2 z2 (6:Int)) (B2 z2 (11:Int))) (B2 z2 (25:Int)))))+(ixor .i64 (iand .i64 z2 (h0.getD ((5:Int).toNat) (0:Int))) (iand .i64 (ixor .i64 (4294967295:Int) z2) (h0.getD ((6:Int).toNat) (0:Int))))))+(x2.getD x9.toNat (0:Int))))+(x7.getD x9.toNat (0:Int)));let z3:=h0.getD ((0:Int).toNat) (0:Int);let z4:=decide (0≤(1:Int)∧(1:Int)<(h0.length:Int));let z5:=decide (0≤(2:Int)∧(2:Int)<(h0.length:Int));let z6:=decide (0≤(5:Int)∧(5:Int)<(h0.length:Int));let z7:=decide (0≤(6:Int)∧(6:Int)<(h0.length:Int));let z8:=h0.getD ((1:Int).toNat) (0:Int);let z9:=h0.getD ((2:Int).toNat) (0:Int);(cond (decide (x9<(64:Int))) (cond (decide (0≤(4:Int)∧(4:Int)<(h0.length:Int))) (cond (A9 z2 (6:Int)) (cond (A9 z2 (11:Int)) (cond (A9 z2 (25:Int)) (cond z6 (cond z7 (cond (decide (0≤(7:Int)∧(7:Int)<(h0.length:Int))) (cond (decide (0≤x9∧x9<(x2.length:Int))) (cond (decide (0≤x9∧x9<(x7.length:Int))) (cond (decide (0≤(0:Int)∧(0:Int)<(h0.length:Int))) (cond (A9 z3 (2:Int)) (cond (A9 z3 (13:Int)) (cond (A9 z3 (22:Int)) (cond z4 (cond z5 (cond z4 (cond z5 (cond z4 (cond z5 (cond (decide (0≤(3:Int)∧(3:Int)<(h0.length:Int))) (cond z6 (cond z7 (some (.normal,(⟨((.t false A3p x0)::.junk::(.t false A3p x2)::.junk::.junk::.junk::.junk::(.t true A3p x7)::(.all 0 1)::(ti (IntKind.wrap .i64 (x9+(1:Int))))::B9j),[(.rows 3 true (.int .i64) [iand .i64 (IntKind.wrap .i64 (z1+(IntKind.wrap .i64 ((ixor .i64 (ixor .i64 (B2 z3 (2:Int)) (B2 z3 (13:Int))) (B2 z3 (22:Int)))+(ixor .i64 (ixor .i64 (iand .i64 z3 z8) (iand .i64 z3 z9)) (iand .i64 z8 z9)))))) (4294967295:Int),h0.getD ((0:Int).toNat) (0:Int),h0.getD ((1:Int).toNat) (0:Int),h0.getD ((2:Int).toNat) (0:Int),iand .i64 (IntKind.wrap .i64 ((h0.getD ((3:Int).toNat) (0:Int))+z1)) (4294967295:Int),h0.getD ((4:Int).toNat) (0:Int),h0.getD ((5:Int).toNat) (0:Int),h0.getD ((6:Int).toNat) (0:Int)])],0,[]⟩:St))) none) none) none) none) none) none) none) none) none) none) none) none) none) none) none) none) none) none) none) none) none) none) (some ((.exit 0),(⟨((.t false A3p x0)::.junk::.junk::.junk::.junk::.junk::.junk::.junk::(.all 0 1)::B9k),[(.rows 3 true (.int .i64) h0)],0,[]⟩:St))))
theorem B1U:RdA G23 aLn 0 A13 J7 0 [] (kepts [] [(0,[0,8])]) (A1u A7H):=by
 intro d
 kernel_rfl
theorem B10:∀ d:J7.den,(A1u A7H) d=(A33 d).opt 0 []:=by
 intro d
 kernel_rfl
noncomputable abbrev A6F:St→Option Tree:=J7.say 0 [] [] (A1u B3q)
theorem B2o:aPL A6F A13:=SS.wp2 hlz [] A33 B1U B10 _ (fun d=>Runs.ofI2 (step:=A33) A7N B2T rfl (d.1.1,d.1.2.2.1,d.1.2.2.2.2.2.2.2.1,d.1.2.2.2.2.2.2.2.2.2.1,d.2.1))
abbrev J8:SS:=⟨(.t false A3p::.junk::.junk::.junk::.junk::.junk::.junk::.junk::.all 0 1::.junk::.junk::.junk::.junk::.junk::.junk::.junk::.junk::.junk::tI::C03),[.rows 3 true (.int .i64)]⟩
abbrev A5R:SS:=⟨(.junk::.junk::.junk::.junk::.junk::.junk::.junk::.junk::.all 0 1::B9o),[.rows 3 true (.int .i64)]⟩
noncomputable def A8b (x0:List Int) (x18:Int) (h0:List Int):RT J8.den:=let z1:=decide (0≤x18∧x18<(h0.length:Int));(.br (decide (x18<(8:Int))) (.br z1 (.br (decide (0≤x18∧x18<(x0.length:Int))) (.br z1 (.next ((x0,(),(),(),(),(),(),(),(),(),(),(),(),(),(),(),(),(),IntKind.wrap .i64 (x18+(1:Int)),C1s),(h0.set x18.toNat (iand .i64 (IntKind.wrap .i64 ((h0.getD x18.toNat (0:Int))+(x0.getD x18.toNat (0:Int)))) (4294967295:Int)),()))) .fail) .fail) .fail) (.done (.exit 2) A5R ((C1t),(h0,()))))
abbrev A0P:=(List Int)×(Int)×(List Int)
abbrev X6:=Nat×(List Int)
def A1x:X6:=(99,([]:List Int))
noncomputable def A1B (x0:List Int) (x18:Int) (h0:List Int):A0P ⊕ X6:=let z1:=decide (0≤x18∧x18<(h0.length:Int));(cond (decide (x18<(8:Int))) (cond z1 (cond (decide (0≤x18∧x18<(x0.length:Int))) (cond z1 (.inl (x0,IntKind.wrap .i64 (x18+(1:Int)),h0.set x18.toNat (iand .i64 (IntKind.wrap .i64 ((h0.getD x18.toNat (0:Int))+(x0.getD x18.toNat (0:Int)))) (4294967295:Int)))) (.inr A1x)) (.inr A1x)) (.inr A1x)) (.inr (0,h0)))
noncomputable def O9 (x0:List Int) (x18:Int) (h0:List Int):X6:=itX (fun v:A0P=>A1B v.1 v.2.1 v.2.2) A1x (x0,x18,h0)
noncomputable def A3R (a:X6):CT:=(.br (a.1==0) (.done (.exit 2) A5R ((C1t),(a.2,()))) .fail)
noncomputable def B3r (x0:List Int) (x18:Int) (h0:List Int):CT:=A3R (O9 x0 x18 h0)
noncomputable abbrev A1v {α:Sort _} (f:(List Int)→Int→(List Int)→α) (d:J8.den):α:=f d.1.1 d.1.2.2.2.2.2.2.2.2.2.2.2.2.2.2.2.2.2.2.1 d.2.1
noncomputable abbrev A34:J8.den→RT J8.den:=(A1v A8b)
noncomputable abbrev A7O (v:A0P):J8.den:=((v.1,(),(),(),(),(),(),(),(),(),(),(),(),(),(),(),(),(),v.2.1,C1s),(v.2.2,()))
theorem B2U:(∀ v:A0P,(A8b v.1 v.2.1 v.2.2).val=relS A7O A3R (A1B v.1 v.2.1 v.2.2))∧∀ a:X6,CEnd J8.den (A3R a):=⟨fun v=>(relB (relB (relB (relB rfl rfl) rfl) rfl) rfl),fun a=>(cendB aCD cendF)⟩
noncomputable def A7I (x0:List Int) (x18:Int) (h0:List Int):Option (Ex×St):=let z1:=decide (0≤x18∧x18<(h0.length:Int));(cond (decide (x18<(8:Int))) (cond z1 (cond (decide (0≤x18∧x18<(x0.length:Int))) (cond z1 (some (.normal,(⟨((.t false A3p x0)::.junk::.junk::.junk::.junk::.junk::.junk::.junk::(.all 0 1)::.junk::.junk::.junk::.junk::.junk::.junk::.junk::.junk::.junk::(ti (IntKind.wrap .i64 (x18+(1:Int))))::C0Q),[(.rows 3 true (.int .i64) (h0.set x18.toNat (iand .i64 (IntKind.wrap .i64 ((h0.getD x18.toNat (0:Int))+(x0.getD x18.toNat (0:Int)))) (4294967295:Int))))],0,[]⟩:St))) none) none) none) (some ((.exit 2),(⟨(.junk::.junk::.junk::.junk::.junk::.junk::.junk::.junk::(.all 0 1)::B9k),[(.rows 3 true (.int .i64) h0)],0,[]⟩:St))))
theorem B1V:RdA G23 aLn 2 A14 J8 0 [] (kepts [] [(2,[8])]) (A1v A7I):=by
 intro d
 kernel_rfl
theorem B11:∀ d:J8.den,(A1v A7I) d=(A34 d).opt 0 []:=by
 intro d
 kernel_rfl
noncomputable abbrev A6G:St→Option Tree:=J8.say 0 [] [] (A1v B3r)
theorem B2p:aPL A6G A14:=SS.wp2 hlz [] A34 B1V B11 _ (fun d=>Runs.ofI2 (step:=A34) A7O B2U rfl (d.1.1,d.1.2.2.2.2.2.2.2.2.2.2.2.2.2.2.2.2.2.2.1,d.2.1))
noncomputable def A0A (a0 a1 a2:List Int):=let z1:=C7 a0 a2 (F5 a1) (0:Int) (([]:List Int)++a0);O9 (z1.2.1) (0:Int) (z1.2.2)
noncomputable def A06 (a0 a1 a2:List Int):List Int:=((A0A a0 a1 a2).2)
noncomputable abbrev B1s (r:List Int):AV×List AObj:=((.t true A3p r),[])
noncomputable abbrev A8k:pshsDen A2P→AV×List AObj:=fun d=>B1s (A06 d.1 d.2.1 d.2.2.1)
noncomputable def X2 (a0 a1 a2:List Int):Bool:=(A0n a1)&&((decide ((([]:List Int).length+a0.length)*8≤MAXB))&&(((C7 a0 a2 (F5 a1) (0:Int) (([]:List Int)++a0)).1==0)&&((A0A a0 a1 a2).1==0)))
noncomputable abbrev A5j:pshsDen A2P→Bool:=fun d=>X2 d.1 d.2.1 d.2.2.1
noncomputable abbrev B5O:Nat→St→Option Tree:=fun b=>match b with | 0=>A6F | 2=>A6G | _=>fun _=>none
theorem B4j:RunP true G23 (B5O) Try.f111 A2P A5j A8k:=by
 rintro ⟨a0,⟨a1,⟨a2,_⟩⟩⟩ hp
 change X2 a0 a1 a2=true at hp
 unfold X2 at hp
 refine Eq.trans (b:=(let z1:=A0A a0 a1 a2;cond (A0n a1) (cond (decide ((([]:List Int).length+a0.length)*8≤MAXB)) (cond ((C7 a0 a2 (F5 a1) (0:Int) (([]:List Int)++a0)).1==0) (cond (z1.1==0) (some (B1s (z1.2))) none) none) none) none)) (by kernel_rfl) ?_
 exact (cndA hp fun hp=>(cndA hp fun hp=>(cndA hp fun hp=>(cndT hp fun _h=>rfl))))
theorem B52:aPP 111 (sumOf A2P A5j A8k):=pcD true G23 (by
  rw [show loopsIn 0 (bodyOf Try.f111)=[(0,A13),(2,A14)] by kernel_rfl];intro p hp;simp only [List.mem_cons,List.mem_nil_iff,or_false] at hp
  rcases hp with rfl | rfl
  ·exact B2o
  ·exact B2p) B4j
noncomputable def S24:Tab:=Tab.add S23 111 (lift (sumOf A2P A5j A8k))
noncomputable def B94:FuncId→Bool:=qadd B93 111
theorem G24:aPG S24 B94:=G23.addQ B52 (cbl Try.f111) (fun _=>rfl)

abbrev B9G:List Sh:=.junk::.junk::.junk::.junk::.junk::.junk::.junk::B6j
abbrev B8Z:List Sh:=.junk::.junk::B9G
abbrev u54:=((),(),(),(),(),(),(),u47)
abbrev u56:=((),(),u54)
abbrev B9A:List AV:=.junk::.junk::.junk::.junk::.junk::.junk::.junk::B6i
abbrev B8S:List AV:=.junk::.junk::B9A
abbrev C09:List Sh:=.junk::.junk::.junk::.junk::.junk::B6j
abbrev C1M:List Sh:=.junk::C09
abbrev u52:=((),(),(),(),(),u47)
abbrev u61:=((),(),(),(),(),u56)
abbrev C0W:List AV:=.junk::.junk::.junk::.junk::.junk::B6i
abbrev C1B:List AV:=.junk::C0W
abbrev A4i:List PSh:=[.t B4]
noncomputable def A20:Code:=((loopsIn 0 (bodyOf Try.f65)).getD 0 (0,.skip)).2
noncomputable def A21:Code:=((loopsIn 0 (bodyOf Try.f65)).getD 1 (0,.skip)).2
abbrev N2:SS:=⟨(.junk::.junk::.junk::.t true B4::.t true A3p::.t true A3p::tI::B9G),[]⟩
abbrev A7i:SS:=⟨(.junk::.junk::.junk::.junk::.t true A3p::B8Z),[]⟩
noncomputable def A9P (x3 x4 x5:List Int) (x6:Int):RT N2.den:=let z1:=IntKind.wrap .i64 (x6+(64:Int));let z2:=(x3.take z1.toNat).drop x6.toNat;(.br (decide (x6<(x3.length:Int))) (.br (decide (0≤x6∧x6≤z1∧z1≤(x3.length:Int))) (.br (X2 x4 z2 x5) (.next (((),(),(),x3,(A06 x4 z2 x5),x5,IntKind.wrap .i64 (x6+(64:Int)),u54),())) .fail) .fail) (.done (.exit 0) A7i (((),(),(),(),x4,u56),())))
abbrev A1L:=(List Int)×(List Int)×(List Int)×(Int)
abbrev A0q:=Nat×(List Int)
def A4Z:A0q:=(99,([]:List Int))
noncomputable def A2v (x3 x4 x5:List Int) (x6:Int):A1L ⊕ A0q:=let z1:=IntKind.wrap .i64 (x6+(64:Int));let z2:=(x3.take z1.toNat).drop x6.toNat;(cond (decide (x6<(x3.length:Int))) (cond (decide (0≤x6∧x6≤z1∧z1≤(x3.length:Int))) (cond (X2 x4 z2 x5) (.inl (x3,(A06 x4 z2 x5),x5,IntKind.wrap .i64 (x6+(64:Int)))) (.inr A4Z)) (.inr A4Z)) (.inr (0,x4)))
noncomputable def A0Y (x3 x4 x5:List Int) (x6:Int):A0q:=itX (fun v:A1L=>A2v v.1 v.2.1 v.2.2.1 v.2.2.2) A4Z (x3,x4,x5,x6)
noncomputable def A4P (a:A0q):CT:=(.br (a.1==0) (.done (.exit 0) A7i (((),(),(),(),a.2,u56),())) .fail)
noncomputable def B4w (x3 x4 x5:List Int) (x6:Int):CT:=A4P (A0Y x3 x4 x5 x6)
noncomputable abbrev A2l {α:Sort _} (f:(List Int)→(List Int)→(List Int)→Int→α) (d:N2.den):α:=f d.1.2.2.2.1 d.1.2.2.2.2.1 d.1.2.2.2.2.2.1 d.1.2.2.2.2.2.2.1
noncomputable abbrev A5q:N2.den→RT N2.den:=(A2l A9P)
noncomputable abbrev A9n (v:A1L):N2.den:=(((),(),(),v.1,v.2.1,v.2.2.1,v.2.2.2,u54),())
theorem B35:(∀ v:A1L,(A9P v.1 v.2.1 v.2.2.1 v.2.2.2).val=relS A9n A4P (A2v v.1 v.2.1 v.2.2.1 v.2.2.2))∧∀ a:A0q,CEnd N2.den (A4P a):=⟨fun v=>(relB (relB (relB rfl rfl) rfl) rfl),fun a=>(cendB aCD cendF)⟩
noncomputable def A87 (x3 x4 x5:List Int) (x6:Int):Option (Ex×St):=let z1:=IntKind.wrap .i64 (x6+(64:Int));let z2:=(x3.take z1.toNat).drop x6.toNat;(cond (decide (x6<(x3.length:Int))) (cond (decide (0≤x6∧x6≤z1∧z1≤(x3.length:Int))) (cond (X2 x4 z2 x5) (some (.normal,(⟨(.junk::.junk::.junk::(.t true B4 x3)::(.t true A3p (A06 x4 z2 x5))::(.t true A3p x5)::(ti z1)::B9A),[],0,[]⟩:St))) none) none) (some ((.exit 0),(⟨(.junk::.junk::.junk::.junk::(.t true A3p x4)::B8S),[],0,[]⟩:St))))
theorem B2y:RdA G24 aLn 0 A20 N2 0 [] (kepts [] [(0,[4])]) (A2l A87):=by
 intro d
 kernel_rfl
theorem B2K:∀ d:N2.den,(A2l A87) d=(A5q d).opt 0 []:=by
 intro d
 kernel_rfl
noncomputable abbrev A7Y:St→Option Tree:=N2.say 0 [] [(4,1000000,.bool)] (A2l B4w)
theorem B3K:aPL A7Y A20:=SS.wp2 hlz [(4,1000000,.bool)] A5q B2y B2K _ (fun d=>Runs.ofI2 (step:=A5q) A9n B35 rfl (d.1.2.2.2.1,d.1.2.2.2.2.1,d.1.2.2.2.2.2.1,d.1.2.2.2.2.2.2.1))
abbrev N3:SS:=⟨(.junk::.junk::.junk::.junk::.t true A3p::.junk::.junk::.all 0 1::tI::C09),[.rows 5 true (.int .u8)]⟩
abbrev A7j:SS:=⟨(.junk::.junk::.junk::.junk::.junk::.junk::.junk::.all 0 1::C1M),[.rows 5 true (.int .u8)]⟩
noncomputable def A9Q (x4:List Int) (x8:Int) (h0:List Int):RT N3.den:=let z1:=x4.getD x8.toNat (0:Int);let z2:=decide (0≤x8∧x8<(x4.length:Int));let z3:=Int.fdiv z1 (2 ^ (24));let z4:=Int.fdiv z1 (2 ^ (16));let z5:=Int.fdiv z1 (2 ^ (8));(.br (decide (x8<(8:Int))) (.br z2 (.br z2 (.br z2 (.br z2 (.br (decide ((h0.length+[IntKind.wrap .u8 z3,IntKind.wrap .u8 z4,IntKind.wrap .u8 z5,IntKind.wrap .u8 z1].length)*1≤MAXB)) (.next (((),(),(),(),x4,(),(),(),IntKind.wrap .i64 (x8+(1:Int)),u52),(h0++[IntKind.wrap .u8 z3,IntKind.wrap .u8 z4,IntKind.wrap .u8 z5,IntKind.wrap .u8 z1],()))) .fail) .fail) .fail) .fail) .fail) (.done (.exit 2) A7j ((u61),(h0,()))))
abbrev A1M:=(List Int)×(Int)×(List Int)
abbrev A0r:=Nat×(List Int)
def Y2:A0r:=(99,([]:List Int))
noncomputable def A2w (x4:List Int) (x8:Int) (h0:List Int):A1M ⊕ A0r:=let z1:=x4.getD x8.toNat (0:Int);let z2:=decide (0≤x8∧x8<(x4.length:Int));let z3:=Int.fdiv z1 (2 ^ (24));let z4:=Int.fdiv z1 (2 ^ (16));let z5:=Int.fdiv z1 (2 ^ (8));(cond (decide (x8<(8:Int))) (cond z2 (cond z2 (cond z2 (cond z2 (cond (decide ((h0.length+[IntKind.wrap .u8 z3,IntKind.wrap .u8 z4,IntKind.wrap .u8 z5,IntKind.wrap .u8 z1].length)*1≤MAXB)) (.inl (x4,IntKind.wrap .i64 (x8+(1:Int)),h0++[IntKind.wrap .u8 z3,IntKind.wrap .u8 z4,IntKind.wrap .u8 z5,IntKind.wrap .u8 z1])) (.inr Y2)) (.inr Y2)) (.inr Y2)) (.inr Y2)) (.inr Y2)) (.inr (0,h0)))
noncomputable def T2 (x4:List Int) (x8:Int) (h0:List Int):A0r:=itX (fun v:A1M=>A2w v.1 v.2.1 v.2.2) Y2 (x4,x8,h0)
noncomputable def A4Q (a:A0r):CT:=(.br (a.1==0) (.done (.exit 2) A7j ((u61),(a.2,()))) .fail)
noncomputable def B4x (x4:List Int) (x8:Int) (h0:List Int):CT:=A4Q (T2 x4 x8 h0)
noncomputable abbrev A2m {α:Sort _} (f:(List Int)→Int→(List Int)→α) (d:N3.den):α:=f d.1.2.2.2.2.1 d.1.2.2.2.2.2.2.2.2.1 d.2.1
noncomputable abbrev A5r:N3.den→RT N3.den:=(A2m A9Q)
noncomputable abbrev A9o (v:A1M):N3.den:=(((),(),(),(),v.1,(),(),(),v.2.1,u52),(v.2.2,()))
theorem B36:(∀ v:A1M,(A9Q v.1 v.2.1 v.2.2).val=relS A9o A4Q (A2w v.1 v.2.1 v.2.2))∧∀ a:A0r,CEnd N3.den (A4Q a):=⟨fun v=>by repeat' first | apply relB | rfl,fun a=>(cendB aCD cendF)⟩
noncomputable def A88 (x4:List Int) (x8:Int) (h0:List Int):Option (Ex×St):=let z1:=x4.getD x8.toNat (0:Int);let z2:=decide (0≤x8∧x8<(x4.length:Int));let z3:=Int.fdiv z1 (2 ^ (24));let z4:=Int.fdiv z1 (2 ^ (16));let z5:=Int.fdiv z1 (2 ^ (8));(cond (decide (x8<(8:Int))) (cond z2 (cond z2 (cond z2 (cond z2 (cond (decide ((h0.length+[IntKind.wrap .u8 z3,IntKind.wrap .u8 z4,IntKind.wrap .u8 z5,IntKind.wrap .u8 z1].length)*1≤MAXB)) (some (.normal,(⟨(.junk::.junk::.junk::.junk::(.t true A3p x4)::.junk::.junk::(.all 0 1)::(ti (IntKind.wrap .i64 (x8+(1:Int))))::C0W),[(.rows 5 true (.int .u8) (h0++[IntKind.wrap .u8 z3,IntKind.wrap .u8 z4,IntKind.wrap .u8 z5,IntKind.wrap .u8 z1]))],0,[]⟩:St))) none) none) none) none) none) (some ((.exit 2),(⟨(.junk::.junk::.junk::.junk::.junk::.junk::.junk::(.all 0 1)::C1B),[(.rows 5 true (.int .u8) h0)],0,[]⟩:St))))
theorem B2z:RdA G24 aLn 2 A21 N3 0 [] (kepts [] [(2,[7])]) (A2m A88):=by
 intro d
 kernel_rfl
theorem B2L:∀ d:N3.den,(A2m A88) d=(A5r d).opt 0 []:=by
 intro d
 kernel_rfl
noncomputable abbrev A7Z:St→Option Tree:=N3.say 0 [] [] (A2m B4x)
theorem B3L:aPL A7Z A21:=SS.wp2 hlz [] A5r B2z B2L _ (fun d=>Runs.ofI2 (step:=A5r) A9o B36 rfl (d.1.2.2.2.2.1,d.1.2.2.2.2.2.2.2.2.1,d.2.1))
noncomputable def A0i (a0:List Int):=A0Y (F9 a0) [(1779033703:Int),(3144134277:Int),(1013904242:Int),(2773480762:Int),(1359893119:Int),(2600822924:Int),(528734635:Int),(1541459225:Int)] A5N (0:Int)
noncomputable def I7 (a0:List Int):ByteArray:=(⟨(((T2 ((A0i a0).2) (0:Int) ([]:List Int)).2).map fun n=>UInt8.ofNat n.toNat).toArray⟩:ByteArray)
noncomputable abbrev B22 (r:ByteArray):AV×List AObj:=((.t true .str r),[])
noncomputable abbrev A97:pshsDen A4i→AV×List AObj:=fun d=>B22 (I7 d.1)
noncomputable def M6 (a0:List Int):Bool:=(A1j a0)&&(((A0i a0).1==0)&&((T2 ((A0i a0).2) (0:Int) ([]:List Int)).1==0))
noncomputable abbrev A6q:pshsDen A4i→Bool:=fun d=>M6 d.1
noncomputable abbrev B6X:Nat→St→Option Tree:=fun b=>match b with | 0=>A7Y | 2=>A7Z | _=>fun _=>none
theorem B5q:RunP true G24 (B6X) Try.f65 A4i A6q A97:=by
 rintro ⟨a0,_⟩ hp
 change M6 a0=true at hp
 unfold M6 at hp
 refine Eq.trans (b:=(cond (A1j a0) (cond ((A0i a0).1==0) (cond ((T2 ((A0i a0).2) (0:Int) ([]:List Int)).1==0) (some (B22 (⟨(((T2 ((A0i a0).2) (0:Int) ([]:List Int)).2).map fun n=>UInt8.ofNat n.toNat).toArray⟩:ByteArray))) none) none) none)) (by kernel_rfl) ?_
 exact (cndA hp fun hp=>(cndA hp fun hp=>(cndT hp fun _h=>rfl)))
theorem B7e:aPP 65 (sumOf A4i A6q A97):=pcD true G24 (by
  rw [show loopsIn 0 (bodyOf Try.f65)=[(0,A20),(2,A21)] by kernel_rfl];intro p hp;simp only [List.mem_cons,List.mem_nil_iff,or_false] at hp
  rcases hp with rfl | rfl
  ·exact B3K
  ·exact B3L) B5q
noncomputable def S25:Tab:=Tab.add S24 65 (lift (sumOf A4i A6q A97))
noncomputable def B95:FuncId→Bool:=qadd B94 65
theorem G25:aPG S25 B95:=G24.addQ B7e (cbl Try.f65) (fun _=>rfl)

abbrev A4p:List PSh:=[.agg [(.int .i64),(.int .i64),tq2]]
noncomputable def A0j (a0 a1:Int) (a2:Lq1):=C0 ([]:List Int) ((((C0 (C0 ([]:List Int) a0) a1)++(A05 a2)).length:Nat):Int)
noncomputable def A7a (a0 a1:Int) (a2:Lq1):List Int:=let z2:=([]:List Int);let z1:=C0 (C0 z2 a0) a1;(cond (!(E1 a0 a1 a2)) z2 (cond (a0==(1:Int)) (((A0j a0 a1 a2)++(z1++(A05 a2)))++strInts ((I7 (z1++(A05 a2))).extract (0:Int).toNat (4:Int).toNat)) (((C0 z2 ((z1.length:Nat):Int))++z1)++strInts ((I7 z1).extract (0:Int).toNat (4:Int).toNat))))
noncomputable abbrev A2G (r:List Int):AV×List AObj:=((.all 0 1),[(.rows 5 true (.int .u8) r)])
noncomputable abbrev B0e:pshsDen A4p→AV×List AObj:=fun d=>A2G (A7a d.1.1 d.1.2.1 d.1.2.2.1)
noncomputable def Y6 (a0 a1:Int) (a2:Lq1):Bool:=let z3:=([]:List Int);let z1:=C0 (C0 z3 a0) a1;let z2:=z1++(A05 a2);let z4:=C0 z3 ((z1.length:Nat):Int);let z5:=A0j a0 a1 a2;(O5 a0 a1 a2)&&(cond (!(E1 a0 a1 a2)) true ((C3 z3 a0)&&((C3 (C0 z3 a0) a1)&&(cond (a0==(1:Int)) ((A1k a2)&&((decide ((z1.length+(A05 a2).length)*1≤MAXB))&&((C3 z3 ((z2.length:Nat):Int))&&((decide ((z5.length+z2.length)*1≤MAXB))&&((M6 z2)&&((decide (0≤(0:Int)∧(0:Int)≤(4:Int)∧(4:Int)≤(((I7 z2).size:Nat):Int)))&&(decide ((z5++z2).length+((I7 z2).extract (0:Int).toNat (4:Int).toNat).size≤MAXB)))))))) ((C3 z3 ((z1.length:Nat):Int))&&((decide ((z4.length+z1.length)*1≤MAXB))&&((M6 z1)&&((decide (0≤(0:Int)∧(0:Int)≤(4:Int)∧(4:Int)≤(((I7 z1).size:Nat):Int)))&&(decide ((z4++z1).length+((I7 z1).extract (0:Int).toNat (4:Int).toNat).size≤MAXB))))))))))
noncomputable abbrev A6x:pshsDen A4p→Bool:=fun d=>Y6 d.1.1 d.1.2.1 d.1.2.2.1
theorem B5x:RunP false G25 aLn Try.f16 A4p A6x B0e:=by
 rintro ⟨⟨a0,⟨a1,⟨a2,_⟩⟩⟩,_⟩ hp
 change Y6 a0 a1 a2=true at hp
 unfold Y6 at hp
 refine Eq.trans (b:=(let z4:=([]:List Int);let z1:=C0 (C0 z4 a0) a1;let z2:=z1++(A05 a2);let z3:=C0 z4 ((z1.length:Nat):Int);let z5:=(I7 z2).extract (0:Int).toNat (4:Int).toNat;let z6:=(I7 z1).extract (0:Int).toNat (4:Int).toNat;let z7:=A0j a0 a1 a2;cond (O5 a0 a1 a2) (cond (!(E1 a0 a1 a2)) (some (A2G z4)) (cond (C3 z4 a0) (cond (C3 (C0 z4 a0) a1) (cond (a0==(1:Int)) (cond (A1k a2) (cond (decide ((z1.length+(A05 a2).length)*1≤MAXB)) (cond (C3 z4 ((z2.length:Nat):Int)) (cond (decide ((z7.length+z2.length)*1≤MAXB)) (cond (M6 z2) (cond (decide (0≤(0:Int)∧(0:Int)≤(4:Int)∧(4:Int)≤(((I7 z2).size:Nat):Int))) (cond (decide ((z7++z2).length+z5.size≤MAXB)) (some (A2G ((z7++z2)++strInts z5))) none) none) none) none) none) none) none) (cond (C3 z4 ((z1.length:Nat):Int)) (cond (decide ((z3.length+z1.length)*1≤MAXB)) (cond (M6 z1) (cond (decide (0≤(0:Int)∧(0:Int)≤(4:Int)∧(4:Int)≤(((I7 z1).size:Nat):Int))) (cond (decide ((z3++z1).length+z6.size≤MAXB)) (some (A2G ((z3++z1)++strInts z6))) none) none) none) none) none)) none) none)) none)) (by kernel_rfl) ?_
 exact (cndA hp fun hp=>(M2 A2G hp (fun hp=>rfl) (fun hp=>(cndA hp fun hp=>(cndA hp fun hp=>(M2 A2G hp (fun hp=>(cndA hp fun hp=>(cndA hp fun hp=>(cndA hp fun hp=>(cndA hp fun hp=>(cndA hp fun hp=>(cndA hp fun hp=>(cndT hp fun _h=>rfl)))))))) (fun hp=>(cndA hp fun hp=>(cndA hp fun hp=>(cndA hp fun hp=>(cndA hp fun hp=>(cndT hp fun _h=>rfl))))))))))))
theorem B7l:aPP 16 (sumOf A4p A6x B0e):=pcD false G25 hlz B5x
noncomputable def S26:Tab:=Tab.add S25 16 (lift (sumOf A4p A6x B0e))
noncomputable def B96:FuncId→Bool:=B95
theorem G26:aPG S26 B96:=G25.add B7l (cbl Try.f16) (by kernel_rfl)

abbrev Z6:List PSh:=[.t B4]
noncomputable def E8 (a0:List Int):=let z1:=M3 ((A1o a0).1) ((A1o a0).2.1) ((A1o a0).2.2);A7a (z1.1) (z1.2.1) (z1.2.2.1)
noncomputable def L5 (a0:List Int):=let z1:=M3 ((A1o a0).1) ((A1o a0).2.1) ((A1o a0).2.2);C8 (5:Int) (z1.2.2.2.1) (z1.2.2.2.2.1) (z1.2.2.2.2.2)
noncomputable def L6 (a0:List Int):=let z1:=L5 a0;C8 (((E8 a0).length:Nat):Int) (z1.2.1) (z1.2.2.1) (z1.2.2.2)
noncomputable def X0 (a0:List Int):=let z1:=L6 a0;C8 (8:Int) (z1.2.1) (z1.2.2.1) (z1.2.2.2)
noncomputable def A3b (a0:List Int):=let z1:=X0 a0;let z2:=((L6 a0).1).toNat;H7 (z1.2.1) (z1.2.2.1) (z1.2.2.2) [(0:Int),(0:Int),(0:Int),(1:Int),(-1:Int),((((E8 a0).set z2 (ixor .u8 ((E8 a0).getD z2 (0:Int)) (IntKind.wrap .u8 ((1:Int)*2 ^ (min (Int.toNat (IntKind.wrap .u64 (z1.1))) (IntKind.bits .u8)))))).length:Nat):Int)]
noncomputable def A3d (a0:List Int):=let z1:=L6 a0;H7 (z1.2.1) (z1.2.2.1) (z1.2.2.2) [(0:Int),(0:Int),(0:Int),(1:Int),(-1:Int),(((z1.1).toNat:Nat):Int)]
noncomputable def A3e (a0:List Int):=let z1:=L5 a0;H7 (z1.2.1) (z1.2.2.1) (z1.2.2.2) [(0:Int),(0:Int),(0:Int),(1:Int),(-1:Int),((((E8 a0)++(E8 a0)).length:Nat):Int)]
noncomputable def A3f (a0:List Int):=let z1:=L5 a0;H7 (z1.2.1) (z1.2.2.1) (z1.2.2.2) [(0:Int),(0:Int),(0:Int),(1:Int),(-1:Int),(((E8 a0).length:Nat):Int)]
noncomputable def F4 (a0:List Int):Int×List Int:=let z1:=E8 a0;let z2:=((L6 a0).1).toNat;let z3:=(L5 a0).1;(cond (z3==(0:Int)) (((A3b a0).1),z1.set z2 (ixor .u8 (z1.getD z2 (0:Int)) (IntKind.wrap .u8 ((1:Int)*2 ^ (min (Int.toNat (IntKind.wrap .u64 ((X0 a0).1))) (IntKind.bits .u8)))))) (cond (z3==(1:Int)) (((A3d a0).1),z1.take z2) (cond (z3==(2:Int)) (((A3e a0).1),z1++z1) (((A3f a0).1),z1))))
noncomputable abbrev K0 (r:Int×List Int):AV×List AObj:=((.tup [(.all 0 1),(ti r.1)]),[(.rows 5 true (.int .u8) r.2)])
noncomputable abbrev A3V:pshsDen Z6→AV×List AObj:=fun d=>K0 (F4 d.1)
noncomputable def P2 (a0:List Int):Bool:=let z2:=L5 a0;let z3:=L6 a0;let z4:=E8 a0;let z5:=X0 a0;let z6:=C2 ((z4.length:Nat):Int) (z2.2.1) (z2.2.2.1) (z2.2.2.2);let z7:=decide (0≤(z3.1)∧(z3.1)<((z4.length:Nat):Int));let z8:=A1o a0;let z1:=M3 (z8.1) (z8.2.1) (z8.2.2);(A3j a0)&&((A1W (z8.1) (z8.2.1) (z8.2.2))&&((Y6 (z1.1) (z1.2.1) (z1.2.2.1))&&((C2 (5:Int) (z1.2.2.2.1) (z1.2.2.2.2.1) (z1.2.2.2.2.2))&&(cond ((z2.1)==(0:Int)) (z6&&(z7&&((C2 (8:Int) (z3.2.1) (z3.2.2.1) (z3.2.2.2))&&((decide (0≤(IntKind.wrap .u64 (z5.1))))&&(z7&&(F3 (z5.2.1) (z5.2.2.1) (z5.2.2.2) [(0:Int),(0:Int),(0:Int),(1:Int),(-1:Int),(((z4.set ((z3.1).toNat) (ixor .u8 (z4.getD ((z3.1).toNat) (0:Int)) (IntKind.wrap .u8 ((1:Int)*2 ^ (min (Int.toNat (IntKind.wrap .u64 (z5.1))) (IntKind.bits .u8)))))).length:Nat):Int)])))))) (cond ((z2.1)==(1:Int)) (z6&&((decide (0≤(0:Int)∧(0:Int)≤(z3.1)∧(z3.1)≤((z4.length:Nat):Int)))&&(F3 (z3.2.1) (z3.2.2.1) (z3.2.2.2) [(0:Int),(0:Int),(0:Int),(1:Int),(-1:Int),(((z3.1).toNat:Nat):Int)]))) (cond ((z2.1)==(2:Int)) ((decide ((z4.length+z4.length)*1≤MAXB))&&(F3 (z2.2.1) (z2.2.2.1) (z2.2.2.2) [(0:Int),(0:Int),(0:Int),(1:Int),(-1:Int),(((z4++z4).length:Nat):Int)])) (F3 (z2.2.1) (z2.2.2.1) (z2.2.2.2) [(0:Int),(0:Int),(0:Int),(1:Int),(-1:Int),((z4.length:Nat):Int)])))))))
noncomputable abbrev A2f:pshsDen Z6→Bool:=fun d=>P2 d.1
theorem B09:RunP false G26 aLn Try.f37 Z6 A2f A3V:=by
 rintro ⟨a0,_⟩ hp
 change P2 a0=true at hp
 unfold P2 at hp
 refine Eq.trans (b:=(let z2:=E8 a0;let z3:=L6 a0;let z4:=L5 a0;let z5:=X0 a0;let z6:=C2 ((z2.length:Nat):Int) (z4.2.1) (z4.2.2.1) (z4.2.2.2);let z7:=decide (0≤(z3.1)∧(z3.1)<((z2.length:Nat):Int));let z8:=A1o a0;let z1:=M3 (z8.1) (z8.2.1) (z8.2.2);let z9:=z2.getD ((z3.1).toNat) (0:Int);cond (A3j a0) (cond (A1W (z8.1) (z8.2.1) (z8.2.2)) (cond (Y6 (z1.1) (z1.2.1) (z1.2.2.1)) (cond (C2 (5:Int) (z1.2.2.2.1) (z1.2.2.2.2.1) (z1.2.2.2.2.2)) (cond ((z4.1)==(0:Int)) (cond z6 (cond z7 (cond (C2 (8:Int) (z3.2.1) (z3.2.2.1) (z3.2.2.2)) (cond (decide (0≤(IntKind.wrap .u64 (z5.1)))) (cond z7 (cond (F3 (z5.2.1) (z5.2.2.1) (z5.2.2.2) [(0:Int),(0:Int),(0:Int),(1:Int),(-1:Int),(((z2.set ((z3.1).toNat) (ixor .u8 z9 (IntKind.wrap .u8 ((1:Int)*2 ^ (min (Int.toNat (IntKind.wrap .u64 (z5.1))) (IntKind.bits .u8)))))).length:Nat):Int)]) (some (K0 (((A3b a0).1),z2.set ((z3.1).toNat) (ixor .u8 z9 (IntKind.wrap .u8 ((1:Int)*2 ^ (min (Int.toNat (IntKind.wrap .u64 (z5.1))) (IntKind.bits .u8)))))))) none) none) none) none) none) none) (cond ((z4.1)==(1:Int)) (cond z6 (cond (decide (0≤(0:Int)∧(0:Int)≤(z3.1)∧(z3.1)≤((z2.length:Nat):Int))) (cond (F3 (z3.2.1) (z3.2.2.1) (z3.2.2.2) [(0:Int),(0:Int),(0:Int),(1:Int),(-1:Int),(((z3.1).toNat:Nat):Int)]) (some (K0 (((A3d a0).1),z2.take ((z3.1).toNat)))) none) none) none) (cond ((z4.1)==(2:Int)) (cond (decide ((z2.length+z2.length)*1≤MAXB)) (cond (F3 (z4.2.1) (z4.2.2.1) (z4.2.2.2) [(0:Int),(0:Int),(0:Int),(1:Int),(-1:Int),(((z2++z2).length:Nat):Int)]) (some (K0 (((A3e a0).1),z2++z2))) none) none) (cond (F3 (z4.2.1) (z4.2.2.1) (z4.2.2.2) [(0:Int),(0:Int),(0:Int),(1:Int),(-1:Int),((z2.length:Nat):Int)]) (some (K0 (((A3f a0).1),z2))) none)))) none) none) none) none)) (by kernel_rfl) ?_
 exact (cndA hp fun hp=>(cndA hp fun hp=>(cndA hp fun hp=>(cndA hp fun hp=>(M2 K0 hp (fun hp=>(cndA hp fun hp=>(cndA hp fun hp=>(cndA hp fun hp=>(cndA hp fun hp=>(cndA hp fun hp=>(cndT hp fun _h=>rfl))))))) (fun hp=>(M2 K0 hp (fun hp=>(cndA hp fun hp=>(cndA hp fun hp=>(cndT hp fun _h=>rfl)))) (fun hp=>(M2 K0 hp (fun hp=>(cndA hp fun hp=>(cndT hp fun _h=>rfl))) (fun hp=>(cndT hp fun _h=>rfl)))))))))))
theorem B2h:aPP 37 (sumOf Z6 A2f A3V):=pcD false G26 hlz B09
noncomputable def S27:Tab:=Tab.add S26 37 (lift (sumOf Z6 A2f A3V))
noncomputable def B97:FuncId→Bool:=B96
theorem G27:aPG S27 B97:=G26.add B2h (cbl Try.f37) (by kernel_rfl)

abbrev A2L:List PSh:=[.t (.int .i64),.t (.int .i64),.t (.int .i64)]
noncomputable def U2 (a0 a1 a2:Int):Bool:=(cond (decide (a0 ≥ a1)) (decide (a0≤a2)) false)
noncomputable abbrev A4W (r:Bool):AV×List AObj:=((.t true .bool r),[])
noncomputable abbrev A8g:pshsDen A2L→AV×List AObj:=fun d=>A4W (U2 d.1 d.2.1 d.2.2.1)
noncomputable abbrev A5f:pshsDen A2L→Bool:=fun d=>true
theorem B4d:RunP true G27 aLn Try.f101 A2L A5f A8g:=by
 rintro ⟨a0,⟨a1,⟨a2,_⟩⟩⟩ hp
 refine Eq.trans (b:=(cond (decide (a0 ≥ a1)) (some (A4W (decide (a0≤a2)))) (some (A4W false)))) (by kernel_rfl) ?_
 exact (L4 A4W (fun _h=>rfl) (fun _h=>rfl))
theorem B5W:aPP 101 (sumOf A2L A5f A8g):=pcD true G27 hlz B4d
noncomputable def S28:Tab:=Tab.add S27 101 (lift (sumOf A2L A5f A8g))
noncomputable def B98:FuncId→Bool:=qadd B97 101
theorem G28:aPG S28 B98:=G27.addQ B5W (cbl Try.f101) (fun _=>rfl)

abbrev C1L:List Sh:=.junk::.junk::B6j
abbrev C1N:List Sh:=.junk::B9G
abbrev u49:=((),(),u47)
abbrev C0V:List AV:=.junk::.junk::B6i
abbrev C1C:List AV:=.junk::B9A
abbrev A4b:List PSh:=[.t B4,.t (.int .i64)]
abbrev M8:SS:=⟨(.t false B4::tI::.junk::.junk::.junk::.junk::.junk::tI::tI::B6j),[]⟩
abbrev U6:SS:=⟨(.junk::.junk::.junk::.junk::tI::tI::.t true .bool::C1L),[]⟩
abbrev A3I:SS:=⟨(.junk::C1N),[]⟩
noncomputable def A9M (x0:List Int) (x1 x7 x8:Int):RT M8.den:=let z2:=IntKind.wrap .i64 ((7:Int)*x8);let z3:=IntKind.wrap .i64 (x0.getD x1.toNat (0:Int));let z1:=iand .i64 z3 (127:Int);let z4:=IntKind.bits .i64;(.br (decide (x8<(5:Int))) (.br (decide (x1<(x0.length:Int))) (.br (decide (0≤x1∧x1<(x0.length:Int))) (.br (decide (0≤(IntKind.wrap .u64 z2))) (.br (decide (z3<(128:Int))) (.br (z3==(0:Int)) (.br (decide (x8 > (0:Int))) (.done .ret U6 (((),(),(),(),(0:Int),(0:Int),false,u49),())) (.br (decide ((ior .i64 x7 (IntKind.wrap .i64 (z1*2 ^ (min (Int.toNat (IntKind.wrap .u64 z2)) z4)))) > (1000000000:Int))) (.done .ret U6 (((),(),(),(),(0:Int),(0:Int),false,u49),())) (.done .ret U6 (((),(),(),(),ior .i64 x7 (IntKind.wrap .i64 (z1*2 ^ (min (Int.toNat (IntKind.wrap .u64 z2)) z4))),IntKind.wrap .i64 (x1+(1:Int)),true,u49),())))) (.br (decide ((ior .i64 x7 (IntKind.wrap .i64 (z1*2 ^ (min (Int.toNat (IntKind.wrap .u64 z2)) z4)))) > (1000000000:Int))) (.done .ret U6 (((),(),(),(),(0:Int),(0:Int),false,u49),())) (.done .ret U6 (((),(),(),(),ior .i64 x7 (IntKind.wrap .i64 (z1*2 ^ (min (Int.toNat (IntKind.wrap .u64 z2)) z4))),IntKind.wrap .i64 (x1+(1:Int)),true,u49),())))) (.next ((x0,IntKind.wrap .i64 (x1+(1:Int)),(),(),(),(),(),ior .i64 x7 (IntKind.wrap .i64 (z1*2 ^ (min (Int.toNat (IntKind.wrap .u64 z2)) z4))),IntKind.wrap .i64 (x8+(1:Int)),u47),()))) .fail) .fail) (.done (.exit 0) A3I ((u56),()))) (.done (.exit 0) A3I ((u56),())))
abbrev A3t:=(List Int)×(Int)×(Int)×(Int)
abbrev A1E:=Nat×(Int)×(Int)×(Bool)
def A4X:A1E:=(99,((0:Int):Int),((0:Int):Int),(false:Bool))
noncomputable def A08 (x0:List Int) (x1 x7 x8:Int):A3t ⊕ A1E:=let z2:=IntKind.wrap .i64 ((7:Int)*x8);let z3:=IntKind.wrap .i64 (x0.getD x1.toNat (0:Int));let z1:=iand .i64 z3 (127:Int);let z4:=IntKind.bits .i64;(cond (decide (x8<(5:Int))) (cond (decide (x1<(x0.length:Int))) (cond (decide (0≤x1∧x1<(x0.length:Int))) (cond (decide (0≤(IntKind.wrap .u64 z2))) (cond (decide (z3<(128:Int))) (cond (z3==(0:Int)) (cond (decide (x8 > (0:Int))) (.inr (0,(0:Int),(0:Int),false)) (cond (decide ((ior .i64 x7 (IntKind.wrap .i64 (z1*2 ^ (min (Int.toNat (IntKind.wrap .u64 z2)) z4)))) > (1000000000:Int))) (.inr (0,(0:Int),(0:Int),false)) (.inr (0,ior .i64 x7 (IntKind.wrap .i64 (z1*2 ^ (min (Int.toNat (IntKind.wrap .u64 z2)) z4))),IntKind.wrap .i64 (x1+(1:Int)),true)))) (cond (decide ((ior .i64 x7 (IntKind.wrap .i64 (z1*2 ^ (min (Int.toNat (IntKind.wrap .u64 z2)) z4)))) > (1000000000:Int))) (.inr (0,(0:Int),(0:Int),false)) (.inr (0,ior .i64 x7 (IntKind.wrap .i64 (z1*2 ^ (min (Int.toNat (IntKind.wrap .u64 z2)) z4))),IntKind.wrap .i64 (x1+(1:Int)),true)))) (.inl (x0,IntKind.wrap .i64 (x1+(1:Int)),ior .i64 x7 (IntKind.wrap .i64 (z1*2 ^ (min (Int.toNat (IntKind.wrap .u64 z2)) z4))),IntKind.wrap .i64 (x8+(1:Int))))) (.inr A4X)) (.inr A4X)) (.inr (1,((0:Int):Int),((0:Int):Int),(false:Bool)))) (.inr (1,((0:Int):Int),((0:Int):Int),(false:Bool))))
noncomputable def T1 (x0:List Int) (x1 x7 x8:Int):A1E:=itX (fun v:A3t=>A08 v.1 v.2.1 v.2.2.1 v.2.2.2) A4X (x0,x1,x7,x8)
noncomputable def A4M (a:A1E):CT:=(.br (a.1==0) (.done .ret U6 (((),(),(),(),a.2.1,a.2.2.1,a.2.2.2,u49),())) (.br (a.1==1) (.done (.exit 0) A3I ((u56),())) .fail))
noncomputable def B4t (x0:List Int) (x1 x7 x8:Int):CT:=A4M (T1 x0 x1 x7 x8)
noncomputable abbrev A2k {α:Sort _} (f:(List Int)→Int→Int→Int→α) (d:M8.den):α:=f d.1.1 d.1.2.1 d.1.2.2.2.2.2.2.2.1 d.1.2.2.2.2.2.2.2.2.1
noncomputable abbrev A5n:M8.den→RT M8.den:=(A2k A9M)
noncomputable def A51:Code:=((loopsIn 0 (bodyOf Try.f76)).getD 0 (0,.skip)).2
noncomputable abbrev A9k (v:A3t):M8.den:=((v.1,v.2.1,(),(),(),(),(),v.2.2.1,v.2.2.2,u47),())
theorem B32:(∀ v:A3t,(A9M v.1 v.2.1 v.2.2.1 v.2.2.2).val=relS A9k A4M (A08 v.1 v.2.1 v.2.2.1 v.2.2.2))∧∀ a:A1E,CEnd M8.den (A4M a):=⟨fun v=>by repeat' first | apply relB | rfl,fun a=>(cendB aCD (cendB aCD cendF))⟩
noncomputable def A84 (x0:List Int) (x1 x7 x8:Int):Option (Ex×St):=let z2:=IntKind.wrap .i64 (x0.getD x1.toNat (0:Int));let z3:=(⟨(.junk::.junk::.junk::.junk::(ti (0:Int))::(ti (0:Int))::(.t true .bool false)::C0V),[],0,[]⟩:St);let z4:=IntKind.wrap .i64 ((7:Int)*x8);let z5:=iand .i64 z2 (127:Int);let z6:=IntKind.bits .i64;let z7:=ti (IntKind.wrap .i64 (x1+(1:Int)));let z1:=(⟨(.junk::.junk::.junk::.junk::(ti (ior .i64 x7 (IntKind.wrap .i64 (z5*2 ^ (min (Int.toNat (IntKind.wrap .u64 z4)) z6)))))::z7::(.t true .bool true)::C0V),[],0,[]⟩:St);let z8:=(⟨(.junk::C1C),[],0,[]⟩:St);(cond (decide (x8<(5:Int))) (cond (decide (x1<(x0.length:Int))) (cond (decide (0≤x1∧x1<(x0.length:Int))) (cond (decide (0≤(IntKind.wrap .u64 z4))) (cond (decide (z2<(128:Int))) (cond (z2==(0:Int)) (cond (decide (x8 > (0:Int))) (some (.ret,z3)) (cond (decide ((ior .i64 x7 (IntKind.wrap .i64 (z5*2 ^ (min (Int.toNat (IntKind.wrap .u64 z4)) z6)))) > (1000000000:Int))) (some (.ret,z3)) (some (.ret,z1)))) (cond (decide ((ior .i64 x7 (IntKind.wrap .i64 (z5*2 ^ (min (Int.toNat (IntKind.wrap .u64 z4)) z6)))) > (1000000000:Int))) (some (.ret,z3)) (some (.ret,z1)))) (some (.normal,(⟨((.t false B4 x0)::z7::.junk::.junk::.junk::.junk::.junk::(ti (ior .i64 x7 (IntKind.wrap .i64 (z5*2 ^ (min (Int.toNat (IntKind.wrap .u64 z4)) z6)))))::(ti (IntKind.wrap .i64 (x8+(1:Int))))::B6i),[],0,[]⟩:St)))) none) none) (some ((.exit 0),z8))) (some ((.exit 0),z8)))
theorem B2s:RdA G28 aLn 0 A51 M8 0 [] (kepts [4,5,6] [(0,[])]) (A2k A84):=by
 intro d
 kernel_rfl
theorem B2H:∀ d:M8.den,(A2k A84) d=(A5n d).opt 0 []:=by
 intro d
 kernel_rfl
noncomputable abbrev A7S:St→Option Tree:=M8.say 0 [] [] (A2k B4t)
theorem B3E:aPL A7S A51:=SS.wp2 hlz [] A5n B2s B2H _ (fun d=>Runs.ofI2 (step:=A5n) A9k B32 rfl (d.1.1,d.1.2.1,d.1.2.2.2.2.2.2.2.1,d.1.2.2.2.2.2.2.2.2.1))
noncomputable def B9 (a0:List Int) (a1:Int):Int×Int×Bool:=let z1:=T1 a0 a1 (0:Int) (0:Int);(cond (!(U2 a1 (0:Int) (IntKind.wrap .i64 ((a0.length:Int) - (1:Int))))) ((0:Int),(0:Int),false) (cond (z1.1==0) ((z1.2.1),(z1.2.2.1),(z1.2.2.2)) ((0:Int),(0:Int),false)))
noncomputable abbrev A4s (r:Int×Int×Bool):AV×List AObj:=((.tup [(ti r.1),(ti r.2.1),(.t true .bool r.2.2)]),[])
noncomputable abbrev A90:pshsDen A4b→AV×List AObj:=fun d=>A4s (B9 d.1 d.2.1)
noncomputable def Q2 (a0:List Int) (a1:Int):Bool:=let z1:=T1 a0 a1 (0:Int) (0:Int);cond (!(U2 a1 (0:Int) (IntKind.wrap .i64 ((a0.length:Int) - (1:Int))))) true (cond (z1.1==0) true (z1.1==1))
noncomputable abbrev A6i:pshsDen A4b→Bool:=fun d=>Q2 d.1 d.2.1
noncomputable abbrev B6S:Nat→St→Option Tree:=fun b=>match b with | 0=>A7S | _=>fun _=>none
theorem B5h:RunP true G28 (B6S) Try.f76 A4b A6i A90:=by
 rintro ⟨a0,⟨a1,_⟩⟩ hp
 change Q2 a0 a1=true at hp
 unfold Q2 at hp
 refine Eq.trans (b:=(let z1:=T1 a0 a1 (0:Int) (0:Int);let z2:=A4s ((0:Int),(0:Int),false);cond (!(U2 a1 (0:Int) (IntKind.wrap .i64 ((a0.length:Int) - (1:Int))))) (some z2) (cond (z1.1==0) (some (A4s ((z1.2.1),(z1.2.2.1),(z1.2.2.2)))) (cond (z1.1==1) (some z2) none)))) (by kernel_rfl) ?_
 exact (M2 A4s hp (fun hp=>rfl) (fun hp=>(M2 A4s hp (fun hp=>rfl) (fun hp=>(cndT hp fun _h=>rfl)))))
theorem B65:aPP 76 (sumOf A4b A6i A90):=pcD true G28 (hl1 (i:=0) (by kernel_rfl) B3E) B5h
noncomputable def S29:Tab:=Tab.add S28 76 (lift (sumOf A4b A6i A90))
noncomputable def B99:FuncId→Bool:=qadd B98 76
theorem G29:aPG S29 B99:=G28.addQ B65 (cbl Try.f76) (fun _=>rfl)

abbrev A0K:SS:=⟨[.ptr 0 0 1 0],[.box [.t false B4,tI,.t true .bool]]⟩
noncomputable def A6 (p0:List Int) (p1:Int) (p2:Bool):Int×(List Int)×Int×Bool:=let z1:=B9 p0 p1;(cond p2 ((0:Int),p0,p1,true) (cond (!(z1.2.2)) ((0:Int),p0,p1,true) ((z1.1),p0,(z1.2.1),p2)))
noncomputable abbrev Z7 (r:Int×(List Int)×Int×Bool):AV×List AObj×List Nat:=((ti r.1),[(.box [(.t false B4 r.2.1),(ti r.2.2.1),(.t true .bool r.2.2.2)])],[])
noncomputable abbrev A7y:A0K.den→AV×List AObj×List Nat:=fun d=>Z7 (A6 d.2.1.1 d.2.1.2.1 d.2.1.2.2.1)
noncomputable def B8 (p0:List Int) (p1:Int) (p2:Bool):Bool:=Q2 p0 p1
noncomputable abbrev A5D:A0K.den→Bool:=fun d=>B8 d.2.1.1 d.2.1.2.1 d.2.1.2.2.1
theorem B04:RunM G29 aLn Try.f77 A0K A5D A7y:=by
 rintro ⟨⟨_,_⟩,⟨⟨p0,p1,p2,_⟩,_⟩⟩ hp
 change B8 p0 p1 p2=true at hp
 unfold B8 at hp
 refine Eq.trans (b:=(let z1:=Z7 ((0:Int),p0,p1,true);let z2:=B9 p0 p1;cond (Q2 p0 p1) (cond p2 (some z1) (cond (!(z2.2.2)) (some z1) (some (Z7 ((z2.1),p0,(z2.2.1),p2))))) none)) (by kernel_rfl) ?_
 exact (cndT hp fun _h=>(L4 Z7 (fun _h=>rfl) (fun _h=>(L4 Z7 (fun _h=>rfl) (fun _h=>rfl)))))
noncomputable abbrev A7D:=win winIds (msum A0K A5D A7y)
theorem B2e:aPM 77 A7D:=(mcM G29 hlz B04).win winIds
noncomputable def S30:Tab:=Tab.add S29 77 (A7D)
noncomputable def C0a:FuncId→Bool:=B99
theorem G30:aPG S30 C0a:=G29.addM B2e (win_local _) (cbl Try.f77) (by kernel_rfl)

abbrev A2K:List PSh:=[.t B4,.t (.int .i64)]
noncomputable def A6e (a0:List Int) (a1:Int):ByteArray×Int×Bool:=(cond (!((B9 a0 a1).2.2)) (bE,(0:Int),false) (cond (decide (((B9 a0 a1).1) > (IntKind.wrap .i64 ((a0.length:Int) - ((B9 a0 a1).2.1))))) (bE,(0:Int),false) ((⟨(((a0.take (IntKind.wrap .i64 (((B9 a0 a1).2.1)+((B9 a0 a1).1))).toNat).drop ((B9 a0 a1).2.1).toNat).map fun n=>UInt8.ofNat n.toNat).toArray⟩:ByteArray),IntKind.wrap .i64 (((B9 a0 a1).2.1)+((B9 a0 a1).1)),true)))
noncomputable abbrev A1c (r:ByteArray×Int×Bool):AV×List AObj:=((.tup [(.t true .str r.1),(ti r.2.1),(.t true .bool r.2.2)]),[])
noncomputable abbrev A8f:pshsDen A2K→AV×List AObj:=fun d=>A1c (A6e d.1 d.2.1)
noncomputable def A0l (a0:List Int) (a1:Int):Bool:=let z1:=B9 a0 a1;let z2:=IntKind.wrap .i64 ((z1.2.1)+(z1.1));(Q2 a0 a1)&&(cond (!(z1.2.2)) true (cond (decide ((z1.1) > (IntKind.wrap .i64 ((a0.length:Int) - (z1.2.1))))) true (decide (0≤(z1.2.1)∧(z1.2.1)≤z2∧z2≤(a0.length:Int)))))
noncomputable abbrev A5e:pshsDen A2K→Bool:=fun d=>A0l d.1 d.2.1
theorem B4c:RunP true G30 aLn Try.f155 A2K A5e A8f:=by
 rintro ⟨a0,⟨a1,_⟩⟩ hp
 change A0l a0 a1=true at hp
 unfold A0l at hp
 refine Eq.trans (b:=(cond (Q2 a0 a1) (cond (!((B9 a0 a1).2.2)) (some (A1c ((⟨#[]⟩:ByteArray),(0:Int),false))) (cond (decide (((B9 a0 a1).1) > (IntKind.wrap .i64 ((a0.length:Int) - ((B9 a0 a1).2.1))))) (some (A1c ((⟨#[]⟩:ByteArray),(0:Int),false))) (cond (decide (0≤((B9 a0 a1).2.1)∧((B9 a0 a1).2.1)≤(IntKind.wrap .i64 (((B9 a0 a1).2.1)+((B9 a0 a1).1)))∧(IntKind.wrap .i64 (((B9 a0 a1).2.1)+((B9 a0 a1).1)))≤(a0.length:Int))) (some (A1c ((⟨(((a0.take (IntKind.wrap .i64 (((B9 a0 a1).2.1)+((B9 a0 a1).1))).toNat).drop ((B9 a0 a1).2.1).toNat).map fun n=>UInt8.ofNat n.toNat).toArray⟩:ByteArray),IntKind.wrap .i64 (((B9 a0 a1).2.1)+((B9 a0 a1).1)),true))) none))) none)) (by kernel_rfl) ?_
 exact (cndA hp fun hp=>(M2 A1c hp (fun hp=>rfl) (fun hp=>(M2 A1c hp (fun hp=>rfl) (fun hp=>(cndT hp fun _h=>rfl))))))
theorem B5V:aPP 155 (sumOf A2K A5e A8f):=pcD true G30 hlz B4c
noncomputable def S31:Tab:=Tab.add S30 155 (lift (sumOf A2K A5e A8f))
noncomputable def C0b:FuncId→Bool:=qadd C0a 155
theorem G31:aPG S31 C0b:=G30.addQ B5V (cbl Try.f155) (fun _=>rfl)

abbrev A0a:SS:=⟨[.ptr 0 0 1 0],[.box [.t false B4,tI,.t true .bool]]⟩
noncomputable def T0 (p0:List Int) (p1:Int) (p2:Bool):ByteArray×(List Int)×Int×Bool:=let z1:=A6e p0 p1;(cond p2 (bE,p0,p1,true) (cond (!(z1.2.2)) (bE,p0,p1,true) ((z1.1),p0,(z1.2.1),p2)))
noncomputable abbrev P8 (r:ByteArray×(List Int)×Int×Bool):AV×List AObj×List Nat:=((.t true .str r.1),[(.box [(.t false B4 r.2.1),(ti r.2.2.1),(.t true .bool r.2.2.2)])],[])
noncomputable abbrev A6d:A0a.den→AV×List AObj×List Nat:=fun d=>P8 (T0 d.2.1.1 d.2.1.2.1 d.2.1.2.2.1)
noncomputable def C6 (p0:List Int) (p1:Int) (p2:Bool):Bool:=A0l p0 p1
noncomputable abbrev A4z:A0a.den→Bool:=fun d=>C6 d.2.1.1 d.2.1.2.1 d.2.1.2.2.1
theorem B0v:RunM G31 aLn Try.f120 A0a A4z A6d:=by
 rintro ⟨⟨_,_⟩,⟨⟨p0,p1,p2,_⟩,_⟩⟩ hp
 change C6 p0 p1 p2=true at hp
 unfold C6 at hp
 refine Eq.trans (b:=(let z1:=A6e p0 p1;cond (A0l p0 p1) (cond p2 (some (P8 ((⟨#[]⟩:ByteArray),p0,p1,true))) (cond (!(z1.2.2)) (some (P8 ((⟨#[]⟩:ByteArray),p0,p1,true))) (some (P8 ((z1.1),p0,(z1.2.1),p2))))) none)) (by kernel_rfl) ?_
 exact (cndT hp fun _h=>(L4 P8 (fun _h=>rfl) (fun _h=>(L4 P8 (fun _h=>rfl) (fun _h=>rfl)))))
noncomputable abbrev A6h:=win winIds (msum A0a A4z A6d)
theorem B1n:aPM 120 A6h:=(mcM G31 hlz B0v).win winIds
noncomputable def S32:Tab:=Tab.add S31 120 (A6h)
noncomputable def C0c:FuncId→Bool:=C0b
theorem G32:aPG S32 C0c:=G31.addM B1n (win_local _) (cbl Try.f120) (by kernel_rfl)


end Go.Proofs.Ytccelbeahdcooaa.Eng
