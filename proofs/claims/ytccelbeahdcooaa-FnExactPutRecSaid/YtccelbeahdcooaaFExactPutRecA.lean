/- What the functions that FnExactPutRec reaches compute, and that it answers true. -/
import Derived.Test.YtccelbeahdcooaaT
import Derived.Test.YtccelbeahdcooaaRows
import Derived.Test.YtccelbeahdcooaaE50
import Derived.RangeFuncBox
import Derived.Shelf.Abstract
import Derived.WalkKit
import Derived.OwnWalkIn
import Derived.TacticsInMore
import Derived.LoopNIn
import Derived.LoopIn
import Derived.RegionIn
namespace Go.Proofs.Ytccelbeahdcooaa.Eng
open Go Go.RowKit
set_option linter.unusedSimpArgs false
set_option linter.unusedVariables false
set_option maxRecDepth 10000
abbrev bE:ByteArray:=⟨#[]⟩
abbrev Lq1:=List (Int×ByteArray×ByteArray)
abbrev tq2:Ty:=.sl (.pair (.int .i64) (.pair .str .str))
abbrev tq4:Ty:=.pair (.int .i64) (.pair (.int .i64) (.sl (.pair (.int .i64) (.pair .str .str))))
abbrev ti:=@AV.t true (.int .i64)
abbrev tI:Sh:=.t true (.int .i64)
abbrev aPG:=Good Try.prog tt
abbrev aPM:=MContract Try.prog
abbrev aPP:=PContract Try.prog
abbrev aPL:=LoopWp Try.prog
abbrev aLn:Nat→St→Option Tree:=fun _ _=>none
theorem aCD{D:Type}{e:Ex}{s:SS}{x:s.den}(h:e ≠ .normal:=by simp):CEnd D (.done e s x):=A7S h
noncomputable def S0:Tab:=fun _=>none
noncomputable def QF0:FuncId→Bool:=fun _=>false
theorem G0:aPG S0 QF0:=Good.start C34 (by kernel_rfl)
theorem Runs.ofI2 {D V A:Type} {step:D→RT D} (pk:V→D) {ss:V→V ⊕ A} {ct:A→CT} {fa:A} (h:(∀ v,(step (pk v)).val=A62 pk ct (ss v))∧∀ a,CEnd D (ct a)) (hf:(ct fa).val (D:=D)=.fail) (v:V):(ct (itX ss fa v)).val (D:=D)=.fail∨Runs step (pk v) (ct (itX ss fa v)).val:=Runs.ofIt pk hf h.1 h.2 v
theorem B6H {α β:Type} (e:α→β) {c q r:Bool} {X Y:Option β} {a b:α} (hq:cond c q r=true) (hx:q=true→X=some (e a)) (hy:r=true→Y=some (e b)):cond c X Y=some (e (cond c a b)):=A7Z (F:=fun r=>some (e r)) hq hx hy
theorem M2 {α β:Type} (e:α→β) {c:Bool} {X Y:Option β} {a b:α} (hx:c=true→X=some (e a)) (hy:c=false→Y=some (e b)):cond c X Y=some (e (cond c a b)):=cnd (F:=fun r=>some (e r)) hx hy
theorem hlz {L:Nat→St→Option Tree} {b:Nat} {x:Code} (h:D8 b x=[]:=by kernel_rfl):∀ p∈D8 b x,aPL (L p.1) p.2:=hl0 h
theorem cbl {f : FuncId} (F : Func) (h1 : Try.prog.funcs[f]? = some F := by kernel_rfl) (h2 : (F.name == "runtime.NumGoroutine") = false := by kernel_rfl) (h3 : F.body.isNone = false := by kernel_rfl) : Callable Try.prog f := ⟨F, h1, h2, h3⟩
theorem pcD (ro:Bool) {TB:TT} {S:Tab} {Q:FuncId→Bool} (G:Good Try.prog TB S Q) {f:FuncId} {fn:Func} {L:Nat→St→Option Tree} (hL:∀ p∈D8 0 (A2d fn),aPL (L p.1) p.2) {l:List PSh} {pre:E7 l→Bool} {g:E7 l→AV×List AObj} (h:A7X ro G L fn l pre g) (hf:Try.prog.funcs[f]? = some fn:=by kernel_rfl):aPP f (A2n l pre g):=PContract.of_data ro G hf hL l pre g h
theorem mcM {TB:TT} {S:Tab} {Q:FuncId→Bool} (G:Good Try.prog TB S Q) {f:FuncId} {fn:Func} {L:Nat→St→Option Tree} (hL:∀ p∈D8 0 (A2d fn),aPL (L p.1) p.2) {s:SS} {pre:s.den→Bool} {g:s.den→AV×List AObj×List Nat} (h:A7W G L fn s pre g) (hf:Try.prog.funcs[f]? = some fn:=by kernel_rfl):aPM f (msum s pre g):=MContract.of_data G hf hL s pre g h
theorem B8Z:∀ a b:List UInt8,(!(Op.bytesLess a b))=(Op.bytesLess b a||b==a):=by
 intro a
 induction a with
 | nil=>intro b;cases b<;>simp [Op.bytesLess]
 | cons x a ih =>
  intro b
  cases b with
  | nil=>simp [Op.bytesLess]
  | cons y b =>
   simp only [Op.bytesLess]
   by_cases h1:x<y
   ·have h2:¬ y<x:=fun h=>UInt8.lt_irrefl _ (UInt8.lt_trans h1 h)
    have h3:(y==x)=false:=by rw [beq_eq_false_iff_ne];intro h;subst h;exact h2 h1
    have h4:(y::b==x::a)=false:=by rw [List.cons_beq_cons,h3,Bool.false_and]
    simp [h1,h2,h3,h4]
   ·by_cases h5:x=y
    ·subst h5
     have h6:(x::b==x::a)=(b==a):=by rw [List.cons_beq_cons];simp
     have:=ih b
     simp only [h1,decide_false,Bool.false_or,beq_self_eq_true,Bool.true_and,h6,this]
    ·have h7 : y < x := by
      rcases Nat.lt_trichotomy x.toNat y.toNat with h | h | h
      ·exact absurd (UInt8.lt_iff_toNat_lt.2 h) h1
      ·exact absurd (UInt8.toNat_inj.1 h) h5
      ·exact UInt8.lt_iff_toNat_lt.2 h
     have h8:(x==y)=false:=by rw [beq_eq_false_iff_ne];exact h5
     simp [h1,h7,h8]
theorem B60 {p q:Nat→Bool}:∀ k i,(∀ j,i≤j→j<i+k→p j=q j)→A46 p k i=A46 q k i:=by
 intro k
 induction k with
 | zero=>intro i h;rfl
 | succ k ih=>intro i h;simp only [A46];rw [h i (Nat.le_refl _) (by omega),ih (i+1) (fun j h1 h2=>h j (by omega) (by omega))]
theorem B8w {p:Nat→Bool} (k i:Nat) (h:∀ j,i≤j→j<i+k→p j=true):A46 p k i=true:=(A7w k i).2 h
theorem C3O {f:Nat→Int→Int} {Q:Nat→Prop} {M:Int}:∀ (k i:Nat) (b:Int),(∀ j b,i≤j→j<i+k→0≤b→b≤M→0≤f j b→Q j∧f j b≤b)→0≤b→b≤M→A7U (szN f k i b)=true →
  (∀ j,i≤j→j<i+k→Q j)∧0≤A7M (-1) (szN f k i b)∧A7M (-1) (szN f k i b)≤b:=by
 intro k
 induction k with
 | zero=>intro i b hf h1 h2 h3;exact ⟨fun j hj hk=>by omega,h1,Int.le_refl _⟩
 | succ k ih =>
  intro i b hf h1 h2 h3
  have e:szN f (k+1) i b=cond (decide (f i b<0)) (.inr ()) (szN f k (i+1) (f i b)):=by
   simp only [szN,loopN]
   cases decide (f i b<0)<;>rfl
  rw [e] at h3 ⊢
  cases hd:decide (f i b<0) with
  | true=>rw [hd] at h3;cases h3
  | false =>
   rw [hd] at h3
   simp only [cond_false] at h3 ⊢
   have h0:0≤f i b:=by have:=of_decide_eq_false hd;omega
   obtain ⟨q1,q2⟩:=hf i b (Nat.le_refl _) (by omega) h1 h2 h0
   obtain ⟨r1,r2,r3⟩:=ih (i+1) (f i b) (fun j b hj hk=>hf j b (by omega) (by omega)) h0 (by omega) h3
   refine ⟨fun j hj hk=>?_,r2,by omega⟩
   by_cases ej:j=i
   ·exact ej ▸ q1
   ·exact r1 j (by omega) (by omega)
noncomputable def dOp:Int×ByteArray×ByteArray:=((0:Int),(bE,bE))
noncomputable def C3I (o:Int×ByteArray×ByteArray):Bool:=okS o.2.1&&okS o.2.2
noncomputable def L6 (l:Lq1):Bool:=okL l&&l.all C3I
theorem A99 {l:Lq1} (h:L6 l=true) (i:Nat) (hi:i<l.length):okS (l.getD i dOp).2.1=true∧okS (l.getD i dOp).2.2=true:=by
 simp only [L6,Bool.and_eq_true,List.all_eq_true] at h
 have:=h.2 (l.getD i dOp) (by simp [List.getD_eq_getElem?_getD,hi])
 simpa [C3I] using this
theorem R4 {l:Lq1} (h:L6 l=true):l.length≤1048576:=by
 simp only [L6,Bool.and_eq_true] at h
 exact A7N h.1
noncomputable def B92 (s:ByteArray):Bool:=decide (s.size≤9223372036854775807)
noncomputable def A9W (l:Lq1):Bool:=decide (l.length≤9223372036854775807)&&l.all (fun o=>B92 o.2.1&&B92 o.2.2)
theorem C1L {l:Lq1} (h:A9W l=true) (i:Nat) (hi:i<l.length):B92 (l.getD i dOp).2.1=true∧B92 (l.getD i dOp).2.2=true:=by
 simp only [A9W,Bool.and_eq_true,List.all_eq_true] at h
 exact h.2 (l.getD i dOp) (by simp [List.getD_eq_getElem?_getD,hi])
theorem C27 {l:Lq1} (h1:l.length≤1048576) (h2:∀ i,i<l.length→okS (l.getD i dOp).2.1=true∧okS (l.getD i dOp).2.2=true):L6 l=true:=by
 simp only [L6,okL,Bool.and_eq_true,decide_eq_true_eq,List.all_eq_true]
 refine ⟨h1,fun o ho=>?_⟩
 obtain ⟨i,hi,rfl⟩:=List.getElem_of_mem ho
 have:=h2 i hi
 simp only [List.getD_eq_getElem?_getD,List.getElem?_eq_getElem hi,Option.getD_some] at this
 simp [C3I,this.1,this.2]
theorem C36 (a b:ByteArray):(a.toList==b.toList)=decide (a=b):=by
 rw [ByteArray.toList_eq,ByteArray.toList_eq]
 by_cases h:a=b
 ·subst h;simp
 ·rw [decide_eq_false h,beq_eq_false_iff_ne]
  intro e
  exact h (by cases a;cases b;simp at e;rw [e])
theorem C0S {l:Lq1} (h:A9W l=true):l.length≤9223372036854775807:=by
 simp only [A9W,Bool.and_eq_true,decide_eq_true_eq] at h;exact h.1
theorem C2b {l:Lq1} (h:L6 l=true):okL l=true:=by
 simp only [L6,Bool.and_eq_true] at h;exact h.1
theorem C1M {l:Lq1} (h:A3k tq2 l=true):A9W l=true:=by
 have h:(decide (l.length≤maxLen)&&l.all fun o=>(Lit.int .i64 o.1).wf&&(decide (o.2.1.size≤maxLen)&&decide (o.2.2.size≤maxLen)))=true:=h
 have hm:maxLen=9223372036854775807:=by decide
 rw [hm] at h
 simp only [Bool.and_eq_true,decide_eq_true_eq,List.all_eq_true] at h
 simp only [A9W,B92,Bool.and_eq_true,decide_eq_true_eq,List.all_eq_true]
 exact ⟨h.1,fun o ho=>(h.2 o ho).2⟩
theorem B61 {k t:Int} {l:Lq1} (h:A3k tq4 (k,(t,l))=true):A9W l=true:=by
 have hb:((Lit.int .i64 k).wf&&((Lit.int .i64 t).wf&&A3k tq2 l))=true:=h
 rw [Bool.and_eq_true,Bool.and_eq_true] at hb
 exact C1M hb.2.2
noncomputable def hiF (g:Int→Int):Nat→Int→List Int×Int
 | 0,x=>([],x)
 | k+1,x=>cond (decide (x > 127)) (g x::(hiF g k (Int.fdiv x (2 ^ 7))).1,(hiF g k (Int.fdiv x (2 ^ 7))).2) ([],x)
theorem B3n (x:Int):Int.fdiv x (2 ^ 7)=x / 128:=by
 rw [show (2:Int) ^ 7=128 from rfl,Int.fdiv_eq_ediv_of_nonneg _ (by decide)]
theorem C3w (g:Int→Int) (k:Nat):∀ x:Int,(hiF g k x).1.length≤k:=by
 induction k with
 | zero=>intro x;simp [hiF]
 | succ k ih =>
  intro x
  simp only [hiF]
  cases decide (x > 127) with
  | true=>simp;exact ih _
  | false=>simp
noncomputable def A9v (x:Int):Int:=IntKind.wrap .u8 (ior .i64 (iand .i64 x (127:Int)) (128:Int))
noncomputable def X3 (x:Int):Int:=IntKind.wrap .u8 (ior .i64 (128:Int) (iand .i64 x (127:Int)))
theorem C18:X3=A9v:=by
 funext x
 simp only [A9v,X3, ior]
 rw [BitVec.or_comm]
theorem C32:∃ f:Int→List Int×Int,∀ x,f x=hiF A9v 4 x:=⟨_,fun _=>rfl⟩
noncomputable def nX:Int→List Int×Int:=Classical.choose C32
theorem C1C (x:Int):nX x=hiF A9v 4 x:=Classical.choose_spec C32 x
theorem C25 (x:Int):nX x=hiF X3 4 x:=by rw [C18];exact C1C x
theorem M5 (x:Int):(nX x).1.length≤4:=by rw [C1C];exact C3w A9v 4 x
noncomputable def U8 (x:Int):List Int:=(nX x).1++[IntKind.wrap .u8 (nX x).2]
theorem R3 (x:Int):(U8 x).length≤5:=by
 have:=M5 x
 simp [U8];omega
noncomputable def X2 (n:Int):Int:=if n > 1000000000 then 1000000000 else if n<0 then 0 else n
noncomputable def B5U (s:ByteArray):List Int:=U8 (s.size:Int)++A18 s
noncomputable def opB (o:Int×ByteArray×ByteArray):List Int:=U8 (X2 o.1)++(B5U o.2.1++B5U o.2.2)
theorem Q9 {n:Int} (h0:0≤n) (h1:n≤1000000000):X2 n=n:=by simp only [X2];split<;>(try split)<;>omega
theorem B6E (s:ByteArray):(A18 s).length=s.size:=by rw [A18,List.length_map,Array.length_toList];rfl
theorem B3u (s:ByteArray):(B5U s).length≤5+s.size:=by
 have:=R3 (s.size:Int)
 simp [B5U,B6E];omega

noncomputable def A9h (x:Int):Int:=if (if (1000000000:Int)<x then (1000000000:Int) else x) > (0:Int) then (if (1000000000:Int)<x then (1000000000:Int) else x) else (0:Int)
theorem B5X (x:Int):A9h x=X2 x:=by
 simp only [A9h,X2]
 split<;>split<;>(try split)<;>omega
theorem B84 (x:Int):0≤X2 x∧X2 x≤1000000000:=by
 simp only [X2]
 split<;>(try split)<;>omega
theorem A9t (x:Int):0≤A9h x∧A9h x≤1000000000:=by rw [B5X];exact B84 x

noncomputable def B85 (x:Int):ByteArray:=(⟨([IntKind.wrap .u8 (wI ((48:Int)+(Int.tmod x (10:Int))))].map fun n=>UInt8.ofNat n.toNat).toArray⟩:ByteArray)
theorem B5Y (x:Int):(B85 x).size=1:=rfl
noncomputable def B5V:Nat→Int→ByteArray→ByteArray
 | 0,_,s=>s
 | k+1,x,s=>cond (decide (x > 0)) (B5V k (wI (Int.tdiv x (10:Int))) (B85 x++s)) s
theorem C3g:∀ (k:Nat) (x:Int) (s:ByteArray),(B5V k x s).size≤k+s.size:=by
 intro k
 induction k with
 | zero=>intro x s;simp [B5V]
 | succ k ih =>
  intro x s
  simp only [B5V]
  cases decide (x > 0) with
  | true =>
   have:=ih (wI (Int.tdiv x (10:Int))) (B85 x++s)
   rw [ByteArray.size_append,B5Y] at this
   simp only [cond_true];omega
  | false=>simp only [cond_false];omega
theorem B8D {α:Type} (f:α→List Int) (d:α) (l:List α) (g:Nat→List Int→List Int) (hg:∀ i h,i<l.length→g i h=h++f (l.getD i d)):∀ k i h,i+k=l.length→foldN g k i h=h++((l.drop i).map f).flatten:=by
 intro k
 induction k with
 | zero =>
  intro i h hi
  have:l.drop i=[]:=List.drop_eq_nil_of_le (by omega)
  simp [foldN,this]
 | succ k ih =>
  intro i h hi
  have hlt:i<l.length:=by omega
  simp only [foldN]
  rw [ih (i+1) (g i h) (by omega),hg i h hlt,List.append_assoc,show l.drop i=l[i]::l.drop (i+1) from List.drop_eq_getElem_cons hlt,List.map_cons,List.flatten_cons,show l.getD i d=l[i] from by simp [List.getD_eq_getElem?_getD,hlt]]
theorem C3J (o:Int×ByteArray×ByteArray):(opB o).length≤15+o.2.1.size+o.2.2.size:=by
 have h1:=R3 (X2 o.1)
 have h2:=B3u o.2.1
 have h3:=B3u o.2.2
 simp only [opB,List.length_append];omega
theorem C2R {M:Nat}:∀ l:Lq1,(∀ o∈l,(opB o).length≤M)→(l.map opB).flatten.length≤M*l.length:=by
 intro l
 induction l with
 | nil=>intro _;simp
 | cons o l ih =>
  intro h
  have h1:=h o (by simp)
  have h2:=ih fun x hx=>h x (by simp [hx])
  simp only [List.map_cons,List.flatten_cons,List.length_append,List.length_cons]
  rw [Nat.mul_add];omega
abbrev B4T:List PSh:=[.agg [(.int .i64),.str,.str],.t (.int .i64)]
noncomputable def B8I (a0:Int) (a1 a2:ByteArray) (a3:Int):Int:=let z2:=wI (a3 - (a1.size:Int));let z1:=wI (z2 - (a2.size:Int));(cond (decide (z2<(0:Int))) (-1:Int) (cond (decide (z1<(0:Int))) (-1:Int) z1))
noncomputable abbrev B3l (r:Int):AV×List AObj:=((ti r),[])
noncomputable abbrev B9a:E7 B4T→AV×List AObj:=fun d=>B3l (B8I d.1.1 d.1.2.1 d.1.2.2.1 d.2.1)
noncomputable abbrev B6g:E7 B4T→Bool:=fun d=>true
theorem C2k:A7X true G0 aLn Try.f107 B4T B6g B9a:=by
 rintro ⟨⟨a0,⟨a1,⟨a2,_⟩⟩⟩,⟨a3,_⟩⟩ hp
 refine Eq.trans (b:=(let z2:=wI (a3 - (a1.size:Int));let z1:=wI (z2 - (a2.size:Int));cond (decide (z2<(0:Int))) (some (B3l (-1:Int))) (cond (decide (z1<(0:Int))) (some (B3l (-1:Int))) (some (B3l z1))))) (by kernel_rfl) ?_
 exact (M2 B3l (fun _h=>rfl) (fun _h=>(M2 B3l (fun _h=>rfl) (fun _h=>rfl))))
theorem C3n:aPP 107 (A2n B4T B6g B9a):=pcD true G0 hlz C2k
noncomputable def S1:Tab:=Tab.add S0 107 (lift (A2n B4T B6g B9a))
noncomputable def QF1:FuncId→Bool:=qadd QF0 107
theorem G1:aPG S1 QF1:=G0.addQ C3n (cbl Try.f107) (fun _=>rfl)

abbrev C3B:List Sh:=.junk::.junk::.junk::.junk::.junk::.junk::.junk::.junk::.junk::.junk::.junk::.junk::.junk::.junk::.junk::.junk::.junk::.junk::.junk::.junk::.junk::[]
abbrev C0d:List Sh:=.junk::C3B
abbrev C4h:List Sh:=.junk::.junk::.junk::C0d
abbrev u23:=((),(),(),(),(),(),(),(),(),(),(),(),(),(),(),(),(),(),(),(),(),(),())
abbrev u22:=((),(),(),(),(),(),(),(),(),(),(),(),(),(),(),(),(),(),(),(),(),())
abbrev u26:=((),(),(),u23)
noncomputable def M8 (x0:Lq1) (i:Nat) (b:Int):Int:=(B8I ((x0.getD i ((0:Int),(bE,bE))).1) (((x0.getD i ((0:Int),(bE,bE))).2).1) (((x0.getD i ((0:Int),(bE,bE))).2).2) b)
abbrev B2v:List PSh:=[.t tq2,.t (.int .i64)]
abbrev A0e:SS:=⟨(.t false tq2::tI::.junk::.junk::.junk::tI::C3B),[]⟩
abbrev A9q:SS:=⟨(.junk::.junk::.junk::.junk::tI::C0d),[]⟩
abbrev B1p:SS:=⟨(.junk::tI::C4h),[]⟩
noncomputable def B3c (x0:Lq1) (x1 x5:Int):RT A0e.den:=let z1:=x0.getD x5.toNat ((0:Int),(bE,bE));let z2:=B8I (z1.1) ((z1.2).1) ((z1.2).2) x1;(.br (decide (x5<(x0.length:Int))) (.br (decide (0≤x5∧x5<(x0.length:Int))) (.br (decide (z2<(0:Int))) (.done .ret A9q (((),(),(),(),(-1:Int),u23),())) (.next ((x0,z2,(),(),(),wI (x5+(1:Int)),u22),()))) .fail) (.done (.exit 0) B1p (((),x1,u26),())))
noncomputable def A9S (x0:Lq1) (x1 x5:Int):CT:=(.br (decide (0≤x5)&&okL x0) (.br (A7U (szN (M8 x0) (x0.length - x5.toNat) x5.toNat x1)) (.done (.exit 0) B1p (((),(A7M (-1) (szN (M8 x0) (x0.length - x5.toNat) x5.toNat x1)),u26),())) (.done .ret A9q (((),(),(),(),(-1:Int),u23),()))) .fail)
noncomputable abbrev X9:A0e.den→RT A0e.den:=(fun d=>B3c d.1.1 d.1.2.1 d.1.2.2.2.2.2.1)
noncomputable abbrev B0u (x0:Lq1) (x1 x5:Int):A0e.den:=((x0,x1,(),(),(),x5,u22),())
noncomputable def B3G:Code:=((D8 0 (A2d Try.f62)).getD 0 (0,.skip)).2
theorem C0O (x0:Lq1) (x1 x5:Int):(A9S x0 x1 x5).val (D:=A0e.den)=.fail∨Runs X9 (B0u x0 x1 x5) (A9S x0 x1 x5).val:=by
 cases hc:(decide (0≤x5)&&okL x0) with
 | false=>left;simp only [A9S,CT.val,hc,cond_false]
 | true =>
  right
  simp only [A9S,CT.val,hc,cond_true]
  simp only [Bool.and_eq_true,decide_eq_true_eq] at hc
  obtain ⟨i,rfl⟩:=Int.eq_ofNat_of_zero_le hc.1
  have hs:=A7N hc.2
  simp only [Int.toNat_natCast]
  have h:=Runs.loopN (step:=X9) (fun j b=>B0u x0 b (j:Int)) (fun _ _=>True) (x0.length) (fun i b=>cond (decide (M8 x0 i b<0)) (.inr ()) (.inl (M8 x0 i b)))
   (fin:=fun b=>((.done (.exit 0) B1p (((),b,u26),())):CT).val) (bad:=fun _=>((.done .ret A9q (((),(),(),(),(-1:Int),u23),())):CT).val)
   (fun i b hi _=>?_) (fun i b hi _=>?_) (x0.length - i) i x1 rfl trivial
  ·simp only [szN]
   revert h
   cases loopN (fun i b=>cond (decide (M8 x0 i b<0)) (.inr ()) (.inl (M8 x0 i b))) (x0.length - i) i x1 with
   | inl b=>exact id
   | inr c=>exact id
  ·
   have h0a:decide ((i:Int)<(x0.length:Int))=true:=decide_eq_true (by omega)
   have h0b:decide (0≤(i:Int)∧(i:Int)<(x0.length:Int))=true:=decide_eq_true (by omega)
   have e:(X9 (B0u x0 b (i:Int))).val=cond (decide (M8 x0 i b<0)) ((.done .ret A9q (((),(),(),(),(-1:Int),u23),())):CT).val (.next (B0u x0 (M8 x0 i b) ((i+1:Nat):Int))):=by
    simp only [X9,B3c,RT.val,h0a,h0b,cond_true,A7V i (by omega),Int.toNat_natCast]
    rfl
   cases hr:decide (M8 x0 i b<0) with
   | true=>exact .inr ⟨(),_,_,_,rfl,by rw [e,hr];rfl,rfl,by simp⟩
   | false=>exact .inl ⟨_,rfl,trivial,by rw [e,hr];rfl⟩
  ·have h1:decide ((i:Int)<(x0.length:Int))=false:=decide_eq_false (by omega)
   exact ⟨by simp only [X9,B3c,RT.val,h1,cond_false];rfl,_,_,_,rfl,by simp⟩
theorem B9t:RdA G1 aLn 0 B3G A0e 0 [] (kepts [4] [(0,[1])]) (fun d=>(X9 d).opt 0 []):=by
 intro d
 kernel_rfl
noncomputable abbrev B5I:St→Option Tree:=A0e.say 0 [] [] (fun d=>A9S d.1.1 d.1.2.1 d.1.2.2.2.2.2.1)
theorem C0g:aPL B5I B3G:=SS.wp2 hlz [] X9 B9t (fun d=>rfl) _ (fun d=>C0O d.1.1 d.1.2.1 d.1.2.2.2.2.2.1)
noncomputable def B1J (a0:Lq1) (a1:Int):Int:=let z2:=wI (a1 - (a0.length:Int));let z1:=szN (M8 a0) (a0.length - (0:Int).toNat) (0:Int).toNat z2;(cond (decide (z2<(0:Int))) (-1:Int) (cond (A7U z1) (A7M (-1) z1) (-1:Int)))
noncomputable abbrev B1e (r:Int):AV×List AObj:=((ti r),[])
noncomputable abbrev B7j:E7 B2v→AV×List AObj:=fun d=>B1e (B1J d.1 d.2.1)
noncomputable def B5B (a0:Lq1) (a1:Int):Bool:=decide (0≤a1∧a1≤1048576∧a0.length≤9223372036854775807)
noncomputable abbrev B4A:E7 B2v→Bool:=fun d=>B5B d.1 d.2.1
noncomputable abbrev C2u:Nat→St→Option Tree:=fun b=>match b with | 0=>B5I | _=>fun _=>none
theorem C1m:A7X true G1 (C2u) Try.f62 B2v B4A B7j:=by
 rintro ⟨(a0:Lq1),⟨(a1:Int),_⟩⟩ hp
 change B5B a0 a1=true at hp
 unfold B5B at hp
 refine Eq.trans (b:=(let z2:=wI (a1 - (a0.length:Int));let z1:=szN (M8 a0) (a0.length - (0:Int).toNat) (0:Int).toNat z2;cond (decide (z2<(0:Int))) (some (B1e (-1:Int))) (cond (decide (0≤(0:Int))&&okL a0) (cond (A7U z1) (some (B1e (A7M (-1) z1))) (some (B1e (-1:Int)))) none))) (by kernel_rfl) ?_
 exact (M2 B1e (fun _h=>rfl) (fun _h=>(A70 (by simp only [decide_eq_true_eq,decide_eq_false_iff_not] at hp _h;have hw:=A7v (n:=a1 - (a0.length:Int)) (by omega) (by omega);rw [hw] at _h;simp [okL];omega) (fun _h=>(M2 B1e (fun _h=>rfl) (fun _h=>rfl))))))
theorem C2F:aPP 62 (A2n B2v B4A B7j):=pcD true G1 (hl1 (i:=0) (by kernel_rfl) C0g) C1m
noncomputable def S2:Tab:=Tab.add S1 62 (lift (A2n B2v B4A B7j))
noncomputable def QF2:FuncId→Bool:=qadd QF1 62
theorem G2:aPG S2 QF2:=G1.addQ C2F (cbl Try.f62) (fun _=>rfl)

abbrev B2w:List PSh:=[.agg [(.int .i64),(.int .i64),tq2],.t (.int .i64)]
noncomputable def B4u (a0 a1:Int) (a2:Lq1) (a3:Int):Int:=(cond (decide ((B1J a2 a3)<(0:Int))) (-1:Int) (B1J a2 a3))
noncomputable abbrev B43 (r:Int):AV×List AObj:=((ti r),[])
noncomputable abbrev B7k:E7 B2w→AV×List AObj:=fun d=>B43 (B4u d.1.1 d.1.2.1 d.1.2.2.1 d.2.1)
noncomputable def B0d (a0 a1:Int) (a2:Lq1) (a3:Int):Bool:=decide (0≤a3∧a3≤1048576∧a2.length≤9223372036854775807)
noncomputable abbrev B4B:E7 B2w→Bool:=fun d=>B0d d.1.1 d.1.2.1 d.1.2.2.1 d.2.1
theorem C1n:A7X true G2 aLn Try.f15 B2w B4B B7k:=by
 rintro ⟨⟨a0,⟨a1,⟨a2,_⟩⟩⟩,⟨a3,_⟩⟩ hp
 change B0d a0 a1 a2 a3=true at hp
 unfold B0d at hp
 refine Eq.trans (b:=(cond (B5B a2 a3) (cond (decide ((B1J a2 a3)<(0:Int))) (some (B43 (-1:Int))) (some (B43 (B1J a2 a3)))) none)) (by kernel_rfl) ?_
 exact (A70 (by first | rfl | decide | exact hp | (simp only [Bool.and_eq_true] at hp;simp only [hp];done) | (simp [*];done) | (simp [okL] at hp;simp [okL,MAXB];omega) | (simp_all;done) | (simp at *;omega)) (fun _h=>(M2 B43 (fun _h=>rfl) (fun _h=>rfl))))
theorem C2G:aPP 15 (A2n B2w B4B B7k):=pcD true G2 hlz C1n
noncomputable def S3:Tab:=Tab.add S2 15 (lift (A2n B2w B4B B7k))
noncomputable def QF3:FuncId→Bool:=qadd QF2 15
theorem G3:aPG S3 QF3:=G2.addQ C2G (cbl Try.f15) (fun _=>rfl)

abbrev B4U:List PSh:=[.agg [(.int .i64),.str,.str]]
noncomputable def B6t (a0:Int) (a1 a2:ByteArray):Int×ByteArray×ByteArray:=(a0,a1,a2)
noncomputable abbrev C3u (r:Int×ByteArray×ByteArray):AV×List AObj:=((.agg [(ti r.1),(.t true .str r.2.1),(.t true .str r.2.2)]),[])
noncomputable abbrev B9b:E7 B4U→AV×List AObj:=fun d=>C3u (B6t d.1.1 d.1.2.1 d.1.2.2.1)
noncomputable abbrev B6h:E7 B4U→Bool:=fun d=>true
theorem C2l:A7X true G3 aLn Try.f112 B4U B6h B9b:=by
 rintro ⟨⟨a0,⟨a1,⟨a2,_⟩⟩⟩,_⟩ hp
 kernel_rfl
theorem C3o:aPP 112 (A2n B4U B6h B9b):=pcD true G3 hlz C2l
noncomputable def S4:Tab:=Tab.add S3 112 (lift (A2n B4U B6h B9b))
noncomputable def QF4:FuncId→Bool:=qadd QF3 112
theorem G4:aPG S4 QF4:=G3.addQ C3o (cbl Try.f112) (fun _=>rfl)

abbrev C4g:List Sh:=.junk::.junk::.junk::.junk::.junk::.junk::.junk::.junk::.junk::.junk::.junk::.junk::.junk::.junk::.junk::.junk::.junk::.junk::[]
abbrev tq3:Ty:=.pair (.int .i64) (.pair .str .str)
abbrev C5n:List Sh:=.junk::C4g
abbrev u19:=((),(),(),(),(),(),(),(),(),(),(),(),(),(),(),(),(),(),())
abbrev u24:=((),u23)
noncomputable def B1B (x0:Lq1) (i:Nat):Int×ByteArray×ByteArray:=(((B6t ((x0.getD i ((0:Int),(bE,bE))).1) (((x0.getD i ((0:Int),(bE,bE))).2).1) (((x0.getD i ((0:Int),(bE,bE))).2).2)).1),(((B6t ((x0.getD i ((0:Int),(bE,bE))).1) (((x0.getD i ((0:Int),(bE,bE))).2).1) (((x0.getD i ((0:Int),(bE,bE))).2).2)).2.1),((B6t ((x0.getD i ((0:Int),(bE,bE))).1) (((x0.getD i ((0:Int),(bE,bE))).2).1) (((x0.getD i ((0:Int),(bE,bE))).2).2)).2.2)))
abbrev B2x:List PSh:=[.t tq2]
abbrev A0f:SS:=⟨(.t false tq2::.junk::.junk::.all 0 3::tI::C4g),[.rows 124 true tq3]⟩
abbrev B1q:SS:=⟨(.junk::.junk::.junk::.all 0 3::C5n),[.rows 124 true tq3]⟩
noncomputable def B3d (x0:Lq1) (x4:Int) (h0:Lq1):RT A0f.den:=let z2:=x0.getD x4.toNat ((0:Int),(bE,bE));let z1:=B6t (z2.1) ((z2.2).1) ((z2.2).2);(.br (decide (x4<(x0.length:Int))) (.br (decide (0≤x4∧x4<(x0.length:Int))) (.br (decide (0≤x4∧x4<(h0.length:Int))) (.next ((x0,(),(),(),wI (x4+(1:Int)),u19),(h0.set x4.toNat ((z1.1),((z1.2.1),(z1.2.2))),()))) .fail) .fail) (.done (.exit 0) B1q ((u24),(h0,()))))
noncomputable def A9T (x0:Lq1) (x4:Int) (h0:Lq1):CT:=(.br (decide (0≤x4)&&(decide (h0.length=x0.length)&&okL x0)) (.done (.exit 0) B1q ((u24),((foldN (fun i h=>h.set i (B1B x0 i)) (x0.length - x4.toNat) x4.toNat h0),()))) .fail)
noncomputable abbrev A0y:A0f.den→RT A0f.den:=(fun d=>B3d d.1.1 d.1.2.2.2.2.1 d.2.1)
noncomputable abbrev B6y (x0:Lq1) (x4:Int) (h0:Lq1):A0f.den:=((x0,(),(),(),x4,u19),(h0,()))
noncomputable def B3H:Code:=((D8 0 (A2d Try.f66)).getD 0 (0,.skip)).2
theorem C0P (x0:Lq1) (x4:Int) (h0:Lq1):(A9T x0 x4 h0).val (D:=A0f.den)=.fail∨Runs A0y (B6y x0 x4 h0) (A9T x0 x4 h0).val:=by
 cases hc:(decide (0≤x4)&&(decide (h0.length=x0.length)&&okL x0)) with
 | false=>left;simp only [A9T,CT.val,hc,cond_false]
 | true =>
  right
  simp only [A9T,CT.val,hc,cond_true]
  simp only [Bool.and_eq_true,decide_eq_true_eq] at hc
  obtain ⟨i,rfl⟩:=Int.eq_ofNat_of_zero_le hc.1
  have hs:=A7N hc.2.2
  simp only [Int.toNat_natCast]
  refine Runs.foldN (step:=A0y) (fun j b=>B6y x0 (j:Int) b) (fun _ b=>b.length=x0.length) (x0.length) (fun i h=>h.set i (B1B x0 i))
   (fin:=fun b=>((.done (.exit 0) B1q ((u24),(b,()))):CT).val) (fun i b hi hb=>⟨by simpa using hb,?_⟩) (fun i b hi hb=>?_) (x0.length - i) i h0 rfl hc.2.1
  ·
   have h0a:decide ((i:Int)<(x0.length:Int))=true:=decide_eq_true (by omega)
   have h0b:decide (0≤(i:Int)∧(i:Int)<(x0.length:Int))=true:=decide_eq_true (by omega)
   have h9:decide (0≤(i:Int)∧(i:Int)<(b.length:Int))=true:=decide_eq_true (by omega)
   simp only [A0y,B3d,RT.val,h0a,h0b,h9,cond_true,A7V i (by omega),Int.toNat_natCast]
   rfl
  ·have h1:decide ((i:Int)<(x0.length:Int))=false:=decide_eq_false (by omega)
   exact ⟨by simp only [A0y,B3d,RT.val,h1,cond_false];rfl,_,_,_,rfl,by simp⟩
theorem B9u:RdA G4 aLn 0 B3H A0f 0 [] (kepts [] [(0,[3])]) (fun d=>(A0y d).opt 0 []):=by
 intro d
 kernel_rfl
noncomputable abbrev B5J:St→Option Tree:=A0f.say 0 [] [] (fun d=>A9T d.1.1 d.1.2.2.2.2.1 d.2.1)
theorem C0h:aPL B5J B3H:=SS.wp2 hlz [] A0y B9u (fun d=>rfl) _ (fun d=>C0P d.1.1 d.1.2.2.2.2.1 d.2.1)
noncomputable def B9f (a0:Lq1):Lq1:=(foldN (fun i h=>h.set i (B1B a0 i)) (a0.length - (0:Int).toNat) (0:Int).toNat (List.replicate (a0.length:Int).toNat ((0:Int),(bE,bE))))
noncomputable abbrev B98 (r:Lq1):AV×List AObj:=((.all 0 3),[(.rows 124 true tq3 r)])
noncomputable abbrev B7l:E7 B2x→AV×List AObj:=fun d=>B98 (B9f d.1)
noncomputable def B5C (a0:Lq1):Bool:=okL a0
noncomputable abbrev B4C:E7 B2x→Bool:=fun d=>B5C d.1
noncomputable abbrev C2v:Nat→St→Option Tree:=fun b=>match b with | 0=>B5J | _=>fun _=>none
theorem C1o:A7X false G4 (C2v) Try.f66 B2x B4C B7l:=by
 rintro ⟨a0,_⟩ hp
 change B5C a0=true at hp
 unfold B5C at hp
 refine Eq.trans (b:=(cond (decide (0≤(a0.length:Int)∧(a0.length:Int)=(a0.length:Int)∧(a0.length:Int).toNat*40≤MAXB∧(a0.length:Int)≤9223372036854775807)) (cond (decide (0≤(0:Int))&&(decide ((List.replicate (a0.length:Int).toNat ((0:Int),((⟨#[]⟩:ByteArray),(⟨#[]⟩:ByteArray)))).length=a0.length)&&okL a0)) (some (B98 (foldN (fun i h=>h.set i (B1B a0 i)) (a0.length - (0:Int).toNat) (0:Int).toNat (List.replicate (a0.length:Int).toNat ((0:Int),((⟨#[]⟩:ByteArray),(⟨#[]⟩:ByteArray))))))) none) none)) (by kernel_rfl) ?_
 exact (A70 (by first | rfl | decide | exact hp | (simp only [Bool.and_eq_true] at hp;simp only [hp];done) | (simp [*];done) | (simp [okL] at hp;simp [okL,MAXB];omega) | (simp_all;done) | (simp at *;omega)) (fun _h=>(A70 (by first | rfl | decide | exact hp | (simp only [Bool.and_eq_true] at hp;simp only [hp];done) | (simp [*];done) | (simp [okL] at hp;simp [okL,MAXB];omega) | (simp_all;done) | (simp at *;omega)) (fun _h=>rfl))))
theorem C2H:aPP 66 (A2n B2x B4C B7l):=pcD false G4 (hl1 (i:=0) (by kernel_rfl) C0h) C1o
noncomputable def S5:Tab:=Tab.add S4 66 (lift (A2n B2x B4C B7l))
noncomputable def QF5:FuncId→Bool:=QF4
theorem G5:aPG S5 QF5:=G4.add C2H (cbl Try.f66) (by kernel_rfl)

abbrev B2y:List PSh:=[.agg [(.int .i64),(.int .i64),tq2]]
noncomputable def B1K (a0 a1:Int) (a2:Lq1):Int×Int×Lq1:=(a0,a1,(B9f a2))
noncomputable abbrev B99 (r:Int×Int×Lq1):AV×List AObj:=((.agg [(ti r.1),(ti r.2.1),(.all 0 3)]),[(.rows 124 true tq3 r.2.2)])
noncomputable abbrev B7m:E7 B2y→AV×List AObj:=fun d=>B99 (B1K d.1.1 d.1.2.1 d.1.2.2.1)
noncomputable def B1i (a0 a1:Int) (a2:Lq1):Bool:=okL a2
noncomputable abbrev B4D:E7 B2y→Bool:=fun d=>B1i d.1.1 d.1.2.1 d.1.2.2.1
theorem C1p:A7X false G5 aLn Try.f17 B2y B4D B7m:=by
 rintro ⟨⟨a0,⟨a1,⟨a2,_⟩⟩⟩,_⟩ hp
 change B1i a0 a1 a2=true at hp
 unfold B1i at hp
 refine Eq.trans (b:=(cond (B5C a2) (some (B99 (a0,a1,(B9f a2)))) none)) (by kernel_rfl) ?_
 exact (A70 (by first | rfl | decide | exact hp | (simp only [Bool.and_eq_true] at hp;simp only [hp];done) | (simp [*];done) | (simp [okL] at hp;simp [okL,MAXB];omega) | (simp_all;done) | (simp at *;omega)) (fun _h=>rfl))
theorem C2I:aPP 17 (A2n B2y B4D B7m):=pcD false G5 hlz C1p
noncomputable def S6:Tab:=Tab.add S5 17 (lift (A2n B2y B4D B7m))
noncomputable def QF6:FuncId→Bool:=QF5
theorem G6:aPG S6 QF6:=G5.add C2I (cbl Try.f17) (by kernel_rfl)

abbrev B4V:List PSh:=[.t (.int .i64),.t (.int .i64),.t (.int .i64)]
noncomputable def R5 (a0 a1 a2:Int):Bool:=(cond (decide (a0 ≥ a1)) (decide (a0≤a2)) false)
noncomputable abbrev B6T (r:Bool):AV×List AObj:=((.t true .bool r),[])
noncomputable abbrev B9c:E7 B4V→AV×List AObj:=fun d=>B6T (R5 d.1 d.2.1 d.2.2.1)
noncomputable abbrev B6i:E7 B4V→Bool:=fun d=>true
theorem C2m:A7X true G6 aLn Try.f72 B4V B6i B9c:=by
 rintro ⟨a0,⟨a1,⟨a2,_⟩⟩⟩ hp
 refine Eq.trans (b:=(cond (decide (a0 ≥ a1)) (some (B6T (decide (a0≤a2)))) (some (B6T false)))) (by kernel_rfl) ?_
 exact (M2 B6T (fun _h=>rfl) (fun _h=>rfl))
theorem C3p:aPP 72 (A2n B4V B6i B9c):=pcD true G6 hlz C2m
noncomputable def S7:Tab:=Tab.add S6 72 (lift (A2n B4V B6i B9c))
noncomputable def QF7:FuncId→Bool:=qadd QF6 72
theorem G7:aPG S7 QF7:=G6.addQ C3p (cbl Try.f72) (fun _=>rfl)

abbrev C3C:List Sh:=.junk::C0d
abbrev C6n:List Sh:=.junk::C3C
abbrev C2a:List Sh:=.junk::C4h
abbrev u25:=((),u24)
abbrev u27:=((),u26)
noncomputable def B1T (s:ByteArray) (i:Nat):Bool:=let z1:=wI (bt s (i:Int));R5 z1 97 122||R5 z1 48 57
abbrev B2z:List PSh:=[.t .str]
abbrev A0g:SS:=⟨(.t true .str::.junk::.junk::tI::C3C),[]⟩
abbrev B4N:SS:=⟨(.junk::.junk::.t true .bool::C6n),[]⟩
abbrev B4O:SS:=⟨(.t true .str::C2a),[]⟩
noncomputable def B3e (x0:ByteArray) (x3:Int):RT A0g.den:=let z1:=decide (0≤x3∧x3<(x0.size:Int));let z2:=wI (bt x0 x3);(.br (decide (x3<(x0.size:Int))) (.br z1 (.br (!(R5 z2 (97:Int) (122:Int))) (.br z1 (.br (!(R5 z2 (48:Int) (57:Int))) (.done .ret B4N (((),(),false,u25),())) (.next ((x0,(),(),wI (x3+(1:Int)),u24),()))) .fail) (.next ((x0,(),(),wI (x3+(1:Int)),u24),()))) .fail) (.done (.exit 0) B4O ((x0,u27),())))
noncomputable def A9U (x0:ByteArray) (x3:Int):CT:=(.br (decide (0≤x3)&&okS x0) (.br (A46 (B1T x0) (x0.size - x3.toNat) x3.toNat) (.done (.exit 0) B4O ((x0,u27),())) (.done .ret B4N (((),(),false,u25),()))) .fail)
noncomputable abbrev A88:A0g.den→RT A0g.den:=(fun d=>B3e d.1.1 d.1.2.2.2.1)
noncomputable abbrev B6z (x0:ByteArray) (x3:Int):A0g.den:=((x0,(),(),x3,u24),())
noncomputable def B3I:Code:=((D8 0 (A2d Try.f154)).getD 0 (0,.skip)).2
theorem C0Q (x0:ByteArray) (x3:Int):(A9U x0 x3).val (D:=A0g.den)=.fail∨Runs A88 (B6z x0 x3) (A9U x0 x3).val:=by
 cases hc:(decide (0≤x3)&&okS x0) with
 | false=>left;simp only [A9U,CT.val,hc,cond_false]
 | true =>
  right
  simp only [A9U,CT.val,hc,cond_true]
  simp only [Bool.and_eq_true,decide_eq_true_eq] at hc
  obtain ⟨i,rfl⟩:=Int.eq_ofNat_of_zero_le hc.1
  have hs:=A7O hc.2
  simp only [Int.toNat_natCast]
  refine Runs.scan (fun j=>B6z x0 (j:Int)) (x0.size) (B1T x0) (fun i hi=>?_) (fun i hi=>?_) ⟨_,_,_,rfl,by simp⟩ ⟨_,_,_,rfl,by simp⟩ _ _ rfl
  ·
   have h0a:decide ((i:Int)<(x0.size:Int))=true:=decide_eq_true (by omega)
   have h0b:decide (0≤(i:Int)∧(i:Int)<(x0.size:Int))=true:=decide_eq_true (by omega)
   simp only [A88,B3e,RT.val,h0a,h0b,cond_true,A7V i (by omega),Int.toNat_natCast]
   simp only [B1T]
   cases R5 (wI (bt x0 (i:Int))) 97 122<;>cases R5 (wI (bt x0 (i:Int))) 48 57<;>rfl
  ·have h1:decide ((i:Int)<(x0.size:Int))=false:=decide_eq_false (by omega)
   simp only [A88,B3e,RT.val,h1,cond_false]
theorem B9v:RdA G7 aLn 0 B3I A0g 0 [] (kepts [2] [(0,[0])]) (fun d=>(A88 d).opt 0 []):=by
 intro d
 kernel_rfl
noncomputable abbrev B5K:St→Option Tree:=A0g.say 0 [] [] (fun d=>A9U d.1.1 d.1.2.2.2.1)
theorem C0i:aPL B5K B3I:=SS.wp2 hlz [] A88 B9v (fun d=>rfl) _ (fun d=>C0Q d.1.1 d.1.2.2.2.1)
noncomputable def B0P (a0:ByteArray):Bool:=(cond (A46 (B1T a0) (a0.size - (0:Int).toNat) (0:Int).toNat) (R5 (a0.size:Int) (1:Int) (12:Int)) false)
noncomputable abbrev B44 (r:Bool):AV×List AObj:=((.t true .bool r),[])
noncomputable abbrev B7n:E7 B2z→AV×List AObj:=fun d=>B44 (B0P d.1)
noncomputable def B2Y (a0:ByteArray):Bool:=okS a0
noncomputable abbrev B4E:E7 B2z→Bool:=fun d=>B2Y d.1
noncomputable abbrev C2w:Nat→St→Option Tree:=fun b=>match b with | 0=>B5K | _=>fun _=>none
theorem C1q:A7X true G7 (C2w) Try.f154 B2z B4E B7n:=by
 rintro ⟨a0,_⟩ hp
 change B2Y a0=true at hp
 unfold B2Y at hp
 refine Eq.trans (b:=(cond (decide (0≤(0:Int))&&okS a0) (cond (A46 (B1T a0) (a0.size - (0:Int).toNat) (0:Int).toNat) (some (B44 (R5 (a0.size:Int) (1:Int) (12:Int)))) (some (B44 false))) none)) (by kernel_rfl) ?_
 exact (A70 (by first | rfl | decide | exact hp | (simp only [Bool.and_eq_true] at hp;simp only [hp];done) | (simp [*];done) | (simp [okL] at hp;simp [okL,MAXB];omega) | (simp_all;done) | (simp at *;omega)) (fun _h=>(M2 B44 (fun _h=>rfl) (fun _h=>rfl))))
theorem C2J:aPP 154 (A2n B2z B4E B7n):=pcD true G7 (hl1 (i:=0) (by kernel_rfl) C0i) C1q
noncomputable def S8:Tab:=Tab.add S7 154 (lift (A2n B2z B4E B7n))
noncomputable def QF8:FuncId→Bool:=qadd QF7 154
theorem G8:aPG S8 QF8:=G7.addQ C2J (cbl Try.f154) (fun _=>rfl)

abbrev B4W:List PSh:=[.agg [(.int .i64),.str,.str]]
noncomputable def B5N (a0:Int) (a1 a2:ByteArray):Bool:=let z1:=decide ((a2.size:Int)≤(20:Int));(cond (!(R5 a0 (1:Int) (3:Int))) false (cond (a0==(2:Int)) (cond (!(a2.toList==bE.toList)) false (cond (B0P a1) z1 false)) (cond (B0P a1) z1 false)))
noncomputable abbrev A8h (r:Bool):AV×List AObj:=((.t true .bool r),[])
noncomputable abbrev B9d:E7 B4W→AV×List AObj:=fun d=>A8h (B5N d.1.1 d.1.2.1 d.1.2.2.1)
noncomputable def B3t (a0:Int) (a1 a2:ByteArray):Bool:=okS a1
noncomputable abbrev B6j:E7 B4W→Bool:=fun d=>B3t d.1.1 d.1.2.1 d.1.2.2.1
theorem C2n:A7X true G8 aLn Try.f118 B4W B6j B9d:=by
 rintro ⟨⟨a0,⟨a1,⟨a2,_⟩⟩⟩,_⟩ hp
 change B3t a0 a1 a2=true at hp
 unfold B3t at hp
 refine Eq.trans (b:=(let z1:=A8h (decide ((a2.size:Int)≤(20:Int)));cond (!(R5 a0 (1:Int) (3:Int))) (some (A8h false)) (cond (a0==(2:Int)) (cond (!(a2.toList==(⟨#[]⟩:ByteArray).toList)) (some (A8h false)) (cond (B2Y a1) (cond (B0P a1) (some z1) (some (A8h false))) none)) (cond (B2Y a1) (cond (B0P a1) (some z1) (some (A8h false))) none)))) (by kernel_rfl) ?_
 exact (M2 A8h (fun _h=>rfl) (fun _h=>(M2 A8h (fun _h=>(M2 A8h (fun _h=>rfl) (fun _h=>(A70 (by first | rfl | decide | exact hp | (simp only [Bool.and_eq_true] at hp;simp only [hp];done) | (simp [*];done) | (simp [okL] at hp;simp [okL,MAXB];omega) | (simp_all;done) | (simp at *;omega)) (fun _h=>(M2 A8h (fun _h=>rfl) (fun _h=>rfl))))))) (fun _h=>(A70 (by first | rfl | decide | exact hp | (simp only [Bool.and_eq_true] at hp;simp only [hp];done) | (simp [*];done) | (simp [okL] at hp;simp [okL,MAXB];omega) | (simp_all;done) | (simp at *;omega)) (fun _h=>(M2 A8h (fun _h=>rfl) (fun _h=>rfl))))))))
theorem C3q:aPP 118 (A2n B4W B6j B9d):=pcD true G8 hlz C2n
noncomputable def S9:Tab:=Tab.add S8 118 (lift (A2n B4W B6j B9d))
noncomputable def QF9:FuncId→Bool:=qadd QF8 118
theorem G9:aPG S9 QF9:=G8.addQ C3q (cbl Try.f118) (fun _=>rfl)

abbrev C4i:List Sh:=.junk::.junk::.junk::.junk::.junk::.junk::.junk::C2a
abbrev C22:List Sh:=.junk::C4i
abbrev C23:List Sh:=.junk::.junk::C22
abbrev u35:=((),(),(),(),(),(),(),(),u27)
abbrev u34:=((),(),(),(),(),(),(),u27)
abbrev u37:=((),(),u35)
abbrev C2Y:List AV:=.junk::.junk::.junk::.junk::.junk::.junk::.junk::.junk::.junk::.junk::.junk::.junk::.junk::.junk::.junk::.junk::.junk::.junk::.junk::.junk::.junk::.junk::.junk::.junk::.junk::.junk::.junk::.junk::.junk::.junk::.junk::.junk::.junk::.junk::[]
abbrev C5d:List AV:=.junk::.junk::.junk::.junk::.junk::.junk::.junk::.junk::.junk::.junk::.junk::.junk::.junk::.junk::.junk::.junk::.junk::.junk::.junk::.junk::.junk::.junk::.junk::.junk::.junk::.junk::.junk::.junk::.junk::.junk::.junk::.junk::.junk::[]
abbrev C2Z:List AV:=.junk::.junk::C2Y
noncomputable def B1j (l:Lq1) (i:Nat):Bool:=let z1:=l.getD i dOp;B5N z1.1 z1.2.1 z1.2.2&&(decide (i=0)||Op.bytesLess (l.getD (i - 1) dOp).2.1.toList z1.2.1.toList)
abbrev B2A:List PSh:=[.t tq2]
abbrev W9:SS:=⟨(.t false tq2::.junk::.junk::tI::C4i),[]⟩
abbrev B1r:SS:=⟨(.junk::.junk::.t true .bool::C22),[]⟩
abbrev B4P:SS:=⟨(.t false tq2::C23),[]⟩
noncomputable def B3f (x0:Lq1) (x3:Int):RT W9.den:=let z1:=x0.getD x3.toNat ((0:Int),(bE,bE));let z2:=wI (x3 - (1:Int));let z3:=decide (0≤x3∧x3<(x0.length:Int));(.br (decide (x3<(x0.length:Int))) (.br z3 (.br (B3t (z1.1) ((z1.2).1) ((z1.2).2)) (.br (!(B5N (z1.1) ((z1.2).1) ((z1.2).2))) (.done .ret B1r (((),(),false,u35),())) (.br (decide (x3 > (0:Int))) (.br (decide (0≤z2∧z2<(x0.length:Int))) (.br z3 (.br (!(Op.bytesLess (((x0.getD (z2.toNat) ((0:Int),(bE,bE))).2).1).toList ((z1.2).1).toList)) (.done .ret B1r (((),(),false,u35),())) (.next ((x0,(),(),wI (x3+(1:Int)),u34),()))) .fail) .fail) (.next ((x0,(),(),wI (x3+(1:Int)),u34),())))) .fail) .fail) (.done (.exit 0) B4P ((x0,u37),())))
noncomputable def A9V (x0:Lq1) (x3:Int):CT:=(.br (decide (0≤x3)&&L6 x0) (.br (A46 (B1j x0) (x0.length - x3.toNat) x3.toNat) (.done (.exit 0) B4P ((x0,u37),())) (.done .ret B1r (((),(),false,u35),()))) .fail)
noncomputable abbrev A89:W9.den→RT W9.den:=(fun d=>B3f d.1.1 d.1.2.2.2.1)
noncomputable abbrev B6A (x0:Lq1) (x3:Int):W9.den:=((x0,(),(),x3,u34),())
noncomputable def B3J:Code:=((D8 0 (A2d Try.f73)).getD 0 (0,.skip)).2
theorem C0R (x0:Lq1) (x3:Int):(A9V x0 x3).val (D:=W9.den)=.fail∨Runs A89 (B6A x0 x3) (A9V x0 x3).val:=by
 cases hc:(decide (0≤x3)&&L6 x0) with
 | false=>left;simp only [A9V,CT.val,hc,cond_false]
 | true =>
  right
  simp only [A9V,CT.val,hc,cond_true]
  simp only [Bool.and_eq_true,decide_eq_true_eq] at hc
  obtain ⟨i,rfl⟩:=Int.eq_ofNat_of_zero_le hc.1
  have hs:=R4 hc.2
  simp only [Int.toNat_natCast]
  refine Runs.scan (fun j=>B6A x0 (j:Int)) (x0.length) (B1j x0) (fun i hi=>?_) (fun i hi=>?_) ⟨_,_,_,rfl,by simp⟩ ⟨_,_,_,rfl,by simp⟩ _ _ rfl
  ·
   have h0a:decide ((i:Int)<(x0.length:Int))=true:=decide_eq_true (by omega)
   have h0b:decide (0≤(i:Int)∧(i:Int)<(x0.length:Int))=true:=decide_eq_true (by omega)
   simp only [A89,B3f,RT.val,h0a,h0b,cond_true,A7V i (by omega),Int.toNat_natCast]
   have hq:B3t (x0.getD i dOp).1 (x0.getD i dOp).2.1 (x0.getD i dOp).2.2=true:=(A99 hc.2 i hi).1
   simp only [dOp] at hq
   simp only [hq,cond_true,B1j,dOp]
   cases B5N (x0.getD i ((0:Int),((⟨#[]⟩:ByteArray),(⟨#[]⟩:ByteArray)))).1 (x0.getD i ((0:Int),((⟨#[]⟩:ByteArray),(⟨#[]⟩:ByteArray)))).2.1 (x0.getD i ((0:Int),((⟨#[]⟩:ByteArray),(⟨#[]⟩:ByteArray)))).2.2 with
   | false=>rfl
   | true =>
    cases i with
    | zero=>rfl
    | succ i =>
     have h3:decide (((i+1:Nat):Int) > 0)=true:=decide_eq_true (by omega)
     have h4:wI (((i+1:Nat):Int) - 1)=(i:Int):=by have:=A7v (n:=((i+1:Nat):Int) - 1) (by omega) (by omega);omega
     have h5:decide (0≤(i:Int)∧(i:Int)<(x0.length:Int))=true:=decide_eq_true (by omega)
     have h6:decide (i+1=0)=false:=by simp
     simp only [h3,h4,h5,h6,cond_true,Bool.true_and,Bool.false_or,Int.toNat_natCast,Nat.add_sub_cancel,Bool.not_true,cond_false]
     cases Op.bytesLess (x0.getD i ((0:Int),((⟨#[]⟩:ByteArray),(⟨#[]⟩:ByteArray)))).2.1.toList (x0.getD (i+1) ((0:Int),((⟨#[]⟩:ByteArray),(⟨#[]⟩:ByteArray)))).2.1.toList<;>rfl
  ·have h1:decide ((i:Int)<(x0.length:Int))=false:=decide_eq_false (by omega)
   simp only [A89,B3f,RT.val,h1,cond_false]
noncomputable def B6v (x0:Lq1) (x3:Int):Option (Ex×St):=let z1:=x0.getD x3.toNat ((0:Int),(bE,bE));let z2:=(⟨((.t false tq2 x0)::.junk::.junk::(ti (wI (x3+(1:Int))))::C5d),[],0,[]⟩:St);let z3:=wI (x3 - (1:Int));let z4:=(⟨(.junk::.junk::(.t true .bool false)::C2Y),[],0,[]⟩:St);let z5:=decide (0≤x3∧x3<(x0.length:Int));(cond (decide (x3<(x0.length:Int))) (cond z5 (cond (B3t (z1.1) ((z1.2).1) ((z1.2).2)) (cond (!(B5N (z1.1) ((z1.2).1) ((z1.2).2))) (some (.ret,z4)) (cond (decide (x3 > (0:Int))) (cond (decide (0≤z3∧z3<(x0.length:Int))) (cond z5 (cond (!(Op.bytesLess (((x0.getD (z3.toNat) ((0:Int),(bE,bE))).2).1).toList ((z1.2).1).toList)) (some (.ret,z4)) (some (.normal,z2))) none) none) (some (.normal,z2)))) none) none) (some ((.exit 0),(⟨((.t false tq2 x0)::C2Z),[],0,[]⟩:St))))
theorem B9w:RdA G9 aLn 0 B3J W9 0 [] (kepts [2] [(0,[0])]) (fun d=>B6v d.1.1 d.1.2.2.2.1):=by
 intro d
 kernel_rfl
theorem B9y:∀ d:W9.den,(fun d=>B6v d.1.1 d.1.2.2.2.1) d=(A89 d).opt 0 []:=by
 intro d
 kernel_rfl
noncomputable abbrev B5L:St→Option Tree:=W9.say 0 [] [] (fun d=>A9V d.1.1 d.1.2.2.2.1)
theorem C0j:aPL B5L B3J:=SS.wp2 hlz [] A89 B9w B9y _ (fun d=>C0R d.1.1 d.1.2.2.2.1)
noncomputable def V7 (a0:Lq1):Bool:=(cond (A46 (B1j a0) (a0.length - (0:Int).toNat) (0:Int).toNat) (R5 (a0.length:Int) (1:Int) (8:Int)) false)
noncomputable abbrev B45 (r:Bool):AV×List AObj:=((.t true .bool r),[])
noncomputable abbrev B7o:E7 B2A→AV×List AObj:=fun d=>B45 (V7 d.1)
noncomputable def A84 (a0:Lq1):Bool:=L6 a0
noncomputable abbrev B4F:E7 B2A→Bool:=fun d=>A84 d.1
noncomputable abbrev C2x:Nat→St→Option Tree:=fun b=>match b with | 0=>B5L | _=>fun _=>none
theorem C1r:A7X true G9 (C2x) Try.f73 B2A B4F B7o:=by
 rintro ⟨a0,_⟩ hp
 change A84 a0=true at hp
 unfold A84 at hp
 refine Eq.trans (b:=(cond (decide (0≤(0:Int))&&L6 a0) (cond (A46 (B1j a0) (a0.length - (0:Int).toNat) (0:Int).toNat) (some (B45 (R5 (a0.length:Int) (1:Int) (8:Int)))) (some (B45 false))) none)) (by kernel_rfl) ?_
 exact (A70 (by first | rfl | decide | exact hp | (simp only [Bool.and_eq_true] at hp;simp only [hp];done) | (simp [*];done) | (simp [okL] at hp;simp [okL,MAXB];omega) | (simp_all;done) | (simp at *;omega)) (fun _h=>(M2 B45 (fun _h=>rfl) (fun _h=>rfl))))
theorem C2K:aPP 73 (A2n B2A B4F B7o):=pcD true G9 (hl1 (i:=0) (by kernel_rfl) C0j) C1r
noncomputable def S10:Tab:=Tab.add S9 73 (lift (A2n B2A B4F B7o))
noncomputable def C4o:FuncId→Bool:=qadd QF9 73
theorem G10:aPG S10 C4o:=G9.addQ C2K (cbl Try.f73) (fun _=>rfl)

abbrev B2B:List PSh:=[.agg [(.int .i64),(.int .i64),tq2]]
noncomputable def X8 (a0 a1:Int) (a2:Lq1):Bool:=(cond (!(R5 a1 (1:Int) (1000000:Int))) false (cond (a0==(1:Int)) (V7 a2) (cond (a0==(2:Int)) ((a2.length:Int)==(0:Int)) (cond (a0==(3:Int)) ((a2.length:Int)==(0:Int)) false))))
noncomputable abbrev A8g (r:Bool):AV×List AObj:=((.t true .bool r),[])
noncomputable abbrev B7p:E7 B2B→AV×List AObj:=fun d=>A8g (X8 d.1.1 d.1.2.1 d.1.2.2.1)
noncomputable def A85 (a0 a1:Int) (a2:Lq1):Bool:=L6 a2
noncomputable abbrev B4G:E7 B2B→Bool:=fun d=>A85 d.1.1 d.1.2.1 d.1.2.2.1
theorem C1s:A7X true G10 aLn Try.f26 B2B B4G B7p:=by
 rintro ⟨⟨a0,⟨a1,⟨a2,_⟩⟩⟩,_⟩ hp
 change A85 a0 a1 a2=true at hp
 unfold A85 at hp
 refine Eq.trans (b:=(let z1:=A8g ((a2.length:Int)==(0:Int));cond (!(R5 a1 (1:Int) (1000000:Int))) (some (A8g false)) (cond (a0==(1:Int)) (cond (A84 a2) (some (A8g (V7 a2))) none) (cond (a0==(2:Int)) (some z1) (cond (a0==(3:Int)) (some z1) (some (A8g false))))))) (by kernel_rfl) ?_
 exact (M2 A8g (fun _h=>rfl) (fun _h=>(M2 A8g (fun _h=>(A70 (by first | rfl | decide | exact hp | (simp only [Bool.and_eq_true] at hp;simp only [hp];done) | (simp [*];done) | (simp [okL] at hp;simp [okL,MAXB];omega) | (simp_all;done) | (simp at *;omega)) (fun _h=>rfl))) (fun _h=>(M2 A8g (fun _h=>rfl) (fun _h=>(M2 A8g (fun _h=>rfl) (fun _h=>rfl))))))))
theorem C2L:aPP 26 (A2n B2B B4G B7p):=pcD true G10 hlz C1s
noncomputable def S11:Tab:=Tab.add S10 26 (lift (A2n B2B B4G B7p))
noncomputable def C4p:FuncId→Bool:=qadd C4o 26
theorem G11:aPG S11 C4p:=G10.addQ C2L (cbl Try.f26) (fun _=>rfl)

abbrev P1:Ty:=.sl (.int .u8)
abbrev u28:=((),u27)
abbrev B07:List PSh:=[.t P1,.t (.int .i64)]
abbrev T2:SS:=⟨(.junk::tI::.junk::.junk::.junk::.all 0 1::C3C),[.rows 5 true (.int .u8)]⟩
abbrev B0A:SS:=⟨(.junk::tI::.junk::.junk::.junk::.all 0 1::C3C),[.rows 5 true (.int .u8)]⟩
noncomputable def A9E (x1:Int) (h0:List Int):RT T2.den:=let z1:=ior .i64 (iand .i64 x1 (127:Int)) (128:Int);(.br (decide (x1 > (127:Int))) (.br (decide ((h0.length+[IntKind.wrap .u8 z1].length)*1≤MAXB)) (.next (((),Int.fdiv x1 (2 ^ (7)),u28),(h0++[IntKind.wrap .u8 z1],()))) .fail) (.done (.exit 0) B0A (((),x1,u28),(h0,()))))
noncomputable def A8T (x1:Int) (h0:List Int):CT:=(.br (decide (0≤x1∧x1≤1000000000)&&decide (h0.length≤35184372088832)) (.done (.exit 0) B0A (((),((nX x1).2),u28),((h0++(nX x1).1),()))) .fail)
noncomputable abbrev U4:T2.den→RT T2.den:=(fun d=>A9E d.1.2.1 d.2.1)
noncomputable abbrev B1M (x1:Int) (h0:List Int):T2.den:=(((),x1,u28),(h0,()))
noncomputable def B2F:Code:=((D8 0 (A2d Try.f63)).getD 0 (0,.skip)).2
theorem B9U (x1:Int) (h0:List Int):(A8T x1 h0).val (D:=T2.den)=.fail∨Runs U4 (B1M x1 h0) (A8T x1 h0).val:=by
 cases hc:(decide (0≤x1∧x1≤1000000000)&&decide (h0.length≤35184372088832)) with
 | false=>left;simp only [A8T,CT.val,hc,cond_false]
 | true =>
  right
  simp only [A8T,CT.val,hc,cond_true]
  simp only [Bool.and_eq_true,decide_eq_true_eq] at hc
  rw [C1C]
  have key:∀ (k:Nat) (x1:Int) (h0:List Int),0≤x1→x1<128 ^ (k+1)→h0.length+k≤70368744177664→Runs U4 (B1M x1 h0) (((.done (.exit 0) B0A (((),((hiF A9v k x1).2),u28),((h0++(hiF A9v k x1).1),()))):CT).val (D:=T2.den)):=by
   intro k
   induction k with
   | zero =>
    intro x h h1 h2 h3
    have e1:decide (x > 127)=false:=decide_eq_false (by simp at h2;omega)
    refine .done (by simp) ?_
    simp only [U4,A9E,RT.val,e1,cond_false,hiF,List.append_nil]
   | succ k ih =>
    intro x h h1 h2 h3
    rw [Int.pow_succ] at h2
    by_cases hx:x > 127
    ·have e1:decide (x > 127)=true:=decide_eq_true hx
     have e2:decide ((h.length+[A9v x].length)*1≤MAXB)=true:=decide_eq_true (by simp [MAXB];omega)
     simp only [A9v] at e2
     have:=ih (Int.fdiv x (2 ^ 7)) (h++[A9v x]) (by rw [B3n];omega) (by rw [B3n];omega) (by simp;omega)
     refine .next (d':=B1M (Int.fdiv x (2 ^ 7)) (h++[A9v x])) ?_ ?_
     ·simp only [U4,A9E,RT.val,e1,e2,cond_true];rfl
     ·have e3:hiF A9v (k+1) x=(A9v x::(hiF A9v k (Int.fdiv x (2 ^ 7))).1,(hiF A9v k (Int.fdiv x (2 ^ 7))).2):=by simp only [hiF,e1,cond_true]
      rw [e3]
      simpa [List.append_assoc] using this
    ·have e1:decide (x > 127)=false:=decide_eq_false hx
     refine .done (by simp) ?_
     simp only [U4,A9E,RT.val,e1,cond_false,hiF,List.append_nil]
  exact key 4 x1 h0 hc.1.1 (by have:=hc.1.2;simp;omega) (by have:=hc.2;omega)
theorem B8f:RdA G11 aLn 0 B2F T2 0 [] (kepts [] [(0,[1,5])]) (fun d=>(U4 d).opt 0 []):=by
 intro d
 kernel_rfl
noncomputable abbrev B4e:St→Option Tree:=T2.say 0 [] [] (fun d=>A8T d.1.2.1 d.2.1)
theorem B9p:aPL B4e B2F:=SS.wp2 hlz [] U4 B8f (fun d=>rfl) _ (fun d=>B9U d.1.2.1 d.2.1)
noncomputable def J5 (a0:List Int) (a1:Int):List Int:=let z1:=([]:List Int)++a0;let z2:=nX (1000000000:Int);(cond (decide (a1 > (1000000000:Int))) ((z1++z2.1)++[IntKind.wrap .u8 (z2.2)]) (cond (decide (a1<(0:Int))) ((z1++(nX (0:Int)).1)++[IntKind.wrap .u8 ((nX (0:Int)).2)]) ((z1++(nX a1).1)++[IntKind.wrap .u8 ((nX a1).2)])))
noncomputable abbrev A9G (r:List Int):AV×List AObj:=((.all 0 1),[(.rows 5 true (.int .u8) r)])
noncomputable abbrev B56:E7 B07→AV×List AObj:=fun d=>A9G (J5 d.1 d.2.1)
noncomputable def J7 (a0:List Int) (a1:Int):Bool:=decide (a0.length≤17592186044416)
noncomputable abbrev B2U:E7 B07→Bool:=fun d=>J7 d.1 d.2.1
noncomputable abbrev C1J:Nat→St→Option Tree:=fun b=>match b with | 0=>B4e | _=>fun _=>none
theorem C0y:A7X false G11 (C1J) Try.f63 B07 B2U B56:=by
 rintro ⟨(a0:List Int),⟨(a1:Int),_⟩⟩ hp
 change J7 a0 a1=true at hp
 unfold J7 at hp
 refine Eq.trans (b:=(let z1:=([]:List Int)++a0;let z2:=nX (1000000000:Int);let z3:=nX (0:Int);cond (decide ((([]:List Int).length+a0.length)*1≤MAXB)) (cond (decide (a1 > (1000000000:Int))) (cond (decide (0≤(1000000000:Int)∧(1000000000:Int)≤1000000000)&&decide (z1.length≤35184372088832)) (cond (decide (((z1++z2.1).length+[IntKind.wrap .u8 (z2.2)].length)*1≤MAXB)) (some (A9G ((z1++z2.1)++[IntKind.wrap .u8 (z2.2)]))) none) none) (cond (decide (a1<(0:Int))) (cond (decide (0≤(0:Int)∧(0:Int)≤1000000000)&&decide (z1.length≤35184372088832)) (cond (decide (((z1++z3.1).length+[IntKind.wrap .u8 (z3.2)].length)*1≤MAXB)) (some (A9G ((z1++z3.1)++[IntKind.wrap .u8 (z3.2)]))) none) none) (cond (decide (0≤a1∧a1≤1000000000)&&decide (z1.length≤35184372088832)) (cond (decide (((z1++(nX a1).1).length+[IntKind.wrap .u8 ((nX a1).2)].length)*1≤MAXB)) (some (A9G ((z1++(nX a1).1)++[IntKind.wrap .u8 ((nX a1).2)]))) none) none))) none)) (by kernel_rfl) ?_
 exact (A70 (by have h1:=M5 a1;have h2:=M5 0;have h3:=M5 1000000000;simp only [decide_eq_true_eq,decide_eq_false_iff_not,Bool.and_eq_true] at *;(try simp [MAXB])<;>omega) (fun _h=>(M2 A9G (fun _h=>(A70 (by have h1:=M5 a1;have h2:=M5 0;have h3:=M5 1000000000;simp only [decide_eq_true_eq,decide_eq_false_iff_not,Bool.and_eq_true] at *;(try simp [MAXB])<;>omega) (fun _h=>(A70 (by have h1:=M5 a1;have h2:=M5 0;have h3:=M5 1000000000;simp only [decide_eq_true_eq,decide_eq_false_iff_not,Bool.and_eq_true] at *;(try simp [MAXB])<;>omega) (fun _h=>rfl))))) (fun _h=>(M2 A9G (fun _h=>(A70 (by have h1:=M5 a1;have h2:=M5 0;have h3:=M5 1000000000;simp only [decide_eq_true_eq,decide_eq_false_iff_not,Bool.and_eq_true] at *;(try simp [MAXB])<;>omega) (fun _h=>(A70 (by have h1:=M5 a1;have h2:=M5 0;have h3:=M5 1000000000;simp only [decide_eq_true_eq,decide_eq_false_iff_not,Bool.and_eq_true] at *;(try simp [MAXB])<;>omega) (fun _h=>rfl))))) (fun _h=>(A70 (by have h1:=M5 a1;have h2:=M5 0;have h3:=M5 1000000000;simp only [decide_eq_true_eq,decide_eq_false_iff_not,Bool.and_eq_true] at *;(try simp [MAXB])<;>omega) (fun _h=>(A70 (by have h1:=M5 a1;have h2:=M5 0;have h3:=M5 1000000000;simp only [decide_eq_true_eq,decide_eq_false_iff_not,Bool.and_eq_true] at *;(try simp [MAXB])<;>omega) (fun _h=>rfl))))))))))
theorem C1X:aPP 63 (A2n B07 B2U B56):=pcD false G11 (hl1 (i:=0) (by kernel_rfl) B9p) C0y
noncomputable def S12:Tab:=Tab.add S11 63 (lift (A2n B07 B2U B56))
noncomputable def C4q:FuncId→Bool:=C4p
theorem G12:aPG S12 C4q:=G11.add C1X (cbl Try.f63) (by kernel_rfl)
theorem X6 (b:List Int) (n:Int):J5 b n=b++U8 (X2 n):=by
 simp only [J5,U8,X2]
 by_cases h1:n > 1000000000
 ·simp [h1]
 ·by_cases h2:n<0
  ·simp [h1,h2]
  ·simp [h1,h2]
theorem X7 (b:List Int) (n:Int):(J5 b n).length≤b.length+5:=by
 rw [X6,List.length_append]
 have:=R3 (X2 n)
 omega

abbrev A9N:List PSh:=[.t P1,.t .str]
noncomputable def U9 (a0:List Int) (a1:ByteArray):List Int:=((J5 a0 (a1.size:Int))++A18 a1)
noncomputable abbrev B67 (r:List Int):AV×List AObj:=((.all 0 1),[(.rows 5 true (.int .u8) r)])
noncomputable abbrev B4r:E7 A9N→AV×List AObj:=fun d=>B67 (U9 d.1 d.2.1)
noncomputable def P0 (a0:List Int) (a1:ByteArray):Bool:=decide (a0.length≤8796093022208)&&okS a1
noncomputable abbrev B1Q:E7 A9N→Bool:=fun d=>P0 d.1 d.2.1
theorem B9L:A7X false G12 aLn Try.f108 A9N B1Q B4r:=by
 rintro ⟨(a0:List Int),⟨(a1:ByteArray),_⟩⟩ hp
 change P0 a0 a1=true at hp
 unfold P0 at hp
 refine Eq.trans (b:=(let z1:=J5 a0 (a1.size:Int);cond (J7 a0 (a1.size:Int)) (cond (decide (z1.length+a1.size≤MAXB)) (some (B67 (z1++A18 a1))) none) none)) (by kernel_rfl) ?_
 exact (A70 (by have h1:=X7 a0 (a1.size:Int);simp only [J7,okS,decide_eq_true_eq,decide_eq_false_iff_not,Bool.and_eq_true] at *;(try simp [MAXB])<;>omega) (fun _h=>(A70 (by have h1:=X7 a0 (a1.size:Int);simp only [J7,okS,decide_eq_true_eq,decide_eq_false_iff_not,Bool.and_eq_true] at *;(try simp [MAXB])<;>omega) (fun _h=>rfl))))
theorem C00:aPP 108 (A2n A9N B1Q B4r):=pcD false G12 hlz B9L
noncomputable def S13:Tab:=Tab.add S12 108 (lift (A2n A9N B1Q B4r))
noncomputable def C4r:FuncId→Bool:=C4q
theorem G13:aPG S13 C4r:=G12.add C00 (cbl Try.f108) (by kernel_rfl)
theorem B21 (b:List Int) (s:ByteArray) (h:okS s=true):U9 b s=b++B5U s:=by
 simp only [okS,decide_eq_true_eq] at h
 simp only [U9,X6,B5U,List.append_assoc]
 rw [Q9 (by omega) (by omega)]
theorem B5F (b:List Int) (s:ByteArray) (h:okS s=true):(U9 b s).length≤b.length+5+s.size:=by
 rw [B21 b s h,List.length_append]
 have:=B3u s
 omega

abbrev C6p:List Sh:=.junk::C22
abbrev u40:=((),(),(),u37)
abbrev C6i:List AV:=.junk::C2Y
noncomputable def B4J (l:Lq1) (i:Nat) (h:List Int):List Int:=let z1:=l.getD i dOp;U9 (U9 (J5 h z1.1) z1.2.1) z1.2.2
abbrev B08:List PSh:=[.t tq2]
abbrev T3:SS:=⟨(.t false tq2::.junk::.junk::.all 0 1::tI::C22),[.rows 5 true (.int .u8)]⟩
abbrev B0B:SS:=⟨(.junk::.junk::.junk::.all 0 1::C6p),[.rows 5 true (.int .u8)]⟩
noncomputable def B12 (x0:Lq1) (x4:Int) (h0:List Int):RT T3.den:=let z1:=x0.getD x4.toNat ((0:Int),(bE,bE));let z2:=decide (0≤x4∧x4<(x0.length:Int));let z3:=U9 (J5 h0 (z1.1)) ((z1.2).1);(.br (decide (x4<(x0.length:Int))) (.br z2 (.br z2 (.br z2 (.br (J7 h0 (z1.1)) (.br (P0 (J5 h0 (z1.1)) ((z1.2).1)) (.br (P0 z3 ((z1.2).2)) (.next ((x0,(),(),(),wI (x4+(1:Int)),u35),((U9 z3 ((z1.2).2)),()))) .fail) .fail) .fail) .fail) .fail) .fail) (.done (.exit 0) B0B ((u40),(h0,()))))
noncomputable def A8U (x0:Lq1) (x4:Int) (h0:List Int):CT:=(.br (decide (0≤x4)&&(decide (h0.length≤4194304*(x4.toNat+1))&&L6 x0)) (.done (.exit 0) B0B ((u40),((foldN (B4J x0) (x0.length - x4.toNat) x4.toNat h0),()))) .fail)
noncomputable abbrev Z4:T3.den→RT T3.den:=(fun d=>B12 d.1.1 d.1.2.2.2.2.1 d.2.1)
noncomputable abbrev B5n (x0:Lq1) (x4:Int) (h0:List Int):T3.den:=((x0,(),(),(),x4,u35),(h0,()))
noncomputable def B2G:Code:=((D8 0 (A2d Try.f64)).getD 0 (0,.skip)).2
theorem B9V (x0:Lq1) (x4:Int) (h0:List Int):(A8U x0 x4 h0).val (D:=T3.den)=.fail∨Runs Z4 (B5n x0 x4 h0) (A8U x0 x4 h0).val:=by
 cases hc:(decide (0≤x4)&&(decide (h0.length≤4194304*(x4.toNat+1))&&L6 x0)) with
 | false=>left;simp only [A8U,CT.val,hc,cond_false]
 | true =>
  right
  simp only [A8U,CT.val,hc,cond_true]
  simp only [Bool.and_eq_true,decide_eq_true_eq] at hc
  obtain ⟨i,rfl⟩:=Int.eq_ofNat_of_zero_le hc.1
  have hs:=R4 hc.2.2
  have hb0:=hc.2.1
  simp only [Int.toNat_natCast] at hb0 ⊢
  refine Runs.foldN (step:=Z4) (fun j b=>B5n x0 (j:Int) b) (fun i b=>b.length≤4194304*(i+1)) (x0.length) (B4J x0)
   (fin:=fun b=>((.done (.exit 0) B0B ((u40),(b,()))):CT).val) (fun i b hi hb=>?_) (fun i b hi hb=>?_) (x0.length - i) i h0 rfl hb0
  ·obtain ⟨k1,k2⟩:=A99 hc.2.2 i hi
   have l1:=X7 b (x0.getD i dOp).1
   have l2:=B5F (J5 b (x0.getD i dOp).1) (x0.getD i dOp).2.1 k1
   have l3:=B5F (U9 (J5 b (x0.getD i dOp).1) (x0.getD i dOp).2.1) (x0.getD i dOp).2.2 k2
   have m1:=A7O k1
   have m2:=A7O k2
   have q1:J7 b (x0.getD i dOp).1=true:=by simp only [J7,decide_eq_true_eq];omega
   have q2:P0 (J5 b (x0.getD i dOp).1) (x0.getD i dOp).2.1=true:=by simp only [P0,k1,Bool.and_true,decide_eq_true_eq];omega
   have q3:P0 (U9 (J5 b (x0.getD i dOp).1) (x0.getD i dOp).2.1) (x0.getD i dOp).2.2=true:=by simp only [P0,k2,Bool.and_true,decide_eq_true_eq];omega
   refine ⟨by simp only [B4J];omega,?_⟩
   have h0a:decide ((i:Int)<(x0.length:Int))=true:=decide_eq_true (by omega)
   have h0b:decide (0≤(i:Int)∧(i:Int)<(x0.length:Int))=true:=decide_eq_true (by omega)
   simp only [dOp] at q1 q2 q3
   simp only [Z4,B12,RT.val,h0a,h0b,cond_true,A7V i (by omega),Int.toNat_natCast,q1,q2,q3]
   rfl
  ·have h1:decide ((i:Int)<(x0.length:Int))=false:=decide_eq_false (by omega)
   exact ⟨by simp only [Z4,B12,RT.val,h1,cond_false];rfl,_,_,_,rfl,by simp⟩
noncomputable def B5k (x0:Lq1) (x4:Int) (h0:List Int):Option (Ex×St):=let z1:=x0.getD x4.toNat ((0:Int),(bE,bE));let z2:=decide (0≤x4∧x4<(x0.length:Int));let z3:=U9 (J5 h0 (z1.1)) ((z1.2).1);(cond (decide (x4<(x0.length:Int))) (cond z2 (cond z2 (cond z2 (cond (J7 h0 (z1.1)) (cond (P0 (J5 h0 (z1.1)) ((z1.2).1)) (cond (P0 z3 ((z1.2).2)) (some (.normal,(⟨((.t false tq2 x0)::.junk::.junk::(.all 0 1)::(ti (wI (x4+(1:Int))))::C2Y),[(.rows 5 true (.int .u8) (U9 z3 ((z1.2).2)))],0,[]⟩:St))) none) none) none) none) none) none) (some ((.exit 0),(⟨(.junk::.junk::.junk::(.all 0 1)::C6i),[(.rows 5 true (.int .u8) h0)],0,[]⟩:St))))
theorem B8g:RdA G13 aLn 0 B2G T3 0 [] (kepts [] [(0,[3])]) (fun d=>B5k d.1.1 d.1.2.2.2.2.1 d.2.1):=by
 intro d
 kernel_rfl
theorem B8n:∀ d:T3.den,(fun d=>B5k d.1.1 d.1.2.2.2.2.1 d.2.1) d=(Z4 d).opt 0 []:=by
 intro d
 kernel_rfl
noncomputable abbrev B4f:St→Option Tree:=T3.say 0 [] [] (fun d=>A8U d.1.1 d.1.2.2.2.2.1 d.2.1)
theorem B9q:aPL B4f B2G:=SS.wp2 hlz [] Z4 B8g B8n _ (fun d=>B9V d.1.1 d.1.2.2.2.2.1 d.2.1)
noncomputable def A8k (a0:Lq1):List Int:=(cond (!(V7 a0)) ([]:List Int) (foldN (B4J a0) (a0.length - (0:Int).toNat) (0:Int).toNat (J5 ([]:List Int) (a0.length:Int))))
noncomputable abbrev B3m (r:List Int):AV×List AObj:=((.all 0 1),[(.rows 5 true (.int .u8) r)])
noncomputable abbrev B57:E7 B08→AV×List AObj:=fun d=>B3m (A8k d.1)
noncomputable def A8C (a0:Lq1):Bool:=L6 a0
noncomputable abbrev B2V:E7 B08→Bool:=fun d=>A8C d.1
noncomputable abbrev C1K:Nat→St→Option Tree:=fun b=>match b with | 0=>B4f | _=>fun _=>none
theorem C0z:A7X false G13 (C1K) Try.f64 B08 B2V B57:=by
 rintro ⟨(a0:Lq1),_⟩ hp
 change A8C a0=true at hp
 unfold A8C at hp
 refine Eq.trans (b:=(let z2:=([]:List Int);let z1:=J5 z2 (a0.length:Int);cond (A84 a0) (cond (!(V7 a0)) (some (B3m z2)) (cond (J7 z2 (a0.length:Int)) (cond (decide (0≤(0:Int))&&(decide (z1.length≤4194304*((0:Int).toNat+1))&&L6 a0)) (some (B3m (foldN (B4J a0) (a0.length - (0:Int).toNat) (0:Int).toNat z1))) none) none)) none)) (by kernel_rfl) ?_
 exact (A70 (by have h1:=X7 [] (a0.length:Int);have hs:=R4 hp;simp only [A84,J7,hp,Bool.and_true,Bool.true_and,Bool.and_eq_true,decide_eq_true_eq]<;>(try simp only [List.length_nil,Int.toNat_zero,Int.le_refl,true_and] at h1 ⊢)<;>omega) (fun _h=>(M2 B3m (fun _h=>rfl) (fun _h=>(A70 (by have h1:=X7 [] (a0.length:Int);have hs:=R4 hp;simp only [A84,J7,hp,Bool.and_true,Bool.true_and,Bool.and_eq_true,decide_eq_true_eq]<;>(try simp only [List.length_nil,Int.toNat_zero,Int.le_refl,true_and] at h1 ⊢)<;>omega) (fun _h=>(A70 (by have h1:=X7 [] (a0.length:Int);have hs:=R4 hp;simp only [A84,J7,hp,Bool.and_true,Bool.true_and,Bool.and_eq_true,decide_eq_true_eq]<;>(try simp only [List.length_nil,Int.toNat_zero,Int.le_refl,true_and] at h1 ⊢)<;>omega) (fun _h=>rfl))))))))
theorem C1Y:aPP 64 (A2n B08 B2V B57):=pcD false G13 (hl1 (i:=0) (by kernel_rfl) B9q) C0z
noncomputable def S14:Tab:=Tab.add S13 64 (lift (A2n B08 B2V B57))
noncomputable def C4s:FuncId→Bool:=C4r
theorem G14:aPG S14 C4s:=G13.add C1Y (cbl Try.f64) (by kernel_rfl)
theorem C1u (l:Lq1) (ho:L6 l=true):A8k l=cond (!(V7 l)) [] (U8 (X2 (l.length:Int))++(l.map opB).flatten):=by
 simp only [A8k]
 congr 1
 have:=B8D opB dOp l (B4J l) (fun i h hi=>by
  obtain ⟨k1,k2⟩:=A99 ho i hi
  simp only [B4J,B21 _ _ k1,B21 _ _ k2,X6,opB,List.append_assoc]) l.length 0 (J5 [] (l.length:Int)) (by omega)
 rw [X6,List.nil_append,List.drop_zero] at this
 rw [← this]
 rw [X6,List.nil_append]
 rfl
abbrev C21:List Sh:=.junk::.junk::.junk::.junk::C2a
abbrev C2X:List AV:=.junk::.junk::.junk::.junk::.junk::.junk::.junk::.junk::.junk::.junk::.junk::.junk::.junk::.junk::.junk::.junk::.junk::.junk::.junk::.junk::.junk::.junk::.junk::.junk::.junk::.junk::.junk::.junk::.junk::.junk::[]
abbrev C3D:List Sh:=.junk::.junk::C2a
abbrev u29:=((),u28)
abbrev C5c:List AV:=.junk::.junk::.junk::.junk::.junk::.junk::.junk::.junk::.junk::.junk::.junk::.junk::.junk::.junk::.junk::.junk::.junk::.junk::.junk::.junk::.junk::.junk::.junk::.junk::.junk::.junk::.junk::.junk::[]
abbrev B06:List PSh:=[.t P1]
noncomputable def A93:Code:=((D8 0 (A2d Try.f109)).getD 0 (0,.skip)).2
noncomputable def A94:Code:=((D8 0 (A2d Try.f109)).getD 1 (0,.skip)).2
abbrev T0:SS:=⟨(.t false P1::.junk::.junk::.all 0 1::C21),[.rows 5 true (.int .u8)]⟩
abbrev B3C:SS:=⟨(.t false P1::.junk::.junk::.all 0 1::C21),[.rows 5 true (.int .u8)]⟩
noncomputable def B5S (x0 h0:List Int):RT T0.den:=(.br ((Int.tmod (h0.length:Int) (64:Int)) != (56:Int)) (.br (decide ((h0.length+[(0:Int)].length)*1≤MAXB)) (.next ((x0,u34),(h0++[(0:Int)],()))) .fail) (.done (.exit 0) B3C ((x0,u34),(h0,()))))
abbrev A8Z:=(List Int)×(List Int)
abbrev A0r:=Nat×(List Int)×(List Int)
def B47:A0r:=(99,([]:List Int),([]:List Int))
noncomputable def A9B (x0 h0:List Int):A8Z ⊕ A0r:=(cond ((Int.tmod (h0.length:Int) (64:Int)) != (56:Int)) (cond (decide ((h0.length+[(0:Int)].length)*1≤MAXB)) (.inl (x0,h0++[(0:Int)])) (.inr B47)) (.inr (0,x0,h0)))
noncomputable def K4 (x0 h0:List Int):A0r:=itX (fun v:A8Z=>A9B v.1 v.2) B47 (x0,h0)
noncomputable def B1y (a:A0r):CT:=(.br (a.1==0) (.done (.exit 0) B3C ((a.2.1,u34),(a.2.2,()))) .fail)
noncomputable def B90 (x0 h0:List Int):CT:=B1y (K4 x0 h0)
noncomputable abbrev B1Y:T0.den→RT T0.den:=(fun d=>B5S d.1.1 d.2.1)
noncomputable abbrev B5w (v:A8Z):T0.den:=((v.1,u34),(v.2,()))
theorem B9D:(∀ v:A8Z,(B5S v.1 v.2).val=A62 B5w B1y (A9B v.1 v.2))∧∀ a:A0r,CEnd T0.den (B1y a):=⟨fun v=>(A72 (A72 rfl rfl) rfl),fun a=>(A7R aCD A7T)⟩
noncomputable def B5i (x0 h0:List Int):Option (Ex×St):=(cond ((Int.tmod (h0.length:Int) (64:Int)) != (56:Int)) (cond (decide ((h0.length+[(0:Int)].length)*1≤MAXB)) (some (.normal,(⟨((.t false P1 x0)::.junk::.junk::(.all 0 1)::C2X),[(.rows 5 true (.int .u8) (h0++[(0:Int)]))],0,[]⟩:St))) none) (some ((.exit 0),(⟨((.t false P1 x0)::.junk::.junk::(.all 0 1)::C2X),[(.rows 5 true (.int .u8) h0)],0,[]⟩:St))))
theorem B8d:RdA G14 aLn 0 A93 T0 0 [] (kepts [] [(0,[0,3])]) (fun d=>B5i d.1.1 d.2.1):=by
 intro d
 kernel_rfl
theorem B8l:∀ d:T0.den,(fun d=>B5i d.1.1 d.2.1) d=(B1Y d).opt 0 []:=by
 intro d
 kernel_rfl
noncomputable abbrev B4c:St→Option Tree:=T0.say 0 [] [] (fun d=>B90 d.1.1 d.2.1)
theorem B9n:aPL B4c A93:=SS.wp2 hlz [] B1Y B8d B8l _ (fun d=>Runs.ofI2 (step:=B1Y) B5w B9D rfl (d.1.1,d.2.1))
abbrev T1:SS:=⟨(.junk::.junk::.junk::.all 0 1::tI::tI::C3D),[.rows 5 true (.int .u8)]⟩
abbrev B3D:SS:=⟨(.junk::.junk::.junk::.all 0 1::C21),[.rows 5 true (.int .u8)]⟩
noncomputable def B5T (x4 x5:Int) (h0:List Int):RT T1.den:=(.br (decide (x5 ≥ (0:Int))) (.br (decide (0≤(IntKind.wrap .u64 x5))) (.br (decide ((h0.length+[IntKind.wrap .u8 (Int.fdiv x4 (2 ^ (min (Int.toNat (IntKind.wrap .u64 x5)) (IntKind.bits .i64))))].length)*1≤MAXB)) (.next (((),(),(),(),x4,wI (x5 - (8:Int)),u29),(h0++[IntKind.wrap .u8 (Int.fdiv x4 (2 ^ (min (Int.toNat (IntKind.wrap .u64 x5)) (IntKind.bits .i64))))],()))) .fail) .fail) (.done (.exit 2) B3D ((u35),(h0,()))))
abbrev A80:=(Int)×(Int)×(List Int)
abbrev A0s:=Nat×(List Int)
def B1E:A0s:=(99,([]:List Int))
noncomputable def A9C (x4 x5:Int) (h0:List Int):A80 ⊕ A0s:=(cond (decide (x5 ≥ (0:Int))) (cond (decide (0≤(IntKind.wrap .u64 x5))) (cond (decide ((h0.length+[IntKind.wrap .u8 (Int.fdiv x4 (2 ^ (min (Int.toNat (IntKind.wrap .u64 x5)) (IntKind.bits .i64))))].length)*1≤MAXB)) (.inl (x4,wI (x5 - (8:Int)),h0++[IntKind.wrap .u8 (Int.fdiv x4 (2 ^ (min (Int.toNat (IntKind.wrap .u64 x5)) (IntKind.bits .i64))))])) (.inr B1E)) (.inr B1E)) (.inr (0,h0)))
noncomputable def U2 (x4 x5:Int) (h0:List Int):A0s:=itX (fun v:A80=>A9C v.1 v.2.1 v.2.2) B1E (x4,x5,h0)
noncomputable def B1z (a:A0s):CT:=(.br (a.1==0) (.done (.exit 2) B3D ((u35),(a.2,()))) .fail)
noncomputable def B91 (x4 x5:Int) (h0:List Int):CT:=B1z (U2 x4 x5 h0)
noncomputable abbrev B1Z:T1.den→RT T1.den:=(fun d=>B5T d.1.2.2.2.2.1 d.1.2.2.2.2.2.1 d.2.1)
noncomputable abbrev B5x (v:A80):T1.den:=(((),(),(),(),v.1,v.2.1,u29),(v.2.2,()))
theorem B9E:(∀ v:A80,(B5T v.1 v.2.1 v.2.2).val=A62 B5x B1z (A9C v.1 v.2.1 v.2.2))∧∀ a:A0s,CEnd T1.den (B1z a):=⟨fun v=>(A72 (A72 (A72 rfl rfl) rfl) rfl),fun a=>(A7R aCD A7T)⟩
noncomputable def B5j (x4 x5:Int) (h0:List Int):Option (Ex×St):=(cond (decide (x5 ≥ (0:Int))) (cond (decide (0≤(IntKind.wrap .u64 x5))) (cond (decide ((h0.length+[IntKind.wrap .u8 (Int.fdiv x4 (2 ^ (min (Int.toNat (IntKind.wrap .u64 x5)) (IntKind.bits .i64))))].length)*1≤MAXB)) (some (.normal,(⟨(.junk::.junk::.junk::(.all 0 1)::(ti x4)::(ti (wI (x5 - (8:Int))))::C5c),[(.rows 5 true (.int .u8) (h0++[IntKind.wrap .u8 (Int.fdiv x4 (2 ^ (min (Int.toNat (IntKind.wrap .u64 x5)) (IntKind.bits .i64))))]))],0,[]⟩:St))) none) none) (some ((.exit 2),(⟨(.junk::.junk::.junk::(.all 0 1)::C2X),[(.rows 5 true (.int .u8) h0)],0,[]⟩:St))))
theorem B8e:RdA G14 aLn 2 A94 T1 0 [] (kepts [] [(2,[3])]) (fun d=>B5j d.1.2.2.2.2.1 d.1.2.2.2.2.2.1 d.2.1):=by
 intro d
 kernel_rfl
theorem B8m:∀ d:T1.den,(fun d=>B5j d.1.2.2.2.2.1 d.1.2.2.2.2.2.1 d.2.1) d=(B1Z d).opt 0 []:=by
 intro d
 kernel_rfl
noncomputable abbrev B4d:St→Option Tree:=T1.say 0 [] [] (fun d=>B91 d.1.2.2.2.2.1 d.1.2.2.2.2.2.1 d.2.1)
theorem B9o:aPL B4d A94:=SS.wp2 hlz [] B1Z B8e B8m _ (fun d=>Runs.ofI2 (step:=B1Z) B5x B9E rfl (d.1.2.2.2.2.1,d.1.2.2.2.2.2.1,d.2.1))
noncomputable def A8u (a0:List Int):=let z1:=K4 a0 ((([]:List Int)++a0)++[(128:Int)]);U2 (wI ((((z1.2.1).length:Nat):Int)*(8:Int))) (56:Int) (z1.2.2)
noncomputable def L7 (a0:List Int):List Int:=((A8u a0).2)
noncomputable abbrev B8B (r:List Int):AV×List AObj:=((.t true P1 r),[])
noncomputable abbrev B55:E7 B06→AV×List AObj:=fun d=>B8B (L7 d.1)
noncomputable def A8B (a0:List Int):Bool:=let z1:=([]:List Int);(decide ((z1.length+a0.length)*1≤MAXB))&&((decide (((z1++a0).length+[(128:Int)].length)*1≤MAXB))&&(((K4 a0 ((z1++a0)++[(128:Int)])).1==0)&&((A8u a0).1==0)))
noncomputable abbrev B2T:E7 B06→Bool:=fun d=>A8B d.1
noncomputable abbrev C1I:Nat→St→Option Tree:=fun b=>match b with | 0=>B4c | 2=>B4d | _=>fun _=>none
theorem C0x:A7X true G14 (C1I) Try.f109 B06 B2T B55:=by
 rintro ⟨a0,_⟩ hp
 change A8B a0=true at hp
 unfold A8B at hp
 refine Eq.trans (b:=(let z1:=([]:List Int);cond (decide ((z1.length+a0.length)*1≤MAXB)) (cond (decide (((z1++a0).length+[(128:Int)].length)*1≤MAXB)) (cond ((K4 a0 ((z1++a0)++[(128:Int)])).1==0) (cond ((A8u a0).1==0) (some (B8B ((A8u a0).2))) none) none) none) none)) (by kernel_rfl) ?_
 exact (A7Y hp fun hp=>(A7Y hp fun hp=>(A7Y hp fun hp=>(A70 hp fun _h=>rfl))))
theorem C1W:aPP 109 (A2n B06 B2T B55):=pcD true G14 (by
  rw [show D8 0 (A2d Try.f109)=[(0,A93),(2,A94)] by kernel_rfl];intro p hp;simp only [List.mem_cons,List.mem_nil_iff,or_false] at hp
  rcases hp with rfl | rfl
  ·exact B9n
  ·exact B9o) C0x
noncomputable def S15:Tab:=Tab.add S14 109 (lift (A2n B06 B2T B55))
noncomputable def C4t:FuncId→Bool:=qadd C4s 109
theorem G15:aPG S15 C4t:=G14.addQ C1W (cbl Try.f109) (fun _=>rfl)

abbrev B0f:Ty:=.sl (.int .i64)
abbrev B6V:List PSh:=[]
noncomputable def B2h :List Int:=[(1116352408:Int),(1899447441:Int),(3049323471:Int),(3921009573:Int),(961987163:Int),(1508970993:Int),(2453635748:Int),(2870763221:Int),(3624381080:Int),(310598401:Int),(607225278:Int),(1426881987:Int),(1925078388:Int),(2162078206:Int),(2614888103:Int),(3248222580:Int),(3835390401:Int),(4022224774:Int),(264347078:Int),(604807628:Int),(770255983:Int),(1249150122:Int),(1555081692:Int),(1996064986:Int),(2554220882:Int),(2821834349:Int),(2952996808:Int),(3210313671:Int),(3336571891:Int),(3584528711:Int),(113926993:Int),(338241895:Int),(666307205:Int),(773529912:Int),(1294757372:Int),(1396182291:Int),(1695183700:Int),(1986661051:Int),(2177026350:Int),(2456956037:Int),(2730485921:Int),(2820302411:Int),(3259730800:Int),(3345764771:Int),(3516065817:Int),(3600352804:Int),(4094571909:Int),(275423344:Int),(430227734:Int),(506948616:Int),(659060556:Int),(883997877:Int),(958139571:Int),(1322822218:Int),(1537002063:Int),(1747873779:Int),(1955562222:Int),(2024104815:Int),(2227730452:Int),(2361852424:Int),(2428436474:Int),(2756734187:Int),(3204031479:Int),(3329325298:Int)]
noncomputable abbrev C38 (r:List Int):AV×List AObj:=((.t true B0f r),[])
noncomputable abbrev C07:E7 B6V→AV×List AObj:=fun d=>C38 (B2h )
noncomputable abbrev B7x:E7 B6V→Bool:=fun d=>true
theorem C3c:A7X true G15 aLn Try.f110 B6V B7x C07:=by
 rintro _ hp
 kernel_rfl
theorem C37:aPP 110 (A2n B6V B7x C07):=pcD true G15 hlz C3c
noncomputable def S16:Tab:=Tab.add S15 110 (lift (A2n B6V B7x C07))
noncomputable def C4u:FuncId→Bool:=qadd C4t 110
theorem G16:aPG S16 C4u:=G15.addQ C37 (cbl Try.f110) (fun _=>rfl)

abbrev B1a:List PSh:=[.t (.int .i64),.t (.int .i64)]
noncomputable def J0 (a0 a1:Int):Int:=(iand .i64 (ior .i64 (Int.fdiv a0 (2 ^ (min (Int.toNat (IntKind.wrap .u64 a1)) (IntKind.bits .i64)))) (wI (a0*2 ^ (min (Int.toNat (IntKind.wrap .u64 (wI ((32:Int) - a1)))) (IntKind.bits .i64))))) (4294967295:Int))
noncomputable abbrev B8C (r:Int):AV×List AObj:=((ti r),[])
noncomputable abbrev B59:E7 B1a→AV×List AObj:=fun d=>B8C (J0 d.1 d.2.1)
noncomputable def I8 (a0 a1:Int):Bool:=(decide (0≤(IntKind.wrap .u64 a1)))&&(decide (0≤(IntKind.wrap .u64 (wI ((32:Int) - a1)))))
noncomputable abbrev B2X:E7 B1a→Bool:=fun d=>I8 d.1 d.2.1
theorem C0B:A7X true G16 aLn Try.f146 B1a B2X B59:=by
 rintro ⟨a0,⟨a1,_⟩⟩ hp
 change I8 a0 a1=true at hp
 unfold I8 at hp
 refine Eq.trans (b:=(let z1:=wI ((32:Int) - a1);cond (decide (0≤(IntKind.wrap .u64 a1))) (cond (decide (0≤(IntKind.wrap .u64 z1))) (some (B8C (iand .i64 (ior .i64 (Int.fdiv a0 (2 ^ (min (Int.toNat (IntKind.wrap .u64 a1)) (IntKind.bits .i64)))) (wI (a0*2 ^ (min (Int.toNat (IntKind.wrap .u64 z1)) (IntKind.bits .i64))))) (4294967295:Int)))) none) none)) (by kernel_rfl) ?_
 exact (A7Y hp fun hp=>(A70 hp fun _h=>rfl))
theorem C10:aPP 146 (A2n B1a B2X B59):=pcD true G16 hlz C0B
noncomputable def S17:Tab:=Tab.add S16 146 (lift (A2n B1a B2X B59))
noncomputable def C4v:FuncId→Bool:=qadd C4u 146
theorem G17:aPG S17 C4v:=G16.addQ C10 (cbl Try.f146) (fun _=>rfl)

abbrev C5t:List Sh:=.junk::.junk::.junk::.junk::.junk::.junk::.junk::.junk::.junk::.junk::.junk::.junk::.junk::.junk::.junk::.junk::.junk::.junk::.junk::.junk::.junk::.junk::.junk::.junk::.junk::.junk::.junk::.junk::.junk::.junk::.junk::.junk::.junk::.junk::.junk::.junk::.junk::.junk::.junk::.junk::.junk::.junk::.junk::.junk::.junk::.junk::.junk::.junk::.junk::.junk::.junk::.junk::.junk::.junk::.junk::.junk::.junk::.junk::.junk::.junk::C23
abbrev C24:List Sh:=.junk::C5t
abbrev u97:=((),(),(),(),(),(),(),(),(),(),(),(),(),(),(),(),(),(),(),(),(),(),(),(),(),(),(),(),(),(),(),(),(),(),(),(),(),(),(),(),(),(),(),(),(),(),(),(),(),(),(),(),(),(),(),(),(),u40)
abbrev B9P:=((),(),(),(),(),u97)
abbrev C5i:List AV:=.junk::.junk::.junk::.junk::.junk::.junk::.junk::.junk::.junk::.junk::.junk::.junk::.junk::.junk::.junk::.junk::.junk::.junk::.junk::.junk::.junk::.junk::.junk::.junk::.junk::.junk::.junk::.junk::.junk::.junk::.junk::.junk::.junk::.junk::.junk::.junk::.junk::.junk::.junk::.junk::.junk::.junk::.junk::.junk::.junk::.junk::.junk::.junk::.junk::.junk::.junk::.junk::.junk::.junk::.junk::.junk::.junk::.junk::.junk::.junk::C2Z
abbrev C20:List AV:=.junk::C5i
abbrev C6s:List Sh:=.junk::.junk::.junk::.junk::.junk::.junk::.junk::.junk::.junk::.junk::.junk::.junk::.junk::.junk::.junk::.junk::.junk::.junk::.junk::.junk::.junk::.junk::.junk::.junk::.junk::.junk::.junk::.junk::.junk::.junk::.junk::.junk::.junk::.junk::.junk::.junk::.junk::.junk::.junk::.junk::.junk::.junk::.junk::.junk::.junk::.junk::.junk::.junk::.junk::.junk::.junk::.junk::.junk::.junk::.junk::.junk::.junk::.junk::.junk::C23
abbrev u96:=((),(),(),(),(),(),(),(),(),(),(),(),(),(),(),(),(),(),(),(),(),(),(),(),(),(),(),(),(),(),(),(),(),(),(),(),(),(),(),(),(),(),(),(),(),(),(),(),(),(),(),(),(),(),(),(),u40)
abbrev C6l:List AV:=.junk::.junk::.junk::.junk::.junk::.junk::.junk::.junk::.junk::.junk::.junk::.junk::.junk::.junk::.junk::.junk::.junk::.junk::.junk::.junk::.junk::.junk::.junk::.junk::.junk::.junk::.junk::.junk::.junk::.junk::.junk::.junk::.junk::.junk::.junk::.junk::.junk::.junk::.junk::.junk::.junk::.junk::.junk::.junk::.junk::.junk::.junk::.junk::.junk::.junk::.junk::.junk::.junk::.junk::.junk::.junk::.junk::.junk::.junk::C2Z
abbrev A9P:List PSh:=[.t P1]
noncomputable def A9f:Code:=((D8 0 (A2d Try.f145)).getD 0 (0,.skip)).2
noncomputable def A9g:Code:=((D8 0 (A2d Try.f145)).getD 1 (0,.skip)).2
abbrev P8:SS:=⟨(.t false P1::.junk::.junk::.all 0 1::tI::C5t),[.rows 3 true (.int .i64)]⟩
abbrev B2o:SS:=⟨(.junk::.junk::.junk::.all 0 1::C24),[.rows 3 true (.int .i64)]⟩
noncomputable def B4l (x0:List Int) (x4:Int) (h0:List Int):RT P8.den:=let z1:=wI ((4:Int)*x4);let z3:=wI (z1+(3:Int));let z4:=wI (z1+(1:Int));let z5:=wI (z1+(2:Int));let z2:=ior .i64 (ior .i64 (wI ((wI (x0.getD (z1.toNat) (0:Int)))*2 ^ (24))) (wI ((wI (x0.getD (z4.toNat) (0:Int)))*2 ^ (16)))) (wI ((wI (x0.getD (z5.toNat) (0:Int)))*2 ^ (8)));let z6:=wI (x0.getD (z3.toNat) (0:Int));(.br (decide (x4<(16:Int))) (.br (decide (0≤z1∧z1<(x0.length:Int))) (.br (decide (0≤z4∧z4<(x0.length:Int))) (.br (decide (0≤z5∧z5<(x0.length:Int))) (.br (decide (0≤z3∧z3<(x0.length:Int))) (.br (decide ((h0.length+[ior .i64 z2 z6].length)*8≤MAXB)) (.next ((x0,(),(),(),wI (x4+(1:Int)),u97),(h0++[ior .i64 z2 z6],()))) .fail) .fail) .fail) .fail) .fail) (.done (.exit 0) B2o ((B9P),(h0,()))))
abbrev A8b:=(List Int)×(Int)×(List Int)
abbrev Y2:=Nat×(List Int)
def V2:Y2:=(99,([]:List Int))
noncomputable def A8N (x0:List Int) (x4:Int) (h0:List Int):A8b ⊕ Y2:=let z1:=wI ((4:Int)*x4);let z3:=wI (z1+(3:Int));let z4:=wI (z1+(1:Int));let z5:=wI (z1+(2:Int));let z2:=ior .i64 (ior .i64 (wI ((wI (x0.getD (z1.toNat) (0:Int)))*2 ^ (24))) (wI ((wI (x0.getD (z4.toNat) (0:Int)))*2 ^ (16)))) (wI ((wI (x0.getD (z5.toNat) (0:Int)))*2 ^ (8)));let z6:=wI (x0.getD (z3.toNat) (0:Int));(cond (decide (x4<(16:Int))) (cond (decide (0≤z1∧z1<(x0.length:Int))) (cond (decide (0≤z4∧z4<(x0.length:Int))) (cond (decide (0≤z5∧z5<(x0.length:Int))) (cond (decide (0≤z3∧z3<(x0.length:Int))) (cond (decide ((h0.length+[ior .i64 z2 z6].length)*8≤MAXB)) (.inl (x0,wI (x4+(1:Int)),h0++[ior .i64 z2 z6])) (.inr V2)) (.inr V2)) (.inr V2)) (.inr V2)) (.inr V2)) (.inr (0,h0)))
noncomputable def N8 (x0:List Int) (x4:Int) (h0:List Int):Y2:=itX (fun v:A8b=>A8N v.1 v.2.1 v.2.2) V2 (x0,x4,h0)
noncomputable def B0H (a:Y2):CT:=(.br (a.1==0) (.done (.exit 0) B2o ((B9P),(a.2,()))) .fail)
noncomputable def B8X (x0:List Int) (x4:Int) (h0:List Int):CT:=B0H (N8 x0 x4 h0)
noncomputable abbrev B0U:P8.den→RT P8.den:=(fun d=>B4l d.1.1 d.1.2.2.2.2.1 d.2.1)
noncomputable abbrev B33 (v:A8b):P8.den:=((v.1,(),(),(),v.2.1,u97),(v.2.2,()))
theorem B8s:(∀ v:A8b,(B4l v.1 v.2.1 v.2.2).val=A62 B33 B0H (A8N v.1 v.2.1 v.2.2))∧∀ a:Y2,CEnd P8.den (B0H a):=⟨fun v=>by repeat' first | apply A72 | rfl,fun a=>(A7R aCD A7T)⟩
noncomputable def B3V (x0:List Int) (x4:Int) (h0:List Int):Option (Ex×St):=let z1:=wI ((4:Int)*x4);let z3:=wI (z1+(3:Int));let z4:=wI (z1+(1:Int));let z5:=wI (z1+(2:Int));let z2:=ior .i64 (ior .i64 (wI ((wI (x0.getD (z1.toNat) (0:Int)))*2 ^ (24))) (wI ((wI (x0.getD (z4.toNat) (0:Int)))*2 ^ (16)))) (wI ((wI (x0.getD (z5.toNat) (0:Int)))*2 ^ (8)));let z6:=wI (x0.getD (z3.toNat) (0:Int));(cond (decide (x4<(16:Int))) (cond (decide (0≤z1∧z1<(x0.length:Int))) (cond (decide (0≤z4∧z4<(x0.length:Int))) (cond (decide (0≤z5∧z5<(x0.length:Int))) (cond (decide (0≤z3∧z3<(x0.length:Int))) (cond (decide ((h0.length+[ior .i64 z2 z6].length)*8≤MAXB)) (some (.normal,(⟨((.t false P1 x0)::.junk::.junk::(.all 0 1)::(ti (wI (x4+(1:Int))))::C5i),[(.rows 3 true (.int .i64) (h0++[ior .i64 z2 z6]))],0,[]⟩:St))) none) none) none) none) none) (some ((.exit 0),(⟨(.junk::.junk::.junk::(.all 0 1)::C20),[(.rows 3 true (.int .i64) h0)],0,[]⟩:St))))
theorem B7E:RdA G17 aLn 0 A9f P8 0 [] (kepts [] [(0,[3])]) (fun d=>B3V d.1.1 d.1.2.2.2.2.1 d.2.1):=by
 intro d
 kernel_rfl
theorem B7L:∀ d:P8.den,(fun d=>B3V d.1.1 d.1.2.2.2.2.1 d.2.1) d=(B0U d).opt 0 []:=by
 intro d
 kernel_rfl
noncomputable abbrev B28:St→Option Tree:=P8.say 0 [] [] (fun d=>B8X d.1.1 d.1.2.2.2.2.1 d.2.1)
theorem B74:aPL B28 A9f:=SS.wp2 hlz [] B0U B7E B7L _ (fun d=>Runs.ofI2 (step:=B0U) B33 B8s rfl (d.1.1,d.1.2.2.2.2.1,d.2.1))
abbrev P9:SS:=⟨(.junk::.junk::.junk::.all 0 1::.junk::tI::C6s),[.rows 3 true (.int .i64)]⟩
abbrev B2p:SS:=⟨(.junk::.junk::.junk::.all 0 1::C24),[.rows 3 true (.int .i64)]⟩
noncomputable def B4m (x5:Int) (h0:List Int):RT P9.den:=let z4:=wI (x5 - (15:Int));let z2:=h0.getD (z4.toNat) (0:Int);let z5:=wI (x5 - (16:Int));let z6:=wI (x5 - (2:Int));let z3:=h0.getD (z6.toNat) (0:Int);let z7:=wI (x5 - (7:Int));let z1:=wI ((wI ((wI ((h0.getD (z5.toNat) (0:Int))+(ixor .i64 (ixor .i64 (J0 z2 (7:Int)) (J0 z2 (18:Int))) (Int.fdiv z2 (2 ^ (3))))))+(h0.getD (z7.toNat) (0:Int))))+(ixor .i64 (ixor .i64 (J0 z3 (17:Int)) (J0 z3 (19:Int))) (Int.fdiv z3 (2 ^ (10)))));(.br (decide (x5<(64:Int))) (.br (decide (0≤z4∧z4<(h0.length:Int))) (.br (decide (0≤z6∧z6<(h0.length:Int))) (.br (I8 z2 (7:Int)) (.br (I8 z2 (18:Int)) (.br (I8 z3 (17:Int)) (.br (I8 z3 (19:Int)) (.br (decide (0≤z5∧z5<(h0.length:Int))) (.br (decide (0≤z7∧z7<(h0.length:Int))) (.br (decide ((h0.length+[iand .i64 z1 (4294967295:Int)].length)*8≤MAXB)) (.next (((),(),(),(),(),wI (x5+(1:Int)),u96),(h0++[iand .i64 z1 (4294967295:Int)],()))) .fail) .fail) .fail) .fail) .fail) .fail) .fail) .fail) .fail) (.done (.exit 2) B2p ((B9P),(h0,()))))
abbrev A8c:=(Int)×(List Int)
abbrev Y3:=Nat×(List Int)
def L3:Y3:=(99,([]:List Int))
noncomputable def A8O (x5:Int) (h0:List Int):A8c ⊕ Y3:=let z4:=wI (x5 - (15:Int));let z2:=h0.getD (z4.toNat) (0:Int);let z5:=wI (x5 - (16:Int));let z6:=wI (x5 - (2:Int));let z3:=h0.getD (z6.toNat) (0:Int);let z7:=wI (x5 - (7:Int));let z1:=wI ((wI ((wI ((h0.getD (z5.toNat) (0:Int))+(ixor .i64 (ixor .i64 (J0 z2 (7:Int)) (J0 z2 (18:Int))) (Int.fdiv z2 (2 ^ (3))))))+(h0.getD (z7.toNat) (0:Int))))+(ixor .i64 (ixor .i64 (J0 z3 (17:Int)) (J0 z3 (19:Int))) (Int.fdiv z3 (2 ^ (10)))));(cond (decide (x5<(64:Int))) (cond (decide (0≤z4∧z4<(h0.length:Int))) (cond (decide (0≤z6∧z6<(h0.length:Int))) (cond (I8 z2 (7:Int)) (cond (I8 z2 (18:Int)) (cond (I8 z3 (17:Int)) (cond (I8 z3 (19:Int)) (cond (decide (0≤z5∧z5<(h0.length:Int))) (cond (decide (0≤z7∧z7<(h0.length:Int))) (cond (decide ((h0.length+[iand .i64 z1 (4294967295:Int)].length)*8≤MAXB)) (.inl (wI (x5+(1:Int)),h0++[iand .i64 z1 (4294967295:Int)])) (.inr L3)) (.inr L3)) (.inr L3)) (.inr L3)) (.inr L3)) (.inr L3)) (.inr L3)) (.inr L3)) (.inr L3)) (.inr (0,h0)))
noncomputable def N9 (x5:Int) (h0:List Int):Y3:=itX (fun v:A8c=>A8O v.1 v.2) L3 (x5,h0)
noncomputable def B0I (a:Y3):CT:=(.br (a.1==0) (.done (.exit 2) B2p ((B9P),(a.2,()))) .fail)
noncomputable def B8Y (x5:Int) (h0:List Int):CT:=B0I (N9 x5 h0)
noncomputable abbrev B0V:P9.den→RT P9.den:=(fun d=>B4m d.1.2.2.2.2.2.1 d.2.1)
noncomputable abbrev B34 (v:A8c):P9.den:=(((),(),(),(),(),v.1,u96),(v.2,()))
theorem B8t:(∀ v:A8c,(B4m v.1 v.2).val=A62 B34 B0I (A8O v.1 v.2))∧∀ a:Y3,CEnd P9.den (B0I a):=⟨fun v=>by repeat' first | apply A72 | rfl,fun a=>(A7R aCD A7T)⟩
noncomputable def B3W (x5:Int) (h0:List Int):Option (Ex×St):=let z4:=wI (x5 - (15:Int));let z2:=h0.getD (z4.toNat) (0:Int);let z5:=wI (x5 - (16:Int));let z6:=wI (x5 - (2:Int));let z3:=h0.getD (z6.toNat) (0:Int);let z7:=wI (x5 - (7:Int));let z1:=wI ((wI ((wI ((h0.getD (z5.toNat) (0:Int))+(ixor .i64 (ixor .i64 (J0 z2 (7:Int)) (J0 z2 (18:Int))) (Int.fdiv z2 (2 ^ (3))))))+(h0.getD (z7.toNat) (0:Int))))+(ixor .i64 (ixor .i64 (J0 z3 (17:Int)) (J0 z3 (19:Int))) (Int.fdiv z3 (2 ^ (10)))));(cond (decide (x5<(64:Int))) (cond (decide (0≤z4∧z4<(h0.length:Int))) (cond (decide (0≤z6∧z6<(h0.length:Int))) (cond (I8 z2 (7:Int)) (cond (I8 z2 (18:Int)) (cond (I8 z3 (17:Int)) (cond (I8 z3 (19:Int)) (cond (decide (0≤z5∧z5<(h0.length:Int))) (cond (decide (0≤z7∧z7<(h0.length:Int))) (cond (decide ((h0.length+[iand .i64 z1 (4294967295:Int)].length)*8≤MAXB)) (some (.normal,(⟨(.junk::.junk::.junk::(.all 0 1)::.junk::(ti (wI (x5+(1:Int))))::C6l),[(.rows 3 true (.int .i64) (h0++[iand .i64 z1 (4294967295:Int)]))],0,[]⟩:St))) none) none) none) none) none) none) none) none) none) (some ((.exit 2),(⟨(.junk::.junk::.junk::(.all 0 1)::C20),[(.rows 3 true (.int .i64) h0)],0,[]⟩:St))))
theorem B7F:RdA G17 aLn 2 A9g P9 0 [] (kepts [] [(2,[3])]) (fun d=>B3W d.1.2.2.2.2.2.1 d.2.1):=by
 intro d
 kernel_rfl
theorem B7M:∀ d:P9.den,(fun d=>B3W d.1.2.2.2.2.2.1 d.2.1) d=(B0V d).opt 0 []:=by
 intro d
 kernel_rfl
noncomputable abbrev B29:St→Option Tree:=P9.say 0 [] [] (fun d=>B8Y d.1.2.2.2.2.2.1 d.2.1)
theorem B75:aPL B29 A9g:=SS.wp2 hlz [] B0V B7F B7M _ (fun d=>Runs.ofI2 (step:=B0V) B34 B8t rfl (d.1.2.2.2.2.2.1,d.2.1))
noncomputable def L2 (a0:List Int):List Int:=((N9 (16:Int) ((N8 a0 (0:Int) ([]:List Int)).2)).2)
noncomputable abbrev B69 (r:List Int):AV×List AObj:=((.t true B0f r),[])
noncomputable abbrev B4t:E7 A9P→AV×List AObj:=fun d=>B69 (L2 d.1)
noncomputable def A0m (a0:List Int):Bool:=let z1:=N8 a0 (0:Int) ([]:List Int);(z1.1==0)&&((N9 (16:Int) (z1.2)).1==0)
noncomputable abbrev B1S:E7 A9P→Bool:=fun d=>A0m d.1
noncomputable abbrev C0L:Nat→St→Option Tree:=fun b=>match b with | 0=>B28 | 2=>B29 | _=>fun _=>none
theorem B9N:A7X true G17 (C0L) Try.f145 A9P B1S B4t:=by
 rintro ⟨a0,_⟩ hp
 change A0m a0=true at hp
 unfold A0m at hp
 refine Eq.trans (b:=(let z1:=N8 a0 (0:Int) ([]:List Int);let z2:=N9 (16:Int) (z1.2);cond (z1.1==0) (cond (z2.1==0) (some (B69 (z2.2))) none) none)) (by kernel_rfl) ?_
 exact (A7Y hp fun hp=>(A70 hp fun _h=>rfl))
theorem C02:aPP 145 (A2n A9P B1S B4t):=pcD true G17 (by
  rw [show D8 0 (A2d Try.f145)=[(0,A9f),(2,A9g)] by kernel_rfl];intro p hp;simp only [List.mem_cons,List.mem_nil_iff,or_false] at hp
  rcases hp with rfl | rfl
  ·exact B74
  ·exact B75) B9N
noncomputable def S18:Tab:=Tab.add S17 145 (lift (A2n A9P B1S B4t))
noncomputable def C4w:FuncId→Bool:=qadd C4v 145
theorem G18:aPG S18 C4w:=G17.addQ C02 (cbl Try.f145) (fun _=>rfl)

abbrev C30:List Sh:=.junk::.junk::.junk::.junk::.junk::.junk::.junk::.junk::.junk::.junk::.junk::.junk::.junk::.junk::.junk::.junk::.junk::.junk::.junk::.junk::.junk::.junk::.junk::.junk::.junk::.junk::.junk::.junk::.junk::.junk::.junk::.junk::.junk::.junk::.junk::.junk::.junk::C24
abbrev C31:List Sh:=.junk::C30
abbrev C4m:=((),(),(),(),(),(),(),(),(),(),(),(),(),(),(),(),(),(),(),(),(),(),(),(),(),(),(),(),(),(),(),(),(),B9P)
abbrev C4n:=((),(),(),(),(),(),(),(),(),C4m)
abbrev C3W:List AV:=.junk::.junk::.junk::.junk::.junk::.junk::.junk::.junk::.junk::.junk::.junk::.junk::.junk::.junk::.junk::.junk::.junk::.junk::.junk::.junk::.junk::.junk::.junk::.junk::.junk::.junk::.junk::.junk::.junk::.junk::.junk::.junk::.junk::.junk::.junk::.junk::.junk::C20
abbrev C3X:List AV:=.junk::C3W
abbrev C5m:List Sh:=.junk::.junk::.junk::.junk::.junk::.junk::.junk::.junk::.junk::.junk::.junk::.junk::.junk::.junk::.junk::.junk::.junk::.junk::.junk::.junk::.junk::.junk::.junk::.junk::.junk::.junk::.junk::.junk::C24
abbrev C6a:=((),(),(),(),(),(),(),(),(),(),(),(),(),(),(),(),(),(),(),(),(),(),(),(),B9P)
abbrev C6b:=((),C4n)
abbrev C5b:List AV:=.junk::.junk::.junk::.junk::.junk::.junk::.junk::.junk::.junk::.junk::.junk::.junk::.junk::.junk::.junk::.junk::.junk::.junk::.junk::.junk::.junk::.junk::.junk::.junk::.junk::.junk::.junk::.junk::C20
abbrev A9O:List PSh:=[.t B0f,.t P1,.t B0f]
noncomputable def A9d:Code:=((D8 0 (A2d Try.f111)).getD 0 (0,.skip)).2
noncomputable def A9e:Code:=((D8 0 (A2d Try.f111)).getD 1 (0,.skip)).2
abbrev N4:SS:=⟨(.t false B0f::.junk::.t false B0f::.junk::.junk::.junk::.junk::.t true B0f::.all 0 1::tI::C30),[.rows 3 true (.int .i64)]⟩
abbrev B2m:SS:=⟨(.t false B0f::.junk::.junk::.junk::.junk::.junk::.junk::.junk::.all 0 1::C31),[.rows 3 true (.int .i64)]⟩
noncomputable def B4j (x0 x2 x7:List Int) (x9:Int) (h0:List Int):RT N4.den:=let z2:=h0.getD ((4:Int).toNat) (0:Int);let z1:=wI ((wI ((wI ((wI ((h0.getD ((7:Int).toNat) (0:Int))+(ixor .i64 (ixor .i64 (J0 z2 (6:Int)) (J0 z2 (11:Int))) (J0 z2 (25:Int)))))+(ixor .i64 (iand .i64 z2 (h0.getD ((5:Int).toNat) (0:Int))) (iand .i64 (ixor .i64 (4294967295:Int) z2) (h0.getD ((6:Int).toNat) (0:Int))))))+(x2.getD x9.toNat (0:Int))))+(x7.getD x9.toNat (0:Int)));let z3:=h0.getD ((0:Int).toNat) (0:Int);let z4:=decide (0≤(1:Int)∧(1:Int)<(h0.length:Int));let z5:=decide (0≤(2:Int)∧(2:Int)<(h0.length:Int));let z6:=decide (0≤(5:Int)∧(5:Int)<(h0.length:Int));let z7:=decide (0≤(6:Int)∧(6:Int)<(h0.length:Int));let z8:=h0.getD ((1:Int).toNat) (0:Int);let z9:=h0.getD ((2:Int).toNat) (0:Int);(.br (decide (x9<(64:Int))) (.br (decide (0≤(4:Int)∧(4:Int)<(h0.length:Int))) (.br (I8 z2 (6:Int)) (.br (I8 z2 (11:Int)) (.br (I8 z2 (25:Int)) (.br z6 (.br z7 (.br (decide (0≤(7:Int)∧(7:Int)<(h0.length:Int))) (.br (decide (0≤x9∧x9<(x2.length:Int))) (.br (decide (0≤x9∧x9<(x7.length:Int))) (.br (decide (0≤(0:Int)∧(0:Int)<(h0.length:Int))) (.br (I8 z3 (2:Int)) (.br (I8 z3 (13:Int)) (.br (I8 z3 (22:Int)) (.br z4 (.br z5 (.br z4 (.br z5 (.br z4 (.br z5 (.br (decide (0≤(3:Int)∧(3:Int)<(h0.length:Int))) (.br z6 (.br z7 (.next ((x0,(),x2,(),(),(),(),x7,(),wI (x9+(1:Int)),C4m),([iand .i64 (wI (z1+(wI ((ixor .i64 (ixor .i64 (J0 z3 (2:Int)) (J0 z3 (13:Int))) (J0 z3 (22:Int)))+(ixor .i64 (ixor .i64 (iand .i64 z3 z8) (iand .i64 z3 z9)) (iand .i64 z8 z9)))))) (4294967295:Int),h0.getD ((0:Int).toNat) (0:Int),h0.getD ((1:Int).toNat) (0:Int),h0.getD ((2:Int).toNat) (0:Int),iand .i64 (wI ((h0.getD ((3:Int).toNat) (0:Int))+z1)) (4294967295:Int),h0.getD ((4:Int).toNat) (0:Int),h0.getD ((5:Int).toNat) (0:Int),h0.getD ((6:Int).toNat) (0:Int)],()))) .fail) .fail) .fail) .fail) .fail) .fail) .fail) .fail) .fail) .fail) .fail) .fail) .fail) .fail) .fail) .fail) .fail) .fail) .fail) .fail) .fail) .fail) (.done (.exit 0) B2m ((x0,C4n),(h0,()))))
abbrev A79:=(List Int)×(List Int)×(List Int)×(Int)×(List Int)
abbrev Y0:=Nat×(List Int)×(List Int)
def I7:Y0:=(99,([]:List Int),([]:List Int))
noncomputable def A8L (x0 x2 x7:List Int) (x9:Int) (h0:List Int):A79 ⊕ Y0:=let z2:=h0.getD ((4:Int).toNat) (0:Int);let z1:=wI ((wI ((wI ((wI ((h0.getD ((7:Int).toNat) (0:Int))+(ixor .i64 (ixor .i64 (J0 z2 (6:Int)) (J0 z2 (11:Int))) (J0 z2 (25:Int)))))+(ixor .i64 (iand .i64 z2 (h0.getD ((5:Int).toNat) (0:Int))) (iand .i64 (ixor .i64 (4294967295:Int) z2) (h0.getD ((6:Int).toNat) (0:Int))))))+(x2.getD x9.toNat (0:Int))))+(x7.getD x9.toNat (0:Int)));let z3:=h0.getD ((0:Int).toNat) (0:Int);let z4:=decide (0≤(1:Int)∧(1:Int)<(h0.length:Int));let z5:=decide (0≤(2:Int)∧(2:Int)<(h0.length:Int));let z6:=decide (0≤(5:Int)∧(5:Int)<(h0.length:Int));let z7:=decide (0≤(6:Int)∧(6:Int)<(h0.length:Int));let z8:=h0.getD ((1:Int).toNat) (0:Int);let z9:=h0.getD ((2:Int).toNat) (0:Int);(cond (decide (x9<(64:Int))) (cond (decide (0≤(4:Int)∧(4:Int)<(h0.length:Int))) (cond (I8 z2 (6:Int)) (cond (I8 z2 (11:Int)) (cond (I8 z2 (25:Int)) (cond z6 (cond z7 (cond (decide (0≤(7:Int)∧(7:Int)<(h0.length:Int))) (cond (decide (0≤x9∧x9<(x2.length:Int))) (cond (decide (0≤x9∧x9<(x7.length:Int))) (cond (decide (0≤(0:Int)∧(0:Int)<(h0.length:Int))) (cond (I8 z3 (2:Int)) (cond (I8 z3 (13:Int)) (cond (I8 z3 (22:Int)) (cond z4 (cond z5 (cond z4 (cond z5 (cond z4 (cond z5 (cond (decide (0≤(3:Int)∧(3:Int)<(h0.length:Int))) (cond z6 (cond z7 (.inl (x0,x2,x7,wI (x9+(1:Int)),[iand .i64 (wI (z1+(wI ((ixor .i64 (ixor .i64 (J0 z3 (2:Int)) (J0 z3 (13:Int))) (J0 z3 (22:Int)))+(ixor .i64 (ixor .i64 (iand .i64 z3 z8) (iand .i64 z3 z9)) (iand .i64 z8 z9)))))) (4294967295:Int),h0.getD ((0:Int).toNat) (0:Int),h0.getD ((1:Int).toNat) (0:Int),h0.getD ((2:Int).toNat) (0:Int),iand .i64 (wI ((h0.getD ((3:Int).toNat) (0:Int))+z1)) (4294967295:Int),h0.getD ((4:Int).toNat) (0:Int),h0.getD ((5:Int).toNat) (0:Int),h0.getD ((6:Int).toNat) (0:Int)])) (.inr I7)) (.inr I7)) (.inr I7)) (.inr I7)) (.inr I7)) (.inr I7)) (.inr I7)) (.inr I7)) (.inr I7)) (.inr I7)) (.inr I7)) (.inr I7)) (.inr I7)) (.inr I7)) (.inr I7)) (.inr I7)) (.inr I7)) (.inr I7)) (.inr I7)) (.inr I7)) (.inr I7)) (.inr I7)) (.inr (0,x0,h0)))
noncomputable def J9 (x0 x2 x7:List Int) (x9:Int) (h0:List Int):Y0:=itX (fun v:A79=>A8L v.1 v.2.1 v.2.2.1 v.2.2.2.1 v.2.2.2.2) I7 (x0,x2,x7,x9,h0)
noncomputable def B0F (a:Y0):CT:=(.br (a.1==0) (.done (.exit 0) B2m ((a.2.1,C4n),(a.2.2,()))) .fail)
noncomputable def B8V (x0 x2 x7:List Int) (x9:Int) (h0:List Int):CT:=B0F (J9 x0 x2 x7 x9 h0)
noncomputable abbrev A8G {α:Sort _} (f:(List Int)→(List Int)→(List Int)→Int→(List Int)→α) (d:N4.den):α:=f d.1.1 d.1.2.2.1 d.1.2.2.2.2.2.2.2.1 d.1.2.2.2.2.2.2.2.2.2.1 d.2.1
noncomputable abbrev B0S:N4.den→RT N4.den:=(A8G B4j)
noncomputable abbrev B31 (v:A79):N4.den:=((v.1,(),v.2.1,(),(),(),(),v.2.2.1,(),v.2.2.2.1,C4m),(v.2.2.2.2,()))
theorem B8q:(∀ v:A79,(B4j v.1 v.2.1 v.2.2.1 v.2.2.2.1 v.2.2.2.2).val=A62 B31 B0F (A8L v.1 v.2.1 v.2.2.1 v.2.2.2.1 v.2.2.2.2))∧∀ a:Y0,CEnd N4.den (B0F a):=⟨fun v=>by repeat' first | apply A72 | rfl,fun a=>(A7R aCD A7T)⟩
noncomputable def B3T (x0 x2 x7:List Int) (x9:Int) (h0:List Int):Option (Ex×St):=let z2:=h0.getD ((4:Int).toNat) (0:Int);let z1:=wI ((wI ((wI ((wI ((h0.getD ((7:Int).toNat) (0:Int))+(ixor .i64 (ixor .i64 (J0 z2 (6:Int)) (J0 z2 (11:Int))) (J0 z2 (25:Int)))))+(ixor .i64 (iand .i64 z2 (h0.getD ((5:Int).toNat) (0:Int))) (iand .i64 (ixor .i64 (4294967295:Int) z2) (h0.getD ((6:Int).toNat) (0:Int))))))+(x2.getD x9.toNat (0:Int))))+(x7.getD x9.toNat (0:Int)));let z3:=h0.getD ((0:Int).toNat) (0:Int);let z4:=decide (0≤(1:Int)∧(1:Int)<(h0.length:Int));let z5:=decide (0≤(2:Int)∧(2:Int)<(h0.length:Int));let z6:=decide (0≤(5:Int)∧(5:Int)<(h0.length:Int));let z7:=decide (0≤(6:Int)∧(6:Int)<(h0.length:Int));let z8:=h0.getD ((1:Int).toNat) (0:Int);let z9:=h0.getD ((2:Int).toNat) (0:Int);(cond (decide (x9<(64:Int))) (cond (decide (0≤(4:Int)∧(4:Int)<(h0.length:Int))) (cond (I8 z2 (6:Int)) (cond (I8 z2 (11:Int)) (cond (I8 z2 (25:Int)) (cond z6 (cond z7 (cond (decide (0≤(7:Int)∧(7:Int)<(h0.length:Int))) (cond (decide (0≤x9∧x9<(x2.length:Int))) (cond (decide (0≤x9∧x9<(x7.length:Int))) (cond (decide (0≤(0:Int)∧(0:Int)<(h0.length:Int))) (cond (I8 z3 (2:Int)) (cond (I8 z3 (13:Int)) (cond (I8 z3 (22:Int)) (cond z4 (cond z5 (cond z4 (cond z5 (cond z4 (cond z5 (cond (decide (0≤(3:Int)∧(3:Int)<(h0.length:Int))) (cond z6 (cond z7 (some (.normal,(⟨((.t false B0f x0)::.junk::(.t false B0f x2)::.junk::.junk::.junk::.junk::(.t true B0f x7)::(.all 0 1)::(ti (wI (x9+(1:Int))))::C3W),[(.rows 3 true (.int .i64) [iand .i64 (wI (z1+(wI ((ixor .i64 (ixor .i64 (J0 z3 (2:Int)) (J0 z3 (13:Int))) (J0 z3 (22:Int)))+(ixor .i64 (ixor .i64 (iand .i64 z3 z8) (iand .i64 z3 z9)) (iand .i64 z8 z9)))))) (4294967295:Int),h0.getD ((0:Int).toNat) (0:Int),h0.getD ((1:Int).toNat) (0:Int),h0.getD ((2:Int).toNat) (0:Int),iand .i64 (wI ((h0.getD ((3:Int).toNat) (0:Int))+z1)) (4294967295:Int),h0.getD ((4:Int).toNat) (0:Int),h0.getD ((5:Int).toNat) (0:Int),h0.getD ((6:Int).toNat) (0:Int)])],0,[]⟩:St))) none) none) none) none) none) none) none) none) none) none) none) none) none) none) none) none) none) none) none) none) none) none) (some ((.exit 0),(⟨((.t false B0f x0)::.junk::.junk::.junk::.junk::.junk::.junk::.junk::(.all 0 1)::C3X),[(.rows 3 true (.int .i64) h0)],0,[]⟩:St))))
theorem B7C:RdA G18 aLn 0 A9d N4 0 [] (kepts [] [(0,[0,8])]) (A8G B3T):=by
 intro d
 kernel_rfl
theorem B7J:∀ d:N4.den,(A8G B3T) d=(B0S d).opt 0 []:=by
 intro d
 kernel_rfl
noncomputable abbrev B26:St→Option Tree:=N4.say 0 [] [] (A8G B8V)
theorem B72:aPL B26 A9d:=SS.wp2 hlz [] B0S B7C B7J _ (fun d=>Runs.ofI2 (step:=B0S) B31 B8q rfl (d.1.1,d.1.2.2.1,d.1.2.2.2.2.2.2.2.1,d.1.2.2.2.2.2.2.2.2.2.1,d.2.1))
abbrev N5:SS:=⟨(.t false B0f::.junk::.junk::.junk::.junk::.junk::.junk::.junk::.all 0 1::.junk::.junk::.junk::.junk::.junk::.junk::.junk::.junk::.junk::tI::C5m),[.rows 3 true (.int .i64)]⟩
abbrev B2n:SS:=⟨(.junk::.junk::.junk::.junk::.junk::.junk::.junk::.junk::.all 0 1::C31),[.rows 3 true (.int .i64)]⟩
noncomputable def B4k (x0:List Int) (x18:Int) (h0:List Int):RT N5.den:=let z1:=decide (0≤x18∧x18<(h0.length:Int));(.br (decide (x18<(8:Int))) (.br z1 (.br (decide (0≤x18∧x18<(x0.length:Int))) (.br z1 (.next ((x0,(),(),(),(),(),(),(),(),(),(),(),(),(),(),(),(),(),wI (x18+(1:Int)),C6a),(h0.set x18.toNat (iand .i64 (wI ((h0.getD x18.toNat (0:Int))+(x0.getD x18.toNat (0:Int)))) (4294967295:Int)),()))) .fail) .fail) .fail) (.done (.exit 2) B2n ((C6b),(h0,()))))
abbrev A8a:=(List Int)×(Int)×(List Int)
abbrev Y1:=Nat×(List Int)
def A8I:Y1:=(99,([]:List Int))
noncomputable def A8M (x0:List Int) (x18:Int) (h0:List Int):A8a ⊕ Y1:=let z1:=decide (0≤x18∧x18<(h0.length:Int));(cond (decide (x18<(8:Int))) (cond z1 (cond (decide (0≤x18∧x18<(x0.length:Int))) (cond z1 (.inl (x0,wI (x18+(1:Int)),h0.set x18.toNat (iand .i64 (wI ((h0.getD x18.toNat (0:Int))+(x0.getD x18.toNat (0:Int)))) (4294967295:Int)))) (.inr A8I)) (.inr A8I)) (.inr A8I)) (.inr (0,h0)))
noncomputable def Q4 (x0:List Int) (x18:Int) (h0:List Int):Y1:=itX (fun v:A8a=>A8M v.1 v.2.1 v.2.2) A8I (x0,x18,h0)
noncomputable def B0G (a:Y1):CT:=(.br (a.1==0) (.done (.exit 2) B2n ((C6b),(a.2,()))) .fail)
noncomputable def B8W (x0:List Int) (x18:Int) (h0:List Int):CT:=B0G (Q4 x0 x18 h0)
noncomputable abbrev A8H {α:Sort _} (f:(List Int)→Int→(List Int)→α) (d:N5.den):α:=f d.1.1 d.1.2.2.2.2.2.2.2.2.2.2.2.2.2.2.2.2.2.2.1 d.2.1
noncomputable abbrev B0T:N5.den→RT N5.den:=(A8H B4k)
noncomputable abbrev B32 (v:A8a):N5.den:=((v.1,(),(),(),(),(),(),(),(),(),(),(),(),(),(),(),(),(),v.2.1,C6a),(v.2.2,()))
theorem B8r:(∀ v:A8a,(B4k v.1 v.2.1 v.2.2).val=A62 B32 B0G (A8M v.1 v.2.1 v.2.2))∧∀ a:Y1,CEnd N5.den (B0G a):=⟨fun v=>(A72 (A72 (A72 (A72 rfl rfl) rfl) rfl) rfl),fun a=>(A7R aCD A7T)⟩
noncomputable def B3U (x0:List Int) (x18:Int) (h0:List Int):Option (Ex×St):=let z1:=decide (0≤x18∧x18<(h0.length:Int));(cond (decide (x18<(8:Int))) (cond z1 (cond (decide (0≤x18∧x18<(x0.length:Int))) (cond z1 (some (.normal,(⟨((.t false B0f x0)::.junk::.junk::.junk::.junk::.junk::.junk::.junk::(.all 0 1)::.junk::.junk::.junk::.junk::.junk::.junk::.junk::.junk::.junk::(ti (wI (x18+(1:Int))))::C5b),[(.rows 3 true (.int .i64) (h0.set x18.toNat (iand .i64 (wI ((h0.getD x18.toNat (0:Int))+(x0.getD x18.toNat (0:Int)))) (4294967295:Int))))],0,[]⟩:St))) none) none) none) (some ((.exit 2),(⟨(.junk::.junk::.junk::.junk::.junk::.junk::.junk::.junk::(.all 0 1)::C3X),[(.rows 3 true (.int .i64) h0)],0,[]⟩:St))))
theorem B7D:RdA G18 aLn 2 A9e N5 0 [] (kepts [] [(2,[8])]) (A8H B3U):=by
 intro d
 kernel_rfl
theorem B7K:∀ d:N5.den,(A8H B3U) d=(B0T d).opt 0 []:=by
 intro d
 kernel_rfl
noncomputable abbrev B27:St→Option Tree:=N5.say 0 [] [] (A8H B8W)
theorem B73:aPL B27 A9e:=SS.wp2 hlz [] B0T B7D B7K _ (fun d=>Runs.ofI2 (step:=B0T) B32 B8r rfl (d.1.1,d.1.2.2.2.2.2.2.2.2.2.2.2.2.2.2.2.2.2.2.1,d.2.1))
noncomputable def A0u (a0 a1 a2:List Int):=let z1:=J9 a0 a2 (L2 a1) (0:Int) (([]:List Int)++a0);Q4 (z1.2.1) (0:Int) (z1.2.2)
noncomputable def A8l (a0 a1 a2:List Int):List Int:=((A0u a0 a1 a2).2)
noncomputable abbrev B68 (r:List Int):AV×List AObj:=((.t true B0f r),[])
noncomputable abbrev B4s:E7 A9O→AV×List AObj:=fun d=>B68 (A8l d.1 d.2.1 d.2.2.1)
noncomputable def X5 (a0 a1 a2:List Int):Bool:=(A0m a1)&&((decide ((([]:List Int).length+a0.length)*8≤MAXB))&&(((J9 a0 a2 (L2 a1) (0:Int) (([]:List Int)++a0)).1==0)&&((A0u a0 a1 a2).1==0)))
noncomputable abbrev B1R:E7 A9O→Bool:=fun d=>X5 d.1 d.2.1 d.2.2.1
noncomputable abbrev C0K:Nat→St→Option Tree:=fun b=>match b with | 0=>B26 | 2=>B27 | _=>fun _=>none
theorem B9M:A7X true G18 (C0K) Try.f111 A9O B1R B4s:=by
 rintro ⟨a0,⟨a1,⟨a2,_⟩⟩⟩ hp
 change X5 a0 a1 a2=true at hp
 unfold X5 at hp
 refine Eq.trans (b:=(let z1:=A0u a0 a1 a2;cond (A0m a1) (cond (decide ((([]:List Int).length+a0.length)*8≤MAXB)) (cond ((J9 a0 a2 (L2 a1) (0:Int) (([]:List Int)++a0)).1==0) (cond (z1.1==0) (some (B68 (z1.2))) none) none) none) none)) (by kernel_rfl) ?_
 exact (A7Y hp fun hp=>(A7Y hp fun hp=>(A7Y hp fun hp=>(A70 hp fun _h=>rfl))))
theorem C01:aPP 111 (A2n A9O B1R B4s):=pcD true G18 (by
  rw [show D8 0 (A2d Try.f111)=[(0,A9d),(2,A9e)] by kernel_rfl];intro p hp;simp only [List.mem_cons,List.mem_nil_iff,or_false] at hp
  rcases hp with rfl | rfl
  ·exact B72
  ·exact B73) B9M
noncomputable def S19:Tab:=Tab.add S18 111 (lift (A2n A9O B1R B4s))
noncomputable def C4x:FuncId→Bool:=qadd C4w 111
theorem G19:aPG S19 C4x:=G18.addQ C01 (cbl Try.f111) (fun _=>rfl)

abbrev C5q:List Sh:=.junk::.junk::.junk::.junk::.junk::.junk::.junk::.junk::.junk::.junk::.junk::.junk::.junk::.junk::.junk::.junk::.junk::C23
abbrev C5r:List Sh:=.junk::.junk::C5q
abbrev u54:=((),(),(),(),(),(),(),(),(),(),(),(),(),(),u40)
abbrev u56:=((),(),u54)
abbrev C5f:List AV:=.junk::.junk::.junk::.junk::.junk::.junk::.junk::.junk::.junk::.junk::.junk::.junk::.junk::.junk::.junk::.junk::.junk::C2Z
abbrev C5g:List AV:=.junk::.junk::C5f
abbrev C5p:List Sh:=.junk::.junk::.junk::.junk::.junk::.junk::.junk::.junk::.junk::.junk::.junk::.junk::.junk::.junk::.junk::C23
abbrev C6q:List Sh:=.junk::C5p
abbrev u52:=((),(),(),(),(),(),(),(),(),(),(),(),u40)
abbrev u61:=((),(),(),(),(),u56)
abbrev C5e:List AV:=.junk::.junk::.junk::.junk::.junk::.junk::.junk::.junk::.junk::.junk::.junk::.junk::.junk::.junk::.junk::C2Z
abbrev C6j:List AV:=.junk::C5e
abbrev B05:List PSh:=[.t P1]
noncomputable def A91:Code:=((D8 0 (A2d Try.f65)).getD 0 (0,.skip)).2
noncomputable def A92:Code:=((D8 0 (A2d Try.f65)).getD 1 (0,.skip)).2
abbrev P6:SS:=⟨(.junk::.junk::.junk::.t true P1::.t true B0f::.t true B0f::tI::C5q),[]⟩
abbrev B3A:SS:=⟨(.junk::.junk::.junk::.junk::.t true B0f::C5r),[]⟩
noncomputable def B5Q (x3 x4 x5:List Int) (x6:Int):RT P6.den:=let z1:=wI (x6+(64:Int));let z2:=(x3.take z1.toNat).drop x6.toNat;(.br (decide (x6<(x3.length:Int))) (.br (decide (0≤x6∧x6≤z1∧z1≤(x3.length:Int))) (.br (X5 x4 z2 x5) (.next (((),(),(),x3,(A8l x4 z2 x5),x5,wI (x6+(64:Int)),u54),())) .fail) .fail) (.done (.exit 0) B3A (((),(),(),(),x4,u56),())))
abbrev A8X:=(List Int)×(List Int)×(List Int)×(Int)
abbrev A0p:=Nat×(List Int)
def B1D:A0p:=(99,([]:List Int))
noncomputable def A9z (x3 x4 x5:List Int) (x6:Int):A8X ⊕ A0p:=let z1:=wI (x6+(64:Int));let z2:=(x3.take z1.toNat).drop x6.toNat;(cond (decide (x6<(x3.length:Int))) (cond (decide (0≤x6∧x6≤z1∧z1≤(x3.length:Int))) (cond (X5 x4 z2 x5) (.inl (x3,(A8l x4 z2 x5),x5,wI (x6+(64:Int)))) (.inr B1D)) (.inr B1D)) (.inr (0,x4)))
noncomputable def A8j (x3 x4 x5:List Int) (x6:Int):A0p:=itX (fun v:A8X=>A9z v.1 v.2.1 v.2.2.1 v.2.2.2) B1D (x3,x4,x5,x6)
noncomputable def B1w (a:A0p):CT:=(.br (a.1==0) (.done (.exit 0) B3A (((),(),(),(),a.2,u56),())) .fail)
noncomputable def B9Y (x3 x4 x5:List Int) (x6:Int):CT:=B1w (A8j x3 x4 x5 x6)
noncomputable abbrev A9r {α:Sort _} (f:(List Int)→(List Int)→(List Int)→Int→α) (d:P6.den):α:=f d.1.2.2.2.1 d.1.2.2.2.2.1 d.1.2.2.2.2.2.1 d.1.2.2.2.2.2.2.1
noncomputable abbrev B1W:P6.den→RT P6.den:=(A9r B5Q)
noncomputable abbrev B5u (v:A8X):P6.den:=(((),(),(),v.1,v.2.1,v.2.2.1,v.2.2.2,u54),())
theorem B9B:(∀ v:A8X,(B5Q v.1 v.2.1 v.2.2.1 v.2.2.2).val=A62 B5u B1w (A9z v.1 v.2.1 v.2.2.1 v.2.2.2))∧∀ a:A0p,CEnd P6.den (B1w a):=⟨fun v=>(A72 (A72 (A72 rfl rfl) rfl) rfl),fun a=>(A7R aCD A7T)⟩
noncomputable def B5g (x3 x4 x5:List Int) (x6:Int):Option (Ex×St):=let z1:=wI (x6+(64:Int));let z2:=(x3.take z1.toNat).drop x6.toNat;(cond (decide (x6<(x3.length:Int))) (cond (decide (0≤x6∧x6≤z1∧z1≤(x3.length:Int))) (cond (X5 x4 z2 x5) (some (.normal,(⟨(.junk::.junk::.junk::(.t true P1 x3)::(.t true B0f (A8l x4 z2 x5))::(.t true B0f x5)::(ti z1)::C5f),[],0,[]⟩:St))) none) none) (some ((.exit 0),(⟨(.junk::.junk::.junk::.junk::(.t true B0f x4)::C5g),[],0,[]⟩:St))))
theorem B8b:RdA G19 aLn 0 A91 P6 0 [] (kepts [] [(0,[4])]) (A9r B5g):=by
 intro d
 kernel_rfl
theorem B8j:∀ d:P6.den,(A9r B5g) d=(B1W d).opt 0 []:=by
 intro d
 kernel_rfl
noncomputable abbrev B4a:St→Option Tree:=P6.say 0 [] [(4,1000000,.bool)] (A9r B9Y)
theorem B9l:aPL B4a A91:=SS.wp2 hlz [(4,1000000,.bool)] B1W B8b B8j _ (fun d=>Runs.ofI2 (step:=B1W) B5u B9B rfl (d.1.2.2.2.1,d.1.2.2.2.2.1,d.1.2.2.2.2.2.1,d.1.2.2.2.2.2.2.1))
abbrev P7:SS:=⟨(.junk::.junk::.junk::.junk::.t true B0f::.junk::.junk::.all 0 1::tI::C5p),[.rows 5 true (.int .u8)]⟩
abbrev B3B:SS:=⟨(.junk::.junk::.junk::.junk::.junk::.junk::.junk::.all 0 1::C6q),[.rows 5 true (.int .u8)]⟩
noncomputable def B5R (x4:List Int) (x8:Int) (h0:List Int):RT P7.den:=let z1:=x4.getD x8.toNat (0:Int);let z2:=decide (0≤x8∧x8<(x4.length:Int));let z3:=Int.fdiv z1 (2 ^ (24));let z4:=Int.fdiv z1 (2 ^ (16));let z5:=Int.fdiv z1 (2 ^ (8));(.br (decide (x8<(8:Int))) (.br z2 (.br z2 (.br z2 (.br z2 (.br (decide ((h0.length+[IntKind.wrap .u8 z3,IntKind.wrap .u8 z4,IntKind.wrap .u8 z5,IntKind.wrap .u8 z1].length)*1≤MAXB)) (.next (((),(),(),(),x4,(),(),(),wI (x8+(1:Int)),u52),(h0++[IntKind.wrap .u8 z3,IntKind.wrap .u8 z4,IntKind.wrap .u8 z5,IntKind.wrap .u8 z1],()))) .fail) .fail) .fail) .fail) .fail) (.done (.exit 2) B3B ((u61),(h0,()))))
abbrev A8Y:=(List Int)×(Int)×(List Int)
abbrev A0q:=Nat×(List Int)
def Y8:A0q:=(99,([]:List Int))
noncomputable def A9A (x4:List Int) (x8:Int) (h0:List Int):A8Y ⊕ A0q:=let z1:=x4.getD x8.toNat (0:Int);let z2:=decide (0≤x8∧x8<(x4.length:Int));let z3:=Int.fdiv z1 (2 ^ (24));let z4:=Int.fdiv z1 (2 ^ (16));let z5:=Int.fdiv z1 (2 ^ (8));(cond (decide (x8<(8:Int))) (cond z2 (cond z2 (cond z2 (cond z2 (cond (decide ((h0.length+[IntKind.wrap .u8 z3,IntKind.wrap .u8 z4,IntKind.wrap .u8 z5,IntKind.wrap .u8 z1].length)*1≤MAXB)) (.inl (x4,wI (x8+(1:Int)),h0++[IntKind.wrap .u8 z3,IntKind.wrap .u8 z4,IntKind.wrap .u8 z5,IntKind.wrap .u8 z1])) (.inr Y8)) (.inr Y8)) (.inr Y8)) (.inr Y8)) (.inr Y8)) (.inr (0,h0)))
noncomputable def U1 (x4:List Int) (x8:Int) (h0:List Int):A0q:=itX (fun v:A8Y=>A9A v.1 v.2.1 v.2.2) Y8 (x4,x8,h0)
noncomputable def B1x (a:A0q):CT:=(.br (a.1==0) (.done (.exit 2) B3B ((u61),(a.2,()))) .fail)
noncomputable def B9Z (x4:List Int) (x8:Int) (h0:List Int):CT:=B1x (U1 x4 x8 h0)
noncomputable abbrev A9s {α:Sort _} (f:(List Int)→Int→(List Int)→α) (d:P7.den):α:=f d.1.2.2.2.2.1 d.1.2.2.2.2.2.2.2.2.1 d.2.1
noncomputable abbrev B1X:P7.den→RT P7.den:=(A9s B5R)
noncomputable abbrev B5v (v:A8Y):P7.den:=(((),(),(),(),v.1,(),(),(),v.2.1,u52),(v.2.2,()))
theorem B9C:(∀ v:A8Y,(B5R v.1 v.2.1 v.2.2).val=A62 B5v B1x (A9A v.1 v.2.1 v.2.2))∧∀ a:A0q,CEnd P7.den (B1x a):=⟨fun v=>by repeat' first | apply A72 | rfl,fun a=>(A7R aCD A7T)⟩
noncomputable def B5h (x4:List Int) (x8:Int) (h0:List Int):Option (Ex×St):=let z1:=x4.getD x8.toNat (0:Int);let z2:=decide (0≤x8∧x8<(x4.length:Int));let z3:=Int.fdiv z1 (2 ^ (24));let z4:=Int.fdiv z1 (2 ^ (16));let z5:=Int.fdiv z1 (2 ^ (8));(cond (decide (x8<(8:Int))) (cond z2 (cond z2 (cond z2 (cond z2 (cond (decide ((h0.length+[IntKind.wrap .u8 z3,IntKind.wrap .u8 z4,IntKind.wrap .u8 z5,IntKind.wrap .u8 z1].length)*1≤MAXB)) (some (.normal,(⟨(.junk::.junk::.junk::.junk::(.t true B0f x4)::.junk::.junk::(.all 0 1)::(ti (wI (x8+(1:Int))))::C5e),[(.rows 5 true (.int .u8) (h0++[IntKind.wrap .u8 z3,IntKind.wrap .u8 z4,IntKind.wrap .u8 z5,IntKind.wrap .u8 z1]))],0,[]⟩:St))) none) none) none) none) none) (some ((.exit 2),(⟨(.junk::.junk::.junk::.junk::.junk::.junk::.junk::(.all 0 1)::C6j),[(.rows 5 true (.int .u8) h0)],0,[]⟩:St))))
theorem B8c:RdA G19 aLn 2 A92 P7 0 [] (kepts [] [(2,[7])]) (A9s B5h):=by
 intro d
 kernel_rfl
theorem B8k:∀ d:P7.den,(A9s B5h) d=(B1X d).opt 0 []:=by
 intro d
 kernel_rfl
noncomputable abbrev B4b:St→Option Tree:=P7.say 0 [] [] (A9s B9Z)
theorem B9m:aPL B4b A92:=SS.wp2 hlz [] B1X B8c B8k _ (fun d=>Runs.ofI2 (step:=B1X) B5v B9C rfl (d.1.2.2.2.2.1,d.1.2.2.2.2.2.2.2.2.1,d.2.1))
noncomputable def A0i (a0:List Int):=A8j (L7 a0) [(1779033703:Int),(3144134277:Int),(1013904242:Int),(2773480762:Int),(1359893119:Int),(2600822924:Int),(528734635:Int),(1541459225:Int)] B2h (0:Int)
noncomputable def M3 (a0:List Int):ByteArray:=(⟨(((U1 ((A0i a0).2) (0:Int) ([]:List Int)).2).map fun n=>UInt8.ofNat n.toNat).toArray⟩:ByteArray)
noncomputable abbrev B8A (r:ByteArray):AV×List AObj:=((.t true .str r),[])
noncomputable abbrev B54:E7 B05→AV×List AObj:=fun d=>B8A (M3 d.1)
noncomputable def V5 (a0:List Int):Bool:=(A8B a0)&&(((A0i a0).1==0)&&((U1 ((A0i a0).2) (0:Int) ([]:List Int)).1==0))
noncomputable abbrev B2S:E7 B05→Bool:=fun d=>V5 d.1
noncomputable abbrev C1H:Nat→St→Option Tree:=fun b=>match b with | 0=>B4a | 2=>B4b | _=>fun _=>none
theorem C0w:A7X true G19 (C1H) Try.f65 B05 B2S B54:=by
 rintro ⟨a0,_⟩ hp
 change V5 a0=true at hp
 unfold V5 at hp
 refine Eq.trans (b:=(cond (A8B a0) (cond ((A0i a0).1==0) (cond ((U1 ((A0i a0).2) (0:Int) ([]:List Int)).1==0) (some (B8A (⟨(((U1 ((A0i a0).2) (0:Int) ([]:List Int)).2).map fun n=>UInt8.ofNat n.toNat).toArray⟩:ByteArray))) none) none) none)) (by kernel_rfl) ?_
 exact (A7Y hp fun hp=>(A7Y hp fun hp=>(A70 hp fun _h=>rfl)))
theorem C1V:aPP 65 (A2n B05 B2S B54):=pcD true G19 (by
  rw [show D8 0 (A2d Try.f65)=[(0,A91),(2,A92)] by kernel_rfl];intro p hp;simp only [List.mem_cons,List.mem_nil_iff,or_false] at hp
  rcases hp with rfl | rfl
  ·exact B9l
  ·exact B9m) C0w
noncomputable def S20:Tab:=Tab.add S19 65 (lift (A2n B05 B2S B54))
noncomputable def C4y:FuncId→Bool:=qadd C4x 65
theorem G20:aPG S20 C4y:=G19.addQ C1V (cbl Try.f65) (fun _=>rfl)

abbrev B09:List PSh:=[.agg [(.int .i64),(.int .i64),tq2]]
noncomputable def A0j (a0 a1:Int) (a2:Lq1):=J5 ([]:List Int) ((((J5 (J5 ([]:List Int) a0) a1)++(A8k a2)).length:Nat):Int)
noncomputable def B0v (a0 a1:Int) (a2:Lq1):List Int:=let z2:=([]:List Int);let z1:=J5 (J5 z2 a0) a1;(cond (!(X8 a0 a1 a2)) z2 (cond (a0==(1:Int)) (((A0j a0 a1 a2)++(z1++(A8k a2)))++A18 ((M3 (z1++(A8k a2))).extract (0:Int).toNat (4:Int).toNat)) (((J5 z2 ((z1.length:Nat):Int))++z1)++A18 ((M3 z1).extract (0:Int).toNat (4:Int).toNat))))
noncomputable abbrev A9H (r:List Int):AV×List AObj:=((.t true P1 r),[])
noncomputable abbrev B58:E7 B09→AV×List AObj:=fun d=>A9H (B0v d.1.1 d.1.2.1 d.1.2.2.1)
noncomputable def Z2 (a0 a1:Int) (a2:Lq1):Bool:=let z3:=([]:List Int);let z1:=J5 (J5 z3 a0) a1;let z2:=z1++(A8k a2);let z4:=J5 z3 ((z1.length:Nat):Int);let z5:=A0j a0 a1 a2;(A85 a0 a1 a2)&&(cond (!(X8 a0 a1 a2)) true ((J7 z3 a0)&&((J7 (J5 z3 a0) a1)&&(cond (a0==(1:Int)) ((A8C a2)&&((decide ((z1.length+(A8k a2).length)*1≤MAXB))&&((J7 z3 ((z2.length:Nat):Int))&&((decide ((z5.length+z2.length)*1≤MAXB))&&((V5 z2)&&((decide (0≤(0:Int)∧(0:Int)≤(4:Int)∧(4:Int)≤(((M3 z2).size:Nat):Int)))&&(decide ((z5++z2).length+((M3 z2).extract (0:Int).toNat (4:Int).toNat).size≤MAXB)))))))) ((J7 z3 ((z1.length:Nat):Int))&&((decide ((z4.length+z1.length)*1≤MAXB))&&((V5 z1)&&((decide (0≤(0:Int)∧(0:Int)≤(4:Int)∧(4:Int)≤(((M3 z1).size:Nat):Int)))&&(decide ((z4++z1).length+((M3 z1).extract (0:Int).toNat (4:Int).toNat).size≤MAXB))))))))))
noncomputable abbrev B2W:E7 B09→Bool:=fun d=>Z2 d.1.1 d.1.2.1 d.1.2.2.1
theorem C0A:A7X true G20 aLn Try.f16 B09 B2W B58:=by
 rintro ⟨⟨a0,⟨a1,⟨a2,_⟩⟩⟩,_⟩ hp
 change Z2 a0 a1 a2=true at hp
 unfold Z2 at hp
 refine Eq.trans (b:=(let z4:=([]:List Int);let z1:=J5 (J5 z4 a0) a1;let z2:=z1++(A8k a2);let z3:=J5 z4 ((z1.length:Nat):Int);let z5:=(M3 z2).extract (0:Int).toNat (4:Int).toNat;let z6:=(M3 z1).extract (0:Int).toNat (4:Int).toNat;let z7:=A0j a0 a1 a2;cond (A85 a0 a1 a2) (cond (!(X8 a0 a1 a2)) (some (A9H z4)) (cond (J7 z4 a0) (cond (J7 (J5 z4 a0) a1) (cond (a0==(1:Int)) (cond (A8C a2) (cond (decide ((z1.length+(A8k a2).length)*1≤MAXB)) (cond (J7 z4 ((z2.length:Nat):Int)) (cond (decide ((z7.length+z2.length)*1≤MAXB)) (cond (V5 z2) (cond (decide (0≤(0:Int)∧(0:Int)≤(4:Int)∧(4:Int)≤(((M3 z2).size:Nat):Int))) (cond (decide ((z7++z2).length+z5.size≤MAXB)) (some (A9H ((z7++z2)++A18 z5))) none) none) none) none) none) none) none) (cond (J7 z4 ((z1.length:Nat):Int)) (cond (decide ((z3.length+z1.length)*1≤MAXB)) (cond (V5 z1) (cond (decide (0≤(0:Int)∧(0:Int)≤(4:Int)∧(4:Int)≤(((M3 z1).size:Nat):Int))) (cond (decide ((z3++z1).length+z6.size≤MAXB)) (some (A9H ((z3++z1)++A18 z6))) none) none) none) none) none)) none) none)) none)) (by kernel_rfl) ?_
 exact (A7Y hp fun hp=>(B6H A9H hp (fun hp=>rfl) (fun hp=>(A7Y hp fun hp=>(A7Y hp fun hp=>(B6H A9H hp (fun hp=>(A7Y hp fun hp=>(A7Y hp fun hp=>(A7Y hp fun hp=>(A7Y hp fun hp=>(A7Y hp fun hp=>(A7Y hp fun hp=>(A70 hp fun _h=>rfl)))))))) (fun hp=>(A7Y hp fun hp=>(A7Y hp fun hp=>(A7Y hp fun hp=>(A7Y hp fun hp=>(A70 hp fun _h=>rfl))))))))))))
theorem C1Z:aPP 16 (A2n B09 B2W B58):=pcD true G20 hlz C0A
noncomputable def S21:Tab:=Tab.add S20 16 (lift (A2n B09 B2W B58))
noncomputable def C4z:FuncId→Bool:=qadd C4y 16
theorem G21:aPG S21 C4z:=G20.addQ C1Z (cbl Try.f16) (fun _=>rfl)

abbrev A9K:List PSh:=[.t (.int .i64),.t (.int .i64),.t (.int .i64)]
noncomputable def A82 (a0 a1 a2:Int):Bool:=(cond (decide (a0 ≥ a1)) (decide (a0≤a2)) false)
noncomputable abbrev B1A (r:Bool):AV×List AObj:=((.t true .bool r),[])
noncomputable abbrev B4o:E7 A9K→AV×List AObj:=fun d=>B1A (A82 d.1 d.2.1 d.2.2.1)
noncomputable abbrev B1N:E7 A9K→Bool:=fun d=>true
theorem B9F:A7X true G21 aLn Try.f101 A9K B1N B4o:=by
 rintro ⟨a0,⟨a1,⟨a2,_⟩⟩⟩ hp
 refine Eq.trans (b:=(cond (decide (a0 ≥ a1)) (some (B1A (decide (a0≤a2)))) (some (B1A false)))) (by kernel_rfl) ?_
 exact (M2 B1A (fun _h=>rfl) (fun _h=>rfl))
theorem C0U:aPP 101 (A2n A9K B1N B4o):=pcD true G21 hlz B9F
noncomputable def S22:Tab:=Tab.add S21 101 (lift (A2n A9K B1N B4o))
noncomputable def C4A:FuncId→Bool:=qadd C4z 101
theorem G22:aPG S22 C4A:=G21.addQ C0U (cbl Try.f101) (fun _=>rfl)

abbrev B4Q:List PSh:=[.t (.int .i64)]
noncomputable def B6s (a0:Int):Bool:=(A82 a0 (1:Int) (1000000:Int))
noncomputable abbrev C3t (r:Bool):AV×List AObj:=((.t true .bool r),[])
noncomputable abbrev B87:E7 B4Q→AV×List AObj:=fun d=>C3t (B6s d.1)
noncomputable abbrev B6d:E7 B4Q→Bool:=fun d=>true
theorem C2h:A7X true G22 aLn Try.f74 B4Q B6d B87:=by
 rintro ⟨a0,_⟩ hp
 kernel_rfl
theorem C3k:aPP 74 (A2n B4Q B6d B87):=pcD true G22 hlz C2h
noncomputable def S23:Tab:=Tab.add S22 74 (lift (A2n B4Q B6d B87))
noncomputable def C4B:FuncId→Bool:=qadd C4A 74
theorem G23:aPG S23 C4B:=G22.addQ C3k (cbl Try.f74) (fun _=>rfl)

abbrev A73:List PSh:=[.t (.int .u8)]
noncomputable def A96 (a0:Int):Bool:=let z1:=decide (a0 ≥ (48:Int));let z2:=decide (a0≤(57:Int));(cond (decide (a0 ≥ (97:Int))) (cond (decide (a0≤(122:Int))) true (cond z1 z2 false)) (cond z1 z2 false))
noncomputable abbrev N6 (r:Bool):AV×List AObj:=((.t true .bool r),[])
noncomputable abbrev B1F:E7 A73→AV×List AObj:=fun d=>N6 (A96 d.1)
noncomputable abbrev B0a:E7 A73→Bool:=fun d=>true
theorem B7P:A7X true G23 aLn Try.f178 A73 B0a B1F:=by
 rintro ⟨a0,_⟩ hp
 refine Eq.trans (b:=(let z1:=N6 (decide (a0≤(57:Int)));let z2:=decide (a0 ≥ (48:Int));cond (decide (a0 ≥ (97:Int))) (cond (decide (a0≤(122:Int))) (some (N6 true)) (cond z2 (some z1) (some (N6 false)))) (cond z2 (some z1) (some (N6 false))))) (by kernel_rfl) ?_
 exact (M2 N6 (fun _h=>(M2 N6 (fun _h=>rfl) (fun _h=>(M2 N6 (fun _h=>rfl) (fun _h=>rfl))))) (fun _h=>(M2 N6 (fun _h=>rfl) (fun _h=>rfl))))
theorem B80:aPP 178 (A2n A73 B0a B1F):=pcD true G23 hlz B7P
noncomputable def S24:Tab:=Tab.add S23 178 (lift (A2n A73 B0a B1F))
noncomputable def C4C:FuncId→Bool:=qadd C4B 178
theorem G24:aPG S24 C4C:=G23.addQ B80 (cbl Try.f178) (fun _=>rfl)

abbrev C5j:List Sh:=.junk::.junk::.junk::.junk::.junk::.junk::.junk::.junk::.junk::.junk::.junk::[]
abbrev C5k:List Sh:=.junk::C5j
abbrev C3z:List Sh:=.junk::.junk::C5k
abbrev u13:=((),(),(),(),(),(),(),(),(),(),(),(),())
abbrev u12:=((),(),(),(),(),(),(),(),(),(),(),())
abbrev u16:=((),(),(),u13)
noncomputable def B1H (s:ByteArray) (i:Nat):Bool:=A96 (bt s (i:Int))
abbrev B02:List PSh:=[.t .str]
abbrev W8:SS:=⟨(.t true .str::.junk::.junk::tI::C5j),[]⟩
abbrev B3y:SS:=⟨(.junk::.junk::.t true .bool::C5k),[]⟩
abbrev B3z:SS:=⟨(.junk::C3z),[]⟩
noncomputable def B10 (x0:ByteArray) (x3:Int):RT W8.den:=(.br (decide (x3<(x0.size:Int))) (.br (decide (0≤x3∧x3<(x0.size:Int))) (.br (!(A96 (bt x0 x3))) (.done .ret B3y (((),(),false,u13),())) (.next ((x0,(),(),wI (x3+(1:Int)),u12),()))) .fail) (.done (.exit 0) B3z ((u16),())))
noncomputable def A8Q (x0:ByteArray) (x3:Int):CT:=(.br (decide (0≤x3)&&okS x0) (.br (A46 (B1H x0) (x0.size - x3.toNat) x3.toNat) (.done (.exit 0) B3z ((u16),())) (.done .ret B3y (((),(),false,u13),()))) .fail)
noncomputable abbrev A8m:W8.den→RT W8.den:=(fun d=>B10 d.1.1 d.1.2.2.2.1)
noncomputable abbrev B5l (x0:ByteArray) (x3:Int):W8.den:=((x0,(),(),x3,u12),())
noncomputable def B2C:Code:=((D8 0 (A2d Try.f167)).getD 0 (0,.skip)).2
theorem B9R (x0:ByteArray) (x3:Int):(A8Q x0 x3).val (D:=W8.den)=.fail∨Runs A8m (B5l x0 x3) (A8Q x0 x3).val:=by
 cases hc:(decide (0≤x3)&&okS x0) with
 | false=>left;simp only [A8Q,CT.val,hc,cond_false]
 | true =>
  right
  simp only [A8Q,CT.val,hc,cond_true]
  simp only [Bool.and_eq_true,decide_eq_true_eq] at hc
  obtain ⟨i,rfl⟩:=Int.eq_ofNat_of_zero_le hc.1
  have hs:=A7O hc.2
  simp only [Int.toNat_natCast]
  refine Runs.scan (fun j=>B5l x0 (j:Int)) (x0.size) (B1H x0) (fun i hi=>?_) (fun i hi=>?_) ⟨_,_,_,rfl,by simp⟩ ⟨_,_,_,rfl,by simp⟩ _ _ rfl
  ·
   have h0a:decide ((i:Int)<(x0.size:Int))=true:=decide_eq_true (by omega)
   have h0b:decide (0≤(i:Int)∧(i:Int)<(x0.size:Int))=true:=decide_eq_true (by omega)
   simp only [A8m,B10,RT.val,h0a,h0b,cond_true,A7V i (by omega),Int.toNat_natCast]
   simp only [B1H]
   cases A96 (bt x0 (i:Int))<;>rfl
  ·have h1:decide ((i:Int)<(x0.size:Int))=false:=decide_eq_false (by omega)
   simp only [A8m,B10,RT.val,h1,cond_false]
theorem B78:RdA G24 aLn 0 B2C W8 0 [] (kepts [2] [(0,[])]) (fun d=>(A8m d).opt 0 []):=by
 intro d
 kernel_rfl
noncomputable abbrev B37:St→Option Tree:=W8.say 0 [] [] (fun d=>A8Q d.1.1 d.1.2.2.2.1)
theorem B9i:aPL B37 B2C:=SS.wp2 hlz [] A8m B78 (fun d=>rfl) _ (fun d=>B9R d.1.1 d.1.2.2.2.1)
noncomputable def B6U (a0:ByteArray):Bool:=(cond (A46 (B1H a0) (a0.size - (0:Int).toNat) (0:Int).toNat) true false)
noncomputable abbrev B3j (r:Bool):AV×List AObj:=((.t true .bool r),[])
noncomputable abbrev B51:E7 B02→AV×List AObj:=fun d=>B3j (B6U d.1)
noncomputable def B3r (a0:ByteArray):Bool:=okS a0
noncomputable abbrev B2N:E7 B02→Bool:=fun d=>B3r d.1
noncomputable abbrev C1E:Nat→St→Option Tree:=fun b=>match b with | 0=>B37 | _=>fun _=>none
theorem C0r:A7X true G24 (C1E) Try.f167 B02 B2N B51:=by
 rintro ⟨a0,_⟩ hp
 change B3r a0=true at hp
 unfold B3r at hp
 refine Eq.trans (b:=(cond (decide (0≤(0:Int))&&okS a0) (cond (A46 (B1H a0) (a0.size - (0:Int).toNat) (0:Int).toNat) (some (B3j true)) (some (B3j false))) none)) (by kernel_rfl) ?_
 exact (A70 (by first | rfl | decide | exact hp | (simp only [Bool.and_eq_true] at hp;simp only [hp];done) | (simp [*];done) | (simp [okL] at hp;simp [okL,MAXB];omega) | (simp_all;done) | (simp at *;omega)) (fun _h=>(M2 B3j (fun _h=>rfl) (fun _h=>rfl))))
theorem C1Q:aPP 167 (A2n B02 B2N B51):=pcD true G24 (hl1 (i:=0) (by kernel_rfl) B9i) C0r
noncomputable def S25:Tab:=Tab.add S24 167 (lift (A2n B02 B2N B51))
noncomputable def C4D:FuncId→Bool:=qadd C4C 167
theorem G25:aPG S25 C4D:=G24.addQ C1Q (cbl Try.f167) (fun _=>rfl)

abbrev B2q:List PSh:=[.t .str]
noncomputable def B0J (a0:ByteArray):Bool:=(cond (A82 (a0.size:Int) (1:Int) (12:Int)) (B6U a0) false)
noncomputable abbrev B4Z (r:Bool):AV×List AObj:=((.t true .bool r),[])
noncomputable abbrev B7b:E7 B2q→AV×List AObj:=fun d=>B4Z (B0J d.1)
noncomputable def B5y (a0:ByteArray):Bool:=okS a0
noncomputable abbrev B4v:E7 B2q→Bool:=fun d=>B5y d.1
theorem C1h:A7X true G25 aLn Try.f140 B2q B4v B7b:=by
 rintro ⟨a0,_⟩ hp
 change B5y a0=true at hp
 unfold B5y at hp
 refine Eq.trans (b:=(cond (A82 (a0.size:Int) (1:Int) (12:Int)) (cond (B3r a0) (some (B4Z (B6U a0))) none) (some (B4Z false)))) (by kernel_rfl) ?_
 exact (M2 B4Z (fun _h=>(A70 (by first | rfl | decide | exact hp | (simp only [Bool.and_eq_true] at hp;simp only [hp];done) | (simp [*];done) | (simp [okL] at hp;simp [okL,MAXB];omega) | (simp_all;done) | (simp at *;omega)) (fun _h=>rfl))) (fun _h=>rfl))
theorem C2A:aPP 140 (A2n B2q B4v B7b):=pcD true G25 hlz C1h
noncomputable def S26:Tab:=Tab.add S25 140 (lift (A2n B2q B4v B7b))
noncomputable def C4E:FuncId→Bool:=qadd C4D 140
theorem G26:aPG S26 C4E:=G25.addQ C2A (cbl Try.f140) (fun _=>rfl)

abbrev B4R:List PSh:=[.agg [(.int .i64),.str,.str]]
noncomputable def B7r (a0:Int) (a1 a2:ByteArray):Bool:=let z1:=decide ((a2.size:Int)≤(20:Int));(cond (a0==(1:Int)) (cond (B0J a1) z1 false) (cond (a0==(3:Int)) (cond (B0J a1) z1 false) (cond (a0==(2:Int)) (cond (B0J a1) (a2.toList==bE.toList) false) false)))
noncomputable abbrev Y6 (r:Bool):AV×List AObj:=((.t true .bool r),[])
noncomputable abbrev B88:E7 B4R→AV×List AObj:=fun d=>Y6 (B7r d.1.1 d.1.2.1 d.1.2.2.1)
noncomputable def B3s (a0:Int) (a1 a2:ByteArray):Bool:=okS a1
noncomputable abbrev B6e:E7 B4R→Bool:=fun d=>B3s d.1.1 d.1.2.1 d.1.2.2.1
theorem C2i:A7X true G26 aLn Try.f119 B4R B6e B88:=by
 rintro ⟨⟨a0,⟨a1,⟨a2,_⟩⟩⟩,_⟩ hp
 change B3s a0 a1 a2=true at hp
 unfold B3s at hp
 refine Eq.trans (b:=(let z1:=Y6 (decide ((a2.size:Int)≤(20:Int)));let z2:=B5y a1;cond (a0==(1:Int)) (cond z2 (cond (B0J a1) (some z1) (some (Y6 false))) none) (cond (a0==(3:Int)) (cond z2 (cond (B0J a1) (some z1) (some (Y6 false))) none) (cond (a0==(2:Int)) (cond z2 (cond (B0J a1) (some (Y6 (a2.toList==(⟨#[]⟩:ByteArray).toList))) (some (Y6 false))) none) (some (Y6 false)))))) (by kernel_rfl) ?_
 exact (M2 Y6 (fun _h=>(A70 (by first | rfl | decide | exact hp | (simp only [Bool.and_eq_true] at hp;simp only [hp];done) | (simp [*];done) | (simp [okL] at hp;simp [okL,MAXB];omega) | (simp_all;done) | (simp at *;omega)) (fun _h=>(M2 Y6 (fun _h=>rfl) (fun _h=>rfl))))) (fun _h=>(M2 Y6 (fun _h=>(A70 (by first | rfl | decide | exact hp | (simp only [Bool.and_eq_true] at hp;simp only [hp];done) | (simp [*];done) | (simp [okL] at hp;simp [okL,MAXB];omega) | (simp_all;done) | (simp at *;omega)) (fun _h=>(M2 Y6 (fun _h=>rfl) (fun _h=>rfl))))) (fun _h=>(M2 Y6 (fun _h=>(A70 (by first | rfl | decide | exact hp | (simp only [Bool.and_eq_true] at hp;simp only [hp];done) | (simp [*];done) | (simp [okL] at hp;simp [okL,MAXB];omega) | (simp_all;done) | (simp at *;omega)) (fun _h=>(M2 Y6 (fun _h=>rfl) (fun _h=>rfl))))) (fun _h=>rfl))))))
theorem C3l:aPP 119 (A2n B4R B6e B88):=pcD true G26 hlz C2i
noncomputable def S27:Tab:=Tab.add S26 119 (lift (A2n B4R B6e B88))
noncomputable def C4F:FuncId→Bool:=qadd C4E 119
theorem G27:aPG S27 C4F:=G26.addQ C3l (cbl Try.f119) (fun _=>rfl)

abbrev C3E:List Sh:=.junk::C21
abbrev u32:=((),(),(),u29)
abbrev C3y:List AV:=.junk::C2X
abbrev C6g:List AV:=.junk::.junk::.junk::.junk::.junk::.junk::.junk::.junk::.junk::.junk::.junk::.junk::.junk::.junk::.junk::.junk::.junk::.junk::.junk::.junk::.junk::.junk::.junk::.junk::.junk::.junk::[]
noncomputable def B6r (l:Lq1) (i:Nat):Bool:=let z1:=l.getD i dOp;let z2:=l.getD (i - 1) dOp;B7r z1.1 z1.2.1 z1.2.2&&(decide (i=0)||!(Op.bytesLess z1.2.1.toList z2.2.1.toList||(z1.2.1.toList==z2.2.1.toList)))
abbrev B2r:List PSh:=[.t tq2]
abbrev T6:SS:=⟨(.t false tq2::.junk::.junk::.junk::.junk::.t false tq2::tI::tI::C2a),[]⟩
abbrev B1o:SS:=⟨(.junk::.junk::.t true .bool::C3E),[]⟩
abbrev B4K:SS:=⟨(.t false tq2::C4i),[]⟩
noncomputable def B3a (x0 x5:Lq1) (x6 x7:Int):RT T6.den:=let z1:=x5.getD x7.toNat ((0:Int),(bE,bE));let z2:=wI (x7 - (1:Int));let z3:=((x0.getD (z2.toNat) ((0:Int),(bE,bE))).2).1;(.br (decide (x7<x6)) (.br (decide (0≤x7∧x7<(x5.length:Int))) (.br (B3s (z1.1) ((z1.2).1) ((z1.2).2)) (.br (!(B7r (z1.1) ((z1.2).1) ((z1.2).2))) (.done .ret B1o (((),(),false,u32),())) (.br (decide (x7 > (0:Int))) (.br (decide (0≤z2∧z2<(x0.length:Int))) (.br (Op.bytesLess ((z1.2).1).toList z3.toList||(((z1.2).1).toList==z3.toList)) (.done .ret B1o (((),(),false,u32),())) (.next ((x0,(),(),(),(),x5,x6,wI (x7+(1:Int)),u27),()))) .fail) (.next ((x0,(),(),(),(),x5,x6,wI (x7+(1:Int)),u27),())))) .fail) .fail) (.done (.exit 0) B4K ((x0,u34),())))
noncomputable def A9Q (x0 x5:Lq1) (x6 x7:Int):CT:=(.br (decide (0≤x7)&&(decide (x6=(x5.length:Int))&&(decide (x5=x0)&&L6 x5))) (.br (A46 (B6r x5) (x5.length - x7.toNat) x7.toNat) (.done (.exit 0) B4K ((x0,u34),())) (.done .ret B1o (((),(),false,u32),()))) .fail)
noncomputable abbrev B0j {α:Sort _} (f:Lq1→Lq1→Int→Int→α) (d:T6.den):α:=f d.1.1 d.1.2.2.2.2.2.1 d.1.2.2.2.2.2.2.1 d.1.2.2.2.2.2.2.2.1
noncomputable abbrev A86:T6.den→RT T6.den:=(B0j B3a)
noncomputable abbrev B6w (x0 x5:Lq1) (x6 x7:Int):T6.den:=((x0,(),(),(),(),x5,x6,x7,u27),())
noncomputable def B3E:Code:=((D8 0 (A2d Try.f75)).getD 0 (0,.skip)).2
theorem C0M (x0 x5:Lq1) (x6 x7:Int):(A9Q x0 x5 x6 x7).val (D:=T6.den)=.fail∨Runs A86 (B6w x0 x5 x6 x7) (A9Q x0 x5 x6 x7).val:=by
 cases hc:(decide (0≤x7)&&(decide (x6=(x5.length:Int))&&(decide (x5=x0)&&L6 x5))) with
 | false=>left;simp only [A9Q,CT.val,hc,cond_false]
 | true =>
  right
  simp only [A9Q,CT.val,hc,cond_true]
  simp only [Bool.and_eq_true,decide_eq_true_eq] at hc
  obtain ⟨i,rfl⟩:=Int.eq_ofNat_of_zero_le hc.1
  obtain ⟨_,e6,e5,hc⟩:=hc
  subst e5;subst e6
  have hs:=R4 hc
  simp only [Int.toNat_natCast]
  refine Runs.scan (fun j=>B6w x5 x5 (x5.length:Int) (j:Int)) (x5.length) (B6r x5) (fun i hi=>?_) (fun i hi=>?_) ⟨_,_,_,rfl,by simp⟩ ⟨_,_,_,rfl,by simp⟩ _ _ rfl
  ·
   have h0a:decide ((i:Int)<(x5.length:Int))=true:=decide_eq_true (by omega)
   have h0b:decide (0≤(i:Int)∧(i:Int)<(x5.length:Int))=true:=decide_eq_true (by omega)
   simp only [A86,B3a,RT.val,h0a,h0b,cond_true,A7V i (by omega),Int.toNat_natCast]
   have hq:B3s (x5.getD i dOp).1 (x5.getD i dOp).2.1 (x5.getD i dOp).2.2=true:=(A99 hc i hi).1
   simp only [dOp] at hq
   simp only [hq,cond_true,B6r,dOp]
   cases B7r (x5.getD i ((0:Int),((⟨#[]⟩:ByteArray),(⟨#[]⟩:ByteArray)))).1 (x5.getD i ((0:Int),((⟨#[]⟩:ByteArray),(⟨#[]⟩:ByteArray)))).2.1 (x5.getD i ((0:Int),((⟨#[]⟩:ByteArray),(⟨#[]⟩:ByteArray)))).2.2 with
   | false=>rfl
   | true =>
    cases i with
    | zero=>rfl
    | succ i =>
     have h3:decide (((i+1:Nat):Int) > 0)=true:=decide_eq_true (by omega)
     have h4:wI (((i+1:Nat):Int) - 1)=(i:Int):=by have:=A7v (n:=((i+1:Nat):Int) - 1) (by omega) (by omega);omega
     have h5:decide (0≤(i:Int)∧(i:Int)<(x5.length:Int))=true:=decide_eq_true (by omega)
     have h6:decide (i+1=0)=false:=by simp
     simp only [h3,h4,h5,h6,cond_true,Bool.true_and,Bool.false_or,Int.toNat_natCast,Nat.add_sub_cancel,Bool.not_true,cond_false]
     cases (Op.bytesLess (x5.getD (i+1) ((0:Int),((⟨#[]⟩:ByteArray),(⟨#[]⟩:ByteArray)))).2.1.toList (x5.getD i ((0:Int),((⟨#[]⟩:ByteArray),(⟨#[]⟩:ByteArray)))).2.1.toList||((x5.getD (i+1) ((0:Int),((⟨#[]⟩:ByteArray),(⟨#[]⟩:ByteArray)))).2.1.toList==(x5.getD i ((0:Int),((⟨#[]⟩:ByteArray),(⟨#[]⟩:ByteArray)))).2.1.toList))<;>rfl
  ·have h1:decide ((i:Int)<(x5.length:Int))=false:=decide_eq_false (by omega)
   simp only [A86,B3a,RT.val,h1,cond_false]
noncomputable def B6u (x0 x5:Lq1) (x6 x7:Int):Option (Ex×St):=let z1:=x5.getD x7.toNat ((0:Int),(bE,bE));let z2:=(⟨((.t false tq2 x0)::.junk::.junk::.junk::.junk::(.t false tq2 x5)::(ti x6)::(ti (wI (x7+(1:Int))))::C6g),[],0,[]⟩:St);let z3:=wI (x7 - (1:Int));let z4:=(⟨(.junk::.junk::(.t true .bool false)::C3y),[],0,[]⟩:St);let z5:=((x0.getD (z3.toNat) ((0:Int),(bE,bE))).2).1;(cond (decide (x7<x6)) (cond (decide (0≤x7∧x7<(x5.length:Int))) (cond (B3s (z1.1) ((z1.2).1) ((z1.2).2)) (cond (!(B7r (z1.1) ((z1.2).1) ((z1.2).2))) (some (.ret,z4)) (cond (decide (x7 > (0:Int))) (cond (decide (0≤z3∧z3<(x0.length:Int))) (cond (Op.bytesLess ((z1.2).1).toList z5.toList||(((z1.2).1).toList==z5.toList)) (some (.ret,z4)) (some (.normal,z2))) none) (some (.normal,z2)))) none) none) (some ((.exit 0),(⟨((.t false tq2 x0)::C5d),[],0,[]⟩:St))))
theorem B9r:RdA G27 aLn 0 B3E T6 0 [] (kepts [2] [(0,[0])]) (B0j B6u):=by
 intro d
 kernel_rfl
theorem B9x:∀ d:T6.den,(B0j B6u) d=(A86 d).opt 0 []:=by
 intro d
 kernel_rfl
noncomputable abbrev B5G:St→Option Tree:=T6.say 0 [] [] (B0j A9Q)
theorem C0e:aPL B5G B3E:=SS.wp2 hlz [] A86 B9r B9x _ (fun d=>C0M d.1.1 d.1.2.2.2.2.2.1 d.1.2.2.2.2.2.2.1 d.1.2.2.2.2.2.2.2.1)
noncomputable def B7q (a0:Lq1):Bool:=(cond (A46 (B6r a0) (a0.length - (0:Int).toNat) (0:Int).toNat) (A82 (a0.length:Int) (1:Int) (8:Int)) false)
noncomputable abbrev B40 (r:Bool):AV×List AObj:=((.t true .bool r),[])
noncomputable abbrev B7c:E7 B2r→AV×List AObj:=fun d=>B40 (B7q d.1)
noncomputable def B5z (a0:Lq1):Bool:=L6 a0
noncomputable abbrev B4w:E7 B2r→Bool:=fun d=>B5z d.1
noncomputable abbrev C2s:Nat→St→Option Tree:=fun b=>match b with | 0=>B5G | _=>fun _=>none
theorem C1i:A7X true G27 (C2s) Try.f75 B2r B4w B7c:=by
 rintro ⟨a0,_⟩ hp
 change B5z a0=true at hp
 unfold B5z at hp
 refine Eq.trans (b:=(cond (decide (0≤(0:Int))&&(decide ((a0.length:Int)=(a0.length:Int))&&(decide (a0=a0)&&L6 a0))) (cond (A46 (B6r a0) (a0.length - (0:Int).toNat) (0:Int).toNat) (some (B40 (A82 (a0.length:Int) (1:Int) (8:Int)))) (some (B40 false))) none)) (by kernel_rfl) ?_
 exact (A70 (by first | rfl | decide | exact hp | (simp only [Bool.and_eq_true] at hp;simp only [hp];done) | (simp [*];done) | (simp [okL] at hp;simp [okL,MAXB];omega) | (simp_all;done) | (simp at *;omega)) (fun _h=>(M2 B40 (fun _h=>rfl) (fun _h=>rfl))))
theorem C2B:aPP 75 (A2n B2r B4w B7c):=pcD true G27 (hl1 (i:=0) (by kernel_rfl) C0e) C1i
noncomputable def S28:Tab:=Tab.add S27 75 (lift (A2n B2r B4w B7c))
noncomputable def C4G:FuncId→Bool:=qadd C4F 75
theorem G28:aPG S28 C4G:=G27.addQ C2B (cbl Try.f75) (fun _=>rfl)

abbrev B2s:List PSh:=[.agg [(.int .i64),(.int .i64),tq2]]
noncomputable def B6a (a0 a1:Int) (a2:Lq1):Bool:=(cond (a0==(1:Int)) (cond (B6s a1) (B7q a2) false) (cond (a0==(2:Int)) (cond (B6s a1) ((a2.length:Int)==(0:Int)) false) (cond (a0==(3:Int)) (cond (B6s a1) ((a2.length:Int)==(0:Int)) false) false)))
noncomputable abbrev R0 (r:Bool):AV×List AObj:=((.t true .bool r),[])
noncomputable abbrev B7d:E7 B2s→AV×List AObj:=fun d=>R0 (B6a d.1.1 d.1.2.1 d.1.2.2.1)
noncomputable def B0c (a0 a1:Int) (a2:Lq1):Bool:=L6 a2
noncomputable abbrev B4x:E7 B2s→Bool:=fun d=>B0c d.1.1 d.1.2.1 d.1.2.2.1
theorem C1j:A7X true G28 aLn Try.f27 B2s B4x B7d:=by
 rintro ⟨⟨a0,⟨a1,⟨a2,_⟩⟩⟩,_⟩ hp
 change B0c a0 a1 a2=true at hp
 unfold B0c at hp
 refine Eq.trans (b:=(let z1:=R0 ((a2.length:Int)==(0:Int));cond (a0==(1:Int)) (cond (B6s a1) (cond (B5z a2) (some (R0 (B7q a2))) none) (some (R0 false))) (cond (a0==(2:Int)) (cond (B6s a1) (some z1) (some (R0 false))) (cond (a0==(3:Int)) (cond (B6s a1) (some z1) (some (R0 false))) (some (R0 false)))))) (by kernel_rfl) ?_
 exact (M2 R0 (fun _h=>(M2 R0 (fun _h=>(A70 (by first | rfl | decide | exact hp | (simp only [Bool.and_eq_true] at hp;simp only [hp];done) | (simp [*];done) | (simp [okL] at hp;simp [okL,MAXB];omega) | (simp_all;done) | (simp at *;omega)) (fun _h=>rfl))) (fun _h=>rfl))) (fun _h=>(M2 R0 (fun _h=>(M2 R0 (fun _h=>rfl) (fun _h=>rfl))) (fun _h=>(M2 R0 (fun _h=>(M2 R0 (fun _h=>rfl) (fun _h=>rfl))) (fun _h=>rfl))))))
theorem C2C:aPP 27 (A2n B2s B4x B7d):=pcD true G28 hlz C1j
noncomputable def S29:Tab:=Tab.add S28 27 (lift (A2n B2s B4x B7d))
noncomputable def C4H:FuncId→Bool:=qadd C4G 27
theorem G29:aPG S29 C4H:=G28.addQ C2C (cbl Try.f27) (fun _=>rfl)

abbrev A75:SS:=⟨[.nil,tI],[]⟩
abbrev L9:SS:=⟨(.all 0 1::tI::C0d),[.rows 5 true (.int .u8)]⟩
abbrev A0z:SS:=⟨(.all 0 1::tI::C0d),[.rows 5 true (.int .u8)]⟩
noncomputable def Z5 (x1:Int) (h0:List Int):RT L9.den:=let z1:=ior .i64 (128:Int) (iand .i64 x1 (127:Int));(.br (decide (x1 > (127:Int))) (.br (decide ((h0.length+[IntKind.wrap .u8 z1].length)*1≤MAXB)) (.next (((),Int.fdiv x1 (2 ^ (7)),u23),(h0++[IntKind.wrap .u8 z1],()))) .fail) (.done (.exit 0) A0z (((),x1,u23),(h0,()))))
noncomputable def U6 (x1:Int) (h0:List Int):CT:=(.br (decide (0≤x1∧x1≤1000000000)&&decide (h0.length≤35184372088832)) (.done (.exit 0) A0z (((),((nX x1).2),u23),((h0++(nX x1).1),()))) .fail)
noncomputable abbrev M1:L9.den→RT L9.den:=(fun d=>Z5 d.1.2.1 d.2.1)
noncomputable abbrev A8w (x1:Int) (h0:List Int):L9.den:=(((),x1,u23),(h0,()))
noncomputable def A9Z:Code:=((D8 0 (A2d Try.f113)).getD 0 (0,.skip)).2
theorem B6F (x1:Int) (h0:List Int):(U6 x1 h0).val (D:=L9.den)=.fail∨Runs M1 (A8w x1 h0) (U6 x1 h0).val:=by
 cases hc:(decide (0≤x1∧x1≤1000000000)&&decide (h0.length≤35184372088832)) with
 | false=>left;simp only [U6,CT.val,hc,cond_false]
 | true =>
  right
  simp only [U6,CT.val,hc,cond_true]
  simp only [Bool.and_eq_true,decide_eq_true_eq] at hc
  rw [C25]
  have key:∀ (k:Nat) (x1:Int) (h0:List Int),0≤x1→x1<128 ^ (k+1)→h0.length+k≤70368744177664→Runs M1 (A8w x1 h0) (((.done (.exit 0) A0z (((),((hiF X3 k x1).2),u23),((h0++(hiF X3 k x1).1),()))):CT).val (D:=L9.den)):=by
   intro k
   induction k with
   | zero =>
    intro x h h1 h2 h3
    have e1:decide (x > 127)=false:=decide_eq_false (by simp at h2;omega)
    refine .done (by simp) ?_
    simp only [M1,Z5,RT.val,e1,cond_false,hiF,List.append_nil]
   | succ k ih =>
    intro x h h1 h2 h3
    rw [Int.pow_succ] at h2
    by_cases hx:x > 127
    ·have e1:decide (x > 127)=true:=decide_eq_true hx
     have e2:decide ((h.length+[X3 x].length)*1≤MAXB)=true:=decide_eq_true (by simp [MAXB];omega)
     simp only [X3] at e2
     have:=ih (Int.fdiv x (2 ^ 7)) (h++[X3 x]) (by rw [B3n];omega) (by rw [B3n];omega) (by simp;omega)
     refine .next (d':=A8w (Int.fdiv x (2 ^ 7)) (h++[X3 x])) ?_ ?_
     ·simp only [M1,Z5,RT.val,e1,e2,cond_true];rfl
     ·have e3:hiF X3 (k+1) x=(X3 x::(hiF X3 k (Int.fdiv x (2 ^ 7))).1,(hiF X3 k (Int.fdiv x (2 ^ 7))).2):=by simp only [hiF,e1,cond_true]
      rw [e3]
      simpa [List.append_assoc] using this
    ·have e1:decide (x > 127)=false:=decide_eq_false hx
     refine .done (by simp) ?_
     simp only [M1,Z5,RT.val,e1,cond_false,hiF,List.append_nil]
  exact key 4 x1 h0 hc.1.1 (by have:=hc.1.2;simp;omega) (by have:=hc.2;omega)
theorem B5D:RdA G29 aLn 0 A9Z L9 0 [] (kepts [] [(0,[0,1])]) (fun d=>(M1 d).opt 0 []):=by
 intro d
 kernel_rfl
noncomputable abbrev B0w:St→Option Tree:=L9.say 0 [] [(0,5,(.int .u8))] (fun d=>U6 d.1.2.1 d.2.1)
theorem B6b:aPL B0w A9Z:=SS.wp2 hlz [(0,5,(.int .u8))] M1 B5D (fun d=>rfl) _ (fun d=>B6F d.1.2.1 d.2.1)
noncomputable def J8 (x1:Int):List Int:=let z1:=if (1000000000:Int)<x1 then (1000000000:Int) else x1;let z2:=nX (if z1 > (0:Int) then z1 else (0:Int));((([]:List Int)++z2.1)++[IntKind.wrap .u8 (z2.2)])
noncomputable abbrev B3M (r:List Int):AV×List AObj×List Nat:=((.all 0 1),[(.rows 5 true (.int .u8) r)],[])
noncomputable abbrev B3O:A75.den→AV×List AObj×List Nat:=fun d=>B3M (J8 d.1.2.1)
noncomputable abbrev B19:A75.den→Bool:=fun d=>true
noncomputable abbrev B7U:Nat→St→Option Tree:=fun b=>match b with | 0=>B0w | _=>fun _=>none
theorem B6Q:A7W G29 (B7U) Try.f113 A75 B19 B3O:=by
 rintro ⟨⟨_,(x1:Int),_⟩,_⟩ hp
 refine Eq.trans (b:=(let z2:=if (1000000000:Int)<x1 then (1000000000:Int) else x1;let z1:=if z2 > (0:Int) then z2 else (0:Int);let z3:=([]:List Int)++(nX z1).1;cond (decide (0≤z1∧z1≤1000000000)&&decide (([]:List Int).length≤35184372088832)) (cond (decide ((z3.length+[IntKind.wrap .u8 ((nX z1).2)].length)*1≤MAXB)) (some (B3M (z3++[IntKind.wrap .u8 ((nX z1).2)]))) none) none)) (by kernel_rfl) ?_
 exact (A70 (by have h1:=M5 (A9h x1);have h2:=A9t x1;simp only [A9h] at h1 h2;simp only [decide_eq_true_eq,Bool.and_eq_true] at *;(try simp only [MAXB,List.length_append,List.length_cons,List.length_nil])<;>omega) (fun _h=>(A70 (by have h1:=M5 (A9h x1);have h2:=A9t x1;simp only [A9h] at h1 h2;simp only [decide_eq_true_eq,Bool.and_eq_true] at *;(try simp only [MAXB,List.length_append,List.length_cons,List.length_nil])<;>omega) (fun _h=>rfl))))
noncomputable abbrev B0K:=win A0B (msum A75 B19 B3O)
theorem B3K:aPM 113 B0K:=(mcM G29 (hl1 (i:=0) (by kernel_rfl) B6b) B6Q).win A0B
noncomputable def S30:Tab:=Tab.add S29 113 (B0K)
noncomputable def C4I:FuncId→Bool:=C4H
theorem G30:aPG S30 C4I:=G29.addM B3K (A7y _) (cbl Try.f113) (by kernel_rfl)
theorem A97 (n:Int):J8 n=U8 (X2 n):=by
 rw [← B5X]
 rfl
theorem B15 (n:Int):(J8 n).length≤5:=by rw [A97];exact R3 _

abbrev B1s:SS:=⟨[.all 0 1,tI],[.rows 5 true (.int .u8)]⟩
abbrev R8:SS:=⟨(.all 0 1::tI::C0d),[.rows 5 true (.int .u8)]⟩
abbrev B0y:SS:=⟨(.all 0 1::tI::C0d),[.rows 5 true (.int .u8)]⟩
noncomputable def A9D (x1:Int) (h0:List Int):RT R8.den:=let z1:=ior .i64 (128:Int) (iand .i64 x1 (127:Int));(.br (decide (x1 > (127:Int))) (.br (decide ((h0.length+[IntKind.wrap .u8 z1].length)*1≤MAXB)) (.next (((),Int.fdiv x1 (2 ^ (7)),u23),(h0++[IntKind.wrap .u8 z1],()))) .fail) (.done (.exit 0) B0y (((),x1,u23),(h0,()))))
noncomputable def A8R (x1:Int) (h0:List Int):CT:=(.br (decide (0≤x1∧x1≤1000000000)&&decide (h0.length≤35184372088832)) (.done (.exit 0) B0y (((),((nX x1).2),u23),((h0++(nX x1).1),()))) .fail)
noncomputable abbrev U3:R8.den→RT R8.den:=(fun d=>A9D d.1.2.1 d.2.1)
noncomputable abbrev B1L (x1:Int) (h0:List Int):R8.den:=(((),x1,u23),(h0,()))
noncomputable def B2D:Code:=((D8 0 (A2d Try.f113)).getD 0 (0,.skip)).2
theorem B9S (x1:Int) (h0:List Int):(A8R x1 h0).val (D:=R8.den)=.fail∨Runs U3 (B1L x1 h0) (A8R x1 h0).val:=by
 cases hc:(decide (0≤x1∧x1≤1000000000)&&decide (h0.length≤35184372088832)) with
 | false=>left;simp only [A8R,CT.val,hc,cond_false]
 | true =>
  right
  simp only [A8R,CT.val,hc,cond_true]
  simp only [Bool.and_eq_true,decide_eq_true_eq] at hc
  rw [C25]
  have key:∀ (k:Nat) (x1:Int) (h0:List Int),0≤x1→x1<128 ^ (k+1)→h0.length+k≤70368744177664→Runs U3 (B1L x1 h0) (((.done (.exit 0) B0y (((),((hiF X3 k x1).2),u23),((h0++(hiF X3 k x1).1),()))):CT).val (D:=R8.den)):=by
   intro k
   induction k with
   | zero =>
    intro x h h1 h2 h3
    have e1:decide (x > 127)=false:=decide_eq_false (by simp at h2;omega)
    refine .done (by simp) ?_
    simp only [U3,A9D,RT.val,e1,cond_false,hiF,List.append_nil]
   | succ k ih =>
    intro x h h1 h2 h3
    rw [Int.pow_succ] at h2
    by_cases hx:x > 127
    ·have e1:decide (x > 127)=true:=decide_eq_true hx
     have e2:decide ((h.length+[X3 x].length)*1≤MAXB)=true:=decide_eq_true (by simp [MAXB];omega)
     simp only [X3] at e2
     have:=ih (Int.fdiv x (2 ^ 7)) (h++[X3 x]) (by rw [B3n];omega) (by rw [B3n];omega) (by simp;omega)
     refine .next (d':=B1L (Int.fdiv x (2 ^ 7)) (h++[X3 x])) ?_ ?_
     ·simp only [U3,A9D,RT.val,e1,e2,cond_true];rfl
     ·have e3:hiF X3 (k+1) x=(X3 x::(hiF X3 k (Int.fdiv x (2 ^ 7))).1,(hiF X3 k (Int.fdiv x (2 ^ 7))).2):=by simp only [hiF,e1,cond_true]
      rw [e3]
      simpa [List.append_assoc] using this
    ·have e1:decide (x > 127)=false:=decide_eq_false hx
     refine .done (by simp) ?_
     simp only [U3,A9D,RT.val,e1,cond_false,hiF,List.append_nil]
  exact key 4 x1 h0 hc.1.1 (by have:=hc.1.2;simp;omega) (by have:=hc.2;omega)
theorem B79:RdA G30 aLn 0 B2D R8 1 [0] (kepts [] [(0,[0,1])]) (fun d=>(U3 d).opt 1 [0]):=by
 intro d
 kernel_rfl
noncomputable abbrev B38:St→Option Tree:=R8.say 1 [0] [] (fun d=>A8R d.1.2.1 d.2.1)
theorem B9j:aPL B38 B2D:=SS.wp2 hlz [] U3 B79 (fun d=>rfl) _ (fun d=>B9S d.1.2.1 d.2.1)
noncomputable def L0 (x1:Int) (h0:List Int):List Int:=let z1:=if (1000000000:Int)<x1 then (1000000000:Int) else x1;let z2:=nX (if z1 > (0:Int) then z1 else (0:Int));((h0++z2.1)++[IntKind.wrap .u8 (z2.2)])
noncomputable abbrev B8y (r:List Int):AV×List AObj×List Nat:=((.all 0 1),[(.rows 5 true (.int .u8) r)],[0])
noncomputable abbrev B8F:B1s.den→AV×List AObj×List Nat:=fun d=>B8y (L0 d.1.2.1 d.2.1)
noncomputable def K2 (x1:Int) (h0:List Int):Bool:=decide (h0.length≤17592186044416)
noncomputable abbrev B6C:B1s.den→Bool:=fun d=>K2 d.1.2.1 d.2.1
noncomputable abbrev C1F:Nat→St→Option Tree:=fun b=>match b with | 0=>B38 | _=>fun _=>none
theorem C0s:A7W G30 (C1F) Try.f113 B1s B6C B8F:=by
 rintro ⟨⟨_,(x1:Int),_⟩,⟨(h0:List Int),_⟩⟩ hp
 change K2 x1 h0=true at hp
 unfold K2 at hp
 refine Eq.trans (b:=(let z2:=if (1000000000:Int)<x1 then (1000000000:Int) else x1;let z1:=if z2 > (0:Int) then z2 else (0:Int);cond (decide (0≤z1∧z1≤1000000000)&&decide (h0.length≤35184372088832)) (cond (decide (((h0++(nX z1).1).length+[IntKind.wrap .u8 ((nX z1).2)].length)*1≤MAXB)) (some (B8y ((h0++(nX z1).1)++[IntKind.wrap .u8 ((nX z1).2)]))) none) none)) (by kernel_rfl) ?_
 exact (A70 (by have h1:=M5 (A9h x1);have h2:=A9t x1;simp only [A9h] at h1 h2;simp only [K2,decide_eq_true_eq,Bool.and_eq_true] at *;(try simp only [MAXB,List.length_append,List.length_cons,List.length_nil])<;>omega) (fun _h=>(A70 (by have h1:=M5 (A9h x1);have h2:=A9t x1;simp only [A9h] at h1 h2;simp only [K2,decide_eq_true_eq,Bool.and_eq_true] at *;(try simp only [MAXB,List.length_append,List.length_cons,List.length_nil])<;>omega) (fun _h=>rfl))))
noncomputable abbrev B8J:=win A0B (msum B1s B6C B8F)
theorem C1R:aPM 113 B8J:=(mcM G30 (hl1 (i:=0) (by kernel_rfl) B9j) C0s).win A0B
noncomputable def S31:Tab:=Tab.add S30 113 (A2t (B0K) (B8J))
noncomputable def C4J:FuncId→Bool:=C4I
theorem G31:aPG S31 C4J:=G30.addM (MContract.orElse B3K C1R) (A7j (A7y _) (A7y _)) (cbl Try.f113) (by kernel_rfl)
theorem A8s (n:Int) (b:List Int):L0 n b=b++U8 (X2 n):=by
 rw [← B5X,U8,← List.append_assoc]
 rfl
theorem A0t (b:List Int) (n:Int):(L0 n b).length≤b.length+5:=by
 rw [A8s,List.length_append]
 have:=R3 (X2 n)
 omega

abbrev B0g:SS:=⟨[.all 0 1,.t true .str],[.rows 5 true (.int .u8)]⟩
noncomputable def Q0 (x1:ByteArray) (h0:List Int):List Int:=((L0 (x1.size:Int) h0)++A18 x1)
noncomputable abbrev B63 (r:List Int):AV×List AObj×List Nat:=((.all 0 1),[(.rows 5 true (.int .u8) r)],[0])
noncomputable abbrev B7e:B0g.den→AV×List AObj×List Nat:=fun d=>B63 (Q0 d.1.2.1 d.2.1)
noncomputable def L1 (x1:ByteArray) (h0:List Int):Bool:=decide (h0.length≤8796093022208)&&okS x1
noncomputable abbrev B5o:B0g.den→Bool:=fun d=>L1 d.1.2.1 d.2.1
theorem B9G:A7W G31 aLn Try.f147 B0g B5o B7e:=by
 rintro ⟨⟨_,(x1:ByteArray),_⟩,⟨(h0:List Int),_⟩⟩ hp
 change L1 x1 h0=true at hp
 unfold L1 at hp
 refine Eq.trans (b:=(let z1:=L0 (x1.size:Int) h0;cond (K2 (x1.size:Int) h0) (cond (decide (z1.length+x1.size≤MAXB)) (some (B63 (z1++A18 x1))) none) none)) (by kernel_rfl) ?_
 exact (A70 (by have h1:=A0t h0 (x1.size:Int);simp only [K2,okS,decide_eq_true_eq,decide_eq_false_iff_not,Bool.and_eq_true] at *;(try simp [MAXB])<;>omega) (fun _h=>(A70 (by have h1:=A0t h0 (x1.size:Int);simp only [K2,okS,decide_eq_true_eq,decide_eq_false_iff_not,Bool.and_eq_true] at *;(try simp [MAXB])<;>omega) (fun _h=>rfl))))
noncomputable abbrev B7u:=win A0B (msum B0g B5o B7e)
theorem C0V:aPM 147 B7u:=(mcM G31 hlz B9G).win A0B
noncomputable def S32:Tab:=Tab.add S31 147 (B7u)
noncomputable def C4K:FuncId→Bool:=C4J
theorem G32:aPG S32 C4K:=G31.addM C0V (A7y _) (cbl Try.f147) (by kernel_rfl)
theorem B2J (b:List Int) (s:ByteArray) (h:okS s=true):Q0 s b=b++B5U s:=by
 simp only [okS,decide_eq_true_eq] at h
 simp only [Q0,A8s,B5U,List.append_assoc]
 rw [Q9 (by omega) (by omega)]
theorem A9w (b:List Int) (s:ByteArray) (h:okS s=true):(Q0 s b).length≤b.length+5+s.size:=by
 rw [B2J b s h,List.length_append]
 have:=B3u s
 omega

abbrev C4f:List Sh:=.junk::C3z
abbrev u30:=((),u29)
noncomputable def A9k (l:Lq1) (i:Nat) (h:List Int):List Int:=let z1:=l.getD i dOp;Q0 z1.2.2 (Q0 z1.2.1 (L0 z1.1 h))
abbrev A76:SS:=⟨[.nil,.t false tq2],[]⟩
abbrev M0:SS:=⟨(.all 0 1::.junk::.junk::.junk::.junk::.junk::.junk::.junk::.junk::.junk::.junk::.t false tq2::tI::tI::C4f),[.rows 5 true (.int .u8)]⟩
abbrev A0A:SS:=⟨(.all 0 1::C3D),[.rows 5 true (.int .u8)]⟩
noncomputable def A8D (x11:Lq1) (x12 x13:Int) (h0:List Int):RT M0.den:=let z1:=x11.getD x13.toNat ((0:Int),(bE,bE));let z2:=Q0 ((z1.2).1) (L0 (z1.1) h0);(.br (decide (x13<x12)) (.br (decide (0≤x13∧x13<(x11.length:Int))) (.br (K2 (z1.1) h0) (.br (L1 ((z1.2).1) (L0 (z1.1) h0)) (.br (L1 ((z1.2).2) z2) (.next (((),(),(),(),(),(),(),(),(),(),(),x11,x12,wI (x13+(1:Int)),u16),((Q0 ((z1.2).2) z2),()))) .fail) .fail) .fail) .fail) (.done (.exit 0) A0A ((u30),(h0,()))))
noncomputable def U7 (x11:Lq1) (x12 x13:Int) (h0:List Int):CT:=(.br (decide (0≤x13)&&(decide (x12=(x11.length:Int))&&(decide (h0.length≤4194304*(x13.toNat+1))&&L6 x11))) (.done (.exit 0) A0A ((u30),((foldN (A9k x11) (x11.length - x13.toNat) x13.toNat h0),()))) .fail)
noncomputable abbrev B1b {α:Sort _} (f:Lq1→Int→Int→(List Int)→α) (d:M0.den):α:=f d.1.2.2.2.2.2.2.2.2.2.2.2.1 d.1.2.2.2.2.2.2.2.2.2.2.2.2.1 d.1.2.2.2.2.2.2.2.2.2.2.2.2.2.1 d.2.1
noncomputable abbrev O1:M0.den→RT M0.den:=(B1b A8D)
noncomputable abbrev B1g (x11:Lq1) (x12 x13:Int) (h0:List Int):M0.den:=(((),(),(),(),(),(),(),(),(),(),(),x11,x12,x13,u16),(h0,()))
noncomputable def A90:Code:=((D8 0 (A2d Try.f114)).getD 0 (0,.skip)).2
theorem B6G (x11:Lq1) (x12 x13:Int) (h0:List Int):(U7 x11 x12 x13 h0).val (D:=M0.den)=.fail∨Runs O1 (B1g x11 x12 x13 h0) (U7 x11 x12 x13 h0).val:=by
 cases hc:(decide (0≤x13)&&(decide (x12=(x11.length:Int))&&(decide (h0.length≤4194304*(x13.toNat+1))&&L6 x11))) with
 | false=>left;simp only [U7,CT.val,hc,cond_false]
 | true =>
  right
  simp only [U7,CT.val,hc,cond_true]
  simp only [Bool.and_eq_true,decide_eq_true_eq] at hc
  obtain ⟨i,rfl⟩:=Int.eq_ofNat_of_zero_le hc.1
  obtain ⟨_,e1,hc⟩:=hc
  subst e1
  have hc:=And.intro (show True from trivial) hc
  have hs:=R4 hc.2.2
  have hb0:=hc.2.1
  simp only [Int.toNat_natCast] at hb0 ⊢
  refine Runs.foldN (step:=O1) (fun j b=>B1g x11 (x11.length:Int) (j:Int) b) (fun i b=>b.length≤4194304*(i+1)) (x11.length) (A9k x11)
   (fin:=fun b=>((.done (.exit 0) A0A ((u30),(b,()))):CT).val) (fun i b hi hb=>?_) (fun i b hi hb=>?_) (x11.length - i) i h0 rfl hb0
  ·obtain ⟨k1,k2⟩:=A99 hc.2.2 i hi
   have l1:=A0t b (x11.getD i dOp).1
   have l2:=A9w (L0 (x11.getD i dOp).1 b) (x11.getD i dOp).2.1 k1
   have l3:=A9w (Q0 (x11.getD i dOp).2.1 (L0 (x11.getD i dOp).1 b)) (x11.getD i dOp).2.2 k2
   have m1:=A7O k1
   have m2:=A7O k2
   have q1:K2 (x11.getD i dOp).1 b=true:=by simp only [K2,decide_eq_true_eq];omega
   have q2:L1 (x11.getD i dOp).2.1 (L0 (x11.getD i dOp).1 b)=true:=by simp only [L1,k1,Bool.and_true,decide_eq_true_eq];omega
   have q3:L1 (x11.getD i dOp).2.2 (Q0 (x11.getD i dOp).2.1 (L0 (x11.getD i dOp).1 b))=true:=by simp only [L1,k2,Bool.and_true,decide_eq_true_eq];omega
   refine ⟨by simp only [A9k];omega,?_⟩
   have h0a:decide ((i:Int)<(x11.length:Int))=true:=decide_eq_true (by omega)
   have h0b:decide (0≤(i:Int)∧(i:Int)<(x11.length:Int))=true:=decide_eq_true (by omega)
   simp only [dOp] at q1 q2 q3
   simp only [O1,A8D,RT.val,h0a,h0b,cond_true,A7V i (by omega),Int.toNat_natCast,q1,q2,q3]
   rfl
  ·have h1:decide ((i:Int)<(x11.length:Int))=false:=decide_eq_false (by omega)
   exact ⟨by simp only [O1,A8D,RT.val,h1,cond_false];rfl,_,_,_,rfl,by simp⟩
theorem B5E:RdA G32 aLn 0 A90 M0 0 [] (kepts [] [(0,[0])]) (fun d=>(O1 d).opt 0 []):=by
 intro d
 kernel_rfl
noncomputable abbrev B0x:St→Option Tree:=M0.say 0 [] [] (B1b U7)
theorem B6c:aPL B0x A90:=SS.wp2 hlz [] O1 B5E (fun d=>rfl) _ (fun d=>B6G d.1.2.2.2.2.2.2.2.2.2.2.2.1 d.1.2.2.2.2.2.2.2.2.2.2.2.2.1 d.1.2.2.2.2.2.2.2.2.2.2.2.2.2.1 d.2.1)
noncomputable def C0c (x1:Lq1):List Int:=(foldN (A9k x1) (x1.length - (0:Int).toNat) (0:Int).toNat (J8 (x1.length:Int)))
noncomputable abbrev B3N (r:List Int):AV×List AObj×List Nat:=((.all 0 1),[(.rows 5 true (.int .u8) r)],[])
noncomputable abbrev B3P:A76.den→AV×List AObj×List Nat:=fun d=>B3N (C0c d.1.2.1)
noncomputable def B0N (x1:Lq1):Bool:=L6 x1
noncomputable abbrev B2a:A76.den→Bool:=fun d=>B0N d.1.2.1
noncomputable abbrev B7V:Nat→St→Option Tree:=fun b=>match b with | 0=>B0x | _=>fun _=>none
theorem B6R:A7W G32 (B7V) Try.f114 A76 B2a B3P:=by
 rintro ⟨⟨_,(x1:Lq1),_⟩,_⟩ hp
 change B0N x1=true at hp
 unfold B0N at hp
 refine Eq.trans (b:=(let z1:=J8 (x1.length:Int);cond (decide (0≤(0:Int))&&(decide ((x1.length:Int)=(x1.length:Int))&&(decide (z1.length≤4194304*((0:Int).toNat+1))&&L6 x1))) (some (B3N (foldN (A9k x1) (x1.length - (0:Int).toNat) (0:Int).toNat z1))) none)) (by kernel_rfl) ?_
 exact (A70 (by have h1:=B15 (x1.length:Int);have hs:=R4 hp;simp only [hp,Bool.and_true,Bool.true_and,Bool.and_eq_true,decide_eq_true_eq]<;>(try simp only [Int.toNat_zero,Int.le_refl,true_and,and_true,eq_self] at h1 ⊢)<;>omega) (fun _h=>rfl))
noncomputable abbrev B0L:=win A0B (msum A76 B2a B3P)
theorem B3L:aPM 114 B0L:=(mcM G32 (hl1 (i:=0) (by kernel_rfl) B6c) B6R).win A0B
noncomputable def S33:Tab:=Tab.add S32 114 (B0L)
noncomputable def C4L:FuncId→Bool:=C4K
theorem G33:aPG S33 C4L:=G32.addM B3L (A7y _) (cbl Try.f114) (by kernel_rfl)

abbrev B1t:SS:=⟨[.all 0 1,.t false tq2],[.rows 5 true (.int .u8)]⟩
abbrev R9:SS:=⟨(.all 0 1::.junk::.junk::.junk::.junk::.junk::.junk::.junk::.junk::.junk::.junk::.t false tq2::tI::tI::C4f),[.rows 5 true (.int .u8)]⟩
abbrev B0z:SS:=⟨(.all 0 1::C3D),[.rows 5 true (.int .u8)]⟩
noncomputable def B11 (x11:Lq1) (x12 x13:Int) (h0:List Int):RT R9.den:=let z1:=x11.getD x13.toNat ((0:Int),(bE,bE));let z2:=Q0 ((z1.2).1) (L0 (z1.1) h0);(.br (decide (x13<x12)) (.br (decide (0≤x13∧x13<(x11.length:Int))) (.br (K2 (z1.1) h0) (.br (L1 ((z1.2).1) (L0 (z1.1) h0)) (.br (L1 ((z1.2).2) z2) (.next (((),(),(),(),(),(),(),(),(),(),(),x11,x12,wI (x13+(1:Int)),u16),((Q0 ((z1.2).2) z2),()))) .fail) .fail) .fail) .fail) (.done (.exit 0) B0z ((u30),(h0,()))))
noncomputable def A8S (x11:Lq1) (x12 x13:Int) (h0:List Int):CT:=(.br (decide (0≤x13)&&(decide (x12=(x11.length:Int))&&(decide (h0.length≤4194304*(x13.toNat+1))&&L6 x11))) (.done (.exit 0) B0z ((u30),((foldN (A9k x11) (x11.length - x13.toNat) x13.toNat h0),()))) .fail)
noncomputable abbrev B4X {α:Sort _} (f:Lq1→Int→Int→(List Int)→α) (d:R9.den):α:=f d.1.2.2.2.2.2.2.2.2.2.2.2.1 d.1.2.2.2.2.2.2.2.2.2.2.2.2.1 d.1.2.2.2.2.2.2.2.2.2.2.2.2.2.1 d.2.1
noncomputable abbrev Z3:R9.den→RT R9.den:=(B4X B11)
noncomputable abbrev B5m (x11:Lq1) (x12 x13:Int) (h0:List Int):R9.den:=(((),(),(),(),(),(),(),(),(),(),(),x11,x12,x13,u16),(h0,()))
noncomputable def B2E:Code:=((D8 0 (A2d Try.f114)).getD 0 (0,.skip)).2
theorem B9T (x11:Lq1) (x12 x13:Int) (h0:List Int):(A8S x11 x12 x13 h0).val (D:=R9.den)=.fail∨Runs Z3 (B5m x11 x12 x13 h0) (A8S x11 x12 x13 h0).val:=by
 cases hc:(decide (0≤x13)&&(decide (x12=(x11.length:Int))&&(decide (h0.length≤4194304*(x13.toNat+1))&&L6 x11))) with
 | false=>left;simp only [A8S,CT.val,hc,cond_false]
 | true =>
  right
  simp only [A8S,CT.val,hc,cond_true]
  simp only [Bool.and_eq_true,decide_eq_true_eq] at hc
  obtain ⟨i,rfl⟩:=Int.eq_ofNat_of_zero_le hc.1
  obtain ⟨_,e1,hc⟩:=hc
  subst e1
  have hc:=And.intro (show True from trivial) hc
  have hs:=R4 hc.2.2
  have hb0:=hc.2.1
  simp only [Int.toNat_natCast] at hb0 ⊢
  refine Runs.foldN (step:=Z3) (fun j b=>B5m x11 (x11.length:Int) (j:Int) b) (fun i b=>b.length≤4194304*(i+1)) (x11.length) (A9k x11)
   (fin:=fun b=>((.done (.exit 0) B0z ((u30),(b,()))):CT).val) (fun i b hi hb=>?_) (fun i b hi hb=>?_) (x11.length - i) i h0 rfl hb0
  ·obtain ⟨k1,k2⟩:=A99 hc.2.2 i hi
   have l1:=A0t b (x11.getD i dOp).1
   have l2:=A9w (L0 (x11.getD i dOp).1 b) (x11.getD i dOp).2.1 k1
   have l3:=A9w (Q0 (x11.getD i dOp).2.1 (L0 (x11.getD i dOp).1 b)) (x11.getD i dOp).2.2 k2
   have m1:=A7O k1
   have m2:=A7O k2
   have q1:K2 (x11.getD i dOp).1 b=true:=by simp only [K2,decide_eq_true_eq];omega
   have q2:L1 (x11.getD i dOp).2.1 (L0 (x11.getD i dOp).1 b)=true:=by simp only [L1,k1,Bool.and_true,decide_eq_true_eq];omega
   have q3:L1 (x11.getD i dOp).2.2 (Q0 (x11.getD i dOp).2.1 (L0 (x11.getD i dOp).1 b))=true:=by simp only [L1,k2,Bool.and_true,decide_eq_true_eq];omega
   refine ⟨by simp only [A9k];omega,?_⟩
   have h0a:decide ((i:Int)<(x11.length:Int))=true:=decide_eq_true (by omega)
   have h0b:decide (0≤(i:Int)∧(i:Int)<(x11.length:Int))=true:=decide_eq_true (by omega)
   simp only [dOp] at q1 q2 q3
   simp only [Z3,B11,RT.val,h0a,h0b,cond_true,A7V i (by omega),Int.toNat_natCast,q1,q2,q3]
   rfl
  ·have h1:decide ((i:Int)<(x11.length:Int))=false:=decide_eq_false (by omega)
   exact ⟨by simp only [Z3,B11,RT.val,h1,cond_false];rfl,_,_,_,rfl,by simp⟩
theorem B8a:RdA G33 aLn 0 B2E R9 1 [0] (kepts [] [(0,[0])]) (fun d=>(Z3 d).opt 1 [0]):=by
 intro d
 kernel_rfl
noncomputable abbrev B39:St→Option Tree:=R9.say 1 [0] [] (B4X A8S)
theorem B9k:aPL B39 B2E:=SS.wp2 hlz [] Z3 B8a (fun d=>rfl) _ (fun d=>B9T d.1.2.2.2.2.2.2.2.2.2.2.2.1 d.1.2.2.2.2.2.2.2.2.2.2.2.2.1 d.1.2.2.2.2.2.2.2.2.2.2.2.2.2.1 d.2.1)
noncomputable def B1I (x1:Lq1) (h0:List Int):List Int:=(foldN (A9k x1) (x1.length - (0:Int).toNat) (0:Int).toNat (L0 (x1.length:Int) h0))
noncomputable abbrev B8z (r:List Int):AV×List AObj×List Nat:=((.all 0 1),[(.rows 5 true (.int .u8) r)],[0])
noncomputable abbrev B8G:B1t.den→AV×List AObj×List Nat:=fun d=>B8z (B1I d.1.2.1 d.2.1)
noncomputable def A9I (x1:Lq1) (h0:List Int):Bool:=decide (h0.length≤1000)&&L6 x1
noncomputable abbrev B6D:B1t.den→Bool:=fun d=>A9I d.1.2.1 d.2.1
noncomputable abbrev C1G:Nat→St→Option Tree:=fun b=>match b with | 0=>B39 | _=>fun _=>none
theorem C0t:A7W G33 (C1G) Try.f114 B1t B6D B8G:=by
 rintro ⟨⟨_,(x1:Lq1),_⟩,⟨(h0:List Int),_⟩⟩ hp
 change A9I x1 h0=true at hp
 unfold A9I at hp
 refine Eq.trans (b:=(let z1:=L0 (x1.length:Int) h0;cond (K2 (x1.length:Int) h0) (cond (decide (0≤(0:Int))&&(decide ((x1.length:Int)=(x1.length:Int))&&(decide (z1.length≤4194304*((0:Int).toNat+1))&&L6 x1))) (some (B8z (foldN (A9k x1) (x1.length - (0:Int).toNat) (0:Int).toNat z1))) none) none)) (by kernel_rfl) ?_
 exact (A70 (by obtain ⟨hp1,hp2⟩:=(Bool.and_eq_true _ _).mp hp;have h1:=A0t h0 (x1.length:Int);have hs:=R4 hp2;simp only [K2,hp2,Bool.and_true,Bool.true_and,Bool.and_eq_true,decide_eq_true_eq] at hp1 ⊢<;>(try simp only [Int.toNat_zero,Int.le_refl,true_and,and_true,eq_self] at h1 ⊢)<;>omega) (fun _h=>(A70 (by obtain ⟨hp1,hp2⟩:=(Bool.and_eq_true _ _).mp hp;have h1:=A0t h0 (x1.length:Int);have hs:=R4 hp2;simp only [K2,hp2,Bool.and_true,Bool.true_and,Bool.and_eq_true,decide_eq_true_eq] at hp1 ⊢<;>(try simp only [Int.toNat_zero,Int.le_refl,true_and,and_true,eq_self] at h1 ⊢)<;>omega) (fun _h=>rfl))))
noncomputable abbrev B8K:=win A0B (msum B1t B6D B8G)
theorem C1S:aPM 114 B8K:=(mcM G33 (hl1 (i:=0) (by kernel_rfl) B9k) C0t).win A0B
noncomputable def S34:Tab:=Tab.add S33 114 (A2t (B0L) (B8K))
noncomputable def C3j:FuncId→Bool:=C4L
theorem G34:aPG S34 C3j:=G33.addM (MContract.orElse B3L C1S) (A7j (A7y _) (A7y _)) (cbl Try.f114) (by kernel_rfl)
theorem C09 (l:Lq1) (h:List Int) (ho:L6 l=true):B1I l h=h++(U8 (X2 (l.length:Int))++(l.map opB).flatten):=by
 simp only [B1I]
 have:=B8D opB dOp l (A9k l) (fun i h hi=>by
  obtain ⟨k1,k2⟩:=A99 ho i hi
  simp only [A9k,B2J _ _ k1,B2J _ _ k2,A8s,opB,List.append_assoc]) l.length 0 (L0 (l.length:Int) h) (by omega)
 rw [A8s,List.drop_zero,List.append_assoc] at this
 rw [← this,A8s]
 rfl


abbrev Q7:List PSh:=[.t P1]
noncomputable def L8 (a0:List (Int)):List (Int):=a0
noncomputable abbrev N3 (r:List (Int)):AV×List AObj:=(.all 0 1,[.rows 5 true (.int .u8) r])
noncomputable abbrev A9p:E7 Q7→AV×List AObj:=fun d=>N3 (L8 d.1)
noncomputable def K6 (a0:List (Int)):Bool:=decide ((([]:List (Int)).length+a0.length)*1≤MAXB)
noncomputable abbrev A8o:E7 Q7→Bool:=fun d=>K6 d.1
theorem B2Z (a0:List (Int)) (h0:0<a0.length) (hp:K6 a0=true):A64 false Try.prog tt S34 C3j aLn Try.f169 [.t (Ty.sl (.int .u8)).flat P1 a0]=some (N3 a0):=by
 refine Eq.trans (b:=cond (decide (0<a0.length)) (cond (K6 a0) (some (N3 a0)) none) none) (by kernel_rfl) ?_
 rw [decide_eq_true h0,hp];rfl
theorem B20 (A:Option Addr) (c:Nat):A64 false Try.prog tt S34 C3j aLn Try.f169 [.raw (.slice A 0 c)]=some (N3 []):=by
 cases A<;>kernel_rfl
theorem B3v:aPP 169 (A2n Q7 A8o A9p):=PContract.split (e:=(.int .u8)) (pre:=K6) (g:=fun a0=>N3 (L8 a0)) (fun l h0 hp=>PCalls.of_run false G34 (fn:=Try.f169) (by kernel_rfl) (L:=fun _ _=>none) (by rw [show D8 0 (A2d Try.f169)=[] by kernel_rfl];simp) (B2Z l h0 hp) rfl rfl) (fun A c=>PCalls.of_run false G34 (fn:=Try.f169) (by kernel_rfl) (L:=fun _ _=>none) (by rw [show D8 0 (A2d Try.f169)=[] by kernel_rfl];simp) (B20 A c) rfl rfl)
noncomputable def S35:Tab:=Tab.add S34 169 (lift (A2n Q7 A8o A9p))
noncomputable def C4M:FuncId→Bool:=C3j
theorem G35:aPG S35 C4M:=G34.add B3v ⟨Try.f169,by kernel_rfl,by kernel_rfl,by kernel_rfl⟩ (by kernel_rfl)

abbrev C6o:List Sh:=.junk::C3D
abbrev u36:=((),u35)
abbrev C6h:List AV:=.junk::C5c
abbrev B00:List PSh:=[.t P1]
noncomputable def A9X:Code:=((D8 0 (A2d Try.f150)).getD 0 (0,.skip)).2
noncomputable def A9Y:Code:=((D8 0 (A2d Try.f150)).getD 1 (0,.skip)).2
abbrev R6:SS:=⟨(.t false P1::.junk::.junk::.all 0 1::C3E),[.rows 5 true (.int .u8)]⟩
abbrev B3w:SS:=⟨(.t false P1::.junk::.junk::.all 0 1::C3E),[.rows 5 true (.int .u8)]⟩
noncomputable def B5O (x0 h0:List Int):RT R6.den:=(.br ((Int.tmod (wI ((h0.length:Int)+(8:Int))) (64:Int)) != (0:Int)) (.br (decide ((h0.length+[(0:Int)].length)*1≤MAXB)) (.next ((x0,u35),(h0++[(0:Int)],()))) .fail) (.done (.exit 0) B3w ((x0,u35),(h0,()))))
abbrev A8V:=(List Int)×(List Int)
abbrev A0n:=Nat×(List Int)×(List Int)
def B46:A0n:=(99,([]:List Int),([]:List Int))
noncomputable def A9x (x0 h0:List Int):A8V ⊕ A0n:=(cond ((Int.tmod (wI ((h0.length:Int)+(8:Int))) (64:Int)) != (0:Int)) (cond (decide ((h0.length+[(0:Int)].length)*1≤MAXB)) (.inl (x0,h0++[(0:Int)])) (.inr B46)) (.inr (0,x0,h0)))
noncomputable def U0 (x0 h0:List Int):A0n:=itX (fun v:A8V=>A9x v.1 v.2) B46 (x0,h0)
noncomputable def B1u (a:A0n):CT:=(.br (a.1==0) (.done (.exit 0) B3w ((a.2.1,u35),(a.2.2,()))) .fail)
noncomputable def B9W (x0 h0:List Int):CT:=B1u (U0 x0 h0)
noncomputable abbrev B1U:R6.den→RT R6.den:=(fun d=>B5O d.1.1 d.2.1)
noncomputable abbrev B5s (v:A8V):R6.den:=((v.1,u35),(v.2,()))
theorem B9z:(∀ v:A8V,(B5O v.1 v.2).val=A62 B5s B1u (A9x v.1 v.2))∧∀ a:A0n,CEnd R6.den (B1u a):=⟨fun v=>(A72 (A72 rfl rfl) rfl),fun a=>(A7R aCD A7T)⟩
noncomputable def B5e (x0 h0:List Int):Option (Ex×St):=(cond ((Int.tmod (wI ((h0.length:Int)+(8:Int))) (64:Int)) != (0:Int)) (cond (decide ((h0.length+[(0:Int)].length)*1≤MAXB)) (some (.normal,(⟨((.t false P1 x0)::.junk::.junk::(.all 0 1)::C3y),[(.rows 5 true (.int .u8) (h0++[(0:Int)]))],0,[]⟩:St))) none) (some ((.exit 0),(⟨((.t false P1 x0)::.junk::.junk::(.all 0 1)::C3y),[(.rows 5 true (.int .u8) h0)],0,[]⟩:St))))
theorem B76:RdA G35 aLn 0 A9X R6 0 [] (kepts [] [(0,[0,3])]) (fun d=>B5e d.1.1 d.2.1):=by
 intro d
 kernel_rfl
theorem B8h:∀ d:R6.den,(fun d=>B5e d.1.1 d.2.1) d=(B1U d).opt 0 []:=by
 intro d
 kernel_rfl
noncomputable abbrev B35:St→Option Tree:=R6.say 0 [] [] (fun d=>B9W d.1.1 d.2.1)
theorem B9g:aPL B35 A9X:=SS.wp2 hlz [] B1U B76 B8h _ (fun d=>Runs.ofI2 (step:=B1U) B5s B9z rfl (d.1.1,d.2.1))
abbrev R7:SS:=⟨(.junk::.junk::.junk::.all 0 1::tI::tI::C6o),[.rows 5 true (.int .u8)]⟩
abbrev B3x:SS:=⟨(.junk::.junk::.junk::.all 0 1::C3E),[.rows 5 true (.int .u8)]⟩
noncomputable def B5P (x4 x5:Int) (h0:List Int):RT R7.den:=let z1:=wI ((8:Int)*x5);(.br (decide (x5 ≥ (0:Int))) (.br (decide (0≤(IntKind.wrap .u64 z1))) (.br (decide ((h0.length+[IntKind.wrap .u8 (Int.fdiv x4 (2 ^ (min (Int.toNat (IntKind.wrap .u64 z1)) (IntKind.bits .i64))))].length)*1≤MAXB)) (.next (((),(),(),(),x4,wI (x5 - (1:Int)),u30),(h0++[IntKind.wrap .u8 (Int.fdiv x4 (2 ^ (min (Int.toNat (IntKind.wrap .u64 z1)) (IntKind.bits .i64))))],()))) .fail) .fail) (.done (.exit 2) B3x ((u36),(h0,()))))
abbrev A8W:=(Int)×(Int)×(List Int)
abbrev A0o:=Nat×(List Int)
def B1C:A0o:=(99,([]:List Int))
noncomputable def A9y (x4 x5:Int) (h0:List Int):A8W ⊕ A0o:=let z1:=wI ((8:Int)*x5);(cond (decide (x5 ≥ (0:Int))) (cond (decide (0≤(IntKind.wrap .u64 z1))) (cond (decide ((h0.length+[IntKind.wrap .u8 (Int.fdiv x4 (2 ^ (min (Int.toNat (IntKind.wrap .u64 z1)) (IntKind.bits .i64))))].length)*1≤MAXB)) (.inl (x4,wI (x5 - (1:Int)),h0++[IntKind.wrap .u8 (Int.fdiv x4 (2 ^ (min (Int.toNat (IntKind.wrap .u64 z1)) (IntKind.bits .i64))))])) (.inr B1C)) (.inr B1C)) (.inr (0,h0)))
noncomputable def A8i (x4 x5:Int) (h0:List Int):A0o:=itX (fun v:A8W=>A9y v.1 v.2.1 v.2.2) B1C (x4,x5,h0)
noncomputable def B1v (a:A0o):CT:=(.br (a.1==0) (.done (.exit 2) B3x ((u36),(a.2,()))) .fail)
noncomputable def B9X (x4 x5:Int) (h0:List Int):CT:=B1v (A8i x4 x5 h0)
noncomputable abbrev B1V:R7.den→RT R7.den:=(fun d=>B5P d.1.2.2.2.2.1 d.1.2.2.2.2.2.1 d.2.1)
noncomputable abbrev B5t (v:A8W):R7.den:=(((),(),(),(),v.1,v.2.1,u30),(v.2.2,()))
theorem B9A:(∀ v:A8W,(B5P v.1 v.2.1 v.2.2).val=A62 B5t B1v (A9y v.1 v.2.1 v.2.2))∧∀ a:A0o,CEnd R7.den (B1v a):=⟨fun v=>(A72 (A72 (A72 rfl rfl) rfl) rfl),fun a=>(A7R aCD A7T)⟩
noncomputable def B5f (x4 x5:Int) (h0:List Int):Option (Ex×St):=let z1:=wI ((8:Int)*x5);(cond (decide (x5 ≥ (0:Int))) (cond (decide (0≤(IntKind.wrap .u64 z1))) (cond (decide ((h0.length+[IntKind.wrap .u8 (Int.fdiv x4 (2 ^ (min (Int.toNat (IntKind.wrap .u64 z1)) (IntKind.bits .i64))))].length)*1≤MAXB)) (some (.normal,(⟨(.junk::.junk::.junk::(.all 0 1)::(ti x4)::(ti (wI (x5 - (1:Int))))::C6h),[(.rows 5 true (.int .u8) (h0++[IntKind.wrap .u8 (Int.fdiv x4 (2 ^ (min (Int.toNat (IntKind.wrap .u64 z1)) (IntKind.bits .i64))))]))],0,[]⟩:St))) none) none) (some ((.exit 2),(⟨(.junk::.junk::.junk::(.all 0 1)::C3y),[(.rows 5 true (.int .u8) h0)],0,[]⟩:St))))
theorem B77:RdA G35 aLn 2 A9Y R7 0 [] (kepts [] [(2,[3])]) (fun d=>B5f d.1.2.2.2.2.1 d.1.2.2.2.2.2.1 d.2.1):=by
 intro d
 kernel_rfl
theorem B8i:∀ d:R7.den,(fun d=>B5f d.1.2.2.2.2.1 d.1.2.2.2.2.2.1 d.2.1) d=(B1V d).opt 0 []:=by
 intro d
 kernel_rfl
noncomputable abbrev B36:St→Option Tree:=R7.say 0 [] [] (fun d=>B9X d.1.2.2.2.2.1 d.1.2.2.2.2.2.1 d.2.1)
theorem B9h:aPL B36 A9Y:=SS.wp2 hlz [] B1V B77 B8i _ (fun d=>Runs.ofI2 (step:=B1V) B5t B9A rfl (d.1.2.2.2.2.1,d.1.2.2.2.2.2.1,d.2.1))
noncomputable def A8t (a0:List Int):=let z1:=U0 a0 ((L8 a0)++[(128:Int)]);A8i (wI ((8:Int)*(((z1.2.1).length:Nat):Int))) (7:Int) (z1.2.2)
noncomputable def A8J (a0:List Int):List Int:=((A8t a0).2)
noncomputable abbrev B8x (r:List Int):AV×List AObj:=((.t true P1 r),[])
noncomputable abbrev B5Z:E7 B00→AV×List AObj:=fun d=>B8x (A8J d.1)
noncomputable def A8x (a0:List Int):Bool:=let z1:=L8 a0;(K6 a0)&&((decide ((z1.length+[(128:Int)].length)*1≤MAXB))&&(((U0 a0 (z1++[(128:Int)])).1==0)&&((A8t a0).1==0)))
noncomputable abbrev B2L:E7 B00→Bool:=fun d=>A8x d.1
noncomputable abbrev C1D:Nat→St→Option Tree:=fun b=>match b with | 0=>B35 | 2=>B36 | _=>fun _=>none
theorem C0p:A7X true G35 (C1D) Try.f150 B00 B2L B5Z:=by
 rintro ⟨a0,_⟩ hp
 change A8x a0=true at hp
 unfold A8x at hp
 refine Eq.trans (b:=(let z1:=L8 a0;cond (K6 a0) (cond (decide ((z1.length+[(128:Int)].length)*1≤MAXB)) (cond ((U0 a0 (z1++[(128:Int)])).1==0) (cond ((A8t a0).1==0) (some (B8x ((A8t a0).2))) none) none) none) none)) (by kernel_rfl) ?_
 exact (A7Y hp fun hp=>(A7Y hp fun hp=>(A7Y hp fun hp=>(A70 hp fun _h=>rfl))))
theorem C1O:aPP 150 (A2n B00 B2L B5Z):=pcD true G35 (by
  rw [show D8 0 (A2d Try.f150)=[(0,A9X),(2,A9Y)] by kernel_rfl];intro p hp;simp only [List.mem_cons,List.mem_nil_iff,or_false] at hp
  rcases hp with rfl | rfl
  ·exact B9g
  ·exact B9h) C0p
noncomputable def S36:Tab:=Tab.add S35 150 (lift (A2n B00 B2L B5Z))
noncomputable def C4N:FuncId→Bool:=qadd C4M 150
theorem G36:aPG S36 C4N:=G35.addQ C1O (cbl Try.f150) (fun _=>rfl)


end Go.Proofs.Ytccelbeahdcooaa.Eng
