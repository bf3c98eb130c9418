/- What the functions that FnExactGetRec reaches compute, and that it answers true. -/
import Derived.Test.YtccelbeahdcooaaT
import Derived.Test.YtccelbeahdcooaaRows
import Derived.Test.YtccelbeahdcooaaE50
import Derived.RangeFuncBox
import Derived.Shelf.Abstract
import Derived.WalkKit
import Derived.OwnWalkIn
import Derived.TacticsInMore
import Derived.LoopNIn
import Derived.LoopIn
import Derived.RegionIn
namespace Go.Proofs.Ytccelbeahdcooaa.Eng
open Go Go.RowKit
set_option linter.unusedSimpArgs false
set_option linter.unusedVariables false
set_option maxRecDepth 10000
noncomputable abbrev bE:ByteArray:=⟨#[]⟩
noncomputable abbrev Lq1:=List (Int×ByteArray×ByteArray)
noncomputable abbrev tq2:Ty:=.sl (.pair (.int .i64) (.pair .str .str))
noncomputable abbrev tq4:Ty:=.pair (.int .i64) (.pair (.int .i64) (.sl (.pair (.int .i64) (.pair .str .str))))
noncomputable def S0:Tab:=fun _=>none
noncomputable def QF0:FuncId→Bool:=fun _=>false
theorem G0:Good Try.prog tt S0 QF0:=Good.start tt_ok (by kernel_rfl)
theorem Runs.ofI2 {D V A:Type} {step:D→RT D} (pk:V→D) {ss:V→V ⊕ A} {ct:A→CT} {fa:A} (h:(∀ v,(step (pk v)).val=relS pk ct (ss v))∧∀ a,CEnd D (ct a)) (hf:(ct fa).val (D:=D)=.fail) (v:V):(ct (itX ss fa v)).val (D:=D)=.fail∨Runs step (pk v) (ct (itX ss fa v)).val:=Runs.ofIt pk hf h.1 h.2 v
theorem cndE {α β:Type} (e:α→β) {c q r:Bool} {X Y:Option β} {a b:α} (hq:cond c q r=true) (hx:q=true→X=some (e a)) (hy:r=true→Y=some (e b)):cond c X Y=some (e (cond c a b)):=cndQ (F:=fun r=>some (e r)) hq hx hy
theorem cndG {α β:Type} (e:α→β) {c:Bool} {X Y:Option β} {a b:α} (hx:c=true→X=some (e a)) (hy:c=false→Y=some (e b)):cond c X Y=some (e (cond c a b)):=cnd (F:=fun r=>some (e r)) hx hy
theorem hlz {L:Nat→St→Option Tree} {b:Nat} {x:Code} (h:loopsIn b x=[]:=by kernel_rfl):∀ p∈loopsIn b x,LoopWp Try.prog (L p.1) p.2:=hl0 h
theorem cbl {f : FuncId} (F : Func) (h1 : Try.prog.funcs[f]? = some F := by kernel_rfl) (h2 : (F.name == "runtime.NumGoroutine") = false := by kernel_rfl) (h3 : F.body.isNone = false := by kernel_rfl) : Callable Try.prog f := ⟨F, h1, h2, h3⟩
theorem pcD (ro:Bool) {TB:TT} {S:Tab} {Q:FuncId→Bool} (G:Good Try.prog TB S Q) {f:FuncId} {fn:Func} {L:Nat→St→Option Tree} (hL:∀ p∈loopsIn 0 (bodyOf fn),LoopWp Try.prog (L p.1) p.2) {l:List PSh} {pre:pshsDen l→Bool} {g:pshsDen l→AV×List AObj} (h:RunP ro G L fn l pre g) (hf:Try.prog.funcs[f]? = some fn:=by kernel_rfl):PContract Try.prog f (sumOf l pre g):=PContract.of_data ro G hf hL l pre g h
theorem mcM {TB:TT} {S:Tab} {Q:FuncId→Bool} (G:Good Try.prog TB S Q) {f:FuncId} {fn:Func} {L:Nat→St→Option Tree} (hL:∀ p∈loopsIn 0 (bodyOf fn),LoopWp Try.prog (L p.1) p.2) {s:SS} {pre:s.den→Bool} {g:s.den→AV×List AObj×List Nat} (h:RunM G L fn s pre g) (hf:Try.prog.funcs[f]? = some fn:=by kernel_rfl):MContract Try.prog f (msum s pre g):=MContract.of_data G hf hL s pre g h
theorem mcRD (dl:List AV) {TB:TT} {S:Tab} {Q:FuncId→Bool} (G:Good Try.prog TB S Q) {f:FuncId} {fn:Func} {L:Nat→St→Option Tree} (hL:∀ p∈loopsIn 0 (bodyOf fn),LoopWp Try.prog (L p.1) p.2) {s:SS} {pre:s.den→Bool} {g:s.den→AV×List AObj×List Nat} (h:RunMRD dl G L fn s pre g) (hf:Try.prog.funcs[f]? = some fn:=by kernel_rfl):MContract Try.prog f (msum s pre g):=MContract.of_dataRD dl G hf hL s pre g h
theorem mcE (mr:Bool) (dl:List AV) (kx:List Nat) (nb:List (Nat×Nat×Nat×TypeId×Ty)) {TB:TT} {S:Tab} {Q:FuncId→Bool} (G:Good Try.prog TB S Q) {f:FuncId} {fn:Func} {L:Nat→St→Option Tree} (hL:∀ p∈loopsIn 0 (bodyOf fn),LoopWp Try.prog (L p.1) p.2) {s:SS} {pre:s.den→Bool} {g:s.den→AV×List AObj×List Nat} (h:RunE mr dl kx nb G L fn s pre g) (hf:Try.prog.funcs[f]? = some fn:=by kernel_rfl):MContract Try.prog f (msum s pre g):=MContract.of_dataE mr dl kx nb G hf hL s pre g h
/-! Plain laws: order of bytes, keys, ops. -/
theorem bytesLess_irrefl:∀ a:List UInt8,Op.bytesLess a a=false:=by
 intro a
 induction a with
 | nil=>rfl
 | cons x a ih=>simp only [Op.bytesLess,ih,Bool.and_false,Bool.or_false,decide_eq_false_iff_not];exact UInt8.lt_irrefl x
theorem bytesLess_ge:∀ a b:List UInt8,(!(Op.bytesLess a b))=(Op.bytesLess b a||b==a):=by
 intro a
 induction a with
 | nil=>intro b;cases b<;>simp [Op.bytesLess]
 | cons x a ih =>
  intro b
  cases b with
  | nil=>simp [Op.bytesLess]
  | cons y b =>
   simp only [Op.bytesLess]
   by_cases h1:x<y
   ·have h2:¬ y<x:=fun h=>UInt8.lt_irrefl _ (UInt8.lt_trans h1 h)
    have h3:(y==x)=false:=by rw [beq_eq_false_iff_ne];intro h;subst h;exact h2 h1
    have h4:(y::b==x::a)=false:=by rw [List.cons_beq_cons,h3,Bool.false_and]
    simp [h1,h2,h3,h4]
   ·by_cases h5:x=y
    ·subst h5
     have h6:(x::b==x::a)=(b==a):=by rw [List.cons_beq_cons];simp
     have:=ih b
     simp only [h1,decide_false,Bool.false_or,beq_self_eq_true,Bool.true_and,h6,this]
    ·have h7 : y < x := by
      rcases Nat.lt_trichotomy x.toNat y.toNat with h | h | h
      ·exact absurd (UInt8.lt_iff_toNat_lt.2 h) h1
      ·exact absurd (UInt8.toNat_inj.1 h) h5
      ·exact UInt8.lt_iff_toNat_lt.2 h
     have h8:(x==y)=false:=by rw [beq_eq_false_iff_ne];exact h5
     simp [h1,h7,h8]
theorem allF_congr {p q:Nat→Bool}:∀ k i,(∀ j,i≤j→j<i+k→p j=q j)→allF p k i=allF q k i:=by
 intro k
 induction k with
 | zero=>intro i h;rfl
 | succ k ih=>intro i h;simp only [allF];rw [h i (Nat.le_refl _) (by omega),ih (i+1) (fun j h1 h2=>h j (by omega) (by omega))]
theorem allF_same {p:Nat→Bool} (k i:Nat) (h:∀ j,i≤j→j<i+k→p j=true):allF p k i=true:=(allF_true k i).2 h
theorem szN_all {f:Nat→Int→Int} {Q:Nat→Prop} {M:Int}:∀ (k i:Nat) (b:Int),(∀ j b,i≤j→j<i+k→0≤b→b≤M→0≤f j b→Q j∧f j b≤b)→0≤b→b≤M→isInl (szN f k i b)=true →
  (∀ j,i≤j→j<i+k→Q j)∧0≤getInl (-1) (szN f k i b)∧getInl (-1) (szN f k i b)≤b:=by
 intro k
 induction k with
 | zero=>intro i b hf h1 h2 h3;exact ⟨fun j hj hk=>by omega,h1,Int.le_refl _⟩
 | succ k ih =>
  intro i b hf h1 h2 h3
  have e:szN f (k+1) i b=cond (decide (f i b<0)) (.inr ()) (szN f k (i+1) (f i b)):=by
   simp only [szN,loopN]
   cases decide (f i b<0)<;>rfl
  rw [e] at h3 ⊢
  cases hd:decide (f i b<0) with
  | true=>rw [hd] at h3;cases h3
  | false =>
   rw [hd] at h3
   simp only [cond_false] at h3 ⊢
   have h0:0≤f i b:=by have:=of_decide_eq_false hd;omega
   obtain ⟨q1,q2⟩:=hf i b (Nat.le_refl _) (by omega) h1 h2 h0
   obtain ⟨r1,r2,r3⟩:=ih (i+1) (f i b) (fun j b hj hk=>hf j b (by omega) (by omega)) h0 (by omega) h3
   refine ⟨fun j hj hk=>?_,r2,by omega⟩
   by_cases ej:j=i
   ·exact ej ▸ q1
   ·exact r1 j (by omega) (by omega)
noncomputable abbrev OpT:Type:=Int×ByteArray×ByteArray
noncomputable def dOp:Int×ByteArray×ByteArray:=((0:Int),(bE,bE))
noncomputable def okOp (o:Int×ByteArray×ByteArray):Bool:=okS o.2.1&&okS o.2.2
noncomputable def okOps (l:Lq1):Bool:=okL l&&l.all okOp
theorem okOps_at {l:Lq1} (h:okOps l=true) (i:Nat) (hi:i<l.length):okS (l.getD i dOp).2.1=true∧okS (l.getD i dOp).2.2=true:=by
 simp only [okOps,Bool.and_eq_true,List.all_eq_true] at h
 have:=h.2 (l.getD i dOp) (by simp [List.getD_eq_getElem?_getD,hi])
 simpa [okOp] using this
theorem okOps_len {l:Lq1} (h:okOps l=true):l.length≤1048576:=by
 simp only [okOps,Bool.and_eq_true] at h
 exact okL_le h.1
noncomputable def bigS (s:ByteArray):Bool:=decide (s.size≤9223372036854775807)
noncomputable def bigOps (l:Lq1):Bool:=decide (l.length≤9223372036854775807)&&l.all (fun o=>bigS o.2.1&&bigS o.2.2)
theorem bigOps_at {l:Lq1} (h:bigOps l=true) (i:Nat) (hi:i<l.length):bigS (l.getD i dOp).2.1=true∧bigS (l.getD i dOp).2.2=true:=by
 simp only [bigOps,Bool.and_eq_true,List.all_eq_true] at h
 exact h.2 (l.getD i dOp) (by simp [List.getD_eq_getElem?_getD,hi])
theorem okOps_of {l:Lq1} (h1:l.length≤1048576) (h2:∀ i,i<l.length→okS (l.getD i dOp).2.1=true∧okS (l.getD i dOp).2.2=true):okOps l=true:=by
 simp only [okOps,okL,Bool.and_eq_true,decide_eq_true_eq,List.all_eq_true]
 refine ⟨h1,fun o ho=>?_⟩
 obtain ⟨i,hi,rfl⟩:=List.getElem_of_mem ho
 have:=h2 i hi
 simp only [List.getD_eq_getElem?_getD,List.getElem?_eq_getElem hi,Option.getD_some] at this
 simp [okOp,this.1,this.2]
theorem ba_beq (a b:ByteArray):(a.toList==b.toList)=decide (a=b):=by
 rw [ByteArray.toList_eq,ByteArray.toList_eq]
 by_cases h:a=b
 ·subst h;simp
 ·rw [decide_eq_false h,beq_eq_false_iff_ne]
  intro e
  exact h (by cases a;cases b;simp at e;rw [e])
theorem bigOps_len {l:Lq1} (h:bigOps l=true):l.length≤9223372036854775807:=by
 simp only [bigOps,Bool.and_eq_true,decide_eq_true_eq] at h;exact h.1
theorem okOps_okL {l:Lq1} (h:okOps l=true):okL l=true:=by
 simp only [okOps,Bool.and_eq_true] at h;exact h.1
theorem bigOps_of {l:Lq1} (h:bigT tq2 l=true):bigOps l=true:=by
 have h:(decide (l.length≤maxLen)&&l.all fun o=>(Lit.int .i64 o.1).wf&&(decide (o.2.1.size≤maxLen)&&decide (o.2.2.size≤maxLen)))=true:=h
 have hm:maxLen=9223372036854775807:=by decide
 rw [hm] at h
 simp only [Bool.and_eq_true,decide_eq_true_eq,List.all_eq_true] at h
 simp only [bigOps,bigS,Bool.and_eq_true,decide_eq_true_eq,List.all_eq_true]
 exact ⟨h.1,fun o ho=>(h.2 o ho).2⟩
theorem bigRec_ops {k t:Int} {l:Lq1} (h:bigT tq4 (k,(t,l))=true):bigOps l=true:=by
 have hb:((Lit.int .i64 k).wf&&((Lit.int .i64 t).wf&&bigT tq2 l))=true:=h
 rw [Bool.and_eq_true,Bool.and_eq_true] at hb
 exact bigOps_of hb.2.2
/-- The high groups of a number, and what is left. -/
noncomputable def hiF (g:Int→Int):Nat→Int→List Int×Int
 | 0,x=>([],x)
 | k+1,x=>cond (decide (x > 127)) (g x::(hiF g k (Int.fdiv x (2 ^ 7))).1,(hiF g k (Int.fdiv x (2 ^ 7))).2) ([],x)
theorem fdiv128 (x:Int):Int.fdiv x (2 ^ 7)=x / 128:=by
 rw [show (2:Int) ^ 7=128 from rfl,Int.fdiv_eq_ediv_of_nonneg _ (by decide)]
theorem hiF_small (g:Int→Int) (k:Nat):∀ x:Int,0≤x→x<128 ^ (k+1)→0≤(hiF g k x).2∧(hiF g k x).2≤127:=by
 induction k with
 | zero=>intro x h0 h1;simp only [hiF];exact ⟨h0,by rw [show (128:Int) ^ (0+1)=128 from rfl] at h1;omega⟩
 | succ k ih =>
  intro x h0 h1
  simp only [hiF]
  by_cases hx:x > 127
  ·simp only [decide_eq_true hx,cond_true,fdiv128]
   rw [Int.pow_succ] at h1
   exact ih (x / 128) (by omega) (by omega)
  ·simp only [decide_eq_false hx,cond_false]
   exact ⟨h0,by omega⟩
theorem hiF_len (g:Int→Int) (k:Nat):∀ x:Int,(hiF g k x).1.length≤k:=by
 induction k with
 | zero=>intro x;simp [hiF]
 | succ k ih =>
  intro x
  simp only [hiF]
  cases decide (x > 127) with
  | true=>simp;exact ih _
  | false=>simp
noncomputable def gNum (x:Int):Int:=IntKind.wrap .u8 (ior .i64 (iand .i64 x (127:Int)) (128:Int))
noncomputable def gNum' (x:Int):Int:=IntKind.wrap .u8 (ior .i64 (128:Int) (iand .i64 x (127:Int)))
theorem gNum_same:gNum'=gNum:=by
 funext x
 simp only [gNum,gNum', ior]
 rw [BitVec.or_comm]
theorem nX_is:∃ f:Int→List Int×Int,∀ x,f x=hiF gNum 4 x:=⟨_,fun _=>rfl⟩
/-- The same, not to be unfolded. -/
noncomputable def nX:Int→List Int×Int:=Classical.choose nX_is
theorem nX_eq (x:Int):nX x=hiF gNum 4 x:=Classical.choose_spec nX_is x
theorem nX_eq' (x:Int):nX x=hiF gNum' 4 x:=by rw [gNum_same];exact nX_eq x
theorem nX_len (x:Int):(nX x).1.length≤4:=by rw [nX_eq];exact hiF_len gNum 4 x
/-- The bytes of a number. -/
noncomputable def numB (x:Int):List Int:=(nX x).1++[IntKind.wrap .u8 (nX x).2]
theorem numB_len (x:Int):(numB x).length≤5:=by
 have:=nX_len x
 simp [numB];omega
noncomputable def clampN (n:Int):Int:=if n > 1000000000 then 1000000000 else if n<0 then 0 else n
noncomputable def textB (s:ByteArray):List Int:=numB (s.size:Int)++strInts s
noncomputable def opB (o:Int×ByteArray×ByteArray):List Int:=numB (clampN o.1)++(textB o.2.1++textB o.2.2)
theorem clampN_of {n:Int} (h0:0≤n) (h1:n≤1000000000):clampN n=n:=by simp only [clampN];split<;>(try split)<;>omega
theorem strInts_len (s:ByteArray):(strInts s).length=s.size:=by rw [strInts,List.length_map,Array.length_toList];rfl
theorem textB_len (s:ByteArray):(textB s).length≤5+s.size:=by
 have:=numB_len (s.size:Int)
 simp [textB,strInts_len];omega

noncomputable def clampI (x:Int):Int:=if (if (1000000000:Int)<x then (1000000000:Int) else x) > (0:Int) then (if (1000000000:Int)<x then (1000000000:Int) else x) else (0:Int)
theorem clampI_eq (x:Int):clampI x=clampN x:=by
 simp only [clampI,clampN]
 split<;>split<;>(try split)<;>omega
theorem clampN_range (x:Int):0≤clampN x∧clampN x≤1000000000:=by
 simp only [clampN]
 split<;>(try split)<;>omega
theorem clampI_range (x:Int):0≤clampI x∧clampI x≤1000000000:=by rw [clampI_eq];exact clampN_range x

noncomputable def digB (x:Int):ByteArray:=(⟨([IntKind.wrap .u8 (IntKind.wrap .i64 ((48:Int)+(Int.tmod x (10:Int))))].map fun n=>UInt8.ofNat n.toNat).toArray⟩:ByteArray)
theorem digB_size (x:Int):(digB x).size=1:=rfl
/-- A number's digits. -/
noncomputable def txtN:Nat→Int→ByteArray→ByteArray
 | 0,_,s=>s
 | k+1,x,s=>cond (decide (x > 0)) (txtN k (IntKind.wrap .i64 (Int.tdiv x (10:Int))) (digB x++s)) s
theorem txtN_len:∀ (k:Nat) (x:Int) (s:ByteArray),(txtN k x s).size≤k+s.size:=by
 intro k
 induction k with
 | zero=>intro x s;simp [txtN]
 | succ k ih =>
  intro x s
  simp only [txtN]
  cases decide (x > 0) with
  | true =>
   have:=ih (IntKind.wrap .i64 (Int.tdiv x (10:Int))) (digB x++s)
   rw [ByteArray.size_append,digB_size] at this
   simp only [cond_true];omega
  | false=>simp only [cond_false];omega
theorem foldN_app {α:Type} (f:α→List Int) (d:α) (l:List α) (g:Nat→List Int→List Int) (hg:∀ i h,i<l.length→g i h=h++f (l.getD i d)):∀ k i h,i+k=l.length→foldN g k i h=h++((l.drop i).map f).flatten:=by
 intro k
 induction k with
 | zero =>
  intro i h hi
  have:l.drop i=[]:=List.drop_eq_nil_of_le (by omega)
  simp [foldN,this]
 | succ k ih =>
  intro i h hi
  have hlt:i<l.length:=by omega
  simp only [foldN]
  rw [ih (i+1) (g i h) (by omega),hg i h hlt,List.append_assoc,show l.drop i=l[i]::l.drop (i+1) from List.drop_eq_getElem_cons hlt,List.map_cons,List.flatten_cons,show l.getD i d=l[i] from by simp [List.getD_eq_getElem?_getD,hlt]]
theorem opB_len (o:Int×ByteArray×ByteArray):(opB o).length≤15+o.2.1.size+o.2.2.size:=by
 have h1:=numB_len (clampN o.1)
 have h2:=textB_len o.2.1
 have h3:=textB_len o.2.2
 simp only [opB,List.length_append];omega
theorem flat_len {M:Nat}:∀ l:Lq1,(∀ o∈l,(opB o).length≤M)→(l.map opB).flatten.length≤M*l.length:=by
 intro l
 induction l with
 | nil=>intro _;simp
 | cons o l ih =>
  intro h
  have h1:=h o (by simp)
  have h2:=ih fun x hx=>h x (by simp [hx])
  simp only [List.map_cons,List.flatten_cons,List.length_append,List.length_cons]
  rw [Nat.mul_add];omega
theorem okOps_mem {l:Lq1} (h:okOps l=true):∀ o∈l,o.2.1.size≤1048576∧o.2.2.size≤1048576:=by
 intro o ho
 simp only [okOps,Bool.and_eq_true,List.all_eq_true] at h
 have:=h.2 o ho
 simpa [okOp,okS] using this

noncomputable abbrev t_sy:Ty:=.sl (.int .u8)
noncomputable abbrev jS17:List Sh:=.junk::.junk::.junk::.junk::.junk::.junk::.junk::.junk::.junk::.junk::.junk::.junk::.junk::.junk::.junk::.junk::.junk::[]
noncomputable abbrev jS18:List Sh:=.junk::jS17
noncomputable abbrev u18:=((),(),(),(),(),(),(),(),(),(),(),(),(),(),(),(),(),())
noncomputable abbrev u23:=((),(),(),(),(),u18)
noncomputable def f_ltoByteS_0 (x0:List Int) (i:Nat):Int:=(x0.getD i (0:Int))
noncomputable abbrev P_ltoByteS:List PSh:=[.t t_sy]
noncomputable abbrev S_ltoByteS_0:SS:=⟨(.t false t_sy::.junk::.junk::.all 0 1::.t true (.int .i64)::jS17),[.rows 5 true (.int .u8)]⟩
noncomputable abbrev E_ltoByteS_0_0:SS:=⟨(.junk::.junk::.junk::.all 0 1::jS18),[.rows 5 true (.int .u8)]⟩
noncomputable def st_ltoByteS_0 (x0:List Int) (x4:Int) (h0:List Int):RT S_ltoByteS_0.den:=(.br (decide (x4<((x0.length:Nat):Int))) (.br (decide (0≤x4∧x4<((x0.length:Nat):Int))) (.br (decide (0≤x4∧x4<((h0.length:Nat):Int))) (.next ((x0,(),(),(),IntKind.wrap .i64 (x4+(1:Int)),u18),(h0.set x4.toNat (x0.getD x4.toNat (0:Int)),()))) .fail) .fail) (.done (.exit 0) E_ltoByteS_0_0 ((u23),(h0,()))))
noncomputable def T_ltoByteS_0 (x0:List Int) (x4:Int) (h0:List Int):CT:=(.br (decide (0≤x4)&&(decide (h0.length=x0.length)&&okL x0)) (.done (.exit 0) E_ltoByteS_0_0 ((u23),((foldN (fun i h=>h.set i (f_ltoByteS_0 x0 i)) (x0.length - x4.toNat) x4.toNat h0),()))) .fail)
noncomputable abbrev sp_ltoByteS_0:S_ltoByteS_0.den→RT S_ltoByteS_0.den:=(fun d=>st_ltoByteS_0 d.1.1 d.1.2.2.2.2.1 d.2.1)
noncomputable abbrev pk_ltoByteS_0 (x0:List Int) (x4:Int) (h0:List Int):S_ltoByteS_0.den:=((x0,(),(),(),x4,u18),(h0,()))
noncomputable def body_ltoByteS_0:Code:=((loopsIn 0 (bodyOf Try.f35)).getD 0 (0,.skip)).2
theorem R_ltoByteS_0 (x0:List Int) (x4:Int) (h0:List Int):(T_ltoByteS_0 x0 x4 h0).val (D:=S_ltoByteS_0.den)=.fail∨Runs sp_ltoByteS_0 (pk_ltoByteS_0 x0 x4 h0) (T_ltoByteS_0 x0 x4 h0).val:=by
 cases hc:(decide (0≤x4)&&(decide (h0.length=x0.length)&&okL x0)) with
 | false=>left;simp only [T_ltoByteS_0,CT.val,hc,cond_false]
 | true =>
  right
  simp only [T_ltoByteS_0,CT.val,hc,cond_true]
  simp only [Bool.and_eq_true,decide_eq_true_eq] at hc
  obtain ⟨i,rfl⟩:=Int.eq_ofNat_of_zero_le hc.1
  have hs:=okL_le hc.2.2
  simp only [Int.toNat_natCast]
  refine Runs.foldN (step:=sp_ltoByteS_0) (fun j b=>pk_ltoByteS_0 x0 (j:Int) b) (fun _ b=>b.length=x0.length) (x0.length) (fun i h=>h.set i (f_ltoByteS_0 x0 i))
   (fin:=fun b=>((.done (.exit 0) E_ltoByteS_0_0 ((u23),(b,()))):CT).val) (fun i b hi hb=>⟨by simpa using hb,?_⟩) (fun i b hi hb=>?_) (x0.length - i) i h0 rfl hc.2.1
  ·
   have h0a:decide ((i:Int)<((x0.length:Nat):Int))=true:=decide_eq_true (by omega)
   have h0b:decide (0≤(i:Int)∧(i:Int)<((x0.length:Nat):Int))=true:=decide_eq_true (by omega)
   have h9:decide (0≤(i:Int)∧(i:Int)<((b.length:Nat):Int))=true:=decide_eq_true (by omega)
   simp only [sp_ltoByteS_0,st_ltoByteS_0,RT.val,h0a,h0b,h9,cond_true,wrapS i (by omega),Int.toNat_natCast]
   rfl
  ·have h1:decide ((i:Int)<((x0.length:Nat):Int))=false:=decide_eq_false (by omega)
   exact ⟨by simp only [sp_ltoByteS_0,st_ltoByteS_0,RT.val,h1,cond_false];rfl,_,_,_,rfl,by simp⟩
theorem rdA_ltoByteS_0:RdA G0 (fun _ _=>none) 0 body_ltoByteS_0 S_ltoByteS_0 0 [] (kepts [] [(0,[3])]) (fun d=>(sp_ltoByteS_0 d).opt 0 []):=by
 intro d
 kernel_rfl
noncomputable abbrev say_ltoByteS_0:St→Option Tree:=S_ltoByteS_0.say 0 [] [] (fun d=>T_ltoByteS_0 d.1.1 d.1.2.2.2.2.1 d.2.1)
theorem lw_ltoByteS_0:LoopWp Try.prog say_ltoByteS_0 body_ltoByteS_0:=SS.wp2 hlz [] sp_ltoByteS_0 rdA_ltoByteS_0 (fun d=>rfl) _ (fun d=>R_ltoByteS_0 d.1.1 d.1.2.2.2.2.1 d.2.1)
noncomputable def ltoByteS (a0:List Int):List Int:=(foldN (fun i h=>h.set i (f_ltoByteS_0 a0 i)) (a0.length - (0:Int).toNat) (0:Int).toNat (List.replicate ((a0.length:Nat):Int).toNat (0:Int)))
noncomputable abbrev e_ltoByteS (r:List Int):AV×List AObj:=((.all 0 1),[(.rows 5 true (.int .u8) r)])
noncomputable abbrev g_ltoByteS:pshsDen P_ltoByteS→AV×List AObj:=fun d=>e_ltoByteS (ltoByteS d.1)
noncomputable def q_ltoByteS (a0:List Int):Bool:=okL a0
noncomputable abbrev pre_ltoByteS:pshsDen P_ltoByteS→Bool:=fun d=>q_ltoByteS d.1
noncomputable abbrev L_ltoByteS:Nat→St→Option Tree:=fun b=>match b with | 0=>say_ltoByteS_0 | _=>fun _=>none
theorem run_ltoByteS:RunP false G0 (L_ltoByteS) Try.f35 P_ltoByteS pre_ltoByteS g_ltoByteS:=by
 rintro ⟨a0,_⟩ hp
 change q_ltoByteS a0=true at hp
 unfold q_ltoByteS at hp
 refine Eq.trans (b:=(cond (decide (0≤((a0.length:Nat):Int)∧((a0.length:Nat):Int)=((a0.length:Nat):Int)∧((a0.length:Nat):Int).toNat*1≤MAXB∧((a0.length:Nat):Int)≤9223372036854775807)) (cond (decide (0≤(0:Int))&&(decide ((List.replicate ((a0.length:Nat):Int).toNat (0:Int)).length=a0.length)&&okL a0)) (some (e_ltoByteS (foldN (fun i h=>h.set i (f_ltoByteS_0 a0 i)) (a0.length - (0:Int).toNat) (0:Int).toNat (List.replicate ((a0.length:Nat):Int).toNat (0:Int))))) none) none)) (by kernel_rfl) ?_
 exact (cndT (by first | rfl | decide | exact hp | (simp only [Bool.and_eq_true] at hp;simp only [hp];done) | (simp [*];done) | (simp [okL] at hp;simp [okL,MAXB];omega) | (simp_all;done) | (simp at *;omega)) (fun _h=>(cndT (by first | rfl | decide | exact hp | (simp only [Bool.and_eq_true] at hp;simp only [hp];done) | (simp [*];done) | (simp [okL] at hp;simp [okL,MAXB];omega) | (simp_all;done) | (simp at *;omega)) (fun _h=>rfl))))
theorem c_ltoByteS:PContract Try.prog 35 (sumOf P_ltoByteS pre_ltoByteS g_ltoByteS):=pcD false G0 (hl1 (i:=0) (by kernel_rfl) lw_ltoByteS_0) run_ltoByteS
noncomputable def S1:Tab:=Tab.add S0 35 (lift (sumOf P_ltoByteS pre_ltoByteS g_ltoByteS))
noncomputable def QF1:FuncId→Bool:=QF0
theorem G1:Good Try.prog tt S1 QF1:=G0.add c_ltoByteS (cbl Try.f35) (by kernel_rfl)

noncomputable abbrev jS55:List Sh:=.junk::.junk::.junk::.junk::.junk::.junk::.junk::.junk::.junk::.junk::.junk::.junk::.junk::.junk::.junk::.junk::.junk::.junk::.junk::.junk::.junk::.junk::.junk::.junk::.junk::.junk::.junk::.junk::.junk::.junk::.junk::.junk::.junk::.junk::.junk::.junk::.junk::jS18
noncomputable abbrev jS57:List Sh:=.junk::.junk::jS55
noncomputable abbrev jS63:List Sh:=.junk::.junk::.junk::.junk::.junk::.junk::jS57
noncomputable abbrev u56:=((),(),(),(),(),(),(),(),(),(),(),(),(),(),(),(),(),(),(),(),(),(),(),(),(),(),(),(),(),(),(),(),(),u23)
noncomputable abbrev u58:=((),(),u56)
noncomputable abbrev u65:=((),(),(),(),(),(),(),u58)
noncomputable abbrev jA55:List AV:=.junk::.junk::.junk::.junk::.junk::.junk::.junk::.junk::.junk::.junk::.junk::.junk::.junk::.junk::.junk::.junk::.junk::.junk::.junk::.junk::.junk::.junk::.junk::.junk::.junk::.junk::.junk::.junk::.junk::.junk::.junk::.junk::.junk::.junk::.junk::.junk::.junk::.junk::.junk::.junk::.junk::.junk::.junk::.junk::.junk::.junk::.junk::.junk::.junk::.junk::.junk::.junk::.junk::.junk::.junk::[]
noncomputable abbrev jA57:List AV:=.junk::.junk::jA55
noncomputable abbrev jA63:List AV:=.junk::.junk::.junk::.junk::.junk::.junk::jA57
noncomputable abbrev P_sGetNum:List PSh:=[.t t_sy,.t (.int .i64)]
noncomputable abbrev S_sGetNum_0:SS:=⟨(.t false t_sy::.t true (.int .i64)::.junk::.junk::.junk::.junk::.junk::.t true (.int .i64)::.t true (.int .i64)::jS55),[]⟩
noncomputable abbrev E_sGetNum_0_0:SS:=⟨(.junk::.junk::.junk::.junk::.t true (.int .i64)::.t true (.int .i64)::.t true .bool::jS57),[]⟩
noncomputable abbrev E_sGetNum_0_1:SS:=⟨(.junk::jS63),[]⟩
noncomputable def st_sGetNum_0 (x0:List Int) (x1:Int) (x7:Int) (x8:Int):RT S_sGetNum_0.den:=(.br (decide (x8<(5:Int))) (.br (decide (x1 ≥ (0:Int))) (.br (decide (x1<((x0.length:Nat):Int))) (.br (decide ((IntKind.wrap .i64 (x1+x8))<((x0.length:Nat):Int))) (.br (decide (0≤(IntKind.wrap .i64 (x1+x8))∧(IntKind.wrap .i64 (x1+x8))<((x0.length:Nat):Int))) (.br (decide (0≤(IntKind.wrap .u64 (IntKind.wrap .i64 ((7:Int)*x8))))) (.br (decide ((IntKind.wrap .i64 (x0.getD ((IntKind.wrap .i64 (x1+x8)).toNat) (0:Int))) > (127:Int))) (.next ((x0,x1,(),(),(),(),(),ior .i64 x7 (IntKind.wrap .i64 ((iand .i64 (IntKind.wrap .i64 (x0.getD ((IntKind.wrap .i64 (x1+x8)).toNat) (0:Int))) (127:Int))*2 ^ (min (Int.toNat (IntKind.wrap .u64 (IntKind.wrap .i64 ((7:Int)*x8)))) (IntKind.bits .i64)))),IntKind.wrap .i64 (x8+(1:Int)),u56),())) (.br (decide (x8 > (0:Int))) (.br ((IntKind.wrap .i64 (x0.getD ((IntKind.wrap .i64 (x1+x8)).toNat) (0:Int)))==(0:Int)) (.done .ret E_sGetNum_0_0 (((),(),(),(),(0:Int),(0:Int),false,u58),())) (.br (decide ((ior .i64 x7 (IntKind.wrap .i64 ((iand .i64 (IntKind.wrap .i64 (x0.getD ((IntKind.wrap .i64 (x1+x8)).toNat) (0:Int))) (127:Int))*2 ^ (min (Int.toNat (IntKind.wrap .u64 (IntKind.wrap .i64 ((7:Int)*x8)))) (IntKind.bits .i64))))) > (1000000000:Int))) (.done .ret E_sGetNum_0_0 (((),(),(),(),(0:Int),(0:Int),false,u58),())) (.done .ret E_sGetNum_0_0 (((),(),(),(),ior .i64 x7 (IntKind.wrap .i64 ((iand .i64 (IntKind.wrap .i64 (x0.getD ((IntKind.wrap .i64 (x1+x8)).toNat) (0:Int))) (127:Int))*2 ^ (min (Int.toNat (IntKind.wrap .u64 (IntKind.wrap .i64 ((7:Int)*x8)))) (IntKind.bits .i64)))),IntKind.wrap .i64 ((IntKind.wrap .i64 (x1+x8))+(1:Int)),true,u58),())))) (.br (decide ((ior .i64 x7 (IntKind.wrap .i64 ((iand .i64 (IntKind.wrap .i64 (x0.getD ((IntKind.wrap .i64 (x1+x8)).toNat) (0:Int))) (127:Int))*2 ^ (min (Int.toNat (IntKind.wrap .u64 (IntKind.wrap .i64 ((7:Int)*x8)))) (IntKind.bits .i64))))) > (1000000000:Int))) (.done .ret E_sGetNum_0_0 (((),(),(),(),(0:Int),(0:Int),false,u58),())) (.done .ret E_sGetNum_0_0 (((),(),(),(),ior .i64 x7 (IntKind.wrap .i64 ((iand .i64 (IntKind.wrap .i64 (x0.getD ((IntKind.wrap .i64 (x1+x8)).toNat) (0:Int))) (127:Int))*2 ^ (min (Int.toNat (IntKind.wrap .u64 (IntKind.wrap .i64 ((7:Int)*x8)))) (IntKind.bits .i64)))),IntKind.wrap .i64 ((IntKind.wrap .i64 (x1+x8))+(1:Int)),true,u58),()))))) .fail) .fail) (.done (.exit 0) E_sGetNum_0_1 ((u65),()))) (.done (.exit 0) E_sGetNum_0_1 ((u65),()))) (.done (.exit 0) E_sGetNum_0_1 ((u65),()))) (.done (.exit 0) E_sGetNum_0_1 ((u65),())))
noncomputable abbrev V_sGetNum_0:=(List Int)×(Int)×(Int)×(Int)
noncomputable abbrev A_sGetNum_0:=Nat×(Int)×(Int)×(Bool)
noncomputable def fl_sGetNum_0:A_sGetNum_0:=(99,((0:Int):Int),((0:Int):Int),(false:Bool))
noncomputable def ss_sGetNum_0 (x0:List Int) (x1:Int) (x7:Int) (x8:Int):V_sGetNum_0 ⊕ A_sGetNum_0:=(cond (decide (x8<(5:Int))) (cond (decide (x1 ≥ (0:Int))) (cond (decide (x1<((x0.length:Nat):Int))) (cond (decide ((IntKind.wrap .i64 (x1+x8))<((x0.length:Nat):Int))) (cond (decide (0≤(IntKind.wrap .i64 (x1+x8))∧(IntKind.wrap .i64 (x1+x8))<((x0.length:Nat):Int))) (cond (decide (0≤(IntKind.wrap .u64 (IntKind.wrap .i64 ((7:Int)*x8))))) (cond (decide ((IntKind.wrap .i64 (x0.getD ((IntKind.wrap .i64 (x1+x8)).toNat) (0:Int))) > (127:Int))) (.inl (x0,x1,ior .i64 x7 (IntKind.wrap .i64 ((iand .i64 (IntKind.wrap .i64 (x0.getD ((IntKind.wrap .i64 (x1+x8)).toNat) (0:Int))) (127:Int))*2 ^ (min (Int.toNat (IntKind.wrap .u64 (IntKind.wrap .i64 ((7:Int)*x8)))) (IntKind.bits .i64)))),IntKind.wrap .i64 (x8+(1:Int)))) (cond (decide (x8 > (0:Int))) (cond ((IntKind.wrap .i64 (x0.getD ((IntKind.wrap .i64 (x1+x8)).toNat) (0:Int)))==(0:Int)) (.inr (0,(0:Int),(0:Int),false)) (cond (decide ((ior .i64 x7 (IntKind.wrap .i64 ((iand .i64 (IntKind.wrap .i64 (x0.getD ((IntKind.wrap .i64 (x1+x8)).toNat) (0:Int))) (127:Int))*2 ^ (min (Int.toNat (IntKind.wrap .u64 (IntKind.wrap .i64 ((7:Int)*x8)))) (IntKind.bits .i64))))) > (1000000000:Int))) (.inr (0,(0:Int),(0:Int),false)) (.inr (0,ior .i64 x7 (IntKind.wrap .i64 ((iand .i64 (IntKind.wrap .i64 (x0.getD ((IntKind.wrap .i64 (x1+x8)).toNat) (0:Int))) (127:Int))*2 ^ (min (Int.toNat (IntKind.wrap .u64 (IntKind.wrap .i64 ((7:Int)*x8)))) (IntKind.bits .i64)))),IntKind.wrap .i64 ((IntKind.wrap .i64 (x1+x8))+(1:Int)),true)))) (cond (decide ((ior .i64 x7 (IntKind.wrap .i64 ((iand .i64 (IntKind.wrap .i64 (x0.getD ((IntKind.wrap .i64 (x1+x8)).toNat) (0:Int))) (127:Int))*2 ^ (min (Int.toNat (IntKind.wrap .u64 (IntKind.wrap .i64 ((7:Int)*x8)))) (IntKind.bits .i64))))) > (1000000000:Int))) (.inr (0,(0:Int),(0:Int),false)) (.inr (0,ior .i64 x7 (IntKind.wrap .i64 ((iand .i64 (IntKind.wrap .i64 (x0.getD ((IntKind.wrap .i64 (x1+x8)).toNat) (0:Int))) (127:Int))*2 ^ (min (Int.toNat (IntKind.wrap .u64 (IntKind.wrap .i64 ((7:Int)*x8)))) (IntKind.bits .i64)))),IntKind.wrap .i64 ((IntKind.wrap .i64 (x1+x8))+(1:Int)),true))))) (.inr fl_sGetNum_0)) (.inr fl_sGetNum_0)) (.inr (1,((0:Int):Int),((0:Int):Int),(false:Bool)))) (.inr (1,((0:Int):Int),((0:Int):Int),(false:Bool)))) (.inr (1,((0:Int):Int),((0:Int):Int),(false:Bool)))) (.inr (1,((0:Int):Int),((0:Int):Int),(false:Bool))))
noncomputable def it_sGetNum_0 (x0:List Int) (x1:Int) (x7:Int) (x8:Int):A_sGetNum_0:=itX (fun v:V_sGetNum_0=>ss_sGetNum_0 v.1 v.2.1 v.2.2.1 v.2.2.2) fl_sGetNum_0 (x0,x1,x7,x8)
noncomputable def ct_sGetNum_0 (a:A_sGetNum_0):CT:=(.br (a.1==0) (.done .ret E_sGetNum_0_0 (((),(),(),(),a.2.1,a.2.2.1,a.2.2.2,u58),())) (.br (a.1==1) (.done (.exit 0) E_sGetNum_0_1 ((u65),())) .fail))
noncomputable def T_sGetNum_0 (x0:List Int) (x1:Int) (x7:Int) (x8:Int):CT:=ct_sGetNum_0 (it_sGetNum_0 x0 x1 x7 x8)
noncomputable abbrev ap_sGetNum_0 {α:Sort _} (f:(List Int)→Int→Int→Int→α) (d:S_sGetNum_0.den):α:=f d.1.1 d.1.2.1 d.1.2.2.2.2.2.2.2.1 d.1.2.2.2.2.2.2.2.2.1
noncomputable abbrev sp_sGetNum_0:S_sGetNum_0.den→RT S_sGetNum_0.den:=(ap_sGetNum_0 st_sGetNum_0)
noncomputable def body_sGetNum_0:Code:=((loopsIn 0 (bodyOf Try.f83)).getD 0 (0,.skip)).2
noncomputable abbrev pv_sGetNum_0 (v:V_sGetNum_0):S_sGetNum_0.den:=((v.1,v.2.1,(),(),(),(),(),v.2.2.1,v.2.2.2,u56),())
theorem rl_sGetNum_0:(∀ v:V_sGetNum_0,(st_sGetNum_0 v.1 v.2.1 v.2.2.1 v.2.2.2).val=relS pv_sGetNum_0 ct_sGetNum_0 (ss_sGetNum_0 v.1 v.2.1 v.2.2.1 v.2.2.2))∧∀ a:A_sGetNum_0,CEnd S_sGetNum_0.den (ct_sGetNum_0 a):=⟨fun v=>by repeat' first | apply relB | rfl,fun a=>(cendB (cendD (by simp)) (cendB (cendD (by simp)) cendF))⟩
noncomputable def ox_sGetNum_0 (x0:List Int) (x1:Int) (x7:Int) (x8:Int):Option (Ex×St):=(cond (decide (x8<(5:Int))) (cond (decide (x1 ≥ (0:Int))) (cond (decide (x1<((x0.length:Nat):Int))) (cond (decide ((IntKind.wrap .i64 (x1+x8))<((x0.length:Nat):Int))) (cond (decide (0≤(IntKind.wrap .i64 (x1+x8))∧(IntKind.wrap .i64 (x1+x8))<((x0.length:Nat):Int))) (cond (decide (0≤(IntKind.wrap .u64 (IntKind.wrap .i64 ((7:Int)*x8))))) (cond (decide ((IntKind.wrap .i64 (x0.getD ((IntKind.wrap .i64 (x1+x8)).toNat) (0:Int))) > (127:Int))) (some (.normal,(⟨((.t false t_sy x0)::(.t true (.int .i64) x1)::.junk::.junk::.junk::.junk::.junk::(.t true (.int .i64) (ior .i64 x7 (IntKind.wrap .i64 ((iand .i64 (IntKind.wrap .i64 (x0.getD ((IntKind.wrap .i64 (x1+x8)).toNat) (0:Int))) (127:Int))*2 ^ (min (Int.toNat (IntKind.wrap .u64 (IntKind.wrap .i64 ((7:Int)*x8)))) (IntKind.bits .i64))))))::(.t true (.int .i64) (IntKind.wrap .i64 (x8+(1:Int))))::jA55),[],0,[]⟩:St))) (cond (decide (x8 > (0:Int))) (cond ((IntKind.wrap .i64 (x0.getD ((IntKind.wrap .i64 (x1+x8)).toNat) (0:Int)))==(0:Int)) (some (.ret,(⟨(.junk::.junk::.junk::.junk::(.t true (.int .i64) (0:Int))::(.t true (.int .i64) (0:Int))::(.t true .bool false)::jA57),[],0,[]⟩:St))) (cond (decide ((ior .i64 x7 (IntKind.wrap .i64 ((iand .i64 (IntKind.wrap .i64 (x0.getD ((IntKind.wrap .i64 (x1+x8)).toNat) (0:Int))) (127:Int))*2 ^ (min (Int.toNat (IntKind.wrap .u64 (IntKind.wrap .i64 ((7:Int)*x8)))) (IntKind.bits .i64))))) > (1000000000:Int))) (some (.ret,(⟨(.junk::.junk::.junk::.junk::(.t true (.int .i64) (0:Int))::(.t true (.int .i64) (0:Int))::(.t true .bool false)::jA57),[],0,[]⟩:St))) (some (.ret,(⟨(.junk::.junk::.junk::.junk::(.t true (.int .i64) (ior .i64 x7 (IntKind.wrap .i64 ((iand .i64 (IntKind.wrap .i64 (x0.getD ((IntKind.wrap .i64 (x1+x8)).toNat) (0:Int))) (127:Int))*2 ^ (min (Int.toNat (IntKind.wrap .u64 (IntKind.wrap .i64 ((7:Int)*x8)))) (IntKind.bits .i64))))))::(.t true (.int .i64) (IntKind.wrap .i64 ((IntKind.wrap .i64 (x1+x8))+(1:Int))))::(.t true .bool true)::jA57),[],0,[]⟩:St))))) (cond (decide ((ior .i64 x7 (IntKind.wrap .i64 ((iand .i64 (IntKind.wrap .i64 (x0.getD ((IntKind.wrap .i64 (x1+x8)).toNat) (0:Int))) (127:Int))*2 ^ (min (Int.toNat (IntKind.wrap .u64 (IntKind.wrap .i64 ((7:Int)*x8)))) (IntKind.bits .i64))))) > (1000000000:Int))) (some (.ret,(⟨(.junk::.junk::.junk::.junk::(.t true (.int .i64) (0:Int))::(.t true (.int .i64) (0:Int))::(.t true .bool false)::jA57),[],0,[]⟩:St))) (some (.ret,(⟨(.junk::.junk::.junk::.junk::(.t true (.int .i64) (ior .i64 x7 (IntKind.wrap .i64 ((iand .i64 (IntKind.wrap .i64 (x0.getD ((IntKind.wrap .i64 (x1+x8)).toNat) (0:Int))) (127:Int))*2 ^ (min (Int.toNat (IntKind.wrap .u64 (IntKind.wrap .i64 ((7:Int)*x8)))) (IntKind.bits .i64))))))::(.t true (.int .i64) (IntKind.wrap .i64 ((IntKind.wrap .i64 (x1+x8))+(1:Int))))::(.t true .bool true)::jA57),[],0,[]⟩:St)))))) none) none) (some ((.exit 0),(⟨(.junk::jA63),[],0,[]⟩:St)))) (some ((.exit 0),(⟨(.junk::jA63),[],0,[]⟩:St)))) (some ((.exit 0),(⟨(.junk::jA63),[],0,[]⟩:St)))) (some ((.exit 0),(⟨(.junk::jA63),[],0,[]⟩:St))))
theorem rdA_sGetNum_0:RdA G1 (fun _ _=>none) 0 body_sGetNum_0 S_sGetNum_0 0 [] (kepts [4,5,6] [(0,[])]) (ap_sGetNum_0 ox_sGetNum_0):=by
 intro d
 kernel_rfl
theorem rdB_sGetNum_0:∀ d:S_sGetNum_0.den,(ap_sGetNum_0 ox_sGetNum_0) d=(sp_sGetNum_0 d).opt 0 []:=by
 intro d
 kernel_rfl
noncomputable abbrev say_sGetNum_0:St→Option Tree:=S_sGetNum_0.say 0 [] [] (ap_sGetNum_0 T_sGetNum_0)
theorem lw_sGetNum_0:LoopWp Try.prog say_sGetNum_0 body_sGetNum_0:=SS.wp2 hlz [] sp_sGetNum_0 rdA_sGetNum_0 rdB_sGetNum_0 _ (fun d=>Runs.ofI2 (step:=sp_sGetNum_0) pv_sGetNum_0 rl_sGetNum_0 rfl (d.1.1,d.1.2.1,d.1.2.2.2.2.2.2.2.1,d.1.2.2.2.2.2.2.2.2.1))
noncomputable def sGetNum (a0:List Int) (a1:Int):Int×Int×Bool:=(cond ((it_sGetNum_0 a0 a1 (0:Int) (0:Int)).1==0) (((it_sGetNum_0 a0 a1 (0:Int) (0:Int)).2.1),((it_sGetNum_0 a0 a1 (0:Int) (0:Int)).2.2.1),((it_sGetNum_0 a0 a1 (0:Int) (0:Int)).2.2.2)) ((0:Int),(0:Int),false))
noncomputable abbrev e_sGetNum (r:Int×Int×Bool):AV×List AObj:=((.tup [(.t true (.int .i64) r.1),(.t true (.int .i64) r.2.1),(.t true .bool r.2.2)]),[])
noncomputable abbrev g_sGetNum:pshsDen P_sGetNum→AV×List AObj:=fun d=>e_sGetNum (sGetNum d.1 d.2.1)
noncomputable def q_sGetNum (a0:List Int) (a1:Int):Bool:=cond ((it_sGetNum_0 a0 a1 (0:Int) (0:Int)).1==0) true ((it_sGetNum_0 a0 a1 (0:Int) (0:Int)).1==1)
noncomputable abbrev pre_sGetNum:pshsDen P_sGetNum→Bool:=fun d=>q_sGetNum d.1 d.2.1
noncomputable abbrev L_sGetNum:Nat→St→Option Tree:=fun b=>match b with | 0=>say_sGetNum_0 | _=>fun _=>none
theorem run_sGetNum:RunP true G1 (L_sGetNum) Try.f83 P_sGetNum pre_sGetNum g_sGetNum:=by
 rintro ⟨a0,⟨a1,_⟩⟩ hp
 change q_sGetNum a0 a1=true at hp
 unfold q_sGetNum at hp
 refine Eq.trans (b:=(cond ((it_sGetNum_0 a0 a1 (0:Int) (0:Int)).1==0) (some (e_sGetNum (((it_sGetNum_0 a0 a1 (0:Int) (0:Int)).2.1),((it_sGetNum_0 a0 a1 (0:Int) (0:Int)).2.2.1),((it_sGetNum_0 a0 a1 (0:Int) (0:Int)).2.2.2)))) (cond ((it_sGetNum_0 a0 a1 (0:Int) (0:Int)).1==1) (some (e_sGetNum ((0:Int),(0:Int),false))) none))) (by kernel_rfl) ?_
 exact (cndE e_sGetNum hp (fun hp=>rfl) (fun hp=>(cndT hp fun _h=>rfl)))
theorem c_sGetNum:PContract Try.prog 83 (sumOf P_sGetNum pre_sGetNum g_sGetNum):=pcD true G1 (hl1 (i:=0) (by kernel_rfl) lw_sGetNum_0) run_sGetNum
noncomputable def S2:Tab:=Tab.add S1 83 (lift (sumOf P_sGetNum pre_sGetNum g_sGetNum))
noncomputable def QF2:FuncId→Bool:=qadd QF1 83
theorem G2:Good Try.prog tt S2 QF2:=G1.addQ c_sGetNum (cbl Try.f83) (fun _=>rfl)

noncomputable abbrev jS30:List Sh:=.junk::.junk::.junk::.junk::.junk::.junk::.junk::.junk::.junk::.junk::.junk::.junk::jS18
noncomputable abbrev u34:=((),(),(),(),(),(),(),(),(),(),(),u23)
noncomputable abbrev jA30:List AV:=.junk::.junk::.junk::.junk::.junk::.junk::.junk::.junk::.junk::.junk::.junk::.junk::.junk::.junk::.junk::.junk::.junk::.junk::.junk::.junk::.junk::.junk::.junk::.junk::.junk::.junk::.junk::.junk::.junk::.junk::[]
noncomputable abbrev jS28:List Sh:=.junk::.junk::.junk::.junk::.junk::.junk::.junk::.junk::.junk::.junk::jS18
noncomputable abbrev u29:=((),(),(),(),(),(),u23)
noncomputable abbrev u35:=((),u34)
noncomputable abbrev jA28:List AV:=.junk::.junk::.junk::.junk::.junk::.junk::.junk::.junk::.junk::.junk::.junk::.junk::.junk::.junk::.junk::.junk::.junk::.junk::.junk::.junk::.junk::.junk::.junk::.junk::.junk::.junk::.junk::.junk::[]
noncomputable abbrev P_sPadded:List PSh:=[.t t_sy]
noncomputable def body_sPadded_0:Code:=((loopsIn 0 (bodyOf Try.f109)).getD 0 (0,.skip)).2
noncomputable def body_sPadded_1:Code:=((loopsIn 0 (bodyOf Try.f109)).getD 1 (0,.skip)).2
noncomputable abbrev S_sPadded_0:SS:=⟨(.t false t_sy::.junk::.junk::.all 0 1::jS30),[.rows 5 true (.int .u8)]⟩
noncomputable abbrev E_sPadded_0_0:SS:=⟨(.t false t_sy::.junk::.junk::.all 0 1::jS30),[.rows 5 true (.int .u8)]⟩
noncomputable def st_sPadded_0 (x0:List Int) (h0:List Int):RT S_sPadded_0.den:=(.br ((Int.tmod ((h0.length:Nat):Int) (64:Int)) != (56:Int)) (.br (decide ((h0.length+[(0:Int)].length)*1≤MAXB)) (.next ((x0,u34),(h0++[(0:Int)],()))) .fail) (.done (.exit 0) E_sPadded_0_0 ((x0,u34),(h0,()))))
noncomputable abbrev V_sPadded_0:=(List Int)×(List Int)
noncomputable abbrev A_sPadded_0:=Nat×(List Int)×(List Int)
noncomputable def fl_sPadded_0:A_sPadded_0:=(99,([]:List Int),([]:List Int))
noncomputable def ss_sPadded_0 (x0:List Int) (h0:List Int):V_sPadded_0 ⊕ A_sPadded_0:=(cond ((Int.tmod ((h0.length:Nat):Int) (64:Int)) != (56:Int)) (cond (decide ((h0.length+[(0:Int)].length)*1≤MAXB)) (.inl (x0,h0++[(0:Int)])) (.inr fl_sPadded_0)) (.inr (0,x0,h0)))
noncomputable def it_sPadded_0 (x0:List Int) (h0:List Int):A_sPadded_0:=itX (fun v:V_sPadded_0=>ss_sPadded_0 v.1 v.2) fl_sPadded_0 (x0,h0)
noncomputable def ct_sPadded_0 (a:A_sPadded_0):CT:=(.br (a.1==0) (.done (.exit 0) E_sPadded_0_0 ((a.2.1,u34),(a.2.2,()))) .fail)
noncomputable def T_sPadded_0 (x0:List Int) (h0:List Int):CT:=ct_sPadded_0 (it_sPadded_0 x0 h0)
noncomputable abbrev sp_sPadded_0:S_sPadded_0.den→RT S_sPadded_0.den:=(fun d=>st_sPadded_0 d.1.1 d.2.1)
noncomputable abbrev pv_sPadded_0 (v:V_sPadded_0):S_sPadded_0.den:=((v.1,u34),(v.2,()))
theorem rl_sPadded_0:(∀ v:V_sPadded_0,(st_sPadded_0 v.1 v.2).val=relS pv_sPadded_0 ct_sPadded_0 (ss_sPadded_0 v.1 v.2))∧∀ a:A_sPadded_0,CEnd S_sPadded_0.den (ct_sPadded_0 a):=⟨fun v=>(relB (relB rfl rfl) rfl),fun a=>(cendB (cendD (by simp)) cendF)⟩
noncomputable def ox_sPadded_0 (x0:List Int) (h0:List Int):Option (Ex×St):=(cond ((Int.tmod ((h0.length:Nat):Int) (64:Int)) != (56:Int)) (cond (decide ((h0.length+[(0:Int)].length)*1≤MAXB)) (some (.normal,(⟨((.t false t_sy x0)::.junk::.junk::(.all 0 1)::jA30),[(.rows 5 true (.int .u8) (h0++[(0:Int)]))],0,[]⟩:St))) none) (some ((.exit 0),(⟨((.t false t_sy x0)::.junk::.junk::(.all 0 1)::jA30),[(.rows 5 true (.int .u8) h0)],0,[]⟩:St))))
theorem rdA_sPadded_0:RdA G2 (fun _ _=>none) 0 body_sPadded_0 S_sPadded_0 0 [] (kepts [] [(0,[0,3])]) (fun d=>ox_sPadded_0 d.1.1 d.2.1):=by
 intro d
 kernel_rfl
theorem rdB_sPadded_0:∀ d:S_sPadded_0.den,(fun d=>ox_sPadded_0 d.1.1 d.2.1) d=(sp_sPadded_0 d).opt 0 []:=by
 intro d
 kernel_rfl
noncomputable abbrev say_sPadded_0:St→Option Tree:=S_sPadded_0.say 0 [] [] (fun d=>T_sPadded_0 d.1.1 d.2.1)
theorem lw_sPadded_0:LoopWp Try.prog say_sPadded_0 body_sPadded_0:=SS.wp2 hlz [] sp_sPadded_0 rdA_sPadded_0 rdB_sPadded_0 _ (fun d=>Runs.ofI2 (step:=sp_sPadded_0) pv_sPadded_0 rl_sPadded_0 rfl (d.1.1,d.2.1))
noncomputable abbrev S_sPadded_1:SS:=⟨(.junk::.junk::.junk::.all 0 1::.t true (.int .i64)::.t true (.int .i64)::jS28),[.rows 5 true (.int .u8)]⟩
noncomputable abbrev E_sPadded_1_0:SS:=⟨(.junk::.junk::.junk::.all 0 1::jS30),[.rows 5 true (.int .u8)]⟩
noncomputable def st_sPadded_1 (x4:Int) (x5:Int) (h0:List Int):RT S_sPadded_1.den:=(.br (decide (x5 ≥ (0:Int))) (.br (decide (0≤(IntKind.wrap .u64 x5))) (.br (decide ((h0.length+[IntKind.wrap .u8 (Int.fdiv x4 (2 ^ (min (Int.toNat (IntKind.wrap .u64 x5)) (IntKind.bits .i64))))].length)*1≤MAXB)) (.next (((),(),(),(),x4,IntKind.wrap .i64 (x5 - (8:Int)),u29),(h0++[IntKind.wrap .u8 (Int.fdiv x4 (2 ^ (min (Int.toNat (IntKind.wrap .u64 x5)) (IntKind.bits .i64))))],()))) .fail) .fail) (.done (.exit 2) E_sPadded_1_0 ((u35),(h0,()))))
noncomputable abbrev V_sPadded_1:=(Int)×(Int)×(List Int)
noncomputable abbrev A_sPadded_1:=Nat×(List Int)
noncomputable def fl_sPadded_1:A_sPadded_1:=(99,([]:List Int))
noncomputable def ss_sPadded_1 (x4:Int) (x5:Int) (h0:List Int):V_sPadded_1 ⊕ A_sPadded_1:=(cond (decide (x5 ≥ (0:Int))) (cond (decide (0≤(IntKind.wrap .u64 x5))) (cond (decide ((h0.length+[IntKind.wrap .u8 (Int.fdiv x4 (2 ^ (min (Int.toNat (IntKind.wrap .u64 x5)) (IntKind.bits .i64))))].length)*1≤MAXB)) (.inl (x4,IntKind.wrap .i64 (x5 - (8:Int)),h0++[IntKind.wrap .u8 (Int.fdiv x4 (2 ^ (min (Int.toNat (IntKind.wrap .u64 x5)) (IntKind.bits .i64))))])) (.inr fl_sPadded_1)) (.inr fl_sPadded_1)) (.inr (0,h0)))
noncomputable def it_sPadded_1 (x4:Int) (x5:Int) (h0:List Int):A_sPadded_1:=itX (fun v:V_sPadded_1=>ss_sPadded_1 v.1 v.2.1 v.2.2) fl_sPadded_1 (x4,x5,h0)
noncomputable def ct_sPadded_1 (a:A_sPadded_1):CT:=(.br (a.1==0) (.done (.exit 2) E_sPadded_1_0 ((u35),(a.2,()))) .fail)
noncomputable def T_sPadded_1 (x4:Int) (x5:Int) (h0:List Int):CT:=ct_sPadded_1 (it_sPadded_1 x4 x5 h0)
noncomputable abbrev sp_sPadded_1:S_sPadded_1.den→RT S_sPadded_1.den:=(fun d=>st_sPadded_1 d.1.2.2.2.2.1 d.1.2.2.2.2.2.1 d.2.1)
noncomputable abbrev pv_sPadded_1 (v:V_sPadded_1):S_sPadded_1.den:=(((),(),(),(),v.1,v.2.1,u29),(v.2.2,()))
theorem rl_sPadded_1:(∀ v:V_sPadded_1,(st_sPadded_1 v.1 v.2.1 v.2.2).val=relS pv_sPadded_1 ct_sPadded_1 (ss_sPadded_1 v.1 v.2.1 v.2.2))∧∀ a:A_sPadded_1,CEnd S_sPadded_1.den (ct_sPadded_1 a):=⟨fun v=>(relB (relB (relB rfl rfl) rfl) rfl),fun a=>(cendB (cendD (by simp)) cendF)⟩
noncomputable def ox_sPadded_1 (x4:Int) (x5:Int) (h0:List Int):Option (Ex×St):=(cond (decide (x5 ≥ (0:Int))) (cond (decide (0≤(IntKind.wrap .u64 x5))) (cond (decide ((h0.length+[IntKind.wrap .u8 (Int.fdiv x4 (2 ^ (min (Int.toNat (IntKind.wrap .u64 x5)) (IntKind.bits .i64))))].length)*1≤MAXB)) (some (.normal,(⟨(.junk::.junk::.junk::(.all 0 1)::(.t true (.int .i64) x4)::(.t true (.int .i64) (IntKind.wrap .i64 (x5 - (8:Int))))::jA28),[(.rows 5 true (.int .u8) (h0++[IntKind.wrap .u8 (Int.fdiv x4 (2 ^ (min (Int.toNat (IntKind.wrap .u64 x5)) (IntKind.bits .i64))))]))],0,[]⟩:St))) none) none) (some ((.exit 2),(⟨(.junk::.junk::.junk::(.all 0 1)::jA30),[(.rows 5 true (.int .u8) h0)],0,[]⟩:St))))
theorem rdA_sPadded_1:RdA G2 (fun _ _=>none) 2 body_sPadded_1 S_sPadded_1 0 [] (kepts [] [(2,[3])]) (fun d=>ox_sPadded_1 d.1.2.2.2.2.1 d.1.2.2.2.2.2.1 d.2.1):=by
 intro d
 kernel_rfl
theorem rdB_sPadded_1:∀ d:S_sPadded_1.den,(fun d=>ox_sPadded_1 d.1.2.2.2.2.1 d.1.2.2.2.2.2.1 d.2.1) d=(sp_sPadded_1 d).opt 0 []:=by
 intro d
 kernel_rfl
noncomputable abbrev say_sPadded_1:St→Option Tree:=S_sPadded_1.say 0 [] [] (fun d=>T_sPadded_1 d.1.2.2.2.2.1 d.1.2.2.2.2.2.1 d.2.1)
theorem lw_sPadded_1:LoopWp Try.prog say_sPadded_1 body_sPadded_1:=SS.wp2 hlz [] sp_sPadded_1 rdA_sPadded_1 rdB_sPadded_1 _ (fun d=>Runs.ofI2 (step:=sp_sPadded_1) pv_sPadded_1 rl_sPadded_1 rfl (d.1.2.2.2.2.1,d.1.2.2.2.2.2.1,d.2.1))
noncomputable def k1_sPadded (a0:List Int):=it_sPadded_1 (IntKind.wrap .i64 (((((it_sPadded_0 a0 ((([]:List Int)++a0)++[(128:Int)])).2.1).length:Nat):Int)*(8:Int))) (56:Int) ((it_sPadded_0 a0 ((([]:List Int)++a0)++[(128:Int)])).2.2)
noncomputable def sPadded (a0:List Int):List Int:=((k1_sPadded a0).2)
noncomputable abbrev e_sPadded (r:List Int):AV×List AObj:=((.t true t_sy r),[])
noncomputable abbrev g_sPadded:pshsDen P_sPadded→AV×List AObj:=fun d=>e_sPadded (sPadded d.1)
noncomputable def q_sPadded (a0:List Int):Bool:=(decide ((([]:List Int).length+a0.length)*1≤MAXB))&&((decide (((([]:List Int)++a0).length+[(128:Int)].length)*1≤MAXB))&&(((it_sPadded_0 a0 ((([]:List Int)++a0)++[(128:Int)])).1==0)&&((k1_sPadded a0).1==0)))
noncomputable abbrev pre_sPadded:pshsDen P_sPadded→Bool:=fun d=>q_sPadded d.1
noncomputable abbrev L_sPadded:Nat→St→Option Tree:=fun b=>match b with | 0=>say_sPadded_0 | 2=>say_sPadded_1 | _=>fun _=>none
theorem run_sPadded:RunP true G2 (L_sPadded) Try.f109 P_sPadded pre_sPadded g_sPadded:=by
 rintro ⟨a0,_⟩ hp
 change q_sPadded a0=true at hp
 unfold q_sPadded at hp
 refine Eq.trans (b:=(cond (decide ((([]:List Int).length+a0.length)*1≤MAXB)) (cond (decide (((([]:List Int)++a0).length+[(128:Int)].length)*1≤MAXB)) (cond ((it_sPadded_0 a0 ((([]:List Int)++a0)++[(128:Int)])).1==0) (cond ((k1_sPadded a0).1==0) (some (e_sPadded ((k1_sPadded a0).2))) none) none) none) none)) (by kernel_rfl) ?_
 exact (cndA hp fun hp=>(cndA hp fun hp=>(cndA hp fun hp=>(cndT hp fun _h=>rfl))))
theorem c_sPadded:PContract Try.prog 109 (sumOf P_sPadded pre_sPadded g_sPadded):=pcD true G2 (by
  rw [show loopsIn 0 (bodyOf Try.f109)=[(0,body_sPadded_0),(2,body_sPadded_1)] by kernel_rfl];intro p hp;simp only [List.mem_cons,List.mem_nil_iff,or_false] at hp
  rcases hp with rfl | rfl
  ·exact lw_sPadded_0
  ·exact lw_sPadded_1) run_sPadded
noncomputable def S3:Tab:=Tab.add S2 109 (lift (sumOf P_sPadded pre_sPadded g_sPadded))
noncomputable def QF3:FuncId→Bool:=qadd QF2 109
theorem G3:Good Try.prog tt S3 QF3:=G2.addQ c_sPadded (cbl Try.f109) (fun _=>rfl)

noncomputable abbrev t_si:Ty:=.sl (.int .i64)
noncomputable abbrev P_sl2K:List PSh:=[]
noncomputable def sl2K :List Int:=[(1116352408:Int),(1899447441:Int),(3049323471:Int),(3921009573:Int),(961987163:Int),(1508970993:Int),(2453635748:Int),(2870763221:Int),(3624381080:Int),(310598401:Int),(607225278:Int),(1426881987:Int),(1925078388:Int),(2162078206:Int),(2614888103:Int),(3248222580:Int),(3835390401:Int),(4022224774:Int),(264347078:Int),(604807628:Int),(770255983:Int),(1249150122:Int),(1555081692:Int),(1996064986:Int),(2554220882:Int),(2821834349:Int),(2952996808:Int),(3210313671:Int),(3336571891:Int),(3584528711:Int),(113926993:Int),(338241895:Int),(666307205:Int),(773529912:Int),(1294757372:Int),(1396182291:Int),(1695183700:Int),(1986661051:Int),(2177026350:Int),(2456956037:Int),(2730485921:Int),(2820302411:Int),(3259730800:Int),(3345764771:Int),(3516065817:Int),(3600352804:Int),(4094571909:Int),(275423344:Int),(430227734:Int),(506948616:Int),(659060556:Int),(883997877:Int),(958139571:Int),(1322822218:Int),(1537002063:Int),(1747873779:Int),(1955562222:Int),(2024104815:Int),(2227730452:Int),(2361852424:Int),(2428436474:Int),(2756734187:Int),(3204031479:Int),(3329325298:Int)]
noncomputable abbrev e_sl2K (r:List Int):AV×List AObj:=((.t true t_si r),[])
noncomputable abbrev g_sl2K:pshsDen P_sl2K→AV×List AObj:=fun d=>e_sl2K (sl2K )
noncomputable abbrev pre_sl2K:pshsDen P_sl2K→Bool:=fun d=>true
theorem run_sl2K:RunP true G3 (fun _ _=>none) Try.f110 P_sl2K pre_sl2K g_sl2K:=by
 rintro _ hp
 kernel_rfl
theorem c_sl2K:PContract Try.prog 110 (sumOf P_sl2K pre_sl2K g_sl2K):=pcD true G3 hlz run_sl2K
noncomputable def S4:Tab:=Tab.add S3 110 (lift (sumOf P_sl2K pre_sl2K g_sl2K))
noncomputable def QF4:FuncId→Bool:=qadd QF3 110
theorem G4:Good Try.prog tt S4 QF4:=G3.addQ c_sl2K (cbl Try.f110) (fun _=>rfl)

noncomputable abbrev P_sl2Turn:List PSh:=[.t (.int .i64),.t (.int .i64)]
noncomputable def sl2Turn (a0:Int) (a1:Int):Int:=(iand .i64 (ior .i64 (Int.fdiv a0 (2 ^ (min (Int.toNat (IntKind.wrap .u64 a1)) (IntKind.bits .i64)))) (IntKind.wrap .i64 (a0*2 ^ (min (Int.toNat (IntKind.wrap .u64 (IntKind.wrap .i64 ((32:Int) - a1)))) (IntKind.bits .i64))))) (4294967295:Int))
noncomputable abbrev e_sl2Turn (r:Int):AV×List AObj:=((.t true (.int .i64) r),[])
noncomputable abbrev g_sl2Turn:pshsDen P_sl2Turn→AV×List AObj:=fun d=>e_sl2Turn (sl2Turn d.1 d.2.1)
noncomputable def q_sl2Turn (a0:Int) (a1:Int):Bool:=(decide (0≤(IntKind.wrap .u64 a1)))&&(decide (0≤(IntKind.wrap .u64 (IntKind.wrap .i64 ((32:Int) - a1)))))
noncomputable abbrev pre_sl2Turn:pshsDen P_sl2Turn→Bool:=fun d=>q_sl2Turn d.1 d.2.1
theorem run_sl2Turn:RunP true G4 (fun _ _=>none) Try.f146 P_sl2Turn pre_sl2Turn g_sl2Turn:=by
 rintro ⟨a0,⟨a1,_⟩⟩ hp
 change q_sl2Turn a0 a1=true at hp
 unfold q_sl2Turn at hp
 refine Eq.trans (b:=(cond (decide (0≤(IntKind.wrap .u64 a1))) (cond (decide (0≤(IntKind.wrap .u64 (IntKind.wrap .i64 ((32:Int) - a1))))) (some (e_sl2Turn (iand .i64 (ior .i64 (Int.fdiv a0 (2 ^ (min (Int.toNat (IntKind.wrap .u64 a1)) (IntKind.bits .i64)))) (IntKind.wrap .i64 (a0*2 ^ (min (Int.toNat (IntKind.wrap .u64 (IntKind.wrap .i64 ((32:Int) - a1)))) (IntKind.bits .i64))))) (4294967295:Int)))) none) none)) (by kernel_rfl) ?_
 exact (cndA hp fun hp=>(cndT hp fun _h=>rfl))
theorem c_sl2Turn:PContract Try.prog 146 (sumOf P_sl2Turn pre_sl2Turn g_sl2Turn):=pcD true G4 hlz run_sl2Turn
noncomputable def S5:Tab:=Tab.add S4 146 (lift (sumOf P_sl2Turn pre_sl2Turn g_sl2Turn))
noncomputable def QF5:FuncId→Bool:=qadd QF4 146
theorem G5:Good Try.prog tt S5 QF5:=G4.addQ c_sl2Turn (cbl Try.f146) (fun _=>rfl)

noncomputable abbrev jS96:List Sh:=.junk::.junk::.junk::.junk::.junk::.junk::.junk::.junk::.junk::.junk::.junk::.junk::.junk::.junk::.junk::.junk::.junk::.junk::.junk::.junk::.junk::.junk::.junk::.junk::.junk::.junk::.junk::.junk::.junk::.junk::.junk::.junk::.junk::jS63
noncomputable abbrev jS97:List Sh:=.junk::jS96
noncomputable abbrev u97:=((),(),(),(),(),(),(),(),(),(),(),(),(),(),(),(),(),(),(),(),(),(),(),(),(),(),(),(),(),(),(),(),u65)
noncomputable abbrev u102:=((),(),(),(),(),u97)
noncomputable abbrev jA96:List AV:=.junk::.junk::.junk::.junk::.junk::.junk::.junk::.junk::.junk::.junk::.junk::.junk::.junk::.junk::.junk::.junk::.junk::.junk::.junk::.junk::.junk::.junk::.junk::.junk::.junk::.junk::.junk::.junk::.junk::.junk::.junk::.junk::.junk::jA63
noncomputable abbrev jA97:List AV:=.junk::jA96
noncomputable abbrev jS95:List Sh:=.junk::.junk::.junk::.junk::.junk::.junk::.junk::.junk::.junk::.junk::.junk::.junk::.junk::.junk::.junk::.junk::.junk::.junk::.junk::.junk::.junk::.junk::.junk::.junk::.junk::.junk::.junk::.junk::.junk::.junk::.junk::.junk::jS63
noncomputable abbrev u96:=((),(),(),(),(),(),(),(),(),(),(),(),(),(),(),(),(),(),(),(),(),(),(),(),(),(),(),(),(),(),(),u65)
noncomputable abbrev jA95:List AV:=.junk::.junk::.junk::.junk::.junk::.junk::.junk::.junk::.junk::.junk::.junk::.junk::.junk::.junk::.junk::.junk::.junk::.junk::.junk::.junk::.junk::.junk::.junk::.junk::.junk::.junk::.junk::.junk::.junk::.junk::.junk::.junk::jA63
noncomputable abbrev P_sl2Words:List PSh:=[.t t_sy]
noncomputable def body_sl2Words_0:Code:=((loopsIn 0 (bodyOf Try.f145)).getD 0 (0,.skip)).2
noncomputable def body_sl2Words_1:Code:=((loopsIn 0 (bodyOf Try.f145)).getD 1 (0,.skip)).2
noncomputable abbrev S_sl2Words_0:SS:=⟨(.t false t_sy::.junk::.junk::.all 0 1::.t true (.int .i64)::jS96),[.rows 3 true (.int .i64)]⟩
noncomputable abbrev E_sl2Words_0_0:SS:=⟨(.junk::.junk::.junk::.all 0 1::jS97),[.rows 3 true (.int .i64)]⟩
noncomputable def st_sl2Words_0 (x0:List Int) (x4:Int) (h0:List Int):RT S_sl2Words_0.den:=(.br (decide (x4<(16:Int))) (.br (decide (0≤(IntKind.wrap .i64 ((4:Int)*x4))∧(IntKind.wrap .i64 ((4:Int)*x4))<((x0.length:Nat):Int))) (.br (decide (0≤(IntKind.wrap .i64 ((IntKind.wrap .i64 ((4:Int)*x4))+(1:Int)))∧(IntKind.wrap .i64 ((IntKind.wrap .i64 ((4:Int)*x4))+(1:Int)))<((x0.length:Nat):Int))) (.br (decide (0≤(IntKind.wrap .i64 ((IntKind.wrap .i64 ((4:Int)*x4))+(2:Int)))∧(IntKind.wrap .i64 ((IntKind.wrap .i64 ((4:Int)*x4))+(2:Int)))<((x0.length:Nat):Int))) (.br (decide (0≤(IntKind.wrap .i64 ((IntKind.wrap .i64 ((4:Int)*x4))+(3:Int)))∧(IntKind.wrap .i64 ((IntKind.wrap .i64 ((4:Int)*x4))+(3:Int)))<((x0.length:Nat):Int))) (.br (decide ((h0.length+[ior .i64 (ior .i64 (ior .i64 (IntKind.wrap .i64 ((IntKind.wrap .i64 (x0.getD ((IntKind.wrap .i64 ((4:Int)*x4)).toNat) (0:Int)))*2 ^ (24))) (IntKind.wrap .i64 ((IntKind.wrap .i64 (x0.getD ((IntKind.wrap .i64 ((IntKind.wrap .i64 ((4:Int)*x4))+(1:Int))).toNat) (0:Int)))*2 ^ (16)))) (IntKind.wrap .i64 ((IntKind.wrap .i64 (x0.getD ((IntKind.wrap .i64 ((IntKind.wrap .i64 ((4:Int)*x4))+(2:Int))).toNat) (0:Int)))*2 ^ (8)))) (IntKind.wrap .i64 (x0.getD ((IntKind.wrap .i64 ((IntKind.wrap .i64 ((4:Int)*x4))+(3:Int))).toNat) (0:Int)))].length)*8≤MAXB)) (.next ((x0,(),(),(),IntKind.wrap .i64 (x4+(1:Int)),u97),(h0++[ior .i64 (ior .i64 (ior .i64 (IntKind.wrap .i64 ((IntKind.wrap .i64 (x0.getD ((IntKind.wrap .i64 ((4:Int)*x4)).toNat) (0:Int)))*2 ^ (24))) (IntKind.wrap .i64 ((IntKind.wrap .i64 (x0.getD ((IntKind.wrap .i64 ((IntKind.wrap .i64 ((4:Int)*x4))+(1:Int))).toNat) (0:Int)))*2 ^ (16)))) (IntKind.wrap .i64 ((IntKind.wrap .i64 (x0.getD ((IntKind.wrap .i64 ((IntKind.wrap .i64 ((4:Int)*x4))+(2:Int))).toNat) (0:Int)))*2 ^ (8)))) (IntKind.wrap .i64 (x0.getD ((IntKind.wrap .i64 ((IntKind.wrap .i64 ((4:Int)*x4))+(3:Int))).toNat) (0:Int)))],()))) .fail) .fail) .fail) .fail) .fail) (.done (.exit 0) E_sl2Words_0_0 ((u102),(h0,()))))
noncomputable abbrev V_sl2Words_0:=(List Int)×(Int)×(List Int)
noncomputable abbrev A_sl2Words_0:=Nat×(List Int)
noncomputable def fl_sl2Words_0:A_sl2Words_0:=(99,([]:List Int))
noncomputable def ss_sl2Words_0 (x0:List Int) (x4:Int) (h0:List Int):V_sl2Words_0 ⊕ A_sl2Words_0:=(cond (decide (x4<(16:Int))) (cond (decide (0≤(IntKind.wrap .i64 ((4:Int)*x4))∧(IntKind.wrap .i64 ((4:Int)*x4))<((x0.length:Nat):Int))) (cond (decide (0≤(IntKind.wrap .i64 ((IntKind.wrap .i64 ((4:Int)*x4))+(1:Int)))∧(IntKind.wrap .i64 ((IntKind.wrap .i64 ((4:Int)*x4))+(1:Int)))<((x0.length:Nat):Int))) (cond (decide (0≤(IntKind.wrap .i64 ((IntKind.wrap .i64 ((4:Int)*x4))+(2:Int)))∧(IntKind.wrap .i64 ((IntKind.wrap .i64 ((4:Int)*x4))+(2:Int)))<((x0.length:Nat):Int))) (cond (decide (0≤(IntKind.wrap .i64 ((IntKind.wrap .i64 ((4:Int)*x4))+(3:Int)))∧(IntKind.wrap .i64 ((IntKind.wrap .i64 ((4:Int)*x4))+(3:Int)))<((x0.length:Nat):Int))) (cond (decide ((h0.length+[ior .i64 (ior .i64 (ior .i64 (IntKind.wrap .i64 ((IntKind.wrap .i64 (x0.getD ((IntKind.wrap .i64 ((4:Int)*x4)).toNat) (0:Int)))*2 ^ (24))) (IntKind.wrap .i64 ((IntKind.wrap .i64 (x0.getD ((IntKind.wrap .i64 ((IntKind.wrap .i64 ((4:Int)*x4))+(1:Int))).toNat) (0:Int)))*2 ^ (16)))) (IntKind.wrap .i64 ((IntKind.wrap .i64 (x0.getD ((IntKind.wrap .i64 ((IntKind.wrap .i64 ((4:Int)*x4))+(2:Int))).toNat) (0:Int)))*2 ^ (8)))) (IntKind.wrap .i64 (x0.getD ((IntKind.wrap .i64 ((IntKind.wrap .i64 ((4:Int)*x4))+(3:Int))).toNat) (0:Int)))].length)*8≤MAXB)) (.inl (x0,IntKind.wrap .i64 (x4+(1:Int)),h0++[ior .i64 (ior .i64 (ior .i64 (IntKind.wrap .i64 ((IntKind.wrap .i64 (x0.getD ((IntKind.wrap .i64 ((4:Int)*x4)).toNat) (0:Int)))*2 ^ (24))) (IntKind.wrap .i64 ((IntKind.wrap .i64 (x0.getD ((IntKind.wrap .i64 ((IntKind.wrap .i64 ((4:Int)*x4))+(1:Int))).toNat) (0:Int)))*2 ^ (16)))) (IntKind.wrap .i64 ((IntKind.wrap .i64 (x0.getD ((IntKind.wrap .i64 ((IntKind.wrap .i64 ((4:Int)*x4))+(2:Int))).toNat) (0:Int)))*2 ^ (8)))) (IntKind.wrap .i64 (x0.getD ((IntKind.wrap .i64 ((IntKind.wrap .i64 ((4:Int)*x4))+(3:Int))).toNat) (0:Int)))])) (.inr fl_sl2Words_0)) (.inr fl_sl2Words_0)) (.inr fl_sl2Words_0)) (.inr fl_sl2Words_0)) (.inr fl_sl2Words_0)) (.inr (0,h0)))
noncomputable def it_sl2Words_0 (x0:List Int) (x4:Int) (h0:List Int):A_sl2Words_0:=itX (fun v:V_sl2Words_0=>ss_sl2Words_0 v.1 v.2.1 v.2.2) fl_sl2Words_0 (x0,x4,h0)
noncomputable def ct_sl2Words_0 (a:A_sl2Words_0):CT:=(.br (a.1==0) (.done (.exit 0) E_sl2Words_0_0 ((u102),(a.2,()))) .fail)
noncomputable def T_sl2Words_0 (x0:List Int) (x4:Int) (h0:List Int):CT:=ct_sl2Words_0 (it_sl2Words_0 x0 x4 h0)
noncomputable abbrev sp_sl2Words_0:S_sl2Words_0.den→RT S_sl2Words_0.den:=(fun d=>st_sl2Words_0 d.1.1 d.1.2.2.2.2.1 d.2.1)
noncomputable abbrev pv_sl2Words_0 (v:V_sl2Words_0):S_sl2Words_0.den:=((v.1,(),(),(),v.2.1,u97),(v.2.2,()))
theorem rl_sl2Words_0:(∀ v:V_sl2Words_0,(st_sl2Words_0 v.1 v.2.1 v.2.2).val=relS pv_sl2Words_0 ct_sl2Words_0 (ss_sl2Words_0 v.1 v.2.1 v.2.2))∧∀ a:A_sl2Words_0,CEnd S_sl2Words_0.den (ct_sl2Words_0 a):=⟨fun v=>by repeat' first | apply relB | rfl,fun a=>(cendB (cendD (by simp)) cendF)⟩
noncomputable def ox_sl2Words_0 (x0:List Int) (x4:Int) (h0:List Int):Option (Ex×St):=(cond (decide (x4<(16:Int))) (cond (decide (0≤(IntKind.wrap .i64 ((4:Int)*x4))∧(IntKind.wrap .i64 ((4:Int)*x4))<((x0.length:Nat):Int))) (cond (decide (0≤(IntKind.wrap .i64 ((IntKind.wrap .i64 ((4:Int)*x4))+(1:Int)))∧(IntKind.wrap .i64 ((IntKind.wrap .i64 ((4:Int)*x4))+(1:Int)))<((x0.length:Nat):Int))) (cond (decide (0≤(IntKind.wrap .i64 ((IntKind.wrap .i64 ((4:Int)*x4))+(2:Int)))∧(IntKind.wrap .i64 ((IntKind.wrap .i64 ((4:Int)*x4))+(2:Int)))<((x0.length:Nat):Int))) (cond (decide (0≤(IntKind.wrap .i64 ((IntKind.wrap .i64 ((4:Int)*x4))+(3:Int)))∧(IntKind.wrap .i64 ((IntKind.wrap .i64 ((4:Int)*x4))+(3:Int)))<((x0.length:Nat):Int))) (cond (decide ((h0.length+[ior .i64 (ior .i64 (ior .i64 (IntKind.wrap .i64 ((IntKind.wrap .i64 (x0.getD ((IntKind.wrap .i64 ((4:Int)*x4)).toNat) (0:Int)))*2 ^ (24))) (IntKind.wrap .i64 ((IntKind.wrap .i64 (x0.getD ((IntKind.wrap .i64 ((IntKind.wrap .i64 ((4:Int)*x4))+(1:Int))).toNat) (0:Int)))*2 ^ (16)))) (IntKind.wrap .i64 ((IntKind.wrap .i64 (x0.getD ((IntKind.wrap .i64 ((IntKind.wrap .i64 ((4:Int)*x4))+(2:Int))).toNat) (0:Int)))*2 ^ (8)))) (IntKind.wrap .i64 (x0.getD ((IntKind.wrap .i64 ((IntKind.wrap .i64 ((4:Int)*x4))+(3:Int))).toNat) (0:Int)))].length)*8≤MAXB)) (some (.normal,(⟨((.t false t_sy x0)::.junk::.junk::(.all 0 1)::(.t true (.int .i64) (IntKind.wrap .i64 (x4+(1:Int))))::jA96),[(.rows 3 true (.int .i64) (h0++[ior .i64 (ior .i64 (ior .i64 (IntKind.wrap .i64 ((IntKind.wrap .i64 (x0.getD ((IntKind.wrap .i64 ((4:Int)*x4)).toNat) (0:Int)))*2 ^ (24))) (IntKind.wrap .i64 ((IntKind.wrap .i64 (x0.getD ((IntKind.wrap .i64 ((IntKind.wrap .i64 ((4:Int)*x4))+(1:Int))).toNat) (0:Int)))*2 ^ (16)))) (IntKind.wrap .i64 ((IntKind.wrap .i64 (x0.getD ((IntKind.wrap .i64 ((IntKind.wrap .i64 ((4:Int)*x4))+(2:Int))).toNat) (0:Int)))*2 ^ (8)))) (IntKind.wrap .i64 (x0.getD ((IntKind.wrap .i64 ((IntKind.wrap .i64 ((4:Int)*x4))+(3:Int))).toNat) (0:Int)))]))],0,[]⟩:St))) none) none) none) none) none) (some ((.exit 0),(⟨(.junk::.junk::.junk::(.all 0 1)::jA97),[(.rows 3 true (.int .i64) h0)],0,[]⟩:St))))
theorem rdA_sl2Words_0:RdA G5 (fun _ _=>none) 0 body_sl2Words_0 S_sl2Words_0 0 [] (kepts [] [(0,[3])]) (fun d=>ox_sl2Words_0 d.1.1 d.1.2.2.2.2.1 d.2.1):=by
 intro d
 kernel_rfl
theorem rdB_sl2Words_0:∀ d:S_sl2Words_0.den,(fun d=>ox_sl2Words_0 d.1.1 d.1.2.2.2.2.1 d.2.1) d=(sp_sl2Words_0 d).opt 0 []:=by
 intro d
 kernel_rfl
noncomputable abbrev say_sl2Words_0:St→Option Tree:=S_sl2Words_0.say 0 [] [] (fun d=>T_sl2Words_0 d.1.1 d.1.2.2.2.2.1 d.2.1)
theorem lw_sl2Words_0:LoopWp Try.prog say_sl2Words_0 body_sl2Words_0:=SS.wp2 hlz [] sp_sl2Words_0 rdA_sl2Words_0 rdB_sl2Words_0 _ (fun d=>Runs.ofI2 (step:=sp_sl2Words_0) pv_sl2Words_0 rl_sl2Words_0 rfl (d.1.1,d.1.2.2.2.2.1,d.2.1))
noncomputable abbrev S_sl2Words_1:SS:=⟨(.junk::.junk::.junk::.all 0 1::.junk::.t true (.int .i64)::jS95),[.rows 3 true (.int .i64)]⟩
noncomputable abbrev E_sl2Words_1_0:SS:=⟨(.junk::.junk::.junk::.all 0 1::jS97),[.rows 3 true (.int .i64)]⟩
noncomputable def st_sl2Words_1 (x5:Int) (h0:List Int):RT S_sl2Words_1.den:=(.br (decide (x5<(64:Int))) (.br (decide (0≤(IntKind.wrap .i64 (x5 - (15:Int)))∧(IntKind.wrap .i64 (x5 - (15:Int)))<((h0.length:Nat):Int))) (.br (decide (0≤(IntKind.wrap .i64 (x5 - (2:Int)))∧(IntKind.wrap .i64 (x5 - (2:Int)))<((h0.length:Nat):Int))) (.br (q_sl2Turn (h0.getD ((IntKind.wrap .i64 (x5 - (15:Int))).toNat) (0:Int)) (7:Int)) (.br (q_sl2Turn (h0.getD ((IntKind.wrap .i64 (x5 - (15:Int))).toNat) (0:Int)) (18:Int)) (.br (q_sl2Turn (h0.getD ((IntKind.wrap .i64 (x5 - (2:Int))).toNat) (0:Int)) (17:Int)) (.br (q_sl2Turn (h0.getD ((IntKind.wrap .i64 (x5 - (2:Int))).toNat) (0:Int)) (19:Int)) (.br (decide (0≤(IntKind.wrap .i64 (x5 - (16:Int)))∧(IntKind.wrap .i64 (x5 - (16:Int)))<((h0.length:Nat):Int))) (.br (decide (0≤(IntKind.wrap .i64 (x5 - (7:Int)))∧(IntKind.wrap .i64 (x5 - (7:Int)))<((h0.length:Nat):Int))) (.br (decide ((h0.length+[iand .i64 (IntKind.wrap .i64 ((IntKind.wrap .i64 ((IntKind.wrap .i64 ((h0.getD ((IntKind.wrap .i64 (x5 - (16:Int))).toNat) (0:Int))+(ixor .i64 (ixor .i64 (sl2Turn (h0.getD ((IntKind.wrap .i64 (x5 - (15:Int))).toNat) (0:Int)) (7:Int)) (sl2Turn (h0.getD ((IntKind.wrap .i64 (x5 - (15:Int))).toNat) (0:Int)) (18:Int))) (Int.fdiv (h0.getD ((IntKind.wrap .i64 (x5 - (15:Int))).toNat) (0:Int)) (2 ^ (3))))))+(h0.getD ((IntKind.wrap .i64 (x5 - (7:Int))).toNat) (0:Int))))+(ixor .i64 (ixor .i64 (sl2Turn (h0.getD ((IntKind.wrap .i64 (x5 - (2:Int))).toNat) (0:Int)) (17:Int)) (sl2Turn (h0.getD ((IntKind.wrap .i64 (x5 - (2:Int))).toNat) (0:Int)) (19:Int))) (Int.fdiv (h0.getD ((IntKind.wrap .i64 (x5 - (2:Int))).toNat) (0:Int)) (2 ^ (10)))))) (4294967295:Int)].length)*8≤MAXB)) (.next (((),(),(),(),(),IntKind.wrap .i64 (x5+(1:Int)),u96),(h0++[iand .i64 (IntKind.wrap .i64 ((IntKind.wrap .i64 ((IntKind.wrap .i64 ((h0.getD ((IntKind.wrap .i64 (x5 - (16:Int))).toNat) (0:Int))+(ixor .i64 (ixor .i64 (sl2Turn (h0.getD ((IntKind.wrap .i64 (x5 - (15:Int))).toNat) (0:Int)) (7:Int)) (sl2Turn (h0.getD ((IntKind.wrap .i64 (x5 - (15:Int))).toNat) (0:Int)) (18:Int))) (Int.fdiv (h0.getD ((IntKind.wrap .i64 (x5 - (15:Int))).toNat) (0:Int)) (2 ^ (3))))))+(h0.getD ((IntKind.wrap .i64 (x5 - (7:Int))).toNat) (0:Int))))+(ixor .i64 (ixor .i64 (sl2Turn (h0.getD ((IntKind.wrap .i64 (x5 - (2:Int))).toNat) (0:Int)) (17:Int)) (sl2Turn (h0.getD ((IntKind.wrap .i64 (x5 - (2:Int))).toNat) (0:Int)) (19:Int))) (Int.fdiv (h0.getD ((IntKind.wrap .i64 (x5 - (2:Int))).toNat) (0:Int)) (2 ^ (10)))))) (4294967295:Int)],()))) .fail) .fail) .fail) .fail) .fail) .fail) .fail) .fail) .fail) (.done (.exit 2) E_sl2Words_1_0 ((u102),(h0,()))))
noncomputable abbrev V_sl2Words_1:=(Int)×(List Int)
noncomputable abbrev A_sl2Words_1:=Nat×(List Int)
noncomputable def fl_sl2Words_1:A_sl2Words_1:=(99,([]:List Int))
noncomputable def ss_sl2Words_1 (x5:Int) (h0:List Int):V_sl2Words_1 ⊕ A_sl2Words_1:=(cond (decide (x5<(64:Int))) (cond (decide (0≤(IntKind.wrap .i64 (x5 - (15:Int)))∧(IntKind.wrap .i64 (x5 - (15:Int)))<((h0.length:Nat):Int))) (cond (decide (0≤(IntKind.wrap .i64 (x5 - (2:Int)))∧(IntKind.wrap .i64 (x5 - (2:Int)))<((h0.length:Nat):Int))) (cond (q_sl2Turn (h0.getD ((IntKind.wrap .i64 (x5 - (15:Int))).toNat) (0:Int)) (7:Int)) (cond (q_sl2Turn (h0.getD ((IntKind.wrap .i64 (x5 - (15:Int))).toNat) (0:Int)) (18:Int)) (cond (q_sl2Turn (h0.getD ((IntKind.wrap .i64 (x5 - (2:Int))).toNat) (0:Int)) (17:Int)) (cond (q_sl2Turn (h0.getD ((IntKind.wrap .i64 (x5 - (2:Int))).toNat) (0:Int)) (19:Int)) (cond (decide (0≤(IntKind.wrap .i64 (x5 - (16:Int)))∧(IntKind.wrap .i64 (x5 - (16:Int)))<((h0.length:Nat):Int))) (cond (decide (0≤(IntKind.wrap .i64 (x5 - (7:Int)))∧(IntKind.wrap .i64 (x5 - (7:Int)))<((h0.length:Nat):Int))) (cond (decide ((h0.length+[iand .i64 (IntKind.wrap .i64 ((IntKind.wrap .i64 ((IntKind.wrap .i64 ((h0.getD ((IntKind.wrap .i64 (x5 - (16:Int))).toNat) (0:Int))+(ixor .i64 (ixor .i64 (sl2Turn (h0.getD ((IntKind.wrap .i64 (x5 - (15:Int))).toNat) (0:Int)) (7:Int)) (sl2Turn (h0.getD ((IntKind.wrap .i64 (x5 - (15:Int))).toNat) (0:Int)) (18:Int))) (Int.fdiv (h0.getD ((IntKind.wrap .i64 (x5 - (15:Int))).toNat) (0:Int)) (2 ^ (3))))))+(h0.getD ((IntKind.wrap .i64 (x5 - (7:Int))).toNat) (0:Int))))+(ixor .i64 (ixor .i64 (sl2Turn (h0.getD ((IntKind.wrap .i64 (x5 - (2:Int))).toNat) (0:Int)) (17:Int)) (sl2Turn (h0.getD ((IntKind.wrap .i64 (x5 - (2:Int))).toNat) (0:Int)) (19:Int))) (Int.fdiv (h0.getD ((IntKind.wrap .i64 (x5 - (2:Int))).toNat) (0:Int)) (2 ^ (10)))))) (4294967295:Int)].length)*8≤MAXB)) (.inl (IntKind.wrap .i64 (x5+(1:Int)),h0++[iand .i64 (IntKind.wrap .i64 ((IntKind.wrap .i64 ((IntKind.wrap .i64 ((h0.getD ((IntKind.wrap .i64 (x5 - (16:Int))).toNat) (0:Int))+(ixor .i64 (ixor .i64 (sl2Turn (h0.getD ((IntKind.wrap .i64 (x5 - (15:Int))).toNat) (0:Int)) (7:Int)) (sl2Turn (h0.getD ((IntKind.wrap .i64 (x5 - (15:Int))).toNat) (0:Int)) (18:Int))) (Int.fdiv (h0.getD ((IntKind.wrap .i64 (x5 - (15:Int))).toNat) (0:Int)) (2 ^ (3))))))+(h0.getD ((IntKind.wrap .i64 (x5 - (7:Int))).toNat) (0:Int))))+(ixor .i64 (ixor .i64 (sl2Turn (h0.getD ((IntKind.wrap .i64 (x5 - (2:Int))).toNat) (0:Int)) (17:Int)) (sl2Turn (h0.getD ((IntKind.wrap .i64 (x5 - (2:Int))).toNat) (0:Int)) (19:Int))) (Int.fdiv (h0.getD ((IntKind.wrap .i64 (x5 - (2:Int))).toNat) (0:Int)) (2 ^ (10)))))) (4294967295:Int)])) (.inr fl_sl2Words_1)) (.inr fl_sl2Words_1)) (.inr fl_sl2Words_1)) (.inr fl_sl2Words_1)) (.inr fl_sl2Words_1)) (.inr fl_sl2Words_1)) (.inr fl_sl2Words_1)) (.inr fl_sl2Words_1)) (.inr fl_sl2Words_1)) (.inr (0,h0)))
noncomputable def it_sl2Words_1 (x5:Int) (h0:List Int):A_sl2Words_1:=itX (fun v:V_sl2Words_1=>ss_sl2Words_1 v.1 v.2) fl_sl2Words_1 (x5,h0)
noncomputable def ct_sl2Words_1 (a:A_sl2Words_1):CT:=(.br (a.1==0) (.done (.exit 2) E_sl2Words_1_0 ((u102),(a.2,()))) .fail)
noncomputable def T_sl2Words_1 (x5:Int) (h0:List Int):CT:=ct_sl2Words_1 (it_sl2Words_1 x5 h0)
noncomputable abbrev sp_sl2Words_1:S_sl2Words_1.den→RT S_sl2Words_1.den:=(fun d=>st_sl2Words_1 d.1.2.2.2.2.2.1 d.2.1)
noncomputable abbrev pv_sl2Words_1 (v:V_sl2Words_1):S_sl2Words_1.den:=(((),(),(),(),(),v.1,u96),(v.2,()))
theorem rl_sl2Words_1:(∀ v:V_sl2Words_1,(st_sl2Words_1 v.1 v.2).val=relS pv_sl2Words_1 ct_sl2Words_1 (ss_sl2Words_1 v.1 v.2))∧∀ a:A_sl2Words_1,CEnd S_sl2Words_1.den (ct_sl2Words_1 a):=⟨fun v=>by repeat' first | apply relB | rfl,fun a=>(cendB (cendD (by simp)) cendF)⟩
noncomputable def ox_sl2Words_1 (x5:Int) (h0:List Int):Option (Ex×St):=(cond (decide (x5<(64:Int))) (cond (decide (0≤(IntKind.wrap .i64 (x5 - (15:Int)))∧(IntKind.wrap .i64 (x5 - (15:Int)))<((h0.length:Nat):Int))) (cond (decide (0≤(IntKind.wrap .i64 (x5 - (2:Int)))∧(IntKind.wrap .i64 (x5 - (2:Int)))<((h0.length:Nat):Int))) (cond (q_sl2Turn (h0.getD ((IntKind.wrap .i64 (x5 - (15:Int))).toNat) (0:Int)) (7:Int)) (cond (q_sl2Turn (h0.getD ((IntKind.wrap .i64 (x5 - (15:Int))).toNat) (0:Int)) (18:Int)) (cond (q_sl2Turn (h0.getD ((IntKind.wrap .i64 (x5 - (2:Int))).toNat) (0:Int)) (17:Int)) (cond (q_sl2Turn (h0.getD ((IntKind.wrap .i64 (x5 - (2:Int))).toNat) (0:Int)) (19:Int)) (cond (decide (0≤(IntKind.wrap .i64 (x5 - (16:Int)))∧(IntKind.wrap .i64 (x5 - (16:Int)))<((h0.length:Nat):Int))) (cond (decide (0≤(IntKind.wrap .i64 (x5 - (7:Int)))∧(IntKind.wrap .i64 (x5 - (7:Int)))<((h0.length:Nat):Int))) (cond (decide ((h0.length+[iand .i64 (IntKind.wrap .i64 ((IntKind.wrap .i64 ((IntKind.wrap .i64 ((h0.getD ((IntKind.wrap .i64 (x5 - (16:Int))).toNat) (0:Int))+(ixor .i64 (ixor .i64 (sl2Turn (h0.getD ((IntKind.wrap .i64 (x5 - (15:Int))).toNat) (0:Int)) (7:Int)) (sl2Turn (h0.getD ((IntKind.wrap .i64 (x5 - (15:Int))).toNat) (0:Int)) (18:Int))) (Int.fdiv (h0.getD ((IntKind.wrap .i64 (x5 - (15:Int))).toNat) (0:Int)) (2 ^ (3))))))+(h0.getD ((IntKind.wrap .i64 (x5 - (7:Int))).toNat) (0:Int))))+(ixor .i64 (ixor .i64 (sl2Turn (h0.getD ((IntKind.wrap .i64 (x5 - (2:Int))).toNat) (0:Int)) (17:Int)) (sl2Turn (h0.getD ((IntKind.wrap .i64 (x5 - (2:Int))).toNat) (0:Int)) (19:Int))) (Int.fdiv (h0.getD ((IntKind.wrap .i64 (x5 - (2:Int))).toNat) (0:Int)) (2 ^ (10)))))) (4294967295:Int)].length)*8≤MAXB)) (some (.normal,(⟨(.junk::.junk::.junk::(.all 0 1)::.junk::(.t true (.int .i64) (IntKind.wrap .i64 (x5+(1:Int))))::jA95),[(.rows 3 true (.int .i64) (h0++[iand .i64 (IntKind.wrap .i64 ((IntKind.wrap .i64 ((IntKind.wrap .i64 ((h0.getD ((IntKind.wrap .i64 (x5 - (16:Int))).toNat) (0:Int))+(ixor .i64 (ixor .i64 (sl2Turn (h0.getD ((IntKind.wrap .i64 (x5 - (15:Int))).toNat) (0:Int)) (7:Int)) (sl2Turn (h0.getD ((IntKind.wrap .i64 (x5 - (15:Int))).toNat) (0:Int)) (18:Int))) (Int.fdiv (h0.getD ((IntKind.wrap .i64 (x5 - (15:Int))).toNat) (0:Int)) (2 ^ (3))))))+(h0.getD ((IntKind.wrap .i64 (x5 - (7:Int))).toNat) (0:Int))))+(ixor .i64 (ixor .i64 (sl2Turn (h0.getD ((IntKind.wrap .i64 (x5 - (2:Int))).toNat) (0:Int)) (17:Int)) (sl2Turn (h0.getD ((IntKind.wrap .i64 (x5 - (2:Int))).toNat) (0:Int)) (19:Int))) (Int.fdiv (h0.getD ((IntKind.wrap .i64 (x5 - (2:Int))).toNat) (0:Int)) (2 ^ (10)))))) (4294967295:Int)]))],0,[]⟩:St))) none) none) none) none) none) none) none) none) none) (some ((.exit 2),(⟨(.junk::.junk::.junk::(.all 0 1)::jA97),[(.rows 3 true (.int .i64) h0)],0,[]⟩:St))))
theorem rdA_sl2Words_1:RdA G5 (fun _ _=>none) 2 body_sl2Words_1 S_sl2Words_1 0 [] (kepts [] [(2,[3])]) (fun d=>ox_sl2Words_1 d.1.2.2.2.2.2.1 d.2.1):=by
 intro d
 kernel_rfl
theorem rdB_sl2Words_1:∀ d:S_sl2Words_1.den,(fun d=>ox_sl2Words_1 d.1.2.2.2.2.2.1 d.2.1) d=(sp_sl2Words_1 d).opt 0 []:=by
 intro d
 kernel_rfl
noncomputable abbrev say_sl2Words_1:St→Option Tree:=S_sl2Words_1.say 0 [] [] (fun d=>T_sl2Words_1 d.1.2.2.2.2.2.1 d.2.1)
theorem lw_sl2Words_1:LoopWp Try.prog say_sl2Words_1 body_sl2Words_1:=SS.wp2 hlz [] sp_sl2Words_1 rdA_sl2Words_1 rdB_sl2Words_1 _ (fun d=>Runs.ofI2 (step:=sp_sl2Words_1) pv_sl2Words_1 rl_sl2Words_1 rfl (d.1.2.2.2.2.2.1,d.2.1))
noncomputable def sl2Words (a0:List Int):List Int:=((it_sl2Words_1 (16:Int) ((it_sl2Words_0 a0 (0:Int) ([]:List Int)).2)).2)
noncomputable abbrev e_sl2Words (r:List Int):AV×List AObj:=((.t true t_si r),[])
noncomputable abbrev g_sl2Words:pshsDen P_sl2Words→AV×List AObj:=fun d=>e_sl2Words (sl2Words d.1)
noncomputable def q_sl2Words (a0:List Int):Bool:=((it_sl2Words_0 a0 (0:Int) ([]:List Int)).1==0)&&((it_sl2Words_1 (16:Int) ((it_sl2Words_0 a0 (0:Int) ([]:List Int)).2)).1==0)
noncomputable abbrev pre_sl2Words:pshsDen P_sl2Words→Bool:=fun d=>q_sl2Words d.1
noncomputable abbrev L_sl2Words:Nat→St→Option Tree:=fun b=>match b with | 0=>say_sl2Words_0 | 2=>say_sl2Words_1 | _=>fun _=>none
theorem run_sl2Words:RunP true G5 (L_sl2Words) Try.f145 P_sl2Words pre_sl2Words g_sl2Words:=by
 rintro ⟨a0,_⟩ hp
 change q_sl2Words a0=true at hp
 unfold q_sl2Words at hp
 refine Eq.trans (b:=(cond ((it_sl2Words_0 a0 (0:Int) ([]:List Int)).1==0) (cond ((it_sl2Words_1 (16:Int) ((it_sl2Words_0 a0 (0:Int) ([]:List Int)).2)).1==0) (some (e_sl2Words ((it_sl2Words_1 (16:Int) ((it_sl2Words_0 a0 (0:Int) ([]:List Int)).2)).2))) none) none)) (by kernel_rfl) ?_
 exact (cndA hp fun hp=>(cndT hp fun _h=>rfl))
theorem c_sl2Words:PContract Try.prog 145 (sumOf P_sl2Words pre_sl2Words g_sl2Words):=pcD true G5 (by
  rw [show loopsIn 0 (bodyOf Try.f145)=[(0,body_sl2Words_0),(2,body_sl2Words_1)] by kernel_rfl];intro p hp;simp only [List.mem_cons,List.mem_nil_iff,or_false] at hp
  rcases hp with rfl | rfl
  ·exact lw_sl2Words_0
  ·exact lw_sl2Words_1) run_sl2Words
noncomputable def S6:Tab:=Tab.add S5 145 (lift (sumOf P_sl2Words pre_sl2Words g_sl2Words))
noncomputable def QF6:FuncId→Bool:=qadd QF5 145
theorem G6:Good Try.prog tt S6 QF6:=G5.addQ c_sl2Words (cbl Try.f145) (fun _=>rfl)

noncomputable abbrev jS134:List Sh:=.junk::.junk::.junk::.junk::.junk::.junk::.junk::.junk::.junk::.junk::.junk::.junk::.junk::.junk::.junk::.junk::.junk::.junk::.junk::.junk::.junk::.junk::.junk::.junk::.junk::.junk::.junk::.junk::.junk::.junk::.junk::.junk::.junk::.junk::.junk::.junk::.junk::jS97
noncomputable abbrev jS135:List Sh:=.junk::jS134
noncomputable abbrev u135:=((),(),(),(),(),(),(),(),(),(),(),(),(),(),(),(),(),(),(),(),(),(),(),(),(),(),(),(),(),(),(),(),(),u102)
noncomputable abbrev u144:=((),(),(),(),(),(),(),(),(),u135)
noncomputable abbrev jA134:List AV:=.junk::.junk::.junk::.junk::.junk::.junk::.junk::.junk::.junk::.junk::.junk::.junk::.junk::.junk::.junk::.junk::.junk::.junk::.junk::.junk::.junk::.junk::.junk::.junk::.junk::.junk::.junk::.junk::.junk::.junk::.junk::.junk::.junk::.junk::.junk::.junk::.junk::jA97
noncomputable abbrev jA135:List AV:=.junk::jA134
noncomputable abbrev jS125:List Sh:=.junk::.junk::.junk::.junk::.junk::.junk::.junk::.junk::.junk::.junk::.junk::.junk::.junk::.junk::.junk::.junk::.junk::.junk::.junk::.junk::.junk::.junk::.junk::.junk::.junk::.junk::.junk::.junk::jS97
noncomputable abbrev u126:=((),(),(),(),(),(),(),(),(),(),(),(),(),(),(),(),(),(),(),(),(),(),(),(),u102)
noncomputable abbrev u145:=((),u144)
noncomputable abbrev jA125:List AV:=.junk::.junk::.junk::.junk::.junk::.junk::.junk::.junk::.junk::.junk::.junk::.junk::.junk::.junk::.junk::.junk::.junk::.junk::.junk::.junk::.junk::.junk::.junk::.junk::.junk::.junk::.junk::.junk::jA97
noncomputable abbrev P_sl2Block:List PSh:=[.t t_si,.t t_sy,.t t_si]
noncomputable def body_sl2Block_0:Code:=((loopsIn 0 (bodyOf Try.f111)).getD 0 (0,.skip)).2
noncomputable def body_sl2Block_1:Code:=((loopsIn 0 (bodyOf Try.f111)).getD 1 (0,.skip)).2
noncomputable abbrev S_sl2Block_0:SS:=⟨(.t false t_si::.junk::.t false t_si::.junk::.junk::.junk::.junk::.t true t_si::.all 0 1::.t true (.int .i64)::jS134),[.rows 3 true (.int .i64)]⟩
noncomputable abbrev E_sl2Block_0_0:SS:=⟨(.t false t_si::.junk::.junk::.junk::.junk::.junk::.junk::.junk::.all 0 1::jS135),[.rows 3 true (.int .i64)]⟩
noncomputable def st_sl2Block_0 (x0:List Int) (x2:List Int) (x7:List Int) (x9:Int) (h0:List Int):RT S_sl2Block_0.den:=(.br (decide (x9<(64:Int))) (.br (decide (0≤(4:Int)∧(4:Int)<((h0.length:Nat):Int))) (.br (q_sl2Turn (h0.getD ((4:Int).toNat) (0:Int)) (6:Int)) (.br (q_sl2Turn (h0.getD ((4:Int).toNat) (0:Int)) (11:Int)) (.br (q_sl2Turn (h0.getD ((4:Int).toNat) (0:Int)) (25:Int)) (.br (decide (0≤(5:Int)∧(5:Int)<((h0.length:Nat):Int))) (.br (decide (0≤(6:Int)∧(6:Int)<((h0.length:Nat):Int))) (.br (decide (0≤(7:Int)∧(7:Int)<((h0.length:Nat):Int))) (.br (decide (0≤x9∧x9<((x2.length:Nat):Int))) (.br (decide (0≤x9∧x9<((x7.length:Nat):Int))) (.br (decide (0≤(0:Int)∧(0:Int)<((h0.length:Nat):Int))) (.br (q_sl2Turn (h0.getD ((0:Int).toNat) (0:Int)) (2:Int)) (.br (q_sl2Turn (h0.getD ((0:Int).toNat) (0:Int)) (13:Int)) (.br (q_sl2Turn (h0.getD ((0:Int).toNat) (0:Int)) (22:Int)) (.br (decide (0≤(1:Int)∧(1:Int)<((h0.length:Nat):Int))) (.br (decide (0≤(2:Int)∧(2:Int)<((h0.length:Nat):Int))) (.br (decide (0≤(1:Int)∧(1:Int)<((h0.length:Nat):Int))) (.br (decide (0≤(2:Int)∧(2:Int)<((h0.length:Nat):Int))) (.br (decide (0≤(1:Int)∧(1:Int)<((h0.length:Nat):Int))) (.br (decide (0≤(2:Int)∧(2:Int)<((h0.length:Nat):Int))) (.br (decide (0≤(3:Int)∧(3:Int)<((h0.length:Nat):Int))) (.br (decide (0≤(5:Int)∧(5:Int)<((h0.length:Nat):Int))) (.br (decide (0≤(6:Int)∧(6:Int)<((h0.length:Nat):Int))) (.next ((x0,(),x2,(),(),(),(),x7,(),IntKind.wrap .i64 (x9+(1:Int)),u135),([iand .i64 (IntKind.wrap .i64 ((IntKind.wrap .i64 ((IntKind.wrap .i64 ((IntKind.wrap .i64 ((IntKind.wrap .i64 ((h0.getD ((7:Int).toNat) (0:Int))+(ixor .i64 (ixor .i64 (sl2Turn (h0.getD ((4:Int).toNat) (0:Int)) (6:Int)) (sl2Turn (h0.getD ((4:Int).toNat) (0:Int)) (11:Int))) (sl2Turn (h0.getD ((4:Int).toNat) (0:Int)) (25:Int)))))+(ixor .i64 (iand .i64 (h0.getD ((4:Int).toNat) (0:Int)) (h0.getD ((5:Int).toNat) (0:Int))) (iand .i64 (ixor .i64 (4294967295:Int) (h0.getD ((4:Int).toNat) (0:Int))) (h0.getD ((6:Int).toNat) (0:Int))))))+(x2.getD x9.toNat (0:Int))))+(x7.getD x9.toNat (0:Int))))+(IntKind.wrap .i64 ((ixor .i64 (ixor .i64 (sl2Turn (h0.getD ((0:Int).toNat) (0:Int)) (2:Int)) (sl2Turn (h0.getD ((0:Int).toNat) (0:Int)) (13:Int))) (sl2Turn (h0.getD ((0:Int).toNat) (0:Int)) (22:Int)))+(ixor .i64 (ixor .i64 (iand .i64 (h0.getD ((0:Int).toNat) (0:Int)) (h0.getD ((1:Int).toNat) (0:Int))) (iand .i64 (h0.getD ((0:Int).toNat) (0:Int)) (h0.getD ((2:Int).toNat) (0:Int)))) (iand .i64 (h0.getD ((1:Int).toNat) (0:Int)) (h0.getD ((2:Int).toNat) (0:Int)))))))) (4294967295:Int),h0.getD ((0:Int).toNat) (0:Int),h0.getD ((1:Int).toNat) (0:Int),h0.getD ((2:Int).toNat) (0:Int),iand .i64 (IntKind.wrap .i64 ((h0.getD ((3:Int).toNat) (0:Int))+(IntKind.wrap .i64 ((IntKind.wrap .i64 ((IntKind.wrap .i64 ((IntKind.wrap .i64 ((h0.getD ((7:Int).toNat) (0:Int))+(ixor .i64 (ixor .i64 (sl2Turn (h0.getD ((4:Int).toNat) (0:Int)) (6:Int)) (sl2Turn (h0.getD ((4:Int).toNat) (0:Int)) (11:Int))) (sl2Turn (h0.getD ((4:Int).toNat) (0:Int)) (25:Int)))))+(ixor .i64 (iand .i64 (h0.getD ((4:Int).toNat) (0:Int)) (h0.getD ((5:Int).toNat) (0:Int))) (iand .i64 (ixor .i64 (4294967295:Int) (h0.getD ((4:Int).toNat) (0:Int))) (h0.getD ((6:Int).toNat) (0:Int))))))+(x2.getD x9.toNat (0:Int))))+(x7.getD x9.toNat (0:Int)))))) (4294967295:Int),h0.getD ((4:Int).toNat) (0:Int),h0.getD ((5:Int).toNat) (0:Int),h0.getD ((6:Int).toNat) (0:Int)],()))) .fail) .fail) .fail) .fail) .fail) .fail) .fail) .fail) .fail) .fail) .fail) .fail) .fail) .fail) .fail) .fail) .fail) .fail) .fail) .fail) .fail) .fail) (.done (.exit 0) E_sl2Block_0_0 ((x0,u144),(h0,()))))
noncomputable abbrev V_sl2Block_0:=(List Int)×(List Int)×(List Int)×(Int)×(List Int)
noncomputable abbrev A_sl2Block_0:=Nat×(List Int)×(List Int)
noncomputable def fl_sl2Block_0:A_sl2Block_0:=(99,([]:List Int),([]:List Int))
noncomputable def ss_sl2Block_0 (x0:List Int) (x2:List Int) (x7:List Int) (x9:Int) (h0:List Int):V_sl2Block_0 ⊕ A_sl2Block_0:=(cond (decide (x9<(64:Int))) (cond (decide (0≤(4:Int)∧(4:Int)<((h0.length:Nat):Int))) (cond (q_sl2Turn (h0.getD ((4:Int).toNat) (0:Int)) (6:Int)) (cond (q_sl2Turn (h0.getD ((4:Int).toNat) (0:Int)) (11:Int)) (cond (q_sl2Turn (h0.getD ((4:Int).toNat) (0:Int)) (25:Int)) (cond (decide (0≤(5:Int)∧(5:Int)<((h0.length:Nat):Int))) (cond (decide (0≤(6:Int)∧(6:Int)<((h0.length:Nat):Int))) (cond (decide (0≤(7:Int)∧(7:Int)<((h0.length:Nat):Int))) (cond (decide (0≤x9∧x9<((x2.length:Nat):Int))) (cond (decide (0≤x9∧x9<((x7.length:Nat):Int))) (cond (decide (0≤(0:Int)∧(0:Int)<((h0.length:Nat):Int))) (cond (q_sl2Turn (h0.getD ((0:Int).toNat) (0:Int)) (2:Int)) (cond (q_sl2Turn (h0.getD ((0:Int).toNat) (0:Int)) (13:Int)) (cond (q_sl2Turn (h0.getD ((0:Int).toNat) (0:Int)) (22:Int)) (cond (decide (0≤(1:Int)∧(1:Int)<((h0.length:Nat):Int))) (cond (decide (0≤(2:Int)∧(2:Int)<((h0.length:Nat):Int))) (cond (decide (0≤(1:Int)∧(1:Int)<((h0.length:Nat):Int))) (cond (decide (0≤(2:Int)∧(2:Int)<((h0.length:Nat):Int))) (cond (decide (0≤(1:Int)∧(1:Int)<((h0.length:Nat):Int))) (cond (decide (0≤(2:Int)∧(2:Int)<((h0.length:Nat):Int))) (cond (decide (0≤(3:Int)∧(3:Int)<((h0.length:Nat):Int))) (cond (decide (0≤(5:Int)∧(5:Int)<((h0.length:Nat):Int))) (cond (decide (0≤(6:Int)∧(6:Int)<((h0.length:Nat):Int))) (.inl (x0,x2,x7,IntKind.wrap .i64 (x9+(1:Int)),[iand .i64 (IntKind.wrap .i64 ((IntKind.wrap .i64 ((IntKind.wrap .i64 ((IntKind.wrap .i64 ((IntKind.wrap .i64 ((h0.getD ((7:Int).toNat) (0:Int))+(ixor .i64 (ixor .i64 (sl2Turn (h0.getD ((4:Int).toNat) (0:Int)) (6:Int)) (sl2Turn (h0.getD ((4:Int).toNat) (0:Int)) (11:Int))) (sl2Turn (h0.getD ((4:Int).toNat) (0:Int)) (25:Int)))))+(ixor .i64 (iand .i64 (h0.getD ((4:Int).toNat) (0:Int)) (h0.getD ((5:Int).toNat) (0:Int))) (iand .i64 (ixor .i64 (4294967295:Int) (h0.getD ((4:Int).toNat) (0:Int))) (h0.getD ((6:Int).toNat) (0:Int))))))+(x2.getD x9.toNat (0:Int))))+(x7.getD x9.toNat (0:Int))))+(IntKind.wrap .i64 ((ixor .i64 (ixor .i64 (sl2Turn (h0.getD ((0:Int).toNat) (0:Int)) (2:Int)) (sl2Turn (h0.getD ((0:Int).toNat) (0:Int)) (13:Int))) (sl2Turn (h0.getD ((0:Int).toNat) (0:Int)) (22:Int)))+(ixor .i64 (ixor .i64 (iand .i64 (h0.getD ((0:Int).toNat) (0:Int)) (h0.getD ((1:Int).toNat) (0:Int))) (iand .i64 (h0.getD ((0:Int).toNat) (0:Int)) (h0.getD ((2:Int).toNat) (0:Int)))) (iand .i64 (h0.getD ((1:Int).toNat) (0:Int)) (h0.getD ((2:Int).toNat) (0:Int)))))))) (4294967295:Int),h0.getD ((0:Int).toNat) (0:Int),h0.getD ((1:Int).toNat) (0:Int),h0.getD ((2:Int).toNat) (0:Int),iand .i64 (IntKind.wrap .i64 ((h0.getD ((3:Int).toNat) (0:Int))+(IntKind.wrap .i64 ((IntKind.wrap .i64 ((IntKind.wrap .i64 ((IntKind.wrap .i64 ((h0.getD ((7:Int).toNat) (0:Int))+(ixor .i64 (ixor .i64 (sl2Turn (h0.getD ((4:Int).toNat) (0:Int)) (6:Int)) (sl2Turn (h0.getD ((4:Int).toNat) (0:Int)) (11:Int))) (sl2Turn (h0.getD ((4:Int).toNat) (0:Int)) (25:Int)))))+(ixor .i64 (iand .i64 (h0.getD ((4:Int).toNat) (0:Int)) (h0.getD ((5:Int).toNat) (0:Int))) (iand .i64 (ixor .i64 (4294967295:Int) (h0.getD ((4:Int).toNat) (0:Int))) (h0.getD ((6:Int).toNat) (0:Int))))))+(x2.getD x9.toNat (0:Int))))+(x7.getD x9.toNat (0:Int)))))) (4294967295:Int),h0.getD ((4:Int).toNat) (0:Int),h0.getD ((5:Int).toNat) (0:Int),h0.getD ((6:Int).toNat) (0:Int)])) (.inr fl_sl2Block_0)) (.inr fl_sl2Block_0)) (.inr fl_sl2Block_0)) (.inr fl_sl2Block_0)) (.inr fl_sl2Block_0)) (.inr fl_sl2Block_0)) (.inr fl_sl2Block_0)) (.inr fl_sl2Block_0)) (.inr fl_sl2Block_0)) (.inr fl_sl2Block_0)) (.inr fl_sl2Block_0)) (.inr fl_sl2Block_0)) (.inr fl_sl2Block_0)) (.inr fl_sl2Block_0)) (.inr fl_sl2Block_0)) (.inr fl_sl2Block_0)) (.inr fl_sl2Block_0)) (.inr fl_sl2Block_0)) (.inr fl_sl2Block_0)) (.inr fl_sl2Block_0)) (.inr fl_sl2Block_0)) (.inr fl_sl2Block_0)) (.inr (0,x0,h0)))
noncomputable def it_sl2Block_0 (x0:List Int) (x2:List Int) (x7:List Int) (x9:Int) (h0:List Int):A_sl2Block_0:=itX (fun v:V_sl2Block_0=>ss_sl2Block_0 v.1 v.2.1 v.2.2.1 v.2.2.2.1 v.2.2.2.2) fl_sl2Block_0 (x0,x2,x7,x9,h0)
noncomputable def ct_sl2Block_0 (a:A_sl2Block_0):CT:=(.br (a.1==0) (.done (.exit 0) E_sl2Block_0_0 ((a.2.1,u144),(a.2.2,()))) .fail)
noncomputable def T_sl2Block_0 (x0:List Int) (x2:List Int) (x7:List Int) (x9:Int) (h0:List Int):CT:=ct_sl2Block_0 (it_sl2Block_0 x0 x2 x7 x9 h0)
noncomputable abbrev ap_sl2Block_0 {α:Sort _} (f:(List Int)→(List Int)→(List Int)→Int→(List Int)→α) (d:S_sl2Block_0.den):α:=f d.1.1 d.1.2.2.1 d.1.2.2.2.2.2.2.2.1 d.1.2.2.2.2.2.2.2.2.2.1 d.2.1
noncomputable abbrev sp_sl2Block_0:S_sl2Block_0.den→RT S_sl2Block_0.den:=(ap_sl2Block_0 st_sl2Block_0)
noncomputable abbrev pv_sl2Block_0 (v:V_sl2Block_0):S_sl2Block_0.den:=((v.1,(),v.2.1,(),(),(),(),v.2.2.1,(),v.2.2.2.1,u135),(v.2.2.2.2,()))
theorem rl_sl2Block_0:(∀ v:V_sl2Block_0,(st_sl2Block_0 v.1 v.2.1 v.2.2.1 v.2.2.2.1 v.2.2.2.2).val=relS pv_sl2Block_0 ct_sl2Block_0 (ss_sl2Block_0 v.1 v.2.1 v.2.2.1 v.2.2.2.1 v.2.2.2.2))∧∀ a:A_sl2Block_0,CEnd S_sl2Block_0.den (ct_sl2Block_0 a):=⟨fun v=>by repeat' first | apply relB | rfl,fun a=>(cendB (cendD (by simp)) cendF)⟩
noncomputable def ox_sl2Block_0 (x0:List Int) (x2:List Int) (x7:List Int) (x9:Int) (h0:List Int):Option (Ex×St):=(cond (decide (x9<(64:Int))) (cond (decide (0≤(4:Int)∧(4:Int)<((h0.length:Nat):Int))) (cond (q_sl2Turn (h0.getD ((4:Int).toNat) (0:Int)) (6:Int)) (cond (q_sl2Turn (h0.getD ((4:Int).toNat) (0:Int)) (11:Int)) (cond (q_sl2Turn (h0.getD ((4:Int).toNat) (0:Int)) (25:Int)) (cond (decide (0≤(5:Int)∧(5:Int)<((h0.length:Nat):Int))) (cond (decide (0≤(6:Int)∧(6:Int)<((h0.length:Nat):Int))) (cond (decide (0≤(7:Int)∧(7:Int)<((h0.length:Nat):Int))) (cond (decide (0≤x9∧x9<((x2.length:Nat):Int))) (cond (decide (0≤x9∧x9<((x7.length:Nat):Int))) (cond (decide (0≤(0:Int)∧(0:Int)<((h0.length:Nat):Int))) (cond (q_sl2Turn (h0.getD ((0:Int).toNat) (0:Int)) (2:Int)) (cond (q_sl2Turn (h0.getD ((0:Int).toNat) (0:Int)) (13:Int)) (cond (q_sl2Turn (h0.getD ((0:Int).toNat) (0:Int)) (22:Int)) (cond (decide (0≤(1:Int)∧(1:Int)<((h0.length:Nat):Int))) (cond (decide (0≤(2:Int)∧(2:Int)<((h0.length:Nat):Int))) (cond (decide (0≤(1:Int)∧(1:Int)<((h0.length:Nat):Int))) (cond (decide (0≤(2:Int)∧(2:Int)<((h0.length:Nat):Int))) (cond (decide (0≤(1:Int)∧(1:Int)<((h0.length:Nat):Int))) (cond (decide (0≤(2:Int)∧(2:Int)<((h0.length:Nat):Int))) (cond (decide (0≤(3:Int)∧(3:Int)<((h0.length:Nat):Int))) (cond (decide (0≤(5:Int)∧(5:Int)<((h0.length:Nat):Int))) (cond (decide (0≤(6:Int)∧(6:Int)<((h0.length:Nat):Int))) (some (.normal,(⟨((.t false t_si x0)::.junk::(.t false t_si x2)::.junk::.junk::.junk::.junk::(.t true t_si x7)::(.all 0 1)::(.t true (.int .i64) (IntKind.wrap .i64 (x9+(1:Int))))::jA134),[(.rows 3 true (.int .i64) [iand .i64 (IntKind.wrap .i64 ((IntKind.wrap .i64 ((IntKind.wrap .i64 ((IntKind.wrap .i64 ((IntKind.wrap .i64 ((h0.getD ((7:Int).toNat) (0:Int))+(ixor .i64 (ixor .i64 (sl2Turn (h0.getD ((4:Int).toNat) (0:Int)) (6:Int)) (sl2Turn (h0.getD ((4:Int).toNat) (0:Int)) (11:Int))) (sl2Turn (h0.getD ((4:Int).toNat) (0:Int)) (25:Int)))))+(ixor .i64 (iand .i64 (h0.getD ((4:Int).toNat) (0:Int)) (h0.getD ((5:Int).toNat) (0:Int))) (iand .i64 (ixor .i64 (4294967295:Int) (h0.getD ((4:Int).toNat) (0:Int))) (h0.getD ((6:Int).toNat) (0:Int))))))+(x2.getD x9.toNat (0:Int))))+(x7.getD x9.toNat (0:Int))))+(IntKind.wrap .i64 ((ixor .i64 (ixor .i64 (sl2Turn (h0.getD ((0:Int).toNat) (0:Int)) (2:Int)) (sl2Turn (h0.getD ((0:Int).toNat) (0:Int)) (13:Int))) (sl2Turn (h0.getD ((0:Int).toNat) (0:Int)) (22:Int)))+(ixor .i64 (ixor .i64 (iand .i64 (h0.getD ((0:Int).toNat) (0:Int)) (h0.getD ((1:Int).toNat) (0:Int))) (iand .i64 (h0.getD ((0:Int).toNat) (0:Int)) (h0.getD ((2:Int).toNat) (0:Int)))) (iand .i64 (h0.getD ((1:Int).toNat) (0:Int)) (h0.getD ((2:Int).toNat) (0:Int)))))))) (4294967295:Int),h0.getD ((0:Int).toNat) (0:Int),h0.getD ((1:Int).toNat) (0:Int),h0.getD ((2:Int).toNat) (0:Int),iand .i64 (IntKind.wrap .i64 ((h0.getD ((3:Int).toNat) (0:Int))+(IntKind.wrap .i64 ((IntKind.wrap .i64 ((IntKind.wrap .i64 ((IntKind.wrap .i64 ((h0.getD ((7:Int).toNat) (0:Int))+(ixor .i64 (ixor .i64 (sl2Turn (h0.getD ((4:Int).toNat) (0:Int)) (6:Int)) (sl2Turn (h0.getD ((4:Int).toNat) (0:Int)) (11:Int))) (sl2Turn (h0.getD ((4:Int).toNat) (0:Int)) (25:Int)))))+(ixor .i64 (iand .i64 (h0.getD ((4:Int).toNat) (0:Int)) (h0.getD ((5:Int).toNat) (0:Int))) (iand .i64 (ixor .i64 (4294967295:Int) (h0.getD ((4:Int).toNat) (0:Int))) (h0.getD ((6:Int).toNat) (0:Int))))))+(x2.getD x9.toNat (0:Int))))+(x7.getD x9.toNat (0:Int)))))) (4294967295:Int),h0.getD ((4:Int).toNat) (0:Int),h0.getD ((5:Int).toNat) (0:Int),h0.getD ((6:Int).toNat) (0:Int)])],0,[]⟩:St))) none) none) none) none) none) none) none) none) none) none) none) none) none) none) none) none) none) none) none) none) none) none) (some ((.exit 0),(⟨((.t false t_si x0)::.junk::.junk::.junk::.junk::.junk::.junk::.junk::(.all 0 1)::jA135),[(.rows 3 true (.int .i64) h0)],0,[]⟩:St))))
theorem rdA_sl2Block_0:RdA G6 (fun _ _=>none) 0 body_sl2Block_0 S_sl2Block_0 0 [] (kepts [] [(0,[0,8])]) (ap_sl2Block_0 ox_sl2Block_0):=by
 intro d
 kernel_rfl
theorem rdB_sl2Block_0:∀ d:S_sl2Block_0.den,(ap_sl2Block_0 ox_sl2Block_0) d=(sp_sl2Block_0 d).opt 0 []:=by
 intro d
 kernel_rfl
noncomputable abbrev say_sl2Block_0:St→Option Tree:=S_sl2Block_0.say 0 [] [] (ap_sl2Block_0 T_sl2Block_0)
theorem lw_sl2Block_0:LoopWp Try.prog say_sl2Block_0 body_sl2Block_0:=SS.wp2 hlz [] sp_sl2Block_0 rdA_sl2Block_0 rdB_sl2Block_0 _ (fun d=>Runs.ofI2 (step:=sp_sl2Block_0) pv_sl2Block_0 rl_sl2Block_0 rfl (d.1.1,d.1.2.2.1,d.1.2.2.2.2.2.2.2.1,d.1.2.2.2.2.2.2.2.2.2.1,d.2.1))
noncomputable abbrev S_sl2Block_1:SS:=⟨(.t false t_si::.junk::.junk::.junk::.junk::.junk::.junk::.junk::.all 0 1::.junk::.junk::.junk::.junk::.junk::.junk::.junk::.junk::.junk::.t true (.int .i64)::jS125),[.rows 3 true (.int .i64)]⟩
noncomputable abbrev E_sl2Block_1_0:SS:=⟨(.junk::.junk::.junk::.junk::.junk::.junk::.junk::.junk::.all 0 1::jS135),[.rows 3 true (.int .i64)]⟩
noncomputable def st_sl2Block_1 (x0:List Int) (x18:Int) (h0:List Int):RT S_sl2Block_1.den:=(.br (decide (x18<(8:Int))) (.br (decide (0≤x18∧x18<((h0.length:Nat):Int))) (.br (decide (0≤x18∧x18<((x0.length:Nat):Int))) (.br (decide (0≤x18∧x18<((h0.length:Nat):Int))) (.next ((x0,(),(),(),(),(),(),(),(),(),(),(),(),(),(),(),(),(),IntKind.wrap .i64 (x18+(1:Int)),u126),(h0.set x18.toNat (iand .i64 (IntKind.wrap .i64 ((h0.getD x18.toNat (0:Int))+(x0.getD x18.toNat (0:Int)))) (4294967295:Int)),()))) .fail) .fail) .fail) (.done (.exit 2) E_sl2Block_1_0 ((u145),(h0,()))))
noncomputable abbrev V_sl2Block_1:=(List Int)×(Int)×(List Int)
noncomputable abbrev A_sl2Block_1:=Nat×(List Int)
noncomputable def fl_sl2Block_1:A_sl2Block_1:=(99,([]:List Int))
noncomputable def ss_sl2Block_1 (x0:List Int) (x18:Int) (h0:List Int):V_sl2Block_1 ⊕ A_sl2Block_1:=(cond (decide (x18<(8:Int))) (cond (decide (0≤x18∧x18<((h0.length:Nat):Int))) (cond (decide (0≤x18∧x18<((x0.length:Nat):Int))) (cond (decide (0≤x18∧x18<((h0.length:Nat):Int))) (.inl (x0,IntKind.wrap .i64 (x18+(1:Int)),h0.set x18.toNat (iand .i64 (IntKind.wrap .i64 ((h0.getD x18.toNat (0:Int))+(x0.getD x18.toNat (0:Int)))) (4294967295:Int)))) (.inr fl_sl2Block_1)) (.inr fl_sl2Block_1)) (.inr fl_sl2Block_1)) (.inr (0,h0)))
noncomputable def it_sl2Block_1 (x0:List Int) (x18:Int) (h0:List Int):A_sl2Block_1:=itX (fun v:V_sl2Block_1=>ss_sl2Block_1 v.1 v.2.1 v.2.2) fl_sl2Block_1 (x0,x18,h0)
noncomputable def ct_sl2Block_1 (a:A_sl2Block_1):CT:=(.br (a.1==0) (.done (.exit 2) E_sl2Block_1_0 ((u145),(a.2,()))) .fail)
noncomputable def T_sl2Block_1 (x0:List Int) (x18:Int) (h0:List Int):CT:=ct_sl2Block_1 (it_sl2Block_1 x0 x18 h0)
noncomputable abbrev ap_sl2Block_1 {α:Sort _} (f:(List Int)→Int→(List Int)→α) (d:S_sl2Block_1.den):α:=f d.1.1 d.1.2.2.2.2.2.2.2.2.2.2.2.2.2.2.2.2.2.2.1 d.2.1
noncomputable abbrev sp_sl2Block_1:S_sl2Block_1.den→RT S_sl2Block_1.den:=(ap_sl2Block_1 st_sl2Block_1)
noncomputable abbrev pv_sl2Block_1 (v:V_sl2Block_1):S_sl2Block_1.den:=((v.1,(),(),(),(),(),(),(),(),(),(),(),(),(),(),(),(),(),v.2.1,u126),(v.2.2,()))
theorem rl_sl2Block_1:(∀ v:V_sl2Block_1,(st_sl2Block_1 v.1 v.2.1 v.2.2).val=relS pv_sl2Block_1 ct_sl2Block_1 (ss_sl2Block_1 v.1 v.2.1 v.2.2))∧∀ a:A_sl2Block_1,CEnd S_sl2Block_1.den (ct_sl2Block_1 a):=⟨fun v=>(relB (relB (relB (relB rfl rfl) rfl) rfl) rfl),fun a=>(cendB (cendD (by simp)) cendF)⟩
noncomputable def ox_sl2Block_1 (x0:List Int) (x18:Int) (h0:List Int):Option (Ex×St):=(cond (decide (x18<(8:Int))) (cond (decide (0≤x18∧x18<((h0.length:Nat):Int))) (cond (decide (0≤x18∧x18<((x0.length:Nat):Int))) (cond (decide (0≤x18∧x18<((h0.length:Nat):Int))) (some (.normal,(⟨((.t false t_si x0)::.junk::.junk::.junk::.junk::.junk::.junk::.junk::(.all 0 1)::.junk::.junk::.junk::.junk::.junk::.junk::.junk::.junk::.junk::(.t true (.int .i64) (IntKind.wrap .i64 (x18+(1:Int))))::jA125),[(.rows 3 true (.int .i64) (h0.set x18.toNat (iand .i64 (IntKind.wrap .i64 ((h0.getD x18.toNat (0:Int))+(x0.getD x18.toNat (0:Int)))) (4294967295:Int))))],0,[]⟩:St))) none) none) none) (some ((.exit 2),(⟨(.junk::.junk::.junk::.junk::.junk::.junk::.junk::.junk::(.all 0 1)::jA135),[(.rows 3 true (.int .i64) h0)],0,[]⟩:St))))
theorem rdA_sl2Block_1:RdA G6 (fun _ _=>none) 2 body_sl2Block_1 S_sl2Block_1 0 [] (kepts [] [(2,[8])]) (ap_sl2Block_1 ox_sl2Block_1):=by
 intro d
 kernel_rfl
theorem rdB_sl2Block_1:∀ d:S_sl2Block_1.den,(ap_sl2Block_1 ox_sl2Block_1) d=(sp_sl2Block_1 d).opt 0 []:=by
 intro d
 kernel_rfl
noncomputable abbrev say_sl2Block_1:St→Option Tree:=S_sl2Block_1.say 0 [] [] (ap_sl2Block_1 T_sl2Block_1)
theorem lw_sl2Block_1:LoopWp Try.prog say_sl2Block_1 body_sl2Block_1:=SS.wp2 hlz [] sp_sl2Block_1 rdA_sl2Block_1 rdB_sl2Block_1 _ (fun d=>Runs.ofI2 (step:=sp_sl2Block_1) pv_sl2Block_1 rl_sl2Block_1 rfl (d.1.1,d.1.2.2.2.2.2.2.2.2.2.2.2.2.2.2.2.2.2.2.1,d.2.1))
noncomputable def k1_sl2Block (a0:List Int) (a1:List Int) (a2:List Int):=it_sl2Block_1 ((it_sl2Block_0 a0 a2 (sl2Words a1) (0:Int) (([]:List Int)++a0)).2.1) (0:Int) ((it_sl2Block_0 a0 a2 (sl2Words a1) (0:Int) (([]:List Int)++a0)).2.2)
noncomputable def sl2Block (a0:List Int) (a1:List Int) (a2:List Int):List Int:=((k1_sl2Block a0 a1 a2).2)
noncomputable abbrev e_sl2Block (r:List Int):AV×List AObj:=((.t true t_si r),[])
noncomputable abbrev g_sl2Block:pshsDen P_sl2Block→AV×List AObj:=fun d=>e_sl2Block (sl2Block d.1 d.2.1 d.2.2.1)
noncomputable def q_sl2Block (a0:List Int) (a1:List Int) (a2:List Int):Bool:=(q_sl2Words a1)&&((decide ((([]:List Int).length+a0.length)*8≤MAXB))&&(((it_sl2Block_0 a0 a2 (sl2Words a1) (0:Int) (([]:List Int)++a0)).1==0)&&((k1_sl2Block a0 a1 a2).1==0)))
noncomputable abbrev pre_sl2Block:pshsDen P_sl2Block→Bool:=fun d=>q_sl2Block d.1 d.2.1 d.2.2.1
noncomputable abbrev L_sl2Block:Nat→St→Option Tree:=fun b=>match b with | 0=>say_sl2Block_0 | 2=>say_sl2Block_1 | _=>fun _=>none
theorem run_sl2Block:RunP true G6 (L_sl2Block) Try.f111 P_sl2Block pre_sl2Block g_sl2Block:=by
 rintro ⟨a0,⟨a1,⟨a2,_⟩⟩⟩ hp
 change q_sl2Block a0 a1 a2=true at hp
 unfold q_sl2Block at hp
 refine Eq.trans (b:=(cond (q_sl2Words a1) (cond (decide ((([]:List Int).length+a0.length)*8≤MAXB)) (cond ((it_sl2Block_0 a0 a2 (sl2Words a1) (0:Int) (([]:List Int)++a0)).1==0) (cond ((k1_sl2Block a0 a1 a2).1==0) (some (e_sl2Block ((k1_sl2Block a0 a1 a2).2))) none) none) none) none)) (by kernel_rfl) ?_
 exact (cndA hp fun hp=>(cndA hp fun hp=>(cndA hp fun hp=>(cndT hp fun _h=>rfl))))
theorem c_sl2Block:PContract Try.prog 111 (sumOf P_sl2Block pre_sl2Block g_sl2Block):=pcD true G6 (by
  rw [show loopsIn 0 (bodyOf Try.f111)=[(0,body_sl2Block_0),(2,body_sl2Block_1)] by kernel_rfl];intro p hp;simp only [List.mem_cons,List.mem_nil_iff,or_false] at hp
  rcases hp with rfl | rfl
  ·exact lw_sl2Block_0
  ·exact lw_sl2Block_1) run_sl2Block
noncomputable def S7:Tab:=Tab.add S6 111 (lift (sumOf P_sl2Block pre_sl2Block g_sl2Block))
noncomputable def QF7:FuncId→Bool:=qadd QF6 111
theorem G7:Good Try.prog tt S7 QF7:=G6.addQ c_sl2Block (cbl Try.f111) (fun _=>rfl)

noncomputable abbrev jS53:List Sh:=.junk::.junk::.junk::.junk::.junk::.junk::.junk::.junk::.junk::.junk::.junk::.junk::.junk::.junk::.junk::.junk::.junk::.junk::.junk::.junk::.junk::.junk::.junk::jS30
noncomputable abbrev u54:=((),(),(),(),(),(),(),(),(),(),(),(),(),(),(),(),(),(),(),u35)
noncomputable abbrev jA53:List AV:=.junk::.junk::.junk::.junk::.junk::.junk::.junk::.junk::.junk::.junk::.junk::.junk::.junk::.junk::.junk::.junk::.junk::.junk::.junk::.junk::.junk::.junk::.junk::jA30
noncomputable abbrev jS51:List Sh:=.junk::.junk::.junk::.junk::.junk::.junk::.junk::.junk::.junk::.junk::.junk::.junk::.junk::.junk::.junk::.junk::.junk::.junk::.junk::.junk::.junk::jS30
noncomputable abbrev jS52:List Sh:=.junk::jS51
noncomputable abbrev u52:=((),(),(),(),(),(),(),(),(),(),(),(),(),(),(),(),(),u35)
noncomputable abbrev u61:=((),(),(),u58)
noncomputable abbrev jA51:List AV:=.junk::.junk::.junk::.junk::.junk::.junk::.junk::.junk::.junk::.junk::.junk::.junk::.junk::.junk::.junk::.junk::.junk::.junk::.junk::.junk::.junk::jA30
noncomputable abbrev jA52:List AV:=.junk::jA51
noncomputable abbrev P_sDigest:List PSh:=[.t t_sy]
noncomputable def body_sDigest_0:Code:=((loopsIn 0 (bodyOf Try.f65)).getD 0 (0,.skip)).2
noncomputable def body_sDigest_1:Code:=((loopsIn 0 (bodyOf Try.f65)).getD 1 (0,.skip)).2
noncomputable abbrev S_sDigest_0:SS:=⟨(.junk::.junk::.junk::.t true t_sy::.t true t_si::.t true t_si::.t true (.int .i64)::jS53),[]⟩
noncomputable abbrev E_sDigest_0_0:SS:=⟨(.junk::.junk::.junk::.junk::.t true t_si::jS55),[]⟩
noncomputable def st_sDigest_0 (x3:List Int) (x4:List Int) (x5:List Int) (x6:Int):RT S_sDigest_0.den:=(.br (decide (x6<((x3.length:Nat):Int))) (.br (decide (0≤x6∧x6≤(IntKind.wrap .i64 (x6+(64:Int)))∧(IntKind.wrap .i64 (x6+(64:Int)))≤((x3.length:Nat):Int))) (.br (q_sl2Block x4 ((x3.take (IntKind.wrap .i64 (x6+(64:Int))).toNat).drop x6.toNat) x5) (.next (((),(),(),x3,(sl2Block x4 ((x3.take (IntKind.wrap .i64 (x6+(64:Int))).toNat).drop x6.toNat) x5),x5,IntKind.wrap .i64 (x6+(64:Int)),u54),())) .fail) .fail) (.done (.exit 0) E_sDigest_0_0 (((),(),(),(),x4,u56),())))
noncomputable abbrev V_sDigest_0:=(List Int)×(List Int)×(List Int)×(Int)
noncomputable abbrev A_sDigest_0:=Nat×(List Int)
noncomputable def fl_sDigest_0:A_sDigest_0:=(99,([]:List Int))
noncomputable def ss_sDigest_0 (x3:List Int) (x4:List Int) (x5:List Int) (x6:Int):V_sDigest_0 ⊕ A_sDigest_0:=(cond (decide (x6<((x3.length:Nat):Int))) (cond (decide (0≤x6∧x6≤(IntKind.wrap .i64 (x6+(64:Int)))∧(IntKind.wrap .i64 (x6+(64:Int)))≤((x3.length:Nat):Int))) (cond (q_sl2Block x4 ((x3.take (IntKind.wrap .i64 (x6+(64:Int))).toNat).drop x6.toNat) x5) (.inl (x3,(sl2Block x4 ((x3.take (IntKind.wrap .i64 (x6+(64:Int))).toNat).drop x6.toNat) x5),x5,IntKind.wrap .i64 (x6+(64:Int)))) (.inr fl_sDigest_0)) (.inr fl_sDigest_0)) (.inr (0,x4)))
noncomputable def it_sDigest_0 (x3:List Int) (x4:List Int) (x5:List Int) (x6:Int):A_sDigest_0:=itX (fun v:V_sDigest_0=>ss_sDigest_0 v.1 v.2.1 v.2.2.1 v.2.2.2) fl_sDigest_0 (x3,x4,x5,x6)
noncomputable def ct_sDigest_0 (a:A_sDigest_0):CT:=(.br (a.1==0) (.done (.exit 0) E_sDigest_0_0 (((),(),(),(),a.2,u56),())) .fail)
noncomputable def T_sDigest_0 (x3:List Int) (x4:List Int) (x5:List Int) (x6:Int):CT:=ct_sDigest_0 (it_sDigest_0 x3 x4 x5 x6)
noncomputable abbrev ap_sDigest_0 {α:Sort _} (f:(List Int)→(List Int)→(List Int)→Int→α) (d:S_sDigest_0.den):α:=f d.1.2.2.2.1 d.1.2.2.2.2.1 d.1.2.2.2.2.2.1 d.1.2.2.2.2.2.2.1
noncomputable abbrev sp_sDigest_0:S_sDigest_0.den→RT S_sDigest_0.den:=(ap_sDigest_0 st_sDigest_0)
noncomputable abbrev pv_sDigest_0 (v:V_sDigest_0):S_sDigest_0.den:=(((),(),(),v.1,v.2.1,v.2.2.1,v.2.2.2,u54),())
theorem rl_sDigest_0:(∀ v:V_sDigest_0,(st_sDigest_0 v.1 v.2.1 v.2.2.1 v.2.2.2).val=relS pv_sDigest_0 ct_sDigest_0 (ss_sDigest_0 v.1 v.2.1 v.2.2.1 v.2.2.2))∧∀ a:A_sDigest_0,CEnd S_sDigest_0.den (ct_sDigest_0 a):=⟨fun v=>(relB (relB (relB rfl rfl) rfl) rfl),fun a=>(cendB (cendD (by simp)) cendF)⟩
noncomputable def ox_sDigest_0 (x3:List Int) (x4:List Int) (x5:List Int) (x6:Int):Option (Ex×St):=(cond (decide (x6<((x3.length:Nat):Int))) (cond (decide (0≤x6∧x6≤(IntKind.wrap .i64 (x6+(64:Int)))∧(IntKind.wrap .i64 (x6+(64:Int)))≤((x3.length:Nat):Int))) (cond (q_sl2Block x4 ((x3.take (IntKind.wrap .i64 (x6+(64:Int))).toNat).drop x6.toNat) x5) (some (.normal,(⟨(.junk::.junk::.junk::(.t true t_sy x3)::(.t true t_si (sl2Block x4 ((x3.take (IntKind.wrap .i64 (x6+(64:Int))).toNat).drop x6.toNat) x5))::(.t true t_si x5)::(.t true (.int .i64) (IntKind.wrap .i64 (x6+(64:Int))))::jA53),[],0,[]⟩:St))) none) none) (some ((.exit 0),(⟨(.junk::.junk::.junk::.junk::(.t true t_si x4)::jA55),[],0,[]⟩:St))))
theorem rdA_sDigest_0:RdA G7 (fun _ _=>none) 0 body_sDigest_0 S_sDigest_0 0 [] (kepts [] [(0,[4])]) (ap_sDigest_0 ox_sDigest_0):=by
 intro d
 kernel_rfl
theorem rdB_sDigest_0:∀ d:S_sDigest_0.den,(ap_sDigest_0 ox_sDigest_0) d=(sp_sDigest_0 d).opt 0 []:=by
 intro d
 kernel_rfl
noncomputable abbrev say_sDigest_0:St→Option Tree:=S_sDigest_0.say 0 [] [(4,1000000,.bool)] (ap_sDigest_0 T_sDigest_0)
theorem lw_sDigest_0:LoopWp Try.prog say_sDigest_0 body_sDigest_0:=SS.wp2 hlz [(4,1000000,.bool)] sp_sDigest_0 rdA_sDigest_0 rdB_sDigest_0 _ (fun d=>Runs.ofI2 (step:=sp_sDigest_0) pv_sDigest_0 rl_sDigest_0 rfl (d.1.2.2.2.1,d.1.2.2.2.2.1,d.1.2.2.2.2.2.1,d.1.2.2.2.2.2.2.1))
noncomputable abbrev S_sDigest_1:SS:=⟨(.junk::.junk::.junk::.junk::.t true t_si::.junk::.junk::.all 0 1::.t true (.int .i64)::jS51),[.rows 5 true (.int .u8)]⟩
noncomputable abbrev E_sDigest_1_0:SS:=⟨(.junk::.junk::.junk::.junk::.junk::.junk::.junk::.all 0 1::jS52),[.rows 5 true (.int .u8)]⟩
noncomputable def st_sDigest_1 (x4:List Int) (x8:Int) (h0:List Int):RT S_sDigest_1.den:=(.br (decide (x8<(8:Int))) (.br (decide (0≤x8∧x8<((x4.length:Nat):Int))) (.br (decide (0≤x8∧x8<((x4.length:Nat):Int))) (.br (decide (0≤x8∧x8<((x4.length:Nat):Int))) (.br (decide (0≤x8∧x8<((x4.length:Nat):Int))) (.br (decide ((h0.length+[IntKind.wrap .u8 (Int.fdiv (x4.getD x8.toNat (0:Int)) (2 ^ (24))),IntKind.wrap .u8 (Int.fdiv (x4.getD x8.toNat (0:Int)) (2 ^ (16))),IntKind.wrap .u8 (Int.fdiv (x4.getD x8.toNat (0:Int)) (2 ^ (8))),IntKind.wrap .u8 (x4.getD x8.toNat (0:Int))].length)*1≤MAXB)) (.next (((),(),(),(),x4,(),(),(),IntKind.wrap .i64 (x8+(1:Int)),u52),(h0++[IntKind.wrap .u8 (Int.fdiv (x4.getD x8.toNat (0:Int)) (2 ^ (24))),IntKind.wrap .u8 (Int.fdiv (x4.getD x8.toNat (0:Int)) (2 ^ (16))),IntKind.wrap .u8 (Int.fdiv (x4.getD x8.toNat (0:Int)) (2 ^ (8))),IntKind.wrap .u8 (x4.getD x8.toNat (0:Int))],()))) .fail) .fail) .fail) .fail) .fail) (.done (.exit 2) E_sDigest_1_0 ((u61),(h0,()))))
noncomputable abbrev V_sDigest_1:=(List Int)×(Int)×(List Int)
noncomputable abbrev A_sDigest_1:=Nat×(List Int)
noncomputable def fl_sDigest_1:A_sDigest_1:=(99,([]:List Int))
noncomputable def ss_sDigest_1 (x4:List Int) (x8:Int) (h0:List Int):V_sDigest_1 ⊕ A_sDigest_1:=(cond (decide (x8<(8:Int))) (cond (decide (0≤x8∧x8<((x4.length:Nat):Int))) (cond (decide (0≤x8∧x8<((x4.length:Nat):Int))) (cond (decide (0≤x8∧x8<((x4.length:Nat):Int))) (cond (decide (0≤x8∧x8<((x4.length:Nat):Int))) (cond (decide ((h0.length+[IntKind.wrap .u8 (Int.fdiv (x4.getD x8.toNat (0:Int)) (2 ^ (24))),IntKind.wrap .u8 (Int.fdiv (x4.getD x8.toNat (0:Int)) (2 ^ (16))),IntKind.wrap .u8 (Int.fdiv (x4.getD x8.toNat (0:Int)) (2 ^ (8))),IntKind.wrap .u8 (x4.getD x8.toNat (0:Int))].length)*1≤MAXB)) (.inl (x4,IntKind.wrap .i64 (x8+(1:Int)),h0++[IntKind.wrap .u8 (Int.fdiv (x4.getD x8.toNat (0:Int)) (2 ^ (24))),IntKind.wrap .u8 (Int.fdiv (x4.getD x8.toNat (0:Int)) (2 ^ (16))),IntKind.wrap .u8 (Int.fdiv (x4.getD x8.toNat (0:Int)) (2 ^ (8))),IntKind.wrap .u8 (x4.getD x8.toNat (0:Int))])) (.inr fl_sDigest_1)) (.inr fl_sDigest_1)) (.inr fl_sDigest_1)) (.inr fl_sDigest_1)) (.inr fl_sDigest_1)) (.inr (0,h0)))
noncomputable def it_sDigest_1 (x4:List Int) (x8:Int) (h0:List Int):A_sDigest_1:=itX (fun v:V_sDigest_1=>ss_sDigest_1 v.1 v.2.1 v.2.2) fl_sDigest_1 (x4,x8,h0)
noncomputable def ct_sDigest_1 (a:A_sDigest_1):CT:=(.br (a.1==0) (.done (.exit 2) E_sDigest_1_0 ((u61),(a.2,()))) .fail)
noncomputable def T_sDigest_1 (x4:List Int) (x8:Int) (h0:List Int):CT:=ct_sDigest_1 (it_sDigest_1 x4 x8 h0)
noncomputable abbrev ap_sDigest_1 {α:Sort _} (f:(List Int)→Int→(List Int)→α) (d:S_sDigest_1.den):α:=f d.1.2.2.2.2.1 d.1.2.2.2.2.2.2.2.2.1 d.2.1
noncomputable abbrev sp_sDigest_1:S_sDigest_1.den→RT S_sDigest_1.den:=(ap_sDigest_1 st_sDigest_1)
noncomputable abbrev pv_sDigest_1 (v:V_sDigest_1):S_sDigest_1.den:=(((),(),(),(),v.1,(),(),(),v.2.1,u52),(v.2.2,()))
theorem rl_sDigest_1:(∀ v:V_sDigest_1,(st_sDigest_1 v.1 v.2.1 v.2.2).val=relS pv_sDigest_1 ct_sDigest_1 (ss_sDigest_1 v.1 v.2.1 v.2.2))∧∀ a:A_sDigest_1,CEnd S_sDigest_1.den (ct_sDigest_1 a):=⟨fun v=>by repeat' first | apply relB | rfl,fun a=>(cendB (cendD (by simp)) cendF)⟩
noncomputable def ox_sDigest_1 (x4:List Int) (x8:Int) (h0:List Int):Option (Ex×St):=(cond (decide (x8<(8:Int))) (cond (decide (0≤x8∧x8<((x4.length:Nat):Int))) (cond (decide (0≤x8∧x8<((x4.length:Nat):Int))) (cond (decide (0≤x8∧x8<((x4.length:Nat):Int))) (cond (decide (0≤x8∧x8<((x4.length:Nat):Int))) (cond (decide ((h0.length+[IntKind.wrap .u8 (Int.fdiv (x4.getD x8.toNat (0:Int)) (2 ^ (24))),IntKind.wrap .u8 (Int.fdiv (x4.getD x8.toNat (0:Int)) (2 ^ (16))),IntKind.wrap .u8 (Int.fdiv (x4.getD x8.toNat (0:Int)) (2 ^ (8))),IntKind.wrap .u8 (x4.getD x8.toNat (0:Int))].length)*1≤MAXB)) (some (.normal,(⟨(.junk::.junk::.junk::.junk::(.t true t_si x4)::.junk::.junk::(.all 0 1)::(.t true (.int .i64) (IntKind.wrap .i64 (x8+(1:Int))))::jA51),[(.rows 5 true (.int .u8) (h0++[IntKind.wrap .u8 (Int.fdiv (x4.getD x8.toNat (0:Int)) (2 ^ (24))),IntKind.wrap .u8 (Int.fdiv (x4.getD x8.toNat (0:Int)) (2 ^ (16))),IntKind.wrap .u8 (Int.fdiv (x4.getD x8.toNat (0:Int)) (2 ^ (8))),IntKind.wrap .u8 (x4.getD x8.toNat (0:Int))]))],0,[]⟩:St))) none) none) none) none) none) (some ((.exit 2),(⟨(.junk::.junk::.junk::.junk::.junk::.junk::.junk::(.all 0 1)::jA52),[(.rows 5 true (.int .u8) h0)],0,[]⟩:St))))
theorem rdA_sDigest_1:RdA G7 (fun _ _=>none) 2 body_sDigest_1 S_sDigest_1 0 [] (kepts [] [(2,[7])]) (ap_sDigest_1 ox_sDigest_1):=by
 intro d
 kernel_rfl
theorem rdB_sDigest_1:∀ d:S_sDigest_1.den,(ap_sDigest_1 ox_sDigest_1) d=(sp_sDigest_1 d).opt 0 []:=by
 intro d
 kernel_rfl
noncomputable abbrev say_sDigest_1:St→Option Tree:=S_sDigest_1.say 0 [] [] (ap_sDigest_1 T_sDigest_1)
theorem lw_sDigest_1:LoopWp Try.prog say_sDigest_1 body_sDigest_1:=SS.wp2 hlz [] sp_sDigest_1 rdA_sDigest_1 rdB_sDigest_1 _ (fun d=>Runs.ofI2 (step:=sp_sDigest_1) pv_sDigest_1 rl_sDigest_1 rfl (d.1.2.2.2.2.1,d.1.2.2.2.2.2.2.2.2.1,d.2.1))
noncomputable def k1_sDigest (a0:List Int):=it_sDigest_0 (sPadded a0) [(1779033703:Int),(3144134277:Int),(1013904242:Int),(2773480762:Int),(1359893119:Int),(2600822924:Int),(528734635:Int),(1541459225:Int)] sl2K (0:Int)
noncomputable def sDigest (a0:List Int):ByteArray:=(⟨(((it_sDigest_1 ((k1_sDigest a0).2) (0:Int) ([]:List Int)).2).map fun n=>UInt8.ofNat n.toNat).toArray⟩:ByteArray)
noncomputable abbrev e_sDigest (r:ByteArray):AV×List AObj:=((.t true .str r),[])
noncomputable abbrev g_sDigest:pshsDen P_sDigest→AV×List AObj:=fun d=>e_sDigest (sDigest d.1)
noncomputable def q_sDigest (a0:List Int):Bool:=(q_sPadded a0)&&(((k1_sDigest a0).1==0)&&((it_sDigest_1 ((k1_sDigest a0).2) (0:Int) ([]:List Int)).1==0))
noncomputable abbrev pre_sDigest:pshsDen P_sDigest→Bool:=fun d=>q_sDigest d.1
noncomputable abbrev L_sDigest:Nat→St→Option Tree:=fun b=>match b with | 0=>say_sDigest_0 | 2=>say_sDigest_1 | _=>fun _=>none
theorem run_sDigest:RunP true G7 (L_sDigest) Try.f65 P_sDigest pre_sDigest g_sDigest:=by
 rintro ⟨a0,_⟩ hp
 change q_sDigest a0=true at hp
 unfold q_sDigest at hp
 refine Eq.trans (b:=(cond (q_sPadded a0) (cond ((k1_sDigest a0).1==0) (cond ((it_sDigest_1 ((k1_sDigest a0).2) (0:Int) ([]:List Int)).1==0) (some (e_sDigest (⟨(((it_sDigest_1 ((k1_sDigest a0).2) (0:Int) ([]:List Int)).2).map fun n=>UInt8.ofNat n.toNat).toArray⟩:ByteArray))) none) none) none)) (by kernel_rfl) ?_
 exact (cndA hp fun hp=>(cndA hp fun hp=>(cndT hp fun _h=>rfl)))
theorem c_sDigest:PContract Try.prog 65 (sumOf P_sDigest pre_sDigest g_sDigest):=pcD true G7 (by
  rw [show loopsIn 0 (bodyOf Try.f65)=[(0,body_sDigest_0),(2,body_sDigest_1)] by kernel_rfl];intro p hp;simp only [List.mem_cons,List.mem_nil_iff,or_false] at hp
  rcases hp with rfl | rfl
  ·exact lw_sDigest_0
  ·exact lw_sDigest_1) run_sDigest
noncomputable def S8:Tab:=Tab.add S7 65 (lift (sumOf P_sDigest pre_sDigest g_sDigest))
noncomputable def QF8:FuncId→Bool:=qadd QF7 65
theorem G8:Good Try.prog tt S8 QF8:=G7.addQ c_sDigest (cbl Try.f65) (fun _=>rfl)

noncomputable abbrev P_sGetText:List PSh:=[.t t_sy,.t (.int .i64)]
noncomputable def sGetText (a0:List Int) (a1:Int):ByteArray×Int×Bool:=(cond (!((sGetNum a0 a1).2.2)) (bE,(0:Int),false) (cond (decide (((sGetNum a0 a1).1) > (IntKind.wrap .i64 (((a0.length:Nat):Int) - ((sGetNum a0 a1).2.1))))) (bE,(0:Int),false) ((⟨(((a0.take (IntKind.wrap .i64 (((sGetNum a0 a1).2.1)+((sGetNum a0 a1).1))).toNat).drop ((sGetNum a0 a1).2.1).toNat).map fun n=>UInt8.ofNat n.toNat).toArray⟩:ByteArray),IntKind.wrap .i64 (((sGetNum a0 a1).2.1)+((sGetNum a0 a1).1)),true)))
noncomputable abbrev e_sGetText (r:ByteArray×Int×Bool):AV×List AObj:=((.tup [(.t true .str r.1),(.t true (.int .i64) r.2.1),(.t true .bool r.2.2)]),[])
noncomputable abbrev g_sGetText:pshsDen P_sGetText→AV×List AObj:=fun d=>e_sGetText (sGetText d.1 d.2.1)
noncomputable def q_sGetText (a0:List Int) (a1:Int):Bool:=(q_sGetNum a0 a1)&&(cond (!((sGetNum a0 a1).2.2)) true (cond (decide (((sGetNum a0 a1).1) > (IntKind.wrap .i64 (((a0.length:Nat):Int) - ((sGetNum a0 a1).2.1))))) true (decide (0≤((sGetNum a0 a1).2.1)∧((sGetNum a0 a1).2.1)≤(IntKind.wrap .i64 (((sGetNum a0 a1).2.1)+((sGetNum a0 a1).1)))∧(IntKind.wrap .i64 (((sGetNum a0 a1).2.1)+((sGetNum a0 a1).1)))≤((a0.length:Nat):Int)))))
noncomputable abbrev pre_sGetText:pshsDen P_sGetText→Bool:=fun d=>q_sGetText d.1 d.2.1
theorem run_sGetText:RunP true G8 (fun _ _=>none) Try.f123 P_sGetText pre_sGetText g_sGetText:=by
 rintro ⟨a0,⟨a1,_⟩⟩ hp
 change q_sGetText a0 a1=true at hp
 unfold q_sGetText at hp
 refine Eq.trans (b:=(cond (q_sGetNum a0 a1) (cond (!((sGetNum a0 a1).2.2)) (some (e_sGetText ((⟨#[]⟩:ByteArray),(0:Int),false))) (cond (decide (((sGetNum a0 a1).1) > (IntKind.wrap .i64 (((a0.length:Nat):Int) - ((sGetNum a0 a1).2.1))))) (some (e_sGetText ((⟨#[]⟩:ByteArray),(0:Int),false))) (cond (decide (0≤((sGetNum a0 a1).2.1)∧((sGetNum a0 a1).2.1)≤(IntKind.wrap .i64 (((sGetNum a0 a1).2.1)+((sGetNum a0 a1).1)))∧(IntKind.wrap .i64 (((sGetNum a0 a1).2.1)+((sGetNum a0 a1).1)))≤((a0.length:Nat):Int))) (some (e_sGetText ((⟨(((a0.take (IntKind.wrap .i64 (((sGetNum a0 a1).2.1)+((sGetNum a0 a1).1))).toNat).drop ((sGetNum a0 a1).2.1).toNat).map fun n=>UInt8.ofNat n.toNat).toArray⟩:ByteArray),IntKind.wrap .i64 (((sGetNum a0 a1).2.1)+((sGetNum a0 a1).1)),true))) none))) none)) (by kernel_rfl) ?_
 exact (cndA hp fun hp=>(cndE e_sGetText hp (fun hp=>rfl) (fun hp=>(cndE e_sGetText hp (fun hp=>rfl) (fun hp=>(cndT hp fun _h=>rfl))))))
theorem c_sGetText:PContract Try.prog 123 (sumOf P_sGetText pre_sGetText g_sGetText):=pcD true G8 hlz run_sGetText
noncomputable def S9:Tab:=Tab.add S8 123 (lift (sumOf P_sGetText pre_sGetText g_sGetText))
noncomputable def QF9:FuncId→Bool:=qadd QF8 123
theorem G9:Good Try.prog tt S9 QF9:=G8.addQ c_sGetText (cbl Try.f123) (fun _=>rfl)

noncomputable abbrev P_sl1In:List PSh:=[.t (.int .i64),.t (.int .i64),.t (.int .i64)]
noncomputable def sl1In (a0:Int) (a1:Int) (a2:Int):Bool:=(cond (decide (a0 ≥ a1)) (decide (a0≤a2)) false)
noncomputable abbrev e_sl1In (r:Bool):AV×List AObj:=((.t true .bool r),[])
noncomputable abbrev g_sl1In:pshsDen P_sl1In→AV×List AObj:=fun d=>e_sl1In (sl1In d.1 d.2.1 d.2.2.1)
noncomputable abbrev pre_sl1In:pshsDen P_sl1In→Bool:=fun d=>true
theorem run_sl1In:RunP true G9 (fun _ _=>none) Try.f72 P_sl1In pre_sl1In g_sl1In:=by
 rintro ⟨a0,⟨a1,⟨a2,_⟩⟩⟩ hp
 refine Eq.trans (b:=(cond (decide (a0 ≥ a1)) (some (e_sl1In (decide (a0≤a2)))) (some (e_sl1In false)))) (by kernel_rfl) ?_
 exact (cndG e_sl1In (fun _h=>rfl) (fun _h=>rfl))
theorem c_sl1In:PContract Try.prog 72 (sumOf P_sl1In pre_sl1In g_sl1In):=pcD true G9 hlz run_sl1In
noncomputable def S10:Tab:=Tab.add S9 72 (lift (sumOf P_sl1In pre_sl1In g_sl1In))
noncomputable def QF10:FuncId→Bool:=qadd QF9 72
theorem G10:Good Try.prog tt S10 QF10:=G9.addQ c_sl1In (cbl Try.f72) (fun _=>rfl)

noncomputable abbrev jS23:List Sh:=.junk::.junk::.junk::.junk::.junk::jS18
noncomputable abbrev jS24:List Sh:=.junk::jS23
noncomputable abbrev jS26:List Sh:=.junk::.junk::jS24
noncomputable abbrev u25:=((),(),u23)
noncomputable abbrev u24:=((),u23)
noncomputable abbrev u27:=((),(),u25)
noncomputable def sKeyAt (s:ByteArray) (i:Nat):Bool:=sl1In (IntKind.wrap .i64 (bt s (i:Int))) 97 122||sl1In (IntKind.wrap .i64 (bt s (i:Int))) 48 57
noncomputable abbrev P_sKeyOk:List PSh:=[.t .str]
noncomputable abbrev S_sKeyOk_0:SS:=⟨(.t true .str::.junk::.junk::.t true (.int .i64)::jS23),[]⟩
noncomputable abbrev E_sKeyOk_0_0:SS:=⟨(.junk::.junk::.t true .bool::jS24),[]⟩
noncomputable abbrev E_sKeyOk_0_1:SS:=⟨(.t true .str::jS26),[]⟩
noncomputable def st_sKeyOk_0 (x0:ByteArray) (x3:Int):RT S_sKeyOk_0.den:=(.br (decide (x3<((x0.size:Nat):Int))) (.br (decide (0≤x3∧x3<((x0.size:Nat):Int))) (.br (!(sl1In (IntKind.wrap .i64 (bt x0 x3)) (97:Int) (122:Int))) (.br (decide (0≤x3∧x3<((x0.size:Nat):Int))) (.br (!(sl1In (IntKind.wrap .i64 (bt x0 x3)) (48:Int) (57:Int))) (.done .ret E_sKeyOk_0_0 (((),(),false,u25),())) (.next ((x0,(),(),IntKind.wrap .i64 (x3+(1:Int)),u24),()))) .fail) (.next ((x0,(),(),IntKind.wrap .i64 (x3+(1:Int)),u24),()))) .fail) (.done (.exit 0) E_sKeyOk_0_1 ((x0,u27),())))
noncomputable def T_sKeyOk_0 (x0:ByteArray) (x3:Int):CT:=(.br (decide (0≤x3)&&okS x0) (.br (allF (sKeyAt x0) (x0.size - x3.toNat) x3.toNat) (.done (.exit 0) E_sKeyOk_0_1 ((x0,u27),())) (.done .ret E_sKeyOk_0_0 (((),(),false,u25),()))) .fail)
noncomputable abbrev sp_sKeyOk_0:S_sKeyOk_0.den→RT S_sKeyOk_0.den:=(fun d=>st_sKeyOk_0 d.1.1 d.1.2.2.2.1)
noncomputable abbrev pk_sKeyOk_0 (x0:ByteArray) (x3:Int):S_sKeyOk_0.den:=((x0,(),(),x3,u24),())
noncomputable def body_sKeyOk_0:Code:=((loopsIn 0 (bodyOf Try.f154)).getD 0 (0,.skip)).2
theorem R_sKeyOk_0 (x0:ByteArray) (x3:Int):(T_sKeyOk_0 x0 x3).val (D:=S_sKeyOk_0.den)=.fail∨Runs sp_sKeyOk_0 (pk_sKeyOk_0 x0 x3) (T_sKeyOk_0 x0 x3).val:=by
 cases hc:(decide (0≤x3)&&okS x0) with
 | false=>left;simp only [T_sKeyOk_0,CT.val,hc,cond_false]
 | true =>
  right
  simp only [T_sKeyOk_0,CT.val,hc,cond_true]
  simp only [Bool.and_eq_true,decide_eq_true_eq] at hc
  obtain ⟨i,rfl⟩:=Int.eq_ofNat_of_zero_le hc.1
  have hs:=okS_le hc.2
  simp only [Int.toNat_natCast]
  refine Runs.scan (fun j=>pk_sKeyOk_0 x0 (j:Int)) (x0.size) (sKeyAt x0) (fun i hi=>?_) (fun i hi=>?_) ⟨_,_,_,rfl,by simp⟩ ⟨_,_,_,rfl,by simp⟩ _ _ rfl
  ·
   have h0a:decide ((i:Int)<((x0.size:Nat):Int))=true:=decide_eq_true (by omega)
   have h0b:decide (0≤(i:Int)∧(i:Int)<((x0.size:Nat):Int))=true:=decide_eq_true (by omega)
   simp only [sp_sKeyOk_0,st_sKeyOk_0,RT.val,h0a,h0b,cond_true,wrapS i (by omega),Int.toNat_natCast]
   simp only [sKeyAt]
   cases sl1In (IntKind.wrap .i64 (bt x0 (i:Int))) 97 122<;>cases sl1In (IntKind.wrap .i64 (bt x0 (i:Int))) 48 57<;>rfl
  ·have h1:decide ((i:Int)<((x0.size:Nat):Int))=false:=decide_eq_false (by omega)
   simp only [sp_sKeyOk_0,st_sKeyOk_0,RT.val,h1,cond_false]
theorem rdA_sKeyOk_0:RdA G10 (fun _ _=>none) 0 body_sKeyOk_0 S_sKeyOk_0 0 [] (kepts [2] [(0,[0])]) (fun d=>(sp_sKeyOk_0 d).opt 0 []):=by
 intro d
 kernel_rfl
noncomputable abbrev say_sKeyOk_0:St→Option Tree:=S_sKeyOk_0.say 0 [] [] (fun d=>T_sKeyOk_0 d.1.1 d.1.2.2.2.1)
theorem lw_sKeyOk_0:LoopWp Try.prog say_sKeyOk_0 body_sKeyOk_0:=SS.wp2 hlz [] sp_sKeyOk_0 rdA_sKeyOk_0 (fun d=>rfl) _ (fun d=>R_sKeyOk_0 d.1.1 d.1.2.2.2.1)
noncomputable def sKeyOk (a0:ByteArray):Bool:=(cond (allF (sKeyAt a0) (a0.size - (0:Int).toNat) (0:Int).toNat) (sl1In ((a0.size:Nat):Int) (1:Int) (12:Int)) false)
noncomputable abbrev e_sKeyOk (r:Bool):AV×List AObj:=((.t true .bool r),[])
noncomputable abbrev g_sKeyOk:pshsDen P_sKeyOk→AV×List AObj:=fun d=>e_sKeyOk (sKeyOk d.1)
noncomputable def q_sKeyOk (a0:ByteArray):Bool:=okS a0
noncomputable abbrev pre_sKeyOk:pshsDen P_sKeyOk→Bool:=fun d=>q_sKeyOk d.1
noncomputable abbrev L_sKeyOk:Nat→St→Option Tree:=fun b=>match b with | 0=>say_sKeyOk_0 | _=>fun _=>none
theorem run_sKeyOk:RunP true G10 (L_sKeyOk) Try.f154 P_sKeyOk pre_sKeyOk g_sKeyOk:=by
 rintro ⟨a0,_⟩ hp
 change q_sKeyOk a0=true at hp
 unfold q_sKeyOk at hp
 refine Eq.trans (b:=(cond (decide (0≤(0:Int))&&okS a0) (cond (allF (sKeyAt a0) (a0.size - (0:Int).toNat) (0:Int).toNat) (some (e_sKeyOk (sl1In ((a0.size:Nat):Int) (1:Int) (12:Int)))) (some (e_sKeyOk false))) none)) (by kernel_rfl) ?_
 exact (cndT (by first | rfl | decide | exact hp | (simp only [Bool.and_eq_true] at hp;simp only [hp];done) | (simp [*];done) | (simp [okL] at hp;simp [okL,MAXB];omega) | (simp_all;done) | (simp at *;omega)) (fun _h=>(cndG e_sKeyOk (fun _h=>rfl) (fun _h=>rfl))))
theorem c_sKeyOk:PContract Try.prog 154 (sumOf P_sKeyOk pre_sKeyOk g_sKeyOk):=pcD true G10 (hl1 (i:=0) (by kernel_rfl) lw_sKeyOk_0) run_sKeyOk
noncomputable def S11:Tab:=Tab.add S10 154 (lift (sumOf P_sKeyOk pre_sKeyOk g_sKeyOk))
noncomputable def QF11:FuncId→Bool:=qadd QF10 154
theorem G11:Good Try.prog tt S11 QF11:=G10.addQ c_sKeyOk (cbl Try.f154) (fun _=>rfl)

noncomputable abbrev P_sl7Op:List PSh:=[.agg [(.int .i64),.str,.str]]
noncomputable def sl7Op (a0:Int) (a1:ByteArray) (a2:ByteArray):Bool:=(cond (!(sl1In a0 (1:Int) (3:Int))) false (cond (a0==(2:Int)) (cond (!(a2.toList==bE.toList)) false (cond (sKeyOk a1) (decide (((a2.size:Nat):Int)≤(20:Int))) false)) (cond (sKeyOk a1) (decide (((a2.size:Nat):Int)≤(20:Int))) false)))
noncomputable abbrev e_sl7Op (r:Bool):AV×List AObj:=((.t true .bool r),[])
noncomputable abbrev g_sl7Op:pshsDen P_sl7Op→AV×List AObj:=fun d=>e_sl7Op (sl7Op d.1.1 d.1.2.1 d.1.2.2.1)
noncomputable def q_sl7Op (a0:Int) (a1:ByteArray) (a2:ByteArray):Bool:=okS a1
noncomputable abbrev pre_sl7Op:pshsDen P_sl7Op→Bool:=fun d=>q_sl7Op d.1.1 d.1.2.1 d.1.2.2.1
theorem run_sl7Op:RunP true G11 (fun _ _=>none) Try.f118 P_sl7Op pre_sl7Op g_sl7Op:=by
 rintro ⟨⟨a0,⟨a1,⟨a2,_⟩⟩⟩,_⟩ hp
 change q_sl7Op a0 a1 a2=true at hp
 unfold q_sl7Op at hp
 refine Eq.trans (b:=(cond (!(sl1In a0 (1:Int) (3:Int))) (some (e_sl7Op false)) (cond (a0==(2:Int)) (cond (!(a2.toList==(⟨#[]⟩:ByteArray).toList)) (some (e_sl7Op false)) (cond (q_sKeyOk a1) (cond (sKeyOk a1) (some (e_sl7Op (decide (((a2.size:Nat):Int)≤(20:Int))))) (some (e_sl7Op false))) none)) (cond (q_sKeyOk a1) (cond (sKeyOk a1) (some (e_sl7Op (decide (((a2.size:Nat):Int)≤(20:Int))))) (some (e_sl7Op false))) none)))) (by kernel_rfl) ?_
 exact (cndG e_sl7Op (fun _h=>rfl) (fun _h=>(cndG e_sl7Op (fun _h=>(cndG e_sl7Op (fun _h=>rfl) (fun _h=>(cndT (by first | rfl | decide | exact hp | (simp only [Bool.and_eq_true] at hp;simp only [hp];done) | (simp [*];done) | (simp [okL] at hp;simp [okL,MAXB];omega) | (simp_all;done) | (simp at *;omega)) (fun _h=>(cndG e_sl7Op (fun _h=>rfl) (fun _h=>rfl))))))) (fun _h=>(cndT (by first | rfl | decide | exact hp | (simp only [Bool.and_eq_true] at hp;simp only [hp];done) | (simp [*];done) | (simp [okL] at hp;simp [okL,MAXB];omega) | (simp_all;done) | (simp at *;omega)) (fun _h=>(cndG e_sl7Op (fun _h=>rfl) (fun _h=>rfl))))))))
theorem c_sl7Op:PContract Try.prog 118 (sumOf P_sl7Op pre_sl7Op g_sl7Op):=pcD true G11 hlz run_sl7Op
noncomputable def S12:Tab:=Tab.add S11 118 (lift (sumOf P_sl7Op pre_sl7Op g_sl7Op))
noncomputable def QF12:FuncId→Bool:=qadd QF11 118
theorem G12:Good Try.prog tt S12 QF12:=G11.addQ c_sl7Op (cbl Try.f118) (fun _=>rfl)

noncomputable abbrev jS33:List Sh:=.junk::.junk::.junk::jS30
noncomputable abbrev jS34:List Sh:=.junk::jS33
noncomputable abbrev jS36:List Sh:=.junk::.junk::jS34
noncomputable abbrev u37:=((),(),u35)
noncomputable abbrev jA34:List AV:=.junk::.junk::.junk::.junk::jA30
noncomputable abbrev jA33:List AV:=.junk::.junk::.junk::jA30
noncomputable abbrev jA36:List AV:=.junk::.junk::jA34
noncomputable def sOpAt (l:Lq1) (i:Nat):Bool:=sl7Op (l.getD i dOp).1 (l.getD i dOp).2.1 (l.getD i dOp).2.2&&(decide (i=0)||Op.bytesLess (l.getD (i - 1) dOp).2.1.toList (l.getD i dOp).2.1.toList)
noncomputable abbrev P_sOpsOk:List PSh:=[.t tq2]
noncomputable abbrev S_sOpsOk_0:SS:=⟨(.t false tq2::.junk::.junk::.t true (.int .i64)::jS33),[]⟩
noncomputable abbrev E_sOpsOk_0_0:SS:=⟨(.junk::.junk::.t true .bool::jS34),[]⟩
noncomputable abbrev E_sOpsOk_0_1:SS:=⟨(.t false tq2::jS36),[]⟩
noncomputable def st_sOpsOk_0 (x0:Lq1) (x3:Int):RT S_sOpsOk_0.den:=(.br (decide (x3<((x0.length:Nat):Int))) (.br (decide (0≤x3∧x3<((x0.length:Nat):Int))) (.br (q_sl7Op ((x0.getD x3.toNat ((0:Int),(bE,bE))).1) (((x0.getD x3.toNat ((0:Int),(bE,bE))).2).1) (((x0.getD x3.toNat ((0:Int),(bE,bE))).2).2)) (.br (!(sl7Op ((x0.getD x3.toNat ((0:Int),(bE,bE))).1) (((x0.getD x3.toNat ((0:Int),(bE,bE))).2).1) (((x0.getD x3.toNat ((0:Int),(bE,bE))).2).2))) (.done .ret E_sOpsOk_0_0 (((),(),false,u35),())) (.br (decide (x3 > (0:Int))) (.br (decide (0≤(IntKind.wrap .i64 (x3 - (1:Int)))∧(IntKind.wrap .i64 (x3 - (1:Int)))<((x0.length:Nat):Int))) (.br (decide (0≤x3∧x3<((x0.length:Nat):Int))) (.br (!(Op.bytesLess (((x0.getD ((IntKind.wrap .i64 (x3 - (1:Int))).toNat) ((0:Int),(bE,bE))).2).1).toList (((x0.getD x3.toNat ((0:Int),(bE,bE))).2).1).toList)) (.done .ret E_sOpsOk_0_0 (((),(),false,u35),())) (.next ((x0,(),(),IntKind.wrap .i64 (x3+(1:Int)),u34),()))) .fail) .fail) (.next ((x0,(),(),IntKind.wrap .i64 (x3+(1:Int)),u34),())))) .fail) .fail) (.done (.exit 0) E_sOpsOk_0_1 ((x0,u37),())))
noncomputable def T_sOpsOk_0 (x0:Lq1) (x3:Int):CT:=(.br (decide (0≤x3)&&okOps x0) (.br (allF (sOpAt x0) (x0.length - x3.toNat) x3.toNat) (.done (.exit 0) E_sOpsOk_0_1 ((x0,u37),())) (.done .ret E_sOpsOk_0_0 (((),(),false,u35),()))) .fail)
noncomputable abbrev sp_sOpsOk_0:S_sOpsOk_0.den→RT S_sOpsOk_0.den:=(fun d=>st_sOpsOk_0 d.1.1 d.1.2.2.2.1)
noncomputable abbrev pk_sOpsOk_0 (x0:Lq1) (x3:Int):S_sOpsOk_0.den:=((x0,(),(),x3,u34),())
noncomputable def body_sOpsOk_0:Code:=((loopsIn 0 (bodyOf Try.f73)).getD 0 (0,.skip)).2
theorem R_sOpsOk_0 (x0:Lq1) (x3:Int):(T_sOpsOk_0 x0 x3).val (D:=S_sOpsOk_0.den)=.fail∨Runs sp_sOpsOk_0 (pk_sOpsOk_0 x0 x3) (T_sOpsOk_0 x0 x3).val:=by
 cases hc:(decide (0≤x3)&&okOps x0) with
 | false=>left;simp only [T_sOpsOk_0,CT.val,hc,cond_false]
 | true =>
  right
  simp only [T_sOpsOk_0,CT.val,hc,cond_true]
  simp only [Bool.and_eq_true,decide_eq_true_eq] at hc
  obtain ⟨i,rfl⟩:=Int.eq_ofNat_of_zero_le hc.1
  have hs:=okOps_len hc.2
  simp only [Int.toNat_natCast]
  refine Runs.scan (fun j=>pk_sOpsOk_0 x0 (j:Int)) (x0.length) (sOpAt x0) (fun i hi=>?_) (fun i hi=>?_) ⟨_,_,_,rfl,by simp⟩ ⟨_,_,_,rfl,by simp⟩ _ _ rfl
  ·
   have h0a:decide ((i:Int)<((x0.length:Nat):Int))=true:=decide_eq_true (by omega)
   have h0b:decide (0≤(i:Int)∧(i:Int)<((x0.length:Nat):Int))=true:=decide_eq_true (by omega)
   simp only [sp_sOpsOk_0,st_sOpsOk_0,RT.val,h0a,h0b,cond_true,wrapS i (by omega),Int.toNat_natCast]
   have hq:q_sl7Op (x0.getD i dOp).1 (x0.getD i dOp).2.1 (x0.getD i dOp).2.2=true:=(okOps_at hc.2 i hi).1
   simp only [dOp] at hq
   simp only [hq,cond_true,sOpAt,dOp]
   cases sl7Op (x0.getD i ((0:Int),((⟨#[]⟩:ByteArray),(⟨#[]⟩:ByteArray)))).1 (x0.getD i ((0:Int),((⟨#[]⟩:ByteArray),(⟨#[]⟩:ByteArray)))).2.1 (x0.getD i ((0:Int),((⟨#[]⟩:ByteArray),(⟨#[]⟩:ByteArray)))).2.2 with
   | false=>rfl
   | true =>
    cases i with
    | zero=>rfl
    | succ i =>
     have h3:decide (((i+1:Nat):Int) > 0)=true:=decide_eq_true (by omega)
     have h4:IntKind.wrap .i64 (((i+1:Nat):Int) - 1)=(i:Int):=by have:=wrap64 (n:=((i+1:Nat):Int) - 1) (by omega) (by omega);omega
     have h5:decide (0≤(i:Int)∧(i:Int)<((x0.length:Nat):Int))=true:=decide_eq_true (by omega)
     have h6:decide (i+1=0)=false:=by simp
     simp only [h3,h4,h5,h6,cond_true,Bool.true_and,Bool.false_or,Int.toNat_natCast,Nat.add_sub_cancel,Bool.not_true,cond_false]
     cases Op.bytesLess (x0.getD i ((0:Int),((⟨#[]⟩:ByteArray),(⟨#[]⟩:ByteArray)))).2.1.toList (x0.getD (i+1) ((0:Int),((⟨#[]⟩:ByteArray),(⟨#[]⟩:ByteArray)))).2.1.toList<;>rfl
  ·have h1:decide ((i:Int)<((x0.length:Nat):Int))=false:=decide_eq_false (by omega)
   simp only [sp_sOpsOk_0,st_sOpsOk_0,RT.val,h1,cond_false]
noncomputable def ox_sOpsOk_0 (x0:Lq1) (x3:Int):Option (Ex×St):=(cond (decide (x3<((x0.length:Nat):Int))) (cond (decide (0≤x3∧x3<((x0.length:Nat):Int))) (cond (q_sl7Op ((x0.getD x3.toNat ((0:Int),(bE,bE))).1) (((x0.getD x3.toNat ((0:Int),(bE,bE))).2).1) (((x0.getD x3.toNat ((0:Int),(bE,bE))).2).2)) (cond (!(sl7Op ((x0.getD x3.toNat ((0:Int),(bE,bE))).1) (((x0.getD x3.toNat ((0:Int),(bE,bE))).2).1) (((x0.getD x3.toNat ((0:Int),(bE,bE))).2).2))) (some (.ret,(⟨(.junk::.junk::(.t true .bool false)::jA34),[],0,[]⟩:St))) (cond (decide (x3 > (0:Int))) (cond (decide (0≤(IntKind.wrap .i64 (x3 - (1:Int)))∧(IntKind.wrap .i64 (x3 - (1:Int)))<((x0.length:Nat):Int))) (cond (decide (0≤x3∧x3<((x0.length:Nat):Int))) (cond (!(Op.bytesLess (((x0.getD ((IntKind.wrap .i64 (x3 - (1:Int))).toNat) ((0:Int),(bE,bE))).2).1).toList (((x0.getD x3.toNat ((0:Int),(bE,bE))).2).1).toList)) (some (.ret,(⟨(.junk::.junk::(.t true .bool false)::jA34),[],0,[]⟩:St))) (some (.normal,(⟨((.t false tq2 x0)::.junk::.junk::(.t true (.int .i64) (IntKind.wrap .i64 (x3+(1:Int))))::jA33),[],0,[]⟩:St)))) none) none) (some (.normal,(⟨((.t false tq2 x0)::.junk::.junk::(.t true (.int .i64) (IntKind.wrap .i64 (x3+(1:Int))))::jA33),[],0,[]⟩:St))))) none) none) (some ((.exit 0),(⟨((.t false tq2 x0)::jA36),[],0,[]⟩:St))))
theorem rdA_sOpsOk_0:RdA G12 (fun _ _=>none) 0 body_sOpsOk_0 S_sOpsOk_0 0 [] (kepts [2] [(0,[0])]) (fun d=>ox_sOpsOk_0 d.1.1 d.1.2.2.2.1):=by
 intro d
 kernel_rfl
theorem rdB_sOpsOk_0:∀ d:S_sOpsOk_0.den,(fun d=>ox_sOpsOk_0 d.1.1 d.1.2.2.2.1) d=(sp_sOpsOk_0 d).opt 0 []:=by
 intro d
 kernel_rfl
noncomputable abbrev say_sOpsOk_0:St→Option Tree:=S_sOpsOk_0.say 0 [] [] (fun d=>T_sOpsOk_0 d.1.1 d.1.2.2.2.1)
theorem lw_sOpsOk_0:LoopWp Try.prog say_sOpsOk_0 body_sOpsOk_0:=SS.wp2 hlz [] sp_sOpsOk_0 rdA_sOpsOk_0 rdB_sOpsOk_0 _ (fun d=>R_sOpsOk_0 d.1.1 d.1.2.2.2.1)
noncomputable def sOpsOk (a0:Lq1):Bool:=(cond (allF (sOpAt a0) (a0.length - (0:Int).toNat) (0:Int).toNat) (sl1In ((a0.length:Nat):Int) (1:Int) (8:Int)) false)
noncomputable abbrev e_sOpsOk (r:Bool):AV×List AObj:=((.t true .bool r),[])
noncomputable abbrev g_sOpsOk:pshsDen P_sOpsOk→AV×List AObj:=fun d=>e_sOpsOk (sOpsOk d.1)
noncomputable def q_sOpsOk (a0:Lq1):Bool:=okOps a0
noncomputable abbrev pre_sOpsOk:pshsDen P_sOpsOk→Bool:=fun d=>q_sOpsOk d.1
noncomputable abbrev L_sOpsOk:Nat→St→Option Tree:=fun b=>match b with | 0=>say_sOpsOk_0 | _=>fun _=>none
theorem run_sOpsOk:RunP true G12 (L_sOpsOk) Try.f73 P_sOpsOk pre_sOpsOk g_sOpsOk:=by
 rintro ⟨a0,_⟩ hp
 change q_sOpsOk a0=true at hp
 unfold q_sOpsOk at hp
 refine Eq.trans (b:=(cond (decide (0≤(0:Int))&&okOps a0) (cond (allF (sOpAt a0) (a0.length - (0:Int).toNat) (0:Int).toNat) (some (e_sOpsOk (sl1In ((a0.length:Nat):Int) (1:Int) (8:Int)))) (some (e_sOpsOk false))) none)) (by kernel_rfl) ?_
 exact (cndT (by first | rfl | decide | exact hp | (simp only [Bool.and_eq_true] at hp;simp only [hp];done) | (simp [*];done) | (simp [okL] at hp;simp [okL,MAXB];omega) | (simp_all;done) | (simp at *;omega)) (fun _h=>(cndG e_sOpsOk (fun _h=>rfl) (fun _h=>rfl))))
theorem c_sOpsOk:PContract Try.prog 73 (sumOf P_sOpsOk pre_sOpsOk g_sOpsOk):=pcD true G12 (hl1 (i:=0) (by kernel_rfl) lw_sOpsOk_0) run_sOpsOk
noncomputable def S13:Tab:=Tab.add S12 73 (lift (sumOf P_sOpsOk pre_sOpsOk g_sOpsOk))
noncomputable def QF13:FuncId→Bool:=qadd QF12 73
theorem G13:Good Try.prog tt S13 QF13:=G12.addQ c_sOpsOk (cbl Try.f73) (fun _=>rfl)

noncomputable abbrev jS80:List Sh:=.junk::.junk::.junk::.junk::.junk::.junk::.junk::.junk::.junk::.junk::.junk::.junk::.junk::.junk::.junk::.junk::.junk::jS63
noncomputable abbrev tq3:Ty:=.pair (.int .i64) (.pair .str .str)
noncomputable abbrev jS86:List Sh:=.junk::.junk::.junk::.junk::.junk::.junk::jS80
noncomputable abbrev jS81:List Sh:=.junk::jS80
noncomputable abbrev u87:=((),(),(),(),(),(),(),(),(),(),(),(),(),(),(),(),(),(),(),(),(),(),u65)
noncomputable abbrev u81:=((),(),(),(),(),(),(),(),(),(),(),(),(),(),(),(),u65)
noncomputable abbrev u84:=((),(),(),u81)
noncomputable abbrev jA86:List AV:=.junk::.junk::.junk::.junk::.junk::.junk::.junk::.junk::.junk::.junk::.junk::.junk::.junk::.junk::.junk::.junk::.junk::.junk::.junk::.junk::.junk::.junk::.junk::jA63
noncomputable abbrev jA80:List AV:=.junk::.junk::.junk::.junk::.junk::.junk::.junk::.junk::.junk::.junk::.junk::.junk::.junk::.junk::.junk::.junk::.junk::jA63
noncomputable abbrev jA81:List AV:=.junk::jA80
noncomputable abbrev P_sGetOps:List PSh:=[.t t_sy]
noncomputable abbrev S_sGetOps_0:SS:=⟨(.t false t_sy::.junk::.junk::.junk::.all 0 3::.t true (.int .i64)::.t true (.int .i64)::.junk::.all 1 3::.t true (.int .i64)::jS80),[.rows 124 true tq3,.rows 124 true tq3]⟩
noncomputable abbrev E_sGetOps_0_0:SS:=⟨(.junk::.junk::.all 0 3::.t true .bool::jS86),[.rows 124 true tq3]⟩
noncomputable abbrev E_sGetOps_0_1:SS:=⟨(.t false t_sy::.junk::.junk::.junk::.all 0 3::.junk::.t true (.int .i64)::.junk::.all 1 3::jS81),[.rows 124 true tq3,.rows 124 true tq3]⟩
noncomputable def st_sGetOps_0 (x0:List Int) (x5:Int) (x6:Int) (x9:Int) (h0:Lq1) (h1:Lq1):RT S_sGetOps_0.den:=(.br (decide (x9<x5)) (.br (q_sGetNum x0 x6) (.br (q_sGetText x0 ((sGetNum x0 x6).2.1)) (.br (q_sGetText x0 ((sGetText x0 ((sGetNum x0 x6).2.1)).2.1)) (.br (!((sGetNum x0 x6).2.2)) (.done .ret E_sGetOps_0_0 (((),(),(),false,u87),(h0,()))) (.br (!((sGetText x0 ((sGetNum x0 x6).2.1)).2.2)) (.done .ret E_sGetOps_0_0 (((),(),(),false,u87),(h0,()))) (.br (!((sGetText x0 ((sGetText x0 ((sGetNum x0 x6).2.1)).2.1)).2.2)) (.done .ret E_sGetOps_0_0 (((),(),(),false,u87),(h0,()))) (.br (decide ((h1.length+[(((sGetNum x0 x6).1),(((sGetText x0 ((sGetNum x0 x6).2.1)).1),((sGetText x0 ((sGetText x0 ((sGetNum x0 x6).2.1)).2.1)).1)))].length)*40≤MAXB)) (.next ((x0,(),(),(),(),x5,((sGetText x0 ((sGetText x0 ((sGetNum x0 x6).2.1)).2.1)).2.1),(),(),IntKind.wrap .i64 (x9+(1:Int)),u81),(h0,h1++[(((sGetNum x0 x6).1),(((sGetText x0 ((sGetNum x0 x6).2.1)).1),((sGetText x0 ((sGetText x0 ((sGetNum x0 x6).2.1)).2.1)).1)))],()))) .fail)))) .fail) .fail) .fail) (.done (.exit 0) E_sGetOps_0_1 ((x0,(),(),(),(),(),x6,u84),(h0,h1,()))))
noncomputable abbrev V_sGetOps_0:=(List Int)×(Int)×(Int)×(Int)×(Lq1)×(Lq1)
noncomputable abbrev A_sGetOps_0:=Nat×(Bool)×(Lq1)×(List Int)×(Int)×(Lq1)
noncomputable def fl_sGetOps_0:A_sGetOps_0:=(99,(false:Bool),([]:Lq1),([]:List Int),((0:Int):Int),([]:Lq1))
noncomputable def ss_sGetOps_0 (x0:List Int) (x5:Int) (x6:Int) (x9:Int) (h0:Lq1) (h1:Lq1):V_sGetOps_0 ⊕ A_sGetOps_0:=(cond (decide (x9<x5)) (cond (q_sGetNum x0 x6) (cond (q_sGetText x0 ((sGetNum x0 x6).2.1)) (cond (q_sGetText x0 ((sGetText x0 ((sGetNum x0 x6).2.1)).2.1)) (cond (!((sGetNum x0 x6).2.2)) (.inr (0,false,h0,([]:List Int),((0:Int):Int),([]:Lq1))) (cond (!((sGetText x0 ((sGetNum x0 x6).2.1)).2.2)) (.inr (0,false,h0,([]:List Int),((0:Int):Int),([]:Lq1))) (cond (!((sGetText x0 ((sGetText x0 ((sGetNum x0 x6).2.1)).2.1)).2.2)) (.inr (0,false,h0,([]:List Int),((0:Int):Int),([]:Lq1))) (cond (decide ((h1.length+[(((sGetNum x0 x6).1),(((sGetText x0 ((sGetNum x0 x6).2.1)).1),((sGetText x0 ((sGetText x0 ((sGetNum x0 x6).2.1)).2.1)).1)))].length)*40≤MAXB)) (.inl (x0,x5,((sGetText x0 ((sGetText x0 ((sGetNum x0 x6).2.1)).2.1)).2.1),IntKind.wrap .i64 (x9+(1:Int)),h0,h1++[(((sGetNum x0 x6).1),(((sGetText x0 ((sGetNum x0 x6).2.1)).1),((sGetText x0 ((sGetText x0 ((sGetNum x0 x6).2.1)).2.1)).1)))])) (.inr fl_sGetOps_0))))) (.inr fl_sGetOps_0)) (.inr fl_sGetOps_0)) (.inr fl_sGetOps_0)) (.inr (1,(false:Bool),h0,x0,x6,h1)))
noncomputable def it_sGetOps_0 (x0:List Int) (x5:Int) (x6:Int) (x9:Int) (h0:Lq1) (h1:Lq1):A_sGetOps_0:=itX (fun v:V_sGetOps_0=>ss_sGetOps_0 v.1 v.2.1 v.2.2.1 v.2.2.2.1 v.2.2.2.2.1 v.2.2.2.2.2) fl_sGetOps_0 (x0,x5,x6,x9,h0,h1)
noncomputable def ct_sGetOps_0 (a:A_sGetOps_0):CT:=(.br (a.1==0) (.done .ret E_sGetOps_0_0 (((),(),(),a.2.1,u87),(a.2.2.1,()))) (.br (a.1==1) (.done (.exit 0) E_sGetOps_0_1 ((a.2.2.2.1,(),(),(),(),(),a.2.2.2.2.1,u84),(a.2.2.1,a.2.2.2.2.2,()))) .fail))
noncomputable def T_sGetOps_0 (x0:List Int) (x5:Int) (x6:Int) (x9:Int) (h0:Lq1) (h1:Lq1):CT:=ct_sGetOps_0 (it_sGetOps_0 x0 x5 x6 x9 h0 h1)
noncomputable abbrev ap_sGetOps_0 {α:Sort _} (f:(List Int)→Int→Int→Int→(Lq1)→(Lq1)→α) (d:S_sGetOps_0.den):α:=f d.1.1 d.1.2.2.2.2.2.1 d.1.2.2.2.2.2.2.1 d.1.2.2.2.2.2.2.2.2.2.1 d.2.1 d.2.2.1
noncomputable abbrev sp_sGetOps_0:S_sGetOps_0.den→RT S_sGetOps_0.den:=(ap_sGetOps_0 st_sGetOps_0)
noncomputable def body_sGetOps_0:Code:=((loopsIn 0 (bodyOf Try.f84)).getD 0 (0,.skip)).2
noncomputable abbrev pv_sGetOps_0 (v:V_sGetOps_0):S_sGetOps_0.den:=((v.1,(),(),(),(),v.2.1,v.2.2.1,(),(),v.2.2.2.1,u81),(v.2.2.2.2.1,v.2.2.2.2.2,()))
theorem rl_sGetOps_0:(∀ v:V_sGetOps_0,(st_sGetOps_0 v.1 v.2.1 v.2.2.1 v.2.2.2.1 v.2.2.2.2.1 v.2.2.2.2.2).val=relS pv_sGetOps_0 ct_sGetOps_0 (ss_sGetOps_0 v.1 v.2.1 v.2.2.1 v.2.2.2.1 v.2.2.2.2.1 v.2.2.2.2.2))∧∀ a:A_sGetOps_0,CEnd S_sGetOps_0.den (ct_sGetOps_0 a):=⟨fun v=>by repeat' first | apply relB | rfl,fun a=>(cendB (cendD (by simp)) (cendB (cendD (by simp)) cendF))⟩
noncomputable def ox_sGetOps_0 (x0:List Int) (x5:Int) (x6:Int) (x9:Int) (h0:Lq1) (h1:Lq1):Option (Ex×St):=(cond (decide (x9<x5)) (cond (q_sGetNum x0 x6) (cond (q_sGetText x0 ((sGetNum x0 x6).2.1)) (cond (q_sGetText x0 ((sGetText x0 ((sGetNum x0 x6).2.1)).2.1)) (cond (!((sGetNum x0 x6).2.2)) (some (.ret,(⟨(.junk::.junk::(.all 0 3)::(.t true .bool false)::jA86),[(.rows 124 true tq3 h0)],0,[]⟩:St))) (cond (!((sGetText x0 ((sGetNum x0 x6).2.1)).2.2)) (some (.ret,(⟨(.junk::.junk::(.all 0 3)::(.t true .bool false)::jA86),[(.rows 124 true tq3 h0)],0,[]⟩:St))) (cond (!((sGetText x0 ((sGetText x0 ((sGetNum x0 x6).2.1)).2.1)).2.2)) (some (.ret,(⟨(.junk::.junk::(.all 0 3)::(.t true .bool false)::jA86),[(.rows 124 true tq3 h0)],0,[]⟩:St))) (cond (decide ((h1.length+[(((sGetNum x0 x6).1),(((sGetText x0 ((sGetNum x0 x6).2.1)).1),((sGetText x0 ((sGetText x0 ((sGetNum x0 x6).2.1)).2.1)).1)))].length)*40≤MAXB)) (some (.normal,(⟨((.t false t_sy x0)::.junk::.junk::.junk::(.all 0 3)::(.t true (.int .i64) x5)::(.t true (.int .i64) ((sGetText x0 ((sGetText x0 ((sGetNum x0 x6).2.1)).2.1)).2.1))::.junk::(.all 1 3)::(.t true (.int .i64) (IntKind.wrap .i64 (x9+(1:Int))))::jA80),[(.rows 124 true tq3 h0),(.rows 124 true tq3 (h1++[(((sGetNum x0 x6).1),(((sGetText x0 ((sGetNum x0 x6).2.1)).1),((sGetText x0 ((sGetText x0 ((sGetNum x0 x6).2.1)).2.1)).1)))]))],0,[]⟩:St))) none)))) none) none) none) (some ((.exit 0),(⟨((.t false t_sy x0)::.junk::.junk::.junk::(.all 0 3)::.junk::(.t true (.int .i64) x6)::.junk::(.all 1 3)::jA81),[(.rows 124 true tq3 h0),(.rows 124 true tq3 h1)],0,[]⟩:St))))
theorem rdA_sGetOps_0:RdA G13 (fun _ _=>none) 0 body_sGetOps_0 S_sGetOps_0 0 [] (kepts [2,3] [(0,[0,4,6,8])]) (ap_sGetOps_0 ox_sGetOps_0):=by
 intro d
 kernel_rfl
theorem rdB_sGetOps_0:∀ d:S_sGetOps_0.den,(ap_sGetOps_0 ox_sGetOps_0) d=(sp_sGetOps_0 d).opt 0 []:=by
 intro d
 kernel_rfl
noncomputable abbrev say_sGetOps_0:St→Option Tree:=S_sGetOps_0.say 0 [] [] (ap_sGetOps_0 T_sGetOps_0)
theorem lw_sGetOps_0:LoopWp Try.prog say_sGetOps_0 body_sGetOps_0:=SS.wp2 hlz [] sp_sGetOps_0 rdA_sGetOps_0 rdB_sGetOps_0 _ (fun d=>Runs.ofI2 (step:=sp_sGetOps_0) pv_sGetOps_0 rl_sGetOps_0 rfl (d.1.1,d.1.2.2.2.2.2.1,d.1.2.2.2.2.2.2.1,d.1.2.2.2.2.2.2.2.2.2.1,d.2.1,d.2.2.1))
noncomputable def k1_sGetOps (a0:List Int):=it_sGetOps_0 a0 ((sGetNum a0 (0:Int)).1) ((sGetNum a0 (0:Int)).2.1) (0:Int) ([]:Lq1) ([]:Lq1)
noncomputable def sGetOps (a0:List Int):(Lq1)×Bool:=(cond (!((sGetNum a0 (0:Int)).2.2)) (([]:Lq1),false) (cond (decide (((sGetNum a0 (0:Int)).1) > (8:Int))) (([]:Lq1),false) (cond ((k1_sGetOps a0).1==0) (((k1_sGetOps a0).2.2.1),((k1_sGetOps a0).2.1)) (cond (((k1_sGetOps a0).2.2.2.2.1) != ((((k1_sGetOps a0).2.2.2.1).length:Nat):Int)) (((k1_sGetOps a0).2.2.1),false) (cond (!(sOpsOk ((k1_sGetOps a0).2.2.2.2.2))) (((k1_sGetOps a0).2.2.1),false) (((k1_sGetOps a0).2.2.2.2.2),true))))))
noncomputable abbrev e_sGetOps (r:(Lq1)×Bool):AV×List AObj:=((.tup [(.t true tq2 r.1),(.t true .bool r.2)]),[])
noncomputable abbrev g_sGetOps:pshsDen P_sGetOps→AV×List AObj:=fun d=>e_sGetOps (sGetOps d.1)
noncomputable def q_sGetOps (a0:List Int):Bool:=(q_sGetNum a0 (0:Int))&&(cond (!((sGetNum a0 (0:Int)).2.2)) true (cond (decide (((sGetNum a0 (0:Int)).1) > (8:Int))) true (cond ((k1_sGetOps a0).1==0) true (((k1_sGetOps a0).1==1)&&(cond (((k1_sGetOps a0).2.2.2.2.1) != ((((k1_sGetOps a0).2.2.2.1).length:Nat):Int)) true (q_sOpsOk ((k1_sGetOps a0).2.2.2.2.2)))))))
noncomputable abbrev pre_sGetOps:pshsDen P_sGetOps→Bool:=fun d=>q_sGetOps d.1
noncomputable abbrev L_sGetOps:Nat→St→Option Tree:=fun b=>match b with | 0=>say_sGetOps_0 | _=>fun _=>none
theorem run_sGetOps:RunP true G13 (L_sGetOps) Try.f84 P_sGetOps pre_sGetOps g_sGetOps:=by
 rintro ⟨a0,_⟩ hp
 change q_sGetOps a0=true at hp
 unfold q_sGetOps at hp
 refine Eq.trans (b:=(cond (q_sGetNum a0 (0:Int)) (cond (!((sGetNum a0 (0:Int)).2.2)) (some (e_sGetOps (([]:Lq1),false))) (cond (decide (((sGetNum a0 (0:Int)).1) > (8:Int))) (some (e_sGetOps (([]:Lq1),false))) (cond ((k1_sGetOps a0).1==0) (some (e_sGetOps (((k1_sGetOps a0).2.2.1),((k1_sGetOps a0).2.1)))) (cond ((k1_sGetOps a0).1==1) (cond (((k1_sGetOps a0).2.2.2.2.1) != ((((k1_sGetOps a0).2.2.2.1).length:Nat):Int)) (some (e_sGetOps (((k1_sGetOps a0).2.2.1),false))) (cond (q_sOpsOk ((k1_sGetOps a0).2.2.2.2.2)) (cond (!(sOpsOk ((k1_sGetOps a0).2.2.2.2.2))) (some (e_sGetOps (((k1_sGetOps a0).2.2.1),false))) (some (e_sGetOps (((k1_sGetOps a0).2.2.2.2.2),true)))) none)) none)))) none)) (by kernel_rfl) ?_
 exact (cndA hp fun hp=>(cndE e_sGetOps hp (fun hp=>rfl) (fun hp=>(cndE e_sGetOps hp (fun hp=>rfl) (fun hp=>(cndE e_sGetOps hp (fun hp=>rfl) (fun hp=>(cndA hp fun hp=>(cndE e_sGetOps hp (fun hp=>rfl) (fun hp=>(cndT hp fun _h=>(cndG e_sGetOps (fun _h=>rfl) (fun _h=>rfl)))))))))))))
theorem c_sGetOps:PContract Try.prog 84 (sumOf P_sGetOps pre_sGetOps g_sGetOps):=pcD true G13 (hl1 (i:=0) (by kernel_rfl) lw_sGetOps_0) run_sGetOps
noncomputable def S14:Tab:=Tab.add S13 84 (lift (sumOf P_sGetOps pre_sGetOps g_sGetOps))
noncomputable def QF14:FuncId→Bool:=qadd QF13 84
theorem G14:Good Try.prog tt S14 QF14:=G13.addQ c_sGetOps (cbl Try.f84) (fun _=>rfl)

noncomputable abbrev P_sRecOk:List PSh:=[.agg [(.int .i64),(.int .i64),tq2]]
noncomputable def sRecOk (a0:Int) (a1:Int) (a2:Lq1):Bool:=(cond (!(sl1In a1 (1:Int) (1000000:Int))) false (cond (a0==(1:Int)) (sOpsOk a2) (cond (a0==(2:Int)) (((a2.length:Nat):Int)==(0:Int)) (cond (a0==(3:Int)) (((a2.length:Nat):Int)==(0:Int)) false))))
noncomputable abbrev e_sRecOk (r:Bool):AV×List AObj:=((.t true .bool r),[])
noncomputable abbrev g_sRecOk:pshsDen P_sRecOk→AV×List AObj:=fun d=>e_sRecOk (sRecOk d.1.1 d.1.2.1 d.1.2.2.1)
noncomputable def q_sRecOk (a0:Int) (a1:Int) (a2:Lq1):Bool:=okOps a2
noncomputable abbrev pre_sRecOk:pshsDen P_sRecOk→Bool:=fun d=>q_sRecOk d.1.1 d.1.2.1 d.1.2.2.1
theorem run_sRecOk:RunP true G14 (fun _ _=>none) Try.f26 P_sRecOk pre_sRecOk g_sRecOk:=by
 rintro ⟨⟨a0,⟨a1,⟨a2,_⟩⟩⟩,_⟩ hp
 change q_sRecOk a0 a1 a2=true at hp
 unfold q_sRecOk at hp
 refine Eq.trans (b:=(cond (!(sl1In a1 (1:Int) (1000000:Int))) (some (e_sRecOk false)) (cond (a0==(1:Int)) (cond (q_sOpsOk a2) (some (e_sRecOk (sOpsOk a2))) none) (cond (a0==(2:Int)) (some (e_sRecOk (((a2.length:Nat):Int)==(0:Int)))) (cond (a0==(3:Int)) (some (e_sRecOk (((a2.length:Nat):Int)==(0:Int)))) (some (e_sRecOk false))))))) (by kernel_rfl) ?_
 exact (cndG e_sRecOk (fun _h=>rfl) (fun _h=>(cndG e_sRecOk (fun _h=>(cndT (by first | rfl | decide | exact hp | (simp only [Bool.and_eq_true] at hp;simp only [hp];done) | (simp [*];done) | (simp [okL] at hp;simp [okL,MAXB];omega) | (simp_all;done) | (simp at *;omega)) (fun _h=>rfl))) (fun _h=>(cndG e_sRecOk (fun _h=>rfl) (fun _h=>(cndG e_sRecOk (fun _h=>rfl) (fun _h=>rfl))))))))
theorem c_sRecOk:PContract Try.prog 26 (sumOf P_sRecOk pre_sRecOk g_sRecOk):=pcD true G14 hlz run_sRecOk
noncomputable def S15:Tab:=Tab.add S14 26 (lift (sumOf P_sRecOk pre_sRecOk g_sRecOk))
noncomputable def QF15:FuncId→Bool:=qadd QF14 26
theorem G15:Good Try.prog tt S15 QF15:=G14.addQ c_sRecOk (cbl Try.f26) (fun _=>rfl)

noncomputable abbrev P_sGetRec:List PSh:=[.t t_sy,.t (.int .i64)]
noncomputable def k1_sGetRec (a0:List Int) (a1:Int):=sGetNum (([]:List Int)++((a0.take (IntKind.wrap .i64 (((sGetNum a0 a1).2.1)+((sGetNum a0 a1).1))).toNat).drop ((sGetNum a0 a1).2.1).toNat)) (0:Int)
noncomputable def k2_sGetRec (a0:List Int) (a1:Int):=sGetNum (([]:List Int)++((a0.take (IntKind.wrap .i64 (((sGetNum a0 a1).2.1)+((sGetNum a0 a1).1))).toNat).drop ((sGetNum a0 a1).2.1).toNat)) ((k1_sGetRec a0 a1).2.1)
noncomputable def k3_sGetRec (a0:List Int) (a1:Int):=sDigest (([]:List Int)++((a0.take (IntKind.wrap .i64 (((sGetNum a0 a1).2.1)+((sGetNum a0 a1).1))).toNat).drop ((sGetNum a0 a1).2.1).toNat))
noncomputable def k4_sGetRec (a0:List Int) (a1:Int):=sGetOps (((([]:List Int)++((a0.take (IntKind.wrap .i64 (((sGetNum a0 a1).2.1)+((sGetNum a0 a1).1))).toNat).drop ((sGetNum a0 a1).2.1).toNat)).drop (((k2_sGetRec a0 a1).2.1).toNat)).take ((((([]:List Int)++((a0.take (IntKind.wrap .i64 (((sGetNum a0 a1).2.1)+((sGetNum a0 a1).1))).toNat).drop ((sGetNum a0 a1).2.1).toNat)).length:Nat):Int).toNat - ((k2_sGetRec a0 a1).2.1).toNat))
noncomputable def sGetRec (a0:List Int) (a1:Int):Int×Int×(Lq1)×Int×Bool:=(cond (!((sGetNum a0 a1).2.2)) ((0:Int),(0:Int),[],a1,false) (cond (decide (((sGetNum a0 a1).1) > (IntKind.wrap .i64 ((IntKind.wrap .i64 (((a0.length:Nat):Int) - ((sGetNum a0 a1).2.1))) - (4:Int))))) ((0:Int),(0:Int),[],a1,false) (cond (!((k1_sGetRec a0 a1).2.2)) ((0:Int),(0:Int),[],a1,false) (cond (!((k2_sGetRec a0 a1).2.2)) ((0:Int),(0:Int),[],a1,false) (cond (!((⟨(((a0.take (IntKind.wrap .i64 ((IntKind.wrap .i64 (((sGetNum a0 a1).2.1)+((sGetNum a0 a1).1)))+(4:Int))).toNat).drop (IntKind.wrap .i64 (((sGetNum a0 a1).2.1)+((sGetNum a0 a1).1))).toNat).map fun n=>UInt8.ofNat n.toNat).toArray⟩:ByteArray).toList==((k3_sGetRec a0 a1).extract (0:Int).toNat (4:Int).toNat).toList)) ((0:Int),(0:Int),[],a1,false) (cond (decide (((k2_sGetRec a0 a1).2.1)<(((([]:List Int)++((a0.take (IntKind.wrap .i64 (((sGetNum a0 a1).2.1)+((sGetNum a0 a1).1))).toNat).drop ((sGetNum a0 a1).2.1).toNat)).length:Nat):Int))) (cond (!((k4_sGetRec a0 a1).2)) ((0:Int),(0:Int),[],a1,false) (cond (!(sRecOk ((k1_sGetRec a0 a1).1) ((k2_sGetRec a0 a1).1) ((k4_sGetRec a0 a1).1))) ((0:Int),(0:Int),[],a1,false) (((k1_sGetRec a0 a1).1),((k2_sGetRec a0 a1).1),((k4_sGetRec a0 a1).1),IntKind.wrap .i64 ((IntKind.wrap .i64 (((sGetNum a0 a1).2.1)+((sGetNum a0 a1).1)))+(4:Int)),true))) (cond (!(sRecOk ((k1_sGetRec a0 a1).1) ((k2_sGetRec a0 a1).1) [])) ((0:Int),(0:Int),[],a1,false) (((k1_sGetRec a0 a1).1),((k2_sGetRec a0 a1).1),[],IntKind.wrap .i64 ((IntKind.wrap .i64 (((sGetNum a0 a1).2.1)+((sGetNum a0 a1).1)))+(4:Int)),true))))))))
noncomputable abbrev e_sGetRec (r:Int×Int×(Lq1)×Int×Bool):AV×List AObj:=((.tup [(.agg [(.t true (.int .i64) r.1),(.t true (.int .i64) r.2.1),(.t true tq2 r.2.2.1)]),(.t true (.int .i64) r.2.2.2.1),(.t true .bool r.2.2.2.2)]),[])
noncomputable abbrev g_sGetRec:pshsDen P_sGetRec→AV×List AObj:=fun d=>e_sGetRec (sGetRec d.1 d.2.1)
noncomputable def q_sGetRec (a0:List Int) (a1:Int):Bool:=(q_sGetNum a0 a1)&&(cond (!((sGetNum a0 a1).2.2)) true (cond (decide (((sGetNum a0 a1).1) > (IntKind.wrap .i64 ((IntKind.wrap .i64 (((a0.length:Nat):Int) - ((sGetNum a0 a1).2.1))) - (4:Int))))) true ((decide (0≤((sGetNum a0 a1).2.1)∧((sGetNum a0 a1).2.1)≤(IntKind.wrap .i64 (((sGetNum a0 a1).2.1)+((sGetNum a0 a1).1)))∧(IntKind.wrap .i64 (((sGetNum a0 a1).2.1)+((sGetNum a0 a1).1)))≤((a0.length:Nat):Int)))&&((decide ((([]:List Int).length+((a0.take (IntKind.wrap .i64 (((sGetNum a0 a1).2.1)+((sGetNum a0 a1).1))).toNat).drop ((sGetNum a0 a1).2.1).toNat).length)*1≤MAXB))&&((q_sGetNum (([]:List Int)++((a0.take (IntKind.wrap .i64 (((sGetNum a0 a1).2.1)+((sGetNum a0 a1).1))).toNat).drop ((sGetNum a0 a1).2.1).toNat)) (0:Int))&&((q_sGetNum (([]:List Int)++((a0.take (IntKind.wrap .i64 (((sGetNum a0 a1).2.1)+((sGetNum a0 a1).1))).toNat).drop ((sGetNum a0 a1).2.1).toNat)) ((k1_sGetRec a0 a1).2.1))&&(cond (!((k1_sGetRec a0 a1).2.2)) true (cond (!((k2_sGetRec a0 a1).2.2)) true ((decide (0≤(IntKind.wrap .i64 (((sGetNum a0 a1).2.1)+((sGetNum a0 a1).1)))∧(IntKind.wrap .i64 (((sGetNum a0 a1).2.1)+((sGetNum a0 a1).1)))≤(IntKind.wrap .i64 ((IntKind.wrap .i64 (((sGetNum a0 a1).2.1)+((sGetNum a0 a1).1)))+(4:Int)))∧(IntKind.wrap .i64 ((IntKind.wrap .i64 (((sGetNum a0 a1).2.1)+((sGetNum a0 a1).1)))+(4:Int)))≤((a0.length:Nat):Int)))&&((q_sDigest (([]:List Int)++((a0.take (IntKind.wrap .i64 (((sGetNum a0 a1).2.1)+((sGetNum a0 a1).1))).toNat).drop ((sGetNum a0 a1).2.1).toNat)))&&((decide (0≤(0:Int)∧(0:Int)≤(4:Int)∧(4:Int)≤(((k3_sGetRec a0 a1).size:Nat):Int)))&&(cond (!((⟨(((a0.take (IntKind.wrap .i64 ((IntKind.wrap .i64 (((sGetNum a0 a1).2.1)+((sGetNum a0 a1).1)))+(4:Int))).toNat).drop (IntKind.wrap .i64 (((sGetNum a0 a1).2.1)+((sGetNum a0 a1).1))).toNat).map fun n=>UInt8.ofNat n.toNat).toArray⟩:ByteArray).toList==((k3_sGetRec a0 a1).extract (0:Int).toNat (4:Int).toNat).toList)) true (cond (decide (((k2_sGetRec a0 a1).2.1)<(((([]:List Int)++((a0.take (IntKind.wrap .i64 (((sGetNum a0 a1).2.1)+((sGetNum a0 a1).1))).toNat).drop ((sGetNum a0 a1).2.1).toNat)).length:Nat):Int))) ((decide (0≤((k2_sGetRec a0 a1).2.1)∧((k2_sGetRec a0 a1).2.1)≤(((([]:List Int)++((a0.take (IntKind.wrap .i64 (((sGetNum a0 a1).2.1)+((sGetNum a0 a1).1))).toNat).drop ((sGetNum a0 a1).2.1).toNat)).length:Nat):Int)∧(((([]:List Int)++((a0.take (IntKind.wrap .i64 (((sGetNum a0 a1).2.1)+((sGetNum a0 a1).1))).toNat).drop ((sGetNum a0 a1).2.1).toNat)).length:Nat):Int)≤(((([]:List Int)++((a0.take (IntKind.wrap .i64 (((sGetNum a0 a1).2.1)+((sGetNum a0 a1).1))).toNat).drop ((sGetNum a0 a1).2.1).toNat)).length:Nat):Int)))&&((q_sGetOps (((([]:List Int)++((a0.take (IntKind.wrap .i64 (((sGetNum a0 a1).2.1)+((sGetNum a0 a1).1))).toNat).drop ((sGetNum a0 a1).2.1).toNat)).drop (((k2_sGetRec a0 a1).2.1).toNat)).take ((((([]:List Int)++((a0.take (IntKind.wrap .i64 (((sGetNum a0 a1).2.1)+((sGetNum a0 a1).1))).toNat).drop ((sGetNum a0 a1).2.1).toNat)).length:Nat):Int).toNat - ((k2_sGetRec a0 a1).2.1).toNat)))&&(cond (!((k4_sGetRec a0 a1).2)) true (q_sRecOk ((k1_sGetRec a0 a1).1) ((k2_sGetRec a0 a1).1) ((k4_sGetRec a0 a1).1))))) (q_sRecOk ((k1_sGetRec a0 a1).1) ((k2_sGetRec a0 a1).1) []))))))))))))))
noncomputable abbrev pre_sGetRec:pshsDen P_sGetRec→Bool:=fun d=>q_sGetRec d.1 d.2.1
theorem run_sGetRec:RunP true G15 (fun _ _=>none) Try.f34 P_sGetRec pre_sGetRec g_sGetRec:=by
 rintro ⟨a0,⟨a1,_⟩⟩ hp
 change q_sGetRec a0 a1=true at hp
 unfold q_sGetRec at hp
 refine Eq.trans (b:=(cond (q_sGetNum a0 a1) (cond (!((sGetNum a0 a1).2.2)) (some (e_sGetRec ((0:Int),(0:Int),[],a1,false))) (cond (decide (((sGetNum a0 a1).1) > (IntKind.wrap .i64 ((IntKind.wrap .i64 (((a0.length:Nat):Int) - ((sGetNum a0 a1).2.1))) - (4:Int))))) (some (e_sGetRec ((0:Int),(0:Int),[],a1,false))) (cond (decide (0≤((sGetNum a0 a1).2.1)∧((sGetNum a0 a1).2.1)≤(IntKind.wrap .i64 (((sGetNum a0 a1).2.1)+((sGetNum a0 a1).1)))∧(IntKind.wrap .i64 (((sGetNum a0 a1).2.1)+((sGetNum a0 a1).1)))≤((a0.length:Nat):Int))) (cond (decide ((([]:List Int).length+((a0.take (IntKind.wrap .i64 (((sGetNum a0 a1).2.1)+((sGetNum a0 a1).1))).toNat).drop ((sGetNum a0 a1).2.1).toNat).length)*1≤MAXB)) (cond (q_sGetNum (([]:List Int)++((a0.take (IntKind.wrap .i64 (((sGetNum a0 a1).2.1)+((sGetNum a0 a1).1))).toNat).drop ((sGetNum a0 a1).2.1).toNat)) (0:Int)) (cond (q_sGetNum (([]:List Int)++((a0.take (IntKind.wrap .i64 (((sGetNum a0 a1).2.1)+((sGetNum a0 a1).1))).toNat).drop ((sGetNum a0 a1).2.1).toNat)) ((k1_sGetRec a0 a1).2.1)) (cond (!((k1_sGetRec a0 a1).2.2)) (some (e_sGetRec ((0:Int),(0:Int),[],a1,false))) (cond (!((k2_sGetRec a0 a1).2.2)) (some (e_sGetRec ((0:Int),(0:Int),[],a1,false))) (cond (decide (0≤(IntKind.wrap .i64 (((sGetNum a0 a1).2.1)+((sGetNum a0 a1).1)))∧(IntKind.wrap .i64 (((sGetNum a0 a1).2.1)+((sGetNum a0 a1).1)))≤(IntKind.wrap .i64 ((IntKind.wrap .i64 (((sGetNum a0 a1).2.1)+((sGetNum a0 a1).1)))+(4:Int)))∧(IntKind.wrap .i64 ((IntKind.wrap .i64 (((sGetNum a0 a1).2.1)+((sGetNum a0 a1).1)))+(4:Int)))≤((a0.length:Nat):Int))) (cond (q_sDigest (([]:List Int)++((a0.take (IntKind.wrap .i64 (((sGetNum a0 a1).2.1)+((sGetNum a0 a1).1))).toNat).drop ((sGetNum a0 a1).2.1).toNat))) (cond (decide (0≤(0:Int)∧(0:Int)≤(4:Int)∧(4:Int)≤(((k3_sGetRec a0 a1).size:Nat):Int))) (cond (!((⟨(((a0.take (IntKind.wrap .i64 ((IntKind.wrap .i64 (((sGetNum a0 a1).2.1)+((sGetNum a0 a1).1)))+(4:Int))).toNat).drop (IntKind.wrap .i64 (((sGetNum a0 a1).2.1)+((sGetNum a0 a1).1))).toNat).map fun n=>UInt8.ofNat n.toNat).toArray⟩:ByteArray).toList==((k3_sGetRec a0 a1).extract (0:Int).toNat (4:Int).toNat).toList)) (some (e_sGetRec ((0:Int),(0:Int),[],a1,false))) (cond (decide (((k2_sGetRec a0 a1).2.1)<(((([]:List Int)++((a0.take (IntKind.wrap .i64 (((sGetNum a0 a1).2.1)+((sGetNum a0 a1).1))).toNat).drop ((sGetNum a0 a1).2.1).toNat)).length:Nat):Int))) (cond (decide (0≤((k2_sGetRec a0 a1).2.1)∧((k2_sGetRec a0 a1).2.1)≤(((([]:List Int)++((a0.take (IntKind.wrap .i64 (((sGetNum a0 a1).2.1)+((sGetNum a0 a1).1))).toNat).drop ((sGetNum a0 a1).2.1).toNat)).length:Nat):Int)∧(((([]:List Int)++((a0.take (IntKind.wrap .i64 (((sGetNum a0 a1).2.1)+((sGetNum a0 a1).1))).toNat).drop ((sGetNum a0 a1).2.1).toNat)).length:Nat):Int)≤(((([]:List Int)++((a0.take (IntKind.wrap .i64 (((sGetNum a0 a1).2.1)+((sGetNum a0 a1).1))).toNat).drop ((sGetNum a0 a1).2.1).toNat)).length:Nat):Int))) (cond (q_sGetOps (((([]:List Int)++((a0.take (IntKind.wrap .i64 (((sGetNum a0 a1).2.1)+((sGetNum a0 a1).1))).toNat).drop ((sGetNum a0 a1).2.1).toNat)).drop (((k2_sGetRec a0 a1).2.1).toNat)).take ((((([]:List Int)++((a0.take (IntKind.wrap .i64 (((sGetNum a0 a1).2.1)+((sGetNum a0 a1).1))).toNat).drop ((sGetNum a0 a1).2.1).toNat)).length:Nat):Int).toNat - ((k2_sGetRec a0 a1).2.1).toNat))) (cond (!((k4_sGetRec a0 a1).2)) (some (e_sGetRec ((0:Int),(0:Int),[],a1,false))) (cond (q_sRecOk ((k1_sGetRec a0 a1).1) ((k2_sGetRec a0 a1).1) ((k4_sGetRec a0 a1).1)) (cond (!(sRecOk ((k1_sGetRec a0 a1).1) ((k2_sGetRec a0 a1).1) ((k4_sGetRec a0 a1).1))) (some (e_sGetRec ((0:Int),(0:Int),[],a1,false))) (some (e_sGetRec (((k1_sGetRec a0 a1).1),((k2_sGetRec a0 a1).1),((k4_sGetRec a0 a1).1),IntKind.wrap .i64 ((IntKind.wrap .i64 (((sGetNum a0 a1).2.1)+((sGetNum a0 a1).1)))+(4:Int)),true)))) none)) none) none) (cond (q_sRecOk ((k1_sGetRec a0 a1).1) ((k2_sGetRec a0 a1).1) []) (cond (!(sRecOk ((k1_sGetRec a0 a1).1) ((k2_sGetRec a0 a1).1) [])) (some (e_sGetRec ((0:Int),(0:Int),[],a1,false))) (some (e_sGetRec (((k1_sGetRec a0 a1).1),((k2_sGetRec a0 a1).1),[],IntKind.wrap .i64 ((IntKind.wrap .i64 (((sGetNum a0 a1).2.1)+((sGetNum a0 a1).1)))+(4:Int)),true)))) none))) none) none) none))) none) none) none) none))) none)) (by kernel_rfl) ?_
 exact (cndA hp fun hp=>(cndE e_sGetRec hp (fun hp=>rfl) (fun hp=>(cndE e_sGetRec hp (fun hp=>rfl) (fun hp=>(cndA hp fun hp=>(cndA hp fun hp=>(cndA hp fun hp=>(cndA hp fun hp=>(cndE e_sGetRec hp (fun hp=>rfl) (fun hp=>(cndE e_sGetRec hp (fun hp=>rfl) (fun hp=>(cndA hp fun hp=>(cndA hp fun hp=>(cndA hp fun hp=>(cndE e_sGetRec hp (fun hp=>rfl) (fun hp=>(cndE e_sGetRec hp (fun hp=>(cndA hp fun hp=>(cndA hp fun hp=>(cndE e_sGetRec hp (fun hp=>rfl) (fun hp=>(cndT hp fun _h=>(cndG e_sGetRec (fun _h=>rfl) (fun _h=>rfl)))))))) (fun hp=>(cndT hp fun _h=>(cndG e_sGetRec (fun _h=>rfl) (fun _h=>rfl)))))))))))))))))))))))
theorem c_sGetRec:PContract Try.prog 34 (sumOf P_sGetRec pre_sGetRec g_sGetRec):=pcD true G15 hlz run_sGetRec
noncomputable def S16:Tab:=Tab.add S15 34 (lift (sumOf P_sGetRec pre_sGetRec g_sGetRec))
noncomputable def QF16:FuncId→Bool:=qadd QF15 34
theorem G16:Good Try.prog tt S16 QF16:=G15.addQ c_sGetRec (cbl Try.f34) (fun _=>rfl)

noncomputable abbrev P_iinRange:List PSh:=[.t (.int .i64),.t (.int .i64),.t (.int .i64)]
noncomputable def iinRange (a0:Int) (a1:Int) (a2:Int):Bool:=(cond (decide (a0 ≥ a1)) (decide (a0≤a2)) false)
noncomputable abbrev e_iinRange (r:Bool):AV×List AObj:=((.t true .bool r),[])
noncomputable abbrev g_iinRange:pshsDen P_iinRange→AV×List AObj:=fun d=>e_iinRange (iinRange d.1 d.2.1 d.2.2.1)
noncomputable abbrev pre_iinRange:pshsDen P_iinRange→Bool:=fun d=>true
theorem run_iinRange:RunP true G16 (fun _ _=>none) Try.f101 P_iinRange pre_iinRange g_iinRange:=by
 rintro ⟨a0,⟨a1,⟨a2,_⟩⟩⟩ hp
 refine Eq.trans (b:=(cond (decide (a0 ≥ a1)) (some (e_iinRange (decide (a0≤a2)))) (some (e_iinRange false)))) (by kernel_rfl) ?_
 exact (cndG e_iinRange (fun _h=>rfl) (fun _h=>rfl))
theorem c_iinRange:PContract Try.prog 101 (sumOf P_iinRange pre_iinRange g_iinRange):=pcD true G16 hlz run_iinRange
noncomputable def S17:Tab:=Tab.add S16 101 (lift (sumOf P_iinRange pre_iinRange g_iinRange))
noncomputable def QF17:FuncId→Bool:=qadd QF16 101
theorem G17:Good Try.prog tt S17 QF17:=G16.addQ c_iinRange (cbl Try.f101) (fun _=>rfl)

noncomputable abbrev jS46:List Sh:=.junk::.junk::.junk::.junk::.junk::.junk::.junk::.junk::.junk::.junk::jS36
noncomputable abbrev jS48:List Sh:=.junk::.junk::jS46
noncomputable abbrev jS54:List Sh:=.junk::jS53
noncomputable abbrev u49:=((),(),(),(),(),(),(),(),(),(),(),(),u37)
noncomputable abbrev u47:=((),(),(),(),(),(),(),(),(),(),u37)
noncomputable abbrev jA48:List AV:=.junk::.junk::.junk::.junk::.junk::.junk::.junk::.junk::.junk::.junk::.junk::.junk::jA36
noncomputable abbrev jA46:List AV:=.junk::.junk::.junk::.junk::.junk::.junk::.junk::.junk::.junk::.junk::jA36
noncomputable abbrev jA54:List AV:=.junk::jA53
noncomputable abbrev P_iGetNum:List PSh:=[.t t_sy,.t (.int .i64)]
noncomputable abbrev S_iGetNum_0:SS:=⟨(.t false t_sy::.t true (.int .i64)::.junk::.junk::.junk::.junk::.junk::.t true (.int .i64)::.t true (.int .i64)::jS46),[]⟩
noncomputable abbrev E_iGetNum_0_0:SS:=⟨(.junk::.junk::.junk::.junk::.t true (.int .i64)::.t true (.int .i64)::.t true .bool::jS48),[]⟩
noncomputable abbrev E_iGetNum_0_1:SS:=⟨(.junk::jS54),[]⟩
noncomputable def st_iGetNum_0 (x0:List Int) (x1:Int) (x7:Int) (x8:Int):RT S_iGetNum_0.den:=(.br (decide (x8<(5:Int))) (.br (decide (x1<((x0.length:Nat):Int))) (.br (decide (0≤x1∧x1<((x0.length:Nat):Int))) (.br (decide (0≤(IntKind.wrap .u64 (IntKind.wrap .i64 ((7:Int)*x8))))) (.br (decide ((IntKind.wrap .i64 (x0.getD x1.toNat (0:Int)))<(128:Int))) (.br ((IntKind.wrap .i64 (x0.getD x1.toNat (0:Int)))==(0:Int)) (.br (decide (x8 > (0:Int))) (.done .ret E_iGetNum_0_0 (((),(),(),(),(0:Int),(0:Int),false,u49),())) (.br (decide ((ior .i64 x7 (IntKind.wrap .i64 ((iand .i64 (IntKind.wrap .i64 (x0.getD x1.toNat (0:Int))) (127:Int))*2 ^ (min (Int.toNat (IntKind.wrap .u64 (IntKind.wrap .i64 ((7:Int)*x8)))) (IntKind.bits .i64))))) > (1000000000:Int))) (.done .ret E_iGetNum_0_0 (((),(),(),(),(0:Int),(0:Int),false,u49),())) (.done .ret E_iGetNum_0_0 (((),(),(),(),ior .i64 x7 (IntKind.wrap .i64 ((iand .i64 (IntKind.wrap .i64 (x0.getD x1.toNat (0:Int))) (127:Int))*2 ^ (min (Int.toNat (IntKind.wrap .u64 (IntKind.wrap .i64 ((7:Int)*x8)))) (IntKind.bits .i64)))),IntKind.wrap .i64 (x1+(1:Int)),true,u49),())))) (.br (decide ((ior .i64 x7 (IntKind.wrap .i64 ((iand .i64 (IntKind.wrap .i64 (x0.getD x1.toNat (0:Int))) (127:Int))*2 ^ (min (Int.toNat (IntKind.wrap .u64 (IntKind.wrap .i64 ((7:Int)*x8)))) (IntKind.bits .i64))))) > (1000000000:Int))) (.done .ret E_iGetNum_0_0 (((),(),(),(),(0:Int),(0:Int),false,u49),())) (.done .ret E_iGetNum_0_0 (((),(),(),(),ior .i64 x7 (IntKind.wrap .i64 ((iand .i64 (IntKind.wrap .i64 (x0.getD x1.toNat (0:Int))) (127:Int))*2 ^ (min (Int.toNat (IntKind.wrap .u64 (IntKind.wrap .i64 ((7:Int)*x8)))) (IntKind.bits .i64)))),IntKind.wrap .i64 (x1+(1:Int)),true,u49),())))) (.next ((x0,IntKind.wrap .i64 (x1+(1:Int)),(),(),(),(),(),ior .i64 x7 (IntKind.wrap .i64 ((iand .i64 (IntKind.wrap .i64 (x0.getD x1.toNat (0:Int))) (127:Int))*2 ^ (min (Int.toNat (IntKind.wrap .u64 (IntKind.wrap .i64 ((7:Int)*x8)))) (IntKind.bits .i64)))),IntKind.wrap .i64 (x8+(1:Int)),u47),()))) .fail) .fail) (.done (.exit 0) E_iGetNum_0_1 ((u56),()))) (.done (.exit 0) E_iGetNum_0_1 ((u56),())))
noncomputable abbrev V_iGetNum_0:=(List Int)×(Int)×(Int)×(Int)
noncomputable abbrev A_iGetNum_0:=Nat×(Int)×(Int)×(Bool)
noncomputable def fl_iGetNum_0:A_iGetNum_0:=(99,((0:Int):Int),((0:Int):Int),(false:Bool))
noncomputable def ss_iGetNum_0 (x0:List Int) (x1:Int) (x7:Int) (x8:Int):V_iGetNum_0 ⊕ A_iGetNum_0:=(cond (decide (x8<(5:Int))) (cond (decide (x1<((x0.length:Nat):Int))) (cond (decide (0≤x1∧x1<((x0.length:Nat):Int))) (cond (decide (0≤(IntKind.wrap .u64 (IntKind.wrap .i64 ((7:Int)*x8))))) (cond (decide ((IntKind.wrap .i64 (x0.getD x1.toNat (0:Int)))<(128:Int))) (cond ((IntKind.wrap .i64 (x0.getD x1.toNat (0:Int)))==(0:Int)) (cond (decide (x8 > (0:Int))) (.inr (0,(0:Int),(0:Int),false)) (cond (decide ((ior .i64 x7 (IntKind.wrap .i64 ((iand .i64 (IntKind.wrap .i64 (x0.getD x1.toNat (0:Int))) (127:Int))*2 ^ (min (Int.toNat (IntKind.wrap .u64 (IntKind.wrap .i64 ((7:Int)*x8)))) (IntKind.bits .i64))))) > (1000000000:Int))) (.inr (0,(0:Int),(0:Int),false)) (.inr (0,ior .i64 x7 (IntKind.wrap .i64 ((iand .i64 (IntKind.wrap .i64 (x0.getD x1.toNat (0:Int))) (127:Int))*2 ^ (min (Int.toNat (IntKind.wrap .u64 (IntKind.wrap .i64 ((7:Int)*x8)))) (IntKind.bits .i64)))),IntKind.wrap .i64 (x1+(1:Int)),true)))) (cond (decide ((ior .i64 x7 (IntKind.wrap .i64 ((iand .i64 (IntKind.wrap .i64 (x0.getD x1.toNat (0:Int))) (127:Int))*2 ^ (min (Int.toNat (IntKind.wrap .u64 (IntKind.wrap .i64 ((7:Int)*x8)))) (IntKind.bits .i64))))) > (1000000000:Int))) (.inr (0,(0:Int),(0:Int),false)) (.inr (0,ior .i64 x7 (IntKind.wrap .i64 ((iand .i64 (IntKind.wrap .i64 (x0.getD x1.toNat (0:Int))) (127:Int))*2 ^ (min (Int.toNat (IntKind.wrap .u64 (IntKind.wrap .i64 ((7:Int)*x8)))) (IntKind.bits .i64)))),IntKind.wrap .i64 (x1+(1:Int)),true)))) (.inl (x0,IntKind.wrap .i64 (x1+(1:Int)),ior .i64 x7 (IntKind.wrap .i64 ((iand .i64 (IntKind.wrap .i64 (x0.getD x1.toNat (0:Int))) (127:Int))*2 ^ (min (Int.toNat (IntKind.wrap .u64 (IntKind.wrap .i64 ((7:Int)*x8)))) (IntKind.bits .i64)))),IntKind.wrap .i64 (x8+(1:Int))))) (.inr fl_iGetNum_0)) (.inr fl_iGetNum_0)) (.inr (1,((0:Int):Int),((0:Int):Int),(false:Bool)))) (.inr (1,((0:Int):Int),((0:Int):Int),(false:Bool))))
noncomputable def it_iGetNum_0 (x0:List Int) (x1:Int) (x7:Int) (x8:Int):A_iGetNum_0:=itX (fun v:V_iGetNum_0=>ss_iGetNum_0 v.1 v.2.1 v.2.2.1 v.2.2.2) fl_iGetNum_0 (x0,x1,x7,x8)
noncomputable def ct_iGetNum_0 (a:A_iGetNum_0):CT:=(.br (a.1==0) (.done .ret E_iGetNum_0_0 (((),(),(),(),a.2.1,a.2.2.1,a.2.2.2,u49),())) (.br (a.1==1) (.done (.exit 0) E_iGetNum_0_1 ((u56),())) .fail))
noncomputable def T_iGetNum_0 (x0:List Int) (x1:Int) (x7:Int) (x8:Int):CT:=ct_iGetNum_0 (it_iGetNum_0 x0 x1 x7 x8)
noncomputable abbrev ap_iGetNum_0 {α:Sort _} (f:(List Int)→Int→Int→Int→α) (d:S_iGetNum_0.den):α:=f d.1.1 d.1.2.1 d.1.2.2.2.2.2.2.2.1 d.1.2.2.2.2.2.2.2.2.1
noncomputable abbrev sp_iGetNum_0:S_iGetNum_0.den→RT S_iGetNum_0.den:=(ap_iGetNum_0 st_iGetNum_0)
noncomputable def body_iGetNum_0:Code:=((loopsIn 0 (bodyOf Try.f76)).getD 0 (0,.skip)).2
noncomputable abbrev pv_iGetNum_0 (v:V_iGetNum_0):S_iGetNum_0.den:=((v.1,v.2.1,(),(),(),(),(),v.2.2.1,v.2.2.2,u47),())
theorem rl_iGetNum_0:(∀ v:V_iGetNum_0,(st_iGetNum_0 v.1 v.2.1 v.2.2.1 v.2.2.2).val=relS pv_iGetNum_0 ct_iGetNum_0 (ss_iGetNum_0 v.1 v.2.1 v.2.2.1 v.2.2.2))∧∀ a:A_iGetNum_0,CEnd S_iGetNum_0.den (ct_iGetNum_0 a):=⟨fun v=>by repeat' first | apply relB | rfl,fun a=>(cendB (cendD (by simp)) (cendB (cendD (by simp)) cendF))⟩
noncomputable def ox_iGetNum_0 (x0:List Int) (x1:Int) (x7:Int) (x8:Int):Option (Ex×St):=(cond (decide (x8<(5:Int))) (cond (decide (x1<((x0.length:Nat):Int))) (cond (decide (0≤x1∧x1<((x0.length:Nat):Int))) (cond (decide (0≤(IntKind.wrap .u64 (IntKind.wrap .i64 ((7:Int)*x8))))) (cond (decide ((IntKind.wrap .i64 (x0.getD x1.toNat (0:Int)))<(128:Int))) (cond ((IntKind.wrap .i64 (x0.getD x1.toNat (0:Int)))==(0:Int)) (cond (decide (x8 > (0:Int))) (some (.ret,(⟨(.junk::.junk::.junk::.junk::(.t true (.int .i64) (0:Int))::(.t true (.int .i64) (0:Int))::(.t true .bool false)::jA48),[],0,[]⟩:St))) (cond (decide ((ior .i64 x7 (IntKind.wrap .i64 ((iand .i64 (IntKind.wrap .i64 (x0.getD x1.toNat (0:Int))) (127:Int))*2 ^ (min (Int.toNat (IntKind.wrap .u64 (IntKind.wrap .i64 ((7:Int)*x8)))) (IntKind.bits .i64))))) > (1000000000:Int))) (some (.ret,(⟨(.junk::.junk::.junk::.junk::(.t true (.int .i64) (0:Int))::(.t true (.int .i64) (0:Int))::(.t true .bool false)::jA48),[],0,[]⟩:St))) (some (.ret,(⟨(.junk::.junk::.junk::.junk::(.t true (.int .i64) (ior .i64 x7 (IntKind.wrap .i64 ((iand .i64 (IntKind.wrap .i64 (x0.getD x1.toNat (0:Int))) (127:Int))*2 ^ (min (Int.toNat (IntKind.wrap .u64 (IntKind.wrap .i64 ((7:Int)*x8)))) (IntKind.bits .i64))))))::(.t true (.int .i64) (IntKind.wrap .i64 (x1+(1:Int))))::(.t true .bool true)::jA48),[],0,[]⟩:St))))) (cond (decide ((ior .i64 x7 (IntKind.wrap .i64 ((iand .i64 (IntKind.wrap .i64 (x0.getD x1.toNat (0:Int))) (127:Int))*2 ^ (min (Int.toNat (IntKind.wrap .u64 (IntKind.wrap .i64 ((7:Int)*x8)))) (IntKind.bits .i64))))) > (1000000000:Int))) (some (.ret,(⟨(.junk::.junk::.junk::.junk::(.t true (.int .i64) (0:Int))::(.t true (.int .i64) (0:Int))::(.t true .bool false)::jA48),[],0,[]⟩:St))) (some (.ret,(⟨(.junk::.junk::.junk::.junk::(.t true (.int .i64) (ior .i64 x7 (IntKind.wrap .i64 ((iand .i64 (IntKind.wrap .i64 (x0.getD x1.toNat (0:Int))) (127:Int))*2 ^ (min (Int.toNat (IntKind.wrap .u64 (IntKind.wrap .i64 ((7:Int)*x8)))) (IntKind.bits .i64))))))::(.t true (.int .i64) (IntKind.wrap .i64 (x1+(1:Int))))::(.t true .bool true)::jA48),[],0,[]⟩:St))))) (some (.normal,(⟨((.t false t_sy x0)::(.t true (.int .i64) (IntKind.wrap .i64 (x1+(1:Int))))::.junk::.junk::.junk::.junk::.junk::(.t true (.int .i64) (ior .i64 x7 (IntKind.wrap .i64 ((iand .i64 (IntKind.wrap .i64 (x0.getD x1.toNat (0:Int))) (127:Int))*2 ^ (min (Int.toNat (IntKind.wrap .u64 (IntKind.wrap .i64 ((7:Int)*x8)))) (IntKind.bits .i64))))))::(.t true (.int .i64) (IntKind.wrap .i64 (x8+(1:Int))))::jA46),[],0,[]⟩:St)))) none) none) (some ((.exit 0),(⟨(.junk::jA54),[],0,[]⟩:St)))) (some ((.exit 0),(⟨(.junk::jA54),[],0,[]⟩:St))))
theorem rdA_iGetNum_0:RdA G17 (fun _ _=>none) 0 body_iGetNum_0 S_iGetNum_0 0 [] (kepts [4,5,6] [(0,[])]) (ap_iGetNum_0 ox_iGetNum_0):=by
 intro d
 kernel_rfl
theorem rdB_iGetNum_0:∀ d:S_iGetNum_0.den,(ap_iGetNum_0 ox_iGetNum_0) d=(sp_iGetNum_0 d).opt 0 []:=by
 intro d
 kernel_rfl
noncomputable abbrev say_iGetNum_0:St→Option Tree:=S_iGetNum_0.say 0 [] [] (ap_iGetNum_0 T_iGetNum_0)
theorem lw_iGetNum_0:LoopWp Try.prog say_iGetNum_0 body_iGetNum_0:=SS.wp2 hlz [] sp_iGetNum_0 rdA_iGetNum_0 rdB_iGetNum_0 _ (fun d=>Runs.ofI2 (step:=sp_iGetNum_0) pv_iGetNum_0 rl_iGetNum_0 rfl (d.1.1,d.1.2.1,d.1.2.2.2.2.2.2.2.1,d.1.2.2.2.2.2.2.2.2.1))
noncomputable def iGetNum (a0:List Int) (a1:Int):Int×Int×Bool:=(cond (!(iinRange a1 (0:Int) (IntKind.wrap .i64 (((a0.length:Nat):Int) - (1:Int))))) ((0:Int),(0:Int),false) (cond ((it_iGetNum_0 a0 a1 (0:Int) (0:Int)).1==0) (((it_iGetNum_0 a0 a1 (0:Int) (0:Int)).2.1),((it_iGetNum_0 a0 a1 (0:Int) (0:Int)).2.2.1),((it_iGetNum_0 a0 a1 (0:Int) (0:Int)).2.2.2)) ((0:Int),(0:Int),false)))
noncomputable abbrev e_iGetNum (r:Int×Int×Bool):AV×List AObj:=((.tup [(.t true (.int .i64) r.1),(.t true (.int .i64) r.2.1),(.t true .bool r.2.2)]),[])
noncomputable abbrev g_iGetNum:pshsDen P_iGetNum→AV×List AObj:=fun d=>e_iGetNum (iGetNum d.1 d.2.1)
noncomputable def q_iGetNum (a0:List Int) (a1:Int):Bool:=cond (!(iinRange a1 (0:Int) (IntKind.wrap .i64 (((a0.length:Nat):Int) - (1:Int))))) true (cond ((it_iGetNum_0 a0 a1 (0:Int) (0:Int)).1==0) true ((it_iGetNum_0 a0 a1 (0:Int) (0:Int)).1==1))
noncomputable abbrev pre_iGetNum:pshsDen P_iGetNum→Bool:=fun d=>q_iGetNum d.1 d.2.1
noncomputable abbrev L_iGetNum:Nat→St→Option Tree:=fun b=>match b with | 0=>say_iGetNum_0 | _=>fun _=>none
theorem run_iGetNum:RunP true G17 (L_iGetNum) Try.f76 P_iGetNum pre_iGetNum g_iGetNum:=by
 rintro ⟨a0,⟨a1,_⟩⟩ hp
 change q_iGetNum a0 a1=true at hp
 unfold q_iGetNum at hp
 refine Eq.trans (b:=(cond (!(iinRange a1 (0:Int) (IntKind.wrap .i64 (((a0.length:Nat):Int) - (1:Int))))) (some (e_iGetNum ((0:Int),(0:Int),false))) (cond ((it_iGetNum_0 a0 a1 (0:Int) (0:Int)).1==0) (some (e_iGetNum (((it_iGetNum_0 a0 a1 (0:Int) (0:Int)).2.1),((it_iGetNum_0 a0 a1 (0:Int) (0:Int)).2.2.1),((it_iGetNum_0 a0 a1 (0:Int) (0:Int)).2.2.2)))) (cond ((it_iGetNum_0 a0 a1 (0:Int) (0:Int)).1==1) (some (e_iGetNum ((0:Int),(0:Int),false))) none)))) (by kernel_rfl) ?_
 exact (cndE e_iGetNum hp (fun hp=>rfl) (fun hp=>(cndE e_iGetNum hp (fun hp=>rfl) (fun hp=>(cndT hp fun _h=>rfl)))))
theorem c_iGetNum:PContract Try.prog 76 (sumOf P_iGetNum pre_iGetNum g_iGetNum):=pcD true G17 (hl1 (i:=0) (by kernel_rfl) lw_iGetNum_0) run_iGetNum
noncomputable def S18:Tab:=Tab.add S17 76 (lift (sumOf P_iGetNum pre_iGetNum g_iGetNum))
noncomputable def QF18:FuncId→Bool:=qadd QF17 76
theorem G18:Good Try.prog tt S18 QF18:=G17.addQ c_iGetNum (cbl Try.f76) (fun _=>rfl)

noncomputable abbrev SM_igetter_num:SS:=⟨[.ptr 0 0 1 0],[.box [.t false t_sy,.t true (.int .i64),.t true .bool]]⟩
noncomputable def igetter_num (p0:List Int) (p1:Int) (p2:Bool):Int×(List Int)×Int×Bool:=(cond p2 ((0:Int),p0,p1,true) (cond (!((iGetNum p0 p1).2.2)) ((0:Int),p0,p1,true) (((iGetNum p0 p1).1),p0,((iGetNum p0 p1).2.1),p2)))
noncomputable abbrev e_igetter_num (r:Int×(List Int)×Int×Bool):AV×List AObj×List Nat:=((.t true (.int .i64) r.1),[(.box [(.t false t_sy r.2.1),(.t true (.int .i64) r.2.2.1),(.t true .bool r.2.2.2)])],[])
noncomputable abbrev g_igetter_num:SM_igetter_num.den→AV×List AObj×List Nat:=fun d=>e_igetter_num (igetter_num d.2.1.1 d.2.1.2.1 d.2.1.2.2.1)
noncomputable def q_igetter_num (p0:List Int) (p1:Int) (p2:Bool):Bool:=q_iGetNum p0 p1
noncomputable abbrev pre_igetter_num:SM_igetter_num.den→Bool:=fun d=>q_igetter_num d.2.1.1 d.2.1.2.1 d.2.1.2.2.1
theorem run_igetter_num:RunM G18 (fun _ _=>none) Try.f77 SM_igetter_num pre_igetter_num g_igetter_num:=by
 rintro ⟨⟨_,_⟩,⟨⟨p0,p1,p2,_⟩,_⟩⟩ hp
 change q_igetter_num p0 p1 p2=true at hp
 unfold q_igetter_num at hp
 refine Eq.trans (b:=(cond (q_iGetNum p0 p1) (cond p2 (some (e_igetter_num ((0:Int),p0,p1,true))) (cond (!((iGetNum p0 p1).2.2)) (some (e_igetter_num ((0:Int),p0,p1,true))) (some (e_igetter_num (((iGetNum p0 p1).1),p0,((iGetNum p0 p1).2.1),p2))))) none)) (by kernel_rfl) ?_
 exact (cndT hp fun _h=>(cndG e_igetter_num (fun _h=>rfl) (fun _h=>(cndG e_igetter_num (fun _h=>rfl) (fun _h=>rfl)))))
noncomputable abbrev m_igetter_num:=win winIds (msum SM_igetter_num pre_igetter_num g_igetter_num)
theorem c_igetter_num:MContract Try.prog 77 m_igetter_num:=(mcM G18 hlz run_igetter_num).win winIds
noncomputable def S19:Tab:=Tab.add S18 77 (m_igetter_num)
noncomputable def QF19:FuncId→Bool:=QF18
theorem G19:Good Try.prog tt S19 QF19:=G18.addM c_igetter_num (win_local _) (cbl Try.f77) (by kernel_rfl)

noncomputable abbrev P_iGetText:List PSh:=[.t t_sy,.t (.int .i64)]
noncomputable def iGetText (a0:List Int) (a1:Int):ByteArray×Int×Bool:=(cond (!((iGetNum a0 a1).2.2)) (bE,(0:Int),false) (cond (decide (((iGetNum a0 a1).1) > (IntKind.wrap .i64 (((a0.length:Nat):Int) - ((iGetNum a0 a1).2.1))))) (bE,(0:Int),false) ((⟨(((a0.take (IntKind.wrap .i64 (((iGetNum a0 a1).2.1)+((iGetNum a0 a1).1))).toNat).drop ((iGetNum a0 a1).2.1).toNat).map fun n=>UInt8.ofNat n.toNat).toArray⟩:ByteArray),IntKind.wrap .i64 (((iGetNum a0 a1).2.1)+((iGetNum a0 a1).1)),true)))
noncomputable abbrev e_iGetText (r:ByteArray×Int×Bool):AV×List AObj:=((.tup [(.t true .str r.1),(.t true (.int .i64) r.2.1),(.t true .bool r.2.2)]),[])
noncomputable abbrev g_iGetText:pshsDen P_iGetText→AV×List AObj:=fun d=>e_iGetText (iGetText d.1 d.2.1)
noncomputable def q_iGetText (a0:List Int) (a1:Int):Bool:=(q_iGetNum a0 a1)&&(cond (!((iGetNum a0 a1).2.2)) true (cond (decide (((iGetNum a0 a1).1) > (IntKind.wrap .i64 (((a0.length:Nat):Int) - ((iGetNum a0 a1).2.1))))) true (decide (0≤((iGetNum a0 a1).2.1)∧((iGetNum a0 a1).2.1)≤(IntKind.wrap .i64 (((iGetNum a0 a1).2.1)+((iGetNum a0 a1).1)))∧(IntKind.wrap .i64 (((iGetNum a0 a1).2.1)+((iGetNum a0 a1).1)))≤((a0.length:Nat):Int)))))
noncomputable abbrev pre_iGetText:pshsDen P_iGetText→Bool:=fun d=>q_iGetText d.1 d.2.1
theorem run_iGetText:RunP true G19 (fun _ _=>none) Try.f155 P_iGetText pre_iGetText g_iGetText:=by
 rintro ⟨a0,⟨a1,_⟩⟩ hp
 change q_iGetText a0 a1=true at hp
 unfold q_iGetText at hp
 refine Eq.trans (b:=(cond (q_iGetNum a0 a1) (cond (!((iGetNum a0 a1).2.2)) (some (e_iGetText ((⟨#[]⟩:ByteArray),(0:Int),false))) (cond (decide (((iGetNum a0 a1).1) > (IntKind.wrap .i64 (((a0.length:Nat):Int) - ((iGetNum a0 a1).2.1))))) (some (e_iGetText ((⟨#[]⟩:ByteArray),(0:Int),false))) (cond (decide (0≤((iGetNum a0 a1).2.1)∧((iGetNum a0 a1).2.1)≤(IntKind.wrap .i64 (((iGetNum a0 a1).2.1)+((iGetNum a0 a1).1)))∧(IntKind.wrap .i64 (((iGetNum a0 a1).2.1)+((iGetNum a0 a1).1)))≤((a0.length:Nat):Int))) (some (e_iGetText ((⟨(((a0.take (IntKind.wrap .i64 (((iGetNum a0 a1).2.1)+((iGetNum a0 a1).1))).toNat).drop ((iGetNum a0 a1).2.1).toNat).map fun n=>UInt8.ofNat n.toNat).toArray⟩:ByteArray),IntKind.wrap .i64 (((iGetNum a0 a1).2.1)+((iGetNum a0 a1).1)),true))) none))) none)) (by kernel_rfl) ?_
 exact (cndA hp fun hp=>(cndE e_iGetText hp (fun hp=>rfl) (fun hp=>(cndE e_iGetText hp (fun hp=>rfl) (fun hp=>(cndT hp fun _h=>rfl))))))
theorem c_iGetText:PContract Try.prog 155 (sumOf P_iGetText pre_iGetText g_iGetText):=pcD true G19 hlz run_iGetText
noncomputable def S20:Tab:=Tab.add S19 155 (lift (sumOf P_iGetText pre_iGetText g_iGetText))
noncomputable def QF20:FuncId→Bool:=qadd QF19 155
theorem G20:Good Try.prog tt S20 QF20:=G19.addQ c_iGetText (cbl Try.f155) (fun _=>rfl)

noncomputable abbrev SM_igetter_text:SS:=⟨[.ptr 0 0 1 0],[.box [.t false t_sy,.t true (.int .i64),.t true .bool]]⟩
noncomputable def igetter_text (p0:List Int) (p1:Int) (p2:Bool):ByteArray×(List Int)×Int×Bool:=(cond p2 (bE,p0,p1,true) (cond (!((iGetText p0 p1).2.2)) (bE,p0,p1,true) (((iGetText p0 p1).1),p0,((iGetText p0 p1).2.1),p2)))
noncomputable abbrev e_igetter_text (r:ByteArray×(List Int)×Int×Bool):AV×List AObj×List Nat:=((.t true .str r.1),[(.box [(.t false t_sy r.2.1),(.t true (.int .i64) r.2.2.1),(.t true .bool r.2.2.2)])],[])
noncomputable abbrev g_igetter_text:SM_igetter_text.den→AV×List AObj×List Nat:=fun d=>e_igetter_text (igetter_text d.2.1.1 d.2.1.2.1 d.2.1.2.2.1)
noncomputable def q_igetter_text (p0:List Int) (p1:Int) (p2:Bool):Bool:=q_iGetText p0 p1
noncomputable abbrev pre_igetter_text:SM_igetter_text.den→Bool:=fun d=>q_igetter_text d.2.1.1 d.2.1.2.1 d.2.1.2.2.1
theorem run_igetter_text:RunM G20 (fun _ _=>none) Try.f120 SM_igetter_text pre_igetter_text g_igetter_text:=by
 rintro ⟨⟨_,_⟩,⟨⟨p0,p1,p2,_⟩,_⟩⟩ hp
 change q_igetter_text p0 p1 p2=true at hp
 unfold q_igetter_text at hp
 refine Eq.trans (b:=(cond (q_iGetText p0 p1) (cond p2 (some (e_igetter_text ((⟨#[]⟩:ByteArray),p0,p1,true))) (cond (!((iGetText p0 p1).2.2)) (some (e_igetter_text ((⟨#[]⟩:ByteArray),p0,p1,true))) (some (e_igetter_text (((iGetText p0 p1).1),p0,((iGetText p0 p1).2.1),p2))))) none)) (by kernel_rfl) ?_
 exact (cndT hp fun _h=>(cndG e_igetter_text (fun _h=>rfl) (fun _h=>(cndG e_igetter_text (fun _h=>rfl) (fun _h=>rfl)))))
noncomputable abbrev m_igetter_text:=win winIds (msum SM_igetter_text pre_igetter_text g_igetter_text)
theorem c_igetter_text:MContract Try.prog 120 m_igetter_text:=(mcM G20 hlz run_igetter_text).win winIds
noncomputable def S21:Tab:=Tab.add S20 120 (m_igetter_text)
noncomputable def QF21:FuncId→Bool:=QF20
theorem G21:Good Try.prog tt S21 QF21:=G20.addM c_igetter_text (win_local _) (cbl Try.f120) (by kernel_rfl)

noncomputable abbrev jS16:List Sh:=.junk::.junk::.junk::.junk::.junk::.junk::.junk::.junk::.junk::.junk::.junk::.junk::.junk::.junk::.junk::.junk::[]
noncomputable abbrev u17:=((),(),(),(),(),(),(),(),(),(),(),(),(),(),(),(),())
noncomputable abbrev u32:=((),(),(),u29)
noncomputable abbrev jA16:List AV:=.junk::.junk::.junk::.junk::.junk::.junk::.junk::.junk::.junk::.junk::.junk::.junk::.junk::.junk::.junk::.junk::[]
noncomputable abbrev jA26:List AV:=.junk::.junk::.junk::.junk::.junk::.junk::.junk::.junk::.junk::.junk::jA16
noncomputable abbrev SM_igetter_ops:SS:=⟨[.ptr 0 0 1 0],[.box [.t false t_sy,.t true (.int .i64),.t true .bool]]⟩
noncomputable abbrev S_igetter_ops_0:SS:=⟨(.ptr 0 0 1 0::.junk::.junk::.junk::.all 1 3::.junk::.junk::.junk::.junk::.junk::.junk::.junk::.junk::.t true (.int .i64)::.t true (.int .i64)::jS16),[.box [.t false t_sy,.t true (.int .i64),.t true .bool],.rows 124 true tq3]⟩
noncomputable abbrev E_igetter_ops_0_0:SS:=⟨(.junk::.junk::.junk::.junk::.all 1 3::jS26),[.box [.t false t_sy,.t true (.int .i64),.t true .bool],.rows 124 true tq3]⟩
noncomputable def k1_igetter_ops (p0:List Int) (p1:Int) (p2:Bool):=igetter_text ((igetter_num p0 p1 p2).2.1) ((igetter_num p0 p1 p2).2.2.1) ((igetter_num p0 p1 p2).2.2.2)
noncomputable def k2_igetter_ops (p0:List Int) (p1:Int) (p2:Bool):=igetter_text ((k1_igetter_ops p0 p1 p2).2.1) ((k1_igetter_ops p0 p1 p2).2.2.1) ((k1_igetter_ops p0 p1 p2).2.2.2)
noncomputable def st_igetter_ops_0 (x13:Int) (x14:Int) (p0:List Int) (p1:Int) (p2:Bool) (h1:Lq1):RT S_igetter_ops_0.den:=(.br (decide (x14<x13)) (.br (q_igetter_num p0 p1 p2) (.br (q_igetter_text ((igetter_num p0 p1 p2).2.1) ((igetter_num p0 p1 p2).2.2.1) ((igetter_num p0 p1 p2).2.2.2)) (.br (q_igetter_text ((k1_igetter_ops p0 p1 p2).2.1) ((k1_igetter_ops p0 p1 p2).2.2.1) ((k1_igetter_ops p0 p1 p2).2.2.2)) (.br (decide ((h1.length+[(((igetter_num p0 p1 p2).1),(((k1_igetter_ops p0 p1 p2).1),((k2_igetter_ops p0 p1 p2).1)))].length)*40≤MAXB)) (.next (((),(),(),(),(),(),(),(),(),(),(),(),(),x13,IntKind.wrap .i64 (x14+(1:Int)),u17),((((k2_igetter_ops p0 p1 p2).2.1),((k2_igetter_ops p0 p1 p2).2.2.1),((k2_igetter_ops p0 p1 p2).2.2.2),()),h1++[(((igetter_num p0 p1 p2).1),(((k1_igetter_ops p0 p1 p2).1),((k2_igetter_ops p0 p1 p2).1)))],()))) .fail) .fail) .fail) .fail) (.done (.exit 0) E_igetter_ops_0_0 ((u32),((p0,p1,p2,()),h1,()))))
noncomputable abbrev V_igetter_ops_0:=(Int)×(Int)×(List Int)×(Int)×(Bool)×(Lq1)
noncomputable abbrev A_igetter_ops_0:=Nat×(List Int)×(Int)×(Bool)×(Lq1)
noncomputable def fl_igetter_ops_0:A_igetter_ops_0:=(99,([]:List Int),((0:Int):Int),(false:Bool),([]:Lq1))
noncomputable def ss_igetter_ops_0 (x13:Int) (x14:Int) (p0:List Int) (p1:Int) (p2:Bool) (h1:Lq1):V_igetter_ops_0 ⊕ A_igetter_ops_0:=(cond (decide (x14<x13)) (cond (q_igetter_num p0 p1 p2) (cond (q_igetter_text ((igetter_num p0 p1 p2).2.1) ((igetter_num p0 p1 p2).2.2.1) ((igetter_num p0 p1 p2).2.2.2)) (cond (q_igetter_text ((k1_igetter_ops p0 p1 p2).2.1) ((k1_igetter_ops p0 p1 p2).2.2.1) ((k1_igetter_ops p0 p1 p2).2.2.2)) (cond (decide ((h1.length+[(((igetter_num p0 p1 p2).1),(((k1_igetter_ops p0 p1 p2).1),((k2_igetter_ops p0 p1 p2).1)))].length)*40≤MAXB)) (.inl (x13,IntKind.wrap .i64 (x14+(1:Int)),((k2_igetter_ops p0 p1 p2).2.1),((k2_igetter_ops p0 p1 p2).2.2.1),((k2_igetter_ops p0 p1 p2).2.2.2),h1++[(((igetter_num p0 p1 p2).1),(((k1_igetter_ops p0 p1 p2).1),((k2_igetter_ops p0 p1 p2).1)))])) (.inr fl_igetter_ops_0)) (.inr fl_igetter_ops_0)) (.inr fl_igetter_ops_0)) (.inr fl_igetter_ops_0)) (.inr (0,p0,p1,p2,h1)))
noncomputable def it_igetter_ops_0 (x13:Int) (x14:Int) (p0:List Int) (p1:Int) (p2:Bool) (h1:Lq1):A_igetter_ops_0:=itX (fun v:V_igetter_ops_0=>ss_igetter_ops_0 v.1 v.2.1 v.2.2.1 v.2.2.2.1 v.2.2.2.2.1 v.2.2.2.2.2) fl_igetter_ops_0 (x13,x14,p0,p1,p2,h1)
noncomputable def ct_igetter_ops_0 (a:A_igetter_ops_0):CT:=(.br (a.1==0) (.done (.exit 0) E_igetter_ops_0_0 ((u32),((a.2.1,a.2.2.1,a.2.2.2.1,()),a.2.2.2.2,()))) .fail)
noncomputable def T_igetter_ops_0 (x13:Int) (x14:Int) (p0:List Int) (p1:Int) (p2:Bool) (h1:Lq1):CT:=ct_igetter_ops_0 (it_igetter_ops_0 x13 x14 p0 p1 p2 h1)
noncomputable abbrev ap_igetter_ops_0 {α:Sort _} (f:Int→Int→(List Int)→Int→Bool→(Lq1)→α) (d:S_igetter_ops_0.den):α:=f d.1.2.2.2.2.2.2.2.2.2.2.2.2.2.1 d.1.2.2.2.2.2.2.2.2.2.2.2.2.2.2.1 d.2.1.1 d.2.1.2.1 d.2.1.2.2.1 d.2.2.1
noncomputable abbrev sp_igetter_ops_0:S_igetter_ops_0.den→RT S_igetter_ops_0.den:=(ap_igetter_ops_0 st_igetter_ops_0)
noncomputable def body_igetter_ops_0:Code:=((loopsIn 0 (bodyOf Try.f78)).getD 0 (0,.skip)).2
noncomputable abbrev pv_igetter_ops_0 (v:V_igetter_ops_0):S_igetter_ops_0.den:=(((),(),(),(),(),(),(),(),(),(),(),(),(),v.1,v.2.1,u17),((v.2.2.1,v.2.2.2.1,v.2.2.2.2.1,()),v.2.2.2.2.2,()))
theorem rl_igetter_ops_0:(∀ v:V_igetter_ops_0,(st_igetter_ops_0 v.1 v.2.1 v.2.2.1 v.2.2.2.1 v.2.2.2.2.1 v.2.2.2.2.2).val=relS pv_igetter_ops_0 ct_igetter_ops_0 (ss_igetter_ops_0 v.1 v.2.1 v.2.2.1 v.2.2.2.1 v.2.2.2.2.1 v.2.2.2.2.2))∧∀ a:A_igetter_ops_0,CEnd S_igetter_ops_0.den (ct_igetter_ops_0 a):=⟨fun v=>(relB (relB (relB (relB (relB rfl rfl) rfl) rfl) rfl) rfl),fun a=>(cendB (cendD (by simp)) cendF)⟩
noncomputable def ox_igetter_ops_0 (x13:Int) (x14:Int) (p0:List Int) (p1:Int) (p2:Bool) (h1:Lq1):Option (Ex×St):=(cond (decide (x14<x13)) (cond (q_igetter_num p0 p1 p2) (cond (q_igetter_text ((igetter_num p0 p1 p2).2.1) ((igetter_num p0 p1 p2).2.2.1) ((igetter_num p0 p1 p2).2.2.2)) (cond (q_igetter_text ((k1_igetter_ops p0 p1 p2).2.1) ((k1_igetter_ops p0 p1 p2).2.2.1) ((k1_igetter_ops p0 p1 p2).2.2.2)) (cond (decide ((h1.length+[(((igetter_num p0 p1 p2).1),(((k1_igetter_ops p0 p1 p2).1),((k2_igetter_ops p0 p1 p2).1)))].length)*40≤MAXB)) (some (.normal,(⟨((.ptr 0 0 1 0)::.junk::.junk::.junk::(.all 1 3)::.junk::.junk::.junk::.junk::.junk::.junk::.junk::.junk::(.t true (.int .i64) x13)::(.t true (.int .i64) (IntKind.wrap .i64 (x14+(1:Int))))::jA16),[(.box [(.t false t_sy ((k2_igetter_ops p0 p1 p2).2.1)),(.t true (.int .i64) ((k2_igetter_ops p0 p1 p2).2.2.1)),(.t true .bool ((k2_igetter_ops p0 p1 p2).2.2.2))]),(.rows 124 true tq3 (h1++[(((igetter_num p0 p1 p2).1),(((k1_igetter_ops p0 p1 p2).1),((k2_igetter_ops p0 p1 p2).1)))]))],1,[]⟩:St))) none) none) none) none) (some ((.exit 0),(⟨(.junk::.junk::.junk::.junk::(.all 1 3)::jA26),[(.box [(.t false t_sy p0),(.t true (.int .i64) p1),(.t true .bool p2)]),(.rows 124 true tq3 h1)],1,[]⟩:St))))
theorem rdA_igetter_ops_0:RdA G21 (fun _ _=>none) 0 body_igetter_ops_0 S_igetter_ops_0 1 [] (kepts [] [(0,[4])]) (ap_igetter_ops_0 ox_igetter_ops_0):=by
 intro d
 kernel_rfl
theorem rdB_igetter_ops_0:∀ d:S_igetter_ops_0.den,(ap_igetter_ops_0 ox_igetter_ops_0) d=(sp_igetter_ops_0 d).opt 1 []:=by
 intro d
 kernel_rfl
noncomputable abbrev say_igetter_ops_0:St→Option Tree:=S_igetter_ops_0.say 1 [] [(4,124,tq3)] (ap_igetter_ops_0 T_igetter_ops_0)
theorem lw_igetter_ops_0:LoopWp Try.prog say_igetter_ops_0 body_igetter_ops_0:=SS.wp2 hlz [(4,124,tq3)] sp_igetter_ops_0 rdA_igetter_ops_0 rdB_igetter_ops_0 _ (fun d=>Runs.ofI2 (step:=sp_igetter_ops_0) pv_igetter_ops_0 rl_igetter_ops_0 rfl (d.1.2.2.2.2.2.2.2.2.2.2.2.2.2.1,d.1.2.2.2.2.2.2.2.2.2.2.2.2.2.2.1,d.2.1.1,d.2.1.2.1,d.2.1.2.2.1,d.2.2.1))
noncomputable def k3_igetter_ops (p0:List Int) (p1:Int) (p2:Bool):=it_igetter_ops_0 ((igetter_num p0 p1 p2).1) (0:Int) ((igetter_num p0 p1 p2).2.1) ((igetter_num p0 p1 p2).2.2.1) ((igetter_num p0 p1 p2).2.2.2) ([]:Lq1)
noncomputable def igetter_ops (p0:List Int) (p1:Int) (p2:Bool):(List Int)×Int×Bool×Lq1:=(cond (decide (((igetter_num p0 p1 p2).1) > (8:Int))) (((igetter_num p0 p1 p2).2.1),((igetter_num p0 p1 p2).2.2.1),true,([]:Lq1)) (((k3_igetter_ops p0 p1 p2).2.1),((k3_igetter_ops p0 p1 p2).2.2.1),((k3_igetter_ops p0 p1 p2).2.2.2.1),((k3_igetter_ops p0 p1 p2).2.2.2.2)))
noncomputable abbrev e_igetter_ops (r:(List Int)×Int×Bool×Lq1):AV×List AObj×List Nat:=((.all 1 3),[(.box [(.t false t_sy r.1),(.t true (.int .i64) r.2.1),(.t true .bool r.2.2.1)]),(.rows 124 true tq3 r.2.2.2)],[])
noncomputable abbrev g_igetter_ops:SM_igetter_ops.den→AV×List AObj×List Nat:=fun d=>e_igetter_ops (igetter_ops d.2.1.1 d.2.1.2.1 d.2.1.2.2.1)
noncomputable def q_igetter_ops (p0:List Int) (p1:Int) (p2:Bool):Bool:=(q_igetter_num p0 p1 p2)&&(cond (decide (((igetter_num p0 p1 p2).1) > (8:Int))) true ((k3_igetter_ops p0 p1 p2).1==0))
noncomputable abbrev pre_igetter_ops:SM_igetter_ops.den→Bool:=fun d=>q_igetter_ops d.2.1.1 d.2.1.2.1 d.2.1.2.2.1
noncomputable abbrev L_igetter_ops:Nat→St→Option Tree:=fun b=>match b with | 0=>say_igetter_ops_0 | _=>fun _=>none
theorem run_igetter_ops:RunM G21 (L_igetter_ops) Try.f78 SM_igetter_ops pre_igetter_ops g_igetter_ops:=by
 rintro ⟨⟨_,_⟩,⟨⟨p0,p1,p2,_⟩,_⟩⟩ hp
 change q_igetter_ops p0 p1 p2=true at hp
 unfold q_igetter_ops at hp
 refine Eq.trans (b:=(cond (q_igetter_num p0 p1 p2) (cond (decide (((igetter_num p0 p1 p2).1) > (8:Int))) (some (e_igetter_ops (((igetter_num p0 p1 p2).2.1),((igetter_num p0 p1 p2).2.2.1),true,([]:Lq1)))) (cond ((k3_igetter_ops p0 p1 p2).1==0) (some (e_igetter_ops (((k3_igetter_ops p0 p1 p2).2.1),((k3_igetter_ops p0 p1 p2).2.2.1),((k3_igetter_ops p0 p1 p2).2.2.2.1),((k3_igetter_ops p0 p1 p2).2.2.2.2)))) none)) none)) (by kernel_rfl) ?_
 exact (cndA hp fun hp=>(cndE e_igetter_ops hp (fun hp=>rfl) (fun hp=>(cndT hp fun _h=>rfl))))
noncomputable abbrev m_igetter_ops:=win winIds (msum SM_igetter_ops pre_igetter_ops g_igetter_ops)
theorem c_igetter_ops:MContract Try.prog 78 m_igetter_ops:=(mcM G21 (hl1 (i:=0) (by kernel_rfl) lw_igetter_ops_0) run_igetter_ops).win winIds
noncomputable def S22:Tab:=Tab.add S21 78 (m_igetter_ops)
noncomputable def QF22:FuncId→Bool:=QF21
theorem G22:Good Try.prog tt S22 QF22:=G21.addM c_igetter_ops (win_local _) (cbl Try.f78) (by kernel_rfl)

noncomputable abbrev P_iisTx:List PSh:=[.t (.int .i64)]
noncomputable def iisTx (a0:Int):Bool:=(iinRange a0 (1:Int) (1000000:Int))
noncomputable abbrev e_iisTx (r:Bool):AV×List AObj:=((.t true .bool r),[])
noncomputable abbrev g_iisTx:pshsDen P_iisTx→AV×List AObj:=fun d=>e_iisTx (iisTx d.1)
noncomputable abbrev pre_iisTx:pshsDen P_iisTx→Bool:=fun d=>true
theorem run_iisTx:RunP true G22 (fun _ _=>none) Try.f74 P_iisTx pre_iisTx g_iisTx:=by
 rintro ⟨a0,_⟩ hp
 kernel_rfl
theorem c_iisTx:PContract Try.prog 74 (sumOf P_iisTx pre_iisTx g_iisTx):=pcD true G22 hlz run_iisTx
noncomputable def S23:Tab:=Tab.add S22 74 (lift (sumOf P_iisTx pre_iisTx g_iisTx))
noncomputable def QF23:FuncId→Bool:=qadd QF22 74
theorem G23:Good Try.prog tt S23 QF23:=G22.addQ c_iisTx (cbl Try.f74) (fun _=>rfl)

noncomputable abbrev P_iisKeyByte:List PSh:=[.t (.int .u8)]
noncomputable def iisKeyByte (a0:Int):Bool:=(cond (decide (a0 ≥ (97:Int))) (cond (decide (a0≤(122:Int))) true (cond (decide (a0 ≥ (48:Int))) (decide (a0≤(57:Int))) false)) (cond (decide (a0 ≥ (48:Int))) (decide (a0≤(57:Int))) false))
noncomputable abbrev e_iisKeyByte (r:Bool):AV×List AObj:=((.t true .bool r),[])
noncomputable abbrev g_iisKeyByte:pshsDen P_iisKeyByte→AV×List AObj:=fun d=>e_iisKeyByte (iisKeyByte d.1)
noncomputable abbrev pre_iisKeyByte:pshsDen P_iisKeyByte→Bool:=fun d=>true
theorem run_iisKeyByte:RunP true G23 (fun _ _=>none) Try.f178 P_iisKeyByte pre_iisKeyByte g_iisKeyByte:=by
 rintro ⟨a0,_⟩ hp
 refine Eq.trans (b:=(cond (decide (a0 ≥ (97:Int))) (cond (decide (a0≤(122:Int))) (some (e_iisKeyByte true)) (cond (decide (a0 ≥ (48:Int))) (some (e_iisKeyByte (decide (a0≤(57:Int))))) (some (e_iisKeyByte false)))) (cond (decide (a0 ≥ (48:Int))) (some (e_iisKeyByte (decide (a0≤(57:Int))))) (some (e_iisKeyByte false))))) (by kernel_rfl) ?_
 exact (cndG e_iisKeyByte (fun _h=>(cndG e_iisKeyByte (fun _h=>rfl) (fun _h=>(cndG e_iisKeyByte (fun _h=>rfl) (fun _h=>rfl))))) (fun _h=>(cndG e_iisKeyByte (fun _h=>rfl) (fun _h=>rfl))))
theorem c_iisKeyByte:PContract Try.prog 178 (sumOf P_iisKeyByte pre_iisKeyByte g_iisKeyByte):=pcD true G23 hlz run_iisKeyByte
noncomputable def S24:Tab:=Tab.add S23 178 (lift (sumOf P_iisKeyByte pre_iisKeyByte g_iisKeyByte))
noncomputable def QF24:FuncId→Bool:=qadd QF23 178
theorem G24:Good Try.prog tt S24 QF24:=G23.addQ c_iisKeyByte (cbl Try.f178) (fun _=>rfl)

noncomputable abbrev jS11:List Sh:=.junk::.junk::.junk::.junk::.junk::.junk::.junk::.junk::.junk::.junk::.junk::[]
noncomputable abbrev jS12:List Sh:=.junk::jS11
noncomputable abbrev jS14:List Sh:=.junk::.junk::jS12
noncomputable abbrev u13:=((),(),(),(),(),(),(),(),(),(),(),(),())
noncomputable abbrev u12:=((),(),(),(),(),(),(),(),(),(),(),())
noncomputable abbrev u16:=((),(),(),u13)
noncomputable def iKeyAt (s:ByteArray) (i:Nat):Bool:=iisKeyByte (bt s (i:Int))
noncomputable abbrev P_iisWord:List PSh:=[.t .str]
noncomputable abbrev S_iisWord_0:SS:=⟨(.t true .str::.junk::.junk::.t true (.int .i64)::jS11),[]⟩
noncomputable abbrev E_iisWord_0_0:SS:=⟨(.junk::.junk::.t true .bool::jS12),[]⟩
noncomputable abbrev E_iisWord_0_1:SS:=⟨(.junk::jS14),[]⟩
noncomputable def st_iisWord_0 (x0:ByteArray) (x3:Int):RT S_iisWord_0.den:=(.br (decide (x3<((x0.size:Nat):Int))) (.br (decide (0≤x3∧x3<((x0.size:Nat):Int))) (.br (!(iisKeyByte (bt x0 x3))) (.done .ret E_iisWord_0_0 (((),(),false,u13),())) (.next ((x0,(),(),IntKind.wrap .i64 (x3+(1:Int)),u12),()))) .fail) (.done (.exit 0) E_iisWord_0_1 ((u16),())))
noncomputable def T_iisWord_0 (x0:ByteArray) (x3:Int):CT:=(.br (decide (0≤x3)&&okS x0) (.br (allF (iKeyAt x0) (x0.size - x3.toNat) x3.toNat) (.done (.exit 0) E_iisWord_0_1 ((u16),())) (.done .ret E_iisWord_0_0 (((),(),false,u13),()))) .fail)
noncomputable abbrev sp_iisWord_0:S_iisWord_0.den→RT S_iisWord_0.den:=(fun d=>st_iisWord_0 d.1.1 d.1.2.2.2.1)
noncomputable abbrev pk_iisWord_0 (x0:ByteArray) (x3:Int):S_iisWord_0.den:=((x0,(),(),x3,u12),())
noncomputable def body_iisWord_0:Code:=((loopsIn 0 (bodyOf Try.f167)).getD 0 (0,.skip)).2
theorem R_iisWord_0 (x0:ByteArray) (x3:Int):(T_iisWord_0 x0 x3).val (D:=S_iisWord_0.den)=.fail∨Runs sp_iisWord_0 (pk_iisWord_0 x0 x3) (T_iisWord_0 x0 x3).val:=by
 cases hc:(decide (0≤x3)&&okS x0) with
 | false=>left;simp only [T_iisWord_0,CT.val,hc,cond_false]
 | true =>
  right
  simp only [T_iisWord_0,CT.val,hc,cond_true]
  simp only [Bool.and_eq_true,decide_eq_true_eq] at hc
  obtain ⟨i,rfl⟩:=Int.eq_ofNat_of_zero_le hc.1
  have hs:=okS_le hc.2
  simp only [Int.toNat_natCast]
  refine Runs.scan (fun j=>pk_iisWord_0 x0 (j:Int)) (x0.size) (iKeyAt x0) (fun i hi=>?_) (fun i hi=>?_) ⟨_,_,_,rfl,by simp⟩ ⟨_,_,_,rfl,by simp⟩ _ _ rfl
  ·
   have h0a:decide ((i:Int)<((x0.size:Nat):Int))=true:=decide_eq_true (by omega)
   have h0b:decide (0≤(i:Int)∧(i:Int)<((x0.size:Nat):Int))=true:=decide_eq_true (by omega)
   simp only [sp_iisWord_0,st_iisWord_0,RT.val,h0a,h0b,cond_true,wrapS i (by omega),Int.toNat_natCast]
   simp only [iKeyAt]
   cases iisKeyByte (bt x0 (i:Int))<;>rfl
  ·have h1:decide ((i:Int)<((x0.size:Nat):Int))=false:=decide_eq_false (by omega)
   simp only [sp_iisWord_0,st_iisWord_0,RT.val,h1,cond_false]
theorem rdA_iisWord_0:RdA G24 (fun _ _=>none) 0 body_iisWord_0 S_iisWord_0 0 [] (kepts [2] [(0,[])]) (fun d=>(sp_iisWord_0 d).opt 0 []):=by
 intro d
 kernel_rfl
noncomputable abbrev say_iisWord_0:St→Option Tree:=S_iisWord_0.say 0 [] [] (fun d=>T_iisWord_0 d.1.1 d.1.2.2.2.1)
theorem lw_iisWord_0:LoopWp Try.prog say_iisWord_0 body_iisWord_0:=SS.wp2 hlz [] sp_iisWord_0 rdA_iisWord_0 (fun d=>rfl) _ (fun d=>R_iisWord_0 d.1.1 d.1.2.2.2.1)
noncomputable def iisWord (a0:ByteArray):Bool:=(cond (allF (iKeyAt a0) (a0.size - (0:Int).toNat) (0:Int).toNat) true false)
noncomputable abbrev e_iisWord (r:Bool):AV×List AObj:=((.t true .bool r),[])
noncomputable abbrev g_iisWord:pshsDen P_iisWord→AV×List AObj:=fun d=>e_iisWord (iisWord d.1)
noncomputable def q_iisWord (a0:ByteArray):Bool:=okS a0
noncomputable abbrev pre_iisWord:pshsDen P_iisWord→Bool:=fun d=>q_iisWord d.1
noncomputable abbrev L_iisWord:Nat→St→Option Tree:=fun b=>match b with | 0=>say_iisWord_0 | _=>fun _=>none
theorem run_iisWord:RunP true G24 (L_iisWord) Try.f167 P_iisWord pre_iisWord g_iisWord:=by
 rintro ⟨a0,_⟩ hp
 change q_iisWord a0=true at hp
 unfold q_iisWord at hp
 refine Eq.trans (b:=(cond (decide (0≤(0:Int))&&okS a0) (cond (allF (iKeyAt a0) (a0.size - (0:Int).toNat) (0:Int).toNat) (some (e_iisWord true)) (some (e_iisWord false))) none)) (by kernel_rfl) ?_
 exact (cndT (by first | rfl | decide | exact hp | (simp only [Bool.and_eq_true] at hp;simp only [hp];done) | (simp [*];done) | (simp [okL] at hp;simp [okL,MAXB];omega) | (simp_all;done) | (simp at *;omega)) (fun _h=>(cndG e_iisWord (fun _h=>rfl) (fun _h=>rfl))))
theorem c_iisWord:PContract Try.prog 167 (sumOf P_iisWord pre_iisWord g_iisWord):=pcD true G24 (hl1 (i:=0) (by kernel_rfl) lw_iisWord_0) run_iisWord
noncomputable def S25:Tab:=Tab.add S24 167 (lift (sumOf P_iisWord pre_iisWord g_iisWord))
noncomputable def QF25:FuncId→Bool:=qadd QF24 167
theorem G25:Good Try.prog tt S25 QF25:=G24.addQ c_iisWord (cbl Try.f167) (fun _=>rfl)

noncomputable abbrev P_iKeyOk:List PSh:=[.t .str]
noncomputable def iKeyOk (a0:ByteArray):Bool:=(cond (iinRange ((a0.size:Nat):Int) (1:Int) (12:Int)) (iisWord a0) false)
noncomputable abbrev e_iKeyOk (r:Bool):AV×List AObj:=((.t true .bool r),[])
noncomputable abbrev g_iKeyOk:pshsDen P_iKeyOk→AV×List AObj:=fun d=>e_iKeyOk (iKeyOk d.1)
noncomputable def q_iKeyOk (a0:ByteArray):Bool:=okS a0
noncomputable abbrev pre_iKeyOk:pshsDen P_iKeyOk→Bool:=fun d=>q_iKeyOk d.1
theorem run_iKeyOk:RunP true G25 (fun _ _=>none) Try.f140 P_iKeyOk pre_iKeyOk g_iKeyOk:=by
 rintro ⟨a0,_⟩ hp
 change q_iKeyOk a0=true at hp
 unfold q_iKeyOk at hp
 refine Eq.trans (b:=(cond (iinRange ((a0.size:Nat):Int) (1:Int) (12:Int)) (cond (q_iisWord a0) (some (e_iKeyOk (iisWord a0))) none) (some (e_iKeyOk false)))) (by kernel_rfl) ?_
 exact (cndG e_iKeyOk (fun _h=>(cndT (by first | rfl | decide | exact hp | (simp only [Bool.and_eq_true] at hp;simp only [hp];done) | (simp [*];done) | (simp [okL] at hp;simp [okL,MAXB];omega) | (simp_all;done) | (simp at *;omega)) (fun _h=>rfl))) (fun _h=>rfl))
theorem c_iKeyOk:PContract Try.prog 140 (sumOf P_iKeyOk pre_iKeyOk g_iKeyOk):=pcD true G25 hlz run_iKeyOk
noncomputable def S26:Tab:=Tab.add S25 140 (lift (sumOf P_iKeyOk pre_iKeyOk g_iKeyOk))
noncomputable def QF26:FuncId→Bool:=qadd QF25 140
theorem G26:Good Try.prog tt S26 QF26:=G25.addQ c_iKeyOk (cbl Try.f140) (fun _=>rfl)

noncomputable abbrev P_iopOk:List PSh:=[.agg [(.int .i64),.str,.str]]
noncomputable def iopOk (a0:Int) (a1:ByteArray) (a2:ByteArray):Bool:=(cond (a0==(1:Int)) (cond (iKeyOk a1) (decide (((a2.size:Nat):Int)≤(20:Int))) false) (cond (a0==(3:Int)) (cond (iKeyOk a1) (decide (((a2.size:Nat):Int)≤(20:Int))) false) (cond (a0==(2:Int)) (cond (iKeyOk a1) (a2.toList==bE.toList) false) false)))
noncomputable abbrev e_iopOk (r:Bool):AV×List AObj:=((.t true .bool r),[])
noncomputable abbrev g_iopOk:pshsDen P_iopOk→AV×List AObj:=fun d=>e_iopOk (iopOk d.1.1 d.1.2.1 d.1.2.2.1)
noncomputable def q_iopOk (a0:Int) (a1:ByteArray) (a2:ByteArray):Bool:=okS a1
noncomputable abbrev pre_iopOk:pshsDen P_iopOk→Bool:=fun d=>q_iopOk d.1.1 d.1.2.1 d.1.2.2.1
theorem run_iopOk:RunP true G26 (fun _ _=>none) Try.f119 P_iopOk pre_iopOk g_iopOk:=by
 rintro ⟨⟨a0,⟨a1,⟨a2,_⟩⟩⟩,_⟩ hp
 change q_iopOk a0 a1 a2=true at hp
 unfold q_iopOk at hp
 refine Eq.trans (b:=(cond (a0==(1:Int)) (cond (q_iKeyOk a1) (cond (iKeyOk a1) (some (e_iopOk (decide (((a2.size:Nat):Int)≤(20:Int))))) (some (e_iopOk false))) none) (cond (a0==(3:Int)) (cond (q_iKeyOk a1) (cond (iKeyOk a1) (some (e_iopOk (decide (((a2.size:Nat):Int)≤(20:Int))))) (some (e_iopOk false))) none) (cond (a0==(2:Int)) (cond (q_iKeyOk a1) (cond (iKeyOk a1) (some (e_iopOk (a2.toList==(⟨#[]⟩:ByteArray).toList))) (some (e_iopOk false))) none) (some (e_iopOk false)))))) (by kernel_rfl) ?_
 exact (cndG e_iopOk (fun _h=>(cndT (by first | rfl | decide | exact hp | (simp only [Bool.and_eq_true] at hp;simp only [hp];done) | (simp [*];done) | (simp [okL] at hp;simp [okL,MAXB];omega) | (simp_all;done) | (simp at *;omega)) (fun _h=>(cndG e_iopOk (fun _h=>rfl) (fun _h=>rfl))))) (fun _h=>(cndG e_iopOk (fun _h=>(cndT (by first | rfl | decide | exact hp | (simp only [Bool.and_eq_true] at hp;simp only [hp];done) | (simp [*];done) | (simp [okL] at hp;simp [okL,MAXB];omega) | (simp_all;done) | (simp at *;omega)) (fun _h=>(cndG e_iopOk (fun _h=>rfl) (fun _h=>rfl))))) (fun _h=>(cndG e_iopOk (fun _h=>(cndT (by first | rfl | decide | exact hp | (simp only [Bool.and_eq_true] at hp;simp only [hp];done) | (simp [*];done) | (simp [okL] at hp;simp [okL,MAXB];omega) | (simp_all;done) | (simp at *;omega)) (fun _h=>(cndG e_iopOk (fun _h=>rfl) (fun _h=>rfl))))) (fun _h=>rfl))))))
theorem c_iopOk:PContract Try.prog 119 (sumOf P_iopOk pre_iopOk g_iopOk):=pcD true G26 hlz run_iopOk
noncomputable def S27:Tab:=Tab.add S26 119 (lift (sumOf P_iopOk pre_iopOk g_iopOk))
noncomputable def QF27:FuncId→Bool:=qadd QF26 119
theorem G27:Good Try.prog tt S27 QF27:=G26.addQ c_iopOk (cbl Try.f119) (fun _=>rfl)

noncomputable abbrev jS31:List Sh:=.junk::jS30
noncomputable abbrev jA31:List AV:=.junk::jA30
noncomputable def iOpAt (l:Lq1) (i:Nat):Bool:=iopOk (l.getD i dOp).1 (l.getD i dOp).2.1 (l.getD i dOp).2.2&&(decide (i=0)||!(Op.bytesLess (l.getD i dOp).2.1.toList (l.getD (i - 1) dOp).2.1.toList||((l.getD i dOp).2.1.toList==(l.getD (i - 1) dOp).2.1.toList)))
noncomputable abbrev P_iOpsOk:List PSh:=[.t tq2]
noncomputable abbrev S_iOpsOk_0:SS:=⟨(.t false tq2::.junk::.junk::.junk::.junk::.t false tq2::.t true (.int .i64)::.t true (.int .i64)::jS26),[]⟩
noncomputable abbrev E_iOpsOk_0_0:SS:=⟨(.junk::.junk::.t true .bool::jS31),[]⟩
noncomputable abbrev E_iOpsOk_0_1:SS:=⟨(.t false tq2::jS33),[]⟩
noncomputable def st_iOpsOk_0 (x0:Lq1) (x5:Lq1) (x6:Int) (x7:Int):RT S_iOpsOk_0.den:=(.br (decide (x7<x6)) (.br (decide (0≤x7∧x7<((x5.length:Nat):Int))) (.br (q_iopOk ((x5.getD x7.toNat ((0:Int),(bE,bE))).1) (((x5.getD x7.toNat ((0:Int),(bE,bE))).2).1) (((x5.getD x7.toNat ((0:Int),(bE,bE))).2).2)) (.br (!(iopOk ((x5.getD x7.toNat ((0:Int),(bE,bE))).1) (((x5.getD x7.toNat ((0:Int),(bE,bE))).2).1) (((x5.getD x7.toNat ((0:Int),(bE,bE))).2).2))) (.done .ret E_iOpsOk_0_0 (((),(),false,u32),())) (.br (decide (x7 > (0:Int))) (.br (decide (0≤(IntKind.wrap .i64 (x7 - (1:Int)))∧(IntKind.wrap .i64 (x7 - (1:Int)))<((x0.length:Nat):Int))) (.br (Op.bytesLess (((x5.getD x7.toNat ((0:Int),(bE,bE))).2).1).toList (((x0.getD ((IntKind.wrap .i64 (x7 - (1:Int))).toNat) ((0:Int),(bE,bE))).2).1).toList||((((x5.getD x7.toNat ((0:Int),(bE,bE))).2).1).toList==(((x0.getD ((IntKind.wrap .i64 (x7 - (1:Int))).toNat) ((0:Int),(bE,bE))).2).1).toList)) (.done .ret E_iOpsOk_0_0 (((),(),false,u32),())) (.next ((x0,(),(),(),(),x5,x6,IntKind.wrap .i64 (x7+(1:Int)),u27),()))) .fail) (.next ((x0,(),(),(),(),x5,x6,IntKind.wrap .i64 (x7+(1:Int)),u27),())))) .fail) .fail) (.done (.exit 0) E_iOpsOk_0_1 ((x0,u34),())))
noncomputable def T_iOpsOk_0 (x0:Lq1) (x5:Lq1) (x6:Int) (x7:Int):CT:=(.br (decide (0≤x7)&&(decide (x6=((x5.length:Nat):Int))&&(decide (x5=x0)&&okOps x5))) (.br (allF (iOpAt x5) (x5.length - x7.toNat) x7.toNat) (.done (.exit 0) E_iOpsOk_0_1 ((x0,u34),())) (.done .ret E_iOpsOk_0_0 (((),(),false,u32),()))) .fail)
noncomputable abbrev ap_iOpsOk_0 {α:Sort _} (f:(Lq1)→(Lq1)→Int→Int→α) (d:S_iOpsOk_0.den):α:=f d.1.1 d.1.2.2.2.2.2.1 d.1.2.2.2.2.2.2.1 d.1.2.2.2.2.2.2.2.1
noncomputable abbrev sp_iOpsOk_0:S_iOpsOk_0.den→RT S_iOpsOk_0.den:=(ap_iOpsOk_0 st_iOpsOk_0)
noncomputable abbrev pk_iOpsOk_0 (x0:Lq1) (x5:Lq1) (x6:Int) (x7:Int):S_iOpsOk_0.den:=((x0,(),(),(),(),x5,x6,x7,u27),())
noncomputable def body_iOpsOk_0:Code:=((loopsIn 0 (bodyOf Try.f75)).getD 0 (0,.skip)).2
theorem R_iOpsOk_0 (x0:Lq1) (x5:Lq1) (x6:Int) (x7:Int):(T_iOpsOk_0 x0 x5 x6 x7).val (D:=S_iOpsOk_0.den)=.fail∨Runs sp_iOpsOk_0 (pk_iOpsOk_0 x0 x5 x6 x7) (T_iOpsOk_0 x0 x5 x6 x7).val:=by
 cases hc:(decide (0≤x7)&&(decide (x6=((x5.length:Nat):Int))&&(decide (x5=x0)&&okOps x5))) with
 | false=>left;simp only [T_iOpsOk_0,CT.val,hc,cond_false]
 | true =>
  right
  simp only [T_iOpsOk_0,CT.val,hc,cond_true]
  simp only [Bool.and_eq_true,decide_eq_true_eq] at hc
  obtain ⟨i,rfl⟩:=Int.eq_ofNat_of_zero_le hc.1
  obtain ⟨_,e6,e5,hc⟩:=hc
  subst e5;subst e6
  have hs:=okOps_len hc
  simp only [Int.toNat_natCast]
  refine Runs.scan (fun j=>pk_iOpsOk_0 x5 x5 ((x5.length:Nat):Int) (j:Int)) (x5.length) (iOpAt x5) (fun i hi=>?_) (fun i hi=>?_) ⟨_,_,_,rfl,by simp⟩ ⟨_,_,_,rfl,by simp⟩ _ _ rfl
  ·
   have h0a:decide ((i:Int)<((x5.length:Nat):Int))=true:=decide_eq_true (by omega)
   have h0b:decide (0≤(i:Int)∧(i:Int)<((x5.length:Nat):Int))=true:=decide_eq_true (by omega)
   simp only [sp_iOpsOk_0,st_iOpsOk_0,RT.val,h0a,h0b,cond_true,wrapS i (by omega),Int.toNat_natCast]
   have hq:q_iopOk (x5.getD i dOp).1 (x5.getD i dOp).2.1 (x5.getD i dOp).2.2=true:=(okOps_at hc i hi).1
   simp only [dOp] at hq
   simp only [hq,cond_true,iOpAt,dOp]
   cases iopOk (x5.getD i ((0:Int),((⟨#[]⟩:ByteArray),(⟨#[]⟩:ByteArray)))).1 (x5.getD i ((0:Int),((⟨#[]⟩:ByteArray),(⟨#[]⟩:ByteArray)))).2.1 (x5.getD i ((0:Int),((⟨#[]⟩:ByteArray),(⟨#[]⟩:ByteArray)))).2.2 with
   | false=>rfl
   | true =>
    cases i with
    | zero=>rfl
    | succ i =>
     have h3:decide (((i+1:Nat):Int) > 0)=true:=decide_eq_true (by omega)
     have h4:IntKind.wrap .i64 (((i+1:Nat):Int) - 1)=(i:Int):=by have:=wrap64 (n:=((i+1:Nat):Int) - 1) (by omega) (by omega);omega
     have h5:decide (0≤(i:Int)∧(i:Int)<((x5.length:Nat):Int))=true:=decide_eq_true (by omega)
     have h6:decide (i+1=0)=false:=by simp
     simp only [h3,h4,h5,h6,cond_true,Bool.true_and,Bool.false_or,Int.toNat_natCast,Nat.add_sub_cancel,Bool.not_true,cond_false]
     cases (Op.bytesLess (x5.getD (i+1) ((0:Int),((⟨#[]⟩:ByteArray),(⟨#[]⟩:ByteArray)))).2.1.toList (x5.getD i ((0:Int),((⟨#[]⟩:ByteArray),(⟨#[]⟩:ByteArray)))).2.1.toList||((x5.getD (i+1) ((0:Int),((⟨#[]⟩:ByteArray),(⟨#[]⟩:ByteArray)))).2.1.toList==(x5.getD i ((0:Int),((⟨#[]⟩:ByteArray),(⟨#[]⟩:ByteArray)))).2.1.toList))<;>rfl
  ·have h1:decide ((i:Int)<((x5.length:Nat):Int))=false:=decide_eq_false (by omega)
   simp only [sp_iOpsOk_0,st_iOpsOk_0,RT.val,h1,cond_false]
noncomputable def ox_iOpsOk_0 (x0:Lq1) (x5:Lq1) (x6:Int) (x7:Int):Option (Ex×St):=(cond (decide (x7<x6)) (cond (decide (0≤x7∧x7<((x5.length:Nat):Int))) (cond (q_iopOk ((x5.getD x7.toNat ((0:Int),(bE,bE))).1) (((x5.getD x7.toNat ((0:Int),(bE,bE))).2).1) (((x5.getD x7.toNat ((0:Int),(bE,bE))).2).2)) (cond (!(iopOk ((x5.getD x7.toNat ((0:Int),(bE,bE))).1) (((x5.getD x7.toNat ((0:Int),(bE,bE))).2).1) (((x5.getD x7.toNat ((0:Int),(bE,bE))).2).2))) (some (.ret,(⟨(.junk::.junk::(.t true .bool false)::jA31),[],0,[]⟩:St))) (cond (decide (x7 > (0:Int))) (cond (decide (0≤(IntKind.wrap .i64 (x7 - (1:Int)))∧(IntKind.wrap .i64 (x7 - (1:Int)))<((x0.length:Nat):Int))) (cond (Op.bytesLess (((x5.getD x7.toNat ((0:Int),(bE,bE))).2).1).toList (((x0.getD ((IntKind.wrap .i64 (x7 - (1:Int))).toNat) ((0:Int),(bE,bE))).2).1).toList||((((x5.getD x7.toNat ((0:Int),(bE,bE))).2).1).toList==(((x0.getD ((IntKind.wrap .i64 (x7 - (1:Int))).toNat) ((0:Int),(bE,bE))).2).1).toList)) (some (.ret,(⟨(.junk::.junk::(.t true .bool false)::jA31),[],0,[]⟩:St))) (some (.normal,(⟨((.t false tq2 x0)::.junk::.junk::.junk::.junk::(.t false tq2 x5)::(.t true (.int .i64) x6)::(.t true (.int .i64) (IntKind.wrap .i64 (x7+(1:Int))))::jA26),[],0,[]⟩:St)))) none) (some (.normal,(⟨((.t false tq2 x0)::.junk::.junk::.junk::.junk::(.t false tq2 x5)::(.t true (.int .i64) x6)::(.t true (.int .i64) (IntKind.wrap .i64 (x7+(1:Int))))::jA26),[],0,[]⟩:St))))) none) none) (some ((.exit 0),(⟨((.t false tq2 x0)::jA33),[],0,[]⟩:St))))
theorem rdA_iOpsOk_0:RdA G27 (fun _ _=>none) 0 body_iOpsOk_0 S_iOpsOk_0 0 [] (kepts [2] [(0,[0])]) (ap_iOpsOk_0 ox_iOpsOk_0):=by
 intro d
 kernel_rfl
theorem rdB_iOpsOk_0:∀ d:S_iOpsOk_0.den,(ap_iOpsOk_0 ox_iOpsOk_0) d=(sp_iOpsOk_0 d).opt 0 []:=by
 intro d
 kernel_rfl
noncomputable abbrev say_iOpsOk_0:St→Option Tree:=S_iOpsOk_0.say 0 [] [] (ap_iOpsOk_0 T_iOpsOk_0)
theorem lw_iOpsOk_0:LoopWp Try.prog say_iOpsOk_0 body_iOpsOk_0:=SS.wp2 hlz [] sp_iOpsOk_0 rdA_iOpsOk_0 rdB_iOpsOk_0 _ (fun d=>R_iOpsOk_0 d.1.1 d.1.2.2.2.2.2.1 d.1.2.2.2.2.2.2.1 d.1.2.2.2.2.2.2.2.1)
noncomputable def iOpsOk (a0:Lq1):Bool:=(cond (allF (iOpAt a0) (a0.length - (0:Int).toNat) (0:Int).toNat) (iinRange ((a0.length:Nat):Int) (1:Int) (8:Int)) false)
noncomputable abbrev e_iOpsOk (r:Bool):AV×List AObj:=((.t true .bool r),[])
noncomputable abbrev g_iOpsOk:pshsDen P_iOpsOk→AV×List AObj:=fun d=>e_iOpsOk (iOpsOk d.1)
noncomputable def q_iOpsOk (a0:Lq1):Bool:=okOps a0
noncomputable abbrev pre_iOpsOk:pshsDen P_iOpsOk→Bool:=fun d=>q_iOpsOk d.1
noncomputable abbrev L_iOpsOk:Nat→St→Option Tree:=fun b=>match b with | 0=>say_iOpsOk_0 | _=>fun _=>none
theorem run_iOpsOk:RunP true G27 (L_iOpsOk) Try.f75 P_iOpsOk pre_iOpsOk g_iOpsOk:=by
 rintro ⟨a0,_⟩ hp
 change q_iOpsOk a0=true at hp
 unfold q_iOpsOk at hp
 refine Eq.trans (b:=(cond (decide (0≤(0:Int))&&(decide (((a0.length:Nat):Int)=((a0.length:Nat):Int))&&(decide (a0=a0)&&okOps a0))) (cond (allF (iOpAt a0) (a0.length - (0:Int).toNat) (0:Int).toNat) (some (e_iOpsOk (iinRange ((a0.length:Nat):Int) (1:Int) (8:Int)))) (some (e_iOpsOk false))) none)) (by kernel_rfl) ?_
 exact (cndT (by first | rfl | decide | exact hp | (simp only [Bool.and_eq_true] at hp;simp only [hp];done) | (simp [*];done) | (simp [okL] at hp;simp [okL,MAXB];omega) | (simp_all;done) | (simp at *;omega)) (fun _h=>(cndG e_iOpsOk (fun _h=>rfl) (fun _h=>rfl))))
theorem c_iOpsOk:PContract Try.prog 75 (sumOf P_iOpsOk pre_iOpsOk g_iOpsOk):=pcD true G27 (hl1 (i:=0) (by kernel_rfl) lw_iOpsOk_0) run_iOpsOk
noncomputable def S28:Tab:=Tab.add S27 75 (lift (sumOf P_iOpsOk pre_iOpsOk g_iOpsOk))
noncomputable def QF28:FuncId→Bool:=qadd QF27 75
theorem G28:Good Try.prog tt S28 QF28:=G27.addQ c_iOpsOk (cbl Try.f75) (fun _=>rfl)

noncomputable abbrev P_iRecOk:List PSh:=[.agg [(.int .i64),(.int .i64),tq2]]
noncomputable def iRecOk (a0:Int) (a1:Int) (a2:Lq1):Bool:=(cond (a0==(1:Int)) (cond (iisTx a1) (iOpsOk a2) false) (cond (a0==(2:Int)) (cond (iisTx a1) (((a2.length:Nat):Int)==(0:Int)) false) (cond (a0==(3:Int)) (cond (iisTx a1) (((a2.length:Nat):Int)==(0:Int)) false) false)))
noncomputable abbrev e_iRecOk (r:Bool):AV×List AObj:=((.t true .bool r),[])
noncomputable abbrev g_iRecOk:pshsDen P_iRecOk→AV×List AObj:=fun d=>e_iRecOk (iRecOk d.1.1 d.1.2.1 d.1.2.2.1)
noncomputable def q_iRecOk (a0:Int) (a1:Int) (a2:Lq1):Bool:=okOps a2
noncomputable abbrev pre_iRecOk:pshsDen P_iRecOk→Bool:=fun d=>q_iRecOk d.1.1 d.1.2.1 d.1.2.2.1
theorem run_iRecOk:RunP true G28 (fun _ _=>none) Try.f27 P_iRecOk pre_iRecOk g_iRecOk:=by
 rintro ⟨⟨a0,⟨a1,⟨a2,_⟩⟩⟩,_⟩ hp
 change q_iRecOk a0 a1 a2=true at hp
 unfold q_iRecOk at hp
 refine Eq.trans (b:=(cond (a0==(1:Int)) (cond (iisTx a1) (cond (q_iOpsOk a2) (some (e_iRecOk (iOpsOk a2))) none) (some (e_iRecOk false))) (cond (a0==(2:Int)) (cond (iisTx a1) (some (e_iRecOk (((a2.length:Nat):Int)==(0:Int)))) (some (e_iRecOk false))) (cond (a0==(3:Int)) (cond (iisTx a1) (some (e_iRecOk (((a2.length:Nat):Int)==(0:Int)))) (some (e_iRecOk false))) (some (e_iRecOk false)))))) (by kernel_rfl) ?_
 exact (cndG e_iRecOk (fun _h=>(cndG e_iRecOk (fun _h=>(cndT (by first | rfl | decide | exact hp | (simp only [Bool.and_eq_true] at hp;simp only [hp];done) | (simp [*];done) | (simp [okL] at hp;simp [okL,MAXB];omega) | (simp_all;done) | (simp at *;omega)) (fun _h=>rfl))) (fun _h=>rfl))) (fun _h=>(cndG e_iRecOk (fun _h=>(cndG e_iRecOk (fun _h=>rfl) (fun _h=>rfl))) (fun _h=>(cndG e_iRecOk (fun _h=>(cndG e_iRecOk (fun _h=>rfl) (fun _h=>rfl))) (fun _h=>rfl))))))
theorem c_iRecOk:PContract Try.prog 27 (sumOf P_iRecOk pre_iRecOk g_iRecOk):=pcD true G28 hlz run_iRecOk
noncomputable def S29:Tab:=Tab.add S28 27 (lift (sumOf P_iRecOk pre_iRecOk g_iRecOk))
noncomputable def QF29:FuncId→Bool:=qadd QF28 27
theorem G29:Good Try.prog tt S29 QF29:=G28.addQ c_iRecOk (cbl Try.f27) (fun _=>rfl)

noncomputable abbrev jS22:List Sh:=.junk::.junk::.junk::.junk::jS18
noncomputable abbrev SM_iputNum_nil:SS:=⟨[.nil,.t true (.int .i64)],[]⟩
noncomputable abbrev S_iputNum_nil_0:SS:=⟨(.all 0 1::.t true (.int .i64)::jS22),[.rows 5 true (.int .u8)]⟩
noncomputable abbrev E_iputNum_nil_0_0:SS:=⟨(.all 0 1::.t true (.int .i64)::jS22),[.rows 5 true (.int .u8)]⟩
noncomputable def st_iputNum_nil_0 (x1:Int) (h0:List Int):RT S_iputNum_nil_0.den:=(.br (decide (x1 > (127:Int))) (.br (decide ((h0.length+[IntKind.wrap .u8 (ior .i64 (128:Int) (iand .i64 x1 (127:Int)))].length)*1≤MAXB)) (.next (((),Int.fdiv x1 (2 ^ (7)),u23),(h0++[IntKind.wrap .u8 (ior .i64 (128:Int) (iand .i64 x1 (127:Int)))],()))) .fail) (.done (.exit 0) E_iputNum_nil_0_0 (((),x1,u23),(h0,()))))
noncomputable def T_iputNum_nil_0 (x1:Int) (h0:List Int):CT:=(.br (decide (0≤x1∧x1≤1000000000)&&decide (h0.length≤35184372088832)) (.done (.exit 0) E_iputNum_nil_0_0 (((),((nX x1).2),u23),((h0++(nX x1).1),()))) .fail)
noncomputable abbrev sp_iputNum_nil_0:S_iputNum_nil_0.den→RT S_iputNum_nil_0.den:=(fun d=>st_iputNum_nil_0 d.1.2.1 d.2.1)
noncomputable abbrev pk_iputNum_nil_0 (x1:Int) (h0:List Int):S_iputNum_nil_0.den:=(((),x1,u23),(h0,()))
noncomputable def body_iputNum_nil_0:Code:=((loopsIn 0 (bodyOf Try.f113)).getD 0 (0,.skip)).2
theorem R_iputNum_nil_0 (x1:Int) (h0:List Int):(T_iputNum_nil_0 x1 h0).val (D:=S_iputNum_nil_0.den)=.fail∨Runs sp_iputNum_nil_0 (pk_iputNum_nil_0 x1 h0) (T_iputNum_nil_0 x1 h0).val:=by
 cases hc:(decide (0≤x1∧x1≤1000000000)&&decide (h0.length≤35184372088832)) with
 | false=>left;simp only [T_iputNum_nil_0,CT.val,hc,cond_false]
 | true =>
  right
  simp only [T_iputNum_nil_0,CT.val,hc,cond_true]
  simp only [Bool.and_eq_true,decide_eq_true_eq] at hc
  rw [nX_eq']
  have key:∀ (k:Nat) (x1:Int) (h0:List Int),0≤x1→x1<128 ^ (k+1)→h0.length+k≤70368744177664→Runs sp_iputNum_nil_0 (pk_iputNum_nil_0 x1 h0) (((.done (.exit 0) E_iputNum_nil_0_0 (((),((hiF gNum' k x1).2),u23),((h0++(hiF gNum' k x1).1),()))):CT).val (D:=S_iputNum_nil_0.den)):=by
   intro k
   induction k with
   | zero =>
    intro x h h1 h2 h3
    have e1:decide (x > 127)=false:=decide_eq_false (by simp at h2;omega)
    refine .done (by simp) ?_
    simp only [sp_iputNum_nil_0,st_iputNum_nil_0,RT.val,e1,cond_false,hiF,List.append_nil]
   | succ k ih =>
    intro x h h1 h2 h3
    rw [Int.pow_succ] at h2
    by_cases hx:x > 127
    ·have e1:decide (x > 127)=true:=decide_eq_true hx
     have e2:decide ((h.length+[gNum' x].length)*1≤MAXB)=true:=decide_eq_true (by simp [MAXB];omega)
     simp only [gNum'] at e2
     have:=ih (Int.fdiv x (2 ^ 7)) (h++[gNum' x]) (by rw [fdiv128];omega) (by rw [fdiv128];omega) (by simp;omega)
     refine .next (d':=pk_iputNum_nil_0 (Int.fdiv x (2 ^ 7)) (h++[gNum' x])) ?_ ?_
     ·simp only [sp_iputNum_nil_0,st_iputNum_nil_0,RT.val,e1,e2,cond_true];rfl
     ·have e3:hiF gNum' (k+1) x=(gNum' x::(hiF gNum' k (Int.fdiv x (2 ^ 7))).1,(hiF gNum' k (Int.fdiv x (2 ^ 7))).2):=by simp only [hiF,e1,cond_true]
      rw [e3]
      simpa [List.append_assoc] using this
    ·have e1:decide (x > 127)=false:=decide_eq_false hx
     refine .done (by simp) ?_
     simp only [sp_iputNum_nil_0,st_iputNum_nil_0,RT.val,e1,cond_false,hiF,List.append_nil]
  exact key 4 x1 h0 hc.1.1 (by have:=hc.1.2;simp;omega) (by have:=hc.2;omega)
theorem rdA_iputNum_nil_0:RdA G29 (fun _ _=>none) 0 body_iputNum_nil_0 S_iputNum_nil_0 0 [] (kepts [] [(0,[0,1])]) (fun d=>(sp_iputNum_nil_0 d).opt 0 []):=by
 intro d
 kernel_rfl
noncomputable abbrev say_iputNum_nil_0:St→Option Tree:=S_iputNum_nil_0.say 0 [] [(0,5,(.int .u8))] (fun d=>T_iputNum_nil_0 d.1.2.1 d.2.1)
theorem lw_iputNum_nil_0:LoopWp Try.prog say_iputNum_nil_0 body_iputNum_nil_0:=SS.wp2 hlz [(0,5,(.int .u8))] sp_iputNum_nil_0 rdA_iputNum_nil_0 (fun d=>rfl) _ (fun d=>R_iputNum_nil_0 d.1.2.1 d.2.1)
noncomputable def iputNum_nil (x1:Int):List Int:=((([]:List Int)++(nX (if (if (1000000000:Int)<x1 then (1000000000:Int) else x1) > (0:Int) then (if (1000000000:Int)<x1 then (1000000000:Int) else x1) else (0:Int))).1)++[IntKind.wrap .u8 ((nX (if (if (1000000000:Int)<x1 then (1000000000:Int) else x1) > (0:Int) then (if (1000000000:Int)<x1 then (1000000000:Int) else x1) else (0:Int))).2)])
noncomputable abbrev e_iputNum_nil (r:List Int):AV×List AObj×List Nat:=((.all 0 1),[(.rows 5 true (.int .u8) r)],[])
noncomputable abbrev g_iputNum_nil:SM_iputNum_nil.den→AV×List AObj×List Nat:=fun d=>e_iputNum_nil (iputNum_nil d.1.2.1)
noncomputable abbrev pre_iputNum_nil:SM_iputNum_nil.den→Bool:=fun d=>true
noncomputable abbrev L_iputNum_nil:Nat→St→Option Tree:=fun b=>match b with | 0=>say_iputNum_nil_0 | _=>fun _=>none
theorem run_iputNum_nil:RunM G29 (L_iputNum_nil) Try.f113 SM_iputNum_nil pre_iputNum_nil g_iputNum_nil:=by
 rintro ⟨⟨_,(x1:Int),_⟩,_⟩ hp
 refine Eq.trans (b:=(cond (decide (0≤(if (if (1000000000:Int)<x1 then (1000000000:Int) else x1) > (0:Int) then (if (1000000000:Int)<x1 then (1000000000:Int) else x1) else (0:Int))∧(if (if (1000000000:Int)<x1 then (1000000000:Int) else x1) > (0:Int) then (if (1000000000:Int)<x1 then (1000000000:Int) else x1) else (0:Int))≤1000000000)&&decide (([]:List Int).length≤35184372088832)) (cond (decide (((([]:List Int)++(nX (if (if (1000000000:Int)<x1 then (1000000000:Int) else x1) > (0:Int) then (if (1000000000:Int)<x1 then (1000000000:Int) else x1) else (0:Int))).1).length+[IntKind.wrap .u8 ((nX (if (if (1000000000:Int)<x1 then (1000000000:Int) else x1) > (0:Int) then (if (1000000000:Int)<x1 then (1000000000:Int) else x1) else (0:Int))).2)].length)*1≤MAXB)) (some (e_iputNum_nil ((([]:List Int)++(nX (if (if (1000000000:Int)<x1 then (1000000000:Int) else x1) > (0:Int) then (if (1000000000:Int)<x1 then (1000000000:Int) else x1) else (0:Int))).1)++[IntKind.wrap .u8 ((nX (if (if (1000000000:Int)<x1 then (1000000000:Int) else x1) > (0:Int) then (if (1000000000:Int)<x1 then (1000000000:Int) else x1) else (0:Int))).2)]))) none) none)) (by kernel_rfl) ?_
 exact (cndT (by have h1:=nX_len (clampI x1);have h2:=clampI_range x1;simp only [clampI] at h1 h2;simp only [decide_eq_true_eq,Bool.and_eq_true] at *;(try simp only [MAXB,List.length_append,List.length_cons,List.length_nil])<;>omega) (fun _h=>(cndT (by have h1:=nX_len (clampI x1);have h2:=clampI_range x1;simp only [clampI] at h1 h2;simp only [decide_eq_true_eq,Bool.and_eq_true] at *;(try simp only [MAXB,List.length_append,List.length_cons,List.length_nil])<;>omega) (fun _h=>rfl))))
noncomputable abbrev m_iputNum_nil:=win winIds (msum SM_iputNum_nil pre_iputNum_nil g_iputNum_nil)
theorem c_iputNum_nil:MContract Try.prog 113 m_iputNum_nil:=(mcM G29 (hl1 (i:=0) (by kernel_rfl) lw_iputNum_nil_0) run_iputNum_nil).win winIds
noncomputable def S30:Tab:=Tab.add S29 113 (m_iputNum_nil)
noncomputable def QF30:FuncId→Bool:=QF29
theorem G30:Good Try.prog tt S30 QF30:=G29.addM c_iputNum_nil (win_local _) (cbl Try.f113) (by kernel_rfl)
theorem iputNum_nil_eq (n:Int):iputNum_nil n=numB (clampN n):=by
 rw [← clampI_eq]
 rfl
theorem iputNum_nil_len (n:Int):(iputNum_nil n).length≤5:=by rw [iputNum_nil_eq];exact numB_len _

noncomputable abbrev SM_iputNum:SS:=⟨[.all 0 1,.t true (.int .i64)],[.rows 5 true (.int .u8)]⟩
noncomputable abbrev S_iputNum_0:SS:=⟨(.all 0 1::.t true (.int .i64)::jS22),[.rows 5 true (.int .u8)]⟩
noncomputable abbrev E_iputNum_0_0:SS:=⟨(.all 0 1::.t true (.int .i64)::jS22),[.rows 5 true (.int .u8)]⟩
noncomputable def st_iputNum_0 (x1:Int) (h0:List Int):RT S_iputNum_0.den:=(.br (decide (x1 > (127:Int))) (.br (decide ((h0.length+[IntKind.wrap .u8 (ior .i64 (128:Int) (iand .i64 x1 (127:Int)))].length)*1≤MAXB)) (.next (((),Int.fdiv x1 (2 ^ (7)),u23),(h0++[IntKind.wrap .u8 (ior .i64 (128:Int) (iand .i64 x1 (127:Int)))],()))) .fail) (.done (.exit 0) E_iputNum_0_0 (((),x1,u23),(h0,()))))
noncomputable def T_iputNum_0 (x1:Int) (h0:List Int):CT:=(.br (decide (0≤x1∧x1≤1000000000)&&decide (h0.length≤35184372088832)) (.done (.exit 0) E_iputNum_0_0 (((),((nX x1).2),u23),((h0++(nX x1).1),()))) .fail)
noncomputable abbrev sp_iputNum_0:S_iputNum_0.den→RT S_iputNum_0.den:=(fun d=>st_iputNum_0 d.1.2.1 d.2.1)
noncomputable abbrev pk_iputNum_0 (x1:Int) (h0:List Int):S_iputNum_0.den:=(((),x1,u23),(h0,()))
noncomputable def body_iputNum_0:Code:=((loopsIn 0 (bodyOf Try.f113)).getD 0 (0,.skip)).2
theorem R_iputNum_0 (x1:Int) (h0:List Int):(T_iputNum_0 x1 h0).val (D:=S_iputNum_0.den)=.fail∨Runs sp_iputNum_0 (pk_iputNum_0 x1 h0) (T_iputNum_0 x1 h0).val:=by
 cases hc:(decide (0≤x1∧x1≤1000000000)&&decide (h0.length≤35184372088832)) with
 | false=>left;simp only [T_iputNum_0,CT.val,hc,cond_false]
 | true =>
  right
  simp only [T_iputNum_0,CT.val,hc,cond_true]
  simp only [Bool.and_eq_true,decide_eq_true_eq] at hc
  rw [nX_eq']
  have key:∀ (k:Nat) (x1:Int) (h0:List Int),0≤x1→x1<128 ^ (k+1)→h0.length+k≤70368744177664→Runs sp_iputNum_0 (pk_iputNum_0 x1 h0) (((.done (.exit 0) E_iputNum_0_0 (((),((hiF gNum' k x1).2),u23),((h0++(hiF gNum' k x1).1),()))):CT).val (D:=S_iputNum_0.den)):=by
   intro k
   induction k with
   | zero =>
    intro x h h1 h2 h3
    have e1:decide (x > 127)=false:=decide_eq_false (by simp at h2;omega)
    refine .done (by simp) ?_
    simp only [sp_iputNum_0,st_iputNum_0,RT.val,e1,cond_false,hiF,List.append_nil]
   | succ k ih =>
    intro x h h1 h2 h3
    rw [Int.pow_succ] at h2
    by_cases hx:x > 127
    ·have e1:decide (x > 127)=true:=decide_eq_true hx
     have e2:decide ((h.length+[gNum' x].length)*1≤MAXB)=true:=decide_eq_true (by simp [MAXB];omega)
     simp only [gNum'] at e2
     have:=ih (Int.fdiv x (2 ^ 7)) (h++[gNum' x]) (by rw [fdiv128];omega) (by rw [fdiv128];omega) (by simp;omega)
     refine .next (d':=pk_iputNum_0 (Int.fdiv x (2 ^ 7)) (h++[gNum' x])) ?_ ?_
     ·simp only [sp_iputNum_0,st_iputNum_0,RT.val,e1,e2,cond_true];rfl
     ·have e3:hiF gNum' (k+1) x=(gNum' x::(hiF gNum' k (Int.fdiv x (2 ^ 7))).1,(hiF gNum' k (Int.fdiv x (2 ^ 7))).2):=by simp only [hiF,e1,cond_true]
      rw [e3]
      simpa [List.append_assoc] using this
    ·have e1:decide (x > 127)=false:=decide_eq_false hx
     refine .done (by simp) ?_
     simp only [sp_iputNum_0,st_iputNum_0,RT.val,e1,cond_false,hiF,List.append_nil]
  exact key 4 x1 h0 hc.1.1 (by have:=hc.1.2;simp;omega) (by have:=hc.2;omega)
theorem rdA_iputNum_0:RdA G30 (fun _ _=>none) 0 body_iputNum_0 S_iputNum_0 1 [0] (kepts [] [(0,[0,1])]) (fun d=>(sp_iputNum_0 d).opt 1 [0]):=by
 intro d
 kernel_rfl
noncomputable abbrev say_iputNum_0:St→Option Tree:=S_iputNum_0.say 1 [0] [] (fun d=>T_iputNum_0 d.1.2.1 d.2.1)
theorem lw_iputNum_0:LoopWp Try.prog say_iputNum_0 body_iputNum_0:=SS.wp2 hlz [] sp_iputNum_0 rdA_iputNum_0 (fun d=>rfl) _ (fun d=>R_iputNum_0 d.1.2.1 d.2.1)
noncomputable def iputNum (x1:Int) (h0:List Int):List Int:=((h0++(nX (if (if (1000000000:Int)<x1 then (1000000000:Int) else x1) > (0:Int) then (if (1000000000:Int)<x1 then (1000000000:Int) else x1) else (0:Int))).1)++[IntKind.wrap .u8 ((nX (if (if (1000000000:Int)<x1 then (1000000000:Int) else x1) > (0:Int) then (if (1000000000:Int)<x1 then (1000000000:Int) else x1) else (0:Int))).2)])
noncomputable abbrev e_iputNum (r:List Int):AV×List AObj×List Nat:=((.all 0 1),[(.rows 5 true (.int .u8) r)],[0])
noncomputable abbrev g_iputNum:SM_iputNum.den→AV×List AObj×List Nat:=fun d=>e_iputNum (iputNum d.1.2.1 d.2.1)
noncomputable def q_iputNum (x1:Int) (h0:List Int):Bool:=decide (h0.length≤17592186044416)
noncomputable abbrev pre_iputNum:SM_iputNum.den→Bool:=fun d=>q_iputNum d.1.2.1 d.2.1
noncomputable abbrev L_iputNum:Nat→St→Option Tree:=fun b=>match b with | 0=>say_iputNum_0 | _=>fun _=>none
theorem run_iputNum:RunM G30 (L_iputNum) Try.f113 SM_iputNum pre_iputNum g_iputNum:=by
 rintro ⟨⟨_,(x1:Int),_⟩,⟨(h0:List Int),_⟩⟩ hp
 change q_iputNum x1 h0=true at hp
 unfold q_iputNum at hp
 refine Eq.trans (b:=(cond (decide (0≤(if (if (1000000000:Int)<x1 then (1000000000:Int) else x1) > (0:Int) then (if (1000000000:Int)<x1 then (1000000000:Int) else x1) else (0:Int))∧(if (if (1000000000:Int)<x1 then (1000000000:Int) else x1) > (0:Int) then (if (1000000000:Int)<x1 then (1000000000:Int) else x1) else (0:Int))≤1000000000)&&decide (h0.length≤35184372088832)) (cond (decide (((h0++(nX (if (if (1000000000:Int)<x1 then (1000000000:Int) else x1) > (0:Int) then (if (1000000000:Int)<x1 then (1000000000:Int) else x1) else (0:Int))).1).length+[IntKind.wrap .u8 ((nX (if (if (1000000000:Int)<x1 then (1000000000:Int) else x1) > (0:Int) then (if (1000000000:Int)<x1 then (1000000000:Int) else x1) else (0:Int))).2)].length)*1≤MAXB)) (some (e_iputNum ((h0++(nX (if (if (1000000000:Int)<x1 then (1000000000:Int) else x1) > (0:Int) then (if (1000000000:Int)<x1 then (1000000000:Int) else x1) else (0:Int))).1)++[IntKind.wrap .u8 ((nX (if (if (1000000000:Int)<x1 then (1000000000:Int) else x1) > (0:Int) then (if (1000000000:Int)<x1 then (1000000000:Int) else x1) else (0:Int))).2)]))) none) none)) (by kernel_rfl) ?_
 exact (cndT (by have h1:=nX_len (clampI x1);have h2:=clampI_range x1;simp only [clampI] at h1 h2;simp only [q_iputNum,decide_eq_true_eq,Bool.and_eq_true] at *;(try simp only [MAXB,List.length_append,List.length_cons,List.length_nil])<;>omega) (fun _h=>(cndT (by have h1:=nX_len (clampI x1);have h2:=clampI_range x1;simp only [clampI] at h1 h2;simp only [q_iputNum,decide_eq_true_eq,Bool.and_eq_true] at *;(try simp only [MAXB,List.length_append,List.length_cons,List.length_nil])<;>omega) (fun _h=>rfl))))
noncomputable abbrev m_iputNum:=win winIds (msum SM_iputNum pre_iputNum g_iputNum)
theorem c_iputNum:MContract Try.prog 113 m_iputNum:=(mcM G30 (hl1 (i:=0) (by kernel_rfl) lw_iputNum_0) run_iputNum).win winIds
noncomputable def S31:Tab:=Tab.add S30 113 (orElseS (m_iputNum_nil) (m_iputNum))
noncomputable def QF31:FuncId→Bool:=QF30
theorem G31:Good Try.prog tt S31 QF31:=G30.addM (MContract.orElse c_iputNum_nil c_iputNum) (orElse_local (win_local _) (win_local _)) (cbl Try.f113) (by kernel_rfl)
theorem iputNum_eq (n:Int) (b:List Int):iputNum n b=b++numB (clampN n):=by
 rw [← clampI_eq,numB,← List.append_assoc]
 rfl
theorem iputNum_len (b:List Int) (n:Int):(iputNum n b).length≤b.length+5:=by
 rw [iputNum_eq,List.length_append]
 have:=numB_len (clampN n)
 omega

noncomputable abbrev SM_iputText:SS:=⟨[.all 0 1,.t true .str],[.rows 5 true (.int .u8)]⟩
noncomputable def iputText (x1:ByteArray) (h0:List Int):List Int:=((iputNum ((x1.size:Nat):Int) h0)++strInts x1)
noncomputable abbrev e_iputText (r:List Int):AV×List AObj×List Nat:=((.all 0 1),[(.rows 5 true (.int .u8) r)],[0])
noncomputable abbrev g_iputText:SM_iputText.den→AV×List AObj×List Nat:=fun d=>e_iputText (iputText d.1.2.1 d.2.1)
noncomputable def q_iputText (x1:ByteArray) (h0:List Int):Bool:=decide (h0.length≤8796093022208)&&okS x1
noncomputable abbrev pre_iputText:SM_iputText.den→Bool:=fun d=>q_iputText d.1.2.1 d.2.1
theorem run_iputText:RunM G31 (fun _ _=>none) Try.f147 SM_iputText pre_iputText g_iputText:=by
 rintro ⟨⟨_,(x1:ByteArray),_⟩,⟨(h0:List Int),_⟩⟩ hp
 change q_iputText x1 h0=true at hp
 unfold q_iputText at hp
 refine Eq.trans (b:=(cond (q_iputNum ((x1.size:Nat):Int) h0) (cond (decide ((iputNum ((x1.size:Nat):Int) h0).length+x1.size≤MAXB)) (some (e_iputText ((iputNum ((x1.size:Nat):Int) h0)++strInts x1))) none) none)) (by kernel_rfl) ?_
 exact (cndT (by have h1:=iputNum_len h0 ((x1.size:Nat):Int);simp only [q_iputNum,okS,decide_eq_true_eq,decide_eq_false_iff_not,Bool.and_eq_true] at *;(try simp [MAXB])<;>omega) (fun _h=>(cndT (by have h1:=iputNum_len h0 ((x1.size:Nat):Int);simp only [q_iputNum,okS,decide_eq_true_eq,decide_eq_false_iff_not,Bool.and_eq_true] at *;(try simp [MAXB])<;>omega) (fun _h=>rfl))))
noncomputable abbrev m_iputText:=win winIds (msum SM_iputText pre_iputText g_iputText)
theorem c_iputText:MContract Try.prog 147 m_iputText:=(mcM G31 hlz run_iputText).win winIds
noncomputable def S32:Tab:=Tab.add S31 147 (m_iputText)
noncomputable def QF32:FuncId→Bool:=QF31
theorem G32:Good Try.prog tt S32 QF32:=G31.addM c_iputText (win_local _) (cbl Try.f147) (by kernel_rfl)
theorem iputText_eq (b:List Int) (s:ByteArray) (h:okS s=true):iputText s b=b++textB s:=by
 simp only [okS,decide_eq_true_eq] at h
 simp only [iputText,iputNum_eq,textB,List.append_assoc]
 rw [clampN_of (by omega) (by omega)]
theorem iputText_len (b:List Int) (s:ByteArray) (h:okS s=true):(iputText s b).length≤b.length+5+s.size:=by
 rw [iputText_eq b s h,List.length_append]
 have:=textB_len s
 omega


end Go.Proofs.Ytccelbeahdcooaa.Eng
