/- What the functions that FnScanned reaches compute, and that it answers true. -/
import Derived.Test.YtccelbeahdcooaaT
import Derived.Test.YtccelbeahdcooaaRows
import Derived.Test.YtccelbeahdcooaaE50
import Derived.RangeFuncBox
import Derived.Shelf.Abstract
import Derived.WalkKit
import Derived.OwnWalkIn
import Derived.TacticsInMore
import Derived.LoopNIn
import Derived.LoopIn
import Derived.RegionIn
namespace Go.Proofs.Ytccelbeahdcooaa.Eng
open Go Go.RowKit
set_option linter.unusedSimpArgs false
set_option linter.unusedVariables false
set_option maxRecDepth 10000
noncomputable abbrev bE:ByteArray:=⟨#[]⟩
noncomputable abbrev Lq1:=List (Int×ByteArray×ByteArray)
noncomputable abbrev tq3:Ty:=.sl (.pair (.int .i64) (.pair .str .str))
noncomputable abbrev tq6:Ty:=.pair (.int .i64) (.pair (.int .i64) (.sl (.pair (.int .i64) (.pair .str .str))))
noncomputable def S0:Tab:=fun _=>none
noncomputable def QF0:FuncId→Bool:=fun _=>false
theorem G0:Good Try.prog tt S0 QF0:=Good.start tt_ok (by kernel_rfl)
theorem Runs.ofI2 {D V A:Type} {step:D→RT D} (pk:V→D) {ss:V→V ⊕ A} {ct:A→CT} {fa:A} (h:(∀ v,(step (pk v)).val=relS pk ct (ss v))∧∀ a,CEnd D (ct a)) (hf:(ct fa).val (D:=D)=.fail) (v:V):(ct (itX ss fa v)).val (D:=D)=.fail∨Runs step (pk v) (ct (itX ss fa v)).val:=Runs.ofIt pk hf h.1 h.2 v
theorem cndE {α β:Type} (e:α→β) {c q r:Bool} {X Y:Option β} {a b:α} (hq:cond c q r=true) (hx:q=true→X=some (e a)) (hy:r=true→Y=some (e b)):cond c X Y=some (e (cond c a b)):=cndQ (F:=fun r=>some (e r)) hq hx hy
theorem cndG {α β:Type} (e:α→β) {c:Bool} {X Y:Option β} {a b:α} (hx:c=true→X=some (e a)) (hy:c=false→Y=some (e b)):cond c X Y=some (e (cond c a b)):=cnd (F:=fun r=>some (e r)) hx hy
theorem hlz {L:Nat→St→Option Tree} {b:Nat} {x:Code} (h:loopsIn b x=[]:=by kernel_rfl):∀ p∈loopsIn b x,LoopWp Try.prog (L p.1) p.2:=hl0 h
theorem cbl {f : FuncId} (F : Func) (h1 : Try.prog.funcs[f]? = some F := by kernel_rfl) (h2 : (F.name == "runtime.NumGoroutine") = false := by kernel_rfl) (h3 : F.body.isNone = false := by kernel_rfl) : Callable Try.prog f := ⟨F, h1, h2, h3⟩
theorem pcD (ro:Bool) {TB:TT} {S:Tab} {Q:FuncId→Bool} (G:Good Try.prog TB S Q) {f:FuncId} {fn:Func} {L:Nat→St→Option Tree} (hL:∀ p∈loopsIn 0 (bodyOf fn),LoopWp Try.prog (L p.1) p.2) {l:List PSh} {pre:pshsDen l→Bool} {g:pshsDen l→AV×List AObj} (h:RunP ro G L fn l pre g) (hf:Try.prog.funcs[f]? = some fn:=by kernel_rfl):PContract Try.prog f (sumOf l pre g):=PContract.of_data ro G hf hL l pre g h
theorem mcM {TB:TT} {S:Tab} {Q:FuncId→Bool} (G:Good Try.prog TB S Q) {f:FuncId} {fn:Func} {L:Nat→St→Option Tree} (hL:∀ p∈loopsIn 0 (bodyOf fn),LoopWp Try.prog (L p.1) p.2) {s:SS} {pre:s.den→Bool} {g:s.den→AV×List AObj×List Nat} (h:RunM G L fn s pre g) (hf:Try.prog.funcs[f]? = some fn:=by kernel_rfl):MContract Try.prog f (msum s pre g):=MContract.of_data G hf hL s pre g h
theorem mcRD (dl:List AV) {TB:TT} {S:Tab} {Q:FuncId→Bool} (G:Good Try.prog TB S Q) {f:FuncId} {fn:Func} {L:Nat→St→Option Tree} (hL:∀ p∈loopsIn 0 (bodyOf fn),LoopWp Try.prog (L p.1) p.2) {s:SS} {pre:s.den→Bool} {g:s.den→AV×List AObj×List Nat} (h:RunMRD dl G L fn s pre g) (hf:Try.prog.funcs[f]? = some fn:=by kernel_rfl):MContract Try.prog f (msum s pre g):=MContract.of_dataRD dl G hf hL s pre g h
theorem mcE (mr:Bool) (dl:List AV) (kx:List Nat) (nb:List (Nat×Nat×Nat×TypeId×Ty)) {TB:TT} {S:Tab} {Q:FuncId→Bool} (G:Good Try.prog TB S Q) {f:FuncId} {fn:Func} {L:Nat→St→Option Tree} (hL:∀ p∈loopsIn 0 (bodyOf fn),LoopWp Try.prog (L p.1) p.2) {s:SS} {pre:s.den→Bool} {g:s.den→AV×List AObj×List Nat} (h:RunE mr dl kx nb G L fn s pre g) (hf:Try.prog.funcs[f]? = some fn:=by kernel_rfl):MContract Try.prog f (msum s pre g):=MContract.of_dataE mr dl kx nb G hf hL s pre g h
/-! Plain laws: order of bytes, keys, ops. -/
theorem bytesLess_irrefl:∀ a:List UInt8,Op.bytesLess a a=false:=by
 intro a
 induction a with
 | nil=>rfl
 | cons x a ih=>simp only [Op.bytesLess,ih,Bool.and_false,Bool.or_false,decide_eq_false_iff_not];exact UInt8.lt_irrefl x
theorem bytesLess_ge:∀ a b:List UInt8,(!(Op.bytesLess a b))=(Op.bytesLess b a||b==a):=by
 intro a
 induction a with
 | nil=>intro b;cases b<;>simp [Op.bytesLess]
 | cons x a ih =>
  intro b
  cases b with
  | nil=>simp [Op.bytesLess]
  | cons y b =>
   simp only [Op.bytesLess]
   by_cases h1:x<y
   ·have h2:¬ y<x:=fun h=>UInt8.lt_irrefl _ (UInt8.lt_trans h1 h)
    have h3:(y==x)=false:=by rw [beq_eq_false_iff_ne];intro h;subst h;exact h2 h1
    have h4:(y::b==x::a)=false:=by rw [List.cons_beq_cons,h3,Bool.false_and]
    simp [h1,h2,h3,h4]
   ·by_cases h5:x=y
    ·subst h5
     have h6:(x::b==x::a)=(b==a):=by rw [List.cons_beq_cons];simp
     have:=ih b
     simp only [h1,decide_false,Bool.false_or,beq_self_eq_true,Bool.true_and,h6,this]
    ·have h7 : y < x := by
      rcases Nat.lt_trichotomy x.toNat y.toNat with h | h | h
      ·exact absurd (UInt8.lt_iff_toNat_lt.2 h) h1
      ·exact absurd (UInt8.toNat_inj.1 h) h5
      ·exact UInt8.lt_iff_toNat_lt.2 h
     have h8:(x==y)=false:=by rw [beq_eq_false_iff_ne];exact h5
     simp [h1,h7,h8]
theorem allF_congr {p q:Nat→Bool}:∀ k i,(∀ j,i≤j→j<i+k→p j=q j)→allF p k i=allF q k i:=by
 intro k
 induction k with
 | zero=>intro i h;rfl
 | succ k ih=>intro i h;simp only [allF];rw [h i (Nat.le_refl _) (by omega),ih (i+1) (fun j h1 h2=>h j (by omega) (by omega))]
theorem allF_same {p:Nat→Bool} (k i:Nat) (h:∀ j,i≤j→j<i+k→p j=true):allF p k i=true:=(allF_true k i).2 h
theorem szN_all {f:Nat→Int→Int} {Q:Nat→Prop} {M:Int}:∀ (k i:Nat) (b:Int),(∀ j b,i≤j→j<i+k→0≤b→b≤M→0≤f j b→Q j∧f j b≤b)→0≤b→b≤M→isInl (szN f k i b)=true →
  (∀ j,i≤j→j<i+k→Q j)∧0≤getInl (-1) (szN f k i b)∧getInl (-1) (szN f k i b)≤b:=by
 intro k
 induction k with
 | zero=>intro i b hf h1 h2 h3;exact ⟨fun j hj hk=>by omega,h1,Int.le_refl _⟩
 | succ k ih =>
  intro i b hf h1 h2 h3
  have e:szN f (k+1) i b=cond (decide (f i b<0)) (.inr ()) (szN f k (i+1) (f i b)):=by
   simp only [szN,loopN]
   cases decide (f i b<0)<;>rfl
  rw [e] at h3 ⊢
  cases hd:decide (f i b<0) with
  | true=>rw [hd] at h3;cases h3
  | false =>
   rw [hd] at h3
   simp only [cond_false] at h3 ⊢
   have h0:0≤f i b:=by have:=of_decide_eq_false hd;omega
   obtain ⟨q1,q2⟩:=hf i b (Nat.le_refl _) (by omega) h1 h2 h0
   obtain ⟨r1,r2,r3⟩:=ih (i+1) (f i b) (fun j b hj hk=>hf j b (by omega) (by omega)) h0 (by omega) h3
   refine ⟨fun j hj hk=>?_,r2,by omega⟩
   by_cases ej:j=i
   ·exact ej ▸ q1
   ·exact r1 j (by omega) (by omega)
noncomputable abbrev OpT:Type:=Int×ByteArray×ByteArray
noncomputable def dOp:Int×ByteArray×ByteArray:=((0:Int),(bE,bE))
noncomputable def okOp (o:Int×ByteArray×ByteArray):Bool:=okS o.2.1&&okS o.2.2
noncomputable def okOps (l:Lq1):Bool:=okL l&&l.all okOp
theorem okOps_at {l:Lq1} (h:okOps l=true) (i:Nat) (hi:i<l.length):okS (l.getD i dOp).2.1=true∧okS (l.getD i dOp).2.2=true:=by
 simp only [okOps,Bool.and_eq_true,List.all_eq_true] at h
 have:=h.2 (l.getD i dOp) (by simp [List.getD_eq_getElem?_getD,hi])
 simpa [okOp] using this
theorem okOps_len {l:Lq1} (h:okOps l=true):l.length≤1048576:=by
 simp only [okOps,Bool.and_eq_true] at h
 exact okL_le h.1
noncomputable def bigS (s:ByteArray):Bool:=decide (s.size≤9223372036854775807)
noncomputable def bigOps (l:Lq1):Bool:=decide (l.length≤9223372036854775807)&&l.all (fun o=>bigS o.2.1&&bigS o.2.2)
theorem bigOps_at {l:Lq1} (h:bigOps l=true) (i:Nat) (hi:i<l.length):bigS (l.getD i dOp).2.1=true∧bigS (l.getD i dOp).2.2=true:=by
 simp only [bigOps,Bool.and_eq_true,List.all_eq_true] at h
 exact h.2 (l.getD i dOp) (by simp [List.getD_eq_getElem?_getD,hi])
theorem okOps_of {l:Lq1} (h1:l.length≤1048576) (h2:∀ i,i<l.length→okS (l.getD i dOp).2.1=true∧okS (l.getD i dOp).2.2=true):okOps l=true:=by
 simp only [okOps,okL,Bool.and_eq_true,decide_eq_true_eq,List.all_eq_true]
 refine ⟨h1,fun o ho=>?_⟩
 obtain ⟨i,hi,rfl⟩:=List.getElem_of_mem ho
 have:=h2 i hi
 simp only [List.getD_eq_getElem?_getD,List.getElem?_eq_getElem hi,Option.getD_some] at this
 simp [okOp,this.1,this.2]
theorem ba_beq (a b:ByteArray):(a.toList==b.toList)=decide (a=b):=by
 rw [ByteArray.toList_eq,ByteArray.toList_eq]
 by_cases h:a=b
 ·subst h;simp
 ·rw [decide_eq_false h,beq_eq_false_iff_ne]
  intro e
  exact h (by cases a;cases b;simp at e;rw [e])
theorem bigOps_len {l:Lq1} (h:bigOps l=true):l.length≤9223372036854775807:=by
 simp only [bigOps,Bool.and_eq_true,decide_eq_true_eq] at h;exact h.1
theorem okOps_okL {l:Lq1} (h:okOps l=true):okL l=true:=by
 simp only [okOps,Bool.and_eq_true] at h;exact h.1
theorem bigOps_of {l:Lq1} (h:bigT tq3 l=true):bigOps l=true:=by
 have h:(decide (l.length≤maxLen)&&l.all fun o=>(Lit.int .i64 o.1).wf&&(decide (o.2.1.size≤maxLen)&&decide (o.2.2.size≤maxLen)))=true:=h
 have hm:maxLen=9223372036854775807:=by decide
 rw [hm] at h
 simp only [Bool.and_eq_true,decide_eq_true_eq,List.all_eq_true] at h
 simp only [bigOps,bigS,Bool.and_eq_true,decide_eq_true_eq,List.all_eq_true]
 exact ⟨h.1,fun o ho=>(h.2 o ho).2⟩
theorem bigRec_ops {k t:Int} {l:Lq1} (h:bigT tq6 (k,(t,l))=true):bigOps l=true:=by
 have hb:((Lit.int .i64 k).wf&&((Lit.int .i64 t).wf&&bigT tq3 l))=true:=h
 rw [Bool.and_eq_true,Bool.and_eq_true] at hb
 exact bigOps_of hb.2.2
/-- The high groups of a number, and what is left. -/
noncomputable def hiF (g:Int→Int):Nat→Int→List Int×Int
 | 0,x=>([],x)
 | k+1,x=>cond (decide (x > 127)) (g x::(hiF g k (Int.fdiv x (2 ^ 7))).1,(hiF g k (Int.fdiv x (2 ^ 7))).2) ([],x)
theorem fdiv128 (x:Int):Int.fdiv x (2 ^ 7)=x / 128:=by
 rw [show (2:Int) ^ 7=128 from rfl,Int.fdiv_eq_ediv_of_nonneg _ (by decide)]
theorem hiF_small (g:Int→Int) (k:Nat):∀ x:Int,0≤x→x<128 ^ (k+1)→0≤(hiF g k x).2∧(hiF g k x).2≤127:=by
 induction k with
 | zero=>intro x h0 h1;simp only [hiF];exact ⟨h0,by rw [show (128:Int) ^ (0+1)=128 from rfl] at h1;omega⟩
 | succ k ih =>
  intro x h0 h1
  simp only [hiF]
  by_cases hx:x > 127
  ·simp only [decide_eq_true hx,cond_true,fdiv128]
   rw [Int.pow_succ] at h1
   exact ih (x / 128) (by omega) (by omega)
  ·simp only [decide_eq_false hx,cond_false]
   exact ⟨h0,by omega⟩
theorem hiF_len (g:Int→Int) (k:Nat):∀ x:Int,(hiF g k x).1.length≤k:=by
 induction k with
 | zero=>intro x;simp [hiF]
 | succ k ih =>
  intro x
  simp only [hiF]
  cases decide (x > 127) with
  | true=>simp;exact ih _
  | false=>simp
noncomputable def gNum (x:Int):Int:=IntKind.wrap .u8 (ior .i64 (iand .i64 x (127:Int)) (128:Int))
noncomputable def gNum' (x:Int):Int:=IntKind.wrap .u8 (ior .i64 (128:Int) (iand .i64 x (127:Int)))
theorem gNum_same:gNum'=gNum:=by
 funext x
 simp only [gNum,gNum', ior]
 rw [BitVec.or_comm]
theorem nX_is:∃ f:Int→List Int×Int,∀ x,f x=hiF gNum 4 x:=⟨_,fun _=>rfl⟩
/-- The same, not to be unfolded. -/
noncomputable def nX:Int→List Int×Int:=Classical.choose nX_is
theorem nX_eq (x:Int):nX x=hiF gNum 4 x:=Classical.choose_spec nX_is x
theorem nX_eq' (x:Int):nX x=hiF gNum' 4 x:=by rw [gNum_same];exact nX_eq x
theorem nX_len (x:Int):(nX x).1.length≤4:=by rw [nX_eq];exact hiF_len gNum 4 x
/-- The bytes of a number. -/
noncomputable def numB (x:Int):List Int:=(nX x).1++[IntKind.wrap .u8 (nX x).2]
theorem numB_len (x:Int):(numB x).length≤5:=by
 have:=nX_len x
 simp [numB];omega
noncomputable def clampN (n:Int):Int:=if n > 1000000000 then 1000000000 else if n<0 then 0 else n
noncomputable def textB (s:ByteArray):List Int:=numB (s.size:Int)++strInts s
noncomputable def opB (o:Int×ByteArray×ByteArray):List Int:=numB (clampN o.1)++(textB o.2.1++textB o.2.2)
theorem clampN_of {n:Int} (h0:0≤n) (h1:n≤1000000000):clampN n=n:=by simp only [clampN];split<;>(try split)<;>omega
theorem strInts_len (s:ByteArray):(strInts s).length=s.size:=by rw [strInts,List.length_map,Array.length_toList];rfl
theorem textB_len (s:ByteArray):(textB s).length≤5+s.size:=by
 have:=numB_len (s.size:Int)
 simp [textB,strInts_len];omega

noncomputable def clampI (x:Int):Int:=if (if (1000000000:Int)<x then (1000000000:Int) else x) > (0:Int) then (if (1000000000:Int)<x then (1000000000:Int) else x) else (0:Int)
theorem clampI_eq (x:Int):clampI x=clampN x:=by
 simp only [clampI,clampN]
 split<;>split<;>(try split)<;>omega
theorem clampN_range (x:Int):0≤clampN x∧clampN x≤1000000000:=by
 simp only [clampN]
 split<;>(try split)<;>omega
theorem clampI_range (x:Int):0≤clampI x∧clampI x≤1000000000:=by rw [clampI_eq];exact clampN_range x

noncomputable def digB (x:Int):ByteArray:=(⟨([IntKind.wrap .u8 (IntKind.wrap .i64 ((48:Int)+(Int.tmod x (10:Int))))].map fun n=>UInt8.ofNat n.toNat).toArray⟩:ByteArray)
theorem digB_size (x:Int):(digB x).size=1:=rfl
/-- A number's digits. -/
noncomputable def txtN:Nat→Int→ByteArray→ByteArray
 | 0,_,s=>s
 | k+1,x,s=>cond (decide (x > 0)) (txtN k (IntKind.wrap .i64 (Int.tdiv x (10:Int))) (digB x++s)) s
theorem txtN_len:∀ (k:Nat) (x:Int) (s:ByteArray),(txtN k x s).size≤k+s.size:=by
 intro k
 induction k with
 | zero=>intro x s;simp [txtN]
 | succ k ih =>
  intro x s
  simp only [txtN]
  cases decide (x > 0) with
  | true =>
   have:=ih (IntKind.wrap .i64 (Int.tdiv x (10:Int))) (digB x++s)
   rw [ByteArray.size_append,digB_size] at this
   simp only [cond_true];omega
  | false=>simp only [cond_false];omega
theorem foldN_app {α:Type} (f:α→List Int) (d:α) (l:List α) (g:Nat→List Int→List Int) (hg:∀ i h,i<l.length→g i h=h++f (l.getD i d)):∀ k i h,i+k=l.length→foldN g k i h=h++((l.drop i).map f).flatten:=by
 intro k
 induction k with
 | zero =>
  intro i h hi
  have:l.drop i=[]:=List.drop_eq_nil_of_le (by omega)
  simp [foldN,this]
 | succ k ih =>
  intro i h hi
  have hlt:i<l.length:=by omega
  simp only [foldN]
  rw [ih (i+1) (g i h) (by omega),hg i h hlt,List.append_assoc,show l.drop i=l[i]::l.drop (i+1) from List.drop_eq_getElem_cons hlt,List.map_cons,List.flatten_cons,show l.getD i d=l[i] from by simp [List.getD_eq_getElem?_getD,hlt]]
theorem opB_len (o:Int×ByteArray×ByteArray):(opB o).length≤15+o.2.1.size+o.2.2.size:=by
 have h1:=numB_len (clampN o.1)
 have h2:=textB_len o.2.1
 have h3:=textB_len o.2.2
 simp only [opB,List.length_append];omega
theorem flat_len {M:Nat}:∀ l:Lq1,(∀ o∈l,(opB o).length≤M)→(l.map opB).flatten.length≤M*l.length:=by
 intro l
 induction l with
 | nil=>intro _;simp
 | cons o l ih =>
  intro h
  have h1:=h o (by simp)
  have h2:=ih fun x hx=>h x (by simp [hx])
  simp only [List.map_cons,List.flatten_cons,List.length_append,List.length_cons]
  rw [Nat.mul_add];omega
theorem okOps_mem {l:Lq1} (h:okOps l=true):∀ o∈l,o.2.1.size≤1048576∧o.2.2.size≤1048576:=by
 intro o ho
 simp only [okOps,Bool.and_eq_true,List.all_eq_true] at h
 have:=h.2 o ho
 simpa [okOp,okS] using this

noncomputable abbrev t_sy:Ty:=.sl (.int .u8)
noncomputable abbrev P_lbig:List PSh:=[.t t_sy]
noncomputable def lbig (a0:List Int):Bool:=(decide (((a0.length:Nat):Int) > (1048576:Int)))
noncomputable abbrev e_lbig (r:Bool):AV×List AObj:=((.t true .bool r),[])
noncomputable abbrev g_lbig:pshsDen P_lbig→AV×List AObj:=fun d=>e_lbig (lbig d.1)
noncomputable abbrev pre_lbig:pshsDen P_lbig→Bool:=fun d=>true
theorem run_lbig:RunP true G0 (fun _ _=>none) Try.f24 P_lbig pre_lbig g_lbig:=by
 rintro ⟨a0,_⟩ hp
 kernel_rfl
theorem c_lbig:PContract Try.prog 24 (sumOf P_lbig pre_lbig g_lbig):=pcD true G0 hlz run_lbig
noncomputable def S1:Tab:=Tab.add S0 24 (lift (sumOf P_lbig pre_lbig g_lbig))
noncomputable def QF1:FuncId→Bool:=qadd QF0 24
theorem G1:Good Try.prog tt S1 QF1:=G0.addQ c_lbig (cbl Try.f24) (fun _=>rfl)

noncomputable abbrev jS27:List Sh:=.junk::.junk::.junk::.junk::.junk::.junk::.junk::.junk::.junk::.junk::.junk::.junk::.junk::.junk::.junk::.junk::.junk::.junk::.junk::.junk::.junk::.junk::.junk::.junk::.junk::.junk::.junk::[]
noncomputable abbrev jS28:List Sh:=.junk::jS27
noncomputable abbrev u28:=((),(),(),(),(),(),(),(),(),(),(),(),(),(),(),(),(),(),(),(),(),(),(),(),(),(),(),())
noncomputable abbrev u29:=((),u28)
noncomputable abbrev jA27:List AV:=.junk::.junk::.junk::.junk::.junk::.junk::.junk::.junk::.junk::.junk::.junk::.junk::.junk::.junk::.junk::.junk::.junk::.junk::.junk::.junk::.junk::.junk::.junk::.junk::.junk::.junk::.junk::[]
noncomputable abbrev jA28:List AV:=.junk::jA27
noncomputable abbrev SM_sl1New:SS:=⟨[.t false t_sy],[]⟩
noncomputable abbrev S_sl1New_0:SS:=⟨(.t false t_sy::.junk::.junk::.t true (.int .i64)::.t true (.int .i64)::jS27),[]⟩
noncomputable abbrev E_sl1New_0_0:SS:=⟨(.t false t_sy::.junk::.junk::.t true (.int .i64)::jS28),[]⟩
noncomputable def st_sl1New_0 (x0:List Int) (x3:Int) (x4:Int):RT S_sl1New_0.den:=(.br (decide (x4<((x0.length:Nat):Int))) (.br (decide (x4<(4000:Int))) (.br (decide (0≤x4∧x4<((x0.length:Nat):Int))) (.next ((x0,(),(),iand .i64 (IntKind.wrap .i64 ((IntKind.wrap .i64 ((IntKind.wrap .i64 (x3*(137:Int)))+(IntKind.wrap .i64 (x0.getD x4.toNat (0:Int)))))+(11:Int))) (1073741823:Int),IntKind.wrap .i64 (x4+(1:Int)),u28),())) .fail) (.done (.exit 0) E_sl1New_0_0 ((x0,(),(),x3,u29),()))) (.done (.exit 0) E_sl1New_0_0 ((x0,(),(),x3,u29),())))
noncomputable abbrev V_sl1New_0:=(List Int)×(Int)×(Int)
noncomputable abbrev A_sl1New_0:=Nat×(List Int)×(Int)
noncomputable def fl_sl1New_0:A_sl1New_0:=(99,([]:List Int),((0:Int):Int))
noncomputable def ss_sl1New_0 (x0:List Int) (x3:Int) (x4:Int):V_sl1New_0 ⊕ A_sl1New_0:=(cond (decide (x4<((x0.length:Nat):Int))) (cond (decide (x4<(4000:Int))) (cond (decide (0≤x4∧x4<((x0.length:Nat):Int))) (.inl (x0,iand .i64 (IntKind.wrap .i64 ((IntKind.wrap .i64 ((IntKind.wrap .i64 (x3*(137:Int)))+(IntKind.wrap .i64 (x0.getD x4.toNat (0:Int)))))+(11:Int))) (1073741823:Int),IntKind.wrap .i64 (x4+(1:Int)))) (.inr fl_sl1New_0)) (.inr (0,x0,x3))) (.inr (0,x0,x3)))
noncomputable def it_sl1New_0 (x0:List Int) (x3:Int) (x4:Int):A_sl1New_0:=itX (fun v:V_sl1New_0=>ss_sl1New_0 v.1 v.2.1 v.2.2) fl_sl1New_0 (x0,x3,x4)
noncomputable def ct_sl1New_0 (a:A_sl1New_0):CT:=(.br (a.1==0) (.done (.exit 0) E_sl1New_0_0 ((a.2.1,(),(),a.2.2,u29),())) .fail)
noncomputable def T_sl1New_0 (x0:List Int) (x3:Int) (x4:Int):CT:=ct_sl1New_0 (it_sl1New_0 x0 x3 x4)
noncomputable abbrev sp_sl1New_0:S_sl1New_0.den→RT S_sl1New_0.den:=(fun d=>st_sl1New_0 d.1.1 d.1.2.2.2.1 d.1.2.2.2.2.1)
noncomputable def body_sl1New_0:Code:=((loopsIn 0 (bodyOf Try.f70)).getD 0 (0,.skip)).2
noncomputable abbrev pv_sl1New_0 (v:V_sl1New_0):S_sl1New_0.den:=((v.1,(),(),v.2.1,v.2.2,u28),())
theorem rl_sl1New_0:(∀ v:V_sl1New_0,(st_sl1New_0 v.1 v.2.1 v.2.2).val=relS pv_sl1New_0 ct_sl1New_0 (ss_sl1New_0 v.1 v.2.1 v.2.2))∧∀ a:A_sl1New_0,CEnd S_sl1New_0.den (ct_sl1New_0 a):=⟨fun v=>(relB (relB (relB rfl rfl) rfl) rfl),fun a=>(cendB (cendD (by simp)) cendF)⟩
noncomputable def ox_sl1New_0 (x0:List Int) (x3:Int) (x4:Int):Option (Ex×St):=(cond (decide (x4<((x0.length:Nat):Int))) (cond (decide (x4<(4000:Int))) (cond (decide (0≤x4∧x4<((x0.length:Nat):Int))) (some (.normal,(⟨((.t false t_sy x0)::.junk::.junk::(.t true (.int .i64) (iand .i64 (IntKind.wrap .i64 ((IntKind.wrap .i64 ((IntKind.wrap .i64 (x3*(137:Int)))+(IntKind.wrap .i64 (x0.getD x4.toNat (0:Int)))))+(11:Int))) (1073741823:Int)))::(.t true (.int .i64) (IntKind.wrap .i64 (x4+(1:Int))))::jA27),[],0,[]⟩:St))) none) (some ((.exit 0),(⟨((.t false t_sy x0)::.junk::.junk::(.t true (.int .i64) x3)::jA28),[],0,[]⟩:St)))) (some ((.exit 0),(⟨((.t false t_sy x0)::.junk::.junk::(.t true (.int .i64) x3)::jA28),[],0,[]⟩:St))))
theorem rdA_sl1New_0:RdA G1 (fun _ _=>none) 0 body_sl1New_0 S_sl1New_0 0 [] (kepts [] [(0,[0,3])]) (fun d=>ox_sl1New_0 d.1.1 d.1.2.2.2.1 d.1.2.2.2.2.1):=by
 intro d
 kernel_rfl
theorem rdB_sl1New_0:∀ d:S_sl1New_0.den,(fun d=>ox_sl1New_0 d.1.1 d.1.2.2.2.1 d.1.2.2.2.2.1) d=(sp_sl1New_0 d).opt 0 []:=by
 intro d
 kernel_rfl
noncomputable abbrev say_sl1New_0:St→Option Tree:=S_sl1New_0.say 0 [] [] (fun d=>T_sl1New_0 d.1.1 d.1.2.2.2.1 d.1.2.2.2.2.1)
theorem lw_sl1New_0:LoopWp Try.prog say_sl1New_0 body_sl1New_0:=SS.wp2 hlz [] sp_sl1New_0 rdA_sl1New_0 rdB_sl1New_0 _ (fun d=>Runs.ofI2 (step:=sp_sl1New_0) pv_sl1New_0 rl_sl1New_0 rfl (d.1.1,d.1.2.2.2.1,d.1.2.2.2.2.1))
noncomputable def sl1New (x0:List Int):(List Int)×Int×Int:=(((it_sl1New_0 x0 (IntKind.wrap .i64 ((381381:Int)+((x0.length:Nat):Int))) (0:Int)).2.1),(0:Int),((it_sl1New_0 x0 (IntKind.wrap .i64 ((381381:Int)+((x0.length:Nat):Int))) (0:Int)).2.2))
noncomputable abbrev e_sl1New (r:(List Int)×Int×Int):AV×List AObj×List Nat:=((.ptr 0 0 1 0),[(.box [(.t false t_sy r.1),(.t true (.int .i64) r.2.1),(.t true (.int .i64) r.2.2)])],[])
noncomputable abbrev g_sl1New:SM_sl1New.den→AV×List AObj×List Nat:=fun d=>e_sl1New (sl1New d.1.1)
noncomputable def q_sl1New (x0:List Int):Bool:=((it_sl1New_0 x0 (IntKind.wrap .i64 ((381381:Int)+((x0.length:Nat):Int))) (0:Int)).1==0)
noncomputable abbrev pre_sl1New:SM_sl1New.den→Bool:=fun d=>q_sl1New d.1.1
noncomputable abbrev L_sl1New:Nat→St→Option Tree:=fun b=>match b with | 0=>say_sl1New_0 | _=>fun _=>none
theorem run_sl1New:RunM G1 (L_sl1New) Try.f70 SM_sl1New pre_sl1New g_sl1New:=by
 rintro ⟨⟨x0,_⟩,_⟩ hp
 change q_sl1New x0=true at hp
 unfold q_sl1New at hp
 refine Eq.trans (b:=(cond ((it_sl1New_0 x0 (IntKind.wrap .i64 ((381381:Int)+((x0.length:Nat):Int))) (0:Int)).1==0) (some (e_sl1New (((it_sl1New_0 x0 (IntKind.wrap .i64 ((381381:Int)+((x0.length:Nat):Int))) (0:Int)).2.1),(0:Int),((it_sl1New_0 x0 (IntKind.wrap .i64 ((381381:Int)+((x0.length:Nat):Int))) (0:Int)).2.2)))) none)) (by kernel_rfl) ?_
 exact (cndT hp fun _h=>rfl)
noncomputable abbrev m_sl1New:=win winIds (msum SM_sl1New pre_sl1New g_sl1New)
theorem c_sl1New:MContract Try.prog 70 m_sl1New:=(mcM G1 (hl1 (i:=0) (by kernel_rfl) lw_sl1New_0) run_sl1New).win winIds
noncomputable def S2:Tab:=Tab.add S1 70 (m_sl1New)
noncomputable def QF2:FuncId→Bool:=QF1
theorem G2:Good Try.prog tt S2 QF2:=G1.addM c_sl1New (win_local _) (cbl Try.f70) (by kernel_rfl)

noncomputable abbrev SM_sl1Byte:SS:=⟨[.ptr 0 0 1 0],[.box [.t false t_sy,.t true (.int .i64),.t true (.int .i64)]]⟩
noncomputable def sl1Byte (p0:List Int) (p1:Int) (p2:Int):Int×(List Int)×Int×Int:=(cond (decide (p1<((p0.length:Nat):Int))) (iand .i64 (IntKind.wrap .i64 ((iand .i64 (ixor .i64 (Int.fdiv (IntKind.wrap .i64 ((IntKind.wrap .i64 (p2*(6364136223846793005:Int)))+(1442695040888963407:Int))) (2 ^ (33))) (Int.fdiv (IntKind.wrap .i64 ((IntKind.wrap .i64 (p2*(6364136223846793005:Int)))+(1442695040888963407:Int))) (2 ^ (47)))) (255:Int))+(IntKind.wrap .i64 (p0.getD p1.toNat (0:Int))))) (255:Int),p0,IntKind.wrap .i64 (p1+(1:Int)),IntKind.wrap .i64 ((IntKind.wrap .i64 (p2*(6364136223846793005:Int)))+(1442695040888963407:Int))) (iand .i64 (ixor .i64 (Int.fdiv (IntKind.wrap .i64 ((IntKind.wrap .i64 (p2*(6364136223846793005:Int)))+(1442695040888963407:Int))) (2 ^ (33))) (Int.fdiv (IntKind.wrap .i64 ((IntKind.wrap .i64 (p2*(6364136223846793005:Int)))+(1442695040888963407:Int))) (2 ^ (47)))) (255:Int),p0,p1,IntKind.wrap .i64 ((IntKind.wrap .i64 (p2*(6364136223846793005:Int)))+(1442695040888963407:Int))))
noncomputable abbrev e_sl1Byte (r:Int×(List Int)×Int×Int):AV×List AObj×List Nat:=((.t true (.int .i64) r.1),[(.box [(.t false t_sy r.2.1),(.t true (.int .i64) r.2.2.1),(.t true (.int .i64) r.2.2.2)])],[])
noncomputable abbrev g_sl1Byte:SM_sl1Byte.den→AV×List AObj×List Nat:=fun d=>e_sl1Byte (sl1Byte d.2.1.1 d.2.1.2.1 d.2.1.2.2.1)
noncomputable def q_sl1Byte (p0:List Int) (p1:Int) (p2:Int):Bool:=cond (decide (p1<((p0.length:Nat):Int))) (decide (0≤p1∧p1<((p0.length:Nat):Int))) true
noncomputable abbrev pre_sl1Byte:SM_sl1Byte.den→Bool:=fun d=>q_sl1Byte d.2.1.1 d.2.1.2.1 d.2.1.2.2.1
theorem run_sl1Byte:RunM G2 (fun _ _=>none) Try.f121 SM_sl1Byte pre_sl1Byte g_sl1Byte:=by
 rintro ⟨⟨_,_⟩,⟨⟨p0,p1,p2,_⟩,_⟩⟩ hp
 change q_sl1Byte p0 p1 p2=true at hp
 unfold q_sl1Byte at hp
 refine Eq.trans (b:=(cond (decide (p1<((p0.length:Nat):Int))) (cond (decide (0≤p1∧p1<((p0.length:Nat):Int))) (some (e_sl1Byte (iand .i64 (IntKind.wrap .i64 ((iand .i64 (ixor .i64 (Int.fdiv (IntKind.wrap .i64 ((IntKind.wrap .i64 (p2*(6364136223846793005:Int)))+(1442695040888963407:Int))) (2 ^ (33))) (Int.fdiv (IntKind.wrap .i64 ((IntKind.wrap .i64 (p2*(6364136223846793005:Int)))+(1442695040888963407:Int))) (2 ^ (47)))) (255:Int))+(IntKind.wrap .i64 (p0.getD p1.toNat (0:Int))))) (255:Int),p0,IntKind.wrap .i64 (p1+(1:Int)),IntKind.wrap .i64 ((IntKind.wrap .i64 (p2*(6364136223846793005:Int)))+(1442695040888963407:Int))))) none) (some (e_sl1Byte (iand .i64 (ixor .i64 (Int.fdiv (IntKind.wrap .i64 ((IntKind.wrap .i64 (p2*(6364136223846793005:Int)))+(1442695040888963407:Int))) (2 ^ (33))) (Int.fdiv (IntKind.wrap .i64 ((IntKind.wrap .i64 (p2*(6364136223846793005:Int)))+(1442695040888963407:Int))) (2 ^ (47)))) (255:Int),p0,p1,IntKind.wrap .i64 ((IntKind.wrap .i64 (p2*(6364136223846793005:Int)))+(1442695040888963407:Int))))))) (by kernel_rfl) ?_
 exact (cndE e_sl1Byte hp (fun hp=>(cndT hp fun _h=>rfl)) (fun hp=>rfl))
noncomputable abbrev m_sl1Byte:=win winIds (msum SM_sl1Byte pre_sl1Byte g_sl1Byte)
theorem c_sl1Byte:MContract Try.prog 121 m_sl1Byte:=(mcM G2 hlz run_sl1Byte).win winIds
noncomputable def S3:Tab:=Tab.add S2 121 (m_sl1Byte)
noncomputable def QF3:FuncId→Bool:=QF2
theorem G3:Good Try.prog tt S3 QF3:=G2.addM c_sl1Byte (win_local _) (cbl Try.f121) (by kernel_rfl)

noncomputable abbrev SM_sl1Below:SS:=⟨[.ptr 0 0 1 0,.t true (.int .i64)],[.box [.t false t_sy,.t true (.int .i64),.t true (.int .i64)]]⟩
noncomputable def k1_sl1Below (p0:List Int) (p1:Int) (p2:Int):=sl1Byte ((sl1Byte p0 p1 p2).2.1) ((sl1Byte p0 p1 p2).2.2.1) ((sl1Byte p0 p1 p2).2.2.2)
noncomputable def k2_sl1Below (p0:List Int) (p1:Int) (p2:Int):=sl1Byte ((k1_sl1Below p0 p1 p2).2.1) ((k1_sl1Below p0 p1 p2).2.2.1) ((k1_sl1Below p0 p1 p2).2.2.2)
noncomputable def sl1Below (x1:Int) (p0:List Int) (p1:Int) (p2:Int):Int×(List Int)×Int×Int:=(cond (decide (x1≤(0:Int))) ((0:Int),p0,p1,p2) (cond (decide (x1≤(256:Int))) (Int.tmod ((sl1Byte p0 p1 p2).1) x1,((sl1Byte p0 p1 p2).2.1),((sl1Byte p0 p1 p2).2.2.1),((sl1Byte p0 p1 p2).2.2.2)) (Int.tmod (IntKind.wrap .i64 ((IntKind.wrap .i64 ((IntKind.wrap .i64 (((sl1Byte p0 p1 p2).1)*(65536:Int)))+(IntKind.wrap .i64 (((k1_sl1Below p0 p1 p2).1)*(256:Int)))))+((k2_sl1Below p0 p1 p2).1))) x1,((k2_sl1Below p0 p1 p2).2.1),((k2_sl1Below p0 p1 p2).2.2.1),((k2_sl1Below p0 p1 p2).2.2.2))))
noncomputable abbrev e_sl1Below (r:Int×(List Int)×Int×Int):AV×List AObj×List Nat:=((.t true (.int .i64) r.1),[(.box [(.t false t_sy r.2.1),(.t true (.int .i64) r.2.2.1),(.t true (.int .i64) r.2.2.2)])],[])
noncomputable abbrev g_sl1Below:SM_sl1Below.den→AV×List AObj×List Nat:=fun d=>e_sl1Below (sl1Below d.1.2.1 d.2.1.1 d.2.1.2.1 d.2.1.2.2.1)
noncomputable def q_sl1Below (x1:Int) (p0:List Int) (p1:Int) (p2:Int):Bool:=cond (decide (x1≤(0:Int))) true (cond (decide (x1≤(256:Int))) ((q_sl1Byte p0 p1 p2)&&(decide (x1 ≠ 0))) ((q_sl1Byte p0 p1 p2)&&((q_sl1Byte ((sl1Byte p0 p1 p2).2.1) ((sl1Byte p0 p1 p2).2.2.1) ((sl1Byte p0 p1 p2).2.2.2))&&((q_sl1Byte ((k1_sl1Below p0 p1 p2).2.1) ((k1_sl1Below p0 p1 p2).2.2.1) ((k1_sl1Below p0 p1 p2).2.2.2))&&(decide (x1 ≠ 0))))))
noncomputable abbrev pre_sl1Below:SM_sl1Below.den→Bool:=fun d=>q_sl1Below d.1.2.1 d.2.1.1 d.2.1.2.1 d.2.1.2.2.1
theorem run_sl1Below:RunM G3 (fun _ _=>none) Try.f81 SM_sl1Below pre_sl1Below g_sl1Below:=by
 rintro ⟨⟨_,x1,_⟩,⟨⟨p0,p1,p2,_⟩,_⟩⟩ hp
 change q_sl1Below x1 p0 p1 p2=true at hp
 unfold q_sl1Below at hp
 refine Eq.trans (b:=(cond (decide (x1≤(0:Int))) (some (e_sl1Below ((0:Int),p0,p1,p2))) (cond (decide (x1≤(256:Int))) (cond (q_sl1Byte p0 p1 p2) (cond (decide (x1 ≠ 0)) (some (e_sl1Below (Int.tmod ((sl1Byte p0 p1 p2).1) x1,((sl1Byte p0 p1 p2).2.1),((sl1Byte p0 p1 p2).2.2.1),((sl1Byte p0 p1 p2).2.2.2)))) none) none) (cond (q_sl1Byte p0 p1 p2) (cond (q_sl1Byte ((sl1Byte p0 p1 p2).2.1) ((sl1Byte p0 p1 p2).2.2.1) ((sl1Byte p0 p1 p2).2.2.2)) (cond (q_sl1Byte ((k1_sl1Below p0 p1 p2).2.1) ((k1_sl1Below p0 p1 p2).2.2.1) ((k1_sl1Below p0 p1 p2).2.2.2)) (cond (decide (x1 ≠ 0)) (some (e_sl1Below (Int.tmod (IntKind.wrap .i64 ((IntKind.wrap .i64 ((IntKind.wrap .i64 (((sl1Byte p0 p1 p2).1)*(65536:Int)))+(IntKind.wrap .i64 (((k1_sl1Below p0 p1 p2).1)*(256:Int)))))+((k2_sl1Below p0 p1 p2).1))) x1,((k2_sl1Below p0 p1 p2).2.1),((k2_sl1Below p0 p1 p2).2.2.1),((k2_sl1Below p0 p1 p2).2.2.2)))) none) none) none) none)))) (by kernel_rfl) ?_
 exact (cndE e_sl1Below hp (fun hp=>rfl) (fun hp=>(cndE e_sl1Below hp (fun hp=>(cndA hp fun hp=>(cndT hp fun _h=>rfl))) (fun hp=>(cndA hp fun hp=>(cndA hp fun hp=>(cndA hp fun hp=>(cndT hp fun _h=>rfl))))))))
noncomputable abbrev m_sl1Below:=win winIds (msum SM_sl1Below pre_sl1Below g_sl1Below)
theorem c_sl1Below:MContract Try.prog 81 m_sl1Below:=(mcM G3 hlz run_sl1Below).win winIds
noncomputable def S4:Tab:=Tab.add S3 81 (m_sl1Below)
noncomputable def QF4:FuncId→Bool:=QF3
theorem G4:Good Try.prog tt S4 QF4:=G3.addM c_sl1Below (win_local _) (cbl Try.f81) (by kernel_rfl)

noncomputable abbrev SM_sl1Int:SS:=⟨[.ptr 0 0 1 0,.all 1 1],[.box [.t false t_sy,.t true (.int .i64),.t true (.int .i64)],.rows 3 true (.int .i64)]⟩
noncomputable def sl1Int (p0:List Int) (p1:Int) (p2:Int) (h1:List Int):Int×(List Int)×Int×Int×List Int:=(h1.getD (((sl1Below ((h1.length:Nat):Int) p0 p1 p2).1).toNat) (0:Int),((sl1Below ((h1.length:Nat):Int) p0 p1 p2).2.1),((sl1Below ((h1.length:Nat):Int) p0 p1 p2).2.2.1),((sl1Below ((h1.length:Nat):Int) p0 p1 p2).2.2.2),h1)
noncomputable abbrev e_sl1Int (r:Int×(List Int)×Int×Int×List Int):AV×List AObj×List Nat:=((.t true (.int .i64) r.1),[(.box [(.t false t_sy r.2.1),(.t true (.int .i64) r.2.2.1),(.t true (.int .i64) r.2.2.2.1)]),(.rows 3 true (.int .i64) r.2.2.2.2)],[])
noncomputable abbrev g_sl1Int:SM_sl1Int.den→AV×List AObj×List Nat:=fun d=>e_sl1Int (sl1Int d.2.1.1 d.2.1.2.1 d.2.1.2.2.1 d.2.2.1)
noncomputable def q_sl1Int (p0:List Int) (p1:Int) (p2:Int) (h1:List Int):Bool:=(q_sl1Below ((h1.length:Nat):Int) p0 p1 p2)&&(decide (0≤((sl1Below ((h1.length:Nat):Int) p0 p1 p2).1)∧((sl1Below ((h1.length:Nat):Int) p0 p1 p2).1)<((h1.length:Nat):Int)))
noncomputable abbrev pre_sl1Int:SM_sl1Int.den→Bool:=fun d=>q_sl1Int d.2.1.1 d.2.1.2.1 d.2.1.2.2.1 d.2.2.1
theorem run_sl1Int:RunM G4 (fun _ _=>none) Try.f86 SM_sl1Int pre_sl1Int g_sl1Int:=by
 rintro ⟨⟨_,_,_⟩,⟨⟨p0,p1,p2,_⟩,h1,_⟩⟩ hp
 change q_sl1Int p0 p1 p2 h1=true at hp
 unfold q_sl1Int at hp
 refine Eq.trans (b:=(cond (q_sl1Below ((h1.length:Nat):Int) p0 p1 p2) (cond (decide (0≤((sl1Below ((h1.length:Nat):Int) p0 p1 p2).1)∧((sl1Below ((h1.length:Nat):Int) p0 p1 p2).1)<((h1.length:Nat):Int))) (some (e_sl1Int (h1.getD (((sl1Below ((h1.length:Nat):Int) p0 p1 p2).1).toNat) (0:Int),((sl1Below ((h1.length:Nat):Int) p0 p1 p2).2.1),((sl1Below ((h1.length:Nat):Int) p0 p1 p2).2.2.1),((sl1Below ((h1.length:Nat):Int) p0 p1 p2).2.2.2),h1))) none) none)) (by kernel_rfl) ?_
 exact (cndA hp fun hp=>(cndT hp fun _h=>rfl))
noncomputable abbrev m_sl1Int:=win winIds (msum SM_sl1Int pre_sl1Int g_sl1Int)
theorem c_sl1Int:MContract Try.prog 86 m_sl1Int:=(mcM G4 hlz run_sl1Int).win winIds
noncomputable def S5:Tab:=Tab.add S4 86 (m_sl1Int)
noncomputable def QF5:FuncId→Bool:=QF4
theorem G5:Good Try.prog tt S5 QF5:=G4.addM c_sl1Int (win_local _) (cbl Try.f86) (by kernel_rfl)

noncomputable abbrev SM_sl1Str:SS:=⟨[.ptr 0 0 1 0,.all 1 1],[.box [.t false t_sy,.t true (.int .i64),.t true (.int .i64)],.rows 9 true .str]⟩
noncomputable def sl1Str (p0:List Int) (p1:Int) (p2:Int) (h1:List ByteArray):ByteArray×(List Int)×Int×Int×List ByteArray:=(h1.getD (((sl1Below ((h1.length:Nat):Int) p0 p1 p2).1).toNat) bE,((sl1Below ((h1.length:Nat):Int) p0 p1 p2).2.1),((sl1Below ((h1.length:Nat):Int) p0 p1 p2).2.2.1),((sl1Below ((h1.length:Nat):Int) p0 p1 p2).2.2.2),h1)
noncomputable abbrev e_sl1Str (r:ByteArray×(List Int)×Int×Int×List ByteArray):AV×List AObj×List Nat:=((.t true .str r.1),[(.box [(.t false t_sy r.2.1),(.t true (.int .i64) r.2.2.1),(.t true (.int .i64) r.2.2.2.1)]),(.rows 9 true .str r.2.2.2.2)],[])
noncomputable abbrev g_sl1Str:SM_sl1Str.den→AV×List AObj×List Nat:=fun d=>e_sl1Str (sl1Str d.2.1.1 d.2.1.2.1 d.2.1.2.2.1 d.2.2.1)
noncomputable def q_sl1Str (p0:List Int) (p1:Int) (p2:Int) (h1:List ByteArray):Bool:=(q_sl1Below ((h1.length:Nat):Int) p0 p1 p2)&&(decide (0≤((sl1Below ((h1.length:Nat):Int) p0 p1 p2).1)∧((sl1Below ((h1.length:Nat):Int) p0 p1 p2).1)<((h1.length:Nat):Int)))
noncomputable abbrev pre_sl1Str:SM_sl1Str.den→Bool:=fun d=>q_sl1Str d.2.1.1 d.2.1.2.1 d.2.1.2.2.1 d.2.2.1
theorem run_sl1Str:RunM G5 (fun _ _=>none) Try.f173 SM_sl1Str pre_sl1Str g_sl1Str:=by
 rintro ⟨⟨_,_,_⟩,⟨⟨p0,p1,p2,_⟩,h1,_⟩⟩ hp
 change q_sl1Str p0 p1 p2 h1=true at hp
 unfold q_sl1Str at hp
 refine Eq.trans (b:=(cond (q_sl1Below ((h1.length:Nat):Int) p0 p1 p2) (cond (decide (0≤((sl1Below ((h1.length:Nat):Int) p0 p1 p2).1)∧((sl1Below ((h1.length:Nat):Int) p0 p1 p2).1)<((h1.length:Nat):Int))) (some (e_sl1Str (h1.getD (((sl1Below ((h1.length:Nat):Int) p0 p1 p2).1).toNat) (⟨#[]⟩:ByteArray),((sl1Below ((h1.length:Nat):Int) p0 p1 p2).2.1),((sl1Below ((h1.length:Nat):Int) p0 p1 p2).2.2.1),((sl1Below ((h1.length:Nat):Int) p0 p1 p2).2.2.2),h1))) none) none)) (by kernel_rfl) ?_
 exact (cndA hp fun hp=>(cndT hp fun _h=>rfl))
noncomputable abbrev m_sl1Str:=win winIds (msum SM_sl1Str pre_sl1Str g_sl1Str)
theorem c_sl1Str:MContract Try.prog 173 m_sl1Str:=(mcM G5 hlz run_sl1Str).win winIds
noncomputable def S6:Tab:=Tab.add S5 173 (m_sl1Str)
noncomputable def QF6:FuncId→Bool:=QF5
theorem G6:Good Try.prog tt S6 QF6:=G5.addM c_sl1Str (win_local _) (cbl Try.f173) (by kernel_rfl)

noncomputable abbrev SM_sl3Key:SS:=⟨[.ptr 0 0 1 0],[.box [.t false t_sy,.t true (.int .i64),.t true (.int .i64)]]⟩
noncomputable def k1_sl3Key (p0:List Int) (p1:Int) (p2:Int):=sl1Str p0 p1 p2 ([(⟨#[97]⟩:ByteArray),(⟨#[98]⟩:ByteArray),(⟨#[99]⟩:ByteArray),(⟨#[107,49]⟩:ByteArray),(⟨#[107,50]⟩:ByteArray),(⟨#[109]⟩:ByteArray),(⟨#[122]⟩:ByteArray)])
noncomputable def sl3Key (p0:List Int) (p1:Int) (p2:Int):ByteArray×(List Int)×Int×Int:=(((k1_sl3Key p0 p1 p2).1),((k1_sl3Key p0 p1 p2).2.1),((k1_sl3Key p0 p1 p2).2.2.1),((k1_sl3Key p0 p1 p2).2.2.2.1))
noncomputable abbrev e_sl3Key (r:ByteArray×(List Int)×Int×Int):AV×List AObj×List Nat:=((.t true .str r.1),[(.box [(.t false t_sy r.2.1),(.t true (.int .i64) r.2.2.1),(.t true (.int .i64) r.2.2.2)])],[])
noncomputable abbrev g_sl3Key:SM_sl3Key.den→AV×List AObj×List Nat:=fun d=>e_sl3Key (sl3Key d.2.1.1 d.2.1.2.1 d.2.1.2.2.1)
noncomputable def q_sl3Key (p0:List Int) (p1:Int) (p2:Int):Bool:=q_sl1Str p0 p1 p2 ([(⟨#[97]⟩:ByteArray),(⟨#[98]⟩:ByteArray),(⟨#[99]⟩:ByteArray),(⟨#[107,49]⟩:ByteArray),(⟨#[107,50]⟩:ByteArray),(⟨#[109]⟩:ByteArray),(⟨#[122]⟩:ByteArray)])
noncomputable abbrev pre_sl3Key:SM_sl3Key.den→Bool:=fun d=>q_sl3Key d.2.1.1 d.2.1.2.1 d.2.1.2.2.1
theorem run_sl3Key:RunM G6 (fun _ _=>none) Try.f172 SM_sl3Key pre_sl3Key g_sl3Key:=by
 rintro ⟨⟨_,_⟩,⟨⟨p0,p1,p2,_⟩,_⟩⟩ hp
 change q_sl3Key p0 p1 p2=true at hp
 unfold q_sl3Key at hp
 refine Eq.trans (b:=(cond (q_sl1Str p0 p1 p2 ([(⟨#[97]⟩:ByteArray),(⟨#[98]⟩:ByteArray),(⟨#[99]⟩:ByteArray),(⟨#[107,49]⟩:ByteArray),(⟨#[107,50]⟩:ByteArray),(⟨#[109]⟩:ByteArray),(⟨#[122]⟩:ByteArray)])) (some (e_sl3Key (((k1_sl3Key p0 p1 p2).1),((k1_sl3Key p0 p1 p2).2.1),((k1_sl3Key p0 p1 p2).2.2.1),((k1_sl3Key p0 p1 p2).2.2.2.1)))) none)) (by kernel_rfl) ?_
 exact (cndT hp fun _h=>rfl)
noncomputable abbrev m_sl3Key:=win winIds (msum SM_sl3Key pre_sl3Key g_sl3Key)
theorem c_sl3Key:MContract Try.prog 172 m_sl3Key:=(mcM G6 hlz run_sl3Key).win winIds
noncomputable def S7:Tab:=Tab.add S6 172 (m_sl3Key)
noncomputable def QF7:FuncId→Bool:=QF6
theorem G7:Good Try.prog tt S7 QF7:=G6.addM c_sl3Key (win_local _) (cbl Try.f172) (by kernel_rfl)

noncomputable abbrev SM_sl7Op1:SS:=⟨[.ptr 0 0 1 0],[.box [.t false t_sy,.t true (.int .i64),.t true (.int .i64)]]⟩
noncomputable def k1_sl7Op1 (p0:List Int) (p1:Int) (p2:Int):=sl3Key ((sl1Int p0 p1 p2 [(1:Int),(1:Int),(1:Int),(2:Int),(3:Int)]).2.1) ((sl1Int p0 p1 p2 [(1:Int),(1:Int),(1:Int),(2:Int),(3:Int)]).2.2.1) ((sl1Int p0 p1 p2 [(1:Int),(1:Int),(1:Int),(2:Int),(3:Int)]).2.2.2.1)
noncomputable def k2_sl7Op1 (p0:List Int) (p1:Int) (p2:Int):=sl1Str ((k1_sl7Op1 p0 p1 p2).2.1) ((k1_sl7Op1 p0 p1 p2).2.2.1) ((k1_sl7Op1 p0 p1 p2).2.2.2) ([(⟨#[49]⟩:ByteArray),(⟨#[50]⟩:ByteArray),(⟨#[120]⟩:ByteArray),bE,(⟨#[49]⟩:ByteArray)])
noncomputable def sl7Op1 (p0:List Int) (p1:Int) (p2:Int):Int×ByteArray×ByteArray×(List Int)×Int×Int×Int×ByteArray×ByteArray:=(cond (((sl1Int p0 p1 p2 [(1:Int),(1:Int),(1:Int),(2:Int),(3:Int)]).1) != (2:Int)) (((sl1Int p0 p1 p2 [(1:Int),(1:Int),(1:Int),(2:Int),(3:Int)]).1),((k1_sl7Op1 p0 p1 p2).1),((k2_sl7Op1 p0 p1 p2).1),((k2_sl7Op1 p0 p1 p2).2.1),((k2_sl7Op1 p0 p1 p2).2.2.1),((k2_sl7Op1 p0 p1 p2).2.2.2.1),((sl1Int p0 p1 p2 [(1:Int),(1:Int),(1:Int),(2:Int),(3:Int)]).1),((k1_sl7Op1 p0 p1 p2).1),((k2_sl7Op1 p0 p1 p2).1)) (((sl1Int p0 p1 p2 [(1:Int),(1:Int),(1:Int),(2:Int),(3:Int)]).1),((k1_sl7Op1 p0 p1 p2).1),bE,((k1_sl7Op1 p0 p1 p2).2.1),((k1_sl7Op1 p0 p1 p2).2.2.1),((k1_sl7Op1 p0 p1 p2).2.2.2),((sl1Int p0 p1 p2 [(1:Int),(1:Int),(1:Int),(2:Int),(3:Int)]).1),((k1_sl7Op1 p0 p1 p2).1),bE))
noncomputable abbrev e_sl7Op1 (r:Int×ByteArray×ByteArray×(List Int)×Int×Int×Int×ByteArray×ByteArray):AV×List AObj×List Nat:=((.agg [(.t true (.int .i64) r.1),(.t true .str r.2.1),(.t true .str r.2.2.1)]),[(.box [(.t false t_sy r.2.2.2.1),(.t true (.int .i64) r.2.2.2.2.1),(.t true (.int .i64) r.2.2.2.2.2.1)]),(.box [(.t true (.int .i64) r.2.2.2.2.2.2.1),(.t true .str r.2.2.2.2.2.2.2.1),(.t true .str r.2.2.2.2.2.2.2.2)])],[])
noncomputable abbrev g_sl7Op1:SM_sl7Op1.den→AV×List AObj×List Nat:=fun d=>e_sl7Op1 (sl7Op1 d.2.1.1 d.2.1.2.1 d.2.1.2.2.1)
noncomputable def q_sl7Op1 (p0:List Int) (p1:Int) (p2:Int):Bool:=(q_sl1Int p0 p1 p2 [(1:Int),(1:Int),(1:Int),(2:Int),(3:Int)])&&((q_sl3Key ((sl1Int p0 p1 p2 [(1:Int),(1:Int),(1:Int),(2:Int),(3:Int)]).2.1) ((sl1Int p0 p1 p2 [(1:Int),(1:Int),(1:Int),(2:Int),(3:Int)]).2.2.1) ((sl1Int p0 p1 p2 [(1:Int),(1:Int),(1:Int),(2:Int),(3:Int)]).2.2.2.1))&&(cond (((sl1Int p0 p1 p2 [(1:Int),(1:Int),(1:Int),(2:Int),(3:Int)]).1) != (2:Int)) (q_sl1Str ((k1_sl7Op1 p0 p1 p2).2.1) ((k1_sl7Op1 p0 p1 p2).2.2.1) ((k1_sl7Op1 p0 p1 p2).2.2.2) ([(⟨#[49]⟩:ByteArray),(⟨#[50]⟩:ByteArray),(⟨#[120]⟩:ByteArray),bE,(⟨#[49]⟩:ByteArray)])) true))
noncomputable abbrev pre_sl7Op1:SM_sl7Op1.den→Bool:=fun d=>q_sl7Op1 d.2.1.1 d.2.1.2.1 d.2.1.2.2.1
theorem run_sl7Op1:RunM G7 (fun _ _=>none) Try.f152 SM_sl7Op1 pre_sl7Op1 g_sl7Op1:=by
 rintro ⟨⟨_,_⟩,⟨⟨p0,p1,p2,_⟩,_⟩⟩ hp
 change q_sl7Op1 p0 p1 p2=true at hp
 unfold q_sl7Op1 at hp
 refine Eq.trans (b:=(cond (q_sl1Int p0 p1 p2 [(1:Int),(1:Int),(1:Int),(2:Int),(3:Int)]) (cond (q_sl3Key ((sl1Int p0 p1 p2 [(1:Int),(1:Int),(1:Int),(2:Int),(3:Int)]).2.1) ((sl1Int p0 p1 p2 [(1:Int),(1:Int),(1:Int),(2:Int),(3:Int)]).2.2.1) ((sl1Int p0 p1 p2 [(1:Int),(1:Int),(1:Int),(2:Int),(3:Int)]).2.2.2.1)) (cond (((sl1Int p0 p1 p2 [(1:Int),(1:Int),(1:Int),(2:Int),(3:Int)]).1) != (2:Int)) (cond (q_sl1Str ((k1_sl7Op1 p0 p1 p2).2.1) ((k1_sl7Op1 p0 p1 p2).2.2.1) ((k1_sl7Op1 p0 p1 p2).2.2.2) ([(⟨#[49]⟩:ByteArray),(⟨#[50]⟩:ByteArray),(⟨#[120]⟩:ByteArray),(⟨#[]⟩:ByteArray),(⟨#[49]⟩:ByteArray)])) (some (e_sl7Op1 (((sl1Int p0 p1 p2 [(1:Int),(1:Int),(1:Int),(2:Int),(3:Int)]).1),((k1_sl7Op1 p0 p1 p2).1),((k2_sl7Op1 p0 p1 p2).1),((k2_sl7Op1 p0 p1 p2).2.1),((k2_sl7Op1 p0 p1 p2).2.2.1),((k2_sl7Op1 p0 p1 p2).2.2.2.1),((sl1Int p0 p1 p2 [(1:Int),(1:Int),(1:Int),(2:Int),(3:Int)]).1),((k1_sl7Op1 p0 p1 p2).1),((k2_sl7Op1 p0 p1 p2).1)))) none) (some (e_sl7Op1 (((sl1Int p0 p1 p2 [(1:Int),(1:Int),(1:Int),(2:Int),(3:Int)]).1),((k1_sl7Op1 p0 p1 p2).1),(⟨#[]⟩:ByteArray),((k1_sl7Op1 p0 p1 p2).2.1),((k1_sl7Op1 p0 p1 p2).2.2.1),((k1_sl7Op1 p0 p1 p2).2.2.2),((sl1Int p0 p1 p2 [(1:Int),(1:Int),(1:Int),(2:Int),(3:Int)]).1),((k1_sl7Op1 p0 p1 p2).1),(⟨#[]⟩:ByteArray))))) none) none)) (by kernel_rfl) ?_
 exact (cndA hp fun hp=>(cndA hp fun hp=>(cndE e_sl7Op1 hp (fun hp=>(cndT hp fun _h=>rfl)) (fun hp=>rfl))))
noncomputable abbrev m_sl7Op1:=win winIds (msum SM_sl7Op1 pre_sl7Op1 g_sl7Op1)
theorem c_sl7Op1:MContract Try.prog 152 m_sl7Op1:=(mcM G7 hlz run_sl7Op1).win winIds
noncomputable def S8:Tab:=Tab.add S7 152 (m_sl7Op1)
noncomputable def QF8:FuncId→Bool:=QF7
theorem G8:Good Try.prog tt S8 QF8:=G7.addM c_sl7Op1 (win_local _) (cbl Try.f152) (by kernel_rfl)

noncomputable abbrev jS45:List Sh:=.junk::.junk::.junk::.junk::.junk::.junk::.junk::.junk::.junk::.junk::.junk::.junk::.junk::.junk::.junk::.junk::.junk::jS28
noncomputable abbrev tq4:Ty:=.pair (.int .i64) (.pair .str .str)
noncomputable abbrev jS46:List Sh:=.junk::jS45
noncomputable abbrev u46:=((),(),(),(),(),(),(),(),(),(),(),(),(),(),(),(),(),u29)
noncomputable abbrev u47:=((),u46)
noncomputable abbrev jA45:List AV:=.junk::.junk::.junk::.junk::.junk::.junk::.junk::.junk::.junk::.junk::.junk::.junk::.junk::.junk::.junk::.junk::.junk::jA28
noncomputable abbrev jA46:List AV:=.junk::jA45
noncomputable abbrev P_sl7One:List PSh:=[.t tq3,.agg [(.int .i64),.str,.str]]
noncomputable abbrev S_sl7One_0:SS:=⟨(.t false tq3::.junk::.junk::.ptr 0 0 1 0::.junk::.all 1 3::.t true .bool::.t true (.int .i64)::jS45),[.box [.t true (.int .i64),.t true .str,.t true .str],.rows 124 true tq4]⟩
noncomputable abbrev E_sl7One_0_0:SS:=⟨(.junk::.junk::.junk::.ptr 0 0 1 0::.junk::.all 1 3::.t true .bool::jS46),[.box [.t true (.int .i64),.t true .str,.t true .str],.rows 124 true tq4]⟩
noncomputable def st_sl7One_0 (x0:Lq1) (x6:Bool) (x7:Int) (p0:Int) (p1:ByteArray) (p2:ByteArray) (h1:Lq1):RT S_sl7One_0.den:=(.br (decide (x7<((x0.length:Nat):Int))) (.br (!x6) (.br (decide (0≤x7∧x7<((x0.length:Nat):Int))) (.br (!(Op.bytesLess (((x0.getD x7.toNat ((0:Int),(bE,bE))).2).1).toList p1.toList)) (.br (decide ((h1.length+[(p0,(p1,p2))].length)*40≤MAXB)) (.br (decide (0≤x7∧x7<((x0.length:Nat):Int))) (.br (!((((x0.getD x7.toNat ((0:Int),(bE,bE))).2).1).toList==p1.toList)) (.br (decide (0≤x7∧x7<((x0.length:Nat):Int))) (.br (decide (((h1++[(p0,(p1,p2))]).length+([((x0.getD x7.toNat ((0:Int),(bE,bE))).1,(((x0.getD x7.toNat ((0:Int),(bE,bE))).2).1,((x0.getD x7.toNat ((0:Int),(bE,bE))).2).2))]).length)*40≤MAXB)) (.next ((x0,(),(),(),(),(),true,IntKind.wrap .i64 (x7+(1:Int)),u46),((p0,p1,p2,()),(h1++[(p0,(p1,p2))])++([((x0.getD x7.toNat ((0:Int),(bE,bE))).1,(((x0.getD x7.toNat ((0:Int),(bE,bE))).2).1,((x0.getD x7.toNat ((0:Int),(bE,bE))).2).2))]),()))) .fail) .fail) (.next ((x0,(),(),(),(),(),true,IntKind.wrap .i64 (x7+(1:Int)),u46),((p0,p1,p2,()),h1++[(p0,(p1,p2))],())))) .fail) .fail) (.br (decide (0≤x7∧x7<((x0.length:Nat):Int))) (.br (!((((x0.getD x7.toNat ((0:Int),(bE,bE))).2).1).toList==p1.toList)) (.br (decide (0≤x7∧x7<((x0.length:Nat):Int))) (.br (decide ((h1.length+([((x0.getD x7.toNat ((0:Int),(bE,bE))).1,(((x0.getD x7.toNat ((0:Int),(bE,bE))).2).1,((x0.getD x7.toNat ((0:Int),(bE,bE))).2).2))]).length)*40≤MAXB)) (.next ((x0,(),(),(),(),(),x6,IntKind.wrap .i64 (x7+(1:Int)),u46),((p0,p1,p2,()),h1++([((x0.getD x7.toNat ((0:Int),(bE,bE))).1,(((x0.getD x7.toNat ((0:Int),(bE,bE))).2).1,((x0.getD x7.toNat ((0:Int),(bE,bE))).2).2))]),()))) .fail) .fail) (.next ((x0,(),(),(),(),(),x6,IntKind.wrap .i64 (x7+(1:Int)),u46),((p0,p1,p2,()),h1,())))) .fail)) .fail) (.br (decide (0≤x7∧x7<((x0.length:Nat):Int))) (.br (!((((x0.getD x7.toNat ((0:Int),(bE,bE))).2).1).toList==p1.toList)) (.br (decide (0≤x7∧x7<((x0.length:Nat):Int))) (.br (decide ((h1.length+([((x0.getD x7.toNat ((0:Int),(bE,bE))).1,(((x0.getD x7.toNat ((0:Int),(bE,bE))).2).1,((x0.getD x7.toNat ((0:Int),(bE,bE))).2).2))]).length)*40≤MAXB)) (.next ((x0,(),(),(),(),(),x6,IntKind.wrap .i64 (x7+(1:Int)),u46),((p0,p1,p2,()),h1++([((x0.getD x7.toNat ((0:Int),(bE,bE))).1,(((x0.getD x7.toNat ((0:Int),(bE,bE))).2).1,((x0.getD x7.toNat ((0:Int),(bE,bE))).2).2))]),()))) .fail) .fail) (.next ((x0,(),(),(),(),(),x6,IntKind.wrap .i64 (x7+(1:Int)),u46),((p0,p1,p2,()),h1,())))) .fail)) (.done (.exit 0) E_sl7One_0_0 (((),(),(),(),(),(),x6,u47),((p0,p1,p2,()),h1,()))))
noncomputable abbrev V_sl7One_0:=(Lq1)×(Bool)×(Int)×(Lq1)
noncomputable abbrev A_sl7One_0:=Nat×(Bool)×(Lq1)
noncomputable def fl_sl7One_0:A_sl7One_0:=(99,(false:Bool),([]:Lq1))
noncomputable def ss_sl7One_0 (x0:Lq1) (x6:Bool) (x7:Int) (p0:Int) (p1:ByteArray) (p2:ByteArray) (h1:Lq1):V_sl7One_0 ⊕ A_sl7One_0:=(cond (decide (x7<((x0.length:Nat):Int))) (cond (!x6) (cond (decide (0≤x7∧x7<((x0.length:Nat):Int))) (cond (!(Op.bytesLess (((x0.getD x7.toNat ((0:Int),(bE,bE))).2).1).toList p1.toList)) (cond (decide ((h1.length+[(p0,(p1,p2))].length)*40≤MAXB)) (cond (decide (0≤x7∧x7<((x0.length:Nat):Int))) (cond (!((((x0.getD x7.toNat ((0:Int),(bE,bE))).2).1).toList==p1.toList)) (cond (decide (0≤x7∧x7<((x0.length:Nat):Int))) (cond (decide (((h1++[(p0,(p1,p2))]).length+([((x0.getD x7.toNat ((0:Int),(bE,bE))).1,(((x0.getD x7.toNat ((0:Int),(bE,bE))).2).1,((x0.getD x7.toNat ((0:Int),(bE,bE))).2).2))]).length)*40≤MAXB)) (.inl (x0,true,IntKind.wrap .i64 (x7+(1:Int)),(h1++[(p0,(p1,p2))])++([((x0.getD x7.toNat ((0:Int),(bE,bE))).1,(((x0.getD x7.toNat ((0:Int),(bE,bE))).2).1,((x0.getD x7.toNat ((0:Int),(bE,bE))).2).2))]))) (.inr fl_sl7One_0)) (.inr fl_sl7One_0)) (.inl (x0,true,IntKind.wrap .i64 (x7+(1:Int)),h1++[(p0,(p1,p2))]))) (.inr fl_sl7One_0)) (.inr fl_sl7One_0)) (cond (decide (0≤x7∧x7<((x0.length:Nat):Int))) (cond (!((((x0.getD x7.toNat ((0:Int),(bE,bE))).2).1).toList==p1.toList)) (cond (decide (0≤x7∧x7<((x0.length:Nat):Int))) (cond (decide ((h1.length+([((x0.getD x7.toNat ((0:Int),(bE,bE))).1,(((x0.getD x7.toNat ((0:Int),(bE,bE))).2).1,((x0.getD x7.toNat ((0:Int),(bE,bE))).2).2))]).length)*40≤MAXB)) (.inl (x0,x6,IntKind.wrap .i64 (x7+(1:Int)),h1++([((x0.getD x7.toNat ((0:Int),(bE,bE))).1,(((x0.getD x7.toNat ((0:Int),(bE,bE))).2).1,((x0.getD x7.toNat ((0:Int),(bE,bE))).2).2))]))) (.inr fl_sl7One_0)) (.inr fl_sl7One_0)) (.inl (x0,x6,IntKind.wrap .i64 (x7+(1:Int)),h1))) (.inr fl_sl7One_0))) (.inr fl_sl7One_0)) (cond (decide (0≤x7∧x7<((x0.length:Nat):Int))) (cond (!((((x0.getD x7.toNat ((0:Int),(bE,bE))).2).1).toList==p1.toList)) (cond (decide (0≤x7∧x7<((x0.length:Nat):Int))) (cond (decide ((h1.length+([((x0.getD x7.toNat ((0:Int),(bE,bE))).1,(((x0.getD x7.toNat ((0:Int),(bE,bE))).2).1,((x0.getD x7.toNat ((0:Int),(bE,bE))).2).2))]).length)*40≤MAXB)) (.inl (x0,x6,IntKind.wrap .i64 (x7+(1:Int)),h1++([((x0.getD x7.toNat ((0:Int),(bE,bE))).1,(((x0.getD x7.toNat ((0:Int),(bE,bE))).2).1,((x0.getD x7.toNat ((0:Int),(bE,bE))).2).2))]))) (.inr fl_sl7One_0)) (.inr fl_sl7One_0)) (.inl (x0,x6,IntKind.wrap .i64 (x7+(1:Int)),h1))) (.inr fl_sl7One_0))) (.inr (0,x6,h1)))
noncomputable def it_sl7One_0 (x0:Lq1) (x6:Bool) (x7:Int) (p0:Int) (p1:ByteArray) (p2:ByteArray) (h1:Lq1):A_sl7One_0:=itX (fun v:V_sl7One_0=>ss_sl7One_0 v.1 v.2.1 v.2.2.1 p0 p1 p2 v.2.2.2) fl_sl7One_0 (x0,x6,x7,h1)
noncomputable def ct_sl7One_0 (p0:Int) (p1:ByteArray) (p2:ByteArray) (a:A_sl7One_0):CT:=(.br (a.1==0) (.done (.exit 0) E_sl7One_0_0 (((),(),(),(),(),(),a.2.1,u47),((p0,p1,p2,()),a.2.2,()))) .fail)
noncomputable def T_sl7One_0 (x0:Lq1) (x6:Bool) (x7:Int) (p0:Int) (p1:ByteArray) (p2:ByteArray) (h1:Lq1):CT:=(ct_sl7One_0 p0 p1 p2) (it_sl7One_0 x0 x6 x7 p0 p1 p2 h1)
noncomputable abbrev ap_sl7One_0 {α:Sort _} (f:(Lq1)→Bool→Int→Int→ByteArray→ByteArray→(Lq1)→α) (d:S_sl7One_0.den):α:=f d.1.1 d.1.2.2.2.2.2.2.1 d.1.2.2.2.2.2.2.2.1 d.2.1.1 d.2.1.2.1 d.2.1.2.2.1 d.2.2.1
noncomputable abbrev sp_sl7One_0:S_sl7One_0.den→RT S_sl7One_0.den:=(ap_sl7One_0 st_sl7One_0)
noncomputable def body_sl7One_0:Code:=((loopsIn 0 (bodyOf Try.f156)).getD 0 (0,.skip)).2
noncomputable abbrev pv_sl7One_0 (p0:Int) (p1:ByteArray) (p2:ByteArray) (v:V_sl7One_0):S_sl7One_0.den:=((v.1,(),(),(),(),(),v.2.1,v.2.2.1,u46),((p0,p1,p2,()),v.2.2.2,()))
theorem rl_sl7One_0 (p0:Int) (p1:ByteArray) (p2:ByteArray):(∀ v:V_sl7One_0,(st_sl7One_0 v.1 v.2.1 v.2.2.1 p0 p1 p2 v.2.2.2).val=relS (pv_sl7One_0 p0 p1 p2) (ct_sl7One_0 p0 p1 p2) (ss_sl7One_0 v.1 v.2.1 v.2.2.1 p0 p1 p2 v.2.2.2))∧∀ a:A_sl7One_0,CEnd S_sl7One_0.den ((ct_sl7One_0 p0 p1 p2) a):=⟨fun v=>by repeat' first | apply relB | rfl,fun a=>(cendB (cendD (by simp)) cendF)⟩
noncomputable def ox_sl7One_0 (x0:Lq1) (x6:Bool) (x7:Int) (p0:Int) (p1:ByteArray) (p2:ByteArray) (h1:Lq1):Option (Ex×St):=(cond (decide (x7<((x0.length:Nat):Int))) (cond (!x6) (cond (decide (0≤x7∧x7<((x0.length:Nat):Int))) (cond (!(Op.bytesLess (((x0.getD x7.toNat ((0:Int),(bE,bE))).2).1).toList p1.toList)) (cond (decide ((h1.length+[(p0,(p1,p2))].length)*40≤MAXB)) (cond (decide (0≤x7∧x7<((x0.length:Nat):Int))) (cond (!((((x0.getD x7.toNat ((0:Int),(bE,bE))).2).1).toList==p1.toList)) (cond (decide (0≤x7∧x7<((x0.length:Nat):Int))) (cond (decide (((h1++[(p0,(p1,p2))]).length+([((x0.getD x7.toNat ((0:Int),(bE,bE))).1,(((x0.getD x7.toNat ((0:Int),(bE,bE))).2).1,((x0.getD x7.toNat ((0:Int),(bE,bE))).2).2))]).length)*40≤MAXB)) (some (.normal,(⟨((.t false tq3 x0)::.junk::.junk::(.ptr 0 0 1 0)::.junk::(.all 1 3)::(.t true .bool true)::(.t true (.int .i64) (IntKind.wrap .i64 (x7+(1:Int))))::jA45),[(.box [(.t true (.int .i64) p0),(.t true .str p1),(.t true .str p2)]),(.rows 124 true tq4 ((h1++[(p0,(p1,p2))])++([((x0.getD x7.toNat ((0:Int),(bE,bE))).1,(((x0.getD x7.toNat ((0:Int),(bE,bE))).2).1,((x0.getD x7.toNat ((0:Int),(bE,bE))).2).2))])))],0,[]⟩:St))) none) none) (some (.normal,(⟨((.t false tq3 x0)::.junk::.junk::(.ptr 0 0 1 0)::.junk::(.all 1 3)::(.t true .bool true)::(.t true (.int .i64) (IntKind.wrap .i64 (x7+(1:Int))))::jA45),[(.box [(.t true (.int .i64) p0),(.t true .str p1),(.t true .str p2)]),(.rows 124 true tq4 (h1++[(p0,(p1,p2))]))],0,[]⟩:St)))) none) none) (cond (decide (0≤x7∧x7<((x0.length:Nat):Int))) (cond (!((((x0.getD x7.toNat ((0:Int),(bE,bE))).2).1).toList==p1.toList)) (cond (decide (0≤x7∧x7<((x0.length:Nat):Int))) (cond (decide ((h1.length+([((x0.getD x7.toNat ((0:Int),(bE,bE))).1,(((x0.getD x7.toNat ((0:Int),(bE,bE))).2).1,((x0.getD x7.toNat ((0:Int),(bE,bE))).2).2))]).length)*40≤MAXB)) (some (.normal,(⟨((.t false tq3 x0)::.junk::.junk::(.ptr 0 0 1 0)::.junk::(.all 1 3)::(.t true .bool x6)::(.t true (.int .i64) (IntKind.wrap .i64 (x7+(1:Int))))::jA45),[(.box [(.t true (.int .i64) p0),(.t true .str p1),(.t true .str p2)]),(.rows 124 true tq4 (h1++([((x0.getD x7.toNat ((0:Int),(bE,bE))).1,(((x0.getD x7.toNat ((0:Int),(bE,bE))).2).1,((x0.getD x7.toNat ((0:Int),(bE,bE))).2).2))])))],0,[]⟩:St))) none) none) (some (.normal,(⟨((.t false tq3 x0)::.junk::.junk::(.ptr 0 0 1 0)::.junk::(.all 1 3)::(.t true .bool x6)::(.t true (.int .i64) (IntKind.wrap .i64 (x7+(1:Int))))::jA45),[(.box [(.t true (.int .i64) p0),(.t true .str p1),(.t true .str p2)]),(.rows 124 true tq4 h1)],0,[]⟩:St)))) none)) none) (cond (decide (0≤x7∧x7<((x0.length:Nat):Int))) (cond (!((((x0.getD x7.toNat ((0:Int),(bE,bE))).2).1).toList==p1.toList)) (cond (decide (0≤x7∧x7<((x0.length:Nat):Int))) (cond (decide ((h1.length+([((x0.getD x7.toNat ((0:Int),(bE,bE))).1,(((x0.getD x7.toNat ((0:Int),(bE,bE))).2).1,((x0.getD x7.toNat ((0:Int),(bE,bE))).2).2))]).length)*40≤MAXB)) (some (.normal,(⟨((.t false tq3 x0)::.junk::.junk::(.ptr 0 0 1 0)::.junk::(.all 1 3)::(.t true .bool x6)::(.t true (.int .i64) (IntKind.wrap .i64 (x7+(1:Int))))::jA45),[(.box [(.t true (.int .i64) p0),(.t true .str p1),(.t true .str p2)]),(.rows 124 true tq4 (h1++([((x0.getD x7.toNat ((0:Int),(bE,bE))).1,(((x0.getD x7.toNat ((0:Int),(bE,bE))).2).1,((x0.getD x7.toNat ((0:Int),(bE,bE))).2).2))])))],0,[]⟩:St))) none) none) (some (.normal,(⟨((.t false tq3 x0)::.junk::.junk::(.ptr 0 0 1 0)::.junk::(.all 1 3)::(.t true .bool x6)::(.t true (.int .i64) (IntKind.wrap .i64 (x7+(1:Int))))::jA45),[(.box [(.t true (.int .i64) p0),(.t true .str p1),(.t true .str p2)]),(.rows 124 true tq4 h1)],0,[]⟩:St)))) none)) (some ((.exit 0),(⟨(.junk::.junk::.junk::(.ptr 0 0 1 0)::.junk::(.all 1 3)::(.t true .bool x6)::jA46),[(.box [(.t true (.int .i64) p0),(.t true .str p1),(.t true .str p2)]),(.rows 124 true tq4 h1)],0,[]⟩:St))))
theorem rdA_sl7One_0:RdA G8 (fun _ _=>none) 0 body_sl7One_0 S_sl7One_0 0 [] (kepts [] [(0,[3,5,6])]) (ap_sl7One_0 ox_sl7One_0):=by
 intro d
 kernel_rfl
theorem rdB_sl7One_0:∀ d:S_sl7One_0.den,(ap_sl7One_0 ox_sl7One_0) d=(sp_sl7One_0 d).opt 0 []:=by
 intro d
 kernel_rfl
noncomputable abbrev say_sl7One_0:St→Option Tree:=S_sl7One_0.say 0 [] [] (ap_sl7One_0 T_sl7One_0)
theorem lw_sl7One_0:LoopWp Try.prog say_sl7One_0 body_sl7One_0:=SS.wp2 hlz [] sp_sl7One_0 rdA_sl7One_0 rdB_sl7One_0 _ (fun d=>Runs.ofI2 (step:=sp_sl7One_0) (pv_sl7One_0 d.2.1.1 d.2.1.2.1 d.2.1.2.2.1) (rl_sl7One_0 d.2.1.1 d.2.1.2.1 d.2.1.2.2.1) rfl (d.1.1,d.1.2.2.2.2.2.2.1,d.1.2.2.2.2.2.2.2.1,d.2.2.1))
noncomputable def sl7One (a0:Lq1) (a1:Int) (a2:ByteArray) (a3:ByteArray):Lq1:=(cond (!((it_sl7One_0 a0 false (0:Int) a1 a2 a3 ([]:Lq1)).2.1)) (((it_sl7One_0 a0 false (0:Int) a1 a2 a3 ([]:Lq1)).2.2)++[(a1,(a2,a3))]) ((it_sl7One_0 a0 false (0:Int) a1 a2 a3 ([]:Lq1)).2.2))
noncomputable abbrev e_sl7One (r:Lq1):AV×List AObj:=((.all 0 3),[(.rows 124 true tq4 r)])
noncomputable abbrev g_sl7One:pshsDen P_sl7One→AV×List AObj:=fun d=>e_sl7One (sl7One d.1 d.2.1.1 d.2.1.2.1 d.2.1.2.2.1)
noncomputable def q_sl7One (a0:Lq1) (a1:Int) (a2:ByteArray) (a3:ByteArray):Bool:=((it_sl7One_0 a0 false (0:Int) a1 a2 a3 ([]:Lq1)).1==0)&&(cond (!((it_sl7One_0 a0 false (0:Int) a1 a2 a3 ([]:Lq1)).2.1)) (decide ((((it_sl7One_0 a0 false (0:Int) a1 a2 a3 ([]:Lq1)).2.2).length+[(a1,(a2,a3))].length)*40≤MAXB)) true)
noncomputable abbrev pre_sl7One:pshsDen P_sl7One→Bool:=fun d=>q_sl7One d.1 d.2.1.1 d.2.1.2.1 d.2.1.2.2.1
noncomputable abbrev L_sl7One:Nat→St→Option Tree:=fun b=>match b with | 0=>say_sl7One_0 | _=>fun _=>none
theorem run_sl7One:RunP false G8 (L_sl7One) Try.f156 P_sl7One pre_sl7One g_sl7One:=by
 rintro ⟨a0,⟨⟨a1,⟨a2,⟨a3,_⟩⟩⟩,_⟩⟩ hp
 change q_sl7One a0 a1 a2 a3=true at hp
 unfold q_sl7One at hp
 refine Eq.trans (b:=(cond ((it_sl7One_0 a0 false (0:Int) a1 a2 a3 ([]:Lq1)).1==0) (cond (!((it_sl7One_0 a0 false (0:Int) a1 a2 a3 ([]:Lq1)).2.1)) (cond (decide ((((it_sl7One_0 a0 false (0:Int) a1 a2 a3 ([]:Lq1)).2.2).length+[(a1,(a2,a3))].length)*40≤MAXB)) (some (e_sl7One (((it_sl7One_0 a0 false (0:Int) a1 a2 a3 ([]:Lq1)).2.2)++[(a1,(a2,a3))]))) none) (some (e_sl7One ((it_sl7One_0 a0 false (0:Int) a1 a2 a3 ([]:Lq1)).2.2)))) none)) (by kernel_rfl) ?_
 exact (cndA hp fun hp=>(cndE e_sl7One hp (fun hp=>(cndT hp fun _h=>rfl)) (fun hp=>rfl)))
theorem c_sl7One:PContract Try.prog 156 (sumOf P_sl7One pre_sl7One g_sl7One):=pcD false G8 (hl1 (i:=0) (by kernel_rfl) lw_sl7One_0) run_sl7One
noncomputable def S9:Tab:=Tab.add S8 156 (lift (sumOf P_sl7One pre_sl7One g_sl7One))
noncomputable def QF9:FuncId→Bool:=QF8
theorem G9:Good Try.prog tt S9 QF9:=G8.add c_sl7One (cbl Try.f156) (by kernel_rfl)

noncomputable abbrev jS13:List Sh:=.junk::.junk::.junk::.junk::.junk::.junk::.junk::.junk::.junk::.junk::.junk::.junk::.junk::[]
noncomputable abbrev jS14:List Sh:=.junk::jS13
noncomputable abbrev u14:=((),(),(),(),(),(),(),(),(),(),(),(),(),())
noncomputable abbrev u19:=((),(),(),(),(),u14)
noncomputable abbrev SM_sl7Draw:SS:=⟨[.ptr 0 0 1 0],[.box [.t false t_sy,.t true (.int .i64),.t true (.int .i64)]]⟩
noncomputable abbrev S_sl7Draw_0:SS:=⟨(.ptr 0 0 1 0::.junk::.junk::.all 1 3::.t true (.int .i64)::jS13),[.box [.t false t_sy,.t true (.int .i64),.t true (.int .i64)],.rows 124 true tq4]⟩
noncomputable abbrev E_sl7Draw_0_0:SS:=⟨(.junk::.junk::.junk::.all 1 3::jS14),[.box [.t false t_sy,.t true (.int .i64),.t true (.int .i64)],.rows 124 true tq4]⟩
noncomputable def k1_sl7Draw (p0:List Int) (p1:Int) (p2:Int) (h1:Lq1):=sl7One h1 ((sl7Op1 p0 p1 p2).1) ((sl7Op1 p0 p1 p2).2.1) ((sl7Op1 p0 p1 p2).2.2.1)
noncomputable def st_sl7Draw_0 (x4:Int) (p0:List Int) (p1:Int) (p2:Int) (h1:Lq1):RT S_sl7Draw_0.den:=(.br (decide (x4 > (0:Int))) (.br (q_sl7Op1 p0 p1 p2) (.br (q_sl7One h1 ((sl7Op1 p0 p1 p2).1) ((sl7Op1 p0 p1 p2).2.1) ((sl7Op1 p0 p1 p2).2.2.1)) (.next (((),(),(),(),IntKind.wrap .i64 (x4 - (1:Int)),u14),((((sl7Op1 p0 p1 p2).2.2.2.1),((sl7Op1 p0 p1 p2).2.2.2.2.1),((sl7Op1 p0 p1 p2).2.2.2.2.2.1),()),(k1_sl7Draw p0 p1 p2 h1),()))) .fail) .fail) (.done (.exit 0) E_sl7Draw_0_0 ((u19),((p0,p1,p2,()),h1,()))))
noncomputable abbrev V_sl7Draw_0:=(Int)×(List Int)×(Int)×(Int)×(Lq1)
noncomputable abbrev A_sl7Draw_0:=Nat×(List Int)×(Int)×(Int)×(Lq1)
noncomputable def fl_sl7Draw_0:A_sl7Draw_0:=(99,([]:List Int),((0:Int):Int),((0:Int):Int),([]:Lq1))
noncomputable def ss_sl7Draw_0 (x4:Int) (p0:List Int) (p1:Int) (p2:Int) (h1:Lq1):V_sl7Draw_0 ⊕ A_sl7Draw_0:=(cond (decide (x4 > (0:Int))) (cond (q_sl7Op1 p0 p1 p2) (cond (q_sl7One h1 ((sl7Op1 p0 p1 p2).1) ((sl7Op1 p0 p1 p2).2.1) ((sl7Op1 p0 p1 p2).2.2.1)) (.inl (IntKind.wrap .i64 (x4 - (1:Int)),((sl7Op1 p0 p1 p2).2.2.2.1),((sl7Op1 p0 p1 p2).2.2.2.2.1),((sl7Op1 p0 p1 p2).2.2.2.2.2.1),(k1_sl7Draw p0 p1 p2 h1))) (.inr fl_sl7Draw_0)) (.inr fl_sl7Draw_0)) (.inr (0,p0,p1,p2,h1)))
noncomputable def it_sl7Draw_0 (x4:Int) (p0:List Int) (p1:Int) (p2:Int) (h1:Lq1):A_sl7Draw_0:=itX (fun v:V_sl7Draw_0=>ss_sl7Draw_0 v.1 v.2.1 v.2.2.1 v.2.2.2.1 v.2.2.2.2) fl_sl7Draw_0 (x4,p0,p1,p2,h1)
noncomputable def ct_sl7Draw_0 (a:A_sl7Draw_0):CT:=(.br (a.1==0) (.done (.exit 0) E_sl7Draw_0_0 ((u19),((a.2.1,a.2.2.1,a.2.2.2.1,()),a.2.2.2.2,()))) .fail)
noncomputable def T_sl7Draw_0 (x4:Int) (p0:List Int) (p1:Int) (p2:Int) (h1:Lq1):CT:=ct_sl7Draw_0 (it_sl7Draw_0 x4 p0 p1 p2 h1)
noncomputable abbrev ap_sl7Draw_0 {α:Sort _} (f:Int→(List Int)→Int→Int→(Lq1)→α) (d:S_sl7Draw_0.den):α:=f d.1.2.2.2.2.1 d.2.1.1 d.2.1.2.1 d.2.1.2.2.1 d.2.2.1
noncomputable abbrev sp_sl7Draw_0:S_sl7Draw_0.den→RT S_sl7Draw_0.den:=(ap_sl7Draw_0 st_sl7Draw_0)
noncomputable def body_sl7Draw_0:Code:=((loopsIn 0 (bodyOf Try.f122)).getD 0 (0,.skip)).2
noncomputable abbrev pv_sl7Draw_0 (v:V_sl7Draw_0):S_sl7Draw_0.den:=(((),(),(),(),v.1,u14),((v.2.1,v.2.2.1,v.2.2.2.1,()),v.2.2.2.2,()))
theorem rl_sl7Draw_0:(∀ v:V_sl7Draw_0,(st_sl7Draw_0 v.1 v.2.1 v.2.2.1 v.2.2.2.1 v.2.2.2.2).val=relS pv_sl7Draw_0 ct_sl7Draw_0 (ss_sl7Draw_0 v.1 v.2.1 v.2.2.1 v.2.2.2.1 v.2.2.2.2))∧∀ a:A_sl7Draw_0,CEnd S_sl7Draw_0.den (ct_sl7Draw_0 a):=⟨fun v=>(relB (relB (relB rfl rfl) rfl) rfl),fun a=>(cendB (cendD (by simp)) cendF)⟩
theorem rdA_sl7Draw_0:RdA G9 (fun _ _=>none) 0 body_sl7Draw_0 S_sl7Draw_0 1 [] (kepts [] [(0,[3])]) (fun d=>(sp_sl7Draw_0 d).opt 1 []):=by
 intro d
 kernel_rfl
noncomputable abbrev say_sl7Draw_0:St→Option Tree:=S_sl7Draw_0.say 1 [] [] (ap_sl7Draw_0 T_sl7Draw_0)
theorem lw_sl7Draw_0:LoopWp Try.prog say_sl7Draw_0 body_sl7Draw_0:=SS.wp2 hlz [] sp_sl7Draw_0 rdA_sl7Draw_0 (fun d=>rfl) _ (fun d=>Runs.ofI2 (step:=sp_sl7Draw_0) pv_sl7Draw_0 rl_sl7Draw_0 rfl (d.1.2.2.2.2.1,d.2.1.1,d.2.1.2.1,d.2.1.2.2.1,d.2.2.1))
noncomputable def k2_sl7Draw (p0:List Int) (p1:Int) (p2:Int):=it_sl7Draw_0 (IntKind.wrap .i64 ((1:Int)+((sl1Below (4:Int) p0 p1 p2).1))) ((sl1Below (4:Int) p0 p1 p2).2.1) ((sl1Below (4:Int) p0 p1 p2).2.2.1) ((sl1Below (4:Int) p0 p1 p2).2.2.2) ([]:Lq1)
noncomputable def sl7Draw (p0:List Int) (p1:Int) (p2:Int):(List Int)×Int×Int×Lq1:=(((k2_sl7Draw p0 p1 p2).2.1),((k2_sl7Draw p0 p1 p2).2.2.1),((k2_sl7Draw p0 p1 p2).2.2.2.1),((k2_sl7Draw p0 p1 p2).2.2.2.2))
noncomputable abbrev e_sl7Draw (r:(List Int)×Int×Int×Lq1):AV×List AObj×List Nat:=((.all 1 3),[(.box [(.t false t_sy r.1),(.t true (.int .i64) r.2.1),(.t true (.int .i64) r.2.2.1)]),(.rows 124 true tq4 r.2.2.2)],[])
noncomputable abbrev g_sl7Draw:SM_sl7Draw.den→AV×List AObj×List Nat:=fun d=>e_sl7Draw (sl7Draw d.2.1.1 d.2.1.2.1 d.2.1.2.2.1)
noncomputable def q_sl7Draw (p0:List Int) (p1:Int) (p2:Int):Bool:=(q_sl1Below (4:Int) p0 p1 p2)&&((k2_sl7Draw p0 p1 p2).1==0)
noncomputable abbrev pre_sl7Draw:SM_sl7Draw.den→Bool:=fun d=>q_sl7Draw d.2.1.1 d.2.1.2.1 d.2.1.2.2.1
noncomputable abbrev L_sl7Draw:Nat→St→Option Tree:=fun b=>match b with | 0=>say_sl7Draw_0 | _=>fun _=>none
theorem run_sl7Draw:RunM G9 (L_sl7Draw) Try.f122 SM_sl7Draw pre_sl7Draw g_sl7Draw:=by
 rintro ⟨⟨_,_⟩,⟨⟨p0,p1,p2,_⟩,_⟩⟩ hp
 change q_sl7Draw p0 p1 p2=true at hp
 unfold q_sl7Draw at hp
 refine Eq.trans (b:=(cond (q_sl1Below (4:Int) p0 p1 p2) (cond ((k2_sl7Draw p0 p1 p2).1==0) (some (e_sl7Draw (((k2_sl7Draw p0 p1 p2).2.1),((k2_sl7Draw p0 p1 p2).2.2.1),((k2_sl7Draw p0 p1 p2).2.2.2.1),((k2_sl7Draw p0 p1 p2).2.2.2.2)))) none) none)) (by kernel_rfl) ?_
 exact (cndA hp fun hp=>(cndT hp fun _h=>rfl))
noncomputable abbrev m_sl7Draw:=win winIds (msum SM_sl7Draw pre_sl7Draw g_sl7Draw)
theorem c_sl7Draw:MContract Try.prog 122 m_sl7Draw:=(mcM G9 (hl1 (i:=0) (by kernel_rfl) lw_sl7Draw_0) run_sl7Draw).win winIds
noncomputable def S10:Tab:=Tab.add S9 122 (m_sl7Draw)
noncomputable def QF10:FuncId→Bool:=QF9
theorem G10:Good Try.prog tt S10 QF10:=G9.addM c_sl7Draw (win_local _) (cbl Try.f122) (by kernel_rfl)

noncomputable abbrev SM_sl8Rec:SS:=⟨[.ptr 0 0 1 0],[.box [.t false t_sy,.t true (.int .i64),.t true (.int .i64)]]⟩
noncomputable def k1_sl8Rec (p0:List Int) (p1:Int) (p2:Int):=sl1Below (4:Int) ((sl1Int p0 p1 p2 [(1:Int),(1:Int),(2:Int),(3:Int)]).2.1) ((sl1Int p0 p1 p2 [(1:Int),(1:Int),(2:Int),(3:Int)]).2.2.1) ((sl1Int p0 p1 p2 [(1:Int),(1:Int),(2:Int),(3:Int)]).2.2.2.1)
noncomputable def k2_sl8Rec (p0:List Int) (p1:Int) (p2:Int):=sl7Draw ((k1_sl8Rec p0 p1 p2).2.1) ((k1_sl8Rec p0 p1 p2).2.2.1) ((k1_sl8Rec p0 p1 p2).2.2.2)
noncomputable def sl8Rec (p0:List Int) (p1:Int) (p2:Int):Int×Int×(Lq1)×(List Int)×Int×Int:=(cond (((sl1Int p0 p1 p2 [(1:Int),(1:Int),(2:Int),(3:Int)]).1)==(1:Int)) (((sl1Int p0 p1 p2 [(1:Int),(1:Int),(2:Int),(3:Int)]).1),IntKind.wrap .i64 ((1:Int)+((k1_sl8Rec p0 p1 p2).1)),((k2_sl8Rec p0 p1 p2).2.2.2),((k2_sl8Rec p0 p1 p2).1),((k2_sl8Rec p0 p1 p2).2.1),((k2_sl8Rec p0 p1 p2).2.2.1)) (((sl1Int p0 p1 p2 [(1:Int),(1:Int),(2:Int),(3:Int)]).1),IntKind.wrap .i64 ((1:Int)+((k1_sl8Rec p0 p1 p2).1)),[],((k1_sl8Rec p0 p1 p2).2.1),((k1_sl8Rec p0 p1 p2).2.2.1),((k1_sl8Rec p0 p1 p2).2.2.2)))
noncomputable abbrev e_sl8Rec (r:Int×Int×(Lq1)×(List Int)×Int×Int):AV×List AObj×List Nat:=((.agg [(.t true (.int .i64) r.1),(.t true (.int .i64) r.2.1),(.t true tq3 r.2.2.1)]),[(.box [(.t false t_sy r.2.2.2.1),(.t true (.int .i64) r.2.2.2.2.1),(.t true (.int .i64) r.2.2.2.2.2)])],[])
noncomputable abbrev g_sl8Rec:SM_sl8Rec.den→AV×List AObj×List Nat:=fun d=>e_sl8Rec (sl8Rec d.2.1.1 d.2.1.2.1 d.2.1.2.2.1)
noncomputable def q_sl8Rec (p0:List Int) (p1:Int) (p2:Int):Bool:=(q_sl1Int p0 p1 p2 [(1:Int),(1:Int),(2:Int),(3:Int)])&&((q_sl1Below (4:Int) ((sl1Int p0 p1 p2 [(1:Int),(1:Int),(2:Int),(3:Int)]).2.1) ((sl1Int p0 p1 p2 [(1:Int),(1:Int),(2:Int),(3:Int)]).2.2.1) ((sl1Int p0 p1 p2 [(1:Int),(1:Int),(2:Int),(3:Int)]).2.2.2.1))&&(cond (((sl1Int p0 p1 p2 [(1:Int),(1:Int),(2:Int),(3:Int)]).1)==(1:Int)) (q_sl7Draw ((k1_sl8Rec p0 p1 p2).2.1) ((k1_sl8Rec p0 p1 p2).2.2.1) ((k1_sl8Rec p0 p1 p2).2.2.2)) true))
noncomputable abbrev pre_sl8Rec:SM_sl8Rec.den→Bool:=fun d=>q_sl8Rec d.2.1.1 d.2.1.2.1 d.2.1.2.2.1
theorem run_sl8Rec:RunMRD [] G10 (fun _ _=>none) Try.f82 SM_sl8Rec pre_sl8Rec g_sl8Rec:=by
 rintro ⟨⟨_,_⟩,⟨⟨p0,p1,p2,_⟩,_⟩⟩ hp
 change q_sl8Rec p0 p1 p2=true at hp
 unfold q_sl8Rec at hp
 refine Eq.trans (b:=(cond (q_sl1Int p0 p1 p2 [(1:Int),(1:Int),(2:Int),(3:Int)]) (cond (q_sl1Below (4:Int) ((sl1Int p0 p1 p2 [(1:Int),(1:Int),(2:Int),(3:Int)]).2.1) ((sl1Int p0 p1 p2 [(1:Int),(1:Int),(2:Int),(3:Int)]).2.2.1) ((sl1Int p0 p1 p2 [(1:Int),(1:Int),(2:Int),(3:Int)]).2.2.2.1)) (cond (((sl1Int p0 p1 p2 [(1:Int),(1:Int),(2:Int),(3:Int)]).1)==(1:Int)) (cond (q_sl7Draw ((k1_sl8Rec p0 p1 p2).2.1) ((k1_sl8Rec p0 p1 p2).2.2.1) ((k1_sl8Rec p0 p1 p2).2.2.2)) (some (e_sl8Rec (((sl1Int p0 p1 p2 [(1:Int),(1:Int),(2:Int),(3:Int)]).1),IntKind.wrap .i64 ((1:Int)+((k1_sl8Rec p0 p1 p2).1)),((k2_sl8Rec p0 p1 p2).2.2.2),((k2_sl8Rec p0 p1 p2).1),((k2_sl8Rec p0 p1 p2).2.1),((k2_sl8Rec p0 p1 p2).2.2.1)))) none) (some (e_sl8Rec (((sl1Int p0 p1 p2 [(1:Int),(1:Int),(2:Int),(3:Int)]).1),IntKind.wrap .i64 ((1:Int)+((k1_sl8Rec p0 p1 p2).1)),[],((k1_sl8Rec p0 p1 p2).2.1),((k1_sl8Rec p0 p1 p2).2.2.1),((k1_sl8Rec p0 p1 p2).2.2.2))))) none) none)) (by kernel_rfl) ?_
 exact (cndA hp fun hp=>(cndA hp fun hp=>(cndE e_sl8Rec hp (fun hp=>(cndT hp fun _h=>rfl)) (fun hp=>rfl))))
noncomputable abbrev m_sl8Rec:=win winIds (msum SM_sl8Rec pre_sl8Rec g_sl8Rec)
theorem c_sl8Rec:MContract Try.prog 82 m_sl8Rec:=(mcRD []  G10 hlz run_sl8Rec).win winIds
noncomputable def S11:Tab:=Tab.add S10 82 (m_sl8Rec)
noncomputable def QF11:FuncId→Bool:=QF10
theorem G11:Good Try.prog tt S11 QF11:=G10.addM c_sl8Rec (win_local _) (cbl Try.f82) (by kernel_rfl)

noncomputable abbrev jS15:List Sh:=.junk::jS14
noncomputable abbrev jS16:List Sh:=.junk::jS15
noncomputable abbrev u16:=((),(),u14)
noncomputable abbrev u22:=((),(),(),u19)
noncomputable abbrev Lq2:=List (Int×Int×List (Int×ByteArray×ByteArray))
noncomputable abbrev tq5:Ty:=.sl (.pair (.int .i64) (.pair (.int .i64) (.sl (.pair (.int .i64) (.pair .str .str)))))
noncomputable abbrev P_sDrawRecs:List PSh:=[.t t_sy]
noncomputable abbrev S_sDrawRecs_0:SS:=⟨(.junk::.junk::.junk::.ptr 0 0 1 0::.all 1 3::.t true (.int .i64)::jS15),[.box [.t false t_sy,.t true (.int .i64),.t true (.int .i64)],.rows 30 true tq6]⟩
noncomputable abbrev E_sDrawRecs_0_0:SS:=⟨(.junk::.junk::.junk::.junk::.all 0 3::jS16),[.rows 30 true tq6]⟩
noncomputable def st_sDrawRecs_0 (x5:Int) (p0:List Int) (p1:Int) (p2:Int) (h1:Lq2):RT S_sDrawRecs_0.den:=(.br (decide (x5 > (0:Int))) (.br (q_sl8Rec p0 p1 p2) (.br (decide ((h1.length+[(((sl8Rec p0 p1 p2).1),(((sl8Rec p0 p1 p2).2.1),((sl8Rec p0 p1 p2).2.2.1)))].length)*40≤MAXB)) (.next (((),(),(),(),(),IntKind.wrap .i64 (x5 - (1:Int)),u16),((((sl8Rec p0 p1 p2).2.2.2.1),((sl8Rec p0 p1 p2).2.2.2.2.1),((sl8Rec p0 p1 p2).2.2.2.2.2),()),h1++[(((sl8Rec p0 p1 p2).1),(((sl8Rec p0 p1 p2).2.1),((sl8Rec p0 p1 p2).2.2.1)))],()))) .fail) .fail) (.done (.exit 0) E_sDrawRecs_0_0 ((u22),(h1,()))))
noncomputable abbrev V_sDrawRecs_0:=(Int)×(List Int)×(Int)×(Int)×(Lq2)
noncomputable abbrev A_sDrawRecs_0:=Nat×(Lq2)
noncomputable def fl_sDrawRecs_0:A_sDrawRecs_0:=(99,([]:Lq2))
noncomputable def ss_sDrawRecs_0 (x5:Int) (p0:List Int) (p1:Int) (p2:Int) (h1:Lq2):V_sDrawRecs_0 ⊕ A_sDrawRecs_0:=(cond (decide (x5 > (0:Int))) (cond (q_sl8Rec p0 p1 p2) (cond (decide ((h1.length+[(((sl8Rec p0 p1 p2).1),(((sl8Rec p0 p1 p2).2.1),((sl8Rec p0 p1 p2).2.2.1)))].length)*40≤MAXB)) (.inl (IntKind.wrap .i64 (x5 - (1:Int)),((sl8Rec p0 p1 p2).2.2.2.1),((sl8Rec p0 p1 p2).2.2.2.2.1),((sl8Rec p0 p1 p2).2.2.2.2.2),h1++[(((sl8Rec p0 p1 p2).1),(((sl8Rec p0 p1 p2).2.1),((sl8Rec p0 p1 p2).2.2.1)))])) (.inr fl_sDrawRecs_0)) (.inr fl_sDrawRecs_0)) (.inr (0,h1)))
noncomputable def it_sDrawRecs_0 (x5:Int) (p0:List Int) (p1:Int) (p2:Int) (h1:Lq2):A_sDrawRecs_0:=itX (fun v:V_sDrawRecs_0=>ss_sDrawRecs_0 v.1 v.2.1 v.2.2.1 v.2.2.2.1 v.2.2.2.2) fl_sDrawRecs_0 (x5,p0,p1,p2,h1)
noncomputable def ct_sDrawRecs_0 (a:A_sDrawRecs_0):CT:=(.br (a.1==0) (.done (.exit 0) E_sDrawRecs_0_0 ((u22),(a.2,()))) .fail)
noncomputable def T_sDrawRecs_0 (x5:Int) (p0:List Int) (p1:Int) (p2:Int) (h1:Lq2):CT:=ct_sDrawRecs_0 (it_sDrawRecs_0 x5 p0 p1 p2 h1)
noncomputable abbrev ap_sDrawRecs_0 {α:Sort _} (f:Int→(List Int)→Int→Int→(Lq2)→α) (d:S_sDrawRecs_0.den):α:=f d.1.2.2.2.2.2.1 d.2.1.1 d.2.1.2.1 d.2.1.2.2.1 d.2.2.1
noncomputable abbrev sp_sDrawRecs_0:S_sDrawRecs_0.den→RT S_sDrawRecs_0.den:=(ap_sDrawRecs_0 st_sDrawRecs_0)
noncomputable def body_sDrawRecs_0:Code:=((loopsIn 0 (bodyOf Try.f31)).getD 0 (0,.skip)).2
noncomputable abbrev pv_sDrawRecs_0 (v:V_sDrawRecs_0):S_sDrawRecs_0.den:=(((),(),(),(),(),v.1,u16),((v.2.1,v.2.2.1,v.2.2.2.1,()),v.2.2.2.2,()))
theorem rl_sDrawRecs_0:(∀ v:V_sDrawRecs_0,(st_sDrawRecs_0 v.1 v.2.1 v.2.2.1 v.2.2.2.1 v.2.2.2.2).val=relS pv_sDrawRecs_0 ct_sDrawRecs_0 (ss_sDrawRecs_0 v.1 v.2.1 v.2.2.1 v.2.2.2.1 v.2.2.2.2))∧∀ a:A_sDrawRecs_0,CEnd S_sDrawRecs_0.den (ct_sDrawRecs_0 a):=⟨fun v=>(relB (relB (relB rfl rfl) rfl) rfl),fun a=>(cendB (cendD (by simp)) cendF)⟩
theorem rdA_sDrawRecs_0:RdA G11 (fun _ _=>none) 0 body_sDrawRecs_0 S_sDrawRecs_0 0 [] (kepts [] [(0,[4])]) (fun d=>(sp_sDrawRecs_0 d).opt 0 []):=by
 intro d
 kernel_rfl
noncomputable abbrev say_sDrawRecs_0:St→Option Tree:=S_sDrawRecs_0.say 0 [] [] (ap_sDrawRecs_0 T_sDrawRecs_0)
theorem lw_sDrawRecs_0:LoopWp Try.prog say_sDrawRecs_0 body_sDrawRecs_0:=SS.wp2 hlz [] sp_sDrawRecs_0 rdA_sDrawRecs_0 (fun d=>rfl) _ (fun d=>Runs.ofI2 (step:=sp_sDrawRecs_0) pv_sDrawRecs_0 rl_sDrawRecs_0 rfl (d.1.2.2.2.2.2.1,d.2.1.1,d.2.1.2.1,d.2.1.2.2.1,d.2.2.1))
noncomputable def k1_sDrawRecs (a0:List Int):=it_sDrawRecs_0 ((sl1Below (6:Int) ((sl1New a0).1) ((sl1New a0).2.1) ((sl1New a0).2.2)).1) ((sl1Below (6:Int) ((sl1New a0).1) ((sl1New a0).2.1) ((sl1New a0).2.2)).2.1) ((sl1Below (6:Int) ((sl1New a0).1) ((sl1New a0).2.1) ((sl1New a0).2.2)).2.2.1) ((sl1Below (6:Int) ((sl1New a0).1) ((sl1New a0).2.1) ((sl1New a0).2.2)).2.2.2) ([]:Lq2)
noncomputable def sDrawRecs (a0:List Int):Lq2:=((k1_sDrawRecs a0).2)
noncomputable abbrev e_sDrawRecs (r:Lq2):AV×List AObj:=((.t true tq5 r),[])
noncomputable abbrev g_sDrawRecs:pshsDen P_sDrawRecs→AV×List AObj:=fun d=>e_sDrawRecs (sDrawRecs d.1)
noncomputable def q_sDrawRecs (a0:List Int):Bool:=(q_sl1New a0)&&((q_sl1Below (6:Int) ((sl1New a0).1) ((sl1New a0).2.1) ((sl1New a0).2.2))&&((k1_sDrawRecs a0).1==0))
noncomputable abbrev pre_sDrawRecs:pshsDen P_sDrawRecs→Bool:=fun d=>q_sDrawRecs d.1
noncomputable abbrev L_sDrawRecs:Nat→St→Option Tree:=fun b=>match b with | 0=>say_sDrawRecs_0 | _=>fun _=>none
theorem run_sDrawRecs:RunP true G11 (L_sDrawRecs) Try.f31 P_sDrawRecs pre_sDrawRecs g_sDrawRecs:=by
 rintro ⟨a0,_⟩ hp
 change q_sDrawRecs a0=true at hp
 unfold q_sDrawRecs at hp
 refine Eq.trans (b:=(cond (q_sl1New a0) (cond (q_sl1Below (6:Int) ((sl1New a0).1) ((sl1New a0).2.1) ((sl1New a0).2.2)) (cond ((k1_sDrawRecs a0).1==0) (some (e_sDrawRecs ((k1_sDrawRecs a0).2))) none) none) none)) (by kernel_rfl) ?_
 exact (cndA hp fun hp=>(cndA hp fun hp=>(cndT hp fun _h=>rfl)))
theorem c_sDrawRecs:PContract Try.prog 31 (sumOf P_sDrawRecs pre_sDrawRecs g_sDrawRecs):=pcD true G11 (hl1 (i:=0) (by kernel_rfl) lw_sDrawRecs_0) run_sDrawRecs
noncomputable def S12:Tab:=Tab.add S11 31 (lift (sumOf P_sDrawRecs pre_sDrawRecs g_sDrawRecs))
noncomputable def QF12:FuncId→Bool:=qadd QF11 31
theorem G12:Good Try.prog tt S12 QF12:=G11.addQ c_sDrawRecs (cbl Try.f31) (fun _=>rfl)

noncomputable abbrev P_iinRange:List PSh:=[.t (.int .i64),.t (.int .i64),.t (.int .i64)]
noncomputable def iinRange (a0:Int) (a1:Int) (a2:Int):Bool:=(cond (decide (a0 ≥ a1)) (decide (a0≤a2)) false)
noncomputable abbrev e_iinRange (r:Bool):AV×List AObj:=((.t true .bool r),[])
noncomputable abbrev g_iinRange:pshsDen P_iinRange→AV×List AObj:=fun d=>e_iinRange (iinRange d.1 d.2.1 d.2.2.1)
noncomputable abbrev pre_iinRange:pshsDen P_iinRange→Bool:=fun d=>true
theorem run_iinRange:RunP true G12 (fun _ _=>none) Try.f101 P_iinRange pre_iinRange g_iinRange:=by
 rintro ⟨a0,⟨a1,⟨a2,_⟩⟩⟩ hp
 refine Eq.trans (b:=(cond (decide (a0 ≥ a1)) (some (e_iinRange (decide (a0≤a2)))) (some (e_iinRange false)))) (by kernel_rfl) ?_
 exact (cndG e_iinRange (fun _h=>rfl) (fun _h=>rfl))
theorem c_iinRange:PContract Try.prog 101 (sumOf P_iinRange pre_iinRange g_iinRange):=pcD true G12 hlz run_iinRange
noncomputable def S13:Tab:=Tab.add S12 101 (lift (sumOf P_iinRange pre_iinRange g_iinRange))
noncomputable def QF13:FuncId→Bool:=qadd QF12 101
theorem G13:Good Try.prog tt S13 QF13:=G12.addQ c_iinRange (cbl Try.f101) (fun _=>rfl)

noncomputable abbrev P_iisTx:List PSh:=[.t (.int .i64)]
noncomputable def iisTx (a0:Int):Bool:=(iinRange a0 (1:Int) (1000000:Int))
noncomputable abbrev e_iisTx (r:Bool):AV×List AObj:=((.t true .bool r),[])
noncomputable abbrev g_iisTx:pshsDen P_iisTx→AV×List AObj:=fun d=>e_iisTx (iisTx d.1)
noncomputable abbrev pre_iisTx:pshsDen P_iisTx→Bool:=fun d=>true
theorem run_iisTx:RunP true G13 (fun _ _=>none) Try.f74 P_iisTx pre_iisTx g_iisTx:=by
 rintro ⟨a0,_⟩ hp
 kernel_rfl
theorem c_iisTx:PContract Try.prog 74 (sumOf P_iisTx pre_iisTx g_iisTx):=pcD true G13 hlz run_iisTx
noncomputable def S14:Tab:=Tab.add S13 74 (lift (sumOf P_iisTx pre_iisTx g_iisTx))
noncomputable def QF14:FuncId→Bool:=qadd QF13 74
theorem G14:Good Try.prog tt S14 QF14:=G13.addQ c_iisTx (cbl Try.f74) (fun _=>rfl)

noncomputable abbrev P_iisKeyByte:List PSh:=[.t (.int .u8)]
noncomputable def iisKeyByte (a0:Int):Bool:=(cond (decide (a0 ≥ (97:Int))) (cond (decide (a0≤(122:Int))) true (cond (decide (a0 ≥ (48:Int))) (decide (a0≤(57:Int))) false)) (cond (decide (a0 ≥ (48:Int))) (decide (a0≤(57:Int))) false))
noncomputable abbrev e_iisKeyByte (r:Bool):AV×List AObj:=((.t true .bool r),[])
noncomputable abbrev g_iisKeyByte:pshsDen P_iisKeyByte→AV×List AObj:=fun d=>e_iisKeyByte (iisKeyByte d.1)
noncomputable abbrev pre_iisKeyByte:pshsDen P_iisKeyByte→Bool:=fun d=>true
theorem run_iisKeyByte:RunP true G14 (fun _ _=>none) Try.f178 P_iisKeyByte pre_iisKeyByte g_iisKeyByte:=by
 rintro ⟨a0,_⟩ hp
 refine Eq.trans (b:=(cond (decide (a0 ≥ (97:Int))) (cond (decide (a0≤(122:Int))) (some (e_iisKeyByte true)) (cond (decide (a0 ≥ (48:Int))) (some (e_iisKeyByte (decide (a0≤(57:Int))))) (some (e_iisKeyByte false)))) (cond (decide (a0 ≥ (48:Int))) (some (e_iisKeyByte (decide (a0≤(57:Int))))) (some (e_iisKeyByte false))))) (by kernel_rfl) ?_
 exact (cndG e_iisKeyByte (fun _h=>(cndG e_iisKeyByte (fun _h=>rfl) (fun _h=>(cndG e_iisKeyByte (fun _h=>rfl) (fun _h=>rfl))))) (fun _h=>(cndG e_iisKeyByte (fun _h=>rfl) (fun _h=>rfl))))
theorem c_iisKeyByte:PContract Try.prog 178 (sumOf P_iisKeyByte pre_iisKeyByte g_iisKeyByte):=pcD true G14 hlz run_iisKeyByte
noncomputable def S15:Tab:=Tab.add S14 178 (lift (sumOf P_iisKeyByte pre_iisKeyByte g_iisKeyByte))
noncomputable def QF15:FuncId→Bool:=qadd QF14 178
theorem G15:Good Try.prog tt S15 QF15:=G14.addQ c_iisKeyByte (cbl Try.f178) (fun _=>rfl)

noncomputable abbrev jS11:List Sh:=.junk::.junk::.junk::.junk::.junk::.junk::.junk::.junk::.junk::.junk::.junk::[]
noncomputable abbrev jS12:List Sh:=.junk::jS11
noncomputable abbrev u13:=((),(),(),(),(),(),(),(),(),(),(),(),())
noncomputable abbrev u12:=((),(),(),(),(),(),(),(),(),(),(),())
noncomputable def iKeyAt (s:ByteArray) (i:Nat):Bool:=iisKeyByte (bt s (i:Int))
noncomputable abbrev P_iisWord:List PSh:=[.t .str]
noncomputable abbrev S_iisWord_0:SS:=⟨(.t true .str::.junk::.junk::.t true (.int .i64)::jS11),[]⟩
noncomputable abbrev E_iisWord_0_0:SS:=⟨(.junk::.junk::.t true .bool::jS12),[]⟩
noncomputable abbrev E_iisWord_0_1:SS:=⟨(.junk::jS14),[]⟩
noncomputable def st_iisWord_0 (x0:ByteArray) (x3:Int):RT S_iisWord_0.den:=(.br (decide (x3<((x0.size:Nat):Int))) (.br (decide (0≤x3∧x3<((x0.size:Nat):Int))) (.br (!(iisKeyByte (bt x0 x3))) (.done .ret E_iisWord_0_0 (((),(),false,u13),())) (.next ((x0,(),(),IntKind.wrap .i64 (x3+(1:Int)),u12),()))) .fail) (.done (.exit 0) E_iisWord_0_1 ((u16),())))
noncomputable def T_iisWord_0 (x0:ByteArray) (x3:Int):CT:=(.br (decide (0≤x3)&&okS x0) (.br (allF (iKeyAt x0) (x0.size - x3.toNat) x3.toNat) (.done (.exit 0) E_iisWord_0_1 ((u16),())) (.done .ret E_iisWord_0_0 (((),(),false,u13),()))) .fail)
noncomputable abbrev sp_iisWord_0:S_iisWord_0.den→RT S_iisWord_0.den:=(fun d=>st_iisWord_0 d.1.1 d.1.2.2.2.1)
noncomputable abbrev pk_iisWord_0 (x0:ByteArray) (x3:Int):S_iisWord_0.den:=((x0,(),(),x3,u12),())
noncomputable def body_iisWord_0:Code:=((loopsIn 0 (bodyOf Try.f167)).getD 0 (0,.skip)).2
theorem R_iisWord_0 (x0:ByteArray) (x3:Int):(T_iisWord_0 x0 x3).val (D:=S_iisWord_0.den)=.fail∨Runs sp_iisWord_0 (pk_iisWord_0 x0 x3) (T_iisWord_0 x0 x3).val:=by
 cases hc:(decide (0≤x3)&&okS x0) with
 | false=>left;simp only [T_iisWord_0,CT.val,hc,cond_false]
 | true =>
  right
  simp only [T_iisWord_0,CT.val,hc,cond_true]
  simp only [Bool.and_eq_true,decide_eq_true_eq] at hc
  obtain ⟨i,rfl⟩:=Int.eq_ofNat_of_zero_le hc.1
  have hs:=okS_le hc.2
  simp only [Int.toNat_natCast]
  refine Runs.scan (fun j=>pk_iisWord_0 x0 (j:Int)) (x0.size) (iKeyAt x0) (fun i hi=>?_) (fun i hi=>?_) ⟨_,_,_,rfl,by simp⟩ ⟨_,_,_,rfl,by simp⟩ _ _ rfl
  ·
   have h0a:decide ((i:Int)<((x0.size:Nat):Int))=true:=decide_eq_true (by omega)
   have h0b:decide (0≤(i:Int)∧(i:Int)<((x0.size:Nat):Int))=true:=decide_eq_true (by omega)
   simp only [sp_iisWord_0,st_iisWord_0,RT.val,h0a,h0b,cond_true,wrapS i (by omega),Int.toNat_natCast]
   simp only [iKeyAt]
   cases iisKeyByte (bt x0 (i:Int))<;>rfl
  ·have h1:decide ((i:Int)<((x0.size:Nat):Int))=false:=decide_eq_false (by omega)
   simp only [sp_iisWord_0,st_iisWord_0,RT.val,h1,cond_false]
theorem rdA_iisWord_0:RdA G15 (fun _ _=>none) 0 body_iisWord_0 S_iisWord_0 0 [] (kepts [2] [(0,[])]) (fun d=>(sp_iisWord_0 d).opt 0 []):=by
 intro d
 kernel_rfl
noncomputable abbrev say_iisWord_0:St→Option Tree:=S_iisWord_0.say 0 [] [] (fun d=>T_iisWord_0 d.1.1 d.1.2.2.2.1)
theorem lw_iisWord_0:LoopWp Try.prog say_iisWord_0 body_iisWord_0:=SS.wp2 hlz [] sp_iisWord_0 rdA_iisWord_0 (fun d=>rfl) _ (fun d=>R_iisWord_0 d.1.1 d.1.2.2.2.1)
noncomputable def iisWord (a0:ByteArray):Bool:=(cond (allF (iKeyAt a0) (a0.size - (0:Int).toNat) (0:Int).toNat) true false)
noncomputable abbrev e_iisWord (r:Bool):AV×List AObj:=((.t true .bool r),[])
noncomputable abbrev g_iisWord:pshsDen P_iisWord→AV×List AObj:=fun d=>e_iisWord (iisWord d.1)
noncomputable def q_iisWord (a0:ByteArray):Bool:=okS a0
noncomputable abbrev pre_iisWord:pshsDen P_iisWord→Bool:=fun d=>q_iisWord d.1
noncomputable abbrev L_iisWord:Nat→St→Option Tree:=fun b=>match b with | 0=>say_iisWord_0 | _=>fun _=>none
theorem run_iisWord:RunP true G15 (L_iisWord) Try.f167 P_iisWord pre_iisWord g_iisWord:=by
 rintro ⟨a0,_⟩ hp
 change q_iisWord a0=true at hp
 unfold q_iisWord at hp
 refine Eq.trans (b:=(cond (decide (0≤(0:Int))&&okS a0) (cond (allF (iKeyAt a0) (a0.size - (0:Int).toNat) (0:Int).toNat) (some (e_iisWord true)) (some (e_iisWord false))) none)) (by kernel_rfl) ?_
 exact (cndT (by first | rfl | decide | exact hp | (simp only [Bool.and_eq_true] at hp;simp only [hp];done) | (simp [*];done) | (simp [okL] at hp;simp [okL,MAXB];omega) | (simp_all;done) | (simp at *;omega)) (fun _h=>(cndG e_iisWord (fun _h=>rfl) (fun _h=>rfl))))
theorem c_iisWord:PContract Try.prog 167 (sumOf P_iisWord pre_iisWord g_iisWord):=pcD true G15 (hl1 (i:=0) (by kernel_rfl) lw_iisWord_0) run_iisWord
noncomputable def S16:Tab:=Tab.add S15 167 (lift (sumOf P_iisWord pre_iisWord g_iisWord))
noncomputable def QF16:FuncId→Bool:=qadd QF15 167
theorem G16:Good Try.prog tt S16 QF16:=G15.addQ c_iisWord (cbl Try.f167) (fun _=>rfl)

noncomputable abbrev P_iKeyOk:List PSh:=[.t .str]
noncomputable def iKeyOk (a0:ByteArray):Bool:=(cond (iinRange ((a0.size:Nat):Int) (1:Int) (12:Int)) (iisWord a0) false)
noncomputable abbrev e_iKeyOk (r:Bool):AV×List AObj:=((.t true .bool r),[])
noncomputable abbrev g_iKeyOk:pshsDen P_iKeyOk→AV×List AObj:=fun d=>e_iKeyOk (iKeyOk d.1)
noncomputable def q_iKeyOk (a0:ByteArray):Bool:=okS a0
noncomputable abbrev pre_iKeyOk:pshsDen P_iKeyOk→Bool:=fun d=>q_iKeyOk d.1
theorem run_iKeyOk:RunP true G16 (fun _ _=>none) Try.f140 P_iKeyOk pre_iKeyOk g_iKeyOk:=by
 rintro ⟨a0,_⟩ hp
 change q_iKeyOk a0=true at hp
 unfold q_iKeyOk at hp
 refine Eq.trans (b:=(cond (iinRange ((a0.size:Nat):Int) (1:Int) (12:Int)) (cond (q_iisWord a0) (some (e_iKeyOk (iisWord a0))) none) (some (e_iKeyOk false)))) (by kernel_rfl) ?_
 exact (cndG e_iKeyOk (fun _h=>(cndT (by first | rfl | decide | exact hp | (simp only [Bool.and_eq_true] at hp;simp only [hp];done) | (simp [*];done) | (simp [okL] at hp;simp [okL,MAXB];omega) | (simp_all;done) | (simp at *;omega)) (fun _h=>rfl))) (fun _h=>rfl))
theorem c_iKeyOk:PContract Try.prog 140 (sumOf P_iKeyOk pre_iKeyOk g_iKeyOk):=pcD true G16 hlz run_iKeyOk
noncomputable def S17:Tab:=Tab.add S16 140 (lift (sumOf P_iKeyOk pre_iKeyOk g_iKeyOk))
noncomputable def QF17:FuncId→Bool:=qadd QF16 140
theorem G17:Good Try.prog tt S17 QF17:=G16.addQ c_iKeyOk (cbl Try.f140) (fun _=>rfl)

noncomputable abbrev P_iopOk:List PSh:=[.agg [(.int .i64),.str,.str]]
noncomputable def iopOk (a0:Int) (a1:ByteArray) (a2:ByteArray):Bool:=(cond (a0==(1:Int)) (cond (iKeyOk a1) (decide (((a2.size:Nat):Int)≤(20:Int))) false) (cond (a0==(3:Int)) (cond (iKeyOk a1) (decide (((a2.size:Nat):Int)≤(20:Int))) false) (cond (a0==(2:Int)) (cond (iKeyOk a1) (a2.toList==bE.toList) false) false)))
noncomputable abbrev e_iopOk (r:Bool):AV×List AObj:=((.t true .bool r),[])
noncomputable abbrev g_iopOk:pshsDen P_iopOk→AV×List AObj:=fun d=>e_iopOk (iopOk d.1.1 d.1.2.1 d.1.2.2.1)
noncomputable def q_iopOk (a0:Int) (a1:ByteArray) (a2:ByteArray):Bool:=okS a1
noncomputable abbrev pre_iopOk:pshsDen P_iopOk→Bool:=fun d=>q_iopOk d.1.1 d.1.2.1 d.1.2.2.1
theorem run_iopOk:RunP true G17 (fun _ _=>none) Try.f119 P_iopOk pre_iopOk g_iopOk:=by
 rintro ⟨⟨a0,⟨a1,⟨a2,_⟩⟩⟩,_⟩ hp
 change q_iopOk a0 a1 a2=true at hp
 unfold q_iopOk at hp
 refine Eq.trans (b:=(cond (a0==(1:Int)) (cond (q_iKeyOk a1) (cond (iKeyOk a1) (some (e_iopOk (decide (((a2.size:Nat):Int)≤(20:Int))))) (some (e_iopOk false))) none) (cond (a0==(3:Int)) (cond (q_iKeyOk a1) (cond (iKeyOk a1) (some (e_iopOk (decide (((a2.size:Nat):Int)≤(20:Int))))) (some (e_iopOk false))) none) (cond (a0==(2:Int)) (cond (q_iKeyOk a1) (cond (iKeyOk a1) (some (e_iopOk (a2.toList==(⟨#[]⟩:ByteArray).toList))) (some (e_iopOk false))) none) (some (e_iopOk false)))))) (by kernel_rfl) ?_
 exact (cndG e_iopOk (fun _h=>(cndT (by first | rfl | decide | exact hp | (simp only [Bool.and_eq_true] at hp;simp only [hp];done) | (simp [*];done) | (simp [okL] at hp;simp [okL,MAXB];omega) | (simp_all;done) | (simp at *;omega)) (fun _h=>(cndG e_iopOk (fun _h=>rfl) (fun _h=>rfl))))) (fun _h=>(cndG e_iopOk (fun _h=>(cndT (by first | rfl | decide | exact hp | (simp only [Bool.and_eq_true] at hp;simp only [hp];done) | (simp [*];done) | (simp [okL] at hp;simp [okL,MAXB];omega) | (simp_all;done) | (simp at *;omega)) (fun _h=>(cndG e_iopOk (fun _h=>rfl) (fun _h=>rfl))))) (fun _h=>(cndG e_iopOk (fun _h=>(cndT (by first | rfl | decide | exact hp | (simp only [Bool.and_eq_true] at hp;simp only [hp];done) | (simp [*];done) | (simp [okL] at hp;simp [okL,MAXB];omega) | (simp_all;done) | (simp at *;omega)) (fun _h=>(cndG e_iopOk (fun _h=>rfl) (fun _h=>rfl))))) (fun _h=>rfl))))))
theorem c_iopOk:PContract Try.prog 119 (sumOf P_iopOk pre_iopOk g_iopOk):=pcD true G17 hlz run_iopOk
noncomputable def S18:Tab:=Tab.add S17 119 (lift (sumOf P_iopOk pre_iopOk g_iopOk))
noncomputable def QF18:FuncId→Bool:=qadd QF17 119
theorem G18:Good Try.prog tt S18 QF18:=G17.addQ c_iopOk (cbl Try.f119) (fun _=>rfl)

noncomputable abbrev jS26:List Sh:=.junk::.junk::.junk::.junk::.junk::.junk::.junk::.junk::.junk::.junk::jS16
noncomputable abbrev jS31:List Sh:=.junk::.junk::.junk::jS28
noncomputable abbrev jS33:List Sh:=.junk::.junk::jS31
noncomputable abbrev u32:=((),(),(),u29)
noncomputable abbrev u27:=((),(),(),(),(),u22)
noncomputable abbrev u34:=((),(),u32)
noncomputable abbrev jA31:List AV:=.junk::.junk::.junk::jA28
noncomputable abbrev jA26:List AV:=.junk::.junk::.junk::.junk::.junk::.junk::.junk::.junk::.junk::.junk::.junk::.junk::.junk::.junk::.junk::.junk::.junk::.junk::.junk::.junk::.junk::.junk::.junk::.junk::.junk::.junk::[]
noncomputable abbrev jA33:List AV:=.junk::.junk::jA31
noncomputable def iOpAt (l:Lq1) (i:Nat):Bool:=iopOk (l.getD i dOp).1 (l.getD i dOp).2.1 (l.getD i dOp).2.2&&(decide (i=0)||!(Op.bytesLess (l.getD i dOp).2.1.toList (l.getD (i - 1) dOp).2.1.toList||((l.getD i dOp).2.1.toList==(l.getD (i - 1) dOp).2.1.toList)))
noncomputable abbrev P_iOpsOk:List PSh:=[.t tq3]
noncomputable abbrev S_iOpsOk_0:SS:=⟨(.t false tq3::.junk::.junk::.junk::.junk::.t false tq3::.t true (.int .i64)::.t true (.int .i64)::jS26),[]⟩
noncomputable abbrev E_iOpsOk_0_0:SS:=⟨(.junk::.junk::.t true .bool::jS31),[]⟩
noncomputable abbrev E_iOpsOk_0_1:SS:=⟨(.t false tq3::jS33),[]⟩
noncomputable def st_iOpsOk_0 (x0:Lq1) (x5:Lq1) (x6:Int) (x7:Int):RT S_iOpsOk_0.den:=(.br (decide (x7<x6)) (.br (decide (0≤x7∧x7<((x5.length:Nat):Int))) (.br (q_iopOk ((x5.getD x7.toNat ((0:Int),(bE,bE))).1) (((x5.getD x7.toNat ((0:Int),(bE,bE))).2).1) (((x5.getD x7.toNat ((0:Int),(bE,bE))).2).2)) (.br (!(iopOk ((x5.getD x7.toNat ((0:Int),(bE,bE))).1) (((x5.getD x7.toNat ((0:Int),(bE,bE))).2).1) (((x5.getD x7.toNat ((0:Int),(bE,bE))).2).2))) (.done .ret E_iOpsOk_0_0 (((),(),false,u32),())) (.br (decide (x7 > (0:Int))) (.br (decide (0≤(IntKind.wrap .i64 (x7 - (1:Int)))∧(IntKind.wrap .i64 (x7 - (1:Int)))<((x0.length:Nat):Int))) (.br (Op.bytesLess (((x5.getD x7.toNat ((0:Int),(bE,bE))).2).1).toList (((x0.getD ((IntKind.wrap .i64 (x7 - (1:Int))).toNat) ((0:Int),(bE,bE))).2).1).toList||((((x5.getD x7.toNat ((0:Int),(bE,bE))).2).1).toList==(((x0.getD ((IntKind.wrap .i64 (x7 - (1:Int))).toNat) ((0:Int),(bE,bE))).2).1).toList)) (.done .ret E_iOpsOk_0_0 (((),(),false,u32),())) (.next ((x0,(),(),(),(),x5,x6,IntKind.wrap .i64 (x7+(1:Int)),u27),()))) .fail) (.next ((x0,(),(),(),(),x5,x6,IntKind.wrap .i64 (x7+(1:Int)),u27),())))) .fail) .fail) (.done (.exit 0) E_iOpsOk_0_1 ((x0,u34),())))
noncomputable def T_iOpsOk_0 (x0:Lq1) (x5:Lq1) (x6:Int) (x7:Int):CT:=(.br (decide (0≤x7)&&(decide (x6=((x5.length:Nat):Int))&&(decide (x5=x0)&&okOps x5))) (.br (allF (iOpAt x5) (x5.length - x7.toNat) x7.toNat) (.done (.exit 0) E_iOpsOk_0_1 ((x0,u34),())) (.done .ret E_iOpsOk_0_0 (((),(),false,u32),()))) .fail)
noncomputable abbrev ap_iOpsOk_0 {α:Sort _} (f:(Lq1)→(Lq1)→Int→Int→α) (d:S_iOpsOk_0.den):α:=f d.1.1 d.1.2.2.2.2.2.1 d.1.2.2.2.2.2.2.1 d.1.2.2.2.2.2.2.2.1
noncomputable abbrev sp_iOpsOk_0:S_iOpsOk_0.den→RT S_iOpsOk_0.den:=(ap_iOpsOk_0 st_iOpsOk_0)
noncomputable abbrev pk_iOpsOk_0 (x0:Lq1) (x5:Lq1) (x6:Int) (x7:Int):S_iOpsOk_0.den:=((x0,(),(),(),(),x5,x6,x7,u27),())
noncomputable def body_iOpsOk_0:Code:=((loopsIn 0 (bodyOf Try.f75)).getD 0 (0,.skip)).2
theorem R_iOpsOk_0 (x0:Lq1) (x5:Lq1) (x6:Int) (x7:Int):(T_iOpsOk_0 x0 x5 x6 x7).val (D:=S_iOpsOk_0.den)=.fail∨Runs sp_iOpsOk_0 (pk_iOpsOk_0 x0 x5 x6 x7) (T_iOpsOk_0 x0 x5 x6 x7).val:=by
 cases hc:(decide (0≤x7)&&(decide (x6=((x5.length:Nat):Int))&&(decide (x5=x0)&&okOps x5))) with
 | false=>left;simp only [T_iOpsOk_0,CT.val,hc,cond_false]
 | true =>
  right
  simp only [T_iOpsOk_0,CT.val,hc,cond_true]
  simp only [Bool.and_eq_true,decide_eq_true_eq] at hc
  obtain ⟨i,rfl⟩:=Int.eq_ofNat_of_zero_le hc.1
  obtain ⟨_,e6,e5,hc⟩:=hc
  subst e5;subst e6
  have hs:=okOps_len hc
  simp only [Int.toNat_natCast]
  refine Runs.scan (fun j=>pk_iOpsOk_0 x5 x5 ((x5.length:Nat):Int) (j:Int)) (x5.length) (iOpAt x5) (fun i hi=>?_) (fun i hi=>?_) ⟨_,_,_,rfl,by simp⟩ ⟨_,_,_,rfl,by simp⟩ _ _ rfl
  ·
   have h0a:decide ((i:Int)<((x5.length:Nat):Int))=true:=decide_eq_true (by omega)
   have h0b:decide (0≤(i:Int)∧(i:Int)<((x5.length:Nat):Int))=true:=decide_eq_true (by omega)
   simp only [sp_iOpsOk_0,st_iOpsOk_0,RT.val,h0a,h0b,cond_true,wrapS i (by omega),Int.toNat_natCast]
   have hq:q_iopOk (x5.getD i dOp).1 (x5.getD i dOp).2.1 (x5.getD i dOp).2.2=true:=(okOps_at hc i hi).1
   simp only [dOp] at hq
   simp only [hq,cond_true,iOpAt,dOp]
   cases iopOk (x5.getD i ((0:Int),((⟨#[]⟩:ByteArray),(⟨#[]⟩:ByteArray)))).1 (x5.getD i ((0:Int),((⟨#[]⟩:ByteArray),(⟨#[]⟩:ByteArray)))).2.1 (x5.getD i ((0:Int),((⟨#[]⟩:ByteArray),(⟨#[]⟩:ByteArray)))).2.2 with
   | false=>rfl
   | true =>
    cases i with
    | zero=>rfl
    | succ i =>
     have h3:decide (((i+1:Nat):Int) > 0)=true:=decide_eq_true (by omega)
     have h4:IntKind.wrap .i64 (((i+1:Nat):Int) - 1)=(i:Int):=by have:=wrap64 (n:=((i+1:Nat):Int) - 1) (by omega) (by omega);omega
     have h5:decide (0≤(i:Int)∧(i:Int)<((x5.length:Nat):Int))=true:=decide_eq_true (by omega)
     have h6:decide (i+1=0)=false:=by simp
     simp only [h3,h4,h5,h6,cond_true,Bool.true_and,Bool.false_or,Int.toNat_natCast,Nat.add_sub_cancel,Bool.not_true,cond_false]
     cases (Op.bytesLess (x5.getD (i+1) ((0:Int),((⟨#[]⟩:ByteArray),(⟨#[]⟩:ByteArray)))).2.1.toList (x5.getD i ((0:Int),((⟨#[]⟩:ByteArray),(⟨#[]⟩:ByteArray)))).2.1.toList||((x5.getD (i+1) ((0:Int),((⟨#[]⟩:ByteArray),(⟨#[]⟩:ByteArray)))).2.1.toList==(x5.getD i ((0:Int),((⟨#[]⟩:ByteArray),(⟨#[]⟩:ByteArray)))).2.1.toList))<;>rfl
  ·have h1:decide ((i:Int)<((x5.length:Nat):Int))=false:=decide_eq_false (by omega)
   simp only [sp_iOpsOk_0,st_iOpsOk_0,RT.val,h1,cond_false]
noncomputable def ox_iOpsOk_0 (x0:Lq1) (x5:Lq1) (x6:Int) (x7:Int):Option (Ex×St):=(cond (decide (x7<x6)) (cond (decide (0≤x7∧x7<((x5.length:Nat):Int))) (cond (q_iopOk ((x5.getD x7.toNat ((0:Int),(bE,bE))).1) (((x5.getD x7.toNat ((0:Int),(bE,bE))).2).1) (((x5.getD x7.toNat ((0:Int),(bE,bE))).2).2)) (cond (!(iopOk ((x5.getD x7.toNat ((0:Int),(bE,bE))).1) (((x5.getD x7.toNat ((0:Int),(bE,bE))).2).1) (((x5.getD x7.toNat ((0:Int),(bE,bE))).2).2))) (some (.ret,(⟨(.junk::.junk::(.t true .bool false)::jA31),[],0,[]⟩:St))) (cond (decide (x7 > (0:Int))) (cond (decide (0≤(IntKind.wrap .i64 (x7 - (1:Int)))∧(IntKind.wrap .i64 (x7 - (1:Int)))<((x0.length:Nat):Int))) (cond (Op.bytesLess (((x5.getD x7.toNat ((0:Int),(bE,bE))).2).1).toList (((x0.getD ((IntKind.wrap .i64 (x7 - (1:Int))).toNat) ((0:Int),(bE,bE))).2).1).toList||((((x5.getD x7.toNat ((0:Int),(bE,bE))).2).1).toList==(((x0.getD ((IntKind.wrap .i64 (x7 - (1:Int))).toNat) ((0:Int),(bE,bE))).2).1).toList)) (some (.ret,(⟨(.junk::.junk::(.t true .bool false)::jA31),[],0,[]⟩:St))) (some (.normal,(⟨((.t false tq3 x0)::.junk::.junk::.junk::.junk::(.t false tq3 x5)::(.t true (.int .i64) x6)::(.t true (.int .i64) (IntKind.wrap .i64 (x7+(1:Int))))::jA26),[],0,[]⟩:St)))) none) (some (.normal,(⟨((.t false tq3 x0)::.junk::.junk::.junk::.junk::(.t false tq3 x5)::(.t true (.int .i64) x6)::(.t true (.int .i64) (IntKind.wrap .i64 (x7+(1:Int))))::jA26),[],0,[]⟩:St))))) none) none) (some ((.exit 0),(⟨((.t false tq3 x0)::jA33),[],0,[]⟩:St))))
theorem rdA_iOpsOk_0:RdA G18 (fun _ _=>none) 0 body_iOpsOk_0 S_iOpsOk_0 0 [] (kepts [2] [(0,[0])]) (ap_iOpsOk_0 ox_iOpsOk_0):=by
 intro d
 kernel_rfl
theorem rdB_iOpsOk_0:∀ d:S_iOpsOk_0.den,(ap_iOpsOk_0 ox_iOpsOk_0) d=(sp_iOpsOk_0 d).opt 0 []:=by
 intro d
 kernel_rfl
noncomputable abbrev say_iOpsOk_0:St→Option Tree:=S_iOpsOk_0.say 0 [] [] (ap_iOpsOk_0 T_iOpsOk_0)
theorem lw_iOpsOk_0:LoopWp Try.prog say_iOpsOk_0 body_iOpsOk_0:=SS.wp2 hlz [] sp_iOpsOk_0 rdA_iOpsOk_0 rdB_iOpsOk_0 _ (fun d=>R_iOpsOk_0 d.1.1 d.1.2.2.2.2.2.1 d.1.2.2.2.2.2.2.1 d.1.2.2.2.2.2.2.2.1)
noncomputable def iOpsOk (a0:Lq1):Bool:=(cond (allF (iOpAt a0) (a0.length - (0:Int).toNat) (0:Int).toNat) (iinRange ((a0.length:Nat):Int) (1:Int) (8:Int)) false)
noncomputable abbrev e_iOpsOk (r:Bool):AV×List AObj:=((.t true .bool r),[])
noncomputable abbrev g_iOpsOk:pshsDen P_iOpsOk→AV×List AObj:=fun d=>e_iOpsOk (iOpsOk d.1)
noncomputable def q_iOpsOk (a0:Lq1):Bool:=okOps a0
noncomputable abbrev pre_iOpsOk:pshsDen P_iOpsOk→Bool:=fun d=>q_iOpsOk d.1
noncomputable abbrev L_iOpsOk:Nat→St→Option Tree:=fun b=>match b with | 0=>say_iOpsOk_0 | _=>fun _=>none
theorem run_iOpsOk:RunP true G18 (L_iOpsOk) Try.f75 P_iOpsOk pre_iOpsOk g_iOpsOk:=by
 rintro ⟨a0,_⟩ hp
 change q_iOpsOk a0=true at hp
 unfold q_iOpsOk at hp
 refine Eq.trans (b:=(cond (decide (0≤(0:Int))&&(decide (((a0.length:Nat):Int)=((a0.length:Nat):Int))&&(decide (a0=a0)&&okOps a0))) (cond (allF (iOpAt a0) (a0.length - (0:Int).toNat) (0:Int).toNat) (some (e_iOpsOk (iinRange ((a0.length:Nat):Int) (1:Int) (8:Int)))) (some (e_iOpsOk false))) none)) (by kernel_rfl) ?_
 exact (cndT (by first | rfl | decide | exact hp | (simp only [Bool.and_eq_true] at hp;simp only [hp];done) | (simp [*];done) | (simp [okL] at hp;simp [okL,MAXB];omega) | (simp_all;done) | (simp at *;omega)) (fun _h=>(cndG e_iOpsOk (fun _h=>rfl) (fun _h=>rfl))))
theorem c_iOpsOk:PContract Try.prog 75 (sumOf P_iOpsOk pre_iOpsOk g_iOpsOk):=pcD true G18 (hl1 (i:=0) (by kernel_rfl) lw_iOpsOk_0) run_iOpsOk
noncomputable def S19:Tab:=Tab.add S18 75 (lift (sumOf P_iOpsOk pre_iOpsOk g_iOpsOk))
noncomputable def QF19:FuncId→Bool:=qadd QF18 75
theorem G19:Good Try.prog tt S19 QF19:=G18.addQ c_iOpsOk (cbl Try.f75) (fun _=>rfl)

noncomputable abbrev P_iRecOk:List PSh:=[.agg [(.int .i64),(.int .i64),tq3]]
noncomputable def iRecOk (a0:Int) (a1:Int) (a2:Lq1):Bool:=(cond (a0==(1:Int)) (cond (iisTx a1) (iOpsOk a2) false) (cond (a0==(2:Int)) (cond (iisTx a1) (((a2.length:Nat):Int)==(0:Int)) false) (cond (a0==(3:Int)) (cond (iisTx a1) (((a2.length:Nat):Int)==(0:Int)) false) false)))
noncomputable abbrev e_iRecOk (r:Bool):AV×List AObj:=((.t true .bool r),[])
noncomputable abbrev g_iRecOk:pshsDen P_iRecOk→AV×List AObj:=fun d=>e_iRecOk (iRecOk d.1.1 d.1.2.1 d.1.2.2.1)
noncomputable def q_iRecOk (a0:Int) (a1:Int) (a2:Lq1):Bool:=okOps a2
noncomputable abbrev pre_iRecOk:pshsDen P_iRecOk→Bool:=fun d=>q_iRecOk d.1.1 d.1.2.1 d.1.2.2.1
theorem run_iRecOk:RunP true G19 (fun _ _=>none) Try.f27 P_iRecOk pre_iRecOk g_iRecOk:=by
 rintro ⟨⟨a0,⟨a1,⟨a2,_⟩⟩⟩,_⟩ hp
 change q_iRecOk a0 a1 a2=true at hp
 unfold q_iRecOk at hp
 refine Eq.trans (b:=(cond (a0==(1:Int)) (cond (iisTx a1) (cond (q_iOpsOk a2) (some (e_iRecOk (iOpsOk a2))) none) (some (e_iRecOk false))) (cond (a0==(2:Int)) (cond (iisTx a1) (some (e_iRecOk (((a2.length:Nat):Int)==(0:Int)))) (some (e_iRecOk false))) (cond (a0==(3:Int)) (cond (iisTx a1) (some (e_iRecOk (((a2.length:Nat):Int)==(0:Int)))) (some (e_iRecOk false))) (some (e_iRecOk false)))))) (by kernel_rfl) ?_
 exact (cndG e_iRecOk (fun _h=>(cndG e_iRecOk (fun _h=>(cndT (by first | rfl | decide | exact hp | (simp only [Bool.and_eq_true] at hp;simp only [hp];done) | (simp [*];done) | (simp [okL] at hp;simp [okL,MAXB];omega) | (simp_all;done) | (simp at *;omega)) (fun _h=>rfl))) (fun _h=>rfl))) (fun _h=>(cndG e_iRecOk (fun _h=>(cndG e_iRecOk (fun _h=>rfl) (fun _h=>rfl))) (fun _h=>(cndG e_iRecOk (fun _h=>(cndG e_iRecOk (fun _h=>rfl) (fun _h=>rfl))) (fun _h=>rfl))))))
theorem c_iRecOk:PContract Try.prog 27 (sumOf P_iRecOk pre_iRecOk g_iRecOk):=pcD true G19 hlz run_iRecOk
noncomputable def S20:Tab:=Tab.add S19 27 (lift (sumOf P_iRecOk pre_iRecOk g_iRecOk))
noncomputable def QF20:FuncId→Bool:=qadd QF19 27
theorem G20:Good Try.prog tt S20 QF20:=G19.addQ c_iRecOk (cbl Try.f27) (fun _=>rfl)

noncomputable abbrev jS22:List Sh:=.junk::.junk::.junk::.junk::.junk::.junk::jS16
noncomputable abbrev u23:=((),u22)
noncomputable abbrev SM_iputNum_nil:SS:=⟨[.nil,.t true (.int .i64)],[]⟩
noncomputable abbrev S_iputNum_nil_0:SS:=⟨(.all 0 1::.t true (.int .i64)::jS22),[.rows 5 true (.int .u8)]⟩
noncomputable abbrev E_iputNum_nil_0_0:SS:=⟨(.all 0 1::.t true (.int .i64)::jS22),[.rows 5 true (.int .u8)]⟩
noncomputable def st_iputNum_nil_0 (x1:Int) (h0:List Int):RT S_iputNum_nil_0.den:=(.br (decide (x1 > (127:Int))) (.br (decide ((h0.length+[IntKind.wrap .u8 (ior .i64 (128:Int) (iand .i64 x1 (127:Int)))].length)*1≤MAXB)) (.next (((),Int.fdiv x1 (2 ^ (7)),u23),(h0++[IntKind.wrap .u8 (ior .i64 (128:Int) (iand .i64 x1 (127:Int)))],()))) .fail) (.done (.exit 0) E_iputNum_nil_0_0 (((),x1,u23),(h0,()))))
noncomputable def T_iputNum_nil_0 (x1:Int) (h0:List Int):CT:=(.br (decide (0≤x1∧x1≤1000000000)&&decide (h0.length≤35184372088832)) (.done (.exit 0) E_iputNum_nil_0_0 (((),((nX x1).2),u23),((h0++(nX x1).1),()))) .fail)
noncomputable abbrev sp_iputNum_nil_0:S_iputNum_nil_0.den→RT S_iputNum_nil_0.den:=(fun d=>st_iputNum_nil_0 d.1.2.1 d.2.1)
noncomputable abbrev pk_iputNum_nil_0 (x1:Int) (h0:List Int):S_iputNum_nil_0.den:=(((),x1,u23),(h0,()))
noncomputable def body_iputNum_nil_0:Code:=((loopsIn 0 (bodyOf Try.f113)).getD 0 (0,.skip)).2
theorem R_iputNum_nil_0 (x1:Int) (h0:List Int):(T_iputNum_nil_0 x1 h0).val (D:=S_iputNum_nil_0.den)=.fail∨Runs sp_iputNum_nil_0 (pk_iputNum_nil_0 x1 h0) (T_iputNum_nil_0 x1 h0).val:=by
 cases hc:(decide (0≤x1∧x1≤1000000000)&&decide (h0.length≤35184372088832)) with
 | false=>left;simp only [T_iputNum_nil_0,CT.val,hc,cond_false]
 | true =>
  right
  simp only [T_iputNum_nil_0,CT.val,hc,cond_true]
  simp only [Bool.and_eq_true,decide_eq_true_eq] at hc
  rw [nX_eq']
  have key:∀ (k:Nat) (x1:Int) (h0:List Int),0≤x1→x1<128 ^ (k+1)→h0.length+k≤70368744177664→Runs sp_iputNum_nil_0 (pk_iputNum_nil_0 x1 h0) (((.done (.exit 0) E_iputNum_nil_0_0 (((),((hiF gNum' k x1).2),u23),((h0++(hiF gNum' k x1).1),()))):CT).val (D:=S_iputNum_nil_0.den)):=by
   intro k
   induction k with
   | zero =>
    intro x h h1 h2 h3
    have e1:decide (x > 127)=false:=decide_eq_false (by simp at h2;omega)
    refine .done (by simp) ?_
    simp only [sp_iputNum_nil_0,st_iputNum_nil_0,RT.val,e1,cond_false,hiF,List.append_nil]
   | succ k ih =>
    intro x h h1 h2 h3
    rw [Int.pow_succ] at h2
    by_cases hx:x > 127
    ·have e1:decide (x > 127)=true:=decide_eq_true hx
     have e2:decide ((h.length+[gNum' x].length)*1≤MAXB)=true:=decide_eq_true (by simp [MAXB];omega)
     simp only [gNum'] at e2
     have:=ih (Int.fdiv x (2 ^ 7)) (h++[gNum' x]) (by rw [fdiv128];omega) (by rw [fdiv128];omega) (by simp;omega)
     refine .next (d':=pk_iputNum_nil_0 (Int.fdiv x (2 ^ 7)) (h++[gNum' x])) ?_ ?_
     ·simp only [sp_iputNum_nil_0,st_iputNum_nil_0,RT.val,e1,e2,cond_true];rfl
     ·have e3:hiF gNum' (k+1) x=(gNum' x::(hiF gNum' k (Int.fdiv x (2 ^ 7))).1,(hiF gNum' k (Int.fdiv x (2 ^ 7))).2):=by simp only [hiF,e1,cond_true]
      rw [e3]
      simpa [List.append_assoc] using this
    ·have e1:decide (x > 127)=false:=decide_eq_false hx
     refine .done (by simp) ?_
     simp only [sp_iputNum_nil_0,st_iputNum_nil_0,RT.val,e1,cond_false,hiF,List.append_nil]
  exact key 4 x1 h0 hc.1.1 (by have:=hc.1.2;simp;omega) (by have:=hc.2;omega)
theorem rdA_iputNum_nil_0:RdA G20 (fun _ _=>none) 0 body_iputNum_nil_0 S_iputNum_nil_0 0 [] (kepts [] [(0,[0,1])]) (fun d=>(sp_iputNum_nil_0 d).opt 0 []):=by
 intro d
 kernel_rfl
noncomputable abbrev say_iputNum_nil_0:St→Option Tree:=S_iputNum_nil_0.say 0 [] [(0,5,(.int .u8))] (fun d=>T_iputNum_nil_0 d.1.2.1 d.2.1)
theorem lw_iputNum_nil_0:LoopWp Try.prog say_iputNum_nil_0 body_iputNum_nil_0:=SS.wp2 hlz [(0,5,(.int .u8))] sp_iputNum_nil_0 rdA_iputNum_nil_0 (fun d=>rfl) _ (fun d=>R_iputNum_nil_0 d.1.2.1 d.2.1)
noncomputable def iputNum_nil (x1:Int):List Int:=((([]:List Int)++(nX (if (if (1000000000:Int)<x1 then (1000000000:Int) else x1) > (0:Int) then (if (1000000000:Int)<x1 then (1000000000:Int) else x1) else (0:Int))).1)++[IntKind.wrap .u8 ((nX (if (if (1000000000:Int)<x1 then (1000000000:Int) else x1) > (0:Int) then (if (1000000000:Int)<x1 then (1000000000:Int) else x1) else (0:Int))).2)])
noncomputable abbrev e_iputNum_nil (r:List Int):AV×List AObj×List Nat:=((.all 0 1),[(.rows 5 true (.int .u8) r)],[])
noncomputable abbrev g_iputNum_nil:SM_iputNum_nil.den→AV×List AObj×List Nat:=fun d=>e_iputNum_nil (iputNum_nil d.1.2.1)
noncomputable abbrev pre_iputNum_nil:SM_iputNum_nil.den→Bool:=fun d=>true
noncomputable abbrev L_iputNum_nil:Nat→St→Option Tree:=fun b=>match b with | 0=>say_iputNum_nil_0 | _=>fun _=>none
theorem run_iputNum_nil:RunM G20 (L_iputNum_nil) Try.f113 SM_iputNum_nil pre_iputNum_nil g_iputNum_nil:=by
 rintro ⟨⟨_,(x1:Int),_⟩,_⟩ hp
 refine Eq.trans (b:=(cond (decide (0≤(if (if (1000000000:Int)<x1 then (1000000000:Int) else x1) > (0:Int) then (if (1000000000:Int)<x1 then (1000000000:Int) else x1) else (0:Int))∧(if (if (1000000000:Int)<x1 then (1000000000:Int) else x1) > (0:Int) then (if (1000000000:Int)<x1 then (1000000000:Int) else x1) else (0:Int))≤1000000000)&&decide (([]:List Int).length≤35184372088832)) (cond (decide (((([]:List Int)++(nX (if (if (1000000000:Int)<x1 then (1000000000:Int) else x1) > (0:Int) then (if (1000000000:Int)<x1 then (1000000000:Int) else x1) else (0:Int))).1).length+[IntKind.wrap .u8 ((nX (if (if (1000000000:Int)<x1 then (1000000000:Int) else x1) > (0:Int) then (if (1000000000:Int)<x1 then (1000000000:Int) else x1) else (0:Int))).2)].length)*1≤MAXB)) (some (e_iputNum_nil ((([]:List Int)++(nX (if (if (1000000000:Int)<x1 then (1000000000:Int) else x1) > (0:Int) then (if (1000000000:Int)<x1 then (1000000000:Int) else x1) else (0:Int))).1)++[IntKind.wrap .u8 ((nX (if (if (1000000000:Int)<x1 then (1000000000:Int) else x1) > (0:Int) then (if (1000000000:Int)<x1 then (1000000000:Int) else x1) else (0:Int))).2)]))) none) none)) (by kernel_rfl) ?_
 exact (cndT (by have h1:=nX_len (clampI x1);have h2:=clampI_range x1;simp only [clampI] at h1 h2;simp only [decide_eq_true_eq,Bool.and_eq_true] at *;(try simp only [MAXB,List.length_append,List.length_cons,List.length_nil])<;>omega) (fun _h=>(cndT (by have h1:=nX_len (clampI x1);have h2:=clampI_range x1;simp only [clampI] at h1 h2;simp only [decide_eq_true_eq,Bool.and_eq_true] at *;(try simp only [MAXB,List.length_append,List.length_cons,List.length_nil])<;>omega) (fun _h=>rfl))))
noncomputable abbrev m_iputNum_nil:=win winIds (msum SM_iputNum_nil pre_iputNum_nil g_iputNum_nil)
theorem c_iputNum_nil:MContract Try.prog 113 m_iputNum_nil:=(mcM G20 (hl1 (i:=0) (by kernel_rfl) lw_iputNum_nil_0) run_iputNum_nil).win winIds
noncomputable def S21:Tab:=Tab.add S20 113 (m_iputNum_nil)
noncomputable def QF21:FuncId→Bool:=QF20
theorem G21:Good Try.prog tt S21 QF21:=G20.addM c_iputNum_nil (win_local _) (cbl Try.f113) (by kernel_rfl)
theorem iputNum_nil_eq (n:Int):iputNum_nil n=numB (clampN n):=by
 rw [← clampI_eq]
 rfl
theorem iputNum_nil_len (n:Int):(iputNum_nil n).length≤5:=by rw [iputNum_nil_eq];exact numB_len _

noncomputable abbrev SM_iputNum:SS:=⟨[.all 0 1,.t true (.int .i64)],[.rows 5 true (.int .u8)]⟩
noncomputable abbrev S_iputNum_0:SS:=⟨(.all 0 1::.t true (.int .i64)::jS22),[.rows 5 true (.int .u8)]⟩
noncomputable abbrev E_iputNum_0_0:SS:=⟨(.all 0 1::.t true (.int .i64)::jS22),[.rows 5 true (.int .u8)]⟩
noncomputable def st_iputNum_0 (x1:Int) (h0:List Int):RT S_iputNum_0.den:=(.br (decide (x1 > (127:Int))) (.br (decide ((h0.length+[IntKind.wrap .u8 (ior .i64 (128:Int) (iand .i64 x1 (127:Int)))].length)*1≤MAXB)) (.next (((),Int.fdiv x1 (2 ^ (7)),u23),(h0++[IntKind.wrap .u8 (ior .i64 (128:Int) (iand .i64 x1 (127:Int)))],()))) .fail) (.done (.exit 0) E_iputNum_0_0 (((),x1,u23),(h0,()))))
noncomputable def T_iputNum_0 (x1:Int) (h0:List Int):CT:=(.br (decide (0≤x1∧x1≤1000000000)&&decide (h0.length≤35184372088832)) (.done (.exit 0) E_iputNum_0_0 (((),((nX x1).2),u23),((h0++(nX x1).1),()))) .fail)
noncomputable abbrev sp_iputNum_0:S_iputNum_0.den→RT S_iputNum_0.den:=(fun d=>st_iputNum_0 d.1.2.1 d.2.1)
noncomputable abbrev pk_iputNum_0 (x1:Int) (h0:List Int):S_iputNum_0.den:=(((),x1,u23),(h0,()))
noncomputable def body_iputNum_0:Code:=((loopsIn 0 (bodyOf Try.f113)).getD 0 (0,.skip)).2
theorem R_iputNum_0 (x1:Int) (h0:List Int):(T_iputNum_0 x1 h0).val (D:=S_iputNum_0.den)=.fail∨Runs sp_iputNum_0 (pk_iputNum_0 x1 h0) (T_iputNum_0 x1 h0).val:=by
 cases hc:(decide (0≤x1∧x1≤1000000000)&&decide (h0.length≤35184372088832)) with
 | false=>left;simp only [T_iputNum_0,CT.val,hc,cond_false]
 | true =>
  right
  simp only [T_iputNum_0,CT.val,hc,cond_true]
  simp only [Bool.and_eq_true,decide_eq_true_eq] at hc
  rw [nX_eq']
  have key:∀ (k:Nat) (x1:Int) (h0:List Int),0≤x1→x1<128 ^ (k+1)→h0.length+k≤70368744177664→Runs sp_iputNum_0 (pk_iputNum_0 x1 h0) (((.done (.exit 0) E_iputNum_0_0 (((),((hiF gNum' k x1).2),u23),((h0++(hiF gNum' k x1).1),()))):CT).val (D:=S_iputNum_0.den)):=by
   intro k
   induction k with
   | zero =>
    intro x h h1 h2 h3
    have e1:decide (x > 127)=false:=decide_eq_false (by simp at h2;omega)
    refine .done (by simp) ?_
    simp only [sp_iputNum_0,st_iputNum_0,RT.val,e1,cond_false,hiF,List.append_nil]
   | succ k ih =>
    intro x h h1 h2 h3
    rw [Int.pow_succ] at h2
    by_cases hx:x > 127
    ·have e1:decide (x > 127)=true:=decide_eq_true hx
     have e2:decide ((h.length+[gNum' x].length)*1≤MAXB)=true:=decide_eq_true (by simp [MAXB];omega)
     simp only [gNum'] at e2
     have:=ih (Int.fdiv x (2 ^ 7)) (h++[gNum' x]) (by rw [fdiv128];omega) (by rw [fdiv128];omega) (by simp;omega)
     refine .next (d':=pk_iputNum_0 (Int.fdiv x (2 ^ 7)) (h++[gNum' x])) ?_ ?_
     ·simp only [sp_iputNum_0,st_iputNum_0,RT.val,e1,e2,cond_true];rfl
     ·have e3:hiF gNum' (k+1) x=(gNum' x::(hiF gNum' k (Int.fdiv x (2 ^ 7))).1,(hiF gNum' k (Int.fdiv x (2 ^ 7))).2):=by simp only [hiF,e1,cond_true]
      rw [e3]
      simpa [List.append_assoc] using this
    ·have e1:decide (x > 127)=false:=decide_eq_false hx
     refine .done (by simp) ?_
     simp only [sp_iputNum_0,st_iputNum_0,RT.val,e1,cond_false,hiF,List.append_nil]
  exact key 4 x1 h0 hc.1.1 (by have:=hc.1.2;simp;omega) (by have:=hc.2;omega)
theorem rdA_iputNum_0:RdA G21 (fun _ _=>none) 0 body_iputNum_0 S_iputNum_0 1 [0] (kepts [] [(0,[0,1])]) (fun d=>(sp_iputNum_0 d).opt 1 [0]):=by
 intro d
 kernel_rfl
noncomputable abbrev say_iputNum_0:St→Option Tree:=S_iputNum_0.say 1 [0] [] (fun d=>T_iputNum_0 d.1.2.1 d.2.1)
theorem lw_iputNum_0:LoopWp Try.prog say_iputNum_0 body_iputNum_0:=SS.wp2 hlz [] sp_iputNum_0 rdA_iputNum_0 (fun d=>rfl) _ (fun d=>R_iputNum_0 d.1.2.1 d.2.1)
noncomputable def iputNum (x1:Int) (h0:List Int):List Int:=((h0++(nX (if (if (1000000000:Int)<x1 then (1000000000:Int) else x1) > (0:Int) then (if (1000000000:Int)<x1 then (1000000000:Int) else x1) else (0:Int))).1)++[IntKind.wrap .u8 ((nX (if (if (1000000000:Int)<x1 then (1000000000:Int) else x1) > (0:Int) then (if (1000000000:Int)<x1 then (1000000000:Int) else x1) else (0:Int))).2)])
noncomputable abbrev e_iputNum (r:List Int):AV×List AObj×List Nat:=((.all 0 1),[(.rows 5 true (.int .u8) r)],[0])
noncomputable abbrev g_iputNum:SM_iputNum.den→AV×List AObj×List Nat:=fun d=>e_iputNum (iputNum d.1.2.1 d.2.1)
noncomputable def q_iputNum (x1:Int) (h0:List Int):Bool:=decide (h0.length≤17592186044416)
noncomputable abbrev pre_iputNum:SM_iputNum.den→Bool:=fun d=>q_iputNum d.1.2.1 d.2.1
noncomputable abbrev L_iputNum:Nat→St→Option Tree:=fun b=>match b with | 0=>say_iputNum_0 | _=>fun _=>none
theorem run_iputNum:RunM G21 (L_iputNum) Try.f113 SM_iputNum pre_iputNum g_iputNum:=by
 rintro ⟨⟨_,(x1:Int),_⟩,⟨(h0:List Int),_⟩⟩ hp
 change q_iputNum x1 h0=true at hp
 unfold q_iputNum at hp
 refine Eq.trans (b:=(cond (decide (0≤(if (if (1000000000:Int)<x1 then (1000000000:Int) else x1) > (0:Int) then (if (1000000000:Int)<x1 then (1000000000:Int) else x1) else (0:Int))∧(if (if (1000000000:Int)<x1 then (1000000000:Int) else x1) > (0:Int) then (if (1000000000:Int)<x1 then (1000000000:Int) else x1) else (0:Int))≤1000000000)&&decide (h0.length≤35184372088832)) (cond (decide (((h0++(nX (if (if (1000000000:Int)<x1 then (1000000000:Int) else x1) > (0:Int) then (if (1000000000:Int)<x1 then (1000000000:Int) else x1) else (0:Int))).1).length+[IntKind.wrap .u8 ((nX (if (if (1000000000:Int)<x1 then (1000000000:Int) else x1) > (0:Int) then (if (1000000000:Int)<x1 then (1000000000:Int) else x1) else (0:Int))).2)].length)*1≤MAXB)) (some (e_iputNum ((h0++(nX (if (if (1000000000:Int)<x1 then (1000000000:Int) else x1) > (0:Int) then (if (1000000000:Int)<x1 then (1000000000:Int) else x1) else (0:Int))).1)++[IntKind.wrap .u8 ((nX (if (if (1000000000:Int)<x1 then (1000000000:Int) else x1) > (0:Int) then (if (1000000000:Int)<x1 then (1000000000:Int) else x1) else (0:Int))).2)]))) none) none)) (by kernel_rfl) ?_
 exact (cndT (by have h1:=nX_len (clampI x1);have h2:=clampI_range x1;simp only [clampI] at h1 h2;simp only [q_iputNum,decide_eq_true_eq,Bool.and_eq_true] at *;(try simp only [MAXB,List.length_append,List.length_cons,List.length_nil])<;>omega) (fun _h=>(cndT (by have h1:=nX_len (clampI x1);have h2:=clampI_range x1;simp only [clampI] at h1 h2;simp only [q_iputNum,decide_eq_true_eq,Bool.and_eq_true] at *;(try simp only [MAXB,List.length_append,List.length_cons,List.length_nil])<;>omega) (fun _h=>rfl))))
noncomputable abbrev m_iputNum:=win winIds (msum SM_iputNum pre_iputNum g_iputNum)
theorem c_iputNum:MContract Try.prog 113 m_iputNum:=(mcM G21 (hl1 (i:=0) (by kernel_rfl) lw_iputNum_0) run_iputNum).win winIds
noncomputable def S22:Tab:=Tab.add S21 113 (orElseS (m_iputNum_nil) (m_iputNum))
noncomputable def QF22:FuncId→Bool:=QF21
theorem G22:Good Try.prog tt S22 QF22:=G21.addM (MContract.orElse c_iputNum_nil c_iputNum) (orElse_local (win_local _) (win_local _)) (cbl Try.f113) (by kernel_rfl)
theorem iputNum_eq (n:Int) (b:List Int):iputNum n b=b++numB (clampN n):=by
 rw [← clampI_eq,numB,← List.append_assoc]
 rfl
theorem iputNum_len (b:List Int) (n:Int):(iputNum n b).length≤b.length+5:=by
 rw [iputNum_eq,List.length_append]
 have:=numB_len (clampN n)
 omega

noncomputable abbrev SM_iputText:SS:=⟨[.all 0 1,.t true .str],[.rows 5 true (.int .u8)]⟩
noncomputable def iputText (x1:ByteArray) (h0:List Int):List Int:=((iputNum ((x1.size:Nat):Int) h0)++strInts x1)
noncomputable abbrev e_iputText (r:List Int):AV×List AObj×List Nat:=((.all 0 1),[(.rows 5 true (.int .u8) r)],[0])
noncomputable abbrev g_iputText:SM_iputText.den→AV×List AObj×List Nat:=fun d=>e_iputText (iputText d.1.2.1 d.2.1)
noncomputable def q_iputText (x1:ByteArray) (h0:List Int):Bool:=decide (h0.length≤8796093022208)&&okS x1
noncomputable abbrev pre_iputText:SM_iputText.den→Bool:=fun d=>q_iputText d.1.2.1 d.2.1
theorem run_iputText:RunM G22 (fun _ _=>none) Try.f147 SM_iputText pre_iputText g_iputText:=by
 rintro ⟨⟨_,(x1:ByteArray),_⟩,⟨(h0:List Int),_⟩⟩ hp
 change q_iputText x1 h0=true at hp
 unfold q_iputText at hp
 refine Eq.trans (b:=(cond (q_iputNum ((x1.size:Nat):Int) h0) (cond (decide ((iputNum ((x1.size:Nat):Int) h0).length+x1.size≤MAXB)) (some (e_iputText ((iputNum ((x1.size:Nat):Int) h0)++strInts x1))) none) none)) (by kernel_rfl) ?_
 exact (cndT (by have h1:=iputNum_len h0 ((x1.size:Nat):Int);simp only [q_iputNum,okS,decide_eq_true_eq,decide_eq_false_iff_not,Bool.and_eq_true] at *;(try simp [MAXB])<;>omega) (fun _h=>(cndT (by have h1:=iputNum_len h0 ((x1.size:Nat):Int);simp only [q_iputNum,okS,decide_eq_true_eq,decide_eq_false_iff_not,Bool.and_eq_true] at *;(try simp [MAXB])<;>omega) (fun _h=>rfl))))
noncomputable abbrev m_iputText:=win winIds (msum SM_iputText pre_iputText g_iputText)
theorem c_iputText:MContract Try.prog 147 m_iputText:=(mcM G22 hlz run_iputText).win winIds
noncomputable def S23:Tab:=Tab.add S22 147 (m_iputText)
noncomputable def QF23:FuncId→Bool:=QF22
theorem G23:Good Try.prog tt S23 QF23:=G22.addM c_iputText (win_local _) (cbl Try.f147) (by kernel_rfl)
theorem iputText_eq (b:List Int) (s:ByteArray) (h:okS s=true):iputText s b=b++textB s:=by
 simp only [okS,decide_eq_true_eq] at h
 simp only [iputText,iputNum_eq,textB,List.append_assoc]
 rw [clampN_of (by omega) (by omega)]
theorem iputText_len (b:List Int) (s:ByteArray) (h:okS s=true):(iputText s b).length≤b.length+5+s.size:=by
 rw [iputText_eq b s h,List.length_append]
 have:=textB_len s
 omega

noncomputable abbrev u30:=((),u29)
noncomputable def iOpPut (l:Lq1) (i:Nat) (h:List Int):List Int:=iputText (l.getD i dOp).2.2 (iputText (l.getD i dOp).2.1 (iputNum (l.getD i dOp).1 h))
noncomputable abbrev SM_iputOps_nil:SS:=⟨[.nil,.t false tq3],[]⟩
noncomputable abbrev S_iputOps_nil_0:SS:=⟨(.all 0 1::.junk::.junk::.junk::.junk::.junk::.junk::.junk::.junk::.junk::.junk::.t false tq3::.t true (.int .i64)::.t true (.int .i64)::jS15),[.rows 5 true (.int .u8)]⟩
noncomputable abbrev E_iputOps_nil_0_0:SS:=⟨(.all 0 1::jS28),[.rows 5 true (.int .u8)]⟩
noncomputable def st_iputOps_nil_0 (x11:Lq1) (x12:Int) (x13:Int) (h0:List Int):RT S_iputOps_nil_0.den:=(.br (decide (x13<x12)) (.br (decide (0≤x13∧x13<((x11.length:Nat):Int))) (.br (q_iputNum ((x11.getD x13.toNat ((0:Int),(bE,bE))).1) h0) (.br (q_iputText (((x11.getD x13.toNat ((0:Int),(bE,bE))).2).1) (iputNum ((x11.getD x13.toNat ((0:Int),(bE,bE))).1) h0)) (.br (q_iputText (((x11.getD x13.toNat ((0:Int),(bE,bE))).2).2) (iputText (((x11.getD x13.toNat ((0:Int),(bE,bE))).2).1) (iputNum ((x11.getD x13.toNat ((0:Int),(bE,bE))).1) h0))) (.next (((),(),(),(),(),(),(),(),(),(),(),x11,x12,IntKind.wrap .i64 (x13+(1:Int)),u16),((iputText (((x11.getD x13.toNat ((0:Int),(bE,bE))).2).2) (iputText (((x11.getD x13.toNat ((0:Int),(bE,bE))).2).1) (iputNum ((x11.getD x13.toNat ((0:Int),(bE,bE))).1) h0))),()))) .fail) .fail) .fail) .fail) (.done (.exit 0) E_iputOps_nil_0_0 ((u30),(h0,()))))
noncomputable def T_iputOps_nil_0 (x11:Lq1) (x12:Int) (x13:Int) (h0:List Int):CT:=(.br (decide (0≤x13)&&(decide (x12=((x11.length:Nat):Int))&&(decide (h0.length≤4194304*(x13.toNat+1))&&okOps x11))) (.done (.exit 0) E_iputOps_nil_0_0 ((u30),((foldN (iOpPut x11) (x11.length - x13.toNat) x13.toNat h0),()))) .fail)
noncomputable abbrev ap_iputOps_nil_0 {α:Sort _} (f:(Lq1)→Int→Int→(List Int)→α) (d:S_iputOps_nil_0.den):α:=f d.1.2.2.2.2.2.2.2.2.2.2.2.1 d.1.2.2.2.2.2.2.2.2.2.2.2.2.1 d.1.2.2.2.2.2.2.2.2.2.2.2.2.2.1 d.2.1
noncomputable abbrev sp_iputOps_nil_0:S_iputOps_nil_0.den→RT S_iputOps_nil_0.den:=(ap_iputOps_nil_0 st_iputOps_nil_0)
noncomputable abbrev pk_iputOps_nil_0 (x11:Lq1) (x12:Int) (x13:Int) (h0:List Int):S_iputOps_nil_0.den:=(((),(),(),(),(),(),(),(),(),(),(),x11,x12,x13,u16),(h0,()))
noncomputable def body_iputOps_nil_0:Code:=((loopsIn 0 (bodyOf Try.f114)).getD 0 (0,.skip)).2
theorem R_iputOps_nil_0 (x11:Lq1) (x12:Int) (x13:Int) (h0:List Int):(T_iputOps_nil_0 x11 x12 x13 h0).val (D:=S_iputOps_nil_0.den)=.fail∨Runs sp_iputOps_nil_0 (pk_iputOps_nil_0 x11 x12 x13 h0) (T_iputOps_nil_0 x11 x12 x13 h0).val:=by
 cases hc:(decide (0≤x13)&&(decide (x12=((x11.length:Nat):Int))&&(decide (h0.length≤4194304*(x13.toNat+1))&&okOps x11))) with
 | false=>left;simp only [T_iputOps_nil_0,CT.val,hc,cond_false]
 | true =>
  right
  simp only [T_iputOps_nil_0,CT.val,hc,cond_true]
  simp only [Bool.and_eq_true,decide_eq_true_eq] at hc
  obtain ⟨i,rfl⟩:=Int.eq_ofNat_of_zero_le hc.1
  obtain ⟨_,e1,hc⟩:=hc
  subst e1
  have hc:=And.intro (show True from trivial) hc
  have hs:=okOps_len hc.2.2
  have hb0:=hc.2.1
  simp only [Int.toNat_natCast] at hb0 ⊢
  refine Runs.foldN (step:=sp_iputOps_nil_0) (fun j b=>pk_iputOps_nil_0 x11 ((x11.length:Nat):Int) (j:Int) b) (fun i b=>b.length≤4194304*(i+1)) (x11.length) (iOpPut x11)
   (fin:=fun b=>((.done (.exit 0) E_iputOps_nil_0_0 ((u30),(b,()))):CT).val) (fun i b hi hb=>?_) (fun i b hi hb=>?_) (x11.length - i) i h0 rfl hb0
  ·obtain ⟨k1,k2⟩:=okOps_at hc.2.2 i hi
   have l1:=iputNum_len b (x11.getD i dOp).1
   have l2:=iputText_len (iputNum (x11.getD i dOp).1 b) (x11.getD i dOp).2.1 k1
   have l3:=iputText_len (iputText (x11.getD i dOp).2.1 (iputNum (x11.getD i dOp).1 b)) (x11.getD i dOp).2.2 k2
   have m1:=okS_le k1
   have m2:=okS_le k2
   have q1:q_iputNum (x11.getD i dOp).1 b=true:=by simp only [q_iputNum,decide_eq_true_eq];omega
   have q2:q_iputText (x11.getD i dOp).2.1 (iputNum (x11.getD i dOp).1 b)=true:=by simp only [q_iputText,k1,Bool.and_true,decide_eq_true_eq];omega
   have q3:q_iputText (x11.getD i dOp).2.2 (iputText (x11.getD i dOp).2.1 (iputNum (x11.getD i dOp).1 b))=true:=by simp only [q_iputText,k2,Bool.and_true,decide_eq_true_eq];omega
   refine ⟨by simp only [iOpPut];omega,?_⟩
   have h0a:decide ((i:Int)<((x11.length:Nat):Int))=true:=decide_eq_true (by omega)
   have h0b:decide (0≤(i:Int)∧(i:Int)<((x11.length:Nat):Int))=true:=decide_eq_true (by omega)
   simp only [dOp] at q1 q2 q3
   simp only [sp_iputOps_nil_0,st_iputOps_nil_0,RT.val,h0a,h0b,cond_true,wrapS i (by omega),Int.toNat_natCast,q1,q2,q3]
   rfl
  ·have h1:decide ((i:Int)<((x11.length:Nat):Int))=false:=decide_eq_false (by omega)
   exact ⟨by simp only [sp_iputOps_nil_0,st_iputOps_nil_0,RT.val,h1,cond_false];rfl,_,_,_,rfl,by simp⟩
theorem rdA_iputOps_nil_0:RdA G23 (fun _ _=>none) 0 body_iputOps_nil_0 S_iputOps_nil_0 0 [] (kepts [] [(0,[0])]) (fun d=>(sp_iputOps_nil_0 d).opt 0 []):=by
 intro d
 kernel_rfl
noncomputable abbrev say_iputOps_nil_0:St→Option Tree:=S_iputOps_nil_0.say 0 [] [] (ap_iputOps_nil_0 T_iputOps_nil_0)
theorem lw_iputOps_nil_0:LoopWp Try.prog say_iputOps_nil_0 body_iputOps_nil_0:=SS.wp2 hlz [] sp_iputOps_nil_0 rdA_iputOps_nil_0 (fun d=>rfl) _ (fun d=>R_iputOps_nil_0 d.1.2.2.2.2.2.2.2.2.2.2.2.1 d.1.2.2.2.2.2.2.2.2.2.2.2.2.1 d.1.2.2.2.2.2.2.2.2.2.2.2.2.2.1 d.2.1)
noncomputable def iputOps_nil (x1:Lq1):List Int:=(foldN (iOpPut x1) (x1.length - (0:Int).toNat) (0:Int).toNat (iputNum_nil ((x1.length:Nat):Int)))
noncomputable abbrev e_iputOps_nil (r:List Int):AV×List AObj×List Nat:=((.all 0 1),[(.rows 5 true (.int .u8) r)],[])
noncomputable abbrev g_iputOps_nil:SM_iputOps_nil.den→AV×List AObj×List Nat:=fun d=>e_iputOps_nil (iputOps_nil d.1.2.1)
noncomputable def q_iputOps_nil (x1:Lq1):Bool:=okOps x1
noncomputable abbrev pre_iputOps_nil:SM_iputOps_nil.den→Bool:=fun d=>q_iputOps_nil d.1.2.1
noncomputable abbrev L_iputOps_nil:Nat→St→Option Tree:=fun b=>match b with | 0=>say_iputOps_nil_0 | _=>fun _=>none
theorem run_iputOps_nil:RunM G23 (L_iputOps_nil) Try.f114 SM_iputOps_nil pre_iputOps_nil g_iputOps_nil:=by
 rintro ⟨⟨_,(x1:Lq1),_⟩,_⟩ hp
 change q_iputOps_nil x1=true at hp
 unfold q_iputOps_nil at hp
 refine Eq.trans (b:=(cond (decide (0≤(0:Int))&&(decide (((x1.length:Nat):Int)=((x1.length:Nat):Int))&&(decide ((iputNum_nil ((x1.length:Nat):Int)).length≤4194304*((0:Int).toNat+1))&&okOps x1))) (some (e_iputOps_nil (foldN (iOpPut x1) (x1.length - (0:Int).toNat) (0:Int).toNat (iputNum_nil ((x1.length:Nat):Int))))) none)) (by kernel_rfl) ?_
 exact (cndT (by have h1:=iputNum_nil_len ((x1.length:Nat):Int);have hs:=okOps_len hp;simp only [hp,Bool.and_true,Bool.true_and,Bool.and_eq_true,decide_eq_true_eq]<;>(try simp only [Int.toNat_zero,Int.le_refl,true_and,and_true,eq_self] at h1 ⊢)<;>omega) (fun _h=>rfl))
noncomputable abbrev m_iputOps_nil:=win winIds (msum SM_iputOps_nil pre_iputOps_nil g_iputOps_nil)
theorem c_iputOps_nil:MContract Try.prog 114 m_iputOps_nil:=(mcM G23 (hl1 (i:=0) (by kernel_rfl) lw_iputOps_nil_0) run_iputOps_nil).win winIds
noncomputable def S24:Tab:=Tab.add S23 114 (m_iputOps_nil)
noncomputable def QF24:FuncId→Bool:=QF23
theorem G24:Good Try.prog tt S24 QF24:=G23.addM c_iputOps_nil (win_local _) (cbl Try.f114) (by kernel_rfl)

noncomputable abbrev SM_iputOps:SS:=⟨[.all 0 1,.t false tq3],[.rows 5 true (.int .u8)]⟩
noncomputable abbrev S_iputOps_0:SS:=⟨(.all 0 1::.junk::.junk::.junk::.junk::.junk::.junk::.junk::.junk::.junk::.junk::.t false tq3::.t true (.int .i64)::.t true (.int .i64)::jS15),[.rows 5 true (.int .u8)]⟩
noncomputable abbrev E_iputOps_0_0:SS:=⟨(.all 0 1::jS28),[.rows 5 true (.int .u8)]⟩
noncomputable def st_iputOps_0 (x11:Lq1) (x12:Int) (x13:Int) (h0:List Int):RT S_iputOps_0.den:=(.br (decide (x13<x12)) (.br (decide (0≤x13∧x13<((x11.length:Nat):Int))) (.br (q_iputNum ((x11.getD x13.toNat ((0:Int),(bE,bE))).1) h0) (.br (q_iputText (((x11.getD x13.toNat ((0:Int),(bE,bE))).2).1) (iputNum ((x11.getD x13.toNat ((0:Int),(bE,bE))).1) h0)) (.br (q_iputText (((x11.getD x13.toNat ((0:Int),(bE,bE))).2).2) (iputText (((x11.getD x13.toNat ((0:Int),(bE,bE))).2).1) (iputNum ((x11.getD x13.toNat ((0:Int),(bE,bE))).1) h0))) (.next (((),(),(),(),(),(),(),(),(),(),(),x11,x12,IntKind.wrap .i64 (x13+(1:Int)),u16),((iputText (((x11.getD x13.toNat ((0:Int),(bE,bE))).2).2) (iputText (((x11.getD x13.toNat ((0:Int),(bE,bE))).2).1) (iputNum ((x11.getD x13.toNat ((0:Int),(bE,bE))).1) h0))),()))) .fail) .fail) .fail) .fail) (.done (.exit 0) E_iputOps_0_0 ((u30),(h0,()))))
noncomputable def T_iputOps_0 (x11:Lq1) (x12:Int) (x13:Int) (h0:List Int):CT:=(.br (decide (0≤x13)&&(decide (x12=((x11.length:Nat):Int))&&(decide (h0.length≤4194304*(x13.toNat+1))&&okOps x11))) (.done (.exit 0) E_iputOps_0_0 ((u30),((foldN (iOpPut x11) (x11.length - x13.toNat) x13.toNat h0),()))) .fail)
noncomputable abbrev ap_iputOps_0 {α:Sort _} (f:(Lq1)→Int→Int→(List Int)→α) (d:S_iputOps_0.den):α:=f d.1.2.2.2.2.2.2.2.2.2.2.2.1 d.1.2.2.2.2.2.2.2.2.2.2.2.2.1 d.1.2.2.2.2.2.2.2.2.2.2.2.2.2.1 d.2.1
noncomputable abbrev sp_iputOps_0:S_iputOps_0.den→RT S_iputOps_0.den:=(ap_iputOps_0 st_iputOps_0)
noncomputable abbrev pk_iputOps_0 (x11:Lq1) (x12:Int) (x13:Int) (h0:List Int):S_iputOps_0.den:=(((),(),(),(),(),(),(),(),(),(),(),x11,x12,x13,u16),(h0,()))
noncomputable def body_iputOps_0:Code:=((loopsIn 0 (bodyOf Try.f114)).getD 0 (0,.skip)).2
theorem R_iputOps_0 (x11:Lq1) (x12:Int) (x13:Int) (h0:List Int):(T_iputOps_0 x11 x12 x13 h0).val (D:=S_iputOps_0.den)=.fail∨Runs sp_iputOps_0 (pk_iputOps_0 x11 x12 x13 h0) (T_iputOps_0 x11 x12 x13 h0).val:=by
 cases hc:(decide (0≤x13)&&(decide (x12=((x11.length:Nat):Int))&&(decide (h0.length≤4194304*(x13.toNat+1))&&okOps x11))) with
 | false=>left;simp only [T_iputOps_0,CT.val,hc,cond_false]
 | true =>
  right
  simp only [T_iputOps_0,CT.val,hc,cond_true]
  simp only [Bool.and_eq_true,decide_eq_true_eq] at hc
  obtain ⟨i,rfl⟩:=Int.eq_ofNat_of_zero_le hc.1
  obtain ⟨_,e1,hc⟩:=hc
  subst e1
  have hc:=And.intro (show True from trivial) hc
  have hs:=okOps_len hc.2.2
  have hb0:=hc.2.1
  simp only [Int.toNat_natCast] at hb0 ⊢
  refine Runs.foldN (step:=sp_iputOps_0) (fun j b=>pk_iputOps_0 x11 ((x11.length:Nat):Int) (j:Int) b) (fun i b=>b.length≤4194304*(i+1)) (x11.length) (iOpPut x11)
   (fin:=fun b=>((.done (.exit 0) E_iputOps_0_0 ((u30),(b,()))):CT).val) (fun i b hi hb=>?_) (fun i b hi hb=>?_) (x11.length - i) i h0 rfl hb0
  ·obtain ⟨k1,k2⟩:=okOps_at hc.2.2 i hi
   have l1:=iputNum_len b (x11.getD i dOp).1
   have l2:=iputText_len (iputNum (x11.getD i dOp).1 b) (x11.getD i dOp).2.1 k1
   have l3:=iputText_len (iputText (x11.getD i dOp).2.1 (iputNum (x11.getD i dOp).1 b)) (x11.getD i dOp).2.2 k2
   have m1:=okS_le k1
   have m2:=okS_le k2
   have q1:q_iputNum (x11.getD i dOp).1 b=true:=by simp only [q_iputNum,decide_eq_true_eq];omega
   have q2:q_iputText (x11.getD i dOp).2.1 (iputNum (x11.getD i dOp).1 b)=true:=by simp only [q_iputText,k1,Bool.and_true,decide_eq_true_eq];omega
   have q3:q_iputText (x11.getD i dOp).2.2 (iputText (x11.getD i dOp).2.1 (iputNum (x11.getD i dOp).1 b))=true:=by simp only [q_iputText,k2,Bool.and_true,decide_eq_true_eq];omega
   refine ⟨by simp only [iOpPut];omega,?_⟩
   have h0a:decide ((i:Int)<((x11.length:Nat):Int))=true:=decide_eq_true (by omega)
   have h0b:decide (0≤(i:Int)∧(i:Int)<((x11.length:Nat):Int))=true:=decide_eq_true (by omega)
   simp only [dOp] at q1 q2 q3
   simp only [sp_iputOps_0,st_iputOps_0,RT.val,h0a,h0b,cond_true,wrapS i (by omega),Int.toNat_natCast,q1,q2,q3]
   rfl
  ·have h1:decide ((i:Int)<((x11.length:Nat):Int))=false:=decide_eq_false (by omega)
   exact ⟨by simp only [sp_iputOps_0,st_iputOps_0,RT.val,h1,cond_false];rfl,_,_,_,rfl,by simp⟩
theorem rdA_iputOps_0:RdA G24 (fun _ _=>none) 0 body_iputOps_0 S_iputOps_0 1 [0] (kepts [] [(0,[0])]) (fun d=>(sp_iputOps_0 d).opt 1 [0]):=by
 intro d
 kernel_rfl
noncomputable abbrev say_iputOps_0:St→Option Tree:=S_iputOps_0.say 1 [0] [] (ap_iputOps_0 T_iputOps_0)
theorem lw_iputOps_0:LoopWp Try.prog say_iputOps_0 body_iputOps_0:=SS.wp2 hlz [] sp_iputOps_0 rdA_iputOps_0 (fun d=>rfl) _ (fun d=>R_iputOps_0 d.1.2.2.2.2.2.2.2.2.2.2.2.1 d.1.2.2.2.2.2.2.2.2.2.2.2.2.1 d.1.2.2.2.2.2.2.2.2.2.2.2.2.2.1 d.2.1)
noncomputable def iputOps (x1:Lq1) (h0:List Int):List Int:=(foldN (iOpPut x1) (x1.length - (0:Int).toNat) (0:Int).toNat (iputNum ((x1.length:Nat):Int) h0))
noncomputable abbrev e_iputOps (r:List Int):AV×List AObj×List Nat:=((.all 0 1),[(.rows 5 true (.int .u8) r)],[0])
noncomputable abbrev g_iputOps:SM_iputOps.den→AV×List AObj×List Nat:=fun d=>e_iputOps (iputOps d.1.2.1 d.2.1)
noncomputable def q_iputOps (x1:Lq1) (h0:List Int):Bool:=decide (h0.length≤1000)&&okOps x1
noncomputable abbrev pre_iputOps:SM_iputOps.den→Bool:=fun d=>q_iputOps d.1.2.1 d.2.1
noncomputable abbrev L_iputOps:Nat→St→Option Tree:=fun b=>match b with | 0=>say_iputOps_0 | _=>fun _=>none
theorem run_iputOps:RunM G24 (L_iputOps) Try.f114 SM_iputOps pre_iputOps g_iputOps:=by
 rintro ⟨⟨_,(x1:Lq1),_⟩,⟨(h0:List Int),_⟩⟩ hp
 change q_iputOps x1 h0=true at hp
 unfold q_iputOps at hp
 refine Eq.trans (b:=(cond (q_iputNum ((x1.length:Nat):Int) h0) (cond (decide (0≤(0:Int))&&(decide (((x1.length:Nat):Int)=((x1.length:Nat):Int))&&(decide ((iputNum ((x1.length:Nat):Int) h0).length≤4194304*((0:Int).toNat+1))&&okOps x1))) (some (e_iputOps (foldN (iOpPut x1) (x1.length - (0:Int).toNat) (0:Int).toNat (iputNum ((x1.length:Nat):Int) h0)))) none) none)) (by kernel_rfl) ?_
 exact (cndT (by obtain ⟨hp1,hp2⟩:=(Bool.and_eq_true _ _).mp hp;have h1:=iputNum_len h0 ((x1.length:Nat):Int);have hs:=okOps_len hp2;simp only [q_iputNum,hp2,Bool.and_true,Bool.true_and,Bool.and_eq_true,decide_eq_true_eq] at hp1 ⊢<;>(try simp only [Int.toNat_zero,Int.le_refl,true_and,and_true,eq_self] at h1 ⊢)<;>omega) (fun _h=>(cndT (by obtain ⟨hp1,hp2⟩:=(Bool.and_eq_true _ _).mp hp;have h1:=iputNum_len h0 ((x1.length:Nat):Int);have hs:=okOps_len hp2;simp only [q_iputNum,hp2,Bool.and_true,Bool.true_and,Bool.and_eq_true,decide_eq_true_eq] at hp1 ⊢<;>(try simp only [Int.toNat_zero,Int.le_refl,true_and,and_true,eq_self] at h1 ⊢)<;>omega) (fun _h=>rfl))))
noncomputable abbrev m_iputOps:=win winIds (msum SM_iputOps pre_iputOps g_iputOps)
theorem c_iputOps:MContract Try.prog 114 m_iputOps:=(mcM G24 (hl1 (i:=0) (by kernel_rfl) lw_iputOps_0) run_iputOps).win winIds
noncomputable def S25:Tab:=Tab.add S24 114 (orElseS (m_iputOps_nil) (m_iputOps))
noncomputable def QF25:FuncId→Bool:=QF24
theorem G25:Good Try.prog tt S25 QF25:=G24.addM (MContract.orElse c_iputOps_nil c_iputOps) (orElse_local (win_local _) (win_local _)) (cbl Try.f114) (by kernel_rfl)
theorem iputOps_eq (l:Lq1) (h:List Int) (ho:okOps l=true):iputOps l h=h++(numB (clampN (l.length:Int))++(l.map opB).flatten):=by
 simp only [iputOps]
 have:=foldN_app opB dOp l (iOpPut l) (fun i h hi=>by
  obtain ⟨k1,k2⟩:=okOps_at ho i hi
  simp only [iOpPut,iputText_eq _ _ k1,iputText_eq _ _ k2,iputNum_eq,opB,List.append_assoc]) l.length 0 (iputNum (l.length:Int) h) (by omega)
 rw [iputNum_eq,List.drop_zero,List.append_assoc] at this
 rw [← this,iputNum_eq]
 rfl


noncomputable abbrev P_slices_Clone_byte:List PSh:=[.t t_sy]
noncomputable def slices_Clone_byte (a0:List (Int)):List (Int):=a0
noncomputable abbrev e_slices_Clone_byte (r:List (Int)):AV×List AObj:=(.all 0 1,[.rows 5 true (.int .u8) r])
noncomputable abbrev g_slices_Clone_byte:pshsDen P_slices_Clone_byte→AV×List AObj:=fun d=>e_slices_Clone_byte (slices_Clone_byte d.1)
noncomputable def q_slices_Clone_byte (a0:List (Int)):Bool:=decide ((([]:List (Int)).length+a0.length)*1≤MAXB)
noncomputable abbrev pre_slices_Clone_byte:pshsDen P_slices_Clone_byte→Bool:=fun d=>q_slices_Clone_byte d.1
theorem r1_slices_Clone_byte (a0:List (Int)) (h0:0<a0.length) (hp:q_slices_Clone_byte a0=true):runP false Try.prog tt S25 QF25 (fun _ _=>none) Try.f169 [.t (Ty.sl (.int .u8)).flat t_sy a0]=some (e_slices_Clone_byte a0):=by
 refine Eq.trans (b:=cond (decide (0<a0.length)) (cond (q_slices_Clone_byte a0) (some (e_slices_Clone_byte a0)) none) none) (by kernel_rfl) ?_
 rw [decide_eq_true h0,hp];rfl
theorem r2_slices_Clone_byte (A:Option Addr) (c:Nat):runP false Try.prog tt S25 QF25 (fun _ _=>none) Try.f169 [.raw (.slice A 0 c)]=some (e_slices_Clone_byte []):=by
 cases A<;>kernel_rfl
theorem c_slices_Clone_byte:PContract Try.prog 169 (sumOf P_slices_Clone_byte pre_slices_Clone_byte g_slices_Clone_byte):=PContract.split (e:=(.int .u8)) (pre:=q_slices_Clone_byte) (g:=fun a0=>e_slices_Clone_byte (slices_Clone_byte a0)) (fun l h0 hp=>PCalls.of_run false G25 (fn:=Try.f169) (by kernel_rfl) (L:=fun _ _=>none) (by rw [show loopsIn 0 (bodyOf Try.f169)=[] by kernel_rfl];simp) (r1_slices_Clone_byte l h0 hp) rfl rfl) (fun A c=>PCalls.of_run false G25 (fn:=Try.f169) (by kernel_rfl) (L:=fun _ _=>none) (by rw [show loopsIn 0 (bodyOf Try.f169)=[] by kernel_rfl];simp) (r2_slices_Clone_byte A c) rfl rfl)
noncomputable def S26:Tab:=Tab.add S25 169 (lift (sumOf P_slices_Clone_byte pre_slices_Clone_byte g_slices_Clone_byte))
noncomputable def QF26:FuncId→Bool:=QF25
theorem G26:Good Try.prog tt S26 QF26:=G25.add c_slices_Clone_byte ⟨Try.f169,by kernel_rfl,by kernel_rfl,by kernel_rfl⟩ (by kernel_rfl)

noncomputable abbrev u35:=((),u34)
noncomputable abbrev jS29:List Sh:=.junk::jS28
noncomputable abbrev u36:=((),u35)
noncomputable abbrev jA29:List AV:=.junk::jA28
noncomputable abbrev P_iPadded:List PSh:=[.t t_sy]
noncomputable def body_iPadded_0:Code:=((loopsIn 0 (bodyOf Try.f150)).getD 0 (0,.skip)).2
noncomputable def body_iPadded_1:Code:=((loopsIn 0 (bodyOf Try.f150)).getD 1 (0,.skip)).2
noncomputable abbrev S_iPadded_0:SS:=⟨(.t false t_sy::.junk::.junk::.all 0 1::jS31),[.rows 5 true (.int .u8)]⟩
noncomputable abbrev E_iPadded_0_0:SS:=⟨(.t false t_sy::.junk::.junk::.all 0 1::jS31),[.rows 5 true (.int .u8)]⟩
noncomputable def st_iPadded_0 (x0:List Int) (h0:List Int):RT S_iPadded_0.den:=(.br ((Int.tmod (IntKind.wrap .i64 (((h0.length:Nat):Int)+(8:Int))) (64:Int)) != (0:Int)) (.br (decide ((h0.length+[(0:Int)].length)*1≤MAXB)) (.next ((x0,u35),(h0++[(0:Int)],()))) .fail) (.done (.exit 0) E_iPadded_0_0 ((x0,u35),(h0,()))))
noncomputable abbrev V_iPadded_0:=(List Int)×(List Int)
noncomputable abbrev A_iPadded_0:=Nat×(List Int)×(List Int)
noncomputable def fl_iPadded_0:A_iPadded_0:=(99,([]:List Int),([]:List Int))
noncomputable def ss_iPadded_0 (x0:List Int) (h0:List Int):V_iPadded_0 ⊕ A_iPadded_0:=(cond ((Int.tmod (IntKind.wrap .i64 (((h0.length:Nat):Int)+(8:Int))) (64:Int)) != (0:Int)) (cond (decide ((h0.length+[(0:Int)].length)*1≤MAXB)) (.inl (x0,h0++[(0:Int)])) (.inr fl_iPadded_0)) (.inr (0,x0,h0)))
noncomputable def it_iPadded_0 (x0:List Int) (h0:List Int):A_iPadded_0:=itX (fun v:V_iPadded_0=>ss_iPadded_0 v.1 v.2) fl_iPadded_0 (x0,h0)
noncomputable def ct_iPadded_0 (a:A_iPadded_0):CT:=(.br (a.1==0) (.done (.exit 0) E_iPadded_0_0 ((a.2.1,u35),(a.2.2,()))) .fail)
noncomputable def T_iPadded_0 (x0:List Int) (h0:List Int):CT:=ct_iPadded_0 (it_iPadded_0 x0 h0)
noncomputable abbrev sp_iPadded_0:S_iPadded_0.den→RT S_iPadded_0.den:=(fun d=>st_iPadded_0 d.1.1 d.2.1)
noncomputable abbrev pv_iPadded_0 (v:V_iPadded_0):S_iPadded_0.den:=((v.1,u35),(v.2,()))
theorem rl_iPadded_0:(∀ v:V_iPadded_0,(st_iPadded_0 v.1 v.2).val=relS pv_iPadded_0 ct_iPadded_0 (ss_iPadded_0 v.1 v.2))∧∀ a:A_iPadded_0,CEnd S_iPadded_0.den (ct_iPadded_0 a):=⟨fun v=>(relB (relB rfl rfl) rfl),fun a=>(cendB (cendD (by simp)) cendF)⟩
noncomputable def ox_iPadded_0 (x0:List Int) (h0:List Int):Option (Ex×St):=(cond ((Int.tmod (IntKind.wrap .i64 (((h0.length:Nat):Int)+(8:Int))) (64:Int)) != (0:Int)) (cond (decide ((h0.length+[(0:Int)].length)*1≤MAXB)) (some (.normal,(⟨((.t false t_sy x0)::.junk::.junk::(.all 0 1)::jA31),[(.rows 5 true (.int .u8) (h0++[(0:Int)]))],0,[]⟩:St))) none) (some ((.exit 0),(⟨((.t false t_sy x0)::.junk::.junk::(.all 0 1)::jA31),[(.rows 5 true (.int .u8) h0)],0,[]⟩:St))))
theorem rdA_iPadded_0:RdA G26 (fun _ _=>none) 0 body_iPadded_0 S_iPadded_0 0 [] (kepts [] [(0,[0,3])]) (fun d=>ox_iPadded_0 d.1.1 d.2.1):=by
 intro d
 kernel_rfl
theorem rdB_iPadded_0:∀ d:S_iPadded_0.den,(fun d=>ox_iPadded_0 d.1.1 d.2.1) d=(sp_iPadded_0 d).opt 0 []:=by
 intro d
 kernel_rfl
noncomputable abbrev say_iPadded_0:St→Option Tree:=S_iPadded_0.say 0 [] [] (fun d=>T_iPadded_0 d.1.1 d.2.1)
theorem lw_iPadded_0:LoopWp Try.prog say_iPadded_0 body_iPadded_0:=SS.wp2 hlz [] sp_iPadded_0 rdA_iPadded_0 rdB_iPadded_0 _ (fun d=>Runs.ofI2 (step:=sp_iPadded_0) pv_iPadded_0 rl_iPadded_0 rfl (d.1.1,d.2.1))
noncomputable abbrev S_iPadded_1:SS:=⟨(.junk::.junk::.junk::.all 0 1::.t true (.int .i64)::.t true (.int .i64)::jS29),[.rows 5 true (.int .u8)]⟩
noncomputable abbrev E_iPadded_1_0:SS:=⟨(.junk::.junk::.junk::.all 0 1::jS31),[.rows 5 true (.int .u8)]⟩
noncomputable def st_iPadded_1 (x4:Int) (x5:Int) (h0:List Int):RT S_iPadded_1.den:=(.br (decide (x5 ≥ (0:Int))) (.br (decide (0≤(IntKind.wrap .u64 (IntKind.wrap .i64 ((8:Int)*x5))))) (.br (decide ((h0.length+[IntKind.wrap .u8 (Int.fdiv x4 (2 ^ (min (Int.toNat (IntKind.wrap .u64 (IntKind.wrap .i64 ((8:Int)*x5)))) (IntKind.bits .i64))))].length)*1≤MAXB)) (.next (((),(),(),(),x4,IntKind.wrap .i64 (x5 - (1:Int)),u30),(h0++[IntKind.wrap .u8 (Int.fdiv x4 (2 ^ (min (Int.toNat (IntKind.wrap .u64 (IntKind.wrap .i64 ((8:Int)*x5)))) (IntKind.bits .i64))))],()))) .fail) .fail) (.done (.exit 2) E_iPadded_1_0 ((u36),(h0,()))))
noncomputable abbrev V_iPadded_1:=(Int)×(Int)×(List Int)
noncomputable abbrev A_iPadded_1:=Nat×(List Int)
noncomputable def fl_iPadded_1:A_iPadded_1:=(99,([]:List Int))
noncomputable def ss_iPadded_1 (x4:Int) (x5:Int) (h0:List Int):V_iPadded_1 ⊕ A_iPadded_1:=(cond (decide (x5 ≥ (0:Int))) (cond (decide (0≤(IntKind.wrap .u64 (IntKind.wrap .i64 ((8:Int)*x5))))) (cond (decide ((h0.length+[IntKind.wrap .u8 (Int.fdiv x4 (2 ^ (min (Int.toNat (IntKind.wrap .u64 (IntKind.wrap .i64 ((8:Int)*x5)))) (IntKind.bits .i64))))].length)*1≤MAXB)) (.inl (x4,IntKind.wrap .i64 (x5 - (1:Int)),h0++[IntKind.wrap .u8 (Int.fdiv x4 (2 ^ (min (Int.toNat (IntKind.wrap .u64 (IntKind.wrap .i64 ((8:Int)*x5)))) (IntKind.bits .i64))))])) (.inr fl_iPadded_1)) (.inr fl_iPadded_1)) (.inr (0,h0)))
noncomputable def it_iPadded_1 (x4:Int) (x5:Int) (h0:List Int):A_iPadded_1:=itX (fun v:V_iPadded_1=>ss_iPadded_1 v.1 v.2.1 v.2.2) fl_iPadded_1 (x4,x5,h0)
noncomputable def ct_iPadded_1 (a:A_iPadded_1):CT:=(.br (a.1==0) (.done (.exit 2) E_iPadded_1_0 ((u36),(a.2,()))) .fail)
noncomputable def T_iPadded_1 (x4:Int) (x5:Int) (h0:List Int):CT:=ct_iPadded_1 (it_iPadded_1 x4 x5 h0)
noncomputable abbrev sp_iPadded_1:S_iPadded_1.den→RT S_iPadded_1.den:=(fun d=>st_iPadded_1 d.1.2.2.2.2.1 d.1.2.2.2.2.2.1 d.2.1)
noncomputable abbrev pv_iPadded_1 (v:V_iPadded_1):S_iPadded_1.den:=(((),(),(),(),v.1,v.2.1,u30),(v.2.2,()))
theorem rl_iPadded_1:(∀ v:V_iPadded_1,(st_iPadded_1 v.1 v.2.1 v.2.2).val=relS pv_iPadded_1 ct_iPadded_1 (ss_iPadded_1 v.1 v.2.1 v.2.2))∧∀ a:A_iPadded_1,CEnd S_iPadded_1.den (ct_iPadded_1 a):=⟨fun v=>(relB (relB (relB rfl rfl) rfl) rfl),fun a=>(cendB (cendD (by simp)) cendF)⟩
noncomputable def ox_iPadded_1 (x4:Int) (x5:Int) (h0:List Int):Option (Ex×St):=(cond (decide (x5 ≥ (0:Int))) (cond (decide (0≤(IntKind.wrap .u64 (IntKind.wrap .i64 ((8:Int)*x5))))) (cond (decide ((h0.length+[IntKind.wrap .u8 (Int.fdiv x4 (2 ^ (min (Int.toNat (IntKind.wrap .u64 (IntKind.wrap .i64 ((8:Int)*x5)))) (IntKind.bits .i64))))].length)*1≤MAXB)) (some (.normal,(⟨(.junk::.junk::.junk::(.all 0 1)::(.t true (.int .i64) x4)::(.t true (.int .i64) (IntKind.wrap .i64 (x5 - (1:Int))))::jA29),[(.rows 5 true (.int .u8) (h0++[IntKind.wrap .u8 (Int.fdiv x4 (2 ^ (min (Int.toNat (IntKind.wrap .u64 (IntKind.wrap .i64 ((8:Int)*x5)))) (IntKind.bits .i64))))]))],0,[]⟩:St))) none) none) (some ((.exit 2),(⟨(.junk::.junk::.junk::(.all 0 1)::jA31),[(.rows 5 true (.int .u8) h0)],0,[]⟩:St))))
theorem rdA_iPadded_1:RdA G26 (fun _ _=>none) 2 body_iPadded_1 S_iPadded_1 0 [] (kepts [] [(2,[3])]) (fun d=>ox_iPadded_1 d.1.2.2.2.2.1 d.1.2.2.2.2.2.1 d.2.1):=by
 intro d
 kernel_rfl
theorem rdB_iPadded_1:∀ d:S_iPadded_1.den,(fun d=>ox_iPadded_1 d.1.2.2.2.2.1 d.1.2.2.2.2.2.1 d.2.1) d=(sp_iPadded_1 d).opt 0 []:=by
 intro d
 kernel_rfl
noncomputable abbrev say_iPadded_1:St→Option Tree:=S_iPadded_1.say 0 [] [] (fun d=>T_iPadded_1 d.1.2.2.2.2.1 d.1.2.2.2.2.2.1 d.2.1)
theorem lw_iPadded_1:LoopWp Try.prog say_iPadded_1 body_iPadded_1:=SS.wp2 hlz [] sp_iPadded_1 rdA_iPadded_1 rdB_iPadded_1 _ (fun d=>Runs.ofI2 (step:=sp_iPadded_1) pv_iPadded_1 rl_iPadded_1 rfl (d.1.2.2.2.2.1,d.1.2.2.2.2.2.1,d.2.1))
noncomputable def k1_iPadded (a0:List Int):=it_iPadded_1 (IntKind.wrap .i64 ((8:Int)*((((it_iPadded_0 a0 ((slices_Clone_byte a0)++[(128:Int)])).2.1).length:Nat):Int))) (7:Int) ((it_iPadded_0 a0 ((slices_Clone_byte a0)++[(128:Int)])).2.2)
noncomputable def iPadded (a0:List Int):List Int:=((k1_iPadded a0).2)
noncomputable abbrev e_iPadded (r:List Int):AV×List AObj:=((.t true t_sy r),[])
noncomputable abbrev g_iPadded:pshsDen P_iPadded→AV×List AObj:=fun d=>e_iPadded (iPadded d.1)
noncomputable def q_iPadded (a0:List Int):Bool:=(q_slices_Clone_byte a0)&&((decide (((slices_Clone_byte a0).length+[(128:Int)].length)*1≤MAXB))&&(((it_iPadded_0 a0 ((slices_Clone_byte a0)++[(128:Int)])).1==0)&&((k1_iPadded a0).1==0)))
noncomputable abbrev pre_iPadded:pshsDen P_iPadded→Bool:=fun d=>q_iPadded d.1
noncomputable abbrev L_iPadded:Nat→St→Option Tree:=fun b=>match b with | 0=>say_iPadded_0 | 2=>say_iPadded_1 | _=>fun _=>none
theorem run_iPadded:RunP true G26 (L_iPadded) Try.f150 P_iPadded pre_iPadded g_iPadded:=by
 rintro ⟨a0,_⟩ hp
 change q_iPadded a0=true at hp
 unfold q_iPadded at hp
 refine Eq.trans (b:=(cond (q_slices_Clone_byte a0) (cond (decide (((slices_Clone_byte a0).length+[(128:Int)].length)*1≤MAXB)) (cond ((it_iPadded_0 a0 ((slices_Clone_byte a0)++[(128:Int)])).1==0) (cond ((k1_iPadded a0).1==0) (some (e_iPadded ((k1_iPadded a0).2))) none) none) none) none)) (by kernel_rfl) ?_
 exact (cndA hp fun hp=>(cndA hp fun hp=>(cndA hp fun hp=>(cndT hp fun _h=>rfl))))
theorem c_iPadded:PContract Try.prog 150 (sumOf P_iPadded pre_iPadded g_iPadded):=pcD true G26 (by
  rw [show loopsIn 0 (bodyOf Try.f150)=[(0,body_iPadded_0),(2,body_iPadded_1)] by kernel_rfl];intro p hp;simp only [List.mem_cons,List.mem_nil_iff,or_false] at hp
  rcases hp with rfl | rfl
  ·exact lw_iPadded_0
  ·exact lw_iPadded_1) run_iPadded
noncomputable def S27:Tab:=Tab.add S26 150 (lift (sumOf P_iPadded pre_iPadded g_iPadded))
noncomputable def QF27:FuncId→Bool:=qadd QF26 150
theorem G27:Good Try.prog tt S27 QF27:=G26.addQ c_iPadded (cbl Try.f150) (fun _=>rfl)

noncomputable abbrev P_irounds:List PSh:=[]
noncomputable def irounds :List Int:=[(1116352408:Int),(1899447441:Int),(3049323471:Int),(3921009573:Int),(961987163:Int),(1508970993:Int),(2453635748:Int),(2870763221:Int),(3624381080:Int),(310598401:Int),(607225278:Int),(1426881987:Int),(1925078388:Int),(2162078206:Int),(2614888103:Int),(3248222580:Int),(3835390401:Int),(4022224774:Int),(264347078:Int),(604807628:Int),(770255983:Int),(1249150122:Int),(1555081692:Int),(1996064986:Int),(2554220882:Int),(2821834349:Int),(2952996808:Int),(3210313671:Int),(3336571891:Int),(3584528711:Int),(113926993:Int),(338241895:Int),(666307205:Int),(773529912:Int),(1294757372:Int),(1396182291:Int),(1695183700:Int),(1986661051:Int),(2177026350:Int),(2456956037:Int),(2730485921:Int),(2820302411:Int),(3259730800:Int),(3345764771:Int),(3516065817:Int),(3600352804:Int),(4094571909:Int),(275423344:Int),(430227734:Int),(506948616:Int),(659060556:Int),(883997877:Int),(958139571:Int),(1322822218:Int),(1537002063:Int),(1747873779:Int),(1955562222:Int),(2024104815:Int),(2227730452:Int),(2361852424:Int),(2428436474:Int),(2756734187:Int),(3204031479:Int),(3329325298:Int)]
noncomputable abbrev e_irounds (r:List Int):AV×List AObj:=((.ptr 0 0 1 0),[(.rows 176 true (.int .u32) r)])
noncomputable abbrev g_irounds:pshsDen P_irounds→AV×List AObj:=fun d=>e_irounds (irounds )
noncomputable abbrev pre_irounds:pshsDen P_irounds→Bool:=fun d=>true
theorem run_irounds:RunP true G27 (fun _ _=>none) Try.f148 P_irounds pre_irounds g_irounds:=by
 rintro _ hp
 kernel_rfl
theorem c_irounds:PContract Try.prog 148 (sumOf P_irounds pre_irounds g_irounds):=pcD true G27 hlz run_irounds
noncomputable def S28:Tab:=Tab.add S27 148 (lift (sumOf P_irounds pre_irounds g_irounds))
noncomputable def QF28:FuncId→Bool:=QF27
theorem G28:Good Try.prog tt S28 QF28:=G27.add c_irounds (cbl Try.f148) (by kernel_rfl)

theorem wrapU_nonneg (x:Int):0≤IntKind.wrap .u64 x:=by
 simp only [IntKind.wrap]
 exact Int.emod_nonneg _ (by decide)
noncomputable abbrev P_math_bits_RotateLeft32:List PSh:=[.t (.int .u32),.t (.int .i64)]
noncomputable def math_bits_RotateLeft32 (a0:Int) (a1:Int):Int:=(ior .u32 (IntKind.wrap .u32 (a0*2 ^ (min (Int.toNat (iand .u64 (IntKind.wrap .u64 a1) (31:Int))) (IntKind.bits .u32)))) (Int.fdiv a0 (2 ^ (min (Int.toNat (IntKind.wrap .u64 ((32:Int) - (iand .u64 (IntKind.wrap .u64 a1) (31:Int))))) (IntKind.bits .u32)))))
noncomputable abbrev e_math_bits_RotateLeft32 (r:Int):AV×List AObj:=((.t true (.int .u32) r),[])
noncomputable abbrev g_math_bits_RotateLeft32:pshsDen P_math_bits_RotateLeft32→AV×List AObj:=fun d=>e_math_bits_RotateLeft32 (math_bits_RotateLeft32 d.1 d.2.1)
noncomputable abbrev pre_math_bits_RotateLeft32:pshsDen P_math_bits_RotateLeft32→Bool:=fun d=>true
theorem run_math_bits_RotateLeft32:RunP true G28 (fun _ _=>none) Try.f171 P_math_bits_RotateLeft32 pre_math_bits_RotateLeft32 g_math_bits_RotateLeft32:=by
 rintro ⟨(a0:Int),⟨(a1:Int),_⟩⟩ hp
 refine Eq.trans (b:=(cond (decide (0≤(iand .u64 (IntKind.wrap .u64 a1) (31:Int)))) (cond (decide (0≤(IntKind.wrap .u64 ((32:Int) - (iand .u64 (IntKind.wrap .u64 a1) (31:Int)))))) (some (e_math_bits_RotateLeft32 (ior .u32 (IntKind.wrap .u32 (a0*2 ^ (min (Int.toNat (iand .u64 (IntKind.wrap .u64 a1) (31:Int))) (IntKind.bits .u32)))) (Int.fdiv a0 (2 ^ (min (Int.toNat (IntKind.wrap .u64 ((32:Int) - (iand .u64 (IntKind.wrap .u64 a1) (31:Int))))) (IntKind.bits .u32))))))) none) none)) (by kernel_rfl) ?_
 exact (cndT (decide_eq_true (wrapU_nonneg _)) (fun _h=>(cndT (decide_eq_true (wrapU_nonneg _)) (fun _h=>rfl))))
theorem c_math_bits_RotateLeft32:PContract Try.prog 171 (sumOf P_math_bits_RotateLeft32 pre_math_bits_RotateLeft32 g_math_bits_RotateLeft32):=pcD true G28 hlz run_math_bits_RotateLeft32
noncomputable def S29:Tab:=Tab.add S28 171 (lift (sumOf P_math_bits_RotateLeft32 pre_math_bits_RotateLeft32 g_math_bits_RotateLeft32))
noncomputable def QF29:FuncId→Bool:=qadd QF28 171
theorem G29:Good Try.prog tt S29 QF29:=G28.addQ c_math_bits_RotateLeft32 (cbl Try.f171) (fun _=>rfl)

noncomputable abbrev jS81:List Sh:=.junk::.junk::.junk::.junk::.junk::.junk::.junk::.junk::.junk::.junk::.junk::.junk::.junk::.junk::.junk::.junk::.junk::.junk::.junk::.junk::.junk::.junk::.junk::.junk::.junk::.junk::.junk::.junk::.junk::.junk::.junk::.junk::.junk::.junk::.junk::jS46
noncomputable abbrev jS88:List Sh:=.junk::.junk::.junk::.junk::.junk::.junk::.junk::jS81
noncomputable abbrev u82:=((),(),(),(),(),(),(),(),(),(),(),(),(),(),(),(),(),(),(),(),(),(),(),(),(),(),(),(),(),(),(),(),(),(),(),u47)
noncomputable abbrev u93:=((),(),(),(),(),(),(),(),(),(),(),u82)
noncomputable abbrev jA81:List AV:=.junk::.junk::.junk::.junk::.junk::.junk::.junk::.junk::.junk::.junk::.junk::.junk::.junk::.junk::.junk::.junk::.junk::.junk::.junk::.junk::.junk::.junk::.junk::.junk::.junk::.junk::.junk::.junk::.junk::.junk::.junk::.junk::.junk::.junk::.junk::jA46
noncomputable abbrev jA88:List AV:=.junk::.junk::.junk::.junk::.junk::.junk::.junk::jA81
noncomputable abbrev jS86:List Sh:=.junk::.junk::.junk::.junk::.junk::jS81
noncomputable abbrev u87:=((),(),(),(),(),u82)
noncomputable abbrev jA86:List AV:=.junk::.junk::.junk::.junk::.junk::jA81
noncomputable abbrev P_iwordsOf:List PSh:=[.t t_sy]
noncomputable def body_iwordsOf_0:Code:=((loopsIn 0 (bodyOf Try.f170)).getD 0 (0,.skip)).2
noncomputable def body_iwordsOf_1:Code:=((loopsIn 0 (bodyOf Try.f170)).getD 1 (0,.skip)).2
noncomputable abbrev S_iwordsOf_0:SS:=⟨(.t false t_sy::.junk::.junk::.ptr 0 0 1 0::.junk::.junk::.junk::.junk::.junk::.junk::.t true (.int .i64)::jS81),[.rows 176 true (.int .u32)]⟩
noncomputable abbrev E_iwordsOf_0_0:SS:=⟨(.junk::.junk::.junk::.ptr 0 0 1 0::jS88),[.rows 176 true (.int .u32)]⟩
noncomputable def st_iwordsOf_0 (x0:List Int) (x10:Int) (h0:List Int):RT S_iwordsOf_0.den:=(.br (decide (x10<(16:Int))) (.br (decide (0≤(IntKind.wrap .i64 ((4:Int)*x10))∧(IntKind.wrap .i64 ((4:Int)*x10))<((x0.length:Nat):Int))) (.br (decide (0≤(IntKind.wrap .i64 ((IntKind.wrap .i64 ((4:Int)*x10))+(1:Int)))∧(IntKind.wrap .i64 ((IntKind.wrap .i64 ((4:Int)*x10))+(1:Int)))<((x0.length:Nat):Int))) (.br (decide (0≤(IntKind.wrap .i64 ((IntKind.wrap .i64 ((4:Int)*x10))+(2:Int)))∧(IntKind.wrap .i64 ((IntKind.wrap .i64 ((4:Int)*x10))+(2:Int)))<((x0.length:Nat):Int))) (.br (decide (0≤(IntKind.wrap .i64 ((IntKind.wrap .i64 ((4:Int)*x10))+(3:Int)))∧(IntKind.wrap .i64 ((IntKind.wrap .i64 ((4:Int)*x10))+(3:Int)))<((x0.length:Nat):Int))) (.br (decide (0≤x10∧x10<((64:Nat):Int)∧x10<(h0.length:Int))) (.next ((x0,(),(),(),(),(),(),(),(),(),IntKind.wrap .i64 (x10+(1:Int)),u82),(h0.set x10.toNat (ior .u32 (ior .u32 (ior .u32 (IntKind.wrap .u32 ((IntKind.wrap .u32 (x0.getD ((IntKind.wrap .i64 ((4:Int)*x10)).toNat) (0:Int)))*2 ^ (24))) (IntKind.wrap .u32 ((IntKind.wrap .u32 (x0.getD ((IntKind.wrap .i64 ((IntKind.wrap .i64 ((4:Int)*x10))+(1:Int))).toNat) (0:Int)))*2 ^ (16)))) (IntKind.wrap .u32 ((IntKind.wrap .u32 (x0.getD ((IntKind.wrap .i64 ((IntKind.wrap .i64 ((4:Int)*x10))+(2:Int))).toNat) (0:Int)))*2 ^ (8)))) (IntKind.wrap .u32 (x0.getD ((IntKind.wrap .i64 ((IntKind.wrap .i64 ((4:Int)*x10))+(3:Int))).toNat) (0:Int)))),()))) .fail) .fail) .fail) .fail) .fail) (.done (.exit 0) E_iwordsOf_0_0 ((u93),(h0,()))))
noncomputable abbrev V_iwordsOf_0:=(List Int)×(Int)×(List Int)
noncomputable abbrev A_iwordsOf_0:=Nat×(List Int)
noncomputable def fl_iwordsOf_0:A_iwordsOf_0:=(99,([]:List Int))
noncomputable def ss_iwordsOf_0 (x0:List Int) (x10:Int) (h0:List Int):V_iwordsOf_0 ⊕ A_iwordsOf_0:=(cond (decide (x10<(16:Int))) (cond (decide (0≤(IntKind.wrap .i64 ((4:Int)*x10))∧(IntKind.wrap .i64 ((4:Int)*x10))<((x0.length:Nat):Int))) (cond (decide (0≤(IntKind.wrap .i64 ((IntKind.wrap .i64 ((4:Int)*x10))+(1:Int)))∧(IntKind.wrap .i64 ((IntKind.wrap .i64 ((4:Int)*x10))+(1:Int)))<((x0.length:Nat):Int))) (cond (decide (0≤(IntKind.wrap .i64 ((IntKind.wrap .i64 ((4:Int)*x10))+(2:Int)))∧(IntKind.wrap .i64 ((IntKind.wrap .i64 ((4:Int)*x10))+(2:Int)))<((x0.length:Nat):Int))) (cond (decide (0≤(IntKind.wrap .i64 ((IntKind.wrap .i64 ((4:Int)*x10))+(3:Int)))∧(IntKind.wrap .i64 ((IntKind.wrap .i64 ((4:Int)*x10))+(3:Int)))<((x0.length:Nat):Int))) (cond (decide (0≤x10∧x10<((64:Nat):Int)∧x10<(h0.length:Int))) (.inl (x0,IntKind.wrap .i64 (x10+(1:Int)),h0.set x10.toNat (ior .u32 (ior .u32 (ior .u32 (IntKind.wrap .u32 ((IntKind.wrap .u32 (x0.getD ((IntKind.wrap .i64 ((4:Int)*x10)).toNat) (0:Int)))*2 ^ (24))) (IntKind.wrap .u32 ((IntKind.wrap .u32 (x0.getD ((IntKind.wrap .i64 ((IntKind.wrap .i64 ((4:Int)*x10))+(1:Int))).toNat) (0:Int)))*2 ^ (16)))) (IntKind.wrap .u32 ((IntKind.wrap .u32 (x0.getD ((IntKind.wrap .i64 ((IntKind.wrap .i64 ((4:Int)*x10))+(2:Int))).toNat) (0:Int)))*2 ^ (8)))) (IntKind.wrap .u32 (x0.getD ((IntKind.wrap .i64 ((IntKind.wrap .i64 ((4:Int)*x10))+(3:Int))).toNat) (0:Int)))))) (.inr fl_iwordsOf_0)) (.inr fl_iwordsOf_0)) (.inr fl_iwordsOf_0)) (.inr fl_iwordsOf_0)) (.inr fl_iwordsOf_0)) (.inr (0,h0)))
noncomputable def it_iwordsOf_0 (x0:List Int) (x10:Int) (h0:List Int):A_iwordsOf_0:=itX (fun v:V_iwordsOf_0=>ss_iwordsOf_0 v.1 v.2.1 v.2.2) fl_iwordsOf_0 (x0,x10,h0)
noncomputable def ct_iwordsOf_0 (a:A_iwordsOf_0):CT:=(.br (a.1==0) (.done (.exit 0) E_iwordsOf_0_0 ((u93),(a.2,()))) .fail)
noncomputable def T_iwordsOf_0 (x0:List Int) (x10:Int) (h0:List Int):CT:=ct_iwordsOf_0 (it_iwordsOf_0 x0 x10 h0)
noncomputable abbrev sp_iwordsOf_0:S_iwordsOf_0.den→RT S_iwordsOf_0.den:=(fun d=>st_iwordsOf_0 d.1.1 d.1.2.2.2.2.2.2.2.2.2.2.1 d.2.1)
noncomputable abbrev pv_iwordsOf_0 (v:V_iwordsOf_0):S_iwordsOf_0.den:=((v.1,(),(),(),(),(),(),(),(),(),v.2.1,u82),(v.2.2,()))
theorem rl_iwordsOf_0:(∀ v:V_iwordsOf_0,(st_iwordsOf_0 v.1 v.2.1 v.2.2).val=relS pv_iwordsOf_0 ct_iwordsOf_0 (ss_iwordsOf_0 v.1 v.2.1 v.2.2))∧∀ a:A_iwordsOf_0,CEnd S_iwordsOf_0.den (ct_iwordsOf_0 a):=⟨fun v=>by repeat' first | apply relB | rfl,fun a=>(cendB (cendD (by simp)) cendF)⟩
noncomputable def ox_iwordsOf_0 (x0:List Int) (x10:Int) (h0:List Int):Option (Ex×St):=(cond (decide (x10<(16:Int))) (cond (decide (0≤(IntKind.wrap .i64 ((4:Int)*x10))∧(IntKind.wrap .i64 ((4:Int)*x10))<((x0.length:Nat):Int))) (cond (decide (0≤(IntKind.wrap .i64 ((IntKind.wrap .i64 ((4:Int)*x10))+(1:Int)))∧(IntKind.wrap .i64 ((IntKind.wrap .i64 ((4:Int)*x10))+(1:Int)))<((x0.length:Nat):Int))) (cond (decide (0≤(IntKind.wrap .i64 ((IntKind.wrap .i64 ((4:Int)*x10))+(2:Int)))∧(IntKind.wrap .i64 ((IntKind.wrap .i64 ((4:Int)*x10))+(2:Int)))<((x0.length:Nat):Int))) (cond (decide (0≤(IntKind.wrap .i64 ((IntKind.wrap .i64 ((4:Int)*x10))+(3:Int)))∧(IntKind.wrap .i64 ((IntKind.wrap .i64 ((4:Int)*x10))+(3:Int)))<((x0.length:Nat):Int))) (cond (decide (0≤x10∧x10<((64:Nat):Int)∧x10<(h0.length:Int))) (some (.normal,(⟨((.t false t_sy x0)::.junk::.junk::(.ptr 0 0 1 0)::.junk::.junk::.junk::.junk::.junk::.junk::(.t true (.int .i64) (IntKind.wrap .i64 (x10+(1:Int))))::jA81),[(.rows 176 true (.int .u32) (h0.set x10.toNat (ior .u32 (ior .u32 (ior .u32 (IntKind.wrap .u32 ((IntKind.wrap .u32 (x0.getD ((IntKind.wrap .i64 ((4:Int)*x10)).toNat) (0:Int)))*2 ^ (24))) (IntKind.wrap .u32 ((IntKind.wrap .u32 (x0.getD ((IntKind.wrap .i64 ((IntKind.wrap .i64 ((4:Int)*x10))+(1:Int))).toNat) (0:Int)))*2 ^ (16)))) (IntKind.wrap .u32 ((IntKind.wrap .u32 (x0.getD ((IntKind.wrap .i64 ((IntKind.wrap .i64 ((4:Int)*x10))+(2:Int))).toNat) (0:Int)))*2 ^ (8)))) (IntKind.wrap .u32 (x0.getD ((IntKind.wrap .i64 ((IntKind.wrap .i64 ((4:Int)*x10))+(3:Int))).toNat) (0:Int))))))],0,[]⟩:St))) none) none) none) none) none) (some ((.exit 0),(⟨(.junk::.junk::.junk::(.ptr 0 0 1 0)::jA88),[(.rows 176 true (.int .u32) h0)],0,[]⟩:St))))
theorem rdA_iwordsOf_0:RdA G29 (fun _ _=>none) 0 body_iwordsOf_0 S_iwordsOf_0 0 [] (kepts [] [(0,[3])]) (fun d=>ox_iwordsOf_0 d.1.1 d.1.2.2.2.2.2.2.2.2.2.2.1 d.2.1):=by
 intro d
 kernel_rfl
theorem rdB_iwordsOf_0:∀ d:S_iwordsOf_0.den,(fun d=>ox_iwordsOf_0 d.1.1 d.1.2.2.2.2.2.2.2.2.2.2.1 d.2.1) d=(sp_iwordsOf_0 d).opt 0 []:=by
 intro d
 kernel_rfl
noncomputable abbrev say_iwordsOf_0:St→Option Tree:=S_iwordsOf_0.say 0 [] [] (fun d=>T_iwordsOf_0 d.1.1 d.1.2.2.2.2.2.2.2.2.2.2.1 d.2.1)
theorem lw_iwordsOf_0:LoopWp Try.prog say_iwordsOf_0 body_iwordsOf_0:=SS.wp2 hlz [] sp_iwordsOf_0 rdA_iwordsOf_0 rdB_iwordsOf_0 _ (fun d=>Runs.ofI2 (step:=sp_iwordsOf_0) pv_iwordsOf_0 rl_iwordsOf_0 rfl (d.1.1,d.1.2.2.2.2.2.2.2.2.2.2.1,d.2.1))
noncomputable abbrev S_iwordsOf_1:SS:=⟨(.junk::.junk::.junk::.ptr 0 0 1 0::.junk::.t true (.int .i64)::jS86),[.rows 176 true (.int .u32)]⟩
noncomputable abbrev E_iwordsOf_1_0:SS:=⟨(.junk::.junk::.junk::.ptr 0 0 1 0::jS88),[.rows 176 true (.int .u32)]⟩
noncomputable def k1_iwordsOf (x5:Int) (h0:List Int):=math_bits_RotateLeft32 (h0.getD ((IntKind.wrap .i64 (x5 - (15:Int))).toNat) (0:Int)) (-7:Int)
noncomputable def k2_iwordsOf (x5:Int) (h0:List Int):=math_bits_RotateLeft32 (h0.getD ((IntKind.wrap .i64 (x5 - (15:Int))).toNat) (0:Int)) (-18:Int)
noncomputable def k3_iwordsOf (x5:Int) (h0:List Int):=math_bits_RotateLeft32 (h0.getD ((IntKind.wrap .i64 (x5 - (2:Int))).toNat) (0:Int)) (-17:Int)
noncomputable def k4_iwordsOf (x5:Int) (h0:List Int):=math_bits_RotateLeft32 (h0.getD ((IntKind.wrap .i64 (x5 - (2:Int))).toNat) (0:Int)) (-19:Int)
noncomputable def st_iwordsOf_1 (x5:Int) (h0:List Int):RT S_iwordsOf_1.den:=(.br (decide (x5<(64:Int))) (.br (decide (0≤(IntKind.wrap .i64 (x5 - (15:Int)))∧(IntKind.wrap .i64 (x5 - (15:Int)))<((64:Nat):Int)∧(IntKind.wrap .i64 (x5 - (15:Int)))<(h0.length:Int))) (.br (decide (0≤(IntKind.wrap .i64 (x5 - (2:Int)))∧(IntKind.wrap .i64 (x5 - (2:Int)))<((64:Nat):Int)∧(IntKind.wrap .i64 (x5 - (2:Int)))<(h0.length:Int))) (.br (decide (0≤(IntKind.wrap .i64 (x5 - (16:Int)))∧(IntKind.wrap .i64 (x5 - (16:Int)))<((64:Nat):Int)∧(IntKind.wrap .i64 (x5 - (16:Int)))<(h0.length:Int))) (.br (decide (0≤(IntKind.wrap .i64 (x5 - (7:Int)))∧(IntKind.wrap .i64 (x5 - (7:Int)))<((64:Nat):Int)∧(IntKind.wrap .i64 (x5 - (7:Int)))<(h0.length:Int))) (.br (decide (0≤x5∧x5<((64:Nat):Int)∧x5<(h0.length:Int))) (.next (((),(),(),(),(),IntKind.wrap .i64 (x5+(1:Int)),u87),(h0.set x5.toNat (IntKind.wrap .u32 ((IntKind.wrap .u32 ((IntKind.wrap .u32 ((h0.getD ((IntKind.wrap .i64 (x5 - (16:Int))).toNat) (0:Int))+(ixor .u32 (ixor .u32 (k1_iwordsOf x5 h0) (k2_iwordsOf x5 h0)) (Int.fdiv (h0.getD ((IntKind.wrap .i64 (x5 - (15:Int))).toNat) (0:Int)) (2 ^ (3))))))+(h0.getD ((IntKind.wrap .i64 (x5 - (7:Int))).toNat) (0:Int))))+(ixor .u32 (ixor .u32 (k3_iwordsOf x5 h0) (k4_iwordsOf x5 h0)) (Int.fdiv (h0.getD ((IntKind.wrap .i64 (x5 - (2:Int))).toNat) (0:Int)) (2 ^ (10)))))),()))) .fail) .fail) .fail) .fail) .fail) (.done (.exit 2) E_iwordsOf_1_0 ((u93),(h0,()))))
noncomputable abbrev V_iwordsOf_1:=(Int)×(List Int)
noncomputable abbrev A_iwordsOf_1:=Nat×(List Int)
noncomputable def fl_iwordsOf_1:A_iwordsOf_1:=(99,([]:List Int))
noncomputable def ss_iwordsOf_1 (x5:Int) (h0:List Int):V_iwordsOf_1 ⊕ A_iwordsOf_1:=(cond (decide (x5<(64:Int))) (cond (decide (0≤(IntKind.wrap .i64 (x5 - (15:Int)))∧(IntKind.wrap .i64 (x5 - (15:Int)))<((64:Nat):Int)∧(IntKind.wrap .i64 (x5 - (15:Int)))<(h0.length:Int))) (cond (decide (0≤(IntKind.wrap .i64 (x5 - (2:Int)))∧(IntKind.wrap .i64 (x5 - (2:Int)))<((64:Nat):Int)∧(IntKind.wrap .i64 (x5 - (2:Int)))<(h0.length:Int))) (cond (decide (0≤(IntKind.wrap .i64 (x5 - (16:Int)))∧(IntKind.wrap .i64 (x5 - (16:Int)))<((64:Nat):Int)∧(IntKind.wrap .i64 (x5 - (16:Int)))<(h0.length:Int))) (cond (decide (0≤(IntKind.wrap .i64 (x5 - (7:Int)))∧(IntKind.wrap .i64 (x5 - (7:Int)))<((64:Nat):Int)∧(IntKind.wrap .i64 (x5 - (7:Int)))<(h0.length:Int))) (cond (decide (0≤x5∧x5<((64:Nat):Int)∧x5<(h0.length:Int))) (.inl (IntKind.wrap .i64 (x5+(1:Int)),h0.set x5.toNat (IntKind.wrap .u32 ((IntKind.wrap .u32 ((IntKind.wrap .u32 ((h0.getD ((IntKind.wrap .i64 (x5 - (16:Int))).toNat) (0:Int))+(ixor .u32 (ixor .u32 (k1_iwordsOf x5 h0) (k2_iwordsOf x5 h0)) (Int.fdiv (h0.getD ((IntKind.wrap .i64 (x5 - (15:Int))).toNat) (0:Int)) (2 ^ (3))))))+(h0.getD ((IntKind.wrap .i64 (x5 - (7:Int))).toNat) (0:Int))))+(ixor .u32 (ixor .u32 (k3_iwordsOf x5 h0) (k4_iwordsOf x5 h0)) (Int.fdiv (h0.getD ((IntKind.wrap .i64 (x5 - (2:Int))).toNat) (0:Int)) (2 ^ (10)))))))) (.inr fl_iwordsOf_1)) (.inr fl_iwordsOf_1)) (.inr fl_iwordsOf_1)) (.inr fl_iwordsOf_1)) (.inr fl_iwordsOf_1)) (.inr (0,h0)))
noncomputable def it_iwordsOf_1 (x5:Int) (h0:List Int):A_iwordsOf_1:=itX (fun v:V_iwordsOf_1=>ss_iwordsOf_1 v.1 v.2) fl_iwordsOf_1 (x5,h0)
noncomputable def ct_iwordsOf_1 (a:A_iwordsOf_1):CT:=(.br (a.1==0) (.done (.exit 2) E_iwordsOf_1_0 ((u93),(a.2,()))) .fail)
noncomputable def T_iwordsOf_1 (x5:Int) (h0:List Int):CT:=ct_iwordsOf_1 (it_iwordsOf_1 x5 h0)
noncomputable abbrev sp_iwordsOf_1:S_iwordsOf_1.den→RT S_iwordsOf_1.den:=(fun d=>st_iwordsOf_1 d.1.2.2.2.2.2.1 d.2.1)
noncomputable abbrev pv_iwordsOf_1 (v:V_iwordsOf_1):S_iwordsOf_1.den:=(((),(),(),(),(),v.1,u87),(v.2,()))
theorem rl_iwordsOf_1:(∀ v:V_iwordsOf_1,(st_iwordsOf_1 v.1 v.2).val=relS pv_iwordsOf_1 ct_iwordsOf_1 (ss_iwordsOf_1 v.1 v.2))∧∀ a:A_iwordsOf_1,CEnd S_iwordsOf_1.den (ct_iwordsOf_1 a):=⟨fun v=>by repeat' first | apply relB | rfl,fun a=>(cendB (cendD (by simp)) cendF)⟩
noncomputable def ox_iwordsOf_1 (x5:Int) (h0:List Int):Option (Ex×St):=(cond (decide (x5<(64:Int))) (cond (decide (0≤(IntKind.wrap .i64 (x5 - (15:Int)))∧(IntKind.wrap .i64 (x5 - (15:Int)))<((64:Nat):Int)∧(IntKind.wrap .i64 (x5 - (15:Int)))<(h0.length:Int))) (cond (decide (0≤(IntKind.wrap .i64 (x5 - (2:Int)))∧(IntKind.wrap .i64 (x5 - (2:Int)))<((64:Nat):Int)∧(IntKind.wrap .i64 (x5 - (2:Int)))<(h0.length:Int))) (cond (decide (0≤(IntKind.wrap .i64 (x5 - (16:Int)))∧(IntKind.wrap .i64 (x5 - (16:Int)))<((64:Nat):Int)∧(IntKind.wrap .i64 (x5 - (16:Int)))<(h0.length:Int))) (cond (decide (0≤(IntKind.wrap .i64 (x5 - (7:Int)))∧(IntKind.wrap .i64 (x5 - (7:Int)))<((64:Nat):Int)∧(IntKind.wrap .i64 (x5 - (7:Int)))<(h0.length:Int))) (cond (decide (0≤x5∧x5<((64:Nat):Int)∧x5<(h0.length:Int))) (some (.normal,(⟨(.junk::.junk::.junk::(.ptr 0 0 1 0)::.junk::(.t true (.int .i64) (IntKind.wrap .i64 (x5+(1:Int))))::jA86),[(.rows 176 true (.int .u32) (h0.set x5.toNat (IntKind.wrap .u32 ((IntKind.wrap .u32 ((IntKind.wrap .u32 ((h0.getD ((IntKind.wrap .i64 (x5 - (16:Int))).toNat) (0:Int))+(ixor .u32 (ixor .u32 (k1_iwordsOf x5 h0) (k2_iwordsOf x5 h0)) (Int.fdiv (h0.getD ((IntKind.wrap .i64 (x5 - (15:Int))).toNat) (0:Int)) (2 ^ (3))))))+(h0.getD ((IntKind.wrap .i64 (x5 - (7:Int))).toNat) (0:Int))))+(ixor .u32 (ixor .u32 (k3_iwordsOf x5 h0) (k4_iwordsOf x5 h0)) (Int.fdiv (h0.getD ((IntKind.wrap .i64 (x5 - (2:Int))).toNat) (0:Int)) (2 ^ (10))))))))],0,[]⟩:St))) none) none) none) none) none) (some ((.exit 2),(⟨(.junk::.junk::.junk::(.ptr 0 0 1 0)::jA88),[(.rows 176 true (.int .u32) h0)],0,[]⟩:St))))
theorem rdA_iwordsOf_1:RdA G29 (fun _ _=>none) 2 body_iwordsOf_1 S_iwordsOf_1 0 [] (kepts [] [(2,[3])]) (fun d=>ox_iwordsOf_1 d.1.2.2.2.2.2.1 d.2.1):=by
 intro d
 kernel_rfl
theorem rdB_iwordsOf_1:∀ d:S_iwordsOf_1.den,(fun d=>ox_iwordsOf_1 d.1.2.2.2.2.2.1 d.2.1) d=(sp_iwordsOf_1 d).opt 0 []:=by
 intro d
 kernel_rfl
noncomputable abbrev say_iwordsOf_1:St→Option Tree:=S_iwordsOf_1.say 0 [] [] (fun d=>T_iwordsOf_1 d.1.2.2.2.2.2.1 d.2.1)
theorem lw_iwordsOf_1:LoopWp Try.prog say_iwordsOf_1 body_iwordsOf_1:=SS.wp2 hlz [] sp_iwordsOf_1 rdA_iwordsOf_1 rdB_iwordsOf_1 _ (fun d=>Runs.ofI2 (step:=sp_iwordsOf_1) pv_iwordsOf_1 rl_iwordsOf_1 rfl (d.1.2.2.2.2.2.1,d.2.1))
noncomputable def iwordsOf (a0:List Int):List Int:=((it_iwordsOf_1 (16:Int) ((it_iwordsOf_0 a0 (0:Int) (List.replicate 64 (0:Int))).2)).2)
noncomputable abbrev e_iwordsOf (r:List Int):AV×List AObj:=((.ptr 0 0 1 0),[(.rows 176 true (.int .u32) r)])
noncomputable abbrev g_iwordsOf:pshsDen P_iwordsOf→AV×List AObj:=fun d=>e_iwordsOf (iwordsOf d.1)
noncomputable def q_iwordsOf (a0:List Int):Bool:=((it_iwordsOf_0 a0 (0:Int) (List.replicate 64 (0:Int))).1==0)&&((it_iwordsOf_1 (16:Int) ((it_iwordsOf_0 a0 (0:Int) (List.replicate 64 (0:Int))).2)).1==0)
noncomputable abbrev pre_iwordsOf:pshsDen P_iwordsOf→Bool:=fun d=>q_iwordsOf d.1
noncomputable abbrev L_iwordsOf:Nat→St→Option Tree:=fun b=>match b with | 0=>say_iwordsOf_0 | 2=>say_iwordsOf_1 | _=>fun _=>none
theorem run_iwordsOf:RunP true G29 (L_iwordsOf) Try.f170 P_iwordsOf pre_iwordsOf g_iwordsOf:=by
 rintro ⟨a0,_⟩ hp
 change q_iwordsOf a0=true at hp
 unfold q_iwordsOf at hp
 refine Eq.trans (b:=(cond ((it_iwordsOf_0 a0 (0:Int) (List.replicate 64 (0:Int))).1==0) (cond ((it_iwordsOf_1 (16:Int) ((it_iwordsOf_0 a0 (0:Int) (List.replicate 64 (0:Int))).2)).1==0) (some (e_iwordsOf ((it_iwordsOf_1 (16:Int) ((it_iwordsOf_0 a0 (0:Int) (List.replicate 64 (0:Int))).2)).2))) none) none)) (by kernel_rfl) ?_
 exact (cndA hp fun hp=>(cndT hp fun _h=>rfl))
theorem c_iwordsOf:PContract Try.prog 170 (sumOf P_iwordsOf pre_iwordsOf g_iwordsOf):=pcD true G29 (by
  rw [show loopsIn 0 (bodyOf Try.f170)=[(0,body_iwordsOf_0),(2,body_iwordsOf_1)] by kernel_rfl];intro p hp;simp only [List.mem_cons,List.mem_nil_iff,or_false] at hp
  rcases hp with rfl | rfl
  ·exact lw_iwordsOf_0
  ·exact lw_iwordsOf_1) run_iwordsOf
noncomputable def S30:Tab:=Tab.add S29 170 (lift (sumOf P_iwordsOf pre_iwordsOf g_iwordsOf))
noncomputable def QF30:FuncId→Bool:=QF29
theorem G30:Good Try.prog tt S30 QF30:=G29.add c_iwordsOf (cbl Try.f170) (by kernel_rfl)

noncomputable abbrev jS101:List Sh:=.junk::.junk::.junk::.junk::.junk::.junk::.junk::.junk::.junk::.junk::.junk::.junk::.junk::jS88
noncomputable abbrev jS116:List Sh:=.junk::.junk::.junk::.junk::.junk::.junk::.junk::.junk::.junk::.junk::.junk::.junk::.junk::.junk::.junk::jS101
noncomputable abbrev u102:=((),(),(),(),(),(),(),(),(),u93)
noncomputable abbrev u125:=((),(),(),(),(),(),(),(),(),(),(),(),(),(),(),(),(),(),(),(),(),(),(),u102)
noncomputable abbrev jA101:List AV:=.junk::.junk::.junk::.junk::.junk::.junk::.junk::.junk::.junk::.junk::.junk::.junk::.junk::jA88
noncomputable abbrev jA116:List AV:=.junk::.junk::.junk::.junk::.junk::.junk::.junk::.junk::.junk::.junk::.junk::.junk::.junk::.junk::.junk::jA101
noncomputable abbrev jS123:List Sh:=.junk::.junk::.junk::.junk::.junk::.junk::.junk::jS116
noncomputable abbrev u15:=((),u14)
noncomputable abbrev jA14:List AV:=.junk::.junk::.junk::.junk::.junk::.junk::.junk::.junk::.junk::.junk::.junk::.junk::.junk::.junk::[]
noncomputable abbrev jA123:List AV:=.junk::.junk::.junk::.junk::.junk::.junk::.junk::jA116
noncomputable abbrev SM_iturnBlock:SS:=⟨[.ptr 0 0 1 0,.t false t_sy,.ptr 1 0 1 0],[.rows 158 true (.int .u32),.rows 176 true (.int .u32)]⟩
noncomputable def body_iturnBlock_0:Code:=((loopsIn 0 (bodyOf Try.f151)).getD 0 (0,.skip)).2
noncomputable def body_iturnBlock_1:Code:=((loopsIn 0 (bodyOf Try.f151)).getD 1 (0,.skip)).2
noncomputable abbrev S_iturnBlock_0:SS:=⟨(.ptr 0 0 1 0::.junk::.ptr 1 0 1 0::.junk::.junk::.junk::.ptr 2 0 1 0::.ptr 3 0 1 0::.junk::.junk::.junk::.junk::.junk::.junk::.junk::.junk::.junk::.junk::.junk::.junk::.junk::.junk::.t true (.int .i64)::jS101),[.rows 158 true (.int .u32),.rows 176 true (.int .u32),.rows 176 true (.int .u32),.rows 158 true (.int .u32)]⟩
noncomputable abbrev E_iturnBlock_0_0:SS:=⟨(.ptr 0 0 1 0::.junk::.junk::.junk::.junk::.junk::.junk::.ptr 2 0 1 0::jS116),[.rows 158 true (.int .u32),.rows 176 true (.int .u32),.rows 158 true (.int .u32)]⟩
noncomputable def st_iturnBlock_0 (x22:Int) (h0:List Int) (h1:List Int) (h2:List Int) (h3:List Int):RT S_iturnBlock_0.den:=(.br (decide (x22<(64:Int))) (.br (decide (0≤(0:Int)∧(0:Int)<((8:Nat):Int)∧(0:Int)<(h3.length:Int))) (.br (decide (0≤(4:Int)∧(4:Int)<((8:Nat):Int)∧(4:Int)<(h3.length:Int))) (.br (decide (0≤(5:Int)∧(5:Int)<((8:Nat):Int)∧(5:Int)<(h3.length:Int))) (.br (decide (0≤(6:Int)∧(6:Int)<((8:Nat):Int)∧(6:Int)<(h3.length:Int))) (.br (decide (0≤(7:Int)∧(7:Int)<((8:Nat):Int)∧(7:Int)<(h3.length:Int))) (.br (decide (0≤x22∧x22<((64:Nat):Int)∧x22<(h1.length:Int))) (.br (decide (0≤x22∧x22<((64:Nat):Int)∧x22<(h2.length:Int))) (.br (decide (0≤(1:Int)∧(1:Int)<((8:Nat):Int)∧(1:Int)<(h3.length:Int))) (.br (decide (0≤(2:Int)∧(2:Int)<((8:Nat):Int)∧(2:Int)<(h3.length:Int))) (.br (decide (0≤(1:Int)∧(1:Int)<((8:Nat):Int)∧(1:Int)<(h3.length:Int))) (.br (decide (0≤(2:Int)∧(2:Int)<((8:Nat):Int)∧(2:Int)<(h3.length:Int))) (.br (decide (0≤(1:Int)∧(1:Int)<((8:Nat):Int)∧(1:Int)<(h3.length:Int))) (.br (decide (0≤(2:Int)∧(2:Int)<((8:Nat):Int)∧(2:Int)<(h3.length:Int))) (.br (decide (0≤(3:Int)∧(3:Int)<((8:Nat):Int)∧(3:Int)<(h3.length:Int))) (.br (decide (0≤(5:Int)∧(5:Int)<((8:Nat):Int)∧(5:Int)<(h3.length:Int))) (.br (decide (0≤(6:Int)∧(6:Int)<((8:Nat):Int)∧(6:Int)<(h3.length:Int))) (.br (decide (h3.length=8)) (.next (((),(),(),(),(),(),(),(),(),(),(),(),(),(),(),(),(),(),(),(),(),(),IntKind.wrap .i64 (x22+(1:Int)),u102),(h0,h1,h2,[IntKind.wrap .u32 ((IntKind.wrap .u32 ((IntKind.wrap .u32 ((IntKind.wrap .u32 ((IntKind.wrap .u32 ((IntKind.wrap .u32 ((h3.getD ((7:Int).toNat) (0:Int))+(ixor .u32 (ixor .u32 (math_bits_RotateLeft32 (h3.getD ((4:Int).toNat) (0:Int)) (-6:Int)) (math_bits_RotateLeft32 (h3.getD ((4:Int).toNat) (0:Int)) (-11:Int))) (math_bits_RotateLeft32 (h3.getD ((4:Int).toNat) (0:Int)) (-25:Int)))))+(ixor .u32 (iand .u32 (h3.getD ((4:Int).toNat) (0:Int)) (h3.getD ((5:Int).toNat) (0:Int))) (iand .u32 (ixor .u32 (4294967295) (h3.getD ((4:Int).toNat) (0:Int))) (h3.getD ((6:Int).toNat) (0:Int))))))+(h1.getD x22.toNat (0:Int))))+(h2.getD x22.toNat (0:Int))))+(ixor .u32 (ixor .u32 (math_bits_RotateLeft32 (h3.getD ((0:Int).toNat) (0:Int)) (-2:Int)) (math_bits_RotateLeft32 (h3.getD ((0:Int).toNat) (0:Int)) (-13:Int))) (math_bits_RotateLeft32 (h3.getD ((0:Int).toNat) (0:Int)) (-22:Int)))))+(ixor .u32 (ixor .u32 (iand .u32 (h3.getD ((0:Int).toNat) (0:Int)) (h3.getD ((1:Int).toNat) (0:Int))) (iand .u32 (h3.getD ((0:Int).toNat) (0:Int)) (h3.getD ((2:Int).toNat) (0:Int)))) (iand .u32 (h3.getD ((1:Int).toNat) (0:Int)) (h3.getD ((2:Int).toNat) (0:Int))))),h3.getD ((0:Int).toNat) (0:Int),h3.getD ((1:Int).toNat) (0:Int),h3.getD ((2:Int).toNat) (0:Int),IntKind.wrap .u32 ((h3.getD ((3:Int).toNat) (0:Int))+(IntKind.wrap .u32 ((IntKind.wrap .u32 ((IntKind.wrap .u32 ((IntKind.wrap .u32 ((h3.getD ((7:Int).toNat) (0:Int))+(ixor .u32 (ixor .u32 (math_bits_RotateLeft32 (h3.getD ((4:Int).toNat) (0:Int)) (-6:Int)) (math_bits_RotateLeft32 (h3.getD ((4:Int).toNat) (0:Int)) (-11:Int))) (math_bits_RotateLeft32 (h3.getD ((4:Int).toNat) (0:Int)) (-25:Int)))))+(ixor .u32 (iand .u32 (h3.getD ((4:Int).toNat) (0:Int)) (h3.getD ((5:Int).toNat) (0:Int))) (iand .u32 (ixor .u32 (4294967295) (h3.getD ((4:Int).toNat) (0:Int))) (h3.getD ((6:Int).toNat) (0:Int))))))+(h1.getD x22.toNat (0:Int))))+(h2.getD x22.toNat (0:Int))))),h3.getD ((4:Int).toNat) (0:Int),h3.getD ((5:Int).toNat) (0:Int),h3.getD ((6:Int).toNat) (0:Int)],()))) .fail) .fail) .fail) .fail) .fail) .fail) .fail) .fail) .fail) .fail) .fail) .fail) .fail) .fail) .fail) .fail) .fail) (.done (.exit 0) E_iturnBlock_0_0 ((u125),(h0,h1,h3,()))))
noncomputable abbrev V_iturnBlock_0:=(Int)×(List Int)×(List Int)×(List Int)×(List Int)
noncomputable abbrev A_iturnBlock_0:=Nat×(List Int)×(List Int)×(List Int)
noncomputable def fl_iturnBlock_0:A_iturnBlock_0:=(99,([]:List Int),([]:List Int),([]:List Int))
noncomputable def ss_iturnBlock_0 (x22:Int) (h0:List Int) (h1:List Int) (h2:List Int) (h3:List Int):V_iturnBlock_0 ⊕ A_iturnBlock_0:=(cond (decide (x22<(64:Int))) (cond (decide (0≤(0:Int)∧(0:Int)<((8:Nat):Int)∧(0:Int)<(h3.length:Int))) (cond (decide (0≤(4:Int)∧(4:Int)<((8:Nat):Int)∧(4:Int)<(h3.length:Int))) (cond (decide (0≤(5:Int)∧(5:Int)<((8:Nat):Int)∧(5:Int)<(h3.length:Int))) (cond (decide (0≤(6:Int)∧(6:Int)<((8:Nat):Int)∧(6:Int)<(h3.length:Int))) (cond (decide (0≤(7:Int)∧(7:Int)<((8:Nat):Int)∧(7:Int)<(h3.length:Int))) (cond (decide (0≤x22∧x22<((64:Nat):Int)∧x22<(h1.length:Int))) (cond (decide (0≤x22∧x22<((64:Nat):Int)∧x22<(h2.length:Int))) (cond (decide (0≤(1:Int)∧(1:Int)<((8:Nat):Int)∧(1:Int)<(h3.length:Int))) (cond (decide (0≤(2:Int)∧(2:Int)<((8:Nat):Int)∧(2:Int)<(h3.length:Int))) (cond (decide (0≤(1:Int)∧(1:Int)<((8:Nat):Int)∧(1:Int)<(h3.length:Int))) (cond (decide (0≤(2:Int)∧(2:Int)<((8:Nat):Int)∧(2:Int)<(h3.length:Int))) (cond (decide (0≤(1:Int)∧(1:Int)<((8:Nat):Int)∧(1:Int)<(h3.length:Int))) (cond (decide (0≤(2:Int)∧(2:Int)<((8:Nat):Int)∧(2:Int)<(h3.length:Int))) (cond (decide (0≤(3:Int)∧(3:Int)<((8:Nat):Int)∧(3:Int)<(h3.length:Int))) (cond (decide (0≤(5:Int)∧(5:Int)<((8:Nat):Int)∧(5:Int)<(h3.length:Int))) (cond (decide (0≤(6:Int)∧(6:Int)<((8:Nat):Int)∧(6:Int)<(h3.length:Int))) (cond (decide (h3.length=8)) (.inl (IntKind.wrap .i64 (x22+(1:Int)),h0,h1,h2,[IntKind.wrap .u32 ((IntKind.wrap .u32 ((IntKind.wrap .u32 ((IntKind.wrap .u32 ((IntKind.wrap .u32 ((IntKind.wrap .u32 ((h3.getD ((7:Int).toNat) (0:Int))+(ixor .u32 (ixor .u32 (math_bits_RotateLeft32 (h3.getD ((4:Int).toNat) (0:Int)) (-6:Int)) (math_bits_RotateLeft32 (h3.getD ((4:Int).toNat) (0:Int)) (-11:Int))) (math_bits_RotateLeft32 (h3.getD ((4:Int).toNat) (0:Int)) (-25:Int)))))+(ixor .u32 (iand .u32 (h3.getD ((4:Int).toNat) (0:Int)) (h3.getD ((5:Int).toNat) (0:Int))) (iand .u32 (ixor .u32 (4294967295) (h3.getD ((4:Int).toNat) (0:Int))) (h3.getD ((6:Int).toNat) (0:Int))))))+(h1.getD x22.toNat (0:Int))))+(h2.getD x22.toNat (0:Int))))+(ixor .u32 (ixor .u32 (math_bits_RotateLeft32 (h3.getD ((0:Int).toNat) (0:Int)) (-2:Int)) (math_bits_RotateLeft32 (h3.getD ((0:Int).toNat) (0:Int)) (-13:Int))) (math_bits_RotateLeft32 (h3.getD ((0:Int).toNat) (0:Int)) (-22:Int)))))+(ixor .u32 (ixor .u32 (iand .u32 (h3.getD ((0:Int).toNat) (0:Int)) (h3.getD ((1:Int).toNat) (0:Int))) (iand .u32 (h3.getD ((0:Int).toNat) (0:Int)) (h3.getD ((2:Int).toNat) (0:Int)))) (iand .u32 (h3.getD ((1:Int).toNat) (0:Int)) (h3.getD ((2:Int).toNat) (0:Int))))),h3.getD ((0:Int).toNat) (0:Int),h3.getD ((1:Int).toNat) (0:Int),h3.getD ((2:Int).toNat) (0:Int),IntKind.wrap .u32 ((h3.getD ((3:Int).toNat) (0:Int))+(IntKind.wrap .u32 ((IntKind.wrap .u32 ((IntKind.wrap .u32 ((IntKind.wrap .u32 ((h3.getD ((7:Int).toNat) (0:Int))+(ixor .u32 (ixor .u32 (math_bits_RotateLeft32 (h3.getD ((4:Int).toNat) (0:Int)) (-6:Int)) (math_bits_RotateLeft32 (h3.getD ((4:Int).toNat) (0:Int)) (-11:Int))) (math_bits_RotateLeft32 (h3.getD ((4:Int).toNat) (0:Int)) (-25:Int)))))+(ixor .u32 (iand .u32 (h3.getD ((4:Int).toNat) (0:Int)) (h3.getD ((5:Int).toNat) (0:Int))) (iand .u32 (ixor .u32 (4294967295) (h3.getD ((4:Int).toNat) (0:Int))) (h3.getD ((6:Int).toNat) (0:Int))))))+(h1.getD x22.toNat (0:Int))))+(h2.getD x22.toNat (0:Int))))),h3.getD ((4:Int).toNat) (0:Int),h3.getD ((5:Int).toNat) (0:Int),h3.getD ((6:Int).toNat) (0:Int)])) (.inr fl_iturnBlock_0)) (.inr fl_iturnBlock_0)) (.inr fl_iturnBlock_0)) (.inr fl_iturnBlock_0)) (.inr fl_iturnBlock_0)) (.inr fl_iturnBlock_0)) (.inr fl_iturnBlock_0)) (.inr fl_iturnBlock_0)) (.inr fl_iturnBlock_0)) (.inr fl_iturnBlock_0)) (.inr fl_iturnBlock_0)) (.inr fl_iturnBlock_0)) (.inr fl_iturnBlock_0)) (.inr fl_iturnBlock_0)) (.inr fl_iturnBlock_0)) (.inr fl_iturnBlock_0)) (.inr fl_iturnBlock_0)) (.inr (0,h0,h1,h3)))
noncomputable def it_iturnBlock_0 (x22:Int) (h0:List Int) (h1:List Int) (h2:List Int) (h3:List Int):A_iturnBlock_0:=itX (fun v:V_iturnBlock_0=>ss_iturnBlock_0 v.1 v.2.1 v.2.2.1 v.2.2.2.1 v.2.2.2.2) fl_iturnBlock_0 (x22,h0,h1,h2,h3)
noncomputable def ct_iturnBlock_0 (a:A_iturnBlock_0):CT:=(.br (a.1==0) (.done (.exit 0) E_iturnBlock_0_0 ((u125),(a.2.1,a.2.2.1,a.2.2.2,()))) .fail)
noncomputable def T_iturnBlock_0 (x22:Int) (h0:List Int) (h1:List Int) (h2:List Int) (h3:List Int):CT:=ct_iturnBlock_0 (it_iturnBlock_0 x22 h0 h1 h2 h3)
noncomputable abbrev ap_iturnBlock_0 {α:Sort _} (f:Int→(List Int)→(List Int)→(List Int)→(List Int)→α) (d:S_iturnBlock_0.den):α:=f d.1.2.2.2.2.2.2.2.2.2.2.2.2.2.2.2.2.2.2.2.2.2.2.1 d.2.1 d.2.2.1 d.2.2.2.1 d.2.2.2.2.1
noncomputable abbrev sp_iturnBlock_0:S_iturnBlock_0.den→RT S_iturnBlock_0.den:=(ap_iturnBlock_0 st_iturnBlock_0)
noncomputable abbrev pv_iturnBlock_0 (v:V_iturnBlock_0):S_iturnBlock_0.den:=(((),(),(),(),(),(),(),(),(),(),(),(),(),(),(),(),(),(),(),(),(),(),v.1,u102),(v.2.1,v.2.2.1,v.2.2.2.1,v.2.2.2.2,()))
theorem rl_iturnBlock_0:(∀ v:V_iturnBlock_0,(st_iturnBlock_0 v.1 v.2.1 v.2.2.1 v.2.2.2.1 v.2.2.2.2).val=relS pv_iturnBlock_0 ct_iturnBlock_0 (ss_iturnBlock_0 v.1 v.2.1 v.2.2.1 v.2.2.2.1 v.2.2.2.2))∧∀ a:A_iturnBlock_0,CEnd S_iturnBlock_0.den (ct_iturnBlock_0 a):=⟨fun v=>by repeat' first | apply relB | rfl,fun a=>(cendB (cendD (by simp)) cendF)⟩
noncomputable def ox_iturnBlock_0 (x22:Int) (h0:List Int) (h1:List Int) (h2:List Int) (h3:List Int):Option (Ex×St):=(cond (decide (x22<(64:Int))) (cond (decide (0≤(0:Int)∧(0:Int)<((8:Nat):Int)∧(0:Int)<(h3.length:Int))) (cond (decide (0≤(4:Int)∧(4:Int)<((8:Nat):Int)∧(4:Int)<(h3.length:Int))) (cond (decide (0≤(5:Int)∧(5:Int)<((8:Nat):Int)∧(5:Int)<(h3.length:Int))) (cond (decide (0≤(6:Int)∧(6:Int)<((8:Nat):Int)∧(6:Int)<(h3.length:Int))) (cond (decide (0≤(7:Int)∧(7:Int)<((8:Nat):Int)∧(7:Int)<(h3.length:Int))) (cond (decide (0≤x22∧x22<((64:Nat):Int)∧x22<(h1.length:Int))) (cond (decide (0≤x22∧x22<((64:Nat):Int)∧x22<(h2.length:Int))) (cond (decide (0≤(1:Int)∧(1:Int)<((8:Nat):Int)∧(1:Int)<(h3.length:Int))) (cond (decide (0≤(2:Int)∧(2:Int)<((8:Nat):Int)∧(2:Int)<(h3.length:Int))) (cond (decide (0≤(1:Int)∧(1:Int)<((8:Nat):Int)∧(1:Int)<(h3.length:Int))) (cond (decide (0≤(2:Int)∧(2:Int)<((8:Nat):Int)∧(2:Int)<(h3.length:Int))) (cond (decide (0≤(1:Int)∧(1:Int)<((8:Nat):Int)∧(1:Int)<(h3.length:Int))) (cond (decide (0≤(2:Int)∧(2:Int)<((8:Nat):Int)∧(2:Int)<(h3.length:Int))) (cond (decide (0≤(3:Int)∧(3:Int)<((8:Nat):Int)∧(3:Int)<(h3.length:Int))) (cond (decide (0≤(5:Int)∧(5:Int)<((8:Nat):Int)∧(5:Int)<(h3.length:Int))) (cond (decide (0≤(6:Int)∧(6:Int)<((8:Nat):Int)∧(6:Int)<(h3.length:Int))) (cond (decide (h3.length=8)) (some (.normal,(⟨((.ptr 0 0 1 0)::.junk::(.ptr 1 0 1 0)::.junk::.junk::.junk::(.ptr 2 0 1 0)::(.ptr 3 0 1 0)::.junk::.junk::.junk::.junk::.junk::.junk::.junk::.junk::.junk::.junk::.junk::.junk::.junk::.junk::(.t true (.int .i64) (IntKind.wrap .i64 (x22+(1:Int))))::jA101),[(.rows 158 true (.int .u32) h0),(.rows 176 true (.int .u32) h1),(.rows 176 true (.int .u32) h2),(.rows 158 true (.int .u32) [IntKind.wrap .u32 ((IntKind.wrap .u32 ((IntKind.wrap .u32 ((IntKind.wrap .u32 ((IntKind.wrap .u32 ((IntKind.wrap .u32 ((h3.getD ((7:Int).toNat) (0:Int))+(ixor .u32 (ixor .u32 (math_bits_RotateLeft32 (h3.getD ((4:Int).toNat) (0:Int)) (-6:Int)) (math_bits_RotateLeft32 (h3.getD ((4:Int).toNat) (0:Int)) (-11:Int))) (math_bits_RotateLeft32 (h3.getD ((4:Int).toNat) (0:Int)) (-25:Int)))))+(ixor .u32 (iand .u32 (h3.getD ((4:Int).toNat) (0:Int)) (h3.getD ((5:Int).toNat) (0:Int))) (iand .u32 (ixor .u32 (4294967295) (h3.getD ((4:Int).toNat) (0:Int))) (h3.getD ((6:Int).toNat) (0:Int))))))+(h1.getD x22.toNat (0:Int))))+(h2.getD x22.toNat (0:Int))))+(ixor .u32 (ixor .u32 (math_bits_RotateLeft32 (h3.getD ((0:Int).toNat) (0:Int)) (-2:Int)) (math_bits_RotateLeft32 (h3.getD ((0:Int).toNat) (0:Int)) (-13:Int))) (math_bits_RotateLeft32 (h3.getD ((0:Int).toNat) (0:Int)) (-22:Int)))))+(ixor .u32 (ixor .u32 (iand .u32 (h3.getD ((0:Int).toNat) (0:Int)) (h3.getD ((1:Int).toNat) (0:Int))) (iand .u32 (h3.getD ((0:Int).toNat) (0:Int)) (h3.getD ((2:Int).toNat) (0:Int)))) (iand .u32 (h3.getD ((1:Int).toNat) (0:Int)) (h3.getD ((2:Int).toNat) (0:Int))))),h3.getD ((0:Int).toNat) (0:Int),h3.getD ((1:Int).toNat) (0:Int),h3.getD ((2:Int).toNat) (0:Int),IntKind.wrap .u32 ((h3.getD ((3:Int).toNat) (0:Int))+(IntKind.wrap .u32 ((IntKind.wrap .u32 ((IntKind.wrap .u32 ((IntKind.wrap .u32 ((h3.getD ((7:Int).toNat) (0:Int))+(ixor .u32 (ixor .u32 (math_bits_RotateLeft32 (h3.getD ((4:Int).toNat) (0:Int)) (-6:Int)) (math_bits_RotateLeft32 (h3.getD ((4:Int).toNat) (0:Int)) (-11:Int))) (math_bits_RotateLeft32 (h3.getD ((4:Int).toNat) (0:Int)) (-25:Int)))))+(ixor .u32 (iand .u32 (h3.getD ((4:Int).toNat) (0:Int)) (h3.getD ((5:Int).toNat) (0:Int))) (iand .u32 (ixor .u32 (4294967295) (h3.getD ((4:Int).toNat) (0:Int))) (h3.getD ((6:Int).toNat) (0:Int))))))+(h1.getD x22.toNat (0:Int))))+(h2.getD x22.toNat (0:Int))))),h3.getD ((4:Int).toNat) (0:Int),h3.getD ((5:Int).toNat) (0:Int),h3.getD ((6:Int).toNat) (0:Int)])],2,[]⟩:St))) none) none) none) none) none) none) none) none) none) none) none) none) none) none) none) none) none) (some ((.exit 0),(⟨((.ptr 0 0 1 0)::.junk::.junk::.junk::.junk::.junk::.junk::(.ptr 2 0 1 0)::jA116),[(.rows 158 true (.int .u32) h0),(.rows 176 true (.int .u32) h1),(.rows 158 true (.int .u32) h3)],2,[]⟩:St))))
theorem rdA_iturnBlock_0:RdA G30 (fun _ _=>none) 0 body_iturnBlock_0 S_iturnBlock_0 2 [] (kepts [] [(0,[0,7])]) (ap_iturnBlock_0 ox_iturnBlock_0):=by
 intro d
 kernel_rfl
theorem rdB_iturnBlock_0:∀ d:S_iturnBlock_0.den,(ap_iturnBlock_0 ox_iturnBlock_0) d=(sp_iturnBlock_0 d).opt 2 []:=by
 intro d
 kernel_rfl
noncomputable abbrev say_iturnBlock_0:St→Option Tree:=S_iturnBlock_0.say 2 [] [] (ap_iturnBlock_0 T_iturnBlock_0)
theorem lw_iturnBlock_0:LoopWp Try.prog say_iturnBlock_0 body_iturnBlock_0:=SS.wp2 hlz [] sp_iturnBlock_0 rdA_iturnBlock_0 rdB_iturnBlock_0 _ (fun d=>Runs.ofI2 (step:=sp_iturnBlock_0) pv_iturnBlock_0 rl_iturnBlock_0 rfl (d.1.2.2.2.2.2.2.2.2.2.2.2.2.2.2.2.2.2.2.2.2.2.2.1,d.2.1,d.2.2.1,d.2.2.2.1,d.2.2.2.2.1))
noncomputable abbrev S_iturnBlock_1:SS:=⟨(.ptr 0 0 1 0::.junk::.junk::.junk::.junk::.junk::.junk::.ptr 2 0 1 0::.junk::.junk::.junk::.junk::.junk::.junk::.junk::.junk::.junk::.junk::.junk::.junk::.junk::.junk::.junk::.junk::.junk::.junk::.junk::.junk::.junk::.junk::.junk::.junk::.junk::.junk::.junk::.junk::.junk::.junk::.junk::.junk::.junk::.junk::.junk::.junk::.junk::.junk::.junk::.junk::.junk::.junk::.junk::.junk::.junk::.junk::.junk::.junk::.junk::.junk::.junk::.junk::.junk::.junk::.junk::.junk::.junk::.junk::.junk::.junk::.junk::.junk::.junk::.junk::.junk::.junk::.junk::.junk::.junk::.junk::.junk::.junk::.junk::.junk::.junk::.junk::.junk::.junk::.junk::.junk::.junk::.junk::.junk::.junk::.junk::.junk::.junk::.junk::.junk::.junk::.junk::.junk::.junk::.junk::.junk::.junk::.junk::.junk::.junk::.junk::.junk::.t true (.int .i64)::jS14),[.rows 158 true (.int .u32),.rows 176 true (.int .u32),.rows 158 true (.int .u32)]⟩
noncomputable abbrev E_iturnBlock_1_0:SS:=⟨(.junk::jS123),[.rows 158 true (.int .u32),.rows 176 true (.int .u32)]⟩
noncomputable def st_iturnBlock_1 (x109:Int) (h0:List Int) (h1:List Int) (h2:List Int):RT S_iturnBlock_1.den:=(.br (decide (x109<(8:Int))) (.br (decide (0≤x109∧x109<((8:Nat):Int)∧x109<(h0.length:Int))) (.br (decide (0≤x109∧x109<((8:Nat):Int)∧x109<(h2.length:Int))) (.br (decide (0≤x109∧x109<((8:Nat):Int)∧x109<(h0.length:Int))) (.next (((),(),(),(),(),(),(),(),(),(),(),(),(),(),(),(),(),(),(),(),(),(),(),(),(),(),(),(),(),(),(),(),(),(),(),(),(),(),(),(),(),(),(),(),(),(),(),(),(),(),(),(),(),(),(),(),(),(),(),(),(),(),(),(),(),(),(),(),(),(),(),(),(),(),(),(),(),(),(),(),(),(),(),(),(),(),(),(),(),(),(),(),(),(),(),(),(),(),(),(),(),(),(),(),(),(),(),(),(),IntKind.wrap .i64 (x109+(1:Int)),u15),(h0.set x109.toNat (IntKind.wrap .u32 ((h0.getD x109.toNat (0:Int))+(h2.getD x109.toNat (0:Int)))),h1,h2,()))) .fail) .fail) .fail) (.done (.exit 2) E_iturnBlock_1_0 ((u125),(h0,h1,()))))
noncomputable abbrev V_iturnBlock_1:=(Int)×(List Int)×(List Int)×(List Int)
noncomputable abbrev A_iturnBlock_1:=Nat×(List Int)×(List Int)
noncomputable def fl_iturnBlock_1:A_iturnBlock_1:=(99,([]:List Int),([]:List Int))
noncomputable def ss_iturnBlock_1 (x109:Int) (h0:List Int) (h1:List Int) (h2:List Int):V_iturnBlock_1 ⊕ A_iturnBlock_1:=(cond (decide (x109<(8:Int))) (cond (decide (0≤x109∧x109<((8:Nat):Int)∧x109<(h0.length:Int))) (cond (decide (0≤x109∧x109<((8:Nat):Int)∧x109<(h2.length:Int))) (cond (decide (0≤x109∧x109<((8:Nat):Int)∧x109<(h0.length:Int))) (.inl (IntKind.wrap .i64 (x109+(1:Int)),h0.set x109.toNat (IntKind.wrap .u32 ((h0.getD x109.toNat (0:Int))+(h2.getD x109.toNat (0:Int)))),h1,h2)) (.inr fl_iturnBlock_1)) (.inr fl_iturnBlock_1)) (.inr fl_iturnBlock_1)) (.inr (0,h0,h1)))
noncomputable def it_iturnBlock_1 (x109:Int) (h0:List Int) (h1:List Int) (h2:List Int):A_iturnBlock_1:=itX (fun v:V_iturnBlock_1=>ss_iturnBlock_1 v.1 v.2.1 v.2.2.1 v.2.2.2) fl_iturnBlock_1 (x109,h0,h1,h2)
noncomputable def ct_iturnBlock_1 (a:A_iturnBlock_1):CT:=(.br (a.1==0) (.done (.exit 2) E_iturnBlock_1_0 ((u125),(a.2.1,a.2.2,()))) .fail)
noncomputable def T_iturnBlock_1 (x109:Int) (h0:List Int) (h1:List Int) (h2:List Int):CT:=ct_iturnBlock_1 (it_iturnBlock_1 x109 h0 h1 h2)
noncomputable abbrev ap_iturnBlock_1 {α:Sort _} (f:Int→(List Int)→(List Int)→(List Int)→α) (d:S_iturnBlock_1.den):α:=f d.1.2.2.2.2.2.2.2.2.2.2.2.2.2.2.2.2.2.2.2.2.2.2.2.2.2.2.2.2.2.2.2.2.2.2.2.2.2.2.2.2.2.2.2.2.2.2.2.2.2.2.2.2.2.2.2.2.2.2.2.2.2.2.2.2.2.2.2.2.2.2.2.2.2.2.2.2.2.2.2.2.2.2.2.2.2.2.2.2.2.2.2.2.2.2.2.2.2.2.2.2.2.2.2.2.2.2.2.2.2.1 d.2.1 d.2.2.1 d.2.2.2.1
noncomputable abbrev sp_iturnBlock_1:S_iturnBlock_1.den→RT S_iturnBlock_1.den:=(ap_iturnBlock_1 st_iturnBlock_1)
noncomputable abbrev pv_iturnBlock_1 (v:V_iturnBlock_1):S_iturnBlock_1.den:=(((),(),(),(),(),(),(),(),(),(),(),(),(),(),(),(),(),(),(),(),(),(),(),(),(),(),(),(),(),(),(),(),(),(),(),(),(),(),(),(),(),(),(),(),(),(),(),(),(),(),(),(),(),(),(),(),(),(),(),(),(),(),(),(),(),(),(),(),(),(),(),(),(),(),(),(),(),(),(),(),(),(),(),(),(),(),(),(),(),(),(),(),(),(),(),(),(),(),(),(),(),(),(),(),(),(),(),(),(),v.1,u15),(v.2.1,v.2.2.1,v.2.2.2,()))
theorem rl_iturnBlock_1:(∀ v:V_iturnBlock_1,(st_iturnBlock_1 v.1 v.2.1 v.2.2.1 v.2.2.2).val=relS pv_iturnBlock_1 ct_iturnBlock_1 (ss_iturnBlock_1 v.1 v.2.1 v.2.2.1 v.2.2.2))∧∀ a:A_iturnBlock_1,CEnd S_iturnBlock_1.den (ct_iturnBlock_1 a):=⟨fun v=>(relB (relB (relB (relB rfl rfl) rfl) rfl) rfl),fun a=>(cendB (cendD (by simp)) cendF)⟩
noncomputable def ox_iturnBlock_1 (x109:Int) (h0:List Int) (h1:List Int) (h2:List Int):Option (Ex×St):=(cond (decide (x109<(8:Int))) (cond (decide (0≤x109∧x109<((8:Nat):Int)∧x109<(h0.length:Int))) (cond (decide (0≤x109∧x109<((8:Nat):Int)∧x109<(h2.length:Int))) (cond (decide (0≤x109∧x109<((8:Nat):Int)∧x109<(h0.length:Int))) (some (.normal,(⟨((.ptr 0 0 1 0)::.junk::.junk::.junk::.junk::.junk::.junk::(.ptr 2 0 1 0)::.junk::.junk::.junk::.junk::.junk::.junk::.junk::.junk::.junk::.junk::.junk::.junk::.junk::.junk::.junk::.junk::.junk::.junk::.junk::.junk::.junk::.junk::.junk::.junk::.junk::.junk::.junk::.junk::.junk::.junk::.junk::.junk::.junk::.junk::.junk::.junk::.junk::.junk::.junk::.junk::.junk::.junk::.junk::.junk::.junk::.junk::.junk::.junk::.junk::.junk::.junk::.junk::.junk::.junk::.junk::.junk::.junk::.junk::.junk::.junk::.junk::.junk::.junk::.junk::.junk::.junk::.junk::.junk::.junk::.junk::.junk::.junk::.junk::.junk::.junk::.junk::.junk::.junk::.junk::.junk::.junk::.junk::.junk::.junk::.junk::.junk::.junk::.junk::.junk::.junk::.junk::.junk::.junk::.junk::.junk::.junk::.junk::.junk::.junk::.junk::.junk::(.t true (.int .i64) (IntKind.wrap .i64 (x109+(1:Int))))::jA14),[(.rows 158 true (.int .u32) (h0.set x109.toNat (IntKind.wrap .u32 ((h0.getD x109.toNat (0:Int))+(h2.getD x109.toNat (0:Int)))))),(.rows 176 true (.int .u32) h1),(.rows 158 true (.int .u32) h2)],2,[]⟩:St))) none) none) none) (some ((.exit 2),(⟨(.junk::jA123),[(.rows 158 true (.int .u32) h0),(.rows 176 true (.int .u32) h1)],2,[]⟩:St))))
theorem rdA_iturnBlock_1:RdA G30 (fun _ _=>none) 2 body_iturnBlock_1 S_iturnBlock_1 2 [] (kepts [] [(2,[])]) (ap_iturnBlock_1 ox_iturnBlock_1):=by
 intro d
 kernel_rfl
theorem rdB_iturnBlock_1:∀ d:S_iturnBlock_1.den,(ap_iturnBlock_1 ox_iturnBlock_1) d=(sp_iturnBlock_1 d).opt 2 []:=by
 intro d
 kernel_rfl
noncomputable abbrev say_iturnBlock_1:St→Option Tree:=S_iturnBlock_1.say 2 [] [] (ap_iturnBlock_1 T_iturnBlock_1)
theorem lw_iturnBlock_1:LoopWp Try.prog say_iturnBlock_1 body_iturnBlock_1:=SS.wp2 hlz [] sp_iturnBlock_1 rdA_iturnBlock_1 rdB_iturnBlock_1 _ (fun d=>Runs.ofI2 (step:=sp_iturnBlock_1) pv_iturnBlock_1 rl_iturnBlock_1 rfl (d.1.2.2.2.2.2.2.2.2.2.2.2.2.2.2.2.2.2.2.2.2.2.2.2.2.2.2.2.2.2.2.2.2.2.2.2.2.2.2.2.2.2.2.2.2.2.2.2.2.2.2.2.2.2.2.2.2.2.2.2.2.2.2.2.2.2.2.2.2.2.2.2.2.2.2.2.2.2.2.2.2.2.2.2.2.2.2.2.2.2.2.2.2.2.2.2.2.2.2.2.2.2.2.2.2.2.2.2.2.2.1,d.2.1,d.2.2.1,d.2.2.2.1))
noncomputable def k1_iturnBlock (x1:List Int) (h0:List Int) (h1:List Int):=it_iturnBlock_0 (0:Int) h0 h1 (iwordsOf x1) [h0.getD 0 0,h0.getD 1 0,h0.getD 2 0,h0.getD 3 0,h0.getD 4 0,h0.getD 5 0,h0.getD 6 0,h0.getD 7 0]
noncomputable def k2_iturnBlock (x1:List Int) (h0:List Int) (h1:List Int):=it_iturnBlock_1 (0:Int) ((k1_iturnBlock x1 h0 h1).2.1) ((k1_iturnBlock x1 h0 h1).2.2.1) ((k1_iturnBlock x1 h0 h1).2.2.2)
noncomputable def iturnBlock (x1:List Int) (h0:List Int) (h1:List Int):(List Int)×List Int:=(((k2_iturnBlock x1 h0 h1).2.1),((k2_iturnBlock x1 h0 h1).2.2))
noncomputable abbrev e_iturnBlock (r:(List Int)×List Int):AV×List AObj×List Nat:=((.tup []),[(.rows 158 true (.int .u32) r.1),(.rows 176 true (.int .u32) r.2)],[])
noncomputable abbrev g_iturnBlock:SM_iturnBlock.den→AV×List AObj×List Nat:=fun d=>e_iturnBlock (iturnBlock d.1.2.1 d.2.1 d.2.2.1)
noncomputable def q_iturnBlock (x1:List Int) (h0:List Int) (h1:List Int):Bool:=(q_iwordsOf x1)&&((decide (h0.length=8))&&((decide ([(0:Int),(0:Int),(0:Int),(0:Int),(0:Int),(0:Int),(0:Int),(0:Int)].length=8))&&(((k1_iturnBlock x1 h0 h1).1==0)&&((k2_iturnBlock x1 h0 h1).1==0))))
noncomputable abbrev pre_iturnBlock:SM_iturnBlock.den→Bool:=fun d=>q_iturnBlock d.1.2.1 d.2.1 d.2.2.1
noncomputable abbrev L_iturnBlock:Nat→St→Option Tree:=fun b=>match b with | 0=>say_iturnBlock_0 | 2=>say_iturnBlock_1 | _=>fun _=>none
theorem run_iturnBlock:RunM G30 (L_iturnBlock) Try.f151 SM_iturnBlock pre_iturnBlock g_iturnBlock:=by
 rintro ⟨⟨_,x1,_,_⟩,⟨h0,h1,_⟩⟩ hp
 change q_iturnBlock x1 h0 h1=true at hp
 unfold q_iturnBlock at hp
 refine Eq.trans (b:=(cond (q_iwordsOf x1) (cond (decide (h0.length=8)) (cond (decide ([(0:Int),(0:Int),(0:Int),(0:Int),(0:Int),(0:Int),(0:Int),(0:Int)].length=8)) (cond ((k1_iturnBlock x1 h0 h1).1==0) (cond ((k2_iturnBlock x1 h0 h1).1==0) (some (e_iturnBlock (((k2_iturnBlock x1 h0 h1).2.1),((k2_iturnBlock x1 h0 h1).2.2)))) none) none) none) none) none)) (by kernel_rfl) ?_
 exact (cndA hp fun hp=>(cndA hp fun hp=>(cndA hp fun hp=>(cndA hp fun hp=>(cndT hp fun _h=>rfl)))))
noncomputable abbrev m_iturnBlock:=win winIds (msum SM_iturnBlock pre_iturnBlock g_iturnBlock)
theorem c_iturnBlock:MContract Try.prog 151 m_iturnBlock:=(mcM G30 (by
  rw [show loopsIn 0 (bodyOf Try.f151)=[(0,body_iturnBlock_0),(2,body_iturnBlock_1)] by kernel_rfl];intro p hp;simp only [List.mem_cons,List.mem_nil_iff,or_false] at hp
  rcases hp with rfl | rfl
  ·exact lw_iturnBlock_0
  ·exact lw_iturnBlock_1) run_iturnBlock).win winIds
noncomputable def S31:Tab:=Tab.add S30 151 (m_iturnBlock)
noncomputable def QF31:FuncId→Bool:=QF30
theorem G31:Good Try.prog tt S31 QF31:=G30.addM c_iturnBlock (win_local _) (cbl Try.f151) (by kernel_rfl)


end Go.Proofs.Ytccelbeahdcooaa.Eng
