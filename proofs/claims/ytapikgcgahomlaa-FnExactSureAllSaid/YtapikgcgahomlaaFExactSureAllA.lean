/- What the functions that FnExactSureAll reaches compute, and that it answers true. -/
import Derived.Test.YtapikgcgahomlaaT
import Derived.Test.YtapikgcgahomlaaRows
import Derived.Test.YtapikgcgahomlaaE39
import Derived.Shelf.Sort.Plain
import Derived.Shelf.Slices.In.SortNone
import Derived.Shelf.Slices.CompactI
namespace Go.Proofs.Ytapikgcgahomlaa.Eng
open Go Go.RowKit
set_option linter.unusedSimpArgs false
set_option linter.unusedVariables false
set_option maxRecDepth 10000
noncomputable abbrev bE:ByteArray:=⟨#[]⟩
noncomputable abbrev Lq1:=List (Int×ByteArray×ByteArray)
noncomputable abbrev tq4:Ty:=.sl (.pair (.int .i64) (.pair .str .str))
noncomputable abbrev tq8:Ty:=.pair (.int .i64) (.pair (.int .i64) (.sl (.pair (.int .i64) (.pair .str .str))))
noncomputable def S0:Tab:=fun _=>none
noncomputable def QF0:FuncId→Bool:=fun _=>false
theorem G0:Good Try.prog tt S0 QF0:=Good.start tt_ok (by kernel_rfl)
theorem Runs.ofI2 {D V A:Type} {step:D→RT D} (pk:V→D) {ss:V→V ⊕ A} {ct:A→CT} {fa:A} (h:(∀ v,(step (pk v)).val=relS pk ct (ss v))∧∀ a,CEnd D (ct a)) (hf:(ct fa).val (D:=D)=.fail) (v:V):(ct (itX ss fa v)).val (D:=D)=.fail∨Runs step (pk v) (ct (itX ss fa v)).val:=Runs.ofIt pk hf h.1 h.2 v
theorem cndE {α β:Type} (e:α→β) {c q r:Bool} {X Y:Option β} {a b:α} (hq:cond c q r=true) (hx:q=true→X=some (e a)) (hy:r=true→Y=some (e b)):cond c X Y=some (e (cond c a b)):=cndQ (F:=fun r=>some (e r)) hq hx hy
theorem cndG {α β:Type} (e:α→β) {c:Bool} {X Y:Option β} {a b:α} (hx:c=true→X=some (e a)) (hy:c=false→Y=some (e b)):cond c X Y=some (e (cond c a b)):=cnd (F:=fun r=>some (e r)) hx hy
theorem hlz {L:Nat→St→Option Tree} {b:Nat} {x:Code} (h:loopsIn b x=[]:=by kernel_rfl):∀ p∈loopsIn b x,LoopWp Try.prog (L p.1) p.2:=hl0 h
theorem cbl {f : FuncId} (F : Func) (h1 : Try.prog.funcs[f]? = some F := by kernel_rfl) (h2 : (F.name == "runtime.NumGoroutine") = false := by kernel_rfl) (h3 : F.body.isNone = false := by kernel_rfl) : Callable Try.prog f := ⟨F, h1, h2, h3⟩
theorem pcD (ro:Bool) {TB:TT} {S:Tab} {Q:FuncId→Bool} (G:Good Try.prog TB S Q) {f:FuncId} {fn:Func} {L:Nat→St→Option Tree} (hL:∀ p∈loopsIn 0 (bodyOf fn),LoopWp Try.prog (L p.1) p.2) {l:List PSh} {pre:pshsDen l→Bool} {g:pshsDen l→AV×List AObj} (h:RunP ro G L fn l pre g) (hf:Try.prog.funcs[f]? = some fn:=by kernel_rfl):PContract Try.prog f (sumOf l pre g):=PContract.of_data ro G hf hL l pre g h
theorem mcM {TB:TT} {S:Tab} {Q:FuncId→Bool} (G:Good Try.prog TB S Q) {f:FuncId} {fn:Func} {L:Nat→St→Option Tree} (hL:∀ p∈loopsIn 0 (bodyOf fn),LoopWp Try.prog (L p.1) p.2) {s:SS} {pre:s.den→Bool} {g:s.den→AV×List AObj×List Nat} (h:RunM G L fn s pre g) (hf:Try.prog.funcs[f]? = some fn:=by kernel_rfl):MContract Try.prog f (msum s pre g):=MContract.of_data G hf hL s pre g h
theorem mcRD (dl:List AV) {TB:TT} {S:Tab} {Q:FuncId→Bool} (G:Good Try.prog TB S Q) {f:FuncId} {fn:Func} {L:Nat→St→Option Tree} (hL:∀ p∈loopsIn 0 (bodyOf fn),LoopWp Try.prog (L p.1) p.2) {s:SS} {pre:s.den→Bool} {g:s.den→AV×List AObj×List Nat} (h:RunMRD dl G L fn s pre g) (hf:Try.prog.funcs[f]? = some fn:=by kernel_rfl):MContract Try.prog f (msum s pre g):=MContract.of_dataRD dl G hf hL s pre g h
theorem mcE (mr:Bool) (dl:List AV) (kx:List Nat) (nb:List (Nat×Nat×Nat×TypeId×Ty)) {TB:TT} {S:Tab} {Q:FuncId→Bool} (G:Good Try.prog TB S Q) {f:FuncId} {fn:Func} {L:Nat→St→Option Tree} (hL:∀ p∈loopsIn 0 (bodyOf fn),LoopWp Try.prog (L p.1) p.2) {s:SS} {pre:s.den→Bool} {g:s.den→AV×List AObj×List Nat} (h:RunE mr dl kx nb G L fn s pre g) (hf:Try.prog.funcs[f]? = some fn:=by kernel_rfl):MContract Try.prog f (msum s pre g):=MContract.of_dataE mr dl kx nb G hf hL s pre g h
/-! Plain laws: order of bytes, keys, ops. -/
theorem bytesLess_irrefl:∀ a:List UInt8,Op.bytesLess a a=false:=by
 intro a
 induction a with
 | nil=>rfl
 | cons x a ih=>simp only [Op.bytesLess,ih,Bool.and_false,Bool.or_false,decide_eq_false_iff_not];exact UInt8.lt_irrefl x
theorem bytesLess_ge:∀ a b:List UInt8,(!(Op.bytesLess a b))=(Op.bytesLess b a||b==a):=by
 intro a
 induction a with
 | nil=>intro b;cases b<;>simp [Op.bytesLess]
 | cons x a ih =>
  intro b
  cases b with
  | nil=>simp [Op.bytesLess]
  | cons y b =>
   simp only [Op.bytesLess]
   by_cases h1:x<y
   ·have h2:¬ y<x:=fun h=>UInt8.lt_irrefl _ (UInt8.lt_trans h1 h)
    have h3:(y==x)=false:=by rw [beq_eq_false_iff_ne];intro h;subst h;exact h2 h1
    have h4:(y::b==x::a)=false:=by rw [List.cons_beq_cons,h3,Bool.false_and]
    simp [h1,h2,h3,h4]
   ·by_cases h5:x=y
    ·subst h5
     have h6:(x::b==x::a)=(b==a):=by rw [List.cons_beq_cons];simp
     have:=ih b
     simp only [h1,decide_false,Bool.false_or,beq_self_eq_true,Bool.true_and,h6,this]
    ·have h7 : y < x := by
      rcases Nat.lt_trichotomy x.toNat y.toNat with h | h | h
      ·exact absurd (UInt8.lt_iff_toNat_lt.2 h) h1
      ·exact absurd (UInt8.toNat_inj.1 h) h5
      ·exact UInt8.lt_iff_toNat_lt.2 h
     have h8:(x==y)=false:=by rw [beq_eq_false_iff_ne];exact h5
     simp [h1,h7,h8]
theorem allF_congr {p q:Nat→Bool}:∀ k i,(∀ j,i≤j→j<i+k→p j=q j)→allF p k i=allF q k i:=by
 intro k
 induction k with
 | zero=>intro i h;rfl
 | succ k ih=>intro i h;simp only [allF];rw [h i (Nat.le_refl _) (by omega),ih (i+1) (fun j h1 h2=>h j (by omega) (by omega))]
theorem allF_same {p:Nat→Bool} (k i:Nat) (h:∀ j,i≤j→j<i+k→p j=true):allF p k i=true:=(allF_true k i).2 h
theorem szN_all {f:Nat→Int→Int} {Q:Nat→Prop} {M:Int}:∀ (k i:Nat) (b:Int),(∀ j b,i≤j→j<i+k→0≤b→b≤M→0≤f j b→Q j∧f j b≤b)→0≤b→b≤M→isInl (szN f k i b)=true →
  (∀ j,i≤j→j<i+k→Q j)∧0≤getInl (-1) (szN f k i b)∧getInl (-1) (szN f k i b)≤b:=by
 intro k
 induction k with
 | zero=>intro i b hf h1 h2 h3;exact ⟨fun j hj hk=>by omega,h1,Int.le_refl _⟩
 | succ k ih =>
  intro i b hf h1 h2 h3
  have e:szN f (k+1) i b=cond (decide (f i b<0)) (.inr ()) (szN f k (i+1) (f i b)):=by
   simp only [szN,loopN]
   cases decide (f i b<0)<;>rfl
  rw [e] at h3 ⊢
  cases hd:decide (f i b<0) with
  | true=>rw [hd] at h3;cases h3
  | false =>
   rw [hd] at h3
   simp only [cond_false] at h3 ⊢
   have h0:0≤f i b:=by have:=of_decide_eq_false hd;omega
   obtain ⟨q1,q2⟩:=hf i b (Nat.le_refl _) (by omega) h1 h2 h0
   obtain ⟨r1,r2,r3⟩:=ih (i+1) (f i b) (fun j b hj hk=>hf j b (by omega) (by omega)) h0 (by omega) h3
   refine ⟨fun j hj hk=>?_,r2,by omega⟩
   by_cases ej:j=i
   ·exact ej ▸ q1
   ·exact r1 j (by omega) (by omega)
noncomputable abbrev OpT:Type:=Int×ByteArray×ByteArray
noncomputable def dOp:Int×ByteArray×ByteArray:=((0:Int),(bE,bE))
noncomputable def okOp (o:Int×ByteArray×ByteArray):Bool:=okS o.2.1&&okS o.2.2
noncomputable def okOps (l:Lq1):Bool:=okL l&&l.all okOp
theorem okOps_at {l:Lq1} (h:okOps l=true) (i:Nat) (hi:i<l.length):okS (l.getD i dOp).2.1=true∧okS (l.getD i dOp).2.2=true:=by
 simp only [okOps,Bool.and_eq_true,List.all_eq_true] at h
 have:=h.2 (l.getD i dOp) (by simp [List.getD_eq_getElem?_getD,hi])
 simpa [okOp] using this
theorem okOps_len {l:Lq1} (h:okOps l=true):l.length≤1048576:=by
 simp only [okOps,Bool.and_eq_true] at h
 exact okL_le h.1
noncomputable def bigS (s:ByteArray):Bool:=decide (s.size≤9223372036854775807)
noncomputable def bigOps (l:Lq1):Bool:=decide (l.length≤9223372036854775807)&&l.all (fun o=>bigS o.2.1&&bigS o.2.2)
theorem bigOps_at {l:Lq1} (h:bigOps l=true) (i:Nat) (hi:i<l.length):bigS (l.getD i dOp).2.1=true∧bigS (l.getD i dOp).2.2=true:=by
 simp only [bigOps,Bool.and_eq_true,List.all_eq_true] at h
 exact h.2 (l.getD i dOp) (by simp [List.getD_eq_getElem?_getD,hi])
theorem okOps_of {l:Lq1} (h1:l.length≤1048576) (h2:∀ i,i<l.length→okS (l.getD i dOp).2.1=true∧okS (l.getD i dOp).2.2=true):okOps l=true:=by
 simp only [okOps,okL,Bool.and_eq_true,decide_eq_true_eq,List.all_eq_true]
 refine ⟨h1,fun o ho=>?_⟩
 obtain ⟨i,hi,rfl⟩:=List.getElem_of_mem ho
 have:=h2 i hi
 simp only [List.getD_eq_getElem?_getD,List.getElem?_eq_getElem hi,Option.getD_some] at this
 simp [okOp,this.1,this.2]
theorem ba_beq (a b:ByteArray):(a.toList==b.toList)=decide (a=b):=by
 rw [ByteArray.toList_eq,ByteArray.toList_eq]
 by_cases h:a=b
 ·subst h;simp
 ·rw [decide_eq_false h,beq_eq_false_iff_ne]
  intro e
  exact h (by cases a;cases b;simp at e;rw [e])
theorem bigOps_len {l:Lq1} (h:bigOps l=true):l.length≤9223372036854775807:=by
 simp only [bigOps,Bool.and_eq_true,decide_eq_true_eq] at h;exact h.1
theorem okOps_okL {l:Lq1} (h:okOps l=true):okL l=true:=by
 simp only [okOps,Bool.and_eq_true] at h;exact h.1
theorem bigOps_of {l:Lq1} (h:bigT tq4 l=true):bigOps l=true:=by
 have h:(decide (l.length≤maxLen)&&l.all fun o=>(Lit.int .i64 o.1).wf&&(decide (o.2.1.size≤maxLen)&&decide (o.2.2.size≤maxLen)))=true:=h
 have hm:maxLen=9223372036854775807:=by decide
 rw [hm] at h
 simp only [Bool.and_eq_true,decide_eq_true_eq,List.all_eq_true] at h
 simp only [bigOps,bigS,Bool.and_eq_true,decide_eq_true_eq,List.all_eq_true]
 exact ⟨h.1,fun o ho=>(h.2 o ho).2⟩
theorem bigRec_ops {k t:Int} {l:Lq1} (h:bigT tq8 (k,(t,l))=true):bigOps l=true:=by
 have hb:((Lit.int .i64 k).wf&&((Lit.int .i64 t).wf&&bigT tq4 l))=true:=h
 rw [Bool.and_eq_true,Bool.and_eq_true] at hb
 exact bigOps_of hb.2.2
/-- The high groups of a number, and what is left. -/
noncomputable def hiF (g:Int→Int):Nat→Int→List Int×Int
 | 0,x=>([],x)
 | k+1,x=>cond (decide (x > 127)) (g x::(hiF g k (Int.fdiv x (2 ^ 7))).1,(hiF g k (Int.fdiv x (2 ^ 7))).2) ([],x)
theorem fdiv128 (x:Int):Int.fdiv x (2 ^ 7)=x / 128:=by
 rw [show (2:Int) ^ 7=128 from rfl,Int.fdiv_eq_ediv_of_nonneg _ (by decide)]
theorem hiF_small (g:Int→Int) (k:Nat):∀ x:Int,0≤x→x<128 ^ (k+1)→0≤(hiF g k x).2∧(hiF g k x).2≤127:=by
 induction k with
 | zero=>intro x h0 h1;simp only [hiF];exact ⟨h0,by rw [show (128:Int) ^ (0+1)=128 from rfl] at h1;omega⟩
 | succ k ih =>
  intro x h0 h1
  simp only [hiF]
  by_cases hx:x > 127
  ·simp only [decide_eq_true hx,cond_true,fdiv128]
   rw [Int.pow_succ] at h1
   exact ih (x / 128) (by omega) (by omega)
  ·simp only [decide_eq_false hx,cond_false]
   exact ⟨h0,by omega⟩
theorem hiF_len (g:Int→Int) (k:Nat):∀ x:Int,(hiF g k x).1.length≤k:=by
 induction k with
 | zero=>intro x;simp [hiF]
 | succ k ih =>
  intro x
  simp only [hiF]
  cases decide (x > 127) with
  | true=>simp;exact ih _
  | false=>simp
noncomputable def gNum (x:Int):Int:=IntKind.wrap .u8 (ior .i64 (iand .i64 x (127:Int)) (128:Int))
noncomputable def gNum' (x:Int):Int:=IntKind.wrap .u8 (ior .i64 (128:Int) (iand .i64 x (127:Int)))
theorem gNum_same:gNum'=gNum:=by
 funext x
 simp only [gNum,gNum', ior]
 rw [BitVec.or_comm]
theorem nX_is:∃ f:Int→List Int×Int,∀ x,f x=hiF gNum 4 x:=⟨_,fun _=>rfl⟩
/-- The same, not to be unfolded. -/
noncomputable def nX:Int→List Int×Int:=Classical.choose nX_is
theorem nX_eq (x:Int):nX x=hiF gNum 4 x:=Classical.choose_spec nX_is x
theorem nX_eq' (x:Int):nX x=hiF gNum' 4 x:=by rw [gNum_same];exact nX_eq x
theorem nX_len (x:Int):(nX x).1.length≤4:=by rw [nX_eq];exact hiF_len gNum 4 x
/-- The bytes of a number. -/
noncomputable def numB (x:Int):List Int:=(nX x).1++[IntKind.wrap .u8 (nX x).2]
theorem numB_len (x:Int):(numB x).length≤5:=by
 have:=nX_len x
 simp [numB];omega
noncomputable def clampN (n:Int):Int:=if n > 1000000000 then 1000000000 else if n<0 then 0 else n
noncomputable def textB (s:ByteArray):List Int:=numB (s.size:Int)++strInts s
noncomputable def opB (o:Int×ByteArray×ByteArray):List Int:=numB (clampN o.1)++(textB o.2.1++textB o.2.2)
theorem clampN_of {n:Int} (h0:0≤n) (h1:n≤1000000000):clampN n=n:=by simp only [clampN];split<;>(try split)<;>omega
theorem strInts_len (s:ByteArray):(strInts s).length=s.size:=by rw [strInts,List.length_map,Array.length_toList];rfl
theorem textB_len (s:ByteArray):(textB s).length≤5+s.size:=by
 have:=numB_len (s.size:Int)
 simp [textB,strInts_len];omega

noncomputable def clampI (x:Int):Int:=if (if (1000000000:Int)<x then (1000000000:Int) else x) > (0:Int) then (if (1000000000:Int)<x then (1000000000:Int) else x) else (0:Int)
theorem clampI_eq (x:Int):clampI x=clampN x:=by
 simp only [clampI,clampN]
 split<;>split<;>(try split)<;>omega
theorem clampN_range (x:Int):0≤clampN x∧clampN x≤1000000000:=by
 simp only [clampN]
 split<;>(try split)<;>omega
theorem clampI_range (x:Int):0≤clampI x∧clampI x≤1000000000:=by rw [clampI_eq];exact clampN_range x

noncomputable def digB (x:Int):ByteArray:=(⟨([IntKind.wrap .u8 (IntKind.wrap .i64 ((48:Int)+(Int.tmod x (10:Int))))].map fun n=>UInt8.ofNat n.toNat).toArray⟩:ByteArray)
theorem digB_size (x:Int):(digB x).size=1:=rfl
/-- A number's digits. -/
noncomputable def txtN:Nat→Int→ByteArray→ByteArray
 | 0,_,s=>s
 | k+1,x,s=>cond (decide (x > 0)) (txtN k (IntKind.wrap .i64 (Int.tdiv x (10:Int))) (digB x++s)) s
theorem txtN_len:∀ (k:Nat) (x:Int) (s:ByteArray),(txtN k x s).size≤k+s.size:=by
 intro k
 induction k with
 | zero=>intro x s;simp [txtN]
 | succ k ih =>
  intro x s
  simp only [txtN]
  cases decide (x > 0) with
  | true =>
   have:=ih (IntKind.wrap .i64 (Int.tdiv x (10:Int))) (digB x++s)
   rw [ByteArray.size_append,digB_size] at this
   simp only [cond_true];omega
  | false=>simp only [cond_false];omega
theorem foldN_app {α:Type} (f:α→List Int) (d:α) (l:List α) (g:Nat→List Int→List Int) (hg:∀ i h,i<l.length→g i h=h++f (l.getD i d)):∀ k i h,i+k=l.length→foldN g k i h=h++((l.drop i).map f).flatten:=by
 intro k
 induction k with
 | zero =>
  intro i h hi
  have:l.drop i=[]:=List.drop_eq_nil_of_le (by omega)
  simp [foldN,this]
 | succ k ih =>
  intro i h hi
  have hlt:i<l.length:=by omega
  simp only [foldN]
  rw [ih (i+1) (g i h) (by omega),hg i h hlt,List.append_assoc,show l.drop i=l[i]::l.drop (i+1) from List.drop_eq_getElem_cons hlt,List.map_cons,List.flatten_cons,show l.getD i d=l[i] from by simp [List.getD_eq_getElem?_getD,hlt]]
theorem opB_len (o:Int×ByteArray×ByteArray):(opB o).length≤15+o.2.1.size+o.2.2.size:=by
 have h1:=numB_len (clampN o.1)
 have h2:=textB_len o.2.1
 have h3:=textB_len o.2.2
 simp only [opB,List.length_append];omega
theorem flat_len {M:Nat}:∀ l:Lq1,(∀ o∈l,(opB o).length≤M)→(l.map opB).flatten.length≤M*l.length:=by
 intro l
 induction l with
 | nil=>intro _;simp
 | cons o l ih =>
  intro h
  have h1:=h o (by simp)
  have h2:=ih fun x hx=>h x (by simp [hx])
  simp only [List.map_cons,List.flatten_cons,List.length_append,List.length_cons]
  rw [Nat.mul_add];omega
theorem okOps_mem {l:Lq1} (h:okOps l=true):∀ o∈l,o.2.1.size≤1048576∧o.2.2.size≤1048576:=by
 intro o ho
 simp only [okOps,Bool.and_eq_true,List.all_eq_true] at h
 have:=h.2 o ho
 simpa [okOp,okS] using this
/-! The library's sort and compacting, found in this translation. -/
noncomputable def laysSort_ren:Go.Shelf.Ren:=⟨fun | 189=>70 | 125=>110 | 257=>109 | 128=>138 | 129=>139 | 294=>129 | 295=>130 | 296=>131 | 297=>132 | 298=>133 | 299=>134 | 216=>135 | 300=>136 | 301=>137 | 328=>150 | 329=>151 | 330=>152 | 331=>153 | 332=>154 | 215=>155 | 343=>157 | n=>n,fun | 28=>46 | 3=>3 | 46=>128 | 0=>0 | 51=>140 | 53=>152 | 4=>4 | 183=>143 | 182=>142 | 131=>148 | 5=>5 | 9=>9 | 218=>162 | 222=>166 | 228=>168 | 229=>169 | n=>n,fun n=>n⟩
theorem laysSort:Go.Proofs.Lays.n189 Try.prog laysSort_ren where
 mixed:=by kernel_rfl
 f125:=Try.func110.trans (congrArg some (by kernel_rfl))
 f128:=Try.func138.trans (congrArg some (by kernel_rfl))
 f129:=Try.func139.trans (congrArg some (by kernel_rfl))
 f189:=Try.func70.trans (congrArg some (by kernel_rfl))
 f215:=Try.func155.trans (congrArg some (by kernel_rfl))
 f216:=Try.func135.trans (congrArg some (by kernel_rfl))
 f257:=Try.func109.trans (congrArg some (by kernel_rfl))
 f294:=Try.func129.trans (congrArg some (by kernel_rfl))
 f295:=Try.func130.trans (congrArg some (by kernel_rfl))
 f296:=Try.func131.trans (congrArg some (by kernel_rfl))
 f297:=Try.func132.trans (congrArg some (by kernel_rfl))
 f298:=Try.func133.trans (congrArg some (by kernel_rfl))
 f299:=Try.func134.trans (congrArg some (by kernel_rfl))
 f300:=Try.func136.trans (congrArg some (by kernel_rfl))
 f301:=Try.func137.trans (congrArg some (by kernel_rfl))
 f328:=Try.func150.trans (congrArg some (by kernel_rfl))
 f329:=Try.func151.trans (congrArg some (by kernel_rfl))
 f330:=Try.func152.trans (congrArg some (by kernel_rfl))
 f331:=Try.func153.trans (congrArg some (by kernel_rfl))
 f332:=Try.func154.trans (congrArg some (by kernel_rfl))
 f343:=Try.func157.trans (congrArg some (by kernel_rfl))
 t0:=Try.underlying0
 a0:=Try.isAgg0
 z0:=Try.sizeOf0
 v0:=Try.zeroValue0
 t3:=Try.underlying3
 a3:=Try.isAgg3
 z3:=Try.sizeOf3
 v3:=Try.zeroValue3
 t4:=Try.underlying4
 a4:=Try.isAgg4
 z4:=Try.sizeOf4
 v4:=Try.zeroValue4
 t5:=Try.underlying5
 a5:=Try.isAgg5
 z5:=Try.sizeOf5
 v5:=Try.zeroValue5
 t9:=Try.underlying9
 a9:=Try.isAgg9
 z9:=Try.sizeOf9
 v9:=Try.zeroValue9
 t28:=Try.underlying46
 a28:=Try.isAgg46
 z28:=Try.sizeOf46
 v28:=Try.zeroValue46
 t46:=Try.underlying128
 a46:=Try.isAgg128
 z46:=Try.sizeOf128
 v46:=Try.zeroValue128
 t51:=Try.underlying140
 a51:=Try.isAgg140
 z51:=Try.sizeOf140
 v51:=Try.zeroValue140
 t53:=Try.underlying152
 a53:=Try.isAgg152
 z53:=Try.sizeOf152
 v53:=Try.zeroValue152
 t131:=Try.underlying148
 a131:=Try.isAgg148
 z131:=Try.sizeOf148
 v131:=Try.zeroValue148
 t182:=Try.underlying142
 a182:=Try.isAgg142
 z182:=Try.sizeOf142
 v182:=Try.zeroValue142
 t183:=Try.underlying143
 a183:=Try.isAgg143
 z183:=Try.sizeOf143
 v183:=Try.zeroValue143
 t218:=Try.underlying162
 a218:=Try.isAgg162
 z218:=Try.sizeOf162
 v218:=Try.zeroValue162
 t222:=Try.underlying166
 a222:=Try.isAgg166
 z222:=Try.sizeOf166
 v222:=Try.zeroValue166
 t228:=Try.underlying168
 a228:=Try.isAgg168
 z228:=Try.sizeOf168
 v228:=Try.zeroValue168
 t229:=Try.underlying169
 a229:=Try.isAgg169
 z229:=Try.sizeOf169
 v229:=Try.zeroValue169
noncomputable def laysCompact_ren:Go.Shelf.Ren:=⟨fun | 20=>72 | n=>n,fun | 22=>46 | 3=>3 | 4=>4 | 0=>0 | n=>n,fun n=>n⟩
theorem laysCompact:Go.Proofs.Lays2.n20 Try.prog laysCompact_ren where
 mixed:=by kernel_rfl
 f20:=Try.func72.trans (congrArg some (by kernel_rfl))
 t0:=Try.underlying0
 a0:=Try.isAgg0
 z0:=Try.sizeOf0
 v0:=Try.zeroValue0
 t3:=Try.underlying3
 a3:=Try.isAgg3
 z3:=Try.sizeOf3
 v3:=Try.zeroValue3
 t4:=Try.underlying4
 a4:=Try.isAgg4
 z4:=Try.sizeOf4
 v4:=Try.zeroValue4
 t22:=Try.underlying46
 a22:=Try.isAgg46
 z22:=Try.sizeOf46
 v22:=Try.zeroValue46
 i3:=by kernel_rfl
theorem c_sortInt:MContract Try.prog 70 (win winIds sortSum):=(MContract.sortInt (Go.Proofs.Any.slices_Sort_int_none laysSort) (Go.Proofs.Any.slices_Sort_int laysSort)).win winIds
theorem c_compactInt:MContract Try.prog 72 (win winIds compactSum):=(MContract.compactInt (Go.Proofs.Any.slices_Compact_int_empty laysCompact) (Go.Proofs.Any.slices_Compact_int laysCompact)).win winIds
noncomputable def q_sortL (l:List Int):Bool:=decide (l.length<4611686018427387904)
noncomputable def compactP (l:List Int):Nat×List Int:=((Lib.compact l).length,Lib.compact l++List.replicate (l.length - (Lib.compact l).length) 0)

noncomputable abbrev P_lszOp:List PSh:=[.agg [(.int .i64),.str,.str],.t (.int .i64)]
noncomputable def lszOp (a0:Int) (a1:ByteArray) (a2:ByteArray) (a3:Int):Int:=(cond (decide ((IntKind.wrap .i64 (a3 - ((a1.size:Nat):Int)))<(0:Int))) (-1:Int) (cond (decide ((IntKind.wrap .i64 ((IntKind.wrap .i64 (a3 - ((a1.size:Nat):Int))) - ((a2.size:Nat):Int)))<(0:Int))) (-1:Int) (IntKind.wrap .i64 ((IntKind.wrap .i64 (a3 - ((a1.size:Nat):Int))) - ((a2.size:Nat):Int)))))
noncomputable abbrev e_lszOp (r:Int):AV×List AObj:=((.t true (.int .i64) r),[])
noncomputable abbrev g_lszOp:pshsDen P_lszOp→AV×List AObj:=fun d=>e_lszOp (lszOp d.1.1 d.1.2.1 d.1.2.2.1 d.2.1)
noncomputable abbrev pre_lszOp:pshsDen P_lszOp→Bool:=fun d=>true
theorem run_lszOp:RunP true G0 (fun _ _=>none) Try.f143 P_lszOp pre_lszOp g_lszOp:=by
 rintro ⟨⟨a0,⟨a1,⟨a2,_⟩⟩⟩,⟨a3,_⟩⟩ hp
 refine Eq.trans (b:=(cond (decide ((IntKind.wrap .i64 (a3 - ((a1.size:Nat):Int)))<(0:Int))) (some (e_lszOp (-1:Int))) (cond (decide ((IntKind.wrap .i64 ((IntKind.wrap .i64 (a3 - ((a1.size:Nat):Int))) - ((a2.size:Nat):Int)))<(0:Int))) (some (e_lszOp (-1:Int))) (some (e_lszOp (IntKind.wrap .i64 ((IntKind.wrap .i64 (a3 - ((a1.size:Nat):Int))) - ((a2.size:Nat):Int)))))))) (by kernel_rfl) ?_
 exact (cndG e_lszOp (fun _h=>rfl) (fun _h=>(cndG e_lszOp (fun _h=>rfl) (fun _h=>rfl))))
theorem c_lszOp:PContract Try.prog 143 (sumOf P_lszOp pre_lszOp g_lszOp):=pcD true G0 hlz run_lszOp
noncomputable def S1:Tab:=Tab.add S0 143 (lift (sumOf P_lszOp pre_lszOp g_lszOp))
noncomputable def QF1:FuncId→Bool:=qadd QF0 143
theorem G1:Good Try.prog tt S1 QF1:=G0.addQ c_lszOp (cbl Try.f143) (fun _=>rfl)

noncomputable abbrev jS21:List Sh:=.junk::.junk::.junk::.junk::.junk::.junk::.junk::.junk::.junk::.junk::.junk::.junk::.junk::.junk::.junk::.junk::.junk::.junk::.junk::.junk::.junk::[]
noncomputable abbrev jS22:List Sh:=.junk::jS21
noncomputable abbrev jS25:List Sh:=.junk::.junk::.junk::jS22
noncomputable abbrev u23:=((),(),(),(),(),(),(),(),(),(),(),(),(),(),(),(),(),(),(),(),(),(),())
noncomputable abbrev u22:=((),(),(),(),(),(),(),(),(),(),(),(),(),(),(),(),(),(),(),(),(),())
noncomputable abbrev u26:=((),(),(),u23)
noncomputable def f_lszOpS_0 (x0:Lq1) (i:Nat) (b:Int):Int:=(lszOp ((x0.getD i ((0:Int),(bE,bE))).1) (((x0.getD i ((0:Int),(bE,bE))).2).1) (((x0.getD i ((0:Int),(bE,bE))).2).2) b)
noncomputable abbrev P_lszOpS:List PSh:=[.t tq4,.t (.int .i64)]
noncomputable abbrev S_lszOpS_0:SS:=⟨(.t false tq4::.t true (.int .i64)::.junk::.junk::.junk::.t true (.int .i64)::jS21),[]⟩
noncomputable abbrev E_lszOpS_0_0:SS:=⟨(.junk::.junk::.junk::.junk::.t true (.int .i64)::jS22),[]⟩
noncomputable abbrev E_lszOpS_0_1:SS:=⟨(.junk::.t true (.int .i64)::jS25),[]⟩
noncomputable def st_lszOpS_0 (x0:Lq1) (x1:Int) (x5:Int):RT S_lszOpS_0.den:=(.br (decide (x5<((x0.length:Nat):Int))) (.br (decide (0≤x5∧x5<((x0.length:Nat):Int))) (.br (decide ((lszOp ((x0.getD x5.toNat ((0:Int),(bE,bE))).1) (((x0.getD x5.toNat ((0:Int),(bE,bE))).2).1) (((x0.getD x5.toNat ((0:Int),(bE,bE))).2).2) x1)<(0:Int))) (.done .ret E_lszOpS_0_0 (((),(),(),(),(-1:Int),u23),())) (.next ((x0,(lszOp ((x0.getD x5.toNat ((0:Int),(bE,bE))).1) (((x0.getD x5.toNat ((0:Int),(bE,bE))).2).1) (((x0.getD x5.toNat ((0:Int),(bE,bE))).2).2) x1),(),(),(),IntKind.wrap .i64 (x5+(1:Int)),u22),()))) .fail) (.done (.exit 0) E_lszOpS_0_1 (((),x1,u26),())))
noncomputable def T_lszOpS_0 (x0:Lq1) (x1:Int) (x5:Int):CT:=(.br (decide (0≤x5)&&okL x0) (.br (isInl (szN (f_lszOpS_0 x0) (x0.length - x5.toNat) x5.toNat x1)) (.done (.exit 0) E_lszOpS_0_1 (((),(getInl (-1) (szN (f_lszOpS_0 x0) (x0.length - x5.toNat) x5.toNat x1)),u26),())) (.done .ret E_lszOpS_0_0 (((),(),(),(),(-1:Int),u23),()))) .fail)
noncomputable abbrev sp_lszOpS_0:S_lszOpS_0.den→RT S_lszOpS_0.den:=(fun d=>st_lszOpS_0 d.1.1 d.1.2.1 d.1.2.2.2.2.2.1)
noncomputable abbrev pk_lszOpS_0 (x0:Lq1) (x1:Int) (x5:Int):S_lszOpS_0.den:=((x0,x1,(),(),(),x5,u22),())
noncomputable def body_lszOpS_0:Code:=((loopsIn 0 (bodyOf Try.f118)).getD 0 (0,.skip)).2
theorem R_lszOpS_0 (x0:Lq1) (x1:Int) (x5:Int):(T_lszOpS_0 x0 x1 x5).val (D:=S_lszOpS_0.den)=.fail∨Runs sp_lszOpS_0 (pk_lszOpS_0 x0 x1 x5) (T_lszOpS_0 x0 x1 x5).val:=by
 cases hc:(decide (0≤x5)&&okL x0) with
 | false=>left;simp only [T_lszOpS_0,CT.val,hc,cond_false]
 | true =>
  right
  simp only [T_lszOpS_0,CT.val,hc,cond_true]
  simp only [Bool.and_eq_true,decide_eq_true_eq] at hc
  obtain ⟨i,rfl⟩:=Int.eq_ofNat_of_zero_le hc.1
  have hs:=okL_le hc.2
  simp only [Int.toNat_natCast]
  have h:=Runs.loopN (step:=sp_lszOpS_0) (fun j b=>pk_lszOpS_0 x0 b (j:Int)) (fun _ _=>True) (x0.length) (fun i b=>cond (decide (f_lszOpS_0 x0 i b<0)) (.inr ()) (.inl (f_lszOpS_0 x0 i b)))
   (fin:=fun b=>((.done (.exit 0) E_lszOpS_0_1 (((),b,u26),())):CT).val) (bad:=fun _=>((.done .ret E_lszOpS_0_0 (((),(),(),(),(-1:Int),u23),())):CT).val)
   (fun i b hi _=>?_) (fun i b hi _=>?_) (x0.length - i) i x1 rfl trivial
  ·simp only [szN]
   revert h
   cases loopN (fun i b=>cond (decide (f_lszOpS_0 x0 i b<0)) (.inr ()) (.inl (f_lszOpS_0 x0 i b))) (x0.length - i) i x1 with
   | inl b=>exact id
   | inr c=>exact id
  ·
   have h0a:decide ((i:Int)<((x0.length:Nat):Int))=true:=decide_eq_true (by omega)
   have h0b:decide (0≤(i:Int)∧(i:Int)<((x0.length:Nat):Int))=true:=decide_eq_true (by omega)
   have e:(sp_lszOpS_0 (pk_lszOpS_0 x0 b (i:Int))).val=cond (decide (f_lszOpS_0 x0 i b<0)) ((.done .ret E_lszOpS_0_0 (((),(),(),(),(-1:Int),u23),())):CT).val (.next (pk_lszOpS_0 x0 (f_lszOpS_0 x0 i b) ((i+1:Nat):Int))):=by
    simp only [sp_lszOpS_0,st_lszOpS_0,RT.val,h0a,h0b,cond_true,wrapS i (by omega),Int.toNat_natCast]
    rfl
   cases hr:decide (f_lszOpS_0 x0 i b<0) with
   | true=>exact .inr ⟨(),_,_,_,rfl,by rw [e,hr];rfl,rfl,by simp⟩
   | false=>exact .inl ⟨_,rfl,trivial,by rw [e,hr];rfl⟩
  ·have h1:decide ((i:Int)<((x0.length:Nat):Int))=false:=decide_eq_false (by omega)
   exact ⟨by simp only [sp_lszOpS_0,st_lszOpS_0,RT.val,h1,cond_false];rfl,_,_,_,rfl,by simp⟩
theorem rdA_lszOpS_0:RdA G1 (fun _ _=>none) 0 body_lszOpS_0 S_lszOpS_0 0 [] (kepts [4] [(0,[1])]) (fun d=>(sp_lszOpS_0 d).opt 0 []):=by
 intro d
 kernel_rfl
noncomputable abbrev say_lszOpS_0:St→Option Tree:=S_lszOpS_0.say 0 [] [] (fun d=>T_lszOpS_0 d.1.1 d.1.2.1 d.1.2.2.2.2.2.1)
theorem lw_lszOpS_0:LoopWp Try.prog say_lszOpS_0 body_lszOpS_0:=SS.wp2 hlz [] sp_lszOpS_0 rdA_lszOpS_0 (fun d=>rfl) _ (fun d=>R_lszOpS_0 d.1.1 d.1.2.1 d.1.2.2.2.2.2.1)
noncomputable def lszOpS (a0:Lq1) (a1:Int):Int:=(cond (decide ((IntKind.wrap .i64 (a1 - ((a0.length:Nat):Int)))<(0:Int))) (-1:Int) (cond (isInl (szN (f_lszOpS_0 a0) (a0.length - (0:Int).toNat) (0:Int).toNat (IntKind.wrap .i64 (a1 - ((a0.length:Nat):Int))))) (getInl (-1) (szN (f_lszOpS_0 a0) (a0.length - (0:Int).toNat) (0:Int).toNat (IntKind.wrap .i64 (a1 - ((a0.length:Nat):Int))))) (-1:Int)))
noncomputable abbrev e_lszOpS (r:Int):AV×List AObj:=((.t true (.int .i64) r),[])
noncomputable abbrev g_lszOpS:pshsDen P_lszOpS→AV×List AObj:=fun d=>e_lszOpS (lszOpS d.1 d.2.1)
noncomputable def q_lszOpS (a0:Lq1) (a1:Int):Bool:=decide (0≤a1∧a1≤1048576∧a0.length≤9223372036854775807)
noncomputable abbrev pre_lszOpS:pshsDen P_lszOpS→Bool:=fun d=>q_lszOpS d.1 d.2.1
noncomputable abbrev L_lszOpS:Nat→St→Option Tree:=fun b=>match b with | 0=>say_lszOpS_0 | _=>fun _=>none
theorem run_lszOpS:RunP true G1 (L_lszOpS) Try.f118 P_lszOpS pre_lszOpS g_lszOpS:=by
 rintro ⟨a0,⟨a1,_⟩⟩ hp
 change q_lszOpS a0 a1=true at hp
 unfold q_lszOpS at hp
 refine Eq.trans (b:=(cond (decide ((IntKind.wrap .i64 (a1 - ((a0.length:Nat):Int)))<(0:Int))) (some (e_lszOpS (-1:Int))) (cond (decide (0≤(0:Int))&&okL a0) (cond (isInl (szN (f_lszOpS_0 a0) (a0.length - (0:Int).toNat) (0:Int).toNat (IntKind.wrap .i64 (a1 - ((a0.length:Nat):Int))))) (some (e_lszOpS (getInl (-1) (szN (f_lszOpS_0 a0) (a0.length - (0:Int).toNat) (0:Int).toNat (IntKind.wrap .i64 (a1 - ((a0.length:Nat):Int))))))) (some (e_lszOpS (-1:Int)))) none))) (by kernel_rfl) ?_
 exact (cndG e_lszOpS (fun _h=>rfl) (fun _h=>(cndT (by simp only [decide_eq_true_eq,decide_eq_false_iff_not] at hp _h;have hw:=wrap64 (n:=a1 - ((a0.length:Nat):Int)) (by omega) (by omega);rw [hw] at _h;simp [okL];omega) (fun _h=>(cndG e_lszOpS (fun _h=>rfl) (fun _h=>rfl))))))
theorem c_lszOpS:PContract Try.prog 118 (sumOf P_lszOpS pre_lszOpS g_lszOpS):=pcD true G1 (hl1 (i:=0) (by kernel_rfl) lw_lszOpS_0) run_lszOpS
noncomputable def S2:Tab:=Tab.add S1 118 (lift (sumOf P_lszOpS pre_lszOpS g_lszOpS))
noncomputable def QF2:FuncId→Bool:=qadd QF1 118
theorem G2:Good Try.prog tt S2 QF2:=G1.addQ c_lszOpS (cbl Try.f118) (fun _=>rfl)

noncomputable abbrev t_si:Ty:=.sl (.int .i64)
noncomputable abbrev P_lszIntS:List PSh:=[.t t_si,.t (.int .i64)]
noncomputable def lszIntS (a0:List Int) (a1:Int):Int:=(cond (decide ((IntKind.wrap .i64 (a1 - ((a0.length:Nat):Int)))<(0:Int))) (-1:Int) (IntKind.wrap .i64 (a1 - ((a0.length:Nat):Int))))
noncomputable abbrev e_lszIntS (r:Int):AV×List AObj:=((.t true (.int .i64) r),[])
noncomputable abbrev g_lszIntS:pshsDen P_lszIntS→AV×List AObj:=fun d=>e_lszIntS (lszIntS d.1 d.2.1)
noncomputable abbrev pre_lszIntS:pshsDen P_lszIntS→Bool:=fun d=>true
theorem run_lszIntS:RunP true G2 (fun _ _=>none) Try.f119 P_lszIntS pre_lszIntS g_lszIntS:=by
 rintro ⟨a0,⟨a1,_⟩⟩ hp
 refine Eq.trans (b:=(cond (decide ((IntKind.wrap .i64 (a1 - ((a0.length:Nat):Int)))<(0:Int))) (some (e_lszIntS (-1:Int))) (some (e_lszIntS (IntKind.wrap .i64 (a1 - ((a0.length:Nat):Int))))))) (by kernel_rfl) ?_
 exact (cndG e_lszIntS (fun _h=>rfl) (fun _h=>rfl))
theorem c_lszIntS:PContract Try.prog 119 (sumOf P_lszIntS pre_lszIntS g_lszIntS):=pcD true G2 hlz run_lszIntS
noncomputable def S3:Tab:=Tab.add S2 119 (lift (sumOf P_lszIntS pre_lszIntS g_lszIntS))
noncomputable def QF3:FuncId→Bool:=qadd QF2 119
theorem G3:Good Try.prog tt S3 QF3:=G2.addQ c_lszIntS (cbl Try.f119) (fun _=>rfl)

noncomputable abbrev P_lszJob:List PSh:=[.agg [(.int .i64),tq4,(.int .i64),t_si],.t (.int .i64)]
noncomputable def lszJob (a0:Int) (a1:Lq1) (a2:Int) (a3:List Int) (a4:Int):Int:=(cond (decide ((lszOpS a1 a4)<(0:Int))) (-1:Int) (cond (decide ((lszIntS a3 (lszOpS a1 a4))<(0:Int))) (-1:Int) (lszIntS a3 (lszOpS a1 a4))))
noncomputable abbrev e_lszJob (r:Int):AV×List AObj:=((.t true (.int .i64) r),[])
noncomputable abbrev g_lszJob:pshsDen P_lszJob→AV×List AObj:=fun d=>e_lszJob (lszJob d.1.1 d.1.2.1 d.1.2.2.1 d.1.2.2.2.1 d.2.1)
noncomputable def q_lszJob (a0:Int) (a1:Lq1) (a2:Int) (a3:List Int) (a4:Int):Bool:=q_lszOpS a1 a4
noncomputable abbrev pre_lszJob:pshsDen P_lszJob→Bool:=fun d=>q_lszJob d.1.1 d.1.2.1 d.1.2.2.1 d.1.2.2.2.1 d.2.1
theorem run_lszJob:RunP true G3 (fun _ _=>none) Try.f85 P_lszJob pre_lszJob g_lszJob:=by
 rintro ⟨⟨a0,⟨a1,⟨a2,⟨a3,_⟩⟩⟩⟩,⟨a4,_⟩⟩ hp
 change q_lszJob a0 a1 a2 a3 a4=true at hp
 unfold q_lszJob at hp
 refine Eq.trans (b:=(cond (q_lszOpS a1 a4) (cond (decide ((lszOpS a1 a4)<(0:Int))) (some (e_lszJob (-1:Int))) (cond (decide ((lszIntS a3 (lszOpS a1 a4))<(0:Int))) (some (e_lszJob (-1:Int))) (some (e_lszJob (lszIntS a3 (lszOpS a1 a4)))))) none)) (by kernel_rfl) ?_
 exact (cndT hp fun _h=>(cndG e_lszJob (fun _h=>rfl) (fun _h=>(cndG e_lszJob (fun _h=>rfl) (fun _h=>rfl)))))
theorem c_lszJob:PContract Try.prog 85 (sumOf P_lszJob pre_lszJob g_lszJob):=pcD true G3 hlz run_lszJob
noncomputable def S4:Tab:=Tab.add S3 85 (lift (sumOf P_lszJob pre_lszJob g_lszJob))
noncomputable def QF4:FuncId→Bool:=qadd QF3 85
theorem G4:Good Try.prog tt S4 QF4:=G3.addQ c_lszJob (cbl Try.f85) (fun _=>rfl)

noncomputable abbrev tq2:Ty:=.sl (.pair (.int .i64) (.pair (.sl (.pair (.int .i64) (.pair .str .str))) (.pair (.int .i64) (.sl (.int .i64)))))
noncomputable abbrev P_lszJobS:List PSh:=[.t tq2,.t (.int .i64)]
noncomputable abbrev S_lszJobS_0:SS:=⟨(.t false tq2::.t true (.int .i64)::.junk::.junk::.junk::.t true (.int .i64)::jS21),[]⟩
noncomputable abbrev E_lszJobS_0_0:SS:=⟨(.junk::.junk::.junk::.junk::.t true (.int .i64)::jS22),[]⟩
noncomputable abbrev E_lszJobS_0_1:SS:=⟨(.junk::.t true (.int .i64)::jS25),[]⟩
noncomputable def st_lszJobS_0 (x0:List (Int×(Lq1)×Int×List Int)) (x1:Int) (x5:Int):RT S_lszJobS_0.den:=(.br (decide (x5<((x0.length:Nat):Int))) (.br (decide (0≤x5∧x5<((x0.length:Nat):Int))) (.br (q_lszJob ((x0.getD x5.toNat ((0:Int),([],((0:Int),[])))).1) (((x0.getD x5.toNat ((0:Int),([],((0:Int),[])))).2).1) ((((x0.getD x5.toNat ((0:Int),([],((0:Int),[])))).2).2).1) ((((x0.getD x5.toNat ((0:Int),([],((0:Int),[])))).2).2).2) x1) (.br (decide ((lszJob ((x0.getD x5.toNat ((0:Int),([],((0:Int),[])))).1) (((x0.getD x5.toNat ((0:Int),([],((0:Int),[])))).2).1) ((((x0.getD x5.toNat ((0:Int),([],((0:Int),[])))).2).2).1) ((((x0.getD x5.toNat ((0:Int),([],((0:Int),[])))).2).2).2) x1)<(0:Int))) (.done .ret E_lszJobS_0_0 (((),(),(),(),(-1:Int),u23),())) (.next ((x0,(lszJob ((x0.getD x5.toNat ((0:Int),([],((0:Int),[])))).1) (((x0.getD x5.toNat ((0:Int),([],((0:Int),[])))).2).1) ((((x0.getD x5.toNat ((0:Int),([],((0:Int),[])))).2).2).1) ((((x0.getD x5.toNat ((0:Int),([],((0:Int),[])))).2).2).2) x1),(),(),(),IntKind.wrap .i64 (x5+(1:Int)),u22),()))) .fail) .fail) (.done (.exit 0) E_lszJobS_0_1 (((),x1,u26),())))
noncomputable abbrev V_lszJobS_0:=(List (Int×(Lq1)×Int×List Int))×(Int)×(Int)
noncomputable abbrev A_lszJobS_0:=Nat×(Int)×(Int)
noncomputable def fl_lszJobS_0:A_lszJobS_0:=(99,((0:Int):Int),((0:Int):Int))
noncomputable def ss_lszJobS_0 (x0:List (Int×(Lq1)×Int×List Int)) (x1:Int) (x5:Int):V_lszJobS_0 ⊕ A_lszJobS_0:=(cond (decide (x5<((x0.length:Nat):Int))) (cond (decide (0≤x5∧x5<((x0.length:Nat):Int))) (cond (q_lszJob ((x0.getD x5.toNat ((0:Int),([],((0:Int),[])))).1) (((x0.getD x5.toNat ((0:Int),([],((0:Int),[])))).2).1) ((((x0.getD x5.toNat ((0:Int),([],((0:Int),[])))).2).2).1) ((((x0.getD x5.toNat ((0:Int),([],((0:Int),[])))).2).2).2) x1) (cond (decide ((lszJob ((x0.getD x5.toNat ((0:Int),([],((0:Int),[])))).1) (((x0.getD x5.toNat ((0:Int),([],((0:Int),[])))).2).1) ((((x0.getD x5.toNat ((0:Int),([],((0:Int),[])))).2).2).1) ((((x0.getD x5.toNat ((0:Int),([],((0:Int),[])))).2).2).2) x1)<(0:Int))) (.inr (0,(-1:Int),((0:Int):Int))) (.inl (x0,(lszJob ((x0.getD x5.toNat ((0:Int),([],((0:Int),[])))).1) (((x0.getD x5.toNat ((0:Int),([],((0:Int),[])))).2).1) ((((x0.getD x5.toNat ((0:Int),([],((0:Int),[])))).2).2).1) ((((x0.getD x5.toNat ((0:Int),([],((0:Int),[])))).2).2).2) x1),IntKind.wrap .i64 (x5+(1:Int))))) (.inr fl_lszJobS_0)) (.inr fl_lszJobS_0)) (.inr (1,((0:Int):Int),x1)))
noncomputable def it_lszJobS_0 (x0:List (Int×(Lq1)×Int×List Int)) (x1:Int) (x5:Int):A_lszJobS_0:=itX (fun v:V_lszJobS_0=>ss_lszJobS_0 v.1 v.2.1 v.2.2) fl_lszJobS_0 (x0,x1,x5)
noncomputable def ct_lszJobS_0 (a:A_lszJobS_0):CT:=(.br (a.1==0) (.done .ret E_lszJobS_0_0 (((),(),(),(),a.2.1,u23),())) (.br (a.1==1) (.done (.exit 0) E_lszJobS_0_1 (((),a.2.2,u26),())) .fail))
noncomputable def T_lszJobS_0 (x0:List (Int×(Lq1)×Int×List Int)) (x1:Int) (x5:Int):CT:=ct_lszJobS_0 (it_lszJobS_0 x0 x1 x5)
noncomputable abbrev sp_lszJobS_0:S_lszJobS_0.den→RT S_lszJobS_0.den:=(fun d=>st_lszJobS_0 d.1.1 d.1.2.1 d.1.2.2.2.2.2.1)
noncomputable def body_lszJobS_0:Code:=((loopsIn 0 (bodyOf Try.f40)).getD 0 (0,.skip)).2
noncomputable abbrev pv_lszJobS_0 (v:V_lszJobS_0):S_lszJobS_0.den:=((v.1,v.2.1,(),(),(),v.2.2,u22),())
theorem rl_lszJobS_0:(∀ v:V_lszJobS_0,(st_lszJobS_0 v.1 v.2.1 v.2.2).val=relS pv_lszJobS_0 ct_lszJobS_0 (ss_lszJobS_0 v.1 v.2.1 v.2.2))∧∀ a:A_lszJobS_0,CEnd S_lszJobS_0.den (ct_lszJobS_0 a):=⟨fun v=>(relB (relB (relB (relB rfl rfl) rfl) rfl) rfl),fun a=>(cendB (cendD (by simp)) (cendB (cendD (by simp)) cendF))⟩
theorem rdA_lszJobS_0:RdA G4 (fun _ _=>none) 0 body_lszJobS_0 S_lszJobS_0 0 [] (kepts [4] [(0,[1])]) (fun d=>(sp_lszJobS_0 d).opt 0 []):=by
 intro d
 kernel_rfl
noncomputable abbrev say_lszJobS_0:St→Option Tree:=S_lszJobS_0.say 0 [] [] (fun d=>T_lszJobS_0 d.1.1 d.1.2.1 d.1.2.2.2.2.2.1)
theorem lw_lszJobS_0:LoopWp Try.prog say_lszJobS_0 body_lszJobS_0:=SS.wp2 hlz [] sp_lszJobS_0 rdA_lszJobS_0 (fun d=>rfl) _ (fun d=>Runs.ofI2 (step:=sp_lszJobS_0) pv_lszJobS_0 rl_lszJobS_0 rfl (d.1.1,d.1.2.1,d.1.2.2.2.2.2.1))
noncomputable def lszJobS (a0:List (Int×(Lq1)×Int×List Int)) (a1:Int):Int:=(cond (decide ((IntKind.wrap .i64 (a1 - ((a0.length:Nat):Int)))<(0:Int))) (-1:Int) (cond ((it_lszJobS_0 a0 (IntKind.wrap .i64 (a1 - ((a0.length:Nat):Int))) (0:Int)).1==0) ((it_lszJobS_0 a0 (IntKind.wrap .i64 (a1 - ((a0.length:Nat):Int))) (0:Int)).2.1) ((it_lszJobS_0 a0 (IntKind.wrap .i64 (a1 - ((a0.length:Nat):Int))) (0:Int)).2.2)))
noncomputable abbrev e_lszJobS (r:Int):AV×List AObj:=((.t true (.int .i64) r),[])
noncomputable abbrev g_lszJobS:pshsDen P_lszJobS→AV×List AObj:=fun d=>e_lszJobS (lszJobS d.1 d.2.1)
noncomputable def q_lszJobS (a0:List (Int×(Lq1)×Int×List Int)) (a1:Int):Bool:=cond (decide ((IntKind.wrap .i64 (a1 - ((a0.length:Nat):Int)))<(0:Int))) true (cond ((it_lszJobS_0 a0 (IntKind.wrap .i64 (a1 - ((a0.length:Nat):Int))) (0:Int)).1==0) true ((it_lszJobS_0 a0 (IntKind.wrap .i64 (a1 - ((a0.length:Nat):Int))) (0:Int)).1==1))
noncomputable abbrev pre_lszJobS:pshsDen P_lszJobS→Bool:=fun d=>q_lszJobS d.1 d.2.1
noncomputable abbrev L_lszJobS:Nat→St→Option Tree:=fun b=>match b with | 0=>say_lszJobS_0 | _=>fun _=>none
theorem run_lszJobS:RunP true G4 (L_lszJobS) Try.f40 P_lszJobS pre_lszJobS g_lszJobS:=by
 rintro ⟨a0,⟨a1,_⟩⟩ hp
 change q_lszJobS a0 a1=true at hp
 unfold q_lszJobS at hp
 refine Eq.trans (b:=(cond (decide ((IntKind.wrap .i64 (a1 - ((a0.length:Nat):Int)))<(0:Int))) (some (e_lszJobS (-1:Int))) (cond ((it_lszJobS_0 a0 (IntKind.wrap .i64 (a1 - ((a0.length:Nat):Int))) (0:Int)).1==0) (some (e_lszJobS ((it_lszJobS_0 a0 (IntKind.wrap .i64 (a1 - ((a0.length:Nat):Int))) (0:Int)).2.1))) (cond ((it_lszJobS_0 a0 (IntKind.wrap .i64 (a1 - ((a0.length:Nat):Int))) (0:Int)).1==1) (some (e_lszJobS ((it_lszJobS_0 a0 (IntKind.wrap .i64 (a1 - ((a0.length:Nat):Int))) (0:Int)).2.2))) none)))) (by kernel_rfl) ?_
 exact (cndE e_lszJobS hp (fun hp=>rfl) (fun hp=>(cndE e_lszJobS hp (fun hp=>rfl) (fun hp=>(cndT hp fun _h=>rfl)))))
theorem c_lszJobS:PContract Try.prog 40 (sumOf P_lszJobS pre_lszJobS g_lszJobS):=pcD true G4 (hl1 (i:=0) (by kernel_rfl) lw_lszJobS_0) run_lszJobS
noncomputable def S5:Tab:=Tab.add S4 40 (lift (sumOf P_lszJobS pre_lszJobS g_lszJobS))
noncomputable def QF5:FuncId→Bool:=qadd QF4 40
theorem G5:Good Try.prog tt S5 QF5:=G4.addQ c_lszJobS (cbl Try.f40) (fun _=>rfl)

noncomputable abbrev tq3:Ty:=.sl (.pair (.int .i64) .bool)
noncomputable abbrev LIbe:=List (Int×Bool)
noncomputable abbrev P_lszChoiceS:List PSh:=[.t tq3,.t (.int .i64)]
noncomputable def lszChoiceS (a0:LIbe) (a1:Int):Int:=(cond (decide ((IntKind.wrap .i64 (a1 - ((a0.length:Nat):Int)))<(0:Int))) (-1:Int) (IntKind.wrap .i64 (a1 - ((a0.length:Nat):Int))))
noncomputable abbrev e_lszChoiceS (r:Int):AV×List AObj:=((.t true (.int .i64) r),[])
noncomputable abbrev g_lszChoiceS:pshsDen P_lszChoiceS→AV×List AObj:=fun d=>e_lszChoiceS (lszChoiceS d.1 d.2.1)
noncomputable abbrev pre_lszChoiceS:pshsDen P_lszChoiceS→Bool:=fun d=>true
theorem run_lszChoiceS:RunP true G5 (fun _ _=>none) Try.f41 P_lszChoiceS pre_lszChoiceS g_lszChoiceS:=by
 rintro ⟨a0,⟨a1,_⟩⟩ hp
 refine Eq.trans (b:=(cond (decide ((IntKind.wrap .i64 (a1 - ((a0.length:Nat):Int)))<(0:Int))) (some (e_lszChoiceS (-1:Int))) (some (e_lszChoiceS (IntKind.wrap .i64 (a1 - ((a0.length:Nat):Int))))))) (by kernel_rfl) ?_
 exact (cndG e_lszChoiceS (fun _h=>rfl) (fun _h=>rfl))
theorem c_lszChoiceS:PContract Try.prog 41 (sumOf P_lszChoiceS pre_lszChoiceS g_lszChoiceS):=pcD true G5 hlz run_lszChoiceS
noncomputable def S6:Tab:=Tab.add S5 41 (lift (sumOf P_lszChoiceS pre_lszChoiceS g_lszChoiceS))
noncomputable def QF6:FuncId→Bool:=qadd QF5 41
theorem G6:Good Try.prog tt S6 QF6:=G5.addQ c_lszChoiceS (cbl Try.f41) (fun _=>rfl)

noncomputable abbrev P_lszCoord:List PSh:=[.agg [(.int .i64),(.int .i64),(.int .i64),tq2,tq3,(.int .i64)],.t (.int .i64)]
noncomputable def lszCoord (a0:Int) (a1:Int) (a2:Int) (a3:List (Int×(Lq1)×Int×List Int)) (a4:LIbe) (a5:Int) (a6:Int):Int:=(cond (decide ((lszJobS a3 a6)<(0:Int))) (-1:Int) (cond (decide ((lszChoiceS a4 (lszJobS a3 a6))<(0:Int))) (-1:Int) (lszChoiceS a4 (lszJobS a3 a6))))
noncomputable abbrev e_lszCoord (r:Int):AV×List AObj:=((.t true (.int .i64) r),[])
noncomputable abbrev g_lszCoord:pshsDen P_lszCoord→AV×List AObj:=fun d=>e_lszCoord (lszCoord d.1.1 d.1.2.1 d.1.2.2.1 d.1.2.2.2.1 d.1.2.2.2.2.1 d.1.2.2.2.2.2.1 d.2.1)
noncomputable def q_lszCoord (a0:Int) (a1:Int) (a2:Int) (a3:List (Int×(Lq1)×Int×List Int)) (a4:LIbe) (a5:Int) (a6:Int):Bool:=q_lszJobS a3 a6
noncomputable abbrev pre_lszCoord:pshsDen P_lszCoord→Bool:=fun d=>q_lszCoord d.1.1 d.1.2.1 d.1.2.2.1 d.1.2.2.2.1 d.1.2.2.2.2.1 d.1.2.2.2.2.2.1 d.2.1
theorem run_lszCoord:RunP true G6 (fun _ _=>none) Try.f13 P_lszCoord pre_lszCoord g_lszCoord:=by
 rintro ⟨⟨a0,⟨a1,⟨a2,⟨a3,⟨a4,⟨a5,_⟩⟩⟩⟩⟩⟩,⟨a6,_⟩⟩ hp
 change q_lszCoord a0 a1 a2 a3 a4 a5 a6=true at hp
 unfold q_lszCoord at hp
 refine Eq.trans (b:=(cond (q_lszJobS a3 a6) (cond (decide ((lszJobS a3 a6)<(0:Int))) (some (e_lszCoord (-1:Int))) (cond (decide ((lszChoiceS a4 (lszJobS a3 a6))<(0:Int))) (some (e_lszCoord (-1:Int))) (some (e_lszCoord (lszChoiceS a4 (lszJobS a3 a6)))))) none)) (by kernel_rfl) ?_
 exact (cndT hp fun _h=>(cndG e_lszCoord (fun _h=>rfl) (fun _h=>(cndG e_lszCoord (fun _h=>rfl) (fun _h=>rfl)))))
theorem c_lszCoord:PContract Try.prog 13 (sumOf P_lszCoord pre_lszCoord g_lszCoord):=pcD true G6 hlz run_lszCoord
noncomputable def S7:Tab:=Tab.add S6 13 (lift (sumOf P_lszCoord pre_lszCoord g_lszCoord))
noncomputable def QF7:FuncId→Bool:=qadd QF6 13
theorem G7:Good Try.prog tt S7 QF7:=G6.addQ c_lszCoord (cbl Try.f13) (fun _=>rfl)

noncomputable abbrev P_ltoOp:List PSh:=[.agg [(.int .i64),.str,.str]]
noncomputable def ltoOp (a0:Int) (a1:ByteArray) (a2:ByteArray):Int×ByteArray×ByteArray:=(a0,a1,a2)
noncomputable abbrev e_ltoOp (r:Int×ByteArray×ByteArray):AV×List AObj:=((.agg [(.t true (.int .i64) r.1),(.t true .str r.2.1),(.t true .str r.2.2)]),[])
noncomputable abbrev g_ltoOp:pshsDen P_ltoOp→AV×List AObj:=fun d=>e_ltoOp (ltoOp d.1.1 d.1.2.1 d.1.2.2.1)
noncomputable abbrev pre_ltoOp:pshsDen P_ltoOp→Bool:=fun d=>true
theorem run_ltoOp:RunP true G7 (fun _ _=>none) Try.f146 P_ltoOp pre_ltoOp g_ltoOp:=by
 rintro ⟨⟨a0,⟨a1,⟨a2,_⟩⟩⟩,_⟩ hp
 kernel_rfl
theorem c_ltoOp:PContract Try.prog 146 (sumOf P_ltoOp pre_ltoOp g_ltoOp):=pcD true G7 hlz run_ltoOp
noncomputable def S8:Tab:=Tab.add S7 146 (lift (sumOf P_ltoOp pre_ltoOp g_ltoOp))
noncomputable def QF8:FuncId→Bool:=qadd QF7 146
theorem G8:Good Try.prog tt S8 QF8:=G7.addQ c_ltoOp (cbl Try.f146) (fun _=>rfl)

noncomputable abbrev jS18:List Sh:=.junk::.junk::.junk::.junk::.junk::.junk::.junk::.junk::.junk::.junk::.junk::.junk::.junk::.junk::.junk::.junk::.junk::.junk::[]
noncomputable abbrev tq7:Ty:=.pair (.int .i64) (.pair .str .str)
noncomputable abbrev jS19:List Sh:=.junk::jS18
noncomputable abbrev u19:=((),(),(),(),(),(),(),(),(),(),(),(),(),(),(),(),(),(),())
noncomputable abbrev u24:=((),u23)
noncomputable def f_ltoOpS_0 (x0:Lq1) (i:Nat):Int×ByteArray×ByteArray:=(((ltoOp ((x0.getD i ((0:Int),(bE,bE))).1) (((x0.getD i ((0:Int),(bE,bE))).2).1) (((x0.getD i ((0:Int),(bE,bE))).2).2)).1),(((ltoOp ((x0.getD i ((0:Int),(bE,bE))).1) (((x0.getD i ((0:Int),(bE,bE))).2).1) (((x0.getD i ((0:Int),(bE,bE))).2).2)).2.1),((ltoOp ((x0.getD i ((0:Int),(bE,bE))).1) (((x0.getD i ((0:Int),(bE,bE))).2).1) (((x0.getD i ((0:Int),(bE,bE))).2).2)).2.2)))
noncomputable abbrev P_ltoOpS:List PSh:=[.t tq4]
noncomputable abbrev S_ltoOpS_0:SS:=⟨(.t false tq4::.junk::.junk::.all 0 3::.t true (.int .i64)::jS18),[.rows 90 true tq7]⟩
noncomputable abbrev E_ltoOpS_0_0:SS:=⟨(.junk::.junk::.junk::.all 0 3::jS19),[.rows 90 true tq7]⟩
noncomputable def st_ltoOpS_0 (x0:Lq1) (x4:Int) (h0:Lq1):RT S_ltoOpS_0.den:=(.br (decide (x4<((x0.length:Nat):Int))) (.br (decide (0≤x4∧x4<((x0.length:Nat):Int))) (.br (decide (0≤x4∧x4<((h0.length:Nat):Int))) (.next ((x0,(),(),(),IntKind.wrap .i64 (x4+(1:Int)),u19),(h0.set x4.toNat (((ltoOp ((x0.getD x4.toNat ((0:Int),(bE,bE))).1) (((x0.getD x4.toNat ((0:Int),(bE,bE))).2).1) (((x0.getD x4.toNat ((0:Int),(bE,bE))).2).2)).1),(((ltoOp ((x0.getD x4.toNat ((0:Int),(bE,bE))).1) (((x0.getD x4.toNat ((0:Int),(bE,bE))).2).1) (((x0.getD x4.toNat ((0:Int),(bE,bE))).2).2)).2.1),((ltoOp ((x0.getD x4.toNat ((0:Int),(bE,bE))).1) (((x0.getD x4.toNat ((0:Int),(bE,bE))).2).1) (((x0.getD x4.toNat ((0:Int),(bE,bE))).2).2)).2.2))),()))) .fail) .fail) (.done (.exit 0) E_ltoOpS_0_0 ((u24),(h0,()))))
noncomputable def T_ltoOpS_0 (x0:Lq1) (x4:Int) (h0:Lq1):CT:=(.br (decide (0≤x4)&&(decide (h0.length=x0.length)&&okL x0)) (.done (.exit 0) E_ltoOpS_0_0 ((u24),((foldN (fun i h=>h.set i (f_ltoOpS_0 x0 i)) (x0.length - x4.toNat) x4.toNat h0),()))) .fail)
noncomputable abbrev sp_ltoOpS_0:S_ltoOpS_0.den→RT S_ltoOpS_0.den:=(fun d=>st_ltoOpS_0 d.1.1 d.1.2.2.2.2.1 d.2.1)
noncomputable abbrev pk_ltoOpS_0 (x0:Lq1) (x4:Int) (h0:Lq1):S_ltoOpS_0.den:=((x0,(),(),(),x4,u19),(h0,()))
noncomputable def body_ltoOpS_0:Code:=((loopsIn 0 (bodyOf Try.f122)).getD 0 (0,.skip)).2
theorem R_ltoOpS_0 (x0:Lq1) (x4:Int) (h0:Lq1):(T_ltoOpS_0 x0 x4 h0).val (D:=S_ltoOpS_0.den)=.fail∨Runs sp_ltoOpS_0 (pk_ltoOpS_0 x0 x4 h0) (T_ltoOpS_0 x0 x4 h0).val:=by
 cases hc:(decide (0≤x4)&&(decide (h0.length=x0.length)&&okL x0)) with
 | false=>left;simp only [T_ltoOpS_0,CT.val,hc,cond_false]
 | true =>
  right
  simp only [T_ltoOpS_0,CT.val,hc,cond_true]
  simp only [Bool.and_eq_true,decide_eq_true_eq] at hc
  obtain ⟨i,rfl⟩:=Int.eq_ofNat_of_zero_le hc.1
  have hs:=okL_le hc.2.2
  simp only [Int.toNat_natCast]
  refine Runs.foldN (step:=sp_ltoOpS_0) (fun j b=>pk_ltoOpS_0 x0 (j:Int) b) (fun _ b=>b.length=x0.length) (x0.length) (fun i h=>h.set i (f_ltoOpS_0 x0 i))
   (fin:=fun b=>((.done (.exit 0) E_ltoOpS_0_0 ((u24),(b,()))):CT).val) (fun i b hi hb=>⟨by simpa using hb,?_⟩) (fun i b hi hb=>?_) (x0.length - i) i h0 rfl hc.2.1
  ·
   have h0a:decide ((i:Int)<((x0.length:Nat):Int))=true:=decide_eq_true (by omega)
   have h0b:decide (0≤(i:Int)∧(i:Int)<((x0.length:Nat):Int))=true:=decide_eq_true (by omega)
   have h9:decide (0≤(i:Int)∧(i:Int)<((b.length:Nat):Int))=true:=decide_eq_true (by omega)
   simp only [sp_ltoOpS_0,st_ltoOpS_0,RT.val,h0a,h0b,h9,cond_true,wrapS i (by omega),Int.toNat_natCast]
   rfl
  ·have h1:decide ((i:Int)<((x0.length:Nat):Int))=false:=decide_eq_false (by omega)
   exact ⟨by simp only [sp_ltoOpS_0,st_ltoOpS_0,RT.val,h1,cond_false];rfl,_,_,_,rfl,by simp⟩
theorem rdA_ltoOpS_0:RdA G8 (fun _ _=>none) 0 body_ltoOpS_0 S_ltoOpS_0 0 [] (kepts [] [(0,[3])]) (fun d=>(sp_ltoOpS_0 d).opt 0 []):=by
 intro d
 kernel_rfl
noncomputable abbrev say_ltoOpS_0:St→Option Tree:=S_ltoOpS_0.say 0 [] [] (fun d=>T_ltoOpS_0 d.1.1 d.1.2.2.2.2.1 d.2.1)
theorem lw_ltoOpS_0:LoopWp Try.prog say_ltoOpS_0 body_ltoOpS_0:=SS.wp2 hlz [] sp_ltoOpS_0 rdA_ltoOpS_0 (fun d=>rfl) _ (fun d=>R_ltoOpS_0 d.1.1 d.1.2.2.2.2.1 d.2.1)
noncomputable def ltoOpS (a0:Lq1):Lq1:=(foldN (fun i h=>h.set i (f_ltoOpS_0 a0 i)) (a0.length - (0:Int).toNat) (0:Int).toNat (List.replicate ((a0.length:Nat):Int).toNat ((0:Int),(bE,bE))))
noncomputable abbrev e_ltoOpS (r:Lq1):AV×List AObj:=((.all 0 3),[(.rows 90 true tq7 r)])
noncomputable abbrev g_ltoOpS:pshsDen P_ltoOpS→AV×List AObj:=fun d=>e_ltoOpS (ltoOpS d.1)
noncomputable def q_ltoOpS (a0:Lq1):Bool:=okL a0
noncomputable abbrev pre_ltoOpS:pshsDen P_ltoOpS→Bool:=fun d=>q_ltoOpS d.1
noncomputable abbrev L_ltoOpS:Nat→St→Option Tree:=fun b=>match b with | 0=>say_ltoOpS_0 | _=>fun _=>none
theorem run_ltoOpS:RunP false G8 (L_ltoOpS) Try.f122 P_ltoOpS pre_ltoOpS g_ltoOpS:=by
 rintro ⟨a0,_⟩ hp
 change q_ltoOpS a0=true at hp
 unfold q_ltoOpS at hp
 refine Eq.trans (b:=(cond (decide (0≤((a0.length:Nat):Int)∧((a0.length:Nat):Int)=((a0.length:Nat):Int)∧((a0.length:Nat):Int).toNat*40≤MAXB∧((a0.length:Nat):Int)≤9223372036854775807)) (cond (decide (0≤(0:Int))&&(decide ((List.replicate ((a0.length:Nat):Int).toNat ((0:Int),((⟨#[]⟩:ByteArray),(⟨#[]⟩:ByteArray)))).length=a0.length)&&okL a0)) (some (e_ltoOpS (foldN (fun i h=>h.set i (f_ltoOpS_0 a0 i)) (a0.length - (0:Int).toNat) (0:Int).toNat (List.replicate ((a0.length:Nat):Int).toNat ((0:Int),((⟨#[]⟩:ByteArray),(⟨#[]⟩:ByteArray))))))) none) none)) (by kernel_rfl) ?_
 exact (cndT (by first | rfl | decide | exact hp | (simp only [Bool.and_eq_true] at hp;simp only [hp];done) | (simp [*];done) | (simp [okL] at hp;simp [okL,MAXB];omega) | (simp_all;done) | (simp at *;omega)) (fun _h=>(cndT (by first | rfl | decide | exact hp | (simp only [Bool.and_eq_true] at hp;simp only [hp];done) | (simp [*];done) | (simp [okL] at hp;simp [okL,MAXB];omega) | (simp_all;done) | (simp at *;omega)) (fun _h=>rfl))))
theorem c_ltoOpS:PContract Try.prog 122 (sumOf P_ltoOpS pre_ltoOpS g_ltoOpS):=pcD false G8 (hl1 (i:=0) (by kernel_rfl) lw_ltoOpS_0) run_ltoOpS
noncomputable def S9:Tab:=Tab.add S8 122 (lift (sumOf P_ltoOpS pre_ltoOpS g_ltoOpS))
noncomputable def QF9:FuncId→Bool:=QF8
theorem G9:Good Try.prog tt S9 QF9:=G8.add c_ltoOpS (cbl Try.f122) (by kernel_rfl)

noncomputable abbrev jS17:List Sh:=.junk::.junk::.junk::.junk::.junk::.junk::.junk::.junk::.junk::.junk::.junk::.junk::.junk::.junk::.junk::.junk::.junk::[]
noncomputable abbrev u18:=((),(),(),(),(),(),(),(),(),(),(),(),(),(),(),(),(),())
noncomputable def f_ltoIntS_0 (x0:List Int) (i:Nat):Int:=(x0.getD i (0:Int))
noncomputable abbrev P_ltoIntS:List PSh:=[.t t_si]
noncomputable abbrev S_ltoIntS_0:SS:=⟨(.t false t_si::.junk::.junk::.all 0 1::.t true (.int .i64)::jS17),[.rows 3 true (.int .i64)]⟩
noncomputable abbrev E_ltoIntS_0_0:SS:=⟨(.junk::.junk::.junk::.all 0 1::jS18),[.rows 3 true (.int .i64)]⟩
noncomputable def st_ltoIntS_0 (x0:List Int) (x4:Int) (h0:List Int):RT S_ltoIntS_0.den:=(.br (decide (x4<((x0.length:Nat):Int))) (.br (decide (0≤x4∧x4<((x0.length:Nat):Int))) (.br (decide (0≤x4∧x4<((h0.length:Nat):Int))) (.next ((x0,(),(),(),IntKind.wrap .i64 (x4+(1:Int)),u18),(h0.set x4.toNat (x0.getD x4.toNat (0:Int)),()))) .fail) .fail) (.done (.exit 0) E_ltoIntS_0_0 ((u23),(h0,()))))
noncomputable def T_ltoIntS_0 (x0:List Int) (x4:Int) (h0:List Int):CT:=(.br (decide (0≤x4)&&(decide (h0.length=x0.length)&&okL x0)) (.done (.exit 0) E_ltoIntS_0_0 ((u23),((foldN (fun i h=>h.set i (f_ltoIntS_0 x0 i)) (x0.length - x4.toNat) x4.toNat h0),()))) .fail)
noncomputable abbrev sp_ltoIntS_0:S_ltoIntS_0.den→RT S_ltoIntS_0.den:=(fun d=>st_ltoIntS_0 d.1.1 d.1.2.2.2.2.1 d.2.1)
noncomputable abbrev pk_ltoIntS_0 (x0:List Int) (x4:Int) (h0:List Int):S_ltoIntS_0.den:=((x0,(),(),(),x4,u18),(h0,()))
noncomputable def body_ltoIntS_0:Code:=((loopsIn 0 (bodyOf Try.f123)).getD 0 (0,.skip)).2
theorem R_ltoIntS_0 (x0:List Int) (x4:Int) (h0:List Int):(T_ltoIntS_0 x0 x4 h0).val (D:=S_ltoIntS_0.den)=.fail∨Runs sp_ltoIntS_0 (pk_ltoIntS_0 x0 x4 h0) (T_ltoIntS_0 x0 x4 h0).val:=by
 cases hc:(decide (0≤x4)&&(decide (h0.length=x0.length)&&okL x0)) with
 | false=>left;simp only [T_ltoIntS_0,CT.val,hc,cond_false]
 | true =>
  right
  simp only [T_ltoIntS_0,CT.val,hc,cond_true]
  simp only [Bool.and_eq_true,decide_eq_true_eq] at hc
  obtain ⟨i,rfl⟩:=Int.eq_ofNat_of_zero_le hc.1
  have hs:=okL_le hc.2.2
  simp only [Int.toNat_natCast]
  refine Runs.foldN (step:=sp_ltoIntS_0) (fun j b=>pk_ltoIntS_0 x0 (j:Int) b) (fun _ b=>b.length=x0.length) (x0.length) (fun i h=>h.set i (f_ltoIntS_0 x0 i))
   (fin:=fun b=>((.done (.exit 0) E_ltoIntS_0_0 ((u23),(b,()))):CT).val) (fun i b hi hb=>⟨by simpa using hb,?_⟩) (fun i b hi hb=>?_) (x0.length - i) i h0 rfl hc.2.1
  ·
   have h0a:decide ((i:Int)<((x0.length:Nat):Int))=true:=decide_eq_true (by omega)
   have h0b:decide (0≤(i:Int)∧(i:Int)<((x0.length:Nat):Int))=true:=decide_eq_true (by omega)
   have h9:decide (0≤(i:Int)∧(i:Int)<((b.length:Nat):Int))=true:=decide_eq_true (by omega)
   simp only [sp_ltoIntS_0,st_ltoIntS_0,RT.val,h0a,h0b,h9,cond_true,wrapS i (by omega),Int.toNat_natCast]
   rfl
  ·have h1:decide ((i:Int)<((x0.length:Nat):Int))=false:=decide_eq_false (by omega)
   exact ⟨by simp only [sp_ltoIntS_0,st_ltoIntS_0,RT.val,h1,cond_false];rfl,_,_,_,rfl,by simp⟩
theorem rdA_ltoIntS_0:RdA G9 (fun _ _=>none) 0 body_ltoIntS_0 S_ltoIntS_0 0 [] (kepts [] [(0,[3])]) (fun d=>(sp_ltoIntS_0 d).opt 0 []):=by
 intro d
 kernel_rfl
noncomputable abbrev say_ltoIntS_0:St→Option Tree:=S_ltoIntS_0.say 0 [] [] (fun d=>T_ltoIntS_0 d.1.1 d.1.2.2.2.2.1 d.2.1)
theorem lw_ltoIntS_0:LoopWp Try.prog say_ltoIntS_0 body_ltoIntS_0:=SS.wp2 hlz [] sp_ltoIntS_0 rdA_ltoIntS_0 (fun d=>rfl) _ (fun d=>R_ltoIntS_0 d.1.1 d.1.2.2.2.2.1 d.2.1)
noncomputable def ltoIntS (a0:List Int):List Int:=(foldN (fun i h=>h.set i (f_ltoIntS_0 a0 i)) (a0.length - (0:Int).toNat) (0:Int).toNat (List.replicate ((a0.length:Nat):Int).toNat (0:Int)))
noncomputable abbrev e_ltoIntS (r:List Int):AV×List AObj:=((.all 0 1),[(.rows 3 true (.int .i64) r)])
noncomputable abbrev g_ltoIntS:pshsDen P_ltoIntS→AV×List AObj:=fun d=>e_ltoIntS (ltoIntS d.1)
noncomputable def q_ltoIntS (a0:List Int):Bool:=okL a0
noncomputable abbrev pre_ltoIntS:pshsDen P_ltoIntS→Bool:=fun d=>q_ltoIntS d.1
noncomputable abbrev L_ltoIntS:Nat→St→Option Tree:=fun b=>match b with | 0=>say_ltoIntS_0 | _=>fun _=>none
theorem run_ltoIntS:RunP false G9 (L_ltoIntS) Try.f123 P_ltoIntS pre_ltoIntS g_ltoIntS:=by
 rintro ⟨a0,_⟩ hp
 change q_ltoIntS a0=true at hp
 unfold q_ltoIntS at hp
 refine Eq.trans (b:=(cond (decide (0≤((a0.length:Nat):Int)∧((a0.length:Nat):Int)=((a0.length:Nat):Int)∧((a0.length:Nat):Int).toNat*8≤MAXB∧((a0.length:Nat):Int)≤9223372036854775807)) (cond (decide (0≤(0:Int))&&(decide ((List.replicate ((a0.length:Nat):Int).toNat (0:Int)).length=a0.length)&&okL a0)) (some (e_ltoIntS (foldN (fun i h=>h.set i (f_ltoIntS_0 a0 i)) (a0.length - (0:Int).toNat) (0:Int).toNat (List.replicate ((a0.length:Nat):Int).toNat (0:Int))))) none) none)) (by kernel_rfl) ?_
 exact (cndT (by first | rfl | decide | exact hp | (simp only [Bool.and_eq_true] at hp;simp only [hp];done) | (simp [*];done) | (simp [okL] at hp;simp [okL,MAXB];omega) | (simp_all;done) | (simp at *;omega)) (fun _h=>(cndT (by first | rfl | decide | exact hp | (simp only [Bool.and_eq_true] at hp;simp only [hp];done) | (simp [*];done) | (simp [okL] at hp;simp [okL,MAXB];omega) | (simp_all;done) | (simp at *;omega)) (fun _h=>rfl))))
theorem c_ltoIntS:PContract Try.prog 123 (sumOf P_ltoIntS pre_ltoIntS g_ltoIntS):=pcD false G9 (hl1 (i:=0) (by kernel_rfl) lw_ltoIntS_0) run_ltoIntS
noncomputable def S10:Tab:=Tab.add S9 123 (lift (sumOf P_ltoIntS pre_ltoIntS g_ltoIntS))
noncomputable def QF10:FuncId→Bool:=QF9
theorem G10:Good Try.prog tt S10 QF10:=G9.add c_ltoIntS (cbl Try.f123) (by kernel_rfl)

noncomputable abbrev P_ltoJob:List PSh:=[.agg [(.int .i64),tq4,(.int .i64),t_si]]
noncomputable def ltoJob (a0:Int) (a1:Lq1) (a2:Int) (a3:List Int):Int×Int×(Lq1)×List Int:=(a0,a2,(ltoOpS a1),(ltoIntS a3))
noncomputable abbrev e_ltoJob (r:Int×Int×(Lq1)×List Int):AV×List AObj:=((.agg [(.t true (.int .i64) r.1),(.all 0 3),(.t true (.int .i64) r.2.1),(.all 1 1)]),[(.rows 90 true tq7 r.2.2.1),(.rows 3 true (.int .i64) r.2.2.2)])
noncomputable abbrev g_ltoJob:pshsDen P_ltoJob→AV×List AObj:=fun d=>e_ltoJob (ltoJob d.1.1 d.1.2.1 d.1.2.2.1 d.1.2.2.2.1)
noncomputable def q_ltoJob (a0:Int) (a1:Lq1) (a2:Int) (a3:List Int):Bool:=(q_ltoOpS a1)&&(q_ltoIntS a3)
noncomputable abbrev pre_ltoJob:pshsDen P_ltoJob→Bool:=fun d=>q_ltoJob d.1.1 d.1.2.1 d.1.2.2.1 d.1.2.2.2.1
theorem run_ltoJob:RunP false G10 (fun _ _=>none) Try.f89 P_ltoJob pre_ltoJob g_ltoJob:=by
 rintro ⟨⟨a0,⟨a1,⟨a2,⟨a3,_⟩⟩⟩⟩,_⟩ hp
 change q_ltoJob a0 a1 a2 a3=true at hp
 unfold q_ltoJob at hp
 refine Eq.trans (b:=(cond (q_ltoOpS a1) (cond (q_ltoIntS a3) (some (e_ltoJob (a0,a2,(ltoOpS a1),(ltoIntS a3)))) none) none)) (by kernel_rfl) ?_
 exact (cndA hp fun hp=>(cndT hp fun _h=>rfl))
theorem c_ltoJob:PContract Try.prog 89 (sumOf P_ltoJob pre_ltoJob g_ltoJob):=pcD false G10 hlz run_ltoJob
noncomputable def S11:Tab:=Tab.add S10 89 (lift (sumOf P_ltoJob pre_ltoJob g_ltoJob))
noncomputable def QF11:FuncId→Bool:=QF10
theorem G11:Good Try.prog tt S11 QF11:=G10.add c_ltoJob (cbl Try.f89) (by kernel_rfl)

noncomputable abbrev tq5:Ty:=.pair (.int .i64) (.pair (.sl (.pair (.int .i64) (.pair .str .str))) (.pair (.int .i64) (.sl (.int .i64))))
noncomputable abbrev P_ltoJobS:List PSh:=[.t tq2]
noncomputable abbrev S_ltoJobS_0:SS:=⟨(.t false tq2::.junk::.junk::.all 0 4::.t true (.int .i64)::jS18),[.deep 48 [90,3] tq5]⟩
noncomputable abbrev E_ltoJobS_0_0:SS:=⟨(.junk::.junk::.junk::.all 0 4::jS19),[.deep 48 [90,3] tq5]⟩
noncomputable def st_ltoJobS_0 (x0:List (Int×(Lq1)×Int×List Int)) (x4:Int) (h0:List (Int×(Lq1)×Int×List Int)):RT S_ltoJobS_0.den:=(.br (decide (x4<((x0.length:Nat):Int))) (.br (decide (0≤x4∧x4<((x0.length:Nat):Int))) (.br (q_ltoJob ((x0.getD x4.toNat ((0:Int),([],((0:Int),[])))).1) (((x0.getD x4.toNat ((0:Int),([],((0:Int),[])))).2).1) ((((x0.getD x4.toNat ((0:Int),([],((0:Int),[])))).2).2).1) ((((x0.getD x4.toNat ((0:Int),([],((0:Int),[])))).2).2).2)) (.br (decide (0≤x4∧x4<((h0.length:Nat):Int))) (.next ((x0,(),(),(),IntKind.wrap .i64 (x4+(1:Int)),u19),(h0.set x4.toNat (((ltoJob ((x0.getD x4.toNat ((0:Int),([],((0:Int),[])))).1) (((x0.getD x4.toNat ((0:Int),([],((0:Int),[])))).2).1) ((((x0.getD x4.toNat ((0:Int),([],((0:Int),[])))).2).2).1) ((((x0.getD x4.toNat ((0:Int),([],((0:Int),[])))).2).2).2)).1),(((ltoJob ((x0.getD x4.toNat ((0:Int),([],((0:Int),[])))).1) (((x0.getD x4.toNat ((0:Int),([],((0:Int),[])))).2).1) ((((x0.getD x4.toNat ((0:Int),([],((0:Int),[])))).2).2).1) ((((x0.getD x4.toNat ((0:Int),([],((0:Int),[])))).2).2).2)).2.2.1),(((ltoJob ((x0.getD x4.toNat ((0:Int),([],((0:Int),[])))).1) (((x0.getD x4.toNat ((0:Int),([],((0:Int),[])))).2).1) ((((x0.getD x4.toNat ((0:Int),([],((0:Int),[])))).2).2).1) ((((x0.getD x4.toNat ((0:Int),([],((0:Int),[])))).2).2).2)).2.1),((ltoJob ((x0.getD x4.toNat ((0:Int),([],((0:Int),[])))).1) (((x0.getD x4.toNat ((0:Int),([],((0:Int),[])))).2).1) ((((x0.getD x4.toNat ((0:Int),([],((0:Int),[])))).2).2).1) ((((x0.getD x4.toNat ((0:Int),([],((0:Int),[])))).2).2).2)).2.2.2)))),()))) .fail) .fail) .fail) (.done (.exit 0) E_ltoJobS_0_0 ((u24),(h0,()))))
noncomputable abbrev V_ltoJobS_0:=(List (Int×(Lq1)×Int×List Int))×(Int)×(List (Int×(Lq1)×Int×List Int))
noncomputable abbrev A_ltoJobS_0:=Nat×(List (Int×(Lq1)×Int×List Int))
noncomputable def fl_ltoJobS_0:A_ltoJobS_0:=(99,([]:List (Int×(Lq1)×Int×List Int)))
noncomputable def ss_ltoJobS_0 (x0:List (Int×(Lq1)×Int×List Int)) (x4:Int) (h0:List (Int×(Lq1)×Int×List Int)):V_ltoJobS_0 ⊕ A_ltoJobS_0:=(cond (decide (x4<((x0.length:Nat):Int))) (cond (decide (0≤x4∧x4<((x0.length:Nat):Int))) (cond (q_ltoJob ((x0.getD x4.toNat ((0:Int),([],((0:Int),[])))).1) (((x0.getD x4.toNat ((0:Int),([],((0:Int),[])))).2).1) ((((x0.getD x4.toNat ((0:Int),([],((0:Int),[])))).2).2).1) ((((x0.getD x4.toNat ((0:Int),([],((0:Int),[])))).2).2).2)) (cond (decide (0≤x4∧x4<((h0.length:Nat):Int))) (.inl (x0,IntKind.wrap .i64 (x4+(1:Int)),h0.set x4.toNat (((ltoJob ((x0.getD x4.toNat ((0:Int),([],((0:Int),[])))).1) (((x0.getD x4.toNat ((0:Int),([],((0:Int),[])))).2).1) ((((x0.getD x4.toNat ((0:Int),([],((0:Int),[])))).2).2).1) ((((x0.getD x4.toNat ((0:Int),([],((0:Int),[])))).2).2).2)).1),(((ltoJob ((x0.getD x4.toNat ((0:Int),([],((0:Int),[])))).1) (((x0.getD x4.toNat ((0:Int),([],((0:Int),[])))).2).1) ((((x0.getD x4.toNat ((0:Int),([],((0:Int),[])))).2).2).1) ((((x0.getD x4.toNat ((0:Int),([],((0:Int),[])))).2).2).2)).2.2.1),(((ltoJob ((x0.getD x4.toNat ((0:Int),([],((0:Int),[])))).1) (((x0.getD x4.toNat ((0:Int),([],((0:Int),[])))).2).1) ((((x0.getD x4.toNat ((0:Int),([],((0:Int),[])))).2).2).1) ((((x0.getD x4.toNat ((0:Int),([],((0:Int),[])))).2).2).2)).2.1),((ltoJob ((x0.getD x4.toNat ((0:Int),([],((0:Int),[])))).1) (((x0.getD x4.toNat ((0:Int),([],((0:Int),[])))).2).1) ((((x0.getD x4.toNat ((0:Int),([],((0:Int),[])))).2).2).1) ((((x0.getD x4.toNat ((0:Int),([],((0:Int),[])))).2).2).2)).2.2.2)))))) (.inr fl_ltoJobS_0)) (.inr fl_ltoJobS_0)) (.inr fl_ltoJobS_0)) (.inr (0,h0)))
noncomputable def it_ltoJobS_0 (x0:List (Int×(Lq1)×Int×List Int)) (x4:Int) (h0:List (Int×(Lq1)×Int×List Int)):A_ltoJobS_0:=itX (fun v:V_ltoJobS_0=>ss_ltoJobS_0 v.1 v.2.1 v.2.2) fl_ltoJobS_0 (x0,x4,h0)
noncomputable def ct_ltoJobS_0 (a:A_ltoJobS_0):CT:=(.br (a.1==0) (.done (.exit 0) E_ltoJobS_0_0 ((u24),(a.2,()))) .fail)
noncomputable def T_ltoJobS_0 (x0:List (Int×(Lq1)×Int×List Int)) (x4:Int) (h0:List (Int×(Lq1)×Int×List Int)):CT:=ct_ltoJobS_0 (it_ltoJobS_0 x0 x4 h0)
noncomputable abbrev sp_ltoJobS_0:S_ltoJobS_0.den→RT S_ltoJobS_0.den:=(fun d=>st_ltoJobS_0 d.1.1 d.1.2.2.2.2.1 d.2.1)
noncomputable def body_ltoJobS_0:Code:=((loopsIn 0 (bodyOf Try.f45)).getD 0 (0,.skip)).2
noncomputable abbrev pv_ltoJobS_0 (v:V_ltoJobS_0):S_ltoJobS_0.den:=((v.1,(),(),(),v.2.1,u19),(v.2.2,()))
theorem rl_ltoJobS_0:(∀ v:V_ltoJobS_0,(st_ltoJobS_0 v.1 v.2.1 v.2.2).val=relS pv_ltoJobS_0 ct_ltoJobS_0 (ss_ltoJobS_0 v.1 v.2.1 v.2.2))∧∀ a:A_ltoJobS_0,CEnd S_ltoJobS_0.den (ct_ltoJobS_0 a):=⟨fun v=>(relB (relB (relB (relB rfl rfl) rfl) rfl) rfl),fun a=>(cendB (cendD (by simp)) cendF)⟩
theorem rdA_ltoJobS_0:RdA (G11.deep ow) (fun _ _=>none) 0 body_ltoJobS_0 S_ltoJobS_0 0 [] (kepts [] [(0,[3])]) (fun d=>(sp_ltoJobS_0 d).opt 0 []):=by
 intro d
 kernel_rfl
noncomputable abbrev say_ltoJobS_0:St→Option Tree:=S_ltoJobS_0.say 0 [] [] (fun d=>T_ltoJobS_0 d.1.1 d.1.2.2.2.2.1 d.2.1)
theorem lw_ltoJobS_0:LoopWp Try.prog say_ltoJobS_0 body_ltoJobS_0:=SS.wp2 hlz [] sp_ltoJobS_0 rdA_ltoJobS_0 (fun d=>rfl) _ (fun d=>Runs.ofI2 (step:=sp_ltoJobS_0) pv_ltoJobS_0 rl_ltoJobS_0 rfl (d.1.1,d.1.2.2.2.2.1,d.2.1))
noncomputable def ltoJobS (a0:List (Int×(Lq1)×Int×List Int)):List (Int×(Lq1)×Int×List Int):=((it_ltoJobS_0 a0 (0:Int) (List.replicate ((a0.length:Nat):Int).toNat ((0:Int),([],((0:Int),[]))))).2)
noncomputable abbrev e_ltoJobS (r:List (Int×(Lq1)×Int×List Int)):AV×List AObj:=((.all 0 4),[(.deep 48 [90,3] tq5 r)])
noncomputable abbrev g_ltoJobS:pshsDen P_ltoJobS→AV×List AObj:=fun d=>e_ltoJobS (ltoJobS d.1)
noncomputable def q_ltoJobS (a0:List (Int×(Lq1)×Int×List Int)):Bool:=(decide (0≤((a0.length:Nat):Int)∧((a0.length:Nat):Int)=((a0.length:Nat):Int)∧((a0.length:Nat):Int).toNat*64≤MAXB∧((a0.length:Nat):Int)≤9223372036854775807))&&((it_ltoJobS_0 a0 (0:Int) (List.replicate ((a0.length:Nat):Int).toNat ((0:Int),([],((0:Int),[]))))).1==0)
noncomputable abbrev pre_ltoJobS:pshsDen P_ltoJobS→Bool:=fun d=>q_ltoJobS d.1
noncomputable abbrev L_ltoJobS:Nat→St→Option Tree:=fun b=>match b with | 0=>say_ltoJobS_0 | _=>fun _=>none
theorem run_ltoJobS:RunP false (G11.deep ow) (L_ltoJobS) Try.f45 P_ltoJobS pre_ltoJobS g_ltoJobS:=by
 rintro ⟨a0,_⟩ hp
 change q_ltoJobS a0=true at hp
 unfold q_ltoJobS at hp
 refine Eq.trans (b:=(cond (decide (0≤((a0.length:Nat):Int)∧((a0.length:Nat):Int)=((a0.length:Nat):Int)∧((a0.length:Nat):Int).toNat*64≤MAXB∧((a0.length:Nat):Int)≤9223372036854775807)) (cond ((it_ltoJobS_0 a0 (0:Int) (List.replicate ((a0.length:Nat):Int).toNat ((0:Int),([],((0:Int),[]))))).1==0) (some (e_ltoJobS ((it_ltoJobS_0 a0 (0:Int) (List.replicate ((a0.length:Nat):Int).toNat ((0:Int),([],((0:Int),[]))))).2))) none) none)) (by kernel_rfl) ?_
 exact (cndA hp fun hp=>(cndT hp fun _h=>rfl))
theorem c_ltoJobS:PContract Try.prog 45 (sumOf P_ltoJobS pre_ltoJobS g_ltoJobS):=pcD false (G11.deep ow) (hl1 (i:=0) (by kernel_rfl) lw_ltoJobS_0) run_ltoJobS
noncomputable def S12:Tab:=Tab.add S11 45 (lift (sumOf P_ltoJobS pre_ltoJobS g_ltoJobS))
noncomputable def QF12:FuncId→Bool:=QF11
theorem G12:Good Try.prog tt S12 QF12:=G11.add c_ltoJobS (cbl Try.f45) (by kernel_rfl)

noncomputable abbrev P_ltoChoice:List PSh:=[.agg [(.int .i64),.bool]]
noncomputable def ltoChoice (a0:Int) (a1:Bool):Int×Bool:=(a0,a1)
noncomputable abbrev e_ltoChoice (r:Int×Bool):AV×List AObj:=((.agg [(.t true (.int .i64) r.1),(.t true .bool r.2)]),[])
noncomputable abbrev g_ltoChoice:pshsDen P_ltoChoice→AV×List AObj:=fun d=>e_ltoChoice (ltoChoice d.1.1 d.1.2.1)
noncomputable abbrev pre_ltoChoice:pshsDen P_ltoChoice→Bool:=fun d=>true
theorem run_ltoChoice:RunP true G12 (fun _ _=>none) Try.f90 P_ltoChoice pre_ltoChoice g_ltoChoice:=by
 rintro ⟨⟨a0,⟨a1,_⟩⟩,_⟩ hp
 kernel_rfl
theorem c_ltoChoice:PContract Try.prog 90 (sumOf P_ltoChoice pre_ltoChoice g_ltoChoice):=pcD true G12 hlz run_ltoChoice
noncomputable def S13:Tab:=Tab.add S12 90 (lift (sumOf P_ltoChoice pre_ltoChoice g_ltoChoice))
noncomputable def QF13:FuncId→Bool:=qadd QF12 90
theorem G13:Good Try.prog tt S13 QF13:=G12.addQ c_ltoChoice (cbl Try.f90) (fun _=>rfl)

noncomputable abbrev t_pib:Ty:=.pair (.int .i64) .bool
noncomputable def f_ltoChoiceS_0 (x0:LIbe) (i:Nat):Int×Bool:=(((ltoChoice ((x0.getD i ((0:Int),false)).1) ((x0.getD i ((0:Int),false)).2)).1),((ltoChoice ((x0.getD i ((0:Int),false)).1) ((x0.getD i ((0:Int),false)).2)).2))
noncomputable abbrev P_ltoChoiceS:List PSh:=[.t tq3]
noncomputable abbrev S_ltoChoiceS_0:SS:=⟨(.t false tq3::.junk::.junk::.all 0 2::.t true (.int .i64)::jS18),[.rows 43 true t_pib]⟩
noncomputable abbrev E_ltoChoiceS_0_0:SS:=⟨(.junk::.junk::.junk::.all 0 2::jS19),[.rows 43 true t_pib]⟩
noncomputable def st_ltoChoiceS_0 (x0:LIbe) (x4:Int) (h0:LIbe):RT S_ltoChoiceS_0.den:=(.br (decide (x4<((x0.length:Nat):Int))) (.br (decide (0≤x4∧x4<((x0.length:Nat):Int))) (.br (decide (0≤x4∧x4<((h0.length:Nat):Int))) (.next ((x0,(),(),(),IntKind.wrap .i64 (x4+(1:Int)),u19),(h0.set x4.toNat (((ltoChoice ((x0.getD x4.toNat ((0:Int),false)).1) ((x0.getD x4.toNat ((0:Int),false)).2)).1),((ltoChoice ((x0.getD x4.toNat ((0:Int),false)).1) ((x0.getD x4.toNat ((0:Int),false)).2)).2)),()))) .fail) .fail) (.done (.exit 0) E_ltoChoiceS_0_0 ((u24),(h0,()))))
noncomputable def T_ltoChoiceS_0 (x0:LIbe) (x4:Int) (h0:LIbe):CT:=(.br (decide (0≤x4)&&(decide (h0.length=x0.length)&&okL x0)) (.done (.exit 0) E_ltoChoiceS_0_0 ((u24),((foldN (fun i h=>h.set i (f_ltoChoiceS_0 x0 i)) (x0.length - x4.toNat) x4.toNat h0),()))) .fail)
noncomputable abbrev sp_ltoChoiceS_0:S_ltoChoiceS_0.den→RT S_ltoChoiceS_0.den:=(fun d=>st_ltoChoiceS_0 d.1.1 d.1.2.2.2.2.1 d.2.1)
noncomputable abbrev pk_ltoChoiceS_0 (x0:LIbe) (x4:Int) (h0:LIbe):S_ltoChoiceS_0.den:=((x0,(),(),(),x4,u19),(h0,()))
noncomputable def body_ltoChoiceS_0:Code:=((loopsIn 0 (bodyOf Try.f46)).getD 0 (0,.skip)).2
theorem R_ltoChoiceS_0 (x0:LIbe) (x4:Int) (h0:LIbe):(T_ltoChoiceS_0 x0 x4 h0).val (D:=S_ltoChoiceS_0.den)=.fail∨Runs sp_ltoChoiceS_0 (pk_ltoChoiceS_0 x0 x4 h0) (T_ltoChoiceS_0 x0 x4 h0).val:=by
 cases hc:(decide (0≤x4)&&(decide (h0.length=x0.length)&&okL x0)) with
 | false=>left;simp only [T_ltoChoiceS_0,CT.val,hc,cond_false]
 | true =>
  right
  simp only [T_ltoChoiceS_0,CT.val,hc,cond_true]
  simp only [Bool.and_eq_true,decide_eq_true_eq] at hc
  obtain ⟨i,rfl⟩:=Int.eq_ofNat_of_zero_le hc.1
  have hs:=okL_le hc.2.2
  simp only [Int.toNat_natCast]
  refine Runs.foldN (step:=sp_ltoChoiceS_0) (fun j b=>pk_ltoChoiceS_0 x0 (j:Int) b) (fun _ b=>b.length=x0.length) (x0.length) (fun i h=>h.set i (f_ltoChoiceS_0 x0 i))
   (fin:=fun b=>((.done (.exit 0) E_ltoChoiceS_0_0 ((u24),(b,()))):CT).val) (fun i b hi hb=>⟨by simpa using hb,?_⟩) (fun i b hi hb=>?_) (x0.length - i) i h0 rfl hc.2.1
  ·
   have h0a:decide ((i:Int)<((x0.length:Nat):Int))=true:=decide_eq_true (by omega)
   have h0b:decide (0≤(i:Int)∧(i:Int)<((x0.length:Nat):Int))=true:=decide_eq_true (by omega)
   have h9:decide (0≤(i:Int)∧(i:Int)<((b.length:Nat):Int))=true:=decide_eq_true (by omega)
   simp only [sp_ltoChoiceS_0,st_ltoChoiceS_0,RT.val,h0a,h0b,h9,cond_true,wrapS i (by omega),Int.toNat_natCast]
   rfl
  ·have h1:decide ((i:Int)<((x0.length:Nat):Int))=false:=decide_eq_false (by omega)
   exact ⟨by simp only [sp_ltoChoiceS_0,st_ltoChoiceS_0,RT.val,h1,cond_false];rfl,_,_,_,rfl,by simp⟩
theorem rdA_ltoChoiceS_0:RdA G13 (fun _ _=>none) 0 body_ltoChoiceS_0 S_ltoChoiceS_0 0 [] (kepts [] [(0,[3])]) (fun d=>(sp_ltoChoiceS_0 d).opt 0 []):=by
 intro d
 kernel_rfl
noncomputable abbrev say_ltoChoiceS_0:St→Option Tree:=S_ltoChoiceS_0.say 0 [] [] (fun d=>T_ltoChoiceS_0 d.1.1 d.1.2.2.2.2.1 d.2.1)
theorem lw_ltoChoiceS_0:LoopWp Try.prog say_ltoChoiceS_0 body_ltoChoiceS_0:=SS.wp2 hlz [] sp_ltoChoiceS_0 rdA_ltoChoiceS_0 (fun d=>rfl) _ (fun d=>R_ltoChoiceS_0 d.1.1 d.1.2.2.2.2.1 d.2.1)
noncomputable def ltoChoiceS (a0:LIbe):LIbe:=(foldN (fun i h=>h.set i (f_ltoChoiceS_0 a0 i)) (a0.length - (0:Int).toNat) (0:Int).toNat (List.replicate ((a0.length:Nat):Int).toNat ((0:Int),false)))
noncomputable abbrev e_ltoChoiceS (r:LIbe):AV×List AObj:=((.all 0 2),[(.rows 43 true t_pib r)])
noncomputable abbrev g_ltoChoiceS:pshsDen P_ltoChoiceS→AV×List AObj:=fun d=>e_ltoChoiceS (ltoChoiceS d.1)
noncomputable def q_ltoChoiceS (a0:LIbe):Bool:=okL a0
noncomputable abbrev pre_ltoChoiceS:pshsDen P_ltoChoiceS→Bool:=fun d=>q_ltoChoiceS d.1
noncomputable abbrev L_ltoChoiceS:Nat→St→Option Tree:=fun b=>match b with | 0=>say_ltoChoiceS_0 | _=>fun _=>none
theorem run_ltoChoiceS:RunP false G13 (L_ltoChoiceS) Try.f46 P_ltoChoiceS pre_ltoChoiceS g_ltoChoiceS:=by
 rintro ⟨a0,_⟩ hp
 change q_ltoChoiceS a0=true at hp
 unfold q_ltoChoiceS at hp
 refine Eq.trans (b:=(cond (decide (0≤((a0.length:Nat):Int)∧((a0.length:Nat):Int)=((a0.length:Nat):Int)∧((a0.length:Nat):Int).toNat*16≤MAXB∧((a0.length:Nat):Int)≤9223372036854775807)) (cond (decide (0≤(0:Int))&&(decide ((List.replicate ((a0.length:Nat):Int).toNat ((0:Int),false)).length=a0.length)&&okL a0)) (some (e_ltoChoiceS (foldN (fun i h=>h.set i (f_ltoChoiceS_0 a0 i)) (a0.length - (0:Int).toNat) (0:Int).toNat (List.replicate ((a0.length:Nat):Int).toNat ((0:Int),false))))) none) none)) (by kernel_rfl) ?_
 exact (cndT (by first | rfl | decide | exact hp | (simp only [Bool.and_eq_true] at hp;simp only [hp];done) | (simp [*];done) | (simp [okL] at hp;simp [okL,MAXB];omega) | (simp_all;done) | (simp at *;omega)) (fun _h=>(cndT (by first | rfl | decide | exact hp | (simp only [Bool.and_eq_true] at hp;simp only [hp];done) | (simp [*];done) | (simp [okL] at hp;simp [okL,MAXB];omega) | (simp_all;done) | (simp at *;omega)) (fun _h=>rfl))))
theorem c_ltoChoiceS:PContract Try.prog 46 (sumOf P_ltoChoiceS pre_ltoChoiceS g_ltoChoiceS):=pcD false G13 (hl1 (i:=0) (by kernel_rfl) lw_ltoChoiceS_0) run_ltoChoiceS
noncomputable def S14:Tab:=Tab.add S13 46 (lift (sumOf P_ltoChoiceS pre_ltoChoiceS g_ltoChoiceS))
noncomputable def QF14:FuncId→Bool:=QF13
theorem G14:Good Try.prog tt S14 QF14:=G13.add c_ltoChoiceS (cbl Try.f46) (by kernel_rfl)

noncomputable abbrev P_ltoCoord:List PSh:=[.agg [(.int .i64),(.int .i64),(.int .i64),tq2,tq3,(.int .i64)]]
noncomputable def ltoCoord (a0:Int) (a1:Int) (a2:Int) (a3:List (Int×(Lq1)×Int×List Int)) (a4:LIbe) (a5:Int):Int×Int×Int×Int×(List (Int×(Lq1)×Int×List Int))×LIbe:=(a0,a1,a2,a5,(ltoJobS a3),(ltoChoiceS a4))
noncomputable abbrev e_ltoCoord (r:Int×Int×Int×Int×(List (Int×(Lq1)×Int×List Int))×LIbe):AV×List AObj:=((.agg [(.t true (.int .i64) r.1),(.t true (.int .i64) r.2.1),(.t true (.int .i64) r.2.2.1),(.all 0 4),(.all 1 2),(.t true (.int .i64) r.2.2.2.1)]),[(.deep 48 [90,3] tq5 r.2.2.2.2.1),(.rows 43 true t_pib r.2.2.2.2.2)])
noncomputable abbrev g_ltoCoord:pshsDen P_ltoCoord→AV×List AObj:=fun d=>e_ltoCoord (ltoCoord d.1.1 d.1.2.1 d.1.2.2.1 d.1.2.2.2.1 d.1.2.2.2.2.1 d.1.2.2.2.2.2.1)
noncomputable def q_ltoCoord (a0:Int) (a1:Int) (a2:Int) (a3:List (Int×(Lq1)×Int×List Int)) (a4:LIbe) (a5:Int):Bool:=(q_ltoJobS a3)&&(q_ltoChoiceS a4)
noncomputable abbrev pre_ltoCoord:pshsDen P_ltoCoord→Bool:=fun d=>q_ltoCoord d.1.1 d.1.2.1 d.1.2.2.1 d.1.2.2.2.1 d.1.2.2.2.2.1 d.1.2.2.2.2.2.1
theorem run_ltoCoord:RunP false G14 (fun _ _=>none) Try.f15 P_ltoCoord pre_ltoCoord g_ltoCoord:=by
 rintro ⟨⟨a0,⟨a1,⟨a2,⟨a3,⟨a4,⟨a5,_⟩⟩⟩⟩⟩⟩,_⟩ hp
 change q_ltoCoord a0 a1 a2 a3 a4 a5=true at hp
 unfold q_ltoCoord at hp
 refine Eq.trans (b:=(cond (q_ltoJobS a3) (cond (q_ltoChoiceS a4) (some (e_ltoCoord (a0,a1,a2,a5,(ltoJobS a3),(ltoChoiceS a4)))) none) none)) (by kernel_rfl) ?_
 exact (cndA hp fun hp=>(cndT hp fun _h=>rfl))
theorem c_ltoCoord:PContract Try.prog 15 (sumOf P_ltoCoord pre_ltoCoord g_ltoCoord):=pcD false G14 hlz run_ltoCoord
noncomputable def S15:Tab:=Tab.add S14 15 (lift (sumOf P_ltoCoord pre_ltoCoord g_ltoCoord))
noncomputable def QF15:FuncId→Bool:=QF14
theorem G15:Good Try.prog tt S15 QF15:=G14.add c_ltoCoord (cbl Try.f15) (by kernel_rfl)

noncomputable abbrev P_sl7CopyOps:List PSh:=[.t tq4]
noncomputable def sl7CopyOps (a0:Lq1):Lq1:=(([]:Lq1)++a0)
noncomputable abbrev e_sl7CopyOps (r:Lq1):AV×List AObj:=((.t true tq4 r),[])
noncomputable abbrev g_sl7CopyOps:pshsDen P_sl7CopyOps→AV×List AObj:=fun d=>e_sl7CopyOps (sl7CopyOps d.1)
noncomputable def q_sl7CopyOps (a0:Lq1):Bool:=decide ((([]:Lq1).length+a0.length)*40≤MAXB)
noncomputable abbrev pre_sl7CopyOps:pshsDen P_sl7CopyOps→Bool:=fun d=>q_sl7CopyOps d.1
theorem run_sl7CopyOps:RunP true G15 (fun _ _=>none) Try.f102 P_sl7CopyOps pre_sl7CopyOps g_sl7CopyOps:=by
 rintro ⟨a0,_⟩ hp
 change q_sl7CopyOps a0=true at hp
 unfold q_sl7CopyOps at hp
 refine Eq.trans (b:=(cond (decide ((([]:Lq1).length+a0.length)*40≤MAXB)) (some (e_sl7CopyOps (([]:Lq1)++a0))) none)) (by kernel_rfl) ?_
 exact (cndT hp fun _h=>rfl)
theorem c_sl7CopyOps:PContract Try.prog 102 (sumOf P_sl7CopyOps pre_sl7CopyOps g_sl7CopyOps):=pcD true G15 hlz run_sl7CopyOps
noncomputable def S16:Tab:=Tab.add S15 102 (lift (sumOf P_sl7CopyOps pre_sl7CopyOps g_sl7CopyOps))
noncomputable def QF16:FuncId→Bool:=qadd QF15 102
theorem G16:Good Try.prog tt S16 QF16:=G15.addQ c_sl7CopyOps (cbl Try.f102) (fun _=>rfl)

noncomputable abbrev jS37:List Sh:=.junk::.junk::.junk::.junk::.junk::.junk::.junk::.junk::.junk::.junk::.junk::.junk::jS25
noncomputable abbrev jS38:List Sh:=.junk::jS37
noncomputable abbrev u38:=((),(),(),(),(),(),(),(),(),(),(),(),u26)
noncomputable abbrev u43:=((),(),(),(),(),u38)
noncomputable abbrev jA37:List AV:=.junk::.junk::.junk::.junk::.junk::.junk::.junk::.junk::.junk::.junk::.junk::.junk::.junk::.junk::.junk::.junk::.junk::.junk::.junk::.junk::.junk::.junk::.junk::.junk::.junk::.junk::.junk::.junk::.junk::.junk::.junk::.junk::.junk::.junk::.junk::.junk::.junk::[]
noncomputable abbrev jA38:List AV:=.junk::jA37
noncomputable abbrev P_sl11Copy:List PSh:=[.agg [(.int .i64),(.int .i64),(.int .i64),tq2,tq3,(.int .i64)]]
noncomputable abbrev S_sl11Copy_0:SS:=⟨(.junk::.ptr 0 0 1 0::.ptr 1 0 1 0::.ptr 2 0 1 0::.t true (.int .i64)::jS37),[.box [.t true (.int .i64),.t true (.int .i64),.t true (.int .i64),.t false tq2,.t false tq3,.t true (.int .i64)],.box [.t true (.int .i64),.t true (.int .i64),.t true (.int .i64),.nil,.nil,.t true (.int .i64)],.box [.t true (.int .i64),.t true (.int .i64),.t true (.int .i64),.all 3 4,.all 4 2,.t true (.int .i64)],.rows 48 true tq5,.rows 43 true t_pib]⟩
noncomputable abbrev E_sl11Copy_0_0:SS:=⟨(.junk::.junk::.ptr 0 0 1 0::.ptr 1 0 1 0::jS38),[.box [.t true (.int .i64),.t true (.int .i64),.t true (.int .i64),.nil,.nil,.t true (.int .i64)],.box [.t true (.int .i64),.t true (.int .i64),.t true (.int .i64),.all 2 4,.all 3 2,.t true (.int .i64)],.rows 48 true tq5,.rows 43 true t_pib]⟩
noncomputable def st_sl11Copy_0 (x4:Int) (p0:Int) (p1:Int) (p2:Int) (p3:List (Int×(Lq1)×Int×List Int)) (p4:LIbe) (p5:Int) (q0:Int) (q1:Int) (q2:Int) (q5:Int) (r0:Int) (r1:Int) (r2:Int) (r5:Int) (h3:List (Int×(Lq1)×Int×List Int)) (h4:LIbe):RT S_sl11Copy_0.den:=(.br (decide (x4<((p3.length:Nat):Int))) (.br (decide (0≤x4∧x4<((p3.length:Nat):Int))) (.br (q_sl7CopyOps (((p3.getD x4.toNat ((0:Int),([],((0:Int),[])))).2).1)) (.br (decide ((([]:List Int).length+((((p3.getD x4.toNat ((0:Int),([],((0:Int),[])))).2).2).2).length)*8≤MAXB)) (.br (decide ((h3.length+([((p3.getD x4.toNat ((0:Int),([],((0:Int),[])))).1,((sl7CopyOps (((p3.getD x4.toNat ((0:Int),([],((0:Int),[])))).2).1)),((((p3.getD x4.toNat ((0:Int),([],((0:Int),[])))).2).2).1,([]:List Int)++((((p3.getD x4.toNat ((0:Int),([],((0:Int),[])))).2).2).2))))]:List (Int×(Lq1)×Int×List Int)).length)*64≤MAXB)) (.next (((),(),(),(),IntKind.wrap .i64 (x4+(1:Int)),u38),((p0,p1,p2,p3,p4,p5,()),(q0,q1,q2,(),(),q5,()),(r0,r1,r2,(),(),r5,()),h3++([((p3.getD x4.toNat ((0:Int),([],((0:Int),[])))).1,((sl7CopyOps (((p3.getD x4.toNat ((0:Int),([],((0:Int),[])))).2).1)),((((p3.getD x4.toNat ((0:Int),([],((0:Int),[])))).2).2).1,([]:List Int)++((((p3.getD x4.toNat ((0:Int),([],((0:Int),[])))).2).2).2))))]),h4,()))) .fail) .fail) .fail) .fail) (.done (.exit 0) E_sl11Copy_0_0 ((u43),((q0,q1,q2,(),(),q5,()),(r0,r1,r2,(),(),r5,()),h3,h4,()))))
noncomputable abbrev V_sl11Copy_0:=(Int)×(List (Int×(Lq1)×Int×List Int))×(LIbe)
noncomputable abbrev A_sl11Copy_0:=Nat×(List (Int×(Lq1)×Int×List Int))×(LIbe)
noncomputable def fl_sl11Copy_0:A_sl11Copy_0:=(99,([]:List (Int×(Lq1)×Int×List Int)),([]:LIbe))
noncomputable def ss_sl11Copy_0 (x4:Int) (p0:Int) (p1:Int) (p2:Int) (p3:List (Int×(Lq1)×Int×List Int)) (p4:LIbe) (p5:Int) (q0:Int) (q1:Int) (q2:Int) (q5:Int) (r0:Int) (r1:Int) (r2:Int) (r5:Int) (h3:List (Int×(Lq1)×Int×List Int)) (h4:LIbe):V_sl11Copy_0 ⊕ A_sl11Copy_0:=(cond (decide (x4<((p3.length:Nat):Int))) (cond (decide (0≤x4∧x4<((p3.length:Nat):Int))) (cond (q_sl7CopyOps (((p3.getD x4.toNat ((0:Int),([],((0:Int),[])))).2).1)) (cond (decide ((([]:List Int).length+((((p3.getD x4.toNat ((0:Int),([],((0:Int),[])))).2).2).2).length)*8≤MAXB)) (cond (decide ((h3.length+([((p3.getD x4.toNat ((0:Int),([],((0:Int),[])))).1,((sl7CopyOps (((p3.getD x4.toNat ((0:Int),([],((0:Int),[])))).2).1)),((((p3.getD x4.toNat ((0:Int),([],((0:Int),[])))).2).2).1,([]:List Int)++((((p3.getD x4.toNat ((0:Int),([],((0:Int),[])))).2).2).2))))]:List (Int×(Lq1)×Int×List Int)).length)*64≤MAXB)) (.inl (IntKind.wrap .i64 (x4+(1:Int)),h3++([((p3.getD x4.toNat ((0:Int),([],((0:Int),[])))).1,((sl7CopyOps (((p3.getD x4.toNat ((0:Int),([],((0:Int),[])))).2).1)),((((p3.getD x4.toNat ((0:Int),([],((0:Int),[])))).2).2).1,([]:List Int)++((((p3.getD x4.toNat ((0:Int),([],((0:Int),[])))).2).2).2))))]),h4)) (.inr fl_sl11Copy_0)) (.inr fl_sl11Copy_0)) (.inr fl_sl11Copy_0)) (.inr fl_sl11Copy_0)) (.inr (0,h3,h4)))
noncomputable def it_sl11Copy_0 (x4:Int) (p0:Int) (p1:Int) (p2:Int) (p3:List (Int×(Lq1)×Int×List Int)) (p4:LIbe) (p5:Int) (q0:Int) (q1:Int) (q2:Int) (q5:Int) (r0:Int) (r1:Int) (r2:Int) (r5:Int) (h3:List (Int×(Lq1)×Int×List Int)) (h4:LIbe):A_sl11Copy_0:=itX (fun v:V_sl11Copy_0=>ss_sl11Copy_0 v.1 p0 p1 p2 p3 p4 p5 q0 q1 q2 q5 r0 r1 r2 r5 v.2.1 v.2.2) fl_sl11Copy_0 (x4,h3,h4)
noncomputable def ct_sl11Copy_0 (p0:Int) (p1:Int) (p2:Int) (p3:List (Int×(Lq1)×Int×List Int)) (p4:LIbe) (p5:Int) (q0:Int) (q1:Int) (q2:Int) (q5:Int) (r0:Int) (r1:Int) (r2:Int) (r5:Int) (a:A_sl11Copy_0):CT:=(.br (a.1==0) (.done (.exit 0) E_sl11Copy_0_0 ((u43),((q0,q1,q2,(),(),q5,()),(r0,r1,r2,(),(),r5,()),a.2.1,a.2.2,()))) .fail)
noncomputable def T_sl11Copy_0 (x4:Int) (p0:Int) (p1:Int) (p2:Int) (p3:List (Int×(Lq1)×Int×List Int)) (p4:LIbe) (p5:Int) (q0:Int) (q1:Int) (q2:Int) (q5:Int) (r0:Int) (r1:Int) (r2:Int) (r5:Int) (h3:List (Int×(Lq1)×Int×List Int)) (h4:LIbe):CT:=(ct_sl11Copy_0 p0 p1 p2 p3 p4 p5 q0 q1 q2 q5 r0 r1 r2 r5) (it_sl11Copy_0 x4 p0 p1 p2 p3 p4 p5 q0 q1 q2 q5 r0 r1 r2 r5 h3 h4)
noncomputable abbrev ap_sl11Copy_0 {α:Sort _} (f:Int→Int→Int→Int→(List (Int×(Lq1)×Int×List Int))→(LIbe)→Int→Int→Int→Int→Int→Int→Int→Int→Int→(List (Int×(Lq1)×Int×List Int))→(LIbe)→α) (d:S_sl11Copy_0.den):α:=f d.1.2.2.2.2.1 d.2.1.1 d.2.1.2.1 d.2.1.2.2.1 d.2.1.2.2.2.1 d.2.1.2.2.2.2.1 d.2.1.2.2.2.2.2.1 d.2.2.1.1 d.2.2.1.2.1 d.2.2.1.2.2.1 d.2.2.1.2.2.2.2.2.1 d.2.2.2.1.1 d.2.2.2.1.2.1 d.2.2.2.1.2.2.1 d.2.2.2.1.2.2.2.2.2.1 d.2.2.2.2.1 d.2.2.2.2.2.1
noncomputable abbrev sp_sl11Copy_0:S_sl11Copy_0.den→RT S_sl11Copy_0.den:=(ap_sl11Copy_0 st_sl11Copy_0)
noncomputable def body_sl11Copy_0:Code:=((loopsIn 0 (bodyOf Try.f62)).getD 0 (0,.skip)).2
noncomputable abbrev pv_sl11Copy_0 (p0:Int) (p1:Int) (p2:Int) (p3:List (Int×(Lq1)×Int×List Int)) (p4:LIbe) (p5:Int) (q0:Int) (q1:Int) (q2:Int) (q5:Int) (r0:Int) (r1:Int) (r2:Int) (r5:Int) (v:V_sl11Copy_0):S_sl11Copy_0.den:=(((),(),(),(),v.1,u38),((p0,p1,p2,p3,p4,p5,()),(q0,q1,q2,(),(),q5,()),(r0,r1,r2,(),(),r5,()),v.2.1,v.2.2,()))
theorem rl_sl11Copy_0 (p0:Int) (p1:Int) (p2:Int) (p3:List (Int×(Lq1)×Int×List Int)) (p4:LIbe) (p5:Int) (q0:Int) (q1:Int) (q2:Int) (q5:Int) (r0:Int) (r1:Int) (r2:Int) (r5:Int):(∀ v:V_sl11Copy_0,(st_sl11Copy_0 v.1 p0 p1 p2 p3 p4 p5 q0 q1 q2 q5 r0 r1 r2 r5 v.2.1 v.2.2).val=relS (pv_sl11Copy_0 p0 p1 p2 p3 p4 p5 q0 q1 q2 q5 r0 r1 r2 r5) (ct_sl11Copy_0 p0 p1 p2 p3 p4 p5 q0 q1 q2 q5 r0 r1 r2 r5) (ss_sl11Copy_0 v.1 p0 p1 p2 p3 p4 p5 q0 q1 q2 q5 r0 r1 r2 r5 v.2.1 v.2.2))∧∀ a:A_sl11Copy_0,CEnd S_sl11Copy_0.den ((ct_sl11Copy_0 p0 p1 p2 p3 p4 p5 q0 q1 q2 q5 r0 r1 r2 r5) a):=⟨fun v=>(relB (relB (relB (relB (relB rfl rfl) rfl) rfl) rfl) rfl),fun a=>(cendB (cendD (by simp)) cendF)⟩
noncomputable def ox_sl11Copy_0 (x4:Int) (p0:Int) (p1:Int) (p2:Int) (p3:List (Int×(Lq1)×Int×List Int)) (p4:LIbe) (p5:Int) (q0:Int) (q1:Int) (q2:Int) (q5:Int) (r0:Int) (r1:Int) (r2:Int) (r5:Int) (h3:List (Int×(Lq1)×Int×List Int)) (h4:LIbe):Option (Ex×St):=(cond (decide (x4<((p3.length:Nat):Int))) (cond (decide (0≤x4∧x4<((p3.length:Nat):Int))) (cond (q_sl7CopyOps (((p3.getD x4.toNat ((0:Int),([],((0:Int),[])))).2).1)) (cond (decide ((([]:List Int).length+((((p3.getD x4.toNat ((0:Int),([],((0:Int),[])))).2).2).2).length)*8≤MAXB)) (cond (decide ((h3.length+([((p3.getD x4.toNat ((0:Int),([],((0:Int),[])))).1,((sl7CopyOps (((p3.getD x4.toNat ((0:Int),([],((0:Int),[])))).2).1)),((((p3.getD x4.toNat ((0:Int),([],((0:Int),[])))).2).2).1,([]:List Int)++((((p3.getD x4.toNat ((0:Int),([],((0:Int),[])))).2).2).2))))]:List (Int×(Lq1)×Int×List Int)).length)*64≤MAXB)) (some (.normal,(⟨(.junk::(.ptr 0 0 1 0)::(.ptr 1 0 1 0)::(.ptr 2 0 1 0)::(.t true (.int .i64) (IntKind.wrap .i64 (x4+(1:Int))))::jA37),[(.box [(.t true (.int .i64) p0),(.t true (.int .i64) p1),(.t true (.int .i64) p2),(.t false tq2 p3),(.t false tq3 p4),(.t true (.int .i64) p5)]),(.box [(.t true (.int .i64) q0),(.t true (.int .i64) q1),(.t true (.int .i64) q2),(.raw (.slice none 0 0)),(.raw (.slice none 0 0)),(.t true (.int .i64) q5)]),(.box [(.t true (.int .i64) r0),(.t true (.int .i64) r1),(.t true (.int .i64) r2),(.all 3 4),(.all 4 2),(.t true (.int .i64) r5)]),(.rows 48 true tq5 (h3++([((p3.getD x4.toNat ((0:Int),([],((0:Int),[])))).1,((sl7CopyOps (((p3.getD x4.toNat ((0:Int),([],((0:Int),[])))).2).1)),((((p3.getD x4.toNat ((0:Int),([],((0:Int),[])))).2).2).1,([]:List Int)++((((p3.getD x4.toNat ((0:Int),([],((0:Int),[])))).2).2).2))))]))),(.rows 43 true t_pib h4)],0,[]⟩:St))) none) none) none) none) (some ((.exit 0),(⟨(.junk::.junk::(.ptr 0 0 1 0)::(.ptr 1 0 1 0)::jA38),[(.box [(.t true (.int .i64) q0),(.t true (.int .i64) q1),(.t true (.int .i64) q2),(.raw (.slice none 0 0)),(.raw (.slice none 0 0)),(.t true (.int .i64) q5)]),(.box [(.t true (.int .i64) r0),(.t true (.int .i64) r1),(.t true (.int .i64) r2),(.all 2 4),(.all 3 2),(.t true (.int .i64) r5)]),(.rows 48 true tq5 h3),(.rows 43 true t_pib h4)],0,[]⟩:St))))
theorem rdA_sl11Copy_0:RdA G16 (fun _ _=>none) 0 body_sl11Copy_0 S_sl11Copy_0 0 [] (kepts [] [(0,[2,3])]) (ap_sl11Copy_0 ox_sl11Copy_0):=by
 intro d
 kernel_rfl
theorem rdB_sl11Copy_0:∀ d:S_sl11Copy_0.den,(ap_sl11Copy_0 ox_sl11Copy_0) d=(sp_sl11Copy_0 d).opt 0 []:=by
 intro d
 kernel_rfl
noncomputable abbrev say_sl11Copy_0:St→Option Tree:=S_sl11Copy_0.say 0 [] [] (ap_sl11Copy_0 T_sl11Copy_0)
theorem lw_sl11Copy_0:LoopWp Try.prog say_sl11Copy_0 body_sl11Copy_0:=SS.wp2 hlz [] sp_sl11Copy_0 rdA_sl11Copy_0 rdB_sl11Copy_0 _ (fun d=>Runs.ofI2 (step:=sp_sl11Copy_0) (pv_sl11Copy_0 d.2.1.1 d.2.1.2.1 d.2.1.2.2.1 d.2.1.2.2.2.1 d.2.1.2.2.2.2.1 d.2.1.2.2.2.2.2.1 d.2.2.1.1 d.2.2.1.2.1 d.2.2.1.2.2.1 d.2.2.1.2.2.2.2.2.1 d.2.2.2.1.1 d.2.2.2.1.2.1 d.2.2.2.1.2.2.1 d.2.2.2.1.2.2.2.2.2.1) (rl_sl11Copy_0 d.2.1.1 d.2.1.2.1 d.2.1.2.2.1 d.2.1.2.2.2.1 d.2.1.2.2.2.2.1 d.2.1.2.2.2.2.2.1 d.2.2.1.1 d.2.2.1.2.1 d.2.2.1.2.2.1 d.2.2.1.2.2.2.2.2.1 d.2.2.2.1.1 d.2.2.2.1.2.1 d.2.2.2.1.2.2.1 d.2.2.2.1.2.2.2.2.2.1) rfl (d.1.2.2.2.2.1,d.2.2.2.2.1,d.2.2.2.2.2.1))
noncomputable def k1_sl11Copy (a0:Int) (a1:Int) (a2:Int) (a3:List (Int×(Lq1)×Int×List Int)) (a4:LIbe) (a5:Int):=it_sl11Copy_0 (0:Int) a0 a1 a2 a3 a4 a5 (0:Int) (0:Int) (0:Int) (0:Int) a0 a1 a2 a5 ([]:List (Int×(Lq1)×Int×List Int)) (([]:LIbe)++a4)
noncomputable def sl11Copy (a0:Int) (a1:Int) (a2:Int) (a3:List (Int×(Lq1)×Int×List Int)) (a4:LIbe) (a5:Int):Int×Int×Int×(List (Int×(Lq1)×Int×List Int))×(LIbe)×Int:=(a0,a1,a2,((k1_sl11Copy a0 a1 a2 a3 a4 a5).2.1),((k1_sl11Copy a0 a1 a2 a3 a4 a5).2.2),a5)
noncomputable abbrev e_sl11Copy (r:Int×Int×Int×(List (Int×(Lq1)×Int×List Int))×(LIbe)×Int):AV×List AObj:=((.agg [(.t true (.int .i64) r.1),(.t true (.int .i64) r.2.1),(.t true (.int .i64) r.2.2.1),(.t true tq2 r.2.2.2.1),(.t true tq3 r.2.2.2.2.1),(.t true (.int .i64) r.2.2.2.2.2)]),[])
noncomputable abbrev g_sl11Copy:pshsDen P_sl11Copy→AV×List AObj:=fun d=>e_sl11Copy (sl11Copy d.1.1 d.1.2.1 d.1.2.2.1 d.1.2.2.2.1 d.1.2.2.2.2.1 d.1.2.2.2.2.2.1)
noncomputable def q_sl11Copy (a0:Int) (a1:Int) (a2:Int) (a3:List (Int×(Lq1)×Int×List Int)) (a4:LIbe) (a5:Int):Bool:=(decide ((([]:LIbe).length+a4.length)*16≤MAXB))&&((k1_sl11Copy a0 a1 a2 a3 a4 a5).1==0)
noncomputable abbrev pre_sl11Copy:pshsDen P_sl11Copy→Bool:=fun d=>q_sl11Copy d.1.1 d.1.2.1 d.1.2.2.1 d.1.2.2.2.1 d.1.2.2.2.2.1 d.1.2.2.2.2.2.1
noncomputable abbrev L_sl11Copy:Nat→St→Option Tree:=fun b=>match b with | 0=>say_sl11Copy_0 | _=>fun _=>none
theorem run_sl11Copy:RunP true G16 (L_sl11Copy) Try.f62 P_sl11Copy pre_sl11Copy g_sl11Copy:=by
 rintro ⟨⟨a0,⟨a1,⟨a2,⟨a3,⟨a4,⟨a5,_⟩⟩⟩⟩⟩⟩,_⟩ hp
 change q_sl11Copy a0 a1 a2 a3 a4 a5=true at hp
 unfold q_sl11Copy at hp
 refine Eq.trans (b:=(cond (decide ((([]:LIbe).length+a4.length)*16≤MAXB)) (cond ((k1_sl11Copy a0 a1 a2 a3 a4 a5).1==0) (some (e_sl11Copy (a0,a1,a2,((k1_sl11Copy a0 a1 a2 a3 a4 a5).2.1),((k1_sl11Copy a0 a1 a2 a3 a4 a5).2.2),a5))) none) none)) (by kernel_rfl) ?_
 exact (cndA hp fun hp=>(cndT hp fun _h=>rfl))
theorem c_sl11Copy:PContract Try.prog 62 (sumOf P_sl11Copy pre_sl11Copy g_sl11Copy):=pcD true G16 (hl1 (i:=0) (by kernel_rfl) lw_sl11Copy_0) run_sl11Copy
noncomputable def S17:Tab:=Tab.add S16 62 (lift (sumOf P_sl11Copy pre_sl11Copy g_sl11Copy))
noncomputable def QF17:FuncId→Bool:=qadd QF16 62
theorem G17:Good Try.prog tt S17 QF17:=G16.addQ c_sl11Copy (cbl Try.f62) (fun _=>rfl)

noncomputable abbrev P_sl1In:List PSh:=[.t (.int .i64),.t (.int .i64),.t (.int .i64)]
noncomputable def sl1In (a0:Int) (a1:Int) (a2:Int):Bool:=(cond (decide (a0 ≥ a1)) (decide (a0≤a2)) false)
noncomputable abbrev e_sl1In (r:Bool):AV×List AObj:=((.t true .bool r),[])
noncomputable abbrev g_sl1In:pshsDen P_sl1In→AV×List AObj:=fun d=>e_sl1In (sl1In d.1 d.2.1 d.2.2.1)
noncomputable abbrev pre_sl1In:pshsDen P_sl1In→Bool:=fun d=>true
theorem run_sl1In:RunP true G17 (fun _ _=>none) Try.f42 P_sl1In pre_sl1In g_sl1In:=by
 rintro ⟨a0,⟨a1,⟨a2,_⟩⟩⟩ hp
 refine Eq.trans (b:=(cond (decide (a0 ≥ a1)) (some (e_sl1In (decide (a0≤a2)))) (some (e_sl1In false)))) (by kernel_rfl) ?_
 exact (cndG e_sl1In (fun _h=>rfl) (fun _h=>rfl))
theorem c_sl1In:PContract Try.prog 42 (sumOf P_sl1In pre_sl1In g_sl1In):=pcD true G17 hlz run_sl1In
noncomputable def S18:Tab:=Tab.add S17 42 (lift (sumOf P_sl1In pre_sl1In g_sl1In))
noncomputable def QF18:FuncId→Bool:=qadd QF17 42
theorem G18:Good Try.prog tt S18 QF18:=G17.addQ c_sl1In (cbl Try.f42) (fun _=>rfl)

noncomputable abbrev jS16:List Sh:=.junk::.junk::.junk::.junk::.junk::.junk::.junk::.junk::.junk::.junk::.junk::.junk::.junk::.junk::.junk::.junk::[]
noncomputable abbrev u17:=((),(),(),(),(),(),(),(),(),(),(),(),(),(),(),(),())
noncomputable abbrev P_sl11Chosen:List PSh:=[.agg [(.int .i64),(.int .i64),(.int .i64),tq2,tq3,(.int .i64)],.t (.int .i64)]
noncomputable abbrev S_sl11Chosen_0:SS:=⟨(.junk::.t true (.int .i64)::.ptr 0 0 1 0::.junk::.junk::.t true (.int .i64)::jS16),[.box [.t true (.int .i64),.t true (.int .i64),.t true (.int .i64),.t false tq2,.t false tq3,.t true (.int .i64)]]⟩
noncomputable abbrev E_sl11Chosen_0_0:SS:=⟨(.junk::.junk::.junk::.junk::.t true (.int .i64)::jS17),[]⟩
noncomputable abbrev E_sl11Chosen_0_1:SS:=⟨(.junk::jS21),[]⟩
noncomputable def st_sl11Chosen_0 (x1:Int) (x5:Int) (p0:Int) (p1:Int) (p2:Int) (p3:List (Int×(Lq1)×Int×List Int)) (p4:LIbe) (p5:Int):RT S_sl11Chosen_0.den:=(.br (decide (x5<((p4.length:Nat):Int))) (.br (decide (0≤x5∧x5<((p4.length:Nat):Int))) (.br (((p4.getD x5.toNat ((0:Int),false)).1)==x1) (.done .ret E_sl11Chosen_0_0 (((),(),(),(),x5,u18),())) (.next (((),x1,(),(),(),IntKind.wrap .i64 (x5+(1:Int)),u17),((p0,p1,p2,p3,p4,p5,()),())))) .fail) (.done (.exit 0) E_sl11Chosen_0_1 ((u23),())))
noncomputable abbrev V_sl11Chosen_0:=(Int)×(Int)
noncomputable abbrev A_sl11Chosen_0:=Nat×(Int)
noncomputable def fl_sl11Chosen_0:A_sl11Chosen_0:=(99,((0:Int):Int))
noncomputable def ss_sl11Chosen_0 (x1:Int) (x5:Int) (p0:Int) (p1:Int) (p2:Int) (p3:List (Int×(Lq1)×Int×List Int)) (p4:LIbe) (p5:Int):V_sl11Chosen_0 ⊕ A_sl11Chosen_0:=(cond (decide (x5<((p4.length:Nat):Int))) (cond (decide (0≤x5∧x5<((p4.length:Nat):Int))) (cond (((p4.getD x5.toNat ((0:Int),false)).1)==x1) (.inr (0,x5)) (.inl (x1,IntKind.wrap .i64 (x5+(1:Int))))) (.inr fl_sl11Chosen_0)) (.inr (1,((0:Int):Int))))
noncomputable def it_sl11Chosen_0 (x1:Int) (x5:Int) (p0:Int) (p1:Int) (p2:Int) (p3:List (Int×(Lq1)×Int×List Int)) (p4:LIbe) (p5:Int):A_sl11Chosen_0:=itX (fun v:V_sl11Chosen_0=>ss_sl11Chosen_0 v.1 v.2 p0 p1 p2 p3 p4 p5) fl_sl11Chosen_0 (x1,x5)
noncomputable def ct_sl11Chosen_0 (p0:Int) (p1:Int) (p2:Int) (p3:List (Int×(Lq1)×Int×List Int)) (p4:LIbe) (p5:Int) (a:A_sl11Chosen_0):CT:=(.br (a.1==0) (.done .ret E_sl11Chosen_0_0 (((),(),(),(),a.2,u18),())) (.br (a.1==1) (.done (.exit 0) E_sl11Chosen_0_1 ((u23),())) .fail))
noncomputable def T_sl11Chosen_0 (x1:Int) (x5:Int) (p0:Int) (p1:Int) (p2:Int) (p3:List (Int×(Lq1)×Int×List Int)) (p4:LIbe) (p5:Int):CT:=(ct_sl11Chosen_0 p0 p1 p2 p3 p4 p5) (it_sl11Chosen_0 x1 x5 p0 p1 p2 p3 p4 p5)
noncomputable abbrev ap_sl11Chosen_0 {α:Sort _} (f:Int→Int→Int→Int→Int→(List (Int×(Lq1)×Int×List Int))→(LIbe)→Int→α) (d:S_sl11Chosen_0.den):α:=f d.1.2.1 d.1.2.2.2.2.2.1 d.2.1.1 d.2.1.2.1 d.2.1.2.2.1 d.2.1.2.2.2.1 d.2.1.2.2.2.2.1 d.2.1.2.2.2.2.2.1
noncomputable abbrev sp_sl11Chosen_0:S_sl11Chosen_0.den→RT S_sl11Chosen_0.den:=(ap_sl11Chosen_0 st_sl11Chosen_0)
noncomputable def body_sl11Chosen_0:Code:=((loopsIn 0 (bodyOf Try.f43)).getD 0 (0,.skip)).2
noncomputable abbrev pv_sl11Chosen_0 (p0:Int) (p1:Int) (p2:Int) (p3:List (Int×(Lq1)×Int×List Int)) (p4:LIbe) (p5:Int) (v:V_sl11Chosen_0):S_sl11Chosen_0.den:=(((),v.1,(),(),(),v.2,u17),((p0,p1,p2,p3,p4,p5,()),()))
theorem rl_sl11Chosen_0 (p0:Int) (p1:Int) (p2:Int) (p3:List (Int×(Lq1)×Int×List Int)) (p4:LIbe) (p5:Int):(∀ v:V_sl11Chosen_0,(st_sl11Chosen_0 v.1 v.2 p0 p1 p2 p3 p4 p5).val=relS (pv_sl11Chosen_0 p0 p1 p2 p3 p4 p5) (ct_sl11Chosen_0 p0 p1 p2 p3 p4 p5) (ss_sl11Chosen_0 v.1 v.2 p0 p1 p2 p3 p4 p5))∧∀ a:A_sl11Chosen_0,CEnd S_sl11Chosen_0.den ((ct_sl11Chosen_0 p0 p1 p2 p3 p4 p5) a):=⟨fun v=>(relB (relB (relB rfl rfl) rfl) rfl),fun a=>(cendB (cendD (by simp)) (cendB (cendD (by simp)) cendF))⟩
theorem rdA_sl11Chosen_0:RdA G18 (fun _ _=>none) 0 body_sl11Chosen_0 S_sl11Chosen_0 0 [] (kepts [4] [(0,[])]) (fun d=>(sp_sl11Chosen_0 d).opt 0 []):=by
 intro d
 kernel_rfl
noncomputable abbrev say_sl11Chosen_0:St→Option Tree:=S_sl11Chosen_0.say 0 [] [] (ap_sl11Chosen_0 T_sl11Chosen_0)
theorem lw_sl11Chosen_0:LoopWp Try.prog say_sl11Chosen_0 body_sl11Chosen_0:=SS.wp2 hlz [] sp_sl11Chosen_0 rdA_sl11Chosen_0 (fun d=>rfl) _ (fun d=>Runs.ofI2 (step:=sp_sl11Chosen_0) (pv_sl11Chosen_0 d.2.1.1 d.2.1.2.1 d.2.1.2.2.1 d.2.1.2.2.2.1 d.2.1.2.2.2.2.1 d.2.1.2.2.2.2.2.1) (rl_sl11Chosen_0 d.2.1.1 d.2.1.2.1 d.2.1.2.2.1 d.2.1.2.2.2.1 d.2.1.2.2.2.2.1 d.2.1.2.2.2.2.2.1) rfl (d.1.2.1,d.1.2.2.2.2.2.1))
noncomputable def sl11Chosen (a0:Int) (a1:Int) (a2:Int) (a3:List (Int×(Lq1)×Int×List Int)) (a4:LIbe) (a5:Int) (a6:Int):Int:=(cond ((it_sl11Chosen_0 a6 (0:Int) a0 a1 a2 a3 a4 a5).1==0) ((it_sl11Chosen_0 a6 (0:Int) a0 a1 a2 a3 a4 a5).2) (-1:Int))
noncomputable abbrev e_sl11Chosen (r:Int):AV×List AObj:=((.t true (.int .i64) r),[])
noncomputable abbrev g_sl11Chosen:pshsDen P_sl11Chosen→AV×List AObj:=fun d=>e_sl11Chosen (sl11Chosen d.1.1 d.1.2.1 d.1.2.2.1 d.1.2.2.2.1 d.1.2.2.2.2.1 d.1.2.2.2.2.2.1 d.2.1)
noncomputable def q_sl11Chosen (a0:Int) (a1:Int) (a2:Int) (a3:List (Int×(Lq1)×Int×List Int)) (a4:LIbe) (a5:Int) (a6:Int):Bool:=cond ((it_sl11Chosen_0 a6 (0:Int) a0 a1 a2 a3 a4 a5).1==0) true ((it_sl11Chosen_0 a6 (0:Int) a0 a1 a2 a3 a4 a5).1==1)
noncomputable abbrev pre_sl11Chosen:pshsDen P_sl11Chosen→Bool:=fun d=>q_sl11Chosen d.1.1 d.1.2.1 d.1.2.2.1 d.1.2.2.2.1 d.1.2.2.2.2.1 d.1.2.2.2.2.2.1 d.2.1
noncomputable abbrev L_sl11Chosen:Nat→St→Option Tree:=fun b=>match b with | 0=>say_sl11Chosen_0 | _=>fun _=>none
theorem run_sl11Chosen:RunP true G18 (L_sl11Chosen) Try.f43 P_sl11Chosen pre_sl11Chosen g_sl11Chosen:=by
 rintro ⟨⟨a0,⟨a1,⟨a2,⟨a3,⟨a4,⟨a5,_⟩⟩⟩⟩⟩⟩,⟨a6,_⟩⟩ hp
 change q_sl11Chosen a0 a1 a2 a3 a4 a5 a6=true at hp
 unfold q_sl11Chosen at hp
 refine Eq.trans (b:=(cond ((it_sl11Chosen_0 a6 (0:Int) a0 a1 a2 a3 a4 a5).1==0) (some (e_sl11Chosen ((it_sl11Chosen_0 a6 (0:Int) a0 a1 a2 a3 a4 a5).2))) (cond ((it_sl11Chosen_0 a6 (0:Int) a0 a1 a2 a3 a4 a5).1==1) (some (e_sl11Chosen (-1:Int))) none))) (by kernel_rfl) ?_
 exact (cndE e_sl11Chosen hp (fun hp=>rfl) (fun hp=>(cndT hp fun _h=>rfl)))
theorem c_sl11Chosen:PContract Try.prog 43 (sumOf P_sl11Chosen pre_sl11Chosen g_sl11Chosen):=pcD true G18 (hl1 (i:=0) (by kernel_rfl) lw_sl11Chosen_0) run_sl11Chosen
noncomputable def S19:Tab:=Tab.add S18 43 (lift (sumOf P_sl11Chosen pre_sl11Chosen g_sl11Chosen))
noncomputable def QF19:FuncId→Bool:=qadd QF18 43
theorem G19:Good Try.prog tt S19 QF19:=G18.addQ c_sl11Chosen (cbl Try.f43) (fun _=>rfl)

noncomputable abbrev jS23:List Sh:=.junk::jS22
noncomputable abbrev jS24:List Sh:=.junk::jS23
noncomputable abbrev jS26:List Sh:=.junk::jS25
noncomputable abbrev u25:=((),u24)
noncomputable abbrev u27:=((),u26)
noncomputable def sKeyAt (s:ByteArray) (i:Nat):Bool:=sl1In (IntKind.wrap .i64 (bt s (i:Int))) 97 122||sl1In (IntKind.wrap .i64 (bt s (i:Int))) 48 57
noncomputable abbrev P_sKeyOk:List PSh:=[.t .str]
noncomputable abbrev S_sKeyOk_0:SS:=⟨(.t true .str::.junk::.junk::.t true (.int .i64)::jS23),[]⟩
noncomputable abbrev E_sKeyOk_0_0:SS:=⟨(.junk::.junk::.t true .bool::jS24),[]⟩
noncomputable abbrev E_sKeyOk_0_1:SS:=⟨(.t true .str::jS26),[]⟩
noncomputable def st_sKeyOk_0 (x0:ByteArray) (x3:Int):RT S_sKeyOk_0.den:=(.br (decide (x3<((x0.size:Nat):Int))) (.br (decide (0≤x3∧x3<((x0.size:Nat):Int))) (.br (!(sl1In (IntKind.wrap .i64 (bt x0 x3)) (97:Int) (122:Int))) (.br (decide (0≤x3∧x3<((x0.size:Nat):Int))) (.br (!(sl1In (IntKind.wrap .i64 (bt x0 x3)) (48:Int) (57:Int))) (.done .ret E_sKeyOk_0_0 (((),(),false,u25),())) (.next ((x0,(),(),IntKind.wrap .i64 (x3+(1:Int)),u24),()))) .fail) (.next ((x0,(),(),IntKind.wrap .i64 (x3+(1:Int)),u24),()))) .fail) (.done (.exit 0) E_sKeyOk_0_1 ((x0,u27),())))
noncomputable def T_sKeyOk_0 (x0:ByteArray) (x3:Int):CT:=(.br (decide (0≤x3)&&okS x0) (.br (allF (sKeyAt x0) (x0.size - x3.toNat) x3.toNat) (.done (.exit 0) E_sKeyOk_0_1 ((x0,u27),())) (.done .ret E_sKeyOk_0_0 (((),(),false,u25),()))) .fail)
noncomputable abbrev sp_sKeyOk_0:S_sKeyOk_0.den→RT S_sKeyOk_0.den:=(fun d=>st_sKeyOk_0 d.1.1 d.1.2.2.2.1)
noncomputable abbrev pk_sKeyOk_0 (x0:ByteArray) (x3:Int):S_sKeyOk_0.den:=((x0,(),(),x3,u24),())
noncomputable def body_sKeyOk_0:Code:=((loopsIn 0 (bodyOf Try.f144)).getD 0 (0,.skip)).2
theorem R_sKeyOk_0 (x0:ByteArray) (x3:Int):(T_sKeyOk_0 x0 x3).val (D:=S_sKeyOk_0.den)=.fail∨Runs sp_sKeyOk_0 (pk_sKeyOk_0 x0 x3) (T_sKeyOk_0 x0 x3).val:=by
 cases hc:(decide (0≤x3)&&okS x0) with
 | false=>left;simp only [T_sKeyOk_0,CT.val,hc,cond_false]
 | true =>
  right
  simp only [T_sKeyOk_0,CT.val,hc,cond_true]
  simp only [Bool.and_eq_true,decide_eq_true_eq] at hc
  obtain ⟨i,rfl⟩:=Int.eq_ofNat_of_zero_le hc.1
  have hs:=okS_le hc.2
  simp only [Int.toNat_natCast]
  refine Runs.scan (fun j=>pk_sKeyOk_0 x0 (j:Int)) (x0.size) (sKeyAt x0) (fun i hi=>?_) (fun i hi=>?_) ⟨_,_,_,rfl,by simp⟩ ⟨_,_,_,rfl,by simp⟩ _ _ rfl
  ·
   have h0a:decide ((i:Int)<((x0.size:Nat):Int))=true:=decide_eq_true (by omega)
   have h0b:decide (0≤(i:Int)∧(i:Int)<((x0.size:Nat):Int))=true:=decide_eq_true (by omega)
   simp only [sp_sKeyOk_0,st_sKeyOk_0,RT.val,h0a,h0b,cond_true,wrapS i (by omega),Int.toNat_natCast]
   simp only [sKeyAt]
   cases sl1In (IntKind.wrap .i64 (bt x0 (i:Int))) 97 122<;>cases sl1In (IntKind.wrap .i64 (bt x0 (i:Int))) 48 57<;>rfl
  ·have h1:decide ((i:Int)<((x0.size:Nat):Int))=false:=decide_eq_false (by omega)
   simp only [sp_sKeyOk_0,st_sKeyOk_0,RT.val,h1,cond_false]
theorem rdA_sKeyOk_0:RdA G19 (fun _ _=>none) 0 body_sKeyOk_0 S_sKeyOk_0 0 [] (kepts [2] [(0,[0])]) (fun d=>(sp_sKeyOk_0 d).opt 0 []):=by
 intro d
 kernel_rfl
noncomputable abbrev say_sKeyOk_0:St→Option Tree:=S_sKeyOk_0.say 0 [] [] (fun d=>T_sKeyOk_0 d.1.1 d.1.2.2.2.1)
theorem lw_sKeyOk_0:LoopWp Try.prog say_sKeyOk_0 body_sKeyOk_0:=SS.wp2 hlz [] sp_sKeyOk_0 rdA_sKeyOk_0 (fun d=>rfl) _ (fun d=>R_sKeyOk_0 d.1.1 d.1.2.2.2.1)
noncomputable def sKeyOk (a0:ByteArray):Bool:=(cond (allF (sKeyAt a0) (a0.size - (0:Int).toNat) (0:Int).toNat) (sl1In ((a0.size:Nat):Int) (1:Int) (12:Int)) false)
noncomputable abbrev e_sKeyOk (r:Bool):AV×List AObj:=((.t true .bool r),[])
noncomputable abbrev g_sKeyOk:pshsDen P_sKeyOk→AV×List AObj:=fun d=>e_sKeyOk (sKeyOk d.1)
noncomputable def q_sKeyOk (a0:ByteArray):Bool:=okS a0
noncomputable abbrev pre_sKeyOk:pshsDen P_sKeyOk→Bool:=fun d=>q_sKeyOk d.1
noncomputable abbrev L_sKeyOk:Nat→St→Option Tree:=fun b=>match b with | 0=>say_sKeyOk_0 | _=>fun _=>none
theorem run_sKeyOk:RunP true G19 (L_sKeyOk) Try.f144 P_sKeyOk pre_sKeyOk g_sKeyOk:=by
 rintro ⟨a0,_⟩ hp
 change q_sKeyOk a0=true at hp
 unfold q_sKeyOk at hp
 refine Eq.trans (b:=(cond (decide (0≤(0:Int))&&okS a0) (cond (allF (sKeyAt a0) (a0.size - (0:Int).toNat) (0:Int).toNat) (some (e_sKeyOk (sl1In ((a0.size:Nat):Int) (1:Int) (12:Int)))) (some (e_sKeyOk false))) none)) (by kernel_rfl) ?_
 exact (cndT (by first | rfl | decide | exact hp | (simp only [Bool.and_eq_true] at hp;simp only [hp];done) | (simp [*];done) | (simp [okL] at hp;simp [okL,MAXB];omega) | (simp_all;done) | (simp at *;omega)) (fun _h=>(cndG e_sKeyOk (fun _h=>rfl) (fun _h=>rfl))))
theorem c_sKeyOk:PContract Try.prog 144 (sumOf P_sKeyOk pre_sKeyOk g_sKeyOk):=pcD true G19 (hl1 (i:=0) (by kernel_rfl) lw_sKeyOk_0) run_sKeyOk
noncomputable def S20:Tab:=Tab.add S19 144 (lift (sumOf P_sKeyOk pre_sKeyOk g_sKeyOk))
noncomputable def QF20:FuncId→Bool:=qadd QF19 144
theorem G20:Good Try.prog tt S20 QF20:=G19.addQ c_sKeyOk (cbl Try.f144) (fun _=>rfl)

noncomputable abbrev P_sl7Op:List PSh:=[.agg [(.int .i64),.str,.str]]
noncomputable def sl7Op (a0:Int) (a1:ByteArray) (a2:ByteArray):Bool:=(cond (!(sl1In a0 (1:Int) (3:Int))) false (cond (a0==(2:Int)) (cond (!(a2.toList==bE.toList)) false (cond (sKeyOk a1) (decide (((a2.size:Nat):Int)≤(20:Int))) false)) (cond (sKeyOk a1) (decide (((a2.size:Nat):Int)≤(20:Int))) false)))
noncomputable abbrev e_sl7Op (r:Bool):AV×List AObj:=((.t true .bool r),[])
noncomputable abbrev g_sl7Op:pshsDen P_sl7Op→AV×List AObj:=fun d=>e_sl7Op (sl7Op d.1.1 d.1.2.1 d.1.2.2.1)
noncomputable def q_sl7Op (a0:Int) (a1:ByteArray) (a2:ByteArray):Bool:=okS a1
noncomputable abbrev pre_sl7Op:pshsDen P_sl7Op→Bool:=fun d=>q_sl7Op d.1.1 d.1.2.1 d.1.2.2.1
theorem run_sl7Op:RunP true G20 (fun _ _=>none) Try.f120 P_sl7Op pre_sl7Op g_sl7Op:=by
 rintro ⟨⟨a0,⟨a1,⟨a2,_⟩⟩⟩,_⟩ hp
 change q_sl7Op a0 a1 a2=true at hp
 unfold q_sl7Op at hp
 refine Eq.trans (b:=(cond (!(sl1In a0 (1:Int) (3:Int))) (some (e_sl7Op false)) (cond (a0==(2:Int)) (cond (!(a2.toList==(⟨#[]⟩:ByteArray).toList)) (some (e_sl7Op false)) (cond (q_sKeyOk a1) (cond (sKeyOk a1) (some (e_sl7Op (decide (((a2.size:Nat):Int)≤(20:Int))))) (some (e_sl7Op false))) none)) (cond (q_sKeyOk a1) (cond (sKeyOk a1) (some (e_sl7Op (decide (((a2.size:Nat):Int)≤(20:Int))))) (some (e_sl7Op false))) none)))) (by kernel_rfl) ?_
 exact (cndG e_sl7Op (fun _h=>rfl) (fun _h=>(cndG e_sl7Op (fun _h=>(cndG e_sl7Op (fun _h=>rfl) (fun _h=>(cndT (by first | rfl | decide | exact hp | (simp only [Bool.and_eq_true] at hp;simp only [hp];done) | (simp [*];done) | (simp [okL] at hp;simp [okL,MAXB];omega) | (simp_all;done) | (simp at *;omega)) (fun _h=>(cndG e_sl7Op (fun _h=>rfl) (fun _h=>rfl))))))) (fun _h=>(cndT (by first | rfl | decide | exact hp | (simp only [Bool.and_eq_true] at hp;simp only [hp];done) | (simp [*];done) | (simp [okL] at hp;simp [okL,MAXB];omega) | (simp_all;done) | (simp at *;omega)) (fun _h=>(cndG e_sl7Op (fun _h=>rfl) (fun _h=>rfl))))))))
theorem c_sl7Op:PContract Try.prog 120 (sumOf P_sl7Op pre_sl7Op g_sl7Op):=pcD true G20 hlz run_sl7Op
noncomputable def S21:Tab:=Tab.add S20 120 (lift (sumOf P_sl7Op pre_sl7Op g_sl7Op))
noncomputable def QF21:FuncId→Bool:=qadd QF20 120
theorem G21:Good Try.prog tt S21 QF21:=G20.addQ c_sl7Op (cbl Try.f120) (fun _=>rfl)

noncomputable abbrev jS33:List Sh:=.junk::.junk::.junk::.junk::.junk::.junk::.junk::jS26
noncomputable abbrev jS34:List Sh:=.junk::jS33
noncomputable abbrev jS36:List Sh:=.junk::.junk::jS34
noncomputable abbrev u35:=((),(),(),(),(),(),(),(),u27)
noncomputable abbrev u34:=((),(),(),(),(),(),(),u27)
noncomputable abbrev u37:=((),(),u35)
noncomputable abbrev jA34:List AV:=.junk::.junk::.junk::.junk::.junk::.junk::.junk::.junk::.junk::.junk::.junk::.junk::.junk::.junk::.junk::.junk::.junk::.junk::.junk::.junk::.junk::.junk::.junk::.junk::.junk::.junk::.junk::.junk::.junk::.junk::.junk::.junk::.junk::.junk::[]
noncomputable abbrev jA33:List AV:=.junk::.junk::.junk::.junk::.junk::.junk::.junk::.junk::.junk::.junk::.junk::.junk::.junk::.junk::.junk::.junk::.junk::.junk::.junk::.junk::.junk::.junk::.junk::.junk::.junk::.junk::.junk::.junk::.junk::.junk::.junk::.junk::.junk::[]
noncomputable abbrev jA36:List AV:=.junk::.junk::jA34
noncomputable def sOpAt (l:Lq1) (i:Nat):Bool:=sl7Op (l.getD i dOp).1 (l.getD i dOp).2.1 (l.getD i dOp).2.2&&(decide (i=0)||Op.bytesLess (l.getD (i - 1) dOp).2.1.toList (l.getD i dOp).2.1.toList)
noncomputable abbrev P_sOpsOk:List PSh:=[.t tq4]
noncomputable abbrev S_sOpsOk_0:SS:=⟨(.t false tq4::.junk::.junk::.t true (.int .i64)::jS33),[]⟩
noncomputable abbrev E_sOpsOk_0_0:SS:=⟨(.junk::.junk::.t true .bool::jS34),[]⟩
noncomputable abbrev E_sOpsOk_0_1:SS:=⟨(.t false tq4::jS36),[]⟩
noncomputable def st_sOpsOk_0 (x0:Lq1) (x3:Int):RT S_sOpsOk_0.den:=(.br (decide (x3<((x0.length:Nat):Int))) (.br (decide (0≤x3∧x3<((x0.length:Nat):Int))) (.br (q_sl7Op ((x0.getD x3.toNat ((0:Int),(bE,bE))).1) (((x0.getD x3.toNat ((0:Int),(bE,bE))).2).1) (((x0.getD x3.toNat ((0:Int),(bE,bE))).2).2)) (.br (!(sl7Op ((x0.getD x3.toNat ((0:Int),(bE,bE))).1) (((x0.getD x3.toNat ((0:Int),(bE,bE))).2).1) (((x0.getD x3.toNat ((0:Int),(bE,bE))).2).2))) (.done .ret E_sOpsOk_0_0 (((),(),false,u35),())) (.br (decide (x3 > (0:Int))) (.br (decide (0≤(IntKind.wrap .i64 (x3 - (1:Int)))∧(IntKind.wrap .i64 (x3 - (1:Int)))<((x0.length:Nat):Int))) (.br (decide (0≤x3∧x3<((x0.length:Nat):Int))) (.br (!(Op.bytesLess (((x0.getD ((IntKind.wrap .i64 (x3 - (1:Int))).toNat) ((0:Int),(bE,bE))).2).1).toList (((x0.getD x3.toNat ((0:Int),(bE,bE))).2).1).toList)) (.done .ret E_sOpsOk_0_0 (((),(),false,u35),())) (.next ((x0,(),(),IntKind.wrap .i64 (x3+(1:Int)),u34),()))) .fail) .fail) (.next ((x0,(),(),IntKind.wrap .i64 (x3+(1:Int)),u34),())))) .fail) .fail) (.done (.exit 0) E_sOpsOk_0_1 ((x0,u37),())))
noncomputable def T_sOpsOk_0 (x0:Lq1) (x3:Int):CT:=(.br (decide (0≤x3)&&okOps x0) (.br (allF (sOpAt x0) (x0.length - x3.toNat) x3.toNat) (.done (.exit 0) E_sOpsOk_0_1 ((x0,u37),())) (.done .ret E_sOpsOk_0_0 (((),(),false,u35),()))) .fail)
noncomputable abbrev sp_sOpsOk_0:S_sOpsOk_0.den→RT S_sOpsOk_0.den:=(fun d=>st_sOpsOk_0 d.1.1 d.1.2.2.2.1)
noncomputable abbrev pk_sOpsOk_0 (x0:Lq1) (x3:Int):S_sOpsOk_0.den:=((x0,(),(),x3,u34),())
noncomputable def body_sOpsOk_0:Code:=((loopsIn 0 (bodyOf Try.f86)).getD 0 (0,.skip)).2
theorem R_sOpsOk_0 (x0:Lq1) (x3:Int):(T_sOpsOk_0 x0 x3).val (D:=S_sOpsOk_0.den)=.fail∨Runs sp_sOpsOk_0 (pk_sOpsOk_0 x0 x3) (T_sOpsOk_0 x0 x3).val:=by
 cases hc:(decide (0≤x3)&&okOps x0) with
 | false=>left;simp only [T_sOpsOk_0,CT.val,hc,cond_false]
 | true =>
  right
  simp only [T_sOpsOk_0,CT.val,hc,cond_true]
  simp only [Bool.and_eq_true,decide_eq_true_eq] at hc
  obtain ⟨i,rfl⟩:=Int.eq_ofNat_of_zero_le hc.1
  have hs:=okOps_len hc.2
  simp only [Int.toNat_natCast]
  refine Runs.scan (fun j=>pk_sOpsOk_0 x0 (j:Int)) (x0.length) (sOpAt x0) (fun i hi=>?_) (fun i hi=>?_) ⟨_,_,_,rfl,by simp⟩ ⟨_,_,_,rfl,by simp⟩ _ _ rfl
  ·
   have h0a:decide ((i:Int)<((x0.length:Nat):Int))=true:=decide_eq_true (by omega)
   have h0b:decide (0≤(i:Int)∧(i:Int)<((x0.length:Nat):Int))=true:=decide_eq_true (by omega)
   simp only [sp_sOpsOk_0,st_sOpsOk_0,RT.val,h0a,h0b,cond_true,wrapS i (by omega),Int.toNat_natCast]
   have hq:q_sl7Op (x0.getD i dOp).1 (x0.getD i dOp).2.1 (x0.getD i dOp).2.2=true:=(okOps_at hc.2 i hi).1
   simp only [dOp] at hq
   simp only [hq,cond_true,sOpAt,dOp]
   cases sl7Op (x0.getD i ((0:Int),((⟨#[]⟩:ByteArray),(⟨#[]⟩:ByteArray)))).1 (x0.getD i ((0:Int),((⟨#[]⟩:ByteArray),(⟨#[]⟩:ByteArray)))).2.1 (x0.getD i ((0:Int),((⟨#[]⟩:ByteArray),(⟨#[]⟩:ByteArray)))).2.2 with
   | false=>rfl
   | true =>
    cases i with
    | zero=>rfl
    | succ i =>
     have h3:decide (((i+1:Nat):Int) > 0)=true:=decide_eq_true (by omega)
     have h4:IntKind.wrap .i64 (((i+1:Nat):Int) - 1)=(i:Int):=by have:=wrap64 (n:=((i+1:Nat):Int) - 1) (by omega) (by omega);omega
     have h5:decide (0≤(i:Int)∧(i:Int)<((x0.length:Nat):Int))=true:=decide_eq_true (by omega)
     have h6:decide (i+1=0)=false:=by simp
     simp only [h3,h4,h5,h6,cond_true,Bool.true_and,Bool.false_or,Int.toNat_natCast,Nat.add_sub_cancel,Bool.not_true,cond_false]
     cases Op.bytesLess (x0.getD i ((0:Int),((⟨#[]⟩:ByteArray),(⟨#[]⟩:ByteArray)))).2.1.toList (x0.getD (i+1) ((0:Int),((⟨#[]⟩:ByteArray),(⟨#[]⟩:ByteArray)))).2.1.toList<;>rfl
  ·have h1:decide ((i:Int)<((x0.length:Nat):Int))=false:=decide_eq_false (by omega)
   simp only [sp_sOpsOk_0,st_sOpsOk_0,RT.val,h1,cond_false]
noncomputable def ox_sOpsOk_0 (x0:Lq1) (x3:Int):Option (Ex×St):=(cond (decide (x3<((x0.length:Nat):Int))) (cond (decide (0≤x3∧x3<((x0.length:Nat):Int))) (cond (q_sl7Op ((x0.getD x3.toNat ((0:Int),(bE,bE))).1) (((x0.getD x3.toNat ((0:Int),(bE,bE))).2).1) (((x0.getD x3.toNat ((0:Int),(bE,bE))).2).2)) (cond (!(sl7Op ((x0.getD x3.toNat ((0:Int),(bE,bE))).1) (((x0.getD x3.toNat ((0:Int),(bE,bE))).2).1) (((x0.getD x3.toNat ((0:Int),(bE,bE))).2).2))) (some (.ret,(⟨(.junk::.junk::(.t true .bool false)::jA34),[],0,[]⟩:St))) (cond (decide (x3 > (0:Int))) (cond (decide (0≤(IntKind.wrap .i64 (x3 - (1:Int)))∧(IntKind.wrap .i64 (x3 - (1:Int)))<((x0.length:Nat):Int))) (cond (decide (0≤x3∧x3<((x0.length:Nat):Int))) (cond (!(Op.bytesLess (((x0.getD ((IntKind.wrap .i64 (x3 - (1:Int))).toNat) ((0:Int),(bE,bE))).2).1).toList (((x0.getD x3.toNat ((0:Int),(bE,bE))).2).1).toList)) (some (.ret,(⟨(.junk::.junk::(.t true .bool false)::jA34),[],0,[]⟩:St))) (some (.normal,(⟨((.t false tq4 x0)::.junk::.junk::(.t true (.int .i64) (IntKind.wrap .i64 (x3+(1:Int))))::jA33),[],0,[]⟩:St)))) none) none) (some (.normal,(⟨((.t false tq4 x0)::.junk::.junk::(.t true (.int .i64) (IntKind.wrap .i64 (x3+(1:Int))))::jA33),[],0,[]⟩:St))))) none) none) (some ((.exit 0),(⟨((.t false tq4 x0)::jA36),[],0,[]⟩:St))))
theorem rdA_sOpsOk_0:RdA G21 (fun _ _=>none) 0 body_sOpsOk_0 S_sOpsOk_0 0 [] (kepts [2] [(0,[0])]) (fun d=>ox_sOpsOk_0 d.1.1 d.1.2.2.2.1):=by
 intro d
 kernel_rfl
theorem rdB_sOpsOk_0:∀ d:S_sOpsOk_0.den,(fun d=>ox_sOpsOk_0 d.1.1 d.1.2.2.2.1) d=(sp_sOpsOk_0 d).opt 0 []:=by
 intro d
 kernel_rfl
noncomputable abbrev say_sOpsOk_0:St→Option Tree:=S_sOpsOk_0.say 0 [] [] (fun d=>T_sOpsOk_0 d.1.1 d.1.2.2.2.1)
theorem lw_sOpsOk_0:LoopWp Try.prog say_sOpsOk_0 body_sOpsOk_0:=SS.wp2 hlz [] sp_sOpsOk_0 rdA_sOpsOk_0 rdB_sOpsOk_0 _ (fun d=>R_sOpsOk_0 d.1.1 d.1.2.2.2.1)
noncomputable def sOpsOk (a0:Lq1):Bool:=(cond (allF (sOpAt a0) (a0.length - (0:Int).toNat) (0:Int).toNat) (sl1In ((a0.length:Nat):Int) (1:Int) (8:Int)) false)
noncomputable abbrev e_sOpsOk (r:Bool):AV×List AObj:=((.t true .bool r),[])
noncomputable abbrev g_sOpsOk:pshsDen P_sOpsOk→AV×List AObj:=fun d=>e_sOpsOk (sOpsOk d.1)
noncomputable def q_sOpsOk (a0:Lq1):Bool:=okOps a0
noncomputable abbrev pre_sOpsOk:pshsDen P_sOpsOk→Bool:=fun d=>q_sOpsOk d.1
noncomputable abbrev L_sOpsOk:Nat→St→Option Tree:=fun b=>match b with | 0=>say_sOpsOk_0 | _=>fun _=>none
theorem run_sOpsOk:RunP true G21 (L_sOpsOk) Try.f86 P_sOpsOk pre_sOpsOk g_sOpsOk:=by
 rintro ⟨a0,_⟩ hp
 change q_sOpsOk a0=true at hp
 unfold q_sOpsOk at hp
 refine Eq.trans (b:=(cond (decide (0≤(0:Int))&&okOps a0) (cond (allF (sOpAt a0) (a0.length - (0:Int).toNat) (0:Int).toNat) (some (e_sOpsOk (sl1In ((a0.length:Nat):Int) (1:Int) (8:Int)))) (some (e_sOpsOk false))) none)) (by kernel_rfl) ?_
 exact (cndT (by first | rfl | decide | exact hp | (simp only [Bool.and_eq_true] at hp;simp only [hp];done) | (simp [*];done) | (simp [okL] at hp;simp [okL,MAXB];omega) | (simp_all;done) | (simp at *;omega)) (fun _h=>(cndG e_sOpsOk (fun _h=>rfl) (fun _h=>rfl))))
theorem c_sOpsOk:PContract Try.prog 86 (sumOf P_sOpsOk pre_sOpsOk g_sOpsOk):=pcD true G21 (hl1 (i:=0) (by kernel_rfl) lw_sOpsOk_0) run_sOpsOk
noncomputable def S22:Tab:=Tab.add S21 86 (lift (sumOf P_sOpsOk pre_sOpsOk g_sOpsOk))
noncomputable def QF22:FuncId→Bool:=qadd QF21 86
theorem G22:Good Try.prog tt S22 QF22:=G21.addQ c_sOpsOk (cbl Try.f86) (fun _=>rfl)

noncomputable abbrev jS15:List Sh:=.junk::.junk::.junk::.junk::.junk::.junk::.junk::.junk::.junk::.junk::.junk::.junk::.junk::.junk::.junk::[]
noncomputable abbrev u16:=((),(),(),(),(),(),(),(),(),(),(),(),(),(),(),())
noncomputable abbrev P_sHash:List PSh:=[.t .str]
noncomputable abbrev S_sHash_0:SS:=⟨(.t true .str::.junk::.junk::.t true (.int .i64)::.t true (.int .i64)::jS15),[]⟩
noncomputable abbrev E_sHash_0_0:SS:=⟨(.junk::.junk::.junk::.t true (.int .i64)::jS16),[]⟩
noncomputable def st_sHash_0 (x0:ByteArray) (x3:Int) (x4:Int):RT S_sHash_0.den:=(.br (decide (x4<((x0.size:Nat):Int))) (.br (decide (0≤x4∧x4<((x0.size:Nat):Int))) (.next ((x0,(),(),iand .i64 (IntKind.wrap .i64 ((ixor .i64 x3 (IntKind.wrap .i64 (bt x0 x4)))*(16777619:Int))) (4294967295:Int),IntKind.wrap .i64 (x4+(1:Int)),u16),())) .fail) (.done (.exit 0) E_sHash_0_0 (((),(),(),x3,u17),())))
noncomputable abbrev V_sHash_0:=(ByteArray)×(Int)×(Int)
noncomputable abbrev A_sHash_0:=Nat×(Int)
noncomputable def fl_sHash_0:A_sHash_0:=(99,((0:Int):Int))
noncomputable def ss_sHash_0 (x0:ByteArray) (x3:Int) (x4:Int):V_sHash_0 ⊕ A_sHash_0:=(cond (decide (x4<((x0.size:Nat):Int))) (cond (decide (0≤x4∧x4<((x0.size:Nat):Int))) (.inl (x0,iand .i64 (IntKind.wrap .i64 ((ixor .i64 x3 (IntKind.wrap .i64 (bt x0 x4)))*(16777619:Int))) (4294967295:Int),IntKind.wrap .i64 (x4+(1:Int)))) (.inr fl_sHash_0)) (.inr (0,x3)))
noncomputable def it_sHash_0 (x0:ByteArray) (x3:Int) (x4:Int):A_sHash_0:=itX (fun v:V_sHash_0=>ss_sHash_0 v.1 v.2.1 v.2.2) fl_sHash_0 (x0,x3,x4)
noncomputable def ct_sHash_0 (a:A_sHash_0):CT:=(.br (a.1==0) (.done (.exit 0) E_sHash_0_0 (((),(),(),a.2,u17),())) .fail)
noncomputable def T_sHash_0 (x0:ByteArray) (x3:Int) (x4:Int):CT:=ct_sHash_0 (it_sHash_0 x0 x3 x4)
noncomputable abbrev sp_sHash_0:S_sHash_0.den→RT S_sHash_0.den:=(fun d=>st_sHash_0 d.1.1 d.1.2.2.2.1 d.1.2.2.2.2.1)
noncomputable def body_sHash_0:Code:=((loopsIn 0 (bodyOf Try.f145)).getD 0 (0,.skip)).2
noncomputable abbrev pv_sHash_0 (v:V_sHash_0):S_sHash_0.den:=((v.1,(),(),v.2.1,v.2.2,u16),())
theorem rl_sHash_0:(∀ v:V_sHash_0,(st_sHash_0 v.1 v.2.1 v.2.2).val=relS pv_sHash_0 ct_sHash_0 (ss_sHash_0 v.1 v.2.1 v.2.2))∧∀ a:A_sHash_0,CEnd S_sHash_0.den (ct_sHash_0 a):=⟨fun v=>(relB (relB rfl rfl) rfl),fun a=>(cendB (cendD (by simp)) cendF)⟩
theorem rdA_sHash_0:RdA G22 (fun _ _=>none) 0 body_sHash_0 S_sHash_0 0 [] (kepts [] [(0,[3])]) (fun d=>(sp_sHash_0 d).opt 0 []):=by
 intro d
 kernel_rfl
noncomputable abbrev say_sHash_0:St→Option Tree:=S_sHash_0.say 0 [] [] (fun d=>T_sHash_0 d.1.1 d.1.2.2.2.1 d.1.2.2.2.2.1)
theorem lw_sHash_0:LoopWp Try.prog say_sHash_0 body_sHash_0:=SS.wp2 hlz [] sp_sHash_0 rdA_sHash_0 (fun d=>rfl) _ (fun d=>Runs.ofI2 (step:=sp_sHash_0) pv_sHash_0 rl_sHash_0 rfl (d.1.1,d.1.2.2.2.1,d.1.2.2.2.2.1))
noncomputable def sHash (a0:ByteArray):Int:=((it_sHash_0 a0 (2166136261:Int) (0:Int)).2)
noncomputable abbrev e_sHash (r:Int):AV×List AObj:=((.t true (.int .i64) r),[])
noncomputable abbrev g_sHash:pshsDen P_sHash→AV×List AObj:=fun d=>e_sHash (sHash d.1)
noncomputable def q_sHash (a0:ByteArray):Bool:=((it_sHash_0 a0 (2166136261:Int) (0:Int)).1==0)
noncomputable abbrev pre_sHash:pshsDen P_sHash→Bool:=fun d=>q_sHash d.1
noncomputable abbrev L_sHash:Nat→St→Option Tree:=fun b=>match b with | 0=>say_sHash_0 | _=>fun _=>none
theorem run_sHash:RunP true G22 (L_sHash) Try.f145 P_sHash pre_sHash g_sHash:=by
 rintro ⟨a0,_⟩ hp
 change q_sHash a0=true at hp
 unfold q_sHash at hp
 refine Eq.trans (b:=(cond ((it_sHash_0 a0 (2166136261:Int) (0:Int)).1==0) (some (e_sHash ((it_sHash_0 a0 (2166136261:Int) (0:Int)).2))) none)) (by kernel_rfl) ?_
 exact (cndT hp fun _h=>rfl)
theorem c_sHash:PContract Try.prog 145 (sumOf P_sHash pre_sHash g_sHash):=pcD true G22 (hl1 (i:=0) (by kernel_rfl) lw_sHash_0) run_sHash
noncomputable def S23:Tab:=Tab.add S22 145 (lift (sumOf P_sHash pre_sHash g_sHash))
noncomputable def QF23:FuncId→Bool:=qadd QF22 145
theorem G23:Good Try.prog tt S23 QF23:=G22.addQ c_sHash (cbl Try.f145) (fun _=>rfl)

noncomputable abbrev P_sShardOf:List PSh:=[.t .str,.t (.int .i64)]
noncomputable def sShardOf (a0:ByteArray) (a1:Int):Int:=(cond (decide (a1<(1:Int))) (0:Int) (Int.tmod (sHash a0) a1))
noncomputable abbrev e_sShardOf (r:Int):AV×List AObj:=((.t true (.int .i64) r),[])
noncomputable abbrev g_sShardOf:pshsDen P_sShardOf→AV×List AObj:=fun d=>e_sShardOf (sShardOf d.1 d.2.1)
noncomputable def q_sShardOf (a0:ByteArray) (a1:Int):Bool:=cond (decide (a1<(1:Int))) true ((q_sHash a0)&&(decide (a1 ≠ 0)))
noncomputable abbrev pre_sShardOf:pshsDen P_sShardOf→Bool:=fun d=>q_sShardOf d.1 d.2.1
theorem run_sShardOf:RunP true G23 (fun _ _=>none) Try.f121 P_sShardOf pre_sShardOf g_sShardOf:=by
 rintro ⟨a0,⟨a1,_⟩⟩ hp
 change q_sShardOf a0 a1=true at hp
 unfold q_sShardOf at hp
 refine Eq.trans (b:=(cond (decide (a1<(1:Int))) (some (e_sShardOf (0:Int))) (cond (q_sHash a0) (cond (decide (a1 ≠ 0)) (some (e_sShardOf (Int.tmod (sHash a0) a1))) none) none))) (by kernel_rfl) ?_
 exact (cndE e_sShardOf hp (fun hp=>rfl) (fun hp=>(cndA hp fun hp=>(cndT hp fun _h=>rfl))))
theorem c_sShardOf:PContract Try.prog 121 (sumOf P_sShardOf pre_sShardOf g_sShardOf):=pcD true G23 hlz run_sShardOf
noncomputable def S24:Tab:=Tab.add S23 121 (lift (sumOf P_sShardOf pre_sShardOf g_sShardOf))
noncomputable def QF24:FuncId→Bool:=qadd QF23 121
theorem G24:Good Try.prog tt S24 QF24:=G23.addQ c_sShardOf (cbl Try.f121) (fun _=>rfl)

noncomputable abbrev jS12:List Sh:=.junk::.junk::.junk::.junk::.junk::.junk::.junk::.junk::.junk::.junk::.junk::.junk::[]
noncomputable abbrev jS13:List Sh:=.junk::jS12
noncomputable abbrev u14:=((),(),(),(),(),(),(),(),(),(),(),(),(),())
noncomputable abbrev u13:=((),(),(),(),(),(),(),(),(),(),(),(),())
noncomputable abbrev P_sl7Has:List PSh:=[.t t_si,.t (.int .i64)]
noncomputable abbrev S_sl7Has_0:SS:=⟨(.t false t_si::.t true (.int .i64)::.junk::.junk::.junk::.t true (.int .i64)::jS12),[]⟩
noncomputable abbrev E_sl7Has_0_0:SS:=⟨(.junk::.junk::.junk::.junk::.t true .bool::jS13),[]⟩
noncomputable abbrev E_sl7Has_0_1:SS:=⟨(.junk::jS17),[]⟩
noncomputable def st_sl7Has_0 (x0:List Int) (x1:Int) (x5:Int):RT S_sl7Has_0.den:=(.br (decide (x5<((x0.length:Nat):Int))) (.br (decide (0≤x5∧x5<((x0.length:Nat):Int))) (.br ((x0.getD x5.toNat (0:Int))==x1) (.done .ret E_sl7Has_0_0 (((),(),(),(),true,u14),())) (.next ((x0,x1,(),(),(),IntKind.wrap .i64 (x5+(1:Int)),u13),()))) .fail) (.done (.exit 0) E_sl7Has_0_1 ((u19),())))
noncomputable abbrev V_sl7Has_0:=(List Int)×(Int)×(Int)
noncomputable abbrev A_sl7Has_0:=Nat×(Bool)
noncomputable def fl_sl7Has_0:A_sl7Has_0:=(99,(false:Bool))
noncomputable def ss_sl7Has_0 (x0:List Int) (x1:Int) (x5:Int):V_sl7Has_0 ⊕ A_sl7Has_0:=(cond (decide (x5<((x0.length:Nat):Int))) (cond (decide (0≤x5∧x5<((x0.length:Nat):Int))) (cond ((x0.getD x5.toNat (0:Int))==x1) (.inr (0,true)) (.inl (x0,x1,IntKind.wrap .i64 (x5+(1:Int))))) (.inr fl_sl7Has_0)) (.inr (1,(false:Bool))))
noncomputable def it_sl7Has_0 (x0:List Int) (x1:Int) (x5:Int):A_sl7Has_0:=itX (fun v:V_sl7Has_0=>ss_sl7Has_0 v.1 v.2.1 v.2.2) fl_sl7Has_0 (x0,x1,x5)
noncomputable def ct_sl7Has_0 (a:A_sl7Has_0):CT:=(.br (a.1==0) (.done .ret E_sl7Has_0_0 (((),(),(),(),a.2,u14),())) (.br (a.1==1) (.done (.exit 0) E_sl7Has_0_1 ((u19),())) .fail))
noncomputable def T_sl7Has_0 (x0:List Int) (x1:Int) (x5:Int):CT:=ct_sl7Has_0 (it_sl7Has_0 x0 x1 x5)
noncomputable abbrev sp_sl7Has_0:S_sl7Has_0.den→RT S_sl7Has_0.den:=(fun d=>st_sl7Has_0 d.1.1 d.1.2.1 d.1.2.2.2.2.2.1)
noncomputable def body_sl7Has_0:Code:=((loopsIn 0 (bodyOf Try.f88)).getD 0 (0,.skip)).2
noncomputable abbrev pv_sl7Has_0 (v:V_sl7Has_0):S_sl7Has_0.den:=((v.1,v.2.1,(),(),(),v.2.2,u13),())
theorem rl_sl7Has_0:(∀ v:V_sl7Has_0,(st_sl7Has_0 v.1 v.2.1 v.2.2).val=relS pv_sl7Has_0 ct_sl7Has_0 (ss_sl7Has_0 v.1 v.2.1 v.2.2))∧∀ a:A_sl7Has_0,CEnd S_sl7Has_0.den (ct_sl7Has_0 a):=⟨fun v=>(relB (relB (relB rfl rfl) rfl) rfl),fun a=>(cendB (cendD (by simp)) (cendB (cendD (by simp)) cendF))⟩
theorem rdA_sl7Has_0:RdA G24 (fun _ _=>none) 0 body_sl7Has_0 S_sl7Has_0 0 [] (kepts [4] [(0,[])]) (fun d=>(sp_sl7Has_0 d).opt 0 []):=by
 intro d
 kernel_rfl
noncomputable abbrev say_sl7Has_0:St→Option Tree:=S_sl7Has_0.say 0 [] [] (fun d=>T_sl7Has_0 d.1.1 d.1.2.1 d.1.2.2.2.2.2.1)
theorem lw_sl7Has_0:LoopWp Try.prog say_sl7Has_0 body_sl7Has_0:=SS.wp2 hlz [] sp_sl7Has_0 rdA_sl7Has_0 (fun d=>rfl) _ (fun d=>Runs.ofI2 (step:=sp_sl7Has_0) pv_sl7Has_0 rl_sl7Has_0 rfl (d.1.1,d.1.2.1,d.1.2.2.2.2.2.1))
noncomputable def sl7Has (a0:List Int) (a1:Int):Bool:=(cond ((it_sl7Has_0 a0 a1 (0:Int)).1==0) ((it_sl7Has_0 a0 a1 (0:Int)).2) false)
noncomputable abbrev e_sl7Has (r:Bool):AV×List AObj:=((.t true .bool r),[])
noncomputable abbrev g_sl7Has:pshsDen P_sl7Has→AV×List AObj:=fun d=>e_sl7Has (sl7Has d.1 d.2.1)
noncomputable def q_sl7Has (a0:List Int) (a1:Int):Bool:=cond ((it_sl7Has_0 a0 a1 (0:Int)).1==0) true ((it_sl7Has_0 a0 a1 (0:Int)).1==1)
noncomputable abbrev pre_sl7Has:pshsDen P_sl7Has→Bool:=fun d=>q_sl7Has d.1 d.2.1
noncomputable abbrev L_sl7Has:Nat→St→Option Tree:=fun b=>match b with | 0=>say_sl7Has_0 | _=>fun _=>none
theorem run_sl7Has:RunP true G24 (L_sl7Has) Try.f88 P_sl7Has pre_sl7Has g_sl7Has:=by
 rintro ⟨a0,⟨a1,_⟩⟩ hp
 change q_sl7Has a0 a1=true at hp
 unfold q_sl7Has at hp
 refine Eq.trans (b:=(cond ((it_sl7Has_0 a0 a1 (0:Int)).1==0) (some (e_sl7Has ((it_sl7Has_0 a0 a1 (0:Int)).2))) (cond ((it_sl7Has_0 a0 a1 (0:Int)).1==1) (some (e_sl7Has false)) none))) (by kernel_rfl) ?_
 exact (cndE e_sl7Has hp (fun hp=>rfl) (fun hp=>(cndT hp fun _h=>rfl)))
theorem c_sl7Has:PContract Try.prog 88 (sumOf P_sl7Has pre_sl7Has g_sl7Has):=pcD true G24 (hl1 (i:=0) (by kernel_rfl) lw_sl7Has_0) run_sl7Has
noncomputable def S25:Tab:=Tab.add S24 88 (lift (sumOf P_sl7Has pre_sl7Has g_sl7Has))
noncomputable def QF25:FuncId→Bool:=qadd QF24 88
theorem G25:Good Try.prog tt S25 QF25:=G24.addQ c_sl7Has (cbl Try.f88) (fun _=>rfl)

noncomputable abbrev jS39:List Sh:=.junk::jS38
noncomputable abbrev u40:=((),(),u38)
noncomputable abbrev jA39:List AV:=.junk::jA38
noncomputable abbrev SM_sl7Put:SS:=⟨[.all 0 1,.t true (.int .i64)],[.rows 3 true (.int .i64)]⟩
noncomputable abbrev S_sl7Put_0:SS:=⟨(.junk::.t true (.int .i64)::.junk::.junk::.junk::.all 1 1::.t true (.int .i64)::jS39),[.rows 3 true (.int .i64),.rows 3 true (.int .i64)]⟩
noncomputable abbrev E_sl7Put_0_0:SS:=⟨(.junk::.t true (.int .i64)::.junk::.junk::.junk::.all 1 1::.t true (.int .i64)::jS39),[.rows 3 true (.int .i64),.rows 3 true (.int .i64)]⟩
noncomputable def st_sl7Put_0 (x1:Int) (x6:Int) (h0:List Int) (h1:List Int):RT S_sl7Put_0.den:=(.br (decide (x6 > (0:Int))) (.br (decide (0≤(IntKind.wrap .i64 (x6 - (1:Int)))∧(IntKind.wrap .i64 (x6 - (1:Int)))<((h1.length:Nat):Int))) (.br (decide ((h1.getD ((IntKind.wrap .i64 (x6 - (1:Int))).toNat) (0:Int)) > x1)) (.br (decide (0≤(IntKind.wrap .i64 (x6 - (1:Int)))∧(IntKind.wrap .i64 (x6 - (1:Int)))<((h1.length:Nat):Int))) (.br (decide (0≤x6∧x6<((h1.length:Nat):Int))) (.next (((),x1,(),(),(),(),IntKind.wrap .i64 (x6 - (1:Int)),u40),(h0,h1.set x6.toNat (h1.getD ((IntKind.wrap .i64 (x6 - (1:Int))).toNat) (0:Int)),()))) .fail) .fail) (.done (.exit 0) E_sl7Put_0_0 (((),x1,(),(),(),(),x6,u40),(h0,h1,())))) .fail) (.done (.exit 0) E_sl7Put_0_0 (((),x1,(),(),(),(),x6,u40),(h0,h1,()))))
noncomputable abbrev V_sl7Put_0:=(Int)×(Int)×(List Int)×(List Int)
noncomputable abbrev A_sl7Put_0:=Nat×(Int)×(Int)×(List Int)×(List Int)
noncomputable def fl_sl7Put_0:A_sl7Put_0:=(99,((0:Int):Int),((0:Int):Int),([]:List Int),([]:List Int))
noncomputable def ss_sl7Put_0 (x1:Int) (x6:Int) (h0:List Int) (h1:List Int):V_sl7Put_0 ⊕ A_sl7Put_0:=(cond (decide (x6 > (0:Int))) (cond (decide (0≤(IntKind.wrap .i64 (x6 - (1:Int)))∧(IntKind.wrap .i64 (x6 - (1:Int)))<((h1.length:Nat):Int))) (cond (decide ((h1.getD ((IntKind.wrap .i64 (x6 - (1:Int))).toNat) (0:Int)) > x1)) (cond (decide (0≤(IntKind.wrap .i64 (x6 - (1:Int)))∧(IntKind.wrap .i64 (x6 - (1:Int)))<((h1.length:Nat):Int))) (cond (decide (0≤x6∧x6<((h1.length:Nat):Int))) (.inl (x1,IntKind.wrap .i64 (x6 - (1:Int)),h0,h1.set x6.toNat (h1.getD ((IntKind.wrap .i64 (x6 - (1:Int))).toNat) (0:Int)))) (.inr fl_sl7Put_0)) (.inr fl_sl7Put_0)) (.inr (0,x1,x6,h0,h1))) (.inr fl_sl7Put_0)) (.inr (0,x1,x6,h0,h1)))
noncomputable def it_sl7Put_0 (x1:Int) (x6:Int) (h0:List Int) (h1:List Int):A_sl7Put_0:=itX (fun v:V_sl7Put_0=>ss_sl7Put_0 v.1 v.2.1 v.2.2.1 v.2.2.2) fl_sl7Put_0 (x1,x6,h0,h1)
noncomputable def ct_sl7Put_0 (a:A_sl7Put_0):CT:=(.br (a.1==0) (.done (.exit 0) E_sl7Put_0_0 (((),a.2.1,(),(),(),(),a.2.2.1,u40),(a.2.2.2.1,a.2.2.2.2,()))) .fail)
noncomputable def T_sl7Put_0 (x1:Int) (x6:Int) (h0:List Int) (h1:List Int):CT:=ct_sl7Put_0 (it_sl7Put_0 x1 x6 h0 h1)
noncomputable abbrev sp_sl7Put_0:S_sl7Put_0.den→RT S_sl7Put_0.den:=(fun d=>st_sl7Put_0 d.1.2.1 d.1.2.2.2.2.2.2.1 d.2.1 d.2.2.1)
noncomputable def body_sl7Put_0:Code:=((loopsIn 0 (bodyOf Try.f107)).getD 0 (0,.skip)).2
noncomputable abbrev pv_sl7Put_0 (v:V_sl7Put_0):S_sl7Put_0.den:=(((),v.1,(),(),(),(),v.2.1,u40),(v.2.2.1,v.2.2.2,()))
theorem rl_sl7Put_0:(∀ v:V_sl7Put_0,(st_sl7Put_0 v.1 v.2.1 v.2.2.1 v.2.2.2).val=relS pv_sl7Put_0 ct_sl7Put_0 (ss_sl7Put_0 v.1 v.2.1 v.2.2.1 v.2.2.2))∧∀ a:A_sl7Put_0,CEnd S_sl7Put_0.den (ct_sl7Put_0 a):=⟨fun v=>(relB (relB (relB (relB (relB rfl rfl) rfl) rfl) rfl) rfl),fun a=>(cendB (cendD (by simp)) cendF)⟩
noncomputable def ox_sl7Put_0 (x1:Int) (x6:Int) (h0:List Int) (h1:List Int):Option (Ex×St):=(cond (decide (x6 > (0:Int))) (cond (decide (0≤(IntKind.wrap .i64 (x6 - (1:Int)))∧(IntKind.wrap .i64 (x6 - (1:Int)))<((h1.length:Nat):Int))) (cond (decide ((h1.getD ((IntKind.wrap .i64 (x6 - (1:Int))).toNat) (0:Int)) > x1)) (cond (decide (0≤(IntKind.wrap .i64 (x6 - (1:Int)))∧(IntKind.wrap .i64 (x6 - (1:Int)))<((h1.length:Nat):Int))) (cond (decide (0≤x6∧x6<((h1.length:Nat):Int))) (some (.normal,(⟨(.junk::(.t true (.int .i64) x1)::.junk::.junk::.junk::(.all 1 1)::(.t true (.int .i64) (IntKind.wrap .i64 (x6 - (1:Int))))::jA39),[(.rows 3 true (.int .i64) h0),(.rows 3 true (.int .i64) (h1.set x6.toNat (h1.getD ((IntKind.wrap .i64 (x6 - (1:Int))).toNat) (0:Int))))],1,[]⟩:St))) none) none) (some ((.exit 0),(⟨(.junk::(.t true (.int .i64) x1)::.junk::.junk::.junk::(.all 1 1)::(.t true (.int .i64) x6)::jA39),[(.rows 3 true (.int .i64) h0),(.rows 3 true (.int .i64) h1)],1,[]⟩:St)))) none) (some ((.exit 0),(⟨(.junk::(.t true (.int .i64) x1)::.junk::.junk::.junk::(.all 1 1)::(.t true (.int .i64) x6)::jA39),[(.rows 3 true (.int .i64) h0),(.rows 3 true (.int .i64) h1)],1,[]⟩:St))))
theorem rdA_sl7Put_0:RdA G25 (fun _ _=>none) 0 body_sl7Put_0 S_sl7Put_0 1 [] (kepts [] [(0,[1,5,6])]) (fun d=>ox_sl7Put_0 d.1.2.1 d.1.2.2.2.2.2.2.1 d.2.1 d.2.2.1):=by
 intro d
 kernel_rfl
theorem rdB_sl7Put_0:∀ d:S_sl7Put_0.den,(fun d=>ox_sl7Put_0 d.1.2.1 d.1.2.2.2.2.2.2.1 d.2.1 d.2.2.1) d=(sp_sl7Put_0 d).opt 1 []:=by
 intro d
 kernel_rfl
noncomputable abbrev say_sl7Put_0:St→Option Tree:=S_sl7Put_0.say 1 [] [] (fun d=>T_sl7Put_0 d.1.2.1 d.1.2.2.2.2.2.2.1 d.2.1 d.2.2.1)
theorem lw_sl7Put_0:LoopWp Try.prog say_sl7Put_0 body_sl7Put_0:=SS.wp2 hlz [] sp_sl7Put_0 rdA_sl7Put_0 rdB_sl7Put_0 _ (fun d=>Runs.ofI2 (step:=sp_sl7Put_0) pv_sl7Put_0 rl_sl7Put_0 rfl (d.1.2.1,d.1.2.2.2.2.2.2.1,d.2.1,d.2.2.1))
noncomputable def k1_sl7Put (x1:Int) (h0:List Int):=it_sl7Put_0 x1 (IntKind.wrap .i64 (((((([]:List Int)++h0)++[x1]).length:Nat):Int) - (1:Int))) h0 ((([]:List Int)++h0)++[x1])
noncomputable def sl7Put (x1:Int) (h0:List Int):List Int:=(cond (sl7Has h0 x1) h0 (((k1_sl7Put x1 h0).2.2.2.2).set (((k1_sl7Put x1 h0).2.2.1).toNat) ((k1_sl7Put x1 h0).2.1)))
noncomputable abbrev e_sl7Put (r:List Int):AV×List AObj×List Nat:=((.t true t_si r),[.dead],[])
noncomputable abbrev g_sl7Put:SM_sl7Put.den→AV×List AObj×List Nat:=fun d=>e_sl7Put (sl7Put d.1.2.1 d.2.1)
noncomputable def q_sl7Put (x1:Int) (h0:List Int):Bool:=(q_sl7Has h0 x1)&&(cond (sl7Has h0 x1) true ((decide ((([]:List Int).length+h0.length)*8≤MAXB))&&((decide (((([]:List Int)++h0).length+[x1].length)*8≤MAXB))&&(((k1_sl7Put x1 h0).1==0)&&(decide (0≤((k1_sl7Put x1 h0).2.2.1)∧((k1_sl7Put x1 h0).2.2.1)<((((k1_sl7Put x1 h0).2.2.2.2).length:Nat):Int)))))))
noncomputable abbrev pre_sl7Put:SM_sl7Put.den→Bool:=fun d=>q_sl7Put d.1.2.1 d.2.1
noncomputable abbrev L_sl7Put:Nat→St→Option Tree:=fun b=>match b with | 0=>say_sl7Put_0 | _=>fun _=>none
theorem run_sl7Put:RunMRD [.all 0 1] G25 (L_sl7Put) Try.f107 SM_sl7Put pre_sl7Put g_sl7Put:=by
 rintro ⟨⟨_,x1,_⟩,⟨h0,_⟩⟩ hp
 change q_sl7Put x1 h0=true at hp
 unfold q_sl7Put at hp
 refine Eq.trans (b:=(cond (q_sl7Has h0 x1) (cond (sl7Has h0 x1) (some (e_sl7Put h0)) (cond (decide ((([]:List Int).length+h0.length)*8≤MAXB)) (cond (decide (((([]:List Int)++h0).length+[x1].length)*8≤MAXB)) (cond ((k1_sl7Put x1 h0).1==0) (cond (decide (0≤((k1_sl7Put x1 h0).2.2.1)∧((k1_sl7Put x1 h0).2.2.1)<((((k1_sl7Put x1 h0).2.2.2.2).length:Nat):Int))) (some (e_sl7Put (((k1_sl7Put x1 h0).2.2.2.2).set (((k1_sl7Put x1 h0).2.2.1).toNat) ((k1_sl7Put x1 h0).2.1)))) none) none) none) none)) none)) (by kernel_rfl) ?_
 exact (cndA hp fun hp=>(cndE e_sl7Put hp (fun hp=>rfl) (fun hp=>(cndA hp fun hp=>(cndA hp fun hp=>(cndA hp fun hp=>(cndT hp fun _h=>rfl)))))))
noncomputable abbrev m_sl7Put:=win winIds (msum SM_sl7Put pre_sl7Put g_sl7Put)
theorem c_sl7Put:MContract Try.prog 107 m_sl7Put:=(mcRD [.all 0 1]  G25 (hl1 (i:=0) (by kernel_rfl) lw_sl7Put_0) run_sl7Put).win winIds
noncomputable def S26:Tab:=Tab.add S25 107 (m_sl7Put)
noncomputable def QF26:FuncId→Bool:=QF25
theorem G26:Good Try.prog tt S26 QF26:=G25.addM c_sl7Put (win_local _) (cbl Try.f107) (by kernel_rfl)

noncomputable abbrev SM_sl7Put_w1:SS:=⟨[.t true t_si,.t true (.int .i64)],[]⟩
noncomputable abbrev S_sl7Put_w1_0:SS:=⟨(.junk::.t true (.int .i64)::.junk::.junk::.junk::.all 0 1::.t true (.int .i64)::jS39),[.rows 3 true (.int .i64)]⟩
noncomputable abbrev E_sl7Put_w1_0_0:SS:=⟨(.junk::.t true (.int .i64)::.junk::.junk::.junk::.all 0 1::.t true (.int .i64)::jS39),[.rows 3 true (.int .i64)]⟩
noncomputable def st_sl7Put_w1_0 (x1:Int) (x6:Int) (h0:List Int):RT S_sl7Put_w1_0.den:=(.br (decide (x6 > (0:Int))) (.br (decide (0≤(IntKind.wrap .i64 (x6 - (1:Int)))∧(IntKind.wrap .i64 (x6 - (1:Int)))<((h0.length:Nat):Int))) (.br (decide ((h0.getD ((IntKind.wrap .i64 (x6 - (1:Int))).toNat) (0:Int)) > x1)) (.br (decide (0≤(IntKind.wrap .i64 (x6 - (1:Int)))∧(IntKind.wrap .i64 (x6 - (1:Int)))<((h0.length:Nat):Int))) (.br (decide (0≤x6∧x6<((h0.length:Nat):Int))) (.next (((),x1,(),(),(),(),IntKind.wrap .i64 (x6 - (1:Int)),u40),(h0.set x6.toNat (h0.getD ((IntKind.wrap .i64 (x6 - (1:Int))).toNat) (0:Int)),()))) .fail) .fail) (.done (.exit 0) E_sl7Put_w1_0_0 (((),x1,(),(),(),(),x6,u40),(h0,())))) .fail) (.done (.exit 0) E_sl7Put_w1_0_0 (((),x1,(),(),(),(),x6,u40),(h0,()))))
noncomputable abbrev V_sl7Put_w1_0:=(Int)×(Int)×(List Int)
noncomputable abbrev A_sl7Put_w1_0:=Nat×(Int)×(Int)×(List Int)
noncomputable def fl_sl7Put_w1_0:A_sl7Put_w1_0:=(99,((0:Int):Int),((0:Int):Int),([]:List Int))
noncomputable def ss_sl7Put_w1_0 (x1:Int) (x6:Int) (h0:List Int):V_sl7Put_w1_0 ⊕ A_sl7Put_w1_0:=(cond (decide (x6 > (0:Int))) (cond (decide (0≤(IntKind.wrap .i64 (x6 - (1:Int)))∧(IntKind.wrap .i64 (x6 - (1:Int)))<((h0.length:Nat):Int))) (cond (decide ((h0.getD ((IntKind.wrap .i64 (x6 - (1:Int))).toNat) (0:Int)) > x1)) (cond (decide (0≤(IntKind.wrap .i64 (x6 - (1:Int)))∧(IntKind.wrap .i64 (x6 - (1:Int)))<((h0.length:Nat):Int))) (cond (decide (0≤x6∧x6<((h0.length:Nat):Int))) (.inl (x1,IntKind.wrap .i64 (x6 - (1:Int)),h0.set x6.toNat (h0.getD ((IntKind.wrap .i64 (x6 - (1:Int))).toNat) (0:Int)))) (.inr fl_sl7Put_w1_0)) (.inr fl_sl7Put_w1_0)) (.inr (0,x1,x6,h0))) (.inr fl_sl7Put_w1_0)) (.inr (0,x1,x6,h0)))
noncomputable def it_sl7Put_w1_0 (x1:Int) (x6:Int) (h0:List Int):A_sl7Put_w1_0:=itX (fun v:V_sl7Put_w1_0=>ss_sl7Put_w1_0 v.1 v.2.1 v.2.2) fl_sl7Put_w1_0 (x1,x6,h0)
noncomputable def ct_sl7Put_w1_0 (a:A_sl7Put_w1_0):CT:=(.br (a.1==0) (.done (.exit 0) E_sl7Put_w1_0_0 (((),a.2.1,(),(),(),(),a.2.2.1,u40),(a.2.2.2,()))) .fail)
noncomputable def T_sl7Put_w1_0 (x1:Int) (x6:Int) (h0:List Int):CT:=ct_sl7Put_w1_0 (it_sl7Put_w1_0 x1 x6 h0)
noncomputable abbrev sp_sl7Put_w1_0:S_sl7Put_w1_0.den→RT S_sl7Put_w1_0.den:=(fun d=>st_sl7Put_w1_0 d.1.2.1 d.1.2.2.2.2.2.2.1 d.2.1)
noncomputable def body_sl7Put_w1_0:Code:=((loopsIn 0 (bodyOf Try.f107)).getD 0 (0,.skip)).2
noncomputable abbrev pv_sl7Put_w1_0 (v:V_sl7Put_w1_0):S_sl7Put_w1_0.den:=(((),v.1,(),(),(),(),v.2.1,u40),(v.2.2,()))
theorem rl_sl7Put_w1_0:(∀ v:V_sl7Put_w1_0,(st_sl7Put_w1_0 v.1 v.2.1 v.2.2).val=relS pv_sl7Put_w1_0 ct_sl7Put_w1_0 (ss_sl7Put_w1_0 v.1 v.2.1 v.2.2))∧∀ a:A_sl7Put_w1_0,CEnd S_sl7Put_w1_0.den (ct_sl7Put_w1_0 a):=⟨fun v=>(relB (relB (relB (relB (relB rfl rfl) rfl) rfl) rfl) rfl),fun a=>(cendB (cendD (by simp)) cendF)⟩
noncomputable def ox_sl7Put_w1_0 (x1:Int) (x6:Int) (h0:List Int):Option (Ex×St):=(cond (decide (x6 > (0:Int))) (cond (decide (0≤(IntKind.wrap .i64 (x6 - (1:Int)))∧(IntKind.wrap .i64 (x6 - (1:Int)))<((h0.length:Nat):Int))) (cond (decide ((h0.getD ((IntKind.wrap .i64 (x6 - (1:Int))).toNat) (0:Int)) > x1)) (cond (decide (0≤(IntKind.wrap .i64 (x6 - (1:Int)))∧(IntKind.wrap .i64 (x6 - (1:Int)))<((h0.length:Nat):Int))) (cond (decide (0≤x6∧x6<((h0.length:Nat):Int))) (some (.normal,(⟨(.junk::(.t true (.int .i64) x1)::.junk::.junk::.junk::(.all 0 1)::(.t true (.int .i64) (IntKind.wrap .i64 (x6 - (1:Int))))::jA39),[(.rows 3 true (.int .i64) (h0.set x6.toNat (h0.getD ((IntKind.wrap .i64 (x6 - (1:Int))).toNat) (0:Int))))],0,[]⟩:St))) none) none) (some ((.exit 0),(⟨(.junk::(.t true (.int .i64) x1)::.junk::.junk::.junk::(.all 0 1)::(.t true (.int .i64) x6)::jA39),[(.rows 3 true (.int .i64) h0)],0,[]⟩:St)))) none) (some ((.exit 0),(⟨(.junk::(.t true (.int .i64) x1)::.junk::.junk::.junk::(.all 0 1)::(.t true (.int .i64) x6)::jA39),[(.rows 3 true (.int .i64) h0)],0,[]⟩:St))))
theorem rdA_sl7Put_w1_0:RdA G26 (fun _ _=>none) 0 body_sl7Put_w1_0 S_sl7Put_w1_0 0 [] (kepts [] [(0,[1,5,6])]) (fun d=>ox_sl7Put_w1_0 d.1.2.1 d.1.2.2.2.2.2.2.1 d.2.1):=by
 intro d
 kernel_rfl
theorem rdB_sl7Put_w1_0:∀ d:S_sl7Put_w1_0.den,(fun d=>ox_sl7Put_w1_0 d.1.2.1 d.1.2.2.2.2.2.2.1 d.2.1) d=(sp_sl7Put_w1_0 d).opt 0 []:=by
 intro d
 kernel_rfl
noncomputable abbrev say_sl7Put_w1_0:St→Option Tree:=S_sl7Put_w1_0.say 0 [] [] (fun d=>T_sl7Put_w1_0 d.1.2.1 d.1.2.2.2.2.2.2.1 d.2.1)
theorem lw_sl7Put_w1_0:LoopWp Try.prog say_sl7Put_w1_0 body_sl7Put_w1_0:=SS.wp2 hlz [] sp_sl7Put_w1_0 rdA_sl7Put_w1_0 rdB_sl7Put_w1_0 _ (fun d=>Runs.ofI2 (step:=sp_sl7Put_w1_0) pv_sl7Put_w1_0 rl_sl7Put_w1_0 rfl (d.1.2.1,d.1.2.2.2.2.2.2.1,d.2.1))
noncomputable def k1_sl7Put_w1 (x0:List Int) (x1:Int):=it_sl7Put_w1_0 x1 (IntKind.wrap .i64 (((((([]:List Int)++x0)++[x1]).length:Nat):Int) - (1:Int))) ((([]:List Int)++x0)++[x1])
noncomputable def sl7Put_w1 (x0:List Int) (x1:Int):List Int:=(cond (sl7Has x0 x1) x0 (((k1_sl7Put_w1 x0 x1).2.2.2).set (((k1_sl7Put_w1 x0 x1).2.2.1).toNat) ((k1_sl7Put_w1 x0 x1).2.1)))
noncomputable abbrev e_sl7Put_w1 (r:List Int):AV×List AObj×List Nat:=((.t true t_si r),[],[])
noncomputable abbrev g_sl7Put_w1:SM_sl7Put_w1.den→AV×List AObj×List Nat:=fun d=>e_sl7Put_w1 (sl7Put_w1 d.1.1 d.1.2.1)
noncomputable def q_sl7Put_w1 (x0:List Int) (x1:Int):Bool:=(q_sl7Has x0 x1)&&(cond (sl7Has x0 x1) true ((decide ((([]:List Int).length+x0.length)*8≤MAXB))&&((decide (((([]:List Int)++x0).length+[x1].length)*8≤MAXB))&&(((k1_sl7Put_w1 x0 x1).1==0)&&(decide (0≤((k1_sl7Put_w1 x0 x1).2.2.1)∧((k1_sl7Put_w1 x0 x1).2.2.1)<((((k1_sl7Put_w1 x0 x1).2.2.2).length:Nat):Int)))))))
noncomputable abbrev pre_sl7Put_w1:SM_sl7Put_w1.den→Bool:=fun d=>q_sl7Put_w1 d.1.1 d.1.2.1
noncomputable abbrev L_sl7Put_w1:Nat→St→Option Tree:=fun b=>match b with | 0=>say_sl7Put_w1_0 | _=>fun _=>none
theorem run_sl7Put_w1:RunMRD [] G26 (L_sl7Put_w1) Try.f107 SM_sl7Put_w1 pre_sl7Put_w1 g_sl7Put_w1:=by
 rintro ⟨⟨x0,x1,_⟩,_⟩ hp
 change q_sl7Put_w1 x0 x1=true at hp
 unfold q_sl7Put_w1 at hp
 refine Eq.trans (b:=(cond (q_sl7Has x0 x1) (cond (sl7Has x0 x1) (some (e_sl7Put_w1 x0)) (cond (decide ((([]:List Int).length+x0.length)*8≤MAXB)) (cond (decide (((([]:List Int)++x0).length+[x1].length)*8≤MAXB)) (cond ((k1_sl7Put_w1 x0 x1).1==0) (cond (decide (0≤((k1_sl7Put_w1 x0 x1).2.2.1)∧((k1_sl7Put_w1 x0 x1).2.2.1)<((((k1_sl7Put_w1 x0 x1).2.2.2).length:Nat):Int))) (some (e_sl7Put_w1 (((k1_sl7Put_w1 x0 x1).2.2.2).set (((k1_sl7Put_w1 x0 x1).2.2.1).toNat) ((k1_sl7Put_w1 x0 x1).2.1)))) none) none) none) none)) none)) (by kernel_rfl) ?_
 exact (cndA hp fun hp=>(cndE e_sl7Put_w1 hp (fun hp=>rfl) (fun hp=>(cndA hp fun hp=>(cndA hp fun hp=>(cndA hp fun hp=>(cndT hp fun _h=>rfl)))))))
noncomputable abbrev m_sl7Put_w1:=win winIds (msum SM_sl7Put_w1 pre_sl7Put_w1 g_sl7Put_w1)
theorem c_sl7Put_w1:MContract Try.prog 107 m_sl7Put_w1:=(mcRD []  G26 (hl1 (i:=0) (by kernel_rfl) lw_sl7Put_w1_0) run_sl7Put_w1).win winIds
noncomputable def S27:Tab:=Tab.add S26 107 (orElseS (m_sl7Put) (m_sl7Put_w1))
noncomputable def QF27:FuncId→Bool:=QF26
theorem G27:Good Try.prog tt S27 QF27:=G26.addM (MContract.orElse c_sl7Put c_sl7Put_w1) (orElse_local (win_local _) (win_local _)) (cbl Try.f107) (by kernel_rfl)

noncomputable abbrev P_sShardsOf:List PSh:=[.t tq4,.t (.int .i64)]
noncomputable abbrev S_sShardsOf_0:SS:=⟨(.t false tq4::.t true (.int .i64)::.junk::.junk::.junk::.t true t_si::.t true (.int .i64)::jS17),[]⟩
noncomputable abbrev E_sShardsOf_0_0:SS:=⟨(.junk::.junk::.junk::.junk::.junk::.t true t_si::jS18),[]⟩
noncomputable def k1_sShardsOf (x0:Lq1) (x1:Int) (x6:Int):=sShardOf (((x0.getD x6.toNat ((0:Int),(bE,bE))).2).1) x1
noncomputable def st_sShardsOf_0 (x0:Lq1) (x1:Int) (x5:List Int) (x6:Int):RT S_sShardsOf_0.den:=(.br (decide (x6<((x0.length:Nat):Int))) (.br (decide (0≤x6∧x6<((x0.length:Nat):Int))) (.br (q_sShardOf (((x0.getD x6.toNat ((0:Int),(bE,bE))).2).1) x1) (.br (q_sl7Put_w1 x5 (k1_sShardsOf x0 x1 x6)) (.next ((x0,x1,(),(),(),(sl7Put_w1 x5 (k1_sShardsOf x0 x1 x6)),IntKind.wrap .i64 (x6+(1:Int)),u18),())) .fail) .fail) .fail) (.done (.exit 0) E_sShardsOf_0_0 (((),(),(),(),(),x5,u19),())))
noncomputable abbrev V_sShardsOf_0:=(Lq1)×(Int)×(List Int)×(Int)
noncomputable abbrev A_sShardsOf_0:=Nat×(List Int)
noncomputable def fl_sShardsOf_0:A_sShardsOf_0:=(99,([]:List Int))
noncomputable def ss_sShardsOf_0 (x0:Lq1) (x1:Int) (x5:List Int) (x6:Int):V_sShardsOf_0 ⊕ A_sShardsOf_0:=(cond (decide (x6<((x0.length:Nat):Int))) (cond (decide (0≤x6∧x6<((x0.length:Nat):Int))) (cond (q_sShardOf (((x0.getD x6.toNat ((0:Int),(bE,bE))).2).1) x1) (cond (q_sl7Put_w1 x5 (k1_sShardsOf x0 x1 x6)) (.inl (x0,x1,(sl7Put_w1 x5 (k1_sShardsOf x0 x1 x6)),IntKind.wrap .i64 (x6+(1:Int)))) (.inr fl_sShardsOf_0)) (.inr fl_sShardsOf_0)) (.inr fl_sShardsOf_0)) (.inr (0,x5)))
noncomputable def it_sShardsOf_0 (x0:Lq1) (x1:Int) (x5:List Int) (x6:Int):A_sShardsOf_0:=itX (fun v:V_sShardsOf_0=>ss_sShardsOf_0 v.1 v.2.1 v.2.2.1 v.2.2.2) fl_sShardsOf_0 (x0,x1,x5,x6)
noncomputable def ct_sShardsOf_0 (a:A_sShardsOf_0):CT:=(.br (a.1==0) (.done (.exit 0) E_sShardsOf_0_0 (((),(),(),(),(),a.2,u19),())) .fail)
noncomputable def T_sShardsOf_0 (x0:Lq1) (x1:Int) (x5:List Int) (x6:Int):CT:=ct_sShardsOf_0 (it_sShardsOf_0 x0 x1 x5 x6)
noncomputable abbrev ap_sShardsOf_0 {α:Sort _} (f:(Lq1)→Int→(List Int)→Int→α) (d:S_sShardsOf_0.den):α:=f d.1.1 d.1.2.1 d.1.2.2.2.2.2.1 d.1.2.2.2.2.2.2.1
noncomputable abbrev sp_sShardsOf_0:S_sShardsOf_0.den→RT S_sShardsOf_0.den:=(ap_sShardsOf_0 st_sShardsOf_0)
noncomputable def body_sShardsOf_0:Code:=((loopsIn 0 (bodyOf Try.f87)).getD 0 (0,.skip)).2
noncomputable abbrev pv_sShardsOf_0 (v:V_sShardsOf_0):S_sShardsOf_0.den:=((v.1,v.2.1,(),(),(),v.2.2.1,v.2.2.2,u18),())
theorem rl_sShardsOf_0:(∀ v:V_sShardsOf_0,(st_sShardsOf_0 v.1 v.2.1 v.2.2.1 v.2.2.2).val=relS pv_sShardsOf_0 ct_sShardsOf_0 (ss_sShardsOf_0 v.1 v.2.1 v.2.2.1 v.2.2.2))∧∀ a:A_sShardsOf_0,CEnd S_sShardsOf_0.den (ct_sShardsOf_0 a):=⟨fun v=>(relB (relB (relB (relB rfl rfl) rfl) rfl) rfl),fun a=>(cendB (cendD (by simp)) cendF)⟩
theorem rdA_sShardsOf_0:RdA G27 (fun _ _=>none) 0 body_sShardsOf_0 S_sShardsOf_0 0 [] (kepts [] [(0,[5])]) (fun d=>(sp_sShardsOf_0 d).opt 0 []):=by
 intro d
 kernel_rfl
noncomputable abbrev say_sShardsOf_0:St→Option Tree:=S_sShardsOf_0.say 0 [] [(5,1000000,.bool)] (ap_sShardsOf_0 T_sShardsOf_0)
theorem lw_sShardsOf_0:LoopWp Try.prog say_sShardsOf_0 body_sShardsOf_0:=SS.wp2 hlz [(5,1000000,.bool)] sp_sShardsOf_0 rdA_sShardsOf_0 (fun d=>rfl) _ (fun d=>Runs.ofI2 (step:=sp_sShardsOf_0) pv_sShardsOf_0 rl_sShardsOf_0 rfl (d.1.1,d.1.2.1,d.1.2.2.2.2.2.1,d.1.2.2.2.2.2.2.1))
noncomputable def sShardsOf (a0:Lq1) (a1:Int):List Int:=((it_sShardsOf_0 a0 a1 ([]:List Int) (0:Int)).2)
noncomputable abbrev e_sShardsOf (r:List Int):AV×List AObj:=((.t true t_si r),[])
noncomputable abbrev g_sShardsOf:pshsDen P_sShardsOf→AV×List AObj:=fun d=>e_sShardsOf (sShardsOf d.1 d.2.1)
noncomputable def q_sShardsOf (a0:Lq1) (a1:Int):Bool:=((it_sShardsOf_0 a0 a1 ([]:List Int) (0:Int)).1==0)
noncomputable abbrev pre_sShardsOf:pshsDen P_sShardsOf→Bool:=fun d=>q_sShardsOf d.1 d.2.1
noncomputable abbrev L_sShardsOf:Nat→St→Option Tree:=fun b=>match b with | 0=>say_sShardsOf_0 | _=>fun _=>none
theorem run_sShardsOf:RunP true G27 (L_sShardsOf) Try.f87 P_sShardsOf pre_sShardsOf g_sShardsOf:=by
 rintro ⟨a0,⟨a1,_⟩⟩ hp
 change q_sShardsOf a0 a1=true at hp
 unfold q_sShardsOf at hp
 refine Eq.trans (b:=(cond ((it_sShardsOf_0 a0 a1 ([]:List Int) (0:Int)).1==0) (some (e_sShardsOf ((it_sShardsOf_0 a0 a1 ([]:List Int) (0:Int)).2))) none)) (by kernel_rfl) ?_
 exact (cndT hp fun _h=>rfl)
theorem c_sShardsOf:PContract Try.prog 87 (sumOf P_sShardsOf pre_sShardsOf g_sShardsOf):=pcD true G27 (hl1 (i:=0) (by kernel_rfl) lw_sShardsOf_0) run_sShardsOf
noncomputable def S28:Tab:=Tab.add S27 87 (lift (sumOf P_sShardsOf pre_sShardsOf g_sShardsOf))
noncomputable def QF28:FuncId→Bool:=qadd QF27 87
theorem G28:Good Try.prog tt S28 QF28:=G27.addQ c_sShardsOf (cbl Try.f87) (fun _=>rfl)

noncomputable abbrev jS120:List Sh:=.junk::.junk::.junk::.junk::.junk::.junk::.junk::.junk::.junk::.junk::.junk::.junk::.junk::.junk::.junk::.junk::.junk::.junk::.junk::.junk::.junk::.junk::.junk::.junk::.junk::.junk::.junk::.junk::.junk::.junk::.junk::.junk::.junk::.junk::.junk::.junk::.junk::.junk::.junk::.junk::.junk::.junk::.junk::.junk::.junk::.junk::.junk::.junk::.junk::.junk::.junk::.junk::.junk::.junk::.junk::.junk::.junk::.junk::.junk::.junk::.junk::.junk::.junk::.junk::.junk::.junk::.junk::.junk::.junk::.junk::.junk::.junk::.junk::.junk::.junk::.junk::.junk::.junk::.junk::.junk::.junk::jS39
noncomputable abbrev jS123:List Sh:=.junk::.junk::.junk::jS120
noncomputable abbrev jS122:List Sh:=.junk::.junk::jS120
noncomputable abbrev u124:=((),(),(),(),(),(),(),(),(),(),(),(),(),(),(),(),(),(),(),(),(),(),(),(),(),(),(),(),(),(),(),(),(),(),(),(),(),(),(),(),(),(),(),(),(),(),(),(),(),(),(),(),(),(),(),(),(),(),(),(),(),(),(),(),(),(),(),(),(),(),(),(),(),(),(),(),(),(),(),(),(),u43)
noncomputable abbrev u121:=((),(),(),(),(),(),(),(),(),(),(),(),(),(),(),(),(),(),(),(),(),(),(),(),(),(),(),(),(),(),(),(),(),(),(),(),(),(),(),(),(),(),(),(),(),(),(),(),(),(),(),(),(),(),(),(),(),(),(),(),(),(),(),(),(),(),(),(),(),(),(),(),(),(),(),(),(),(),u43)
noncomputable abbrev u129:=((),(),(),(),(),u124)
noncomputable abbrev jA123:List AV:=.junk::.junk::.junk::.junk::.junk::.junk::.junk::.junk::.junk::.junk::.junk::.junk::.junk::.junk::.junk::.junk::.junk::.junk::.junk::.junk::.junk::.junk::.junk::.junk::.junk::.junk::.junk::.junk::.junk::.junk::.junk::.junk::.junk::.junk::.junk::.junk::.junk::.junk::.junk::.junk::.junk::.junk::.junk::.junk::.junk::.junk::.junk::.junk::.junk::.junk::.junk::.junk::.junk::.junk::.junk::.junk::.junk::.junk::.junk::.junk::.junk::.junk::.junk::.junk::.junk::.junk::.junk::.junk::.junk::.junk::.junk::.junk::.junk::.junk::.junk::.junk::.junk::.junk::.junk::.junk::.junk::.junk::.junk::.junk::jA39
noncomputable abbrev jA120:List AV:=.junk::.junk::.junk::.junk::.junk::.junk::.junk::.junk::.junk::.junk::.junk::.junk::.junk::.junk::.junk::.junk::.junk::.junk::.junk::.junk::.junk::.junk::.junk::.junk::.junk::.junk::.junk::.junk::.junk::.junk::.junk::.junk::.junk::.junk::.junk::.junk::.junk::.junk::.junk::.junk::.junk::.junk::.junk::.junk::.junk::.junk::.junk::.junk::.junk::.junk::.junk::.junk::.junk::.junk::.junk::.junk::.junk::.junk::.junk::.junk::.junk::.junk::.junk::.junk::.junk::.junk::.junk::.junk::.junk::.junk::.junk::.junk::.junk::.junk::.junk::.junk::.junk::.junk::.junk::.junk::.junk::jA39
noncomputable abbrev jA122:List AV:=.junk::.junk::jA120
noncomputable abbrev P_sl11Job:List PSh:=[.agg [(.int .i64),(.int .i64),(.int .i64),tq2,tq3,(.int .i64)],.t (.int .i64)]
noncomputable abbrev S_sl11Job_0:SS:=⟨(.junk::.junk::.ptr 0 0 1 0::.junk::.junk::.ptr 1 0 1 0::.t true t_si::.t true (.int .i64)::jS120),[.box [.t true (.int .i64),.t true (.int .i64),.t true (.int .i64),.t false tq2,.t false tq3,.t true (.int .i64)],.box [.t true (.int .i64),.t false tq4,.t true (.int .i64),.t false t_si]]⟩
noncomputable abbrev E_sl11Job_0_0:SS:=⟨(.junk::.junk::.junk::.junk::.t true .bool::jS123),[]⟩
noncomputable abbrev E_sl11Job_0_1:SS:=⟨(.junk::.junk::.ptr 0 0 1 0::.junk::.junk::.ptr 1 0 1 0::jS122),[.box [.t true (.int .i64),.t true (.int .i64),.t true (.int .i64),.t false tq2,.t false tq3,.t true (.int .i64)],.box [.t true (.int .i64),.t false tq4,.t true (.int .i64),.t false t_si]]⟩
noncomputable def st_sl11Job_0 (x6:List Int) (x7:Int) (p0:Int) (p1:Int) (p2:Int) (p3:List (Int×(Lq1)×Int×List Int)) (p4:LIbe) (p5:Int) (q0:Int) (q1:Lq1) (q2:Int) (q3:List Int):RT S_sl11Job_0.den:=(.br (decide (x7<((q3.length:Nat):Int))) (.br (decide (0≤x7∧x7<((q3.length:Nat):Int))) (.br (q_sl7Has x6 (q3.getD x7.toNat (0:Int))) (.br (!(sl7Has x6 (q3.getD x7.toNat (0:Int)))) (.done .ret E_sl11Job_0_0 (((),(),(),(),false,u124),())) (.br (decide (x7 > (0:Int))) (.br (decide (0≤(IntKind.wrap .i64 (x7 - (1:Int)))∧(IntKind.wrap .i64 (x7 - (1:Int)))<((q3.length:Nat):Int))) (.br (decide (0≤x7∧x7<((q3.length:Nat):Int))) (.br (decide ((q3.getD ((IntKind.wrap .i64 (x7 - (1:Int))).toNat) (0:Int)) ≥ (q3.getD x7.toNat (0:Int)))) (.done .ret E_sl11Job_0_0 (((),(),(),(),false,u124),())) (.next (((),(),(),(),(),(),x6,IntKind.wrap .i64 (x7+(1:Int)),u121),((p0,p1,p2,p3,p4,p5,()),(q0,q1,q2,q3,()),())))) .fail) .fail) (.next (((),(),(),(),(),(),x6,IntKind.wrap .i64 (x7+(1:Int)),u121),((p0,p1,p2,p3,p4,p5,()),(q0,q1,q2,q3,()),()))))) .fail) .fail) (.done (.exit 0) E_sl11Job_0_1 ((u129),((p0,p1,p2,p3,p4,p5,()),(q0,q1,q2,q3,()),()))))
noncomputable abbrev V_sl11Job_0:=(List Int)×(Int)
noncomputable abbrev A_sl11Job_0:=Nat×(Bool)
noncomputable def fl_sl11Job_0:A_sl11Job_0:=(99,(false:Bool))
noncomputable def ss_sl11Job_0 (x6:List Int) (x7:Int) (p0:Int) (p1:Int) (p2:Int) (p3:List (Int×(Lq1)×Int×List Int)) (p4:LIbe) (p5:Int) (q0:Int) (q1:Lq1) (q2:Int) (q3:List Int):V_sl11Job_0 ⊕ A_sl11Job_0:=(cond (decide (x7<((q3.length:Nat):Int))) (cond (decide (0≤x7∧x7<((q3.length:Nat):Int))) (cond (q_sl7Has x6 (q3.getD x7.toNat (0:Int))) (cond (!(sl7Has x6 (q3.getD x7.toNat (0:Int)))) (.inr (0,false)) (cond (decide (x7 > (0:Int))) (cond (decide (0≤(IntKind.wrap .i64 (x7 - (1:Int)))∧(IntKind.wrap .i64 (x7 - (1:Int)))<((q3.length:Nat):Int))) (cond (decide (0≤x7∧x7<((q3.length:Nat):Int))) (cond (decide ((q3.getD ((IntKind.wrap .i64 (x7 - (1:Int))).toNat) (0:Int)) ≥ (q3.getD x7.toNat (0:Int)))) (.inr (0,false)) (.inl (x6,IntKind.wrap .i64 (x7+(1:Int))))) (.inr fl_sl11Job_0)) (.inr fl_sl11Job_0)) (.inl (x6,IntKind.wrap .i64 (x7+(1:Int)))))) (.inr fl_sl11Job_0)) (.inr fl_sl11Job_0)) (.inr (1,(false:Bool))))
noncomputable def it_sl11Job_0 (x6:List Int) (x7:Int) (p0:Int) (p1:Int) (p2:Int) (p3:List (Int×(Lq1)×Int×List Int)) (p4:LIbe) (p5:Int) (q0:Int) (q1:Lq1) (q2:Int) (q3:List Int):A_sl11Job_0:=itX (fun v:V_sl11Job_0=>ss_sl11Job_0 v.1 v.2 p0 p1 p2 p3 p4 p5 q0 q1 q2 q3) fl_sl11Job_0 (x6,x7)
noncomputable def ct_sl11Job_0 (p0:Int) (p1:Int) (p2:Int) (p3:List (Int×(Lq1)×Int×List Int)) (p4:LIbe) (p5:Int) (q0:Int) (q1:Lq1) (q2:Int) (q3:List Int) (a:A_sl11Job_0):CT:=(.br (a.1==0) (.done .ret E_sl11Job_0_0 (((),(),(),(),a.2,u124),())) (.br (a.1==1) (.done (.exit 0) E_sl11Job_0_1 ((u129),((p0,p1,p2,p3,p4,p5,()),(q0,q1,q2,q3,()),()))) .fail))
noncomputable def T_sl11Job_0 (x6:List Int) (x7:Int) (p0:Int) (p1:Int) (p2:Int) (p3:List (Int×(Lq1)×Int×List Int)) (p4:LIbe) (p5:Int) (q0:Int) (q1:Lq1) (q2:Int) (q3:List Int):CT:=(ct_sl11Job_0 p0 p1 p2 p3 p4 p5 q0 q1 q2 q3) (it_sl11Job_0 x6 x7 p0 p1 p2 p3 p4 p5 q0 q1 q2 q3)
noncomputable abbrev ap_sl11Job_0 {α:Sort _} (f:(List Int)→Int→Int→Int→Int→(List (Int×(Lq1)×Int×List Int))→(LIbe)→Int→Int→(Lq1)→Int→(List Int)→α) (d:S_sl11Job_0.den):α:=f d.1.2.2.2.2.2.2.1 d.1.2.2.2.2.2.2.2.1 d.2.1.1 d.2.1.2.1 d.2.1.2.2.1 d.2.1.2.2.2.1 d.2.1.2.2.2.2.1 d.2.1.2.2.2.2.2.1 d.2.2.1.1 d.2.2.1.2.1 d.2.2.1.2.2.1 d.2.2.1.2.2.2.1
noncomputable abbrev sp_sl11Job_0:S_sl11Job_0.den→RT S_sl11Job_0.den:=(ap_sl11Job_0 st_sl11Job_0)
noncomputable def body_sl11Job_0:Code:=((loopsIn 0 (bodyOf Try.f44)).getD 0 (0,.skip)).2
noncomputable abbrev pv_sl11Job_0 (p0:Int) (p1:Int) (p2:Int) (p3:List (Int×(Lq1)×Int×List Int)) (p4:LIbe) (p5:Int) (q0:Int) (q1:Lq1) (q2:Int) (q3:List Int) (v:V_sl11Job_0):S_sl11Job_0.den:=(((),(),(),(),(),(),v.1,v.2,u121),((p0,p1,p2,p3,p4,p5,()),(q0,q1,q2,q3,()),()))
theorem rl_sl11Job_0 (p0:Int) (p1:Int) (p2:Int) (p3:List (Int×(Lq1)×Int×List Int)) (p4:LIbe) (p5:Int) (q0:Int) (q1:Lq1) (q2:Int) (q3:List Int):(∀ v:V_sl11Job_0,(st_sl11Job_0 v.1 v.2 p0 p1 p2 p3 p4 p5 q0 q1 q2 q3).val=relS (pv_sl11Job_0 p0 p1 p2 p3 p4 p5 q0 q1 q2 q3) (ct_sl11Job_0 p0 p1 p2 p3 p4 p5 q0 q1 q2 q3) (ss_sl11Job_0 v.1 v.2 p0 p1 p2 p3 p4 p5 q0 q1 q2 q3))∧∀ a:A_sl11Job_0,CEnd S_sl11Job_0.den ((ct_sl11Job_0 p0 p1 p2 p3 p4 p5 q0 q1 q2 q3) a):=⟨fun v=>by repeat' first | apply relB | rfl,fun a=>(cendB (cendD (by simp)) (cendB (cendD (by simp)) cendF))⟩
noncomputable def ox_sl11Job_0 (x6:List Int) (x7:Int) (p0:Int) (p1:Int) (p2:Int) (p3:List (Int×(Lq1)×Int×List Int)) (p4:LIbe) (p5:Int) (q0:Int) (q1:Lq1) (q2:Int) (q3:List Int):Option (Ex×St):=(cond (decide (x7<((q3.length:Nat):Int))) (cond (decide (0≤x7∧x7<((q3.length:Nat):Int))) (cond (q_sl7Has x6 (q3.getD x7.toNat (0:Int))) (cond (!(sl7Has x6 (q3.getD x7.toNat (0:Int)))) (some (.ret,(⟨(.junk::.junk::.junk::.junk::(.t true .bool false)::jA123),[],0,[]⟩:St))) (cond (decide (x7 > (0:Int))) (cond (decide (0≤(IntKind.wrap .i64 (x7 - (1:Int)))∧(IntKind.wrap .i64 (x7 - (1:Int)))<((q3.length:Nat):Int))) (cond (decide (0≤x7∧x7<((q3.length:Nat):Int))) (cond (decide ((q3.getD ((IntKind.wrap .i64 (x7 - (1:Int))).toNat) (0:Int)) ≥ (q3.getD x7.toNat (0:Int)))) (some (.ret,(⟨(.junk::.junk::.junk::.junk::(.t true .bool false)::jA123),[],0,[]⟩:St))) (some (.normal,(⟨(.junk::.junk::(.ptr 0 0 1 0)::.junk::.junk::(.ptr 1 0 1 0)::(.t true t_si x6)::(.t true (.int .i64) (IntKind.wrap .i64 (x7+(1:Int))))::jA120),[(.box [(.t true (.int .i64) p0),(.t true (.int .i64) p1),(.t true (.int .i64) p2),(.t false tq2 p3),(.t false tq3 p4),(.t true (.int .i64) p5)]),(.box [(.t true (.int .i64) q0),(.t false tq4 q1),(.t true (.int .i64) q2),(.t false t_si q3)])],0,[]⟩:St)))) none) none) (some (.normal,(⟨(.junk::.junk::(.ptr 0 0 1 0)::.junk::.junk::(.ptr 1 0 1 0)::(.t true t_si x6)::(.t true (.int .i64) (IntKind.wrap .i64 (x7+(1:Int))))::jA120),[(.box [(.t true (.int .i64) p0),(.t true (.int .i64) p1),(.t true (.int .i64) p2),(.t false tq2 p3),(.t false tq3 p4),(.t true (.int .i64) p5)]),(.box [(.t true (.int .i64) q0),(.t false tq4 q1),(.t true (.int .i64) q2),(.t false t_si q3)])],0,[]⟩:St))))) none) none) (some ((.exit 0),(⟨(.junk::.junk::(.ptr 0 0 1 0)::.junk::.junk::(.ptr 1 0 1 0)::jA122),[(.box [(.t true (.int .i64) p0),(.t true (.int .i64) p1),(.t true (.int .i64) p2),(.t false tq2 p3),(.t false tq3 p4),(.t true (.int .i64) p5)]),(.box [(.t true (.int .i64) q0),(.t false tq4 q1),(.t true (.int .i64) q2),(.t false t_si q3)])],0,[]⟩:St))))
theorem rdA_sl11Job_0:RdA G28 (fun _ _=>none) 0 body_sl11Job_0 S_sl11Job_0 0 [] (kepts [4] [(0,[2,5])]) (ap_sl11Job_0 ox_sl11Job_0):=by
 intro d
 kernel_rfl
theorem rdB_sl11Job_0:∀ d:S_sl11Job_0.den,(ap_sl11Job_0 ox_sl11Job_0) d=(sp_sl11Job_0 d).opt 0 []:=by
 intro d
 kernel_rfl
noncomputable abbrev say_sl11Job_0:St→Option Tree:=S_sl11Job_0.say 0 [] [] (ap_sl11Job_0 T_sl11Job_0)
theorem lw_sl11Job_0:LoopWp Try.prog say_sl11Job_0 body_sl11Job_0:=SS.wp2 hlz [] sp_sl11Job_0 rdA_sl11Job_0 rdB_sl11Job_0 _ (fun d=>Runs.ofI2 (step:=sp_sl11Job_0) (pv_sl11Job_0 d.2.1.1 d.2.1.2.1 d.2.1.2.2.1 d.2.1.2.2.2.1 d.2.1.2.2.2.2.1 d.2.1.2.2.2.2.2.1 d.2.2.1.1 d.2.2.1.2.1 d.2.2.1.2.2.1 d.2.2.1.2.2.2.1) (rl_sl11Job_0 d.2.1.1 d.2.1.2.1 d.2.1.2.2.1 d.2.1.2.2.2.1 d.2.1.2.2.2.2.1 d.2.1.2.2.2.2.2.1 d.2.2.1.1 d.2.2.1.2.1 d.2.2.1.2.2.1 d.2.2.1.2.2.2.1) rfl (d.1.2.2.2.2.2.2.1,d.1.2.2.2.2.2.2.2.1))
noncomputable def k1_sl11Job (a1:Int) (a2:Int) (a3:List (Int×(Lq1)×Int×List Int)) (a6:Int):=sl1In ((a3.getD a6.toNat ((0:Int),([],((0:Int),[])))).1) (IntKind.wrap .i64 (a1*(1000:Int))) (IntKind.wrap .i64 ((IntKind.wrap .i64 ((IntKind.wrap .i64 (a1*(1000:Int)))+a2)) - (1:Int)))
noncomputable def k2_sl11Job (a3:List (Int×(Lq1)×Int×List Int)) (a6:Int):=sl1In ((((a3.getD a6.toNat ((0:Int),([],((0:Int),[])))).2).2).1) (1:Int) (3:Int)
noncomputable def k3_sl11Job (a0:Int) (a1:Int) (a2:Int) (a3:List (Int×(Lq1)×Int×List Int)) (a4:LIbe) (a5:Int) (a6:Int):=it_sl11Job_0 (sShardsOf (((a3.getD a6.toNat ((0:Int),([],((0:Int),[])))).2).1) a0) (0:Int) a0 a1 a2 a3 a4 a5 ((a3.getD a6.toNat ((0:Int),([],((0:Int),[])))).1) (((a3.getD a6.toNat ((0:Int),([],((0:Int),[])))).2).1) ((((a3.getD a6.toNat ((0:Int),([],((0:Int),[])))).2).2).1) ((((a3.getD a6.toNat ((0:Int),([],((0:Int),[])))).2).2).2)
noncomputable def sl11Job (a0:Int) (a1:Int) (a2:Int) (a3:List (Int×(Lq1)×Int×List Int)) (a4:LIbe) (a5:Int) (a6:Int):Bool:=(cond (!(k1_sl11Job a1 a2 a3 a6)) false (cond (decide (a6 > (0:Int))) (cond (decide (((a3.getD ((IntKind.wrap .i64 (a6 - (1:Int))).toNat) ((0:Int),([],((0:Int),[])))).1) ≥ ((a3.getD a6.toNat ((0:Int),([],((0:Int),[])))).1))) false (cond (!(sOpsOk (((a3.getD a6.toNat ((0:Int),([],((0:Int),[])))).2).1))) false (cond (!(k2_sl11Job a3 a6)) false (cond ((k3_sl11Job a0 a1 a2 a3 a4 a5 a6).1==0) ((k3_sl11Job a0 a1 a2 a3 a4 a5 a6).2) (cond (decide ((sl11Chosen a0 a1 a2 a3 a4 a5 ((a3.getD a6.toNat ((0:Int),([],((0:Int),[])))).1))<(0:Int))) (((((a3.getD a6.toNat ((0:Int),([],((0:Int),[])))).2).2).1)==(1:Int)) (cond (((((a3.getD a6.toNat ((0:Int),([],((0:Int),[])))).2).2).1)==(2:Int)) (cond ((a4.getD ((sl11Chosen a0 a1 a2 a3 a4 a5 ((a3.getD a6.toNat ((0:Int),([],((0:Int),[])))).1)).toNat) ((0:Int),false)).2) true (cond (((((a3.getD a6.toNat ((0:Int),([],((0:Int),[])))).2).2).1)==(3:Int)) (!((a4.getD ((sl11Chosen a0 a1 a2 a3 a4 a5 ((a3.getD a6.toNat ((0:Int),([],((0:Int),[])))).1)).toNat) ((0:Int),false)).2)) false)) (cond (((((a3.getD a6.toNat ((0:Int),([],((0:Int),[])))).2).2).1)==(3:Int)) (!((a4.getD ((sl11Chosen a0 a1 a2 a3 a4 a5 ((a3.getD a6.toNat ((0:Int),([],((0:Int),[])))).1)).toNat) ((0:Int),false)).2)) false))))))) (cond (!(sOpsOk (((a3.getD a6.toNat ((0:Int),([],((0:Int),[])))).2).1))) false (cond (!(k2_sl11Job a3 a6)) false (cond ((k3_sl11Job a0 a1 a2 a3 a4 a5 a6).1==0) ((k3_sl11Job a0 a1 a2 a3 a4 a5 a6).2) (cond (decide ((sl11Chosen a0 a1 a2 a3 a4 a5 ((a3.getD a6.toNat ((0:Int),([],((0:Int),[])))).1))<(0:Int))) (((((a3.getD a6.toNat ((0:Int),([],((0:Int),[])))).2).2).1)==(1:Int)) (cond (((((a3.getD a6.toNat ((0:Int),([],((0:Int),[])))).2).2).1)==(2:Int)) (cond ((a4.getD ((sl11Chosen a0 a1 a2 a3 a4 a5 ((a3.getD a6.toNat ((0:Int),([],((0:Int),[])))).1)).toNat) ((0:Int),false)).2) true (cond (((((a3.getD a6.toNat ((0:Int),([],((0:Int),[])))).2).2).1)==(3:Int)) (!((a4.getD ((sl11Chosen a0 a1 a2 a3 a4 a5 ((a3.getD a6.toNat ((0:Int),([],((0:Int),[])))).1)).toNat) ((0:Int),false)).2)) false)) (cond (((((a3.getD a6.toNat ((0:Int),([],((0:Int),[])))).2).2).1)==(3:Int)) (!((a4.getD ((sl11Chosen a0 a1 a2 a3 a4 a5 ((a3.getD a6.toNat ((0:Int),([],((0:Int),[])))).1)).toNat) ((0:Int),false)).2)) false))))))))
noncomputable abbrev e_sl11Job (r:Bool):AV×List AObj:=((.t true .bool r),[])
noncomputable abbrev g_sl11Job:pshsDen P_sl11Job→AV×List AObj:=fun d=>e_sl11Job (sl11Job d.1.1 d.1.2.1 d.1.2.2.1 d.1.2.2.2.1 d.1.2.2.2.2.1 d.1.2.2.2.2.2.1 d.2.1)
noncomputable def q_sl11Job (a0:Int) (a1:Int) (a2:Int) (a3:List (Int×(Lq1)×Int×List Int)) (a4:LIbe) (a5:Int) (a6:Int):Bool:=(decide (0≤a6∧a6<((a3.length:Nat):Int)))&&(cond (!(k1_sl11Job a1 a2 a3 a6)) true (cond (decide (a6 > (0:Int))) ((decide (0≤(IntKind.wrap .i64 (a6 - (1:Int)))∧(IntKind.wrap .i64 (a6 - (1:Int)))<((a3.length:Nat):Int)))&&(cond (decide (((a3.getD ((IntKind.wrap .i64 (a6 - (1:Int))).toNat) ((0:Int),([],((0:Int),[])))).1) ≥ ((a3.getD a6.toNat ((0:Int),([],((0:Int),[])))).1))) true ((q_sOpsOk (((a3.getD a6.toNat ((0:Int),([],((0:Int),[])))).2).1))&&(cond (!(sOpsOk (((a3.getD a6.toNat ((0:Int),([],((0:Int),[])))).2).1))) true (cond (!(k2_sl11Job a3 a6)) true ((q_sShardsOf (((a3.getD a6.toNat ((0:Int),([],((0:Int),[])))).2).1) a0)&&(cond ((k3_sl11Job a0 a1 a2 a3 a4 a5 a6).1==0) true (((k3_sl11Job a0 a1 a2 a3 a4 a5 a6).1==1)&&((q_sl11Chosen a0 a1 a2 a3 a4 a5 ((a3.getD a6.toNat ((0:Int),([],((0:Int),[])))).1))&&(cond (decide ((sl11Chosen a0 a1 a2 a3 a4 a5 ((a3.getD a6.toNat ((0:Int),([],((0:Int),[])))).1))<(0:Int))) true (cond (((((a3.getD a6.toNat ((0:Int),([],((0:Int),[])))).2).2).1)==(2:Int)) ((decide (0≤(sl11Chosen a0 a1 a2 a3 a4 a5 ((a3.getD a6.toNat ((0:Int),([],((0:Int),[])))).1))∧(sl11Chosen a0 a1 a2 a3 a4 a5 ((a3.getD a6.toNat ((0:Int),([],((0:Int),[])))).1))<((a4.length:Nat):Int)))&&(cond ((a4.getD ((sl11Chosen a0 a1 a2 a3 a4 a5 ((a3.getD a6.toNat ((0:Int),([],((0:Int),[])))).1)).toNat) ((0:Int),false)).2) true (cond (((((a3.getD a6.toNat ((0:Int),([],((0:Int),[])))).2).2).1)==(3:Int)) (decide (0≤(sl11Chosen a0 a1 a2 a3 a4 a5 ((a3.getD a6.toNat ((0:Int),([],((0:Int),[])))).1))∧(sl11Chosen a0 a1 a2 a3 a4 a5 ((a3.getD a6.toNat ((0:Int),([],((0:Int),[])))).1))<((a4.length:Nat):Int))) true))) (cond (((((a3.getD a6.toNat ((0:Int),([],((0:Int),[])))).2).2).1)==(3:Int)) (decide (0≤(sl11Chosen a0 a1 a2 a3 a4 a5 ((a3.getD a6.toNat ((0:Int),([],((0:Int),[])))).1))∧(sl11Chosen a0 a1 a2 a3 a4 a5 ((a3.getD a6.toNat ((0:Int),([],((0:Int),[])))).1))<((a4.length:Nat):Int))) true)))))))))))) ((q_sOpsOk (((a3.getD a6.toNat ((0:Int),([],((0:Int),[])))).2).1))&&(cond (!(sOpsOk (((a3.getD a6.toNat ((0:Int),([],((0:Int),[])))).2).1))) true (cond (!(k2_sl11Job a3 a6)) true ((q_sShardsOf (((a3.getD a6.toNat ((0:Int),([],((0:Int),[])))).2).1) a0)&&(cond ((k3_sl11Job a0 a1 a2 a3 a4 a5 a6).1==0) true (((k3_sl11Job a0 a1 a2 a3 a4 a5 a6).1==1)&&((q_sl11Chosen a0 a1 a2 a3 a4 a5 ((a3.getD a6.toNat ((0:Int),([],((0:Int),[])))).1))&&(cond (decide ((sl11Chosen a0 a1 a2 a3 a4 a5 ((a3.getD a6.toNat ((0:Int),([],((0:Int),[])))).1))<(0:Int))) true (cond (((((a3.getD a6.toNat ((0:Int),([],((0:Int),[])))).2).2).1)==(2:Int)) ((decide (0≤(sl11Chosen a0 a1 a2 a3 a4 a5 ((a3.getD a6.toNat ((0:Int),([],((0:Int),[])))).1))∧(sl11Chosen a0 a1 a2 a3 a4 a5 ((a3.getD a6.toNat ((0:Int),([],((0:Int),[])))).1))<((a4.length:Nat):Int)))&&(cond ((a4.getD ((sl11Chosen a0 a1 a2 a3 a4 a5 ((a3.getD a6.toNat ((0:Int),([],((0:Int),[])))).1)).toNat) ((0:Int),false)).2) true (cond (((((a3.getD a6.toNat ((0:Int),([],((0:Int),[])))).2).2).1)==(3:Int)) (decide (0≤(sl11Chosen a0 a1 a2 a3 a4 a5 ((a3.getD a6.toNat ((0:Int),([],((0:Int),[])))).1))∧(sl11Chosen a0 a1 a2 a3 a4 a5 ((a3.getD a6.toNat ((0:Int),([],((0:Int),[])))).1))<((a4.length:Nat):Int))) true))) (cond (((((a3.getD a6.toNat ((0:Int),([],((0:Int),[])))).2).2).1)==(3:Int)) (decide (0≤(sl11Chosen a0 a1 a2 a3 a4 a5 ((a3.getD a6.toNat ((0:Int),([],((0:Int),[])))).1))∧(sl11Chosen a0 a1 a2 a3 a4 a5 ((a3.getD a6.toNat ((0:Int),([],((0:Int),[])))).1))<((a4.length:Nat):Int))) true))))))))))))
noncomputable abbrev pre_sl11Job:pshsDen P_sl11Job→Bool:=fun d=>q_sl11Job d.1.1 d.1.2.1 d.1.2.2.1 d.1.2.2.2.1 d.1.2.2.2.2.1 d.1.2.2.2.2.2.1 d.2.1
noncomputable abbrev L_sl11Job:Nat→St→Option Tree:=fun b=>match b with | 0=>say_sl11Job_0 | _=>fun _=>none
theorem run_sl11Job:RunP true G28 (L_sl11Job) Try.f44 P_sl11Job pre_sl11Job g_sl11Job:=by
 rintro ⟨⟨a0,⟨a1,⟨a2,⟨a3,⟨a4,⟨a5,_⟩⟩⟩⟩⟩⟩,⟨a6,_⟩⟩ hp
 change q_sl11Job a0 a1 a2 a3 a4 a5 a6=true at hp
 unfold q_sl11Job at hp
 refine Eq.trans (b:=(cond (decide (0≤a6∧a6<((a3.length:Nat):Int))) (cond (!(k1_sl11Job a1 a2 a3 a6)) (some (e_sl11Job false)) (cond (decide (a6 > (0:Int))) (cond (decide (0≤(IntKind.wrap .i64 (a6 - (1:Int)))∧(IntKind.wrap .i64 (a6 - (1:Int)))<((a3.length:Nat):Int))) (cond (decide (((a3.getD ((IntKind.wrap .i64 (a6 - (1:Int))).toNat) ((0:Int),([],((0:Int),[])))).1) ≥ ((a3.getD a6.toNat ((0:Int),([],((0:Int),[])))).1))) (some (e_sl11Job false)) (cond (q_sOpsOk (((a3.getD a6.toNat ((0:Int),([],((0:Int),[])))).2).1)) (cond (!(sOpsOk (((a3.getD a6.toNat ((0:Int),([],((0:Int),[])))).2).1))) (some (e_sl11Job false)) (cond (!(k2_sl11Job a3 a6)) (some (e_sl11Job false)) (cond (q_sShardsOf (((a3.getD a6.toNat ((0:Int),([],((0:Int),[])))).2).1) a0) (cond ((k3_sl11Job a0 a1 a2 a3 a4 a5 a6).1==0) (some (e_sl11Job ((k3_sl11Job a0 a1 a2 a3 a4 a5 a6).2))) (cond ((k3_sl11Job a0 a1 a2 a3 a4 a5 a6).1==1) (cond (q_sl11Chosen a0 a1 a2 a3 a4 a5 ((a3.getD a6.toNat ((0:Int),([],((0:Int),[])))).1)) (cond (decide ((sl11Chosen a0 a1 a2 a3 a4 a5 ((a3.getD a6.toNat ((0:Int),([],((0:Int),[])))).1))<(0:Int))) (some (e_sl11Job (((((a3.getD a6.toNat ((0:Int),([],((0:Int),[])))).2).2).1)==(1:Int)))) (cond (((((a3.getD a6.toNat ((0:Int),([],((0:Int),[])))).2).2).1)==(2:Int)) (cond (decide (0≤(sl11Chosen a0 a1 a2 a3 a4 a5 ((a3.getD a6.toNat ((0:Int),([],((0:Int),[])))).1))∧(sl11Chosen a0 a1 a2 a3 a4 a5 ((a3.getD a6.toNat ((0:Int),([],((0:Int),[])))).1))<((a4.length:Nat):Int))) (cond ((a4.getD ((sl11Chosen a0 a1 a2 a3 a4 a5 ((a3.getD a6.toNat ((0:Int),([],((0:Int),[])))).1)).toNat) ((0:Int),false)).2) (some (e_sl11Job true)) (cond (((((a3.getD a6.toNat ((0:Int),([],((0:Int),[])))).2).2).1)==(3:Int)) (cond (decide (0≤(sl11Chosen a0 a1 a2 a3 a4 a5 ((a3.getD a6.toNat ((0:Int),([],((0:Int),[])))).1))∧(sl11Chosen a0 a1 a2 a3 a4 a5 ((a3.getD a6.toNat ((0:Int),([],((0:Int),[])))).1))<((a4.length:Nat):Int))) (some (e_sl11Job (!((a4.getD ((sl11Chosen a0 a1 a2 a3 a4 a5 ((a3.getD a6.toNat ((0:Int),([],((0:Int),[])))).1)).toNat) ((0:Int),false)).2)))) none) (some (e_sl11Job false)))) none) (cond (((((a3.getD a6.toNat ((0:Int),([],((0:Int),[])))).2).2).1)==(3:Int)) (cond (decide (0≤(sl11Chosen a0 a1 a2 a3 a4 a5 ((a3.getD a6.toNat ((0:Int),([],((0:Int),[])))).1))∧(sl11Chosen a0 a1 a2 a3 a4 a5 ((a3.getD a6.toNat ((0:Int),([],((0:Int),[])))).1))<((a4.length:Nat):Int))) (some (e_sl11Job (!((a4.getD ((sl11Chosen a0 a1 a2 a3 a4 a5 ((a3.getD a6.toNat ((0:Int),([],((0:Int),[])))).1)).toNat) ((0:Int),false)).2)))) none) (some (e_sl11Job false))))) none) none)) none))) none)) none) (cond (q_sOpsOk (((a3.getD a6.toNat ((0:Int),([],((0:Int),[])))).2).1)) (cond (!(sOpsOk (((a3.getD a6.toNat ((0:Int),([],((0:Int),[])))).2).1))) (some (e_sl11Job false)) (cond (!(k2_sl11Job a3 a6)) (some (e_sl11Job false)) (cond (q_sShardsOf (((a3.getD a6.toNat ((0:Int),([],((0:Int),[])))).2).1) a0) (cond ((k3_sl11Job a0 a1 a2 a3 a4 a5 a6).1==0) (some (e_sl11Job ((k3_sl11Job a0 a1 a2 a3 a4 a5 a6).2))) (cond ((k3_sl11Job a0 a1 a2 a3 a4 a5 a6).1==1) (cond (q_sl11Chosen a0 a1 a2 a3 a4 a5 ((a3.getD a6.toNat ((0:Int),([],((0:Int),[])))).1)) (cond (decide ((sl11Chosen a0 a1 a2 a3 a4 a5 ((a3.getD a6.toNat ((0:Int),([],((0:Int),[])))).1))<(0:Int))) (some (e_sl11Job (((((a3.getD a6.toNat ((0:Int),([],((0:Int),[])))).2).2).1)==(1:Int)))) (cond (((((a3.getD a6.toNat ((0:Int),([],((0:Int),[])))).2).2).1)==(2:Int)) (cond (decide (0≤(sl11Chosen a0 a1 a2 a3 a4 a5 ((a3.getD a6.toNat ((0:Int),([],((0:Int),[])))).1))∧(sl11Chosen a0 a1 a2 a3 a4 a5 ((a3.getD a6.toNat ((0:Int),([],((0:Int),[])))).1))<((a4.length:Nat):Int))) (cond ((a4.getD ((sl11Chosen a0 a1 a2 a3 a4 a5 ((a3.getD a6.toNat ((0:Int),([],((0:Int),[])))).1)).toNat) ((0:Int),false)).2) (some (e_sl11Job true)) (cond (((((a3.getD a6.toNat ((0:Int),([],((0:Int),[])))).2).2).1)==(3:Int)) (cond (decide (0≤(sl11Chosen a0 a1 a2 a3 a4 a5 ((a3.getD a6.toNat ((0:Int),([],((0:Int),[])))).1))∧(sl11Chosen a0 a1 a2 a3 a4 a5 ((a3.getD a6.toNat ((0:Int),([],((0:Int),[])))).1))<((a4.length:Nat):Int))) (some (e_sl11Job (!((a4.getD ((sl11Chosen a0 a1 a2 a3 a4 a5 ((a3.getD a6.toNat ((0:Int),([],((0:Int),[])))).1)).toNat) ((0:Int),false)).2)))) none) (some (e_sl11Job false)))) none) (cond (((((a3.getD a6.toNat ((0:Int),([],((0:Int),[])))).2).2).1)==(3:Int)) (cond (decide (0≤(sl11Chosen a0 a1 a2 a3 a4 a5 ((a3.getD a6.toNat ((0:Int),([],((0:Int),[])))).1))∧(sl11Chosen a0 a1 a2 a3 a4 a5 ((a3.getD a6.toNat ((0:Int),([],((0:Int),[])))).1))<((a4.length:Nat):Int))) (some (e_sl11Job (!((a4.getD ((sl11Chosen a0 a1 a2 a3 a4 a5 ((a3.getD a6.toNat ((0:Int),([],((0:Int),[])))).1)).toNat) ((0:Int),false)).2)))) none) (some (e_sl11Job false))))) none) none)) none))) none))) none)) (by kernel_rfl) ?_
 exact (cndA hp fun hp=>(cndE e_sl11Job hp (fun hp=>rfl) (fun hp=>(cndE e_sl11Job hp (fun hp=>(cndA hp fun hp=>(cndE e_sl11Job hp (fun hp=>rfl) (fun hp=>(cndA hp fun hp=>(cndE e_sl11Job hp (fun hp=>rfl) (fun hp=>(cndE e_sl11Job hp (fun hp=>rfl) (fun hp=>(cndA hp fun hp=>(cndE e_sl11Job hp (fun hp=>rfl) (fun hp=>(cndA hp fun hp=>(cndA hp fun hp=>(cndE e_sl11Job hp (fun hp=>rfl) (fun hp=>(cndE e_sl11Job hp (fun hp=>(cndA hp fun hp=>(cndE e_sl11Job hp (fun hp=>rfl) (fun hp=>(cndE e_sl11Job hp (fun hp=>(cndT hp fun _h=>rfl)) (fun hp=>rfl)))))) (fun hp=>(cndE e_sl11Job hp (fun hp=>(cndT hp fun _h=>rfl)) (fun hp=>rfl)))))))))))))))))))) (fun hp=>(cndA hp fun hp=>(cndE e_sl11Job hp (fun hp=>rfl) (fun hp=>(cndE e_sl11Job hp (fun hp=>rfl) (fun hp=>(cndA hp fun hp=>(cndE e_sl11Job hp (fun hp=>rfl) (fun hp=>(cndA hp fun hp=>(cndA hp fun hp=>(cndE e_sl11Job hp (fun hp=>rfl) (fun hp=>(cndE e_sl11Job hp (fun hp=>(cndA hp fun hp=>(cndE e_sl11Job hp (fun hp=>rfl) (fun hp=>(cndE e_sl11Job hp (fun hp=>(cndT hp fun _h=>rfl)) (fun hp=>rfl)))))) (fun hp=>(cndE e_sl11Job hp (fun hp=>(cndT hp fun _h=>rfl)) (fun hp=>rfl)))))))))))))))))))))
theorem c_sl11Job:PContract Try.prog 44 (sumOf P_sl11Job pre_sl11Job g_sl11Job):=pcD true G28 (hl1 (i:=0) (by kernel_rfl) lw_sl11Job_0) run_sl11Job
noncomputable def S29:Tab:=Tab.add S28 44 (lift (sumOf P_sl11Job pre_sl11Job g_sl11Job))
noncomputable def QF29:FuncId→Bool:=qadd QF28 44
theorem G29:Good Try.prog tt S29 QF29:=G28.addQ c_sl11Job (cbl Try.f44) (fun _=>rfl)

noncomputable abbrev jS77:List Sh:=.junk::.junk::.junk::.junk::.junk::.junk::.junk::.junk::.junk::.junk::.junk::.junk::.junk::.junk::.junk::.junk::.junk::.junk::.junk::.junk::.junk::.junk::.junk::.junk::.junk::.junk::.junk::.junk::.junk::.junk::.junk::.junk::.junk::.junk::.junk::.junk::.junk::.junk::jS39
noncomputable abbrev jS78:List Sh:=.junk::jS77
noncomputable abbrev jS79:List Sh:=.junk::jS78
noncomputable abbrev u79:=((),(),(),(),(),(),(),(),(),(),(),(),(),(),(),(),(),(),(),(),(),(),(),(),(),(),(),(),(),(),(),(),(),(),(),(),u43)
noncomputable abbrev u78:=((),(),(),(),(),(),(),(),(),(),(),(),(),(),(),(),(),(),(),(),(),(),(),(),(),(),(),(),(),(),(),(),(),(),(),u43)
noncomputable abbrev u82:=((),(),(),u79)
noncomputable abbrev jA78:List AV:=.junk::.junk::.junk::.junk::.junk::.junk::.junk::.junk::.junk::.junk::.junk::.junk::.junk::.junk::.junk::.junk::.junk::.junk::.junk::.junk::.junk::.junk::.junk::.junk::.junk::.junk::.junk::.junk::.junk::.junk::.junk::.junk::.junk::.junk::.junk::.junk::.junk::.junk::.junk::jA39
noncomputable abbrev jA77:List AV:=.junk::.junk::.junk::.junk::.junk::.junk::.junk::.junk::.junk::.junk::.junk::.junk::.junk::.junk::.junk::.junk::.junk::.junk::.junk::.junk::.junk::.junk::.junk::.junk::.junk::.junk::.junk::.junk::.junk::.junk::.junk::.junk::.junk::.junk::.junk::.junk::.junk::.junk::jA39
noncomputable abbrev jA79:List AV:=.junk::jA78
noncomputable abbrev jS76:List Sh:=.junk::.junk::.junk::.junk::.junk::.junk::.junk::.junk::.junk::.junk::.junk::.junk::.junk::.junk::.junk::.junk::.junk::.junk::.junk::.junk::.junk::.junk::.junk::.junk::.junk::.junk::.junk::.junk::.junk::.junk::.junk::.junk::.junk::.junk::.junk::.junk::.junk::jS39
noncomputable abbrev jS80:List Sh:=.junk::jS79
noncomputable abbrev u77:=((),(),(),(),(),(),(),(),(),(),(),(),(),(),(),(),(),(),(),(),(),(),(),(),(),(),(),(),(),(),(),(),(),(),u43)
noncomputable abbrev jA76:List AV:=.junk::.junk::.junk::.junk::.junk::.junk::.junk::.junk::.junk::.junk::.junk::.junk::.junk::.junk::.junk::.junk::.junk::.junk::.junk::.junk::.junk::.junk::.junk::.junk::.junk::.junk::.junk::.junk::.junk::.junk::.junk::.junk::.junk::.junk::.junk::.junk::.junk::jA39
noncomputable abbrev jA80:List AV:=.junk::jA79
noncomputable abbrev P_sCoordOk:List PSh:=[.agg [(.int .i64),(.int .i64),(.int .i64),tq2,tq3,(.int .i64)]]
noncomputable def body_sCoordOk_0:Code:=((loopsIn 0 (bodyOf Try.f14)).getD 0 (0,.skip)).2
noncomputable def body_sCoordOk_1:Code:=((loopsIn 0 (bodyOf Try.f14)).getD 1 (0,.skip)).2
noncomputable abbrev S_sCoordOk_0:SS:=⟨(.junk::.ptr 0 0 1 0::.junk::.t true (.int .i64)::jS77),[.box [.t true (.int .i64),.t true (.int .i64),.t true (.int .i64),.t false tq2,.t false tq3,.t true (.int .i64)]]⟩
noncomputable abbrev E_sCoordOk_0_0:SS:=⟨(.junk::.junk::.t true .bool::jS78),[]⟩
noncomputable abbrev E_sCoordOk_0_1:SS:=⟨(.junk::.ptr 0 0 1 0::jS79),[.box [.t true (.int .i64),.t true (.int .i64),.t true (.int .i64),.t false tq2,.t false tq3,.t true (.int .i64)]]⟩
noncomputable def k1_sCoordOk (x3:Int) (p1:Int) (p2:Int) (p4:LIbe):=sl1In ((p4.getD x3.toNat ((0:Int),false)).1) (1000:Int) (IntKind.wrap .i64 ((IntKind.wrap .i64 ((IntKind.wrap .i64 (p1*(1000:Int)))+p2)) - (1:Int)))
noncomputable def st_sCoordOk_0 (x3:Int) (p0:Int) (p1:Int) (p2:Int) (p3:List (Int×(Lq1)×Int×List Int)) (p4:LIbe) (p5:Int):RT S_sCoordOk_0.den:=(.br (decide (x3<((p4.length:Nat):Int))) (.br (decide (0≤x3∧x3<((p4.length:Nat):Int))) (.br (!(k1_sCoordOk x3 p1 p2 p4)) (.done .ret E_sCoordOk_0_0 (((),(),false,u79),())) (.br (decide (0≤x3∧x3<((p4.length:Nat):Int))) (.br (q_sl11Chosen p0 p1 p2 p3 p4 p5 ((p4.getD x3.toNat ((0:Int),false)).1)) (.br ((sl11Chosen p0 p1 p2 p3 p4 p5 ((p4.getD x3.toNat ((0:Int),false)).1)) != x3) (.done .ret E_sCoordOk_0_0 (((),(),false,u79),())) (.next (((),(),(),IntKind.wrap .i64 (x3+(1:Int)),u78),((p0,p1,p2,p3,p4,p5,()),())))) .fail) .fail)) .fail) (.done (.exit 0) E_sCoordOk_0_1 ((u82),((p0,p1,p2,p3,p4,p5,()),()))))
noncomputable abbrev V_sCoordOk_0:=(Int)
noncomputable abbrev A_sCoordOk_0:=Nat×(Bool)
noncomputable def fl_sCoordOk_0:A_sCoordOk_0:=(99,(false:Bool))
noncomputable def ss_sCoordOk_0 (x3:Int) (p0:Int) (p1:Int) (p2:Int) (p3:List (Int×(Lq1)×Int×List Int)) (p4:LIbe) (p5:Int):V_sCoordOk_0 ⊕ A_sCoordOk_0:=(cond (decide (x3<((p4.length:Nat):Int))) (cond (decide (0≤x3∧x3<((p4.length:Nat):Int))) (cond (!(k1_sCoordOk x3 p1 p2 p4)) (.inr (0,false)) (cond (decide (0≤x3∧x3<((p4.length:Nat):Int))) (cond (q_sl11Chosen p0 p1 p2 p3 p4 p5 ((p4.getD x3.toNat ((0:Int),false)).1)) (cond ((sl11Chosen p0 p1 p2 p3 p4 p5 ((p4.getD x3.toNat ((0:Int),false)).1)) != x3) (.inr (0,false)) (.inl (IntKind.wrap .i64 (x3+(1:Int))))) (.inr fl_sCoordOk_0)) (.inr fl_sCoordOk_0))) (.inr fl_sCoordOk_0)) (.inr (1,(false:Bool))))
noncomputable def it_sCoordOk_0 (x3:Int) (p0:Int) (p1:Int) (p2:Int) (p3:List (Int×(Lq1)×Int×List Int)) (p4:LIbe) (p5:Int):A_sCoordOk_0:=itX (fun v:V_sCoordOk_0=>ss_sCoordOk_0 v p0 p1 p2 p3 p4 p5) fl_sCoordOk_0 x3
noncomputable def ct_sCoordOk_0 (p0:Int) (p1:Int) (p2:Int) (p3:List (Int×(Lq1)×Int×List Int)) (p4:LIbe) (p5:Int) (a:A_sCoordOk_0):CT:=(.br (a.1==0) (.done .ret E_sCoordOk_0_0 (((),(),a.2,u79),())) (.br (a.1==1) (.done (.exit 0) E_sCoordOk_0_1 ((u82),((p0,p1,p2,p3,p4,p5,()),()))) .fail))
noncomputable def T_sCoordOk_0 (x3:Int) (p0:Int) (p1:Int) (p2:Int) (p3:List (Int×(Lq1)×Int×List Int)) (p4:LIbe) (p5:Int):CT:=(ct_sCoordOk_0 p0 p1 p2 p3 p4 p5) (it_sCoordOk_0 x3 p0 p1 p2 p3 p4 p5)
noncomputable abbrev ap_sCoordOk_0 {α:Sort _} (f:Int→Int→Int→Int→(List (Int×(Lq1)×Int×List Int))→(LIbe)→Int→α) (d:S_sCoordOk_0.den):α:=f d.1.2.2.2.1 d.2.1.1 d.2.1.2.1 d.2.1.2.2.1 d.2.1.2.2.2.1 d.2.1.2.2.2.2.1 d.2.1.2.2.2.2.2.1
noncomputable abbrev sp_sCoordOk_0:S_sCoordOk_0.den→RT S_sCoordOk_0.den:=(ap_sCoordOk_0 st_sCoordOk_0)
noncomputable abbrev pv_sCoordOk_0 (p0:Int) (p1:Int) (p2:Int) (p3:List (Int×(Lq1)×Int×List Int)) (p4:LIbe) (p5:Int) (v:V_sCoordOk_0):S_sCoordOk_0.den:=(((),(),(),v,u78),((p0,p1,p2,p3,p4,p5,()),()))
theorem rl_sCoordOk_0 (p0:Int) (p1:Int) (p2:Int) (p3:List (Int×(Lq1)×Int×List Int)) (p4:LIbe) (p5:Int):(∀ v:V_sCoordOk_0,(st_sCoordOk_0 v p0 p1 p2 p3 p4 p5).val=relS (pv_sCoordOk_0 p0 p1 p2 p3 p4 p5) (ct_sCoordOk_0 p0 p1 p2 p3 p4 p5) (ss_sCoordOk_0 v p0 p1 p2 p3 p4 p5))∧∀ a:A_sCoordOk_0,CEnd S_sCoordOk_0.den ((ct_sCoordOk_0 p0 p1 p2 p3 p4 p5) a):=⟨fun v=>by repeat' first | apply relB | rfl,fun a=>(cendB (cendD (by simp)) (cendB (cendD (by simp)) cendF))⟩
noncomputable def ox_sCoordOk_0 (x3:Int) (p0:Int) (p1:Int) (p2:Int) (p3:List (Int×(Lq1)×Int×List Int)) (p4:LIbe) (p5:Int):Option (Ex×St):=(cond (decide (x3<((p4.length:Nat):Int))) (cond (decide (0≤x3∧x3<((p4.length:Nat):Int))) (cond (!(k1_sCoordOk x3 p1 p2 p4)) (some (.ret,(⟨(.junk::.junk::(.t true .bool false)::jA78),[],0,[]⟩:St))) (cond (decide (0≤x3∧x3<((p4.length:Nat):Int))) (cond (q_sl11Chosen p0 p1 p2 p3 p4 p5 ((p4.getD x3.toNat ((0:Int),false)).1)) (cond ((sl11Chosen p0 p1 p2 p3 p4 p5 ((p4.getD x3.toNat ((0:Int),false)).1)) != x3) (some (.ret,(⟨(.junk::.junk::(.t true .bool false)::jA78),[],0,[]⟩:St))) (some (.normal,(⟨(.junk::(.ptr 0 0 1 0)::.junk::(.t true (.int .i64) (IntKind.wrap .i64 (x3+(1:Int))))::jA77),[(.box [(.t true (.int .i64) p0),(.t true (.int .i64) p1),(.t true (.int .i64) p2),(.t false tq2 p3),(.t false tq3 p4),(.t true (.int .i64) p5)])],0,[]⟩:St)))) none) none)) none) (some ((.exit 0),(⟨(.junk::(.ptr 0 0 1 0)::jA79),[(.box [(.t true (.int .i64) p0),(.t true (.int .i64) p1),(.t true (.int .i64) p2),(.t false tq2 p3),(.t false tq3 p4),(.t true (.int .i64) p5)])],0,[]⟩:St))))
theorem rdA_sCoordOk_0:RdA G29 (fun _ _=>none) 0 body_sCoordOk_0 S_sCoordOk_0 0 [] (kepts [2] [(0,[1])]) (ap_sCoordOk_0 ox_sCoordOk_0):=by
 intro d
 kernel_rfl
theorem rdB_sCoordOk_0:∀ d:S_sCoordOk_0.den,(ap_sCoordOk_0 ox_sCoordOk_0) d=(sp_sCoordOk_0 d).opt 0 []:=by
 intro d
 kernel_rfl
noncomputable abbrev say_sCoordOk_0:St→Option Tree:=S_sCoordOk_0.say 0 [] [] (ap_sCoordOk_0 T_sCoordOk_0)
theorem lw_sCoordOk_0:LoopWp Try.prog say_sCoordOk_0 body_sCoordOk_0:=SS.wp2 hlz [] sp_sCoordOk_0 rdA_sCoordOk_0 rdB_sCoordOk_0 _ (fun d=>Runs.ofI2 (step:=sp_sCoordOk_0) (pv_sCoordOk_0 d.2.1.1 d.2.1.2.1 d.2.1.2.2.1 d.2.1.2.2.2.1 d.2.1.2.2.2.2.1 d.2.1.2.2.2.2.2.1) (rl_sCoordOk_0 d.2.1.1 d.2.1.2.1 d.2.1.2.2.1 d.2.1.2.2.2.1 d.2.1.2.2.2.2.1 d.2.1.2.2.2.2.2.1) rfl d.1.2.2.2.1)
noncomputable abbrev S_sCoordOk_1:SS:=⟨(.junk::.ptr 0 0 1 0::.junk::.junk::.t true (.int .i64)::jS76),[.box [.t true (.int .i64),.t true (.int .i64),.t true (.int .i64),.t false tq2,.t false tq3,.t true (.int .i64)]]⟩
noncomputable abbrev E_sCoordOk_1_0:SS:=⟨(.junk::.junk::.t true .bool::jS78),[]⟩
noncomputable abbrev E_sCoordOk_1_1:SS:=⟨(.junk::jS80),[]⟩
noncomputable def st_sCoordOk_1 (x4:Int) (p0:Int) (p1:Int) (p2:Int) (p3:List (Int×(Lq1)×Int×List Int)) (p4:LIbe) (p5:Int):RT S_sCoordOk_1.den:=(.br (decide (x4<((p3.length:Nat):Int))) (.br (q_sl11Job p0 p1 p2 p3 p4 p5 x4) (.br (!(sl11Job p0 p1 p2 p3 p4 p5 x4)) (.done .ret E_sCoordOk_1_0 (((),(),false,u79),())) (.next (((),(),(),(),IntKind.wrap .i64 (x4+(1:Int)),u77),((p0,p1,p2,p3,p4,p5,()),())))) .fail) (.done (.exit 2) E_sCoordOk_1_1 ((u82),())))
noncomputable abbrev V_sCoordOk_1:=(Int)
noncomputable abbrev A_sCoordOk_1:=Nat×(Bool)
noncomputable def fl_sCoordOk_1:A_sCoordOk_1:=(99,(false:Bool))
noncomputable def ss_sCoordOk_1 (x4:Int) (p0:Int) (p1:Int) (p2:Int) (p3:List (Int×(Lq1)×Int×List Int)) (p4:LIbe) (p5:Int):V_sCoordOk_1 ⊕ A_sCoordOk_1:=(cond (decide (x4<((p3.length:Nat):Int))) (cond (q_sl11Job p0 p1 p2 p3 p4 p5 x4) (cond (!(sl11Job p0 p1 p2 p3 p4 p5 x4)) (.inr (0,false)) (.inl (IntKind.wrap .i64 (x4+(1:Int))))) (.inr fl_sCoordOk_1)) (.inr (1,(false:Bool))))
noncomputable def it_sCoordOk_1 (x4:Int) (p0:Int) (p1:Int) (p2:Int) (p3:List (Int×(Lq1)×Int×List Int)) (p4:LIbe) (p5:Int):A_sCoordOk_1:=itX (fun v:V_sCoordOk_1=>ss_sCoordOk_1 v p0 p1 p2 p3 p4 p5) fl_sCoordOk_1 x4
noncomputable def ct_sCoordOk_1 (p0:Int) (p1:Int) (p2:Int) (p3:List (Int×(Lq1)×Int×List Int)) (p4:LIbe) (p5:Int) (a:A_sCoordOk_1):CT:=(.br (a.1==0) (.done .ret E_sCoordOk_1_0 (((),(),a.2,u79),())) (.br (a.1==1) (.done (.exit 2) E_sCoordOk_1_1 ((u82),())) .fail))
noncomputable def T_sCoordOk_1 (x4:Int) (p0:Int) (p1:Int) (p2:Int) (p3:List (Int×(Lq1)×Int×List Int)) (p4:LIbe) (p5:Int):CT:=(ct_sCoordOk_1 p0 p1 p2 p3 p4 p5) (it_sCoordOk_1 x4 p0 p1 p2 p3 p4 p5)
noncomputable abbrev ap_sCoordOk_1 {α:Sort _} (f:Int→Int→Int→Int→(List (Int×(Lq1)×Int×List Int))→(LIbe)→Int→α) (d:S_sCoordOk_1.den):α:=f d.1.2.2.2.2.1 d.2.1.1 d.2.1.2.1 d.2.1.2.2.1 d.2.1.2.2.2.1 d.2.1.2.2.2.2.1 d.2.1.2.2.2.2.2.1
noncomputable abbrev sp_sCoordOk_1:S_sCoordOk_1.den→RT S_sCoordOk_1.den:=(ap_sCoordOk_1 st_sCoordOk_1)
noncomputable abbrev pv_sCoordOk_1 (p0:Int) (p1:Int) (p2:Int) (p3:List (Int×(Lq1)×Int×List Int)) (p4:LIbe) (p5:Int) (v:V_sCoordOk_1):S_sCoordOk_1.den:=(((),(),(),(),v,u77),((p0,p1,p2,p3,p4,p5,()),()))
theorem rl_sCoordOk_1 (p0:Int) (p1:Int) (p2:Int) (p3:List (Int×(Lq1)×Int×List Int)) (p4:LIbe) (p5:Int):(∀ v:V_sCoordOk_1,(st_sCoordOk_1 v p0 p1 p2 p3 p4 p5).val=relS (pv_sCoordOk_1 p0 p1 p2 p3 p4 p5) (ct_sCoordOk_1 p0 p1 p2 p3 p4 p5) (ss_sCoordOk_1 v p0 p1 p2 p3 p4 p5))∧∀ a:A_sCoordOk_1,CEnd S_sCoordOk_1.den ((ct_sCoordOk_1 p0 p1 p2 p3 p4 p5) a):=⟨fun v=>(relB (relB (relB rfl rfl) rfl) rfl),fun a=>(cendB (cendD (by simp)) (cendB (cendD (by simp)) cendF))⟩
noncomputable def ox_sCoordOk_1 (x4:Int) (p0:Int) (p1:Int) (p2:Int) (p3:List (Int×(Lq1)×Int×List Int)) (p4:LIbe) (p5:Int):Option (Ex×St):=(cond (decide (x4<((p3.length:Nat):Int))) (cond (q_sl11Job p0 p1 p2 p3 p4 p5 x4) (cond (!(sl11Job p0 p1 p2 p3 p4 p5 x4)) (some (.ret,(⟨(.junk::.junk::(.t true .bool false)::jA78),[],0,[]⟩:St))) (some (.normal,(⟨(.junk::(.ptr 0 0 1 0)::.junk::.junk::(.t true (.int .i64) (IntKind.wrap .i64 (x4+(1:Int))))::jA76),[(.box [(.t true (.int .i64) p0),(.t true (.int .i64) p1),(.t true (.int .i64) p2),(.t false tq2 p3),(.t false tq3 p4),(.t true (.int .i64) p5)])],0,[]⟩:St)))) none) (some ((.exit 2),(⟨(.junk::jA80),[],0,[]⟩:St))))
theorem rdA_sCoordOk_1:RdA G29 (fun _ _=>none) 2 body_sCoordOk_1 S_sCoordOk_1 0 [] (kepts [2] [(2,[])]) (ap_sCoordOk_1 ox_sCoordOk_1):=by
 intro d
 kernel_rfl
theorem rdB_sCoordOk_1:∀ d:S_sCoordOk_1.den,(ap_sCoordOk_1 ox_sCoordOk_1) d=(sp_sCoordOk_1 d).opt 0 []:=by
 intro d
 kernel_rfl
noncomputable abbrev say_sCoordOk_1:St→Option Tree:=S_sCoordOk_1.say 0 [] [] (ap_sCoordOk_1 T_sCoordOk_1)
theorem lw_sCoordOk_1:LoopWp Try.prog say_sCoordOk_1 body_sCoordOk_1:=SS.wp2 hlz [] sp_sCoordOk_1 rdA_sCoordOk_1 rdB_sCoordOk_1 _ (fun d=>Runs.ofI2 (step:=sp_sCoordOk_1) (pv_sCoordOk_1 d.2.1.1 d.2.1.2.1 d.2.1.2.2.1 d.2.1.2.2.2.1 d.2.1.2.2.2.2.1 d.2.1.2.2.2.2.2.1) (rl_sCoordOk_1 d.2.1.1 d.2.1.2.1 d.2.1.2.2.1 d.2.1.2.2.2.1 d.2.1.2.2.2.2.1 d.2.1.2.2.2.2.2.1) rfl d.1.2.2.2.2.1)
noncomputable def sCoordOk (a0:Int) (a1:Int) (a2:Int) (a3:List (Int×(Lq1)×Int×List Int)) (a4:LIbe) (a5:Int):Bool:=(cond (!(sl1In a0 (1:Int) (8:Int))) false (cond (!(sl1In a1 (1:Int) (900:Int))) false (cond (!(sl1In a2 (0:Int) (999:Int))) false (cond (decide (((a4.length:Nat):Int) > (1000:Int))) false (cond (!(sl1In a5 (0:Int) ((a4.length:Nat):Int))) false (cond ((it_sCoordOk_0 (0:Int) a0 a1 a2 a3 a4 a5).1==0) ((it_sCoordOk_0 (0:Int) a0 a1 a2 a3 a4 a5).2) (cond ((it_sCoordOk_1 (0:Int) a0 a1 a2 a3 a4 a5).1==0) ((it_sCoordOk_1 (0:Int) a0 a1 a2 a3 a4 a5).2) true)))))))
noncomputable abbrev e_sCoordOk (r:Bool):AV×List AObj:=((.t true .bool r),[])
noncomputable abbrev g_sCoordOk:pshsDen P_sCoordOk→AV×List AObj:=fun d=>e_sCoordOk (sCoordOk d.1.1 d.1.2.1 d.1.2.2.1 d.1.2.2.2.1 d.1.2.2.2.2.1 d.1.2.2.2.2.2.1)
noncomputable def q_sCoordOk (a0:Int) (a1:Int) (a2:Int) (a3:List (Int×(Lq1)×Int×List Int)) (a4:LIbe) (a5:Int):Bool:=cond (!(sl1In a0 (1:Int) (8:Int))) true (cond (!(sl1In a1 (1:Int) (900:Int))) true (cond (!(sl1In a2 (0:Int) (999:Int))) true (cond (decide (((a4.length:Nat):Int) > (1000:Int))) true (cond (!(sl1In a5 (0:Int) ((a4.length:Nat):Int))) true (cond ((it_sCoordOk_0 (0:Int) a0 a1 a2 a3 a4 a5).1==0) true (((it_sCoordOk_0 (0:Int) a0 a1 a2 a3 a4 a5).1==1)&&(cond ((it_sCoordOk_1 (0:Int) a0 a1 a2 a3 a4 a5).1==0) true ((it_sCoordOk_1 (0:Int) a0 a1 a2 a3 a4 a5).1==1))))))))
noncomputable abbrev pre_sCoordOk:pshsDen P_sCoordOk→Bool:=fun d=>q_sCoordOk d.1.1 d.1.2.1 d.1.2.2.1 d.1.2.2.2.1 d.1.2.2.2.2.1 d.1.2.2.2.2.2.1
noncomputable abbrev L_sCoordOk:Nat→St→Option Tree:=fun b=>match b with | 0=>say_sCoordOk_0 | 2=>say_sCoordOk_1 | _=>fun _=>none
theorem run_sCoordOk:RunP true G29 (L_sCoordOk) Try.f14 P_sCoordOk pre_sCoordOk g_sCoordOk:=by
 rintro ⟨⟨a0,⟨a1,⟨a2,⟨a3,⟨a4,⟨a5,_⟩⟩⟩⟩⟩⟩,_⟩ hp
 change q_sCoordOk a0 a1 a2 a3 a4 a5=true at hp
 unfold q_sCoordOk at hp
 refine Eq.trans (b:=(cond (!(sl1In a0 (1:Int) (8:Int))) (some (e_sCoordOk false)) (cond (!(sl1In a1 (1:Int) (900:Int))) (some (e_sCoordOk false)) (cond (!(sl1In a2 (0:Int) (999:Int))) (some (e_sCoordOk false)) (cond (decide (((a4.length:Nat):Int) > (1000:Int))) (some (e_sCoordOk false)) (cond (!(sl1In a5 (0:Int) ((a4.length:Nat):Int))) (some (e_sCoordOk false)) (cond ((it_sCoordOk_0 (0:Int) a0 a1 a2 a3 a4 a5).1==0) (some (e_sCoordOk ((it_sCoordOk_0 (0:Int) a0 a1 a2 a3 a4 a5).2))) (cond ((it_sCoordOk_0 (0:Int) a0 a1 a2 a3 a4 a5).1==1) (cond ((it_sCoordOk_1 (0:Int) a0 a1 a2 a3 a4 a5).1==0) (some (e_sCoordOk ((it_sCoordOk_1 (0:Int) a0 a1 a2 a3 a4 a5).2))) (cond ((it_sCoordOk_1 (0:Int) a0 a1 a2 a3 a4 a5).1==1) (some (e_sCoordOk true)) none)) none)))))))) (by kernel_rfl) ?_
 exact (cndE e_sCoordOk hp (fun hp=>rfl) (fun hp=>(cndE e_sCoordOk hp (fun hp=>rfl) (fun hp=>(cndE e_sCoordOk hp (fun hp=>rfl) (fun hp=>(cndE e_sCoordOk hp (fun hp=>rfl) (fun hp=>(cndE e_sCoordOk hp (fun hp=>rfl) (fun hp=>(cndE e_sCoordOk hp (fun hp=>rfl) (fun hp=>(cndA hp fun hp=>(cndE e_sCoordOk hp (fun hp=>rfl) (fun hp=>(cndT hp fun _h=>rfl))))))))))))))))
theorem c_sCoordOk:PContract Try.prog 14 (sumOf P_sCoordOk pre_sCoordOk g_sCoordOk):=pcD true G29 (by
  rw [show loopsIn 0 (bodyOf Try.f14)=[(0,body_sCoordOk_0),(2,body_sCoordOk_1)] by kernel_rfl];intro p hp;simp only [List.mem_cons,List.mem_nil_iff,or_false] at hp
  rcases hp with rfl | rfl
  ·exact lw_sCoordOk_0
  ·exact lw_sCoordOk_1) run_sCoordOk
noncomputable def S30:Tab:=Tab.add S29 14 (lift (sumOf P_sCoordOk pre_sCoordOk g_sCoordOk))
noncomputable def QF30:FuncId→Bool:=qadd QF29 14
theorem G30:Good Try.prog tt S30 QF30:=G29.addQ c_sCoordOk (cbl Try.f14) (fun _=>rfl)

noncomputable abbrev P_sSureAll:List PSh:=[.agg [(.int .i64),(.int .i64),(.int .i64),tq2,tq3,(.int .i64)]]
noncomputable def sSureAll (a0:Int) (a1:Int) (a2:Int) (a3:List (Int×(Lq1)×Int×List Int)) (a4:LIbe) (a5:Int):Int×Int×Int×(List (Int×(Lq1)×Int×List Int))×(LIbe)×Int:=(cond (sCoordOk a0 a1 a2 a3 a4 a5) (((sl11Copy a0 a1 a2 a3 a4 a5).1),((sl11Copy a0 a1 a2 a3 a4 a5).2.1),((sl11Copy a0 a1 a2 a3 a4 a5).2.2.1),((sl11Copy a0 a1 a2 a3 a4 a5).2.2.2.1),((sl11Copy a0 a1 a2 a3 a4 a5).2.2.2.2.1),((((sl11Copy a0 a1 a2 a3 a4 a5).2.2.2.2.1).length:Nat):Int)) (((sl11Copy a0 a1 a2 a3 a4 a5).1),((sl11Copy a0 a1 a2 a3 a4 a5).2.1),((sl11Copy a0 a1 a2 a3 a4 a5).2.2.1),((sl11Copy a0 a1 a2 a3 a4 a5).2.2.2.1),((sl11Copy a0 a1 a2 a3 a4 a5).2.2.2.2.1),((sl11Copy a0 a1 a2 a3 a4 a5).2.2.2.2.2)))
noncomputable abbrev e_sSureAll (r:Int×Int×Int×(List (Int×(Lq1)×Int×List Int))×(LIbe)×Int):AV×List AObj:=((.agg [(.t true (.int .i64) r.1),(.t true (.int .i64) r.2.1),(.t true (.int .i64) r.2.2.1),(.t true tq2 r.2.2.2.1),(.t true tq3 r.2.2.2.2.1),(.t true (.int .i64) r.2.2.2.2.2)]),[])
noncomputable abbrev g_sSureAll:pshsDen P_sSureAll→AV×List AObj:=fun d=>e_sSureAll (sSureAll d.1.1 d.1.2.1 d.1.2.2.1 d.1.2.2.2.1 d.1.2.2.2.2.1 d.1.2.2.2.2.2.1)
noncomputable def q_sSureAll (a0:Int) (a1:Int) (a2:Int) (a3:List (Int×(Lq1)×Int×List Int)) (a4:LIbe) (a5:Int):Bool:=(q_sl11Copy a0 a1 a2 a3 a4 a5)&&(q_sCoordOk a0 a1 a2 a3 a4 a5)
noncomputable abbrev pre_sSureAll:pshsDen P_sSureAll→Bool:=fun d=>q_sSureAll d.1.1 d.1.2.1 d.1.2.2.1 d.1.2.2.2.1 d.1.2.2.2.2.1 d.1.2.2.2.2.2.1
theorem run_sSureAll:RunP true G30 (fun _ _=>none) Try.f34 P_sSureAll pre_sSureAll g_sSureAll:=by
 rintro ⟨⟨a0,⟨a1,⟨a2,⟨a3,⟨a4,⟨a5,_⟩⟩⟩⟩⟩⟩,_⟩ hp
 change q_sSureAll a0 a1 a2 a3 a4 a5=true at hp
 unfold q_sSureAll at hp
 refine Eq.trans (b:=(cond (q_sl11Copy a0 a1 a2 a3 a4 a5) (cond (q_sCoordOk a0 a1 a2 a3 a4 a5) (cond (sCoordOk a0 a1 a2 a3 a4 a5) (some (e_sSureAll (((sl11Copy a0 a1 a2 a3 a4 a5).1),((sl11Copy a0 a1 a2 a3 a4 a5).2.1),((sl11Copy a0 a1 a2 a3 a4 a5).2.2.1),((sl11Copy a0 a1 a2 a3 a4 a5).2.2.2.1),((sl11Copy a0 a1 a2 a3 a4 a5).2.2.2.2.1),((((sl11Copy a0 a1 a2 a3 a4 a5).2.2.2.2.1).length:Nat):Int)))) (some (e_sSureAll (((sl11Copy a0 a1 a2 a3 a4 a5).1),((sl11Copy a0 a1 a2 a3 a4 a5).2.1),((sl11Copy a0 a1 a2 a3 a4 a5).2.2.1),((sl11Copy a0 a1 a2 a3 a4 a5).2.2.2.1),((sl11Copy a0 a1 a2 a3 a4 a5).2.2.2.2.1),((sl11Copy a0 a1 a2 a3 a4 a5).2.2.2.2.2))))) none) none)) (by kernel_rfl) ?_
 exact (cndA hp fun hp=>(cndT hp fun _h=>(cndG e_sSureAll (fun _h=>rfl) (fun _h=>rfl))))
theorem c_sSureAll:PContract Try.prog 34 (sumOf P_sSureAll pre_sSureAll g_sSureAll):=pcD true G30 hlz run_sSureAll
noncomputable def S31:Tab:=Tab.add S30 34 (lift (sumOf P_sSureAll pre_sSureAll g_sSureAll))
noncomputable def QF31:FuncId→Bool:=qadd QF30 34
theorem G31:Good Try.prog tt S31 QF31:=G30.addQ c_sSureAll (cbl Try.f34) (fun _=>rfl)

noncomputable abbrev P_slices_Clone_iOp:List PSh:=[.t tq4]
noncomputable def slices_Clone_iOp (a0:Lq1):Lq1:=a0
noncomputable abbrev e_slices_Clone_iOp (r:Lq1):AV×List AObj:=(.all 0 3,[.rows 90 true tq7 r])
noncomputable abbrev g_slices_Clone_iOp:pshsDen P_slices_Clone_iOp→AV×List AObj:=fun d=>e_slices_Clone_iOp (slices_Clone_iOp d.1)
noncomputable def q_slices_Clone_iOp (a0:Lq1):Bool:=decide ((([]:Lq1).length+a0.length)*40≤MAXB)
noncomputable abbrev pre_slices_Clone_iOp:pshsDen P_slices_Clone_iOp→Bool:=fun d=>q_slices_Clone_iOp d.1
theorem r1_slices_Clone_iOp (a0:Lq1) (h0:0<a0.length) (hp:q_slices_Clone_iOp a0=true):runP false Try.prog tt S31 QF31 (fun _ _=>none) Try.f99 [.t (Ty.sl tq7).flat tq4 a0]=some (e_slices_Clone_iOp a0):=by
 refine Eq.trans (b:=cond (decide (0<a0.length)) (cond (q_slices_Clone_iOp a0) (some (e_slices_Clone_iOp a0)) none) none) (by kernel_rfl) ?_
 rw [decide_eq_true h0,hp];rfl
theorem r2_slices_Clone_iOp (A:Option Addr) (c:Nat):runP false Try.prog tt S31 QF31 (fun _ _=>none) Try.f99 [.raw (.slice A 0 c)]=some (e_slices_Clone_iOp []):=by
 cases A<;>kernel_rfl
theorem c_slices_Clone_iOp:PContract Try.prog 99 (sumOf P_slices_Clone_iOp pre_slices_Clone_iOp g_slices_Clone_iOp):=PContract.split (e:=tq7) (pre:=q_slices_Clone_iOp) (g:=fun a0=>e_slices_Clone_iOp (slices_Clone_iOp a0)) (fun l h0 hp=>PCalls.of_run false G31 (fn:=Try.f99) (by kernel_rfl) (L:=fun _ _=>none) (by rw [show loopsIn 0 (bodyOf Try.f99)=[] by kernel_rfl];simp) (r1_slices_Clone_iOp l h0 hp) rfl rfl) (fun A c=>PCalls.of_run false G31 (fn:=Try.f99) (by kernel_rfl) (L:=fun _ _=>none) (by rw [show loopsIn 0 (bodyOf Try.f99)=[] by kernel_rfl];simp) (r2_slices_Clone_iOp A c) rfl rfl)
noncomputable def S32:Tab:=Tab.add S31 99 (lift (sumOf P_slices_Clone_iOp pre_slices_Clone_iOp g_slices_Clone_iOp))
noncomputable def QF32:FuncId→Bool:=QF31
theorem G32:Good Try.prog tt S32 QF32:=G31.add c_slices_Clone_iOp ⟨Try.f99,by kernel_rfl,by kernel_rfl,by kernel_rfl⟩ (by kernel_rfl)

noncomputable abbrev P_slices_Clone_int:List PSh:=[.t t_si]
noncomputable def slices_Clone_int (a0:List (Int)):List (Int):=a0
noncomputable abbrev e_slices_Clone_int (r:List (Int)):AV×List AObj:=(.all 0 1,[.rows 3 true (.int .i64) r])
noncomputable abbrev g_slices_Clone_int:pshsDen P_slices_Clone_int→AV×List AObj:=fun d=>e_slices_Clone_int (slices_Clone_int d.1)
noncomputable def q_slices_Clone_int (a0:List (Int)):Bool:=decide ((([]:List (Int)).length+a0.length)*8≤MAXB)
noncomputable abbrev pre_slices_Clone_int:pshsDen P_slices_Clone_int→Bool:=fun d=>q_slices_Clone_int d.1
theorem r1_slices_Clone_int (a0:List (Int)) (h0:0<a0.length) (hp:q_slices_Clone_int a0=true):runP false Try.prog tt S32 QF32 (fun _ _=>none) Try.f100 [.t (Ty.sl (.int .i64)).flat t_si a0]=some (e_slices_Clone_int a0):=by
 refine Eq.trans (b:=cond (decide (0<a0.length)) (cond (q_slices_Clone_int a0) (some (e_slices_Clone_int a0)) none) none) (by kernel_rfl) ?_
 rw [decide_eq_true h0,hp];rfl
theorem r2_slices_Clone_int (A:Option Addr) (c:Nat):runP false Try.prog tt S32 QF32 (fun _ _=>none) Try.f100 [.raw (.slice A 0 c)]=some (e_slices_Clone_int []):=by
 cases A<;>kernel_rfl
theorem c_slices_Clone_int:PContract Try.prog 100 (sumOf P_slices_Clone_int pre_slices_Clone_int g_slices_Clone_int):=PContract.split (e:=(.int .i64)) (pre:=q_slices_Clone_int) (g:=fun a0=>e_slices_Clone_int (slices_Clone_int a0)) (fun l h0 hp=>PCalls.of_run false G32 (fn:=Try.f100) (by kernel_rfl) (L:=fun _ _=>none) (by rw [show loopsIn 0 (bodyOf Try.f100)=[] by kernel_rfl];simp) (r1_slices_Clone_int l h0 hp) rfl rfl) (fun A c=>PCalls.of_run false G32 (fn:=Try.f100) (by kernel_rfl) (L:=fun _ _=>none) (by rw [show loopsIn 0 (bodyOf Try.f100)=[] by kernel_rfl];simp) (r2_slices_Clone_int A c) rfl rfl)
noncomputable def S33:Tab:=Tab.add S32 100 (lift (sumOf P_slices_Clone_int pre_slices_Clone_int g_slices_Clone_int))
noncomputable def QF33:FuncId→Bool:=QF32
theorem G33:Good Try.prog tt S33 QF33:=G32.add c_slices_Clone_int ⟨Try.f100,by kernel_rfl,by kernel_rfl,by kernel_rfl⟩ (by kernel_rfl)

noncomputable abbrev P_slices_Clone_iChoice:List PSh:=[.t tq3]
noncomputable def slices_Clone_iChoice (a0:LIbe):LIbe:=a0
noncomputable abbrev e_slices_Clone_iChoice (r:LIbe):AV×List AObj:=(.all 0 2,[.rows 43 true t_pib r])
noncomputable abbrev g_slices_Clone_iChoice:pshsDen P_slices_Clone_iChoice→AV×List AObj:=fun d=>e_slices_Clone_iChoice (slices_Clone_iChoice d.1)
noncomputable def q_slices_Clone_iChoice (a0:LIbe):Bool:=decide ((([]:LIbe).length+a0.length)*16≤MAXB)
noncomputable abbrev pre_slices_Clone_iChoice:pshsDen P_slices_Clone_iChoice→Bool:=fun d=>q_slices_Clone_iChoice d.1
theorem r1_slices_Clone_iChoice (a0:LIbe) (h0:0<a0.length) (hp:q_slices_Clone_iChoice a0=true):runP false Try.prog tt S33 QF33 (fun _ _=>none) Try.f101 [.t (Ty.sl t_pib).flat tq3 a0]=some (e_slices_Clone_iChoice a0):=by
 refine Eq.trans (b:=cond (decide (0<a0.length)) (cond (q_slices_Clone_iChoice a0) (some (e_slices_Clone_iChoice a0)) none) none) (by kernel_rfl) ?_
 rw [decide_eq_true h0,hp];rfl
theorem r2_slices_Clone_iChoice (A:Option Addr) (c:Nat):runP false Try.prog tt S33 QF33 (fun _ _=>none) Try.f101 [.raw (.slice A 0 c)]=some (e_slices_Clone_iChoice []):=by
 cases A<;>kernel_rfl
theorem c_slices_Clone_iChoice:PContract Try.prog 101 (sumOf P_slices_Clone_iChoice pre_slices_Clone_iChoice g_slices_Clone_iChoice):=PContract.split (e:=t_pib) (pre:=q_slices_Clone_iChoice) (g:=fun a0=>e_slices_Clone_iChoice (slices_Clone_iChoice a0)) (fun l h0 hp=>PCalls.of_run false G33 (fn:=Try.f101) (by kernel_rfl) (L:=fun _ _=>none) (by rw [show loopsIn 0 (bodyOf Try.f101)=[] by kernel_rfl];simp) (r1_slices_Clone_iChoice l h0 hp) rfl rfl) (fun A c=>PCalls.of_run false G33 (fn:=Try.f101) (by kernel_rfl) (L:=fun _ _=>none) (by rw [show loopsIn 0 (bodyOf Try.f101)=[] by kernel_rfl];simp) (r2_slices_Clone_iChoice A c) rfl rfl)
noncomputable def S34:Tab:=Tab.add S33 101 (lift (sumOf P_slices_Clone_iChoice pre_slices_Clone_iChoice g_slices_Clone_iChoice))
noncomputable def QF34:FuncId→Bool:=QF33
theorem G34:Good Try.prog tt S34 QF34:=G33.add c_slices_Clone_iChoice ⟨Try.f101,by kernel_rfl,by kernel_rfl,by kernel_rfl⟩ (by kernel_rfl)

noncomputable abbrev jS31:List Sh:=.junk::.junk::.junk::.junk::.junk::jS26
noncomputable abbrev u36:=((),u35)
noncomputable abbrev jA23:List AV:=.junk::.junk::.junk::.junk::.junk::.junk::.junk::.junk::.junk::.junk::.junk::.junk::.junk::.junk::.junk::.junk::.junk::.junk::.junk::.junk::.junk::.junk::.junk::[]
noncomputable abbrev jA31:List AV:=.junk::.junk::.junk::.junk::.junk::.junk::.junk::.junk::jA23
noncomputable abbrev P_icopyCoord:List PSh:=[.agg [(.int .i64),(.int .i64),(.int .i64),tq2,tq3,(.int .i64)]]
noncomputable abbrev S_icopyCoord_0:SS:=⟨(.junk::.ptr 0 0 1 0::.ptr 1 0 1 0::.ptr 2 0 1 0::.junk::.junk::.junk::.junk::.junk::.t false tq2::.t true (.int .i64)::.t true (.int .i64)::jS23),[.box [.t true (.int .i64),.t true (.int .i64),.t true (.int .i64),.t false tq2,.t false tq3,.t true (.int .i64)],.box [.t true (.int .i64),.t true (.int .i64),.t true (.int .i64),.nil,.nil,.t true (.int .i64)],.box [.t true (.int .i64),.t true (.int .i64),.t true (.int .i64),.all 3 4,.t false tq3,.t true (.int .i64)],.deep 48 [90,3] tq5]⟩
noncomputable abbrev E_icopyCoord_0_0:SS:=⟨(.junk::.ptr 0 0 1 0::.ptr 1 0 1 0::.ptr 2 0 1 0::jS31),[.box [.t true (.int .i64),.t true (.int .i64),.t true (.int .i64),.t false tq2,.t false tq3,.t true (.int .i64)],.box [.t true (.int .i64),.t true (.int .i64),.t true (.int .i64),.nil,.nil,.t true (.int .i64)],.box [.t true (.int .i64),.t true (.int .i64),.t true (.int .i64),.all 3 4,.t false tq3,.t true (.int .i64)],.deep 48 [90,3] tq5]⟩
noncomputable def st_icopyCoord_0 (x9:List (Int×(Lq1)×Int×List Int)) (x10:Int) (x11:Int) (p0:Int) (p1:Int) (p2:Int) (p3:List (Int×(Lq1)×Int×List Int)) (p4:LIbe) (p5:Int) (q0:Int) (q1:Int) (q2:Int) (q5:Int) (r0:Int) (r1:Int) (r2:Int) (r4:LIbe) (r5:Int) (h3:List (Int×(Lq1)×Int×List Int)):RT S_icopyCoord_0.den:=(.br (decide (x11<x10)) (.br (decide (0≤x11∧x11<((x9.length:Nat):Int))) (.br (q_slices_Clone_iOp (((x9.getD x11.toNat ((0:Int),([],((0:Int),[])))).2).1)) (.br (q_slices_Clone_int ((((x9.getD x11.toNat ((0:Int),([],((0:Int),[])))).2).2).2)) (.br (decide ((h3.length+([((x9.getD x11.toNat ((0:Int),([],((0:Int),[])))).1,((slices_Clone_iOp (((x9.getD x11.toNat ((0:Int),([],((0:Int),[])))).2).1)),((((x9.getD x11.toNat ((0:Int),([],((0:Int),[])))).2).2).1,(slices_Clone_int ((((x9.getD x11.toNat ((0:Int),([],((0:Int),[])))).2).2).2)))))]:List (Int×(Lq1)×Int×List Int)).length)*64≤MAXB)) (.next (((),(),(),(),(),(),(),(),(),x9,x10,IntKind.wrap .i64 (x11+(1:Int)),u24),((p0,p1,p2,p3,p4,p5,()),(q0,q1,q2,(),(),q5,()),(r0,r1,r2,(),r4,r5,()),h3++([((x9.getD x11.toNat ((0:Int),([],((0:Int),[])))).1,((slices_Clone_iOp (((x9.getD x11.toNat ((0:Int),([],((0:Int),[])))).2).1)),((((x9.getD x11.toNat ((0:Int),([],((0:Int),[])))).2).2).1,(slices_Clone_int ((((x9.getD x11.toNat ((0:Int),([],((0:Int),[])))).2).2).2)))))]),()))) .fail) .fail) .fail) .fail) (.done (.exit 0) E_icopyCoord_0_0 ((u36),((p0,p1,p2,p3,p4,p5,()),(q0,q1,q2,(),(),q5,()),(r0,r1,r2,(),r4,r5,()),h3,()))))
noncomputable abbrev V_icopyCoord_0:=(List (Int×(Lq1)×Int×List Int))×(Int)×(Int)×(List (Int×(Lq1)×Int×List Int))
noncomputable abbrev A_icopyCoord_0:=Nat×(List (Int×(Lq1)×Int×List Int))
noncomputable def fl_icopyCoord_0:A_icopyCoord_0:=(99,([]:List (Int×(Lq1)×Int×List Int)))
noncomputable def ss_icopyCoord_0 (x9:List (Int×(Lq1)×Int×List Int)) (x10:Int) (x11:Int) (p0:Int) (p1:Int) (p2:Int) (p3:List (Int×(Lq1)×Int×List Int)) (p4:LIbe) (p5:Int) (q0:Int) (q1:Int) (q2:Int) (q5:Int) (r0:Int) (r1:Int) (r2:Int) (r4:LIbe) (r5:Int) (h3:List (Int×(Lq1)×Int×List Int)):V_icopyCoord_0 ⊕ A_icopyCoord_0:=(cond (decide (x11<x10)) (cond (decide (0≤x11∧x11<((x9.length:Nat):Int))) (cond (q_slices_Clone_iOp (((x9.getD x11.toNat ((0:Int),([],((0:Int),[])))).2).1)) (cond (q_slices_Clone_int ((((x9.getD x11.toNat ((0:Int),([],((0:Int),[])))).2).2).2)) (cond (decide ((h3.length+([((x9.getD x11.toNat ((0:Int),([],((0:Int),[])))).1,((slices_Clone_iOp (((x9.getD x11.toNat ((0:Int),([],((0:Int),[])))).2).1)),((((x9.getD x11.toNat ((0:Int),([],((0:Int),[])))).2).2).1,(slices_Clone_int ((((x9.getD x11.toNat ((0:Int),([],((0:Int),[])))).2).2).2)))))]:List (Int×(Lq1)×Int×List Int)).length)*64≤MAXB)) (.inl (x9,x10,IntKind.wrap .i64 (x11+(1:Int)),h3++([((x9.getD x11.toNat ((0:Int),([],((0:Int),[])))).1,((slices_Clone_iOp (((x9.getD x11.toNat ((0:Int),([],((0:Int),[])))).2).1)),((((x9.getD x11.toNat ((0:Int),([],((0:Int),[])))).2).2).1,(slices_Clone_int ((((x9.getD x11.toNat ((0:Int),([],((0:Int),[])))).2).2).2)))))]))) (.inr fl_icopyCoord_0)) (.inr fl_icopyCoord_0)) (.inr fl_icopyCoord_0)) (.inr fl_icopyCoord_0)) (.inr (0,h3)))
noncomputable def it_icopyCoord_0 (x9:List (Int×(Lq1)×Int×List Int)) (x10:Int) (x11:Int) (p0:Int) (p1:Int) (p2:Int) (p3:List (Int×(Lq1)×Int×List Int)) (p4:LIbe) (p5:Int) (q0:Int) (q1:Int) (q2:Int) (q5:Int) (r0:Int) (r1:Int) (r2:Int) (r4:LIbe) (r5:Int) (h3:List (Int×(Lq1)×Int×List Int)):A_icopyCoord_0:=itX (fun v:V_icopyCoord_0=>ss_icopyCoord_0 v.1 v.2.1 v.2.2.1 p0 p1 p2 p3 p4 p5 q0 q1 q2 q5 r0 r1 r2 r4 r5 v.2.2.2) fl_icopyCoord_0 (x9,x10,x11,h3)
noncomputable def ct_icopyCoord_0 (p0:Int) (p1:Int) (p2:Int) (p3:List (Int×(Lq1)×Int×List Int)) (p4:LIbe) (p5:Int) (q0:Int) (q1:Int) (q2:Int) (q5:Int) (r0:Int) (r1:Int) (r2:Int) (r4:LIbe) (r5:Int) (a:A_icopyCoord_0):CT:=(.br (a.1==0) (.done (.exit 0) E_icopyCoord_0_0 ((u36),((p0,p1,p2,p3,p4,p5,()),(q0,q1,q2,(),(),q5,()),(r0,r1,r2,(),r4,r5,()),a.2,()))) .fail)
noncomputable def T_icopyCoord_0 (x9:List (Int×(Lq1)×Int×List Int)) (x10:Int) (x11:Int) (p0:Int) (p1:Int) (p2:Int) (p3:List (Int×(Lq1)×Int×List Int)) (p4:LIbe) (p5:Int) (q0:Int) (q1:Int) (q2:Int) (q5:Int) (r0:Int) (r1:Int) (r2:Int) (r4:LIbe) (r5:Int) (h3:List (Int×(Lq1)×Int×List Int)):CT:=(ct_icopyCoord_0 p0 p1 p2 p3 p4 p5 q0 q1 q2 q5 r0 r1 r2 r4 r5) (it_icopyCoord_0 x9 x10 x11 p0 p1 p2 p3 p4 p5 q0 q1 q2 q5 r0 r1 r2 r4 r5 h3)
noncomputable abbrev ap_icopyCoord_0 {α:Sort _} (f:(List (Int×(Lq1)×Int×List Int))→Int→Int→Int→Int→Int→(List (Int×(Lq1)×Int×List Int))→(LIbe)→Int→Int→Int→Int→Int→Int→Int→Int→(LIbe)→Int→(List (Int×(Lq1)×Int×List Int))→α) (d:S_icopyCoord_0.den):α:=f d.1.2.2.2.2.2.2.2.2.2.1 d.1.2.2.2.2.2.2.2.2.2.2.1 d.1.2.2.2.2.2.2.2.2.2.2.2.1 d.2.1.1 d.2.1.2.1 d.2.1.2.2.1 d.2.1.2.2.2.1 d.2.1.2.2.2.2.1 d.2.1.2.2.2.2.2.1 d.2.2.1.1 d.2.2.1.2.1 d.2.2.1.2.2.1 d.2.2.1.2.2.2.2.2.1 d.2.2.2.1.1 d.2.2.2.1.2.1 d.2.2.2.1.2.2.1 d.2.2.2.1.2.2.2.2.1 d.2.2.2.1.2.2.2.2.2.1 d.2.2.2.2.1
noncomputable abbrev sp_icopyCoord_0:S_icopyCoord_0.den→RT S_icopyCoord_0.den:=(ap_icopyCoord_0 st_icopyCoord_0)
noncomputable def body_icopyCoord_0:Code:=((loopsIn 0 (bodyOf Try.f58)).getD 0 (0,.skip)).2
noncomputable abbrev pv_icopyCoord_0 (p0:Int) (p1:Int) (p2:Int) (p3:List (Int×(Lq1)×Int×List Int)) (p4:LIbe) (p5:Int) (q0:Int) (q1:Int) (q2:Int) (q5:Int) (r0:Int) (r1:Int) (r2:Int) (r4:LIbe) (r5:Int) (v:V_icopyCoord_0):S_icopyCoord_0.den:=(((),(),(),(),(),(),(),(),(),v.1,v.2.1,v.2.2.1,u24),((p0,p1,p2,p3,p4,p5,()),(q0,q1,q2,(),(),q5,()),(r0,r1,r2,(),r4,r5,()),v.2.2.2,()))
theorem rl_icopyCoord_0 (p0:Int) (p1:Int) (p2:Int) (p3:List (Int×(Lq1)×Int×List Int)) (p4:LIbe) (p5:Int) (q0:Int) (q1:Int) (q2:Int) (q5:Int) (r0:Int) (r1:Int) (r2:Int) (r4:LIbe) (r5:Int):(∀ v:V_icopyCoord_0,(st_icopyCoord_0 v.1 v.2.1 v.2.2.1 p0 p1 p2 p3 p4 p5 q0 q1 q2 q5 r0 r1 r2 r4 r5 v.2.2.2).val=relS (pv_icopyCoord_0 p0 p1 p2 p3 p4 p5 q0 q1 q2 q5 r0 r1 r2 r4 r5) (ct_icopyCoord_0 p0 p1 p2 p3 p4 p5 q0 q1 q2 q5 r0 r1 r2 r4 r5) (ss_icopyCoord_0 v.1 v.2.1 v.2.2.1 p0 p1 p2 p3 p4 p5 q0 q1 q2 q5 r0 r1 r2 r4 r5 v.2.2.2))∧∀ a:A_icopyCoord_0,CEnd S_icopyCoord_0.den ((ct_icopyCoord_0 p0 p1 p2 p3 p4 p5 q0 q1 q2 q5 r0 r1 r2 r4 r5) a):=⟨fun v=>(relB (relB (relB (relB (relB rfl rfl) rfl) rfl) rfl) rfl),fun a=>(cendB (cendD (by simp)) cendF)⟩
noncomputable def ox_icopyCoord_0 (x9:List (Int×(Lq1)×Int×List Int)) (x10:Int) (x11:Int) (p0:Int) (p1:Int) (p2:Int) (p3:List (Int×(Lq1)×Int×List Int)) (p4:LIbe) (p5:Int) (q0:Int) (q1:Int) (q2:Int) (q5:Int) (r0:Int) (r1:Int) (r2:Int) (r4:LIbe) (r5:Int) (h3:List (Int×(Lq1)×Int×List Int)):Option (Ex×St):=(cond (decide (x11<x10)) (cond (decide (0≤x11∧x11<((x9.length:Nat):Int))) (cond (q_slices_Clone_iOp (((x9.getD x11.toNat ((0:Int),([],((0:Int),[])))).2).1)) (cond (q_slices_Clone_int ((((x9.getD x11.toNat ((0:Int),([],((0:Int),[])))).2).2).2)) (cond (decide ((h3.length+([((x9.getD x11.toNat ((0:Int),([],((0:Int),[])))).1,((slices_Clone_iOp (((x9.getD x11.toNat ((0:Int),([],((0:Int),[])))).2).1)),((((x9.getD x11.toNat ((0:Int),([],((0:Int),[])))).2).2).1,(slices_Clone_int ((((x9.getD x11.toNat ((0:Int),([],((0:Int),[])))).2).2).2)))))]:List (Int×(Lq1)×Int×List Int)).length)*64≤MAXB)) (some (.normal,(⟨(.junk::(.ptr 0 0 1 0)::(.ptr 1 0 1 0)::(.ptr 2 0 1 0)::.junk::.junk::.junk::.junk::.junk::(.t false tq2 x9)::(.t true (.int .i64) x10)::(.t true (.int .i64) (IntKind.wrap .i64 (x11+(1:Int))))::jA23),[(.box [(.t true (.int .i64) p0),(.t true (.int .i64) p1),(.t true (.int .i64) p2),(.t false tq2 p3),(.t false tq3 p4),(.t true (.int .i64) p5)]),(.box [(.t true (.int .i64) q0),(.t true (.int .i64) q1),(.t true (.int .i64) q2),(.raw (.slice none 0 0)),(.raw (.slice none 0 0)),(.t true (.int .i64) q5)]),(.box [(.t true (.int .i64) r0),(.t true (.int .i64) r1),(.t true (.int .i64) r2),(.all 3 4),(.t false tq3 r4),(.t true (.int .i64) r5)]),(.deep 48 [90,3] tq5 (h3++([((x9.getD x11.toNat ((0:Int),([],((0:Int),[])))).1,((slices_Clone_iOp (((x9.getD x11.toNat ((0:Int),([],((0:Int),[])))).2).1)),((((x9.getD x11.toNat ((0:Int),([],((0:Int),[])))).2).2).1,(slices_Clone_int ((((x9.getD x11.toNat ((0:Int),([],((0:Int),[])))).2).2).2)))))])))],0,[]⟩:St))) none) none) none) none) (some ((.exit 0),(⟨(.junk::(.ptr 0 0 1 0)::(.ptr 1 0 1 0)::(.ptr 2 0 1 0)::jA31),[(.box [(.t true (.int .i64) p0),(.t true (.int .i64) p1),(.t true (.int .i64) p2),(.t false tq2 p3),(.t false tq3 p4),(.t true (.int .i64) p5)]),(.box [(.t true (.int .i64) q0),(.t true (.int .i64) q1),(.t true (.int .i64) q2),(.raw (.slice none 0 0)),(.raw (.slice none 0 0)),(.t true (.int .i64) q5)]),(.box [(.t true (.int .i64) r0),(.t true (.int .i64) r1),(.t true (.int .i64) r2),(.all 3 4),(.t false tq3 r4),(.t true (.int .i64) r5)]),(.deep 48 [90,3] tq5 h3)],0,[]⟩:St))))
theorem rdA_icopyCoord_0:RdA (G34.deep ow) (fun _ _=>none) 0 body_icopyCoord_0 S_icopyCoord_0 0 [] (kepts [] [(0,[1,2,3])]) (ap_icopyCoord_0 ox_icopyCoord_0):=by
 intro d
 kernel_rfl
theorem rdB_icopyCoord_0:∀ d:S_icopyCoord_0.den,(ap_icopyCoord_0 ox_icopyCoord_0) d=(sp_icopyCoord_0 d).opt 0 []:=by
 intro d
 kernel_rfl
noncomputable abbrev say_icopyCoord_0:St→Option Tree:=S_icopyCoord_0.say 0 [] [(2003003,30900000048,tq5)] (ap_icopyCoord_0 T_icopyCoord_0)
theorem lw_icopyCoord_0:LoopWp Try.prog say_icopyCoord_0 body_icopyCoord_0:=SS.wp2 hlz [(2003003,30900000048,tq5)] sp_icopyCoord_0 rdA_icopyCoord_0 rdB_icopyCoord_0 _ (fun d=>Runs.ofI2 (step:=sp_icopyCoord_0) (pv_icopyCoord_0 d.2.1.1 d.2.1.2.1 d.2.1.2.2.1 d.2.1.2.2.2.1 d.2.1.2.2.2.2.1 d.2.1.2.2.2.2.2.1 d.2.2.1.1 d.2.2.1.2.1 d.2.2.1.2.2.1 d.2.2.1.2.2.2.2.2.1 d.2.2.2.1.1 d.2.2.2.1.2.1 d.2.2.2.1.2.2.1 d.2.2.2.1.2.2.2.2.1 d.2.2.2.1.2.2.2.2.2.1) (rl_icopyCoord_0 d.2.1.1 d.2.1.2.1 d.2.1.2.2.1 d.2.1.2.2.2.1 d.2.1.2.2.2.2.1 d.2.1.2.2.2.2.2.1 d.2.2.1.1 d.2.2.1.2.1 d.2.2.1.2.2.1 d.2.2.1.2.2.2.2.2.1 d.2.2.2.1.1 d.2.2.2.1.2.1 d.2.2.2.1.2.2.1 d.2.2.2.1.2.2.2.2.1 d.2.2.2.1.2.2.2.2.2.1) rfl (d.1.2.2.2.2.2.2.2.2.2.1,d.1.2.2.2.2.2.2.2.2.2.2.1,d.1.2.2.2.2.2.2.2.2.2.2.2.1,d.2.2.2.2.1))
noncomputable def k1_icopyCoord (a0:Int) (a1:Int) (a2:Int) (a3:List (Int×(Lq1)×Int×List Int)) (a4:LIbe) (a5:Int):=it_icopyCoord_0 a3 ((a3.length:Nat):Int) (0:Int) a0 a1 a2 a3 a4 a5 (0:Int) (0:Int) (0:Int) (0:Int) a0 a1 a2 a4 a5 ([]:List (Int×(Lq1)×Int×List Int))
noncomputable def icopyCoord (a0:Int) (a1:Int) (a2:Int) (a3:List (Int×(Lq1)×Int×List Int)) (a4:LIbe) (a5:Int):Int×Int×Int×Int×(List (Int×(Lq1)×Int×List Int))×LIbe:=(a0,a1,a2,a5,((k1_icopyCoord a0 a1 a2 a3 a4 a5).2),(slices_Clone_iChoice a4))
noncomputable abbrev e_icopyCoord (r:Int×Int×Int×Int×(List (Int×(Lq1)×Int×List Int))×LIbe):AV×List AObj:=((.agg [(.t true (.int .i64) r.1),(.t true (.int .i64) r.2.1),(.t true (.int .i64) r.2.2.1),(.all 0 4),(.all 1 2),(.t true (.int .i64) r.2.2.2.1)]),[(.deep 48 [90,3] tq5 r.2.2.2.2.1),(.rows 43 true t_pib r.2.2.2.2.2)])
noncomputable abbrev g_icopyCoord:pshsDen P_icopyCoord→AV×List AObj:=fun d=>e_icopyCoord (icopyCoord d.1.1 d.1.2.1 d.1.2.2.1 d.1.2.2.2.1 d.1.2.2.2.2.1 d.1.2.2.2.2.2.1)
noncomputable def q_icopyCoord (a0:Int) (a1:Int) (a2:Int) (a3:List (Int×(Lq1)×Int×List Int)) (a4:LIbe) (a5:Int):Bool:=((k1_icopyCoord a0 a1 a2 a3 a4 a5).1==0)&&(q_slices_Clone_iChoice a4)
noncomputable abbrev pre_icopyCoord:pshsDen P_icopyCoord→Bool:=fun d=>q_icopyCoord d.1.1 d.1.2.1 d.1.2.2.1 d.1.2.2.2.1 d.1.2.2.2.2.1 d.1.2.2.2.2.2.1
noncomputable abbrev L_icopyCoord:Nat→St→Option Tree:=fun b=>match b with | 0=>say_icopyCoord_0 | _=>fun _=>none
theorem run_icopyCoord:RunP false (G34.deep ow) (L_icopyCoord) Try.f58 P_icopyCoord pre_icopyCoord g_icopyCoord:=by
 rintro ⟨⟨a0,⟨a1,⟨a2,⟨a3,⟨a4,⟨a5,_⟩⟩⟩⟩⟩⟩,_⟩ hp
 change q_icopyCoord a0 a1 a2 a3 a4 a5=true at hp
 unfold q_icopyCoord at hp
 refine Eq.trans (b:=(cond ((k1_icopyCoord a0 a1 a2 a3 a4 a5).1==0) (cond (q_slices_Clone_iChoice a4) (some (e_icopyCoord (a0,a1,a2,a5,((k1_icopyCoord a0 a1 a2 a3 a4 a5).2),(slices_Clone_iChoice a4)))) none) none)) (by kernel_rfl) ?_
 exact (cndA hp fun hp=>(cndT hp fun _h=>rfl))
theorem c_icopyCoord:PContract Try.prog 58 (sumOf P_icopyCoord pre_icopyCoord g_icopyCoord):=pcD false (G34.deep ow) (hl1 (i:=0) (by kernel_rfl) lw_icopyCoord_0) run_icopyCoord
noncomputable def S35:Tab:=Tab.add S34 58 (lift (sumOf P_icopyCoord pre_icopyCoord g_icopyCoord))
noncomputable def QF35:FuncId→Bool:=QF34
theorem G35:Good Try.prog tt S35 QF35:=G34.add c_icopyCoord (cbl Try.f58) (by kernel_rfl)

noncomputable abbrev P_iinRange:List PSh:=[.t (.int .i64),.t (.int .i64),.t (.int .i64)]
noncomputable def iinRange (a0:Int) (a1:Int) (a2:Int):Bool:=(cond (decide (a0 ≥ a1)) (decide (a0≤a2)) false)
noncomputable abbrev e_iinRange (r:Bool):AV×List AObj:=((.t true .bool r),[])
noncomputable abbrev g_iinRange:pshsDen P_iinRange→AV×List AObj:=fun d=>e_iinRange (iinRange d.1 d.2.1 d.2.2.1)
noncomputable abbrev pre_iinRange:pshsDen P_iinRange→Bool:=fun d=>true
theorem run_iinRange:RunP true G35 (fun _ _=>none) Try.f47 P_iinRange pre_iinRange g_iinRange:=by
 rintro ⟨a0,⟨a1,⟨a2,_⟩⟩⟩ hp
 refine Eq.trans (b:=(cond (decide (a0 ≥ a1)) (some (e_iinRange (decide (a0≤a2)))) (some (e_iinRange false)))) (by kernel_rfl) ?_
 exact (cndG e_iinRange (fun _h=>rfl) (fun _h=>rfl))
theorem c_iinRange:PContract Try.prog 47 (sumOf P_iinRange pre_iinRange g_iinRange):=pcD true G35 hlz run_iinRange
noncomputable def S36:Tab:=Tab.add S35 47 (lift (sumOf P_iinRange pre_iinRange g_iinRange))
noncomputable def QF36:FuncId→Bool:=qadd QF35 47
theorem G36:Good Try.prog tt S36 QF36:=G35.addQ c_iinRange (cbl Try.f47) (fun _=>rfl)

noncomputable abbrev SM_iCoord_nextTx:SS:=⟨[.ptr 0 0 1 0],[.box [.t true (.int .i64),.t true (.int .i64),.t true (.int .i64),.t false tq2,.t false tq3,.t true (.int .i64)]]⟩
noncomputable def iCoord_nextTx (p0:Int) (p1:Int) (p2:Int) (p3:List (Int×(Lq1)×Int×List Int)) (p4:LIbe) (p5:Int):Int:=(IntKind.wrap .i64 ((IntKind.wrap .i64 (p1*(1000:Int)))+p2))
noncomputable abbrev e_iCoord_nextTx (p0:Int) (p1:Int) (p2:Int) (p3:List (Int×(Lq1)×Int×List Int)) (p4:LIbe) (p5:Int) (r:Int):AV×List AObj×List Nat:=((.t true (.int .i64) r),[(.box [(.t true (.int .i64) p0),(.t true (.int .i64) p1),(.t true (.int .i64) p2),(.t false tq2 p3),(.t false tq3 p4),(.t true (.int .i64) p5)])],[])
noncomputable abbrev g_iCoord_nextTx:SM_iCoord_nextTx.den→AV×List AObj×List Nat:=fun d=>e_iCoord_nextTx d.2.1.1 d.2.1.2.1 d.2.1.2.2.1 d.2.1.2.2.2.1 d.2.1.2.2.2.2.1 d.2.1.2.2.2.2.2.1 (iCoord_nextTx d.2.1.1 d.2.1.2.1 d.2.1.2.2.1 d.2.1.2.2.2.1 d.2.1.2.2.2.2.1 d.2.1.2.2.2.2.2.1)
noncomputable abbrev pre_iCoord_nextTx:SM_iCoord_nextTx.den→Bool:=fun d=>true
theorem run_iCoord_nextTx:RunM G36 (fun _ _=>none) Try.f48 SM_iCoord_nextTx pre_iCoord_nextTx g_iCoord_nextTx:=by
 rintro ⟨⟨_,_⟩,⟨⟨p0,p1,p2,p3,p4,p5,_⟩,_⟩⟩ hp
 kernel_rfl
noncomputable abbrev m_iCoord_nextTx:=winQ (msum SM_iCoord_nextTx pre_iCoord_nextTx g_iCoord_nextTx)
theorem c_iCoord_nextTx:MContract Try.prog 48 m_iCoord_nextTx:=(mcM G36 hlz run_iCoord_nextTx).winQ (msum_quiet fun d=>⟨rfl,rfl⟩)
noncomputable def S37:Tab:=Tab.add S36 48 (m_iCoord_nextTx)
noncomputable def QF37:FuncId→Bool:=qadd QF36 48
theorem G37:Good Try.prog tt S37 QF37:=G36.addMQ c_iCoord_nextTx (winQ_local _) (cbl Try.f48) (winQ_quiet _)

noncomputable abbrev SM_iCoord_choiceAt_1:SS:=⟨[.agg [.t true (.int .i64),.t true .bool],.ptr 0 0 1 0],[.box [.t true (.int .i64)]]⟩
noncomputable def iCoord_choiceAt_1 (x0_0:Int) (x0_1:Bool) (p0:Int):Bool:=(x0_0==p0)
noncomputable abbrev e_iCoord_choiceAt_1 (p0:Int) (r:Bool):AV×List AObj×List Nat:=((.t true .bool r),[(.box [(.t true (.int .i64) p0)])],[])
noncomputable abbrev g_iCoord_choiceAt_1:SM_iCoord_choiceAt_1.den→AV×List AObj×List Nat:=fun d=>e_iCoord_choiceAt_1 d.2.1.1 (iCoord_choiceAt_1 d.1.1.1 d.1.1.2.1 d.2.1.1)
noncomputable abbrev pre_iCoord_choiceAt_1:SM_iCoord_choiceAt_1.den→Bool:=fun d=>true
theorem run_iCoord_choiceAt_1:RunM G37 (fun _ _=>none) Try.f92 SM_iCoord_choiceAt_1 pre_iCoord_choiceAt_1 g_iCoord_choiceAt_1:=by
 rintro ⟨⟨⟨x0_0,x0_1,_⟩,_,_⟩,⟨⟨p0,_⟩,_⟩⟩ hp
 kernel_rfl
noncomputable abbrev m_iCoord_choiceAt_1:=winQ (msum SM_iCoord_choiceAt_1 pre_iCoord_choiceAt_1 g_iCoord_choiceAt_1)
theorem c_iCoord_choiceAt_1:MContract Try.prog 92 m_iCoord_choiceAt_1:=(mcM G37 hlz run_iCoord_choiceAt_1).winQ (msum_quiet fun d=>⟨rfl,rfl⟩)
noncomputable def S38:Tab:=Tab.add S37 92 (m_iCoord_choiceAt_1)
noncomputable def QF38:FuncId→Bool:=qadd QF37 92
theorem G38:Good Try.prog tt S38 QF38:=G37.addMQ c_iCoord_choiceAt_1 (winQ_local _) (cbl Try.f92) (winQ_quiet _)

noncomputable abbrev jS10:List Sh:=.junk::.junk::.junk::.junk::.junk::.junk::.junk::.junk::.junk::.junk::[]
noncomputable abbrev jS14:List Sh:=.junk::jS13
noncomputable abbrev u15:=((),u14)
noncomputable abbrev u11:=((),(),(),(),(),(),(),(),(),(),())
noncomputable abbrev u20:=((),u19)
noncomputable abbrev SM_slices_IndexFunc_iChoice:SS:=⟨[.t false tq3,.fn 92 [0]],[.box [.t true (.int .i64)]]⟩
noncomputable abbrev S_slices_IndexFunc_iChoice_0:SS:=⟨(.t false tq3::.fn 92 [0]::.junk::.junk::.junk::.junk::.junk::.t true (.int .i64)::.t true (.int .i64)::jS10),[.box [.t true (.int .i64)]]⟩
noncomputable abbrev E_slices_IndexFunc_iChoice_0_0:SS:=⟨(.junk::.junk::.junk::.junk::.t true (.int .i64)::jS14),[.box [.t true (.int .i64)]]⟩
noncomputable abbrev E_slices_IndexFunc_iChoice_0_1:SS:=⟨(.junk::jS18),[.box [.t true (.int .i64)]]⟩
noncomputable def k1_slices_IndexFunc_iChoice (x0:LIbe) (x8:Int) (p0:Int):=iCoord_choiceAt_1 ((x0.getD x8.toNat ((0:Int),false)).1) ((x0.getD x8.toNat ((0:Int),false)).2) p0
noncomputable def st_slices_IndexFunc_iChoice_0 (x0:LIbe) (x7:Int) (x8:Int) (p0:Int):RT S_slices_IndexFunc_iChoice_0.den:=(.br (decide (x8<x7)) (.br (decide (0≤x8∧x8<((x0.length:Nat):Int))) (.br (k1_slices_IndexFunc_iChoice x0 x8 p0) (.done .ret E_slices_IndexFunc_iChoice_0_0 (((),(),(),(),x8,u15),((p0,()),()))) (.next ((x0,(),(),(),(),(),(),x7,IntKind.wrap .i64 (x8+(1:Int)),u11),((p0,()),())))) .fail) (.done (.exit 0) E_slices_IndexFunc_iChoice_0_1 ((u20),((p0,()),()))))
noncomputable abbrev V_slices_IndexFunc_iChoice_0:=(LIbe)×(Int)×(Int)
noncomputable abbrev A_slices_IndexFunc_iChoice_0:=Nat×(Int)
noncomputable def fl_slices_IndexFunc_iChoice_0:A_slices_IndexFunc_iChoice_0:=(99,((0:Int):Int))
noncomputable def ss_slices_IndexFunc_iChoice_0 (x0:LIbe) (x7:Int) (x8:Int) (p0:Int):V_slices_IndexFunc_iChoice_0 ⊕ A_slices_IndexFunc_iChoice_0:=(cond (decide (x8<x7)) (cond (decide (0≤x8∧x8<((x0.length:Nat):Int))) (cond (k1_slices_IndexFunc_iChoice x0 x8 p0) (.inr (0,x8)) (.inl (x0,x7,IntKind.wrap .i64 (x8+(1:Int))))) (.inr fl_slices_IndexFunc_iChoice_0)) (.inr (1,((0:Int):Int))))
noncomputable def it_slices_IndexFunc_iChoice_0 (x0:LIbe) (x7:Int) (x8:Int) (p0:Int):A_slices_IndexFunc_iChoice_0:=itX (fun v:V_slices_IndexFunc_iChoice_0=>ss_slices_IndexFunc_iChoice_0 v.1 v.2.1 v.2.2 p0) fl_slices_IndexFunc_iChoice_0 (x0,x7,x8)
noncomputable def ct_slices_IndexFunc_iChoice_0 (p0:Int) (a:A_slices_IndexFunc_iChoice_0):CT:=(.br (a.1==0) (.done .ret E_slices_IndexFunc_iChoice_0_0 (((),(),(),(),a.2,u15),((p0,()),()))) (.br (a.1==1) (.done (.exit 0) E_slices_IndexFunc_iChoice_0_1 ((u20),((p0,()),()))) .fail))
noncomputable def T_slices_IndexFunc_iChoice_0 (x0:LIbe) (x7:Int) (x8:Int) (p0:Int):CT:=(ct_slices_IndexFunc_iChoice_0 p0) (it_slices_IndexFunc_iChoice_0 x0 x7 x8 p0)
noncomputable abbrev ap_slices_IndexFunc_iChoice_0 {α:Sort _} (f:(LIbe)→Int→Int→Int→α) (d:S_slices_IndexFunc_iChoice_0.den):α:=f d.1.1 d.1.2.2.2.2.2.2.2.1 d.1.2.2.2.2.2.2.2.2.1 d.2.1.1
noncomputable abbrev sp_slices_IndexFunc_iChoice_0:S_slices_IndexFunc_iChoice_0.den→RT S_slices_IndexFunc_iChoice_0.den:=(ap_slices_IndexFunc_iChoice_0 st_slices_IndexFunc_iChoice_0)
noncomputable def body_slices_IndexFunc_iChoice_0:Code:=((loopsIn 0 (bodyOf Try.f91)).getD 0 (0,.skip)).2
noncomputable abbrev pv_slices_IndexFunc_iChoice_0 (p0:Int) (v:V_slices_IndexFunc_iChoice_0):S_slices_IndexFunc_iChoice_0.den:=((v.1,(),(),(),(),(),(),v.2.1,v.2.2,u11),((p0,()),()))
theorem rl_slices_IndexFunc_iChoice_0 (p0:Int):(∀ v:V_slices_IndexFunc_iChoice_0,(st_slices_IndexFunc_iChoice_0 v.1 v.2.1 v.2.2 p0).val=relS (pv_slices_IndexFunc_iChoice_0 p0) (ct_slices_IndexFunc_iChoice_0 p0) (ss_slices_IndexFunc_iChoice_0 v.1 v.2.1 v.2.2 p0))∧∀ a:A_slices_IndexFunc_iChoice_0,CEnd S_slices_IndexFunc_iChoice_0.den ((ct_slices_IndexFunc_iChoice_0 p0) a):=⟨fun v=>(relB (relB (relB rfl rfl) rfl) rfl),fun a=>(cendB (cendD (by simp)) (cendB (cendD (by simp)) cendF))⟩
theorem rdA_slices_IndexFunc_iChoice_0:RdA G38 (fun _ _=>none) 0 body_slices_IndexFunc_iChoice_0 S_slices_IndexFunc_iChoice_0 1 [] (kepts [4] [(0,[])]) (fun d=>(sp_slices_IndexFunc_iChoice_0 d).opt 1 []):=by
 intro d
 kernel_rfl
noncomputable abbrev say_slices_IndexFunc_iChoice_0:St→Option Tree:=S_slices_IndexFunc_iChoice_0.say 1 [] [] (ap_slices_IndexFunc_iChoice_0 T_slices_IndexFunc_iChoice_0)
theorem lw_slices_IndexFunc_iChoice_0:LoopWp Try.prog say_slices_IndexFunc_iChoice_0 body_slices_IndexFunc_iChoice_0:=SS.wp2 hlz [] sp_slices_IndexFunc_iChoice_0 rdA_slices_IndexFunc_iChoice_0 (fun d=>rfl) _ (fun d=>Runs.ofI2 (step:=sp_slices_IndexFunc_iChoice_0) (pv_slices_IndexFunc_iChoice_0 d.2.1.1) (rl_slices_IndexFunc_iChoice_0 d.2.1.1) rfl (d.1.1,d.1.2.2.2.2.2.2.2.1,d.1.2.2.2.2.2.2.2.2.1))
noncomputable def slices_IndexFunc_iChoice (x0:LIbe) (p0:Int):Int:=(cond ((it_slices_IndexFunc_iChoice_0 x0 ((x0.length:Nat):Int) (0:Int) p0).1==0) ((it_slices_IndexFunc_iChoice_0 x0 ((x0.length:Nat):Int) (0:Int) p0).2) (-1:Int))
noncomputable abbrev e_slices_IndexFunc_iChoice (p0:Int) (r:Int):AV×List AObj×List Nat:=((.t true (.int .i64) r),[(.box [(.t true (.int .i64) p0)])],[])
noncomputable abbrev g_slices_IndexFunc_iChoice:SM_slices_IndexFunc_iChoice.den→AV×List AObj×List Nat:=fun d=>e_slices_IndexFunc_iChoice d.2.1.1 (slices_IndexFunc_iChoice d.1.1 d.2.1.1)
noncomputable def q_slices_IndexFunc_iChoice (x0:LIbe) (p0:Int):Bool:=cond ((it_slices_IndexFunc_iChoice_0 x0 ((x0.length:Nat):Int) (0:Int) p0).1==0) true ((it_slices_IndexFunc_iChoice_0 x0 ((x0.length:Nat):Int) (0:Int) p0).1==1)
noncomputable abbrev pre_slices_IndexFunc_iChoice:SM_slices_IndexFunc_iChoice.den→Bool:=fun d=>q_slices_IndexFunc_iChoice d.1.1 d.2.1.1
noncomputable abbrev L_slices_IndexFunc_iChoice:Nat→St→Option Tree:=fun b=>match b with | 0=>say_slices_IndexFunc_iChoice_0 | _=>fun _=>none
theorem run_slices_IndexFunc_iChoice:RunM G38 (L_slices_IndexFunc_iChoice) Try.f91 SM_slices_IndexFunc_iChoice pre_slices_IndexFunc_iChoice g_slices_IndexFunc_iChoice:=by
 rintro ⟨⟨x0,_,_⟩,⟨⟨p0,_⟩,_⟩⟩ hp
 change q_slices_IndexFunc_iChoice x0 p0=true at hp
 unfold q_slices_IndexFunc_iChoice at hp
 refine Eq.trans (b:=(cond ((it_slices_IndexFunc_iChoice_0 x0 ((x0.length:Nat):Int) (0:Int) p0).1==0) (some (e_slices_IndexFunc_iChoice p0 ((it_slices_IndexFunc_iChoice_0 x0 ((x0.length:Nat):Int) (0:Int) p0).2))) (cond ((it_slices_IndexFunc_iChoice_0 x0 ((x0.length:Nat):Int) (0:Int) p0).1==1) (some (e_slices_IndexFunc_iChoice p0 (-1:Int))) none))) (by kernel_rfl) ?_
 exact (cndE (e_slices_IndexFunc_iChoice p0) hp (fun hp=>rfl) (fun hp=>(cndT hp fun _h=>rfl)))
noncomputable abbrev m_slices_IndexFunc_iChoice:=winQ (msum SM_slices_IndexFunc_iChoice pre_slices_IndexFunc_iChoice g_slices_IndexFunc_iChoice)
theorem c_slices_IndexFunc_iChoice:MContract Try.prog 91 m_slices_IndexFunc_iChoice:=(mcM G38 (hl1 (i:=0) (by kernel_rfl) lw_slices_IndexFunc_iChoice_0) run_slices_IndexFunc_iChoice).winQ (msum_quiet fun d=>⟨rfl,rfl⟩)
noncomputable def S39:Tab:=Tab.add S38 91 (m_slices_IndexFunc_iChoice)
noncomputable def QF39:FuncId→Bool:=qadd QF38 91
theorem G39:Good Try.prog tt S39 QF39:=G38.addMQ c_slices_IndexFunc_iChoice (winQ_local _) (cbl Try.f91) (winQ_quiet _)


end Go.Proofs.Ytapikgcgahomlaa.Eng
