/- What the functions that FnTells reaches compute, and that it answers true. -/
import Derived.Test.YtapikgcgahomlaaT
import Derived.Test.YtapikgcgahomlaaRows
import Derived.Test.YtapikgcgahomlaaE39
import Derived.Shelf.Sort.Plain
import Derived.Shelf.Slices.In.SortNone
import Derived.Shelf.Slices.CompactI
namespace Go.Proofs.Ytapikgcgahomlaa.Eng
open Go Go.RowKit
set_option linter.unusedSimpArgs false
set_option linter.unusedVariables false
set_option maxRecDepth 10000
noncomputable abbrev bE:ByteArray:=⟨#[]⟩
noncomputable abbrev Lq1:=List (Int×ByteArray×ByteArray)
noncomputable abbrev tq3:Ty:=.sl (.pair (.int .i64) (.pair .str .str))
noncomputable abbrev tq9:Ty:=.pair (.int .i64) (.pair (.int .i64) (.sl (.pair (.int .i64) (.pair .str .str))))
noncomputable def S0:Tab:=fun _=>none
noncomputable def QF0:FuncId→Bool:=fun _=>false
theorem G0:Good Try.prog tt S0 QF0:=Good.start tt_ok (by kernel_rfl)
/-! Plain laws: order of bytes, keys, ops. -/
theorem bytesLess_irrefl:∀ a:List UInt8,Op.bytesLess a a=false:=by
 intro a
 induction a with
 | nil=>rfl
 | cons x a ih=>simp only [Op.bytesLess,ih,Bool.and_false,Bool.or_false,decide_eq_false_iff_not];exact UInt8.lt_irrefl x
theorem bytesLess_ge:∀ a b:List UInt8,(!(Op.bytesLess a b))=(Op.bytesLess b a||b==a):=by
 intro a
 induction a with
 | nil=>intro b;cases b<;>simp [Op.bytesLess]
 | cons x a ih =>
  intro b
  cases b with
  | nil=>simp [Op.bytesLess]
  | cons y b =>
   simp only [Op.bytesLess]
   by_cases h1:x<y
   ·have h2:¬ y<x:=fun h=>UInt8.lt_irrefl _ (UInt8.lt_trans h1 h)
    have h3:(y==x)=false:=by rw [beq_eq_false_iff_ne];intro h;subst h;exact h2 h1
    have h4:(y::b==x::a)=false:=by rw [List.cons_beq_cons,h3,Bool.false_and]
    simp [h1,h2,h3,h4]
   ·by_cases h5:x=y
    ·subst h5
     have h6:(x::b==x::a)=(b==a):=by rw [List.cons_beq_cons];simp
     have:=ih b
     simp only [h1,decide_false,Bool.false_or,beq_self_eq_true,Bool.true_and,h6,this]
    ·have h7 : y < x := by
      rcases Nat.lt_trichotomy x.toNat y.toNat with h | h | h
      ·exact absurd (UInt8.lt_iff_toNat_lt.2 h) h1
      ·exact absurd (UInt8.toNat_inj.1 h) h5
      ·exact UInt8.lt_iff_toNat_lt.2 h
     have h8:(x==y)=false:=by rw [beq_eq_false_iff_ne];exact h5
     simp [h1,h7,h8]
theorem allF_congr {p q:Nat→Bool}:∀ k i,(∀ j,i≤j→j<i+k→p j=q j)→allF p k i=allF q k i:=by
 intro k
 induction k with
 | zero=>intro i h;rfl
 | succ k ih=>intro i h;simp only [allF];rw [h i (Nat.le_refl _) (by omega),ih (i+1) (fun j h1 h2=>h j (by omega) (by omega))]
theorem allF_same {p:Nat→Bool} (k i:Nat) (h:∀ j,i≤j→j<i+k→p j=true):allF p k i=true:=(allF_true k i).2 h
theorem szN_all {f:Nat→Int→Int} {Q:Nat→Prop} {M:Int}:∀ (k i:Nat) (b:Int),(∀ j b,i≤j→j<i+k→0≤b→b≤M→0≤f j b→Q j∧f j b≤b)→0≤b→b≤M→isInl (szN f k i b)=true →
  (∀ j,i≤j→j<i+k→Q j)∧0≤getInl (-1) (szN f k i b)∧getInl (-1) (szN f k i b)≤b:=by
 intro k
 induction k with
 | zero=>intro i b hf h1 h2 h3;exact ⟨fun j hj hk=>by omega,h1,Int.le_refl _⟩
 | succ k ih =>
  intro i b hf h1 h2 h3
  have e:szN f (k+1) i b=cond (decide (f i b<0)) (.inr ()) (szN f k (i+1) (f i b)):=by
   simp only [szN,loopN]
   cases decide (f i b<0)<;>rfl
  rw [e] at h3 ⊢
  cases hd:decide (f i b<0) with
  | true=>rw [hd] at h3;cases h3
  | false =>
   rw [hd] at h3
   simp only [cond_false] at h3 ⊢
   have h0:0≤f i b:=by have:=of_decide_eq_false hd;omega
   obtain ⟨q1,q2⟩:=hf i b (Nat.le_refl _) (by omega) h1 h2 h0
   obtain ⟨r1,r2,r3⟩:=ih (i+1) (f i b) (fun j b hj hk=>hf j b (by omega) (by omega)) h0 (by omega) h3
   refine ⟨fun j hj hk=>?_,r2,by omega⟩
   by_cases ej:j=i
   ·exact ej ▸ q1
   ·exact r1 j (by omega) (by omega)
noncomputable abbrev OpT:Type:=Int×ByteArray×ByteArray
noncomputable def dOp:Int×ByteArray×ByteArray:=((0:Int),(bE,bE))
noncomputable def okOp (o:Int×ByteArray×ByteArray):Bool:=okS o.2.1&&okS o.2.2
noncomputable def okOps (l:Lq1):Bool:=okL l&&l.all okOp
theorem okOps_at {l:Lq1} (h:okOps l=true) (i:Nat) (hi:i<l.length):okS (l.getD i dOp).2.1=true∧okS (l.getD i dOp).2.2=true:=by
 simp only [okOps,Bool.and_eq_true,List.all_eq_true] at h
 have:=h.2 (l.getD i dOp) (by simp [List.getD_eq_getElem?_getD,hi])
 simpa [okOp] using this
theorem okOps_len {l:Lq1} (h:okOps l=true):l.length≤1048576:=by
 simp only [okOps,Bool.and_eq_true] at h
 exact okL_le h.1
noncomputable def bigS (s:ByteArray):Bool:=decide (s.size≤9223372036854775807)
noncomputable def bigOps (l:Lq1):Bool:=decide (l.length≤9223372036854775807)&&l.all (fun o=>bigS o.2.1&&bigS o.2.2)
theorem bigOps_at {l:Lq1} (h:bigOps l=true) (i:Nat) (hi:i<l.length):bigS (l.getD i dOp).2.1=true∧bigS (l.getD i dOp).2.2=true:=by
 simp only [bigOps,Bool.and_eq_true,List.all_eq_true] at h
 exact h.2 (l.getD i dOp) (by simp [List.getD_eq_getElem?_getD,hi])
theorem okOps_of {l:Lq1} (h1:l.length≤1048576) (h2:∀ i,i<l.length→okS (l.getD i dOp).2.1=true∧okS (l.getD i dOp).2.2=true):okOps l=true:=by
 simp only [okOps,okL,Bool.and_eq_true,decide_eq_true_eq,List.all_eq_true]
 refine ⟨h1,fun o ho=>?_⟩
 obtain ⟨i,hi,rfl⟩:=List.getElem_of_mem ho
 have:=h2 i hi
 simp only [List.getD_eq_getElem?_getD,List.getElem?_eq_getElem hi,Option.getD_some] at this
 simp [okOp,this.1,this.2]
theorem ba_beq (a b:ByteArray):(a.toList==b.toList)=decide (a=b):=by
 rw [ByteArray.toList_eq,ByteArray.toList_eq]
 by_cases h:a=b
 ·subst h;simp
 ·rw [decide_eq_false h,beq_eq_false_iff_ne]
  intro e
  exact h (by cases a;cases b;simp at e;rw [e])
theorem bigOps_len {l:Lq1} (h:bigOps l=true):l.length≤9223372036854775807:=by
 simp only [bigOps,Bool.and_eq_true,decide_eq_true_eq] at h;exact h.1
theorem okOps_okL {l:Lq1} (h:okOps l=true):okL l=true:=by
 simp only [okOps,Bool.and_eq_true] at h;exact h.1
theorem bigOps_of {l:Lq1} (h:bigT tq3 l=true):bigOps l=true:=by
 have h:(decide (l.length≤maxLen)&&l.all fun o=>(Lit.int .i64 o.1).wf&&(decide (o.2.1.size≤maxLen)&&decide (o.2.2.size≤maxLen)))=true:=h
 have hm:maxLen=9223372036854775807:=by decide
 rw [hm] at h
 simp only [Bool.and_eq_true,decide_eq_true_eq,List.all_eq_true] at h
 simp only [bigOps,bigS,Bool.and_eq_true,decide_eq_true_eq,List.all_eq_true]
 exact ⟨h.1,fun o ho=>(h.2 o ho).2⟩
theorem bigRec_ops {k t:Int} {l:Lq1} (h:bigT tq9 (k,(t,l))=true):bigOps l=true:=by
 have hb:((Lit.int .i64 k).wf&&((Lit.int .i64 t).wf&&bigT tq3 l))=true:=h
 rw [Bool.and_eq_true,Bool.and_eq_true] at hb
 exact bigOps_of hb.2.2
/-- The high groups of a number, and what is left. -/
noncomputable def hiF (g:Int→Int):Nat→Int→List Int×Int
 | 0,x=>([],x)
 | k+1,x=>cond (decide (x > 127)) (g x::(hiF g k (Int.fdiv x (2 ^ 7))).1,(hiF g k (Int.fdiv x (2 ^ 7))).2) ([],x)
theorem fdiv128 (x:Int):Int.fdiv x (2 ^ 7)=x / 128:=by
 rw [show (2:Int) ^ 7=128 from rfl,Int.fdiv_eq_ediv_of_nonneg _ (by decide)]
theorem hiF_small (g:Int→Int) (k:Nat):∀ x:Int,0≤x→x<128 ^ (k+1)→0≤(hiF g k x).2∧(hiF g k x).2≤127:=by
 induction k with
 | zero=>intro x h0 h1;simp only [hiF];exact ⟨h0,by rw [show (128:Int) ^ (0+1)=128 from rfl] at h1;omega⟩
 | succ k ih =>
  intro x h0 h1
  simp only [hiF]
  by_cases hx:x > 127
  ·simp only [decide_eq_true hx,cond_true,fdiv128]
   rw [Int.pow_succ] at h1
   exact ih (x / 128) (by omega) (by omega)
  ·simp only [decide_eq_false hx,cond_false]
   exact ⟨h0,by omega⟩
theorem hiF_len (g:Int→Int) (k:Nat):∀ x:Int,(hiF g k x).1.length≤k:=by
 induction k with
 | zero=>intro x;simp [hiF]
 | succ k ih =>
  intro x
  simp only [hiF]
  cases decide (x > 127) with
  | true=>simp;exact ih _
  | false=>simp
noncomputable def gNum (x:Int):Int:=IntKind.wrap .u8 (ior .i64 (iand .i64 x (127:Int)) (128:Int))
noncomputable def gNum' (x:Int):Int:=IntKind.wrap .u8 (ior .i64 (128:Int) (iand .i64 x (127:Int)))
theorem gNum_same:gNum'=gNum:=by
 funext x
 simp only [gNum,gNum', ior]
 rw [BitVec.or_comm]
theorem nX_is:∃ f:Int→List Int×Int,∀ x,f x=hiF gNum 4 x:=⟨_,fun _=>rfl⟩
/-- The same, not to be unfolded. -/
noncomputable def nX:Int→List Int×Int:=Classical.choose nX_is
theorem nX_eq (x:Int):nX x=hiF gNum 4 x:=Classical.choose_spec nX_is x
theorem nX_eq' (x:Int):nX x=hiF gNum' 4 x:=by rw [gNum_same];exact nX_eq x
theorem nX_len (x:Int):(nX x).1.length≤4:=by rw [nX_eq];exact hiF_len gNum 4 x
/-- The bytes of a number. -/
noncomputable def numB (x:Int):List Int:=(nX x).1++[IntKind.wrap .u8 (nX x).2]
theorem numB_len (x:Int):(numB x).length≤5:=by
 have:=nX_len x
 simp [numB];omega
noncomputable def clampN (n:Int):Int:=if n > 1000000000 then 1000000000 else if n<0 then 0 else n
noncomputable def textB (s:ByteArray):List Int:=numB (s.size:Int)++strInts s
noncomputable def opB (o:Int×ByteArray×ByteArray):List Int:=numB (clampN o.1)++(textB o.2.1++textB o.2.2)
theorem clampN_of {n:Int} (h0:0≤n) (h1:n≤1000000000):clampN n=n:=by simp only [clampN];split<;>(try split)<;>omega
theorem strInts_len (s:ByteArray):(strInts s).length=s.size:=by rw [strInts,List.length_map,Array.length_toList];rfl
theorem textB_len (s:ByteArray):(textB s).length≤5+s.size:=by
 have:=numB_len (s.size:Int)
 simp [textB,strInts_len];omega

noncomputable def clampI (x:Int):Int:=if (if (1000000000:Int)<x then (1000000000:Int) else x) > (0:Int) then (if (1000000000:Int)<x then (1000000000:Int) else x) else (0:Int)
theorem clampI_eq (x:Int):clampI x=clampN x:=by
 simp only [clampI,clampN]
 split<;>split<;>(try split)<;>omega
theorem clampN_range (x:Int):0≤clampN x∧clampN x≤1000000000:=by
 simp only [clampN]
 split<;>(try split)<;>omega
theorem clampI_range (x:Int):0≤clampI x∧clampI x≤1000000000:=by rw [clampI_eq];exact clampN_range x

noncomputable def digB (x:Int):ByteArray:=(⟨([IntKind.wrap .u8 (IntKind.wrap .i64 ((48:Int)+(Int.tmod x (10:Int))))].map fun n=>UInt8.ofNat n.toNat).toArray⟩:ByteArray)
theorem digB_size (x:Int):(digB x).size=1:=rfl
/-- A number's digits. -/
noncomputable def txtN:Nat→Int→ByteArray→ByteArray
 | 0,_,s=>s
 | k+1,x,s=>cond (decide (x > 0)) (txtN k (IntKind.wrap .i64 (Int.tdiv x (10:Int))) (digB x++s)) s
theorem txtN_len:∀ (k:Nat) (x:Int) (s:ByteArray),(txtN k x s).size≤k+s.size:=by
 intro k
 induction k with
 | zero=>intro x s;simp [txtN]
 | succ k ih =>
  intro x s
  simp only [txtN]
  cases decide (x > 0) with
  | true =>
   have:=ih (IntKind.wrap .i64 (Int.tdiv x (10:Int))) (digB x++s)
   rw [ByteArray.size_append,digB_size] at this
   simp only [cond_true];omega
  | false=>simp only [cond_false];omega
theorem foldN_app {α:Type} (f:α→List Int) (d:α) (l:List α) (g:Nat→List Int→List Int) (hg:∀ i h,i<l.length→g i h=h++f (l.getD i d)):∀ k i h,i+k=l.length→foldN g k i h=h++((l.drop i).map f).flatten:=by
 intro k
 induction k with
 | zero =>
  intro i h hi
  have:l.drop i=[]:=List.drop_eq_nil_of_le (by omega)
  simp [foldN,this]
 | succ k ih =>
  intro i h hi
  have hlt:i<l.length:=by omega
  simp only [foldN]
  rw [ih (i+1) (g i h) (by omega),hg i h hlt,List.append_assoc,show l.drop i=l[i]::l.drop (i+1) from List.drop_eq_getElem_cons hlt,List.map_cons,List.flatten_cons,show l.getD i d=l[i] from by simp [List.getD_eq_getElem?_getD,hlt]]
theorem opB_len (o:Int×ByteArray×ByteArray):(opB o).length≤15+o.2.1.size+o.2.2.size:=by
 have h1:=numB_len (clampN o.1)
 have h2:=textB_len o.2.1
 have h3:=textB_len o.2.2
 simp only [opB,List.length_append];omega
theorem flat_len {M:Nat}:∀ l:Lq1,(∀ o∈l,(opB o).length≤M)→(l.map opB).flatten.length≤M*l.length:=by
 intro l
 induction l with
 | nil=>intro _;simp
 | cons o l ih =>
  intro h
  have h1:=h o (by simp)
  have h2:=ih fun x hx=>h x (by simp [hx])
  simp only [List.map_cons,List.flatten_cons,List.length_append,List.length_cons]
  rw [Nat.mul_add];omega
theorem okOps_mem {l:Lq1} (h:okOps l=true):∀ o∈l,o.2.1.size≤1048576∧o.2.2.size≤1048576:=by
 intro o ho
 simp only [okOps,Bool.and_eq_true,List.all_eq_true] at h
 have:=h.2 o ho
 simpa [okOp,okS] using this
/-! The library's sort and compacting, found in this translation. -/
noncomputable def laysSort_ren:Go.Shelf.Ren:=⟨fun | 189=>70 | 125=>110 | 257=>109 | 128=>138 | 129=>139 | 294=>129 | 295=>130 | 296=>131 | 297=>132 | 298=>133 | 299=>134 | 216=>135 | 300=>136 | 301=>137 | 328=>150 | 329=>151 | 330=>152 | 331=>153 | 332=>154 | 215=>155 | 343=>157 | n=>n,fun | 28=>46 | 3=>3 | 46=>128 | 0=>0 | 51=>140 | 53=>152 | 4=>4 | 183=>143 | 182=>142 | 131=>148 | 5=>5 | 9=>9 | 218=>162 | 222=>166 | 228=>168 | 229=>169 | n=>n,fun n=>n⟩
theorem laysSort:Go.Proofs.Lays.n189 Try.prog laysSort_ren where
 mixed:=by kernel_rfl
 f125:=Try.func110.trans (congrArg some (by kernel_rfl))
 f128:=Try.func138.trans (congrArg some (by kernel_rfl))
 f129:=Try.func139.trans (congrArg some (by kernel_rfl))
 f189:=Try.func70.trans (congrArg some (by kernel_rfl))
 f215:=Try.func155.trans (congrArg some (by kernel_rfl))
 f216:=Try.func135.trans (congrArg some (by kernel_rfl))
 f257:=Try.func109.trans (congrArg some (by kernel_rfl))
 f294:=Try.func129.trans (congrArg some (by kernel_rfl))
 f295:=Try.func130.trans (congrArg some (by kernel_rfl))
 f296:=Try.func131.trans (congrArg some (by kernel_rfl))
 f297:=Try.func132.trans (congrArg some (by kernel_rfl))
 f298:=Try.func133.trans (congrArg some (by kernel_rfl))
 f299:=Try.func134.trans (congrArg some (by kernel_rfl))
 f300:=Try.func136.trans (congrArg some (by kernel_rfl))
 f301:=Try.func137.trans (congrArg some (by kernel_rfl))
 f328:=Try.func150.trans (congrArg some (by kernel_rfl))
 f329:=Try.func151.trans (congrArg some (by kernel_rfl))
 f330:=Try.func152.trans (congrArg some (by kernel_rfl))
 f331:=Try.func153.trans (congrArg some (by kernel_rfl))
 f332:=Try.func154.trans (congrArg some (by kernel_rfl))
 f343:=Try.func157.trans (congrArg some (by kernel_rfl))
 t0:=Try.underlying0
 a0:=Try.isAgg0
 z0:=Try.sizeOf0
 v0:=Try.zeroValue0
 t3:=Try.underlying3
 a3:=Try.isAgg3
 z3:=Try.sizeOf3
 v3:=Try.zeroValue3
 t4:=Try.underlying4
 a4:=Try.isAgg4
 z4:=Try.sizeOf4
 v4:=Try.zeroValue4
 t5:=Try.underlying5
 a5:=Try.isAgg5
 z5:=Try.sizeOf5
 v5:=Try.zeroValue5
 t9:=Try.underlying9
 a9:=Try.isAgg9
 z9:=Try.sizeOf9
 v9:=Try.zeroValue9
 t28:=Try.underlying46
 a28:=Try.isAgg46
 z28:=Try.sizeOf46
 v28:=Try.zeroValue46
 t46:=Try.underlying128
 a46:=Try.isAgg128
 z46:=Try.sizeOf128
 v46:=Try.zeroValue128
 t51:=Try.underlying140
 a51:=Try.isAgg140
 z51:=Try.sizeOf140
 v51:=Try.zeroValue140
 t53:=Try.underlying152
 a53:=Try.isAgg152
 z53:=Try.sizeOf152
 v53:=Try.zeroValue152
 t131:=Try.underlying148
 a131:=Try.isAgg148
 z131:=Try.sizeOf148
 v131:=Try.zeroValue148
 t182:=Try.underlying142
 a182:=Try.isAgg142
 z182:=Try.sizeOf142
 v182:=Try.zeroValue142
 t183:=Try.underlying143
 a183:=Try.isAgg143
 z183:=Try.sizeOf143
 v183:=Try.zeroValue143
 t218:=Try.underlying162
 a218:=Try.isAgg162
 z218:=Try.sizeOf162
 v218:=Try.zeroValue162
 t222:=Try.underlying166
 a222:=Try.isAgg166
 z222:=Try.sizeOf166
 v222:=Try.zeroValue166
 t228:=Try.underlying168
 a228:=Try.isAgg168
 z228:=Try.sizeOf168
 v228:=Try.zeroValue168
 t229:=Try.underlying169
 a229:=Try.isAgg169
 z229:=Try.sizeOf169
 v229:=Try.zeroValue169
noncomputable def laysCompact_ren:Go.Shelf.Ren:=⟨fun | 20=>72 | n=>n,fun | 22=>46 | 3=>3 | 4=>4 | 0=>0 | n=>n,fun n=>n⟩
theorem laysCompact:Go.Proofs.Lays2.n20 Try.prog laysCompact_ren where
 mixed:=by kernel_rfl
 f20:=Try.func72.trans (congrArg some (by kernel_rfl))
 t0:=Try.underlying0
 a0:=Try.isAgg0
 z0:=Try.sizeOf0
 v0:=Try.zeroValue0
 t3:=Try.underlying3
 a3:=Try.isAgg3
 z3:=Try.sizeOf3
 v3:=Try.zeroValue3
 t4:=Try.underlying4
 a4:=Try.isAgg4
 z4:=Try.sizeOf4
 v4:=Try.zeroValue4
 t22:=Try.underlying46
 a22:=Try.isAgg46
 z22:=Try.sizeOf46
 v22:=Try.zeroValue46
 i3:=by kernel_rfl
theorem c_sortInt:MContract Try.prog 70 (win winIds sortSum):=(MContract.sortInt (Go.Proofs.Any.slices_Sort_int_none laysSort) (Go.Proofs.Any.slices_Sort_int laysSort)).win winIds
theorem c_compactInt:MContract Try.prog 72 (win winIds compactSum):=(MContract.compactInt (Go.Proofs.Any.slices_Compact_int_empty laysCompact) (Go.Proofs.Any.slices_Compact_int laysCompact)).win winIds
noncomputable def q_sortL (l:List Int):Bool:=decide (l.length<4611686018427387904)
noncomputable def compactP (l:List Int):Nat×List Int:=((Lib.compact l).length,Lib.compact l++List.replicate (l.length - (Lib.compact l).length) 0)

noncomputable abbrev t_sy:Ty:=.sl (.int .u8)
noncomputable abbrev P_lbig:List PSh:=[.t t_sy]
noncomputable def lbig (a0:List Int):Bool:=(decide (((a0.length:Nat):Int) > (1048576:Int)))
noncomputable abbrev e_lbig (r:Bool):AV×List AObj:=((.t true .bool r),[])
noncomputable abbrev F_lbig (r:Bool):=some (e_lbig r)
noncomputable abbrev g_lbig:pshsDen P_lbig→AV×List AObj:=fun d=>e_lbig (lbig d.1)
noncomputable abbrev pre_lbig:pshsDen P_lbig→Bool:=fun d=>true
theorem run_lbig:RunP true G0 (fun _ _=>none) Try.f20 P_lbig pre_lbig g_lbig:=by
 rintro ⟨a0,_⟩ hp
 kernel_rfl
theorem c_lbig:PContract Try.prog 20 (sumOf P_lbig pre_lbig g_lbig):=PContract.of_data true G0 (by kernel_rfl) (hl0 (by kernel_rfl)) _ _ _ run_lbig
noncomputable def S1:Tab:=Tab.add S0 20 (lift (sumOf P_lbig pre_lbig g_lbig))
noncomputable def QF1:FuncId→Bool:=qadd QF0 20
theorem G1:Good Try.prog tt S1 QF1:=G0.addQ c_lbig ⟨Try.f20,by kernel_rfl,by kernel_rfl,by kernel_rfl⟩ (fun _=>rfl)

noncomputable abbrev jS27:List Sh:=.junk::.junk::.junk::.junk::.junk::.junk::.junk::.junk::.junk::.junk::.junk::.junk::.junk::.junk::.junk::.junk::.junk::.junk::.junk::.junk::.junk::.junk::.junk::.junk::.junk::.junk::.junk::[]
noncomputable abbrev jS28:List Sh:=.junk::jS27
noncomputable abbrev u28:=((),(),(),(),(),(),(),(),(),(),(),(),(),(),(),(),(),(),(),(),(),(),(),(),(),(),(),())
noncomputable abbrev u29:=((),u28)
noncomputable abbrev jA27:List AV:=.junk::.junk::.junk::.junk::.junk::.junk::.junk::.junk::.junk::.junk::.junk::.junk::.junk::.junk::.junk::.junk::.junk::.junk::.junk::.junk::.junk::.junk::.junk::.junk::.junk::.junk::.junk::[]
noncomputable abbrev jA28:List AV:=.junk::jA27
noncomputable abbrev SM_sl1New:SS:=⟨[.t false t_sy],[]⟩
noncomputable abbrev S_sl1New_0:SS:=⟨(.t false t_sy::.junk::.junk::.t true (.int .i64)::.t true (.int .i64)::jS27),[]⟩
noncomputable abbrev E_sl1New_0_0:SS:=⟨(.t false t_sy::.junk::.junk::.t true (.int .i64)::jS28),[]⟩
noncomputable def st_sl1New_0 (x0:List Int) (x3:Int) (x4:Int):RT S_sl1New_0.den:=(.br (decide (x4<((x0.length:Nat):Int))) (.br (decide (x4<(4000:Int))) (.br (decide (0≤x4∧x4<((x0.length:Nat):Int))) (.next ((x0,(),(),iand .i64 (IntKind.wrap .i64 ((IntKind.wrap .i64 ((IntKind.wrap .i64 (x3*(137:Int)))+(IntKind.wrap .i64 (x0.getD x4.toNat (0:Int)))))+(11:Int))) (1073741823:Int),IntKind.wrap .i64 (x4+(1:Int)),u28),())) .fail) (.done (.exit 0) E_sl1New_0_0 ((x0,(),(),x3,u29),()))) (.done (.exit 0) E_sl1New_0_0 ((x0,(),(),x3,u29),())))
noncomputable abbrev V_sl1New_0:=(List Int)×(Int)×(Int)
noncomputable abbrev A_sl1New_0:=Nat×(List Int)×(Int)
noncomputable def fl_sl1New_0:A_sl1New_0:=(99,([]:List Int),((0:Int):Int))
noncomputable def ss_sl1New_0 (x0:List Int) (x3:Int) (x4:Int):V_sl1New_0 ⊕ A_sl1New_0:=(cond (decide (x4<((x0.length:Nat):Int))) (cond (decide (x4<(4000:Int))) (cond (decide (0≤x4∧x4<((x0.length:Nat):Int))) (.inl (x0,iand .i64 (IntKind.wrap .i64 ((IntKind.wrap .i64 ((IntKind.wrap .i64 (x3*(137:Int)))+(IntKind.wrap .i64 (x0.getD x4.toNat (0:Int)))))+(11:Int))) (1073741823:Int),IntKind.wrap .i64 (x4+(1:Int)))) (.inr fl_sl1New_0)) (.inr (0,x0,x3))) (.inr (0,x0,x3)))
noncomputable def it_sl1New_0 (x0:List Int) (x3:Int) (x4:Int):A_sl1New_0:=itX (fun v:V_sl1New_0=>ss_sl1New_0 v.1 v.2.1 v.2.2) fl_sl1New_0 (x0,x3,x4)
noncomputable def ct_sl1New_0 (a:A_sl1New_0):CT:=(.br (a.1==0) (.done (.exit 0) E_sl1New_0_0 ((a.2.1,(),(),a.2.2,u29),())) .fail)
noncomputable def T_sl1New_0 (x0:List Int) (x3:Int) (x4:Int):CT:=ct_sl1New_0 (it_sl1New_0 x0 x3 x4)
noncomputable abbrev sp_sl1New_0:S_sl1New_0.den→RT S_sl1New_0.den:=fun d=>st_sl1New_0 d.1.1 d.1.2.2.2.1 d.1.2.2.2.2.1
noncomputable abbrev pk_sl1New_0 (x0:List Int) (x3:Int) (x4:Int):S_sl1New_0.den:=((x0,(),(),x3,x4,u28),())
noncomputable def body_sl1New_0:Code:=((loopsIn 0 (bodyOf Try.f55)).getD 0 (0,.skip)).2
noncomputable abbrev pv_sl1New_0 (v:V_sl1New_0):S_sl1New_0.den:=pk_sl1New_0 v.1 v.2.1 v.2.2
noncomputable def ox_sl1New_0 (x0:List Int) (x3:Int) (x4:Int):Option (Ex×St):=(cond (decide (x4<((x0.length:Nat):Int))) (cond (decide (x4<(4000:Int))) (cond (decide (0≤x4∧x4<((x0.length:Nat):Int))) (some (.normal,(⟨((.t false t_sy x0)::.junk::.junk::(.t true (.int .i64) (iand .i64 (IntKind.wrap .i64 ((IntKind.wrap .i64 ((IntKind.wrap .i64 (x3*(137:Int)))+(IntKind.wrap .i64 (x0.getD x4.toNat (0:Int)))))+(11:Int))) (1073741823:Int)))::(.t true (.int .i64) (IntKind.wrap .i64 (x4+(1:Int))))::jA27),[],0,[]⟩:St))) none) (some ((.exit 0),(⟨((.t false t_sy x0)::.junk::.junk::(.t true (.int .i64) x3)::jA28),[],0,[]⟩:St)))) (some ((.exit 0),(⟨((.t false t_sy x0)::.junk::.junk::(.t true (.int .i64) x3)::jA28),[],0,[]⟩:St))))
theorem rdA_sl1New_0:RdA G1 (fun _ _=>none) 0 body_sl1New_0 S_sl1New_0 0 [] (kepts [] [(0,[0,3])]) (fun d=>ox_sl1New_0 d.1.1 d.1.2.2.2.1 d.1.2.2.2.2.1):=by
 intro d
 kernel_rfl
theorem rdB_sl1New_0:∀ d:S_sl1New_0.den,ox_sl1New_0 d.1.1 d.1.2.2.2.1 d.1.2.2.2.2.1=(sp_sl1New_0 d).opt 0 []:=by
 intro d
 kernel_rfl
noncomputable abbrev say_sl1New_0:St→Option Tree:=S_sl1New_0.say 0 [] [] (fun d=>T_sl1New_0 d.1.1 d.1.2.2.2.1 d.1.2.2.2.2.1)
theorem lw_sl1New_0:LoopWp Try.prog say_sl1New_0 body_sl1New_0:=SS.wp2 (hl0 (by kernel_rfl)) [] sp_sl1New_0 rdA_sl1New_0 rdB_sl1New_0 _ (fun d=>Runs.ofIt (step:=sp_sl1New_0) pv_sl1New_0 (ct:=ct_sl1New_0) rfl (fun v=>((relB (relB (relB rfl rfl) rfl) rfl):(st_sl1New_0 v.1 v.2.1 v.2.2).val=relS pv_sl1New_0 ct_sl1New_0 (ss_sl1New_0 v.1 v.2.1 v.2.2))) (fun a=>((cendB (cendD (by simp)) cendF):CEnd _ (ct_sl1New_0 a))) (d.1.1,d.1.2.2.2.1,d.1.2.2.2.2.1))
noncomputable def sl1New (x0:List Int):(List Int)×Int×Int:=(((it_sl1New_0 x0 (IntKind.wrap .i64 ((381381:Int)+((x0.length:Nat):Int))) (0:Int)).2.1),(0:Int),((it_sl1New_0 x0 (IntKind.wrap .i64 ((381381:Int)+((x0.length:Nat):Int))) (0:Int)).2.2))
noncomputable abbrev e_sl1New (r:(List Int)×Int×Int):AV×List AObj×List Nat:=((.ptr 0 0 1 0),[(.box [(.t false t_sy r.1),(.t true (.int .i64) r.2.1),(.t true (.int .i64) r.2.2)])],[])
noncomputable abbrev F_sl1New (r:(List Int)×Int×Int):=some (e_sl1New r)
noncomputable abbrev g_sl1New:SM_sl1New.den→AV×List AObj×List Nat:=fun d=>e_sl1New (sl1New d.1.1)
noncomputable def q_sl1New (x0:List Int):Bool:=((it_sl1New_0 x0 (IntKind.wrap .i64 ((381381:Int)+((x0.length:Nat):Int))) (0:Int)).1==0)
noncomputable abbrev pre_sl1New:SM_sl1New.den→Bool:=fun d=>q_sl1New d.1.1
noncomputable abbrev L_sl1New:Nat→St→Option Tree:=fun b=>match b with | 0=>say_sl1New_0 | _=>fun _=>none
theorem run_sl1New:RunM G1 (L_sl1New) Try.f55 SM_sl1New pre_sl1New g_sl1New:=by
 rintro ⟨⟨x0,_⟩,_⟩ hp
 change q_sl1New x0=true at hp
 unfold q_sl1New at hp
 refine Eq.trans (b:=(cond ((it_sl1New_0 x0 (IntKind.wrap .i64 ((381381:Int)+((x0.length:Nat):Int))) (0:Int)).1==0) (some (e_sl1New (((it_sl1New_0 x0 (IntKind.wrap .i64 ((381381:Int)+((x0.length:Nat):Int))) (0:Int)).2.1),(0:Int),((it_sl1New_0 x0 (IntKind.wrap .i64 ((381381:Int)+((x0.length:Nat):Int))) (0:Int)).2.2)))) none)) (by kernel_rfl) ?_
 exact (cndT hp fun _h=>rfl)
noncomputable abbrev m_sl1New:=win winIds (msum SM_sl1New pre_sl1New g_sl1New)
theorem c_sl1New:MContract Try.prog 55 m_sl1New:=(MContract.of_data G1 (by kernel_rfl) (hl1 (i:=0) (by kernel_rfl) lw_sl1New_0) _ _ _ run_sl1New).win winIds
noncomputable def S2:Tab:=Tab.add S1 55 (m_sl1New)
noncomputable def QF2:FuncId→Bool:=QF1
theorem G2:Good Try.prog tt S2 QF2:=G1.addM c_sl1New (win_local _) ⟨Try.f55,by kernel_rfl,by kernel_rfl,by kernel_rfl⟩ (by kernel_rfl)

noncomputable abbrev P_sl1Size:List PSh:=[.t t_sy,.t (.int .i64)]
noncomputable def sl1Size (a0:List Int) (a1:Int):Int:=(cond (decide ((IntKind.wrap .i64 ((3:Int)+(IntKind.wrap .i64 (Int.tdiv ((a0.length:Nat):Int) (12:Int))))) > a1)) a1 (IntKind.wrap .i64 ((3:Int)+(IntKind.wrap .i64 (Int.tdiv ((a0.length:Nat):Int) (12:Int))))))
noncomputable abbrev e_sl1Size (r:Int):AV×List AObj:=((.t true (.int .i64) r),[])
noncomputable abbrev F_sl1Size (r:Int):=some (e_sl1Size r)
noncomputable abbrev g_sl1Size:pshsDen P_sl1Size→AV×List AObj:=fun d=>e_sl1Size (sl1Size d.1 d.2.1)
noncomputable abbrev pre_sl1Size:pshsDen P_sl1Size→Bool:=fun d=>true
theorem run_sl1Size:RunP true G2 (fun _ _=>none) Try.f57 P_sl1Size pre_sl1Size g_sl1Size:=by
 rintro ⟨a0,⟨a1,_⟩⟩ hp
 refine Eq.trans (b:=(cond (decide ((IntKind.wrap .i64 ((3:Int)+(IntKind.wrap .i64 (Int.tdiv ((a0.length:Nat):Int) (12:Int))))) > a1)) (some (e_sl1Size a1)) (some (e_sl1Size (IntKind.wrap .i64 ((3:Int)+(IntKind.wrap .i64 (Int.tdiv ((a0.length:Nat):Int) (12:Int))))))))) (by kernel_rfl) ?_
 exact (cnd (F:=F_sl1Size) (fun _h=>rfl) (fun _h=>rfl))
theorem c_sl1Size:PContract Try.prog 57 (sumOf P_sl1Size pre_sl1Size g_sl1Size):=PContract.of_data true G2 (by kernel_rfl) (hl0 (by kernel_rfl)) _ _ _ run_sl1Size
noncomputable def S3:Tab:=Tab.add S2 57 (lift (sumOf P_sl1Size pre_sl1Size g_sl1Size))
noncomputable def QF3:FuncId→Bool:=qadd QF2 57
theorem G3:Good Try.prog tt S3 QF3:=G2.addQ c_sl1Size ⟨Try.f57,by kernel_rfl,by kernel_rfl,by kernel_rfl⟩ (fun _=>rfl)

noncomputable abbrev SM_sl1Byte:SS:=⟨[.ptr 0 0 1 0],[.box [.t false t_sy,.t true (.int .i64),.t true (.int .i64)]]⟩
noncomputable def sl1Byte (p0:List Int) (p1:Int) (p2:Int):Int×(List Int)×Int×Int:=(cond (decide (p1<((p0.length:Nat):Int))) (iand .i64 (IntKind.wrap .i64 ((iand .i64 (ixor .i64 (Int.fdiv (IntKind.wrap .i64 ((IntKind.wrap .i64 (p2*(6364136223846793005:Int)))+(1442695040888963407:Int))) (2 ^ (33))) (Int.fdiv (IntKind.wrap .i64 ((IntKind.wrap .i64 (p2*(6364136223846793005:Int)))+(1442695040888963407:Int))) (2 ^ (47)))) (255:Int))+(IntKind.wrap .i64 (p0.getD p1.toNat (0:Int))))) (255:Int),p0,IntKind.wrap .i64 (p1+(1:Int)),IntKind.wrap .i64 ((IntKind.wrap .i64 (p2*(6364136223846793005:Int)))+(1442695040888963407:Int))) (iand .i64 (ixor .i64 (Int.fdiv (IntKind.wrap .i64 ((IntKind.wrap .i64 (p2*(6364136223846793005:Int)))+(1442695040888963407:Int))) (2 ^ (33))) (Int.fdiv (IntKind.wrap .i64 ((IntKind.wrap .i64 (p2*(6364136223846793005:Int)))+(1442695040888963407:Int))) (2 ^ (47)))) (255:Int),p0,p1,IntKind.wrap .i64 ((IntKind.wrap .i64 (p2*(6364136223846793005:Int)))+(1442695040888963407:Int))))
noncomputable abbrev e_sl1Byte (r:Int×(List Int)×Int×Int):AV×List AObj×List Nat:=((.t true (.int .i64) r.1),[(.box [(.t false t_sy r.2.1),(.t true (.int .i64) r.2.2.1),(.t true (.int .i64) r.2.2.2)])],[])
noncomputable abbrev F_sl1Byte (r:Int×(List Int)×Int×Int):=some (e_sl1Byte r)
noncomputable abbrev g_sl1Byte:SM_sl1Byte.den→AV×List AObj×List Nat:=fun d=>e_sl1Byte (sl1Byte d.2.1.1 d.2.1.2.1 d.2.1.2.2.1)
noncomputable def q_sl1Byte (p0:List Int) (p1:Int) (p2:Int):Bool:=cond (decide (p1<((p0.length:Nat):Int))) (decide (0≤p1∧p1<((p0.length:Nat):Int))) true
noncomputable abbrev pre_sl1Byte:SM_sl1Byte.den→Bool:=fun d=>q_sl1Byte d.2.1.1 d.2.1.2.1 d.2.1.2.2.1
theorem run_sl1Byte:RunM G3 (fun _ _=>none) Try.f103 SM_sl1Byte pre_sl1Byte g_sl1Byte:=by
 rintro ⟨⟨_,_⟩,⟨⟨p0,p1,p2,_⟩,_⟩⟩ hp
 change q_sl1Byte p0 p1 p2=true at hp
 unfold q_sl1Byte at hp
 refine Eq.trans (b:=(cond (decide (p1<((p0.length:Nat):Int))) (cond (decide (0≤p1∧p1<((p0.length:Nat):Int))) (some (e_sl1Byte (iand .i64 (IntKind.wrap .i64 ((iand .i64 (ixor .i64 (Int.fdiv (IntKind.wrap .i64 ((IntKind.wrap .i64 (p2*(6364136223846793005:Int)))+(1442695040888963407:Int))) (2 ^ (33))) (Int.fdiv (IntKind.wrap .i64 ((IntKind.wrap .i64 (p2*(6364136223846793005:Int)))+(1442695040888963407:Int))) (2 ^ (47)))) (255:Int))+(IntKind.wrap .i64 (p0.getD p1.toNat (0:Int))))) (255:Int),p0,IntKind.wrap .i64 (p1+(1:Int)),IntKind.wrap .i64 ((IntKind.wrap .i64 (p2*(6364136223846793005:Int)))+(1442695040888963407:Int))))) none) (some (e_sl1Byte (iand .i64 (ixor .i64 (Int.fdiv (IntKind.wrap .i64 ((IntKind.wrap .i64 (p2*(6364136223846793005:Int)))+(1442695040888963407:Int))) (2 ^ (33))) (Int.fdiv (IntKind.wrap .i64 ((IntKind.wrap .i64 (p2*(6364136223846793005:Int)))+(1442695040888963407:Int))) (2 ^ (47)))) (255:Int),p0,p1,IntKind.wrap .i64 ((IntKind.wrap .i64 (p2*(6364136223846793005:Int)))+(1442695040888963407:Int))))))) (by kernel_rfl) ?_
 exact (cndQ (F:=F_sl1Byte) hp (fun hp=>(cndT hp fun _h=>rfl)) (fun hp=>rfl))
noncomputable abbrev m_sl1Byte:=win winIds (msum SM_sl1Byte pre_sl1Byte g_sl1Byte)
theorem c_sl1Byte:MContract Try.prog 103 m_sl1Byte:=(MContract.of_data G3 (by kernel_rfl) (hl0 (by kernel_rfl)) _ _ _ run_sl1Byte).win winIds
noncomputable def S4:Tab:=Tab.add S3 103 (m_sl1Byte)
noncomputable def QF4:FuncId→Bool:=QF3
theorem G4:Good Try.prog tt S4 QF4:=G3.addM c_sl1Byte (win_local _) ⟨Try.f103,by kernel_rfl,by kernel_rfl,by kernel_rfl⟩ (by kernel_rfl)

noncomputable abbrev SM_sl1Below:SS:=⟨[.ptr 0 0 1 0,.t true (.int .i64)],[.box [.t false t_sy,.t true (.int .i64),.t true (.int .i64)]]⟩
noncomputable def k1_sl1Below (p0:List Int) (p1:Int) (p2:Int):=sl1Byte ((sl1Byte p0 p1 p2).2.1) ((sl1Byte p0 p1 p2).2.2.1) ((sl1Byte p0 p1 p2).2.2.2)
noncomputable def k2_sl1Below (p0:List Int) (p1:Int) (p2:Int):=sl1Byte ((k1_sl1Below p0 p1 p2).2.1) ((k1_sl1Below p0 p1 p2).2.2.1) ((k1_sl1Below p0 p1 p2).2.2.2)
noncomputable def sl1Below (x1:Int) (p0:List Int) (p1:Int) (p2:Int):Int×(List Int)×Int×Int:=(cond (decide (x1≤(0:Int))) ((0:Int),p0,p1,p2) (cond (decide (x1≤(256:Int))) (Int.tmod ((sl1Byte p0 p1 p2).1) x1,((sl1Byte p0 p1 p2).2.1),((sl1Byte p0 p1 p2).2.2.1),((sl1Byte p0 p1 p2).2.2.2)) (Int.tmod (IntKind.wrap .i64 ((IntKind.wrap .i64 ((IntKind.wrap .i64 (((sl1Byte p0 p1 p2).1)*(65536:Int)))+(IntKind.wrap .i64 (((k1_sl1Below p0 p1 p2).1)*(256:Int)))))+((k2_sl1Below p0 p1 p2).1))) x1,((k2_sl1Below p0 p1 p2).2.1),((k2_sl1Below p0 p1 p2).2.2.1),((k2_sl1Below p0 p1 p2).2.2.2))))
noncomputable abbrev e_sl1Below (r:Int×(List Int)×Int×Int):AV×List AObj×List Nat:=((.t true (.int .i64) r.1),[(.box [(.t false t_sy r.2.1),(.t true (.int .i64) r.2.2.1),(.t true (.int .i64) r.2.2.2)])],[])
noncomputable abbrev F_sl1Below (r:Int×(List Int)×Int×Int):=some (e_sl1Below r)
noncomputable abbrev g_sl1Below:SM_sl1Below.den→AV×List AObj×List Nat:=fun d=>e_sl1Below (sl1Below d.1.2.1 d.2.1.1 d.2.1.2.1 d.2.1.2.2.1)
noncomputable def q_sl1Below (x1:Int) (p0:List Int) (p1:Int) (p2:Int):Bool:=cond (decide (x1≤(0:Int))) true (cond (decide (x1≤(256:Int))) ((q_sl1Byte p0 p1 p2)&&(decide (x1 ≠ 0))) ((q_sl1Byte p0 p1 p2)&&((q_sl1Byte ((sl1Byte p0 p1 p2).2.1) ((sl1Byte p0 p1 p2).2.2.1) ((sl1Byte p0 p1 p2).2.2.2))&&((q_sl1Byte ((k1_sl1Below p0 p1 p2).2.1) ((k1_sl1Below p0 p1 p2).2.2.1) ((k1_sl1Below p0 p1 p2).2.2.2))&&(decide (x1 ≠ 0))))))
noncomputable abbrev pre_sl1Below:SM_sl1Below.den→Bool:=fun d=>q_sl1Below d.1.2.1 d.2.1.1 d.2.1.2.1 d.2.1.2.2.1
theorem run_sl1Below:RunM G4 (fun _ _=>none) Try.f64 SM_sl1Below pre_sl1Below g_sl1Below:=by
 rintro ⟨⟨_,x1,_⟩,⟨⟨p0,p1,p2,_⟩,_⟩⟩ hp
 change q_sl1Below x1 p0 p1 p2=true at hp
 unfold q_sl1Below at hp
 refine Eq.trans (b:=(cond (decide (x1≤(0:Int))) (some (e_sl1Below ((0:Int),p0,p1,p2))) (cond (decide (x1≤(256:Int))) (cond (q_sl1Byte p0 p1 p2) (cond (decide (x1 ≠ 0)) (some (e_sl1Below (Int.tmod ((sl1Byte p0 p1 p2).1) x1,((sl1Byte p0 p1 p2).2.1),((sl1Byte p0 p1 p2).2.2.1),((sl1Byte p0 p1 p2).2.2.2)))) none) none) (cond (q_sl1Byte p0 p1 p2) (cond (q_sl1Byte ((sl1Byte p0 p1 p2).2.1) ((sl1Byte p0 p1 p2).2.2.1) ((sl1Byte p0 p1 p2).2.2.2)) (cond (q_sl1Byte ((k1_sl1Below p0 p1 p2).2.1) ((k1_sl1Below p0 p1 p2).2.2.1) ((k1_sl1Below p0 p1 p2).2.2.2)) (cond (decide (x1 ≠ 0)) (some (e_sl1Below (Int.tmod (IntKind.wrap .i64 ((IntKind.wrap .i64 ((IntKind.wrap .i64 (((sl1Byte p0 p1 p2).1)*(65536:Int)))+(IntKind.wrap .i64 (((k1_sl1Below p0 p1 p2).1)*(256:Int)))))+((k2_sl1Below p0 p1 p2).1))) x1,((k2_sl1Below p0 p1 p2).2.1),((k2_sl1Below p0 p1 p2).2.2.1),((k2_sl1Below p0 p1 p2).2.2.2)))) none) none) none) none)))) (by kernel_rfl) ?_
 exact (cndQ (F:=F_sl1Below) hp (fun hp=>rfl) (fun hp=>(cndQ (F:=F_sl1Below) hp (fun hp=>(cndA hp fun hp=>(cndT hp fun _h=>rfl))) (fun hp=>(cndA hp fun hp=>(cndA hp fun hp=>(cndA hp fun hp=>(cndT hp fun _h=>rfl))))))))
noncomputable abbrev m_sl1Below:=win winIds (msum SM_sl1Below pre_sl1Below g_sl1Below)
theorem c_sl1Below:MContract Try.prog 64 m_sl1Below:=(MContract.of_data G4 (by kernel_rfl) (hl0 (by kernel_rfl)) _ _ _ run_sl1Below).win winIds
noncomputable def S5:Tab:=Tab.add S4 64 (m_sl1Below)
noncomputable def QF5:FuncId→Bool:=QF4
theorem G5:Good Try.prog tt S5 QF5:=G4.addM c_sl1Below (win_local _) ⟨Try.f64,by kernel_rfl,by kernel_rfl,by kernel_rfl⟩ (by kernel_rfl)

noncomputable abbrev SM_sl1Int:SS:=⟨[.ptr 0 0 1 0,.all 1 1],[.box [.t false t_sy,.t true (.int .i64),.t true (.int .i64)],.rows 3 true (.int .i64)]⟩
noncomputable def sl1Int (p0:List Int) (p1:Int) (p2:Int) (h1:List Int):Int×(List Int)×Int×Int×List Int:=(h1.getD (((sl1Below ((h1.length:Nat):Int) p0 p1 p2).1).toNat) (0:Int),((sl1Below ((h1.length:Nat):Int) p0 p1 p2).2.1),((sl1Below ((h1.length:Nat):Int) p0 p1 p2).2.2.1),((sl1Below ((h1.length:Nat):Int) p0 p1 p2).2.2.2),h1)
noncomputable abbrev e_sl1Int (r:Int×(List Int)×Int×Int×List Int):AV×List AObj×List Nat:=((.t true (.int .i64) r.1),[(.box [(.t false t_sy r.2.1),(.t true (.int .i64) r.2.2.1),(.t true (.int .i64) r.2.2.2.1)]),(.rows 3 true (.int .i64) r.2.2.2.2)],[])
noncomputable abbrev F_sl1Int (r:Int×(List Int)×Int×Int×List Int):=some (e_sl1Int r)
noncomputable abbrev g_sl1Int:SM_sl1Int.den→AV×List AObj×List Nat:=fun d=>e_sl1Int (sl1Int d.2.1.1 d.2.1.2.1 d.2.1.2.2.1 d.2.2.1)
noncomputable def q_sl1Int (p0:List Int) (p1:Int) (p2:Int) (h1:List Int):Bool:=(q_sl1Below ((h1.length:Nat):Int) p0 p1 p2)&&(decide (0≤((sl1Below ((h1.length:Nat):Int) p0 p1 p2).1)∧((sl1Below ((h1.length:Nat):Int) p0 p1 p2).1)<((h1.length:Nat):Int)))
noncomputable abbrev pre_sl1Int:SM_sl1Int.den→Bool:=fun d=>q_sl1Int d.2.1.1 d.2.1.2.1 d.2.1.2.2.1 d.2.2.1
theorem run_sl1Int:RunM G5 (fun _ _=>none) Try.f61 SM_sl1Int pre_sl1Int g_sl1Int:=by
 rintro ⟨⟨_,_,_⟩,⟨⟨p0,p1,p2,_⟩,h1,_⟩⟩ hp
 change q_sl1Int p0 p1 p2 h1=true at hp
 unfold q_sl1Int at hp
 refine Eq.trans (b:=(cond (q_sl1Below ((h1.length:Nat):Int) p0 p1 p2) (cond (decide (0≤((sl1Below ((h1.length:Nat):Int) p0 p1 p2).1)∧((sl1Below ((h1.length:Nat):Int) p0 p1 p2).1)<((h1.length:Nat):Int))) (some (e_sl1Int (h1.getD (((sl1Below ((h1.length:Nat):Int) p0 p1 p2).1).toNat) (0:Int),((sl1Below ((h1.length:Nat):Int) p0 p1 p2).2.1),((sl1Below ((h1.length:Nat):Int) p0 p1 p2).2.2.1),((sl1Below ((h1.length:Nat):Int) p0 p1 p2).2.2.2),h1))) none) none)) (by kernel_rfl) ?_
 exact (cndA hp fun hp=>(cndT hp fun _h=>rfl))
noncomputable abbrev m_sl1Int:=win winIds (msum SM_sl1Int pre_sl1Int g_sl1Int)
theorem c_sl1Int:MContract Try.prog 61 m_sl1Int:=(MContract.of_data G5 (by kernel_rfl) (hl0 (by kernel_rfl)) _ _ _ run_sl1Int).win winIds
noncomputable def S6:Tab:=Tab.add S5 61 (m_sl1Int)
noncomputable def QF6:FuncId→Bool:=QF5
theorem G6:Good Try.prog tt S6 QF6:=G5.addM c_sl1Int (win_local _) ⟨Try.f61,by kernel_rfl,by kernel_rfl,by kernel_rfl⟩ (by kernel_rfl)

noncomputable abbrev P_sl1In:List PSh:=[.t (.int .i64),.t (.int .i64),.t (.int .i64)]
noncomputable def sl1In (a0:Int) (a1:Int) (a2:Int):Bool:=(cond (decide (a0 ≥ a1)) (decide (a0≤a2)) false)
noncomputable abbrev e_sl1In (r:Bool):AV×List AObj:=((.t true .bool r),[])
noncomputable abbrev F_sl1In (r:Bool):=some (e_sl1In r)
noncomputable abbrev g_sl1In:pshsDen P_sl1In→AV×List AObj:=fun d=>e_sl1In (sl1In d.1 d.2.1 d.2.2.1)
noncomputable abbrev pre_sl1In:pshsDen P_sl1In→Bool:=fun d=>true
theorem run_sl1In:RunP true G6 (fun _ _=>none) Try.f42 P_sl1In pre_sl1In g_sl1In:=by
 rintro ⟨a0,⟨a1,⟨a2,_⟩⟩⟩ hp
 refine Eq.trans (b:=(cond (decide (a0 ≥ a1)) (some (e_sl1In (decide (a0≤a2)))) (some (e_sl1In false)))) (by kernel_rfl) ?_
 exact (cnd (F:=F_sl1In) (fun _h=>rfl) (fun _h=>rfl))
theorem c_sl1In:PContract Try.prog 42 (sumOf P_sl1In pre_sl1In g_sl1In):=PContract.of_data true G6 (by kernel_rfl) (hl0 (by kernel_rfl)) _ _ _ run_sl1In
noncomputable def S7:Tab:=Tab.add S6 42 (lift (sumOf P_sl1In pre_sl1In g_sl1In))
noncomputable def QF7:FuncId→Bool:=qadd QF6 42
theorem G7:Good Try.prog tt S7 QF7:=G6.addQ c_sl1In ⟨Try.f42,by kernel_rfl,by kernel_rfl,by kernel_rfl⟩ (fun _=>rfl)

noncomputable abbrev LIbe:=List (Int×Bool)
noncomputable abbrev tq6:Ty:=.pair (.int .i64) (.pair (.sl (.pair (.int .i64) (.pair .str .str))) (.pair (.int .i64) (.sl (.int .i64))))
noncomputable abbrev t_pib:Ty:=.pair (.int .i64) .bool
noncomputable abbrev P_sCoordNew:List PSh:=[.t (.int .i64)]
noncomputable def sCoordNew (a0:Int):Int×Int×Int×Int×(List (Int×(Lq1)×Int×List Int))×LIbe:=(cond (!(sl1In a0 (1:Int) (8:Int))) ((0:Int),(0:Int),(0:Int),(0:Int),([]:List (Int×(Lq1)×Int×List Int)),([]:LIbe)) (a0,(1:Int),(0:Int),(0:Int),([]:List (Int×(Lq1)×Int×List Int)),([]:LIbe)))
noncomputable abbrev e_sCoordNew (r:Int×Int×Int×Int×(List (Int×(Lq1)×Int×List Int))×LIbe):AV×List AObj:=((.agg [(.t true (.int .i64) r.1),(.t true (.int .i64) r.2.1),(.t true (.int .i64) r.2.2.1),(.all 0 4),(.all 1 2),(.t true (.int .i64) r.2.2.2.1)]),[(.rows 48 true tq6 r.2.2.2.2.1),(.rows 43 true t_pib r.2.2.2.2.2)])
noncomputable abbrev F_sCoordNew (r:Int×Int×Int×Int×(List (Int×(Lq1)×Int×List Int))×LIbe):=some (e_sCoordNew r)
noncomputable abbrev g_sCoordNew:pshsDen P_sCoordNew→AV×List AObj:=fun d=>e_sCoordNew (sCoordNew d.1)
noncomputable abbrev pre_sCoordNew:pshsDen P_sCoordNew→Bool:=fun d=>true
theorem run_sCoordNew:RunP false G7 (fun _ _=>none) Try.f96 P_sCoordNew pre_sCoordNew g_sCoordNew:=by
 rintro ⟨a0,_⟩ hp
 refine Eq.trans (b:=(cond (!(sl1In a0 (1:Int) (8:Int))) (some (e_sCoordNew ((0:Int),(0:Int),(0:Int),(0:Int),([]:List (Int×(Lq1)×Int×List Int)),([]:LIbe)))) (some (e_sCoordNew (a0,(1:Int),(0:Int),(0:Int),([]:List (Int×(Lq1)×Int×List Int)),([]:LIbe)))))) (by kernel_rfl) ?_
 exact (cnd (F:=F_sCoordNew) (fun _h=>rfl) (fun _h=>rfl))
theorem c_sCoordNew:PContract Try.prog 96 (sumOf P_sCoordNew pre_sCoordNew g_sCoordNew):=PContract.of_data false G7 (by kernel_rfl) (hl0 (by kernel_rfl)) _ _ _ run_sCoordNew
noncomputable def S8:Tab:=Tab.add S7 96 (lift (sumOf P_sCoordNew pre_sCoordNew g_sCoordNew))
noncomputable def QF8:FuncId→Bool:=QF7
theorem G8:Good Try.prog tt S8 QF8:=G7.add c_sCoordNew ⟨Try.f96,by kernel_rfl,by kernel_rfl,by kernel_rfl⟩ (by kernel_rfl)

noncomputable abbrev SM_sl1Str:SS:=⟨[.ptr 0 0 1 0,.all 1 1],[.box [.t false t_sy,.t true (.int .i64),.t true (.int .i64)],.rows 9 true .str]⟩
noncomputable def sl1Str (p0:List Int) (p1:Int) (p2:Int) (h1:List ByteArray):ByteArray×(List Int)×Int×Int×List ByteArray:=(h1.getD (((sl1Below ((h1.length:Nat):Int) p0 p1 p2).1).toNat) bE,((sl1Below ((h1.length:Nat):Int) p0 p1 p2).2.1),((sl1Below ((h1.length:Nat):Int) p0 p1 p2).2.2.1),((sl1Below ((h1.length:Nat):Int) p0 p1 p2).2.2.2),h1)
noncomputable abbrev e_sl1Str (r:ByteArray×(List Int)×Int×Int×List ByteArray):AV×List AObj×List Nat:=((.t true .str r.1),[(.box [(.t false t_sy r.2.1),(.t true (.int .i64) r.2.2.1),(.t true (.int .i64) r.2.2.2.1)]),(.rows 9 true .str r.2.2.2.2)],[])
noncomputable abbrev F_sl1Str (r:ByteArray×(List Int)×Int×Int×List ByteArray):=some (e_sl1Str r)
noncomputable abbrev g_sl1Str:SM_sl1Str.den→AV×List AObj×List Nat:=fun d=>e_sl1Str (sl1Str d.2.1.1 d.2.1.2.1 d.2.1.2.2.1 d.2.2.1)
noncomputable def q_sl1Str (p0:List Int) (p1:Int) (p2:Int) (h1:List ByteArray):Bool:=(q_sl1Below ((h1.length:Nat):Int) p0 p1 p2)&&(decide (0≤((sl1Below ((h1.length:Nat):Int) p0 p1 p2).1)∧((sl1Below ((h1.length:Nat):Int) p0 p1 p2).1)<((h1.length:Nat):Int)))
noncomputable abbrev pre_sl1Str:SM_sl1Str.den→Bool:=fun d=>q_sl1Str d.2.1.1 d.2.1.2.1 d.2.1.2.2.1 d.2.2.1
theorem run_sl1Str:RunM G8 (fun _ _=>none) Try.f149 SM_sl1Str pre_sl1Str g_sl1Str:=by
 rintro ⟨⟨_,_,_⟩,⟨⟨p0,p1,p2,_⟩,h1,_⟩⟩ hp
 change q_sl1Str p0 p1 p2 h1=true at hp
 unfold q_sl1Str at hp
 refine Eq.trans (b:=(cond (q_sl1Below ((h1.length:Nat):Int) p0 p1 p2) (cond (decide (0≤((sl1Below ((h1.length:Nat):Int) p0 p1 p2).1)∧((sl1Below ((h1.length:Nat):Int) p0 p1 p2).1)<((h1.length:Nat):Int))) (some (e_sl1Str (h1.getD (((sl1Below ((h1.length:Nat):Int) p0 p1 p2).1).toNat) (⟨#[]⟩:ByteArray),((sl1Below ((h1.length:Nat):Int) p0 p1 p2).2.1),((sl1Below ((h1.length:Nat):Int) p0 p1 p2).2.2.1),((sl1Below ((h1.length:Nat):Int) p0 p1 p2).2.2.2),h1))) none) none)) (by kernel_rfl) ?_
 exact (cndA hp fun hp=>(cndT hp fun _h=>rfl))
noncomputable abbrev m_sl1Str:=win winIds (msum SM_sl1Str pre_sl1Str g_sl1Str)
theorem c_sl1Str:MContract Try.prog 149 m_sl1Str:=(MContract.of_data G8 (by kernel_rfl) (hl0 (by kernel_rfl)) _ _ _ run_sl1Str).win winIds
noncomputable def S9:Tab:=Tab.add S8 149 (m_sl1Str)
noncomputable def QF9:FuncId→Bool:=QF8
theorem G9:Good Try.prog tt S9 QF9:=G8.addM c_sl1Str (win_local _) ⟨Try.f149,by kernel_rfl,by kernel_rfl,by kernel_rfl⟩ (by kernel_rfl)

noncomputable abbrev SM_sl3Key:SS:=⟨[.ptr 0 0 1 0],[.box [.t false t_sy,.t true (.int .i64),.t true (.int .i64)]]⟩
noncomputable def k1_sl3Key (p0:List Int) (p1:Int) (p2:Int):=sl1Str p0 p1 p2 ([(⟨#[97]⟩:ByteArray),(⟨#[98]⟩:ByteArray),(⟨#[99]⟩:ByteArray),(⟨#[107,49]⟩:ByteArray),(⟨#[107,50]⟩:ByteArray),(⟨#[109]⟩:ByteArray),(⟨#[122]⟩:ByteArray)])
noncomputable def sl3Key (p0:List Int) (p1:Int) (p2:Int):ByteArray×(List Int)×Int×Int:=(((k1_sl3Key p0 p1 p2).1),((k1_sl3Key p0 p1 p2).2.1),((k1_sl3Key p0 p1 p2).2.2.1),((k1_sl3Key p0 p1 p2).2.2.2.1))
noncomputable abbrev e_sl3Key (r:ByteArray×(List Int)×Int×Int):AV×List AObj×List Nat:=((.t true .str r.1),[(.box [(.t false t_sy r.2.1),(.t true (.int .i64) r.2.2.1),(.t true (.int .i64) r.2.2.2)])],[])
noncomputable abbrev F_sl3Key (r:ByteArray×(List Int)×Int×Int):=some (e_sl3Key r)
noncomputable abbrev g_sl3Key:SM_sl3Key.den→AV×List AObj×List Nat:=fun d=>e_sl3Key (sl3Key d.2.1.1 d.2.1.2.1 d.2.1.2.2.1)
noncomputable def q_sl3Key (p0:List Int) (p1:Int) (p2:Int):Bool:=q_sl1Str p0 p1 p2 ([(⟨#[97]⟩:ByteArray),(⟨#[98]⟩:ByteArray),(⟨#[99]⟩:ByteArray),(⟨#[107,49]⟩:ByteArray),(⟨#[107,50]⟩:ByteArray),(⟨#[109]⟩:ByteArray),(⟨#[122]⟩:ByteArray)])
noncomputable abbrev pre_sl3Key:SM_sl3Key.den→Bool:=fun d=>q_sl3Key d.2.1.1 d.2.1.2.1 d.2.1.2.2.1
theorem run_sl3Key:RunM G9 (fun _ _=>none) Try.f148 SM_sl3Key pre_sl3Key g_sl3Key:=by
 rintro ⟨⟨_,_⟩,⟨⟨p0,p1,p2,_⟩,_⟩⟩ hp
 change q_sl3Key p0 p1 p2=true at hp
 unfold q_sl3Key at hp
 refine Eq.trans (b:=(cond (q_sl1Str p0 p1 p2 ([(⟨#[97]⟩:ByteArray),(⟨#[98]⟩:ByteArray),(⟨#[99]⟩:ByteArray),(⟨#[107,49]⟩:ByteArray),(⟨#[107,50]⟩:ByteArray),(⟨#[109]⟩:ByteArray),(⟨#[122]⟩:ByteArray)])) (some (e_sl3Key (((k1_sl3Key p0 p1 p2).1),((k1_sl3Key p0 p1 p2).2.1),((k1_sl3Key p0 p1 p2).2.2.1),((k1_sl3Key p0 p1 p2).2.2.2.1)))) none)) (by kernel_rfl) ?_
 exact (cndT hp fun _h=>rfl)
noncomputable abbrev m_sl3Key:=win winIds (msum SM_sl3Key pre_sl3Key g_sl3Key)
theorem c_sl3Key:MContract Try.prog 148 m_sl3Key:=(MContract.of_data G9 (by kernel_rfl) (hl0 (by kernel_rfl)) _ _ _ run_sl3Key).win winIds
noncomputable def S10:Tab:=Tab.add S9 148 (m_sl3Key)
noncomputable def QF10:FuncId→Bool:=QF9
theorem G10:Good Try.prog tt S10 QF10:=G9.addM c_sl3Key (win_local _) ⟨Try.f148,by kernel_rfl,by kernel_rfl,by kernel_rfl⟩ (by kernel_rfl)

noncomputable abbrev SM_sl7Op1:SS:=⟨[.ptr 0 0 1 0],[.box [.t false t_sy,.t true (.int .i64),.t true (.int .i64)]]⟩
noncomputable def k1_sl7Op1 (p0:List Int) (p1:Int) (p2:Int):=sl3Key ((sl1Int p0 p1 p2 [(1:Int),(1:Int),(1:Int),(2:Int),(3:Int)]).2.1) ((sl1Int p0 p1 p2 [(1:Int),(1:Int),(1:Int),(2:Int),(3:Int)]).2.2.1) ((sl1Int p0 p1 p2 [(1:Int),(1:Int),(1:Int),(2:Int),(3:Int)]).2.2.2.1)
noncomputable def k2_sl7Op1 (p0:List Int) (p1:Int) (p2:Int):=sl1Str ((k1_sl7Op1 p0 p1 p2).2.1) ((k1_sl7Op1 p0 p1 p2).2.2.1) ((k1_sl7Op1 p0 p1 p2).2.2.2) ([(⟨#[49]⟩:ByteArray),(⟨#[50]⟩:ByteArray),(⟨#[120]⟩:ByteArray),bE,(⟨#[49]⟩:ByteArray)])
noncomputable def sl7Op1 (p0:List Int) (p1:Int) (p2:Int):Int×ByteArray×ByteArray×(List Int)×Int×Int×Int×ByteArray×ByteArray:=(cond (((sl1Int p0 p1 p2 [(1:Int),(1:Int),(1:Int),(2:Int),(3:Int)]).1) != (2:Int)) (((sl1Int p0 p1 p2 [(1:Int),(1:Int),(1:Int),(2:Int),(3:Int)]).1),((k1_sl7Op1 p0 p1 p2).1),((k2_sl7Op1 p0 p1 p2).1),((k2_sl7Op1 p0 p1 p2).2.1),((k2_sl7Op1 p0 p1 p2).2.2.1),((k2_sl7Op1 p0 p1 p2).2.2.2.1),((sl1Int p0 p1 p2 [(1:Int),(1:Int),(1:Int),(2:Int),(3:Int)]).1),((k1_sl7Op1 p0 p1 p2).1),((k2_sl7Op1 p0 p1 p2).1)) (((sl1Int p0 p1 p2 [(1:Int),(1:Int),(1:Int),(2:Int),(3:Int)]).1),((k1_sl7Op1 p0 p1 p2).1),bE,((k1_sl7Op1 p0 p1 p2).2.1),((k1_sl7Op1 p0 p1 p2).2.2.1),((k1_sl7Op1 p0 p1 p2).2.2.2),((sl1Int p0 p1 p2 [(1:Int),(1:Int),(1:Int),(2:Int),(3:Int)]).1),((k1_sl7Op1 p0 p1 p2).1),bE))
noncomputable abbrev e_sl7Op1 (r:Int×ByteArray×ByteArray×(List Int)×Int×Int×Int×ByteArray×ByteArray):AV×List AObj×List Nat:=((.agg [(.t true (.int .i64) r.1),(.t true .str r.2.1),(.t true .str r.2.2.1)]),[(.box [(.t false t_sy r.2.2.2.1),(.t true (.int .i64) r.2.2.2.2.1),(.t true (.int .i64) r.2.2.2.2.2.1)]),(.box [(.t true (.int .i64) r.2.2.2.2.2.2.1),(.t true .str r.2.2.2.2.2.2.2.1),(.t true .str r.2.2.2.2.2.2.2.2)])],[])
noncomputable abbrev F_sl7Op1 (r:Int×ByteArray×ByteArray×(List Int)×Int×Int×Int×ByteArray×ByteArray):=some (e_sl7Op1 r)
noncomputable abbrev g_sl7Op1:SM_sl7Op1.den→AV×List AObj×List Nat:=fun d=>e_sl7Op1 (sl7Op1 d.2.1.1 d.2.1.2.1 d.2.1.2.2.1)
noncomputable def q_sl7Op1 (p0:List Int) (p1:Int) (p2:Int):Bool:=(q_sl1Int p0 p1 p2 [(1:Int),(1:Int),(1:Int),(2:Int),(3:Int)])&&((q_sl3Key ((sl1Int p0 p1 p2 [(1:Int),(1:Int),(1:Int),(2:Int),(3:Int)]).2.1) ((sl1Int p0 p1 p2 [(1:Int),(1:Int),(1:Int),(2:Int),(3:Int)]).2.2.1) ((sl1Int p0 p1 p2 [(1:Int),(1:Int),(1:Int),(2:Int),(3:Int)]).2.2.2.1))&&(cond (((sl1Int p0 p1 p2 [(1:Int),(1:Int),(1:Int),(2:Int),(3:Int)]).1) != (2:Int)) (q_sl1Str ((k1_sl7Op1 p0 p1 p2).2.1) ((k1_sl7Op1 p0 p1 p2).2.2.1) ((k1_sl7Op1 p0 p1 p2).2.2.2) ([(⟨#[49]⟩:ByteArray),(⟨#[50]⟩:ByteArray),(⟨#[120]⟩:ByteArray),bE,(⟨#[49]⟩:ByteArray)])) true))
noncomputable abbrev pre_sl7Op1:SM_sl7Op1.den→Bool:=fun d=>q_sl7Op1 d.2.1.1 d.2.1.2.1 d.2.1.2.2.1
theorem run_sl7Op1:RunM G10 (fun _ _=>none) Try.f128 SM_sl7Op1 pre_sl7Op1 g_sl7Op1:=by
 rintro ⟨⟨_,_⟩,⟨⟨p0,p1,p2,_⟩,_⟩⟩ hp
 change q_sl7Op1 p0 p1 p2=true at hp
 unfold q_sl7Op1 at hp
 refine Eq.trans (b:=(cond (q_sl1Int p0 p1 p2 [(1:Int),(1:Int),(1:Int),(2:Int),(3:Int)]) (cond (q_sl3Key ((sl1Int p0 p1 p2 [(1:Int),(1:Int),(1:Int),(2:Int),(3:Int)]).2.1) ((sl1Int p0 p1 p2 [(1:Int),(1:Int),(1:Int),(2:Int),(3:Int)]).2.2.1) ((sl1Int p0 p1 p2 [(1:Int),(1:Int),(1:Int),(2:Int),(3:Int)]).2.2.2.1)) (cond (((sl1Int p0 p1 p2 [(1:Int),(1:Int),(1:Int),(2:Int),(3:Int)]).1) != (2:Int)) (cond (q_sl1Str ((k1_sl7Op1 p0 p1 p2).2.1) ((k1_sl7Op1 p0 p1 p2).2.2.1) ((k1_sl7Op1 p0 p1 p2).2.2.2) ([(⟨#[49]⟩:ByteArray),(⟨#[50]⟩:ByteArray),(⟨#[120]⟩:ByteArray),(⟨#[]⟩:ByteArray),(⟨#[49]⟩:ByteArray)])) (some (e_sl7Op1 (((sl1Int p0 p1 p2 [(1:Int),(1:Int),(1:Int),(2:Int),(3:Int)]).1),((k1_sl7Op1 p0 p1 p2).1),((k2_sl7Op1 p0 p1 p2).1),((k2_sl7Op1 p0 p1 p2).2.1),((k2_sl7Op1 p0 p1 p2).2.2.1),((k2_sl7Op1 p0 p1 p2).2.2.2.1),((sl1Int p0 p1 p2 [(1:Int),(1:Int),(1:Int),(2:Int),(3:Int)]).1),((k1_sl7Op1 p0 p1 p2).1),((k2_sl7Op1 p0 p1 p2).1)))) none) (some (e_sl7Op1 (((sl1Int p0 p1 p2 [(1:Int),(1:Int),(1:Int),(2:Int),(3:Int)]).1),((k1_sl7Op1 p0 p1 p2).1),(⟨#[]⟩:ByteArray),((k1_sl7Op1 p0 p1 p2).2.1),((k1_sl7Op1 p0 p1 p2).2.2.1),((k1_sl7Op1 p0 p1 p2).2.2.2),((sl1Int p0 p1 p2 [(1:Int),(1:Int),(1:Int),(2:Int),(3:Int)]).1),((k1_sl7Op1 p0 p1 p2).1),(⟨#[]⟩:ByteArray))))) none) none)) (by kernel_rfl) ?_
 exact (cndA hp fun hp=>(cndA hp fun hp=>(cndQ (F:=F_sl7Op1) hp (fun hp=>(cndT hp fun _h=>rfl)) (fun hp=>rfl))))
noncomputable abbrev m_sl7Op1:=win winIds (msum SM_sl7Op1 pre_sl7Op1 g_sl7Op1)
theorem c_sl7Op1:MContract Try.prog 128 m_sl7Op1:=(MContract.of_data G10 (by kernel_rfl) (hl0 (by kernel_rfl)) _ _ _ run_sl7Op1).win winIds
noncomputable def S11:Tab:=Tab.add S10 128 (m_sl7Op1)
noncomputable def QF11:FuncId→Bool:=QF10
theorem G11:Good Try.prog tt S11 QF11:=G10.addM c_sl7Op1 (win_local _) ⟨Try.f128,by kernel_rfl,by kernel_rfl,by kernel_rfl⟩ (by kernel_rfl)

noncomputable abbrev jS45:List Sh:=.junk::.junk::.junk::.junk::.junk::.junk::.junk::.junk::.junk::.junk::.junk::.junk::.junk::.junk::.junk::.junk::.junk::jS28
noncomputable abbrev tq8:Ty:=.pair (.int .i64) (.pair .str .str)
noncomputable abbrev jS46:List Sh:=.junk::jS45
noncomputable abbrev u46:=((),(),(),(),(),(),(),(),(),(),(),(),(),(),(),(),(),u29)
noncomputable abbrev u47:=((),u46)
noncomputable abbrev jA45:List AV:=.junk::.junk::.junk::.junk::.junk::.junk::.junk::.junk::.junk::.junk::.junk::.junk::.junk::.junk::.junk::.junk::.junk::jA28
noncomputable abbrev jA46:List AV:=.junk::jA45
noncomputable abbrev P_sl7One:List PSh:=[.t tq3,.agg [(.int .i64),.str,.str]]
noncomputable abbrev S_sl7One_0:SS:=⟨(.t false tq3::.junk::.junk::.ptr 0 0 1 0::.junk::.all 1 3::.t true .bool::.t true (.int .i64)::jS45),[.box [.t true (.int .i64),.t true .str,.t true .str],.rows 90 true tq8]⟩
noncomputable abbrev E_sl7One_0_0:SS:=⟨(.junk::.junk::.junk::.ptr 0 0 1 0::.junk::.all 1 3::.t true .bool::jS46),[.box [.t true (.int .i64),.t true .str,.t true .str],.rows 90 true tq8]⟩
noncomputable def st_sl7One_0 (x0:Lq1) (x6:Bool) (x7:Int) (p0:Int) (p1:ByteArray) (p2:ByteArray) (h1:Lq1):RT S_sl7One_0.den:=(.br (decide (x7<((x0.length:Nat):Int))) (.br (!x6) (.br (decide (0≤x7∧x7<((x0.length:Nat):Int))) (.br (!(Op.bytesLess (((x0.getD x7.toNat ((0:Int),(bE,bE))).2).1).toList p1.toList)) (.br (decide ((h1.length+[(p0,(p1,p2))].length)*40≤MAXB)) (.br (decide (0≤x7∧x7<((x0.length:Nat):Int))) (.br (!((((x0.getD x7.toNat ((0:Int),(bE,bE))).2).1).toList==p1.toList)) (.br (decide (0≤x7∧x7<((x0.length:Nat):Int))) (.br (decide (((h1++[(p0,(p1,p2))]).length+([((x0.getD x7.toNat ((0:Int),(bE,bE))).1,(((x0.getD x7.toNat ((0:Int),(bE,bE))).2).1,((x0.getD x7.toNat ((0:Int),(bE,bE))).2).2))]).length)*40≤MAXB)) (.next ((x0,(),(),(),(),(),true,IntKind.wrap .i64 (x7+(1:Int)),u46),((p0,p1,p2,()),(h1++[(p0,(p1,p2))])++([((x0.getD x7.toNat ((0:Int),(bE,bE))).1,(((x0.getD x7.toNat ((0:Int),(bE,bE))).2).1,((x0.getD x7.toNat ((0:Int),(bE,bE))).2).2))]),()))) .fail) .fail) (.next ((x0,(),(),(),(),(),true,IntKind.wrap .i64 (x7+(1:Int)),u46),((p0,p1,p2,()),h1++[(p0,(p1,p2))],())))) .fail) .fail) (.br (decide (0≤x7∧x7<((x0.length:Nat):Int))) (.br (!((((x0.getD x7.toNat ((0:Int),(bE,bE))).2).1).toList==p1.toList)) (.br (decide (0≤x7∧x7<((x0.length:Nat):Int))) (.br (decide ((h1.length+([((x0.getD x7.toNat ((0:Int),(bE,bE))).1,(((x0.getD x7.toNat ((0:Int),(bE,bE))).2).1,((x0.getD x7.toNat ((0:Int),(bE,bE))).2).2))]).length)*40≤MAXB)) (.next ((x0,(),(),(),(),(),x6,IntKind.wrap .i64 (x7+(1:Int)),u46),((p0,p1,p2,()),h1++([((x0.getD x7.toNat ((0:Int),(bE,bE))).1,(((x0.getD x7.toNat ((0:Int),(bE,bE))).2).1,((x0.getD x7.toNat ((0:Int),(bE,bE))).2).2))]),()))) .fail) .fail) (.next ((x0,(),(),(),(),(),x6,IntKind.wrap .i64 (x7+(1:Int)),u46),((p0,p1,p2,()),h1,())))) .fail)) .fail) (.br (decide (0≤x7∧x7<((x0.length:Nat):Int))) (.br (!((((x0.getD x7.toNat ((0:Int),(bE,bE))).2).1).toList==p1.toList)) (.br (decide (0≤x7∧x7<((x0.length:Nat):Int))) (.br (decide ((h1.length+([((x0.getD x7.toNat ((0:Int),(bE,bE))).1,(((x0.getD x7.toNat ((0:Int),(bE,bE))).2).1,((x0.getD x7.toNat ((0:Int),(bE,bE))).2).2))]).length)*40≤MAXB)) (.next ((x0,(),(),(),(),(),x6,IntKind.wrap .i64 (x7+(1:Int)),u46),((p0,p1,p2,()),h1++([((x0.getD x7.toNat ((0:Int),(bE,bE))).1,(((x0.getD x7.toNat ((0:Int),(bE,bE))).2).1,((x0.getD x7.toNat ((0:Int),(bE,bE))).2).2))]),()))) .fail) .fail) (.next ((x0,(),(),(),(),(),x6,IntKind.wrap .i64 (x7+(1:Int)),u46),((p0,p1,p2,()),h1,())))) .fail)) (.done (.exit 0) E_sl7One_0_0 (((),(),(),(),(),(),x6,u47),((p0,p1,p2,()),h1,()))))
noncomputable abbrev V_sl7One_0:=(Lq1)×(Bool)×(Int)×(Lq1)
noncomputable abbrev A_sl7One_0:=Nat×(Bool)×(Lq1)
noncomputable def fl_sl7One_0:A_sl7One_0:=(99,(false:Bool),([]:Lq1))
noncomputable def ss_sl7One_0 (x0:Lq1) (x6:Bool) (x7:Int) (p0:Int) (p1:ByteArray) (p2:ByteArray) (h1:Lq1):V_sl7One_0 ⊕ A_sl7One_0:=(cond (decide (x7<((x0.length:Nat):Int))) (cond (!x6) (cond (decide (0≤x7∧x7<((x0.length:Nat):Int))) (cond (!(Op.bytesLess (((x0.getD x7.toNat ((0:Int),(bE,bE))).2).1).toList p1.toList)) (cond (decide ((h1.length+[(p0,(p1,p2))].length)*40≤MAXB)) (cond (decide (0≤x7∧x7<((x0.length:Nat):Int))) (cond (!((((x0.getD x7.toNat ((0:Int),(bE,bE))).2).1).toList==p1.toList)) (cond (decide (0≤x7∧x7<((x0.length:Nat):Int))) (cond (decide (((h1++[(p0,(p1,p2))]).length+([((x0.getD x7.toNat ((0:Int),(bE,bE))).1,(((x0.getD x7.toNat ((0:Int),(bE,bE))).2).1,((x0.getD x7.toNat ((0:Int),(bE,bE))).2).2))]).length)*40≤MAXB)) (.inl (x0,true,IntKind.wrap .i64 (x7+(1:Int)),(h1++[(p0,(p1,p2))])++([((x0.getD x7.toNat ((0:Int),(bE,bE))).1,(((x0.getD x7.toNat ((0:Int),(bE,bE))).2).1,((x0.getD x7.toNat ((0:Int),(bE,bE))).2).2))]))) (.inr fl_sl7One_0)) (.inr fl_sl7One_0)) (.inl (x0,true,IntKind.wrap .i64 (x7+(1:Int)),h1++[(p0,(p1,p2))]))) (.inr fl_sl7One_0)) (.inr fl_sl7One_0)) (cond (decide (0≤x7∧x7<((x0.length:Nat):Int))) (cond (!((((x0.getD x7.toNat ((0:Int),(bE,bE))).2).1).toList==p1.toList)) (cond (decide (0≤x7∧x7<((x0.length:Nat):Int))) (cond (decide ((h1.length+([((x0.getD x7.toNat ((0:Int),(bE,bE))).1,(((x0.getD x7.toNat ((0:Int),(bE,bE))).2).1,((x0.getD x7.toNat ((0:Int),(bE,bE))).2).2))]).length)*40≤MAXB)) (.inl (x0,x6,IntKind.wrap .i64 (x7+(1:Int)),h1++([((x0.getD x7.toNat ((0:Int),(bE,bE))).1,(((x0.getD x7.toNat ((0:Int),(bE,bE))).2).1,((x0.getD x7.toNat ((0:Int),(bE,bE))).2).2))]))) (.inr fl_sl7One_0)) (.inr fl_sl7One_0)) (.inl (x0,x6,IntKind.wrap .i64 (x7+(1:Int)),h1))) (.inr fl_sl7One_0))) (.inr fl_sl7One_0)) (cond (decide (0≤x7∧x7<((x0.length:Nat):Int))) (cond (!((((x0.getD x7.toNat ((0:Int),(bE,bE))).2).1).toList==p1.toList)) (cond (decide (0≤x7∧x7<((x0.length:Nat):Int))) (cond (decide ((h1.length+([((x0.getD x7.toNat ((0:Int),(bE,bE))).1,(((x0.getD x7.toNat ((0:Int),(bE,bE))).2).1,((x0.getD x7.toNat ((0:Int),(bE,bE))).2).2))]).length)*40≤MAXB)) (.inl (x0,x6,IntKind.wrap .i64 (x7+(1:Int)),h1++([((x0.getD x7.toNat ((0:Int),(bE,bE))).1,(((x0.getD x7.toNat ((0:Int),(bE,bE))).2).1,((x0.getD x7.toNat ((0:Int),(bE,bE))).2).2))]))) (.inr fl_sl7One_0)) (.inr fl_sl7One_0)) (.inl (x0,x6,IntKind.wrap .i64 (x7+(1:Int)),h1))) (.inr fl_sl7One_0))) (.inr (0,x6,h1)))
noncomputable def it_sl7One_0 (x0:Lq1) (x6:Bool) (x7:Int) (p0:Int) (p1:ByteArray) (p2:ByteArray) (h1:Lq1):A_sl7One_0:=itX (fun v:V_sl7One_0=>ss_sl7One_0 v.1 v.2.1 v.2.2.1 p0 p1 p2 v.2.2.2) fl_sl7One_0 (x0,x6,x7,h1)
noncomputable def ct_sl7One_0 (p0:Int) (p1:ByteArray) (p2:ByteArray) (a:A_sl7One_0):CT:=(.br (a.1==0) (.done (.exit 0) E_sl7One_0_0 (((),(),(),(),(),(),a.2.1,u47),((p0,p1,p2,()),a.2.2,()))) .fail)
noncomputable def T_sl7One_0 (x0:Lq1) (x6:Bool) (x7:Int) (p0:Int) (p1:ByteArray) (p2:ByteArray) (h1:Lq1):CT:=(ct_sl7One_0 p0 p1 p2) (it_sl7One_0 x0 x6 x7 p0 p1 p2 h1)
noncomputable abbrev sp_sl7One_0:S_sl7One_0.den→RT S_sl7One_0.den:=fun d=>st_sl7One_0 d.1.1 d.1.2.2.2.2.2.2.1 d.1.2.2.2.2.2.2.2.1 d.2.1.1 d.2.1.2.1 d.2.1.2.2.1 d.2.2.1
noncomputable abbrev pk_sl7One_0 (x0:Lq1) (x6:Bool) (x7:Int) (p0:Int) (p1:ByteArray) (p2:ByteArray) (h1:Lq1):S_sl7One_0.den:=((x0,(),(),(),(),(),x6,x7,u46),((p0,p1,p2,()),h1,()))
noncomputable def body_sl7One_0:Code:=((loopsIn 0 (bodyOf Try.f127)).getD 0 (0,.skip)).2
noncomputable abbrev pv_sl7One_0 (p0:Int) (p1:ByteArray) (p2:ByteArray) (v:V_sl7One_0):S_sl7One_0.den:=pk_sl7One_0 v.1 v.2.1 v.2.2.1 p0 p1 p2 v.2.2.2
noncomputable def ox_sl7One_0 (x0:Lq1) (x6:Bool) (x7:Int) (p0:Int) (p1:ByteArray) (p2:ByteArray) (h1:Lq1):Option (Ex×St):=(cond (decide (x7<((x0.length:Nat):Int))) (cond (!x6) (cond (decide (0≤x7∧x7<((x0.length:Nat):Int))) (cond (!(Op.bytesLess (((x0.getD x7.toNat ((0:Int),(bE,bE))).2).1).toList p1.toList)) (cond (decide ((h1.length+[(p0,(p1,p2))].length)*40≤MAXB)) (cond (decide (0≤x7∧x7<((x0.length:Nat):Int))) (cond (!((((x0.getD x7.toNat ((0:Int),(bE,bE))).2).1).toList==p1.toList)) (cond (decide (0≤x7∧x7<((x0.length:Nat):Int))) (cond (decide (((h1++[(p0,(p1,p2))]).length+([((x0.getD x7.toNat ((0:Int),(bE,bE))).1,(((x0.getD x7.toNat ((0:Int),(bE,bE))).2).1,((x0.getD x7.toNat ((0:Int),(bE,bE))).2).2))]).length)*40≤MAXB)) (some (.normal,(⟨((.t false tq3 x0)::.junk::.junk::(.ptr 0 0 1 0)::.junk::(.all 1 3)::(.t true .bool true)::(.t true (.int .i64) (IntKind.wrap .i64 (x7+(1:Int))))::jA45),[(.box [(.t true (.int .i64) p0),(.t true .str p1),(.t true .str p2)]),(.rows 90 true tq8 ((h1++[(p0,(p1,p2))])++([((x0.getD x7.toNat ((0:Int),(bE,bE))).1,(((x0.getD x7.toNat ((0:Int),(bE,bE))).2).1,((x0.getD x7.toNat ((0:Int),(bE,bE))).2).2))])))],0,[]⟩:St))) none) none) (some (.normal,(⟨((.t false tq3 x0)::.junk::.junk::(.ptr 0 0 1 0)::.junk::(.all 1 3)::(.t true .bool true)::(.t true (.int .i64) (IntKind.wrap .i64 (x7+(1:Int))))::jA45),[(.box [(.t true (.int .i64) p0),(.t true .str p1),(.t true .str p2)]),(.rows 90 true tq8 (h1++[(p0,(p1,p2))]))],0,[]⟩:St)))) none) none) (cond (decide (0≤x7∧x7<((x0.length:Nat):Int))) (cond (!((((x0.getD x7.toNat ((0:Int),(bE,bE))).2).1).toList==p1.toList)) (cond (decide (0≤x7∧x7<((x0.length:Nat):Int))) (cond (decide ((h1.length+([((x0.getD x7.toNat ((0:Int),(bE,bE))).1,(((x0.getD x7.toNat ((0:Int),(bE,bE))).2).1,((x0.getD x7.toNat ((0:Int),(bE,bE))).2).2))]).length)*40≤MAXB)) (some (.normal,(⟨((.t false tq3 x0)::.junk::.junk::(.ptr 0 0 1 0)::.junk::(.all 1 3)::(.t true .bool x6)::(.t true (.int .i64) (IntKind.wrap .i64 (x7+(1:Int))))::jA45),[(.box [(.t true (.int .i64) p0),(.t true .str p1),(.t true .str p2)]),(.rows 90 true tq8 (h1++([((x0.getD x7.toNat ((0:Int),(bE,bE))).1,(((x0.getD x7.toNat ((0:Int),(bE,bE))).2).1,((x0.getD x7.toNat ((0:Int),(bE,bE))).2).2))])))],0,[]⟩:St))) none) none) (some (.normal,(⟨((.t false tq3 x0)::.junk::.junk::(.ptr 0 0 1 0)::.junk::(.all 1 3)::(.t true .bool x6)::(.t true (.int .i64) (IntKind.wrap .i64 (x7+(1:Int))))::jA45),[(.box [(.t true (.int .i64) p0),(.t true .str p1),(.t true .str p2)]),(.rows 90 true tq8 h1)],0,[]⟩:St)))) none)) none) (cond (decide (0≤x7∧x7<((x0.length:Nat):Int))) (cond (!((((x0.getD x7.toNat ((0:Int),(bE,bE))).2).1).toList==p1.toList)) (cond (decide (0≤x7∧x7<((x0.length:Nat):Int))) (cond (decide ((h1.length+([((x0.getD x7.toNat ((0:Int),(bE,bE))).1,(((x0.getD x7.toNat ((0:Int),(bE,bE))).2).1,((x0.getD x7.toNat ((0:Int),(bE,bE))).2).2))]).length)*40≤MAXB)) (some (.normal,(⟨((.t false tq3 x0)::.junk::.junk::(.ptr 0 0 1 0)::.junk::(.all 1 3)::(.t true .bool x6)::(.t true (.int .i64) (IntKind.wrap .i64 (x7+(1:Int))))::jA45),[(.box [(.t true (.int .i64) p0),(.t true .str p1),(.t true .str p2)]),(.rows 90 true tq8 (h1++([((x0.getD x7.toNat ((0:Int),(bE,bE))).1,(((x0.getD x7.toNat ((0:Int),(bE,bE))).2).1,((x0.getD x7.toNat ((0:Int),(bE,bE))).2).2))])))],0,[]⟩:St))) none) none) (some (.normal,(⟨((.t false tq3 x0)::.junk::.junk::(.ptr 0 0 1 0)::.junk::(.all 1 3)::(.t true .bool x6)::(.t true (.int .i64) (IntKind.wrap .i64 (x7+(1:Int))))::jA45),[(.box [(.t true (.int .i64) p0),(.t true .str p1),(.t true .str p2)]),(.rows 90 true tq8 h1)],0,[]⟩:St)))) none)) (some ((.exit 0),(⟨(.junk::.junk::.junk::(.ptr 0 0 1 0)::.junk::(.all 1 3)::(.t true .bool x6)::jA46),[(.box [(.t true (.int .i64) p0),(.t true .str p1),(.t true .str p2)]),(.rows 90 true tq8 h1)],0,[]⟩:St))))
theorem rdA_sl7One_0:RdA G11 (fun _ _=>none) 0 body_sl7One_0 S_sl7One_0 0 [] (kepts [] [(0,[3,5,6])]) (fun d=>ox_sl7One_0 d.1.1 d.1.2.2.2.2.2.2.1 d.1.2.2.2.2.2.2.2.1 d.2.1.1 d.2.1.2.1 d.2.1.2.2.1 d.2.2.1):=by
 intro d
 kernel_rfl
theorem rdB_sl7One_0:∀ d:S_sl7One_0.den,ox_sl7One_0 d.1.1 d.1.2.2.2.2.2.2.1 d.1.2.2.2.2.2.2.2.1 d.2.1.1 d.2.1.2.1 d.2.1.2.2.1 d.2.2.1=(sp_sl7One_0 d).opt 0 []:=by
 intro d
 kernel_rfl
noncomputable abbrev say_sl7One_0:St→Option Tree:=S_sl7One_0.say 0 [] [] (fun d=>T_sl7One_0 d.1.1 d.1.2.2.2.2.2.2.1 d.1.2.2.2.2.2.2.2.1 d.2.1.1 d.2.1.2.1 d.2.1.2.2.1 d.2.2.1)
theorem lw_sl7One_0:LoopWp Try.prog say_sl7One_0 body_sl7One_0:=SS.wp2 (hl0 (by kernel_rfl)) [] sp_sl7One_0 rdA_sl7One_0 rdB_sl7One_0 _ (fun d=>Runs.ofIt (step:=sp_sl7One_0) (pv_sl7One_0 d.2.1.1 d.2.1.2.1 d.2.1.2.2.1) (ct:=(ct_sl7One_0 d.2.1.1 d.2.1.2.1 d.2.1.2.2.1)) rfl (fun v=>((relB (relB (relB (relB (relB (relB (relB (relB (relB rfl rfl) rfl) rfl) rfl) rfl) (relB (relB (relB (relB rfl rfl) rfl) rfl) rfl)) rfl) (relB (relB (relB (relB rfl rfl) rfl) rfl) rfl)) rfl):(st_sl7One_0 v.1 v.2.1 v.2.2.1 d.2.1.1 d.2.1.2.1 d.2.1.2.2.1 v.2.2.2).val=relS (pv_sl7One_0 d.2.1.1 d.2.1.2.1 d.2.1.2.2.1) (ct_sl7One_0 d.2.1.1 d.2.1.2.1 d.2.1.2.2.1) (ss_sl7One_0 v.1 v.2.1 v.2.2.1 d.2.1.1 d.2.1.2.1 d.2.1.2.2.1 v.2.2.2))) (fun a=>((cendB (cendD (by simp)) cendF):CEnd _ ((ct_sl7One_0 d.2.1.1 d.2.1.2.1 d.2.1.2.2.1) a))) (d.1.1,d.1.2.2.2.2.2.2.1,d.1.2.2.2.2.2.2.2.1,d.2.2.1))
noncomputable def sl7One (a0:Lq1) (a1:Int) (a2:ByteArray) (a3:ByteArray):Lq1:=(cond (!((it_sl7One_0 a0 false (0:Int) a1 a2 a3 ([]:Lq1)).2.1)) (((it_sl7One_0 a0 false (0:Int) a1 a2 a3 ([]:Lq1)).2.2)++[(a1,(a2,a3))]) ((it_sl7One_0 a0 false (0:Int) a1 a2 a3 ([]:Lq1)).2.2))
noncomputable abbrev e_sl7One (r:Lq1):AV×List AObj:=((.all 0 3),[(.rows 90 true tq8 r)])
noncomputable abbrev F_sl7One (r:Lq1):=some (e_sl7One r)
noncomputable abbrev g_sl7One:pshsDen P_sl7One→AV×List AObj:=fun d=>e_sl7One (sl7One d.1 d.2.1.1 d.2.1.2.1 d.2.1.2.2.1)
noncomputable def q_sl7One (a0:Lq1) (a1:Int) (a2:ByteArray) (a3:ByteArray):Bool:=((it_sl7One_0 a0 false (0:Int) a1 a2 a3 ([]:Lq1)).1==0)&&(cond (!((it_sl7One_0 a0 false (0:Int) a1 a2 a3 ([]:Lq1)).2.1)) (decide ((((it_sl7One_0 a0 false (0:Int) a1 a2 a3 ([]:Lq1)).2.2).length+[(a1,(a2,a3))].length)*40≤MAXB)) true)
noncomputable abbrev pre_sl7One:pshsDen P_sl7One→Bool:=fun d=>q_sl7One d.1 d.2.1.1 d.2.1.2.1 d.2.1.2.2.1
noncomputable abbrev L_sl7One:Nat→St→Option Tree:=fun b=>match b with | 0=>say_sl7One_0 | _=>fun _=>none
theorem run_sl7One:RunP false G11 (L_sl7One) Try.f127 P_sl7One pre_sl7One g_sl7One:=by
 rintro ⟨a0,⟨⟨a1,⟨a2,⟨a3,_⟩⟩⟩,_⟩⟩ hp
 change q_sl7One a0 a1 a2 a3=true at hp
 unfold q_sl7One at hp
 refine Eq.trans (b:=(cond ((it_sl7One_0 a0 false (0:Int) a1 a2 a3 ([]:Lq1)).1==0) (cond (!((it_sl7One_0 a0 false (0:Int) a1 a2 a3 ([]:Lq1)).2.1)) (cond (decide ((((it_sl7One_0 a0 false (0:Int) a1 a2 a3 ([]:Lq1)).2.2).length+[(a1,(a2,a3))].length)*40≤MAXB)) (some (e_sl7One (((it_sl7One_0 a0 false (0:Int) a1 a2 a3 ([]:Lq1)).2.2)++[(a1,(a2,a3))]))) none) (some (e_sl7One ((it_sl7One_0 a0 false (0:Int) a1 a2 a3 ([]:Lq1)).2.2)))) none)) (by kernel_rfl) ?_
 exact (cndA hp fun hp=>(cndQ (F:=F_sl7One) hp (fun hp=>(cndT hp fun _h=>rfl)) (fun hp=>rfl)))
theorem c_sl7One:PContract Try.prog 127 (sumOf P_sl7One pre_sl7One g_sl7One):=PContract.of_data false G11 (by kernel_rfl) (hl1 (i:=0) (by kernel_rfl) lw_sl7One_0) _ _ _ run_sl7One
noncomputable def S12:Tab:=Tab.add S11 127 (lift (sumOf P_sl7One pre_sl7One g_sl7One))
noncomputable def QF12:FuncId→Bool:=QF11
theorem G12:Good Try.prog tt S12 QF12:=G11.add c_sl7One ⟨Try.f127,by kernel_rfl,by kernel_rfl,by kernel_rfl⟩ (by kernel_rfl)

noncomputable abbrev jS13:List Sh:=.junk::.junk::.junk::.junk::.junk::.junk::.junk::.junk::.junk::.junk::.junk::.junk::.junk::[]
noncomputable abbrev jS14:List Sh:=.junk::jS13
noncomputable abbrev u14:=((),(),(),(),(),(),(),(),(),(),(),(),(),())
noncomputable abbrev u19:=((),(),(),(),(),u14)
noncomputable abbrev SM_sl7Draw:SS:=⟨[.ptr 0 0 1 0],[.box [.t false t_sy,.t true (.int .i64),.t true (.int .i64)]]⟩
noncomputable abbrev S_sl7Draw_0:SS:=⟨(.ptr 0 0 1 0::.junk::.junk::.all 1 3::.t true (.int .i64)::jS13),[.box [.t false t_sy,.t true (.int .i64),.t true (.int .i64)],.rows 90 true tq8]⟩
noncomputable abbrev E_sl7Draw_0_0:SS:=⟨(.junk::.junk::.junk::.all 1 3::jS14),[.box [.t false t_sy,.t true (.int .i64),.t true (.int .i64)],.rows 90 true tq8]⟩
noncomputable def k1_sl7Draw (p0:List Int) (p1:Int) (p2:Int) (h1:Lq1):=sl7One h1 ((sl7Op1 p0 p1 p2).1) ((sl7Op1 p0 p1 p2).2.1) ((sl7Op1 p0 p1 p2).2.2.1)
noncomputable def st_sl7Draw_0 (x4:Int) (p0:List Int) (p1:Int) (p2:Int) (h1:Lq1):RT S_sl7Draw_0.den:=(.br (decide (x4 > (0:Int))) (.br (q_sl7Op1 p0 p1 p2) (.br (q_sl7One h1 ((sl7Op1 p0 p1 p2).1) ((sl7Op1 p0 p1 p2).2.1) ((sl7Op1 p0 p1 p2).2.2.1)) (.next (((),(),(),(),IntKind.wrap .i64 (x4 - (1:Int)),u14),((((sl7Op1 p0 p1 p2).2.2.2.1),((sl7Op1 p0 p1 p2).2.2.2.2.1),((sl7Op1 p0 p1 p2).2.2.2.2.2.1),()),(k1_sl7Draw p0 p1 p2 h1),()))) .fail) .fail) (.done (.exit 0) E_sl7Draw_0_0 ((u19),((p0,p1,p2,()),h1,()))))
noncomputable abbrev V_sl7Draw_0:=(Int)×(List Int)×(Int)×(Int)×(Lq1)
noncomputable abbrev A_sl7Draw_0:=Nat×(List Int)×(Int)×(Int)×(Lq1)
noncomputable def fl_sl7Draw_0:A_sl7Draw_0:=(99,([]:List Int),((0:Int):Int),((0:Int):Int),([]:Lq1))
noncomputable def ss_sl7Draw_0 (x4:Int) (p0:List Int) (p1:Int) (p2:Int) (h1:Lq1):V_sl7Draw_0 ⊕ A_sl7Draw_0:=(cond (decide (x4 > (0:Int))) (cond (q_sl7Op1 p0 p1 p2) (cond (q_sl7One h1 ((sl7Op1 p0 p1 p2).1) ((sl7Op1 p0 p1 p2).2.1) ((sl7Op1 p0 p1 p2).2.2.1)) (.inl (IntKind.wrap .i64 (x4 - (1:Int)),((sl7Op1 p0 p1 p2).2.2.2.1),((sl7Op1 p0 p1 p2).2.2.2.2.1),((sl7Op1 p0 p1 p2).2.2.2.2.2.1),(k1_sl7Draw p0 p1 p2 h1))) (.inr fl_sl7Draw_0)) (.inr fl_sl7Draw_0)) (.inr (0,p0,p1,p2,h1)))
noncomputable def it_sl7Draw_0 (x4:Int) (p0:List Int) (p1:Int) (p2:Int) (h1:Lq1):A_sl7Draw_0:=itX (fun v:V_sl7Draw_0=>ss_sl7Draw_0 v.1 v.2.1 v.2.2.1 v.2.2.2.1 v.2.2.2.2) fl_sl7Draw_0 (x4,p0,p1,p2,h1)
noncomputable def ct_sl7Draw_0 (a:A_sl7Draw_0):CT:=(.br (a.1==0) (.done (.exit 0) E_sl7Draw_0_0 ((u19),((a.2.1,a.2.2.1,a.2.2.2.1,()),a.2.2.2.2,()))) .fail)
noncomputable def T_sl7Draw_0 (x4:Int) (p0:List Int) (p1:Int) (p2:Int) (h1:Lq1):CT:=ct_sl7Draw_0 (it_sl7Draw_0 x4 p0 p1 p2 h1)
noncomputable abbrev sp_sl7Draw_0:S_sl7Draw_0.den→RT S_sl7Draw_0.den:=fun d=>st_sl7Draw_0 d.1.2.2.2.2.1 d.2.1.1 d.2.1.2.1 d.2.1.2.2.1 d.2.2.1
noncomputable abbrev pk_sl7Draw_0 (x4:Int) (p0:List Int) (p1:Int) (p2:Int) (h1:Lq1):S_sl7Draw_0.den:=(((),(),(),(),x4,u14),((p0,p1,p2,()),h1,()))
noncomputable def body_sl7Draw_0:Code:=((loopsIn 0 (bodyOf Try.f98)).getD 0 (0,.skip)).2
noncomputable abbrev pv_sl7Draw_0 (v:V_sl7Draw_0):S_sl7Draw_0.den:=pk_sl7Draw_0 v.1 v.2.1 v.2.2.1 v.2.2.2.1 v.2.2.2.2
theorem rdA_sl7Draw_0:RdA G12 (fun _ _=>none) 0 body_sl7Draw_0 S_sl7Draw_0 1 [] (kepts [] [(0,[3])]) (fun d=>(sp_sl7Draw_0 d).opt 1 []):=by
 intro d
 kernel_rfl
noncomputable abbrev say_sl7Draw_0:St→Option Tree:=S_sl7Draw_0.say 1 [] [] (fun d=>T_sl7Draw_0 d.1.2.2.2.2.1 d.2.1.1 d.2.1.2.1 d.2.1.2.2.1 d.2.2.1)
theorem lw_sl7Draw_0:LoopWp Try.prog say_sl7Draw_0 body_sl7Draw_0:=SS.wp2 (hl0 (by kernel_rfl)) [] sp_sl7Draw_0 rdA_sl7Draw_0 (fun d=>rfl) _ (fun d=>Runs.ofIt (step:=sp_sl7Draw_0) pv_sl7Draw_0 (ct:=ct_sl7Draw_0) rfl (fun v=>((relB (relB (relB rfl rfl) rfl) rfl):(st_sl7Draw_0 v.1 v.2.1 v.2.2.1 v.2.2.2.1 v.2.2.2.2).val=relS pv_sl7Draw_0 ct_sl7Draw_0 (ss_sl7Draw_0 v.1 v.2.1 v.2.2.1 v.2.2.2.1 v.2.2.2.2))) (fun a=>((cendB (cendD (by simp)) cendF):CEnd _ (ct_sl7Draw_0 a))) (d.1.2.2.2.2.1,d.2.1.1,d.2.1.2.1,d.2.1.2.2.1,d.2.2.1))
noncomputable def k2_sl7Draw (p0:List Int) (p1:Int) (p2:Int):=it_sl7Draw_0 (IntKind.wrap .i64 ((1:Int)+((sl1Below (4:Int) p0 p1 p2).1))) ((sl1Below (4:Int) p0 p1 p2).2.1) ((sl1Below (4:Int) p0 p1 p2).2.2.1) ((sl1Below (4:Int) p0 p1 p2).2.2.2) ([]:Lq1)
noncomputable def sl7Draw (p0:List Int) (p1:Int) (p2:Int):(List Int)×Int×Int×Lq1:=(((k2_sl7Draw p0 p1 p2).2.1),((k2_sl7Draw p0 p1 p2).2.2.1),((k2_sl7Draw p0 p1 p2).2.2.2.1),((k2_sl7Draw p0 p1 p2).2.2.2.2))
noncomputable abbrev e_sl7Draw (r:(List Int)×Int×Int×Lq1):AV×List AObj×List Nat:=((.all 1 3),[(.box [(.t false t_sy r.1),(.t true (.int .i64) r.2.1),(.t true (.int .i64) r.2.2.1)]),(.rows 90 true tq8 r.2.2.2)],[])
noncomputable abbrev F_sl7Draw (r:(List Int)×Int×Int×Lq1):=some (e_sl7Draw r)
noncomputable abbrev g_sl7Draw:SM_sl7Draw.den→AV×List AObj×List Nat:=fun d=>e_sl7Draw (sl7Draw d.2.1.1 d.2.1.2.1 d.2.1.2.2.1)
noncomputable def q_sl7Draw (p0:List Int) (p1:Int) (p2:Int):Bool:=(q_sl1Below (4:Int) p0 p1 p2)&&((k2_sl7Draw p0 p1 p2).1==0)
noncomputable abbrev pre_sl7Draw:SM_sl7Draw.den→Bool:=fun d=>q_sl7Draw d.2.1.1 d.2.1.2.1 d.2.1.2.2.1
noncomputable abbrev L_sl7Draw:Nat→St→Option Tree:=fun b=>match b with | 0=>say_sl7Draw_0 | _=>fun _=>none
theorem run_sl7Draw:RunM G12 (L_sl7Draw) Try.f98 SM_sl7Draw pre_sl7Draw g_sl7Draw:=by
 rintro ⟨⟨_,_⟩,⟨⟨p0,p1,p2,_⟩,_⟩⟩ hp
 change q_sl7Draw p0 p1 p2=true at hp
 unfold q_sl7Draw at hp
 refine Eq.trans (b:=(cond (q_sl1Below (4:Int) p0 p1 p2) (cond ((k2_sl7Draw p0 p1 p2).1==0) (some (e_sl7Draw (((k2_sl7Draw p0 p1 p2).2.1),((k2_sl7Draw p0 p1 p2).2.2.1),((k2_sl7Draw p0 p1 p2).2.2.2.1),((k2_sl7Draw p0 p1 p2).2.2.2.2)))) none) none)) (by kernel_rfl) ?_
 exact (cndA hp fun hp=>(cndT hp fun _h=>rfl))
noncomputable abbrev m_sl7Draw:=win winIds (msum SM_sl7Draw pre_sl7Draw g_sl7Draw)
theorem c_sl7Draw:MContract Try.prog 98 m_sl7Draw:=(MContract.of_data G12 (by kernel_rfl) (hl1 (i:=0) (by kernel_rfl) lw_sl7Draw_0) _ _ _ run_sl7Draw).win winIds
noncomputable def S13:Tab:=Tab.add S12 98 (m_sl7Draw)
noncomputable def QF13:FuncId→Bool:=QF12
theorem G13:Good Try.prog tt S13 QF13:=G12.addM c_sl7Draw (win_local _) ⟨Try.f98,by kernel_rfl,by kernel_rfl,by kernel_rfl⟩ (by kernel_rfl)

noncomputable abbrev jS23:List Sh:=.junk::.junk::.junk::.junk::.junk::.junk::.junk::.junk::.junk::jS14
noncomputable abbrev jS24:List Sh:=.junk::jS23
noncomputable abbrev jS26:List Sh:=.junk::.junk::jS24
noncomputable abbrev u25:=((),(),(),(),(),(),u19)
noncomputable abbrev u24:=((),(),(),(),(),u19)
noncomputable abbrev u27:=((),(),u25)
noncomputable def sKeyAt (s:ByteArray) (i:Nat):Bool:=sl1In (IntKind.wrap .i64 (bt s (i:Int))) 97 122||sl1In (IntKind.wrap .i64 (bt s (i:Int))) 48 57
noncomputable abbrev P_sKeyOk:List PSh:=[.t .str]
noncomputable abbrev S_sKeyOk_0:SS:=⟨(.t true .str::.junk::.junk::.t true (.int .i64)::jS23),[]⟩
noncomputable abbrev E_sKeyOk_0_0:SS:=⟨(.junk::.junk::.t true .bool::jS24),[]⟩
noncomputable abbrev E_sKeyOk_0_1:SS:=⟨(.t true .str::jS26),[]⟩
noncomputable def st_sKeyOk_0 (x0:ByteArray) (x3:Int):RT S_sKeyOk_0.den:=(.br (decide (x3<((x0.size:Nat):Int))) (.br (decide (0≤x3∧x3<((x0.size:Nat):Int))) (.br (!(sl1In (IntKind.wrap .i64 (bt x0 x3)) (97:Int) (122:Int))) (.br (decide (0≤x3∧x3<((x0.size:Nat):Int))) (.br (!(sl1In (IntKind.wrap .i64 (bt x0 x3)) (48:Int) (57:Int))) (.done .ret E_sKeyOk_0_0 (((),(),false,u25),())) (.next ((x0,(),(),IntKind.wrap .i64 (x3+(1:Int)),u24),()))) .fail) (.next ((x0,(),(),IntKind.wrap .i64 (x3+(1:Int)),u24),()))) .fail) (.done (.exit 0) E_sKeyOk_0_1 ((x0,u27),())))
noncomputable def T_sKeyOk_0 (x0:ByteArray) (x3:Int):CT:=(.br (decide (0≤x3)&&okS x0) (.br (allF (sKeyAt x0) (x0.size - x3.toNat) x3.toNat) (.done (.exit 0) E_sKeyOk_0_1 ((x0,u27),())) (.done .ret E_sKeyOk_0_0 (((),(),false,u25),()))) .fail)
noncomputable abbrev sp_sKeyOk_0:S_sKeyOk_0.den→RT S_sKeyOk_0.den:=fun d=>st_sKeyOk_0 d.1.1 d.1.2.2.2.1
noncomputable abbrev pk_sKeyOk_0 (x0:ByteArray) (x3:Int):S_sKeyOk_0.den:=((x0,(),(),x3,u24),())
noncomputable def body_sKeyOk_0:Code:=((loopsIn 0 (bodyOf Try.f144)).getD 0 (0,.skip)).2
theorem R_sKeyOk_0 (x0:ByteArray) (x3:Int):(T_sKeyOk_0 x0 x3).val (D:=S_sKeyOk_0.den)=.fail∨Runs sp_sKeyOk_0 (pk_sKeyOk_0 x0 x3) (T_sKeyOk_0 x0 x3).val:=by
 cases hc:(decide (0≤x3)&&okS x0) with
 | false=>left;simp only [T_sKeyOk_0,CT.val,hc,cond_false]
 | true =>
  right
  simp only [T_sKeyOk_0,CT.val,hc,cond_true]
  simp only [Bool.and_eq_true,decide_eq_true_eq] at hc
  obtain ⟨i,rfl⟩:=Int.eq_ofNat_of_zero_le hc.1
  have hs:=okS_le hc.2
  simp only [Int.toNat_natCast]
  refine Runs.scan (fun j=>pk_sKeyOk_0 x0 (j:Int)) (x0.size) (sKeyAt x0) (fun i hi=>?_) (fun i hi=>?_) ⟨_,_,_,rfl,by simp⟩ ⟨_,_,_,rfl,by simp⟩ _ _ rfl
  ·
   have h0a:decide ((i:Int)<((x0.size:Nat):Int))=true:=decide_eq_true (by omega)
   have h0b:decide (0≤(i:Int)∧(i:Int)<((x0.size:Nat):Int))=true:=decide_eq_true (by omega)
   simp only [sp_sKeyOk_0,st_sKeyOk_0,RT.val,h0a,h0b,cond_true,wrapS i (by omega),Int.toNat_natCast]
   simp only [sKeyAt]
   cases sl1In (IntKind.wrap .i64 (bt x0 (i:Int))) 97 122<;>cases sl1In (IntKind.wrap .i64 (bt x0 (i:Int))) 48 57<;>rfl
  ·have h1:decide ((i:Int)<((x0.size:Nat):Int))=false:=decide_eq_false (by omega)
   simp only [sp_sKeyOk_0,st_sKeyOk_0,RT.val,h1,cond_false]
theorem rdA_sKeyOk_0:RdA G13 (fun _ _=>none) 0 body_sKeyOk_0 S_sKeyOk_0 0 [] (kepts [2] [(0,[0])]) (fun d=>(sp_sKeyOk_0 d).opt 0 []):=by
 intro d
 kernel_rfl
noncomputable abbrev say_sKeyOk_0:St→Option Tree:=S_sKeyOk_0.say 0 [] [] (fun d=>T_sKeyOk_0 d.1.1 d.1.2.2.2.1)
theorem lw_sKeyOk_0:LoopWp Try.prog say_sKeyOk_0 body_sKeyOk_0:=SS.wp2 (hl0 (by kernel_rfl)) [] sp_sKeyOk_0 rdA_sKeyOk_0 (fun d=>rfl) _ (fun d=>R_sKeyOk_0 d.1.1 d.1.2.2.2.1)
noncomputable def sKeyOk (a0:ByteArray):Bool:=(cond (allF (sKeyAt a0) (a0.size - (0:Int).toNat) (0:Int).toNat) (sl1In ((a0.size:Nat):Int) (1:Int) (12:Int)) false)
noncomputable abbrev e_sKeyOk (r:Bool):AV×List AObj:=((.t true .bool r),[])
noncomputable abbrev F_sKeyOk (r:Bool):=some (e_sKeyOk r)
noncomputable abbrev g_sKeyOk:pshsDen P_sKeyOk→AV×List AObj:=fun d=>e_sKeyOk (sKeyOk d.1)
noncomputable def q_sKeyOk (a0:ByteArray):Bool:=okS a0
noncomputable abbrev pre_sKeyOk:pshsDen P_sKeyOk→Bool:=fun d=>q_sKeyOk d.1
noncomputable abbrev L_sKeyOk:Nat→St→Option Tree:=fun b=>match b with | 0=>say_sKeyOk_0 | _=>fun _=>none
theorem run_sKeyOk:RunP true G13 (L_sKeyOk) Try.f144 P_sKeyOk pre_sKeyOk g_sKeyOk:=by
 rintro ⟨a0,_⟩ hp
 change q_sKeyOk a0=true at hp
 unfold q_sKeyOk at hp
 refine Eq.trans (b:=(cond (decide (0≤(0:Int))&&okS a0) (cond (allF (sKeyAt a0) (a0.size - (0:Int).toNat) (0:Int).toNat) (some (e_sKeyOk (sl1In ((a0.size:Nat):Int) (1:Int) (12:Int)))) (some (e_sKeyOk false))) none)) (by kernel_rfl) ?_
 exact (cndT (by first | rfl | decide | exact hp | (simp only [Bool.and_eq_true] at hp;simp only [hp];done) | (simp [*];done) | (simp [okL] at hp;simp [okL,MAXB];omega) | (simp_all;done) | (simp at *;omega)) (fun _h=>(cnd (F:=F_sKeyOk) (fun _h=>rfl) (fun _h=>rfl))))
theorem c_sKeyOk:PContract Try.prog 144 (sumOf P_sKeyOk pre_sKeyOk g_sKeyOk):=PContract.of_data true G13 (by kernel_rfl) (hl1 (i:=0) (by kernel_rfl) lw_sKeyOk_0) _ _ _ run_sKeyOk
noncomputable def S14:Tab:=Tab.add S13 144 (lift (sumOf P_sKeyOk pre_sKeyOk g_sKeyOk))
noncomputable def QF14:FuncId→Bool:=qadd QF13 144
theorem G14:Good Try.prog tt S14 QF14:=G13.addQ c_sKeyOk ⟨Try.f144,by kernel_rfl,by kernel_rfl,by kernel_rfl⟩ (fun _=>rfl)

noncomputable abbrev P_sl7Op:List PSh:=[.agg [(.int .i64),.str,.str]]
noncomputable def sl7Op (a0:Int) (a1:ByteArray) (a2:ByteArray):Bool:=(cond (!(sl1In a0 (1:Int) (3:Int))) false (cond (a0==(2:Int)) (cond (!(a2.toList==bE.toList)) false (cond (sKeyOk a1) (decide (((a2.size:Nat):Int)≤(20:Int))) false)) (cond (sKeyOk a1) (decide (((a2.size:Nat):Int)≤(20:Int))) false)))
noncomputable abbrev e_sl7Op (r:Bool):AV×List AObj:=((.t true .bool r),[])
noncomputable abbrev F_sl7Op (r:Bool):=some (e_sl7Op r)
noncomputable abbrev g_sl7Op:pshsDen P_sl7Op→AV×List AObj:=fun d=>e_sl7Op (sl7Op d.1.1 d.1.2.1 d.1.2.2.1)
noncomputable def q_sl7Op (a0:Int) (a1:ByteArray) (a2:ByteArray):Bool:=okS a1
noncomputable abbrev pre_sl7Op:pshsDen P_sl7Op→Bool:=fun d=>q_sl7Op d.1.1 d.1.2.1 d.1.2.2.1
theorem run_sl7Op:RunP true G14 (fun _ _=>none) Try.f120 P_sl7Op pre_sl7Op g_sl7Op:=by
 rintro ⟨⟨a0,⟨a1,⟨a2,_⟩⟩⟩,_⟩ hp
 change q_sl7Op a0 a1 a2=true at hp
 unfold q_sl7Op at hp
 refine Eq.trans (b:=(cond (!(sl1In a0 (1:Int) (3:Int))) (some (e_sl7Op false)) (cond (a0==(2:Int)) (cond (!(a2.toList==(⟨#[]⟩:ByteArray).toList)) (some (e_sl7Op false)) (cond (q_sKeyOk a1) (cond (sKeyOk a1) (some (e_sl7Op (decide (((a2.size:Nat):Int)≤(20:Int))))) (some (e_sl7Op false))) none)) (cond (q_sKeyOk a1) (cond (sKeyOk a1) (some (e_sl7Op (decide (((a2.size:Nat):Int)≤(20:Int))))) (some (e_sl7Op false))) none)))) (by kernel_rfl) ?_
 exact (cnd (F:=F_sl7Op) (fun _h=>rfl) (fun _h=>(cnd (F:=F_sl7Op) (fun _h=>(cnd (F:=F_sl7Op) (fun _h=>rfl) (fun _h=>(cndT (by first | rfl | decide | exact hp | (simp only [Bool.and_eq_true] at hp;simp only [hp];done) | (simp [*];done) | (simp [okL] at hp;simp [okL,MAXB];omega) | (simp_all;done) | (simp at *;omega)) (fun _h=>(cnd (F:=F_sl7Op) (fun _h=>rfl) (fun _h=>rfl))))))) (fun _h=>(cndT (by first | rfl | decide | exact hp | (simp only [Bool.and_eq_true] at hp;simp only [hp];done) | (simp [*];done) | (simp [okL] at hp;simp [okL,MAXB];omega) | (simp_all;done) | (simp at *;omega)) (fun _h=>(cnd (F:=F_sl7Op) (fun _h=>rfl) (fun _h=>rfl))))))))
theorem c_sl7Op:PContract Try.prog 120 (sumOf P_sl7Op pre_sl7Op g_sl7Op):=PContract.of_data true G14 (by kernel_rfl) (hl0 (by kernel_rfl)) _ _ _ run_sl7Op
noncomputable def S15:Tab:=Tab.add S14 120 (lift (sumOf P_sl7Op pre_sl7Op g_sl7Op))
noncomputable def QF15:FuncId→Bool:=qadd QF14 120
theorem G15:Good Try.prog tt S15 QF15:=G14.addQ c_sl7Op ⟨Try.f120,by kernel_rfl,by kernel_rfl,by kernel_rfl⟩ (fun _=>rfl)

noncomputable abbrev jS33:List Sh:=.junk::.junk::.junk::.junk::.junk::jS28
noncomputable abbrev jS34:List Sh:=.junk::jS33
noncomputable abbrev jS36:List Sh:=.junk::.junk::jS34
noncomputable abbrev u35:=((),(),(),(),(),(),u29)
noncomputable abbrev u34:=((),(),(),(),(),u29)
noncomputable abbrev u37:=((),(),u35)
noncomputable abbrev jA34:List AV:=.junk::.junk::.junk::.junk::.junk::.junk::jA28
noncomputable abbrev jA33:List AV:=.junk::.junk::.junk::.junk::.junk::jA28
noncomputable abbrev jA36:List AV:=.junk::.junk::jA34
noncomputable def sOpAt (l:Lq1) (i:Nat):Bool:=sl7Op (l.getD i dOp).1 (l.getD i dOp).2.1 (l.getD i dOp).2.2&&(decide (i=0)||Op.bytesLess (l.getD (i - 1) dOp).2.1.toList (l.getD i dOp).2.1.toList)
noncomputable abbrev P_sOpsOk:List PSh:=[.t tq3]
noncomputable abbrev S_sOpsOk_0:SS:=⟨(.t false tq3::.junk::.junk::.t true (.int .i64)::jS33),[]⟩
noncomputable abbrev E_sOpsOk_0_0:SS:=⟨(.junk::.junk::.t true .bool::jS34),[]⟩
noncomputable abbrev E_sOpsOk_0_1:SS:=⟨(.t false tq3::jS36),[]⟩
noncomputable def st_sOpsOk_0 (x0:Lq1) (x3:Int):RT S_sOpsOk_0.den:=(.br (decide (x3<((x0.length:Nat):Int))) (.br (decide (0≤x3∧x3<((x0.length:Nat):Int))) (.br (q_sl7Op ((x0.getD x3.toNat ((0:Int),(bE,bE))).1) (((x0.getD x3.toNat ((0:Int),(bE,bE))).2).1) (((x0.getD x3.toNat ((0:Int),(bE,bE))).2).2)) (.br (!(sl7Op ((x0.getD x3.toNat ((0:Int),(bE,bE))).1) (((x0.getD x3.toNat ((0:Int),(bE,bE))).2).1) (((x0.getD x3.toNat ((0:Int),(bE,bE))).2).2))) (.done .ret E_sOpsOk_0_0 (((),(),false,u35),())) (.br (decide (x3 > (0:Int))) (.br (decide (0≤(IntKind.wrap .i64 (x3 - (1:Int)))∧(IntKind.wrap .i64 (x3 - (1:Int)))<((x0.length:Nat):Int))) (.br (decide (0≤x3∧x3<((x0.length:Nat):Int))) (.br (!(Op.bytesLess (((x0.getD ((IntKind.wrap .i64 (x3 - (1:Int))).toNat) ((0:Int),(bE,bE))).2).1).toList (((x0.getD x3.toNat ((0:Int),(bE,bE))).2).1).toList)) (.done .ret E_sOpsOk_0_0 (((),(),false,u35),())) (.next ((x0,(),(),IntKind.wrap .i64 (x3+(1:Int)),u34),()))) .fail) .fail) (.next ((x0,(),(),IntKind.wrap .i64 (x3+(1:Int)),u34),())))) .fail) .fail) (.done (.exit 0) E_sOpsOk_0_1 ((x0,u37),())))
noncomputable def T_sOpsOk_0 (x0:Lq1) (x3:Int):CT:=(.br (decide (0≤x3)&&okOps x0) (.br (allF (sOpAt x0) (x0.length - x3.toNat) x3.toNat) (.done (.exit 0) E_sOpsOk_0_1 ((x0,u37),())) (.done .ret E_sOpsOk_0_0 (((),(),false,u35),()))) .fail)
noncomputable abbrev sp_sOpsOk_0:S_sOpsOk_0.den→RT S_sOpsOk_0.den:=fun d=>st_sOpsOk_0 d.1.1 d.1.2.2.2.1
noncomputable abbrev pk_sOpsOk_0 (x0:Lq1) (x3:Int):S_sOpsOk_0.den:=((x0,(),(),x3,u34),())
noncomputable def body_sOpsOk_0:Code:=((loopsIn 0 (bodyOf Try.f86)).getD 0 (0,.skip)).2
theorem R_sOpsOk_0 (x0:Lq1) (x3:Int):(T_sOpsOk_0 x0 x3).val (D:=S_sOpsOk_0.den)=.fail∨Runs sp_sOpsOk_0 (pk_sOpsOk_0 x0 x3) (T_sOpsOk_0 x0 x3).val:=by
 cases hc:(decide (0≤x3)&&okOps x0) with
 | false=>left;simp only [T_sOpsOk_0,CT.val,hc,cond_false]
 | true =>
  right
  simp only [T_sOpsOk_0,CT.val,hc,cond_true]
  simp only [Bool.and_eq_true,decide_eq_true_eq] at hc
  obtain ⟨i,rfl⟩:=Int.eq_ofNat_of_zero_le hc.1
  have hs:=okOps_len hc.2
  simp only [Int.toNat_natCast]
  refine Runs.scan (fun j=>pk_sOpsOk_0 x0 (j:Int)) (x0.length) (sOpAt x0) (fun i hi=>?_) (fun i hi=>?_) ⟨_,_,_,rfl,by simp⟩ ⟨_,_,_,rfl,by simp⟩ _ _ rfl
  ·
   have h0a:decide ((i:Int)<((x0.length:Nat):Int))=true:=decide_eq_true (by omega)
   have h0b:decide (0≤(i:Int)∧(i:Int)<((x0.length:Nat):Int))=true:=decide_eq_true (by omega)
   simp only [sp_sOpsOk_0,st_sOpsOk_0,RT.val,h0a,h0b,cond_true,wrapS i (by omega),Int.toNat_natCast]
   have hq:q_sl7Op (x0.getD i dOp).1 (x0.getD i dOp).2.1 (x0.getD i dOp).2.2=true:=(okOps_at hc.2 i hi).1
   simp only [dOp] at hq
   simp only [hq,cond_true,sOpAt,dOp]
   cases sl7Op (x0.getD i ((0:Int),((⟨#[]⟩:ByteArray),(⟨#[]⟩:ByteArray)))).1 (x0.getD i ((0:Int),((⟨#[]⟩:ByteArray),(⟨#[]⟩:ByteArray)))).2.1 (x0.getD i ((0:Int),((⟨#[]⟩:ByteArray),(⟨#[]⟩:ByteArray)))).2.2 with
   | false=>rfl
   | true =>
    cases i with
    | zero=>rfl
    | succ i =>
     have h3:decide (((i+1:Nat):Int) > 0)=true:=decide_eq_true (by omega)
     have h4:IntKind.wrap .i64 (((i+1:Nat):Int) - 1)=(i:Int):=by have:=wrap64 (n:=((i+1:Nat):Int) - 1) (by omega) (by omega);omega
     have h5:decide (0≤(i:Int)∧(i:Int)<((x0.length:Nat):Int))=true:=decide_eq_true (by omega)
     have h6:decide (i+1=0)=false:=by simp
     simp only [h3,h4,h5,h6,cond_true,Bool.true_and,Bool.false_or,Int.toNat_natCast,Nat.add_sub_cancel,Bool.not_true,cond_false]
     cases Op.bytesLess (x0.getD i ((0:Int),((⟨#[]⟩:ByteArray),(⟨#[]⟩:ByteArray)))).2.1.toList (x0.getD (i+1) ((0:Int),((⟨#[]⟩:ByteArray),(⟨#[]⟩:ByteArray)))).2.1.toList<;>rfl
  ·have h1:decide ((i:Int)<((x0.length:Nat):Int))=false:=decide_eq_false (by omega)
   simp only [sp_sOpsOk_0,st_sOpsOk_0,RT.val,h1,cond_false]
noncomputable def ox_sOpsOk_0 (x0:Lq1) (x3:Int):Option (Ex×St):=(cond (decide (x3<((x0.length:Nat):Int))) (cond (decide (0≤x3∧x3<((x0.length:Nat):Int))) (cond (q_sl7Op ((x0.getD x3.toNat ((0:Int),(bE,bE))).1) (((x0.getD x3.toNat ((0:Int),(bE,bE))).2).1) (((x0.getD x3.toNat ((0:Int),(bE,bE))).2).2)) (cond (!(sl7Op ((x0.getD x3.toNat ((0:Int),(bE,bE))).1) (((x0.getD x3.toNat ((0:Int),(bE,bE))).2).1) (((x0.getD x3.toNat ((0:Int),(bE,bE))).2).2))) (some (.ret,(⟨(.junk::.junk::(.t true .bool false)::jA34),[],0,[]⟩:St))) (cond (decide (x3 > (0:Int))) (cond (decide (0≤(IntKind.wrap .i64 (x3 - (1:Int)))∧(IntKind.wrap .i64 (x3 - (1:Int)))<((x0.length:Nat):Int))) (cond (decide (0≤x3∧x3<((x0.length:Nat):Int))) (cond (!(Op.bytesLess (((x0.getD ((IntKind.wrap .i64 (x3 - (1:Int))).toNat) ((0:Int),(bE,bE))).2).1).toList (((x0.getD x3.toNat ((0:Int),(bE,bE))).2).1).toList)) (some (.ret,(⟨(.junk::.junk::(.t true .bool false)::jA34),[],0,[]⟩:St))) (some (.normal,(⟨((.t false tq3 x0)::.junk::.junk::(.t true (.int .i64) (IntKind.wrap .i64 (x3+(1:Int))))::jA33),[],0,[]⟩:St)))) none) none) (some (.normal,(⟨((.t false tq3 x0)::.junk::.junk::(.t true (.int .i64) (IntKind.wrap .i64 (x3+(1:Int))))::jA33),[],0,[]⟩:St))))) none) none) (some ((.exit 0),(⟨((.t false tq3 x0)::jA36),[],0,[]⟩:St))))
theorem rdA_sOpsOk_0:RdA G15 (fun _ _=>none) 0 body_sOpsOk_0 S_sOpsOk_0 0 [] (kepts [2] [(0,[0])]) (fun d=>ox_sOpsOk_0 d.1.1 d.1.2.2.2.1):=by
 intro d
 kernel_rfl
theorem rdB_sOpsOk_0:∀ d:S_sOpsOk_0.den,ox_sOpsOk_0 d.1.1 d.1.2.2.2.1=(sp_sOpsOk_0 d).opt 0 []:=by
 intro d
 kernel_rfl
noncomputable abbrev say_sOpsOk_0:St→Option Tree:=S_sOpsOk_0.say 0 [] [] (fun d=>T_sOpsOk_0 d.1.1 d.1.2.2.2.1)
theorem lw_sOpsOk_0:LoopWp Try.prog say_sOpsOk_0 body_sOpsOk_0:=SS.wp2 (hl0 (by kernel_rfl)) [] sp_sOpsOk_0 rdA_sOpsOk_0 rdB_sOpsOk_0 _ (fun d=>R_sOpsOk_0 d.1.1 d.1.2.2.2.1)
noncomputable def sOpsOk (a0:Lq1):Bool:=(cond (allF (sOpAt a0) (a0.length - (0:Int).toNat) (0:Int).toNat) (sl1In ((a0.length:Nat):Int) (1:Int) (8:Int)) false)
noncomputable abbrev e_sOpsOk (r:Bool):AV×List AObj:=((.t true .bool r),[])
noncomputable abbrev F_sOpsOk (r:Bool):=some (e_sOpsOk r)
noncomputable abbrev g_sOpsOk:pshsDen P_sOpsOk→AV×List AObj:=fun d=>e_sOpsOk (sOpsOk d.1)
noncomputable def q_sOpsOk (a0:Lq1):Bool:=okOps a0
noncomputable abbrev pre_sOpsOk:pshsDen P_sOpsOk→Bool:=fun d=>q_sOpsOk d.1
noncomputable abbrev L_sOpsOk:Nat→St→Option Tree:=fun b=>match b with | 0=>say_sOpsOk_0 | _=>fun _=>none
theorem run_sOpsOk:RunP true G15 (L_sOpsOk) Try.f86 P_sOpsOk pre_sOpsOk g_sOpsOk:=by
 rintro ⟨a0,_⟩ hp
 change q_sOpsOk a0=true at hp
 unfold q_sOpsOk at hp
 refine Eq.trans (b:=(cond (decide (0≤(0:Int))&&okOps a0) (cond (allF (sOpAt a0) (a0.length - (0:Int).toNat) (0:Int).toNat) (some (e_sOpsOk (sl1In ((a0.length:Nat):Int) (1:Int) (8:Int)))) (some (e_sOpsOk false))) none)) (by kernel_rfl) ?_
 exact (cndT (by first | rfl | decide | exact hp | (simp only [Bool.and_eq_true] at hp;simp only [hp];done) | (simp [*];done) | (simp [okL] at hp;simp [okL,MAXB];omega) | (simp_all;done) | (simp at *;omega)) (fun _h=>(cnd (F:=F_sOpsOk) (fun _h=>rfl) (fun _h=>rfl))))
theorem c_sOpsOk:PContract Try.prog 86 (sumOf P_sOpsOk pre_sOpsOk g_sOpsOk):=PContract.of_data true G15 (by kernel_rfl) (hl1 (i:=0) (by kernel_rfl) lw_sOpsOk_0) _ _ _ run_sOpsOk
noncomputable def S16:Tab:=Tab.add S15 86 (lift (sumOf P_sOpsOk pre_sOpsOk g_sOpsOk))
noncomputable def QF16:FuncId→Bool:=qadd QF15 86
theorem G16:Good Try.prog tt S16 QF16:=G15.addQ c_sOpsOk ⟨Try.f86,by kernel_rfl,by kernel_rfl,by kernel_rfl⟩ (fun _=>rfl)

noncomputable abbrev P_sl7CopyOps:List PSh:=[.t tq3]
noncomputable def sl7CopyOps (a0:Lq1):Lq1:=(([]:Lq1)++a0)
noncomputable abbrev e_sl7CopyOps (r:Lq1):AV×List AObj:=((.t true tq3 r),[])
noncomputable abbrev F_sl7CopyOps (r:Lq1):=some (e_sl7CopyOps r)
noncomputable abbrev g_sl7CopyOps:pshsDen P_sl7CopyOps→AV×List AObj:=fun d=>e_sl7CopyOps (sl7CopyOps d.1)
noncomputable def q_sl7CopyOps (a0:Lq1):Bool:=decide ((([]:Lq1).length+a0.length)*40≤MAXB)
noncomputable abbrev pre_sl7CopyOps:pshsDen P_sl7CopyOps→Bool:=fun d=>q_sl7CopyOps d.1
theorem run_sl7CopyOps:RunP true G16 (fun _ _=>none) Try.f102 P_sl7CopyOps pre_sl7CopyOps g_sl7CopyOps:=by
 rintro ⟨a0,_⟩ hp
 change q_sl7CopyOps a0=true at hp
 unfold q_sl7CopyOps at hp
 refine Eq.trans (b:=(cond (decide ((([]:Lq1).length+a0.length)*40≤MAXB)) (some (e_sl7CopyOps (([]:Lq1)++a0))) none)) (by kernel_rfl) ?_
 exact (cndT hp fun _h=>rfl)
theorem c_sl7CopyOps:PContract Try.prog 102 (sumOf P_sl7CopyOps pre_sl7CopyOps g_sl7CopyOps):=PContract.of_data true G16 (by kernel_rfl) (hl0 (by kernel_rfl)) _ _ _ run_sl7CopyOps
noncomputable def S17:Tab:=Tab.add S16 102 (lift (sumOf P_sl7CopyOps pre_sl7CopyOps g_sl7CopyOps))
noncomputable def QF17:FuncId→Bool:=qadd QF16 102
theorem G17:Good Try.prog tt S17 QF17:=G16.addQ c_sl7CopyOps ⟨Try.f102,by kernel_rfl,by kernel_rfl,by kernel_rfl⟩ (fun _=>rfl)

noncomputable abbrev jS15:List Sh:=.junk::jS14
noncomputable abbrev jS16:List Sh:=.junk::jS15
noncomputable abbrev u16:=((),(),u14)
noncomputable abbrev u17:=((),u16)
noncomputable abbrev P_sHash:List PSh:=[.t .str]
noncomputable abbrev S_sHash_0:SS:=⟨(.t true .str::.junk::.junk::.t true (.int .i64)::.t true (.int .i64)::jS15),[]⟩
noncomputable abbrev E_sHash_0_0:SS:=⟨(.junk::.junk::.junk::.t true (.int .i64)::jS16),[]⟩
noncomputable def st_sHash_0 (x0:ByteArray) (x3:Int) (x4:Int):RT S_sHash_0.den:=(.br (decide (x4<((x0.size:Nat):Int))) (.br (decide (0≤x4∧x4<((x0.size:Nat):Int))) (.next ((x0,(),(),iand .i64 (IntKind.wrap .i64 ((ixor .i64 x3 (IntKind.wrap .i64 (bt x0 x4)))*(16777619:Int))) (4294967295:Int),IntKind.wrap .i64 (x4+(1:Int)),u16),())) .fail) (.done (.exit 0) E_sHash_0_0 (((),(),(),x3,u17),())))
noncomputable abbrev V_sHash_0:=(ByteArray)×(Int)×(Int)
noncomputable abbrev A_sHash_0:=Nat×(Int)
noncomputable def fl_sHash_0:A_sHash_0:=(99,((0:Int):Int))
noncomputable def ss_sHash_0 (x0:ByteArray) (x3:Int) (x4:Int):V_sHash_0 ⊕ A_sHash_0:=(cond (decide (x4<((x0.size:Nat):Int))) (cond (decide (0≤x4∧x4<((x0.size:Nat):Int))) (.inl (x0,iand .i64 (IntKind.wrap .i64 ((ixor .i64 x3 (IntKind.wrap .i64 (bt x0 x4)))*(16777619:Int))) (4294967295:Int),IntKind.wrap .i64 (x4+(1:Int)))) (.inr fl_sHash_0)) (.inr (0,x3)))
noncomputable def it_sHash_0 (x0:ByteArray) (x3:Int) (x4:Int):A_sHash_0:=itX (fun v:V_sHash_0=>ss_sHash_0 v.1 v.2.1 v.2.2) fl_sHash_0 (x0,x3,x4)
noncomputable def ct_sHash_0 (a:A_sHash_0):CT:=(.br (a.1==0) (.done (.exit 0) E_sHash_0_0 (((),(),(),a.2,u17),())) .fail)
noncomputable def T_sHash_0 (x0:ByteArray) (x3:Int) (x4:Int):CT:=ct_sHash_0 (it_sHash_0 x0 x3 x4)
noncomputable abbrev sp_sHash_0:S_sHash_0.den→RT S_sHash_0.den:=fun d=>st_sHash_0 d.1.1 d.1.2.2.2.1 d.1.2.2.2.2.1
noncomputable abbrev pk_sHash_0 (x0:ByteArray) (x3:Int) (x4:Int):S_sHash_0.den:=((x0,(),(),x3,x4,u16),())
noncomputable def body_sHash_0:Code:=((loopsIn 0 (bodyOf Try.f145)).getD 0 (0,.skip)).2
noncomputable abbrev pv_sHash_0 (v:V_sHash_0):S_sHash_0.den:=pk_sHash_0 v.1 v.2.1 v.2.2
theorem rdA_sHash_0:RdA G17 (fun _ _=>none) 0 body_sHash_0 S_sHash_0 0 [] (kepts [] [(0,[3])]) (fun d=>(sp_sHash_0 d).opt 0 []):=by
 intro d
 kernel_rfl
noncomputable abbrev say_sHash_0:St→Option Tree:=S_sHash_0.say 0 [] [] (fun d=>T_sHash_0 d.1.1 d.1.2.2.2.1 d.1.2.2.2.2.1)
theorem lw_sHash_0:LoopWp Try.prog say_sHash_0 body_sHash_0:=SS.wp2 (hl0 (by kernel_rfl)) [] sp_sHash_0 rdA_sHash_0 (fun d=>rfl) _ (fun d=>Runs.ofIt (step:=sp_sHash_0) pv_sHash_0 (ct:=ct_sHash_0) rfl (fun v=>((relB (relB rfl rfl) rfl):(st_sHash_0 v.1 v.2.1 v.2.2).val=relS pv_sHash_0 ct_sHash_0 (ss_sHash_0 v.1 v.2.1 v.2.2))) (fun a=>((cendB (cendD (by simp)) cendF):CEnd _ (ct_sHash_0 a))) (d.1.1,d.1.2.2.2.1,d.1.2.2.2.2.1))
noncomputable def sHash (a0:ByteArray):Int:=((it_sHash_0 a0 (2166136261:Int) (0:Int)).2)
noncomputable abbrev e_sHash (r:Int):AV×List AObj:=((.t true (.int .i64) r),[])
noncomputable abbrev F_sHash (r:Int):=some (e_sHash r)
noncomputable abbrev g_sHash:pshsDen P_sHash→AV×List AObj:=fun d=>e_sHash (sHash d.1)
noncomputable def q_sHash (a0:ByteArray):Bool:=((it_sHash_0 a0 (2166136261:Int) (0:Int)).1==0)
noncomputable abbrev pre_sHash:pshsDen P_sHash→Bool:=fun d=>q_sHash d.1
noncomputable abbrev L_sHash:Nat→St→Option Tree:=fun b=>match b with | 0=>say_sHash_0 | _=>fun _=>none
theorem run_sHash:RunP true G17 (L_sHash) Try.f145 P_sHash pre_sHash g_sHash:=by
 rintro ⟨a0,_⟩ hp
 change q_sHash a0=true at hp
 unfold q_sHash at hp
 refine Eq.trans (b:=(cond ((it_sHash_0 a0 (2166136261:Int) (0:Int)).1==0) (some (e_sHash ((it_sHash_0 a0 (2166136261:Int) (0:Int)).2))) none)) (by kernel_rfl) ?_
 exact (cndT hp fun _h=>rfl)
theorem c_sHash:PContract Try.prog 145 (sumOf P_sHash pre_sHash g_sHash):=PContract.of_data true G17 (by kernel_rfl) (hl1 (i:=0) (by kernel_rfl) lw_sHash_0) _ _ _ run_sHash
noncomputable def S18:Tab:=Tab.add S17 145 (lift (sumOf P_sHash pre_sHash g_sHash))
noncomputable def QF18:FuncId→Bool:=qadd QF17 145
theorem G18:Good Try.prog tt S18 QF18:=G17.addQ c_sHash ⟨Try.f145,by kernel_rfl,by kernel_rfl,by kernel_rfl⟩ (fun _=>rfl)

noncomputable abbrev P_sShardOf:List PSh:=[.t .str,.t (.int .i64)]
noncomputable def sShardOf (a0:ByteArray) (a1:Int):Int:=(cond (decide (a1<(1:Int))) (0:Int) (Int.tmod (sHash a0) a1))
noncomputable abbrev e_sShardOf (r:Int):AV×List AObj:=((.t true (.int .i64) r),[])
noncomputable abbrev F_sShardOf (r:Int):=some (e_sShardOf r)
noncomputable abbrev g_sShardOf:pshsDen P_sShardOf→AV×List AObj:=fun d=>e_sShardOf (sShardOf d.1 d.2.1)
noncomputable def q_sShardOf (a0:ByteArray) (a1:Int):Bool:=cond (decide (a1<(1:Int))) true ((q_sHash a0)&&(decide (a1 ≠ 0)))
noncomputable abbrev pre_sShardOf:pshsDen P_sShardOf→Bool:=fun d=>q_sShardOf d.1 d.2.1
theorem run_sShardOf:RunP true G18 (fun _ _=>none) Try.f121 P_sShardOf pre_sShardOf g_sShardOf:=by
 rintro ⟨a0,⟨a1,_⟩⟩ hp
 change q_sShardOf a0 a1=true at hp
 unfold q_sShardOf at hp
 refine Eq.trans (b:=(cond (decide (a1<(1:Int))) (some (e_sShardOf (0:Int))) (cond (q_sHash a0) (cond (decide (a1 ≠ 0)) (some (e_sShardOf (Int.tmod (sHash a0) a1))) none) none))) (by kernel_rfl) ?_
 exact (cndQ (F:=F_sShardOf) hp (fun hp=>rfl) (fun hp=>(cndA hp fun hp=>(cndT hp fun _h=>rfl))))
theorem c_sShardOf:PContract Try.prog 121 (sumOf P_sShardOf pre_sShardOf g_sShardOf):=PContract.of_data true G18 (by kernel_rfl) (hl0 (by kernel_rfl)) _ _ _ run_sShardOf
noncomputable def S19:Tab:=Tab.add S18 121 (lift (sumOf P_sShardOf pre_sShardOf g_sShardOf))
noncomputable def QF19:FuncId→Bool:=qadd QF18 121
theorem G19:Good Try.prog tt S19 QF19:=G18.addQ c_sShardOf ⟨Try.f121,by kernel_rfl,by kernel_rfl,by kernel_rfl⟩ (fun _=>rfl)

noncomputable abbrev t_si:Ty:=.sl (.int .i64)
noncomputable abbrev jS12:List Sh:=.junk::.junk::.junk::.junk::.junk::.junk::.junk::.junk::.junk::.junk::.junk::.junk::[]
noncomputable abbrev jS17:List Sh:=.junk::jS16
noncomputable abbrev u13:=((),(),(),(),(),(),(),(),(),(),(),(),())
noncomputable abbrev P_sl7Has:List PSh:=[.t t_si,.t (.int .i64)]
noncomputable abbrev S_sl7Has_0:SS:=⟨(.t false t_si::.t true (.int .i64)::.junk::.junk::.junk::.t true (.int .i64)::jS12),[]⟩
noncomputable abbrev E_sl7Has_0_0:SS:=⟨(.junk::.junk::.junk::.junk::.t true .bool::jS13),[]⟩
noncomputable abbrev E_sl7Has_0_1:SS:=⟨(.junk::jS17),[]⟩
noncomputable def st_sl7Has_0 (x0:List Int) (x1:Int) (x5:Int):RT S_sl7Has_0.den:=(.br (decide (x5<((x0.length:Nat):Int))) (.br (decide (0≤x5∧x5<((x0.length:Nat):Int))) (.br ((x0.getD x5.toNat (0:Int))==x1) (.done .ret E_sl7Has_0_0 (((),(),(),(),true,u14),())) (.next ((x0,x1,(),(),(),IntKind.wrap .i64 (x5+(1:Int)),u13),()))) .fail) (.done (.exit 0) E_sl7Has_0_1 ((u19),())))
noncomputable abbrev V_sl7Has_0:=(List Int)×(Int)×(Int)
noncomputable abbrev A_sl7Has_0:=Nat×(Bool)
noncomputable def fl_sl7Has_0:A_sl7Has_0:=(99,(false:Bool))
noncomputable def ss_sl7Has_0 (x0:List Int) (x1:Int) (x5:Int):V_sl7Has_0 ⊕ A_sl7Has_0:=(cond (decide (x5<((x0.length:Nat):Int))) (cond (decide (0≤x5∧x5<((x0.length:Nat):Int))) (cond ((x0.getD x5.toNat (0:Int))==x1) (.inr (0,true)) (.inl (x0,x1,IntKind.wrap .i64 (x5+(1:Int))))) (.inr fl_sl7Has_0)) (.inr (1,(false:Bool))))
noncomputable def it_sl7Has_0 (x0:List Int) (x1:Int) (x5:Int):A_sl7Has_0:=itX (fun v:V_sl7Has_0=>ss_sl7Has_0 v.1 v.2.1 v.2.2) fl_sl7Has_0 (x0,x1,x5)
noncomputable def ct_sl7Has_0 (a:A_sl7Has_0):CT:=(.br (a.1==0) (.done .ret E_sl7Has_0_0 (((),(),(),(),a.2,u14),())) (.br (a.1==1) (.done (.exit 0) E_sl7Has_0_1 ((u19),())) .fail))
noncomputable def T_sl7Has_0 (x0:List Int) (x1:Int) (x5:Int):CT:=ct_sl7Has_0 (it_sl7Has_0 x0 x1 x5)
noncomputable abbrev sp_sl7Has_0:S_sl7Has_0.den→RT S_sl7Has_0.den:=fun d=>st_sl7Has_0 d.1.1 d.1.2.1 d.1.2.2.2.2.2.1
noncomputable abbrev pk_sl7Has_0 (x0:List Int) (x1:Int) (x5:Int):S_sl7Has_0.den:=((x0,x1,(),(),(),x5,u13),())
noncomputable def body_sl7Has_0:Code:=((loopsIn 0 (bodyOf Try.f88)).getD 0 (0,.skip)).2
noncomputable abbrev pv_sl7Has_0 (v:V_sl7Has_0):S_sl7Has_0.den:=pk_sl7Has_0 v.1 v.2.1 v.2.2
theorem rdA_sl7Has_0:RdA G19 (fun _ _=>none) 0 body_sl7Has_0 S_sl7Has_0 0 [] (kepts [4] [(0,[])]) (fun d=>(sp_sl7Has_0 d).opt 0 []):=by
 intro d
 kernel_rfl
noncomputable abbrev say_sl7Has_0:St→Option Tree:=S_sl7Has_0.say 0 [] [] (fun d=>T_sl7Has_0 d.1.1 d.1.2.1 d.1.2.2.2.2.2.1)
theorem lw_sl7Has_0:LoopWp Try.prog say_sl7Has_0 body_sl7Has_0:=SS.wp2 (hl0 (by kernel_rfl)) [] sp_sl7Has_0 rdA_sl7Has_0 (fun d=>rfl) _ (fun d=>Runs.ofIt (step:=sp_sl7Has_0) pv_sl7Has_0 (ct:=ct_sl7Has_0) rfl (fun v=>((relB (relB (relB rfl rfl) rfl) rfl):(st_sl7Has_0 v.1 v.2.1 v.2.2).val=relS pv_sl7Has_0 ct_sl7Has_0 (ss_sl7Has_0 v.1 v.2.1 v.2.2))) (fun a=>((cendB (cendD (by simp)) (cendB (cendD (by simp)) cendF)):CEnd _ (ct_sl7Has_0 a))) (d.1.1,d.1.2.1,d.1.2.2.2.2.2.1))
noncomputable def sl7Has (a0:List Int) (a1:Int):Bool:=(cond ((it_sl7Has_0 a0 a1 (0:Int)).1==0) ((it_sl7Has_0 a0 a1 (0:Int)).2) false)
noncomputable abbrev e_sl7Has (r:Bool):AV×List AObj:=((.t true .bool r),[])
noncomputable abbrev F_sl7Has (r:Bool):=some (e_sl7Has r)
noncomputable abbrev g_sl7Has:pshsDen P_sl7Has→AV×List AObj:=fun d=>e_sl7Has (sl7Has d.1 d.2.1)
noncomputable def q_sl7Has (a0:List Int) (a1:Int):Bool:=cond ((it_sl7Has_0 a0 a1 (0:Int)).1==0) true ((it_sl7Has_0 a0 a1 (0:Int)).1==1)
noncomputable abbrev pre_sl7Has:pshsDen P_sl7Has→Bool:=fun d=>q_sl7Has d.1 d.2.1
noncomputable abbrev L_sl7Has:Nat→St→Option Tree:=fun b=>match b with | 0=>say_sl7Has_0 | _=>fun _=>none
theorem run_sl7Has:RunP true G19 (L_sl7Has) Try.f88 P_sl7Has pre_sl7Has g_sl7Has:=by
 rintro ⟨a0,⟨a1,_⟩⟩ hp
 change q_sl7Has a0 a1=true at hp
 unfold q_sl7Has at hp
 refine Eq.trans (b:=(cond ((it_sl7Has_0 a0 a1 (0:Int)).1==0) (some (e_sl7Has ((it_sl7Has_0 a0 a1 (0:Int)).2))) (cond ((it_sl7Has_0 a0 a1 (0:Int)).1==1) (some (e_sl7Has false)) none))) (by kernel_rfl) ?_
 exact (cndQ (F:=F_sl7Has) hp (fun hp=>rfl) (fun hp=>(cndT hp fun _h=>rfl)))
theorem c_sl7Has:PContract Try.prog 88 (sumOf P_sl7Has pre_sl7Has g_sl7Has):=PContract.of_data true G19 (by kernel_rfl) (hl1 (i:=0) (by kernel_rfl) lw_sl7Has_0) _ _ _ run_sl7Has
noncomputable def S20:Tab:=Tab.add S19 88 (lift (sumOf P_sl7Has pre_sl7Has g_sl7Has))
noncomputable def QF20:FuncId→Bool:=qadd QF19 88
theorem G20:Good Try.prog tt S20 QF20:=G19.addQ c_sl7Has ⟨Try.f88,by kernel_rfl,by kernel_rfl,by kernel_rfl⟩ (fun _=>rfl)

noncomputable abbrev jS39:List Sh:=.junk::.junk::.junk::jS36
noncomputable abbrev u40:=((),(),(),u37)
noncomputable abbrev jA39:List AV:=.junk::.junk::.junk::jA36
noncomputable abbrev SM_sl7Put:SS:=⟨[.all 0 1,.t true (.int .i64)],[.rows 3 true (.int .i64)]⟩
noncomputable abbrev S_sl7Put_0:SS:=⟨(.junk::.t true (.int .i64)::.junk::.junk::.junk::.all 1 1::.t true (.int .i64)::jS39),[.rows 3 true (.int .i64),.rows 3 true (.int .i64)]⟩
noncomputable abbrev E_sl7Put_0_0:SS:=⟨(.junk::.t true (.int .i64)::.junk::.junk::.junk::.all 1 1::.t true (.int .i64)::jS39),[.rows 3 true (.int .i64),.rows 3 true (.int .i64)]⟩
noncomputable def st_sl7Put_0 (x1:Int) (x6:Int) (h0:List Int) (h1:List Int):RT S_sl7Put_0.den:=(.br (decide (x6 > (0:Int))) (.br (decide (0≤(IntKind.wrap .i64 (x6 - (1:Int)))∧(IntKind.wrap .i64 (x6 - (1:Int)))<((h1.length:Nat):Int))) (.br (decide ((h1.getD ((IntKind.wrap .i64 (x6 - (1:Int))).toNat) (0:Int)) > x1)) (.br (decide (0≤(IntKind.wrap .i64 (x6 - (1:Int)))∧(IntKind.wrap .i64 (x6 - (1:Int)))<((h1.length:Nat):Int))) (.br (decide (0≤x6∧x6<((h1.length:Nat):Int))) (.next (((),x1,(),(),(),(),IntKind.wrap .i64 (x6 - (1:Int)),u40),(h0,h1.set x6.toNat (h1.getD ((IntKind.wrap .i64 (x6 - (1:Int))).toNat) (0:Int)),()))) .fail) .fail) (.done (.exit 0) E_sl7Put_0_0 (((),x1,(),(),(),(),x6,u40),(h0,h1,())))) .fail) (.done (.exit 0) E_sl7Put_0_0 (((),x1,(),(),(),(),x6,u40),(h0,h1,()))))
noncomputable abbrev V_sl7Put_0:=(Int)×(Int)×(List Int)×(List Int)
noncomputable abbrev A_sl7Put_0:=Nat×(Int)×(Int)×(List Int)×(List Int)
noncomputable def fl_sl7Put_0:A_sl7Put_0:=(99,((0:Int):Int),((0:Int):Int),([]:List Int),([]:List Int))
noncomputable def ss_sl7Put_0 (x1:Int) (x6:Int) (h0:List Int) (h1:List Int):V_sl7Put_0 ⊕ A_sl7Put_0:=(cond (decide (x6 > (0:Int))) (cond (decide (0≤(IntKind.wrap .i64 (x6 - (1:Int)))∧(IntKind.wrap .i64 (x6 - (1:Int)))<((h1.length:Nat):Int))) (cond (decide ((h1.getD ((IntKind.wrap .i64 (x6 - (1:Int))).toNat) (0:Int)) > x1)) (cond (decide (0≤(IntKind.wrap .i64 (x6 - (1:Int)))∧(IntKind.wrap .i64 (x6 - (1:Int)))<((h1.length:Nat):Int))) (cond (decide (0≤x6∧x6<((h1.length:Nat):Int))) (.inl (x1,IntKind.wrap .i64 (x6 - (1:Int)),h0,h1.set x6.toNat (h1.getD ((IntKind.wrap .i64 (x6 - (1:Int))).toNat) (0:Int)))) (.inr fl_sl7Put_0)) (.inr fl_sl7Put_0)) (.inr (0,x1,x6,h0,h1))) (.inr fl_sl7Put_0)) (.inr (0,x1,x6,h0,h1)))
noncomputable def it_sl7Put_0 (x1:Int) (x6:Int) (h0:List Int) (h1:List Int):A_sl7Put_0:=itX (fun v:V_sl7Put_0=>ss_sl7Put_0 v.1 v.2.1 v.2.2.1 v.2.2.2) fl_sl7Put_0 (x1,x6,h0,h1)
noncomputable def ct_sl7Put_0 (a:A_sl7Put_0):CT:=(.br (a.1==0) (.done (.exit 0) E_sl7Put_0_0 (((),a.2.1,(),(),(),(),a.2.2.1,u40),(a.2.2.2.1,a.2.2.2.2,()))) .fail)
noncomputable def T_sl7Put_0 (x1:Int) (x6:Int) (h0:List Int) (h1:List Int):CT:=ct_sl7Put_0 (it_sl7Put_0 x1 x6 h0 h1)
noncomputable abbrev sp_sl7Put_0:S_sl7Put_0.den→RT S_sl7Put_0.den:=fun d=>st_sl7Put_0 d.1.2.1 d.1.2.2.2.2.2.2.1 d.2.1 d.2.2.1
noncomputable abbrev pk_sl7Put_0 (x1:Int) (x6:Int) (h0:List Int) (h1:List Int):S_sl7Put_0.den:=(((),x1,(),(),(),(),x6,u40),(h0,h1,()))
noncomputable def body_sl7Put_0:Code:=((loopsIn 0 (bodyOf Try.f107)).getD 0 (0,.skip)).2
noncomputable abbrev pv_sl7Put_0 (v:V_sl7Put_0):S_sl7Put_0.den:=pk_sl7Put_0 v.1 v.2.1 v.2.2.1 v.2.2.2
noncomputable def ox_sl7Put_0 (x1:Int) (x6:Int) (h0:List Int) (h1:List Int):Option (Ex×St):=(cond (decide (x6 > (0:Int))) (cond (decide (0≤(IntKind.wrap .i64 (x6 - (1:Int)))∧(IntKind.wrap .i64 (x6 - (1:Int)))<((h1.length:Nat):Int))) (cond (decide ((h1.getD ((IntKind.wrap .i64 (x6 - (1:Int))).toNat) (0:Int)) > x1)) (cond (decide (0≤(IntKind.wrap .i64 (x6 - (1:Int)))∧(IntKind.wrap .i64 (x6 - (1:Int)))<((h1.length:Nat):Int))) (cond (decide (0≤x6∧x6<((h1.length:Nat):Int))) (some (.normal,(⟨(.junk::(.t true (.int .i64) x1)::.junk::.junk::.junk::(.all 1 1)::(.t true (.int .i64) (IntKind.wrap .i64 (x6 - (1:Int))))::jA39),[(.rows 3 true (.int .i64) h0),(.rows 3 true (.int .i64) (h1.set x6.toNat (h1.getD ((IntKind.wrap .i64 (x6 - (1:Int))).toNat) (0:Int))))],1,[]⟩:St))) none) none) (some ((.exit 0),(⟨(.junk::(.t true (.int .i64) x1)::.junk::.junk::.junk::(.all 1 1)::(.t true (.int .i64) x6)::jA39),[(.rows 3 true (.int .i64) h0),(.rows 3 true (.int .i64) h1)],1,[]⟩:St)))) none) (some ((.exit 0),(⟨(.junk::(.t true (.int .i64) x1)::.junk::.junk::.junk::(.all 1 1)::(.t true (.int .i64) x6)::jA39),[(.rows 3 true (.int .i64) h0),(.rows 3 true (.int .i64) h1)],1,[]⟩:St))))
theorem rdA_sl7Put_0:RdA G20 (fun _ _=>none) 0 body_sl7Put_0 S_sl7Put_0 1 [] (kepts [] [(0,[1,5,6])]) (fun d=>ox_sl7Put_0 d.1.2.1 d.1.2.2.2.2.2.2.1 d.2.1 d.2.2.1):=by
 intro d
 kernel_rfl
theorem rdB_sl7Put_0:∀ d:S_sl7Put_0.den,ox_sl7Put_0 d.1.2.1 d.1.2.2.2.2.2.2.1 d.2.1 d.2.2.1=(sp_sl7Put_0 d).opt 1 []:=by
 intro d
 kernel_rfl
noncomputable abbrev say_sl7Put_0:St→Option Tree:=S_sl7Put_0.say 1 [] [] (fun d=>T_sl7Put_0 d.1.2.1 d.1.2.2.2.2.2.2.1 d.2.1 d.2.2.1)
theorem lw_sl7Put_0:LoopWp Try.prog say_sl7Put_0 body_sl7Put_0:=SS.wp2 (hl0 (by kernel_rfl)) [] sp_sl7Put_0 rdA_sl7Put_0 rdB_sl7Put_0 _ (fun d=>Runs.ofIt (step:=sp_sl7Put_0) pv_sl7Put_0 (ct:=ct_sl7Put_0) rfl (fun v=>((relB (relB (relB (relB (relB rfl rfl) rfl) rfl) rfl) rfl):(st_sl7Put_0 v.1 v.2.1 v.2.2.1 v.2.2.2).val=relS pv_sl7Put_0 ct_sl7Put_0 (ss_sl7Put_0 v.1 v.2.1 v.2.2.1 v.2.2.2))) (fun a=>((cendB (cendD (by simp)) cendF):CEnd _ (ct_sl7Put_0 a))) (d.1.2.1,d.1.2.2.2.2.2.2.1,d.2.1,d.2.2.1))
noncomputable def k1_sl7Put (x1:Int) (h0:List Int):=it_sl7Put_0 x1 (IntKind.wrap .i64 (((((([]:List Int)++h0)++[x1]).length:Nat):Int) - (1:Int))) h0 ((([]:List Int)++h0)++[x1])
noncomputable def sl7Put (x1:Int) (h0:List Int):List Int:=(cond (sl7Has h0 x1) h0 (((k1_sl7Put x1 h0).2.2.2.2).set (((k1_sl7Put x1 h0).2.2.1).toNat) ((k1_sl7Put x1 h0).2.1)))
noncomputable abbrev e_sl7Put (r:List Int):AV×List AObj×List Nat:=((.t true t_si r),[.dead],[])
noncomputable abbrev F_sl7Put (r:List Int):=some (e_sl7Put r)
noncomputable abbrev g_sl7Put:SM_sl7Put.den→AV×List AObj×List Nat:=fun d=>e_sl7Put (sl7Put d.1.2.1 d.2.1)
noncomputable def q_sl7Put (x1:Int) (h0:List Int):Bool:=(q_sl7Has h0 x1)&&(cond (sl7Has h0 x1) true ((decide ((([]:List Int).length+h0.length)*8≤MAXB))&&((decide (((([]:List Int)++h0).length+[x1].length)*8≤MAXB))&&(((k1_sl7Put x1 h0).1==0)&&(decide (0≤((k1_sl7Put x1 h0).2.2.1)∧((k1_sl7Put x1 h0).2.2.1)<((((k1_sl7Put x1 h0).2.2.2.2).length:Nat):Int)))))))
noncomputable abbrev pre_sl7Put:SM_sl7Put.den→Bool:=fun d=>q_sl7Put d.1.2.1 d.2.1
noncomputable abbrev L_sl7Put:Nat→St→Option Tree:=fun b=>match b with | 0=>say_sl7Put_0 | _=>fun _=>none
theorem run_sl7Put:RunMRD [.all 0 1] G20 (L_sl7Put) Try.f107 SM_sl7Put pre_sl7Put g_sl7Put:=by
 rintro ⟨⟨_,x1,_⟩,⟨h0,_⟩⟩ hp
 change q_sl7Put x1 h0=true at hp
 unfold q_sl7Put at hp
 refine Eq.trans (b:=(cond (q_sl7Has h0 x1) (cond (sl7Has h0 x1) (some (e_sl7Put h0)) (cond (decide ((([]:List Int).length+h0.length)*8≤MAXB)) (cond (decide (((([]:List Int)++h0).length+[x1].length)*8≤MAXB)) (cond ((k1_sl7Put x1 h0).1==0) (cond (decide (0≤((k1_sl7Put x1 h0).2.2.1)∧((k1_sl7Put x1 h0).2.2.1)<((((k1_sl7Put x1 h0).2.2.2.2).length:Nat):Int))) (some (e_sl7Put (((k1_sl7Put x1 h0).2.2.2.2).set (((k1_sl7Put x1 h0).2.2.1).toNat) ((k1_sl7Put x1 h0).2.1)))) none) none) none) none)) none)) (by kernel_rfl) ?_
 exact (cndA hp fun hp=>(cndQ (F:=F_sl7Put) hp (fun hp=>rfl) (fun hp=>(cndA hp fun hp=>(cndA hp fun hp=>(cndA hp fun hp=>(cndT hp fun _h=>rfl)))))))
noncomputable abbrev m_sl7Put:=win winIds (msum SM_sl7Put pre_sl7Put g_sl7Put)
theorem c_sl7Put:MContract Try.prog 107 m_sl7Put:=(MContract.of_dataRD [.all 0 1]  G20 (by kernel_rfl) (hl1 (i:=0) (by kernel_rfl) lw_sl7Put_0) _ _ _ run_sl7Put).win winIds
noncomputable def S21:Tab:=Tab.add S20 107 (m_sl7Put)
noncomputable def QF21:FuncId→Bool:=QF20
theorem G21:Good Try.prog tt S21 QF21:=G20.addM c_sl7Put (win_local _) ⟨Try.f107,by kernel_rfl,by kernel_rfl,by kernel_rfl⟩ (by kernel_rfl)

noncomputable abbrev SM_sl7Put_w1:SS:=⟨[.t true t_si,.t true (.int .i64)],[]⟩
noncomputable abbrev S_sl7Put_w1_0:SS:=⟨(.junk::.t true (.int .i64)::.junk::.junk::.junk::.all 0 1::.t true (.int .i64)::jS39),[.rows 3 true (.int .i64)]⟩
noncomputable abbrev E_sl7Put_w1_0_0:SS:=⟨(.junk::.t true (.int .i64)::.junk::.junk::.junk::.all 0 1::.t true (.int .i64)::jS39),[.rows 3 true (.int .i64)]⟩
noncomputable def st_sl7Put_w1_0 (x1:Int) (x6:Int) (h0:List Int):RT S_sl7Put_w1_0.den:=(.br (decide (x6 > (0:Int))) (.br (decide (0≤(IntKind.wrap .i64 (x6 - (1:Int)))∧(IntKind.wrap .i64 (x6 - (1:Int)))<((h0.length:Nat):Int))) (.br (decide ((h0.getD ((IntKind.wrap .i64 (x6 - (1:Int))).toNat) (0:Int)) > x1)) (.br (decide (0≤(IntKind.wrap .i64 (x6 - (1:Int)))∧(IntKind.wrap .i64 (x6 - (1:Int)))<((h0.length:Nat):Int))) (.br (decide (0≤x6∧x6<((h0.length:Nat):Int))) (.next (((),x1,(),(),(),(),IntKind.wrap .i64 (x6 - (1:Int)),u40),(h0.set x6.toNat (h0.getD ((IntKind.wrap .i64 (x6 - (1:Int))).toNat) (0:Int)),()))) .fail) .fail) (.done (.exit 0) E_sl7Put_w1_0_0 (((),x1,(),(),(),(),x6,u40),(h0,())))) .fail) (.done (.exit 0) E_sl7Put_w1_0_0 (((),x1,(),(),(),(),x6,u40),(h0,()))))
noncomputable abbrev V_sl7Put_w1_0:=(Int)×(Int)×(List Int)
noncomputable abbrev A_sl7Put_w1_0:=Nat×(Int)×(Int)×(List Int)
noncomputable def fl_sl7Put_w1_0:A_sl7Put_w1_0:=(99,((0:Int):Int),((0:Int):Int),([]:List Int))
noncomputable def ss_sl7Put_w1_0 (x1:Int) (x6:Int) (h0:List Int):V_sl7Put_w1_0 ⊕ A_sl7Put_w1_0:=(cond (decide (x6 > (0:Int))) (cond (decide (0≤(IntKind.wrap .i64 (x6 - (1:Int)))∧(IntKind.wrap .i64 (x6 - (1:Int)))<((h0.length:Nat):Int))) (cond (decide ((h0.getD ((IntKind.wrap .i64 (x6 - (1:Int))).toNat) (0:Int)) > x1)) (cond (decide (0≤(IntKind.wrap .i64 (x6 - (1:Int)))∧(IntKind.wrap .i64 (x6 - (1:Int)))<((h0.length:Nat):Int))) (cond (decide (0≤x6∧x6<((h0.length:Nat):Int))) (.inl (x1,IntKind.wrap .i64 (x6 - (1:Int)),h0.set x6.toNat (h0.getD ((IntKind.wrap .i64 (x6 - (1:Int))).toNat) (0:Int)))) (.inr fl_sl7Put_w1_0)) (.inr fl_sl7Put_w1_0)) (.inr (0,x1,x6,h0))) (.inr fl_sl7Put_w1_0)) (.inr (0,x1,x6,h0)))
noncomputable def it_sl7Put_w1_0 (x1:Int) (x6:Int) (h0:List Int):A_sl7Put_w1_0:=itX (fun v:V_sl7Put_w1_0=>ss_sl7Put_w1_0 v.1 v.2.1 v.2.2) fl_sl7Put_w1_0 (x1,x6,h0)
noncomputable def ct_sl7Put_w1_0 (a:A_sl7Put_w1_0):CT:=(.br (a.1==0) (.done (.exit 0) E_sl7Put_w1_0_0 (((),a.2.1,(),(),(),(),a.2.2.1,u40),(a.2.2.2,()))) .fail)
noncomputable def T_sl7Put_w1_0 (x1:Int) (x6:Int) (h0:List Int):CT:=ct_sl7Put_w1_0 (it_sl7Put_w1_0 x1 x6 h0)
noncomputable abbrev sp_sl7Put_w1_0:S_sl7Put_w1_0.den→RT S_sl7Put_w1_0.den:=fun d=>st_sl7Put_w1_0 d.1.2.1 d.1.2.2.2.2.2.2.1 d.2.1
noncomputable abbrev pk_sl7Put_w1_0 (x1:Int) (x6:Int) (h0:List Int):S_sl7Put_w1_0.den:=(((),x1,(),(),(),(),x6,u40),(h0,()))
noncomputable def body_sl7Put_w1_0:Code:=((loopsIn 0 (bodyOf Try.f107)).getD 0 (0,.skip)).2
noncomputable abbrev pv_sl7Put_w1_0 (v:V_sl7Put_w1_0):S_sl7Put_w1_0.den:=pk_sl7Put_w1_0 v.1 v.2.1 v.2.2
noncomputable def ox_sl7Put_w1_0 (x1:Int) (x6:Int) (h0:List Int):Option (Ex×St):=(cond (decide (x6 > (0:Int))) (cond (decide (0≤(IntKind.wrap .i64 (x6 - (1:Int)))∧(IntKind.wrap .i64 (x6 - (1:Int)))<((h0.length:Nat):Int))) (cond (decide ((h0.getD ((IntKind.wrap .i64 (x6 - (1:Int))).toNat) (0:Int)) > x1)) (cond (decide (0≤(IntKind.wrap .i64 (x6 - (1:Int)))∧(IntKind.wrap .i64 (x6 - (1:Int)))<((h0.length:Nat):Int))) (cond (decide (0≤x6∧x6<((h0.length:Nat):Int))) (some (.normal,(⟨(.junk::(.t true (.int .i64) x1)::.junk::.junk::.junk::(.all 0 1)::(.t true (.int .i64) (IntKind.wrap .i64 (x6 - (1:Int))))::jA39),[(.rows 3 true (.int .i64) (h0.set x6.toNat (h0.getD ((IntKind.wrap .i64 (x6 - (1:Int))).toNat) (0:Int))))],0,[]⟩:St))) none) none) (some ((.exit 0),(⟨(.junk::(.t true (.int .i64) x1)::.junk::.junk::.junk::(.all 0 1)::(.t true (.int .i64) x6)::jA39),[(.rows 3 true (.int .i64) h0)],0,[]⟩:St)))) none) (some ((.exit 0),(⟨(.junk::(.t true (.int .i64) x1)::.junk::.junk::.junk::(.all 0 1)::(.t true (.int .i64) x6)::jA39),[(.rows 3 true (.int .i64) h0)],0,[]⟩:St))))
theorem rdA_sl7Put_w1_0:RdA G21 (fun _ _=>none) 0 body_sl7Put_w1_0 S_sl7Put_w1_0 0 [] (kepts [] [(0,[1,5,6])]) (fun d=>ox_sl7Put_w1_0 d.1.2.1 d.1.2.2.2.2.2.2.1 d.2.1):=by
 intro d
 kernel_rfl
theorem rdB_sl7Put_w1_0:∀ d:S_sl7Put_w1_0.den,ox_sl7Put_w1_0 d.1.2.1 d.1.2.2.2.2.2.2.1 d.2.1=(sp_sl7Put_w1_0 d).opt 0 []:=by
 intro d
 kernel_rfl
noncomputable abbrev say_sl7Put_w1_0:St→Option Tree:=S_sl7Put_w1_0.say 0 [] [] (fun d=>T_sl7Put_w1_0 d.1.2.1 d.1.2.2.2.2.2.2.1 d.2.1)
theorem lw_sl7Put_w1_0:LoopWp Try.prog say_sl7Put_w1_0 body_sl7Put_w1_0:=SS.wp2 (hl0 (by kernel_rfl)) [] sp_sl7Put_w1_0 rdA_sl7Put_w1_0 rdB_sl7Put_w1_0 _ (fun d=>Runs.ofIt (step:=sp_sl7Put_w1_0) pv_sl7Put_w1_0 (ct:=ct_sl7Put_w1_0) rfl (fun v=>((relB (relB (relB (relB (relB rfl rfl) rfl) rfl) rfl) rfl):(st_sl7Put_w1_0 v.1 v.2.1 v.2.2).val=relS pv_sl7Put_w1_0 ct_sl7Put_w1_0 (ss_sl7Put_w1_0 v.1 v.2.1 v.2.2))) (fun a=>((cendB (cendD (by simp)) cendF):CEnd _ (ct_sl7Put_w1_0 a))) (d.1.2.1,d.1.2.2.2.2.2.2.1,d.2.1))
noncomputable def k1_sl7Put_w1 (x0:List Int) (x1:Int):=it_sl7Put_w1_0 x1 (IntKind.wrap .i64 (((((([]:List Int)++x0)++[x1]).length:Nat):Int) - (1:Int))) ((([]:List Int)++x0)++[x1])
noncomputable def sl7Put_w1 (x0:List Int) (x1:Int):List Int:=(cond (sl7Has x0 x1) x0 (((k1_sl7Put_w1 x0 x1).2.2.2).set (((k1_sl7Put_w1 x0 x1).2.2.1).toNat) ((k1_sl7Put_w1 x0 x1).2.1)))
noncomputable abbrev e_sl7Put_w1 (r:List Int):AV×List AObj×List Nat:=((.t true t_si r),[],[])
noncomputable abbrev F_sl7Put_w1 (r:List Int):=some (e_sl7Put_w1 r)
noncomputable abbrev g_sl7Put_w1:SM_sl7Put_w1.den→AV×List AObj×List Nat:=fun d=>e_sl7Put_w1 (sl7Put_w1 d.1.1 d.1.2.1)
noncomputable def q_sl7Put_w1 (x0:List Int) (x1:Int):Bool:=(q_sl7Has x0 x1)&&(cond (sl7Has x0 x1) true ((decide ((([]:List Int).length+x0.length)*8≤MAXB))&&((decide (((([]:List Int)++x0).length+[x1].length)*8≤MAXB))&&(((k1_sl7Put_w1 x0 x1).1==0)&&(decide (0≤((k1_sl7Put_w1 x0 x1).2.2.1)∧((k1_sl7Put_w1 x0 x1).2.2.1)<((((k1_sl7Put_w1 x0 x1).2.2.2).length:Nat):Int)))))))
noncomputable abbrev pre_sl7Put_w1:SM_sl7Put_w1.den→Bool:=fun d=>q_sl7Put_w1 d.1.1 d.1.2.1
noncomputable abbrev L_sl7Put_w1:Nat→St→Option Tree:=fun b=>match b with | 0=>say_sl7Put_w1_0 | _=>fun _=>none
theorem run_sl7Put_w1:RunMRD [] G21 (L_sl7Put_w1) Try.f107 SM_sl7Put_w1 pre_sl7Put_w1 g_sl7Put_w1:=by
 rintro ⟨⟨x0,x1,_⟩,_⟩ hp
 change q_sl7Put_w1 x0 x1=true at hp
 unfold q_sl7Put_w1 at hp
 refine Eq.trans (b:=(cond (q_sl7Has x0 x1) (cond (sl7Has x0 x1) (some (e_sl7Put_w1 x0)) (cond (decide ((([]:List Int).length+x0.length)*8≤MAXB)) (cond (decide (((([]:List Int)++x0).length+[x1].length)*8≤MAXB)) (cond ((k1_sl7Put_w1 x0 x1).1==0) (cond (decide (0≤((k1_sl7Put_w1 x0 x1).2.2.1)∧((k1_sl7Put_w1 x0 x1).2.2.1)<((((k1_sl7Put_w1 x0 x1).2.2.2).length:Nat):Int))) (some (e_sl7Put_w1 (((k1_sl7Put_w1 x0 x1).2.2.2).set (((k1_sl7Put_w1 x0 x1).2.2.1).toNat) ((k1_sl7Put_w1 x0 x1).2.1)))) none) none) none) none)) none)) (by kernel_rfl) ?_
 exact (cndA hp fun hp=>(cndQ (F:=F_sl7Put_w1) hp (fun hp=>rfl) (fun hp=>(cndA hp fun hp=>(cndA hp fun hp=>(cndA hp fun hp=>(cndT hp fun _h=>rfl)))))))
noncomputable abbrev m_sl7Put_w1:=win winIds (msum SM_sl7Put_w1 pre_sl7Put_w1 g_sl7Put_w1)
theorem c_sl7Put_w1:MContract Try.prog 107 m_sl7Put_w1:=(MContract.of_dataRD []  G21 (by kernel_rfl) (hl1 (i:=0) (by kernel_rfl) lw_sl7Put_w1_0) _ _ _ run_sl7Put_w1).win winIds
noncomputable def S22:Tab:=Tab.add S21 107 (orElseS (m_sl7Put) (m_sl7Put_w1))
noncomputable def QF22:FuncId→Bool:=QF21
theorem G22:Good Try.prog tt S22 QF22:=G21.addM (MContract.orElse c_sl7Put c_sl7Put_w1) (orElse_local (win_local _) (win_local _)) ⟨Try.f107,by kernel_rfl,by kernel_rfl,by kernel_rfl⟩ (by kernel_rfl)

noncomputable abbrev jS18:List Sh:=.junk::jS17
noncomputable abbrev u18:=((),u17)
noncomputable abbrev P_sShardsOf:List PSh:=[.t tq3,.t (.int .i64)]
noncomputable abbrev S_sShardsOf_0:SS:=⟨(.t false tq3::.t true (.int .i64)::.junk::.junk::.junk::.t true t_si::.t true (.int .i64)::jS17),[]⟩
noncomputable abbrev E_sShardsOf_0_0:SS:=⟨(.junk::.junk::.junk::.junk::.junk::.t true t_si::jS18),[]⟩
noncomputable def k1_sShardsOf (x0:Lq1) (x1:Int) (x6:Int):=sShardOf (((x0.getD x6.toNat ((0:Int),(bE,bE))).2).1) x1
noncomputable def st_sShardsOf_0 (x0:Lq1) (x1:Int) (x5:List Int) (x6:Int):RT S_sShardsOf_0.den:=(.br (decide (x6<((x0.length:Nat):Int))) (.br (decide (0≤x6∧x6<((x0.length:Nat):Int))) (.br (q_sShardOf (((x0.getD x6.toNat ((0:Int),(bE,bE))).2).1) x1) (.br (q_sl7Put_w1 x5 (k1_sShardsOf x0 x1 x6)) (.next ((x0,x1,(),(),(),(sl7Put_w1 x5 (k1_sShardsOf x0 x1 x6)),IntKind.wrap .i64 (x6+(1:Int)),u18),())) .fail) .fail) .fail) (.done (.exit 0) E_sShardsOf_0_0 (((),(),(),(),(),x5,u19),())))
noncomputable abbrev V_sShardsOf_0:=(Lq1)×(Int)×(List Int)×(Int)
noncomputable abbrev A_sShardsOf_0:=Nat×(List Int)
noncomputable def fl_sShardsOf_0:A_sShardsOf_0:=(99,([]:List Int))
noncomputable def ss_sShardsOf_0 (x0:Lq1) (x1:Int) (x5:List Int) (x6:Int):V_sShardsOf_0 ⊕ A_sShardsOf_0:=(cond (decide (x6<((x0.length:Nat):Int))) (cond (decide (0≤x6∧x6<((x0.length:Nat):Int))) (cond (q_sShardOf (((x0.getD x6.toNat ((0:Int),(bE,bE))).2).1) x1) (cond (q_sl7Put_w1 x5 (k1_sShardsOf x0 x1 x6)) (.inl (x0,x1,(sl7Put_w1 x5 (k1_sShardsOf x0 x1 x6)),IntKind.wrap .i64 (x6+(1:Int)))) (.inr fl_sShardsOf_0)) (.inr fl_sShardsOf_0)) (.inr fl_sShardsOf_0)) (.inr (0,x5)))
noncomputable def it_sShardsOf_0 (x0:Lq1) (x1:Int) (x5:List Int) (x6:Int):A_sShardsOf_0:=itX (fun v:V_sShardsOf_0=>ss_sShardsOf_0 v.1 v.2.1 v.2.2.1 v.2.2.2) fl_sShardsOf_0 (x0,x1,x5,x6)
noncomputable def ct_sShardsOf_0 (a:A_sShardsOf_0):CT:=(.br (a.1==0) (.done (.exit 0) E_sShardsOf_0_0 (((),(),(),(),(),a.2,u19),())) .fail)
noncomputable def T_sShardsOf_0 (x0:Lq1) (x1:Int) (x5:List Int) (x6:Int):CT:=ct_sShardsOf_0 (it_sShardsOf_0 x0 x1 x5 x6)
noncomputable abbrev sp_sShardsOf_0:S_sShardsOf_0.den→RT S_sShardsOf_0.den:=fun d=>st_sShardsOf_0 d.1.1 d.1.2.1 d.1.2.2.2.2.2.1 d.1.2.2.2.2.2.2.1
noncomputable abbrev pk_sShardsOf_0 (x0:Lq1) (x1:Int) (x5:List Int) (x6:Int):S_sShardsOf_0.den:=((x0,x1,(),(),(),x5,x6,u18),())
noncomputable def body_sShardsOf_0:Code:=((loopsIn 0 (bodyOf Try.f87)).getD 0 (0,.skip)).2
noncomputable abbrev pv_sShardsOf_0 (v:V_sShardsOf_0):S_sShardsOf_0.den:=pk_sShardsOf_0 v.1 v.2.1 v.2.2.1 v.2.2.2
theorem rdA_sShardsOf_0:RdA G22 (fun _ _=>none) 0 body_sShardsOf_0 S_sShardsOf_0 0 [] (kepts [] [(0,[5])]) (fun d=>(sp_sShardsOf_0 d).opt 0 []):=by
 intro d
 kernel_rfl
noncomputable abbrev say_sShardsOf_0:St→Option Tree:=S_sShardsOf_0.say 0 [] [(5,1000000,.bool)] (fun d=>T_sShardsOf_0 d.1.1 d.1.2.1 d.1.2.2.2.2.2.1 d.1.2.2.2.2.2.2.1)
theorem lw_sShardsOf_0:LoopWp Try.prog say_sShardsOf_0 body_sShardsOf_0:=SS.wp2 (hl0 (by kernel_rfl)) [(5,1000000,.bool)] sp_sShardsOf_0 rdA_sShardsOf_0 (fun d=>rfl) _ (fun d=>Runs.ofIt (step:=sp_sShardsOf_0) pv_sShardsOf_0 (ct:=ct_sShardsOf_0) rfl (fun v=>((relB (relB (relB (relB rfl rfl) rfl) rfl) rfl):(st_sShardsOf_0 v.1 v.2.1 v.2.2.1 v.2.2.2).val=relS pv_sShardsOf_0 ct_sShardsOf_0 (ss_sShardsOf_0 v.1 v.2.1 v.2.2.1 v.2.2.2))) (fun a=>((cendB (cendD (by simp)) cendF):CEnd _ (ct_sShardsOf_0 a))) (d.1.1,d.1.2.1,d.1.2.2.2.2.2.1,d.1.2.2.2.2.2.2.1))
noncomputable def sShardsOf (a0:Lq1) (a1:Int):List Int:=((it_sShardsOf_0 a0 a1 ([]:List Int) (0:Int)).2)
noncomputable abbrev e_sShardsOf (r:List Int):AV×List AObj:=((.t true t_si r),[])
noncomputable abbrev F_sShardsOf (r:List Int):=some (e_sShardsOf r)
noncomputable abbrev g_sShardsOf:pshsDen P_sShardsOf→AV×List AObj:=fun d=>e_sShardsOf (sShardsOf d.1 d.2.1)
noncomputable def q_sShardsOf (a0:Lq1) (a1:Int):Bool:=((it_sShardsOf_0 a0 a1 ([]:List Int) (0:Int)).1==0)
noncomputable abbrev pre_sShardsOf:pshsDen P_sShardsOf→Bool:=fun d=>q_sShardsOf d.1 d.2.1
noncomputable abbrev L_sShardsOf:Nat→St→Option Tree:=fun b=>match b with | 0=>say_sShardsOf_0 | _=>fun _=>none
theorem run_sShardsOf:RunP true G22 (L_sShardsOf) Try.f87 P_sShardsOf pre_sShardsOf g_sShardsOf:=by
 rintro ⟨a0,⟨a1,_⟩⟩ hp
 change q_sShardsOf a0 a1=true at hp
 unfold q_sShardsOf at hp
 refine Eq.trans (b:=(cond ((it_sShardsOf_0 a0 a1 ([]:List Int) (0:Int)).1==0) (some (e_sShardsOf ((it_sShardsOf_0 a0 a1 ([]:List Int) (0:Int)).2))) none)) (by kernel_rfl) ?_
 exact (cndT hp fun _h=>rfl)
theorem c_sShardsOf:PContract Try.prog 87 (sumOf P_sShardsOf pre_sShardsOf g_sShardsOf):=PContract.of_data true G22 (by kernel_rfl) (hl1 (i:=0) (by kernel_rfl) lw_sShardsOf_0) _ _ _ run_sShardsOf
noncomputable def S23:Tab:=Tab.add S22 87 (lift (sumOf P_sShardsOf pre_sShardsOf g_sShardsOf))
noncomputable def QF23:FuncId→Bool:=qadd QF22 87
theorem G23:Good Try.prog tt S23 QF23:=G22.addQ c_sShardsOf ⟨Try.f87,by kernel_rfl,by kernel_rfl,by kernel_rfl⟩ (fun _=>rfl)

noncomputable abbrev jS25:List Sh:=.junk::jS24
noncomputable abbrev jA24:List AV:=.junk::.junk::.junk::.junk::.junk::.junk::.junk::.junk::.junk::.junk::.junk::.junk::.junk::.junk::.junk::.junk::.junk::.junk::.junk::.junk::.junk::.junk::.junk::.junk::[]
noncomputable abbrev jA25:List AV:=.junk::jA24
noncomputable abbrev P_sOpsFor:List PSh:=[.t tq3,.t (.int .i64),.t (.int .i64)]
noncomputable abbrev S_sOpsFor_0:SS:=⟨(.t false tq3::.t true (.int .i64)::.t true (.int .i64)::.junk::.junk::.junk::.junk::.all 0 3::.t true (.int .i64)::jS24),[.rows 90 true tq8]⟩
noncomputable abbrev E_sOpsFor_0_0:SS:=⟨(.junk::.junk::.junk::.junk::.junk::.junk::.junk::.all 0 3::jS25),[.rows 90 true tq8]⟩
noncomputable def k1_sOpsFor (x0:Lq1) (x2:Int) (x8:Int):=sShardOf (((x0.getD x8.toNat ((0:Int),(bE,bE))).2).1) x2
noncomputable def st_sOpsFor_0 (x0:Lq1) (x1:Int) (x2:Int) (x8:Int) (h0:Lq1):RT S_sOpsFor_0.den:=(.br (decide (x8<((x0.length:Nat):Int))) (.br (decide (0≤x8∧x8<((x0.length:Nat):Int))) (.br (q_sShardOf (((x0.getD x8.toNat ((0:Int),(bE,bE))).2).1) x2) (.br ((k1_sOpsFor x0 x2 x8)==x1) (.br (decide (0≤x8∧x8<((x0.length:Nat):Int))) (.br (decide ((h0.length+([((x0.getD x8.toNat ((0:Int),(bE,bE))).1,(((x0.getD x8.toNat ((0:Int),(bE,bE))).2).1,((x0.getD x8.toNat ((0:Int),(bE,bE))).2).2))]).length)*40≤MAXB)) (.next ((x0,x1,x2,(),(),(),(),(),IntKind.wrap .i64 (x8+(1:Int)),u25),(h0++([((x0.getD x8.toNat ((0:Int),(bE,bE))).1,(((x0.getD x8.toNat ((0:Int),(bE,bE))).2).1,((x0.getD x8.toNat ((0:Int),(bE,bE))).2).2))]),()))) .fail) .fail) (.next ((x0,x1,x2,(),(),(),(),(),IntKind.wrap .i64 (x8+(1:Int)),u25),(h0,())))) .fail) .fail) (.done (.exit 0) E_sOpsFor_0_0 ((u34),(h0,()))))
noncomputable abbrev V_sOpsFor_0:=(Lq1)×(Int)×(Int)×(Int)×(Lq1)
noncomputable abbrev A_sOpsFor_0:=Nat×(Lq1)
noncomputable def fl_sOpsFor_0:A_sOpsFor_0:=(99,([]:Lq1))
noncomputable def ss_sOpsFor_0 (x0:Lq1) (x1:Int) (x2:Int) (x8:Int) (h0:Lq1):V_sOpsFor_0 ⊕ A_sOpsFor_0:=(cond (decide (x8<((x0.length:Nat):Int))) (cond (decide (0≤x8∧x8<((x0.length:Nat):Int))) (cond (q_sShardOf (((x0.getD x8.toNat ((0:Int),(bE,bE))).2).1) x2) (cond ((k1_sOpsFor x0 x2 x8)==x1) (cond (decide (0≤x8∧x8<((x0.length:Nat):Int))) (cond (decide ((h0.length+([((x0.getD x8.toNat ((0:Int),(bE,bE))).1,(((x0.getD x8.toNat ((0:Int),(bE,bE))).2).1,((x0.getD x8.toNat ((0:Int),(bE,bE))).2).2))]).length)*40≤MAXB)) (.inl (x0,x1,x2,IntKind.wrap .i64 (x8+(1:Int)),h0++([((x0.getD x8.toNat ((0:Int),(bE,bE))).1,(((x0.getD x8.toNat ((0:Int),(bE,bE))).2).1,((x0.getD x8.toNat ((0:Int),(bE,bE))).2).2))]))) (.inr fl_sOpsFor_0)) (.inr fl_sOpsFor_0)) (.inl (x0,x1,x2,IntKind.wrap .i64 (x8+(1:Int)),h0))) (.inr fl_sOpsFor_0)) (.inr fl_sOpsFor_0)) (.inr (0,h0)))
noncomputable def it_sOpsFor_0 (x0:Lq1) (x1:Int) (x2:Int) (x8:Int) (h0:Lq1):A_sOpsFor_0:=itX (fun v:V_sOpsFor_0=>ss_sOpsFor_0 v.1 v.2.1 v.2.2.1 v.2.2.2.1 v.2.2.2.2) fl_sOpsFor_0 (x0,x1,x2,x8,h0)
noncomputable def ct_sOpsFor_0 (a:A_sOpsFor_0):CT:=(.br (a.1==0) (.done (.exit 0) E_sOpsFor_0_0 ((u34),(a.2,()))) .fail)
noncomputable def T_sOpsFor_0 (x0:Lq1) (x1:Int) (x2:Int) (x8:Int) (h0:Lq1):CT:=ct_sOpsFor_0 (it_sOpsFor_0 x0 x1 x2 x8 h0)
noncomputable abbrev sp_sOpsFor_0:S_sOpsFor_0.den→RT S_sOpsFor_0.den:=fun d=>st_sOpsFor_0 d.1.1 d.1.2.1 d.1.2.2.1 d.1.2.2.2.2.2.2.2.2.1 d.2.1
noncomputable abbrev pk_sOpsFor_0 (x0:Lq1) (x1:Int) (x2:Int) (x8:Int) (h0:Lq1):S_sOpsFor_0.den:=((x0,x1,x2,(),(),(),(),(),x8,u25),(h0,()))
noncomputable def body_sOpsFor_0:Code:=((loopsIn 0 (bodyOf Try.f147)).getD 0 (0,.skip)).2
noncomputable abbrev pv_sOpsFor_0 (v:V_sOpsFor_0):S_sOpsFor_0.den:=pk_sOpsFor_0 v.1 v.2.1 v.2.2.1 v.2.2.2.1 v.2.2.2.2
noncomputable def ox_sOpsFor_0 (x0:Lq1) (x1:Int) (x2:Int) (x8:Int) (h0:Lq1):Option (Ex×St):=(cond (decide (x8<((x0.length:Nat):Int))) (cond (decide (0≤x8∧x8<((x0.length:Nat):Int))) (cond (q_sShardOf (((x0.getD x8.toNat ((0:Int),(bE,bE))).2).1) x2) (cond ((k1_sOpsFor x0 x2 x8)==x1) (cond (decide (0≤x8∧x8<((x0.length:Nat):Int))) (cond (decide ((h0.length+([((x0.getD x8.toNat ((0:Int),(bE,bE))).1,(((x0.getD x8.toNat ((0:Int),(bE,bE))).2).1,((x0.getD x8.toNat ((0:Int),(bE,bE))).2).2))]).length)*40≤MAXB)) (some (.normal,(⟨((.t false tq3 x0)::(.t true (.int .i64) x1)::(.t true (.int .i64) x2)::.junk::.junk::.junk::.junk::(.all 0 3)::(.t true (.int .i64) (IntKind.wrap .i64 (x8+(1:Int))))::jA24),[(.rows 90 true tq8 (h0++([((x0.getD x8.toNat ((0:Int),(bE,bE))).1,(((x0.getD x8.toNat ((0:Int),(bE,bE))).2).1,((x0.getD x8.toNat ((0:Int),(bE,bE))).2).2))])))],0,[]⟩:St))) none) none) (some (.normal,(⟨((.t false tq3 x0)::(.t true (.int .i64) x1)::(.t true (.int .i64) x2)::.junk::.junk::.junk::.junk::(.all 0 3)::(.t true (.int .i64) (IntKind.wrap .i64 (x8+(1:Int))))::jA24),[(.rows 90 true tq8 h0)],0,[]⟩:St)))) none) none) (some ((.exit 0),(⟨(.junk::.junk::.junk::.junk::.junk::.junk::.junk::(.all 0 3)::jA25),[(.rows 90 true tq8 h0)],0,[]⟩:St))))
theorem rdA_sOpsFor_0:RdA G23 (fun _ _=>none) 0 body_sOpsFor_0 S_sOpsFor_0 0 [] (kepts [] [(0,[7])]) (fun d=>ox_sOpsFor_0 d.1.1 d.1.2.1 d.1.2.2.1 d.1.2.2.2.2.2.2.2.2.1 d.2.1):=by
 intro d
 kernel_rfl
theorem rdB_sOpsFor_0:∀ d:S_sOpsFor_0.den,ox_sOpsFor_0 d.1.1 d.1.2.1 d.1.2.2.1 d.1.2.2.2.2.2.2.2.2.1 d.2.1=(sp_sOpsFor_0 d).opt 0 []:=by
 intro d
 kernel_rfl
noncomputable abbrev say_sOpsFor_0:St→Option Tree:=S_sOpsFor_0.say 0 [] [] (fun d=>T_sOpsFor_0 d.1.1 d.1.2.1 d.1.2.2.1 d.1.2.2.2.2.2.2.2.2.1 d.2.1)
theorem lw_sOpsFor_0:LoopWp Try.prog say_sOpsFor_0 body_sOpsFor_0:=SS.wp2 (hl0 (by kernel_rfl)) [] sp_sOpsFor_0 rdA_sOpsFor_0 rdB_sOpsFor_0 _ (fun d=>Runs.ofIt (step:=sp_sOpsFor_0) pv_sOpsFor_0 (ct:=ct_sOpsFor_0) rfl (fun v=>((relB (relB (relB (relB (relB (relB rfl rfl) rfl) rfl) rfl) rfl) rfl):(st_sOpsFor_0 v.1 v.2.1 v.2.2.1 v.2.2.2.1 v.2.2.2.2).val=relS pv_sOpsFor_0 ct_sOpsFor_0 (ss_sOpsFor_0 v.1 v.2.1 v.2.2.1 v.2.2.2.1 v.2.2.2.2))) (fun a=>((cendB (cendD (by simp)) cendF):CEnd _ (ct_sOpsFor_0 a))) (d.1.1,d.1.2.1,d.1.2.2.1,d.1.2.2.2.2.2.2.2.2.1,d.2.1))
noncomputable def sOpsFor (a0:Lq1) (a1:Int) (a2:Int):Lq1:=((it_sOpsFor_0 a0 a1 a2 (0:Int) ([]:Lq1)).2)
noncomputable abbrev e_sOpsFor (r:Lq1):AV×List AObj:=((.t true tq3 r),[])
noncomputable abbrev F_sOpsFor (r:Lq1):=some (e_sOpsFor r)
noncomputable abbrev g_sOpsFor:pshsDen P_sOpsFor→AV×List AObj:=fun d=>e_sOpsFor (sOpsFor d.1 d.2.1 d.2.2.1)
noncomputable def q_sOpsFor (a0:Lq1) (a1:Int) (a2:Int):Bool:=((it_sOpsFor_0 a0 a1 a2 (0:Int) ([]:Lq1)).1==0)
noncomputable abbrev pre_sOpsFor:pshsDen P_sOpsFor→Bool:=fun d=>q_sOpsFor d.1 d.2.1 d.2.2.1
noncomputable abbrev L_sOpsFor:Nat→St→Option Tree:=fun b=>match b with | 0=>say_sOpsFor_0 | _=>fun _=>none
theorem run_sOpsFor:RunP true G23 (L_sOpsFor) Try.f147 P_sOpsFor pre_sOpsFor g_sOpsFor:=by
 rintro ⟨a0,⟨a1,⟨a2,_⟩⟩⟩ hp
 change q_sOpsFor a0 a1 a2=true at hp
 unfold q_sOpsFor at hp
 refine Eq.trans (b:=(cond ((it_sOpsFor_0 a0 a1 a2 (0:Int) ([]:Lq1)).1==0) (some (e_sOpsFor ((it_sOpsFor_0 a0 a1 a2 (0:Int) ([]:Lq1)).2))) none)) (by kernel_rfl) ?_
 exact (cndT hp fun _h=>rfl)
theorem c_sOpsFor:PContract Try.prog 147 (sumOf P_sOpsFor pre_sOpsFor g_sOpsFor):=PContract.of_data true G23 (by kernel_rfl) (hl1 (i:=0) (by kernel_rfl) lw_sOpsFor_0) _ _ _ run_sOpsFor
noncomputable def S24:Tab:=Tab.add S23 147 (lift (sumOf P_sOpsFor pre_sOpsFor g_sOpsFor))
noncomputable def QF24:FuncId→Bool:=qadd QF23 147
theorem G24:Good Try.prog tt S24 QF24:=G23.addQ c_sOpsFor ⟨Try.f147,by kernel_rfl,by kernel_rfl,by kernel_rfl⟩ (fun _=>rfl)

noncomputable abbrev tq2:Ty:=.sl (.pair (.int .i64) (.pair (.sl (.pair (.int .i64) (.pair .str .str))) (.pair (.int .i64) (.sl (.int .i64)))))
noncomputable abbrev tq4:Ty:=.sl (.pair (.int .i64) .bool)
noncomputable abbrev jS40:List Sh:=.junk::jS39
noncomputable abbrev tq5:Ty:=.pair (.int .i64) (.pair (.int .i64) (.pair (.int .i64) (.pair (.sl (.pair (.int .i64) (.pair .str .str))) .bool)))
noncomputable abbrev jS42:List Sh:=.junk::.junk::jS40
noncomputable abbrev u41:=((),u40)
noncomputable abbrev u49:=((),(),u47)
noncomputable abbrev jA40:List AV:=.junk::jA39
noncomputable abbrev jA42:List AV:=.junk::.junk::jA40
noncomputable abbrev tq7:Ty:=.sl (.pair (.int .i64) (.pair (.int .i64) (.pair (.int .i64) (.pair (.sl (.pair (.int .i64) (.pair .str .str))) .bool))))
noncomputable abbrev P_sl11Holds:List PSh:=[.agg [(.int .i64),(.int .i64),(.int .i64),tq2,tq4,(.int .i64)],.agg [(.int .i64),tq3,(.int .i64),t_si]]
noncomputable abbrev S_sl11Holds_0:SS:=⟨(.junk::.junk::.ptr 0 0 1 0::.ptr 1 0 1 0::.junk::.all 2 5::.t true t_si::.t true (.int .i64)::jS40),[.box [.t true (.int .i64),.t true (.int .i64),.t true (.int .i64),.t false tq2,.t false tq4,.t true (.int .i64)],.box [.t true (.int .i64),.t false tq3,.t true (.int .i64),.t false t_si],.rows 58 true tq5]⟩
noncomputable abbrev E_sl11Holds_0_0:SS:=⟨(.junk::.junk::.junk::.junk::.junk::.all 0 5::jS42),[.rows 58 true tq5]⟩
noncomputable def st_sl11Holds_0 (x6:List Int) (x7:Int) (p0:Int) (p1:Int) (p2:Int) (p3:List (Int×(Lq1)×Int×List Int)) (p4:LIbe) (p5:Int) (q0:Int) (q1:Lq1) (q2:Int) (q3:List Int) (h2:List (Int×Int×Int×(Lq1)×Bool)):RT S_sl11Holds_0.den:=(.br (decide (x7<((x6.length:Nat):Int))) (.br (decide (0≤x7∧x7<((x6.length:Nat):Int))) (.br (q_sl7Has q3 (x6.getD x7.toNat (0:Int))) (.br (!(sl7Has q3 (x6.getD x7.toNat (0:Int)))) (.br (decide (0≤x7∧x7<((x6.length:Nat):Int))) (.br (decide (0≤x7∧x7<((x6.length:Nat):Int))) (.br (q_sOpsFor q1 (x6.getD x7.toNat (0:Int)) p0) (.br (decide ((h2.length+[((1:Int),(x6.getD x7.toNat (0:Int),(q0,((sOpsFor q1 (x6.getD x7.toNat (0:Int)) p0),false))))].length)*56≤MAXB)) (.next (((),(),(),(),(),(),x6,IntKind.wrap .i64 (x7+(1:Int)),u41),((p0,p1,p2,p3,p4,p5,()),(q0,q1,q2,q3,()),h2++[((1:Int),(x6.getD x7.toNat (0:Int),(q0,((sOpsFor q1 (x6.getD x7.toNat (0:Int)) p0),false))))],()))) .fail) .fail) .fail) .fail) (.next (((),(),(),(),(),(),x6,IntKind.wrap .i64 (x7+(1:Int)),u41),((p0,p1,p2,p3,p4,p5,()),(q0,q1,q2,q3,()),h2,())))) .fail) .fail) (.done (.exit 0) E_sl11Holds_0_0 ((u49),(h2,()))))
noncomputable abbrev V_sl11Holds_0:=(List Int)×(Int)×(List (Int×Int×Int×(Lq1)×Bool))
noncomputable abbrev A_sl11Holds_0:=Nat×(List (Int×Int×Int×(Lq1)×Bool))
noncomputable def fl_sl11Holds_0:A_sl11Holds_0:=(99,([]:List (Int×Int×Int×(Lq1)×Bool)))
noncomputable def ss_sl11Holds_0 (x6:List Int) (x7:Int) (p0:Int) (p1:Int) (p2:Int) (p3:List (Int×(Lq1)×Int×List Int)) (p4:LIbe) (p5:Int) (q0:Int) (q1:Lq1) (q2:Int) (q3:List Int) (h2:List (Int×Int×Int×(Lq1)×Bool)):V_sl11Holds_0 ⊕ A_sl11Holds_0:=(cond (decide (x7<((x6.length:Nat):Int))) (cond (decide (0≤x7∧x7<((x6.length:Nat):Int))) (cond (q_sl7Has q3 (x6.getD x7.toNat (0:Int))) (cond (!(sl7Has q3 (x6.getD x7.toNat (0:Int)))) (cond (decide (0≤x7∧x7<((x6.length:Nat):Int))) (cond (decide (0≤x7∧x7<((x6.length:Nat):Int))) (cond (q_sOpsFor q1 (x6.getD x7.toNat (0:Int)) p0) (cond (decide ((h2.length+[((1:Int),(x6.getD x7.toNat (0:Int),(q0,((sOpsFor q1 (x6.getD x7.toNat (0:Int)) p0),false))))].length)*56≤MAXB)) (.inl (x6,IntKind.wrap .i64 (x7+(1:Int)),h2++[((1:Int),(x6.getD x7.toNat (0:Int),(q0,((sOpsFor q1 (x6.getD x7.toNat (0:Int)) p0),false))))])) (.inr fl_sl11Holds_0)) (.inr fl_sl11Holds_0)) (.inr fl_sl11Holds_0)) (.inr fl_sl11Holds_0)) (.inl (x6,IntKind.wrap .i64 (x7+(1:Int)),h2))) (.inr fl_sl11Holds_0)) (.inr fl_sl11Holds_0)) (.inr (0,h2)))
noncomputable def it_sl11Holds_0 (x6:List Int) (x7:Int) (p0:Int) (p1:Int) (p2:Int) (p3:List (Int×(Lq1)×Int×List Int)) (p4:LIbe) (p5:Int) (q0:Int) (q1:Lq1) (q2:Int) (q3:List Int) (h2:List (Int×Int×Int×(Lq1)×Bool)):A_sl11Holds_0:=itX (fun v:V_sl11Holds_0=>ss_sl11Holds_0 v.1 v.2.1 p0 p1 p2 p3 p4 p5 q0 q1 q2 q3 v.2.2) fl_sl11Holds_0 (x6,x7,h2)
noncomputable def ct_sl11Holds_0 (p0:Int) (p1:Int) (p2:Int) (p3:List (Int×(Lq1)×Int×List Int)) (p4:LIbe) (p5:Int) (q0:Int) (q1:Lq1) (q2:Int) (q3:List Int) (a:A_sl11Holds_0):CT:=(.br (a.1==0) (.done (.exit 0) E_sl11Holds_0_0 ((u49),(a.2,()))) .fail)
noncomputable def T_sl11Holds_0 (x6:List Int) (x7:Int) (p0:Int) (p1:Int) (p2:Int) (p3:List (Int×(Lq1)×Int×List Int)) (p4:LIbe) (p5:Int) (q0:Int) (q1:Lq1) (q2:Int) (q3:List Int) (h2:List (Int×Int×Int×(Lq1)×Bool)):CT:=(ct_sl11Holds_0 p0 p1 p2 p3 p4 p5 q0 q1 q2 q3) (it_sl11Holds_0 x6 x7 p0 p1 p2 p3 p4 p5 q0 q1 q2 q3 h2)
noncomputable abbrev sp_sl11Holds_0:S_sl11Holds_0.den→RT S_sl11Holds_0.den:=fun d=>st_sl11Holds_0 d.1.2.2.2.2.2.2.1 d.1.2.2.2.2.2.2.2.1 d.2.1.1 d.2.1.2.1 d.2.1.2.2.1 d.2.1.2.2.2.1 d.2.1.2.2.2.2.1 d.2.1.2.2.2.2.2.1 d.2.2.1.1 d.2.2.1.2.1 d.2.2.1.2.2.1 d.2.2.1.2.2.2.1 d.2.2.2.1
noncomputable abbrev pk_sl11Holds_0 (x6:List Int) (x7:Int) (p0:Int) (p1:Int) (p2:Int) (p3:List (Int×(Lq1)×Int×List Int)) (p4:LIbe) (p5:Int) (q0:Int) (q1:Lq1) (q2:Int) (q3:List Int) (h2:List (Int×Int×Int×(Lq1)×Bool)):S_sl11Holds_0.den:=(((),(),(),(),(),(),x6,x7,u41),((p0,p1,p2,p3,p4,p5,()),(q0,q1,q2,q3,()),h2,()))
noncomputable def body_sl11Holds_0:Code:=((loopsIn 0 (bodyOf Try.f126)).getD 0 (0,.skip)).2
noncomputable abbrev pv_sl11Holds_0 (p0:Int) (p1:Int) (p2:Int) (p3:List (Int×(Lq1)×Int×List Int)) (p4:LIbe) (p5:Int) (q0:Int) (q1:Lq1) (q2:Int) (q3:List Int) (v:V_sl11Holds_0):S_sl11Holds_0.den:=pk_sl11Holds_0 v.1 v.2.1 p0 p1 p2 p3 p4 p5 q0 q1 q2 q3 v.2.2
noncomputable def ox_sl11Holds_0 (x6:List Int) (x7:Int) (p0:Int) (p1:Int) (p2:Int) (p3:List (Int×(Lq1)×Int×List Int)) (p4:LIbe) (p5:Int) (q0:Int) (q1:Lq1) (q2:Int) (q3:List Int) (h2:List (Int×Int×Int×(Lq1)×Bool)):Option (Ex×St):=(cond (decide (x7<((x6.length:Nat):Int))) (cond (decide (0≤x7∧x7<((x6.length:Nat):Int))) (cond (q_sl7Has q3 (x6.getD x7.toNat (0:Int))) (cond (!(sl7Has q3 (x6.getD x7.toNat (0:Int)))) (cond (decide (0≤x7∧x7<((x6.length:Nat):Int))) (cond (decide (0≤x7∧x7<((x6.length:Nat):Int))) (cond (q_sOpsFor q1 (x6.getD x7.toNat (0:Int)) p0) (cond (decide ((h2.length+[((1:Int),(x6.getD x7.toNat (0:Int),(q0,((sOpsFor q1 (x6.getD x7.toNat (0:Int)) p0),false))))].length)*56≤MAXB)) (some (.normal,(⟨(.junk::.junk::(.ptr 0 0 1 0)::(.ptr 1 0 1 0)::.junk::(.all 2 5)::(.t true t_si x6)::(.t true (.int .i64) (IntKind.wrap .i64 (x7+(1:Int))))::jA40),[(.box [(.t true (.int .i64) p0),(.t true (.int .i64) p1),(.t true (.int .i64) p2),(.t false tq2 p3),(.t false tq4 p4),(.t true (.int .i64) p5)]),(.box [(.t true (.int .i64) q0),(.t false tq3 q1),(.t true (.int .i64) q2),(.t false t_si q3)]),(.rows 58 true tq5 (h2++[((1:Int),(x6.getD x7.toNat (0:Int),(q0,((sOpsFor q1 (x6.getD x7.toNat (0:Int)) p0),false))))]))],0,[]⟩:St))) none) none) none) none) (some (.normal,(⟨(.junk::.junk::(.ptr 0 0 1 0)::(.ptr 1 0 1 0)::.junk::(.all 2 5)::(.t true t_si x6)::(.t true (.int .i64) (IntKind.wrap .i64 (x7+(1:Int))))::jA40),[(.box [(.t true (.int .i64) p0),(.t true (.int .i64) p1),(.t true (.int .i64) p2),(.t false tq2 p3),(.t false tq4 p4),(.t true (.int .i64) p5)]),(.box [(.t true (.int .i64) q0),(.t false tq3 q1),(.t true (.int .i64) q2),(.t false t_si q3)]),(.rows 58 true tq5 h2)],0,[]⟩:St)))) none) none) (some ((.exit 0),(⟨(.junk::.junk::.junk::.junk::.junk::(.all 0 5)::jA42),[(.rows 58 true tq5 h2)],0,[]⟩:St))))
theorem rdA_sl11Holds_0:RdA G24 (fun _ _=>none) 0 body_sl11Holds_0 S_sl11Holds_0 0 [] (kepts [] [(0,[5])]) (fun d=>ox_sl11Holds_0 d.1.2.2.2.2.2.2.1 d.1.2.2.2.2.2.2.2.1 d.2.1.1 d.2.1.2.1 d.2.1.2.2.1 d.2.1.2.2.2.1 d.2.1.2.2.2.2.1 d.2.1.2.2.2.2.2.1 d.2.2.1.1 d.2.2.1.2.1 d.2.2.1.2.2.1 d.2.2.1.2.2.2.1 d.2.2.2.1):=by
 intro d
 kernel_rfl
theorem rdB_sl11Holds_0:∀ d:S_sl11Holds_0.den,ox_sl11Holds_0 d.1.2.2.2.2.2.2.1 d.1.2.2.2.2.2.2.2.1 d.2.1.1 d.2.1.2.1 d.2.1.2.2.1 d.2.1.2.2.2.1 d.2.1.2.2.2.2.1 d.2.1.2.2.2.2.2.1 d.2.2.1.1 d.2.2.1.2.1 d.2.2.1.2.2.1 d.2.2.1.2.2.2.1 d.2.2.2.1=(sp_sl11Holds_0 d).opt 0 []:=by
 intro d
 kernel_rfl
noncomputable abbrev say_sl11Holds_0:St→Option Tree:=S_sl11Holds_0.say 0 [] [] (fun d=>T_sl11Holds_0 d.1.2.2.2.2.2.2.1 d.1.2.2.2.2.2.2.2.1 d.2.1.1 d.2.1.2.1 d.2.1.2.2.1 d.2.1.2.2.2.1 d.2.1.2.2.2.2.1 d.2.1.2.2.2.2.2.1 d.2.2.1.1 d.2.2.1.2.1 d.2.2.1.2.2.1 d.2.2.1.2.2.2.1 d.2.2.2.1)
theorem lw_sl11Holds_0:LoopWp Try.prog say_sl11Holds_0 body_sl11Holds_0:=SS.wp2 (hl0 (by kernel_rfl)) [] sp_sl11Holds_0 rdA_sl11Holds_0 rdB_sl11Holds_0 _ (fun d=>Runs.ofIt (step:=sp_sl11Holds_0) (pv_sl11Holds_0 d.2.1.1 d.2.1.2.1 d.2.1.2.2.1 d.2.1.2.2.2.1 d.2.1.2.2.2.2.1 d.2.1.2.2.2.2.2.1 d.2.2.1.1 d.2.2.1.2.1 d.2.2.1.2.2.1 d.2.2.1.2.2.2.1) (ct:=(ct_sl11Holds_0 d.2.1.1 d.2.1.2.1 d.2.1.2.2.1 d.2.1.2.2.2.1 d.2.1.2.2.2.2.1 d.2.1.2.2.2.2.2.1 d.2.2.1.1 d.2.2.1.2.1 d.2.2.1.2.2.1 d.2.2.1.2.2.2.1)) rfl (fun v=>((relB (relB (relB (relB (relB (relB (relB (relB rfl rfl) rfl) rfl) rfl) rfl) rfl) rfl) rfl):(st_sl11Holds_0 v.1 v.2.1 d.2.1.1 d.2.1.2.1 d.2.1.2.2.1 d.2.1.2.2.2.1 d.2.1.2.2.2.2.1 d.2.1.2.2.2.2.2.1 d.2.2.1.1 d.2.2.1.2.1 d.2.2.1.2.2.1 d.2.2.1.2.2.2.1 v.2.2).val=relS (pv_sl11Holds_0 d.2.1.1 d.2.1.2.1 d.2.1.2.2.1 d.2.1.2.2.2.1 d.2.1.2.2.2.2.1 d.2.1.2.2.2.2.2.1 d.2.2.1.1 d.2.2.1.2.1 d.2.2.1.2.2.1 d.2.2.1.2.2.2.1) (ct_sl11Holds_0 d.2.1.1 d.2.1.2.1 d.2.1.2.2.1 d.2.1.2.2.2.1 d.2.1.2.2.2.2.1 d.2.1.2.2.2.2.2.1 d.2.2.1.1 d.2.2.1.2.1 d.2.2.1.2.2.1 d.2.2.1.2.2.2.1) (ss_sl11Holds_0 v.1 v.2.1 d.2.1.1 d.2.1.2.1 d.2.1.2.2.1 d.2.1.2.2.2.1 d.2.1.2.2.2.2.1 d.2.1.2.2.2.2.2.1 d.2.2.1.1 d.2.2.1.2.1 d.2.2.1.2.2.1 d.2.2.1.2.2.2.1 v.2.2))) (fun a=>((cendB (cendD (by simp)) cendF):CEnd _ ((ct_sl11Holds_0 d.2.1.1 d.2.1.2.1 d.2.1.2.2.1 d.2.1.2.2.2.1 d.2.1.2.2.2.2.1 d.2.1.2.2.2.2.2.1 d.2.2.1.1 d.2.2.1.2.1 d.2.2.1.2.2.1 d.2.2.1.2.2.2.1) a))) (d.1.2.2.2.2.2.2.1,d.1.2.2.2.2.2.2.2.1,d.2.2.2.1))
noncomputable def k1_sl11Holds (a0:Int) (a1:Int) (a2:Int) (a3:List (Int×(Lq1)×Int×List Int)) (a4:LIbe) (a5:Int) (a6:Int) (a7:Lq1) (a8:Int) (a9:List Int):=it_sl11Holds_0 (sShardsOf a7 a0) (0:Int) a0 a1 a2 a3 a4 a5 a6 a7 a8 a9 ([]:List (Int×Int×Int×(Lq1)×Bool))
noncomputable def sl11Holds (a0:Int) (a1:Int) (a2:Int) (a3:List (Int×(Lq1)×Int×List Int)) (a4:LIbe) (a5:Int) (a6:Int) (a7:Lq1) (a8:Int) (a9:List Int):List (Int×Int×Int×(Lq1)×Bool):=((k1_sl11Holds a0 a1 a2 a3 a4 a5 a6 a7 a8 a9).2)
noncomputable abbrev e_sl11Holds (r:List (Int×Int×Int×(Lq1)×Bool)):AV×List AObj:=((.t true tq7 r),[])
noncomputable abbrev F_sl11Holds (r:List (Int×Int×Int×(Lq1)×Bool)):=some (e_sl11Holds r)
noncomputable abbrev g_sl11Holds:pshsDen P_sl11Holds→AV×List AObj:=fun d=>e_sl11Holds (sl11Holds d.1.1 d.1.2.1 d.1.2.2.1 d.1.2.2.2.1 d.1.2.2.2.2.1 d.1.2.2.2.2.2.1 d.2.1.1 d.2.1.2.1 d.2.1.2.2.1 d.2.1.2.2.2.1)
noncomputable def q_sl11Holds (a0:Int) (a1:Int) (a2:Int) (a3:List (Int×(Lq1)×Int×List Int)) (a4:LIbe) (a5:Int) (a6:Int) (a7:Lq1) (a8:Int) (a9:List Int):Bool:=(q_sShardsOf a7 a0)&&((k1_sl11Holds a0 a1 a2 a3 a4 a5 a6 a7 a8 a9).1==0)
noncomputable abbrev pre_sl11Holds:pshsDen P_sl11Holds→Bool:=fun d=>q_sl11Holds d.1.1 d.1.2.1 d.1.2.2.1 d.1.2.2.2.1 d.1.2.2.2.2.1 d.1.2.2.2.2.2.1 d.2.1.1 d.2.1.2.1 d.2.1.2.2.1 d.2.1.2.2.2.1
noncomputable abbrev L_sl11Holds:Nat→St→Option Tree:=fun b=>match b with | 0=>say_sl11Holds_0 | _=>fun _=>none
theorem run_sl11Holds:RunP true G24 (L_sl11Holds) Try.f126 P_sl11Holds pre_sl11Holds g_sl11Holds:=by
 rintro ⟨⟨a0,⟨a1,⟨a2,⟨a3,⟨a4,⟨a5,_⟩⟩⟩⟩⟩⟩,⟨⟨a6,⟨a7,⟨a8,⟨a9,_⟩⟩⟩⟩,_⟩⟩ hp
 change q_sl11Holds a0 a1 a2 a3 a4 a5 a6 a7 a8 a9=true at hp
 unfold q_sl11Holds at hp
 refine Eq.trans (b:=(cond (q_sShardsOf a7 a0) (cond ((k1_sl11Holds a0 a1 a2 a3 a4 a5 a6 a7 a8 a9).1==0) (some (e_sl11Holds ((k1_sl11Holds a0 a1 a2 a3 a4 a5 a6 a7 a8 a9).2))) none) none)) (by kernel_rfl) ?_
 exact (cndA hp fun hp=>(cndT hp fun _h=>rfl))
theorem c_sl11Holds:PContract Try.prog 126 (sumOf P_sl11Holds pre_sl11Holds g_sl11Holds):=PContract.of_data true G24 (by kernel_rfl) (hl1 (i:=0) (by kernel_rfl) lw_sl11Holds_0) _ _ _ run_sl11Holds
noncomputable def S25:Tab:=Tab.add S24 126 (lift (sumOf P_sl11Holds pre_sl11Holds g_sl11Holds))
noncomputable def QF25:FuncId→Bool:=qadd QF24 126
theorem G25:Good Try.prog tt S25 QF25:=G24.addQ c_sl11Holds ⟨Try.f126,by kernel_rfl,by kernel_rfl,by kernel_rfl⟩ (fun _=>rfl)

noncomputable abbrev SM_sl11Begin:SS:=⟨[.ptr 0 0 1 0,.all 1 3],[.box [.t true (.int .i64),.t true (.int .i64),.t true (.int .i64),.all 2 4,.all 3 2,.t true (.int .i64)],.rows 90 true tq8,.rows 48 true tq6,.rows 43 true t_pib]⟩
noncomputable def k1_sl11Begin (p0:Int) (p1:Int) (p2:Int) (p5:Int) (h1:Lq1) (h2:List (Int×(Lq1)×Int×List Int)) (h3:LIbe):=sl11Holds p0 p1 (IntKind.wrap .i64 (p2+(1:Int))) (h2++([(IntKind.wrap .i64 ((IntKind.wrap .i64 (p1*(1000:Int)))+p2),((sl7CopyOps h1),((1:Int),[])))])) h3 p5 (IntKind.wrap .i64 ((IntKind.wrap .i64 (p1*(1000:Int)))+p2)) (sl7CopyOps h1) (1:Int) []
noncomputable def sl11Begin (p0:Int) (p1:Int) (p2:Int) (p5:Int) (h1:Lq1) (h2:List (Int×(Lq1)×Int×List Int)) (h3:LIbe):(List (Int×Int×Int×(Lq1)×Bool))×Int×Int×Int×Int×Int×(Lq1)×(List (Int×(Lq1)×Int×List Int))×LIbe:=(cond (!(sOpsOk h1)) (([]:List (Int×Int×Int×(Lq1)×Bool)),(0:Int),p0,p1,p2,p5,h1,h2,h3) (cond (p2==(999:Int)) (([]:List (Int×Int×Int×(Lq1)×Bool)),(0:Int),p0,p1,p2,p5,h1,h2,h3) (cond (decide (((h3.length:Nat):Int) ≥ (1000:Int))) (([]:List (Int×Int×Int×(Lq1)×Bool)),(0:Int),p0,p1,p2,p5,h1,h2,h3) ((k1_sl11Begin p0 p1 p2 p5 h1 h2 h3),IntKind.wrap .i64 ((IntKind.wrap .i64 (p1*(1000:Int)))+p2),p0,p1,IntKind.wrap .i64 (p2+(1:Int)),p5,h1,h2++([(IntKind.wrap .i64 ((IntKind.wrap .i64 (p1*(1000:Int)))+p2),((sl7CopyOps h1),((1:Int),[])))]),h3))))
noncomputable abbrev e_sl11Begin (r:(List (Int×Int×Int×(Lq1)×Bool))×Int×Int×Int×Int×Int×(Lq1)×(List (Int×(Lq1)×Int×List Int))×LIbe):AV×List AObj×List Nat:=((.tup [(.t true tq7 r.1),(.t true (.int .i64) r.2.1)]),[(.box [(.t true (.int .i64) r.2.2.1),(.t true (.int .i64) r.2.2.2.1),(.t true (.int .i64) r.2.2.2.2.1),(.all 2 4),(.all 3 2),(.t true (.int .i64) r.2.2.2.2.2.1)]),(.rows 90 true tq8 r.2.2.2.2.2.2.1),(.rows 48 true tq6 r.2.2.2.2.2.2.2.1),(.rows 43 true t_pib r.2.2.2.2.2.2.2.2)],[2])
noncomputable abbrev F_sl11Begin (r:(List (Int×Int×Int×(Lq1)×Bool))×Int×Int×Int×Int×Int×(Lq1)×(List (Int×(Lq1)×Int×List Int))×LIbe):=some (e_sl11Begin r)
noncomputable abbrev g_sl11Begin:SM_sl11Begin.den→AV×List AObj×List Nat:=fun d=>e_sl11Begin (sl11Begin d.2.1.1 d.2.1.2.1 d.2.1.2.2.1 d.2.1.2.2.2.2.2.1 d.2.2.1 d.2.2.2.1 d.2.2.2.2.1)
noncomputable def q_sl11Begin (p0:Int) (p1:Int) (p2:Int) (p5:Int) (h1:Lq1) (h2:List (Int×(Lq1)×Int×List Int)) (h3:LIbe):Bool:=(q_sOpsOk h1)&&(cond (!(sOpsOk h1)) true (cond (p2==(999:Int)) true (cond (decide (((h3.length:Nat):Int) ≥ (1000:Int))) true ((q_sl7CopyOps h1)&&((decide ((h2.length+([(IntKind.wrap .i64 ((IntKind.wrap .i64 (p1*(1000:Int)))+p2),((sl7CopyOps h1),((1:Int),[])))]:List (Int×(Lq1)×Int×List Int)).length)*64≤MAXB))&&(q_sl11Holds p0 p1 (IntKind.wrap .i64 (p2+(1:Int))) (h2++([(IntKind.wrap .i64 ((IntKind.wrap .i64 (p1*(1000:Int)))+p2),((sl7CopyOps h1),((1:Int),[])))])) h3 p5 (IntKind.wrap .i64 ((IntKind.wrap .i64 (p1*(1000:Int)))+p2)) (sl7CopyOps h1) (1:Int) []))))))
noncomputable abbrev pre_sl11Begin:SM_sl11Begin.den→Bool:=fun d=>q_sl11Begin d.2.1.1 d.2.1.2.1 d.2.1.2.2.1 d.2.1.2.2.2.2.2.1 d.2.2.1 d.2.2.2.1 d.2.2.2.2.1
theorem run_sl11Begin:RunE true [] [2] [] G25 (fun _ _=>none) Try.f97 SM_sl11Begin pre_sl11Begin g_sl11Begin:=by
 rintro ⟨⟨_,_,_⟩,⟨⟨p0,p1,p2,_,_,p5,_⟩,h1,h2,h3,_⟩⟩ hp
 change q_sl11Begin p0 p1 p2 p5 h1 h2 h3=true at hp
 unfold q_sl11Begin at hp
 refine Eq.trans (b:=(cond (q_sOpsOk h1) (cond (!(sOpsOk h1)) (some (e_sl11Begin (([]:List (Int×Int×Int×(Lq1)×Bool)),(0:Int),p0,p1,p2,p5,h1,h2,h3))) (cond (p2==(999:Int)) (some (e_sl11Begin (([]:List (Int×Int×Int×(Lq1)×Bool)),(0:Int),p0,p1,p2,p5,h1,h2,h3))) (cond (decide (((h3.length:Nat):Int) ≥ (1000:Int))) (some (e_sl11Begin (([]:List (Int×Int×Int×(Lq1)×Bool)),(0:Int),p0,p1,p2,p5,h1,h2,h3))) (cond (q_sl7CopyOps h1) (cond (decide ((h2.length+([(IntKind.wrap .i64 ((IntKind.wrap .i64 (p1*(1000:Int)))+p2),((sl7CopyOps h1),((1:Int),[])))]:List (Int×(Lq1)×Int×List Int)).length)*64≤MAXB)) (cond (q_sl11Holds p0 p1 (IntKind.wrap .i64 (p2+(1:Int))) (h2++([(IntKind.wrap .i64 ((IntKind.wrap .i64 (p1*(1000:Int)))+p2),((sl7CopyOps h1),((1:Int),[])))])) h3 p5 (IntKind.wrap .i64 ((IntKind.wrap .i64 (p1*(1000:Int)))+p2)) (sl7CopyOps h1) (1:Int) []) (some (e_sl11Begin ((k1_sl11Begin p0 p1 p2 p5 h1 h2 h3),IntKind.wrap .i64 ((IntKind.wrap .i64 (p1*(1000:Int)))+p2),p0,p1,IntKind.wrap .i64 (p2+(1:Int)),p5,h1,h2++([(IntKind.wrap .i64 ((IntKind.wrap .i64 (p1*(1000:Int)))+p2),((sl7CopyOps h1),((1:Int),[])))]),h3))) none) none) none)))) none)) (by kernel_rfl) ?_
 exact (cndA hp fun hp=>(cndQ (F:=F_sl11Begin) hp (fun hp=>rfl) (fun hp=>(cndQ (F:=F_sl11Begin) hp (fun hp=>rfl) (fun hp=>(cndQ (F:=F_sl11Begin) hp (fun hp=>rfl) (fun hp=>(cndA hp fun hp=>(cndA hp fun hp=>(cndT hp fun _h=>rfl))))))))))
noncomputable abbrev m_sl11Begin:=win winIds (msum SM_sl11Begin pre_sl11Begin g_sl11Begin)
theorem c_sl11Begin:MContract Try.prog 97 m_sl11Begin:=(MContract.of_dataE true [] [2] []  G25 (by kernel_rfl) (hl0 (by kernel_rfl)) _ _ _ run_sl11Begin).win winIds
noncomputable def S26:Tab:=Tab.add S25 97 (m_sl11Begin)
noncomputable def QF26:FuncId→Bool:=QF25
theorem G26:Good Try.prog tt S26 QF26:=G25.addM c_sl11Begin (win_local _) ⟨Try.f97,by kernel_rfl,by kernel_rfl,by kernel_rfl⟩ (by kernel_rfl)

noncomputable abbrev SM_sl1Once:SS:=⟨[.ptr 0 0 1 0,.t true (.int .i64)],[.box [.t false t_sy,.t true (.int .i64),.t true (.int .i64)]]⟩
noncomputable def sl1Once (x1:Int) (p0:List Int) (p1:Int) (p2:Int):Bool×(List Int)×Int×Int:=((((sl1Below x1 p0 p1 p2).1)==(0:Int)),((sl1Below x1 p0 p1 p2).2.1),((sl1Below x1 p0 p1 p2).2.2.1),((sl1Below x1 p0 p1 p2).2.2.2))
noncomputable abbrev e_sl1Once (r:Bool×(List Int)×Int×Int):AV×List AObj×List Nat:=((.t true .bool r.1),[(.box [(.t false t_sy r.2.1),(.t true (.int .i64) r.2.2.1),(.t true (.int .i64) r.2.2.2)])],[])
noncomputable abbrev F_sl1Once (r:Bool×(List Int)×Int×Int):=some (e_sl1Once r)
noncomputable abbrev g_sl1Once:SM_sl1Once.den→AV×List AObj×List Nat:=fun d=>e_sl1Once (sl1Once d.1.2.1 d.2.1.1 d.2.1.2.1 d.2.1.2.2.1)
noncomputable def q_sl1Once (x1:Int) (p0:List Int) (p1:Int) (p2:Int):Bool:=q_sl1Below x1 p0 p1 p2
noncomputable abbrev pre_sl1Once:SM_sl1Once.den→Bool:=fun d=>q_sl1Once d.1.2.1 d.2.1.1 d.2.1.2.1 d.2.1.2.2.1
theorem run_sl1Once:RunM G26 (fun _ _=>none) Try.f66 SM_sl1Once pre_sl1Once g_sl1Once:=by
 rintro ⟨⟨_,x1,_⟩,⟨⟨p0,p1,p2,_⟩,_⟩⟩ hp
 change q_sl1Once x1 p0 p1 p2=true at hp
 unfold q_sl1Once at hp
 refine Eq.trans (b:=(cond (q_sl1Below x1 p0 p1 p2) (some (e_sl1Once ((((sl1Below x1 p0 p1 p2).1)==(0:Int)),((sl1Below x1 p0 p1 p2).2.1),((sl1Below x1 p0 p1 p2).2.2.1),((sl1Below x1 p0 p1 p2).2.2.2)))) none)) (by kernel_rfl) ?_
 exact (cndT hp fun _h=>rfl)
noncomputable abbrev m_sl1Once:=win winIds (msum SM_sl1Once pre_sl1Once g_sl1Once)
theorem c_sl1Once:MContract Try.prog 66 m_sl1Once:=(MContract.of_data G26 (by kernel_rfl) (hl0 (by kernel_rfl)) _ _ _ run_sl1Once).win winIds
noncomputable def S27:Tab:=Tab.add S26 66 (m_sl1Once)
noncomputable def QF27:FuncId→Bool:=QF26
theorem G27:Good Try.prog tt S27 QF27:=G26.addM c_sl1Once (win_local _) ⟨Try.f66,by kernel_rfl,by kernel_rfl,by kernel_rfl⟩ (by kernel_rfl)

noncomputable abbrev jS21:List Sh:=.junk::.junk::.junk::jS18
noncomputable abbrev u23:=((),(),(),(),u19)
noncomputable abbrev P_sl11JobAt:List PSh:=[.agg [(.int .i64),(.int .i64),(.int .i64),tq2,tq4,(.int .i64)],.t (.int .i64)]
noncomputable abbrev S_sl11JobAt_0:SS:=⟨(.junk::.t true (.int .i64)::.ptr 0 0 1 0::.junk::.junk::.t true (.int .i64)::jS16),[.box [.t true (.int .i64),.t true (.int .i64),.t true (.int .i64),.t false tq2,.t false tq4,.t true (.int .i64)]]⟩
noncomputable abbrev E_sl11JobAt_0_0:SS:=⟨(.junk::.junk::.junk::.junk::.t true (.int .i64)::jS17),[]⟩
noncomputable abbrev E_sl11JobAt_0_1:SS:=⟨(.junk::jS21),[]⟩
noncomputable def st_sl11JobAt_0 (x1:Int) (x5:Int) (p0:Int) (p1:Int) (p2:Int) (p3:List (Int×(Lq1)×Int×List Int)) (p4:LIbe) (p5:Int):RT S_sl11JobAt_0.den:=(.br (decide (x5<((p3.length:Nat):Int))) (.br (decide (0≤x5∧x5<((p3.length:Nat):Int))) (.br (((p3.getD x5.toNat ((0:Int),([],((0:Int),[])))).1)==x1) (.done .ret E_sl11JobAt_0_0 (((),(),(),(),x5,u18),())) (.next (((),x1,(),(),(),IntKind.wrap .i64 (x5+(1:Int)),u17),((p0,p1,p2,p3,p4,p5,()),())))) .fail) (.done (.exit 0) E_sl11JobAt_0_1 ((u23),())))
noncomputable abbrev V_sl11JobAt_0:=(Int)×(Int)
noncomputable abbrev A_sl11JobAt_0:=Nat×(Int)
noncomputable def fl_sl11JobAt_0:A_sl11JobAt_0:=(99,((0:Int):Int))
noncomputable def ss_sl11JobAt_0 (x1:Int) (x5:Int) (p0:Int) (p1:Int) (p2:Int) (p3:List (Int×(Lq1)×Int×List Int)) (p4:LIbe) (p5:Int):V_sl11JobAt_0 ⊕ A_sl11JobAt_0:=(cond (decide (x5<((p3.length:Nat):Int))) (cond (decide (0≤x5∧x5<((p3.length:Nat):Int))) (cond (((p3.getD x5.toNat ((0:Int),([],((0:Int),[])))).1)==x1) (.inr (0,x5)) (.inl (x1,IntKind.wrap .i64 (x5+(1:Int))))) (.inr fl_sl11JobAt_0)) (.inr (1,((0:Int):Int))))
noncomputable def it_sl11JobAt_0 (x1:Int) (x5:Int) (p0:Int) (p1:Int) (p2:Int) (p3:List (Int×(Lq1)×Int×List Int)) (p4:LIbe) (p5:Int):A_sl11JobAt_0:=itX (fun v:V_sl11JobAt_0=>ss_sl11JobAt_0 v.1 v.2 p0 p1 p2 p3 p4 p5) fl_sl11JobAt_0 (x1,x5)
noncomputable def ct_sl11JobAt_0 (p0:Int) (p1:Int) (p2:Int) (p3:List (Int×(Lq1)×Int×List Int)) (p4:LIbe) (p5:Int) (a:A_sl11JobAt_0):CT:=(.br (a.1==0) (.done .ret E_sl11JobAt_0_0 (((),(),(),(),a.2,u18),())) (.br (a.1==1) (.done (.exit 0) E_sl11JobAt_0_1 ((u23),())) .fail))
noncomputable def T_sl11JobAt_0 (x1:Int) (x5:Int) (p0:Int) (p1:Int) (p2:Int) (p3:List (Int×(Lq1)×Int×List Int)) (p4:LIbe) (p5:Int):CT:=(ct_sl11JobAt_0 p0 p1 p2 p3 p4 p5) (it_sl11JobAt_0 x1 x5 p0 p1 p2 p3 p4 p5)
noncomputable abbrev sp_sl11JobAt_0:S_sl11JobAt_0.den→RT S_sl11JobAt_0.den:=fun d=>st_sl11JobAt_0 d.1.2.1 d.1.2.2.2.2.2.1 d.2.1.1 d.2.1.2.1 d.2.1.2.2.1 d.2.1.2.2.2.1 d.2.1.2.2.2.2.1 d.2.1.2.2.2.2.2.1
noncomputable abbrev pk_sl11JobAt_0 (x1:Int) (x5:Int) (p0:Int) (p1:Int) (p2:Int) (p3:List (Int×(Lq1)×Int×List Int)) (p4:LIbe) (p5:Int):S_sl11JobAt_0.den:=(((),x1,(),(),(),x5,u17),((p0,p1,p2,p3,p4,p5,()),()))
noncomputable def body_sl11JobAt_0:Code:=((loopsIn 0 (bodyOf Try.f106)).getD 0 (0,.skip)).2
noncomputable abbrev pv_sl11JobAt_0 (p0:Int) (p1:Int) (p2:Int) (p3:List (Int×(Lq1)×Int×List Int)) (p4:LIbe) (p5:Int) (v:V_sl11JobAt_0):S_sl11JobAt_0.den:=pk_sl11JobAt_0 v.1 v.2 p0 p1 p2 p3 p4 p5
theorem rdA_sl11JobAt_0:RdA G27 (fun _ _=>none) 0 body_sl11JobAt_0 S_sl11JobAt_0 0 [] (kepts [4] [(0,[])]) (fun d=>(sp_sl11JobAt_0 d).opt 0 []):=by
 intro d
 kernel_rfl
noncomputable abbrev say_sl11JobAt_0:St→Option Tree:=S_sl11JobAt_0.say 0 [] [] (fun d=>T_sl11JobAt_0 d.1.2.1 d.1.2.2.2.2.2.1 d.2.1.1 d.2.1.2.1 d.2.1.2.2.1 d.2.1.2.2.2.1 d.2.1.2.2.2.2.1 d.2.1.2.2.2.2.2.1)
theorem lw_sl11JobAt_0:LoopWp Try.prog say_sl11JobAt_0 body_sl11JobAt_0:=SS.wp2 (hl0 (by kernel_rfl)) [] sp_sl11JobAt_0 rdA_sl11JobAt_0 (fun d=>rfl) _ (fun d=>Runs.ofIt (step:=sp_sl11JobAt_0) (pv_sl11JobAt_0 d.2.1.1 d.2.1.2.1 d.2.1.2.2.1 d.2.1.2.2.2.1 d.2.1.2.2.2.2.1 d.2.1.2.2.2.2.2.1) (ct:=(ct_sl11JobAt_0 d.2.1.1 d.2.1.2.1 d.2.1.2.2.1 d.2.1.2.2.2.1 d.2.1.2.2.2.2.1 d.2.1.2.2.2.2.2.1)) rfl (fun v=>((relB (relB (relB rfl rfl) rfl) rfl):(st_sl11JobAt_0 v.1 v.2 d.2.1.1 d.2.1.2.1 d.2.1.2.2.1 d.2.1.2.2.2.1 d.2.1.2.2.2.2.1 d.2.1.2.2.2.2.2.1).val=relS (pv_sl11JobAt_0 d.2.1.1 d.2.1.2.1 d.2.1.2.2.1 d.2.1.2.2.2.1 d.2.1.2.2.2.2.1 d.2.1.2.2.2.2.2.1) (ct_sl11JobAt_0 d.2.1.1 d.2.1.2.1 d.2.1.2.2.1 d.2.1.2.2.2.1 d.2.1.2.2.2.2.1 d.2.1.2.2.2.2.2.1) (ss_sl11JobAt_0 v.1 v.2 d.2.1.1 d.2.1.2.1 d.2.1.2.2.1 d.2.1.2.2.2.1 d.2.1.2.2.2.2.1 d.2.1.2.2.2.2.2.1))) (fun a=>((cendB (cendD (by simp)) (cendB (cendD (by simp)) cendF)):CEnd _ ((ct_sl11JobAt_0 d.2.1.1 d.2.1.2.1 d.2.1.2.2.1 d.2.1.2.2.2.1 d.2.1.2.2.2.2.1 d.2.1.2.2.2.2.2.1) a))) (d.1.2.1,d.1.2.2.2.2.2.1))
noncomputable def sl11JobAt (a0:Int) (a1:Int) (a2:Int) (a3:List (Int×(Lq1)×Int×List Int)) (a4:LIbe) (a5:Int) (a6:Int):Int:=(cond ((it_sl11JobAt_0 a6 (0:Int) a0 a1 a2 a3 a4 a5).1==0) ((it_sl11JobAt_0 a6 (0:Int) a0 a1 a2 a3 a4 a5).2) (-1:Int))
noncomputable abbrev e_sl11JobAt (r:Int):AV×List AObj:=((.t true (.int .i64) r),[])
noncomputable abbrev F_sl11JobAt (r:Int):=some (e_sl11JobAt r)
noncomputable abbrev g_sl11JobAt:pshsDen P_sl11JobAt→AV×List AObj:=fun d=>e_sl11JobAt (sl11JobAt d.1.1 d.1.2.1 d.1.2.2.1 d.1.2.2.2.1 d.1.2.2.2.2.1 d.1.2.2.2.2.2.1 d.2.1)
noncomputable def q_sl11JobAt (a0:Int) (a1:Int) (a2:Int) (a3:List (Int×(Lq1)×Int×List Int)) (a4:LIbe) (a5:Int) (a6:Int):Bool:=cond ((it_sl11JobAt_0 a6 (0:Int) a0 a1 a2 a3 a4 a5).1==0) true ((it_sl11JobAt_0 a6 (0:Int) a0 a1 a2 a3 a4 a5).1==1)
noncomputable abbrev pre_sl11JobAt:pshsDen P_sl11JobAt→Bool:=fun d=>q_sl11JobAt d.1.1 d.1.2.1 d.1.2.2.1 d.1.2.2.2.1 d.1.2.2.2.2.1 d.1.2.2.2.2.2.1 d.2.1
noncomputable abbrev L_sl11JobAt:Nat→St→Option Tree:=fun b=>match b with | 0=>say_sl11JobAt_0 | _=>fun _=>none
theorem run_sl11JobAt:RunP true G27 (L_sl11JobAt) Try.f106 P_sl11JobAt pre_sl11JobAt g_sl11JobAt:=by
 rintro ⟨⟨a0,⟨a1,⟨a2,⟨a3,⟨a4,⟨a5,_⟩⟩⟩⟩⟩⟩,⟨a6,_⟩⟩ hp
 change q_sl11JobAt a0 a1 a2 a3 a4 a5 a6=true at hp
 unfold q_sl11JobAt at hp
 refine Eq.trans (b:=(cond ((it_sl11JobAt_0 a6 (0:Int) a0 a1 a2 a3 a4 a5).1==0) (some (e_sl11JobAt ((it_sl11JobAt_0 a6 (0:Int) a0 a1 a2 a3 a4 a5).2))) (cond ((it_sl11JobAt_0 a6 (0:Int) a0 a1 a2 a3 a4 a5).1==1) (some (e_sl11JobAt (-1:Int))) none))) (by kernel_rfl) ?_
 exact (cndQ (F:=F_sl11JobAt) hp (fun hp=>rfl) (fun hp=>(cndT hp fun _h=>rfl)))
theorem c_sl11JobAt:PContract Try.prog 106 (sumOf P_sl11JobAt pre_sl11JobAt g_sl11JobAt):=PContract.of_data true G27 (by kernel_rfl) (hl1 (i:=0) (by kernel_rfl) lw_sl11JobAt_0) _ _ _ run_sl11JobAt
noncomputable def S28:Tab:=Tab.add S27 106 (lift (sumOf P_sl11JobAt pre_sl11JobAt g_sl11JobAt))
noncomputable def QF28:FuncId→Bool:=qadd QF27 106
theorem G28:Good Try.prog tt S28 QF28:=G27.addQ c_sl11JobAt ⟨Try.f106,by kernel_rfl,by kernel_rfl,by kernel_rfl⟩ (fun _=>rfl)

noncomputable abbrev SM_sl11Vote:SS:=⟨[.ptr 0 0 1 0,.t true (.int .i64),.t true (.int .i64),.t true .bool],[.box [.t true (.int .i64),.t true (.int .i64),.t true (.int .i64),.all 1 4,.all 2 2,.t true (.int .i64)],.rows 48 true tq6,.rows 43 true t_pib]⟩
noncomputable def k1_sl11Vote (x2:Int) (p0:Int) (p1:Int) (p2:Int) (p5:Int) (h1:List (Int×(Lq1)×Int×List Int)) (h2:LIbe):=sShardsOf (((h1.getD ((sl11JobAt p0 p1 p2 h1 h2 p5 x2).toNat) ((0:Int),([],((0:Int),[])))).2).1) p0
noncomputable def k2_sl11Vote (x1:Int) (x2:Int) (p0:Int) (p1:Int) (p2:Int) (p5:Int) (h1:List (Int×(Lq1)×Int×List Int)) (h2:LIbe):=sl7Put_w1 ((((h1.getD ((sl11JobAt p0 p1 p2 h1 h2 p5 x2).toNat) ((0:Int),([],((0:Int),[])))).2).2).2) x1
noncomputable def sl11Vote (x1:Int) (x2:Int) (x3:Bool) (p0:Int) (p1:Int) (p2:Int) (p5:Int) (h1:List (Int×(Lq1)×Int×List Int)) (h2:LIbe):Int×Int×Int×Int×(List (Int×(Lq1)×Int×List Int))×LIbe:=(cond (decide ((sl11JobAt p0 p1 p2 h1 h2 p5 x2)<(0:Int))) (p0,p1,p2,p5,h1,h2) (cond (((((h1.getD ((sl11JobAt p0 p1 p2 h1 h2 p5 x2).toNat) ((0:Int),([],((0:Int),[])))).2).2).1) != (1:Int)) (p0,p1,p2,p5,h1,h2) (cond (decide (((h2.length:Nat):Int) ≥ (1000:Int))) (p0,p1,p2,p5,h1,h2) (cond (!(sl7Has (k1_sl11Vote x2 p0 p1 p2 p5 h1 h2) x1)) (p0,p1,p2,p5,h1,h2) (cond (!x3) (p0,p1,p2,p5,h1.set ((sl11JobAt p0 p1 p2 h1 h2 p5 x2).toNat) ((h1.getD ((sl11JobAt p0 p1 p2 h1 h2 p5 x2).toNat) ((0:Int),([],((0:Int),[])))).1,(((h1.getD ((sl11JobAt p0 p1 p2 h1 h2 p5 x2).toNat) ((0:Int),([],((0:Int),[])))).2).1,((3:Int),(((h1.getD ((sl11JobAt p0 p1 p2 h1 h2 p5 x2).toNat) ((0:Int),([],((0:Int),[])))).2).2).2))),h2++[(x2,false)]) (cond ((((((((h1.set ((sl11JobAt p0 p1 p2 h1 h2 p5 x2).toNat) ((h1.getD ((sl11JobAt p0 p1 p2 h1 h2 p5 x2).toNat) ((0:Int),([],((0:Int),[])))).1,(((h1.getD ((sl11JobAt p0 p1 p2 h1 h2 p5 x2).toNat) ((0:Int),([],((0:Int),[])))).2).1,((((h1.getD ((sl11JobAt p0 p1 p2 h1 h2 p5 x2).toNat) ((0:Int),([],((0:Int),[])))).2).2).1,(k2_sl11Vote x1 x2 p0 p1 p2 p5 h1 h2))))).getD ((sl11JobAt p0 p1 p2 h1 h2 p5 x2).toNat) ((0:Int),([],((0:Int),[])))).2).2).2).length:Nat):Int)==(((k1_sl11Vote x2 p0 p1 p2 p5 h1 h2).length:Nat):Int)) (p0,p1,p2,p5,(h1.set ((sl11JobAt p0 p1 p2 h1 h2 p5 x2).toNat) ((h1.getD ((sl11JobAt p0 p1 p2 h1 h2 p5 x2).toNat) ((0:Int),([],((0:Int),[])))).1,(((h1.getD ((sl11JobAt p0 p1 p2 h1 h2 p5 x2).toNat) ((0:Int),([],((0:Int),[])))).2).1,((((h1.getD ((sl11JobAt p0 p1 p2 h1 h2 p5 x2).toNat) ((0:Int),([],((0:Int),[])))).2).2).1,(k2_sl11Vote x1 x2 p0 p1 p2 p5 h1 h2))))).set ((sl11JobAt p0 p1 p2 h1 h2 p5 x2).toNat) (((h1.set ((sl11JobAt p0 p1 p2 h1 h2 p5 x2).toNat) ((h1.getD ((sl11JobAt p0 p1 p2 h1 h2 p5 x2).toNat) ((0:Int),([],((0:Int),[])))).1,(((h1.getD ((sl11JobAt p0 p1 p2 h1 h2 p5 x2).toNat) ((0:Int),([],((0:Int),[])))).2).1,((((h1.getD ((sl11JobAt p0 p1 p2 h1 h2 p5 x2).toNat) ((0:Int),([],((0:Int),[])))).2).2).1,(k2_sl11Vote x1 x2 p0 p1 p2 p5 h1 h2))))).getD ((sl11JobAt p0 p1 p2 h1 h2 p5 x2).toNat) ((0:Int),([],((0:Int),[])))).1,((((h1.set ((sl11JobAt p0 p1 p2 h1 h2 p5 x2).toNat) ((h1.getD ((sl11JobAt p0 p1 p2 h1 h2 p5 x2).toNat) ((0:Int),([],((0:Int),[])))).1,(((h1.getD ((sl11JobAt p0 p1 p2 h1 h2 p5 x2).toNat) ((0:Int),([],((0:Int),[])))).2).1,((((h1.getD ((sl11JobAt p0 p1 p2 h1 h2 p5 x2).toNat) ((0:Int),([],((0:Int),[])))).2).2).1,(k2_sl11Vote x1 x2 p0 p1 p2 p5 h1 h2))))).getD ((sl11JobAt p0 p1 p2 h1 h2 p5 x2).toNat) ((0:Int),([],((0:Int),[])))).2).1,((2:Int),((((h1.set ((sl11JobAt p0 p1 p2 h1 h2 p5 x2).toNat) ((h1.getD ((sl11JobAt p0 p1 p2 h1 h2 p5 x2).toNat) ((0:Int),([],((0:Int),[])))).1,(((h1.getD ((sl11JobAt p0 p1 p2 h1 h2 p5 x2).toNat) ((0:Int),([],((0:Int),[])))).2).1,((((h1.getD ((sl11JobAt p0 p1 p2 h1 h2 p5 x2).toNat) ((0:Int),([],((0:Int),[])))).2).2).1,(k2_sl11Vote x1 x2 p0 p1 p2 p5 h1 h2))))).getD ((sl11JobAt p0 p1 p2 h1 h2 p5 x2).toNat) ((0:Int),([],((0:Int),[])))).2).2).2))),h2++[(x2,true)]) (p0,p1,p2,p5,h1.set ((sl11JobAt p0 p1 p2 h1 h2 p5 x2).toNat) ((h1.getD ((sl11JobAt p0 p1 p2 h1 h2 p5 x2).toNat) ((0:Int),([],((0:Int),[])))).1,(((h1.getD ((sl11JobAt p0 p1 p2 h1 h2 p5 x2).toNat) ((0:Int),([],((0:Int),[])))).2).1,((((h1.getD ((sl11JobAt p0 p1 p2 h1 h2 p5 x2).toNat) ((0:Int),([],((0:Int),[])))).2).2).1,(k2_sl11Vote x1 x2 p0 p1 p2 p5 h1 h2)))),h2)))))))
noncomputable abbrev e_sl11Vote (r:Int×Int×Int×Int×(List (Int×(Lq1)×Int×List Int))×LIbe):AV×List AObj×List Nat:=((.tup []),[(.box [(.t true (.int .i64) r.1),(.t true (.int .i64) r.2.1),(.t true (.int .i64) r.2.2.1),(.all 1 4),(.all 2 2),(.t true (.int .i64) r.2.2.2.1)]),(.rows 48 true tq6 r.2.2.2.2.1),(.rows 43 true t_pib r.2.2.2.2.2)],[2])
noncomputable abbrev F_sl11Vote (r:Int×Int×Int×Int×(List (Int×(Lq1)×Int×List Int))×LIbe):=some (e_sl11Vote r)
noncomputable abbrev g_sl11Vote:SM_sl11Vote.den→AV×List AObj×List Nat:=fun d=>e_sl11Vote (sl11Vote d.1.2.1 d.1.2.2.1 d.1.2.2.2.1 d.2.1.1 d.2.1.2.1 d.2.1.2.2.1 d.2.1.2.2.2.2.2.1 d.2.2.1 d.2.2.2.1)
noncomputable def q_sl11Vote (x1:Int) (x2:Int) (x3:Bool) (p0:Int) (p1:Int) (p2:Int) (p5:Int) (h1:List (Int×(Lq1)×Int×List Int)) (h2:LIbe):Bool:=(q_sl11JobAt p0 p1 p2 h1 h2 p5 x2)&&(cond (decide ((sl11JobAt p0 p1 p2 h1 h2 p5 x2)<(0:Int))) true ((decide (0≤(sl11JobAt p0 p1 p2 h1 h2 p5 x2)∧(sl11JobAt p0 p1 p2 h1 h2 p5 x2)<((h1.length:Nat):Int)))&&(cond (((((h1.getD ((sl11JobAt p0 p1 p2 h1 h2 p5 x2).toNat) ((0:Int),([],((0:Int),[])))).2).2).1) != (1:Int)) true (cond (decide (((h2.length:Nat):Int) ≥ (1000:Int))) true ((decide (0≤(sl11JobAt p0 p1 p2 h1 h2 p5 x2)∧(sl11JobAt p0 p1 p2 h1 h2 p5 x2)<((h1.length:Nat):Int)))&&((q_sShardsOf (((h1.getD ((sl11JobAt p0 p1 p2 h1 h2 p5 x2).toNat) ((0:Int),([],((0:Int),[])))).2).1) p0)&&((q_sl7Has (k1_sl11Vote x2 p0 p1 p2 p5 h1 h2) x1)&&(cond (!(sl7Has (k1_sl11Vote x2 p0 p1 p2 p5 h1 h2) x1)) true (cond (!x3) (decide ((h2.length+[(x2,false)].length)*16≤MAXB)) ((q_sl7Put_w1 ((((h1.getD ((sl11JobAt p0 p1 p2 h1 h2 p5 x2).toNat) ((0:Int),([],((0:Int),[])))).2).2).2) x1)&&(cond ((((((((h1.set ((sl11JobAt p0 p1 p2 h1 h2 p5 x2).toNat) ((h1.getD ((sl11JobAt p0 p1 p2 h1 h2 p5 x2).toNat) ((0:Int),([],((0:Int),[])))).1,(((h1.getD ((sl11JobAt p0 p1 p2 h1 h2 p5 x2).toNat) ((0:Int),([],((0:Int),[])))).2).1,((((h1.getD ((sl11JobAt p0 p1 p2 h1 h2 p5 x2).toNat) ((0:Int),([],((0:Int),[])))).2).2).1,(k2_sl11Vote x1 x2 p0 p1 p2 p5 h1 h2))))).getD ((sl11JobAt p0 p1 p2 h1 h2 p5 x2).toNat) ((0:Int),([],((0:Int),[])))).2).2).2).length:Nat):Int)==(((k1_sl11Vote x2 p0 p1 p2 p5 h1 h2).length:Nat):Int)) (decide ((h2.length+[(x2,true)].length)*16≤MAXB)) true)))))))))))
noncomputable abbrev pre_sl11Vote:SM_sl11Vote.den→Bool:=fun d=>q_sl11Vote d.1.2.1 d.1.2.2.1 d.1.2.2.2.1 d.2.1.1 d.2.1.2.1 d.2.1.2.2.1 d.2.1.2.2.2.2.2.1 d.2.2.1 d.2.2.2.1
theorem run_sl11Vote:RunE false [] [2] [] G28 (fun _ _=>none) Try.f68 SM_sl11Vote pre_sl11Vote g_sl11Vote:=by
 rintro ⟨⟨_,x1,x2,x3,_⟩,⟨⟨p0,p1,p2,_,_,p5,_⟩,h1,h2,_⟩⟩ hp
 change q_sl11Vote x1 x2 x3 p0 p1 p2 p5 h1 h2=true at hp
 unfold q_sl11Vote at hp
 refine Eq.trans (b:=(cond (q_sl11JobAt p0 p1 p2 h1 h2 p5 x2) (cond (decide ((sl11JobAt p0 p1 p2 h1 h2 p5 x2)<(0:Int))) (some (e_sl11Vote (p0,p1,p2,p5,h1,h2))) (cond (decide (0≤(sl11JobAt p0 p1 p2 h1 h2 p5 x2)∧(sl11JobAt p0 p1 p2 h1 h2 p5 x2)<((h1.length:Nat):Int))) (cond (((((h1.getD ((sl11JobAt p0 p1 p2 h1 h2 p5 x2).toNat) ((0:Int),([],((0:Int),[])))).2).2).1) != (1:Int)) (some (e_sl11Vote (p0,p1,p2,p5,h1,h2))) (cond (decide (((h2.length:Nat):Int) ≥ (1000:Int))) (some (e_sl11Vote (p0,p1,p2,p5,h1,h2))) (cond (decide (0≤(sl11JobAt p0 p1 p2 h1 h2 p5 x2)∧(sl11JobAt p0 p1 p2 h1 h2 p5 x2)<((h1.length:Nat):Int))) (cond (q_sShardsOf (((h1.getD ((sl11JobAt p0 p1 p2 h1 h2 p5 x2).toNat) ((0:Int),([],((0:Int),[])))).2).1) p0) (cond (q_sl7Has (k1_sl11Vote x2 p0 p1 p2 p5 h1 h2) x1) (cond (!(sl7Has (k1_sl11Vote x2 p0 p1 p2 p5 h1 h2) x1)) (some (e_sl11Vote (p0,p1,p2,p5,h1,h2))) (cond (!x3) (cond (decide ((h2.length+[(x2,false)].length)*16≤MAXB)) (some (e_sl11Vote (p0,p1,p2,p5,h1.set ((sl11JobAt p0 p1 p2 h1 h2 p5 x2).toNat) ((h1.getD ((sl11JobAt p0 p1 p2 h1 h2 p5 x2).toNat) ((0:Int),([],((0:Int),[])))).1,(((h1.getD ((sl11JobAt p0 p1 p2 h1 h2 p5 x2).toNat) ((0:Int),([],((0:Int),[])))).2).1,((3:Int),(((h1.getD ((sl11JobAt p0 p1 p2 h1 h2 p5 x2).toNat) ((0:Int),([],((0:Int),[])))).2).2).2))),h2++[(x2,false)]))) none) (cond (q_sl7Put_w1 ((((h1.getD ((sl11JobAt p0 p1 p2 h1 h2 p5 x2).toNat) ((0:Int),([],((0:Int),[])))).2).2).2) x1) (cond ((((((((h1.set ((sl11JobAt p0 p1 p2 h1 h2 p5 x2).toNat) ((h1.getD ((sl11JobAt p0 p1 p2 h1 h2 p5 x2).toNat) ((0:Int),([],((0:Int),[])))).1,(((h1.getD ((sl11JobAt p0 p1 p2 h1 h2 p5 x2).toNat) ((0:Int),([],((0:Int),[])))).2).1,((((h1.getD ((sl11JobAt p0 p1 p2 h1 h2 p5 x2).toNat) ((0:Int),([],((0:Int),[])))).2).2).1,(k2_sl11Vote x1 x2 p0 p1 p2 p5 h1 h2))))).getD ((sl11JobAt p0 p1 p2 h1 h2 p5 x2).toNat) ((0:Int),([],((0:Int),[])))).2).2).2).length:Nat):Int)==(((k1_sl11Vote x2 p0 p1 p2 p5 h1 h2).length:Nat):Int)) (cond (decide ((h2.length+[(x2,true)].length)*16≤MAXB)) (some (e_sl11Vote (p0,p1,p2,p5,(h1.set ((sl11JobAt p0 p1 p2 h1 h2 p5 x2).toNat) ((h1.getD ((sl11JobAt p0 p1 p2 h1 h2 p5 x2).toNat) ((0:Int),([],((0:Int),[])))).1,(((h1.getD ((sl11JobAt p0 p1 p2 h1 h2 p5 x2).toNat) ((0:Int),([],((0:Int),[])))).2).1,((((h1.getD ((sl11JobAt p0 p1 p2 h1 h2 p5 x2).toNat) ((0:Int),([],((0:Int),[])))).2).2).1,(k2_sl11Vote x1 x2 p0 p1 p2 p5 h1 h2))))).set ((sl11JobAt p0 p1 p2 h1 h2 p5 x2).toNat) (((h1.set ((sl11JobAt p0 p1 p2 h1 h2 p5 x2).toNat) ((h1.getD ((sl11JobAt p0 p1 p2 h1 h2 p5 x2).toNat) ((0:Int),([],((0:Int),[])))).1,(((h1.getD ((sl11JobAt p0 p1 p2 h1 h2 p5 x2).toNat) ((0:Int),([],((0:Int),[])))).2).1,((((h1.getD ((sl11JobAt p0 p1 p2 h1 h2 p5 x2).toNat) ((0:Int),([],((0:Int),[])))).2).2).1,(k2_sl11Vote x1 x2 p0 p1 p2 p5 h1 h2))))).getD ((sl11JobAt p0 p1 p2 h1 h2 p5 x2).toNat) ((0:Int),([],((0:Int),[])))).1,((((h1.set ((sl11JobAt p0 p1 p2 h1 h2 p5 x2).toNat) ((h1.getD ((sl11JobAt p0 p1 p2 h1 h2 p5 x2).toNat) ((0:Int),([],((0:Int),[])))).1,(((h1.getD ((sl11JobAt p0 p1 p2 h1 h2 p5 x2).toNat) ((0:Int),([],((0:Int),[])))).2).1,((((h1.getD ((sl11JobAt p0 p1 p2 h1 h2 p5 x2).toNat) ((0:Int),([],((0:Int),[])))).2).2).1,(k2_sl11Vote x1 x2 p0 p1 p2 p5 h1 h2))))).getD ((sl11JobAt p0 p1 p2 h1 h2 p5 x2).toNat) ((0:Int),([],((0:Int),[])))).2).1,((2:Int),((((h1.set ((sl11JobAt p0 p1 p2 h1 h2 p5 x2).toNat) ((h1.getD ((sl11JobAt p0 p1 p2 h1 h2 p5 x2).toNat) ((0:Int),([],((0:Int),[])))).1,(((h1.getD ((sl11JobAt p0 p1 p2 h1 h2 p5 x2).toNat) ((0:Int),([],((0:Int),[])))).2).1,((((h1.getD ((sl11JobAt p0 p1 p2 h1 h2 p5 x2).toNat) ((0:Int),([],((0:Int),[])))).2).2).1,(k2_sl11Vote x1 x2 p0 p1 p2 p5 h1 h2))))).getD ((sl11JobAt p0 p1 p2 h1 h2 p5 x2).toNat) ((0:Int),([],((0:Int),[])))).2).2).2))),h2++[(x2,true)]))) none) (some (e_sl11Vote (p0,p1,p2,p5,h1.set ((sl11JobAt p0 p1 p2 h1 h2 p5 x2).toNat) ((h1.getD ((sl11JobAt p0 p1 p2 h1 h2 p5 x2).toNat) ((0:Int),([],((0:Int),[])))).1,(((h1.getD ((sl11JobAt p0 p1 p2 h1 h2 p5 x2).toNat) ((0:Int),([],((0:Int),[])))).2).1,((((h1.getD ((sl11JobAt p0 p1 p2 h1 h2 p5 x2).toNat) ((0:Int),([],((0:Int),[])))).2).2).1,(k2_sl11Vote x1 x2 p0 p1 p2 p5 h1 h2)))),h2)))) none))) none) none) none))) none)) none)) (by kernel_rfl) ?_
 exact (cndA hp fun hp=>(cndQ (F:=F_sl11Vote) hp (fun hp=>rfl) (fun hp=>(cndA hp fun hp=>(cndQ (F:=F_sl11Vote) hp (fun hp=>rfl) (fun hp=>(cndQ (F:=F_sl11Vote) hp (fun hp=>rfl) (fun hp=>(cndA hp fun hp=>(cndA hp fun hp=>(cndA hp fun hp=>(cndQ (F:=F_sl11Vote) hp (fun hp=>rfl) (fun hp=>(cndQ (F:=F_sl11Vote) hp (fun hp=>(cndT hp fun _h=>rfl)) (fun hp=>(cndA hp fun hp=>(cndQ (F:=F_sl11Vote) hp (fun hp=>(cndT hp fun _h=>rfl)) (fun hp=>rfl))))))))))))))))))
noncomputable abbrev m_sl11Vote:=win winIds (msum SM_sl11Vote pre_sl11Vote g_sl11Vote)
theorem c_sl11Vote:MContract Try.prog 68 m_sl11Vote:=(MContract.of_dataE false [] [2] []  G28 (by kernel_rfl) (hl0 (by kernel_rfl)) _ _ _ run_sl11Vote).win winIds
noncomputable def S29:Tab:=Tab.add S28 68 (m_sl11Vote)
noncomputable def QF29:FuncId→Bool:=QF28
theorem G29:Good Try.prog tt S29 QF29:=G28.addM c_sl11Vote (win_local _) ⟨Try.f68,by kernel_rfl,by kernel_rfl,by kernel_rfl⟩ (by kernel_rfl)

noncomputable abbrev SM_sl11Crash:SS:=⟨[.ptr 0 0 1 0,.t true (.int .i64)],[.box [.t true (.int .i64),.t true (.int .i64),.t true (.int .i64),.all 1 4,.all 2 2,.t true (.int .i64)],.rows 48 true tq6,.rows 43 true t_pib]⟩
noncomputable def sl11Crash (x1:Int) (p0:Int) (p1:Int) (p2:Int) (p5:Int) (h1:List (Int×(Lq1)×Int×List Int)) (h2:LIbe):Bool×Int×Int×Int×Int×(List (Int×(Lq1)×Int×List Int))×LIbe:=(cond (p1==(900:Int)) (false,p0,p1,p2,p5,h1,h2) (cond (decide (x1<(0:Int))) (cond (decide ((0:Int) > (IntKind.wrap .i64 (((h2.length:Nat):Int) - p5)))) (true,p0,IntKind.wrap .i64 (p1+(1:Int)),(0:Int),(((IntKind.wrap .i64 (p5+(IntKind.wrap .i64 (((h2.length:Nat):Int) - p5)))).toNat:Nat):Int),([]:List (Int×(Lq1)×Int×List Int)),h2.take ((IntKind.wrap .i64 (p5+(IntKind.wrap .i64 (((h2.length:Nat):Int) - p5)))).toNat)) (true,p0,IntKind.wrap .i64 (p1+(1:Int)),(0:Int),(((IntKind.wrap .i64 (p5+(0:Int))).toNat:Nat):Int),([]:List (Int×(Lq1)×Int×List Int)),h2.take ((IntKind.wrap .i64 (p5+(0:Int))).toNat))) (cond (decide (x1 > (IntKind.wrap .i64 (((h2.length:Nat):Int) - p5)))) (true,p0,IntKind.wrap .i64 (p1+(1:Int)),(0:Int),(((IntKind.wrap .i64 (p5+(IntKind.wrap .i64 (((h2.length:Nat):Int) - p5)))).toNat:Nat):Int),([]:List (Int×(Lq1)×Int×List Int)),h2.take ((IntKind.wrap .i64 (p5+(IntKind.wrap .i64 (((h2.length:Nat):Int) - p5)))).toNat)) (true,p0,IntKind.wrap .i64 (p1+(1:Int)),(0:Int),(((IntKind.wrap .i64 (p5+x1)).toNat:Nat):Int),([]:List (Int×(Lq1)×Int×List Int)),h2.take ((IntKind.wrap .i64 (p5+x1)).toNat)))))
noncomputable abbrev e_sl11Crash (r:Bool×Int×Int×Int×Int×(List (Int×(Lq1)×Int×List Int))×LIbe):AV×List AObj×List Nat:=((.t true .bool r.1),[(.box [(.t true (.int .i64) r.2.1),(.t true (.int .i64) r.2.2.1),(.t true (.int .i64) r.2.2.2.1),(.all 1 4),(.all 2 2),(.t true (.int .i64) r.2.2.2.2.1)]),(.rows 48 true tq6 r.2.2.2.2.2.1),(.rows 43 true t_pib r.2.2.2.2.2.2)],[1,2])
noncomputable abbrev F_sl11Crash (r:Bool×Int×Int×Int×Int×(List (Int×(Lq1)×Int×List Int))×LIbe):=some (e_sl11Crash r)
noncomputable abbrev g_sl11Crash:SM_sl11Crash.den→AV×List AObj×List Nat:=fun d=>e_sl11Crash (sl11Crash d.1.2.1 d.2.1.1 d.2.1.2.1 d.2.1.2.2.1 d.2.1.2.2.2.2.2.1 d.2.2.1 d.2.2.2.1)
noncomputable def q_sl11Crash (x1:Int) (p0:Int) (p1:Int) (p2:Int) (p5:Int) (h1:List (Int×(Lq1)×Int×List Int)) (h2:LIbe):Bool:=cond (p1==(900:Int)) true (cond (decide (x1<(0:Int))) (cond (decide ((0:Int) > (IntKind.wrap .i64 (((h2.length:Nat):Int) - p5)))) (decide (0≤(0:Int)∧(0:Int)≤(IntKind.wrap .i64 (p5+(IntKind.wrap .i64 (((h2.length:Nat):Int) - p5))))∧(IntKind.wrap .i64 (p5+(IntKind.wrap .i64 (((h2.length:Nat):Int) - p5))))≤((h2.length:Nat):Int))) (decide (0≤(0:Int)∧(0:Int)≤(IntKind.wrap .i64 (p5+(0:Int)))∧(IntKind.wrap .i64 (p5+(0:Int)))≤((h2.length:Nat):Int)))) (cond (decide (x1 > (IntKind.wrap .i64 (((h2.length:Nat):Int) - p5)))) (decide (0≤(0:Int)∧(0:Int)≤(IntKind.wrap .i64 (p5+(IntKind.wrap .i64 (((h2.length:Nat):Int) - p5))))∧(IntKind.wrap .i64 (p5+(IntKind.wrap .i64 (((h2.length:Nat):Int) - p5))))≤((h2.length:Nat):Int))) (decide (0≤(0:Int)∧(0:Int)≤(IntKind.wrap .i64 (p5+x1))∧(IntKind.wrap .i64 (p5+x1))≤((h2.length:Nat):Int)))))
noncomputable abbrev pre_sl11Crash:SM_sl11Crash.den→Bool:=fun d=>q_sl11Crash d.1.2.1 d.2.1.1 d.2.1.2.1 d.2.1.2.2.1 d.2.1.2.2.2.2.2.1 d.2.2.1 d.2.2.2.1
theorem run_sl11Crash:RunE false [] [1,2] [(0,3,1,48,tq6),(0,4,2,43,t_pib)] G29 (fun _ _=>none) Try.f63 SM_sl11Crash pre_sl11Crash g_sl11Crash:=by
 rintro ⟨⟨_,x1,_⟩,⟨⟨p0,p1,p2,_,_,p5,_⟩,h1,h2,_⟩⟩ hp
 change q_sl11Crash x1 p0 p1 p2 p5 h1 h2=true at hp
 unfold q_sl11Crash at hp
 refine Eq.trans (b:=(cond (p1==(900:Int)) (some (e_sl11Crash (false,p0,p1,p2,p5,h1,h2))) (cond (decide (x1<(0:Int))) (cond (decide ((0:Int) > (IntKind.wrap .i64 (((h2.length:Nat):Int) - p5)))) (cond (decide (0≤(0:Int)∧(0:Int)≤(IntKind.wrap .i64 (p5+(IntKind.wrap .i64 (((h2.length:Nat):Int) - p5))))∧(IntKind.wrap .i64 (p5+(IntKind.wrap .i64 (((h2.length:Nat):Int) - p5))))≤((h2.length:Nat):Int))) (some (e_sl11Crash (true,p0,IntKind.wrap .i64 (p1+(1:Int)),(0:Int),(((IntKind.wrap .i64 (p5+(IntKind.wrap .i64 (((h2.length:Nat):Int) - p5)))).toNat:Nat):Int),([]:List (Int×(Lq1)×Int×List Int)),h2.take ((IntKind.wrap .i64 (p5+(IntKind.wrap .i64 (((h2.length:Nat):Int) - p5)))).toNat)))) none) (cond (decide (0≤(0:Int)∧(0:Int)≤(IntKind.wrap .i64 (p5+(0:Int)))∧(IntKind.wrap .i64 (p5+(0:Int)))≤((h2.length:Nat):Int))) (some (e_sl11Crash (true,p0,IntKind.wrap .i64 (p1+(1:Int)),(0:Int),(((IntKind.wrap .i64 (p5+(0:Int))).toNat:Nat):Int),([]:List (Int×(Lq1)×Int×List Int)),h2.take ((IntKind.wrap .i64 (p5+(0:Int))).toNat)))) none)) (cond (decide (x1 > (IntKind.wrap .i64 (((h2.length:Nat):Int) - p5)))) (cond (decide (0≤(0:Int)∧(0:Int)≤(IntKind.wrap .i64 (p5+(IntKind.wrap .i64 (((h2.length:Nat):Int) - p5))))∧(IntKind.wrap .i64 (p5+(IntKind.wrap .i64 (((h2.length:Nat):Int) - p5))))≤((h2.length:Nat):Int))) (some (e_sl11Crash (true,p0,IntKind.wrap .i64 (p1+(1:Int)),(0:Int),(((IntKind.wrap .i64 (p5+(IntKind.wrap .i64 (((h2.length:Nat):Int) - p5)))).toNat:Nat):Int),([]:List (Int×(Lq1)×Int×List Int)),h2.take ((IntKind.wrap .i64 (p5+(IntKind.wrap .i64 (((h2.length:Nat):Int) - p5)))).toNat)))) none) (cond (decide (0≤(0:Int)∧(0:Int)≤(IntKind.wrap .i64 (p5+x1))∧(IntKind.wrap .i64 (p5+x1))≤((h2.length:Nat):Int))) (some (e_sl11Crash (true,p0,IntKind.wrap .i64 (p1+(1:Int)),(0:Int),(((IntKind.wrap .i64 (p5+x1)).toNat:Nat):Int),([]:List (Int×(Lq1)×Int×List Int)),h2.take ((IntKind.wrap .i64 (p5+x1)).toNat)))) none))))) (by kernel_rfl) ?_
 exact (cndQ (F:=F_sl11Crash) hp (fun hp=>rfl) (fun hp=>(cndQ (F:=F_sl11Crash) hp (fun hp=>(cndQ (F:=F_sl11Crash) hp (fun hp=>(cndT hp fun _h=>rfl)) (fun hp=>(cndT hp fun _h=>rfl)))) (fun hp=>(cndQ (F:=F_sl11Crash) hp (fun hp=>(cndT hp fun _h=>rfl)) (fun hp=>(cndT hp fun _h=>rfl)))))))
noncomputable abbrev m_sl11Crash:=win winIds (msum SM_sl11Crash pre_sl11Crash g_sl11Crash)
theorem c_sl11Crash:MContract Try.prog 63 m_sl11Crash:=(MContract.of_dataE false [] [1,2] [(0,3,1,48,tq6),(0,4,2,43,t_pib)]  G29 (by kernel_rfl) (hl0 (by kernel_rfl)) _ _ _ run_sl11Crash).win winIds
noncomputable def S30:Tab:=Tab.add S29 63 (m_sl11Crash)
noncomputable def QF30:FuncId→Bool:=QF29
theorem G30:Good Try.prog tt S30 QF30:=G29.addM c_sl11Crash (win_local _) ⟨Try.f63,by kernel_rfl,by kernel_rfl,by kernel_rfl⟩ (by kernel_rfl)


end Go.Proofs.Ytapikgcgahomlaa.Eng
