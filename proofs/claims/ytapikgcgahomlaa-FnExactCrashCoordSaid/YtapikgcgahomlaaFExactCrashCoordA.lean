/- What the functions that FnExactCrashCoord reaches compute, and that it answers true. -/
import Derived.Test.YtapikgcgahomlaaT
import Derived.Test.YtapikgcgahomlaaRows
import Derived.Test.YtapikgcgahomlaaE39
import Derived.Shelf.Sort.Plain
import Derived.Shelf.Slices.In.SortNone
import Derived.Shelf.Slices.CompactI
namespace Go.Proofs.Ytapikgcgahomlaa.Eng
open Go Go.RowKit
set_option linter.unusedSimpArgs false
set_option linter.unusedVariables false
set_option maxRecDepth 10000
abbrev bE:ByteArray:=⟨#[]⟩
abbrev Lq1:=List (Int×ByteArray×ByteArray)
abbrev tq5:Ty:=.sl (.pair (.int .i64) (.pair .str .str))
abbrev ti:=@AV.t true (.int .i64)
abbrev tI:Sh:=.t true (.int .i64)
abbrev LT1:=List (Int×Lq1×Int×List Int)
abbrev aPG:=Good Try.prog tt
abbrev aPM:=MContract Try.prog
abbrev aPP:=PContract Try.prog
abbrev aPL:=H4 Try.prog
abbrev aLn:Nat→St→Option Tree:=fun _ _=>none
theorem aCD{D:Type}{e:Ex}{s:SS}{x:s.den}(h:e ≠ .normal:=by simp):CEnd D (.done e s x):=A7l h
noncomputable def S0:Tab:=fun _=>none
noncomputable def QF0:FuncId→Bool:=fun _=>false
theorem G0:aPG S0 QF0:=Good.start C8K (by kernel_rfl)
theorem Runs.ofI2 {D V A:Type} {step:D→RT D} (pk:V→D) {ss:V→V ⊕ A} {ct:A→CT} {fa:A} (h:(∀ v,(step (pk v)).val=A6u pk ct (ss v))∧∀ a,CEnd D (ct a)) (hf:(ct fa).val (D:=D)=.fail) (v:V):(ct (itX ss fa v)).val (D:=D)=.fail∨Runs step (pk v) (ct (itX ss fa v)).val:=Runs.ofIt pk hf h.1 h.2 v
theorem K6 {α β:Type} (e:α→β) {c q r:Bool} {X Y:Option β} {a b:α} (hq:cond c q r=true) (hx:q=true→X=some (e a)) (hy:r=true→Y=some (e b)):cond c X Y=some (e (cond c a b)):=A7u (F:=fun r=>some (e r)) hq hx hy
theorem O8 {α β:Type} (e:α→β) {c:Bool} {X Y:Option β} {a b:α} (hx:c=true→X=some (e a)) (hy:c=false→Y=some (e b)):cond c X Y=some (e (cond c a b)):=cnd (F:=fun r=>some (e r)) hx hy
theorem hlz {L:Nat→St→Option Tree} {b:Nat} {x:Code} (h:C9 b x=[]:=by kernel_rfl):∀ p∈C9 b x,aPL (L p.1) p.2:=hl0 h
theorem cbl {f : FuncId} (F : Func) (h1 : Try.prog.funcs[f]? = some F := by kernel_rfl) (h2 : (F.name == "runtime.NumGoroutine") = false := by kernel_rfl) (h3 : F.body.isNone = false := by kernel_rfl) : Callable Try.prog f := ⟨F, h1, h2, h3⟩
theorem pcD (ro:Bool) {TB:TT} {S:Tab} {Q:FuncId→Bool} (G:Good Try.prog TB S Q) {f:FuncId} {fn:Func} {L:Nat→St→Option Tree} (hL:∀ p∈C9 0 (A0N fn),aPL (L p.1) p.2) {l:List PSh} {pre:H6 l→Bool} {g:H6 l→AV×List AObj} (h:A7s ro G L fn l pre g) (hf:Try.prog.funcs[f]? = some fn:=by kernel_rfl):aPP f (A2W l pre g):=PContract.of_data ro G hf hL l pre g h
theorem mcM {TB:TT} {S:Tab} {Q:FuncId→Bool} (G:Good Try.prog TB S Q) {f:FuncId} {fn:Func} {L:Nat→St→Option Tree} (hL:∀ p∈C9 0 (A0N fn),aPL (L p.1) p.2) {s:SS} {pre:s.den→Bool} {g:s.den→AV×List AObj×List Nat} (h:A7r G L fn s pre g) (hf:Try.prog.funcs[f]? = some fn:=by kernel_rfl):aPM f (msum s pre g):=MContract.of_data G hf hL s pre g h
theorem D08 (dl:List AV) {TB:TT} {S:Tab} {Q:FuncId→Bool} (G:Good Try.prog TB S Q) {f:FuncId} {fn:Func} {L:Nat→St→Option Tree} (hL:∀ p∈C9 0 (A0N fn),aPL (L p.1) p.2) {s:SS} {pre:s.den→Bool} {g:s.den→AV×List AObj×List Nat} (h:A7c dl G L fn s pre g) (hf:Try.prog.funcs[f]? = some fn:=by kernel_rfl):aPM f (msum s pre g):=MContract.of_dataRD dl G hf hL s pre g h
theorem mcE (mr:Bool) (dl:List AV) (kx:List Nat) (nb:List (Nat×Nat×Nat×TypeId×Ty)) {TB:TT} {S:Tab} {Q:FuncId→Bool} (G:Good Try.prog TB S Q) {f:FuncId} {fn:Func} {L:Nat→St→Option Tree} (hL:∀ p∈C9 0 (A0N fn),aPL (L p.1) p.2) {s:SS} {pre:s.den→Bool} {g:s.den→AV×List AObj×List Nat} (h:A7q mr dl kx nb G L fn s pre g) (hf:Try.prog.funcs[f]? = some fn:=by kernel_rfl):aPM f (msum s pre g):=MContract.of_dataE mr dl kx nb G hf hL s pre g h
theorem C4y:∀ a b:List UInt8,(!(Op.bytesLess a b))=(Op.bytesLess b a||b==a):=by
 intro a
 induction a with
 | nil=>intro b;cases b<;>simp [Op.bytesLess]
 | cons x a ih =>
  intro b
  cases b with
  | nil=>simp [Op.bytesLess]
  | cons y b =>
   simp only [Op.bytesLess]
   by_cases h1:x<y
   ·have h2:¬ y<x:=fun h=>UInt8.lt_irrefl _ (UInt8.lt_trans h1 h)
    have h3:(y==x)=false:=by rw [beq_eq_false_iff_ne];intro h;subst h;exact h2 h1
    have h4:(y::b==x::a)=false:=by rw [List.cons_beq_cons,h3,Bool.false_and]
    simp [h1,h2,h3,h4]
   ·by_cases h5:x=y
    ·subst h5
     have h6:(x::b==x::a)=(b==a):=by rw [List.cons_beq_cons];simp
     have:=ih b
     simp only [h1,decide_false,Bool.false_or,beq_self_eq_true,Bool.true_and,h6,this]
    ·have h7 : y < x := by
      rcases Nat.lt_trichotomy x.toNat y.toNat with h | h | h
      ·exact absurd (UInt8.lt_iff_toNat_lt.2 h) h1
      ·exact absurd (UInt8.toNat_inj.1 h) h5
      ·exact UInt8.lt_iff_toNat_lt.2 h
     have h8:(x==y)=false:=by rw [beq_eq_false_iff_ne];exact h5
     simp [h1,h7,h8]
theorem C2e {p q:Nat→Bool}:∀ k i,(∀ j,i≤j→j<i+k→p j=q j)→A4B p k i=A4B q k i:=by
 intro k
 induction k with
 | zero=>intro i h;rfl
 | succ k ih=>intro i h;simp only [A4B];rw [h i (Nat.le_refl _) (by omega),ih (i+1) (fun j h1 h2=>h j (by omega) (by omega))]
theorem C0x {p:Nat→Bool} (k i:Nat) (h:∀ j,i≤j→j<i+k→p j=true):A4B p k i=true:=(A61 k i).2 h
theorem C7I {f:Nat→Int→Int} {Q:Nat→Prop} {M:Int}:∀ (k i:Nat) (b:Int),(∀ j b,i≤j→j<i+k→0≤b→b≤M→0≤f j b→Q j∧f j b≤b)→0≤b→b≤M→A7n (szN f k i b)=true →
  (∀ j,i≤j→j<i+k→Q j)∧0≤A7f (-1) (szN f k i b)∧A7f (-1) (szN f k i b)≤b:=by
 intro k
 induction k with
 | zero=>intro i b hf h1 h2 h3;exact ⟨fun j hj hk=>by omega,h1,Int.le_refl _⟩
 | succ k ih =>
  intro i b hf h1 h2 h3
  have e:szN f (k+1) i b=cond (decide (f i b<0)) (.inr ()) (szN f k (i+1) (f i b)):=by
   simp only [szN,loopN]
   cases decide (f i b<0)<;>rfl
  rw [e] at h3 ⊢
  cases hd:decide (f i b<0) with
  | true=>rw [hd] at h3;cases h3
  | false =>
   rw [hd] at h3
   simp only [cond_false] at h3 ⊢
   have h0:0≤f i b:=by have:=of_decide_eq_false hd;omega
   obtain ⟨q1,q2⟩:=hf i b (Nat.le_refl _) (by omega) h1 h2 h0
   obtain ⟨r1,r2,r3⟩:=ih (i+1) (f i b) (fun j b hj hk=>hf j b (by omega) (by omega)) h0 (by omega) h3
   refine ⟨fun j hj hk=>?_,r2,by omega⟩
   by_cases ej:j=i
   ·exact ej ▸ q1
   ·exact r1 j (by omega) (by omega)
noncomputable def dOp:Int×ByteArray×ByteArray:=((0:Int),(bE,bE))
noncomputable def C9a (o:Int×ByteArray×ByteArray):Bool:=okS o.2.1&&okS o.2.2
noncomputable def Z9 (l:Lq1):Bool:=okL l&&l.all C9a
theorem C6q {l:Lq1} (h:Z9 l=true) (i:Nat) (hi:i<l.length):okS (l.getD i dOp).2.1=true∧okS (l.getD i dOp).2.2=true:=by
 simp only [Z9,Bool.and_eq_true,List.all_eq_true] at h
 have:=h.2 (l.getD i dOp) (by simp [List.getD_eq_getElem?_getD,hi])
 simpa [C9a] using this
theorem A8f {l:Lq1} (h:Z9 l=true):l.length≤1048576:=by
 simp only [Z9,Bool.and_eq_true] at h
 exact A7g h.1
noncomputable def C5T (s:ByteArray):Bool:=decide (s.size≤9223372036854775807)
noncomputable def B2k (l:Lq1):Bool:=decide (l.length≤9223372036854775807)&&l.all (fun o=>C5T o.2.1&&C5T o.2.2)
theorem C4d {l:Lq1} (h:B2k l=true) (i:Nat) (hi:i<l.length):C5T (l.getD i dOp).2.1=true∧C5T (l.getD i dOp).2.2=true:=by
 simp only [B2k,Bool.and_eq_true,List.all_eq_true] at h
 exact h.2 (l.getD i dOp) (by simp [List.getD_eq_getElem?_getD,hi])
theorem C8F {l:Lq1} (h1:l.length≤1048576) (h2:∀ i,i<l.length→okS (l.getD i dOp).2.1=true∧okS (l.getD i dOp).2.2=true):Z9 l=true:=by
 simp only [Z9,okL,Bool.and_eq_true,decide_eq_true_eq,List.all_eq_true]
 refine ⟨h1,fun o ho=>?_⟩
 obtain ⟨i,hi,rfl⟩:=List.getElem_of_mem ho
 have:=h2 i hi
 simp only [List.getD_eq_getElem?_getD,List.getElem?_eq_getElem hi,Option.getD_some] at this
 simp [C9a,this.1,this.2]
theorem C9l (a b:ByteArray):(a.toList==b.toList)=decide (a=b):=by
 rw [ByteArray.toList_eq,ByteArray.toList_eq]
 by_cases h:a=b
 ·subst h;simp
 ·rw [decide_eq_false h,beq_eq_false_iff_ne]
  intro e
  exact h (by cases a;cases b;simp at e;rw [e])
theorem C6X {l:Lq1} (h:B2k l=true):l.length≤9223372036854775807:=by
 simp only [B2k,Bool.and_eq_true,decide_eq_true_eq] at h;exact h.1
theorem C4k {l:Lq1} (h:Z9 l=true):okL l=true:=by
 simp only [Z9,Bool.and_eq_true] at h;exact h.1
theorem C7T {l:Lq1} (h:A2H tq5 l=true):B2k l=true:=by
 have h:(decide (l.length≤maxLen)&&l.all fun o=>(Lit.int .i64 o.1).wf&&(decide (o.2.1.size≤maxLen)&&decide (o.2.2.size≤maxLen)))=true:=h
 have hm:maxLen=9223372036854775807:=by decide
 rw [hm] at h
 simp only [Bool.and_eq_true,decide_eq_true_eq,List.all_eq_true] at h
 simp only [B2k,C5T,Bool.and_eq_true,decide_eq_true_eq,List.all_eq_true]
 exact ⟨h.1,fun o ho=>(h.2 o ho).2⟩
noncomputable def C4K (x:Int):ByteArray:=(⟨([IntKind.wrap .u8 (wI ((48:Int)+(Int.tmod x (10:Int))))].map fun n=>UInt8.ofNat n.toNat).toArray⟩:ByteArray)
theorem C0y (x:Int):(C4K x).size=1:=rfl
noncomputable def C0t:Nat→Int→ByteArray→ByteArray
 | 0,_,s=>s
 | k+1,x,s=>cond (decide (x > 0)) (C0t k (wI (Int.tdiv x (10:Int))) (C4K x++s)) s
theorem C8L:∀ (k:Nat) (x:Int) (s:ByteArray),(C0t k x s).size≤k+s.size:=by
 intro k
 induction k with
 | zero=>intro x s;simp [C0t]
 | succ k ih =>
  intro x s
  simp only [C0t]
  cases decide (x > 0) with
  | true =>
   have:=ih (wI (Int.tdiv x (10:Int))) (C4K x++s)
   rw [ByteArray.size_append,C0y] at this
   simp only [cond_true];omega
  | false=>simp only [cond_false];omega
theorem C75 {l:Lq1} (h:Z9 l=true):∀ o∈l,o.2.1.size≤1048576∧o.2.2.size≤1048576:=by
 intro o ho
 simp only [Z9,Bool.and_eq_true,List.all_eq_true] at h
 have:=h.2 o ho
 simpa [C9a,okS] using this
noncomputable def C4X:Go.Shelf.Ren:=⟨fun | 189=>70 | 125=>110 | 257=>109 | 128=>138 | 129=>139 | 294=>129 | 295=>130 | 296=>131 | 297=>132 | 298=>133 | 299=>134 | 216=>135 | 300=>136 | 301=>137 | 328=>150 | 329=>151 | 330=>152 | 331=>153 | 332=>154 | 215=>155 | 343=>157 | n=>n,fun | 28=>46 | 3=>3 | 46=>128 | 0=>0 | 51=>140 | 53=>152 | 4=>4 | 183=>143 | 182=>142 | 131=>148 | 5=>5 | 9=>9 | 218=>162 | 222=>166 | 228=>168 | 229=>169 | n=>n,fun n=>n⟩
theorem C6h:Go.Proofs.Lays.n189 Try.prog C4X where
 mixed:=by kernel_rfl
 f125:=Try.func110.trans (congrArg some (by kernel_rfl))
 f128:=Try.func138.trans (congrArg some (by kernel_rfl))
 f129:=Try.func139.trans (congrArg some (by kernel_rfl))
 f189:=Try.func70.trans (congrArg some (by kernel_rfl))
 f215:=Try.func155.trans (congrArg some (by kernel_rfl))
 f216:=Try.func135.trans (congrArg some (by kernel_rfl))
 f257:=Try.func109.trans (congrArg some (by kernel_rfl))
 f294:=Try.func129.trans (congrArg some (by kernel_rfl))
 f295:=Try.func130.trans (congrArg some (by kernel_rfl))
 f296:=Try.func131.trans (congrArg some (by kernel_rfl))
 f297:=Try.func132.trans (congrArg some (by kernel_rfl))
 f298:=Try.func133.trans (congrArg some (by kernel_rfl))
 f299:=Try.func134.trans (congrArg some (by kernel_rfl))
 f300:=Try.func136.trans (congrArg some (by kernel_rfl))
 f301:=Try.func137.trans (congrArg some (by kernel_rfl))
 f328:=Try.func150.trans (congrArg some (by kernel_rfl))
 f329:=Try.func151.trans (congrArg some (by kernel_rfl))
 f330:=Try.func152.trans (congrArg some (by kernel_rfl))
 f331:=Try.func153.trans (congrArg some (by kernel_rfl))
 f332:=Try.func154.trans (congrArg some (by kernel_rfl))
 f343:=Try.func157.trans (congrArg some (by kernel_rfl))
 t0:=Try.underlying0
 a0:=Try.isAgg0
 z0:=Try.sizeOf0
 v0:=Try.zeroValue0
 t3:=Try.underlying3
 a3:=Try.isAgg3
 z3:=Try.sizeOf3
 v3:=Try.zeroValue3
 t4:=Try.underlying4
 a4:=Try.isAgg4
 z4:=Try.sizeOf4
 v4:=Try.zeroValue4
 t5:=Try.underlying5
 a5:=Try.isAgg5
 z5:=Try.sizeOf5
 v5:=Try.zeroValue5
 t9:=Try.underlying9
 a9:=Try.isAgg9
 z9:=Try.sizeOf9
 v9:=Try.zeroValue9
 t28:=Try.underlying46
 a28:=Try.isAgg46
 z28:=Try.sizeOf46
 v28:=Try.zeroValue46
 t46:=Try.underlying128
 a46:=Try.isAgg128
 z46:=Try.sizeOf128
 v46:=Try.zeroValue128
 t51:=Try.underlying140
 a51:=Try.isAgg140
 z51:=Try.sizeOf140
 v51:=Try.zeroValue140
 t53:=Try.underlying152
 a53:=Try.isAgg152
 z53:=Try.sizeOf152
 v53:=Try.zeroValue152
 t131:=Try.underlying148
 a131:=Try.isAgg148
 z131:=Try.sizeOf148
 v131:=Try.zeroValue148
 t182:=Try.underlying142
 a182:=Try.isAgg142
 z182:=Try.sizeOf142
 v182:=Try.zeroValue142
 t183:=Try.underlying143
 a183:=Try.isAgg143
 z183:=Try.sizeOf143
 v183:=Try.zeroValue143
 t218:=Try.underlying162
 a218:=Try.isAgg162
 z218:=Try.sizeOf162
 v218:=Try.zeroValue162
 t222:=Try.underlying166
 a222:=Try.isAgg166
 z222:=Try.sizeOf166
 v222:=Try.zeroValue166
 t228:=Try.underlying168
 a228:=Try.isAgg168
 z228:=Try.sizeOf168
 v228:=Try.zeroValue168
 t229:=Try.underlying169
 a229:=Try.isAgg169
 z229:=Try.sizeOf169
 v229:=Try.zeroValue169
noncomputable def C1K:Go.Shelf.Ren:=⟨fun | 20=>72 | n=>n,fun | 22=>46 | 3=>3 | 4=>4 | 0=>0 | n=>n,fun n=>n⟩
theorem C1l:Go.Proofs.Lays2.n20 Try.prog C1K where
 mixed:=by kernel_rfl
 f20:=Try.func72.trans (congrArg some (by kernel_rfl))
 t0:=Try.underlying0
 a0:=Try.isAgg0
 z0:=Try.sizeOf0
 v0:=Try.zeroValue0
 t3:=Try.underlying3
 a3:=Try.isAgg3
 z3:=Try.sizeOf3
 v3:=Try.zeroValue3
 t4:=Try.underlying4
 a4:=Try.isAgg4
 z4:=Try.sizeOf4
 v4:=Try.zeroValue4
 t22:=Try.underlying46
 a22:=Try.isAgg46
 z22:=Try.sizeOf46
 v22:=Try.zeroValue46
 i3:=by kernel_rfl
theorem C72:aPM 70 (win E6 A5L):=(MContract.sortInt (Go.Proofs.Any.slices_Sort_int_none C6h) (Go.Proofs.Any.slices_Sort_int C6h)).win E6
theorem C4z:aPM 72 (win E6 A3b):=(MContract.compactInt (Go.Proofs.Any.slices_Compact_int_empty C1l) (Go.Proofs.Any.slices_Compact_int C1l)).win E6
noncomputable def C0d (l:List Int):Bool:=decide (l.length<4611686018427387904)
noncomputable def C56 (l:List Int):Nat×List Int:=((Lib.compact l).length,Lib.compact l++List.replicate (l.length - (Lib.compact l).length) 0)

abbrev B9A:List PSh:=[.agg [(.int .i64),.str,.str],.t (.int .i64)]
noncomputable def C4i (a0:Int) (a1 a2:ByteArray) (a3:Int):Int:=let z2:=wI (a3 - (a1.size:Int));let z1:=wI (z2 - (a2.size:Int));(cond (decide (z2<(0:Int))) (-1:Int) (cond (decide (z1<(0:Int))) (-1:Int) z1))
noncomputable abbrev B7G (r:Int):AV×List AObj:=((ti r),[])
noncomputable abbrev C4O:H6 B9A→AV×List AObj:=fun d=>B7G (C4i d.1.1 d.1.2.1 d.1.2.2.1 d.2.1)
noncomputable abbrev C0Q:H6 B9A→Bool:=fun d=>true
theorem C8b:A7s true G0 aLn Try.f143 B9A C0Q C4O:=by
 rintro ⟨⟨a0,⟨a1,⟨a2,_⟩⟩⟩,⟨a3,_⟩⟩ hp
 refine Eq.trans (b:=(let z2:=wI (a3 - (a1.size:Int));let z1:=wI (z2 - (a2.size:Int));cond (decide (z2<(0:Int))) (some (B7G (-1:Int))) (cond (decide (z1<(0:Int))) (some (B7G (-1:Int))) (some (B7G z1))))) (by kernel_rfl) ?_
 exact (O8 B7G (fun _h=>rfl) (fun _h=>(O8 B7G (fun _h=>rfl) (fun _h=>rfl))))
theorem C8V:aPP 143 (A2W B9A C0Q C4O):=pcD true G0 hlz C8b
noncomputable def S1:Tab:=Tab.add S0 143 (lift (A2W B9A C0Q C4O))
noncomputable def QF1:FuncId→Bool:=qadd QF0 143
theorem G1:aPG S1 QF1:=G0.addQ C8V (cbl Try.f143) (fun _=>rfl)

abbrev C4V:List Sh:=.junk::.junk::.junk::.junk::.junk::.junk::.junk::.junk::.junk::.junk::.junk::.junk::.junk::.junk::.junk::.junk::.junk::.junk::.junk::.junk::.junk::[]
abbrev C7b:List Sh:=.junk::C4V
abbrev C8E:List Sh:=.junk::.junk::.junk::C7b
abbrev u23:=((),(),(),(),(),(),(),(),(),(),(),(),(),(),(),(),(),(),(),(),(),(),())
abbrev u22:=((),(),(),(),(),(),(),(),(),(),(),(),(),(),(),(),(),(),(),(),(),())
abbrev u26:=((),(),(),u23)
noncomputable def N9 (x0:Lq1) (i:Nat) (b:Int):Int:=(C4i ((x0.getD i ((0:Int),(bE,bE))).1) (((x0.getD i ((0:Int),(bE,bE))).2).1) (((x0.getD i ((0:Int),(bE,bE))).2).2) b)
abbrev B6j:List PSh:=[.t tq5,.t (.int .i64)]
abbrev A8P:SS:=⟨(.t false tq5::tI::.junk::.junk::.junk::tI::C4V),[]⟩
abbrev B1u:SS:=⟨(.junk::.junk::.junk::.junk::tI::C7b),[]⟩
abbrev B4K:SS:=⟨(.junk::tI::C8E),[]⟩
noncomputable def B7x (x0:Lq1) (x1 x5:Int):RT A8P.den:=let z1:=x0.getD x5.toNat ((0:Int),(bE,bE));let z2:=C4i (z1.1) ((z1.2).1) ((z1.2).2) x1;(.br (decide (x5<(x0.length:Int))) (.br (decide (0≤x5∧x5<(x0.length:Int))) (.br (decide (z2<(0:Int))) (.done .ret B1u (((),(),(),(),(-1:Int),u23),())) (.next ((x0,z2,(),(),(),wI (x5+(1:Int)),u22),()))) .fail) (.done (.exit 0) B4K (((),x1,u26),())))
noncomputable def B2f (x0:Lq1) (x1 x5:Int):CT:=(.br (decide (0≤x5)&&okL x0) (.br (A7n (szN (N9 x0) (x0.length - x5.toNat) x5.toNat x1)) (.done (.exit 0) B4K (((),(A7f (-1) (szN (N9 x0) (x0.length - x5.toNat) x5.toNat x1)),u26),())) (.done .ret B1u (((),(),(),(),(-1:Int),u23),()))) .fail)
noncomputable abbrev A77:A8P.den→RT A8P.den:=(fun d=>B7x d.1.1 d.1.2.1 d.1.2.2.2.2.2.1)
noncomputable abbrev B3s (x0:Lq1) (x1 x5:Int):A8P.den:=((x0,x1,(),(),(),x5,u22),())
noncomputable def B8b:Code:=((C9 0 (A0N Try.f118)).getD 0 (0,.skip)).2
theorem C6P (x0:Lq1) (x1 x5:Int):(B2f x0 x1 x5).val (D:=A8P.den)=.fail∨Runs A77 (B3s x0 x1 x5) (B2f x0 x1 x5).val:=by
 cases hc:(decide (0≤x5)&&okL x0) with
 | false=>left;simp only [B2f,CT.val,hc,cond_false]
 | true =>
  right
  simp only [B2f,CT.val,hc,cond_true]
  simp only [Bool.and_eq_true,decide_eq_true_eq] at hc
  obtain ⟨i,rfl⟩:=Int.eq_ofNat_of_zero_le hc.1
  have hs:=A7g hc.2
  simp only [Int.toNat_natCast]
  have h:=Runs.loopN (step:=A77) (fun j b=>B3s x0 b (j:Int)) (fun _ _=>True) (x0.length) (fun i b=>cond (decide (N9 x0 i b<0)) (.inr ()) (.inl (N9 x0 i b)))
   (fin:=fun b=>((.done (.exit 0) B4K (((),b,u26),())):CT).val) (bad:=fun _=>((.done .ret B1u (((),(),(),(),(-1:Int),u23),())):CT).val)
   (fun i b hi _=>?_) (fun i b hi _=>?_) (x0.length - i) i x1 rfl trivial
  ·simp only [szN]
   revert h
   cases loopN (fun i b=>cond (decide (N9 x0 i b<0)) (.inr ()) (.inl (N9 x0 i b))) (x0.length - i) i x1 with
   | inl b=>exact id
   | inr c=>exact id
  ·
   have h0a:decide ((i:Int)<(x0.length:Int))=true:=decide_eq_true (by omega)
   have h0b:decide (0≤(i:Int)∧(i:Int)<(x0.length:Int))=true:=decide_eq_true (by omega)
   have e:(A77 (B3s x0 b (i:Int))).val=cond (decide (N9 x0 i b<0)) ((.done .ret B1u (((),(),(),(),(-1:Int),u23),())):CT).val (.next (B3s x0 (N9 x0 i b) ((i+1:Nat):Int))):=by
    simp only [A77,B7x,RT.val,h0a,h0b,cond_true,A7o i (by omega),Int.toNat_natCast]
    rfl
   cases hr:decide (N9 x0 i b<0) with
   | true=>exact .inr ⟨(),_,_,_,rfl,by rw [e,hr];rfl,rfl,by simp⟩
   | false=>exact .inl ⟨_,rfl,trivial,by rw [e,hr];rfl⟩
  ·have h1:decide ((i:Int)<(x0.length:Int))=false:=decide_eq_false (by omega)
   exact ⟨by simp only [A77,B7x,RT.val,h1,cond_false];rfl,_,_,_,rfl,by simp⟩
theorem C5a:RdA G1 aLn 0 B8b A8P 0 [] (kepts [4] [(0,[1])]) (fun d=>(A77 d).opt 0 []):=by
 intro d
 kernel_rfl
noncomputable abbrev C0i:St→Option Tree:=A8P.say 0 [] [] (fun d=>B2f d.1.1 d.1.2.1 d.1.2.2.2.2.2.1)
theorem C6k:aPL C0i B8b:=SS.wp2 hlz [] A77 C5a (fun d=>rfl) _ (fun d=>C6P d.1.1 d.1.2.1 d.1.2.2.2.2.2.1)
noncomputable def A7Y (a0:Lq1) (a1:Int):Int:=let z2:=wI (a1 - (a0.length:Int));let z1:=szN (N9 a0) (a0.length - (0:Int).toNat) (0:Int).toNat z2;(cond (decide (z2<(0:Int))) (-1:Int) (cond (A7n z1) (A7f (-1) z1) (-1:Int)))
noncomputable abbrev B4q (r:Int):AV×List AObj:=((ti r),[])
noncomputable abbrev C2v:H6 B6j→AV×List AObj:=fun d=>B4q (A7Y d.1 d.2.1)
noncomputable def B7e (a0:Lq1) (a1:Int):Bool:=decide (0≤a1∧a1≤1048576∧a0.length≤9223372036854775807)
noncomputable abbrev B9a:H6 B6j→Bool:=fun d=>B7e d.1 d.2.1
noncomputable abbrev C8k:Nat→St→Option Tree:=fun b=>match b with | 0=>C0i | _=>fun _=>none
theorem C7r:A7s true G1 (C8k) Try.f118 B6j B9a C2v:=by
 rintro ⟨a0,⟨a1,_⟩⟩ hp
 change B7e a0 a1=true at hp
 unfold B7e at hp
 refine Eq.trans (b:=(let z2:=wI (a1 - (a0.length:Int));let z1:=szN (N9 a0) (a0.length - (0:Int).toNat) (0:Int).toNat z2;cond (decide (z2<(0:Int))) (some (B4q (-1:Int))) (cond (decide (0≤(0:Int))&&okL a0) (cond (A7n z1) (some (B4q (A7f (-1) z1))) (some (B4q (-1:Int)))) none))) (by kernel_rfl) ?_
 exact (O8 B4q (fun _h=>rfl) (fun _h=>(A7v (by simp only [decide_eq_true_eq,decide_eq_false_iff_not] at hp _h;have hw:=A6A (n:=a1 - (a0.length:Int)) (by omega) (by omega);rw [hw] at _h;simp [okL];omega) (fun _h=>(O8 B4q (fun _h=>rfl) (fun _h=>rfl))))))
theorem C8v:aPP 118 (A2W B6j B9a C2v):=pcD true G1 (hl1 (i:=0) (by kernel_rfl) C6k) C7r
noncomputable def S2:Tab:=Tab.add S1 118 (lift (A2W B6j B9a C2v))
noncomputable def QF2:FuncId→Bool:=qadd QF1 118
theorem G2:aPG S2 QF2:=G1.addQ C8v (cbl Try.f118) (fun _=>rfl)

abbrev W3:Ty:=.sl (.int .i64)
abbrev B39:List PSh:=[.t W3,.t (.int .i64)]
noncomputable def A8e (a0:List Int) (a1:Int):Int:=let z1:=wI (a1 - (a0.length:Int));(cond (decide (z1<(0:Int))) (-1:Int) z1)
noncomputable abbrev B7F (r:Int):AV×List AObj:=((ti r),[])
noncomputable abbrev C0C:H6 B39→AV×List AObj:=fun d=>B7F (A8e d.1 d.2.1)
noncomputable abbrev B64:H6 B39→Bool:=fun d=>true
theorem C6y:A7s true G2 aLn Try.f119 B39 B64 C0C:=by
 rintro ⟨a0,⟨a1,_⟩⟩ hp
 refine Eq.trans (b:=(let z1:=wI (a1 - (a0.length:Int));cond (decide (z1<(0:Int))) (some (B7F (-1:Int))) (some (B7F z1)))) (by kernel_rfl) ?_
 exact (O8 B7F (fun _h=>rfl) (fun _h=>rfl))
theorem C7X:aPP 119 (A2W B39 B64 C0C):=pcD true G2 hlz C6y
noncomputable def S3:Tab:=Tab.add S2 119 (lift (A2W B39 B64 C0C))
noncomputable def QF3:FuncId→Bool:=qadd QF2 119
theorem G3:aPG S3 QF3:=G2.addQ C7X (cbl Try.f119) (fun _=>rfl)

abbrev B6i:List PSh:=[.agg [(.int .i64),tq5,(.int .i64),W3],.t (.int .i64)]
noncomputable def B2D (a0:Int) (a1:Lq1) (a2:Int) (a3:List Int) (a4:Int):Int:=let z1:=A8e a3 (A7Y a1 a4);(cond (decide ((A7Y a1 a4)<(0:Int))) (-1:Int) (cond (decide (z1<(0:Int))) (-1:Int) z1))
noncomputable abbrev B4p (r:Int):AV×List AObj:=((ti r),[])
noncomputable abbrev C2u:H6 B6i→AV×List AObj:=fun d=>B4p (B2D d.1.1 d.1.2.1 d.1.2.2.1 d.1.2.2.2.1 d.2.1)
noncomputable def B4z (a0:Int) (a1:Lq1) (a2:Int) (a3:List Int) (a4:Int):Bool:=B7e a1 a4
noncomputable abbrev B89:H6 B6i→Bool:=fun d=>B4z d.1.1 d.1.2.1 d.1.2.2.1 d.1.2.2.2.1 d.2.1
theorem C7q:A7s true G3 aLn Try.f85 B6i B89 C2u:=by
 rintro ⟨⟨a0,⟨a1,⟨a2,⟨a3,_⟩⟩⟩⟩,⟨a4,_⟩⟩ hp
 change B4z a0 a1 a2 a3 a4=true at hp
 unfold B4z at hp
 refine Eq.trans (b:=(let z1:=A8e a3 (A7Y a1 a4);cond (B7e a1 a4) (cond (decide ((A7Y a1 a4)<(0:Int))) (some (B4p (-1:Int))) (cond (decide (z1<(0:Int))) (some (B4p (-1:Int))) (some (B4p z1)))) none)) (by kernel_rfl) ?_
 exact (A7v hp fun _h=>(O8 B4p (fun _h=>rfl) (fun _h=>(O8 B4p (fun _h=>rfl) (fun _h=>rfl)))))
theorem C8u:aPP 85 (A2W B6i B89 C2u):=pcD true G3 hlz C7q
noncomputable def S4:Tab:=Tab.add S3 85 (lift (A2W B6i B89 C2u))
noncomputable def QF4:FuncId→Bool:=qadd QF3 85
theorem G4:aPG S4 QF4:=G3.addQ C8u (cbl Try.f85) (fun _=>rfl)

abbrev tq2:Ty:=.sl (.pair (.int .i64) (.pair (.sl (.pair (.int .i64) (.pair .str .str))) (.pair (.int .i64) (.sl (.int .i64)))))
abbrev B4a:List PSh:=[.t tq2,.t (.int .i64)]
abbrev A7J:SS:=⟨(.t false tq2::tI::.junk::.junk::.junk::tI::C4V),[]⟩
abbrev B75:SS:=⟨(.junk::.junk::.junk::.junk::tI::C7b),[]⟩
abbrev B76:SS:=⟨(.junk::tI::C8E),[]⟩
noncomputable def C0q (x0:LT1) (x1 x5:Int):RT A7J.den:=let z1:=x0.getD x5.toNat ((0:Int),([],((0:Int),[])));let z2:=B2D (z1.1) ((z1.2).1) (((z1.2).2).1) (((z1.2).2).2) x1;(.br (decide (x5<(x0.length:Int))) (.br (decide (0≤x5∧x5<(x0.length:Int))) (.br (B4z (z1.1) ((z1.2).1) (((z1.2).2).1) (((z1.2).2).2) x1) (.br (decide (z2<(0:Int))) (.done .ret B75 (((),(),(),(),(-1:Int),u23),())) (.next ((x0,z2,(),(),(),wI (x5+(1:Int)),u22),()))) .fail) .fail) (.done (.exit 0) B76 (((),x1,u26),())))
abbrev A82:=LT1×(Int)×(Int)
abbrev A7D:=Nat×(Int)×(Int)
def B40:A7D:=(99,((0:Int):Int),((0:Int):Int))
noncomputable def A8k (x0:LT1) (x1 x5:Int):A82 ⊕ A7D:=let z1:=x0.getD x5.toNat ((0:Int),([],((0:Int),[])));let z2:=B2D (z1.1) ((z1.2).1) (((z1.2).2).1) (((z1.2).2).2) x1;(cond (decide (x5<(x0.length:Int))) (cond (decide (0≤x5∧x5<(x0.length:Int))) (cond (B4z (z1.1) ((z1.2).1) (((z1.2).2).1) (((z1.2).2).2) x1) (cond (decide (z2<(0:Int))) (.inr (0,(-1:Int),((0:Int):Int))) (.inl (x0,z2,wI (x5+(1:Int))))) (.inr B40)) (.inr B40)) (.inr (1,((0:Int):Int),x1)))
noncomputable def V6 (x0:LT1) (x1 x5:Int):A7D:=itX (fun v:A82=>A8k v.1 v.2.1 v.2.2) B40 (x0,x1,x5)
noncomputable def B4S (a:A7D):CT:=(.br (a.1==0) (.done .ret B75 (((),(),(),(),a.2.1,u23),())) (.br (a.1==1) (.done (.exit 0) B76 (((),a.2.2,u26),())) .fail))
noncomputable def C5Q (x0:LT1) (x1 x5:Int):CT:=B4S (V6 x0 x1 x5)
noncomputable abbrev B5w:A7J.den→RT A7J.den:=(fun d=>C0q d.1.1 d.1.2.1 d.1.2.2.2.2.2.1)
noncomputable def B6v:Code:=((C9 0 (A0N Try.f40)).getD 0 (0,.skip)).2
noncomputable abbrev B99 (v:A82):A7J.den:=((v.1,v.2.1,(),(),(),v.2.2,u22),())
theorem C5k:(∀ v:A82,(C0q v.1 v.2.1 v.2.2).val=A6u B99 B4S (A8k v.1 v.2.1 v.2.2))∧∀ a:A7D,CEnd A7J.den (B4S a):=⟨fun v=>(A7x (A7x (A7x (A7x rfl rfl) rfl) rfl) rfl),fun a=>(A7k aCD (A7k aCD A7m))⟩
theorem C3S:RdA G4 aLn 0 B6v A7J 0 [] (kepts [4] [(0,[1])]) (fun d=>(B5w d).opt 0 []):=by
 intro d
 kernel_rfl
noncomputable abbrev B8C:St→Option Tree:=A7J.say 0 [] [] (fun d=>C5Q d.1.1 d.1.2.1 d.1.2.2.2.2.2.1)
theorem C44:aPL B8C B6v:=SS.wp2 hlz [] B5w C3S (fun d=>rfl) _ (fun d=>Runs.ofI2 (step:=B5w) B99 C5k rfl (d.1.1,d.1.2.1,d.1.2.2.2.2.2.1))
noncomputable def V7 (a0:LT1) (a1:Int):Int:=let z2:=wI (a1 - (a0.length:Int));let z1:=V6 a0 z2 (0:Int);(cond (decide (z2<(0:Int))) (-1:Int) (cond (z1.1==0) (z1.2.1) (z1.2.2)))
noncomputable abbrev B1Q (r:Int):AV×List AObj:=((ti r),[])
noncomputable abbrev C0D:H6 B4a→AV×List AObj:=fun d=>B1Q (V7 d.1 d.2.1)
noncomputable def B0k (a0:LT1) (a1:Int):Bool:=let z1:=wI (a1 - (a0.length:Int));let z2:=V6 a0 z1 (0:Int);cond (decide (z1<(0:Int))) true (cond (z2.1==0) true (z2.1==1))
noncomputable abbrev B65:H6 B4a→Bool:=fun d=>B0k d.1 d.2.1
noncomputable abbrev C7M:Nat→St→Option Tree:=fun b=>match b with | 0=>B8C | _=>fun _=>none
theorem C6z:A7s true G4 (C7M) Try.f40 B4a B65 C0D:=by
 rintro ⟨a0,⟨a1,_⟩⟩ hp
 change B0k a0 a1=true at hp
 unfold B0k at hp
 refine Eq.trans (b:=(let z2:=wI (a1 - (a0.length:Int));let z1:=V6 a0 z2 (0:Int);cond (decide (z2<(0:Int))) (some (B1Q (-1:Int))) (cond (z1.1==0) (some (B1Q (z1.2.1))) (cond (z1.1==1) (some (B1Q (z1.2.2))) none)))) (by kernel_rfl) ?_
 exact (K6 B1Q hp (fun hp=>rfl) (fun hp=>(K6 B1Q hp (fun hp=>rfl) (fun hp=>(A7v hp fun _h=>rfl)))))
theorem C7Y:aPP 40 (A2W B4a B65 C0D):=pcD true G4 (hl1 (i:=0) (by kernel_rfl) C44) C6z
noncomputable def S5:Tab:=Tab.add S4 40 (lift (A2W B4a B65 C0D))
noncomputable def QF5:FuncId→Bool:=qadd QF4 40
theorem G5:aPG S5 QF5:=G4.addQ C7Y (cbl Try.f40) (fun _=>rfl)

abbrev tq4:Ty:=.sl (.pair (.int .i64) .bool)
abbrev LIbe:=List (Int×Bool)
abbrev A9n:List PSh:=[.t tq4,.t (.int .i64)]
noncomputable def A8V (a0:LIbe) (a1:Int):Int:=let z1:=wI (a1 - (a0.length:Int));(cond (decide (z1<(0:Int))) (-1:Int) z1)
noncomputable abbrev B1E (r:Int):AV×List AObj:=((ti r),[])
noncomputable abbrev B45:H6 A9n→AV×List AObj:=fun d=>B1E (A8V d.1 d.2.1)
noncomputable abbrev B2I:H6 A9n→Bool:=fun d=>true
theorem C3i:A7s true G5 aLn Try.f41 A9n B2I B45:=by
 rintro ⟨a0,⟨a1,_⟩⟩ hp
 refine Eq.trans (b:=(let z1:=wI (a1 - (a0.length:Int));cond (decide (z1<(0:Int))) (some (B1E (-1:Int))) (some (B1E z1)))) (by kernel_rfl) ?_
 exact (O8 B1E (fun _h=>rfl) (fun _h=>rfl))
theorem C4F:aPP 41 (A2W A9n B2I B45):=pcD true G5 hlz C3i
noncomputable def S6:Tab:=Tab.add S5 41 (lift (A2W A9n B2I B45))
noncomputable def QF6:FuncId→Bool:=qadd QF5 41
theorem G6:aPG S6 QF6:=G5.addQ C4F (cbl Try.f41) (fun _=>rfl)

abbrev B18:List PSh:=[.agg [(.int .i64),(.int .i64),(.int .i64),tq2,tq4,(.int .i64)],.t (.int .i64)]
noncomputable def A9O (a0 a1 a2:Int) (a3:LT1) (a4:LIbe) (a5 a6:Int):Int:=let z1:=A8V a4 (V7 a3 a6);(cond (decide ((V7 a3 a6)<(0:Int))) (-1:Int) (cond (decide (z1<(0:Int))) (-1:Int) z1))
noncomputable abbrev B2r (r:Int):AV×List AObj:=((ti r),[])
noncomputable abbrev B8Z:H6 B18→AV×List AObj:=fun d=>B2r (A9O d.1.1 d.1.2.1 d.1.2.2.1 d.1.2.2.2.1 d.1.2.2.2.2.1 d.1.2.2.2.2.2.1 d.2.1)
noncomputable def B0j (a0 a1 a2:Int) (a3:LT1) (a4:LIbe) (a5 a6:Int):Bool:=B0k a3 a6
noncomputable abbrev B5o:H6 B18→Bool:=fun d=>B0j d.1.1 d.1.2.1 d.1.2.2.1 d.1.2.2.2.1 d.1.2.2.2.2.1 d.1.2.2.2.2.2.1 d.2.1
theorem C5t:A7s true G6 aLn Try.f13 B18 B5o B8Z:=by
 rintro ⟨⟨a0,⟨a1,⟨a2,⟨a3,⟨a4,⟨a5,_⟩⟩⟩⟩⟩⟩,⟨a6,_⟩⟩ hp
 change B0j a0 a1 a2 a3 a4 a5 a6=true at hp
 unfold B0j at hp
 refine Eq.trans (b:=(let z1:=A8V a4 (V7 a3 a6);let z2:=B2r (-1:Int);cond (B0k a3 a6) (cond (decide ((V7 a3 a6)<(0:Int))) (some z2) (cond (decide (z1<(0:Int))) (some z2) (some (B2r z1)))) none)) (by kernel_rfl) ?_
 exact (A7v hp fun _h=>(O8 B2r (fun _h=>rfl) (fun _h=>(O8 B2r (fun _h=>rfl) (fun _h=>rfl)))))
theorem C64:aPP 13 (A2W B18 B5o B8Z):=pcD true G6 hlz C5t
noncomputable def S7:Tab:=Tab.add S6 13 (lift (A2W B18 B5o B8Z))
noncomputable def QF7:FuncId→Bool:=qadd QF6 13
theorem G7:aPG S7 QF7:=G6.addQ C64 (cbl Try.f13) (fun _=>rfl)

abbrev B9B:List PSh:=[.agg [(.int .i64),.str,.str]]
noncomputable def C1m (a0:Int) (a1 a2:ByteArray):Int×ByteArray×ByteArray:=(a0,a1,a2)
noncomputable abbrev C80 (r:Int×ByteArray×ByteArray):AV×List AObj:=((.agg [(ti r.1),(.t true .str r.2.1),(.t true .str r.2.2)]),[])
noncomputable abbrev C4P:H6 B9B→AV×List AObj:=fun d=>C80 (C1m d.1.1 d.1.2.1 d.1.2.2.1)
noncomputable abbrev C0R:H6 B9B→Bool:=fun d=>true
theorem C8c:A7s true G7 aLn Try.f146 B9B C0R C4P:=by
 rintro ⟨⟨a0,⟨a1,⟨a2,_⟩⟩⟩,_⟩ hp
 kernel_rfl
theorem C8W:aPP 146 (A2W B9B C0R C4P):=pcD true G7 hlz C8c
noncomputable def S8:Tab:=Tab.add S7 146 (lift (A2W B9B C0R C4P))
noncomputable def QF8:FuncId→Bool:=qadd QF7 146
theorem G8:aPG S8 QF8:=G7.addQ C8W (cbl Try.f146) (fun _=>rfl)

abbrev C6f:List Sh:=.junk::.junk::.junk::.junk::.junk::.junk::.junk::.junk::.junk::.junk::.junk::.junk::.junk::.junk::.junk::.junk::.junk::.junk::[]
abbrev tq7:Ty:=.pair (.int .i64) (.pair .str .str)
abbrev C8D:List Sh:=.junk::C6f
abbrev u19:=((),(),(),(),(),(),(),(),(),(),(),(),(),(),(),(),(),(),())
abbrev u24:=((),u23)
noncomputable def B4Z (x0:Lq1) (i:Nat):Int×ByteArray×ByteArray:=(((C1m ((x0.getD i ((0:Int),(bE,bE))).1) (((x0.getD i ((0:Int),(bE,bE))).2).1) (((x0.getD i ((0:Int),(bE,bE))).2).2)).1),(((C1m ((x0.getD i ((0:Int),(bE,bE))).1) (((x0.getD i ((0:Int),(bE,bE))).2).1) (((x0.getD i ((0:Int),(bE,bE))).2).2)).2.1),((C1m ((x0.getD i ((0:Int),(bE,bE))).1) (((x0.getD i ((0:Int),(bE,bE))).2).1) (((x0.getD i ((0:Int),(bE,bE))).2).2)).2.2)))
abbrev B6l:List PSh:=[.t tq5]
abbrev A8Q:SS:=⟨(.t false tq5::.junk::.junk::.all 0 3::tI::C6f),[.rows 90 true tq7]⟩
abbrev B4L:SS:=⟨(.junk::.junk::.junk::.all 0 3::C8D),[.rows 90 true tq7]⟩
noncomputable def B7y (x0:Lq1) (x4:Int) (h0:Lq1):RT A8Q.den:=let z2:=x0.getD x4.toNat ((0:Int),(bE,bE));let z1:=C1m (z2.1) ((z2.2).1) ((z2.2).2);(.br (decide (x4<(x0.length:Int))) (.br (decide (0≤x4∧x4<(x0.length:Int))) (.br (decide (0≤x4∧x4<(h0.length:Int))) (.next ((x0,(),(),(),wI (x4+(1:Int)),u19),(h0.set x4.toNat ((z1.1),((z1.2.1),(z1.2.2))),()))) .fail) .fail) (.done (.exit 0) B4L ((u24),(h0,()))))
noncomputable def B2g (x0:Lq1) (x4:Int) (h0:Lq1):CT:=(.br (decide (0≤x4)&&(decide (h0.length=x0.length)&&okL x0)) (.done (.exit 0) B4L ((u24),((foldN (fun i h=>h.set i (B4Z x0 i)) (x0.length - x4.toNat) x4.toNat h0),()))) .fail)
noncomputable abbrev A9b:A8Q.den→RT A8Q.den:=(fun d=>B7y d.1.1 d.1.2.2.2.2.1 d.2.1)
noncomputable abbrev C1w (x0:Lq1) (x4:Int) (h0:Lq1):A8Q.den:=((x0,(),(),(),x4,u19),(h0,()))
noncomputable def B8c:Code:=((C9 0 (A0N Try.f122)).getD 0 (0,.skip)).2
theorem C6Q (x0:Lq1) (x4:Int) (h0:Lq1):(B2g x0 x4 h0).val (D:=A8Q.den)=.fail∨Runs A9b (C1w x0 x4 h0) (B2g x0 x4 h0).val:=by
 cases hc:(decide (0≤x4)&&(decide (h0.length=x0.length)&&okL x0)) with
 | false=>left;simp only [B2g,CT.val,hc,cond_false]
 | true =>
  right
  simp only [B2g,CT.val,hc,cond_true]
  simp only [Bool.and_eq_true,decide_eq_true_eq] at hc
  obtain ⟨i,rfl⟩:=Int.eq_ofNat_of_zero_le hc.1
  have hs:=A7g hc.2.2
  simp only [Int.toNat_natCast]
  refine Runs.foldN (step:=A9b) (fun j b=>C1w x0 (j:Int) b) (fun _ b=>b.length=x0.length) (x0.length) (fun i h=>h.set i (B4Z x0 i))
   (fin:=fun b=>((.done (.exit 0) B4L ((u24),(b,()))):CT).val) (fun i b hi hb=>⟨by simpa using hb,?_⟩) (fun i b hi hb=>?_) (x0.length - i) i h0 rfl hc.2.1
  ·
   have h0a:decide ((i:Int)<(x0.length:Int))=true:=decide_eq_true (by omega)
   have h0b:decide (0≤(i:Int)∧(i:Int)<(x0.length:Int))=true:=decide_eq_true (by omega)
   have h9:decide (0≤(i:Int)∧(i:Int)<(b.length:Int))=true:=decide_eq_true (by omega)
   simp only [A9b,B7y,RT.val,h0a,h0b,h9,cond_true,A7o i (by omega),Int.toNat_natCast]
   rfl
  ·have h1:decide ((i:Int)<(x0.length:Int))=false:=decide_eq_false (by omega)
   exact ⟨by simp only [A9b,B7y,RT.val,h1,cond_false];rfl,_,_,_,rfl,by simp⟩
theorem C5b:RdA G8 aLn 0 B8c A8Q 0 [] (kepts [] [(0,[3])]) (fun d=>(A9b d).opt 0 []):=by
 intro d
 kernel_rfl
noncomputable abbrev C0j:St→Option Tree:=A8Q.say 0 [] [] (fun d=>B2g d.1.1 d.1.2.2.2.2.1 d.2.1)
theorem C6l:aPL C0j B8c:=SS.wp2 hlz [] A9b C5b (fun d=>rfl) _ (fun d=>C6Q d.1.1 d.1.2.2.2.2.1 d.2.1)
noncomputable def C40 (a0:Lq1):Lq1:=(foldN (fun i h=>h.set i (B4Z a0 i)) (a0.length - (0:Int).toNat) (0:Int).toNat (List.replicate (a0.length:Int).toNat ((0:Int),(bE,bE))))
noncomputable abbrev C6b (r:Lq1):AV×List AObj:=((.all 0 3),[(.rows 90 true tq7 r)])
noncomputable abbrev C2x:H6 B6l→AV×List AObj:=fun d=>C6b (C40 d.1)
noncomputable def B4A (a0:Lq1):Bool:=okL a0
noncomputable abbrev B9c:H6 B6l→Bool:=fun d=>B4A d.1
noncomputable abbrev C8l:Nat→St→Option Tree:=fun b=>match b with | 0=>C0j | _=>fun _=>none
theorem C7t:A7s false G8 (C8l) Try.f122 B6l B9c C2x:=by
 rintro ⟨a0,_⟩ hp
 change B4A a0=true at hp
 unfold B4A at hp
 refine Eq.trans (b:=(cond (decide (0≤(a0.length:Int)∧(a0.length:Int)=(a0.length:Int)∧(a0.length:Int).toNat*40≤MAXB∧(a0.length:Int)≤9223372036854775807)) (cond (decide (0≤(0:Int))&&(decide ((List.replicate (a0.length:Int).toNat ((0:Int),((⟨#[]⟩:ByteArray),(⟨#[]⟩:ByteArray)))).length=a0.length)&&okL a0)) (some (C6b (foldN (fun i h=>h.set i (B4Z a0 i)) (a0.length - (0:Int).toNat) (0:Int).toNat (List.replicate (a0.length:Int).toNat ((0:Int),((⟨#[]⟩:ByteArray),(⟨#[]⟩:ByteArray))))))) none) none)) (by kernel_rfl) ?_
 exact (A7v (by first | rfl | decide | exact hp | (simp only [Bool.and_eq_true] at hp;simp only [hp];done) | (simp [*];done) | (simp [okL] at hp;simp [okL,MAXB];omega) | (simp_all;done) | (simp at *;omega)) (fun _h=>(A7v (by first | rfl | decide | exact hp | (simp only [Bool.and_eq_true] at hp;simp only [hp];done) | (simp [*];done) | (simp [okL] at hp;simp [okL,MAXB];omega) | (simp_all;done) | (simp at *;omega)) (fun _h=>rfl))))
theorem C8x:aPP 122 (A2W B6l B9c C2x):=pcD false G8 (hl1 (i:=0) (by kernel_rfl) C6l) C7t
noncomputable def S9:Tab:=Tab.add S8 122 (lift (A2W B6l B9c C2x))
noncomputable def QF9:FuncId→Bool:=QF8
theorem G9:aPG S9 QF9:=G8.add C8x (cbl Try.f122) (by kernel_rfl)

abbrev C74:List Sh:=.junk::.junk::.junk::.junk::.junk::.junk::.junk::.junk::.junk::.junk::.junk::.junk::.junk::.junk::.junk::.junk::.junk::[]
abbrev u18:=((),(),(),(),(),(),(),(),(),(),(),(),(),(),(),(),(),())
noncomputable def B3g (x0:List Int) (i:Nat):Int:=(x0.getD i (0:Int))
abbrev B4b:List PSh:=[.t W3]
abbrev A7K:SS:=⟨(.t false W3::.junk::.junk::.all 0 1::tI::C74),[.rows 3 true (.int .i64)]⟩
abbrev B3x:SS:=⟨(.junk::.junk::.junk::.all 0 1::C6f),[.rows 3 true (.int .i64)]⟩
noncomputable def B5B (x0:List Int) (x4:Int) (h0:List Int):RT A7K.den:=(.br (decide (x4<(x0.length:Int))) (.br (decide (0≤x4∧x4<(x0.length:Int))) (.br (decide (0≤x4∧x4<(h0.length:Int))) (.next ((x0,(),(),(),wI (x4+(1:Int)),u18),(h0.set x4.toNat (x0.getD x4.toNat (0:Int)),()))) .fail) .fail) (.done (.exit 0) B3x ((u23),(h0,()))))
noncomputable def B0O (x0:List Int) (x4:Int) (h0:List Int):CT:=(.br (decide (0≤x4)&&(decide (h0.length=x0.length)&&okL x0)) (.done (.exit 0) B3x ((u23),((foldN (fun i h=>h.set i (B3g x0 i)) (x0.length - x4.toNat) x4.toNat h0),()))) .fail)
noncomputable abbrev A8j:A7K.den→RT A7K.den:=(fun d=>B5B d.1.1 d.1.2.2.2.2.1 d.2.1)
noncomputable abbrev B96 (x0:List Int) (x4:Int) (h0:List Int):A7K.den:=((x0,(),(),(),x4,u18),(h0,()))
noncomputable def B6w:Code:=((C9 0 (A0N Try.f123)).getD 0 (0,.skip)).2
theorem C5O (x0:List Int) (x4:Int) (h0:List Int):(B0O x0 x4 h0).val (D:=A7K.den)=.fail∨Runs A8j (B96 x0 x4 h0) (B0O x0 x4 h0).val:=by
 cases hc:(decide (0≤x4)&&(decide (h0.length=x0.length)&&okL x0)) with
 | false=>left;simp only [B0O,CT.val,hc,cond_false]
 | true =>
  right
  simp only [B0O,CT.val,hc,cond_true]
  simp only [Bool.and_eq_true,decide_eq_true_eq] at hc
  obtain ⟨i,rfl⟩:=Int.eq_ofNat_of_zero_le hc.1
  have hs:=A7g hc.2.2
  simp only [Int.toNat_natCast]
  refine Runs.foldN (step:=A8j) (fun j b=>B96 x0 (j:Int) b) (fun _ b=>b.length=x0.length) (x0.length) (fun i h=>h.set i (B3g x0 i))
   (fin:=fun b=>((.done (.exit 0) B3x ((u23),(b,()))):CT).val) (fun i b hi hb=>⟨by simpa using hb,?_⟩) (fun i b hi hb=>?_) (x0.length - i) i h0 rfl hc.2.1
  ·
   have h0a:decide ((i:Int)<(x0.length:Int))=true:=decide_eq_true (by omega)
   have h0b:decide (0≤(i:Int)∧(i:Int)<(x0.length:Int))=true:=decide_eq_true (by omega)
   have h9:decide (0≤(i:Int)∧(i:Int)<(b.length:Int))=true:=decide_eq_true (by omega)
   simp only [A8j,B5B,RT.val,h0a,h0b,h9,cond_true,A7o i (by omega),Int.toNat_natCast]
   rfl
  ·have h1:decide ((i:Int)<(x0.length:Int))=false:=decide_eq_false (by omega)
   exact ⟨by simp only [A8j,B5B,RT.val,h1,cond_false];rfl,_,_,_,rfl,by simp⟩
theorem C3T:RdA G9 aLn 0 B6w A7K 0 [] (kepts [] [(0,[3])]) (fun d=>(A8j d).opt 0 []):=by
 intro d
 kernel_rfl
noncomputable abbrev B8D:St→Option Tree:=A7K.say 0 [] [] (fun d=>B0O d.1.1 d.1.2.2.2.2.1 d.2.1)
theorem C45:aPL B8D B6w:=SS.wp2 hlz [] A8j C3T (fun d=>rfl) _ (fun d=>C5O d.1.1 d.1.2.2.2.2.1 d.2.1)
noncomputable def C16 (a0:List Int):List Int:=(foldN (fun i h=>h.set i (B3g a0 i)) (a0.length - (0:Int).toNat) (0:Int).toNat (List.replicate (a0.length:Int).toNat (0:Int)))
noncomputable abbrev C4f (r:List Int):AV×List AObj:=((.all 0 1),[(.rows 3 true (.int .i64) r)])
noncomputable abbrev C0E:H6 B4b→AV×List AObj:=fun d=>C4f (C16 d.1)
noncomputable def B1U (a0:List Int):Bool:=okL a0
noncomputable abbrev B66:H6 B4b→Bool:=fun d=>B1U d.1
noncomputable abbrev C7N:Nat→St→Option Tree:=fun b=>match b with | 0=>B8D | _=>fun _=>none
theorem C6A:A7s false G9 (C7N) Try.f123 B4b B66 C0E:=by
 rintro ⟨a0,_⟩ hp
 change B1U a0=true at hp
 unfold B1U at hp
 refine Eq.trans (b:=(cond (decide (0≤(a0.length:Int)∧(a0.length:Int)=(a0.length:Int)∧(a0.length:Int).toNat*8≤MAXB∧(a0.length:Int)≤9223372036854775807)) (cond (decide (0≤(0:Int))&&(decide ((List.replicate (a0.length:Int).toNat (0:Int)).length=a0.length)&&okL a0)) (some (C4f (foldN (fun i h=>h.set i (B3g a0 i)) (a0.length - (0:Int).toNat) (0:Int).toNat (List.replicate (a0.length:Int).toNat (0:Int))))) none) none)) (by kernel_rfl) ?_
 exact (A7v (by first | rfl | decide | exact hp | (simp only [Bool.and_eq_true] at hp;simp only [hp];done) | (simp [*];done) | (simp [okL] at hp;simp [okL,MAXB];omega) | (simp_all;done) | (simp at *;omega)) (fun _h=>(A7v (by first | rfl | decide | exact hp | (simp only [Bool.and_eq_true] at hp;simp only [hp];done) | (simp [*];done) | (simp [okL] at hp;simp [okL,MAXB];omega) | (simp_all;done) | (simp at *;omega)) (fun _h=>rfl))))
theorem C7Z:aPP 123 (A2W B4b B66 C0E):=pcD false G9 (hl1 (i:=0) (by kernel_rfl) C45) C6A
noncomputable def S10:Tab:=Tab.add S9 123 (lift (A2W B4b B66 C0E))
noncomputable def C9J:FuncId→Bool:=QF9
theorem G10:aPG S10 C9J:=G9.add C7Z (cbl Try.f123) (by kernel_rfl)

abbrev B6k:List PSh:=[.agg [(.int .i64),tq5,(.int .i64),W3]]
noncomputable def C4Z (a0:Int) (a1:Lq1) (a2:Int) (a3:List Int):Int×Int×Lq1×List Int:=(a0,a2,(C40 a1),(C16 a3))
noncomputable abbrev C6a (r:Int×Int×Lq1×List Int):AV×List AObj:=((.agg [(ti r.1),(.all 0 3),(ti r.2.1),(.all 1 1)]),[(.rows 90 true tq7 r.2.2.1),(.rows 3 true (.int .i64) r.2.2.2)])
noncomputable abbrev C2w:H6 B6k→AV×List AObj:=fun d=>C6a (C4Z d.1.1 d.1.2.1 d.1.2.2.1 d.1.2.2.2.1)
noncomputable def B2M (a0:Int) (a1:Lq1) (a2:Int) (a3:List Int):Bool:=(B4A a1)&&(B1U a3)
noncomputable abbrev B9b:H6 B6k→Bool:=fun d=>B2M d.1.1 d.1.2.1 d.1.2.2.1 d.1.2.2.2.1
theorem C7s:A7s false G10 aLn Try.f89 B6k B9b C2w:=by
 rintro ⟨⟨a0,⟨a1,⟨a2,⟨a3,_⟩⟩⟩⟩,_⟩ hp
 change B2M a0 a1 a2 a3=true at hp
 unfold B2M at hp
 refine Eq.trans (b:=(cond (B4A a1) (cond (B1U a3) (some (C6a (a0,a2,(C40 a1),(C16 a3)))) none) none)) (by kernel_rfl) ?_
 exact (A7t hp fun hp=>(A7v hp fun _h=>rfl))
theorem C8w:aPP 89 (A2W B6k B9b C2w):=pcD false G10 hlz C7s
noncomputable def S11:Tab:=Tab.add S10 89 (lift (A2W B6k B9b C2w))
noncomputable def C9K:FuncId→Bool:=C9J
theorem G11:aPG S11 C9K:=G10.add C8w (cbl Try.f89) (by kernel_rfl)

abbrev tq3:Ty:=.pair (.int .i64) (.pair (.sl (.pair (.int .i64) (.pair .str .str))) (.pair (.int .i64) (.sl (.int .i64))))
abbrev B4c:List PSh:=[.t tq2]
abbrev A7L:SS:=⟨(.t false tq2::.junk::.junk::.all 0 4::tI::C6f),[.deep 48 [90,3] tq3]⟩
abbrev B77:SS:=⟨(.junk::.junk::.junk::.all 0 4::C8D),[.deep 48 [90,3] tq3]⟩
noncomputable def C0r (x0:LT1) (x4:Int) (h0:LT1):RT A7L.den:=let z1:=x0.getD x4.toNat ((0:Int),([],((0:Int),[])));let z2:=C4Z (z1.1) ((z1.2).1) (((z1.2).2).1) (((z1.2).2).2);(.br (decide (x4<(x0.length:Int))) (.br (decide (0≤x4∧x4<(x0.length:Int))) (.br (B2M (z1.1) ((z1.2).1) (((z1.2).2).1) (((z1.2).2).2)) (.br (decide (0≤x4∧x4<(h0.length:Int))) (.next ((x0,(),(),(),wI (x4+(1:Int)),u19),(h0.set x4.toNat ((z2.1),((z2.2.2.1),((z2.2.1),(z2.2.2.2)))),()))) .fail) .fail) .fail) (.done (.exit 0) B77 ((u24),(h0,()))))
abbrev B0P:=LT1×(Int)×LT1
abbrev A81:=Nat×LT1
def B1H:A81:=(99,([]:LT1))
noncomputable def B1M (x0:LT1) (x4:Int) (h0:LT1):B0P ⊕ A81:=let z1:=x0.getD x4.toNat ((0:Int),([],((0:Int),[])));let z2:=C4Z (z1.1) ((z1.2).1) (((z1.2).2).1) (((z1.2).2).2);(cond (decide (x4<(x0.length:Int))) (cond (decide (0≤x4∧x4<(x0.length:Int))) (cond (B2M (z1.1) ((z1.2).1) (((z1.2).2).1) (((z1.2).2).2)) (cond (decide (0≤x4∧x4<(h0.length:Int))) (.inl (x0,wI (x4+(1:Int)),h0.set x4.toNat ((z2.1),((z2.2.2.1),((z2.2.1),(z2.2.2.2)))))) (.inr B1H)) (.inr B1H)) (.inr B1H)) (.inr (0,h0)))
noncomputable def A9K (x0:LT1) (x4:Int) (h0:LT1):A81:=itX (fun v:B0P=>B1M v.1 v.2.1 v.2.2) B1H (x0,x4,h0)
noncomputable def B4T (a:A81):CT:=(.br (a.1==0) (.done (.exit 0) B77 ((u24),(a.2,()))) .fail)
noncomputable def C5R (x0:LT1) (x4:Int) (h0:LT1):CT:=B4T (A9K x0 x4 h0)
noncomputable abbrev B5x:A7L.den→RT A7L.den:=(fun d=>C0r d.1.1 d.1.2.2.2.2.1 d.2.1)
noncomputable def B6x:Code:=((C9 0 (A0N Try.f45)).getD 0 (0,.skip)).2
noncomputable abbrev C0a (v:B0P):A7L.den:=((v.1,(),(),(),v.2.1,u19),(v.2.2,()))
theorem C5l:(∀ v:B0P,(C0r v.1 v.2.1 v.2.2).val=A6u C0a B4T (B1M v.1 v.2.1 v.2.2))∧∀ a:A81,CEnd A7L.den (B4T a):=⟨fun v=>(A7x (A7x (A7x (A7x rfl rfl) rfl) rfl) rfl),fun a=>(A7k aCD A7m)⟩
theorem C3U:RdA (G11.deep ow) aLn 0 B6x A7L 0 [] (kepts [] [(0,[3])]) (fun d=>(B5x d).opt 0 []):=by
 intro d
 kernel_rfl
noncomputable abbrev B8E:St→Option Tree:=A7L.say 0 [] [] (fun d=>C5R d.1.1 d.1.2.2.2.2.1 d.2.1)
theorem C46:aPL B8E B6x:=SS.wp2 hlz [] B5x C3U (fun d=>rfl) _ (fun d=>Runs.ofI2 (step:=B5x) C0a C5l rfl (d.1.1,d.1.2.2.2.2.1,d.2.1))
noncomputable def B9X (a0:LT1):LT1:=((A9K a0 (0:Int) (List.replicate (a0.length:Int).toNat ((0:Int),([],((0:Int),[]))))).2)
noncomputable abbrev C4g (r:LT1):AV×List AObj:=((.all 0 4),[(.deep 48 [90,3] tq3 r)])
noncomputable abbrev C0F:H6 B4c→AV×List AObj:=fun d=>C4g (B9X d.1)
noncomputable def B0l (a0:LT1):Bool:=(decide (0≤(a0.length:Int)∧(a0.length:Int)=(a0.length:Int)∧(a0.length:Int).toNat*64≤MAXB∧(a0.length:Int)≤9223372036854775807))&&((A9K a0 (0:Int) (List.replicate (a0.length:Int).toNat ((0:Int),([],((0:Int),[]))))).1==0)
noncomputable abbrev B67:H6 B4c→Bool:=fun d=>B0l d.1
noncomputable abbrev C7O:Nat→St→Option Tree:=fun b=>match b with | 0=>B8E | _=>fun _=>none
theorem C6B:A7s false (G11.deep ow) (C7O) Try.f45 B4c B67 C0F:=by
 rintro ⟨a0,_⟩ hp
 change B0l a0=true at hp
 unfold B0l at hp
 refine Eq.trans (b:=(let z1:=A9K a0 (0:Int) (List.replicate (a0.length:Int).toNat ((0:Int),([],((0:Int),[]))));cond (decide (0≤(a0.length:Int)∧(a0.length:Int)=(a0.length:Int)∧(a0.length:Int).toNat*64≤MAXB∧(a0.length:Int)≤9223372036854775807)) (cond (z1.1==0) (some (C4g (z1.2))) none) none)) (by kernel_rfl) ?_
 exact (A7t hp fun hp=>(A7v hp fun _h=>rfl))
theorem C70:aPP 45 (A2W B4c B67 C0F):=pcD false (G11.deep ow) (hl1 (i:=0) (by kernel_rfl) C46) C6B
noncomputable def S12:Tab:=Tab.add S11 45 (lift (A2W B4c B67 C0F))
noncomputable def C9L:FuncId→Bool:=C9K
theorem G12:aPG S12 C9L:=G11.add C70 (cbl Try.f45) (by kernel_rfl)

abbrev B0K:List PSh:=[.agg [(.int .i64),.bool]]
noncomputable def B0g (a0:Int) (a1:Bool):Int×Bool:=(a0,a1)
noncomputable abbrev C59 (r:Int×Bool):AV×List AObj:=((.agg [(ti r.1),(.t true .bool r.2)]),[])
noncomputable abbrev B6N:H6 B0K→AV×List AObj:=fun d=>C59 (B0g d.1.1 d.1.2.1)
noncomputable abbrev B3P:H6 B0K→Bool:=fun d=>true
theorem C39:A7s true G12 aLn Try.f90 B0K B3P B6N:=by
 rintro ⟨⟨a0,⟨a1,_⟩⟩,_⟩ hp
 kernel_rfl
theorem C51:aPP 90 (A2W B0K B3P B6N):=pcD true G12 hlz C39
noncomputable def S13:Tab:=Tab.add S12 90 (lift (A2W B0K B3P B6N))
noncomputable def C9M:FuncId→Bool:=qadd C9L 90
theorem G13:aPG S13 C9M:=G12.addQ C51 (cbl Try.f90) (fun _=>rfl)

abbrev W2:Ty:=.pair (.int .i64) .bool
noncomputable def A9A (x0:LIbe) (i:Nat):Int×Bool:=(((B0g ((x0.getD i ((0:Int),false)).1) ((x0.getD i ((0:Int),false)).2)).1),((B0g ((x0.getD i ((0:Int),false)).1) ((x0.getD i ((0:Int),false)).2)).2))
abbrev A9o:List PSh:=[.t tq4]
abbrev T4:SS:=⟨(.t false tq4::.junk::.junk::.all 0 2::tI::C6f),[.rows 43 true W2]⟩
abbrev B0c:SS:=⟨(.junk::.junk::.junk::.all 0 2::C8D),[.rows 43 true W2]⟩
noncomputable def B1m (x0:LIbe) (x4:Int) (h0:LIbe):RT T4.den:=let z1:=x0.getD x4.toNat ((0:Int),false);let z2:=B0g (z1.1) (z1.2);(.br (decide (x4<(x0.length:Int))) (.br (decide (0≤x4∧x4<(x0.length:Int))) (.br (decide (0≤x4∧x4<(h0.length:Int))) (.next ((x0,(),(),(),wI (x4+(1:Int)),u19),(h0.set x4.toNat ((z2.1),(z2.2)),()))) .fail) .fail) (.done (.exit 0) B0c ((u24),(h0,()))))
noncomputable def A7P (x0:LIbe) (x4:Int) (h0:LIbe):CT:=(.br (decide (0≤x4)&&(decide (h0.length=x0.length)&&okL x0)) (.done (.exit 0) B0c ((u24),((foldN (fun i h=>h.set i (A9A x0 i)) (x0.length - x4.toNat) x4.toNat h0),()))) .fail)
noncomputable abbrev U8:T4.den→RT T4.den:=(fun d=>B1m d.1.1 d.1.2.2.2.2.1 d.2.1)
noncomputable abbrev B5R (x0:LIbe) (x4:Int) (h0:LIbe):T4.den:=((x0,(),(),(),x4,u19),(h0,()))
noncomputable def B27:Code:=((C9 0 (A0N Try.f46)).getD 0 (0,.skip)).2
theorem C2b (x0:LIbe) (x4:Int) (h0:LIbe):(A7P x0 x4 h0).val (D:=T4.den)=.fail∨Runs U8 (B5R x0 x4 h0) (A7P x0 x4 h0).val:=by
 cases hc:(decide (0≤x4)&&(decide (h0.length=x0.length)&&okL x0)) with
 | false=>left;simp only [A7P,CT.val,hc,cond_false]
 | true =>
  right
  simp only [A7P,CT.val,hc,cond_true]
  simp only [Bool.and_eq_true,decide_eq_true_eq] at hc
  obtain ⟨i,rfl⟩:=Int.eq_ofNat_of_zero_le hc.1
  have hs:=A7g hc.2.2
  simp only [Int.toNat_natCast]
  refine Runs.foldN (step:=U8) (fun j b=>B5R x0 (j:Int) b) (fun _ b=>b.length=x0.length) (x0.length) (fun i h=>h.set i (A9A x0 i))
   (fin:=fun b=>((.done (.exit 0) B0c ((u24),(b,()))):CT).val) (fun i b hi hb=>⟨by simpa using hb,?_⟩) (fun i b hi hb=>?_) (x0.length - i) i h0 rfl hc.2.1
  ·
   have h0a:decide ((i:Int)<(x0.length:Int))=true:=decide_eq_true (by omega)
   have h0b:decide (0≤(i:Int)∧(i:Int)<(x0.length:Int))=true:=decide_eq_true (by omega)
   have h9:decide (0≤(i:Int)∧(i:Int)<(b.length:Int))=true:=decide_eq_true (by omega)
   simp only [U8,B1m,RT.val,h0a,h0b,h9,cond_true,A7o i (by omega),Int.toNat_natCast]
   rfl
  ·have h1:decide ((i:Int)<(x0.length:Int))=false:=decide_eq_false (by omega)
   exact ⟨by simp only [U8,B1m,RT.val,h1,cond_false];rfl,_,_,_,rfl,by simp⟩
theorem C0X:RdA G13 aLn 0 B27 T4 0 [] (kepts [] [(0,[3])]) (fun d=>(U8 d).opt 0 []):=by
 intro d
 kernel_rfl
noncomputable abbrev B4H:St→Option Tree:=T4.say 0 [] [] (fun d=>A7P d.1.1 d.1.2.2.2.2.1 d.2.1)
theorem C1N:aPL B4H B27:=SS.wp2 hlz [] U8 C0X (fun d=>rfl) _ (fun d=>C2b d.1.1 d.1.2.2.2.2.1 d.2.1)
noncomputable def B5i (a0:LIbe):LIbe:=(foldN (fun i h=>h.set i (A9A a0 i)) (a0.length - (0:Int).toNat) (0:Int).toNat (List.replicate (a0.length:Int).toNat ((0:Int),false)))
noncomputable abbrev B9O (r:LIbe):AV×List AObj:=((.all 0 2),[(.rows 43 true W2 r)])
noncomputable abbrev B46:H6 A9o→AV×List AObj:=fun d=>B9O (B5i d.1)
noncomputable def A8h (a0:LIbe):Bool:=okL a0
noncomputable abbrev B2J:H6 A9o→Bool:=fun d=>A8h d.1
noncomputable abbrev C4p:Nat→St→Option Tree:=fun b=>match b with | 0=>B4H | _=>fun _=>none
theorem C3j:A7s false G13 (C4p) Try.f46 A9o B2J B46:=by
 rintro ⟨a0,_⟩ hp
 change A8h a0=true at hp
 unfold A8h at hp
 refine Eq.trans (b:=(cond (decide (0≤(a0.length:Int)∧(a0.length:Int)=(a0.length:Int)∧(a0.length:Int).toNat*16≤MAXB∧(a0.length:Int)≤9223372036854775807)) (cond (decide (0≤(0:Int))&&(decide ((List.replicate (a0.length:Int).toNat ((0:Int),false)).length=a0.length)&&okL a0)) (some (B9O (foldN (fun i h=>h.set i (A9A a0 i)) (a0.length - (0:Int).toNat) (0:Int).toNat (List.replicate (a0.length:Int).toNat ((0:Int),false))))) none) none)) (by kernel_rfl) ?_
 exact (A7v (by first | rfl | decide | exact hp | (simp only [Bool.and_eq_true] at hp;simp only [hp];done) | (simp [*];done) | (simp [okL] at hp;simp [okL,MAXB];omega) | (simp_all;done) | (simp at *;omega)) (fun _h=>(A7v (by first | rfl | decide | exact hp | (simp only [Bool.and_eq_true] at hp;simp only [hp];done) | (simp [*];done) | (simp [okL] at hp;simp [okL,MAXB];omega) | (simp_all;done) | (simp at *;omega)) (fun _h=>rfl))))
theorem C4G:aPP 46 (A2W A9o B2J B46):=pcD false G13 (hl1 (i:=0) (by kernel_rfl) C1N) C3j
noncomputable def S14:Tab:=Tab.add S13 46 (lift (A2W A9o B2J B46))
noncomputable def C9N:FuncId→Bool:=C9M
theorem G14:aPG S14 C9N:=G13.add C4G (cbl Try.f46) (by kernel_rfl)

abbrev B19:List PSh:=[.agg [(.int .i64),(.int .i64),(.int .i64),tq2,tq4,(.int .i64)]]
noncomputable def A9P (a0 a1 a2:Int) (a3:LT1) (a4:LIbe) (a5:Int):Int×Int×Int×Int×LT1×LIbe:=(a0,a1,a2,a5,(B9X a3),(B5i a4))
noncomputable abbrev C2m (r:Int×Int×Int×Int×LT1×LIbe):AV×List AObj:=((.agg [(ti r.1),(ti r.2.1),(ti r.2.2.1),(.all 0 4),(.all 1 2),(ti r.2.2.2.1)]),[(.deep 48 [90,3] tq3 r.2.2.2.2.1),(.rows 43 true W2 r.2.2.2.2.2)])
noncomputable abbrev B80:H6 B19→AV×List AObj:=fun d=>C2m (A9P d.1.1 d.1.2.1 d.1.2.2.1 d.1.2.2.2.1 d.1.2.2.2.2.1 d.1.2.2.2.2.2.1)
noncomputable def A8X (a0 a1 a2:Int) (a3:LT1) (a4:LIbe) (a5:Int):Bool:=(B0l a3)&&(A8h a4)
noncomputable abbrev B5p:H6 B19→Bool:=fun d=>A8X d.1.1 d.1.2.1 d.1.2.2.1 d.1.2.2.2.1 d.1.2.2.2.2.1 d.1.2.2.2.2.2.1
theorem C5u:A7s false G14 aLn Try.f15 B19 B5p B80:=by
 rintro ⟨⟨a0,⟨a1,⟨a2,⟨a3,⟨a4,⟨a5,_⟩⟩⟩⟩⟩⟩,_⟩ hp
 change A8X a0 a1 a2 a3 a4 a5=true at hp
 unfold A8X at hp
 refine Eq.trans (b:=(cond (B0l a3) (cond (A8h a4) (some (C2m (a0,a1,a2,a5,(B9X a3),(B5i a4)))) none) none)) (by kernel_rfl) ?_
 exact (A7t hp fun hp=>(A7v hp fun _h=>rfl))
theorem C65:aPP 15 (A2W B19 B5p B80):=pcD false G14 hlz C5u
noncomputable def S15:Tab:=Tab.add S14 15 (lift (A2W B19 B5p B80))
noncomputable def C9O:FuncId→Bool:=C9N
theorem G15:aPG S15 C9O:=G14.add C65 (cbl Try.f15) (by kernel_rfl)

abbrev A9q:List PSh:=[.t tq5]
noncomputable def B0n (a0:Lq1):Lq1:=(([]:Lq1)++a0)
noncomputable abbrev B9R (r:Lq1):AV×List AObj:=((.t true tq5 r),[])
noncomputable abbrev B48:H6 A9q→AV×List AObj:=fun d=>B9R (B0n d.1)
noncomputable def Z3 (a0:Lq1):Bool:=decide ((([]:Lq1).length+a0.length)*40≤MAXB)
noncomputable abbrev B2L:H6 A9q→Bool:=fun d=>Z3 d.1
theorem C3l:A7s true G15 aLn Try.f102 A9q B2L B48:=by
 rintro ⟨a0,_⟩ hp
 change Z3 a0=true at hp
 unfold Z3 at hp
 refine Eq.trans (b:=(cond (decide ((([]:Lq1).length+a0.length)*40≤MAXB)) (some (B9R (([]:Lq1)++a0))) none)) (by kernel_rfl) ?_
 exact (A7v hp fun _h=>rfl)
theorem C4I:aPP 102 (A2W A9q B2L B48):=pcD true G15 hlz C3l
noncomputable def S16:Tab:=Tab.add S15 102 (lift (A2W A9q B2L B48))
noncomputable def C9P:FuncId→Bool:=qadd C9O 102
theorem G16:aPG S16 C9P:=G15.addQ C4I (cbl Try.f102) (fun _=>rfl)

abbrev C9D:List Sh:=.junk::.junk::.junk::.junk::.junk::.junk::.junk::.junk::.junk::.junk::.junk::.junk::C8E
abbrev D00:List Sh:=.junk::C9D
abbrev u38:=((),(),(),(),(),(),(),(),(),(),(),(),u26)
abbrev u43:=((),(),(),(),(),u38)
abbrev C9r:List AV:=.junk::.junk::.junk::.junk::.junk::.junk::.junk::.junk::.junk::.junk::.junk::.junk::.junk::.junk::.junk::.junk::.junk::.junk::.junk::.junk::.junk::.junk::.junk::.junk::.junk::.junk::.junk::.junk::.junk::.junk::.junk::.junk::.junk::.junk::.junk::.junk::.junk::[]
abbrev D0Q:List AV:=.junk::C9r
abbrev B2c:List PSh:=[.agg [(.int .i64),(.int .i64),(.int .i64),tq2,tq4,(.int .i64)]]
abbrev Q6:SS:=⟨(.junk::.ptr 0 0 1 0::.ptr 1 0 1 0::.ptr 2 0 1 0::tI::C9D),[.box [tI,tI,tI,.t false tq2,.t false tq4,tI],.box [tI,tI,tI,.nil,.nil,tI],.box [tI,tI,tI,.all 3 4,.all 4 2,tI],.rows 48 true tq3,.rows 43 true W2]⟩
abbrev B6d:SS:=⟨(.junk::.junk::.ptr 0 0 1 0::.ptr 1 0 1 0::D00),[.box [tI,tI,tI,.nil,.nil,tI],.box [tI,tI,tI,.all 2 4,.all 3 2,tI],.rows 48 true tq3,.rows 43 true W2]⟩
noncomputable def B8L (x4 p0 p1 p2:Int) (p3:LT1) (p4:LIbe) (p5 q0 q1 q2 q5 r0 r1 r2 r5:Int) (h3:LT1) (h4:LIbe):RT Q6.den:=let z1:=p3.getD x4.toNat ((0:Int),([],((0:Int),[])));let z2:=([]:List Int);let z3:=B0n ((z1.2).1);(.br (decide (x4<(p3.length:Int))) (.br (decide (0≤x4∧x4<(p3.length:Int))) (.br (Z3 ((z1.2).1)) (.br (decide ((z2.length+(((z1.2).2).2).length)*8≤MAXB)) (.br (decide ((h3.length+([(z1.1,(z3,(((z1.2).2).1,z2++(((z1.2).2).2))))]:LT1).length)*64≤MAXB)) (.next (((),(),(),(),wI (x4+(1:Int)),u38),((p0,p1,p2,p3,p4,p5,()),(q0,q1,q2,(),(),q5,()),(r0,r1,r2,(),(),r5,()),h3++([(z1.1,(z3,(((z1.2).2).1,z2++(((z1.2).2).2))))]),h4,()))) .fail) .fail) .fail) .fail) (.done (.exit 0) B6d ((u43),((q0,q1,q2,(),(),q5,()),(r0,r1,r2,(),(),r5,()),h3,h4,()))))
abbrev A9u:=(Int)×LT1×(LIbe)
abbrev A78:=Nat×LT1×(LIbe)
def A8x:A78:=(99,([]:LT1),([]:LIbe))
noncomputable def B0D (x4 p0 p1 p2:Int) (p3:LT1) (p4:LIbe) (p5 q0 q1 q2 q5 r0 r1 r2 r5:Int) (h3:LT1) (h4:LIbe):A9u ⊕ A78:=let z1:=p3.getD x4.toNat ((0:Int),([],((0:Int),[])));let z2:=([]:List Int);let z3:=B0n ((z1.2).1);(cond (decide (x4<(p3.length:Int))) (cond (decide (0≤x4∧x4<(p3.length:Int))) (cond (Z3 ((z1.2).1)) (cond (decide ((z2.length+(((z1.2).2).2).length)*8≤MAXB)) (cond (decide ((h3.length+([(z1.1,(z3,(((z1.2).2).1,z2++(((z1.2).2).2))))]:LT1).length)*64≤MAXB)) (.inl (wI (x4+(1:Int)),h3++([(z1.1,(z3,(((z1.2).2).1,z2++(((z1.2).2).2))))]),h4)) (.inr A8x)) (.inr A8x)) (.inr A8x)) (.inr A8x)) (.inr (0,h3,h4)))
noncomputable def B3J (x4 p0 p1 p2:Int) (p3:LT1) (p4:LIbe) (p5 q0 q1 q2 q5 r0 r1 r2 r5:Int) (h3:LT1) (h4:LIbe):A78:=itX (fun v:A9u=>B0D v.1 p0 p1 p2 p3 p4 p5 q0 q1 q2 q5 r0 r1 r2 r5 v.2.1 v.2.2) A8x (x4,h3,h4)
noncomputable def B3D (p0 p1 p2:Int) (p3:LT1) (p4:LIbe) (p5 q0 q1 q2 q5 r0 r1 r2 r5:Int) (a:A78):CT:=(.br (a.1==0) (.done (.exit 0) B6d ((u43),((q0,q1,q2,(),(),q5,()),(r0,r1,r2,(),(),r5,()),a.2.1,a.2.2,()))) .fail)
noncomputable def C4x (x4 p0 p1 p2:Int) (p3:LT1) (p4:LIbe) (p5 q0 q1 q2 q5 r0 r1 r2 r5:Int) (h3:LT1) (h4:LIbe):CT:=(B3D p0 p1 p2 p3 p4 p5 q0 q1 q2 q5 r0 r1 r2 r5) (B3J x4 p0 p1 p2 p3 p4 p5 q0 q1 q2 q5 r0 r1 r2 r5 h3 h4)
noncomputable abbrev B0v {α:Sort _} (f:Int→Int→Int→Int→LT1→LIbe→Int→Int→Int→Int→Int→Int→Int→Int→Int→LT1→LIbe→α) (d:Q6.den):α:=f d.1.2.2.2.2.1 d.2.1.1 d.2.1.2.1 d.2.1.2.2.1 d.2.1.2.2.2.1 d.2.1.2.2.2.2.1 d.2.1.2.2.2.2.2.1 d.2.2.1.1 d.2.2.1.2.1 d.2.2.1.2.2.1 d.2.2.1.2.2.2.2.2.1 d.2.2.2.1.1 d.2.2.2.1.2.1 d.2.2.2.1.2.2.1 d.2.2.2.1.2.2.2.2.2.1 d.2.2.2.2.1 d.2.2.2.2.2.1
noncomputable abbrev B3W:Q6.den→RT Q6.den:=(B0v B8L)
noncomputable def B5K:Code:=((C9 0 (A0N Try.f62)).getD 0 (0,.skip)).2
noncomputable abbrev B8y (p0 p1 p2:Int) (p3:LT1) (p4:LIbe) (p5 q0 q1 q2 q5 r0 r1 r2 r5:Int) (v:A9u):Q6.den:=(((),(),(),(),v.1,u38),((p0,p1,p2,p3,p4,p5,()),(q0,q1,q2,(),(),q5,()),(r0,r1,r2,(),(),r5,()),v.2.1,v.2.2,()))
theorem C31 (p0 p1 p2:Int) (p3:LT1) (p4:LIbe) (p5 q0 q1 q2 q5 r0 r1 r2 r5:Int):(∀ v:A9u,(B8L v.1 p0 p1 p2 p3 p4 p5 q0 q1 q2 q5 r0 r1 r2 r5 v.2.1 v.2.2).val=A6u (B8y p0 p1 p2 p3 p4 p5 q0 q1 q2 q5 r0 r1 r2 r5) (B3D p0 p1 p2 p3 p4 p5 q0 q1 q2 q5 r0 r1 r2 r5) (B0D v.1 p0 p1 p2 p3 p4 p5 q0 q1 q2 q5 r0 r1 r2 r5 v.2.1 v.2.2))∧∀ a:A78,CEnd Q6.den ((B3D p0 p1 p2 p3 p4 p5 q0 q1 q2 q5 r0 r1 r2 r5) a):=⟨fun v=>(A7x (A7x (A7x (A7x (A7x rfl rfl) rfl) rfl) rfl) rfl),fun a=>(A7k aCD A7m)⟩
noncomputable def B8o (x4 p0 p1 p2:Int) (p3:LT1) (p4:LIbe) (p5 q0 q1 q2 q5 r0 r1 r2 r5:Int) (h3:LT1) (h4:LIbe):Option (Ex×St):=let z1:=p3.getD x4.toNat ((0:Int),([],((0:Int),[])));let z2:=([]:List Int);let z3:=B0n ((z1.2).1);(cond (decide (x4<(p3.length:Int))) (cond (decide (0≤x4∧x4<(p3.length:Int))) (cond (Z3 ((z1.2).1)) (cond (decide ((z2.length+(((z1.2).2).2).length)*8≤MAXB)) (cond (decide ((h3.length+([(z1.1,(z3,(((z1.2).2).1,z2++(((z1.2).2).2))))]:LT1).length)*64≤MAXB)) (some (.normal,(⟨(.junk::(.ptr 0 0 1 0)::(.ptr 1 0 1 0)::(.ptr 2 0 1 0)::(ti (wI (x4+(1:Int))))::C9r),[(.box [(ti p0),(ti p1),(ti p2),(.t false tq2 p3),(.t false tq4 p4),(ti p5)]),(.box [(ti q0),(ti q1),(ti q2),(.raw (.slice none 0 0)),(.raw (.slice none 0 0)),(ti q5)]),(.box [(ti r0),(ti r1),(ti r2),(.all 3 4),(.all 4 2),(ti r5)]),(.rows 48 true tq3 (h3++([(z1.1,(z3,(((z1.2).2).1,z2++(((z1.2).2).2))))]))),(.rows 43 true W2 h4)],0,[]⟩:St))) none) none) none) none) (some ((.exit 0),(⟨(.junk::.junk::(.ptr 0 0 1 0)::(.ptr 1 0 1 0)::D0Q),[(.box [(ti q0),(ti q1),(ti q2),(.raw (.slice none 0 0)),(.raw (.slice none 0 0)),(ti q5)]),(.box [(ti r0),(ti r1),(ti r2),(.all 2 4),(.all 3 2),(ti r5)]),(.rows 48 true tq3 h3),(.rows 43 true W2 h4)],0,[]⟩:St))))
theorem C20:RdA G16 aLn 0 B5K Q6 0 [] (kepts [] [(0,[2,3])]) (B0v B8o):=by
 intro d
 kernel_rfl
theorem C27:∀ d:Q6.den,(B0v B8o) d=(B3W d).opt 0 []:=by
 intro d
 kernel_rfl
noncomputable abbrev B7p:St→Option Tree:=Q6.say 0 [] [] (B0v C4x)
theorem C3N:aPL B7p B5K:=SS.wp2 hlz [] B3W C20 C27 _ (fun d=>Runs.ofI2 (step:=B3W) (B8y d.2.1.1 d.2.1.2.1 d.2.1.2.2.1 d.2.1.2.2.2.1 d.2.1.2.2.2.2.1 d.2.1.2.2.2.2.2.1 d.2.2.1.1 d.2.2.1.2.1 d.2.2.1.2.2.1 d.2.2.1.2.2.2.2.2.1 d.2.2.2.1.1 d.2.2.2.1.2.1 d.2.2.2.1.2.2.1 d.2.2.2.1.2.2.2.2.2.1) (C31 d.2.1.1 d.2.1.2.1 d.2.1.2.2.1 d.2.1.2.2.2.1 d.2.1.2.2.2.2.1 d.2.1.2.2.2.2.2.1 d.2.2.1.1 d.2.2.1.2.1 d.2.2.1.2.2.1 d.2.2.1.2.2.2.2.2.1 d.2.2.2.1.1 d.2.2.2.1.2.1 d.2.2.2.1.2.2.1 d.2.2.2.1.2.2.2.2.2.1) rfl (d.1.2.2.2.2.1,d.2.2.2.2.1,d.2.2.2.2.2.1))
noncomputable def B3l (a0 a1 a2:Int) (a3:LT1) (a4:LIbe) (a5:Int):=B3J (0:Int) a0 a1 a2 a3 a4 a5 (0:Int) (0:Int) (0:Int) (0:Int) a0 a1 a2 a5 ([]:LT1) (([]:LIbe)++a4)
noncomputable def B2Q (a0 a1 a2:Int) (a3:LT1) (a4:LIbe) (a5:Int):Int×Int×Int×Int×LT1×LIbe:=let z1:=B3l a0 a1 a2 a3 a4 a5;(a0,a1,a2,a5,(z1.2.1),(z1.2.2))
noncomputable abbrev C2n (r:Int×Int×Int×Int×LT1×LIbe):AV×List AObj:=((.agg [(ti r.1),(ti r.2.1),(ti r.2.2.1),(.all 0 4),(.all 1 2),(ti r.2.2.2.1)]),[(.rows 48 true tq3 r.2.2.2.2.1),(.rows 43 true W2 r.2.2.2.2.2)])
noncomputable abbrev B83:H6 B2c→AV×List AObj:=fun d=>C2n (B2Q d.1.1 d.1.2.1 d.1.2.2.1 d.1.2.2.2.1 d.1.2.2.2.2.1 d.1.2.2.2.2.2.1)
noncomputable def A80 (a0 a1 a2:Int) (a3:LT1) (a4:LIbe) (a5:Int):Bool:=(decide ((([]:LIbe).length+a4.length)*16≤MAXB))&&((B3l a0 a1 a2 a3 a4 a5).1==0)
noncomputable abbrev B5s:H6 B2c→Bool:=fun d=>A80 d.1.1 d.1.2.1 d.1.2.2.1 d.1.2.2.2.1 d.1.2.2.2.2.1 d.1.2.2.2.2.2.1
noncomputable abbrev C6M:Nat→St→Option Tree:=fun b=>match b with | 0=>B7p | _=>fun _=>none
theorem C5x:A7s false G16 (C6M) Try.f62 B2c B5s B83:=by
 rintro ⟨⟨a0,⟨a1,⟨a2,⟨a3,⟨a4,⟨a5,_⟩⟩⟩⟩⟩⟩,_⟩ hp
 change A80 a0 a1 a2 a3 a4 a5=true at hp
 unfold A80 at hp
 refine Eq.trans (b:=(let z1:=B3l a0 a1 a2 a3 a4 a5;cond (decide ((([]:LIbe).length+a4.length)*16≤MAXB)) (cond (z1.1==0) (some (C2n (a0,a1,a2,a5,(z1.2.1),(z1.2.2)))) none) none)) (by kernel_rfl) ?_
 exact (A7t hp fun hp=>(A7v hp fun _h=>rfl))
theorem C68:aPP 62 (A2W B2c B5s B83):=pcD false G16 (hl1 (i:=0) (by kernel_rfl) C3N) C5x
noncomputable def S17:Tab:=Tab.add S16 62 (lift (A2W B2c B5s B83))
noncomputable def C9Q:FuncId→Bool:=C9P
theorem G17:aPG S17 C9Q:=G16.add C68 (cbl Try.f62) (by kernel_rfl)

abbrev B9D:List PSh:=[.t (.int .i64),.t (.int .i64),.t (.int .i64)]
noncomputable def I8 (a0 a1 a2:Int):Bool:=(cond (decide (a0 ≥ a1)) (decide (a0≤a2)) false)
noncomputable abbrev C14 (r:Bool):AV×List AObj:=((.t true .bool r),[])
noncomputable abbrev C4R:H6 B9D→AV×List AObj:=fun d=>C14 (I8 d.1 d.2.1 d.2.2.1)
noncomputable abbrev C0T:H6 B9D→Bool:=fun d=>true
theorem C8e:A7s true G17 aLn Try.f42 B9D C0T C4R:=by
 rintro ⟨a0,⟨a1,⟨a2,_⟩⟩⟩ hp
 refine Eq.trans (b:=(cond (decide (a0 ≥ a1)) (some (C14 (decide (a0≤a2)))) (some (C14 false)))) (by kernel_rfl) ?_
 exact (O8 C14 (fun _h=>rfl) (fun _h=>rfl))
theorem C8Y:aPP 42 (A2W B9D C0T C4R):=pcD true G17 hlz C8e
noncomputable def S18:Tab:=Tab.add S17 42 (lift (A2W B9D C0T C4R))
noncomputable def C9R:FuncId→Bool:=qadd C9Q 42
theorem G18:aPG S18 C9R:=G17.addQ C8Y (cbl Try.f42) (fun _=>rfl)

abbrev C7a:List Sh:=.junk::.junk::.junk::.junk::.junk::.junk::.junk::.junk::.junk::.junk::.junk::.junk::.junk::.junk::.junk::.junk::[]
abbrev u17:=((),(),(),(),(),(),(),(),(),(),(),(),(),(),(),(),())
abbrev A9p:List PSh:=[.agg [(.int .i64),(.int .i64),(.int .i64),tq2,tq4,(.int .i64)],.t (.int .i64)]
abbrev O7:SS:=⟨(.junk::tI::.ptr 0 0 1 0::.junk::.junk::tI::C7a),[.box [tI,tI,tI,.t false tq2,.t false tq4,tI]]⟩
abbrev B34:SS:=⟨(.junk::.junk::.junk::.junk::tI::C74),[]⟩
abbrev B35:SS:=⟨(.junk::C4V),[]⟩
noncomputable def B53 (x1 x5 p0 p1 p2:Int) (p3:LT1) (p4:LIbe) (p5:Int):RT O7.den:=(.br (decide (x5<(p4.length:Int))) (.br (decide (0≤x5∧x5<(p4.length:Int))) (.br (((p4.getD x5.toNat ((0:Int),false)).1)==x1) (.done .ret B34 (((),(),(),(),x5,u18),())) (.next (((),x1,(),(),(),wI (x5+(1:Int)),u17),((p0,p1,p2,p3,p4,p5,()),())))) .fail) (.done (.exit 0) B35 ((u23),())))
abbrev A9t:=(Int)×(Int)
abbrev A7E:=Nat×(Int)
def B5M:A7E:=(99,((0:Int):Int))
noncomputable def A8K (x1 x5 p0 p1 p2:Int) (p3:LT1) (p4:LIbe) (p5:Int):A9t ⊕ A7E:=(cond (decide (x5<(p4.length:Int))) (cond (decide (0≤x5∧x5<(p4.length:Int))) (cond (((p4.getD x5.toNat ((0:Int),false)).1)==x1) (.inr (0,x5)) (.inl (x1,wI (x5+(1:Int))))) (.inr B5M)) (.inr (1,((0:Int):Int))))
noncomputable def Z8 (x1 x5 p0 p1 p2:Int) (p3:LT1) (p4:LIbe) (p5:Int):A7E:=itX (fun v:A9t=>A8K v.1 v.2 p0 p1 p2 p3 p4 p5) B5M (x1,x5)
noncomputable def B1d (p0 p1 p2:Int) (p3:LT1) (p4:LIbe) (p5:Int) (a:A7E):CT:=(.br (a.1==0) (.done .ret B34 (((),(),(),(),a.2,u18),())) (.br (a.1==1) (.done (.exit 0) B35 ((u23),())) .fail))
noncomputable def C2d (x1 x5 p0 p1 p2:Int) (p3:LT1) (p4:LIbe) (p5:Int):CT:=(B1d p0 p1 p2 p3 p4 p5) (Z8 x1 x5 p0 p1 p2 p3 p4 p5)
noncomputable abbrev B5H {α:Sort _} (f:Int→Int→Int→Int→Int→LT1→LIbe→Int→α) (d:O7.den):α:=f d.1.2.1 d.1.2.2.2.2.2.1 d.2.1.1 d.2.1.2.1 d.2.1.2.2.1 d.2.1.2.2.2.1 d.2.1.2.2.2.2.1 d.2.1.2.2.2.2.2.1
noncomputable abbrev B1k:O7.den→RT O7.den:=(B5H B53)
noncomputable def B28:Code:=((C9 0 (A0N Try.f43)).getD 0 (0,.skip)).2
noncomputable abbrev B5T (p0 p1 p2:Int) (p3:LT1) (p4:LIbe) (p5:Int) (v:A9t):O7.den:=(((),v.1,(),(),(),v.2,u17),((p0,p1,p2,p3,p4,p5,()),()))
theorem C11 (p0 p1 p2:Int) (p3:LT1) (p4:LIbe) (p5:Int):(∀ v:A9t,(B53 v.1 v.2 p0 p1 p2 p3 p4 p5).val=A6u (B5T p0 p1 p2 p3 p4 p5) (B1d p0 p1 p2 p3 p4 p5) (A8K v.1 v.2 p0 p1 p2 p3 p4 p5))∧∀ a:A7E,CEnd O7.den ((B1d p0 p1 p2 p3 p4 p5) a):=⟨fun v=>(A7x (A7x (A7x rfl rfl) rfl) rfl),fun a=>(A7k aCD (A7k aCD A7m))⟩
theorem C0Y:RdA G18 aLn 0 B28 O7 0 [] (kepts [4] [(0,[])]) (fun d=>(B1k d).opt 0 []):=by
 intro d
 kernel_rfl
noncomputable abbrev B4I:St→Option Tree:=O7.say 0 [] [] (B5H C2d)
theorem C1O:aPL B4I B28:=SS.wp2 hlz [] B1k C0Y (fun d=>rfl) _ (fun d=>Runs.ofI2 (step:=B1k) (B5T d.2.1.1 d.2.1.2.1 d.2.1.2.2.1 d.2.1.2.2.2.1 d.2.1.2.2.2.2.1 d.2.1.2.2.2.2.2.1) (C11 d.2.1.1 d.2.1.2.1 d.2.1.2.2.1 d.2.1.2.2.2.1 d.2.1.2.2.2.2.1 d.2.1.2.2.2.2.2.1) rfl (d.1.2.1,d.1.2.2.2.2.2.1))
noncomputable def Z4 (a0 a1 a2:Int) (a3:LT1) (a4:LIbe) (a5 a6:Int):Int:=let z1:=Z8 a6 (0:Int) a0 a1 a2 a3 a4 a5;(cond (z1.1==0) (z1.2) (-1:Int))
noncomputable abbrev B1F (r:Int):AV×List AObj:=((ti r),[])
noncomputable abbrev B47:H6 A9p→AV×List AObj:=fun d=>B1F (Z4 d.1.1 d.1.2.1 d.1.2.2.1 d.1.2.2.2.1 d.1.2.2.2.2.1 d.1.2.2.2.2.2.1 d.2.1)
noncomputable def O3 (a0 a1 a2:Int) (a3:LT1) (a4:LIbe) (a5 a6:Int):Bool:=let z1:=Z8 a6 (0:Int) a0 a1 a2 a3 a4 a5;cond (z1.1==0) true (z1.1==1)
noncomputable abbrev B2K:H6 A9p→Bool:=fun d=>O3 d.1.1 d.1.2.1 d.1.2.2.1 d.1.2.2.2.1 d.1.2.2.2.2.1 d.1.2.2.2.2.2.1 d.2.1
noncomputable abbrev C4q:Nat→St→Option Tree:=fun b=>match b with | 0=>B4I | _=>fun _=>none
theorem C3k:A7s true G18 (C4q) Try.f43 A9p B2K B47:=by
 rintro ⟨⟨a0,⟨a1,⟨a2,⟨a3,⟨a4,⟨a5,_⟩⟩⟩⟩⟩⟩,⟨a6,_⟩⟩ hp
 change O3 a0 a1 a2 a3 a4 a5 a6=true at hp
 unfold O3 at hp
 refine Eq.trans (b:=(let z1:=Z8 a6 (0:Int) a0 a1 a2 a3 a4 a5;cond (z1.1==0) (some (B1F (z1.2))) (cond (z1.1==1) (some (B1F (-1:Int))) none))) (by kernel_rfl) ?_
 exact (K6 B1F hp (fun hp=>rfl) (fun hp=>(A7v hp fun _h=>rfl)))
theorem C4H:aPP 43 (A2W A9p B2K B47):=pcD true G18 (hl1 (i:=0) (by kernel_rfl) C1O) C3k
noncomputable def S19:Tab:=Tab.add S18 43 (lift (A2W A9p B2K B47))
noncomputable def C9S:FuncId→Bool:=qadd C9R 43
theorem G19:aPG S19 C9S:=G18.addQ C4H (cbl Try.f43) (fun _=>rfl)

abbrev C87:List Sh:=.junk::C7b
abbrev D0Y:List Sh:=.junk::C87
abbrev C4W:List Sh:=.junk::C8E
abbrev u25:=((),u24)
abbrev u27:=((),u26)
noncomputable def B7h (s:ByteArray) (i:Nat):Bool:=let z1:=wI (bt s (i:Int));I8 z1 97 122||I8 z1 48 57
abbrev B6m:List PSh:=[.t .str]
abbrev A8R:SS:=⟨(.t true .str::.junk::.junk::tI::C87),[]⟩
abbrev B9s:SS:=⟨(.junk::.junk::.t true .bool::D0Y),[]⟩
abbrev B9t:SS:=⟨(.t true .str::C4W),[]⟩
noncomputable def B7z (x0:ByteArray) (x3:Int):RT A8R.den:=let z1:=decide (0≤x3∧x3<(x0.size:Int));let z2:=wI (bt x0 x3);(.br (decide (x3<(x0.size:Int))) (.br z1 (.br (!(I8 z2 (97:Int) (122:Int))) (.br z1 (.br (!(I8 z2 (48:Int) (57:Int))) (.done .ret B9s (((),(),false,u25),())) (.next ((x0,(),(),wI (x3+(1:Int)),u24),()))) .fail) (.next ((x0,(),(),wI (x3+(1:Int)),u24),()))) .fail) (.done (.exit 0) B9t ((x0,u27),())))
noncomputable def B2h (x0:ByteArray) (x3:Int):CT:=(.br (decide (0≤x3)&&okS x0) (.br (A4B (B7h x0) (x0.size - x3.toNat) x3.toNat) (.done (.exit 0) B9t ((x0,u27),())) (.done .ret B9s (((),(),false,u25),()))) .fail)
noncomputable abbrev B01:A8R.den→RT A8R.den:=(fun d=>B7z d.1.1 d.1.2.2.2.1)
noncomputable abbrev C1x (x0:ByteArray) (x3:Int):A8R.den:=((x0,(),(),x3,u24),())
noncomputable def B8d:Code:=((C9 0 (A0N Try.f144)).getD 0 (0,.skip)).2
theorem C6R (x0:ByteArray) (x3:Int):(B2h x0 x3).val (D:=A8R.den)=.fail∨Runs B01 (C1x x0 x3) (B2h x0 x3).val:=by
 cases hc:(decide (0≤x3)&&okS x0) with
 | false=>left;simp only [B2h,CT.val,hc,cond_false]
 | true =>
  right
  simp only [B2h,CT.val,hc,cond_true]
  simp only [Bool.and_eq_true,decide_eq_true_eq] at hc
  obtain ⟨i,rfl⟩:=Int.eq_ofNat_of_zero_le hc.1
  have hs:=A7h hc.2
  simp only [Int.toNat_natCast]
  refine Runs.scan (fun j=>C1x x0 (j:Int)) (x0.size) (B7h x0) (fun i hi=>?_) (fun i hi=>?_) ⟨_,_,_,rfl,by simp⟩ ⟨_,_,_,rfl,by simp⟩ _ _ rfl
  ·
   have h0a:decide ((i:Int)<(x0.size:Int))=true:=decide_eq_true (by omega)
   have h0b:decide (0≤(i:Int)∧(i:Int)<(x0.size:Int))=true:=decide_eq_true (by omega)
   simp only [B01,B7z,RT.val,h0a,h0b,cond_true,A7o i (by omega),Int.toNat_natCast]
   simp only [B7h]
   cases I8 (wI (bt x0 (i:Int))) 97 122<;>cases I8 (wI (bt x0 (i:Int))) 48 57<;>rfl
  ·have h1:decide ((i:Int)<(x0.size:Int))=false:=decide_eq_false (by omega)
   simp only [B01,B7z,RT.val,h1,cond_false]
theorem C5c:RdA G19 aLn 0 B8d A8R 0 [] (kepts [2] [(0,[0])]) (fun d=>(B01 d).opt 0 []):=by
 intro d
 kernel_rfl
noncomputable abbrev C0k:St→Option Tree:=A8R.say 0 [] [] (fun d=>B2h d.1.1 d.1.2.2.2.1)
theorem C6m:aPL C0k B8d:=SS.wp2 hlz [] B01 C5c (fun d=>rfl) _ (fun d=>C6R d.1.1 d.1.2.2.2.1)
noncomputable def B9l (a0:ByteArray):Bool:=(cond (A4B (B7h a0) (a0.size - (0:Int).toNat) (0:Int).toNat) (I8 (a0.size:Int) (1:Int) (12:Int)) false)
noncomputable abbrev B9P (r:Bool):AV×List AObj:=((.t true .bool r),[])
noncomputable abbrev C2y:H6 B6m→AV×List AObj:=fun d=>B9P (B9l d.1)
noncomputable def B7f (a0:ByteArray):Bool:=okS a0
noncomputable abbrev B9d:H6 B6m→Bool:=fun d=>B7f d.1
noncomputable abbrev C8m:Nat→St→Option Tree:=fun b=>match b with | 0=>C0k | _=>fun _=>none
theorem C7u:A7s true G19 (C8m) Try.f144 B6m B9d C2y:=by
 rintro ⟨a0,_⟩ hp
 change B7f a0=true at hp
 unfold B7f at hp
 refine Eq.trans (b:=(cond (decide (0≤(0:Int))&&okS a0) (cond (A4B (B7h a0) (a0.size - (0:Int).toNat) (0:Int).toNat) (some (B9P (I8 (a0.size:Int) (1:Int) (12:Int)))) (some (B9P false))) none)) (by kernel_rfl) ?_
 exact (A7v (by first | rfl | decide | exact hp | (simp only [Bool.and_eq_true] at hp;simp only [hp];done) | (simp [*];done) | (simp [okL] at hp;simp [okL,MAXB];omega) | (simp_all;done) | (simp at *;omega)) (fun _h=>(O8 B9P (fun _h=>rfl) (fun _h=>rfl))))
theorem C8y:aPP 144 (A2W B6m B9d C2y):=pcD true G19 (hl1 (i:=0) (by kernel_rfl) C6m) C7u
noncomputable def S20:Tab:=Tab.add S19 144 (lift (A2W B6m B9d C2y))
noncomputable def C9T:FuncId→Bool:=qadd C9S 144
theorem G20:aPG S20 C9T:=G19.addQ C8y (cbl Try.f144) (fun _=>rfl)

abbrev B9E:List PSh:=[.agg [(.int .i64),.str,.str]]
noncomputable def C3p (a0:Int) (a1 a2:ByteArray):Bool:=let z1:=decide ((a2.size:Int)≤(20:Int));(cond (!(I8 a0 (1:Int) (3:Int))) false (cond (a0==(2:Int)) (cond (!(a2.toList==bE.toList)) false (cond (B9l a1) z1 false)) (cond (B9l a1) z1 false)))
noncomputable abbrev A9z (r:Bool):AV×List AObj:=((.t true .bool r),[])
noncomputable abbrev C4S:H6 B9E→AV×List AObj:=fun d=>A9z (C3p d.1.1 d.1.2.1 d.1.2.2.1)
noncomputable def B7O (a0:Int) (a1 a2:ByteArray):Bool:=okS a1
noncomputable abbrev C0U:H6 B9E→Bool:=fun d=>B7O d.1.1 d.1.2.1 d.1.2.2.1
theorem C8f:A7s true G20 aLn Try.f120 B9E C0U C4S:=by
 rintro ⟨⟨a0,⟨a1,⟨a2,_⟩⟩⟩,_⟩ hp
 change B7O a0 a1 a2=true at hp
 unfold B7O at hp
 refine Eq.trans (b:=(let z1:=A9z (decide ((a2.size:Int)≤(20:Int)));cond (!(I8 a0 (1:Int) (3:Int))) (some (A9z false)) (cond (a0==(2:Int)) (cond (!(a2.toList==(⟨#[]⟩:ByteArray).toList)) (some (A9z false)) (cond (B7f a1) (cond (B9l a1) (some z1) (some (A9z false))) none)) (cond (B7f a1) (cond (B9l a1) (some z1) (some (A9z false))) none)))) (by kernel_rfl) ?_
 exact (O8 A9z (fun _h=>rfl) (fun _h=>(O8 A9z (fun _h=>(O8 A9z (fun _h=>rfl) (fun _h=>(A7v (by first | rfl | decide | exact hp | (simp only [Bool.and_eq_true] at hp;simp only [hp];done) | (simp [*];done) | (simp [okL] at hp;simp [okL,MAXB];omega) | (simp_all;done) | (simp at *;omega)) (fun _h=>(O8 A9z (fun _h=>rfl) (fun _h=>rfl))))))) (fun _h=>(A7v (by first | rfl | decide | exact hp | (simp only [Bool.and_eq_true] at hp;simp only [hp];done) | (simp [*];done) | (simp [okL] at hp;simp [okL,MAXB];omega) | (simp_all;done) | (simp at *;omega)) (fun _h=>(O8 A9z (fun _h=>rfl) (fun _h=>rfl))))))))
theorem C8Z:aPP 120 (A2W B9E C0U C4S):=pcD true G20 hlz C8f
noncomputable def S21:Tab:=Tab.add S20 120 (lift (A2W B9E C0U C4S))
noncomputable def C9U:FuncId→Bool:=qadd C9T 120
theorem G21:aPG S21 C9U:=G20.addQ C8Z (cbl Try.f120) (fun _=>rfl)

abbrev C9C:List Sh:=.junk::.junk::.junk::.junk::.junk::.junk::.junk::C4W
abbrev C88:List Sh:=.junk::C9C
abbrev D0Z:List Sh:=.junk::.junk::C88
abbrev u35:=((),(),(),(),(),(),(),(),u27)
abbrev u34:=((),(),(),(),(),(),(),u27)
abbrev u37:=((),(),u35)
abbrev C86:List AV:=.junk::.junk::.junk::.junk::.junk::.junk::.junk::.junk::.junk::.junk::.junk::.junk::.junk::.junk::.junk::.junk::.junk::.junk::.junk::.junk::.junk::.junk::.junk::.junk::.junk::.junk::.junk::.junk::.junk::.junk::.junk::.junk::.junk::.junk::[]
abbrev D0O:List AV:=.junk::.junk::.junk::.junk::.junk::.junk::.junk::.junk::.junk::.junk::.junk::.junk::.junk::.junk::.junk::.junk::.junk::.junk::.junk::.junk::.junk::.junk::.junk::.junk::.junk::.junk::.junk::.junk::.junk::.junk::.junk::.junk::.junk::[]
abbrev D0P:List AV:=.junk::.junk::C86
noncomputable def C1B (l:Lq1) (i:Nat):Bool:=let z1:=l.getD i dOp;C3p z1.1 z1.2.1 z1.2.2&&(decide (i=0)||Op.bytesLess (l.getD (i - 1) dOp).2.1.toList z1.2.1.toList)
abbrev B6n:List PSh:=[.t tq5]
abbrev A7M:SS:=⟨(.t false tq5::.junk::.junk::tI::C9C),[]⟩
abbrev B4M:SS:=⟨(.junk::.junk::.t true .bool::C88),[]⟩
abbrev B9u:SS:=⟨(.t false tq5::D0Z),[]⟩
noncomputable def B7A (x0:Lq1) (x3:Int):RT A7M.den:=let z1:=x0.getD x3.toNat ((0:Int),(bE,bE));let z2:=wI (x3 - (1:Int));let z3:=decide (0≤x3∧x3<(x0.length:Int));(.br (decide (x3<(x0.length:Int))) (.br z3 (.br (B7O (z1.1) ((z1.2).1) ((z1.2).2)) (.br (!(C3p (z1.1) ((z1.2).1) ((z1.2).2))) (.done .ret B4M (((),(),false,u35),())) (.br (decide (x3 > (0:Int))) (.br (decide (0≤z2∧z2<(x0.length:Int))) (.br z3 (.br (!(Op.bytesLess (((x0.getD (z2.toNat) ((0:Int),(bE,bE))).2).1).toList ((z1.2).1).toList)) (.done .ret B4M (((),(),false,u35),())) (.next ((x0,(),(),wI (x3+(1:Int)),u34),()))) .fail) .fail) (.next ((x0,(),(),wI (x3+(1:Int)),u34),())))) .fail) .fail) (.done (.exit 0) B9u ((x0,u37),())))
noncomputable def B2i (x0:Lq1) (x3:Int):CT:=(.br (decide (0≤x3)&&Z9 x0) (.br (A4B (C1B x0) (x0.length - x3.toNat) x3.toNat) (.done (.exit 0) B9u ((x0,u37),())) (.done .ret B4M (((),(),false,u35),()))) .fail)
noncomputable abbrev B02:A7M.den→RT A7M.den:=(fun d=>B7A d.1.1 d.1.2.2.2.1)
noncomputable abbrev C1y (x0:Lq1) (x3:Int):A7M.den:=((x0,(),(),x3,u34),())
noncomputable def B8e:Code:=((C9 0 (A0N Try.f86)).getD 0 (0,.skip)).2
theorem C6S (x0:Lq1) (x3:Int):(B2i x0 x3).val (D:=A7M.den)=.fail∨Runs B02 (C1y x0 x3) (B2i x0 x3).val:=by
 cases hc:(decide (0≤x3)&&Z9 x0) with
 | false=>left;simp only [B2i,CT.val,hc,cond_false]
 | true =>
  right
  simp only [B2i,CT.val,hc,cond_true]
  simp only [Bool.and_eq_true,decide_eq_true_eq] at hc
  obtain ⟨i,rfl⟩:=Int.eq_ofNat_of_zero_le hc.1
  have hs:=A8f hc.2
  simp only [Int.toNat_natCast]
  refine Runs.scan (fun j=>C1y x0 (j:Int)) (x0.length) (C1B x0) (fun i hi=>?_) (fun i hi=>?_) ⟨_,_,_,rfl,by simp⟩ ⟨_,_,_,rfl,by simp⟩ _ _ rfl
  ·
   have h0a:decide ((i:Int)<(x0.length:Int))=true:=decide_eq_true (by omega)
   have h0b:decide (0≤(i:Int)∧(i:Int)<(x0.length:Int))=true:=decide_eq_true (by omega)
   simp only [B02,B7A,RT.val,h0a,h0b,cond_true,A7o i (by omega),Int.toNat_natCast]
   have hq:B7O (x0.getD i dOp).1 (x0.getD i dOp).2.1 (x0.getD i dOp).2.2=true:=(C6q hc.2 i hi).1
   simp only [dOp] at hq
   simp only [hq,cond_true,C1B,dOp]
   cases C3p (x0.getD i ((0:Int),((⟨#[]⟩:ByteArray),(⟨#[]⟩:ByteArray)))).1 (x0.getD i ((0:Int),((⟨#[]⟩:ByteArray),(⟨#[]⟩:ByteArray)))).2.1 (x0.getD i ((0:Int),((⟨#[]⟩:ByteArray),(⟨#[]⟩:ByteArray)))).2.2 with
   | false=>rfl
   | true =>
    cases i with
    | zero=>rfl
    | succ i =>
     have h3:decide (((i+1:Nat):Int) > 0)=true:=decide_eq_true (by omega)
     have h4:wI (((i+1:Nat):Int) - 1)=(i:Int):=by have:=A6A (n:=((i+1:Nat):Int) - 1) (by omega) (by omega);omega
     have h5:decide (0≤(i:Int)∧(i:Int)<(x0.length:Int))=true:=decide_eq_true (by omega)
     have h6:decide (i+1=0)=false:=by simp
     simp only [h3,h4,h5,h6,cond_true,Bool.true_and,Bool.false_or,Int.toNat_natCast,Nat.add_sub_cancel,Bool.not_true,cond_false]
     cases Op.bytesLess (x0.getD i ((0:Int),((⟨#[]⟩:ByteArray),(⟨#[]⟩:ByteArray)))).2.1.toList (x0.getD (i+1) ((0:Int),((⟨#[]⟩:ByteArray),(⟨#[]⟩:ByteArray)))).2.1.toList<;>rfl
  ·have h1:decide ((i:Int)<(x0.length:Int))=false:=decide_eq_false (by omega)
   simp only [B02,B7A,RT.val,h1,cond_false]
noncomputable def C1s (x0:Lq1) (x3:Int):Option (Ex×St):=let z1:=x0.getD x3.toNat ((0:Int),(bE,bE));let z2:=(⟨((.t false tq5 x0)::.junk::.junk::(ti (wI (x3+(1:Int))))::D0O),[],0,[]⟩:St);let z3:=wI (x3 - (1:Int));let z4:=(⟨(.junk::.junk::(.t true .bool false)::C86),[],0,[]⟩:St);let z5:=decide (0≤x3∧x3<(x0.length:Int));(cond (decide (x3<(x0.length:Int))) (cond z5 (cond (B7O (z1.1) ((z1.2).1) ((z1.2).2)) (cond (!(C3p (z1.1) ((z1.2).1) ((z1.2).2))) (some (.ret,z4)) (cond (decide (x3 > (0:Int))) (cond (decide (0≤z3∧z3<(x0.length:Int))) (cond z5 (cond (!(Op.bytesLess (((x0.getD (z3.toNat) ((0:Int),(bE,bE))).2).1).toList ((z1.2).1).toList)) (some (.ret,z4)) (some (.normal,z2))) none) none) (some (.normal,z2)))) none) none) (some ((.exit 0),(⟨((.t false tq5 x0)::D0P),[],0,[]⟩:St))))
theorem C5d:RdA G21 aLn 0 B8e A7M 0 [] (kepts [2] [(0,[0])]) (fun d=>C1s d.1.1 d.1.2.2.2.1):=by
 intro d
 kernel_rfl
theorem C5h:∀ d:A7M.den,(fun d=>C1s d.1.1 d.1.2.2.2.1) d=(B02 d).opt 0 []:=by
 intro d
 kernel_rfl
noncomputable abbrev C0l:St→Option Tree:=A7M.say 0 [] [] (fun d=>B2i d.1.1 d.1.2.2.2.1)
theorem C6n:aPL C0l B8e:=SS.wp2 hlz [] B02 C5d C5h _ (fun d=>C6S d.1.1 d.1.2.2.2.1)
noncomputable def B3R (a0:Lq1):Bool:=(cond (A4B (C1B a0) (a0.length - (0:Int).toNat) (0:Int).toNat) (I8 (a0.length:Int) (1:Int) (8:Int)) false)
noncomputable abbrev B9Q (r:Bool):AV×List AObj:=((.t true .bool r),[])
noncomputable abbrev C2z:H6 B6n→AV×List AObj:=fun d=>B9Q (B3R d.1)
noncomputable def B4B (a0:Lq1):Bool:=Z9 a0
noncomputable abbrev B9e:H6 B6n→Bool:=fun d=>B4B d.1
noncomputable abbrev C8n:Nat→St→Option Tree:=fun b=>match b with | 0=>C0l | _=>fun _=>none
theorem C7v:A7s true G21 (C8n) Try.f86 B6n B9e C2z:=by
 rintro ⟨a0,_⟩ hp
 change B4B a0=true at hp
 unfold B4B at hp
 refine Eq.trans (b:=(cond (decide (0≤(0:Int))&&Z9 a0) (cond (A4B (C1B a0) (a0.length - (0:Int).toNat) (0:Int).toNat) (some (B9Q (I8 (a0.length:Int) (1:Int) (8:Int)))) (some (B9Q false))) none)) (by kernel_rfl) ?_
 exact (A7v (by first | rfl | decide | exact hp | (simp only [Bool.and_eq_true] at hp;simp only [hp];done) | (simp [*];done) | (simp [okL] at hp;simp [okL,MAXB];omega) | (simp_all;done) | (simp at *;omega)) (fun _h=>(O8 B9Q (fun _h=>rfl) (fun _h=>rfl))))
theorem C8z:aPP 86 (A2W B6n B9e C2z):=pcD true G21 (hl1 (i:=0) (by kernel_rfl) C6n) C7v
noncomputable def S22:Tab:=Tab.add S21 86 (lift (A2W B6n B9e C2z))
noncomputable def C9V:FuncId→Bool:=qadd C9U 86
theorem G22:aPG S22 C9V:=G21.addQ C8z (cbl Try.f86) (fun _=>rfl)

abbrev D0X:List Sh:=.junk::.junk::.junk::.junk::.junk::.junk::.junk::.junk::.junk::.junk::.junk::.junk::.junk::.junk::.junk::[]
abbrev u16:=((),(),(),(),(),(),(),(),(),(),(),(),(),(),(),())
abbrev B9C:List PSh:=[.t .str]
abbrev B0e:SS:=⟨(.t true .str::.junk::.junk::tI::tI::D0X),[]⟩
abbrev C05:SS:=⟨(.junk::.junk::.junk::tI::C7a),[]⟩
noncomputable def C3s (x0:ByteArray) (x3 x4:Int):RT B0e.den:=(.br (decide (x4<(x0.size:Int))) (.br (decide (0≤x4∧x4<(x0.size:Int))) (.next ((x0,(),(),iand .i64 (wI ((ixor .i64 x3 (wI (bt x0 x4)))*(16777619:Int))) (4294967295:Int),wI (x4+(1:Int)),u16),())) .fail) (.done (.exit 0) C05 (((),(),(),x3,u17),())))
abbrev B4f:=(ByteArray)×(Int)×(Int)
abbrev B30:=Nat×(Int)
def B8T:B30:=(99,((0:Int):Int))
noncomputable def B2X (x0:ByteArray) (x3 x4:Int):B4f ⊕ B30:=(cond (decide (x4<(x0.size:Int))) (cond (decide (0≤x4∧x4<(x0.size:Int))) (.inl (x0,iand .i64 (wI ((ixor .i64 x3 (wI (bt x0 x4)))*(16777619:Int))) (4294967295:Int),wI (x4+(1:Int)))) (.inr B8T)) (.inr (0,x3)))
noncomputable def B2y (x0:ByteArray) (x3 x4:Int):B30:=itX (fun v:B4f=>B2X v.1 v.2.1 v.2.2) B8T (x0,x3,x4)
noncomputable def B8R (a:B30):CT:=(.br (a.1==0) (.done (.exit 0) C05 (((),(),(),a.2,u17),())) .fail)
noncomputable def C7R (x0:ByteArray) (x3 x4:Int):CT:=B8R (B2y x0 x3 x4)
noncomputable abbrev B9n:B0e.den→RT B0e.den:=(fun d=>C3s d.1.1 d.1.2.2.2.1 d.1.2.2.2.2.1)
noncomputable def B9G:Code:=((C9 0 (A0N Try.f145)).getD 0 (0,.skip)).2
noncomputable abbrev C2S (v:B4f):B0e.den:=((v.1,(),(),v.2.1,v.2.2,u16),())
theorem C7l:(∀ v:B4f,(C3s v.1 v.2.1 v.2.2).val=A6u C2S B8R (B2X v.1 v.2.1 v.2.2))∧∀ a:B30,CEnd B0e.den (B8R a):=⟨fun v=>(A7x (A7x rfl rfl) rfl),fun a=>(A7k aCD A7m)⟩
theorem C6s:RdA G22 aLn 0 B9G B0e 0 [] (kepts [] [(0,[3])]) (fun d=>(B9n d).opt 0 []):=by
 intro d
 kernel_rfl
noncomputable abbrev C1D:St→Option Tree:=B0e.say 0 [] [] (fun d=>C7R d.1.1 d.1.2.2.2.1 d.1.2.2.2.2.1)
theorem C7g:aPL C1D B9G:=SS.wp2 hlz [] B9n C6s (fun d=>rfl) _ (fun d=>Runs.ofI2 (step:=B9n) C2S C7l rfl (d.1.1,d.1.2.2.2.1,d.1.2.2.2.2.1))
noncomputable def C7G (a0:ByteArray):Int:=((B2y a0 (2166136261:Int) (0:Int)).2)
noncomputable abbrev C7C (r:Int):AV×List AObj:=((ti r),[])
noncomputable abbrev C4Q:H6 B9C→AV×List AObj:=fun d=>C7C (C7G d.1)
noncomputable def B7N (a0:ByteArray):Bool:=((B2y a0 (2166136261:Int) (0:Int)).1==0)
noncomputable abbrev C0S:H6 B9C→Bool:=fun d=>B7N d.1
noncomputable abbrev C8O:Nat→St→Option Tree:=fun b=>match b with | 0=>C1D | _=>fun _=>none
theorem C8d:A7s true G22 (C8O) Try.f145 B9C C0S C4Q:=by
 rintro ⟨a0,_⟩ hp
 change B7N a0=true at hp
 unfold B7N at hp
 refine Eq.trans (b:=(let z1:=B2y a0 (2166136261:Int) (0:Int);cond (z1.1==0) (some (C7C (z1.2))) none)) (by kernel_rfl) ?_
 exact (A7v hp fun _h=>rfl)
theorem C8X:aPP 145 (A2W B9C C0S C4Q):=pcD true G22 (hl1 (i:=0) (by kernel_rfl) C7g) C8d
noncomputable def S23:Tab:=Tab.add S22 145 (lift (A2W B9C C0S C4Q))
noncomputable def C9W:FuncId→Bool:=qadd C9V 145
theorem G23:aPG S23 C9W:=G22.addQ C8X (cbl Try.f145) (fun _=>rfl)

abbrev B2b:List PSh:=[.t .str,.t (.int .i64)]
noncomputable def B7i (a0:ByteArray) (a1:Int):Int:=(cond (decide (a1<(1:Int))) (0:Int) (Int.tmod (C7G a0) a1))
noncomputable abbrev B4Y (r:Int):AV×List AObj:=((ti r),[])
noncomputable abbrev B82:H6 B2b→AV×List AObj:=fun d=>B4Y (B7i d.1 d.2.1)
noncomputable def A8Z (a0:ByteArray) (a1:Int):Bool:=cond (decide (a1<(1:Int))) true ((B7N a0)&&(decide (a1 ≠ 0)))
noncomputable abbrev B5r:H6 B2b→Bool:=fun d=>A8Z d.1 d.2.1
theorem C5w:A7s true G23 aLn Try.f121 B2b B5r B82:=by
 rintro ⟨a0,⟨a1,_⟩⟩ hp
 change A8Z a0 a1=true at hp
 unfold A8Z at hp
 refine Eq.trans (b:=(cond (decide (a1<(1:Int))) (some (B4Y (0:Int))) (cond (B7N a0) (cond (decide (a1 ≠ 0)) (some (B4Y (Int.tmod (C7G a0) a1))) none) none))) (by kernel_rfl) ?_
 exact (K6 B4Y hp (fun hp=>rfl) (fun hp=>(A7t hp fun hp=>(A7v hp fun _h=>rfl))))
theorem C67:aPP 121 (A2W B2b B5r B82):=pcD true G23 hlz C5w
noncomputable def S24:Tab:=Tab.add S23 121 (lift (A2W B2b B5r B82))
noncomputable def C9X:FuncId→Bool:=qadd C9W 121
theorem G24:aPG S24 C9X:=G23.addQ C67 (cbl Try.f121) (fun _=>rfl)

abbrev C9x:List Sh:=.junk::.junk::.junk::.junk::.junk::.junk::.junk::.junk::.junk::.junk::.junk::.junk::[]
abbrev C9y:List Sh:=.junk::C9x
abbrev u14:=((),(),(),(),(),(),(),(),(),(),(),(),(),())
abbrev u13:=((),(),(),(),(),(),(),(),(),(),(),(),())
abbrev B6o:List PSh:=[.t W3,.t (.int .i64)]
abbrev A8S:SS:=⟨(.t false W3::tI::.junk::.junk::.junk::tI::C9x),[]⟩
abbrev B9v:SS:=⟨(.junk::.junk::.junk::.junk::.t true .bool::C9y),[]⟩
abbrev B9w:SS:=⟨(.junk::C74),[]⟩
noncomputable def C1F (x0:List Int) (x1 x5:Int):RT A8S.den:=(.br (decide (x5<(x0.length:Int))) (.br (decide (0≤x5∧x5<(x0.length:Int))) (.br ((x0.getD x5.toNat (0:Int))==x1) (.done .ret B9v (((),(),(),(),true,u14),())) (.next ((x0,x1,(),(),(),wI (x5+(1:Int)),u13),()))) .fail) (.done (.exit 0) B9w ((u19),())))
abbrev B2j:=(List Int)×(Int)×(Int)
abbrev B0b:=Nat×(Bool)
def C1d:B0b:=(99,(false:Bool))
noncomputable def B3v (x0:List Int) (x1 x5:Int):B2j ⊕ B0b:=(cond (decide (x5<(x0.length:Int))) (cond (decide (0≤x5∧x5<(x0.length:Int))) (cond ((x0.getD x5.toNat (0:Int))==x1) (.inr (0,true)) (.inl (x0,x1,wI (x5+(1:Int))))) (.inr C1d)) (.inr (1,(false:Bool))))
noncomputable def A85 (x0:List Int) (x1 x5:Int):B0b:=itX (fun v:B2j=>B3v v.1 v.2.1 v.2.2) C1d (x0,x1,x5)
noncomputable def B6B (a:B0b):CT:=(.br (a.1==0) (.done .ret B9v (((),(),(),(),a.2,u14),())) (.br (a.1==1) (.done (.exit 0) B9w ((u19),())) .fail))
noncomputable def C6T (x0:List Int) (x1 x5:Int):CT:=B6B (A85 x0 x1 x5)
noncomputable abbrev B7q:A8S.den→RT A8S.den:=(fun d=>C1F d.1.1 d.1.2.1 d.1.2.2.2.2.2.1)
noncomputable def B8f:Code:=((C9 0 (A0N Try.f88)).getD 0 (0,.skip)).2
noncomputable abbrev C1z (v:B2j):A8S.den:=((v.1,v.2.1,(),(),(),v.2.2,u13),())
theorem C6t:(∀ v:B2j,(C1F v.1 v.2.1 v.2.2).val=A6u C1z B6B (B3v v.1 v.2.1 v.2.2))∧∀ a:B0b,CEnd A8S.den (B6B a):=⟨fun v=>(A7x (A7x (A7x rfl rfl) rfl) rfl),fun a=>(A7k aCD (A7k aCD A7m))⟩
theorem C5e:RdA G24 aLn 0 B8f A8S 0 [] (kepts [4] [(0,[])]) (fun d=>(B7q d).opt 0 []):=by
 intro d
 kernel_rfl
noncomputable abbrev C0m:St→Option Tree:=A8S.say 0 [] [] (fun d=>C6T d.1.1 d.1.2.1 d.1.2.2.2.2.2.1)
theorem C6o:aPL C0m B8f:=SS.wp2 hlz [] B7q C5e (fun d=>rfl) _ (fun d=>Runs.ofI2 (step:=B7q) C1z C6t rfl (d.1.1,d.1.2.1,d.1.2.2.2.2.2.1))
noncomputable def B1i (a0:List Int) (a1:Int):Bool:=let z1:=A85 a0 a1 (0:Int);(cond (z1.1==0) (z1.2) false)
noncomputable abbrev B9S (r:Bool):AV×List AObj:=((.t true .bool r),[])
noncomputable abbrev C2A:H6 B6o→AV×List AObj:=fun d=>B9S (B1i d.1 d.2.1)
noncomputable def A0b (a0:List Int) (a1:Int):Bool:=let z1:=A85 a0 a1 (0:Int);cond (z1.1==0) true (z1.1==1)
noncomputable abbrev B9f:H6 B6o→Bool:=fun d=>A0b d.1 d.2.1
noncomputable abbrev C8o:Nat→St→Option Tree:=fun b=>match b with | 0=>C0m | _=>fun _=>none
theorem C7w:A7s true G24 (C8o) Try.f88 B6o B9f C2A:=by
 rintro ⟨a0,⟨a1,_⟩⟩ hp
 change A0b a0 a1=true at hp
 unfold A0b at hp
 refine Eq.trans (b:=(let z1:=A85 a0 a1 (0:Int);cond (z1.1==0) (some (B9S (z1.2))) (cond (z1.1==1) (some (B9S false)) none))) (by kernel_rfl) ?_
 exact (K6 B9S hp (fun hp=>rfl) (fun hp=>(A7v hp fun _h=>rfl)))
theorem C8A:aPP 88 (A2W B6o B9f C2A):=pcD true G24 (hl1 (i:=0) (by kernel_rfl) C6o) C7w
noncomputable def S25:Tab:=Tab.add S24 88 (lift (A2W B6o B9f C2A))
noncomputable def C9Y:FuncId→Bool:=qadd C9X 88
theorem G25:aPG S25 C9Y:=G24.addQ C8A (cbl Try.f88) (fun _=>rfl)

abbrev C2D:List Sh:=.junk::D00
abbrev u40:=((),(),u38)
abbrev C0I:List AV:=.junk::D0Q
abbrev B7D:SS:=⟨[.all 0 1,tI],[.rows 3 true (.int .i64)]⟩
abbrev A7N:SS:=⟨(.junk::tI::.junk::.junk::.junk::.all 1 1::tI::C2D),[.rows 3 true (.int .i64),.rows 3 true (.int .i64)]⟩
abbrev B4N:SS:=⟨(.junk::tI::.junk::.junk::.junk::.all 1 1::tI::C2D),[.rows 3 true (.int .i64),.rows 3 true (.int .i64)]⟩
noncomputable def C1G (x1 x6:Int) (h0 h1:List Int):RT A7N.den:=let z1:=wI (x6 - (1:Int));let z2:=decide (0≤z1∧z1<(h1.length:Int));let z3:=h1.getD (z1.toNat) (0:Int);(.br (decide (x6 > (0:Int))) (.br z2 (.br (decide (z3 > x1)) (.br z2 (.br (decide (0≤x6∧x6<(h1.length:Int))) (.next (((),x1,(),(),(),(),wI (x6 - (1:Int)),u40),(h0,h1.set x6.toNat z3,()))) .fail) .fail) (.done (.exit 0) B4N (((),x1,(),(),(),(),x6,u40),(h0,h1,())))) .fail) (.done (.exit 0) B4N (((),x1,(),(),(),(),x6,u40),(h0,h1,()))))
abbrev B4O:=(Int)×(Int)×(List Int)×(List Int)
abbrev B1V:=Nat×(Int)×(Int)×(List Int)×(List Int)
def B3h:B1V:=(99,((0:Int):Int),((0:Int):Int),([]:List Int),([]:List Int))
noncomputable def C1E (x1 x6:Int) (h0 h1:List Int):B4O ⊕ B1V:=let z1:=wI (x6 - (1:Int));let z2:=decide (0≤z1∧z1<(h1.length:Int));let z3:=h1.getD (z1.toNat) (0:Int);(cond (decide (x6 > (0:Int))) (cond z2 (cond (decide (z3 > x1)) (cond z2 (cond (decide (0≤x6∧x6<(h1.length:Int))) (.inl (x1,wI (x6 - (1:Int)),h0,h1.set x6.toNat z3)) (.inr B3h)) (.inr B3h)) (.inr (0,x1,x6,h0,h1))) (.inr B3h)) (.inr (0,x1,x6,h0,h1)))
noncomputable def C1j (x1 x6:Int) (h0 h1:List Int):B1V:=itX (fun v:B4O=>C1E v.1 v.2.1 v.2.2.1 v.2.2.2) B3h (x1,x6,h0,h1)
noncomputable def B6C (a:B1V):CT:=(.br (a.1==0) (.done (.exit 0) B4N (((),a.2.1,(),(),(),(),a.2.2.1,u40),(a.2.2.2.1,a.2.2.2.2,()))) .fail)
noncomputable def C6U (x1 x6:Int) (h0 h1:List Int):CT:=B6C (C1j x1 x6 h0 h1)
noncomputable abbrev B7r:A7N.den→RT A7N.den:=(fun d=>C1G d.1.2.1 d.1.2.2.2.2.2.2.1 d.2.1 d.2.2.1)
noncomputable def B8g:Code:=((C9 0 (A0N Try.f107)).getD 0 (0,.skip)).2
noncomputable abbrev C1A (v:B4O):A7N.den:=(((),v.1,(),(),(),(),v.2.1,u40),(v.2.2.1,v.2.2.2,()))
theorem C6u:(∀ v:B4O,(C1G v.1 v.2.1 v.2.2.1 v.2.2.2).val=A6u C1A B6C (C1E v.1 v.2.1 v.2.2.1 v.2.2.2))∧∀ a:B1V,CEnd A7N.den (B6C a):=⟨fun v=>(A7x (A7x (A7x (A7x (A7x rfl rfl) rfl) rfl) rfl) rfl),fun a=>(A7k aCD A7m)⟩
noncomputable def C1t (x1 x6:Int) (h0 h1:List Int):Option (Ex×St):=let z1:=wI (x6 - (1:Int));let z2:=(⟨(.junk::(ti x1)::.junk::.junk::.junk::(.all 1 1)::(ti x6)::C0I),[(.rows 3 true (.int .i64) h0),(.rows 3 true (.int .i64) h1)],1,[]⟩:St);let z3:=decide (0≤z1∧z1<(h1.length:Int));let z4:=h1.getD (z1.toNat) (0:Int);(cond (decide (x6 > (0:Int))) (cond z3 (cond (decide (z4 > x1)) (cond z3 (cond (decide (0≤x6∧x6<(h1.length:Int))) (some (.normal,(⟨(.junk::(ti x1)::.junk::.junk::.junk::(.all 1 1)::(ti z1)::C0I),[(.rows 3 true (.int .i64) h0),(.rows 3 true (.int .i64) (h1.set x6.toNat z4))],1,[]⟩:St))) none) none) (some ((.exit 0),z2))) none) (some ((.exit 0),z2)))
theorem C5f:RdA G25 aLn 0 B8g A7N 1 [] (kepts [] [(0,[1,5,6])]) (fun d=>C1t d.1.2.1 d.1.2.2.2.2.2.2.1 d.2.1 d.2.2.1):=by
 intro d
 kernel_rfl
theorem C5i:∀ d:A7N.den,(fun d=>C1t d.1.2.1 d.1.2.2.2.2.2.2.1 d.2.1 d.2.2.1) d=(B7r d).opt 1 []:=by
 intro d
 kernel_rfl
noncomputable abbrev C0n:St→Option Tree:=A7N.say 1 [] [] (fun d=>C6U d.1.2.1 d.1.2.2.2.2.2.2.1 d.2.1 d.2.2.1)
theorem C6p:aPL C0n B8g:=SS.wp2 hlz [] B7r C5f C5i _ (fun d=>Runs.ofI2 (step:=B7r) C1A C6u rfl (d.1.2.1,d.1.2.2.2.2.2.2.1,d.2.1,d.2.2.1))
noncomputable def C0J (x1:Int) (h0:List Int):=let z1:=(([]:List Int)++h0)++[x1];C1j x1 (wI (((z1.length:Nat):Int) - (1:Int))) h0 z1
noncomputable def C9H (x1:Int) (h0:List Int):List Int:=let z1:=C0J x1 h0;(cond (B1i h0 x1) h0 ((z1.2.2.2.2).set ((z1.2.2.1).toNat) (z1.2.1)))
noncomputable abbrev B9T (r:List Int):AV×List AObj×List Nat:=((.t true W3 r),[.dead],[])
noncomputable abbrev C6e:B7D.den→AV×List AObj×List Nat:=fun d=>B9T (C9H d.1.2.1 d.2.1)
noncomputable def C2T (x1:Int) (h0:List Int):Bool:=let z1:=C0J x1 h0;(A0b h0 x1)&&(cond (B1i h0 x1) true ((decide ((([]:List Int).length+h0.length)*8≤MAXB))&&((decide (((([]:List Int)++h0).length+[x1].length)*8≤MAXB))&&((z1.1==0)&&(decide (0≤(z1.2.2.1)∧(z1.2.2.1)<(((z1.2.2.2.2).length:Nat):Int)))))))
noncomputable abbrev C2Q:B7D.den→Bool:=fun d=>C2T d.1.2.1 d.2.1
noncomputable abbrev C8p:Nat→St→Option Tree:=fun b=>match b with | 0=>C0n | _=>fun _=>none
theorem C7x:A7c [.all 0 1] G25 (C8p) Try.f107 B7D C2Q C6e:=by
 rintro ⟨⟨_,x1,_⟩,⟨h0,_⟩⟩ hp
 change C2T x1 h0=true at hp
 unfold C2T at hp
 refine Eq.trans (b:=(let z1:=C0J x1 h0;cond (A0b h0 x1) (cond (B1i h0 x1) (some (B9T h0)) (cond (decide ((([]:List Int).length+h0.length)*8≤MAXB)) (cond (decide (((([]:List Int)++h0).length+[x1].length)*8≤MAXB)) (cond (z1.1==0) (cond (decide (0≤(z1.2.2.1)∧(z1.2.2.1)<(((z1.2.2.2.2).length:Nat):Int))) (some (B9T ((z1.2.2.2.2).set ((z1.2.2.1).toNat) (z1.2.1)))) none) none) none) none)) none)) (by kernel_rfl) ?_
 exact (A7t hp fun hp=>(K6 B9T hp (fun hp=>rfl) (fun hp=>(A7t hp fun hp=>(A7t hp fun hp=>(A7t hp fun hp=>(A7v hp fun _h=>rfl)))))))
noncomputable abbrev C2O:=win E6 (msum B7D C2Q C6e)
theorem C54:aPM 107 C2O:=(D08 [.all 0 1]  G25 (hl1 (i:=0) (by kernel_rfl) C6p) C7x).win E6
noncomputable def S26:Tab:=Tab.add S25 107 (C2O)
noncomputable def C9Z:FuncId→Bool:=C9Y
theorem G26:aPG S26 C9Z:=G25.addM C54 (A62 _) (cbl Try.f107) (by kernel_rfl)

abbrev B1y:SS:=⟨[.t true W3,tI],[]⟩
abbrev R6:SS:=⟨(.junk::tI::.junk::.junk::.junk::.all 0 1::tI::C2D),[.rows 3 true (.int .i64)]⟩
abbrev B06:SS:=⟨(.junk::tI::.junk::.junk::.junk::.all 0 1::tI::C2D),[.rows 3 true (.int .i64)]⟩
noncomputable def B7C (x1 x6:Int) (h0:List Int):RT R6.den:=let z1:=wI (x6 - (1:Int));let z2:=decide (0≤z1∧z1<(h0.length:Int));let z3:=h0.getD (z1.toNat) (0:Int);(.br (decide (x6 > (0:Int))) (.br z2 (.br (decide (z3 > x1)) (.br z2 (.br (decide (0≤x6∧x6<(h0.length:Int))) (.next (((),x1,(),(),(),(),wI (x6 - (1:Int)),u40),(h0.set x6.toNat z3,()))) .fail) .fail) (.done (.exit 0) B06 (((),x1,(),(),(),(),x6,u40),(h0,())))) .fail) (.done (.exit 0) B06 (((),x1,(),(),(),(),x6,u40),(h0,()))))
abbrev A8u:=(Int)×(Int)×(List Int)
abbrev A0f:=Nat×(Int)×(Int)×(List Int)
def A9E:A0f:=(99,((0:Int):Int),((0:Int):Int),([]:List Int))
noncomputable def A91 (x1 x6:Int) (h0:List Int):A8u ⊕ A0f:=let z1:=wI (x6 - (1:Int));let z2:=decide (0≤z1∧z1<(h0.length:Int));let z3:=h0.getD (z1.toNat) (0:Int);(cond (decide (x6 > (0:Int))) (cond z2 (cond (decide (z3 > x1)) (cond z2 (cond (decide (0≤x6∧x6<(h0.length:Int))) (.inl (x1,wI (x6 - (1:Int)),h0.set x6.toNat z3)) (.inr A9E)) (.inr A9E)) (.inr (0,x1,x6,h0))) (.inr A9E)) (.inr (0,x1,x6,h0)))
noncomputable def B2z (x1 x6:Int) (h0:List Int):A0f:=itX (fun v:A8u=>A91 v.1 v.2.1 v.2.2) A9E (x1,x6,h0)
noncomputable def B2q (a:A0f):CT:=(.br (a.1==0) (.done (.exit 0) B06 (((),a.2.1,(),(),(),(),a.2.2.1,u40),(a.2.2.2,()))) .fail)
noncomputable def C3D (x1 x6:Int) (h0:List Int):CT:=B2q (B2z x1 x6 h0)
noncomputable abbrev B2V:R6.den→RT R6.den:=(fun d=>B7C d.1.2.1 d.1.2.2.2.2.2.2.1 d.2.1)
noncomputable def B4n:Code:=((C9 0 (A0N Try.f107)).getD 0 (0,.skip)).2
noncomputable abbrev B7d (v:A8u):R6.den:=(((),v.1,(),(),(),(),v.2.1,u40),(v.2.2,()))
theorem C3c:(∀ v:A8u,(B7C v.1 v.2.1 v.2.2).val=A6u B7d B2q (A91 v.1 v.2.1 v.2.2))∧∀ a:A0f,CEnd R6.den (B2q a):=⟨fun v=>(A7x (A7x (A7x (A7x (A7x rfl rfl) rfl) rfl) rfl) rfl),fun a=>(A7k aCD A7m)⟩
noncomputable def B6Y (x1 x6:Int) (h0:List Int):Option (Ex×St):=let z1:=wI (x6 - (1:Int));let z2:=(⟨(.junk::(ti x1)::.junk::.junk::.junk::(.all 0 1)::(ti x6)::C0I),[(.rows 3 true (.int .i64) h0)],0,[]⟩:St);let z3:=decide (0≤z1∧z1<(h0.length:Int));let z4:=h0.getD (z1.toNat) (0:Int);(cond (decide (x6 > (0:Int))) (cond z3 (cond (decide (z4 > x1)) (cond z3 (cond (decide (0≤x6∧x6<(h0.length:Int))) (some (.normal,(⟨(.junk::(ti x1)::.junk::.junk::.junk::(.all 0 1)::(ti z1)::C0I),[(.rows 3 true (.int .i64) (h0.set x6.toNat z4))],0,[]⟩:St))) none) none) (some ((.exit 0),z2))) none) (some ((.exit 0),z2)))
theorem C1W:RdA G26 aLn 0 B4n R6 0 [] (kepts [] [(0,[1,5,6])]) (fun d=>B6Y d.1.2.1 d.1.2.2.2.2.2.2.1 d.2.1):=by
 intro d
 kernel_rfl
theorem C1Z:∀ d:R6.den,(fun d=>B6Y d.1.2.1 d.1.2.2.2.2.2.2.1 d.2.1) d=(B2V d).opt 0 []:=by
 intro d
 kernel_rfl
noncomputable abbrev B51:St→Option Tree:=R6.say 0 [] [] (fun d=>C3D d.1.2.1 d.1.2.2.2.2.2.2.1 d.2.1)
theorem C2M:aPL B51 B4n:=SS.wp2 hlz [] B2V C1W C1Z _ (fun d=>Runs.ofI2 (step:=B2V) B7d C3c rfl (d.1.2.1,d.1.2.2.2.2.2.2.1,d.2.1))
noncomputable def A9M (x0:List Int) (x1:Int):=let z1:=(([]:List Int)++x0)++[x1];B2z x1 (wI (((z1.length:Nat):Int) - (1:Int))) z1
noncomputable def A9a (x0:List Int) (x1:Int):List Int:=let z1:=A9M x0 x1;(cond (B1i x0 x1) x0 ((z1.2.2.2).set ((z1.2.2.1).toNat) (z1.2.1)))
noncomputable abbrev B3e (r:List Int):AV×List AObj×List Nat:=((.t true W3 r),[],[])
noncomputable abbrev C1h:B1y.den→AV×List AObj×List Nat:=fun d=>B3e (A9a d.1.1 d.1.2.1)
noncomputable def Y1 (x0:List Int) (x1:Int):Bool:=let z1:=A9M x0 x1;(A0b x0 x1)&&(cond (B1i x0 x1) true ((decide ((([]:List Int).length+x0.length)*8≤MAXB))&&((decide (((([]:List Int)++x0).length+[x1].length)*8≤MAXB))&&((z1.1==0)&&(decide (0≤(z1.2.2.1)∧(z1.2.2.1)<(((z1.2.2.2).length:Nat):Int)))))))
noncomputable abbrev B8t:B1y.den→Bool:=fun d=>Y1 d.1.1 d.1.2.1
noncomputable abbrev C5L:Nat→St→Option Tree:=fun b=>match b with | 0=>B51 | _=>fun _=>none
theorem C4c:A7c [] G26 (C5L) Try.f107 B1y B8t C1h:=by
 rintro ⟨⟨x0,x1,_⟩,_⟩ hp
 change Y1 x0 x1=true at hp
 unfold Y1 at hp
 refine Eq.trans (b:=(let z1:=A9M x0 x1;cond (A0b x0 x1) (cond (B1i x0 x1) (some (B3e x0)) (cond (decide ((([]:List Int).length+x0.length)*8≤MAXB)) (cond (decide (((([]:List Int)++x0).length+[x1].length)*8≤MAXB)) (cond (z1.1==0) (cond (decide (0≤(z1.2.2.1)∧(z1.2.2.1)<(((z1.2.2.2).length:Nat):Int))) (some (B3e ((z1.2.2.2).set ((z1.2.2.1).toNat) (z1.2.1)))) none) none) none) none)) none)) (by kernel_rfl) ?_
 exact (A7t hp fun hp=>(K6 B3e hp (fun hp=>rfl) (fun hp=>(A7t hp fun hp=>(A7t hp fun hp=>(A7t hp fun hp=>(A7v hp fun _h=>rfl)))))))
noncomputable abbrev C1q:=win E6 (msum B1y B8t C1h)
theorem C55:aPM 107 C1q:=(D08 []  G26 (hl1 (i:=0) (by kernel_rfl) C2M) C4c).win E6
noncomputable def S27:Tab:=Tab.add S26 107 (A17 (C2O) (C1q))
noncomputable def C90:FuncId→Bool:=C9Z
theorem G27:aPG S27 C90:=G26.addM (MContract.orElse C54 C55) (A6N (A62 _) (A62 _)) (cbl Try.f107) (by kernel_rfl)

abbrev B0L:List PSh:=[.t tq5,.t (.int .i64)]
abbrev R5:SS:=⟨(.t false tq5::tI::.junk::.junk::.junk::.t true W3::tI::C74),[]⟩
abbrev B5G:SS:=⟨(.junk::.junk::.junk::.junk::.junk::.t true W3::C6f),[]⟩
noncomputable def B5d (x0:Lq1) (x1 x6:Int):=B7i (((x0.getD x6.toNat ((0:Int),(bE,bE))).2).1) x1
noncomputable def B7B (x0:Lq1) (x1:Int) (x5:List Int) (x6:Int):RT R5.den:=let z1:=B5d x0 x1 x6;(.br (decide (x6<(x0.length:Int))) (.br (decide (0≤x6∧x6<(x0.length:Int))) (.br (A8Z (((x0.getD x6.toNat ((0:Int),(bE,bE))).2).1) x1) (.br (Y1 x5 z1) (.next ((x0,x1,(),(),(),(A9a x5 z1),wI (x6+(1:Int)),u18),())) .fail) .fail) .fail) (.done (.exit 0) B5G (((),(),(),(),(),x5,u19),())))
abbrev A8t:=(Lq1)×(Int)×(List Int)×(Int)
abbrev A0e:=Nat×(List Int)
def A9C:A0e:=(99,([]:List Int))
noncomputable def A90 (x0:Lq1) (x1:Int) (x5:List Int) (x6:Int):A8t ⊕ A0e:=let z1:=B5d x0 x1 x6;(cond (decide (x6<(x0.length:Int))) (cond (decide (0≤x6∧x6<(x0.length:Int))) (cond (A8Z (((x0.getD x6.toNat ((0:Int),(bE,bE))).2).1) x1) (cond (Y1 x5 z1) (.inl (x0,x1,(A9a x5 z1),wI (x6+(1:Int)))) (.inr A9C)) (.inr A9C)) (.inr A9C)) (.inr (0,x5)))
noncomputable def A7X (x0:Lq1) (x1:Int) (x5:List Int) (x6:Int):A0e:=itX (fun v:A8t=>A90 v.1 v.2.1 v.2.2.1 v.2.2.2) A9C (x0,x1,x5,x6)
noncomputable def B2p (a:A0e):CT:=(.br (a.1==0) (.done (.exit 0) B5G (((),(),(),(),(),a.2,u19),())) .fail)
noncomputable def C3C (x0:Lq1) (x1:Int) (x5:List Int) (x6:Int):CT:=B2p (A7X x0 x1 x5 x6)
noncomputable abbrev B6r {α:Sort _} (f:Lq1→Int→(List Int)→Int→α) (d:R5.den):α:=f d.1.1 d.1.2.1 d.1.2.2.2.2.2.1 d.1.2.2.2.2.2.2.1
noncomputable abbrev B2U:R5.den→RT R5.den:=(B6r B7B)
noncomputable def B4m:Code:=((C9 0 (A0N Try.f87)).getD 0 (0,.skip)).2
noncomputable abbrev B7c (v:A8t):R5.den:=((v.1,v.2.1,(),(),(),v.2.2.1,v.2.2.2,u18),())
theorem C3b:(∀ v:A8t,(B7B v.1 v.2.1 v.2.2.1 v.2.2.2).val=A6u B7c B2p (A90 v.1 v.2.1 v.2.2.1 v.2.2.2))∧∀ a:A0e,CEnd R5.den (B2p a):=⟨fun v=>(A7x (A7x (A7x (A7x rfl rfl) rfl) rfl) rfl),fun a=>(A7k aCD A7m)⟩
theorem C1V:RdA G27 aLn 0 B4m R5 0 [] (kepts [] [(0,[5])]) (fun d=>(B2U d).opt 0 []):=by
 intro d
 kernel_rfl
noncomputable abbrev B50:St→Option Tree:=R5.say 0 [] [(5,1000000,.bool)] (B6r C3C)
theorem C2L:aPL B50 B4m:=SS.wp2 hlz [(5,1000000,.bool)] B2U C1V (fun d=>rfl) _ (fun d=>Runs.ofI2 (step:=B2U) B7c C3b rfl (d.1.1,d.1.2.1,d.1.2.2.2.2.2.1,d.1.2.2.2.2.2.2.1))
noncomputable def R9 (a0:Lq1) (a1:Int):List Int:=((A7X a0 a1 ([]:List Int) (0:Int)).2)
noncomputable abbrev C1b (r:List Int):AV×List AObj:=((.t true W3 r),[])
noncomputable abbrev B6O:H6 B0L→AV×List AObj:=fun d=>C1b (R9 d.1 d.2.1)
noncomputable def Y0 (a0:Lq1) (a1:Int):Bool:=((A7X a0 a1 ([]:List Int) (0:Int)).1==0)
noncomputable abbrev B3Q:H6 B0L→Bool:=fun d=>Y0 d.1 d.2.1
noncomputable abbrev C5K:Nat→St→Option Tree:=fun b=>match b with | 0=>B50 | _=>fun _=>none
theorem C4a:A7s true G27 (C5K) Try.f87 B0L B3Q B6O:=by
 rintro ⟨a0,⟨a1,_⟩⟩ hp
 change Y0 a0 a1=true at hp
 unfold Y0 at hp
 refine Eq.trans (b:=(let z1:=A7X a0 a1 ([]:List Int) (0:Int);cond (z1.1==0) (some (C1b (z1.2))) none)) (by kernel_rfl) ?_
 exact (A7v hp fun _h=>rfl)
theorem C52:aPP 87 (A2W B0L B3Q B6O):=pcD true G27 (hl1 (i:=0) (by kernel_rfl) C2L) C4a
noncomputable def S28:Tab:=Tab.add S27 87 (lift (A2W B0L B3Q B6O))
noncomputable def C91:FuncId→Bool:=qadd C90 87
theorem G28:aPG S28 C91:=G27.addQ C52 (cbl Try.f87) (fun _=>rfl)

abbrev C8C:List Sh:=.junk::.junk::.junk::.junk::.junk::.junk::.junk::.junk::.junk::.junk::.junk::.junk::.junk::.junk::.junk::.junk::.junk::.junk::.junk::.junk::.junk::.junk::.junk::.junk::.junk::.junk::.junk::.junk::.junk::.junk::.junk::.junk::.junk::.junk::.junk::.junk::.junk::.junk::.junk::.junk::.junk::.junk::.junk::.junk::.junk::.junk::.junk::.junk::.junk::.junk::.junk::.junk::.junk::.junk::.junk::.junk::.junk::.junk::.junk::.junk::.junk::.junk::.junk::.junk::.junk::.junk::.junk::.junk::.junk::.junk::.junk::.junk::.junk::.junk::.junk::.junk::.junk::.junk::.junk::.junk::.junk::C2D
abbrev D0W:List Sh:=.junk::.junk::.junk::C8C
abbrev D0V:List Sh:=.junk::.junk::C8C
abbrev C9h:=((),(),(),(),(),(),(),(),(),(),(),(),(),(),(),(),(),(),(),(),(),(),(),(),(),(),(),(),(),(),(),(),(),(),(),(),(),(),(),(),(),(),(),(),(),(),(),(),(),(),(),(),(),(),(),(),(),(),(),(),(),(),(),(),(),(),(),(),(),(),(),(),(),(),(),(),(),(),(),(),(),u43)
abbrev C9I:=((),(),(),(),(),(),(),(),(),(),(),(),(),(),(),(),(),(),(),(),(),(),(),(),(),(),(),(),(),(),(),(),(),(),(),(),(),(),(),(),(),(),(),(),(),(),(),(),(),(),(),(),(),(),(),(),(),(),(),(),(),(),(),(),(),(),(),(),(),(),(),(),(),(),(),(),(),(),u43)
abbrev D1f:=((),(),(),(),(),C9h)
abbrev D0N:List AV:=.junk::.junk::.junk::.junk::.junk::.junk::.junk::.junk::.junk::.junk::.junk::.junk::.junk::.junk::.junk::.junk::.junk::.junk::.junk::.junk::.junk::.junk::.junk::.junk::.junk::.junk::.junk::.junk::.junk::.junk::.junk::.junk::.junk::.junk::.junk::.junk::.junk::.junk::.junk::.junk::.junk::.junk::.junk::.junk::.junk::.junk::.junk::.junk::.junk::.junk::.junk::.junk::.junk::.junk::.junk::.junk::.junk::.junk::.junk::.junk::.junk::.junk::.junk::.junk::.junk::.junk::.junk::.junk::.junk::.junk::.junk::.junk::.junk::.junk::.junk::.junk::.junk::.junk::.junk::.junk::.junk::.junk::.junk::.junk::C0I
abbrev C9j:List AV:=.junk::.junk::.junk::.junk::.junk::.junk::.junk::.junk::.junk::.junk::.junk::.junk::.junk::.junk::.junk::.junk::.junk::.junk::.junk::.junk::.junk::.junk::.junk::.junk::.junk::.junk::.junk::.junk::.junk::.junk::.junk::.junk::.junk::.junk::.junk::.junk::.junk::.junk::.junk::.junk::.junk::.junk::.junk::.junk::.junk::.junk::.junk::.junk::.junk::.junk::.junk::.junk::.junk::.junk::.junk::.junk::.junk::.junk::.junk::.junk::.junk::.junk::.junk::.junk::.junk::.junk::.junk::.junk::.junk::.junk::.junk::.junk::.junk::.junk::.junk::.junk::.junk::.junk::.junk::.junk::.junk::C0I
abbrev D0M:List AV:=.junk::.junk::C9j
abbrev B4d:List PSh:=[.agg [(.int .i64),(.int .i64),(.int .i64),tq2,tq4,(.int .i64)],.t (.int .i64)]
abbrev V3:SS:=⟨(.junk::.junk::.ptr 0 0 1 0::.junk::.junk::.ptr 1 0 1 0::.t true W3::tI::C8C),[.box [tI,tI,tI,.t false tq2,.t false tq4,tI],.box [tI,.t false tq5,tI,.t false W3]]⟩
abbrev B3y:SS:=⟨(.junk::.junk::.junk::.junk::.t true .bool::D0W),[]⟩
abbrev B78:SS:=⟨(.junk::.junk::.ptr 0 0 1 0::.junk::.junk::.ptr 1 0 1 0::D0V),[.box [tI,tI,tI,.t false tq2,.t false tq4,tI],.box [tI,.t false tq5,tI,.t false W3]]⟩
noncomputable def C0s (x6:List Int) (x7 p0 p1 p2:Int) (p3:LT1) (p4:LIbe) (p5 q0:Int) (q1:Lq1) (q2:Int) (q3:List Int):RT V3.den:=let z1:=wI (x7 - (1:Int));let z2:=q3.getD x7.toNat (0:Int);let z3:=decide (0≤x7∧x7<(q3.length:Int));(.br (decide (x7<(q3.length:Int))) (.br z3 (.br (A0b x6 z2) (.br (!(B1i x6 z2)) (.done .ret B3y (((),(),(),(),false,C9h),())) (.br (decide (x7 > (0:Int))) (.br (decide (0≤z1∧z1<(q3.length:Int))) (.br z3 (.br (decide ((q3.getD (z1.toNat) (0:Int)) ≥ z2)) (.done .ret B3y (((),(),(),(),false,C9h),())) (.next (((),(),(),(),(),(),x6,wI (x7+(1:Int)),C9I),((p0,p1,p2,p3,p4,p5,()),(q0,q1,q2,q3,()),())))) .fail) .fail) (.next (((),(),(),(),(),(),x6,wI (x7+(1:Int)),C9I),((p0,p1,p2,p3,p4,p5,()),(q0,q1,q2,q3,()),()))))) .fail) .fail) (.done (.exit 0) B78 ((D1f),((p0,p1,p2,p3,p4,p5,()),(q0,q1,q2,q3,()),()))))
abbrev B23:=(List Int)×(Int)
abbrev B0E:=Nat×(Bool)
def A9D:B0E:=(99,(false:Bool))
noncomputable def B1N (x6:List Int) (x7 p0 p1 p2:Int) (p3:LT1) (p4:LIbe) (p5 q0:Int) (q1:Lq1) (q2:Int) (q3:List Int):B23 ⊕ B0E:=let z1:=wI (x7 - (1:Int));let z2:=q3.getD x7.toNat (0:Int);let z3:=decide (0≤x7∧x7<(q3.length:Int));(cond (decide (x7<(q3.length:Int))) (cond z3 (cond (A0b x6 z2) (cond (!(B1i x6 z2)) (.inr (0,false)) (cond (decide (x7 > (0:Int))) (cond (decide (0≤z1∧z1<(q3.length:Int))) (cond z3 (cond (decide ((q3.getD (z1.toNat) (0:Int)) ≥ z2)) (.inr (0,false)) (.inl (x6,wI (x7+(1:Int))))) (.inr A9D)) (.inr A9D)) (.inl (x6,wI (x7+(1:Int)))))) (.inr A9D)) (.inr A9D)) (.inr (1,(false:Bool))))
noncomputable def B5b (x6:List Int) (x7 p0 p1 p2:Int) (p3:LT1) (p4:LIbe) (p5 q0:Int) (q1:Lq1) (q2:Int) (q3:List Int):B0E:=itX (fun v:B23=>B1N v.1 v.2 p0 p1 p2 p3 p4 p5 q0 q1 q2 q3) A9D (x6,x7)
noncomputable def B4U (p0 p1 p2:Int) (p3:LT1) (p4:LIbe) (p5 q0:Int) (q1:Lq1) (q2:Int) (q3:List Int) (a:B0E):CT:=(.br (a.1==0) (.done .ret B3y (((),(),(),(),a.2,C9h),())) (.br (a.1==1) (.done (.exit 0) B78 ((D1f),((p0,p1,p2,p3,p4,p5,()),(q0,q1,q2,q3,()),()))) .fail))
noncomputable def C5S (x6:List Int) (x7 p0 p1 p2:Int) (p3:LT1) (p4:LIbe) (p5 q0:Int) (q1:Lq1) (q2:Int) (q3:List Int):CT:=(B4U p0 p1 p2 p3 p4 p5 q0 q1 q2 q3) (B5b x6 x7 p0 p1 p2 p3 p4 p5 q0 q1 q2 q3)
noncomputable abbrev B1D {α:Sort _} (f:(List Int)→Int→Int→Int→Int→LT1→LIbe→Int→Int→Lq1→Int→(List Int)→α) (d:V3.den):α:=f d.1.2.2.2.2.2.2.1 d.1.2.2.2.2.2.2.2.1 d.2.1.1 d.2.1.2.1 d.2.1.2.2.1 d.2.1.2.2.2.1 d.2.1.2.2.2.2.1 d.2.1.2.2.2.2.2.1 d.2.2.1.1 d.2.2.1.2.1 d.2.2.1.2.2.1 d.2.2.1.2.2.2.1
noncomputable abbrev B5y:V3.den→RT V3.den:=(B1D C0s)
noncomputable def B6y:Code:=((C9 0 (A0N Try.f44)).getD 0 (0,.skip)).2
noncomputable abbrev C0b (p0 p1 p2:Int) (p3:LT1) (p4:LIbe) (p5 q0:Int) (q1:Lq1) (q2:Int) (q3:List Int) (v:B23):V3.den:=(((),(),(),(),(),(),v.1,v.2,C9I),((p0,p1,p2,p3,p4,p5,()),(q0,q1,q2,q3,()),()))
theorem C5m (p0 p1 p2:Int) (p3:LT1) (p4:LIbe) (p5 q0:Int) (q1:Lq1) (q2:Int) (q3:List Int):(∀ v:B23,(C0s v.1 v.2 p0 p1 p2 p3 p4 p5 q0 q1 q2 q3).val=A6u (C0b p0 p1 p2 p3 p4 p5 q0 q1 q2 q3) (B4U p0 p1 p2 p3 p4 p5 q0 q1 q2 q3) (B1N v.1 v.2 p0 p1 p2 p3 p4 p5 q0 q1 q2 q3))∧∀ a:B0E,CEnd V3.den ((B4U p0 p1 p2 p3 p4 p5 q0 q1 q2 q3) a):=⟨fun v=>by repeat' first | apply A7x | rfl,fun a=>(A7k aCD (A7k aCD A7m))⟩
noncomputable def B93 (x6:List Int) (x7 p0 p1 p2:Int) (p3:LT1) (p4:LIbe) (p5 q0:Int) (q1:Lq1) (q2:Int) (q3:List Int):Option (Ex×St):=let z1:=(⟨(.junk::.junk::(.ptr 0 0 1 0)::.junk::.junk::(.ptr 1 0 1 0)::(.t true W3 x6)::(ti (wI (x7+(1:Int))))::C9j),[(.box [(ti p0),(ti p1),(ti p2),(.t false tq2 p3),(.t false tq4 p4),(ti p5)]),(.box [(ti q0),(.t false tq5 q1),(ti q2),(.t false W3 q3)])],0,[]⟩:St);let z2:=(⟨(.junk::.junk::.junk::.junk::(.t true .bool false)::D0N),[],0,[]⟩:St);let z3:=wI (x7 - (1:Int));let z4:=q3.getD x7.toNat (0:Int);let z5:=decide (0≤x7∧x7<(q3.length:Int));(cond (decide (x7<(q3.length:Int))) (cond z5 (cond (A0b x6 z4) (cond (!(B1i x6 z4)) (some (.ret,z2)) (cond (decide (x7 > (0:Int))) (cond (decide (0≤z3∧z3<(q3.length:Int))) (cond z5 (cond (decide ((q3.getD (z3.toNat) (0:Int)) ≥ z4)) (some (.ret,z2)) (some (.normal,z1))) none) none) (some (.normal,z1)))) none) none) (some ((.exit 0),(⟨(.junk::.junk::(.ptr 0 0 1 0)::.junk::.junk::(.ptr 1 0 1 0)::D0M),[(.box [(ti p0),(ti p1),(ti p2),(.t false tq2 p3),(.t false tq4 p4),(ti p5)]),(.box [(ti q0),(.t false tq5 q1),(ti q2),(.t false W3 q3)])],0,[]⟩:St))))
theorem C3V:RdA G28 aLn 0 B6y V3 0 [] (kepts [4] [(0,[2,5])]) (B1D B93):=by
 intro d
 kernel_rfl
theorem C3W:∀ d:V3.den,(B1D B93) d=(B5y d).opt 0 []:=by
 intro d
 kernel_rfl
noncomputable abbrev B8F:St→Option Tree:=V3.say 0 [] [] (B1D C5S)
theorem C47:aPL B8F B6y:=SS.wp2 hlz [] B5y C3V C3W _ (fun d=>Runs.ofI2 (step:=B5y) (C0b d.2.1.1 d.2.1.2.1 d.2.1.2.2.1 d.2.1.2.2.2.1 d.2.1.2.2.2.2.1 d.2.1.2.2.2.2.2.1 d.2.2.1.1 d.2.2.1.2.1 d.2.2.1.2.2.1 d.2.2.1.2.2.2.1) (C5m d.2.1.1 d.2.1.2.1 d.2.1.2.2.1 d.2.1.2.2.2.1 d.2.1.2.2.2.2.1 d.2.1.2.2.2.2.2.1 d.2.2.1.1 d.2.2.1.2.1 d.2.2.1.2.2.1 d.2.2.1.2.2.2.1) rfl (d.1.2.2.2.2.2.2.1,d.1.2.2.2.2.2.2.2.1))
noncomputable def B5e (a1 a2:Int) (a3:LT1) (a6:Int):=let z1:=wI (a1*(1000:Int));I8 ((a3.getD a6.toNat ((0:Int),([],((0:Int),[])))).1) z1 (wI ((wI (z1+a2)) - (1:Int)))
noncomputable def B5f (a3:LT1) (a6:Int):=I8 ((((a3.getD a6.toNat ((0:Int),([],((0:Int),[])))).2).2).1) (1:Int) (3:Int)
noncomputable def B5g (a0 a1 a2:Int) (a3:LT1) (a4:LIbe) (a5 a6:Int):=let z1:=a3.getD a6.toNat ((0:Int),([],((0:Int),[])));B5b (R9 ((z1.2).1) a0) (0:Int) a0 a1 a2 a3 a4 a5 (z1.1) ((z1.2).1) (((z1.2).2).1) (((z1.2).2).2)
noncomputable def B7P (a0 a1 a2:Int) (a3:LT1) (a4:LIbe) (a5 a6:Int):Bool:=let z2:=a3.getD a6.toNat ((0:Int),([],((0:Int),[])));let z4:=Z4 a0 a1 a2 a3 a4 a5 (z2.1);let z3:=(a4.getD (z4.toNat) ((0:Int),false)).2;let z5:=B5g a0 a1 a2 a3 a4 a5 a6;let z1:=cond (!(B3R ((z2.2).1))) false (cond (!(B5f a3 a6)) false (cond (z5.1==0) (z5.2) (cond (decide (z4<(0:Int))) ((((z2.2).2).1)==(1:Int)) (cond ((((z2.2).2).1)==(2:Int)) (cond z3 true (cond ((((z2.2).2).1)==(3:Int)) (!z3) false)) (cond ((((z2.2).2).1)==(3:Int)) (!z3) false)))));(cond (!(B5e a1 a2 a3 a6)) false (cond (decide (a6 > (0:Int))) (cond (decide (((a3.getD ((wI (a6 - (1:Int))).toNat) ((0:Int),([],((0:Int),[])))).1) ≥ (z2.1))) false z1) z1))
noncomputable abbrev H9 (r:Bool):AV×List AObj:=((.t true .bool r),[])
noncomputable abbrev C0G:H6 B4d→AV×List AObj:=fun d=>H9 (B7P d.1.1 d.1.2.1 d.1.2.2.1 d.1.2.2.2.1 d.1.2.2.2.2.1 d.1.2.2.2.2.2.1 d.2.1)
noncomputable def A87 (a0 a1 a2:Int) (a3:LT1) (a4:LIbe) (a5 a6:Int):Bool:=let z2:=a3.getD a6.toNat ((0:Int),([],((0:Int),[])));let z3:=Z4 a0 a1 a2 a3 a4 a5 (z2.1);let z4:=wI (a6 - (1:Int));let z5:=decide (0≤z3∧z3<(a4.length:Int));let z6:=B5g a0 a1 a2 a3 a4 a5 a6;let z1:=(B4B ((z2.2).1))&&(cond (!(B3R ((z2.2).1))) true (cond (!(B5f a3 a6)) true ((Y0 ((z2.2).1) a0)&&(cond (z6.1==0) true ((z6.1==1)&&((O3 a0 a1 a2 a3 a4 a5 (z2.1))&&(cond (decide (z3<(0:Int))) true (cond ((((z2.2).2).1)==(2:Int)) (z5&&(cond ((a4.getD (z3.toNat) ((0:Int),false)).2) true (cond ((((z2.2).2).1)==(3:Int)) z5 true))) (cond ((((z2.2).2).1)==(3:Int)) z5 true)))))))));(decide (0≤a6∧a6<(a3.length:Int)))&&(cond (!(B5e a1 a2 a3 a6)) true (cond (decide (a6 > (0:Int))) ((decide (0≤z4∧z4<(a3.length:Int)))&&(cond (decide (((a3.getD (z4.toNat) ((0:Int),([],((0:Int),[])))).1) ≥ (z2.1))) true z1)) z1))
noncomputable abbrev B68:H6 B4d→Bool:=fun d=>A87 d.1.1 d.1.2.1 d.1.2.2.1 d.1.2.2.2.1 d.1.2.2.2.2.1 d.1.2.2.2.2.2.1 d.2.1
noncomputable abbrev C7P:Nat→St→Option Tree:=fun b=>match b with | 0=>B8F | _=>fun _=>none
theorem C6C:A7s true G28 (C7P) Try.f44 B4d B68 C0G:=by
 rintro ⟨⟨a0,⟨a1,⟨a2,⟨a3,⟨a4,⟨a5,_⟩⟩⟩⟩⟩⟩,⟨a6,_⟩⟩ hp
 change A87 a0 a1 a2 a3 a4 a5 a6=true at hp
 unfold A87 at hp
 refine Eq.trans (b:=(let z1:=a3.getD a6.toNat ((0:Int),([],((0:Int),[])));let z2:=Z4 a0 a1 a2 a3 a4 a5 (z1.1);let z3:=(a4.getD (z2.toNat) ((0:Int),false)).2;let z4:=decide (0≤z2∧z2<(a4.length:Int));let z5:=B5g a0 a1 a2 a3 a4 a5 a6;let z6:=wI (a6 - (1:Int));let z7:=H9 (!z3);let z8:=O3 a0 a1 a2 a3 a4 a5 (z1.1);let z9:=H9 ((((z1.2).2).1)==(1:Int));let z10:=Y0 ((z1.2).1) a0;let z11:=!(B3R ((z1.2).1));let z12:=B4B ((z1.2).1);let z13:=!(B5f a3 a6);let z14:=decide (z2<(0:Int));cond (decide (0≤a6∧a6<(a3.length:Int))) (cond (!(B5e a1 a2 a3 a6)) (some (H9 false)) (cond (decide (a6 > (0:Int))) (cond (decide (0≤z6∧z6<(a3.length:Int))) (cond (decide (((a3.getD (z6.toNat) ((0:Int),([],((0:Int),[])))).1) ≥ (z1.1))) (some (H9 false)) (cond z12 (cond z11 (some (H9 false)) (cond z13 (some (H9 false)) (cond z10 (cond (z5.1==0) (some (H9 (z5.2))) (cond (z5.1==1) (cond z8 (cond z14 (some z9) (cond ((((z1.2).2).1)==(2:Int)) (cond z4 (cond z3 (some (H9 true)) (cond ((((z1.2).2).1)==(3:Int)) (cond z4 (some z7) none) (some (H9 false)))) none) (cond ((((z1.2).2).1)==(3:Int)) (cond z4 (some z7) none) (some (H9 false))))) none) none)) none))) none)) none) (cond z12 (cond z11 (some (H9 false)) (cond z13 (some (H9 false)) (cond z10 (cond (z5.1==0) (some (H9 (z5.2))) (cond (z5.1==1) (cond z8 (cond z14 (some z9) (cond ((((z1.2).2).1)==(2:Int)) (cond z4 (cond z3 (some (H9 true)) (cond ((((z1.2).2).1)==(3:Int)) (cond z4 (some z7) none) (some (H9 false)))) none) (cond ((((z1.2).2).1)==(3:Int)) (cond z4 (some z7) none) (some (H9 false))))) none) none)) none))) none))) none)) (by kernel_rfl) ?_
 exact (A7t hp fun hp=>(K6 H9 hp (fun hp=>rfl) (fun hp=>(K6 H9 hp (fun hp=>(A7t hp fun hp=>(K6 H9 hp (fun hp=>rfl) (fun hp=>(A7t hp fun hp=>(K6 H9 hp (fun hp=>rfl) (fun hp=>(K6 H9 hp (fun hp=>rfl) (fun hp=>(A7t hp fun hp=>(K6 H9 hp (fun hp=>rfl) (fun hp=>(A7t hp fun hp=>(A7t hp fun hp=>(K6 H9 hp (fun hp=>rfl) (fun hp=>(K6 H9 hp (fun hp=>(A7t hp fun hp=>(K6 H9 hp (fun hp=>rfl) (fun hp=>(K6 H9 hp (fun hp=>(A7v hp fun _h=>rfl)) (fun hp=>rfl)))))) (fun hp=>(K6 H9 hp (fun hp=>(A7v hp fun _h=>rfl)) (fun hp=>rfl)))))))))))))))))))) (fun hp=>(A7t hp fun hp=>(K6 H9 hp (fun hp=>rfl) (fun hp=>(K6 H9 hp (fun hp=>rfl) (fun hp=>(A7t hp fun hp=>(K6 H9 hp (fun hp=>rfl) (fun hp=>(A7t hp fun hp=>(A7t hp fun hp=>(K6 H9 hp (fun hp=>rfl) (fun hp=>(K6 H9 hp (fun hp=>(A7t hp fun hp=>(K6 H9 hp (fun hp=>rfl) (fun hp=>(K6 H9 hp (fun hp=>(A7v hp fun _h=>rfl)) (fun hp=>rfl)))))) (fun hp=>(K6 H9 hp (fun hp=>(A7v hp fun _h=>rfl)) (fun hp=>rfl)))))))))))))))))))))
theorem C71:aPP 44 (A2W B4d B68 C0G):=pcD true G28 (hl1 (i:=0) (by kernel_rfl) C47) C6C
noncomputable def S29:Tab:=Tab.add S28 44 (lift (A2W B4d B68 C0G))
noncomputable def C92:FuncId→Bool:=qadd C91 44
theorem G29:aPG S29 C92:=G28.addQ C71 (cbl Try.f44) (fun _=>rfl)

abbrev D04:List Sh:=.junk::.junk::.junk::.junk::.junk::.junk::.junk::.junk::.junk::.junk::.junk::.junk::.junk::.junk::.junk::.junk::.junk::.junk::.junk::.junk::.junk::.junk::.junk::.junk::.junk::.junk::.junk::.junk::.junk::.junk::.junk::.junk::.junk::.junk::.junk::.junk::.junk::.junk::C2D
abbrev C9E:List Sh:=.junk::D04
abbrev D05:List Sh:=.junk::C9E
abbrev u79:=((),(),(),(),(),(),(),(),(),(),(),(),(),(),(),(),(),(),(),(),(),(),(),(),(),(),(),(),(),(),(),(),(),(),(),(),u43)
abbrev u78:=((),(),(),(),(),(),(),(),(),(),(),(),(),(),(),(),(),(),(),(),(),(),(),(),(),(),(),(),(),(),(),(),(),(),(),u43)
abbrev u82:=((),(),(),u79)
abbrev C9t:List AV:=.junk::.junk::.junk::.junk::.junk::.junk::.junk::.junk::.junk::.junk::.junk::.junk::.junk::.junk::.junk::.junk::.junk::.junk::.junk::.junk::.junk::.junk::.junk::.junk::.junk::.junk::.junk::.junk::.junk::.junk::.junk::.junk::.junk::.junk::.junk::.junk::.junk::.junk::.junk::C0I
abbrev D1s:List AV:=.junk::.junk::.junk::.junk::.junk::.junk::.junk::.junk::.junk::.junk::.junk::.junk::.junk::.junk::.junk::.junk::.junk::.junk::.junk::.junk::.junk::.junk::.junk::.junk::.junk::.junk::.junk::.junk::.junk::.junk::.junk::.junk::.junk::.junk::.junk::.junk::.junk::.junk::C0I
abbrev D0S:List AV:=.junk::C9t
abbrev D1D:List Sh:=.junk::.junk::.junk::.junk::.junk::.junk::.junk::.junk::.junk::.junk::.junk::.junk::.junk::.junk::.junk::.junk::.junk::.junk::.junk::.junk::.junk::.junk::.junk::.junk::.junk::.junk::.junk::.junk::.junk::.junk::.junk::.junk::.junk::.junk::.junk::.junk::.junk::C2D
abbrev C9F:List Sh:=.junk::D05
abbrev u77:=((),(),(),(),(),(),(),(),(),(),(),(),(),(),(),(),(),(),(),(),(),(),(),(),(),(),(),(),(),(),(),(),(),(),u43)
abbrev D1r:List AV:=.junk::.junk::.junk::.junk::.junk::.junk::.junk::.junk::.junk::.junk::.junk::.junk::.junk::.junk::.junk::.junk::.junk::.junk::.junk::.junk::.junk::.junk::.junk::.junk::.junk::.junk::.junk::.junk::.junk::.junk::.junk::.junk::.junk::.junk::.junk::.junk::.junk::C0I
abbrev C9u:List AV:=.junk::D0S
abbrev B2a:List PSh:=[.agg [(.int .i64),(.int .i64),(.int .i64),tq2,tq4,(.int .i64)]]
noncomputable def B1a:Code:=((C9 0 (A0N Try.f14)).getD 0 (0,.skip)).2
noncomputable def B1b:Code:=((C9 0 (A0N Try.f14)).getD 1 (0,.skip)).2
abbrev Q4:SS:=⟨(.junk::.ptr 0 0 1 0::.junk::tI::D04),[.box [tI,tI,tI,.t false tq2,.t false tq4,tI]]⟩
abbrev B11:SS:=⟨(.junk::.junk::.t true .bool::C9E),[]⟩
abbrev B6a:SS:=⟨(.junk::.ptr 0 0 1 0::D05),[.box [tI,tI,tI,.t false tq2,.t false tq4,tI]]⟩
noncomputable def B3k (x3 p1 p2:Int) (p4:LIbe):=I8 ((p4.getD x3.toNat ((0:Int),false)).1) (1000:Int) (wI ((wI ((wI (p1*(1000:Int)))+p2)) - (1:Int)))
noncomputable def B8J (x3 p0 p1 p2:Int) (p3:LT1) (p4:LIbe) (p5:Int):RT Q4.den:=let z1:=(p4.getD x3.toNat ((0:Int),false)).1;let z2:=decide (0≤x3∧x3<(p4.length:Int));(.br (decide (x3<(p4.length:Int))) (.br z2 (.br (!(B3k x3 p1 p2 p4)) (.done .ret B11 (((),(),false,u79),())) (.br z2 (.br (O3 p0 p1 p2 p3 p4 p5 z1) (.br ((Z4 p0 p1 p2 p3 p4 p5 z1) != x3) (.done .ret B11 (((),(),false,u79),())) (.next (((),(),(),wI (x3+(1:Int)),u78),((p0,p1,p2,p3,p4,p5,()),())))) .fail) .fail)) .fail) (.done (.exit 0) B6a ((u82),((p0,p1,p2,p3,p4,p5,()),()))))
abbrev B1B:=(Int)
abbrev A9f:=Nat×(Bool)
def B0y:A9f:=(99,(false:Bool))
noncomputable def B0B (x3 p0 p1 p2:Int) (p3:LT1) (p4:LIbe) (p5:Int):B1B ⊕ A9f:=let z1:=(p4.getD x3.toNat ((0:Int),false)).1;let z2:=decide (0≤x3∧x3<(p4.length:Int));(cond (decide (x3<(p4.length:Int))) (cond z2 (cond (!(B3k x3 p1 p2 p4)) (.inr (0,false)) (cond z2 (cond (O3 p0 p1 p2 p3 p4 p5 z1) (cond ((Z4 p0 p1 p2 p3 p4 p5 z1) != x3) (.inr (0,false)) (.inl (wI (x3+(1:Int))))) (.inr B0y)) (.inr B0y))) (.inr B0y)) (.inr (1,(false:Bool))))
noncomputable def A8y (x3 p0 p1 p2:Int) (p3:LT1) (p4:LIbe) (p5:Int):A9f:=itX (fun v:B1B=>B0B v p0 p1 p2 p3 p4 p5) B0y x3
noncomputable def B3B (p0 p1 p2:Int) (p3:LT1) (p4:LIbe) (p5:Int) (a:A9f):CT:=(.br (a.1==0) (.done .ret B11 (((),(),a.2,u79),())) (.br (a.1==1) (.done (.exit 0) B6a ((u82),((p0,p1,p2,p3,p4,p5,()),()))) .fail))
noncomputable def C4v (x3 p0 p1 p2:Int) (p3:LT1) (p4:LIbe) (p5:Int):CT:=(B3B p0 p1 p2 p3 p4 p5) (A8y x3 p0 p1 p2 p3 p4 p5)
noncomputable abbrev B0t {α:Sort _} (f:Int→Int→Int→Int→LT1→LIbe→Int→α) (d:Q4.den):α:=f d.1.2.2.2.1 d.2.1.1 d.2.1.2.1 d.2.1.2.2.1 d.2.1.2.2.2.1 d.2.1.2.2.2.2.1 d.2.1.2.2.2.2.2.1
noncomputable abbrev B3U:Q4.den→RT Q4.den:=(B0t B8J)
noncomputable abbrev B8w (p0 p1 p2:Int) (p3:LT1) (p4:LIbe) (p5:Int) (v:B1B):Q4.den:=(((),(),(),v,u78),((p0,p1,p2,p3,p4,p5,()),()))
theorem C3Z (p0 p1 p2:Int) (p3:LT1) (p4:LIbe) (p5:Int):(∀ v:B1B,(B8J v p0 p1 p2 p3 p4 p5).val=A6u (B8w p0 p1 p2 p3 p4 p5) (B3B p0 p1 p2 p3 p4 p5) (B0B v p0 p1 p2 p3 p4 p5))∧∀ a:A9f,CEnd Q4.den ((B3B p0 p1 p2 p3 p4 p5) a):=⟨fun v=>by repeat' first | apply A7x | rfl,fun a=>(A7k aCD (A7k aCD A7m))⟩
noncomputable def B8m (x3 p0 p1 p2:Int) (p3:LT1) (p4:LIbe) (p5:Int):Option (Ex×St):=let z1:=(⟨(.junk::.junk::(.t true .bool false)::C9t),[],0,[]⟩:St);let z2:=(p4.getD x3.toNat ((0:Int),false)).1;let z3:=decide (0≤x3∧x3<(p4.length:Int));(cond (decide (x3<(p4.length:Int))) (cond z3 (cond (!(B3k x3 p1 p2 p4)) (some (.ret,z1)) (cond z3 (cond (O3 p0 p1 p2 p3 p4 p5 z2) (cond ((Z4 p0 p1 p2 p3 p4 p5 z2) != x3) (some (.ret,z1)) (some (.normal,(⟨(.junk::(.ptr 0 0 1 0)::.junk::(ti (wI (x3+(1:Int))))::D1s),[(.box [(ti p0),(ti p1),(ti p2),(.t false tq2 p3),(.t false tq4 p4),(ti p5)])],0,[]⟩:St)))) none) none)) none) (some ((.exit 0),(⟨(.junk::(.ptr 0 0 1 0)::D0S),[(.box [(ti p0),(ti p1),(ti p2),(.t false tq2 p3),(.t false tq4 p4),(ti p5)])],0,[]⟩:St))))
theorem C2Y:RdA G29 aLn 0 B1a Q4 0 [] (kepts [2] [(0,[1])]) (B0t B8m):=by
 intro d
 kernel_rfl
theorem C25:∀ d:Q4.den,(B0t B8m) d=(B3U d).opt 0 []:=by
 intro d
 kernel_rfl
noncomputable abbrev B7n:St→Option Tree:=Q4.say 0 [] [] (B0t C4v)
theorem C3L:aPL B7n B1a:=SS.wp2 hlz [] B3U C2Y C25 _ (fun d=>Runs.ofI2 (step:=B3U) (B8w d.2.1.1 d.2.1.2.1 d.2.1.2.2.1 d.2.1.2.2.2.1 d.2.1.2.2.2.2.1 d.2.1.2.2.2.2.2.1) (C3Z d.2.1.1 d.2.1.2.1 d.2.1.2.2.1 d.2.1.2.2.2.1 d.2.1.2.2.2.2.1 d.2.1.2.2.2.2.2.1) rfl d.1.2.2.2.1)
abbrev Q5:SS:=⟨(.junk::.ptr 0 0 1 0::.junk::.junk::tI::D1D),[.box [tI,tI,tI,.t false tq2,.t false tq4,tI]]⟩
abbrev B6b:SS:=⟨(.junk::.junk::.t true .bool::C9E),[]⟩
abbrev B6c:SS:=⟨(.junk::C9F),[]⟩
noncomputable def B8K (x4 p0 p1 p2:Int) (p3:LT1) (p4:LIbe) (p5:Int):RT Q5.den:=(.br (decide (x4<(p3.length:Int))) (.br (A87 p0 p1 p2 p3 p4 p5 x4) (.br (!(B7P p0 p1 p2 p3 p4 p5 x4)) (.done .ret B6b (((),(),false,u79),())) (.next (((),(),(),(),wI (x4+(1:Int)),u77),((p0,p1,p2,p3,p4,p5,()),())))) .fail) (.done (.exit 2) B6c ((u82),())))
abbrev B1C:=(Int)
abbrev A9g:=Nat×(Bool)
def B8h:A9g:=(99,(false:Bool))
noncomputable def B0C (x4 p0 p1 p2:Int) (p3:LT1) (p4:LIbe) (p5:Int):B1C ⊕ A9g:=(cond (decide (x4<(p3.length:Int))) (cond (A87 p0 p1 p2 p3 p4 p5 x4) (cond (!(B7P p0 p1 p2 p3 p4 p5 x4)) (.inr (0,false)) (.inl (wI (x4+(1:Int))))) (.inr B8h)) (.inr (1,(false:Bool))))
noncomputable def A8z (x4 p0 p1 p2:Int) (p3:LT1) (p4:LIbe) (p5:Int):A9g:=itX (fun v:B1C=>B0C v p0 p1 p2 p3 p4 p5) B8h x4
noncomputable def B3C (p0 p1 p2:Int) (p3:LT1) (p4:LIbe) (p5:Int) (a:A9g):CT:=(.br (a.1==0) (.done .ret B6b (((),(),a.2,u79),())) (.br (a.1==1) (.done (.exit 2) B6c ((u82),())) .fail))
noncomputable def C4w (x4 p0 p1 p2:Int) (p3:LT1) (p4:LIbe) (p5:Int):CT:=(B3C p0 p1 p2 p3 p4 p5) (A8z x4 p0 p1 p2 p3 p4 p5)
noncomputable abbrev B0u {α:Sort _} (f:Int→Int→Int→Int→LT1→LIbe→Int→α) (d:Q5.den):α:=f d.1.2.2.2.2.1 d.2.1.1 d.2.1.2.1 d.2.1.2.2.1 d.2.1.2.2.2.1 d.2.1.2.2.2.2.1 d.2.1.2.2.2.2.2.1
noncomputable abbrev B3V:Q5.den→RT Q5.den:=(B0u B8K)
noncomputable abbrev B8x (p0 p1 p2:Int) (p3:LT1) (p4:LIbe) (p5:Int) (v:B1C):Q5.den:=(((),(),(),(),v,u77),((p0,p1,p2,p3,p4,p5,()),()))
theorem C30 (p0 p1 p2:Int) (p3:LT1) (p4:LIbe) (p5:Int):(∀ v:B1C,(B8K v p0 p1 p2 p3 p4 p5).val=A6u (B8x p0 p1 p2 p3 p4 p5) (B3C p0 p1 p2 p3 p4 p5) (B0C v p0 p1 p2 p3 p4 p5))∧∀ a:A9g,CEnd Q5.den ((B3C p0 p1 p2 p3 p4 p5) a):=⟨fun v=>(A7x (A7x (A7x rfl rfl) rfl) rfl),fun a=>(A7k aCD (A7k aCD A7m))⟩
noncomputable def B8n (x4 p0 p1 p2:Int) (p3:LT1) (p4:LIbe) (p5:Int):Option (Ex×St):=(cond (decide (x4<(p3.length:Int))) (cond (A87 p0 p1 p2 p3 p4 p5 x4) (cond (!(B7P p0 p1 p2 p3 p4 p5 x4)) (some (.ret,(⟨(.junk::.junk::(.t true .bool false)::C9t),[],0,[]⟩:St))) (some (.normal,(⟨(.junk::(.ptr 0 0 1 0)::.junk::.junk::(ti (wI (x4+(1:Int))))::D1r),[(.box [(ti p0),(ti p1),(ti p2),(.t false tq2 p3),(.t false tq4 p4),(ti p5)])],0,[]⟩:St)))) none) (some ((.exit 2),(⟨(.junk::C9u),[],0,[]⟩:St))))
theorem C2Z:RdA G29 aLn 2 B1b Q5 0 [] (kepts [2] [(2,[])]) (B0u B8n):=by
 intro d
 kernel_rfl
theorem C26:∀ d:Q5.den,(B0u B8n) d=(B3V d).opt 0 []:=by
 intro d
 kernel_rfl
noncomputable abbrev B7o:St→Option Tree:=Q5.say 0 [] [] (B0u C4w)
theorem C3M:aPL B7o B1b:=SS.wp2 hlz [] B3V C2Z C26 _ (fun d=>Runs.ofI2 (step:=B3V) (B8x d.2.1.1 d.2.1.2.1 d.2.1.2.2.1 d.2.1.2.2.2.1 d.2.1.2.2.2.2.1 d.2.1.2.2.2.2.2.1) (C30 d.2.1.1 d.2.1.2.1 d.2.1.2.2.1 d.2.1.2.2.2.1 d.2.1.2.2.2.2.1 d.2.1.2.2.2.2.2.1) rfl d.1.2.2.2.2.1)
noncomputable def A9S (a0 a1 a2:Int) (a3:LT1) (a4:LIbe) (a5:Int):Bool:=let z1:=A8y (0:Int) a0 a1 a2 a3 a4 a5;let z2:=A8z (0:Int) a0 a1 a2 a3 a4 a5;(cond (!(I8 a0 (1:Int) (8:Int))) false (cond (!(I8 a1 (1:Int) (900:Int))) false (cond (!(I8 a2 (0:Int) (999:Int))) false (cond (decide ((a4.length:Int) > (1000:Int))) false (cond (!(I8 a5 (0:Int) (a4.length:Int))) false (cond (z1.1==0) (z1.2) (cond (z2.1==0) (z2.2) true)))))))
noncomputable abbrev L6 (r:Bool):AV×List AObj:=((.t true .bool r),[])
noncomputable abbrev B81:H6 B2a→AV×List AObj:=fun d=>L6 (A9S d.1.1 d.1.2.1 d.1.2.2.1 d.1.2.2.2.1 d.1.2.2.2.2.1 d.1.2.2.2.2.2.1)
noncomputable def A8Y (a0 a1 a2:Int) (a3:LT1) (a4:LIbe) (a5:Int):Bool:=let z1:=A8y (0:Int) a0 a1 a2 a3 a4 a5;let z2:=A8z (0:Int) a0 a1 a2 a3 a4 a5;cond (!(I8 a0 (1:Int) (8:Int))) true (cond (!(I8 a1 (1:Int) (900:Int))) true (cond (!(I8 a2 (0:Int) (999:Int))) true (cond (decide ((a4.length:Int) > (1000:Int))) true (cond (!(I8 a5 (0:Int) (a4.length:Int))) true (cond (z1.1==0) true ((z1.1==1)&&(cond (z2.1==0) true (z2.1==1))))))))
noncomputable abbrev B5q:H6 B2a→Bool:=fun d=>A8Y d.1.1 d.1.2.1 d.1.2.2.1 d.1.2.2.2.1 d.1.2.2.2.2.1 d.1.2.2.2.2.2.1
noncomputable abbrev C6L:Nat→St→Option Tree:=fun b=>match b with | 0=>B7n | 2=>B7o | _=>fun _=>none
theorem C5v:A7s true G29 (C6L) Try.f14 B2a B5q B81:=by
 rintro ⟨⟨a0,⟨a1,⟨a2,⟨a3,⟨a4,⟨a5,_⟩⟩⟩⟩⟩⟩,_⟩ hp
 change A8Y a0 a1 a2 a3 a4 a5=true at hp
 unfold A8Y at hp
 refine Eq.trans (b:=(let z1:=A8y (0:Int) a0 a1 a2 a3 a4 a5;let z2:=A8z (0:Int) a0 a1 a2 a3 a4 a5;cond (!(I8 a0 (1:Int) (8:Int))) (some (L6 false)) (cond (!(I8 a1 (1:Int) (900:Int))) (some (L6 false)) (cond (!(I8 a2 (0:Int) (999:Int))) (some (L6 false)) (cond (decide ((a4.length:Int) > (1000:Int))) (some (L6 false)) (cond (!(I8 a5 (0:Int) (a4.length:Int))) (some (L6 false)) (cond (z1.1==0) (some (L6 (z1.2))) (cond (z1.1==1) (cond (z2.1==0) (some (L6 (z2.2))) (cond (z2.1==1) (some (L6 true)) none)) none)))))))) (by kernel_rfl) ?_
 exact (K6 L6 hp (fun hp=>rfl) (fun hp=>(K6 L6 hp (fun hp=>rfl) (fun hp=>(K6 L6 hp (fun hp=>rfl) (fun hp=>(K6 L6 hp (fun hp=>rfl) (fun hp=>(K6 L6 hp (fun hp=>rfl) (fun hp=>(K6 L6 hp (fun hp=>rfl) (fun hp=>(A7t hp fun hp=>(K6 L6 hp (fun hp=>rfl) (fun hp=>(A7v hp fun _h=>rfl))))))))))))))))
theorem C66:aPP 14 (A2W B2a B5q B81):=pcD true G29 (by
  rw [show C9 0 (A0N Try.f14)=[(0,B1a),(2,B1b)] by kernel_rfl];intro p hp;simp only [List.mem_cons,List.mem_nil_iff,or_false] at hp
  rcases hp with rfl | rfl
  ·exact C3L
  ·exact C3M) C5v
noncomputable def S30:Tab:=Tab.add S29 14 (lift (A2W B2a B5q B81))
noncomputable def C93:FuncId→Bool:=qadd C92 14
theorem G30:aPG S30 C93:=G29.addQ C66 (cbl Try.f14) (fun _=>rfl)

abbrev B1x:SS:=⟨[.ptr 0 0 1 0,tI],[.box [tI,tI,tI,.all 1 4,.all 2 2,tI],.rows 48 true tq3,.rows 43 true W2]⟩
noncomputable def A89 (x1 p0 p1 p2 p5:Int) (h1:LT1) (h2:LIbe):Bool×Int×Int×Int×Int×LT1×LIbe:=let z1:=wI ((h2.length:Int) - p5);let z2:=wI (p5+z1);let z3:=wI (p5+(0:Int));let z4:=wI (p5+x1);(cond (p1==(900:Int)) (false,p0,p1,p2,p5,h1,h2) (cond (decide (x1<(0:Int))) (cond (decide ((0:Int) > z1)) (true,p0,wI (p1+(1:Int)),(0:Int),((z2.toNat:Nat):Int),([]:LT1),h2.take (z2.toNat)) (true,p0,wI (p1+(1:Int)),(0:Int),((z3.toNat:Nat):Int),([]:LT1),h2.take (z3.toNat))) (cond (decide (x1 > z1)) (true,p0,wI (p1+(1:Int)),(0:Int),((z2.toNat:Nat):Int),([]:LT1),h2.take (z2.toNat)) (true,p0,wI (p1+(1:Int)),(0:Int),((z4.toNat:Nat):Int),([]:LT1),h2.take (z4.toNat)))))
noncomputable abbrev V5 (r:Bool×Int×Int×Int×Int×LT1×LIbe):AV×List AObj×List Nat:=((.t true .bool r.1),[(.box [(ti r.2.1),(ti r.2.2.1),(ti r.2.2.2.1),(.all 1 4),(.all 2 2),(ti r.2.2.2.2.1)]),(.rows 48 true tq3 r.2.2.2.2.2.1),(.rows 43 true W2 r.2.2.2.2.2.2)],[1,2])
noncomputable abbrev C1g:B1x.den→AV×List AObj×List Nat:=fun d=>V5 (A89 d.1.2.1 d.2.1.1 d.2.1.2.1 d.2.1.2.2.1 d.2.1.2.2.2.2.2.1 d.2.2.1 d.2.2.2.1)
noncomputable def R7 (x1 p0 p1 p2 p5:Int) (h1:LT1) (h2:LIbe):Bool:=let z1:=wI ((h2.length:Int) - p5);let z3:=wI (p5+(0:Int));let z4:=wI (p5+x1);let z5:=wI (p5+z1);let z2:=decide (0≤(0:Int)∧(0:Int)≤z5∧z5≤(h2.length:Int));cond (p1==(900:Int)) true (cond (decide (x1<(0:Int))) (cond (decide ((0:Int) > z1)) z2 (decide (0≤(0:Int)∧(0:Int)≤z3∧z3≤(h2.length:Int)))) (cond (decide (x1 > z1)) z2 (decide (0≤(0:Int)∧(0:Int)≤z4∧z4≤(h2.length:Int)))))
noncomputable abbrev B8s:B1x.den→Bool:=fun d=>R7 d.1.2.1 d.2.1.1 d.2.1.2.1 d.2.1.2.2.1 d.2.1.2.2.2.2.2.1 d.2.2.1 d.2.2.2.1
theorem C4b:A7q false [] [1,2] [(0,3,1,48,tq3),(0,4,2,43,W2)] G30 aLn Try.f63 B1x B8s C1g:=by
 rintro ⟨⟨_,x1,_⟩,⟨⟨p0,p1,p2,_,_,p5,_⟩,h1,h2,_⟩⟩ hp
 change R7 x1 p0 p1 p2 p5 h1 h2=true at hp
 unfold R7 at hp
 refine Eq.trans (b:=(let z3:=wI (p5+(0:Int));let z4:=wI ((h2.length:Int) - p5);let z1:=wI (p5+z4);let z2:=V5 (true,p0,wI (p1+(1:Int)),(0:Int),((z1.toNat:Nat):Int),([]:LT1),h2.take (z1.toNat));let z5:=wI (p5+x1);let z6:=decide (0≤(0:Int)∧(0:Int)≤z1∧z1≤(h2.length:Int));cond (p1==(900:Int)) (some (V5 (false,p0,p1,p2,p5,h1,h2))) (cond (decide (x1<(0:Int))) (cond (decide ((0:Int) > z4)) (cond z6 (some z2) none) (cond (decide (0≤(0:Int)∧(0:Int)≤z3∧z3≤(h2.length:Int))) (some (V5 (true,p0,wI (p1+(1:Int)),(0:Int),((z3.toNat:Nat):Int),([]:LT1),h2.take (z3.toNat)))) none)) (cond (decide (x1 > z4)) (cond z6 (some z2) none) (cond (decide (0≤(0:Int)∧(0:Int)≤z5∧z5≤(h2.length:Int))) (some (V5 (true,p0,wI (p1+(1:Int)),(0:Int),((z5.toNat:Nat):Int),([]:LT1),h2.take (z5.toNat)))) none))))) (by kernel_rfl) ?_
 exact (K6 V5 hp (fun hp=>rfl) (fun hp=>(K6 V5 hp (fun hp=>(K6 V5 hp (fun hp=>(A7v hp fun _h=>rfl)) (fun hp=>(A7v hp fun _h=>rfl)))) (fun hp=>(K6 V5 hp (fun hp=>(A7v hp fun _h=>rfl)) (fun hp=>(A7v hp fun _h=>rfl)))))))
noncomputable abbrev C1p:=win E6 (msum B1x B8s C1g)
theorem C53:aPM 63 C1p:=(mcE false [] [1,2] [(0,3,1,48,tq3),(0,4,2,43,W2)]  G30 hlz C4b).win E6
noncomputable def S31:Tab:=Tab.add S30 63 (C1p)
noncomputable def C94:FuncId→Bool:=C93
theorem G31:aPG S31 C94:=G30.addM C53 (A62 _) (cbl Try.f63) (by kernel_rfl)

abbrev A8o:List PSh:=[.agg [(.int .i64),(.int .i64),(.int .i64),tq2,tq4,(.int .i64)],.t (.int .i64)]
noncomputable def B2A (a0 a1 a2:Int) (a3:LT1) (a4:LIbe) (a5 a6:Int):=let z1:=B2Q a0 a1 a2 a3 a4 a5;A89 a6 (z1.1) (z1.2.1) (z1.2.2.1) (z1.2.2.2.1) (z1.2.2.2.2.1) (z1.2.2.2.2.2)
noncomputable def A76 (a0 a1 a2:Int) (a3:LT1) (a4:LIbe) (a5 a6:Int):Int×Int×Int×LT1×LIbe×Int:=let z1:=B2A a0 a1 a2 a3 a4 a5 a6;let z2:=B2Q a0 a1 a2 a3 a4 a5;(cond (A9S a0 a1 a2 a3 a4 a5) ((z1.2.1),(z1.2.2.1),(z1.2.2.2.1),(z1.2.2.2.2.2.1),(z1.2.2.2.2.2.2),(z1.2.2.2.2.1)) ((z2.1),(z2.2.1),(z2.2.2.1),(z2.2.2.2.2.1),(z2.2.2.2.2.2),(z2.2.2.2.1)))
noncomputable abbrev B0w (r:Int×Int×Int×LT1×LIbe×Int):AV×List AObj:=((.agg [(ti r.1),(ti r.2.1),(ti r.2.2.1),(.t true tq2 r.2.2.2.1),(.t true tq4 r.2.2.2.2.1),(ti r.2.2.2.2.2)]),[])
noncomputable abbrev B3H:H6 A8o→AV×List AObj:=fun d=>B0w (A76 d.1.1 d.1.2.1 d.1.2.2.1 d.1.2.2.2.1 d.1.2.2.2.2.1 d.1.2.2.2.2.2.1 d.2.1)
noncomputable def O2 (a0 a1 a2:Int) (a3:LT1) (a4:LIbe) (a5 a6:Int):Bool:=let z1:=B2Q a0 a1 a2 a3 a4 a5;(A80 a0 a1 a2 a3 a4 a5)&&((A8Y a0 a1 a2 a3 a4 a5)&&(cond (A9S a0 a1 a2 a3 a4 a5) (R7 a6 (z1.1) (z1.2.1) (z1.2.2.1) (z1.2.2.2.1) (z1.2.2.2.2.1) (z1.2.2.2.2.2)) true))
noncomputable abbrev B1g:H6 A8o→Bool:=fun d=>O2 d.1.1 d.1.2.1 d.1.2.2.1 d.1.2.2.2.1 d.1.2.2.2.2.1 d.1.2.2.2.2.2.1 d.2.1
theorem C13:A7s true G31 aLn Try.f25 A8o B1g B3H:=by
 rintro ⟨⟨a0,⟨a1,⟨a2,⟨a3,⟨a4,⟨a5,_⟩⟩⟩⟩⟩⟩,⟨a6,_⟩⟩ hp
 change O2 a0 a1 a2 a3 a4 a5 a6=true at hp
 unfold O2 at hp
 refine Eq.trans (b:=(let z1:=B2Q a0 a1 a2 a3 a4 a5;let z2:=B2A a0 a1 a2 a3 a4 a5 a6;cond (A80 a0 a1 a2 a3 a4 a5) (cond (A8Y a0 a1 a2 a3 a4 a5) (cond (A9S a0 a1 a2 a3 a4 a5) (cond (R7 a6 (z1.1) (z1.2.1) (z1.2.2.1) (z1.2.2.2.1) (z1.2.2.2.2.1) (z1.2.2.2.2.2)) (some (B0w ((z2.2.1),(z2.2.2.1),(z2.2.2.2.1),(z2.2.2.2.2.2.1),(z2.2.2.2.2.2.2),(z2.2.2.2.2.1)))) none) (some (B0w ((z1.1),(z1.2.1),(z1.2.2.1),(z1.2.2.2.2.1),(z1.2.2.2.2.2),(z1.2.2.2.1))))) none) none)) (by kernel_rfl) ?_
 exact (A7t hp fun hp=>(A7t hp fun hp=>(K6 B0w hp (fun hp=>(A7v hp fun _h=>rfl)) (fun hp=>rfl))))
theorem C3F:aPP 25 (A2W A8o B1g B3H):=pcD true G31 hlz C13
noncomputable def S32:Tab:=Tab.add S31 25 (lift (A2W A8o B1g B3H))
noncomputable def C8P:FuncId→Bool:=qadd C94 25
theorem G32:aPG S32 C8P:=G31.addQ C3F (cbl Try.f25) (fun _=>rfl)

abbrev Y3:List PSh:=[.t tq5]
noncomputable def T0 (a0:Lq1):Lq1:=a0
noncomputable abbrev T5 (r:Lq1):AV×List AObj:=(.all 0 3,[.rows 90 true tq7 r])
noncomputable abbrev B2t:H6 Y3→AV×List AObj:=fun d=>T5 (T0 d.1)
noncomputable def L0 (a0:Lq1):Bool:=decide ((([]:Lq1).length+a0.length)*40≤MAXB)
noncomputable abbrev B0W:H6 Y3→Bool:=fun d=>L0 d.1
theorem B7T (a0:Lq1) (h0:0<a0.length) (hp:L0 a0=true):A6w false Try.prog tt S32 C8P aLn Try.f99 [.t (Ty.sl tq7).flat tq5 a0]=some (T5 a0):=by
 refine Eq.trans (b:=cond (decide (0<a0.length)) (cond (L0 a0) (some (T5 a0)) none) none) (by kernel_rfl) ?_
 rw [decide_eq_true h0,hp];rfl
theorem B7V (A:Option Addr) (c:Nat):A6w false Try.prog tt S32 C8P aLn Try.f99 [.raw (.slice A 0 c)]=some (T5 []):=by
 cases A<;>kernel_rfl
theorem B8N:aPP 99 (A2W Y3 B0W B2t):=PContract.split (e:=tq7) (pre:=L0) (g:=fun a0=>T5 (T0 a0)) (fun l h0 hp=>PCalls.of_run false G32 (fn:=Try.f99) (by kernel_rfl) (L:=fun _ _=>none) (by rw [show C9 0 (A0N Try.f99)=[] by kernel_rfl];simp) (B7T l h0 hp) rfl rfl) (fun A c=>PCalls.of_run false G32 (fn:=Try.f99) (by kernel_rfl) (L:=fun _ _=>none) (by rw [show C9 0 (A0N Try.f99)=[] by kernel_rfl];simp) (B7V A c) rfl rfl)
noncomputable def S33:Tab:=Tab.add S32 99 (lift (A2W Y3 B0W B2t))
noncomputable def C8Q:FuncId→Bool:=C8P
theorem G33:aPG S33 C8Q:=G32.add B8N ⟨Try.f99,by kernel_rfl,by kernel_rfl,by kernel_rfl⟩ (by kernel_rfl)

abbrev Y4:List PSh:=[.t W3]
noncomputable def T1 (a0:List (Int)):List (Int):=a0
noncomputable abbrev T6 (r:List (Int)):AV×List AObj:=(.all 0 1,[.rows 3 true (.int .i64) r])
noncomputable abbrev B2u:H6 Y4→AV×List AObj:=fun d=>T6 (T1 d.1)
noncomputable def L1 (a0:List (Int)):Bool:=decide ((([]:List (Int)).length+a0.length)*8≤MAXB)
noncomputable abbrev B0X:H6 Y4→Bool:=fun d=>L1 d.1
theorem B7U (a0:List (Int)) (h0:0<a0.length) (hp:L1 a0=true):A6w false Try.prog tt S33 C8Q aLn Try.f100 [.t (Ty.sl (.int .i64)).flat W3 a0]=some (T6 a0):=by
 refine Eq.trans (b:=cond (decide (0<a0.length)) (cond (L1 a0) (some (T6 a0)) none) none) (by kernel_rfl) ?_
 rw [decide_eq_true h0,hp];rfl
theorem B7W (A:Option Addr) (c:Nat):A6w false Try.prog tt S33 C8Q aLn Try.f100 [.raw (.slice A 0 c)]=some (T6 []):=by
 cases A<;>kernel_rfl
theorem B8O:aPP 100 (A2W Y4 B0X B2u):=PContract.split (e:=(.int .i64)) (pre:=L1) (g:=fun a0=>T6 (T1 a0)) (fun l h0 hp=>PCalls.of_run false G33 (fn:=Try.f100) (by kernel_rfl) (L:=fun _ _=>none) (by rw [show C9 0 (A0N Try.f100)=[] by kernel_rfl];simp) (B7U l h0 hp) rfl rfl) (fun A c=>PCalls.of_run false G33 (fn:=Try.f100) (by kernel_rfl) (L:=fun _ _=>none) (by rw [show C9 0 (A0N Try.f100)=[] by kernel_rfl];simp) (B7W A c) rfl rfl)
noncomputable def S34:Tab:=Tab.add S33 100 (lift (A2W Y4 B0X B2u))
noncomputable def C8R:FuncId→Bool:=C8Q
theorem G34:aPG S34 C8R:=G33.add B8O ⟨Try.f100,by kernel_rfl,by kernel_rfl,by kernel_rfl⟩ (by kernel_rfl)

abbrev Q1:List PSh:=[.t tq4]
noncomputable def P4 (a0:LIbe):LIbe:=a0
noncomputable abbrev M7 (r:LIbe):AV×List AObj:=(.all 0 2,[.rows 43 true W2 r])
noncomputable abbrev A9F:H6 Q1→AV×List AObj:=fun d=>M7 (P4 d.1)
noncomputable def K4 (a0:LIbe):Bool:=decide ((([]:LIbe).length+a0.length)*16≤MAXB)
noncomputable abbrev A8A:H6 Q1→Bool:=fun d=>K4 d.1
theorem B4C (a0:LIbe) (h0:0<a0.length) (hp:K4 a0=true):A6w false Try.prog tt S34 C8R aLn Try.f101 [.t (Ty.sl W2).flat tq4 a0]=some (M7 a0):=by
 refine Eq.trans (b:=cond (decide (0<a0.length)) (cond (K4 a0) (some (M7 a0)) none) none) (by kernel_rfl) ?_
 rw [decide_eq_true h0,hp];rfl
theorem B4D (A:Option Addr) (c:Nat):A6w false Try.prog tt S34 C8R aLn Try.f101 [.raw (.slice A 0 c)]=some (M7 []):=by
 cases A<;>kernel_rfl
theorem B4Q:aPP 101 (A2W Q1 A8A A9F):=PContract.split (e:=W2) (pre:=K4) (g:=fun a0=>M7 (P4 a0)) (fun l h0 hp=>PCalls.of_run false G34 (fn:=Try.f101) (by kernel_rfl) (L:=fun _ _=>none) (by rw [show C9 0 (A0N Try.f101)=[] by kernel_rfl];simp) (B4C l h0 hp) rfl rfl) (fun A c=>PCalls.of_run false G34 (fn:=Try.f101) (by kernel_rfl) (L:=fun _ _=>none) (by rw [show C9 0 (A0N Try.f101)=[] by kernel_rfl];simp) (B4D A c) rfl rfl)
noncomputable def S35:Tab:=Tab.add S34 101 (lift (A2W Q1 A8A A9F))
noncomputable def C95:FuncId→Bool:=C8R
theorem G35:aPG S35 C95:=G34.add B4Q ⟨Try.f101,by kernel_rfl,by kernel_rfl,by kernel_rfl⟩ (by kernel_rfl)

abbrev C9B:List Sh:=.junk::.junk::.junk::.junk::.junk::C4W
abbrev u36:=((),u35)
abbrev C84:List AV:=.junk::.junk::.junk::.junk::.junk::.junk::.junk::.junk::.junk::.junk::.junk::.junk::.junk::.junk::.junk::.junk::.junk::.junk::.junk::.junk::.junk::.junk::.junk::[]
abbrev C9q:List AV:=.junk::.junk::.junk::.junk::.junk::.junk::.junk::.junk::C84
abbrev A9j:List PSh:=[.agg [(.int .i64),(.int .i64),(.int .i64),tq2,tq4,(.int .i64)]]
abbrev M5:SS:=⟨(.junk::.ptr 0 0 1 0::.ptr 1 0 1 0::.ptr 2 0 1 0::.junk::.junk::.junk::.junk::.junk::.t false tq2::tI::tI::C87),[.box [tI,tI,tI,.t false tq2,.t false tq4,tI],.box [tI,tI,tI,.nil,.nil,tI],.box [tI,tI,tI,.all 3 4,.t false tq4,tI],.deep 48 [90,3] tq3]⟩
abbrev B31:SS:=⟨(.junk::.ptr 0 0 1 0::.ptr 1 0 1 0::.ptr 2 0 1 0::C9B),[.box [tI,tI,tI,.t false tq2,.t false tq4,tI],.box [tI,tI,tI,.nil,.nil,tI],.box [tI,tI,tI,.all 3 4,.t false tq4,tI],.deep 48 [90,3] tq3]⟩
noncomputable def B52 (x9:LT1) (x10 x11 p0 p1 p2:Int) (p3:LT1) (p4:LIbe) (p5 q0 q1 q2 q5 r0 r1 r2:Int) (r4:LIbe) (r5:Int) (h3:LT1):RT M5.den:=let z1:=x9.getD x11.toNat ((0:Int),([],((0:Int),[])));let z2:=T1 (((z1.2).2).2);let z3:=T0 ((z1.2).1);(.br (decide (x11<x10)) (.br (decide (0≤x11∧x11<(x9.length:Int))) (.br (L0 ((z1.2).1)) (.br (L1 (((z1.2).2).2)) (.br (decide ((h3.length+([(z1.1,(z3,(((z1.2).2).1,z2)))]:LT1).length)*64≤MAXB)) (.next (((),(),(),(),(),(),(),(),(),x9,x10,wI (x11+(1:Int)),u24),((p0,p1,p2,p3,p4,p5,()),(q0,q1,q2,(),(),q5,()),(r0,r1,r2,(),r4,r5,()),h3++([(z1.1,(z3,(((z1.2).2).1,z2)))]),()))) .fail) .fail) .fail) .fail) (.done (.exit 0) B31 ((u36),((p0,p1,p2,p3,p4,p5,()),(q0,q1,q2,(),(),q5,()),(r0,r1,r2,(),r4,r5,()),h3,()))))
abbrev A7Q:=LT1×(Int)×(Int)×LT1
abbrev W6:=Nat×LT1
def Z6:W6:=(99,([]:LT1))
noncomputable def A8J (x9:LT1) (x10 x11 p0 p1 p2:Int) (p3:LT1) (p4:LIbe) (p5 q0 q1 q2 q5 r0 r1 r2:Int) (r4:LIbe) (r5:Int) (h3:LT1):A7Q ⊕ W6:=let z1:=x9.getD x11.toNat ((0:Int),([],((0:Int),[])));let z2:=T1 (((z1.2).2).2);let z3:=T0 ((z1.2).1);(cond (decide (x11<x10)) (cond (decide (0≤x11∧x11<(x9.length:Int))) (cond (L0 ((z1.2).1)) (cond (L1 (((z1.2).2).2)) (cond (decide ((h3.length+([(z1.1,(z3,(((z1.2).2).1,z2)))]:LT1).length)*64≤MAXB)) (.inl (x9,x10,wI (x11+(1:Int)),h3++([(z1.1,(z3,(((z1.2).2).1,z2)))]))) (.inr Z6)) (.inr Z6)) (.inr Z6)) (.inr Z6)) (.inr (0,h3)))
noncomputable def B1e (x9:LT1) (x10 x11 p0 p1 p2:Int) (p3:LT1) (p4:LIbe) (p5 q0 q1 q2 q5 r0 r1 r2:Int) (r4:LIbe) (r5:Int) (h3:LT1):W6:=itX (fun v:A7Q=>A8J v.1 v.2.1 v.2.2.1 p0 p1 p2 p3 p4 p5 q0 q1 q2 q5 r0 r1 r2 r4 r5 v.2.2.2) Z6 (x9,x10,x11,h3)
noncomputable def B1c (p0 p1 p2:Int) (p3:LT1) (p4:LIbe) (p5 q0 q1 q2 q5 r0 r1 r2:Int) (r4:LIbe) (r5:Int) (a:W6):CT:=(.br (a.1==0) (.done (.exit 0) B31 ((u36),((p0,p1,p2,p3,p4,p5,()),(q0,q1,q2,(),(),q5,()),(r0,r1,r2,(),r4,r5,()),a.2,()))) .fail)
noncomputable def C2c (x9:LT1) (x10 x11 p0 p1 p2:Int) (p3:LT1) (p4:LIbe) (p5 q0 q1 q2 q5 r0 r1 r2:Int) (r4:LIbe) (r5:Int) (h3:LT1):CT:=(B1c p0 p1 p2 p3 p4 p5 q0 q1 q2 q5 r0 r1 r2 r4 r5) (B1e x9 x10 x11 p0 p1 p2 p3 p4 p5 q0 q1 q2 q5 r0 r1 r2 r4 r5 h3)
noncomputable abbrev A8F {α:Sort _} (f:LT1→Int→Int→Int→Int→Int→LT1→LIbe→Int→Int→Int→Int→Int→Int→Int→Int→LIbe→Int→LT1→α) (d:M5.den):α:=f d.1.2.2.2.2.2.2.2.2.2.1 d.1.2.2.2.2.2.2.2.2.2.2.1 d.1.2.2.2.2.2.2.2.2.2.2.2.1 d.2.1.1 d.2.1.2.1 d.2.1.2.2.1 d.2.1.2.2.2.1 d.2.1.2.2.2.2.1 d.2.1.2.2.2.2.2.1 d.2.2.1.1 d.2.2.1.2.1 d.2.2.1.2.2.1 d.2.2.1.2.2.2.2.2.1 d.2.2.2.1.1 d.2.2.2.1.2.1 d.2.2.2.1.2.2.1 d.2.2.2.1.2.2.2.2.1 d.2.2.2.1.2.2.2.2.2.1 d.2.2.2.2.1
noncomputable abbrev B1j:M5.den→RT M5.den:=(A8F B52)
noncomputable def B25:Code:=((C9 0 (A0N Try.f58)).getD 0 (0,.skip)).2
noncomputable abbrev B5S (p0 p1 p2:Int) (p3:LT1) (p4:LIbe) (p5 q0 q1 q2 q5 r0 r1 r2:Int) (r4:LIbe) (r5:Int) (v:A7Q):M5.den:=(((),(),(),(),(),(),(),(),(),v.1,v.2.1,v.2.2.1,u24),((p0,p1,p2,p3,p4,p5,()),(q0,q1,q2,(),(),q5,()),(r0,r1,r2,(),r4,r5,()),v.2.2.2,()))
theorem C10 (p0 p1 p2:Int) (p3:LT1) (p4:LIbe) (p5 q0 q1 q2 q5 r0 r1 r2:Int) (r4:LIbe) (r5:Int):(∀ v:A7Q,(B52 v.1 v.2.1 v.2.2.1 p0 p1 p2 p3 p4 p5 q0 q1 q2 q5 r0 r1 r2 r4 r5 v.2.2.2).val=A6u (B5S p0 p1 p2 p3 p4 p5 q0 q1 q2 q5 r0 r1 r2 r4 r5) (B1c p0 p1 p2 p3 p4 p5 q0 q1 q2 q5 r0 r1 r2 r4 r5) (A8J v.1 v.2.1 v.2.2.1 p0 p1 p2 p3 p4 p5 q0 q1 q2 q5 r0 r1 r2 r4 r5 v.2.2.2))∧∀ a:W6,CEnd M5.den ((B1c p0 p1 p2 p3 p4 p5 q0 q1 q2 q5 r0 r1 r2 r4 r5) a):=⟨fun v=>(A7x (A7x (A7x (A7x (A7x rfl rfl) rfl) rfl) rfl) rfl),fun a=>(A7k aCD A7m)⟩
noncomputable def B5P (x9:LT1) (x10 x11 p0 p1 p2:Int) (p3:LT1) (p4:LIbe) (p5 q0 q1 q2 q5 r0 r1 r2:Int) (r4:LIbe) (r5:Int) (h3:LT1):Option (Ex×St):=let z1:=x9.getD x11.toNat ((0:Int),([],((0:Int),[])));let z2:=T1 (((z1.2).2).2);let z3:=T0 ((z1.2).1);(cond (decide (x11<x10)) (cond (decide (0≤x11∧x11<(x9.length:Int))) (cond (L0 ((z1.2).1)) (cond (L1 (((z1.2).2).2)) (cond (decide ((h3.length+([(z1.1,(z3,(((z1.2).2).1,z2)))]:LT1).length)*64≤MAXB)) (some (.normal,(⟨(.junk::(.ptr 0 0 1 0)::(.ptr 1 0 1 0)::(.ptr 2 0 1 0)::.junk::.junk::.junk::.junk::.junk::(.t false tq2 x9)::(ti x10)::(ti (wI (x11+(1:Int))))::C84),[(.box [(ti p0),(ti p1),(ti p2),(.t false tq2 p3),(.t false tq4 p4),(ti p5)]),(.box [(ti q0),(ti q1),(ti q2),(.raw (.slice none 0 0)),(.raw (.slice none 0 0)),(ti q5)]),(.box [(ti r0),(ti r1),(ti r2),(.all 3 4),(.t false tq4 r4),(ti r5)]),(.deep 48 [90,3] tq3 (h3++([(z1.1,(z3,(((z1.2).2).1,z2)))])))],0,[]⟩:St))) none) none) none) none) (some ((.exit 0),(⟨(.junk::(.ptr 0 0 1 0)::(.ptr 1 0 1 0)::(.ptr 2 0 1 0)::C9q),[(.box [(ti p0),(ti p1),(ti p2),(.t false tq2 p3),(.t false tq4 p4),(ti p5)]),(.box [(ti q0),(ti q1),(ti q2),(.raw (.slice none 0 0)),(.raw (.slice none 0 0)),(ti q5)]),(.box [(ti r0),(ti r1),(ti r2),(.all 3 4),(.t false tq4 r4),(ti r5)]),(.deep 48 [90,3] tq3 h3)],0,[]⟩:St))))
theorem C0V:RdA (G35.deep ow) aLn 0 B25 M5 0 [] (kepts [] [(0,[1,2,3])]) (A8F B5P):=by
 intro d
 kernel_rfl
theorem C0Z:∀ d:M5.den,(A8F B5P) d=(B1j d).opt 0 []:=by
 intro d
 kernel_rfl
noncomputable abbrev B4F:St→Option Tree:=M5.say 0 [] [(2003003,30900000048,tq3)] (A8F C2c)
theorem C1L:aPL B4F B25:=SS.wp2 hlz [(2003003,30900000048,tq3)] B1j C0V C0Z _ (fun d=>Runs.ofI2 (step:=B1j) (B5S d.2.1.1 d.2.1.2.1 d.2.1.2.2.1 d.2.1.2.2.2.1 d.2.1.2.2.2.2.1 d.2.1.2.2.2.2.2.1 d.2.2.1.1 d.2.2.1.2.1 d.2.2.1.2.2.1 d.2.2.1.2.2.2.2.2.1 d.2.2.2.1.1 d.2.2.2.1.2.1 d.2.2.2.1.2.2.1 d.2.2.2.1.2.2.2.2.1 d.2.2.2.1.2.2.2.2.2.1) (C10 d.2.1.1 d.2.1.2.1 d.2.1.2.2.1 d.2.1.2.2.2.1 d.2.1.2.2.2.2.1 d.2.1.2.2.2.2.2.1 d.2.2.1.1 d.2.2.1.2.1 d.2.2.1.2.2.1 d.2.2.1.2.2.2.2.2.1 d.2.2.2.1.1 d.2.2.2.1.2.1 d.2.2.2.1.2.2.1 d.2.2.2.1.2.2.2.2.1 d.2.2.2.1.2.2.2.2.2.1) rfl (d.1.2.2.2.2.2.2.2.2.2.1,d.1.2.2.2.2.2.2.2.2.2.2.1,d.1.2.2.2.2.2.2.2.2.2.2.2.1,d.2.2.2.2.1))
noncomputable def B0z (a0 a1 a2:Int) (a3:LT1) (a4:LIbe) (a5:Int):=B1e a3 (a3.length:Int) (0:Int) a0 a1 a2 a3 a4 a5 (0:Int) (0:Int) (0:Int) (0:Int) a0 a1 a2 a4 a5 ([]:LT1)
noncomputable def Y9 (a0 a1 a2:Int) (a3:LT1) (a4:LIbe) (a5:Int):Int×Int×Int×Int×LT1×LIbe:=(a0,a1,a2,a5,((B0z a0 a1 a2 a3 a4 a5).2),(P4 a4))
noncomputable abbrev B9M (r:Int×Int×Int×Int×LT1×LIbe):AV×List AObj:=((.agg [(ti r.1),(ti r.2.1),(ti r.2.2.1),(.all 0 4),(.all 1 2),(ti r.2.2.2.1)]),[(.deep 48 [90,3] tq3 r.2.2.2.2.1),(.rows 43 true W2 r.2.2.2.2.2)])
noncomputable abbrev B41:H6 A9j→AV×List AObj:=fun d=>B9M (Y9 d.1.1 d.1.2.1 d.1.2.2.1 d.1.2.2.2.1 d.1.2.2.2.2.1 d.1.2.2.2.2.2.1)
noncomputable def N0 (a0 a1 a2:Int) (a3:LT1) (a4:LIbe) (a5:Int):Bool:=((B0z a0 a1 a2 a3 a4 a5).1==0)&&(K4 a4)
noncomputable abbrev B2E:H6 A9j→Bool:=fun d=>N0 d.1.1 d.1.2.1 d.1.2.2.1 d.1.2.2.2.1 d.1.2.2.2.2.1 d.1.2.2.2.2.2.1
noncomputable abbrev C4n:Nat→St→Option Tree:=fun b=>match b with | 0=>B4F | _=>fun _=>none
theorem C3d:A7s false (G35.deep ow) (C4n) Try.f58 A9j B2E B41:=by
 rintro ⟨⟨a0,⟨a1,⟨a2,⟨a3,⟨a4,⟨a5,_⟩⟩⟩⟩⟩⟩,_⟩ hp
 change N0 a0 a1 a2 a3 a4 a5=true at hp
 unfold N0 at hp
 refine Eq.trans (b:=(let z1:=B0z a0 a1 a2 a3 a4 a5;cond (z1.1==0) (cond (K4 a4) (some (B9M (a0,a1,a2,a5,(z1.2),(P4 a4)))) none) none)) (by kernel_rfl) ?_
 exact (A7t hp fun hp=>(A7v hp fun _h=>rfl))
theorem C4A:aPP 58 (A2W A9j B2E B41):=pcD false (G35.deep ow) (hl1 (i:=0) (by kernel_rfl) C1L) C3d
noncomputable def S36:Tab:=Tab.add S35 58 (lift (A2W A9j B2E B41))
noncomputable def C96:FuncId→Bool:=C95
theorem G36:aPG S36 C96:=G35.add C4A (cbl Try.f58) (by kernel_rfl)

abbrev B15:List PSh:=[.t (.int .i64),.t (.int .i64),.t (.int .i64)]
noncomputable def J6 (a0 a1 a2:Int):Bool:=(cond (decide (a0 ≥ a1)) (decide (a0≤a2)) false)
noncomputable abbrev B4W (r:Bool):AV×List AObj:=((.t true .bool r),[])
noncomputable abbrev B8W:H6 B15→AV×List AObj:=fun d=>B4W (J6 d.1 d.2.1 d.2.2.1)
noncomputable abbrev B5l:H6 B15→Bool:=fun d=>true
theorem C5p:A7s true G36 aLn Try.f47 B15 B5l B8W:=by
 rintro ⟨a0,⟨a1,⟨a2,_⟩⟩⟩ hp
 refine Eq.trans (b:=(cond (decide (a0 ≥ a1)) (some (B4W (decide (a0≤a2)))) (some (B4W false)))) (by kernel_rfl) ?_
 exact (O8 B4W (fun _h=>rfl) (fun _h=>rfl))
theorem C60:aPP 47 (A2W B15 B5l B8W):=pcD true G36 hlz C5p
noncomputable def S37:Tab:=Tab.add S36 47 (lift (A2W B15 B5l B8W))
noncomputable def C97:FuncId→Bool:=qadd C96 47
theorem G37:aPG S37 C97:=G36.addQ C60 (cbl Try.f47) (fun _=>rfl)

abbrev A79:SS:=⟨[.ptr 0 0 1 0],[.box [tI,tI,tI,.t false tq2,.t false tq4,tI]]⟩
noncomputable def A0g (p0 p1 p2:Int) (p3:LT1) (p4:LIbe) (p5:Int):Int:=(wI ((wI (p1*(1000:Int)))+p2))
noncomputable abbrev C1J (p0 p1 p2:Int) (p3:LT1) (p4:LIbe) (p5 r:Int):AV×List AObj×List Nat:=((ti r),[(.box [(ti p0),(ti p1),(ti p2),(.t false tq2 p3),(.t false tq4 p4),(ti p5)])],[])
noncomputable abbrev B5N:A79.den→AV×List AObj×List Nat:=fun d=>C1J d.2.1.1 d.2.1.2.1 d.2.1.2.2.1 d.2.1.2.2.2.1 d.2.1.2.2.2.2.1 d.2.1.2.2.2.2.2.1 (A0g d.2.1.1 d.2.1.2.1 d.2.1.2.2.1 d.2.1.2.2.2.1 d.2.1.2.2.2.2.1 d.2.1.2.2.2.2.2.1)
noncomputable abbrev B3t:A79.den→Bool:=fun d=>true
theorem C0f:A7r G37 aLn Try.f48 A79 B3t B5N:=by
 rintro ⟨⟨_,_⟩,⟨⟨p0,p1,p2,p3,p4,p5,_⟩,_⟩⟩ hp
 kernel_rfl
noncomputable abbrev B5O:=winQ (msum A79 B3t B5N)
theorem C1I:aPM 48 B5O:=(mcM G37 hlz C0f).winQ (A6U fun d=>⟨rfl,rfl⟩)
noncomputable def S38:Tab:=Tab.add S37 48 (B5O)
noncomputable def C98:FuncId→Bool:=qadd C97 48
theorem G38:aPG S38 C98:=G37.addMQ C1I (A60 _) (cbl Try.f48) (A5z _)

abbrev V0:SS:=⟨[.agg [.t true (.int .i64),.t true .bool],.ptr 0 0 1 0],[.box [tI]]⟩
noncomputable def A9H (x0_0:Int) (x0_1:Bool) (p0:Int):Bool:=(x0_0==p0)
noncomputable abbrev B7R (p0:Int) (r:Bool):AV×List AObj×List Nat:=((.t true .bool r),[(.box [(ti p0)])],[])
noncomputable abbrev B1q:V0.den→AV×List AObj×List Nat:=fun d=>B7R d.2.1.1 (A9H d.1.1.1 d.1.1.2.1 d.2.1.1)
noncomputable abbrev A98:V0.den→Bool:=fun d=>true
theorem B57:A7r G38 aLn Try.f92 V0 A98 B1q:=by
 rintro ⟨⟨⟨x0_0,x0_1,_⟩,_,_⟩,⟨⟨p0,_⟩,_⟩⟩ hp
 kernel_rfl
noncomputable abbrev B1r:=winQ (msum V0 A98 B1q)
theorem B7Q:aPM 92 B1r:=(mcM G38 hlz B57).winQ (A6U fun d=>⟨rfl,rfl⟩)
noncomputable def S39:Tab:=Tab.add S38 92 (B1r)
noncomputable def C99:FuncId→Bool:=qadd C98 92
theorem G39:aPG S39 C99:=G38.addMQ B7Q (A60 _) (cbl Try.f92) (A5z _)


end Go.Proofs.Ytapikgcgahomlaa.Eng
