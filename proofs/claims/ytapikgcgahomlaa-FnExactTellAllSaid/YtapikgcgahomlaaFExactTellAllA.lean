/- What the functions that FnExactTellAll reaches compute, and that it answers true. -/
import Derived.Test.YtapikgcgahomlaaT
import Derived.Test.YtapikgcgahomlaaRows
import Derived.Test.YtapikgcgahomlaaE39
import Derived.Shelf.Sort.Plain
import Derived.Shelf.Slices.In.SortNone
import Derived.Shelf.Slices.CompactI
namespace Go.Proofs.Ytapikgcgahomlaa.Eng
open Go Go.RowKit
set_option linter.unusedSimpArgs false
set_option linter.unusedVariables false
set_option maxRecDepth 10000
abbrev bE:ByteArray:=⟨#[]⟩
abbrev Lq1:=List (Int×ByteArray×ByteArray)
abbrev tq4:Ty:=.sl (.pair (.int .i64) (.pair .str .str))
abbrev ti:=@AV.t true (.int .i64)
abbrev tI:Sh:=.t true (.int .i64)
abbrev LT1:=List (Int×Lq1×Int×List Int)
abbrev LT2:=List (Int×Int×Int×Lq1×Bool)
abbrev aPG:=Good Try.prog tt
abbrev aPM:=MContract Try.prog
abbrev aPP:=PContract Try.prog
abbrev aPL:=A0w Try.prog
abbrev aLn:Nat→St→Option Tree:=fun _ _=>none
theorem aCD{D:Type}{e:Ex}{s:SS}{x:s.den}(h:e ≠ .normal:=by simp):CEnd D (.done e s x):=A7b h
noncomputable def S0:Tab:=fun _=>none
noncomputable def QF0:FuncId→Bool:=fun _=>false
theorem G0:aPG S0 QF0:=Good.start D1A (by kernel_rfl)
theorem Runs.ofI2 {D V A:Type} {step:D→RT D} (pk:V→D) {ss:V→V ⊕ A} {ct:A→CT} {fa:A} (h:(∀ v,(step (pk v)).val=A6l pk ct (ss v))∧∀ a,CEnd D (ct a)) (hf:(ct fa).val (D:=D)=.fail) (v:V):(ct (itX ss fa v)).val (D:=D)=.fail∨Runs step (pk v) (ct (itX ss fa v)).val:=Runs.ofIt pk hf h.1 h.2 v
theorem K8 {α β:Type} (e:α→β) {c q r:Bool} {X Y:Option β} {a b:α} (hq:cond c q r=true) (hx:q=true→X=some (e a)) (hy:r=true→Y=some (e b)):cond c X Y=some (e (cond c a b)):=A7j (F:=fun r=>some (e r)) hq hx hy
theorem N4 {α β:Type} (e:α→β) {c:Bool} {X Y:Option β} {a b:α} (hx:c=true→X=some (e a)) (hy:c=false→Y=some (e b)):cond c X Y=some (e (cond c a b)):=cnd (F:=fun r=>some (e r)) hx hy
theorem hlz {L:Nat→St→Option Tree} {b:Nat} {x:Code} (h:D3 b x=[]:=by kernel_rfl):∀ p∈D3 b x,aPL (L p.1) p.2:=hl0 h
theorem cbl {f : FuncId} (F : Func) (h1 : Try.prog.funcs[f]? = some F := by kernel_rfl) (h2 : (F.name == "runtime.NumGoroutine") = false := by kernel_rfl) (h3 : F.body.isNone = false := by kernel_rfl) : Callable Try.prog f := ⟨F, h1, h2, h3⟩
theorem pcD (ro:Bool) {TB:TT} {S:Tab} {Q:FuncId→Bool} (G:Good Try.prog TB S Q) {f:FuncId} {fn:Func} {L:Nat→St→Option Tree} (hL:∀ p∈D3 0 (A1f fn),aPL (L p.1) p.2) {l:List PSh} {pre:H5 l→Bool} {g:H5 l→AV×List AObj} (h:A7h ro G L fn l pre g) (hf:Try.prog.funcs[f]? = some fn:=by kernel_rfl):aPP f (A2T l pre g):=PContract.of_data ro G hf hL l pre g h
theorem mcM {TB:TT} {S:Tab} {Q:FuncId→Bool} (G:Good Try.prog TB S Q) {f:FuncId} {fn:Func} {L:Nat→St→Option Tree} (hL:∀ p∈D3 0 (A1f fn),aPL (L p.1) p.2) {s:SS} {pre:s.den→Bool} {g:s.den→AV×List AObj×List Nat} (h:A7g G L fn s pre g) (hf:Try.prog.funcs[f]? = some fn:=by kernel_rfl):aPM f (msum s pre g):=MContract.of_data G hf hL s pre g h
theorem D3u (dl:List AV) {TB:TT} {S:Tab} {Q:FuncId→Bool} (G:Good Try.prog TB S Q) {f:FuncId} {fn:Func} {L:Nat→St→Option Tree} (hL:∀ p∈D3 0 (A1f fn),aPL (L p.1) p.2) {s:SS} {pre:s.den→Bool} {g:s.den→AV×List AObj×List Nat} (h:A62 dl G L fn s pre g) (hf:Try.prog.funcs[f]? = some fn:=by kernel_rfl):aPM f (msum s pre g):=MContract.of_dataRD dl G hf hL s pre g h
theorem C6f:∀ a b:List UInt8,(!(Op.bytesLess a b))=(Op.bytesLess b a||b==a):=by
 intro a
 induction a with
 | nil=>intro b;cases b<;>simp [Op.bytesLess]
 | cons x a ih =>
  intro b
  cases b with
  | nil=>simp [Op.bytesLess]
  | cons y b =>
   simp only [Op.bytesLess]
   by_cases h1:x<y
   ·have h2:¬ y<x:=fun h=>UInt8.lt_irrefl _ (UInt8.lt_trans h1 h)
    have h3:(y==x)=false:=by rw [beq_eq_false_iff_ne];intro h;subst h;exact h2 h1
    have h4:(y::b==x::a)=false:=by rw [List.cons_beq_cons,h3,Bool.false_and]
    simp [h1,h2,h3,h4]
   ·by_cases h5:x=y
    ·subst h5
     have h6:(x::b==x::a)=(b==a):=by rw [List.cons_beq_cons];simp
     have:=ih b
     simp only [h1,decide_false,Bool.false_or,beq_self_eq_true,Bool.true_and,h6,this]
    ·have h7 : y < x := by
      rcases Nat.lt_trichotomy x.toNat y.toNat with h | h | h
      ·exact absurd (UInt8.lt_iff_toNat_lt.2 h) h1
      ·exact absurd (UInt8.toNat_inj.1 h) h5
      ·exact UInt8.lt_iff_toNat_lt.2 h
     have h8:(x==y)=false:=by rw [beq_eq_false_iff_ne];exact h5
     simp [h1,h7,h8]
theorem C3T {p q:Nat→Bool}:∀ k i,(∀ j,i≤j→j<i+k→p j=q j)→A4x p k i=A4x q k i:=by
 intro k
 induction k with
 | zero=>intro i h;rfl
 | succ k ih=>intro i h;simp only [A4x];rw [h i (Nat.le_refl _) (by omega),ih (i+1) (fun j h1 h2=>h j (by omega) (by omega))]
theorem C14 {p:Nat→Bool} (k i:Nat) (h:∀ j,i≤j→j<i+k→p j=true):A4x p k i=true:=(A6R k i).2 h
theorem C9J {f:Nat→Int→Int} {Q:Nat→Prop} {M:Int}:∀ (k i:Nat) (b:Int),(∀ j b,i≤j→j<i+k→0≤b→b≤M→0≤f j b→Q j∧f j b≤b)→0≤b→b≤M→A7d (szN f k i b)=true →
  (∀ j,i≤j→j<i+k→Q j)∧0≤A65 (-1) (szN f k i b)∧A65 (-1) (szN f k i b)≤b:=by
 intro k
 induction k with
 | zero=>intro i b hf h1 h2 h3;exact ⟨fun j hj hk=>by omega,h1,Int.le_refl _⟩
 | succ k ih =>
  intro i b hf h1 h2 h3
  have e:szN f (k+1) i b=cond (decide (f i b<0)) (.inr ()) (szN f k (i+1) (f i b)):=by
   simp only [szN,loopN]
   cases decide (f i b<0)<;>rfl
  rw [e] at h3 ⊢
  cases hd:decide (f i b<0) with
  | true=>rw [hd] at h3;cases h3
  | false =>
   rw [hd] at h3
   simp only [cond_false] at h3 ⊢
   have h0:0≤f i b:=by have:=of_decide_eq_false hd;omega
   obtain ⟨q1,q2⟩:=hf i b (Nat.le_refl _) (by omega) h1 h2 h0
   obtain ⟨r1,r2,r3⟩:=ih (i+1) (f i b) (fun j b hj hk=>hf j b (by omega) (by omega)) h0 (by omega) h3
   refine ⟨fun j hj hk=>?_,r2,by omega⟩
   by_cases ej:j=i
   ·exact ej ▸ q1
   ·exact r1 j (by omega) (by omega)
noncomputable def dOp:Int×ByteArray×ByteArray:=((0:Int),(bE,bE))
noncomputable def D1p (o:Int×ByteArray×ByteArray):Bool:=okS o.2.1&&okS o.2.2
noncomputable def T5 (l:Lq1):Bool:=okL l&&l.all D1p
theorem C8k {l:Lq1} (h:T5 l=true) (i:Nat) (hi:i<l.length):okS (l.getD i dOp).2.1=true∧okS (l.getD i dOp).2.2=true:=by
 simp only [T5,Bool.and_eq_true,List.all_eq_true] at h
 have:=h.2 (l.getD i dOp) (by simp [List.getD_eq_getElem?_getD,hi])
 simpa [D1p] using this
theorem A8e {l:Lq1} (h:T5 l=true):l.length≤1048576:=by
 simp only [T5,Bool.and_eq_true] at h
 exact A66 h.1
noncomputable def C7N (s:ByteArray):Bool:=decide (s.size≤9223372036854775807)
noncomputable def B2O (l:Lq1):Bool:=decide (l.length≤9223372036854775807)&&l.all (fun o=>C7N o.2.1&&C7N o.2.2)
theorem C5Q {l:Lq1} (h:B2O l=true) (i:Nat) (hi:i<l.length):C7N (l.getD i dOp).2.1=true∧C7N (l.getD i dOp).2.2=true:=by
 simp only [B2O,Bool.and_eq_true,List.all_eq_true] at h
 exact h.2 (l.getD i dOp) (by simp [List.getD_eq_getElem?_getD,hi])
theorem D0T {l:Lq1} (h1:l.length≤1048576) (h2:∀ i,i<l.length→okS (l.getD i dOp).2.1=true∧okS (l.getD i dOp).2.2=true):T5 l=true:=by
 simp only [T5,okL,Bool.and_eq_true,decide_eq_true_eq,List.all_eq_true]
 refine ⟨h1,fun o ho=>?_⟩
 obtain ⟨i,hi,rfl⟩:=List.getElem_of_mem ho
 have:=h2 i hi
 simp only [List.getD_eq_getElem?_getD,List.getElem?_eq_getElem hi,Option.getD_some] at this
 simp [D1p,this.1,this.2]
theorem D1B (a b:ByteArray):(a.toList==b.toList)=decide (a=b):=by
 rw [ByteArray.toList_eq,ByteArray.toList_eq]
 by_cases h:a=b
 ·subst h;simp
 ·rw [decide_eq_false h,beq_eq_false_iff_ne]
  intro e
  exact h (by cases a;cases b;simp at e;rw [e])
theorem C8U {l:Lq1} (h:B2O l=true):l.length≤9223372036854775807:=by
 simp only [B2O,Bool.and_eq_true,decide_eq_true_eq] at h;exact h.1
theorem C5Y {l:Lq1} (h:T5 l=true):okL l=true:=by
 simp only [T5,Bool.and_eq_true] at h;exact h.1
theorem C9W {l:Lq1} (h:A2V tq4 l=true):B2O l=true:=by
 have h:(decide (l.length≤maxLen)&&l.all fun o=>(Lit.int .i64 o.1).wf&&(decide (o.2.1.size≤maxLen)&&decide (o.2.2.size≤maxLen)))=true:=h
 have hm:maxLen=9223372036854775807:=by decide
 rw [hm] at h
 simp only [Bool.and_eq_true,decide_eq_true_eq,List.all_eq_true] at h
 simp only [B2O,C7N,Bool.and_eq_true,decide_eq_true_eq,List.all_eq_true]
 exact ⟨h.1,fun o ho=>(h.2 o ho).2⟩
noncomputable def C6t (x:Int):ByteArray:=(⟨([IntKind.wrap .u8 (wI ((48:Int)+(Int.tmod x (10:Int))))].map fun n=>UInt8.ofNat n.toNat).toArray⟩:ByteArray)
theorem C16 (x:Int):(C6t x).size=1:=rfl
noncomputable def C10:Nat→Int→ByteArray→ByteArray
 | 0,_,s=>s
 | k+1,x,s=>cond (decide (x > 0)) (C10 k (wI (Int.tdiv x (10:Int))) (C6t x++s)) s
theorem D0Z:∀ (k:Nat) (x:Int) (s:ByteArray),(C10 k x s).size≤k+s.size:=by
 intro k
 induction k with
 | zero=>intro x s;simp [C10]
 | succ k ih =>
  intro x s
  simp only [C10]
  cases decide (x > 0) with
  | true =>
   have:=ih (wI (Int.tdiv x (10:Int))) (C6t x++s)
   rw [ByteArray.size_append,C16] at this
   simp only [cond_true];omega
  | false=>simp only [cond_false];omega
theorem D0d {l:Lq1} (h:T5 l=true):∀ o∈l,o.2.1.size≤1048576∧o.2.2.size≤1048576:=by
 intro o ho
 simp only [T5,Bool.and_eq_true,List.all_eq_true] at h
 have:=h.2 o ho
 simpa [D1p,okS] using this
noncomputable def C6K:Go.Shelf.Ren:=⟨fun | 189=>70 | 125=>110 | 257=>109 | 128=>138 | 129=>139 | 294=>129 | 295=>130 | 296=>131 | 297=>132 | 298=>133 | 299=>134 | 216=>135 | 300=>136 | 301=>137 | 328=>150 | 329=>151 | 330=>152 | 331=>153 | 332=>154 | 215=>155 | 343=>157 | n=>n,fun | 28=>46 | 3=>3 | 46=>128 | 0=>0 | 51=>140 | 53=>152 | 4=>4 | 183=>143 | 182=>142 | 131=>148 | 5=>5 | 9=>9 | 218=>162 | 222=>166 | 228=>168 | 229=>169 | n=>n,fun n=>n⟩
theorem C8b:Go.Proofs.Lays.n189 Try.prog C6K where
 mixed:=by kernel_rfl
 f125:=Try.func110.trans (congrArg some (by kernel_rfl))
 f128:=Try.func138.trans (congrArg some (by kernel_rfl))
 f129:=Try.func139.trans (congrArg some (by kernel_rfl))
 f189:=Try.func70.trans (congrArg some (by kernel_rfl))
 f215:=Try.func155.trans (congrArg some (by kernel_rfl))
 f216:=Try.func135.trans (congrArg some (by kernel_rfl))
 f257:=Try.func109.trans (congrArg some (by kernel_rfl))
 f294:=Try.func129.trans (congrArg some (by kernel_rfl))
 f295:=Try.func130.trans (congrArg some (by kernel_rfl))
 f296:=Try.func131.trans (congrArg some (by kernel_rfl))
 f297:=Try.func132.trans (congrArg some (by kernel_rfl))
 f298:=Try.func133.trans (congrArg some (by kernel_rfl))
 f299:=Try.func134.trans (congrArg some (by kernel_rfl))
 f300:=Try.func136.trans (congrArg some (by kernel_rfl))
 f301:=Try.func137.trans (congrArg some (by kernel_rfl))
 f328:=Try.func150.trans (congrArg some (by kernel_rfl))
 f329:=Try.func151.trans (congrArg some (by kernel_rfl))
 f330:=Try.func152.trans (congrArg some (by kernel_rfl))
 f331:=Try.func153.trans (congrArg some (by kernel_rfl))
 f332:=Try.func154.trans (congrArg some (by kernel_rfl))
 f343:=Try.func157.trans (congrArg some (by kernel_rfl))
 t0:=Try.underlying0
 a0:=Try.isAgg0
 z0:=Try.sizeOf0
 v0:=Try.zeroValue0
 t3:=Try.underlying3
 a3:=Try.isAgg3
 z3:=Try.sizeOf3
 v3:=Try.zeroValue3
 t4:=Try.underlying4
 a4:=Try.isAgg4
 z4:=Try.sizeOf4
 v4:=Try.zeroValue4
 t5:=Try.underlying5
 a5:=Try.isAgg5
 z5:=Try.sizeOf5
 v5:=Try.zeroValue5
 t9:=Try.underlying9
 a9:=Try.isAgg9
 z9:=Try.sizeOf9
 v9:=Try.zeroValue9
 t28:=Try.underlying46
 a28:=Try.isAgg46
 z28:=Try.sizeOf46
 v28:=Try.zeroValue46
 t46:=Try.underlying128
 a46:=Try.isAgg128
 z46:=Try.sizeOf128
 v46:=Try.zeroValue128
 t51:=Try.underlying140
 a51:=Try.isAgg140
 z51:=Try.sizeOf140
 v51:=Try.zeroValue140
 t53:=Try.underlying152
 a53:=Try.isAgg152
 z53:=Try.sizeOf152
 v53:=Try.zeroValue152
 t131:=Try.underlying148
 a131:=Try.isAgg148
 z131:=Try.sizeOf148
 v131:=Try.zeroValue148
 t182:=Try.underlying142
 a182:=Try.isAgg142
 z182:=Try.sizeOf142
 v182:=Try.zeroValue142
 t183:=Try.underlying143
 a183:=Try.isAgg143
 z183:=Try.sizeOf143
 v183:=Try.zeroValue143
 t218:=Try.underlying162
 a218:=Try.isAgg162
 z218:=Try.sizeOf162
 v218:=Try.zeroValue162
 t222:=Try.underlying166
 a222:=Try.isAgg166
 z222:=Try.sizeOf166
 v222:=Try.zeroValue166
 t228:=Try.underlying168
 a228:=Try.isAgg168
 z228:=Try.sizeOf168
 v228:=Try.zeroValue168
 t229:=Try.underlying169
 a229:=Try.isAgg169
 z229:=Try.sizeOf169
 v229:=Try.zeroValue169
noncomputable def C3m:Go.Shelf.Ren:=⟨fun | 20=>72 | n=>n,fun | 22=>46 | 3=>3 | 4=>4 | 0=>0 | n=>n,fun n=>n⟩
theorem C2U:Go.Proofs.Lays2.n20 Try.prog C3m where
 mixed:=by kernel_rfl
 f20:=Try.func72.trans (congrArg some (by kernel_rfl))
 t0:=Try.underlying0
 a0:=Try.isAgg0
 z0:=Try.sizeOf0
 v0:=Try.zeroValue0
 t3:=Try.underlying3
 a3:=Try.isAgg3
 z3:=Try.sizeOf3
 v3:=Try.zeroValue3
 t4:=Try.underlying4
 a4:=Try.isAgg4
 z4:=Try.sizeOf4
 v4:=Try.zeroValue4
 t22:=Try.underlying46
 a22:=Try.isAgg46
 z22:=Try.sizeOf46
 v22:=Try.zeroValue46
 i3:=by kernel_rfl
theorem C98:aPM 70 (win E5 A5G):=(MContract.sortInt (Go.Proofs.Any.slices_Sort_int_none C8b) (Go.Proofs.Any.slices_Sort_int C8b)).win E5
theorem C6g:aPM 72 (win E5 A28):=(MContract.compactInt (Go.Proofs.Any.slices_Compact_int_empty C2U) (Go.Proofs.Any.slices_Compact_int C2U)).win E5
noncomputable def C1G (l:List Int):Bool:=decide (l.length<4611686018427387904)
noncomputable def C7Z (l:List Int):Nat×List Int:=((Lib.compact l).length,Lib.compact l++List.replicate (l.length - (Lib.compact l).length) 0)

abbrev C0X:List PSh:=[.agg [(.int .i64),.str,.str],.t (.int .i64)]
noncomputable def C5X (a0:Int) (a1 a2:ByteArray) (a3:Int):Int:=let z2:=wI (a3 - (a1.size:Int));let z1:=wI (z2 - (a2.size:Int));(cond (decide (z2<(0:Int))) (-1:Int) (cond (decide (z1<(0:Int))) (-1:Int) z1))
noncomputable abbrev B8R (r:Int):AV×List AObj:=((ti r),[])
noncomputable abbrev C6y:H5 C0X→AV×List AObj:=fun d=>B8R (C5X d.1.1 d.1.2.1 d.1.2.2.1 d.2.1)
noncomputable abbrev C2p:H5 C0X→Bool:=fun d=>true
theorem D0j:A7h true G0 aLn Try.f143 C0X C2p C6y:=by
 rintro ⟨⟨a0,⟨a1,⟨a2,_⟩⟩⟩,⟨a3,_⟩⟩ hp
 refine Eq.trans (b:=(let z2:=wI (a3 - (a1.size:Int));let z1:=wI (z2 - (a2.size:Int));cond (decide (z2<(0:Int))) (some (B8R (-1:Int))) (cond (decide (z1<(0:Int))) (some (B8R (-1:Int))) (some (B8R z1))))) (by kernel_rfl) ?_
 exact (N4 B8R (fun _h=>rfl) (fun _h=>(N4 B8R (fun _h=>rfl) (fun _h=>rfl))))
theorem D06:aPP 143 (A2T C0X C2p C6y):=pcD true G0 hlz D0j
noncomputable def S1:Tab:=Tab.add S0 143 (lift (A2T C0X C2p C6y))
noncomputable def QF1:FuncId→Bool:=qadd QF0 143
theorem G1:aPG S1 QF1:=G0.addQ D06 (cbl Try.f143) (fun _=>rfl)

abbrev C5h:List Sh:=.junk::.junk::.junk::.junk::.junk::.junk::.junk::.junk::.junk::.junk::.junk::.junk::.junk::.junk::.junk::.junk::.junk::.junk::.junk::.junk::.junk::[]
abbrev C79:List Sh:=.junk::C5h
abbrev D0S:List Sh:=.junk::.junk::.junk::C79
abbrev u23:=((),(),(),(),(),(),(),(),(),(),(),(),(),(),(),(),(),(),(),(),(),(),())
abbrev u22:=((),(),(),(),(),(),(),(),(),(),(),(),(),(),(),(),(),(),(),(),(),())
abbrev u26:=((),(),(),u23)
noncomputable def N8 (x0:Lq1) (i:Nat) (b:Int):Int:=(C5X ((x0.getD i ((0:Int),(bE,bE))).1) (((x0.getD i ((0:Int),(bE,bE))).2).1) (((x0.getD i ((0:Int),(bE,bE))).2).2) b)
abbrev B7l:List PSh:=[.t tq4,.t (.int .i64)]
abbrev A8N:SS:=⟨(.t false tq4::tI::.junk::.junk::.junk::tI::C5h),[]⟩
abbrev B1S:SS:=⟨(.junk::.junk::.junk::.junk::tI::C79),[]⟩
abbrev B5v:SS:=⟨(.junk::tI::D0S),[]⟩
noncomputable def B8G (x0:Lq1) (x1 x5:Int):RT A8N.den:=let z1:=x0.getD x5.toNat ((0:Int),(bE,bE));let z2:=C5X (z1.1) ((z1.2).1) ((z1.2).2) x1;(.br (decide (x5<(x0.length:Int))) (.br (decide (0≤x5∧x5<(x0.length:Int))) (.br (decide (z2<(0:Int))) (.done .ret B1S (((),(),(),(),(-1:Int),u23),())) (.next ((x0,z2,(),(),(),wI (x5+(1:Int)),u22),()))) .fail) (.done (.exit 0) B5v (((),x1,u26),())))
noncomputable def B2J (x0:Lq1) (x1 x5:Int):CT:=(.br (decide (0≤x5)&&okL x0) (.br (A7d (szN (N8 x0) (x0.length - x5.toNat) x5.toNat x1)) (.done (.exit 0) B5v (((),(A65 (-1) (szN (N8 x0) (x0.length - x5.toNat) x5.toNat x1)),u26),())) (.done .ret B1S (((),(),(),(),(-1:Int),u23),()))) .fail)
noncomputable abbrev A75:A8N.den→RT A8N.den:=(fun d=>B8G d.1.1 d.1.2.1 d.1.2.2.2.2.2.1)
noncomputable abbrev B3Z (x0:Lq1) (x1 x5:Int):A8N.den:=((x0,x1,(),(),(),x5,u22),())
noncomputable def B9q:Code:=((D3 0 (A1f Try.f118)).getD 0 (0,.skip)).2
theorem C8M (x0:Lq1) (x1 x5:Int):(B2J x0 x1 x5).val (D:=A8N.den)=.fail∨Runs A75 (B3Z x0 x1 x5) (B2J x0 x1 x5).val:=by
 cases hc:(decide (0≤x5)&&okL x0) with
 | false=>left;simp only [B2J,CT.val,hc,cond_false]
 | true =>
  right
  simp only [B2J,CT.val,hc,cond_true]
  simp only [Bool.and_eq_true,decide_eq_true_eq] at hc
  obtain ⟨i,rfl⟩:=Int.eq_ofNat_of_zero_le hc.1
  have hs:=A66 hc.2
  simp only [Int.toNat_natCast]
  have h:=Runs.loopN (step:=A75) (fun j b=>B3Z x0 b (j:Int)) (fun _ _=>True) (x0.length) (fun i b=>cond (decide (N8 x0 i b<0)) (.inr ()) (.inl (N8 x0 i b)))
   (fin:=fun b=>((.done (.exit 0) B5v (((),b,u26),())):CT).val) (bad:=fun _=>((.done .ret B1S (((),(),(),(),(-1:Int),u23),())):CT).val)
   (fun i b hi _=>?_) (fun i b hi _=>?_) (x0.length - i) i x1 rfl trivial
  ·simp only [szN]
   revert h
   cases loopN (fun i b=>cond (decide (N8 x0 i b<0)) (.inr ()) (.inl (N8 x0 i b))) (x0.length - i) i x1 with
   | inl b=>exact id
   | inr c=>exact id
  ·
   have h0a:decide ((i:Int)<(x0.length:Int))=true:=decide_eq_true (by omega)
   have h0b:decide (0≤(i:Int)∧(i:Int)<(x0.length:Int))=true:=decide_eq_true (by omega)
   have e:(A75 (B3Z x0 b (i:Int))).val=cond (decide (N8 x0 i b<0)) ((.done .ret B1S (((),(),(),(),(-1:Int),u23),())):CT).val (.next (B3Z x0 (N8 x0 i b) ((i+1:Nat):Int))):=by
    simp only [A75,B8G,RT.val,h0a,h0b,cond_true,A7e i (by omega),Int.toNat_natCast]
    rfl
   cases hr:decide (N8 x0 i b<0) with
   | true=>exact .inr ⟨(),_,_,_,rfl,by rw [e,hr];rfl,rfl,by simp⟩
   | false=>exact .inl ⟨_,rfl,trivial,by rw [e,hr];rfl⟩
  ·have h1:decide ((i:Int)<(x0.length:Int))=false:=decide_eq_false (by omega)
   exact ⟨by simp only [A75,B8G,RT.val,h1,cond_false];rfl,_,_,_,rfl,by simp⟩
theorem C6Z:RdA G1 aLn 0 B9q A8N 0 [] (kepts [4] [(0,[1])]) (fun d=>(A75 d).opt 0 []):=by
 intro d
 kernel_rfl
noncomputable abbrev C1O:St→Option Tree:=A8N.say 0 [] [] (fun d=>B2J d.1.1 d.1.2.1 d.1.2.2.2.2.2.1)
theorem C8e:aPL C1O B9q:=SS.wp2 hlz [] A75 C6Z (fun d=>rfl) _ (fun d=>C8M d.1.1 d.1.2.1 d.1.2.2.2.2.2.1)
noncomputable def A7W (a0:Lq1) (a1:Int):Int:=let z2:=wI (a1 - (a0.length:Int));let z1:=szN (N8 a0) (a0.length - (0:Int).toNat) (0:Int).toNat z2;(cond (decide (z2<(0:Int))) (-1:Int) (cond (A7d z1) (A65 (-1) z1) (-1:Int)))
noncomputable abbrev B43 (r:Int):AV×List AObj:=((ti r),[])
noncomputable abbrev C36:H5 B7l→AV×List AObj:=fun d=>B43 (A7W d.1 d.2.1)
noncomputable def B8j (a0:Lq1) (a1:Int):Bool:=decide (0≤a1∧a1≤1048576∧a0.length≤9223372036854775807)
noncomputable abbrev C0w:H5 B7l→Bool:=fun d=>B8j d.1 d.2.1
noncomputable abbrev D0w:Nat→St→Option Tree:=fun b=>match b with | 0=>C1O | _=>fun _=>none
theorem C9o:A7h true G1 (D0w) Try.f118 B7l C0w C36:=by
 rintro ⟨a0,⟨a1,_⟩⟩ hp
 change B8j a0 a1=true at hp
 unfold B8j at hp
 refine Eq.trans (b:=(let z2:=wI (a1 - (a0.length:Int));let z1:=szN (N8 a0) (a0.length - (0:Int).toNat) (0:Int).toNat z2;cond (decide (z2<(0:Int))) (some (B43 (-1:Int))) (cond (decide (0≤(0:Int))&&okL a0) (cond (A7d z1) (some (B43 (A65 (-1) z1))) (some (B43 (-1:Int)))) none))) (by kernel_rfl) ?_
 exact (N4 B43 (fun _h=>rfl) (fun _h=>(A7k (by simp only [decide_eq_true_eq,decide_eq_false_iff_not] at hp _h;have hw:=A6r (n:=a1 - (a0.length:Int)) (by omega) (by omega);rw [hw] at _h;simp [okL];omega) (fun _h=>(N4 B43 (fun _h=>rfl) (fun _h=>rfl))))))
theorem D0I:aPP 118 (A2T B7l C0w C36):=pcD true G1 (hl1 (i:=0) (by kernel_rfl) C8e) C9o
noncomputable def S2:Tab:=Tab.add S1 118 (lift (A2T B7l C0w C36))
noncomputable def QF2:FuncId→Bool:=qadd QF1 118
theorem G2:aPG S2 QF2:=G1.addQ D0I (cbl Try.f118) (fun _=>rfl)

abbrev M9:Ty:=.sl (.int .i64)
abbrev B4J:List PSh:=[.t M9,.t (.int .i64)]
noncomputable def A8d (a0:List Int) (a1:Int):Int:=let z1:=wI (a1 - (a0.length:Int));(cond (decide (z1<(0:Int))) (-1:Int) z1)
noncomputable abbrev B8Q (r:Int):AV×List AObj:=((ti r),[])
noncomputable abbrev C2c:H5 B4J→AV×List AObj:=fun d=>B8Q (A8d d.1 d.2.1)
noncomputable abbrev B77:H5 B4J→Bool:=fun d=>true
theorem C8u:A7h true G2 aLn Try.f119 B4J B77 C2c:=by
 rintro ⟨a0,⟨a1,_⟩⟩ hp
 refine Eq.trans (b:=(let z1:=wI (a1 - (a0.length:Int));cond (decide (z1<(0:Int))) (some (B8Q (-1:Int))) (some (B8Q z1)))) (by kernel_rfl) ?_
 exact (N4 B8Q (fun _h=>rfl) (fun _h=>rfl))
theorem C92:aPP 119 (A2T B4J B77 C2c):=pcD true G2 hlz C8u
noncomputable def S3:Tab:=Tab.add S2 119 (lift (A2T B4J B77 C2c))
noncomputable def QF3:FuncId→Bool:=qadd QF2 119
theorem G3:aPG S3 QF3:=G2.addQ C92 (cbl Try.f119) (fun _=>rfl)

abbrev B7k:List PSh:=[.agg [(.int .i64),tq4,(.int .i64),M9],.t (.int .i64)]
noncomputable def B27 (a0:Int) (a1:Lq1) (a2:Int) (a3:List Int) (a4:Int):Int:=let z1:=A8d a3 (A7W a1 a4);(cond (decide ((A7W a1 a4)<(0:Int))) (-1:Int) (cond (decide (z1<(0:Int))) (-1:Int) z1))
noncomputable abbrev B42 (r:Int):AV×List AObj:=((ti r),[])
noncomputable abbrev C35:H5 B7k→AV×List AObj:=fun d=>B42 (B27 d.1.1 d.1.2.1 d.1.2.2.1 d.1.2.2.2.1 d.2.1)
noncomputable def B5h (a0:Int) (a1:Lq1) (a2:Int) (a3:List Int) (a4:Int):Bool:=B8j a1 a4
noncomputable abbrev C0v:H5 B7k→Bool:=fun d=>B5h d.1.1 d.1.2.1 d.1.2.2.1 d.1.2.2.2.1 d.2.1
theorem C9n:A7h true G3 aLn Try.f85 B7k C0v C35:=by
 rintro ⟨⟨a0,⟨a1,⟨a2,⟨a3,_⟩⟩⟩⟩,⟨a4,_⟩⟩ hp
 change B5h a0 a1 a2 a3 a4=true at hp
 unfold B5h at hp
 refine Eq.trans (b:=(let z1:=A8d a3 (A7W a1 a4);cond (B8j a1 a4) (cond (decide ((A7W a1 a4)<(0:Int))) (some (B42 (-1:Int))) (cond (decide (z1<(0:Int))) (some (B42 (-1:Int))) (some (B42 z1)))) none)) (by kernel_rfl) ?_
 exact (A7k hp fun _h=>(N4 B42 (fun _h=>rfl) (fun _h=>(N4 B42 (fun _h=>rfl) (fun _h=>rfl)))))
theorem D0H:aPP 85 (A2T B7k C0v C35):=pcD true G3 hlz C9n
noncomputable def S4:Tab:=Tab.add S3 85 (lift (A2T B7k C0v C35))
noncomputable def QF4:FuncId→Bool:=qadd QF3 85
theorem G4:aPG S4 QF4:=G3.addQ D0H (cbl Try.f85) (fun _=>rfl)

abbrev tq2:Ty:=.sl (.pair (.int .i64) (.pair (.sl (.pair (.int .i64) (.pair .str .str))) (.pair (.int .i64) (.sl (.int .i64)))))
abbrev B4K:List PSh:=[.t tq2,.t (.int .i64)]
abbrev A7J:SS:=⟨(.t false tq2::tI::.junk::.junk::.junk::tI::C5h),[]⟩
abbrev B9j:SS:=⟨(.junk::.junk::.junk::.junk::tI::C79),[]⟩
abbrev B9k:SS:=⟨(.junk::tI::D0S),[]⟩
noncomputable def C1W (x0:LT1) (x1 x5:Int):RT A7J.den:=let z1:=x0.getD x5.toNat ((0:Int),([],((0:Int),[])));let z2:=B27 (z1.1) ((z1.2).1) (((z1.2).2).1) (((z1.2).2).2) x1;(.br (decide (x5<(x0.length:Int))) (.br (decide (0≤x5∧x5<(x0.length:Int))) (.br (B5h (z1.1) ((z1.2).1) (((z1.2).2).1) (((z1.2).2).2) x1) (.br (decide (z2<(0:Int))) (.done .ret B9j (((),(),(),(),(-1:Int),u23),())) (.next ((x0,z2,(),(),(),wI (x5+(1:Int)),u22),()))) .fail) .fail) (.done (.exit 0) B9k (((),x1,u26),())))
abbrev A83:=LT1×(Int)×(Int)
abbrev A7E:=Nat×(Int)×(Int)
def B5P:A7E:=(99,((0:Int):Int),((0:Int):Int))
noncomputable def A8j (x0:LT1) (x1 x5:Int):A83 ⊕ A7E:=let z1:=x0.getD x5.toNat ((0:Int),([],((0:Int),[])));let z2:=B27 (z1.1) ((z1.2).1) (((z1.2).2).1) (((z1.2).2).2) x1;(cond (decide (x5<(x0.length:Int))) (cond (decide (0≤x5∧x5<(x0.length:Int))) (cond (B5h (z1.1) ((z1.2).1) (((z1.2).2).1) (((z1.2).2).2) x1) (cond (decide (z2<(0:Int))) (.inr (0,(-1:Int),((0:Int):Int))) (.inl (x0,z2,wI (x5+(1:Int))))) (.inr B5P)) (.inr B5P)) (.inr (1,((0:Int):Int),x1)))
noncomputable def V5 (x0:LT1) (x1 x5:Int):A7E:=itX (fun v:A83=>A8j v.1 v.2.1 v.2.2) B5P (x0,x1,x5)
noncomputable def B5E (a:A7E):CT:=(.br (a.1==0) (.done .ret B9j (((),(),(),(),a.2.1,u23),())) (.br (a.1==1) (.done (.exit 0) B9k (((),a.2.2,u26),())) .fail))
noncomputable def C7I (x0:LT1) (x1 x5:Int):CT:=B5E (V5 x0 x1 x5)
noncomputable abbrev B6q:A7J.den→RT A7J.den:=(fun d=>C1W d.1.1 d.1.2.1 d.1.2.2.2.2.2.1)
noncomputable def B7y:Code:=((D3 0 (A1f Try.f40)).getD 0 (0,.skip)).2
noncomputable abbrev C1B (v:A83):A7J.den:=((v.1,v.2.1,(),(),(),v.2.2,u22),())
theorem C7a:(∀ v:A83,(C1W v.1 v.2.1 v.2.2).val=A6l C1B B5E (A8j v.1 v.2.1 v.2.2))∧∀ a:A7E,CEnd A7J.den (B5E a):=⟨fun v=>(A7m (A7m (A7m (A7m rfl rfl) rfl) rfl) rfl),fun a=>(A7a aCD (A7a aCD A7c))⟩
theorem C5u:RdA G4 aLn 0 B7y A7J 0 [] (kepts [4] [(0,[1])]) (fun d=>(B6q d).opt 0 []):=by
 intro d
 kernel_rfl
noncomputable abbrev B9S:St→Option Tree:=A7J.say 0 [] [] (fun d=>C7I d.1.1 d.1.2.1 d.1.2.2.2.2.2.1)
theorem C6S:aPL B9S B7y:=SS.wp2 hlz [] B6q C5u (fun d=>rfl) _ (fun d=>Runs.ofI2 (step:=B6q) C1B C7a rfl (d.1.1,d.1.2.1,d.1.2.2.2.2.2.1))
noncomputable def V7 (a0:LT1) (a1:Int):Int:=let z2:=wI (a1 - (a0.length:Int));let z1:=V5 a0 z2 (0:Int);(cond (decide (z2<(0:Int))) (-1:Int) (cond (z1.1==0) (z1.2.1) (z1.2.2)))
noncomputable abbrev B2j (r:Int):AV×List AObj:=((ti r),[])
noncomputable abbrev C2d:H5 B4K→AV×List AObj:=fun d=>B2j (V7 d.1 d.2.1)
noncomputable def B0y (a0:LT1) (a1:Int):Bool:=let z1:=wI (a1 - (a0.length:Int));let z2:=V5 a0 z1 (0:Int);cond (decide (z1<(0:Int))) true (cond (z2.1==0) true (z2.1==1))
noncomputable abbrev B78:H5 B4K→Bool:=fun d=>B0y d.1 d.2.1
noncomputable abbrev C9O:Nat→St→Option Tree:=fun b=>match b with | 0=>B9S | _=>fun _=>none
theorem C8v:A7h true G4 (C9O) Try.f40 B4K B78 C2d:=by
 rintro ⟨a0,⟨a1,_⟩⟩ hp
 change B0y a0 a1=true at hp
 unfold B0y at hp
 refine Eq.trans (b:=(let z2:=wI (a1 - (a0.length:Int));let z1:=V5 a0 z2 (0:Int);cond (decide (z2<(0:Int))) (some (B2j (-1:Int))) (cond (z1.1==0) (some (B2j (z1.2.1))) (cond (z1.1==1) (some (B2j (z1.2.2))) none)))) (by kernel_rfl) ?_
 exact (K8 B2j hp (fun hp=>rfl) (fun hp=>(K8 B2j hp (fun hp=>rfl) (fun hp=>(A7k hp fun _h=>rfl)))))
theorem C93:aPP 40 (A2T B4K B78 C2d):=pcD true G4 (hl1 (i:=0) (by kernel_rfl) C6S) C8v
noncomputable def S5:Tab:=Tab.add S4 40 (lift (A2T B4K B78 C2d))
noncomputable def QF5:FuncId→Bool:=qadd QF4 40
theorem G5:aPG S5 QF5:=G4.addQ C93 (cbl Try.f40) (fun _=>rfl)

abbrev tq5:Ty:=.sl (.pair (.int .i64) .bool)
abbrev LIbe:=List (Int×Bool)
abbrev A9p:List PSh:=[.t tq5,.t (.int .i64)]
noncomputable def A8T (a0:LIbe) (a1:Int):Int:=let z1:=wI (a1 - (a0.length:Int));(cond (decide (z1<(0:Int))) (-1:Int) z1)
noncomputable abbrev B14 (r:Int):AV×List AObj:=((ti r),[])
noncomputable abbrev B5T:H5 A9p→AV×List AObj:=fun d=>B14 (A8T d.1 d.2.1)
noncomputable abbrev B3c:H5 A9p→Bool:=fun d=>true
theorem C4W:A7h true G5 aLn Try.f41 A9p B3c B5T:=by
 rintro ⟨a0,⟨a1,_⟩⟩ hp
 refine Eq.trans (b:=(let z1:=wI (a1 - (a0.length:Int));cond (decide (z1<(0:Int))) (some (B14 (-1:Int))) (some (B14 z1)))) (by kernel_rfl) ?_
 exact (N4 B14 (fun _h=>rfl) (fun _h=>rfl))
theorem C6m:aPP 41 (A2T A9p B3c B5T):=pcD true G5 hlz C4W
noncomputable def S6:Tab:=Tab.add S5 41 (lift (A2T A9p B3c B5T))
noncomputable def QF6:FuncId→Bool:=qadd QF5 41
theorem G6:aPG S6 QF6:=G5.addQ C6m (cbl Try.f41) (fun _=>rfl)

abbrev B2C:List PSh:=[.agg [(.int .i64),(.int .i64),(.int .i64),tq2,tq5,(.int .i64)],.t (.int .i64)]
noncomputable def A9Z (a0 a1 a2:Int) (a3:LT1) (a4:LIbe) (a5 a6:Int):Int:=let z1:=A8T a4 (V7 a3 a6);(cond (decide ((V7 a3 a6)<(0:Int))) (-1:Int) (cond (decide (z1<(0:Int))) (-1:Int) z1))
noncomputable abbrev B2X (r:Int):AV×List AObj:=((ti r),[])
noncomputable abbrev C0k:H5 B2C→AV×List AObj:=fun d=>B2X (A9Z d.1.1 d.1.2.1 d.1.2.2.1 d.1.2.2.2.1 d.1.2.2.2.2.1 d.1.2.2.2.2.2.1 d.2.1)
noncomputable def B0x (a0 a1 a2:Int) (a3:LT1) (a4:LIbe) (a5 a6:Int):Bool:=B0y a3 a6
noncomputable abbrev B6g:H5 B2C→Bool:=fun d=>B0x d.1.1 d.1.2.1 d.1.2.2.1 d.1.2.2.2.1 d.1.2.2.2.2.1 d.1.2.2.2.2.2.1 d.2.1
theorem C7m:A7h true G6 aLn Try.f13 B2C B6g C0k:=by
 rintro ⟨⟨a0,⟨a1,⟨a2,⟨a3,⟨a4,⟨a5,_⟩⟩⟩⟩⟩⟩,⟨a6,_⟩⟩ hp
 change B0x a0 a1 a2 a3 a4 a5 a6=true at hp
 unfold B0x at hp
 refine Eq.trans (b:=(let z1:=A8T a4 (V7 a3 a6);let z2:=B2X (-1:Int);cond (B0y a3 a6) (cond (decide ((V7 a3 a6)<(0:Int))) (some z2) (cond (decide (z1<(0:Int))) (some z2) (some (B2X z1)))) none)) (by kernel_rfl) ?_
 exact (A7k hp fun _h=>(N4 B2X (fun _h=>rfl) (fun _h=>(N4 B2X (fun _h=>rfl) (fun _h=>rfl)))))
theorem C83:aPP 13 (A2T B2C B6g C0k):=pcD true G6 hlz C7m
noncomputable def S7:Tab:=Tab.add S6 13 (lift (A2T B2C B6g C0k))
noncomputable def QF7:FuncId→Bool:=qadd QF6 13
theorem G7:aPG S7 QF7:=G6.addQ C83 (cbl Try.f13) (fun _=>rfl)

abbrev C0Y:List PSh:=[.agg [(.int .i64),.str,.str]]
noncomputable def C2V (a0:Int) (a1 a2:ByteArray):Int×ByteArray×ByteArray:=(a0,a1,a2)
noncomputable abbrev D1b (r:Int×ByteArray×ByteArray):AV×List AObj:=((.agg [(ti r.1),(.t true .str r.2.1),(.t true .str r.2.2)]),[])
noncomputable abbrev C6z:H5 C0Y→AV×List AObj:=fun d=>D1b (C2V d.1.1 d.1.2.1 d.1.2.2.1)
noncomputable abbrev C2q:H5 C0Y→Bool:=fun d=>true
theorem D0k:A7h true G7 aLn Try.f146 C0Y C2q C6z:=by
 rintro ⟨⟨a0,⟨a1,⟨a2,_⟩⟩⟩,_⟩ hp
 kernel_rfl
theorem D07:aPP 146 (A2T C0Y C2q C6z):=pcD true G7 hlz D0k
noncomputable def S8:Tab:=Tab.add S7 146 (lift (A2T C0Y C2q C6z))
noncomputable def QF8:FuncId→Bool:=qadd QF7 146
theorem G8:aPG S8 QF8:=G7.addQ D07 (cbl Try.f146) (fun _=>rfl)

abbrev C6I:List Sh:=.junk::.junk::.junk::.junk::.junk::.junk::.junk::.junk::.junk::.junk::.junk::.junk::.junk::.junk::.junk::.junk::.junk::.junk::[]
abbrev tq8:Ty:=.pair (.int .i64) (.pair .str .str)
abbrev D0R:List Sh:=.junk::C6I
abbrev u19:=((),(),(),(),(),(),(),(),(),(),(),(),(),(),(),(),(),(),())
abbrev u24:=((),u23)
noncomputable def B5O (x0:Lq1) (i:Nat):Int×ByteArray×ByteArray:=(((C2V ((x0.getD i ((0:Int),(bE,bE))).1) (((x0.getD i ((0:Int),(bE,bE))).2).1) (((x0.getD i ((0:Int),(bE,bE))).2).2)).1),(((C2V ((x0.getD i ((0:Int),(bE,bE))).1) (((x0.getD i ((0:Int),(bE,bE))).2).1) (((x0.getD i ((0:Int),(bE,bE))).2).2)).2.1),((C2V ((x0.getD i ((0:Int),(bE,bE))).1) (((x0.getD i ((0:Int),(bE,bE))).2).1) (((x0.getD i ((0:Int),(bE,bE))).2).2)).2.2)))
abbrev B7n:List PSh:=[.t tq4]
abbrev A8O:SS:=⟨(.t false tq4::.junk::.junk::.all 0 3::tI::C6I),[.rows 90 true tq8]⟩
abbrev B5w:SS:=⟨(.junk::.junk::.junk::.all 0 3::D0R),[.rows 90 true tq8]⟩
noncomputable def B8H (x0:Lq1) (x4:Int) (h0:Lq1):RT A8O.den:=let z2:=x0.getD x4.toNat ((0:Int),(bE,bE));let z1:=C2V (z2.1) ((z2.2).1) ((z2.2).2);(.br (decide (x4<(x0.length:Int))) (.br (decide (0≤x4∧x4<(x0.length:Int))) (.br (decide (0≤x4∧x4<(h0.length:Int))) (.next ((x0,(),(),(),wI (x4+(1:Int)),u19),(h0.set x4.toNat ((z1.1),((z1.2.1),(z1.2.2))),()))) .fail) .fail) (.done (.exit 0) B5w ((u24),(h0,()))))
noncomputable def B2K (x0:Lq1) (x4:Int) (h0:Lq1):CT:=(.br (decide (0≤x4)&&(decide (h0.length=x0.length)&&okL x0)) (.done (.exit 0) B5w ((u24),((foldN (fun i h=>h.set i (B5O x0 i)) (x0.length - x4.toNat) x4.toNat h0),()))) .fail)
noncomputable abbrev A9f:A8O.den→RT A8O.den:=(fun d=>B8H d.1.1 d.1.2.2.2.2.1 d.2.1)
noncomputable abbrev C24 (x0:Lq1) (x4:Int) (h0:Lq1):A8O.den:=((x0,(),(),(),x4,u19),(h0,()))
noncomputable def B9r:Code:=((D3 0 (A1f Try.f122)).getD 0 (0,.skip)).2
theorem C8N (x0:Lq1) (x4:Int) (h0:Lq1):(B2K x0 x4 h0).val (D:=A8O.den)=.fail∨Runs A9f (C24 x0 x4 h0) (B2K x0 x4 h0).val:=by
 cases hc:(decide (0≤x4)&&(decide (h0.length=x0.length)&&okL x0)) with
 | false=>left;simp only [B2K,CT.val,hc,cond_false]
 | true =>
  right
  simp only [B2K,CT.val,hc,cond_true]
  simp only [Bool.and_eq_true,decide_eq_true_eq] at hc
  obtain ⟨i,rfl⟩:=Int.eq_ofNat_of_zero_le hc.1
  have hs:=A66 hc.2.2
  simp only [Int.toNat_natCast]
  refine Runs.foldN (step:=A9f) (fun j b=>C24 x0 (j:Int) b) (fun _ b=>b.length=x0.length) (x0.length) (fun i h=>h.set i (B5O x0 i))
   (fin:=fun b=>((.done (.exit 0) B5w ((u24),(b,()))):CT).val) (fun i b hi hb=>⟨by simpa using hb,?_⟩) (fun i b hi hb=>?_) (x0.length - i) i h0 rfl hc.2.1
  ·
   have h0a:decide ((i:Int)<(x0.length:Int))=true:=decide_eq_true (by omega)
   have h0b:decide (0≤(i:Int)∧(i:Int)<(x0.length:Int))=true:=decide_eq_true (by omega)
   have h9:decide (0≤(i:Int)∧(i:Int)<(b.length:Int))=true:=decide_eq_true (by omega)
   simp only [A9f,B8H,RT.val,h0a,h0b,h9,cond_true,A7e i (by omega),Int.toNat_natCast]
   rfl
  ·have h1:decide ((i:Int)<(x0.length:Int))=false:=decide_eq_false (by omega)
   exact ⟨by simp only [A9f,B8H,RT.val,h1,cond_false];rfl,_,_,_,rfl,by simp⟩
theorem C60:RdA G8 aLn 0 B9r A8O 0 [] (kepts [] [(0,[3])]) (fun d=>(A9f d).opt 0 []):=by
 intro d
 kernel_rfl
noncomputable abbrev C1P:St→Option Tree:=A8O.say 0 [] [] (fun d=>B2K d.1.1 d.1.2.2.2.2.1 d.2.1)
theorem C8f:aPL C1P B9r:=SS.wp2 hlz [] A9f C60 (fun d=>rfl) _ (fun d=>C8N d.1.1 d.1.2.2.2.2.1 d.2.1)
noncomputable def C6N (a0:Lq1):Lq1:=(foldN (fun i h=>h.set i (B5O a0 i)) (a0.length - (0:Int).toNat) (0:Int).toNat (List.replicate (a0.length:Int).toNat ((0:Int),(bE,bE))))
noncomputable abbrev C74 (r:Lq1):AV×List AObj:=((.all 0 3),[(.rows 90 true tq8 r)])
noncomputable abbrev C38:H5 B7n→AV×List AObj:=fun d=>C74 (C6N d.1)
noncomputable def B5i (a0:Lq1):Bool:=okL a0
noncomputable abbrev C0y:H5 B7n→Bool:=fun d=>B5i d.1
noncomputable abbrev D0x:Nat→St→Option Tree:=fun b=>match b with | 0=>C1P | _=>fun _=>none
theorem C9q:A7h false G8 (D0x) Try.f122 B7n C0y C38:=by
 rintro ⟨a0,_⟩ hp
 change B5i a0=true at hp
 unfold B5i at hp
 refine Eq.trans (b:=(cond (decide (0≤(a0.length:Int)∧(a0.length:Int)=(a0.length:Int)∧(a0.length:Int).toNat*40≤MAXB∧(a0.length:Int)≤9223372036854775807)) (cond (decide (0≤(0:Int))&&(decide ((List.replicate (a0.length:Int).toNat ((0:Int),((⟨#[]⟩:ByteArray),(⟨#[]⟩:ByteArray)))).length=a0.length)&&okL a0)) (some (C74 (foldN (fun i h=>h.set i (B5O a0 i)) (a0.length - (0:Int).toNat) (0:Int).toNat (List.replicate (a0.length:Int).toNat ((0:Int),((⟨#[]⟩:ByteArray),(⟨#[]⟩:ByteArray))))))) none) none)) (by kernel_rfl) ?_
 exact (A7k (by first | rfl | decide | exact hp | (simp only [Bool.and_eq_true] at hp;simp only [hp];done) | (simp [*];done) | (simp [okL] at hp;simp [okL,MAXB];omega) | (simp_all;done) | (simp at *;omega)) (fun _h=>(A7k (by first | rfl | decide | exact hp | (simp only [Bool.and_eq_true] at hp;simp only [hp];done) | (simp [*];done) | (simp [okL] at hp;simp [okL,MAXB];omega) | (simp_all;done) | (simp at *;omega)) (fun _h=>rfl))))
theorem D0K:aPP 122 (A2T B7n C0y C38):=pcD false G8 (hl1 (i:=0) (by kernel_rfl) C8f) C9q
noncomputable def S9:Tab:=Tab.add S8 122 (lift (A2T B7n C0y C38))
noncomputable def QF9:FuncId→Bool:=QF8
theorem G9:aPG S9 QF9:=G8.add D0K (cbl Try.f122) (by kernel_rfl)

abbrev D0b:List Sh:=.junk::.junk::.junk::.junk::.junk::.junk::.junk::.junk::.junk::.junk::.junk::.junk::.junk::.junk::.junk::.junk::.junk::[]
abbrev u18:=((),(),(),(),(),(),(),(),(),(),(),(),(),(),(),(),(),())
noncomputable def B3N (x0:List Int) (i:Nat):Int:=(x0.getD i (0:Int))
abbrev B4L:List PSh:=[.t M9]
abbrev A7K:SS:=⟨(.t false M9::.junk::.junk::.all 0 1::tI::D0b),[.rows 3 true (.int .i64)]⟩
abbrev B37:SS:=⟨(.junk::.junk::.junk::.all 0 1::C6I),[.rows 3 true (.int .i64)]⟩
noncomputable def B6w (x0:List Int) (x4:Int) (h0:List Int):RT A7K.den:=(.br (decide (x4<(x0.length:Int))) (.br (decide (0≤x4∧x4<(x0.length:Int))) (.br (decide (0≤x4∧x4<(h0.length:Int))) (.next ((x0,(),(),(),wI (x4+(1:Int)),u18),(h0.set x4.toNat (x0.getD x4.toNat (0:Int)),()))) .fail) .fail) (.done (.exit 0) B37 ((u23),(h0,()))))
noncomputable def B02 (x0:List Int) (x4:Int) (h0:List Int):CT:=(.br (decide (0≤x4)&&(decide (h0.length=x0.length)&&okL x0)) (.done (.exit 0) B37 ((u23),((foldN (fun i h=>h.set i (B3N x0 i)) (x0.length - x4.toNat) x4.toNat h0),()))) .fail)
noncomputable abbrev A8i:A7K.den→RT A7K.den:=(fun d=>B6w d.1.1 d.1.2.2.2.2.1 d.2.1)
noncomputable abbrev C1x (x0:List Int) (x4:Int) (h0:List Int):A7K.den:=((x0,(),(),(),x4,u18),(h0,()))
noncomputable def B7z:Code:=((D3 0 (A1f Try.f123)).getD 0 (0,.skip)).2
theorem C7F (x0:List Int) (x4:Int) (h0:List Int):(B02 x0 x4 h0).val (D:=A7K.den)=.fail∨Runs A8i (C1x x0 x4 h0) (B02 x0 x4 h0).val:=by
 cases hc:(decide (0≤x4)&&(decide (h0.length=x0.length)&&okL x0)) with
 | false=>left;simp only [B02,CT.val,hc,cond_false]
 | true =>
  right
  simp only [B02,CT.val,hc,cond_true]
  simp only [Bool.and_eq_true,decide_eq_true_eq] at hc
  obtain ⟨i,rfl⟩:=Int.eq_ofNat_of_zero_le hc.1
  have hs:=A66 hc.2.2
  simp only [Int.toNat_natCast]
  refine Runs.foldN (step:=A8i) (fun j b=>C1x x0 (j:Int) b) (fun _ b=>b.length=x0.length) (x0.length) (fun i h=>h.set i (B3N x0 i))
   (fin:=fun b=>((.done (.exit 0) B37 ((u23),(b,()))):CT).val) (fun i b hi hb=>⟨by simpa using hb,?_⟩) (fun i b hi hb=>?_) (x0.length - i) i h0 rfl hc.2.1
  ·
   have h0a:decide ((i:Int)<(x0.length:Int))=true:=decide_eq_true (by omega)
   have h0b:decide (0≤(i:Int)∧(i:Int)<(x0.length:Int))=true:=decide_eq_true (by omega)
   have h9:decide (0≤(i:Int)∧(i:Int)<(b.length:Int))=true:=decide_eq_true (by omega)
   simp only [A8i,B6w,RT.val,h0a,h0b,h9,cond_true,A7e i (by omega),Int.toNat_natCast]
   rfl
  ·have h1:decide ((i:Int)<(x0.length:Int))=false:=decide_eq_false (by omega)
   exact ⟨by simp only [A8i,B6w,RT.val,h1,cond_false];rfl,_,_,_,rfl,by simp⟩
theorem C5v:RdA G9 aLn 0 B7z A7K 0 [] (kepts [] [(0,[3])]) (fun d=>(A8i d).opt 0 []):=by
 intro d
 kernel_rfl
noncomputable abbrev B9T:St→Option Tree:=A7K.say 0 [] [] (fun d=>B02 d.1.1 d.1.2.2.2.2.1 d.2.1)
theorem C6T:aPL B9T B7z:=SS.wp2 hlz [] A8i C5v (fun d=>rfl) _ (fun d=>C7F d.1.1 d.1.2.2.2.2.1 d.2.1)
noncomputable def C3L (a0:List Int):List Int:=(foldN (fun i h=>h.set i (B3N a0 i)) (a0.length - (0:Int).toNat) (0:Int).toNat (List.replicate (a0.length:Int).toNat (0:Int)))
noncomputable abbrev C5T (r:List Int):AV×List AObj:=((.all 0 1),[(.rows 3 true (.int .i64) r)])
noncomputable abbrev C2e:H5 B4L→AV×List AObj:=fun d=>C5T (C3L d.1)
noncomputable def B2m (a0:List Int):Bool:=okL a0
noncomputable abbrev B79:H5 B4L→Bool:=fun d=>B2m d.1
noncomputable abbrev C9P:Nat→St→Option Tree:=fun b=>match b with | 0=>B9T | _=>fun _=>none
theorem C8w:A7h false G9 (C9P) Try.f123 B4L B79 C2e:=by
 rintro ⟨a0,_⟩ hp
 change B2m a0=true at hp
 unfold B2m at hp
 refine Eq.trans (b:=(cond (decide (0≤(a0.length:Int)∧(a0.length:Int)=(a0.length:Int)∧(a0.length:Int).toNat*8≤MAXB∧(a0.length:Int)≤9223372036854775807)) (cond (decide (0≤(0:Int))&&(decide ((List.replicate (a0.length:Int).toNat (0:Int)).length=a0.length)&&okL a0)) (some (C5T (foldN (fun i h=>h.set i (B3N a0 i)) (a0.length - (0:Int).toNat) (0:Int).toNat (List.replicate (a0.length:Int).toNat (0:Int))))) none) none)) (by kernel_rfl) ?_
 exact (A7k (by first | rfl | decide | exact hp | (simp only [Bool.and_eq_true] at hp;simp only [hp];done) | (simp [*];done) | (simp [okL] at hp;simp [okL,MAXB];omega) | (simp_all;done) | (simp at *;omega)) (fun _h=>(A7k (by first | rfl | decide | exact hp | (simp only [Bool.and_eq_true] at hp;simp only [hp];done) | (simp [*];done) | (simp [okL] at hp;simp [okL,MAXB];omega) | (simp_all;done) | (simp at *;omega)) (fun _h=>rfl))))
theorem C94:aPP 123 (A2T B4L B79 C2e):=pcD false G9 (hl1 (i:=0) (by kernel_rfl) C6T) C8w
noncomputable def S10:Tab:=Tab.add S9 123 (lift (A2T B4L B79 C2e))
noncomputable def D11:FuncId→Bool:=QF9
theorem G10:aPG S10 D11:=G9.add C94 (cbl Try.f123) (by kernel_rfl)

abbrev B7m:List PSh:=[.agg [(.int .i64),tq4,(.int .i64),M9]]
noncomputable def C6M (a0:Int) (a1:Lq1) (a2:Int) (a3:List Int):Int×Int×Lq1×List Int:=(a0,a2,(C6N a1),(C3L a3))
noncomputable abbrev C73 (r:Int×Int×Lq1×List Int):AV×List AObj:=((.agg [(ti r.1),(.all 0 3),(ti r.2.1),(.all 1 1)]),[(.rows 90 true tq8 r.2.2.1),(.rows 3 true (.int .i64) r.2.2.2)])
noncomputable abbrev C37:H5 B7m→AV×List AObj:=fun d=>C73 (C6M d.1.1 d.1.2.1 d.1.2.2.1 d.1.2.2.2.1)
noncomputable def B3h (a0:Int) (a1:Lq1) (a2:Int) (a3:List Int):Bool:=(B5i a1)&&(B2m a3)
noncomputable abbrev C0x:H5 B7m→Bool:=fun d=>B3h d.1.1 d.1.2.1 d.1.2.2.1 d.1.2.2.2.1
theorem C9p:A7h false G10 aLn Try.f89 B7m C0x C37:=by
 rintro ⟨⟨a0,⟨a1,⟨a2,⟨a3,_⟩⟩⟩⟩,_⟩ hp
 change B3h a0 a1 a2 a3=true at hp
 unfold B3h at hp
 refine Eq.trans (b:=(cond (B5i a1) (cond (B2m a3) (some (C73 (a0,a2,(C6N a1),(C3L a3)))) none) none)) (by kernel_rfl) ?_
 exact (A7i hp fun hp=>(A7k hp fun _h=>rfl))
theorem D0J:aPP 89 (A2T B7m C0x C37):=pcD false G10 hlz C9p
noncomputable def S11:Tab:=Tab.add S10 89 (lift (A2T B7m C0x C37))
noncomputable def D12:FuncId→Bool:=D11
theorem G11:aPG S11 D12:=G10.add D0J (cbl Try.f89) (by kernel_rfl)

abbrev tq7:Ty:=.pair (.int .i64) (.pair (.sl (.pair (.int .i64) (.pair .str .str))) (.pair (.int .i64) (.sl (.int .i64))))
abbrev B4M:List PSh:=[.t tq2]
abbrev A7L:SS:=⟨(.t false tq2::.junk::.junk::.all 0 4::tI::C6I),[.deep 48 [90,3] tq7]⟩
abbrev B9l:SS:=⟨(.junk::.junk::.junk::.all 0 4::D0R),[.deep 48 [90,3] tq7]⟩
noncomputable def C1X (x0:LT1) (x4:Int) (h0:LT1):RT A7L.den:=let z1:=x0.getD x4.toNat ((0:Int),([],((0:Int),[])));let z2:=C6M (z1.1) ((z1.2).1) (((z1.2).2).1) (((z1.2).2).2);(.br (decide (x4<(x0.length:Int))) (.br (decide (0≤x4∧x4<(x0.length:Int))) (.br (B3h (z1.1) ((z1.2).1) (((z1.2).2).1) (((z1.2).2).2)) (.br (decide (0≤x4∧x4<(h0.length:Int))) (.next ((x0,(),(),(),wI (x4+(1:Int)),u19),(h0.set x4.toNat ((z2.1),((z2.2.2.1),((z2.2.1),(z2.2.2.2)))),()))) .fail) .fail) .fail) (.done (.exit 0) B9l ((u24),(h0,()))))
abbrev B04:=LT1×(Int)×LT1
abbrev A81:=Nat×LT1
def B18:A81:=(99,([]:LT1))
noncomputable def B2e (x0:LT1) (x4:Int) (h0:LT1):B04 ⊕ A81:=let z1:=x0.getD x4.toNat ((0:Int),([],((0:Int),[])));let z2:=C6M (z1.1) ((z1.2).1) (((z1.2).2).1) (((z1.2).2).2);(cond (decide (x4<(x0.length:Int))) (cond (decide (0≤x4∧x4<(x0.length:Int))) (cond (B3h (z1.1) ((z1.2).1) (((z1.2).2).1) (((z1.2).2).2)) (cond (decide (0≤x4∧x4<(h0.length:Int))) (.inl (x0,wI (x4+(1:Int)),h0.set x4.toNat ((z2.1),((z2.2.2.1),((z2.2.1),(z2.2.2.2)))))) (.inr B18)) (.inr B18)) (.inr B18)) (.inr (0,h0)))
noncomputable def A9P (x0:LT1) (x4:Int) (h0:LT1):A81:=itX (fun v:B04=>B2e v.1 v.2.1 v.2.2) B18 (x0,x4,h0)
noncomputable def B5F (a:A81):CT:=(.br (a.1==0) (.done (.exit 0) B9l ((u24),(a.2,()))) .fail)
noncomputable def C7J (x0:LT1) (x4:Int) (h0:LT1):CT:=B5F (A9P x0 x4 h0)
noncomputable abbrev B6r:A7L.den→RT A7L.den:=(fun d=>C1X d.1.1 d.1.2.2.2.2.1 d.2.1)
noncomputable def B7A:Code:=((D3 0 (A1f Try.f45)).getD 0 (0,.skip)).2
noncomputable abbrev C1C (v:B04):A7L.den:=((v.1,(),(),(),v.2.1,u19),(v.2.2,()))
theorem C7b:(∀ v:B04,(C1X v.1 v.2.1 v.2.2).val=A6l C1C B5F (B2e v.1 v.2.1 v.2.2))∧∀ a:A81,CEnd A7L.den (B5F a):=⟨fun v=>(A7m (A7m (A7m (A7m rfl rfl) rfl) rfl) rfl),fun a=>(A7a aCD A7c)⟩
theorem C5w:RdA (G11.deep ow) aLn 0 B7A A7L 0 [] (kepts [] [(0,[3])]) (fun d=>(B6r d).opt 0 []):=by
 intro d
 kernel_rfl
noncomputable abbrev B9U:St→Option Tree:=A7L.say 0 [] [] (fun d=>C7J d.1.1 d.1.2.2.2.2.1 d.2.1)
theorem C6U:aPL B9U B7A:=SS.wp2 hlz [] B6r C5w (fun d=>rfl) _ (fun d=>Runs.ofI2 (step:=B6r) C1C C7b rfl (d.1.1,d.1.2.2.2.2.1,d.2.1))
noncomputable def C1n (a0:LT1):LT1:=((A9P a0 (0:Int) (List.replicate (a0.length:Int).toNat ((0:Int),([],((0:Int),[]))))).2)
noncomputable abbrev C5U (r:LT1):AV×List AObj:=((.all 0 4),[(.deep 48 [90,3] tq7 r)])
noncomputable abbrev C2f:H5 B4M→AV×List AObj:=fun d=>C5U (C1n d.1)
noncomputable def B0z (a0:LT1):Bool:=(decide (0≤(a0.length:Int)∧(a0.length:Int)=(a0.length:Int)∧(a0.length:Int).toNat*64≤MAXB∧(a0.length:Int)≤9223372036854775807))&&((A9P a0 (0:Int) (List.replicate (a0.length:Int).toNat ((0:Int),([],((0:Int),[]))))).1==0)
noncomputable abbrev B8a:H5 B4M→Bool:=fun d=>B0z d.1
noncomputable abbrev C9Q:Nat→St→Option Tree:=fun b=>match b with | 0=>B9U | _=>fun _=>none
theorem C8x:A7h false (G11.deep ow) (C9Q) Try.f45 B4M B8a C2f:=by
 rintro ⟨a0,_⟩ hp
 change B0z a0=true at hp
 unfold B0z at hp
 refine Eq.trans (b:=(let z1:=A9P a0 (0:Int) (List.replicate (a0.length:Int).toNat ((0:Int),([],((0:Int),[]))));cond (decide (0≤(a0.length:Int)∧(a0.length:Int)=(a0.length:Int)∧(a0.length:Int).toNat*64≤MAXB∧(a0.length:Int)≤9223372036854775807)) (cond (z1.1==0) (some (C5U (z1.2))) none) none)) (by kernel_rfl) ?_
 exact (A7i hp fun hp=>(A7k hp fun _h=>rfl))
theorem C95:aPP 45 (A2T B4M B8a C2f):=pcD false (G11.deep ow) (hl1 (i:=0) (by kernel_rfl) C6U) C8x
noncomputable def S12:Tab:=Tab.add S11 45 (lift (A2T B4M B8a C2f))
noncomputable def D13:FuncId→Bool:=D12
theorem G12:aPG S12 D13:=G11.add C95 (cbl Try.f45) (by kernel_rfl)

abbrev B0W:List PSh:=[.agg [(.int .i64),.bool]]
noncomputable def B0u (a0:Int) (a1:Bool):Int×Bool:=(a0,a1)
noncomputable abbrev C72 (r:Int×Bool):AV×List AObj:=((.agg [(ti r.1),(.t true .bool r.2)]),[])
noncomputable abbrev B7M:H5 B0W→AV×List AObj:=fun d=>C72 (B0u d.1.1 d.1.2.1)
noncomputable abbrev B4k:H5 B0W→Bool:=fun d=>true
theorem C5L:A7h true G12 aLn Try.f90 B0W B4k B7M:=by
 rintro ⟨⟨a0,⟨a1,_⟩⟩,_⟩ hp
 kernel_rfl
theorem C7T:aPP 90 (A2T B0W B4k B7M):=pcD true G12 hlz C5L
noncomputable def S13:Tab:=Tab.add S12 90 (lift (A2T B0W B4k B7M))
noncomputable def D14:FuncId→Bool:=qadd D13 90
theorem G13:aPG S13 D14:=G12.addQ C7T (cbl Try.f90) (fun _=>rfl)

abbrev B93:Ty:=.pair (.int .i64) .bool
noncomputable def A9E (x0:LIbe) (i:Nat):Int×Bool:=(((B0u ((x0.getD i ((0:Int),false)).1) ((x0.getD i ((0:Int),false)).2)).1),((B0u ((x0.getD i ((0:Int),false)).1) ((x0.getD i ((0:Int),false)).2)).2))
abbrev A9q:List PSh:=[.t tq5]
abbrev T0:SS:=⟨(.t false tq5::.junk::.junk::.all 0 2::tI::C6I),[.rows 43 true B93]⟩
abbrev B0l:SS:=⟨(.junk::.junk::.junk::.all 0 2::D0R),[.rows 43 true B93]⟩
noncomputable def B1C (x0:LIbe) (x4:Int) (h0:LIbe):RT T0.den:=let z1:=x0.getD x4.toNat ((0:Int),false);let z2:=B0u (z1.1) (z1.2);(.br (decide (x4<(x0.length:Int))) (.br (decide (0≤x4∧x4<(x0.length:Int))) (.br (decide (0≤x4∧x4<(h0.length:Int))) (.next ((x0,(),(),(),wI (x4+(1:Int)),u19),(h0.set x4.toNat ((z2.1),(z2.2)),()))) .fail) .fail) (.done (.exit 0) B0l ((u24),(h0,()))))
noncomputable def A7P (x0:LIbe) (x4:Int) (h0:LIbe):CT:=(.br (decide (0≤x4)&&(decide (h0.length=x0.length)&&okL x0)) (.done (.exit 0) B0l ((u24),((foldN (fun i h=>h.set i (A9E x0 i)) (x0.length - x4.toNat) x4.toNat h0),()))) .fail)
noncomputable abbrev U6:T0.den→RT T0.den:=(fun d=>B1C d.1.1 d.1.2.2.2.2.1 d.2.1)
noncomputable abbrev B6P (x0:LIbe) (x4:Int) (h0:LIbe):T0.den:=((x0,(),(),(),x4,u19),(h0,()))
noncomputable def B3E:Code:=((D3 0 (A1f Try.f46)).getD 0 (0,.skip)).2
theorem C3P (x0:LIbe) (x4:Int) (h0:LIbe):(A7P x0 x4 h0).val (D:=T0.den)=.fail∨Runs U6 (B6P x0 x4 h0) (A7P x0 x4 h0).val:=by
 cases hc:(decide (0≤x4)&&(decide (h0.length=x0.length)&&okL x0)) with
 | false=>left;simp only [A7P,CT.val,hc,cond_false]
 | true =>
  right
  simp only [A7P,CT.val,hc,cond_true]
  simp only [Bool.and_eq_true,decide_eq_true_eq] at hc
  obtain ⟨i,rfl⟩:=Int.eq_ofNat_of_zero_le hc.1
  have hs:=A66 hc.2.2
  simp only [Int.toNat_natCast]
  refine Runs.foldN (step:=U6) (fun j b=>B6P x0 (j:Int) b) (fun _ b=>b.length=x0.length) (x0.length) (fun i h=>h.set i (A9E x0 i))
   (fin:=fun b=>((.done (.exit 0) B0l ((u24),(b,()))):CT).val) (fun i b hi hb=>⟨by simpa using hb,?_⟩) (fun i b hi hb=>?_) (x0.length - i) i h0 rfl hc.2.1
  ·
   have h0a:decide ((i:Int)<(x0.length:Int))=true:=decide_eq_true (by omega)
   have h0b:decide (0≤(i:Int)∧(i:Int)<(x0.length:Int))=true:=decide_eq_true (by omega)
   have h9:decide (0≤(i:Int)∧(i:Int)<(b.length:Int))=true:=decide_eq_true (by omega)
   simp only [U6,B1C,RT.val,h0a,h0b,h9,cond_true,A7e i (by omega),Int.toNat_natCast]
   rfl
  ·have h1:decide ((i:Int)<(x0.length:Int))=false:=decide_eq_false (by omega)
   exact ⟨by simp only [U6,B1C,RT.val,h1,cond_false];rfl,_,_,_,rfl,by simp⟩
theorem C2x:RdA G13 aLn 0 B3E T0 0 [] (kepts [] [(0,[3])]) (fun d=>(U6 d).opt 0 []):=by
 intro d
 kernel_rfl
noncomputable abbrev B5p:St→Option Tree:=T0.say 0 [] [] (fun d=>A7P d.1.1 d.1.2.2.2.2.1 d.2.1)
theorem C3q:aPL B5p B3E:=SS.wp2 hlz [] U6 C2x (fun d=>rfl) _ (fun d=>C3P d.1.1 d.1.2.2.2.2.1 d.2.1)
noncomputable def B58 (a0:LIbe):LIbe:=(foldN (fun i h=>h.set i (A9E a0 i)) (a0.length - (0:Int).toNat) (0:Int).toNat (List.replicate (a0.length:Int).toNat ((0:Int),false)))
noncomputable abbrev C1d (r:LIbe):AV×List AObj:=((.all 0 2),[(.rows 43 true B93 r)])
noncomputable abbrev B5U:H5 A9q→AV×List AObj:=fun d=>C1d (B58 d.1)
noncomputable def A8g (a0:LIbe):Bool:=okL a0
noncomputable abbrev B3d:H5 A9q→Bool:=fun d=>A8g d.1
noncomputable abbrev C56:Nat→St→Option Tree:=fun b=>match b with | 0=>B5p | _=>fun _=>none
theorem C4X:A7h false G13 (C56) Try.f46 A9q B3d B5U:=by
 rintro ⟨a0,_⟩ hp
 change A8g a0=true at hp
 unfold A8g at hp
 refine Eq.trans (b:=(cond (decide (0≤(a0.length:Int)∧(a0.length:Int)=(a0.length:Int)∧(a0.length:Int).toNat*16≤MAXB∧(a0.length:Int)≤9223372036854775807)) (cond (decide (0≤(0:Int))&&(decide ((List.replicate (a0.length:Int).toNat ((0:Int),false)).length=a0.length)&&okL a0)) (some (C1d (foldN (fun i h=>h.set i (A9E a0 i)) (a0.length - (0:Int).toNat) (0:Int).toNat (List.replicate (a0.length:Int).toNat ((0:Int),false))))) none) none)) (by kernel_rfl) ?_
 exact (A7k (by first | rfl | decide | exact hp | (simp only [Bool.and_eq_true] at hp;simp only [hp];done) | (simp [*];done) | (simp [okL] at hp;simp [okL,MAXB];omega) | (simp_all;done) | (simp at *;omega)) (fun _h=>(A7k (by first | rfl | decide | exact hp | (simp only [Bool.and_eq_true] at hp;simp only [hp];done) | (simp [*];done) | (simp [okL] at hp;simp [okL,MAXB];omega) | (simp_all;done) | (simp at *;omega)) (fun _h=>rfl))))
theorem C6n:aPP 46 (A2T A9q B3d B5U):=pcD false G13 (hl1 (i:=0) (by kernel_rfl) C3q) C4X
noncomputable def S14:Tab:=Tab.add S13 46 (lift (A2T A9q B3d B5U))
noncomputable def D15:FuncId→Bool:=D14
theorem G14:aPG S14 D15:=G13.add C6n (cbl Try.f46) (by kernel_rfl)

abbrev B2D:List PSh:=[.agg [(.int .i64),(.int .i64),(.int .i64),tq2,tq5,(.int .i64)]]
noncomputable def A90 (a0 a1 a2:Int) (a3:LT1) (a4:LIbe) (a5:Int):Int×Int×Int×Int×LT1×LIbe:=(a0,a1,a2,a5,(C1n a3),(B58 a4))
noncomputable abbrev C3X (r:Int×Int×Int×Int×LT1×LIbe):AV×List AObj:=((.agg [(ti r.1),(ti r.2.1),(ti r.2.2.1),(.all 0 4),(.all 1 2),(ti r.2.2.2.1)]),[(.deep 48 [90,3] tq7 r.2.2.2.2.1),(.rows 43 true B93 r.2.2.2.2.2)])
noncomputable abbrev C0l:H5 B2D→AV×List AObj:=fun d=>C3X (A90 d.1.1 d.1.2.1 d.1.2.2.1 d.1.2.2.2.1 d.1.2.2.2.2.1 d.1.2.2.2.2.2.1)
noncomputable def A8X (a0 a1 a2:Int) (a3:LT1) (a4:LIbe) (a5:Int):Bool:=(B0z a3)&&(A8g a4)
noncomputable abbrev B6h:H5 B2D→Bool:=fun d=>A8X d.1.1 d.1.2.1 d.1.2.2.1 d.1.2.2.2.1 d.1.2.2.2.2.1 d.1.2.2.2.2.2.1
theorem C7n:A7h false G14 aLn Try.f15 B2D B6h C0l:=by
 rintro ⟨⟨a0,⟨a1,⟨a2,⟨a3,⟨a4,⟨a5,_⟩⟩⟩⟩⟩⟩,_⟩ hp
 change A8X a0 a1 a2 a3 a4 a5=true at hp
 unfold A8X at hp
 refine Eq.trans (b:=(cond (B0z a3) (cond (A8g a4) (some (C3X (a0,a1,a2,a5,(C1n a3),(B58 a4)))) none) none)) (by kernel_rfl) ?_
 exact (A7i hp fun hp=>(A7k hp fun _h=>rfl))
theorem C84:aPP 15 (A2T B2D B6h C0l):=pcD false G14 hlz C7n
noncomputable def S15:Tab:=Tab.add S14 15 (lift (A2T B2D B6h C0l))
noncomputable def D16:FuncId→Bool:=D15
theorem G15:aPG S15 D16:=G14.add C84 (cbl Try.f15) (by kernel_rfl)

abbrev C00:List PSh:=[.t (.int .i64),.t (.int .i64),.t (.int .i64)]
noncomputable def J5 (a0 a1 a2:Int):Bool:=(cond (decide (a0 ≥ a1)) (decide (a0≤a2)) false)
noncomputable abbrev C3I (r:Bool):AV×List AObj:=((.t true .bool r),[])
noncomputable abbrev C6B:H5 C00→AV×List AObj:=fun d=>C3I (J5 d.1 d.2.1 d.2.2.1)
noncomputable abbrev C2s:H5 C00→Bool:=fun d=>true
theorem D0m:A7h true G15 aLn Try.f42 C00 C2s C6B:=by
 rintro ⟨a0,⟨a1,⟨a2,_⟩⟩⟩ hp
 refine Eq.trans (b:=(cond (decide (a0 ≥ a1)) (some (C3I (decide (a0≤a2)))) (some (C3I false)))) (by kernel_rfl) ?_
 exact (N4 C3I (fun _h=>rfl) (fun _h=>rfl))
theorem D09:aPP 42 (A2T C00 C2s C6B):=pcD true G15 hlz D0m
noncomputable def S16:Tab:=Tab.add S15 42 (lift (A2T C00 C2s C6B))
noncomputable def D17:FuncId→Bool:=qadd D16 42
theorem G16:aPG S16 D17:=G15.addQ D09 (cbl Try.f42) (fun _=>rfl)

abbrev D0a:List Sh:=.junk::.junk::.junk::.junk::.junk::.junk::.junk::.junk::.junk::.junk::.junk::.junk::.junk::.junk::.junk::.junk::[]
abbrev u17:=((),(),(),(),(),(),(),(),(),(),(),(),(),(),(),(),())
abbrev A9s:List PSh:=[.agg [(.int .i64),(.int .i64),(.int .i64),tq2,tq5,(.int .i64)],.t (.int .i64)]
abbrev O8:SS:=⟨(.junk::tI::.ptr 0 0 1 0::.junk::.junk::tI::D0a),[.box [tI,tI,tI,.t false tq2,.t false tq5,tI]]⟩
abbrev B4C:SS:=⟨(.junk::.junk::.junk::.junk::tI::D0b),[]⟩
abbrev B4D:SS:=⟨(.junk::C5h),[]⟩
noncomputable def B63 (x1 x5 p0 p1 p2:Int) (p3:LT1) (p4:LIbe) (p5:Int):RT O8.den:=(.br (decide (x5<(p4.length:Int))) (.br (decide (0≤x5∧x5<(p4.length:Int))) (.br (((p4.getD x5.toNat ((0:Int),false)).1)==x1) (.done .ret B4C (((),(),(),(),x5,u18),())) (.next (((),x1,(),(),(),wI (x5+(1:Int)),u17),((p0,p1,p2,p3,p4,p5,()),())))) .fail) (.done (.exit 0) B4D ((u23),())))
abbrev A9y:=(Int)×(Int)
abbrev A7F:=Nat×(Int)
def B6H:A7F:=(99,((0:Int):Int))
noncomputable def A8J (x1 x5 p0 p1 p2:Int) (p3:LT1) (p4:LIbe) (p5:Int):A9y ⊕ A7F:=(cond (decide (x5<(p4.length:Int))) (cond (decide (0≤x5∧x5<(p4.length:Int))) (cond (((p4.getD x5.toNat ((0:Int),false)).1)==x1) (.inr (0,x5)) (.inl (x1,wI (x5+(1:Int))))) (.inr B6H)) (.inr (1,((0:Int):Int))))
noncomputable def A0e (x1 x5 p0 p1 p2:Int) (p3:LT1) (p4:LIbe) (p5:Int):A7F:=itX (fun v:A9y=>A8J v.1 v.2 p0 p1 p2 p3 p4 p5) B6H (x1,x5)
noncomputable def B1u (p0 p1 p2:Int) (p3:LT1) (p4:LIbe) (p5:Int) (a:A7F):CT:=(.br (a.1==0) (.done .ret B4C (((),(),(),(),a.2,u18),())) (.br (a.1==1) (.done (.exit 0) B4D ((u23),())) .fail))
noncomputable def C3S (x1 x5 p0 p1 p2:Int) (p3:LT1) (p4:LIbe) (p5:Int):CT:=(B1u p0 p1 p2 p3 p4 p5) (A0e x1 x5 p0 p1 p2 p3 p4 p5)
noncomputable abbrev B6C {α:Sort _} (f:Int→Int→Int→Int→Int→LT1→LIbe→Int→α) (d:O8.den):α:=f d.1.2.1 d.1.2.2.2.2.2.1 d.2.1.1 d.2.1.2.1 d.2.1.2.2.1 d.2.1.2.2.2.1 d.2.1.2.2.2.2.1 d.2.1.2.2.2.2.2.1
noncomputable abbrev B1A:O8.den→RT O8.den:=(B6C B63)
noncomputable def B3F:Code:=((D3 0 (A1f Try.f43)).getD 0 (0,.skip)).2
noncomputable abbrev B6S (p0 p1 p2:Int) (p3:LT1) (p4:LIbe) (p5:Int) (v:A9y):O8.den:=(((),v.1,(),(),(),v.2,u17),((p0,p1,p2,p3,p4,p5,()),()))
theorem C3G (p0 p1 p2:Int) (p3:LT1) (p4:LIbe) (p5:Int):(∀ v:A9y,(B63 v.1 v.2 p0 p1 p2 p3 p4 p5).val=A6l (B6S p0 p1 p2 p3 p4 p5) (B1u p0 p1 p2 p3 p4 p5) (A8J v.1 v.2 p0 p1 p2 p3 p4 p5))∧∀ a:A7F,CEnd O8.den ((B1u p0 p1 p2 p3 p4 p5) a):=⟨fun v=>(A7m (A7m (A7m rfl rfl) rfl) rfl),fun a=>(A7a aCD (A7a aCD A7c))⟩
theorem C2y:RdA G16 aLn 0 B3F O8 0 [] (kepts [4] [(0,[])]) (fun d=>(B1A d).opt 0 []):=by
 intro d
 kernel_rfl
noncomputable abbrev B5q:St→Option Tree:=O8.say 0 [] [] (B6C C3S)
theorem C3r:aPL B5q B3F:=SS.wp2 hlz [] B1A C2y (fun d=>rfl) _ (fun d=>Runs.ofI2 (step:=B1A) (B6S d.2.1.1 d.2.1.2.1 d.2.1.2.2.1 d.2.1.2.2.2.1 d.2.1.2.2.2.2.1 d.2.1.2.2.2.2.2.1) (C3G d.2.1.1 d.2.1.2.1 d.2.1.2.2.1 d.2.1.2.2.2.1 d.2.1.2.2.2.2.1 d.2.1.2.2.2.2.2.1) rfl (d.1.2.1,d.1.2.2.2.2.2.1))
noncomputable def Q0 (a0 a1 a2:Int) (a3:LT1) (a4:LIbe) (a5 a6:Int):Int:=let z1:=A0e a6 (0:Int) a0 a1 a2 a3 a4 a5;(cond (z1.1==0) (z1.2) (-1:Int))
noncomputable abbrev B15 (r:Int):AV×List AObj:=((ti r),[])
noncomputable abbrev B5W:H5 A9s→AV×List AObj:=fun d=>B15 (Q0 d.1.1 d.1.2.1 d.1.2.2.1 d.1.2.2.2.1 d.1.2.2.2.2.1 d.1.2.2.2.2.2.1 d.2.1)
noncomputable def M3 (a0 a1 a2:Int) (a3:LT1) (a4:LIbe) (a5 a6:Int):Bool:=let z1:=A0e a6 (0:Int) a0 a1 a2 a3 a4 a5;cond (z1.1==0) true (z1.1==1)
noncomputable abbrev B3f:H5 A9s→Bool:=fun d=>M3 d.1.1 d.1.2.1 d.1.2.2.1 d.1.2.2.2.1 d.1.2.2.2.2.1 d.1.2.2.2.2.2.1 d.2.1
noncomputable abbrev C57:Nat→St→Option Tree:=fun b=>match b with | 0=>B5q | _=>fun _=>none
theorem C4Z:A7h true G16 (C57) Try.f43 A9s B3f B5W:=by
 rintro ⟨⟨a0,⟨a1,⟨a2,⟨a3,⟨a4,⟨a5,_⟩⟩⟩⟩⟩⟩,⟨a6,_⟩⟩ hp
 change M3 a0 a1 a2 a3 a4 a5 a6=true at hp
 unfold M3 at hp
 refine Eq.trans (b:=(let z1:=A0e a6 (0:Int) a0 a1 a2 a3 a4 a5;cond (z1.1==0) (some (B15 (z1.2))) (cond (z1.1==1) (some (B15 (-1:Int))) none))) (by kernel_rfl) ?_
 exact (K8 B15 hp (fun hp=>rfl) (fun hp=>(A7k hp fun _h=>rfl)))
theorem C6p:aPP 43 (A2T A9s B3f B5W):=pcD true G16 (hl1 (i:=0) (by kernel_rfl) C3r) C4Z
noncomputable def S17:Tab:=Tab.add S16 43 (lift (A2T A9s B3f B5W))
noncomputable def D18:FuncId→Bool:=qadd D17 43
theorem G17:aPG S17 D18:=G16.addQ C6p (cbl Try.f43) (fun _=>rfl)

abbrev D1R:List Sh:=.junk::C79
abbrev D1S:List Sh:=.junk::D1R
abbrev C5i:List Sh:=.junk::D0S
abbrev u25:=((),u24)
abbrev u27:=((),u26)
noncomputable def B8q (s:ByteArray) (i:Nat):Bool:=let z1:=wI (bt s (i:Int));J5 z1 97 122||J5 z1 48 57
abbrev B7o:List PSh:=[.t .str]
abbrev A8P:SS:=⟨(.t true .str::.junk::.junk::tI::D1R),[]⟩
abbrev C0P:SS:=⟨(.junk::.junk::.t true .bool::D1S),[]⟩
abbrev C0Q:SS:=⟨(.t true .str::C5i),[]⟩
noncomputable def B8I (x0:ByteArray) (x3:Int):RT A8P.den:=let z1:=decide (0≤x3∧x3<(x0.size:Int));let z2:=wI (bt x0 x3);(.br (decide (x3<(x0.size:Int))) (.br z1 (.br (!(J5 z2 (97:Int) (122:Int))) (.br z1 (.br (!(J5 z2 (48:Int) (57:Int))) (.done .ret C0P (((),(),false,u25),())) (.next ((x0,(),(),wI (x3+(1:Int)),u24),()))) .fail) (.next ((x0,(),(),wI (x3+(1:Int)),u24),()))) .fail) (.done (.exit 0) C0Q ((x0,u27),())))
noncomputable def B2L (x0:ByteArray) (x3:Int):CT:=(.br (decide (0≤x3)&&okS x0) (.br (A4x (B8q x0) (x0.size - x3.toNat) x3.toNat) (.done (.exit 0) C0Q ((x0,u27),())) (.done .ret C0P (((),(),false,u25),()))) .fail)
noncomputable abbrev B1h:A8P.den→RT A8P.den:=(fun d=>B8I d.1.1 d.1.2.2.2.1)
noncomputable abbrev C25 (x0:ByteArray) (x3:Int):A8P.den:=((x0,(),(),x3,u24),())
noncomputable def B9s:Code:=((D3 0 (A1f Try.f144)).getD 0 (0,.skip)).2
theorem C8O (x0:ByteArray) (x3:Int):(B2L x0 x3).val (D:=A8P.den)=.fail∨Runs B1h (C25 x0 x3) (B2L x0 x3).val:=by
 cases hc:(decide (0≤x3)&&okS x0) with
 | false=>left;simp only [B2L,CT.val,hc,cond_false]
 | true =>
  right
  simp only [B2L,CT.val,hc,cond_true]
  simp only [Bool.and_eq_true,decide_eq_true_eq] at hc
  obtain ⟨i,rfl⟩:=Int.eq_ofNat_of_zero_le hc.1
  have hs:=A67 hc.2
  simp only [Int.toNat_natCast]
  refine Runs.scan (fun j=>C25 x0 (j:Int)) (x0.size) (B8q x0) (fun i hi=>?_) (fun i hi=>?_) ⟨_,_,_,rfl,by simp⟩ ⟨_,_,_,rfl,by simp⟩ _ _ rfl
  ·
   have h0a:decide ((i:Int)<(x0.size:Int))=true:=decide_eq_true (by omega)
   have h0b:decide (0≤(i:Int)∧(i:Int)<(x0.size:Int))=true:=decide_eq_true (by omega)
   simp only [B1h,B8I,RT.val,h0a,h0b,cond_true,A7e i (by omega),Int.toNat_natCast]
   simp only [B8q]
   cases J5 (wI (bt x0 (i:Int))) 97 122<;>cases J5 (wI (bt x0 (i:Int))) 48 57<;>rfl
  ·have h1:decide ((i:Int)<(x0.size:Int))=false:=decide_eq_false (by omega)
   simp only [B1h,B8I,RT.val,h1,cond_false]
theorem C61:RdA G17 aLn 0 B9s A8P 0 [] (kepts [2] [(0,[0])]) (fun d=>(B1h d).opt 0 []):=by
 intro d
 kernel_rfl
noncomputable abbrev C1Q:St→Option Tree:=A8P.say 0 [] [] (fun d=>B2L d.1.1 d.1.2.2.2.1)
theorem C8g:aPL C1Q B9s:=SS.wp2 hlz [] B1h C61 (fun d=>rfl) _ (fun d=>C8O d.1.1 d.1.2.2.2.1)
noncomputable def C0H (a0:ByteArray):Bool:=(cond (A4x (B8q a0) (a0.size - (0:Int).toNat) (0:Int).toNat) (J5 (a0.size:Int) (1:Int) (12:Int)) false)
noncomputable abbrev C1e (r:Bool):AV×List AObj:=((.t true .bool r),[])
noncomputable abbrev C39:H5 B7o→AV×List AObj:=fun d=>C1e (C0H d.1)
noncomputable def B8k (a0:ByteArray):Bool:=okS a0
noncomputable abbrev C0z:H5 B7o→Bool:=fun d=>B8k d.1
noncomputable abbrev D0y:Nat→St→Option Tree:=fun b=>match b with | 0=>C1Q | _=>fun _=>none
theorem C9r:A7h true G17 (D0y) Try.f144 B7o C0z C39:=by
 rintro ⟨a0,_⟩ hp
 change B8k a0=true at hp
 unfold B8k at hp
 refine Eq.trans (b:=(cond (decide (0≤(0:Int))&&okS a0) (cond (A4x (B8q a0) (a0.size - (0:Int).toNat) (0:Int).toNat) (some (C1e (J5 (a0.size:Int) (1:Int) (12:Int)))) (some (C1e false))) none)) (by kernel_rfl) ?_
 exact (A7k (by first | rfl | decide | exact hp | (simp only [Bool.and_eq_true] at hp;simp only [hp];done) | (simp [*];done) | (simp [okL] at hp;simp [okL,MAXB];omega) | (simp_all;done) | (simp at *;omega)) (fun _h=>(N4 C1e (fun _h=>rfl) (fun _h=>rfl))))
theorem D0L:aPP 144 (A2T B7o C0z C39):=pcD true G17 (hl1 (i:=0) (by kernel_rfl) C8g) C9r
noncomputable def S18:Tab:=Tab.add S17 144 (lift (A2T B7o C0z C39))
noncomputable def D19:FuncId→Bool:=qadd D18 144
theorem G18:aPG S18 D19:=G17.addQ D0L (cbl Try.f144) (fun _=>rfl)

abbrev C01:List PSh:=[.agg [(.int .i64),.str,.str]]
noncomputable def B9X (a0:Int) (a1 a2:ByteArray):Bool:=let z1:=decide ((a2.size:Int)≤(20:Int));(cond (!(J5 a0 (1:Int) (3:Int))) false (cond (a0==(2:Int)) (cond (!(a2.toList==bE.toList)) false (cond (C0H a1) z1 false)) (cond (C0H a1) z1 false)))
noncomputable abbrev A9D (r:Bool):AV×List AObj:=((.t true .bool r),[])
noncomputable abbrev C6C:H5 C01→AV×List AObj:=fun d=>A9D (B9X d.1.1 d.1.2.1 d.1.2.2.1)
noncomputable def B8Z (a0:Int) (a1 a2:ByteArray):Bool:=okS a1
noncomputable abbrev C2t:H5 C01→Bool:=fun d=>B8Z d.1.1 d.1.2.1 d.1.2.2.1
theorem D0n:A7h true G18 aLn Try.f120 C01 C2t C6C:=by
 rintro ⟨⟨a0,⟨a1,⟨a2,_⟩⟩⟩,_⟩ hp
 change B8Z a0 a1 a2=true at hp
 unfold B8Z at hp
 refine Eq.trans (b:=(let z1:=A9D (decide ((a2.size:Int)≤(20:Int)));cond (!(J5 a0 (1:Int) (3:Int))) (some (A9D false)) (cond (a0==(2:Int)) (cond (!(a2.toList==(⟨#[]⟩:ByteArray).toList)) (some (A9D false)) (cond (B8k a1) (cond (C0H a1) (some z1) (some (A9D false))) none)) (cond (B8k a1) (cond (C0H a1) (some z1) (some (A9D false))) none)))) (by kernel_rfl) ?_
 exact (N4 A9D (fun _h=>rfl) (fun _h=>(N4 A9D (fun _h=>(N4 A9D (fun _h=>rfl) (fun _h=>(A7k (by first | rfl | decide | exact hp | (simp only [Bool.and_eq_true] at hp;simp only [hp];done) | (simp [*];done) | (simp [okL] at hp;simp [okL,MAXB];omega) | (simp_all;done) | (simp at *;omega)) (fun _h=>(N4 A9D (fun _h=>rfl) (fun _h=>rfl))))))) (fun _h=>(A7k (by first | rfl | decide | exact hp | (simp only [Bool.and_eq_true] at hp;simp only [hp];done) | (simp [*];done) | (simp [okL] at hp;simp [okL,MAXB];omega) | (simp_all;done) | (simp at *;omega)) (fun _h=>(N4 A9D (fun _h=>rfl) (fun _h=>rfl))))))))
theorem D1a:aPP 120 (A2T C01 C2t C6C):=pcD true G18 hlz D0n
noncomputable def S19:Tab:=Tab.add S18 120 (lift (A2T C01 C2t C6C))
noncomputable def D2a:FuncId→Bool:=qadd D19 120
theorem G19:aPG S19 D2a:=G18.addQ D1a (cbl Try.f120) (fun _=>rfl)

abbrev D1T:List Sh:=.junk::.junk::.junk::.junk::.junk::.junk::.junk::C5i
abbrev D1l:List Sh:=.junk::D1T
abbrev D1m:List Sh:=.junk::.junk::D1l
abbrev u35:=((),(),(),(),(),(),(),(),u27)
abbrev u34:=((),(),(),(),(),(),(),u27)
abbrev u37:=((),(),u35)
abbrev D1h:List AV:=.junk::.junk::.junk::.junk::.junk::.junk::.junk::.junk::.junk::.junk::.junk::.junk::.junk::.junk::.junk::.junk::.junk::.junk::.junk::.junk::.junk::.junk::.junk::.junk::.junk::.junk::.junk::.junk::.junk::.junk::.junk::.junk::.junk::.junk::[]
abbrev D3b:List AV:=.junk::.junk::.junk::.junk::.junk::.junk::.junk::.junk::.junk::.junk::.junk::.junk::.junk::.junk::.junk::.junk::.junk::.junk::.junk::.junk::.junk::.junk::.junk::.junk::.junk::.junk::.junk::.junk::.junk::.junk::.junk::.junk::.junk::[]
abbrev D1i:List AV:=.junk::.junk::D1h
noncomputable def B5l (l:Lq1) (i:Nat):Bool:=let z1:=l.getD i dOp;B9X z1.1 z1.2.1 z1.2.2&&(decide (i=0)||Op.bytesLess (l.getD (i - 1) dOp).2.1.toList z1.2.1.toList)
abbrev B7p:List PSh:=[.t tq4]
abbrev A7M:SS:=⟨(.t false tq4::.junk::.junk::tI::D1T),[]⟩
abbrev B5x:SS:=⟨(.junk::.junk::.t true .bool::D1l),[]⟩
abbrev C0R:SS:=⟨(.t false tq4::D1m),[]⟩
noncomputable def B8J (x0:Lq1) (x3:Int):RT A7M.den:=let z1:=x0.getD x3.toNat ((0:Int),(bE,bE));let z2:=wI (x3 - (1:Int));let z3:=decide (0≤x3∧x3<(x0.length:Int));(.br (decide (x3<(x0.length:Int))) (.br z3 (.br (B8Z (z1.1) ((z1.2).1) ((z1.2).2)) (.br (!(B9X (z1.1) ((z1.2).1) ((z1.2).2))) (.done .ret B5x (((),(),false,u35),())) (.br (decide (x3 > (0:Int))) (.br (decide (0≤z2∧z2<(x0.length:Int))) (.br z3 (.br (!(Op.bytesLess (((x0.getD (z2.toNat) ((0:Int),(bE,bE))).2).1).toList ((z1.2).1).toList)) (.done .ret B5x (((),(),false,u35),())) (.next ((x0,(),(),wI (x3+(1:Int)),u34),()))) .fail) .fail) (.next ((x0,(),(),wI (x3+(1:Int)),u34),())))) .fail) .fail) (.done (.exit 0) C0R ((x0,u37),())))
noncomputable def B2M (x0:Lq1) (x3:Int):CT:=(.br (decide (0≤x3)&&T5 x0) (.br (A4x (B5l x0) (x0.length - x3.toNat) x3.toNat) (.done (.exit 0) C0R ((x0,u37),())) (.done .ret B5x (((),(),false,u35),()))) .fail)
noncomputable abbrev B1i:A7M.den→RT A7M.den:=(fun d=>B8J d.1.1 d.1.2.2.2.1)
noncomputable abbrev C26 (x0:Lq1) (x3:Int):A7M.den:=((x0,(),(),x3,u34),())
noncomputable def B9t:Code:=((D3 0 (A1f Try.f86)).getD 0 (0,.skip)).2
theorem C8P (x0:Lq1) (x3:Int):(B2M x0 x3).val (D:=A7M.den)=.fail∨Runs B1i (C26 x0 x3) (B2M x0 x3).val:=by
 cases hc:(decide (0≤x3)&&T5 x0) with
 | false=>left;simp only [B2M,CT.val,hc,cond_false]
 | true =>
  right
  simp only [B2M,CT.val,hc,cond_true]
  simp only [Bool.and_eq_true,decide_eq_true_eq] at hc
  obtain ⟨i,rfl⟩:=Int.eq_ofNat_of_zero_le hc.1
  have hs:=A8e hc.2
  simp only [Int.toNat_natCast]
  refine Runs.scan (fun j=>C26 x0 (j:Int)) (x0.length) (B5l x0) (fun i hi=>?_) (fun i hi=>?_) ⟨_,_,_,rfl,by simp⟩ ⟨_,_,_,rfl,by simp⟩ _ _ rfl
  ·
   have h0a:decide ((i:Int)<(x0.length:Int))=true:=decide_eq_true (by omega)
   have h0b:decide (0≤(i:Int)∧(i:Int)<(x0.length:Int))=true:=decide_eq_true (by omega)
   simp only [B1i,B8J,RT.val,h0a,h0b,cond_true,A7e i (by omega),Int.toNat_natCast]
   have hq:B8Z (x0.getD i dOp).1 (x0.getD i dOp).2.1 (x0.getD i dOp).2.2=true:=(C8k hc.2 i hi).1
   simp only [dOp] at hq
   simp only [hq,cond_true,B5l,dOp]
   cases B9X (x0.getD i ((0:Int),((⟨#[]⟩:ByteArray),(⟨#[]⟩:ByteArray)))).1 (x0.getD i ((0:Int),((⟨#[]⟩:ByteArray),(⟨#[]⟩:ByteArray)))).2.1 (x0.getD i ((0:Int),((⟨#[]⟩:ByteArray),(⟨#[]⟩:ByteArray)))).2.2 with
   | false=>rfl
   | true =>
    cases i with
    | zero=>rfl
    | succ i =>
     have h3:decide (((i+1:Nat):Int) > 0)=true:=decide_eq_true (by omega)
     have h4:wI (((i+1:Nat):Int) - 1)=(i:Int):=by have:=A6r (n:=((i+1:Nat):Int) - 1) (by omega) (by omega);omega
     have h5:decide (0≤(i:Int)∧(i:Int)<(x0.length:Int))=true:=decide_eq_true (by omega)
     have h6:decide (i+1=0)=false:=by simp
     simp only [h3,h4,h5,h6,cond_true,Bool.true_and,Bool.false_or,Int.toNat_natCast,Nat.add_sub_cancel,Bool.not_true,cond_false]
     cases Op.bytesLess (x0.getD i ((0:Int),((⟨#[]⟩:ByteArray),(⟨#[]⟩:ByteArray)))).2.1.toList (x0.getD (i+1) ((0:Int),((⟨#[]⟩:ByteArray),(⟨#[]⟩:ByteArray)))).2.1.toList<;>rfl
  ·have h1:decide ((i:Int)<(x0.length:Int))=false:=decide_eq_false (by omega)
   simp only [B1i,B8J,RT.val,h1,cond_false]
noncomputable def C20 (x0:Lq1) (x3:Int):Option (Ex×St):=let z1:=x0.getD x3.toNat ((0:Int),(bE,bE));let z2:=(⟨((.t false tq4 x0)::.junk::.junk::(ti (wI (x3+(1:Int))))::D3b),[],0,[]⟩:St);let z3:=wI (x3 - (1:Int));let z4:=(⟨(.junk::.junk::(.t true .bool false)::D1h),[],0,[]⟩:St);let z5:=decide (0≤x3∧x3<(x0.length:Int));(cond (decide (x3<(x0.length:Int))) (cond z5 (cond (B8Z (z1.1) ((z1.2).1) ((z1.2).2)) (cond (!(B9X (z1.1) ((z1.2).1) ((z1.2).2))) (some (.ret,z4)) (cond (decide (x3 > (0:Int))) (cond (decide (0≤z3∧z3<(x0.length:Int))) (cond z5 (cond (!(Op.bytesLess (((x0.getD (z3.toNat) ((0:Int),(bE,bE))).2).1).toList ((z1.2).1).toList)) (some (.ret,z4)) (some (.normal,z2))) none) none) (some (.normal,z2)))) none) none) (some ((.exit 0),(⟨((.t false tq4 x0)::D1i),[],0,[]⟩:St))))
theorem C62:RdA G19 aLn 0 B9t A7M 0 [] (kepts [2] [(0,[0])]) (fun d=>C20 d.1.1 d.1.2.2.2.1):=by
 intro d
 kernel_rfl
theorem C66:∀ d:A7M.den,(fun d=>C20 d.1.1 d.1.2.2.2.1) d=(B1i d).opt 0 []:=by
 intro d
 kernel_rfl
noncomputable abbrev C1R:St→Option Tree:=A7M.say 0 [] [] (fun d=>B2M d.1.1 d.1.2.2.2.1)
theorem C8h:aPL C1R B9t:=SS.wp2 hlz [] B1i C62 C66 _ (fun d=>C8P d.1.1 d.1.2.2.2.1)
noncomputable def B1x (a0:Lq1):Bool:=(cond (A4x (B5l a0) (a0.length - (0:Int).toNat) (0:Int).toNat) (J5 (a0.length:Int) (1:Int) (8:Int)) false)
noncomputable abbrev C1f (r:Bool):AV×List AObj:=((.t true .bool r),[])
noncomputable abbrev C4a:H5 B7p→AV×List AObj:=fun d=>C1f (B1x d.1)
noncomputable def B5j (a0:Lq1):Bool:=T5 a0
noncomputable abbrev C0A:H5 B7p→Bool:=fun d=>B5j d.1
noncomputable abbrev D0z:Nat→St→Option Tree:=fun b=>match b with | 0=>C1R | _=>fun _=>none
theorem C9s:A7h true G19 (D0z) Try.f86 B7p C0A C4a:=by
 rintro ⟨a0,_⟩ hp
 change B5j a0=true at hp
 unfold B5j at hp
 refine Eq.trans (b:=(cond (decide (0≤(0:Int))&&T5 a0) (cond (A4x (B5l a0) (a0.length - (0:Int).toNat) (0:Int).toNat) (some (C1f (J5 (a0.length:Int) (1:Int) (8:Int)))) (some (C1f false))) none)) (by kernel_rfl) ?_
 exact (A7k (by first | rfl | decide | exact hp | (simp only [Bool.and_eq_true] at hp;simp only [hp];done) | (simp [*];done) | (simp [okL] at hp;simp [okL,MAXB];omega) | (simp_all;done) | (simp at *;omega)) (fun _h=>(N4 C1f (fun _h=>rfl) (fun _h=>rfl))))
theorem D0M:aPP 86 (A2T B7p C0A C4a):=pcD true G19 (hl1 (i:=0) (by kernel_rfl) C8h) C9s
noncomputable def S20:Tab:=Tab.add S19 86 (lift (A2T B7p C0A C4a))
noncomputable def D2b:FuncId→Bool:=qadd D2a 86
theorem G20:aPG S20 D2b:=G19.addQ D0M (cbl Try.f86) (fun _=>rfl)

abbrev D3j:List Sh:=.junk::.junk::.junk::.junk::.junk::.junk::.junk::.junk::.junk::.junk::.junk::.junk::.junk::.junk::.junk::[]
abbrev u16:=((),(),(),(),(),(),(),(),(),(),(),(),(),(),(),())
abbrev C0Z:List PSh:=[.t .str]
abbrev B0n:SS:=⟨(.t true .str::.junk::.junk::tI::tI::D3j),[]⟩
abbrev C2G:SS:=⟨(.junk::.junk::.junk::tI::D0a),[]⟩
noncomputable def C42 (x0:ByteArray) (x3 x4:Int):RT B0n.den:=(.br (decide (x4<(x0.size:Int))) (.br (decide (0≤x4∧x4<(x0.size:Int))) (.next ((x0,(),(),iand .i64 (wI ((ixor .i64 x3 (wI (bt x0 x4)))*(16777619:Int))) (4294967295:Int),wI (x4+(1:Int)),u16),())) .fail) (.done (.exit 0) C2G (((),(),(),x3,u17),())))
abbrev B4Q:=(ByteArray)×(Int)×(Int)
abbrev B4x:=Nat×(Int)
def C0c:B4x:=(99,((0:Int):Int))
noncomputable def B3u (x0:ByteArray) (x3 x4:Int):B4Q ⊕ B4x:=(cond (decide (x4<(x0.size:Int))) (cond (decide (0≤x4∧x4<(x0.size:Int))) (.inl (x0,iand .i64 (wI ((ixor .i64 x3 (wI (bt x0 x4)))*(16777619:Int))) (4294967295:Int),wI (x4+(1:Int)))) (.inr C0c)) (.inr (0,x3)))
noncomputable def B22 (x0:ByteArray) (x3 x4:Int):B4x:=itX (fun v:B4Q=>B3u v.1 v.2.1 v.2.2) C0c (x0,x3,x4)
noncomputable def C0a (a:B4x):CT:=(.br (a.1==0) (.done (.exit 0) C2G (((),(),(),a.2,u17),())) .fail)
noncomputable def C9U (x0:ByteArray) (x3 x4:Int):CT:=C0a (B22 x0 x3 x4)
noncomputable abbrev C0K:B0n.den→RT B0n.den:=(fun d=>C42 d.1.1 d.1.2.2.2.1 d.1.2.2.2.2.1)
noncomputable def C04:Code:=((D3 0 (A1f Try.f145)).getD 0 (0,.skip)).2
noncomputable abbrev C4w (v:B4Q):B0n.den:=((v.1,(),(),v.2.1,v.2.2,u16),())
theorem C9i:(∀ v:B4Q,(C42 v.1 v.2.1 v.2.2).val=A6l C4w C0a (B3u v.1 v.2.1 v.2.2))∧∀ a:B4x,CEnd B0n.den (C0a a):=⟨fun v=>(A7m (A7m rfl rfl) rfl),fun a=>(A7a aCD A7c)⟩
theorem C8m:RdA G20 aLn 0 C04 B0n 0 [] (kepts [] [(0,[3])]) (fun d=>(C0K d).opt 0 []):=by
 intro d
 kernel_rfl
noncomputable abbrev C3a:St→Option Tree:=B0n.say 0 [] [] (fun d=>C9U d.1.1 d.1.2.2.2.1 d.1.2.2.2.2.1)
theorem C9c:aPL C3a C04:=SS.wp2 hlz [] C0K C8m (fun d=>rfl) _ (fun d=>Runs.ofI2 (step:=C0K) C4w C9i rfl (d.1.1,d.1.2.2.2.1,d.1.2.2.2.2.1))
noncomputable def C9H (a0:ByteArray):Int:=((B22 a0 (2166136261:Int) (0:Int)).2)
noncomputable abbrev C9B (r:Int):AV×List AObj:=((ti r),[])
noncomputable abbrev C6A:H5 C0Z→AV×List AObj:=fun d=>C9B (C9H d.1)
noncomputable def B8Y (a0:ByteArray):Bool:=((B22 a0 (2166136261:Int) (0:Int)).1==0)
noncomputable abbrev C2r:H5 C0Z→Bool:=fun d=>B8Y d.1
noncomputable abbrev D02:Nat→St→Option Tree:=fun b=>match b with | 0=>C3a | _=>fun _=>none
theorem D0l:A7h true G20 (D02) Try.f145 C0Z C2r C6A:=by
 rintro ⟨a0,_⟩ hp
 change B8Y a0=true at hp
 unfold B8Y at hp
 refine Eq.trans (b:=(let z1:=B22 a0 (2166136261:Int) (0:Int);cond (z1.1==0) (some (C9B (z1.2))) none)) (by kernel_rfl) ?_
 exact (A7k hp fun _h=>rfl)
theorem D08:aPP 145 (A2T C0Z C2r C6A):=pcD true G20 (hl1 (i:=0) (by kernel_rfl) C9c) D0l
noncomputable def S21:Tab:=Tab.add S20 145 (lift (A2T C0Z C2r C6A))
noncomputable def D2c:FuncId→Bool:=qadd D2b 145
theorem G21:aPG S21 D2c:=G20.addQ D08 (cbl Try.f145) (fun _=>rfl)

abbrev B2F:List PSh:=[.t .str,.t (.int .i64)]
noncomputable def B3j (a0:ByteArray) (a1:Int):Int:=(cond (decide (a1<(1:Int))) (0:Int) (Int.tmod (C9H a0) a1))
noncomputable abbrev B5M (r:Int):AV×List AObj:=((ti r),[])
noncomputable abbrev C0n:H5 B2F→AV×List AObj:=fun d=>B5M (B3j d.1 d.2.1)
noncomputable def W2 (a0:ByteArray) (a1:Int):Bool:=cond (decide (a1<(1:Int))) true ((B8Y a0)&&(decide (a1 ≠ 0)))
noncomputable abbrev B6k:H5 B2F→Bool:=fun d=>W2 d.1 d.2.1
theorem C7p:A7h true G21 aLn Try.f121 B2F B6k C0n:=by
 rintro ⟨a0,⟨a1,_⟩⟩ hp
 change W2 a0 a1=true at hp
 unfold W2 at hp
 refine Eq.trans (b:=(cond (decide (a1<(1:Int))) (some (B5M (0:Int))) (cond (B8Y a0) (cond (decide (a1 ≠ 0)) (some (B5M (Int.tmod (C9H a0) a1))) none) none))) (by kernel_rfl) ?_
 exact (K8 B5M hp (fun hp=>rfl) (fun hp=>(A7i hp fun hp=>(A7k hp fun _h=>rfl))))
theorem C86:aPP 121 (A2T B2F B6k C0n):=pcD true G21 hlz C7p
noncomputable def S22:Tab:=Tab.add S21 121 (lift (A2T B2F B6k C0n))
noncomputable def D2d:FuncId→Bool:=qadd D2c 121
theorem G22:aPG S22 D2d:=G21.addQ C86 (cbl Try.f121) (fun _=>rfl)

abbrev D1O:List Sh:=.junk::.junk::.junk::.junk::.junk::.junk::.junk::.junk::.junk::.junk::.junk::.junk::[]
abbrev D1P:List Sh:=.junk::D1O
abbrev u14:=((),(),(),(),(),(),(),(),(),(),(),(),(),())
abbrev u13:=((),(),(),(),(),(),(),(),(),(),(),(),())
abbrev B7q:List PSh:=[.t M9,.t (.int .i64)]
abbrev A8Q:SS:=⟨(.t false M9::tI::.junk::.junk::.junk::tI::D1O),[]⟩
abbrev C0S:SS:=⟨(.junk::.junk::.junk::.junk::.t true .bool::D1P),[]⟩
abbrev C0T:SS:=⟨(.junk::D0b),[]⟩
noncomputable def C3c (x0:List Int) (x1 x5:Int):RT A8Q.den:=(.br (decide (x5<(x0.length:Int))) (.br (decide (0≤x5∧x5<(x0.length:Int))) (.br ((x0.getD x5.toNat (0:Int))==x1) (.done .ret C0S (((),(),(),(),true,u14),())) (.next ((x0,x1,(),(),(),wI (x5+(1:Int)),u13),()))) .fail) (.done (.exit 0) C0T ((u19),())))
abbrev B2N:=(List Int)×(Int)×(Int)
abbrev B0k:=Nat×(Bool)
def C2N:B0k:=(99,(false:Bool))
noncomputable def B34 (x0:List Int) (x1 x5:Int):B2N ⊕ B0k:=(cond (decide (x5<(x0.length:Int))) (cond (decide (0≤x5∧x5<(x0.length:Int))) (cond ((x0.getD x5.toNat (0:Int))==x1) (.inr (0,true)) (.inl (x0,x1,wI (x5+(1:Int))))) (.inr C2N)) (.inr (1,(false:Bool))))
noncomputable def A87 (x0:List Int) (x1 x5:Int):B0k:=itX (fun v:B2N=>B34 v.1 v.2.1 v.2.2) C2N (x0,x1,x5)
noncomputable def B7D (a:B0k):CT:=(.br (a.1==0) (.done .ret C0S (((),(),(),(),a.2,u14),())) (.br (a.1==1) (.done (.exit 0) C0T ((u19),())) .fail))
noncomputable def C8Q (x0:List Int) (x1 x5:Int):CT:=B7D (A87 x0 x1 x5)
noncomputable abbrev B8A:A8Q.den→RT A8Q.den:=(fun d=>C3c d.1.1 d.1.2.1 d.1.2.2.2.2.2.1)
noncomputable def B9u:Code:=((D3 0 (A1f Try.f88)).getD 0 (0,.skip)).2
noncomputable abbrev C27 (v:B2N):A8Q.den:=((v.1,v.2.1,(),(),(),v.2.2,u13),())
theorem C8n:(∀ v:B2N,(C3c v.1 v.2.1 v.2.2).val=A6l C27 B7D (B34 v.1 v.2.1 v.2.2))∧∀ a:B0k,CEnd A8Q.den (B7D a):=⟨fun v=>(A7m (A7m (A7m rfl rfl) rfl) rfl),fun a=>(A7a aCD (A7a aCD A7c))⟩
theorem C63:RdA G22 aLn 0 B9u A8Q 0 [] (kepts [4] [(0,[])]) (fun d=>(B8A d).opt 0 []):=by
 intro d
 kernel_rfl
noncomputable abbrev C1S:St→Option Tree:=A8Q.say 0 [] [] (fun d=>C8Q d.1.1 d.1.2.1 d.1.2.2.2.2.2.1)
theorem C8i:aPL C1S B9u:=SS.wp2 hlz [] B8A C63 (fun d=>rfl) _ (fun d=>Runs.ofI2 (step:=B8A) C27 C8n rfl (d.1.1,d.1.2.1,d.1.2.2.2.2.2.1))
noncomputable def A8Z (a0:List Int) (a1:Int):Bool:=let z1:=A87 a0 a1 (0:Int);(cond (z1.1==0) (z1.2) false)
noncomputable abbrev C1g (r:Bool):AV×List AObj:=((.t true .bool r),[])
noncomputable abbrev C4b:H5 B7q→AV×List AObj:=fun d=>C1g (A8Z d.1 d.2.1)
noncomputable def T8 (a0:List Int) (a1:Int):Bool:=let z1:=A87 a0 a1 (0:Int);cond (z1.1==0) true (z1.1==1)
noncomputable abbrev C0B:H5 B7q→Bool:=fun d=>T8 d.1 d.2.1
noncomputable abbrev D0A:Nat→St→Option Tree:=fun b=>match b with | 0=>C1S | _=>fun _=>none
theorem C9t:A7h true G22 (D0A) Try.f88 B7q C0B C4b:=by
 rintro ⟨a0,⟨a1,_⟩⟩ hp
 change T8 a0 a1=true at hp
 unfold T8 at hp
 refine Eq.trans (b:=(let z1:=A87 a0 a1 (0:Int);cond (z1.1==0) (some (C1g (z1.2))) (cond (z1.1==1) (some (C1g false)) none))) (by kernel_rfl) ?_
 exact (K8 C1g hp (fun hp=>rfl) (fun hp=>(A7k hp fun _h=>rfl)))
theorem D0N:aPP 88 (A2T B7q C0B C4b):=pcD true G22 (hl1 (i:=0) (by kernel_rfl) C8i) C9t
noncomputable def S23:Tab:=Tab.add S22 88 (lift (A2T B7q C0B C4b))
noncomputable def D2e:FuncId→Bool:=qadd D2d 88
theorem G23:aPG S23 D2e:=G22.addQ D0N (cbl Try.f88) (fun _=>rfl)

abbrev C6J:List Sh:=.junk::.junk::.junk::D1m
abbrev u40:=((),(),(),u37)
abbrev C4f:List AV:=.junk::.junk::.junk::D1i
abbrev B8O:SS:=⟨[.all 0 1,tI],[.rows 3 true (.int .i64)]⟩
abbrev A7N:SS:=⟨(.junk::tI::.junk::.junk::.junk::.all 1 1::tI::C6J),[.rows 3 true (.int .i64),.rows 3 true (.int .i64)]⟩
abbrev B5y:SS:=⟨(.junk::tI::.junk::.junk::.junk::.all 1 1::tI::C6J),[.rows 3 true (.int .i64),.rows 3 true (.int .i64)]⟩
noncomputable def C3d (x1 x6:Int) (h0 h1:List Int):RT A7N.den:=let z1:=wI (x6 - (1:Int));let z2:=decide (0≤z1∧z1<(h1.length:Int));let z3:=h1.getD (z1.toNat) (0:Int);(.br (decide (x6 > (0:Int))) (.br z2 (.br (decide (z3 > x1)) (.br z2 (.br (decide (0≤x6∧x6<(h1.length:Int))) (.next (((),x1,(),(),(),(),wI (x6 - (1:Int)),u40),(h0,h1.set x6.toNat z3,()))) .fail) .fail) (.done (.exit 0) B5y (((),x1,(),(),(),(),x6,u40),(h0,h1,())))) .fail) (.done (.exit 0) B5y (((),x1,(),(),(),(),x6,u40),(h0,h1,()))))
abbrev B5z:=(Int)×(Int)×(List Int)×(List Int)
abbrev B2n:=Nat×(Int)×(Int)×(List Int)×(List Int)
def B3O:B2n:=(99,((0:Int):Int),((0:Int):Int),([]:List Int),([]:List Int))
noncomputable def C3b (x1 x6:Int) (h0 h1:List Int):B5z ⊕ B2n:=let z1:=wI (x6 - (1:Int));let z2:=decide (0≤z1∧z1<(h1.length:Int));let z3:=h1.getD (z1.toNat) (0:Int);(cond (decide (x6 > (0:Int))) (cond z2 (cond (decide (z3 > x1)) (cond z2 (cond (decide (0≤x6∧x6<(h1.length:Int))) (.inl (x1,wI (x6 - (1:Int)),h0,h1.set x6.toNat z3)) (.inr B3O)) (.inr B3O)) (.inr (0,x1,x6,h0,h1))) (.inr B3O)) (.inr (0,x1,x6,h0,h1)))
noncomputable def C2T (x1 x6:Int) (h0 h1:List Int):B2n:=itX (fun v:B5z=>C3b v.1 v.2.1 v.2.2.1 v.2.2.2) B3O (x1,x6,h0,h1)
noncomputable def B7E (a:B2n):CT:=(.br (a.1==0) (.done (.exit 0) B5y (((),a.2.1,(),(),(),(),a.2.2.1,u40),(a.2.2.2.1,a.2.2.2.2,()))) .fail)
noncomputable def C8R (x1 x6:Int) (h0 h1:List Int):CT:=B7E (C2T x1 x6 h0 h1)
noncomputable abbrev B8B:A7N.den→RT A7N.den:=(fun d=>C3d d.1.2.1 d.1.2.2.2.2.2.2.1 d.2.1 d.2.2.1)
noncomputable def B9v:Code:=((D3 0 (A1f Try.f107)).getD 0 (0,.skip)).2
noncomputable abbrev C28 (v:B5z):A7N.den:=(((),v.1,(),(),(),(),v.2.1,u40),(v.2.2.1,v.2.2.2,()))
theorem C8o:(∀ v:B5z,(C3d v.1 v.2.1 v.2.2.1 v.2.2.2).val=A6l C28 B7E (C3b v.1 v.2.1 v.2.2.1 v.2.2.2))∧∀ a:B2n,CEnd A7N.den (B7E a):=⟨fun v=>(A7m (A7m (A7m (A7m (A7m rfl rfl) rfl) rfl) rfl) rfl),fun a=>(A7a aCD A7c)⟩
noncomputable def C21 (x1 x6:Int) (h0 h1:List Int):Option (Ex×St):=let z1:=wI (x6 - (1:Int));let z2:=(⟨(.junk::(ti x1)::.junk::.junk::.junk::(.all 1 1)::(ti x6)::C4f),[(.rows 3 true (.int .i64) h0),(.rows 3 true (.int .i64) h1)],1,[]⟩:St);let z3:=decide (0≤z1∧z1<(h1.length:Int));let z4:=h1.getD (z1.toNat) (0:Int);(cond (decide (x6 > (0:Int))) (cond z3 (cond (decide (z4 > x1)) (cond z3 (cond (decide (0≤x6∧x6<(h1.length:Int))) (some (.normal,(⟨(.junk::(ti x1)::.junk::.junk::.junk::(.all 1 1)::(ti z1)::C4f),[(.rows 3 true (.int .i64) h0),(.rows 3 true (.int .i64) (h1.set x6.toNat z4))],1,[]⟩:St))) none) none) (some ((.exit 0),z2))) none) (some ((.exit 0),z2)))
theorem C64:RdA G23 aLn 0 B9v A7N 1 [] (kepts [] [(0,[1,5,6])]) (fun d=>C21 d.1.2.1 d.1.2.2.2.2.2.2.1 d.2.1 d.2.2.1):=by
 intro d
 kernel_rfl
theorem C67:∀ d:A7N.den,(fun d=>C21 d.1.2.1 d.1.2.2.2.2.2.2.1 d.2.1 d.2.2.1) d=(B8B d).opt 1 []:=by
 intro d
 kernel_rfl
noncomputable abbrev C1T:St→Option Tree:=A7N.say 1 [] [] (fun d=>C8R d.1.2.1 d.1.2.2.2.2.2.2.1 d.2.1 d.2.2.1)
theorem C8j:aPL C1T B9v:=SS.wp2 hlz [] B8B C64 C67 _ (fun d=>Runs.ofI2 (step:=B8B) C28 C8o rfl (d.1.2.1,d.1.2.2.2.2.2.2.1,d.2.1,d.2.2.1))
noncomputable def C2j (x1:Int) (h0:List Int):=let z1:=(([]:List Int)++h0)++[x1];C2T x1 (wI (((z1.length:Nat):Int) - (1:Int))) h0 z1
noncomputable def D1Z (x1:Int) (h0:List Int):List Int:=let z1:=C2j x1 h0;(cond (A8Z h0 x1) h0 ((z1.2.2.2.2).set ((z1.2.2.1).toNat) (z1.2.1)))
noncomputable abbrev C1h (r:List Int):AV×List AObj×List Nat:=((.t true M9 r),[.dead],[])
noncomputable abbrev C78:B8O.den→AV×List AObj×List Nat:=fun d=>C1h (D1Z d.1.2.1 d.2.1)
noncomputable def C4x (x1:Int) (h0:List Int):Bool:=let z1:=C2j x1 h0;(T8 h0 x1)&&(cond (A8Z h0 x1) true ((decide ((([]:List Int).length+h0.length)*8≤MAXB))&&((decide (((([]:List Int)++h0).length+[x1].length)*8≤MAXB))&&((z1.1==0)&&(decide (0≤(z1.2.2.1)∧(z1.2.2.1)<(((z1.2.2.2.2).length:Nat):Int)))))))
noncomputable abbrev C4u:B8O.den→Bool:=fun d=>C4x d.1.2.1 d.2.1
noncomputable abbrev D0B:Nat→St→Option Tree:=fun b=>match b with | 0=>C1T | _=>fun _=>none
theorem C9u:A62 [.all 0 1] G23 (D0B) Try.f107 B8O C4u C78:=by
 rintro ⟨⟨_,x1,_⟩,⟨h0,_⟩⟩ hp
 change C4x x1 h0=true at hp
 unfold C4x at hp
 refine Eq.trans (b:=(let z1:=C2j x1 h0;cond (T8 h0 x1) (cond (A8Z h0 x1) (some (C1h h0)) (cond (decide ((([]:List Int).length+h0.length)*8≤MAXB)) (cond (decide (((([]:List Int)++h0).length+[x1].length)*8≤MAXB)) (cond (z1.1==0) (cond (decide (0≤(z1.2.2.1)∧(z1.2.2.1)<(((z1.2.2.2.2).length:Nat):Int))) (some (C1h ((z1.2.2.2.2).set ((z1.2.2.1).toNat) (z1.2.1)))) none) none) none) none)) none)) (by kernel_rfl) ?_
 exact (A7i hp fun hp=>(K8 C1h hp (fun hp=>rfl) (fun hp=>(A7i hp fun hp=>(A7i hp fun hp=>(A7i hp fun hp=>(A7k hp fun _h=>rfl)))))))
noncomputable abbrev C4p:=win E5 (msum B8O C4u C78)
theorem C7X:aPM 107 C4p:=(D3u [.all 0 1]  G23 (hl1 (i:=0) (by kernel_rfl) C8j) C9u).win E5
noncomputable def S24:Tab:=Tab.add S23 107 (C4p)
noncomputable def D2f:FuncId→Bool:=D2e
theorem G24:aPG S24 D2f:=G23.addM C7X (A6S _) (cbl Try.f107) (by kernel_rfl)

abbrev B1V:SS:=⟨[.t true M9,tI],[]⟩
abbrev R5:SS:=⟨(.junk::tI::.junk::.junk::.junk::.all 0 1::tI::C6J),[.rows 3 true (.int .i64)]⟩
abbrev B1m:SS:=⟨(.junk::tI::.junk::.junk::.junk::.all 0 1::tI::C6J),[.rows 3 true (.int .i64)]⟩
noncomputable def B8N (x1 x6:Int) (h0:List Int):RT R5.den:=let z1:=wI (x6 - (1:Int));let z2:=decide (0≤z1∧z1<(h0.length:Int));let z3:=h0.getD (z1.toNat) (0:Int);(.br (decide (x6 > (0:Int))) (.br z2 (.br (decide (z3 > x1)) (.br z2 (.br (decide (0≤x6∧x6<(h0.length:Int))) (.next (((),x1,(),(),(),(),wI (x6 - (1:Int)),u40),(h0.set x6.toNat z3,()))) .fail) .fail) (.done (.exit 0) B1m (((),x1,(),(),(),(),x6,u40),(h0,())))) .fail) (.done (.exit 0) B1m (((),x1,(),(),(),(),x6,u40),(h0,()))))
abbrev A8w:=(Int)×(Int)×(List Int)
abbrev A0j:=Nat×(Int)×(Int)×(List Int)
def A9J:A0j:=(99,((0:Int):Int),((0:Int):Int),([]:List Int))
noncomputable def A99 (x1 x6:Int) (h0:List Int):A8w ⊕ A0j:=let z1:=wI (x6 - (1:Int));let z2:=decide (0≤z1∧z1<(h0.length:Int));let z3:=h0.getD (z1.toNat) (0:Int);(cond (decide (x6 > (0:Int))) (cond z2 (cond (decide (z3 > x1)) (cond z2 (cond (decide (0≤x6∧x6<(h0.length:Int))) (.inl (x1,wI (x6 - (1:Int)),h0.set x6.toNat z3)) (.inr A9J)) (.inr A9J)) (.inr (0,x1,x6,h0))) (.inr A9J)) (.inr (0,x1,x6,h0)))
noncomputable def B24 (x1 x6:Int) (h0:List Int):A0j:=itX (fun v:A8w=>A99 v.1 v.2.1 v.2.2) A9J (x1,x6,h0)
noncomputable def B2W (a:A0j):CT:=(.br (a.1==0) (.done (.exit 0) B1m (((),a.2.1,(),(),(),(),a.2.2.1,u40),(a.2.2.2,()))) .fail)
noncomputable def C5e (x1 x6:Int) (h0:List Int):CT:=B2W (B24 x1 x6 h0)
noncomputable abbrev B3s:R5.den→RT R5.den:=(fun d=>B8N d.1.2.1 d.1.2.2.2.2.2.2.1 d.2.1)
noncomputable def B4Z:Code:=((D3 0 (A1f Try.f107)).getD 0 (0,.skip)).2
noncomputable abbrev B8i (v:A8w):R5.den:=(((),v.1,(),(),(),(),v.2.1,u40),(v.2.2,()))
theorem C4Q:(∀ v:A8w,(B8N v.1 v.2.1 v.2.2).val=A6l B8i B2W (A99 v.1 v.2.1 v.2.2))∧∀ a:A0j,CEnd R5.den (B2W a):=⟨fun v=>(A7m (A7m (A7m (A7m (A7m rfl rfl) rfl) rfl) rfl) rfl),fun a=>(A7a aCD A7c)⟩
noncomputable def B7Y (x1 x6:Int) (h0:List Int):Option (Ex×St):=let z1:=wI (x6 - (1:Int));let z2:=(⟨(.junk::(ti x1)::.junk::.junk::.junk::(.all 0 1)::(ti x6)::C4f),[(.rows 3 true (.int .i64) h0)],0,[]⟩:St);let z3:=decide (0≤z1∧z1<(h0.length:Int));let z4:=h0.getD (z1.toNat) (0:Int);(cond (decide (x6 > (0:Int))) (cond z3 (cond (decide (z4 > x1)) (cond z3 (cond (decide (0≤x6∧x6<(h0.length:Int))) (some (.normal,(⟨(.junk::(ti x1)::.junk::.junk::.junk::(.all 0 1)::(ti z1)::C4f),[(.rows 3 true (.int .i64) (h0.set x6.toNat z4))],0,[]⟩:St))) none) none) (some ((.exit 0),z2))) none) (some ((.exit 0),z2)))
theorem C3z:RdA G24 aLn 0 B4Z R5 0 [] (kepts [] [(0,[1,5,6])]) (fun d=>B7Y d.1.2.1 d.1.2.2.2.2.2.2.1 d.2.1):=by
 intro d
 kernel_rfl
theorem C3D:∀ d:R5.den,(fun d=>B7Y d.1.2.1 d.1.2.2.2.2.2.2.1 d.2.1) d=(B3s d).opt 0 []:=by
 intro d
 kernel_rfl
noncomputable abbrev B60:St→Option Tree:=R5.say 0 [] [] (fun d=>C5e d.1.2.1 d.1.2.2.2.2.2.2.1 d.2.1)
theorem C4n:aPL B60 B4Z:=SS.wp2 hlz [] B3s C3z C3D _ (fun d=>Runs.ofI2 (step:=B3s) B8i C4Q rfl (d.1.2.1,d.1.2.2.2.2.2.2.1,d.2.1))
noncomputable def A9W (x0:List Int) (x1:Int):=let z1:=(([]:List Int)++x0)++[x1];B24 x1 (wI (((z1.length:Nat):Int) - (1:Int))) z1
noncomputable def A9e (x0:List Int) (x1:Int):List Int:=let z1:=A9W x0 x1;(cond (A8Z x0 x1) x0 ((z1.2.2.2).set ((z1.2.2.1).toNat) (z1.2.1)))
noncomputable abbrev B3L (r:List Int):AV×List AObj×List Nat:=((.t true M9 r),[],[])
noncomputable abbrev C2Q:B1V.den→AV×List AObj×List Nat:=fun d=>B3L (A9e d.1.1 d.1.2.1)
noncomputable def Y2 (x0:List Int) (x1:Int):Bool:=let z1:=A9W x0 x1;(T8 x0 x1)&&(cond (A8Z x0 x1) true ((decide ((([]:List Int).length+x0.length)*8≤MAXB))&&((decide (((([]:List Int)++x0).length+[x1].length)*8≤MAXB))&&((z1.1==0)&&(decide (0≤(z1.2.2.1)∧(z1.2.2.1)<(((z1.2.2.2).length:Nat):Int)))))))
noncomputable abbrev B9I:B1V.den→Bool:=fun d=>Y2 d.1.1 d.1.2.1
noncomputable abbrev C7C:Nat→St→Option Tree:=fun b=>match b with | 0=>B60 | _=>fun _=>none
theorem C5P:A62 [] G24 (C7C) Try.f107 B1V B9I C2Q:=by
 rintro ⟨⟨x0,x1,_⟩,_⟩ hp
 change Y2 x0 x1=true at hp
 unfold Y2 at hp
 refine Eq.trans (b:=(let z1:=A9W x0 x1;cond (T8 x0 x1) (cond (A8Z x0 x1) (some (B3L x0)) (cond (decide ((([]:List Int).length+x0.length)*8≤MAXB)) (cond (decide (((([]:List Int)++x0).length+[x1].length)*8≤MAXB)) (cond (z1.1==0) (cond (decide (0≤(z1.2.2.1)∧(z1.2.2.1)<(((z1.2.2.2).length:Nat):Int))) (some (B3L ((z1.2.2.2).set ((z1.2.2.1).toNat) (z1.2.1)))) none) none) none) none)) none)) (by kernel_rfl) ?_
 exact (A7i hp fun hp=>(K8 B3L hp (fun hp=>rfl) (fun hp=>(A7i hp fun hp=>(A7i hp fun hp=>(A7i hp fun hp=>(A7k hp fun _h=>rfl)))))))
noncomputable abbrev C2Y:=win E5 (msum B1V B9I C2Q)
theorem C7Y:aPM 107 C2Y:=(D3u []  G24 (hl1 (i:=0) (by kernel_rfl) C4n) C5P).win E5
noncomputable def S25:Tab:=Tab.add S24 107 (A15 (C4p) (C2Y))
noncomputable def D2g:FuncId→Bool:=D2f
theorem G25:aPG S25 D2g:=G24.addM (MContract.orElse C7X C7Y) (A6D (A6S _) (A6S _)) (cbl Try.f107) (by kernel_rfl)

abbrev B0X:List PSh:=[.t tq4,.t (.int .i64)]
abbrev R4:SS:=⟨(.t false tq4::tI::.junk::.junk::.junk::.t true M9::tI::D0b),[]⟩
abbrev B6A:SS:=⟨(.junk::.junk::.junk::.junk::.junk::.t true M9::C6I),[]⟩
noncomputable def B52 (x0:Lq1) (x1 x6:Int):=B3j (((x0.getD x6.toNat ((0:Int),(bE,bE))).2).1) x1
noncomputable def B8K (x0:Lq1) (x1:Int) (x5:List Int) (x6:Int):RT R4.den:=let z1:=B52 x0 x1 x6;(.br (decide (x6<(x0.length:Int))) (.br (decide (0≤x6∧x6<(x0.length:Int))) (.br (W2 (((x0.getD x6.toNat ((0:Int),(bE,bE))).2).1) x1) (.br (Y2 x5 z1) (.next ((x0,x1,(),(),(),(A9e x5 z1),wI (x6+(1:Int)),u18),())) .fail) .fail) .fail) (.done (.exit 0) B6A (((),(),(),(),(),x5,u19),())))
abbrev A8v:=(Lq1)×(Int)×(List Int)×(Int)
abbrev A0i:=Nat×(List Int)
def A9H:A0i:=(99,([]:List Int))
noncomputable def A98 (x0:Lq1) (x1:Int) (x5:List Int) (x6:Int):A8v ⊕ A0i:=let z1:=B52 x0 x1 x6;(cond (decide (x6<(x0.length:Int))) (cond (decide (0≤x6∧x6<(x0.length:Int))) (cond (W2 (((x0.getD x6.toNat ((0:Int),(bE,bE))).2).1) x1) (cond (Y2 x5 z1) (.inl (x0,x1,(A9e x5 z1),wI (x6+(1:Int)))) (.inr A9H)) (.inr A9H)) (.inr A9H)) (.inr (0,x5)))
noncomputable def A7V (x0:Lq1) (x1:Int) (x5:List Int) (x6:Int):A0i:=itX (fun v:A8v=>A98 v.1 v.2.1 v.2.2.1 v.2.2.2) A9H (x0,x1,x5,x6)
noncomputable def B2T (a:A0i):CT:=(.br (a.1==0) (.done (.exit 0) B6A (((),(),(),(),(),a.2,u19),())) .fail)
noncomputable def C5b (x0:Lq1) (x1:Int) (x5:List Int) (x6:Int):CT:=B2T (A7V x0 x1 x5 x6)
noncomputable abbrev B7t {α:Sort _} (f:Lq1→Int→(List Int)→Int→α) (d:R4.den):α:=f d.1.1 d.1.2.1 d.1.2.2.2.2.2.1 d.1.2.2.2.2.2.2.1
noncomputable abbrev B3p:R4.den→RT R4.den:=(B7t B8K)
noncomputable def B4W:Code:=((D3 0 (A1f Try.f87)).getD 0 (0,.skip)).2
noncomputable abbrev B8f (v:A8v):R4.den:=((v.1,v.2.1,(),(),(),v.2.2.1,v.2.2.2,u18),())
theorem C4N:(∀ v:A8v,(B8K v.1 v.2.1 v.2.2.1 v.2.2.2).val=A6l B8f B2T (A98 v.1 v.2.1 v.2.2.1 v.2.2.2))∧∀ a:A0i,CEnd R4.den (B2T a):=⟨fun v=>(A7m (A7m (A7m (A7m rfl rfl) rfl) rfl) rfl),fun a=>(A7a aCD A7c)⟩
theorem C3w:RdA G25 aLn 0 B4W R4 0 [] (kepts [] [(0,[5])]) (fun d=>(B3p d).opt 0 []):=by
 intro d
 kernel_rfl
noncomputable abbrev B6X:St→Option Tree:=R4.say 0 [] [(5,1000000,.bool)] (B7t C5b)
theorem C4k:aPL B6X B4W:=SS.wp2 hlz [(5,1000000,.bool)] B3p C3w (fun d=>rfl) _ (fun d=>Runs.ofI2 (step:=B3p) B8f C4N rfl (d.1.1,d.1.2.1,d.1.2.2.2.2.2.1,d.1.2.2.2.2.2.2.1))
noncomputable def H8 (a0:Lq1) (a1:Int):List Int:=((A7V a0 a1 ([]:List Int) (0:Int)).2)
noncomputable abbrev C2L (r:List Int):AV×List AObj:=((.t true M9 r),[])
noncomputable abbrev B7N:H5 B0X→AV×List AObj:=fun d=>C2L (H8 d.1 d.2.1)
noncomputable def N2 (a0:Lq1) (a1:Int):Bool:=((A7V a0 a1 ([]:List Int) (0:Int)).1==0)
noncomputable abbrev B4l:H5 B0X→Bool:=fun d=>N2 d.1 d.2.1
noncomputable abbrev C7z:Nat→St→Option Tree:=fun b=>match b with | 0=>B6X | _=>fun _=>none
theorem C5M:A7h true G25 (C7z) Try.f87 B0X B4l B7N:=by
 rintro ⟨a0,⟨a1,_⟩⟩ hp
 change N2 a0 a1=true at hp
 unfold N2 at hp
 refine Eq.trans (b:=(let z1:=A7V a0 a1 ([]:List Int) (0:Int);cond (z1.1==0) (some (C2L (z1.2))) none)) (by kernel_rfl) ?_
 exact (A7k hp fun _h=>rfl)
theorem C7U:aPP 87 (A2T B0X B4l B7N):=pcD true G25 (hl1 (i:=0) (by kernel_rfl) C4k) C5M
noncomputable def S26:Tab:=Tab.add S25 87 (lift (A2T B0X B4l B7N))
noncomputable def D2h:FuncId→Bool:=qadd D2g 87
theorem G26:aPG S26 D2h:=G25.addQ C7U (cbl Try.f87) (fun _=>rfl)

abbrev D0Q:List Sh:=.junk::.junk::.junk::.junk::.junk::.junk::.junk::.junk::.junk::.junk::.junk::.junk::.junk::.junk::.junk::.junk::.junk::.junk::.junk::.junk::.junk::.junk::.junk::.junk::.junk::.junk::.junk::.junk::.junk::.junk::.junk::.junk::.junk::.junk::.junk::.junk::.junk::.junk::.junk::.junk::.junk::.junk::.junk::.junk::.junk::.junk::.junk::.junk::.junk::.junk::.junk::.junk::.junk::.junk::.junk::.junk::.junk::.junk::.junk::.junk::.junk::.junk::.junk::.junk::.junk::.junk::.junk::.junk::.junk::.junk::.junk::.junk::.junk::.junk::.junk::.junk::.junk::.junk::.junk::.junk::.junk::C6J
abbrev D3i:List Sh:=.junk::.junk::.junk::D0Q
abbrev D3h:List Sh:=.junk::.junk::D0Q
abbrev D1x:=((),(),(),(),(),(),(),(),(),(),(),(),(),(),(),(),(),(),(),(),(),(),(),(),(),(),(),(),(),(),(),(),(),(),(),(),(),(),(),(),(),(),(),(),(),(),(),(),(),(),(),(),(),(),(),(),(),(),(),(),(),(),(),(),(),(),(),(),(),(),(),(),(),(),(),(),(),(),(),(),(),(),(),(),u40)
abbrev D10:=((),(),(),(),(),(),(),(),(),(),(),(),(),(),(),(),(),(),(),(),(),(),(),(),(),(),(),(),(),(),(),(),(),(),(),(),(),(),(),(),(),(),(),(),(),(),(),(),(),(),(),(),(),(),(),(),(),(),(),(),(),(),(),(),(),(),(),(),(),(),(),(),(),(),(),(),(),(),(),(),(),u40)
abbrev D3B:=((),(),(),(),(),D1x)
abbrev D29:List AV:=.junk::.junk::.junk::.junk::.junk::.junk::.junk::.junk::.junk::.junk::.junk::.junk::.junk::.junk::.junk::.junk::.junk::.junk::.junk::.junk::.junk::.junk::.junk::.junk::.junk::.junk::.junk::.junk::.junk::.junk::.junk::.junk::.junk::.junk::.junk::.junk::.junk::.junk::.junk::.junk::.junk::.junk::.junk::.junk::.junk::.junk::.junk::.junk::.junk::.junk::.junk::.junk::.junk::.junk::.junk::.junk::.junk::.junk::.junk::.junk::.junk::.junk::.junk::.junk::.junk::.junk::.junk::.junk::.junk::.junk::.junk::.junk::.junk::.junk::.junk::.junk::.junk::.junk::.junk::.junk::.junk::.junk::.junk::.junk::C4f
abbrev D1z:List AV:=.junk::.junk::.junk::.junk::.junk::.junk::.junk::.junk::.junk::.junk::.junk::.junk::.junk::.junk::.junk::.junk::.junk::.junk::.junk::.junk::.junk::.junk::.junk::.junk::.junk::.junk::.junk::.junk::.junk::.junk::.junk::.junk::.junk::.junk::.junk::.junk::.junk::.junk::.junk::.junk::.junk::.junk::.junk::.junk::.junk::.junk::.junk::.junk::.junk::.junk::.junk::.junk::.junk::.junk::.junk::.junk::.junk::.junk::.junk::.junk::.junk::.junk::.junk::.junk::.junk::.junk::.junk::.junk::.junk::.junk::.junk::.junk::.junk::.junk::.junk::.junk::.junk::.junk::.junk::.junk::.junk::C4f
abbrev D28:List AV:=.junk::.junk::D1z
abbrev B4O:List PSh:=[.agg [(.int .i64),(.int .i64),(.int .i64),tq2,tq5,(.int .i64)],.t (.int .i64)]
abbrev V1:SS:=⟨(.junk::.junk::.ptr 0 0 1 0::.junk::.junk::.ptr 1 0 1 0::.t true M9::tI::D0Q),[.box [tI,tI,tI,.t false tq2,.t false tq5,tI],.box [tI,.t false tq4,tI,.t false M9]]⟩
abbrev B38:SS:=⟨(.junk::.junk::.junk::.junk::.t true .bool::D3i),[]⟩
abbrev B9n:SS:=⟨(.junk::.junk::.ptr 0 0 1 0::.junk::.junk::.ptr 1 0 1 0::D3h),[.box [tI,tI,tI,.t false tq2,.t false tq5,tI],.box [tI,.t false tq4,tI,.t false M9]]⟩
noncomputable def C1Z (x6:List Int) (x7 p0 p1 p2:Int) (p3:LT1) (p4:LIbe) (p5 q0:Int) (q1:Lq1) (q2:Int) (q3:List Int):RT V1.den:=let z1:=wI (x7 - (1:Int));let z2:=q3.getD x7.toNat (0:Int);let z3:=decide (0≤x7∧x7<(q3.length:Int));(.br (decide (x7<(q3.length:Int))) (.br z3 (.br (T8 x6 z2) (.br (!(A8Z x6 z2)) (.done .ret B38 (((),(),(),(),false,D1x),())) (.br (decide (x7 > (0:Int))) (.br (decide (0≤z1∧z1<(q3.length:Int))) (.br z3 (.br (decide ((q3.getD (z1.toNat) (0:Int)) ≥ z2)) (.done .ret B38 (((),(),(),(),false,D1x),())) (.next (((),(),(),(),(),(),x6,wI (x7+(1:Int)),D10),((p0,p1,p2,p3,p4,p5,()),(q0,q1,q2,q3,()),())))) .fail) .fail) (.next (((),(),(),(),(),(),x6,wI (x7+(1:Int)),D10),((p0,p1,p2,p3,p4,p5,()),(q0,q1,q2,q3,()),()))))) .fail) .fail) (.done (.exit 0) B9n ((D3B),((p0,p1,p2,p3,p4,p5,()),(q0,q1,q2,q3,()),()))))
abbrev B3z:=(List Int)×(Int)
abbrev B0Q:=Nat×(Bool)
def A9I:B0Q:=(99,(false:Bool))
noncomputable def B2g (x6:List Int) (x7 p0 p1 p2:Int) (p3:LT1) (p4:LIbe) (p5 q0:Int) (q1:Lq1) (q2:Int) (q3:List Int):B3z ⊕ B0Q:=let z1:=wI (x7 - (1:Int));let z2:=q3.getD x7.toNat (0:Int);let z3:=decide (0≤x7∧x7<(q3.length:Int));(cond (decide (x7<(q3.length:Int))) (cond z3 (cond (T8 x6 z2) (cond (!(A8Z x6 z2)) (.inr (0,false)) (cond (decide (x7 > (0:Int))) (cond (decide (0≤z1∧z1<(q3.length:Int))) (cond z3 (cond (decide ((q3.getD (z1.toNat) (0:Int)) ≥ z2)) (.inr (0,false)) (.inl (x6,wI (x7+(1:Int))))) (.inr A9I)) (.inr A9I)) (.inl (x6,wI (x7+(1:Int)))))) (.inr A9I)) (.inr A9I)) (.inr (1,(false:Bool))))
noncomputable def B5Z (x6:List Int) (x7 p0 p1 p2:Int) (p3:LT1) (p4:LIbe) (p5 q0:Int) (q1:Lq1) (q2:Int) (q3:List Int):B0Q:=itX (fun v:B3z=>B2g v.1 v.2 p0 p1 p2 p3 p4 p5 q0 q1 q2 q3) A9I (x6,x7)
noncomputable def B5H (p0 p1 p2:Int) (p3:LT1) (p4:LIbe) (p5 q0:Int) (q1:Lq1) (q2:Int) (q3:List Int) (a:B0Q):CT:=(.br (a.1==0) (.done .ret B38 (((),(),(),(),a.2,D1x),())) (.br (a.1==1) (.done (.exit 0) B9n ((D3B),((p0,p1,p2,p3,p4,p5,()),(q0,q1,q2,q3,()),()))) .fail))
noncomputable def C7L (x6:List Int) (x7 p0 p1 p2:Int) (p3:LT1) (p4:LIbe) (p5 q0:Int) (q1:Lq1) (q2:Int) (q3:List Int):CT:=(B5H p0 p1 p2 p3 p4 p5 q0 q1 q2 q3) (B5Z x6 x7 p0 p1 p2 p3 p4 p5 q0 q1 q2 q3)
noncomputable abbrev B12 {α:Sort _} (f:(List Int)→Int→Int→Int→Int→LT1→LIbe→Int→Int→Lq1→Int→(List Int)→α) (d:V1.den):α:=f d.1.2.2.2.2.2.2.1 d.1.2.2.2.2.2.2.2.1 d.2.1.1 d.2.1.2.1 d.2.1.2.2.1 d.2.1.2.2.2.1 d.2.1.2.2.2.2.1 d.2.1.2.2.2.2.2.1 d.2.2.1.1 d.2.2.1.2.1 d.2.2.1.2.2.1 d.2.2.1.2.2.2.1
noncomputable abbrev B6t:V1.den→RT V1.den:=(B12 C1Z)
noncomputable def B7C:Code:=((D3 0 (A1f Try.f44)).getD 0 (0,.skip)).2
noncomputable abbrev C1E (p0 p1 p2:Int) (p3:LT1) (p4:LIbe) (p5 q0:Int) (q1:Lq1) (q2:Int) (q3:List Int) (v:B3z):V1.den:=(((),(),(),(),(),(),v.1,v.2,D10),((p0,p1,p2,p3,p4,p5,()),(q0,q1,q2,q3,()),()))
theorem C7d (p0 p1 p2:Int) (p3:LT1) (p4:LIbe) (p5 q0:Int) (q1:Lq1) (q2:Int) (q3:List Int):(∀ v:B3z,(C1Z v.1 v.2 p0 p1 p2 p3 p4 p5 q0 q1 q2 q3).val=A6l (C1E p0 p1 p2 p3 p4 p5 q0 q1 q2 q3) (B5H p0 p1 p2 p3 p4 p5 q0 q1 q2 q3) (B2g v.1 v.2 p0 p1 p2 p3 p4 p5 q0 q1 q2 q3))∧∀ a:B0Q,CEnd V1.den ((B5H p0 p1 p2 p3 p4 p5 q0 q1 q2 q3) a):=⟨fun v=>by repeat' first | apply A7m | rfl,fun a=>(A7a aCD (A7a aCD A7c))⟩
noncomputable def C1u (x6:List Int) (x7 p0 p1 p2:Int) (p3:LT1) (p4:LIbe) (p5 q0:Int) (q1:Lq1) (q2:Int) (q3:List Int):Option (Ex×St):=let z1:=(⟨(.junk::.junk::(.ptr 0 0 1 0)::.junk::.junk::(.ptr 1 0 1 0)::(.t true M9 x6)::(ti (wI (x7+(1:Int))))::D1z),[(.box [(ti p0),(ti p1),(ti p2),(.t false tq2 p3),(.t false tq5 p4),(ti p5)]),(.box [(ti q0),(.t false tq4 q1),(ti q2),(.t false M9 q3)])],0,[]⟩:St);let z2:=(⟨(.junk::.junk::.junk::.junk::(.t true .bool false)::D29),[],0,[]⟩:St);let z3:=wI (x7 - (1:Int));let z4:=q3.getD x7.toNat (0:Int);let z5:=decide (0≤x7∧x7<(q3.length:Int));(cond (decide (x7<(q3.length:Int))) (cond z5 (cond (T8 x6 z4) (cond (!(A8Z x6 z4)) (some (.ret,z2)) (cond (decide (x7 > (0:Int))) (cond (decide (0≤z3∧z3<(q3.length:Int))) (cond z5 (cond (decide ((q3.getD (z3.toNat) (0:Int)) ≥ z4)) (some (.ret,z2)) (some (.normal,z1))) none) none) (some (.normal,z1)))) none) none) (some ((.exit 0),(⟨(.junk::.junk::(.ptr 0 0 1 0)::.junk::.junk::(.ptr 1 0 1 0)::D28),[(.box [(ti p0),(ti p1),(ti p2),(.t false tq2 p3),(.t false tq5 p4),(ti p5)]),(.box [(ti q0),(.t false tq4 q1),(ti q2),(.t false M9 q3)])],0,[]⟩:St))))
theorem C5y:RdA G26 aLn 0 B7C V1 0 [] (kepts [4] [(0,[2,5])]) (B12 C1u):=by
 intro d
 kernel_rfl
theorem C5A:∀ d:V1.den,(B12 C1u) d=(B6t d).opt 0 []:=by
 intro d
 kernel_rfl
noncomputable abbrev B9W:St→Option Tree:=V1.say 0 [] [] (B12 C7L)
theorem C6W:aPL B9W B7C:=SS.wp2 hlz [] B6t C5y C5A _ (fun d=>Runs.ofI2 (step:=B6t) (C1E d.2.1.1 d.2.1.2.1 d.2.1.2.2.1 d.2.1.2.2.2.1 d.2.1.2.2.2.2.1 d.2.1.2.2.2.2.2.1 d.2.2.1.1 d.2.2.1.2.1 d.2.2.1.2.2.1 d.2.2.1.2.2.2.1) (C7d d.2.1.1 d.2.1.2.1 d.2.1.2.2.1 d.2.1.2.2.2.1 d.2.1.2.2.2.2.1 d.2.1.2.2.2.2.2.1 d.2.2.1.1 d.2.2.1.2.1 d.2.2.1.2.2.1 d.2.2.1.2.2.2.1) rfl (d.1.2.2.2.2.2.2.1,d.1.2.2.2.2.2.2.2.1))
noncomputable def B53 (a1 a2:Int) (a3:LT1) (a6:Int):=let z1:=wI (a1*(1000:Int));J5 ((a3.getD a6.toNat ((0:Int),([],((0:Int),[])))).1) z1 (wI ((wI (z1+a2)) - (1:Int)))
noncomputable def B55 (a3:LT1) (a6:Int):=J5 ((((a3.getD a6.toNat ((0:Int),([],((0:Int),[])))).2).2).1) (1:Int) (3:Int)
noncomputable def B56 (a0 a1 a2:Int) (a3:LT1) (a4:LIbe) (a5 a6:Int):=let z1:=a3.getD a6.toNat ((0:Int),([],((0:Int),[])));B5Z (H8 ((z1.2).1) a0) (0:Int) a0 a1 a2 a3 a4 a5 (z1.1) ((z1.2).1) (((z1.2).2).1) (((z1.2).2).2)
noncomputable def B80 (a0 a1 a2:Int) (a3:LT1) (a4:LIbe) (a5 a6:Int):Bool:=let z2:=a3.getD a6.toNat ((0:Int),([],((0:Int),[])));let z4:=Q0 a0 a1 a2 a3 a4 a5 (z2.1);let z3:=(a4.getD (z4.toNat) ((0:Int),false)).2;let z5:=B56 a0 a1 a2 a3 a4 a5 a6;let z1:=cond (!(B1x ((z2.2).1))) false (cond (!(B55 a3 a6)) false (cond (z5.1==0) (z5.2) (cond (decide (z4<(0:Int))) ((((z2.2).2).1)==(1:Int)) (cond ((((z2.2).2).1)==(2:Int)) (cond z3 true (cond ((((z2.2).2).1)==(3:Int)) (!z3) false)) (cond ((((z2.2).2).1)==(3:Int)) (!z3) false)))));(cond (!(B53 a1 a2 a3 a6)) false (cond (decide (a6 > (0:Int))) (cond (decide (((a3.getD ((wI (a6 - (1:Int))).toNat) ((0:Int),([],((0:Int),[])))).1) ≥ (z2.1))) false z1) z1))
noncomputable abbrev I4 (r:Bool):AV×List AObj:=((.t true .bool r),[])
noncomputable abbrev C2h:H5 B4O→AV×List AObj:=fun d=>I4 (B80 d.1.1 d.1.2.1 d.1.2.2.1 d.1.2.2.2.1 d.1.2.2.2.2.1 d.1.2.2.2.2.2.1 d.2.1)
noncomputable def A9c (a0 a1 a2:Int) (a3:LT1) (a4:LIbe) (a5 a6:Int):Bool:=let z2:=a3.getD a6.toNat ((0:Int),([],((0:Int),[])));let z3:=Q0 a0 a1 a2 a3 a4 a5 (z2.1);let z4:=wI (a6 - (1:Int));let z5:=decide (0≤z3∧z3<(a4.length:Int));let z6:=B56 a0 a1 a2 a3 a4 a5 a6;let z1:=(B5j ((z2.2).1))&&(cond (!(B1x ((z2.2).1))) true (cond (!(B55 a3 a6)) true ((N2 ((z2.2).1) a0)&&(cond (z6.1==0) true ((z6.1==1)&&((M3 a0 a1 a2 a3 a4 a5 (z2.1))&&(cond (decide (z3<(0:Int))) true (cond ((((z2.2).2).1)==(2:Int)) (z5&&(cond ((a4.getD (z3.toNat) ((0:Int),false)).2) true (cond ((((z2.2).2).1)==(3:Int)) z5 true))) (cond ((((z2.2).2).1)==(3:Int)) z5 true)))))))));(decide (0≤a6∧a6<(a3.length:Int)))&&(cond (!(B53 a1 a2 a3 a6)) true (cond (decide (a6 > (0:Int))) ((decide (0≤z4∧z4<(a3.length:Int)))&&(cond (decide (((a3.getD (z4.toNat) ((0:Int),([],((0:Int),[])))).1) ≥ (z2.1))) true z1)) z1))
noncomputable abbrev B8c:H5 B4O→Bool:=fun d=>A9c d.1.1 d.1.2.1 d.1.2.2.1 d.1.2.2.2.1 d.1.2.2.2.2.1 d.1.2.2.2.2.2.1 d.2.1
noncomputable abbrev C9S:Nat→St→Option Tree:=fun b=>match b with | 0=>B9W | _=>fun _=>none
theorem C8z:A7h true G26 (C9S) Try.f44 B4O B8c C2h:=by
 rintro ⟨⟨a0,⟨a1,⟨a2,⟨a3,⟨a4,⟨a5,_⟩⟩⟩⟩⟩⟩,⟨a6,_⟩⟩ hp
 change A9c a0 a1 a2 a3 a4 a5 a6=true at hp
 unfold A9c at hp
 refine Eq.trans (b:=(let z1:=a3.getD a6.toNat ((0:Int),([],((0:Int),[])));let z2:=Q0 a0 a1 a2 a3 a4 a5 (z1.1);let z3:=(a4.getD (z2.toNat) ((0:Int),false)).2;let z4:=decide (0≤z2∧z2<(a4.length:Int));let z5:=B56 a0 a1 a2 a3 a4 a5 a6;let z6:=wI (a6 - (1:Int));let z7:=I4 (!z3);let z8:=M3 a0 a1 a2 a3 a4 a5 (z1.1);let z9:=I4 ((((z1.2).2).1)==(1:Int));let z10:=N2 ((z1.2).1) a0;let z11:=!(B1x ((z1.2).1));let z12:=B5j ((z1.2).1);let z13:=!(B55 a3 a6);let z14:=decide (z2<(0:Int));cond (decide (0≤a6∧a6<(a3.length:Int))) (cond (!(B53 a1 a2 a3 a6)) (some (I4 false)) (cond (decide (a6 > (0:Int))) (cond (decide (0≤z6∧z6<(a3.length:Int))) (cond (decide (((a3.getD (z6.toNat) ((0:Int),([],((0:Int),[])))).1) ≥ (z1.1))) (some (I4 false)) (cond z12 (cond z11 (some (I4 false)) (cond z13 (some (I4 false)) (cond z10 (cond (z5.1==0) (some (I4 (z5.2))) (cond (z5.1==1) (cond z8 (cond z14 (some z9) (cond ((((z1.2).2).1)==(2:Int)) (cond z4 (cond z3 (some (I4 true)) (cond ((((z1.2).2).1)==(3:Int)) (cond z4 (some z7) none) (some (I4 false)))) none) (cond ((((z1.2).2).1)==(3:Int)) (cond z4 (some z7) none) (some (I4 false))))) none) none)) none))) none)) none) (cond z12 (cond z11 (some (I4 false)) (cond z13 (some (I4 false)) (cond z10 (cond (z5.1==0) (some (I4 (z5.2))) (cond (z5.1==1) (cond z8 (cond z14 (some z9) (cond ((((z1.2).2).1)==(2:Int)) (cond z4 (cond z3 (some (I4 true)) (cond ((((z1.2).2).1)==(3:Int)) (cond z4 (some z7) none) (some (I4 false)))) none) (cond ((((z1.2).2).1)==(3:Int)) (cond z4 (some z7) none) (some (I4 false))))) none) none)) none))) none))) none)) (by kernel_rfl) ?_
 exact (A7i hp fun hp=>(K8 I4 hp (fun hp=>rfl) (fun hp=>(K8 I4 hp (fun hp=>(A7i hp fun hp=>(K8 I4 hp (fun hp=>rfl) (fun hp=>(A7i hp fun hp=>(K8 I4 hp (fun hp=>rfl) (fun hp=>(K8 I4 hp (fun hp=>rfl) (fun hp=>(A7i hp fun hp=>(K8 I4 hp (fun hp=>rfl) (fun hp=>(A7i hp fun hp=>(A7i hp fun hp=>(K8 I4 hp (fun hp=>rfl) (fun hp=>(K8 I4 hp (fun hp=>(A7i hp fun hp=>(K8 I4 hp (fun hp=>rfl) (fun hp=>(K8 I4 hp (fun hp=>(A7k hp fun _h=>rfl)) (fun hp=>rfl)))))) (fun hp=>(K8 I4 hp (fun hp=>(A7k hp fun _h=>rfl)) (fun hp=>rfl)))))))))))))))))))) (fun hp=>(A7i hp fun hp=>(K8 I4 hp (fun hp=>rfl) (fun hp=>(K8 I4 hp (fun hp=>rfl) (fun hp=>(A7i hp fun hp=>(K8 I4 hp (fun hp=>rfl) (fun hp=>(A7i hp fun hp=>(A7i hp fun hp=>(K8 I4 hp (fun hp=>rfl) (fun hp=>(K8 I4 hp (fun hp=>(A7i hp fun hp=>(K8 I4 hp (fun hp=>rfl) (fun hp=>(K8 I4 hp (fun hp=>(A7k hp fun _h=>rfl)) (fun hp=>rfl)))))) (fun hp=>(K8 I4 hp (fun hp=>(A7k hp fun _h=>rfl)) (fun hp=>rfl)))))))))))))))))))))
theorem C97:aPP 44 (A2T B4O B8c C2h):=pcD true G26 (hl1 (i:=0) (by kernel_rfl) C6W) C8z
noncomputable def S27:Tab:=Tab.add S26 44 (lift (A2T B4O B8c C2h))
noncomputable def D2i:FuncId→Bool:=qadd D2h 44
theorem G27:aPG S27 D2i:=G26.addQ C97 (cbl Try.f44) (fun _=>rfl)

abbrev D3q:List Sh:=.junk::.junk::.junk::.junk::.junk::.junk::.junk::.junk::.junk::.junk::.junk::.junk::.junk::.junk::.junk::.junk::.junk::.junk::.junk::.junk::.junk::.junk::.junk::.junk::.junk::.junk::.junk::.junk::.junk::.junk::.junk::.junk::.junk::.junk::.junk::.junk::.junk::.junk::C6J
abbrev D1W:List Sh:=.junk::D3q
abbrev D3r:List Sh:=.junk::D1W
abbrev u79:=((),(),(),(),(),(),(),(),(),(),(),(),(),(),(),(),(),(),(),(),(),(),(),(),(),(),(),(),(),(),(),(),(),(),(),(),(),(),(),u40)
abbrev u78:=((),(),(),(),(),(),(),(),(),(),(),(),(),(),(),(),(),(),(),(),(),(),(),(),(),(),(),(),(),(),(),(),(),(),(),(),(),(),u40)
abbrev u82:=((),(),(),u79)
abbrev D1K:List AV:=.junk::.junk::.junk::.junk::.junk::.junk::.junk::.junk::.junk::.junk::.junk::.junk::.junk::.junk::.junk::.junk::.junk::.junk::.junk::.junk::.junk::.junk::.junk::.junk::.junk::.junk::.junk::.junk::.junk::.junk::.junk::.junk::.junk::.junk::.junk::.junk::.junk::.junk::.junk::C4f
abbrev D3M:List AV:=.junk::.junk::.junk::.junk::.junk::.junk::.junk::.junk::.junk::.junk::.junk::.junk::.junk::.junk::.junk::.junk::.junk::.junk::.junk::.junk::.junk::.junk::.junk::.junk::.junk::.junk::.junk::.junk::.junk::.junk::.junk::.junk::.junk::.junk::.junk::.junk::.junk::.junk::C4f
abbrev D3e:List AV:=.junk::D1K
abbrev D3X:List Sh:=.junk::.junk::.junk::.junk::.junk::.junk::.junk::.junk::.junk::.junk::.junk::.junk::.junk::.junk::.junk::.junk::.junk::.junk::.junk::.junk::.junk::.junk::.junk::.junk::.junk::.junk::.junk::.junk::.junk::.junk::.junk::.junk::.junk::.junk::.junk::.junk::.junk::C6J
abbrev D1X:List Sh:=.junk::D3r
abbrev u77:=((),(),(),(),(),(),(),(),(),(),(),(),(),(),(),(),(),(),(),(),(),(),(),(),(),(),(),(),(),(),(),(),(),(),(),(),(),u40)
abbrev D3L:List AV:=.junk::.junk::.junk::.junk::.junk::.junk::.junk::.junk::.junk::.junk::.junk::.junk::.junk::.junk::.junk::.junk::.junk::.junk::.junk::.junk::.junk::.junk::.junk::.junk::.junk::.junk::.junk::.junk::.junk::.junk::.junk::.junk::.junk::.junk::.junk::.junk::.junk::C4f
abbrev D1L:List AV:=.junk::D3e
abbrev B2E:List PSh:=[.agg [(.int .i64),(.int .i64),(.int .i64),tq2,tq5,(.int .i64)]]
noncomputable def B1q:Code:=((D3 0 (A1f Try.f14)).getD 0 (0,.skip)).2
noncomputable def B1r:Code:=((D3 0 (A1f Try.f14)).getD 1 (0,.skip)).2
abbrev Q6:SS:=⟨(.junk::.ptr 0 0 1 0::.junk::tI::D3q),[.box [tI,tI,tI,.t false tq2,.t false tq5,tI]]⟩
abbrev B2t:SS:=⟨(.junk::.junk::.t true .bool::D1W),[]⟩
abbrev B7d:SS:=⟨(.junk::.ptr 0 0 1 0::D3r),[.box [tI,tI,tI,.t false tq2,.t false tq5,tI]]⟩
noncomputable def B3T (x3 p1 p2:Int) (p4:LIbe):=J5 ((p4.getD x3.toNat ((0:Int),false)).1) (1000:Int) (wI ((wI ((wI (p1*(1000:Int)))+p2)) - (1:Int)))
noncomputable def B91 (x3 p0 p1 p2:Int) (p3:LT1) (p4:LIbe) (p5:Int):RT Q6.den:=let z1:=(p4.getD x3.toNat ((0:Int),false)).1;let z2:=decide (0≤x3∧x3<(p4.length:Int));(.br (decide (x3<(p4.length:Int))) (.br z2 (.br (!(B3T x3 p1 p2 p4)) (.done .ret B2t (((),(),false,u79),())) (.br z2 (.br (M3 p0 p1 p2 p3 p4 p5 z1) (.br ((Q0 p0 p1 p2 p3 p4 p5 z1) != x3) (.done .ret B2t (((),(),false,u79),())) (.next (((),(),(),wI (x3+(1:Int)),u78),((p0,p1,p2,p3,p4,p5,()),())))) .fail) .fail)) .fail) (.done (.exit 0) B7d ((u82),((p0,p1,p2,p3,p4,p5,()),()))))
abbrev B1Y:=(Int)
abbrev A9i:=Nat×(Bool)
def B0L:A9i:=(99,(false:Bool))
noncomputable def B0O (x3 p0 p1 p2:Int) (p3:LT1) (p4:LIbe) (p5:Int):B1Y ⊕ A9i:=let z1:=(p4.getD x3.toNat ((0:Int),false)).1;let z2:=decide (0≤x3∧x3<(p4.length:Int));(cond (decide (x3<(p4.length:Int))) (cond z2 (cond (!(B3T x3 p1 p2 p4)) (.inr (0,false)) (cond z2 (cond (M3 p0 p1 p2 p3 p4 p5 z1) (cond ((Q0 p0 p1 p2 p3 p4 p5 z1) != x3) (.inr (0,false)) (.inl (wI (x3+(1:Int))))) (.inr B0L)) (.inr B0L))) (.inr B0L)) (.inr (1,(false:Bool))))
noncomputable def A8A (x3 p0 p1 p2:Int) (p3:LT1) (p4:LIbe) (p5:Int):A9i:=itX (fun v:B1Y=>B0O v p0 p1 p2 p3 p4 p5) B0L x3
noncomputable def B4c (p0 p1 p2:Int) (p3:LT1) (p4:LIbe) (p5:Int) (a:A9i):CT:=(.br (a.1==0) (.done .ret B2t (((),(),a.2,u79),())) (.br (a.1==1) (.done (.exit 0) B7d ((u82),((p0,p1,p2,p3,p4,p5,()),()))) .fail))
noncomputable def C6d (x3 p0 p1 p2:Int) (p3:LT1) (p4:LIbe) (p5:Int):CT:=(B4c p0 p1 p2 p3 p4 p5) (A8A x3 p0 p1 p2 p3 p4 p5)
noncomputable abbrev B0H {α:Sort _} (f:Int→Int→Int→Int→LT1→LIbe→Int→α) (d:Q6.den):α:=f d.1.2.2.2.1 d.2.1.1 d.2.1.2.1 d.2.1.2.2.1 d.2.1.2.2.2.1 d.2.1.2.2.2.2.1 d.2.1.2.2.2.2.2.1
noncomputable abbrev B4r:Q6.den→RT Q6.den:=(B0H B91)
noncomputable abbrev B9M (p0 p1 p2:Int) (p3:LT1) (p4:LIbe) (p5:Int) (v:B1Y):Q6.den:=(((),(),(),v,u78),((p0,p1,p2,p3,p4,p5,()),()))
theorem C5E (p0 p1 p2:Int) (p3:LT1) (p4:LIbe) (p5:Int):(∀ v:B1Y,(B91 v p0 p1 p2 p3 p4 p5).val=A6l (B9M p0 p1 p2 p3 p4 p5) (B4c p0 p1 p2 p3 p4 p5) (B0O v p0 p1 p2 p3 p4 p5))∧∀ a:A9i,CEnd Q6.den ((B4c p0 p1 p2 p3 p4 p5) a):=⟨fun v=>by repeat' first | apply A7m | rfl,fun a=>(A7a aCD (A7a aCD A7c))⟩
noncomputable def B9D (x3 p0 p1 p2:Int) (p3:LT1) (p4:LIbe) (p5:Int):Option (Ex×St):=let z1:=(⟨(.junk::.junk::(.t true .bool false)::D1K),[],0,[]⟩:St);let z2:=(p4.getD x3.toNat ((0:Int),false)).1;let z3:=decide (0≤x3∧x3<(p4.length:Int));(cond (decide (x3<(p4.length:Int))) (cond z3 (cond (!(B3T x3 p1 p2 p4)) (some (.ret,z1)) (cond z3 (cond (M3 p0 p1 p2 p3 p4 p5 z2) (cond ((Q0 p0 p1 p2 p3 p4 p5 z2) != x3) (some (.ret,z1)) (some (.normal,(⟨(.junk::(.ptr 0 0 1 0)::.junk::(ti (wI (x3+(1:Int))))::D3M),[(.box [(ti p0),(ti p1),(ti p2),(.t false tq2 p3),(.t false tq5 p4),(ti p5)])],0,[]⟩:St)))) none) none)) none) (some ((.exit 0),(⟨(.junk::(.ptr 0 0 1 0)::D3e),[(.box [(ti p0),(ti p1),(ti p2),(.t false tq2 p3),(.t false tq5 p4),(ti p5)])],0,[]⟩:St))))
theorem C4D:RdA G27 aLn 0 B1q Q6 0 [] (kepts [2] [(0,[1])]) (B0H B9D):=by
 intro d
 kernel_rfl
theorem C4J:∀ d:Q6.den,(B0H B9D) d=(B4r d).opt 0 []:=by
 intro d
 kernel_rfl
noncomputable abbrev B8y:St→Option Tree:=Q6.say 0 [] [] (B0H C6d)
theorem C5o:aPL B8y B1q:=SS.wp2 hlz [] B4r C4D C4J _ (fun d=>Runs.ofI2 (step:=B4r) (B9M d.2.1.1 d.2.1.2.1 d.2.1.2.2.1 d.2.1.2.2.2.1 d.2.1.2.2.2.2.1 d.2.1.2.2.2.2.2.1) (C5E d.2.1.1 d.2.1.2.1 d.2.1.2.2.1 d.2.1.2.2.2.1 d.2.1.2.2.2.2.1 d.2.1.2.2.2.2.2.1) rfl d.1.2.2.2.1)
abbrev Q7:SS:=⟨(.junk::.ptr 0 0 1 0::.junk::.junk::tI::D3X),[.box [tI,tI,tI,.t false tq2,.t false tq5,tI]]⟩
abbrev B7e:SS:=⟨(.junk::.junk::.t true .bool::D1W),[]⟩
abbrev B7f:SS:=⟨(.junk::D1X),[]⟩
noncomputable def B92 (x4 p0 p1 p2:Int) (p3:LT1) (p4:LIbe) (p5:Int):RT Q7.den:=(.br (decide (x4<(p3.length:Int))) (.br (A9c p0 p1 p2 p3 p4 p5 x4) (.br (!(B80 p0 p1 p2 p3 p4 p5 x4)) (.done .ret B7e (((),(),false,u79),())) (.next (((),(),(),(),wI (x4+(1:Int)),u77),((p0,p1,p2,p3,p4,p5,()),())))) .fail) (.done (.exit 2) B7f ((u82),())))
abbrev B1Z:=(Int)
abbrev A9j:=Nat×(Bool)
def B9y:A9j:=(99,(false:Bool))
noncomputable def B0P (x4 p0 p1 p2:Int) (p3:LT1) (p4:LIbe) (p5:Int):B1Z ⊕ A9j:=(cond (decide (x4<(p3.length:Int))) (cond (A9c p0 p1 p2 p3 p4 p5 x4) (cond (!(B80 p0 p1 p2 p3 p4 p5 x4)) (.inr (0,false)) (.inl (wI (x4+(1:Int))))) (.inr B9y)) (.inr (1,(false:Bool))))
noncomputable def A8B (x4 p0 p1 p2:Int) (p3:LT1) (p4:LIbe) (p5:Int):A9j:=itX (fun v:B1Z=>B0P v p0 p1 p2 p3 p4 p5) B9y x4
noncomputable def B4d (p0 p1 p2:Int) (p3:LT1) (p4:LIbe) (p5:Int) (a:A9j):CT:=(.br (a.1==0) (.done .ret B7e (((),(),a.2,u79),())) (.br (a.1==1) (.done (.exit 2) B7f ((u82),())) .fail))
noncomputable def C6e (x4 p0 p1 p2:Int) (p3:LT1) (p4:LIbe) (p5:Int):CT:=(B4d p0 p1 p2 p3 p4 p5) (A8B x4 p0 p1 p2 p3 p4 p5)
noncomputable abbrev B0I {α:Sort _} (f:Int→Int→Int→Int→LT1→LIbe→Int→α) (d:Q7.den):α:=f d.1.2.2.2.2.1 d.2.1.1 d.2.1.2.1 d.2.1.2.2.1 d.2.1.2.2.2.1 d.2.1.2.2.2.2.1 d.2.1.2.2.2.2.2.1
noncomputable abbrev B4s:Q7.den→RT Q7.den:=(B0I B92)
noncomputable abbrev B9N (p0 p1 p2:Int) (p3:LT1) (p4:LIbe) (p5:Int) (v:B1Z):Q7.den:=(((),(),(),(),v,u77),((p0,p1,p2,p3,p4,p5,()),()))
theorem C5F (p0 p1 p2:Int) (p3:LT1) (p4:LIbe) (p5:Int):(∀ v:B1Z,(B92 v p0 p1 p2 p3 p4 p5).val=A6l (B9N p0 p1 p2 p3 p4 p5) (B4d p0 p1 p2 p3 p4 p5) (B0P v p0 p1 p2 p3 p4 p5))∧∀ a:A9j,CEnd Q7.den ((B4d p0 p1 p2 p3 p4 p5) a):=⟨fun v=>(A7m (A7m (A7m rfl rfl) rfl) rfl),fun a=>(A7a aCD (A7a aCD A7c))⟩
noncomputable def B9E (x4 p0 p1 p2:Int) (p3:LT1) (p4:LIbe) (p5:Int):Option (Ex×St):=(cond (decide (x4<(p3.length:Int))) (cond (A9c p0 p1 p2 p3 p4 p5 x4) (cond (!(B80 p0 p1 p2 p3 p4 p5 x4)) (some (.ret,(⟨(.junk::.junk::(.t true .bool false)::D1K),[],0,[]⟩:St))) (some (.normal,(⟨(.junk::(.ptr 0 0 1 0)::.junk::.junk::(ti (wI (x4+(1:Int))))::D3L),[(.box [(ti p0),(ti p1),(ti p2),(.t false tq2 p3),(.t false tq5 p4),(ti p5)])],0,[]⟩:St)))) none) (some ((.exit 2),(⟨(.junk::D1L),[],0,[]⟩:St))))
theorem C4E:RdA G27 aLn 2 B1r Q7 0 [] (kepts [2] [(2,[])]) (B0I B9E):=by
 intro d
 kernel_rfl
theorem C4K:∀ d:Q7.den,(B0I B9E) d=(B4s d).opt 0 []:=by
 intro d
 kernel_rfl
noncomputable abbrev B8z:St→Option Tree:=Q7.say 0 [] [] (B0I C6e)
theorem C5p:aPL B8z B1r:=SS.wp2 hlz [] B4s C4E C4K _ (fun d=>Runs.ofI2 (step:=B4s) (B9N d.2.1.1 d.2.1.2.1 d.2.1.2.2.1 d.2.1.2.2.2.1 d.2.1.2.2.2.2.1 d.2.1.2.2.2.2.2.1) (C5F d.2.1.1 d.2.1.2.1 d.2.1.2.2.1 d.2.1.2.2.2.1 d.2.1.2.2.2.2.1 d.2.1.2.2.2.2.2.1) rfl d.1.2.2.2.2.1)
noncomputable def B3i (a0 a1 a2:Int) (a3:LT1) (a4:LIbe) (a5:Int):Bool:=let z1:=A8A (0:Int) a0 a1 a2 a3 a4 a5;let z2:=A8B (0:Int) a0 a1 a2 a3 a4 a5;(cond (!(J5 a0 (1:Int) (8:Int))) false (cond (!(J5 a1 (1:Int) (900:Int))) false (cond (!(J5 a2 (0:Int) (999:Int))) false (cond (decide ((a4.length:Int) > (1000:Int))) false (cond (!(J5 a5 (0:Int) (a4.length:Int))) false (cond (z1.1==0) (z1.2) (cond (z2.1==0) (z2.2) true)))))))
noncomputable abbrev L6 (r:Bool):AV×List AObj:=((.t true .bool r),[])
noncomputable abbrev C0m:H5 B2E→AV×List AObj:=fun d=>L6 (B3i d.1.1 d.1.2.1 d.1.2.2.1 d.1.2.2.2.1 d.1.2.2.2.2.1 d.1.2.2.2.2.2.1)
noncomputable def A8Y (a0 a1 a2:Int) (a3:LT1) (a4:LIbe) (a5:Int):Bool:=let z1:=A8A (0:Int) a0 a1 a2 a3 a4 a5;let z2:=A8B (0:Int) a0 a1 a2 a3 a4 a5;cond (!(J5 a0 (1:Int) (8:Int))) true (cond (!(J5 a1 (1:Int) (900:Int))) true (cond (!(J5 a2 (0:Int) (999:Int))) true (cond (decide ((a4.length:Int) > (1000:Int))) true (cond (!(J5 a5 (0:Int) (a4.length:Int))) true (cond (z1.1==0) true ((z1.1==1)&&(cond (z2.1==0) true (z2.1==1))))))))
noncomputable abbrev B6j:H5 B2E→Bool:=fun d=>A8Y d.1.1 d.1.2.1 d.1.2.2.1 d.1.2.2.2.1 d.1.2.2.2.2.1 d.1.2.2.2.2.2.1
noncomputable abbrev C8J:Nat→St→Option Tree:=fun b=>match b with | 0=>B8y | 2=>B8z | _=>fun _=>none
theorem C7o:A7h true G27 (C8J) Try.f14 B2E B6j C0m:=by
 rintro ⟨⟨a0,⟨a1,⟨a2,⟨a3,⟨a4,⟨a5,_⟩⟩⟩⟩⟩⟩,_⟩ hp
 change A8Y a0 a1 a2 a3 a4 a5=true at hp
 unfold A8Y at hp
 refine Eq.trans (b:=(let z1:=A8A (0:Int) a0 a1 a2 a3 a4 a5;let z2:=A8B (0:Int) a0 a1 a2 a3 a4 a5;cond (!(J5 a0 (1:Int) (8:Int))) (some (L6 false)) (cond (!(J5 a1 (1:Int) (900:Int))) (some (L6 false)) (cond (!(J5 a2 (0:Int) (999:Int))) (some (L6 false)) (cond (decide ((a4.length:Int) > (1000:Int))) (some (L6 false)) (cond (!(J5 a5 (0:Int) (a4.length:Int))) (some (L6 false)) (cond (z1.1==0) (some (L6 (z1.2))) (cond (z1.1==1) (cond (z2.1==0) (some (L6 (z2.2))) (cond (z2.1==1) (some (L6 true)) none)) none)))))))) (by kernel_rfl) ?_
 exact (K8 L6 hp (fun hp=>rfl) (fun hp=>(K8 L6 hp (fun hp=>rfl) (fun hp=>(K8 L6 hp (fun hp=>rfl) (fun hp=>(K8 L6 hp (fun hp=>rfl) (fun hp=>(K8 L6 hp (fun hp=>rfl) (fun hp=>(K8 L6 hp (fun hp=>rfl) (fun hp=>(A7i hp fun hp=>(K8 L6 hp (fun hp=>rfl) (fun hp=>(A7k hp fun _h=>rfl))))))))))))))))
theorem C85:aPP 14 (A2T B2E B6j C0m):=pcD true G27 (by
  rw [show D3 0 (A1f Try.f14)=[(0,B1q),(2,B1r)] by kernel_rfl];intro p hp;simp only [List.mem_cons,List.mem_nil_iff,or_false] at hp
  rcases hp with rfl | rfl
  ·exact C5o
  ·exact C5p) C7o
noncomputable def S28:Tab:=Tab.add S27 14 (lift (A2T B2E B6j C0m))
noncomputable def D2j:FuncId→Bool:=qadd D2i 14
theorem G28:aPG S28 D2j:=G27.addQ C85 (cbl Try.f14) (fun _=>rfl)

abbrev A9r:List PSh:=[.agg [(.int .i64),(.int .i64),(.int .i64),tq2,tq5,(.int .i64)],.t (.int .i64)]
noncomputable def B3m (a0 a1 a2:Int) (a3:LT1) (a4:LIbe) (a5 a6:Int):Bool×Bool:=let z1:=Q0 a0 a1 a2 a3 a4 a5 a6;(cond (decide (a6<(1000:Int))) (false,false) (cond (decide (z1 ≥ (0:Int))) (cond ((a4.getD (z1.toNat) ((0:Int),false)).2) (decide (z1<a5),decide (z1<a5)) (false,decide (z1<a5))) (false,decide (a6<(wI (a1*(1000:Int)))))))
noncomputable abbrev V3 (r:Bool×Bool):AV×List AObj:=((.tup [(.t true .bool r.1),(.t true .bool r.2)]),[])
noncomputable abbrev B5V:H5 A9r→AV×List AObj:=fun d=>V3 (B3m d.1.1 d.1.2.1 d.1.2.2.1 d.1.2.2.2.1 d.1.2.2.2.2.1 d.1.2.2.2.2.2.1 d.2.1)
noncomputable def V8 (a0 a1 a2:Int) (a3:LT1) (a4:LIbe) (a5 a6:Int):Bool:=let z1:=Q0 a0 a1 a2 a3 a4 a5 a6;(M3 a0 a1 a2 a3 a4 a5 a6)&&(cond (decide (a6<(1000:Int))) true (cond (decide (z1 ≥ (0:Int))) (decide (0≤z1∧z1<(a4.length:Int))) true))
noncomputable abbrev B3e:H5 A9r→Bool:=fun d=>V8 d.1.1 d.1.2.1 d.1.2.2.1 d.1.2.2.2.1 d.1.2.2.2.2.1 d.1.2.2.2.2.2.1 d.2.1
theorem C4Y:A7h true G28 aLn Try.f53 A9r B3e B5V:=by
 rintro ⟨⟨a0,⟨a1,⟨a2,⟨a3,⟨a4,⟨a5,_⟩⟩⟩⟩⟩⟩,⟨a6,_⟩⟩ hp
 change V8 a0 a1 a2 a3 a4 a5 a6=true at hp
 unfold V8 at hp
 refine Eq.trans (b:=(let z1:=Q0 a0 a1 a2 a3 a4 a5 a6;cond (M3 a0 a1 a2 a3 a4 a5 a6) (cond (decide (a6<(1000:Int))) (some (V3 (false,false))) (cond (decide (z1 ≥ (0:Int))) (cond (decide (0≤z1∧z1<(a4.length:Int))) (cond ((a4.getD (z1.toNat) ((0:Int),false)).2) (some (V3 (decide (z1<a5),decide (z1<a5)))) (some (V3 (false,decide (z1<a5))))) none) (some (V3 (false,decide (a6<(wI (a1*(1000:Int))))))))) none)) (by kernel_rfl) ?_
 exact (A7i hp fun hp=>(K8 V3 hp (fun hp=>rfl) (fun hp=>(K8 V3 hp (fun hp=>(A7k hp fun _h=>(N4 V3 (fun _h=>rfl) (fun _h=>rfl)))) (fun hp=>rfl)))))
theorem C6o:aPP 53 (A2T A9r B3e B5V):=pcD true G28 hlz C4Y
noncomputable def S29:Tab:=Tab.add S28 53 (lift (A2T A9r B3e B5V))
noncomputable def D2k:FuncId→Bool:=qadd D2j 53
theorem G29:aPG S29 D2k:=G28.addQ C6o (cbl Try.f53) (fun _=>rfl)

abbrev D1g:List AV:=.junk::.junk::.junk::.junk::.junk::.junk::.junk::.junk::.junk::.junk::.junk::.junk::.junk::.junk::.junk::.junk::.junk::.junk::.junk::.junk::.junk::.junk::.junk::.junk::[]
abbrev D1G:List AV:=.junk::D1g
abbrev B4N:List PSh:=[.t tq4,.t (.int .i64),.t (.int .i64)]
abbrev V0:SS:=⟨(.t false tq4::tI::tI::.junk::.junk::.junk::.junk::.all 0 3::tI::D1S),[.rows 90 true tq8]⟩
abbrev B9m:SS:=⟨(.junk::.junk::.junk::.junk::.junk::.junk::.junk::.all 0 3::D0S),[.rows 90 true tq8]⟩
noncomputable def B51 (x0:Lq1) (x2 x8:Int):=B3j (((x0.getD x8.toNat ((0:Int),(bE,bE))).2).1) x2
noncomputable def C1Y (x0:Lq1) (x1 x2 x8:Int) (h0:Lq1):RT V0.den:=let z1:=x0.getD x8.toNat ((0:Int),(bE,bE));let z2:=decide (0≤x8∧x8<(x0.length:Int));(.br (decide (x8<(x0.length:Int))) (.br z2 (.br (W2 ((z1.2).1) x2) (.br ((B51 x0 x2 x8)==x1) (.br z2 (.br (decide ((h0.length+([(z1.1,((z1.2).1,(z1.2).2))]).length)*40≤MAXB)) (.next ((x0,x1,x2,(),(),(),(),(),wI (x8+(1:Int)),u25),(h0++([(z1.1,((z1.2).1,(z1.2).2))]),()))) .fail) .fail) (.next ((x0,x1,x2,(),(),(),(),(),wI (x8+(1:Int)),u25),(h0,())))) .fail) .fail) (.done (.exit 0) B9m ((u34),(h0,()))))
abbrev B05:=(Lq1)×(Int)×(Int)×(Int)×(Lq1)
abbrev A82:=Nat×(Lq1)
def A9G:A82:=(99,([]:Lq1))
noncomputable def B2f (x0:Lq1) (x1 x2 x8:Int) (h0:Lq1):B05 ⊕ A82:=let z1:=x0.getD x8.toNat ((0:Int),(bE,bE));let z2:=decide (0≤x8∧x8<(x0.length:Int));(cond (decide (x8<(x0.length:Int))) (cond z2 (cond (W2 ((z1.2).1) x2) (cond ((B51 x0 x2 x8)==x1) (cond z2 (cond (decide ((h0.length+([(z1.1,((z1.2).1,(z1.2).2))]).length)*40≤MAXB)) (.inl (x0,x1,x2,wI (x8+(1:Int)),h0++([(z1.1,((z1.2).1,(z1.2).2))]))) (.inr A9G)) (.inr A9G)) (.inl (x0,x1,x2,wI (x8+(1:Int)),h0))) (.inr A9G)) (.inr A9G)) (.inr (0,h0)))
noncomputable def A9Q (x0:Lq1) (x1 x2 x8:Int) (h0:Lq1):A82:=itX (fun v:B05=>B2f v.1 v.2.1 v.2.2.1 v.2.2.2.1 v.2.2.2.2) A9G (x0,x1,x2,x8,h0)
noncomputable def B5G (a:A82):CT:=(.br (a.1==0) (.done (.exit 0) B9m ((u34),(a.2,()))) .fail)
noncomputable def C7K (x0:Lq1) (x1 x2 x8:Int) (h0:Lq1):CT:=B5G (A9Q x0 x1 x2 x8 h0)
noncomputable abbrev B11 {α:Sort _} (f:Lq1→Int→Int→Int→Lq1→α) (d:V0.den):α:=f d.1.1 d.1.2.1 d.1.2.2.1 d.1.2.2.2.2.2.2.2.2.1 d.2.1
noncomputable abbrev B6s:V0.den→RT V0.den:=(B11 C1Y)
noncomputable def B7B:Code:=((D3 0 (A1f Try.f147)).getD 0 (0,.skip)).2
noncomputable abbrev C1D (v:B05):V0.den:=((v.1,v.2.1,v.2.2.1,(),(),(),(),(),v.2.2.2.1,u25),(v.2.2.2.2,()))
theorem C7c:(∀ v:B05,(C1Y v.1 v.2.1 v.2.2.1 v.2.2.2.1 v.2.2.2.2).val=A6l C1D B5G (B2f v.1 v.2.1 v.2.2.1 v.2.2.2.1 v.2.2.2.2))∧∀ a:A82,CEnd V0.den (B5G a):=⟨fun v=>by repeat' first | apply A7m | rfl,fun a=>(A7a aCD A7c)⟩
noncomputable def C1t (x0:Lq1) (x1 x2 x8:Int) (h0:Lq1):Option (Ex×St):=let z1:=x0.getD x8.toNat ((0:Int),(bE,bE));let z2:=ti (wI (x8+(1:Int)));let z3:=decide (0≤x8∧x8<(x0.length:Int));(cond (decide (x8<(x0.length:Int))) (cond z3 (cond (W2 ((z1.2).1) x2) (cond ((B51 x0 x2 x8)==x1) (cond z3 (cond (decide ((h0.length+([(z1.1,((z1.2).1,(z1.2).2))]).length)*40≤MAXB)) (some (.normal,(⟨((.t false tq4 x0)::(ti x1)::(ti x2)::.junk::.junk::.junk::.junk::(.all 0 3)::z2::D1g),[(.rows 90 true tq8 (h0++([(z1.1,((z1.2).1,(z1.2).2))])))],0,[]⟩:St))) none) none) (some (.normal,(⟨((.t false tq4 x0)::(ti x1)::(ti x2)::.junk::.junk::.junk::.junk::(.all 0 3)::z2::D1g),[(.rows 90 true tq8 h0)],0,[]⟩:St)))) none) none) (some ((.exit 0),(⟨(.junk::.junk::.junk::.junk::.junk::.junk::.junk::(.all 0 3)::D1G),[(.rows 90 true tq8 h0)],0,[]⟩:St))))
theorem C5x:RdA G29 aLn 0 B7B V0 0 [] (kepts [] [(0,[7])]) (B11 C1t):=by
 intro d
 kernel_rfl
theorem C5z:∀ d:V0.den,(B11 C1t) d=(B6s d).opt 0 []:=by
 intro d
 kernel_rfl
noncomputable abbrev B9V:St→Option Tree:=V0.say 0 [] [] (B11 C7K)
theorem C6V:aPL B9V B7B:=SS.wp2 hlz [] B6s C5x C5z _ (fun d=>Runs.ofI2 (step:=B6s) C1D C7c rfl (d.1.1,d.1.2.1,d.1.2.2.1,d.1.2.2.2.2.2.2.2.2.1,d.2.1))
noncomputable def B2b (a0:Lq1) (a1 a2:Int):Lq1:=((A9Q a0 a1 a2 (0:Int) ([]:Lq1)).2)
noncomputable abbrev C5V (r:Lq1):AV×List AObj:=((.t true tq4 r),[])
noncomputable abbrev C2g:H5 B4N→AV×List AObj:=fun d=>C5V (B2b d.1 d.2.1 d.2.2.1)
noncomputable def A9b (a0:Lq1) (a1 a2:Int):Bool:=((A9Q a0 a1 a2 (0:Int) ([]:Lq1)).1==0)
noncomputable abbrev B8b:H5 B4N→Bool:=fun d=>A9b d.1 d.2.1 d.2.2.1
noncomputable abbrev C9R:Nat→St→Option Tree:=fun b=>match b with | 0=>B9V | _=>fun _=>none
theorem C8y:A7h true G29 (C9R) Try.f147 B4N B8b C2g:=by
 rintro ⟨a0,⟨a1,⟨a2,_⟩⟩⟩ hp
 change A9b a0 a1 a2=true at hp
 unfold A9b at hp
 refine Eq.trans (b:=(let z1:=A9Q a0 a1 a2 (0:Int) ([]:Lq1);cond (z1.1==0) (some (C5V (z1.2))) none)) (by kernel_rfl) ?_
 exact (A7k hp fun _h=>rfl)
theorem C96:aPP 147 (A2T B4N B8b C2g):=pcD true G29 (hl1 (i:=0) (by kernel_rfl) C6V) C8y
noncomputable def S30:Tab:=Tab.add S29 147 (lift (A2T B4N B8b C2g))
noncomputable def D2l:FuncId→Bool:=qadd D2k 147
theorem G30:aPG S30 D2l:=G29.addQ C96 (cbl Try.f147) (fun _=>rfl)

abbrev D1n:List Sh:=.junk::C6J
abbrev tq3:Ty:=.pair (.int .i64) (.pair (.int .i64) (.pair (.int .i64) (.pair (.sl (.pair (.int .i64) (.pair .str .str))) .bool)))
abbrev D3m:List Sh:=.junk::.junk::D1n
abbrev u41:=((),u40)
abbrev u49:=((),(),(),(),(),(),(),(),u41)
abbrev D0P:List AV:=.junk::C4f
abbrev D3c:List AV:=.junk::.junk::D0P
abbrev tq6:Ty:=.sl (.pair (.int .i64) (.pair (.int .i64) (.pair (.int .i64) (.pair (.sl (.pair (.int .i64) (.pair .str .str))) .bool))))
abbrev B0Y:List PSh:=[.agg [(.int .i64),(.int .i64),(.int .i64),tq2,tq5,(.int .i64)],.agg [(.int .i64),tq4,(.int .i64),M9]]
abbrev O1:SS:=⟨(.junk::.junk::.ptr 0 0 1 0::.ptr 1 0 1 0::.junk::.all 2 5::.t true M9::tI::D1n),[.box [tI,tI,tI,.t false tq2,.t false tq5,tI],.box [tI,.t false tq4,tI,.t false M9],.rows 58 true tq3]⟩
abbrev B6B:SS:=⟨(.junk::.junk::.junk::.junk::.junk::.all 0 5::D3m),[.rows 58 true tq3]⟩
noncomputable def B8L (x6:List Int) (x7 p0 p1 p2:Int) (p3:LT1) (p4:LIbe) (p5 q0:Int) (q1:Lq1) (q2:Int) (q3:List Int) (h2:LT2):RT O1.den:=let z1:=x6.getD x7.toNat (0:Int);let z2:=decide (0≤x7∧x7<(x6.length:Int));(.br (decide (x7<(x6.length:Int))) (.br z2 (.br (T8 q3 z1) (.br (!(A8Z q3 z1)) (.br z2 (.br z2 (.br (A9b q1 z1 p0) (.br (decide ((h2.length+[((1:Int),(x6.getD x7.toNat (0:Int),(q0,((B2b q1 z1 p0),false))))].length)*56≤MAXB)) (.next (((),(),(),(),(),(),x6,wI (x7+(1:Int)),u41),((p0,p1,p2,p3,p4,p5,()),(q0,q1,q2,q3,()),h2++[((1:Int),(x6.getD x7.toNat (0:Int),(q0,((B2b q1 z1 p0),false))))],()))) .fail) .fail) .fail) .fail) (.next (((),(),(),(),(),(),x6,wI (x7+(1:Int)),u41),((p0,p1,p2,p3,p4,p5,()),(q0,q1,q2,q3,()),h2,())))) .fail) .fail) (.done (.exit 0) B6B ((u49),(h2,()))))
abbrev A0k:=(List Int)×(Int)×LT2
abbrev V9:=Nat×LT2
def T4:V9:=(99,([]:LT2))
noncomputable def T9 (x6:List Int) (x7 p0 p1 p2:Int) (p3:LT1) (p4:LIbe) (p5 q0:Int) (q1:Lq1) (q2:Int) (q3:List Int) (h2:LT2):A0k ⊕ V9:=let z1:=x6.getD x7.toNat (0:Int);let z2:=decide (0≤x7∧x7<(x6.length:Int));(cond (decide (x7<(x6.length:Int))) (cond z2 (cond (T8 q3 z1) (cond (!(A8Z q3 z1)) (cond z2 (cond z2 (cond (A9b q1 z1 p0) (cond (decide ((h2.length+[((1:Int),(x6.getD x7.toNat (0:Int),(q0,((B2b q1 z1 p0),false))))].length)*56≤MAXB)) (.inl (x6,wI (x7+(1:Int)),h2++[((1:Int),(x6.getD x7.toNat (0:Int),(q0,((B2b q1 z1 p0),false))))])) (.inr T4)) (.inr T4)) (.inr T4)) (.inr T4)) (.inl (x6,wI (x7+(1:Int)),h2))) (.inr T4)) (.inr T4)) (.inr (0,h2)))
noncomputable def A9R (x6:List Int) (x7 p0 p1 p2:Int) (p3:LT1) (p4:LIbe) (p5 q0:Int) (q1:Lq1) (q2:Int) (q3:List Int) (h2:LT2):V9:=itX (fun v:A0k=>T9 v.1 v.2.1 p0 p1 p2 p3 p4 p5 q0 q1 q2 q3 v.2.2) T4 (x6,x7,h2)
noncomputable def B2U (p0 p1 p2:Int) (p3:LT1) (p4:LIbe) (p5 q0:Int) (q1:Lq1) (q2:Int) (q3:List Int) (a:V9):CT:=(.br (a.1==0) (.done (.exit 0) B6B ((u49),(a.2,()))) .fail)
noncomputable def C5c (x6:List Int) (x7 p0 p1 p2:Int) (p3:LT1) (p4:LIbe) (p5 q0:Int) (q1:Lq1) (q2:Int) (q3:List Int) (h2:LT2):CT:=(B2U p0 p1 p2 p3 p4 p5 q0 q1 q2 q3) (A9R x6 x7 p0 p1 p2 p3 p4 p5 q0 q1 q2 q3 h2)
noncomputable abbrev A9z {α:Sort _} (f:(List Int)→Int→Int→Int→Int→LT1→LIbe→Int→Int→Lq1→Int→(List Int)→LT2→α) (d:O1.den):α:=f d.1.2.2.2.2.2.2.1 d.1.2.2.2.2.2.2.2.1 d.2.1.1 d.2.1.2.1 d.2.1.2.2.1 d.2.1.2.2.2.1 d.2.1.2.2.2.2.1 d.2.1.2.2.2.2.2.1 d.2.2.1.1 d.2.2.1.2.1 d.2.2.1.2.2.1 d.2.2.1.2.2.2.1 d.2.2.2.1
noncomputable abbrev B3q:O1.den→RT O1.den:=(A9z B8L)
noncomputable def B4X:Code:=((D3 0 (A1f Try.f126)).getD 0 (0,.skip)).2
noncomputable abbrev B8g (p0 p1 p2:Int) (p3:LT1) (p4:LIbe) (p5 q0:Int) (q1:Lq1) (q2:Int) (q3:List Int) (v:A0k):O1.den:=(((),(),(),(),(),(),v.1,v.2.1,u41),((p0,p1,p2,p3,p4,p5,()),(q0,q1,q2,q3,()),v.2.2,()))
theorem C4O (p0 p1 p2:Int) (p3:LT1) (p4:LIbe) (p5 q0:Int) (q1:Lq1) (q2:Int) (q3:List Int):(∀ v:A0k,(B8L v.1 v.2.1 p0 p1 p2 p3 p4 p5 q0 q1 q2 q3 v.2.2).val=A6l (B8g p0 p1 p2 p3 p4 p5 q0 q1 q2 q3) (B2U p0 p1 p2 p3 p4 p5 q0 q1 q2 q3) (T9 v.1 v.2.1 p0 p1 p2 p3 p4 p5 q0 q1 q2 q3 v.2.2))∧∀ a:V9,CEnd O1.den ((B2U p0 p1 p2 p3 p4 p5 q0 q1 q2 q3) a):=⟨fun v=>by repeat' first | apply A7m | rfl,fun a=>(A7a aCD A7c)⟩
noncomputable def B7W (x6:List Int) (x7 p0 p1 p2:Int) (p3:LT1) (p4:LIbe) (p5 q0:Int) (q1:Lq1) (q2:Int) (q3:List Int) (h2:LT2):Option (Ex×St):=let z1:=x6.getD x7.toNat (0:Int);let z2:=decide (0≤x7∧x7<(x6.length:Int));let z3:=ti (wI (x7+(1:Int)));(cond (decide (x7<(x6.length:Int))) (cond z2 (cond (T8 q3 z1) (cond (!(A8Z q3 z1)) (cond z2 (cond z2 (cond (A9b q1 z1 p0) (cond (decide ((h2.length+[((1:Int),(x6.getD x7.toNat (0:Int),(q0,((B2b q1 z1 p0),false))))].length)*56≤MAXB)) (some (.normal,(⟨(.junk::.junk::(.ptr 0 0 1 0)::(.ptr 1 0 1 0)::.junk::(.all 2 5)::(.t true M9 x6)::z3::D0P),[(.box [(ti p0),(ti p1),(ti p2),(.t false tq2 p3),(.t false tq5 p4),(ti p5)]),(.box [(ti q0),(.t false tq4 q1),(ti q2),(.t false M9 q3)]),(.rows 58 true tq3 (h2++[((1:Int),(x6.getD x7.toNat (0:Int),(q0,((B2b q1 z1 p0),false))))]))],0,[]⟩:St))) none) none) none) none) (some (.normal,(⟨(.junk::.junk::(.ptr 0 0 1 0)::(.ptr 1 0 1 0)::.junk::(.all 2 5)::(.t true M9 x6)::z3::D0P),[(.box [(ti p0),(ti p1),(ti p2),(.t false tq2 p3),(.t false tq5 p4),(ti p5)]),(.box [(ti q0),(.t false tq4 q1),(ti q2),(.t false M9 q3)]),(.rows 58 true tq3 h2)],0,[]⟩:St)))) none) none) (some ((.exit 0),(⟨(.junk::.junk::.junk::.junk::.junk::(.all 0 5)::D3c),[(.rows 58 true tq3 h2)],0,[]⟩:St))))
theorem C3x:RdA G30 aLn 0 B4X O1 0 [] (kepts [] [(0,[5])]) (A9z B7W):=by
 intro d
 kernel_rfl
theorem C3B:∀ d:O1.den,(A9z B7W) d=(B3q d).opt 0 []:=by
 intro d
 kernel_rfl
noncomputable abbrev B6Y:St→Option Tree:=O1.say 0 [] [] (A9z C5c)
theorem C4l:aPL B6Y B4X:=SS.wp2 hlz [] B3q C3x C3B _ (fun d=>Runs.ofI2 (step:=B3q) (B8g d.2.1.1 d.2.1.2.1 d.2.1.2.2.1 d.2.1.2.2.2.1 d.2.1.2.2.2.2.1 d.2.1.2.2.2.2.2.1 d.2.2.1.1 d.2.2.1.2.1 d.2.2.1.2.2.1 d.2.2.1.2.2.2.1) (C4O d.2.1.1 d.2.1.2.1 d.2.1.2.2.1 d.2.1.2.2.2.1 d.2.1.2.2.2.2.1 d.2.1.2.2.2.2.2.1 d.2.2.1.1 d.2.2.1.2.1 d.2.2.1.2.2.1 d.2.2.1.2.2.2.1) rfl (d.1.2.2.2.2.2.2.1,d.1.2.2.2.2.2.2.2.1,d.2.2.2.1))
noncomputable def A9T (a0 a1 a2:Int) (a3:LT1) (a4:LIbe) (a5 a6:Int) (a7:Lq1) (a8:Int) (a9:List Int):=A9R (H8 a7 a0) (0:Int) a0 a1 a2 a3 a4 a5 a6 a7 a8 a9 ([]:LT2)
noncomputable def B5r (a0 a1 a2:Int) (a3:LT1) (a4:LIbe) (a5 a6:Int) (a7:Lq1) (a8:Int) (a9:List Int):LT2:=((A9T a0 a1 a2 a3 a4 a5 a6 a7 a8 a9).2)
noncomputable abbrev C2M (r:LT2):AV×List AObj:=((.t true tq6 r),[])
noncomputable abbrev B7O:H5 B0Y→AV×List AObj:=fun d=>C2M (B5r d.1.1 d.1.2.1 d.1.2.2.1 d.1.2.2.2.1 d.1.2.2.2.2.1 d.1.2.2.2.2.2.1 d.2.1.1 d.2.1.2.1 d.2.1.2.2.1 d.2.1.2.2.2.1)
noncomputable def A74 (a0 a1 a2:Int) (a3:LT1) (a4:LIbe) (a5 a6:Int) (a7:Lq1) (a8:Int) (a9:List Int):Bool:=(N2 a7 a0)&&((A9T a0 a1 a2 a3 a4 a5 a6 a7 a8 a9).1==0)
noncomputable abbrev B4m:H5 B0Y→Bool:=fun d=>A74 d.1.1 d.1.2.1 d.1.2.2.1 d.1.2.2.2.1 d.1.2.2.2.2.1 d.1.2.2.2.2.2.1 d.2.1.1 d.2.1.2.1 d.2.1.2.2.1 d.2.1.2.2.2.1
noncomputable abbrev C7A:Nat→St→Option Tree:=fun b=>match b with | 0=>B6Y | _=>fun _=>none
theorem C5N:A7h true G30 (C7A) Try.f126 B0Y B4m B7O:=by
 rintro ⟨⟨a0,⟨a1,⟨a2,⟨a3,⟨a4,⟨a5,_⟩⟩⟩⟩⟩⟩,⟨⟨a6,⟨a7,⟨a8,⟨a9,_⟩⟩⟩⟩,_⟩⟩ hp
 change A74 a0 a1 a2 a3 a4 a5 a6 a7 a8 a9=true at hp
 unfold A74 at hp
 refine Eq.trans (b:=(let z1:=A9T a0 a1 a2 a3 a4 a5 a6 a7 a8 a9;cond (N2 a7 a0) (cond (z1.1==0) (some (C2M (z1.2))) none) none)) (by kernel_rfl) ?_
 exact (A7i hp fun hp=>(A7k hp fun _h=>rfl))
theorem C7V:aPP 126 (A2T B0Y B4m B7O):=pcD true G30 (hl1 (i:=0) (by kernel_rfl) C4l) C5N
noncomputable def S31:Tab:=Tab.add S30 126 (lift (A2T B0Y B4m B7O))
noncomputable def D2m:FuncId→Bool:=qadd D2l 126
theorem G31:aPG S31 D2m:=G30.addQ C7V (cbl Try.f126) (fun _=>rfl)

abbrev D1o:List Sh:=.junk::.junk::D3m
abbrev u51:=((),(),u49)
abbrev D1k:List AV:=.junk::.junk::D3c
abbrev B0Z:List PSh:=[.agg [(.int .i64),(.int .i64),(.int .i64),tq2,tq5,(.int .i64)],.agg [(.int .i64),tq4,(.int .i64),M9]]
abbrev O2:SS:=⟨(.junk::.junk::.junk::.ptr 0 0 1 0::.junk::.all 1 5::.t true .bool::.t true .bool::.t true M9::tI::D1n),[.box [tI,.t false tq4,tI,.t false M9],.rows 58 true tq3]⟩
abbrev B1l:SS:=⟨(.junk::.junk::.junk::.junk::.junk::.all 0 5::D1o),[.rows 58 true tq3]⟩
noncomputable def B8M (x6 x7:Bool) (x8:List Int) (x9 p0:Int) (p1:Lq1) (p2:Int) (p3:List Int) (h1:LT2):RT O2.den:=(.br (decide (x9<(x8.length:Int))) (.br x7 (.br (decide (0≤x9∧x9<(x8.length:Int))) (.br (decide ((h1.length+([((3:Int),(x8.getD x9.toNat (0:Int),(p0,([],x6))))]:LT2).length)*56≤MAXB)) (.next (((),(),(),(),(),(),x6,x7,x8,wI (x9+(1:Int)),u41),((p0,p1,p2,p3,()),h1++([((3:Int),(x8.getD x9.toNat (0:Int),(p0,([],x6))))]),()))) .fail) .fail) (.done (.exit 0) B1l ((u51),(h1,())))) (.done (.exit 0) B1l ((u51),(h1,()))))
abbrev A0l:=(Bool)×(Bool)×(List Int)×(Int)×LT2
abbrev W0:=Nat×LT2
def B2Y:W0:=(99,([]:LT2))
noncomputable def U0 (x6 x7:Bool) (x8:List Int) (x9 p0:Int) (p1:Lq1) (p2:Int) (p3:List Int) (h1:LT2):A0l ⊕ W0:=(cond (decide (x9<(x8.length:Int))) (cond x7 (cond (decide (0≤x9∧x9<(x8.length:Int))) (cond (decide ((h1.length+([((3:Int),(x8.getD x9.toNat (0:Int),(p0,([],x6))))]:LT2).length)*56≤MAXB)) (.inl (x6,x7,x8,wI (x9+(1:Int)),h1++([((3:Int),(x8.getD x9.toNat (0:Int),(p0,([],x6))))]))) (.inr B2Y)) (.inr B2Y)) (.inr (0,h1))) (.inr (0,h1)))
noncomputable def B23 (x6 x7:Bool) (x8:List Int) (x9 p0:Int) (p1:Lq1) (p2:Int) (p3:List Int) (h1:LT2):W0:=itX (fun v:A0l=>U0 v.1 v.2.1 v.2.2.1 v.2.2.2.1 p0 p1 p2 p3 v.2.2.2.2) B2Y (x6,x7,x8,x9,h1)
noncomputable def B2V (p0:Int) (p1:Lq1) (p2:Int) (p3:List Int) (a:W0):CT:=(.br (a.1==0) (.done (.exit 0) B1l ((u51),(a.2,()))) .fail)
noncomputable def C5d (x6 x7:Bool) (x8:List Int) (x9 p0:Int) (p1:Lq1) (p2:Int) (p3:List Int) (h1:LT2):CT:=(B2V p0 p1 p2 p3) (B23 x6 x7 x8 x9 p0 p1 p2 p3 h1)
noncomputable abbrev A9A {α:Sort _} (f:Bool→Bool→(List Int)→Int→Int→Lq1→Int→(List Int)→LT2→α) (d:O2.den):α:=f d.1.2.2.2.2.2.2.1 d.1.2.2.2.2.2.2.2.1 d.1.2.2.2.2.2.2.2.2.1 d.1.2.2.2.2.2.2.2.2.2.1 d.2.1.1 d.2.1.2.1 d.2.1.2.2.1 d.2.1.2.2.2.1 d.2.2.1
noncomputable abbrev B3r:O2.den→RT O2.den:=(A9A B8M)
noncomputable def B4Y:Code:=((D3 0 (A1f Try.f112)).getD 0 (0,.skip)).2
noncomputable abbrev B8h (p0:Int) (p1:Lq1) (p2:Int) (p3:List Int) (v:A0l):O2.den:=(((),(),(),(),(),(),v.1,v.2.1,v.2.2.1,v.2.2.2.1,u41),((p0,p1,p2,p3,()),v.2.2.2.2,()))
theorem C4P (p0:Int) (p1:Lq1) (p2:Int) (p3:List Int):(∀ v:A0l,(B8M v.1 v.2.1 v.2.2.1 v.2.2.2.1 p0 p1 p2 p3 v.2.2.2.2).val=A6l (B8h p0 p1 p2 p3) (B2V p0 p1 p2 p3) (U0 v.1 v.2.1 v.2.2.1 v.2.2.2.1 p0 p1 p2 p3 v.2.2.2.2))∧∀ a:W0,CEnd O2.den ((B2V p0 p1 p2 p3) a):=⟨fun v=>(A7m (A7m (A7m (A7m rfl rfl) rfl) rfl) rfl),fun a=>(A7a aCD A7c)⟩
noncomputable def B7X (x6 x7:Bool) (x8:List Int) (x9 p0:Int) (p1:Lq1) (p2:Int) (p3:List Int) (h1:LT2):Option (Ex×St):=let z1:=(⟨(.junk::.junk::.junk::.junk::.junk::(.all 0 5)::D1k),[(.rows 58 true tq3 h1)],0,[]⟩:St);(cond (decide (x9<(x8.length:Int))) (cond x7 (cond (decide (0≤x9∧x9<(x8.length:Int))) (cond (decide ((h1.length+([((3:Int),(x8.getD x9.toNat (0:Int),(p0,([],x6))))]:LT2).length)*56≤MAXB)) (some (.normal,(⟨(.junk::.junk::.junk::(.ptr 0 0 1 0)::.junk::(.all 1 5)::(.t true .bool x6)::(.t true .bool x7)::(.t true M9 x8)::(ti (wI (x9+(1:Int))))::D0P),[(.box [(ti p0),(.t false tq4 p1),(ti p2),(.t false M9 p3)]),(.rows 58 true tq3 (h1++([((3:Int),(x8.getD x9.toNat (0:Int),(p0,([],x6))))])))],0,[]⟩:St))) none) none) (some ((.exit 0),z1))) (some ((.exit 0),z1)))
theorem C3y:RdA G31 aLn 0 B4Y O2 0 [] (kepts [] [(0,[5])]) (A9A B7X):=by
 intro d
 kernel_rfl
theorem C3C:∀ d:O2.den,(A9A B7X) d=(B3r d).opt 0 []:=by
 intro d
 kernel_rfl
noncomputable abbrev B6Z:St→Option Tree:=O2.say 0 [] [] (A9A C5d)
theorem C4m:aPL B6Z B4Y:=SS.wp2 hlz [] B3r C3y C3C _ (fun d=>Runs.ofI2 (step:=B3r) (B8h d.2.1.1 d.2.1.2.1 d.2.1.2.2.1 d.2.1.2.2.2.1) (C4P d.2.1.1 d.2.1.2.1 d.2.1.2.2.1 d.2.1.2.2.2.1) rfl (d.1.2.2.2.2.2.2.1,d.1.2.2.2.2.2.2.2.1,d.1.2.2.2.2.2.2.2.2.1,d.1.2.2.2.2.2.2.2.2.2.1,d.2.2.1))
noncomputable def A9V (a0 a1 a2:Int) (a3:LT1) (a4:LIbe) (a5 a6:Int) (a7:Lq1) (a8:Int) (a9:List Int):=let z1:=B3m a0 a1 a2 a3 a4 a5 a6;B23 (z1.1) (z1.2) (H8 a7 a0) (0:Int) a6 a7 a8 a9 ([]:LT2)
noncomputable def B5s (a0 a1 a2:Int) (a3:LT1) (a4:LIbe) (a5 a6:Int) (a7:Lq1) (a8:Int) (a9:List Int):LT2:=(cond (a8==(1:Int)) (B5r a0 a1 a2 a3 a4 a5 a6 a7 a8 a9) ((A9V a0 a1 a2 a3 a4 a5 a6 a7 a8 a9).2))
noncomputable abbrev B3K (r:LT2):AV×List AObj:=((.t true tq6 r),[])
noncomputable abbrev B7P:H5 B0Z→AV×List AObj:=fun d=>B3K (B5s d.1.1 d.1.2.1 d.1.2.2.1 d.1.2.2.2.1 d.1.2.2.2.2.1 d.1.2.2.2.2.2.1 d.2.1.1 d.2.1.2.1 d.2.1.2.2.1 d.2.1.2.2.2.1)
noncomputable def Y1 (a0 a1 a2:Int) (a3:LT1) (a4:LIbe) (a5 a6:Int) (a7:Lq1) (a8:Int) (a9:List Int):Bool:=(V8 a0 a1 a2 a3 a4 a5 a6)&&(cond (a8==(1:Int)) (A74 a0 a1 a2 a3 a4 a5 a6 a7 a8 a9) ((N2 a7 a0)&&((A9V a0 a1 a2 a3 a4 a5 a6 a7 a8 a9).1==0)))
noncomputable abbrev B4n:H5 B0Z→Bool:=fun d=>Y1 d.1.1 d.1.2.1 d.1.2.2.1 d.1.2.2.2.1 d.1.2.2.2.2.1 d.1.2.2.2.2.2.1 d.2.1.1 d.2.1.2.1 d.2.1.2.2.1 d.2.1.2.2.2.1
noncomputable abbrev C7B:Nat→St→Option Tree:=fun b=>match b with | 0=>B6Z | _=>fun _=>none
theorem C5O:A7h true G31 (C7B) Try.f112 B0Z B4n B7P:=by
 rintro ⟨⟨a0,⟨a1,⟨a2,⟨a3,⟨a4,⟨a5,_⟩⟩⟩⟩⟩⟩,⟨⟨a6,⟨a7,⟨a8,⟨a9,_⟩⟩⟩⟩,_⟩⟩ hp
 change Y1 a0 a1 a2 a3 a4 a5 a6 a7 a8 a9=true at hp
 unfold Y1 at hp
 refine Eq.trans (b:=(let z1:=A9V a0 a1 a2 a3 a4 a5 a6 a7 a8 a9;cond (V8 a0 a1 a2 a3 a4 a5 a6) (cond (a8==(1:Int)) (cond (A74 a0 a1 a2 a3 a4 a5 a6 a7 a8 a9) (some (B3K (B5r a0 a1 a2 a3 a4 a5 a6 a7 a8 a9))) none) (cond (N2 a7 a0) (cond (z1.1==0) (some (B3K (z1.2))) none) none)) none)) (by kernel_rfl) ?_
 exact (A7i hp fun hp=>(K8 B3K hp (fun hp=>(A7k hp fun _h=>rfl)) (fun hp=>(A7i hp fun hp=>(A7k hp fun _h=>rfl)))))
theorem C7W:aPP 112 (A2T B0Z B4n B7P):=pcD true G31 (hl1 (i:=0) (by kernel_rfl) C4m) C5O
noncomputable def S32:Tab:=Tab.add S31 112 (lift (A2T B0Z B4n B7P))
noncomputable def D2n:FuncId→Bool:=qadd D2m 112
theorem G32:aPG S32 D2n:=G31.addQ C7W (cbl Try.f112) (fun _=>rfl)

abbrev A8r:List PSh:=[.agg [(.int .i64),(.int .i64),(.int .i64),tq2,tq5,(.int .i64)]]
abbrev N0:SS:=⟨(.junk::.ptr 0 0 1 0::.junk::.all 1 5::tI::C6I),[.box [tI,tI,tI,.t false tq2,.t false tq5,tI],.rows 58 true tq3]⟩
abbrev B3w:SS:=⟨(.junk::.junk::.junk::.all 0 5::D0R),[.rows 58 true tq3]⟩
noncomputable def A9U (x4 p0 p1 p2:Int) (p3:LT1) (p4:LIbe) (p5:Int):=let z1:=p3.getD x4.toNat ((0:Int),([],((0:Int),[])));B5s p0 p1 p2 p3 p4 p5 (z1.1) ((z1.2).1) (((z1.2).2).1) (((z1.2).2).2)
noncomputable def B5t (x4 p0 p1 p2:Int) (p3:LT1) (p4:LIbe) (p5:Int) (h1:LT2):RT N0.den:=let z1:=p3.getD x4.toNat ((0:Int),([],((0:Int),[])));let z2:=A9U x4 p0 p1 p2 p3 p4 p5;(.br (decide (x4<(p3.length:Int))) (.br (decide (0≤x4∧x4<(p3.length:Int))) (.br (Y1 p0 p1 p2 p3 p4 p5 (z1.1) ((z1.2).1) (((z1.2).2).1) (((z1.2).2).2)) (.br (decide ((h1.length+z2.length)*56≤MAXB)) (.next (((),(),(),(),wI (x4+(1:Int)),u19),((p0,p1,p2,p3,p4,p5,()),h1++z2,()))) .fail) .fail) .fail) (.done (.exit 0) B3w ((u24),(h1,()))))
abbrev A0a:=(Int)×LT2
abbrev U2:=Nat×LT2
def A8c:U2:=(99,([]:LT2))
noncomputable def X5 (x4 p0 p1 p2:Int) (p3:LT1) (p4:LIbe) (p5:Int) (h1:LT2):A0a ⊕ U2:=let z1:=p3.getD x4.toNat ((0:Int),([],((0:Int),[])));let z2:=A9U x4 p0 p1 p2 p3 p4 p5;(cond (decide (x4<(p3.length:Int))) (cond (decide (0≤x4∧x4<(p3.length:Int))) (cond (Y1 p0 p1 p2 p3 p4 p5 (z1.1) ((z1.2).1) (((z1.2).2).1) (((z1.2).2).2)) (cond (decide ((h1.length+z2.length)*56≤MAXB)) (.inl (wI (x4+(1:Int)),h1++z2)) (.inr A8c)) (.inr A8c)) (.inr A8c)) (.inr (0,h1)))
noncomputable def B46 (x4 p0 p1 p2:Int) (p3:LT1) (p4:LIbe) (p5:Int) (h1:LT2):U2:=itX (fun v:A0a=>X5 v.1 p0 p1 p2 p3 p4 p5 v.2) A8c (x4,h1)
noncomputable def B0o (p0 p1 p2:Int) (p3:LT1) (p4:LIbe) (p5:Int) (a:U2):CT:=(.br (a.1==0) (.done (.exit 0) B3w ((u24),(a.2,()))) .fail)
noncomputable def C3g (x4 p0 p1 p2:Int) (p3:LT1) (p4:LIbe) (p5:Int) (h1:LT2):CT:=(B0o p0 p1 p2 p3 p4 p5) (B46 x4 p0 p1 p2 p3 p4 p5 h1)
noncomputable abbrev B4R {α:Sort _} (f:Int→Int→Int→Int→LT1→LIbe→Int→LT2→α) (d:N0.den):α:=f d.1.2.2.2.2.1 d.2.1.1 d.2.1.2.1 d.2.1.2.2.1 d.2.1.2.2.2.1 d.2.1.2.2.2.2.1 d.2.1.2.2.2.2.2.1 d.2.2.1
noncomputable abbrev B0B:N0.den→RT N0.den:=(B4R B5t)
noncomputable def B2P:Code:=((D3 0 (A1f Try.f74)).getD 0 (0,.skip)).2
noncomputable abbrev B5e (p0 p1 p2:Int) (p3:LT1) (p4:LIbe) (p5:Int) (v:A0a):N0.den:=(((),(),(),(),v.1,u19),((p0,p1,p2,p3,p4,p5,()),v.2,()))
theorem C2B (p0 p1 p2:Int) (p3:LT1) (p4:LIbe) (p5:Int):(∀ v:A0a,(B5t v.1 p0 p1 p2 p3 p4 p5 v.2).val=A6l (B5e p0 p1 p2 p3 p4 p5) (B0o p0 p1 p2 p3 p4 p5) (X5 v.1 p0 p1 p2 p3 p4 p5 v.2))∧∀ a:U2,CEnd N0.den ((B0o p0 p1 p2 p3 p4 p5) a):=⟨fun v=>(A7m (A7m (A7m (A7m rfl rfl) rfl) rfl) rfl),fun a=>(A7a aCD A7c)⟩
theorem C1H:RdA G32 aLn 0 B2P N0 0 [] (kepts [] [(0,[3])]) (fun d=>(B0B d).opt 0 []):=by
 intro d
 kernel_rfl
noncomputable abbrev B33:St→Option Tree:=N0.say 0 [] [] (B4R C3g)
theorem C2k:aPL B33 B2P:=SS.wp2 hlz [] B0B C1H (fun d=>rfl) _ (fun d=>Runs.ofI2 (step:=B0B) (B5e d.2.1.1 d.2.1.2.1 d.2.1.2.2.1 d.2.1.2.2.2.1 d.2.1.2.2.2.2.1 d.2.1.2.2.2.2.2.1) (C2B d.2.1.1 d.2.1.2.1 d.2.1.2.2.1 d.2.1.2.2.2.1 d.2.1.2.2.2.2.1 d.2.1.2.2.2.2.2.1) rfl (d.1.2.2.2.2.1,d.2.2.1))
noncomputable def A9X (a0 a1 a2:Int) (a3:LT1) (a4:LIbe) (a5:Int):=B46 (0:Int) a0 a1 a2 a3 a4 a5 ([]:LT2)
noncomputable def B1e (a0 a1 a2:Int) (a3:LT1) (a4:LIbe) (a5:Int):LT2:=((A9X a0 a1 a2 a3 a4 a5).2)
noncomputable abbrev B9x (r:LT2):AV×List AObj:=((.t true tq6 r),[])
noncomputable abbrev B4f:H5 A8r→AV×List AObj:=fun d=>B9x (B1e d.1.1 d.1.2.1 d.1.2.2.1 d.1.2.2.2.1 d.1.2.2.2.2.1 d.1.2.2.2.2.2.1)
noncomputable def W3 (a0 a1 a2:Int) (a3:LT1) (a4:LIbe) (a5:Int):Bool:=((A9X a0 a1 a2 a3 a4 a5).1==0)
noncomputable abbrev B1v:H5 A8r→Bool:=fun d=>W3 d.1.1 d.1.2.1 d.1.2.2.1 d.1.2.2.2.1 d.1.2.2.2.2.1 d.1.2.2.2.2.2.1
noncomputable abbrev C46:Nat→St→Option Tree:=fun b=>match b with | 0=>B33 | _=>fun _=>none
theorem C3H:A7h true G32 (C46) Try.f74 A8r B1v B4f:=by
 rintro ⟨⟨a0,⟨a1,⟨a2,⟨a3,⟨a4,⟨a5,_⟩⟩⟩⟩⟩⟩,_⟩ hp
 change W3 a0 a1 a2 a3 a4 a5=true at hp
 unfold W3 at hp
 refine Eq.trans (b:=(let z1:=A9X a0 a1 a2 a3 a4 a5;cond (z1.1==0) (some (B9x (z1.2))) none)) (by kernel_rfl) ?_
 exact (A7k hp fun _h=>rfl)
theorem C5f:aPP 74 (A2T A8r B1v B4f):=pcD true G32 (hl1 (i:=0) (by kernel_rfl) C2k) C3H
noncomputable def S33:Tab:=Tab.add S32 74 (lift (A2T A8r B1v B4f))
noncomputable def D2o:FuncId→Bool:=qadd D2n 74
theorem G33:aPG S33 D2o:=G32.addQ C5f (cbl Try.f74) (fun _=>rfl)

abbrev B2G:List PSh:=[.agg [(.int .i64),(.int .i64),(.int .i64),tq2,tq5,(.int .i64)]]
noncomputable def B8s (a0 a1 a2:Int) (a3:LT1) (a4:LIbe) (a5:Int):LT2:=(cond (!(B3i a0 a1 a2 a3 a4 a5)) ([]:LT2) (B1e a0 a1 a2 a3 a4 a5))
noncomputable abbrev B5N (r:LT2):AV×List AObj:=((.t true tq6 r),[])
noncomputable abbrev C0o:H5 B2G→AV×List AObj:=fun d=>B5N (B8s d.1.1 d.1.2.1 d.1.2.2.1 d.1.2.2.2.1 d.1.2.2.2.2.1 d.1.2.2.2.2.2.1)
noncomputable def A73 (a0 a1 a2:Int) (a3:LT1) (a4:LIbe) (a5:Int):Bool:=(A8Y a0 a1 a2 a3 a4 a5)&&(cond (!(B3i a0 a1 a2 a3 a4 a5)) true (W3 a0 a1 a2 a3 a4 a5))
noncomputable abbrev B6l:H5 B2G→Bool:=fun d=>A73 d.1.1 d.1.2.1 d.1.2.2.1 d.1.2.2.2.1 d.1.2.2.2.2.1 d.1.2.2.2.2.2.1
theorem C7q:A7h true G33 aLn Try.f32 B2G B6l C0o:=by
 rintro ⟨⟨a0,⟨a1,⟨a2,⟨a3,⟨a4,⟨a5,_⟩⟩⟩⟩⟩⟩,_⟩ hp
 change A73 a0 a1 a2 a3 a4 a5=true at hp
 unfold A73 at hp
 refine Eq.trans (b:=(cond (A8Y a0 a1 a2 a3 a4 a5) (cond (!(B3i a0 a1 a2 a3 a4 a5)) (some (B5N ([]:LT2))) (cond (W3 a0 a1 a2 a3 a4 a5) (some (B5N (B1e a0 a1 a2 a3 a4 a5))) none)) none)) (by kernel_rfl) ?_
 exact (A7i hp fun hp=>(K8 B5N hp (fun hp=>rfl) (fun hp=>(A7k hp fun _h=>rfl))))
theorem C87:aPP 32 (A2T B2G B6l C0o):=pcD true G33 hlz C7q
noncomputable def S34:Tab:=Tab.add S33 32 (lift (A2T B2G B6l C0o))
noncomputable def D2p:FuncId→Bool:=qadd D2o 32
theorem G34:aPG S34 D2p:=G33.addQ C87 (cbl Try.f32) (fun _=>rfl)

abbrev B2y:List PSh:=[.t (.int .i64),.t (.int .i64),.t (.int .i64)]
noncomputable def K1 (a0 a1 a2:Int):Bool:=(cond (decide (a0 ≥ a1)) (decide (a0≤a2)) false)
noncomputable abbrev B5K (r:Bool):AV×List AObj:=((.t true .bool r),[])
noncomputable abbrev C0g:H5 B2y→AV×List AObj:=fun d=>B5K (K1 d.1 d.2.1 d.2.2.1)
noncomputable abbrev B6c:H5 B2y→Bool:=fun d=>true
theorem C7h:A7h true G34 aLn Try.f47 B2y B6c C0g:=by
 rintro ⟨a0,⟨a1,⟨a2,_⟩⟩⟩ hp
 refine Eq.trans (b:=(cond (decide (a0 ≥ a1)) (some (B5K (decide (a0≤a2)))) (some (B5K false)))) (by kernel_rfl) ?_
 exact (N4 B5K (fun _h=>rfl) (fun _h=>rfl))
theorem C8Y:aPP 47 (A2T B2y B6c C0g):=pcD true G34 hlz C7h
noncomputable def S35:Tab:=Tab.add S34 47 (lift (A2T B2y B6c C0g))
noncomputable def D2q:FuncId→Bool:=qadd D2p 47
theorem G35:aPG S35 D2q:=G34.addQ C8Y (cbl Try.f47) (fun _=>rfl)

abbrev A78:SS:=⟨[.ptr 0 0 1 0],[.box [tI,tI,tI,.t false tq2,.t false tq5,tI]]⟩
noncomputable def A0n (p0 p1 p2:Int) (p3:LT1) (p4:LIbe) (p5:Int):Int:=(wI ((wI (p1*(1000:Int)))+p2))
noncomputable abbrev C3k (p0 p1 p2:Int) (p3:LT1) (p4:LIbe) (p5 r:Int):AV×List AObj×List Nat:=((ti r),[(.box [(ti p0),(ti p1),(ti p2),(.t false tq2 p3),(.t false tq5 p4),(ti p5)])],[])
noncomputable abbrev B6J:A78.den→AV×List AObj×List Nat:=fun d=>C3k d.2.1.1 d.2.1.2.1 d.2.1.2.2.1 d.2.1.2.2.2.1 d.2.1.2.2.2.2.1 d.2.1.2.2.2.2.2.1 (A0n d.2.1.1 d.2.1.2.1 d.2.1.2.2.1 d.2.1.2.2.2.1 d.2.1.2.2.2.2.1 d.2.1.2.2.2.2.2.1)
noncomputable abbrev B31:A78.den→Bool:=fun d=>true
theorem C1K:A7g G35 aLn Try.f48 A78 B31 B6J:=by
 rintro ⟨⟨_,_⟩,⟨⟨p0,p1,p2,p3,p4,p5,_⟩,_⟩⟩ hp
 kernel_rfl
noncomputable abbrev B6L:=winQ (msum A78 B31 B6J)
theorem C3j:aPM 48 B6L:=(mcM G35 hlz C1K).winQ (A6K fun d=>⟨rfl,rfl⟩)
noncomputable def S36:Tab:=Tab.add S35 48 (B6L)
noncomputable def D2r:FuncId→Bool:=qadd D2q 48
theorem G36:aPG S36 D2r:=G35.addMQ C3j (A6Q _) (cbl Try.f48) (A5u _)

abbrev U7:SS:=⟨[.agg [.t true (.int .i64),.t true .bool],.ptr 0 0 1 0],[.box [tI]]⟩
noncomputable def A9L (x0_0:Int) (x0_1:Bool) (p0:Int):Bool:=(x0_0==p0)
noncomputable abbrev B82 (p0:Int) (r:Bool):AV×List AObj×List Nat:=((.t true .bool r),[(.box [(ti p0)])],[])
noncomputable abbrev B1G:U7.den→AV×List AObj×List Nat:=fun d=>B82 d.2.1.1 (A9L d.1.1.1 d.1.1.2.1 d.2.1.1)
noncomputable abbrev B0g:U7.den→Bool:=fun d=>true
theorem B68:A7g G36 aLn Try.f92 U7 B0g B1G:=by
 rintro ⟨⟨⟨x0_0,x0_1,_⟩,_,_⟩,⟨⟨p0,_⟩,_⟩⟩ hp
 kernel_rfl
noncomputable abbrev B1I:=winQ (msum U7 B0g B1G)
theorem B81:aPM 92 B1I:=(mcM G36 hlz B68).winQ (A6K fun d=>⟨rfl,rfl⟩)
noncomputable def S37:Tab:=Tab.add S36 92 (B1I)
noncomputable def D2s:FuncId→Bool:=qadd D2r 92
theorem G37:aPG S37 D2s:=G36.addMQ B81 (A6Q _) (cbl Try.f92) (A5u _)


end Go.Proofs.Ytapikgcgahomlaa.Eng
