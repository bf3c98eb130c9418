/- What the functions that FnExactWorldOk reaches compute, and that it answers true. -/
import Derived.Test.YtcofibhklbfgoaaGreatT
import Derived.Test.YtcofibhklbfgoaaGreatRows
import Derived.Test.YtcofibhklbfgoaaGreatE39
import Derived.Shelf.Sort.Plain
import Derived.Shelf.Slices.In.SortNone
import Derived.Shelf.Slices.CompactI
import Derived.Test.YtcofibhklbfgoaaGreatE45
import Derived.Shelf.Spec.SlicesInsertGrow
namespace Go.Proofs.YtcofibhklbfgoaaGreat.Eng
open Go Go.RowKit
set_option linter.unusedSimpArgs false
set_option linter.unusedVariables false
set_option maxRecDepth 10000
abbrev bE:ByteArray:=⟨#[]⟩
abbrev Lq2:=List (Int×ByteArray×ByteArray)
abbrev tq7:Ty:=.sl (.pair (.int .i64) (.pair .str .str))
abbrev B4I:Ty:=.pair (.int .i64) (.pair (.int .i64) (.sl (.pair (.int .i64) (.pair .str .str))))
abbrev ti:=@AV.t true (.int .i64)
abbrev tI:Sh:=.t true (.int .i64)
abbrev LT1:=List (Int×(List (Int×ByteArray×ByteArray))×Int×List Int)
abbrev LT2:=List (Int×Int×Int×(List (Int×ByteArray×ByteArray))×Bool)
abbrev LT3:=List (Int×(List (Int×Int×List (Int×ByteArray×ByteArray)))×Int×(List (ByteArray×ByteArray))×(List (Int×Int×List (Int×ByteArray×ByteArray))))
abbrev aPG:=Good Tryz.prog tt
abbrev aPM:=MContract Tryz.prog
abbrev aPP:=PContract Tryz.prog
abbrev aPL:=F1 Tryz.prog
abbrev aLn:Nat→St→Option Tree:=fun _ _=>none
theorem aCD{D:Type}{e:Ex}{s:SS}{x:s.den}(h:e ≠ .normal:=by simp):CEnd D (.done e s x):=A6J h
noncomputable def S0:Tab:=fun _=>none
noncomputable def QF0:FuncId→Bool:=fun _=>false
theorem G0:aPG S0 QF0:=Good.start F6R (by kernel_rfl)
theorem Runs.ofI2 {D V A:Type} {step:D→RT D} (pk:V→D) {ss:V→V ⊕ A} {ct:A→CT} {fa:A} (h:(∀ v,(step (pk v)).val=A5T pk ct (ss v))∧∀ a,CEnd D (ct a)) (hf:(ct fa).val (D:=D)=.fail) (v:V):(ct (itX ss fa v)).val (D:=D)=.fail∨Runs step (pk v) (ct (itX ss fa v)).val:=Runs.ofIt pk hf h.1 h.2 v
theorem H7 {α β:Type} (e:α→β) {c q r:Bool} {X Y:Option β} {a b:α} (hq:cond c q r=true) (hx:q=true→X=some (e a)) (hy:r=true→Y=some (e b)):cond c X Y=some (e (cond c a b)):=A6S (F:=fun r=>some (e r)) hq hx hy
theorem L7 {α β:Type} (e:α→β) {c:Bool} {X Y:Option β} {a b:α} (hx:c=true→X=some (e a)) (hy:c=false→Y=some (e b)):cond c X Y=some (e (cond c a b)):=cnd (F:=fun r=>some (e r)) hx hy
theorem hlz {L:Nat→St→Option Tree} {b:Nat} {x:Code} (h:C4 b x=[]:=by kernel_rfl):∀ p∈C4 b x,aPL (L p.1) p.2:=hl0 h
theorem cbl {f : FuncId} (F : Func) (h1 : Tryz.prog.funcs[f]? = some F := by kernel_rfl) (h2 : (F.name == "runtime.NumGoroutine") = false := by kernel_rfl) (h3 : F.body.isNone = false := by kernel_rfl) : Callable Tryz.prog f := ⟨F, h1, h2, h3⟩
theorem pcD (ro:Bool) {S:Tab} {Q:FuncId→Bool} (G:aPG S Q) {f:FuncId} {fn:Func} {L:Nat→St→Option Tree} (hL:∀ p∈C4 0 (A0y fn),aPL (L p.1) p.2) {l:List PSh} {pre:F5 l→Bool} {g:F5 l→AV×List AObj} (h:A6Q ro G L fn l pre g) (hf:Tryz.prog.funcs[f]? = some fn:=by kernel_rfl):aPP f (A2z l pre g):=PContract.of_data ro G hf hL l pre g h
theorem mcM {S:Tab} {Q:FuncId→Bool} (G:aPG S Q) {f:FuncId} {fn:Func} {L:Nat→St→Option Tree} (hL:∀ p∈C4 0 (A0y fn),aPL (L p.1) p.2) {s:SS} {pre:s.den→Bool} {g:s.den→AV×List AObj×List Nat} (h:A6P G L fn s pre g) (hf:Tryz.prog.funcs[f]? = some fn:=by kernel_rfl):aPM f (msum s pre g):=MContract.of_data G hf hL s pre g h
theorem G0A (dl:List AV) {S:Tab} {Q:FuncId→Bool} (G:aPG S Q) {f:FuncId} {fn:Func} {L:Nat→St→Option Tree} (hL:∀ p∈C4 0 (A0y fn),aPL (L p.1) p.2) {s:SS} {pre:s.den→Bool} {g:s.den→AV×List AObj×List Nat} (h:A6z dl G L fn s pre g) (hf:Tryz.prog.funcs[f]? = some fn:=by kernel_rfl):aPM f (msum s pre g):=MContract.of_dataRD dl G hf hL s pre g h
theorem mcE (mr:Bool) (dl:List AV) (kx:List Nat) (nb:List (Nat×Nat×Nat×TypeId×Ty)) {S:Tab} {Q:FuncId→Bool} (G:aPG S Q) {f:FuncId} {fn:Func} {L:Nat→St→Option Tree} (hL:∀ p∈C4 0 (A0y fn),aPL (L p.1) p.2) {s:SS} {pre:s.den→Bool} {g:s.den→AV×List AObj×List Nat} (h:A6O mr dl kx nb G L fn s pre g) (hf:Tryz.prog.funcs[f]? = some fn:=by kernel_rfl):aPM f (msum s pre g):=MContract.of_dataE mr dl kx nb G hf hL s pre g h
theorem E6j:∀ a b:List UInt8,(!(Op.bytesLess a b))=(Op.bytesLess b a||b==a):=by
 intro a
 induction a with
 | nil=>intro b;cases b<;>simp [Op.bytesLess]
 | cons x a ih =>
  intro b
  cases b with
  | nil=>simp [Op.bytesLess]
  | cons y b =>
   simp only [Op.bytesLess]
   by_cases h1:x<y
   ·have h2:¬ y<x:=fun h=>UInt8.lt_irrefl _ (UInt8.lt_trans h1 h)
    have h3:(y==x)=false:=by rw [beq_eq_false_iff_ne];intro h;subst h;exact h2 h1
    have h4:(y::b==x::a)=false:=by rw [List.cons_beq_cons,h3,Bool.false_and]
    simp [h1,h2,h3,h4]
   ·by_cases h5:x=y
    ·subst h5
     have h6:(x::b==x::a)=(b==a):=by rw [List.cons_beq_cons];simp
     have:=ih b
     simp only [h1,decide_false,Bool.false_or,beq_self_eq_true,Bool.true_and,h6,this]
    ·have h7 : y < x := by
      rcases Nat.lt_trichotomy x.toNat y.toNat with h | h | h
      ·exact absurd (UInt8.lt_iff_toNat_lt.2 h) h1
      ·exact absurd (UInt8.toNat_inj.1 h) h5
      ·exact UInt8.lt_iff_toNat_lt.2 h
     have h8:(x==y)=false:=by rw [beq_eq_false_iff_ne];exact h5
     simp [h1,h7,h8]
theorem E2f {p q:Nat→Bool}:∀ k i,(∀ j,i≤j→j<i+k→p j=q j)→A4a p k i=A4a q k i:=by
 intro k
 induction k with
 | zero=>intro i h;rfl
 | succ k ih=>intro i h;simp only [A4a];rw [h i (Nat.le_refl _) (by omega),ih (i+1) (fun j h1 h2=>h j (by omega) (by omega))]
theorem D3f {p:Nat→Bool} (k i:Nat) (h:∀ j,i≤j→j<i+k→p j=true):A4a p k i=true:=(A6q k i).2 h
theorem F2A {f:Nat→Int→Int} {Q:Nat→Prop} {M:Int}:∀ (k i:Nat) (b:Int),(∀ j b,i≤j→j<i+k→0≤b→b≤M→0≤f j b→Q j∧f j b≤b)→0≤b→b≤M→A6L (szN f k i b)=true →
  (∀ j,i≤j→j<i+k→Q j)∧0≤A6C (-1) (szN f k i b)∧A6C (-1) (szN f k i b)≤b:=by
 intro k
 induction k with
 | zero=>intro i b hf h1 h2 h3;exact ⟨fun j hj hk=>by omega,h1,Int.le_refl _⟩
 | succ k ih =>
  intro i b hf h1 h2 h3
  have e:szN f (k+1) i b=cond (decide (f i b<0)) (.inr ()) (szN f k (i+1) (f i b)):=by
   simp only [szN,loopN]
   cases decide (f i b<0)<;>rfl
  rw [e] at h3 ⊢
  cases hd:decide (f i b<0) with
  | true=>rw [hd] at h3;cases h3
  | false =>
   rw [hd] at h3
   simp only [cond_false] at h3 ⊢
   have h0:0≤f i b:=by have:=of_decide_eq_false hd;omega
   obtain ⟨q1,q2⟩:=hf i b (Nat.le_refl _) (by omega) h1 h2 h0
   obtain ⟨r1,r2,r3⟩:=ih (i+1) (f i b) (fun j b hj hk=>hf j b (by omega) (by omega)) h0 (by omega) h3
   refine ⟨fun j hj hk=>?_,r2,by omega⟩
   by_cases ej:j=i
   ·exact ej ▸ q1
   ·exact r1 j (by omega) (by omega)
noncomputable def dOp:Int×ByteArray×ByteArray:=((0:Int),(bE,bE))
noncomputable def F5W (o:Int×ByteArray×ByteArray):Bool:=okS o.2.1&&okS o.2.2
noncomputable def Q9 (l:Lq2):Bool:=okL l&&l.all F5W
theorem E9W {l:Lq2} (h:Q9 l=true) (i:Nat) (hi:i<l.length):okS (l.getD i dOp).2.1=true∧okS (l.getD i dOp).2.2=true:=by
 simp only [Q9,Bool.and_eq_true,List.all_eq_true] at h
 have:=h.2 (l.getD i dOp) (by simp [List.getD_eq_getElem?_getD,hi])
 simpa [F5W] using this
theorem A7a {l:Lq2} (h:Q9 l=true):l.length≤1048576:=by
 simp only [Q9,Bool.and_eq_true] at h
 exact A6E h.1
noncomputable def D7c (s:ByteArray):Bool:=decide (s.size≤9223372036854775807)
noncomputable def C4y (l:Lq2):Bool:=decide (l.length≤9223372036854775807)&&l.all (fun o=>D7c o.2.1&&D7c o.2.2)
theorem F2W {l:Lq2} (h:C4y l=true) (i:Nat) (hi:i<l.length):D7c (l.getD i dOp).2.1=true∧D7c (l.getD i dOp).2.2=true:=by
 simp only [C4y,Bool.and_eq_true,List.all_eq_true] at h
 exact h.2 (l.getD i dOp) (by simp [List.getD_eq_getElem?_getD,hi])
theorem F4T {l:Lq2} (h1:l.length≤1048576) (h2:∀ i,i<l.length→okS (l.getD i dOp).2.1=true∧okS (l.getD i dOp).2.2=true):Q9 l=true:=by
 simp only [Q9,okL,Bool.and_eq_true,decide_eq_true_eq,List.all_eq_true]
 refine ⟨h1,fun o ho=>?_⟩
 obtain ⟨i,hi,rfl⟩:=List.getElem_of_mem ho
 have:=h2 i hi
 simp only [List.getD_eq_getElem?_getD,List.getElem?_eq_getElem hi,Option.getD_some] at this
 simp [F5W,this.1,this.2]
theorem F1a (a b:ByteArray):(a.toList==b.toList)=decide (a=b):=by
 rw [ByteArray.toList_eq,ByteArray.toList_eq]
 by_cases h:a=b
 ·subst h;simp
 ·rw [decide_eq_false h,beq_eq_false_iff_ne]
  intro e
  exact h (by cases a;cases b;simp at e;rw [e])
theorem E2i {l:Lq2} (h:C4y l=true):l.length≤9223372036854775807:=by
 simp only [C4y,Bool.and_eq_true,decide_eq_true_eq] at h;exact h.1
theorem D3A {l:Lq2} (h:Q9 l=true):okL l=true:=by
 simp only [Q9,Bool.and_eq_true] at h;exact h.1
theorem E5H {l:Lq2} (h:A2C tq7 l=true):C4y l=true:=by
 have h:(decide (l.length≤maxLen)&&l.all fun o=>(Lit.int .i64 o.1).wf&&(decide (o.2.1.size≤maxLen)&&decide (o.2.2.size≤maxLen)))=true:=h
 have hm:maxLen=9223372036854775807:=by decide
 rw [hm] at h
 simp only [Bool.and_eq_true,decide_eq_true_eq,List.all_eq_true] at h
 simp only [C4y,D7c,Bool.and_eq_true,decide_eq_true_eq,List.all_eq_true]
 exact ⟨h.1,fun o ho=>(h.2 o ho).2⟩
theorem F3y {l:Lq2} (h:Q9 l=true):∀ o∈l,o.2.1.size≤1048576∧o.2.2.size≤1048576:=by
 intro o ho
 simp only [Q9,Bool.and_eq_true,List.all_eq_true] at h
 have:=h.2 o ho
 simpa [F5W,okS] using this
noncomputable def E6U:Go.Shelf.Ren:=⟨fun | 189=>130 | 125=>171 | 257=>170 | 128=>194 | 129=>195 | 294=>185 | 295=>186 | 296=>187 | 297=>188 | 298=>189 | 299=>190 | 216=>191 | 300=>192 | 301=>193 | 328=>201 | 329=>202 | 330=>203 | 331=>204 | 332=>205 | 215=>206 | 343=>211 | n=>n,fun | 28=>35 | 3=>3 | 46=>181 | 0=>0 | 51=>240 | 53=>252 | 4=>4 | 183=>243 | 182=>242 | 131=>248 | 5=>5 | 9=>9 | 218=>258 | 222=>262 | 228=>266 | 229=>267 | n=>n,fun n=>n⟩
theorem E9H:Go.Proofs.Lays.n189 Tryz.prog E6U where
 mixed:=by kernel_rfl
 f125:=Tryz.func171.trans (congrArg some (by kernel_rfl))
 f128:=Tryz.func194.trans (congrArg some (by kernel_rfl))
 f129:=Tryz.func195.trans (congrArg some (by kernel_rfl))
 f189:=Tryz.func130.trans (congrArg some (by kernel_rfl))
 f215:=Tryz.func206.trans (congrArg some (by kernel_rfl))
 f216:=Tryz.func191.trans (congrArg some (by kernel_rfl))
 f257:=Tryz.func170.trans (congrArg some (by kernel_rfl))
 f294:=Tryz.func185.trans (congrArg some (by kernel_rfl))
 f295:=Tryz.func186.trans (congrArg some (by kernel_rfl))
 f296:=Tryz.func187.trans (congrArg some (by kernel_rfl))
 f297:=Tryz.func188.trans (congrArg some (by kernel_rfl))
 f298:=Tryz.func189.trans (congrArg some (by kernel_rfl))
 f299:=Tryz.func190.trans (congrArg some (by kernel_rfl))
 f300:=Tryz.func192.trans (congrArg some (by kernel_rfl))
 f301:=Tryz.func193.trans (congrArg some (by kernel_rfl))
 f328:=Tryz.func201.trans (congrArg some (by kernel_rfl))
 f329:=Tryz.func202.trans (congrArg some (by kernel_rfl))
 f330:=Tryz.func203.trans (congrArg some (by kernel_rfl))
 f331:=Tryz.func204.trans (congrArg some (by kernel_rfl))
 f332:=Tryz.func205.trans (congrArg some (by kernel_rfl))
 f343:=Tryz.func211.trans (congrArg some (by kernel_rfl))
 t0:=Tryz.underlying0
 a0:=Tryz.isAgg0
 z0:=Tryz.sizeOf0
 v0:=Tryz.zeroValue0
 t3:=Tryz.underlying3
 a3:=Tryz.isAgg3
 z3:=Tryz.sizeOf3
 v3:=Tryz.zeroValue3
 t4:=Tryz.underlying4
 a4:=Tryz.isAgg4
 z4:=Tryz.sizeOf4
 v4:=Tryz.zeroValue4
 t5:=Tryz.underlying5
 a5:=Tryz.isAgg5
 z5:=Tryz.sizeOf5
 v5:=Tryz.zeroValue5
 t9:=Tryz.underlying9
 a9:=Tryz.isAgg9
 z9:=Tryz.sizeOf9
 v9:=Tryz.zeroValue9
 t28:=Tryz.underlying35
 a28:=Tryz.isAgg35
 z28:=Tryz.sizeOf35
 v28:=Tryz.zeroValue35
 t46:=Tryz.underlying181
 a46:=Tryz.isAgg181
 z46:=Tryz.sizeOf181
 v46:=Tryz.zeroValue181
 t51:=Tryz.underlying240
 a51:=Tryz.isAgg240
 z51:=Tryz.sizeOf240
 v51:=Tryz.zeroValue240
 t53:=Tryz.underlying252
 a53:=Tryz.isAgg252
 z53:=Tryz.sizeOf252
 v53:=Tryz.zeroValue252
 t131:=Tryz.underlying248
 a131:=Tryz.isAgg248
 z131:=Tryz.sizeOf248
 v131:=Tryz.zeroValue248
 t182:=Tryz.underlying242
 a182:=Tryz.isAgg242
 z182:=Tryz.sizeOf242
 v182:=Tryz.zeroValue242
 t183:=Tryz.underlying243
 a183:=Tryz.isAgg243
 z183:=Tryz.sizeOf243
 v183:=Tryz.zeroValue243
 t218:=Tryz.underlying258
 a218:=Tryz.isAgg258
 z218:=Tryz.sizeOf258
 v218:=Tryz.zeroValue258
 t222:=Tryz.underlying262
 a222:=Tryz.isAgg262
 z222:=Tryz.sizeOf262
 v222:=Tryz.zeroValue262
 t228:=Tryz.underlying266
 a228:=Tryz.isAgg266
 z228:=Tryz.sizeOf266
 v228:=Tryz.zeroValue266
 t229:=Tryz.underlying267
 a229:=Tryz.isAgg267
 z229:=Tryz.sizeOf267
 v229:=Tryz.zeroValue267
noncomputable def E07:Go.Shelf.Ren:=⟨fun | 20=>132 | n=>n,fun | 22=>35 | 3=>3 | 4=>4 | 0=>0 | n=>n,fun n=>n⟩
theorem E0n:Go.Proofs.Lays2.n20 Tryz.prog E07 where
 mixed:=by kernel_rfl
 f20:=Tryz.func132.trans (congrArg some (by kernel_rfl))
 t0:=Tryz.underlying0
 a0:=Tryz.isAgg0
 z0:=Tryz.sizeOf0
 v0:=Tryz.zeroValue0
 t3:=Tryz.underlying3
 a3:=Tryz.isAgg3
 z3:=Tryz.sizeOf3
 v3:=Tryz.zeroValue3
 t4:=Tryz.underlying4
 a4:=Tryz.isAgg4
 z4:=Tryz.sizeOf4
 v4:=Tryz.zeroValue4
 t22:=Tryz.underlying35
 a22:=Tryz.isAgg35
 z22:=Tryz.sizeOf35
 v22:=Tryz.zeroValue35
 i3:=by kernel_rfl
theorem F3n:aPM 130 (win E7 A47):=(MContract.sortInt (Go.Proofs.Any.slices_Sort_int_none E9H) (Go.Proofs.Any.slices_Sort_int E9H)).win E7
theorem E6k:aPM 132 (win E7 A2Q):=(MContract.compactInt (Go.Proofs.Any.slices_Compact_int_empty E0n) (Go.Proofs.Any.slices_Compact_int E0n)).win E7
noncomputable def D8c (l:List Int):Bool:=decide (l.length<4611686018427387904)
noncomputable def E9a (l:List Int):Nat×List Int:=((Lib.compact l).length,Lib.compact l++List.replicate (l.length - (Lib.compact l).length) 0)

abbrev D65:List PSh:=[.agg [(.int .i64),.str,.str],.t (.int .i64)]
noncomputable def E5S (a0:Int) (a1 a2:ByteArray) (a3:Int):Int:=let z2:=wI (a3 - (a1.size:Int));let z1:=wI (z2 - (a2.size:Int));(cond (decide (z2<(0:Int))) (-1:Int) (cond (decide (z1<(0:Int))) (-1:Int) z1))
noncomputable abbrev D3l (r:Int):AV×List AObj:=((ti r),[])
noncomputable abbrev E6F:F5 D65→AV×List AObj:=fun d=>D3l (E5S d.1.1 d.1.2.1 d.1.2.2.1 d.2.1)
noncomputable abbrev D9E:F5 D65→Bool:=fun d=>true
theorem F3J:A6Q true G0 aLn Tryz.f144 D65 D9E E6F:=by
 rintro ⟨⟨a0,⟨a1,⟨a2,_⟩⟩⟩,⟨a3,_⟩⟩ hp
 refine Eq.trans (b:=(let z2:=wI (a3 - (a1.size:Int));let z1:=wI (z2 - (a2.size:Int));cond (decide (z2<(0:Int))) (some (D3l (-1:Int))) (cond (decide (z1<(0:Int))) (some (D3l (-1:Int))) (some (D3l z1))))) (by kernel_rfl) ?_
 exact (L7 D3l (fun _h=>rfl) (fun _h=>(L7 D3l (fun _h=>rfl) (fun _h=>rfl))))
theorem F5A:aPP 144 (A2z D65 D9E E6F):=pcD true G0 hlz F3J
noncomputable def S1:Tab:=Tab.add S0 144 (lift (A2z D65 D9E E6F))
noncomputable def QF1:FuncId→Bool:=qadd QF0 144
theorem G1:aPG S1 QF1:=G0.addQ F5A (cbl Tryz.f144) (fun _=>rfl)

abbrev B9R:List Sh:=.junk::.junk::.junk::.junk::.junk::.junk::.junk::.junk::.junk::.junk::.junk::.junk::.junk::.junk::.junk::.junk::.junk::.junk::.junk::.junk::.junk::[]
abbrev C94:List Sh:=.junk::B9R
abbrev C95:List Sh:=.junk::.junk::.junk::C94
abbrev u23:=((),(),(),(),(),(),(),(),(),(),(),(),(),(),(),(),(),(),(),(),(),(),())
abbrev u22:=((),(),(),(),(),(),(),(),(),(),(),(),(),(),(),(),(),(),(),(),(),())
abbrev u26:=((),(),(),u23)
noncomputable def A7o (x0:Lq2) (i:Nat) (b:Int):Int:=(E5S ((x0.getD i ((0:Int),(bE,bE))).1) (((x0.getD i ((0:Int),(bE,bE))).2).1) (((x0.getD i ((0:Int),(bE,bE))).2).2) b)
abbrev D0C:List PSh:=[.t tq7,.t (.int .i64)]
abbrev B4i:SS:=⟨(.t false tq7::tI::.junk::.junk::.junk::tI::B9R),[]⟩
abbrev C0t:SS:=⟨(.junk::.junk::.junk::.junk::tI::C94),[]⟩
abbrev C65:SS:=⟨(.junk::tI::C95),[]⟩
noncomputable def D2W (x0:Lq2) (x1 x5:Int):RT B4i.den:=let z1:=x0.getD x5.toNat ((0:Int),(bE,bE));let z2:=E5S (z1.1) ((z1.2).1) ((z1.2).2) x1;(.br (decide (x5<(x0.length:Int))) (.br (decide (0≤x5∧x5<(x0.length:Int))) (.br (decide (z2<(0:Int))) (.done .ret C0t (((),(),(),(),(-1:Int),u23),())) (.next ((x0,z2,(),(),(),wI (x5+(1:Int)),u22),()))) .fail) (.done (.exit 0) C65 (((),x1,u26),())))
noncomputable def C18 (x0:Lq2) (x1 x5:Int):CT:=(.br (decide (0≤x5)&&okL x0) (.br (A6L (szN (A7o x0) (x0.length - x5.toNat) x5.toNat x1)) (.done (.exit 0) C65 (((),(A6C (-1) (szN (A7o x0) (x0.length - x5.toNat) x5.toNat x1)),u26),())) (.done .ret C0t (((),(),(),(),(-1:Int),u23),()))) .fail)
noncomputable abbrev B2v:B4i.den→RT B4i.den:=(fun d=>D2W d.1.1 d.1.2.1 d.1.2.2.2.2.2.1)
noncomputable abbrev C4k (x0:Lq2) (x1 x5:Int):B4i.den:=((x0,x1,(),(),(),x5,u22),())
noncomputable def D4m:Code:=((C4 0 (A0y Tryz.f105)).getD 0 (0,.skip)).2
theorem F0Z (x0:Lq2) (x1 x5:Int):(C18 x0 x1 x5).val (D:=B4i.den)=.fail∨Runs B2v (C4k x0 x1 x5) (C18 x0 x1 x5).val:=by
 cases hc:(decide (0≤x5)&&okL x0) with
 | false=>left;simp only [C18,CT.val,hc,cond_false]
 | true =>
  right
  simp only [C18,CT.val,hc,cond_true]
  simp only [Bool.and_eq_true,decide_eq_true_eq] at hc
  obtain ⟨i,rfl⟩:=Int.eq_ofNat_of_zero_le hc.1
  have hs:=A6E hc.2
  simp only [Int.toNat_natCast]
  have h:=Runs.loopN (step:=B2v) (fun j b=>C4k x0 b (j:Int)) (fun _ _=>True) (x0.length) (fun i b=>cond (decide (A7o x0 i b<0)) (.inr ()) (.inl (A7o x0 i b)))
   (fin:=fun b=>((.done (.exit 0) C65 (((),b,u26),())):CT).val) (bad:=fun _=>((.done .ret C0t (((),(),(),(),(-1:Int),u23),())):CT).val)
   (fun i b hi _=>?_) (fun i b hi _=>?_) (x0.length - i) i x1 rfl trivial
  ·simp only [szN]
   revert h
   cases loopN (fun i b=>cond (decide (A7o x0 i b<0)) (.inr ()) (.inl (A7o x0 i b))) (x0.length - i) i x1 with
   | inl b=>exact id
   | inr c=>exact id
  ·
   have h0a:decide ((i:Int)<(x0.length:Int))=true:=decide_eq_true (by omega)
   have h0b:decide (0≤(i:Int)∧(i:Int)<(x0.length:Int))=true:=decide_eq_true (by omega)
   have e:(B2v (C4k x0 b (i:Int))).val=cond (decide (A7o x0 i b<0)) ((.done .ret C0t (((),(),(),(),(-1:Int),u23),())):CT).val (.next (C4k x0 (A7o x0 i b) ((i+1:Nat):Int))):=by
    simp only [B2v,D2W,RT.val,h0a,h0b,cond_true,A6M i (by omega),Int.toNat_natCast]
    rfl
   cases hr:decide (A7o x0 i b<0) with
   | true=>exact .inr ⟨(),_,_,_,rfl,by rw [e,hr];rfl,rfl,by simp⟩
   | false=>exact .inl ⟨_,rfl,trivial,by rw [e,hr];rfl⟩
  ·have h1:decide ((i:Int)<(x0.length:Int))=false:=decide_eq_false (by omega)
   exact ⟨by simp only [B2v,D2W,RT.val,h1,cond_false];rfl,_,_,_,rfl,by simp⟩
theorem E7k:RdA G1 aLn 0 D4m B4i 0 [] (kepts [4] [(0,[1])]) (fun d=>(B2v d).opt 0 []):=by
 intro d
 kernel_rfl
noncomputable abbrev D8u:St→Option Tree:=B4i.say 0 [] [] (fun d=>C18 d.1.1 d.1.2.1 d.1.2.2.2.2.2.1)
theorem E9O:aPL D8u D4m:=SS.wp2 hlz [] B2v E7k (fun d=>rfl) _ (fun d=>F0Z d.1.1 d.1.2.1 d.1.2.2.2.2.2.1)
noncomputable def Y5 (a0:Lq2) (a1:Int):Int:=let z2:=wI (a1 - (a0.length:Int));let z1:=szN (A7o a0) (a0.length - (0:Int).toNat) (0:Int).toNat z2;(cond (decide (z2<(0:Int))) (-1:Int) (cond (A6L z1) (A6C (-1) z1) (-1:Int)))
noncomputable abbrev C6g (r:Int):AV×List AObj:=((ti r),[])
noncomputable abbrev E2I:F5 D0C→AV×List AObj:=fun d=>C6g (Y5 d.1 d.2.1)
noncomputable def B3S (a0:Lq2) (a1:Int):Bool:=decide (0≤a1∧a1≤1048576∧a0.length≤9223372036854775807)
noncomputable abbrev D6o:F5 D0C→Bool:=fun d=>B3S d.1 d.2.1
noncomputable abbrev F32:Nat→St→Option Tree:=fun b=>match b with | 0=>D8u | _=>fun _=>none
theorem F14:A6Q true G1 (F32) Tryz.f105 D0C D6o E2I:=by
 rintro ⟨a0,⟨a1,_⟩⟩ hp
 change B3S a0 a1=true at hp
 unfold B3S at hp
 refine Eq.trans (b:=(let z2:=wI (a1 - (a0.length:Int));let z1:=szN (A7o a0) (a0.length - (0:Int).toNat) (0:Int).toNat z2;cond (decide (z2<(0:Int))) (some (C6g (-1:Int))) (cond (decide (0≤(0:Int))&&okL a0) (cond (A6L z1) (some (C6g (A6C (-1) z1))) (some (C6g (-1:Int)))) none))) (by kernel_rfl) ?_
 exact (L7 C6g (fun _h=>rfl) (fun _h=>(A6T (by simp only [decide_eq_true_eq,decide_eq_false_iff_not] at hp _h;have hw:=A50 (n:=a1 - (a0.length:Int)) (by omega) (by omega);rw [hw] at _h;simp [okL];omega) (fun _h=>(L7 C6g (fun _h=>rfl) (fun _h=>rfl))))))
theorem F4n:aPP 105 (A2z D0C D6o E2I):=pcD true G1 (hl1 (i:=0) (by kernel_rfl) E9O) F14
noncomputable def S2:Tab:=Tab.add S1 105 (lift (A2z D0C D6o E2I))
noncomputable def QF2:FuncId→Bool:=qadd QF1 105
theorem G2:aPG S2 QF2:=G1.addQ F4n (cbl Tryz.f105) (fun _=>rfl)

abbrev A9x:Ty:=.sl (.int .i64)
abbrev C5J:List PSh:=[.t A9x,.t (.int .i64)]
noncomputable def C4f (a0:List Int) (a1:Int):Int:=let z1:=wI (a1 - (a0.length:Int));(cond (decide (z1<(0:Int))) (-1:Int) z1)
noncomputable abbrev D3k (r:Int):AV×List AObj:=((ti r),[])
noncomputable abbrev D9d:F5 C5J→AV×List AObj:=fun d=>D3k (C4f d.1 d.2.1)
noncomputable abbrev D1R:F5 C5J→Bool:=fun d=>true
theorem F0l:A6Q true G2 aLn Tryz.f141 C5J D1R D9d:=by
 rintro ⟨a0,⟨a1,_⟩⟩ hp
 refine Eq.trans (b:=(let z1:=wI (a1 - (a0.length:Int));cond (decide (z1<(0:Int))) (some (D3k (-1:Int))) (some (D3k z1)))) (by kernel_rfl) ?_
 exact (L7 D3k (fun _h=>rfl) (fun _h=>rfl))
theorem F28:aPP 141 (A2z C5J D1R D9d):=pcD true G2 hlz F0l
noncomputable def S3:Tab:=Tab.add S2 141 (lift (A2z C5J D1R D9d))
noncomputable def QF3:FuncId→Bool:=qadd QF2 141
theorem G3:aPG S3 QF3:=G2.addQ F28 (cbl Tryz.f141) (fun _=>rfl)

abbrev D0B:List PSh:=[.agg [(.int .i64),tq7,(.int .i64),A9x],.t (.int .i64)]
noncomputable def D59 (a0:Int) (a1:Lq2) (a2:Int) (a3:List Int) (a4:Int):Int:=let z1:=C4f a3 (Y5 a1 a4);(cond (decide ((Y5 a1 a4)<(0:Int))) (-1:Int) (cond (decide (z1<(0:Int))) (-1:Int) z1))
noncomputable abbrev C6f (r:Int):AV×List AObj:=((ti r),[])
noncomputable abbrev E2H:F5 D0B→AV×List AObj:=fun d=>C6f (D59 d.1.1 d.1.2.1 d.1.2.2.1 d.1.2.2.2.1 d.2.1)
noncomputable def C6K (a0:Int) (a1:Lq2) (a2:Int) (a3:List Int) (a4:Int):Bool:=B3S a1 a4
noncomputable abbrev D6n:F5 D0B→Bool:=fun d=>C6K d.1.1 d.1.2.1 d.1.2.2.1 d.1.2.2.2.1 d.2.1
theorem F13:A6Q true G3 aLn Tryz.f102 D0B D6n E2H:=by
 rintro ⟨⟨a0,⟨a1,⟨a2,⟨a3,_⟩⟩⟩⟩,⟨a4,_⟩⟩ hp
 change C6K a0 a1 a2 a3 a4=true at hp
 unfold C6K at hp
 refine Eq.trans (b:=(let z1:=C4f a3 (Y5 a1 a4);cond (B3S a1 a4) (cond (decide ((Y5 a1 a4)<(0:Int))) (some (C6f (-1:Int))) (cond (decide (z1<(0:Int))) (some (C6f (-1:Int))) (some (C6f z1)))) none)) (by kernel_rfl) ?_
 exact (A6T hp fun _h=>(L7 C6f (fun _h=>rfl) (fun _h=>(L7 C6f (fun _h=>rfl) (fun _h=>rfl)))))
theorem F4m:aPP 102 (A2z D0B D6n E2H):=pcD true G3 hlz F13
noncomputable def S4:Tab:=Tab.add S3 102 (lift (A2z D0B D6n E2H))
noncomputable def QF4:FuncId→Bool:=qadd QF3 102
theorem G4:aPG S4 QF4:=G3.addQ F4m (cbl Tryz.f102) (fun _=>rfl)

abbrev tq5:Ty:=.sl (.pair (.int .i64) (.pair (.sl (.pair (.int .i64) (.pair .str .str))) (.pair (.int .i64) (.sl (.int .i64)))))
abbrev C5K:List PSh:=[.t tq5,.t (.int .i64)]
abbrev B1D:SS:=⟨(.t false tq5::tI::.junk::.junk::.junk::tI::B9R),[]⟩
abbrev D35:SS:=⟨(.junk::.junk::.junk::.junk::tI::C94),[]⟩
abbrev D36:SS:=⟨(.junk::tI::C95),[]⟩
noncomputable def D8H (x0:LT1) (x1 x5:Int):RT B1D.den:=let z1:=x0.getD x5.toNat ((0:Int),([],((0:Int),[])));let z2:=D59 (z1.1) ((z1.2).1) (((z1.2).2).1) (((z1.2).2).2) x1;(.br (decide (x5<(x0.length:Int))) (.br (decide (0≤x5∧x5<(x0.length:Int))) (.br (C6K (z1.1) ((z1.2).1) (((z1.2).2).1) (((z1.2).2).2) x1) (.br (decide (z2<(0:Int))) (.done .ret D35 (((),(),(),(),(-1:Int),u23),())) (.next ((x0,z2,(),(),(),wI (x5+(1:Int)),u22),()))) .fail) .fail) (.done (.exit 0) D36 (((),x1,u26),())))
abbrev B8X:=LT1×(Int)×(Int)
abbrev B4K:=Nat×(Int)×(Int)
def C7v:B4K:=(99,((0:Int):Int),((0:Int):Int))
noncomputable def C04 (x0:LT1) (x1 x5:Int):B8X ⊕ B4K:=let z1:=x0.getD x5.toNat ((0:Int),([],((0:Int),[])));let z2:=D59 (z1.1) ((z1.2).1) (((z1.2).2).1) (((z1.2).2).2) x1;(cond (decide (x5<(x0.length:Int))) (cond (decide (0≤x5∧x5<(x0.length:Int))) (cond (C6K (z1.1) ((z1.2).1) (((z1.2).2).1) (((z1.2).2).2) x1) (cond (decide (z2<(0:Int))) (.inr (0,(-1:Int),((0:Int):Int))) (.inl (x0,z2,wI (x5+(1:Int))))) (.inr C7v)) (.inr C7v)) (.inr (1,((0:Int):Int),x1)))
noncomputable def B2H (x0:LT1) (x1 x5:Int):B4K:=itX (fun v:B8X=>C04 v.1 v.2.1 v.2.2) C7v (x0,x1,x5)
noncomputable def C7g (a:B4K):CT:=(.br (a.1==0) (.done .ret D35 (((),(),(),(),a.2.1,u23),())) (.br (a.1==1) (.done (.exit 0) D36 (((),a.2.2,u26),())) .fail))
noncomputable def E8D (x0:LT1) (x1 x5:Int):CT:=C7g (B2H x0 x1 x5)
noncomputable abbrev C8D:B1D.den→RT B1D.den:=(fun d=>D8H d.1.1 d.1.2.1 d.1.2.2.2.2.2.1)
noncomputable def D0X:Code:=((C4 0 (A0y Tryz.f56)).getD 0 (0,.skip)).2
noncomputable abbrev D72 (v:B8X):B1D.den:=((v.1,v.2.1,(),(),(),v.2.2,u22),())
theorem E7C:(∀ v:B8X,(D8H v.1 v.2.1 v.2.2).val=A5T D72 C7g (C04 v.1 v.2.1 v.2.2))∧∀ a:B4K,CEnd B1D.den (C7g a):=⟨fun v=>(A6V (A6V (A6V (A6V rfl rfl) rfl) rfl) rfl),fun a=>(A6I aCD (A6I aCD A6K))⟩
theorem E41:RdA G4 aLn 0 D0X B1D 0 [] (kepts [4] [(0,[1])]) (fun d=>(C8D d).opt 0 []):=by
 intro d
 kernel_rfl
noncomputable abbrev D4Y:St→Option Tree:=B1D.say 0 [] [] (fun d=>E8D d.1.1 d.1.2.1 d.1.2.2.2.2.2.1)
theorem E63:aPL D4Y D0X:=SS.wp2 hlz [] C8D E41 (fun d=>rfl) _ (fun d=>Runs.ofI2 (step:=C8D) D72 E7C rfl (d.1.1,d.1.2.1,d.1.2.2.2.2.2.1))
noncomputable def B2K (a0:LT1) (a1:Int):Int:=let z2:=wI (a1 - (a0.length:Int));let z1:=B2H a0 z2 (0:Int);(cond (decide (z2<(0:Int))) (-1:Int) (cond (z1.1==0) (z1.2.1) (z1.2.2)))
noncomputable abbrev C1g (r:Int):AV×List AObj:=((ti r),[])
noncomputable abbrev D9e:F5 C5K→AV×List AObj:=fun d=>C1g (B2K d.1 d.2.1)
noncomputable def B7H (a0:LT1) (a1:Int):Bool:=let z1:=wI (a1 - (a0.length:Int));let z2:=B2H a0 z1 (0:Int);cond (decide (z1<(0:Int))) true (cond (z2.1==0) true (z2.1==1))
noncomputable abbrev D1S:F5 C5K→Bool:=fun d=>B7H d.1 d.2.1
noncomputable abbrev F2J:Nat→St→Option Tree:=fun b=>match b with | 0=>D4Y | _=>fun _=>none
theorem F0m:A6Q true G4 (F2J) Tryz.f56 C5K D1S D9e:=by
 rintro ⟨a0,⟨a1,_⟩⟩ hp
 change B7H a0 a1=true at hp
 unfold B7H at hp
 refine Eq.trans (b:=(let z2:=wI (a1 - (a0.length:Int));let z1:=B2H a0 z2 (0:Int);cond (decide (z2<(0:Int))) (some (C1g (-1:Int))) (cond (z1.1==0) (some (C1g (z1.2.1))) (cond (z1.1==1) (some (C1g (z1.2.2))) none)))) (by kernel_rfl) ?_
 exact (H7 C1g hp (fun hp=>rfl) (fun hp=>(H7 C1g hp (fun hp=>rfl) (fun hp=>(A6T hp fun _h=>rfl)))))
theorem F29:aPP 56 (A2z C5K D1S D9e):=pcD true G4 (hl1 (i:=0) (by kernel_rfl) E63) F0m
noncomputable def S5:Tab:=Tab.add S4 56 (lift (A2z C5K D1S D9e))
noncomputable def QF5:FuncId→Bool:=qadd QF4 56
theorem G5:aPG S5 QF5:=G4.addQ F29 (cbl Tryz.f56) (fun _=>rfl)

abbrev K4:Ty:=.sl (.pair (.int .i64) .bool)
abbrev LIbe:=List (Int×Bool)
abbrev B5A:List PSh:=[.t K4,.t (.int .i64)]
noncomputable def B7z (a0:LIbe) (a1:Int):Int:=let z1:=wI (a1 - (a0.length:Int));(cond (decide (z1<(0:Int))) (-1:Int) z1)
noncomputable abbrev C0M (r:Int):AV×List AObj:=((ti r),[])
noncomputable abbrev C7B:F5 B5A→AV×List AObj:=fun d=>C0M (B7z d.1 d.2.1)
noncomputable abbrev C23:F5 B5A→Bool:=fun d=>true
theorem E3Y:A6Q true G5 aLn Tryz.f57 B5A C23 C7B:=by
 rintro ⟨a0,⟨a1,_⟩⟩ hp
 refine Eq.trans (b:=(let z1:=wI (a1 - (a0.length:Int));cond (decide (z1<(0:Int))) (some (C0M (-1:Int))) (some (C0M z1)))) (by kernel_rfl) ?_
 exact (L7 C0M (fun _h=>rfl) (fun _h=>rfl))
theorem E6o:aPP 57 (A2z B5A C23 C7B):=pcD true G5 hlz E3Y
noncomputable def S6:Tab:=Tab.add S5 57 (lift (A2z B5A C23 C7B))
noncomputable def QF6:FuncId→Bool:=qadd QF5 57
theorem G6:aPG S6 QF6:=G5.addQ E6o (cbl Tryz.f57) (fun _=>rfl)

abbrev C1Q:List PSh:=[.agg [(.int .i64),(.int .i64),(.int .i64),tq5,K4,(.int .i64)],.t (.int .i64)]
noncomputable def B3R (a0 a1 a2:Int) (a3:LT1) (a4:LIbe) (a5 a6:Int):Int:=let z1:=B7z a4 (B2K a3 a6);(cond (decide ((B2K a3 a6)<(0:Int))) (-1:Int) (cond (decide (z1<(0:Int))) (-1:Int) z1))
noncomputable abbrev C2x (r:Int):AV×List AObj:=((ti r),[])
noncomputable abbrev D5O:F5 C1Q→AV×List AObj:=fun d=>C2x (B3R d.1.1 d.1.2.1 d.1.2.2.1 d.1.2.2.2.1 d.1.2.2.2.2.1 d.1.2.2.2.2.2.1 d.2.1)
noncomputable def B4z (a0 a1 a2:Int) (a3:LT1) (a4:LIbe) (a5 a6:Int):Bool:=B7H a3 a6
noncomputable abbrev C8b:F5 C1Q→Bool:=fun d=>B4z d.1.1 d.1.2.1 d.1.2.2.1 d.1.2.2.2.1 d.1.2.2.2.2.1 d.1.2.2.2.2.2.1 d.2.1
theorem E7X:A6Q true G6 aLn Tryz.f23 C1Q C8b D5O:=by
 rintro ⟨⟨a0,⟨a1,⟨a2,⟨a3,⟨a4,⟨a5,_⟩⟩⟩⟩⟩⟩,⟨a6,_⟩⟩ hp
 change B4z a0 a1 a2 a3 a4 a5 a6=true at hp
 unfold B4z at hp
 refine Eq.trans (b:=(let z1:=B7z a4 (B2K a3 a6);let z2:=C2x (-1:Int);cond (B7H a3 a6) (cond (decide ((B2K a3 a6)<(0:Int))) (some z2) (cond (decide (z1<(0:Int))) (some z2) (some (C2x z1)))) none)) (by kernel_rfl) ?_
 exact (A6T hp fun _h=>(L7 C2x (fun _h=>rfl) (fun _h=>(L7 C2x (fun _h=>rfl) (fun _h=>rfl)))))
theorem F1o:aPP 23 (A2z C1Q C8b D5O):=pcD true G6 hlz E7X
noncomputable def S7:Tab:=Tab.add S6 23 (lift (A2z C1Q C8b D5O))
noncomputable def QF7:FuncId→Bool:=qadd QF6 23
theorem G7:aPG S7 QF7:=G6.addQ F1o (cbl Tryz.f23) (fun _=>rfl)

abbrev D0D:List PSh:=[.agg [(.int .i64),(.int .i64),tq7],.t (.int .i64)]
noncomputable def D6a (a0 a1:Int) (a2:Lq2) (a3:Int):Int:=(cond (decide ((Y5 a2 a3)<(0:Int))) (-1:Int) (Y5 a2 a3))
noncomputable abbrev D7p (r:Int):AV×List AObj:=((ti r),[])
noncomputable abbrev E2J:F5 D0D→AV×List AObj:=fun d=>D7p (D6a d.1.1 d.1.2.1 d.1.2.2.1 d.2.1)
noncomputable def C6L (a0 a1:Int) (a2:Lq2) (a3:Int):Bool:=decide (0≤a3∧a3≤1048576∧a2.length≤9223372036854775807)
noncomputable abbrev D6p:F5 D0D→Bool:=fun d=>C6L d.1.1 d.1.2.1 d.1.2.2.1 d.2.1
theorem F15:A6Q true G7 aLn Tryz.f142 D0D D6p E2J:=by
 rintro ⟨⟨a0,⟨a1,⟨a2,_⟩⟩⟩,⟨a3,_⟩⟩ hp
 change C6L a0 a1 a2 a3=true at hp
 unfold C6L at hp
 refine Eq.trans (b:=(cond (B3S a2 a3) (cond (decide ((Y5 a2 a3)<(0:Int))) (some (D7p (-1:Int))) (some (D7p (Y5 a2 a3)))) none)) (by kernel_rfl) ?_
 exact (A6T (by first | rfl | decide | exact hp | (simp only [Bool.and_eq_true] at hp;simp only [hp];done) | (simp [*];done) | (simp [okL] at hp;simp [okL,MAXB];omega) | (simp_all;done) | (simp at *;omega)) (fun _h=>(L7 D7p (fun _h=>rfl) (fun _h=>rfl))))
theorem F4o:aPP 142 (A2z D0D D6p E2J):=pcD true G7 hlz F15
noncomputable def S8:Tab:=Tab.add S7 142 (lift (A2z D0D D6p E2J))
noncomputable def QF8:FuncId→Bool:=qadd QF7 142
theorem G8:aPG S8 QF8:=G7.addQ F4o (cbl Tryz.f142) (fun _=>rfl)

abbrev tq8:Ty:=.sl (.pair (.int .i64) (.pair (.int .i64) (.sl (.pair (.int .i64) (.pair .str .str)))))
abbrev Lq1:=List (Int×Int×List (Int×ByteArray×ByteArray))
abbrev C5M:List PSh:=[.t tq8,.t (.int .i64)]
abbrev B1E:SS:=⟨(.t false tq8::tI::.junk::.junk::.junk::tI::B9R),[]⟩
abbrev D37:SS:=⟨(.junk::.junk::.junk::.junk::tI::C94),[]⟩
abbrev D38:SS:=⟨(.junk::tI::C95),[]⟩
noncomputable def D8I (x0:Lq1) (x1 x5:Int):RT B1E.den:=let z1:=x0.getD x5.toNat ((0:Int),((0:Int),[]));let z2:=D6a (z1.1) ((z1.2).1) ((z1.2).2) x1;(.br (decide (x5<(x0.length:Int))) (.br (decide (0≤x5∧x5<(x0.length:Int))) (.br (C6L (z1.1) ((z1.2).1) ((z1.2).2) x1) (.br (decide (z2<(0:Int))) (.done .ret D37 (((),(),(),(),(-1:Int),u23),())) (.next ((x0,z2,(),(),(),wI (x5+(1:Int)),u22),()))) .fail) .fail) (.done (.exit 0) D38 (((),x1,u26),())))
abbrev C3K:=(Lq1)×(Int)×(Int)
abbrev B8x:=Nat×(Int)×(Int)
def C7w:B8x:=(99,((0:Int):Int),((0:Int):Int))
noncomputable def C05 (x0:Lq1) (x1 x5:Int):C3K ⊕ B8x:=let z1:=x0.getD x5.toNat ((0:Int),((0:Int),[]));let z2:=D6a (z1.1) ((z1.2).1) ((z1.2).2) x1;(cond (decide (x5<(x0.length:Int))) (cond (decide (0≤x5∧x5<(x0.length:Int))) (cond (C6L (z1.1) ((z1.2).1) ((z1.2).2) x1) (cond (decide (z2<(0:Int))) (.inr (0,(-1:Int),((0:Int):Int))) (.inl (x0,z2,wI (x5+(1:Int))))) (.inr C7w)) (.inr C7w)) (.inr (1,((0:Int):Int),x1)))
noncomputable def B2I (x0:Lq1) (x1 x5:Int):B8x:=itX (fun v:C3K=>C05 v.1 v.2.1 v.2.2) C7w (x0,x1,x5)
noncomputable def C7h (a:B8x):CT:=(.br (a.1==0) (.done .ret D37 (((),(),(),(),a.2.1,u23),())) (.br (a.1==1) (.done (.exit 0) D38 (((),a.2.2,u26),())) .fail))
noncomputable def E8E (x0:Lq1) (x1 x5:Int):CT:=C7h (B2I x0 x1 x5)
noncomputable abbrev C8E:B1E.den→RT B1E.den:=(fun d=>D8I d.1.1 d.1.2.1 d.1.2.2.2.2.2.1)
noncomputable def D0Y:Code:=((C4 0 (A0y Tryz.f103)).getD 0 (0,.skip)).2
noncomputable abbrev D73 (v:C3K):B1E.den:=((v.1,v.2.1,(),(),(),v.2.2,u22),())
theorem E7D:(∀ v:C3K,(D8I v.1 v.2.1 v.2.2).val=A5T D73 C7h (C05 v.1 v.2.1 v.2.2))∧∀ a:B8x,CEnd B1E.den (C7h a):=⟨fun v=>(A6V (A6V (A6V (A6V rfl rfl) rfl) rfl) rfl),fun a=>(A6I aCD (A6I aCD A6K))⟩
theorem E42:RdA G8 aLn 0 D0Y B1E 0 [] (kepts [4] [(0,[1])]) (fun d=>(C8E d).opt 0 []):=by
 intro d
 kernel_rfl
noncomputable abbrev D4Z:St→Option Tree:=B1E.say 0 [] [] (fun d=>E8E d.1.1 d.1.2.1 d.1.2.2.2.2.2.1)
theorem E64:aPL D4Z D0Y:=SS.wp2 hlz [] C8E E42 (fun d=>rfl) _ (fun d=>Runs.ofI2 (step:=C8E) D73 E7D rfl (d.1.1,d.1.2.1,d.1.2.2.2.2.2.1))
noncomputable def B1h (a0:Lq1) (a1:Int):Int:=let z2:=wI (a1 - (a0.length:Int));let z1:=B2I a0 z2 (0:Int);(cond (decide (z2<(0:Int))) (-1:Int) (cond (z1.1==0) (z1.2.1) (z1.2.2)))
noncomputable abbrev C1h (r:Int):AV×List AObj:=((ti r),[])
noncomputable abbrev D9g:F5 C5M→AV×List AObj:=fun d=>C1h (B1h d.1 d.2.1)
noncomputable def B2R (a0:Lq1) (a1:Int):Bool:=let z1:=wI (a1 - (a0.length:Int));let z2:=B2I a0 z1 (0:Int);cond (decide (z1<(0:Int))) true (cond (z2.1==0) true (z2.1==1))
noncomputable abbrev D1U:F5 C5M→Bool:=fun d=>B2R d.1 d.2.1
noncomputable abbrev F2K:Nat→St→Option Tree:=fun b=>match b with | 0=>D4Z | _=>fun _=>none
theorem F0o:A6Q true G8 (F2K) Tryz.f103 C5M D1U D9g:=by
 rintro ⟨a0,⟨a1,_⟩⟩ hp
 change B2R a0 a1=true at hp
 unfold B2R at hp
 refine Eq.trans (b:=(let z2:=wI (a1 - (a0.length:Int));let z1:=B2I a0 z2 (0:Int);cond (decide (z2<(0:Int))) (some (C1h (-1:Int))) (cond (z1.1==0) (some (C1h (z1.2.1))) (cond (z1.1==1) (some (C1h (z1.2.2))) none)))) (by kernel_rfl) ?_
 exact (H7 C1h hp (fun hp=>rfl) (fun hp=>(H7 C1h hp (fun hp=>rfl) (fun hp=>(A6T hp fun _h=>rfl)))))
theorem F3b:aPP 103 (A2z C5M D1U D9g):=pcD true G8 (hl1 (i:=0) (by kernel_rfl) E64) F0o
noncomputable def S9:Tab:=Tab.add S8 103 (lift (A2z C5M D1U D9g))
noncomputable def QF9:FuncId→Bool:=qadd QF8 103
theorem G9:aPG S9 QF9:=G8.addQ F3b (cbl Tryz.f103) (fun _=>rfl)

abbrev C5L:List PSh:=[.agg [.str,.str],.t (.int .i64)]
noncomputable def D3y (a0 a1:ByteArray) (a2:Int):Int:=let z2:=wI (a2 - (a0.size:Int));let z1:=wI (z2 - (a1.size:Int));(cond (decide (z2<(0:Int))) (-1:Int) (cond (decide (z1<(0:Int))) (-1:Int) z1))
noncomputable abbrev C6h (r:Int):AV×List AObj:=((ti r),[])
noncomputable abbrev D9f:F5 C5L→AV×List AObj:=fun d=>C6h (D3y d.1.1 d.1.2.1 d.2.1)
noncomputable abbrev D1T:F5 C5L→Bool:=fun d=>true
theorem F0n:A6Q true G9 aLn Tryz.f143 C5L D1T D9f:=by
 rintro ⟨⟨a0,⟨a1,_⟩⟩,⟨a2,_⟩⟩ hp
 refine Eq.trans (b:=(let z2:=wI (a2 - (a0.size:Int));let z1:=wI (z2 - (a1.size:Int));let z3:=C6h (-1:Int);cond (decide (z2<(0:Int))) (some z3) (cond (decide (z1<(0:Int))) (some z3) (some (C6h z1))))) (by kernel_rfl) ?_
 exact (L7 C6h (fun _h=>rfl) (fun _h=>(L7 C6h (fun _h=>rfl) (fun _h=>rfl))))
theorem F3a:aPP 143 (A2z C5L D1T D9f):=pcD true G9 hlz F0n
noncomputable def S10:Tab:=Tab.add S9 143 (lift (A2z C5L D1T D9f))
noncomputable def F7R:FuncId→Bool:=qadd QF9 143
theorem G10:aPG S10 F7R:=G9.addQ F3a (cbl Tryz.f143) (fun _=>rfl)

abbrev LBBe:=List (ByteArray×ByteArray)
abbrev Z3:Ty:=.sl (.pair .str .str)
noncomputable def U1 (x0:LBBe) (i:Nat) (b:Int):Int:=(D3y ((x0.getD i (bE,bE)).1) ((x0.getD i (bE,bE)).2) b)
abbrev C1S:List PSh:=[.t Z3,.t (.int .i64)]
abbrev A9W:SS:=⟨(.t false Z3::tI::.junk::.junk::.junk::tI::B9R),[]⟩
abbrev B5s:SS:=⟨(.junk::.junk::.junk::.junk::tI::C94),[]⟩
abbrev C1x:SS:=⟨(.junk::tI::C95),[]⟩
noncomputable def C5f (x0:LBBe) (x1 x5:Int):RT A9W.den:=let z2:=x0.getD x5.toNat (bE,bE);let z1:=D3y (z2.1) (z2.2) x1;(.br (decide (x5<(x0.length:Int))) (.br (decide (0≤x5∧x5<(x0.length:Int))) (.br (decide (z1<(0:Int))) (.done .ret B5s (((),(),(),(),(-1:Int),u23),())) (.next ((x0,z1,(),(),(),wI (x5+(1:Int)),u22),()))) .fail) (.done (.exit 0) C1x (((),x1,u26),())))
noncomputable def B5J (x0:LBBe) (x1 x5:Int):CT:=(.br (decide (0≤x5)&&okL x0) (.br (A6L (szN (U1 x0) (x0.length - x5.toNat) x5.toNat x1)) (.done (.exit 0) C1x (((),(A6C (-1) (szN (U1 x0) (x0.length - x5.toNat) x5.toNat x1)),u26),())) (.done .ret B5s (((),(),(),(),(-1:Int),u23),()))) .fail)
noncomputable abbrev A8U:A9W.den→RT A9W.den:=(fun d=>C5f d.1.1 d.1.2.1 d.1.2.2.2.2.2.1)
noncomputable abbrev B8n (x0:LBBe) (x1 x5:Int):A9W.den:=((x0,x1,(),(),(),x5,u22),())
noncomputable def C9f:Code:=((C4 0 (A0y Tryz.f104)).getD 0 (0,.skip)).2
theorem E56 (x0:LBBe) (x1 x5:Int):(B5J x0 x1 x5).val (D:=A9W.den)=.fail∨Runs A8U (B8n x0 x1 x5) (B5J x0 x1 x5).val:=by
 cases hc:(decide (0≤x5)&&okL x0) with
 | false=>left;simp only [B5J,CT.val,hc,cond_false]
 | true =>
  right
  simp only [B5J,CT.val,hc,cond_true]
  simp only [Bool.and_eq_true,decide_eq_true_eq] at hc
  obtain ⟨i,rfl⟩:=Int.eq_ofNat_of_zero_le hc.1
  have hs:=A6E hc.2
  simp only [Int.toNat_natCast]
  have h:=Runs.loopN (step:=A8U) (fun j b=>B8n x0 b (j:Int)) (fun _ _=>True) (x0.length) (fun i b=>cond (decide (U1 x0 i b<0)) (.inr ()) (.inl (U1 x0 i b)))
   (fin:=fun b=>((.done (.exit 0) C1x (((),b,u26),())):CT).val) (bad:=fun _=>((.done .ret B5s (((),(),(),(),(-1:Int),u23),())):CT).val)
   (fun i b hi _=>?_) (fun i b hi _=>?_) (x0.length - i) i x1 rfl trivial
  ·simp only [szN]
   revert h
   cases loopN (fun i b=>cond (decide (U1 x0 i b<0)) (.inr ()) (.inl (U1 x0 i b))) (x0.length - i) i x1 with
   | inl b=>exact id
   | inr c=>exact id
  ·
   have h0a:decide ((i:Int)<(x0.length:Int))=true:=decide_eq_true (by omega)
   have h0b:decide (0≤(i:Int)∧(i:Int)<(x0.length:Int))=true:=decide_eq_true (by omega)
   have e:(A8U (B8n x0 b (i:Int))).val=cond (decide (U1 x0 i b<0)) ((.done .ret B5s (((),(),(),(),(-1:Int),u23),())):CT).val (.next (B8n x0 (U1 x0 i b) ((i+1:Nat):Int))):=by
    simp only [A8U,C5f,RT.val,h0a,h0b,cond_true,A6M i (by omega),Int.toNat_natCast]
    rfl
   cases hr:decide (U1 x0 i b<0) with
   | true=>exact .inr ⟨(),_,_,_,rfl,by rw [e,hr];rfl,rfl,by simp⟩
   | false=>exact .inl ⟨_,rfl,trivial,by rw [e,hr];rfl⟩
  ·have h1:decide ((i:Int)<(x0.length:Int))=false:=decide_eq_false (by omega)
   exact ⟨by simp only [A8U,C5f,RT.val,h1,cond_false];rfl,_,_,_,rfl,by simp⟩
theorem E3t:RdA G10 aLn 0 C9f A9W 0 [] (kepts [4] [(0,[1])]) (fun d=>(A8U d).opt 0 []):=by
 intro d
 kernel_rfl
noncomputable abbrev D2D:St→Option Tree:=A9W.say 0 [] [] (fun d=>B5J d.1.1 d.1.2.1 d.1.2.2.2.2.2.1)
theorem E4P:aPL D2D C9f:=SS.wp2 hlz [] A8U E3t (fun d=>rfl) _ (fun d=>E56 d.1.1 d.1.2.1 d.1.2.2.2.2.2.1)
noncomputable def B6r (a0:LBBe) (a1:Int):Int:=let z2:=wI (a1 - (a0.length:Int));let z1:=szN (U1 a0) (a0.length - (0:Int).toNat) (0:Int).toNat z2;(cond (decide (z2<(0:Int))) (-1:Int) (cond (A6L z1) (A6C (-1) z1) (-1:Int)))
noncomputable abbrev C2y (r:Int):AV×List AObj:=((ti r),[])
noncomputable abbrev D5Q:F5 C1S→AV×List AObj:=fun d=>C2y (B6r d.1 d.2.1)
noncomputable def B7J (a0:LBBe) (a1:Int):Bool:=decide (0≤a1∧a1≤1048576∧a0.length≤9223372036854775807)
noncomputable abbrev C8d:F5 C1S→Bool:=fun d=>B7J d.1 d.2.1
noncomputable abbrev F0R:Nat→St→Option Tree:=fun b=>match b with | 0=>D2D | _=>fun _=>none
theorem E7Z:A6Q true G10 (F0R) Tryz.f104 C1S C8d D5Q:=by
 rintro ⟨a0,⟨a1,_⟩⟩ hp
 change B7J a0 a1=true at hp
 unfold B7J at hp
 refine Eq.trans (b:=(let z2:=wI (a1 - (a0.length:Int));let z1:=szN (U1 a0) (a0.length - (0:Int).toNat) (0:Int).toNat z2;let z3:=C2y (-1:Int);cond (decide (z2<(0:Int))) (some z3) (cond (decide (0≤(0:Int))&&okL a0) (cond (A6L z1) (some (C2y (A6C (-1) z1))) (some z3)) none))) (by kernel_rfl) ?_
 exact (L7 C2y (fun _h=>rfl) (fun _h=>(A6T (by simp only [decide_eq_true_eq,decide_eq_false_iff_not] at hp _h;have hw:=A50 (n:=a1 - (a0.length:Int)) (by omega) (by omega);rw [hw] at _h;simp [okL];omega) (fun _h=>(L7 C2y (fun _h=>rfl) (fun _h=>rfl))))))
theorem F1q:aPP 104 (A2z C1S C8d D5Q):=pcD true G10 (hl1 (i:=0) (by kernel_rfl) E4P) E7Z
noncomputable def S11:Tab:=Tab.add S10 104 (lift (A2z C1S C8d D5Q))
noncomputable def F7S:FuncId→Bool:=qadd F7R 104
theorem G11:aPG S11 F7S:=G10.addQ F1q (cbl Tryz.f104) (fun _=>rfl)

abbrev C1T:List PSh:=[.agg [(.int .i64),tq8,(.int .i64),Z3,tq8],.t (.int .i64)]
noncomputable def C2O (a0:Int) (a1:Lq1) (a2:Int) (a3:LBBe) (a4:Lq1) (a5:Int):Int:=let z1:=B6r a3 (B1h a1 a5);(cond (decide ((B1h a1 a5)<(0:Int))) (-1:Int) (cond (decide (z1<(0:Int))) (-1:Int) (cond (decide ((B1h a4 z1)<(0:Int))) (-1:Int) (B1h a4 z1))))
noncomputable abbrev B7t (r:Int):AV×List AObj:=((ti r),[])
noncomputable abbrev D5R:F5 C1T→AV×List AObj:=fun d=>B7t (C2O d.1.1 d.1.2.1 d.1.2.2.1 d.1.2.2.2.1 d.1.2.2.2.2.1 d.2.1)
noncomputable def B4A (a0:Int) (a1:Lq1) (a2:Int) (a3:LBBe) (a4:Lq1) (a5:Int):Bool:=let z1:=B1h a1 a5;(B2R a1 a5)&&(cond (decide (z1<(0:Int))) true ((B7J a3 z1)&&(cond (decide ((B6r a3 z1)<(0:Int))) true (B2R a4 (B6r a3 z1)))))
noncomputable abbrev C8e:F5 C1T→Bool:=fun d=>B4A d.1.1 d.1.2.1 d.1.2.2.1 d.1.2.2.2.1 d.1.2.2.2.2.1 d.2.1
theorem E70:A6Q true G11 aLn Tryz.f58 C1T C8e D5R:=by
 rintro ⟨⟨a0,⟨a1,⟨a2,⟨a3,⟨a4,_⟩⟩⟩⟩⟩,⟨a5,_⟩⟩ hp
 change B4A a0 a1 a2 a3 a4 a5=true at hp
 unfold B4A at hp
 refine Eq.trans (b:=(let z2:=B7t (-1:Int);let z3:=B1h a1 a5;let z1:=B6r a3 z3;cond (B2R a1 a5) (cond (decide (z3<(0:Int))) (some z2) (cond (B7J a3 z3) (cond (decide (z1<(0:Int))) (some z2) (cond (B2R a4 z1) (cond (decide ((B1h a4 z1)<(0:Int))) (some z2) (some (B7t (B1h a4 z1)))) none)) none)) none)) (by kernel_rfl) ?_
 exact (A6R hp fun hp=>(H7 B7t hp (fun hp=>rfl) (fun hp=>(A6R hp fun hp=>(H7 B7t hp (fun hp=>rfl) (fun hp=>(A6T hp fun _h=>(L7 B7t (fun _h=>rfl) (fun _h=>rfl)))))))))
theorem F1r:aPP 58 (A2z C1T C8e D5R):=pcD true G11 hlz E70
noncomputable def S12:Tab:=Tab.add S11 58 (lift (A2z C1T C8e D5R))
noncomputable def F7T:FuncId→Bool:=qadd F7S 58
theorem G12:aPG S12 F7T:=G11.addQ F1r (cbl Tryz.f58) (fun _=>rfl)

abbrev tq3:Ty:=.sl (.pair (.int .i64) (.pair (.sl (.pair (.int .i64) (.pair (.int .i64) (.sl (.pair (.int .i64) (.pair .str .str)))))) (.pair (.int .i64) (.pair (.sl (.pair .str .str)) (.sl (.pair (.int .i64) (.pair (.int .i64) (.sl (.pair (.int .i64) (.pair .str .str))))))))))
abbrev B8M:List PSh:=[.t tq3,.t (.int .i64)]
abbrev A8O:SS:=⟨(.t false tq3::tI::.junk::.junk::.junk::tI::B9R),[]⟩
abbrev C8X:SS:=⟨(.junk::.junk::.junk::.junk::tI::C94),[]⟩
abbrev C8Y:SS:=⟨(.junk::tI::C95),[]⟩
noncomputable def D2Y (x0:LT3) (x1 x5:Int):RT A8O.den:=let z1:=x0.getD x5.toNat ((0:Int),([],((0:Int),([],[]))));let z2:=C2O (z1.1) ((z1.2).1) (((z1.2).2).1) ((((z1.2).2).2).1) ((((z1.2).2).2).2) x1;(.br (decide (x5<(x0.length:Int))) (.br (decide (0≤x5∧x5<(x0.length:Int))) (.br (B4A (z1.1) ((z1.2).1) (((z1.2).2).1) ((((z1.2).2).2).1) ((((z1.2).2).2).2) x1) (.br (decide (z2<(0:Int))) (.done .ret C8X (((),(),(),(),(-1:Int),u23),())) (.next ((x0,z2,(),(),(),wI (x5+(1:Int)),u22),()))) .fail) .fail) (.done (.exit 0) C8Y (((),x1,u26),())))
abbrev B7X:=LT3×(Int)×(Int)
abbrev B3p:=Nat×(Int)×(Int)
def C2A:B3p:=(99,((0:Int):Int),((0:Int):Int))
noncomputable def B6M (x0:LT3) (x1 x5:Int):B7X ⊕ B3p:=let z1:=x0.getD x5.toNat ((0:Int),([],((0:Int),([],[]))));let z2:=C2O (z1.1) ((z1.2).1) (((z1.2).2).1) ((((z1.2).2).2).1) ((((z1.2).2).2).2) x1;(cond (decide (x5<(x0.length:Int))) (cond (decide (0≤x5∧x5<(x0.length:Int))) (cond (B4A (z1.1) ((z1.2).1) (((z1.2).2).1) ((((z1.2).2).2).1) ((((z1.2).2).2).2) x1) (cond (decide (z2<(0:Int))) (.inr (0,(-1:Int),((0:Int):Int))) (.inl (x0,z2,wI (x5+(1:Int))))) (.inr C2A)) (.inr C2A)) (.inr (1,((0:Int):Int),x1)))
noncomputable def A9n (x0:LT3) (x1 x5:Int):B3p:=itX (fun v:B7X=>B6M v.1 v.2.1 v.2.2) C2A (x0,x1,x5)
noncomputable def C2n (a:B3p):CT:=(.br (a.1==0) (.done .ret C8X (((),(),(),(),a.2.1,u23),())) (.br (a.1==1) (.done (.exit 0) C8Y (((),a.2.2,u26),())) .fail))
noncomputable def E4u (x0:LT3) (x1 x5:Int):CT:=C2n (A9n x0 x1 x5)
noncomputable abbrev C3n:A8O.den→RT A8O.den:=(fun d=>D2Y d.1.1 d.1.2.1 d.1.2.2.2.2.2.1)
noncomputable def C54:Code:=((C4 0 (A0y Tryz.f24)).getD 0 (0,.skip)).2
noncomputable abbrev D2a (v:B7X):A8O.den:=((v.1,v.2.1,(),(),(),v.2.2,u22),())
theorem E3L:(∀ v:B7X,(D2Y v.1 v.2.1 v.2.2).val=A5T D2a C2n (B6M v.1 v.2.1 v.2.2))∧∀ a:B3p,CEnd A8O.den (C2n a):=⟨fun v=>(A6V (A6V (A6V (A6V rfl rfl) rfl) rfl) rfl),fun a=>(A6I aCD (A6I aCD A6K))⟩
theorem E1m:RdA G12 aLn 0 C54 A8O 0 [] (kepts [4] [(0,[1])]) (fun d=>(C3n d).opt 0 []):=by
 intro d
 kernel_rfl
noncomputable abbrev C9J:St→Option Tree:=A8O.say 0 [] [] (fun d=>E4u d.1.1 d.1.2.1 d.1.2.2.2.2.2.1)
theorem E24:aPL C9J C54:=SS.wp2 hlz [] C3n E1m (fun d=>rfl) _ (fun d=>Runs.ofI2 (step:=C3n) D2a E3L rfl (d.1.1,d.1.2.1,d.1.2.2.2.2.2.1))
noncomputable def B44 (a0:LT3) (a1:Int):Int:=let z2:=wI (a1 - (a0.length:Int));let z1:=A9n a0 z2 (0:Int);(cond (decide (z2<(0:Int))) (-1:Int) (cond (z1.1==0) (z1.2.1) (z1.2.2)))
noncomputable abbrev B4Z (r:Int):AV×List AObj:=((ti r),[])
noncomputable abbrev D1m:F5 B8M→AV×List AObj:=fun d=>B4Z (B44 d.1 d.2.1)
noncomputable def B2n (a0:LT3) (a1:Int):Bool:=let z1:=wI (a1 - (a0.length:Int));let z2:=A9n a0 z1 (0:Int);cond (decide (z1<(0:Int))) true (cond (z2.1==0) true (z2.1==1))
noncomputable abbrev C4V:F5 B8M→Bool:=fun d=>B2n d.1 d.2.1
noncomputable abbrev E8p:Nat→St→Option Tree:=fun b=>match b with | 0=>C9J | _=>fun _=>none
theorem E5v:A6Q true G12 (E8p) Tryz.f24 B8M C4V D1m:=by
 rintro ⟨a0,⟨a1,_⟩⟩ hp
 change B2n a0 a1=true at hp
 unfold B2n at hp
 refine Eq.trans (b:=(let z2:=wI (a1 - (a0.length:Int));let z1:=A9n a0 z2 (0:Int);cond (decide (z2<(0:Int))) (some (B4Z (-1:Int))) (cond (z1.1==0) (some (B4Z (z1.2.1))) (cond (z1.1==1) (some (B4Z (z1.2.2))) none)))) (by kernel_rfl) ?_
 exact (H7 B4Z hp (fun hp=>rfl) (fun hp=>(H7 B4Z hp (fun hp=>rfl) (fun hp=>(A6T hp fun _h=>rfl)))))
theorem E8Y:aPP 24 (A2z B8M C4V D1m):=pcD true G12 (hl1 (i:=0) (by kernel_rfl) E24) E5v
noncomputable def S13:Tab:=Tab.add S12 24 (lift (A2z B8M C4V D1m))
noncomputable def F7U:FuncId→Bool:=qadd F7T 24
theorem G13:aPG S13 F7U:=G12.addQ E8Y (cbl Tryz.f24) (fun _=>rfl)

abbrev C5N:List PSh:=[.agg [(.int .i64),(.int .i64),(.int .i64),tq7,.bool],.t (.int .i64)]
noncomputable def C7U (a0 a1 a2:Int) (a3:Lq2) (a4:Bool) (a5:Int):Int:=(cond (decide ((Y5 a3 a5)<(0:Int))) (-1:Int) (Y5 a3 a5))
noncomputable abbrev D3m (r:Int):AV×List AObj:=((ti r),[])
noncomputable abbrev D9h:F5 C5N→AV×List AObj:=fun d=>D3m (C7U d.1.1 d.1.2.1 d.1.2.2.1 d.1.2.2.2.1 d.1.2.2.2.2.1 d.2.1)
noncomputable def C1n (a0 a1 a2:Int) (a3:Lq2) (a4:Bool) (a5:Int):Bool:=decide (0≤a5∧a5≤1048576∧a3.length≤9223372036854775807)
noncomputable abbrev D1V:F5 C5N→Bool:=fun d=>C1n d.1.1 d.1.2.1 d.1.2.2.1 d.1.2.2.2.1 d.1.2.2.2.2.1 d.2.1
theorem F0p:A6Q true G13 aLn Tryz.f59 C5N D1V D9h:=by
 rintro ⟨⟨a0,⟨a1,⟨a2,⟨a3,⟨a4,_⟩⟩⟩⟩⟩,⟨a5,_⟩⟩ hp
 change C1n a0 a1 a2 a3 a4 a5=true at hp
 unfold C1n at hp
 refine Eq.trans (b:=(cond (B3S a3 a5) (cond (decide ((Y5 a3 a5)<(0:Int))) (some (D3m (-1:Int))) (some (D3m (Y5 a3 a5)))) none)) (by kernel_rfl) ?_
 exact (A6T (by first | rfl | decide | exact hp | (simp only [Bool.and_eq_true] at hp;simp only [hp];done) | (simp [*];done) | (simp [okL] at hp;simp [okL,MAXB];omega) | (simp_all;done) | (simp at *;omega)) (fun _h=>(L7 D3m (fun _h=>rfl) (fun _h=>rfl))))
theorem F3c:aPP 59 (A2z C5N D1V D9h):=pcD true G13 hlz F0p
noncomputable def S14:Tab:=Tab.add S13 59 (lift (A2z C5N D1V D9h))
noncomputable def F7V:FuncId→Bool:=qadd F7U 59
theorem G14:aPG S14 F7V:=G13.addQ F3c (cbl Tryz.f59) (fun _=>rfl)

abbrev tq4:Ty:=.sl (.pair (.int .i64) (.pair (.int .i64) (.pair (.int .i64) (.pair (.sl (.pair (.int .i64) (.pair .str .str))) .bool))))
abbrev C1U:List PSh:=[.t tq4,.t (.int .i64)]
abbrev A9X:SS:=⟨(.t false tq4::tI::.junk::.junk::.junk::tI::B9R),[]⟩
abbrev D0k:SS:=⟨(.junk::.junk::.junk::.junk::tI::C94),[]⟩
abbrev D0l:SS:=⟨(.junk::tI::C95),[]⟩
noncomputable def D5d (x0:LT2) (x1 x5:Int):RT A9X.den:=let z1:=x0.getD x5.toNat ((0:Int),((0:Int),((0:Int),([],false))));let z2:=C7U (z1.1) ((z1.2).1) (((z1.2).2).1) ((((z1.2).2).2).1) ((((z1.2).2).2).2) x1;(.br (decide (x5<(x0.length:Int))) (.br (decide (0≤x5∧x5<(x0.length:Int))) (.br (C1n (z1.1) ((z1.2).1) (((z1.2).2).1) ((((z1.2).2).2).1) ((((z1.2).2).2).2) x1) (.br (decide (z2<(0:Int))) (.done .ret D0k (((),(),(),(),(-1:Int),u23),())) (.next ((x0,z2,(),(),(),wI (x5+(1:Int)),u22),()))) .fail) .fail) (.done (.exit 0) D0l (((),x1,u26),())))
abbrev C0D:=LT2×(Int)×(Int)
abbrev B5m:=Nat×(Int)×(Int)
def C4L:B5m:=(99,((0:Int):Int),((0:Int):Int))
noncomputable def B8s (x0:LT2) (x1 x5:Int):C0D ⊕ B5m:=let z1:=x0.getD x5.toNat ((0:Int),((0:Int),((0:Int),([],false))));let z2:=C7U (z1.1) ((z1.2).1) (((z1.2).2).1) ((((z1.2).2).2).1) ((((z1.2).2).2).2) x1;(cond (decide (x5<(x0.length:Int))) (cond (decide (0≤x5∧x5<(x0.length:Int))) (cond (C1n (z1.1) ((z1.2).1) (((z1.2).2).1) ((((z1.2).2).2).1) ((((z1.2).2).2).2) x1) (cond (decide (z2<(0:Int))) (.inr (0,(-1:Int),((0:Int):Int))) (.inl (x0,z2,wI (x5+(1:Int))))) (.inr C4L)) (.inr C4L)) (.inr (1,((0:Int):Int),x1)))
noncomputable def B0M (x0:LT2) (x1 x5:Int):B5m:=itX (fun v:C0D=>B8s v.1 v.2.1 v.2.2) C4L (x0,x1,x5)
noncomputable def C4E (a:B5m):CT:=(.br (a.1==0) (.done .ret D0k (((),(),(),(),a.2.1,u23),())) (.br (a.1==1) (.done (.exit 0) D0l (((),a.2.2,u26),())) .fail))
noncomputable def E6c (x0:LT2) (x1 x5:Int):CT:=C4E (B0M x0 x1 x5)
noncomputable abbrev C49:A9X.den→RT A9X.den:=(fun d=>D5d d.1.1 d.1.2.1 d.1.2.2.2.2.2.1)
noncomputable def C9g:Code:=((C4 0 (A0y Tryz.f25)).getD 0 (0,.skip)).2
noncomputable abbrev D4O (v:C0D):A9X.den:=((v.1,v.2.1,(),(),(),v.2.2,u22),())
theorem E5j:(∀ v:C0D,(D5d v.1 v.2.1 v.2.2).val=A5T D4O C4E (B8s v.1 v.2.1 v.2.2))∧∀ a:B5m,CEnd A9X.den (C4E a):=⟨fun v=>(A6V (A6V (A6V (A6V rfl rfl) rfl) rfl) rfl),fun a=>(A6I aCD (A6I aCD A6K))⟩
theorem E3u:RdA G14 aLn 0 C9g A9X 0 [] (kepts [4] [(0,[1])]) (fun d=>(C49 d).opt 0 []):=by
 intro d
 kernel_rfl
noncomputable abbrev D2E:St→Option Tree:=A9X.say 0 [] [] (fun d=>E6c d.1.1 d.1.2.1 d.1.2.2.2.2.2.1)
theorem E4Q:aPL D2E C9g:=SS.wp2 hlz [] C49 E3u (fun d=>rfl) _ (fun d=>Runs.ofI2 (step:=C49) D4O E5j rfl (d.1.1,d.1.2.1,d.1.2.2.2.2.2.1))
noncomputable def A8E (a0:LT2) (a1:Int):Int:=let z2:=wI (a1 - (a0.length:Int));let z1:=B0M a0 z2 (0:Int);(cond (decide (z2<(0:Int))) (-1:Int) (cond (z1.1==0) (z1.2.1) (z1.2.2)))
noncomputable abbrev B7u (r:Int):AV×List AObj:=((ti r),[])
noncomputable abbrev D5S:F5 C1U→AV×List AObj:=fun d=>B7u (A8E d.1 d.2.1)
noncomputable def A97 (a0:LT2) (a1:Int):Bool:=let z1:=wI (a1 - (a0.length:Int));let z2:=B0M a0 z1 (0:Int);cond (decide (z1<(0:Int))) true (cond (z2.1==0) true (z2.1==1))
noncomputable abbrev C8f:F5 C1U→Bool:=fun d=>A97 d.1 d.2.1
noncomputable abbrev F0S:Nat→St→Option Tree:=fun b=>match b with | 0=>D2E | _=>fun _=>none
theorem E71:A6Q true G14 (F0S) Tryz.f25 C1U C8f D5S:=by
 rintro ⟨a0,⟨a1,_⟩⟩ hp
 change A97 a0 a1=true at hp
 unfold A97 at hp
 refine Eq.trans (b:=(let z2:=wI (a1 - (a0.length:Int));let z1:=B0M a0 z2 (0:Int);cond (decide (z2<(0:Int))) (some (B7u (-1:Int))) (cond (z1.1==0) (some (B7u (z1.2.1))) (cond (z1.1==1) (some (B7u (z1.2.2))) none)))) (by kernel_rfl) ?_
 exact (H7 B7u hp (fun hp=>rfl) (fun hp=>(H7 B7u hp (fun hp=>rfl) (fun hp=>(A6T hp fun _h=>rfl)))))
theorem F1s:aPP 25 (A2z C1U C8f D5S):=pcD true G14 (hl1 (i:=0) (by kernel_rfl) E4Q) E71
noncomputable def S15:Tab:=Tab.add S14 25 (lift (A2z C1U C8f D5S))
noncomputable def F7X:FuncId→Bool:=qadd F7V 25
theorem G15:aPG S15 F7X:=G14.addQ F1s (cbl Tryz.f25) (fun _=>rfl)

abbrev C1R:List PSh:=[.agg [(.int .i64),tq7],.t (.int .i64)]
noncomputable def C2N (a0:Int) (a1:Lq2) (a2:Int):Int:=(cond (decide ((Y5 a1 a2)<(0:Int))) (-1:Int) (Y5 a1 a2))
noncomputable abbrev C7r (r:Int):AV×List AObj:=((ti r),[])
noncomputable abbrev D5P:F5 C1R→AV×List AObj:=fun d=>C7r (C2N d.1.1 d.1.2.1 d.2.1)
noncomputable def B7I (a0:Int) (a1:Lq2) (a2:Int):Bool:=B3S a1 a2
noncomputable abbrev C8c:F5 C1R→Bool:=fun d=>B7I d.1.1 d.1.2.1 d.2.1
theorem E7Y:A6Q true G15 aLn Tryz.f60 C1R C8c D5P:=by
 rintro ⟨⟨a0,⟨a1,_⟩⟩,⟨a2,_⟩⟩ hp
 change B7I a0 a1 a2=true at hp
 unfold B7I at hp
 refine Eq.trans (b:=(cond (B3S a1 a2) (cond (decide ((Y5 a1 a2)<(0:Int))) (some (C7r (-1:Int))) (some (C7r (Y5 a1 a2)))) none)) (by kernel_rfl) ?_
 exact (A6T hp fun _h=>(L7 C7r (fun _h=>rfl) (fun _h=>rfl)))
theorem F1p:aPP 60 (A2z C1R C8c D5P):=pcD true G15 hlz E7Y
noncomputable def S16:Tab:=Tab.add S15 60 (lift (A2z C1R C8c D5P))
noncomputable def F7Y:FuncId→Bool:=qadd F7X 60
theorem G16:aPG S16 F7Y:=G15.addQ F1p (cbl Tryz.f60) (fun _=>rfl)

abbrev tq9:Ty:=.sl (.pair (.int .i64) (.sl (.pair (.int .i64) (.pair .str .str))))
abbrev Lq6:=List (Int×List (Int×ByteArray×ByteArray))
abbrev B8L:List PSh:=[.t tq9,.t (.int .i64)]
abbrev A8N:SS:=⟨(.t false tq9::tI::.junk::.junk::.junk::tI::B9R),[]⟩
abbrev C8V:SS:=⟨(.junk::.junk::.junk::.junk::tI::C94),[]⟩
abbrev C8W:SS:=⟨(.junk::tI::C95),[]⟩
noncomputable def D2X (x0:Lq6) (x1 x5:Int):RT A8N.den:=let z1:=x0.getD x5.toNat ((0:Int),[]);let z2:=C2N (z1.1) (z1.2) x1;(.br (decide (x5<(x0.length:Int))) (.br (decide (0≤x5∧x5<(x0.length:Int))) (.br (B7I (z1.1) (z1.2) x1) (.br (decide (z2<(0:Int))) (.done .ret C8V (((),(),(),(),(-1:Int),u23),())) (.next ((x0,z2,(),(),(),wI (x5+(1:Int)),u22),()))) .fail) .fail) (.done (.exit 0) C8W (((),x1,u26),())))
abbrev B7W:=(Lq6)×(Int)×(Int)
abbrev B3o:=Nat×(Int)×(Int)
def C2z:B3o:=(99,((0:Int):Int),((0:Int):Int))
noncomputable def B6L (x0:Lq6) (x1 x5:Int):B7W ⊕ B3o:=let z1:=x0.getD x5.toNat ((0:Int),[]);let z2:=C2N (z1.1) (z1.2) x1;(cond (decide (x5<(x0.length:Int))) (cond (decide (0≤x5∧x5<(x0.length:Int))) (cond (B7I (z1.1) (z1.2) x1) (cond (decide (z2<(0:Int))) (.inr (0,(-1:Int),((0:Int):Int))) (.inl (x0,z2,wI (x5+(1:Int))))) (.inr C2z)) (.inr C2z)) (.inr (1,((0:Int):Int),x1)))
noncomputable def A9m (x0:Lq6) (x1 x5:Int):B3o:=itX (fun v:B7W=>B6L v.1 v.2.1 v.2.2) C2z (x0,x1,x5)
noncomputable def C2m (a:B3o):CT:=(.br (a.1==0) (.done .ret C8V (((),(),(),(),a.2.1,u23),())) (.br (a.1==1) (.done (.exit 0) C8W (((),a.2.2,u26),())) .fail))
noncomputable def E4t (x0:Lq6) (x1 x5:Int):CT:=C2m (A9m x0 x1 x5)
noncomputable abbrev C3m:A8N.den→RT A8N.den:=(fun d=>D2X d.1.1 d.1.2.1 d.1.2.2.2.2.2.1)
noncomputable def C53:Code:=((C4 0 (A0y Tryz.f26)).getD 0 (0,.skip)).2
noncomputable abbrev D19 (v:B7W):A8N.den:=((v.1,v.2.1,(),(),(),v.2.2,u22),())
theorem E3K:(∀ v:B7W,(D2X v.1 v.2.1 v.2.2).val=A5T D19 C2m (B6L v.1 v.2.1 v.2.2))∧∀ a:B3o,CEnd A8N.den (C2m a):=⟨fun v=>(A6V (A6V (A6V (A6V rfl rfl) rfl) rfl) rfl),fun a=>(A6I aCD (A6I aCD A6K))⟩
theorem E1l:RdA G16 aLn 0 C53 A8N 0 [] (kepts [4] [(0,[1])]) (fun d=>(C3m d).opt 0 []):=by
 intro d
 kernel_rfl
noncomputable abbrev C9I:St→Option Tree:=A8N.say 0 [] [] (fun d=>E4t d.1.1 d.1.2.1 d.1.2.2.2.2.2.1)
theorem E23:aPL C9I C53:=SS.wp2 hlz [] C3m E1l (fun d=>rfl) _ (fun d=>Runs.ofI2 (step:=C3m) D19 E3K rfl (d.1.1,d.1.2.1,d.1.2.2.2.2.2.1))
noncomputable def B2L (a0:Lq6) (a1:Int):Int:=let z2:=wI (a1 - (a0.length:Int));let z1:=A9m a0 z2 (0:Int);(cond (decide (z2<(0:Int))) (-1:Int) (cond (z1.1==0) (z1.2.1) (z1.2.2)))
noncomputable abbrev B4Y (r:Int):AV×List AObj:=((ti r),[])
noncomputable abbrev D1l:F5 B8L→AV×List AObj:=fun d=>B4Y (B2L d.1 d.2.1)
noncomputable def B2m (a0:Lq6) (a1:Int):Bool:=let z1:=wI (a1 - (a0.length:Int));let z2:=A9m a0 z1 (0:Int);cond (decide (z1<(0:Int))) true (cond (z2.1==0) true (z2.1==1))
noncomputable abbrev C4U:F5 B8L→Bool:=fun d=>B2m d.1 d.2.1
noncomputable abbrev E8o:Nat→St→Option Tree:=fun b=>match b with | 0=>C9I | _=>fun _=>none
theorem E5u:A6Q true G16 (E8o) Tryz.f26 B8L C4U D1l:=by
 rintro ⟨a0,⟨a1,_⟩⟩ hp
 change B2m a0 a1=true at hp
 unfold B2m at hp
 refine Eq.trans (b:=(let z2:=wI (a1 - (a0.length:Int));let z1:=A9m a0 z2 (0:Int);cond (decide (z2<(0:Int))) (some (B4Y (-1:Int))) (cond (z1.1==0) (some (B4Y (z1.2.1))) (cond (z1.1==1) (some (B4Y (z1.2.2))) none)))) (by kernel_rfl) ?_
 exact (H7 B4Y hp (fun hp=>rfl) (fun hp=>(H7 B4Y hp (fun hp=>rfl) (fun hp=>(A6T hp fun _h=>rfl)))))
theorem E8X:aPP 26 (A2z B8L C4U D1l):=pcD true G16 (hl1 (i:=0) (by kernel_rfl) E23) E5u
noncomputable def S17:Tab:=Tab.add S16 26 (lift (A2z B8L C4U D1l))
noncomputable def F7Z:FuncId→Bool:=qadd F7Y 26
theorem G17:aPG S17 F7Z:=G16.addQ E8X (cbl Tryz.f26) (fun _=>rfl)

abbrev C1V:List PSh:=[.agg [(.int .i64),(.int .i64),(.int .i64),tq5,K4,(.int .i64),tq3,tq4,tq4,tq9],.t (.int .i64)]
noncomputable def C2P (a0 a1 a2:Int) (a3:LT1) (a4:LIbe) (a5:Int) (a6:LT3) (a7 a8:LT2) (a9:Lq6) (a10:Int):Int:=let z3:=B3R a0 a1 a2 a3 a4 a5 a10;let z1:=B44 a6 z3;let z2:=A8E a8 (A8E a7 z1);(cond (decide (z3<(0:Int))) (-1:Int) (cond (decide (z1<(0:Int))) (-1:Int) (cond (decide ((A8E a7 z1)<(0:Int))) (-1:Int) (cond (decide (z2<(0:Int))) (-1:Int) (cond (decide ((B2L a9 z2)<(0:Int))) (-1:Int) (B2L a9 z2))))))
noncomputable abbrev B1U (r:Int):AV×List AObj:=((ti r),[])
noncomputable abbrev D5T:F5 C1V→AV×List AObj:=fun d=>B1U (C2P d.1.1 d.1.2.1 d.1.2.2.1 d.1.2.2.2.1 d.1.2.2.2.2.1 d.1.2.2.2.2.2.1 d.1.2.2.2.2.2.2.1 d.1.2.2.2.2.2.2.2.1 d.1.2.2.2.2.2.2.2.2.1 d.1.2.2.2.2.2.2.2.2.2.1 d.2.1)
noncomputable def B4B (a0 a1 a2:Int) (a3:LT1) (a4:LIbe) (a5:Int) (a6:LT3) (a7 a8:LT2) (a9:Lq6) (a10:Int):Bool:=let z2:=B3R a0 a1 a2 a3 a4 a5 a10;let z1:=B44 a6 z2;let z3:=A8E a7 z1;(B4z a0 a1 a2 a3 a4 a5 a10)&&(cond (decide (z2<(0:Int))) true ((B2n a6 z2)&&(cond (decide (z1<(0:Int))) true ((A97 a7 z1)&&(cond (decide (z3<(0:Int))) true ((A97 a8 z3)&&(cond (decide ((A8E a8 z3)<(0:Int))) true (B2m a9 (A8E a8 z3)))))))))
noncomputable abbrev C8g:F5 C1V→Bool:=fun d=>B4B d.1.1 d.1.2.1 d.1.2.2.1 d.1.2.2.2.1 d.1.2.2.2.2.1 d.1.2.2.2.2.2.1 d.1.2.2.2.2.2.2.1 d.1.2.2.2.2.2.2.2.1 d.1.2.2.2.2.2.2.2.2.1 d.1.2.2.2.2.2.2.2.2.2.1 d.2.1
theorem E72:A6Q true G17 aLn Tryz.f10 C1V C8g D5T:=by
 rintro ⟨⟨a0,⟨a1,⟨a2,⟨a3,⟨a4,⟨a5,⟨a6,⟨a7,⟨a8,⟨a9,_⟩⟩⟩⟩⟩⟩⟩⟩⟩⟩,⟨a10,_⟩⟩ hp
 change B4B a0 a1 a2 a3 a4 a5 a6 a7 a8 a9 a10=true at hp
 unfold B4B at hp
 refine Eq.trans (b:=(let z3:=B1U (-1:Int);let z4:=B3R a0 a1 a2 a3 a4 a5 a10;let z1:=B44 a6 z4;let z5:=A8E a7 z1;let z2:=A8E a8 z5;cond (B4z a0 a1 a2 a3 a4 a5 a10) (cond (decide (z4<(0:Int))) (some z3) (cond (B2n a6 z4) (cond (decide (z1<(0:Int))) (some z3) (cond (A97 a7 z1) (cond (decide (z5<(0:Int))) (some z3) (cond (A97 a8 z5) (cond (decide (z2<(0:Int))) (some z3) (cond (B2m a9 z2) (cond (decide ((B2L a9 z2)<(0:Int))) (some z3) (some (B1U (B2L a9 z2)))) none)) none)) none)) none)) none)) (by kernel_rfl) ?_
 exact (A6R hp fun hp=>(H7 B1U hp (fun hp=>rfl) (fun hp=>(A6R hp fun hp=>(H7 B1U hp (fun hp=>rfl) (fun hp=>(A6R hp fun hp=>(H7 B1U hp (fun hp=>rfl) (fun hp=>(A6R hp fun hp=>(H7 B1U hp (fun hp=>rfl) (fun hp=>(A6T hp fun _h=>(L7 B1U (fun _h=>rfl) (fun _h=>rfl)))))))))))))))
theorem F1t:aPP 10 (A2z C1V C8g D5T):=pcD true G17 hlz E72
noncomputable def S18:Tab:=Tab.add S17 10 (lift (A2z C1V C8g D5T))
noncomputable def F70:FuncId→Bool:=qadd F7Z 10
theorem G18:aPG S18 F70:=G17.addQ F1t (cbl Tryz.f10) (fun _=>rfl)

abbrev D66:List PSh:=[.agg [(.int .i64),.str,.str]]
noncomputable def E0o (a0:Int) (a1 a2:ByteArray):Int×ByteArray×ByteArray:=(a0,a1,a2)
noncomputable abbrev F5I (r:Int×ByteArray×ByteArray):AV×List AObj:=((.agg [(ti r.1),(.t true .str r.2.1),(.t true .str r.2.2)]),[])
noncomputable abbrev E6G:F5 D66→AV×List AObj:=fun d=>F5I (E0o d.1.1 d.1.2.1 d.1.2.2.1)
noncomputable abbrev D9F:F5 D66→Bool:=fun d=>true
theorem F3K:A6Q true G18 aLn Tryz.f157 D66 D9F E6G:=by
 rintro ⟨⟨a0,⟨a1,⟨a2,_⟩⟩⟩,_⟩ hp
 kernel_rfl
theorem F5B:aPP 157 (A2z D66 D9F E6G):=pcD true G18 hlz F3K
noncomputable def S19:Tab:=Tab.add S18 157 (lift (A2z D66 D9F E6G))
noncomputable def F71:FuncId→Bool:=qadd F70 157
theorem G19:aPG S19 F71:=G18.addQ F5B (cbl Tryz.f157) (fun _=>rfl)

abbrev D1v:List Sh:=.junk::.junk::.junk::.junk::.junk::.junk::.junk::.junk::.junk::.junk::.junk::.junk::.junk::.junk::.junk::.junk::.junk::.junk::[]
abbrev F41:Ty:=.pair (.int .i64) (.pair .str .str)
abbrev E2X:List Sh:=.junk::D1v
abbrev u19:=((),(),(),(),(),(),(),(),(),(),(),(),(),(),(),(),(),(),())
abbrev u24:=((),u23)
noncomputable def C7t (x0:Lq2) (i:Nat):Int×ByteArray×ByteArray:=(((E0o ((x0.getD i ((0:Int),(bE,bE))).1) (((x0.getD i ((0:Int),(bE,bE))).2).1) (((x0.getD i ((0:Int),(bE,bE))).2).2)).1),(((E0o ((x0.getD i ((0:Int),(bE,bE))).1) (((x0.getD i ((0:Int),(bE,bE))).2).1) (((x0.getD i ((0:Int),(bE,bE))).2).2)).2.1),((E0o ((x0.getD i ((0:Int),(bE,bE))).1) (((x0.getD i ((0:Int),(bE,bE))).2).1) (((x0.getD i ((0:Int),(bE,bE))).2).2)).2.2)))
abbrev D0F:List PSh:=[.t tq7]
abbrev B4j:SS:=⟨(.t false tq7::.junk::.junk::.all 0 3::tI::D1v),[.rows 69 true F41]⟩
abbrev C66:SS:=⟨(.junk::.junk::.junk::.all 0 3::E2X),[.rows 69 true F41]⟩
noncomputable def D2Z (x0:Lq2) (x4:Int) (h0:Lq2):RT B4j.den:=let z2:=x0.getD x4.toNat ((0:Int),(bE,bE));let z1:=E0o (z2.1) ((z2.2).1) ((z2.2).2);(.br (decide (x4<(x0.length:Int))) (.br (decide (0≤x4∧x4<(x0.length:Int))) (.br (decide (0≤x4∧x4<(h0.length:Int))) (.next ((x0,(),(),(),wI (x4+(1:Int)),u19),(h0.set x4.toNat ((z1.1),((z1.2.1),(z1.2.2))),()))) .fail) .fail) (.done (.exit 0) C66 ((u24),(h0,()))))
noncomputable def C19 (x0:Lq2) (x4:Int) (h0:Lq2):CT:=(.br (decide (0≤x4)&&(decide (h0.length=x0.length)&&okL x0)) (.done (.exit 0) C66 ((u24),((foldN (fun i h=>h.set i (C7t x0 i)) (x0.length - x4.toNat) x4.toNat h0),()))) .fail)
noncomputable abbrev B5g:B4j.den→RT B4j.den:=(fun d=>D2Z d.1.1 d.1.2.2.2.2.1 d.2.1)
noncomputable abbrev E0D (x0:Lq2) (x4:Int) (h0:Lq2):B4j.den:=((x0,(),(),(),x4,u19),(h0,()))
noncomputable def D4n:Code:=((C4 0 (A0y Tryz.f114)).getD 0 (0,.skip)).2
theorem F00 (x0:Lq2) (x4:Int) (h0:Lq2):(C19 x0 x4 h0).val (D:=B4j.den)=.fail∨Runs B5g (E0D x0 x4 h0) (C19 x0 x4 h0).val:=by
 cases hc:(decide (0≤x4)&&(decide (h0.length=x0.length)&&okL x0)) with
 | false=>left;simp only [C19,CT.val,hc,cond_false]
 | true =>
  right
  simp only [C19,CT.val,hc,cond_true]
  simp only [Bool.and_eq_true,decide_eq_true_eq] at hc
  obtain ⟨i,rfl⟩:=Int.eq_ofNat_of_zero_le hc.1
  have hs:=A6E hc.2.2
  simp only [Int.toNat_natCast]
  refine Runs.foldN (step:=B5g) (fun j b=>E0D x0 (j:Int) b) (fun _ b=>b.length=x0.length) (x0.length) (fun i h=>h.set i (C7t x0 i))
   (fin:=fun b=>((.done (.exit 0) C66 ((u24),(b,()))):CT).val) (fun i b hi hb=>⟨by simpa using hb,?_⟩) (fun i b hi hb=>?_) (x0.length - i) i h0 rfl hc.2.1
  ·
   have h0a:decide ((i:Int)<(x0.length:Int))=true:=decide_eq_true (by omega)
   have h0b:decide (0≤(i:Int)∧(i:Int)<(x0.length:Int))=true:=decide_eq_true (by omega)
   have h9:decide (0≤(i:Int)∧(i:Int)<(b.length:Int))=true:=decide_eq_true (by omega)
   simp only [B5g,D2Z,RT.val,h0a,h0b,h9,cond_true,A6M i (by omega),Int.toNat_natCast]
   rfl
  ·have h1:decide ((i:Int)<(x0.length:Int))=false:=decide_eq_false (by omega)
   exact ⟨by simp only [B5g,D2Z,RT.val,h1,cond_false];rfl,_,_,_,rfl,by simp⟩
theorem E7l:RdA G19 aLn 0 D4n B4j 0 [] (kepts [] [(0,[3])]) (fun d=>(B5g d).opt 0 []):=by
 intro d
 kernel_rfl
noncomputable abbrev D8v:St→Option Tree:=B4j.say 0 [] [] (fun d=>C19 d.1.1 d.1.2.2.2.2.1 d.2.1)
theorem E9P:aPL D8v D4n:=SS.wp2 hlz [] B5g E7l (fun d=>rfl) _ (fun d=>F00 d.1.1 d.1.2.2.2.2.1 d.2.1)
noncomputable def C2Q (a0:Lq2):Lq2:=(foldN (fun i h=>h.set i (C7t a0 i)) (a0.length - (0:Int).toNat) (0:Int).toNat (List.replicate (a0.length:Int).toNat ((0:Int),(bE,bE))))
noncomputable abbrev E9k (r:Lq2):AV×List AObj:=((.t true tq7 r),[])
noncomputable abbrev E2L:F5 D0F→AV×List AObj:=fun d=>E9k (C2Q d.1)
noncomputable def B2o (a0:Lq2):Bool:=okL a0
noncomputable abbrev D6r:F5 D0F→Bool:=fun d=>B2o d.1
noncomputable abbrev F33:Nat→St→Option Tree:=fun b=>match b with | 0=>D8v | _=>fun _=>none
theorem F17:A6Q true G19 (F33) Tryz.f114 D0F D6r E2L:=by
 rintro ⟨a0,_⟩ hp
 change B2o a0=true at hp
 unfold B2o at hp
 refine Eq.trans (b:=(cond (decide (0≤(a0.length:Int)∧(a0.length:Int)=(a0.length:Int)∧(a0.length:Int).toNat*40≤MAXB∧(a0.length:Int)≤9223372036854775807)) (cond (decide (0≤(0:Int))&&(decide ((List.replicate (a0.length:Int).toNat ((0:Int),((⟨#[]⟩:ByteArray),(⟨#[]⟩:ByteArray)))).length=a0.length)&&okL a0)) (some (E9k (foldN (fun i h=>h.set i (C7t a0 i)) (a0.length - (0:Int).toNat) (0:Int).toNat (List.replicate (a0.length:Int).toNat ((0:Int),((⟨#[]⟩:ByteArray),(⟨#[]⟩:ByteArray))))))) none) none)) (by kernel_rfl) ?_
 exact (A6T (by first | rfl | decide | exact hp | (simp only [Bool.and_eq_true] at hp;simp only [hp];done) | (simp [*];done) | (simp [okL] at hp;simp [okL,MAXB];omega) | (simp_all;done) | (simp at *;omega)) (fun _h=>(A6T (by first | rfl | decide | exact hp | (simp only [Bool.and_eq_true] at hp;simp only [hp];done) | (simp [*];done) | (simp [okL] at hp;simp [okL,MAXB];omega) | (simp_all;done) | (simp at *;omega)) (fun _h=>rfl))))
theorem F4q:aPP 114 (A2z D0F D6r E2L):=pcD true G19 (hl1 (i:=0) (by kernel_rfl) E9P) F17
noncomputable def S20:Tab:=Tab.add S19 114 (lift (A2z D0F D6r E2L))
noncomputable def F72:FuncId→Bool:=qadd F71 114
theorem G20:aPG S20 F72:=G19.addQ F4q (cbl Tryz.f114) (fun _=>rfl)

abbrev E9E:List Sh:=.junk::.junk::.junk::.junk::.junk::.junk::.junk::.junk::.junk::.junk::.junk::.junk::.junk::.junk::.junk::.junk::.junk::[]
abbrev u18:=((),(),(),(),(),(),(),(),(),(),(),(),(),(),(),(),(),())
noncomputable def C32 (x0:List Int) (i:Nat):Int:=(x0.getD i (0:Int))
abbrev C5O:List PSh:=[.t A9x]
abbrev B1F:SS:=⟨(.t false A9x::.junk::.junk::.all 0 1::tI::E9E),[.rows 3 true (.int .i64)]⟩
abbrev C4v:SS:=⟨(.junk::.junk::.junk::.all 0 1::D1v),[.rows 3 true (.int .i64)]⟩
noncomputable def C8O (x0:List Int) (x4:Int) (h0:List Int):RT B1F.den:=(.br (decide (x4<(x0.length:Int))) (.br (decide (0≤x4∧x4<(x0.length:Int))) (.br (decide (0≤x4∧x4<(h0.length:Int))) (.next ((x0,(),(),(),wI (x4+(1:Int)),u18),(h0.set x4.toNat (x0.getD x4.toNat (0:Int)),()))) .fail) .fail) (.done (.exit 0) C4v ((u23),(h0,()))))
noncomputable def B8W (x0:List Int) (x4:Int) (h0:List Int):CT:=(.br (decide (0≤x4)&&(decide (h0.length=x0.length)&&okL x0)) (.done (.exit 0) C4v ((u23),((foldN (fun i h=>h.set i (C32 x0 i)) (x0.length - x4.toNat) x4.toNat h0),()))) .fail)
noncomputable abbrev B20:B1F.den→RT B1F.den:=(fun d=>C8O d.1.1 d.1.2.2.2.2.1 d.2.1)
noncomputable abbrev D7Y (x0:List Int) (x4:Int) (h0:List Int):B1F.den:=((x0,(),(),(),x4,u18),(h0,()))
noncomputable def D0Z:Code:=((C4 0 (A0y Tryz.f154)).getD 0 (0,.skip)).2
theorem E8z (x0:List Int) (x4:Int) (h0:List Int):(B8W x0 x4 h0).val (D:=B1F.den)=.fail∨Runs B20 (D7Y x0 x4 h0) (B8W x0 x4 h0).val:=by
 cases hc:(decide (0≤x4)&&(decide (h0.length=x0.length)&&okL x0)) with
 | false=>left;simp only [B8W,CT.val,hc,cond_false]
 | true =>
  right
  simp only [B8W,CT.val,hc,cond_true]
  simp only [Bool.and_eq_true,decide_eq_true_eq] at hc
  obtain ⟨i,rfl⟩:=Int.eq_ofNat_of_zero_le hc.1
  have hs:=A6E hc.2.2
  simp only [Int.toNat_natCast]
  refine Runs.foldN (step:=B20) (fun j b=>D7Y x0 (j:Int) b) (fun _ b=>b.length=x0.length) (x0.length) (fun i h=>h.set i (C32 x0 i))
   (fin:=fun b=>((.done (.exit 0) C4v ((u23),(b,()))):CT).val) (fun i b hi hb=>⟨by simpa using hb,?_⟩) (fun i b hi hb=>?_) (x0.length - i) i h0 rfl hc.2.1
  ·
   have h0a:decide ((i:Int)<(x0.length:Int))=true:=decide_eq_true (by omega)
   have h0b:decide (0≤(i:Int)∧(i:Int)<(x0.length:Int))=true:=decide_eq_true (by omega)
   have h9:decide (0≤(i:Int)∧(i:Int)<(b.length:Int))=true:=decide_eq_true (by omega)
   simp only [B20,C8O,RT.val,h0a,h0b,h9,cond_true,A6M i (by omega),Int.toNat_natCast]
   rfl
  ·have h1:decide ((i:Int)<(x0.length:Int))=false:=decide_eq_false (by omega)
   exact ⟨by simp only [B20,C8O,RT.val,h1,cond_false];rfl,_,_,_,rfl,by simp⟩
theorem E43:RdA G20 aLn 0 D0Z B1F 0 [] (kepts [] [(0,[3])]) (fun d=>(B20 d).opt 0 []):=by
 intro d
 kernel_rfl
noncomputable abbrev D40:St→Option Tree:=B1F.say 0 [] [] (fun d=>B8W d.1.1 d.1.2.2.2.2.1 d.2.1)
theorem E65:aPL D40 D0Z:=SS.wp2 hlz [] B20 E43 (fun d=>rfl) _ (fun d=>E8z d.1.1 d.1.2.2.2.2.1 d.2.1)
noncomputable def E1V (a0:List Int):List Int:=(foldN (fun i h=>h.set i (C32 a0 i)) (a0.length - (0:Int).toNat) (0:Int).toNat (List.replicate (a0.length:Int).toNat (0:Int)))
noncomputable abbrev E5L (r:List Int):AV×List AObj:=((.t true A9x r),[])
noncomputable abbrev D9i:F5 C5O→AV×List AObj:=fun d=>E5L (E1V d.1)
noncomputable def C1o (a0:List Int):Bool:=okL a0
noncomputable abbrev D1W:F5 C5O→Bool:=fun d=>C1o d.1
noncomputable abbrev F2L:Nat→St→Option Tree:=fun b=>match b with | 0=>D40 | _=>fun _=>none
theorem F0q:A6Q true G20 (F2L) Tryz.f154 C5O D1W D9i:=by
 rintro ⟨a0,_⟩ hp
 change C1o a0=true at hp
 unfold C1o at hp
 refine Eq.trans (b:=(cond (decide (0≤(a0.length:Int)∧(a0.length:Int)=(a0.length:Int)∧(a0.length:Int).toNat*8≤MAXB∧(a0.length:Int)≤9223372036854775807)) (cond (decide (0≤(0:Int))&&(decide ((List.replicate (a0.length:Int).toNat (0:Int)).length=a0.length)&&okL a0)) (some (E5L (foldN (fun i h=>h.set i (C32 a0 i)) (a0.length - (0:Int).toNat) (0:Int).toNat (List.replicate (a0.length:Int).toNat (0:Int))))) none) none)) (by kernel_rfl) ?_
 exact (A6T (by first | rfl | decide | exact hp | (simp only [Bool.and_eq_true] at hp;simp only [hp];done) | (simp [*];done) | (simp [okL] at hp;simp [okL,MAXB];omega) | (simp_all;done) | (simp at *;omega)) (fun _h=>(A6T (by first | rfl | decide | exact hp | (simp only [Bool.and_eq_true] at hp;simp only [hp];done) | (simp [*];done) | (simp [okL] at hp;simp [okL,MAXB];omega) | (simp_all;done) | (simp at *;omega)) (fun _h=>rfl))))
theorem F3d:aPP 154 (A2z C5O D1W D9i):=pcD true G20 (hl1 (i:=0) (by kernel_rfl) E65) F0q
noncomputable def S21:Tab:=Tab.add S20 154 (lift (A2z C5O D1W D9i))
noncomputable def F73:FuncId→Bool:=qadd F72 154
theorem G21:aPG S21 F73:=G20.addQ F3d (cbl Tryz.f154) (fun _=>rfl)

abbrev D0E:List PSh:=[.agg [(.int .i64),tq7,(.int .i64),A9x]]
noncomputable def E6W (a0:Int) (a1:Lq2) (a2:Int) (a3:List Int):Int×Lq2×Int×List Int:=(a0,(C2Q a1),a2,(E1V a3))
noncomputable abbrev E9j (r:Int×Lq2×Int×List Int):AV×List AObj:=((.agg [(ti r.1),(.t true tq7 r.2.1),(ti r.2.2.1),(.t true A9x r.2.2.2)]),[])
noncomputable abbrev E2K:F5 D0E→AV×List AObj:=fun d=>E9j (E6W d.1.1 d.1.2.1 d.1.2.2.1 d.1.2.2.2.1)
noncomputable def C3c (a0:Int) (a1:Lq2) (a2:Int) (a3:List Int):Bool:=(B2o a1)&&(C1o a3)
noncomputable abbrev D6q:F5 D0E→Bool:=fun d=>C3c d.1.1 d.1.2.1 d.1.2.2.1 d.1.2.2.2.1
theorem F16:A6Q true G21 aLn Tryz.f110 D0E D6q E2K:=by
 rintro ⟨⟨a0,⟨a1,⟨a2,⟨a3,_⟩⟩⟩⟩,_⟩ hp
 change C3c a0 a1 a2 a3=true at hp
 unfold C3c at hp
 refine Eq.trans (b:=(cond (B2o a1) (cond (C1o a3) (some (E9j (a0,(C2Q a1),a2,(E1V a3)))) none) none)) (by kernel_rfl) ?_
 exact (A6R hp fun hp=>(A6T hp fun _h=>rfl))
theorem F4p:aPP 110 (A2z D0E D6q E2K):=pcD true G21 hlz F16
noncomputable def S22:Tab:=Tab.add S21 110 (lift (A2z D0E D6q E2K))
noncomputable def F74:FuncId→Bool:=qadd F73 110
theorem G22:aPG S22 F74:=G21.addQ F4p (cbl Tryz.f110) (fun _=>rfl)

abbrev G0E:Ty:=.pair (.int .i64) (.pair (.sl (.pair (.int .i64) (.pair .str .str))) (.pair (.int .i64) (.sl (.int .i64))))
abbrev C5P:List PSh:=[.t tq5]
abbrev B1G:SS:=⟨(.t false tq5::.junk::.junk::.all 0 4::tI::D1v),[.rows 98 true G0E]⟩
abbrev D39:SS:=⟨(.junk::.junk::.junk::.all 0 4::E2X),[.rows 98 true G0E]⟩
noncomputable def D8J (x0:LT1) (x4:Int) (h0:LT1):RT B1G.den:=let z1:=x0.getD x4.toNat ((0:Int),([],((0:Int),[])));let z2:=E6W (z1.1) ((z1.2).1) (((z1.2).2).1) (((z1.2).2).2);(.br (decide (x4<(x0.length:Int))) (.br (decide (0≤x4∧x4<(x0.length:Int))) (.br (C3c (z1.1) ((z1.2).1) (((z1.2).2).1) (((z1.2).2).2)) (.br (decide (0≤x4∧x4<(h0.length:Int))) (.next ((x0,(),(),(),wI (x4+(1:Int)),u19),(h0.set x4.toNat ((z2.1),((z2.2.1),((z2.2.2.1),(z2.2.2.2)))),()))) .fail) .fail) .fail) (.done (.exit 0) D39 ((u24),(h0,()))))
abbrev B8Y:=LT1×(Int)×LT1
abbrev B4L:=Nat×LT1
def C0R:B4L:=(99,([]:LT1))
noncomputable def C06 (x0:LT1) (x4:Int) (h0:LT1):B8Y ⊕ B4L:=let z1:=x0.getD x4.toNat ((0:Int),([],((0:Int),[])));let z2:=E6W (z1.1) ((z1.2).1) (((z1.2).2).1) (((z1.2).2).2);(cond (decide (x4<(x0.length:Int))) (cond (decide (0≤x4∧x4<(x0.length:Int))) (cond (C3c (z1.1) ((z1.2).1) (((z1.2).2).1) (((z1.2).2).2)) (cond (decide (0≤x4∧x4<(h0.length:Int))) (.inl (x0,wI (x4+(1:Int)),h0.set x4.toNat ((z2.1),((z2.2.1),((z2.2.2.1),(z2.2.2.2)))))) (.inr C0R)) (.inr C0R)) (.inr C0R)) (.inr (0,h0)))
noncomputable def B6g (x0:LT1) (x4:Int) (h0:LT1):B4L:=itX (fun v:B8Y=>C06 v.1 v.2.1 v.2.2) C0R (x0,x4,h0)
noncomputable def C7i (a:B4L):CT:=(.br (a.1==0) (.done (.exit 0) D39 ((u24),(a.2,()))) .fail)
noncomputable def E8F (x0:LT1) (x4:Int) (h0:LT1):CT:=C7i (B6g x0 x4 h0)
noncomputable abbrev C8F:B1G.den→RT B1G.den:=(fun d=>D8J d.1.1 d.1.2.2.2.2.1 d.2.1)
noncomputable def D00:Code:=((C4 0 (A0y Tryz.f71)).getD 0 (0,.skip)).2
noncomputable abbrev D74 (v:B8Y):B1G.den:=((v.1,(),(),(),v.2.1,u19),(v.2.2,()))
theorem E7E:(∀ v:B8Y,(D8J v.1 v.2.1 v.2.2).val=A5T D74 C7i (C06 v.1 v.2.1 v.2.2))∧∀ a:B4L,CEnd B1G.den (C7i a):=⟨fun v=>(A6V (A6V (A6V (A6V rfl rfl) rfl) rfl) rfl),fun a=>(A6I aCD A6K)⟩
theorem E44:RdA G22 aLn 0 D00 B1G 0 [] (kepts [] [(0,[3])]) (fun d=>(C8F d).opt 0 []):=by
 intro d
 kernel_rfl
noncomputable abbrev D41:St→Option Tree:=B1G.say 0 [] [] (fun d=>E8F d.1.1 d.1.2.2.2.2.1 d.2.1)
theorem E66:aPL D41 D00:=SS.wp2 hlz [] C8F E44 (fun d=>rfl) _ (fun d=>Runs.ofI2 (step:=C8F) D74 E7E rfl (d.1.1,d.1.2.2.2.2.1,d.2.1))
noncomputable def D7J (a0:LT1):LT1:=((B6g a0 (0:Int) (List.replicate (a0.length:Int).toNat ((0:Int),([],((0:Int),[]))))).2)
noncomputable abbrev E5M (r:LT1):AV×List AObj:=((.t true tq5 r),[])
noncomputable abbrev D9j:F5 C5P→AV×List AObj:=fun d=>E5M (D7J d.1)
noncomputable def B7K (a0:LT1):Bool:=(decide (0≤(a0.length:Int)∧(a0.length:Int)=(a0.length:Int)∧(a0.length:Int).toNat*64≤MAXB∧(a0.length:Int)≤9223372036854775807))&&((B6g a0 (0:Int) (List.replicate (a0.length:Int).toNat ((0:Int),([],((0:Int),[]))))).1==0)
noncomputable abbrev D1X:F5 C5P→Bool:=fun d=>B7K d.1
noncomputable abbrev F2M:Nat→St→Option Tree:=fun b=>match b with | 0=>D41 | _=>fun _=>none
theorem F0r:A6Q true G22 (F2M) Tryz.f71 C5P D1X D9j:=by
 rintro ⟨a0,_⟩ hp
 change B7K a0=true at hp
 unfold B7K at hp
 refine Eq.trans (b:=(let z1:=B6g a0 (0:Int) (List.replicate (a0.length:Int).toNat ((0:Int),([],((0:Int),[]))));cond (decide (0≤(a0.length:Int)∧(a0.length:Int)=(a0.length:Int)∧(a0.length:Int).toNat*64≤MAXB∧(a0.length:Int)≤9223372036854775807)) (cond (z1.1==0) (some (E5M (z1.2))) none) none)) (by kernel_rfl) ?_
 exact (A6R hp fun hp=>(A6T hp fun _h=>rfl))
theorem F3e:aPP 71 (A2z C5P D1X D9j):=pcD true G22 (hl1 (i:=0) (by kernel_rfl) E66) F0r
noncomputable def S23:Tab:=Tab.add S22 71 (lift (A2z C5P D1X D9j))
noncomputable def F75:FuncId→Bool:=qadd F74 71
theorem G23:aPG S23 F75:=G22.addQ F3e (cbl Tryz.f71) (fun _=>rfl)

abbrev B8N:List PSh:=[.agg [(.int .i64),.bool]]
noncomputable def B7A (a0:Int) (a1:Bool):Int×Bool:=(a0,a1)
noncomputable abbrev E9i (r:Int×Bool):AV×List AObj:=((.agg [(ti r.1),(.t true .bool r.2)]),[])
noncomputable abbrev D1n:F5 B8N→AV×List AObj:=fun d=>E9i (B7A d.1.1 d.1.2.1)
noncomputable abbrev C4W:F5 B8N→Bool:=fun d=>true
theorem E5w:A6Q true G23 aLn Tryz.f111 B8N C4W D1n:=by
 rintro ⟨⟨a0,⟨a1,_⟩⟩,_⟩ hp
 kernel_rfl
theorem E8Z:aPP 111 (A2z B8N C4W D1n):=pcD true G23 hlz E5w
noncomputable def S24:Tab:=Tab.add S23 111 (lift (A2z B8N C4W D1n))
noncomputable def F76:FuncId→Bool:=qadd F75 111
theorem G24:aPG S24 F76:=G23.addQ E8Z (cbl Tryz.f111) (fun _=>rfl)

abbrev F6Q:Ty:=.pair (.int .i64) .bool
noncomputable def B50 (x0:LIbe) (i:Nat):Int×Bool:=(((B7A ((x0.getD i ((0:Int),false)).1) ((x0.getD i ((0:Int),false)).2)).1),((B7A ((x0.getD i ((0:Int),false)).1) ((x0.getD i ((0:Int),false)).2)).2))
abbrev B5B:List PSh:=[.t K4]
abbrev A7X:SS:=⟨(.t false K4::.junk::.junk::.all 0 2::tI::D1v),[.rows 42 true F6Q]⟩
abbrev B7b:SS:=⟨(.junk::.junk::.junk::.all 0 2::E2X),[.rows 42 true F6Q]⟩
noncomputable def C0a (x0:LIbe) (x4:Int) (h0:LIbe):RT A7X.den:=let z1:=x0.getD x4.toNat ((0:Int),false);let z2:=B7A (z1.1) (z1.2);(.br (decide (x4<(x0.length:Int))) (.br (decide (0≤x4∧x4<(x0.length:Int))) (.br (decide (0≤x4∧x4<(h0.length:Int))) (.next ((x0,(),(),(),wI (x4+(1:Int)),u19),(h0.set x4.toNat ((z2.1),(z2.2)),()))) .fail) .fail) (.done (.exit 0) B7b ((u24),(h0,()))))
noncomputable def B1P (x0:LIbe) (x4:Int) (h0:LIbe):CT:=(.br (decide (0≤x4)&&(decide (h0.length=x0.length)&&okL x0)) (.done (.exit 0) B7b ((u24),((foldN (fun i h=>h.set i (B50 x0 i)) (x0.length - x4.toNat) x4.toNat h0),()))) .fail)
noncomputable abbrev A8r:A7X.den→RT A7X.den:=(fun d=>C0a d.1.1 d.1.2.2.2.2.1 d.2.1)
noncomputable abbrev C9v (x0:LIbe) (x4:Int) (h0:LIbe):A7X.den:=((x0,(),(),(),x4,u19),(h0,()))
noncomputable def C3S:Code:=((C4 0 (A0y Tryz.f72)).getD 0 (0,.skip)).2
theorem E16 (x0:LIbe) (x4:Int) (h0:LIbe):(B1P x0 x4 h0).val (D:=A7X.den)=.fail∨Runs A8r (C9v x0 x4 h0) (B1P x0 x4 h0).val:=by
 cases hc:(decide (0≤x4)&&(decide (h0.length=x0.length)&&okL x0)) with
 | false=>left;simp only [B1P,CT.val,hc,cond_false]
 | true =>
  right
  simp only [B1P,CT.val,hc,cond_true]
  simp only [Bool.and_eq_true,decide_eq_true_eq] at hc
  obtain ⟨i,rfl⟩:=Int.eq_ofNat_of_zero_le hc.1
  have hs:=A6E hc.2.2
  simp only [Int.toNat_natCast]
  refine Runs.foldN (step:=A8r) (fun j b=>C9v x0 (j:Int) b) (fun _ b=>b.length=x0.length) (x0.length) (fun i h=>h.set i (B50 x0 i))
   (fin:=fun b=>((.done (.exit 0) B7b ((u24),(b,()))):CT).val) (fun i b hi hb=>⟨by simpa using hb,?_⟩) (fun i b hi hb=>?_) (x0.length - i) i h0 rfl hc.2.1
  ·
   have h0a:decide ((i:Int)<(x0.length:Int))=true:=decide_eq_true (by omega)
   have h0b:decide (0≤(i:Int)∧(i:Int)<(x0.length:Int))=true:=decide_eq_true (by omega)
   have h9:decide (0≤(i:Int)∧(i:Int)<(b.length:Int))=true:=decide_eq_true (by omega)
   simp only [A8r,C0a,RT.val,h0a,h0b,h9,cond_true,A6M i (by omega),Int.toNat_natCast]
   rfl
  ·have h1:decide ((i:Int)<(x0.length:Int))=false:=decide_eq_false (by omega)
   exact ⟨by simp only [A8r,C0a,RT.val,h1,cond_false];rfl,_,_,_,rfl,by simp⟩
theorem D9O:RdA G24 aLn 0 C3S A7X 0 [] (kepts [] [(0,[3])]) (fun d=>(A8r d).opt 0 []):=by
 intro d
 kernel_rfl
noncomputable abbrev C6T:St→Option Tree:=A7X.say 0 [] [] (fun d=>B1P d.1.1 d.1.2.2.2.2.1 d.2.1)
theorem E1c:aPL C6T C3S:=SS.wp2 hlz [] A8r D9O (fun d=>rfl) _ (fun d=>E16 d.1.1 d.1.2.2.2.2.1 d.2.1)
noncomputable def C7V (a0:LIbe):LIbe:=(foldN (fun i h=>h.set i (B50 a0 i)) (a0.length - (0:Int).toNat) (0:Int).toNat (List.replicate (a0.length:Int).toNat ((0:Int),false)))
noncomputable abbrev D7q (r:LIbe):AV×List AObj:=((.t true K4 r),[])
noncomputable abbrev C7C:F5 B5B→AV×List AObj:=fun d=>D7q (C7V d.1)
noncomputable def B2S (a0:LIbe):Bool:=okL a0
noncomputable abbrev C24:F5 B5B→Bool:=fun d=>B2S d.1
noncomputable abbrev E51:Nat→St→Option Tree:=fun b=>match b with | 0=>C6T | _=>fun _=>none
theorem E3Z:A6Q true G24 (E51) Tryz.f72 B5B C24 C7C:=by
 rintro ⟨a0,_⟩ hp
 change B2S a0=true at hp
 unfold B2S at hp
 refine Eq.trans (b:=(cond (decide (0≤(a0.length:Int)∧(a0.length:Int)=(a0.length:Int)∧(a0.length:Int).toNat*16≤MAXB∧(a0.length:Int)≤9223372036854775807)) (cond (decide (0≤(0:Int))&&(decide ((List.replicate (a0.length:Int).toNat ((0:Int),false)).length=a0.length)&&okL a0)) (some (D7q (foldN (fun i h=>h.set i (B50 a0 i)) (a0.length - (0:Int).toNat) (0:Int).toNat (List.replicate (a0.length:Int).toNat ((0:Int),false))))) none) none)) (by kernel_rfl) ?_
 exact (A6T (by first | rfl | decide | exact hp | (simp only [Bool.and_eq_true] at hp;simp only [hp];done) | (simp [*];done) | (simp [okL] at hp;simp [okL,MAXB];omega) | (simp_all;done) | (simp at *;omega)) (fun _h=>(A6T (by first | rfl | decide | exact hp | (simp only [Bool.and_eq_true] at hp;simp only [hp];done) | (simp [*];done) | (simp [okL] at hp;simp [okL,MAXB];omega) | (simp_all;done) | (simp at *;omega)) (fun _h=>rfl))))
theorem E6p:aPP 72 (A2z B5B C24 C7C):=pcD true G24 (hl1 (i:=0) (by kernel_rfl) E1c) E3Z
noncomputable def S25:Tab:=Tab.add S24 72 (lift (A2z B5B C24 C7C))
noncomputable def F77:FuncId→Bool:=qadd F76 72
theorem G25:aPG S25 F77:=G24.addQ E6p (cbl Tryz.f72) (fun _=>rfl)

abbrev C1W:List PSh:=[.agg [(.int .i64),(.int .i64),(.int .i64),tq5,K4,(.int .i64)]]
noncomputable def D1y (a0 a1 a2:Int) (a3:LT1) (a4:LIbe) (a5:Int):Int×Int×Int×LT1×LIbe×Int:=(a0,a1,a2,(D7J a3),(C7V a4),a5)
noncomputable abbrev E2o (r:Int×Int×Int×LT1×LIbe×Int):AV×List AObj:=((.agg [(ti r.1),(ti r.2.1),(ti r.2.2.1),(.t true tq5 r.2.2.2.1),(.t true K4 r.2.2.2.2.1),(ti r.2.2.2.2.2)]),[])
noncomputable abbrev D5U:F5 C1W→AV×List AObj:=fun d=>E2o (D1y d.1.1 d.1.2.1 d.1.2.2.1 d.1.2.2.2.1 d.1.2.2.2.2.1 d.1.2.2.2.2.2.1)
noncomputable def B4C (a0 a1 a2:Int) (a3:LT1) (a4:LIbe) (a5:Int):Bool:=(B7K a3)&&(B2S a4)
noncomputable abbrev C8h:F5 C1W→Bool:=fun d=>B4C d.1.1 d.1.2.1 d.1.2.2.1 d.1.2.2.2.1 d.1.2.2.2.2.1 d.1.2.2.2.2.2.1
theorem E73:A6Q true G25 aLn Tryz.f31 C1W C8h D5U:=by
 rintro ⟨⟨a0,⟨a1,⟨a2,⟨a3,⟨a4,⟨a5,_⟩⟩⟩⟩⟩⟩,_⟩ hp
 change B4C a0 a1 a2 a3 a4 a5=true at hp
 unfold B4C at hp
 refine Eq.trans (b:=(cond (B7K a3) (cond (B2S a4) (some (E2o (a0,a1,a2,(D7J a3),(C7V a4),a5))) none) none)) (by kernel_rfl) ?_
 exact (A6R hp fun hp=>(A6T hp fun _h=>rfl))
theorem F1u:aPP 31 (A2z C1W C8h D5U):=pcD true G25 hlz E73
noncomputable def S26:Tab:=Tab.add S25 31 (lift (A2z C1W C8h D5U))
noncomputable def F78:FuncId→Bool:=qadd F77 31
theorem G26:aPG S26 F78:=G25.addQ F1u (cbl Tryz.f31) (fun _=>rfl)

abbrev D0G:List PSh:=[.agg [(.int .i64),(.int .i64),tq7]]
noncomputable def E6X (a0 a1:Int) (a2:Lq2):Int×Int×Lq2:=(a0,a1,(C2Q a2))
noncomputable abbrev E9l (r:Int×Int×Lq2):AV×List AObj:=((.agg [(ti r.1),(ti r.2.1),(.t true tq7 r.2.2)]),[])
noncomputable abbrev E2M:F5 D0G→AV×List AObj:=fun d=>E9l (E6X d.1.1 d.1.2.1 d.1.2.2.1)
noncomputable def C6M (a0 a1:Int) (a2:Lq2):Bool:=okL a2
noncomputable abbrev D6s:F5 D0G→Bool:=fun d=>C6M d.1.1 d.1.2.1 d.1.2.2.1
theorem F18:A6Q true G26 aLn Tryz.f155 D0G D6s E2M:=by
 rintro ⟨⟨a0,⟨a1,⟨a2,_⟩⟩⟩,_⟩ hp
 change C6M a0 a1 a2=true at hp
 unfold C6M at hp
 refine Eq.trans (b:=(cond (B2o a2) (some (E9l (a0,a1,(C2Q a2)))) none)) (by kernel_rfl) ?_
 exact (A6T (by first | rfl | decide | exact hp | (simp only [Bool.and_eq_true] at hp;simp only [hp];done) | (simp [*];done) | (simp [okL] at hp;simp [okL,MAXB];omega) | (simp_all;done) | (simp at *;omega)) (fun _h=>rfl))
theorem F4r:aPP 155 (A2z D0G D6s E2M):=pcD true G26 hlz F18
noncomputable def S27:Tab:=Tab.add S26 155 (lift (A2z D0G D6s E2M))
noncomputable def F79:FuncId→Bool:=qadd F78 155
theorem G27:aPG S27 F79:=G26.addQ F4r (cbl Tryz.f155) (fun _=>rfl)

abbrev C5R:List PSh:=[.t tq8]
abbrev B1H:SS:=⟨(.t false tq8::.junk::.junk::.all 0 3::tI::D1v),[.rows 108 true B4I]⟩
abbrev D4a:SS:=⟨(.junk::.junk::.junk::.all 0 3::E2X),[.rows 108 true B4I]⟩
noncomputable def D8K (x0:Lq1) (x4:Int) (h0:Lq1):RT B1H.den:=let z1:=x0.getD x4.toNat ((0:Int),((0:Int),[]));let z2:=E6X (z1.1) ((z1.2).1) ((z1.2).2);(.br (decide (x4<(x0.length:Int))) (.br (decide (0≤x4∧x4<(x0.length:Int))) (.br (C6M (z1.1) ((z1.2).1) ((z1.2).2)) (.br (decide (0≤x4∧x4<(h0.length:Int))) (.next ((x0,(),(),(),wI (x4+(1:Int)),u19),(h0.set x4.toNat ((z2.1),((z2.2.1),(z2.2.2))),()))) .fail) .fail) .fail) (.done (.exit 0) D4a ((u24),(h0,()))))
abbrev C3L:=(Lq1)×(Int)×(Lq1)
abbrev B8y:=Nat×(Lq1)
def C0S:B8y:=(99,([]:Lq1))
noncomputable def C07 (x0:Lq1) (x4:Int) (h0:Lq1):C3L ⊕ B8y:=let z1:=x0.getD x4.toNat ((0:Int),((0:Int),[]));let z2:=E6X (z1.1) ((z1.2).1) ((z1.2).2);(cond (decide (x4<(x0.length:Int))) (cond (decide (0≤x4∧x4<(x0.length:Int))) (cond (C6M (z1.1) ((z1.2).1) ((z1.2).2)) (cond (decide (0≤x4∧x4<(h0.length:Int))) (.inl (x0,wI (x4+(1:Int)),h0.set x4.toNat ((z2.1),((z2.2.1),(z2.2.2))))) (.inr C0S)) (.inr C0S)) (.inr C0S)) (.inr (0,h0)))
noncomputable def B6h (x0:Lq1) (x4:Int) (h0:Lq1):B8y:=itX (fun v:C3L=>C07 v.1 v.2.1 v.2.2) C0S (x0,x4,h0)
noncomputable def C7j (a:B8y):CT:=(.br (a.1==0) (.done (.exit 0) D4a ((u24),(a.2,()))) .fail)
noncomputable def E8G (x0:Lq1) (x4:Int) (h0:Lq1):CT:=C7j (B6h x0 x4 h0)
noncomputable abbrev C8G:B1H.den→RT B1H.den:=(fun d=>D8K d.1.1 d.1.2.2.2.2.1 d.2.1)
noncomputable def D01:Code:=((C4 0 (A0y Tryz.f112)).getD 0 (0,.skip)).2
noncomputable abbrev D75 (v:C3L):B1H.den:=((v.1,(),(),(),v.2.1,u19),(v.2.2,()))
theorem E7F:(∀ v:C3L,(D8K v.1 v.2.1 v.2.2).val=A5T D75 C7j (C07 v.1 v.2.1 v.2.2))∧∀ a:B8y,CEnd B1H.den (C7j a):=⟨fun v=>(A6V (A6V (A6V (A6V rfl rfl) rfl) rfl) rfl),fun a=>(A6I aCD A6K)⟩
theorem E45:RdA G27 aLn 0 D01 B1H 0 [] (kepts [] [(0,[3])]) (fun d=>(C8G d).opt 0 []):=by
 intro d
 kernel_rfl
noncomputable abbrev D42:St→Option Tree:=B1H.say 0 [] [] (fun d=>E8G d.1.1 d.1.2.2.2.2.1 d.2.1)
theorem E67:aPL D42 D01:=SS.wp2 hlz [] C8G E45 (fun d=>rfl) _ (fun d=>Runs.ofI2 (step:=C8G) D75 E7F rfl (d.1.1,d.1.2.2.2.2.1,d.2.1))
noncomputable def C7X (a0:Lq1):Lq1:=((B6h a0 (0:Int) (List.replicate (a0.length:Int).toNat ((0:Int),((0:Int),[])))).2)
noncomputable abbrev E5N (r:Lq1):AV×List AObj:=((.t true tq8 r),[])
noncomputable abbrev D9l:F5 C5R→AV×List AObj:=fun d=>E5N (C7X d.1)
noncomputable def B2T (a0:Lq1):Bool:=(decide (0≤(a0.length:Int)∧(a0.length:Int)=(a0.length:Int)∧(a0.length:Int).toNat*40≤MAXB∧(a0.length:Int)≤9223372036854775807))&&((B6h a0 (0:Int) (List.replicate (a0.length:Int).toNat ((0:Int),((0:Int),[])))).1==0)
noncomputable abbrev D1Z:F5 C5R→Bool:=fun d=>B2T d.1
noncomputable abbrev F2N:Nat→St→Option Tree:=fun b=>match b with | 0=>D42 | _=>fun _=>none
theorem F0t:A6Q true G27 (F2N) Tryz.f112 C5R D1Z D9l:=by
 rintro ⟨a0,_⟩ hp
 change B2T a0=true at hp
 unfold B2T at hp
 refine Eq.trans (b:=(let z1:=B6h a0 (0:Int) (List.replicate (a0.length:Int).toNat ((0:Int),((0:Int),[])));cond (decide (0≤(a0.length:Int)∧(a0.length:Int)=(a0.length:Int)∧(a0.length:Int).toNat*40≤MAXB∧(a0.length:Int)≤9223372036854775807)) (cond (z1.1==0) (some (E5N (z1.2))) none) none)) (by kernel_rfl) ?_
 exact (A6R hp fun hp=>(A6T hp fun _h=>rfl))
theorem F3g:aPP 112 (A2z C5R D1Z D9l):=pcD true G27 (hl1 (i:=0) (by kernel_rfl) E67) F0t
noncomputable def S28:Tab:=Tab.add S27 112 (lift (A2z C5R D1Z D9l))
noncomputable def F8a:FuncId→Bool:=qadd F79 112
theorem G28:aPG S28 F8a:=G27.addQ F3g (cbl Tryz.f112) (fun _=>rfl)

abbrev C5Q:List PSh:=[.agg [.str,.str]]
noncomputable def C7W (a0 a1:ByteArray):ByteArray×ByteArray:=(a0,a1)
noncomputable abbrev F3o (r:ByteArray×ByteArray):AV×List AObj:=((.agg [(.t true .str r.1),(.t true .str r.2)]),[])
noncomputable abbrev D9k:F5 C5Q→AV×List AObj:=fun d=>F3o (C7W d.1.1 d.1.2.1)
noncomputable abbrev D1Y:F5 C5Q→Bool:=fun d=>true
theorem F0s:A6Q true G28 aLn Tryz.f156 C5Q D1Y D9k:=by
 rintro ⟨⟨a0,⟨a1,_⟩⟩,_⟩ hp
 kernel_rfl
theorem F3f:aPP 156 (A2z C5Q D1Y D9k):=pcD true G28 hlz F0s
noncomputable def S29:Tab:=Tab.add S28 156 (lift (A2z C5Q D1Y D9k))
noncomputable def F8b:FuncId→Bool:=qadd F8a 156
theorem G29:aPG S29 F8b:=G28.addQ F3f (cbl Tryz.f156) (fun _=>rfl)

abbrev L1:Ty:=.pair .str .str
noncomputable def C0O (x0:LBBe) (i:Nat):ByteArray×ByteArray:=(((C7W ((x0.getD i (bE,bE)).1) ((x0.getD i (bE,bE)).2)).1),((C7W ((x0.getD i (bE,bE)).1) ((x0.getD i (bE,bE)).2)).2))
abbrev C1Y:List PSh:=[.t Z3]
abbrev A9Y:SS:=⟨(.t false Z3::.junk::.junk::.all 0 2::tI::D1v),[.rows 105 true L1]⟩
abbrev C1y:SS:=⟨(.junk::.junk::.junk::.all 0 2::E2X),[.rows 105 true L1]⟩
noncomputable def C5g (x0:LBBe) (x4:Int) (h0:LBBe):RT A9Y.den:=let z1:=x0.getD x4.toNat (bE,bE);let z2:=C7W (z1.1) (z1.2);(.br (decide (x4<(x0.length:Int))) (.br (decide (0≤x4∧x4<(x0.length:Int))) (.br (decide (0≤x4∧x4<(h0.length:Int))) (.next ((x0,(),(),(),wI (x4+(1:Int)),u19),(h0.set x4.toNat ((z2.1),(z2.2)),()))) .fail) .fail) (.done (.exit 0) C1y ((u24),(h0,()))))
noncomputable def B5K (x0:LBBe) (x4:Int) (h0:LBBe):CT:=(.br (decide (0≤x4)&&(decide (h0.length=x0.length)&&okL x0)) (.done (.exit 0) C1y ((u24),((foldN (fun i h=>h.set i (C0O x0 i)) (x0.length - x4.toNat) x4.toNat h0),()))) .fail)
noncomputable abbrev B0N:A9Y.den→RT A9Y.den:=(fun d=>C5g d.1.1 d.1.2.2.2.2.1 d.2.1)
noncomputable abbrev D4F (x0:LBBe) (x4:Int) (h0:LBBe):A9Y.den:=((x0,(),(),(),x4,u19),(h0,()))
noncomputable def C9h:Code:=((C4 0 (A0y Tryz.f113)).getD 0 (0,.skip)).2
theorem E57 (x0:LBBe) (x4:Int) (h0:LBBe):(B5K x0 x4 h0).val (D:=A9Y.den)=.fail∨Runs B0N (D4F x0 x4 h0) (B5K x0 x4 h0).val:=by
 cases hc:(decide (0≤x4)&&(decide (h0.length=x0.length)&&okL x0)) with
 | false=>left;simp only [B5K,CT.val,hc,cond_false]
 | true =>
  right
  simp only [B5K,CT.val,hc,cond_true]
  simp only [Bool.and_eq_true,decide_eq_true_eq] at hc
  obtain ⟨i,rfl⟩:=Int.eq_ofNat_of_zero_le hc.1
  have hs:=A6E hc.2.2
  simp only [Int.toNat_natCast]
  refine Runs.foldN (step:=B0N) (fun j b=>D4F x0 (j:Int) b) (fun _ b=>b.length=x0.length) (x0.length) (fun i h=>h.set i (C0O x0 i))
   (fin:=fun b=>((.done (.exit 0) C1y ((u24),(b,()))):CT).val) (fun i b hi hb=>⟨by simpa using hb,?_⟩) (fun i b hi hb=>?_) (x0.length - i) i h0 rfl hc.2.1
  ·
   have h0a:decide ((i:Int)<(x0.length:Int))=true:=decide_eq_true (by omega)
   have h0b:decide (0≤(i:Int)∧(i:Int)<(x0.length:Int))=true:=decide_eq_true (by omega)
   have h9:decide (0≤(i:Int)∧(i:Int)<(b.length:Int))=true:=decide_eq_true (by omega)
   simp only [B0N,C5g,RT.val,h0a,h0b,h9,cond_true,A6M i (by omega),Int.toNat_natCast]
   rfl
  ·have h1:decide ((i:Int)<(x0.length:Int))=false:=decide_eq_false (by omega)
   exact ⟨by simp only [B0N,C5g,RT.val,h1,cond_false];rfl,_,_,_,rfl,by simp⟩
theorem E3v:RdA G29 aLn 0 C9h A9Y 0 [] (kepts [] [(0,[3])]) (fun d=>(B0N d).opt 0 []):=by
 intro d
 kernel_rfl
noncomputable abbrev D2F:St→Option Tree:=A9Y.say 0 [] [] (fun d=>B5K d.1.1 d.1.2.2.2.2.1 d.2.1)
theorem E4R:aPL D2F C9h:=SS.wp2 hlz [] B0N E3v (fun d=>rfl) _ (fun d=>E57 d.1.1 d.1.2.2.2.2.1 d.2.1)
noncomputable def D7L (a0:LBBe):LBBe:=(foldN (fun i h=>h.set i (C0O a0 i)) (a0.length - (0:Int).toNat) (0:Int).toNat (List.replicate (a0.length:Int).toNat (bE,bE)))
noncomputable abbrev E2q (r:LBBe):AV×List AObj:=((.t true Z3 r),[])
noncomputable abbrev D5W:F5 C1Y→AV×List AObj:=fun d=>E2q (D7L d.1)
noncomputable def B7M (a0:LBBe):Bool:=okL a0
noncomputable abbrev C8j:F5 C1Y→Bool:=fun d=>B7M d.1
noncomputable abbrev F0T:Nat→St→Option Tree:=fun b=>match b with | 0=>D2F | _=>fun _=>none
theorem E75:A6Q true G29 (F0T) Tryz.f113 C1Y C8j D5W:=by
 rintro ⟨a0,_⟩ hp
 change B7M a0=true at hp
 unfold B7M at hp
 refine Eq.trans (b:=(cond (decide (0≤(a0.length:Int)∧(a0.length:Int)=(a0.length:Int)∧(a0.length:Int).toNat*32≤MAXB∧(a0.length:Int)≤9223372036854775807)) (cond (decide (0≤(0:Int))&&(decide ((List.replicate (a0.length:Int).toNat ((⟨#[]⟩:ByteArray),(⟨#[]⟩:ByteArray))).length=a0.length)&&okL a0)) (some (E2q (foldN (fun i h=>h.set i (C0O a0 i)) (a0.length - (0:Int).toNat) (0:Int).toNat (List.replicate (a0.length:Int).toNat ((⟨#[]⟩:ByteArray),(⟨#[]⟩:ByteArray)))))) none) none)) (by kernel_rfl) ?_
 exact (A6T (by first | rfl | decide | exact hp | (simp only [Bool.and_eq_true] at hp;simp only [hp];done) | (simp [*];done) | (simp [okL] at hp;simp [okL,MAXB];omega) | (simp_all;done) | (simp at *;omega)) (fun _h=>(A6T (by first | rfl | decide | exact hp | (simp only [Bool.and_eq_true] at hp;simp only [hp];done) | (simp [*];done) | (simp [okL] at hp;simp [okL,MAXB];omega) | (simp_all;done) | (simp at *;omega)) (fun _h=>rfl))))
theorem F1w:aPP 113 (A2z C1Y C8j D5W):=pcD true G29 (hl1 (i:=0) (by kernel_rfl) E4R) E75
noncomputable def S30:Tab:=Tab.add S29 113 (lift (A2z C1Y C8j D5W))
noncomputable def F8c:FuncId→Bool:=qadd F8b 113
theorem G30:aPG S30 F8c:=G29.addQ F1w (cbl Tryz.f113) (fun _=>rfl)

abbrev C1Z:List PSh:=[.agg [(.int .i64),tq8,(.int .i64),Z3,tq8]]
noncomputable def D7M (a0:Int) (a1:Lq1) (a2:Int) (a3:LBBe) (a4:Lq1):Int×Lq1×Int×LBBe×Lq1:=(a0,(C7X a1),a2,(D7L a3),(C7X a4))
noncomputable abbrev E2r (r:Int×Lq1×Int×LBBe×Lq1):AV×List AObj:=((.agg [(ti r.1),(.t true tq8 r.2.1),(ti r.2.2.1),(.t true Z3 r.2.2.2.1),(.t true tq8 r.2.2.2.2)]),[])
noncomputable abbrev D5X:F5 C1Z→AV×List AObj:=fun d=>E2r (D7M d.1.1 d.1.2.1 d.1.2.2.1 d.1.2.2.2.1 d.1.2.2.2.2.1)
noncomputable def B4D (a0:Int) (a1:Lq1) (a2:Int) (a3:LBBe) (a4:Lq1):Bool:=(B2T a1)&&((B7M a3)&&(B2T a4))
noncomputable abbrev C8k:F5 C1Z→Bool:=fun d=>B4D d.1.1 d.1.2.1 d.1.2.2.1 d.1.2.2.2.1 d.1.2.2.2.2.1
theorem E76:A6Q true G30 aLn Tryz.f73 C1Z C8k D5X:=by
 rintro ⟨⟨a0,⟨a1,⟨a2,⟨a3,⟨a4,_⟩⟩⟩⟩⟩,_⟩ hp
 change B4D a0 a1 a2 a3 a4=true at hp
 unfold B4D at hp
 refine Eq.trans (b:=(cond (B2T a1) (cond (B7M a3) (cond (B2T a4) (some (E2r (a0,(C7X a1),a2,(D7L a3),(C7X a4)))) none) none) none)) (by kernel_rfl) ?_
 exact (A6R hp fun hp=>(A6R hp fun hp=>(A6T hp fun _h=>rfl)))
theorem F1x:aPP 73 (A2z C1Z C8k D5X):=pcD true G30 hlz E76
noncomputable def S31:Tab:=Tab.add S30 73 (lift (A2z C1Z C8k D5X))
noncomputable def F8d:FuncId→Bool:=qadd F8c 73
theorem G31:aPG S31 F8d:=G30.addQ F1x (cbl Tryz.f73) (fun _=>rfl)

abbrev G0B:Ty:=.pair (.int .i64) (.pair (.sl (.pair (.int .i64) (.pair (.int .i64) (.sl (.pair (.int .i64) (.pair .str .str)))))) (.pair (.int .i64) (.pair (.sl (.pair .str .str)) (.sl (.pair (.int .i64) (.pair (.int .i64) (.sl (.pair (.int .i64) (.pair .str .str)))))))))
abbrev B8P:List PSh:=[.t tq3]
abbrev A8Q:SS:=⟨(.t false tq3::.junk::.junk::.all 0 5::tI::D1v),[.rows 64 true G0B]⟩
abbrev C80:SS:=⟨(.junk::.junk::.junk::.all 0 5::E2X),[.rows 64 true G0B]⟩
noncomputable def D21 (x0:LT3) (x4:Int) (h0:LT3):RT A8Q.den:=let z1:=x0.getD x4.toNat ((0:Int),([],((0:Int),([],[]))));let z2:=D7M (z1.1) ((z1.2).1) (((z1.2).2).1) ((((z1.2).2).2).1) ((((z1.2).2).2).2);(.br (decide (x4<(x0.length:Int))) (.br (decide (0≤x4∧x4<(x0.length:Int))) (.br (B4D (z1.1) ((z1.2).1) (((z1.2).2).1) ((((z1.2).2).2).1) ((((z1.2).2).2).2)) (.br (decide (0≤x4∧x4<(h0.length:Int))) (.next ((x0,(),(),(),wI (x4+(1:Int)),u19),(h0.set x4.toNat ((z2.1),((z2.2.1),((z2.2.2.1),((z2.2.2.2.1),(z2.2.2.2.2))))),()))) .fail) .fail) .fail) (.done (.exit 0) C80 ((u24),(h0,()))))
abbrev B7Z:=LT3×(Int)×LT3
abbrev B3r:=Nat×LT3
def B55:B3r:=(99,([]:LT3))
noncomputable def B6O (x0:LT3) (x4:Int) (h0:LT3):B7Z ⊕ B3r:=let z1:=x0.getD x4.toNat ((0:Int),([],((0:Int),([],[]))));let z2:=D7M (z1.1) ((z1.2).1) (((z1.2).2).1) ((((z1.2).2).2).1) ((((z1.2).2).2).2);(cond (decide (x4<(x0.length:Int))) (cond (decide (0≤x4∧x4<(x0.length:Int))) (cond (B4D (z1.1) ((z1.2).1) (((z1.2).2).1) ((((z1.2).2).2).1) ((((z1.2).2).2).2)) (cond (decide (0≤x4∧x4<(h0.length:Int))) (.inl (x0,wI (x4+(1:Int)),h0.set x4.toNat ((z2.1),((z2.2.1),((z2.2.2.1),((z2.2.2.2.1),(z2.2.2.2.2))))))) (.inr B55)) (.inr B55)) (.inr B55)) (.inr (0,h0)))
noncomputable def B16 (x0:LT3) (x4:Int) (h0:LT3):B3r:=itX (fun v:B7Z=>B6O v.1 v.2.1 v.2.2) B55 (x0,x4,h0)
noncomputable def C2p (a:B3r):CT:=(.br (a.1==0) (.done (.exit 0) C80 ((u24),(a.2,()))) .fail)
noncomputable def E4w (x0:LT3) (x4:Int) (h0:LT3):CT:=C2p (B16 x0 x4 h0)
noncomputable abbrev C3p:A8Q.den→RT A8Q.den:=(fun d=>D21 d.1.1 d.1.2.2.2.2.1 d.2.1)
noncomputable def C56:Code:=((C4 0 (A0y Tryz.f32)).getD 0 (0,.skip)).2
noncomputable abbrev D2c (v:B7Z):A8Q.den:=((v.1,(),(),(),v.2.1,u19),(v.2.2,()))
theorem E3N:(∀ v:B7Z,(D21 v.1 v.2.1 v.2.2).val=A5T D2c C2p (B6O v.1 v.2.1 v.2.2))∧∀ a:B3r,CEnd A8Q.den (C2p a):=⟨fun v=>(A6V (A6V (A6V (A6V rfl rfl) rfl) rfl) rfl),fun a=>(A6I aCD A6K)⟩
theorem E1o:RdA G31 aLn 0 C56 A8Q 0 [] (kepts [] [(0,[3])]) (fun d=>(C3p d).opt 0 []):=by
 intro d
 kernel_rfl
noncomputable abbrev C9L:St→Option Tree:=A8Q.say 0 [] [] (fun d=>E4w d.1.1 d.1.2.2.2.2.1 d.2.1)
theorem E26:aPL C9L C56:=SS.wp2 hlz [] C3p E1o (fun d=>rfl) _ (fun d=>Runs.ofI2 (step:=C3p) D2c E3N rfl (d.1.1,d.1.2.2.2.2.1,d.2.1))
noncomputable def C6w (a0:LT3):LT3:=((B16 a0 (0:Int) (List.replicate (a0.length:Int).toNat ((0:Int),([],((0:Int),([],[])))))).2)
noncomputable abbrev E0d (r:LT3):AV×List AObj:=((.t true tq3 r),[])
noncomputable abbrev D1p:F5 B8P→AV×List AObj:=fun d=>E0d (C6w d.1)
noncomputable def B2q (a0:LT3):Bool:=(decide (0≤(a0.length:Int)∧(a0.length:Int)=(a0.length:Int)∧(a0.length:Int).toNat*88≤MAXB∧(a0.length:Int)≤9223372036854775807))&&((B16 a0 (0:Int) (List.replicate (a0.length:Int).toNat ((0:Int),([],((0:Int),([],[])))))).1==0)
noncomputable abbrev C4Y:F5 B8P→Bool:=fun d=>B2q d.1
noncomputable abbrev E8r:Nat→St→Option Tree:=fun b=>match b with | 0=>C9L | _=>fun _=>none
theorem E5y:A6Q true G31 (E8r) Tryz.f32 B8P C4Y D1p:=by
 rintro ⟨a0,_⟩ hp
 change B2q a0=true at hp
 unfold B2q at hp
 refine Eq.trans (b:=(let z1:=B16 a0 (0:Int) (List.replicate (a0.length:Int).toNat ((0:Int),([],((0:Int),([],[])))));cond (decide (0≤(a0.length:Int)∧(a0.length:Int)=(a0.length:Int)∧(a0.length:Int).toNat*88≤MAXB∧(a0.length:Int)≤9223372036854775807)) (cond (z1.1==0) (some (E0d (z1.2))) none) none)) (by kernel_rfl) ?_
 exact (A6R hp fun hp=>(A6T hp fun _h=>rfl))
theorem E81:aPP 32 (A2z B8P C4Y D1p):=pcD true G31 (hl1 (i:=0) (by kernel_rfl) E26) E5y
noncomputable def S32:Tab:=Tab.add S31 32 (lift (A2z B8P C4Y D1p))
noncomputable def F8e:FuncId→Bool:=qadd F8d 32
theorem G32:aPG S32 F8e:=G31.addQ E81 (cbl Tryz.f32) (fun _=>rfl)

abbrev C5S:List PSh:=[.agg [(.int .i64),(.int .i64),(.int .i64),tq7,.bool]]
noncomputable def E1W (a0 a1 a2:Int) (a3:Lq2) (a4:Bool):Int×Int×Int×Lq2×Bool:=(a0,a1,a2,(C2Q a3),a4)
noncomputable abbrev E5O (r:Int×Int×Int×Lq2×Bool):AV×List AObj:=((.agg [(ti r.1),(ti r.2.1),(ti r.2.2.1),(.t true tq7 r.2.2.2.1),(.t true .bool r.2.2.2.2)]),[])
noncomputable abbrev D9m:F5 C5S→AV×List AObj:=fun d=>E5O (E1W d.1.1 d.1.2.1 d.1.2.2.1 d.1.2.2.2.1 d.1.2.2.2.2.1)
noncomputable def C1p (a0 a1 a2:Int) (a3:Lq2) (a4:Bool):Bool:=okL a3
noncomputable abbrev D10:F5 C5S→Bool:=fun d=>C1p d.1.1 d.1.2.1 d.1.2.2.1 d.1.2.2.2.1 d.1.2.2.2.2.1
theorem F0u:A6Q true G32 aLn Tryz.f74 C5S D10 D9m:=by
 rintro ⟨⟨a0,⟨a1,⟨a2,⟨a3,⟨a4,_⟩⟩⟩⟩⟩,_⟩ hp
 change C1p a0 a1 a2 a3 a4=true at hp
 unfold C1p at hp
 refine Eq.trans (b:=(cond (B2o a3) (some (E5O (a0,a1,a2,(C2Q a3),a4))) none)) (by kernel_rfl) ?_
 exact (A6T (by first | rfl | decide | exact hp | (simp only [Bool.and_eq_true] at hp;simp only [hp];done) | (simp [*];done) | (simp [okL] at hp;simp [okL,MAXB];omega) | (simp_all;done) | (simp at *;omega)) (fun _h=>rfl))
theorem F3h:aPP 74 (A2z C5S D10 D9m):=pcD true G32 hlz F0u
noncomputable def S33:Tab:=Tab.add S32 74 (lift (A2z C5S D10 D9m))
noncomputable def F8f:FuncId→Bool:=qadd F8e 74
theorem G33:aPG S33 F8f:=G32.addQ F3h (cbl Tryz.f74) (fun _=>rfl)

abbrev G0D:Ty:=.pair (.int .i64) (.pair (.int .i64) (.pair (.int .i64) (.pair (.sl (.pair (.int .i64) (.pair .str .str))) .bool)))
abbrev C10:List PSh:=[.t tq4]
abbrev A9Z:SS:=⟨(.t false tq4::.junk::.junk::.all 0 5::tI::D1v),[.rows 111 true G0D]⟩
abbrev D0m:SS:=⟨(.junk::.junk::.junk::.all 0 5::E2X),[.rows 111 true G0D]⟩
noncomputable def D5e (x0:LT2) (x4:Int) (h0:LT2):RT A9Z.den:=let z1:=x0.getD x4.toNat ((0:Int),((0:Int),((0:Int),([],false))));let z2:=E1W (z1.1) ((z1.2).1) (((z1.2).2).1) ((((z1.2).2).2).1) ((((z1.2).2).2).2);(.br (decide (x4<(x0.length:Int))) (.br (decide (0≤x4∧x4<(x0.length:Int))) (.br (C1p (z1.1) ((z1.2).1) (((z1.2).2).1) ((((z1.2).2).2).1) ((((z1.2).2).2).2)) (.br (decide (0≤x4∧x4<(h0.length:Int))) (.next ((x0,(),(),(),wI (x4+(1:Int)),u19),(h0.set x4.toNat ((z2.1),((z2.2.1),((z2.2.2.1),((z2.2.2.2.1),(z2.2.2.2.2))))),()))) .fail) .fail) .fail) (.done (.exit 0) D0m ((u24),(h0,()))))
abbrev C0E:=LT2×(Int)×LT2
abbrev B5n:=Nat×LT2
def B8a:B5n:=(99,([]:LT2))
noncomputable def B8t (x0:LT2) (x4:Int) (h0:LT2):C0E ⊕ B5n:=let z1:=x0.getD x4.toNat ((0:Int),((0:Int),((0:Int),([],false))));let z2:=E1W (z1.1) ((z1.2).1) (((z1.2).2).1) ((((z1.2).2).2).1) ((((z1.2).2).2).2);(cond (decide (x4<(x0.length:Int))) (cond (decide (0≤x4∧x4<(x0.length:Int))) (cond (C1p (z1.1) ((z1.2).1) (((z1.2).2).1) ((((z1.2).2).2).1) ((((z1.2).2).2).2)) (cond (decide (0≤x4∧x4<(h0.length:Int))) (.inl (x0,wI (x4+(1:Int)),h0.set x4.toNat ((z2.1),((z2.2.1),((z2.2.2.1),((z2.2.2.2.1),(z2.2.2.2.2))))))) (.inr B8a)) (.inr B8a)) (.inr B8a)) (.inr (0,h0)))
noncomputable def B3M (x0:LT2) (x4:Int) (h0:LT2):B5n:=itX (fun v:C0E=>B8t v.1 v.2.1 v.2.2) B8a (x0,x4,h0)
noncomputable def C4F (a:B5n):CT:=(.br (a.1==0) (.done (.exit 0) D0m ((u24),(a.2,()))) .fail)
noncomputable def E6d (x0:LT2) (x4:Int) (h0:LT2):CT:=C4F (B3M x0 x4 h0)
noncomputable abbrev C5a:A9Z.den→RT A9Z.den:=(fun d=>D5e d.1.1 d.1.2.2.2.2.1 d.2.1)
noncomputable def C9i:Code:=((C4 0 (A0y Tryz.f33)).getD 0 (0,.skip)).2
noncomputable abbrev D4P (v:C0E):A9Z.den:=((v.1,(),(),(),v.2.1,u19),(v.2.2,()))
theorem E5k:(∀ v:C0E,(D5e v.1 v.2.1 v.2.2).val=A5T D4P C4F (B8t v.1 v.2.1 v.2.2))∧∀ a:B5n,CEnd A9Z.den (C4F a):=⟨fun v=>(A6V (A6V (A6V (A6V rfl rfl) rfl) rfl) rfl),fun a=>(A6I aCD A6K)⟩
theorem E3w:RdA G33 aLn 0 C9i A9Z 0 [] (kepts [] [(0,[3])]) (fun d=>(C5a d).opt 0 []):=by
 intro d
 kernel_rfl
noncomputable abbrev D2G:St→Option Tree:=A9Z.say 0 [] [] (fun d=>E6d d.1.1 d.1.2.2.2.2.1 d.2.1)
theorem E4S:aPL D2G C9i:=SS.wp2 hlz [] C5a E3w (fun d=>rfl) _ (fun d=>Runs.ofI2 (step:=C5a) D4P E5k rfl (d.1.1,d.1.2.2.2.2.1,d.2.1))
noncomputable def C2R (a0:LT2):LT2:=((B3M a0 (0:Int) (List.replicate (a0.length:Int).toNat ((0:Int),((0:Int),((0:Int),([],false)))))).2)
noncomputable abbrev E2s (r:LT2):AV×List AObj:=((.t true tq4 r),[])
noncomputable abbrev D5Y:F5 C10→AV×List AObj:=fun d=>E2s (C2R d.1)
noncomputable def A98 (a0:LT2):Bool:=(decide (0≤(a0.length:Int)∧(a0.length:Int)=(a0.length:Int)∧(a0.length:Int).toNat*56≤MAXB∧(a0.length:Int)≤9223372036854775807))&&((B3M a0 (0:Int) (List.replicate (a0.length:Int).toNat ((0:Int),((0:Int),((0:Int),([],false)))))).1==0)
noncomputable abbrev C8l:F5 C10→Bool:=fun d=>A98 d.1
noncomputable abbrev F0U:Nat→St→Option Tree:=fun b=>match b with | 0=>D2G | _=>fun _=>none
theorem E77:A6Q true G33 (F0U) Tryz.f33 C10 C8l D5Y:=by
 rintro ⟨a0,_⟩ hp
 change A98 a0=true at hp
 unfold A98 at hp
 refine Eq.trans (b:=(let z1:=B3M a0 (0:Int) (List.replicate (a0.length:Int).toNat ((0:Int),((0:Int),((0:Int),([],false)))));cond (decide (0≤(a0.length:Int)∧(a0.length:Int)=(a0.length:Int)∧(a0.length:Int).toNat*56≤MAXB∧(a0.length:Int)≤9223372036854775807)) (cond (z1.1==0) (some (E2s (z1.2))) none) none)) (by kernel_rfl) ?_
 exact (A6R hp fun hp=>(A6T hp fun _h=>rfl))
theorem F1y:aPP 33 (A2z C10 C8l D5Y):=pcD true G33 (hl1 (i:=0) (by kernel_rfl) E4S) E77
noncomputable def S34:Tab:=Tab.add S33 33 (lift (A2z C10 C8l D5Y))
noncomputable def F8g:FuncId→Bool:=qadd F8f 33
theorem G34:aPG S34 F8g:=G33.addQ F1y (cbl Tryz.f33) (fun _=>rfl)

abbrev C1X:List PSh:=[.agg [(.int .i64),tq7]]
noncomputable def D7K (a0:Int) (a1:Lq2):Int×Lq2:=(a0,(C2Q a1))
noncomputable abbrev E2p (r:Int×Lq2):AV×List AObj:=((.agg [(ti r.1),(.t true tq7 r.2)]),[])
noncomputable abbrev D5V:F5 C1X→AV×List AObj:=fun d=>E2p (D7K d.1.1 d.1.2.1)
noncomputable def B7L (a0:Int) (a1:Lq2):Bool:=B2o a1
noncomputable abbrev C8i:F5 C1X→Bool:=fun d=>B7L d.1.1 d.1.2.1
theorem E74:A6Q true G34 aLn Tryz.f75 C1X C8i D5V:=by
 rintro ⟨⟨a0,⟨a1,_⟩⟩,_⟩ hp
 change B7L a0 a1=true at hp
 unfold B7L at hp
 refine Eq.trans (b:=(cond (B2o a1) (some (E2p (a0,(C2Q a1)))) none)) (by kernel_rfl) ?_
 exact (A6T hp fun _h=>rfl)
theorem F1v:aPP 75 (A2z C1X C8i D5V):=pcD true G34 hlz E74
noncomputable def S35:Tab:=Tab.add S34 75 (lift (A2z C1X C8i D5V))
noncomputable def F8h:FuncId→Bool:=qadd F8g 75
theorem G35:aPG S35 F8h:=G34.addQ F1v (cbl Tryz.f75) (fun _=>rfl)

abbrev G0F:Ty:=.pair (.int .i64) (.sl (.pair (.int .i64) (.pair .str .str)))
abbrev B8O:List PSh:=[.t tq9]
abbrev A8P:SS:=⟨(.t false tq9::.junk::.junk::.all 0 2::tI::D1v),[.rows 39 true G0F]⟩
abbrev C8Z:SS:=⟨(.junk::.junk::.junk::.all 0 2::E2X),[.rows 39 true G0F]⟩
noncomputable def D20 (x0:Lq6) (x4:Int) (h0:Lq6):RT A8P.den:=let z1:=x0.getD x4.toNat ((0:Int),[]);let z2:=D7K (z1.1) (z1.2);(.br (decide (x4<(x0.length:Int))) (.br (decide (0≤x4∧x4<(x0.length:Int))) (.br (B7L (z1.1) (z1.2)) (.br (decide (0≤x4∧x4<(h0.length:Int))) (.next ((x0,(),(),(),wI (x4+(1:Int)),u19),(h0.set x4.toNat ((z2.1),(z2.2)),()))) .fail) .fail) .fail) (.done (.exit 0) C8Z ((u24),(h0,()))))
abbrev B7Y:=(Lq6)×(Int)×(Lq6)
abbrev B3q:=Nat×(Lq6)
def B54:B3q:=(99,([]:Lq6))
noncomputable def B6N (x0:Lq6) (x4:Int) (h0:Lq6):B7Y ⊕ B3q:=let z1:=x0.getD x4.toNat ((0:Int),[]);let z2:=D7K (z1.1) (z1.2);(cond (decide (x4<(x0.length:Int))) (cond (decide (0≤x4∧x4<(x0.length:Int))) (cond (B7L (z1.1) (z1.2)) (cond (decide (0≤x4∧x4<(h0.length:Int))) (.inl (x0,wI (x4+(1:Int)),h0.set x4.toNat ((z2.1),(z2.2)))) (.inr B54)) (.inr B54)) (.inr B54)) (.inr (0,h0)))
noncomputable def B15 (x0:Lq6) (x4:Int) (h0:Lq6):B3q:=itX (fun v:B7Y=>B6N v.1 v.2.1 v.2.2) B54 (x0,x4,h0)
noncomputable def C2o (a:B3q):CT:=(.br (a.1==0) (.done (.exit 0) C8Z ((u24),(a.2,()))) .fail)
noncomputable def E4v (x0:Lq6) (x4:Int) (h0:Lq6):CT:=C2o (B15 x0 x4 h0)
noncomputable abbrev C3o:A8P.den→RT A8P.den:=(fun d=>D20 d.1.1 d.1.2.2.2.2.1 d.2.1)
noncomputable def C55:Code:=((C4 0 (A0y Tryz.f34)).getD 0 (0,.skip)).2
noncomputable abbrev D2b (v:B7Y):A8P.den:=((v.1,(),(),(),v.2.1,u19),(v.2.2,()))
theorem E3M:(∀ v:B7Y,(D20 v.1 v.2.1 v.2.2).val=A5T D2b C2o (B6N v.1 v.2.1 v.2.2))∧∀ a:B3q,CEnd A8P.den (C2o a):=⟨fun v=>(A6V (A6V (A6V (A6V rfl rfl) rfl) rfl) rfl),fun a=>(A6I aCD A6K)⟩
theorem E1n:RdA G35 aLn 0 C55 A8P 0 [] (kepts [] [(0,[3])]) (fun d=>(C3o d).opt 0 []):=by
 intro d
 kernel_rfl
noncomputable abbrev C9K:St→Option Tree:=A8P.say 0 [] [] (fun d=>E4v d.1.1 d.1.2.2.2.2.1 d.2.1)
theorem E25:aPL C9K C55:=SS.wp2 hlz [] C3o E1n (fun d=>rfl) _ (fun d=>Runs.ofI2 (step:=C3o) D2b E3M rfl (d.1.1,d.1.2.2.2.2.1,d.2.1))
noncomputable def C6v (a0:Lq6):Lq6:=((B15 a0 (0:Int) (List.replicate (a0.length:Int).toNat ((0:Int),[]))).2)
noncomputable abbrev E0c (r:Lq6):AV×List AObj:=((.t true tq9 r),[])
noncomputable abbrev D1o:F5 B8O→AV×List AObj:=fun d=>E0c (C6v d.1)
noncomputable def B2p (a0:Lq6):Bool:=(decide (0≤(a0.length:Int)∧(a0.length:Int)=(a0.length:Int)∧(a0.length:Int).toNat*32≤MAXB∧(a0.length:Int)≤9223372036854775807))&&((B15 a0 (0:Int) (List.replicate (a0.length:Int).toNat ((0:Int),[]))).1==0)
noncomputable abbrev C4X:F5 B8O→Bool:=fun d=>B2p d.1
noncomputable abbrev E8q:Nat→St→Option Tree:=fun b=>match b with | 0=>C9K | _=>fun _=>none
theorem E5x:A6Q true G35 (E8q) Tryz.f34 B8O C4X D1o:=by
 rintro ⟨a0,_⟩ hp
 change B2p a0=true at hp
 unfold B2p at hp
 refine Eq.trans (b:=(let z1:=B15 a0 (0:Int) (List.replicate (a0.length:Int).toNat ((0:Int),[]));cond (decide (0≤(a0.length:Int)∧(a0.length:Int)=(a0.length:Int)∧(a0.length:Int).toNat*32≤MAXB∧(a0.length:Int)≤9223372036854775807)) (cond (z1.1==0) (some (E0c (z1.2))) none) none)) (by kernel_rfl) ?_
 exact (A6R hp fun hp=>(A6T hp fun _h=>rfl))
theorem E80:aPP 34 (A2z B8O C4X D1o):=pcD true G35 (hl1 (i:=0) (by kernel_rfl) E25) E5x
noncomputable def S36:Tab:=Tab.add S35 34 (lift (A2z B8O C4X D1o))
noncomputable def F8i:FuncId→Bool:=qadd F8h 34
theorem G36:aPG S36 F8i:=G35.addQ E80 (cbl Tryz.f34) (fun _=>rfl)

abbrev C11:List PSh:=[.agg [(.int .i64),(.int .i64),(.int .i64),tq5,K4,(.int .i64),tq3,tq4,tq4,tq9]]
noncomputable def B88 (a0 a1 a2:Int) (a3:LT1) (a4:LIbe) (a5:Int) (a6:LT3) (a7 a8:LT2) (a9:Lq6):Int×Int×Int×LT1×LIbe×Int×LT3×LT2×LT2×Lq6:=let z1:=D1y a0 a1 a2 a3 a4 a5;((z1.1),(z1.2.1),(z1.2.2.1),(z1.2.2.2.1),(z1.2.2.2.2.1),(z1.2.2.2.2.2),(C6w a6),(C2R a7),(C2R a8),(C6v a9))
noncomputable abbrev E2t (r:Int×Int×Int×LT1×LIbe×Int×LT3×LT2×LT2×Lq6):AV×List AObj:=((.agg [(ti r.1),(ti r.2.1),(ti r.2.2.1),(.t true tq5 r.2.2.2.1),(.t true K4 r.2.2.2.2.1),(ti r.2.2.2.2.2.1),(.t true tq3 r.2.2.2.2.2.2.1),(.t true tq4 r.2.2.2.2.2.2.2.1),(.t true tq4 r.2.2.2.2.2.2.2.2.1),(.t true tq9 r.2.2.2.2.2.2.2.2.2)]),[])
noncomputable abbrev D5Z:F5 C11→AV×List AObj:=fun d=>E2t (B88 d.1.1 d.1.2.1 d.1.2.2.1 d.1.2.2.2.1 d.1.2.2.2.2.1 d.1.2.2.2.2.2.1 d.1.2.2.2.2.2.2.1 d.1.2.2.2.2.2.2.2.1 d.1.2.2.2.2.2.2.2.2.1 d.1.2.2.2.2.2.2.2.2.2.1)
noncomputable def B4E (a0 a1 a2:Int) (a3:LT1) (a4:LIbe) (a5:Int) (a6:LT3) (a7 a8:LT2) (a9:Lq6):Bool:=(B4C a0 a1 a2 a3 a4 a5)&&((B2q a6)&&((A98 a7)&&((A98 a8)&&(B2p a9))))
noncomputable abbrev C8m:F5 C11→Bool:=fun d=>B4E d.1.1 d.1.2.1 d.1.2.2.1 d.1.2.2.2.1 d.1.2.2.2.2.1 d.1.2.2.2.2.2.1 d.1.2.2.2.2.2.2.1 d.1.2.2.2.2.2.2.2.1 d.1.2.2.2.2.2.2.2.2.1 d.1.2.2.2.2.2.2.2.2.2.1
theorem E78:A6Q true G36 aLn Tryz.f12 C11 C8m D5Z:=by
 rintro ⟨⟨a0,⟨a1,⟨a2,⟨a3,⟨a4,⟨a5,⟨a6,⟨a7,⟨a8,⟨a9,_⟩⟩⟩⟩⟩⟩⟩⟩⟩⟩,_⟩ hp
 change B4E a0 a1 a2 a3 a4 a5 a6 a7 a8 a9=true at hp
 unfold B4E at hp
 refine Eq.trans (b:=(let z1:=D1y a0 a1 a2 a3 a4 a5;cond (B4C a0 a1 a2 a3 a4 a5) (cond (B2q a6) (cond (A98 a7) (cond (A98 a8) (cond (B2p a9) (some (E2t ((z1.1),(z1.2.1),(z1.2.2.1),(z1.2.2.2.1),(z1.2.2.2.2.1),(z1.2.2.2.2.2),(C6w a6),(C2R a7),(C2R a8),(C6v a9)))) none) none) none) none) none)) (by kernel_rfl) ?_
 exact (A6R hp fun hp=>(A6R hp fun hp=>(A6R hp fun hp=>(A6R hp fun hp=>(A6T hp fun _h=>rfl)))))
theorem F1z:aPP 12 (A2z C11 C8m D5Z):=pcD true G36 hlz E78
noncomputable def S37:Tab:=Tab.add S36 12 (lift (A2z C11 C8m D5Z))
noncomputable def F8j:FuncId→Bool:=qadd F8i 12
theorem G37:aPG S37 F8j:=G36.addQ F1z (cbl Tryz.f12) (fun _=>rfl)

abbrev D68:List PSh:=[.t (.int .i64),.t (.int .i64),.t (.int .i64)]
noncomputable def L0 (a0 a1 a2:Int):Bool:=(cond (decide (a0 ≥ a1)) (decide (a0≤a2)) false)
noncomputable abbrev E1O (r:Bool):AV×List AObj:=((.t true .bool r),[])
noncomputable abbrev E6I:F5 D68→AV×List AObj:=fun d=>E1O (L0 d.1 d.2.1 d.2.2.1)
noncomputable abbrev D9H:F5 D68→Bool:=fun d=>true
theorem F3M:A6Q true G37 aLn Tryz.f61 D68 D9H E6I:=by
 rintro ⟨a0,⟨a1,⟨a2,_⟩⟩⟩ hp
 refine Eq.trans (b:=(cond (decide (a0 ≥ a1)) (some (E1O (decide (a0≤a2)))) (some (E1O false)))) (by kernel_rfl) ?_
 exact (L7 E1O (fun _h=>rfl) (fun _h=>rfl))
theorem F5D:aPP 61 (A2z D68 D9H E6I):=pcD true G37 hlz F3M
noncomputable def S38:Tab:=Tab.add S37 61 (lift (A2z D68 D9H E6I))
noncomputable def F8k:FuncId→Bool:=qadd F8j 61
theorem G38:aPG S38 F8k:=G37.addQ F5D (cbl Tryz.f61) (fun _=>rfl)

abbrev F3u:List Sh:=.junk::.junk::.junk::.junk::.junk::.junk::.junk::.junk::.junk::.junk::.junk::.junk::.junk::.junk::.junk::.junk::[]
abbrev u17:=((),(),(),(),(),(),(),(),(),(),(),(),(),(),(),(),())
abbrev B5C:List PSh:=[.agg [(.int .i64),(.int .i64),(.int .i64),tq5,K4,(.int .i64)],.t (.int .i64)]
abbrev A6X:SS:=⟨(.junk::tI::.ptr 0 0 1 0::.junk::.junk::tI::F3u),[.box [tI,tI,tI,.t false tq5,.t false K4,tI]]⟩
abbrev C5r:SS:=⟨(.junk::.junk::.junk::.junk::tI::E9E),[]⟩
abbrev C5s:SS:=⟨(.junk::B9R),[]⟩
noncomputable def C9X (x1 x5 p0 p1 p2:Int) (p3:LT1) (p4:LIbe) (p5:Int):RT A6X.den:=(.br (decide (x5<(p4.length:Int))) (.br (decide (0≤x5∧x5<(p4.length:Int))) (.br (((p4.getD x5.toNat ((0:Int),false)).1)==x1) (.done .ret C5r (((),(),(),(),x5,u18),())) (.next (((),x1,(),(),(),wI (x5+(1:Int)),u17),((p0,p1,p2,p3,p4,p5,()),())))) .fail) (.done (.exit 0) C5s ((u23),())))
abbrev B5N:=(Int)×(Int)
abbrev B1q:=Nat×(Int)
def C9m:B1q:=(99,((0:Int):Int))
noncomputable def B39 (x1 x5 p0 p1 p2:Int) (p3:LT1) (p4:LIbe) (p5:Int):B5N ⊕ B1q:=(cond (decide (x5<(p4.length:Int))) (cond (decide (0≤x5∧x5<(p4.length:Int))) (cond (((p4.getD x5.toNat ((0:Int),false)).1)==x1) (.inr (0,x5)) (.inl (x1,wI (x5+(1:Int))))) (.inr C9m)) (.inr (1,((0:Int):Int))))
noncomputable def B0k (x1 x5 p0 p1 p2:Int) (p3:LT1) (p4:LIbe) (p5:Int):B1q:=itX (fun v:B5N=>B39 v.1 v.2 p0 p1 p2 p3 p4 p5) C9m (x1,x5)
noncomputable def B9H (p0 p1 p2:Int) (p3:LT1) (p4:LIbe) (p5:Int) (a:B1q):CT:=(.br (a.1==0) (.done .ret C5r (((),(),(),(),a.2,u18),())) (.br (a.1==1) (.done (.exit 0) C5s ((u23),())) .fail))
noncomputable def E2a (x1 x5 p0 p1 p2:Int) (p3:LT1) (p4:LIbe) (p5:Int):CT:=(B9H p0 p1 p2 p3 p4 p5) (B0k x1 x5 p0 p1 p2 p3 p4 p5)
noncomputable abbrev C9b {α:Sort _} (f:Int→Int→Int→Int→Int→LT1→LIbe→Int→α) (d:A6X.den):α:=f d.1.2.1 d.1.2.2.2.2.2.1 d.2.1.1 d.2.1.2.1 d.2.1.2.2.1 d.2.1.2.2.2.1 d.2.1.2.2.2.2.1 d.2.1.2.2.2.2.2.1
noncomputable abbrev B94:A6X.den→RT A6X.den:=(C9b C9X)
noncomputable def C3T:Code:=((C4 0 (A0y Tryz.f62)).getD 0 (0,.skip)).2
noncomputable abbrev C9A (p0 p1 p2:Int) (p3:LT1) (p4:LIbe) (p5:Int) (v:B5N):A6X.den:=(((),v.1,(),(),(),v.2,u17),((p0,p1,p2,p3,p4,p5,()),()))
theorem E1E (p0 p1 p2:Int) (p3:LT1) (p4:LIbe) (p5:Int):(∀ v:B5N,(C9X v.1 v.2 p0 p1 p2 p3 p4 p5).val=A5T (C9A p0 p1 p2 p3 p4 p5) (B9H p0 p1 p2 p3 p4 p5) (B39 v.1 v.2 p0 p1 p2 p3 p4 p5))∧∀ a:B1q,CEnd A6X.den ((B9H p0 p1 p2 p3 p4 p5) a):=⟨fun v=>(A6V (A6V (A6V rfl rfl) rfl) rfl),fun a=>(A6I aCD (A6I aCD A6K))⟩
theorem D9P:RdA G38 aLn 0 C3T A6X 0 [] (kepts [4] [(0,[])]) (fun d=>(B94 d).opt 0 []):=by
 intro d
 kernel_rfl
noncomputable abbrev C6U:St→Option Tree:=A6X.say 0 [] [] (C9b E2a)
theorem E1d:aPL C6U C3T:=SS.wp2 hlz [] B94 D9P (fun d=>rfl) _ (fun d=>Runs.ofI2 (step:=B94) (C9A d.2.1.1 d.2.1.2.1 d.2.1.2.2.1 d.2.1.2.2.2.1 d.2.1.2.2.2.2.1 d.2.1.2.2.2.2.2.1) (E1E d.2.1.1 d.2.1.2.1 d.2.1.2.2.1 d.2.1.2.2.2.1 d.2.1.2.2.2.2.1 d.2.1.2.2.2.2.2.1) rfl (d.1.2.1,d.1.2.2.2.2.2.1))
noncomputable def B0d (a0 a1 a2:Int) (a3:LT1) (a4:LIbe) (a5 a6:Int):Int:=let z1:=B0k a6 (0:Int) a0 a1 a2 a3 a4 a5;(cond (z1.1==0) (z1.2) (-1:Int))
noncomputable abbrev C0N (r:Int):AV×List AObj:=((ti r),[])
noncomputable abbrev C7D:F5 B5C→AV×List AObj:=fun d=>C0N (B0d d.1.1 d.1.2.1 d.1.2.2.1 d.1.2.2.2.1 d.1.2.2.2.2.1 d.1.2.2.2.2.2.1 d.2.1)
noncomputable def A0g (a0 a1 a2:Int) (a3:LT1) (a4:LIbe) (a5 a6:Int):Bool:=let z1:=B0k a6 (0:Int) a0 a1 a2 a3 a4 a5;cond (z1.1==0) true (z1.1==1)
noncomputable abbrev C25:F5 B5C→Bool:=fun d=>A0g d.1.1 d.1.2.1 d.1.2.2.1 d.1.2.2.2.1 d.1.2.2.2.2.1 d.1.2.2.2.2.2.1 d.2.1
noncomputable abbrev E52:Nat→St→Option Tree:=fun b=>match b with | 0=>C6U | _=>fun _=>none
theorem E30:A6Q true G38 (E52) Tryz.f62 B5C C25 C7D:=by
 rintro ⟨⟨a0,⟨a1,⟨a2,⟨a3,⟨a4,⟨a5,_⟩⟩⟩⟩⟩⟩,⟨a6,_⟩⟩ hp
 change A0g a0 a1 a2 a3 a4 a5 a6=true at hp
 unfold A0g at hp
 refine Eq.trans (b:=(let z1:=B0k a6 (0:Int) a0 a1 a2 a3 a4 a5;cond (z1.1==0) (some (C0N (z1.2))) (cond (z1.1==1) (some (C0N (-1:Int))) none))) (by kernel_rfl) ?_
 exact (H7 C0N hp (fun hp=>rfl) (fun hp=>(A6T hp fun _h=>rfl)))
theorem E6q:aPP 62 (A2z B5C C25 C7D):=pcD true G38 (hl1 (i:=0) (by kernel_rfl) E1d) E30
noncomputable def S39:Tab:=Tab.add S38 62 (lift (A2z B5C C25 C7D))
noncomputable def F8l:FuncId→Bool:=qadd F8k 62
theorem G39:aPG S39 F8l:=G38.addQ E6q (cbl Tryz.f62) (fun _=>rfl)

abbrev F7z:List Sh:=.junk::C94
abbrev F4N:List Sh:=.junk::F7z
abbrev D7E:List Sh:=.junk::C95
abbrev u25:=((),u24)
abbrev u27:=((),u26)
noncomputable def D2w (s:ByteArray) (i:Nat):Bool:=let z1:=wI (bt s (i:Int));L0 z1 97 122||L0 z1 48 57
abbrev D0I:List PSh:=[.t .str]
abbrev B4k:SS:=⟨(.t true .str::.junk::.junk::tI::F7z),[]⟩
abbrev D6U:SS:=⟨(.junk::.junk::.t true .bool::F4N),[]⟩
abbrev D6V:SS:=⟨(.t true .str::D7E),[]⟩
noncomputable def D22 (x0:ByteArray) (x3:Int):RT B4k.den:=let z1:=decide (0≤x3∧x3<(x0.size:Int));let z2:=wI (bt x0 x3);(.br (decide (x3<(x0.size:Int))) (.br z1 (.br (!(L0 z2 (97:Int) (122:Int))) (.br z1 (.br (!(L0 z2 (48:Int) (57:Int))) (.done .ret D6U (((),(),false,u25),())) (.next ((x0,(),(),wI (x3+(1:Int)),u24),()))) .fail) (.next ((x0,(),(),wI (x3+(1:Int)),u24),()))) .fail) (.done (.exit 0) D6V ((x0,u27),())))
noncomputable def C2a (x0:ByteArray) (x3:Int):CT:=(.br (decide (0≤x3)&&okS x0) (.br (A4a (D2w x0) (x0.size - x3.toNat) x3.toNat) (.done (.exit 0) D6V ((x0,u27),())) (.done .ret D6U (((),(),false,u25),()))) .fail)
noncomputable abbrev B9r:B4k.den→RT B4k.den:=(fun d=>D22 d.1.1 d.1.2.2.2.1)
noncomputable abbrev E0E (x0:ByteArray) (x3:Int):B4k.den:=((x0,(),(),x3,u24),())
noncomputable def D4p:Code:=((C4 0 (A0y Tryz.f147)).getD 0 (0,.skip)).2
theorem F01 (x0:ByteArray) (x3:Int):(C2a x0 x3).val (D:=B4k.den)=.fail∨Runs B9r (E0E x0 x3) (C2a x0 x3).val:=by
 cases hc:(decide (0≤x3)&&okS x0) with
 | false=>left;simp only [C2a,CT.val,hc,cond_false]
 | true =>
  right
  simp only [C2a,CT.val,hc,cond_true]
  simp only [Bool.and_eq_true,decide_eq_true_eq] at hc
  obtain ⟨i,rfl⟩:=Int.eq_ofNat_of_zero_le hc.1
  have hs:=A6F hc.2
  simp only [Int.toNat_natCast]
  refine Runs.scan (fun j=>E0E x0 (j:Int)) (x0.size) (D2w x0) (fun i hi=>?_) (fun i hi=>?_) ⟨_,_,_,rfl,by simp⟩ ⟨_,_,_,rfl,by simp⟩ _ _ rfl
  ·
   have h0a:decide ((i:Int)<(x0.size:Int))=true:=decide_eq_true (by omega)
   have h0b:decide (0≤(i:Int)∧(i:Int)<(x0.size:Int))=true:=decide_eq_true (by omega)
   simp only [B9r,D22,RT.val,h0a,h0b,cond_true,A6M i (by omega),Int.toNat_natCast]
   simp only [D2w]
   cases L0 (wI (bt x0 (i:Int))) 97 122<;>cases L0 (wI (bt x0 (i:Int))) 48 57<;>rfl
  ·have h1:decide ((i:Int)<(x0.size:Int))=false:=decide_eq_false (by omega)
   simp only [B9r,D22,RT.val,h1,cond_false]
theorem E7n:RdA G39 aLn 0 D4p B4k 0 [] (kepts [2] [(0,[0])]) (fun d=>(B9r d).opt 0 []):=by
 intro d
 kernel_rfl
noncomputable abbrev D8x:St→Option Tree:=B4k.say 0 [] [] (fun d=>C2a d.1.1 d.1.2.2.2.1)
theorem E9R:aPL D8x D4p:=SS.wp2 hlz [] B9r E7n (fun d=>rfl) _ (fun d=>F01 d.1.1 d.1.2.2.2.1)
noncomputable def D6H (a0:ByteArray):Bool:=(cond (A4a (D2w a0) (a0.size - (0:Int).toNat) (0:Int).toNat) (L0 (a0.size:Int) (1:Int) (12:Int)) false)
noncomputable abbrev D7r (r:Bool):AV×List AObj:=((.t true .bool r),[])
noncomputable abbrev E2O:F5 D0I→AV×List AObj:=fun d=>D7r (D6H d.1)
noncomputable def D2k (a0:ByteArray):Bool:=okS a0
noncomputable abbrev D6u:F5 D0I→Bool:=fun d=>D2k d.1
noncomputable abbrev F35:Nat→St→Option Tree:=fun b=>match b with | 0=>D8x | _=>fun _=>none
theorem F2a:A6Q true G39 (F35) Tryz.f147 D0I D6u E2O:=by
 rintro ⟨a0,_⟩ hp
 change D2k a0=true at hp
 unfold D2k at hp
 refine Eq.trans (b:=(cond (decide (0≤(0:Int))&&okS a0) (cond (A4a (D2w a0) (a0.size - (0:Int).toNat) (0:Int).toNat) (some (D7r (L0 (a0.size:Int) (1:Int) (12:Int)))) (some (D7r false))) none)) (by kernel_rfl) ?_
 exact (A6T (by first | rfl | decide | exact hp | (simp only [Bool.and_eq_true] at hp;simp only [hp];done) | (simp [*];done) | (simp [okL] at hp;simp [okL,MAXB];omega) | (simp_all;done) | (simp at *;omega)) (fun _h=>(L7 D7r (fun _h=>rfl) (fun _h=>rfl))))
theorem F4t:aPP 147 (A2z D0I D6u E2O):=pcD true G39 (hl1 (i:=0) (by kernel_rfl) E9R) F2a
noncomputable def S40:Tab:=Tab.add S39 147 (lift (A2z D0I D6u E2O))
noncomputable def F8m:FuncId→Bool:=qadd F8l 147
theorem G40:aPG S40 F8m:=G39.addQ F4t (cbl Tryz.f147) (fun _=>rfl)

abbrev D69:List PSh:=[.agg [(.int .i64),.str,.str]]
noncomputable def E38 (a0:Int) (a1 a2:ByteArray):Bool:=let z1:=decide ((a2.size:Int)≤(20:Int));(cond (!(L0 a0 (1:Int) (3:Int))) false (cond (a0==(2:Int)) (cond (!(a2.toList==bE.toList)) false (cond (D6H a1) z1 false)) (cond (D6H a1) z1 false)))
noncomputable abbrev B5Z (r:Bool):AV×List AObj:=((.t true .bool r),[])
noncomputable abbrev E6J:F5 D69→AV×List AObj:=fun d=>B5Z (E38 d.1.1 d.1.2.1 d.1.2.2.1)
noncomputable def D3G (a0:Int) (a1 a2:ByteArray):Bool:=okS a1
noncomputable abbrev D9I:F5 D69→Bool:=fun d=>D3G d.1.1 d.1.2.1 d.1.2.2.1
theorem F3N:A6Q true G40 aLn Tryz.f108 D69 D9I E6J:=by
 rintro ⟨⟨a0,⟨a1,⟨a2,_⟩⟩⟩,_⟩ hp
 change D3G a0 a1 a2=true at hp
 unfold D3G at hp
 refine Eq.trans (b:=(let z1:=B5Z (decide ((a2.size:Int)≤(20:Int)));cond (!(L0 a0 (1:Int) (3:Int))) (some (B5Z false)) (cond (a0==(2:Int)) (cond (!(a2.toList==(⟨#[]⟩:ByteArray).toList)) (some (B5Z false)) (cond (D2k a1) (cond (D6H a1) (some z1) (some (B5Z false))) none)) (cond (D2k a1) (cond (D6H a1) (some z1) (some (B5Z false))) none)))) (by kernel_rfl) ?_
 exact (L7 B5Z (fun _h=>rfl) (fun _h=>(L7 B5Z (fun _h=>(L7 B5Z (fun _h=>rfl) (fun _h=>(A6T (by first | rfl | decide | exact hp | (simp only [Bool.and_eq_true] at hp;simp only [hp];done) | (simp [*];done) | (simp [okL] at hp;simp [okL,MAXB];omega) | (simp_all;done) | (simp at *;omega)) (fun _h=>(L7 B5Z (fun _h=>rfl) (fun _h=>rfl))))))) (fun _h=>(A6T (by first | rfl | decide | exact hp | (simp only [Bool.and_eq_true] at hp;simp only [hp];done) | (simp [*];done) | (simp [okL] at hp;simp [okL,MAXB];omega) | (simp_all;done) | (simp at *;omega)) (fun _h=>(L7 B5Z (fun _h=>rfl) (fun _h=>rfl))))))))
theorem F5E:aPP 108 (A2z D69 D9I E6J):=pcD true G40 hlz F3N
noncomputable def S41:Tab:=Tab.add S40 108 (lift (A2z D69 D9I E6J))
noncomputable def F8n:FuncId→Bool:=qadd F8m 108
theorem G41:aPG S41 F8n:=G40.addQ F5E (cbl Tryz.f108) (fun _=>rfl)

abbrev E9F:List Sh:=.junk::.junk::.junk::.junk::.junk::.junk::.junk::D7E
abbrev F7D:List Sh:=.junk::E9F
abbrev F4P:List Sh:=.junk::.junk::F7D
abbrev u35:=((),(),(),(),(),(),(),(),u27)
abbrev u34:=((),(),(),(),(),(),(),u27)
abbrev u37:=((),(),u35)
abbrev F7s:List AV:=.junk::.junk::.junk::.junk::.junk::.junk::.junk::.junk::.junk::.junk::.junk::.junk::.junk::.junk::.junk::.junk::.junk::.junk::.junk::.junk::.junk::.junk::.junk::.junk::.junk::.junk::.junk::.junk::.junk::.junk::.junk::.junk::.junk::.junk::[]
abbrev F1F:List AV:=.junk::.junk::.junk::.junk::.junk::.junk::.junk::.junk::.junk::.junk::.junk::.junk::.junk::.junk::.junk::.junk::.junk::.junk::.junk::.junk::.junk::.junk::.junk::.junk::.junk::.junk::.junk::.junk::.junk::.junk::.junk::.junk::.junk::[]
abbrev F4H:List AV:=.junk::.junk::F7s
noncomputable def E0O (l:Lq2) (i:Nat):Bool:=let z1:=l.getD i dOp;E38 z1.1 z1.2.1 z1.2.2&&(decide (i=0)||Op.bytesLess (l.getD (i - 1) dOp).2.1.toList z1.2.1.toList)
abbrev D0K:List PSh:=[.t tq7]
abbrev B1M:SS:=⟨(.t false tq7::.junk::.junk::tI::E9F),[]⟩
abbrev C68:SS:=⟨(.junk::.junk::.t true .bool::F7D),[]⟩
abbrev D6X:SS:=⟨(.t false tq7::F4P),[]⟩
noncomputable def D23 (x0:Lq2) (x3:Int):RT B1M.den:=let z1:=x0.getD x3.toNat ((0:Int),(bE,bE));let z2:=wI (x3 - (1:Int));let z3:=decide (0≤x3∧x3<(x0.length:Int));(.br (decide (x3<(x0.length:Int))) (.br z3 (.br (D3G (z1.1) ((z1.2).1) ((z1.2).2)) (.br (!(E38 (z1.1) ((z1.2).1) ((z1.2).2))) (.done .ret C68 (((),(),false,u35),())) (.br (decide (x3 > (0:Int))) (.br (decide (0≤z2∧z2<(x0.length:Int))) (.br z3 (.br (!(Op.bytesLess (((x0.getD (z2.toNat) ((0:Int),(bE,bE))).2).1).toList ((z1.2).1).toList)) (.done .ret C68 (((),(),false,u35),())) (.next ((x0,(),(),wI (x3+(1:Int)),u34),()))) .fail) .fail) (.next ((x0,(),(),wI (x3+(1:Int)),u34),())))) .fail) .fail) (.done (.exit 0) D6X ((x0,u37),())))
noncomputable def C2b (x0:Lq2) (x3:Int):CT:=(.br (decide (0≤x3)&&Q9 x0) (.br (A4a (E0O x0) (x0.length - x3.toNat) x3.toNat) (.done (.exit 0) D6X ((x0,u37),())) (.done .ret C68 (((),(),false,u35),()))) .fail)
noncomputable abbrev B9s:B1M.den→RT B1M.den:=(fun d=>D23 d.1.1 d.1.2.2.2.1)
noncomputable abbrev E0F (x0:Lq2) (x3:Int):B1M.den:=((x0,(),(),x3,u34),())
noncomputable def D4r:Code:=((C4 0 (A0y Tryz.f65)).getD 0 (0,.skip)).2
theorem F02 (x0:Lq2) (x3:Int):(C2b x0 x3).val (D:=B1M.den)=.fail∨Runs B9s (E0F x0 x3) (C2b x0 x3).val:=by
 cases hc:(decide (0≤x3)&&Q9 x0) with
 | false=>left;simp only [C2b,CT.val,hc,cond_false]
 | true =>
  right
  simp only [C2b,CT.val,hc,cond_true]
  simp only [Bool.and_eq_true,decide_eq_true_eq] at hc
  obtain ⟨i,rfl⟩:=Int.eq_ofNat_of_zero_le hc.1
  have hs:=A7a hc.2
  simp only [Int.toNat_natCast]
  refine Runs.scan (fun j=>E0F x0 (j:Int)) (x0.length) (E0O x0) (fun i hi=>?_) (fun i hi=>?_) ⟨_,_,_,rfl,by simp⟩ ⟨_,_,_,rfl,by simp⟩ _ _ rfl
  ·
   have h0a:decide ((i:Int)<(x0.length:Int))=true:=decide_eq_true (by omega)
   have h0b:decide (0≤(i:Int)∧(i:Int)<(x0.length:Int))=true:=decide_eq_true (by omega)
   simp only [B9s,D23,RT.val,h0a,h0b,cond_true,A6M i (by omega),Int.toNat_natCast]
   have hq:D3G (x0.getD i dOp).1 (x0.getD i dOp).2.1 (x0.getD i dOp).2.2=true:=(E9W hc.2 i hi).1
   simp only [dOp] at hq
   simp only [hq,cond_true,E0O,dOp]
   cases E38 (x0.getD i ((0:Int),((⟨#[]⟩:ByteArray),(⟨#[]⟩:ByteArray)))).1 (x0.getD i ((0:Int),((⟨#[]⟩:ByteArray),(⟨#[]⟩:ByteArray)))).2.1 (x0.getD i ((0:Int),((⟨#[]⟩:ByteArray),(⟨#[]⟩:ByteArray)))).2.2 with
   | false=>rfl
   | true =>
    cases i with
    | zero=>rfl
    | succ i =>
     have h3:decide (((i+1:Nat):Int) > 0)=true:=decide_eq_true (by omega)
     have h4:wI (((i+1:Nat):Int) - 1)=(i:Int):=by have:=A50 (n:=((i+1:Nat):Int) - 1) (by omega) (by omega);omega
     have h5:decide (0≤(i:Int)∧(i:Int)<(x0.length:Int))=true:=decide_eq_true (by omega)
     have h6:decide (i+1=0)=false:=by simp
     simp only [h3,h4,h5,h6,cond_true,Bool.true_and,Bool.false_or,Int.toNat_natCast,Nat.add_sub_cancel,Bool.not_true,cond_false]
     cases Op.bytesLess (x0.getD i ((0:Int),((⟨#[]⟩:ByteArray),(⟨#[]⟩:ByteArray)))).2.1.toList (x0.getD (i+1) ((0:Int),((⟨#[]⟩:ByteArray),(⟨#[]⟩:ByteArray)))).2.1.toList<;>rfl
  ·have h1:decide ((i:Int)<(x0.length:Int))=false:=decide_eq_false (by omega)
   simp only [B9s,D23,RT.val,h1,cond_false]
noncomputable def E0y (x0:Lq2) (x3:Int):Option (Ex×St):=let z1:=x0.getD x3.toNat ((0:Int),(bE,bE));let z2:=(⟨((.t false tq7 x0)::.junk::.junk::(ti (wI (x3+(1:Int))))::F1F),[],0,[]⟩:St);let z3:=wI (x3 - (1:Int));let z4:=(⟨(.junk::.junk::(.t true .bool false)::F7s),[],0,[]⟩:St);let z5:=decide (0≤x3∧x3<(x0.length:Int));(cond (decide (x3<(x0.length:Int))) (cond z5 (cond (D3G (z1.1) ((z1.2).1) ((z1.2).2)) (cond (!(E38 (z1.1) ((z1.2).1) ((z1.2).2))) (some (.ret,z4)) (cond (decide (x3 > (0:Int))) (cond (decide (0≤z3∧z3<(x0.length:Int))) (cond z5 (cond (!(Op.bytesLess (((x0.getD (z3.toNat) ((0:Int),(bE,bE))).2).1).toList ((z1.2).1).toList)) (some (.ret,z4)) (some (.normal,z2))) none) none) (some (.normal,z2)))) none) none) (some ((.exit 0),(⟨((.t false tq7 x0)::F4H),[],0,[]⟩:St))))
theorem E7p:RdA G41 aLn 0 D4r B1M 0 [] (kepts [2] [(0,[0])]) (fun d=>E0y d.1.1 d.1.2.2.2.1):=by
 intro d
 kernel_rfl
theorem E7x:∀ d:B1M.den,(fun d=>E0y d.1.1 d.1.2.2.2.1) d=(B9s d).opt 0 []:=by
 intro d
 kernel_rfl
noncomputable abbrev D8z:St→Option Tree:=B1M.say 0 [] [] (fun d=>C2b d.1.1 d.1.2.2.2.1)
theorem E9T:aPL D8z D4r:=SS.wp2 hlz [] B9s E7p E7x _ (fun d=>F02 d.1.1 d.1.2.2.2.1)
noncomputable def B0c (a0:Lq2):Bool:=(cond (A4a (E0O a0) (a0.length - (0:Int).toNat) (0:Int).toNat) (L0 (a0.length:Int) (1:Int) (8:Int)) false)
noncomputable abbrev D7t (r:Bool):AV×List AObj:=((.t true .bool r),[])
noncomputable abbrev E2Q:F5 D0K→AV×List AObj:=fun d=>D7t (B0c d.1)
noncomputable def B0v (a0:Lq2):Bool:=Q9 a0
noncomputable abbrev D6w:F5 D0K→Bool:=fun d=>B0v d.1
noncomputable abbrev F37:Nat→St→Option Tree:=fun b=>match b with | 0=>D8z | _=>fun _=>none
theorem F2c:A6Q true G41 (F37) Tryz.f65 D0K D6w E2Q:=by
 rintro ⟨a0,_⟩ hp
 change B0v a0=true at hp
 unfold B0v at hp
 refine Eq.trans (b:=(cond (decide (0≤(0:Int))&&Q9 a0) (cond (A4a (E0O a0) (a0.length - (0:Int).toNat) (0:Int).toNat) (some (D7t (L0 (a0.length:Int) (1:Int) (8:Int)))) (some (D7t false))) none)) (by kernel_rfl) ?_
 exact (A6T (by first | rfl | decide | exact hp | (simp only [Bool.and_eq_true] at hp;simp only [hp];done) | (simp [*];done) | (simp [okL] at hp;simp [okL,MAXB];omega) | (simp_all;done) | (simp at *;omega)) (fun _h=>(L7 D7t (fun _h=>rfl) (fun _h=>rfl))))
theorem F4v:aPP 65 (A2z D0K D6w E2Q):=pcD true G41 (hl1 (i:=0) (by kernel_rfl) E9T) F2c
noncomputable def S42:Tab:=Tab.add S41 65 (lift (A2z D0K D6w E2Q))
noncomputable def F8o:FuncId→Bool:=qadd F8n 65
theorem G42:aPG S42 F8o:=G41.addQ F4v (cbl Tryz.f65) (fun _=>rfl)

abbrev F7y:List Sh:=.junk::.junk::.junk::.junk::.junk::.junk::.junk::.junk::.junk::.junk::.junk::.junk::.junk::.junk::.junk::[]
abbrev u16:=((),(),(),(),(),(),(),(),(),(),(),(),(),(),(),())
abbrev D67:List PSh:=[.t .str]
abbrev B7e:SS:=⟨(.t true .str::.junk::.junk::tI::tI::F7y),[]⟩
abbrev D96:SS:=⟨(.junk::.junk::.junk::tI::F3u),[]⟩
noncomputable def E4b (x0:ByteArray) (x3 x4:Int):RT B7e.den:=(.br (decide (x4<(x0.size:Int))) (.br (decide (0≤x4∧x4<(x0.size:Int))) (.next ((x0,(),(),iand .i64 (wI ((ixor .i64 x3 (wI (bt x0 x4)))*(16777619:Int))) (4294967295:Int),wI (x4+(1:Int)),u16),())) .fail) (.done (.exit 0) D96 (((),(),(),x3,u17),())))
abbrev C5Z:=(ByteArray)×(Int)×(Int)
abbrev C5i:=Nat×(Int)
def D5A:C5i:=(99,((0:Int):Int))
noncomputable def C3y (x0:ByteArray) (x3 x4:Int):C5Z ⊕ C5i:=(cond (decide (x4<(x0.size:Int))) (cond (decide (0≤x4∧x4<(x0.size:Int))) (.inl (x0,iand .i64 (wI ((ixor .i64 x3 (wI (bt x0 x4)))*(16777619:Int))) (4294967295:Int),wI (x4+(1:Int)))) (.inr D5A)) (.inr (0,x3)))
noncomputable def C2J (x0:ByteArray) (x3 x4:Int):C5i:=itX (fun v:C5Z=>C3y v.1 v.2.1 v.2.2) D5A (x0,x3,x4)
noncomputable def D5v (a:C5i):CT:=(.br (a.1==0) (.done (.exit 0) D96 (((),(),(),a.2,u17),())) .fail)
noncomputable def F2T (x0:ByteArray) (x3 x4:Int):CT:=D5v (C2J x0 x3 x4)
noncomputable abbrev D6K:B7e.den→RT B7e.den:=(fun d=>E4b d.1.1 d.1.2.2.2.1 d.1.2.2.2.2.1)
noncomputable def D7f:Code:=((C4 0 (A0y Tryz.f176)).getD 0 (0,.skip)).2
noncomputable abbrev E3k (v:C5Z):B7e.den:=((v.1,(),(),v.2.1,v.2.2,u16),())
theorem F1S:(∀ v:C5Z,(E4b v.1 v.2.1 v.2.2).val=A5T E3k D5v (C3y v.1 v.2.1 v.2.2))∧∀ a:C5i,CEnd B7e.den (D5v a):=⟨fun v=>(A6V (A6V rfl rfl) rfl),fun a=>(A6I aCD A6K)⟩
theorem E91:RdA G42 aLn 0 D7f B7e 0 [] (kepts [] [(0,[3])]) (fun d=>(D6K d).opt 0 []):=by
 intro d
 kernel_rfl
noncomputable abbrev E0Q:St→Option Tree:=B7e.say 0 [] [] (fun d=>F2T d.1.1 d.1.2.2.2.1 d.1.2.2.2.2.1)
theorem F1M:aPL E0Q D7f:=SS.wp2 hlz [] D6K E91 (fun d=>rfl) _ (fun d=>Runs.ofI2 (step:=D6K) E3k F1S rfl (d.1.1,d.1.2.2.2.1,d.1.2.2.2.2.1))
noncomputable def F2y (a0:ByteArray):Int:=((C2J a0 (2166136261:Int) (0:Int)).2)
noncomputable abbrev F2p (r:Int):AV×List AObj:=((ti r),[])
noncomputable abbrev E6H:F5 D67→AV×List AObj:=fun d=>F2p (F2y d.1)
noncomputable def D3F (a0:ByteArray):Bool:=((C2J a0 (2166136261:Int) (0:Int)).1==0)
noncomputable abbrev D9G:F5 D67→Bool:=fun d=>D3F d.1
noncomputable abbrev F5q:Nat→St→Option Tree:=fun b=>match b with | 0=>E0Q | _=>fun _=>none
theorem F3L:A6Q true G42 (F5q) Tryz.f176 D67 D9G E6H:=by
 rintro ⟨a0,_⟩ hp
 change D3F a0=true at hp
 unfold D3F at hp
 refine Eq.trans (b:=(let z1:=C2J a0 (2166136261:Int) (0:Int);cond (z1.1==0) (some (F2p (z1.2))) none)) (by kernel_rfl) ?_
 exact (A6T hp fun _h=>rfl)
theorem F5C:aPP 176 (A2z D67 D9G E6H):=pcD true G42 (hl1 (i:=0) (by kernel_rfl) F1M) F3L
noncomputable def S43:Tab:=Tab.add S42 176 (lift (A2z D67 D9G E6H))
noncomputable def F8p:FuncId→Bool:=qadd F8o 176
theorem G43:aPG S43 F8p:=G42.addQ F5C (cbl Tryz.f176) (fun _=>rfl)

abbrev C13:List PSh:=[.t .str,.t (.int .i64)]
noncomputable def D2x (a0:ByteArray) (a1:Int):Int:=(cond (decide (a1<(1:Int))) (0:Int) (Int.tmod (F2y a0) a1))
noncomputable abbrev C7s (r:Int):AV×List AObj:=((ti r),[])
noncomputable abbrev D51:F5 C13→AV×List AObj:=fun d=>C7s (D2x d.1 d.2.1)
noncomputable def B4G (a0:ByteArray) (a1:Int):Bool:=cond (decide (a1<(1:Int))) true ((D3F a0)&&(decide (a1 ≠ 0)))
noncomputable abbrev C8p:F5 C13→Bool:=fun d=>B4G d.1 d.2.1
theorem E8a:A6Q true G43 aLn Tryz.f146 C13 C8p D51:=by
 rintro ⟨a0,⟨a1,_⟩⟩ hp
 change B4G a0 a1=true at hp
 unfold B4G at hp
 refine Eq.trans (b:=(cond (decide (a1<(1:Int))) (some (C7s (0:Int))) (cond (D3F a0) (cond (decide (a1 ≠ 0)) (some (C7s (Int.tmod (F2y a0) a1))) none) none))) (by kernel_rfl) ?_
 exact (H7 C7s hp (fun hp=>rfl) (fun hp=>(A6R hp fun hp=>(A6T hp fun _h=>rfl))))
theorem F1B:aPP 146 (A2z C13 C8p D51):=pcD true G43 hlz E8a
noncomputable def S44:Tab:=Tab.add S43 146 (lift (A2z C13 C8p D51))
noncomputable def F8q:FuncId→Bool:=qadd F8p 146
theorem G44:aPG S44 F8q:=G43.addQ F1B (cbl Tryz.f146) (fun _=>rfl)

abbrev F4L:List Sh:=.junk::.junk::.junk::.junk::.junk::.junk::.junk::.junk::.junk::.junk::.junk::.junk::[]
abbrev G0q:List Sh:=.junk::F4L
abbrev u14:=((),(),(),(),(),(),(),(),(),(),(),(),(),())
abbrev u13:=((),(),(),(),(),(),(),(),(),(),(),(),())
abbrev D0M:List PSh:=[.t A9x,.t (.int .i64)]
abbrev B4l:SS:=⟨(.t false A9x::tI::.junk::.junk::.junk::tI::F4L),[]⟩
abbrev D6Y:SS:=⟨(.junk::.junk::.junk::.junk::.t true .bool::G0q),[]⟩
abbrev D6Z:SS:=⟨(.junk::E9E),[]⟩
noncomputable def E0Y (x0:List Int) (x1 x5:Int):RT B4l.den:=(.br (decide (x5<(x0.length:Int))) (.br (decide (0≤x5∧x5<(x0.length:Int))) (.br ((x0.getD x5.toNat (0:Int))==x1) (.done .ret D6Y (((),(),(),(),true,u14),())) (.next ((x0,x1,(),(),(),wI (x5+(1:Int)),u13),()))) .fail) (.done (.exit 0) D6Z ((u19),())))
abbrev C2c:=(List Int)×(Int)×(Int)
abbrev B7a:=Nat×(Bool)
def E0f:B7a:=(99,(false:Bool))
noncomputable def C4r (x0:List Int) (x1 x5:Int):C2c ⊕ B7a:=(cond (decide (x5<(x0.length:Int))) (cond (decide (0≤x5∧x5<(x0.length:Int))) (cond ((x0.getD x5.toNat (0:Int))==x1) (.inr (0,true)) (.inl (x0,x1,wI (x5+(1:Int))))) (.inr E0f)) (.inr (1,(false:Bool))))
noncomputable def B43 (x0:List Int) (x1 x5:Int):B7a:=itX (fun v:C2c=>C4r v.1 v.2.1 v.2.2) E0f (x0,x1,x5)
noncomputable def D1d (a:B7a):CT:=(.br (a.1==0) (.done .ret D6Y (((),(),(),(),a.2,u14),())) (.br (a.1==1) (.done (.exit 0) D6Z ((u19),())) .fail))
noncomputable def F08 (x0:List Int) (x1 x5:Int):CT:=D1d (B43 x0 x1 x5)
noncomputable abbrev D2P:B4l.den→RT B4l.den:=(fun d=>E0Y d.1.1 d.1.2.1 d.1.2.2.2.2.2.1)
noncomputable def D4s:Code:=((C4 0 (A0y Tryz.f107)).getD 0 (0,.skip)).2
noncomputable abbrev E0M (v:C2c):B4l.den:=((v.1,v.2.1,(),(),(),v.2.2,u13),())
theorem E98:(∀ v:C2c,(E0Y v.1 v.2.1 v.2.2).val=A5T E0M D1d (C4r v.1 v.2.1 v.2.2))∧∀ a:B7a,CEnd B4l.den (D1d a):=⟨fun v=>(A6V (A6V (A6V rfl rfl) rfl) rfl),fun a=>(A6I aCD (A6I aCD A6K))⟩
theorem E7q:RdA G44 aLn 0 D4s B4l 0 [] (kepts [4] [(0,[])]) (fun d=>(D2P d).opt 0 []):=by
 intro d
 kernel_rfl
noncomputable abbrev D8A:St→Option Tree:=B4l.say 0 [] [] (fun d=>F08 d.1.1 d.1.2.1 d.1.2.2.2.2.2.1)
theorem E9U:aPL D8A D4s:=SS.wp2 hlz [] D2P E7q (fun d=>rfl) _ (fun d=>Runs.ofI2 (step:=D2P) E0M E98 rfl (d.1.1,d.1.2.1,d.1.2.2.2.2.2.1))
noncomputable def A8j (a0:List Int) (a1:Int):Bool:=let z1:=B43 a0 a1 (0:Int);(cond (z1.1==0) (z1.2) false)
noncomputable abbrev D7v (r:Bool):AV×List AObj:=((.t true .bool r),[])
noncomputable abbrev E2S:F5 D0M→AV×List AObj:=fun d=>D7v (A8j d.1 d.2.1)
noncomputable def V3 (a0:List Int) (a1:Int):Bool:=let z1:=B43 a0 a1 (0:Int);cond (z1.1==0) true (z1.1==1)
noncomputable abbrev D6y:F5 D0M→Bool:=fun d=>V3 d.1 d.2.1
noncomputable abbrev F38:Nat→St→Option Tree:=fun b=>match b with | 0=>D8A | _=>fun _=>none
theorem F2e:A6Q true G44 (F38) Tryz.f107 D0M D6y E2S:=by
 rintro ⟨a0,⟨a1,_⟩⟩ hp
 change V3 a0 a1=true at hp
 unfold V3 at hp
 refine Eq.trans (b:=(let z1:=B43 a0 a1 (0:Int);cond (z1.1==0) (some (D7v (z1.2))) (cond (z1.1==1) (some (D7v false)) none))) (by kernel_rfl) ?_
 exact (H7 D7v hp (fun hp=>rfl) (fun hp=>(A6T hp fun _h=>rfl)))
theorem F4x:aPP 107 (A2z D0M D6y E2S):=pcD true G44 (hl1 (i:=0) (by kernel_rfl) E9U) F2e
noncomputable def S45:Tab:=Tab.add S44 107 (lift (A2z D0M D6y E2S))
noncomputable def F8r:FuncId→Bool:=qadd F8q 107
theorem G45:aPG S45 F8r:=G44.addQ F4x (cbl Tryz.f107) (fun _=>rfl)

abbrev E2Y:List Sh:=.junk::.junk::.junk::F4P
abbrev u40:=((),(),(),u37)
abbrev D9u:List AV:=.junk::.junk::.junk::F4H
abbrev D3d:SS:=⟨[.all 0 1,tI],[.rows 3 true (.int .i64)]⟩
abbrev B1N:SS:=⟨(.junk::tI::.junk::.junk::.junk::.all 1 1::tI::E2Y),[.rows 3 true (.int .i64),.rows 3 true (.int .i64)]⟩
abbrev C69:SS:=⟨(.junk::tI::.junk::.junk::.junk::.all 1 1::tI::E2Y),[.rows 3 true (.int .i64),.rows 3 true (.int .i64)]⟩
noncomputable def E0Z (x1 x6:Int) (h0 h1:List Int):RT B1N.den:=let z1:=wI (x6 - (1:Int));let z2:=decide (0≤z1∧z1<(h1.length:Int));let z3:=h1.getD (z1.toNat) (0:Int);(.br (decide (x6 > (0:Int))) (.br z2 (.br (decide (z3 > x1)) (.br z2 (.br (decide (0≤x6∧x6<(h1.length:Int))) (.next (((),x1,(),(),(),(),wI (x6 - (1:Int)),u40),(h0,h1.set x6.toNat z3,()))) .fail) .fail) (.done (.exit 0) C69 (((),x1,(),(),(),(),x6,u40),(h0,h1,())))) .fail) (.done (.exit 0) C69 (((),x1,(),(),(),(),x6,u40),(h0,h1,()))))
abbrev C7c:=(Int)×(Int)×(List Int)×(List Int)
abbrev C1s:=Nat×(Int)×(Int)×(List Int)×(List Int)
def C35:C1s:=(99,((0:Int):Int),((0:Int):Int),([]:List Int),([]:List Int))
noncomputable def E0S (x1 x6:Int) (h0 h1:List Int):C7c ⊕ C1s:=let z1:=wI (x6 - (1:Int));let z2:=decide (0≤z1∧z1<(h1.length:Int));let z3:=h1.getD (z1.toNat) (0:Int);(cond (decide (x6 > (0:Int))) (cond z2 (cond (decide (z3 > x1)) (cond z2 (cond (decide (0≤x6∧x6<(h1.length:Int))) (.inl (x1,wI (x6 - (1:Int)),h0,h1.set x6.toNat z3)) (.inr C35)) (.inr C35)) (.inr (0,x1,x6,h0,h1))) (.inr C35)) (.inr (0,x1,x6,h0,h1)))
noncomputable def E0m (x1 x6:Int) (h0 h1:List Int):C1s:=itX (fun v:C7c=>E0S v.1 v.2.1 v.2.2.1 v.2.2.2) C35 (x1,x6,h0,h1)
noncomputable def D1e (a:C1s):CT:=(.br (a.1==0) (.done (.exit 0) C69 (((),a.2.1,(),(),(),(),a.2.2.1,u40),(a.2.2.2.1,a.2.2.2.2,()))) .fail)
noncomputable def F09 (x1 x6:Int) (h0 h1:List Int):CT:=D1e (E0m x1 x6 h0 h1)
noncomputable abbrev D2Q:B1N.den→RT B1N.den:=(fun d=>E0Z d.1.2.1 d.1.2.2.2.2.2.2.1 d.2.1 d.2.2.1)
noncomputable def D4t:Code:=((C4 0 (A0y Tryz.f145)).getD 0 (0,.skip)).2
noncomputable abbrev E0N (v:C7c):B1N.den:=(((),v.1,(),(),(),(),v.2.1,u40),(v.2.2.1,v.2.2.2,()))
theorem E99:(∀ v:C7c,(E0Z v.1 v.2.1 v.2.2.1 v.2.2.2).val=A5T E0N D1e (E0S v.1 v.2.1 v.2.2.1 v.2.2.2))∧∀ a:C1s,CEnd B1N.den (D1e a):=⟨fun v=>(A6V (A6V (A6V (A6V (A6V rfl rfl) rfl) rfl) rfl) rfl),fun a=>(A6I aCD A6K)⟩
noncomputable def E0z (x1 x6:Int) (h0 h1:List Int):Option (Ex×St):=let z1:=wI (x6 - (1:Int));let z2:=(⟨(.junk::(ti x1)::.junk::.junk::.junk::(.all 1 1)::(ti x6)::D9u),[(.rows 3 true (.int .i64) h0),(.rows 3 true (.int .i64) h1)],1,[]⟩:St);let z3:=decide (0≤z1∧z1<(h1.length:Int));let z4:=h1.getD (z1.toNat) (0:Int);(cond (decide (x6 > (0:Int))) (cond z3 (cond (decide (z4 > x1)) (cond z3 (cond (decide (0≤x6∧x6<(h1.length:Int))) (some (.normal,(⟨(.junk::(ti x1)::.junk::.junk::.junk::(.all 1 1)::(ti z1)::D9u),[(.rows 3 true (.int .i64) h0),(.rows 3 true (.int .i64) (h1.set x6.toNat z4))],1,[]⟩:St))) none) none) (some ((.exit 0),z2))) none) (some ((.exit 0),z2)))
theorem E7r:RdA G45 aLn 0 D4t B1N 1 [] (kepts [] [(0,[1,5,6])]) (fun d=>E0z d.1.2.1 d.1.2.2.2.2.2.2.1 d.2.1 d.2.2.1):=by
 intro d
 kernel_rfl
theorem E7y:∀ d:B1N.den,(fun d=>E0z d.1.2.1 d.1.2.2.2.2.2.2.1 d.2.1 d.2.2.1) d=(D2Q d).opt 1 []:=by
 intro d
 kernel_rfl
noncomputable abbrev D8B:St→Option Tree:=B1N.say 1 [] [] (fun d=>F09 d.1.2.1 d.1.2.2.2.2.2.2.1 d.2.1 d.2.2.1)
theorem E9V:aPL D8B D4t:=SS.wp2 hlz [] D2Q E7r E7y _ (fun d=>Runs.ofI2 (step:=D2Q) E0N E99 rfl (d.1.2.1,d.1.2.2.2.2.2.2.1,d.2.1,d.2.2.1))
noncomputable def D9v (x1:Int) (h0:List Int):=let z1:=(([]:List Int)++h0)++[x1];E0m x1 (wI (((z1.length:Nat):Int) - (1:Int))) h0 z1
noncomputable def F7M (x1:Int) (h0:List Int):List Int:=let z1:=D9v x1 h0;(cond (A8j h0 x1) h0 ((z1.2.2.2.2).set ((z1.2.2.1).toNat) (z1.2.1)))
noncomputable abbrev D7w (r:List Int):AV×List AObj×List Nat:=((.t true A9x r),[.dead],[])
noncomputable abbrev E9q:D3d.den→AV×List AObj×List Nat:=fun d=>D7w (F7M d.1.2.1 d.2.1)
noncomputable def E3m (x1:Int) (h0:List Int):Bool:=let z1:=D9v x1 h0;(V3 h0 x1)&&(cond (A8j h0 x1) true ((decide ((([]:List Int).length+h0.length)*8≤MAXB))&&((decide (((([]:List Int)++h0).length+[x1].length)*8≤MAXB))&&((z1.1==0)&&(decide (0≤(z1.2.2.1)∧(z1.2.2.1)<(((z1.2.2.2.2).length:Nat):Int)))))))
noncomputable abbrev E3h:D3d.den→Bool:=fun d=>E3m d.1.2.1 d.2.1
noncomputable abbrev F39:Nat→St→Option Tree:=fun b=>match b with | 0=>D8B | _=>fun _=>none
theorem F2f:A6z [.all 0 1] G45 (F39) Tryz.f145 D3d E3h E9q:=by
 rintro ⟨⟨_,x1,_⟩,⟨h0,_⟩⟩ hp
 change E3m x1 h0=true at hp
 unfold E3m at hp
 refine Eq.trans (b:=(let z1:=D9v x1 h0;cond (V3 h0 x1) (cond (A8j h0 x1) (some (D7w h0)) (cond (decide ((([]:List Int).length+h0.length)*8≤MAXB)) (cond (decide (((([]:List Int)++h0).length+[x1].length)*8≤MAXB)) (cond (z1.1==0) (cond (decide (0≤(z1.2.2.1)∧(z1.2.2.1)<(((z1.2.2.2.2).length:Nat):Int))) (some (D7w ((z1.2.2.2.2).set ((z1.2.2.1).toNat) (z1.2.1)))) none) none) none) none)) none)) (by kernel_rfl) ?_
 exact (A6R hp fun hp=>(H7 D7w hp (fun hp=>rfl) (fun hp=>(A6R hp fun hp=>(A6R hp fun hp=>(A6R hp fun hp=>(A6T hp fun _h=>rfl)))))))
noncomputable abbrev E3e:=win E7 (msum D3d E3h E9q)
theorem E85:aPM 145 E3e:=(G0A [.all 0 1]  G45 (hl1 (i:=0) (by kernel_rfl) E9V) F2f).win E7
noncomputable def S46:Tab:=Tab.add S45 145 (E3e)
noncomputable def F8s:FuncId→Bool:=F8r
theorem G46:aPG S46 F8s:=G45.addM E85 (A6r _) (cbl Tryz.f145) (by kernel_rfl)

abbrev C0w:SS:=⟨[.t true A9x,tI],[]⟩
abbrev A7K:SS:=⟨(.junk::tI::.junk::.junk::.junk::.all 0 1::tI::E2Y),[.rows 3 true (.int .i64)]⟩
abbrev B9y:SS:=⟨(.junk::tI::.junk::.junk::.junk::.all 0 1::tI::E2Y),[.rows 3 true (.int .i64)]⟩
noncomputable def D27 (x1 x6:Int) (h0:List Int):RT A7K.den:=let z1:=wI (x6 - (1:Int));let z2:=decide (0≤z1∧z1<(h0.length:Int));let z3:=h0.getD (z1.toNat) (0:Int);(.br (decide (x6 > (0:Int))) (.br z2 (.br (decide (z3 > x1)) (.br z2 (.br (decide (0≤x6∧x6<(h0.length:Int))) (.next (((),x1,(),(),(),(),wI (x6 - (1:Int)),u40),(h0.set x6.toNat z3,()))) .fail) .fail) (.done (.exit 0) B9y (((),x1,(),(),(),(),x6,u40),(h0,())))) .fail) (.done (.exit 0) B9y (((),x1,(),(),(),(),x6,u40),(h0,()))))
abbrev B3F:=(Int)×(Int)×(List Int)
abbrev B0H:=Nat×(Int)×(Int)×(List Int)
def B59:B0H:=(99,((0:Int):Int),((0:Int):Int),([]:List Int))
noncomputable def B6V (x1 x6:Int) (h0:List Int):B3F ⊕ B0H:=let z1:=wI (x6 - (1:Int));let z2:=decide (0≤z1∧z1<(h0.length:Int));let z3:=h0.getD (z1.toNat) (0:Int);(cond (decide (x6 > (0:Int))) (cond z2 (cond (decide (z3 > x1)) (cond z2 (cond (decide (0≤x6∧x6<(h0.length:Int))) (.inl (x1,wI (x6 - (1:Int)),h0.set x6.toNat z3)) (.inr B59)) (.inr B59)) (.inr (0,x1,x6,h0))) (.inr B59)) (.inr (0,x1,x6,h0)))
noncomputable def C2K (x1 x6:Int) (h0:List Int):B0H:=itX (fun v:B3F=>B6V v.1 v.2.1 v.2.2) B59 (x1,x6,h0)
noncomputable def C2t (a:B0H):CT:=(.br (a.1==0) (.done (.exit 0) B9y (((),a.2.1,(),(),(),(),a.2.2.1,u40),(a.2.2.2,()))) .fail)
noncomputable def E4A (x1 x6:Int) (h0:List Int):CT:=C2t (C2K x1 x6 h0)
noncomputable abbrev C3t:A7K.den→RT A7K.den:=(fun d=>D27 d.1.2.1 d.1.2.2.2.2.2.2.1 d.2.1)
noncomputable def C6a:Code:=((C4 0 (A0y Tryz.f145)).getD 0 (0,.skip)).2
noncomputable abbrev D2g (v:B3F):A7K.den:=(((),v.1,(),(),(),(),v.2.1,u40),(v.2.2,()))
theorem E3R:(∀ v:B3F,(D27 v.1 v.2.1 v.2.2).val=A5T D2g C2t (B6V v.1 v.2.1 v.2.2))∧∀ a:B0H,CEnd A7K.den (C2t a):=⟨fun v=>(A6V (A6V (A6V (A6V (A6V rfl rfl) rfl) rfl) rfl) rfl),fun a=>(A6I aCD A6K)⟩
noncomputable def D1D (x1 x6:Int) (h0:List Int):Option (Ex×St):=let z1:=wI (x6 - (1:Int));let z2:=(⟨(.junk::(ti x1)::.junk::.junk::.junk::(.all 0 1)::(ti x6)::D9u),[(.rows 3 true (.int .i64) h0)],0,[]⟩:St);let z3:=decide (0≤z1∧z1<(h0.length:Int));let z4:=h0.getD (z1.toNat) (0:Int);(cond (decide (x6 > (0:Int))) (cond z3 (cond (decide (z4 > x1)) (cond z3 (cond (decide (0≤x6∧x6<(h0.length:Int))) (some (.normal,(⟨(.junk::(ti x1)::.junk::.junk::.junk::(.all 0 1)::(ti z1)::D9u),[(.rows 3 true (.int .i64) (h0.set x6.toNat z4))],0,[]⟩:St))) none) none) (some ((.exit 0),z2))) none) (some ((.exit 0),z2)))
theorem E1s:RdA G46 aLn 0 C6a A7K 0 [] (kepts [] [(0,[1,5,6])]) (fun d=>D1D d.1.2.1 d.1.2.2.2.2.2.2.1 d.2.1):=by
 intro d
 kernel_rfl
theorem E1x:∀ d:A7K.den,(fun d=>D1D d.1.2.1 d.1.2.2.2.2.2.2.1 d.2.1) d=(C3t d).opt 0 []:=by
 intro d
 kernel_rfl
noncomputable abbrev C9P:St→Option Tree:=A7K.say 0 [] [] (fun d=>E4A d.1.2.1 d.1.2.2.2.2.2.2.1 d.2.1)
theorem E3a:aPL C9P C6a:=SS.wp2 hlz [] C3t E1s E1x _ (fun d=>Runs.ofI2 (step:=C3t) D2g E3R rfl (d.1.2.1,d.1.2.2.2.2.2.2.1,d.2.1))
noncomputable def B6n (x0:List Int) (x1:Int):=let z1:=(([]:List Int)++x0)++[x1];C2K x1 (wI (((z1.length:Nat):Int) - (1:Int))) z1
noncomputable def B5f (x0:List Int) (x1:Int):List Int:=let z1:=B6n x0 x1;(cond (A8j x0 x1) x0 ((z1.2.2.2).set ((z1.2.2.1).toNat) (z1.2.1)))
noncomputable abbrev C3Z (r:List Int):AV×List AObj×List Nat:=((.t true A9x r),[],[])
noncomputable abbrev E0i:C0w.den→AV×List AObj×List Nat:=fun d=>C3Z (B5f d.1.1 d.1.2.1)
noncomputable def A9H (x0:List Int) (x1:Int):Bool:=let z1:=B6n x0 x1;(V3 x0 x1)&&(cond (A8j x0 x1) true ((decide ((([]:List Int).length+x0.length)*8≤MAXB))&&((decide (((([]:List Int)++x0).length+[x1].length)*8≤MAXB))&&((z1.1==0)&&(decide (0≤(z1.2.2.1)∧(z1.2.2.1)<(((z1.2.2.2).length:Nat):Int)))))))
noncomputable abbrev D4I:C0w.den→Bool:=fun d=>A9H d.1.1 d.1.2.1
noncomputable abbrev E8v:Nat→St→Option Tree:=fun b=>match b with | 0=>C9P | _=>fun _=>none
theorem E5C:A6z [] G46 (E8v) Tryz.f145 C0w D4I E0i:=by
 rintro ⟨⟨x0,x1,_⟩,_⟩ hp
 change A9H x0 x1=true at hp
 unfold A9H at hp
 refine Eq.trans (b:=(let z1:=B6n x0 x1;cond (V3 x0 x1) (cond (A8j x0 x1) (some (C3Z x0)) (cond (decide ((([]:List Int).length+x0.length)*8≤MAXB)) (cond (decide (((([]:List Int)++x0).length+[x1].length)*8≤MAXB)) (cond (z1.1==0) (cond (decide (0≤(z1.2.2.1)∧(z1.2.2.1)<(((z1.2.2.2).length:Nat):Int))) (some (C3Z ((z1.2.2.2).set ((z1.2.2.1).toNat) (z1.2.1)))) none) none) none) none)) none)) (by kernel_rfl) ?_
 exact (A6R hp fun hp=>(H7 C3Z hp (fun hp=>rfl) (fun hp=>(A6R hp fun hp=>(A6R hp fun hp=>(A6R hp fun hp=>(A6T hp fun _h=>rfl)))))))
noncomputable abbrev E0r:=win E7 (msum C0w D4I E0i)
theorem E86:aPM 145 E0r:=(G0A []  G46 (hl1 (i:=0) (by kernel_rfl) E3a) E5C).win E7
noncomputable def S47:Tab:=Tab.add S46 145 (A1N (E3e) (E0r))
noncomputable def F8t:FuncId→Bool:=F8s
theorem G47:aPG S47 F8t:=G46.addM (MContract.orElse E85 E86) (A6e (A6r _) (A6r _)) (cbl Tryz.f145) (by kernel_rfl)


end Go.Proofs.YtcofibhklbfgoaaGreat.Eng
