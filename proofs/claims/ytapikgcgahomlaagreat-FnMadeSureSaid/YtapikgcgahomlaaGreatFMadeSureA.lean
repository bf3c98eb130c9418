/- What the functions that FnMadeSure reaches compute, and that it answers true. -/
import Derived.Test.YtapikgcgahomlaaGreatT
import Derived.Test.YtapikgcgahomlaaGreatRows
import Derived.Test.YtapikgcgahomlaaGreatE45
import Derived.Shelf.Spec.SlicesInsertGrow
import Derived.Test.YtapikgcgahomlaaGreatE39
import Derived.Shelf.Sort.Plain
import Derived.Shelf.Slices.In.SortNone
import Derived.Shelf.Slices.CompactI
namespace Go.Proofs.YtapikgcgahomlaaGreat.Eng
open Go Go.RowKit
set_option linter.unusedSimpArgs false
set_option linter.unusedVariables false
set_option maxRecDepth 10000
abbrev bE:ByteArray:=⟨#[]⟩
abbrev Lq2:=List (Int×ByteArray×ByteArray)
abbrev tq5:Ty:=.sl (.pair (.int .i64) (.pair .str .str))
abbrev tq4:Ty:=.pair (.int .i64) (.pair (.int .i64) (.sl (.pair (.int .i64) (.pair .str .str))))
abbrev ti:=@AV.t true (.int .i64)
abbrev tI:Sh:=.t true (.int .i64)
abbrev LT1:=List (Int×Lq2×Int×List Int)
abbrev LT2:=List (Int×Int×Int×Lq2×Bool)
abbrev aPG:=Good Tryz.prog tt
abbrev aPM:=MContract Tryz.prog
abbrev aPP:=PContract Tryz.prog
abbrev aPL:=A3J Tryz.prog
abbrev aLn:Nat→St→Option Tree:=fun _ _=>none
theorem aCD{D:Type}{e:Ex}{s:SS}{x:s.den}(h:e ≠ .normal:=by simp):CEnd D (.done e s x):=F3q h
noncomputable def S0:Tab:=fun _=>none
noncomputable def QF0:FuncId→Bool:=fun _=>false
theorem G0:aPG S0 QF0:=Good.start F0x (by kernel_rfl)
theorem Runs.ofI2 {D V A:Type} {step:D→RT D} (pk:V→D) {ss:V→V ⊕ A} {ct:A→CT} {fa:A} (h:(∀ v,(step (pk v)).val=R5 pk ct (ss v))∧∀ a,CEnd D (ct a)) (hf:(ct fa).val (D:=D)=.fail) (v:V):(ct (itX ss fa v)).val (D:=D)=.fail∨Runs step (pk v) (ct (itX ss fa v)).val:=Runs.ofIt pk hf h.1 h.2 v
theorem A9 {α β:Type} (e:α→β) {c q r:Bool} {X Y:Option β} {a b:α} (hq:cond c q r=true) (hx:q=true→X=some (e a)) (hy:r=true→Y=some (e b)):cond c X Y=some (e (cond c a b)):=F4F (F:=fun r=>some (e r)) hq hx hy
theorem A18 {α β:Type} (e:α→β) {c:Bool} {X Y:Option β} {a b:α} (hx:c=true→X=some (e a)) (hy:c=false→Y=some (e b)):cond c X Y=some (e (cond c a b)):=cnd (F:=fun r=>some (e r)) hx hy
theorem hlz {L:Nat→St→Option Tree} {b:Nat} {x:Code} (h:A6 b x=[]:=by kernel_rfl):∀ p∈A6 b x,aPL (L p.1) p.2:=hl0 h
theorem cbl {f : FuncId} (F : Func) (h1 : Tryz.prog.funcs[f]? = some F := by kernel_rfl) (h2 : (F.name == "runtime.NumGoroutine") = false := by kernel_rfl) (h3 : F.body.isNone = false := by kernel_rfl) : Callable Tryz.prog f := ⟨F, h1, h2, h3⟩
theorem pcD (ro:Bool) {S:Tab} {Q:FuncId→Bool} (G:aPG S Q) {f:FuncId} {fn:Func} {L:Nat→St→Option Tree} (hL:∀ p∈A6 0 (B4 fn),aPL (L p.1) p.2) {l:List PSh} {pre:A1 l→Bool} {g:A1 l→AV×List AObj} (h:N0 ro G L fn l pre g) (hf:Tryz.prog.funcs[f]? = some fn:=by kernel_rfl):aPP f (A7 l pre g):=PContract.of_data ro G hf hL l pre g h
theorem mcM {S:Tab} {Q:FuncId→Bool} (G:aPG S Q) {f:FuncId} {fn:Func} {L:Nat→St→Option Tree} (hL:∀ p∈A6 0 (B4 fn),aPL (L p.1) p.2) {s:SS} {pre:s.den→Bool} {g:s.den→AV×List AObj×List Nat} (h:B0e G L fn s pre g) (hf:Tryz.prog.funcs[f]? = some fn:=by kernel_rfl):aPM f (msum s pre g):=MContract.of_data G hf hL s pre g h
theorem E8w (dl:List AV) {S:Tab} {Q:FuncId→Bool} (G:aPG S Q) {f:FuncId} {fn:Func} {L:Nat→St→Option Tree} (hL:∀ p∈A6 0 (B4 fn),aPL (L p.1) p.2) {s:SS} {pre:s.den→Bool} {g:s.den→AV×List AObj×List Nat} (h:C9J dl G L fn s pre g) (hf:Tryz.prog.funcs[f]? = some fn:=by kernel_rfl):aPM f (msum s pre g):=MContract.of_dataRD dl G hf hL s pre g h
theorem mcE (mr:Bool) (dl:List AV) (kx:List Nat) (nb:List (Nat×Nat×Nat×TypeId×Ty)) {S:Tab} {Q:FuncId→Bool} (G:aPG S Q) {f:FuncId} {fn:Func} {L:Nat→St→Option Tree} (hL:∀ p∈A6 0 (B4 fn),aPL (L p.1) p.2) {s:SS} {pre:s.den→Bool} {g:s.den→AV×List AObj×List Nat} (h:C6L mr dl kx nb G L fn s pre g) (hf:Tryz.prog.funcs[f]? = some fn:=by kernel_rfl):aPM f (msum s pre g):=MContract.of_dataE mr dl kx nb G hf hL s pre g h
theorem C9W:∀ a:List UInt8,Op.bytesLess a a=false:=by
 intro a
 induction a with
 | nil=>rfl
 | cons x a ih=>simp only [Op.bytesLess,ih,Bool.and_false,Bool.or_false,decide_eq_false_iff_not];exact UInt8.lt_irrefl x
theorem C7o:∀ a b:List UInt8,(!(Op.bytesLess a b))=(Op.bytesLess b a||b==a):=by
 intro a
 induction a with
 | nil=>intro b;cases b<;>simp [Op.bytesLess]
 | cons x a ih =>
  intro b
  cases b with
  | nil=>simp [Op.bytesLess]
  | cons y b =>
   simp only [Op.bytesLess]
   by_cases h1:x<y
   ·have h2:¬ y<x:=fun h=>UInt8.lt_irrefl _ (UInt8.lt_trans h1 h)
    have h3:(y==x)=false:=by rw [beq_eq_false_iff_ne];intro h;subst h;exact h2 h1
    have h4:(y::b==x::a)=false:=by rw [List.cons_beq_cons,h3,Bool.false_and]
    simp [h1,h2,h3,h4]
   ·by_cases h5:x=y
    ·subst h5
     have h6:(x::b==x::a)=(b==a):=by rw [List.cons_beq_cons];simp
     have:=ih b
     simp only [h1,decide_false,Bool.false_or,beq_self_eq_true,Bool.true_and,h6,this]
    ·have h7 : y < x := by
      rcases Nat.lt_trichotomy x.toNat y.toNat with h | h | h
      ·exact absurd (UInt8.lt_iff_toNat_lt.2 h) h1
      ·exact absurd (UInt8.toNat_inj.1 h) h5
      ·exact UInt8.lt_iff_toNat_lt.2 h
     have h8:(x==y)=false:=by rw [beq_eq_false_iff_ne];exact h5
     simp [h1,h7,h8]
theorem D47 {p q:Nat→Bool}:∀ k i,(∀ j,i≤j→j<i+k→p j=q j)→B1x p k i=B1x q k i:=by
 intro k
 induction k with
 | zero=>intro i h;rfl
 | succ k ih=>intro i h;simp only [B1x];rw [h i (Nat.le_refl _) (by omega),ih (i+1) (fun j h1 h2=>h j (by omega) (by omega))]
noncomputable def dOp:Int×ByteArray×ByteArray:=((0:Int),(bE,bE))
noncomputable def E82 (o:Int×ByteArray×ByteArray):Bool:=okS o.2.1&&okS o.2.2
noncomputable def L1 (l:Lq2):Bool:=okL l&&l.all E82
theorem E2B {l:Lq2} (h:L1 l=true) (i:Nat) (hi:i<l.length):okS (l.getD i dOp).2.1=true∧okS (l.getD i dOp).2.2=true:=by
 simp only [L1,Bool.and_eq_true,List.all_eq_true] at h
 have:=h.2 (l.getD i dOp) (by simp [List.getD_eq_getElem?_getD,hi])
 simpa [E82] using this
theorem L4 {l:Lq2} (h:L1 l=true):l.length≤1048576:=by
 simp only [L1,Bool.and_eq_true] at h
 exact F07 h.1
theorem D48 (a b:ByteArray):(a.toList==b.toList)=decide (a=b):=by
 rw [ByteArray.toList_eq,ByteArray.toList_eq]
 by_cases h:a=b
 ·subst h;simp
 ·rw [decide_eq_false h,beq_eq_false_iff_ne]
  intro e
  exact h (by cases a;cases b;simp at e;rw [e])
theorem E6E {l:Lq2} (h:L1 l=true):∀ o∈l,o.2.1.size≤1048576∧o.2.2.size≤1048576:=by
 intro o ho
 simp only [L1,Bool.and_eq_true,List.all_eq_true] at h
 have:=h.2 o ho
 simpa [E82,okS] using this
noncomputable def D9W:Go.Shelf.Ren:=⟨fun | 189=>94 | 125=>118 | 257=>117 | 128=>138 | 129=>139 | 294=>129 | 295=>130 | 296=>131 | 297=>132 | 298=>133 | 299=>134 | 216=>135 | 300=>136 | 301=>137 | 328=>145 | 329=>146 | 330=>147 | 331=>148 | 332=>149 | 215=>150 | 343=>152 | n=>n,fun | 28=>60 | 3=>3 | 46=>124 | 0=>0 | 51=>145 | 53=>157 | 4=>4 | 183=>148 | 182=>147 | 131=>153 | 5=>5 | 9=>9 | 218=>161 | 222=>165 | 228=>167 | 229=>168 | n=>n,fun n=>n⟩
theorem E1Y:Go.Proofs.Lays.n189 Tryz.prog D9W where
 mixed:=by kernel_rfl
 f125:=Tryz.func118.trans (congrArg some (by kernel_rfl))
 f128:=Tryz.func138.trans (congrArg some (by kernel_rfl))
 f129:=Tryz.func139.trans (congrArg some (by kernel_rfl))
 f189:=Tryz.func94.trans (congrArg some (by kernel_rfl))
 f215:=Tryz.func150.trans (congrArg some (by kernel_rfl))
 f216:=Tryz.func135.trans (congrArg some (by kernel_rfl))
 f257:=Tryz.func117.trans (congrArg some (by kernel_rfl))
 f294:=Tryz.func129.trans (congrArg some (by kernel_rfl))
 f295:=Tryz.func130.trans (congrArg some (by kernel_rfl))
 f296:=Tryz.func131.trans (congrArg some (by kernel_rfl))
 f297:=Tryz.func132.trans (congrArg some (by kernel_rfl))
 f298:=Tryz.func133.trans (congrArg some (by kernel_rfl))
 f299:=Tryz.func134.trans (congrArg some (by kernel_rfl))
 f300:=Tryz.func136.trans (congrArg some (by kernel_rfl))
 f301:=Tryz.func137.trans (congrArg some (by kernel_rfl))
 f328:=Tryz.func145.trans (congrArg some (by kernel_rfl))
 f329:=Tryz.func146.trans (congrArg some (by kernel_rfl))
 f330:=Tryz.func147.trans (congrArg some (by kernel_rfl))
 f331:=Tryz.func148.trans (congrArg some (by kernel_rfl))
 f332:=Tryz.func149.trans (congrArg some (by kernel_rfl))
 f343:=Tryz.func152.trans (congrArg some (by kernel_rfl))
 t0:=Tryz.underlying0
 a0:=Tryz.isAgg0
 z0:=Tryz.sizeOf0
 v0:=Tryz.zeroValue0
 t3:=Tryz.underlying3
 a3:=Tryz.isAgg3
 z3:=Tryz.sizeOf3
 v3:=Tryz.zeroValue3
 t4:=Tryz.underlying4
 a4:=Tryz.isAgg4
 z4:=Tryz.sizeOf4
 v4:=Tryz.zeroValue4
 t5:=Tryz.underlying5
 a5:=Tryz.isAgg5
 z5:=Tryz.sizeOf5
 v5:=Tryz.zeroValue5
 t9:=Tryz.underlying9
 a9:=Tryz.isAgg9
 z9:=Tryz.sizeOf9
 v9:=Tryz.zeroValue9
 t28:=Tryz.underlying60
 a28:=Tryz.isAgg60
 z28:=Tryz.sizeOf60
 v28:=Tryz.zeroValue60
 t46:=Tryz.underlying124
 a46:=Tryz.isAgg124
 z46:=Tryz.sizeOf124
 v46:=Tryz.zeroValue124
 t51:=Tryz.underlying145
 a51:=Tryz.isAgg145
 z51:=Tryz.sizeOf145
 v51:=Tryz.zeroValue145
 t53:=Tryz.underlying157
 a53:=Tryz.isAgg157
 z53:=Tryz.sizeOf157
 v53:=Tryz.zeroValue157
 t131:=Tryz.underlying153
 a131:=Tryz.isAgg153
 z131:=Tryz.sizeOf153
 v131:=Tryz.zeroValue153
 t182:=Tryz.underlying147
 a182:=Tryz.isAgg147
 z182:=Tryz.sizeOf147
 v182:=Tryz.zeroValue147
 t183:=Tryz.underlying148
 a183:=Tryz.isAgg148
 z183:=Tryz.sizeOf148
 v183:=Tryz.zeroValue148
 t218:=Tryz.underlying161
 a218:=Tryz.isAgg161
 z218:=Tryz.sizeOf161
 v218:=Tryz.zeroValue161
 t222:=Tryz.underlying165
 a222:=Tryz.isAgg165
 z222:=Tryz.sizeOf165
 v222:=Tryz.zeroValue165
 t228:=Tryz.underlying167
 a228:=Tryz.isAgg167
 z228:=Tryz.sizeOf167
 v228:=Tryz.zeroValue167
 t229:=Tryz.underlying168
 a229:=Tryz.isAgg168
 z229:=Tryz.sizeOf168
 v229:=Tryz.zeroValue168
noncomputable def D2M:Go.Shelf.Ren:=⟨fun | 20=>96 | n=>n,fun | 22=>60 | 3=>3 | 4=>4 | 0=>0 | n=>n,fun n=>n⟩
theorem D1f:Go.Proofs.Lays2.n20 Tryz.prog D2M where
 mixed:=by kernel_rfl
 f20:=Tryz.func96.trans (congrArg some (by kernel_rfl))
 t0:=Tryz.underlying0
 a0:=Tryz.isAgg0
 z0:=Tryz.sizeOf0
 v0:=Tryz.zeroValue0
 t3:=Tryz.underlying3
 a3:=Tryz.isAgg3
 z3:=Tryz.sizeOf3
 v3:=Tryz.zeroValue3
 t4:=Tryz.underlying4
 a4:=Tryz.isAgg4
 z4:=Tryz.sizeOf4
 v4:=Tryz.zeroValue4
 t22:=Tryz.underlying60
 a22:=Tryz.isAgg60
 z22:=Tryz.sizeOf60
 v22:=Tryz.zeroValue60
 i3:=by kernel_rfl
theorem E5W:aPM 94 (win B0 D2P):=(MContract.sortInt (Go.Proofs.Any.slices_Sort_int_none E1Y) (Go.Proofs.Any.slices_Sort_int E1Y)).win B0
theorem D9d:aPM 96 (win B0 B8W):=(MContract.compactInt (Go.Proofs.Any.slices_Compact_int_empty D1f) (Go.Proofs.Any.slices_Compact_int D1f)).win B0
noncomputable def C8b (l:List Int):Bool:=decide (l.length<4611686018427387904)
noncomputable def E3b (l:List Int):Nat×List Int:=((Lib.compact l).length,Lib.compact l++List.replicate (l.length - (Lib.compact l).length) 0)

abbrev T4:Ty:=.sl (.int .u8)
abbrev D4L:List PSh:=[.t T4]
noncomputable def lbig (a0:List Int):Bool:=(decide ((a0.length:Int) > (1048576:Int)))
noncomputable abbrev F1s (r:Bool):AV×List AObj:=((.t true .bool r),[])
noncomputable abbrev E4Q:A1 D4L→AV×List AObj:=fun d=>F1s (lbig d.1)
noncomputable abbrev D4m:A1 D4L→Bool:=fun d=>true
theorem E7k:N0 true G0 aLn Tryz.f4 D4L D4m E4Q:=by
 rintro ⟨a0,_⟩ hp
 kernel_rfl
theorem F02:aPP 4 (A7 D4L D4m E4Q):=pcD true G0 hlz E7k
noncomputable def S1:Tab:=Tab.add S0 4 (lift (A7 D4L D4m E4Q))
noncomputable def QF1:FuncId→Bool:=qadd QF0 4
theorem G1:aPG S1 QF1:=G0.addQ F02 (cbl Tryz.f4) (fun _=>rfl)

abbrev F08:List Sh:=.junk::.junk::.junk::.junk::.junk::.junk::.junk::.junk::.junk::.junk::.junk::.junk::.junk::.junk::.junk::.junk::.junk::.junk::.junk::.junk::.junk::.junk::.junk::.junk::.junk::.junk::.junk::[]
abbrev E6a:List Sh:=.junk::F08
abbrev u28:=((),(),(),(),(),(),(),(),(),(),(),(),(),(),(),(),(),(),(),(),(),(),(),(),(),(),(),())
abbrev u29:=((),u28)
abbrev F1f:List AV:=.junk::.junk::.junk::.junk::.junk::.junk::.junk::.junk::.junk::.junk::.junk::.junk::.junk::.junk::.junk::.junk::.junk::.junk::.junk::.junk::.junk::.junk::.junk::.junk::.junk::.junk::.junk::[]
abbrev E4H:List AV:=.junk::F1f
abbrev C4G:SS:=⟨[.t false T4],[]⟩
abbrev A5d:SS:=⟨(.t false T4::.junk::.junk::tI::tI::F08),[]⟩
abbrev C0l:SS:=⟨(.t false T4::.junk::.junk::tI::E6a),[]⟩
noncomputable def D1Y (x0:List Int) (x3 x4:Int):RT A5d.den:=(.br (decide (x4<(x0.length:Int))) (.br (decide (x4<(4000:Int))) (.br (decide (0≤x4∧x4<(x0.length:Int))) (.next ((x0,(),(),iand .i64 (wI ((wI ((wI (x3*(137:Int)))+(wI (x0.getD x4.toNat (0:Int)))))+(11:Int))) (1073741823:Int),wI (x4+(1:Int)),u28),())) .fail) (.done (.exit 0) C0l ((x0,(),(),x3,u29),()))) (.done (.exit 0) C0l ((x0,(),(),x3,u29),())))
abbrev B4N:=(List Int)×(Int)×(Int)
abbrev B0q:=Nat×(List Int)×(Int)
def D0M:B0q:=(99,([]:List Int),((0:Int):Int))
noncomputable def B1E (x0:List Int) (x3 x4:Int):B4N ⊕ B0q:=(cond (decide (x4<(x0.length:Int))) (cond (decide (x4<(4000:Int))) (cond (decide (0≤x4∧x4<(x0.length:Int))) (.inl (x0,iand .i64 (wI ((wI ((wI (x3*(137:Int)))+(wI (x0.getD x4.toNat (0:Int)))))+(11:Int))) (1073741823:Int),wI (x4+(1:Int)))) (.inr D0M)) (.inr (0,x0,x3))) (.inr (0,x0,x3)))
noncomputable def A77 (x0:List Int) (x3 x4:Int):B0q:=itX (fun v:B4N=>B1E v.1 v.2.1 v.2.2) D0M (x0,x3,x4)
noncomputable def C3I (a:B0q):CT:=(.br (a.1==0) (.done (.exit 0) C0l ((a.2.1,(),(),a.2.2,u29),())) .fail)
noncomputable def E3T (x0:List Int) (x3 x4:Int):CT:=C3I (A77 x0 x3 x4)
noncomputable abbrev C2g:A5d.den→RT A5d.den:=(fun d=>D1Y d.1.1 d.1.2.2.2.1 d.1.2.2.2.2.1)
noncomputable def C5W:Code:=((A6 0 (B4 Tryz.f17)).getD 0 (0,.skip)).2
noncomputable abbrev D1m (v:B4N):A5d.den:=((v.1,(),(),v.2.1,v.2.2,u28),())
theorem E18:(∀ v:B4N,(D1Y v.1 v.2.1 v.2.2).val=R5 D1m C3I (B1E v.1 v.2.1 v.2.2))∧∀ a:B0q,CEnd A5d.den (C3I a):=⟨fun v=>(B3 (B3 (B3 rfl rfl) rfl) rfl),fun a=>(C5 aCD K7)⟩
noncomputable def D1w (x0:List Int) (x3 x4:Int):Option (Ex×St):=let z1:=(⟨((.t false T4 x0)::.junk::.junk::(ti x3)::E4H),[],0,[]⟩:St);(cond (decide (x4<(x0.length:Int))) (cond (decide (x4<(4000:Int))) (cond (decide (0≤x4∧x4<(x0.length:Int))) (some (.normal,(⟨((.t false T4 x0)::.junk::.junk::(ti (iand .i64 (wI ((wI ((wI (x3*(137:Int)))+(wI (x0.getD x4.toNat (0:Int)))))+(11:Int))) (1073741823:Int)))::(ti (wI (x4+(1:Int))))::F1f),[],0,[]⟩:St))) none) (some ((.exit 0),z1))) (some ((.exit 0),z1)))
theorem D9B:RdA G1 aLn 0 C5W A5d 0 [] (kepts [] [(0,[0,3])]) (fun d=>D1w d.1.1 d.1.2.2.2.1 d.1.2.2.2.2.1):=by
 intro d
 kernel_rfl
theorem D9S:∀ d:A5d.den,(fun d=>D1w d.1.1 d.1.2.2.2.1 d.1.2.2.2.2.1) d=(C2g d).opt 0 []:=by
 intro d
 kernel_rfl
noncomputable abbrev C7s:St→Option Tree:=A5d.say 0 [] [] (fun d=>E3T d.1.1 d.1.2.2.2.1 d.1.2.2.2.2.1)
theorem E07:aPL C7s C5W:=SS.wp2 hlz [] C2g D9B D9S _ (fun d=>Runs.ofI2 (step:=C2g) D1m E18 rfl (d.1.1,d.1.2.2.2.1,d.1.2.2.2.2.1))
noncomputable def A2V (x0:List Int):(List Int)×Int×Int:=let z1:=A77 x0 (wI ((381381:Int)+(x0.length:Int))) (0:Int);((z1.2.1),(0:Int),(z1.2.2))
noncomputable abbrev E2K (r:(List Int)×Int×Int):AV×List AObj×List Nat:=((.ptr 0 0 1 0),[(.box [(.t false T4 r.1),(ti r.2.1),(ti r.2.2)])],[])
noncomputable abbrev E2Q:C4G.den→AV×List AObj×List Nat:=fun d=>E2K (A2V d.1.1)
noncomputable def A9D (x0:List Int):Bool:=((A77 x0 (wI ((381381:Int)+(x0.length:Int))) (0:Int)).1==0)
noncomputable abbrev D3m:C4G.den→Bool:=fun d=>A9D d.1.1
noncomputable abbrev E8G:Nat→St→Option Tree:=fun b=>match b with | 0=>C7s | _=>fun _=>none
theorem E5i:B0e G1 (E8G) Tryz.f17 C4G D3m E2Q:=by
 rintro ⟨⟨x0,_⟩,_⟩ hp
 change A9D x0=true at hp
 unfold A9D at hp
 refine Eq.trans (b:=(let z1:=A77 x0 (wI ((381381:Int)+(x0.length:Int))) (0:Int);cond (z1.1==0) (some (E2K ((z1.2.1),(0:Int),(z1.2.2)))) none)) (by kernel_rfl) ?_
 exact (B7 hp fun _h=>rfl)
noncomputable abbrev E05:=win B0 (msum C4G D3m E2Q)
theorem E8o:aPM 17 E05:=(mcM G1 (hl1 (i:=0) (by kernel_rfl) E07) E5i).win B0
noncomputable def S2:Tab:=Tab.add S1 17 (E05)
noncomputable def QF2:FuncId→Bool:=QF1
theorem G2:aPG S2 QF2:=G1.addM E8o (C1 _) (cbl Tryz.f17) (by kernel_rfl)

abbrev B7s:List PSh:=[.t T4,.t (.int .i64)]
noncomputable def A7p (a0:List Int) (a1:Int):Int:=let z1:=wI ((3:Int)+(wI (Int.tdiv (a0.length:Int) (12:Int))));(cond (decide (z1 > a1)) a1 z1)
noncomputable abbrev C4J (r:Int):AV×List AObj:=((ti r),[])
noncomputable abbrev C9M:A1 B7s→AV×List AObj:=fun d=>C4J (A7p d.1 d.2.1)
noncomputable abbrev C35:A1 B7s→Bool:=fun d=>true
theorem E06:N0 true G2 aLn Tryz.f19 B7s C35 C9M:=by
 rintro ⟨a0,⟨a1,_⟩⟩ hp
 refine Eq.trans (b:=(let z1:=wI ((3:Int)+(wI (Int.tdiv (a0.length:Int) (12:Int))));cond (decide (z1 > a1)) (some (C4J a1)) (some (C4J z1)))) (by kernel_rfl) ?_
 exact (A18 C4J (fun _h=>rfl) (fun _h=>rfl))
theorem E6k:aPP 19 (A7 B7s C35 C9M):=pcD true G2 hlz E06
noncomputable def S3:Tab:=Tab.add S2 19 (lift (A7 B7s C35 C9M))
noncomputable def QF3:FuncId→Bool:=qadd QF2 19
theorem G3:aPG S3 QF3:=G2.addQ E6k (cbl Tryz.f19) (fun _=>rfl)

abbrev B9P:SS:=⟨[.ptr 0 0 1 0],[.box [.t false T4,tI,tI]]⟩
noncomputable def U1 (p0:List Int) (p1 p2:Int):Int×(List Int)×Int×Int:=let z1:=(wI (p2*(6364136223846793005:Int)))+(1442695040888963407:Int);let z3:=wI z1;let z2:=ixor .i64 (Int.fdiv z3 (2 ^ (33))) (Int.fdiv z3 (2 ^ (47)));(cond (decide (p1<(p0.length:Int))) (iand .i64 (wI ((iand .i64 z2 (255:Int))+(wI (p0.getD p1.toNat (0:Int))))) (255:Int),p0,wI (p1+(1:Int)),wI z1) (iand .i64 z2 (255:Int),p0,p1,wI z1))
noncomputable abbrev C4c (r:Int×(List Int)×Int×Int):AV×List AObj×List Nat:=((ti r.1),[(.box [(.t false T4 r.2.1),(ti r.2.2.1),(ti r.2.2.2)])],[])
noncomputable abbrev D72:B9P.den→AV×List AObj×List Nat:=fun d=>C4c (U1 d.2.1.1 d.2.1.2.1 d.2.1.2.2.1)
noncomputable def A2b (p0:List Int) (p1 p2:Int):Bool:=cond (decide (p1<(p0.length:Int))) (decide (0≤p1∧p1<(p0.length:Int))) true
noncomputable abbrev D1S:B9P.den→Bool:=fun d=>A2b d.2.1.1 d.2.1.2.1 d.2.1.2.2.1
theorem E3g:B0e G3 aLn Tryz.f73 B9P D1S D72:=by
 rintro ⟨⟨_,_⟩,⟨⟨p0,p1,p2,_⟩,_⟩⟩ hp
 change A2b p0 p1 p2=true at hp
 unfold A2b at hp
 refine Eq.trans (b:=(let z1:=(wI (p2*(6364136223846793005:Int)))+(1442695040888963407:Int);let z3:=wI z1;let z2:=ixor .i64 (Int.fdiv z3 (2 ^ (33))) (Int.fdiv z3 (2 ^ (47)));cond (decide (p1<(p0.length:Int))) (cond (decide (0≤p1∧p1<(p0.length:Int))) (some (C4c (iand .i64 (wI ((iand .i64 z2 (255:Int))+(wI (p0.getD p1.toNat (0:Int))))) (255:Int),p0,wI (p1+(1:Int)),wI z1))) none) (some (C4c (iand .i64 z2 (255:Int),p0,p1,wI z1))))) (by kernel_rfl) ?_
 exact (A9 C4c hp (fun hp=>(B7 hp fun _h=>rfl)) (fun hp=>rfl))
noncomputable abbrev D74:=win B0 (msum B9P D1S D72)
theorem E54:aPM 73 D74:=(mcM G3 hlz E3g).win B0
noncomputable def S4:Tab:=Tab.add S3 73 (D74)
noncomputable def QF4:FuncId→Bool:=QF3
theorem G4:aPG S4 QF4:=G3.addM E54 (C1 _) (cbl Tryz.f73) (by kernel_rfl)

abbrev B5R:SS:=⟨[.ptr 0 0 1 0,tI],[.box [.t false T4,tI,tI]]⟩
noncomputable def B13 (p0:List Int) (p1 p2:Int):=let z1:=U1 p0 p1 p2;U1 (z1.2.1) (z1.2.2.1) (z1.2.2.2)
noncomputable def C1R (p0:List Int) (p1 p2:Int):=let z1:=B13 p0 p1 p2;U1 (z1.2.1) (z1.2.2.1) (z1.2.2.2)
noncomputable def A3 (x1:Int) (p0:List Int) (p1 p2:Int):Int×(List Int)×Int×Int:=let z1:=U1 p0 p1 p2;let z2:=C1R p0 p1 p2;(cond (decide (x1≤(0:Int))) ((0:Int),p0,p1,p2) (cond (decide (x1≤(256:Int))) (Int.tmod (z1.1) x1,(z1.2.1),(z1.2.2.1),(z1.2.2.2)) (Int.tmod (wI ((wI ((wI ((z1.1)*(65536:Int)))+(wI (((B13 p0 p1 p2).1)*(256:Int)))))+(z2.1))) x1,(z2.2.1),(z2.2.2.1),(z2.2.2.2))))
noncomputable abbrev B0w (r:Int×(List Int)×Int×Int):AV×List AObj×List Nat:=((ti r.1),[(.box [(.t false T4 r.2.1),(ti r.2.2.1),(ti r.2.2.2)])],[])
noncomputable abbrev D4K:B5R.den→AV×List AObj×List Nat:=fun d=>B0w (A3 d.1.2.1 d.2.1.1 d.2.1.2.1 d.2.1.2.2.1)
noncomputable def A5 (x1:Int) (p0:List Int) (p1 p2:Int):Bool:=let z1:=B13 p0 p1 p2;let z2:=U1 p0 p1 p2;let z3:=A2b p0 p1 p2;cond (decide (x1≤(0:Int))) true (cond (decide (x1≤(256:Int))) (z3&&(decide (x1 ≠ 0))) (z3&&((A2b (z2.2.1) (z2.2.2.1) (z2.2.2.2))&&((A2b (z1.2.1) (z1.2.2.1) (z1.2.2.2))&&(decide (x1 ≠ 0))))))
noncomputable abbrev C7W:B5R.den→Bool:=fun d=>A5 d.1.2.1 d.2.1.1 d.2.1.2.1 d.2.1.2.2.1
theorem D8E:B0e G4 aLn Tryz.f42 B5R C7W D4K:=by
 rintro ⟨⟨_,x1,_⟩,⟨⟨p0,p1,p2,_⟩,_⟩⟩ hp
 change A5 x1 p0 p1 p2=true at hp
 unfold A5 at hp
 refine Eq.trans (b:=(let z1:=U1 p0 p1 p2;let z2:=B13 p0 p1 p2;let z3:=C1R p0 p1 p2;let z4:=A2b p0 p1 p2;cond (decide (x1≤(0:Int))) (some (B0w ((0:Int),p0,p1,p2))) (cond (decide (x1≤(256:Int))) (cond z4 (cond (decide (x1 ≠ 0)) (some (B0w (Int.tmod (z1.1) x1,(z1.2.1),(z1.2.2.1),(z1.2.2.2)))) none) none) (cond z4 (cond (A2b (z1.2.1) (z1.2.2.1) (z1.2.2.2)) (cond (A2b (z2.2.1) (z2.2.2.1) (z2.2.2.2)) (cond (decide (x1 ≠ 0)) (some (B0w (Int.tmod (wI ((wI ((wI ((z1.1)*(65536:Int)))+(wI ((z2.1)*(256:Int)))))+(z3.1))) x1,(z3.2.1),(z3.2.2.1),(z3.2.2.2)))) none) none) none) none)))) (by kernel_rfl) ?_
 exact (A9 B0w hp (fun hp=>rfl) (fun hp=>(A9 B0w hp (fun hp=>(B2 hp fun hp=>(B7 hp fun _h=>rfl))) (fun hp=>(B2 hp fun hp=>(B2 hp fun hp=>(B2 hp fun hp=>(B7 hp fun _h=>rfl))))))))
noncomputable abbrev D30:=win B0 (msum B5R C7W D4K)
theorem E40:aPM 42 D30:=(mcM G4 hlz D8E).win B0
noncomputable def S5:Tab:=Tab.add S4 42 (D30)
noncomputable def QF5:FuncId→Bool:=QF4
theorem G5:aPG S5 QF5:=G4.addM E40 (C1 _) (cbl Tryz.f42) (by kernel_rfl)

abbrev C8a:List PSh:=[.t (.int .i64),.t (.int .i64),.t (.int .i64)]
noncomputable def C0 (a0 a1 a2:Int):Bool:=(cond (decide (a0 ≥ a1)) (decide (a0≤a2)) false)
noncomputable abbrev D2X (r:Bool):AV×List AObj:=((.t true .bool r),[])
noncomputable abbrev D88:A1 C8a→AV×List AObj:=fun d=>D2X (C0 d.1 d.2.1 d.2.2.1)
noncomputable abbrev C9A:A1 C8a→Bool:=fun d=>true
theorem E6x:N0 true G5 aLn Tryz.f32 C8a C9A D88:=by
 rintro ⟨a0,⟨a1,⟨a2,_⟩⟩⟩ hp
 refine Eq.trans (b:=(cond (decide (a0 ≥ a1)) (some (D2X (decide (a0≤a2)))) (some (D2X false)))) (by kernel_rfl) ?_
 exact (A18 D2X (fun _h=>rfl) (fun _h=>rfl))
theorem E9W:aPP 32 (A7 C8a C9A D88):=pcD true G5 hlz E6x
noncomputable def S6:Tab:=Tab.add S5 32 (lift (A7 C8a C9A D88))
noncomputable def QF6:FuncId→Bool:=qadd QF5 32
theorem G6:aPG S6 QF6:=G5.addQ E9W (cbl Tryz.f32) (fun _=>rfl)

abbrev Lq1:=List (Int×Int×List (Int×ByteArray×ByteArray))
abbrev LBBe:=List (ByteArray×ByteArray)
abbrev D0:Ty:=.pair .str .str
abbrev B12:List PSh:=[.t (.int .i64)]
noncomputable def C4j (a0:Int):Int×Int×Lq1×LBBe×Lq1:=(cond (!(C0 a0 (0:Int) (7:Int))) ((0:Int),(0:Int),([]:Lq1),([]:LBBe),([]:Lq1)) (a0,(0:Int),([]:Lq1),([]:LBBe),([]:Lq1)))
noncomputable abbrev B5D (r:Int×Int×Lq1×LBBe×Lq1):AV×List AObj:=((.agg [(ti r.1),(.all 0 3),(ti r.2.1),(.all 1 2),(.all 2 3)]),[(.rows 48 true tq4 r.2.2.1),(.rows 50 true D0 r.2.2.2.1),(.rows 48 true tq4 r.2.2.2.2)])
noncomputable abbrev C2B:A1 B12→AV×List AObj:=fun d=>B5D (C4j d.1)
noncomputable abbrev B6R:A1 B12→Bool:=fun d=>true
theorem D6k:N0 false G6 aLn Tryz.f67 B12 B6R C2B:=by
 rintro ⟨a0,_⟩ hp
 refine Eq.trans (b:=(cond (!(C0 a0 (0:Int) (7:Int))) (some (B5D ((0:Int),(0:Int),([]:Lq1),([]:LBBe),([]:Lq1)))) (some (B5D (a0,(0:Int),([]:Lq1),([]:LBBe),([]:Lq1)))))) (by kernel_rfl) ?_
 exact (A18 B5D (fun _h=>rfl) (fun _h=>rfl))
theorem E2S:aPP 67 (A7 B12 B6R C2B):=pcD false G6 hlz D6k
noncomputable def S7:Tab:=Tab.add S6 67 (lift (A7 B12 B6R C2B))
noncomputable def QF7:FuncId→Bool:=QF6
theorem G7:aPG S7 QF7:=G6.add E2S (cbl Tryz.f67) (by kernel_rfl)

abbrev C4B:SS:=⟨[.ptr 0 0 1 0,.all 1 1],[.box [.t false T4,tI,tI],.rows 3 true (.int .i64)]⟩
noncomputable def H7 (p0:List Int) (p1 p2:Int) (h1:List Int):Int×(List Int)×Int×Int×List Int:=let z1:=A3 (h1.length:Int) p0 p1 p2;(h1.getD ((z1.1).toNat) (0:Int),(z1.2.1),(z1.2.2.1),(z1.2.2.2),h1)
noncomputable abbrev E0U (r:Int×(List Int)×Int×Int×List Int):AV×List AObj×List Nat:=((ti r.1),[(.box [(.t false T4 r.2.1),(ti r.2.2.1),(ti r.2.2.2.1)]),(.rows 3 true (.int .i64) r.2.2.2.2)],[])
noncomputable abbrev E24:C4B.den→AV×List AObj×List Nat:=fun d=>E0U (H7 d.2.1.1 d.2.1.2.1 d.2.1.2.2.1 d.2.2.1)
noncomputable def M2 (p0:List Int) (p1 p2:Int) (h1:List Int):Bool:=let z1:=(A3 (h1.length:Int) p0 p1 p2).1;(A5 (h1.length:Int) p0 p1 p2)&&(decide (0≤z1∧z1<(h1.length:Int)))
noncomputable abbrev D5M:C4B.den→Bool:=fun d=>M2 d.2.1.1 d.2.1.2.1 d.2.1.2.2.1 d.2.2.1
theorem E4M:B0e G7 aLn Tryz.f43 C4B D5M E24:=by
 rintro ⟨⟨_,_,_⟩,⟨⟨p0,p1,p2,_⟩,h1,_⟩⟩ hp
 change M2 p0 p1 p2 h1=true at hp
 unfold M2 at hp
 refine Eq.trans (b:=(let z1:=A3 (h1.length:Int) p0 p1 p2;cond (A5 (h1.length:Int) p0 p1 p2) (cond (decide (0≤(z1.1)∧(z1.1)<(h1.length:Int))) (some (E0U (h1.getD ((z1.1).toNat) (0:Int),(z1.2.1),(z1.2.2.1),(z1.2.2.2),h1))) none) none)) (by kernel_rfl) ?_
 exact (B2 hp fun hp=>(B7 hp fun _h=>rfl))
noncomputable abbrev E0z:=win B0 (msum C4B D5M E24)
theorem E8f:aPM 43 E0z:=(mcM G7 hlz E4M).win B0
noncomputable def S8:Tab:=Tab.add S7 43 (E0z)
noncomputable def QF8:FuncId→Bool:=QF7
theorem G8:aPG S8 QF8:=G7.addM E8f (C1 _) (cbl Tryz.f43) (by kernel_rfl)

abbrev C39:SS:=⟨[.ptr 0 0 1 0,.all 1 1],[.box [.t false T4,tI,tI],.rows 9 true .str]⟩
noncomputable def B6T (p0:List Int) (p1 p2:Int) (h1:List ByteArray):ByteArray×(List Int)×Int×Int×List ByteArray:=let z1:=A3 (h1.length:Int) p0 p1 p2;(h1.getD ((z1.1).toNat) bE,(z1.2.1),(z1.2.2.1),(z1.2.2.2),h1)
noncomputable abbrev E22 (r:ByteArray×(List Int)×Int×Int×List ByteArray):AV×List AObj×List Nat:=((.t true .str r.1),[(.box [(.t false T4 r.2.1),(ti r.2.2.1),(ti r.2.2.2.1)]),(.rows 9 true .str r.2.2.2.2)],[])
noncomputable abbrev E0V:C39.den→AV×List AObj×List Nat:=fun d=>E22 (B6T d.2.1.1 d.2.1.2.1 d.2.1.2.2.1 d.2.2.1)
noncomputable def A5B (p0:List Int) (p1 p2:Int) (h1:List ByteArray):Bool:=let z1:=(A3 (h1.length:Int) p0 p1 p2).1;(A5 (h1.length:Int) p0 p1 p2)&&(decide (0≤z1∧z1<(h1.length:Int)))
noncomputable abbrev D4z:C39.den→Bool:=fun d=>A5B d.2.1.1 d.2.1.2.1 d.2.1.2.2.1 d.2.2.1
theorem E3A:B0e G8 aLn Tryz.f122 C39 D4z E0V:=by
 rintro ⟨⟨_,_,_⟩,⟨⟨p0,p1,p2,_⟩,h1,_⟩⟩ hp
 change A5B p0 p1 p2 h1=true at hp
 unfold A5B at hp
 refine Eq.trans (b:=(let z1:=A3 (h1.length:Int) p0 p1 p2;cond (A5 (h1.length:Int) p0 p1 p2) (cond (decide (0≤(z1.1)∧(z1.1)<(h1.length:Int))) (some (E22 (h1.getD ((z1.1).toNat) (⟨#[]⟩:ByteArray),(z1.2.1),(z1.2.2.1),(z1.2.2.2),h1))) none) none)) (by kernel_rfl) ?_
 exact (B2 hp fun hp=>(B7 hp fun _h=>rfl))
noncomputable abbrev E1P:=win B0 (msum C39 D4z E0V)
theorem E7v:aPM 122 E1P:=(mcM G8 hlz E3A).win B0
noncomputable def S9:Tab:=Tab.add S8 122 (E1P)
noncomputable def QF9:FuncId→Bool:=QF8
theorem G9:aPG S9 QF9:=G8.addM E7v (C1 _) (cbl Tryz.f122) (by kernel_rfl)

abbrev C4K:SS:=⟨[.ptr 0 0 1 0],[.box [.t false T4,tI,tI]]⟩
noncomputable def C9N (p0:List Int) (p1 p2:Int):=B6T p0 p1 p2 ([(⟨#[97]⟩:ByteArray),(⟨#[98]⟩:ByteArray),(⟨#[99]⟩:ByteArray),(⟨#[107,49]⟩:ByteArray),(⟨#[107,50]⟩:ByteArray),(⟨#[109]⟩:ByteArray),(⟨#[122]⟩:ByteArray)])
noncomputable def B9h (p0:List Int) (p1 p2:Int):ByteArray×(List Int)×Int×Int:=let z1:=C9N p0 p1 p2;((z1.1),(z1.2.1),(z1.2.2.1),(z1.2.2.2.1))
noncomputable abbrev E2G (r:ByteArray×(List Int)×Int×Int):AV×List AObj×List Nat:=((.t true .str r.1),[(.box [(.t false T4 r.2.1),(ti r.2.2.1),(ti r.2.2.2)])],[])
noncomputable abbrev E1L:C4K.den→AV×List AObj×List Nat:=fun d=>E2G (B9h d.2.1.1 d.2.1.2.1 d.2.1.2.2.1)
noncomputable def A88 (p0:List Int) (p1 p2:Int):Bool:=A5B p0 p1 p2 ([(⟨#[97]⟩:ByteArray),(⟨#[98]⟩:ByteArray),(⟨#[99]⟩:ByteArray),(⟨#[107,49]⟩:ByteArray),(⟨#[107,50]⟩:ByteArray),(⟨#[109]⟩:ByteArray),(⟨#[122]⟩:ByteArray)])
noncomputable abbrev D3C:C4K.den→Bool:=fun d=>A88 d.2.1.1 d.2.1.2.1 d.2.1.2.2.1
theorem E4O:B0e G9 aLn Tryz.f121 C4K D3C E1L:=by
 rintro ⟨⟨_,_⟩,⟨⟨p0,p1,p2,_⟩,_⟩⟩ hp
 change A88 p0 p1 p2=true at hp
 unfold A88 at hp
 refine Eq.trans (b:=(let z1:=C9N p0 p1 p2;cond (A5B p0 p1 p2 ([(⟨#[97]⟩:ByteArray),(⟨#[98]⟩:ByteArray),(⟨#[99]⟩:ByteArray),(⟨#[107,49]⟩:ByteArray),(⟨#[107,50]⟩:ByteArray),(⟨#[109]⟩:ByteArray),(⟨#[122]⟩:ByteArray)])) (some (E2G ((z1.1),(z1.2.1),(z1.2.2.1),(z1.2.2.2.1)))) none)) (by kernel_rfl) ?_
 exact (B7 hp fun _h=>rfl)
noncomputable abbrev E1Q:=win B0 (msum C4K D3C E1L)
theorem E76:aPM 121 E1Q:=(mcM G9 hlz E4O).win B0
noncomputable def S10:Tab:=Tab.add S9 121 (E1Q)
noncomputable def F1S:FuncId→Bool:=QF9
theorem G10:aPG S10 F1S:=G9.addM E76 (C1 _) (cbl Tryz.f121) (by kernel_rfl)

abbrev C4D:SS:=⟨[.ptr 0 0 1 0],[.box [.t false T4,tI,tI]]⟩
noncomputable def B7Y (p0:List Int) (p1 p2:Int):=let z1:=H7 p0 p1 p2 [(1:Int),(1:Int),(1:Int),(2:Int),(3:Int)];B9h (z1.2.1) (z1.2.2.1) (z1.2.2.2.1)
noncomputable def D0p (p0:List Int) (p1 p2:Int):=let z1:=B7Y p0 p1 p2;B6T (z1.2.1) (z1.2.2.1) (z1.2.2.2) ([(⟨#[49]⟩:ByteArray),(⟨#[50]⟩:ByteArray),(⟨#[120]⟩:ByteArray),bE,(⟨#[49]⟩:ByteArray)])
noncomputable def A6A (p0:List Int) (p1 p2:Int):Int×ByteArray×ByteArray×(List Int)×Int×Int×Int×ByteArray×ByteArray:=let z1:=(H7 p0 p1 p2 [(1:Int),(1:Int),(1:Int),(2:Int),(3:Int)]).1;let z2:=B7Y p0 p1 p2;let z3:=D0p p0 p1 p2;(cond (z1 != (2:Int)) (z1,(z2.1),(z3.1),(z3.2.1),(z3.2.2.1),(z3.2.2.2.1),z1,(z2.1),(z3.1)) (z1,(z2.1),bE,(z2.2.1),(z2.2.2.1),(z2.2.2.2),z1,(z2.1),bE))
noncomputable abbrev C8Z (r:Int×ByteArray×ByteArray×(List Int)×Int×Int×Int×ByteArray×ByteArray):AV×List AObj×List Nat:=((.agg [(ti r.1),(.t true .str r.2.1),(.t true .str r.2.2.1)]),[(.box [(.t false T4 r.2.2.2.1),(ti r.2.2.2.2.1),(ti r.2.2.2.2.2.1)]),(.box [(ti r.2.2.2.2.2.2.1),(.t true .str r.2.2.2.2.2.2.2.1),(.t true .str r.2.2.2.2.2.2.2.2)])],[])
noncomputable abbrev E09:C4D.den→AV×List AObj×List Nat:=fun d=>C8Z (A6A d.2.1.1 d.2.1.2.1 d.2.1.2.2.1)
noncomputable def A9M (p0:List Int) (p1 p2:Int):Bool:=let z1:=H7 p0 p1 p2 [(1:Int),(1:Int),(1:Int),(2:Int),(3:Int)];let z2:=B7Y p0 p1 p2;(M2 p0 p1 p2 [(1:Int),(1:Int),(1:Int),(2:Int),(3:Int)])&&((A88 (z1.2.1) (z1.2.2.1) (z1.2.2.2.1))&&(cond ((z1.1) != (2:Int)) (A5B (z2.2.1) (z2.2.2.1) (z2.2.2.2) ([(⟨#[49]⟩:ByteArray),(⟨#[50]⟩:ByteArray),(⟨#[120]⟩:ByteArray),bE,(⟨#[49]⟩:ByteArray)])) true))
noncomputable abbrev D3c:C4D.den→Bool:=fun d=>A9M d.2.1.1 d.2.1.2.1 d.2.1.2.2.1
theorem E4S:B0e G10 aLn Tryz.f105 C4D D3c E09:=by
 rintro ⟨⟨_,_⟩,⟨⟨p0,p1,p2,_⟩,_⟩⟩ hp
 change A9M p0 p1 p2=true at hp
 unfold A9M at hp
 refine Eq.trans (b:=(let z1:=H7 p0 p1 p2 [(1:Int),(1:Int),(1:Int),(2:Int),(3:Int)];let z2:=B7Y p0 p1 p2;let z3:=D0p p0 p1 p2;cond (M2 p0 p1 p2 [(1:Int),(1:Int),(1:Int),(2:Int),(3:Int)]) (cond (A88 (z1.2.1) (z1.2.2.1) (z1.2.2.2.1)) (cond ((z1.1) != (2:Int)) (cond (A5B (z2.2.1) (z2.2.2.1) (z2.2.2.2) ([(⟨#[49]⟩:ByteArray),(⟨#[50]⟩:ByteArray),(⟨#[120]⟩:ByteArray),(⟨#[]⟩:ByteArray),(⟨#[49]⟩:ByteArray)])) (some (C8Z ((z1.1),(z2.1),(z3.1),(z3.2.1),(z3.2.2.1),(z3.2.2.2.1),(z1.1),(z2.1),(z3.1)))) none) (some (C8Z ((z1.1),(z2.1),(⟨#[]⟩:ByteArray),(z2.2.1),(z2.2.2.1),(z2.2.2.2),(z1.1),(z2.1),(⟨#[]⟩:ByteArray))))) none) none)) (by kernel_rfl) ?_
 exact (B2 hp fun hp=>(B2 hp fun hp=>(A9 C8Z hp (fun hp=>(B7 hp fun _h=>rfl)) (fun hp=>rfl))))
noncomputable abbrev E1A:=win B0 (msum C4D D3c E09)
theorem E8Q:aPM 105 E1A:=(mcM G10 hlz E4S).win B0
noncomputable def S11:Tab:=Tab.add S10 105 (E1A)
noncomputable def F3m:FuncId→Bool:=F1S
theorem G11:aPG S11 F3m:=G10.addM E8Q (C1 _) (cbl Tryz.f105) (by kernel_rfl)

abbrev F1Z:List Sh:=.junk::.junk::.junk::.junk::.junk::.junk::.junk::.junk::.junk::.junk::.junk::.junk::.junk::.junk::.junk::.junk::.junk::E6a
abbrev B5e:Ty:=.pair (.int .i64) (.pair .str .str)
abbrev E8T:List Sh:=.junk::F1Z
abbrev u46:=((),(),(),(),(),(),(),(),(),(),(),(),(),(),(),(),(),u29)
abbrev u47:=((),u46)
abbrev E7N:List AV:=.junk::.junk::.junk::.junk::.junk::.junk::.junk::.junk::.junk::.junk::.junk::.junk::.junk::.junk::.junk::.junk::.junk::E4H
abbrev E9P:List AV:=.junk::E7N
abbrev C3B:List PSh:=[.t tq5,.agg [(.int .i64),.str,.str]]
abbrev A3O:SS:=⟨(.t false tq5::.junk::.junk::.ptr 0 0 1 0::.junk::.all 1 3::.t true .bool::tI::F1Z),[.box [tI,.t true .str,.t true .str],.rows 75 true B5e]⟩
abbrev C8t:SS:=⟨(.junk::.junk::.junk::.ptr 0 0 1 0::.junk::.all 1 3::.t true .bool::E8T),[.box [tI,.t true .str,.t true .str],.rows 75 true B5e]⟩
noncomputable def D03 (x0:Lq2) (x6:Bool) (x7 p0:Int) (p1 p2:ByteArray) (h1:Lq2):RT A3O.den:=let z1:=x0.getD x7.toNat ((0:Int),(bE,bE));let z2:=decide (0≤x7∧x7<(x0.length:Int));let z3:=decide ((h1.length+([(z1.1,((z1.2).1,(z1.2).2))]).length)*40≤MAXB);(.br (decide (x7<(x0.length:Int))) (.br (!x6) (.br z2 (.br (!(Op.bytesLess ((z1.2).1).toList p1.toList)) (.br (decide ((h1.length+[(p0,(p1,p2))].length)*40≤MAXB)) (.br z2 (.br (!(((z1.2).1).toList==p1.toList)) (.br z2 (.br (decide (((h1++[(p0,(p1,p2))]).length+([(z1.1,((z1.2).1,(z1.2).2))]).length)*40≤MAXB)) (.next ((x0,(),(),(),(),(),true,wI (x7+(1:Int)),u46),((p0,p1,p2,()),(h1++[(p0,(p1,p2))])++([(z1.1,((z1.2).1,(z1.2).2))]),()))) .fail) .fail) (.next ((x0,(),(),(),(),(),true,wI (x7+(1:Int)),u46),((p0,p1,p2,()),h1++[(p0,(p1,p2))],())))) .fail) .fail) (.br z2 (.br (!(((z1.2).1).toList==p1.toList)) (.br z2 (.br z3 (.next ((x0,(),(),(),(),(),x6,wI (x7+(1:Int)),u46),((p0,p1,p2,()),h1++([(z1.1,((z1.2).1,(z1.2).2))]),()))) .fail) .fail) (.next ((x0,(),(),(),(),(),x6,wI (x7+(1:Int)),u46),((p0,p1,p2,()),h1,())))) .fail)) .fail) (.br z2 (.br (!(((z1.2).1).toList==p1.toList)) (.br z2 (.br z3 (.next ((x0,(),(),(),(),(),x6,wI (x7+(1:Int)),u46),((p0,p1,p2,()),h1++([(z1.1,((z1.2).1,(z1.2).2))]),()))) .fail) .fail) (.next ((x0,(),(),(),(),(),x6,wI (x7+(1:Int)),u46),((p0,p1,p2,()),h1,())))) .fail)) (.done (.exit 0) C8t (((),(),(),(),(),(),x6,u47),((p0,p1,p2,()),h1,()))))
abbrev A7L:=(Lq2)×(Bool)×(Int)×(Lq2)
abbrev B4n:=Nat×(Bool)×(Lq2)
def Y6:B4n:=(99,(false:Bool),([]:Lq2))
noncomputable def B6C (x0:Lq2) (x6:Bool) (x7 p0:Int) (p1 p2:ByteArray) (h1:Lq2):A7L ⊕ B4n:=let z1:=x0.getD x7.toNat ((0:Int),(bE,bE));let z2:=decide (0≤x7∧x7<(x0.length:Int));let z3:=decide ((h1.length+([(z1.1,((z1.2).1,(z1.2).2))]).length)*40≤MAXB);(cond (decide (x7<(x0.length:Int))) (cond (!x6) (cond z2 (cond (!(Op.bytesLess ((z1.2).1).toList p1.toList)) (cond (decide ((h1.length+[(p0,(p1,p2))].length)*40≤MAXB)) (cond z2 (cond (!(((z1.2).1).toList==p1.toList)) (cond z2 (cond (decide (((h1++[(p0,(p1,p2))]).length+([(z1.1,((z1.2).1,(z1.2).2))]).length)*40≤MAXB)) (.inl (x0,true,wI (x7+(1:Int)),(h1++[(p0,(p1,p2))])++([(z1.1,((z1.2).1,(z1.2).2))]))) (.inr Y6)) (.inr Y6)) (.inl (x0,true,wI (x7+(1:Int)),h1++[(p0,(p1,p2))]))) (.inr Y6)) (.inr Y6)) (cond z2 (cond (!(((z1.2).1).toList==p1.toList)) (cond z2 (cond z3 (.inl (x0,x6,wI (x7+(1:Int)),h1++([(z1.1,((z1.2).1,(z1.2).2))]))) (.inr Y6)) (.inr Y6)) (.inl (x0,x6,wI (x7+(1:Int)),h1))) (.inr Y6))) (.inr Y6)) (cond z2 (cond (!(((z1.2).1).toList==p1.toList)) (cond z2 (cond z3 (.inl (x0,x6,wI (x7+(1:Int)),h1++([(z1.1,((z1.2).1,(z1.2).2))]))) (.inr Y6)) (.inr Y6)) (.inl (x0,x6,wI (x7+(1:Int)),h1))) (.inr Y6))) (.inr (0,x6,h1)))
noncomputable def B1C (x0:Lq2) (x6:Bool) (x7 p0:Int) (p1 p2:ByteArray) (h1:Lq2):B4n:=itX (fun v:A7L=>B6C v.1 v.2.1 v.2.2.1 p0 p1 p2 v.2.2.2) Y6 (x0,x6,x7,h1)
noncomputable def C17 (p0:Int) (p1 p2:ByteArray) (a:B4n):CT:=(.br (a.1==0) (.done (.exit 0) C8t (((),(),(),(),(),(),a.2.1,u47),((p0,p1,p2,()),a.2.2,()))) .fail)
noncomputable def E3w (x0:Lq2) (x6:Bool) (x7 p0:Int) (p1 p2:ByteArray) (h1:Lq2):CT:=(C17 p0 p1 p2) (B1C x0 x6 x7 p0 p1 p2 h1)
noncomputable abbrev B54 {α:Sort _} (f:Lq2→Bool→Int→Int→ByteArray→ByteArray→Lq2→α) (d:A3O.den):α:=f d.1.1 d.1.2.2.2.2.2.2.1 d.1.2.2.2.2.2.2.2.1 d.2.1.1 d.2.1.2.1 d.2.1.2.2.1 d.2.2.1
noncomputable abbrev C2w:A3O.den→RT A3O.den:=(B54 D03)
noncomputable def C5m:Code:=((A6 0 (B4 Tryz.f104)).getD 0 (0,.skip)).2
noncomputable abbrev D1n (p0:Int) (p1 p2:ByteArray) (v:A7L):A3O.den:=((v.1,(),(),(),(),(),v.2.1,v.2.2.1,u46),((p0,p1,p2,()),v.2.2.2,()))
theorem E20 (p0:Int) (p1 p2:ByteArray):(∀ v:A7L,(D03 v.1 v.2.1 v.2.2.1 p0 p1 p2 v.2.2.2).val=R5 (D1n p0 p1 p2) (C17 p0 p1 p2) (B6C v.1 v.2.1 v.2.2.1 p0 p1 p2 v.2.2.2))∧∀ a:B4n,CEnd A3O.den ((C17 p0 p1 p2) a):=⟨fun v=>by repeat' first | apply B3 | rfl,fun a=>(C5 aCD K7)⟩
noncomputable def D1l (x0:Lq2) (x6:Bool) (x7 p0:Int) (p1 p2:ByteArray) (h1:Lq2):Option (Ex×St):=let z1:=x0.getD x7.toNat ((0:Int),(bE,bE));let z4:=decide (0≤x7∧x7<(x0.length:Int));let z5:=ti (wI (x7+(1:Int)));let z2:=(⟨((.t false tq5 x0)::.junk::.junk::(.ptr 0 0 1 0)::.junk::(.all 1 3)::(.t true .bool x6)::z5::E7N),[(.box [(ti p0),(.t true .str p1),(.t true .str p2)]),(.rows 75 true B5e (h1++([(z1.1,((z1.2).1,(z1.2).2))])))],0,[]⟩:St);let z3:=(⟨((.t false tq5 x0)::.junk::.junk::(.ptr 0 0 1 0)::.junk::(.all 1 3)::(.t true .bool x6)::z5::E7N),[(.box [(ti p0),(.t true .str p1),(.t true .str p2)]),(.rows 75 true B5e h1)],0,[]⟩:St);let z6:=decide ((h1.length+([(z1.1,((z1.2).1,(z1.2).2))]).length)*40≤MAXB);(cond (decide (x7<(x0.length:Int))) (cond (!x6) (cond z4 (cond (!(Op.bytesLess ((z1.2).1).toList p1.toList)) (cond (decide ((h1.length+[(p0,(p1,p2))].length)*40≤MAXB)) (cond z4 (cond (!(((z1.2).1).toList==p1.toList)) (cond z4 (cond (decide (((h1++[(p0,(p1,p2))]).length+([(z1.1,((z1.2).1,(z1.2).2))]).length)*40≤MAXB)) (some (.normal,(⟨((.t false tq5 x0)::.junk::.junk::(.ptr 0 0 1 0)::.junk::(.all 1 3)::(.t true .bool true)::z5::E7N),[(.box [(ti p0),(.t true .str p1),(.t true .str p2)]),(.rows 75 true B5e ((h1++[(p0,(p1,p2))])++([(z1.1,((z1.2).1,(z1.2).2))])))],0,[]⟩:St))) none) none) (some (.normal,(⟨((.t false tq5 x0)::.junk::.junk::(.ptr 0 0 1 0)::.junk::(.all 1 3)::(.t true .bool true)::z5::E7N),[(.box [(ti p0),(.t true .str p1),(.t true .str p2)]),(.rows 75 true B5e (h1++[(p0,(p1,p2))]))],0,[]⟩:St)))) none) none) (cond z4 (cond (!(((z1.2).1).toList==p1.toList)) (cond z4 (cond z6 (some (.normal,z2)) none) none) (some (.normal,z3))) none)) none) (cond z4 (cond (!(((z1.2).1).toList==p1.toList)) (cond z4 (cond z6 (some (.normal,z2)) none) none) (some (.normal,z3))) none)) (some ((.exit 0),(⟨(.junk::.junk::.junk::(.ptr 0 0 1 0)::.junk::(.all 1 3)::(.t true .bool x6)::E9P),[(.box [(ti p0),(.t true .str p1),(.t true .str p2)]),(.rows 75 true B5e h1)],0,[]⟩:St))))
theorem D9N:RdA G11 aLn 0 C5m A3O 0 [] (kepts [] [(0,[3,5,6])]) (B54 D1l):=by
 intro d
 kernel_rfl
theorem D8y:∀ d:A3O.den,(B54 D1l) d=(C2w d).opt 0 []:=by
 intro d
 kernel_rfl
noncomputable abbrev C8H:St→Option Tree:=A3O.say 0 [] [] (B54 E3w)
theorem E3d:aPL C8H C5m:=SS.wp2 hlz [] C2w D9N D8y _ (fun d=>Runs.ofI2 (step:=C2w) (D1n d.2.1.1 d.2.1.2.1 d.2.1.2.2.1) (E20 d.2.1.1 d.2.1.2.1 d.2.1.2.2.1) rfl (d.1.1,d.1.2.2.2.2.2.2.1,d.1.2.2.2.2.2.2.2.1,d.2.2.1))
noncomputable def C6t (a0:Lq2) (a1:Int) (a2 a3:ByteArray):Lq2:=let z1:=B1C a0 false (0:Int) a1 a2 a3 ([]:Lq2);(cond (!(z1.2.1)) ((z1.2.2)++[(a1,(a2,a3))]) (z1.2.2))
noncomputable abbrev C8A (r:Lq2):AV×List AObj:=((.all 0 3),[(.rows 75 true B5e r)])
noncomputable abbrev D3Z:A1 C3B→AV×List AObj:=fun d=>C8A (C6t d.1 d.2.1.1 d.2.1.2.1 d.2.1.2.2.1)
noncomputable def B4u (a0:Lq2) (a1:Int) (a2 a3:ByteArray):Bool:=let z1:=B1C a0 false (0:Int) a1 a2 a3 ([]:Lq2);(z1.1==0)&&(cond (!(z1.2.1)) (decide (((z1.2.2).length+[(a1,(a2,a3))].length)*40≤MAXB)) true)
noncomputable abbrev C6n:A1 C3B→Bool:=fun d=>B4u d.1 d.2.1.1 d.2.1.2.1 d.2.1.2.2.1
noncomputable abbrev E8H:Nat→St→Option Tree:=fun b=>match b with | 0=>C8H | _=>fun _=>none
theorem E3Z:N0 false G11 (E8H) Tryz.f104 C3B C6n D3Z:=by
 rintro ⟨a0,⟨⟨a1,⟨a2,⟨a3,_⟩⟩⟩,_⟩⟩ hp
 change B4u a0 a1 a2 a3=true at hp
 unfold B4u at hp
 refine Eq.trans (b:=(let z1:=B1C a0 false (0:Int) a1 a2 a3 ([]:Lq2);cond (z1.1==0) (cond (!(z1.2.1)) (cond (decide (((z1.2.2).length+[(a1,(a2,a3))].length)*40≤MAXB)) (some (C8A ((z1.2.2)++[(a1,(a2,a3))]))) none) (some (C8A (z1.2.2)))) none)) (by kernel_rfl) ?_
 exact (B2 hp fun hp=>(A9 C8A hp (fun hp=>(B7 hp fun _h=>rfl)) (fun hp=>rfl)))
theorem E7l:aPP 104 (A7 C3B C6n D3Z):=pcD false G11 (hl1 (i:=0) (by kernel_rfl) E3d) E3Z
noncomputable def S12:Tab:=Tab.add S11 104 (lift (A7 C3B C6n D3Z))
noncomputable def F2f:FuncId→Bool:=F3m
theorem G12:aPG S12 F2f:=G11.add E7l (cbl Tryz.f104) (by kernel_rfl)

abbrev E99:List Sh:=.junk::.junk::.junk::.junk::.junk::.junk::.junk::.junk::.junk::.junk::.junk::.junk::.junk::[]
abbrev D52:List Sh:=.junk::E99
abbrev u14:=((),(),(),(),(),(),(),(),(),(),(),(),(),())
abbrev u19:=((),(),(),(),(),u14)
abbrev B8O:SS:=⟨[.ptr 0 0 1 0],[.box [.t false T4,tI,tI]]⟩
abbrev A3w:SS:=⟨(.ptr 0 0 1 0::.junk::.junk::.all 1 3::tI::E99),[.box [.t false T4,tI,tI],.rows 75 true B5e]⟩
abbrev C5n:SS:=⟨(.junk::.junk::.junk::.all 1 3::D52),[.box [.t false T4,tI,tI],.rows 75 true B5e]⟩
noncomputable def C65 (p0:List Int) (p1 p2:Int) (h1:Lq2):=let z1:=A6A p0 p1 p2;C6t h1 (z1.1) (z1.2.1) (z1.2.2.1)
noncomputable def C7E (x4:Int) (p0:List Int) (p1 p2:Int) (h1:Lq2):RT A3w.den:=let z1:=A6A p0 p1 p2;(.br (decide (x4 > (0:Int))) (.br (A9M p0 p1 p2) (.br (B4u h1 (z1.1) (z1.2.1) (z1.2.2.1)) (.next (((),(),(),(),wI (x4 - (1:Int)),u14),(((z1.2.2.2.1),(z1.2.2.2.2.1),(z1.2.2.2.2.2.1),()),(C65 p0 p1 p2 h1),()))) .fail) .fail) (.done (.exit 0) C5n ((u19),((p0,p1,p2,()),h1,()))))
abbrev B1U:=(Int)×(List Int)×(Int)×(Int)×(Lq2)
abbrev A8o:=Nat×(List Int)×(Int)×(Int)×(Lq2)
def B90:A8o:=(99,([]:List Int),((0:Int):Int),((0:Int):Int),([]:Lq2))
noncomputable def B3p (x4:Int) (p0:List Int) (p1 p2:Int) (h1:Lq2):B1U ⊕ A8o:=let z1:=A6A p0 p1 p2;(cond (decide (x4 > (0:Int))) (cond (A9M p0 p1 p2) (cond (B4u h1 (z1.1) (z1.2.1) (z1.2.2.1)) (.inl (wI (x4 - (1:Int)),(z1.2.2.2.1),(z1.2.2.2.2.1),(z1.2.2.2.2.2.1),(C65 p0 p1 p2 h1))) (.inr B90)) (.inr B90)) (.inr (0,p0,p1,p2,h1)))
noncomputable def A2j (x4:Int) (p0:List Int) (p1 p2:Int) (h1:Lq2):A8o:=itX (fun v:B1U=>B3p v.1 v.2.1 v.2.2.1 v.2.2.2.1 v.2.2.2.2) B90 (x4,p0,p1,p2,h1)
noncomputable def B9X (a:A8o):CT:=(.br (a.1==0) (.done (.exit 0) C5n ((u19),((a.2.1,a.2.2.1,a.2.2.2.1,()),a.2.2.2.2,()))) .fail)
noncomputable def E15 (x4:Int) (p0:List Int) (p1 p2:Int) (h1:Lq2):CT:=B9X (A2j x4 p0 p1 p2 h1)
noncomputable abbrev C9o {α:Sort _} (f:Int→(List Int)→Int→Int→Lq2→α) (d:A3w.den):α:=f d.1.2.2.2.2.1 d.2.1.1 d.2.1.2.1 d.2.1.2.2.1 d.2.2.1
noncomputable abbrev B9p:A3w.den→RT A3w.den:=(C9o C7E)
noncomputable def C2x:Code:=((A6 0 (B4 Tryz.f69)).getD 0 (0,.skip)).2
noncomputable abbrev C8F (v:B1U):A3w.den:=(((),(),(),(),v.1,u14),((v.2.1,v.2.2.1,v.2.2.2.1,()),v.2.2.2.2,()))
theorem D8z:(∀ v:B1U,(C7E v.1 v.2.1 v.2.2.1 v.2.2.2.1 v.2.2.2.2).val=R5 C8F B9X (B3p v.1 v.2.1 v.2.2.1 v.2.2.2.1 v.2.2.2.2))∧∀ a:A8o,CEnd A3w.den (B9X a):=⟨fun v=>(B3 (B3 (B3 rfl rfl) rfl) rfl),fun a=>(C5 aCD K7)⟩
theorem D6F:RdA G12 aLn 0 C2x A3w 1 [] (kepts [] [(0,[3])]) (fun d=>(B9p d).opt 1 []):=by
 intro d
 kernel_rfl
noncomputable abbrev C5a:St→Option Tree:=A3w.say 1 [] [] (C9o E15)
theorem D8C:aPL C5a C2x:=SS.wp2 hlz [] B9p D6F (fun d=>rfl) _ (fun d=>Runs.ofI2 (step:=B9p) C8F D8z rfl (d.1.2.2.2.2.1,d.2.1.1,d.2.1.2.1,d.2.1.2.2.1,d.2.2.1))
noncomputable def B9S (p0:List Int) (p1 p2:Int):=let z1:=A3 (4:Int) p0 p1 p2;A2j (wI ((1:Int)+(z1.1))) (z1.2.1) (z1.2.2.1) (z1.2.2.2) ([]:Lq2)
noncomputable def F0 (p0:List Int) (p1 p2:Int):(List Int)×Int×Int×Lq2:=let z1:=B9S p0 p1 p2;((z1.2.1),(z1.2.2.1),(z1.2.2.2.1),(z1.2.2.2.2))
noncomputable abbrev D7I (r:(List Int)×Int×Int×Lq2):AV×List AObj×List Nat:=((.all 1 3),[(.box [(.t false T4 r.1),(ti r.2.1),(ti r.2.2.1)]),(.rows 75 true B5e r.2.2.2)],[])
noncomputable abbrev D7H:B8O.den→AV×List AObj×List Nat:=fun d=>D7I (F0 d.2.1.1 d.2.1.2.1 d.2.1.2.2.1)
noncomputable def Z9 (p0:List Int) (p1 p2:Int):Bool:=(A5 (4:Int) p0 p1 p2)&&((B9S p0 p1 p2).1==0)
noncomputable abbrev D1K:B8O.den→Bool:=fun d=>Z9 d.2.1.1 d.2.1.2.1 d.2.1.2.2.1
noncomputable abbrev E60:Nat→St→Option Tree:=fun b=>match b with | 0=>C5a | _=>fun _=>none
theorem E2U:B0e G12 (E60) Tryz.f69 B8O D1K D7H:=by
 rintro ⟨⟨_,_⟩,⟨⟨p0,p1,p2,_⟩,_⟩⟩ hp
 change Z9 p0 p1 p2=true at hp
 unfold Z9 at hp
 refine Eq.trans (b:=(let z1:=B9S p0 p1 p2;cond (A5 (4:Int) p0 p1 p2) (cond (z1.1==0) (some (D7I ((z1.2.1),(z1.2.2.1),(z1.2.2.2.1),(z1.2.2.2.2)))) none) none)) (by kernel_rfl) ?_
 exact (B2 hp fun hp=>(B7 hp fun _h=>rfl))
noncomputable abbrev D7E:=win B0 (msum B8O D1K D7H)
theorem E6Z:aPM 69 D7E:=(mcM G12 (hl1 (i:=0) (by kernel_rfl) D8C) E2U).win B0
noncomputable def S13:Tab:=Tab.add S12 69 (D7E)
noncomputable def F4b:FuncId→Bool:=F2f
theorem G13:aPG S13 F4b:=G12.addM E6Z (C1 _) (cbl Tryz.f69) (by kernel_rfl)

abbrev E7D:List Sh:=.junk::.junk::.junk::.junk::.junk::.junk::.junk::.junk::.junk::D52
abbrev D8A:List Sh:=.junk::E7D
abbrev E9z:List Sh:=.junk::.junk::D8A
abbrev u25:=((),(),(),(),(),(),u19)
abbrev u24:=((),(),(),(),(),u19)
abbrev u27:=((),(),u25)
noncomputable def C2S (s:ByteArray) (i:Nat):Bool:=let z1:=wI (bt s (i:Int));C0 z1 97 122||C0 z1 48 57
abbrev C3c:List PSh:=[.t .str]
abbrev A7v:SS:=⟨(.t true .str::.junk::.junk::tI::E7D),[]⟩
abbrev C9b:SS:=⟨(.junk::.junk::.t true .bool::D8A),[]⟩
abbrev C8s:SS:=⟨(.t true .str::E9z),[]⟩
noncomputable def C3L (x0:ByteArray) (x3:Int):RT A7v.den:=let z1:=decide (0≤x3∧x3<(x0.size:Int));let z2:=wI (bt x0 x3);(.br (decide (x3<(x0.size:Int))) (.br z1 (.br (!(C0 z2 (97:Int) (122:Int))) (.br z1 (.br (!(C0 z2 (48:Int) (57:Int))) (.done .ret C9b (((),(),false,u25),())) (.next ((x0,(),(),wI (x3+(1:Int)),u24),()))) .fail) (.next ((x0,(),(),wI (x3+(1:Int)),u24),()))) .fail) (.done (.exit 0) C8s ((x0,u27),())))
noncomputable def B44 (x0:ByteArray) (x3:Int):CT:=(.br (decide (0≤x3)&&okS x0) (.br (B1x (C2S x0) (x0.size - x3.toNat) x3.toNat) (.done (.exit 0) C8s ((x0,u27),())) (.done .ret C9b (((),(),false,u25),()))) .fail)
noncomputable abbrev B1g:A7v.den→RT A7v.den:=(fun d=>C3L d.1.1 d.1.2.2.2.1)
noncomputable abbrev D0P (x0:ByteArray) (x3:Int):A7v.den:=((x0,(),(),x3,u24),())
noncomputable def C49:Code:=((A6 0 (B4 Tryz.f119)).getD 0 (0,.skip)).2
theorem E3K (x0:ByteArray) (x3:Int):(B44 x0 x3).val (D:=A7v.den)=.fail∨Runs B1g (D0P x0 x3) (B44 x0 x3).val:=by
 cases hc:(decide (0≤x3)&&okS x0) with
 | false=>left;simp only [B44,CT.val,hc,cond_false]
 | true =>
  right
  simp only [B44,CT.val,hc,cond_true]
  simp only [Bool.and_eq_true,decide_eq_true_eq] at hc
  obtain ⟨i,rfl⟩:=Int.eq_ofNat_of_zero_le hc.1
  have hs:=E7O hc.2
  simp only [Int.toNat_natCast]
  refine Runs.scan (fun j=>D0P x0 (j:Int)) (x0.size) (C2S x0) (fun i hi=>?_) (fun i hi=>?_) ⟨_,_,_,rfl,by simp⟩ ⟨_,_,_,rfl,by simp⟩ _ _ rfl
  ·
   have h0a:decide ((i:Int)<(x0.size:Int))=true:=decide_eq_true (by omega)
   have h0b:decide (0≤(i:Int)∧(i:Int)<(x0.size:Int))=true:=decide_eq_true (by omega)
   simp only [B1g,C3L,RT.val,h0a,h0b,cond_true,E5x i (by omega),Int.toNat_natCast]
   simp only [C2S]
   cases C0 (wI (bt x0 (i:Int))) 97 122<;>cases C0 (wI (bt x0 (i:Int))) 48 57<;>rfl
  ·have h1:decide ((i:Int)<(x0.size:Int))=false:=decide_eq_false (by omega)
   simp only [B1g,C3L,RT.val,h1,cond_false]
theorem D9l:RdA G13 aLn 0 C49 A7v 0 [] (kepts [2] [(0,[0])]) (fun d=>(B1g d).opt 0 []):=by
 intro d
 kernel_rfl
noncomputable abbrev C79:St→Option Tree:=A7v.say 0 [] [] (fun d=>B44 d.1.1 d.1.2.2.2.1)
theorem E0G:aPL C79 C49:=SS.wp2 hlz [] B1g D9l (fun d=>rfl) _ (fun d=>E3K d.1.1 d.1.2.2.2.1)
noncomputable def C64 (a0:ByteArray):Bool:=(cond (B1x (C2S a0) (a0.size - (0:Int).toNat) (0:Int).toNat) (C0 (a0.size:Int) (1:Int) (12:Int)) false)
noncomputable abbrev C7K (r:Bool):AV×List AObj:=((.t true .bool r),[])
noncomputable abbrev D3x:A1 C3c→AV×List AObj:=fun d=>C7K (C64 d.1)
noncomputable def C2I (a0:ByteArray):Bool:=okS a0
noncomputable abbrev C6Z:A1 C3c→Bool:=fun d=>C2I d.1
noncomputable abbrev E8R:Nat→St→Option Tree:=fun b=>match b with | 0=>C79 | _=>fun _=>none
theorem E4i:N0 true G13 (E8R) Tryz.f119 C3c C6Z D3x:=by
 rintro ⟨a0,_⟩ hp
 change C2I a0=true at hp
 unfold C2I at hp
 refine Eq.trans (b:=(cond (decide (0≤(0:Int))&&okS a0) (cond (B1x (C2S a0) (a0.size - (0:Int).toNat) (0:Int).toNat) (some (C7K (C0 (a0.size:Int) (1:Int) (12:Int)))) (some (C7K false))) none)) (by kernel_rfl) ?_
 exact (B7 (by first | rfl | decide | exact hp | (simp only [Bool.and_eq_true] at hp;simp only [hp];done) | (simp [*];done) | (simp [okL] at hp;simp [okL,MAXB];omega) | (simp_all;done) | (simp at *;omega)) (fun _h=>(A18 C7K (fun _h=>rfl) (fun _h=>rfl))))
theorem E7M:aPP 119 (A7 C3c C6Z D3x):=pcD true G13 (hl1 (i:=0) (by kernel_rfl) E0G) E4i
noncomputable def S14:Tab:=Tab.add S13 119 (lift (A7 C3c C6Z D3x))
noncomputable def F3h:FuncId→Bool:=qadd F4b 119
theorem G14:aPG S14 F3h:=G13.addQ E7M (cbl Tryz.f119) (fun _=>rfl)

abbrev C7D:List PSh:=[.agg [(.int .i64),.str,.str]]
noncomputable def D4p (a0:Int) (a1 a2:ByteArray):Bool:=let z1:=decide ((a2.size:Int)≤(20:Int));(cond (!(C0 a0 (1:Int) (3:Int))) false (cond (a0==(2:Int)) (cond (!(a2.toList==bE.toList)) false (cond (C64 a1) z1 false)) (cond (C64 a1) z1 false)))
noncomputable abbrev A9r (r:Bool):AV×List AObj:=((.t true .bool r),[])
noncomputable abbrev D8X:A1 C7D→AV×List AObj:=fun d=>A9r (D4p d.1.1 d.1.2.1 d.1.2.2.1)
noncomputable def C4C (a0:Int) (a1 a2:ByteArray):Bool:=okS a1
noncomputable abbrev C9u:A1 C7D→Bool:=fun d=>C4C d.1.1 d.1.2.1 d.1.2.2.1
theorem E6M:N0 true G14 aLn Tryz.f98 C7D C9u D8X:=by
 rintro ⟨⟨a0,⟨a1,⟨a2,_⟩⟩⟩,_⟩ hp
 change C4C a0 a1 a2=true at hp
 unfold C4C at hp
 refine Eq.trans (b:=(let z1:=A9r (decide ((a2.size:Int)≤(20:Int)));cond (!(C0 a0 (1:Int) (3:Int))) (some (A9r false)) (cond (a0==(2:Int)) (cond (!(a2.toList==(⟨#[]⟩:ByteArray).toList)) (some (A9r false)) (cond (C2I a1) (cond (C64 a1) (some z1) (some (A9r false))) none)) (cond (C2I a1) (cond (C64 a1) (some z1) (some (A9r false))) none)))) (by kernel_rfl) ?_
 exact (A18 A9r (fun _h=>rfl) (fun _h=>(A18 A9r (fun _h=>(A18 A9r (fun _h=>rfl) (fun _h=>(B7 (by first | rfl | decide | exact hp | (simp only [Bool.and_eq_true] at hp;simp only [hp];done) | (simp [*];done) | (simp [okL] at hp;simp [okL,MAXB];omega) | (simp_all;done) | (simp at *;omega)) (fun _h=>(A18 A9r (fun _h=>rfl) (fun _h=>rfl))))))) (fun _h=>(B7 (by first | rfl | decide | exact hp | (simp only [Bool.and_eq_true] at hp;simp only [hp];done) | (simp [*];done) | (simp [okL] at hp;simp [okL,MAXB];omega) | (simp_all;done) | (simp at *;omega)) (fun _h=>(A18 A9r (fun _h=>rfl) (fun _h=>rfl))))))))
theorem E9A:aPP 98 (A7 C7D C9u D8X):=pcD true G14 hlz E6M
noncomputable def S15:Tab:=Tab.add S14 98 (lift (A7 C7D C9u D8X))
noncomputable def F2O:FuncId→Bool:=qadd F3h 98
theorem G15:aPG S15 F2O:=G14.addQ E9A (cbl Tryz.f98) (fun _=>rfl)

abbrev E1d:List Sh:=.junk::.junk::.junk::.junk::.junk::E6a
abbrev F06:List Sh:=.junk::E1d
abbrev E9E:List Sh:=.junk::.junk::F06
abbrev u35:=((),(),(),(),(),(),u29)
abbrev u34:=((),(),(),(),(),u29)
abbrev u37:=((),(),u35)
abbrev F1c:List AV:=.junk::.junk::.junk::.junk::.junk::.junk::E4H
abbrev E32:List AV:=.junk::.junk::.junk::.junk::.junk::E4H
abbrev E7G:List AV:=.junk::.junk::F1c
noncomputable def C7g (l:Lq2) (i:Nat):Bool:=let z1:=l.getD i dOp;D4p z1.1 z1.2.1 z1.2.2&&(decide (i=0)||Op.bytesLess (l.getD (i - 1) dOp).2.1.toList z1.2.1.toList)
abbrev C3V:List PSh:=[.t tq5]
abbrev A5k:SS:=⟨(.t false tq5::.junk::.junk::tI::E1d),[]⟩
abbrev B9m:SS:=⟨(.junk::.junk::.t true .bool::F06),[]⟩
abbrev C8W:SS:=⟨(.t false tq5::E9E),[]⟩
noncomputable def C31 (x0:Lq2) (x3:Int):RT A5k.den:=let z1:=x0.getD x3.toNat ((0:Int),(bE,bE));let z2:=wI (x3 - (1:Int));let z3:=decide (0≤x3∧x3<(x0.length:Int));(.br (decide (x3<(x0.length:Int))) (.br z3 (.br (C4C (z1.1) ((z1.2).1) ((z1.2).2)) (.br (!(D4p (z1.1) ((z1.2).1) ((z1.2).2))) (.done .ret B9m (((),(),false,u35),())) (.br (decide (x3 > (0:Int))) (.br (decide (0≤z2∧z2<(x0.length:Int))) (.br z3 (.br (!(Op.bytesLess (((x0.getD (z2.toNat) ((0:Int),(bE,bE))).2).1).toList ((z1.2).1).toList)) (.done .ret B9m (((),(),false,u35),())) (.next ((x0,(),(),wI (x3+(1:Int)),u34),()))) .fail) .fail) (.next ((x0,(),(),wI (x3+(1:Int)),u34),())))) .fail) .fail) (.done (.exit 0) C8W ((x0,u37),())))
noncomputable def B4t (x0:Lq2) (x3:Int):CT:=(.br (decide (0≤x3)&&L1 x0) (.br (B1x (C7g x0) (x0.length - x3.toNat) x3.toNat) (.done (.exit 0) C8W ((x0,u37),())) (.done .ret B9m (((),(),false,u35),()))) .fail)
noncomputable abbrev B1j:A5k.den→RT A5k.den:=(fun d=>C31 d.1.1 d.1.2.2.2.1)
noncomputable abbrev D1C (x0:Lq2) (x3:Int):A5k.den:=((x0,(),(),x3,u34),())
noncomputable def C5g:Code:=((A6 0 (B4 Tryz.f64)).getD 0 (0,.skip)).2
theorem E4h (x0:Lq2) (x3:Int):(B4t x0 x3).val (D:=A5k.den)=.fail∨Runs B1j (D1C x0 x3) (B4t x0 x3).val:=by
 cases hc:(decide (0≤x3)&&L1 x0) with
 | false=>left;simp only [B4t,CT.val,hc,cond_false]
 | true =>
  right
  simp only [B4t,CT.val,hc,cond_true]
  simp only [Bool.and_eq_true,decide_eq_true_eq] at hc
  obtain ⟨i,rfl⟩:=Int.eq_ofNat_of_zero_le hc.1
  have hs:=L4 hc.2
  simp only [Int.toNat_natCast]
  refine Runs.scan (fun j=>D1C x0 (j:Int)) (x0.length) (C7g x0) (fun i hi=>?_) (fun i hi=>?_) ⟨_,_,_,rfl,by simp⟩ ⟨_,_,_,rfl,by simp⟩ _ _ rfl
  ·
   have h0a:decide ((i:Int)<(x0.length:Int))=true:=decide_eq_true (by omega)
   have h0b:decide (0≤(i:Int)∧(i:Int)<(x0.length:Int))=true:=decide_eq_true (by omega)
   simp only [B1j,C31,RT.val,h0a,h0b,cond_true,E5x i (by omega),Int.toNat_natCast]
   have hq:C4C (x0.getD i dOp).1 (x0.getD i dOp).2.1 (x0.getD i dOp).2.2=true:=(E2B hc.2 i hi).1
   simp only [dOp] at hq
   simp only [hq,cond_true,C7g,dOp]
   cases D4p (x0.getD i ((0:Int),((⟨#[]⟩:ByteArray),(⟨#[]⟩:ByteArray)))).1 (x0.getD i ((0:Int),((⟨#[]⟩:ByteArray),(⟨#[]⟩:ByteArray)))).2.1 (x0.getD i ((0:Int),((⟨#[]⟩:ByteArray),(⟨#[]⟩:ByteArray)))).2.2 with
   | false=>rfl
   | true =>
    cases i with
    | zero=>rfl
    | succ i =>
     have h3:decide (((i+1:Nat):Int) > 0)=true:=decide_eq_true (by omega)
     have h4:wI (((i+1:Nat):Int) - 1)=(i:Int):=by have:=I5 (n:=((i+1:Nat):Int) - 1) (by omega) (by omega);omega
     have h5:decide (0≤(i:Int)∧(i:Int)<(x0.length:Int))=true:=decide_eq_true (by omega)
     have h6:decide (i+1=0)=false:=by simp
     simp only [h3,h4,h5,h6,cond_true,Bool.true_and,Bool.false_or,Int.toNat_natCast,Nat.add_sub_cancel,Bool.not_true,cond_false]
     cases Op.bytesLess (x0.getD i ((0:Int),((⟨#[]⟩:ByteArray),(⟨#[]⟩:ByteArray)))).2.1.toList (x0.getD (i+1) ((0:Int),((⟨#[]⟩:ByteArray),(⟨#[]⟩:ByteArray)))).2.1.toList<;>rfl
  ·have h1:decide ((i:Int)<(x0.length:Int))=false:=decide_eq_false (by omega)
   simp only [B1j,C31,RT.val,h1,cond_false]
noncomputable def D1P (x0:Lq2) (x3:Int):Option (Ex×St):=let z1:=x0.getD x3.toNat ((0:Int),(bE,bE));let z2:=(⟨((.t false tq5 x0)::.junk::.junk::(ti (wI (x3+(1:Int))))::E32),[],0,[]⟩:St);let z3:=wI (x3 - (1:Int));let z4:=(⟨(.junk::.junk::(.t true .bool false)::F1c),[],0,[]⟩:St);let z5:=decide (0≤x3∧x3<(x0.length:Int));(cond (decide (x3<(x0.length:Int))) (cond z5 (cond (C4C (z1.1) ((z1.2).1) ((z1.2).2)) (cond (!(D4p (z1.1) ((z1.2).1) ((z1.2).2))) (some (.ret,z4)) (cond (decide (x3 > (0:Int))) (cond (decide (0≤z3∧z3<(x0.length:Int))) (cond z5 (cond (!(Op.bytesLess (((x0.getD (z3.toNat) ((0:Int),(bE,bE))).2).1).toList ((z1.2).1).toList)) (some (.ret,z4)) (some (.normal,z2))) none) none) (some (.normal,z2)))) none) none) (some ((.exit 0),(⟨((.t false tq5 x0)::E7G),[],0,[]⟩:St))))
theorem D9Q:RdA G15 aLn 0 C5g A5k 0 [] (kepts [2] [(0,[0])]) (fun d=>D1P d.1.1 d.1.2.2.2.1):=by
 intro d
 kernel_rfl
theorem D8l:∀ d:A5k.den,(fun d=>D1P d.1.1 d.1.2.2.2.1) d=(B1j d).opt 0 []:=by
 intro d
 kernel_rfl
noncomputable abbrev C8q:St→Option Tree:=A5k.say 0 [] [] (fun d=>B4t d.1.1 d.1.2.2.2.1)
theorem E0L:aPL C8q C5g:=SS.wp2 hlz [] B1j D9Q D8l _ (fun d=>E4h d.1.1 d.1.2.2.2.1)
noncomputable def Z7 (a0:Lq2):Bool:=(cond (B1x (C7g a0) (a0.length - (0:Int).toNat) (0:Int).toNat) (C0 (a0.length:Int) (1:Int) (8:Int)) false)
noncomputable abbrev C7N (r:Bool):AV×List AObj:=((.t true .bool r),[])
noncomputable abbrev D5G:A1 C3V→AV×List AObj:=fun d=>C7N (Z7 d.1)
noncomputable def A2r (a0:Lq2):Bool:=L1 a0
noncomputable abbrev C6H:A1 C3V→Bool:=fun d=>A2r d.1
noncomputable abbrev E7H:Nat→St→Option Tree:=fun b=>match b with | 0=>C8q | _=>fun _=>none
theorem E4q:N0 true G15 (E7H) Tryz.f64 C3V C6H D5G:=by
 rintro ⟨a0,_⟩ hp
 change A2r a0=true at hp
 unfold A2r at hp
 refine Eq.trans (b:=(cond (decide (0≤(0:Int))&&L1 a0) (cond (B1x (C7g a0) (a0.length - (0:Int).toNat) (0:Int).toNat) (some (C7N (C0 (a0.length:Int) (1:Int) (8:Int)))) (some (C7N false))) none)) (by kernel_rfl) ?_
 exact (B7 (by first | rfl | decide | exact hp | (simp only [Bool.and_eq_true] at hp;simp only [hp];done) | (simp [*];done) | (simp [okL] at hp;simp [okL,MAXB];omega) | (simp_all;done) | (simp at *;omega)) (fun _h=>(A18 C7N (fun _h=>rfl) (fun _h=>rfl))))
theorem E7L:aPP 64 (A7 C3V C6H D5G):=pcD true G15 (hl1 (i:=0) (by kernel_rfl) E0L) E4q
noncomputable def S16:Tab:=Tab.add S15 64 (lift (A7 C3V C6H D5G))
noncomputable def F31:FuncId→Bool:=qadd F2O 64
theorem G16:aPG S16 F31:=G15.addQ E7L (cbl Tryz.f64) (fun _=>rfl)

abbrev tq3:Ty:=.sl (.pair (.int .i64) (.pair (.int .i64) (.sl (.pair (.int .i64) (.pair .str .str)))))
abbrev E4W:List Sh:=.junk::D52
abbrev E9e:List Sh:=.junk::.junk::.junk::.junk::E4W
abbrev u16:=((),(),u14)
abbrev u15:=((),u14)
abbrev u21:=((),(),u19)
abbrev C8P:List PSh:=[.t tq3,.t (.int .i64)]
abbrev B0s:SS:=⟨(.t false tq3::tI::.junk::.junk::.junk::tI::D52),[]⟩
abbrev D0H:SS:=⟨(.junk::.junk::.junk::.junk::tI::E4W),[]⟩
abbrev D00:SS:=⟨(.junk::E9e),[]⟩
noncomputable def D31 (x0:Lq1) (x1 x5:Int):RT B0s.den:=(.br (decide (x5<(x0.length:Int))) (.br (decide (0≤x5∧x5<(x0.length:Int))) (.br ((((x0.getD x5.toNat ((0:Int),((0:Int),[]))).2).1)==x1) (.done .ret D0H (((),(),(),(),x5,u16),())) (.next ((x0,x1,(),(),(),wI (x5+(1:Int)),u15),()))) .fail) (.done (.exit 0) D00 ((u21),())))
abbrev B3G:=(Lq1)×(Int)×(Int)
abbrev B3D:=Nat×(Int)
def C6c:B3D:=(99,((0:Int):Int))
noncomputable def B3T (x0:Lq1) (x1 x5:Int):B3G ⊕ B3D:=(cond (decide (x5<(x0.length:Int))) (cond (decide (0≤x5∧x5<(x0.length:Int))) (cond ((((x0.getD x5.toNat ((0:Int),((0:Int),[]))).2).1)==x1) (.inr (0,x5)) (.inl (x0,x1,wI (x5+(1:Int))))) (.inr C6c)) (.inr (1,((0:Int):Int))))
noncomputable def B4H (x0:Lq1) (x1 x5:Int):B3D:=itX (fun v:B3G=>B3T v.1 v.2.1 v.2.2) C6c (x0,x1,x5)
noncomputable def C6R (a:B3D):CT:=(.br (a.1==0) (.done .ret D0H (((),(),(),(),a.2,u16),())) (.br (a.1==1) (.done (.exit 0) D00 ((u21),())) .fail))
noncomputable def E55 (x0:Lq1) (x1 x5:Int):CT:=C6R (B4H x0 x1 x5)
noncomputable abbrev C66:B0s.den→RT B0s.den:=(fun d=>D31 d.1.1 d.1.2.1 d.1.2.2.2.2.2.1)
noncomputable def C7l:Code:=((A6 0 (B4 Tryz.f87)).getD 0 (0,.skip)).2
noncomputable abbrev D43 (v:B3G):B0s.den:=((v.1,v.2.1,(),(),(),v.2.2,u15),())
theorem E3D:(∀ v:B3G,(D31 v.1 v.2.1 v.2.2).val=R5 D43 C6R (B3T v.1 v.2.1 v.2.2))∧∀ a:B3D,CEnd B0s.den (C6R a):=⟨fun v=>(B3 (B3 (B3 rfl rfl) rfl) rfl),fun a=>(C5 aCD (C5 aCD K7))⟩
theorem E1K:RdA G16 aLn 0 C7l B0s 0 [] (kepts [4] [(0,[])]) (fun d=>(C66 d).opt 0 []):=by
 intro d
 kernel_rfl
noncomputable abbrev D1s:St→Option Tree:=B0s.say 0 [] [] (fun d=>E55 d.1.1 d.1.2.1 d.1.2.2.2.2.2.1)
theorem E4T:aPL D1s C7l:=SS.wp2 hlz [] C66 E1K (fun d=>rfl) _ (fun d=>Runs.ofI2 (step:=C66) D43 E3D rfl (d.1.1,d.1.2.1,d.1.2.2.2.2.2.1))
noncomputable def A72 (a0:Lq1) (a1:Int):Int:=let z1:=B4H a0 a1 (0:Int);(cond (z1.1==0) (z1.2) (-1:Int))
noncomputable abbrev D2R (r:Int):AV×List AObj:=((ti r),[])
noncomputable abbrev D9z:A1 C8P→AV×List AObj:=fun d=>D2R (A72 d.1 d.2.1)
noncomputable def A9E (a0:Lq1) (a1:Int):Bool:=let z1:=B4H a0 a1 (0:Int);cond (z1.1==0) true (z1.1==1)
noncomputable abbrev D0q:A1 C8P→Bool:=fun d=>A9E d.1 d.2.1
noncomputable abbrev E9v:Nat→St→Option Tree:=fun b=>match b with | 0=>D1s | _=>fun _=>none
theorem E6K:N0 true G16 (E9v) Tryz.f87 C8P D0q D9z:=by
 rintro ⟨a0,⟨a1,_⟩⟩ hp
 change A9E a0 a1=true at hp
 unfold A9E at hp
 refine Eq.trans (b:=(let z1:=B4H a0 a1 (0:Int);cond (z1.1==0) (some (D2R (z1.2))) (cond (z1.1==1) (some (D2R (-1:Int))) none))) (by kernel_rfl) ?_
 exact (A9 D2R hp (fun hp=>rfl) (fun hp=>(B7 hp fun _h=>rfl)))
theorem E9u:aPP 87 (A7 C8P D0q D9z):=pcD true G16 (hl1 (i:=0) (by kernel_rfl) E4T) E6K
noncomputable def S17:Tab:=Tab.add S16 87 (lift (A7 C8P D0q D9z))
noncomputable def F2P:FuncId→Bool:=qadd F31 87
theorem G17:aPG S17 F2P:=G16.addQ E9u (cbl Tryz.f87) (fun _=>rfl)

abbrev tq8:Ty:=.sl (.pair .str .str)
abbrev F3W:List Sh:=.junk::E8T
abbrev E94:List Sh:=.junk::F3W
abbrev u48:=((),u47)
abbrev u49:=((),u48)
abbrev E87:List AV:=.junk::E9P
abbrev E7g:List AV:=.junk::E87
abbrev A9v:List PSh:=[.agg [(.int .i64),tq3,(.int .i64),tq8,tq3],.t (.int .i64)]
abbrev W4:SS:=⟨(.junk::tI::.ptr 0 0 1 0::.junk::.junk::tI::tI::F3W),[.box [tI,.t false tq3,tI,.t false tq8,.t false tq3]]⟩
abbrev B7T:SS:=⟨(.junk::.junk::.junk::.junk::.junk::tI::E94),[]⟩
noncomputable def C0D (x1 x5 x6 p0:Int) (p1:Lq1) (p2:Int) (p3:LBBe) (p4:Lq1):RT W4.den:=let z1:=p1.getD x6.toNat ((0:Int),((0:Int),[]));let z2:=decide (0≤x6∧x6<(p1.length:Int));(.br (decide (x6<(p1.length:Int))) (.br z2 (.br (((z1.2).1)==x1) (.br z2 (.br ((z1.1)==(2:Int)) (.br z2 (.br (((z1.2).1)==x1) (.br z2 (.br ((z1.1)==(3:Int)) (.next (((),x1,(),(),(),(4:Int),wI (x6+(1:Int)),u48),((p0,p1,p2,p3,p4,()),()))) (.next (((),x1,(),(),(),(3:Int),wI (x6+(1:Int)),u48),((p0,p1,p2,p3,p4,()),())))) .fail) (.next (((),x1,(),(),(),(3:Int),wI (x6+(1:Int)),u48),((p0,p1,p2,p3,p4,()),())))) .fail) (.br z2 (.br (((z1.2).1)==x1) (.br z2 (.br ((z1.1)==(3:Int)) (.next (((),x1,(),(),(),(4:Int),wI (x6+(1:Int)),u48),((p0,p1,p2,p3,p4,()),()))) (.next (((),x1,(),(),(),x5,wI (x6+(1:Int)),u48),((p0,p1,p2,p3,p4,()),())))) .fail) (.next (((),x1,(),(),(),x5,wI (x6+(1:Int)),u48),((p0,p1,p2,p3,p4,()),())))) .fail)) .fail) (.br z2 (.br (((z1.2).1)==x1) (.br z2 (.br ((z1.1)==(3:Int)) (.next (((),x1,(),(),(),(4:Int),wI (x6+(1:Int)),u48),((p0,p1,p2,p3,p4,()),()))) (.next (((),x1,(),(),(),x5,wI (x6+(1:Int)),u48),((p0,p1,p2,p3,p4,()),())))) .fail) (.next (((),x1,(),(),(),x5,wI (x6+(1:Int)),u48),((p0,p1,p2,p3,p4,()),())))) .fail)) .fail) (.done (.exit 0) B7T (((),(),(),(),(),x5,u49),())))
abbrev A4Z:=(Int)×(Int)×(Int)
abbrev A5v:=Nat×(Int)
def Q3:A5v:=(99,((0:Int):Int))
noncomputable def A32 (x1 x5 x6 p0:Int) (p1:Lq1) (p2:Int) (p3:LBBe) (p4:Lq1):A4Z ⊕ A5v:=let z1:=p1.getD x6.toNat ((0:Int),((0:Int),[]));let z2:=decide (0≤x6∧x6<(p1.length:Int));(cond (decide (x6<(p1.length:Int))) (cond z2 (cond (((z1.2).1)==x1) (cond z2 (cond ((z1.1)==(2:Int)) (cond z2 (cond (((z1.2).1)==x1) (cond z2 (cond ((z1.1)==(3:Int)) (.inl (x1,(4:Int),wI (x6+(1:Int)))) (.inl (x1,(3:Int),wI (x6+(1:Int))))) (.inr Q3)) (.inl (x1,(3:Int),wI (x6+(1:Int))))) (.inr Q3)) (cond z2 (cond (((z1.2).1)==x1) (cond z2 (cond ((z1.1)==(3:Int)) (.inl (x1,(4:Int),wI (x6+(1:Int)))) (.inl (x1,x5,wI (x6+(1:Int))))) (.inr Q3)) (.inl (x1,x5,wI (x6+(1:Int))))) (.inr Q3))) (.inr Q3)) (cond z2 (cond (((z1.2).1)==x1) (cond z2 (cond ((z1.1)==(3:Int)) (.inl (x1,(4:Int),wI (x6+(1:Int)))) (.inl (x1,x5,wI (x6+(1:Int))))) (.inr Q3)) (.inl (x1,x5,wI (x6+(1:Int))))) (.inr Q3))) (.inr Q3)) (.inr (0,x5)))
noncomputable def A33 (x1 x5 x6 p0:Int) (p1:Lq1) (p2:Int) (p3:LBBe) (p4:Lq1):A5v:=itX (fun v:A4Z=>A32 v.1 v.2.1 v.2.2 p0 p1 p2 p3 p4) Q3 (x1,x5,x6)
noncomputable def B17 (p0:Int) (p1:Lq1) (p2:Int) (p3:LBBe) (p4:Lq1) (a:A5v):CT:=(.br (a.1==0) (.done (.exit 0) B7T (((),(),(),(),(),a.2,u49),())) .fail)
noncomputable def D3p (x1 x5 x6 p0:Int) (p1:Lq1) (p2:Int) (p3:LBBe) (p4:Lq1):CT:=(B17 p0 p1 p2 p3 p4) (A33 x1 x5 x6 p0 p1 p2 p3 p4)
noncomputable abbrev A68 {α:Sort _} (f:Int→Int→Int→Int→Lq1→Int→LBBe→Lq1→α) (d:W4.den):α:=f d.1.2.1 d.1.2.2.2.2.2.1 d.1.2.2.2.2.2.2.1 d.2.1.1 d.2.1.2.1 d.2.1.2.2.1 d.2.1.2.2.2.1 d.2.1.2.2.2.2.1
noncomputable abbrev B2B:W4.den→RT W4.den:=(A68 C0D)
noncomputable def B5N:Code:=((A6 0 (B4 Tryz.f101)).getD 0 (0,.skip)).2
noncomputable abbrev C0C (p0:Int) (p1:Lq1) (p2:Int) (p3:LBBe) (p4:Lq1) (v:A4Z):W4.den:=(((),v.1,(),(),(),v.2.1,v.2.2,u48),((p0,p1,p2,p3,p4,()),()))
theorem D2E (p0:Int) (p1:Lq1) (p2:Int) (p3:LBBe) (p4:Lq1):(∀ v:A4Z,(C0D v.1 v.2.1 v.2.2 p0 p1 p2 p3 p4).val=R5 (C0C p0 p1 p2 p3 p4) (B17 p0 p1 p2 p3 p4) (A32 v.1 v.2.1 v.2.2 p0 p1 p2 p3 p4))∧∀ a:A5v,CEnd W4.den ((B17 p0 p1 p2 p3 p4) a):=⟨fun v=>by repeat' first | apply B3 | rfl,fun a=>(C5 aCD K7)⟩
noncomputable def C07 (x1 x5 x6 p0:Int) (p1:Lq1) (p2:Int) (p3:LBBe) (p4:Lq1):Option (Ex×St):=let z3:=p1.getD x6.toNat ((0:Int),((0:Int),[]));let z4:=decide (0≤x6∧x6<(p1.length:Int));let z6:=ti (wI (x6+(1:Int)));let z1:=(⟨(.junk::(ti x1)::(.ptr 0 0 1 0)::.junk::.junk::(ti x5)::z6::E87),[(.box [(ti p0),(.t false tq3 p1),(ti p2),(.t false tq8 p3),(.t false tq3 p4)])],0,[]⟩:St);let z2:=(⟨(.junk::(ti x1)::(.ptr 0 0 1 0)::.junk::.junk::(ti (4:Int))::z6::E87),[(.box [(ti p0),(.t false tq3 p1),(ti p2),(.t false tq8 p3),(.t false tq3 p4)])],0,[]⟩:St);let z5:=(⟨(.junk::(ti x1)::(.ptr 0 0 1 0)::.junk::.junk::(ti (3:Int))::z6::E87),[(.box [(ti p0),(.t false tq3 p1),(ti p2),(.t false tq8 p3),(.t false tq3 p4)])],0,[]⟩:St);(cond (decide (x6<(p1.length:Int))) (cond z4 (cond (((z3.2).1)==x1) (cond z4 (cond ((z3.1)==(2:Int)) (cond z4 (cond (((z3.2).1)==x1) (cond z4 (cond ((z3.1)==(3:Int)) (some (.normal,z2)) (some (.normal,z5))) none) (some (.normal,z5))) none) (cond z4 (cond (((z3.2).1)==x1) (cond z4 (cond ((z3.1)==(3:Int)) (some (.normal,z2)) (some (.normal,z1))) none) (some (.normal,z1))) none)) none) (cond z4 (cond (((z3.2).1)==x1) (cond z4 (cond ((z3.1)==(3:Int)) (some (.normal,z2)) (some (.normal,z1))) none) (some (.normal,z1))) none)) none) (some ((.exit 0),(⟨(.junk::.junk::.junk::.junk::.junk::(ti x5)::E7g),[],0,[]⟩:St))))
theorem D0y:RdA G17 aLn 0 B5N W4 0 [] (kepts [] [(0,[5])]) (A68 C07):=by
 intro d
 kernel_rfl
theorem D0v:∀ d:W4.den,(A68 C07) d=(B2B d).opt 0 []:=by
 intro d
 kernel_rfl
noncomputable abbrev B7q:St→Option Tree:=W4.say 0 [] [] (A68 D3p)
theorem D2a:aPL B7q B5N:=SS.wp2 hlz [] B2B D0y D0v _ (fun d=>Runs.ofI2 (step:=B2B) (C0C d.2.1.1 d.2.1.2.1 d.2.1.2.2.1 d.2.1.2.2.2.1 d.2.1.2.2.2.2.1) (D2E d.2.1.1 d.2.1.2.1 d.2.1.2.2.1 d.2.1.2.2.2.1 d.2.1.2.2.2.2.1) rfl (d.1.2.1,d.1.2.2.2.2.2.1,d.1.2.2.2.2.2.2.1))
noncomputable def A2H (a0:Int) (a1:Lq1) (a2:Int) (a3:LBBe) (a4:Lq1) (a5:Int):Int:=(cond (decide ((A72 a4 a5) ≥ (0:Int))) (1:Int) ((A33 a5 (2:Int) (0:Int) a0 a1 a2 a3 a4).2))
noncomputable abbrev B3B (r:Int):AV×List AObj:=((ti r),[])
noncomputable abbrev B9r:A1 A9v→AV×List AObj:=fun d=>B3B (A2H d.1.1 d.1.2.1 d.1.2.2.1 d.1.2.2.2.1 d.1.2.2.2.2.1 d.2.1)
noncomputable def A0k (a0:Int) (a1:Lq1) (a2:Int) (a3:LBBe) (a4:Lq1) (a5:Int):Bool:=(A9E a4 a5)&&(cond (decide ((A72 a4 a5) ≥ (0:Int))) true ((A33 a5 (2:Int) (0:Int) a0 a1 a2 a3 a4).1==0))
noncomputable abbrev B3X:A1 A9v→Bool:=fun d=>A0k d.1.1 d.1.2.1 d.1.2.2.1 d.1.2.2.2.1 d.1.2.2.2.2.1 d.2.1
noncomputable abbrev D9v:Nat→St→Option Tree:=fun b=>match b with | 0=>B7q | _=>fun _=>none
theorem D41:N0 true G17 (D9v) Tryz.f101 A9v B3X B9r:=by
 rintro ⟨⟨a0,⟨a1,⟨a2,⟨a3,⟨a4,_⟩⟩⟩⟩⟩,⟨a5,_⟩⟩ hp
 change A0k a0 a1 a2 a3 a4 a5=true at hp
 unfold A0k at hp
 refine Eq.trans (b:=(let z1:=A33 a5 (2:Int) (0:Int) a0 a1 a2 a3 a4;cond (A9E a4 a5) (cond (decide ((A72 a4 a5) ≥ (0:Int))) (some (B3B (1:Int))) (cond (z1.1==0) (some (B3B (z1.2))) none)) none)) (by kernel_rfl) ?_
 exact (B2 hp fun hp=>(A9 B3B hp (fun hp=>rfl) (fun hp=>(B7 hp fun _h=>rfl))))
theorem E0f:aPP 101 (A7 A9v B3X B9r):=pcD true G17 (hl1 (i:=0) (by kernel_rfl) D2a) D41
noncomputable def S18:Tab:=Tab.add S17 101 (lift (A7 A9v B3X B9r))
noncomputable def F2L:FuncId→Bool:=qadd F2P 101
theorem G18:aPG S18 F2L:=G17.addQ E0f (cbl Tryz.f101) (fun _=>rfl)

abbrev E8g:List Sh:=.junk::E9E
abbrev E67:List Sh:=.junk::.junk::.junk::E8g
abbrev E8i:List Sh:=.junk::E8g
abbrev u41:=((),(),(),(),u37)
abbrev u38:=((),u37)
abbrev u39:=((),u38)
abbrev E3r:List AV:=.junk::.junk::.junk::.junk::E7G
abbrev E9q:List AV:=.junk::E7G
abbrev E30:List AV:=.junk::E9q
abbrev E3U:List Sh:=.junk::E8i
abbrev u40:=((),u39)
abbrev E42:List AV:=.junk::E30
abbrev F4Y:List Sh:=.junk::.junk::.junk::.junk::E67
abbrev F46:List AV:=.junk::.junk::.junk::.junk::E3r
abbrev B1e:List PSh:=[.t tq3,.t tq5]
noncomputable def B0y:Code:=((A6 0 (B4 Tryz.f89)).getD 0 (0,.skip)).2
noncomputable def B0c:Code:=((A6 0 B0y).getD 0 (0,.skip)).2
noncomputable def B7o:Code:=((A6 2 B0c).getD 0 (0,.skip)).2
abbrev A0e:SS:=⟨(.t false tq3::.t false tq5::.junk::.junk::.junk::tI::tI::tI::E8g),[]⟩
abbrev C1n:SS:=⟨(.junk::.junk::.junk::.junk::.t true .bool::E67),[]⟩
abbrev C0K:SS:=⟨(.t false tq3::.t false tq5::.junk::.junk::.junk::tI::tI::E8i),[]⟩
noncomputable def C2q (x0:Lq1) (x1:Lq2) (x5 x6 x7:Int):RT A0e.den:=let z1:=((x0.getD x5.toNat ((0:Int),((0:Int),[]))).2).2;(.br (decide (x7<(x1.length:Int))) (.br (decide (0≤x5∧x5<(x0.length:Int))) (.br (decide (0≤x6∧x6<((z1.length:Nat):Int))) (.br (decide (0≤x7∧x7<(x1.length:Int))) (.br ((((z1.getD x6.toNat ((0:Int),(bE,bE))).2).1).toList==(((x1.getD x7.toNat ((0:Int),(bE,bE))).2).1).toList) (.done .ret C1n (((),(),(),(),true,u41),())) (.next ((x0,x1,(),(),(),x5,x6,wI (x7+(1:Int)),u38),()))) .fail) .fail) .fail) (.done (.exit 4) C0K ((x0,x1,(),(),(),x5,x6,u39),())))
abbrev A4p:=(Lq1)×Lq2×(Int)×(Int)×(Int)
abbrev A60:=Nat×(Bool)×Lq1×Lq2×(Int)×(Int)
def A5y:A60:=(99,(false:Bool),([]:Lq1),([]:Lq2),((0:Int):Int),((0:Int):Int))
noncomputable def A24 (x0:Lq1) (x1:Lq2) (x5 x6 x7:Int):A4p ⊕ A60:=let z1:=((x0.getD x5.toNat ((0:Int),((0:Int),[]))).2).2;(cond (decide (x7<(x1.length:Int))) (cond (decide (0≤x5∧x5<(x0.length:Int))) (cond (decide (0≤x6∧x6<((z1.length:Nat):Int))) (cond (decide (0≤x7∧x7<(x1.length:Int))) (cond ((((z1.getD x6.toNat ((0:Int),(bE,bE))).2).1).toList==(((x1.getD x7.toNat ((0:Int),(bE,bE))).2).1).toList) (.inr (0,true,([]:Lq1),([]:Lq2),((0:Int):Int),((0:Int):Int))) (.inl (x0,x1,x5,x6,wI (x7+(1:Int))))) (.inr A5y)) (.inr A5y)) (.inr A5y)) (.inr (1,(false:Bool),x0,x1,x5,x6)))
noncomputable def A5r (x0:Lq1) (x1:Lq2) (x5 x6 x7:Int):A60:=itX (fun v:A4p=>A24 v.1 v.2.1 v.2.2.1 v.2.2.2.1 v.2.2.2.2) A5y (x0,x1,x5,x6,x7)
noncomputable def B4i (a:A60):CT:=(.br (a.1==0) (.done .ret C1n (((),(),(),(),a.2.1,u41),())) (.br (a.1==1) (.done (.exit 4) C0K ((a.2.2.1,a.2.2.2.1,(),(),(),a.2.2.2.2.1,a.2.2.2.2.2,u39),())) .fail))
noncomputable def D6H (x0:Lq1) (x1:Lq2) (x5 x6 x7:Int):CT:=B4i (A5r x0 x1 x5 x6 x7)
noncomputable abbrev A8u {α:Sort _} (f:Lq1→Lq2→Int→Int→Int→α) (d:A0e.den):α:=f d.1.1 d.1.2.1 d.1.2.2.2.2.2.1 d.1.2.2.2.2.2.2.1 d.1.2.2.2.2.2.2.2.1
noncomputable abbrev B5y:A0e.den→RT A0e.den:=(A8u C2q)
noncomputable abbrev C2V (v:A4p):A0e.den:=((v.1,v.2.1,(),(),(),v.2.2.1,v.2.2.2.1,v.2.2.2.2,u38),())
theorem D32:(∀ v:A4p,(C2q v.1 v.2.1 v.2.2.1 v.2.2.2.1 v.2.2.2.2).val=R5 C2V B4i (A24 v.1 v.2.1 v.2.2.1 v.2.2.2.1 v.2.2.2.2))∧∀ a:A60,CEnd A0e.den (B4i a):=⟨fun v=>(B3 (B3 (B3 (B3 (B3 rfl rfl) rfl) rfl) rfl) rfl),fun a=>(C5 aCD (C5 aCD K7))⟩
noncomputable def C3T (x0:Lq1) (x1:Lq2) (x5 x6 x7:Int):Option (Ex×St):=let z1:=((x0.getD x5.toNat ((0:Int),((0:Int),[]))).2).2;(cond (decide (x7<(x1.length:Int))) (cond (decide (0≤x5∧x5<(x0.length:Int))) (cond (decide (0≤x6∧x6<((z1.length:Nat):Int))) (cond (decide (0≤x7∧x7<(x1.length:Int))) (cond ((((z1.getD x6.toNat ((0:Int),(bE,bE))).2).1).toList==(((x1.getD x7.toNat ((0:Int),(bE,bE))).2).1).toList) (some (.ret,(⟨(.junk::.junk::.junk::.junk::(.t true .bool true)::E3r),[],0,[]⟩:St))) (some (.normal,(⟨((.t false tq3 x0)::(.t false tq5 x1)::.junk::.junk::.junk::(ti x5)::(ti x6)::(ti (wI (x7+(1:Int))))::E9q),[],0,[]⟩:St)))) none) none) none) (some ((.exit 4),(⟨((.t false tq3 x0)::(.t false tq5 x1)::.junk::.junk::.junk::(ti x5)::(ti x6)::E30),[],0,[]⟩:St))))
theorem D2t:RdA G18 aLn 4 B7o A0e 0 [] (kepts [4] [(4,[0,1,5,6])]) (A8u C3T):=by
 intro d
 kernel_rfl
theorem D12:∀ d:A0e.den,(A8u C3T) d=(B5y d).opt 0 []:=by
 intro d
 kernel_rfl
noncomputable abbrev C0R:St→Option Tree:=A0e.say 0 [] [] (A8u D6H)
theorem D3z:aPL C0R B7o:=SS.wp2 hlz [] B5y D2t D12 _ (fun d=>Runs.ofI2 (step:=B5y) C2V D32 rfl (d.1.1,d.1.2.1,d.1.2.2.2.2.2.1,d.1.2.2.2.2.2.2.1,d.1.2.2.2.2.2.2.2.1))
abbrev A0j:SS:=⟨(.t false tq3::.t false tq5::.junk::.junk::.junk::tI::tI::E8i),[]⟩
abbrev C0S:SS:=⟨(.junk::.junk::.junk::.junk::.t true .bool::E67),[]⟩
abbrev C0z:SS:=⟨(.t false tq3::.t false tq5::.junk::.junk::.junk::tI::E3U),[]⟩
noncomputable def C3Z (x0:Lq1) (x1:Lq2) (x5 x6:Int):RT A0j.den:=let z1:=A5r x0 x1 x5 x6 (0:Int);(.br (decide (0≤x5∧x5<(x0.length:Int))) (.br (decide (x6<(((((x0.getD x5.toNat ((0:Int),((0:Int),[]))).2).2).length:Nat):Int))) (.br (z1.1==0) (.done .ret C0S (((),(),(),(),(z1.2.1),u41),())) (.br (z1.1==1) (.next (((z1.2.2.1),(z1.2.2.2.1),(),(),(),(z1.2.2.2.2.1),wI ((z1.2.2.2.2.2)+(1:Int)),u39),())) .fail)) (.done (.exit 2) C0z ((x0,x1,(),(),(),x5,u40),()))) .fail)
abbrev A4w:=(Lq1)×Lq2×(Int)×(Int)
abbrev A6F:=Nat×(Bool)×Lq1×Lq2×(Int)
def A8N:A6F:=(99,(false:Bool),([]:Lq1),([]:Lq2),((0:Int):Int))
noncomputable def A1J (x0:Lq1) (x1:Lq2) (x5 x6:Int):A4w ⊕ A6F:=let z1:=A5r x0 x1 x5 x6 (0:Int);(cond (decide (0≤x5∧x5<(x0.length:Int))) (cond (decide (x6<(((((x0.getD x5.toNat ((0:Int),((0:Int),[]))).2).2).length:Nat):Int))) (cond (z1.1==0) (.inr (0,(z1.2.1),([]:Lq1),([]:Lq2),((0:Int):Int))) (cond (z1.1==1) (.inl ((z1.2.2.1),(z1.2.2.2.1),(z1.2.2.2.2.1),wI ((z1.2.2.2.2.2)+(1:Int)))) (.inr A8N))) (.inr (1,(false:Bool),x0,x1,x5))) (.inr A8N))
noncomputable def A5C (x0:Lq1) (x1:Lq2) (x5 x6:Int):A6F:=itX (fun v:A4w=>A1J v.1 v.2.1 v.2.2.1 v.2.2.2) A8N (x0,x1,x5,x6)
noncomputable def B4e (a:A6F):CT:=(.br (a.1==0) (.done .ret C0S (((),(),(),(),a.2.1,u41),())) (.br (a.1==1) (.done (.exit 2) C0z ((a.2.2.1,a.2.2.2.1,(),(),(),a.2.2.2.2,u40),())) .fail))
noncomputable def D6V (x0:Lq1) (x1:Lq2) (x5 x6:Int):CT:=B4e (A5C x0 x1 x5 x6)
noncomputable abbrev A9J {α:Sort _} (f:Lq1→Lq2→Int→Int→α) (d:A0j.den):α:=f d.1.1 d.1.2.1 d.1.2.2.2.2.2.1 d.1.2.2.2.2.2.2.1
noncomputable abbrev B4d:A0j.den→RT A0j.den:=(A9J C3Z)
noncomputable abbrev C3x (v:A4w):A0j.den:=((v.1,v.2.1,(),(),(),v.2.2.1,v.2.2.2,u39),())
theorem D4A:(∀ v:A4w,(C3Z v.1 v.2.1 v.2.2.1 v.2.2.2).val=R5 C3x B4e (A1J v.1 v.2.1 v.2.2.1 v.2.2.2))∧∀ a:A6F,CEnd A0j.den (B4e a):=⟨fun v=>(B3 (B3 (B3 rfl (B3 rfl rfl)) rfl) rfl),fun a=>(C5 aCD (C5 aCD K7))⟩
noncomputable abbrev D5X:Nat→St→Option Tree:=fun b=>match b with | 4=>C0R | _=>fun _=>none
noncomputable def C3D (x0:Lq1) (x1:Lq2) (x5 x6:Int):Option (Ex×St):=let z1:=A5r x0 x1 x5 x6 (0:Int);(cond (decide (0≤x5∧x5<(x0.length:Int))) (cond (decide (x6<(((((x0.getD x5.toNat ((0:Int),((0:Int),[]))).2).2).length:Nat):Int))) (cond (z1.1==0) (some (.ret,(⟨(.junk::.junk::.junk::.junk::(.t true .bool (z1.2.1))::E3r),[],0,[]⟩:St))) (cond (z1.1==1) (some (.normal,(⟨((.t false tq3 (z1.2.2.1))::(.t false tq5 (z1.2.2.2.1))::.junk::.junk::.junk::(ti (z1.2.2.2.2.1))::(ti (wI ((z1.2.2.2.2.2)+(1:Int))))::E30),[],0,[]⟩:St))) none)) (some ((.exit 2),(⟨((.t false tq3 x0)::(.t false tq5 x1)::.junk::.junk::.junk::(ti x5)::E42),[],0,[]⟩:St)))) none)
theorem D2B:RdA G18 (D5X) 2 B0c A0j 0 [] (kepts [4] [(2,[0,1,5])]) (A9J C3D):=by
 intro d
 kernel_rfl
theorem D2r:∀ d:A0j.den,(A9J C3D) d=(B4d d).opt 0 []:=by
 intro d
 kernel_rfl
noncomputable abbrev C0U:St→Option Tree:=A0j.say 0 [] [] (A9J D6V)
theorem D5f:aPL C0U B0c:=SS.wp2 (hl1 (i:=4) (by kernel_rfl) D3z) [] B4d D2B D2r _ (fun d=>Runs.ofI2 (step:=B4d) C3x D4A rfl (d.1.1,d.1.2.1,d.1.2.2.2.2.2.1,d.1.2.2.2.2.2.2.1))
abbrev A1v:SS:=⟨(.t false tq3::.t false tq5::.junk::.junk::.junk::tI::E3U),[]⟩
abbrev C04:SS:=⟨(.junk::.junk::.junk::.junk::.t true .bool::E67),[]⟩
abbrev C0W:SS:=⟨(.junk::F4Y),[]⟩
noncomputable def C13 (x0:Lq1) (x1:Lq2) (x5:Int):RT A1v.den:=let z1:=A5C x0 x1 x5 (0:Int);(.br (decide (x5<(x0.length:Int))) (.br (z1.1==0) (.done .ret C04 (((),(),(),(),(z1.2.1),u41),())) (.br (z1.1==1) (.next (((z1.2.2.1),(z1.2.2.2.1),(),(),(),wI ((z1.2.2.2.2)+(1:Int)),u40),())) .fail)) (.done (.exit 0) C0W ((u46),())))
abbrev A4x:=(Lq1)×Lq2×(Int)
abbrev A6X:=Nat×(Bool)
def B49:A6X:=(99,(false:Bool))
noncomputable def A5b (x0:Lq1) (x1:Lq2) (x5:Int):A4x ⊕ A6X:=let z1:=A5C x0 x1 x5 (0:Int);(cond (decide (x5<(x0.length:Int))) (cond (z1.1==0) (.inr (0,(z1.2.1))) (cond (z1.1==1) (.inl ((z1.2.2.1),(z1.2.2.2.1),wI ((z1.2.2.2.2)+(1:Int)))) (.inr B49))) (.inr (1,(false:Bool))))
noncomputable def A5M (x0:Lq1) (x1:Lq2) (x5:Int):A6X:=itX (fun v:A4x=>A5b v.1 v.2.1 v.2.2) B49 (x0,x1,x5)
noncomputable def B36 (a:A6X):CT:=(.br (a.1==0) (.done .ret C04 (((),(),(),(),a.2,u41),())) (.br (a.1==1) (.done (.exit 0) C0W ((u46),())) .fail))
noncomputable def D7j (x0:Lq1) (x1:Lq2) (x5:Int):CT:=B36 (A5M x0 x1 x5)
noncomputable abbrev B4b:A1v.den→RT A1v.den:=(fun d=>C13 d.1.1 d.1.2.1 d.1.2.2.2.2.2.1)
noncomputable abbrev C1Q (v:A4x):A1v.den:=((v.1,v.2.1,(),(),(),v.2.2,u40),())
theorem D4T:(∀ v:A4x,(C13 v.1 v.2.1 v.2.2).val=R5 C1Q B36 (A5b v.1 v.2.1 v.2.2))∧∀ a:A6X,CEnd A1v.den (B36 a):=⟨fun v=>(B3 (B3 rfl (B3 rfl rfl)) rfl),fun a=>(C5 aCD (C5 aCD K7))⟩
noncomputable abbrev D7f:Nat→St→Option Tree:=fun b=>match b with | 2=>C0U | _=>fun _=>none
noncomputable def C1M (x0:Lq1) (x1:Lq2) (x5:Int):Option (Ex×St):=let z1:=A5C x0 x1 x5 (0:Int);(cond (decide (x5<(x0.length:Int))) (cond (z1.1==0) (some (.ret,(⟨(.junk::.junk::.junk::.junk::(.t true .bool (z1.2.1))::E3r),[],0,[]⟩:St))) (cond (z1.1==1) (some (.normal,(⟨((.t false tq3 (z1.2.2.1))::(.t false tq5 (z1.2.2.2.1))::.junk::.junk::.junk::(ti (wI ((z1.2.2.2.2)+(1:Int))))::E42),[],0,[]⟩:St))) none)) (some ((.exit 0),(⟨(.junk::F46),[],0,[]⟩:St))))
theorem D2I:RdA G18 (D7f) 0 B0y A1v 0 [] (kepts [4] [(0,[])]) (fun d=>C1M d.1.1 d.1.2.1 d.1.2.2.2.2.2.1):=by
 intro d
 kernel_rfl
theorem D2J:∀ d:A1v.den,(fun d=>C1M d.1.1 d.1.2.1 d.1.2.2.2.2.2.1) d=(B4b d).opt 0 []:=by
 intro d
 kernel_rfl
noncomputable abbrev C0O:St→Option Tree:=A1v.say 0 [] [] (fun d=>D7j d.1.1 d.1.2.1 d.1.2.2.2.2.2.1)
theorem D3H:aPL C0O B0y:=SS.wp2 (hl1 (i:=2) (by kernel_rfl) D5f) [] B4b D2I D2J _ (fun d=>Runs.ofI2 (step:=B4b) C1Q D4T rfl (d.1.1,d.1.2.1,d.1.2.2.2.2.2.1))
noncomputable def A2g (a0:Lq1) (a1:Lq2):Bool:=let z1:=A5M a0 a1 (0:Int);(cond (z1.1==0) (z1.2) false)
noncomputable abbrev B6h (r:Bool):AV×List AObj:=((.t true .bool r),[])
noncomputable abbrev C2X:A1 B1e→AV×List AObj:=fun d=>B6h (A2g d.1 d.2.1)
noncomputable def A0u (a0:Lq1) (a1:Lq2):Bool:=let z1:=A5M a0 a1 (0:Int);cond (z1.1==0) true (z1.1==1)
noncomputable abbrev B7c:A1 B1e→Bool:=fun d=>A0u d.1 d.2.1
noncomputable abbrev E2c:Nat→St→Option Tree:=fun b=>match b with | 0=>C0O | _=>fun _=>none
theorem D6a:N0 true G18 (E2c) Tryz.f89 B1e B7c C2X:=by
 rintro ⟨a0,⟨a1,_⟩⟩ hp
 change A0u a0 a1=true at hp
 unfold A0u at hp
 refine Eq.trans (b:=(let z1:=A5M a0 a1 (0:Int);cond (z1.1==0) (some (B6h (z1.2))) (cond (z1.1==1) (some (B6h false)) none))) (by kernel_rfl) ?_
 exact (A9 B6h hp (fun hp=>rfl) (fun hp=>(B7 hp fun _h=>rfl)))
theorem E0F:aPP 89 (A7 B1e B7c C2X):=pcD true G18 (hl1 (i:=0) (by kernel_rfl) D3H) D6a
noncomputable def S19:Tab:=Tab.add S18 89 (lift (A7 B1e B7c C2X))
noncomputable def F3E:FuncId→Bool:=qadd F2L 89
theorem G19:aPG S19 F3E:=G18.addQ E0F (cbl Tryz.f89) (fun _=>rfl)

abbrev E4j:List Sh:=.junk::.junk::.junk::E4W
abbrev u20:=((),u19)
abbrev u26:=((),u25)
abbrev B8H:List PSh:=[.t tq8,.t .str]
abbrev A5t:SS:=⟨(.t false tq8::.t true .str::.junk::.junk::.junk::.junk::tI::E4j),[]⟩
abbrev C4Y:SS:=⟨(.junk::.junk::.junk::.junk::.t true .str::.t true .bool::E9e),[]⟩
abbrev C5E:SS:=⟨(.junk::D8A),[]⟩
noncomputable def C7S (x0:LBBe) (x1:ByteArray) (x6:Int):RT A5t.den:=let z1:=decide (0≤x6∧x6<(x0.length:Int));let z2:=x0.getD x6.toNat (bE,bE);(.br (decide (x6<(x0.length:Int))) (.br z1 (.br ((z2.1).toList==x1.toList) (.br z1 (.done .ret C4Y (((),(),(),(),z2.2,true,u20),())) .fail) (.next ((x0,x1,(),(),(),(),wI (x6+(1:Int)),u19),()))) .fail) (.done (.exit 0) C5E ((u26),())))
abbrev A71:=(LBBe)×(ByteArray)×(Int)
abbrev A7P:=Nat×(ByteArray)×(Bool)
def B3c:A7P:=(99,(bE:ByteArray),(false:Bool))
noncomputable def A86 (x0:LBBe) (x1:ByteArray) (x6:Int):A71 ⊕ A7P:=let z1:=decide (0≤x6∧x6<(x0.length:Int));let z2:=x0.getD x6.toNat (bE,bE);(cond (decide (x6<(x0.length:Int))) (cond z1 (cond ((z2.1).toList==x1.toList) (cond z1 (.inr (0,z2.2,true)) (.inr B3c)) (.inl (x0,x1,wI (x6+(1:Int))))) (.inr B3c)) (.inr (1,(bE:ByteArray),(false:Bool))))
noncomputable def A8C (x0:LBBe) (x1:ByteArray) (x6:Int):A7P:=itX (fun v:A71=>A86 v.1 v.2.1 v.2.2) B3c (x0,x1,x6)
noncomputable def B9s (a:A7P):CT:=(.br (a.1==0) (.done .ret C4Y (((),(),(),(),a.2.1,a.2.2,u20),())) (.br (a.1==1) (.done (.exit 0) C5E ((u26),())) .fail))
noncomputable def E2D (x0:LBBe) (x1:ByteArray) (x6:Int):CT:=B9s (A8C x0 x1 x6)
noncomputable abbrev C0t:A5t.den→RT A5t.den:=(fun d=>C7S d.1.1 d.1.2.1 d.1.2.2.2.2.2.2.1)
noncomputable def C2k:Code:=((A6 0 (B4 Tryz.f112)).getD 0 (0,.skip)).2
noncomputable abbrev C9j (v:A71):A5t.den:=((v.1,v.2.1,(),(),(),(),v.2.2,u19),())
theorem D99:(∀ v:A71,(C7S v.1 v.2.1 v.2.2).val=R5 C9j B9s (A86 v.1 v.2.1 v.2.2))∧∀ a:A7P,CEnd A5t.den (B9s a):=⟨fun v=>(B3 (B3 (B3 (B3 rfl rfl) rfl) rfl) rfl),fun a=>(C5 aCD (C5 aCD K7))⟩
theorem D5R:RdA G19 aLn 0 C2k A5t 0 [] (kepts [4,5] [(0,[])]) (fun d=>(C0t d).opt 0 []):=by
 intro d
 kernel_rfl
noncomputable abbrev C5e:St→Option Tree:=A5t.say 0 [] [] (fun d=>E2D d.1.1 d.1.2.1 d.1.2.2.2.2.2.2.1)
theorem E0q:aPL C5e C2k:=SS.wp2 hlz [] C0t D5R (fun d=>rfl) _ (fun d=>Runs.ofI2 (step:=C0t) C9j D99 rfl (d.1.1,d.1.2.1,d.1.2.2.2.2.2.2.1))
noncomputable def A9e (a0:LBBe) (a1:ByteArray):ByteArray×Bool:=let z1:=A8C a0 a1 (0:Int);(cond (z1.1==0) ((z1.2.1),(z1.2.2)) (bE,false))
noncomputable abbrev C4e (r:ByteArray×Bool):AV×List AObj:=((.tup [(.t true .str r.1),(.t true .bool r.2)]),[])
noncomputable abbrev C9t:A1 B8H→AV×List AObj:=fun d=>C4e (A9e d.1 d.2.1)
noncomputable def A7W (a0:LBBe) (a1:ByteArray):Bool:=let z1:=A8C a0 a1 (0:Int);cond (z1.1==0) true (z1.1==1)
noncomputable abbrev C2L:A1 B8H→Bool:=fun d=>A7W d.1 d.2.1
noncomputable abbrev E5X:Nat→St→Option Tree:=fun b=>match b with | 0=>C5e | _=>fun _=>none
theorem E0A:N0 true G19 (E5X) Tryz.f112 B8H C2L C9t:=by
 rintro ⟨a0,⟨a1,_⟩⟩ hp
 change A7W a0 a1=true at hp
 unfold A7W at hp
 refine Eq.trans (b:=(let z1:=A8C a0 a1 (0:Int);cond (z1.1==0) (some (C4e ((z1.2.1),(z1.2.2)))) (cond (z1.1==1) (some (C4e ((⟨#[]⟩:ByteArray),false))) none))) (by kernel_rfl) ?_
 exact (A9 C4e hp (fun hp=>rfl) (fun hp=>(B7 hp fun _h=>rfl)))
theorem E6F:aPP 112 (A7 B8H C2L C9t):=pcD true G19 (hl1 (i:=0) (by kernel_rfl) E0q) E0A
noncomputable def S20:Tab:=Tab.add S19 112 (lift (A7 B8H C2L C9t))
noncomputable def F2D:FuncId→Bool:=qadd F3E 112
theorem G20:aPG S20 F2D:=G19.addQ E6F (cbl Tryz.f112) (fun _=>rfl)

abbrev F3Z:List Sh:=.junk::E67
abbrev F2B:List Sh:=.junk::F3Z
abbrev u42:=((),u41)
abbrev u43:=((),u42)
abbrev F3u:List AV:=.junk::E3r
abbrev F1L:List AV:=.junk::F3u
abbrev C2T:List PSh:=[.t tq8,.t tq5]
abbrev A5E:SS:=⟨(.t false tq8::.t false tq5::.junk::.junk::.junk::tI::F3Z),[]⟩
abbrev B86:SS:=⟨(.junk::.junk::.junk::.junk::.t true .bool::F2B),[]⟩
abbrev C8N:SS:=⟨(.junk::E8T),[]⟩
noncomputable def C4A (x0:LBBe) (x1:Lq2) (x5:Int):=A9e x0 (((x1.getD x5.toNat ((0:Int),(bE,bE))).2).1)
noncomputable def D1Q (x0:LBBe) (x1:Lq2) (x5:Int):RT A5E.den:=let z1:=x1.getD x5.toNat ((0:Int),(bE,bE));let z2:=decide (0≤x5∧x5<(x1.length:Int));let z3:=C4A x0 x1 x5;(.br (decide (x5<(x1.length:Int))) (.br z2 (.br ((z1.1) != (3:Int)) (.next ((x0,x1,(),(),(),wI (x5+(1:Int)),u42),())) (.br z2 (.br (A7W x0 ((z1.2).1)) (.br z2 (.br (!((z3.2)==(!(((z1.2).2).toList==bE.toList)))) (.done .ret B86 (((),(),(),(),false,u43),())) (.br z2 (.br (!((z3.1).toList==((z1.2).2).toList)) (.done .ret B86 (((),(),(),(),false,u43),())) (.next ((x0,x1,(),(),(),wI (x5+(1:Int)),u42),()))) .fail)) .fail) .fail) .fail)) .fail) (.done (.exit 0) C8N ((u48),())))
abbrev B0H:=(LBBe)×Lq2×(Int)
abbrev B4W:=Nat×(Bool)
def A5O:B4W:=(99,(false:Bool))
noncomputable def B16 (x0:LBBe) (x1:Lq2) (x5:Int):B0H ⊕ B4W:=let z1:=x1.getD x5.toNat ((0:Int),(bE,bE));let z2:=decide (0≤x5∧x5<(x1.length:Int));let z3:=C4A x0 x1 x5;(cond (decide (x5<(x1.length:Int))) (cond z2 (cond ((z1.1) != (3:Int)) (.inl (x0,x1,wI (x5+(1:Int)))) (cond z2 (cond (A7W x0 ((z1.2).1)) (cond z2 (cond (!((z3.2)==(!(((z1.2).2).toList==bE.toList)))) (.inr (0,false)) (cond z2 (cond (!((z3.1).toList==((z1.2).2).toList)) (.inr (0,false)) (.inl (x0,x1,wI (x5+(1:Int))))) (.inr A5O))) (.inr A5O)) (.inr A5O)) (.inr A5O))) (.inr A5O)) (.inr (1,(false:Bool))))
noncomputable def B14 (x0:LBBe) (x1:Lq2) (x5:Int):B4W:=itX (fun v:B0H=>B16 v.1 v.2.1 v.2.2) A5O (x0,x1,x5)
noncomputable def C1L (a:B4W):CT:=(.br (a.1==0) (.done .ret B86 (((),(),(),(),a.2,u43),())) (.br (a.1==1) (.done (.exit 0) C8N ((u48),())) .fail))
noncomputable def E46 (x0:LBBe) (x1:Lq2) (x5:Int):CT:=C1L (B14 x0 x1 x5)
noncomputable abbrev C3N:A5E.den→RT A5E.den:=(fun d=>D1Q d.1.1 d.1.2.1 d.1.2.2.2.2.2.1)
noncomputable def C5M:Code:=((A6 0 (B4 Tryz.f90)).getD 0 (0,.skip)).2
noncomputable abbrev D1r (v:B0H):A5E.den:=((v.1,v.2.1,(),(),(),v.2.2,u42),())
theorem E1x:(∀ v:B0H,(D1Q v.1 v.2.1 v.2.2).val=R5 D1r C1L (B16 v.1 v.2.1 v.2.2))∧∀ a:B4W,CEnd A5E.den (C1L a):=⟨fun v=>by repeat' first | apply B3 | rfl,fun a=>(C5 aCD (C5 aCD K7))⟩
noncomputable def D1o (x0:LBBe) (x1:Lq2) (x5:Int):Option (Ex×St):=let z1:=(⟨((.t false tq8 x0)::(.t false tq5 x1)::.junk::.junk::.junk::(ti (wI (x5+(1:Int))))::F3u),[],0,[]⟩:St);let z2:=x1.getD x5.toNat ((0:Int),(bE,bE));let z3:=decide (0≤x5∧x5<(x1.length:Int));let z4:=(⟨(.junk::.junk::.junk::.junk::(.t true .bool false)::F1L),[],0,[]⟩:St);let z5:=C4A x0 x1 x5;(cond (decide (x5<(x1.length:Int))) (cond z3 (cond ((z2.1) != (3:Int)) (some (.normal,z1)) (cond z3 (cond (A7W x0 ((z2.2).1)) (cond z3 (cond (!((z5.2)==(!(((z2.2).2).toList==bE.toList)))) (some (.ret,z4)) (cond z3 (cond (!((z5.1).toList==((z2.2).2).toList)) (some (.ret,z4)) (some (.normal,z1))) none)) none) none) none)) none) (some ((.exit 0),(⟨(.junk::E9P),[],0,[]⟩:St))))
theorem E0x:RdA G20 aLn 0 C5M A5E 0 [] (kepts [4] [(0,[])]) (fun d=>D1o d.1.1 d.1.2.1 d.1.2.2.2.2.2.1):=by
 intro d
 kernel_rfl
theorem D8I:∀ d:A5E.den,(fun d=>D1o d.1.1 d.1.2.1 d.1.2.2.2.2.2.1) d=(C3N d).opt 0 []:=by
 intro d
 kernel_rfl
noncomputable abbrev C9a:St→Option Tree:=A5E.say 0 [] [] (fun d=>E46 d.1.1 d.1.2.1 d.1.2.2.2.2.2.1)
theorem E12:aPL C9a C5M:=SS.wp2 hlz [] C3N E0x D8I _ (fun d=>Runs.ofI2 (step:=C3N) D1r E1x rfl (d.1.1,d.1.2.1,d.1.2.2.2.2.2.1))
noncomputable def B2H (a0:LBBe) (a1:Lq2):Bool:=let z1:=B14 a0 a1 (0:Int);(cond (z1.1==0) (z1.2) true)
noncomputable abbrev C71 (r:Bool):AV×List AObj:=((.t true .bool r),[])
noncomputable abbrev D4w:A1 C2T→AV×List AObj:=fun d=>C71 (B2H d.1 d.2.1)
noncomputable def A48 (a0:LBBe) (a1:Lq2):Bool:=let z1:=B14 a0 a1 (0:Int);cond (z1.1==0) true (z1.1==1)
noncomputable abbrev C6X:A1 C2T→Bool:=fun d=>A48 d.1 d.2.1
noncomputable abbrev E7w:Nat→St→Option Tree:=fun b=>match b with | 0=>C9a | _=>fun _=>none
theorem E3L:N0 true G20 (E7w) Tryz.f90 C2T C6X D4w:=by
 rintro ⟨a0,⟨a1,_⟩⟩ hp
 change A48 a0 a1=true at hp
 unfold A48 at hp
 refine Eq.trans (b:=(let z1:=B14 a0 a1 (0:Int);cond (z1.1==0) (some (C71 (z1.2))) (cond (z1.1==1) (some (C71 true)) none))) (by kernel_rfl) ?_
 exact (A9 C71 hp (fun hp=>rfl) (fun hp=>(B7 hp fun _h=>rfl)))
theorem E8N:aPP 90 (A7 C2T C6X D4w):=pcD true G20 (hl1 (i:=0) (by kernel_rfl) E12) E3L
noncomputable def S21:Tab:=Tab.add S20 90 (lift (A7 C2T C6X D4w))
noncomputable def F2I:FuncId→Bool:=qadd F2D 90
theorem G21:aPG S21 F2I:=G20.addQ E8N (cbl Tryz.f90) (fun _=>rfl)

abbrev B7w:List PSh:=[.agg [(.int .i64),tq3,(.int .i64),tq8,tq3],.t tq5]
abbrev A3y:SS:=⟨(.junk::.junk::.ptr 0 0 1 0::.junk::.junk::tI::tI::E7D),[.box [tI,.t false tq3,tI,.t false tq8,.t false tq3]]⟩
abbrev C5O:SS:=⟨(.junk::.junk::.junk::.junk::.junk::tI::D8A),[]⟩
noncomputable def C9n (x5 x6 p0:Int) (p1:Lq1) (p2:Int) (p3:LBBe) (p4:Lq1):RT A3y.den:=(.br (decide (x6<(p4.length:Int))) (.br (decide (0≤x6∧x6<(p4.length:Int))) (.next (((),(),(),(),(),wI (x5+(((((p4.getD x6.toNat ((0:Int),((0:Int),[]))).2).2).length:Nat):Int)),wI (x6+(1:Int)),u24),((p0,p1,p2,p3,p4,()),()))) .fail) (.done (.exit 0) C5O (((),(),(),(),(),x5,u25),())))
abbrev B1z:=(Int)×(Int)
abbrev B1t:=Nat×(Int)
def C0g:B1t:=(99,((0:Int):Int))
noncomputable def A9h (x5 x6 p0:Int) (p1:Lq1) (p2:Int) (p3:LBBe) (p4:Lq1):B1z ⊕ B1t:=(cond (decide (x6<(p4.length:Int))) (cond (decide (0≤x6∧x6<(p4.length:Int))) (.inl (wI (x5+(((((p4.getD x6.toNat ((0:Int),((0:Int),[]))).2).2).length:Nat):Int)),wI (x6+(1:Int)))) (.inr C0g)) (.inr (0,x5)))
noncomputable def B2Z (x5 x6 p0:Int) (p1:Lq1) (p2:Int) (p3:LBBe) (p4:Lq1):B1t:=itX (fun v:B1z=>A9h v.1 v.2 p0 p1 p2 p3 p4) C0g (x5,x6)
noncomputable def C0y (p0:Int) (p1:Lq1) (p2:Int) (p3:LBBe) (p4:Lq1) (a:B1t):CT:=(.br (a.1==0) (.done (.exit 0) C5O (((),(),(),(),(),a.2,u25),())) .fail)
noncomputable def E3f (x5 x6 p0:Int) (p1:Lq1) (p2:Int) (p3:LBBe) (p4:Lq1):CT:=(C0y p0 p1 p2 p3 p4) (B2Z x5 x6 p0 p1 p2 p3 p4)
noncomputable abbrev C9g {α:Sort _} (f:Int→Int→Int→Lq1→Int→LBBe→Lq1→α) (d:A3y.den):α:=f d.1.2.2.2.2.2.1 d.1.2.2.2.2.2.2.1 d.2.1.1 d.2.1.2.1 d.2.1.2.2.1 d.2.1.2.2.2.1 d.2.1.2.2.2.2.1
noncomputable abbrev C0o:A3y.den→RT A3y.den:=(C9g C9n)
noncomputable def C20:Code:=((A6 0 (B4 Tryz.f102)).getD 0 (0,.skip)).2
noncomputable abbrev C7p (p0:Int) (p1:Lq1) (p2:Int) (p3:LBBe) (p4:Lq1) (v:B1z):A3y.den:=(((),(),(),(),(),v.1,v.2,u24),((p0,p1,p2,p3,p4,()),()))
theorem E0u (p0:Int) (p1:Lq1) (p2:Int) (p3:LBBe) (p4:Lq1):(∀ v:B1z,(C9n v.1 v.2 p0 p1 p2 p3 p4).val=R5 (C7p p0 p1 p2 p3 p4) (C0y p0 p1 p2 p3 p4) (A9h v.1 v.2 p0 p1 p2 p3 p4))∧∀ a:B1t,CEnd A3y.den ((C0y p0 p1 p2 p3 p4) a):=⟨fun v=>(B3 (B3 rfl rfl) rfl),fun a=>(C5 aCD K7)⟩
theorem D6Y:RdA G21 aLn 0 C20 A3y 0 [] (kepts [] [(0,[5])]) (fun d=>(C0o d).opt 0 []):=by
 intro d
 kernel_rfl
noncomputable abbrev C5R:St→Option Tree:=A3y.say 0 [] [] (C9g E3f)
theorem D9f:aPL C5R C20:=SS.wp2 hlz [] C0o D6Y (fun d=>rfl) _ (fun d=>Runs.ofI2 (step:=C0o) (C7p d.2.1.1 d.2.1.2.1 d.2.1.2.2.1 d.2.1.2.2.2.1 d.2.1.2.2.2.2.1) (E0u d.2.1.1 d.2.1.2.1 d.2.1.2.2.1 d.2.1.2.2.2.1 d.2.1.2.2.2.2.1) rfl (d.1.2.2.2.2.2.1,d.1.2.2.2.2.2.2.1))
noncomputable def B9w (a0:Int) (a1:Lq1) (a2:Int) (a3:LBBe) (a4:Lq1) (a5:Lq2):=B2Z (wI ((a3.length:Int)+(a5.length:Int))) (0:Int) a0 a1 a2 a3 a4
noncomputable def C4E (a0:Int) (a1:Lq1) (a2:Int) (a3:LBBe) (a4:Lq1) (a5:Lq2):Int:=((B9w a0 a1 a2 a3 a4 a5).2)
noncomputable abbrev D8h (r:Int):AV×List AObj:=((ti r),[])
noncomputable abbrev C9Z:A1 B7w→AV×List AObj:=fun d=>D8h (C4E d.1.1 d.1.2.1 d.1.2.2.1 d.1.2.2.2.1 d.1.2.2.2.2.1 d.2.1)
noncomputable def B0G (a0:Int) (a1:Lq1) (a2:Int) (a3:LBBe) (a4:Lq1) (a5:Lq2):Bool:=((B9w a0 a1 a2 a3 a4 a5).1==0)
noncomputable abbrev C1J:A1 B7w→Bool:=fun d=>B0G d.1.1 d.1.2.1 d.1.2.2.1 d.1.2.2.2.1 d.1.2.2.2.2.1 d.2.1
noncomputable abbrev E6V:Nat→St→Option Tree:=fun b=>match b with | 0=>C5R | _=>fun _=>none
theorem E10:N0 true G21 (E6V) Tryz.f102 B7w C1J C9Z:=by
 rintro ⟨⟨a0,⟨a1,⟨a2,⟨a3,⟨a4,_⟩⟩⟩⟩⟩,⟨a5,_⟩⟩ hp
 change B0G a0 a1 a2 a3 a4 a5=true at hp
 unfold B0G at hp
 refine Eq.trans (b:=(let z1:=B9w a0 a1 a2 a3 a4 a5;cond (z1.1==0) (some (D8h (z1.2))) none)) (by kernel_rfl) ?_
 exact (B7 hp fun _h=>rfl)
theorem E6S:aPP 102 (A7 B7w C1J C9Z):=pcD true G21 (hl1 (i:=0) (by kernel_rfl) D9f) E10
noncomputable def S22:Tab:=Tab.add S21 102 (lift (A7 B7w C1J C9Z))
noncomputable def F2k:FuncId→Bool:=qadd F2I 102
theorem G22:aPG S22 F2k:=G21.addQ E6S (cbl Tryz.f102) (fun _=>rfl)

abbrev A8J:List PSh:=[.t tq5]
noncomputable def M5 (a0:Lq2):Lq2:=(([]:Lq2)++a0)
noncomputable abbrev C8T (r:Lq2):AV×List AObj:=((.t true tq5 r),[])
noncomputable abbrev B9G:A1 A8J→AV×List AObj:=fun d=>C8T (M5 d.1)
noncomputable def N8 (a0:Lq2):Bool:=decide ((([]:Lq2).length+a0.length)*40≤MAXB)
noncomputable abbrev B5o:A1 A8J→Bool:=fun d=>N8 d.1
theorem D3F:N0 true G22 aLn Tryz.f52 A8J B5o B9G:=by
 rintro ⟨a0,_⟩ hp
 change N8 a0=true at hp
 unfold N8 at hp
 refine Eq.trans (b:=(cond (decide ((([]:Lq2).length+a0.length)*40≤MAXB)) (some (C8T (([]:Lq2)++a0))) none)) (by kernel_rfl) ?_
 exact (B7 hp fun _h=>rfl)
theorem D8k:aPP 52 (A7 A8J B5o B9G):=pcD true G22 hlz D3F
noncomputable def S23:Tab:=Tab.add S22 52 (lift (A7 A8J B5o B9G))
noncomputable def F3R:FuncId→Bool:=qadd F2k 52
theorem G23:aPG S23 F3R:=G22.addQ D8k (cbl Tryz.f52) (fun _=>rfl)

abbrev C2h:List PSh:=[.agg [(.int .i64),(.int .i64),tq5]]
noncomputable def A2I (a0 a1:Int) (a2:Lq2):Bool:=(cond (!(C0 a1 (1:Int) (1000000:Int))) false (cond (a0==(1:Int)) (Z7 a2) (cond (a0==(2:Int)) ((a2.length:Int)==(0:Int)) (cond (a0==(3:Int)) ((a2.length:Int)==(0:Int)) false))))
noncomputable abbrev A9c (r:Bool):AV×List AObj:=((.t true .bool r),[])
noncomputable abbrev D5d:A1 C2h→AV×List AObj:=fun d=>A9c (A2I d.1.1 d.1.2.1 d.1.2.2.1)
noncomputable def B1h (a0 a1:Int) (a2:Lq2):Bool:=L1 a2
noncomputable abbrev C57:A1 C2h→Bool:=fun d=>B1h d.1.1 d.1.2.1 d.1.2.2.1
theorem E5a:N0 true G23 aLn Tryz.f88 C2h C57 D5d:=by
 rintro ⟨⟨a0,⟨a1,⟨a2,_⟩⟩⟩,_⟩ hp
 change B1h a0 a1 a2=true at hp
 unfold B1h at hp
 refine Eq.trans (b:=(let z1:=A9c ((a2.length:Int)==(0:Int));cond (!(C0 a1 (1:Int) (1000000:Int))) (some (A9c false)) (cond (a0==(1:Int)) (cond (A2r a2) (some (A9c (Z7 a2))) none) (cond (a0==(2:Int)) (some z1) (cond (a0==(3:Int)) (some z1) (some (A9c false))))))) (by kernel_rfl) ?_
 exact (A18 A9c (fun _h=>rfl) (fun _h=>(A18 A9c (fun _h=>(B7 (by first | rfl | decide | exact hp | (simp only [Bool.and_eq_true] at hp;simp only [hp];done) | (simp [*];done) | (simp [okL] at hp;simp [okL,MAXB];omega) | (simp_all;done) | (simp at *;omega)) (fun _h=>rfl))) (fun _h=>(A18 A9c (fun _h=>rfl) (fun _h=>(A18 A9c (fun _h=>rfl) (fun _h=>rfl))))))))
theorem E8k:aPP 88 (A7 C2h C57 D5d):=pcD true G23 hlz E5a
noncomputable def S24:Tab:=Tab.add S23 88 (lift (A7 C2h C57 D5d))
noncomputable def F1V:FuncId→Bool:=qadd F3R 88
theorem G24:aPG S24 F1V:=G23.addQ E8k (cbl Tryz.f88) (fun _=>rfl)

abbrev A4X:Ty:=.sl (.int .i64)
abbrev E8X:List Sh:=.junk::.junk::.junk::.junk::.junk::.junk::.junk::.junk::.junk::.junk::.junk::.junk::[]
abbrev E2s:List Sh:=.junk::.junk::E4W
abbrev u13:=((),(),(),(),(),(),(),(),(),(),(),(),())
abbrev C2f:List PSh:=[.t A4X,.t (.int .i64)]
abbrev A7t:SS:=⟨(.t false A4X::tI::.junk::.junk::.junk::tI::E8X),[]⟩
abbrev C8C:SS:=⟨(.junk::.junk::.junk::.junk::.t true .bool::E99),[]⟩
abbrev C8v:SS:=⟨(.junk::E2s),[]⟩
noncomputable def D11 (x0:List Int) (x1 x5:Int):RT A7t.den:=(.br (decide (x5<(x0.length:Int))) (.br (decide (0≤x5∧x5<(x0.length:Int))) (.br ((x0.getD x5.toNat (0:Int))==x1) (.done .ret C8C (((),(),(),(),true,u14),())) (.next ((x0,x1,(),(),(),wI (x5+(1:Int)),u13),()))) .fail) (.done (.exit 0) C8v ((u19),())))
abbrev B3Q:=(List Int)×(Int)×(Int)
abbrev A98:=Nat×(Bool)
def D1J:A98:=(99,(false:Bool))
noncomputable def B5T (x0:List Int) (x1 x5:Int):B3Q ⊕ A98:=(cond (decide (x5<(x0.length:Int))) (cond (decide (0≤x5∧x5<(x0.length:Int))) (cond ((x0.getD x5.toNat (0:Int))==x1) (.inr (0,true)) (.inl (x0,x1,wI (x5+(1:Int))))) (.inr D1J)) (.inr (1,(false:Bool))))
noncomputable def A78 (x0:List Int) (x1 x5:Int):A98:=itX (fun v:B3Q=>B5T v.1 v.2.1 v.2.2) D1J (x0,x1,x5)
noncomputable def C12 (a:A98):CT:=(.br (a.1==0) (.done .ret C8C (((),(),(),(),a.2,u14),())) (.br (a.1==1) (.done (.exit 0) C8v ((u19),())) .fail))
noncomputable def E37 (x0:List Int) (x1 x5:Int):CT:=C12 (A78 x0 x1 x5)
noncomputable abbrev C3p:A7t.den→RT A7t.den:=(fun d=>D11 d.1.1 d.1.2.1 d.1.2.2.2.2.2.1)
noncomputable def C46:Code:=((A6 0 (B4 Tryz.f66)).getD 0 (0,.skip)).2
noncomputable abbrev D05 (v:B3Q):A7t.den:=((v.1,v.2.1,(),(),(),v.2.2,u13),())
theorem E0W:(∀ v:B3Q,(D11 v.1 v.2.1 v.2.2).val=R5 D05 C12 (B5T v.1 v.2.1 v.2.2))∧∀ a:A98,CEnd A7t.den (C12 a):=⟨fun v=>(B3 (B3 (B3 rfl rfl) rfl) rfl),fun a=>(C5 aCD (C5 aCD K7))⟩
theorem D9w:RdA G24 aLn 0 C46 A7t 0 [] (kepts [4] [(0,[])]) (fun d=>(C3p d).opt 0 []):=by
 intro d
 kernel_rfl
noncomputable abbrev C7P:St→Option Tree:=A7t.say 0 [] [] (fun d=>E37 d.1.1 d.1.2.1 d.1.2.2.2.2.2.1)
theorem E27:aPL C7P C46:=SS.wp2 hlz [] C3p D9w (fun d=>rfl) _ (fun d=>Runs.ofI2 (step:=C3p) D05 E0W rfl (d.1.1,d.1.2.1,d.1.2.2.2.2.2.1))
noncomputable def Y7 (a0:List Int) (a1:Int):Bool:=let z1:=A78 a0 a1 (0:Int);(cond (z1.1==0) (z1.2) false)
noncomputable abbrev C8X (r:Bool):AV×List AObj:=((.t true .bool r),[])
noncomputable abbrev D5a:A1 C2f→AV×List AObj:=fun d=>C8X (Y7 d.1 d.2.1)
noncomputable def O5 (a0:List Int) (a1:Int):Bool:=let z1:=A78 a0 a1 (0:Int);cond (z1.1==0) true (z1.1==1)
noncomputable abbrev C7c:A1 C2f→Bool:=fun d=>O5 d.1 d.2.1
noncomputable abbrev E8F:Nat→St→Option Tree:=fun b=>match b with | 0=>C7P | _=>fun _=>none
theorem E4a:N0 true G24 (E8F) Tryz.f66 C2f C7c D5a:=by
 rintro ⟨a0,⟨a1,_⟩⟩ hp
 change O5 a0 a1=true at hp
 unfold O5 at hp
 refine Eq.trans (b:=(let z1:=A78 a0 a1 (0:Int);cond (z1.1==0) (some (C8X (z1.2))) (cond (z1.1==1) (some (C8X false)) none))) (by kernel_rfl) ?_
 exact (A9 C8X hp (fun hp=>rfl) (fun hp=>(B7 hp fun _h=>rfl)))
theorem E7U:aPP 66 (A7 C2f C7c D5a):=pcD true G24 (hl1 (i:=0) (by kernel_rfl) E27) E4a
noncomputable def S25:Tab:=Tab.add S24 66 (lift (A7 C2f C7c D5a))
noncomputable def F2A:FuncId→Bool:=qadd F1V 66
theorem G25:aPG S25 F2A:=G24.addQ E7U (cbl Tryz.f66) (fun _=>rfl)

abbrev A9q:List PSh:=[.agg [(.int .i64),(.int .i64),tq5]]
noncomputable def U6 (a0 a1:Int) (a2:Lq2):Int×Int×Lq2:=(a0,a1,(M5 a2))
noncomputable abbrev C8i (r:Int×Int×Lq2):AV×List AObj:=((.agg [(ti r.1),(ti r.2.1),(.t true tq5 r.2.2)]),[])
noncomputable abbrev B84:A1 A9q→AV×List AObj:=fun d=>C8i (U6 d.1.1 d.1.2.1 d.1.2.2.1)
noncomputable def N5 (a0 a1:Int) (a2:Lq2):Bool:=N8 a2
noncomputable abbrev B5b:A1 A9q→Bool:=fun d=>N5 d.1.1 d.1.2.1 d.1.2.2.1
theorem D5o:N0 true G25 aLn Tryz.f80 A9q B5b B84:=by
 rintro ⟨⟨a0,⟨a1,⟨a2,_⟩⟩⟩,_⟩ hp
 change N5 a0 a1 a2=true at hp
 unfold N5 at hp
 refine Eq.trans (b:=(cond (N8 a2) (some (C8i (a0,a1,(M5 a2)))) none)) (by kernel_rfl) ?_
 exact (B7 hp fun _h=>rfl)
theorem D95:aPP 80 (A7 A9q B5b B84):=pcD true G25 hlz D5o
noncomputable def S26:Tab:=Tab.add S25 80 (lift (A7 A9q B5b B84))
noncomputable def F2s:FuncId→Bool:=qadd F2A 80
theorem G26:aPG S26 F2s:=G25.addQ D95 (cbl Tryz.f80) (fun _=>rfl)

abbrev F1b:List Sh:=.junk::.junk::.junk::.junk::.junk::E94
abbrev F1m:List Sh:=.junk::.junk::F1b
abbrev F09:List Sh:=.junk::.junk::.junk::.junk::F1m
abbrev u63:=((),(),(),(),(),(),(),(),(),(),(),(),(),(),u49)
abbrev u54:=((),(),(),(),(),u49)
abbrev u60:=((),(),(),(),(),(),u54)
abbrev F1q:List AV:=.junk::.junk::.junk::.junk::.junk::.junk::.junk::E7g
abbrev F1C:List AV:=.junk::.junk::.junk::.junk::.junk::E7g
abbrev F1g:List AV:=.junk::.junk::.junk::.junk::F1q
abbrev F2U:List Sh:=.junk::.junk::.junk::.junk::E94
abbrev u53:=((),(),(),(),u49)
abbrev F1G:List AV:=.junk::.junk::.junk::.junk::E7g
abbrev B8u:List PSh:=[.t tq8,.t .str,.t .str]
noncomputable def B4D:Code:=((A6 0 (B4 Tryz.f113)).getD 0 (0,.skip)).2
noncomputable def B5a:Code:=((A6 0 (B4 Tryz.f113)).getD 1 (0,.skip)).2
abbrev A2h:SS:=⟨(.t false tq8::.t true .str::.t true .str::.junk::.junk::.junk::.junk::.all 0 2::tI::F1b),[.rows 50 true D0]⟩
abbrev C5s:SS:=⟨(.junk::.junk::.junk::.junk::.junk::.junk::.all 0 2::F1m),[.rows 50 true D0]⟩
abbrev C5h:SS:=⟨(.t false tq8::.t true .str::.t true .str::F09),[]⟩
noncomputable def C7w (x0:LBBe) (x1 x2:ByteArray) (x8:Int) (h0:LBBe):RT A2h.den:=let z1:=decide (0≤x8∧x8<(h0.length:Int));let z2:=h0.getD x8.toNat (bE,bE);(.br (decide (x8<(h0.length:Int))) (.br z1 (.br ((z2.1).toList==x1.toList) (.br z1 (.done .ret C5s ((u63),(h0.set x8.toNat (z2.1,x2),()))) .fail) (.next ((x0,x1,x2,(),(),(),(),(),wI (x8+(1:Int)),u54),(h0,())))) .fail) (.done (.exit 0) C5h ((x0,x1,x2,u60),())))
abbrev A8n:=(LBBe)×(ByteArray)×(ByteArray)×(Int)×(LBBe)
abbrev A7S:=Nat×LBBe×LBBe×(ByteArray)×(ByteArray)
def B24:A7S:=(99,([]:LBBe),([]:LBBe),(bE:ByteArray),(bE:ByteArray))
noncomputable def A9F (x0:LBBe) (x1 x2:ByteArray) (x8:Int) (h0:LBBe):A8n ⊕ A7S:=let z1:=decide (0≤x8∧x8<(h0.length:Int));let z2:=h0.getD x8.toNat (bE,bE);(cond (decide (x8<(h0.length:Int))) (cond z1 (cond ((z2.1).toList==x1.toList) (cond z1 (.inr (0,h0.set x8.toNat (z2.1,x2),([]:LBBe),(bE:ByteArray),(bE:ByteArray))) (.inr B24)) (.inl (x0,x1,x2,wI (x8+(1:Int)),h0))) (.inr B24)) (.inr (1,([]:LBBe),x0,x1,x2)))
noncomputable def A6p (x0:LBBe) (x1 x2:ByteArray) (x8:Int) (h0:LBBe):A7S:=itX (fun v:A8n=>A9F v.1 v.2.1 v.2.2.1 v.2.2.2.1 v.2.2.2.2) B24 (x0,x1,x2,x8,h0)
noncomputable def B8K (a:A7S):CT:=(.br (a.1==0) (.done .ret C5s ((u63),(a.2.1,()))) (.br (a.1==1) (.done (.exit 0) C5h ((a.2.2.1,a.2.2.2.1,a.2.2.2.2,u60),())) .fail))
noncomputable def E2V (x0:LBBe) (x1 x2:ByteArray) (x8:Int) (h0:LBBe):CT:=B8K (A6p x0 x1 x2 x8 h0)
noncomputable abbrev B25 {α:Sort _} (f:LBBe→ByteArray→ByteArray→Int→LBBe→α) (d:A2h.den):α:=f d.1.1 d.1.2.1 d.1.2.2.1 d.1.2.2.2.2.2.2.2.2.1 d.2.1
noncomputable abbrev C0q:A2h.den→RT A2h.den:=(B25 C7w)
noncomputable abbrev C8R (v:A8n):A2h.den:=((v.1,v.2.1,v.2.2.1,(),(),(),(),(),v.2.2.2.1,u54),(v.2.2.2.2,()))
theorem D8p:(∀ v:A8n,(C7w v.1 v.2.1 v.2.2.1 v.2.2.2.1 v.2.2.2.2).val=R5 C8R B8K (A9F v.1 v.2.1 v.2.2.1 v.2.2.2.1 v.2.2.2.2))∧∀ a:A7S,CEnd A2h.den (B8K a):=⟨fun v=>(B3 (B3 (B3 (B3 rfl rfl) rfl) rfl) rfl),fun a=>(C5 aCD (C5 aCD K7))⟩
noncomputable def C7H (x0:LBBe) (x1 x2:ByteArray) (x8:Int) (h0:LBBe):Option (Ex×St):=let z1:=decide (0≤x8∧x8<(h0.length:Int));let z2:=h0.getD x8.toNat (bE,bE);(cond (decide (x8<(h0.length:Int))) (cond z1 (cond ((z2.1).toList==x1.toList) (cond z1 (some (.ret,(⟨(.junk::.junk::.junk::.junk::.junk::.junk::(.all 0 2)::F1q),[(.rows 50 true D0 (h0.set x8.toNat (z2.1,x2)))],0,[]⟩:St))) none) (some (.normal,(⟨((.t false tq8 x0)::(.t true .str x1)::(.t true .str x2)::.junk::.junk::.junk::.junk::(.all 0 2)::(ti (wI (x8+(1:Int))))::F1C),[(.rows 50 true D0 h0)],0,[]⟩:St)))) none) (some ((.exit 0),(⟨((.t false tq8 x0)::(.t true .str x1)::(.t true .str x2)::F1g),[],0,[]⟩:St))))
theorem D6m:RdA G26 aLn 0 B4D A2h 0 [] (kepts [6] [(0,[0,1,2])]) (B25 C7H):=by
 intro d
 kernel_rfl
theorem D6W:∀ d:A2h.den,(B25 C7H) d=(C0q d).opt 0 []:=by
 intro d
 kernel_rfl
noncomputable abbrev C5G:St→Option Tree:=A2h.say 0 [] [] (B25 E2V)
theorem D9g:aPL C5G B4D:=SS.wp2 hlz [] C0q D6m D6W _ (fun d=>Runs.ofI2 (step:=C0q) C8R D8p rfl (d.1.1,d.1.2.1,d.1.2.2.1,d.1.2.2.2.2.2.2.2.2.1,d.2.1))
abbrev A2t:SS:=⟨(.t false tq8::.t true .str::.t true .str::.junk::.junk::.junk::.junk::.junk::.junk::tI::F2U),[]⟩
abbrev B6J:SS:=⟨(.t false tq8::.t true .str::.t true .str::.junk::.junk::.junk::.junk::.junk::.junk::tI::F2U),[]⟩
noncomputable def C7X (x0:LBBe) (x1 x2:ByteArray) (x9:Int):RT A2t.den:=let z1:=(x0.getD x9.toNat (bE,bE)).1;(.br (decide (x9<(x0.length:Int))) (.br (decide (0≤x9∧x9<(x0.length:Int))) (.br (Op.bytesLess z1.toList x1.toList||(z1.toList==x1.toList)) (.next ((x0,x1,x2,(),(),(),(),(),(),wI (x9+(1:Int)),u53),())) (.done (.exit 2) B6J ((x0,x1,x2,(),(),(),(),(),(),x9,u53),()))) .fail) (.done (.exit 2) B6J ((x0,x1,x2,(),(),(),(),(),(),x9,u53),())))
abbrev A74:=(LBBe)×(ByteArray)×(ByteArray)×(Int)
abbrev B1r:=Nat×LBBe×(ByteArray)×(ByteArray)×(Int)
def B9d:B1r:=(99,([]:LBBe),(bE:ByteArray),(bE:ByteArray),((0:Int):Int))
noncomputable def A8X (x0:LBBe) (x1 x2:ByteArray) (x9:Int):A74 ⊕ B1r:=let z1:=(x0.getD x9.toNat (bE,bE)).1;(cond (decide (x9<(x0.length:Int))) (cond (decide (0≤x9∧x9<(x0.length:Int))) (cond (Op.bytesLess z1.toList x1.toList||(z1.toList==x1.toList)) (.inl (x0,x1,x2,wI (x9+(1:Int)))) (.inr (0,x0,x1,x2,x9))) (.inr B9d)) (.inr (0,x0,x1,x2,x9)))
noncomputable def B9B (x0:LBBe) (x1 x2:ByteArray) (x9:Int):B1r:=itX (fun v:A74=>A8X v.1 v.2.1 v.2.2.1 v.2.2.2) B9d (x0,x1,x2,x9)
noncomputable def C0b (a:B1r):CT:=(.br (a.1==0) (.done (.exit 2) B6J ((a.2.1,a.2.2.1,a.2.2.2.1,(),(),(),(),(),(),a.2.2.2.2,u53),())) .fail)
noncomputable def E01 (x0:LBBe) (x1 x2:ByteArray) (x9:Int):CT:=C0b (B9B x0 x1 x2 x9)
noncomputable abbrev B23 {α:Sort _} (f:LBBe→ByteArray→ByteArray→Int→α) (d:A2t.den):α:=f d.1.1 d.1.2.1 d.1.2.2.1 d.1.2.2.2.2.2.2.2.2.2.1
noncomputable abbrev B9N:A2t.den→RT A2t.den:=(B23 C7X)
noncomputable abbrev C85 (v:A74):A2t.den:=((v.1,v.2.1,v.2.2.1,(),(),(),(),(),(),v.2.2.2,u53),())
theorem E0i:(∀ v:A74,(C7X v.1 v.2.1 v.2.2.1 v.2.2.2).val=R5 C85 C0b (A8X v.1 v.2.1 v.2.2.1 v.2.2.2))∧∀ a:B1r,CEnd A2t.den (C0b a):=⟨fun v=>(B3 (B3 (B3 rfl rfl) rfl) rfl),fun a=>(C5 aCD K7)⟩
noncomputable def C7J (x0:LBBe) (x1 x2:ByteArray) (x9:Int):Option (Ex×St):=let z1:=(⟨((.t false tq8 x0)::(.t true .str x1)::(.t true .str x2)::.junk::.junk::.junk::.junk::.junk::.junk::(ti x9)::F1G),[],0,[]⟩:St);let z2:=(x0.getD x9.toNat (bE,bE)).1;(cond (decide (x9<(x0.length:Int))) (cond (decide (0≤x9∧x9<(x0.length:Int))) (cond (Op.bytesLess z2.toList x1.toList||(z2.toList==x1.toList)) (some (.normal,(⟨((.t false tq8 x0)::(.t true .str x1)::(.t true .str x2)::.junk::.junk::.junk::.junk::.junk::.junk::(ti (wI (x9+(1:Int))))::F1G),[],0,[]⟩:St))) (some ((.exit 2),z1))) none) (some ((.exit 2),z1)))
theorem D5T:RdA G26 aLn 2 B5a A2t 0 [] (kepts [] [(2,[0,1,2,9])]) (B23 C7J):=by
 intro d
 kernel_rfl
theorem D5V:∀ d:A2t.den,(B23 C7J) d=(B9N d).opt 0 []:=by
 intro d
 kernel_rfl
noncomputable abbrev C5T:St→Option Tree:=A2t.say 0 [] [] (B23 E01)
theorem D9r:aPL C5T B5a:=SS.wp2 hlz [] B9N D5T D5V _ (fun d=>Runs.ofI2 (step:=B9N) C85 E0i rfl (d.1.1,d.1.2.1,d.1.2.2.1,d.1.2.2.2.2.2.2.2.2.2.1))
noncomputable def B9y (a0:LBBe) (a1 a2:ByteArray):=let z1:=A6p a0 a1 a2 (0:Int) (([]:LBBe)++a0);B9B (z1.2.2.1) (z1.2.2.2.1) (z1.2.2.2.2) (0:Int)
noncomputable def D2S (a0:LBBe) (a1 a2:ByteArray):LBBe:=let z1:=B9y a0 a1 a2;let z2:=A6p a0 a1 a2 (0:Int) (([]:LBBe)++a0);(cond (z2.1==0) (z2.2.1) (((([]:LBBe)++(((z1.2.1).take (z1.2.2.2.2).toNat).drop (0:Int).toNat))++[((z1.2.2.1),(z1.2.2.2.1))])++(((z1.2.1).take (((z1.2.1).length:Nat):Int).toNat).drop (z1.2.2.2.2).toNat)))
noncomputable abbrev C4F (r:LBBe):AV×List AObj:=((.all 0 2),[(.rows 50 true D0 r)])
noncomputable abbrev C9V:A1 B8u→AV×List AObj:=fun d=>C4F (D2S d.1 d.2.1 d.2.2.1)
noncomputable def A8k (a0:LBBe) (a1 a2:ByteArray):Bool:=let z1:=B9y a0 a1 a2;let z2:=((z1.2.1).take (z1.2.2.2.2).toNat).drop (0:Int).toNat;let z3:=A6p a0 a1 a2 (0:Int) (([]:LBBe)++a0);(decide ((([]:LBBe).length+a0.length)*32≤MAXB))&&(cond (z3.1==0) true ((z3.1==1)&&((z1.1==0)&&((decide (0≤(0:Int)∧(0:Int)≤(z1.2.2.2.2)∧(z1.2.2.2.2)≤(((z1.2.1).length:Nat):Int)))&&((decide ((([]:LBBe).length+z2.length)*32≤MAXB))&&((decide (((([]:LBBe)++z2).length+[((z1.2.2.1),(z1.2.2.2.1))].length)*32≤MAXB))&&((decide (0≤(z1.2.2.2.2)∧(z1.2.2.2.2)≤(((z1.2.1).length:Nat):Int)∧(((z1.2.1).length:Nat):Int)≤(((z1.2.1).length:Nat):Int)))&&(decide ((((([]:LBBe)++z2)++[((z1.2.2.1),(z1.2.2.2.1))]).length+(((z1.2.1).take (((z1.2.1).length:Nat):Int).toNat).drop (z1.2.2.2.2).toNat).length)*32≤MAXB)))))))))
noncomputable abbrev C3o:A1 B8u→Bool:=fun d=>A8k d.1 d.2.1 d.2.2.1
noncomputable abbrev E6p:Nat→St→Option Tree:=fun b=>match b with | 0=>C5G | 2=>C5T | _=>fun _=>none
theorem E0B:N0 false G26 (E6p) Tryz.f113 B8u C3o C9V:=by
 rintro ⟨a0,⟨a1,⟨a2,_⟩⟩⟩ hp
 change A8k a0 a1 a2=true at hp
 unfold A8k at hp
 refine Eq.trans (b:=(let z1:=B9y a0 a1 a2;let z2:=((z1.2.1).take (z1.2.2.2.2).toNat).drop (0:Int).toNat;let z3:=A6p a0 a1 a2 (0:Int) (([]:LBBe)++a0);let z4:=((z1.2.1).take (((z1.2.1).length:Nat):Int).toNat).drop (z1.2.2.2.2).toNat;cond (decide ((([]:LBBe).length+a0.length)*32≤MAXB)) (cond (z3.1==0) (some (C4F (z3.2.1))) (cond (z3.1==1) (cond (z1.1==0) (cond (decide (0≤(0:Int)∧(0:Int)≤(z1.2.2.2.2)∧(z1.2.2.2.2)≤(((z1.2.1).length:Nat):Int))) (cond (decide ((([]:LBBe).length+z2.length)*32≤MAXB)) (cond (decide (((([]:LBBe)++z2).length+[((z1.2.2.1),(z1.2.2.2.1))].length)*32≤MAXB)) (cond (decide (0≤(z1.2.2.2.2)∧(z1.2.2.2.2)≤(((z1.2.1).length:Nat):Int)∧(((z1.2.1).length:Nat):Int)≤(((z1.2.1).length:Nat):Int))) (cond (decide ((((([]:LBBe)++z2)++[((z1.2.2.1),(z1.2.2.2.1))]).length+z4.length)*32≤MAXB)) (some (C4F (((([]:LBBe)++z2)++[((z1.2.2.1),(z1.2.2.2.1))])++z4))) none) none) none) none) none) none) none)) none)) (by kernel_rfl) ?_
 exact (B2 hp fun hp=>(A9 C4F hp (fun hp=>rfl) (fun hp=>(B2 hp fun hp=>(B2 hp fun hp=>(B2 hp fun hp=>(B2 hp fun hp=>(B2 hp fun hp=>(B2 hp fun hp=>(B7 hp fun _h=>rfl))))))))))
theorem E6X:aPP 113 (A7 B8u C3o C9V):=pcD false G26 (by
  rw [show A6 0 (B4 Tryz.f113)=[(0,B4D),(2,B5a)] by kernel_rfl];intro p hp;simp only [List.mem_cons,List.mem_nil_iff,or_false] at hp
  rcases hp with rfl | rfl
  ·exact D9g
  ·exact D9r) E0B
noncomputable def S27:Tab:=Tab.add S26 113 (lift (A7 B8u C3o C9V))
noncomputable def F24:FuncId→Bool:=F2s
theorem G27:aPG S27 F24:=G26.add E6X (cbl Tryz.f113) (by kernel_rfl)

abbrev F32:List Sh:=.junk::.junk::.junk::E9e
abbrev u23:=((),(),u21)
abbrev u30:=((),u29)
abbrev B7V:List PSh:=[.t tq8,.t .str]
abbrev A41:SS:=⟨(.t false tq8::.t true .str::.junk::.junk::.junk::.all 0 2::tI::F32),[.rows 50 true D0]⟩
abbrev C5L:SS:=⟨(.junk::.junk::.junk::.junk::.junk::.all 0 2::E7D),[.rows 50 true D0]⟩
noncomputable def C82 (x0:LBBe) (x1:ByteArray) (x6:Int) (h0:LBBe):RT A41.den:=let z1:=x0.getD x6.toNat (bE,bE);let z2:=decide (0≤x6∧x6<(x0.length:Int));(.br (decide (x6<(x0.length:Int))) (.br z2 (.br (!((z1.1).toList==x1.toList)) (.br z2 (.br (decide ((h0.length+([(z1.1,z1.2)]).length)*32≤MAXB)) (.next ((x0,x1,(),(),(),(),wI (x6+(1:Int)),u23),(h0++([(z1.1,z1.2)]),()))) .fail) .fail) (.next ((x0,x1,(),(),(),(),wI (x6+(1:Int)),u23),(h0,())))) .fail) (.done (.exit 0) C5L ((u30),(h0,()))))
abbrev B1H:=(LBBe)×(ByteArray)×(Int)×(LBBe)
abbrev B1T:=Nat×(LBBe)
def B3a:B1T:=(99,([]:LBBe))
noncomputable def B2W (x0:LBBe) (x1:ByteArray) (x6:Int) (h0:LBBe):B1H ⊕ B1T:=let z1:=x0.getD x6.toNat (bE,bE);let z2:=decide (0≤x6∧x6<(x0.length:Int));(cond (decide (x6<(x0.length:Int))) (cond z2 (cond (!((z1.1).toList==x1.toList)) (cond z2 (cond (decide ((h0.length+([(z1.1,z1.2)]).length)*32≤MAXB)) (.inl (x0,x1,wI (x6+(1:Int)),h0++([(z1.1,z1.2)]))) (.inr B3a)) (.inr B3a)) (.inl (x0,x1,wI (x6+(1:Int)),h0))) (.inr B3a)) (.inr (0,h0)))
noncomputable def A82 (x0:LBBe) (x1:ByteArray) (x6:Int) (h0:LBBe):B1T:=itX (fun v:B1H=>B2W v.1 v.2.1 v.2.2.1 v.2.2.2) B3a (x0,x1,x6,h0)
noncomputable def B9v (a:B1T):CT:=(.br (a.1==0) (.done (.exit 0) C5L ((u30),(a.2,()))) .fail)
noncomputable def E1R (x0:LBBe) (x1:ByteArray) (x6:Int) (h0:LBBe):CT:=B9v (A82 x0 x1 x6 h0)
noncomputable abbrev C0i:A41.den→RT A41.den:=(fun d=>C82 d.1.1 d.1.2.1 d.1.2.2.2.2.2.2.1 d.2.1)
noncomputable def C2u:Code:=((A6 0 (B4 Tryz.f114)).getD 0 (0,.skip)).2
noncomputable abbrev C8G (v:B1H):A41.den:=((v.1,v.2.1,(),(),(),(),v.2.2.1,u23),(v.2.2.2,()))
theorem D9R:(∀ v:B1H,(C82 v.1 v.2.1 v.2.2.1 v.2.2.2).val=R5 C8G B9v (B2W v.1 v.2.1 v.2.2.1 v.2.2.2))∧∀ a:B1T,CEnd A41.den (B9v a):=⟨fun v=>(B3 (B3 (B3 (B3 (B3 rfl rfl) rfl) rfl) rfl) rfl),fun a=>(C5 aCD K7)⟩
theorem D6h:RdA G27 aLn 0 C2u A41 0 [] (kepts [] [(0,[5])]) (fun d=>(C0i d).opt 0 []):=by
 intro d
 kernel_rfl
noncomputable abbrev C42:St→Option Tree:=A41.say 0 [] [] (fun d=>E1R d.1.1 d.1.2.1 d.1.2.2.2.2.2.2.1 d.2.1)
theorem D92:aPL C42 C2u:=SS.wp2 hlz [] C0i D6h (fun d=>rfl) _ (fun d=>Runs.ofI2 (step:=C0i) C8G D9R rfl (d.1.1,d.1.2.1,d.1.2.2.2.2.2.2.1,d.2.1))
noncomputable def D22 (a0:LBBe) (a1:ByteArray):LBBe:=((A82 a0 a1 (0:Int) ([]:LBBe)).2)
noncomputable abbrev D7D (r:LBBe):AV×List AObj:=((.all 0 2),[(.rows 50 true D0 r)])
noncomputable abbrev C9D:A1 B7V→AV×List AObj:=fun d=>D7D (D22 d.1 d.2.1)
noncomputable def A8j (a0:LBBe) (a1:ByteArray):Bool:=((A82 a0 a1 (0:Int) ([]:LBBe)).1==0)
noncomputable abbrev C18:A1 B7V→Bool:=fun d=>A8j d.1 d.2.1
noncomputable abbrev E6R:Nat→St→Option Tree:=fun b=>match b with | 0=>C42 | _=>fun _=>none
theorem E2M:N0 false G27 (E6R) Tryz.f114 B7V C18 C9D:=by
 rintro ⟨a0,⟨a1,_⟩⟩ hp
 change A8j a0 a1=true at hp
 unfold A8j at hp
 refine Eq.trans (b:=(let z1:=A82 a0 a1 (0:Int) ([]:LBBe);cond (z1.1==0) (some (D7D (z1.2))) none)) (by kernel_rfl) ?_
 exact (B7 hp fun _h=>rfl)
theorem E66:aPP 114 (A7 B7V C18 C9D):=pcD false G27 (hl1 (i:=0) (by kernel_rfl) D92) E2M
noncomputable def S28:Tab:=Tab.add S27 114 (lift (A7 B7V C18 C9D))
noncomputable def F4a:FuncId→Bool:=F24
theorem G28:aPG S28 F4a:=G27.add E66 (cbl Tryz.f114) (by kernel_rfl)

abbrev C2O:List PSh:=[.t tq8,.t tq5]
abbrev A40:SS:=⟨(.junk::.t false tq5::.junk::.junk::.junk::.all 0 2::tI::E8i),[.rows 50 true D0]⟩
abbrev C75:SS:=⟨(.junk::.junk::.junk::.junk::.junk::.all 0 2::E3U),[.rows 50 true D0]⟩
noncomputable def C4z (x1:Lq2) (x6:Int) (h0:LBBe):=let z1:=(x1.getD x6.toNat ((0:Int),(bE,bE))).2;D2S h0 (z1.1) (z1.2)
noncomputable def C4b (x1:Lq2) (x6:Int) (h0:LBBe):=D22 h0 (((x1.getD x6.toNat ((0:Int),(bE,bE))).2).1)
noncomputable def D1i (x1:Lq2) (x6:Int) (h0:LBBe):RT A40.den:=let z1:=x1.getD x6.toNat ((0:Int),(bE,bE));let z2:=decide (0≤x6∧x6<(x1.length:Int));(.br (decide (x6<(x1.length:Int))) (.br z2 (.br ((z1.1)==(1:Int)) (.br z2 (.br z2 (.br (A8k h0 ((z1.2).1) ((z1.2).2)) (.next (((),x1,(),(),(),(),wI (x6+(1:Int)),u39),((C4z x1 x6 h0),()))) .fail) .fail) .fail) (.br ((z1.1)==(2:Int)) (.br z2 (.br (A8j h0 ((z1.2).1)) (.next (((),x1,(),(),(),(),wI (x6+(1:Int)),u39),((C4b x1 x6 h0),()))) .fail) .fail) (.next (((),x1,(),(),(),(),wI (x6+(1:Int)),u39),(h0,()))))) .fail) (.done (.exit 0) C75 ((u46),(h0,()))))
abbrev B0C:=(Lq2)×(Int)×(LBBe)
abbrev B0D:=Nat×(LBBe)
def A3o:B0D:=(99,([]:LBBe))
noncomputable def B1w (x1:Lq2) (x6:Int) (h0:LBBe):B0C ⊕ B0D:=let z1:=x1.getD x6.toNat ((0:Int),(bE,bE));let z2:=decide (0≤x6∧x6<(x1.length:Int));(cond (decide (x6<(x1.length:Int))) (cond z2 (cond ((z1.1)==(1:Int)) (cond z2 (cond z2 (cond (A8k h0 ((z1.2).1) ((z1.2).2)) (.inl (x1,wI (x6+(1:Int)),(C4z x1 x6 h0))) (.inr A3o)) (.inr A3o)) (.inr A3o)) (cond ((z1.1)==(2:Int)) (cond z2 (cond (A8j h0 ((z1.2).1)) (.inl (x1,wI (x6+(1:Int)),(C4b x1 x6 h0))) (.inr A3o)) (.inr A3o)) (.inl (x1,wI (x6+(1:Int)),h0)))) (.inr A3o)) (.inr (0,h0)))
noncomputable def B10 (x1:Lq2) (x6:Int) (h0:LBBe):B0D:=itX (fun v:B0C=>B1w v.1 v.2.1 v.2.2) A3o (x1,x6,h0)
noncomputable def C1K (a:B0D):CT:=(.br (a.1==0) (.done (.exit 0) C75 ((u46),(a.2,()))) .fail)
noncomputable def E4o (x1:Lq2) (x6:Int) (h0:LBBe):CT:=C1K (B10 x1 x6 h0)
noncomputable abbrev C37:A40.den→RT A40.den:=(fun d=>D1i d.1.2.1 d.1.2.2.2.2.2.2.1 d.2.1)
noncomputable def C50:Code:=((A6 0 (B4 Tryz.f91)).getD 0 (0,.skip)).2
noncomputable abbrev D1I (v:B0C):A40.den:=(((),v.1,(),(),(),(),v.2.1,u39),(v.2.2,()))
theorem E1u:(∀ v:B0C,(D1i v.1 v.2.1 v.2.2).val=R5 D1I C1K (B1w v.1 v.2.1 v.2.2))∧∀ a:B0D,CEnd A40.den (C1K a):=⟨fun v=>by repeat' first | apply B3 | rfl,fun a=>(C5 aCD K7)⟩
noncomputable def D1x (x1:Lq2) (x6:Int) (h0:LBBe):Option (Ex×St):=let z1:=x1.getD x6.toNat ((0:Int),(bE,bE));let z2:=decide (0≤x6∧x6<(x1.length:Int));let z3:=ti (wI (x6+(1:Int)));(cond (decide (x6<(x1.length:Int))) (cond z2 (cond ((z1.1)==(1:Int)) (cond z2 (cond z2 (cond (A8k h0 ((z1.2).1) ((z1.2).2)) (some (.normal,(⟨(.junk::(.t false tq5 x1)::.junk::.junk::.junk::(.all 0 2)::z3::E30),[(.rows 50 true D0 (C4z x1 x6 h0))],0,[]⟩:St))) none) none) none) (cond ((z1.1)==(2:Int)) (cond z2 (cond (A8j h0 ((z1.2).1)) (some (.normal,(⟨(.junk::(.t false tq5 x1)::.junk::.junk::.junk::(.all 0 2)::z3::E30),[(.rows 50 true D0 (C4b x1 x6 h0))],0,[]⟩:St))) none) none) (some (.normal,(⟨(.junk::(.t false tq5 x1)::.junk::.junk::.junk::(.all 0 2)::z3::E30),[(.rows 50 true D0 h0)],0,[]⟩:St))))) none) (some ((.exit 0),(⟨(.junk::.junk::.junk::.junk::.junk::(.all 0 2)::E42),[(.rows 50 true D0 h0)],0,[]⟩:St))))
theorem E0b:RdA G28 aLn 0 C50 A40 0 [] (kepts [] [(0,[5])]) (fun d=>D1x d.1.2.1 d.1.2.2.2.2.2.2.1 d.2.1):=by
 intro d
 kernel_rfl
theorem D8T:∀ d:A40.den,(fun d=>D1x d.1.2.1 d.1.2.2.2.2.2.2.1 d.2.1) d=(C37 d).opt 0 []:=by
 intro d
 kernel_rfl
noncomputable abbrev C7v:St→Option Tree:=A40.say 0 [] [] (fun d=>E4o d.1.2.1 d.1.2.2.2.2.2.2.1 d.2.1)
theorem E0C:aPL C7v C50:=SS.wp2 hlz [] C37 E0b D8T _ (fun d=>Runs.ofI2 (step:=C37) D1I E1u rfl (d.1.2.1,d.1.2.2.2.2.2.2.1,d.2.1))
noncomputable def B8Z (a0:LBBe) (a1:Lq2):LBBe:=((B10 a1 (0:Int) (([]:LBBe)++a0)).2)
noncomputable abbrev E2r (r:LBBe):AV×List AObj:=((.all 0 2),[(.rows 50 true D0 r)])
noncomputable abbrev D3M:A1 C2O→AV×List AObj:=fun d=>E2r (B8Z d.1 d.2.1)
noncomputable def A9g (a0:LBBe) (a1:Lq2):Bool:=(decide ((([]:LBBe).length+a0.length)*32≤MAXB))&&((B10 a1 (0:Int) (([]:LBBe)++a0)).1==0)
noncomputable abbrev C6T:A1 C2O→Bool:=fun d=>A9g d.1 d.2.1
noncomputable abbrev E77:Nat→St→Option Tree:=fun b=>match b with | 0=>C7v | _=>fun _=>none
theorem E3R:N0 false G28 (E77) Tryz.f91 C2O C6T D3M:=by
 rintro ⟨a0,⟨a1,_⟩⟩ hp
 change A9g a0 a1=true at hp
 unfold A9g at hp
 refine Eq.trans (b:=(let z1:=B10 a1 (0:Int) (([]:LBBe)++a0);cond (decide ((([]:LBBe).length+a0.length)*32≤MAXB)) (cond (z1.1==0) (some (E2r (z1.2))) none) none)) (by kernel_rfl) ?_
 exact (B2 hp fun hp=>(B7 hp fun _h=>rfl))
theorem E7B:aPP 91 (A7 C2O C6T D3M):=pcD false G28 (hl1 (i:=0) (by kernel_rfl) E0C) E3R
noncomputable def S29:Tab:=Tab.add S28 91 (lift (A7 C2O C6T D3M))
noncomputable def F3o:FuncId→Bool:=F4a
theorem G29:aPG S29 F3o:=G28.add E7B (cbl Tryz.f91) (by kernel_rfl)

abbrev C4v:SS:=⟨[.ptr 0 0 1 0,.agg [.t true (.int .i64),.t true (.int .i64),.t false tq5]],[.box [.all 1 2,.all 2 3,.nil],.rows 50 true D0,.rows 48 true tq4]⟩
noncomputable def C9v (x1_0 x1_1:Int) (x1_2:Lq2) (h1:LBBe) (h2:Lq1):Bool×LBBe×Lq1×List Int:=let z3:=A72 h2 x1_1;let z2:=B8Z h1 (((h2.getD (z3.toNat) ((0:Int),((0:Int),[]))).2).2);let z4:=([]:List Int);let z5:=U6 x1_0 x1_1 x1_2;let z6:=([]:Lq1)++(h2.take (z3.toNat));let z7:=wI (z3+(1:Int));let z1:=(h2.drop (z7.toNat)).take ((h2.length:Int).toNat - z7.toNat);(cond (!(A2I x1_0 x1_1 x1_2)) (false,h1,h2,z4) (cond (x1_0==(1:Int)) (cond (Y7 [] x1_1) (false,h1,h2,z4) (cond (A2g h2 x1_2) (false,h1,h2,z4) (cond (!(B2H h1 x1_2)) (false,h1,h2,z4) (true,h1,h2++[((z5.1),((z5.2.1),(z5.2.2)))],[x1_1])))) (cond (decide (z3<(0:Int))) (cond (x1_0==(3:Int)) (!(Y7 [] x1_1),h1,h2,[x1_1]) (false,h1,h2,[x1_1])) (cond (x1_0==(2:Int)) (decide (((z2.length:Nat):Int)≤(60:Int)),z2,z6++z1,z4) (decide ((h1.length:Int)≤(60:Int)),h1,z6++z1,z4)))))
noncomputable abbrev A1V (r:Bool×LBBe×Lq1×List Int):AV×List AObj×List Nat:=((.t true .bool r.1),[(.box [(.all 1 2),(.all 2 3),(.all 3 1)]),(.rows 50 true D0 r.2.1),(.rows 48 true tq4 r.2.2.1),(.rows 3 true (.int .i64) r.2.2.2)],[1,2])
noncomputable abbrev E1O:C4v.den→AV×List AObj×List Nat:=fun d=>A1V (C9v d.1.2.1.1 d.1.2.1.2.1 d.1.2.1.2.2.1 d.2.2.1 d.2.2.2.1)
noncomputable def B4m (x1_0 x1_1:Int) (x1_2:Lq2) (h1:LBBe) (h2:Lq1):Bool:=let z2:=A72 h2 x1_1;let z3:=wI (z2+(1:Int));let z4:=decide ([x1_1].length*8≤MAXB);let z5:=U6 x1_0 x1_1 x1_2;let z6:=h2.take (z2.toNat);let z1:=(decide (0≤(0:Int)∧(0:Int)≤z2∧z2≤(h2.length:Int)))&&((decide (0≤z3∧z3≤(h2.length:Int)∧(h2.length:Int)≤(h2.length:Int)))&&((decide ((([]:Lq1).length+z6.length)*40≤MAXB))&&(decide (((([]:Lq1)++z6).length+((h2.drop (z3.toNat)).take ((h2.length:Int).toNat - z3.toNat)).length)*40≤MAXB))));(A9E h2 x1_1)&&((B1h x1_0 x1_1 x1_2)&&(cond (!(A2I x1_0 x1_1 x1_2)) true (cond (x1_0==(1:Int)) ((O5 [] x1_1)&&(cond (Y7 [] x1_1) true ((A0u h2 x1_2)&&(cond (A2g h2 x1_2) true ((A48 h1 x1_2)&&(cond (!(B2H h1 x1_2)) true ((N5 x1_0 x1_1 x1_2)&&((decide ((h2.length+[((z5.1),((z5.2.1),(z5.2.2)))].length)*40≤MAXB))&&z4)))))))) (cond (decide (z2<(0:Int))) (cond (x1_0==(3:Int)) ((O5 [] x1_1)&&z4) z4) (cond (x1_0==(2:Int)) ((decide (0≤z2∧z2<(h2.length:Int)))&&((A9g h1 (((h2.getD (z2.toNat) ((0:Int),((0:Int),[]))).2).2))&&z1)) z1)))))
noncomputable abbrev D3I:C4v.den→Bool:=fun d=>B4m d.1.2.1.1 d.1.2.1.2.1 d.1.2.1.2.2.1 d.2.2.1 d.2.2.2.1
theorem E47:C6L false [] [1,2] [(0,0,1,50,D0),(0,1,2,48,tq4),(0,2,99999,3,(.int .i64))] G29 aLn Tryz.f57 C4v D3I E1O:=by
 rintro ⟨⟨_,⟨x1_0,x1_1,x1_2,_⟩,_⟩,⟨⟨_,_,_,_⟩,h1,h2,_⟩⟩ hp
 change B4m x1_0 x1_1 x1_2 h1 h2=true at hp
 unfold B4m at hp
 refine Eq.trans (b:=(let z2:=A72 h2 x1_1;let z1:=wI (z2+(1:Int));let z3:=(h2.drop (z1.toNat)).take ((h2.length:Int).toNat - z1.toNat);let z4:=U6 x1_0 x1_1 x1_2;let z6:=((h2.getD (z2.toNat) ((0:Int),((0:Int),[]))).2).2;let z8:=decide (0≤z1∧z1≤(h2.length:Int)∧(h2.length:Int)≤(h2.length:Int));let z10:=decide ([x1_1].length*8≤MAXB);let z11:=decide (0≤(0:Int)∧(0:Int)≤z2∧z2≤(h2.length:Int));let z13:=([]:List Int);let z5:=A1V (false,h1,h2,z13);let z14:=h2.take (z2.toNat);let z7:=([]:Lq1)++z14;let z9:=decide ((([]:Lq1).length+z14.length)*40≤MAXB);let z12:=decide ((z7.length+z3.length)*40≤MAXB);cond (A9E h2 x1_1) (cond (B1h x1_0 x1_1 x1_2) (cond (!(A2I x1_0 x1_1 x1_2)) (some z5) (cond (x1_0==(1:Int)) (cond (O5 [] x1_1) (cond (Y7 [] x1_1) (some z5) (cond (A0u h2 x1_2) (cond (A2g h2 x1_2) (some z5) (cond (A48 h1 x1_2) (cond (!(B2H h1 x1_2)) (some z5) (cond (N5 x1_0 x1_1 x1_2) (cond (decide ((h2.length+[((z4.1),((z4.2.1),(z4.2.2)))].length)*40≤MAXB)) (cond z10 (some (A1V (true,h1,h2++[((z4.1),((z4.2.1),(z4.2.2)))],[x1_1]))) none) none) none)) none)) none)) none) (cond (decide (z2<(0:Int))) (cond (x1_0==(3:Int)) (cond (O5 [] x1_1) (cond z10 (some (A1V (!(Y7 [] x1_1),h1,h2,[x1_1]))) none) none) (cond z10 (some (A1V (false,h1,h2,[x1_1]))) none)) (cond (x1_0==(2:Int)) (cond (decide (0≤z2∧z2<(h2.length:Int))) (cond (A9g h1 z6) (cond z11 (cond z8 (cond z9 (cond z12 (some (A1V (decide ((((B8Z h1 z6).length:Nat):Int)≤(60:Int)),(B8Z h1 z6),z7++z3,z13))) none) none) none) none) none) none) (cond z11 (cond z8 (cond z9 (cond z12 (some (A1V (decide ((h1.length:Int)≤(60:Int)),h1,z7++z3,z13))) none) none) none) none))))) none) none)) (by kernel_rfl) ?_
 exact (B2 hp fun hp=>(B2 hp fun hp=>(A9 A1V hp (fun hp=>rfl) (fun hp=>(A9 A1V hp (fun hp=>(B2 hp fun hp=>(A9 A1V hp (fun hp=>rfl) (fun hp=>(B2 hp fun hp=>(A9 A1V hp (fun hp=>rfl) (fun hp=>(B2 hp fun hp=>(A9 A1V hp (fun hp=>rfl) (fun hp=>(B2 hp fun hp=>(B2 hp fun hp=>(B7 hp fun _h=>rfl))))))))))))) (fun hp=>(A9 A1V hp (fun hp=>(A9 A1V hp (fun hp=>(B2 hp fun hp=>(B7 hp fun _h=>rfl))) (fun hp=>(B7 hp fun _h=>rfl)))) (fun hp=>(A9 A1V hp (fun hp=>(B2 hp fun hp=>(B2 hp fun hp=>(B2 hp fun hp=>(B2 hp fun hp=>(B2 hp fun hp=>(B7 hp fun _h=>rfl))))))) (fun hp=>(B2 hp fun hp=>(B2 hp fun hp=>(B2 hp fun hp=>(B7 hp fun _h=>rfl))))))))))))))
noncomputable abbrev D34:=win B0 (msum C4v D3I E1O)
theorem E2A:aPM 57 D34:=(mcE false [] [1,2] [(0,0,1,50,D0),(0,1,2,48,tq4),(0,2,99999,3,(.int .i64))]  G29 hlz E47).win B0
noncomputable def S30:Tab:=Tab.add S29 57 (D34)
noncomputable def F3U:FuncId→Bool:=F3o
theorem G30:aPG S30 F3U:=G29.addM E2A (C1 _) (cbl Tryz.f57) (by kernel_rfl)

abbrev B5X:SS:=⟨[.ptr 0 0 1 0,.agg [.t true (.int .i64),.t true (.int .i64),.t false tq5]],[.box [tI,.all 1 3,tI,.all 2 2,.all 3 3],.rows 48 true tq4,.rows 50 true D0,.rows 48 true tq4]⟩
noncomputable def A5a (x1_0 x1_1:Int) (x1_2:Lq2) (p0 p2:Int) (h1:Lq1) (h2:LBBe) (h3:Lq1):Int×Int×Lq1×LBBe×Lq1:=let z1:=U6 x1_0 x1_1 x1_2;let z2:=C9v x1_0 x1_1 x1_2 h2 h3;(p0,p2,h1++[((z1.1),((z1.2.1),(z1.2.2)))],(z2.2.1),(z2.2.2.1))
noncomputable abbrev D5w (r:Int×Int×Lq1×LBBe×Lq1):AV×List AObj×List Nat:=((.tup []),[(.box [(ti r.1),(.all 1 3),(ti r.2.1),(.all 2 2),(.all 3 3)]),(.rows 48 true tq4 r.2.2.1),(.rows 50 true D0 r.2.2.2.1),(.rows 48 true tq4 r.2.2.2.2)],[1,2,3])
noncomputable abbrev D4R:B5X.den→AV×List AObj×List Nat:=fun d=>D5w (A5a d.1.2.1.1 d.1.2.1.2.1 d.1.2.1.2.2.1 d.2.1.1 d.2.1.2.2.1 d.2.2.1 d.2.2.2.1 d.2.2.2.2.1)
noncomputable def Z8 (x1_0 x1_1:Int) (x1_2:Lq2) (p0 p2:Int) (h1:Lq1) (h2:LBBe) (h3:Lq1):Bool:=let z1:=U6 x1_0 x1_1 x1_2;(B4m x1_0 x1_1 x1_2 h2 h3)&&((N5 x1_0 x1_1 x1_2)&&(decide ((h1.length+[((z1.1),((z1.2.1),(z1.2.2)))].length)*40≤MAXB)))
noncomputable abbrev C7G:B5X.den→Bool:=fun d=>Z8 d.1.2.1.1 d.1.2.1.2.1 d.1.2.1.2.2.1 d.2.1.1 d.2.1.2.2.1 d.2.2.1 d.2.2.2.1 d.2.2.2.2.1
theorem D96:B0e G30 aLn Tryz.f103 B5X C7G D4R:=by
 rintro ⟨⟨_,⟨x1_0,x1_1,x1_2,_⟩,_⟩,⟨⟨p0,_,p2,_,_,_⟩,h1,h2,h3,_⟩⟩ hp
 change Z8 x1_0 x1_1 x1_2 p0 p2 h1 h2 h3=true at hp
 unfold Z8 at hp
 refine Eq.trans (b:=(let z1:=U6 x1_0 x1_1 x1_2;let z2:=C9v x1_0 x1_1 x1_2 h2 h3;cond (B4m x1_0 x1_1 x1_2 h2 h3) (cond (N5 x1_0 x1_1 x1_2) (cond (decide ((h1.length+[((z1.1),((z1.2.1),(z1.2.2)))].length)*40≤MAXB)) (some (D5w (p0,p2,h1++[((z1.1),((z1.2.1),(z1.2.2)))],(z2.2.1),(z2.2.2.1)))) none) none) none)) (by kernel_rfl) ?_
 exact (B2 hp fun hp=>(B2 hp fun hp=>(B7 hp fun _h=>rfl)))
noncomputable abbrev D3y:=win B0 (msum B5X C7G D4R)
theorem E49:aPM 103 D3y:=(mcM G30 hlz D96).win B0
noncomputable def S31:Tab:=Tab.add S30 103 (D3y)
noncomputable def F2o:FuncId→Bool:=F3U
theorem G31:aPG S31 F2o:=G30.addM E49 (C1 _) (cbl Tryz.f103) (by kernel_rfl)

abbrev B9k:SS:=⟨[.ptr 0 0 1 0,tI,.all 1 3],[.box [tI,.all 2 3,tI,.all 3 2,.all 4 3],.rows 75 true B5e,.rows 48 true tq4,.rows 50 true D0,.rows 48 true tq4]⟩
noncomputable def D2V (x1 p0 p2:Int) (h1:Lq2) (h2:Lq1) (h3:LBBe) (h4:Lq1):Int×Int×Int×Lq2×Lq1×LBBe×Lq1:=let z1:=A5a (1:Int) x1 (M5 h1) p0 p2 h2 h3 h4;let z2:=A2H p0 h2 p2 h3 h4 x1;(cond (!(C0 x1 (1:Int) (1000000:Int))) ((5:Int),p0,p2,h1,h2,h3,h4) (cond (!(Z7 h1)) ((5:Int),p0,p2,h1,h2,h3,h4) (cond (z2 != (2:Int)) (z2,p0,p2,h1,h2,h3,h4) (cond (A2g h4 h1) ((2:Int),p0,p2,h1,h2,h3,h4) (cond (!(B2H h3 h1)) ((2:Int),p0,p2,h1,h2,h3,h4) (cond (decide ((C4E p0 h2 p2 h3 h4 h1) > (60:Int))) ((2:Int),p0,p2,h1,h2,h3,h4) (cond (decide ((wI ((wI ((h2.length:Int)+(h4.length:Int)))+(2:Int))) > (300:Int))) ((2:Int),p0,p2,h1,h2,h3,h4) ((1:Int),(z1.1),(z1.2.1),h1,(z1.2.2.1),(z1.2.2.2.1),(z1.2.2.2.2)))))))))
noncomputable abbrev A2d (r:Int×Int×Int×Lq2×Lq1×LBBe×Lq1):AV×List AObj×List Nat:=((ti r.1),[(.box [(ti r.2.1),(.all 2 3),(ti r.2.2.1),(.all 3 2),(.all 4 3)]),(.rows 75 true B5e r.2.2.2.1),(.rows 48 true tq4 r.2.2.2.2.1),(.rows 50 true D0 r.2.2.2.2.2.1),(.rows 48 true tq4 r.2.2.2.2.2.2)],[2,3,4])
noncomputable abbrev D7Q:B9k.den→AV×List AObj×List Nat:=fun d=>A2d (D2V d.1.2.1 d.2.1.1 d.2.1.2.2.1 d.2.2.1 d.2.2.2.1 d.2.2.2.2.1 d.2.2.2.2.2.1)
noncomputable def A7N (x1 p0 p2:Int) (h1:Lq2) (h2:Lq1) (h3:LBBe) (h4:Lq1):Bool:=cond (!(C0 x1 (1:Int) (1000000:Int))) true ((A2r h1)&&(cond (!(Z7 h1)) true ((A0k p0 h2 p2 h3 h4 x1)&&(cond ((A2H p0 h2 p2 h3 h4 x1) != (2:Int)) true ((A0u h4 h1)&&(cond (A2g h4 h1) true ((A48 h3 h1)&&(cond (!(B2H h3 h1)) true ((B0G p0 h2 p2 h3 h4 h1)&&(cond (decide ((C4E p0 h2 p2 h3 h4 h1) > (60:Int))) true (cond (decide ((wI ((wI ((h2.length:Int)+(h4.length:Int)))+(2:Int))) > (300:Int))) true ((N8 h1)&&(Z8 (1:Int) x1 (M5 h1) p0 p2 h2 h3 h4)))))))))))))
noncomputable abbrev D1k:B9k.den→Bool:=fun d=>A7N d.1.2.1 d.2.1.1 d.2.1.2.2.1 d.2.2.1 d.2.2.2.1 d.2.2.2.2.1 d.2.2.2.2.2.1
theorem E2w:C6L false [] [2,3,4] [] G31 aLn Tryz.f68 B9k D1k D7Q:=by
 rintro ⟨⟨_,x1,_,_⟩,⟨⟨p0,_,p2,_,_,_⟩,h1,h2,h3,h4,_⟩⟩ hp
 change A7N x1 p0 p2 h1 h2 h3 h4=true at hp
 unfold A7N at hp
 refine Eq.trans (b:=(let z1:=A5a (1:Int) x1 (M5 h1) p0 p2 h2 h3 h4;let z2:=A2d ((2:Int),p0,p2,h1,h2,h3,h4);let z3:=A2d ((5:Int),p0,p2,h1,h2,h3,h4);let z4:=A2H p0 h2 p2 h3 h4 x1;cond (!(C0 x1 (1:Int) (1000000:Int))) (some z3) (cond (A2r h1) (cond (!(Z7 h1)) (some z3) (cond (A0k p0 h2 p2 h3 h4 x1) (cond (z4 != (2:Int)) (some (A2d (z4,p0,p2,h1,h2,h3,h4))) (cond (A0u h4 h1) (cond (A2g h4 h1) (some z2) (cond (A48 h3 h1) (cond (!(B2H h3 h1)) (some z2) (cond (B0G p0 h2 p2 h3 h4 h1) (cond (decide ((C4E p0 h2 p2 h3 h4 h1) > (60:Int))) (some z2) (cond (decide ((wI ((wI ((h2.length:Int)+(h4.length:Int)))+(2:Int))) > (300:Int))) (some z2) (cond (N8 h1) (cond (Z8 (1:Int) x1 (M5 h1) p0 p2 h2 h3 h4) (some (A2d ((1:Int),(z1.1),(z1.2.1),h1,(z1.2.2.1),(z1.2.2.2.1),(z1.2.2.2.2)))) none) none))) none)) none)) none)) none)) none))) (by kernel_rfl) ?_
 exact (A9 A2d hp (fun hp=>rfl) (fun hp=>(B2 hp fun hp=>(A9 A2d hp (fun hp=>rfl) (fun hp=>(B2 hp fun hp=>(A9 A2d hp (fun hp=>rfl) (fun hp=>(B2 hp fun hp=>(A9 A2d hp (fun hp=>rfl) (fun hp=>(B2 hp fun hp=>(A9 A2d hp (fun hp=>rfl) (fun hp=>(B2 hp fun hp=>(A9 A2d hp (fun hp=>rfl) (fun hp=>(A9 A2d hp (fun hp=>rfl) (fun hp=>(B2 hp fun hp=>(B7 hp fun _h=>rfl)))))))))))))))))))))
noncomputable abbrev D7T:=win B0 (msum B9k D1k D7Q)
theorem E6u:aPM 68 D7T:=(mcE false [] [2,3,4] []  G31 hlz E2w).win B0
noncomputable def S32:Tab:=Tab.add S31 68 (D7T)
noncomputable def F3T:FuncId→Bool:=F2o
theorem G32:aPG S32 F3T:=G31.addM E6u (C1 _) (cbl Tryz.f68) (by kernel_rfl)

abbrev B98:SS:=⟨[.ptr 0 0 1 0,tI],[.box [.t false T4,tI,tI]]⟩
noncomputable def A2o (x1:Int) (p0:List Int) (p1 p2:Int):Bool×(List Int)×Int×Int:=let z1:=A3 x1 p0 p1 p2;(((z1.1)==(0:Int)),(z1.2.1),(z1.2.2.1),(z1.2.2.2))
noncomputable abbrev D7y (r:Bool×(List Int)×Int×Int):AV×List AObj×List Nat:=((.t true .bool r.1),[(.box [(.t false T4 r.2.1),(ti r.2.2.1),(ti r.2.2.2)])],[])
noncomputable abbrev D8f:B98.den→AV×List AObj×List Nat:=fun d=>D7y (A2o d.1.2.1 d.2.1.1 d.2.1.2.1 d.2.1.2.2.1)
noncomputable def O7 (x1:Int) (p0:List Int) (p1 p2:Int):Bool:=A5 x1 p0 p1 p2
noncomputable abbrev D1c:B98.den→Bool:=fun d=>O7 d.1.2.1 d.2.1.1 d.2.1.2.1 d.2.1.2.2.1
theorem E2J:B0e G32 aLn Tryz.f71 B98 D1c D8f:=by
 rintro ⟨⟨_,x1,_⟩,⟨⟨p0,p1,p2,_⟩,_⟩⟩ hp
 change O7 x1 p0 p1 p2=true at hp
 unfold O7 at hp
 refine Eq.trans (b:=(let z1:=A3 x1 p0 p1 p2;cond (A5 x1 p0 p1 p2) (some (D7y (((z1.1)==(0:Int)),(z1.2.1),(z1.2.2.1),(z1.2.2.2)))) none)) (by kernel_rfl) ?_
 exact (B7 hp fun _h=>rfl)
noncomputable abbrev D8b:=win B0 (msum B98 D1c D8f)
theorem E5P:aPM 71 D8b:=(mcM G32 hlz E2J).win B0
noncomputable def S33:Tab:=Tab.add S32 71 (D8b)
noncomputable def F2M:FuncId→Bool:=F3T
theorem G33:aPG S33 F2M:=G32.addM E5P (C1 _) (cbl Tryz.f71) (by kernel_rfl)

abbrev B2T:SS:=⟨[.ptr 0 0 1 0,tI,.t true .bool],[.box [tI,.all 1 3,tI,.all 2 2,.all 3 3],.rows 48 true tq4,.rows 50 true D0,.rows 48 true tq4]⟩
noncomputable def B3I (x1:Int) (x2:Bool) (p0 p2:Int) (h1:Lq1) (h2:LBBe) (h3:Lq1):Bool×Int×Int×Lq1×LBBe×Lq1:=let z1:=A5a (2:Int) x1 [] p0 p2 h1 h2 h3;let z2:=A5a (3:Int) x1 [] p0 p2 h1 h2 h3;let z3:=A2H p0 h1 p2 h2 h3 x1;let z4:=decide ((wI ((h1.length:Int)+(h3.length:Int))) ≥ (300:Int));(cond (!(C0 x1 (1:Int) (1000000:Int))) (false,p0,p2,h1,h2,h3) (cond x2 (cond (z3==(1:Int)) (true,(z1.1),(z1.2.1),(z1.2.2.1),(z1.2.2.2.1),(z1.2.2.2.2)) (cond (z3==(3:Int)) (x2,p0,p2,h1,h2,h3) (cond (z3==(4:Int)) (!x2,p0,p2,h1,h2,h3) (cond x2 (false,p0,p2,h1,h2,h3) (cond z4 (false,p0,p2,h1,h2,h3) (true,(z1.1),(z1.2.1),(z1.2.2.1),(z1.2.2.2.1),(z1.2.2.2.2))))))) (cond (z3==(1:Int)) (true,(z2.1),(z2.2.1),(z2.2.2.1),(z2.2.2.2.1),(z2.2.2.2.2)) (cond (z3==(3:Int)) (x2,p0,p2,h1,h2,h3) (cond (z3==(4:Int)) (!x2,p0,p2,h1,h2,h3) (cond x2 (false,p0,p2,h1,h2,h3) (cond z4 (false,p0,p2,h1,h2,h3) (true,(z2.1),(z2.2.1),(z2.2.2.1),(z2.2.2.2.1),(z2.2.2.2.2)))))))))
noncomputable abbrev L9 (r:Bool×Int×Int×Lq1×LBBe×Lq1):AV×List AObj×List Nat:=((.t true .bool r.1),[(.box [(ti r.2.1),(.all 1 3),(ti r.2.2.1),(.all 2 2),(.all 3 3)]),(.rows 48 true tq4 r.2.2.2.1),(.rows 50 true D0 r.2.2.2.2.1),(.rows 48 true tq4 r.2.2.2.2.2)],[1,2,3])
noncomputable abbrev D1R:B2T.den→AV×List AObj×List Nat:=fun d=>L9 (B3I d.1.2.1 d.1.2.2.1 d.2.1.1 d.2.1.2.2.1 d.2.2.1 d.2.2.2.1 d.2.2.2.2.1)
noncomputable def T2 (x1:Int) (x2:Bool) (p0 p2:Int) (h1:Lq1) (h2:LBBe) (h3:Lq1):Bool:=let z1:=A2H p0 h1 p2 h2 h3 x1;let z2:=decide ((wI ((h1.length:Int)+(h3.length:Int))) ≥ (300:Int));let z3:=Z8 (2:Int) x1 [] p0 p2 h1 h2 h3;let z4:=Z8 (3:Int) x1 [] p0 p2 h1 h2 h3;let z5:=A0k p0 h1 p2 h2 h3 x1;cond (!(C0 x1 (1:Int) (1000000:Int))) true (cond x2 (z5&&(cond (z1==(1:Int)) z3 (cond (z1==(3:Int)) true (cond (z1==(4:Int)) true (cond x2 true (cond z2 true z3)))))) (z5&&(cond (z1==(1:Int)) z4 (cond (z1==(3:Int)) true (cond (z1==(4:Int)) true (cond x2 true (cond z2 true z4)))))))
noncomputable abbrev C5k:B2T.den→Bool:=fun d=>T2 d.1.2.1 d.1.2.2.1 d.2.1.1 d.2.1.2.2.1 d.2.2.1 d.2.2.2.1 d.2.2.2.2.1
theorem D6O:C6L false [] [1,2,3] [] G33 aLn Tryz.f70 B2T C5k D1R:=by
 rintro ⟨⟨_,x1,x2,_⟩,⟨⟨p0,_,p2,_,_,_⟩,h1,h2,h3,_⟩⟩ hp
 change T2 x1 x2 p0 p2 h1 h2 h3=true at hp
 unfold T2 at hp
 refine Eq.trans (b:=(let z1:=A5a (2:Int) x1 [] p0 p2 h1 h2 h3;let z2:=A5a (3:Int) x1 [] p0 p2 h1 h2 h3;let z3:=A2H p0 h1 p2 h2 h3 x1;let z4:=L9 (false,p0,p2,h1,h2,h3);let z5:=decide ((wI ((h1.length:Int)+(h3.length:Int))) ≥ (300:Int));let z6:=L9 (true,(z1.1),(z1.2.1),(z1.2.2.1),(z1.2.2.2.1),(z1.2.2.2.2));let z7:=L9 (true,(z2.1),(z2.2.1),(z2.2.2.1),(z2.2.2.2.1),(z2.2.2.2.2));let z8:=Z8 (2:Int) x1 [] p0 p2 h1 h2 h3;let z9:=Z8 (3:Int) x1 [] p0 p2 h1 h2 h3;let z10:=L9 (!x2,p0,p2,h1,h2,h3);let z11:=L9 (x2,p0,p2,h1,h2,h3);let z12:=A0k p0 h1 p2 h2 h3 x1;cond (!(C0 x1 (1:Int) (1000000:Int))) (some z4) (cond x2 (cond z12 (cond (z3==(1:Int)) (cond z8 (some z6) none) (cond (z3==(3:Int)) (some z11) (cond (z3==(4:Int)) (some z10) (cond x2 (some z4) (cond z5 (some z4) (cond z8 (some z6) none)))))) none) (cond z12 (cond (z3==(1:Int)) (cond z9 (some z7) none) (cond (z3==(3:Int)) (some z11) (cond (z3==(4:Int)) (some z10) (cond x2 (some z4) (cond z5 (some z4) (cond z9 (some z7) none)))))) none)))) (by kernel_rfl) ?_
 exact (A9 L9 hp (fun hp=>rfl) (fun hp=>(A9 L9 hp (fun hp=>(B2 hp fun hp=>(A9 L9 hp (fun hp=>(B7 hp fun _h=>rfl)) (fun hp=>(A9 L9 hp (fun hp=>rfl) (fun hp=>(A9 L9 hp (fun hp=>rfl) (fun hp=>(A9 L9 hp (fun hp=>rfl) (fun hp=>(A9 L9 hp (fun hp=>rfl) (fun hp=>(B7 hp fun _h=>rfl))))))))))))) (fun hp=>(B2 hp fun hp=>(A9 L9 hp (fun hp=>(B7 hp fun _h=>rfl)) (fun hp=>(A9 L9 hp (fun hp=>rfl) (fun hp=>(A9 L9 hp (fun hp=>rfl) (fun hp=>(A9 L9 hp (fun hp=>rfl) (fun hp=>(A9 L9 hp (fun hp=>rfl) (fun hp=>(B7 hp fun _h=>rfl))))))))))))))))
noncomputable abbrev D0Z:=win B0 (msum B2T C5k D1R)
theorem E3l:aPM 70 D0Z:=(mcE false [] [1,2,3] []  G33 hlz D6O).win B0
noncomputable def S34:Tab:=Tab.add S33 70 (D0Z)
noncomputable def F2y:FuncId→Bool:=F2M
theorem G34:aPG S34 F2y:=G33.addM E3l (C1 _) (cbl Tryz.f70) (by kernel_rfl)

abbrev B3t:SS:=⟨[.ptr 0 0 1 0,.agg [.t true (.int .i64),.t true (.int .i64),.t false tq5]],[.box [.all 1 2,.all 2 3,.all 3 1],.rows 50 true D0,.rows 48 true tq4,.rows 3 true (.int .i64)]⟩
noncomputable def A93 (x1_0 x1_1:Int) (x1_2:Lq2) (h1:LBBe) (h2:Lq1) (h3:List Int):Bool×LBBe×Lq1×List Int:=let z3:=A72 h2 x1_1;let z2:=B8Z h1 (((h2.getD (z3.toNat) ((0:Int),((0:Int),[]))).2).2);let z4:=U6 x1_0 x1_1 x1_2;let z5:=([]:Lq1)++(h2.take (z3.toNat));let z6:=wI (z3+(1:Int));let z1:=(h2.drop (z6.toNat)).take ((h2.length:Int).toNat - z6.toNat);(cond (!(A2I x1_0 x1_1 x1_2)) (false,h1,h2,h3) (cond (x1_0==(1:Int)) (cond (Y7 h3 x1_1) (false,h1,h2,h3) (cond (A2g h2 x1_2) (false,h1,h2,h3) (cond (!(B2H h1 x1_2)) (false,h1,h2,h3) (true,h1,h2++[((z4.1),((z4.2.1),(z4.2.2)))],h3++[x1_1])))) (cond (decide (z3<(0:Int))) (cond (x1_0==(3:Int)) (!(Y7 h3 x1_1),h1,h2,h3++[x1_1]) (false,h1,h2,h3++[x1_1])) (cond (x1_0==(2:Int)) (decide (((z2.length:Nat):Int)≤(60:Int)),z2,z5++z1,h3) (decide ((h1.length:Int)≤(60:Int)),h1,z5++z1,h3)))))
noncomputable abbrev Q2 (r:Bool×LBBe×Lq1×List Int):AV×List AObj×List Nat:=((.t true .bool r.1),[(.box [(.all 1 2),(.all 2 3),(.all 3 1)]),(.rows 50 true D0 r.2.1),(.rows 48 true tq4 r.2.2.1),(.rows 3 true (.int .i64) r.2.2.2)],[1,2,3])
noncomputable abbrev D1p:B3t.den→AV×List AObj×List Nat:=fun d=>Q2 (A93 d.1.2.1.1 d.1.2.1.2.1 d.1.2.1.2.2.1 d.2.2.1 d.2.2.2.1 d.2.2.2.2.1)
noncomputable def A2x (x1_0 x1_1:Int) (x1_2:Lq2) (h1:LBBe) (h2:Lq1) (h3:List Int):Bool:=let z2:=A72 h2 x1_1;let z3:=wI (z2+(1:Int));let z4:=decide ((h3.length+[x1_1].length)*8≤MAXB);let z5:=U6 x1_0 x1_1 x1_2;let z6:=h2.take (z2.toNat);let z1:=(decide (0≤(0:Int)∧(0:Int)≤z2∧z2≤(h2.length:Int)))&&((decide (0≤z3∧z3≤(h2.length:Int)∧(h2.length:Int)≤(h2.length:Int)))&&((decide ((([]:Lq1).length+z6.length)*40≤MAXB))&&(decide (((([]:Lq1)++z6).length+((h2.drop (z3.toNat)).take ((h2.length:Int).toNat - z3.toNat)).length)*40≤MAXB))));(A9E h2 x1_1)&&((B1h x1_0 x1_1 x1_2)&&(cond (!(A2I x1_0 x1_1 x1_2)) true (cond (x1_0==(1:Int)) ((O5 h3 x1_1)&&(cond (Y7 h3 x1_1) true ((A0u h2 x1_2)&&(cond (A2g h2 x1_2) true ((A48 h1 x1_2)&&(cond (!(B2H h1 x1_2)) true ((N5 x1_0 x1_1 x1_2)&&((decide ((h2.length+[((z5.1),((z5.2.1),(z5.2.2)))].length)*40≤MAXB))&&z4)))))))) (cond (decide (z2<(0:Int))) (cond (x1_0==(3:Int)) ((O5 h3 x1_1)&&z4) z4) (cond (x1_0==(2:Int)) ((decide (0≤z2∧z2<(h2.length:Int)))&&((A9g h1 (((h2.getD (z2.toNat) ((0:Int),((0:Int),[]))).2).2))&&z1)) z1)))))
noncomputable abbrev C52:B3t.den→Bool:=fun d=>A2x d.1.2.1.1 d.1.2.1.2.1 d.1.2.1.2.2.1 d.2.2.1 d.2.2.2.1 d.2.2.2.2.1
theorem D7c:C6L false [] [1,2,3] [(0,0,1,50,D0),(0,1,2,48,tq4)] G34 aLn Tryz.f57 B3t C52 D1p:=by
 rintro ⟨⟨_,⟨x1_0,x1_1,x1_2,_⟩,_⟩,⟨⟨_,_,_,_⟩,h1,h2,h3,_⟩⟩ hp
 change A2x x1_0 x1_1 x1_2 h1 h2 h3=true at hp
 unfold A2x at hp
 refine Eq.trans (b:=(let z2:=A72 h2 x1_1;let z1:=wI (z2+(1:Int));let z3:=(h2.drop (z1.toNat)).take ((h2.length:Int).toNat - z1.toNat);let z4:=U6 x1_0 x1_1 x1_2;let z5:=((h2.getD (z2.toNat) ((0:Int),((0:Int),[]))).2).2;let z7:=Q2 (false,h1,h2,h3);let z8:=decide ((h3.length+[x1_1].length)*8≤MAXB);let z9:=decide (0≤z1∧z1≤(h2.length:Int)∧(h2.length:Int)≤(h2.length:Int));let z11:=decide (0≤(0:Int)∧(0:Int)≤z2∧z2≤(h2.length:Int));let z13:=h2.take (z2.toNat);let z6:=([]:Lq1)++z13;let z10:=decide ((([]:Lq1).length+z13.length)*40≤MAXB);let z12:=decide ((z6.length+z3.length)*40≤MAXB);cond (A9E h2 x1_1) (cond (B1h x1_0 x1_1 x1_2) (cond (!(A2I x1_0 x1_1 x1_2)) (some z7) (cond (x1_0==(1:Int)) (cond (O5 h3 x1_1) (cond (Y7 h3 x1_1) (some z7) (cond (A0u h2 x1_2) (cond (A2g h2 x1_2) (some z7) (cond (A48 h1 x1_2) (cond (!(B2H h1 x1_2)) (some z7) (cond (N5 x1_0 x1_1 x1_2) (cond (decide ((h2.length+[((z4.1),((z4.2.1),(z4.2.2)))].length)*40≤MAXB)) (cond z8 (some (Q2 (true,h1,h2++[((z4.1),((z4.2.1),(z4.2.2)))],h3++[x1_1]))) none) none) none)) none)) none)) none) (cond (decide (z2<(0:Int))) (cond (x1_0==(3:Int)) (cond (O5 h3 x1_1) (cond z8 (some (Q2 (!(Y7 h3 x1_1),h1,h2,h3++[x1_1]))) none) none) (cond z8 (some (Q2 (false,h1,h2,h3++[x1_1]))) none)) (cond (x1_0==(2:Int)) (cond (decide (0≤z2∧z2<(h2.length:Int))) (cond (A9g h1 z5) (cond z11 (cond z9 (cond z10 (cond z12 (some (Q2 (decide ((((B8Z h1 z5).length:Nat):Int)≤(60:Int)),(B8Z h1 z5),z6++z3,h3))) none) none) none) none) none) none) (cond z11 (cond z9 (cond z10 (cond z12 (some (Q2 (decide ((h1.length:Int)≤(60:Int)),h1,z6++z3,h3))) none) none) none) none))))) none) none)) (by kernel_rfl) ?_
 exact (B2 hp fun hp=>(B2 hp fun hp=>(A9 Q2 hp (fun hp=>rfl) (fun hp=>(A9 Q2 hp (fun hp=>(B2 hp fun hp=>(A9 Q2 hp (fun hp=>rfl) (fun hp=>(B2 hp fun hp=>(A9 Q2 hp (fun hp=>rfl) (fun hp=>(B2 hp fun hp=>(A9 Q2 hp (fun hp=>rfl) (fun hp=>(B2 hp fun hp=>(B2 hp fun hp=>(B7 hp fun _h=>rfl))))))))))))) (fun hp=>(A9 Q2 hp (fun hp=>(A9 Q2 hp (fun hp=>(B2 hp fun hp=>(B7 hp fun _h=>rfl))) (fun hp=>(B7 hp fun _h=>rfl)))) (fun hp=>(A9 Q2 hp (fun hp=>(B2 hp fun hp=>(B2 hp fun hp=>(B2 hp fun hp=>(B2 hp fun hp=>(B2 hp fun hp=>(B7 hp fun _h=>rfl))))))) (fun hp=>(B2 hp fun hp=>(B2 hp fun hp=>(B2 hp fun hp=>(B7 hp fun _h=>rfl))))))))))))))
noncomputable abbrev D1q:=win B0 (msum B3t C52 D1p)
theorem E2X:aPM 57 D1q:=(mcE false [] [1,2,3] [(0,0,1,50,D0),(0,1,2,48,tq4)]  G34 hlz D7c).win B0
noncomputable def S35:Tab:=Tab.add S34 57 (A7a (D34) (D1q))
noncomputable def F3V:FuncId→Bool:=F2y
theorem G35:aPG S35 F3V:=G34.addM (MContract.orElse E2A E2X) (A6c (C1 _) (C1 _)) (cbl Tryz.f57) (by kernel_rfl)

abbrev F3O:List Sh:=.junk::E6a
abbrev F3v:List AV:=.junk::E4H
abbrev A66:List PSh:=[.t tq3]
abbrev U2:SS:=⟨(.t false tq3::.junk::.junk::.junk::.junk::.ptr 0 0 1 0::tI::F08),[.box [.all 1 2,.all 2 3,.all 3 1],.rows 50 true D0,.rows 48 true tq4,.rows 3 true (.int .i64)]⟩
abbrev B6i:SS:=⟨(.junk::.junk::.all 0 2::.all 1 3::.t true .bool::F3O),[.rows 50 true D0,.rows 48 true tq4]⟩
abbrev B6t:SS:=⟨(.junk::.junk::.junk::.junk::.junk::.ptr 0 0 1 0::E6a),[.box [.all 1 2,.all 2 3,.all 3 1],.rows 50 true D0,.rows 48 true tq4,.rows 3 true (.int .i64)]⟩
noncomputable def A9s (x0:Lq1) (x6:Int) (h1:LBBe) (h2:Lq1) (h3:List Int):=let z1:=x0.getD x6.toNat ((0:Int),((0:Int),[]));A93 (z1.1) ((z1.2).1) ((z1.2).2) h1 h2 h3
noncomputable def B7X (x0:Lq1) (x6:Int) (h1:LBBe) (h2:Lq1) (h3:List Int):RT U2.den:=let z1:=A9s x0 x6 h1 h2 h3;let z2:=x0.getD x6.toNat ((0:Int),((0:Int),[]));(.br (decide (x6<(x0.length:Int))) (.br (decide (0≤x6∧x6<(x0.length:Int))) (.br (A2x (z2.1) ((z2.2).1) ((z2.2).2) h1 h2 h3) (.br (!(z1.1)) (.done .ret B6i (((),(),(),(),false,u30),(([]:LBBe),([]:Lq1),()))) (.next ((x0,(),(),(),(),(),wI (x6+(1:Int)),u28),(((),(),(),()),(z1.2.1),(z1.2.2.1),(z1.2.2.2),())))) .fail) .fail) (.done (.exit 0) B6t ((u35),(((),(),(),()),h1,h2,h3,()))))
abbrev A38:=(Lq1)×(Int)×LBBe×Lq1×(List Int)
abbrev A2c:=Nat×(Bool)×LBBe×Lq1×LBBe×Lq1×(List Int)
def A51:A2c:=(99,(false:Bool),([]:LBBe),([]:Lq1),([]:LBBe),([]:Lq1),([]:List Int))
noncomputable def A2Z (x0:Lq1) (x6:Int) (h1:LBBe) (h2:Lq1) (h3:List Int):A38 ⊕ A2c:=let z1:=A9s x0 x6 h1 h2 h3;let z2:=x0.getD x6.toNat ((0:Int),((0:Int),[]));(cond (decide (x6<(x0.length:Int))) (cond (decide (0≤x6∧x6<(x0.length:Int))) (cond (A2x (z2.1) ((z2.2).1) ((z2.2).2) h1 h2 h3) (cond (!(z1.1)) (.inr (0,false,([]:LBBe),([]:Lq1),([]:LBBe),([]:Lq1),([]:List Int))) (.inl (x0,wI (x6+(1:Int)),(z1.2.1),(z1.2.2.1),(z1.2.2.2)))) (.inr A51)) (.inr A51)) (.inr (1,(false:Bool),([]:LBBe),([]:Lq1),h1,h2,h3)))
noncomputable def B8j (x0:Lq1) (x6:Int) (h1:LBBe) (h2:Lq1) (h3:List Int):A2c:=itX (fun v:A38=>A2Z v.1 v.2.1 v.2.2.1 v.2.2.2.1 v.2.2.2.2) A51 (x0,x6,h1,h2,h3)
noncomputable def B0m (a:A2c):CT:=(.br (a.1==0) (.done .ret B6i (((),(),(),(),a.2.1,u30),(a.2.2.1,a.2.2.2.1,()))) (.br (a.1==1) (.done (.exit 0) B6t ((u35),(((),(),(),()),a.2.2.2.2.1,a.2.2.2.2.2.1,a.2.2.2.2.2.2,()))) .fail))
noncomputable def D14 (x0:Lq1) (x6:Int) (h1:LBBe) (h2:Lq1) (h3:List Int):CT:=B0m (B8j x0 x6 h1 h2 h3)
noncomputable abbrev A6g {α:Sort _} (f:Lq1→Int→LBBe→Lq1→(List Int)→α) (d:U2.den):α:=f d.1.1 d.1.2.2.2.2.2.2.1 d.2.2.1 d.2.2.2.1 d.2.2.2.2.1
noncomputable abbrev A92:U2.den→RT U2.den:=(A6g B7X)
noncomputable def B4A:Code:=((A6 0 (B4 Tryz.f33)).getD 0 (0,.skip)).2
noncomputable abbrev B7R (v:A38):U2.den:=((v.1,(),(),(),(),(),v.2.1,u28),(((),(),(),()),v.2.2.1,v.2.2.2.1,v.2.2.2.2,()))
theorem D0t:(∀ v:A38,(B7X v.1 v.2.1 v.2.2.1 v.2.2.2.1 v.2.2.2.2).val=R5 B7R B0m (A2Z v.1 v.2.1 v.2.2.1 v.2.2.2.1 v.2.2.2.2))∧∀ a:A2c,CEnd U2.den (B0m a):=⟨fun v=>(B3 (B3 (B3 (B3 rfl rfl) rfl) rfl) rfl),fun a=>(C5 aCD (C5 aCD K7))⟩
noncomputable def B7W (x0:Lq1) (x6:Int) (h1:LBBe) (h2:Lq1) (h3:List Int):Option (Ex×St):=let z1:=A9s x0 x6 h1 h2 h3;let z2:=x0.getD x6.toNat ((0:Int),((0:Int),[]));(cond (decide (x6<(x0.length:Int))) (cond (decide (0≤x6∧x6<(x0.length:Int))) (cond (A2x (z2.1) ((z2.2).1) ((z2.2).2) h1 h2 h3) (cond (!(z1.1)) (some (.ret,(⟨(.junk::.junk::(.all 0 2)::(.all 1 3)::(.t true .bool false)::F3v),[(.rows 50 true D0 ([]:LBBe)),(.rows 48 true tq4 ([]:Lq1))],0,[]⟩:St))) (some (.normal,(⟨((.t false tq3 x0)::.junk::.junk::.junk::.junk::(.ptr 0 0 1 0)::(ti (wI (x6+(1:Int))))::F1f),[(.box [(.all 1 2),(.all 2 3),(.all 3 1)]),(.rows 50 true D0 (z1.2.1)),(.rows 48 true tq4 (z1.2.2.1)),(.rows 3 true (.int .i64) (z1.2.2.2))],0,[]⟩:St)))) none) none) (some ((.exit 0),(⟨(.junk::.junk::.junk::.junk::.junk::(.ptr 0 0 1 0)::E4H),[(.box [(.all 1 2),(.all 2 3),(.all 3 1)]),(.rows 50 true D0 h1),(.rows 48 true tq4 h2),(.rows 3 true (.int .i64) h3)],0,[]⟩:St))))
theorem C86:RdA G35 aLn 0 B4A U2 0 [] (kepts [2,3,4] [(0,[5])]) (A6g B7W):=by
 intro d
 kernel_rfl
theorem C8x:∀ d:U2.den,(A6g B7W) d=(A92 d).opt 0 []:=by
 intro d
 kernel_rfl
noncomputable abbrev B6s:St→Option Tree:=U2.say 0 [] [(2005002,3,(.int .i64))] (A6g D14)
theorem D0m:aPL B6s B4A:=SS.wp2 hlz [(2005002,3,(.int .i64))] A92 C86 C8x _ (fun d=>Runs.ofI2 (step:=A92) B7R D0t rfl (d.1.1,d.1.2.2.2.2.2.2.1,d.2.2.1,d.2.2.2.1,d.2.2.2.2.1))
noncomputable def P9 (a0:Lq1):=B8j a0 (0:Int) ([]:LBBe) ([]:Lq1) ([]:List Int)
noncomputable def T3 (a0:Lq1):Bool×LBBe×Lq1:=let z1:=P9 a0;(cond (z1.1==0) ((z1.2.1),(z1.2.2.1),(z1.2.2.2.1)) (true,(z1.2.2.2.2.1),(z1.2.2.2.2.2.1)))
noncomputable abbrev B0M (r:Bool×LBBe×Lq1):AV×List AObj:=((.tup [(.all 0 2),(.all 1 3),(.t true .bool r.1)]),[(.rows 50 true D0 r.2.1),(.rows 48 true tq4 r.2.2)])
noncomputable abbrev B6X:A1 A66→AV×List AObj:=fun d=>B0M (T3 d.1)
noncomputable def M8 (a0:Lq1):Bool:=cond ((P9 a0).1==0) true ((P9 a0).1==1)
noncomputable abbrev B2q:A1 A66→Bool:=fun d=>M8 d.1
noncomputable abbrev D50:Nat→St→Option Tree:=fun b=>match b with | 0=>B6s | _=>fun _=>none
theorem D2O:N0 false G35 (D50) Tryz.f33 A66 B2q B6X:=by
 rintro ⟨a0,_⟩ hp
 change M8 a0=true at hp
 unfold M8 at hp
 refine Eq.trans (b:=(let z1:=P9 a0;cond (z1.1==0) (some (B0M ((z1.2.1),(z1.2.2.1),(z1.2.2.2.1)))) (cond (z1.1==1) (some (B0M (true,(z1.2.2.2.2.1),(z1.2.2.2.2.2.1)))) none))) (by kernel_rfl) ?_
 exact (A9 B0M hp (fun hp=>rfl) (fun hp=>(B7 hp fun _h=>rfl)))
theorem D68:aPP 33 (A7 A66 B2q B6X):=pcD false G35 (hl1 (i:=0) (by kernel_rfl) D0m) D2O
noncomputable def S36:Tab:=Tab.add S35 33 (lift (A7 A66 B2q B6X))
noncomputable def F1I:FuncId→Bool:=F3V
theorem G36:aPG S36 F1I:=G35.add D68 (cbl Tryz.f33) (by kernel_rfl)


end Go.Proofs.YtapikgcgahomlaaGreat.Eng
