/- What the functions that FnExactCrashShard reaches compute, and that it answers true. -/
import Derived.Test.YtgglehejlddghaaT
import Derived.Test.YtgglehejlddghaaRows
import Derived.Test.YtgglehejlddghaaE45
import Derived.Shelf.Spec.SlicesInsertGrow
namespace Go.Proofs.Ytgglehejlddghaa.Eng
open Go Go.RowKit
set_option linter.unusedSimpArgs false
set_option linter.unusedVariables false
set_option maxRecDepth 10000
abbrev bE:ByteArray:=⟨#[]⟩
abbrev Lq2:=List (Int×ByteArray×ByteArray)
abbrev tq4:Ty:=.sl (.pair (.int .i64) (.pair .str .str))
abbrev tq5:Ty:=.pair (.int .i64) (.pair (.int .i64) (.sl (.pair (.int .i64) (.pair .str .str))))
abbrev ti:=@AV.t true (.int .i64)
abbrev tI:Sh:=.t true (.int .i64)
abbrev aPG:=Good Try.prog tt
abbrev aPM:=MContract Try.prog
abbrev aPP:=PContract Try.prog
abbrev aPL:=A0A Try.prog
abbrev aLn:Nat→St→Option Tree:=fun _ _=>none
theorem aCD{D:Type}{e:Ex}{s:SS}{x:s.den}(h:e ≠ .normal:=by simp):CEnd D (.done e s x):=A7v h
noncomputable def S0:Tab:=fun _=>none
noncomputable def QF0:FuncId→Bool:=fun _=>false
theorem G0:aPG S0 QF0:=Good.start D6v (by kernel_rfl)
theorem Runs.ofI2 {D V A:Type} {step:D→RT D} (pk:V→D) {ss:V→V ⊕ A} {ct:A→CT} {fa:A} (h:(∀ v,(step (pk v)).val=A6D pk ct (ss v))∧∀ a,CEnd D (ct a)) (hf:(ct fa).val (D:=D)=.fail) (v:V):(ct (itX ss fa v)).val (D:=D)=.fail∨Runs step (pk v) (ct (itX ss fa v)).val:=Runs.ofIt pk hf h.1 h.2 v
theorem L8 {α β:Type} (e:α→β) {c q r:Bool} {X Y:Option β} {a b:α} (hq:cond c q r=true) (hx:q=true→X=some (e a)) (hy:r=true→Y=some (e b)):cond c X Y=some (e (cond c a b)):=A7E (F:=fun r=>some (e r)) hq hx hy
theorem Q2 {α β:Type} (e:α→β) {c:Bool} {X Y:Option β} {a b:α} (hx:c=true→X=some (e a)) (hy:c=false→Y=some (e b)):cond c X Y=some (e (cond c a b)):=cnd (F:=fun r=>some (e r)) hx hy
theorem hlz {L:Nat→St→Option Tree} {b:Nat} {x:Code} (h:D4 b x=[]:=by kernel_rfl):∀ p∈D4 b x,aPL (L p.1) p.2:=hl0 h
theorem cbl {f : FuncId} (F : Func) (h1 : Try.prog.funcs[f]? = some F := by kernel_rfl) (h2 : (F.name == "runtime.NumGoroutine") = false := by kernel_rfl) (h3 : F.body.isNone = false := by kernel_rfl) : Callable Try.prog f := ⟨F, h1, h2, h3⟩
theorem pcD (ro:Bool) {TB:TT} {S:Tab} {Q:FuncId→Bool} (G:Good Try.prog TB S Q) {f:FuncId} {fn:Func} {L:Nat→St→Option Tree} (hL:∀ p∈D4 0 (A1l fn),aPL (L p.1) p.2) {l:List PSh} {pre:H7 l→Bool} {g:H7 l→AV×List AObj} (h:A7C ro G L fn l pre g) (hf:Try.prog.funcs[f]? = some fn:=by kernel_rfl):aPP f (A22 l pre g):=PContract.of_data ro G hf hL l pre g h
theorem mcM {TB:TT} {S:Tab} {Q:FuncId→Bool} (G:Good Try.prog TB S Q) {f:FuncId} {fn:Func} {L:Nat→St→Option Tree} (hL:∀ p∈D4 0 (A1l fn),aPL (L p.1) p.2) {s:SS} {pre:s.den→Bool} {g:s.den→AV×List AObj×List Nat} (h:A7B G L fn s pre g) (hf:Try.prog.funcs[f]? = some fn:=by kernel_rfl):aPM f (msum s pre g):=MContract.of_data G hf hL s pre g h
theorem mcE (mr:Bool) (dl:List AV) (kx:List Nat) (nb:List (Nat×Nat×Nat×TypeId×Ty)) {TB:TT} {S:Tab} {Q:FuncId→Bool} (G:Good Try.prog TB S Q) {f:FuncId} {fn:Func} {L:Nat→St→Option Tree} (hL:∀ p∈D4 0 (A1l fn),aPL (L p.1) p.2) {s:SS} {pre:s.den→Bool} {g:s.den→AV×List AObj×List Nat} (h:A7A mr dl kx nb G L fn s pre g) (hf:Try.prog.funcs[f]? = some fn:=by kernel_rfl):aPM f (msum s pre g):=MContract.of_dataE mr dl kx nb G hf hL s pre g h
theorem D0A:∀ a b:List UInt8,(!(Op.bytesLess a b))=(Op.bytesLess b a||b==a):=by
 intro a
 induction a with
 | nil=>intro b;cases b<;>simp [Op.bytesLess]
 | cons x a ih =>
  intro b
  cases b with
  | nil=>simp [Op.bytesLess]
  | cons y b =>
   simp only [Op.bytesLess]
   by_cases h1:x<y
   ·have h2:¬ y<x:=fun h=>UInt8.lt_irrefl _ (UInt8.lt_trans h1 h)
    have h3:(y==x)=false:=by rw [beq_eq_false_iff_ne];intro h;subst h;exact h2 h1
    have h4:(y::b==x::a)=false:=by rw [List.cons_beq_cons,h3,Bool.false_and]
    simp [h1,h2,h3,h4]
   ·by_cases h5:x=y
    ·subst h5
     have h6:(x::b==x::a)=(b==a):=by rw [List.cons_beq_cons];simp
     have:=ih b
     simp only [h1,decide_false,Bool.false_or,beq_self_eq_true,Bool.true_and,h6,this]
    ·have h7 : y < x := by
      rcases Nat.lt_trichotomy x.toNat y.toNat with h | h | h
      ·exact absurd (UInt8.lt_iff_toNat_lt.2 h) h1
      ·exact absurd (UInt8.toNat_inj.1 h) h5
      ·exact UInt8.lt_iff_toNat_lt.2 h
     have h8:(x==y)=false:=by rw [beq_eq_false_iff_ne];exact h5
     simp [h1,h7,h8]
theorem C74 {p q:Nat→Bool}:∀ k i,(∀ j,i≤j→j<i+k→p j=q j)→A4H p k i=A4H q k i:=by
 intro k
 induction k with
 | zero=>intro i h;rfl
 | succ k ih=>intro i h;simp only [A4H];rw [h i (Nat.le_refl _) (by omega),ih (i+1) (fun j h1 h2=>h j (by omega) (by omega))]
theorem C5D {p:Nat→Bool} (k i:Nat) (h:∀ j,i≤j→j<i+k→p j=true):A4H p k i=true:=(A7c k i).2 h
theorem D1W {f:Nat→Int→Int} {Q:Nat→Prop} {M:Int}:∀ (k i:Nat) (b:Int),(∀ j b,i≤j→j<i+k→0≤b→b≤M→0≤f j b→Q j∧f j b≤b)→0≤b→b≤M→A7x (szN f k i b)=true →
  (∀ j,i≤j→j<i+k→Q j)∧0≤A7o (-1) (szN f k i b)∧A7o (-1) (szN f k i b)≤b:=by
 intro k
 induction k with
 | zero=>intro i b hf h1 h2 h3;exact ⟨fun j hj hk=>by omega,h1,Int.le_refl _⟩
 | succ k ih =>
  intro i b hf h1 h2 h3
  have e:szN f (k+1) i b=cond (decide (f i b<0)) (.inr ()) (szN f k (i+1) (f i b)):=by
   simp only [szN,loopN]
   cases decide (f i b<0)<;>rfl
  rw [e] at h3 ⊢
  cases hd:decide (f i b<0) with
  | true=>rw [hd] at h3;cases h3
  | false =>
   rw [hd] at h3
   simp only [cond_false] at h3 ⊢
   have h0:0≤f i b:=by have:=of_decide_eq_false hd;omega
   obtain ⟨q1,q2⟩:=hf i b (Nat.le_refl _) (by omega) h1 h2 h0
   obtain ⟨r1,r2,r3⟩:=ih (i+1) (f i b) (fun j b hj hk=>hf j b (by omega) (by omega)) h0 (by omega) h3
   refine ⟨fun j hj hk=>?_,r2,by omega⟩
   by_cases ej:j=i
   ·exact ej ▸ q1
   ·exact r1 j (by omega) (by omega)
noncomputable def dOp:Int×ByteArray×ByteArray:=((0:Int),(bE,bE))
noncomputable def D7t (o:Int×ByteArray×ByteArray):Bool:=okS o.2.1&&okS o.2.2
noncomputable def A7I (l:Lq2):Bool:=okL l&&l.all D7t
theorem D2S {l:Lq2} (h:A7I l=true) (i:Nat) (hi:i<l.length):okS (l.getD i dOp).2.1=true∧okS (l.getD i dOp).2.2=true:=by
 simp only [A7I,Bool.and_eq_true,List.all_eq_true] at h
 have:=h.2 (l.getD i dOp) (by simp [List.getD_eq_getElem?_getD,hi])
 simpa [D7t] using this
theorem A8e {l:Lq2} (h:A7I l=true):l.length≤1048576:=by
 simp only [A7I,Bool.and_eq_true] at h
 exact A7q h.1
noncomputable def C4l (s:ByteArray):Bool:=decide (s.size≤9223372036854775807)
noncomputable def B5Q (l:Lq2):Bool:=decide (l.length≤9223372036854775807)&&l.all (fun o=>C4l o.2.1&&C4l o.2.2)
theorem C98 {l:Lq2} (h:B5Q l=true) (i:Nat) (hi:i<l.length):C4l (l.getD i dOp).2.1=true∧C4l (l.getD i dOp).2.2=true:=by
 simp only [B5Q,Bool.and_eq_true,List.all_eq_true] at h
 exact h.2 (l.getD i dOp) (by simp [List.getD_eq_getElem?_getD,hi])
theorem D6i {l:Lq2} (h1:l.length≤1048576) (h2:∀ i,i<l.length→okS (l.getD i dOp).2.1=true∧okS (l.getD i dOp).2.2=true):A7I l=true:=by
 simp only [A7I,okL,Bool.and_eq_true,decide_eq_true_eq,List.all_eq_true]
 refine ⟨h1,fun o ho=>?_⟩
 obtain ⟨i,hi,rfl⟩:=List.getElem_of_mem ho
 have:=h2 i hi
 simp only [List.getD_eq_getElem?_getD,List.getElem?_eq_getElem hi,Option.getD_some] at this
 simp [D7t,this.1,this.2]
theorem C76 (a b:ByteArray):(a.toList==b.toList)=decide (a=b):=by
 rw [ByteArray.toList_eq,ByteArray.toList_eq]
 by_cases h:a=b
 ·subst h;simp
 ·rw [decide_eq_false h,beq_eq_false_iff_ne]
  intro e
  exact h (by cases a;cases b;simp at e;rw [e])
theorem D3J {l:Lq2} (h:B5Q l=true):l.length≤9223372036854775807:=by
 simp only [B5Q,Bool.and_eq_true,decide_eq_true_eq] at h;exact h.1
theorem D0k {l:Lq2} (h:A7I l=true):okL l=true:=by
 simp only [A7I,Bool.and_eq_true] at h;exact h.1
theorem D4O {l:Lq2} (h:A2N tq4 l=true):B5Q l=true:=by
 have h:(decide (l.length≤maxLen)&&l.all fun o=>(Lit.int .i64 o.1).wf&&(decide (o.2.1.size≤maxLen)&&decide (o.2.2.size≤maxLen)))=true:=h
 have hm:maxLen=9223372036854775807:=by decide
 rw [hm] at h
 simp only [Bool.and_eq_true,decide_eq_true_eq,List.all_eq_true] at h
 simp only [B5Q,C4l,Bool.and_eq_true,decide_eq_true_eq,List.all_eq_true]
 exact ⟨h.1,fun o ho=>(h.2 o ho).2⟩
noncomputable def D0M (x:Int):ByteArray:=(⟨([IntKind.wrap .u8 (wI ((48:Int)+(Int.tmod x (10:Int))))].map fun n=>UInt8.ofNat n.toNat).toArray⟩:ByteArray)
theorem C5G (x:Int):(D0M x).size=1:=rfl
noncomputable def C5B:Nat→Int→ByteArray→ByteArray
 | 0,_,s=>s
 | k+1,x,s=>cond (decide (x > 0)) (C5B k (wI (Int.tdiv x (10:Int))) (D0M x++s)) s
theorem D6w:∀ (k:Nat) (x:Int) (s:ByteArray),(C5B k x s).size≤k+s.size:=by
 intro k
 induction k with
 | zero=>intro x s;simp [C5B]
 | succ k ih =>
  intro x s
  simp only [C5B]
  cases decide (x > 0) with
  | true =>
   have:=ih (wI (Int.tdiv x (10:Int))) (D0M x++s)
   rw [ByteArray.size_append,C5G] at this
   simp only [cond_true];omega
  | false=>simp only [cond_false];omega
abbrev C4e:List PSh:=[.agg [(.int .i64),.str,.str],.t (.int .i64)]
noncomputable def D0i (a0:Int) (a1 a2:ByteArray) (a3:Int):Int:=let z2:=wI (a3 - (a1.size:Int));let z1:=wI (z2 - (a2.size:Int));(cond (decide (z2<(0:Int))) (-1:Int) (cond (decide (z1<(0:Int))) (-1:Int) z1))
noncomputable abbrev C2c (r:Int):AV×List AObj:=((ti r),[])
noncomputable abbrev D0R:H7 C4e→AV×List AObj:=fun d=>C2c (D0i d.1.1 d.1.2.1 d.1.2.2.1 d.2.1)
noncomputable abbrev C58:H7 C4e→Bool:=fun d=>true
theorem D5l:A7C true G0 aLn Try.f144 C4e C58 D0R:=by
 rintro ⟨⟨a0,⟨a1,⟨a2,_⟩⟩⟩,⟨a3,_⟩⟩ hp
 refine Eq.trans (b:=(let z2:=wI (a3 - (a1.size:Int));let z1:=wI (z2 - (a2.size:Int));cond (decide (z2<(0:Int))) (some (C2c (-1:Int))) (cond (decide (z1<(0:Int))) (some (C2c (-1:Int))) (some (C2c z1))))) (by kernel_rfl) ?_
 exact (Q2 C2c (fun _h=>rfl) (fun _h=>(Q2 C2c (fun _h=>rfl) (fun _h=>rfl))))
theorem D6G:aPP 144 (A22 C4e C58 D0R):=pcD true G0 hlz D5l
noncomputable def S1:Tab:=Tab.add S0 144 (lift (A22 C4e C58 D0R))
noncomputable def QF1:FuncId→Bool:=qadd QF0 144
theorem G1:aPG S1 QF1:=G0.addQ D6G (cbl Try.f144) (fun _=>rfl)

abbrev C7i:List Sh:=.junk::.junk::.junk::.junk::.junk::.junk::.junk::.junk::.junk::.junk::.junk::.junk::.junk::.junk::.junk::.junk::.junk::.junk::.junk::.junk::.junk::[]
abbrev D02:List Sh:=.junk::C7i
abbrev C8B:List Sh:=.junk::.junk::.junk::D02
abbrev u23:=((),(),(),(),(),(),(),(),(),(),(),(),(),(),(),(),(),(),(),(),(),(),())
abbrev u22:=((),(),(),(),(),(),(),(),(),(),(),(),(),(),(),(),(),(),(),(),(),())
abbrev u26:=((),(),(),u23)
noncomputable def W4 (x0:Lq2) (i:Nat) (b:Int):Int:=(D0i ((x0.getD i ((0:Int),(bE,bE))).1) (((x0.getD i ((0:Int),(bE,bE))).2).1) (((x0.getD i ((0:Int),(bE,bE))).2).2) b)
abbrev C0v:List PSh:=[.t tq4,.t (.int .i64)]
abbrev B1y:SS:=⟨(.t false tq4::tI::.junk::.junk::.junk::tI::C7i),[]⟩
abbrev B4W:SS:=⟨(.junk::.junk::.junk::.junk::tI::D02),[]⟩
abbrev B8y:SS:=⟨(.junk::tI::C8B),[]⟩
noncomputable def C11 (x0:Lq2) (x1 x5:Int):RT B1y.den:=let z1:=x0.getD x5.toNat ((0:Int),(bE,bE));let z2:=D0i (z1.1) ((z1.2).1) ((z1.2).2) x1;(.br (decide (x5<(x0.length:Int))) (.br (decide (0≤x5∧x5<(x0.length:Int))) (.br (decide (z2<(0:Int))) (.done .ret B4W (((),(),(),(),(-1:Int),u23),())) (.next ((x0,z2,(),(),(),wI (x5+(1:Int)),u22),()))) .fail) (.done (.exit 0) B8y (((),x1,u26),())))
noncomputable def B5L (x0:Lq2) (x1 x5:Int):CT:=(.br (decide (0≤x5)&&okL x0) (.br (A7x (szN (W4 x0) (x0.length - x5.toNat) x5.toNat x1)) (.done (.exit 0) B8y (((),(A7o (-1) (szN (W4 x0) (x0.length - x5.toNat) x5.toNat x1)),u26),())) (.done .ret B4W (((),(),(),(),(-1:Int),u23),()))) .fail)
noncomputable abbrev B0w:B1y.den→RT B1y.den:=(fun d=>C11 d.1.1 d.1.2.1 d.1.2.2.2.2.2.1)
noncomputable abbrev B60 (x0:Lq2) (x1 x5:Int):B1y.den:=((x0,x1,(),(),(),x5,u22),())
noncomputable def C2M:Code:=((D4 0 (A1l Try.f135)).getD 0 (0,.skip)).2
theorem D3x (x0:Lq2) (x1 x5:Int):(B5L x0 x1 x5).val (D:=B1y.den)=.fail∨Runs B0w (B60 x0 x1 x5) (B5L x0 x1 x5).val:=by
 cases hc:(decide (0≤x5)&&okL x0) with
 | false=>left;simp only [B5L,CT.val,hc,cond_false]
 | true =>
  right
  simp only [B5L,CT.val,hc,cond_true]
  simp only [Bool.and_eq_true,decide_eq_true_eq] at hc
  obtain ⟨i,rfl⟩:=Int.eq_ofNat_of_zero_le hc.1
  have hs:=A7q hc.2
  simp only [Int.toNat_natCast]
  have h:=Runs.loopN (step:=B0w) (fun j b=>B60 x0 b (j:Int)) (fun _ _=>True) (x0.length) (fun i b=>cond (decide (W4 x0 i b<0)) (.inr ()) (.inl (W4 x0 i b)))
   (fin:=fun b=>((.done (.exit 0) B8y (((),b,u26),())):CT).val) (bad:=fun _=>((.done .ret B4W (((),(),(),(),(-1:Int),u23),())):CT).val)
   (fun i b hi _=>?_) (fun i b hi _=>?_) (x0.length - i) i x1 rfl trivial
  ·simp only [szN]
   revert h
   cases loopN (fun i b=>cond (decide (W4 x0 i b<0)) (.inr ()) (.inl (W4 x0 i b))) (x0.length - i) i x1 with
   | inl b=>exact id
   | inr c=>exact id
  ·
   have h0a:decide ((i:Int)<(x0.length:Int))=true:=decide_eq_true (by omega)
   have h0b:decide (0≤(i:Int)∧(i:Int)<(x0.length:Int))=true:=decide_eq_true (by omega)
   have e:(B0w (B60 x0 b (i:Int))).val=cond (decide (W4 x0 i b<0)) ((.done .ret B4W (((),(),(),(),(-1:Int),u23),())):CT).val (.next (B60 x0 (W4 x0 i b) ((i+1:Nat):Int))):=by
    simp only [B0w,C11,RT.val,h0a,h0b,cond_true,A7y i (by omega),Int.toNat_natCast]
    rfl
   cases hr:decide (W4 x0 i b<0) with
   | true=>exact .inr ⟨(),_,_,_,rfl,by rw [e,hr];rfl,rfl,by simp⟩
   | false=>exact .inl ⟨_,rfl,trivial,by rw [e,hr];rfl⟩
  ·have h1:decide ((i:Int)<(x0.length:Int))=false:=decide_eq_false (by omega)
   exact ⟨by simp only [B0w,C11,RT.val,h1,cond_false];rfl,_,_,_,rfl,by simp⟩
theorem D1j:RdA G1 aLn 0 C2M B1y 0 [] (kepts [4] [(0,[1])]) (fun d=>(B0w d).opt 0 []):=by
 intro d
 kernel_rfl
noncomputable abbrev C5j:St→Option Tree:=B1y.say 0 [] [] (fun d=>B5L d.1.1 d.1.2.1 d.1.2.2.2.2.2.1)
theorem D2L:aPL C5j C2M:=SS.wp2 hlz [] B0w D1j (fun d=>rfl) _ (fun d=>D3x d.1.1 d.1.2.1 d.1.2.2.2.2.2.1)
noncomputable def B1H (a0:Lq2) (a1:Int):Int:=let z2:=wI (a1 - (a0.length:Int));let z1:=szN (W4 a0) (a0.length - (0:Int).toNat) (0:Int).toNat z2;(cond (decide (z2<(0:Int))) (-1:Int) (cond (A7x z1) (A7o (-1) z1) (-1:Int)))
noncomputable abbrev B7Z (r:Int):AV×List AObj:=((ti r),[])
noncomputable abbrev C8n:H7 C0v→AV×List AObj:=fun d=>B7Z (B1H d.1 d.2.1)
noncomputable def C1F (a0:Lq2) (a1:Int):Bool:=decide (0≤a1∧a1≤1048576∧a0.length≤9223372036854775807)
noncomputable abbrev C3F:H7 C0v→Bool:=fun d=>C1F d.1 d.2.1
noncomputable abbrev D5z:Nat→St→Option Tree:=fun b=>match b with | 0=>C5j | _=>fun _=>none
theorem D4k:A7C true G1 (D5z) Try.f135 C0v C3F C8n:=by
 rintro ⟨a0,⟨a1,_⟩⟩ hp
 change C1F a0 a1=true at hp
 unfold C1F at hp
 refine Eq.trans (b:=(let z2:=wI (a1 - (a0.length:Int));let z1:=szN (W4 a0) (a0.length - (0:Int).toNat) (0:Int).toNat z2;cond (decide (z2<(0:Int))) (some (B7Z (-1:Int))) (cond (decide (0≤(0:Int))&&okL a0) (cond (A7x z1) (some (B7Z (A7o (-1) z1))) (some (B7Z (-1:Int)))) none))) (by kernel_rfl) ?_
 exact (Q2 B7Z (fun _h=>rfl) (fun _h=>(A7F (by simp only [decide_eq_true_eq,decide_eq_false_iff_not] at hp _h;have hw:=A6J (n:=a1 - (a0.length:Int)) (by omega) (by omega);rw [hw] at _h;simp [okL];omega) (fun _h=>(Q2 B7Z (fun _h=>rfl) (fun _h=>rfl))))))
theorem D5Q:aPP 135 (A22 C0v C3F C8n):=pcD true G1 (hl1 (i:=0) (by kernel_rfl) D2L) D4k
noncomputable def S2:Tab:=Tab.add S1 135 (lift (A22 C0v C3F C8n))
noncomputable def QF2:FuncId→Bool:=qadd QF1 135
theorem G2:aPG S2 QF2:=G1.addQ D5Q (cbl Try.f135) (fun _=>rfl)

abbrev C0w:List PSh:=[.agg [(.int .i64),(.int .i64),tq4],.t (.int .i64)]
noncomputable def B7j (a0 a1:Int) (a2:Lq2) (a3:Int):Int:=(cond (decide ((B1H a2 a3)<(0:Int))) (-1:Int) (B1H a2 a3))
noncomputable abbrev C4v (r:Int):AV×List AObj:=((ti r),[])
noncomputable abbrev C8o:H7 C0w→AV×List AObj:=fun d=>C4v (B7j d.1.1 d.1.2.1 d.1.2.2.1 d.2.1)
noncomputable def B8g (a0 a1:Int) (a2:Lq2) (a3:Int):Bool:=decide (0≤a3∧a3≤1048576∧a2.length≤9223372036854775807)
noncomputable abbrev C3G:H7 C0w→Bool:=fun d=>B8g d.1.1 d.1.2.1 d.1.2.2.1 d.2.1
theorem D4l:A7C true G2 aLn Try.f108 C0w C3G C8o:=by
 rintro ⟨⟨a0,⟨a1,⟨a2,_⟩⟩⟩,⟨a3,_⟩⟩ hp
 change B8g a0 a1 a2 a3=true at hp
 unfold B8g at hp
 refine Eq.trans (b:=(cond (C1F a2 a3) (cond (decide ((B1H a2 a3)<(0:Int))) (some (C4v (-1:Int))) (some (C4v (B1H a2 a3)))) none)) (by kernel_rfl) ?_
 exact (A7F (by first | rfl | decide | exact hp | (simp only [Bool.and_eq_true] at hp;simp only [hp];done) | (simp [*];done) | (simp [okL] at hp;simp [okL,MAXB];omega) | (simp_all;done) | (simp at *;omega)) (fun _h=>(Q2 C4v (fun _h=>rfl) (fun _h=>rfl))))
theorem D5R:aPP 108 (A22 C0w C3G C8o):=pcD true G2 hlz D4l
noncomputable def S3:Tab:=Tab.add S2 108 (lift (A22 C0w C3G C8o))
noncomputable def QF3:FuncId→Bool:=qadd QF2 108
theorem G3:aPG S3 QF3:=G2.addQ D5R (cbl Try.f108) (fun _=>rfl)

abbrev tq3:Ty:=.sl (.pair (.int .i64) (.pair (.int .i64) (.sl (.pair (.int .i64) (.pair .str .str)))))
abbrev Lq1:=List (Int×Int×List (Int×ByteArray×ByteArray))
abbrev B7L:List PSh:=[.t tq3,.t (.int .i64)]
abbrev A9W:SS:=⟨(.t false tq3::tI::.junk::.junk::.junk::tI::C7i),[]⟩
abbrev C2z:SS:=⟨(.junk::.junk::.junk::.junk::tI::D02),[]⟩
abbrev C2A:SS:=⟨(.junk::tI::C8B),[]⟩
noncomputable def C5v (x0:Lq1) (x1 x5:Int):RT A9W.den:=let z1:=x0.getD x5.toNat ((0:Int),((0:Int),[]));let z2:=B7j (z1.1) ((z1.2).1) ((z1.2).2) x1;(.br (decide (x5<(x0.length:Int))) (.br (decide (0≤x5∧x5<(x0.length:Int))) (.br (B8g (z1.1) ((z1.2).1) ((z1.2).2) x1) (.br (decide (z2<(0:Int))) (.done .ret C2z (((),(),(),(),(-1:Int),u23),())) (.next ((x0,z2,(),(),(),wI (x5+(1:Int)),u22),()))) .fail) .fail) (.done (.exit 0) C2A (((),x1,u26),())))
abbrev B34:=(Lq1)×(Int)×(Int)
abbrev B1Q:=Nat×(Int)×(Int)
def B8Q:B1Q:=(99,((0:Int):Int),((0:Int):Int))
noncomputable def B0S (x0:Lq1) (x1 x5:Int):B34 ⊕ B1Q:=let z1:=x0.getD x5.toNat ((0:Int),((0:Int),[]));let z2:=B7j (z1.1) ((z1.2).1) ((z1.2).2) x1;(cond (decide (x5<(x0.length:Int))) (cond (decide (0≤x5∧x5<(x0.length:Int))) (cond (B8g (z1.1) ((z1.2).1) ((z1.2).2) x1) (cond (decide (z2<(0:Int))) (.inr (0,(-1:Int),((0:Int):Int))) (.inl (x0,z2,wI (x5+(1:Int))))) (.inr B8Q)) (.inr B8Q)) (.inr (1,((0:Int):Int),x1)))
noncomputable def A8p (x0:Lq1) (x1 x5:Int):B1Q:=itX (fun v:B34=>B0S v.1 v.2.1 v.2.2) B8Q (x0,x1,x5)
noncomputable def B8G (a:B1Q):CT:=(.br (a.1==0) (.done .ret C2z (((),(),(),(),a.2.1,u23),())) (.br (a.1==1) (.done (.exit 0) C2A (((),a.2.2,u26),())) .fail))
noncomputable def D16 (x0:Lq1) (x1 x5:Int):CT:=B8G (A8p x0 x1 x5)
noncomputable abbrev B9y:A9W.den→RT A9W.den:=(fun d=>C5v d.1.1 d.1.2.1 d.1.2.2.2.2.2.1)
noncomputable def C0K:Code:=((D4 0 (A1l Try.f67)).getD 0 (0,.skip)).2
noncomputable abbrev C4V (v:B34):A9W.den:=((v.1,v.2.1,(),(),(),v.2.2,u22),())
theorem D1z:(∀ v:B34,(C5v v.1 v.2.1 v.2.2).val=A6D C4V B8G (B0S v.1 v.2.1 v.2.2))∧∀ a:B1Q,CEnd A9W.den (B8G a):=⟨fun v=>(A7H (A7H (A7H (A7H rfl rfl) rfl) rfl) rfl),fun a=>(A7u aCD (A7u aCD A7w))⟩
theorem C9P:RdA G3 aLn 0 C0K A9W 0 [] (kepts [4] [(0,[1])]) (fun d=>(B9y d).opt 0 []):=by
 intro d
 kernel_rfl
noncomputable abbrev C29:St→Option Tree:=A9W.say 0 [] [] (fun d=>D16 d.1.1 d.1.2.1 d.1.2.2.2.2.2.1)
theorem D07:aPL C29 C0K:=SS.wp2 hlz [] B9y C9P (fun d=>rfl) _ (fun d=>Runs.ofI2 (step:=B9y) C4V D1z rfl (d.1.1,d.1.2.1,d.1.2.2.2.2.2.1))
noncomputable def Z5 (a0:Lq1) (a1:Int):Int:=let z2:=wI (a1 - (a0.length:Int));let z1:=A8p a0 z2 (0:Int);(cond (decide (z2<(0:Int))) (-1:Int) (cond (z1.1==0) (z1.2.1) (z1.2.2)))
noncomputable abbrev B5o (r:Int):AV×List AObj:=((ti r),[])
noncomputable abbrev C5O:H7 B7L→AV×List AObj:=fun d=>B5o (Z5 d.1 d.2.1)
noncomputable def B0L (a0:Lq1) (a1:Int):Bool:=let z1:=wI (a1 - (a0.length:Int));let z2:=A8p a0 z1 (0:Int);cond (decide (z1<(0:Int))) true (cond (z2.1==0) true (z2.1==1))
noncomputable abbrev C1r:H7 B7L→Bool:=fun d=>B0L d.1 d.2.1
noncomputable abbrev D4H:Nat→St→Option Tree:=fun b=>match b with | 0=>C29 | _=>fun _=>none
theorem D3b:A7C true G3 (D4H) Try.f67 B7L C1r C5O:=by
 rintro ⟨a0,⟨a1,_⟩⟩ hp
 change B0L a0 a1=true at hp
 unfold B0L at hp
 refine Eq.trans (b:=(let z2:=wI (a1 - (a0.length:Int));let z1:=A8p a0 z2 (0:Int);cond (decide (z2<(0:Int))) (some (B5o (-1:Int))) (cond (z1.1==0) (some (B5o (z1.2.1))) (cond (z1.1==1) (some (B5o (z1.2.2))) none)))) (by kernel_rfl) ?_
 exact (L8 B5o hp (fun hp=>rfl) (fun hp=>(L8 B5o hp (fun hp=>rfl) (fun hp=>(A7F hp fun _h=>rfl)))))
theorem D4X:aPP 67 (A22 B7L C1r C5O):=pcD true G3 (hl1 (i:=0) (by kernel_rfl) D07) D3b
noncomputable def S4:Tab:=Tab.add S3 67 (lift (A22 B7L C1r C5O))
noncomputable def QF4:FuncId→Bool:=qadd QF3 67
theorem G4:aPG S4 QF4:=G3.addQ D4X (cbl Try.f67) (fun _=>rfl)

abbrev B7K:List PSh:=[.agg [.str,.str],.t (.int .i64)]
noncomputable def C2o (a0 a1:ByteArray) (a2:Int):Int:=let z2:=wI (a2 - (a0.size:Int));let z1:=wI (z2 - (a1.size:Int));(cond (decide (z2<(0:Int))) (-1:Int) (cond (decide (z1<(0:Int))) (-1:Int) z1))
noncomputable abbrev B70 (r:Int):AV×List AObj:=((ti r),[])
noncomputable abbrev C5N:H7 B7K→AV×List AObj:=fun d=>B70 (C2o d.1.1 d.1.2.1 d.2.1)
noncomputable abbrev C1q:H7 B7K→Bool:=fun d=>true
theorem D3a:A7C true G4 aLn Try.f109 B7K C1q C5N:=by
 rintro ⟨⟨a0,⟨a1,_⟩⟩,⟨a2,_⟩⟩ hp
 refine Eq.trans (b:=(let z2:=wI (a2 - (a0.size:Int));let z1:=wI (z2 - (a1.size:Int));let z3:=B70 (-1:Int);cond (decide (z2<(0:Int))) (some z3) (cond (decide (z1<(0:Int))) (some z3) (some (B70 z1))))) (by kernel_rfl) ?_
 exact (Q2 B70 (fun _h=>rfl) (fun _h=>(Q2 B70 (fun _h=>rfl) (fun _h=>rfl))))
theorem D4W:aPP 109 (A22 B7K C1q C5N):=pcD true G4 hlz D3a
noncomputable def S5:Tab:=Tab.add S4 109 (lift (A22 B7K C1q C5N))
noncomputable def QF5:FuncId→Bool:=qadd QF4 109
theorem G5:aPG S5 QF5:=G4.addQ D4W (cbl Try.f109) (fun _=>rfl)

abbrev LBBe:=List (ByteArray×ByteArray)
abbrev tq6:Ty:=.sl (.pair .str .str)
noncomputable def Q9 (x0:LBBe) (i:Nat) (b:Int):Int:=(C2o ((x0.getD i (bE,bE)).1) ((x0.getD i (bE,bE)).2) b)
abbrev B5E:List PSh:=[.t tq6,.t (.int .i64)]
abbrev A88:SS:=⟨(.t false tq6::tI::.junk::.junk::.junk::tI::C7i),[]⟩
abbrev B2e:SS:=⟨(.junk::.junk::.junk::.junk::tI::D02),[]⟩
abbrev B5u:SS:=⟨(.junk::tI::C8B),[]⟩
noncomputable def B7t (x0:LBBe) (x1 x5:Int):RT A88.den:=let z2:=x0.getD x5.toNat (bE,bE);let z1:=C2o (z2.1) (z2.2) x1;(.br (decide (x5<(x0.length:Int))) (.br (decide (0≤x5∧x5<(x0.length:Int))) (.br (decide (z1<(0:Int))) (.done .ret B2e (((),(),(),(),(-1:Int),u23),())) (.next ((x0,z1,(),(),(),wI (x5+(1:Int)),u22),()))) .fail) (.done (.exit 0) B5u (((),x1,u26),())))
noncomputable def B2t (x0:LBBe) (x1 x5:Int):CT:=(.br (decide (0≤x5)&&okL x0) (.br (A7x (szN (Q9 x0) (x0.length - x5.toNat) x5.toNat x1)) (.done (.exit 0) B5u (((),(A7o (-1) (szN (Q9 x0) (x0.length - x5.toNat) x5.toNat x1)),u26),())) (.done .ret B2e (((),(),(),(),(-1:Int),u23),()))) .fail)
noncomputable abbrev A8C:A88.den→RT A88.den:=(fun d=>B7t d.1.1 d.1.2.1 d.1.2.2.2.2.2.1)
noncomputable abbrev B3V (x0:LBBe) (x1 x5:Int):A88.den:=((x0,x1,(),(),(),x5,u22),())
noncomputable def B9R:Code:=((D4 0 (A1l Try.f68)).getD 0 (0,.skip)).2
theorem D0y (x0:LBBe) (x1 x5:Int):(B2t x0 x1 x5).val (D:=A88.den)=.fail∨Runs A8C (B3V x0 x1 x5) (B2t x0 x1 x5).val:=by
 cases hc:(decide (0≤x5)&&okL x0) with
 | false=>left;simp only [B2t,CT.val,hc,cond_false]
 | true =>
  right
  simp only [B2t,CT.val,hc,cond_true]
  simp only [Bool.and_eq_true,decide_eq_true_eq] at hc
  obtain ⟨i,rfl⟩:=Int.eq_ofNat_of_zero_le hc.1
  have hs:=A7q hc.2
  simp only [Int.toNat_natCast]
  have h:=Runs.loopN (step:=A8C) (fun j b=>B3V x0 b (j:Int)) (fun _ _=>True) (x0.length) (fun i b=>cond (decide (Q9 x0 i b<0)) (.inr ()) (.inl (Q9 x0 i b)))
   (fin:=fun b=>((.done (.exit 0) B5u (((),b,u26),())):CT).val) (bad:=fun _=>((.done .ret B2e (((),(),(),(),(-1:Int),u23),())):CT).val)
   (fun i b hi _=>?_) (fun i b hi _=>?_) (x0.length - i) i x1 rfl trivial
  ·simp only [szN]
   revert h
   cases loopN (fun i b=>cond (decide (Q9 x0 i b<0)) (.inr ()) (.inl (Q9 x0 i b))) (x0.length - i) i x1 with
   | inl b=>exact id
   | inr c=>exact id
  ·
   have h0a:decide ((i:Int)<(x0.length:Int))=true:=decide_eq_true (by omega)
   have h0b:decide (0≤(i:Int)∧(i:Int)<(x0.length:Int))=true:=decide_eq_true (by omega)
   have e:(A8C (B3V x0 b (i:Int))).val=cond (decide (Q9 x0 i b<0)) ((.done .ret B2e (((),(),(),(),(-1:Int),u23),())):CT).val (.next (B3V x0 (Q9 x0 i b) ((i+1:Nat):Int))):=by
    simp only [A8C,B7t,RT.val,h0a,h0b,cond_true,A7y i (by omega),Int.toNat_natCast]
    rfl
   cases hr:decide (Q9 x0 i b<0) with
   | true=>exact .inr ⟨(),_,_,_,rfl,by rw [e,hr];rfl,rfl,by simp⟩
   | false=>exact .inl ⟨_,rfl,trivial,by rw [e,hr];rfl⟩
  ·have h1:decide ((i:Int)<(x0.length:Int))=false:=decide_eq_false (by omega)
   exact ⟨by simp only [A8C,B7t,RT.val,h1,cond_false];rfl,_,_,_,rfl,by simp⟩
theorem C8W:RdA G5 aLn 0 B9R A88 0 [] (kepts [4] [(0,[1])]) (fun d=>(A8C d).opt 0 []):=by
 intro d
 kernel_rfl
noncomputable abbrev C1O:St→Option Tree:=A88.say 0 [] [] (fun d=>B2t d.1.1 d.1.2.1 d.1.2.2.2.2.2.1)
theorem C9K:aPL C1O B9R:=SS.wp2 hlz [] A8C C8W (fun d=>rfl) _ (fun d=>D0y d.1.1 d.1.2.1 d.1.2.2.2.2.2.1)
noncomputable def B0m (a0:LBBe) (a1:Int):Int:=let z2:=wI (a1 - (a0.length:Int));let z1:=szN (Q9 a0) (a0.length - (0:Int).toNat) (0:Int).toNat z2;(cond (decide (z2<(0:Int))) (-1:Int) (cond (A7x z1) (A7o (-1) z1) (-1:Int)))
noncomputable abbrev B53 (r:Int):AV×List AObj:=((ti r),[])
noncomputable abbrev C3q:H7 B5E→AV×List AObj:=fun d=>B53 (B0m d.1 d.2.1)
noncomputable def B3A (a0:LBBe) (a1:Int):Bool:=decide (0≤a1∧a1≤1048576∧a0.length≤9223372036854775807)
noncomputable abbrev B9i:H7 B5E→Bool:=fun d=>B3A d.1 d.2.1
noncomputable abbrev D3t:Nat→St→Option Tree:=fun b=>match b with | 0=>C1O | _=>fun _=>none
theorem D1M:A7C true G5 (D3t) Try.f68 B5E B9i C3q:=by
 rintro ⟨a0,⟨a1,_⟩⟩ hp
 change B3A a0 a1=true at hp
 unfold B3A at hp
 refine Eq.trans (b:=(let z2:=wI (a1 - (a0.length:Int));let z1:=szN (Q9 a0) (a0.length - (0:Int).toNat) (0:Int).toNat z2;let z3:=B53 (-1:Int);cond (decide (z2<(0:Int))) (some z3) (cond (decide (0≤(0:Int))&&okL a0) (cond (A7x z1) (some (B53 (A7o (-1) z1))) (some z3)) none))) (by kernel_rfl) ?_
 exact (Q2 B53 (fun _h=>rfl) (fun _h=>(A7F (by simp only [decide_eq_true_eq,decide_eq_false_iff_not] at hp _h;have hw:=A6J (n:=a1 - (a0.length:Int)) (by omega) (by omega);rw [hw] at _h;simp [okL];omega) (fun _h=>(Q2 B53 (fun _h=>rfl) (fun _h=>rfl))))))
theorem D3R:aPP 68 (A22 B5E B9i C3q):=pcD true G5 (hl1 (i:=0) (by kernel_rfl) C9K) D1M
noncomputable def S6:Tab:=Tab.add S5 68 (lift (A22 B5E B9i C3q))
noncomputable def QF6:FuncId→Bool:=qadd QF5 68
theorem G6:aPG S6 QF6:=G5.addQ D3R (cbl Try.f68) (fun _=>rfl)

abbrev B5F:List PSh:=[.agg [(.int .i64),tq3,(.int .i64),tq6,tq3],.t (.int .i64)]
noncomputable def B1g (a0:Int) (a1:Lq1) (a2:Int) (a3:LBBe) (a4:Lq1) (a5:Int):Int:=let z1:=B0m a3 (Z5 a1 a5);(cond (decide ((Z5 a1 a5)<(0:Int))) (-1:Int) (cond (decide (z1<(0:Int))) (-1:Int) (cond (decide ((Z5 a4 z1)<(0:Int))) (-1:Int) (Z5 a4 z1))))
noncomputable abbrev B3v (r:Int):AV×List AObj:=((ti r),[])
noncomputable abbrev C3r:H7 B5F→AV×List AObj:=fun d=>B3v (B1g d.1.1 d.1.2.1 d.1.2.2.1 d.1.2.2.2.1 d.1.2.2.2.2.1 d.2.1)
noncomputable def B1K (a0:Int) (a1:Lq1) (a2:Int) (a3:LBBe) (a4:Lq1) (a5:Int):Bool:=let z1:=Z5 a1 a5;(B0L a1 a5)&&(cond (decide (z1<(0:Int))) true ((B3A a3 z1)&&(cond (decide ((B0m a3 z1)<(0:Int))) true (B0L a4 (B0m a3 z1)))))
noncomputable abbrev B9j:H7 B5F→Bool:=fun d=>B1K d.1.1 d.1.2.1 d.1.2.2.1 d.1.2.2.2.1 d.1.2.2.2.2.1 d.2.1
theorem D1N:A7C true G6 aLn Try.f30 B5F B9j C3r:=by
 rintro ⟨⟨a0,⟨a1,⟨a2,⟨a3,⟨a4,_⟩⟩⟩⟩⟩,⟨a5,_⟩⟩ hp
 change B1K a0 a1 a2 a3 a4 a5=true at hp
 unfold B1K at hp
 refine Eq.trans (b:=(let z2:=B3v (-1:Int);let z3:=Z5 a1 a5;let z1:=B0m a3 z3;cond (B0L a1 a5) (cond (decide (z3<(0:Int))) (some z2) (cond (B3A a3 z3) (cond (decide (z1<(0:Int))) (some z2) (cond (B0L a4 z1) (cond (decide ((Z5 a4 z1)<(0:Int))) (some z2) (some (B3v (Z5 a4 z1)))) none)) none)) none)) (by kernel_rfl) ?_
 exact (A7D hp fun hp=>(L8 B3v hp (fun hp=>rfl) (fun hp=>(A7D hp fun hp=>(L8 B3v hp (fun hp=>rfl) (fun hp=>(A7F hp fun _h=>(Q2 B3v (fun _h=>rfl) (fun _h=>rfl)))))))))
theorem D3S:aPP 30 (A22 B5F B9j C3r):=pcD true G6 hlz D1N
noncomputable def S7:Tab:=Tab.add S6 30 (lift (A22 B5F B9j C3r))
noncomputable def QF7:FuncId→Bool:=qadd QF6 30
theorem G7:aPG S7 QF7:=G6.addQ D3S (cbl Try.f30) (fun _=>rfl)

abbrev C4f:List PSh:=[.agg [(.int .i64),.str,.str]]
noncomputable def C6H (a0:Int) (a1 a2:ByteArray):Int×ByteArray×ByteArray:=(a0,a1,a2)
noncomputable abbrev D6O (r:Int×ByteArray×ByteArray):AV×List AObj:=((.agg [(ti r.1),(.t true .str r.2.1),(.t true .str r.2.2)]),[])
noncomputable abbrev D0S:H7 C4f→AV×List AObj:=fun d=>D6O (C6H d.1.1 d.1.2.1 d.1.2.2.1)
noncomputable abbrev C59:H7 C4f→Bool:=fun d=>true
theorem D5m:A7C true G7 aLn Try.f145 C4f C59 D0S:=by
 rintro ⟨⟨a0,⟨a1,⟨a2,_⟩⟩⟩,_⟩ hp
 kernel_rfl
theorem D6H:aPP 145 (A22 C4f C59 D0S):=pcD true G7 hlz D5m
noncomputable def S8:Tab:=Tab.add S7 145 (lift (A22 C4f C59 D0S))
noncomputable def QF8:FuncId→Bool:=qadd QF7 145
theorem G8:aPG S8 QF8:=G7.addQ D6H (cbl Try.f145) (fun _=>rfl)

abbrev D2C:List Sh:=.junk::.junk::.junk::.junk::.junk::.junk::.junk::.junk::.junk::.junk::.junk::.junk::.junk::.junk::.junk::.junk::.junk::.junk::[]
abbrev tq8:Ty:=.pair (.int .i64) (.pair .str .str)
abbrev D5b:List Sh:=.junk::D2C
abbrev u19:=((),(),(),(),(),(),(),(),(),(),(),(),(),(),(),(),(),(),())
abbrev u24:=((),u23)
noncomputable def B8O (x0:Lq2) (i:Nat):Int×ByteArray×ByteArray:=(((C6H ((x0.getD i ((0:Int),(bE,bE))).1) (((x0.getD i ((0:Int),(bE,bE))).2).1) (((x0.getD i ((0:Int),(bE,bE))).2).2)).1),(((C6H ((x0.getD i ((0:Int),(bE,bE))).1) (((x0.getD i ((0:Int),(bE,bE))).2).1) (((x0.getD i ((0:Int),(bE,bE))).2).2)).2.1),((C6H ((x0.getD i ((0:Int),(bE,bE))).1) (((x0.getD i ((0:Int),(bE,bE))).2).1) (((x0.getD i ((0:Int),(bE,bE))).2).2)).2.2)))
abbrev C0x:List PSh:=[.t tq4]
abbrev B1z:SS:=⟨(.t false tq4::.junk::.junk::.all 0 3::tI::D2C),[.rows 85 true tq8]⟩
abbrev B8z:SS:=⟨(.junk::.junk::.junk::.all 0 3::D5b),[.rows 85 true tq8]⟩
noncomputable def C12 (x0:Lq2) (x4:Int) (h0:Lq2):RT B1z.den:=let z2:=x0.getD x4.toNat ((0:Int),(bE,bE));let z1:=C6H (z2.1) ((z2.2).1) ((z2.2).2);(.br (decide (x4<(x0.length:Int))) (.br (decide (0≤x4∧x4<(x0.length:Int))) (.br (decide (0≤x4∧x4<(h0.length:Int))) (.next ((x0,(),(),(),wI (x4+(1:Int)),u19),(h0.set x4.toNat ((z1.1),((z1.2.1),(z1.2.2))),()))) .fail) .fail) (.done (.exit 0) B8z ((u24),(h0,()))))
noncomputable def B5M (x0:Lq2) (x4:Int) (h0:Lq2):CT:=(.br (decide (0≤x4)&&(decide (h0.length=x0.length)&&okL x0)) (.done (.exit 0) B8z ((u24),((foldN (fun i h=>h.set i (B8O x0 i)) (x0.length - x4.toNat) x4.toNat h0),()))) .fail)
noncomputable abbrev B2a:B1z.den→RT B1z.den:=(fun d=>C12 d.1.1 d.1.2.2.2.2.1 d.2.1)
noncomputable abbrev C6V (x0:Lq2) (x4:Int) (h0:Lq2):B1z.den:=((x0,(),(),(),x4,u19),(h0,()))
noncomputable def C2N:Code:=((D4 0 (A1l Try.f136)).getD 0 (0,.skip)).2
theorem D3y (x0:Lq2) (x4:Int) (h0:Lq2):(B5M x0 x4 h0).val (D:=B1z.den)=.fail∨Runs B2a (C6V x0 x4 h0) (B5M x0 x4 h0).val:=by
 cases hc:(decide (0≤x4)&&(decide (h0.length=x0.length)&&okL x0)) with
 | false=>left;simp only [B5M,CT.val,hc,cond_false]
 | true =>
  right
  simp only [B5M,CT.val,hc,cond_true]
  simp only [Bool.and_eq_true,decide_eq_true_eq] at hc
  obtain ⟨i,rfl⟩:=Int.eq_ofNat_of_zero_le hc.1
  have hs:=A7q hc.2.2
  simp only [Int.toNat_natCast]
  refine Runs.foldN (step:=B2a) (fun j b=>C6V x0 (j:Int) b) (fun _ b=>b.length=x0.length) (x0.length) (fun i h=>h.set i (B8O x0 i))
   (fin:=fun b=>((.done (.exit 0) B8z ((u24),(b,()))):CT).val) (fun i b hi hb=>⟨by simpa using hb,?_⟩) (fun i b hi hb=>?_) (x0.length - i) i h0 rfl hc.2.1
  ·
   have h0a:decide ((i:Int)<(x0.length:Int))=true:=decide_eq_true (by omega)
   have h0b:decide (0≤(i:Int)∧(i:Int)<(x0.length:Int))=true:=decide_eq_true (by omega)
   have h9:decide (0≤(i:Int)∧(i:Int)<(b.length:Int))=true:=decide_eq_true (by omega)
   simp only [B2a,C12,RT.val,h0a,h0b,h9,cond_true,A7y i (by omega),Int.toNat_natCast]
   rfl
  ·have h1:decide ((i:Int)<(x0.length:Int))=false:=decide_eq_false (by omega)
   exact ⟨by simp only [B2a,C12,RT.val,h1,cond_false];rfl,_,_,_,rfl,by simp⟩
theorem D1k:RdA G8 aLn 0 C2N B1z 0 [] (kepts [] [(0,[3])]) (fun d=>(B2a d).opt 0 []):=by
 intro d
 kernel_rfl
noncomputable abbrev C5k:St→Option Tree:=B1z.say 0 [] [] (fun d=>B5M d.1.1 d.1.2.2.2.2.1 d.2.1)
theorem D2M:aPL C5k C2N:=SS.wp2 hlz [] B2a D1k (fun d=>rfl) _ (fun d=>D3y d.1.1 d.1.2.2.2.2.1 d.2.1)
noncomputable def C8D (a0:Lq2):Lq2:=(foldN (fun i h=>h.set i (B8O a0 i)) (a0.length - (0:Int).toNat) (0:Int).toNat (List.replicate (a0.length:Int).toNat ((0:Int),(bE,bE))))
noncomputable abbrev D2s (r:Lq2):AV×List AObj:=((.all 0 3),[(.rows 85 true tq8 r)])
noncomputable abbrev C8p:H7 C0x→AV×List AObj:=fun d=>D2s (C8D d.1)
noncomputable def C1G (a0:Lq2):Bool:=okL a0
noncomputable abbrev C3H:H7 C0x→Bool:=fun d=>C1G d.1
noncomputable abbrev D5A:Nat→St→Option Tree:=fun b=>match b with | 0=>C5k | _=>fun _=>none
theorem D4m:A7C false G8 (D5A) Try.f136 C0x C3H C8p:=by
 rintro ⟨a0,_⟩ hp
 change C1G a0=true at hp
 unfold C1G at hp
 refine Eq.trans (b:=(cond (decide (0≤(a0.length:Int)∧(a0.length:Int)=(a0.length:Int)∧(a0.length:Int).toNat*40≤MAXB∧(a0.length:Int)≤9223372036854775807)) (cond (decide (0≤(0:Int))&&(decide ((List.replicate (a0.length:Int).toNat ((0:Int),((⟨#[]⟩:ByteArray),(⟨#[]⟩:ByteArray)))).length=a0.length)&&okL a0)) (some (D2s (foldN (fun i h=>h.set i (B8O a0 i)) (a0.length - (0:Int).toNat) (0:Int).toNat (List.replicate (a0.length:Int).toNat ((0:Int),((⟨#[]⟩:ByteArray),(⟨#[]⟩:ByteArray))))))) none) none)) (by kernel_rfl) ?_
 exact (A7F (by first | rfl | decide | exact hp | (simp only [Bool.and_eq_true] at hp;simp only [hp];done) | (simp [*];done) | (simp [okL] at hp;simp [okL,MAXB];omega) | (simp_all;done) | (simp at *;omega)) (fun _h=>(A7F (by first | rfl | decide | exact hp | (simp only [Bool.and_eq_true] at hp;simp only [hp];done) | (simp [*];done) | (simp [okL] at hp;simp [okL,MAXB];omega) | (simp_all;done) | (simp at *;omega)) (fun _h=>rfl))))
theorem D5S:aPP 136 (A22 C0x C3H C8p):=pcD false G8 (hl1 (i:=0) (by kernel_rfl) D2M) D4m
noncomputable def S9:Tab:=Tab.add S8 136 (lift (A22 C0x C3H C8p))
noncomputable def QF9:FuncId→Bool:=QF8
theorem G9:aPG S9 QF9:=G8.add D5S (cbl Try.f136) (by kernel_rfl)

abbrev C0y:List PSh:=[.agg [(.int .i64),(.int .i64),tq4]]
noncomputable def D03 (a0 a1:Int) (a2:Lq2):Int×Int×Lq2:=(a0,a1,(C8D a2))
noncomputable abbrev D2t (r:Int×Int×Lq2):AV×List AObj:=((.agg [(ti r.1),(ti r.2.1),(.all 0 3)]),[(.rows 85 true tq8 r.2.2)])
noncomputable abbrev C8q:H7 C0y→AV×List AObj:=fun d=>D2t (D03 d.1.1 d.1.2.1 d.1.2.2.1)
noncomputable def B8h (a0 a1:Int) (a2:Lq2):Bool:=okL a2
noncomputable abbrev C3I:H7 C0y→Bool:=fun d=>B8h d.1.1 d.1.2.1 d.1.2.2.1
theorem D4n:A7C false G9 aLn Try.f110 C0y C3I C8q:=by
 rintro ⟨⟨a0,⟨a1,⟨a2,_⟩⟩⟩,_⟩ hp
 change B8h a0 a1 a2=true at hp
 unfold B8h at hp
 refine Eq.trans (b:=(cond (C1G a2) (some (D2t (a0,a1,(C8D a2)))) none)) (by kernel_rfl) ?_
 exact (A7F (by first | rfl | decide | exact hp | (simp only [Bool.and_eq_true] at hp;simp only [hp];done) | (simp [*];done) | (simp [okL] at hp;simp [okL,MAXB];omega) | (simp_all;done) | (simp at *;omega)) (fun _h=>rfl))
theorem D5T:aPP 110 (A22 C0y C3I C8q):=pcD false G9 hlz D4n
noncomputable def S10:Tab:=Tab.add S9 110 (lift (A22 C0y C3I C8q))
noncomputable def D7y:FuncId→Bool:=QF9
theorem G10:aPG S10 D7y:=G9.add D5T (cbl Try.f110) (by kernel_rfl)

abbrev B7N:List PSh:=[.t tq3]
abbrev A9X:SS:=⟨(.t false tq3::.junk::.junk::.all 0 3::tI::D2C),[.deep 32 [85] tq5]⟩
abbrev C2B:SS:=⟨(.junk::.junk::.junk::.all 0 3::D5b),[.deep 32 [85] tq5]⟩
noncomputable def C5w (x0:Lq1) (x4:Int) (h0:Lq1):RT A9X.den:=let z1:=x0.getD x4.toNat ((0:Int),((0:Int),[]));let z2:=D03 (z1.1) ((z1.2).1) ((z1.2).2);(.br (decide (x4<(x0.length:Int))) (.br (decide (0≤x4∧x4<(x0.length:Int))) (.br (B8h (z1.1) ((z1.2).1) ((z1.2).2)) (.br (decide (0≤x4∧x4<(h0.length:Int))) (.next ((x0,(),(),(),wI (x4+(1:Int)),u19),(h0.set x4.toNat ((z2.1),((z2.2.1),(z2.2.2))),()))) .fail) .fail) .fail) (.done (.exit 0) C2B ((u24),(h0,()))))
abbrev B6K:=(Lq1)×(Int)×(Lq1)
abbrev B3W:=Nat×(Lq1)
def B49:B3W:=(99,([]:Lq1))
noncomputable def B5i (x0:Lq1) (x4:Int) (h0:Lq1):B6K ⊕ B3W:=let z1:=x0.getD x4.toNat ((0:Int),((0:Int),[]));let z2:=D03 (z1.1) ((z1.2).1) ((z1.2).2);(cond (decide (x4<(x0.length:Int))) (cond (decide (0≤x4∧x4<(x0.length:Int))) (cond (B8h (z1.1) ((z1.2).1) ((z1.2).2)) (cond (decide (0≤x4∧x4<(h0.length:Int))) (.inl (x0,wI (x4+(1:Int)),h0.set x4.toNat ((z2.1),((z2.2.1),(z2.2.2))))) (.inr B49)) (.inr B49)) (.inr B49)) (.inr (0,h0)))
noncomputable def B2H (x0:Lq1) (x4:Int) (h0:Lq1):B3W:=itX (fun v:B6K=>B5i v.1 v.2.1 v.2.2) B49 (x0,x4,h0)
noncomputable def B8H (a:B3W):CT:=(.br (a.1==0) (.done (.exit 0) C2B ((u24),(a.2,()))) .fail)
noncomputable def D17 (x0:Lq1) (x4:Int) (h0:Lq1):CT:=B8H (B2H x0 x4 h0)
noncomputable abbrev B9z:A9X.den→RT A9X.den:=(fun d=>C5w d.1.1 d.1.2.2.2.2.1 d.2.1)
noncomputable def C0L:Code:=((D4 0 (A1l Try.f69)).getD 0 (0,.skip)).2
noncomputable abbrev C4W (v:B6K):A9X.den:=((v.1,(),(),(),v.2.1,u19),(v.2.2,()))
theorem D1A:(∀ v:B6K,(C5w v.1 v.2.1 v.2.2).val=A6D C4W B8H (B5i v.1 v.2.1 v.2.2))∧∀ a:B3W,CEnd A9X.den (B8H a):=⟨fun v=>(A7H (A7H (A7H (A7H rfl rfl) rfl) rfl) rfl),fun a=>(A7u aCD A7w)⟩
theorem C9Q:RdA (G10.deep ow) aLn 0 C0L A9X 0 [] (kepts [] [(0,[3])]) (fun d=>(B9z d).opt 0 []):=by
 intro d
 kernel_rfl
noncomputable abbrev C3a:St→Option Tree:=A9X.say 0 [] [] (fun d=>D17 d.1.1 d.1.2.2.2.2.1 d.2.1)
theorem D08:aPL C3a C0L:=SS.wp2 hlz [] B9z C9Q (fun d=>rfl) _ (fun d=>Runs.ofI2 (step:=B9z) C4W D1A rfl (d.1.1,d.1.2.2.2.2.1,d.2.1))
noncomputable def B89 (a0:Lq1):Lq1:=((B2H a0 (0:Int) (List.replicate (a0.length:Int).toNat ((0:Int),((0:Int),[])))).2)
noncomputable abbrev D0c (r:Lq1):AV×List AObj:=((.all 0 3),[(.deep 32 [85] tq5 r)])
noncomputable abbrev C5Q:H7 B7N→AV×List AObj:=fun d=>D0c (B89 d.1)
noncomputable def B0M (a0:Lq1):Bool:=(decide (0≤(a0.length:Int)∧(a0.length:Int)=(a0.length:Int)∧(a0.length:Int).toNat*40≤MAXB∧(a0.length:Int)≤9223372036854775807))&&((B2H a0 (0:Int) (List.replicate (a0.length:Int).toNat ((0:Int),((0:Int),[])))).1==0)
noncomputable abbrev C1t:H7 B7N→Bool:=fun d=>B0M d.1
noncomputable abbrev D4I:Nat→St→Option Tree:=fun b=>match b with | 0=>C3a | _=>fun _=>none
theorem D3d:A7C false (G10.deep ow) (D4I) Try.f69 B7N C1t C5Q:=by
 rintro ⟨a0,_⟩ hp
 change B0M a0=true at hp
 unfold B0M at hp
 refine Eq.trans (b:=(let z1:=B2H a0 (0:Int) (List.replicate (a0.length:Int).toNat ((0:Int),((0:Int),[])));cond (decide (0≤(a0.length:Int)∧(a0.length:Int)=(a0.length:Int)∧(a0.length:Int).toNat*40≤MAXB∧(a0.length:Int)≤9223372036854775807)) (cond (z1.1==0) (some (D0c (z1.2))) none) none)) (by kernel_rfl) ?_
 exact (A7D hp fun hp=>(A7F hp fun _h=>rfl))
theorem D4Z:aPP 69 (A22 B7N C1t C5Q):=pcD false (G10.deep ow) (hl1 (i:=0) (by kernel_rfl) D08) D3d
noncomputable def S11:Tab:=Tab.add S10 69 (lift (A22 B7N C1t C5Q))
noncomputable def D7z:FuncId→Bool:=D7y
theorem G11:aPG S11 D7z:=G10.add D4Z (cbl Try.f69) (by kernel_rfl)

abbrev B7M:List PSh:=[.agg [.str,.str]]
noncomputable def B88 (a0 a1:ByteArray):ByteArray×ByteArray:=(a0,a1)
noncomputable abbrev D44 (r:ByteArray×ByteArray):AV×List AObj:=((.agg [(.t true .str r.1),(.t true .str r.2)]),[])
noncomputable abbrev C5P:H7 B7M→AV×List AObj:=fun d=>D44 (B88 d.1.1 d.1.2.1)
noncomputable abbrev C1s:H7 B7M→Bool:=fun d=>true
theorem D3c:A7C true G11 aLn Try.f111 B7M C1s C5P:=by
 rintro ⟨⟨a0,⟨a1,_⟩⟩,_⟩ hp
 kernel_rfl
theorem D4Y:aPP 111 (A22 B7M C1s C5P):=pcD true G11 hlz D3c
noncomputable def S12:Tab:=Tab.add S11 111 (lift (A22 B7M C1s C5P))
noncomputable def D7A:FuncId→Bool:=qadd D7z 111
theorem G12:aPG S12 D7A:=G11.addQ D4Y (cbl Try.f111) (fun _=>rfl)

abbrev J5:Ty:=.pair .str .str
noncomputable def B47 (x0:LBBe) (i:Nat):ByteArray×ByteArray:=(((B88 ((x0.getD i (bE,bE)).1) ((x0.getD i (bE,bE)).2)).1),((B88 ((x0.getD i (bE,bE)).1) ((x0.getD i (bE,bE)).2)).2))
abbrev B5G:List PSh:=[.t tq6]
abbrev A89:SS:=⟨(.t false tq6::.junk::.junk::.all 0 2::tI::D2C),[.rows 70 true J5]⟩
abbrev B5v:SS:=⟨(.junk::.junk::.junk::.all 0 2::D5b),[.rows 70 true J5]⟩
noncomputable def B7u (x0:LBBe) (x4:Int) (h0:LBBe):RT A89.den:=let z1:=x0.getD x4.toNat (bE,bE);let z2:=B88 (z1.1) (z1.2);(.br (decide (x4<(x0.length:Int))) (.br (decide (0≤x4∧x4<(x0.length:Int))) (.br (decide (0≤x4∧x4<(h0.length:Int))) (.next ((x0,(),(),(),wI (x4+(1:Int)),u19),(h0.set x4.toNat ((z2.1),(z2.2)),()))) .fail) .fail) (.done (.exit 0) B5v ((u24),(h0,()))))
noncomputable def B2u (x0:LBBe) (x4:Int) (h0:LBBe):CT:=(.br (decide (0≤x4)&&(decide (h0.length=x0.length)&&okL x0)) (.done (.exit 0) B5v ((u24),((foldN (fun i h=>h.set i (B47 x0 i)) (x0.length - x4.toNat) x4.toNat h0),()))) .fail)
noncomputable abbrev A9C:A89.den→RT A89.den:=(fun d=>B7u d.1.1 d.1.2.2.2.2.1 d.2.1)
noncomputable abbrev C21 (x0:LBBe) (x4:Int) (h0:LBBe):A89.den:=((x0,(),(),(),x4,u19),(h0,()))
noncomputable def B9S:Code:=((D4 0 (A1l Try.f70)).getD 0 (0,.skip)).2
theorem D0z (x0:LBBe) (x4:Int) (h0:LBBe):(B2u x0 x4 h0).val (D:=A89.den)=.fail∨Runs A9C (C21 x0 x4 h0) (B2u x0 x4 h0).val:=by
 cases hc:(decide (0≤x4)&&(decide (h0.length=x0.length)&&okL x0)) with
 | false=>left;simp only [B2u,CT.val,hc,cond_false]
 | true =>
  right
  simp only [B2u,CT.val,hc,cond_true]
  simp only [Bool.and_eq_true,decide_eq_true_eq] at hc
  obtain ⟨i,rfl⟩:=Int.eq_ofNat_of_zero_le hc.1
  have hs:=A7q hc.2.2
  simp only [Int.toNat_natCast]
  refine Runs.foldN (step:=A9C) (fun j b=>C21 x0 (j:Int) b) (fun _ b=>b.length=x0.length) (x0.length) (fun i h=>h.set i (B47 x0 i))
   (fin:=fun b=>((.done (.exit 0) B5v ((u24),(b,()))):CT).val) (fun i b hi hb=>⟨by simpa using hb,?_⟩) (fun i b hi hb=>?_) (x0.length - i) i h0 rfl hc.2.1
  ·
   have h0a:decide ((i:Int)<(x0.length:Int))=true:=decide_eq_true (by omega)
   have h0b:decide (0≤(i:Int)∧(i:Int)<(x0.length:Int))=true:=decide_eq_true (by omega)
   have h9:decide (0≤(i:Int)∧(i:Int)<(b.length:Int))=true:=decide_eq_true (by omega)
   simp only [A9C,B7u,RT.val,h0a,h0b,h9,cond_true,A7y i (by omega),Int.toNat_natCast]
   rfl
  ·have h1:decide ((i:Int)<(x0.length:Int))=false:=decide_eq_false (by omega)
   exact ⟨by simp only [A9C,B7u,RT.val,h1,cond_false];rfl,_,_,_,rfl,by simp⟩
theorem C8X:RdA G12 aLn 0 B9S A89 0 [] (kepts [] [(0,[3])]) (fun d=>(A9C d).opt 0 []):=by
 intro d
 kernel_rfl
noncomputable abbrev C1P:St→Option Tree:=A89.say 0 [] [] (fun d=>B2u d.1.1 d.1.2.2.2.2.1 d.2.1)
theorem C9L:aPL C1P B9S:=SS.wp2 hlz [] A9C C8X (fun d=>rfl) _ (fun d=>D0z d.1.1 d.1.2.2.2.2.1 d.2.1)
noncomputable def C4I (a0:LBBe):LBBe:=(foldN (fun i h=>h.set i (B47 a0 i)) (a0.length - (0:Int).toNat) (0:Int).toNat (List.replicate (a0.length:Int).toNat (bE,bE)))
noncomputable abbrev C8b (r:LBBe):AV×List AObj:=((.all 0 2),[(.rows 70 true J5 r)])
noncomputable abbrev C3s:H7 B5G→AV×List AObj:=fun d=>C8b (C4I d.1)
noncomputable def B3B (a0:LBBe):Bool:=okL a0
noncomputable abbrev B9k:H7 B5G→Bool:=fun d=>B3B d.1
noncomputable abbrev D3u:Nat→St→Option Tree:=fun b=>match b with | 0=>C1P | _=>fun _=>none
theorem D1O:A7C false G12 (D3u) Try.f70 B5G B9k C3s:=by
 rintro ⟨a0,_⟩ hp
 change B3B a0=true at hp
 unfold B3B at hp
 refine Eq.trans (b:=(cond (decide (0≤(a0.length:Int)∧(a0.length:Int)=(a0.length:Int)∧(a0.length:Int).toNat*32≤MAXB∧(a0.length:Int)≤9223372036854775807)) (cond (decide (0≤(0:Int))&&(decide ((List.replicate (a0.length:Int).toNat ((⟨#[]⟩:ByteArray),(⟨#[]⟩:ByteArray))).length=a0.length)&&okL a0)) (some (C8b (foldN (fun i h=>h.set i (B47 a0 i)) (a0.length - (0:Int).toNat) (0:Int).toNat (List.replicate (a0.length:Int).toNat ((⟨#[]⟩:ByteArray),(⟨#[]⟩:ByteArray)))))) none) none)) (by kernel_rfl) ?_
 exact (A7F (by first | rfl | decide | exact hp | (simp only [Bool.and_eq_true] at hp;simp only [hp];done) | (simp [*];done) | (simp [okL] at hp;simp [okL,MAXB];omega) | (simp_all;done) | (simp at *;omega)) (fun _h=>(A7F (by first | rfl | decide | exact hp | (simp only [Bool.and_eq_true] at hp;simp only [hp];done) | (simp [*];done) | (simp [okL] at hp;simp [okL,MAXB];omega) | (simp_all;done) | (simp at *;omega)) (fun _h=>rfl))))
theorem D3T:aPP 70 (A22 B5G B9k C3s):=pcD false G12 (hl1 (i:=0) (by kernel_rfl) C9L) D1O
noncomputable def S13:Tab:=Tab.add S12 70 (lift (A22 B5G B9k C3s))
noncomputable def D7B:FuncId→Bool:=D7A
theorem G13:aPG S13 D7B:=G12.add D3T (cbl Try.f70) (by kernel_rfl)

abbrev B5H:List PSh:=[.agg [(.int .i64),tq3,(.int .i64),tq6,tq3]]
noncomputable def B2Q (a0:Int) (a1:Lq1) (a2:Int) (a3:LBBe) (a4:Lq1):Int×Int×Lq1×LBBe×Lq1:=(a0,a2,(B89 a1),(C4I a3),(B89 a4))
noncomputable abbrev C8c (r:Int×Int×Lq1×LBBe×Lq1):AV×List AObj:=((.agg [(ti r.1),(.all 0 3),(ti r.2.1),(.all 1 2),(.all 2 3)]),[(.deep 32 [85] tq5 r.2.2.1),(.rows 70 true J5 r.2.2.2.1),(.deep 32 [85] tq5 r.2.2.2.2)])
noncomputable abbrev C3t:H7 B5H→AV×List AObj:=fun d=>C8c (B2Q d.1.1 d.1.2.1 d.1.2.2.1 d.1.2.2.2.1 d.1.2.2.2.2.1)
noncomputable def B1L (a0:Int) (a1:Lq1) (a2:Int) (a3:LBBe) (a4:Lq1):Bool:=(B0M a1)&&((B3B a3)&&(B0M a4))
noncomputable abbrev B9l:H7 B5H→Bool:=fun d=>B1L d.1.1 d.1.2.1 d.1.2.2.1 d.1.2.2.2.1 d.1.2.2.2.2.1
theorem D1P:A7C false G13 aLn Try.f32 B5H B9l C3t:=by
 rintro ⟨⟨a0,⟨a1,⟨a2,⟨a3,⟨a4,_⟩⟩⟩⟩⟩,_⟩ hp
 change B1L a0 a1 a2 a3 a4=true at hp
 unfold B1L at hp
 refine Eq.trans (b:=(cond (B0M a1) (cond (B3B a3) (cond (B0M a4) (some (C8c (a0,a2,(B89 a1),(C4I a3),(B89 a4)))) none) none) none)) (by kernel_rfl) ?_
 exact (A7D hp fun hp=>(A7D hp fun hp=>(A7F hp fun _h=>rfl)))
theorem D3U:aPP 32 (A22 B5H B9l C3t):=pcD false G13 hlz D1P
noncomputable def S14:Tab:=Tab.add S13 32 (lift (A22 B5H B9l C3t))
noncomputable def D7C:FuncId→Bool:=D7B
theorem G14:aPG S14 D7C:=G13.add D3U (cbl Try.f32) (by kernel_rfl)

abbrev B2m:List PSh:=[.t tq4]
noncomputable def C3U (a0:Lq2):Lq2:=(([]:Lq2)++a0)
noncomputable abbrev C4z (r:Lq2):AV×List AObj:=((.t true tq4 r),[])
noncomputable abbrev B8X:H7 B2m→AV×List AObj:=fun d=>C4z (C3U d.1)
noncomputable def B2X (a0:Lq2):Bool:=decide ((([]:Lq2).length+a0.length)*40≤MAXB)
noncomputable abbrev B6l:H7 B2m→Bool:=fun d=>B2X d.1
theorem C9e:A7C true G14 aLn Try.f101 B2m B6l B8X:=by
 rintro ⟨a0,_⟩ hp
 change B2X a0=true at hp
 unfold B2X at hp
 refine Eq.trans (b:=(cond (decide ((([]:Lq2).length+a0.length)*40≤MAXB)) (some (C4z (([]:Lq2)++a0))) none)) (by kernel_rfl) ?_
 exact (A7F hp fun _h=>rfl)
theorem D0I:aPP 101 (A22 B2m B6l B8X):=pcD true G14 hlz C9e
noncomputable def S15:Tab:=Tab.add S14 101 (lift (A22 B2m B6l B8X))
noncomputable def D7D:FuncId→Bool:=qadd D7C 101
theorem G15:aPG S15 D7D:=G14.addQ D0I (cbl Try.f101) (fun _=>rfl)

abbrev B2n:List PSh:=[.agg [(.int .i64),(.int .i64),tq4]]
noncomputable def A8A (a0 a1:Int) (a2:Lq2):Int×Int×Lq2:=(a0,a1,(C3U a2))
noncomputable abbrev C4B (r:Int×Int×Lq2):AV×List AObj:=((.agg [(ti r.1),(ti r.2.1),(.t true tq4 r.2.2)]),[])
noncomputable abbrev B8Y:H7 B2n→AV×List AObj:=fun d=>C4B (A8A d.1.1 d.1.2.1 d.1.2.2.1)
noncomputable def U8 (a0 a1:Int) (a2:Lq2):Bool:=B2X a2
noncomputable abbrev B6m:H7 B2n→Bool:=fun d=>U8 d.1.1 d.1.2.1 d.1.2.2.1
theorem C9f:A7C true G15 aLn Try.f124 B2n B6m B8Y:=by
 rintro ⟨⟨a0,⟨a1,⟨a2,_⟩⟩⟩,_⟩ hp
 change U8 a0 a1 a2=true at hp
 unfold U8 at hp
 refine Eq.trans (b:=(cond (B2X a2) (some (C4B (a0,a1,(C3U a2)))) none)) (by kernel_rfl) ?_
 exact (A7F hp fun _h=>rfl)
theorem D0J:aPP 124 (A22 B2n B6m B8Y):=pcD true G15 hlz C9f
noncomputable def S16:Tab:=Tab.add S15 124 (lift (A22 B2n B6m B8Y))
noncomputable def D7E:FuncId→Bool:=qadd D7D 124
theorem G16:aPG S16 D7E:=G15.addQ D0J (cbl Try.f124) (fun _=>rfl)

abbrev D6b:List Sh:=.junk::.junk::.junk::.junk::.junk::.junk::.junk::.junk::.junk::.junk::.junk::.junk::.junk::.junk::.junk::.junk::[]
abbrev D60:List Sh:=.junk::D6b
abbrev u17:=((),(),(),(),(),(),(),(),(),(),(),(),(),(),(),(),())
abbrev B1c:List PSh:=[.t tq3]
abbrev A0a:SS:=⟨(.t false tq3::.junk::.junk::.all 0 3::tI::D6b),[.rows 32 true tq5]⟩
abbrev B6F:SS:=⟨(.junk::.junk::.junk::.all 0 3::D60),[.rows 32 true tq5]⟩
noncomputable def B6a (x0:Lq1) (x4:Int):=let z1:=x0.getD x4.toNat ((0:Int),((0:Int),[]));A8A (z1.1) ((z1.2).1) ((z1.2).2)
noncomputable def B8t (x0:Lq1) (x4:Int) (h0:Lq1):RT A0a.den:=let z1:=B6a x0 x4;let z2:=x0.getD x4.toNat ((0:Int),((0:Int),[]));(.br (decide (x4<(x0.length:Int))) (.br (decide (0≤x4∧x4<(x0.length:Int))) (.br (U8 (z2.1) ((z2.2).1) ((z2.2).2)) (.br (decide ((h0.length+[((z1.1),((z1.2.1),(z1.2.2)))].length)*40≤MAXB)) (.next ((x0,(),(),(),wI (x4+(1:Int)),u17),(h0++[((z1.1),((z1.2.1),(z1.2.2)))],()))) .fail) .fail) .fail) (.done (.exit 0) B6F ((u22),(h0,()))))
abbrev A9l:=(Lq1)×(Int)×(Lq1)
abbrev A9h:=Nat×(Lq1)
def A8M:A9h:=(99,([]:Lq1))
noncomputable def A8V (x0:Lq1) (x4:Int) (h0:Lq1):A9l ⊕ A9h:=let z1:=B6a x0 x4;let z2:=x0.getD x4.toNat ((0:Int),((0:Int),[]));(cond (decide (x4<(x0.length:Int))) (cond (decide (0≤x4∧x4<(x0.length:Int))) (cond (U8 (z2.1) ((z2.2).1) ((z2.2).2)) (cond (decide ((h0.length+[((z1.1),((z1.2.1),(z1.2.2)))].length)*40≤MAXB)) (.inl (x0,wI (x4+(1:Int)),h0++[((z1.1),((z1.2.1),(z1.2.2)))])) (.inr A8M)) (.inr A8M)) (.inr A8M)) (.inr (0,h0)))
noncomputable def A8N (x0:Lq1) (x4:Int) (h0:Lq1):A9h:=itX (fun v:A9l=>A8V v.1 v.2.1 v.2.2) A8M (x0,x4,h0)
noncomputable def B3r (a:A9h):CT:=(.br (a.1==0) (.done (.exit 0) B6F ((u22),(a.2,()))) .fail)
noncomputable def C7g (x0:Lq1) (x4:Int) (h0:Lq1):CT:=B3r (A8N x0 x4 h0)
noncomputable abbrev B3G:A0a.den→RT A0a.den:=(fun d=>B8t d.1.1 d.1.2.2.2.2.1 d.2.1)
noncomputable def B5V:Code:=((D4 0 (A1l Try.f88)).getD 0 (0,.skip)).2
noncomputable abbrev B8e (v:A9l):A0a.den:=((v.1,(),(),(),v.2.1,u17),(v.2.2,()))
theorem C6q:(∀ v:A9l,(B8t v.1 v.2.1 v.2.2).val=A6D B8e B3r (A8V v.1 v.2.1 v.2.2))∧∀ a:A9h,CEnd A0a.den (B3r a):=⟨fun v=>(A7H (A7H (A7H (A7H rfl rfl) rfl) rfl) rfl),fun a=>(A7u aCD A7w)⟩
theorem C46:RdA G16 aLn 0 B5V A0a 0 [] (kepts [] [(0,[3])]) (fun d=>(B3G d).opt 0 []):=by
 intro d
 kernel_rfl
noncomputable abbrev B64:St→Option Tree:=A0a.say 0 [] [] (fun d=>C7g d.1.1 d.1.2.2.2.2.1 d.2.1)
theorem C5Z:aPL B64 B5V:=SS.wp2 hlz [] B3G C46 (fun d=>rfl) _ (fun d=>Runs.ofI2 (step:=B3G) B8e C6q rfl (d.1.1,d.1.2.2.2.2.1,d.2.1))
noncomputable def B0v (a0:Lq1):Lq1:=((A8N a0 (0:Int) ([]:Lq1)).2)
noncomputable abbrev C2U (r:Lq1):AV×List AObj:=((.t true tq3 r),[])
noncomputable abbrev B7g:H7 B1c→AV×List AObj:=fun d=>C2U (B0v d.1)
noncomputable def X6 (a0:Lq1):Bool:=((A8N a0 (0:Int) ([]:Lq1)).1==0)
noncomputable abbrev B4M:H7 B1c→Bool:=fun d=>X6 d.1
noncomputable abbrev C9p:Nat→St→Option Tree:=fun b=>match b with | 0=>B64 | _=>fun _=>none
theorem C7K:A7C true G16 (C9p) Try.f88 B1c B4M B7g:=by
 rintro ⟨a0,_⟩ hp
 change X6 a0=true at hp
 unfold X6 at hp
 refine Eq.trans (b:=(let z1:=A8N a0 (0:Int) ([]:Lq1);cond (z1.1==0) (some (C2U (z1.2))) none)) (by kernel_rfl) ?_
 exact (A7F hp fun _h=>rfl)
theorem C9E:aPP 88 (A22 B1c B4M B7g):=pcD true G16 (hl1 (i:=0) (by kernel_rfl) C5Z) C7K
noncomputable def S17:Tab:=Tab.add S16 88 (lift (A22 B1c B4M B7g))
noncomputable def D7F:FuncId→Bool:=qadd D7E 88
theorem G17:aPG S17 D7F:=G16.addQ C9E (cbl Try.f88) (fun _=>rfl)

abbrev B7R:List PSh:=[.agg [(.int .i64),tq3,(.int .i64),tq6,tq3]]
noncomputable def B9u (a0:Int) (a1:Lq1) (a2:Int) (a3:LBBe) (a4:Lq1):Int×Lq1×Int×LBBe×Lq1:=(a0,(B0v a1),a2,([]:LBBe)++a3,(B0v a4))
noncomputable abbrev D0e (r:Int×Lq1×Int×LBBe×Lq1):AV×List AObj:=((.agg [(ti r.1),(.t true tq3 r.2.1),(ti r.2.2.1),(.t true tq6 r.2.2.2.1),(.t true tq3 r.2.2.2.2)]),[])
noncomputable abbrev C5U:H7 B7R→AV×List AObj:=fun d=>D0e (B9u d.1.1 d.1.2.1 d.1.2.2.1 d.1.2.2.2.1 d.1.2.2.2.2.1)
noncomputable def B3C (a0:Int) (a1:Lq1) (a2:Int) (a3:LBBe) (a4:Lq1):Bool:=(X6 a1)&&((decide ((([]:LBBe).length+a3.length)*32≤MAXB))&&(X6 a4))
noncomputable abbrev C1x:H7 B7R→Bool:=fun d=>B3C d.1.1 d.1.2.1 d.1.2.2.1 d.1.2.2.2.1 d.1.2.2.2.2.1
theorem D3h:A7C true G17 aLn Try.f55 B7R C1x C5U:=by
 rintro ⟨⟨a0,⟨a1,⟨a2,⟨a3,⟨a4,_⟩⟩⟩⟩⟩,_⟩ hp
 change B3C a0 a1 a2 a3 a4=true at hp
 unfold B3C at hp
 refine Eq.trans (b:=(cond (X6 a1) (cond (decide ((([]:LBBe).length+a3.length)*32≤MAXB)) (cond (X6 a4) (some (D0e (a0,(B0v a1),a2,([]:LBBe)++a3,(B0v a4)))) none) none) none)) (by kernel_rfl) ?_
 exact (A7D hp fun hp=>(A7D hp fun hp=>(A7F hp fun _h=>rfl)))
theorem D43:aPP 55 (A22 B7R C1x C5U):=pcD true G17 hlz D3h
noncomputable def S18:Tab:=Tab.add S17 55 (lift (A22 B7R C1x C5U))
noncomputable def D7G:FuncId→Bool:=qadd D7F 55
theorem G18:aPG S18 D7G:=G17.addQ D43 (cbl Try.f55) (fun _=>rfl)

abbrev C4g:List PSh:=[.t (.int .i64),.t (.int .i64),.t (.int .i64)]
noncomputable def X1 (a0 a1 a2:Int):Bool:=(cond (decide (a0 ≥ a1)) (decide (a0≤a2)) false)
noncomputable abbrev C7M (r:Bool):AV×List AObj:=((.t true .bool r),[])
noncomputable abbrev D0T:H7 C4g→AV×List AObj:=fun d=>C7M (X1 d.1 d.2.1 d.2.2.1)
noncomputable abbrev C6a:H7 C4g→Bool:=fun d=>true
theorem D5n:A7C true G18 aLn Try.f51 C4g C6a D0T:=by
 rintro ⟨a0,⟨a1,⟨a2,_⟩⟩⟩ hp
 refine Eq.trans (b:=(cond (decide (a0 ≥ a1)) (some (C7M (decide (a0≤a2)))) (some (C7M false)))) (by kernel_rfl) ?_
 exact (Q2 C7M (fun _h=>rfl) (fun _h=>rfl))
theorem D6I:aPP 51 (A22 C4g C6a D0T):=pcD true G18 hlz D5n
noncomputable def S19:Tab:=Tab.add S18 51 (lift (A22 C4g C6a D0T))
noncomputable def D7H:FuncId→Bool:=qadd D7G 51
theorem G19:aPG S19 D7H:=G18.addQ D6I (cbl Try.f51) (fun _=>rfl)

abbrev D5a:List Sh:=.junk::.junk::.junk::.junk::.junk::.junk::.junk::.junk::.junk::.junk::.junk::.junk::.junk::.junk::[]
abbrev D86:List Sh:=.junk::D5a
abbrev u16:=((),(),(),(),(),(),(),(),(),(),(),(),(),(),(),())
abbrev u15:=((),(),(),(),(),(),(),(),(),(),(),(),(),(),())
abbrev u21:=((),(),u19)
abbrev C4i:List PSh:=[.t tq3,.t (.int .i64)]
abbrev B3i:SS:=⟨(.t false tq3::tI::.junk::.junk::.junk::tI::D5a),[]⟩
abbrev C6v:SS:=⟨(.junk::.junk::.junk::.junk::tI::D86),[]⟩
abbrev C6w:SS:=⟨(.junk::D5b),[]⟩
noncomputable def C9l (x0:Lq1) (x1 x5:Int):RT B3i.den:=(.br (decide (x5<(x0.length:Int))) (.br (decide (0≤x5∧x5<(x0.length:Int))) (.br ((((x0.getD x5.toNat ((0:Int),((0:Int),[]))).2).1)==x1) (.done .ret C6v (((),(),(),(),x5,u16),())) (.next ((x0,x1,(),(),(),wI (x5+(1:Int)),u15),()))) .fail) (.done (.exit 0) C6w ((u21),())))
abbrev B5l:=(Lq1)×(Int)×(Int)
abbrev B5k:=Nat×(Int)
def C3j:B5k:=(99,((0:Int):Int))
noncomputable def B6x (x0:Lq1) (x1 x5:Int):B5l ⊕ B5k:=(cond (decide (x5<(x0.length:Int))) (cond (decide (0≤x5∧x5<(x0.length:Int))) (cond ((((x0.getD x5.toNat ((0:Int),((0:Int),[]))).2).1)==x1) (.inr (0,x5)) (.inl (x0,x1,wI (x5+(1:Int))))) (.inr C3j)) (.inr (1,((0:Int):Int))))
noncomputable def B58 (x0:Lq1) (x1 x5:Int):B5k:=itX (fun v:B5l=>B6x v.1 v.2.1 v.2.2) C3j (x0,x1,x5)
noncomputable def C3i (a:B5k):CT:=(.br (a.1==0) (.done .ret C6v (((),(),(),(),a.2,u16),())) (.br (a.1==1) (.done (.exit 0) C6w ((u21),())) .fail))
noncomputable def D4M (x0:Lq1) (x1 x5:Int):CT:=C3i (B58 x0 x1 x5)
noncomputable abbrev C3V:B3i.den→RT B3i.den:=(fun d=>C9l d.1.1 d.1.2.1 d.1.2.2.2.2.2.1)
noncomputable def C4n:Code:=((D4 0 (A1l Try.f121)).getD 0 (0,.skip)).2
noncomputable abbrev C8R (v:B5l):B3i.den:=((v.1,v.2.1,(),(),(),v.2.2,u15),())
theorem D4b:(∀ v:B5l,(C9l v.1 v.2.1 v.2.2).val=A6D C8R C3i (B6x v.1 v.2.1 v.2.2))∧∀ a:B5k,CEnd B3i.den (C3i a):=⟨fun v=>(A7H (A7H (A7H rfl rfl) rfl) rfl),fun a=>(A7u aCD (A7u aCD A7w))⟩
theorem D2V:RdA G19 aLn 0 C4n B3i 0 [] (kepts [4] [(0,[])]) (fun d=>(C3V d).opt 0 []):=by
 intro d
 kernel_rfl
noncomputable abbrev C66:St→Option Tree:=B3i.say 0 [] [] (fun d=>D4M d.1.1 d.1.2.1 d.1.2.2.2.2.2.1)
theorem D35:aPL C66 C4n:=SS.wp2 hlz [] C3V D2V (fun d=>rfl) _ (fun d=>Runs.ofI2 (step:=C3V) C8R D4b rfl (d.1.1,d.1.2.1,d.1.2.2.2.2.2.1))
noncomputable def C0b (a0:Lq1) (a1:Int):Int:=let z1:=B58 a0 a1 (0:Int);(cond (z1.1==0) (z1.2) (-1:Int))
noncomputable abbrev C7N (r:Int):AV×List AObj:=((ti r),[])
noncomputable abbrev D0V:H7 C4i→AV×List AObj:=fun d=>C7N (C0b d.1 d.2.1)
noncomputable def B5f (a0:Lq1) (a1:Int):Bool:=let z1:=B58 a0 a1 (0:Int);cond (z1.1==0) true (z1.1==1)
noncomputable abbrev C6c:H7 C4i→Bool:=fun d=>B5f d.1 d.2.1
noncomputable abbrev D6y:Nat→St→Option Tree:=fun b=>match b with | 0=>C66 | _=>fun _=>none
theorem D5p:A7C true G19 (D6y) Try.f121 C4i C6c D0V:=by
 rintro ⟨a0,⟨a1,_⟩⟩ hp
 change B5f a0 a1=true at hp
 unfold B5f at hp
 refine Eq.trans (b:=(let z1:=B58 a0 a1 (0:Int);cond (z1.1==0) (some (C7N (z1.2))) (cond (z1.1==1) (some (C7N (-1:Int))) none))) (by kernel_rfl) ?_
 exact (L8 C7N hp (fun hp=>rfl) (fun hp=>(A7F hp fun _h=>rfl)))
theorem D6K:aPP 121 (A22 C4i C6c D0V):=pcD true G19 (hl1 (i:=0) (by kernel_rfl) D35) D5p
noncomputable def S20:Tab:=Tab.add S19 121 (lift (A22 C4i C6c D0V))
noncomputable def D7I:FuncId→Bool:=qadd D7H 121
theorem G20:aPG S20 D7I:=G19.addQ D6K (cbl Try.f121) (fun _=>rfl)

abbrev D62:List Sh:=.junk::D02
abbrev D63:List Sh:=.junk::D62
abbrev D2D:List Sh:=.junk::C8B
abbrev u25:=((),u24)
abbrev u27:=((),u26)
noncomputable def C1K (s:ByteArray) (i:Nat):Bool:=let z1:=wI (bt s (i:Int));X1 z1 97 122||X1 z1 48 57
abbrev C0A:List PSh:=[.t .str]
abbrev B1A:SS:=⟨(.t true .str::.junk::.junk::tI::D62),[]⟩
abbrev C34:SS:=⟨(.junk::.junk::.t true .bool::D63),[]⟩
abbrev C35:SS:=⟨(.t true .str::D2D),[]⟩
noncomputable def C13 (x0:ByteArray) (x3:Int):RT B1A.den:=let z1:=decide (0≤x3∧x3<(x0.size:Int));let z2:=wI (bt x0 x3);(.br (decide (x3<(x0.size:Int))) (.br z1 (.br (!(X1 z2 (97:Int) (122:Int))) (.br z1 (.br (!(X1 z2 (48:Int) (57:Int))) (.done .ret C34 (((),(),false,u25),())) (.next ((x0,(),(),wI (x3+(1:Int)),u24),()))) .fail) (.next ((x0,(),(),wI (x3+(1:Int)),u24),()))) .fail) (.done (.exit 0) C35 ((x0,u27),())))
noncomputable def B5N (x0:ByteArray) (x3:Int):CT:=(.br (decide (0≤x3)&&okS x0) (.br (A4H (C1K x0) (x0.size - x3.toNat) x3.toNat) (.done (.exit 0) C35 ((x0,u27),())) (.done .ret C34 (((),(),false,u25),()))) .fail)
noncomputable abbrev B4r:B1A.den→RT B1A.den:=(fun d=>C13 d.1.1 d.1.2.2.2.1)
noncomputable abbrev C6W (x0:ByteArray) (x3:Int):B1A.den:=((x0,(),(),x3,u24),())
noncomputable def C2P:Code:=((D4 0 (A1l Try.f142)).getD 0 (0,.skip)).2
theorem D3z (x0:ByteArray) (x3:Int):(B5N x0 x3).val (D:=B1A.den)=.fail∨Runs B4r (C6W x0 x3) (B5N x0 x3).val:=by
 cases hc:(decide (0≤x3)&&okS x0) with
 | false=>left;simp only [B5N,CT.val,hc,cond_false]
 | true =>
  right
  simp only [B5N,CT.val,hc,cond_true]
  simp only [Bool.and_eq_true,decide_eq_true_eq] at hc
  obtain ⟨i,rfl⟩:=Int.eq_ofNat_of_zero_le hc.1
  have hs:=A7r hc.2
  simp only [Int.toNat_natCast]
  refine Runs.scan (fun j=>C6W x0 (j:Int)) (x0.size) (C1K x0) (fun i hi=>?_) (fun i hi=>?_) ⟨_,_,_,rfl,by simp⟩ ⟨_,_,_,rfl,by simp⟩ _ _ rfl
  ·
   have h0a:decide ((i:Int)<(x0.size:Int))=true:=decide_eq_true (by omega)
   have h0b:decide (0≤(i:Int)∧(i:Int)<(x0.size:Int))=true:=decide_eq_true (by omega)
   simp only [B4r,C13,RT.val,h0a,h0b,cond_true,A7y i (by omega),Int.toNat_natCast]
   simp only [C1K]
   cases X1 (wI (bt x0 (i:Int))) 97 122<;>cases X1 (wI (bt x0 (i:Int))) 48 57<;>rfl
  ·have h1:decide ((i:Int)<(x0.size:Int))=false:=decide_eq_false (by omega)
   simp only [B4r,C13,RT.val,h1,cond_false]
theorem D1m:RdA G20 aLn 0 C2P B1A 0 [] (kepts [2] [(0,[0])]) (fun d=>(B4r d).opt 0 []):=by
 intro d
 kernel_rfl
noncomputable abbrev C5m:St→Option Tree:=B1A.say 0 [] [] (fun d=>B5N d.1.1 d.1.2.2.2.1)
theorem D2O:aPL C5m C2P:=SS.wp2 hlz [] B4r D1m (fun d=>rfl) _ (fun d=>D3z d.1.1 d.1.2.2.2.1)
noncomputable def C3S (a0:ByteArray):Bool:=(cond (A4H (C1K a0) (a0.size - (0:Int).toNat) (0:Int).toNat) (X1 (a0.size:Int) (1:Int) (12:Int)) false)
noncomputable abbrev C4w (r:Bool):AV×List AObj:=((.t true .bool r),[])
noncomputable abbrev C8s:H7 C0A→AV×List AObj:=fun d=>C4w (C3S d.1)
noncomputable def C1H (a0:ByteArray):Bool:=okS a0
noncomputable abbrev C3K:H7 C0A→Bool:=fun d=>C1H d.1
noncomputable abbrev D5C:Nat→St→Option Tree:=fun b=>match b with | 0=>C5m | _=>fun _=>none
theorem D4p:A7C true G20 (D5C) Try.f142 C0A C3K C8s:=by
 rintro ⟨a0,_⟩ hp
 change C1H a0=true at hp
 unfold C1H at hp
 refine Eq.trans (b:=(cond (decide (0≤(0:Int))&&okS a0) (cond (A4H (C1K a0) (a0.size - (0:Int).toNat) (0:Int).toNat) (some (C4w (X1 (a0.size:Int) (1:Int) (12:Int)))) (some (C4w false))) none)) (by kernel_rfl) ?_
 exact (A7F (by first | rfl | decide | exact hp | (simp only [Bool.and_eq_true] at hp;simp only [hp];done) | (simp [*];done) | (simp [okL] at hp;simp [okL,MAXB];omega) | (simp_all;done) | (simp at *;omega)) (fun _h=>(Q2 C4w (fun _h=>rfl) (fun _h=>rfl))))
theorem D5V:aPP 142 (A22 C0A C3K C8s):=pcD true G20 (hl1 (i:=0) (by kernel_rfl) D2O) D4p
noncomputable def S21:Tab:=Tab.add S20 142 (lift (A22 C0A C3K C8s))
noncomputable def D7J:FuncId→Bool:=qadd D7I 142
theorem G21:aPG S21 D7J:=G20.addQ D5V (cbl Try.f142) (fun _=>rfl)

abbrev C4h:List PSh:=[.agg [(.int .i64),.str,.str]]
noncomputable def C9k (a0:Int) (a1 a2:ByteArray):Bool:=let z1:=decide ((a2.size:Int)≤(20:Int));(cond (!(X1 a0 (1:Int) (3:Int))) false (cond (a0==(2:Int)) (cond (!(a2.toList==bE.toList)) false (cond (C3S a1) z1 false)) (cond (C3S a1) z1 false)))
noncomputable abbrev B2C (r:Bool):AV×List AObj:=((.t true .bool r),[])
noncomputable abbrev D0U:H7 C4h→AV×List AObj:=fun d=>B2C (C9k d.1.1 d.1.2.1 d.1.2.2.1)
noncomputable def C2r (a0:Int) (a1 a2:ByteArray):Bool:=okS a1
noncomputable abbrev C6b:H7 C4h→Bool:=fun d=>C2r d.1.1 d.1.2.1 d.1.2.2.1
theorem D5o:A7C true G21 aLn Try.f129 C4h C6b D0U:=by
 rintro ⟨⟨a0,⟨a1,⟨a2,_⟩⟩⟩,_⟩ hp
 change C2r a0 a1 a2=true at hp
 unfold C2r at hp
 refine Eq.trans (b:=(let z1:=B2C (decide ((a2.size:Int)≤(20:Int)));cond (!(X1 a0 (1:Int) (3:Int))) (some (B2C false)) (cond (a0==(2:Int)) (cond (!(a2.toList==(⟨#[]⟩:ByteArray).toList)) (some (B2C false)) (cond (C1H a1) (cond (C3S a1) (some z1) (some (B2C false))) none)) (cond (C1H a1) (cond (C3S a1) (some z1) (some (B2C false))) none)))) (by kernel_rfl) ?_
 exact (Q2 B2C (fun _h=>rfl) (fun _h=>(Q2 B2C (fun _h=>(Q2 B2C (fun _h=>rfl) (fun _h=>(A7F (by first | rfl | decide | exact hp | (simp only [Bool.and_eq_true] at hp;simp only [hp];done) | (simp [*];done) | (simp [okL] at hp;simp [okL,MAXB];omega) | (simp_all;done) | (simp at *;omega)) (fun _h=>(Q2 B2C (fun _h=>rfl) (fun _h=>rfl))))))) (fun _h=>(A7F (by first | rfl | decide | exact hp | (simp only [Bool.and_eq_true] at hp;simp only [hp];done) | (simp [*];done) | (simp [okL] at hp;simp [okL,MAXB];omega) | (simp_all;done) | (simp at *;omega)) (fun _h=>(Q2 B2C (fun _h=>rfl) (fun _h=>rfl))))))))
theorem D6J:aPP 129 (A22 C4h C6b D0U):=pcD true G21 hlz D5o
noncomputable def S22:Tab:=Tab.add S21 129 (lift (A22 C4h C6b D0U))
noncomputable def D7K:FuncId→Bool:=qadd D7J 129
theorem G22:aPG S22 D7K:=G21.addQ D6J (cbl Try.f129) (fun _=>rfl)

abbrev D2E:List Sh:=.junk::.junk::.junk::.junk::.junk::.junk::.junk::D2D
abbrev D6d:List Sh:=.junk::D2E
abbrev D6e:List Sh:=.junk::.junk::D6d
abbrev u35:=((),(),(),(),(),(),(),(),u27)
abbrev u34:=((),(),(),(),(),(),(),u27)
abbrev u37:=((),(),u35)
abbrev D59:List AV:=.junk::.junk::.junk::.junk::.junk::.junk::.junk::.junk::.junk::.junk::.junk::.junk::.junk::.junk::.junk::.junk::.junk::.junk::.junk::.junk::.junk::.junk::.junk::.junk::.junk::.junk::.junk::.junk::.junk::.junk::.junk::.junk::.junk::.junk::[]
abbrev D3Z:List AV:=.junk::.junk::.junk::.junk::.junk::.junk::.junk::.junk::.junk::.junk::.junk::.junk::.junk::.junk::.junk::.junk::.junk::.junk::.junk::.junk::.junk::.junk::.junk::.junk::.junk::.junk::.junk::.junk::.junk::.junk::.junk::.junk::.junk::[]
abbrev D47:List AV:=.junk::.junk::D59
noncomputable def C65 (l:Lq2) (i:Nat):Bool:=let z1:=l.getD i dOp;C9k z1.1 z1.2.1 z1.2.2&&(decide (i=0)||Op.bytesLess (l.getD (i - 1) dOp).2.1.toList z1.2.1.toList)
abbrev C0C:List PSh:=[.t tq4]
abbrev A92:SS:=⟨(.t false tq4::.junk::.junk::tI::D2E),[]⟩
abbrev B8B:SS:=⟨(.junk::.junk::.t true .bool::D6d),[]⟩
abbrev C37:SS:=⟨(.t false tq4::D6e),[]⟩
noncomputable def C14 (x0:Lq2) (x3:Int):RT A92.den:=let z1:=x0.getD x3.toNat ((0:Int),(bE,bE));let z2:=wI (x3 - (1:Int));let z3:=decide (0≤x3∧x3<(x0.length:Int));(.br (decide (x3<(x0.length:Int))) (.br z3 (.br (C2r (z1.1) ((z1.2).1) ((z1.2).2)) (.br (!(C9k (z1.1) ((z1.2).1) ((z1.2).2))) (.done .ret B8B (((),(),false,u35),())) (.br (decide (x3 > (0:Int))) (.br (decide (0≤z2∧z2<(x0.length:Int))) (.br z3 (.br (!(Op.bytesLess (((x0.getD (z2.toNat) ((0:Int),(bE,bE))).2).1).toList ((z1.2).1).toList)) (.done .ret B8B (((),(),false,u35),())) (.next ((x0,(),(),wI (x3+(1:Int)),u34),()))) .fail) .fail) (.next ((x0,(),(),wI (x3+(1:Int)),u34),())))) .fail) .fail) (.done (.exit 0) C37 ((x0,u37),())))
noncomputable def B5O (x0:Lq2) (x3:Int):CT:=(.br (decide (0≤x3)&&A7I x0) (.br (A4H (C65 x0) (x0.length - x3.toNat) x3.toNat) (.done (.exit 0) C37 ((x0,u37),())) (.done .ret B8B (((),(),false,u35),()))) .fail)
noncomputable abbrev B4s:A92.den→RT A92.den:=(fun d=>C14 d.1.1 d.1.2.2.2.1)
noncomputable abbrev C6X (x0:Lq2) (x3:Int):A92.den:=((x0,(),(),x3,u34),())
noncomputable def C2R:Code:=((D4 0 (A1l Try.f95)).getD 0 (0,.skip)).2
theorem D3A (x0:Lq2) (x3:Int):(B5O x0 x3).val (D:=A92.den)=.fail∨Runs B4s (C6X x0 x3) (B5O x0 x3).val:=by
 cases hc:(decide (0≤x3)&&A7I x0) with
 | false=>left;simp only [B5O,CT.val,hc,cond_false]
 | true =>
  right
  simp only [B5O,CT.val,hc,cond_true]
  simp only [Bool.and_eq_true,decide_eq_true_eq] at hc
  obtain ⟨i,rfl⟩:=Int.eq_ofNat_of_zero_le hc.1
  have hs:=A8e hc.2
  simp only [Int.toNat_natCast]
  refine Runs.scan (fun j=>C6X x0 (j:Int)) (x0.length) (C65 x0) (fun i hi=>?_) (fun i hi=>?_) ⟨_,_,_,rfl,by simp⟩ ⟨_,_,_,rfl,by simp⟩ _ _ rfl
  ·
   have h0a:decide ((i:Int)<(x0.length:Int))=true:=decide_eq_true (by omega)
   have h0b:decide (0≤(i:Int)∧(i:Int)<(x0.length:Int))=true:=decide_eq_true (by omega)
   simp only [B4s,C14,RT.val,h0a,h0b,cond_true,A7y i (by omega),Int.toNat_natCast]
   have hq:C2r (x0.getD i dOp).1 (x0.getD i dOp).2.1 (x0.getD i dOp).2.2=true:=(D2S hc.2 i hi).1
   simp only [dOp] at hq
   simp only [hq,cond_true,C65,dOp]
   cases C9k (x0.getD i ((0:Int),((⟨#[]⟩:ByteArray),(⟨#[]⟩:ByteArray)))).1 (x0.getD i ((0:Int),((⟨#[]⟩:ByteArray),(⟨#[]⟩:ByteArray)))).2.1 (x0.getD i ((0:Int),((⟨#[]⟩:ByteArray),(⟨#[]⟩:ByteArray)))).2.2 with
   | false=>rfl
   | true =>
    cases i with
    | zero=>rfl
    | succ i =>
     have h3:decide (((i+1:Nat):Int) > 0)=true:=decide_eq_true (by omega)
     have h4:wI (((i+1:Nat):Int) - 1)=(i:Int):=by have:=A6J (n:=((i+1:Nat):Int) - 1) (by omega) (by omega);omega
     have h5:decide (0≤(i:Int)∧(i:Int)<(x0.length:Int))=true:=decide_eq_true (by omega)
     have h6:decide (i+1=0)=false:=by simp
     simp only [h3,h4,h5,h6,cond_true,Bool.true_and,Bool.false_or,Int.toNat_natCast,Nat.add_sub_cancel,Bool.not_true,cond_false]
     cases Op.bytesLess (x0.getD i ((0:Int),((⟨#[]⟩:ByteArray),(⟨#[]⟩:ByteArray)))).2.1.toList (x0.getD (i+1) ((0:Int),((⟨#[]⟩:ByteArray),(⟨#[]⟩:ByteArray)))).2.1.toList<;>rfl
  ·have h1:decide ((i:Int)<(x0.length:Int))=false:=decide_eq_false (by omega)
   simp only [B4s,C14,RT.val,h1,cond_false]
noncomputable def C6R (x0:Lq2) (x3:Int):Option (Ex×St):=let z1:=x0.getD x3.toNat ((0:Int),(bE,bE));let z2:=(⟨((.t false tq4 x0)::.junk::.junk::(ti (wI (x3+(1:Int))))::D3Z),[],0,[]⟩:St);let z3:=wI (x3 - (1:Int));let z4:=(⟨(.junk::.junk::(.t true .bool false)::D59),[],0,[]⟩:St);let z5:=decide (0≤x3∧x3<(x0.length:Int));(cond (decide (x3<(x0.length:Int))) (cond z5 (cond (C2r (z1.1) ((z1.2).1) ((z1.2).2)) (cond (!(C9k (z1.1) ((z1.2).1) ((z1.2).2))) (some (.ret,z4)) (cond (decide (x3 > (0:Int))) (cond (decide (0≤z3∧z3<(x0.length:Int))) (cond z5 (cond (!(Op.bytesLess (((x0.getD (z3.toNat) ((0:Int),(bE,bE))).2).1).toList ((z1.2).1).toList)) (some (.ret,z4)) (some (.normal,z2))) none) none) (some (.normal,z2)))) none) none) (some ((.exit 0),(⟨((.t false tq4 x0)::D47),[],0,[]⟩:St))))
theorem D1o:RdA G22 aLn 0 C2R A92 0 [] (kepts [2] [(0,[0])]) (fun d=>C6R d.1.1 d.1.2.2.2.1):=by
 intro d
 kernel_rfl
theorem D1v:∀ d:A92.den,(fun d=>C6R d.1.1 d.1.2.2.2.1) d=(B4s d).opt 0 []:=by
 intro d
 kernel_rfl
noncomputable abbrev C5o:St→Option Tree:=A92.say 0 [] [] (fun d=>B5O d.1.1 d.1.2.2.2.1)
theorem D2Q:aPL C5o C2R:=SS.wp2 hlz [] B4s D1o D1v _ (fun d=>D3A d.1.1 d.1.2.2.2.1)
noncomputable def C9h (a0:Lq2):Bool:=(cond (A4H (C65 a0) (a0.length - (0:Int).toNat) (0:Int).toNat) (X1 (a0.length:Int) (1:Int) (8:Int)) false)
noncomputable abbrev C4y (r:Bool):AV×List AObj:=((.t true .bool r),[])
noncomputable abbrev C8u:H7 C0C→AV×List AObj:=fun d=>C4y (C9h d.1)
noncomputable def C43 (a0:Lq2):Bool:=A7I a0
noncomputable abbrev C3M:H7 C0C→Bool:=fun d=>C43 d.1
noncomputable abbrev D5E:Nat→St→Option Tree:=fun b=>match b with | 0=>C5o | _=>fun _=>none
theorem D4r:A7C true G22 (D5E) Try.f95 C0C C3M C8u:=by
 rintro ⟨a0,_⟩ hp
 change C43 a0=true at hp
 unfold C43 at hp
 refine Eq.trans (b:=(cond (decide (0≤(0:Int))&&A7I a0) (cond (A4H (C65 a0) (a0.length - (0:Int).toNat) (0:Int).toNat) (some (C4y (X1 (a0.length:Int) (1:Int) (8:Int)))) (some (C4y false))) none)) (by kernel_rfl) ?_
 exact (A7F (by first | rfl | decide | exact hp | (simp only [Bool.and_eq_true] at hp;simp only [hp];done) | (simp [*];done) | (simp [okL] at hp;simp [okL,MAXB];omega) | (simp_all;done) | (simp at *;omega)) (fun _h=>(Q2 C4y (fun _h=>rfl) (fun _h=>rfl))))
theorem D5X:aPP 95 (A22 C0C C3M C8u):=pcD true G22 (hl1 (i:=0) (by kernel_rfl) D2Q) D4r
noncomputable def S23:Tab:=Tab.add S22 95 (lift (A22 C0C C3M C8u))
noncomputable def D7L:FuncId→Bool:=qadd D7K 95
theorem G23:aPG S23 D7L:=G22.addQ D5X (cbl Try.f95) (fun _=>rfl)

abbrev C0D:List PSh:=[.agg [(.int .i64),(.int .i64),tq4]]
noncomputable def B1O (a0 a1:Int) (a2:Lq2):Bool:=(cond (!(X1 a1 (1:Int) (1000000:Int))) false (cond (a0==(1:Int)) (C9h a2) (cond (a0==(2:Int)) ((a2.length:Int)==(0:Int)) (cond (a0==(3:Int)) ((a2.length:Int)==(0:Int)) false))))
noncomputable abbrev B2B (r:Bool):AV×List AObj:=((.t true .bool r),[])
noncomputable abbrev C8v:H7 C0D→AV×List AObj:=fun d=>B2B (B1O d.1.1 d.1.2.1 d.1.2.2.1)
noncomputable def B4k (a0 a1:Int) (a2:Lq2):Bool:=A7I a2
noncomputable abbrev C3N:H7 C0D→Bool:=fun d=>B4k d.1.1 d.1.2.1 d.1.2.2.1
theorem D4s:A7C true G23 aLn Try.f122 C0D C3N C8v:=by
 rintro ⟨⟨a0,⟨a1,⟨a2,_⟩⟩⟩,_⟩ hp
 change B4k a0 a1 a2=true at hp
 unfold B4k at hp
 refine Eq.trans (b:=(let z1:=B2B ((a2.length:Int)==(0:Int));cond (!(X1 a1 (1:Int) (1000000:Int))) (some (B2B false)) (cond (a0==(1:Int)) (cond (C43 a2) (some (B2B (C9h a2))) none) (cond (a0==(2:Int)) (some z1) (cond (a0==(3:Int)) (some z1) (some (B2B false))))))) (by kernel_rfl) ?_
 exact (Q2 B2B (fun _h=>rfl) (fun _h=>(Q2 B2B (fun _h=>(A7F (by first | rfl | decide | exact hp | (simp only [Bool.and_eq_true] at hp;simp only [hp];done) | (simp [*];done) | (simp [okL] at hp;simp [okL,MAXB];omega) | (simp_all;done) | (simp at *;omega)) (fun _h=>rfl))) (fun _h=>(Q2 B2B (fun _h=>rfl) (fun _h=>(Q2 B2B (fun _h=>rfl) (fun _h=>rfl))))))))
theorem D5Y:aPP 122 (A22 C0D C3N C8v):=pcD true G23 hlz D4s
noncomputable def S24:Tab:=Tab.add S23 122 (lift (A22 C0D C3N C8v))
noncomputable def D7M:FuncId→Bool:=qadd D7L 122
theorem G24:aPG S24 D7M:=G23.addQ D5Y (cbl Try.f122) (fun _=>rfl)

abbrev D9f:Ty:=.sl (.int .i64)
abbrev D6a:List Sh:=.junk::.junk::.junk::.junk::.junk::.junk::.junk::.junk::.junk::.junk::.junk::.junk::[]
abbrev D85:List Sh:=.junk::D6a
abbrev u14:=((),(),(),(),(),(),(),(),(),(),(),(),(),())
abbrev u13:=((),(),(),(),(),(),(),(),(),(),(),(),())
abbrev C0E:List PSh:=[.t D9f,.t (.int .i64)]
abbrev B1B:SS:=⟨(.t false D9f::tI::.junk::.junk::.junk::tI::D6a),[]⟩
abbrev C38:SS:=⟨(.junk::.junk::.junk::.junk::.t true .bool::D85),[]⟩
abbrev C39:SS:=⟨(.junk::D60),[]⟩
noncomputable def C7d (x0:List Int) (x1 x5:Int):RT B1B.den:=(.br (decide (x5<(x0.length:Int))) (.br (decide (0≤x5∧x5<(x0.length:Int))) (.br ((x0.getD x5.toNat (0:Int))==x1) (.done .ret C38 (((),(),(),(),true,u14),())) (.next ((x0,x1,(),(),(),wI (x5+(1:Int)),u13),()))) .fail) (.done (.exit 0) C39 ((u19),())))
abbrev B5P:=(List Int)×(Int)×(Int)
abbrev B3f:=Nat×(Bool)
def C6A:B3f:=(99,(false:Bool))
noncomputable def B66 (x0:List Int) (x1 x5:Int):B5P ⊕ B3f:=(cond (decide (x5<(x0.length:Int))) (cond (decide (0≤x5∧x5<(x0.length:Int))) (cond ((x0.getD x5.toNat (0:Int))==x1) (.inr (0,true)) (.inl (x0,x1,wI (x5+(1:Int))))) (.inr C6A)) (.inr (1,(false:Bool))))
noncomputable def B11 (x0:List Int) (x1 x5:Int):B3f:=itX (fun v:B5P=>B66 v.1 v.2.1 v.2.2) C6A (x0,x1,x5)
noncomputable def C0Y (a:B3f):CT:=(.br (a.1==0) (.done .ret C38 (((),(),(),(),a.2,u14),())) (.br (a.1==1) (.done (.exit 0) C39 ((u19),())) .fail))
noncomputable def D3H (x0:List Int) (x1 x5:Int):CT:=C0Y (B11 x0 x1 x5)
noncomputable abbrev C1V:B1B.den→RT B1B.den:=(fun d=>C7d d.1.1 d.1.2.1 d.1.2.2.2.2.2.1)
noncomputable def C2S:Code:=((D4 0 (A1l Try.f123)).getD 0 (0,.skip)).2
noncomputable abbrev C64 (v:B5P):B1B.den:=((v.1,v.2.1,(),(),(),v.2.2,u13),())
theorem D22:(∀ v:B5P,(C7d v.1 v.2.1 v.2.2).val=A6D C64 C0Y (B66 v.1 v.2.1 v.2.2))∧∀ a:B3f,CEnd B1B.den (C0Y a):=⟨fun v=>(A7H (A7H (A7H rfl rfl) rfl) rfl),fun a=>(A7u aCD (A7u aCD A7w))⟩
theorem D1p:RdA G24 aLn 0 C2S B1B 0 [] (kepts [4] [(0,[])]) (fun d=>(C1V d).opt 0 []):=by
 intro d
 kernel_rfl
noncomputable abbrev C5p:St→Option Tree:=B1B.say 0 [] [] (fun d=>D3H d.1.1 d.1.2.1 d.1.2.2.2.2.2.1)
theorem D2R:aPL C5p C2S:=SS.wp2 hlz [] C1V D1p (fun d=>rfl) _ (fun d=>Runs.ofI2 (step:=C1V) C64 D22 rfl (d.1.1,d.1.2.1,d.1.2.2.2.2.2.1))
noncomputable def B3D (a0:List Int) (a1:Int):Bool:=let z1:=B11 a0 a1 (0:Int);(cond (z1.1==0) (z1.2) false)
noncomputable abbrev C4A (r:Bool):AV×List AObj:=((.t true .bool r),[])
noncomputable abbrev C8w:H7 C0E→AV×List AObj:=fun d=>C4A (B3D d.1 d.2.1)
noncomputable def A8Q (a0:List Int) (a1:Int):Bool:=let z1:=B11 a0 a1 (0:Int);cond (z1.1==0) true (z1.1==1)
noncomputable abbrev C3O:H7 C0E→Bool:=fun d=>A8Q d.1 d.2.1
noncomputable abbrev D5F:Nat→St→Option Tree:=fun b=>match b with | 0=>C5p | _=>fun _=>none
theorem D4t:A7C true G24 (D5F) Try.f123 C0E C3O C8w:=by
 rintro ⟨a0,⟨a1,_⟩⟩ hp
 change A8Q a0 a1=true at hp
 unfold A8Q at hp
 refine Eq.trans (b:=(let z1:=B11 a0 a1 (0:Int);cond (z1.1==0) (some (C4A (z1.2))) (cond (z1.1==1) (some (C4A false)) none))) (by kernel_rfl) ?_
 exact (L8 C4A hp (fun hp=>rfl) (fun hp=>(A7F hp fun _h=>rfl)))
theorem D5Z:aPP 123 (A22 C0E C3O C8w):=pcD true G24 (hl1 (i:=0) (by kernel_rfl) D2R) D4t
noncomputable def S25:Tab:=Tab.add S24 123 (lift (A22 C0E C3O C8w))
noncomputable def D7N:FuncId→Bool:=qadd D7M 123
theorem G25:aPG S25 D7N:=G24.addQ D5Z (cbl Try.f123) (fun _=>rfl)

abbrev D6f:List Sh:=.junk::D6e
abbrev D5c:List Sh:=.junk::.junk::.junk::D6f
abbrev D6g:List Sh:=.junk::D6f
abbrev u41:=((),(),(),(),u37)
abbrev u38:=((),u37)
abbrev u39:=((),u38)
abbrev D48:List AV:=.junk::.junk::.junk::.junk::D47
abbrev D6Z:List AV:=.junk::D47
abbrev D30:List AV:=.junk::D6Z
abbrev D7r:List Sh:=.junk::D6g
abbrev u40:=((),u39)
abbrev D7p:List AV:=.junk::D30
abbrev D9a:List Sh:=.junk::.junk::.junk::.junk::D5c
abbrev u46:=((),(),(),(),(),u41)
abbrev D8Z:List AV:=.junk::.junk::.junk::.junk::D48
abbrev B32:List PSh:=[.t tq3,.t tq4]
noncomputable def B3n:Code:=((D4 0 (A1l Try.f97)).getD 0 (0,.skip)).2
noncomputable def B3o:Code:=((D4 0 B3n).getD 0 (0,.skip)).2
noncomputable def B7W:Code:=((D4 2 B3o).getD 0 (0,.skip)).2
abbrev X3:SS:=⟨(.t false tq3::.t false tq4::.junk::.junk::.junk::tI::tI::tI::D6f),[]⟩
abbrev B9M:SS:=⟨(.junk::.junk::.junk::.junk::.t true .bool::D5c),[]⟩
abbrev B9N:SS:=⟨(.t false tq3::.t false tq4::.junk::.junk::.junk::tI::tI::D6g),[]⟩
noncomputable def C17 (x0:Lq1) (x1:Lq2) (x5 x6 x7:Int):RT X3.den:=let z1:=((x0.getD x5.toNat ((0:Int),((0:Int),[]))).2).2;(.br (decide (x7<(x1.length:Int))) (.br (decide (0≤x5∧x5<(x0.length:Int))) (.br (decide (0≤x6∧x6<((z1.length:Nat):Int))) (.br (decide (0≤x7∧x7<(x1.length:Int))) (.br ((((z1.getD x6.toNat ((0:Int),(bE,bE))).2).1).toList==(((x1.getD x7.toNat ((0:Int),(bE,bE))).2).1).toList) (.done .ret B9M (((),(),(),(),true,u41),())) (.next ((x0,x1,(),(),(),x5,x6,wI (x7+(1:Int)),u38),()))) .fail) .fail) .fail) (.done (.exit 4) B9N ((x0,x1,(),(),(),x5,x6,u39),())))
abbrev A9z:=(Lq1)×Lq2×(Int)×(Int)×(Int)
abbrev B05:=Nat×(Bool)×Lq1×Lq2×(Int)×(Int)
def B0a:B05:=(99,(false:Bool),([]:Lq1),([]:Lq2),((0:Int):Int),((0:Int):Int))
noncomputable def A8W (x0:Lq1) (x1:Lq2) (x5 x6 x7:Int):A9z ⊕ B05:=let z1:=((x0.getD x5.toNat ((0:Int),((0:Int),[]))).2).2;(cond (decide (x7<(x1.length:Int))) (cond (decide (0≤x5∧x5<(x0.length:Int))) (cond (decide (0≤x6∧x6<((z1.length:Nat):Int))) (cond (decide (0≤x7∧x7<(x1.length:Int))) (cond ((((z1.getD x6.toNat ((0:Int),(bE,bE))).2).1).toList==(((x1.getD x7.toNat ((0:Int),(bE,bE))).2).1).toList) (.inr (0,true,([]:Lq1),([]:Lq2),((0:Int):Int),((0:Int):Int))) (.inl (x0,x1,x5,x6,wI (x7+(1:Int))))) (.inr B0a)) (.inr B0a)) (.inr B0a)) (.inr (1,(false:Bool),x0,x1,x5,x6)))
noncomputable def B0j (x0:Lq1) (x1:Lq2) (x5 x6 x7:Int):B05:=itX (fun v:A9z=>A8W v.1 v.2.1 v.2.2.1 v.2.2.2.1 v.2.2.2.2) B0a (x0,x1,x5,x6,x7)
noncomputable def B52 (a:B05):CT:=(.br (a.1==0) (.done .ret B9M (((),(),(),(),a.2.1,u41),())) (.br (a.1==1) (.done (.exit 4) B9N ((a.2.2.1,a.2.2.2.1,(),(),(),a.2.2.2.2.1,a.2.2.2.2.2,u39),())) .fail))
noncomputable def C9z (x0:Lq1) (x1:Lq2) (x5 x6 x7:Int):CT:=B52 (B0j x0 x1 x5 x6 x7)
noncomputable abbrev B2w {α:Sort _} (f:Lq1→Lq2→Int→Int→Int→α) (d:X3.den):α:=f d.1.1 d.1.2.1 d.1.2.2.2.2.2.1 d.1.2.2.2.2.2.2.1 d.1.2.2.2.2.2.2.2.1
noncomputable abbrev B6w:X3.den→RT X3.den:=(B2w C17)
noncomputable abbrev C1D (v:A9z):X3.den:=((v.1,v.2.1,(),(),(),v.2.2.1,v.2.2.2.1,v.2.2.2.2,u38),())
theorem C86:(∀ v:A9z,(C17 v.1 v.2.1 v.2.2.1 v.2.2.2.1 v.2.2.2.2).val=A6D C1D B52 (A8W v.1 v.2.1 v.2.2.1 v.2.2.2.1 v.2.2.2.2))∧∀ a:B05,CEnd X3.den (B52 a):=⟨fun v=>(A7H (A7H (A7H (A7H (A7H rfl rfl) rfl) rfl) rfl) rfl),fun a=>(A7u aCD (A7u aCD A7w))⟩
noncomputable def C1h (x0:Lq1) (x1:Lq2) (x5 x6 x7:Int):Option (Ex×St):=let z1:=((x0.getD x5.toNat ((0:Int),((0:Int),[]))).2).2;(cond (decide (x7<(x1.length:Int))) (cond (decide (0≤x5∧x5<(x0.length:Int))) (cond (decide (0≤x6∧x6<((z1.length:Nat):Int))) (cond (decide (0≤x7∧x7<(x1.length:Int))) (cond ((((z1.getD x6.toNat ((0:Int),(bE,bE))).2).1).toList==(((x1.getD x7.toNat ((0:Int),(bE,bE))).2).1).toList) (some (.ret,(⟨(.junk::.junk::.junk::.junk::(.t true .bool true)::D48),[],0,[]⟩:St))) (some (.normal,(⟨((.t false tq3 x0)::(.t false tq4 x1)::.junk::.junk::.junk::(ti x5)::(ti x6)::(ti (wI (x7+(1:Int))))::D6Z),[],0,[]⟩:St)))) none) none) none) (some ((.exit 4),(⟨((.t false tq3 x0)::(.t false tq4 x1)::.junk::.junk::.junk::(ti x5)::(ti x6)::D30),[],0,[]⟩:St))))
theorem C7v:RdA G25 aLn 4 B7W X3 0 [] (kepts [4] [(4,[0,1,5,6])]) (B2w C1h):=by
 intro d
 kernel_rfl
theorem C7A:∀ d:X3.den,(B2w C1h) d=(B6w d).opt 0 []:=by
 intro d
 kernel_rfl
noncomputable abbrev C0a:St→Option Tree:=X3.say 0 [] [] (B2w C9z)
theorem C8K:aPL C0a B7W:=SS.wp2 hlz [] B6w C7v C7A _ (fun d=>Runs.ofI2 (step:=B6w) C1D C86 rfl (d.1.1,d.1.2.1,d.1.2.2.2.2.2.1,d.1.2.2.2.2.2.2.1,d.1.2.2.2.2.2.2.2.1))
abbrev X2:SS:=⟨(.t false tq3::.t false tq4::.junk::.junk::.junk::tI::tI::D6g),[]⟩
abbrev B9K:SS:=⟨(.junk::.junk::.junk::.junk::.t true .bool::D5c),[]⟩
abbrev B9L:SS:=⟨(.t false tq3::.t false tq4::.junk::.junk::.junk::tI::D7r),[]⟩
noncomputable def C16 (x0:Lq1) (x1:Lq2) (x5 x6:Int):RT X2.den:=let z1:=B0j x0 x1 x5 x6 (0:Int);(.br (decide (0≤x5∧x5<(x0.length:Int))) (.br (decide (x6<(((((x0.getD x5.toNat ((0:Int),((0:Int),[]))).2).2).length:Nat):Int))) (.br (z1.1==0) (.done .ret B9K (((),(),(),(),(z1.2.1),u41),())) (.br (z1.1==1) (.next (((z1.2.2.1),(z1.2.2.2.1),(),(),(),(z1.2.2.2.2.1),wI ((z1.2.2.2.2.2)+(1:Int)),u39),())) .fail)) (.done (.exit 2) B9L ((x0,x1,(),(),(),x5,u40),()))) .fail)
abbrev A9y:=(Lq1)×Lq2×(Int)×(Int)
abbrev B04:=Nat×(Bool)×Lq1×Lq2×(Int)
def B2D:B04:=(99,(false:Bool),([]:Lq1),([]:Lq2),((0:Int):Int))
noncomputable def A72 (x0:Lq1) (x1:Lq2) (x5 x6:Int):A9y ⊕ B04:=let z1:=B0j x0 x1 x5 x6 (0:Int);(cond (decide (0≤x5∧x5<(x0.length:Int))) (cond (decide (x6<(((((x0.getD x5.toNat ((0:Int),((0:Int),[]))).2).2).length:Nat):Int))) (cond (z1.1==0) (.inr (0,(z1.2.1),([]:Lq1),([]:Lq2),((0:Int):Int))) (cond (z1.1==1) (.inl ((z1.2.2.1),(z1.2.2.2.1),(z1.2.2.2.2.1),wI ((z1.2.2.2.2.2)+(1:Int)))) (.inr B2D))) (.inr (1,(false:Bool),x0,x1,x5))) (.inr B2D))
noncomputable def B0i (x0:Lq1) (x1:Lq2) (x5 x6:Int):B04:=itX (fun v:A9y=>A72 v.1 v.2.1 v.2.2.1 v.2.2.2) B2D (x0,x1,x5,x6)
noncomputable def B51 (a:B04):CT:=(.br (a.1==0) (.done .ret B9K (((),(),(),(),a.2.1,u41),())) (.br (a.1==1) (.done (.exit 2) B9L ((a.2.2.1,a.2.2.2.1,(),(),(),a.2.2.2.2,u40),())) .fail))
noncomputable def C9y (x0:Lq1) (x1:Lq2) (x5 x6:Int):CT:=B51 (B0i x0 x1 x5 x6)
noncomputable abbrev B2v {α:Sort _} (f:Lq1→Lq2→Int→Int→α) (d:X2.den):α:=f d.1.1 d.1.2.1 d.1.2.2.2.2.2.1 d.1.2.2.2.2.2.2.1
noncomputable abbrev B6v:X2.den→RT X2.den:=(B2v C16)
noncomputable abbrev C1C (v:A9y):X2.den:=((v.1,v.2.1,(),(),(),v.2.2.1,v.2.2.2,u39),())
theorem C85:(∀ v:A9y,(C16 v.1 v.2.1 v.2.2.1 v.2.2.2).val=A6D C1C B51 (A72 v.1 v.2.1 v.2.2.1 v.2.2.2))∧∀ a:B04,CEnd X2.den (B51 a):=⟨fun v=>(A7H (A7H (A7H rfl (A7H rfl rfl)) rfl) rfl),fun a=>(A7u aCD (A7u aCD A7w))⟩
noncomputable abbrev C9r:Nat→St→Option Tree:=fun b=>match b with | 4=>C0a | _=>fun _=>none
noncomputable def C1g (x0:Lq1) (x1:Lq2) (x5 x6:Int):Option (Ex×St):=let z1:=B0j x0 x1 x5 x6 (0:Int);(cond (decide (0≤x5∧x5<(x0.length:Int))) (cond (decide (x6<(((((x0.getD x5.toNat ((0:Int),((0:Int),[]))).2).2).length:Nat):Int))) (cond (z1.1==0) (some (.ret,(⟨(.junk::.junk::.junk::.junk::(.t true .bool (z1.2.1))::D48),[],0,[]⟩:St))) (cond (z1.1==1) (some (.normal,(⟨((.t false tq3 (z1.2.2.1))::(.t false tq4 (z1.2.2.2.1))::.junk::.junk::.junk::(ti (z1.2.2.2.2.1))::(ti (wI ((z1.2.2.2.2.2)+(1:Int))))::D30),[],0,[]⟩:St))) none)) (some ((.exit 2),(⟨((.t false tq3 x0)::(.t false tq4 x1)::.junk::.junk::.junk::(ti x5)::D7p),[],0,[]⟩:St)))) none)
theorem C7u:RdA G25 (C9r) 2 B3o X2 0 [] (kepts [4] [(2,[0,1,5])]) (B2v C1g):=by
 intro d
 kernel_rfl
theorem C7z:∀ d:X2.den,(B2v C1g) d=(B6v d).opt 0 []:=by
 intro d
 kernel_rfl
noncomputable abbrev B99:St→Option Tree:=X2.say 0 [] [] (B2v C9y)
theorem C8J:aPL B99 B3o:=SS.wp2 (hl1 (i:=4) (by kernel_rfl) C8K) [] B6v C7u C7z _ (fun d=>Runs.ofI2 (step:=B6v) C1C C85 rfl (d.1.1,d.1.2.1,d.1.2.2.2.2.2.1,d.1.2.2.2.2.2.2.1))
abbrev A0s:SS:=⟨(.t false tq3::.t false tq4::.junk::.junk::.junk::tI::D7r),[]⟩
abbrev B9I:SS:=⟨(.junk::.junk::.junk::.junk::.t true .bool::D5c),[]⟩
abbrev B9J:SS:=⟨(.junk::D9a),[]⟩
noncomputable def C15 (x0:Lq1) (x1:Lq2) (x5:Int):RT A0s.den:=let z1:=B0i x0 x1 x5 (0:Int);(.br (decide (x5<(x0.length:Int))) (.br (z1.1==0) (.done .ret B9I (((),(),(),(),(z1.2.1),u41),())) (.br (z1.1==1) (.next (((z1.2.2.1),(z1.2.2.2.1),(),(),(),wI ((z1.2.2.2.2)+(1:Int)),u40),())) .fail)) (.done (.exit 0) B9J ((u46),())))
abbrev A9x:=(Lq1)×Lq2×(Int)
abbrev B03:=Nat×(Bool)
def B54:B03:=(99,(false:Bool))
noncomputable def B0y (x0:Lq1) (x1:Lq2) (x5:Int):A9x ⊕ B03:=let z1:=B0i x0 x1 x5 (0:Int);(cond (decide (x5<(x0.length:Int))) (cond (z1.1==0) (.inr (0,(z1.2.1))) (cond (z1.1==1) (.inl ((z1.2.2.1),(z1.2.2.2.1),wI ((z1.2.2.2.2)+(1:Int)))) (.inr B54))) (.inr (1,(false:Bool))))
noncomputable def B0h (x0:Lq1) (x1:Lq2) (x5:Int):B03:=itX (fun v:A9x=>B0y v.1 v.2.1 v.2.2) B54 (x0,x1,x5)
noncomputable def B50 (a:B03):CT:=(.br (a.1==0) (.done .ret B9I (((),(),(),(),a.2,u41),())) (.br (a.1==1) (.done (.exit 0) B9J ((u46),())) .fail))
noncomputable def C9x (x0:Lq1) (x1:Lq2) (x5:Int):CT:=B50 (B0h x0 x1 x5)
noncomputable abbrev B6u:A0s.den→RT A0s.den:=(fun d=>C15 d.1.1 d.1.2.1 d.1.2.2.2.2.2.1)
noncomputable abbrev C1B (v:A9x):A0s.den:=((v.1,v.2.1,(),(),(),v.2.2,u40),())
theorem C84:(∀ v:A9x,(C15 v.1 v.2.1 v.2.2).val=A6D C1B B50 (B0y v.1 v.2.1 v.2.2))∧∀ a:B03,CEnd A0s.den (B50 a):=⟨fun v=>(A7H (A7H rfl (A7H rfl rfl)) rfl),fun a=>(A7u aCD (A7u aCD A7w))⟩
noncomputable abbrev C9q:Nat→St→Option Tree:=fun b=>match b with | 2=>B99 | _=>fun _=>none
noncomputable def C1f (x0:Lq1) (x1:Lq2) (x5:Int):Option (Ex×St):=let z1:=B0i x0 x1 x5 (0:Int);(cond (decide (x5<(x0.length:Int))) (cond (z1.1==0) (some (.ret,(⟨(.junk::.junk::.junk::.junk::(.t true .bool (z1.2.1))::D48),[],0,[]⟩:St))) (cond (z1.1==1) (some (.normal,(⟨((.t false tq3 (z1.2.2.1))::(.t false tq4 (z1.2.2.2.1))::.junk::.junk::.junk::(ti (wI ((z1.2.2.2.2)+(1:Int))))::D7p),[],0,[]⟩:St))) none)) (some ((.exit 0),(⟨(.junk::D8Z),[],0,[]⟩:St))))
theorem C7t:RdA G25 (C9q) 0 B3n A0s 0 [] (kepts [4] [(0,[])]) (fun d=>C1f d.1.1 d.1.2.1 d.1.2.2.2.2.2.1):=by
 intro d
 kernel_rfl
theorem C7y:∀ d:A0s.den,(fun d=>C1f d.1.1 d.1.2.1 d.1.2.2.2.2.2.1) d=(B6u d).opt 0 []:=by
 intro d
 kernel_rfl
noncomputable abbrev B98:St→Option Tree:=A0s.say 0 [] [] (fun d=>C9x d.1.1 d.1.2.1 d.1.2.2.2.2.2.1)
theorem C8I:aPL B98 B3n:=SS.wp2 (hl1 (i:=2) (by kernel_rfl) C8J) [] B6u C7t C7y _ (fun d=>Runs.ofI2 (step:=B6u) C1B C84 rfl (d.1.1,d.1.2.1,d.1.2.2.2.2.2.1))
noncomputable def B0Q (a0:Lq1) (a1:Lq2):Bool:=let z1:=B0h a0 a1 (0:Int);(cond (z1.1==0) (z1.2) false)
noncomputable abbrev B6V (r:Bool):AV×List AObj:=((.t true .bool r),[])
noncomputable abbrev C06:H7 B32→AV×List AObj:=fun d=>B6V (B0Q d.1 d.2.1)
noncomputable def A8v (a0:Lq1) (a1:Lq2):Bool:=let z1:=B0h a0 a1 (0:Int);cond (z1.1==0) true (z1.1==1)
noncomputable abbrev B7n:H7 B32→Bool:=fun d=>A8v d.1 d.2.1
noncomputable abbrev D12:Nat→St→Option Tree:=fun b=>match b with | 0=>B98 | _=>fun _=>none
theorem C94:A7C true G25 (D12) Try.f97 B32 B7n C06:=by
 rintro ⟨a0,⟨a1,_⟩⟩ hp
 change A8v a0 a1=true at hp
 unfold A8v at hp
 refine Eq.trans (b:=(let z1:=B0h a0 a1 (0:Int);cond (z1.1==0) (some (B6V (z1.2))) (cond (z1.1==1) (some (B6V false)) none))) (by kernel_rfl) ?_
 exact (L8 B6V hp (fun hp=>rfl) (fun hp=>(A7F hp fun _h=>rfl)))
theorem D2k:aPP 97 (A22 B32 B7n C06):=pcD true G25 (hl1 (i:=0) (by kernel_rfl) C8I) C94
noncomputable def S26:Tab:=Tab.add S25 97 (lift (A22 B32 B7n C06))
noncomputable def D7O:FuncId→Bool:=qadd D7N 97
theorem G26:aPG S26 D7O:=G25.addQ D2k (cbl Try.f97) (fun _=>rfl)

abbrev u20:=((),u19)
abbrev B7P:List PSh:=[.t tq6,.t .str]
abbrev A90:SS:=⟨(.t false tq6::.t true .str::.junk::.junk::.junk::.junk::tI::D2C),[]⟩
abbrev C2D:SS:=⟨(.junk::.junk::.junk::.junk::.t true .str::.t true .bool::D5b),[]⟩
abbrev C2E:SS:=⟨(.junk::D63),[]⟩
noncomputable def C5y (x0:LBBe) (x1:ByteArray) (x6:Int):RT A90.den:=let z1:=decide (0≤x6∧x6<(x0.length:Int));let z2:=x0.getD x6.toNat (bE,bE);(.br (decide (x6<(x0.length:Int))) (.br z1 (.br ((z2.1).toList==x1.toList) (.br z1 (.done .ret C2D (((),(),(),(),z2.2,true,u20),())) .fail) (.next ((x0,x1,(),(),(),(),wI (x6+(1:Int)),u19),()))) .fail) (.done (.exit 0) C2E ((u26),())))
abbrev B1U:=(LBBe)×(ByteArray)×(Int)
abbrev B1R:=Nat×(ByteArray)×(Bool)
def B5b:B1R:=(99,(bE:ByteArray),(false:Bool))
noncomputable def B25 (x0:LBBe) (x1:ByteArray) (x6:Int):B1U ⊕ B1R:=let z1:=decide (0≤x6∧x6<(x0.length:Int));let z2:=x0.getD x6.toNat (bE,bE);(cond (decide (x6<(x0.length:Int))) (cond z1 (cond ((z2.1).toList==x1.toList) (cond z1 (.inr (0,z2.2,true)) (.inr B5b)) (.inl (x0,x1,wI (x6+(1:Int))))) (.inr B5b)) (.inr (1,(bE:ByteArray),(false:Bool))))
noncomputable def B2J (x0:LBBe) (x1:ByteArray) (x6:Int):B1R:=itX (fun v:B1U=>B25 v.1 v.2.1 v.2.2) B5b (x0,x1,x6)
noncomputable def B8J (a:B1R):CT:=(.br (a.1==0) (.done .ret C2D (((),(),(),(),a.2.1,a.2.2,u20),())) (.br (a.1==1) (.done (.exit 0) C2E ((u26),())) .fail))
noncomputable def D19 (x0:LBBe) (x1:ByteArray) (x6:Int):CT:=B8J (B2J x0 x1 x6)
noncomputable abbrev B9B:A90.den→RT A90.den:=(fun d=>C5y d.1.1 d.1.2.1 d.1.2.2.2.2.2.2.1)
noncomputable def C0N:Code:=((D4 0 (A1l Try.f130)).getD 0 (0,.skip)).2
noncomputable abbrev C4Y (v:B1U):A90.den:=((v.1,v.2.1,(),(),(),(),v.2.2,u19),())
theorem D1C:(∀ v:B1U,(C5y v.1 v.2.1 v.2.2).val=A6D C4Y B8J (B25 v.1 v.2.1 v.2.2))∧∀ a:B1R,CEnd A90.den (B8J a):=⟨fun v=>(A7H (A7H (A7H (A7H rfl rfl) rfl) rfl) rfl),fun a=>(A7u aCD (A7u aCD A7w))⟩
theorem C9S:RdA G26 aLn 0 C0N A90 0 [] (kepts [4,5] [(0,[])]) (fun d=>(B9B d).opt 0 []):=by
 intro d
 kernel_rfl
noncomputable abbrev C3c:St→Option Tree:=A90.say 0 [] [] (fun d=>D19 d.1.1 d.1.2.1 d.1.2.2.2.2.2.2.1)
theorem D1a:aPL C3c C0N:=SS.wp2 hlz [] B9B C9S (fun d=>rfl) _ (fun d=>Runs.ofI2 (step:=B9B) C4Y D1C rfl (d.1.1,d.1.2.1,d.1.2.2.2.2.2.2.1))
noncomputable def B2Y (a0:LBBe) (a1:ByteArray):ByteArray×Bool:=let z1:=B2J a0 a1 (0:Int);(cond (z1.1==0) ((z1.2.1),(z1.2.2)) (bE,false))
noncomputable abbrev C2d (r:ByteArray×Bool):AV×List AObj:=((.tup [(.t true .str r.1),(.t true .bool r.2)]),[])
noncomputable abbrev C5S:H7 B7P→AV×List AObj:=fun d=>C2d (B2Y d.1 d.2.1)
noncomputable def B18 (a0:LBBe) (a1:ByteArray):Bool:=let z1:=B2J a0 a1 (0:Int);cond (z1.1==0) true (z1.1==1)
noncomputable abbrev C1v:H7 B7P→Bool:=fun d=>B18 d.1 d.2.1
noncomputable abbrev D4K:Nat→St→Option Tree:=fun b=>match b with | 0=>C3c | _=>fun _=>none
theorem D3f:A7C true G26 (D4K) Try.f130 B7P C1v C5S:=by
 rintro ⟨a0,⟨a1,_⟩⟩ hp
 change B18 a0 a1=true at hp
 unfold B18 at hp
 refine Eq.trans (b:=(let z1:=B2J a0 a1 (0:Int);cond (z1.1==0) (some (C2d ((z1.2.1),(z1.2.2)))) (cond (z1.1==1) (some (C2d ((⟨#[]⟩:ByteArray),false))) none))) (by kernel_rfl) ?_
 exact (L8 C2d hp (fun hp=>rfl) (fun hp=>(A7F hp fun _h=>rfl)))
theorem D41:aPP 130 (A22 B7P C1v C5S):=pcD true G26 (hl1 (i:=0) (by kernel_rfl) D1a) D3f
noncomputable def S27:Tab:=Tab.add S26 130 (lift (A22 B7P C1v C5S))
noncomputable def D7P:FuncId→Bool:=qadd D7O 130
theorem G27:aPG S27 D7P:=G26.addQ D41 (cbl Try.f130) (fun _=>rfl)

abbrev D89:List Sh:=.junk::D5c
abbrev D9y:List Sh:=.junk::D89
abbrev D66:List Sh:=.junk::.junk::D9a
abbrev u42:=((),u41)
abbrev u43:=((),u42)
abbrev u48:=((),(),u46)
abbrev D8Y:List AV:=.junk::D48
abbrev D9s:List AV:=.junk::D8Y
abbrev D49:List AV:=.junk::.junk::D8Z
abbrev C0B:List PSh:=[.t tq6,.t tq4]
abbrev A91:SS:=⟨(.t false tq6::.t false tq4::.junk::.junk::.junk::tI::D89),[]⟩
abbrev B8A:SS:=⟨(.junk::.junk::.junk::.junk::.t true .bool::D9y),[]⟩
abbrev C36:SS:=⟨(.junk::D66),[]⟩
noncomputable def C2j (x0:LBBe) (x1:Lq2) (x5:Int):=B2Y x0 (((x1.getD x5.toNat ((0:Int),(bE,bE))).2).1)
noncomputable def C7c (x0:LBBe) (x1:Lq2) (x5:Int):RT A91.den:=let z1:=x1.getD x5.toNat ((0:Int),(bE,bE));let z2:=decide (0≤x5∧x5<(x1.length:Int));let z3:=C2j x0 x1 x5;(.br (decide (x5<(x1.length:Int))) (.br z2 (.br ((z1.1) != (3:Int)) (.next ((x0,x1,(),(),(),wI (x5+(1:Int)),u42),())) (.br z2 (.br (B18 x0 ((z1.2).1)) (.br z2 (.br (!((z3.2)==(!(((z1.2).2).toList==bE.toList)))) (.done .ret B8A (((),(),(),(),false,u43),())) (.br z2 (.br (!((z3.1).toList==((z1.2).2).toList)) (.done .ret B8A (((),(),(),(),false,u43),())) (.next ((x0,x1,(),(),(),wI (x5+(1:Int)),u42),()))) .fail)) .fail) .fail) .fail)) .fail) (.done (.exit 0) C36 ((u48),())))
abbrev B3m:=(LBBe)×Lq2×(Int)
abbrev B5r:=Nat×(Bool)
def A99:B5r:=(99,(false:Bool))
noncomputable def B4w (x0:LBBe) (x1:Lq2) (x5:Int):B3m ⊕ B5r:=let z1:=x1.getD x5.toNat ((0:Int),(bE,bE));let z2:=decide (0≤x5∧x5<(x1.length:Int));let z3:=C2j x0 x1 x5;(cond (decide (x5<(x1.length:Int))) (cond z2 (cond ((z1.1) != (3:Int)) (.inl (x0,x1,wI (x5+(1:Int)))) (cond z2 (cond (B18 x0 ((z1.2).1)) (cond z2 (cond (!((z3.2)==(!(((z1.2).2).toList==bE.toList)))) (.inr (0,false)) (cond z2 (cond (!((z3.1).toList==((z1.2).2).toList)) (.inr (0,false)) (.inl (x0,x1,wI (x5+(1:Int))))) (.inr A99))) (.inr A99)) (.inr A99)) (.inr A99))) (.inr A99)) (.inr (1,(false:Bool))))
noncomputable def B4f (x0:LBBe) (x1:Lq2) (x5:Int):B5r:=itX (fun v:B3m=>B4w v.1 v.2.1 v.2.2) A99 (x0,x1,x5)
noncomputable def C0X (a:B5r):CT:=(.br (a.1==0) (.done .ret B8A (((),(),(),(),a.2,u43),())) (.br (a.1==1) (.done (.exit 0) C36 ((u48),())) .fail))
noncomputable def D3G (x0:LBBe) (x1:Lq2) (x5:Int):CT:=C0X (B4f x0 x1 x5)
noncomputable abbrev C1U:A91.den→RT A91.den:=(fun d=>C7c d.1.1 d.1.2.1 d.1.2.2.2.2.2.1)
noncomputable def C2Q:Code:=((D4 0 (A1l Try.f98)).getD 0 (0,.skip)).2
noncomputable abbrev C63 (v:B3m):A91.den:=((v.1,v.2.1,(),(),(),v.2.2,u42),())
theorem D21:(∀ v:B3m,(C7c v.1 v.2.1 v.2.2).val=A6D C63 C0X (B4w v.1 v.2.1 v.2.2))∧∀ a:B5r,CEnd A91.den (C0X a):=⟨fun v=>by repeat' first | apply A7H | rfl,fun a=>(A7u aCD (A7u aCD A7w))⟩
noncomputable def C6Q (x0:LBBe) (x1:Lq2) (x5:Int):Option (Ex×St):=let z1:=(⟨((.t false tq6 x0)::(.t false tq4 x1)::.junk::.junk::.junk::(ti (wI (x5+(1:Int))))::D8Y),[],0,[]⟩:St);let z2:=x1.getD x5.toNat ((0:Int),(bE,bE));let z3:=decide (0≤x5∧x5<(x1.length:Int));let z4:=(⟨(.junk::.junk::.junk::.junk::(.t true .bool false)::D9s),[],0,[]⟩:St);let z5:=C2j x0 x1 x5;(cond (decide (x5<(x1.length:Int))) (cond z3 (cond ((z2.1) != (3:Int)) (some (.normal,z1)) (cond z3 (cond (B18 x0 ((z2.2).1)) (cond z3 (cond (!((z5.2)==(!(((z2.2).2).toList==bE.toList)))) (some (.ret,z4)) (cond z3 (cond (!((z5.1).toList==((z2.2).2).toList)) (some (.ret,z4)) (some (.normal,z1))) none)) none) none) none)) none) (some ((.exit 0),(⟨(.junk::D49),[],0,[]⟩:St))))
theorem D1n:RdA G27 aLn 0 C2Q A91 0 [] (kepts [4] [(0,[])]) (fun d=>C6Q d.1.1 d.1.2.1 d.1.2.2.2.2.2.1):=by
 intro d
 kernel_rfl
theorem D1u:∀ d:A91.den,(fun d=>C6Q d.1.1 d.1.2.1 d.1.2.2.2.2.2.1) d=(C1U d).opt 0 []:=by
 intro d
 kernel_rfl
noncomputable abbrev C5n:St→Option Tree:=A91.say 0 [] [] (fun d=>D3G d.1.1 d.1.2.1 d.1.2.2.2.2.2.1)
theorem D2P:aPL C5n C2Q:=SS.wp2 hlz [] C1U D1n D1u _ (fun d=>Runs.ofI2 (step:=C1U) C63 D21 rfl (d.1.1,d.1.2.1,d.1.2.2.2.2.2.1))
noncomputable def B9t (a0:LBBe) (a1:Lq2):Bool:=let z1:=B4f a0 a1 (0:Int);(cond (z1.1==0) (z1.2) true)
noncomputable abbrev C4x (r:Bool):AV×List AObj:=((.t true .bool r),[])
noncomputable abbrev C8t:H7 C0B→AV×List AObj:=fun d=>C4x (B9t d.1 d.2.1)
noncomputable def B2W (a0:LBBe) (a1:Lq2):Bool:=let z1:=B4f a0 a1 (0:Int);cond (z1.1==0) true (z1.1==1)
noncomputable abbrev C3L:H7 C0B→Bool:=fun d=>B2W d.1 d.2.1
noncomputable abbrev D5D:Nat→St→Option Tree:=fun b=>match b with | 0=>C5n | _=>fun _=>none
theorem D4q:A7C true G27 (D5D) Try.f98 C0B C3L C8t:=by
 rintro ⟨a0,⟨a1,_⟩⟩ hp
 change B2W a0 a1=true at hp
 unfold B2W at hp
 refine Eq.trans (b:=(let z1:=B4f a0 a1 (0:Int);cond (z1.1==0) (some (C4x (z1.2))) (cond (z1.1==1) (some (C4x true)) none))) (by kernel_rfl) ?_
 exact (L8 C4x hp (fun hp=>rfl) (fun hp=>(A7F hp fun _h=>rfl)))
theorem D5W:aPP 98 (A22 C0B C3L C8t):=pcD true G27 (hl1 (i:=0) (by kernel_rfl) D2P) D4q
noncomputable def S28:Tab:=Tab.add S27 98 (lift (A22 C0B C3L C8t))
noncomputable def D7Q:FuncId→Bool:=qadd D7P 98
theorem G28:aPG S28 D7Q:=G27.addQ D5W (cbl Try.f98) (fun _=>rfl)

abbrev D7s:List Sh:=.junk::.junk::.junk::.junk::.junk::.junk::.junk::D66
abbrev D9d:List Sh:=.junk::.junk::D7s
abbrev D9B:List Sh:=.junk::.junk::.junk::.junk::D9d
abbrev u63:=((),(),(),(),(),(),(),(),(),(),(),(),(),(),(),u48)
abbrev u54:=((),(),(),(),(),(),u48)
abbrev u60:=((),(),(),(),(),(),u54)
abbrev D82:List AV:=.junk::.junk::.junk::.junk::.junk::.junk::.junk::.junk::.junk::D49
abbrev D81:List AV:=.junk::.junk::.junk::.junk::.junk::.junk::.junk::D49
abbrev D9w:List AV:=.junk::.junk::.junk::.junk::D82
abbrev D9c:List Sh:=.junk::.junk::.junk::.junk::.junk::.junk::D66
abbrev u53:=((),(),(),(),(),u48)
abbrev D80:List AV:=.junk::.junk::.junk::.junk::.junk::.junk::D49
abbrev B7Q:List PSh:=[.t tq6,.t .str,.t .str]
noncomputable def B5S:Code:=((D4 0 (A1l Try.f139)).getD 0 (0,.skip)).2
noncomputable def B5T:Code:=((D4 0 (A1l Try.f139)).getD 1 (0,.skip)).2
abbrev A8l:SS:=⟨(.t false tq6::.t true .str::.t true .str::.junk::.junk::.junk::.junk::.all 0 2::tI::D7s),[.rows 70 true J5]⟩
abbrev C2F:SS:=⟨(.junk::.junk::.junk::.junk::.junk::.junk::.all 0 2::D9d),[.rows 70 true J5]⟩
abbrev C2G:SS:=⟨(.t false tq6::.t true .str::.t true .str::D9B),[]⟩
noncomputable def C5z (x0:LBBe) (x1 x2:ByteArray) (x8:Int) (h0:LBBe):RT A8l.den:=let z1:=decide (0≤x8∧x8<(h0.length:Int));let z2:=h0.getD x8.toNat (bE,bE);(.br (decide (x8<(h0.length:Int))) (.br z1 (.br ((z2.1).toList==x1.toList) (.br z1 (.done .ret C2F ((u63),(h0.set x8.toNat (z2.1,x2),()))) .fail) (.next ((x0,x1,x2,(),(),(),(),(),wI (x8+(1:Int)),u54),(h0,())))) .fail) (.done (.exit 0) C2G ((x0,x1,x2,u60),())))
abbrev B1V:=(LBBe)×(ByteArray)×(ByteArray)×(Int)×(LBBe)
abbrev B1S:=Nat×LBBe×LBBe×(ByteArray)×(ByteArray)
def B5c:B1S:=(99,([]:LBBe),([]:LBBe),(bE:ByteArray),(bE:ByteArray))
noncomputable def B26 (x0:LBBe) (x1 x2:ByteArray) (x8:Int) (h0:LBBe):B1V ⊕ B1S:=let z1:=decide (0≤x8∧x8<(h0.length:Int));let z2:=h0.getD x8.toNat (bE,bE);(cond (decide (x8<(h0.length:Int))) (cond z1 (cond ((z2.1).toList==x1.toList) (cond z1 (.inr (0,h0.set x8.toNat (z2.1,x2),([]:LBBe),(bE:ByteArray),(bE:ByteArray))) (.inr B5c)) (.inl (x0,x1,x2,wI (x8+(1:Int)),h0))) (.inr B5c)) (.inr (1,([]:LBBe),x0,x1,x2)))
noncomputable def B0F (x0:LBBe) (x1 x2:ByteArray) (x8:Int) (h0:LBBe):B1S:=itX (fun v:B1V=>B26 v.1 v.2.1 v.2.2.1 v.2.2.2.1 v.2.2.2.2) B5c (x0,x1,x2,x8,h0)
noncomputable def B8K (a:B1S):CT:=(.br (a.1==0) (.done .ret C2F ((u63),(a.2.1,()))) (.br (a.1==1) (.done (.exit 0) C2G ((a.2.2.1,a.2.2.2.1,a.2.2.2.2,u60),())) .fail))
noncomputable def D2a (x0:LBBe) (x1 x2:ByteArray) (x8:Int) (h0:LBBe):CT:=B8K (B0F x0 x1 x2 x8 h0)
noncomputable abbrev B43 {α:Sort _} (f:LBBe→ByteArray→ByteArray→Int→LBBe→α) (d:A8l.den):α:=f d.1.1 d.1.2.1 d.1.2.2.1 d.1.2.2.2.2.2.2.2.2.1 d.2.1
noncomputable abbrev B9C:A8l.den→RT A8l.den:=(B43 C5z)
noncomputable abbrev C4Z (v:B1V):A8l.den:=((v.1,v.2.1,v.2.2.1,(),(),(),(),(),v.2.2.2.1,u54),(v.2.2.2.2,()))
theorem D1D:(∀ v:B1V,(C5z v.1 v.2.1 v.2.2.1 v.2.2.2.1 v.2.2.2.2).val=A6D C4Z B8K (B26 v.1 v.2.1 v.2.2.1 v.2.2.2.1 v.2.2.2.2))∧∀ a:B1S,CEnd A8l.den (B8K a):=⟨fun v=>(A7H (A7H (A7H (A7H rfl rfl) rfl) rfl) rfl),fun a=>(A7u aCD (A7u aCD A7w))⟩
noncomputable def C4O (x0:LBBe) (x1 x2:ByteArray) (x8:Int) (h0:LBBe):Option (Ex×St):=let z1:=decide (0≤x8∧x8<(h0.length:Int));let z2:=h0.getD x8.toNat (bE,bE);(cond (decide (x8<(h0.length:Int))) (cond z1 (cond ((z2.1).toList==x1.toList) (cond z1 (some (.ret,(⟨(.junk::.junk::.junk::.junk::.junk::.junk::(.all 0 2)::D82),[(.rows 70 true J5 (h0.set x8.toNat (z2.1,x2)))],0,[]⟩:St))) none) (some (.normal,(⟨((.t false tq6 x0)::(.t true .str x1)::(.t true .str x2)::.junk::.junk::.junk::.junk::(.all 0 2)::(ti (wI (x8+(1:Int))))::D81),[(.rows 70 true J5 h0)],0,[]⟩:St)))) none) (some ((.exit 0),(⟨((.t false tq6 x0)::(.t true .str x1)::(.t true .str x2)::D9w),[],0,[]⟩:St))))
theorem C9T:RdA G28 aLn 0 B5S A8l 0 [] (kepts [6] [(0,[0,1,2])]) (B43 C4O):=by
 intro d
 kernel_rfl
theorem C9W:∀ d:A8l.den,(B43 C4O) d=(B9C d).opt 0 []:=by
 intro d
 kernel_rfl
noncomputable abbrev C3d:St→Option Tree:=A8l.say 0 [] [] (B43 D2a)
theorem D1b:aPL C3d B5S:=SS.wp2 hlz [] B9C C9T C9W _ (fun d=>Runs.ofI2 (step:=B9C) C4Z D1D rfl (d.1.1,d.1.2.1,d.1.2.2.1,d.1.2.2.2.2.2.2.2.2.1,d.2.1))
abbrev A8m:SS:=⟨(.t false tq6::.t true .str::.t true .str::.junk::.junk::.junk::.junk::.junk::.junk::tI::D9c),[]⟩
abbrev B69:SS:=⟨(.t false tq6::.t true .str::.t true .str::.junk::.junk::.junk::.junk::.junk::.junk::tI::D9c),[]⟩
noncomputable def C5A (x0:LBBe) (x1 x2:ByteArray) (x9:Int):RT A8m.den:=let z1:=(x0.getD x9.toNat (bE,bE)).1;(.br (decide (x9<(x0.length:Int))) (.br (decide (0≤x9∧x9<(x0.length:Int))) (.br (Op.bytesLess z1.toList x1.toList||(z1.toList==x1.toList)) (.next ((x0,x1,x2,(),(),(),(),(),(),wI (x9+(1:Int)),u53),())) (.done (.exit 2) B69 ((x0,x1,x2,(),(),(),(),(),(),x9,u53),()))) .fail) (.done (.exit 2) B69 ((x0,x1,x2,(),(),(),(),(),(),x9,u53),())))
abbrev B1W:=(LBBe)×(ByteArray)×(ByteArray)×(Int)
abbrev B3Y:=Nat×LBBe×(ByteArray)×(ByteArray)×(Int)
def B8R:B3Y:=(99,([]:LBBe),(bE:ByteArray),(bE:ByteArray),((0:Int):Int))
noncomputable def B27 (x0:LBBe) (x1 x2:ByteArray) (x9:Int):B1W ⊕ B3Y:=let z1:=(x0.getD x9.toNat (bE,bE)).1;(cond (decide (x9<(x0.length:Int))) (cond (decide (0≤x9∧x9<(x0.length:Int))) (cond (Op.bytesLess z1.toList x1.toList||(z1.toList==x1.toList)) (.inl (x0,x1,x2,wI (x9+(1:Int)))) (.inr (0,x0,x1,x2,x9))) (.inr B8R)) (.inr (0,x0,x1,x2,x9)))
noncomputable def B84 (x0:LBBe) (x1 x2:ByteArray) (x9:Int):B3Y:=itX (fun v:B1W=>B27 v.1 v.2.1 v.2.2.1 v.2.2.2) B8R (x0,x1,x2,x9)
noncomputable def B8L (a:B3Y):CT:=(.br (a.1==0) (.done (.exit 2) B69 ((a.2.1,a.2.2.1,a.2.2.2.1,(),(),(),(),(),(),a.2.2.2.2,u53),())) .fail)
noncomputable def D2b (x0:LBBe) (x1 x2:ByteArray) (x9:Int):CT:=B8L (B84 x0 x1 x2 x9)
noncomputable abbrev B44 {α:Sort _} (f:LBBe→ByteArray→ByteArray→Int→α) (d:A8m.den):α:=f d.1.1 d.1.2.1 d.1.2.2.1 d.1.2.2.2.2.2.2.2.2.2.1
noncomputable abbrev B9D:A8m.den→RT A8m.den:=(B44 C5A)
noncomputable abbrev C40 (v:B1W):A8m.den:=((v.1,v.2.1,v.2.2.1,(),(),(),(),(),(),v.2.2.2,u53),())
theorem D1E:(∀ v:B1W,(C5A v.1 v.2.1 v.2.2.1 v.2.2.2).val=A6D C40 B8L (B27 v.1 v.2.1 v.2.2.1 v.2.2.2))∧∀ a:B3Y,CEnd A8m.den (B8L a):=⟨fun v=>(A7H (A7H (A7H rfl rfl) rfl) rfl),fun a=>(A7u aCD A7w)⟩
noncomputable def C4P (x0:LBBe) (x1 x2:ByteArray) (x9:Int):Option (Ex×St):=let z1:=(⟨((.t false tq6 x0)::(.t true .str x1)::(.t true .str x2)::.junk::.junk::.junk::.junk::.junk::.junk::(ti x9)::D80),[],0,[]⟩:St);let z2:=(x0.getD x9.toNat (bE,bE)).1;(cond (decide (x9<(x0.length:Int))) (cond (decide (0≤x9∧x9<(x0.length:Int))) (cond (Op.bytesLess z2.toList x1.toList||(z2.toList==x1.toList)) (some (.normal,(⟨((.t false tq6 x0)::(.t true .str x1)::(.t true .str x2)::.junk::.junk::.junk::.junk::.junk::.junk::(ti (wI (x9+(1:Int))))::D80),[],0,[]⟩:St))) (some ((.exit 2),z1))) none) (some ((.exit 2),z1)))
theorem C9U:RdA G28 aLn 2 B5T A8m 0 [] (kepts [] [(2,[0,1,2,9])]) (B44 C4P):=by
 intro d
 kernel_rfl
theorem C9X:∀ d:A8m.den,(B44 C4P) d=(B9D d).opt 0 []:=by
 intro d
 kernel_rfl
noncomputable abbrev C3e:St→Option Tree:=A8m.say 0 [] [] (B44 D2b)
theorem D1c:aPL C3e B5T:=SS.wp2 hlz [] B9D C9U C9X _ (fun d=>Runs.ofI2 (step:=B9D) C40 D1E rfl (d.1.1,d.1.2.1,d.1.2.2.1,d.1.2.2.2.2.2.2.2.2.2.1))
noncomputable def B85 (a0:LBBe) (a1 a2:ByteArray):=let z1:=B0F a0 a1 a2 (0:Int) (([]:LBBe)++a0);B84 (z1.2.2.1) (z1.2.2.2.1) (z1.2.2.2.2) (0:Int)
noncomputable def C7U (a0:LBBe) (a1 a2:ByteArray):LBBe:=let z1:=B85 a0 a1 a2;let z2:=B0F a0 a1 a2 (0:Int) (([]:LBBe)++a0);(cond (z2.1==0) (z2.2.1) (((([]:LBBe)++(((z1.2.1).take (z1.2.2.2.2).toNat).drop (0:Int).toNat))++[((z1.2.2.1),(z1.2.2.2.1))])++(((z1.2.1).take (((z1.2.1).length:Nat):Int).toNat).drop (z1.2.2.2.2).toNat)))
noncomputable abbrev C2e (r:LBBe):AV×List AObj:=((.all 0 2),[(.rows 70 true J5 r)])
noncomputable abbrev C5T:H7 B7Q→AV×List AObj:=fun d=>C2e (C7U d.1 d.2.1 d.2.2.1)
noncomputable def B19 (a0:LBBe) (a1 a2:ByteArray):Bool:=let z1:=B85 a0 a1 a2;let z2:=((z1.2.1).take (z1.2.2.2.2).toNat).drop (0:Int).toNat;let z3:=B0F a0 a1 a2 (0:Int) (([]:LBBe)++a0);(decide ((([]:LBBe).length+a0.length)*32≤MAXB))&&(cond (z3.1==0) true ((z3.1==1)&&((z1.1==0)&&((decide (0≤(0:Int)∧(0:Int)≤(z1.2.2.2.2)∧(z1.2.2.2.2)≤(((z1.2.1).length:Nat):Int)))&&((decide ((([]:LBBe).length+z2.length)*32≤MAXB))&&((decide (((([]:LBBe)++z2).length+[((z1.2.2.1),(z1.2.2.2.1))].length)*32≤MAXB))&&((decide (0≤(z1.2.2.2.2)∧(z1.2.2.2.2)≤(((z1.2.1).length:Nat):Int)∧(((z1.2.1).length:Nat):Int)≤(((z1.2.1).length:Nat):Int)))&&(decide ((((([]:LBBe)++z2)++[((z1.2.2.1),(z1.2.2.2.1))]).length+(((z1.2.1).take (((z1.2.1).length:Nat):Int).toNat).drop (z1.2.2.2.2).toNat).length)*32≤MAXB)))))))))
noncomputable abbrev C1w:H7 B7Q→Bool:=fun d=>B19 d.1 d.2.1 d.2.2.1
noncomputable abbrev D4L:Nat→St→Option Tree:=fun b=>match b with | 0=>C3d | 2=>C3e | _=>fun _=>none
theorem D3g:A7C false G28 (D4L) Try.f139 B7Q C1w C5T:=by
 rintro ⟨a0,⟨a1,⟨a2,_⟩⟩⟩ hp
 change B19 a0 a1 a2=true at hp
 unfold B19 at hp
 refine Eq.trans (b:=(let z1:=B85 a0 a1 a2;let z2:=((z1.2.1).take (z1.2.2.2.2).toNat).drop (0:Int).toNat;let z3:=B0F a0 a1 a2 (0:Int) (([]:LBBe)++a0);let z4:=((z1.2.1).take (((z1.2.1).length:Nat):Int).toNat).drop (z1.2.2.2.2).toNat;cond (decide ((([]:LBBe).length+a0.length)*32≤MAXB)) (cond (z3.1==0) (some (C2e (z3.2.1))) (cond (z3.1==1) (cond (z1.1==0) (cond (decide (0≤(0:Int)∧(0:Int)≤(z1.2.2.2.2)∧(z1.2.2.2.2)≤(((z1.2.1).length:Nat):Int))) (cond (decide ((([]:LBBe).length+z2.length)*32≤MAXB)) (cond (decide (((([]:LBBe)++z2).length+[((z1.2.2.1),(z1.2.2.2.1))].length)*32≤MAXB)) (cond (decide (0≤(z1.2.2.2.2)∧(z1.2.2.2.2)≤(((z1.2.1).length:Nat):Int)∧(((z1.2.1).length:Nat):Int)≤(((z1.2.1).length:Nat):Int))) (cond (decide ((((([]:LBBe)++z2)++[((z1.2.2.1),(z1.2.2.2.1))]).length+z4.length)*32≤MAXB)) (some (C2e (((([]:LBBe)++z2)++[((z1.2.2.1),(z1.2.2.2.1))])++z4))) none) none) none) none) none) none) none)) none)) (by kernel_rfl) ?_
 exact (A7D hp fun hp=>(L8 C2e hp (fun hp=>rfl) (fun hp=>(A7D hp fun hp=>(A7D hp fun hp=>(A7D hp fun hp=>(A7D hp fun hp=>(A7D hp fun hp=>(A7D hp fun hp=>(A7F hp fun _h=>rfl))))))))))
theorem D42:aPP 139 (A22 B7Q C1w C5T):=pcD false G28 (by
  rw [show D4 0 (A1l Try.f139)=[(0,B5S),(2,B5T)] by kernel_rfl];intro p hp;simp only [List.mem_cons,List.mem_nil_iff,or_false] at hp
  rcases hp with rfl | rfl
  ·exact D1b
  ·exact D1c) D3g
noncomputable def S29:Tab:=Tab.add S28 139 (lift (A22 B7Q C1w C5T))
noncomputable def D7R:FuncId→Bool:=D7Q
theorem G29:aPG S29 D7R:=G28.add D42 (cbl Try.f139) (by kernel_rfl)

abbrev u30:=((),(),(),u27)
abbrev B7O:List PSh:=[.t tq6,.t .str]
abbrev A9Z:SS:=⟨(.t false tq6::.t true .str::.junk::.junk::.junk::.all 0 2::tI::D02),[.rows 70 true J5]⟩
abbrev C2C:SS:=⟨(.junk::.junk::.junk::.junk::.junk::.all 0 2::D62),[.rows 70 true J5]⟩
noncomputable def C5x (x0:LBBe) (x1:ByteArray) (x6:Int) (h0:LBBe):RT A9Z.den:=let z1:=x0.getD x6.toNat (bE,bE);let z2:=decide (0≤x6∧x6<(x0.length:Int));(.br (decide (x6<(x0.length:Int))) (.br z2 (.br (!((z1.1).toList==x1.toList)) (.br z2 (.br (decide ((h0.length+([(z1.1,z1.2)]).length)*32≤MAXB)) (.next ((x0,x1,(),(),(),(),wI (x6+(1:Int)),u23),(h0++([(z1.1,z1.2)]),()))) .fail) .fail) (.next ((x0,x1,(),(),(),(),wI (x6+(1:Int)),u23),(h0,())))) .fail) (.done (.exit 0) C2C ((u30),(h0,()))))
abbrev B35:=(LBBe)×(ByteArray)×(Int)×(LBBe)
abbrev B3X:=Nat×(LBBe)
def B5a:B3X:=(99,([]:LBBe))
noncomputable def B5j (x0:LBBe) (x1:ByteArray) (x6:Int) (h0:LBBe):B35 ⊕ B3X:=let z1:=x0.getD x6.toNat (bE,bE);let z2:=decide (0≤x6∧x6<(x0.length:Int));(cond (decide (x6<(x0.length:Int))) (cond z2 (cond (!((z1.1).toList==x1.toList)) (cond z2 (cond (decide ((h0.length+([(z1.1,z1.2)]).length)*32≤MAXB)) (.inl (x0,x1,wI (x6+(1:Int)),h0++([(z1.1,z1.2)]))) (.inr B5a)) (.inr B5a)) (.inl (x0,x1,wI (x6+(1:Int)),h0))) (.inr B5a)) (.inr (0,h0)))
noncomputable def B2I (x0:LBBe) (x1:ByteArray) (x6:Int) (h0:LBBe):B3X:=itX (fun v:B35=>B5j v.1 v.2.1 v.2.2.1 v.2.2.2) B5a (x0,x1,x6,h0)
noncomputable def B8I (a:B3X):CT:=(.br (a.1==0) (.done (.exit 0) C2C ((u30),(a.2,()))) .fail)
noncomputable def D18 (x0:LBBe) (x1:ByteArray) (x6:Int) (h0:LBBe):CT:=B8I (B2I x0 x1 x6 h0)
noncomputable abbrev B9A:A9Z.den→RT A9Z.den:=(fun d=>C5x d.1.1 d.1.2.1 d.1.2.2.2.2.2.2.1 d.2.1)
noncomputable def C0M:Code:=((D4 0 (A1l Try.f140)).getD 0 (0,.skip)).2
noncomputable abbrev C4X (v:B35):A9Z.den:=((v.1,v.2.1,(),(),(),(),v.2.2.1,u23),(v.2.2.2,()))
theorem D1B:(∀ v:B35,(C5x v.1 v.2.1 v.2.2.1 v.2.2.2).val=A6D C4X B8I (B5j v.1 v.2.1 v.2.2.1 v.2.2.2))∧∀ a:B3X,CEnd A9Z.den (B8I a):=⟨fun v=>(A7H (A7H (A7H (A7H (A7H rfl rfl) rfl) rfl) rfl) rfl),fun a=>(A7u aCD A7w)⟩
theorem C9R:RdA G29 aLn 0 C0M A9Z 0 [] (kepts [] [(0,[5])]) (fun d=>(B9A d).opt 0 []):=by
 intro d
 kernel_rfl
noncomputable abbrev C3b:St→Option Tree:=A9Z.say 0 [] [] (fun d=>D18 d.1.1 d.1.2.1 d.1.2.2.2.2.2.2.1 d.2.1)
theorem D09:aPL C3b C0M:=SS.wp2 hlz [] B9A C9R (fun d=>rfl) _ (fun d=>Runs.ofI2 (step:=B9A) C4X D1B rfl (d.1.1,d.1.2.1,d.1.2.2.2.2.2.2.1,d.2.1))
noncomputable def C7T (a0:LBBe) (a1:ByteArray):LBBe:=((B2I a0 a1 (0:Int) ([]:LBBe)).2)
noncomputable abbrev D0d (r:LBBe):AV×List AObj:=((.all 0 2),[(.rows 70 true J5 r)])
noncomputable abbrev C5R:H7 B7O→AV×List AObj:=fun d=>D0d (C7T d.1 d.2.1)
noncomputable def B17 (a0:LBBe) (a1:ByteArray):Bool:=((B2I a0 a1 (0:Int) ([]:LBBe)).1==0)
noncomputable abbrev C1u:H7 B7O→Bool:=fun d=>B17 d.1 d.2.1
noncomputable abbrev D4J:Nat→St→Option Tree:=fun b=>match b with | 0=>C3b | _=>fun _=>none
theorem D3e:A7C false G29 (D4J) Try.f140 B7O C1u C5R:=by
 rintro ⟨a0,⟨a1,_⟩⟩ hp
 change B17 a0 a1=true at hp
 unfold B17 at hp
 refine Eq.trans (b:=(let z1:=B2I a0 a1 (0:Int) ([]:LBBe);cond (z1.1==0) (some (D0d (z1.2))) none)) (by kernel_rfl) ?_
 exact (A7F hp fun _h=>rfl)
theorem D40:aPP 140 (A22 B7O C1u C5R):=pcD false G29 (hl1 (i:=0) (by kernel_rfl) D09) D3e
noncomputable def S30:Tab:=Tab.add S29 140 (lift (A22 B7O C1u C5R))
noncomputable def D7S:FuncId→Bool:=D7R
theorem G30:aPG S30 D7S:=G29.add D40 (cbl Try.f140) (by kernel_rfl)

abbrev C0z:List PSh:=[.t tq6,.t tq4]
abbrev A9Y:SS:=⟨(.junk::.t false tq4::.junk::.junk::.junk::.all 0 2::tI::D6g),[.rows 70 true J5]⟩
abbrev C33:SS:=⟨(.junk::.junk::.junk::.junk::.junk::.all 0 2::D7r),[.rows 70 true J5]⟩
noncomputable def C2i (x1:Lq2) (x6:Int) (h0:LBBe):=let z1:=(x1.getD x6.toNat ((0:Int),(bE,bE))).2;C7U h0 (z1.1) (z1.2)
noncomputable def C2l (x1:Lq2) (x6:Int) (h0:LBBe):=C7T h0 (((x1.getD x6.toNat ((0:Int),(bE,bE))).2).1)
noncomputable def C7b (x1:Lq2) (x6:Int) (h0:LBBe):RT A9Y.den:=let z1:=x1.getD x6.toNat ((0:Int),(bE,bE));let z2:=decide (0≤x6∧x6<(x1.length:Int));(.br (decide (x6<(x1.length:Int))) (.br z2 (.br ((z1.1)==(1:Int)) (.br z2 (.br z2 (.br (B19 h0 ((z1.2).1) ((z1.2).2)) (.next (((),x1,(),(),(),(),wI (x6+(1:Int)),u39),((C2i x1 x6 h0),()))) .fail) .fail) .fail) (.br ((z1.1)==(2:Int)) (.br z2 (.br (B17 h0 ((z1.2).1)) (.next (((),x1,(),(),(),(),wI (x6+(1:Int)),u39),((C2l x1 x6 h0),()))) .fail) .fail) (.next (((),x1,(),(),(),(),wI (x6+(1:Int)),u39),(h0,()))))) .fail) (.done (.exit 0) C33 ((u46),(h0,()))))
abbrev B3l:=(Lq2)×(Int)×(LBBe)
abbrev B3e:=Nat×(LBBe)
def A8Z:B3e:=(99,([]:LBBe))
noncomputable def B4v (x1:Lq2) (x6:Int) (h0:LBBe):B3l ⊕ B3e:=let z1:=x1.getD x6.toNat ((0:Int),(bE,bE));let z2:=decide (0≤x6∧x6<(x1.length:Int));(cond (decide (x6<(x1.length:Int))) (cond z2 (cond ((z1.1)==(1:Int)) (cond z2 (cond z2 (cond (B19 h0 ((z1.2).1) ((z1.2).2)) (.inl (x1,wI (x6+(1:Int)),(C2i x1 x6 h0))) (.inr A8Z)) (.inr A8Z)) (.inr A8Z)) (cond ((z1.1)==(2:Int)) (cond z2 (cond (B17 h0 ((z1.2).1)) (.inl (x1,wI (x6+(1:Int)),(C2l x1 x6 h0))) (.inr A8Z)) (.inr A8Z)) (.inl (x1,wI (x6+(1:Int)),h0)))) (.inr A8Z)) (.inr (0,h0)))
noncomputable def B4e (x1:Lq2) (x6:Int) (h0:LBBe):B3e:=itX (fun v:B3l=>B4v v.1 v.2.1 v.2.2) A8Z (x1,x6,h0)
noncomputable def C0W (a:B3e):CT:=(.br (a.1==0) (.done (.exit 0) C33 ((u46),(a.2,()))) .fail)
noncomputable def D3F (x1:Lq2) (x6:Int) (h0:LBBe):CT:=C0W (B4e x1 x6 h0)
noncomputable abbrev C1T:A9Y.den→RT A9Y.den:=(fun d=>C7b d.1.2.1 d.1.2.2.2.2.2.2.1 d.2.1)
noncomputable def C2O:Code:=((D4 0 (A1l Try.f125)).getD 0 (0,.skip)).2
noncomputable abbrev C62 (v:B3l):A9Y.den:=(((),v.1,(),(),(),(),v.2.1,u39),(v.2.2,()))
theorem D20:(∀ v:B3l,(C7b v.1 v.2.1 v.2.2).val=A6D C62 C0W (B4v v.1 v.2.1 v.2.2))∧∀ a:B3e,CEnd A9Y.den (C0W a):=⟨fun v=>by repeat' first | apply A7H | rfl,fun a=>(A7u aCD A7w)⟩
noncomputable def C6P (x1:Lq2) (x6:Int) (h0:LBBe):Option (Ex×St):=let z1:=x1.getD x6.toNat ((0:Int),(bE,bE));let z2:=decide (0≤x6∧x6<(x1.length:Int));let z3:=ti (wI (x6+(1:Int)));(cond (decide (x6<(x1.length:Int))) (cond z2 (cond ((z1.1)==(1:Int)) (cond z2 (cond z2 (cond (B19 h0 ((z1.2).1) ((z1.2).2)) (some (.normal,(⟨(.junk::(.t false tq4 x1)::.junk::.junk::.junk::(.all 0 2)::z3::D30),[(.rows 70 true J5 (C2i x1 x6 h0))],0,[]⟩:St))) none) none) none) (cond ((z1.1)==(2:Int)) (cond z2 (cond (B17 h0 ((z1.2).1)) (some (.normal,(⟨(.junk::(.t false tq4 x1)::.junk::.junk::.junk::(.all 0 2)::z3::D30),[(.rows 70 true J5 (C2l x1 x6 h0))],0,[]⟩:St))) none) none) (some (.normal,(⟨(.junk::(.t false tq4 x1)::.junk::.junk::.junk::(.all 0 2)::z3::D30),[(.rows 70 true J5 h0)],0,[]⟩:St))))) none) (some ((.exit 0),(⟨(.junk::.junk::.junk::.junk::.junk::(.all 0 2)::D7p),[(.rows 70 true J5 h0)],0,[]⟩:St))))
theorem D1l:RdA G30 aLn 0 C2O A9Y 0 [] (kepts [] [(0,[5])]) (fun d=>C6P d.1.2.1 d.1.2.2.2.2.2.2.1 d.2.1):=by
 intro d
 kernel_rfl
theorem D1t:∀ d:A9Y.den,(fun d=>C6P d.1.2.1 d.1.2.2.2.2.2.2.1 d.2.1) d=(C1T d).opt 0 []:=by
 intro d
 kernel_rfl
noncomputable abbrev C5l:St→Option Tree:=A9Y.say 0 [] [] (fun d=>D3F d.1.2.1 d.1.2.2.2.2.2.2.1 d.2.1)
theorem D2N:aPL C5l C2O:=SS.wp2 hlz [] C1T D1l D1t _ (fun d=>Runs.ofI2 (step:=C1T) C62 D20 rfl (d.1.2.1,d.1.2.2.2.2.2.2.1,d.2.1))
noncomputable def B9s (a0:LBBe) (a1:Lq2):LBBe:=((B4e a1 (0:Int) (([]:LBBe)++a0)).2)
noncomputable abbrev D2u (r:LBBe):AV×List AObj:=((.all 0 2),[(.rows 70 true J5 r)])
noncomputable abbrev C8r:H7 C0z→AV×List AObj:=fun d=>D2u (B9s d.1 d.2.1)
noncomputable def B2V (a0:LBBe) (a1:Lq2):Bool:=(decide ((([]:LBBe).length+a0.length)*32≤MAXB))&&((B4e a1 (0:Int) (([]:LBBe)++a0)).1==0)
noncomputable abbrev C3J:H7 C0z→Bool:=fun d=>B2V d.1 d.2.1
noncomputable abbrev D5B:Nat→St→Option Tree:=fun b=>match b with | 0=>C5l | _=>fun _=>none
theorem D4o:A7C false G30 (D5B) Try.f125 C0z C3J C8r:=by
 rintro ⟨a0,⟨a1,_⟩⟩ hp
 change B2V a0 a1=true at hp
 unfold B2V at hp
 refine Eq.trans (b:=(let z1:=B4e a1 (0:Int) (([]:LBBe)++a0);cond (decide ((([]:LBBe).length+a0.length)*32≤MAXB)) (cond (z1.1==0) (some (D2u (z1.2))) none) none)) (by kernel_rfl) ?_
 exact (A7D hp fun hp=>(A7F hp fun _h=>rfl))
theorem D5U:aPP 125 (A22 C0z C3J C8r):=pcD false G30 (hl1 (i:=0) (by kernel_rfl) D2N) D4o
noncomputable def S31:Tab:=Tab.add S30 125 (lift (A22 C0z C3J C8r))
noncomputable def D7T:FuncId→Bool:=D7S
theorem G31:aPG S31 D7T:=G30.add D5U (cbl Try.f125) (by kernel_rfl)

abbrev C18:SS:=⟨[.ptr 0 0 1 0,.agg [.t true (.int .i64),.t true (.int .i64),.t false tq4]],[.box [.all 1 2,.all 2 3,.nil],.rows 70 true J5,.rows 32 true tq5]⟩
noncomputable def D7u (x1_0 x1_1:Int) (x1_2:Lq2) (h1:LBBe) (h2:Lq1):Bool×LBBe×Lq1×List Int:=let z3:=C0b h2 x1_1;let z2:=B9s h1 (((h2.getD (z3.toNat) ((0:Int),((0:Int),[]))).2).2);let z4:=([]:List Int);let z5:=A8A x1_0 x1_1 x1_2;let z6:=([]:Lq1)++(h2.take (z3.toNat));let z7:=wI (z3+(1:Int));let z1:=(h2.drop (z7.toNat)).take ((h2.length:Int).toNat - z7.toNat);(cond (!(B1O x1_0 x1_1 x1_2)) (false,h1,h2,z4) (cond (x1_0==(1:Int)) (cond (B3D [] x1_1) (false,h1,h2,z4) (cond (B0Q h2 x1_2) (false,h1,h2,z4) (cond (!(B9t h1 x1_2)) (false,h1,h2,z4) (true,h1,h2++[((z5.1),((z5.2.1),(z5.2.2)))],[x1_1])))) (cond (decide (z3<(0:Int))) (cond (x1_0==(3:Int)) (!(B3D [] x1_1),h1,h2,[x1_1]) (false,h1,h2,[x1_1])) (cond (x1_0==(2:Int)) (decide (((z2.length:Nat):Int)≤(60:Int)),z2,z6++z1,z4) (decide ((h1.length:Int)≤(60:Int)),h1,z6++z1,z4)))))
noncomputable abbrev A7T (r:Bool×LBBe×Lq1×List Int):AV×List AObj×List Nat:=((.t true .bool r.1),[(.box [(.all 1 2),(.all 2 3),(.all 3 1)]),(.rows 70 true J5 r.2.1),(.rows 32 true tq5 r.2.2.1),(.rows 3 true (.int .i64) r.2.2.2)],[1,2])
noncomputable abbrev D2v:C18.den→AV×List AObj×List Nat:=fun d=>A7T (D7u d.1.2.1.1 d.1.2.1.2.1 d.1.2.1.2.2.1 d.2.2.1 d.2.2.2.1)
noncomputable def C8S (x1_0 x1_1:Int) (x1_2:Lq2) (h1:LBBe) (h2:Lq1):Bool:=let z2:=C0b h2 x1_1;let z3:=wI (z2+(1:Int));let z4:=decide ([x1_1].length*8≤MAXB);let z5:=A8A x1_0 x1_1 x1_2;let z6:=h2.take (z2.toNat);let z1:=(decide (0≤(0:Int)∧(0:Int)≤z2∧z2≤(h2.length:Int)))&&((decide (0≤z3∧z3≤(h2.length:Int)∧(h2.length:Int)≤(h2.length:Int)))&&((decide ((([]:Lq1).length+z6.length)*40≤MAXB))&&(decide (((([]:Lq1)++z6).length+((h2.drop (z3.toNat)).take ((h2.length:Int).toNat - z3.toNat)).length)*40≤MAXB))));(B5f h2 x1_1)&&((B4k x1_0 x1_1 x1_2)&&(cond (!(B1O x1_0 x1_1 x1_2)) true (cond (x1_0==(1:Int)) ((A8Q [] x1_1)&&(cond (B3D [] x1_1) true ((A8v h2 x1_2)&&(cond (B0Q h2 x1_2) true ((B2W h1 x1_2)&&(cond (!(B9t h1 x1_2)) true ((U8 x1_0 x1_1 x1_2)&&((decide ((h2.length+[((z5.1),((z5.2.1),(z5.2.2)))].length)*40≤MAXB))&&z4)))))))) (cond (decide (z2<(0:Int))) (cond (x1_0==(3:Int)) ((A8Q [] x1_1)&&z4) z4) (cond (x1_0==(2:Int)) ((decide (0≤z2∧z2<(h2.length:Int)))&&((B2V h1 (((h2.getD (z2.toNat) ((0:Int),((0:Int),[]))).2).2))&&z1)) z1)))))
noncomputable abbrev C8Q:C18.den→Bool:=fun d=>C8S d.1.2.1.1 d.1.2.1.2.1 d.1.2.1.2.2.1 d.2.2.1 d.2.2.2.1
theorem D4u:A7A false [] [1,2] [(0,0,1,70,J5),(0,1,2,32,tq5),(0,2,99999,3,(.int .i64))] G31 aLn Try.f86 C18 C8Q D2v:=by
 rintro ⟨⟨_,⟨x1_0,x1_1,x1_2,_⟩,_⟩,⟨⟨_,_,_,_⟩,h1,h2,_⟩⟩ hp
 change C8S x1_0 x1_1 x1_2 h1 h2=true at hp
 unfold C8S at hp
 refine Eq.trans (b:=(let z2:=C0b h2 x1_1;let z1:=wI (z2+(1:Int));let z3:=(h2.drop (z1.toNat)).take ((h2.length:Int).toNat - z1.toNat);let z4:=A8A x1_0 x1_1 x1_2;let z6:=((h2.getD (z2.toNat) ((0:Int),((0:Int),[]))).2).2;let z8:=decide (0≤z1∧z1≤(h2.length:Int)∧(h2.length:Int)≤(h2.length:Int));let z10:=decide ([x1_1].length*8≤MAXB);let z11:=decide (0≤(0:Int)∧(0:Int)≤z2∧z2≤(h2.length:Int));let z13:=([]:List Int);let z5:=A7T (false,h1,h2,z13);let z14:=h2.take (z2.toNat);let z7:=([]:Lq1)++z14;let z9:=decide ((([]:Lq1).length+z14.length)*40≤MAXB);let z12:=decide ((z7.length+z3.length)*40≤MAXB);cond (B5f h2 x1_1) (cond (B4k x1_0 x1_1 x1_2) (cond (!(B1O x1_0 x1_1 x1_2)) (some z5) (cond (x1_0==(1:Int)) (cond (A8Q [] x1_1) (cond (B3D [] x1_1) (some z5) (cond (A8v h2 x1_2) (cond (B0Q h2 x1_2) (some z5) (cond (B2W h1 x1_2) (cond (!(B9t h1 x1_2)) (some z5) (cond (U8 x1_0 x1_1 x1_2) (cond (decide ((h2.length+[((z4.1),((z4.2.1),(z4.2.2)))].length)*40≤MAXB)) (cond z10 (some (A7T (true,h1,h2++[((z4.1),((z4.2.1),(z4.2.2)))],[x1_1]))) none) none) none)) none)) none)) none) (cond (decide (z2<(0:Int))) (cond (x1_0==(3:Int)) (cond (A8Q [] x1_1) (cond z10 (some (A7T (!(B3D [] x1_1),h1,h2,[x1_1]))) none) none) (cond z10 (some (A7T (false,h1,h2,[x1_1]))) none)) (cond (x1_0==(2:Int)) (cond (decide (0≤z2∧z2<(h2.length:Int))) (cond (B2V h1 z6) (cond z11 (cond z8 (cond z9 (cond z12 (some (A7T (decide ((((B9s h1 z6).length:Nat):Int)≤(60:Int)),(B9s h1 z6),z7++z3,z13))) none) none) none) none) none) none) (cond z11 (cond z8 (cond z9 (cond z12 (some (A7T (decide ((h1.length:Int)≤(60:Int)),h1,z7++z3,z13))) none) none) none) none))))) none) none)) (by kernel_rfl) ?_
 exact (A7D hp fun hp=>(A7D hp fun hp=>(L8 A7T hp (fun hp=>rfl) (fun hp=>(L8 A7T hp (fun hp=>(A7D hp fun hp=>(L8 A7T hp (fun hp=>rfl) (fun hp=>(A7D hp fun hp=>(L8 A7T hp (fun hp=>rfl) (fun hp=>(A7D hp fun hp=>(L8 A7T hp (fun hp=>rfl) (fun hp=>(A7D hp fun hp=>(A7D hp fun hp=>(A7F hp fun _h=>rfl))))))))))))) (fun hp=>(L8 A7T hp (fun hp=>(L8 A7T hp (fun hp=>(A7D hp fun hp=>(A7F hp fun _h=>rfl))) (fun hp=>(A7F hp fun _h=>rfl)))) (fun hp=>(L8 A7T hp (fun hp=>(A7D hp fun hp=>(A7D hp fun hp=>(A7D hp fun hp=>(A7D hp fun hp=>(A7D hp fun hp=>(A7F hp fun _h=>rfl))))))) (fun hp=>(A7D hp fun hp=>(A7D hp fun hp=>(A7D hp fun hp=>(A7F hp fun _h=>rfl))))))))))))))
noncomputable abbrev C8M:=win E8 (msum C18 C8Q D2v)
theorem D2l:aPM 86 C8M:=(mcE false [] [1,2] [(0,0,1,70,J5),(0,1,2,32,tq5),(0,2,99999,3,(.int .i64))]  G31 hlz D4u).win E8
noncomputable def S32:Tab:=Tab.add S31 86 (C8M)
noncomputable def D7U:FuncId→Bool:=D7T
theorem G32:aPG S32 D7U:=G31.addM D2l (A7d _) (cbl Try.f86) (by kernel_rfl)

abbrev B40:SS:=⟨[.ptr 0 0 1 0,.agg [.t true (.int .i64),.t true (.int .i64),.t false tq4]],[.box [.all 1 2,.all 2 3,.all 3 1],.rows 70 true J5,.rows 32 true tq5,.rows 3 true (.int .i64)]⟩
noncomputable def B8q (x1_0 x1_1:Int) (x1_2:Lq2) (h1:LBBe) (h2:Lq1) (h3:List Int):Bool×LBBe×Lq1×List Int:=let z3:=C0b h2 x1_1;let z2:=B9s h1 (((h2.getD (z3.toNat) ((0:Int),((0:Int),[]))).2).2);let z4:=A8A x1_0 x1_1 x1_2;let z5:=([]:Lq1)++(h2.take (z3.toNat));let z6:=wI (z3+(1:Int));let z1:=(h2.drop (z6.toNat)).take ((h2.length:Int).toNat - z6.toNat);(cond (!(B1O x1_0 x1_1 x1_2)) (false,h1,h2,h3) (cond (x1_0==(1:Int)) (cond (B3D h3 x1_1) (false,h1,h2,h3) (cond (B0Q h2 x1_2) (false,h1,h2,h3) (cond (!(B9t h1 x1_2)) (false,h1,h2,h3) (true,h1,h2++[((z4.1),((z4.2.1),(z4.2.2)))],h3++[x1_1])))) (cond (decide (z3<(0:Int))) (cond (x1_0==(3:Int)) (!(B3D h3 x1_1),h1,h2,h3++[x1_1]) (false,h1,h2,h3++[x1_1])) (cond (x1_0==(2:Int)) (decide (((z2.length:Nat):Int)≤(60:Int)),z2,z5++z1,h3) (decide ((h1.length:Int)≤(60:Int)),h1,z5++z1,h3)))))
noncomputable abbrev O9 (r:Bool×LBBe×Lq1×List Int):AV×List AObj×List Nat:=((.t true .bool r.1),[(.box [(.all 1 2),(.all 2 3),(.all 3 1)]),(.rows 70 true J5 r.2.1),(.rows 32 true tq5 r.2.2.1),(.rows 3 true (.int .i64) r.2.2.2)],[1,2,3])
noncomputable abbrev C6E:B40.den→AV×List AObj×List Nat:=fun d=>O9 (B8q d.1.2.1.1 d.1.2.1.2.1 d.1.2.1.2.2.1 d.2.2.1 d.2.2.2.1 d.2.2.2.2.1)
noncomputable def A80 (x1_0 x1_1:Int) (x1_2:Lq2) (h1:LBBe) (h2:Lq1) (h3:List Int):Bool:=let z2:=C0b h2 x1_1;let z3:=wI (z2+(1:Int));let z4:=decide ((h3.length+[x1_1].length)*8≤MAXB);let z5:=A8A x1_0 x1_1 x1_2;let z6:=h2.take (z2.toNat);let z1:=(decide (0≤(0:Int)∧(0:Int)≤z2∧z2≤(h2.length:Int)))&&((decide (0≤z3∧z3≤(h2.length:Int)∧(h2.length:Int)≤(h2.length:Int)))&&((decide ((([]:Lq1).length+z6.length)*40≤MAXB))&&(decide (((([]:Lq1)++z6).length+((h2.drop (z3.toNat)).take ((h2.length:Int).toNat - z3.toNat)).length)*40≤MAXB))));(B5f h2 x1_1)&&((B4k x1_0 x1_1 x1_2)&&(cond (!(B1O x1_0 x1_1 x1_2)) true (cond (x1_0==(1:Int)) ((A8Q h3 x1_1)&&(cond (B3D h3 x1_1) true ((A8v h2 x1_2)&&(cond (B0Q h2 x1_2) true ((B2W h1 x1_2)&&(cond (!(B9t h1 x1_2)) true ((U8 x1_0 x1_1 x1_2)&&((decide ((h2.length+[((z5.1),((z5.2.1),(z5.2.2)))].length)*40≤MAXB))&&z4)))))))) (cond (decide (z2<(0:Int))) (cond (x1_0==(3:Int)) ((A8Q h3 x1_1)&&z4) z4) (cond (x1_0==(2:Int)) ((decide (0≤z2∧z2<(h2.length:Int)))&&((B2V h1 (((h2.getD (z2.toNat) ((0:Int),((0:Int),[]))).2).2))&&z1)) z1)))))
noncomputable abbrev C25:B40.den→Bool:=fun d=>A80 d.1.2.1.1 d.1.2.1.2.1 d.1.2.1.2.2.1 d.2.2.1 d.2.2.2.1 d.2.2.2.2.1
theorem C95:A7A false [] [1,2,3] [(0,0,1,70,J5),(0,1,2,32,tq5)] G32 aLn Try.f86 B40 C25 C6E:=by
 rintro ⟨⟨_,⟨x1_0,x1_1,x1_2,_⟩,_⟩,⟨⟨_,_,_,_⟩,h1,h2,h3,_⟩⟩ hp
 change A80 x1_0 x1_1 x1_2 h1 h2 h3=true at hp
 unfold A80 at hp
 refine Eq.trans (b:=(let z2:=C0b h2 x1_1;let z1:=wI (z2+(1:Int));let z3:=(h2.drop (z1.toNat)).take ((h2.length:Int).toNat - z1.toNat);let z4:=A8A x1_0 x1_1 x1_2;let z5:=((h2.getD (z2.toNat) ((0:Int),((0:Int),[]))).2).2;let z7:=O9 (false,h1,h2,h3);let z8:=decide ((h3.length+[x1_1].length)*8≤MAXB);let z9:=decide (0≤z1∧z1≤(h2.length:Int)∧(h2.length:Int)≤(h2.length:Int));let z11:=decide (0≤(0:Int)∧(0:Int)≤z2∧z2≤(h2.length:Int));let z13:=h2.take (z2.toNat);let z6:=([]:Lq1)++z13;let z10:=decide ((([]:Lq1).length+z13.length)*40≤MAXB);let z12:=decide ((z6.length+z3.length)*40≤MAXB);cond (B5f h2 x1_1) (cond (B4k x1_0 x1_1 x1_2) (cond (!(B1O x1_0 x1_1 x1_2)) (some z7) (cond (x1_0==(1:Int)) (cond (A8Q h3 x1_1) (cond (B3D h3 x1_1) (some z7) (cond (A8v h2 x1_2) (cond (B0Q h2 x1_2) (some z7) (cond (B2W h1 x1_2) (cond (!(B9t h1 x1_2)) (some z7) (cond (U8 x1_0 x1_1 x1_2) (cond (decide ((h2.length+[((z4.1),((z4.2.1),(z4.2.2)))].length)*40≤MAXB)) (cond z8 (some (O9 (true,h1,h2++[((z4.1),((z4.2.1),(z4.2.2)))],h3++[x1_1]))) none) none) none)) none)) none)) none) (cond (decide (z2<(0:Int))) (cond (x1_0==(3:Int)) (cond (A8Q h3 x1_1) (cond z8 (some (O9 (!(B3D h3 x1_1),h1,h2,h3++[x1_1]))) none) none) (cond z8 (some (O9 (false,h1,h2,h3++[x1_1]))) none)) (cond (x1_0==(2:Int)) (cond (decide (0≤z2∧z2<(h2.length:Int))) (cond (B2V h1 z5) (cond z11 (cond z9 (cond z10 (cond z12 (some (O9 (decide ((((B9s h1 z5).length:Nat):Int)≤(60:Int)),(B9s h1 z5),z6++z3,h3))) none) none) none) none) none) none) (cond z11 (cond z9 (cond z10 (cond z12 (some (O9 (decide ((h1.length:Int)≤(60:Int)),h1,z6++z3,h3))) none) none) none) none))))) none) none)) (by kernel_rfl) ?_
 exact (A7D hp fun hp=>(A7D hp fun hp=>(L8 O9 hp (fun hp=>rfl) (fun hp=>(L8 O9 hp (fun hp=>(A7D hp fun hp=>(L8 O9 hp (fun hp=>rfl) (fun hp=>(A7D hp fun hp=>(L8 O9 hp (fun hp=>rfl) (fun hp=>(A7D hp fun hp=>(L8 O9 hp (fun hp=>rfl) (fun hp=>(A7D hp fun hp=>(A7D hp fun hp=>(A7F hp fun _h=>rfl))))))))))))) (fun hp=>(L8 O9 hp (fun hp=>(L8 O9 hp (fun hp=>(A7D hp fun hp=>(A7F hp fun _h=>rfl))) (fun hp=>(A7F hp fun _h=>rfl)))) (fun hp=>(L8 O9 hp (fun hp=>(A7D hp fun hp=>(A7D hp fun hp=>(A7D hp fun hp=>(A7D hp fun hp=>(A7D hp fun hp=>(A7F hp fun _h=>rfl))))))) (fun hp=>(A7D hp fun hp=>(A7D hp fun hp=>(A7D hp fun hp=>(A7F hp fun _h=>rfl))))))))))))))
noncomputable abbrev C6L:=win E8 (msum B40 C25 C6E)
theorem D2m:aPM 86 C6L:=(mcE false [] [1,2,3] [(0,0,1,70,J5),(0,1,2,32,tq5)]  G32 hlz C95).win E8
noncomputable def S33:Tab:=Tab.add S32 86 (A2b (C8M) (C6L))
noncomputable def D7V:FuncId→Bool:=D7U
theorem G33:aPG S33 D7V:=G32.addM (MContract.orElse D2l D2m) (A6W (A7d _) (A7d _)) (cbl Try.f86) (by kernel_rfl)

abbrev D6c:List Sh:=.junk::D2D
abbrev D7q:List Sh:=.junk::.junk::D6c
abbrev D64:List Sh:=.junk::D6c
abbrev u28:=((),u27)
abbrev D7n:List AV:=.junk::.junk::.junk::.junk::.junk::.junk::.junk::.junk::.junk::.junk::.junk::.junk::.junk::.junk::.junk::.junk::.junk::.junk::.junk::.junk::.junk::.junk::.junk::.junk::.junk::.junk::.junk::.junk::.junk::[]
abbrev D7m:List AV:=.junk::.junk::.junk::.junk::.junk::.junk::.junk::.junk::.junk::.junk::.junk::.junk::.junk::.junk::.junk::.junk::.junk::.junk::.junk::.junk::.junk::.junk::.junk::.junk::.junk::.junk::.junk::[]
abbrev D6X:List AV:=.junk::D7m
abbrev B1b:List PSh:=[.t tq3]
abbrev Q7:SS:=⟨(.t false tq3::.junk::.junk::.junk::.junk::.ptr 0 0 1 0::tI::D6c),[.box [.all 1 2,.all 2 3,.all 3 1],.rows 70 true J5,.rows 32 true tq5,.rows 3 true (.int .i64)]⟩
abbrev B6D:SS:=⟨(.junk::.junk::.all 0 2::.all 1 3::.t true .bool::D7q),[.rows 70 true J5,.rows 32 true tq5]⟩
abbrev B6E:SS:=⟨(.junk::.junk::.junk::.junk::.junk::.ptr 0 0 1 0::D64),[.box [.all 1 2,.all 2 3,.all 3 1],.rows 70 true J5,.rows 32 true tq5,.rows 3 true (.int .i64)]⟩
noncomputable def B2M (x0:Lq1) (x6:Int) (h1:LBBe) (h2:Lq1) (h3:List Int):=let z1:=x0.getD x6.toNat ((0:Int),((0:Int),[]));B8q (z1.1) ((z1.2).1) ((z1.2).2) h1 h2 h3
noncomputable def B8s (x0:Lq1) (x6:Int) (h1:LBBe) (h2:Lq1) (h3:List Int):RT Q7.den:=let z1:=B2M x0 x6 h1 h2 h3;let z2:=x0.getD x6.toNat ((0:Int),((0:Int),[]));(.br (decide (x6<(x0.length:Int))) (.br (decide (0≤x6∧x6<(x0.length:Int))) (.br (A80 (z2.1) ((z2.2).1) ((z2.2).2) h1 h2 h3) (.br (!(z1.1)) (.done .ret B6D (((),(),(),(),false,u30),(([]:LBBe),([]:Lq1),()))) (.next ((x0,(),(),(),(),(),wI (x6+(1:Int)),u28),(((),(),(),()),(z1.2.1),(z1.2.2.1),(z1.2.2.2),())))) .fail) .fail) (.done (.exit 0) B6E ((u35),(((),(),(),()),h1,h2,h3,()))))
abbrev A9k:=(Lq1)×(Int)×LBBe×Lq1×(List Int)
abbrev A8c:=Nat×(Bool)×LBBe×Lq1×LBBe×Lq1×(List Int)
def B0E:A8c:=(99,(false:Bool),([]:LBBe),([]:Lq1),([]:LBBe),([]:Lq1),([]:List Int))
noncomputable def A8U (x0:Lq1) (x6:Int) (h1:LBBe) (h2:Lq1) (h3:List Int):A9k ⊕ A8c:=let z1:=B2M x0 x6 h1 h2 h3;let z2:=x0.getD x6.toNat ((0:Int),((0:Int),[]));(cond (decide (x6<(x0.length:Int))) (cond (decide (0≤x6∧x6<(x0.length:Int))) (cond (A80 (z2.1) ((z2.2).1) ((z2.2).2) h1 h2 h3) (cond (!(z1.1)) (.inr (0,false,([]:LBBe),([]:Lq1),([]:LBBe),([]:Lq1),([]:List Int))) (.inl (x0,wI (x6+(1:Int)),(z1.2.1),(z1.2.2.1),(z1.2.2.2)))) (.inr B0E)) (.inr B0E)) (.inr (1,(false:Bool),([]:LBBe),([]:Lq1),h1,h2,h3)))
noncomputable def B74 (x0:Lq1) (x6:Int) (h1:LBBe) (h2:Lq1) (h3:List Int):A8c:=itX (fun v:A9k=>A8U v.1 v.2.1 v.2.2.1 v.2.2.2.1 v.2.2.2.2) B0E (x0,x6,h1,h2,h3)
noncomputable def B3q (a:A8c):CT:=(.br (a.1==0) (.done .ret B6D (((),(),(),(),a.2.1,u30),(a.2.2.1,a.2.2.2.1,()))) (.br (a.1==1) (.done (.exit 0) B6E ((u35),(((),(),(),()),a.2.2.2.2.1,a.2.2.2.2.2.1,a.2.2.2.2.2.2,()))) .fail))
noncomputable def C7f (x0:Lq1) (x6:Int) (h1:LBBe) (h2:Lq1) (h3:List Int):CT:=B3q (B74 x0 x6 h1 h2 h3)
noncomputable abbrev B0A {α:Sort _} (f:Lq1→Int→LBBe→Lq1→(List Int)→α) (d:Q7.den):α:=f d.1.1 d.1.2.2.2.2.2.2.1 d.2.2.1 d.2.2.2.1 d.2.2.2.2.1
noncomputable abbrev B3F:Q7.den→RT Q7.den:=(B0A B8s)
noncomputable def B5U:Code:=((D4 0 (A1l Try.f52)).getD 0 (0,.skip)).2
noncomputable abbrev B8d (v:A9k):Q7.den:=((v.1,(),(),(),(),(),v.2.1,u28),(((),(),(),()),v.2.2.1,v.2.2.2.1,v.2.2.2.2,()))
theorem C6p:(∀ v:A9k,(B8s v.1 v.2.1 v.2.2.1 v.2.2.2.1 v.2.2.2.2).val=A6D B8d B3q (A8U v.1 v.2.1 v.2.2.1 v.2.2.2.1 v.2.2.2.2))∧∀ a:A8c,CEnd Q7.den (B3q a):=⟨fun v=>(A7H (A7H (A7H (A7H rfl rfl) rfl) rfl) rfl),fun a=>(A7u aCD (A7u aCD A7w))⟩
noncomputable def B79 (x0:Lq1) (x6:Int) (h1:LBBe) (h2:Lq1) (h3:List Int):Option (Ex×St):=let z1:=B2M x0 x6 h1 h2 h3;let z2:=x0.getD x6.toNat ((0:Int),((0:Int),[]));(cond (decide (x6<(x0.length:Int))) (cond (decide (0≤x6∧x6<(x0.length:Int))) (cond (A80 (z2.1) ((z2.2).1) ((z2.2).2) h1 h2 h3) (cond (!(z1.1)) (some (.ret,(⟨(.junk::.junk::(.all 0 2)::(.all 1 3)::(.t true .bool false)::D7n),[(.rows 70 true J5 ([]:LBBe)),(.rows 32 true tq5 ([]:Lq1))],0,[]⟩:St))) (some (.normal,(⟨((.t false tq3 x0)::.junk::.junk::.junk::.junk::(.ptr 0 0 1 0)::(ti (wI (x6+(1:Int))))::D7m),[(.box [(.all 1 2),(.all 2 3),(.all 3 1)]),(.rows 70 true J5 (z1.2.1)),(.rows 32 true tq5 (z1.2.2.1)),(.rows 3 true (.int .i64) (z1.2.2.2))],0,[]⟩:St)))) none) none) (some ((.exit 0),(⟨(.junk::.junk::.junk::.junk::.junk::(.ptr 0 0 1 0)::D6X),[(.box [(.all 1 2),(.all 2 3),(.all 3 1)]),(.rows 70 true J5 h1),(.rows 32 true tq5 h2),(.rows 3 true (.int .i64) h3)],0,[]⟩:St))))
theorem C45:RdA G33 aLn 0 B5U Q7 0 [] (kepts [2,3,4] [(0,[5])]) (B0A B79):=by
 intro d
 kernel_rfl
theorem C49:∀ d:Q7.den,(B0A B79) d=(B3F d).opt 0 []:=by
 intro d
 kernel_rfl
noncomputable abbrev B63:St→Option Tree:=Q7.say 0 [] [(2005002,3,(.int .i64))] (B0A C7f)
theorem C5Y:aPL B63 B5U:=SS.wp2 hlz [(2005002,3,(.int .i64))] B3F C45 C49 _ (fun d=>Runs.ofI2 (step:=B3F) B8d C6p rfl (d.1.1,d.1.2.2.2.2.2.2.1,d.2.2.1,d.2.2.2.1,d.2.2.2.2.1))
noncomputable def P0 (a0:Lq1):=B74 a0 (0:Int) ([]:LBBe) ([]:Lq1) ([]:List Int)
noncomputable def R9 (a0:Lq1):LBBe×Lq1×Bool:=let z1:=P0 a0;(cond (z1.1==0) ((z1.2.2.1),(z1.2.2.2.1),(z1.2.1)) ((z1.2.2.2.2.1),(z1.2.2.2.2.2.1),true))
noncomputable abbrev B3P (r:LBBe×Lq1×Bool):AV×List AObj:=((.tup [(.t true tq6 r.1),(.t true tq3 r.2.1),(.t true .bool r.2.2)]),[])
noncomputable abbrev B7f:H7 B1b→AV×List AObj:=fun d=>B3P (R9 d.1)
noncomputable def N0 (a0:Lq1):Bool:=cond ((P0 a0).1==0) true ((P0 a0).1==1)
noncomputable abbrev B4L:H7 B1b→Bool:=fun d=>N0 d.1
noncomputable abbrev C9o:Nat→St→Option Tree:=fun b=>match b with | 0=>B63 | _=>fun _=>none
theorem C7J:A7C true G33 (C9o) Try.f52 B1b B4L B7f:=by
 rintro ⟨a0,_⟩ hp
 change N0 a0=true at hp
 unfold N0 at hp
 refine Eq.trans (b:=(let z1:=P0 a0;cond (z1.1==0) (some (B3P ((z1.2.2.1),(z1.2.2.2.1),(z1.2.1)))) (cond (z1.1==1) (some (B3P ((z1.2.2.2.2.1),(z1.2.2.2.2.2.1),true))) none))) (by kernel_rfl) ?_
 exact (L8 B3P hp (fun hp=>rfl) (fun hp=>(A7F hp fun _h=>rfl)))
theorem C9D:aPP 52 (A22 B1b B4L B7f):=pcD true G33 (hl1 (i:=0) (by kernel_rfl) C5Y) C7J
noncomputable def S34:Tab:=Tab.add S33 52 (lift (A22 B1b B4L B7f))
noncomputable def D7W:FuncId→Bool:=qadd D7V 52
theorem G34:aPG S34 D7W:=G33.addQ C9D (cbl Try.f52) (fun _=>rfl)

abbrev D61:List Sh:=.junk::D5b
abbrev A9T:List PSh:=[.t tq6,.t tq6]
abbrev W0:SS:=⟨(.t false tq6::.t false tq6::.junk::.junk::.junk::tI::D61),[]⟩
abbrev B5w:SS:=⟨(.junk::.junk::.junk::.junk::.t true .bool::C7i),[]⟩
abbrev B5x:SS:=⟨(.junk::C8B),[]⟩
noncomputable def B67 (x0 x1:LBBe) (x5:Int):RT W0.den:=let z1:=x0.getD x5.toNat (bE,bE);let z2:=x1.getD x5.toNat (bE,bE);(.br (decide (x5<(x0.length:Int))) (.br (decide (0≤x5∧x5<(x0.length:Int))) (.br (decide (0≤x5∧x5<(x1.length:Int))) (.br (!(((z1.1).toList==(z2.1).toList)&&(((z1.2).toList==(z2.2).toList)&&true))) (.done .ret B5w (((),(),(),(),false,u22),())) (.next ((x0,x1,(),(),(),wI (x5+(1:Int)),u21),()))) .fail) .fail) (.done (.exit 0) B5x ((u27),())))
abbrev A7M:=(LBBe)×LBBe×(Int)
abbrev A8D:=Nat×(Bool)
def A9L:A8D:=(99,(false:Bool))
noncomputable def A8x (x0 x1:LBBe) (x5:Int):A7M ⊕ A8D:=let z1:=x0.getD x5.toNat (bE,bE);let z2:=x1.getD x5.toNat (bE,bE);(cond (decide (x5<(x0.length:Int))) (cond (decide (0≤x5∧x5<(x0.length:Int))) (cond (decide (0≤x5∧x5<(x1.length:Int))) (cond (!(((z1.1).toList==(z2.1).toList)&&(((z1.2).toList==(z2.2).toList)&&true))) (.inr (0,false)) (.inl (x0,x1,wI (x5+(1:Int))))) (.inr A9L)) (.inr A9L)) (.inr (1,(false:Bool))))
noncomputable def A8q (x0 x1:LBBe) (x5:Int):A8D:=itX (fun v:A7M=>A8x v.1 v.2.1 v.2.2) A9L (x0,x1,x5)
noncomputable def B2z (a:A8D):CT:=(.br (a.1==0) (.done .ret B5w (((),(),(),(),a.2,u22),())) (.br (a.1==1) (.done (.exit 0) B5x ((u27),())) .fail))
noncomputable def C5C (x0 x1:LBBe) (x5:Int):CT:=B2z (A8q x0 x1 x5)
noncomputable abbrev B21:W0.den→RT W0.den:=(fun d=>B67 d.1.1 d.1.2.1 d.1.2.2.2.2.2.1)
noncomputable def B4V:Code:=((D4 0 (A1l Try.f53)).getD 0 (0,.skip)).2
noncomputable abbrev B61 (v:A7M):W0.den:=((v.1,v.2.1,(),(),(),v.2.2,u21),())
theorem C5b:(∀ v:A7M,(B67 v.1 v.2.1 v.2.2).val=A6D B61 B2z (A8x v.1 v.2.1 v.2.2))∧∀ a:A8D,CEnd W0.den (B2z a):=⟨fun v=>(A7H (A7H (A7H (A7H rfl rfl) rfl) rfl) rfl),fun a=>(A7u aCD (A7u aCD A7w))⟩
theorem C3P:RdA G34 aLn 0 B4V W0 0 [] (kepts [4] [(0,[])]) (fun d=>(B21 d).opt 0 []):=by
 intro d
 kernel_rfl
noncomputable abbrev B6q:St→Option Tree:=W0.say 0 [] [] (fun d=>C5C d.1.1 d.1.2.1 d.1.2.2.2.2.2.1)
theorem C4J:aPL B6q B4V:=SS.wp2 hlz [] B21 C3P (fun d=>rfl) _ (fun d=>Runs.ofI2 (step:=B21) B61 C5b rfl (d.1.1,d.1.2.1,d.1.2.2.2.2.2.1))
noncomputable def B0R (a0 a1:LBBe):Bool:=let z1:=A8q a0 a1 (0:Int);(cond ((a0.length:Int) != (a1.length:Int)) false (cond (z1.1==0) (z1.2) true))
noncomputable abbrev A8L (r:Bool):AV×List AObj:=((.t true .bool r),[])
noncomputable abbrev B55:H7 A9T→AV×List AObj:=fun d=>A8L (B0R d.1 d.2.1)
noncomputable def A71 (a0 a1:LBBe):Bool:=let z1:=A8q a0 a1 (0:Int);cond ((a0.length:Int) != (a1.length:Int)) true (cond (z1.1==0) true (z1.1==1))
noncomputable abbrev B3y:H7 A9T→Bool:=fun d=>A71 d.1 d.2.1
noncomputable abbrev C7X:Nat→St→Option Tree:=fun b=>match b with | 0=>B6q | _=>fun _=>none
theorem C6t:A7C true G34 (C7X) Try.f53 A9T B3y B55:=by
 rintro ⟨a0,⟨a1,_⟩⟩ hp
 change A71 a0 a1=true at hp
 unfold A71 at hp
 refine Eq.trans (b:=(let z1:=A8q a0 a1 (0:Int);cond ((a0.length:Int) != (a1.length:Int)) (some (A8L false)) (cond (z1.1==0) (some (A8L (z1.2))) (cond (z1.1==1) (some (A8L true)) none)))) (by kernel_rfl) ?_
 exact (L8 A8L hp (fun hp=>rfl) (fun hp=>(L8 A8L hp (fun hp=>rfl) (fun hp=>(A7F hp fun _h=>rfl)))))
theorem C79:aPP 53 (A22 A9T B3y B55):=pcD true G34 (hl1 (i:=0) (by kernel_rfl) C4J) C6t
noncomputable def S35:Tab:=Tab.add S34 53 (lift (A22 A9T B3y B55))
noncomputable def D7X:FuncId→Bool:=qadd D7W 53
theorem G35:aPG S35 D7X:=G34.addQ C79 (cbl Try.f53) (fun _=>rfl)

abbrev B2o:List PSh:=[.t tq4,.t tq4]
abbrev A7Q:SS:=⟨(.t false tq4::.t false tq4::.junk::.junk::.junk::tI::D61),[]⟩
abbrev B7C:SS:=⟨(.junk::.junk::.junk::.junk::.t true .bool::C7i),[]⟩
abbrev B7D:SS:=⟨(.junk::C8B),[]⟩
noncomputable def C0f (x0 x1:Lq2) (x5:Int):RT A7Q.den:=let z1:=x0.getD x5.toNat ((0:Int),(bE,bE));let z2:=x1.getD x5.toNat ((0:Int),(bE,bE));(.br (decide (x5<(x0.length:Int))) (.br (decide (0≤x5∧x5<(x0.length:Int))) (.br (decide (0≤x5∧x5<(x1.length:Int))) (.br (!(((z1.1)==(z2.1))&&((((z1.2).1).toList==((z2.2).1).toList)&&((((z1.2).2).toList==((z2.2).2).toList)&&true)))) (.done .ret B7C (((),(),(),(),false,u22),())) (.next ((x0,x1,(),(),(),wI (x5+(1:Int)),u21),()))) .fail) .fail) (.done (.exit 0) B7D ((u27),())))
abbrev A8H:=(Lq2)×Lq2×(Int)
abbrev A9R:=Nat×(Bool)
def B1q:A9R:=(99,(false:Bool))
noncomputable def A9v (x0 x1:Lq2) (x5:Int):A8H ⊕ A9R:=let z1:=x0.getD x5.toNat ((0:Int),(bE,bE));let z2:=x1.getD x5.toNat ((0:Int),(bE,bE));(cond (decide (x5<(x0.length:Int))) (cond (decide (0≤x5∧x5<(x0.length:Int))) (cond (decide (0≤x5∧x5<(x1.length:Int))) (cond (!(((z1.1)==(z2.1))&&((((z1.2).1).toList==((z2.2).1).toList)&&((((z1.2).2).toList==((z2.2).2).toList)&&true)))) (.inr (0,false)) (.inl (x0,x1,wI (x5+(1:Int))))) (.inr B1q)) (.inr B1q)) (.inr (1,(false:Bool))))
noncomputable def A9n (x0 x1:Lq2) (x5:Int):A9R:=itX (fun v:A8H=>A9v v.1 v.2.1 v.2.2) B1q (x0,x1,x5)
noncomputable def B4B (a:A9R):CT:=(.br (a.1==0) (.done .ret B7C (((),(),(),(),a.2,u22),())) (.br (a.1==1) (.done (.exit 0) B7D ((u27),())) .fail))
noncomputable def C73 (x0 x1:Lq2) (x5:Int):CT:=B4B (A9n x0 x1 x5)
noncomputable abbrev B4S:A7Q.den→RT A7Q.den:=(fun d=>C0f d.1.1 d.1.2.1 d.1.2.2.2.2.2.1)
noncomputable def B6R:Code:=((D4 0 (A1l Try.f87)).getD 0 (0,.skip)).2
noncomputable abbrev B93 (v:A8H):A7Q.den:=((v.1,v.2.1,(),(),(),v.2.2,u21),())
theorem C7E:(∀ v:A8H,(C0f v.1 v.2.1 v.2.2).val=A6D B93 B4B (A9v v.1 v.2.1 v.2.2))∧∀ a:A9R,CEnd A7Q.den (B4B a):=⟨fun v=>(A7H (A7H (A7H (A7H rfl rfl) rfl) rfl) rfl),fun a=>(A7u aCD (A7u aCD A7w))⟩
theorem C6i:RdA G35 aLn 0 B6R A7Q 0 [] (kepts [4] [(0,[])]) (fun d=>(B4S d).opt 0 []):=by
 intro d
 kernel_rfl
noncomputable abbrev B8p:St→Option Tree:=A7Q.say 0 [] [] (fun d=>C73 d.1.1 d.1.2.1 d.1.2.2.2.2.2.1)
theorem C7o:aPL B8p B6R:=SS.wp2 hlz [] B4S C6i (fun d=>rfl) _ (fun d=>Runs.ofI2 (step:=B4S) B93 C7E rfl (d.1.1,d.1.2.1,d.1.2.2.2.2.2.1))
noncomputable def B9v (a0 a1:Lq2):Bool:=let z1:=A9n a0 a1 (0:Int);(cond ((a0.length:Int) != (a1.length:Int)) false (cond (z1.1==0) (z1.2) true))
noncomputable abbrev B0D (r:Bool):AV×List AObj:=((.t true .bool r),[])
noncomputable abbrev B8Z:H7 B2o→AV×List AObj:=fun d=>B0D (B9v d.1 d.2.1)
noncomputable def A8w (a0 a1:Lq2):Bool:=let z1:=A9n a0 a1 (0:Int);cond ((a0.length:Int) != (a1.length:Int)) true (cond (z1.1==0) true (z1.1==1))
noncomputable abbrev B6n:H7 B2o→Bool:=fun d=>A8w d.1 d.2.1
noncomputable abbrev D0u:Nat→St→Option Tree:=fun b=>match b with | 0=>B8p | _=>fun _=>none
theorem C9g:A7C true G35 (D0u) Try.f87 B2o B6n B8Z:=by
 rintro ⟨a0,⟨a1,_⟩⟩ hp
 change A8w a0 a1=true at hp
 unfold A8w at hp
 refine Eq.trans (b:=(let z1:=A9n a0 a1 (0:Int);cond ((a0.length:Int) != (a1.length:Int)) (some (B0D false)) (cond (z1.1==0) (some (B0D (z1.2))) (cond (z1.1==1) (some (B0D true)) none)))) (by kernel_rfl) ?_
 exact (L8 B0D hp (fun hp=>rfl) (fun hp=>(L8 B0D hp (fun hp=>rfl) (fun hp=>(A7F hp fun _h=>rfl)))))
theorem D0K:aPP 87 (A22 B2o B6n B8Z):=pcD true G35 (hl1 (i:=0) (by kernel_rfl) C7o) C9g
noncomputable def S36:Tab:=Tab.add S35 87 (lift (A22 B2o B6n B8Z))
noncomputable def D7Y:FuncId→Bool:=qadd D7X 87
theorem G36:aPG S36 D7Y:=G35.addQ D0K (cbl Try.f87) (fun _=>rfl)

abbrev D9b:List Sh:=.junk::.junk::.junk::D66
abbrev D9z:List Sh:=.junk::D9b
abbrev D9A:List Sh:=.junk::D7s
abbrev u51:=((),(),(),u48)
abbrev u50:=((),(),u48)
abbrev u56:=((),(),u54)
abbrev D9u:List AV:=.junk::.junk::.junk::.junk::D49
abbrev D9t:List AV:=.junk::.junk::.junk::D49
abbrev D9v:List AV:=.junk::D81
abbrev B1d:List PSh:=[.t tq3,.t tq3]
abbrev V0:SS:=⟨(.t false tq3::.t false tq3::.junk::.junk::.junk::tI::D9b),[]⟩
abbrev A9I:SS:=⟨(.junk::.junk::.junk::.junk::.t true .bool::D9z),[]⟩
abbrev B6G:SS:=⟨(.junk::D9A),[]⟩
noncomputable def B2N (x0 x1:Lq1) (x5:Int):=B9v (((x0.getD x5.toNat ((0:Int),((0:Int),[]))).2).2) (((x1.getD x5.toNat ((0:Int),((0:Int),[]))).2).2)
noncomputable def B8u (x0 x1:Lq1) (x5:Int):RT V0.den:=let z1:=x0.getD x5.toNat ((0:Int),((0:Int),[]));let z2:=x1.getD x5.toNat ((0:Int),((0:Int),[]));let z3:=decide (0≤x5∧x5<(x0.length:Int));let z4:=decide (0≤x5∧x5<(x1.length:Int));(.br (decide (x5<(x0.length:Int))) (.br z3 (.br z4 (.br ((z1.1) != (z2.1)) (.done .ret A9I (((),(),(),(),false,u51),())) (.br z3 (.br z4 (.br (((z1.2).1) != ((z2.2).1)) (.done .ret A9I (((),(),(),(),false,u51),())) (.br z3 (.br z4 (.br (A8w ((z1.2).2) ((z2.2).2)) (.br (!(B2N x0 x1 x5)) (.done .ret A9I (((),(),(),(),false,u51),())) (.next ((x0,x1,(),(),(),wI (x5+(1:Int)),u50),()))) .fail) .fail) .fail)) .fail) .fail)) .fail) .fail) (.done (.exit 0) B6G ((u56),())))
abbrev A8d:=(Lq1)×Lq1×(Int)
abbrev A9i:=Nat×(Bool)
def P5:A9i:=(99,(false:Bool))
noncomputable def A8X (x0 x1:Lq1) (x5:Int):A8d ⊕ A9i:=let z1:=x0.getD x5.toNat ((0:Int),((0:Int),[]));let z2:=x1.getD x5.toNat ((0:Int),((0:Int),[]));let z3:=decide (0≤x5∧x5<(x0.length:Int));let z4:=decide (0≤x5∧x5<(x1.length:Int));(cond (decide (x5<(x0.length:Int))) (cond z3 (cond z4 (cond ((z1.1) != (z2.1)) (.inr (0,false)) (cond z3 (cond z4 (cond (((z1.2).1) != ((z2.2).1)) (.inr (0,false)) (cond z3 (cond z4 (cond (A8w ((z1.2).2) ((z2.2).2)) (cond (!(B2N x0 x1 x5)) (.inr (0,false)) (.inl (x0,x1,wI (x5+(1:Int))))) (.inr P5)) (.inr P5)) (.inr P5))) (.inr P5)) (.inr P5))) (.inr P5)) (.inr P5)) (.inr (1,(false:Bool))))
noncomputable def A8O (x0 x1:Lq1) (x5:Int):A9i:=itX (fun v:A8d=>A8X v.1 v.2.1 v.2.2) P5 (x0,x1,x5)
noncomputable def B3s (a:A9i):CT:=(.br (a.1==0) (.done .ret A9I (((),(),(),(),a.2,u51),())) (.br (a.1==1) (.done (.exit 0) B6G ((u56),())) .fail))
noncomputable def C7h (x0 x1:Lq1) (x5:Int):CT:=B3s (A8O x0 x1 x5)
noncomputable abbrev B3H:V0.den→RT V0.den:=(fun d=>B8u d.1.1 d.1.2.1 d.1.2.2.2.2.2.1)
noncomputable def B5W:Code:=((D4 0 (A1l Try.f54)).getD 0 (0,.skip)).2
noncomputable abbrev B8f (v:A8d):V0.den:=((v.1,v.2.1,(),(),(),v.2.2,u50),())
theorem C6r:(∀ v:A8d,(B8u v.1 v.2.1 v.2.2).val=A6D B8f B3s (A8X v.1 v.2.1 v.2.2))∧∀ a:A9i,CEnd V0.den (B3s a):=⟨fun v=>by repeat' first | apply A7H | rfl,fun a=>(A7u aCD (A7u aCD A7w))⟩
noncomputable def B8a (x0 x1:Lq1) (x5:Int):Option (Ex×St):=let z1:=(⟨(.junk::.junk::.junk::.junk::(.t true .bool false)::D9u),[],0,[]⟩:St);let z2:=x0.getD x5.toNat ((0:Int),((0:Int),[]));let z3:=x1.getD x5.toNat ((0:Int),((0:Int),[]));let z4:=decide (0≤x5∧x5<(x0.length:Int));let z5:=decide (0≤x5∧x5<(x1.length:Int));(cond (decide (x5<(x0.length:Int))) (cond z4 (cond z5 (cond ((z2.1) != (z3.1)) (some (.ret,z1)) (cond z4 (cond z5 (cond (((z2.2).1) != ((z3.2).1)) (some (.ret,z1)) (cond z4 (cond z5 (cond (A8w ((z2.2).2) ((z3.2).2)) (cond (!(B2N x0 x1 x5)) (some (.ret,z1)) (some (.normal,(⟨((.t false tq3 x0)::(.t false tq3 x1)::.junk::.junk::.junk::(ti (wI (x5+(1:Int))))::D9t),[],0,[]⟩:St)))) none) none) none)) none) none)) none) none) (some ((.exit 0),(⟨(.junk::D9v),[],0,[]⟩:St))))
theorem C47:RdA G36 aLn 0 B5W V0 0 [] (kepts [4] [(0,[])]) (fun d=>B8a d.1.1 d.1.2.1 d.1.2.2.2.2.2.1):=by
 intro d
 kernel_rfl
theorem C5a:∀ d:V0.den,(fun d=>B8a d.1.1 d.1.2.1 d.1.2.2.2.2.2.1) d=(B3H d).opt 0 []:=by
 intro d
 kernel_rfl
noncomputable abbrev B65:St→Option Tree:=V0.say 0 [] [] (fun d=>C7h d.1.1 d.1.2.1 d.1.2.2.2.2.2.1)
theorem C50:aPL B65 B5W:=SS.wp2 hlz [] B3H C47 C5a _ (fun d=>Runs.ofI2 (step:=B3H) B8f C6r rfl (d.1.1,d.1.2.1,d.1.2.2.2.2.2.1))
noncomputable def B4o (a0 a1:Lq1):Bool:=let z1:=A8O a0 a1 (0:Int);(cond ((a0.length:Int) != (a1.length:Int)) false (cond (z1.1==0) (z1.2) true))
noncomputable abbrev A9A (r:Bool):AV×List AObj:=((.t true .bool r),[])
noncomputable abbrev B7h:H7 B1d→AV×List AObj:=fun d=>A9A (B4o d.1 d.2.1)
noncomputable def A8z (a0 a1:Lq1):Bool:=let z1:=A8O a0 a1 (0:Int);cond ((a0.length:Int) != (a1.length:Int)) true (cond (z1.1==0) true (z1.1==1))
noncomputable abbrev B4N:H7 B1d→Bool:=fun d=>A8z d.1 d.2.1
noncomputable abbrev C9s:Nat→St→Option Tree:=fun b=>match b with | 0=>B65 | _=>fun _=>none
theorem C7L:A7C true G36 (C9s) Try.f54 B1d B4N B7h:=by
 rintro ⟨a0,⟨a1,_⟩⟩ hp
 change A8z a0 a1=true at hp
 unfold A8z at hp
 refine Eq.trans (b:=(let z1:=A8O a0 a1 (0:Int);cond ((a0.length:Int) != (a1.length:Int)) (some (A9A false)) (cond (z1.1==0) (some (A9A (z1.2))) (cond (z1.1==1) (some (A9A true)) none)))) (by kernel_rfl) ?_
 exact (L8 A9A hp (fun hp=>rfl) (fun hp=>(L8 A9A hp (fun hp=>rfl) (fun hp=>(A7F hp fun _h=>rfl)))))
theorem C9F:aPP 54 (A22 B1d B4N B7h):=pcD true G36 (hl1 (i:=0) (by kernel_rfl) C50) C7L
noncomputable def S37:Tab:=Tab.add S36 54 (lift (A22 B1d B4N B7h))
noncomputable def D7Z:FuncId→Bool:=qadd D7Y 54
theorem G37:aPG S37 D7Z:=G36.addQ C9F (cbl Try.f54) (fun _=>rfl)

abbrev B5I:List PSh:=[.agg [(.int .i64),tq3,(.int .i64),tq6,tq3]]
noncomputable def B8j (a0:Int) (a1:Lq1) (a2:Int) (a3:LBBe) (a4:Lq1):Bool:=let z1:=R9 a1;(cond (!(X1 a0 (0:Int) (7:Int))) false (cond (decide ((a1.length:Int) > (300:Int))) false (cond (!(X1 a2 (0:Int) (a1.length:Int))) false (cond (z1.2.2) (cond (B0R (z1.1) a3) (cond (B4o (z1.2.1) a4) (decide ((wI ((a1.length:Int)+(((z1.2.1).length:Nat):Int)))≤(300:Int))) false) false) false))))
noncomputable abbrev U1 (r:Bool):AV×List AObj:=((.t true .bool r),[])
noncomputable abbrev C3u:H7 B5I→AV×List AObj:=fun d=>U1 (B8j d.1.1 d.1.2.1 d.1.2.2.1 d.1.2.2.2.1 d.1.2.2.2.2.1)
noncomputable def B1M (a0:Int) (a1:Lq1) (a2:Int) (a3:LBBe) (a4:Lq1):Bool:=let z1:=R9 a1;cond (!(X1 a0 (0:Int) (7:Int))) true (cond (decide ((a1.length:Int) > (300:Int))) true (cond (!(X1 a2 (0:Int) (a1.length:Int))) true ((N0 a1)&&(cond (z1.2.2) ((A71 (z1.1) a3)&&(cond (B0R (z1.1) a3) (A8z (z1.2.1) a4) true)) true))))
noncomputable abbrev B9m:H7 B5I→Bool:=fun d=>B1M d.1.1 d.1.2.1 d.1.2.2.1 d.1.2.2.2.1 d.1.2.2.2.2.1
theorem D1Q:A7C true G37 aLn Try.f20 B5I B9m C3u:=by
 rintro ⟨⟨a0,⟨a1,⟨a2,⟨a3,⟨a4,_⟩⟩⟩⟩⟩,_⟩ hp
 change B1M a0 a1 a2 a3 a4=true at hp
 unfold B1M at hp
 refine Eq.trans (b:=(let z1:=R9 a1;cond (!(X1 a0 (0:Int) (7:Int))) (some (U1 false)) (cond (decide ((a1.length:Int) > (300:Int))) (some (U1 false)) (cond (!(X1 a2 (0:Int) (a1.length:Int))) (some (U1 false)) (cond (N0 a1) (cond (z1.2.2) (cond (A71 (z1.1) a3) (cond (B0R (z1.1) a3) (cond (A8z (z1.2.1) a4) (cond (B4o (z1.2.1) a4) (some (U1 (decide ((wI ((a1.length:Int)+(((z1.2.1).length:Nat):Int)))≤(300:Int))))) (some (U1 false))) none) (some (U1 false))) none) (some (U1 false))) none))))) (by kernel_rfl) ?_
 exact (L8 U1 hp (fun hp=>rfl) (fun hp=>(L8 U1 hp (fun hp=>rfl) (fun hp=>(L8 U1 hp (fun hp=>rfl) (fun hp=>(A7D hp fun hp=>(L8 U1 hp (fun hp=>(A7D hp fun hp=>(L8 U1 hp (fun hp=>(A7F hp fun _h=>(Q2 U1 (fun _h=>rfl) (fun _h=>rfl)))) (fun hp=>rfl)))) (fun hp=>rfl)))))))))
theorem D3V:aPP 20 (A22 B5I B9m C3u):=pcD true G37 hlz D1Q
noncomputable def S38:Tab:=Tab.add S37 20 (lift (A22 B5I B9m C3u))
noncomputable def D70:FuncId→Bool:=qadd D7Z 20
theorem G38:aPG S38 D70:=G37.addQ D3V (cbl Try.f20) (fun _=>rfl)

abbrev B6I:SS:=⟨[.ptr 0 0 1 0,tI],[.box [tI,.t true tq3,tI,.t true tq6,.t true tq3]]⟩
noncomputable def B6Y (p1:Lq1) (p2:Int):=R9 ((p1.take (wI (p2+(wI ((p1.length:Int) - p2)))).toNat).drop (0:Int).toNat)
noncomputable def B4g (p1:Lq1) (p2:Int):=R9 ((p1.take (wI (p2+(0:Int))).toNat).drop (0:Int).toNat)
noncomputable def C5s (x1 p0:Int) (p1:Lq1) (p2:Int) (p3:LBBe) (p4:Lq1):Int×Lq1×Int×LBBe×Lq1:=let z3:=wI ((p1.length:Int) - p2);let z1:=p1.take (wI (p2+z3)).toNat;let z4:=B6Y p1 p2;let z5:=p1.take (wI (p2+(0:Int))).toNat;let z6:=p1.take (wI (p2+x1)).toNat;let z2:=z6.drop (0:Int).toNat;let z7:=(((z1.drop (0:Int).toNat).length:Nat):Int);(cond (decide (x1<(0:Int))) (cond (decide ((0:Int) > z3)) (p0,z1.drop (0:Int).toNat,z7,(z4.1),(z4.2.1)) (p0,z5.drop (0:Int).toNat,(((z5.drop (0:Int).toNat).length:Nat):Int),((B4g p1 p2).1),((B4g p1 p2).2.1))) (cond (decide (x1 > z3)) (p0,z1.drop (0:Int).toNat,z7,(z4.1),(z4.2.1)) (p0,z6.drop (0:Int).toNat,((z2.length:Nat):Int),((R9 z2).1),((R9 z2).2.1))))
noncomputable abbrev B1E (r:Int×Lq1×Int×LBBe×Lq1):AV×List AObj×List Nat:=((.tup []),[(.box [(ti r.1),(.t true tq3 r.2.1),(ti r.2.2.1),(.t true tq6 r.2.2.2.1),(.t true tq3 r.2.2.2.2)])],[])
noncomputable abbrev C8x:B6I.den→AV×List AObj×List Nat:=fun d=>B1E (C5s d.1.2.1 d.2.1.1 d.2.1.2.1 d.2.1.2.2.1 d.2.1.2.2.2.1 d.2.1.2.2.2.2.1)
noncomputable def B1N (x1 p0:Int) (p1:Lq1) (p2:Int) (p3:LBBe) (p4:Lq1):Bool:=let z3:=wI ((p1.length:Int) - p2);let z1:=wI (p2+z3);let z2:=(decide (0≤(0:Int)∧(0:Int)≤z1∧z1≤(p1.length:Int)))&&(N0 ((p1.take z1.toNat).drop (0:Int).toNat));let z4:=wI (p2+(0:Int));let z5:=wI (p2+x1);cond (decide (x1<(0:Int))) (cond (decide ((0:Int) > z3)) z2 ((decide (0≤(0:Int)∧(0:Int)≤z4∧z4≤(p1.length:Int)))&&(N0 ((p1.take z4.toNat).drop (0:Int).toNat)))) (cond (decide (x1 > z3)) z2 ((decide (0≤(0:Int)∧(0:Int)≤z5∧z5≤(p1.length:Int)))&&(N0 ((p1.take z5.toNat).drop (0:Int).toNat))))
noncomputable abbrev C4S:B6I.den→Bool:=fun d=>B1N d.1.2.1 d.2.1.1 d.2.1.2.1 d.2.1.2.2.1 d.2.1.2.2.2.1 d.2.1.2.2.2.2.1
theorem D1R:A7B G38 aLn Try.f56 B6I C4S C8x:=by
 rintro ⟨⟨_,x1,_⟩,⟨⟨p0,p1,p2,p3,p4,_⟩,_⟩⟩ hp
 change B1N x1 p0 p1 p2 p3 p4=true at hp
 unfold B1N at hp
 refine Eq.trans (b:=(let z4:=wI (p2+(0:Int));let z5:=wI ((p1.length:Int) - p2);let z1:=wI (p2+z5);let z6:=(p1.take z1.toNat).drop (0:Int).toNat;let z3:=B1E (p0,(p1.take z1.toNat).drop (0:Int).toNat,((z6.length:Nat):Int),((B6Y p1 p2).1),((B6Y p1 p2).2.1));let z7:=wI (p2+x1);let z2:=(p1.take z7.toNat).drop (0:Int).toNat;let z8:=decide (0≤(0:Int)∧(0:Int)≤z1∧z1≤(p1.length:Int));let z9:=(p1.take z4.toNat).drop (0:Int).toNat;cond (decide (x1<(0:Int))) (cond (decide ((0:Int) > z5)) (cond z8 (cond (N0 z6) (some z3) none) none) (cond (decide (0≤(0:Int)∧(0:Int)≤z4∧z4≤(p1.length:Int))) (cond (N0 z9) (some (B1E (p0,(p1.take z4.toNat).drop (0:Int).toNat,((z9.length:Nat):Int),((B4g p1 p2).1),((B4g p1 p2).2.1)))) none) none)) (cond (decide (x1 > z5)) (cond z8 (cond (N0 z6) (some z3) none) none) (cond (decide (0≤(0:Int)∧(0:Int)≤z7∧z7≤(p1.length:Int))) (cond (N0 z2) (some (B1E (p0,(p1.take z7.toNat).drop (0:Int).toNat,((z2.length:Nat):Int),((R9 z2).1),((R9 z2).2.1)))) none) none)))) (by kernel_rfl) ?_
 exact (L8 B1E hp (fun hp=>(L8 B1E hp (fun hp=>(A7D hp fun hp=>(A7F hp fun _h=>rfl))) (fun hp=>(A7D hp fun hp=>(A7F hp fun _h=>rfl))))) (fun hp=>(L8 B1E hp (fun hp=>(A7D hp fun hp=>(A7F hp fun _h=>rfl))) (fun hp=>(A7D hp fun hp=>(A7F hp fun _h=>rfl))))))
noncomputable abbrev C8N:=win E8 (msum B6I C4S C8x)
theorem D3W:aPM 56 C8N:=(mcM G38 hlz D1R).win E8
noncomputable def S39:Tab:=Tab.add S38 56 (C8N)
noncomputable def D71:FuncId→Bool:=D70
theorem G39:aPG S39 D71:=G38.addM D3W (A7d _) (cbl Try.f56) (by kernel_rfl)


end Go.Proofs.Ytgglehejlddghaa.Eng
