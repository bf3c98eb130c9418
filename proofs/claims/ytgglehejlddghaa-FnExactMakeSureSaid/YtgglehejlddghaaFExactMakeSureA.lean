/- What the functions that FnExactMakeSure reaches compute, and that it answers true. -/
import Derived.Test.YtgglehejlddghaaT
import Derived.Test.YtgglehejlddghaaRows
import Derived.Test.YtgglehejlddghaaE45
import Derived.Shelf.Spec.SlicesInsertGrow
namespace Go.Proofs.Ytgglehejlddghaa.Eng
open Go Go.RowKit
set_option linter.unusedSimpArgs false
set_option linter.unusedVariables false
set_option maxRecDepth 10000
abbrev bE:ByteArray:=⟨#[]⟩
abbrev Lq2:=List (Int×ByteArray×ByteArray)
abbrev tq4:Ty:=.sl (.pair (.int .i64) (.pair .str .str))
abbrev tq5:Ty:=.pair (.int .i64) (.pair (.int .i64) (.sl (.pair (.int .i64) (.pair .str .str))))
abbrev ti:=@AV.t true (.int .i64)
abbrev tI:Sh:=.t true (.int .i64)
abbrev aPG:=Good Try.prog tt
abbrev aPM:=MContract Try.prog
abbrev aPP:=PContract Try.prog
abbrev aPL:=A0A Try.prog
abbrev aLn:Nat→St→Option Tree:=fun _ _=>none
theorem aCD{D:Type}{e:Ex}{s:SS}{x:s.den}(h:e ≠ .normal:=by simp):CEnd D (.done e s x):=A7u h
noncomputable def S0:Tab:=fun _=>none
noncomputable def QF0:FuncId→Bool:=fun _=>false
theorem G0:aPG S0 QF0:=Good.start D6l (by kernel_rfl)
theorem Runs.ofI2 {D V A:Type} {step:D→RT D} (pk:V→D) {ss:V→V ⊕ A} {ct:A→CT} {fa:A} (h:(∀ v,(step (pk v)).val=A6D pk ct (ss v))∧∀ a,CEnd D (ct a)) (hf:(ct fa).val (D:=D)=.fail) (v:V):(ct (itX ss fa v)).val (D:=D)=.fail∨Runs step (pk v) (ct (itX ss fa v)).val:=Runs.ofIt pk hf h.1 h.2 v
theorem M2 {α β:Type} (e:α→β) {c q r:Bool} {X Y:Option β} {a b:α} (hq:cond c q r=true) (hx:q=true→X=some (e a)) (hy:r=true→Y=some (e b)):cond c X Y=some (e (cond c a b)):=A7D (F:=fun r=>some (e r)) hq hx hy
theorem P9 {α β:Type} (e:α→β) {c:Bool} {X Y:Option β} {a b:α} (hx:c=true→X=some (e a)) (hy:c=false→Y=some (e b)):cond c X Y=some (e (cond c a b)):=cnd (F:=fun r=>some (e r)) hx hy
theorem hlz {L:Nat→St→Option Tree} {b:Nat} {x:Code} (h:D4 b x=[]:=by kernel_rfl):∀ p∈D4 b x,aPL (L p.1) p.2:=hl0 h
theorem cbl {f : FuncId} (F : Func) (h1 : Try.prog.funcs[f]? = some F := by kernel_rfl) (h2 : (F.name == "runtime.NumGoroutine") = false := by kernel_rfl) (h3 : F.body.isNone = false := by kernel_rfl) : Callable Try.prog f := ⟨F, h1, h2, h3⟩
theorem pcD (ro:Bool) {TB:TT} {S:Tab} {Q:FuncId→Bool} (G:Good Try.prog TB S Q) {f:FuncId} {fn:Func} {L:Nat→St→Option Tree} (hL:∀ p∈D4 0 (A1l fn),aPL (L p.1) p.2) {l:List PSh} {pre:H7 l→Bool} {g:H7 l→AV×List AObj} (h:A7B ro G L fn l pre g) (hf:Try.prog.funcs[f]? = some fn:=by kernel_rfl):aPP f (A21 l pre g):=PContract.of_data ro G hf hL l pre g h
theorem mcM {TB:TT} {S:Tab} {Q:FuncId→Bool} (G:Good Try.prog TB S Q) {f:FuncId} {fn:Func} {L:Nat→St→Option Tree} (hL:∀ p∈D4 0 (A1l fn),aPL (L p.1) p.2) {s:SS} {pre:s.den→Bool} {g:s.den→AV×List AObj×List Nat} (h:A7A G L fn s pre g) (hf:Try.prog.funcs[f]? = some fn:=by kernel_rfl):aPM f (msum s pre g):=MContract.of_data G hf hL s pre g h
theorem mcE (mr:Bool) (dl:List AV) (kx:List Nat) (nb:List (Nat×Nat×Nat×TypeId×Ty)) {TB:TT} {S:Tab} {Q:FuncId→Bool} (G:Good Try.prog TB S Q) {f:FuncId} {fn:Func} {L:Nat→St→Option Tree} (hL:∀ p∈D4 0 (A1l fn),aPL (L p.1) p.2) {s:SS} {pre:s.den→Bool} {g:s.den→AV×List AObj×List Nat} (h:A7z mr dl kx nb G L fn s pre g) (hf:Try.prog.funcs[f]? = some fn:=by kernel_rfl):aPM f (msum s pre g):=MContract.of_dataE mr dl kx nb G hf hL s pre g h
theorem C9V:∀ a b:List UInt8,(!(Op.bytesLess a b))=(Op.bytesLess b a||b==a):=by
 intro a
 induction a with
 | nil=>intro b;cases b<;>simp [Op.bytesLess]
 | cons x a ih =>
  intro b
  cases b with
  | nil=>simp [Op.bytesLess]
  | cons y b =>
   simp only [Op.bytesLess]
   by_cases h1:x<y
   ·have h2:¬ y<x:=fun h=>UInt8.lt_irrefl _ (UInt8.lt_trans h1 h)
    have h3:(y==x)=false:=by rw [beq_eq_false_iff_ne];intro h;subst h;exact h2 h1
    have h4:(y::b==x::a)=false:=by rw [List.cons_beq_cons,h3,Bool.false_and]
    simp [h1,h2,h3,h4]
   ·by_cases h5:x=y
    ·subst h5
     have h6:(x::b==x::a)=(b==a):=by rw [List.cons_beq_cons];simp
     have:=ih b
     simp only [h1,decide_false,Bool.false_or,beq_self_eq_true,Bool.true_and,h6,this]
    ·have h7 : y < x := by
      rcases Nat.lt_trichotomy x.toNat y.toNat with h | h | h
      ·exact absurd (UInt8.lt_iff_toNat_lt.2 h) h1
      ·exact absurd (UInt8.toNat_inj.1 h) h5
      ·exact UInt8.lt_iff_toNat_lt.2 h
     have h8:(x==y)=false:=by rw [beq_eq_false_iff_ne];exact h5
     simp [h1,h7,h8]
theorem C7w {p q:Nat→Bool}:∀ k i,(∀ j,i≤j→j<i+k→p j=q j)→A4G p k i=A4G q k i:=by
 intro k
 induction k with
 | zero=>intro i h;rfl
 | succ k ih=>intro i h;simp only [A4G];rw [h i (Nat.le_refl _) (by omega),ih (i+1) (fun j h1 h2=>h j (by omega) (by omega))]
theorem C9w {p:Nat→Bool} (k i:Nat) (h:∀ j,i≤j→j<i+k→p j=true):A4G p k i=true:=(A7c k i).2 h
theorem D1h {f:Nat→Int→Int} {Q:Nat→Prop} {M:Int}:∀ (k i:Nat) (b:Int),(∀ j b,i≤j→j<i+k→0≤b→b≤M→0≤f j b→Q j∧f j b≤b)→0≤b→b≤M→A7w (szN f k i b)=true →
  (∀ j,i≤j→j<i+k→Q j)∧0≤A7n (-1) (szN f k i b)∧A7n (-1) (szN f k i b)≤b:=by
 intro k
 induction k with
 | zero=>intro i b hf h1 h2 h3;exact ⟨fun j hj hk=>by omega,h1,Int.le_refl _⟩
 | succ k ih =>
  intro i b hf h1 h2 h3
  have e:szN f (k+1) i b=cond (decide (f i b<0)) (.inr ()) (szN f k (i+1) (f i b)):=by
   simp only [szN,loopN]
   cases decide (f i b<0)<;>rfl
  rw [e] at h3 ⊢
  cases hd:decide (f i b<0) with
  | true=>rw [hd] at h3;cases h3
  | false =>
   rw [hd] at h3
   simp only [cond_false] at h3 ⊢
   have h0:0≤f i b:=by have:=of_decide_eq_false hd;omega
   obtain ⟨q1,q2⟩:=hf i b (Nat.le_refl _) (by omega) h1 h2 h0
   obtain ⟨r1,r2,r3⟩:=ih (i+1) (f i b) (fun j b hj hk=>hf j b (by omega) (by omega)) h0 (by omega) h3
   refine ⟨fun j hj hk=>?_,r2,by omega⟩
   by_cases ej:j=i
   ·exact ej ▸ q1
   ·exact r1 j (by omega) (by omega)
noncomputable def dOp:Int×ByteArray×ByteArray:=((0:Int),(bE,bE))
noncomputable def D6B (o:Int×ByteArray×ByteArray):Bool:=okS o.2.1&&okS o.2.2
noncomputable def A0h (l:Lq2):Bool:=okL l&&l.all D6B
theorem D2g {l:Lq2} (h:A0h l=true) (i:Nat) (hi:i<l.length):okS (l.getD i dOp).2.1=true∧okS (l.getD i dOp).2.2=true:=by
 simp only [A0h,Bool.and_eq_true,List.all_eq_true] at h
 have:=h.2 (l.getD i dOp) (by simp [List.getD_eq_getElem?_getD,hi])
 simpa [D6B] using this
theorem A7T {l:Lq2} (h:A0h l=true):l.length≤1048576:=by
 simp only [A0h,Bool.and_eq_true] at h
 exact A7p h.1
noncomputable def C3S (s:ByteArray):Bool:=decide (s.size≤9223372036854775807)
noncomputable def B5u (l:Lq2):Bool:=decide (l.length≤9223372036854775807)&&l.all (fun o=>C3S o.2.1&&C3S o.2.2)
theorem C9x {l:Lq2} (h:B5u l=true) (i:Nat) (hi:i<l.length):C3S (l.getD i dOp).2.1=true∧C3S (l.getD i dOp).2.2=true:=by
 simp only [B5u,Bool.and_eq_true,List.all_eq_true] at h
 exact h.2 (l.getD i dOp) (by simp [List.getD_eq_getElem?_getD,hi])
theorem D5A {l:Lq2} (h1:l.length≤1048576) (h2:∀ i,i<l.length→okS (l.getD i dOp).2.1=true∧okS (l.getD i dOp).2.2=true):A0h l=true:=by
 simp only [A0h,okL,Bool.and_eq_true,decide_eq_true_eq,List.all_eq_true]
 refine ⟨h1,fun o ho=>?_⟩
 obtain ⟨i,hi,rfl⟩:=List.getElem_of_mem ho
 have:=h2 i hi
 simp only [List.getD_eq_getElem?_getD,List.getElem?_eq_getElem hi,Option.getD_some] at this
 simp [D6B,this.1,this.2]
theorem D23 (a b:ByteArray):(a.toList==b.toList)=decide (a=b):=by
 rw [ByteArray.toList_eq,ByteArray.toList_eq]
 by_cases h:a=b
 ·subst h;simp
 ·rw [decide_eq_false h,beq_eq_false_iff_ne]
  intro e
  exact h (by cases a;cases b;simp at e;rw [e])
theorem D25 {l:Lq2} (h:B5u l=true):l.length≤9223372036854775807:=by
 simp only [B5u,Bool.and_eq_true,decide_eq_true_eq] at h;exact h.1
theorem C9H {l:Lq2} (h:A0h l=true):okL l=true:=by
 simp only [A0h,Bool.and_eq_true] at h;exact h.1
theorem D39 {l:Lq2} (h:A23 tq4 l=true):B5u l=true:=by
 have h:(decide (l.length≤maxLen)&&l.all fun o=>(Lit.int .i64 o.1).wf&&(decide (o.2.1.size≤maxLen)&&decide (o.2.2.size≤maxLen)))=true:=h
 have hm:maxLen=9223372036854775807:=by decide
 rw [hm] at h
 simp only [Bool.and_eq_true,decide_eq_true_eq,List.all_eq_true] at h
 simp only [B5u,C3S,Bool.and_eq_true,decide_eq_true_eq,List.all_eq_true]
 exact ⟨h.1,fun o ho=>(h.2 o ho).2⟩
noncomputable def C97 (x:Int):ByteArray:=(⟨([IntKind.wrap .u8 (wI ((48:Int)+(Int.tmod x (10:Int))))].map fun n=>UInt8.ofNat n.toNat).toArray⟩:ByteArray)
theorem C5b (x:Int):(C97 x).size=1:=rfl
noncomputable def C47:Nat→Int→ByteArray→ByteArray
 | 0,_,s=>s
 | k+1,x,s=>cond (decide (x > 0)) (C47 k (wI (Int.tdiv x (10:Int))) (C97 x++s)) s
theorem D5H:∀ (k:Nat) (x:Int) (s:ByteArray),(C47 k x s).size≤k+s.size:=by
 intro k
 induction k with
 | zero=>intro x s;simp [C47]
 | succ k ih =>
  intro x s
  simp only [C47]
  cases decide (x > 0) with
  | true =>
   have:=ih (wI (Int.tdiv x (10:Int))) (C97 x++s)
   rw [ByteArray.size_append,C5b] at this
   simp only [cond_true];omega
  | false=>simp only [cond_false];omega
abbrev C3L:List PSh:=[.agg [(.int .i64),.str,.str],.t (.int .i64)]
noncomputable def C9F (a0:Int) (a1 a2:ByteArray) (a3:Int):Int:=let z2:=wI (a3 - (a1.size:Int));let z1:=wI (z2 - (a2.size:Int));(cond (decide (z2<(0:Int))) (-1:Int) (cond (decide (z1<(0:Int))) (-1:Int) z1))
noncomputable abbrev C1H (r:Int):AV×List AObj:=((ti r),[])
noncomputable abbrev D0c:H7 C3L→AV×List AObj:=fun d=>C1H (C9F d.1.1 d.1.2.1 d.1.2.2.1 d.2.1)
noncomputable abbrev C5E:H7 C3L→Bool:=fun d=>true
theorem D4H:A7B true G0 aLn Try.f144 C3L C5E D0c:=by
 rintro ⟨⟨a0,⟨a1,⟨a2,_⟩⟩⟩,⟨a3,_⟩⟩ hp
 refine Eq.trans (b:=(let z2:=wI (a3 - (a1.size:Int));let z1:=wI (z2 - (a2.size:Int));cond (decide (z2<(0:Int))) (some (C1H (-1:Int))) (cond (decide (z1<(0:Int))) (some (C1H (-1:Int))) (some (C1H z1))))) (by kernel_rfl) ?_
 exact (P9 C1H (fun _h=>rfl) (fun _h=>(P9 C1H (fun _h=>rfl) (fun _h=>rfl))))
theorem D5R:aPP 144 (A21 C3L C5E D0c):=pcD true G0 hlz D4H
noncomputable def S1:Tab:=Tab.add S0 144 (lift (A21 C3L C5E D0c))
noncomputable def QF1:FuncId→Bool:=qadd QF0 144
theorem G1:aPG S1 QF1:=G0.addQ D5R (cbl Try.f144) (fun _=>rfl)

abbrev C6N:List Sh:=.junk::.junk::.junk::.junk::.junk::.junk::.junk::.junk::.junk::.junk::.junk::.junk::.junk::.junk::.junk::.junk::.junk::.junk::.junk::.junk::.junk::[]
abbrev D0o:List Sh:=.junk::C6N
abbrev C72:List Sh:=.junk::.junk::.junk::D0o
abbrev u23:=((),(),(),(),(),(),(),(),(),(),(),(),(),(),(),(),(),(),(),(),(),(),())
abbrev u22:=((),(),(),(),(),(),(),(),(),(),(),(),(),(),(),(),(),(),(),(),(),())
abbrev u26:=((),(),(),u23)
noncomputable def V4 (x0:Lq2) (i:Nat) (b:Int):Int:=(C9F ((x0.getD i ((0:Int),(bE,bE))).1) (((x0.getD i ((0:Int),(bE,bE))).2).1) (((x0.getD i ((0:Int),(bE,bE))).2).2) b)
abbrev B91:List PSh:=[.t tq4,.t (.int .i64)]
abbrev B1g:SS:=⟨(.t false tq4::tI::.junk::.junk::.junk::tI::C6N),[]⟩
abbrev B4B:SS:=⟨(.junk::.junk::.junk::.junk::tI::D0o),[]⟩
abbrev B77:SS:=⟨(.junk::tI::C72),[]⟩
noncomputable def C1u (x0:Lq2) (x1 x5:Int):RT B1g.den:=let z1:=x0.getD x5.toNat ((0:Int),(bE,bE));let z2:=C9F (z1.1) ((z1.2).1) ((z1.2).2) x1;(.br (decide (x5<(x0.length:Int))) (.br (decide (0≤x5∧x5<(x0.length:Int))) (.br (decide (z2<(0:Int))) (.done .ret B4B (((),(),(),(),(-1:Int),u23),())) (.next ((x0,z2,(),(),(),wI (x5+(1:Int)),u22),()))) .fail) (.done (.exit 0) B77 (((),x1,u26),())))
noncomputable def B5p (x0:Lq2) (x1 x5:Int):CT:=(.br (decide (0≤x5)&&okL x0) (.br (A7w (szN (V4 x0) (x0.length - x5.toNat) x5.toNat x1)) (.done (.exit 0) B77 (((),(A7n (-1) (szN (V4 x0) (x0.length - x5.toNat) x5.toNat x1)),u26),())) (.done .ret B4B (((),(),(),(),(-1:Int),u23),()))) .fail)
noncomputable abbrev B0i:B1g.den→RT B1g.den:=(fun d=>C1u d.1.1 d.1.2.1 d.1.2.2.2.2.2.1)
noncomputable abbrev B6B (x0:Lq2) (x1 x5:Int):B1g.den:=((x0,x1,(),(),(),x5,u22),())
noncomputable def C2h:Code:=((D4 0 (A1l Try.f135)).getD 0 (0,.skip)).2
theorem D2T (x0:Lq2) (x1 x5:Int):(B5p x0 x1 x5).val (D:=B1g.den)=.fail∨Runs B0i (B6B x0 x1 x5) (B5p x0 x1 x5).val:=by
 cases hc:(decide (0≤x5)&&okL x0) with
 | false=>left;simp only [B5p,CT.val,hc,cond_false]
 | true =>
  right
  simp only [B5p,CT.val,hc,cond_true]
  simp only [Bool.and_eq_true,decide_eq_true_eq] at hc
  obtain ⟨i,rfl⟩:=Int.eq_ofNat_of_zero_le hc.1
  have hs:=A7p hc.2
  simp only [Int.toNat_natCast]
  have h:=Runs.loopN (step:=B0i) (fun j b=>B6B x0 b (j:Int)) (fun _ _=>True) (x0.length) (fun i b=>cond (decide (V4 x0 i b<0)) (.inr ()) (.inl (V4 x0 i b)))
   (fin:=fun b=>((.done (.exit 0) B77 (((),b,u26),())):CT).val) (bad:=fun _=>((.done .ret B4B (((),(),(),(),(-1:Int),u23),())):CT).val)
   (fun i b hi _=>?_) (fun i b hi _=>?_) (x0.length - i) i x1 rfl trivial
  ·simp only [szN]
   revert h
   cases loopN (fun i b=>cond (decide (V4 x0 i b<0)) (.inr ()) (.inl (V4 x0 i b))) (x0.length - i) i x1 with
   | inl b=>exact id
   | inr c=>exact id
  ·
   have h0a:decide ((i:Int)<(x0.length:Int))=true:=decide_eq_true (by omega)
   have h0b:decide (0≤(i:Int)∧(i:Int)<(x0.length:Int))=true:=decide_eq_true (by omega)
   have e:(B0i (B6B x0 b (i:Int))).val=cond (decide (V4 x0 i b<0)) ((.done .ret B4B (((),(),(),(),(-1:Int),u23),())):CT).val (.next (B6B x0 (V4 x0 i b) ((i+1:Nat):Int))):=by
    simp only [B0i,C1u,RT.val,h0a,h0b,cond_true,A7x i (by omega),Int.toNat_natCast]
    rfl
   cases hr:decide (V4 x0 i b<0) with
   | true=>exact .inr ⟨(),_,_,_,rfl,by rw [e,hr];rfl,rfl,by simp⟩
   | false=>exact .inl ⟨_,rfl,trivial,by rw [e,hr];rfl⟩
  ·have h1:decide ((i:Int)<(x0.length:Int))=false:=decide_eq_false (by omega)
   exact ⟨by simp only [B0i,C1u,RT.val,h1,cond_false];rfl,_,_,_,rfl,by simp⟩
theorem D0F:RdA G1 aLn 0 C2h B1g 0 [] (kepts [4] [(0,[1])]) (fun d=>(B0i d).opt 0 []):=by
 intro d
 kernel_rfl
noncomputable abbrev C4Q:St→Option Tree:=B1g.say 0 [] [] (fun d=>B5p d.1.1 d.1.2.1 d.1.2.2.2.2.2.1)
theorem D19:aPL C4Q C2h:=SS.wp2 hlz [] B0i D0F (fun d=>rfl) _ (fun d=>D2T d.1.1 d.1.2.1 d.1.2.2.2.2.2.1)
noncomputable def B1o (a0:Lq2) (a1:Int):Int:=let z2:=wI (a1 - (a0.length:Int));let z1:=szN (V4 a0) (a0.length - (0:Int).toNat) (0:Int).toNat z2;(cond (decide (z2<(0:Int))) (-1:Int) (cond (A7w z1) (A7n (-1) z1) (-1:Int)))
noncomputable abbrev B7y (r:Int):AV×List AObj:=((ti r),[])
noncomputable abbrev C7P:H7 B91→AV×List AObj:=fun d=>B7y (B1o d.1 d.2.1)
noncomputable def C06 (a0:Lq2) (a1:Int):Bool:=decide (0≤a1∧a1≤1048576∧a0.length≤9223372036854775807)
noncomputable abbrev C3d:H7 B91→Bool:=fun d=>C06 d.1 d.2.1
noncomputable abbrev D4T:Nat→St→Option Tree:=fun b=>match b with | 0=>C4Q | _=>fun _=>none
theorem D3F:A7B true G1 (D4T) Try.f135 B91 C3d C7P:=by
 rintro ⟨a0,⟨a1,_⟩⟩ hp
 change C06 a0 a1=true at hp
 unfold C06 at hp
 refine Eq.trans (b:=(let z2:=wI (a1 - (a0.length:Int));let z1:=szN (V4 a0) (a0.length - (0:Int).toNat) (0:Int).toNat z2;cond (decide (z2<(0:Int))) (some (B7y (-1:Int))) (cond (decide (0≤(0:Int))&&okL a0) (cond (A7w z1) (some (B7y (A7n (-1) z1))) (some (B7y (-1:Int)))) none))) (by kernel_rfl) ?_
 exact (P9 B7y (fun _h=>rfl) (fun _h=>(A7E (by simp only [decide_eq_true_eq,decide_eq_false_iff_not] at hp _h;have hw:=A6J (n:=a1 - (a0.length:Int)) (by omega) (by omega);rw [hw] at _h;simp [okL];omega) (fun _h=>(P9 B7y (fun _h=>rfl) (fun _h=>rfl))))))
theorem D5a:aPP 135 (A21 B91 C3d C7P):=pcD true G1 (hl1 (i:=0) (by kernel_rfl) D19) D3F
noncomputable def S2:Tab:=Tab.add S1 135 (lift (A21 B91 C3d C7P))
noncomputable def QF2:FuncId→Bool:=qadd QF1 135
theorem G2:aPG S2 QF2:=G1.addQ D5a (cbl Try.f135) (fun _=>rfl)

abbrev B92:List PSh:=[.agg [(.int .i64),(.int .i64),tq4],.t (.int .i64)]
noncomputable def B6R (a0 a1:Int) (a2:Lq2) (a3:Int):Int:=(cond (decide ((B1o a2 a3)<(0:Int))) (-1:Int) (B1o a2 a3))
noncomputable abbrev C32 (r:Int):AV×List AObj:=((ti r),[])
noncomputable abbrev C7Q:H7 B92→AV×List AObj:=fun d=>C32 (B6R d.1.1 d.1.2.1 d.1.2.2.1 d.2.1)
noncomputable def B7R (a0 a1:Int) (a2:Lq2) (a3:Int):Bool:=decide (0≤a3∧a3≤1048576∧a2.length≤9223372036854775807)
noncomputable abbrev C3e:H7 B92→Bool:=fun d=>B7R d.1.1 d.1.2.1 d.1.2.2.1 d.2.1
theorem D3G:A7B true G2 aLn Try.f108 B92 C3e C7Q:=by
 rintro ⟨⟨a0,⟨a1,⟨a2,_⟩⟩⟩,⟨a3,_⟩⟩ hp
 change B7R a0 a1 a2 a3=true at hp
 unfold B7R at hp
 refine Eq.trans (b:=(cond (C06 a2 a3) (cond (decide ((B1o a2 a3)<(0:Int))) (some (C32 (-1:Int))) (some (C32 (B1o a2 a3)))) none)) (by kernel_rfl) ?_
 exact (A7E (by first | rfl | decide | exact hp | (simp only [Bool.and_eq_true] at hp;simp only [hp];done) | (simp [*];done) | (simp [okL] at hp;simp [okL,MAXB];omega) | (simp_all;done) | (simp at *;omega)) (fun _h=>(P9 C32 (fun _h=>rfl) (fun _h=>rfl))))
theorem D5b:aPP 108 (A21 B92 C3e C7Q):=pcD true G2 hlz D3G
noncomputable def S3:Tab:=Tab.add S2 108 (lift (A21 B92 C3e C7Q))
noncomputable def QF3:FuncId→Bool:=qadd QF2 108
theorem G3:aPG S3 QF3:=G2.addQ D5b (cbl Try.f108) (fun _=>rfl)

abbrev tq3:Ty:=.sl (.pair (.int .i64) (.pair (.int .i64) (.sl (.pair (.int .i64) (.pair .str .str)))))
abbrev Lq1:=List (Int×Int×List (Int×ByteArray×ByteArray))
abbrev B7k:List PSh:=[.t tq3,.t (.int .i64)]
abbrev A9J:SS:=⟨(.t false tq3::tI::.junk::.junk::.junk::tI::C6N),[]⟩
abbrev C14:SS:=⟨(.junk::.junk::.junk::.junk::tI::D0o),[]⟩
abbrev C15:SS:=⟨(.junk::tI::C72),[]⟩
noncomputable def C41 (x0:Lq1) (x1 x5:Int):RT A9J.den:=let z1:=x0.getD x5.toNat ((0:Int),((0:Int),[]));let z2:=B6R (z1.1) ((z1.2).1) ((z1.2).2) x1;(.br (decide (x5<(x0.length:Int))) (.br (decide (0≤x5∧x5<(x0.length:Int))) (.br (B7R (z1.1) ((z1.2).1) ((z1.2).2) x1) (.br (decide (z2<(0:Int))) (.done .ret C14 (((),(),(),(),(-1:Int),u23),())) (.next ((x0,z2,(),(),(),wI (x5+(1:Int)),u22),()))) .fail) .fail) (.done (.exit 0) C15 (((),x1,u26),())))
abbrev B3N:=(Lq1)×(Int)×(Int)
abbrev B1u:=Nat×(Int)×(Int)
def B8q:B1u:=(99,((0:Int):Int),((0:Int):Int))
noncomputable def B0D (x0:Lq1) (x1 x5:Int):B3N ⊕ B1u:=let z1:=x0.getD x5.toNat ((0:Int),((0:Int),[]));let z2:=B6R (z1.1) ((z1.2).1) ((z1.2).2) x1;(cond (decide (x5<(x0.length:Int))) (cond (decide (0≤x5∧x5<(x0.length:Int))) (cond (B7R (z1.1) ((z1.2).1) ((z1.2).2) x1) (cond (decide (z2<(0:Int))) (.inr (0,(-1:Int),((0:Int):Int))) (.inl (x0,z2,wI (x5+(1:Int))))) (.inr B8q)) (.inr B8q)) (.inr (1,((0:Int):Int),x1)))
noncomputable def A72 (x0:Lq1) (x1 x5:Int):B1u:=itX (fun v:B3N=>B0D v.1 v.2.1 v.2.2) B8q (x0,x1,x5)
noncomputable def B8f (a:B1u):CT:=(.br (a.1==0) (.done .ret C14 (((),(),(),(),a.2.1,u23),())) (.br (a.1==1) (.done (.exit 0) C15 (((),a.2.2,u26),())) .fail))
noncomputable def D1r (x0:Lq1) (x1 x5:Int):CT:=B8f (A72 x0 x1 x5)
noncomputable abbrev B84:A9J.den→RT A9J.den:=(fun d=>C41 d.1.1 d.1.2.1 d.1.2.2.2.2.2.1)
noncomputable def C0g:Code:=((D4 0 (A1l Try.f67)).getD 0 (0,.skip)).2
noncomputable abbrev C4t (v:B3N):A9J.den:=((v.1,v.2.1,(),(),(),v.2.2,u22),())
theorem D0U:(∀ v:B3N,(C41 v.1 v.2.1 v.2.2).val=A6D C4t B8f (B0D v.1 v.2.1 v.2.2))∧∀ a:B1u,CEnd A9J.den (B8f a):=⟨fun v=>(A7G (A7G (A7G (A7G rfl rfl) rfl) rfl) rfl),fun a=>(A7t aCD (A7t aCD A7v))⟩
theorem C9c:RdA G3 aLn 0 C0g A9J 0 [] (kepts [4] [(0,[1])]) (fun d=>(B84 d).opt 0 []):=by
 intro d
 kernel_rfl
noncomputable abbrev C2E:St→Option Tree:=A9J.say 0 [] [] (fun d=>D1r d.1.1 d.1.2.1 d.1.2.2.2.2.2.1)
theorem D0t:aPL C2E C0g:=SS.wp2 hlz [] B84 C9c (fun d=>rfl) _ (fun d=>Runs.ofI2 (step:=B84) C4t D0U rfl (d.1.1,d.1.2.1,d.1.2.2.2.2.2.1))
noncomputable def Y3 (a0:Lq1) (a1:Int):Int:=let z2:=wI (a1 - (a0.length:Int));let z1:=A72 a0 z2 (0:Int);(cond (decide (z2<(0:Int))) (-1:Int) (cond (z1.1==0) (z1.2.1) (z1.2.2)))
noncomputable abbrev B42 (r:Int):AV×List AObj:=((ti r),[])
noncomputable abbrev C5k:H7 B7k→AV×List AObj:=fun d=>B42 (Y3 d.1 d.2.1)
noncomputable def B0x (a0:Lq1) (a1:Int):Bool:=let z1:=wI (a1 - (a0.length:Int));let z2:=A72 a0 z1 (0:Int);cond (decide (z1<(0:Int))) true (cond (z2.1==0) true (z2.1==1))
noncomputable abbrev C0S:H7 B7k→Bool:=fun d=>B0x d.1 d.2.1
noncomputable abbrev D32:Nat→St→Option Tree:=fun b=>match b with | 0=>C2E | _=>fun _=>none
theorem D2y:A7B true G3 (D32) Try.f67 B7k C0S C5k:=by
 rintro ⟨a0,⟨a1,_⟩⟩ hp
 change B0x a0 a1=true at hp
 unfold B0x at hp
 refine Eq.trans (b:=(let z2:=wI (a1 - (a0.length:Int));let z1:=A72 a0 z2 (0:Int);cond (decide (z2<(0:Int))) (some (B42 (-1:Int))) (cond (z1.1==0) (some (B42 (z1.2.1))) (cond (z1.1==1) (some (B42 (z1.2.2))) none)))) (by kernel_rfl) ?_
 exact (M2 B42 hp (fun hp=>rfl) (fun hp=>(M2 B42 hp (fun hp=>rfl) (fun hp=>(A7E hp fun _h=>rfl)))))
theorem D4i:aPP 67 (A21 B7k C0S C5k):=pcD true G3 (hl1 (i:=0) (by kernel_rfl) D0t) D2y
noncomputable def S4:Tab:=Tab.add S3 67 (lift (A21 B7k C0S C5k))
noncomputable def QF4:FuncId→Bool:=qadd QF3 67
theorem G4:aPG S4 QF4:=G3.addQ D4i (cbl Try.f67) (fun _=>rfl)

abbrev B7j:List PSh:=[.agg [.str,.str],.t (.int .i64)]
noncomputable def C1T (a0 a1:ByteArray) (a2:Int):Int:=let z2:=wI (a2 - (a0.size:Int));let z1:=wI (z2 - (a1.size:Int));(cond (decide (z2<(0:Int))) (-1:Int) (cond (decide (z1<(0:Int))) (-1:Int) z1))
noncomputable abbrev B7z (r:Int):AV×List AObj:=((ti r),[])
noncomputable abbrev C5j:H7 B7j→AV×List AObj:=fun d=>B7z (C1T d.1.1 d.1.2.1 d.2.1)
noncomputable abbrev C0R:H7 B7j→Bool:=fun d=>true
theorem D2x:A7B true G4 aLn Try.f109 B7j C0R C5j:=by
 rintro ⟨⟨a0,⟨a1,_⟩⟩,⟨a2,_⟩⟩ hp
 refine Eq.trans (b:=(let z2:=wI (a2 - (a0.size:Int));let z1:=wI (z2 - (a1.size:Int));let z3:=B7z (-1:Int);cond (decide (z2<(0:Int))) (some z3) (cond (decide (z1<(0:Int))) (some z3) (some (B7z z1))))) (by kernel_rfl) ?_
 exact (P9 B7z (fun _h=>rfl) (fun _h=>(P9 B7z (fun _h=>rfl) (fun _h=>rfl))))
theorem D4h:aPP 109 (A21 B7j C0R C5j):=pcD true G4 hlz D2x
noncomputable def S5:Tab:=Tab.add S4 109 (lift (A21 B7j C0R C5j))
noncomputable def QF5:FuncId→Bool:=qadd QF4 109
theorem G5:aPG S5 QF5:=G4.addQ D4h (cbl Try.f109) (fun _=>rfl)

abbrev LBBe:=List (ByteArray×ByteArray)
abbrev tq6:Ty:=.sl (.pair .str .str)
noncomputable def Q7 (x0:LBBe) (i:Nat) (b:Int):Int:=(C1T ((x0.getD i (bE,bE)).1) ((x0.getD i (bE,bE)).2) b)
abbrev B5i:List PSh:=[.t tq6,.t (.int .i64)]
abbrev A8S:SS:=⟨(.t false tq6::tI::.junk::.junk::.junk::tI::C6N),[]⟩
abbrev B1U:SS:=⟨(.junk::.junk::.junk::.junk::tI::D0o),[]⟩
abbrev B48:SS:=⟨(.junk::tI::C72),[]⟩
noncomputable def B63 (x0:LBBe) (x1 x5:Int):RT A8S.den:=let z2:=x0.getD x5.toNat (bE,bE);let z1:=C1T (z2.1) (z2.2) x1;(.br (decide (x5<(x0.length:Int))) (.br (decide (0≤x5∧x5<(x0.length:Int))) (.br (decide (z1<(0:Int))) (.done .ret B1U (((),(),(),(),(-1:Int),u23),())) (.next ((x0,z1,(),(),(),wI (x5+(1:Int)),u22),()))) .fail) (.done (.exit 0) B48 (((),x1,u26),())))
noncomputable def B19 (x0:LBBe) (x1 x5:Int):CT:=(.br (decide (0≤x5)&&okL x0) (.br (A7w (szN (Q7 x0) (x0.length - x5.toNat) x5.toNat x1)) (.done (.exit 0) B48 (((),(A7n (-1) (szN (Q7 x0) (x0.length - x5.toNat) x5.toNat x1)),u26),())) (.done .ret B1U (((),(),(),(),(-1:Int),u23),()))) .fail)
noncomputable abbrev A8g:A8S.den→RT A8S.den:=(fun d=>B63 d.1.1 d.1.2.1 d.1.2.2.2.2.2.1)
noncomputable abbrev B3C (x0:LBBe) (x1 x5:Int):A8S.den:=((x0,x1,(),(),(),x5,u22),())
noncomputable def B9o:Code:=((D4 0 (A1l Try.f68)).getD 0 (0,.skip)).2
theorem C9T (x0:LBBe) (x1 x5:Int):(B19 x0 x1 x5).val (D:=A8S.den)=.fail∨Runs A8g (B3C x0 x1 x5) (B19 x0 x1 x5).val:=by
 cases hc:(decide (0≤x5)&&okL x0) with
 | false=>left;simp only [B19,CT.val,hc,cond_false]
 | true =>
  right
  simp only [B19,CT.val,hc,cond_true]
  simp only [Bool.and_eq_true,decide_eq_true_eq] at hc
  obtain ⟨i,rfl⟩:=Int.eq_ofNat_of_zero_le hc.1
  have hs:=A7p hc.2
  simp only [Int.toNat_natCast]
  have h:=Runs.loopN (step:=A8g) (fun j b=>B3C x0 b (j:Int)) (fun _ _=>True) (x0.length) (fun i b=>cond (decide (Q7 x0 i b<0)) (.inr ()) (.inl (Q7 x0 i b)))
   (fin:=fun b=>((.done (.exit 0) B48 (((),b,u26),())):CT).val) (bad:=fun _=>((.done .ret B1U (((),(),(),(),(-1:Int),u23),())):CT).val)
   (fun i b hi _=>?_) (fun i b hi _=>?_) (x0.length - i) i x1 rfl trivial
  ·simp only [szN]
   revert h
   cases loopN (fun i b=>cond (decide (Q7 x0 i b<0)) (.inr ()) (.inl (Q7 x0 i b))) (x0.length - i) i x1 with
   | inl b=>exact id
   | inr c=>exact id
  ·
   have h0a:decide ((i:Int)<(x0.length:Int))=true:=decide_eq_true (by omega)
   have h0b:decide (0≤(i:Int)∧(i:Int)<(x0.length:Int))=true:=decide_eq_true (by omega)
   have e:(A8g (B3C x0 b (i:Int))).val=cond (decide (Q7 x0 i b<0)) ((.done .ret B1U (((),(),(),(),(-1:Int),u23),())):CT).val (.next (B3C x0 (Q7 x0 i b) ((i+1:Nat):Int))):=by
    simp only [A8g,B63,RT.val,h0a,h0b,cond_true,A7x i (by omega),Int.toNat_natCast]
    rfl
   cases hr:decide (Q7 x0 i b<0) with
   | true=>exact .inr ⟨(),_,_,_,rfl,by rw [e,hr];rfl,rfl,by simp⟩
   | false=>exact .inl ⟨_,rfl,trivial,by rw [e,hr];rfl⟩
  ·have h1:decide ((i:Int)<(x0.length:Int))=false:=decide_eq_false (by omega)
   exact ⟨by simp only [A8g,B63,RT.val,h1,cond_false];rfl,_,_,_,rfl,by simp⟩
theorem C8m:RdA G5 aLn 0 B9o A8S 0 [] (kepts [4] [(0,[1])]) (fun d=>(A8g d).opt 0 []):=by
 intro d
 kernel_rfl
noncomputable abbrev C1h:St→Option Tree:=A8S.say 0 [] [] (fun d=>B19 d.1.1 d.1.2.1 d.1.2.2.2.2.2.1)
theorem C87:aPL C1h B9o:=SS.wp2 hlz [] A8g C8m (fun d=>rfl) _ (fun d=>C9T d.1.1 d.1.2.1 d.1.2.2.2.2.2.1)
noncomputable def A96 (a0:LBBe) (a1:Int):Int:=let z2:=wI (a1 - (a0.length:Int));let z1:=szN (Q7 a0) (a0.length - (0:Int).toNat) (0:Int).toNat z2;(cond (decide (z2<(0:Int))) (-1:Int) (cond (A7w z1) (A7n (-1) z1) (-1:Int)))
noncomputable abbrev B5H (r:Int):AV×List AObj:=((ti r),[])
noncomputable abbrev C2X:H7 B5i→AV×List AObj:=fun d=>B5H (A96 d.1 d.2.1)
noncomputable def B3i (a0:LBBe) (a1:Int):Bool:=decide (0≤a1∧a1≤1048576∧a0.length≤9223372036854775807)
noncomputable abbrev B8Q:H7 B5i→Bool:=fun d=>B3i d.1 d.2.1
noncomputable abbrev D2P:Nat→St→Option Tree:=fun b=>match b with | 0=>C1h | _=>fun _=>none
theorem D07:A7B true G5 (D2P) Try.f68 B5i B8Q C2X:=by
 rintro ⟨a0,⟨a1,_⟩⟩ hp
 change B3i a0 a1=true at hp
 unfold B3i at hp
 refine Eq.trans (b:=(let z2:=wI (a1 - (a0.length:Int));let z1:=szN (Q7 a0) (a0.length - (0:Int).toNat) (0:Int).toNat z2;let z3:=B5H (-1:Int);cond (decide (z2<(0:Int))) (some z3) (cond (decide (0≤(0:Int))&&okL a0) (cond (A7w z1) (some (B5H (A7n (-1) z1))) (some z3)) none))) (by kernel_rfl) ?_
 exact (P9 B5H (fun _h=>rfl) (fun _h=>(A7E (by simp only [decide_eq_true_eq,decide_eq_false_iff_not] at hp _h;have hw:=A6J (n:=a1 - (a0.length:Int)) (by omega) (by omega);rw [hw] at _h;simp [okL];omega) (fun _h=>(P9 B5H (fun _h=>rfl) (fun _h=>rfl))))))
theorem D3d:aPP 68 (A21 B5i B8Q C2X):=pcD true G5 (hl1 (i:=0) (by kernel_rfl) C87) D07
noncomputable def S6:Tab:=Tab.add S5 68 (lift (A21 B5i B8Q C2X))
noncomputable def QF6:FuncId→Bool:=qadd QF5 68
theorem G6:aPG S6 QF6:=G5.addQ D3d (cbl Try.f68) (fun _=>rfl)

abbrev B5j:List PSh:=[.agg [(.int .i64),tq3,(.int .i64),tq6,tq3],.t (.int .i64)]
noncomputable def B0Z (a0:Int) (a1:Lq1) (a2:Int) (a3:LBBe) (a4:Lq1) (a5:Int):Int:=let z1:=A96 a3 (Y3 a1 a5);(cond (decide ((Y3 a1 a5)<(0:Int))) (-1:Int) (cond (decide (z1<(0:Int))) (-1:Int) (cond (decide ((Y3 a4 z1)<(0:Int))) (-1:Int) (Y3 a4 z1))))
noncomputable abbrev B3c (r:Int):AV×List AObj:=((ti r),[])
noncomputable abbrev C2Y:H7 B5j→AV×List AObj:=fun d=>B3c (B0Z d.1.1 d.1.2.1 d.1.2.2.1 d.1.2.2.2.1 d.1.2.2.2.2.1 d.2.1)
noncomputable def B1q (a0:Int) (a1:Lq1) (a2:Int) (a3:LBBe) (a4:Lq1) (a5:Int):Bool:=let z1:=Y3 a1 a5;(B0x a1 a5)&&(cond (decide (z1<(0:Int))) true ((B3i a3 z1)&&(cond (decide ((A96 a3 z1)<(0:Int))) true (B0x a4 (A96 a3 z1)))))
noncomputable abbrev B8R:H7 B5j→Bool:=fun d=>B1q d.1.1 d.1.2.1 d.1.2.2.1 d.1.2.2.2.1 d.1.2.2.2.2.1 d.2.1
theorem D08:A7B true G6 aLn Try.f30 B5j B8R C2Y:=by
 rintro ⟨⟨a0,⟨a1,⟨a2,⟨a3,⟨a4,_⟩⟩⟩⟩⟩,⟨a5,_⟩⟩ hp
 change B1q a0 a1 a2 a3 a4 a5=true at hp
 unfold B1q at hp
 refine Eq.trans (b:=(let z2:=B3c (-1:Int);let z3:=Y3 a1 a5;let z1:=A96 a3 z3;cond (B0x a1 a5) (cond (decide (z3<(0:Int))) (some z2) (cond (B3i a3 z3) (cond (decide (z1<(0:Int))) (some z2) (cond (B0x a4 z1) (cond (decide ((Y3 a4 z1)<(0:Int))) (some z2) (some (B3c (Y3 a4 z1)))) none)) none)) none)) (by kernel_rfl) ?_
 exact (A7C hp fun hp=>(M2 B3c hp (fun hp=>rfl) (fun hp=>(A7C hp fun hp=>(M2 B3c hp (fun hp=>rfl) (fun hp=>(A7E hp fun _h=>(P9 B3c (fun _h=>rfl) (fun _h=>rfl)))))))))
theorem D3e:aPP 30 (A21 B5j B8R C2Y):=pcD true G6 hlz D08
noncomputable def S7:Tab:=Tab.add S6 30 (lift (A21 B5j B8R C2Y))
noncomputable def QF7:FuncId→Bool:=qadd QF6 30
theorem G7:aPG S7 QF7:=G6.addQ D3e (cbl Try.f30) (fun _=>rfl)

abbrev C3M:List PSh:=[.agg [(.int .i64),.str,.str]]
noncomputable def C6a (a0:Int) (a1 a2:ByteArray):Int×ByteArray×ByteArray:=(a0,a1,a2)
noncomputable abbrev D5Y (r:Int×ByteArray×ByteArray):AV×List AObj:=((.agg [(ti r.1),(.t true .str r.2.1),(.t true .str r.2.2)]),[])
noncomputable abbrev D0d:H7 C3M→AV×List AObj:=fun d=>D5Y (C6a d.1.1 d.1.2.1 d.1.2.2.1)
noncomputable abbrev C5F:H7 C3M→Bool:=fun d=>true
theorem D4I:A7B true G7 aLn Try.f145 C3M C5F D0d:=by
 rintro ⟨⟨a0,⟨a1,⟨a2,_⟩⟩⟩,_⟩ hp
 kernel_rfl
theorem D5S:aPP 145 (A21 C3M C5F D0d):=pcD true G7 hlz D4I
noncomputable def S8:Tab:=Tab.add S7 145 (lift (A21 C3M C5F D0d))
noncomputable def QF8:FuncId→Bool:=qadd QF7 145
theorem G8:aPG S8 QF8:=G7.addQ D5S (cbl Try.f145) (fun _=>rfl)

abbrev D10:List Sh:=.junk::.junk::.junk::.junk::.junk::.junk::.junk::.junk::.junk::.junk::.junk::.junk::.junk::.junk::.junk::.junk::.junk::.junk::[]
abbrev tq8:Ty:=.pair (.int .i64) (.pair .str .str)
abbrev D4w:List Sh:=.junk::D10
abbrev u19:=((),(),(),(),(),(),(),(),(),(),(),(),(),(),(),(),(),(),())
abbrev u24:=((),u23)
noncomputable def B8o (x0:Lq2) (i:Nat):Int×ByteArray×ByteArray:=(((C6a ((x0.getD i ((0:Int),(bE,bE))).1) (((x0.getD i ((0:Int),(bE,bE))).2).1) (((x0.getD i ((0:Int),(bE,bE))).2).2)).1),(((C6a ((x0.getD i ((0:Int),(bE,bE))).1) (((x0.getD i ((0:Int),(bE,bE))).2).1) (((x0.getD i ((0:Int),(bE,bE))).2).2)).2.1),((C6a ((x0.getD i ((0:Int),(bE,bE))).1) (((x0.getD i ((0:Int),(bE,bE))).2).1) (((x0.getD i ((0:Int),(bE,bE))).2).2)).2.2)))
abbrev B93:List PSh:=[.t tq4]
abbrev B1h:SS:=⟨(.t false tq4::.junk::.junk::.all 0 3::tI::D10),[.rows 85 true tq8]⟩
abbrev B78:SS:=⟨(.junk::.junk::.junk::.all 0 3::D4w),[.rows 85 true tq8]⟩
noncomputable def C1v (x0:Lq2) (x4:Int) (h0:Lq2):RT B1h.den:=let z2:=x0.getD x4.toNat ((0:Int),(bE,bE));let z1:=C6a (z2.1) ((z2.2).1) ((z2.2).2);(.br (decide (x4<(x0.length:Int))) (.br (decide (0≤x4∧x4<(x0.length:Int))) (.br (decide (0≤x4∧x4<(h0.length:Int))) (.next ((x0,(),(),(),wI (x4+(1:Int)),u19),(h0.set x4.toNat ((z1.1),((z1.2.1),(z1.2.2))),()))) .fail) .fail) (.done (.exit 0) B78 ((u24),(h0,()))))
noncomputable def B5q (x0:Lq2) (x4:Int) (h0:Lq2):CT:=(.br (decide (0≤x4)&&(decide (h0.length=x0.length)&&okL x0)) (.done (.exit 0) B78 ((u24),((foldN (fun i h=>h.set i (B8o x0 i)) (x0.length - x4.toNat) x4.toNat h0),()))) .fail)
noncomputable abbrev B1Q:B1h.den→RT B1h.den:=(fun d=>C1v d.1.1 d.1.2.2.2.2.1 d.2.1)
noncomputable abbrev C6o (x0:Lq2) (x4:Int) (h0:Lq2):B1h.den:=((x0,(),(),(),x4,u19),(h0,()))
noncomputable def C2i:Code:=((D4 0 (A1l Try.f136)).getD 0 (0,.skip)).2
theorem D2U (x0:Lq2) (x4:Int) (h0:Lq2):(B5q x0 x4 h0).val (D:=B1h.den)=.fail∨Runs B1Q (C6o x0 x4 h0) (B5q x0 x4 h0).val:=by
 cases hc:(decide (0≤x4)&&(decide (h0.length=x0.length)&&okL x0)) with
 | false=>left;simp only [B5q,CT.val,hc,cond_false]
 | true =>
  right
  simp only [B5q,CT.val,hc,cond_true]
  simp only [Bool.and_eq_true,decide_eq_true_eq] at hc
  obtain ⟨i,rfl⟩:=Int.eq_ofNat_of_zero_le hc.1
  have hs:=A7p hc.2.2
  simp only [Int.toNat_natCast]
  refine Runs.foldN (step:=B1Q) (fun j b=>C6o x0 (j:Int) b) (fun _ b=>b.length=x0.length) (x0.length) (fun i h=>h.set i (B8o x0 i))
   (fin:=fun b=>((.done (.exit 0) B78 ((u24),(b,()))):CT).val) (fun i b hi hb=>⟨by simpa using hb,?_⟩) (fun i b hi hb=>?_) (x0.length - i) i h0 rfl hc.2.1
  ·
   have h0a:decide ((i:Int)<(x0.length:Int))=true:=decide_eq_true (by omega)
   have h0b:decide (0≤(i:Int)∧(i:Int)<(x0.length:Int))=true:=decide_eq_true (by omega)
   have h9:decide (0≤(i:Int)∧(i:Int)<(b.length:Int))=true:=decide_eq_true (by omega)
   simp only [B1Q,C1v,RT.val,h0a,h0b,h9,cond_true,A7x i (by omega),Int.toNat_natCast]
   rfl
  ·have h1:decide ((i:Int)<(x0.length:Int))=false:=decide_eq_false (by omega)
   exact ⟨by simp only [B1Q,C1v,RT.val,h1,cond_false];rfl,_,_,_,rfl,by simp⟩
theorem D0G:RdA G8 aLn 0 C2i B1h 0 [] (kepts [] [(0,[3])]) (fun d=>(B1Q d).opt 0 []):=by
 intro d
 kernel_rfl
noncomputable abbrev C4R:St→Option Tree:=B1h.say 0 [] [] (fun d=>B5q d.1.1 d.1.2.2.2.2.1 d.2.1)
theorem D2a:aPL C4R C2i:=SS.wp2 hlz [] B1Q D0G (fun d=>rfl) _ (fun d=>D2U d.1.1 d.1.2.2.2.2.1 d.2.1)
noncomputable def C74 (a0:Lq2):Lq2:=(foldN (fun i h=>h.set i (B8o a0 i)) (a0.length - (0:Int).toNat) (0:Int).toNat (List.replicate (a0.length:Int).toNat ((0:Int),(bE,bE))))
noncomputable abbrev D1P (r:Lq2):AV×List AObj:=((.all 0 3),[(.rows 85 true tq8 r)])
noncomputable abbrev C7R:H7 B93→AV×List AObj:=fun d=>D1P (C74 d.1)
noncomputable def C07 (a0:Lq2):Bool:=okL a0
noncomputable abbrev C3f:H7 B93→Bool:=fun d=>C07 d.1
noncomputable abbrev D4U:Nat→St→Option Tree:=fun b=>match b with | 0=>C4R | _=>fun _=>none
theorem D3H:A7B false G8 (D4U) Try.f136 B93 C3f C7R:=by
 rintro ⟨a0,_⟩ hp
 change C07 a0=true at hp
 unfold C07 at hp
 refine Eq.trans (b:=(cond (decide (0≤(a0.length:Int)∧(a0.length:Int)=(a0.length:Int)∧(a0.length:Int).toNat*40≤MAXB∧(a0.length:Int)≤9223372036854775807)) (cond (decide (0≤(0:Int))&&(decide ((List.replicate (a0.length:Int).toNat ((0:Int),((⟨#[]⟩:ByteArray),(⟨#[]⟩:ByteArray)))).length=a0.length)&&okL a0)) (some (D1P (foldN (fun i h=>h.set i (B8o a0 i)) (a0.length - (0:Int).toNat) (0:Int).toNat (List.replicate (a0.length:Int).toNat ((0:Int),((⟨#[]⟩:ByteArray),(⟨#[]⟩:ByteArray))))))) none) none)) (by kernel_rfl) ?_
 exact (A7E (by first | rfl | decide | exact hp | (simp only [Bool.and_eq_true] at hp;simp only [hp];done) | (simp [*];done) | (simp [okL] at hp;simp [okL,MAXB];omega) | (simp_all;done) | (simp at *;omega)) (fun _h=>(A7E (by first | rfl | decide | exact hp | (simp only [Bool.and_eq_true] at hp;simp only [hp];done) | (simp [*];done) | (simp [okL] at hp;simp [okL,MAXB];omega) | (simp_all;done) | (simp at *;omega)) (fun _h=>rfl))))
theorem D5c:aPP 136 (A21 B93 C3f C7R):=pcD false G8 (hl1 (i:=0) (by kernel_rfl) D2a) D3H
noncomputable def S9:Tab:=Tab.add S8 136 (lift (A21 B93 C3f C7R))
noncomputable def QF9:FuncId→Bool:=QF8
theorem G9:aPG S9 QF9:=G8.add D5c (cbl Try.f136) (by kernel_rfl)

abbrev B94:List PSh:=[.agg [(.int .i64),(.int .i64),tq4]]
noncomputable def D0p (a0 a1:Int) (a2:Lq2):Int×Int×Lq2:=(a0,a1,(C74 a2))
noncomputable abbrev D1Q (r:Int×Int×Lq2):AV×List AObj:=((.agg [(ti r.1),(ti r.2.1),(.all 0 3)]),[(.rows 85 true tq8 r.2.2)])
noncomputable abbrev C7S:H7 B94→AV×List AObj:=fun d=>D1Q (D0p d.1.1 d.1.2.1 d.1.2.2.1)
noncomputable def B7S (a0 a1:Int) (a2:Lq2):Bool:=okL a2
noncomputable abbrev C3g:H7 B94→Bool:=fun d=>B7S d.1.1 d.1.2.1 d.1.2.2.1
theorem D3I:A7B false G9 aLn Try.f110 B94 C3g C7S:=by
 rintro ⟨⟨a0,⟨a1,⟨a2,_⟩⟩⟩,_⟩ hp
 change B7S a0 a1 a2=true at hp
 unfold B7S at hp
 refine Eq.trans (b:=(cond (C07 a2) (some (D1Q (a0,a1,(C74 a2)))) none)) (by kernel_rfl) ?_
 exact (A7E (by first | rfl | decide | exact hp | (simp only [Bool.and_eq_true] at hp;simp only [hp];done) | (simp [*];done) | (simp [okL] at hp;simp [okL,MAXB];omega) | (simp_all;done) | (simp at *;omega)) (fun _h=>rfl))
theorem D5d:aPP 110 (A21 B94 C3g C7S):=pcD false G9 hlz D3I
noncomputable def S10:Tab:=Tab.add S9 110 (lift (A21 B94 C3g C7S))
noncomputable def D6F:FuncId→Bool:=QF9
theorem G10:aPG S10 D6F:=G9.add D5d (cbl Try.f110) (by kernel_rfl)

abbrev B7m:List PSh:=[.t tq3]
abbrev A9K:SS:=⟨(.t false tq3::.junk::.junk::.all 0 3::tI::D10),[.deep 32 [85] tq5]⟩
abbrev C16:SS:=⟨(.junk::.junk::.junk::.all 0 3::D4w),[.deep 32 [85] tq5]⟩
noncomputable def C42 (x0:Lq1) (x4:Int) (h0:Lq1):RT A9K.den:=let z1:=x0.getD x4.toNat ((0:Int),((0:Int),[]));let z2:=D0p (z1.1) ((z1.2).1) ((z1.2).2);(.br (decide (x4<(x0.length:Int))) (.br (decide (0≤x4∧x4<(x0.length:Int))) (.br (B7S (z1.1) ((z1.2).1) ((z1.2).2)) (.br (decide (0≤x4∧x4<(h0.length:Int))) (.next ((x0,(),(),(),wI (x4+(1:Int)),u19),(h0.set x4.toNat ((z2.1),((z2.2.1),(z2.2.2))),()))) .fail) .fail) .fail) (.done (.exit 0) C16 ((u24),(h0,()))))
abbrev B6k:=(Lq1)×(Int)×(Lq1)
abbrev B3D:=Nat×(Lq1)
def B4O:B3D:=(99,([]:Lq1))
noncomputable def B4W (x0:Lq1) (x4:Int) (h0:Lq1):B6k ⊕ B3D:=let z1:=x0.getD x4.toNat ((0:Int),((0:Int),[]));let z2:=D0p (z1.1) ((z1.2).1) ((z1.2).2);(cond (decide (x4<(x0.length:Int))) (cond (decide (0≤x4∧x4<(x0.length:Int))) (cond (B7S (z1.1) ((z1.2).1) ((z1.2).2)) (cond (decide (0≤x4∧x4<(h0.length:Int))) (.inl (x0,wI (x4+(1:Int)),h0.set x4.toNat ((z2.1),((z2.2.1),(z2.2.2))))) (.inr B4O)) (.inr B4O)) (.inr B4O)) (.inr (0,h0)))
noncomputable def B2n (x0:Lq1) (x4:Int) (h0:Lq1):B3D:=itX (fun v:B6k=>B4W v.1 v.2.1 v.2.2) B4O (x0,x4,h0)
noncomputable def B8g (a:B3D):CT:=(.br (a.1==0) (.done (.exit 0) C16 ((u24),(a.2,()))) .fail)
noncomputable def D1s (x0:Lq1) (x4:Int) (h0:Lq1):CT:=B8g (B2n x0 x4 h0)
noncomputable abbrev B85:A9K.den→RT A9K.den:=(fun d=>C42 d.1.1 d.1.2.2.2.2.1 d.2.1)
noncomputable def C0h:Code:=((D4 0 (A1l Try.f69)).getD 0 (0,.skip)).2
noncomputable abbrev C4u (v:B6k):A9K.den:=((v.1,(),(),(),v.2.1,u19),(v.2.2,()))
theorem D0V:(∀ v:B6k,(C42 v.1 v.2.1 v.2.2).val=A6D C4u B8g (B4W v.1 v.2.1 v.2.2))∧∀ a:B3D,CEnd A9K.den (B8g a):=⟨fun v=>(A7G (A7G (A7G (A7G rfl rfl) rfl) rfl) rfl),fun a=>(A7t aCD A7v)⟩
theorem C9d:RdA (G10.deep ow) aLn 0 C0h A9K 0 [] (kepts [] [(0,[3])]) (fun d=>(B85 d).opt 0 []):=by
 intro d
 kernel_rfl
noncomputable abbrev C2F:St→Option Tree:=A9K.say 0 [] [] (fun d=>D1s d.1.1 d.1.2.2.2.2.1 d.2.1)
theorem D0u:aPL C2F C0h:=SS.wp2 hlz [] B85 C9d (fun d=>rfl) _ (fun d=>Runs.ofI2 (step:=B85) C4u D0V rfl (d.1.1,d.1.2.2.2.2.1,d.2.1))
noncomputable def B8I (a0:Lq1):Lq1:=((B2n a0 (0:Int) (List.replicate (a0.length:Int).toNat ((0:Int),((0:Int),[])))).2)
noncomputable abbrev C9A (r:Lq1):AV×List AObj:=((.all 0 3),[(.deep 32 [85] tq5 r)])
noncomputable abbrev C5m:H7 B7m→AV×List AObj:=fun d=>C9A (B8I d.1)
noncomputable def B0y (a0:Lq1):Bool:=(decide (0≤(a0.length:Int)∧(a0.length:Int)=(a0.length:Int)∧(a0.length:Int).toNat*40≤MAXB∧(a0.length:Int)≤9223372036854775807))&&((B2n a0 (0:Int) (List.replicate (a0.length:Int).toNat ((0:Int),((0:Int),[])))).1==0)
noncomputable abbrev C0U:H7 B7m→Bool:=fun d=>B0y d.1
noncomputable abbrev D33:Nat→St→Option Tree:=fun b=>match b with | 0=>C2F | _=>fun _=>none
theorem D2A:A7B false (G10.deep ow) (D33) Try.f69 B7m C0U C5m:=by
 rintro ⟨a0,_⟩ hp
 change B0y a0=true at hp
 unfold B0y at hp
 refine Eq.trans (b:=(let z1:=B2n a0 (0:Int) (List.replicate (a0.length:Int).toNat ((0:Int),((0:Int),[])));cond (decide (0≤(a0.length:Int)∧(a0.length:Int)=(a0.length:Int)∧(a0.length:Int).toNat*40≤MAXB∧(a0.length:Int)≤9223372036854775807)) (cond (z1.1==0) (some (C9A (z1.2))) none) none)) (by kernel_rfl) ?_
 exact (A7C hp fun hp=>(A7E hp fun _h=>rfl))
theorem D4k:aPP 69 (A21 B7m C0U C5m):=pcD false (G10.deep ow) (hl1 (i:=0) (by kernel_rfl) D0u) D2A
noncomputable def S11:Tab:=Tab.add S10 69 (lift (A21 B7m C0U C5m))
noncomputable def D6G:FuncId→Bool:=D6F
theorem G11:aPG S11 D6G:=G10.add D4k (cbl Try.f69) (by kernel_rfl)

abbrev B7l:List PSh:=[.agg [.str,.str]]
noncomputable def B8H (a0 a1:ByteArray):ByteArray×ByteArray:=(a0,a1)
noncomputable abbrev D4p (r:ByteArray×ByteArray):AV×List AObj:=((.agg [(.t true .str r.1),(.t true .str r.2)]),[])
noncomputable abbrev C5l:H7 B7l→AV×List AObj:=fun d=>D4p (B8H d.1.1 d.1.2.1)
noncomputable abbrev C0T:H7 B7l→Bool:=fun d=>true
theorem D2z:A7B true G11 aLn Try.f111 B7l C0T C5l:=by
 rintro ⟨⟨a0,⟨a1,_⟩⟩,_⟩ hp
 kernel_rfl
theorem D4j:aPP 111 (A21 B7l C0T C5l):=pcD true G11 hlz D2z
noncomputable def S12:Tab:=Tab.add S11 111 (lift (A21 B7l C0T C5l))
noncomputable def D6H:FuncId→Bool:=qadd D6G 111
theorem G12:aPG S12 D6H:=G11.addQ D4j (cbl Try.f111) (fun _=>rfl)

abbrev J8:Ty:=.pair .str .str
noncomputable def B4M (x0:LBBe) (i:Nat):ByteArray×ByteArray:=(((B8H ((x0.getD i (bE,bE)).1) ((x0.getD i (bE,bE)).2)).1),((B8H ((x0.getD i (bE,bE)).1) ((x0.getD i (bE,bE)).2)).2))
abbrev B5k:List PSh:=[.t tq6]
abbrev A8T:SS:=⟨(.t false tq6::.junk::.junk::.all 0 2::tI::D10),[.rows 70 true J8]⟩
abbrev B49:SS:=⟨(.junk::.junk::.junk::.all 0 2::D4w),[.rows 70 true J8]⟩
noncomputable def B64 (x0:LBBe) (x4:Int) (h0:LBBe):RT A8T.den:=let z1:=x0.getD x4.toNat (bE,bE);let z2:=B8H (z1.1) (z1.2);(.br (decide (x4<(x0.length:Int))) (.br (decide (0≤x4∧x4<(x0.length:Int))) (.br (decide (0≤x4∧x4<(h0.length:Int))) (.next ((x0,(),(),(),wI (x4+(1:Int)),u19),(h0.set x4.toNat ((z2.1),(z2.2)),()))) .fail) .fail) (.done (.exit 0) B49 ((u24),(h0,()))))
noncomputable def B2a (x0:LBBe) (x4:Int) (h0:LBBe):CT:=(.br (decide (0≤x4)&&(decide (h0.length=x0.length)&&okL x0)) (.done (.exit 0) B49 ((u24),((foldN (fun i h=>h.set i (B4M x0 i)) (x0.length - x4.toNat) x4.toNat h0),()))) .fail)
noncomputable abbrev A9o:A8T.den→RT A8T.den:=(fun d=>B64 d.1.1 d.1.2.2.2.2.1 d.2.1)
noncomputable abbrev C2w (x0:LBBe) (x4:Int) (h0:LBBe):A8T.den:=((x0,(),(),(),x4,u19),(h0,()))
noncomputable def B9p:Code:=((D4 0 (A1l Try.f70)).getD 0 (0,.skip)).2
theorem C9U (x0:LBBe) (x4:Int) (h0:LBBe):(B2a x0 x4 h0).val (D:=A8T.den)=.fail∨Runs A9o (C2w x0 x4 h0) (B2a x0 x4 h0).val:=by
 cases hc:(decide (0≤x4)&&(decide (h0.length=x0.length)&&okL x0)) with
 | false=>left;simp only [B2a,CT.val,hc,cond_false]
 | true =>
  right
  simp only [B2a,CT.val,hc,cond_true]
  simp only [Bool.and_eq_true,decide_eq_true_eq] at hc
  obtain ⟨i,rfl⟩:=Int.eq_ofNat_of_zero_le hc.1
  have hs:=A7p hc.2.2
  simp only [Int.toNat_natCast]
  refine Runs.foldN (step:=A9o) (fun j b=>C2w x0 (j:Int) b) (fun _ b=>b.length=x0.length) (x0.length) (fun i h=>h.set i (B4M x0 i))
   (fin:=fun b=>((.done (.exit 0) B49 ((u24),(b,()))):CT).val) (fun i b hi hb=>⟨by simpa using hb,?_⟩) (fun i b hi hb=>?_) (x0.length - i) i h0 rfl hc.2.1
  ·
   have h0a:decide ((i:Int)<(x0.length:Int))=true:=decide_eq_true (by omega)
   have h0b:decide (0≤(i:Int)∧(i:Int)<(x0.length:Int))=true:=decide_eq_true (by omega)
   have h9:decide (0≤(i:Int)∧(i:Int)<(b.length:Int))=true:=decide_eq_true (by omega)
   simp only [A9o,B64,RT.val,h0a,h0b,h9,cond_true,A7x i (by omega),Int.toNat_natCast]
   rfl
  ·have h1:decide ((i:Int)<(x0.length:Int))=false:=decide_eq_false (by omega)
   exact ⟨by simp only [A9o,B64,RT.val,h1,cond_false];rfl,_,_,_,rfl,by simp⟩
theorem C8n:RdA G12 aLn 0 B9p A8T 0 [] (kepts [] [(0,[3])]) (fun d=>(A9o d).opt 0 []):=by
 intro d
 kernel_rfl
noncomputable abbrev C1i:St→Option Tree:=A8T.say 0 [] [] (fun d=>B2a d.1.1 d.1.2.2.2.2.1 d.2.1)
theorem C88:aPL C1i B9p:=SS.wp2 hlz [] A9o C8n (fun d=>rfl) _ (fun d=>C9U d.1.1 d.1.2.2.2.2.1 d.2.1)
noncomputable def C4g (a0:LBBe):LBBe:=(foldN (fun i h=>h.set i (B4M a0 i)) (a0.length - (0:Int).toNat) (0:Int).toNat (List.replicate (a0.length:Int).toNat (bE,bE)))
noncomputable abbrev C7B (r:LBBe):AV×List AObj:=((.all 0 2),[(.rows 70 true J8 r)])
noncomputable abbrev C2Z:H7 B5k→AV×List AObj:=fun d=>C7B (C4g d.1)
noncomputable def B3j (a0:LBBe):Bool:=okL a0
noncomputable abbrev B8S:H7 B5k→Bool:=fun d=>B3j d.1
noncomputable abbrev D2Q:Nat→St→Option Tree:=fun b=>match b with | 0=>C1i | _=>fun _=>none
theorem D09:A7B false G12 (D2Q) Try.f70 B5k B8S C2Z:=by
 rintro ⟨a0,_⟩ hp
 change B3j a0=true at hp
 unfold B3j at hp
 refine Eq.trans (b:=(cond (decide (0≤(a0.length:Int)∧(a0.length:Int)=(a0.length:Int)∧(a0.length:Int).toNat*32≤MAXB∧(a0.length:Int)≤9223372036854775807)) (cond (decide (0≤(0:Int))&&(decide ((List.replicate (a0.length:Int).toNat ((⟨#[]⟩:ByteArray),(⟨#[]⟩:ByteArray))).length=a0.length)&&okL a0)) (some (C7B (foldN (fun i h=>h.set i (B4M a0 i)) (a0.length - (0:Int).toNat) (0:Int).toNat (List.replicate (a0.length:Int).toNat ((⟨#[]⟩:ByteArray),(⟨#[]⟩:ByteArray)))))) none) none)) (by kernel_rfl) ?_
 exact (A7E (by first | rfl | decide | exact hp | (simp only [Bool.and_eq_true] at hp;simp only [hp];done) | (simp [*];done) | (simp [okL] at hp;simp [okL,MAXB];omega) | (simp_all;done) | (simp at *;omega)) (fun _h=>(A7E (by first | rfl | decide | exact hp | (simp only [Bool.and_eq_true] at hp;simp only [hp];done) | (simp [*];done) | (simp [okL] at hp;simp [okL,MAXB];omega) | (simp_all;done) | (simp at *;omega)) (fun _h=>rfl))))
theorem D3f:aPP 70 (A21 B5k B8S C2Z):=pcD false G12 (hl1 (i:=0) (by kernel_rfl) C88) D09
noncomputable def S13:Tab:=Tab.add S12 70 (lift (A21 B5k B8S C2Z))
noncomputable def D6I:FuncId→Bool:=D6H
theorem G13:aPG S13 D6I:=G12.add D3f (cbl Try.f70) (by kernel_rfl)

abbrev B5l:List PSh:=[.agg [(.int .i64),tq3,(.int .i64),tq6,tq3]]
noncomputable def B2v (a0:Int) (a1:Lq1) (a2:Int) (a3:LBBe) (a4:Lq1):Int×Int×Lq1×LBBe×Lq1:=(a0,a2,(B8I a1),(C4g a3),(B8I a4))
noncomputable abbrev C7C (r:Int×Int×Lq1×LBBe×Lq1):AV×List AObj:=((.agg [(ti r.1),(.all 0 3),(ti r.2.1),(.all 1 2),(.all 2 3)]),[(.deep 32 [85] tq5 r.2.2.1),(.rows 70 true J8 r.2.2.2.1),(.deep 32 [85] tq5 r.2.2.2.2)])
noncomputable abbrev C20:H7 B5l→AV×List AObj:=fun d=>C7C (B2v d.1.1 d.1.2.1 d.1.2.2.1 d.1.2.2.2.1 d.1.2.2.2.2.1)
noncomputable def B1r (a0:Int) (a1:Lq1) (a2:Int) (a3:LBBe) (a4:Lq1):Bool:=(B0y a1)&&((B3j a3)&&(B0y a4))
noncomputable abbrev B8T:H7 B5l→Bool:=fun d=>B1r d.1.1 d.1.2.1 d.1.2.2.1 d.1.2.2.2.1 d.1.2.2.2.2.1
theorem D1a:A7B false G13 aLn Try.f32 B5l B8T C20:=by
 rintro ⟨⟨a0,⟨a1,⟨a2,⟨a3,⟨a4,_⟩⟩⟩⟩⟩,_⟩ hp
 change B1r a0 a1 a2 a3 a4=true at hp
 unfold B1r at hp
 refine Eq.trans (b:=(cond (B0y a1) (cond (B3j a3) (cond (B0y a4) (some (C7C (a0,a2,(B8I a1),(C4g a3),(B8I a4)))) none) none) none)) (by kernel_rfl) ?_
 exact (A7C hp fun hp=>(A7C hp fun hp=>(A7E hp fun _h=>rfl)))
theorem D3g:aPP 32 (A21 B5l B8T C20):=pcD false G13 hlz D1a
noncomputable def S14:Tab:=Tab.add S13 32 (lift (A21 B5l B8T C20))
noncomputable def D6J:FuncId→Bool:=D6I
theorem G14:aPG S14 D6J:=G13.add D3g (cbl Try.f32) (by kernel_rfl)

abbrev B12:List PSh:=[.t tq4]
noncomputable def C3r (a0:Lq2):Lq2:=(([]:Lq2)++a0)
noncomputable abbrev C36 (r:Lq2):AV×List AObj:=((.t true tq4 r),[])
noncomputable abbrev B8x:H7 B12→AV×List AObj:=fun d=>C36 (C3r d.1)
noncomputable def B2C (a0:Lq2):Bool:=decide ((([]:Lq2).length+a0.length)*40≤MAXB)
noncomputable abbrev B5Y:H7 B12→Bool:=fun d=>B2C d.1
theorem C8E:A7B true G14 aLn Try.f101 B12 B5Y B8x:=by
 rintro ⟨a0,_⟩ hp
 change B2C a0=true at hp
 unfold B2C at hp
 refine Eq.trans (b:=(cond (decide ((([]:Lq2).length+a0.length)*40≤MAXB)) (some (C36 (([]:Lq2)++a0))) none)) (by kernel_rfl) ?_
 exact (A7E hp fun _h=>rfl)
theorem C93:aPP 101 (A21 B12 B5Y B8x):=pcD true G14 hlz C8E
noncomputable def S15:Tab:=Tab.add S14 101 (lift (A21 B12 B5Y B8x))
noncomputable def D6K:FuncId→Bool:=qadd D6J 101
theorem G15:aPG S15 D6K:=G14.addQ C93 (cbl Try.f101) (fun _=>rfl)

abbrev B13:List PSh:=[.agg [(.int .i64),(.int .i64),tq4]]
noncomputable def A8e (a0 a1:Int) (a2:Lq2):Int×Int×Lq2:=(a0,a1,(C3r a2))
noncomputable abbrev C38 (r:Int×Int×Lq2):AV×List AObj:=((.agg [(ti r.1),(ti r.2.1),(.t true tq4 r.2.2)]),[])
noncomputable abbrev B8y:H7 B13→AV×List AObj:=fun d=>C38 (A8e d.1.1 d.1.2.1 d.1.2.2.1)
noncomputable def U1 (a0 a1:Int) (a2:Lq2):Bool:=B2C a2
noncomputable abbrev B5Z:H7 B13→Bool:=fun d=>U1 d.1.1 d.1.2.1 d.1.2.2.1
theorem C8F:A7B true G15 aLn Try.f124 B13 B5Z B8y:=by
 rintro ⟨⟨a0,⟨a1,⟨a2,_⟩⟩⟩,_⟩ hp
 change U1 a0 a1 a2=true at hp
 unfold U1 at hp
 refine Eq.trans (b:=(cond (B2C a2) (some (C38 (a0,a1,(C3r a2)))) none)) (by kernel_rfl) ?_
 exact (A7E hp fun _h=>rfl)
theorem C94:aPP 124 (A21 B13 B5Z B8y):=pcD true G15 hlz C8F
noncomputable def S16:Tab:=Tab.add S15 124 (lift (A21 B13 B5Z B8y))
noncomputable def D6L:FuncId→Bool:=qadd D6K 124
theorem G16:aPG S16 D6L:=G15.addQ C94 (cbl Try.f124) (fun _=>rfl)

abbrev D5t:List Sh:=.junk::.junk::.junk::.junk::.junk::.junk::.junk::.junk::.junk::.junk::.junk::.junk::.junk::.junk::.junk::.junk::[]
abbrev D58:List Sh:=.junk::D5t
abbrev u17:=((),(),(),(),(),(),(),(),(),(),(),(),(),(),(),(),())
abbrev B0V:List PSh:=[.t tq3]
abbrev Y8:SS:=⟨(.t false tq3::.junk::.junk::.all 0 3::tI::D5t),[.rows 32 true tq5]⟩
abbrev B6g:SS:=⟨(.junk::.junk::.junk::.all 0 3::D58),[.rows 32 true tq5]⟩
noncomputable def B5P (x0:Lq1) (x4:Int):=let z1:=x0.getD x4.toNat ((0:Int),((0:Int),[]));A8e (z1.1) ((z1.2).1) ((z1.2).2)
noncomputable def B73 (x0:Lq1) (x4:Int) (h0:Lq1):RT Y8.den:=let z1:=B5P x0 x4;let z2:=x0.getD x4.toNat ((0:Int),((0:Int),[]));(.br (decide (x4<(x0.length:Int))) (.br (decide (0≤x4∧x4<(x0.length:Int))) (.br (U1 (z2.1) ((z2.2).1) ((z2.2).2)) (.br (decide ((h0.length+[((z1.1),((z1.2.1),(z1.2.2)))].length)*40≤MAXB)) (.next ((x0,(),(),(),wI (x4+(1:Int)),u17),(h0++[((z1.1),((z1.2.1),(z1.2.2)))],()))) .fail) .fail) .fail) (.done (.exit 0) B6g ((u22),(h0,()))))
abbrev A87:=(Lq1)×(Int)×(Lq1)
abbrev A83:=Nat×(Lq1)
def A8v:A83:=(99,([]:Lq1))
noncomputable def A8F (x0:Lq1) (x4:Int) (h0:Lq1):A87 ⊕ A83:=let z1:=B5P x0 x4;let z2:=x0.getD x4.toNat ((0:Int),((0:Int),[]));(cond (decide (x4<(x0.length:Int))) (cond (decide (0≤x4∧x4<(x0.length:Int))) (cond (U1 (z2.1) ((z2.2).1) ((z2.2).2)) (cond (decide ((h0.length+[((z1.1),((z1.2.1),(z1.2.2)))].length)*40≤MAXB)) (.inl (x0,wI (x4+(1:Int)),h0++[((z1.1),((z1.2.1),(z1.2.2)))])) (.inr A8v)) (.inr A8v)) (.inr A8v)) (.inr (0,h0)))
noncomputable def A8x (x0:Lq1) (x4:Int) (h0:Lq1):A83:=itX (fun v:A87=>A8F v.1 v.2.1 v.2.2) A8v (x0,x4,h0)
noncomputable def B28 (a:A83):CT:=(.br (a.1==0) (.done (.exit 0) B6g ((u22),(a.2,()))) .fail)
noncomputable def C6K (x0:Lq1) (x4:Int) (h0:Lq1):CT:=B28 (A8x x0 x4 h0)
noncomputable abbrev B3o:Y8.den→RT Y8.den:=(fun d=>B73 d.1.1 d.1.2.2.2.2.1 d.2.1)
noncomputable def B5z:Code:=((D4 0 (A1l Try.f88)).getD 0 (0,.skip)).2
noncomputable abbrev B7P (v:A87):Y8.den:=((v.1,(),(),(),v.2.1,u17),(v.2.2,()))
theorem C5V:(∀ v:A87,(B73 v.1 v.2.1 v.2.2).val=A6D B7P B28 (A8F v.1 v.2.1 v.2.2))∧∀ a:A83,CEnd Y8.den (B28 a):=⟨fun v=>(A7G (A7G (A7G (A7G rfl rfl) rfl) rfl) rfl),fun a=>(A7t aCD A7v)⟩
theorem C4E:RdA G16 aLn 0 B5z Y8 0 [] (kepts [] [(0,[3])]) (fun d=>(B3o d).opt 0 []):=by
 intro d
 kernel_rfl
noncomputable abbrev B6F:St→Option Tree:=Y8.say 0 [] [] (fun d=>C6K d.1.1 d.1.2.2.2.2.1 d.2.1)
theorem C5v:aPL B6F B5z:=SS.wp2 hlz [] B3o C4E (fun d=>rfl) _ (fun d=>Runs.ofI2 (step:=B3o) B7P C5V rfl (d.1.1,d.1.2.2.2.2.1,d.2.1))
noncomputable def B0h (a0:Lq1):Lq1:=((A8x a0 (0:Int) ([]:Lq1)).2)
noncomputable abbrev C2p (r:Lq1):AV×List AObj:=((.t true tq3 r),[])
noncomputable abbrev B6O:H7 B0V→AV×List AObj:=fun d=>C2p (B0h d.1)
noncomputable def W3 (a0:Lq1):Bool:=((A8x a0 (0:Int) ([]:Lq1)).1==0)
noncomputable abbrev B4r:H7 B0V→Bool:=fun d=>W3 d.1
noncomputable abbrev C8O:Nat→St→Option Tree:=fun b=>match b with | 0=>B6F | _=>fun _=>none
theorem C7d:A7B true G16 (C8O) Try.f88 B0V B4r B6O:=by
 rintro ⟨a0,_⟩ hp
 change W3 a0=true at hp
 unfold W3 at hp
 refine Eq.trans (b:=(let z1:=A8x a0 (0:Int) ([]:Lq1);cond (z1.1==0) (some (C2p (z1.2))) none)) (by kernel_rfl) ?_
 exact (A7E hp fun _h=>rfl)
theorem C81:aPP 88 (A21 B0V B4r B6O):=pcD true G16 (hl1 (i:=0) (by kernel_rfl) C5v) C7d
noncomputable def S17:Tab:=Tab.add S16 88 (lift (A21 B0V B4r B6O))
noncomputable def D6M:FuncId→Bool:=qadd D6L 88
theorem G17:aPG S17 D6M:=G16.addQ C81 (cbl Try.f88) (fun _=>rfl)

abbrev B7q:List PSh:=[.agg [(.int .i64),tq3,(.int .i64),tq6,tq3]]
noncomputable def C4Y (a0:Int) (a1:Lq1) (a2:Int) (a3:LBBe) (a4:Lq1):Int×Lq1×Int×LBBe×Lq1:=(a0,(B0h a1),a2,([]:LBBe)++a3,(B0h a4))
noncomputable abbrev C9C (r:Int×Lq1×Int×LBBe×Lq1):AV×List AObj:=((.agg [(ti r.1),(.t true tq3 r.2.1),(ti r.2.2.1),(.t true tq6 r.2.2.2.1),(.t true tq3 r.2.2.2.2)]),[])
noncomputable abbrev C5q:H7 B7q→AV×List AObj:=fun d=>C9C (C4Y d.1.1 d.1.2.1 d.1.2.2.1 d.1.2.2.2.1 d.1.2.2.2.2.1)
noncomputable def B3k (a0:Int) (a1:Lq1) (a2:Int) (a3:LBBe) (a4:Lq1):Bool:=(W3 a1)&&((decide ((([]:LBBe).length+a3.length)*32≤MAXB))&&(W3 a4))
noncomputable abbrev C0Y:H7 B7q→Bool:=fun d=>B3k d.1.1 d.1.2.1 d.1.2.2.1 d.1.2.2.2.1 d.1.2.2.2.2.1
theorem D2E:A7B true G17 aLn Try.f55 B7q C0Y C5q:=by
 rintro ⟨⟨a0,⟨a1,⟨a2,⟨a3,⟨a4,_⟩⟩⟩⟩⟩,_⟩ hp
 change B3k a0 a1 a2 a3 a4=true at hp
 unfold B3k at hp
 refine Eq.trans (b:=(cond (W3 a1) (cond (decide ((([]:LBBe).length+a3.length)*32≤MAXB)) (cond (W3 a4) (some (C9C (a0,(B0h a1),a2,([]:LBBe)++a3,(B0h a4)))) none) none) none)) (by kernel_rfl) ?_
 exact (A7C hp fun hp=>(A7C hp fun hp=>(A7E hp fun _h=>rfl)))
theorem D4o:aPP 55 (A21 B7q C0Y C5q):=pcD true G17 hlz D2E
noncomputable def S18:Tab:=Tab.add S17 55 (lift (A21 B7q C0Y C5q))
noncomputable def D6N:FuncId→Bool:=qadd D6M 55
theorem G18:aPG S18 D6N:=G17.addQ D4o (cbl Try.f55) (fun _=>rfl)

abbrev C3N:List PSh:=[.t (.int .i64),.t (.int .i64),.t (.int .i64)]
noncomputable def A7P (a0 a1 a2:Int):Bool:=(cond (decide (a0 ≥ a1)) (decide (a0≤a2)) false)
noncomputable abbrev C7f (r:Bool):AV×List AObj:=((.t true .bool r),[])
noncomputable abbrev D0e:H7 C3N→AV×List AObj:=fun d=>C7f (A7P d.1 d.2.1 d.2.2.1)
noncomputable abbrev C5G:H7 C3N→Bool:=fun d=>true
theorem D4J:A7B true G18 aLn Try.f51 C3N C5G D0e:=by
 rintro ⟨a0,⟨a1,⟨a2,_⟩⟩⟩ hp
 refine Eq.trans (b:=(cond (decide (a0 ≥ a1)) (some (C7f (decide (a0≤a2)))) (some (C7f false)))) (by kernel_rfl) ?_
 exact (P9 C7f (fun _h=>rfl) (fun _h=>rfl))
theorem D5T:aPP 51 (A21 C3N C5G D0e):=pcD true G18 hlz D4J
noncomputable def S19:Tab:=Tab.add S18 51 (lift (A21 C3N C5G D0e))
noncomputable def D6O:FuncId→Bool:=qadd D6N 51
theorem G19:aPG S19 D6O:=G18.addQ D5T (cbl Try.f51) (fun _=>rfl)

abbrev D4v:List Sh:=.junk::.junk::.junk::.junk::.junk::.junk::.junk::.junk::.junk::.junk::.junk::.junk::.junk::.junk::[]
abbrev D8b:List Sh:=.junk::D4v
abbrev u16:=((),(),(),(),(),(),(),(),(),(),(),(),(),(),(),())
abbrev u15:=((),(),(),(),(),(),(),(),(),(),(),(),(),(),())
abbrev u21:=((),(),u19)
abbrev C3P:List PSh:=[.t tq3,.t (.int .i64)]
abbrev B2Z:SS:=⟨(.t false tq3::tI::.junk::.junk::.junk::tI::D4v),[]⟩
abbrev C5Y:SS:=⟨(.junk::.junk::.junk::.junk::tI::D8b),[]⟩
abbrev C5Z:SS:=⟨(.junk::D4w),[]⟩
noncomputable def C8K (x0:Lq1) (x1 x5:Int):RT B2Z.den:=(.br (decide (x5<(x0.length:Int))) (.br (decide (0≤x5∧x5<(x0.length:Int))) (.br ((((x0.getD x5.toNat ((0:Int),((0:Int),[]))).2).1)==x1) (.done .ret C5Y (((),(),(),(),x5,u16),())) (.next ((x0,x1,(),(),(),wI (x5+(1:Int)),u15),()))) .fail) (.done (.exit 0) C5Z ((u21),())))
abbrev B4Z:=(Lq1)×(Int)×(Int)
abbrev B4Y:=Nat×(Int)
def C2Q:B4Y:=(99,((0:Int):Int))
noncomputable def B6a (x0:Lq1) (x1 x5:Int):B4Z ⊕ B4Y:=(cond (decide (x5<(x0.length:Int))) (cond (decide (0≤x5∧x5<(x0.length:Int))) (cond ((((x0.getD x5.toNat ((0:Int),((0:Int),[]))).2).1)==x1) (.inr (0,x5)) (.inl (x0,x1,wI (x5+(1:Int))))) (.inr C2Q)) (.inr (1,((0:Int):Int))))
noncomputable def B5O (x0:Lq1) (x1 x5:Int):B4Y:=itX (fun v:B4Z=>B6a v.1 v.2.1 v.2.2) C2Q (x0,x1,x5)
noncomputable def C2P (a:B4Y):CT:=(.br (a.1==0) (.done .ret C5Y (((),(),(),(),a.2,u16),())) (.br (a.1==1) (.done (.exit 0) C5Z ((u21),())) .fail))
noncomputable def D37 (x0:Lq1) (x1 x5:Int):CT:=C2P (B5O x0 x1 x5)
noncomputable abbrev C3s:B2Z.den→RT B2Z.den:=(fun d=>C8K d.1.1 d.1.2.1 d.1.2.2.2.2.2.1)
noncomputable def C3U:Code:=((D4 0 (A1l Try.f121)).getD 0 (0,.skip)).2
noncomputable abbrev C8h (v:B4Z):B2Z.den:=((v.1,v.2.1,(),(),(),v.2.2,u15),())
theorem D3w:(∀ v:B4Z,(C8K v.1 v.2.1 v.2.2).val=A6D C8h C2P (B6a v.1 v.2.1 v.2.2))∧∀ a:B4Y,CEnd B2Z.den (C2P a):=⟨fun v=>(A7G (A7G (A7G rfl rfl) rfl) rfl),fun a=>(A7t aCD (A7t aCD A7v))⟩
theorem D2j:RdA G19 aLn 0 C3U B2Z 0 [] (kepts [4] [(0,[])]) (fun d=>(C3s d).opt 0 []):=by
 intro d
 kernel_rfl
noncomputable abbrev C6z:St→Option Tree:=B2Z.say 0 [] [] (fun d=>D37 d.1.1 d.1.2.1 d.1.2.2.2.2.2.1)
theorem D3p:aPL C6z C3U:=SS.wp2 hlz [] C3s D2j (fun d=>rfl) _ (fun d=>Runs.ofI2 (step:=C3s) C8h D3w rfl (d.1.1,d.1.2.1,d.1.2.2.2.2.2.1))
noncomputable def B9H (a0:Lq1) (a1:Int):Int:=let z1:=B5O a0 a1 (0:Int);(cond (z1.1==0) (z1.2) (-1:Int))
noncomputable abbrev C7g (r:Int):AV×List AObj:=((ti r),[])
noncomputable abbrev D0g:H7 C3P→AV×List AObj:=fun d=>C7g (B9H d.1 d.2.1)
noncomputable def B4T (a0:Lq1) (a1:Int):Bool:=let z1:=B5O a0 a1 (0:Int);cond (z1.1==0) true (z1.1==1)
noncomputable abbrev C5I:H7 C3P→Bool:=fun d=>B4T d.1 d.2.1
noncomputable abbrev D5J:Nat→St→Option Tree:=fun b=>match b with | 0=>C6z | _=>fun _=>none
theorem D4L:A7B true G19 (D5J) Try.f121 C3P C5I D0g:=by
 rintro ⟨a0,⟨a1,_⟩⟩ hp
 change B4T a0 a1=true at hp
 unfold B4T at hp
 refine Eq.trans (b:=(let z1:=B5O a0 a1 (0:Int);cond (z1.1==0) (some (C7g (z1.2))) (cond (z1.1==1) (some (C7g (-1:Int))) none))) (by kernel_rfl) ?_
 exact (M2 C7g hp (fun hp=>rfl) (fun hp=>(A7E hp fun _h=>rfl)))
theorem D5V:aPP 121 (A21 C3P C5I D0g):=pcD true G19 (hl1 (i:=0) (by kernel_rfl) D3p) D4L
noncomputable def S20:Tab:=Tab.add S19 121 (lift (A21 C3P C5I D0g))
noncomputable def D6P:FuncId→Bool:=qadd D6O 121
theorem G20:aPG S20 D6P:=G19.addQ D5V (cbl Try.f121) (fun _=>rfl)

abbrev D6a:List Sh:=.junk::D0o
abbrev D6b:List Sh:=.junk::D6a
abbrev D11:List Sh:=.junk::C72
abbrev u25:=((),u24)
abbrev u27:=((),u26)
noncomputable def C1c (s:ByteArray) (i:Nat):Bool:=let z1:=wI (bt s (i:Int));A7P z1 97 122||A7P z1 48 57
abbrev B96:List PSh:=[.t .str]
abbrev B1i:SS:=⟨(.t true .str::.junk::.junk::tI::D6a),[]⟩
abbrev C3B:SS:=⟨(.junk::.junk::.t true .bool::D6b),[]⟩
abbrev C3C:SS:=⟨(.t true .str::D11),[]⟩
noncomputable def C1w (x0:ByteArray) (x3:Int):RT B1i.den:=let z1:=decide (0≤x3∧x3<(x0.size:Int));let z2:=wI (bt x0 x3);(.br (decide (x3<(x0.size:Int))) (.br z1 (.br (!(A7P z2 (97:Int) (122:Int))) (.br z1 (.br (!(A7P z2 (48:Int) (57:Int))) (.done .ret C3B (((),(),false,u25),())) (.next ((x0,(),(),wI (x3+(1:Int)),u24),()))) .fail) (.next ((x0,(),(),wI (x3+(1:Int)),u24),()))) .fail) (.done (.exit 0) C3C ((x0,u27),())))
noncomputable def B5r (x0:ByteArray) (x3:Int):CT:=(.br (decide (0≤x3)&&okS x0) (.br (A4G (C1c x0) (x0.size - x3.toNat) x3.toNat) (.done (.exit 0) C3C ((x0,u27),())) (.done .ret C3B (((),(),false,u25),()))) .fail)
noncomputable abbrev B37:B1i.den→RT B1i.den:=(fun d=>C1w d.1.1 d.1.2.2.2.1)
noncomputable abbrev C6p (x0:ByteArray) (x3:Int):B1i.den:=((x0,(),(),x3,u24),())
noncomputable def C2k:Code:=((D4 0 (A1l Try.f142)).getD 0 (0,.skip)).2
theorem D2V (x0:ByteArray) (x3:Int):(B5r x0 x3).val (D:=B1i.den)=.fail∨Runs B37 (C6p x0 x3) (B5r x0 x3).val:=by
 cases hc:(decide (0≤x3)&&okS x0) with
 | false=>left;simp only [B5r,CT.val,hc,cond_false]
 | true =>
  right
  simp only [B5r,CT.val,hc,cond_true]
  simp only [Bool.and_eq_true,decide_eq_true_eq] at hc
  obtain ⟨i,rfl⟩:=Int.eq_ofNat_of_zero_le hc.1
  have hs:=A7q hc.2
  simp only [Int.toNat_natCast]
  refine Runs.scan (fun j=>C6p x0 (j:Int)) (x0.size) (C1c x0) (fun i hi=>?_) (fun i hi=>?_) ⟨_,_,_,rfl,by simp⟩ ⟨_,_,_,rfl,by simp⟩ _ _ rfl
  ·
   have h0a:decide ((i:Int)<(x0.size:Int))=true:=decide_eq_true (by omega)
   have h0b:decide (0≤(i:Int)∧(i:Int)<(x0.size:Int))=true:=decide_eq_true (by omega)
   simp only [B37,C1w,RT.val,h0a,h0b,cond_true,A7x i (by omega),Int.toNat_natCast]
   simp only [C1c]
   cases A7P (wI (bt x0 (i:Int))) 97 122<;>cases A7P (wI (bt x0 (i:Int))) 48 57<;>rfl
  ·have h1:decide ((i:Int)<(x0.size:Int))=false:=decide_eq_false (by omega)
   simp only [B37,C1w,RT.val,h1,cond_false]
theorem D0I:RdA G20 aLn 0 C2k B1i 0 [] (kepts [2] [(0,[0])]) (fun d=>(B37 d).opt 0 []):=by
 intro d
 kernel_rfl
noncomputable abbrev C4T:St→Option Tree:=B1i.say 0 [] [] (fun d=>B5r d.1.1 d.1.2.2.2.1)
theorem D2c:aPL C4T C2k:=SS.wp2 hlz [] B37 D0I (fun d=>rfl) _ (fun d=>D2V d.1.1 d.1.2.2.2.1)
noncomputable def C3q (a0:ByteArray):Bool:=(cond (A4G (C1c a0) (a0.size - (0:Int).toNat) (0:Int).toNat) (A7P (a0.size:Int) (1:Int) (12:Int)) false)
noncomputable abbrev C33 (r:Bool):AV×List AObj:=((.t true .bool r),[])
noncomputable abbrev C7U:H7 B96→AV×List AObj:=fun d=>C33 (C3q d.1)
noncomputable def C08 (a0:ByteArray):Bool:=okS a0
noncomputable abbrev C3i:H7 B96→Bool:=fun d=>C08 d.1
noncomputable abbrev D4W:Nat→St→Option Tree:=fun b=>match b with | 0=>C4T | _=>fun _=>none
theorem D3K:A7B true G20 (D4W) Try.f142 B96 C3i C7U:=by
 rintro ⟨a0,_⟩ hp
 change C08 a0=true at hp
 unfold C08 at hp
 refine Eq.trans (b:=(cond (decide (0≤(0:Int))&&okS a0) (cond (A4G (C1c a0) (a0.size - (0:Int).toNat) (0:Int).toNat) (some (C33 (A7P (a0.size:Int) (1:Int) (12:Int)))) (some (C33 false))) none)) (by kernel_rfl) ?_
 exact (A7E (by first | rfl | decide | exact hp | (simp only [Bool.and_eq_true] at hp;simp only [hp];done) | (simp [*];done) | (simp [okL] at hp;simp [okL,MAXB];omega) | (simp_all;done) | (simp at *;omega)) (fun _h=>(P9 C33 (fun _h=>rfl) (fun _h=>rfl))))
theorem D5f:aPP 142 (A21 B96 C3i C7U):=pcD true G20 (hl1 (i:=0) (by kernel_rfl) D2c) D3K
noncomputable def S21:Tab:=Tab.add S20 142 (lift (A21 B96 C3i C7U))
noncomputable def D6Q:FuncId→Bool:=qadd D6P 142
theorem G21:aPG S21 D6Q:=G20.addQ D5f (cbl Try.f142) (fun _=>rfl)

abbrev C3O:List PSh:=[.agg [(.int .i64),.str,.str]]
noncomputable def C8J (a0:Int) (a1 a2:ByteArray):Bool:=let z1:=decide ((a2.size:Int)≤(20:Int));(cond (!(A7P a0 (1:Int) (3:Int))) false (cond (a0==(2:Int)) (cond (!(a2.toList==bE.toList)) false (cond (C3q a1) z1 false)) (cond (C3q a1) z1 false)))
noncomputable abbrev B2i (r:Bool):AV×List AObj:=((.t true .bool r),[])
noncomputable abbrev D0f:H7 C3O→AV×List AObj:=fun d=>B2i (C8J d.1.1 d.1.2.1 d.1.2.2.1)
noncomputable def C1W (a0:Int) (a1 a2:ByteArray):Bool:=okS a1
noncomputable abbrev C5H:H7 C3O→Bool:=fun d=>C1W d.1.1 d.1.2.1 d.1.2.2.1
theorem D4K:A7B true G21 aLn Try.f129 C3O C5H D0f:=by
 rintro ⟨⟨a0,⟨a1,⟨a2,_⟩⟩⟩,_⟩ hp
 change C1W a0 a1 a2=true at hp
 unfold C1W at hp
 refine Eq.trans (b:=(let z1:=B2i (decide ((a2.size:Int)≤(20:Int)));cond (!(A7P a0 (1:Int) (3:Int))) (some (B2i false)) (cond (a0==(2:Int)) (cond (!(a2.toList==(⟨#[]⟩:ByteArray).toList)) (some (B2i false)) (cond (C08 a1) (cond (C3q a1) (some z1) (some (B2i false))) none)) (cond (C08 a1) (cond (C3q a1) (some z1) (some (B2i false))) none)))) (by kernel_rfl) ?_
 exact (P9 B2i (fun _h=>rfl) (fun _h=>(P9 B2i (fun _h=>(P9 B2i (fun _h=>rfl) (fun _h=>(A7E (by first | rfl | decide | exact hp | (simp only [Bool.and_eq_true] at hp;simp only [hp];done) | (simp [*];done) | (simp [okL] at hp;simp [okL,MAXB];omega) | (simp_all;done) | (simp at *;omega)) (fun _h=>(P9 B2i (fun _h=>rfl) (fun _h=>rfl))))))) (fun _h=>(A7E (by first | rfl | decide | exact hp | (simp only [Bool.and_eq_true] at hp;simp only [hp];done) | (simp [*];done) | (simp [okL] at hp;simp [okL,MAXB];omega) | (simp_all;done) | (simp at *;omega)) (fun _h=>(P9 B2i (fun _h=>rfl) (fun _h=>rfl))))))))
theorem D5U:aPP 129 (A21 C3O C5H D0f):=pcD true G21 hlz D4K
noncomputable def S22:Tab:=Tab.add S21 129 (lift (A21 C3O C5H D0f))
noncomputable def D6R:FuncId→Bool:=qadd D6Q 129
theorem G22:aPG S22 D6R:=G21.addQ D5U (cbl Try.f129) (fun _=>rfl)

abbrev D12:List Sh:=.junk::.junk::.junk::.junk::.junk::.junk::.junk::D11
abbrev D5v:List Sh:=.junk::D12
abbrev D5w:List Sh:=.junk::.junk::D5v
abbrev u35:=((),(),(),(),(),(),(),(),u27)
abbrev u34:=((),(),(),(),(),(),(),u27)
abbrev u37:=((),(),u35)
abbrev D5r:List AV:=.junk::.junk::.junk::.junk::.junk::.junk::.junk::.junk::.junk::.junk::.junk::.junk::.junk::.junk::.junk::.junk::.junk::.junk::.junk::.junk::.junk::.junk::.junk::.junk::.junk::.junk::.junk::.junk::.junk::.junk::.junk::.junk::.junk::.junk::[]
abbrev D3j:List AV:=.junk::.junk::.junk::.junk::.junk::.junk::.junk::.junk::.junk::.junk::.junk::.junk::.junk::.junk::.junk::.junk::.junk::.junk::.junk::.junk::.junk::.junk::.junk::.junk::.junk::.junk::.junk::.junk::.junk::.junk::.junk::.junk::.junk::[]
abbrev D4s:List AV:=.junk::.junk::D5r
noncomputable def C6y (l:Lq2) (i:Nat):Bool:=let z1:=l.getD i dOp;C8J z1.1 z1.2.1 z1.2.2&&(decide (i=0)||Op.bytesLess (l.getD (i - 1) dOp).2.1.toList z1.2.1.toList)
abbrev B98:List PSh:=[.t tq4]
abbrev A9P:SS:=⟨(.t false tq4::.junk::.junk::tI::D12),[]⟩
abbrev B8a:SS:=⟨(.junk::.junk::.t true .bool::D5v),[]⟩
abbrev C3E:SS:=⟨(.t false tq4::D5w),[]⟩
noncomputable def C1x (x0:Lq2) (x3:Int):RT A9P.den:=let z1:=x0.getD x3.toNat ((0:Int),(bE,bE));let z2:=wI (x3 - (1:Int));let z3:=decide (0≤x3∧x3<(x0.length:Int));(.br (decide (x3<(x0.length:Int))) (.br z3 (.br (C1W (z1.1) ((z1.2).1) ((z1.2).2)) (.br (!(C8J (z1.1) ((z1.2).1) ((z1.2).2))) (.done .ret B8a (((),(),false,u35),())) (.br (decide (x3 > (0:Int))) (.br (decide (0≤z2∧z2<(x0.length:Int))) (.br z3 (.br (!(Op.bytesLess (((x0.getD (z2.toNat) ((0:Int),(bE,bE))).2).1).toList ((z1.2).1).toList)) (.done .ret B8a (((),(),false,u35),())) (.next ((x0,(),(),wI (x3+(1:Int)),u34),()))) .fail) .fail) (.next ((x0,(),(),wI (x3+(1:Int)),u34),())))) .fail) .fail) (.done (.exit 0) C3E ((x0,u37),())))
noncomputable def B5s (x0:Lq2) (x3:Int):CT:=(.br (decide (0≤x3)&&A0h x0) (.br (A4G (C6y x0) (x0.length - x3.toNat) x3.toNat) (.done (.exit 0) C3E ((x0,u37),())) (.done .ret B8a (((),(),false,u35),()))) .fail)
noncomputable abbrev B38:A9P.den→RT A9P.den:=(fun d=>C1x d.1.1 d.1.2.2.2.1)
noncomputable abbrev C6q (x0:Lq2) (x3:Int):A9P.den:=((x0,(),(),x3,u34),())
noncomputable def C2m:Code:=((D4 0 (A1l Try.f95)).getD 0 (0,.skip)).2
theorem D2W (x0:Lq2) (x3:Int):(B5s x0 x3).val (D:=A9P.den)=.fail∨Runs B38 (C6q x0 x3) (B5s x0 x3).val:=by
 cases hc:(decide (0≤x3)&&A0h x0) with
 | false=>left;simp only [B5s,CT.val,hc,cond_false]
 | true =>
  right
  simp only [B5s,CT.val,hc,cond_true]
  simp only [Bool.and_eq_true,decide_eq_true_eq] at hc
  obtain ⟨i,rfl⟩:=Int.eq_ofNat_of_zero_le hc.1
  have hs:=A7T hc.2
  simp only [Int.toNat_natCast]
  refine Runs.scan (fun j=>C6q x0 (j:Int)) (x0.length) (C6y x0) (fun i hi=>?_) (fun i hi=>?_) ⟨_,_,_,rfl,by simp⟩ ⟨_,_,_,rfl,by simp⟩ _ _ rfl
  ·
   have h0a:decide ((i:Int)<(x0.length:Int))=true:=decide_eq_true (by omega)
   have h0b:decide (0≤(i:Int)∧(i:Int)<(x0.length:Int))=true:=decide_eq_true (by omega)
   simp only [B38,C1x,RT.val,h0a,h0b,cond_true,A7x i (by omega),Int.toNat_natCast]
   have hq:C1W (x0.getD i dOp).1 (x0.getD i dOp).2.1 (x0.getD i dOp).2.2=true:=(D2g hc.2 i hi).1
   simp only [dOp] at hq
   simp only [hq,cond_true,C6y,dOp]
   cases C8J (x0.getD i ((0:Int),((⟨#[]⟩:ByteArray),(⟨#[]⟩:ByteArray)))).1 (x0.getD i ((0:Int),((⟨#[]⟩:ByteArray),(⟨#[]⟩:ByteArray)))).2.1 (x0.getD i ((0:Int),((⟨#[]⟩:ByteArray),(⟨#[]⟩:ByteArray)))).2.2 with
   | false=>rfl
   | true =>
    cases i with
    | zero=>rfl
    | succ i =>
     have h3:decide (((i+1:Nat):Int) > 0)=true:=decide_eq_true (by omega)
     have h4:wI (((i+1:Nat):Int) - 1)=(i:Int):=by have:=A6J (n:=((i+1:Nat):Int) - 1) (by omega) (by omega);omega
     have h5:decide (0≤(i:Int)∧(i:Int)<(x0.length:Int))=true:=decide_eq_true (by omega)
     have h6:decide (i+1=0)=false:=by simp
     simp only [h3,h4,h5,h6,cond_true,Bool.true_and,Bool.false_or,Int.toNat_natCast,Nat.add_sub_cancel,Bool.not_true,cond_false]
     cases Op.bytesLess (x0.getD i ((0:Int),((⟨#[]⟩:ByteArray),(⟨#[]⟩:ByteArray)))).2.1.toList (x0.getD (i+1) ((0:Int),((⟨#[]⟩:ByteArray),(⟨#[]⟩:ByteArray)))).2.1.toList<;>rfl
  ·have h1:decide ((i:Int)<(x0.length:Int))=false:=decide_eq_false (by omega)
   simp only [B38,C1x,RT.val,h1,cond_false]
noncomputable def C6k (x0:Lq2) (x3:Int):Option (Ex×St):=let z1:=x0.getD x3.toNat ((0:Int),(bE,bE));let z2:=(⟨((.t false tq4 x0)::.junk::.junk::(ti (wI (x3+(1:Int))))::D3j),[],0,[]⟩:St);let z3:=wI (x3 - (1:Int));let z4:=(⟨(.junk::.junk::(.t true .bool false)::D5r),[],0,[]⟩:St);let z5:=decide (0≤x3∧x3<(x0.length:Int));(cond (decide (x3<(x0.length:Int))) (cond z5 (cond (C1W (z1.1) ((z1.2).1) ((z1.2).2)) (cond (!(C8J (z1.1) ((z1.2).1) ((z1.2).2))) (some (.ret,z4)) (cond (decide (x3 > (0:Int))) (cond (decide (0≤z3∧z3<(x0.length:Int))) (cond z5 (cond (!(Op.bytesLess (((x0.getD (z3.toNat) ((0:Int),(bE,bE))).2).1).toList ((z1.2).1).toList)) (some (.ret,z4)) (some (.normal,z2))) none) none) (some (.normal,z2)))) none) none) (some ((.exit 0),(⟨((.t false tq4 x0)::D4s),[],0,[]⟩:St))))
theorem D0K:RdA G22 aLn 0 C2m A9P 0 [] (kepts [2] [(0,[0])]) (fun d=>C6k d.1.1 d.1.2.2.2.1):=by
 intro d
 kernel_rfl
theorem D0R:∀ d:A9P.den,(fun d=>C6k d.1.1 d.1.2.2.2.1) d=(B38 d).opt 0 []:=by
 intro d
 kernel_rfl
noncomputable abbrev C4V:St→Option Tree:=A9P.say 0 [] [] (fun d=>B5s d.1.1 d.1.2.2.2.1)
theorem D2e:aPL C4V C2m:=SS.wp2 hlz [] B38 D0K D0R _ (fun d=>D2W d.1.1 d.1.2.2.2.1)
noncomputable def C8H (a0:Lq2):Bool:=(cond (A4G (C6y a0) (a0.length - (0:Int).toNat) (0:Int).toNat) (A7P (a0.length:Int) (1:Int) (8:Int)) false)
noncomputable abbrev C35 (r:Bool):AV×List AObj:=((.t true .bool r),[])
noncomputable abbrev C7W:H7 B98→AV×List AObj:=fun d=>C35 (C8H d.1)
noncomputable def C4B (a0:Lq2):Bool:=A0h a0
noncomputable abbrev C3k:H7 B98→Bool:=fun d=>C4B d.1
noncomputable abbrev D4Y:Nat→St→Option Tree:=fun b=>match b with | 0=>C4V | _=>fun _=>none
theorem D3M:A7B true G22 (D4Y) Try.f95 B98 C3k C7W:=by
 rintro ⟨a0,_⟩ hp
 change C4B a0=true at hp
 unfold C4B at hp
 refine Eq.trans (b:=(cond (decide (0≤(0:Int))&&A0h a0) (cond (A4G (C6y a0) (a0.length - (0:Int).toNat) (0:Int).toNat) (some (C35 (A7P (a0.length:Int) (1:Int) (8:Int)))) (some (C35 false))) none)) (by kernel_rfl) ?_
 exact (A7E (by first | rfl | decide | exact hp | (simp only [Bool.and_eq_true] at hp;simp only [hp];done) | (simp [*];done) | (simp [okL] at hp;simp [okL,MAXB];omega) | (simp_all;done) | (simp at *;omega)) (fun _h=>(P9 C35 (fun _h=>rfl) (fun _h=>rfl))))
theorem D5h:aPP 95 (A21 B98 C3k C7W):=pcD true G22 (hl1 (i:=0) (by kernel_rfl) D2e) D3M
noncomputable def S23:Tab:=Tab.add S22 95 (lift (A21 B98 C3k C7W))
noncomputable def D6S:FuncId→Bool:=qadd D6R 95
theorem G23:aPG S23 D6S:=G22.addQ D5h (cbl Try.f95) (fun _=>rfl)

abbrev B99:List PSh:=[.agg [(.int .i64),(.int .i64),tq4]]
noncomputable def B2E (a0 a1:Int) (a2:Lq2):Bool:=(cond (!(A7P a1 (1:Int) (1000000:Int))) false (cond (a0==(1:Int)) (C8H a2) (cond (a0==(2:Int)) ((a2.length:Int)==(0:Int)) (cond (a0==(3:Int)) ((a2.length:Int)==(0:Int)) false))))
noncomputable abbrev B2h (r:Bool):AV×List AObj:=((.t true .bool r),[])
noncomputable abbrev C7X:H7 B99→AV×List AObj:=fun d=>B2h (B2E d.1.1 d.1.2.1 d.1.2.2.1)
noncomputable def B3Z (a0 a1:Int) (a2:Lq2):Bool:=A0h a2
noncomputable abbrev C3l:H7 B99→Bool:=fun d=>B3Z d.1.1 d.1.2.1 d.1.2.2.1
theorem D3N:A7B true G23 aLn Try.f122 B99 C3l C7X:=by
 rintro ⟨⟨a0,⟨a1,⟨a2,_⟩⟩⟩,_⟩ hp
 change B3Z a0 a1 a2=true at hp
 unfold B3Z at hp
 refine Eq.trans (b:=(let z1:=B2h ((a2.length:Int)==(0:Int));cond (!(A7P a1 (1:Int) (1000000:Int))) (some (B2h false)) (cond (a0==(1:Int)) (cond (C4B a2) (some (B2h (C8H a2))) none) (cond (a0==(2:Int)) (some z1) (cond (a0==(3:Int)) (some z1) (some (B2h false))))))) (by kernel_rfl) ?_
 exact (P9 B2h (fun _h=>rfl) (fun _h=>(P9 B2h (fun _h=>(A7E (by first | rfl | decide | exact hp | (simp only [Bool.and_eq_true] at hp;simp only [hp];done) | (simp [*];done) | (simp [okL] at hp;simp [okL,MAXB];omega) | (simp_all;done) | (simp at *;omega)) (fun _h=>rfl))) (fun _h=>(P9 B2h (fun _h=>rfl) (fun _h=>(P9 B2h (fun _h=>rfl) (fun _h=>rfl))))))))
theorem D5i:aPP 122 (A21 B99 C3l C7X):=pcD true G23 hlz D3N
noncomputable def S24:Tab:=Tab.add S23 122 (lift (A21 B99 C3l C7X))
noncomputable def D6T:FuncId→Bool:=qadd D6S 122
theorem G24:aPG S24 D6T:=G23.addQ D5i (cbl Try.f122) (fun _=>rfl)

abbrev D8j:Ty:=.sl (.int .i64)
abbrev D5s:List Sh:=.junk::.junk::.junk::.junk::.junk::.junk::.junk::.junk::.junk::.junk::.junk::.junk::[]
abbrev D8a:List Sh:=.junk::D5s
abbrev u14:=((),(),(),(),(),(),(),(),(),(),(),(),(),())
abbrev u13:=((),(),(),(),(),(),(),(),(),(),(),(),())
abbrev C0a:List PSh:=[.t D8j,.t (.int .i64)]
abbrev B1j:SS:=⟨(.t false D8j::tI::.junk::.junk::.junk::tI::D5s),[]⟩
abbrev C3F:SS:=⟨(.junk::.junk::.junk::.junk::.t true .bool::D8a),[]⟩
abbrev C3G:SS:=⟨(.junk::D58),[]⟩
noncomputable def C6H (x0:List Int) (x1 x5:Int):RT B1j.den:=(.br (decide (x5<(x0.length:Int))) (.br (decide (0≤x5∧x5<(x0.length:Int))) (.br ((x0.getD x5.toNat (0:Int))==x1) (.done .ret C3F (((),(),(),(),true,u14),())) (.next ((x0,x1,(),(),(),wI (x5+(1:Int)),u13),()))) .fail) (.done (.exit 0) C3G ((u19),())))
abbrev B5t:=(List Int)×(Int)×(Int)
abbrev B2W:=Nat×(Bool)
def C53:B2W:=(99,(false:Bool))
noncomputable def B6H (x0:List Int) (x1 x5:Int):B5t ⊕ B2W:=(cond (decide (x5<(x0.length:Int))) (cond (decide (0≤x5∧x5<(x0.length:Int))) (cond ((x0.getD x5.toNat (0:Int))==x1) (.inr (0,true)) (.inl (x0,x1,wI (x5+(1:Int))))) (.inr C53)) (.inr (1,(false:Bool))))
noncomputable def B1G (x0:List Int) (x1 x5:Int):B2W:=itX (fun v:B5t=>B6H v.1 v.2.1 v.2.2) C53 (x0,x1,x5)
noncomputable def C0s (a:B2W):CT:=(.br (a.1==0) (.done .ret C3F (((),(),(),(),a.2,u14),())) (.br (a.1==1) (.done (.exit 0) C3G ((u19),())) .fail))
noncomputable def D22 (x0:List Int) (x1 x5:Int):CT:=C0s (B1G x0 x1 x5)
noncomputable abbrev C1o:B1j.den→RT B1j.den:=(fun d=>C6H d.1.1 d.1.2.1 d.1.2.2.2.2.2.1)
noncomputable def C2n:Code:=((D4 0 (A1l Try.f123)).getD 0 (0,.skip)).2
noncomputable abbrev C6x (v:B5t):B1j.den:=((v.1,v.2.1,(),(),(),v.2.2,u13),())
theorem D2p:(∀ v:B5t,(C6H v.1 v.2.1 v.2.2).val=A6D C6x C0s (B6H v.1 v.2.1 v.2.2))∧∀ a:B2W,CEnd B1j.den (C0s a):=⟨fun v=>(A7G (A7G (A7G rfl rfl) rfl) rfl),fun a=>(A7t aCD (A7t aCD A7v))⟩
theorem D0L:RdA G24 aLn 0 C2n B1j 0 [] (kepts [4] [(0,[])]) (fun d=>(C1o d).opt 0 []):=by
 intro d
 kernel_rfl
noncomputable abbrev C4W:St→Option Tree:=B1j.say 0 [] [] (fun d=>D22 d.1.1 d.1.2.1 d.1.2.2.2.2.2.1)
theorem D2f:aPL C4W C2n:=SS.wp2 hlz [] C1o D0L (fun d=>rfl) _ (fun d=>Runs.ofI2 (step:=C1o) C6x D2p rfl (d.1.1,d.1.2.1,d.1.2.2.2.2.2.1))
noncomputable def B3l (a0:List Int) (a1:Int):Bool:=let z1:=B1G a0 a1 (0:Int);(cond (z1.1==0) (z1.2) false)
noncomputable abbrev C37 (r:Bool):AV×List AObj:=((.t true .bool r),[])
noncomputable abbrev C7Y:H7 C0a→AV×List AObj:=fun d=>C37 (B3l d.1 d.2.1)
noncomputable def A8A (a0:List Int) (a1:Int):Bool:=let z1:=B1G a0 a1 (0:Int);cond (z1.1==0) true (z1.1==1)
noncomputable abbrev C3m:H7 C0a→Bool:=fun d=>A8A d.1 d.2.1
noncomputable abbrev D4Z:Nat→St→Option Tree:=fun b=>match b with | 0=>C4W | _=>fun _=>none
theorem D3O:A7B true G24 (D4Z) Try.f123 C0a C3m C7Y:=by
 rintro ⟨a0,⟨a1,_⟩⟩ hp
 change A8A a0 a1=true at hp
 unfold A8A at hp
 refine Eq.trans (b:=(let z1:=B1G a0 a1 (0:Int);cond (z1.1==0) (some (C37 (z1.2))) (cond (z1.1==1) (some (C37 false)) none))) (by kernel_rfl) ?_
 exact (M2 C37 hp (fun hp=>rfl) (fun hp=>(A7E hp fun _h=>rfl)))
theorem D5j:aPP 123 (A21 C0a C3m C7Y):=pcD true G24 (hl1 (i:=0) (by kernel_rfl) D2f) D3O
noncomputable def S25:Tab:=Tab.add S24 123 (lift (A21 C0a C3m C7Y))
noncomputable def D6U:FuncId→Bool:=qadd D6T 123
theorem G25:aPG S25 D6U:=G24.addQ D5j (cbl Try.f123) (fun _=>rfl)

abbrev D5x:List Sh:=.junk::D5w
abbrev D4x:List Sh:=.junk::.junk::.junk::D5x
abbrev D5y:List Sh:=.junk::D5x
abbrev u41:=((),(),(),(),u37)
abbrev u38:=((),u37)
abbrev u39:=((),u38)
abbrev D4t:List AV:=.junk::.junk::.junk::.junk::D4s
abbrev D57:List AV:=.junk::D4s
abbrev D3k:List AV:=.junk::D57
abbrev D6z:List Sh:=.junk::D5y
abbrev u40:=((),u39)
abbrev D6x:List AV:=.junk::D3k
abbrev D8f:List Sh:=.junk::.junk::.junk::.junk::D4x
abbrev u46:=((),(),(),(),(),u41)
abbrev D74:List AV:=.junk::.junk::.junk::.junk::D4t
abbrev B3L:List PSh:=[.t tq3,.t tq4]
noncomputable def B24:Code:=((D4 0 (A1l Try.f97)).getD 0 (0,.skip)).2
noncomputable def B25:Code:=((D4 0 B24).getD 0 (0,.skip)).2
noncomputable def B7v:Code:=((D4 2 B25).getD 0 (0,.skip)).2
abbrev W0:SS:=⟨(.t false tq3::.t false tq4::.junk::.junk::.junk::tI::tI::tI::D5x),[]⟩
abbrev B9j:SS:=⟨(.junk::.junk::.junk::.junk::.t true .bool::D4x),[]⟩
abbrev B9k:SS:=⟨(.t false tq3::.t false tq4::.junk::.junk::.junk::tI::tI::D5y),[]⟩
noncomputable def C1A (x0:Lq1) (x1:Lq2) (x5 x6 x7:Int):RT W0.den:=let z1:=((x0.getD x5.toNat ((0:Int),((0:Int),[]))).2).2;(.br (decide (x7<(x1.length:Int))) (.br (decide (0≤x5∧x5<(x0.length:Int))) (.br (decide (0≤x6∧x6<((z1.length:Nat):Int))) (.br (decide (0≤x7∧x7<(x1.length:Int))) (.br ((((z1.getD x6.toNat ((0:Int),(bE,bE))).2).1).toList==(((x1.getD x7.toNat ((0:Int),(bE,bE))).2).1).toList) (.done .ret B9j (((),(),(),(),true,u41),())) (.next ((x0,x1,(),(),(),x5,x6,wI (x7+(1:Int)),u38),()))) .fail) .fail) .fail) (.done (.exit 4) B9k ((x0,x1,(),(),(),x5,x6,u39),())))
abbrev A9l:=(Lq1)×Lq2×(Int)×(Int)×(Int)
abbrev B0Q:=Nat×(Bool)×Lq1×Lq2×(Int)×(Int)
def A9X:B0Q:=(99,(false:Bool),([]:Lq1),([]:Lq2),((0:Int):Int),((0:Int):Int))
noncomputable def A8G (x0:Lq1) (x1:Lq2) (x5 x6 x7:Int):A9l ⊕ B0Q:=let z1:=((x0.getD x5.toNat ((0:Int),((0:Int),[]))).2).2;(cond (decide (x7<(x1.length:Int))) (cond (decide (0≤x5∧x5<(x0.length:Int))) (cond (decide (0≤x6∧x6<((z1.length:Nat):Int))) (cond (decide (0≤x7∧x7<(x1.length:Int))) (cond ((((z1.getD x6.toNat ((0:Int),(bE,bE))).2).1).toList==(((x1.getD x7.toNat ((0:Int),(bE,bE))).2).1).toList) (.inr (0,true,([]:Lq1),([]:Lq2),((0:Int):Int),((0:Int):Int))) (.inl (x0,x1,x5,x6,wI (x7+(1:Int))))) (.inr A9X)) (.inr A9X)) (.inr A9X)) (.inr (1,(false:Bool),x0,x1,x5,x6)))
noncomputable def A94 (x0:Lq1) (x1:Lq2) (x5 x6 x7:Int):B0Q:=itX (fun v:A9l=>A8G v.1 v.2.1 v.2.2.1 v.2.2.2.1 v.2.2.2.2) A9X (x0,x1,x5,x6,x7)
noncomputable def B5G (a:B0Q):CT:=(.br (a.1==0) (.done .ret B9j (((),(),(),(),a.2.1,u41),())) (.br (a.1==1) (.done (.exit 4) B9k ((a.2.2.1,a.2.2.2.1,(),(),(),a.2.2.2.2.1,a.2.2.2.2.2,u39),())) .fail))
noncomputable def C8Y (x0:Lq1) (x1:Lq2) (x5 x6 x7:Int):CT:=B5G (A94 x0 x1 x5 x6 x7)
noncomputable abbrev B2c {α:Sort _} (f:Lq1→Lq2→Int→Int→Int→α) (d:W0.den):α:=f d.1.1 d.1.2.1 d.1.2.2.2.2.2.1 d.1.2.2.2.2.2.2.1 d.1.2.2.2.2.2.2.2.1
noncomputable abbrev B59:W0.den→RT W0.den:=(B2c C1A)
noncomputable abbrev C04 (v:A9l):W0.den:=((v.1,v.2.1,(),(),(),v.2.2.1,v.2.2.2.1,v.2.2.2.2,u38),())
theorem C8w:(∀ v:A9l,(C1A v.1 v.2.1 v.2.2.1 v.2.2.2.1 v.2.2.2.2).val=A6D C04 B5G (A8G v.1 v.2.1 v.2.2.1 v.2.2.2.1 v.2.2.2.2))∧∀ a:B0Q,CEnd W0.den (B5G a):=⟨fun v=>(A7G (A7G (A7G (A7G (A7G rfl rfl) rfl) rfl) rfl) rfl),fun a=>(A7t aCD (A7t aCD A7v))⟩
noncomputable def C0I (x0:Lq1) (x1:Lq2) (x5 x6 x7:Int):Option (Ex×St):=let z1:=((x0.getD x5.toNat ((0:Int),((0:Int),[]))).2).2;(cond (decide (x7<(x1.length:Int))) (cond (decide (0≤x5∧x5<(x0.length:Int))) (cond (decide (0≤x6∧x6<((z1.length:Nat):Int))) (cond (decide (0≤x7∧x7<(x1.length:Int))) (cond ((((z1.getD x6.toNat ((0:Int),(bE,bE))).2).1).toList==(((x1.getD x7.toNat ((0:Int),(bE,bE))).2).1).toList) (some (.ret,(⟨(.junk::.junk::.junk::.junk::(.t true .bool true)::D4t),[],0,[]⟩:St))) (some (.normal,(⟨((.t false tq3 x0)::(.t false tq4 x1)::.junk::.junk::.junk::(ti x5)::(ti x6)::(ti (wI (x7+(1:Int))))::D57),[],0,[]⟩:St)))) none) none) none) (some ((.exit 4),(⟨((.t false tq3 x0)::(.t false tq4 x1)::.junk::.junk::.junk::(ti x5)::(ti x6)::D3k),[],0,[]⟩:St))))
theorem C60:RdA G25 aLn 4 B7v W0 0 [] (kepts [4] [(4,[0,1,5,6])]) (B2c C0I):=by
 intro d
 kernel_rfl
theorem C65:∀ d:W0.den,(B2c C0I) d=(B59 d).opt 0 []:=by
 intro d
 kernel_rfl
noncomputable abbrev B9G:St→Option Tree:=W0.say 0 [] [] (B2c C8Y)
theorem C8b:aPL B9G B7v:=SS.wp2 hlz [] B59 C60 C65 _ (fun d=>Runs.ofI2 (step:=B59) C04 C8w rfl (d.1.1,d.1.2.1,d.1.2.2.2.2.2.1,d.1.2.2.2.2.2.2.1,d.1.2.2.2.2.2.2.2.1))
abbrev V9:SS:=⟨(.t false tq3::.t false tq4::.junk::.junk::.junk::tI::tI::D5y),[]⟩
abbrev B9h:SS:=⟨(.junk::.junk::.junk::.junk::.t true .bool::D4x),[]⟩
abbrev B9i:SS:=⟨(.t false tq3::.t false tq4::.junk::.junk::.junk::tI::D6z),[]⟩
noncomputable def C1z (x0:Lq1) (x1:Lq2) (x5 x6:Int):RT V9.den:=let z1:=A94 x0 x1 x5 x6 (0:Int);(.br (decide (0≤x5∧x5<(x0.length:Int))) (.br (decide (x6<(((((x0.getD x5.toNat ((0:Int),((0:Int),[]))).2).2).length:Nat):Int))) (.br (z1.1==0) (.done .ret B9h (((),(),(),(),(z1.2.1),u41),())) (.br (z1.1==1) (.next (((z1.2.2.1),(z1.2.2.2.1),(),(),(),(z1.2.2.2.2.1),wI ((z1.2.2.2.2.2)+(1:Int)),u39),())) .fail)) (.done (.exit 2) B9i ((x0,x1,(),(),(),x5,u40),()))) .fail)
abbrev A9k:=(Lq1)×Lq2×(Int)×(Int)
abbrev B0P:=Nat×(Bool)×Lq1×Lq2×(Int)
def B2j:B0P:=(99,(false:Bool),([]:Lq1),([]:Lq2),((0:Int):Int))
noncomputable def A7M (x0:Lq1) (x1:Lq2) (x5 x6:Int):A9k ⊕ B0P:=let z1:=A94 x0 x1 x5 x6 (0:Int);(cond (decide (0≤x5∧x5<(x0.length:Int))) (cond (decide (x6<(((((x0.getD x5.toNat ((0:Int),((0:Int),[]))).2).2).length:Nat):Int))) (cond (z1.1==0) (.inr (0,(z1.2.1),([]:Lq1),([]:Lq2),((0:Int):Int))) (cond (z1.1==1) (.inl ((z1.2.2.1),(z1.2.2.2.1),(z1.2.2.2.2.1),wI ((z1.2.2.2.2.2)+(1:Int)))) (.inr B2j))) (.inr (1,(false:Bool),x0,x1,x5))) (.inr B2j))
noncomputable def A93 (x0:Lq1) (x1:Lq2) (x5 x6:Int):B0P:=itX (fun v:A9k=>A7M v.1 v.2.1 v.2.2.1 v.2.2.2) B2j (x0,x1,x5,x6)
noncomputable def B5F (a:B0P):CT:=(.br (a.1==0) (.done .ret B9h (((),(),(),(),a.2.1,u41),())) (.br (a.1==1) (.done (.exit 2) B9i ((a.2.2.1,a.2.2.2.1,(),(),(),a.2.2.2.2,u40),())) .fail))
noncomputable def C8X (x0:Lq1) (x1:Lq2) (x5 x6:Int):CT:=B5F (A93 x0 x1 x5 x6)
noncomputable abbrev B2b {α:Sort _} (f:Lq1→Lq2→Int→Int→α) (d:V9.den):α:=f d.1.1 d.1.2.1 d.1.2.2.2.2.2.1 d.1.2.2.2.2.2.2.1
noncomputable abbrev B58:V9.den→RT V9.den:=(B2b C1z)
noncomputable abbrev C03 (v:A9k):V9.den:=((v.1,v.2.1,(),(),(),v.2.2.1,v.2.2.2,u39),())
theorem C8v:(∀ v:A9k,(C1z v.1 v.2.1 v.2.2.1 v.2.2.2).val=A6D C03 B5F (A7M v.1 v.2.1 v.2.2.1 v.2.2.2))∧∀ a:B0P,CEnd V9.den (B5F a):=⟨fun v=>(A7G (A7G (A7G rfl (A7G rfl rfl)) rfl) rfl),fun a=>(A7t aCD (A7t aCD A7v))⟩
noncomputable abbrev C8Q:Nat→St→Option Tree:=fun b=>match b with | 4=>B9G | _=>fun _=>none
noncomputable def C0H (x0:Lq1) (x1:Lq2) (x5 x6:Int):Option (Ex×St):=let z1:=A94 x0 x1 x5 x6 (0:Int);(cond (decide (0≤x5∧x5<(x0.length:Int))) (cond (decide (x6<(((((x0.getD x5.toNat ((0:Int),((0:Int),[]))).2).2).length:Nat):Int))) (cond (z1.1==0) (some (.ret,(⟨(.junk::.junk::.junk::.junk::(.t true .bool (z1.2.1))::D4t),[],0,[]⟩:St))) (cond (z1.1==1) (some (.normal,(⟨((.t false tq3 (z1.2.2.1))::(.t false tq4 (z1.2.2.2.1))::.junk::.junk::.junk::(ti (z1.2.2.2.2.1))::(ti (wI ((z1.2.2.2.2.2)+(1:Int))))::D3k),[],0,[]⟩:St))) none)) (some ((.exit 2),(⟨((.t false tq3 x0)::(.t false tq4 x1)::.junk::.junk::.junk::(ti x5)::D6x),[],0,[]⟩:St)))) none)
theorem C6Z:RdA G25 (C8Q) 2 B25 V9 0 [] (kepts [4] [(2,[0,1,5])]) (B2b C0H):=by
 intro d
 kernel_rfl
theorem C64:∀ d:V9.den,(B2b C0H) d=(B58 d).opt 0 []:=by
 intro d
 kernel_rfl
noncomputable abbrev B9F:St→Option Tree:=V9.say 0 [] [] (B2b C8X)
theorem C8a:aPL B9F B25:=SS.wp2 (hl1 (i:=4) (by kernel_rfl) C8b) [] B58 C6Z C64 _ (fun d=>Runs.ofI2 (step:=B58) C03 C8v rfl (d.1.1,d.1.2.1,d.1.2.2.2.2.2.1,d.1.2.2.2.2.2.2.1))
abbrev A0g:SS:=⟨(.t false tq3::.t false tq4::.junk::.junk::.junk::tI::D6z),[]⟩
abbrev B9f:SS:=⟨(.junk::.junk::.junk::.junk::.t true .bool::D4x),[]⟩
abbrev B9g:SS:=⟨(.junk::D8f),[]⟩
noncomputable def C1y (x0:Lq1) (x1:Lq2) (x5:Int):RT A0g.den:=let z1:=A93 x0 x1 x5 (0:Int);(.br (decide (x5<(x0.length:Int))) (.br (z1.1==0) (.done .ret B9f (((),(),(),(),(z1.2.1),u41),())) (.br (z1.1==1) (.next (((z1.2.2.1),(z1.2.2.2.1),(),(),(),wI ((z1.2.2.2.2)+(1:Int)),u40),())) .fail)) (.done (.exit 0) B9g ((u46),())))
abbrev A9j:=(Lq1)×Lq2×(Int)
abbrev B0O:=Nat×(Bool)
def B5I:B0O:=(99,(false:Bool))
noncomputable def B0k (x0:Lq1) (x1:Lq2) (x5:Int):A9j ⊕ B0O:=let z1:=A93 x0 x1 x5 (0:Int);(cond (decide (x5<(x0.length:Int))) (cond (z1.1==0) (.inr (0,(z1.2.1))) (cond (z1.1==1) (.inl ((z1.2.2.1),(z1.2.2.2.1),wI ((z1.2.2.2.2)+(1:Int)))) (.inr B5I))) (.inr (1,(false:Bool))))
noncomputable def A92 (x0:Lq1) (x1:Lq2) (x5:Int):B0O:=itX (fun v:A9j=>B0k v.1 v.2.1 v.2.2) B5I (x0,x1,x5)
noncomputable def B5E (a:B0O):CT:=(.br (a.1==0) (.done .ret B9f (((),(),(),(),a.2,u41),())) (.br (a.1==1) (.done (.exit 0) B9g ((u46),())) .fail))
noncomputable def C8W (x0:Lq1) (x1:Lq2) (x5:Int):CT:=B5E (A92 x0 x1 x5)
noncomputable abbrev B57:A0g.den→RT A0g.den:=(fun d=>C1y d.1.1 d.1.2.1 d.1.2.2.2.2.2.1)
noncomputable abbrev C02 (v:A9j):A0g.den:=((v.1,v.2.1,(),(),(),v.2.2,u40),())
theorem C8u:(∀ v:A9j,(C1y v.1 v.2.1 v.2.2).val=A6D C02 B5E (B0k v.1 v.2.1 v.2.2))∧∀ a:B0O,CEnd A0g.den (B5E a):=⟨fun v=>(A7G (A7G rfl (A7G rfl rfl)) rfl),fun a=>(A7t aCD (A7t aCD A7v))⟩
noncomputable abbrev C8P:Nat→St→Option Tree:=fun b=>match b with | 2=>B9F | _=>fun _=>none
noncomputable def C0G (x0:Lq1) (x1:Lq2) (x5:Int):Option (Ex×St):=let z1:=A93 x0 x1 x5 (0:Int);(cond (decide (x5<(x0.length:Int))) (cond (z1.1==0) (some (.ret,(⟨(.junk::.junk::.junk::.junk::(.t true .bool (z1.2.1))::D4t),[],0,[]⟩:St))) (cond (z1.1==1) (some (.normal,(⟨((.t false tq3 (z1.2.2.1))::(.t false tq4 (z1.2.2.2.1))::.junk::.junk::.junk::(ti (wI ((z1.2.2.2.2)+(1:Int))))::D6x),[],0,[]⟩:St))) none)) (some ((.exit 0),(⟨(.junk::D74),[],0,[]⟩:St))))
theorem C6Y:RdA G25 (C8P) 0 B24 A0g 0 [] (kepts [4] [(0,[])]) (fun d=>C0G d.1.1 d.1.2.1 d.1.2.2.2.2.2.1):=by
 intro d
 kernel_rfl
theorem C63:∀ d:A0g.den,(fun d=>C0G d.1.1 d.1.2.1 d.1.2.2.2.2.2.1) d=(B57 d).opt 0 []:=by
 intro d
 kernel_rfl
noncomputable abbrev B9E:St→Option Tree:=A0g.say 0 [] [] (fun d=>C8W d.1.1 d.1.2.1 d.1.2.2.2.2.2.1)
theorem C79:aPL B9E B24:=SS.wp2 (hl1 (i:=2) (by kernel_rfl) C8a) [] B57 C6Y C63 _ (fun d=>Runs.ofI2 (step:=B57) C02 C8u rfl (d.1.1,d.1.2.1,d.1.2.2.2.2.2.1))
noncomputable def B0B (a0:Lq1) (a1:Lq2):Bool:=let z1:=A92 a0 a1 (0:Int);(cond (z1.1==0) (z1.2) false)
noncomputable abbrev B6x (r:Bool):AV×List AObj:=((.t true .bool r),[])
noncomputable abbrev C0y:H7 B3L→AV×List AObj:=fun d=>B6x (B0B d.1 d.2.1)
noncomputable def A78 (a0:Lq1) (a1:Lq2):Bool:=let z1:=A92 a0 a1 (0:Int);cond (z1.1==0) true (z1.1==1)
noncomputable abbrev B6X:H7 B3L→Bool:=fun d=>A78 d.1 d.2.1
noncomputable abbrev D1n:Nat→St→Option Tree:=fun b=>match b with | 0=>B9E | _=>fun _=>none
theorem C9t:A7B true G25 (D1n) Try.f97 B3L B6X C0y:=by
 rintro ⟨a0,⟨a1,_⟩⟩ hp
 change A78 a0 a1=true at hp
 unfold A78 at hp
 refine Eq.trans (b:=(let z1:=A92 a0 a1 (0:Int);cond (z1.1==0) (some (B6x (z1.2))) (cond (z1.1==1) (some (B6x false)) none))) (by kernel_rfl) ?_
 exact (M2 B6x hp (fun hp=>rfl) (fun hp=>(A7E hp fun _h=>rfl)))
theorem D1H:aPP 97 (A21 B3L B6X C0y):=pcD true G25 (hl1 (i:=0) (by kernel_rfl) C79) C9t
noncomputable def S26:Tab:=Tab.add S25 97 (lift (A21 B3L B6X C0y))
noncomputable def D6V:FuncId→Bool:=qadd D6U 97
theorem G26:aPG S26 D6V:=G25.addQ D1H (cbl Try.f97) (fun _=>rfl)

abbrev u20:=((),u19)
abbrev B7o:List PSh:=[.t tq6,.t .str]
abbrev A9N:SS:=⟨(.t false tq6::.t true .str::.junk::.junk::.junk::.junk::tI::D10),[]⟩
abbrev C18:SS:=⟨(.junk::.junk::.junk::.junk::.t true .str::.t true .bool::D4w),[]⟩
abbrev C19:SS:=⟨(.junk::D6b),[]⟩
noncomputable def C44 (x0:LBBe) (x1:ByteArray) (x6:Int):RT A9N.den:=let z1:=decide (0≤x6∧x6<(x0.length:Int));let z2:=x0.getD x6.toNat (bE,bE);(.br (decide (x6<(x0.length:Int))) (.br z1 (.br ((z2.1).toList==x1.toList) (.br z1 (.done .ret C18 (((),(),(),(),z2.2,true,u20),())) .fail) (.next ((x0,x1,(),(),(),(),wI (x6+(1:Int)),u19),()))) .fail) (.done (.exit 0) C19 ((u26),())))
abbrev B1y:=(LBBe)×(ByteArray)×(Int)
abbrev B1v:=Nat×(ByteArray)×(Bool)
def B4Q:B1v:=(99,(bE:ByteArray),(false:Bool))
noncomputable def B2L (x0:LBBe) (x1:ByteArray) (x6:Int):B1y ⊕ B1v:=let z1:=decide (0≤x6∧x6<(x0.length:Int));let z2:=x0.getD x6.toNat (bE,bE);(cond (decide (x6<(x0.length:Int))) (cond z1 (cond ((z2.1).toList==x1.toList) (cond z1 (.inr (0,z2.2,true)) (.inr B4Q)) (.inl (x0,x1,wI (x6+(1:Int))))) (.inr B4Q)) (.inr (1,(bE:ByteArray),(false:Bool))))
noncomputable def B2p (x0:LBBe) (x1:ByteArray) (x6:Int):B1v:=itX (fun v:B1y=>B2L v.1 v.2.1 v.2.2) B4Q (x0,x1,x6)
noncomputable def B8i (a:B1v):CT:=(.br (a.1==0) (.done .ret C18 (((),(),(),(),a.2.1,a.2.2,u20),())) (.br (a.1==1) (.done (.exit 0) C19 ((u26),())) .fail))
noncomputable def D1u (x0:LBBe) (x1:ByteArray) (x6:Int):CT:=B8i (B2p x0 x1 x6)
noncomputable abbrev B87:A9N.den→RT A9N.den:=(fun d=>C44 d.1.1 d.1.2.1 d.1.2.2.2.2.2.2.1)
noncomputable def C0j:Code:=((D4 0 (A1l Try.f130)).getD 0 (0,.skip)).2
noncomputable abbrev C4w (v:B1y):A9N.den:=((v.1,v.2.1,(),(),(),(),v.2.2,u19),())
theorem D0X:(∀ v:B1y,(C44 v.1 v.2.1 v.2.2).val=A6D C4w B8i (B2L v.1 v.2.1 v.2.2))∧∀ a:B1v,CEnd A9N.den (B8i a):=⟨fun v=>(A7G (A7G (A7G (A7G rfl rfl) rfl) rfl) rfl),fun a=>(A7t aCD (A7t aCD A7v))⟩
theorem C9f:RdA G26 aLn 0 C0j A9N 0 [] (kepts [4,5] [(0,[])]) (fun d=>(B87 d).opt 0 []):=by
 intro d
 kernel_rfl
noncomputable abbrev C2H:St→Option Tree:=A9N.say 0 [] [] (fun d=>D1u d.1.1 d.1.2.1 d.1.2.2.2.2.2.2.1)
theorem D0w:aPL C2H C0j:=SS.wp2 hlz [] B87 C9f (fun d=>rfl) _ (fun d=>Runs.ofI2 (step:=B87) C4w D0X rfl (d.1.1,d.1.2.1,d.1.2.2.2.2.2.2.1))
noncomputable def B2D (a0:LBBe) (a1:ByteArray):ByteArray×Bool:=let z1:=B2p a0 a1 (0:Int);(cond (z1.1==0) ((z1.2.1),(z1.2.2)) (bE,false))
noncomputable abbrev C1I (r:ByteArray×Bool):AV×List AObj:=((.tup [(.t true .str r.1),(.t true .bool r.2)]),[])
noncomputable abbrev C5o:H7 B7o→AV×List AObj:=fun d=>C1I (B2D d.1 d.2.1)
noncomputable def B1N (a0:LBBe) (a1:ByteArray):Bool:=let z1:=B2p a0 a1 (0:Int);cond (z1.1==0) true (z1.1==1)
noncomputable abbrev C0W:H7 B7o→Bool:=fun d=>B1N d.1 d.2.1
noncomputable abbrev D35:Nat→St→Option Tree:=fun b=>match b with | 0=>C2H | _=>fun _=>none
theorem D2C:A7B true G26 (D35) Try.f130 B7o C0W C5o:=by
 rintro ⟨a0,⟨a1,_⟩⟩ hp
 change B1N a0 a1=true at hp
 unfold B1N at hp
 refine Eq.trans (b:=(let z1:=B2p a0 a1 (0:Int);cond (z1.1==0) (some (C1I ((z1.2.1),(z1.2.2)))) (cond (z1.1==1) (some (C1I ((⟨#[]⟩:ByteArray),false))) none))) (by kernel_rfl) ?_
 exact (M2 C1I hp (fun hp=>rfl) (fun hp=>(A7E hp fun _h=>rfl)))
theorem D4m:aPP 130 (A21 B7o C0W C5o):=pcD true G26 (hl1 (i:=0) (by kernel_rfl) D0w) D2C
noncomputable def S27:Tab:=Tab.add S26 130 (lift (A21 B7o C0W C5o))
noncomputable def D6W:FuncId→Bool:=qadd D6V 130
theorem G27:aPG S27 D6W:=G26.addQ D4m (cbl Try.f130) (fun _=>rfl)

abbrev D8e:List Sh:=.junk::D4x
abbrev D8C:List Sh:=.junk::D8e
abbrev D6e:List Sh:=.junk::.junk::D8f
abbrev u42:=((),u41)
abbrev u43:=((),u42)
abbrev u48:=((),(),u46)
abbrev D73:List AV:=.junk::D4t
abbrev D8w:List AV:=.junk::D73
abbrev D4u:List AV:=.junk::.junk::D74
abbrev B97:List PSh:=[.t tq6,.t tq4]
abbrev A9O:SS:=⟨(.t false tq6::.t false tq4::.junk::.junk::.junk::tI::D8e),[]⟩
abbrev B79:SS:=⟨(.junk::.junk::.junk::.junk::.t true .bool::D8C),[]⟩
abbrev C3D:SS:=⟨(.junk::D6e),[]⟩
noncomputable def C1P (x0:LBBe) (x1:Lq2) (x5:Int):=B2D x0 (((x1.getD x5.toNat ((0:Int),(bE,bE))).2).1)
noncomputable def C6G (x0:LBBe) (x1:Lq2) (x5:Int):RT A9O.den:=let z1:=x1.getD x5.toNat ((0:Int),(bE,bE));let z2:=decide (0≤x5∧x5<(x1.length:Int));let z3:=C1P x0 x1 x5;(.br (decide (x5<(x1.length:Int))) (.br z2 (.br ((z1.1) != (3:Int)) (.next ((x0,x1,(),(),(),wI (x5+(1:Int)),u42),())) (.br z2 (.br (B1N x0 ((z1.2).1)) (.br z2 (.br (!((z3.2)==(!(((z1.2).2).toList==bE.toList)))) (.done .ret B79 (((),(),(),(),false,u43),())) (.br z2 (.br (!((z3.1).toList==((z1.2).2).toList)) (.done .ret B79 (((),(),(),(),false,u43),())) (.next ((x0,x1,(),(),(),wI (x5+(1:Int)),u42),()))) .fail)) .fail) .fail) .fail)) .fail) (.done (.exit 0) C3D ((u48),())))
abbrev B23:=(LBBe)×Lq2×(Int)
abbrev B45:=Nat×(Bool)
def A9W:B45:=(99,(false:Bool))
noncomputable def B4c (x0:LBBe) (x1:Lq2) (x5:Int):B23 ⊕ B45:=let z1:=x1.getD x5.toNat ((0:Int),(bE,bE));let z2:=decide (0≤x5∧x5<(x1.length:Int));let z3:=C1P x0 x1 x5;(cond (decide (x5<(x1.length:Int))) (cond z2 (cond ((z1.1) != (3:Int)) (.inl (x0,x1,wI (x5+(1:Int)))) (cond z2 (cond (B1N x0 ((z1.2).1)) (cond z2 (cond (!((z3.2)==(!(((z1.2).2).toList==bE.toList)))) (.inr (0,false)) (cond z2 (cond (!((z3.1).toList==((z1.2).2).toList)) (.inr (0,false)) (.inl (x0,x1,wI (x5+(1:Int))))) (.inr A9W))) (.inr A9W)) (.inr A9W)) (.inr A9W))) (.inr A9W)) (.inr (1,(false:Bool))))
noncomputable def B3W (x0:LBBe) (x1:Lq2) (x5:Int):B45:=itX (fun v:B23=>B4c v.1 v.2.1 v.2.2) A9W (x0,x1,x5)
noncomputable def C0r (a:B45):CT:=(.br (a.1==0) (.done .ret B79 (((),(),(),(),a.2,u43),())) (.br (a.1==1) (.done (.exit 0) C3D ((u48),())) .fail))
noncomputable def D21 (x0:LBBe) (x1:Lq2) (x5:Int):CT:=C0r (B3W x0 x1 x5)
noncomputable abbrev C1n:A9O.den→RT A9O.den:=(fun d=>C6G d.1.1 d.1.2.1 d.1.2.2.2.2.2.1)
noncomputable def C2l:Code:=((D4 0 (A1l Try.f98)).getD 0 (0,.skip)).2
noncomputable abbrev C6w (v:B23):A9O.den:=((v.1,v.2.1,(),(),(),v.2.2,u42),())
theorem D2o:(∀ v:B23,(C6G v.1 v.2.1 v.2.2).val=A6D C6w C0r (B4c v.1 v.2.1 v.2.2))∧∀ a:B45,CEnd A9O.den (C0r a):=⟨fun v=>by repeat' first | apply A7G | rfl,fun a=>(A7t aCD (A7t aCD A7v))⟩
noncomputable def C6j (x0:LBBe) (x1:Lq2) (x5:Int):Option (Ex×St):=let z1:=(⟨((.t false tq6 x0)::(.t false tq4 x1)::.junk::.junk::.junk::(ti (wI (x5+(1:Int))))::D73),[],0,[]⟩:St);let z2:=x1.getD x5.toNat ((0:Int),(bE,bE));let z3:=decide (0≤x5∧x5<(x1.length:Int));let z4:=(⟨(.junk::.junk::.junk::.junk::(.t true .bool false)::D8w),[],0,[]⟩:St);let z5:=C1P x0 x1 x5;(cond (decide (x5<(x1.length:Int))) (cond z3 (cond ((z2.1) != (3:Int)) (some (.normal,z1)) (cond z3 (cond (B1N x0 ((z2.2).1)) (cond z3 (cond (!((z5.2)==(!(((z2.2).2).toList==bE.toList)))) (some (.ret,z4)) (cond z3 (cond (!((z5.1).toList==((z2.2).2).toList)) (some (.ret,z4)) (some (.normal,z1))) none)) none) none) none)) none) (some ((.exit 0),(⟨(.junk::D4u),[],0,[]⟩:St))))
theorem D0J:RdA G27 aLn 0 C2l A9O 0 [] (kepts [4] [(0,[])]) (fun d=>C6j d.1.1 d.1.2.1 d.1.2.2.2.2.2.1):=by
 intro d
 kernel_rfl
theorem D0Q:∀ d:A9O.den,(fun d=>C6j d.1.1 d.1.2.1 d.1.2.2.2.2.2.1) d=(C1n d).opt 0 []:=by
 intro d
 kernel_rfl
noncomputable abbrev C4U:St→Option Tree:=A9O.say 0 [] [] (fun d=>D21 d.1.1 d.1.2.1 d.1.2.2.2.2.2.1)
theorem D2d:aPL C4U C2l:=SS.wp2 hlz [] C1n D0J D0Q _ (fun d=>Runs.ofI2 (step:=C1n) C6w D2o rfl (d.1.1,d.1.2.1,d.1.2.2.2.2.2.1))
noncomputable def B80 (a0:LBBe) (a1:Lq2):Bool:=let z1:=B3W a0 a1 (0:Int);(cond (z1.1==0) (z1.2) true)
noncomputable abbrev C34 (r:Bool):AV×List AObj:=((.t true .bool r),[])
noncomputable abbrev C7V:H7 B97→AV×List AObj:=fun d=>C34 (B80 d.1 d.2.1)
noncomputable def B2B (a0:LBBe) (a1:Lq2):Bool:=let z1:=B3W a0 a1 (0:Int);cond (z1.1==0) true (z1.1==1)
noncomputable abbrev C3j:H7 B97→Bool:=fun d=>B2B d.1 d.2.1
noncomputable abbrev D4X:Nat→St→Option Tree:=fun b=>match b with | 0=>C4U | _=>fun _=>none
theorem D3L:A7B true G27 (D4X) Try.f98 B97 C3j C7V:=by
 rintro ⟨a0,⟨a1,_⟩⟩ hp
 change B2B a0 a1=true at hp
 unfold B2B at hp
 refine Eq.trans (b:=(let z1:=B3W a0 a1 (0:Int);cond (z1.1==0) (some (C34 (z1.2))) (cond (z1.1==1) (some (C34 true)) none))) (by kernel_rfl) ?_
 exact (M2 C34 hp (fun hp=>rfl) (fun hp=>(A7E hp fun _h=>rfl)))
theorem D5g:aPP 98 (A21 B97 C3j C7V):=pcD true G27 (hl1 (i:=0) (by kernel_rfl) D2d) D3L
noncomputable def S28:Tab:=Tab.add S27 98 (lift (A21 B97 C3j C7V))
noncomputable def D6X:FuncId→Bool:=qadd D6W 98
theorem G28:aPG S28 D6X:=G27.addQ D5g (cbl Try.f98) (fun _=>rfl)

abbrev D6A:List Sh:=.junk::.junk::.junk::.junk::.junk::.junk::.junk::D6e
abbrev D8i:List Sh:=.junk::.junk::D6A
abbrev D8F:List Sh:=.junk::.junk::.junk::.junk::D8i
abbrev u63:=((),(),(),(),(),(),(),(),(),(),(),(),(),(),(),u48)
abbrev u54:=((),(),(),(),(),(),u48)
abbrev u60:=((),(),(),(),(),(),u54)
abbrev D77:List AV:=.junk::.junk::.junk::.junk::.junk::.junk::.junk::.junk::.junk::D4u
abbrev D76:List AV:=.junk::.junk::.junk::.junk::.junk::.junk::.junk::D4u
abbrev D8A:List AV:=.junk::.junk::.junk::.junk::D77
abbrev D8h:List Sh:=.junk::.junk::.junk::.junk::.junk::.junk::D6e
abbrev u53:=((),(),(),(),(),u48)
abbrev D75:List AV:=.junk::.junk::.junk::.junk::.junk::.junk::D4u
abbrev B7p:List PSh:=[.t tq6,.t .str,.t .str]
noncomputable def B5w:Code:=((D4 0 (A1l Try.f139)).getD 0 (0,.skip)).2
noncomputable def B5x:Code:=((D4 0 (A1l Try.f139)).getD 1 (0,.skip)).2
abbrev A7Z:SS:=⟨(.t false tq6::.t true .str::.t true .str::.junk::.junk::.junk::.junk::.all 0 2::tI::D6A),[.rows 70 true J8]⟩
abbrev C2a:SS:=⟨(.junk::.junk::.junk::.junk::.junk::.junk::.all 0 2::D8i),[.rows 70 true J8]⟩
abbrev C2b:SS:=⟨(.t false tq6::.t true .str::.t true .str::D8F),[]⟩
noncomputable def C45 (x0:LBBe) (x1 x2:ByteArray) (x8:Int) (h0:LBBe):RT A7Z.den:=let z1:=decide (0≤x8∧x8<(h0.length:Int));let z2:=h0.getD x8.toNat (bE,bE);(.br (decide (x8<(h0.length:Int))) (.br z1 (.br ((z2.1).toList==x1.toList) (.br z1 (.done .ret C2a ((u63),(h0.set x8.toNat (z2.1,x2),()))) .fail) (.next ((x0,x1,x2,(),(),(),(),(),wI (x8+(1:Int)),u54),(h0,())))) .fail) (.done (.exit 0) C2b ((x0,x1,x2,u60),())))
abbrev B1z:=(LBBe)×(ByteArray)×(ByteArray)×(Int)×(LBBe)
abbrev B1w:=Nat×LBBe×LBBe×(ByteArray)×(ByteArray)
def B4R:B1w:=(99,([]:LBBe),([]:LBBe),(bE:ByteArray),(bE:ByteArray))
noncomputable def B2M (x0:LBBe) (x1 x2:ByteArray) (x8:Int) (h0:LBBe):B1z ⊕ B1w:=let z1:=decide (0≤x8∧x8<(h0.length:Int));let z2:=h0.getD x8.toNat (bE,bE);(cond (decide (x8<(h0.length:Int))) (cond z1 (cond ((z2.1).toList==x1.toList) (cond z1 (.inr (0,h0.set x8.toNat (z2.1,x2),([]:LBBe),(bE:ByteArray),(bE:ByteArray))) (.inr B4R)) (.inl (x0,x1,x2,wI (x8+(1:Int)),h0))) (.inr B4R)) (.inr (1,([]:LBBe),x0,x1,x2)))
noncomputable def B0r (x0:LBBe) (x1 x2:ByteArray) (x8:Int) (h0:LBBe):B1w:=itX (fun v:B1z=>B2M v.1 v.2.1 v.2.2.1 v.2.2.2.1 v.2.2.2.2) B4R (x0,x1,x2,x8,h0)
noncomputable def B8j (a:B1w):CT:=(.br (a.1==0) (.done .ret C2a ((u63),(a.2.1,()))) (.br (a.1==1) (.done (.exit 0) C2b ((a.2.2.1,a.2.2.2.1,a.2.2.2.2,u60),())) .fail))
noncomputable def D1v (x0:LBBe) (x1 x2:ByteArray) (x8:Int) (h0:LBBe):CT:=B8j (B0r x0 x1 x2 x8 h0)
noncomputable abbrev B4I {α:Sort _} (f:LBBe→ByteArray→ByteArray→Int→LBBe→α) (d:A7Z.den):α:=f d.1.1 d.1.2.1 d.1.2.2.1 d.1.2.2.2.2.2.2.2.2.1 d.2.1
noncomputable abbrev B88:A7Z.den→RT A7Z.den:=(B4I C45)
noncomputable abbrev C4x (v:B1z):A7Z.den:=((v.1,v.2.1,v.2.2.1,(),(),(),(),(),v.2.2.2.1,u54),(v.2.2.2.2,()))
theorem D0Y:(∀ v:B1z,(C45 v.1 v.2.1 v.2.2.1 v.2.2.2.1 v.2.2.2.2).val=A6D C4x B8j (B2M v.1 v.2.1 v.2.2.1 v.2.2.2.1 v.2.2.2.2))∧∀ a:B1w,CEnd A7Z.den (B8j a):=⟨fun v=>(A7G (A7G (A7G (A7G rfl rfl) rfl) rfl) rfl),fun a=>(A7t aCD (A7t aCD A7v))⟩
noncomputable def C4n (x0:LBBe) (x1 x2:ByteArray) (x8:Int) (h0:LBBe):Option (Ex×St):=let z1:=decide (0≤x8∧x8<(h0.length:Int));let z2:=h0.getD x8.toNat (bE,bE);(cond (decide (x8<(h0.length:Int))) (cond z1 (cond ((z2.1).toList==x1.toList) (cond z1 (some (.ret,(⟨(.junk::.junk::.junk::.junk::.junk::.junk::(.all 0 2)::D77),[(.rows 70 true J8 (h0.set x8.toNat (z2.1,x2)))],0,[]⟩:St))) none) (some (.normal,(⟨((.t false tq6 x0)::(.t true .str x1)::(.t true .str x2)::.junk::.junk::.junk::.junk::(.all 0 2)::(ti (wI (x8+(1:Int))))::D76),[(.rows 70 true J8 h0)],0,[]⟩:St)))) none) (some ((.exit 0),(⟨((.t false tq6 x0)::(.t true .str x1)::(.t true .str x2)::D8A),[],0,[]⟩:St))))
theorem C9g:RdA G28 aLn 0 B5w A7Z 0 [] (kepts [6] [(0,[0,1,2])]) (B4I C4n):=by
 intro d
 kernel_rfl
theorem C9j:∀ d:A7Z.den,(B4I C4n) d=(B88 d).opt 0 []:=by
 intro d
 kernel_rfl
noncomputable abbrev C2I:St→Option Tree:=A7Z.say 0 [] [] (B4I D1v)
theorem D0x:aPL C2I B5w:=SS.wp2 hlz [] B88 C9g C9j _ (fun d=>Runs.ofI2 (step:=B88) C4x D0Y rfl (d.1.1,d.1.2.1,d.1.2.2.1,d.1.2.2.2.2.2.2.2.2.1,d.2.1))
abbrev A70:SS:=⟨(.t false tq6::.t true .str::.t true .str::.junk::.junk::.junk::.junk::.junk::.junk::tI::D8h),[]⟩
abbrev B6K:SS:=⟨(.t false tq6::.t true .str::.t true .str::.junk::.junk::.junk::.junk::.junk::.junk::tI::D8h),[]⟩
noncomputable def C46 (x0:LBBe) (x1 x2:ByteArray) (x9:Int):RT A70.den:=let z1:=(x0.getD x9.toNat (bE,bE)).1;(.br (decide (x9<(x0.length:Int))) (.br (decide (0≤x9∧x9<(x0.length:Int))) (.br (Op.bytesLess z1.toList x1.toList||(z1.toList==x1.toList)) (.next ((x0,x1,x2,(),(),(),(),(),(),wI (x9+(1:Int)),u53),())) (.done (.exit 2) B6K ((x0,x1,x2,(),(),(),(),(),(),x9,u53),()))) .fail) (.done (.exit 2) B6K ((x0,x1,x2,(),(),(),(),(),(),x9,u53),())))
abbrev B1A:=(LBBe)×(ByteArray)×(ByteArray)×(Int)
abbrev B3F:=Nat×LBBe×(ByteArray)×(ByteArray)×(Int)
def B8r:B3F:=(99,([]:LBBe),(bE:ByteArray),(bE:ByteArray),((0:Int):Int))
noncomputable def B2N (x0:LBBe) (x1 x2:ByteArray) (x9:Int):B1A ⊕ B3F:=let z1:=(x0.getD x9.toNat (bE,bE)).1;(cond (decide (x9<(x0.length:Int))) (cond (decide (0≤x9∧x9<(x0.length:Int))) (cond (Op.bytesLess z1.toList x1.toList||(z1.toList==x1.toList)) (.inl (x0,x1,x2,wI (x9+(1:Int)))) (.inr (0,x0,x1,x2,x9))) (.inr B8r)) (.inr (0,x0,x1,x2,x9)))
noncomputable def B8D (x0:LBBe) (x1 x2:ByteArray) (x9:Int):B3F:=itX (fun v:B1A=>B2N v.1 v.2.1 v.2.2.1 v.2.2.2) B8r (x0,x1,x2,x9)
noncomputable def B8k (a:B3F):CT:=(.br (a.1==0) (.done (.exit 2) B6K ((a.2.1,a.2.2.1,a.2.2.2.1,(),(),(),(),(),(),a.2.2.2.2,u53),())) .fail)
noncomputable def D1w (x0:LBBe) (x1 x2:ByteArray) (x9:Int):CT:=B8k (B8D x0 x1 x2 x9)
noncomputable abbrev B4J {α:Sort _} (f:LBBe→ByteArray→ByteArray→Int→α) (d:A70.den):α:=f d.1.1 d.1.2.1 d.1.2.2.1 d.1.2.2.2.2.2.2.2.2.2.1
noncomputable abbrev B89:A70.den→RT A70.den:=(B4J C46)
noncomputable abbrev C4y (v:B1A):A70.den:=((v.1,v.2.1,v.2.2.1,(),(),(),(),(),(),v.2.2.2,u53),())
theorem D0Z:(∀ v:B1A,(C46 v.1 v.2.1 v.2.2.1 v.2.2.2).val=A6D C4y B8k (B2N v.1 v.2.1 v.2.2.1 v.2.2.2))∧∀ a:B3F,CEnd A70.den (B8k a):=⟨fun v=>(A7G (A7G (A7G rfl rfl) rfl) rfl),fun a=>(A7t aCD A7v)⟩
noncomputable def C4o (x0:LBBe) (x1 x2:ByteArray) (x9:Int):Option (Ex×St):=let z1:=(⟨((.t false tq6 x0)::(.t true .str x1)::(.t true .str x2)::.junk::.junk::.junk::.junk::.junk::.junk::(ti x9)::D75),[],0,[]⟩:St);let z2:=(x0.getD x9.toNat (bE,bE)).1;(cond (decide (x9<(x0.length:Int))) (cond (decide (0≤x9∧x9<(x0.length:Int))) (cond (Op.bytesLess z2.toList x1.toList||(z2.toList==x1.toList)) (some (.normal,(⟨((.t false tq6 x0)::(.t true .str x1)::(.t true .str x2)::.junk::.junk::.junk::.junk::.junk::.junk::(ti (wI (x9+(1:Int))))::D75),[],0,[]⟩:St))) (some ((.exit 2),z1))) none) (some ((.exit 2),z1)))
theorem C9h:RdA G28 aLn 2 B5x A70 0 [] (kepts [] [(2,[0,1,2,9])]) (B4J C4o):=by
 intro d
 kernel_rfl
theorem C9k:∀ d:A70.den,(B4J C4o) d=(B89 d).opt 0 []:=by
 intro d
 kernel_rfl
noncomputable abbrev C2J:St→Option Tree:=A70.say 0 [] [] (B4J D1w)
theorem D0y:aPL C2J B5x:=SS.wp2 hlz [] B89 C9h C9k _ (fun d=>Runs.ofI2 (step:=B89) C4y D0Z rfl (d.1.1,d.1.2.1,d.1.2.2.1,d.1.2.2.2.2.2.2.2.2.2.1))
noncomputable def B8E (a0:LBBe) (a1 a2:ByteArray):=let z1:=B0r a0 a1 a2 (0:Int) (([]:LBBe)++a0);B8D (z1.2.2.1) (z1.2.2.2.1) (z1.2.2.2.2) (0:Int)
noncomputable def C7m (a0:LBBe) (a1 a2:ByteArray):LBBe:=let z1:=B8E a0 a1 a2;let z2:=B0r a0 a1 a2 (0:Int) (([]:LBBe)++a0);(cond (z2.1==0) (z2.2.1) (((([]:LBBe)++(((z1.2.1).take (z1.2.2.2.2).toNat).drop (0:Int).toNat))++[((z1.2.2.1),(z1.2.2.2.1))])++(((z1.2.1).take (((z1.2.1).length:Nat):Int).toNat).drop (z1.2.2.2.2).toNat)))
noncomputable abbrev C1J (r:LBBe):AV×List AObj:=((.all 0 2),[(.rows 70 true J8 r)])
noncomputable abbrev C5p:H7 B7p→AV×List AObj:=fun d=>C1J (C7m d.1 d.2.1 d.2.2.1)
noncomputable def B1O (a0:LBBe) (a1 a2:ByteArray):Bool:=let z1:=B8E a0 a1 a2;let z2:=((z1.2.1).take (z1.2.2.2.2).toNat).drop (0:Int).toNat;let z3:=B0r a0 a1 a2 (0:Int) (([]:LBBe)++a0);(decide ((([]:LBBe).length+a0.length)*32≤MAXB))&&(cond (z3.1==0) true ((z3.1==1)&&((z1.1==0)&&((decide (0≤(0:Int)∧(0:Int)≤(z1.2.2.2.2)∧(z1.2.2.2.2)≤(((z1.2.1).length:Nat):Int)))&&((decide ((([]:LBBe).length+z2.length)*32≤MAXB))&&((decide (((([]:LBBe)++z2).length+[((z1.2.2.1),(z1.2.2.2.1))].length)*32≤MAXB))&&((decide (0≤(z1.2.2.2.2)∧(z1.2.2.2.2)≤(((z1.2.1).length:Nat):Int)∧(((z1.2.1).length:Nat):Int)≤(((z1.2.1).length:Nat):Int)))&&(decide ((((([]:LBBe)++z2)++[((z1.2.2.1),(z1.2.2.2.1))]).length+(((z1.2.1).take (((z1.2.1).length:Nat):Int).toNat).drop (z1.2.2.2.2).toNat).length)*32≤MAXB)))))))))
noncomputable abbrev C0X:H7 B7p→Bool:=fun d=>B1O d.1 d.2.1 d.2.2.1
noncomputable abbrev D36:Nat→St→Option Tree:=fun b=>match b with | 0=>C2I | 2=>C2J | _=>fun _=>none
theorem D2D:A7B false G28 (D36) Try.f139 B7p C0X C5p:=by
 rintro ⟨a0,⟨a1,⟨a2,_⟩⟩⟩ hp
 change B1O a0 a1 a2=true at hp
 unfold B1O at hp
 refine Eq.trans (b:=(let z1:=B8E a0 a1 a2;let z2:=((z1.2.1).take (z1.2.2.2.2).toNat).drop (0:Int).toNat;let z3:=B0r a0 a1 a2 (0:Int) (([]:LBBe)++a0);let z4:=((z1.2.1).take (((z1.2.1).length:Nat):Int).toNat).drop (z1.2.2.2.2).toNat;cond (decide ((([]:LBBe).length+a0.length)*32≤MAXB)) (cond (z3.1==0) (some (C1J (z3.2.1))) (cond (z3.1==1) (cond (z1.1==0) (cond (decide (0≤(0:Int)∧(0:Int)≤(z1.2.2.2.2)∧(z1.2.2.2.2)≤(((z1.2.1).length:Nat):Int))) (cond (decide ((([]:LBBe).length+z2.length)*32≤MAXB)) (cond (decide (((([]:LBBe)++z2).length+[((z1.2.2.1),(z1.2.2.2.1))].length)*32≤MAXB)) (cond (decide (0≤(z1.2.2.2.2)∧(z1.2.2.2.2)≤(((z1.2.1).length:Nat):Int)∧(((z1.2.1).length:Nat):Int)≤(((z1.2.1).length:Nat):Int))) (cond (decide ((((([]:LBBe)++z2)++[((z1.2.2.1),(z1.2.2.2.1))]).length+z4.length)*32≤MAXB)) (some (C1J (((([]:LBBe)++z2)++[((z1.2.2.1),(z1.2.2.2.1))])++z4))) none) none) none) none) none) none) none)) none)) (by kernel_rfl) ?_
 exact (A7C hp fun hp=>(M2 C1J hp (fun hp=>rfl) (fun hp=>(A7C hp fun hp=>(A7C hp fun hp=>(A7C hp fun hp=>(A7C hp fun hp=>(A7C hp fun hp=>(A7C hp fun hp=>(A7E hp fun _h=>rfl))))))))))
theorem D4n:aPP 139 (A21 B7p C0X C5p):=pcD false G28 (by
  rw [show D4 0 (A1l Try.f139)=[(0,B5w),(2,B5x)] by kernel_rfl];intro p hp;simp only [List.mem_cons,List.mem_nil_iff,or_false] at hp
  rcases hp with rfl | rfl
  ·exact D0x
  ·exact D0y) D2D
noncomputable def S29:Tab:=Tab.add S28 139 (lift (A21 B7p C0X C5p))
noncomputable def D6Y:FuncId→Bool:=D6X
theorem G29:aPG S29 D6Y:=G28.add D4n (cbl Try.f139) (by kernel_rfl)

abbrev u30:=((),(),(),u27)
abbrev B7n:List PSh:=[.t tq6,.t .str]
abbrev A9M:SS:=⟨(.t false tq6::.t true .str::.junk::.junk::.junk::.all 0 2::tI::D0o),[.rows 70 true J8]⟩
abbrev C17:SS:=⟨(.junk::.junk::.junk::.junk::.junk::.all 0 2::D6a),[.rows 70 true J8]⟩
noncomputable def C43 (x0:LBBe) (x1:ByteArray) (x6:Int) (h0:LBBe):RT A9M.den:=let z1:=x0.getD x6.toNat (bE,bE);let z2:=decide (0≤x6∧x6<(x0.length:Int));(.br (decide (x6<(x0.length:Int))) (.br z2 (.br (!((z1.1).toList==x1.toList)) (.br z2 (.br (decide ((h0.length+([(z1.1,z1.2)]).length)*32≤MAXB)) (.next ((x0,x1,(),(),(),(),wI (x6+(1:Int)),u23),(h0++([(z1.1,z1.2)]),()))) .fail) .fail) (.next ((x0,x1,(),(),(),(),wI (x6+(1:Int)),u23),(h0,())))) .fail) (.done (.exit 0) C17 ((u30),(h0,()))))
abbrev B3O:=(LBBe)×(ByteArray)×(Int)×(LBBe)
abbrev B3E:=Nat×(LBBe)
def B4P:B3E:=(99,([]:LBBe))
noncomputable def B4X (x0:LBBe) (x1:ByteArray) (x6:Int) (h0:LBBe):B3O ⊕ B3E:=let z1:=x0.getD x6.toNat (bE,bE);let z2:=decide (0≤x6∧x6<(x0.length:Int));(cond (decide (x6<(x0.length:Int))) (cond z2 (cond (!((z1.1).toList==x1.toList)) (cond z2 (cond (decide ((h0.length+([(z1.1,z1.2)]).length)*32≤MAXB)) (.inl (x0,x1,wI (x6+(1:Int)),h0++([(z1.1,z1.2)]))) (.inr B4P)) (.inr B4P)) (.inl (x0,x1,wI (x6+(1:Int)),h0))) (.inr B4P)) (.inr (0,h0)))
noncomputable def B2o (x0:LBBe) (x1:ByteArray) (x6:Int) (h0:LBBe):B3E:=itX (fun v:B3O=>B4X v.1 v.2.1 v.2.2.1 v.2.2.2) B4P (x0,x1,x6,h0)
noncomputable def B8h (a:B3E):CT:=(.br (a.1==0) (.done (.exit 0) C17 ((u30),(a.2,()))) .fail)
noncomputable def D1t (x0:LBBe) (x1:ByteArray) (x6:Int) (h0:LBBe):CT:=B8h (B2o x0 x1 x6 h0)
noncomputable abbrev B86:A9M.den→RT A9M.den:=(fun d=>C43 d.1.1 d.1.2.1 d.1.2.2.2.2.2.2.1 d.2.1)
noncomputable def C0i:Code:=((D4 0 (A1l Try.f140)).getD 0 (0,.skip)).2
noncomputable abbrev C4v (v:B3O):A9M.den:=((v.1,v.2.1,(),(),(),(),v.2.2.1,u23),(v.2.2.2,()))
theorem D0W:(∀ v:B3O,(C43 v.1 v.2.1 v.2.2.1 v.2.2.2).val=A6D C4v B8h (B4X v.1 v.2.1 v.2.2.1 v.2.2.2))∧∀ a:B3E,CEnd A9M.den (B8h a):=⟨fun v=>(A7G (A7G (A7G (A7G (A7G rfl rfl) rfl) rfl) rfl) rfl),fun a=>(A7t aCD A7v)⟩
theorem C9e:RdA G29 aLn 0 C0i A9M 0 [] (kepts [] [(0,[5])]) (fun d=>(B86 d).opt 0 []):=by
 intro d
 kernel_rfl
noncomputable abbrev C2G:St→Option Tree:=A9M.say 0 [] [] (fun d=>D1t d.1.1 d.1.2.1 d.1.2.2.2.2.2.2.1 d.2.1)
theorem D0v:aPL C2G C0i:=SS.wp2 hlz [] B86 C9e (fun d=>rfl) _ (fun d=>Runs.ofI2 (step:=B86) C4v D0W rfl (d.1.1,d.1.2.1,d.1.2.2.2.2.2.2.1,d.2.1))
noncomputable def C7l (a0:LBBe) (a1:ByteArray):LBBe:=((B2o a0 a1 (0:Int) ([]:LBBe)).2)
noncomputable abbrev C9B (r:LBBe):AV×List AObj:=((.all 0 2),[(.rows 70 true J8 r)])
noncomputable abbrev C5n:H7 B7n→AV×List AObj:=fun d=>C9B (C7l d.1 d.2.1)
noncomputable def B1M (a0:LBBe) (a1:ByteArray):Bool:=((B2o a0 a1 (0:Int) ([]:LBBe)).1==0)
noncomputable abbrev C0V:H7 B7n→Bool:=fun d=>B1M d.1 d.2.1
noncomputable abbrev D34:Nat→St→Option Tree:=fun b=>match b with | 0=>C2G | _=>fun _=>none
theorem D2B:A7B false G29 (D34) Try.f140 B7n C0V C5n:=by
 rintro ⟨a0,⟨a1,_⟩⟩ hp
 change B1M a0 a1=true at hp
 unfold B1M at hp
 refine Eq.trans (b:=(let z1:=B2o a0 a1 (0:Int) ([]:LBBe);cond (z1.1==0) (some (C9B (z1.2))) none)) (by kernel_rfl) ?_
 exact (A7E hp fun _h=>rfl)
theorem D4l:aPP 140 (A21 B7n C0V C5n):=pcD false G29 (hl1 (i:=0) (by kernel_rfl) D0v) D2B
noncomputable def S30:Tab:=Tab.add S29 140 (lift (A21 B7n C0V C5n))
noncomputable def D6Z:FuncId→Bool:=D6Y
theorem G30:aPG S30 D6Z:=G29.add D4l (cbl Try.f140) (by kernel_rfl)

abbrev B95:List PSh:=[.t tq6,.t tq4]
abbrev A9L:SS:=⟨(.junk::.t false tq4::.junk::.junk::.junk::.all 0 2::tI::D5y),[.rows 70 true J8]⟩
abbrev C3A:SS:=⟨(.junk::.junk::.junk::.junk::.junk::.all 0 2::D6z),[.rows 70 true J8]⟩
noncomputable def C1O (x1:Lq2) (x6:Int) (h0:LBBe):=let z1:=(x1.getD x6.toNat ((0:Int),(bE,bE))).2;C7m h0 (z1.1) (z1.2)
noncomputable def C1R (x1:Lq2) (x6:Int) (h0:LBBe):=C7l h0 (((x1.getD x6.toNat ((0:Int),(bE,bE))).2).1)
noncomputable def C6F (x1:Lq2) (x6:Int) (h0:LBBe):RT A9L.den:=let z1:=x1.getD x6.toNat ((0:Int),(bE,bE));let z2:=decide (0≤x6∧x6<(x1.length:Int));(.br (decide (x6<(x1.length:Int))) (.br z2 (.br ((z1.1)==(1:Int)) (.br z2 (.br z2 (.br (B1O h0 ((z1.2).1) ((z1.2).2)) (.next (((),x1,(),(),(),(),wI (x6+(1:Int)),u39),((C1O x1 x6 h0),()))) .fail) .fail) .fail) (.br ((z1.1)==(2:Int)) (.br z2 (.br (B1M h0 ((z1.2).1)) (.next (((),x1,(),(),(),(),wI (x6+(1:Int)),u39),((C1R x1 x6 h0),()))) .fail) .fail) (.next (((),x1,(),(),(),(),wI (x6+(1:Int)),u39),(h0,()))))) .fail) (.done (.exit 0) C3A ((u46),(h0,()))))
abbrev B22:=(Lq2)×(Int)×(LBBe)
abbrev B2V:=Nat×(LBBe)
def A8J:B2V:=(99,([]:LBBe))
noncomputable def B4b (x1:Lq2) (x6:Int) (h0:LBBe):B22 ⊕ B2V:=let z1:=x1.getD x6.toNat ((0:Int),(bE,bE));let z2:=decide (0≤x6∧x6<(x1.length:Int));(cond (decide (x6<(x1.length:Int))) (cond z2 (cond ((z1.1)==(1:Int)) (cond z2 (cond z2 (cond (B1O h0 ((z1.2).1) ((z1.2).2)) (.inl (x1,wI (x6+(1:Int)),(C1O x1 x6 h0))) (.inr A8J)) (.inr A8J)) (.inr A8J)) (cond ((z1.1)==(2:Int)) (cond z2 (cond (B1M h0 ((z1.2).1)) (.inl (x1,wI (x6+(1:Int)),(C1R x1 x6 h0))) (.inr A8J)) (.inr A8J)) (.inl (x1,wI (x6+(1:Int)),h0)))) (.inr A8J)) (.inr (0,h0)))
noncomputable def B3V (x1:Lq2) (x6:Int) (h0:LBBe):B2V:=itX (fun v:B22=>B4b v.1 v.2.1 v.2.2) A8J (x1,x6,h0)
noncomputable def C0q (a:B2V):CT:=(.br (a.1==0) (.done (.exit 0) C3A ((u46),(a.2,()))) .fail)
noncomputable def D20 (x1:Lq2) (x6:Int) (h0:LBBe):CT:=C0q (B3V x1 x6 h0)
noncomputable abbrev C1m:A9L.den→RT A9L.den:=(fun d=>C6F d.1.2.1 d.1.2.2.2.2.2.2.1 d.2.1)
noncomputable def C2j:Code:=((D4 0 (A1l Try.f125)).getD 0 (0,.skip)).2
noncomputable abbrev C6v (v:B22):A9L.den:=(((),v.1,(),(),(),(),v.2.1,u39),(v.2.2,()))
theorem D2n:(∀ v:B22,(C6F v.1 v.2.1 v.2.2).val=A6D C6v C0q (B4b v.1 v.2.1 v.2.2))∧∀ a:B2V,CEnd A9L.den (C0q a):=⟨fun v=>by repeat' first | apply A7G | rfl,fun a=>(A7t aCD A7v)⟩
noncomputable def C6i (x1:Lq2) (x6:Int) (h0:LBBe):Option (Ex×St):=let z1:=x1.getD x6.toNat ((0:Int),(bE,bE));let z2:=decide (0≤x6∧x6<(x1.length:Int));let z3:=ti (wI (x6+(1:Int)));(cond (decide (x6<(x1.length:Int))) (cond z2 (cond ((z1.1)==(1:Int)) (cond z2 (cond z2 (cond (B1O h0 ((z1.2).1) ((z1.2).2)) (some (.normal,(⟨(.junk::(.t false tq4 x1)::.junk::.junk::.junk::(.all 0 2)::z3::D3k),[(.rows 70 true J8 (C1O x1 x6 h0))],0,[]⟩:St))) none) none) none) (cond ((z1.1)==(2:Int)) (cond z2 (cond (B1M h0 ((z1.2).1)) (some (.normal,(⟨(.junk::(.t false tq4 x1)::.junk::.junk::.junk::(.all 0 2)::z3::D3k),[(.rows 70 true J8 (C1R x1 x6 h0))],0,[]⟩:St))) none) none) (some (.normal,(⟨(.junk::(.t false tq4 x1)::.junk::.junk::.junk::(.all 0 2)::z3::D3k),[(.rows 70 true J8 h0)],0,[]⟩:St))))) none) (some ((.exit 0),(⟨(.junk::.junk::.junk::.junk::.junk::(.all 0 2)::D6x),[(.rows 70 true J8 h0)],0,[]⟩:St))))
theorem D0H:RdA G30 aLn 0 C2j A9L 0 [] (kepts [] [(0,[5])]) (fun d=>C6i d.1.2.1 d.1.2.2.2.2.2.2.1 d.2.1):=by
 intro d
 kernel_rfl
theorem D0P:∀ d:A9L.den,(fun d=>C6i d.1.2.1 d.1.2.2.2.2.2.2.1 d.2.1) d=(C1m d).opt 0 []:=by
 intro d
 kernel_rfl
noncomputable abbrev C4S:St→Option Tree:=A9L.say 0 [] [] (fun d=>D20 d.1.2.1 d.1.2.2.2.2.2.2.1 d.2.1)
theorem D2b:aPL C4S C2j:=SS.wp2 hlz [] C1m D0H D0P _ (fun d=>Runs.ofI2 (step:=C1m) C6v D2n rfl (d.1.2.1,d.1.2.2.2.2.2.2.1,d.2.1))
noncomputable def B8Z (a0:LBBe) (a1:Lq2):LBBe:=((B3V a1 (0:Int) (([]:LBBe)++a0)).2)
noncomputable abbrev D1R (r:LBBe):AV×List AObj:=((.all 0 2),[(.rows 70 true J8 r)])
noncomputable abbrev C7T:H7 B95→AV×List AObj:=fun d=>D1R (B8Z d.1 d.2.1)
noncomputable def B2A (a0:LBBe) (a1:Lq2):Bool:=(decide ((([]:LBBe).length+a0.length)*32≤MAXB))&&((B3V a1 (0:Int) (([]:LBBe)++a0)).1==0)
noncomputable abbrev C3h:H7 B95→Bool:=fun d=>B2A d.1 d.2.1
noncomputable abbrev D4V:Nat→St→Option Tree:=fun b=>match b with | 0=>C4S | _=>fun _=>none
theorem D3J:A7B false G30 (D4V) Try.f125 B95 C3h C7T:=by
 rintro ⟨a0,⟨a1,_⟩⟩ hp
 change B2A a0 a1=true at hp
 unfold B2A at hp
 refine Eq.trans (b:=(let z1:=B3V a1 (0:Int) (([]:LBBe)++a0);cond (decide ((([]:LBBe).length+a0.length)*32≤MAXB)) (cond (z1.1==0) (some (D1R (z1.2))) none) none)) (by kernel_rfl) ?_
 exact (A7C hp fun hp=>(A7E hp fun _h=>rfl))
theorem D5e:aPP 125 (A21 B95 C3h C7T):=pcD false G30 (hl1 (i:=0) (by kernel_rfl) D2b) D3J
noncomputable def S31:Tab:=Tab.add S30 125 (lift (A21 B95 C3h C7T))
noncomputable def D60:FuncId→Bool:=D6Z
theorem G31:aPG S31 D60:=G30.add D5e (cbl Try.f125) (by kernel_rfl)

abbrev C1D:SS:=⟨[.ptr 0 0 1 0,.agg [.t true (.int .i64),.t true (.int .i64),.t false tq4]],[.box [.all 1 2,.all 2 3,.nil],.rows 70 true J8,.rows 32 true tq5]⟩
noncomputable def D6C (x1_0 x1_1:Int) (x1_2:Lq2) (h1:LBBe) (h2:Lq1):Bool×LBBe×Lq1×List Int:=let z3:=B9H h2 x1_1;let z2:=B8Z h1 (((h2.getD (z3.toNat) ((0:Int),((0:Int),[]))).2).2);let z4:=([]:List Int);let z5:=A8e x1_0 x1_1 x1_2;let z6:=([]:Lq1)++(h2.take (z3.toNat));let z7:=wI (z3+(1:Int));let z1:=(h2.drop (z7.toNat)).take ((h2.length:Int).toNat - z7.toNat);(cond (!(B2E x1_0 x1_1 x1_2)) (false,h1,h2,z4) (cond (x1_0==(1:Int)) (cond (B3l [] x1_1) (false,h1,h2,z4) (cond (B0B h2 x1_2) (false,h1,h2,z4) (cond (!(B80 h1 x1_2)) (false,h1,h2,z4) (true,h1,h2++[((z5.1),((z5.2.1),(z5.2.2)))],[x1_1])))) (cond (decide (z3<(0:Int))) (cond (x1_0==(3:Int)) (!(B3l [] x1_1),h1,h2,[x1_1]) (false,h1,h2,[x1_1])) (cond (x1_0==(2:Int)) (decide (((z2.length:Nat):Int)≤(60:Int)),z2,z6++z1,z4) (decide ((h1.length:Int)≤(60:Int)),h1,z6++z1,z4)))))
noncomputable abbrev A0r (r:Bool×LBBe×Lq1×List Int):AV×List AObj×List Nat:=((.t true .bool r.1),[(.box [(.all 1 2),(.all 2 3),(.all 3 1)]),(.rows 70 true J8 r.2.1),(.rows 32 true tq5 r.2.2.1),(.rows 3 true (.int .i64) r.2.2.2)],[1,2])
noncomputable abbrev D1S:C1D.den→AV×List AObj×List Nat:=fun d=>A0r (D6C d.1.2.1.1 d.1.2.1.2.1 d.1.2.1.2.2.1 d.2.2.1 d.2.2.2.1)
noncomputable def C8i (x1_0 x1_1:Int) (x1_2:Lq2) (h1:LBBe) (h2:Lq1):Bool:=let z2:=B9H h2 x1_1;let z3:=wI (z2+(1:Int));let z4:=decide ([x1_1].length*8≤MAXB);let z5:=A8e x1_0 x1_1 x1_2;let z6:=h2.take (z2.toNat);let z1:=(decide (0≤(0:Int)∧(0:Int)≤z2∧z2≤(h2.length:Int)))&&((decide (0≤z3∧z3≤(h2.length:Int)∧(h2.length:Int)≤(h2.length:Int)))&&((decide ((([]:Lq1).length+z6.length)*40≤MAXB))&&(decide (((([]:Lq1)++z6).length+((h2.drop (z3.toNat)).take ((h2.length:Int).toNat - z3.toNat)).length)*40≤MAXB))));(B4T h2 x1_1)&&((B3Z x1_0 x1_1 x1_2)&&(cond (!(B2E x1_0 x1_1 x1_2)) true (cond (x1_0==(1:Int)) ((A8A [] x1_1)&&(cond (B3l [] x1_1) true ((A78 h2 x1_2)&&(cond (B0B h2 x1_2) true ((B2B h1 x1_2)&&(cond (!(B80 h1 x1_2)) true ((U1 x1_0 x1_1 x1_2)&&((decide ((h2.length+[((z5.1),((z5.2.1),(z5.2.2)))].length)*40≤MAXB))&&z4)))))))) (cond (decide (z2<(0:Int))) (cond (x1_0==(3:Int)) ((A8A [] x1_1)&&z4) z4) (cond (x1_0==(2:Int)) ((decide (0≤z2∧z2<(h2.length:Int)))&&((B2A h1 (((h2.getD (z2.toNat) ((0:Int),((0:Int),[]))).2).2))&&z1)) z1)))))
noncomputable abbrev C8g:C1D.den→Bool:=fun d=>C8i d.1.2.1.1 d.1.2.1.2.1 d.1.2.1.2.2.1 d.2.2.1 d.2.2.2.1
theorem D3P:A7z false [] [1,2] [(0,0,1,70,J8),(0,1,2,32,tq5),(0,2,99999,3,(.int .i64))] G31 aLn Try.f86 C1D C8g D1S:=by
 rintro ⟨⟨_,⟨x1_0,x1_1,x1_2,_⟩,_⟩,⟨⟨_,_,_,_⟩,h1,h2,_⟩⟩ hp
 change C8i x1_0 x1_1 x1_2 h1 h2=true at hp
 unfold C8i at hp
 refine Eq.trans (b:=(let z2:=B9H h2 x1_1;let z1:=wI (z2+(1:Int));let z3:=(h2.drop (z1.toNat)).take ((h2.length:Int).toNat - z1.toNat);let z4:=A8e x1_0 x1_1 x1_2;let z6:=((h2.getD (z2.toNat) ((0:Int),((0:Int),[]))).2).2;let z8:=decide (0≤z1∧z1≤(h2.length:Int)∧(h2.length:Int)≤(h2.length:Int));let z10:=decide ([x1_1].length*8≤MAXB);let z11:=decide (0≤(0:Int)∧(0:Int)≤z2∧z2≤(h2.length:Int));let z13:=([]:List Int);let z5:=A0r (false,h1,h2,z13);let z14:=h2.take (z2.toNat);let z7:=([]:Lq1)++z14;let z9:=decide ((([]:Lq1).length+z14.length)*40≤MAXB);let z12:=decide ((z7.length+z3.length)*40≤MAXB);cond (B4T h2 x1_1) (cond (B3Z x1_0 x1_1 x1_2) (cond (!(B2E x1_0 x1_1 x1_2)) (some z5) (cond (x1_0==(1:Int)) (cond (A8A [] x1_1) (cond (B3l [] x1_1) (some z5) (cond (A78 h2 x1_2) (cond (B0B h2 x1_2) (some z5) (cond (B2B h1 x1_2) (cond (!(B80 h1 x1_2)) (some z5) (cond (U1 x1_0 x1_1 x1_2) (cond (decide ((h2.length+[((z4.1),((z4.2.1),(z4.2.2)))].length)*40≤MAXB)) (cond z10 (some (A0r (true,h1,h2++[((z4.1),((z4.2.1),(z4.2.2)))],[x1_1]))) none) none) none)) none)) none)) none) (cond (decide (z2<(0:Int))) (cond (x1_0==(3:Int)) (cond (A8A [] x1_1) (cond z10 (some (A0r (!(B3l [] x1_1),h1,h2,[x1_1]))) none) none) (cond z10 (some (A0r (false,h1,h2,[x1_1]))) none)) (cond (x1_0==(2:Int)) (cond (decide (0≤z2∧z2<(h2.length:Int))) (cond (B2A h1 z6) (cond z11 (cond z8 (cond z9 (cond z12 (some (A0r (decide ((((B8Z h1 z6).length:Nat):Int)≤(60:Int)),(B8Z h1 z6),z7++z3,z13))) none) none) none) none) none) none) (cond z11 (cond z8 (cond z9 (cond z12 (some (A0r (decide ((h1.length:Int)≤(60:Int)),h1,z7++z3,z13))) none) none) none) none))))) none) none)) (by kernel_rfl) ?_
 exact (A7C hp fun hp=>(A7C hp fun hp=>(M2 A0r hp (fun hp=>rfl) (fun hp=>(M2 A0r hp (fun hp=>(A7C hp fun hp=>(M2 A0r hp (fun hp=>rfl) (fun hp=>(A7C hp fun hp=>(M2 A0r hp (fun hp=>rfl) (fun hp=>(A7C hp fun hp=>(M2 A0r hp (fun hp=>rfl) (fun hp=>(A7C hp fun hp=>(A7C hp fun hp=>(A7E hp fun _h=>rfl))))))))))))) (fun hp=>(M2 A0r hp (fun hp=>(M2 A0r hp (fun hp=>(A7C hp fun hp=>(A7E hp fun _h=>rfl))) (fun hp=>(A7E hp fun _h=>rfl)))) (fun hp=>(M2 A0r hp (fun hp=>(A7C hp fun hp=>(A7C hp fun hp=>(A7C hp fun hp=>(A7C hp fun hp=>(A7C hp fun hp=>(A7E hp fun _h=>rfl))))))) (fun hp=>(A7C hp fun hp=>(A7C hp fun hp=>(A7C hp fun hp=>(A7E hp fun _h=>rfl))))))))))))))
noncomputable abbrev C8d:=win E8 (msum C1D C8g D1S)
theorem D1I:aPM 86 C8d:=(mcE false [] [1,2] [(0,0,1,70,J8),(0,1,2,32,tq5),(0,2,99999,3,(.int .i64))]  G31 hlz D3P).win E8
noncomputable def S32:Tab:=Tab.add S31 86 (C8d)
noncomputable def D61:FuncId→Bool:=D60
theorem G32:aPG S32 D61:=G31.addM D1I (A7d _) (cbl Try.f86) (by kernel_rfl)

abbrev B4F:SS:=⟨[.ptr 0 0 1 0,.agg [.t true (.int .i64),.t true (.int .i64),.t false tq4]],[.box [.all 1 2,.all 2 3,.all 3 1],.rows 70 true J8,.rows 32 true tq5,.rows 3 true (.int .i64)]⟩
noncomputable def B70 (x1_0 x1_1:Int) (x1_2:Lq2) (h1:LBBe) (h2:Lq1) (h3:List Int):Bool×LBBe×Lq1×List Int:=let z3:=B9H h2 x1_1;let z2:=B8Z h1 (((h2.getD (z3.toNat) ((0:Int),((0:Int),[]))).2).2);let z4:=A8e x1_0 x1_1 x1_2;let z5:=([]:Lq1)++(h2.take (z3.toNat));let z6:=wI (z3+(1:Int));let z1:=(h2.drop (z6.toNat)).take ((h2.length:Int).toNat - z6.toNat);(cond (!(B2E x1_0 x1_1 x1_2)) (false,h1,h2,h3) (cond (x1_0==(1:Int)) (cond (B3l h3 x1_1) (false,h1,h2,h3) (cond (B0B h2 x1_2) (false,h1,h2,h3) (cond (!(B80 h1 x1_2)) (false,h1,h2,h3) (true,h1,h2++[((z4.1),((z4.2.1),(z4.2.2)))],h3++[x1_1])))) (cond (decide (z3<(0:Int))) (cond (x1_0==(3:Int)) (!(B3l h3 x1_1),h1,h2,h3++[x1_1]) (false,h1,h2,h3++[x1_1])) (cond (x1_0==(2:Int)) (decide (((z2.length:Nat):Int)≤(60:Int)),z2,z5++z1,h3) (decide ((h1.length:Int)≤(60:Int)),h1,z5++z1,h3)))))
noncomputable abbrev O8 (r:Bool×LBBe×Lq1×List Int):AV×List AObj×List Nat:=((.t true .bool r.1),[(.box [(.all 1 2),(.all 2 3),(.all 3 1)]),(.rows 70 true J8 r.2.1),(.rows 32 true tq5 r.2.2.1),(.rows 3 true (.int .i64) r.2.2.2)],[1,2,3])
noncomputable abbrev C57:B4F.den→AV×List AObj×List Nat:=fun d=>O8 (B70 d.1.2.1.1 d.1.2.1.2.1 d.1.2.1.2.2.1 d.2.2.1 d.2.2.2.1 d.2.2.2.2.1)
noncomputable def A8K (x1_0 x1_1:Int) (x1_2:Lq2) (h1:LBBe) (h2:Lq1) (h3:List Int):Bool:=let z2:=B9H h2 x1_1;let z3:=wI (z2+(1:Int));let z4:=decide ((h3.length+[x1_1].length)*8≤MAXB);let z5:=A8e x1_0 x1_1 x1_2;let z6:=h2.take (z2.toNat);let z1:=(decide (0≤(0:Int)∧(0:Int)≤z2∧z2≤(h2.length:Int)))&&((decide (0≤z3∧z3≤(h2.length:Int)∧(h2.length:Int)≤(h2.length:Int)))&&((decide ((([]:Lq1).length+z6.length)*40≤MAXB))&&(decide (((([]:Lq1)++z6).length+((h2.drop (z3.toNat)).take ((h2.length:Int).toNat - z3.toNat)).length)*40≤MAXB))));(B4T h2 x1_1)&&((B3Z x1_0 x1_1 x1_2)&&(cond (!(B2E x1_0 x1_1 x1_2)) true (cond (x1_0==(1:Int)) ((A8A h3 x1_1)&&(cond (B3l h3 x1_1) true ((A78 h2 x1_2)&&(cond (B0B h2 x1_2) true ((B2B h1 x1_2)&&(cond (!(B80 h1 x1_2)) true ((U1 x1_0 x1_1 x1_2)&&((decide ((h2.length+[((z5.1),((z5.2.1),(z5.2.2)))].length)*40≤MAXB))&&z4)))))))) (cond (decide (z2<(0:Int))) (cond (x1_0==(3:Int)) ((A8A h3 x1_1)&&z4) z4) (cond (x1_0==(2:Int)) ((decide (0≤z2∧z2<(h2.length:Int)))&&((B2A h1 (((h2.getD (z2.toNat) ((0:Int),((0:Int),[]))).2).2))&&z1)) z1)))))
noncomputable abbrev C2A:B4F.den→Bool:=fun d=>A8K d.1.2.1.1 d.1.2.1.2.1 d.1.2.1.2.2.1 d.2.2.1 d.2.2.2.1 d.2.2.2.2.1
theorem C9u:A7z false [] [1,2,3] [(0,0,1,70,J8),(0,1,2,32,tq5)] G32 aLn Try.f86 B4F C2A C57:=by
 rintro ⟨⟨_,⟨x1_0,x1_1,x1_2,_⟩,_⟩,⟨⟨_,_,_,_⟩,h1,h2,h3,_⟩⟩ hp
 change A8K x1_0 x1_1 x1_2 h1 h2 h3=true at hp
 unfold A8K at hp
 refine Eq.trans (b:=(let z2:=B9H h2 x1_1;let z1:=wI (z2+(1:Int));let z3:=(h2.drop (z1.toNat)).take ((h2.length:Int).toNat - z1.toNat);let z4:=A8e x1_0 x1_1 x1_2;let z5:=((h2.getD (z2.toNat) ((0:Int),((0:Int),[]))).2).2;let z7:=O8 (false,h1,h2,h3);let z8:=decide ((h3.length+[x1_1].length)*8≤MAXB);let z9:=decide (0≤z1∧z1≤(h2.length:Int)∧(h2.length:Int)≤(h2.length:Int));let z11:=decide (0≤(0:Int)∧(0:Int)≤z2∧z2≤(h2.length:Int));let z13:=h2.take (z2.toNat);let z6:=([]:Lq1)++z13;let z10:=decide ((([]:Lq1).length+z13.length)*40≤MAXB);let z12:=decide ((z6.length+z3.length)*40≤MAXB);cond (B4T h2 x1_1) (cond (B3Z x1_0 x1_1 x1_2) (cond (!(B2E x1_0 x1_1 x1_2)) (some z7) (cond (x1_0==(1:Int)) (cond (A8A h3 x1_1) (cond (B3l h3 x1_1) (some z7) (cond (A78 h2 x1_2) (cond (B0B h2 x1_2) (some z7) (cond (B2B h1 x1_2) (cond (!(B80 h1 x1_2)) (some z7) (cond (U1 x1_0 x1_1 x1_2) (cond (decide ((h2.length+[((z4.1),((z4.2.1),(z4.2.2)))].length)*40≤MAXB)) (cond z8 (some (O8 (true,h1,h2++[((z4.1),((z4.2.1),(z4.2.2)))],h3++[x1_1]))) none) none) none)) none)) none)) none) (cond (decide (z2<(0:Int))) (cond (x1_0==(3:Int)) (cond (A8A h3 x1_1) (cond z8 (some (O8 (!(B3l h3 x1_1),h1,h2,h3++[x1_1]))) none) none) (cond z8 (some (O8 (false,h1,h2,h3++[x1_1]))) none)) (cond (x1_0==(2:Int)) (cond (decide (0≤z2∧z2<(h2.length:Int))) (cond (B2A h1 z5) (cond z11 (cond z9 (cond z10 (cond z12 (some (O8 (decide ((((B8Z h1 z5).length:Nat):Int)≤(60:Int)),(B8Z h1 z5),z6++z3,h3))) none) none) none) none) none) none) (cond z11 (cond z9 (cond z10 (cond z12 (some (O8 (decide ((h1.length:Int)≤(60:Int)),h1,z6++z3,h3))) none) none) none) none))))) none) none)) (by kernel_rfl) ?_
 exact (A7C hp fun hp=>(A7C hp fun hp=>(M2 O8 hp (fun hp=>rfl) (fun hp=>(M2 O8 hp (fun hp=>(A7C hp fun hp=>(M2 O8 hp (fun hp=>rfl) (fun hp=>(A7C hp fun hp=>(M2 O8 hp (fun hp=>rfl) (fun hp=>(A7C hp fun hp=>(M2 O8 hp (fun hp=>rfl) (fun hp=>(A7C hp fun hp=>(A7C hp fun hp=>(A7E hp fun _h=>rfl))))))))))))) (fun hp=>(M2 O8 hp (fun hp=>(M2 O8 hp (fun hp=>(A7C hp fun hp=>(A7E hp fun _h=>rfl))) (fun hp=>(A7E hp fun _h=>rfl)))) (fun hp=>(M2 O8 hp (fun hp=>(A7C hp fun hp=>(A7C hp fun hp=>(A7C hp fun hp=>(A7C hp fun hp=>(A7C hp fun hp=>(A7E hp fun _h=>rfl))))))) (fun hp=>(A7C hp fun hp=>(A7C hp fun hp=>(A7C hp fun hp=>(A7E hp fun _h=>rfl))))))))))))))
noncomputable abbrev C6e:=win E8 (msum B4F C2A C57)
theorem D1J:aPM 86 C6e:=(mcE false [] [1,2,3] [(0,0,1,70,J8),(0,1,2,32,tq5)]  G32 hlz C9u).win E8
noncomputable def S33:Tab:=Tab.add S32 86 (A2b (C8d) (C6e))
noncomputable def D62:FuncId→Bool:=D61
theorem G33:aPG S33 D62:=G32.addM (MContract.orElse D1I D1J) (A6W (A7d _) (A7d _)) (cbl Try.f86) (by kernel_rfl)

abbrev D5u:List Sh:=.junk::D11
abbrev D6y:List Sh:=.junk::.junk::D5u
abbrev D6c:List Sh:=.junk::D5u
abbrev u28:=((),u27)
abbrev D6v:List AV:=.junk::.junk::.junk::.junk::.junk::.junk::.junk::.junk::.junk::.junk::.junk::.junk::.junk::.junk::.junk::.junk::.junk::.junk::.junk::.junk::.junk::.junk::.junk::.junk::.junk::.junk::.junk::.junk::.junk::[]
abbrev D6u:List AV:=.junk::.junk::.junk::.junk::.junk::.junk::.junk::.junk::.junk::.junk::.junk::.junk::.junk::.junk::.junk::.junk::.junk::.junk::.junk::.junk::.junk::.junk::.junk::.junk::.junk::.junk::.junk::[]
abbrev D55:List AV:=.junk::D6u
abbrev B0U:List PSh:=[.t tq3]
abbrev Q5:SS:=⟨(.t false tq3::.junk::.junk::.junk::.junk::.ptr 0 0 1 0::tI::D5u),[.box [.all 1 2,.all 2 3,.all 3 1],.rows 70 true J8,.rows 32 true tq5,.rows 3 true (.int .i64)]⟩
abbrev B6e:SS:=⟨(.junk::.junk::.all 0 2::.all 1 3::.t true .bool::D6y),[.rows 70 true J8,.rows 32 true tq5]⟩
abbrev B6f:SS:=⟨(.junk::.junk::.junk::.junk::.junk::.ptr 0 0 1 0::D6c),[.box [.all 1 2,.all 2 3,.all 3 1],.rows 70 true J8,.rows 32 true tq5,.rows 3 true (.int .i64)]⟩
noncomputable def B2s (x0:Lq1) (x6:Int) (h1:LBBe) (h2:Lq1) (h3:List Int):=let z1:=x0.getD x6.toNat ((0:Int),((0:Int),[]));B70 (z1.1) ((z1.2).1) ((z1.2).2) h1 h2 h3
noncomputable def B72 (x0:Lq1) (x6:Int) (h1:LBBe) (h2:Lq1) (h3:List Int):RT Q5.den:=let z1:=B2s x0 x6 h1 h2 h3;let z2:=x0.getD x6.toNat ((0:Int),((0:Int),[]));(.br (decide (x6<(x0.length:Int))) (.br (decide (0≤x6∧x6<(x0.length:Int))) (.br (A8K (z2.1) ((z2.2).1) ((z2.2).2) h1 h2 h3) (.br (!(z1.1)) (.done .ret B6e (((),(),(),(),false,u30),(([]:LBBe),([]:Lq1),()))) (.next ((x0,(),(),(),(),(),wI (x6+(1:Int)),u28),(((),(),(),()),(z1.2.1),(z1.2.2.1),(z1.2.2.2),())))) .fail) .fail) (.done (.exit 0) B6f ((u35),(((),(),(),()),h1,h2,h3,()))))
abbrev A86:=(Lq1)×(Int)×LBBe×Lq1×(List Int)
abbrev A7R:=Nat×(Bool)×LBBe×Lq1×LBBe×Lq1×(List Int)
def B0q:A7R:=(99,(false:Bool),([]:LBBe),([]:Lq1),([]:LBBe),([]:Lq1),([]:List Int))
noncomputable def A8E (x0:Lq1) (x6:Int) (h1:LBBe) (h2:Lq1) (h3:List Int):A86 ⊕ A7R:=let z1:=B2s x0 x6 h1 h2 h3;let z2:=x0.getD x6.toNat ((0:Int),((0:Int),[]));(cond (decide (x6<(x0.length:Int))) (cond (decide (0≤x6∧x6<(x0.length:Int))) (cond (A8K (z2.1) ((z2.2).1) ((z2.2).2) h1 h2 h3) (cond (!(z1.1)) (.inr (0,false,([]:LBBe),([]:Lq1),([]:LBBe),([]:Lq1),([]:List Int))) (.inl (x0,wI (x6+(1:Int)),(z1.2.1),(z1.2.2.1),(z1.2.2.2)))) (.inr B0q)) (.inr B0q)) (.inr (1,(false:Bool),([]:LBBe),([]:Lq1),h1,h2,h3)))
noncomputable def B7E (x0:Lq1) (x6:Int) (h1:LBBe) (h2:Lq1) (h3:List Int):A7R:=itX (fun v:A86=>A8E v.1 v.2.1 v.2.2.1 v.2.2.2.1 v.2.2.2.2) B0q (x0,x6,h1,h2,h3)
noncomputable def B27 (a:A7R):CT:=(.br (a.1==0) (.done .ret B6e (((),(),(),(),a.2.1,u30),(a.2.2.1,a.2.2.2.1,()))) (.br (a.1==1) (.done (.exit 0) B6f ((u35),(((),(),(),()),a.2.2.2.2.1,a.2.2.2.2.2.1,a.2.2.2.2.2.2,()))) .fail))
noncomputable def C6J (x0:Lq1) (x6:Int) (h1:LBBe) (h2:Lq1) (h3:List Int):CT:=B27 (B7E x0 x6 h1 h2 h3)
noncomputable abbrev B0m {α:Sort _} (f:Lq1→Int→LBBe→Lq1→(List Int)→α) (d:Q5.den):α:=f d.1.1 d.1.2.2.2.2.2.2.1 d.2.2.1 d.2.2.2.1 d.2.2.2.2.1
noncomputable abbrev B3n:Q5.den→RT Q5.den:=(B0m B72)
noncomputable def B5y:Code:=((D4 0 (A1l Try.f52)).getD 0 (0,.skip)).2
noncomputable abbrev B7O (v:A86):Q5.den:=((v.1,(),(),(),(),(),v.2.1,u28),(((),(),(),()),v.2.2.1,v.2.2.2.1,v.2.2.2.2,()))
theorem C5U:(∀ v:A86,(B72 v.1 v.2.1 v.2.2.1 v.2.2.2.1 v.2.2.2.2).val=A6D B7O B27 (A8E v.1 v.2.1 v.2.2.1 v.2.2.2.1 v.2.2.2.2))∧∀ a:A7R,CEnd Q5.den (B27 a):=⟨fun v=>(A7G (A7G (A7G (A7G rfl rfl) rfl) rfl) rfl),fun a=>(A7t aCD (A7t aCD A7v))⟩
noncomputable def B7K (x0:Lq1) (x6:Int) (h1:LBBe) (h2:Lq1) (h3:List Int):Option (Ex×St):=let z1:=B2s x0 x6 h1 h2 h3;let z2:=x0.getD x6.toNat ((0:Int),((0:Int),[]));(cond (decide (x6<(x0.length:Int))) (cond (decide (0≤x6∧x6<(x0.length:Int))) (cond (A8K (z2.1) ((z2.2).1) ((z2.2).2) h1 h2 h3) (cond (!(z1.1)) (some (.ret,(⟨(.junk::.junk::(.all 0 2)::(.all 1 3)::(.t true .bool false)::D6v),[(.rows 70 true J8 ([]:LBBe)),(.rows 32 true tq5 ([]:Lq1))],0,[]⟩:St))) (some (.normal,(⟨((.t false tq3 x0)::.junk::.junk::.junk::.junk::(.ptr 0 0 1 0)::(ti (wI (x6+(1:Int))))::D6u),[(.box [(.all 1 2),(.all 2 3),(.all 3 1)]),(.rows 70 true J8 (z1.2.1)),(.rows 32 true tq5 (z1.2.2.1)),(.rows 3 true (.int .i64) (z1.2.2.2))],0,[]⟩:St)))) none) none) (some ((.exit 0),(⟨(.junk::.junk::.junk::.junk::.junk::(.ptr 0 0 1 0)::D55),[(.box [(.all 1 2),(.all 2 3),(.all 3 1)]),(.rows 70 true J8 h1),(.rows 32 true tq5 h2),(.rows 3 true (.int .i64) h3)],0,[]⟩:St))))
theorem C4D:RdA G33 aLn 0 B5y Q5 0 [] (kepts [2,3,4] [(0,[5])]) (B0m B7K):=by
 intro d
 kernel_rfl
theorem C4H:∀ d:Q5.den,(B0m B7K) d=(B3n d).opt 0 []:=by
 intro d
 kernel_rfl
noncomputable abbrev B6E:St→Option Tree:=Q5.say 0 [] [(2005002,3,(.int .i64))] (B0m C6J)
theorem C5u:aPL B6E B5y:=SS.wp2 hlz [(2005002,3,(.int .i64))] B3n C4D C4H _ (fun d=>Runs.ofI2 (step:=B3n) B7O C5U rfl (d.1.1,d.1.2.2.2.2.2.2.1,d.2.2.1,d.2.2.2.1,d.2.2.2.2.1))
noncomputable def O9 (a0:Lq1):=B7E a0 (0:Int) ([]:LBBe) ([]:Lq1) ([]:List Int)
noncomputable def B1P (a0:Lq1):LBBe×Lq1×Bool:=let z1:=O9 a0;(cond (z1.1==0) ((z1.2.2.1),(z1.2.2.2.1),(z1.2.1)) ((z1.2.2.2.2.1),(z1.2.2.2.2.2.1),true))
noncomputable abbrev B3v (r:LBBe×Lq1×Bool):AV×List AObj:=((.tup [(.t true tq6 r.1),(.t true tq3 r.2.1),(.t true .bool r.2.2)]),[])
noncomputable abbrev B6N:H7 B0U→AV×List AObj:=fun d=>B3v (B1P d.1)
noncomputable def A8c (a0:Lq1):Bool:=cond ((O9 a0).1==0) true ((O9 a0).1==1)
noncomputable abbrev B4q:H7 B0U→Bool:=fun d=>A8c d.1
noncomputable abbrev C8N:Nat→St→Option Tree:=fun b=>match b with | 0=>B6E | _=>fun _=>none
theorem C7c:A7B true G33 (C8N) Try.f52 B0U B4q B6N:=by
 rintro ⟨a0,_⟩ hp
 change A8c a0=true at hp
 unfold A8c at hp
 refine Eq.trans (b:=(let z1:=O9 a0;cond (z1.1==0) (some (B3v ((z1.2.2.1),(z1.2.2.2.1),(z1.2.1)))) (cond (z1.1==1) (some (B3v ((z1.2.2.2.2.1),(z1.2.2.2.2.2.1),true))) none))) (by kernel_rfl) ?_
 exact (M2 B3v hp (fun hp=>rfl) (fun hp=>(A7E hp fun _h=>rfl)))
theorem C80:aPP 52 (A21 B0U B4q B6N):=pcD true G33 (hl1 (i:=0) (by kernel_rfl) C5u) C7c
noncomputable def S34:Tab:=Tab.add S33 52 (lift (A21 B0U B4q B6N))
noncomputable def D63:FuncId→Bool:=qadd D62 52
theorem G34:aPG S34 D63:=G33.addQ C80 (cbl Try.f52) (fun _=>rfl)

abbrev D59:List Sh:=.junk::D4w
abbrev A9G:List PSh:=[.t tq6,.t tq6]
abbrev V2:SS:=⟨(.t false tq6::.t false tq6::.junk::.junk::.junk::tI::D59),[]⟩
abbrev B5a:SS:=⟨(.junk::.junk::.junk::.junk::.t true .bool::C6N),[]⟩
abbrev B5b:SS:=⟨(.junk::C72),[]⟩
noncomputable def B6I (x0 x1:LBBe) (x5:Int):RT V2.den:=let z1:=x0.getD x5.toNat (bE,bE);let z2:=x1.getD x5.toNat (bE,bE);(.br (decide (x5<(x0.length:Int))) (.br (decide (0≤x5∧x5<(x0.length:Int))) (.br (decide (0≤x5∧x5<(x1.length:Int))) (.br (!(((z1.1).toList==(z2.1).toList)&&(((z1.2).toList==(z2.2).toList)&&true))) (.done .ret B5a (((),(),(),(),false,u22),())) (.next ((x0,x1,(),(),(),wI (x5+(1:Int)),u21),()))) .fail) .fail) (.done (.exit 0) B5b ((u27),())))
abbrev A0j:=(LBBe)×LBBe×(Int)
abbrev A8m:=Nat×(Bool)
def A9x:A8m:=(99,(false:Bool))
noncomputable def A8a (x0 x1:LBBe) (x5:Int):A0j ⊕ A8m:=let z1:=x0.getD x5.toNat (bE,bE);let z2:=x1.getD x5.toNat (bE,bE);(cond (decide (x5<(x0.length:Int))) (cond (decide (0≤x5∧x5<(x0.length:Int))) (cond (decide (0≤x5∧x5<(x1.length:Int))) (cond (!(((z1.1).toList==(z2.1).toList)&&(((z1.2).toList==(z2.2).toList)&&true))) (.inr (0,false)) (.inl (x0,x1,wI (x5+(1:Int))))) (.inr A9x)) (.inr A9x)) (.inr (1,(false:Bool))))
noncomputable def A73 (x0 x1:LBBe) (x5:Int):A8m:=itX (fun v:A0j=>A8a v.1 v.2.1 v.2.2) A9x (x0,x1,x5)
noncomputable def B2f (a:A8m):CT:=(.br (a.1==0) (.done .ret B5a (((),(),(),(),a.2,u22),())) (.br (a.1==1) (.done (.exit 0) B5b ((u27),())) .fail))
noncomputable def C48 (x0 x1:LBBe) (x5:Int):CT:=B2f (A73 x0 x1 x5)
noncomputable abbrev B2H:V2.den→RT V2.den:=(fun d=>B6I d.1.1 d.1.2.1 d.1.2.2.2.2.2.1)
noncomputable def B4A:Code:=((D4 0 (A1l Try.f53)).getD 0 (0,.skip)).2
noncomputable abbrev B6C (v:A0j):V2.den:=((v.1,v.2.1,(),(),(),v.2.2,u21),())
theorem C4J:(∀ v:A0j,(B6I v.1 v.2.1 v.2.2).val=A6D B6C B2f (A8a v.1 v.2.1 v.2.2))∧∀ a:A8m,CEnd V2.den (B2f a):=⟨fun v=>(A7G (A7G (A7G (A7G rfl rfl) rfl) rfl) rfl),fun a=>(A7t aCD (A7t aCD A7v))⟩
theorem C3n:RdA G34 aLn 0 B4A V2 0 [] (kepts [4] [(0,[])]) (fun d=>(B2H d).opt 0 []):=by
 intro d
 kernel_rfl
noncomputable abbrev B53:St→Option Tree:=V2.say 0 [] [] (fun d=>C48 d.1.1 d.1.2.1 d.1.2.2.2.2.2.1)
theorem C4h:aPL B53 B4A:=SS.wp2 hlz [] B2H C3n (fun d=>rfl) _ (fun d=>Runs.ofI2 (step:=B2H) B6C C4J rfl (d.1.1,d.1.2.1,d.1.2.2.2.2.2.1))
noncomputable def B0C (a0 a1:LBBe):Bool:=let z1:=A73 a0 a1 (0:Int);(cond ((a0.length:Int) != (a1.length:Int)) false (cond (z1.1==0) (z1.2) true))
noncomputable abbrev A8u (r:Bool):AV×List AObj:=((.t true .bool r),[])
noncomputable abbrev B5K:H7 A9G→AV×List AObj:=fun d=>A8u (B0C d.1 d.2.1)
noncomputable def A7L (a0 a1:LBBe):Bool:=let z1:=A73 a0 a1 (0:Int);cond ((a0.length:Int) != (a1.length:Int)) true (cond (z1.1==0) true (z1.1==1))
noncomputable abbrev B3f:H7 A9G→Bool:=fun d=>A7L d.1 d.2.1
noncomputable abbrev C7p:Nat→St→Option Tree:=fun b=>match b with | 0=>B53 | _=>fun _=>none
theorem C5X:A7B true G34 (C7p) Try.f53 A9G B3f B5K:=by
 rintro ⟨a0,⟨a1,_⟩⟩ hp
 change A7L a0 a1=true at hp
 unfold A7L at hp
 refine Eq.trans (b:=(let z1:=A73 a0 a1 (0:Int);cond ((a0.length:Int) != (a1.length:Int)) (some (A8u false)) (cond (z1.1==0) (some (A8u (z1.2))) (cond (z1.1==1) (some (A8u true)) none)))) (by kernel_rfl) ?_
 exact (M2 A8u hp (fun hp=>rfl) (fun hp=>(M2 A8u hp (fun hp=>rfl) (fun hp=>(A7E hp fun _h=>rfl)))))
theorem C7z:aPP 53 (A21 A9G B3f B5K):=pcD true G34 (hl1 (i:=0) (by kernel_rfl) C4h) C5X
noncomputable def S35:Tab:=Tab.add S34 53 (lift (A21 A9G B3f B5K))
noncomputable def D64:FuncId→Bool:=qadd D63 53
theorem G35:aPG S35 D64:=G34.addQ C7z (cbl Try.f53) (fun _=>rfl)

abbrev B14:List PSh:=[.t tq4,.t tq4]
abbrev A0p:SS:=⟨(.t false tq4::.t false tq4::.junk::.junk::.junk::tI::D59),[]⟩
abbrev B7b:SS:=⟨(.junk::.junk::.junk::.junk::.t true .bool::C6N),[]⟩
abbrev B7c:SS:=⟨(.junk::C72),[]⟩
noncomputable def B9L (x0 x1:Lq2) (x5:Int):RT A0p.den:=let z1:=x0.getD x5.toNat ((0:Int),(bE,bE));let z2:=x1.getD x5.toNat ((0:Int),(bE,bE));(.br (decide (x5<(x0.length:Int))) (.br (decide (0≤x5∧x5<(x0.length:Int))) (.br (decide (0≤x5∧x5<(x1.length:Int))) (.br (!(((z1.1)==(z2.1))&&((((z1.2).1).toList==((z2.2).1).toList)&&((((z1.2).2).toList==((z2.2).2).toList)&&true)))) (.done .ret B7b (((),(),(),(),false,u22),())) (.next ((x0,x1,(),(),(),wI (x5+(1:Int)),u21),()))) .fail) .fail) (.done (.exit 0) B7c ((u27),())))
abbrev A8q:=(Lq2)×Lq2×(Int)
abbrev A9E:=Nat×(Bool)
def B08:A9E:=(99,(false:Bool))
noncomputable def A9h (x0 x1:Lq2) (x5:Int):A8q ⊕ A9E:=let z1:=x0.getD x5.toNat ((0:Int),(bE,bE));let z2:=x1.getD x5.toNat ((0:Int),(bE,bE));(cond (decide (x5<(x0.length:Int))) (cond (decide (0≤x5∧x5<(x0.length:Int))) (cond (decide (0≤x5∧x5<(x1.length:Int))) (cond (!(((z1.1)==(z2.1))&&((((z1.2).1).toList==((z2.2).1).toList)&&((((z1.2).2).toList==((z2.2).2).toList)&&true)))) (.inr (0,false)) (.inl (x0,x1,wI (x5+(1:Int))))) (.inr B08)) (.inr B08)) (.inr (1,(false:Bool))))
noncomputable def A89 (x0 x1:Lq2) (x5:Int):A9E:=itX (fun v:A8q=>A9h v.1 v.2.1 v.2.2) B08 (x0,x1,x5)
noncomputable def B4i (a:A9E):CT:=(.br (a.1==0) (.done .ret B7b (((),(),(),(),a.2,u22),())) (.br (a.1==1) (.done (.exit 0) B7c ((u27),())) .fail))
noncomputable def C7v (x0 x1:Lq2) (x5:Int):CT:=B4i (A89 x0 x1 x5)
noncomputable abbrev B4x:A0p.den→RT A0p.den:=(fun d=>B9L d.1.1 d.1.2.1 d.1.2.2.2.2.2.1)
noncomputable def B6r:Code:=((D4 0 (A1l Try.f87)).getD 0 (0,.skip)).2
noncomputable abbrev B9z (v:A8q):A0p.den:=((v.1,v.2.1,(),(),(),v.2.2,u21),())
theorem C69:(∀ v:A8q,(B9L v.1 v.2.1 v.2.2).val=A6D B9z B4i (A9h v.1 v.2.1 v.2.2))∧∀ a:A9E,CEnd A0p.den (B4i a):=⟨fun v=>(A7G (A7G (A7G (A7G rfl rfl) rfl) rfl) rfl),fun a=>(A7t aCD (A7t aCD A7v))⟩
theorem C5O:RdA G35 aLn 0 B6r A0p 0 [] (kepts [4] [(0,[])]) (fun d=>(B4x d).opt 0 []):=by
 intro d
 kernel_rfl
noncomputable abbrev B7Z:St→Option Tree:=A0p.say 0 [] [] (fun d=>C7v d.1.1 d.1.2.1 d.1.2.2.2.2.2.1)
theorem C6T:aPL B7Z B6r:=SS.wp2 hlz [] B4x C5O (fun d=>rfl) _ (fun d=>Runs.ofI2 (step:=B4x) B9z C69 rfl (d.1.1,d.1.2.1,d.1.2.2.2.2.2.1))
noncomputable def B81 (a0 a1:Lq2):Bool:=let z1:=A89 a0 a1 (0:Int);(cond ((a0.length:Int) != (a1.length:Int)) false (cond (z1.1==0) (z1.2) true))
noncomputable abbrev B0p (r:Bool):AV×List AObj:=((.t true .bool r),[])
noncomputable abbrev B8z:H7 B14→AV×List AObj:=fun d=>B0p (B81 d.1 d.2.1)
noncomputable def A79 (a0 a1:Lq2):Bool:=let z1:=A89 a0 a1 (0:Int);cond ((a0.length:Int) != (a1.length:Int)) true (cond (z1.1==0) true (z1.1==1))
noncomputable abbrev B50:H7 B14→Bool:=fun d=>A79 d.1 d.2.1
noncomputable abbrev C9P:Nat→St→Option Tree:=fun b=>match b with | 0=>B7Z | _=>fun _=>none
theorem C8G:A7B true G35 (C9P) Try.f87 B14 B50 B8z:=by
 rintro ⟨a0,⟨a1,_⟩⟩ hp
 change A79 a0 a1=true at hp
 unfold A79 at hp
 refine Eq.trans (b:=(let z1:=A89 a0 a1 (0:Int);cond ((a0.length:Int) != (a1.length:Int)) (some (B0p false)) (cond (z1.1==0) (some (B0p (z1.2))) (cond (z1.1==1) (some (B0p true)) none)))) (by kernel_rfl) ?_
 exact (M2 B0p hp (fun hp=>rfl) (fun hp=>(M2 B0p hp (fun hp=>rfl) (fun hp=>(A7E hp fun _h=>rfl)))))
theorem C95:aPP 87 (A21 B14 B50 B8z):=pcD true G35 (hl1 (i:=0) (by kernel_rfl) C6T) C8G
noncomputable def S36:Tab:=Tab.add S35 87 (lift (A21 B14 B50 B8z))
noncomputable def D65:FuncId→Bool:=qadd D64 87
theorem G36:aPG S36 D65:=G35.addQ C95 (cbl Try.f87) (fun _=>rfl)

abbrev D8g:List Sh:=.junk::.junk::.junk::D6e
abbrev D8D:List Sh:=.junk::D8g
abbrev D8E:List Sh:=.junk::D6A
abbrev u51:=((),(),(),u48)
abbrev u50:=((),(),u48)
abbrev u56:=((),(),u54)
abbrev D8y:List AV:=.junk::.junk::.junk::.junk::D4u
abbrev D8x:List AV:=.junk::.junk::.junk::D4u
abbrev D8z:List AV:=.junk::D76
abbrev B0W:List PSh:=[.t tq3,.t tq3]
abbrev U4:SS:=⟨(.t false tq3::.t false tq3::.junk::.junk::.junk::tI::D8g),[]⟩
abbrev A9u:SS:=⟨(.junk::.junk::.junk::.junk::.t true .bool::D8D),[]⟩
abbrev B6h:SS:=⟨(.junk::D8E),[]⟩
noncomputable def B2t (x0 x1:Lq1) (x5:Int):=B81 (((x0.getD x5.toNat ((0:Int),((0:Int),[]))).2).2) (((x1.getD x5.toNat ((0:Int),((0:Int),[]))).2).2)
noncomputable def B74 (x0 x1:Lq1) (x5:Int):RT U4.den:=let z1:=x0.getD x5.toNat ((0:Int),((0:Int),[]));let z2:=x1.getD x5.toNat ((0:Int),((0:Int),[]));let z3:=decide (0≤x5∧x5<(x0.length:Int));let z4:=decide (0≤x5∧x5<(x1.length:Int));(.br (decide (x5<(x0.length:Int))) (.br z3 (.br z4 (.br ((z1.1) != (z2.1)) (.done .ret A9u (((),(),(),(),false,u51),())) (.br z3 (.br z4 (.br (((z1.2).1) != ((z2.2).1)) (.done .ret A9u (((),(),(),(),false,u51),())) (.br z3 (.br z4 (.br (A79 ((z1.2).2) ((z2.2).2)) (.br (!(B2t x0 x1 x5)) (.done .ret A9u (((),(),(),(),false,u51),())) (.next ((x0,x1,(),(),(),wI (x5+(1:Int)),u50),()))) .fail) .fail) .fail)) .fail) .fail)) .fail) .fail) (.done (.exit 0) B6h ((u56),())))
abbrev A7S:=(Lq1)×Lq1×(Int)
abbrev A84:=Nat×(Bool)
def P4:A84:=(99,(false:Bool))
noncomputable def A8H (x0 x1:Lq1) (x5:Int):A7S ⊕ A84:=let z1:=x0.getD x5.toNat ((0:Int),((0:Int),[]));let z2:=x1.getD x5.toNat ((0:Int),((0:Int),[]));let z3:=decide (0≤x5∧x5<(x0.length:Int));let z4:=decide (0≤x5∧x5<(x1.length:Int));(cond (decide (x5<(x0.length:Int))) (cond z3 (cond z4 (cond ((z1.1) != (z2.1)) (.inr (0,false)) (cond z3 (cond z4 (cond (((z1.2).1) != ((z2.2).1)) (.inr (0,false)) (cond z3 (cond z4 (cond (A79 ((z1.2).2) ((z2.2).2)) (cond (!(B2t x0 x1 x5)) (.inr (0,false)) (.inl (x0,x1,wI (x5+(1:Int))))) (.inr P4)) (.inr P4)) (.inr P4))) (.inr P4)) (.inr P4))) (.inr P4)) (.inr P4)) (.inr (1,(false:Bool))))
noncomputable def A8y (x0 x1:Lq1) (x5:Int):A84:=itX (fun v:A7S=>A8H v.1 v.2.1 v.2.2) P4 (x0,x1,x5)
noncomputable def B29 (a:A84):CT:=(.br (a.1==0) (.done .ret A9u (((),(),(),(),a.2,u51),())) (.br (a.1==1) (.done (.exit 0) B6h ((u56),())) .fail))
noncomputable def C6L (x0 x1:Lq1) (x5:Int):CT:=B29 (A8y x0 x1 x5)
noncomputable abbrev B3p:U4.den→RT U4.den:=(fun d=>B74 d.1.1 d.1.2.1 d.1.2.2.2.2.2.1)
noncomputable def B5A:Code:=((D4 0 (A1l Try.f54)).getD 0 (0,.skip)).2
noncomputable abbrev B7Q (v:A7S):U4.den:=((v.1,v.2.1,(),(),(),v.2.2,u50),())
theorem C5W:(∀ v:A7S,(B74 v.1 v.2.1 v.2.2).val=A6D B7Q B29 (A8H v.1 v.2.1 v.2.2))∧∀ a:A84,CEnd U4.den (B29 a):=⟨fun v=>by repeat' first | apply A7G | rfl,fun a=>(A7t aCD (A7t aCD A7v))⟩
noncomputable def B7L (x0 x1:Lq1) (x5:Int):Option (Ex×St):=let z1:=(⟨(.junk::.junk::.junk::.junk::(.t true .bool false)::D8y),[],0,[]⟩:St);let z2:=x0.getD x5.toNat ((0:Int),((0:Int),[]));let z3:=x1.getD x5.toNat ((0:Int),((0:Int),[]));let z4:=decide (0≤x5∧x5<(x0.length:Int));let z5:=decide (0≤x5∧x5<(x1.length:Int));(cond (decide (x5<(x0.length:Int))) (cond z4 (cond z5 (cond ((z2.1) != (z3.1)) (some (.ret,z1)) (cond z4 (cond z5 (cond (((z2.2).1) != ((z3.2).1)) (some (.ret,z1)) (cond z4 (cond z5 (cond (A79 ((z2.2).2) ((z3.2).2)) (cond (!(B2t x0 x1 x5)) (some (.ret,z1)) (some (.normal,(⟨((.t false tq3 x0)::(.t false tq3 x1)::.junk::.junk::.junk::(ti (wI (x5+(1:Int))))::D8x),[],0,[]⟩:St)))) none) none) none)) none) none)) none) none) (some ((.exit 0),(⟨(.junk::D8z),[],0,[]⟩:St))))
theorem C4F:RdA G36 aLn 0 B5A U4 0 [] (kepts [4] [(0,[])]) (fun d=>B7L d.1.1 d.1.2.1 d.1.2.2.2.2.2.1):=by
 intro d
 kernel_rfl
theorem C4I:∀ d:U4.den,(fun d=>B7L d.1.1 d.1.2.1 d.1.2.2.2.2.2.1) d=(B3p d).opt 0 []:=by
 intro d
 kernel_rfl
noncomputable abbrev B6G:St→Option Tree:=U4.say 0 [] [] (fun d=>C6L d.1.1 d.1.2.1 d.1.2.2.2.2.2.1)
theorem C5w:aPL B6G B5A:=SS.wp2 hlz [] B3p C4F C4I _ (fun d=>Runs.ofI2 (step:=B3p) B7Q C5W rfl (d.1.1,d.1.2.1,d.1.2.2.2.2.2.1))
noncomputable def B34 (a0 a1:Lq1):Bool:=let z1:=A8y a0 a1 (0:Int);(cond ((a0.length:Int) != (a1.length:Int)) false (cond (z1.1==0) (z1.2) true))
noncomputable abbrev A9m (r:Bool):AV×List AObj:=((.t true .bool r),[])
noncomputable abbrev B6P:H7 B0W→AV×List AObj:=fun d=>A9m (B34 d.1 d.2.1)
noncomputable def A8d (a0 a1:Lq1):Bool:=let z1:=A8y a0 a1 (0:Int);cond ((a0.length:Int) != (a1.length:Int)) true (cond (z1.1==0) true (z1.1==1))
noncomputable abbrev B4s:H7 B0W→Bool:=fun d=>A8d d.1 d.2.1
noncomputable abbrev C8R:Nat→St→Option Tree:=fun b=>match b with | 0=>B6G | _=>fun _=>none
theorem C7e:A7B true G36 (C8R) Try.f54 B0W B4s B6P:=by
 rintro ⟨a0,⟨a1,_⟩⟩ hp
 change A8d a0 a1=true at hp
 unfold A8d at hp
 refine Eq.trans (b:=(let z1:=A8y a0 a1 (0:Int);cond ((a0.length:Int) != (a1.length:Int)) (some (A9m false)) (cond (z1.1==0) (some (A9m (z1.2))) (cond (z1.1==1) (some (A9m true)) none)))) (by kernel_rfl) ?_
 exact (M2 A9m hp (fun hp=>rfl) (fun hp=>(M2 A9m hp (fun hp=>rfl) (fun hp=>(A7E hp fun _h=>rfl)))))
theorem C82:aPP 54 (A21 B0W B4s B6P):=pcD true G36 (hl1 (i:=0) (by kernel_rfl) C5w) C7e
noncomputable def S37:Tab:=Tab.add S36 54 (lift (A21 B0W B4s B6P))
noncomputable def D66:FuncId→Bool:=qadd D65 54
theorem G37:aPG S37 D66:=G36.addQ C82 (cbl Try.f54) (fun _=>rfl)

abbrev B5m:List PSh:=[.agg [(.int .i64),tq3,(.int .i64),tq6,tq3]]
noncomputable def C1d (a0:Int) (a1:Lq1) (a2:Int) (a3:LBBe) (a4:Lq1):Bool:=let z1:=B1P a1;(cond (!(A7P a0 (0:Int) (7:Int))) false (cond (decide ((a1.length:Int) > (300:Int))) false (cond (!(A7P a2 (0:Int) (a1.length:Int))) false (cond (z1.2.2) (cond (B0C (z1.1) a3) (cond (B34 (z1.2.1) a4) (decide ((wI ((a1.length:Int)+(((z1.2.1).length:Nat):Int)))≤(300:Int))) false) false) false))))
noncomputable abbrev T6 (r:Bool):AV×List AObj:=((.t true .bool r),[])
noncomputable abbrev C21:H7 B5m→AV×List AObj:=fun d=>T6 (C1d d.1.1 d.1.2.1 d.1.2.2.1 d.1.2.2.2.1 d.1.2.2.2.2.1)
noncomputable def B1s (a0:Int) (a1:Lq1) (a2:Int) (a3:LBBe) (a4:Lq1):Bool:=let z1:=B1P a1;cond (!(A7P a0 (0:Int) (7:Int))) true (cond (decide ((a1.length:Int) > (300:Int))) true (cond (!(A7P a2 (0:Int) (a1.length:Int))) true ((A8c a1)&&(cond (z1.2.2) ((A7L (z1.1) a3)&&(cond (B0C (z1.1) a3) (A8d (z1.2.1) a4) true)) true))))
noncomputable abbrev B8U:H7 B5m→Bool:=fun d=>B1s d.1.1 d.1.2.1 d.1.2.2.1 d.1.2.2.2.1 d.1.2.2.2.2.1
theorem D1b:A7B true G37 aLn Try.f20 B5m B8U C21:=by
 rintro ⟨⟨a0,⟨a1,⟨a2,⟨a3,⟨a4,_⟩⟩⟩⟩⟩,_⟩ hp
 change B1s a0 a1 a2 a3 a4=true at hp
 unfold B1s at hp
 refine Eq.trans (b:=(let z1:=B1P a1;cond (!(A7P a0 (0:Int) (7:Int))) (some (T6 false)) (cond (decide ((a1.length:Int) > (300:Int))) (some (T6 false)) (cond (!(A7P a2 (0:Int) (a1.length:Int))) (some (T6 false)) (cond (A8c a1) (cond (z1.2.2) (cond (A7L (z1.1) a3) (cond (B0C (z1.1) a3) (cond (A8d (z1.2.1) a4) (cond (B34 (z1.2.1) a4) (some (T6 (decide ((wI ((a1.length:Int)+(((z1.2.1).length:Nat):Int)))≤(300:Int))))) (some (T6 false))) none) (some (T6 false))) none) (some (T6 false))) none))))) (by kernel_rfl) ?_
 exact (M2 T6 hp (fun hp=>rfl) (fun hp=>(M2 T6 hp (fun hp=>rfl) (fun hp=>(M2 T6 hp (fun hp=>rfl) (fun hp=>(A7C hp fun hp=>(M2 T6 hp (fun hp=>(A7C hp fun hp=>(M2 T6 hp (fun hp=>(A7E hp fun _h=>(P9 T6 (fun _h=>rfl) (fun _h=>rfl)))) (fun hp=>rfl)))) (fun hp=>rfl)))))))))
theorem D3h:aPP 20 (A21 B5m B8U C21):=pcD true G37 hlz D1b
noncomputable def S38:Tab:=Tab.add S37 20 (lift (A21 B5m B8U C21))
noncomputable def D67:FuncId→Bool:=qadd D66 20
theorem G38:aPG S38 D67:=G37.addQ D3h (cbl Try.f20) (fun _=>rfl)

abbrev B3K:List PSh:=[.agg [(.int .i64),tq3,(.int .i64),tq6,tq3]]
noncomputable def C1X (a0:Int) (a1:Lq1) (a2:Int) (a3:LBBe) (a4:Lq1):Int×Lq1×Int×LBBe×Lq1:=let z1:=C4Y a0 a1 a2 a3 a4;(cond (C1d a0 a1 a2 a3 a4) ((z1.1),(z1.2.1),(((z1.2.1).length:Nat):Int),(z1.2.2.2.1),(z1.2.2.2.2)) ((z1.1),(z1.2.1),(z1.2.2.1),(z1.2.2.2.1),(z1.2.2.2.2)))
noncomputable abbrev B6w (r:Int×Lq1×Int×LBBe×Lq1):AV×List AObj:=((.agg [(ti r.1),(.t true tq3 r.2.1),(ti r.2.2.1),(.t true tq6 r.2.2.2.1),(.t true tq3 r.2.2.2.2)]),[])
noncomputable abbrev C0x:H7 B3K→AV×List AObj:=fun d=>B6w (C1X d.1.1 d.1.2.1 d.1.2.2.1 d.1.2.2.2.1 d.1.2.2.2.2.1)
noncomputable def B0e (a0:Int) (a1:Lq1) (a2:Int) (a3:LBBe) (a4:Lq1):Bool:=(B3k a0 a1 a2 a3 a4)&&(B1s a0 a1 a2 a3 a4)
noncomputable abbrev B6W:H7 B3K→Bool:=fun d=>B0e d.1.1 d.1.2.1 d.1.2.2.1 d.1.2.2.2.1 d.1.2.2.2.2.1
theorem C9s:A7B true G38 aLn Try.f31 B3K B6W C0x:=by
 rintro ⟨⟨a0,⟨a1,⟨a2,⟨a3,⟨a4,_⟩⟩⟩⟩⟩,_⟩ hp
 change B0e a0 a1 a2 a3 a4=true at hp
 unfold B0e at hp
 refine Eq.trans (b:=(let z1:=C4Y a0 a1 a2 a3 a4;cond (B3k a0 a1 a2 a3 a4) (cond (B1s a0 a1 a2 a3 a4) (cond (C1d a0 a1 a2 a3 a4) (some (B6w ((z1.1),(z1.2.1),(((z1.2.1).length:Nat):Int),(z1.2.2.2.1),(z1.2.2.2.2)))) (some (B6w ((z1.1),(z1.2.1),(z1.2.2.1),(z1.2.2.2.1),(z1.2.2.2.2))))) none) none)) (by kernel_rfl) ?_
 exact (A7C hp fun hp=>(A7E hp fun _h=>(P9 B6w (fun _h=>rfl) (fun _h=>rfl))))
theorem D1G:aPP 31 (A21 B3K B6W C0x):=pcD true G38 hlz C9s
noncomputable def S39:Tab:=Tab.add S38 31 (lift (A21 B3K B6W C0x))
noncomputable def D5K:FuncId→Bool:=qadd D67 31
theorem G39:aPG S39 D5K:=G38.addQ D1G (cbl Try.f31) (fun _=>rfl)

abbrev A8N:List PSh:=[.t tq4]
noncomputable def L1 (a0:Lq2):Lq2:=a0
noncomputable abbrev A0s (r:Lq2):AV×List AObj:=(.all 0 3,[.rows 85 true tq8 r])
noncomputable abbrev B5L:H7 A8N→AV×List AObj:=fun d=>A0s (L1 d.1)
noncomputable def K0 (a0:Lq2):Bool:=decide ((([]:Lq2).length+a0.length)*40≤MAXB)
noncomputable abbrev B3Y:H7 A8N→Bool:=fun d=>K0 d.1
theorem C1Y (a0:Lq2) (h0:0<a0.length) (hp:K0 a0=true):A6F false Try.prog tt S39 D5K aLn Try.f94 [.t (Ty.sl tq8).flat tq4 a0]=some (A0s a0):=by
 refine Eq.trans (b:=cond (decide (0<a0.length)) (cond (K0 a0) (some (A0s a0)) none) none) (by kernel_rfl) ?_
 rw [decide_eq_true h0,hp];rfl
theorem C1Z (A:Option Addr) (c:Nat):A6F false Try.prog tt S39 D5K aLn Try.f94 [.raw (.slice A 0 c)]=some (A0s []):=by
 cases A<;>kernel_rfl
theorem C2N:aPP 94 (A21 A8N B3Y B5L):=PContract.split (e:=tq8) (pre:=K0) (g:=fun a0=>A0s (L1 a0)) (fun l h0 hp=>PCalls.of_run false G39 (fn:=Try.f94) (by kernel_rfl) (L:=fun _ _=>none) (by rw [show D4 0 (A1l Try.f94)=[] by kernel_rfl];simp) (C1Y l h0 hp) rfl rfl) (fun A c=>PCalls.of_run false G39 (fn:=Try.f94) (by kernel_rfl) (L:=fun _ _=>none) (by rw [show D4 0 (A1l Try.f94)=[] by kernel_rfl];simp) (C1Z A c) rfl rfl)
noncomputable def S40:Tab:=Tab.add S39 94 (lift (A21 A8N B3Y B5L))
noncomputable def D68:FuncId→Bool:=D5K
theorem G40:aPG S40 D68:=G39.add C2N ⟨Try.f94,by kernel_rfl,by kernel_rfl,by kernel_rfl⟩ (by kernel_rfl)


end Go.Proofs.Ytgglehejlddghaa.Eng
