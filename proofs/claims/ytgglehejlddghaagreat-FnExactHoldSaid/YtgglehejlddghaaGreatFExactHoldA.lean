/- What the functions that FnExactHold reaches compute, and that it answers true. -/
import Derived.Test.YtgglehejlddghaaGreatT
import Derived.Test.YtgglehejlddghaaGreatRows
import Derived.Test.YtgglehejlddghaaGreatE45
import Derived.Shelf.Spec.SlicesInsertGrow
namespace Go.Proofs.YtgglehejlddghaaGreat.Eng
open Go Go.RowKit
set_option linter.unusedSimpArgs false
set_option linter.unusedVariables false
set_option maxRecDepth 10000
abbrev bE:ByteArray:=⟨#[]⟩
abbrev Lq2:=List (Int×ByteArray×ByteArray)
abbrev tq4:Ty:=.sl (.pair (.int .i64) (.pair .str .str))
abbrev tq5:Ty:=.pair (.int .i64) (.pair (.int .i64) (.sl (.pair (.int .i64) (.pair .str .str))))
abbrev ti:=@AV.t true (.int .i64)
abbrev tI:Sh:=.t true (.int .i64)
abbrev aPG:=Good Tryz.prog tt
abbrev aPM:=MContract Tryz.prog
abbrev aPP:=PContract Tryz.prog
abbrev aPL:=A0A Tryz.prog
abbrev aLn:Nat→St→Option Tree:=fun _ _=>none
theorem aCD{D:Type}{e:Ex}{s:SS}{x:s.den}(h:e ≠ .normal:=by simp):CEnd D (.done e s x):=A7Q h
noncomputable def S0:Tab:=fun _=>none
noncomputable def QF0:FuncId→Bool:=fun _=>false
theorem G0:aPG S0 QF0:=Good.start D6Q (by kernel_rfl)
theorem Runs.ofI2 {D V A:Type} {step:D→RT D} (pk:V→D) {ss:V→V ⊕ A} {ct:A→CT} {fa:A} (h:(∀ v,(step (pk v)).val=A6W pk ct (ss v))∧∀ a,CEnd D (ct a)) (hf:(ct fa).val (D:=D)=.fail) (v:V):(ct (itX ss fa v)).val (D:=D)=.fail∨Runs step (pk v) (ct (itX ss fa v)).val:=Runs.ofIt pk hf h.1 h.2 v
theorem K9 {α β:Type} (e:α→β) {c q r:Bool} {X Y:Option β} {a b:α} (hq:cond c q r=true) (hx:q=true→X=some (e a)) (hy:r=true→Y=some (e b)):cond c X Y=some (e (cond c a b)):=A7Z (F:=fun r=>some (e r)) hq hx hy
theorem Q7 {α β:Type} (e:α→β) {c:Bool} {X Y:Option β} {a b:α} (hx:c=true→X=some (e a)) (hy:c=false→Y=some (e b)):cond c X Y=some (e (cond c a b)):=cnd (F:=fun r=>some (e r)) hx hy
theorem hlz {L:Nat→St→Option Tree} {b:Nat} {x:Code} (h:D5 b x=[]:=by kernel_rfl):∀ p∈D5 b x,aPL (L p.1) p.2:=hl0 h
theorem cbl {f : FuncId} (F : Func) (h1 : Tryz.prog.funcs[f]? = some F := by kernel_rfl) (h2 : (F.name == "runtime.NumGoroutine") = false := by kernel_rfl) (h3 : F.body.isNone = false := by kernel_rfl) : Callable Tryz.prog f := ⟨F, h1, h2, h3⟩
theorem pcD (ro:Bool) {TB:TT} {S:Tab} {Q:FuncId→Bool} (G:Good Tryz.prog TB S Q) {f:FuncId} {fn:Func} {L:Nat→St→Option Tree} (hL:∀ p∈D5 0 (A1o fn),aPL (L p.1) p.2) {l:List PSh} {pre:D9 l→Bool} {g:D9 l→AV×List AObj} (h:A7X ro G L fn l pre g) (hf:Tryz.prog.funcs[f]? = some fn:=by kernel_rfl):aPP f (A19 l pre g):=PContract.of_data ro G hf hL l pre g h
theorem mcM {TB:TT} {S:Tab} {Q:FuncId→Bool} (G:Good Tryz.prog TB S Q) {f:FuncId} {fn:Func} {L:Nat→St→Option Tree} (hL:∀ p∈D5 0 (A1o fn),aPL (L p.1) p.2) {s:SS} {pre:s.den→Bool} {g:s.den→AV×List AObj×List Nat} (h:A7W G L fn s pre g) (hf:Tryz.prog.funcs[f]? = some fn:=by kernel_rfl):aPM f (msum s pre g):=MContract.of_data G hf hL s pre g h
theorem mcE (mr:Bool) (dl:List AV) (kx:List Nat) (nb:List (Nat×Nat×Nat×TypeId×Ty)) {TB:TT} {S:Tab} {Q:FuncId→Bool} (G:Good Tryz.prog TB S Q) {f:FuncId} {fn:Func} {L:Nat→St→Option Tree} (hL:∀ p∈D5 0 (A1o fn),aPL (L p.1) p.2) {s:SS} {pre:s.den→Bool} {g:s.den→AV×List AObj×List Nat} (h:A7V mr dl kx nb G L fn s pre g) (hf:Tryz.prog.funcs[f]? = some fn:=by kernel_rfl):aPM f (msum s pre g):=MContract.of_dataE mr dl kx nb G hf hL s pre g h
theorem D2x:∀ a b:List UInt8,(!(Op.bytesLess a b))=(Op.bytesLess b a||b==a):=by
 intro a
 induction a with
 | nil=>intro b;cases b<;>simp [Op.bytesLess]
 | cons x a ih =>
  intro b
  cases b with
  | nil=>simp [Op.bytesLess]
  | cons y b =>
   simp only [Op.bytesLess]
   by_cases h1:x<y
   ·have h2:¬ y<x:=fun h=>UInt8.lt_irrefl _ (UInt8.lt_trans h1 h)
    have h3:(y==x)=false:=by rw [beq_eq_false_iff_ne];intro h;subst h;exact h2 h1
    have h4:(y::b==x::a)=false:=by rw [List.cons_beq_cons,h3,Bool.false_and]
    simp [h1,h2,h3,h4]
   ·by_cases h5:x=y
    ·subst h5
     have h6:(x::b==x::a)=(b==a):=by rw [List.cons_beq_cons];simp
     have:=ih b
     simp only [h1,decide_false,Bool.false_or,beq_self_eq_true,Bool.true_and,h6,this]
    ·have h7 : y < x := by
      rcases Nat.lt_trichotomy x.toNat y.toNat with h | h | h
      ·exact absurd (UInt8.lt_iff_toNat_lt.2 h) h1
      ·exact absurd (UInt8.toNat_inj.1 h) h5
      ·exact UInt8.lt_iff_toNat_lt.2 h
     have h8:(x==y)=false:=by rw [beq_eq_false_iff_ne];exact h5
     simp [h1,h7,h8]
theorem C9P {p q:Nat→Bool}:∀ k i,(∀ j,i≤j→j<i+k→p j=q j)→A4W p k i=A4W q k i:=by
 intro k
 induction k with
 | zero=>intro i h;rfl
 | succ k ih=>intro i h;simp only [A4W];rw [h i (Nat.le_refl _) (by omega),ih (i+1) (fun j h1 h2=>h j (by omega) (by omega))]
theorem C67 {p:Nat→Bool} (k i:Nat) (h:∀ j,i≤j→j<i+k→p j=true):A4W p k i=true:=(A7x k i).2 h
theorem D3Z {f:Nat→Int→Int} {Q:Nat→Prop} {M:Int}:∀ (k i:Nat) (b:Int),(∀ j b,i≤j→j<i+k→0≤b→b≤M→0≤f j b→Q j∧f j b≤b)→0≤b→b≤M→A7S (szN f k i b)=true →
  (∀ j,i≤j→j<i+k→Q j)∧0≤A7J (-1) (szN f k i b)∧A7J (-1) (szN f k i b)≤b:=by
 intro k
 induction k with
 | zero=>intro i b hf h1 h2 h3;exact ⟨fun j hj hk=>by omega,h1,Int.le_refl _⟩
 | succ k ih =>
  intro i b hf h1 h2 h3
  have e:szN f (k+1) i b=cond (decide (f i b<0)) (.inr ()) (szN f k (i+1) (f i b)):=by
   simp only [szN,loopN]
   cases decide (f i b<0)<;>rfl
  rw [e] at h3 ⊢
  cases hd:decide (f i b<0) with
  | true=>rw [hd] at h3;cases h3
  | false =>
   rw [hd] at h3
   simp only [cond_false] at h3 ⊢
   have h0:0≤f i b:=by have:=of_decide_eq_false hd;omega
   obtain ⟨q1,q2⟩:=hf i b (Nat.le_refl _) (by omega) h1 h2 h0
   obtain ⟨r1,r2,r3⟩:=ih (i+1) (f i b) (fun j b hj hk=>hf j b (by omega) (by omega)) h0 (by omega) h3
   refine ⟨fun j hj hk=>?_,r2,by omega⟩
   by_cases ej:j=i
   ·exact ej ▸ q1
   ·exact r1 j (by omega) (by omega)
noncomputable def dOp:Int×ByteArray×ByteArray:=((0:Int),(bE,bE))
noncomputable def D9R (o:Int×ByteArray×ByteArray):Bool:=okS o.2.1&&okS o.2.2
noncomputable def T6 (l:Lq2):Bool:=okL l&&l.all D9R
theorem D4W {l:Lq2} (h:T6 l=true) (i:Nat) (hi:i<l.length):okS (l.getD i dOp).2.1=true∧okS (l.getD i dOp).2.2=true:=by
 simp only [T6,Bool.and_eq_true,List.all_eq_true] at h
 have:=h.2 (l.getD i dOp) (by simp [List.getD_eq_getElem?_getD,hi])
 simpa [D9R] using this
theorem P0 {l:Lq2} (h:T6 l=true):l.length≤1048576:=by
 simp only [T6,Bool.and_eq_true] at h
 exact A7L h.1
noncomputable def C5L (s:ByteArray):Bool:=decide (s.size≤9223372036854775807)
noncomputable def B6M (l:Lq2):Bool:=decide (l.length≤9223372036854775807)&&l.all (fun o=>C5L o.2.1&&C5L o.2.2)
theorem D1Y {l:Lq2} (h:B6M l=true) (i:Nat) (hi:i<l.length):C5L (l.getD i dOp).2.1=true∧C5L (l.getD i dOp).2.2=true:=by
 simp only [B6M,Bool.and_eq_true,List.all_eq_true] at h
 exact h.2 (l.getD i dOp) (by simp [List.getD_eq_getElem?_getD,hi])
theorem D8H {l:Lq2} (h1:l.length≤1048576) (h2:∀ i,i<l.length→okS (l.getD i dOp).2.1=true∧okS (l.getD i dOp).2.2=true):T6 l=true:=by
 simp only [T6,okL,Bool.and_eq_true,decide_eq_true_eq,List.all_eq_true]
 refine ⟨h1,fun o ho=>?_⟩
 obtain ⟨i,hi,rfl⟩:=List.getElem_of_mem ho
 have:=h2 i hi
 simp only [List.getD_eq_getElem?_getD,List.getElem?_eq_getElem hi,Option.getD_some] at this
 simp [D9R,this.1,this.2]
theorem C9R (a b:ByteArray):(a.toList==b.toList)=decide (a=b):=by
 rw [ByteArray.toList_eq,ByteArray.toList_eq]
 by_cases h:a=b
 ·subst h;simp
 ·rw [decide_eq_false h,beq_eq_false_iff_ne]
  intro e
  exact h (by cases a;cases b;simp at e;rw [e])
theorem D5P {l:Lq2} (h:B6M l=true):l.length≤9223372036854775807:=by
 simp only [B6M,Bool.and_eq_true,decide_eq_true_eq] at h;exact h.1
theorem D2c {l:Lq2} (h:T6 l=true):okL l=true:=by
 simp only [T6,Bool.and_eq_true] at h;exact h.1
theorem D62 {l:Lq2} (h:A2W tq4 l=true):B6M l=true:=by
 have h:(decide (l.length≤maxLen)&&l.all fun o=>(Lit.int .i64 o.1).wf&&(decide (o.2.1.size≤maxLen)&&decide (o.2.2.size≤maxLen)))=true:=h
 have hm:maxLen=9223372036854775807:=by decide
 rw [hm] at h
 simp only [Bool.and_eq_true,decide_eq_true_eq,List.all_eq_true] at h
 simp only [B6M,C5L,Bool.and_eq_true,decide_eq_true_eq,List.all_eq_true]
 exact ⟨h.1,fun o ho=>(h.2 o ho).2⟩
noncomputable def D2K (x:Int):ByteArray:=(⟨([IntKind.wrap .u8 (wI ((48:Int)+(Int.tmod x (10:Int))))].map fun n=>UInt8.ofNat n.toNat).toArray⟩:ByteArray)
theorem C7c (x:Int):(D2K x).size=1:=rfl
noncomputable def C65:Nat→Int→ByteArray→ByteArray
 | 0,_,s=>s
 | k+1,x,s=>cond (decide (x > 0)) (C65 k (wI (Int.tdiv x (10:Int))) (D2K x++s)) s
theorem D8S:∀ (k:Nat) (x:Int) (s:ByteArray),(C65 k x s).size≤k+s.size:=by
 intro k
 induction k with
 | zero=>intro x s;simp [C65]
 | succ k ih =>
  intro x s
  simp only [C65]
  cases decide (x > 0) with
  | true =>
   have:=ih (wI (Int.tdiv x (10:Int))) (D2K x++s)
   rw [ByteArray.size_append,C7c] at this
   simp only [cond_true];omega
  | false=>simp only [cond_false];omega
abbrev C5B:List PSh:=[.agg [(.int .i64),.str,.str],.t (.int .i64)]
noncomputable def D19 (a0:Int) (a1 a2:ByteArray) (a3:Int):Int:=let z2:=wI (a3 - (a1.size:Int));let z1:=wI (z2 - (a2.size:Int));(cond (decide (z2<(0:Int))) (-1:Int) (cond (decide (z1<(0:Int))) (-1:Int) z1))
noncomputable abbrev C3q (r:Int):AV×List AObj:=((ti r),[])
noncomputable abbrev D2Q:D9 C5B→AV×List AObj:=fun d=>C3q (D19 d.1.1 d.1.2.1 d.1.2.2.1 d.2.1)
noncomputable abbrev C7G:D9 C5B→Bool:=fun d=>true
theorem D7D:A7X true G0 aLn Tryz.f17 C5B C7G D2Q:=by
 rintro ⟨⟨a0,⟨a1,⟨a2,_⟩⟩⟩,⟨a3,_⟩⟩ hp
 refine Eq.trans (b:=(let z2:=wI (a3 - (a1.size:Int));let z1:=wI (z2 - (a2.size:Int));cond (decide (z2<(0:Int))) (some (C3q (-1:Int))) (cond (decide (z1<(0:Int))) (some (C3q (-1:Int))) (some (C3q z1))))) (by kernel_rfl) ?_
 exact (Q7 C3q (fun _h=>rfl) (fun _h=>(Q7 C3q (fun _h=>rfl) (fun _h=>rfl))))
theorem D83:aPP 17 (A19 C5B C7G D2Q):=pcD true G0 hlz D7D
noncomputable def S1:Tab:=Tab.add S0 17 (lift (A19 C5B C7G D2Q))
noncomputable def QF1:FuncId→Bool:=qadd QF0 17
theorem G1:aPG S1 QF1:=G0.addQ D83 (cbl Tryz.f17) (fun _=>rfl)

abbrev C8W:List Sh:=.junk::.junk::.junk::.junk::.junk::.junk::.junk::.junk::.junk::.junk::.junk::.junk::.junk::.junk::.junk::.junk::.junk::.junk::.junk::.junk::.junk::[]
abbrev D22:List Sh:=.junk::C8W
abbrev D0n:List Sh:=.junk::.junk::.junk::D22
abbrev u23:=((),(),(),(),(),(),(),(),(),(),(),(),(),(),(),(),(),(),(),(),(),(),())
abbrev u22:=((),(),(),(),(),(),(),(),(),(),(),(),(),(),(),(),(),(),(),(),(),())
abbrev u26:=((),(),(),u23)
noncomputable def W7 (x0:Lq2) (i:Nat) (b:Int):Int:=(D19 ((x0.getD i ((0:Int),(bE,bE))).1) (((x0.getD i ((0:Int),(bE,bE))).2).1) (((x0.getD i ((0:Int),(bE,bE))).2).2) b)
abbrev C1P:List PSh:=[.t tq4,.t (.int .i64)]
abbrev B2e:SS:=⟨(.t false tq4::tI::.junk::.junk::.junk::tI::C8W),[]⟩
abbrev B5Q:SS:=⟨(.junk::.junk::.junk::.junk::tI::D22),[]⟩
abbrev B9M:SS:=⟨(.junk::tI::D0n),[]⟩
noncomputable def C3f (x0:Lq2) (x1 x5:Int):RT B2e.den:=let z1:=x0.getD x5.toNat ((0:Int),(bE,bE));let z2:=D19 (z1.1) ((z1.2).1) ((z1.2).2) x1;(.br (decide (x5<(x0.length:Int))) (.br (decide (0≤x5∧x5<(x0.length:Int))) (.br (decide (z2<(0:Int))) (.done .ret B5Q (((),(),(),(),(-1:Int),u23),())) (.next ((x0,z2,(),(),(),wI (x5+(1:Int)),u22),()))) .fail) (.done (.exit 0) B9M (((),x1,u26),())))
noncomputable def B6H (x0:Lq2) (x1 x5:Int):CT:=(.br (decide (0≤x5)&&okL x0) (.br (A7S (szN (W7 x0) (x0.length - x5.toNat) x5.toNat x1)) (.done (.exit 0) B9M (((),(A7J (-1) (szN (W7 x0) (x0.length - x5.toNat) x5.toNat x1)),u26),())) (.done .ret B5Q (((),(),(),(),(-1:Int),u23),()))) .fail)
noncomputable abbrev B08:B2e.den→RT B2e.den:=(fun d=>C3f d.1.1 d.1.2.1 d.1.2.2.2.2.2.1)
noncomputable abbrev B74 (x0:Lq2) (x1 x5:Int):B2e.den:=((x0,x1,(),(),(),x5,u22),())
noncomputable def C33:Code:=((D5 0 (A1o Tryz.f5)).getD 0 (0,.skip)).2
theorem D5F (x0:Lq2) (x1 x5:Int):(B6H x0 x1 x5).val (D:=B2e.den)=.fail∨Runs B08 (B74 x0 x1 x5) (B6H x0 x1 x5).val:=by
 cases hc:(decide (0≤x5)&&okL x0) with
 | false=>left;simp only [B6H,CT.val,hc,cond_false]
 | true =>
  right
  simp only [B6H,CT.val,hc,cond_true]
  simp only [Bool.and_eq_true,decide_eq_true_eq] at hc
  obtain ⟨i,rfl⟩:=Int.eq_ofNat_of_zero_le hc.1
  have hs:=A7L hc.2
  simp only [Int.toNat_natCast]
  have h:=Runs.loopN (step:=B08) (fun j b=>B74 x0 b (j:Int)) (fun _ _=>True) (x0.length) (fun i b=>cond (decide (W7 x0 i b<0)) (.inr ()) (.inl (W7 x0 i b)))
   (fin:=fun b=>((.done (.exit 0) B9M (((),b,u26),())):CT).val) (bad:=fun _=>((.done .ret B5Q (((),(),(),(),(-1:Int),u23),())):CT).val)
   (fun i b hi _=>?_) (fun i b hi _=>?_) (x0.length - i) i x1 rfl trivial
  ·simp only [szN]
   revert h
   cases loopN (fun i b=>cond (decide (W7 x0 i b<0)) (.inr ()) (.inl (W7 x0 i b))) (x0.length - i) i x1 with
   | inl b=>exact id
   | inr c=>exact id
  ·
   have h0a:decide ((i:Int)<(x0.length:Int))=true:=decide_eq_true (by omega)
   have h0b:decide (0≤(i:Int)∧(i:Int)<(x0.length:Int))=true:=decide_eq_true (by omega)
   have e:(B08 (B74 x0 b (i:Int))).val=cond (decide (W7 x0 i b<0)) ((.done .ret B5Q (((),(),(),(),(-1:Int),u23),())):CT).val (.next (B74 x0 (W7 x0 i b) ((i+1:Nat):Int))):=by
    simp only [B08,C3f,RT.val,h0a,h0b,cond_true,A7T i (by omega),Int.toNat_natCast]
    rfl
   cases hr:decide (W7 x0 i b<0) with
   | true=>exact .inr ⟨(),_,_,_,rfl,by rw [e,hr];rfl,rfl,by simp⟩
   | false=>exact .inl ⟨_,rfl,trivial,by rw [e,hr];rfl⟩
  ·have h1:decide ((i:Int)<(x0.length:Int))=false:=decide_eq_false (by omega)
   exact ⟨by simp only [B08,C3f,RT.val,h1,cond_false];rfl,_,_,_,rfl,by simp⟩
theorem D3k:RdA G1 aLn 0 C33 B2e 0 [] (kepts [4] [(0,[1])]) (fun d=>(B08 d).opt 0 []):=by
 intro d
 kernel_rfl
noncomputable abbrev C6M:St→Option Tree:=B2e.say 0 [] [] (fun d=>B6H d.1.1 d.1.2.1 d.1.2.2.2.2.2.1)
theorem D4P:aPL C6M C33:=SS.wp2 hlz [] B08 D3k (fun d=>rfl) _ (fun d=>D5F d.1.1 d.1.2.1 d.1.2.2.2.2.2.1)
noncomputable def A9D (a0:Lq2) (a1:Int):Int:=let z2:=wI (a1 - (a0.length:Int));let z1:=szN (W7 a0) (a0.length - (0:Int).toNat) (0:Int).toNat z2;(cond (decide (z2<(0:Int))) (-1:Int) (cond (A7S z1) (A7J (-1) z1) (-1:Int)))
noncomputable abbrev B87 (r:Int):AV×List AObj:=((ti r),[])
noncomputable abbrev C99:D9 C1P→AV×List AObj:=fun d=>B87 (A9D d.1 d.2.1)
noncomputable def B7p (a0:Lq2) (a1:Int):Bool:=decide (0≤a1∧a1≤1048576∧a0.length≤9223372036854775807)
noncomputable abbrev C41:D9 C1P→Bool:=fun d=>B7p d.1 d.2.1
noncomputable abbrev D7U:Nat→St→Option Tree:=fun b=>match b with | 0=>C6M | _=>fun _=>none
theorem D6v:A7X true G1 (D7U) Tryz.f5 C1P C41 C99:=by
 rintro ⟨a0,⟨a1,_⟩⟩ hp
 change B7p a0 a1=true at hp
 unfold B7p at hp
 refine Eq.trans (b:=(let z2:=wI (a1 - (a0.length:Int));let z1:=szN (W7 a0) (a0.length - (0:Int).toNat) (0:Int).toNat z2;cond (decide (z2<(0:Int))) (some (B87 (-1:Int))) (cond (decide (0≤(0:Int))&&okL a0) (cond (A7S z1) (some (B87 (A7J (-1) z1))) (some (B87 (-1:Int)))) none))) (by kernel_rfl) ?_
 exact (Q7 B87 (fun _h=>rfl) (fun _h=>(A70 (by simp only [decide_eq_true_eq,decide_eq_false_iff_not] at hp _h;have hw:=A61 (n:=a1 - (a0.length:Int)) (by omega) (by omega);rw [hw] at _h;simp [okL];omega) (fun _h=>(Q7 B87 (fun _h=>rfl) (fun _h=>rfl))))))
theorem D8b:aPP 5 (A19 C1P C41 C99):=pcD true G1 (hl1 (i:=0) (by kernel_rfl) D4P) D6v
noncomputable def S2:Tab:=Tab.add S1 5 (lift (A19 C1P C41 C99))
noncomputable def QF2:FuncId→Bool:=qadd QF1 5
theorem G2:aPG S2 QF2:=G1.addQ D8b (cbl Tryz.f5) (fun _=>rfl)

abbrev C1Q:List PSh:=[.agg [(.int .i64),(.int .i64),tq4],.t (.int .i64)]
noncomputable def B8p (a0 a1:Int) (a2:Lq2) (a3:Int):Int:=(cond (decide ((A9D a2 a3)<(0:Int))) (-1:Int) (A9D a2 a3))
noncomputable abbrev C5V (r:Int):AV×List AObj:=((ti r),[])
noncomputable abbrev D0a:D9 C1Q→AV×List AObj:=fun d=>C5V (B8p d.1.1 d.1.2.1 d.1.2.2.1 d.2.1)
noncomputable def B9t (a0 a1:Int) (a2:Lq2) (a3:Int):Bool:=decide (0≤a3∧a3≤1048576∧a2.length≤9223372036854775807)
noncomputable abbrev C42:D9 C1Q→Bool:=fun d=>B9t d.1.1 d.1.2.1 d.1.2.2.1 d.2.1
theorem D6w:A7X true G2 aLn Tryz.f35 C1Q C42 D0a:=by
 rintro ⟨⟨a0,⟨a1,⟨a2,_⟩⟩⟩,⟨a3,_⟩⟩ hp
 change B9t a0 a1 a2 a3=true at hp
 unfold B9t at hp
 refine Eq.trans (b:=(cond (B7p a2 a3) (cond (decide ((A9D a2 a3)<(0:Int))) (some (C5V (-1:Int))) (some (C5V (A9D a2 a3)))) none)) (by kernel_rfl) ?_
 exact (A70 (by first | rfl | decide | exact hp | (simp only [Bool.and_eq_true] at hp;simp only [hp];done) | (simp [*];done) | (simp [okL] at hp;simp [okL,MAXB];omega) | (simp_all;done) | (simp at *;omega)) (fun _h=>(Q7 C5V (fun _h=>rfl) (fun _h=>rfl))))
theorem D8c:aPP 35 (A19 C1Q C42 D0a):=pcD true G2 hlz D6w
noncomputable def S3:Tab:=Tab.add S2 35 (lift (A19 C1Q C42 D0a))
noncomputable def QF3:FuncId→Bool:=qadd QF2 35
theorem G3:aPG S3 QF3:=G2.addQ D8c (cbl Tryz.f35) (fun _=>rfl)

abbrev tq3:Ty:=.sl (.pair (.int .i64) (.pair (.int .i64) (.sl (.pair (.int .i64) (.pair .str .str)))))
abbrev Lq1:=List (Int×Int×List (Int×ByteArray×ByteArray))
abbrev B8S:List PSh:=[.t tq3,.t (.int .i64)]
abbrev B0y:SS:=⟨(.t false tq3::tI::.junk::.junk::.junk::tI::C8W),[]⟩
abbrev C3P:SS:=⟨(.junk::.junk::.junk::.junk::tI::D22),[]⟩
abbrev C3Q:SS:=⟨(.junk::tI::D0n),[]⟩
noncomputable def C6Y (x0:Lq1) (x1 x5:Int):RT B0y.den:=let z1:=x0.getD x5.toNat ((0:Int),((0:Int),[]));let z2:=B8p (z1.1) ((z1.2).1) ((z1.2).2) x1;(.br (decide (x5<(x0.length:Int))) (.br (decide (0≤x5∧x5<(x0.length:Int))) (.br (B9t (z1.1) ((z1.2).1) ((z1.2).2) x1) (.br (decide (z2<(0:Int))) (.done .ret C3P (((),(),(),(),(-1:Int),u23),())) (.next ((x0,z2,(),(),(),wI (x5+(1:Int)),u22),()))) .fail) .fail) (.done (.exit 0) C3Q (((),x1,u26),())))
abbrev B4Z:=(Lq1)×(Int)×(Int)
abbrev B2x:=Nat×(Int)×(Int)
def B96:B2x:=(99,((0:Int):Int),((0:Int):Int))
noncomputable def B1v (x0:Lq1) (x1 x5:Int):B4Z ⊕ B2x:=let z1:=x0.getD x5.toNat ((0:Int),((0:Int),[]));let z2:=B8p (z1.1) ((z1.2).1) ((z1.2).2) x1;(cond (decide (x5<(x0.length:Int))) (cond (decide (0≤x5∧x5<(x0.length:Int))) (cond (B9t (z1.1) ((z1.2).1) ((z1.2).2) x1) (cond (decide (z2<(0:Int))) (.inr (0,(-1:Int),((0:Int):Int))) (.inl (x0,z2,wI (x5+(1:Int))))) (.inr B96)) (.inr B96)) (.inr (1,((0:Int):Int),x1)))
noncomputable def A8F (x0:Lq1) (x1 x5:Int):B2x:=itX (fun v:B4Z=>B1v v.1 v.2.1 v.2.2) B96 (x0,x1,x5)
noncomputable def B9V (a:B2x):CT:=(.br (a.1==0) (.done .ret C3P (((),(),(),(),a.2.1,u23),())) (.br (a.1==1) (.done (.exit 0) C3Q (((),a.2.2,u26),())) .fail))
noncomputable def D39 (x0:Lq1) (x1 x5:Int):CT:=B9V (A8F x0 x1 x5)
noncomputable abbrev C0M:B0y.den→RT B0y.den:=(fun d=>C6Y d.1.1 d.1.2.1 d.1.2.2.2.2.2.1)
noncomputable def C14:Code:=((D5 0 (A1o Tryz.f15)).getD 0 (0,.skip)).2
noncomputable abbrev C6o (v:B4Z):B0y.den:=((v.1,v.2.1,(),(),(),v.2.2,u22),())
theorem D3z:(∀ v:B4Z,(C6Y v.1 v.2.1 v.2.2).val=A6W C6o B9V (B1v v.1 v.2.1 v.2.2))∧∀ a:B2x,CEnd B0y.den (B9V a):=⟨fun v=>(A72 (A72 (A72 (A72 rfl rfl) rfl) rfl) rfl),fun a=>(A7P aCD (A7P aCD A7R))⟩
theorem D1E:RdA G3 aLn 0 C14 B0y 0 [] (kepts [4] [(0,[1])]) (fun d=>(C0M d).opt 0 []):=by
 intro d
 kernel_rfl
noncomputable abbrev C4s:St→Option Tree:=B0y.say 0 [] [] (fun d=>D39 d.1.1 d.1.2.1 d.1.2.2.2.2.2.1)
theorem D27:aPL C4s C14:=SS.wp2 hlz [] C0M D1E (fun d=>rfl) _ (fun d=>Runs.ofI2 (step:=C0M) C6o D3z rfl (d.1.1,d.1.2.1,d.1.2.2.2.2.2.1))
noncomputable def Z6 (a0:Lq1) (a1:Int):Int:=let z2:=wI (a1 - (a0.length:Int));let z1:=A8F a0 z2 (0:Int);(cond (decide (z2<(0:Int))) (-1:Int) (cond (z1.1==0) (z1.2.1) (z1.2.2)))
noncomputable abbrev B6i (r:Int):AV×List AObj:=((ti r),[])
noncomputable abbrev C7k:D9 B8S→AV×List AObj:=fun d=>B6i (Z6 d.1 d.2.1)
noncomputable def B1p (a0:Lq1) (a1:Int):Bool:=let z1:=wI (a1 - (a0.length:Int));let z2:=A8F a0 z1 (0:Int);cond (decide (z1<(0:Int))) true (cond (z2.1==0) true (z2.1==1))
noncomputable abbrev C2G:D9 B8S→Bool:=fun d=>B1p d.1 d.2.1
noncomputable abbrev D6U:Nat→St→Option Tree:=fun b=>match b with | 0=>C4s | _=>fun _=>none
theorem D5h:A7X true G3 (D6U) Tryz.f15 B8S C2G C7k:=by
 rintro ⟨a0,⟨a1,_⟩⟩ hp
 change B1p a0 a1=true at hp
 unfold B1p at hp
 refine Eq.trans (b:=(let z2:=wI (a1 - (a0.length:Int));let z1:=A8F a0 z2 (0:Int);cond (decide (z2<(0:Int))) (some (B6i (-1:Int))) (cond (z1.1==0) (some (B6i (z1.2.1))) (cond (z1.1==1) (some (B6i (z1.2.2))) none)))) (by kernel_rfl) ?_
 exact (K9 B6i hp (fun hp=>rfl) (fun hp=>(K9 B6i hp (fun hp=>rfl) (fun hp=>(A70 hp fun _h=>rfl)))))
theorem D7b:aPP 15 (A19 B8S C2G C7k):=pcD true G3 (hl1 (i:=0) (by kernel_rfl) D27) D5h
noncomputable def S4:Tab:=Tab.add S3 15 (lift (A19 B8S C2G C7k))
noncomputable def QF4:FuncId→Bool:=qadd QF3 15
theorem G4:aPG S4 QF4:=G3.addQ D7b (cbl Tryz.f15) (fun _=>rfl)

abbrev B8R:List PSh:=[.agg [.str,.str],.t (.int .i64)]
noncomputable def C3B (a0 a1:ByteArray) (a2:Int):Int:=let z2:=wI (a2 - (a0.size:Int));let z1:=wI (z2 - (a1.size:Int));(cond (decide (z2<(0:Int))) (-1:Int) (cond (decide (z1<(0:Int))) (-1:Int) z1))
noncomputable abbrev B88 (r:Int):AV×List AObj:=((ti r),[])
noncomputable abbrev C7j:D9 B8R→AV×List AObj:=fun d=>B88 (C3B d.1.1 d.1.2.1 d.2.1)
noncomputable abbrev C2F:D9 B8R→Bool:=fun d=>true
theorem D5g:A7X true G4 aLn Tryz.f36 B8R C2F C7j:=by
 rintro ⟨⟨a0,⟨a1,_⟩⟩,⟨a2,_⟩⟩ hp
 refine Eq.trans (b:=(let z2:=wI (a2 - (a0.size:Int));let z1:=wI (z2 - (a1.size:Int));let z3:=B88 (-1:Int);cond (decide (z2<(0:Int))) (some z3) (cond (decide (z1<(0:Int))) (some z3) (some (B88 z1))))) (by kernel_rfl) ?_
 exact (Q7 B88 (fun _h=>rfl) (fun _h=>(Q7 B88 (fun _h=>rfl) (fun _h=>rfl))))
theorem D7a:aPP 36 (A19 B8R C2F C7j):=pcD true G4 hlz D5g
noncomputable def S5:Tab:=Tab.add S4 36 (lift (A19 B8R C2F C7j))
noncomputable def QF5:FuncId→Bool:=qadd QF4 36
theorem G5:aPG S5 QF5:=G4.addQ D7a (cbl Tryz.f36) (fun _=>rfl)

abbrev LBBe:=List (ByteArray×ByteArray)
abbrev tq6:Ty:=.sl (.pair .str .str)
noncomputable def R8 (x0:LBBe) (i:Nat) (b:Int):Int:=(C3B ((x0.getD i (bE,bE)).1) ((x0.getD i (bE,bE)).2) b)
abbrev B6z:List PSh:=[.t tq6,.t (.int .i64)]
abbrev A9A:SS:=⟨(.t false tq6::tI::.junk::.junk::.junk::tI::C8W),[]⟩
abbrev B2Z:SS:=⟨(.junk::.junk::.junk::.junk::tI::D22),[]⟩
abbrev B6p:SS:=⟨(.junk::tI::D0n),[]⟩
noncomputable def B8z (x0:LBBe) (x1 x5:Int):RT A9A.den:=let z2:=x0.getD x5.toNat (bE,bE);let z1:=C3B (z2.1) (z2.2) x1;(.br (decide (x5<(x0.length:Int))) (.br (decide (0≤x5∧x5<(x0.length:Int))) (.br (decide (z1<(0:Int))) (.done .ret B2Z (((),(),(),(),(-1:Int),u23),())) (.next ((x0,z1,(),(),(),wI (x5+(1:Int)),u22),()))) .fail) (.done (.exit 0) B6p (((),x1,u26),())))
noncomputable def B3h (x0:LBBe) (x1 x5:Int):CT:=(.br (decide (0≤x5)&&okL x0) (.br (A7S (szN (R8 x0) (x0.length - x5.toNat) x5.toNat x1)) (.done (.exit 0) B6p (((),(A7J (-1) (szN (R8 x0) (x0.length - x5.toNat) x5.toNat x1)),u26),())) (.done .ret B2Z (((),(),(),(),(-1:Int),u23),()))) .fail)
noncomputable abbrev A8X:A9A.den→RT A9A.den:=(fun d=>B8z d.1.1 d.1.2.1 d.1.2.2.2.2.2.1)
noncomputable abbrev B4P (x0:LBBe) (x1 x5:Int):A9A.den:=((x0,x1,(),(),(),x5,u22),())
noncomputable def C07:Code:=((D5 0 (A1o Tryz.f16)).getD 0 (0,.skip)).2
theorem D2u (x0:LBBe) (x1 x5:Int):(B3h x0 x1 x5).val (D:=A9A.den)=.fail∨Runs A8X (B4P x0 x1 x5) (B3h x0 x1 x5).val:=by
 cases hc:(decide (0≤x5)&&okL x0) with
 | false=>left;simp only [B3h,CT.val,hc,cond_false]
 | true =>
  right
  simp only [B3h,CT.val,hc,cond_true]
  simp only [Bool.and_eq_true,decide_eq_true_eq] at hc
  obtain ⟨i,rfl⟩:=Int.eq_ofNat_of_zero_le hc.1
  have hs:=A7L hc.2
  simp only [Int.toNat_natCast]
  have h:=Runs.loopN (step:=A8X) (fun j b=>B4P x0 b (j:Int)) (fun _ _=>True) (x0.length) (fun i b=>cond (decide (R8 x0 i b<0)) (.inr ()) (.inl (R8 x0 i b)))
   (fin:=fun b=>((.done (.exit 0) B6p (((),b,u26),())):CT).val) (bad:=fun _=>((.done .ret B2Z (((),(),(),(),(-1:Int),u23),())):CT).val)
   (fun i b hi _=>?_) (fun i b hi _=>?_) (x0.length - i) i x1 rfl trivial
  ·simp only [szN]
   revert h
   cases loopN (fun i b=>cond (decide (R8 x0 i b<0)) (.inr ()) (.inl (R8 x0 i b))) (x0.length - i) i x1 with
   | inl b=>exact id
   | inr c=>exact id
  ·
   have h0a:decide ((i:Int)<(x0.length:Int))=true:=decide_eq_true (by omega)
   have h0b:decide (0≤(i:Int)∧(i:Int)<(x0.length:Int))=true:=decide_eq_true (by omega)
   have e:(A8X (B4P x0 b (i:Int))).val=cond (decide (R8 x0 i b<0)) ((.done .ret B2Z (((),(),(),(),(-1:Int),u23),())):CT).val (.next (B4P x0 (R8 x0 i b) ((i+1:Nat):Int))):=by
    simp only [A8X,B8z,RT.val,h0a,h0b,cond_true,A7T i (by omega),Int.toNat_natCast]
    rfl
   cases hr:decide (R8 x0 i b<0) with
   | true=>exact .inr ⟨(),_,_,_,rfl,by rw [e,hr];rfl,rfl,by simp⟩
   | false=>exact .inl ⟨_,rfl,trivial,by rw [e,hr];rfl⟩
  ·have h1:decide ((i:Int)<(x0.length:Int))=false:=decide_eq_false (by omega)
   exact ⟨by simp only [A8X,B8z,RT.val,h1,cond_false];rfl,_,_,_,rfl,by simp⟩
theorem D0I:RdA G5 aLn 0 C07 A9A 0 [] (kepts [4] [(0,[1])]) (fun d=>(A8X d).opt 0 []):=by
 intro d
 kernel_rfl
noncomputable abbrev C21:St→Option Tree:=A9A.say 0 [] [] (fun d=>B3h d.1.1 d.1.2.1 d.1.2.2.2.2.2.1)
theorem D1z:aPL C21 C07:=SS.wp2 hlz [] A8X D0I (fun d=>rfl) _ (fun d=>D2u d.1.1 d.1.2.1 d.1.2.2.2.2.2.1)
noncomputable def B0X (a0:LBBe) (a1:Int):Int:=let z2:=wI (a1 - (a0.length:Int));let z1:=szN (R8 a0) (a0.length - (0:Int).toNat) (0:Int).toNat z2;(cond (decide (z2<(0:Int))) (-1:Int) (cond (A7S z1) (A7J (-1) z1) (-1:Int)))
noncomputable abbrev B60 (r:Int):AV×List AObj:=((ti r),[])
noncomputable abbrev C4L:D9 B6z→AV×List AObj:=fun d=>B60 (B0X d.1 d.2.1)
noncomputable def B4t (a0:LBBe) (a1:Int):Bool:=decide (0≤a1∧a1≤1048576∧a0.length≤9223372036854775807)
noncomputable abbrev C0z:D9 B6z→Bool:=fun d=>B4t d.1 d.2.1
noncomputable abbrev D5B:Nat→St→Option Tree:=fun b=>match b with | 0=>C21 | _=>fun _=>none
theorem D3N:A7X true G5 (D5B) Tryz.f16 B6z C0z C4L:=by
 rintro ⟨a0,⟨a1,_⟩⟩ hp
 change B4t a0 a1=true at hp
 unfold B4t at hp
 refine Eq.trans (b:=(let z2:=wI (a1 - (a0.length:Int));let z1:=szN (R8 a0) (a0.length - (0:Int).toNat) (0:Int).toNat z2;let z3:=B60 (-1:Int);cond (decide (z2<(0:Int))) (some z3) (cond (decide (0≤(0:Int))&&okL a0) (cond (A7S z1) (some (B60 (A7J (-1) z1))) (some z3)) none))) (by kernel_rfl) ?_
 exact (Q7 B60 (fun _h=>rfl) (fun _h=>(A70 (by simp only [decide_eq_true_eq,decide_eq_false_iff_not] at hp _h;have hw:=A61 (n:=a1 - (a0.length:Int)) (by omega) (by omega);rw [hw] at _h;simp [okL];omega) (fun _h=>(Q7 B60 (fun _h=>rfl) (fun _h=>rfl))))))
theorem D5X:aPP 16 (A19 B6z C0z C4L):=pcD true G5 (hl1 (i:=0) (by kernel_rfl) D1z) D3N
noncomputable def S6:Tab:=Tab.add S5 16 (lift (A19 B6z C0z C4L))
noncomputable def QF6:FuncId→Bool:=qadd QF5 16
theorem G6:aPG S6 QF6:=G5.addQ D5X (cbl Tryz.f16) (fun _=>rfl)

abbrev B6A:List PSh:=[.agg [(.int .i64),tq3,(.int .i64),tq6,tq3],.t (.int .i64)]
noncomputable def A9X (a0:Int) (a1:Lq1) (a2:Int) (a3:LBBe) (a4:Lq1) (a5:Int):Int:=let z1:=B0X a3 (Z6 a1 a5);(cond (decide ((Z6 a1 a5)<(0:Int))) (-1:Int) (cond (decide (z1<(0:Int))) (-1:Int) (cond (decide ((Z6 a4 z1)<(0:Int))) (-1:Int) (Z6 a4 z1))))
noncomputable abbrev B4m (r:Int):AV×List AObj:=((ti r),[])
noncomputable abbrev C4M:D9 B6A→AV×List AObj:=fun d=>B4m (A9X d.1.1 d.1.2.1 d.1.2.2.1 d.1.2.2.2.1 d.1.2.2.2.2.1 d.2.1)
noncomputable def B2q (a0:Int) (a1:Lq1) (a2:Int) (a3:LBBe) (a4:Lq1) (a5:Int):Bool:=let z1:=Z6 a1 a5;(B1p a1 a5)&&(cond (decide (z1<(0:Int))) true ((B4t a3 z1)&&(cond (decide ((B0X a3 z1)<(0:Int))) true (B1p a4 (B0X a3 z1)))))
noncomputable abbrev C0A:D9 B6A→Bool:=fun d=>B2q d.1.1 d.1.2.1 d.1.2.2.1 d.1.2.2.2.1 d.1.2.2.2.2.1 d.2.1
theorem D3O:A7X true G6 aLn Tryz.f4 B6A C0A C4M:=by
 rintro ⟨⟨a0,⟨a1,⟨a2,⟨a3,⟨a4,_⟩⟩⟩⟩⟩,⟨a5,_⟩⟩ hp
 change B2q a0 a1 a2 a3 a4 a5=true at hp
 unfold B2q at hp
 refine Eq.trans (b:=(let z2:=B4m (-1:Int);let z3:=Z6 a1 a5;let z1:=B0X a3 z3;cond (B1p a1 a5) (cond (decide (z3<(0:Int))) (some z2) (cond (B4t a3 z3) (cond (decide (z1<(0:Int))) (some z2) (cond (B1p a4 z1) (cond (decide ((Z6 a4 z1)<(0:Int))) (some z2) (some (B4m (Z6 a4 z1)))) none)) none)) none)) (by kernel_rfl) ?_
 exact (A7Y hp fun hp=>(K9 B4m hp (fun hp=>rfl) (fun hp=>(A7Y hp fun hp=>(K9 B4m hp (fun hp=>rfl) (fun hp=>(A70 hp fun _h=>(Q7 B4m (fun _h=>rfl) (fun _h=>rfl)))))))))
theorem D5Y:aPP 4 (A19 B6A C0A C4M):=pcD true G6 hlz D3O
noncomputable def S7:Tab:=Tab.add S6 4 (lift (A19 B6A C0A C4M))
noncomputable def QF7:FuncId→Bool:=qadd QF6 4
theorem G7:aPG S7 QF7:=G6.addQ D5Y (cbl Tryz.f4) (fun _=>rfl)

abbrev C5C:List PSh:=[.agg [(.int .i64),.str,.str]]
noncomputable def C8i (a0:Int) (a1 a2:ByteArray):Int×ByteArray×ByteArray:=(a0,a1,a2)
noncomputable abbrev D9b (r:Int×ByteArray×ByteArray):AV×List AObj:=((.agg [(ti r.1),(.t true .str r.2.1),(.t true .str r.2.2)]),[])
noncomputable abbrev D2R:D9 C5C→AV×List AObj:=fun d=>D9b (C8i d.1.1 d.1.2.1 d.1.2.2.1)
noncomputable abbrev C7H:D9 C5C→Bool:=fun d=>true
theorem D7E:A7X true G7 aLn Tryz.f23 C5C C7H D2R:=by
 rintro ⟨⟨a0,⟨a1,⟨a2,_⟩⟩⟩,_⟩ hp
 kernel_rfl
theorem D84:aPP 23 (A19 C5C C7H D2R):=pcD true G7 hlz D7E
noncomputable def S8:Tab:=Tab.add S7 23 (lift (A19 C5C C7H D2R))
noncomputable def QF8:FuncId→Bool:=qadd QF7 23
theorem G8:aPG S8 QF8:=G7.addQ D84 (cbl Tryz.f23) (fun _=>rfl)

abbrev D4G:List Sh:=.junk::.junk::.junk::.junk::.junk::.junk::.junk::.junk::.junk::.junk::.junk::.junk::.junk::.junk::.junk::.junk::.junk::.junk::[]
abbrev tq8:Ty:=.pair (.int .i64) (.pair .str .str)
abbrev D7q:List Sh:=.junk::D4G
abbrev u19:=((),(),(),(),(),(),(),(),(),(),(),(),(),(),(),(),(),(),())
abbrev u24:=((),u23)
noncomputable def B94 (x0:Lq2) (i:Nat):Int×ByteArray×ByteArray:=(((C8i ((x0.getD i ((0:Int),(bE,bE))).1) (((x0.getD i ((0:Int),(bE,bE))).2).1) (((x0.getD i ((0:Int),(bE,bE))).2).2)).1),(((C8i ((x0.getD i ((0:Int),(bE,bE))).1) (((x0.getD i ((0:Int),(bE,bE))).2).1) (((x0.getD i ((0:Int),(bE,bE))).2).2)).2.1),((C8i ((x0.getD i ((0:Int),(bE,bE))).1) (((x0.getD i ((0:Int),(bE,bE))).2).1) (((x0.getD i ((0:Int),(bE,bE))).2).2)).2.2)))
abbrev C1R:List PSh:=[.t tq4]
abbrev B2f:SS:=⟨(.t false tq4::.junk::.junk::.all 0 3::tI::D4G),[.rows 54 true tq8]⟩
abbrev B9N:SS:=⟨(.junk::.junk::.junk::.all 0 3::D7q),[.rows 54 true tq8]⟩
noncomputable def C3g (x0:Lq2) (x4:Int) (h0:Lq2):RT B2f.den:=let z2:=x0.getD x4.toNat ((0:Int),(bE,bE));let z1:=C8i (z2.1) ((z2.2).1) ((z2.2).2);(.br (decide (x4<(x0.length:Int))) (.br (decide (0≤x4∧x4<(x0.length:Int))) (.br (decide (0≤x4∧x4<(h0.length:Int))) (.next ((x0,(),(),(),wI (x4+(1:Int)),u19),(h0.set x4.toNat ((z1.1),((z1.2.1),(z1.2.2))),()))) .fail) .fail) (.done (.exit 0) B9N ((u24),(h0,()))))
noncomputable def B6I (x0:Lq2) (x4:Int) (h0:Lq2):CT:=(.br (decide (0≤x4)&&(decide (h0.length=x0.length)&&okL x0)) (.done (.exit 0) B9N ((u24),((foldN (fun i h=>h.set i (B94 x0 i)) (x0.length - x4.toNat) x4.toNat h0),()))) .fail)
noncomputable abbrev B2V:B2f.den→RT B2f.den:=(fun d=>C3g d.1.1 d.1.2.2.2.2.1 d.2.1)
noncomputable abbrev C8w (x0:Lq2) (x4:Int) (h0:Lq2):B2f.den:=((x0,(),(),(),x4,u19),(h0,()))
noncomputable def C34:Code:=((D5 0 (A1o Tryz.f8)).getD 0 (0,.skip)).2
theorem D5G (x0:Lq2) (x4:Int) (h0:Lq2):(B6I x0 x4 h0).val (D:=B2f.den)=.fail∨Runs B2V (C8w x0 x4 h0) (B6I x0 x4 h0).val:=by
 cases hc:(decide (0≤x4)&&(decide (h0.length=x0.length)&&okL x0)) with
 | false=>left;simp only [B6I,CT.val,hc,cond_false]
 | true =>
  right
  simp only [B6I,CT.val,hc,cond_true]
  simp only [Bool.and_eq_true,decide_eq_true_eq] at hc
  obtain ⟨i,rfl⟩:=Int.eq_ofNat_of_zero_le hc.1
  have hs:=A7L hc.2.2
  simp only [Int.toNat_natCast]
  refine Runs.foldN (step:=B2V) (fun j b=>C8w x0 (j:Int) b) (fun _ b=>b.length=x0.length) (x0.length) (fun i h=>h.set i (B94 x0 i))
   (fin:=fun b=>((.done (.exit 0) B9N ((u24),(b,()))):CT).val) (fun i b hi hb=>⟨by simpa using hb,?_⟩) (fun i b hi hb=>?_) (x0.length - i) i h0 rfl hc.2.1
  ·
   have h0a:decide ((i:Int)<(x0.length:Int))=true:=decide_eq_true (by omega)
   have h0b:decide (0≤(i:Int)∧(i:Int)<(x0.length:Int))=true:=decide_eq_true (by omega)
   have h9:decide (0≤(i:Int)∧(i:Int)<(b.length:Int))=true:=decide_eq_true (by omega)
   simp only [B2V,C3g,RT.val,h0a,h0b,h9,cond_true,A7T i (by omega),Int.toNat_natCast]
   rfl
  ·have h1:decide ((i:Int)<(x0.length:Int))=false:=decide_eq_false (by omega)
   exact ⟨by simp only [B2V,C3g,RT.val,h1,cond_false];rfl,_,_,_,rfl,by simp⟩
theorem D3l:RdA G8 aLn 0 C34 B2f 0 [] (kepts [] [(0,[3])]) (fun d=>(B2V d).opt 0 []):=by
 intro d
 kernel_rfl
noncomputable abbrev C6N:St→Option Tree:=B2f.say 0 [] [] (fun d=>B6I d.1.1 d.1.2.2.2.2.1 d.2.1)
theorem D4Q:aPL C6N C34:=SS.wp2 hlz [] B2V D3l (fun d=>rfl) _ (fun d=>D5G d.1.1 d.1.2.2.2.2.1 d.2.1)
noncomputable def B5y (a0:Lq2):Lq2:=(foldN (fun i h=>h.set i (B94 a0 i)) (a0.length - (0:Int).toNat) (0:Int).toNat (List.replicate (a0.length:Int).toNat ((0:Int),(bE,bE))))
noncomputable abbrev D4w (r:Lq2):AV×List AObj:=((.all 0 3),[(.rows 54 true tq8 r)])
noncomputable abbrev D0b:D9 C1R→AV×List AObj:=fun d=>D4w (B5y d.1)
noncomputable def B7q (a0:Lq2):Bool:=okL a0
noncomputable abbrev C43:D9 C1R→Bool:=fun d=>B7q d.1
noncomputable abbrev D7V:Nat→St→Option Tree:=fun b=>match b with | 0=>C6N | _=>fun _=>none
theorem D6x:A7X false G8 (D7V) Tryz.f8 C1R C43 D0b:=by
 rintro ⟨a0,_⟩ hp
 change B7q a0=true at hp
 unfold B7q at hp
 refine Eq.trans (b:=(cond (decide (0≤(a0.length:Int)∧(a0.length:Int)=(a0.length:Int)∧(a0.length:Int).toNat*40≤MAXB∧(a0.length:Int)≤9223372036854775807)) (cond (decide (0≤(0:Int))&&(decide ((List.replicate (a0.length:Int).toNat ((0:Int),((⟨#[]⟩:ByteArray),(⟨#[]⟩:ByteArray)))).length=a0.length)&&okL a0)) (some (D4w (foldN (fun i h=>h.set i (B94 a0 i)) (a0.length - (0:Int).toNat) (0:Int).toNat (List.replicate (a0.length:Int).toNat ((0:Int),((⟨#[]⟩:ByteArray),(⟨#[]⟩:ByteArray))))))) none) none)) (by kernel_rfl) ?_
 exact (A70 (by first | rfl | decide | exact hp | (simp only [Bool.and_eq_true] at hp;simp only [hp];done) | (simp [*];done) | (simp [okL] at hp;simp [okL,MAXB];omega) | (simp_all;done) | (simp at *;omega)) (fun _h=>(A70 (by first | rfl | decide | exact hp | (simp only [Bool.and_eq_true] at hp;simp only [hp];done) | (simp [*];done) | (simp [okL] at hp;simp [okL,MAXB];omega) | (simp_all;done) | (simp at *;omega)) (fun _h=>rfl))))
theorem D8d:aPP 8 (A19 C1R C43 D0b):=pcD false G8 (hl1 (i:=0) (by kernel_rfl) D4Q) D6x
noncomputable def S9:Tab:=Tab.add S8 8 (lift (A19 C1R C43 D0b))
noncomputable def QF9:FuncId→Bool:=QF8
theorem G9:aPG S9 QF9:=G8.add D8d (cbl Tryz.f8) (by kernel_rfl)

abbrev C1S:List PSh:=[.agg [(.int .i64),(.int .i64),tq4]]
noncomputable def D23 (a0 a1:Int) (a2:Lq2):Int×Int×Lq2:=(a0,a1,(B5y a2))
noncomputable abbrev D4x (r:Int×Int×Lq2):AV×List AObj:=((.agg [(ti r.1),(ti r.2.1),(.all 0 3)]),[(.rows 54 true tq8 r.2.2)])
noncomputable abbrev D0c:D9 C1S→AV×List AObj:=fun d=>D4x (D23 d.1.1 d.1.2.1 d.1.2.2.1)
noncomputable def B9u (a0 a1:Int) (a2:Lq2):Bool:=okL a2
noncomputable abbrev C44:D9 C1S→Bool:=fun d=>B9u d.1.1 d.1.2.1 d.1.2.2.1
theorem D6y:A7X false G9 aLn Tryz.f49 C1S C44 D0c:=by
 rintro ⟨⟨a0,⟨a1,⟨a2,_⟩⟩⟩,_⟩ hp
 change B9u a0 a1 a2=true at hp
 unfold B9u at hp
 refine Eq.trans (b:=(cond (B7q a2) (some (D4x (a0,a1,(B5y a2)))) none)) (by kernel_rfl) ?_
 exact (A70 (by first | rfl | decide | exact hp | (simp only [Bool.and_eq_true] at hp;simp only [hp];done) | (simp [*];done) | (simp [okL] at hp;simp [okL,MAXB];omega) | (simp_all;done) | (simp at *;omega)) (fun _h=>rfl))
theorem D8e:aPP 49 (A19 C1S C44 D0c):=pcD false G9 hlz D6y
noncomputable def S10:Tab:=Tab.add S9 49 (lift (A19 C1S C44 D0c))
noncomputable def D9U:FuncId→Bool:=QF9
theorem G10:aPG S10 D9U:=G9.add D8e (cbl Tryz.f49) (by kernel_rfl)

abbrev B8U:List PSh:=[.t tq3]
abbrev B0z:SS:=⟨(.t false tq3::.junk::.junk::.all 0 3::tI::D4G),[.deep 80 [54] tq5]⟩
abbrev C3R:SS:=⟨(.junk::.junk::.junk::.all 0 3::D7q),[.deep 80 [54] tq5]⟩
noncomputable def C6Z (x0:Lq1) (x4:Int) (h0:Lq1):RT B0z.den:=let z1:=x0.getD x4.toNat ((0:Int),((0:Int),[]));let z2:=D23 (z1.1) ((z1.2).1) ((z1.2).2);(.br (decide (x4<(x0.length:Int))) (.br (decide (0≤x4∧x4<(x0.length:Int))) (.br (B9u (z1.1) ((z1.2).1) ((z1.2).2)) (.br (decide (0≤x4∧x4<(h0.length:Int))) (.next ((x0,(),(),(),wI (x4+(1:Int)),u19),(h0.set x4.toNat ((z2.1),((z2.2.1),(z2.2.2))),()))) .fail) .fail) .fail) (.done (.exit 0) C3R ((u24),(h0,()))))
abbrev B7L:=(Lq1)×(Int)×(Lq1)
abbrev B4Q:=Nat×(Lq1)
def B54:B4Q:=(99,([]:Lq1))
noncomputable def B6c (x0:Lq1) (x4:Int) (h0:Lq1):B7L ⊕ B4Q:=let z1:=x0.getD x4.toNat ((0:Int),((0:Int),[]));let z2:=D23 (z1.1) ((z1.2).1) ((z1.2).2);(cond (decide (x4<(x0.length:Int))) (cond (decide (0≤x4∧x4<(x0.length:Int))) (cond (B9u (z1.1) ((z1.2).1) ((z1.2).2)) (cond (decide (0≤x4∧x4<(h0.length:Int))) (.inl (x0,wI (x4+(1:Int)),h0.set x4.toNat ((z2.1),((z2.2.1),(z2.2.2))))) (.inr B54)) (.inr B54)) (.inr B54)) (.inr (0,h0)))
noncomputable def B3v (x0:Lq1) (x4:Int) (h0:Lq1):B4Q:=itX (fun v:B7L=>B6c v.1 v.2.1 v.2.2) B54 (x0,x4,h0)
noncomputable def B9W (a:B4Q):CT:=(.br (a.1==0) (.done (.exit 0) C3R ((u24),(a.2,()))) .fail)
noncomputable def D4a (x0:Lq1) (x4:Int) (h0:Lq1):CT:=B9W (B3v x0 x4 h0)
noncomputable abbrev C0N:B0z.den→RT B0z.den:=(fun d=>C6Z d.1.1 d.1.2.2.2.2.1 d.2.1)
noncomputable def C15:Code:=((D5 0 (A1o Tryz.f21)).getD 0 (0,.skip)).2
noncomputable abbrev C6p (v:B7L):B0z.den:=((v.1,(),(),(),v.2.1,u19),(v.2.2,()))
theorem D3A:(∀ v:B7L,(C6Z v.1 v.2.1 v.2.2).val=A6W C6p B9W (B6c v.1 v.2.1 v.2.2))∧∀ a:B4Q,CEnd B0z.den (B9W a):=⟨fun v=>(A72 (A72 (A72 (A72 rfl rfl) rfl) rfl) rfl),fun a=>(A7P aCD A7R)⟩
theorem D1F:RdA (G10.deep ow) aLn 0 C15 B0z 0 [] (kepts [] [(0,[3])]) (fun d=>(C0N d).opt 0 []):=by
 intro d
 kernel_rfl
noncomputable abbrev C4t:St→Option Tree:=B0z.say 0 [] [] (fun d=>D4a d.1.1 d.1.2.2.2.2.1 d.2.1)
theorem D28:aPL C4t C15:=SS.wp2 hlz [] C0N D1F (fun d=>rfl) _ (fun d=>Runs.ofI2 (step:=C0N) C6p D3A rfl (d.1.1,d.1.2.2.2.2.1,d.2.1))
noncomputable def C0s (a0:Lq1):Lq1:=((B3v a0 (0:Int) (List.replicate (a0.length:Int).toNat ((0:Int),((0:Int),[])))).2)
noncomputable abbrev D11 (r:Lq1):AV×List AObj:=((.all 0 3),[(.deep 80 [54] tq5 r)])
noncomputable abbrev C7m:D9 B8U→AV×List AObj:=fun d=>D11 (C0s d.1)
noncomputable def B1q (a0:Lq1):Bool:=(decide (0≤(a0.length:Int)∧(a0.length:Int)=(a0.length:Int)∧(a0.length:Int).toNat*40≤MAXB∧(a0.length:Int)≤9223372036854775807))&&((B3v a0 (0:Int) (List.replicate (a0.length:Int).toNat ((0:Int),((0:Int),[])))).1==0)
noncomputable abbrev C2I:D9 B8U→Bool:=fun d=>B1q d.1
noncomputable abbrev D6V:Nat→St→Option Tree:=fun b=>match b with | 0=>C4t | _=>fun _=>none
theorem D5j:A7X false (G10.deep ow) (D6V) Tryz.f21 B8U C2I C7m:=by
 rintro ⟨a0,_⟩ hp
 change B1q a0=true at hp
 unfold B1q at hp
 refine Eq.trans (b:=(let z1:=B3v a0 (0:Int) (List.replicate (a0.length:Int).toNat ((0:Int),((0:Int),[])));cond (decide (0≤(a0.length:Int)∧(a0.length:Int)=(a0.length:Int)∧(a0.length:Int).toNat*40≤MAXB∧(a0.length:Int)≤9223372036854775807)) (cond (z1.1==0) (some (D11 (z1.2))) none) none)) (by kernel_rfl) ?_
 exact (A7Y hp fun hp=>(A70 hp fun _h=>rfl))
theorem D7d:aPP 21 (A19 B8U C2I C7m):=pcD false (G10.deep ow) (hl1 (i:=0) (by kernel_rfl) D28) D5j
noncomputable def S11:Tab:=Tab.add S10 21 (lift (A19 B8U C2I C7m))
noncomputable def D9W:FuncId→Bool:=D9U
theorem G11:aPG S11 D9W:=G10.add D7d (cbl Tryz.f21) (by kernel_rfl)

abbrev B8T:List PSh:=[.agg [.str,.str]]
noncomputable def C0r (a0 a1:ByteArray):ByteArray×ByteArray:=(a0,a1)
noncomputable abbrev D7k (r:ByteArray×ByteArray):AV×List AObj:=((.agg [(.t true .str r.1),(.t true .str r.2)]),[])
noncomputable abbrev C7l:D9 B8T→AV×List AObj:=fun d=>D7k (C0r d.1.1 d.1.2.1)
noncomputable abbrev C2H:D9 B8T→Bool:=fun d=>true
theorem D5i:A7X true G11 aLn Tryz.f50 B8T C2H C7l:=by
 rintro ⟨⟨a0,⟨a1,_⟩⟩,_⟩ hp
 kernel_rfl
theorem D7c:aPP 50 (A19 B8T C2H C7l):=pcD true G11 hlz D5i
noncomputable def S12:Tab:=Tab.add S11 50 (lift (A19 B8T C2H C7l))
noncomputable def D9X:FuncId→Bool:=qadd D9W 50
theorem G12:aPG S12 D9X:=G11.addQ D7c (cbl Tryz.f50) (fun _=>rfl)

abbrev J6:Ty:=.pair .str .str
noncomputable def B52 (x0:LBBe) (i:Nat):ByteArray×ByteArray:=(((C0r ((x0.getD i (bE,bE)).1) ((x0.getD i (bE,bE)).2)).1),((C0r ((x0.getD i (bE,bE)).1) ((x0.getD i (bE,bE)).2)).2))
abbrev B6B:List PSh:=[.t tq6]
abbrev A9B:SS:=⟨(.t false tq6::.junk::.junk::.all 0 2::tI::D4G),[.rows 82 true J6]⟩
abbrev B6q:SS:=⟨(.junk::.junk::.junk::.all 0 2::D7q),[.rows 82 true J6]⟩
noncomputable def B8A (x0:LBBe) (x4:Int) (h0:LBBe):RT A9B.den:=let z1:=x0.getD x4.toNat (bE,bE);let z2:=C0r (z1.1) (z1.2);(.br (decide (x4<(x0.length:Int))) (.br (decide (0≤x4∧x4<(x0.length:Int))) (.br (decide (0≤x4∧x4<(h0.length:Int))) (.next ((x0,(),(),(),wI (x4+(1:Int)),u19),(h0.set x4.toNat ((z2.1),(z2.2)),()))) .fail) .fail) (.done (.exit 0) B6q ((u24),(h0,()))))
noncomputable def B3i (x0:LBBe) (x4:Int) (h0:LBBe):CT:=(.br (decide (0≤x4)&&(decide (h0.length=x0.length)&&okL x0)) (.done (.exit 0) B6q ((u24),((foldN (fun i h=>h.set i (B52 x0 i)) (x0.length - x4.toNat) x4.toNat h0),()))) .fail)
noncomputable abbrev B0d:A9B.den→RT A9B.den:=(fun d=>B8A d.1.1 d.1.2.2.2.2.1 d.2.1)
noncomputable abbrev C4k (x0:LBBe) (x4:Int) (h0:LBBe):A9B.den:=((x0,(),(),(),x4,u19),(h0,()))
noncomputable def C08:Code:=((D5 0 (A1o Tryz.f22)).getD 0 (0,.skip)).2
theorem D2v (x0:LBBe) (x4:Int) (h0:LBBe):(B3i x0 x4 h0).val (D:=A9B.den)=.fail∨Runs B0d (C4k x0 x4 h0) (B3i x0 x4 h0).val:=by
 cases hc:(decide (0≤x4)&&(decide (h0.length=x0.length)&&okL x0)) with
 | false=>left;simp only [B3i,CT.val,hc,cond_false]
 | true =>
  right
  simp only [B3i,CT.val,hc,cond_true]
  simp only [Bool.and_eq_true,decide_eq_true_eq] at hc
  obtain ⟨i,rfl⟩:=Int.eq_ofNat_of_zero_le hc.1
  have hs:=A7L hc.2.2
  simp only [Int.toNat_natCast]
  refine Runs.foldN (step:=B0d) (fun j b=>C4k x0 (j:Int) b) (fun _ b=>b.length=x0.length) (x0.length) (fun i h=>h.set i (B52 x0 i))
   (fin:=fun b=>((.done (.exit 0) B6q ((u24),(b,()))):CT).val) (fun i b hi hb=>⟨by simpa using hb,?_⟩) (fun i b hi hb=>?_) (x0.length - i) i h0 rfl hc.2.1
  ·
   have h0a:decide ((i:Int)<(x0.length:Int))=true:=decide_eq_true (by omega)
   have h0b:decide (0≤(i:Int)∧(i:Int)<(x0.length:Int))=true:=decide_eq_true (by omega)
   have h9:decide (0≤(i:Int)∧(i:Int)<(b.length:Int))=true:=decide_eq_true (by omega)
   simp only [B0d,B8A,RT.val,h0a,h0b,h9,cond_true,A7T i (by omega),Int.toNat_natCast]
   rfl
  ·have h1:decide ((i:Int)<(x0.length:Int))=false:=decide_eq_false (by omega)
   exact ⟨by simp only [B0d,B8A,RT.val,h1,cond_false];rfl,_,_,_,rfl,by simp⟩
theorem D0J:RdA G12 aLn 0 C08 A9B 0 [] (kepts [] [(0,[3])]) (fun d=>(B0d d).opt 0 []):=by
 intro d
 kernel_rfl
noncomputable abbrev C22:St→Option Tree:=A9B.say 0 [] [] (fun d=>B3i d.1.1 d.1.2.2.2.2.1 d.2.1)
theorem D1A:aPL C22 C08:=SS.wp2 hlz [] B0d D0J (fun d=>rfl) _ (fun d=>D2v d.1.1 d.1.2.2.2.2.1 d.2.1)
noncomputable def C6b (a0:LBBe):LBBe:=(foldN (fun i h=>h.set i (B52 a0 i)) (a0.length - (0:Int).toNat) (0:Int).toNat (List.replicate (a0.length:Int).toNat (bE,bE)))
noncomputable abbrev C9W (r:LBBe):AV×List AObj:=((.all 0 2),[(.rows 82 true J6 r)])
noncomputable abbrev C4N:D9 B6B→AV×List AObj:=fun d=>C9W (C6b d.1)
noncomputable def B4u (a0:LBBe):Bool:=okL a0
noncomputable abbrev C0B:D9 B6B→Bool:=fun d=>B4u d.1
noncomputable abbrev D5C:Nat→St→Option Tree:=fun b=>match b with | 0=>C22 | _=>fun _=>none
theorem D3P:A7X false G12 (D5C) Tryz.f22 B6B C0B C4N:=by
 rintro ⟨a0,_⟩ hp
 change B4u a0=true at hp
 unfold B4u at hp
 refine Eq.trans (b:=(cond (decide (0≤(a0.length:Int)∧(a0.length:Int)=(a0.length:Int)∧(a0.length:Int).toNat*32≤MAXB∧(a0.length:Int)≤9223372036854775807)) (cond (decide (0≤(0:Int))&&(decide ((List.replicate (a0.length:Int).toNat ((⟨#[]⟩:ByteArray),(⟨#[]⟩:ByteArray))).length=a0.length)&&okL a0)) (some (C9W (foldN (fun i h=>h.set i (B52 a0 i)) (a0.length - (0:Int).toNat) (0:Int).toNat (List.replicate (a0.length:Int).toNat ((⟨#[]⟩:ByteArray),(⟨#[]⟩:ByteArray)))))) none) none)) (by kernel_rfl) ?_
 exact (A70 (by first | rfl | decide | exact hp | (simp only [Bool.and_eq_true] at hp;simp only [hp];done) | (simp [*];done) | (simp [okL] at hp;simp [okL,MAXB];omega) | (simp_all;done) | (simp at *;omega)) (fun _h=>(A70 (by first | rfl | decide | exact hp | (simp only [Bool.and_eq_true] at hp;simp only [hp];done) | (simp [*];done) | (simp [okL] at hp;simp [okL,MAXB];omega) | (simp_all;done) | (simp at *;omega)) (fun _h=>rfl))))
theorem D5Z:aPP 22 (A19 B6B C0B C4N):=pcD false G12 (hl1 (i:=0) (by kernel_rfl) D1A) D3P
noncomputable def S13:Tab:=Tab.add S12 22 (lift (A19 B6B C0B C4N))
noncomputable def D9Y:FuncId→Bool:=D9X
theorem G13:aPG S13 D9Y:=G12.add D5Z (cbl Tryz.f22) (by kernel_rfl)

abbrev B6C:List PSh:=[.agg [(.int .i64),tq3,(.int .i64),tq6,tq3]]
noncomputable def B3E (a0:Int) (a1:Lq1) (a2:Int) (a3:LBBe) (a4:Lq1):Int×Int×Lq1×LBBe×Lq1:=(a0,a2,(C0s a1),(C6b a3),(C0s a4))
noncomputable abbrev C9X (r:Int×Int×Lq1×LBBe×Lq1):AV×List AObj:=((.agg [(ti r.1),(.all 0 3),(ti r.2.1),(.all 1 2),(.all 2 3)]),[(.deep 80 [54] tq5 r.2.2.1),(.rows 82 true J6 r.2.2.2.1),(.deep 80 [54] tq5 r.2.2.2.2)])
noncomputable abbrev C4O:D9 B6C→AV×List AObj:=fun d=>C9X (B3E d.1.1 d.1.2.1 d.1.2.2.1 d.1.2.2.2.1 d.1.2.2.2.2.1)
noncomputable def B2r (a0:Int) (a1:Lq1) (a2:Int) (a3:LBBe) (a4:Lq1):Bool:=(B1q a1)&&((B4u a3)&&(B1q a4))
noncomputable abbrev C0C:D9 B6C→Bool:=fun d=>B2r d.1.1 d.1.2.1 d.1.2.2.1 d.1.2.2.2.1 d.1.2.2.2.2.1
theorem D3Q:A7X false G13 aLn Tryz.f7 B6C C0C C4O:=by
 rintro ⟨⟨a0,⟨a1,⟨a2,⟨a3,⟨a4,_⟩⟩⟩⟩⟩,_⟩ hp
 change B2r a0 a1 a2 a3 a4=true at hp
 unfold B2r at hp
 refine Eq.trans (b:=(cond (B1q a1) (cond (B4u a3) (cond (B1q a4) (some (C9X (a0,a2,(C0s a1),(C6b a3),(C0s a4)))) none) none) none)) (by kernel_rfl) ?_
 exact (A7Y hp fun hp=>(A7Y hp fun hp=>(A70 hp fun _h=>rfl)))
theorem D50:aPP 7 (A19 B6C C0C C4O):=pcD false G13 hlz D3Q
noncomputable def S14:Tab:=Tab.add S13 7 (lift (A19 B6C C0C C4O))
noncomputable def D9Z:FuncId→Bool:=D9Y
theorem G14:aPG S14 D9Z:=G13.add D50 (cbl Tryz.f7) (by kernel_rfl)

abbrev B28:List PSh:=[.t tq4]
noncomputable def B06 (a0:Lq2):Lq2:=(([]:Lq2)++a0)
noncomputable abbrev C5Z (r:Lq2):AV×List AObj:=((.t true tq4 r),[])
noncomputable abbrev C0e:D9 B28→AV×List AObj:=fun d=>C5Z (B06 d.1)
noncomputable def A8K (a0:Lq2):Bool:=decide ((([]:Lq2).length+a0.length)*40≤MAXB)
noncomputable abbrev B7h:D9 B28→Bool:=fun d=>A8K d.1
theorem D02:A7X true G14 aLn Tryz.f48 B28 B7h C0e:=by
 rintro ⟨a0,_⟩ hp
 change A8K a0=true at hp
 unfold A8K at hp
 refine Eq.trans (b:=(cond (decide ((([]:Lq2).length+a0.length)*40≤MAXB)) (some (C5Z (([]:Lq2)++a0))) none)) (by kernel_rfl) ?_
 exact (A70 hp fun _h=>rfl)
theorem D2F:aPP 48 (A19 B28 B7h C0e):=pcD true G14 hlz D02
noncomputable def S15:Tab:=Tab.add S14 48 (lift (A19 B28 B7h C0e))
noncomputable def D90:FuncId→Bool:=qadd D9Z 48
theorem G15:aPG S15 D90:=G14.addQ D2F (cbl Tryz.f48) (fun _=>rfl)

abbrev B29:List PSh:=[.agg [(.int .i64),(.int .i64),tq4]]
noncomputable def V3 (a0 a1:Int) (a2:Lq2):Int×Int×Lq2:=(a0,a1,(B06 a2))
noncomputable abbrev C51 (r:Int×Int×Lq2):AV×List AObj:=((.agg [(ti r.1),(ti r.2.1),(.t true tq4 r.2.2)]),[])
noncomputable abbrev C0f:D9 B29→AV×List AObj:=fun d=>C51 (V3 d.1.1 d.1.2.1 d.1.2.2.1)
noncomputable def O8 (a0 a1:Int) (a2:Lq2):Bool:=A8K a2
noncomputable abbrev B7i:D9 B29→Bool:=fun d=>O8 d.1.1 d.1.2.1 d.1.2.2.1
theorem D03:A7X true G15 aLn Tryz.f67 B29 B7i C0f:=by
 rintro ⟨⟨a0,⟨a1,⟨a2,_⟩⟩⟩,_⟩ hp
 change O8 a0 a1 a2=true at hp
 unfold O8 at hp
 refine Eq.trans (b:=(cond (A8K a2) (some (C51 (a0,a1,(B06 a2)))) none)) (by kernel_rfl) ?_
 exact (A70 hp fun _h=>rfl)
theorem D2G:aPP 67 (A19 B29 B7i C0f):=pcD true G15 hlz D03
noncomputable def S16:Tab:=Tab.add S15 67 (lift (A19 B29 B7i C0f))
noncomputable def D91:FuncId→Bool:=qadd D90 67
theorem G16:aPG S16 D91:=G15.addQ D2G (cbl Tryz.f67) (fun _=>rfl)

abbrev D8x:List Sh:=.junk::.junk::.junk::.junk::.junk::.junk::.junk::.junk::.junk::.junk::.junk::.junk::.junk::.junk::.junk::.junk::[]
abbrev D9n:List Sh:=.junk::D8x
abbrev u17:=((),(),(),(),(),(),(),(),(),(),(),(),(),(),(),(),())
abbrev B1P:List PSh:=[.t tq3]
abbrev A0b:SS:=⟨(.t false tq3::.junk::.junk::.all 0 3::tI::D8x),[.rows 80 true tq5]⟩
abbrev B7G:SS:=⟨(.junk::.junk::.junk::.all 0 3::D9n),[.rows 80 true tq5]⟩
noncomputable def B66 (x0:Lq1) (x4:Int):=let z1:=x0.getD x4.toNat ((0:Int),((0:Int),[]));V3 (z1.1) ((z1.2).1) ((z1.2).2)
noncomputable def B9I (x0:Lq1) (x4:Int) (h0:Lq1):RT A0b.den:=let z1:=B66 x0 x4;let z2:=x0.getD x4.toNat ((0:Int),((0:Int),[]));(.br (decide (x4<(x0.length:Int))) (.br (decide (0≤x4∧x4<(x0.length:Int))) (.br (O8 (z2.1) ((z2.2).1) ((z2.2).2)) (.br (decide ((h0.length+[((z1.1),((z1.2.1),(z1.2.2)))].length)*40≤MAXB)) (.next ((x0,(),(),(),wI (x4+(1:Int)),u17),(h0++[((z1.1),((z1.2.1),(z1.2.2)))],()))) .fail) .fail) .fail) (.done (.exit 0) B7G ((u22),(h0,()))))
abbrev A9R:=(Lq1)×(Int)×(Lq1)
abbrev A9M:=Nat×(Lq1)
def A9a:A9M:=(99,([]:Lq1))
noncomputable def A9m (x0:Lq1) (x4:Int) (h0:Lq1):A9R ⊕ A9M:=let z1:=B66 x0 x4;let z2:=x0.getD x4.toNat ((0:Int),((0:Int),[]));(cond (decide (x4<(x0.length:Int))) (cond (decide (0≤x4∧x4<(x0.length:Int))) (cond (O8 (z2.1) ((z2.2).1) ((z2.2).2)) (cond (decide ((h0.length+[((z1.1),((z1.2.1),(z1.2.2)))].length)*40≤MAXB)) (.inl (x0,wI (x4+(1:Int)),h0++[((z1.1),((z1.2.1),(z1.2.2)))])) (.inr A9a)) (.inr A9a)) (.inr A9a)) (.inr (0,h0)))
noncomputable def A9c (x0:Lq1) (x4:Int) (h0:Lq1):A9M:=itX (fun v:A9R=>A9m v.1 v.2.1 v.2.2) A9a (x0,x4,h0)
noncomputable def B4i (a:A9M):CT:=(.br (a.1==0) (.done (.exit 0) B7G ((u22),(a.2,()))) .fail)
noncomputable def C8U (x0:Lq1) (x4:Int) (h0:Lq1):CT:=B4i (A9c x0 x4 h0)
noncomputable abbrev B4C:A0b.den→RT A0b.den:=(fun d=>B9I d.1.1 d.1.2.2.2.2.1 d.2.1)
noncomputable def B6S:Code:=((D5 0 (A1o Tryz.f37)).getD 0 (0,.skip)).2
noncomputable abbrev B9r (v:A9R):A0b.den:=((v.1,(),(),(),v.2.1,u17),(v.2.2,()))
theorem C71:(∀ v:A9R,(B9I v.1 v.2.1 v.2.2).val=A6W B9r B4i (A9m v.1 v.2.1 v.2.2))∧∀ a:A9M,CEnd A0b.den (B4i a):=⟨fun v=>(A72 (A72 (A72 (A72 rfl rfl) rfl) rfl) rfl),fun a=>(A7P aCD A7R)⟩
theorem C6z:RdA G16 aLn 0 B6S A0b 0 [] (kepts [] [(0,[3])]) (fun d=>(B4C d).opt 0 []):=by
 intro d
 kernel_rfl
noncomputable abbrev B8b:St→Option Tree:=A0b.say 0 [] [] (fun d=>C8U d.1.1 d.1.2.2.2.2.1 d.2.1)
theorem C7w:aPL B8b B6S:=SS.wp2 hlz [] B4C C6z (fun d=>rfl) _ (fun d=>Runs.ofI2 (step:=B4C) B9r C71 rfl (d.1.1,d.1.2.2.2.2.1,d.2.1))
noncomputable def B07 (a0:Lq1):Lq1:=((A9c a0 (0:Int) ([]:Lq1)).2)
noncomputable abbrev C4b (r:Lq1):AV×List AObj:=((.all 0 3),[(.rows 80 true tq5 r)])
noncomputable abbrev B8l:D9 B1P→AV×List AObj:=fun d=>C4b (B07 d.1)
noncomputable def X7 (a0:Lq1):Bool:=((A9c a0 (0:Int) ([]:Lq1)).1==0)
noncomputable abbrev B5D:D9 B1P→Bool:=fun d=>X7 d.1
noncomputable abbrev D1e:Nat→St→Option Tree:=fun b=>match b with | 0=>B8b | _=>fun _=>none
theorem C9q:A7X false G16 (D1e) Tryz.f37 B1P B5D B8l:=by
 rintro ⟨a0,_⟩ hp
 change X7 a0=true at hp
 unfold X7 at hp
 refine Eq.trans (b:=(let z1:=A9c a0 (0:Int) ([]:Lq1);cond (z1.1==0) (some (C4b (z1.2))) none)) (by kernel_rfl) ?_
 exact (A70 hp fun _h=>rfl)
theorem D1t:aPP 37 (A19 B1P B5D B8l):=pcD false G16 (hl1 (i:=0) (by kernel_rfl) C7w) C9q
noncomputable def S17:Tab:=Tab.add S16 37 (lift (A19 B1P B5D B8l))
noncomputable def D92:FuncId→Bool:=D91
theorem G17:aPG S17 D92:=G16.add D1t (cbl Tryz.f37) (by kernel_rfl)

abbrev B8Y:List PSh:=[.agg [(.int .i64),tq3,(.int .i64),tq6,tq3]]
noncomputable def C0I (a0:Int) (a1:Lq1) (a2:Int) (a3:LBBe) (a4:Lq1):Int×Int×Lq1×LBBe×Lq1:=(a0,a2,(B07 a1),([]:LBBe)++a3,(B07 a4))
noncomputable abbrev D13 (r:Int×Int×Lq1×LBBe×Lq1):AV×List AObj:=((.agg [(ti r.1),(.all 0 3),(ti r.2.1),(.all 1 2),(.all 2 3)]),[(.rows 80 true tq5 r.2.2.1),(.rows 82 true J6 r.2.2.2.1),(.rows 80 true tq5 r.2.2.2.2)])
noncomputable abbrev C7q:D9 B8Y→AV×List AObj:=fun d=>D13 (C0I d.1.1 d.1.2.1 d.1.2.2.1 d.1.2.2.2.1 d.1.2.2.2.2.1)
noncomputable def B4v (a0:Int) (a1:Lq1) (a2:Int) (a3:LBBe) (a4:Lq1):Bool:=(X7 a1)&&((decide ((([]:LBBe).length+a3.length)*32≤MAXB))&&(X7 a4))
noncomputable abbrev C2M:D9 B8Y→Bool:=fun d=>B4v d.1.1 d.1.2.1 d.1.2.2.1 d.1.2.2.2.1 d.1.2.2.2.2.1
theorem D5n:A7X false G17 aLn Tryz.f18 B8Y C2M C7q:=by
 rintro ⟨⟨a0,⟨a1,⟨a2,⟨a3,⟨a4,_⟩⟩⟩⟩⟩,_⟩ hp
 change B4v a0 a1 a2 a3 a4=true at hp
 unfold B4v at hp
 refine Eq.trans (b:=(cond (X7 a1) (cond (decide ((([]:LBBe).length+a3.length)*32≤MAXB)) (cond (X7 a4) (some (D13 (a0,a2,(B07 a1),([]:LBBe)++a3,(B07 a4)))) none) none) none)) (by kernel_rfl) ?_
 exact (A7Y hp fun hp=>(A7Y hp fun hp=>(A70 hp fun _h=>rfl)))
theorem D7h:aPP 18 (A19 B8Y C2M C7q):=pcD false G17 hlz D5n
noncomputable def S18:Tab:=Tab.add S17 18 (lift (A19 B8Y C2M C7q))
noncomputable def D93:FuncId→Bool:=D92
theorem G18:aPG S18 D93:=G17.add D7h (cbl Tryz.f18) (by kernel_rfl)

abbrev C5E:List PSh:=[.t (.int .i64),.t (.int .i64),.t (.int .i64)]
noncomputable def P1 (a0 a1 a2:Int):Bool:=(cond (decide (a0 ≥ a1)) (decide (a0≤a2)) false)
noncomputable abbrev C9u (r:Bool):AV×List AObj:=((.t true .bool r),[])
noncomputable abbrev D2T:D9 C5E→AV×List AObj:=fun d=>C9u (P1 d.1 d.2.1 d.2.2.1)
noncomputable abbrev C7J:D9 C5E→Bool:=fun d=>true
theorem D7G:A7X true G18 aLn Tryz.f38 C5E C7J D2T:=by
 rintro ⟨a0,⟨a1,⟨a2,_⟩⟩⟩ hp
 refine Eq.trans (b:=(cond (decide (a0 ≥ a1)) (some (C9u (decide (a0≤a2)))) (some (C9u false)))) (by kernel_rfl) ?_
 exact (Q7 C9u (fun _h=>rfl) (fun _h=>rfl))
theorem D86:aPP 38 (A19 C5E C7J D2T):=pcD true G18 hlz D7G
noncomputable def S19:Tab:=Tab.add S18 38 (lift (A19 C5E C7J D2T))
noncomputable def D94:FuncId→Bool:=qadd D93 38
theorem G19:aPG S19 D94:=G18.addQ D86 (cbl Tryz.f38) (fun _=>rfl)

abbrev D7p:List Sh:=.junk::.junk::.junk::.junk::.junk::.junk::.junk::.junk::.junk::.junk::.junk::.junk::.junk::.junk::[]
abbrev E1B:List Sh:=.junk::D7p
abbrev u16:=((),(),(),(),(),(),(),(),(),(),(),(),(),(),(),())
abbrev u15:=((),(),(),(),(),(),(),(),(),(),(),(),(),(),())
abbrev u21:=((),(),u19)
abbrev C5G:List PSh:=[.t tq3,.t (.int .i64)]
abbrev B38:SS:=⟨(.t false tq3::tI::.junk::.junk::.junk::tI::D7p),[]⟩
abbrev C76:SS:=⟨(.junk::.junk::.junk::.junk::tI::E1B),[]⟩
abbrev C77:SS:=⟨(.junk::D7q),[]⟩
noncomputable def D09 (x0:Lq1) (x1 x5:Int):RT B38.den:=(.br (decide (x5<(x0.length:Int))) (.br (decide (0≤x5∧x5<(x0.length:Int))) (.br ((((x0.getD x5.toNat ((0:Int),((0:Int),[]))).2).1)==x1) (.done .ret C76 (((),(),(),(),x5,u16),())) (.next ((x0,x1,(),(),(),wI (x5+(1:Int)),u15),()))) .fail) (.done (.exit 0) C77 ((u21),())))
abbrev B6f:=(Lq1)×(Int)×(Int)
abbrev B6e:=Nat×(Int)
def C4E:B6e:=(99,((0:Int):Int))
noncomputable def B7z (x0:Lq1) (x1 x5:Int):B6f ⊕ B6e:=(cond (decide (x5<(x0.length:Int))) (cond (decide (0≤x5∧x5<(x0.length:Int))) (cond ((((x0.getD x5.toNat ((0:Int),((0:Int),[]))).2).1)==x1) (.inr (0,x5)) (.inl (x0,x1,wI (x5+(1:Int))))) (.inr C4E)) (.inr (1,((0:Int):Int))))
noncomputable def B65 (x0:Lq1) (x1 x5:Int):B6e:=itX (fun v:B6f=>B7z v.1 v.2.1 v.2.2) C4E (x0,x1,x5)
noncomputable def C4C (a:B6e):CT:=(.br (a.1==0) (.done .ret C76 (((),(),(),(),a.2,u16),())) (.br (a.1==1) (.done (.exit 0) C77 ((u21),())) .fail))
noncomputable def D60 (x0:Lq1) (x1 x5:Int):CT:=C4C (B65 x0 x1 x5)
noncomputable abbrev C5h:B38.den→RT B38.den:=(fun d=>D09 d.1.1 d.1.2.1 d.1.2.2.2.2.2.1)
noncomputable def C5N:Code:=((D5 0 (A1o Tryz.f71)).getD 0 (0,.skip)).2
noncomputable abbrev D0E (v:B6f):B38.den:=((v.1,v.2.1,(),(),(),v.2.2,u15),())
theorem D6m:(∀ v:B6f,(D09 v.1 v.2.1 v.2.2).val=A6W D0E C4C (B7z v.1 v.2.1 v.2.2))∧∀ a:B6e,CEnd B38.den (C4C a):=⟨fun v=>(A72 (A72 (A72 rfl rfl) rfl) rfl),fun a=>(A7P aCD (A7P aCD A7R))⟩
theorem D42:RdA G19 aLn 0 C5N B38 0 [] (kepts [4] [(0,[])]) (fun d=>(C5h d).opt 0 []):=by
 intro d
 kernel_rfl
noncomputable abbrev C8J:St→Option Tree:=B38.say 0 [] [] (fun d=>D60 d.1.1 d.1.2.1 d.1.2.2.2.2.2.1)
theorem D6e:aPL C8J C5N:=SS.wp2 hlz [] C5h D42 (fun d=>rfl) _ (fun d=>Runs.ofI2 (step:=C5h) D0E D6m rfl (d.1.1,d.1.2.1,d.1.2.2.2.2.2.1))
noncomputable def B3O (a0:Lq1) (a1:Int):Int:=let z1:=B65 a0 a1 (0:Int);(cond (z1.1==0) (z1.2) (-1:Int))
noncomputable abbrev C9v (r:Int):AV×List AObj:=((ti r),[])
noncomputable abbrev D2V:D9 C5G→AV×List AObj:=fun d=>C9v (B3O d.1 d.2.1)
noncomputable def B3K (a0:Lq1) (a1:Int):Bool:=let z1:=B65 a0 a1 (0:Int);cond (z1.1==0) true (z1.1==1)
noncomputable abbrev C7L:D9 C5G→Bool:=fun d=>B3K d.1 d.2.1
noncomputable abbrev D8U:Nat→St→Option Tree:=fun b=>match b with | 0=>C8J | _=>fun _=>none
theorem D7I:A7X true G19 (D8U) Tryz.f71 C5G C7L D2V:=by
 rintro ⟨a0,⟨a1,_⟩⟩ hp
 change B3K a0 a1=true at hp
 unfold B3K at hp
 refine Eq.trans (b:=(let z1:=B65 a0 a1 (0:Int);cond (z1.1==0) (some (C9v (z1.2))) (cond (z1.1==1) (some (C9v (-1:Int))) none))) (by kernel_rfl) ?_
 exact (K9 C9v hp (fun hp=>rfl) (fun hp=>(A70 hp fun _h=>rfl)))
theorem D88:aPP 71 (A19 C5G C7L D2V):=pcD true G19 (hl1 (i:=0) (by kernel_rfl) D6e) D7I
noncomputable def S20:Tab:=Tab.add S19 71 (lift (A19 C5G C7L D2V))
noncomputable def D95:FuncId→Bool:=qadd D94 71
theorem G20:aPG S20 D95:=G19.addQ D88 (cbl Tryz.f71) (fun _=>rfl)

abbrev D8y:List Sh:=.junk::D22
abbrev D8z:List Sh:=.junk::D8y
abbrev D4H:List Sh:=.junk::D0n
abbrev u25:=((),u24)
abbrev u27:=((),u26)
noncomputable def C2X (s:ByteArray) (i:Nat):Bool:=let z1:=wI (bt s (i:Int));P1 z1 97 122||P1 z1 48 57
abbrev C1U:List PSh:=[.t .str]
abbrev B2g:SS:=⟨(.t true .str::.junk::.junk::tI::D8y),[]⟩
abbrev C5q:SS:=⟨(.junk::.junk::.t true .bool::D8z),[]⟩
abbrev C5r:SS:=⟨(.t true .str::D4H),[]⟩
noncomputable def C3h (x0:ByteArray) (x3:Int):RT B2g.den:=let z1:=decide (0≤x3∧x3<(x0.size:Int));let z2:=wI (bt x0 x3);(.br (decide (x3<(x0.size:Int))) (.br z1 (.br (!(P1 z2 (97:Int) (122:Int))) (.br z1 (.br (!(P1 z2 (48:Int) (57:Int))) (.done .ret C5q (((),(),false,u25),())) (.next ((x0,(),(),wI (x3+(1:Int)),u24),()))) .fail) (.next ((x0,(),(),wI (x3+(1:Int)),u24),()))) .fail) (.done (.exit 0) C5r ((x0,u27),())))
noncomputable def B6J (x0:ByteArray) (x3:Int):CT:=(.br (decide (0≤x3)&&okS x0) (.br (A4W (C2X x0) (x0.size - x3.toNat) x3.toNat) (.done (.exit 0) C5r ((x0,u27),())) (.done .ret C5q (((),(),false,u25),()))) .fail)
noncomputable abbrev B5j:B2g.den→RT B2g.den:=(fun d=>C3h d.1.1 d.1.2.2.2.1)
noncomputable abbrev C8x (x0:ByteArray) (x3:Int):B2g.den:=((x0,(),(),x3,u24),())
noncomputable def C36:Code:=((D5 0 (A1o Tryz.f83)).getD 0 (0,.skip)).2
theorem D5H (x0:ByteArray) (x3:Int):(B6J x0 x3).val (D:=B2g.den)=.fail∨Runs B5j (C8x x0 x3) (B6J x0 x3).val:=by
 cases hc:(decide (0≤x3)&&okS x0) with
 | false=>left;simp only [B6J,CT.val,hc,cond_false]
 | true =>
  right
  simp only [B6J,CT.val,hc,cond_true]
  simp only [Bool.and_eq_true,decide_eq_true_eq] at hc
  obtain ⟨i,rfl⟩:=Int.eq_ofNat_of_zero_le hc.1
  have hs:=A7M hc.2
  simp only [Int.toNat_natCast]
  refine Runs.scan (fun j=>C8x x0 (j:Int)) (x0.size) (C2X x0) (fun i hi=>?_) (fun i hi=>?_) ⟨_,_,_,rfl,by simp⟩ ⟨_,_,_,rfl,by simp⟩ _ _ rfl
  ·
   have h0a:decide ((i:Int)<(x0.size:Int))=true:=decide_eq_true (by omega)
   have h0b:decide (0≤(i:Int)∧(i:Int)<(x0.size:Int))=true:=decide_eq_true (by omega)
   simp only [B5j,C3h,RT.val,h0a,h0b,cond_true,A7T i (by omega),Int.toNat_natCast]
   simp only [C2X]
   cases P1 (wI (bt x0 (i:Int))) 97 122<;>cases P1 (wI (bt x0 (i:Int))) 48 57<;>rfl
  ·have h1:decide ((i:Int)<(x0.size:Int))=false:=decide_eq_false (by omega)
   simp only [B5j,C3h,RT.val,h1,cond_false]
theorem D3n:RdA G20 aLn 0 C36 B2g 0 [] (kepts [2] [(0,[0])]) (fun d=>(B5j d).opt 0 []):=by
 intro d
 kernel_rfl
noncomputable abbrev C6P:St→Option Tree:=B2g.say 0 [] [] (fun d=>B6J d.1.1 d.1.2.2.2.1)
theorem D4S:aPL C6P C36:=SS.wp2 hlz [] B5j D3n (fun d=>rfl) _ (fun d=>D5H d.1.1 d.1.2.2.2.1)
noncomputable def C5f (a0:ByteArray):Bool:=(cond (A4W (C2X a0) (a0.size - (0:Int).toNat) (0:Int).toNat) (P1 (a0.size:Int) (1:Int) (12:Int)) false)
noncomputable abbrev C5W (r:Bool):AV×List AObj:=((.t true .bool r),[])
noncomputable abbrev D0e:D9 C1U→AV×List AObj:=fun d=>C5W (C5f d.1)
noncomputable def C2U (a0:ByteArray):Bool:=okS a0
noncomputable abbrev C46:D9 C1U→Bool:=fun d=>C2U d.1
noncomputable abbrev D7X:Nat→St→Option Tree:=fun b=>match b with | 0=>C6P | _=>fun _=>none
theorem D6A:A7X true G20 (D7X) Tryz.f83 C1U C46 D0e:=by
 rintro ⟨a0,_⟩ hp
 change C2U a0=true at hp
 unfold C2U at hp
 refine Eq.trans (b:=(cond (decide (0≤(0:Int))&&okS a0) (cond (A4W (C2X a0) (a0.size - (0:Int).toNat) (0:Int).toNat) (some (C5W (P1 (a0.size:Int) (1:Int) (12:Int)))) (some (C5W false))) none)) (by kernel_rfl) ?_
 exact (A70 (by first | rfl | decide | exact hp | (simp only [Bool.and_eq_true] at hp;simp only [hp];done) | (simp [*];done) | (simp [okL] at hp;simp [okL,MAXB];omega) | (simp_all;done) | (simp at *;omega)) (fun _h=>(Q7 C5W (fun _h=>rfl) (fun _h=>rfl))))
theorem D8g:aPP 83 (A19 C1U C46 D0e):=pcD true G20 (hl1 (i:=0) (by kernel_rfl) D4S) D6A
noncomputable def S21:Tab:=Tab.add S20 83 (lift (A19 C1U C46 D0e))
noncomputable def D96:FuncId→Bool:=qadd D95 83
theorem G21:aPG S21 D96:=G20.addQ D8g (cbl Tryz.f83) (fun _=>rfl)

abbrev C5F:List PSh:=[.agg [(.int .i64),.str,.str]]
noncomputable def D08 (a0:Int) (a1 a2:ByteArray):Bool:=let z1:=decide ((a2.size:Int)≤(20:Int));(cond (!(P1 a0 (1:Int) (3:Int))) false (cond (a0==(2:Int)) (cond (!(a2.toList==bE.toList)) false (cond (C5f a1) z1 false)) (cond (C5f a1) z1 false)))
noncomputable abbrev B3q (r:Bool):AV×List AObj:=((.t true .bool r),[])
noncomputable abbrev D2U:D9 C5F→AV×List AObj:=fun d=>B3q (D08 d.1.1 d.1.2.1 d.1.2.2.1)
noncomputable def C3E (a0:Int) (a1 a2:ByteArray):Bool:=okS a1
noncomputable abbrev C7K:D9 C5F→Bool:=fun d=>C3E d.1.1 d.1.2.1 d.1.2.2.1
theorem D7H:A7X true G21 aLn Tryz.f70 C5F C7K D2U:=by
 rintro ⟨⟨a0,⟨a1,⟨a2,_⟩⟩⟩,_⟩ hp
 change C3E a0 a1 a2=true at hp
 unfold C3E at hp
 refine Eq.trans (b:=(let z1:=B3q (decide ((a2.size:Int)≤(20:Int)));cond (!(P1 a0 (1:Int) (3:Int))) (some (B3q false)) (cond (a0==(2:Int)) (cond (!(a2.toList==(⟨#[]⟩:ByteArray).toList)) (some (B3q false)) (cond (C2U a1) (cond (C5f a1) (some z1) (some (B3q false))) none)) (cond (C2U a1) (cond (C5f a1) (some z1) (some (B3q false))) none)))) (by kernel_rfl) ?_
 exact (Q7 B3q (fun _h=>rfl) (fun _h=>(Q7 B3q (fun _h=>(Q7 B3q (fun _h=>rfl) (fun _h=>(A70 (by first | rfl | decide | exact hp | (simp only [Bool.and_eq_true] at hp;simp only [hp];done) | (simp [*];done) | (simp [okL] at hp;simp [okL,MAXB];omega) | (simp_all;done) | (simp at *;omega)) (fun _h=>(Q7 B3q (fun _h=>rfl) (fun _h=>rfl))))))) (fun _h=>(A70 (by first | rfl | decide | exact hp | (simp only [Bool.and_eq_true] at hp;simp only [hp];done) | (simp [*];done) | (simp [okL] at hp;simp [okL,MAXB];omega) | (simp_all;done) | (simp at *;omega)) (fun _h=>(Q7 B3q (fun _h=>rfl) (fun _h=>rfl))))))))
theorem D87:aPP 70 (A19 C5F C7K D2U):=pcD true G21 hlz D7H
noncomputable def S22:Tab:=Tab.add S21 70 (lift (A19 C5F C7K D2U))
noncomputable def D97:FuncId→Bool:=qadd D96 70
theorem G22:aPG S22 D97:=G21.addQ D87 (cbl Tryz.f70) (fun _=>rfl)

abbrev D4I:List Sh:=.junk::.junk::.junk::.junk::.junk::.junk::.junk::D4H
abbrev D8B:List Sh:=.junk::D4I
abbrev D8C:List Sh:=.junk::.junk::D8B
abbrev u35:=((),(),(),(),(),(),(),(),u27)
abbrev u34:=((),(),(),(),(),(),(),u27)
abbrev u37:=((),(),u35)
abbrev D8v:List AV:=.junk::.junk::.junk::.junk::.junk::.junk::.junk::.junk::.junk::.junk::.junk::.junk::.junk::.junk::.junk::.junk::.junk::.junk::.junk::.junk::.junk::.junk::.junk::.junk::.junk::.junk::.junk::.junk::.junk::.junk::.junk::.junk::.junk::.junk::[]
abbrev D56:List AV:=.junk::.junk::.junk::.junk::.junk::.junk::.junk::.junk::.junk::.junk::.junk::.junk::.junk::.junk::.junk::.junk::.junk::.junk::.junk::.junk::.junk::.junk::.junk::.junk::.junk::.junk::.junk::.junk::.junk::.junk::.junk::.junk::.junk::[]
abbrev D7n:List AV:=.junk::.junk::D8v
noncomputable def C8I (l:Lq2) (i:Nat):Bool:=let z1:=l.getD i dOp;D08 z1.1 z1.2.1 z1.2.2&&(decide (i=0)||Op.bytesLess (l.getD (i - 1) dOp).2.1.toList z1.2.1.toList)
abbrev C1W:List PSh:=[.t tq4]
abbrev B0E:SS:=⟨(.t false tq4::.junk::.junk::tI::D4I),[]⟩
abbrev B9P:SS:=⟨(.junk::.junk::.t true .bool::D8B),[]⟩
abbrev C5t:SS:=⟨(.t false tq4::D8C),[]⟩
noncomputable def C3i (x0:Lq2) (x3:Int):RT B0E.den:=let z1:=x0.getD x3.toNat ((0:Int),(bE,bE));let z2:=wI (x3 - (1:Int));let z3:=decide (0≤x3∧x3<(x0.length:Int));(.br (decide (x3<(x0.length:Int))) (.br z3 (.br (C3E (z1.1) ((z1.2).1) ((z1.2).2)) (.br (!(D08 (z1.1) ((z1.2).1) ((z1.2).2))) (.done .ret B9P (((),(),false,u35),())) (.br (decide (x3 > (0:Int))) (.br (decide (0≤z2∧z2<(x0.length:Int))) (.br z3 (.br (!(Op.bytesLess (((x0.getD (z2.toNat) ((0:Int),(bE,bE))).2).1).toList ((z1.2).1).toList)) (.done .ret B9P (((),(),false,u35),())) (.next ((x0,(),(),wI (x3+(1:Int)),u34),()))) .fail) .fail) (.next ((x0,(),(),wI (x3+(1:Int)),u34),())))) .fail) .fail) (.done (.exit 0) C5t ((x0,u37),())))
noncomputable def B6K (x0:Lq2) (x3:Int):CT:=(.br (decide (0≤x3)&&T6 x0) (.br (A4W (C8I x0) (x0.length - x3.toNat) x3.toNat) (.done (.exit 0) C5t ((x0,u37),())) (.done .ret B9P (((),(),false,u35),()))) .fail)
noncomputable abbrev B5k:B0E.den→RT B0E.den:=(fun d=>C3i d.1.1 d.1.2.2.2.1)
noncomputable abbrev C8y (x0:Lq2) (x3:Int):B0E.den:=((x0,(),(),x3,u34),())
noncomputable def C38:Code:=((D5 0 (A1o Tryz.f42)).getD 0 (0,.skip)).2
theorem D5I (x0:Lq2) (x3:Int):(B6K x0 x3).val (D:=B0E.den)=.fail∨Runs B5k (C8y x0 x3) (B6K x0 x3).val:=by
 cases hc:(decide (0≤x3)&&T6 x0) with
 | false=>left;simp only [B6K,CT.val,hc,cond_false]
 | true =>
  right
  simp only [B6K,CT.val,hc,cond_true]
  simp only [Bool.and_eq_true,decide_eq_true_eq] at hc
  obtain ⟨i,rfl⟩:=Int.eq_ofNat_of_zero_le hc.1
  have hs:=P0 hc.2
  simp only [Int.toNat_natCast]
  refine Runs.scan (fun j=>C8y x0 (j:Int)) (x0.length) (C8I x0) (fun i hi=>?_) (fun i hi=>?_) ⟨_,_,_,rfl,by simp⟩ ⟨_,_,_,rfl,by simp⟩ _ _ rfl
  ·
   have h0a:decide ((i:Int)<(x0.length:Int))=true:=decide_eq_true (by omega)
   have h0b:decide (0≤(i:Int)∧(i:Int)<(x0.length:Int))=true:=decide_eq_true (by omega)
   simp only [B5k,C3i,RT.val,h0a,h0b,cond_true,A7T i (by omega),Int.toNat_natCast]
   have hq:C3E (x0.getD i dOp).1 (x0.getD i dOp).2.1 (x0.getD i dOp).2.2=true:=(D4W hc.2 i hi).1
   simp only [dOp] at hq
   simp only [hq,cond_true,C8I,dOp]
   cases D08 (x0.getD i ((0:Int),((⟨#[]⟩:ByteArray),(⟨#[]⟩:ByteArray)))).1 (x0.getD i ((0:Int),((⟨#[]⟩:ByteArray),(⟨#[]⟩:ByteArray)))).2.1 (x0.getD i ((0:Int),((⟨#[]⟩:ByteArray),(⟨#[]⟩:ByteArray)))).2.2 with
   | false=>rfl
   | true =>
    cases i with
    | zero=>rfl
    | succ i =>
     have h3:decide (((i+1:Nat):Int) > 0)=true:=decide_eq_true (by omega)
     have h4:wI (((i+1:Nat):Int) - 1)=(i:Int):=by have:=A61 (n:=((i+1:Nat):Int) - 1) (by omega) (by omega);omega
     have h5:decide (0≤(i:Int)∧(i:Int)<(x0.length:Int))=true:=decide_eq_true (by omega)
     have h6:decide (i+1=0)=false:=by simp
     simp only [h3,h4,h5,h6,cond_true,Bool.true_and,Bool.false_or,Int.toNat_natCast,Nat.add_sub_cancel,Bool.not_true,cond_false]
     cases Op.bytesLess (x0.getD i ((0:Int),((⟨#[]⟩:ByteArray),(⟨#[]⟩:ByteArray)))).2.1.toList (x0.getD (i+1) ((0:Int),((⟨#[]⟩:ByteArray),(⟨#[]⟩:ByteArray)))).2.1.toList<;>rfl
  ·have h1:decide ((i:Int)<(x0.length:Int))=false:=decide_eq_false (by omega)
   simp only [B5k,C3i,RT.val,h1,cond_false]
noncomputable def C8s (x0:Lq2) (x3:Int):Option (Ex×St):=let z1:=x0.getD x3.toNat ((0:Int),(bE,bE));let z2:=(⟨((.t false tq4 x0)::.junk::.junk::(ti (wI (x3+(1:Int))))::D56),[],0,[]⟩:St);let z3:=wI (x3 - (1:Int));let z4:=(⟨(.junk::.junk::(.t true .bool false)::D8v),[],0,[]⟩:St);let z5:=decide (0≤x3∧x3<(x0.length:Int));(cond (decide (x3<(x0.length:Int))) (cond z5 (cond (C3E (z1.1) ((z1.2).1) ((z1.2).2)) (cond (!(D08 (z1.1) ((z1.2).1) ((z1.2).2))) (some (.ret,z4)) (cond (decide (x3 > (0:Int))) (cond (decide (0≤z3∧z3<(x0.length:Int))) (cond z5 (cond (!(Op.bytesLess (((x0.getD (z3.toNat) ((0:Int),(bE,bE))).2).1).toList ((z1.2).1).toList)) (some (.ret,z4)) (some (.normal,z2))) none) none) (some (.normal,z2)))) none) none) (some ((.exit 0),(⟨((.t false tq4 x0)::D7n),[],0,[]⟩:St))))
theorem D3p:RdA G22 aLn 0 C38 B0E 0 [] (kepts [2] [(0,[0])]) (fun d=>C8s d.1.1 d.1.2.2.2.1):=by
 intro d
 kernel_rfl
theorem D3w:∀ d:B0E.den,(fun d=>C8s d.1.1 d.1.2.2.2.1) d=(B5k d).opt 0 []:=by
 intro d
 kernel_rfl
noncomputable abbrev C6R:St→Option Tree:=B0E.say 0 [] [] (fun d=>B6K d.1.1 d.1.2.2.2.1)
theorem D4U:aPL C6R C38:=SS.wp2 hlz [] B5k D3p D3w _ (fun d=>D5I d.1.1 d.1.2.2.2.1)
noncomputable def B3M (a0:Lq2):Bool:=(cond (A4W (C8I a0) (a0.length - (0:Int).toNat) (0:Int).toNat) (P1 (a0.length:Int) (1:Int) (8:Int)) false)
noncomputable abbrev C5Y (r:Bool):AV×List AObj:=((.t true .bool r),[])
noncomputable abbrev D0g:D9 C1W→AV×List AObj:=fun d=>C5Y (B3M d.1)
noncomputable def B7r (a0:Lq2):Bool:=T6 a0
noncomputable abbrev C48:D9 C1W→Bool:=fun d=>B7r d.1
noncomputable abbrev D7Z:Nat→St→Option Tree:=fun b=>match b with | 0=>C6R | _=>fun _=>none
theorem D6C:A7X true G22 (D7Z) Tryz.f42 C1W C48 D0g:=by
 rintro ⟨a0,_⟩ hp
 change B7r a0=true at hp
 unfold B7r at hp
 refine Eq.trans (b:=(cond (decide (0≤(0:Int))&&T6 a0) (cond (A4W (C8I a0) (a0.length - (0:Int).toNat) (0:Int).toNat) (some (C5Y (P1 (a0.length:Int) (1:Int) (8:Int)))) (some (C5Y false))) none)) (by kernel_rfl) ?_
 exact (A70 (by first | rfl | decide | exact hp | (simp only [Bool.and_eq_true] at hp;simp only [hp];done) | (simp [*];done) | (simp [okL] at hp;simp [okL,MAXB];omega) | (simp_all;done) | (simp at *;omega)) (fun _h=>(Q7 C5Y (fun _h=>rfl) (fun _h=>rfl))))
theorem D8i:aPP 42 (A19 C1W C48 D0g):=pcD true G22 (hl1 (i:=0) (by kernel_rfl) D4U) D6C
noncomputable def S23:Tab:=Tab.add S22 42 (lift (A19 C1W C48 D0g))
noncomputable def D98:FuncId→Bool:=qadd D97 42
theorem G23:aPG S23 D98:=G22.addQ D8i (cbl Tryz.f42) (fun _=>rfl)

abbrev C1X:List PSh:=[.agg [(.int .i64),(.int .i64),tq4]]
noncomputable def A9L (a0 a1:Int) (a2:Lq2):Bool:=(cond (!(P1 a1 (1:Int) (1000000:Int))) false (cond (a0==(1:Int)) (B3M a2) (cond (a0==(2:Int)) ((a2.length:Int)==(0:Int)) (cond (a0==(3:Int)) ((a2.length:Int)==(0:Int)) false))))
noncomputable abbrev B3p (r:Bool):AV×List AObj:=((.t true .bool r),[])
noncomputable abbrev D0h:D9 C1X→AV×List AObj:=fun d=>B3p (A9L d.1.1 d.1.2.1 d.1.2.2.1)
noncomputable def B5d (a0 a1:Int) (a2:Lq2):Bool:=T6 a2
noncomputable abbrev C49:D9 C1X→Bool:=fun d=>B5d d.1.1 d.1.2.1 d.1.2.2.1
theorem D6D:A7X true G23 aLn Tryz.f80 C1X C49 D0h:=by
 rintro ⟨⟨a0,⟨a1,⟨a2,_⟩⟩⟩,_⟩ hp
 change B5d a0 a1 a2=true at hp
 unfold B5d at hp
 refine Eq.trans (b:=(let z1:=B3p ((a2.length:Int)==(0:Int));cond (!(P1 a1 (1:Int) (1000000:Int))) (some (B3p false)) (cond (a0==(1:Int)) (cond (B7r a2) (some (B3p (B3M a2))) none) (cond (a0==(2:Int)) (some z1) (cond (a0==(3:Int)) (some z1) (some (B3p false))))))) (by kernel_rfl) ?_
 exact (Q7 B3p (fun _h=>rfl) (fun _h=>(Q7 B3p (fun _h=>(A70 (by first | rfl | decide | exact hp | (simp only [Bool.and_eq_true] at hp;simp only [hp];done) | (simp [*];done) | (simp [okL] at hp;simp [okL,MAXB];omega) | (simp_all;done) | (simp at *;omega)) (fun _h=>rfl))) (fun _h=>(Q7 B3p (fun _h=>rfl) (fun _h=>(Q7 B3p (fun _h=>rfl) (fun _h=>rfl))))))))
theorem D8j:aPP 80 (A19 C1X C49 D0h):=pcD true G23 hlz D6D
noncomputable def S24:Tab:=Tab.add S23 80 (lift (A19 C1X C49 D0h))
noncomputable def D99:FuncId→Bool:=qadd D98 80
theorem G24:aPG S24 D99:=G23.addQ D8j (cbl Tryz.f80) (fun _=>rfl)

abbrev E1M:Ty:=.sl (.int .i64)
abbrev D8w:List Sh:=.junk::.junk::.junk::.junk::.junk::.junk::.junk::.junk::.junk::.junk::.junk::.junk::[]
abbrev E1A:List Sh:=.junk::D8w
abbrev u14:=((),(),(),(),(),(),(),(),(),(),(),(),(),())
abbrev u13:=((),(),(),(),(),(),(),(),(),(),(),(),())
abbrev C1Y:List PSh:=[.t E1M,.t (.int .i64)]
abbrev B2h:SS:=⟨(.t false E1M::tI::.junk::.junk::.junk::tI::D8w),[]⟩
abbrev C5u:SS:=⟨(.junk::.junk::.junk::.junk::.t true .bool::E1A),[]⟩
abbrev C5v:SS:=⟨(.junk::D9n),[]⟩
noncomputable def C8Q (x0:List Int) (x1 x5:Int):RT B2h.den:=(.br (decide (x5<(x0.length:Int))) (.br (decide (0≤x5∧x5<(x0.length:Int))) (.br ((x0.getD x5.toNat (0:Int))==x1) (.done .ret C5u (((),(),(),(),true,u14),())) (.next ((x0,x1,(),(),(),wI (x5+(1:Int)),u13),()))) .fail) (.done (.exit 0) C5v ((u19),())))
abbrev B6L:=(List Int)×(Int)×(Int)
abbrev B35:=Nat×(Bool)
def C8b:B35:=(99,(false:Bool))
noncomputable def B8d (x0:List Int) (x1 x5:Int):B6L ⊕ B35:=(cond (decide (x5<(x0.length:Int))) (cond (decide (0≤x5∧x5<(x0.length:Int))) (cond ((x0.getD x5.toNat (0:Int))==x1) (.inr (0,true)) (.inl (x0,x1,wI (x5+(1:Int))))) (.inr C8b)) (.inr (1,(false:Bool))))
noncomputable def B2K (x0:List Int) (x1 x5:Int):B35:=itX (fun v:B6L=>B8d v.1 v.2.1 v.2.2) C8b (x0,x1,x5)
noncomputable def C2h (a:B35):CT:=(.br (a.1==0) (.done .ret C5u (((),(),(),(),a.2,u14),())) (.br (a.1==1) (.done (.exit 0) C5v ((u19),())) .fail))
noncomputable def D5O (x0:List Int) (x1 x5:Int):CT:=C2h (B2K x0 x1 x5)
noncomputable abbrev C29:B2h.den→RT B2h.den:=(fun d=>C8Q d.1.1 d.1.2.1 d.1.2.2.2.2.2.1)
noncomputable def C39:Code:=((D5 0 (A1o Tryz.f81)).getD 0 (0,.skip)).2
noncomputable abbrev C8G (v:B6L):B2h.den:=((v.1,v.2.1,(),(),(),v.2.2,u13),())
theorem D48:(∀ v:B6L,(C8Q v.1 v.2.1 v.2.2).val=A6W C8G C2h (B8d v.1 v.2.1 v.2.2))∧∀ a:B35,CEnd B2h.den (C2h a):=⟨fun v=>(A72 (A72 (A72 rfl rfl) rfl) rfl),fun a=>(A7P aCD (A7P aCD A7R))⟩
theorem D3q:RdA G24 aLn 0 C39 B2h 0 [] (kepts [4] [(0,[])]) (fun d=>(C29 d).opt 0 []):=by
 intro d
 kernel_rfl
noncomputable abbrev C6S:St→Option Tree:=B2h.say 0 [] [] (fun d=>D5O d.1.1 d.1.2.1 d.1.2.2.2.2.2.1)
theorem D4V:aPL C6S C39:=SS.wp2 hlz [] C29 D3q (fun d=>rfl) _ (fun d=>Runs.ofI2 (step:=C29) C8G D48 rfl (d.1.1,d.1.2.1,d.1.2.2.2.2.2.1))
noncomputable def B4y (a0:List Int) (a1:Int):Bool:=let z1:=B2K a0 a1 (0:Int);(cond (z1.1==0) (z1.2) false)
noncomputable abbrev C50 (r:Bool):AV×List AObj:=((.t true .bool r),[])
noncomputable abbrev D0i:D9 C1Y→AV×List AObj:=fun d=>C50 (B4y d.1 d.2.1)
noncomputable def A9h (a0:List Int) (a1:Int):Bool:=let z1:=B2K a0 a1 (0:Int);cond (z1.1==0) true (z1.1==1)
noncomputable abbrev C5a:D9 C1Y→Bool:=fun d=>A9h d.1 d.2.1
noncomputable abbrev D70:Nat→St→Option Tree:=fun b=>match b with | 0=>C6S | _=>fun _=>none
theorem D6E:A7X true G24 (D70) Tryz.f81 C1Y C5a D0i:=by
 rintro ⟨a0,⟨a1,_⟩⟩ hp
 change A9h a0 a1=true at hp
 unfold A9h at hp
 refine Eq.trans (b:=(let z1:=B2K a0 a1 (0:Int);cond (z1.1==0) (some (C50 (z1.2))) (cond (z1.1==1) (some (C50 false)) none))) (by kernel_rfl) ?_
 exact (K9 C50 hp (fun hp=>rfl) (fun hp=>(A70 hp fun _h=>rfl)))
theorem D8k:aPP 81 (A19 C1Y C5a D0i):=pcD true G24 (hl1 (i:=0) (by kernel_rfl) D4V) D6E
noncomputable def S25:Tab:=Tab.add S24 81 (lift (A19 C1Y C5a D0i))
noncomputable def E0a:FuncId→Bool:=qadd D99 81
theorem G25:aPG S25 E0a:=G24.addQ D8k (cbl Tryz.f81) (fun _=>rfl)

abbrev D8D:List Sh:=.junk::D8C
abbrev D7r:List Sh:=.junk::.junk::.junk::D8D
abbrev D8E:List Sh:=.junk::D8D
abbrev u41:=((),(),(),(),u37)
abbrev u38:=((),u37)
abbrev u39:=((),u38)
abbrev D7o:List AV:=.junk::.junk::.junk::.junk::D7n
abbrev D9l:List AV:=.junk::D7n
abbrev D57:List AV:=.junk::D9l
abbrev D9P:List Sh:=.junk::D8E
abbrev u40:=((),u39)
abbrev D9N:List AV:=.junk::D57
abbrev E1G:List Sh:=.junk::.junk::.junk::.junk::D7r
abbrev u46:=((),(),(),(),(),u41)
abbrev E1t:List AV:=.junk::.junk::.junk::.junk::D7o
abbrev B4X:List PSh:=[.t tq3,.t tq4]
noncomputable def B4d:Code:=((D5 0 (A1o Tryz.f44)).getD 0 (0,.skip)).2
noncomputable def B4e:Code:=((D5 0 B4d).getD 0 (0,.skip)).2
noncomputable def B84:Code:=((D5 2 B4e).getD 0 (0,.skip)).2
abbrev X4:SS:=⟨(.t false tq3::.t false tq4::.junk::.junk::.junk::tI::tI::tI::D8D),[]⟩
abbrev C02:SS:=⟨(.junk::.junk::.junk::.junk::.t true .bool::D7r),[]⟩
abbrev C03:SS:=⟨(.t false tq3::.t false tq4::.junk::.junk::.junk::tI::tI::D8E),[]⟩
noncomputable def C3l (x0:Lq1) (x1:Lq2) (x5 x6 x7:Int):RT X4.den:=let z1:=((x0.getD x5.toNat ((0:Int),((0:Int),[]))).2).2;(.br (decide (x7<(x1.length:Int))) (.br (decide (0≤x5∧x5<(x0.length:Int))) (.br (decide (0≤x6∧x6<((z1.length:Nat):Int))) (.br (decide (0≤x7∧x7<(x1.length:Int))) (.br ((((z1.getD x6.toNat ((0:Int),(bE,bE))).2).1).toList==(((x1.getD x7.toNat ((0:Int),(bE,bE))).2).1).toList) (.done .ret C02 (((),(),(),(),true,u41),())) (.next ((x0,x1,(),(),(),x5,x6,wI (x7+(1:Int)),u38),()))) .fail) .fail) .fail) (.done (.exit 4) C03 ((x0,x1,(),(),(),x5,x6,u39),())))
abbrev B0a:=(Lq1)×Lq2×(Int)×(Int)×(Int)
abbrev B1J:=Nat×(Bool)×Lq1×Lq2×(Int)×(Int)
def B0N:B1J:=(99,(false:Bool),([]:Lq1),([]:Lq2),((0:Int):Int),((0:Int):Int))
noncomputable def A9n (x0:Lq1) (x1:Lq2) (x5 x6 x7:Int):B0a ⊕ B1J:=let z1:=((x0.getD x5.toNat ((0:Int),((0:Int),[]))).2).2;(cond (decide (x7<(x1.length:Int))) (cond (decide (0≤x5∧x5<(x0.length:Int))) (cond (decide (0≤x6∧x6<((z1.length:Nat):Int))) (cond (decide (0≤x7∧x7<(x1.length:Int))) (cond ((((z1.getD x6.toNat ((0:Int),(bE,bE))).2).1).toList==(((x1.getD x7.toNat ((0:Int),(bE,bE))).2).1).toList) (.inr (0,true,([]:Lq1),([]:Lq2),((0:Int):Int),((0:Int):Int))) (.inl (x0,x1,x5,x6,wI (x7+(1:Int))))) (.inr B0N)) (.inr B0N)) (.inr B0N)) (.inr (1,(false:Bool),x0,x1,x5,x6)))
noncomputable def B0V (x0:Lq1) (x1:Lq2) (x5 x6 x7:Int):B1J:=itX (fun v:B0a=>A9n v.1 v.2.1 v.2.2.1 v.2.2.2.1 v.2.2.2.2) B0N (x0,x1,x5,x6,x7)
noncomputable def B6Z (a:B1J):CT:=(.br (a.1==0) (.done .ret C02 (((),(),(),(),a.2.1,u41),())) (.br (a.1==1) (.done (.exit 4) C03 ((a.2.2.1,a.2.2.2.1,(),(),(),a.2.2.2.2.1,a.2.2.2.2.2,u39),())) .fail))
noncomputable def D1o (x0:Lq1) (x1:Lq2) (x5 x6 x7:Int):CT:=B6Z (B0V x0 x1 x5 x6 x7)
noncomputable abbrev B3k {α:Sort _} (f:Lq1→Lq2→Int→Int→Int→α) (d:X4.den):α:=f d.1.1 d.1.2.1 d.1.2.2.2.2.2.1 d.1.2.2.2.2.2.2.1 d.1.2.2.2.2.2.2.2.1
noncomputable abbrev B7y:X4.den→RT X4.den:=(B3k C3l)
noncomputable abbrev C2T (v:B0a):X4.den:=((v.1,v.2.1,(),(),(),v.2.2.1,v.2.2.2.1,v.2.2.2.2,u38),())
theorem D0U:(∀ v:B0a,(C3l v.1 v.2.1 v.2.2.1 v.2.2.2.1 v.2.2.2.2).val=A6W C2T B6Z (A9n v.1 v.2.1 v.2.2.1 v.2.2.2.1 v.2.2.2.2))∧∀ a:B1J,CEnd X4.den (B6Z a):=⟨fun v=>(A72 (A72 (A72 (A72 (A72 rfl rfl) rfl) rfl) rfl) rfl),fun a=>(A7P aCD (A7P aCD A7R))⟩
noncomputable def C2w (x0:Lq1) (x1:Lq2) (x5 x6 x7:Int):Option (Ex×St):=let z1:=((x0.getD x5.toNat ((0:Int),((0:Int),[]))).2).2;(cond (decide (x7<(x1.length:Int))) (cond (decide (0≤x5∧x5<(x0.length:Int))) (cond (decide (0≤x6∧x6<((z1.length:Nat):Int))) (cond (decide (0≤x7∧x7<(x1.length:Int))) (cond ((((z1.getD x6.toNat ((0:Int),(bE,bE))).2).1).toList==(((x1.getD x7.toNat ((0:Int),(bE,bE))).2).1).toList) (some (.ret,(⟨(.junk::.junk::.junk::.junk::(.t true .bool true)::D7o),[],0,[]⟩:St))) (some (.normal,(⟨((.t false tq3 x0)::(.t false tq4 x1)::.junk::.junk::.junk::(ti x5)::(ti x6)::(ti (wI (x7+(1:Int))))::D9l),[],0,[]⟩:St)))) none) none) none) (some ((.exit 4),(⟨((.t false tq3 x0)::(.t false tq4 x1)::.junk::.junk::.junk::(ti x5)::(ti x6)::D57),[],0,[]⟩:St))))
theorem C9a:RdA G25 aLn 4 B84 X4 0 [] (kepts [4] [(4,[0,1,5,6])]) (B3k C2w):=by
 intro d
 kernel_rfl
theorem C9f:∀ d:X4.den,(B3k C2w) d=(B7y d).opt 0 []:=by
 intro d
 kernel_rfl
noncomputable abbrev C1u:St→Option Tree:=X4.say 0 [] [] (B3k D1o)
theorem D0x:aPL C1u B84:=SS.wp2 hlz [] B7y C9a C9f _ (fun d=>Runs.ofI2 (step:=B7y) C2T D0U rfl (d.1.1,d.1.2.1,d.1.2.2.2.2.2.1,d.1.2.2.2.2.2.2.1,d.1.2.2.2.2.2.2.2.1))
abbrev X3:SS:=⟨(.t false tq3::.t false tq4::.junk::.junk::.junk::tI::tI::D8E),[]⟩
abbrev C00:SS:=⟨(.junk::.junk::.junk::.junk::.t true .bool::D7r),[]⟩
abbrev C01:SS:=⟨(.t false tq3::.t false tq4::.junk::.junk::.junk::tI::D9P),[]⟩
noncomputable def C3k (x0:Lq1) (x1:Lq2) (x5 x6:Int):RT X3.den:=let z1:=B0V x0 x1 x5 x6 (0:Int);(.br (decide (0≤x5∧x5<(x0.length:Int))) (.br (decide (x6<(((((x0.getD x5.toNat ((0:Int),((0:Int),[]))).2).2).length:Nat):Int))) (.br (z1.1==0) (.done .ret C00 (((),(),(),(),(z1.2.1),u41),())) (.br (z1.1==1) (.next (((z1.2.2.1),(z1.2.2.2.1),(),(),(),(z1.2.2.2.2.1),wI ((z1.2.2.2.2.2)+(1:Int)),u39),())) .fail)) (.done (.exit 2) C01 ((x0,x1,(),(),(),x5,u40),()))) .fail)
abbrev A99:=(Lq1)×Lq2×(Int)×(Int)
abbrev B1I:=Nat×(Bool)×Lq1×Lq2×(Int)
def B3r:B1I:=(99,(false:Bool),([]:Lq1),([]:Lq2),((0:Int):Int))
noncomputable def A8m (x0:Lq1) (x1:Lq2) (x5 x6:Int):A99 ⊕ B1I:=let z1:=B0V x0 x1 x5 x6 (0:Int);(cond (decide (0≤x5∧x5<(x0.length:Int))) (cond (decide (x6<(((((x0.getD x5.toNat ((0:Int),((0:Int),[]))).2).2).length:Nat):Int))) (cond (z1.1==0) (.inr (0,(z1.2.1),([]:Lq1),([]:Lq2),((0:Int):Int))) (cond (z1.1==1) (.inl ((z1.2.2.1),(z1.2.2.2.1),(z1.2.2.2.2.1),wI ((z1.2.2.2.2.2)+(1:Int)))) (.inr B3r))) (.inr (1,(false:Bool),x0,x1,x5))) (.inr B3r))
noncomputable def B0U (x0:Lq1) (x1:Lq2) (x5 x6:Int):B1I:=itX (fun v:A99=>A8m v.1 v.2.1 v.2.2.1 v.2.2.2) B3r (x0,x1,x5,x6)
noncomputable def B6Y (a:B1I):CT:=(.br (a.1==0) (.done .ret C00 (((),(),(),(),a.2.1,u41),())) (.br (a.1==1) (.done (.exit 2) C01 ((a.2.2.1,a.2.2.2.1,(),(),(),a.2.2.2.2,u40),())) .fail))
noncomputable def D1n (x0:Lq1) (x1:Lq2) (x5 x6:Int):CT:=B6Y (B0U x0 x1 x5 x6)
noncomputable abbrev B3j {α:Sort _} (f:Lq1→Lq2→Int→Int→α) (d:X3.den):α:=f d.1.1 d.1.2.1 d.1.2.2.2.2.2.1 d.1.2.2.2.2.2.2.1
noncomputable abbrev B7x:X3.den→RT X3.den:=(B3j C3k)
noncomputable abbrev C2S (v:A99):X3.den:=((v.1,v.2.1,(),(),(),v.2.2.1,v.2.2.2,u39),())
theorem D0T:(∀ v:A99,(C3k v.1 v.2.1 v.2.2.1 v.2.2.2).val=A6W C2S B6Y (A8m v.1 v.2.1 v.2.2.1 v.2.2.2))∧∀ a:B1I,CEnd X3.den (B6Y a):=⟨fun v=>(A72 (A72 (A72 rfl (A72 rfl rfl)) rfl) rfl),fun a=>(A7P aCD (A7P aCD A7R))⟩
noncomputable abbrev D1g:Nat→St→Option Tree:=fun b=>match b with | 4=>C1u | _=>fun _=>none
noncomputable def C2v (x0:Lq1) (x1:Lq2) (x5 x6:Int):Option (Ex×St):=let z1:=B0V x0 x1 x5 x6 (0:Int);(cond (decide (0≤x5∧x5<(x0.length:Int))) (cond (decide (x6<(((((x0.getD x5.toNat ((0:Int),((0:Int),[]))).2).2).length:Nat):Int))) (cond (z1.1==0) (some (.ret,(⟨(.junk::.junk::.junk::.junk::(.t true .bool (z1.2.1))::D7o),[],0,[]⟩:St))) (cond (z1.1==1) (some (.normal,(⟨((.t false tq3 (z1.2.2.1))::(.t false tq4 (z1.2.2.2.1))::.junk::.junk::.junk::(ti (z1.2.2.2.2.1))::(ti (wI ((z1.2.2.2.2.2)+(1:Int))))::D57),[],0,[]⟩:St))) none)) (some ((.exit 2),(⟨((.t false tq3 x0)::(.t false tq4 x1)::.junk::.junk::.junk::(ti x5)::D9N),[],0,[]⟩:St)))) none)
theorem C89:RdA G25 (D1g) 2 B4e X3 0 [] (kepts [4] [(2,[0,1,5])]) (B3j C2v):=by
 intro d
 kernel_rfl
theorem C9e:∀ d:X3.den,(B3j C2v) d=(B7x d).opt 0 []:=by
 intro d
 kernel_rfl
noncomputable abbrev C1t:St→Option Tree:=X3.say 0 [] [] (B3j D1n)
theorem D0w:aPL C1t B4e:=SS.wp2 (hl1 (i:=4) (by kernel_rfl) D0x) [] B7x C89 C9e _ (fun d=>Runs.ofI2 (step:=B7x) C2S D0T rfl (d.1.1,d.1.2.1,d.1.2.2.2.2.2.1,d.1.2.2.2.2.2.2.1))
abbrev A74:SS:=⟨(.t false tq3::.t false tq4::.junk::.junk::.junk::tI::D9P),[]⟩
abbrev C0Y:SS:=⟨(.junk::.junk::.junk::.junk::.t true .bool::D7r),[]⟩
abbrev C0Z:SS:=⟨(.junk::E1G),[]⟩
noncomputable def C3j (x0:Lq1) (x1:Lq2) (x5:Int):RT A74.den:=let z1:=B0U x0 x1 x5 (0:Int);(.br (decide (x5<(x0.length:Int))) (.br (z1.1==0) (.done .ret C0Y (((),(),(),(),(z1.2.1),u41),())) (.br (z1.1==1) (.next (((z1.2.2.1),(z1.2.2.2.1),(),(),(),wI ((z1.2.2.2.2)+(1:Int)),u40),())) .fail)) (.done (.exit 0) C0Z ((u46),())))
abbrev A98:=(Lq1)×Lq2×(Int)
abbrev B1H:=Nat×(Bool)
def B61:B1H:=(99,(false:Bool))
noncomputable def B1a (x0:Lq1) (x1:Lq2) (x5:Int):A98 ⊕ B1H:=let z1:=B0U x0 x1 x5 (0:Int);(cond (decide (x5<(x0.length:Int))) (cond (z1.1==0) (.inr (0,(z1.2.1))) (cond (z1.1==1) (.inl ((z1.2.2.1),(z1.2.2.2.1),wI ((z1.2.2.2.2)+(1:Int)))) (.inr B61))) (.inr (1,(false:Bool))))
noncomputable def B0T (x0:Lq1) (x1:Lq2) (x5:Int):B1H:=itX (fun v:A98=>B1a v.1 v.2.1 v.2.2) B61 (x0,x1,x5)
noncomputable def B6X (a:B1H):CT:=(.br (a.1==0) (.done .ret C0Y (((),(),(),(),a.2,u41),())) (.br (a.1==1) (.done (.exit 0) C0Z ((u46),())) .fail))
noncomputable def D1m (x0:Lq1) (x1:Lq2) (x5:Int):CT:=B6X (B0T x0 x1 x5)
noncomputable abbrev B7w:A74.den→RT A74.den:=(fun d=>C3j d.1.1 d.1.2.1 d.1.2.2.2.2.2.1)
noncomputable abbrev C2R (v:A98):A74.den:=((v.1,v.2.1,(),(),(),v.2.2,u40),())
theorem D0S:(∀ v:A98,(C3j v.1 v.2.1 v.2.2).val=A6W C2R B6X (B1a v.1 v.2.1 v.2.2))∧∀ a:B1H,CEnd A74.den (B6X a):=⟨fun v=>(A72 (A72 rfl (A72 rfl rfl)) rfl),fun a=>(A7P aCD (A7P aCD A7R))⟩
noncomputable abbrev D1f:Nat→St→Option Tree:=fun b=>match b with | 2=>C1t | _=>fun _=>none
noncomputable def C2u (x0:Lq1) (x1:Lq2) (x5:Int):Option (Ex×St):=let z1:=B0U x0 x1 x5 (0:Int);(cond (decide (x5<(x0.length:Int))) (cond (z1.1==0) (some (.ret,(⟨(.junk::.junk::.junk::.junk::(.t true .bool (z1.2.1))::D7o),[],0,[]⟩:St))) (cond (z1.1==1) (some (.normal,(⟨((.t false tq3 (z1.2.2.1))::(.t false tq4 (z1.2.2.2.1))::.junk::.junk::.junk::(ti (wI ((z1.2.2.2.2)+(1:Int))))::D9N),[],0,[]⟩:St))) none)) (some ((.exit 0),(⟨(.junk::E1t),[],0,[]⟩:St))))
theorem C88:RdA G25 (D1f) 0 B4d A74 0 [] (kepts [4] [(0,[])]) (fun d=>C2u d.1.1 d.1.2.1 d.1.2.2.2.2.2.1):=by
 intro d
 kernel_rfl
theorem C9d:∀ d:A74.den,(fun d=>C2u d.1.1 d.1.2.1 d.1.2.2.2.2.2.1) d=(B7w d).opt 0 []:=by
 intro d
 kernel_rfl
noncomputable abbrev C1s:St→Option Tree:=A74.say 0 [] [] (fun d=>D1m d.1.1 d.1.2.1 d.1.2.2.2.2.2.1)
theorem D0v:aPL C1s B4d:=SS.wp2 (hl1 (i:=2) (by kernel_rfl) D0w) [] B7w C88 C9d _ (fun d=>Runs.ofI2 (step:=B7w) C2R D0S rfl (d.1.1,d.1.2.1,d.1.2.2.2.2.2.1))
noncomputable def A8v (a0:Lq1) (a1:Lq2):Bool:=let z1:=B0T a0 a1 (0:Int);(cond (z1.1==0) (z1.2) false)
noncomputable abbrev B7X (r:Bool):AV×List AObj:=((.t true .bool r),[])
noncomputable abbrev C2o:D9 B4X→AV×List AObj:=fun d=>B7X (A8v d.1 d.2.1)
noncomputable def Y9 (a0:Lq1) (a1:Lq2):Bool:=let z1:=B0T a0 a1 (0:Int);cond (z1.1==0) true (z1.1==1)
noncomputable abbrev B8t:D9 B4X→Bool:=fun d=>Y9 d.1 d.2.1
noncomputable abbrev D35:Nat→St→Option Tree:=fun b=>match b with | 0=>C1s | _=>fun _=>none
theorem D1U:A7X true G25 (D35) Tryz.f44 B4X B8t C2o:=by
 rintro ⟨a0,⟨a1,_⟩⟩ hp
 change Y9 a0 a1=true at hp
 unfold Y9 at hp
 refine Eq.trans (b:=(let z1:=B0T a0 a1 (0:Int);cond (z1.1==0) (some (B7X (z1.2))) (cond (z1.1==1) (some (B7X false)) none))) (by kernel_rfl) ?_
 exact (K9 B7X hp (fun hp=>rfl) (fun hp=>(A70 hp fun _h=>rfl)))
theorem D4o:aPP 44 (A19 B4X B8t C2o):=pcD true G25 (hl1 (i:=0) (by kernel_rfl) D0v) D1U
noncomputable def S26:Tab:=Tab.add S25 44 (lift (A19 B4X B8t C2o))
noncomputable def E0b:FuncId→Bool:=qadd E0a 44
theorem G26:aPG S26 E0b:=G25.addQ D4o (cbl Tryz.f44) (fun _=>rfl)

abbrev u20:=((),u19)
abbrev B8W:List PSh:=[.t tq6,.t .str]
abbrev B0C:SS:=⟨(.t false tq6::.t true .str::.junk::.junk::.junk::.junk::tI::D4G),[]⟩
abbrev C3T:SS:=⟨(.junk::.junk::.junk::.junk::.t true .str::.t true .bool::D7q),[]⟩
abbrev C3U:SS:=⟨(.junk::D8z),[]⟩
noncomputable def C61 (x0:LBBe) (x1:ByteArray) (x6:Int):RT B0C.den:=let z1:=decide (0≤x6∧x6<(x0.length:Int));let z2:=x0.getD x6.toNat (bE,bE);(.br (decide (x6<(x0.length:Int))) (.br z1 (.br ((z2.1).toList==x1.toList) (.br z1 (.done .ret C3T (((),(),(),(),z2.2,true,u20),())) .fail) (.next ((x0,x1,(),(),(),(),wI (x6+(1:Int)),u19),()))) .fail) (.done (.exit 0) C3U ((u26),())))
abbrev B2B:=(LBBe)×(ByteArray)×(Int)
abbrev B2y:=Nat×(ByteArray)×(Bool)
def B56:B2y:=(99,(bE:ByteArray),(false:Bool))
noncomputable def B3U (x0:LBBe) (x1:ByteArray) (x6:Int):B2B ⊕ B2y:=let z1:=decide (0≤x6∧x6<(x0.length:Int));let z2:=x0.getD x6.toNat (bE,bE);(cond (decide (x6<(x0.length:Int))) (cond z1 (cond ((z2.1).toList==x1.toList) (cond z1 (.inr (0,z2.2,true)) (.inr B56)) (.inl (x0,x1,wI (x6+(1:Int))))) (.inr B56)) (.inr (1,(bE:ByteArray),(false:Bool))))
noncomputable def B3x (x0:LBBe) (x1:ByteArray) (x6:Int):B2y:=itX (fun v:B2B=>B3U v.1 v.2.1 v.2.2) B56 (x0,x1,x6)
noncomputable def B9Y (a:B2y):CT:=(.br (a.1==0) (.done .ret C3T (((),(),(),(),a.2.1,a.2.2,u20),())) (.br (a.1==1) (.done (.exit 0) C3U ((u26),())) .fail))
noncomputable def D4c (x0:LBBe) (x1:ByteArray) (x6:Int):CT:=B9Y (B3x x0 x1 x6)
noncomputable abbrev C0P:B0C.den→RT B0C.den:=(fun d=>C61 d.1.1 d.1.2.1 d.1.2.2.2.2.2.2.1)
noncomputable def C17:Code:=((D5 0 (A1o Tryz.f72)).getD 0 (0,.skip)).2
noncomputable abbrev C6r (v:B2B):B0C.den:=((v.1,v.2.1,(),(),(),(),v.2.2,u19),())
theorem D3C:(∀ v:B2B,(C61 v.1 v.2.1 v.2.2).val=A6W C6r B9Y (B3U v.1 v.2.1 v.2.2))∧∀ a:B2y,CEnd B0C.den (B9Y a):=⟨fun v=>(A72 (A72 (A72 (A72 rfl rfl) rfl) rfl) rfl),fun a=>(A7P aCD (A7P aCD A7R))⟩
theorem D1H:RdA G26 aLn 0 C17 B0C 0 [] (kepts [4,5] [(0,[])]) (fun d=>(C0P d).opt 0 []):=by
 intro d
 kernel_rfl
noncomputable abbrev C4v:St→Option Tree:=B0C.say 0 [] [] (fun d=>D4c d.1.1 d.1.2.1 d.1.2.2.2.2.2.2.1)
theorem D3a:aPL C4v C17:=SS.wp2 hlz [] C0P D1H (fun d=>rfl) _ (fun d=>Runs.ofI2 (step:=C0P) C6r D3C rfl (d.1.1,d.1.2.1,d.1.2.2.2.2.2.2.1))
noncomputable def B3L (a0:LBBe) (a1:ByteArray):ByteArray×Bool:=let z1:=B3x a0 a1 (0:Int);(cond (z1.1==0) ((z1.2.1),(z1.2.2)) (bE,false))
noncomputable abbrev C3r (r:ByteArray×Bool):AV×List AObj:=((.tup [(.t true .str r.1),(.t true .bool r.2)]),[])
noncomputable abbrev C7o:D9 B8W→AV×List AObj:=fun d=>C3r (B3L d.1 d.2.1)
noncomputable def B2S (a0:LBBe) (a1:ByteArray):Bool:=let z1:=B3x a0 a1 (0:Int);cond (z1.1==0) true (z1.1==1)
noncomputable abbrev C2K:D9 B8W→Bool:=fun d=>B2S d.1 d.2.1
noncomputable abbrev D6X:Nat→St→Option Tree:=fun b=>match b with | 0=>C4v | _=>fun _=>none
theorem D5l:A7X true G26 (D6X) Tryz.f72 B8W C2K C7o:=by
 rintro ⟨a0,⟨a1,_⟩⟩ hp
 change B2S a0 a1=true at hp
 unfold B2S at hp
 refine Eq.trans (b:=(let z1:=B3x a0 a1 (0:Int);cond (z1.1==0) (some (C3r ((z1.2.1),(z1.2.2)))) (cond (z1.1==1) (some (C3r ((⟨#[]⟩:ByteArray),false))) none))) (by kernel_rfl) ?_
 exact (K9 C3r hp (fun hp=>rfl) (fun hp=>(A70 hp fun _h=>rfl)))
theorem D7f:aPP 72 (A19 B8W C2K C7o):=pcD true G26 (hl1 (i:=0) (by kernel_rfl) D3a) D5l
noncomputable def S27:Tab:=Tab.add S26 72 (lift (A19 B8W C2K C7o))
noncomputable def E0c:FuncId→Bool:=qadd E0b 72
theorem G27:aPG S27 E0c:=G26.addQ D7f (cbl Tryz.f72) (fun _=>rfl)

abbrev E1E:List Sh:=.junk::D7r
abbrev E1F:List Sh:=.junk::E1E
abbrev D8F:List Sh:=.junk::.junk::E1G
abbrev u42:=((),u41)
abbrev u43:=((),u42)
abbrev u48:=((),(),u46)
abbrev E1r:List AV:=.junk::D7o
abbrev E1s:List AV:=.junk::E1r
abbrev D58:List AV:=.junk::.junk::E1t
abbrev C1V:List PSh:=[.t tq6,.t tq4]
abbrev B0D:SS:=⟨(.t false tq6::.t false tq4::.junk::.junk::.junk::tI::E1E),[]⟩
abbrev B9O:SS:=⟨(.junk::.junk::.junk::.junk::.t true .bool::E1F),[]⟩
abbrev C5s:SS:=⟨(.junk::D8F),[]⟩
noncomputable def C3x (x0:LBBe) (x1:Lq2) (x5:Int):=B3L x0 (((x1.getD x5.toNat ((0:Int),(bE,bE))).2).1)
noncomputable def C8P (x0:LBBe) (x1:Lq2) (x5:Int):RT B0D.den:=let z1:=x1.getD x5.toNat ((0:Int),(bE,bE));let z2:=decide (0≤x5∧x5<(x1.length:Int));let z3:=C3x x0 x1 x5;(.br (decide (x5<(x1.length:Int))) (.br z2 (.br ((z1.1) != (3:Int)) (.next ((x0,x1,(),(),(),wI (x5+(1:Int)),u42),())) (.br z2 (.br (B2S x0 ((z1.2).1)) (.br z2 (.br (!((z3.2)==(!(((z1.2).2).toList==bE.toList)))) (.done .ret B9O (((),(),(),(),false,u43),())) (.br z2 (.br (!((z3.1).toList==((z1.2).2).toList)) (.done .ret B9O (((),(),(),(),false,u43),())) (.next ((x0,x1,(),(),(),wI (x5+(1:Int)),u42),()))) .fail)) .fail) .fail) .fail)) .fail) (.done (.exit 0) C5s ((u48),())))
abbrev B4c:=(LBBe)×Lq2×(Int)
abbrev B6m:=Nat×(Bool)
def B0M:B6m:=(99,(false:Bool))
noncomputable def B5o (x0:LBBe) (x1:Lq2) (x5:Int):B4c ⊕ B6m:=let z1:=x1.getD x5.toNat ((0:Int),(bE,bE));let z2:=decide (0≤x5∧x5<(x1.length:Int));let z3:=C3x x0 x1 x5;(cond (decide (x5<(x1.length:Int))) (cond z2 (cond ((z1.1) != (3:Int)) (.inl (x0,x1,wI (x5+(1:Int)))) (cond z2 (cond (B2S x0 ((z1.2).1)) (cond z2 (cond (!((z3.2)==(!(((z1.2).2).toList==bE.toList)))) (.inr (0,false)) (cond z2 (cond (!((z3.1).toList==((z1.2).2).toList)) (.inr (0,false)) (.inl (x0,x1,wI (x5+(1:Int))))) (.inr B0M))) (.inr B0M)) (.inr B0M)) (.inr B0M))) (.inr B0M)) (.inr (1,(false:Bool))))
noncomputable def B49 (x0:LBBe) (x1:Lq2) (x5:Int):B6m:=itX (fun v:B4c=>B5o v.1 v.2.1 v.2.2) B0M (x0,x1,x5)
noncomputable def C2g (a:B6m):CT:=(.br (a.1==0) (.done .ret B9O (((),(),(),(),a.2,u43),())) (.br (a.1==1) (.done (.exit 0) C5s ((u48),())) .fail))
noncomputable def D5N (x0:LBBe) (x1:Lq2) (x5:Int):CT:=C2g (B49 x0 x1 x5)
noncomputable abbrev C28:B0D.den→RT B0D.den:=(fun d=>C8P d.1.1 d.1.2.1 d.1.2.2.2.2.2.1)
noncomputable def C37:Code:=((D5 0 (A1o Tryz.f45)).getD 0 (0,.skip)).2
noncomputable abbrev C8F (v:B4c):B0D.den:=((v.1,v.2.1,(),(),(),v.2.2,u42),())
theorem D47:(∀ v:B4c,(C8P v.1 v.2.1 v.2.2).val=A6W C8F C2g (B5o v.1 v.2.1 v.2.2))∧∀ a:B6m,CEnd B0D.den (C2g a):=⟨fun v=>by repeat' first | apply A72 | rfl,fun a=>(A7P aCD (A7P aCD A7R))⟩
noncomputable def C8r (x0:LBBe) (x1:Lq2) (x5:Int):Option (Ex×St):=let z1:=(⟨((.t false tq6 x0)::(.t false tq4 x1)::.junk::.junk::.junk::(ti (wI (x5+(1:Int))))::E1r),[],0,[]⟩:St);let z2:=x1.getD x5.toNat ((0:Int),(bE,bE));let z3:=decide (0≤x5∧x5<(x1.length:Int));let z4:=(⟨(.junk::.junk::.junk::.junk::(.t true .bool false)::E1s),[],0,[]⟩:St);let z5:=C3x x0 x1 x5;(cond (decide (x5<(x1.length:Int))) (cond z3 (cond ((z2.1) != (3:Int)) (some (.normal,z1)) (cond z3 (cond (B2S x0 ((z2.2).1)) (cond z3 (cond (!((z5.2)==(!(((z2.2).2).toList==bE.toList)))) (some (.ret,z4)) (cond z3 (cond (!((z5.1).toList==((z2.2).2).toList)) (some (.ret,z4)) (some (.normal,z1))) none)) none) none) none)) none) (some ((.exit 0),(⟨(.junk::D58),[],0,[]⟩:St))))
theorem D3o:RdA G27 aLn 0 C37 B0D 0 [] (kepts [4] [(0,[])]) (fun d=>C8r d.1.1 d.1.2.1 d.1.2.2.2.2.2.1):=by
 intro d
 kernel_rfl
theorem D3v:∀ d:B0D.den,(fun d=>C8r d.1.1 d.1.2.1 d.1.2.2.2.2.2.1) d=(C28 d).opt 0 []:=by
 intro d
 kernel_rfl
noncomputable abbrev C6Q:St→Option Tree:=B0D.say 0 [] [] (fun d=>D5N d.1.1 d.1.2.1 d.1.2.2.2.2.2.1)
theorem D4T:aPL C6Q C37:=SS.wp2 hlz [] C28 D3o D3v _ (fun d=>Runs.ofI2 (step:=C28) C8F D47 rfl (d.1.1,d.1.2.1,d.1.2.2.2.2.2.1))
noncomputable def B5G (a0:LBBe) (a1:Lq2):Bool:=let z1:=B49 a0 a1 (0:Int);(cond (z1.1==0) (z1.2) true)
noncomputable abbrev C5X (r:Bool):AV×List AObj:=((.t true .bool r),[])
noncomputable abbrev D0f:D9 C1V→AV×List AObj:=fun d=>C5X (B5G d.1 d.2.1)
noncomputable def B03 (a0:LBBe) (a1:Lq2):Bool:=let z1:=B49 a0 a1 (0:Int);cond (z1.1==0) true (z1.1==1)
noncomputable abbrev C47:D9 C1V→Bool:=fun d=>B03 d.1 d.2.1
noncomputable abbrev D7Y:Nat→St→Option Tree:=fun b=>match b with | 0=>C6Q | _=>fun _=>none
theorem D6B:A7X true G27 (D7Y) Tryz.f45 C1V C47 D0f:=by
 rintro ⟨a0,⟨a1,_⟩⟩ hp
 change B03 a0 a1=true at hp
 unfold B03 at hp
 refine Eq.trans (b:=(let z1:=B49 a0 a1 (0:Int);cond (z1.1==0) (some (C5X (z1.2))) (cond (z1.1==1) (some (C5X true)) none))) (by kernel_rfl) ?_
 exact (K9 C5X hp (fun hp=>rfl) (fun hp=>(A70 hp fun _h=>rfl)))
theorem D8h:aPP 45 (A19 C1V C47 D0f):=pcD true G27 (hl1 (i:=0) (by kernel_rfl) D4T) D6B
noncomputable def S28:Tab:=Tab.add S27 45 (lift (A19 C1V C47 D0f))
noncomputable def E0d:FuncId→Bool:=qadd E0c 45
theorem G28:aPG S28 E0d:=G27.addQ D8h (cbl Tryz.f45) (fun _=>rfl)

abbrev D9Q:List Sh:=.junk::.junk::.junk::.junk::.junk::.junk::.junk::D8F
abbrev E1K:List Sh:=.junk::.junk::D9Q
abbrev E1L:List Sh:=.junk::.junk::.junk::.junk::E1K
abbrev u63:=((),(),(),(),(),(),(),(),(),(),(),(),(),(),(),u48)
abbrev u54:=((),(),(),(),(),(),u48)
abbrev u60:=((),(),(),(),(),(),u54)
abbrev E1w:List AV:=.junk::.junk::.junk::.junk::.junk::.junk::.junk::.junk::.junk::D58
abbrev E1v:List AV:=.junk::.junk::.junk::.junk::.junk::.junk::.junk::D58
abbrev E1x:List AV:=.junk::.junk::.junk::.junk::E1w
abbrev E1J:List Sh:=.junk::.junk::.junk::.junk::.junk::.junk::D8F
abbrev u53:=((),(),(),(),(),u48)
abbrev E1u:List AV:=.junk::.junk::.junk::.junk::.junk::.junk::D58
abbrev B8X:List PSh:=[.t tq6,.t .str,.t .str]
noncomputable def B6P:Code:=((D5 0 (A1o Tryz.f88)).getD 0 (0,.skip)).2
noncomputable def B6Q:Code:=((D5 0 (A1o Tryz.f88)).getD 1 (0,.skip)).2
abbrev A8B:SS:=⟨(.t false tq6::.t true .str::.t true .str::.junk::.junk::.junk::.junk::.all 0 2::tI::D9Q),[.rows 82 true J6]⟩
abbrev C3V:SS:=⟨(.junk::.junk::.junk::.junk::.junk::.junk::.all 0 2::E1K),[.rows 82 true J6]⟩
abbrev C3W:SS:=⟨(.t false tq6::.t true .str::.t true .str::E1L),[]⟩
noncomputable def C62 (x0:LBBe) (x1 x2:ByteArray) (x8:Int) (h0:LBBe):RT A8B.den:=let z1:=decide (0≤x8∧x8<(h0.length:Int));let z2:=h0.getD x8.toNat (bE,bE);(.br (decide (x8<(h0.length:Int))) (.br z1 (.br ((z2.1).toList==x1.toList) (.br z1 (.done .ret C3V ((u63),(h0.set x8.toNat (z2.1,x2),()))) .fail) (.next ((x0,x1,x2,(),(),(),(),(),wI (x8+(1:Int)),u54),(h0,())))) .fail) (.done (.exit 0) C3W ((x0,x1,x2,u60),())))
abbrev B2C:=(LBBe)×(ByteArray)×(ByteArray)×(Int)×(LBBe)
abbrev B2z:=Nat×LBBe×LBBe×(ByteArray)×(ByteArray)
def B57:B2z:=(99,([]:LBBe),([]:LBBe),(bE:ByteArray),(bE:ByteArray))
noncomputable def B3V (x0:LBBe) (x1 x2:ByteArray) (x8:Int) (h0:LBBe):B2C ⊕ B2z:=let z1:=decide (0≤x8∧x8<(h0.length:Int));let z2:=h0.getD x8.toNat (bE,bE);(cond (decide (x8<(h0.length:Int))) (cond z1 (cond ((z2.1).toList==x1.toList) (cond z1 (.inr (0,h0.set x8.toNat (z2.1,x2),([]:LBBe),(bE:ByteArray),(bE:ByteArray))) (.inr B57)) (.inl (x0,x1,x2,wI (x8+(1:Int)),h0))) (.inr B57)) (.inr (1,([]:LBBe),x0,x1,x2)))
noncomputable def B1i (x0:LBBe) (x1 x2:ByteArray) (x8:Int) (h0:LBBe):B2z:=itX (fun v:B2C=>B3V v.1 v.2.1 v.2.2.1 v.2.2.2.1 v.2.2.2.2) B57 (x0,x1,x2,x8,h0)
noncomputable def B9Z (a:B2z):CT:=(.br (a.1==0) (.done .ret C3V ((u63),(a.2.1,()))) (.br (a.1==1) (.done (.exit 0) C3W ((a.2.2.1,a.2.2.2.1,a.2.2.2.2,u60),())) .fail))
noncomputable def D4d (x0:LBBe) (x1 x2:ByteArray) (x8:Int) (h0:LBBe):CT:=B9Z (B1i x0 x1 x2 x8 h0)
noncomputable abbrev B5X {α:Sort _} (f:LBBe→ByteArray→ByteArray→Int→LBBe→α) (d:A8B.den):α:=f d.1.1 d.1.2.1 d.1.2.2.1 d.1.2.2.2.2.2.2.2.2.1 d.2.1
noncomputable abbrev C0Q:A8B.den→RT A8B.den:=(B5X C62)
noncomputable abbrev C6s (v:B2C):A8B.den:=((v.1,v.2.1,v.2.2.1,(),(),(),(),(),v.2.2.2.1,u54),(v.2.2.2.2,()))
theorem D3D:(∀ v:B2C,(C62 v.1 v.2.1 v.2.2.1 v.2.2.2.1 v.2.2.2.2).val=A6W C6s B9Z (B3V v.1 v.2.1 v.2.2.1 v.2.2.2.1 v.2.2.2.2))∧∀ a:B2z,CEnd A8B.den (B9Z a):=⟨fun v=>(A72 (A72 (A72 (A72 rfl rfl) rfl) rfl) rfl),fun a=>(A7P aCD (A7P aCD A7R))⟩
noncomputable def C6h (x0:LBBe) (x1 x2:ByteArray) (x8:Int) (h0:LBBe):Option (Ex×St):=let z1:=decide (0≤x8∧x8<(h0.length:Int));let z2:=h0.getD x8.toNat (bE,bE);(cond (decide (x8<(h0.length:Int))) (cond z1 (cond ((z2.1).toList==x1.toList) (cond z1 (some (.ret,(⟨(.junk::.junk::.junk::.junk::.junk::.junk::(.all 0 2)::E1w),[(.rows 82 true J6 (h0.set x8.toNat (z2.1,x2)))],0,[]⟩:St))) none) (some (.normal,(⟨((.t false tq6 x0)::(.t true .str x1)::(.t true .str x2)::.junk::.junk::.junk::.junk::(.all 0 2)::(ti (wI (x8+(1:Int))))::E1v),[(.rows 82 true J6 h0)],0,[]⟩:St)))) none) (some ((.exit 0),(⟨((.t false tq6 x0)::(.t true .str x1)::(.t true .str x2)::E1x),[],0,[]⟩:St))))
theorem D1I:RdA G28 aLn 0 B6P A8B 0 [] (kepts [6] [(0,[0,1,2])]) (B5X C6h):=by
 intro d
 kernel_rfl
theorem D1M:∀ d:A8B.den,(B5X C6h) d=(C0Q d).opt 0 []:=by
 intro d
 kernel_rfl
noncomputable abbrev C4w:St→Option Tree:=A8B.say 0 [] [] (B5X D4d)
theorem D3b:aPL C4w B6P:=SS.wp2 hlz [] C0Q D1I D1M _ (fun d=>Runs.ofI2 (step:=C0Q) C6s D3D rfl (d.1.1,d.1.2.1,d.1.2.2.1,d.1.2.2.2.2.2.2.2.2.1,d.2.1))
abbrev A8C:SS:=⟨(.t false tq6::.t true .str::.t true .str::.junk::.junk::.junk::.junk::.junk::.junk::tI::E1J),[]⟩
abbrev B8g:SS:=⟨(.t false tq6::.t true .str::.t true .str::.junk::.junk::.junk::.junk::.junk::.junk::tI::E1J),[]⟩
noncomputable def C63 (x0:LBBe) (x1 x2:ByteArray) (x9:Int):RT A8C.den:=let z1:=(x0.getD x9.toNat (bE,bE)).1;(.br (decide (x9<(x0.length:Int))) (.br (decide (0≤x9∧x9<(x0.length:Int))) (.br (Op.bytesLess z1.toList x1.toList||(z1.toList==x1.toList)) (.next ((x0,x1,x2,(),(),(),(),(),(),wI (x9+(1:Int)),u53),())) (.done (.exit 2) B8g ((x0,x1,x2,(),(),(),(),(),(),x9,u53),()))) .fail) (.done (.exit 2) B8g ((x0,x1,x2,(),(),(),(),(),(),x9,u53),())))
abbrev B2D:=(LBBe)×(ByteArray)×(ByteArray)×(Int)
abbrev B4S:=Nat×LBBe×(ByteArray)×(ByteArray)×(Int)
def B97:B4S:=(99,([]:LBBe),(bE:ByteArray),(bE:ByteArray),((0:Int):Int))
noncomputable def B3W (x0:LBBe) (x1 x2:ByteArray) (x9:Int):B2D ⊕ B4S:=let z1:=(x0.getD x9.toNat (bE,bE)).1;(cond (decide (x9<(x0.length:Int))) (cond (decide (0≤x9∧x9<(x0.length:Int))) (cond (Op.bytesLess z1.toList x1.toList||(z1.toList==x1.toList)) (.inl (x0,x1,x2,wI (x9+(1:Int)))) (.inr (0,x0,x1,x2,x9))) (.inr B97)) (.inr (0,x0,x1,x2,x9)))
noncomputable def C0l (x0:LBBe) (x1 x2:ByteArray) (x9:Int):B4S:=itX (fun v:B2D=>B3W v.1 v.2.1 v.2.2.1 v.2.2.2) B97 (x0,x1,x2,x9)
noncomputable def B90 (a:B4S):CT:=(.br (a.1==0) (.done (.exit 2) B8g ((a.2.1,a.2.2.1,a.2.2.2.1,(),(),(),(),(),(),a.2.2.2.2,u53),())) .fail)
noncomputable def D4e (x0:LBBe) (x1 x2:ByteArray) (x9:Int):CT:=B90 (C0l x0 x1 x2 x9)
noncomputable abbrev B5Y {α:Sort _} (f:LBBe→ByteArray→ByteArray→Int→α) (d:A8C.den):α:=f d.1.1 d.1.2.1 d.1.2.2.1 d.1.2.2.2.2.2.2.2.2.2.1
noncomputable abbrev C0R:A8C.den→RT A8C.den:=(B5Y C63)
noncomputable abbrev C6t (v:B2D):A8C.den:=((v.1,v.2.1,v.2.2.1,(),(),(),(),(),(),v.2.2.2,u53),())
theorem D3E:(∀ v:B2D,(C63 v.1 v.2.1 v.2.2.1 v.2.2.2).val=A6W C6t B90 (B3W v.1 v.2.1 v.2.2.1 v.2.2.2))∧∀ a:B4S,CEnd A8C.den (B90 a):=⟨fun v=>(A72 (A72 (A72 rfl rfl) rfl) rfl),fun a=>(A7P aCD A7R)⟩
noncomputable def C6i (x0:LBBe) (x1 x2:ByteArray) (x9:Int):Option (Ex×St):=let z1:=(⟨((.t false tq6 x0)::(.t true .str x1)::(.t true .str x2)::.junk::.junk::.junk::.junk::.junk::.junk::(ti x9)::E1u),[],0,[]⟩:St);let z2:=(x0.getD x9.toNat (bE,bE)).1;(cond (decide (x9<(x0.length:Int))) (cond (decide (0≤x9∧x9<(x0.length:Int))) (cond (Op.bytesLess z2.toList x1.toList||(z2.toList==x1.toList)) (some (.normal,(⟨((.t false tq6 x0)::(.t true .str x1)::(.t true .str x2)::.junk::.junk::.junk::.junk::.junk::.junk::(ti (wI (x9+(1:Int))))::E1u),[],0,[]⟩:St))) (some ((.exit 2),z1))) none) (some ((.exit 2),z1)))
theorem D1J:RdA G28 aLn 2 B6Q A8C 0 [] (kepts [] [(2,[0,1,2,9])]) (B5Y C6i):=by
 intro d
 kernel_rfl
theorem D1N:∀ d:A8C.den,(B5Y C6i) d=(C0R d).opt 0 []:=by
 intro d
 kernel_rfl
noncomputable abbrev C4x:St→Option Tree:=A8C.say 0 [] [] (B5Y D4e)
theorem D3c:aPL C4x B6Q:=SS.wp2 hlz [] C0R D1J D1N _ (fun d=>Runs.ofI2 (step:=C0R) C6t D3E rfl (d.1.1,d.1.2.1,d.1.2.2.1,d.1.2.2.2.2.2.2.2.2.2.1))
noncomputable def C0m (a0:LBBe) (a1 a2:ByteArray):=let z1:=B1i a0 a1 a2 (0:Int) (([]:LBBe)++a0);C0l (z1.2.2.1) (z1.2.2.2.1) (z1.2.2.2.2) (0:Int)
noncomputable def C9D (a0:LBBe) (a1 a2:ByteArray):LBBe:=let z1:=C0m a0 a1 a2;let z2:=B1i a0 a1 a2 (0:Int) (([]:LBBe)++a0);(cond (z2.1==0) (z2.2.1) (((([]:LBBe)++(((z1.2.1).take (z1.2.2.2.2).toNat).drop (0:Int).toNat))++[((z1.2.2.1),(z1.2.2.2.1))])++(((z1.2.1).take (((z1.2.1).length:Nat):Int).toNat).drop (z1.2.2.2.2).toNat)))
noncomputable abbrev C3s (r:LBBe):AV×List AObj:=((.all 0 2),[(.rows 82 true J6 r)])
noncomputable abbrev C7p:D9 B8X→AV×List AObj:=fun d=>C3s (C9D d.1 d.2.1 d.2.2.1)
noncomputable def B2T (a0:LBBe) (a1 a2:ByteArray):Bool:=let z1:=C0m a0 a1 a2;let z2:=((z1.2.1).take (z1.2.2.2.2).toNat).drop (0:Int).toNat;let z3:=B1i a0 a1 a2 (0:Int) (([]:LBBe)++a0);(decide ((([]:LBBe).length+a0.length)*32≤MAXB))&&(cond (z3.1==0) true ((z3.1==1)&&((z1.1==0)&&((decide (0≤(0:Int)∧(0:Int)≤(z1.2.2.2.2)∧(z1.2.2.2.2)≤(((z1.2.1).length:Nat):Int)))&&((decide ((([]:LBBe).length+z2.length)*32≤MAXB))&&((decide (((([]:LBBe)++z2).length+[((z1.2.2.1),(z1.2.2.2.1))].length)*32≤MAXB))&&((decide (0≤(z1.2.2.2.2)∧(z1.2.2.2.2)≤(((z1.2.1).length:Nat):Int)∧(((z1.2.1).length:Nat):Int)≤(((z1.2.1).length:Nat):Int)))&&(decide ((((([]:LBBe)++z2)++[((z1.2.2.1),(z1.2.2.2.1))]).length+(((z1.2.1).take (((z1.2.1).length:Nat):Int).toNat).drop (z1.2.2.2.2).toNat).length)*32≤MAXB)))))))))
noncomputable abbrev C2L:D9 B8X→Bool:=fun d=>B2T d.1 d.2.1 d.2.2.1
noncomputable abbrev D6Y:Nat→St→Option Tree:=fun b=>match b with | 0=>C4w | 2=>C4x | _=>fun _=>none
theorem D5m:A7X false G28 (D6Y) Tryz.f88 B8X C2L C7p:=by
 rintro ⟨a0,⟨a1,⟨a2,_⟩⟩⟩ hp
 change B2T a0 a1 a2=true at hp
 unfold B2T at hp
 refine Eq.trans (b:=(let z1:=C0m a0 a1 a2;let z2:=((z1.2.1).take (z1.2.2.2.2).toNat).drop (0:Int).toNat;let z3:=B1i a0 a1 a2 (0:Int) (([]:LBBe)++a0);let z4:=((z1.2.1).take (((z1.2.1).length:Nat):Int).toNat).drop (z1.2.2.2.2).toNat;cond (decide ((([]:LBBe).length+a0.length)*32≤MAXB)) (cond (z3.1==0) (some (C3s (z3.2.1))) (cond (z3.1==1) (cond (z1.1==0) (cond (decide (0≤(0:Int)∧(0:Int)≤(z1.2.2.2.2)∧(z1.2.2.2.2)≤(((z1.2.1).length:Nat):Int))) (cond (decide ((([]:LBBe).length+z2.length)*32≤MAXB)) (cond (decide (((([]:LBBe)++z2).length+[((z1.2.2.1),(z1.2.2.2.1))].length)*32≤MAXB)) (cond (decide (0≤(z1.2.2.2.2)∧(z1.2.2.2.2)≤(((z1.2.1).length:Nat):Int)∧(((z1.2.1).length:Nat):Int)≤(((z1.2.1).length:Nat):Int))) (cond (decide ((((([]:LBBe)++z2)++[((z1.2.2.1),(z1.2.2.2.1))]).length+z4.length)*32≤MAXB)) (some (C3s (((([]:LBBe)++z2)++[((z1.2.2.1),(z1.2.2.2.1))])++z4))) none) none) none) none) none) none) none)) none)) (by kernel_rfl) ?_
 exact (A7Y hp fun hp=>(K9 C3s hp (fun hp=>rfl) (fun hp=>(A7Y hp fun hp=>(A7Y hp fun hp=>(A7Y hp fun hp=>(A7Y hp fun hp=>(A7Y hp fun hp=>(A7Y hp fun hp=>(A70 hp fun _h=>rfl))))))))))
theorem D7g:aPP 88 (A19 B8X C2L C7p):=pcD false G28 (by
  rw [show D5 0 (A1o Tryz.f88)=[(0,B6P),(2,B6Q)] by kernel_rfl];intro p hp;simp only [List.mem_cons,List.mem_nil_iff,or_false] at hp
  rcases hp with rfl | rfl
  ·exact D3b
  ·exact D3c) D5m
noncomputable def S29:Tab:=Tab.add S28 88 (lift (A19 B8X C2L C7p))
noncomputable def E0e:FuncId→Bool:=E0d
theorem G29:aPG S29 E0e:=G28.add D7g (cbl Tryz.f88) (by kernel_rfl)

abbrev u30:=((),(),(),u27)
abbrev B8V:List PSh:=[.t tq6,.t .str]
abbrev B0B:SS:=⟨(.t false tq6::.t true .str::.junk::.junk::.junk::.all 0 2::tI::D22),[.rows 82 true J6]⟩
abbrev C3S:SS:=⟨(.junk::.junk::.junk::.junk::.junk::.all 0 2::D8y),[.rows 82 true J6]⟩
noncomputable def C60 (x0:LBBe) (x1:ByteArray) (x6:Int) (h0:LBBe):RT B0B.den:=let z1:=x0.getD x6.toNat (bE,bE);let z2:=decide (0≤x6∧x6<(x0.length:Int));(.br (decide (x6<(x0.length:Int))) (.br z2 (.br (!((z1.1).toList==x1.toList)) (.br z2 (.br (decide ((h0.length+([(z1.1,z1.2)]).length)*32≤MAXB)) (.next ((x0,x1,(),(),(),(),wI (x6+(1:Int)),u23),(h0++([(z1.1,z1.2)]),()))) .fail) .fail) (.next ((x0,x1,(),(),(),(),wI (x6+(1:Int)),u23),(h0,())))) .fail) (.done (.exit 0) C3S ((u30),(h0,()))))
abbrev B40:=(LBBe)×(ByteArray)×(Int)×(LBBe)
abbrev B4R:=Nat×(LBBe)
def B55:B4R:=(99,([]:LBBe))
noncomputable def B6d (x0:LBBe) (x1:ByteArray) (x6:Int) (h0:LBBe):B40 ⊕ B4R:=let z1:=x0.getD x6.toNat (bE,bE);let z2:=decide (0≤x6∧x6<(x0.length:Int));(cond (decide (x6<(x0.length:Int))) (cond z2 (cond (!((z1.1).toList==x1.toList)) (cond z2 (cond (decide ((h0.length+([(z1.1,z1.2)]).length)*32≤MAXB)) (.inl (x0,x1,wI (x6+(1:Int)),h0++([(z1.1,z1.2)]))) (.inr B55)) (.inr B55)) (.inl (x0,x1,wI (x6+(1:Int)),h0))) (.inr B55)) (.inr (0,h0)))
noncomputable def B3w (x0:LBBe) (x1:ByteArray) (x6:Int) (h0:LBBe):B4R:=itX (fun v:B40=>B6d v.1 v.2.1 v.2.2.1 v.2.2.2) B55 (x0,x1,x6,h0)
noncomputable def B9X (a:B4R):CT:=(.br (a.1==0) (.done (.exit 0) C3S ((u30),(a.2,()))) .fail)
noncomputable def D4b (x0:LBBe) (x1:ByteArray) (x6:Int) (h0:LBBe):CT:=B9X (B3w x0 x1 x6 h0)
noncomputable abbrev C0O:B0B.den→RT B0B.den:=(fun d=>C60 d.1.1 d.1.2.1 d.1.2.2.2.2.2.2.1 d.2.1)
noncomputable def C16:Code:=((D5 0 (A1o Tryz.f89)).getD 0 (0,.skip)).2
noncomputable abbrev C6q (v:B40):B0B.den:=((v.1,v.2.1,(),(),(),(),v.2.2.1,u23),(v.2.2.2,()))
theorem D3B:(∀ v:B40,(C60 v.1 v.2.1 v.2.2.1 v.2.2.2).val=A6W C6q B9X (B6d v.1 v.2.1 v.2.2.1 v.2.2.2))∧∀ a:B4R,CEnd B0B.den (B9X a):=⟨fun v=>(A72 (A72 (A72 (A72 (A72 rfl rfl) rfl) rfl) rfl) rfl),fun a=>(A7P aCD A7R)⟩
theorem D1G:RdA G29 aLn 0 C16 B0B 0 [] (kepts [] [(0,[5])]) (fun d=>(C0O d).opt 0 []):=by
 intro d
 kernel_rfl
noncomputable abbrev C4u:St→Option Tree:=B0B.say 0 [] [] (fun d=>D4b d.1.1 d.1.2.1 d.1.2.2.2.2.2.2.1 d.2.1)
theorem D29:aPL C4u C16:=SS.wp2 hlz [] C0O D1G (fun d=>rfl) _ (fun d=>Runs.ofI2 (step:=C0O) C6q D3B rfl (d.1.1,d.1.2.1,d.1.2.2.2.2.2.2.1,d.2.1))
noncomputable def C9C (a0:LBBe) (a1:ByteArray):LBBe:=((B3w a0 a1 (0:Int) ([]:LBBe)).2)
noncomputable abbrev D12 (r:LBBe):AV×List AObj:=((.all 0 2),[(.rows 82 true J6 r)])
noncomputable abbrev C7n:D9 B8V→AV×List AObj:=fun d=>D12 (C9C d.1 d.2.1)
noncomputable def B2R (a0:LBBe) (a1:ByteArray):Bool:=((B3w a0 a1 (0:Int) ([]:LBBe)).1==0)
noncomputable abbrev C2J:D9 B8V→Bool:=fun d=>B2R d.1 d.2.1
noncomputable abbrev D6W:Nat→St→Option Tree:=fun b=>match b with | 0=>C4u | _=>fun _=>none
theorem D5k:A7X false G29 (D6W) Tryz.f89 B8V C2J C7n:=by
 rintro ⟨a0,⟨a1,_⟩⟩ hp
 change B2R a0 a1=true at hp
 unfold B2R at hp
 refine Eq.trans (b:=(let z1:=B3w a0 a1 (0:Int) ([]:LBBe);cond (z1.1==0) (some (D12 (z1.2))) none)) (by kernel_rfl) ?_
 exact (A70 hp fun _h=>rfl)
theorem D7e:aPP 89 (A19 B8V C2J C7n):=pcD false G29 (hl1 (i:=0) (by kernel_rfl) D29) D5k
noncomputable def S30:Tab:=Tab.add S29 89 (lift (A19 B8V C2J C7n))
noncomputable def E0f:FuncId→Bool:=E0e
theorem G30:aPG S30 E0f:=G29.add D7e (cbl Tryz.f89) (by kernel_rfl)

abbrev C1T:List PSh:=[.t tq6,.t tq4]
abbrev B0A:SS:=⟨(.junk::.t false tq4::.junk::.junk::.junk::.all 0 2::tI::D8E),[.rows 82 true J6]⟩
abbrev C5p:SS:=⟨(.junk::.junk::.junk::.junk::.junk::.all 0 2::D9P),[.rows 82 true J6]⟩
noncomputable def C3w (x1:Lq2) (x6:Int) (h0:LBBe):=let z1:=(x1.getD x6.toNat ((0:Int),(bE,bE))).2;C9D h0 (z1.1) (z1.2)
noncomputable def C3z (x1:Lq2) (x6:Int) (h0:LBBe):=C9C h0 (((x1.getD x6.toNat ((0:Int),(bE,bE))).2).1)
noncomputable def C8O (x1:Lq2) (x6:Int) (h0:LBBe):RT B0A.den:=let z1:=x1.getD x6.toNat ((0:Int),(bE,bE));let z2:=decide (0≤x6∧x6<(x1.length:Int));(.br (decide (x6<(x1.length:Int))) (.br z2 (.br ((z1.1)==(1:Int)) (.br z2 (.br z2 (.br (B2T h0 ((z1.2).1) ((z1.2).2)) (.next (((),x1,(),(),(),(),wI (x6+(1:Int)),u39),((C3w x1 x6 h0),()))) .fail) .fail) .fail) (.br ((z1.1)==(2:Int)) (.br z2 (.br (B2R h0 ((z1.2).1)) (.next (((),x1,(),(),(),(),wI (x6+(1:Int)),u39),((C3z x1 x6 h0),()))) .fail) .fail) (.next (((),x1,(),(),(),(),wI (x6+(1:Int)),u39),(h0,()))))) .fail) (.done (.exit 0) C5p ((u46),(h0,()))))
abbrev B4b:=(Lq2)×(Int)×(LBBe)
abbrev B34:=Nat×(LBBe)
def A9s:B34:=(99,([]:LBBe))
noncomputable def B5n (x1:Lq2) (x6:Int) (h0:LBBe):B4b ⊕ B34:=let z1:=x1.getD x6.toNat ((0:Int),(bE,bE));let z2:=decide (0≤x6∧x6<(x1.length:Int));(cond (decide (x6<(x1.length:Int))) (cond z2 (cond ((z1.1)==(1:Int)) (cond z2 (cond z2 (cond (B2T h0 ((z1.2).1) ((z1.2).2)) (.inl (x1,wI (x6+(1:Int)),(C3w x1 x6 h0))) (.inr A9s)) (.inr A9s)) (.inr A9s)) (cond ((z1.1)==(2:Int)) (cond z2 (cond (B2R h0 ((z1.2).1)) (.inl (x1,wI (x6+(1:Int)),(C3z x1 x6 h0))) (.inr A9s)) (.inr A9s)) (.inl (x1,wI (x6+(1:Int)),h0)))) (.inr A9s)) (.inr (0,h0)))
noncomputable def B48 (x1:Lq2) (x6:Int) (h0:LBBe):B34:=itX (fun v:B4b=>B5n v.1 v.2.1 v.2.2) A9s (x1,x6,h0)
noncomputable def C2f (a:B34):CT:=(.br (a.1==0) (.done (.exit 0) C5p ((u46),(a.2,()))) .fail)
noncomputable def D5M (x1:Lq2) (x6:Int) (h0:LBBe):CT:=C2f (B48 x1 x6 h0)
noncomputable abbrev C27:B0A.den→RT B0A.den:=(fun d=>C8O d.1.2.1 d.1.2.2.2.2.2.2.1 d.2.1)
noncomputable def C35:Code:=((D5 0 (A1o Tryz.f82)).getD 0 (0,.skip)).2
noncomputable abbrev C8E (v:B4b):B0A.den:=(((),v.1,(),(),(),(),v.2.1,u39),(v.2.2,()))
theorem D46:(∀ v:B4b,(C8O v.1 v.2.1 v.2.2).val=A6W C8E C2f (B5n v.1 v.2.1 v.2.2))∧∀ a:B34,CEnd B0A.den (C2f a):=⟨fun v=>by repeat' first | apply A72 | rfl,fun a=>(A7P aCD A7R)⟩
noncomputable def C8q (x1:Lq2) (x6:Int) (h0:LBBe):Option (Ex×St):=let z1:=x1.getD x6.toNat ((0:Int),(bE,bE));let z2:=decide (0≤x6∧x6<(x1.length:Int));let z3:=ti (wI (x6+(1:Int)));(cond (decide (x6<(x1.length:Int))) (cond z2 (cond ((z1.1)==(1:Int)) (cond z2 (cond z2 (cond (B2T h0 ((z1.2).1) ((z1.2).2)) (some (.normal,(⟨(.junk::(.t false tq4 x1)::.junk::.junk::.junk::(.all 0 2)::z3::D57),[(.rows 82 true J6 (C3w x1 x6 h0))],0,[]⟩:St))) none) none) none) (cond ((z1.1)==(2:Int)) (cond z2 (cond (B2R h0 ((z1.2).1)) (some (.normal,(⟨(.junk::(.t false tq4 x1)::.junk::.junk::.junk::(.all 0 2)::z3::D57),[(.rows 82 true J6 (C3z x1 x6 h0))],0,[]⟩:St))) none) none) (some (.normal,(⟨(.junk::(.t false tq4 x1)::.junk::.junk::.junk::(.all 0 2)::z3::D57),[(.rows 82 true J6 h0)],0,[]⟩:St))))) none) (some ((.exit 0),(⟨(.junk::.junk::.junk::.junk::.junk::(.all 0 2)::D9N),[(.rows 82 true J6 h0)],0,[]⟩:St))))
theorem D3m:RdA G30 aLn 0 C35 B0A 0 [] (kepts [] [(0,[5])]) (fun d=>C8q d.1.2.1 d.1.2.2.2.2.2.2.1 d.2.1):=by
 intro d
 kernel_rfl
theorem D3u:∀ d:B0A.den,(fun d=>C8q d.1.2.1 d.1.2.2.2.2.2.2.1 d.2.1) d=(C27 d).opt 0 []:=by
 intro d
 kernel_rfl
noncomputable abbrev C6O:St→Option Tree:=B0A.say 0 [] [] (fun d=>D5M d.1.2.1 d.1.2.2.2.2.2.2.1 d.2.1)
theorem D4R:aPL C6O C35:=SS.wp2 hlz [] C27 D3m D3u _ (fun d=>Runs.ofI2 (step:=C27) C8E D46 rfl (d.1.2.1,d.1.2.2.2.2.2.2.1,d.2.1))
noncomputable def C0H (a0:LBBe) (a1:Lq2):LBBe:=((B48 a1 (0:Int) (([]:LBBe)++a0)).2)
noncomputable abbrev D4y (r:LBBe):AV×List AObj:=((.all 0 2),[(.rows 82 true J6 r)])
noncomputable abbrev D0d:D9 C1T→AV×List AObj:=fun d=>D4y (C0H d.1 d.2.1)
noncomputable def B3J (a0:LBBe) (a1:Lq2):Bool:=(decide ((([]:LBBe).length+a0.length)*32≤MAXB))&&((B48 a1 (0:Int) (([]:LBBe)++a0)).1==0)
noncomputable abbrev C45:D9 C1T→Bool:=fun d=>B3J d.1 d.2.1
noncomputable abbrev D7W:Nat→St→Option Tree:=fun b=>match b with | 0=>C6O | _=>fun _=>none
theorem D6z:A7X false G30 (D7W) Tryz.f82 C1T C45 D0d:=by
 rintro ⟨a0,⟨a1,_⟩⟩ hp
 change B3J a0 a1=true at hp
 unfold B3J at hp
 refine Eq.trans (b:=(let z1:=B48 a1 (0:Int) (([]:LBBe)++a0);cond (decide ((([]:LBBe).length+a0.length)*32≤MAXB)) (cond (z1.1==0) (some (D4y (z1.2))) none) none)) (by kernel_rfl) ?_
 exact (A7Y hp fun hp=>(A70 hp fun _h=>rfl))
theorem D8f:aPP 82 (A19 C1T C45 D0d):=pcD false G30 (hl1 (i:=0) (by kernel_rfl) D4R) D6z
noncomputable def S31:Tab:=Tab.add S30 82 (lift (A19 C1T C45 D0d))
noncomputable def E0g:FuncId→Bool:=E0f
theorem G31:aPG S31 E0g:=G30.add D8f (cbl Tryz.f82) (by kernel_rfl)

abbrev C3m:SS:=⟨[.ptr 0 0 1 0,.agg [.t true (.int .i64),.t true (.int .i64),.t false tq4]],[.box [.all 1 2,.all 2 3,.nil],.rows 82 true J6,.rows 80 true tq5]⟩
noncomputable def D3Y (x1_0 x1_1:Int) (x1_2:Lq2) (h1:LBBe) (h2:Lq1):Bool×LBBe×Lq1×List Int:=let z3:=B3O h2 x1_1;let z2:=C0H h1 (((h2.getD (z3.toNat) ((0:Int),((0:Int),[]))).2).2);let z4:=([]:List Int);let z5:=V3 x1_0 x1_1 x1_2;let z6:=([]:Lq1)++(h2.take (z3.toNat));let z7:=wI (z3+(1:Int));let z1:=(h2.drop (z7.toNat)).take ((h2.length:Int).toNat - z7.toNat);(cond (!(A9L x1_0 x1_1 x1_2)) (false,h1,h2,z4) (cond (x1_0==(1:Int)) (cond (B4y [] x1_1) (false,h1,h2,z4) (cond (A8v h2 x1_2) (false,h1,h2,z4) (cond (!(B5G h1 x1_2)) (false,h1,h2,z4) (true,h1,h2++[((z5.1),((z5.2.1),(z5.2.2)))],[x1_1])))) (cond (decide (z3<(0:Int))) (cond (x1_0==(3:Int)) (!(B4y [] x1_1),h1,h2,[x1_1]) (false,h1,h2,[x1_1])) (cond (x1_0==(2:Int)) (decide (((z2.length:Nat):Int)≤(60:Int)),z2,z6++z1,z4) (decide ((h1.length:Int)≤(60:Int)),h1,z6++z1,z4)))))
noncomputable abbrev A8d (r:Bool×LBBe×Lq1×List Int):AV×List AObj×List Nat:=((.t true .bool r.1),[(.box [(.all 1 2),(.all 2 3),(.all 3 1)]),(.rows 82 true J6 r.2.1),(.rows 80 true tq5 r.2.2.1),(.rows 3 true (.int .i64) r.2.2.2)],[1,2])
noncomputable abbrev D4z:C3m.den→AV×List AObj×List Nat:=fun d=>A8d (D3Y d.1.2.1.1 d.1.2.1.2.1 d.1.2.1.2.2.1 d.2.2.1 d.2.2.2.1)
noncomputable def B9v (x1_0 x1_1:Int) (x1_2:Lq2) (h1:LBBe) (h2:Lq1):Bool:=let z2:=B3O h2 x1_1;let z3:=wI (z2+(1:Int));let z4:=decide ([x1_1].length*8≤MAXB);let z5:=V3 x1_0 x1_1 x1_2;let z6:=h2.take (z2.toNat);let z1:=(decide (0≤(0:Int)∧(0:Int)≤z2∧z2≤(h2.length:Int)))&&((decide (0≤z3∧z3≤(h2.length:Int)∧(h2.length:Int)≤(h2.length:Int)))&&((decide ((([]:Lq1).length+z6.length)*40≤MAXB))&&(decide (((([]:Lq1)++z6).length+((h2.drop (z3.toNat)).take ((h2.length:Int).toNat - z3.toNat)).length)*40≤MAXB))));(B3K h2 x1_1)&&((B5d x1_0 x1_1 x1_2)&&(cond (!(A9L x1_0 x1_1 x1_2)) true (cond (x1_0==(1:Int)) ((A9h [] x1_1)&&(cond (B4y [] x1_1) true ((Y9 h2 x1_2)&&(cond (A8v h2 x1_2) true ((B03 h1 x1_2)&&(cond (!(B5G h1 x1_2)) true ((O8 x1_0 x1_1 x1_2)&&((decide ((h2.length+[((z5.1),((z5.2.1),(z5.2.2)))].length)*40≤MAXB))&&z4)))))))) (cond (decide (z2<(0:Int))) (cond (x1_0==(3:Int)) ((A9h [] x1_1)&&z4) z4) (cond (x1_0==(2:Int)) ((decide (0≤z2∧z2<(h2.length:Int)))&&((B3J h1 (((h2.getD (z2.toNat) ((0:Int),((0:Int),[]))).2).2))&&z1)) z1)))))
noncomputable abbrev D0D:C3m.den→Bool:=fun d=>B9v d.1.2.1.1 d.1.2.1.2.1 d.1.2.1.2.2.1 d.2.2.1 d.2.2.2.1
theorem D6F:A7V false [] [1,2] [(0,0,1,82,J6),(0,1,2,80,tq5),(0,2,99999,3,(.int .i64))] G31 aLn Tryz.f68 C3m D0D D4z:=by
 rintro ⟨⟨_,⟨x1_0,x1_1,x1_2,_⟩,_⟩,⟨⟨_,_,_,_⟩,h1,h2,_⟩⟩ hp
 change B9v x1_0 x1_1 x1_2 h1 h2=true at hp
 unfold B9v at hp
 refine Eq.trans (b:=(let z2:=B3O h2 x1_1;let z1:=wI (z2+(1:Int));let z3:=(h2.drop (z1.toNat)).take ((h2.length:Int).toNat - z1.toNat);let z4:=V3 x1_0 x1_1 x1_2;let z6:=((h2.getD (z2.toNat) ((0:Int),((0:Int),[]))).2).2;let z8:=decide (0≤z1∧z1≤(h2.length:Int)∧(h2.length:Int)≤(h2.length:Int));let z10:=decide ([x1_1].length*8≤MAXB);let z11:=decide (0≤(0:Int)∧(0:Int)≤z2∧z2≤(h2.length:Int));let z13:=([]:List Int);let z5:=A8d (false,h1,h2,z13);let z14:=h2.take (z2.toNat);let z7:=([]:Lq1)++z14;let z9:=decide ((([]:Lq1).length+z14.length)*40≤MAXB);let z12:=decide ((z7.length+z3.length)*40≤MAXB);cond (B3K h2 x1_1) (cond (B5d x1_0 x1_1 x1_2) (cond (!(A9L x1_0 x1_1 x1_2)) (some z5) (cond (x1_0==(1:Int)) (cond (A9h [] x1_1) (cond (B4y [] x1_1) (some z5) (cond (Y9 h2 x1_2) (cond (A8v h2 x1_2) (some z5) (cond (B03 h1 x1_2) (cond (!(B5G h1 x1_2)) (some z5) (cond (O8 x1_0 x1_1 x1_2) (cond (decide ((h2.length+[((z4.1),((z4.2.1),(z4.2.2)))].length)*40≤MAXB)) (cond z10 (some (A8d (true,h1,h2++[((z4.1),((z4.2.1),(z4.2.2)))],[x1_1]))) none) none) none)) none)) none)) none) (cond (decide (z2<(0:Int))) (cond (x1_0==(3:Int)) (cond (A9h [] x1_1) (cond z10 (some (A8d (!(B4y [] x1_1),h1,h2,[x1_1]))) none) none) (cond z10 (some (A8d (false,h1,h2,[x1_1]))) none)) (cond (x1_0==(2:Int)) (cond (decide (0≤z2∧z2<(h2.length:Int))) (cond (B3J h1 z6) (cond z11 (cond z8 (cond z9 (cond z12 (some (A8d (decide ((((C0H h1 z6).length:Nat):Int)≤(60:Int)),(C0H h1 z6),z7++z3,z13))) none) none) none) none) none) none) (cond z11 (cond z8 (cond z9 (cond z12 (some (A8d (decide ((h1.length:Int)≤(60:Int)),h1,z7++z3,z13))) none) none) none) none))))) none) none)) (by kernel_rfl) ?_
 exact (A7Y hp fun hp=>(A7Y hp fun hp=>(K9 A8d hp (fun hp=>rfl) (fun hp=>(K9 A8d hp (fun hp=>(A7Y hp fun hp=>(K9 A8d hp (fun hp=>rfl) (fun hp=>(A7Y hp fun hp=>(K9 A8d hp (fun hp=>rfl) (fun hp=>(A7Y hp fun hp=>(K9 A8d hp (fun hp=>rfl) (fun hp=>(A7Y hp fun hp=>(A7Y hp fun hp=>(A70 hp fun _h=>rfl))))))))))))) (fun hp=>(K9 A8d hp (fun hp=>(K9 A8d hp (fun hp=>(A7Y hp fun hp=>(A70 hp fun _h=>rfl))) (fun hp=>(A70 hp fun _h=>rfl)))) (fun hp=>(K9 A8d hp (fun hp=>(A7Y hp fun hp=>(A7Y hp fun hp=>(A7Y hp fun hp=>(A7Y hp fun hp=>(A7Y hp fun hp=>(A70 hp fun _h=>rfl))))))) (fun hp=>(A7Y hp fun hp=>(A7Y hp fun hp=>(A7Y hp fun hp=>(A70 hp fun _h=>rfl))))))))))))))
noncomputable abbrev D0z:=win F0 (msum C3m D0D D4z)
theorem D4p:aPM 68 D0z:=(mcE false [] [1,2] [(0,0,1,82,J6),(0,1,2,80,tq5),(0,2,99999,3,(.int .i64))]  G31 hlz D6F).win F0
noncomputable def S32:Tab:=Tab.add S31 68 (D0z)
noncomputable def E0h:FuncId→Bool:=E0g
theorem G32:aPG S32 E0h:=G31.addM D4p (A7y _) (cbl Tryz.f68) (by kernel_rfl)

abbrev B5U:SS:=⟨[.ptr 0 0 1 0,.agg [.t true (.int .i64),.t true (.int .i64),.t false tq4]],[.box [.all 1 2,.all 2 3,.all 3 1],.rows 82 true J6,.rows 80 true tq5,.rows 3 true (.int .i64)]⟩
noncomputable def B6k (x1_0 x1_1:Int) (x1_2:Lq2) (h1:LBBe) (h2:Lq1) (h3:List Int):Bool×LBBe×Lq1×List Int:=let z3:=B3O h2 x1_1;let z2:=C0H h1 (((h2.getD (z3.toNat) ((0:Int),((0:Int),[]))).2).2);let z4:=V3 x1_0 x1_1 x1_2;let z5:=([]:Lq1)++(h2.take (z3.toNat));let z6:=wI (z3+(1:Int));let z1:=(h2.drop (z6.toNat)).take ((h2.length:Int).toNat - z6.toNat);(cond (!(A9L x1_0 x1_1 x1_2)) (false,h1,h2,h3) (cond (x1_0==(1:Int)) (cond (B4y h3 x1_1) (false,h1,h2,h3) (cond (A8v h2 x1_2) (false,h1,h2,h3) (cond (!(B5G h1 x1_2)) (false,h1,h2,h3) (true,h1,h2++[((z4.1),((z4.2.1),(z4.2.2)))],h3++[x1_1])))) (cond (decide (z3<(0:Int))) (cond (x1_0==(3:Int)) (!(B4y h3 x1_1),h1,h2,h3++[x1_1]) (false,h1,h2,h3++[x1_1])) (cond (x1_0==(2:Int)) (decide (((z2.length:Nat):Int)≤(60:Int)),z2,z5++z1,h3) (decide ((h1.length:Int)≤(60:Int)),h1,z5++z1,h3)))))
noncomputable abbrev P2 (r:Bool×LBBe×Lq1×List Int):AV×List AObj×List Nat:=((.t true .bool r.1),[(.box [(.all 1 2),(.all 2 3),(.all 3 1)]),(.rows 82 true J6 r.2.1),(.rows 80 true tq5 r.2.2.1),(.rows 3 true (.int .i64) r.2.2.2)],[1,2,3])
noncomputable abbrev C8f:B5U.den→AV×List AObj×List Nat:=fun d=>P2 (B6k d.1.2.1.1 d.1.2.1.2.1 d.1.2.1.2.2.1 d.2.2.1 d.2.2.2.1 d.2.2.2.2.1)
noncomputable def A8L (x1_0 x1_1:Int) (x1_2:Lq2) (h1:LBBe) (h2:Lq1) (h3:List Int):Bool:=let z2:=B3O h2 x1_1;let z3:=wI (z2+(1:Int));let z4:=decide ((h3.length+[x1_1].length)*8≤MAXB);let z5:=V3 x1_0 x1_1 x1_2;let z6:=h2.take (z2.toNat);let z1:=(decide (0≤(0:Int)∧(0:Int)≤z2∧z2≤(h2.length:Int)))&&((decide (0≤z3∧z3≤(h2.length:Int)∧(h2.length:Int)≤(h2.length:Int)))&&((decide ((([]:Lq1).length+z6.length)*40≤MAXB))&&(decide (((([]:Lq1)++z6).length+((h2.drop (z3.toNat)).take ((h2.length:Int).toNat - z3.toNat)).length)*40≤MAXB))));(B3K h2 x1_1)&&((B5d x1_0 x1_1 x1_2)&&(cond (!(A9L x1_0 x1_1 x1_2)) true (cond (x1_0==(1:Int)) ((A9h h3 x1_1)&&(cond (B4y h3 x1_1) true ((Y9 h2 x1_2)&&(cond (A8v h2 x1_2) true ((B03 h1 x1_2)&&(cond (!(B5G h1 x1_2)) true ((O8 x1_0 x1_1 x1_2)&&((decide ((h2.length+[((z5.1),((z5.2.1),(z5.2.2)))].length)*40≤MAXB))&&z4)))))))) (cond (decide (z2<(0:Int))) (cond (x1_0==(3:Int)) ((A9h h3 x1_1)&&z4) z4) (cond (x1_0==(2:Int)) ((decide (0≤z2∧z2<(h2.length:Int)))&&((B3J h1 (((h2.getD (z2.toNat) ((0:Int),((0:Int),[]))).2).2))&&z1)) z1)))))
noncomputable abbrev C4o:B5U.den→Bool:=fun d=>A8L d.1.2.1.1 d.1.2.1.2.1 d.1.2.1.2.2.1 d.2.2.1 d.2.2.2.1 d.2.2.2.2.1
theorem D1V:A7V false [] [1,2,3] [(0,0,1,82,J6),(0,1,2,80,tq5)] G32 aLn Tryz.f68 B5U C4o C8f:=by
 rintro ⟨⟨_,⟨x1_0,x1_1,x1_2,_⟩,_⟩,⟨⟨_,_,_,_⟩,h1,h2,h3,_⟩⟩ hp
 change A8L x1_0 x1_1 x1_2 h1 h2 h3=true at hp
 unfold A8L at hp
 refine Eq.trans (b:=(let z2:=B3O h2 x1_1;let z1:=wI (z2+(1:Int));let z3:=(h2.drop (z1.toNat)).take ((h2.length:Int).toNat - z1.toNat);let z4:=V3 x1_0 x1_1 x1_2;let z5:=((h2.getD (z2.toNat) ((0:Int),((0:Int),[]))).2).2;let z7:=P2 (false,h1,h2,h3);let z8:=decide ((h3.length+[x1_1].length)*8≤MAXB);let z9:=decide (0≤z1∧z1≤(h2.length:Int)∧(h2.length:Int)≤(h2.length:Int));let z11:=decide (0≤(0:Int)∧(0:Int)≤z2∧z2≤(h2.length:Int));let z13:=h2.take (z2.toNat);let z6:=([]:Lq1)++z13;let z10:=decide ((([]:Lq1).length+z13.length)*40≤MAXB);let z12:=decide ((z6.length+z3.length)*40≤MAXB);cond (B3K h2 x1_1) (cond (B5d x1_0 x1_1 x1_2) (cond (!(A9L x1_0 x1_1 x1_2)) (some z7) (cond (x1_0==(1:Int)) (cond (A9h h3 x1_1) (cond (B4y h3 x1_1) (some z7) (cond (Y9 h2 x1_2) (cond (A8v h2 x1_2) (some z7) (cond (B03 h1 x1_2) (cond (!(B5G h1 x1_2)) (some z7) (cond (O8 x1_0 x1_1 x1_2) (cond (decide ((h2.length+[((z4.1),((z4.2.1),(z4.2.2)))].length)*40≤MAXB)) (cond z8 (some (P2 (true,h1,h2++[((z4.1),((z4.2.1),(z4.2.2)))],h3++[x1_1]))) none) none) none)) none)) none)) none) (cond (decide (z2<(0:Int))) (cond (x1_0==(3:Int)) (cond (A9h h3 x1_1) (cond z8 (some (P2 (!(B4y h3 x1_1),h1,h2,h3++[x1_1]))) none) none) (cond z8 (some (P2 (false,h1,h2,h3++[x1_1]))) none)) (cond (x1_0==(2:Int)) (cond (decide (0≤z2∧z2<(h2.length:Int))) (cond (B3J h1 z5) (cond z11 (cond z9 (cond z10 (cond z12 (some (P2 (decide ((((C0H h1 z5).length:Nat):Int)≤(60:Int)),(C0H h1 z5),z6++z3,h3))) none) none) none) none) none) none) (cond z11 (cond z9 (cond z10 (cond z12 (some (P2 (decide ((h1.length:Int)≤(60:Int)),h1,z6++z3,h3))) none) none) none) none))))) none) none)) (by kernel_rfl) ?_
 exact (A7Y hp fun hp=>(A7Y hp fun hp=>(K9 P2 hp (fun hp=>rfl) (fun hp=>(K9 P2 hp (fun hp=>(A7Y hp fun hp=>(K9 P2 hp (fun hp=>rfl) (fun hp=>(A7Y hp fun hp=>(K9 P2 hp (fun hp=>rfl) (fun hp=>(A7Y hp fun hp=>(K9 P2 hp (fun hp=>rfl) (fun hp=>(A7Y hp fun hp=>(A7Y hp fun hp=>(A70 hp fun _h=>rfl))))))))))))) (fun hp=>(K9 P2 hp (fun hp=>(K9 P2 hp (fun hp=>(A7Y hp fun hp=>(A70 hp fun _h=>rfl))) (fun hp=>(A70 hp fun _h=>rfl)))) (fun hp=>(K9 P2 hp (fun hp=>(A7Y hp fun hp=>(A7Y hp fun hp=>(A7Y hp fun hp=>(A7Y hp fun hp=>(A7Y hp fun hp=>(A70 hp fun _h=>rfl))))))) (fun hp=>(A7Y hp fun hp=>(A7Y hp fun hp=>(A7Y hp fun hp=>(A70 hp fun _h=>rfl))))))))))))))
noncomputable abbrev C8m:=win F0 (msum B5U C4o C8f)
theorem D4q:aPM 68 C8m:=(mcE false [] [1,2,3] [(0,0,1,82,J6),(0,1,2,80,tq5)]  G32 hlz D1V).win F0
noncomputable def S33:Tab:=Tab.add S32 68 (A2g (D0z) (C8m))
noncomputable def E0i:FuncId→Bool:=E0h
theorem G33:aPG S33 E0i:=G32.addM (MContract.orElse D4p D4q) (A7f (A7y _) (A7y _)) (cbl Tryz.f68) (by kernel_rfl)

abbrev D8A:List Sh:=.junk::D4H
abbrev D9O:List Sh:=.junk::.junk::D8A
abbrev D9p:List Sh:=.junk::D8A
abbrev u28:=((),u27)
abbrev D9L:List AV:=.junk::.junk::.junk::.junk::.junk::.junk::.junk::.junk::.junk::.junk::.junk::.junk::.junk::.junk::.junk::.junk::.junk::.junk::.junk::.junk::.junk::.junk::.junk::.junk::.junk::.junk::.junk::.junk::.junk::[]
abbrev D9K:List AV:=.junk::.junk::.junk::.junk::.junk::.junk::.junk::.junk::.junk::.junk::.junk::.junk::.junk::.junk::.junk::.junk::.junk::.junk::.junk::.junk::.junk::.junk::.junk::.junk::.junk::.junk::.junk::[]
abbrev D9j:List AV:=.junk::D9K
abbrev B1O:List PSh:=[.t tq3]
abbrev R6:SS:=⟨(.t false tq3::.junk::.junk::.junk::.junk::.ptr 0 0 1 0::tI::D8A),[.box [.all 1 2,.all 2 3,.all 3 1],.rows 82 true J6,.rows 80 true tq5,.rows 3 true (.int .i64)]⟩
abbrev B7E:SS:=⟨(.junk::.junk::.all 0 2::.all 1 3::.t true .bool::D9O),[.rows 82 true J6,.rows 80 true tq5]⟩
abbrev B7F:SS:=⟨(.junk::.junk::.junk::.junk::.junk::.ptr 0 0 1 0::D9p),[.box [.all 1 2,.all 2 3,.all 3 1],.rows 82 true J6,.rows 80 true tq5,.rows 3 true (.int .i64)]⟩
noncomputable def B3A (x0:Lq1) (x6:Int) (h1:LBBe) (h2:Lq1) (h3:List Int):=let z1:=x0.getD x6.toNat ((0:Int),((0:Int),[]));B6k (z1.1) ((z1.2).1) ((z1.2).2) h1 h2 h3
noncomputable def B9H (x0:Lq1) (x6:Int) (h1:LBBe) (h2:Lq1) (h3:List Int):RT R6.den:=let z1:=B3A x0 x6 h1 h2 h3;let z2:=x0.getD x6.toNat ((0:Int),((0:Int),[]));(.br (decide (x6<(x0.length:Int))) (.br (decide (0≤x6∧x6<(x0.length:Int))) (.br (A8L (z2.1) ((z2.2).1) ((z2.2).2) h1 h2 h3) (.br (!(z1.1)) (.done .ret B7E (((),(),(),(),false,u30),(([]:LBBe),([]:Lq1),()))) (.next ((x0,(),(),(),(),(),wI (x6+(1:Int)),u28),(((),(),(),()),(z1.2.1),(z1.2.2.1),(z1.2.2.2),())))) .fail) .fail) (.done (.exit 0) B7F ((u35),(((),(),(),()),h1,h2,h3,()))))
abbrev A9Q:=(Lq1)×(Int)×LBBe×Lq1×(List Int)
abbrev A8s:=Nat×(Bool)×LBBe×Lq1×LBBe×Lq1×(List Int)
def B1h:A8s:=(99,(false:Bool),([]:LBBe),([]:Lq1),([]:LBBe),([]:Lq1),([]:List Int))
noncomputable def A9l (x0:Lq1) (x6:Int) (h1:LBBe) (h2:Lq1) (h3:List Int):A9Q ⊕ A8s:=let z1:=B3A x0 x6 h1 h2 h3;let z2:=x0.getD x6.toNat ((0:Int),((0:Int),[]));(cond (decide (x6<(x0.length:Int))) (cond (decide (0≤x6∧x6<(x0.length:Int))) (cond (A8L (z2.1) ((z2.2).1) ((z2.2).2) h1 h2 h3) (cond (!(z1.1)) (.inr (0,false,([]:LBBe),([]:Lq1),([]:LBBe),([]:Lq1),([]:List Int))) (.inl (x0,wI (x6+(1:Int)),(z1.2.1),(z1.2.2.1),(z1.2.2.2)))) (.inr B1h)) (.inr B1h)) (.inr (1,(false:Bool),([]:LBBe),([]:Lq1),h1,h2,h3)))
noncomputable def B9e (x0:Lq1) (x6:Int) (h1:LBBe) (h2:Lq1) (h3:List Int):A8s:=itX (fun v:A9Q=>A9l v.1 v.2.1 v.2.2.1 v.2.2.2.1 v.2.2.2.2) B1h (x0,x6,h1,h2,h3)
noncomputable def B4h (a:A8s):CT:=(.br (a.1==0) (.done .ret B7E (((),(),(),(),a.2.1,u30),(a.2.2.1,a.2.2.2.1,()))) (.br (a.1==1) (.done (.exit 0) B7F ((u35),(((),(),(),()),a.2.2.2.2.1,a.2.2.2.2.2.1,a.2.2.2.2.2.2,()))) .fail))
noncomputable def C8T (x0:Lq1) (x6:Int) (h1:LBBe) (h2:Lq1) (h3:List Int):CT:=B4h (B9e x0 x6 h1 h2 h3)
noncomputable abbrev B1d {α:Sort _} (f:Lq1→Int→LBBe→Lq1→(List Int)→α) (d:R6.den):α:=f d.1.1 d.1.2.2.2.2.2.2.1 d.2.2.1 d.2.2.2.1 d.2.2.2.2.1
noncomputable abbrev B4B:R6.den→RT R6.den:=(B1d B9H)
noncomputable def B6R:Code:=((D5 0 (A1o Tryz.f39)).getD 0 (0,.skip)).2
noncomputable abbrev B9q (v:A9Q):R6.den:=((v.1,(),(),(),(),(),v.2.1,u28),(((),(),(),()),v.2.2.1,v.2.2.2.1,v.2.2.2.2,()))
theorem C70:(∀ v:A9Q,(B9H v.1 v.2.1 v.2.2.1 v.2.2.2.1 v.2.2.2.2).val=A6W B9q B4h (A9l v.1 v.2.1 v.2.2.1 v.2.2.2.1 v.2.2.2.2))∧∀ a:A8s,CEnd R6.den (B4h a):=⟨fun v=>(A72 (A72 (A72 (A72 rfl rfl) rfl) rfl) rfl),fun a=>(A7P aCD (A7P aCD A7R))⟩
noncomputable def B9m (x0:Lq1) (x6:Int) (h1:LBBe) (h2:Lq1) (h3:List Int):Option (Ex×St):=let z1:=B3A x0 x6 h1 h2 h3;let z2:=x0.getD x6.toNat ((0:Int),((0:Int),[]));(cond (decide (x6<(x0.length:Int))) (cond (decide (0≤x6∧x6<(x0.length:Int))) (cond (A8L (z2.1) ((z2.2).1) ((z2.2).2) h1 h2 h3) (cond (!(z1.1)) (some (.ret,(⟨(.junk::.junk::(.all 0 2)::(.all 1 3)::(.t true .bool false)::D9L),[(.rows 82 true J6 ([]:LBBe)),(.rows 80 true tq5 ([]:Lq1))],0,[]⟩:St))) (some (.normal,(⟨((.t false tq3 x0)::.junk::.junk::.junk::.junk::(.ptr 0 0 1 0)::(ti (wI (x6+(1:Int))))::D9K),[(.box [(.all 1 2),(.all 2 3),(.all 3 1)]),(.rows 82 true J6 (z1.2.1)),(.rows 80 true tq5 (z1.2.2.1)),(.rows 3 true (.int .i64) (z1.2.2.2))],0,[]⟩:St)))) none) none) (some ((.exit 0),(⟨(.junk::.junk::.junk::.junk::.junk::(.ptr 0 0 1 0)::D9j),[(.box [(.all 1 2),(.all 2 3),(.all 3 1)]),(.rows 82 true J6 h1),(.rows 80 true tq5 h2),(.rows 3 true (.int .i64) h3)],0,[]⟩:St))))
theorem C6y:RdA G33 aLn 0 B6R R6 0 [] (kepts [2,3,4] [(0,[5])]) (B1d B9m):=by
 intro d
 kernel_rfl
theorem C6D:∀ d:R6.den,(B1d B9m) d=(B4B d).opt 0 []:=by
 intro d
 kernel_rfl
noncomputable abbrev B8a:St→Option Tree:=R6.say 0 [] [(2005002,3,(.int .i64))] (B1d C8T)
theorem C7v:aPL B8a B6R:=SS.wp2 hlz [(2005002,3,(.int .i64))] B4B C6y C6D _ (fun d=>Runs.ofI2 (step:=B4B) B9q C70 rfl (d.1.1,d.1.2.2.2.2.2.2.1,d.2.2.1,d.2.2.2.1,d.2.2.2.2.1))
noncomputable def P4 (a0:Lq1):=B9e a0 (0:Int) ([]:LBBe) ([]:Lq1) ([]:List Int)
noncomputable def B2U (a0:Lq1):LBBe×Lq1×Bool:=let z1:=P4 a0;(cond (z1.1==0) ((z1.2.2.1),(z1.2.2.2.1),(z1.2.1)) ((z1.2.2.2.2.1),(z1.2.2.2.2.2.1),true))
noncomputable abbrev B4J (r:LBBe×Lq1×Bool):AV×List AObj:=((.tup [(.t true tq6 r.1),(.t true tq3 r.2.1),(.t true .bool r.2.2)]),[])
noncomputable abbrev B8k:D9 B1O→AV×List AObj:=fun d=>B4J (B2U d.1)
noncomputable def A8T (a0:Lq1):Bool:=cond ((P4 a0).1==0) true ((P4 a0).1==1)
noncomputable abbrev B5C:D9 B1O→Bool:=fun d=>A8T d.1
noncomputable abbrev D1d:Nat→St→Option Tree:=fun b=>match b with | 0=>B8a | _=>fun _=>none
theorem C9p:A7X true G33 (D1d) Tryz.f39 B1O B5C B8k:=by
 rintro ⟨a0,_⟩ hp
 change A8T a0=true at hp
 unfold A8T at hp
 refine Eq.trans (b:=(let z1:=P4 a0;cond (z1.1==0) (some (B4J ((z1.2.2.1),(z1.2.2.2.1),(z1.2.1)))) (cond (z1.1==1) (some (B4J ((z1.2.2.2.2.1),(z1.2.2.2.2.2.1),true))) none))) (by kernel_rfl) ?_
 exact (K9 B4J hp (fun hp=>rfl) (fun hp=>(A70 hp fun _h=>rfl)))
theorem D1s:aPP 39 (A19 B1O B5C B8k):=pcD true G33 (hl1 (i:=0) (by kernel_rfl) C7v) C9p
noncomputable def S34:Tab:=Tab.add S33 39 (lift (A19 B1O B5C B8k))
noncomputable def E0j:FuncId→Bool:=qadd E0i 39
theorem G34:aPG S34 E0j:=G33.addQ D1s (cbl Tryz.f39) (fun _=>rfl)

abbrev D9o:List Sh:=.junk::D7q
abbrev B0v:List PSh:=[.t tq6,.t tq6]
abbrev W5:SS:=⟨(.t false tq6::.t false tq6::.junk::.junk::.junk::tI::D9o),[]⟩
abbrev B6r:SS:=⟨(.junk::.junk::.junk::.junk::.t true .bool::C8W),[]⟩
abbrev B6s:SS:=⟨(.junk::D0n),[]⟩
noncomputable def B8e (x0 x1:LBBe) (x5:Int):RT W5.den:=let z1:=x0.getD x5.toNat (bE,bE);let z2:=x1.getD x5.toNat (bE,bE);(.br (decide (x5<(x0.length:Int))) (.br (decide (0≤x5∧x5<(x0.length:Int))) (.br (decide (0≤x5∧x5<(x1.length:Int))) (.br (!(((z1.1).toList==(z2.1).toList)&&(((z1.2).toList==(z2.2).toList)&&true))) (.done .ret B6r (((),(),(),(),false,u22),())) (.next ((x0,x1,(),(),(),wI (x5+(1:Int)),u21),()))) .fail) .fail) (.done (.exit 0) B6s ((u27),())))
abbrev A77:=(LBBe)×LBBe×(Int)
abbrev A80:=Nat×(Bool)
def B0l:A80:=(99,(false:Bool))
noncomputable def A8O (x0 x1:LBBe) (x5:Int):A77 ⊕ A80:=let z1:=x0.getD x5.toNat (bE,bE);let z2:=x1.getD x5.toNat (bE,bE);(cond (decide (x5<(x0.length:Int))) (cond (decide (0≤x5∧x5<(x0.length:Int))) (cond (decide (0≤x5∧x5<(x1.length:Int))) (cond (!(((z1.1).toList==(z2.1).toList)&&(((z1.2).toList==(z2.2).toList)&&true))) (.inr (0,false)) (.inl (x0,x1,wI (x5+(1:Int))))) (.inr B0l)) (.inr B0l)) (.inr (1,(false:Bool))))
noncomputable def A8G (x0 x1:LBBe) (x5:Int):A80:=itX (fun v:A77=>A8O v.1 v.2.1 v.2.2) B0l (x0,x1,x5)
noncomputable def B3n (a:A80):CT:=(.br (a.1==0) (.done .ret B6r (((),(),(),(),a.2,u22),())) (.br (a.1==1) (.done (.exit 0) B6s ((u27),())) .fail))
noncomputable def C66 (x0 x1:LBBe) (x5:Int):CT:=B3n (A8G x0 x1 x5)
noncomputable abbrev B3Q:W5.den→RT W5.den:=(fun d=>B8e d.1.1 d.1.2.1 d.1.2.2.2.2.2.1)
noncomputable def B5O:Code:=((D5 0 (A1o Tryz.f40)).getD 0 (0,.skip)).2
noncomputable abbrev B75 (v:A77):W5.den:=((v.1,v.2.1,(),(),(),v.2.2,u21),())
theorem C6F:(∀ v:A77,(B8e v.1 v.2.1 v.2.2).val=A6W B75 B3n (A8O v.1 v.2.1 v.2.2))∧∀ a:A80,CEnd W5.den (B3n a):=⟨fun v=>(A72 (A72 (A72 (A72 rfl rfl) rfl) rfl) rfl),fun a=>(A7P aCD (A7P aCD A7R))⟩
theorem C5b:RdA G34 aLn 0 B5O W5 0 [] (kepts [4] [(0,[])]) (fun d=>(B3Q d).opt 0 []):=by
 intro d
 kernel_rfl
noncomputable abbrev B7s:St→Option Tree:=W5.say 0 [] [] (fun d=>C66 d.1.1 d.1.2.1 d.1.2.2.2.2.2.1)
theorem C6c:aPL B7s B5O:=SS.wp2 hlz [] B3Q C5b (fun d=>rfl) _ (fun d=>Runs.ofI2 (step:=B3Q) B75 C6F rfl (d.1.1,d.1.2.1,d.1.2.2.2.2.2.1))
noncomputable def B1t (a0 a1:LBBe):Bool:=let z1:=A8G a0 a1 (0:Int);(cond ((a0.length:Int) != (a1.length:Int)) false (cond (z1.1==0) (z1.2) true))
noncomputable abbrev A89 (r:Bool):AV×List AObj:=((.t true .bool r),[])
noncomputable abbrev B62:D9 B0v→AV×List AObj:=fun d=>A89 (B1t d.1 d.2.1)
noncomputable def A8l (a0 a1:LBBe):Bool:=let z1:=A8G a0 a1 (0:Int);cond ((a0.length:Int) != (a1.length:Int)) true (cond (z1.1==0) true (z1.1==1))
noncomputable abbrev B4r:D9 B0v→Bool:=fun d=>A8l d.1 d.2.1
noncomputable abbrev C9H:Nat→St→Option Tree:=fun b=>match b with | 0=>B7s | _=>fun _=>none
theorem C74:A7X true G34 (C9H) Tryz.f40 B0v B4r B62:=by
 rintro ⟨a0,⟨a1,_⟩⟩ hp
 change A8l a0 a1=true at hp
 unfold A8l at hp
 refine Eq.trans (b:=(let z1:=A8G a0 a1 (0:Int);cond ((a0.length:Int) != (a1.length:Int)) (some (A89 false)) (cond (z1.1==0) (some (A89 (z1.2))) (cond (z1.1==1) (some (A89 true)) none)))) (by kernel_rfl) ?_
 exact (K9 A89 hp (fun hp=>rfl) (fun hp=>(K9 A89 hp (fun hp=>rfl) (fun hp=>(A70 hp fun _h=>rfl)))))
theorem C9U:aPP 40 (A19 B0v B4r B62):=pcD true G34 (hl1 (i:=0) (by kernel_rfl) C6c) C74
noncomputable def S35:Tab:=Tab.add S34 40 (lift (A19 B0v B4r B62))
noncomputable def E0k:FuncId→Bool:=qadd E0j 40
theorem G35:aPG S35 E0k:=G34.addQ C9U (cbl Tryz.f40) (fun _=>rfl)

abbrev B3b:List PSh:=[.t tq4,.t tq4]
abbrev A8b:SS:=⟨(.t false tq4::.t false tq4::.junk::.junk::.junk::tI::D9o),[]⟩
abbrev B8J:SS:=⟨(.junk::.junk::.junk::.junk::.t true .bool::C8W),[]⟩
abbrev B8K:SS:=⟨(.junk::D0n),[]⟩
noncomputable def C1z (x0 x1:Lq2) (x5:Int):RT A8b.den:=let z1:=x0.getD x5.toNat ((0:Int),(bE,bE));let z2:=x1.getD x5.toNat ((0:Int),(bE,bE));(.br (decide (x5<(x0.length:Int))) (.br (decide (0≤x5∧x5<(x0.length:Int))) (.br (decide (0≤x5∧x5<(x1.length:Int))) (.br (!(((z1.1)==(z2.1))&&((((z1.2).1).toList==((z2.2).1).toList)&&((((z1.2).2).toList==((z2.2).2).toList)&&true)))) (.done .ret B8J (((),(),(),(),false,u22),())) (.next ((x0,x1,(),(),(),wI (x5+(1:Int)),u21),()))) .fail) .fail) (.done (.exit 0) B8K ((u27),())))
abbrev A85:=(Lq2)×Lq2×(Int)
abbrev B0t:=Nat×(Bool)
def B13:B0t:=(99,(false:Bool))
noncomputable def A96 (x0 x1:Lq2) (x5:Int):A85 ⊕ B0t:=let z1:=x0.getD x5.toNat ((0:Int),(bE,bE));let z2:=x1.getD x5.toNat ((0:Int),(bE,bE));(cond (decide (x5<(x0.length:Int))) (cond (decide (0≤x5∧x5<(x0.length:Int))) (cond (decide (0≤x5∧x5<(x1.length:Int))) (cond (!(((z1.1)==(z2.1))&&((((z1.2).1).toList==((z2.2).1).toList)&&((((z1.2).2).toList==((z2.2).2).toList)&&true)))) (.inr (0,false)) (.inl (x0,x1,wI (x5+(1:Int))))) (.inr B13)) (.inr B13)) (.inr (1,(false:Bool))))
noncomputable def A9U (x0 x1:Lq2) (x5:Int):B0t:=itX (fun v:A85=>A96 v.1 v.2.1 v.2.2) B13 (x0,x1,x5)
noncomputable def B5u (a:B0t):CT:=(.br (a.1==0) (.done .ret B8J (((),(),(),(),a.2,u22),())) (.br (a.1==1) (.done (.exit 0) B8K ((u27),())) .fail))
noncomputable def C9O (x0 x1:Lq2) (x5:Int):CT:=B5u (A9U x0 x1 x5)
noncomputable abbrev B5L:A8b.den→RT A8b.den:=(fun d=>C1z d.1.1 d.1.2.1 d.1.2.2.2.2.2.1)
noncomputable def B7T:Code:=((D5 0 (A1o Tryz.f69)).getD 0 (0,.skip)).2
noncomputable abbrev C1n (v:A85):A8b.den:=((v.1,v.2.1,(),(),(),v.2.2,u21),())
theorem C9k:(∀ v:A85,(C1z v.1 v.2.1 v.2.2).val=A6W C1n B5u (A96 v.1 v.2.1 v.2.2))∧∀ a:B0t,CEnd A8b.den (B5u a):=⟨fun v=>(A72 (A72 (A72 (A72 rfl rfl) rfl) rfl) rfl),fun a=>(A7P aCD (A7P aCD A7R))⟩
theorem C7S:RdA G35 aLn 0 B7T A8b 0 [] (kepts [4] [(0,[])]) (fun d=>(B5L d).opt 0 []):=by
 intro d
 kernel_rfl
noncomputable abbrev B9E:St→Option Tree:=A8b.say 0 [] [] (fun d=>C9O d.1.1 d.1.2.1 d.1.2.2.2.2.2.1)
theorem C83:aPL B9E B7T:=SS.wp2 hlz [] B5L C7S (fun d=>rfl) _ (fun d=>Runs.ofI2 (step:=B5L) C1n C9k rfl (d.1.1,d.1.2.1,d.1.2.2.2.2.2.1))
noncomputable def C0J (a0 a1:Lq2):Bool:=let z1:=A9U a0 a1 (0:Int);(cond ((a0.length:Int) != (a1.length:Int)) false (cond (z1.1==0) (z1.2) true))
noncomputable abbrev B1g (r:Bool):AV×List AObj:=((.t true .bool r),[])
noncomputable abbrev C0h:D9 B3b→AV×List AObj:=fun d=>B1g (C0J d.1 d.2.1)
noncomputable def A8N (a0 a1:Lq2):Bool:=let z1:=A9U a0 a1 (0:Int);cond ((a0.length:Int) != (a1.length:Int)) true (cond (z1.1==0) true (z1.1==1))
noncomputable abbrev B7k:D9 B3b→Bool:=fun d=>A8N d.1 d.2.1
noncomputable abbrev D2q:Nat→St→Option Tree:=fun b=>match b with | 0=>B9E | _=>fun _=>none
theorem D05:A7X true G35 (D2q) Tryz.f69 B3b B7k C0h:=by
 rintro ⟨a0,⟨a1,_⟩⟩ hp
 change A8N a0 a1=true at hp
 unfold A8N at hp
 refine Eq.trans (b:=(let z1:=A9U a0 a1 (0:Int);cond ((a0.length:Int) != (a1.length:Int)) (some (B1g false)) (cond (z1.1==0) (some (B1g (z1.2))) (cond (z1.1==1) (some (B1g true)) none)))) (by kernel_rfl) ?_
 exact (K9 B1g hp (fun hp=>rfl) (fun hp=>(K9 B1g hp (fun hp=>rfl) (fun hp=>(A70 hp fun _h=>rfl)))))
theorem D2I:aPP 69 (A19 B3b B7k C0h):=pcD true G35 (hl1 (i:=0) (by kernel_rfl) C83) D05
noncomputable def S36:Tab:=Tab.add S35 69 (lift (A19 B3b B7k C0h))
noncomputable def E0l:FuncId→Bool:=qadd E0k 69
theorem G36:aPG S36 E0l:=G35.addQ D2I (cbl Tryz.f69) (fun _=>rfl)

abbrev E1I:List Sh:=.junk::.junk::.junk::D8F
abbrev E11:List Sh:=.junk::E1I
abbrev E12:List Sh:=.junk::D9Q
abbrev u51:=((),(),(),u48)
abbrev u50:=((),(),u48)
abbrev u56:=((),(),u54)
abbrev E1W:List AV:=.junk::.junk::.junk::.junk::D58
abbrev E1V:List AV:=.junk::.junk::.junk::D58
abbrev E1X:List AV:=.junk::E1v
abbrev B1Q:List PSh:=[.t tq3,.t tq3]
abbrev V4:SS:=⟨(.t false tq3::.t false tq3::.junk::.junk::.junk::tI::E1I),[]⟩
abbrev B0i:SS:=⟨(.junk::.junk::.junk::.junk::.t true .bool::E11),[]⟩
abbrev B7H:SS:=⟨(.junk::E12),[]⟩
noncomputable def B3B (x0 x1:Lq1) (x5:Int):=C0J (((x0.getD x5.toNat ((0:Int),((0:Int),[]))).2).2) (((x1.getD x5.toNat ((0:Int),((0:Int),[]))).2).2)
noncomputable def B9J (x0 x1:Lq1) (x5:Int):RT V4.den:=let z1:=x0.getD x5.toNat ((0:Int),((0:Int),[]));let z2:=x1.getD x5.toNat ((0:Int),((0:Int),[]));let z3:=decide (0≤x5∧x5<(x0.length:Int));let z4:=decide (0≤x5∧x5<(x1.length:Int));(.br (decide (x5<(x0.length:Int))) (.br z3 (.br z4 (.br ((z1.1) != (z2.1)) (.done .ret B0i (((),(),(),(),false,u51),())) (.br z3 (.br z4 (.br (((z1.2).1) != ((z2.2).1)) (.done .ret B0i (((),(),(),(),false,u51),())) (.br z3 (.br z4 (.br (A8N ((z1.2).2) ((z2.2).2)) (.br (!(B3B x0 x1 x5)) (.done .ret B0i (((),(),(),(),false,u51),())) (.next ((x0,x1,(),(),(),wI (x5+(1:Int)),u50),()))) .fail) .fail) .fail)) .fail) .fail)) .fail) .fail) (.done (.exit 0) B7H ((u56),())))
abbrev A8t:=(Lq1)×Lq1×(Int)
abbrev A9N:=Nat×(Bool)
def Q1:A9N:=(99,(false:Bool))
noncomputable def A9o (x0 x1:Lq1) (x5:Int):A8t ⊕ A9N:=let z1:=x0.getD x5.toNat ((0:Int),((0:Int),[]));let z2:=x1.getD x5.toNat ((0:Int),((0:Int),[]));let z3:=decide (0≤x5∧x5<(x0.length:Int));let z4:=decide (0≤x5∧x5<(x1.length:Int));(cond (decide (x5<(x0.length:Int))) (cond z3 (cond z4 (cond ((z1.1) != (z2.1)) (.inr (0,false)) (cond z3 (cond z4 (cond (((z1.2).1) != ((z2.2).1)) (.inr (0,false)) (cond z3 (cond z4 (cond (A8N ((z1.2).2) ((z2.2).2)) (cond (!(B3B x0 x1 x5)) (.inr (0,false)) (.inl (x0,x1,wI (x5+(1:Int))))) (.inr Q1)) (.inr Q1)) (.inr Q1))) (.inr Q1)) (.inr Q1))) (.inr Q1)) (.inr Q1)) (.inr (1,(false:Bool))))
noncomputable def A9d (x0 x1:Lq1) (x5:Int):A9N:=itX (fun v:A8t=>A9o v.1 v.2.1 v.2.2) Q1 (x0,x1,x5)
noncomputable def B4j (a:A9N):CT:=(.br (a.1==0) (.done .ret B0i (((),(),(),(),a.2,u51),())) (.br (a.1==1) (.done (.exit 0) B7H ((u56),())) .fail))
noncomputable def C8V (x0 x1:Lq1) (x5:Int):CT:=B4j (A9d x0 x1 x5)
noncomputable abbrev B4D:V4.den→RT V4.den:=(fun d=>B9J d.1.1 d.1.2.1 d.1.2.2.2.2.2.1)
noncomputable def B6T:Code:=((D5 0 (A1o Tryz.f41)).getD 0 (0,.skip)).2
noncomputable abbrev B9s (v:A8t):V4.den:=((v.1,v.2.1,(),(),(),v.2.2,u50),())
theorem C72:(∀ v:A8t,(B9J v.1 v.2.1 v.2.2).val=A6W B9s B4j (A9o v.1 v.2.1 v.2.2))∧∀ a:A9N,CEnd V4.den (B4j a):=⟨fun v=>by repeat' first | apply A72 | rfl,fun a=>(A7P aCD (A7P aCD A7R))⟩
noncomputable def B9n (x0 x1:Lq1) (x5:Int):Option (Ex×St):=let z1:=(⟨(.junk::.junk::.junk::.junk::(.t true .bool false)::E1W),[],0,[]⟩:St);let z2:=x0.getD x5.toNat ((0:Int),((0:Int),[]));let z3:=x1.getD x5.toNat ((0:Int),((0:Int),[]));let z4:=decide (0≤x5∧x5<(x0.length:Int));let z5:=decide (0≤x5∧x5<(x1.length:Int));(cond (decide (x5<(x0.length:Int))) (cond z4 (cond z5 (cond ((z2.1) != (z3.1)) (some (.ret,z1)) (cond z4 (cond z5 (cond (((z2.2).1) != ((z3.2).1)) (some (.ret,z1)) (cond z4 (cond z5 (cond (A8N ((z2.2).2) ((z3.2).2)) (cond (!(B3B x0 x1 x5)) (some (.ret,z1)) (some (.normal,(⟨((.t false tq3 x0)::(.t false tq3 x1)::.junk::.junk::.junk::(ti (wI (x5+(1:Int))))::E1V),[],0,[]⟩:St)))) none) none) none)) none) none)) none) none) (some ((.exit 0),(⟨(.junk::E1X),[],0,[]⟩:St))))
theorem C6A:RdA G36 aLn 0 B6T V4 0 [] (kepts [4] [(0,[])]) (fun d=>B9n d.1.1 d.1.2.1 d.1.2.2.2.2.2.1):=by
 intro d
 kernel_rfl
theorem C6E:∀ d:V4.den,(fun d=>B9n d.1.1 d.1.2.1 d.1.2.2.2.2.2.1) d=(B4D d).opt 0 []:=by
 intro d
 kernel_rfl
noncomputable abbrev B8c:St→Option Tree:=V4.say 0 [] [] (fun d=>C8V d.1.1 d.1.2.1 d.1.2.2.2.2.2.1)
theorem C7x:aPL B8c B6T:=SS.wp2 hlz [] B4D C6A C6E _ (fun d=>Runs.ofI2 (step:=B4D) B9s C72 rfl (d.1.1,d.1.2.1,d.1.2.2.2.2.2.1))
noncomputable def B5g (a0 a1:Lq1):Bool:=let z1:=A9d a0 a1 (0:Int);(cond ((a0.length:Int) != (a1.length:Int)) false (cond (z1.1==0) (z1.2) true))
noncomputable abbrev B0b (r:Bool):AV×List AObj:=((.t true .bool r),[])
noncomputable abbrev B8m:D9 B1Q→AV×List AObj:=fun d=>B0b (B5g d.1 d.2.1)
noncomputable def A8U (a0 a1:Lq1):Bool:=let z1:=A9d a0 a1 (0:Int);cond ((a0.length:Int) != (a1.length:Int)) true (cond (z1.1==0) true (z1.1==1))
noncomputable abbrev B5E:D9 B1Q→Bool:=fun d=>A8U d.1 d.2.1
noncomputable abbrev D1h:Nat→St→Option Tree:=fun b=>match b with | 0=>B8c | _=>fun _=>none
theorem C9r:A7X true G36 (D1h) Tryz.f41 B1Q B5E B8m:=by
 rintro ⟨a0,⟨a1,_⟩⟩ hp
 change A8U a0 a1=true at hp
 unfold A8U at hp
 refine Eq.trans (b:=(let z1:=A9d a0 a1 (0:Int);cond ((a0.length:Int) != (a1.length:Int)) (some (B0b false)) (cond (z1.1==0) (some (B0b (z1.2))) (cond (z1.1==1) (some (B0b true)) none)))) (by kernel_rfl) ?_
 exact (K9 B0b hp (fun hp=>rfl) (fun hp=>(K9 B0b hp (fun hp=>rfl) (fun hp=>(A70 hp fun _h=>rfl)))))
theorem D1u:aPP 41 (A19 B1Q B5E B8m):=pcD true G36 (hl1 (i:=0) (by kernel_rfl) C7x) C9r
noncomputable def S37:Tab:=Tab.add S36 41 (lift (A19 B1Q B5E B8m))
noncomputable def E0m:FuncId→Bool:=qadd E0l 41
theorem G37:aPG S37 E0m:=G36.addQ D1u (cbl Tryz.f41) (fun _=>rfl)

abbrev B6D:List PSh:=[.agg [(.int .i64),tq3,(.int .i64),tq6,tq3]]
noncomputable def B9x (a0:Int) (a1:Lq1) (a2:Int) (a3:LBBe) (a4:Lq1):Bool:=let z1:=B2U a1;(cond (!(P1 a0 (0:Int) (7:Int))) false (cond (decide ((a1.length:Int) > (300:Int))) false (cond (!(P1 a2 (0:Int) (a1.length:Int))) false (cond (z1.2.2) (cond (B1t (z1.1) a3) (cond (B5g (z1.2.1) a4) (decide ((wI ((a1.length:Int)+(((z1.2.1).length:Nat):Int)))≤(300:Int))) false) false) false))))
noncomputable abbrev U9 (r:Bool):AV×List AObj:=((.t true .bool r),[])
noncomputable abbrev C4P:D9 B6D→AV×List AObj:=fun d=>U9 (B9x d.1.1 d.1.2.1 d.1.2.2.1 d.1.2.2.2.1 d.1.2.2.2.2.1)
noncomputable def B2s (a0:Int) (a1:Lq1) (a2:Int) (a3:LBBe) (a4:Lq1):Bool:=let z1:=B2U a1;cond (!(P1 a0 (0:Int) (7:Int))) true (cond (decide ((a1.length:Int) > (300:Int))) true (cond (!(P1 a2 (0:Int) (a1.length:Int))) true ((A8T a1)&&(cond (z1.2.2) ((A8l (z1.1) a3)&&(cond (B1t (z1.1) a3) (A8U (z1.2.1) a4) true)) true))))
noncomputable abbrev C0D:D9 B6D→Bool:=fun d=>B2s d.1.1 d.1.2.1 d.1.2.2.1 d.1.2.2.2.1 d.1.2.2.2.2.1
theorem D3R:A7X true G37 aLn Tryz.f19 B6D C0D C4P:=by
 rintro ⟨⟨a0,⟨a1,⟨a2,⟨a3,⟨a4,_⟩⟩⟩⟩⟩,_⟩ hp
 change B2s a0 a1 a2 a3 a4=true at hp
 unfold B2s at hp
 refine Eq.trans (b:=(let z1:=B2U a1;cond (!(P1 a0 (0:Int) (7:Int))) (some (U9 false)) (cond (decide ((a1.length:Int) > (300:Int))) (some (U9 false)) (cond (!(P1 a2 (0:Int) (a1.length:Int))) (some (U9 false)) (cond (A8T a1) (cond (z1.2.2) (cond (A8l (z1.1) a3) (cond (B1t (z1.1) a3) (cond (A8U (z1.2.1) a4) (cond (B5g (z1.2.1) a4) (some (U9 (decide ((wI ((a1.length:Int)+(((z1.2.1).length:Nat):Int)))≤(300:Int))))) (some (U9 false))) none) (some (U9 false))) none) (some (U9 false))) none))))) (by kernel_rfl) ?_
 exact (K9 U9 hp (fun hp=>rfl) (fun hp=>(K9 U9 hp (fun hp=>rfl) (fun hp=>(K9 U9 hp (fun hp=>rfl) (fun hp=>(A7Y hp fun hp=>(K9 U9 hp (fun hp=>(A7Y hp fun hp=>(K9 U9 hp (fun hp=>(A70 hp fun _h=>(Q7 U9 (fun _h=>rfl) (fun _h=>rfl)))) (fun hp=>rfl)))) (fun hp=>rfl)))))))))
theorem D51:aPP 19 (A19 B6D C0D C4P):=pcD true G37 hlz D3R
noncomputable def S38:Tab:=Tab.add S37 19 (lift (A19 B6D C0D C4P))
noncomputable def E0n:FuncId→Bool:=qadd E0m 19
theorem G38:aPG S38 E0n:=G37.addQ D51 (cbl Tryz.f19) (fun _=>rfl)


end Go.Proofs.YtgglehejlddghaaGreat.Eng
