/- What the functions that FnDecided reaches compute, and that it answers true. -/
import Derived.Test.YtgglehejlddghaaT
import Derived.Test.YtgglehejlddghaaRows
import Derived.Test.YtgglehejlddghaaE45
import Derived.Shelf.Spec.SlicesInsertGrow
namespace Go.Proofs.Ytgglehejlddghaa.Eng
open Go Go.RowKit
set_option linter.unusedSimpArgs false
set_option linter.unusedVariables false
set_option maxRecDepth 10000
noncomputable abbrev bE:ByteArray:=⟨#[]⟩
noncomputable abbrev Lq2:=List (Int×ByteArray×ByteArray)
noncomputable abbrev tq5:Ty:=.sl (.pair (.int .i64) (.pair .str .str))
noncomputable abbrev tq4:Ty:=.pair (.int .i64) (.pair (.int .i64) (.sl (.pair (.int .i64) (.pair .str .str))))
noncomputable def S0:Tab:=fun _=>none
noncomputable def QF0:FuncId→Bool:=fun _=>false
theorem G0:Good Try.prog tt S0 QF0:=Good.start tt_ok (by kernel_rfl)
/-! Plain laws: order of bytes, keys, ops. -/
theorem bytesLess_irrefl:∀ a:List UInt8,Op.bytesLess a a=false:=by
 intro a
 induction a with
 | nil=>rfl
 | cons x a ih=>simp only [Op.bytesLess,ih,Bool.and_false,Bool.or_false,decide_eq_false_iff_not];exact UInt8.lt_irrefl x
theorem bytesLess_ge:∀ a b:List UInt8,(!(Op.bytesLess a b))=(Op.bytesLess b a||b==a):=by
 intro a
 induction a with
 | nil=>intro b;cases b<;>simp [Op.bytesLess]
 | cons x a ih =>
  intro b
  cases b with
  | nil=>simp [Op.bytesLess]
  | cons y b =>
   simp only [Op.bytesLess]
   by_cases h1:x<y
   ·have h2:¬ y<x:=fun h=>UInt8.lt_irrefl _ (UInt8.lt_trans h1 h)
    have h3:(y==x)=false:=by rw [beq_eq_false_iff_ne];intro h;subst h;exact h2 h1
    have h4:(y::b==x::a)=false:=by rw [List.cons_beq_cons,h3,Bool.false_and]
    simp [h1,h2,h3,h4]
   ·by_cases h5:x=y
    ·subst h5
     have h6:(x::b==x::a)=(b==a):=by rw [List.cons_beq_cons];simp
     have:=ih b
     simp only [h1,decide_false,Bool.false_or,beq_self_eq_true,Bool.true_and,h6,this]
    ·have h7 : y < x := by
      rcases Nat.lt_trichotomy x.toNat y.toNat with h | h | h
      ·exact absurd (UInt8.lt_iff_toNat_lt.2 h) h1
      ·exact absurd (UInt8.toNat_inj.1 h) h5
      ·exact UInt8.lt_iff_toNat_lt.2 h
     have h8:(x==y)=false:=by rw [beq_eq_false_iff_ne];exact h5
     simp [h1,h7,h8]
theorem allF_congr {p q:Nat→Bool}:∀ k i,(∀ j,i≤j→j<i+k→p j=q j)→allF p k i=allF q k i:=by
 intro k
 induction k with
 | zero=>intro i h;rfl
 | succ k ih=>intro i h;simp only [allF];rw [h i (Nat.le_refl _) (by omega),ih (i+1) (fun j h1 h2=>h j (by omega) (by omega))]
theorem allF_same {p:Nat→Bool} (k i:Nat) (h:∀ j,i≤j→j<i+k→p j=true):allF p k i=true:=(allF_true k i).2 h
theorem szN_all {f:Nat→Int→Int} {Q:Nat→Prop} {M:Int}:∀ (k i:Nat) (b:Int),(∀ j b,i≤j→j<i+k→0≤b→b≤M→0≤f j b→Q j∧f j b≤b)→0≤b→b≤M→isInl (szN f k i b)=true →
  (∀ j,i≤j→j<i+k→Q j)∧0≤getInl (-1) (szN f k i b)∧getInl (-1) (szN f k i b)≤b:=by
 intro k
 induction k with
 | zero=>intro i b hf h1 h2 h3;exact ⟨fun j hj hk=>by omega,h1,Int.le_refl _⟩
 | succ k ih =>
  intro i b hf h1 h2 h3
  have e:szN f (k+1) i b=cond (decide (f i b<0)) (.inr ()) (szN f k (i+1) (f i b)):=by
   simp only [szN,loopN]
   cases decide (f i b<0)<;>rfl
  rw [e] at h3 ⊢
  cases hd:decide (f i b<0) with
  | true=>rw [hd] at h3;cases h3
  | false =>
   rw [hd] at h3
   simp only [cond_false] at h3 ⊢
   have h0:0≤f i b:=by have:=of_decide_eq_false hd;omega
   obtain ⟨q1,q2⟩:=hf i b (Nat.le_refl _) (by omega) h1 h2 h0
   obtain ⟨r1,r2,r3⟩:=ih (i+1) (f i b) (fun j b hj hk=>hf j b (by omega) (by omega)) h0 (by omega) h3
   refine ⟨fun j hj hk=>?_,r2,by omega⟩
   by_cases ej:j=i
   ·exact ej ▸ q1
   ·exact r1 j (by omega) (by omega)
noncomputable abbrev OpT:Type:=Int×ByteArray×ByteArray
noncomputable def dOp:Int×ByteArray×ByteArray:=((0:Int),(bE,bE))
noncomputable def okOp (o:Int×ByteArray×ByteArray):Bool:=okS o.2.1&&okS o.2.2
noncomputable def okOps (l:Lq2):Bool:=okL l&&l.all okOp
theorem okOps_at {l:Lq2} (h:okOps l=true) (i:Nat) (hi:i<l.length):okS (l.getD i dOp).2.1=true∧okS (l.getD i dOp).2.2=true:=by
 simp only [okOps,Bool.and_eq_true,List.all_eq_true] at h
 have:=h.2 (l.getD i dOp) (by simp [List.getD_eq_getElem?_getD,hi])
 simpa [okOp] using this
theorem okOps_len {l:Lq2} (h:okOps l=true):l.length≤1048576:=by
 simp only [okOps,Bool.and_eq_true] at h
 exact okL_le h.1
noncomputable def bigS (s:ByteArray):Bool:=decide (s.size≤9223372036854775807)
noncomputable def bigOps (l:Lq2):Bool:=decide (l.length≤9223372036854775807)&&l.all (fun o=>bigS o.2.1&&bigS o.2.2)
theorem bigOps_at {l:Lq2} (h:bigOps l=true) (i:Nat) (hi:i<l.length):bigS (l.getD i dOp).2.1=true∧bigS (l.getD i dOp).2.2=true:=by
 simp only [bigOps,Bool.and_eq_true,List.all_eq_true] at h
 exact h.2 (l.getD i dOp) (by simp [List.getD_eq_getElem?_getD,hi])
theorem okOps_of {l:Lq2} (h1:l.length≤1048576) (h2:∀ i,i<l.length→okS (l.getD i dOp).2.1=true∧okS (l.getD i dOp).2.2=true):okOps l=true:=by
 simp only [okOps,okL,Bool.and_eq_true,decide_eq_true_eq,List.all_eq_true]
 refine ⟨h1,fun o ho=>?_⟩
 obtain ⟨i,hi,rfl⟩:=List.getElem_of_mem ho
 have:=h2 i hi
 simp only [List.getD_eq_getElem?_getD,List.getElem?_eq_getElem hi,Option.getD_some] at this
 simp [okOp,this.1,this.2]
theorem ba_beq (a b:ByteArray):(a.toList==b.toList)=decide (a=b):=by
 rw [ByteArray.toList_eq,ByteArray.toList_eq]
 by_cases h:a=b
 ·subst h;simp
 ·rw [decide_eq_false h,beq_eq_false_iff_ne]
  intro e
  exact h (by cases a;cases b;simp at e;rw [e])
theorem bigOps_len {l:Lq2} (h:bigOps l=true):l.length≤9223372036854775807:=by
 simp only [bigOps,Bool.and_eq_true,decide_eq_true_eq] at h;exact h.1
theorem okOps_okL {l:Lq2} (h:okOps l=true):okL l=true:=by
 simp only [okOps,Bool.and_eq_true] at h;exact h.1
theorem bigOps_of {l:Lq2} (h:bigT tq5 l=true):bigOps l=true:=by
 have h:(decide (l.length≤maxLen)&&l.all fun o=>(Lit.int .i64 o.1).wf&&(decide (o.2.1.size≤maxLen)&&decide (o.2.2.size≤maxLen)))=true:=h
 have hm:maxLen=9223372036854775807:=by decide
 rw [hm] at h
 simp only [Bool.and_eq_true,decide_eq_true_eq,List.all_eq_true] at h
 simp only [bigOps,bigS,Bool.and_eq_true,decide_eq_true_eq,List.all_eq_true]
 exact ⟨h.1,fun o ho=>(h.2 o ho).2⟩
theorem bigRec_ops {k t:Int} {l:Lq2} (h:bigT tq4 (k,(t,l))=true):bigOps l=true:=by
 have hb:((Lit.int .i64 k).wf&&((Lit.int .i64 t).wf&&bigT tq5 l))=true:=h
 rw [Bool.and_eq_true,Bool.and_eq_true] at hb
 exact bigOps_of hb.2.2
/-- The high groups of a number, and what is left. -/
noncomputable def hiF (g:Int→Int):Nat→Int→List Int×Int
 | 0,x=>([],x)
 | k+1,x=>cond (decide (x > 127)) (g x::(hiF g k (Int.fdiv x (2 ^ 7))).1,(hiF g k (Int.fdiv x (2 ^ 7))).2) ([],x)
theorem fdiv128 (x:Int):Int.fdiv x (2 ^ 7)=x / 128:=by
 rw [show (2:Int) ^ 7=128 from rfl,Int.fdiv_eq_ediv_of_nonneg _ (by decide)]
theorem hiF_small (g:Int→Int) (k:Nat):∀ x:Int,0≤x→x<128 ^ (k+1)→0≤(hiF g k x).2∧(hiF g k x).2≤127:=by
 induction k with
 | zero=>intro x h0 h1;simp only [hiF];exact ⟨h0,by rw [show (128:Int) ^ (0+1)=128 from rfl] at h1;omega⟩
 | succ k ih =>
  intro x h0 h1
  simp only [hiF]
  by_cases hx:x > 127
  ·simp only [decide_eq_true hx,cond_true,fdiv128]
   rw [Int.pow_succ] at h1
   exact ih (x / 128) (by omega) (by omega)
  ·simp only [decide_eq_false hx,cond_false]
   exact ⟨h0,by omega⟩
theorem hiF_len (g:Int→Int) (k:Nat):∀ x:Int,(hiF g k x).1.length≤k:=by
 induction k with
 | zero=>intro x;simp [hiF]
 | succ k ih =>
  intro x
  simp only [hiF]
  cases decide (x > 127) with
  | true=>simp;exact ih _
  | false=>simp
noncomputable def gNum (x:Int):Int:=IntKind.wrap .u8 (ior .i64 (iand .i64 x (127:Int)) (128:Int))
noncomputable def gNum' (x:Int):Int:=IntKind.wrap .u8 (ior .i64 (128:Int) (iand .i64 x (127:Int)))
theorem gNum_same:gNum'=gNum:=by
 funext x
 simp only [gNum,gNum', ior]
 rw [BitVec.or_comm]
theorem nX_is:∃ f:Int→List Int×Int,∀ x,f x=hiF gNum 4 x:=⟨_,fun _=>rfl⟩
/-- The same, not to be unfolded. -/
noncomputable def nX:Int→List Int×Int:=Classical.choose nX_is
theorem nX_eq (x:Int):nX x=hiF gNum 4 x:=Classical.choose_spec nX_is x
theorem nX_eq' (x:Int):nX x=hiF gNum' 4 x:=by rw [gNum_same];exact nX_eq x
theorem nX_len (x:Int):(nX x).1.length≤4:=by rw [nX_eq];exact hiF_len gNum 4 x
/-- The bytes of a number. -/
noncomputable def numB (x:Int):List Int:=(nX x).1++[IntKind.wrap .u8 (nX x).2]
theorem numB_len (x:Int):(numB x).length≤5:=by
 have:=nX_len x
 simp [numB];omega
noncomputable def clampN (n:Int):Int:=if n > 1000000000 then 1000000000 else if n<0 then 0 else n
noncomputable def textB (s:ByteArray):List Int:=numB (s.size:Int)++strInts s
noncomputable def opB (o:Int×ByteArray×ByteArray):List Int:=numB (clampN o.1)++(textB o.2.1++textB o.2.2)
theorem clampN_of {n:Int} (h0:0≤n) (h1:n≤1000000000):clampN n=n:=by simp only [clampN];split<;>(try split)<;>omega
theorem strInts_len (s:ByteArray):(strInts s).length=s.size:=by rw [strInts,List.length_map,Array.length_toList];rfl
theorem textB_len (s:ByteArray):(textB s).length≤5+s.size:=by
 have:=numB_len (s.size:Int)
 simp [textB,strInts_len];omega

noncomputable def clampI (x:Int):Int:=if (if (1000000000:Int)<x then (1000000000:Int) else x) > (0:Int) then (if (1000000000:Int)<x then (1000000000:Int) else x) else (0:Int)
theorem clampI_eq (x:Int):clampI x=clampN x:=by
 simp only [clampI,clampN]
 split<;>split<;>(try split)<;>omega
theorem clampN_range (x:Int):0≤clampN x∧clampN x≤1000000000:=by
 simp only [clampN]
 split<;>(try split)<;>omega
theorem clampI_range (x:Int):0≤clampI x∧clampI x≤1000000000:=by rw [clampI_eq];exact clampN_range x

noncomputable def digB (x:Int):ByteArray:=(⟨([IntKind.wrap .u8 (IntKind.wrap .i64 ((48:Int)+(Int.tmod x (10:Int))))].map fun n=>UInt8.ofNat n.toNat).toArray⟩:ByteArray)
theorem digB_size (x:Int):(digB x).size=1:=rfl
/-- A number's digits. -/
noncomputable def txtN:Nat→Int→ByteArray→ByteArray
 | 0,_,s=>s
 | k+1,x,s=>cond (decide (x > 0)) (txtN k (IntKind.wrap .i64 (Int.tdiv x (10:Int))) (digB x++s)) s
theorem txtN_len:∀ (k:Nat) (x:Int) (s:ByteArray),(txtN k x s).size≤k+s.size:=by
 intro k
 induction k with
 | zero=>intro x s;simp [txtN]
 | succ k ih =>
  intro x s
  simp only [txtN]
  cases decide (x > 0) with
  | true =>
   have:=ih (IntKind.wrap .i64 (Int.tdiv x (10:Int))) (digB x++s)
   rw [ByteArray.size_append,digB_size] at this
   simp only [cond_true];omega
  | false=>simp only [cond_false];omega
theorem foldN_app {α:Type} (f:α→List Int) (d:α) (l:List α) (g:Nat→List Int→List Int) (hg:∀ i h,i<l.length→g i h=h++f (l.getD i d)):∀ k i h,i+k=l.length→foldN g k i h=h++((l.drop i).map f).flatten:=by
 intro k
 induction k with
 | zero =>
  intro i h hi
  have:l.drop i=[]:=List.drop_eq_nil_of_le (by omega)
  simp [foldN,this]
 | succ k ih =>
  intro i h hi
  have hlt:i<l.length:=by omega
  simp only [foldN]
  rw [ih (i+1) (g i h) (by omega),hg i h hlt,List.append_assoc,show l.drop i=l[i]::l.drop (i+1) from List.drop_eq_getElem_cons hlt,List.map_cons,List.flatten_cons,show l.getD i d=l[i] from by simp [List.getD_eq_getElem?_getD,hlt]]
theorem opB_len (o:Int×ByteArray×ByteArray):(opB o).length≤15+o.2.1.size+o.2.2.size:=by
 have h1:=numB_len (clampN o.1)
 have h2:=textB_len o.2.1
 have h3:=textB_len o.2.2
 simp only [opB,List.length_append];omega
theorem flat_len {M:Nat}:∀ l:Lq2,(∀ o∈l,(opB o).length≤M)→(l.map opB).flatten.length≤M*l.length:=by
 intro l
 induction l with
 | nil=>intro _;simp
 | cons o l ih =>
  intro h
  have h1:=h o (by simp)
  have h2:=ih fun x hx=>h x (by simp [hx])
  simp only [List.map_cons,List.flatten_cons,List.length_append,List.length_cons]
  rw [Nat.mul_add];omega
theorem okOps_mem {l:Lq2} (h:okOps l=true):∀ o∈l,o.2.1.size≤1048576∧o.2.2.size≤1048576:=by
 intro o ho
 simp only [okOps,Bool.and_eq_true,List.all_eq_true] at h
 have:=h.2 o ho
 simpa [okOp,okS] using this

noncomputable abbrev t_sy:Ty:=.sl (.int .u8)
noncomputable abbrev P_lbig:List PSh:=[.t t_sy]
noncomputable def lbig (a0:List Int):Bool:=(decide (((a0.length:Nat):Int) > (1048576:Int)))
noncomputable abbrev e_lbig (r:Bool):AV×List AObj:=((.t true .bool r),[])
noncomputable abbrev F_lbig (r:Bool):=some (e_lbig r)
noncomputable abbrev g_lbig:pshsDen P_lbig→AV×List AObj:=fun d=>e_lbig (lbig d.1)
noncomputable abbrev pre_lbig:pshsDen P_lbig→Bool:=fun d=>true
theorem run_lbig:RunP true G0 (fun _ _=>none) Try.f11 P_lbig pre_lbig g_lbig:=by
 rintro ⟨a0,_⟩ hp
 kernel_rfl
theorem c_lbig:PContract Try.prog 11 (sumOf P_lbig pre_lbig g_lbig):=PContract.of_data true G0 (by kernel_rfl) (hl0 (by kernel_rfl)) _ _ _ run_lbig
noncomputable def S1:Tab:=Tab.add S0 11 (lift (sumOf P_lbig pre_lbig g_lbig))
noncomputable def QF1:FuncId→Bool:=qadd QF0 11
theorem G1:Good Try.prog tt S1 QF1:=G0.addQ c_lbig ⟨Try.f11,by kernel_rfl,by kernel_rfl,by kernel_rfl⟩ (fun _=>rfl)

noncomputable abbrev jS27:List Sh:=.junk::.junk::.junk::.junk::.junk::.junk::.junk::.junk::.junk::.junk::.junk::.junk::.junk::.junk::.junk::.junk::.junk::.junk::.junk::.junk::.junk::.junk::.junk::.junk::.junk::.junk::.junk::[]
noncomputable abbrev jS28:List Sh:=.junk::jS27
noncomputable abbrev u28:=((),(),(),(),(),(),(),(),(),(),(),(),(),(),(),(),(),(),(),(),(),(),(),(),(),(),(),())
noncomputable abbrev u29:=((),u28)
noncomputable abbrev jA27:List AV:=.junk::.junk::.junk::.junk::.junk::.junk::.junk::.junk::.junk::.junk::.junk::.junk::.junk::.junk::.junk::.junk::.junk::.junk::.junk::.junk::.junk::.junk::.junk::.junk::.junk::.junk::.junk::[]
noncomputable abbrev jA28:List AV:=.junk::jA27
noncomputable abbrev SM_sl1New:SS:=⟨[.t false t_sy],[]⟩
noncomputable abbrev S_sl1New_0:SS:=⟨(.t false t_sy::.junk::.junk::.t true (.int .i64)::.t true (.int .i64)::jS27),[]⟩
noncomputable abbrev E_sl1New_0_0:SS:=⟨(.t false t_sy::.junk::.junk::.t true (.int .i64)::jS28),[]⟩
noncomputable def st_sl1New_0 (x0:List Int) (x3:Int) (x4:Int):RT S_sl1New_0.den:=(.br (decide (x4<((x0.length:Nat):Int))) (.br (decide (x4<(4000:Int))) (.br (decide (0≤x4∧x4<((x0.length:Nat):Int))) (.next ((x0,(),(),iand .i64 (IntKind.wrap .i64 ((IntKind.wrap .i64 ((IntKind.wrap .i64 (x3*(137:Int)))+(IntKind.wrap .i64 (x0.getD x4.toNat (0:Int)))))+(11:Int))) (1073741823:Int),IntKind.wrap .i64 (x4+(1:Int)),u28),())) .fail) (.done (.exit 0) E_sl1New_0_0 ((x0,(),(),x3,u29),()))) (.done (.exit 0) E_sl1New_0_0 ((x0,(),(),x3,u29),())))
noncomputable abbrev V_sl1New_0:=(List Int)×(Int)×(Int)
noncomputable abbrev A_sl1New_0:=Nat×(List Int)×(Int)
noncomputable def fl_sl1New_0:A_sl1New_0:=(99,([]:List Int),((0:Int):Int))
noncomputable def ss_sl1New_0 (x0:List Int) (x3:Int) (x4:Int):V_sl1New_0 ⊕ A_sl1New_0:=(cond (decide (x4<((x0.length:Nat):Int))) (cond (decide (x4<(4000:Int))) (cond (decide (0≤x4∧x4<((x0.length:Nat):Int))) (.inl (x0,iand .i64 (IntKind.wrap .i64 ((IntKind.wrap .i64 ((IntKind.wrap .i64 (x3*(137:Int)))+(IntKind.wrap .i64 (x0.getD x4.toNat (0:Int)))))+(11:Int))) (1073741823:Int),IntKind.wrap .i64 (x4+(1:Int)))) (.inr fl_sl1New_0)) (.inr (0,x0,x3))) (.inr (0,x0,x3)))
noncomputable def it_sl1New_0 (x0:List Int) (x3:Int) (x4:Int):A_sl1New_0:=itX (fun v:V_sl1New_0=>ss_sl1New_0 v.1 v.2.1 v.2.2) fl_sl1New_0 (x0,x3,x4)
noncomputable def ct_sl1New_0 (a:A_sl1New_0):CT:=(.br (a.1==0) (.done (.exit 0) E_sl1New_0_0 ((a.2.1,(),(),a.2.2,u29),())) .fail)
noncomputable def T_sl1New_0 (x0:List Int) (x3:Int) (x4:Int):CT:=ct_sl1New_0 (it_sl1New_0 x0 x3 x4)
noncomputable abbrev sp_sl1New_0:S_sl1New_0.den→RT S_sl1New_0.den:=fun d=>st_sl1New_0 d.1.1 d.1.2.2.2.1 d.1.2.2.2.2.1
noncomputable abbrev pk_sl1New_0 (x0:List Int) (x3:Int) (x4:Int):S_sl1New_0.den:=((x0,(),(),x3,x4,u28),())
noncomputable def body_sl1New_0:Code:=((loopsIn 0 (bodyOf Try.f36)).getD 0 (0,.skip)).2
noncomputable abbrev pv_sl1New_0 (v:V_sl1New_0):S_sl1New_0.den:=pk_sl1New_0 v.1 v.2.1 v.2.2
noncomputable def ox_sl1New_0 (x0:List Int) (x3:Int) (x4:Int):Option (Ex×St):=(cond (decide (x4<((x0.length:Nat):Int))) (cond (decide (x4<(4000:Int))) (cond (decide (0≤x4∧x4<((x0.length:Nat):Int))) (some (.normal,(⟨((.t false t_sy x0)::.junk::.junk::(.t true (.int .i64) (iand .i64 (IntKind.wrap .i64 ((IntKind.wrap .i64 ((IntKind.wrap .i64 (x3*(137:Int)))+(IntKind.wrap .i64 (x0.getD x4.toNat (0:Int)))))+(11:Int))) (1073741823:Int)))::(.t true (.int .i64) (IntKind.wrap .i64 (x4+(1:Int))))::jA27),[],0,[]⟩:St))) none) (some ((.exit 0),(⟨((.t false t_sy x0)::.junk::.junk::(.t true (.int .i64) x3)::jA28),[],0,[]⟩:St)))) (some ((.exit 0),(⟨((.t false t_sy x0)::.junk::.junk::(.t true (.int .i64) x3)::jA28),[],0,[]⟩:St))))
theorem rdA_sl1New_0:RdA G1 (fun _ _=>none) 0 body_sl1New_0 S_sl1New_0 0 [] (kepts [] [(0,[0,3])]) (fun d=>ox_sl1New_0 d.1.1 d.1.2.2.2.1 d.1.2.2.2.2.1):=by
 intro d
 kernel_rfl
theorem rdB_sl1New_0:∀ d:S_sl1New_0.den,ox_sl1New_0 d.1.1 d.1.2.2.2.1 d.1.2.2.2.2.1=(sp_sl1New_0 d).opt 0 []:=by
 intro d
 kernel_rfl
noncomputable abbrev say_sl1New_0:St→Option Tree:=S_sl1New_0.say 0 [] [] (fun d=>T_sl1New_0 d.1.1 d.1.2.2.2.1 d.1.2.2.2.2.1)
theorem lw_sl1New_0:LoopWp Try.prog say_sl1New_0 body_sl1New_0:=SS.wp2 (hl0 (by kernel_rfl)) [] sp_sl1New_0 rdA_sl1New_0 rdB_sl1New_0 _ (fun d=>Runs.ofIt (step:=sp_sl1New_0) pv_sl1New_0 (ct:=ct_sl1New_0) rfl (fun v=>((relB (relB (relB rfl rfl) rfl) rfl):(st_sl1New_0 v.1 v.2.1 v.2.2).val=relS pv_sl1New_0 ct_sl1New_0 (ss_sl1New_0 v.1 v.2.1 v.2.2))) (fun a=>((cendB (cendD (by simp)) cendF):CEnd _ (ct_sl1New_0 a))) (d.1.1,d.1.2.2.2.1,d.1.2.2.2.2.1))
noncomputable def sl1New (x0:List Int):(List Int)×Int×Int:=(((it_sl1New_0 x0 (IntKind.wrap .i64 ((381381:Int)+((x0.length:Nat):Int))) (0:Int)).2.1),(0:Int),((it_sl1New_0 x0 (IntKind.wrap .i64 ((381381:Int)+((x0.length:Nat):Int))) (0:Int)).2.2))
noncomputable abbrev e_sl1New (r:(List Int)×Int×Int):AV×List AObj×List Nat:=((.ptr 0 0 1 0),[(.box [(.t false t_sy r.1),(.t true (.int .i64) r.2.1),(.t true (.int .i64) r.2.2)])],[])
noncomputable abbrev F_sl1New (r:(List Int)×Int×Int):=some (e_sl1New r)
noncomputable abbrev g_sl1New:SM_sl1New.den→AV×List AObj×List Nat:=fun d=>e_sl1New (sl1New d.1.1)
noncomputable def q_sl1New (x0:List Int):Bool:=((it_sl1New_0 x0 (IntKind.wrap .i64 ((381381:Int)+((x0.length:Nat):Int))) (0:Int)).1==0)
noncomputable abbrev pre_sl1New:SM_sl1New.den→Bool:=fun d=>q_sl1New d.1.1
noncomputable abbrev L_sl1New:Nat→St→Option Tree:=fun b=>match b with | 0=>say_sl1New_0 | _=>fun _=>none
theorem run_sl1New:RunM G1 (L_sl1New) Try.f36 SM_sl1New pre_sl1New g_sl1New:=by
 rintro ⟨⟨x0,_⟩,_⟩ hp
 change q_sl1New x0=true at hp
 unfold q_sl1New at hp
 refine Eq.trans (b:=(cond ((it_sl1New_0 x0 (IntKind.wrap .i64 ((381381:Int)+((x0.length:Nat):Int))) (0:Int)).1==0) (some (e_sl1New (((it_sl1New_0 x0 (IntKind.wrap .i64 ((381381:Int)+((x0.length:Nat):Int))) (0:Int)).2.1),(0:Int),((it_sl1New_0 x0 (IntKind.wrap .i64 ((381381:Int)+((x0.length:Nat):Int))) (0:Int)).2.2)))) none)) (by kernel_rfl) ?_
 exact (cndT hp fun _h=>rfl)
noncomputable abbrev m_sl1New:=win winIds (msum SM_sl1New pre_sl1New g_sl1New)
theorem c_sl1New:MContract Try.prog 36 m_sl1New:=(MContract.of_data G1 (by kernel_rfl) (hl1 (i:=0) (by kernel_rfl) lw_sl1New_0) _ _ _ run_sl1New).win winIds
noncomputable def S2:Tab:=Tab.add S1 36 (m_sl1New)
noncomputable def QF2:FuncId→Bool:=QF1
theorem G2:Good Try.prog tt S2 QF2:=G1.addM c_sl1New (win_local _) ⟨Try.f36,by kernel_rfl,by kernel_rfl,by kernel_rfl⟩ (by kernel_rfl)

noncomputable abbrev P_sl1Size:List PSh:=[.t t_sy,.t (.int .i64)]
noncomputable def sl1Size (a0:List Int) (a1:Int):Int:=(cond (decide ((IntKind.wrap .i64 ((3:Int)+(IntKind.wrap .i64 (Int.tdiv ((a0.length:Nat):Int) (12:Int))))) > a1)) a1 (IntKind.wrap .i64 ((3:Int)+(IntKind.wrap .i64 (Int.tdiv ((a0.length:Nat):Int) (12:Int))))))
noncomputable abbrev e_sl1Size (r:Int):AV×List AObj:=((.t true (.int .i64) r),[])
noncomputable abbrev F_sl1Size (r:Int):=some (e_sl1Size r)
noncomputable abbrev g_sl1Size:pshsDen P_sl1Size→AV×List AObj:=fun d=>e_sl1Size (sl1Size d.1 d.2.1)
noncomputable abbrev pre_sl1Size:pshsDen P_sl1Size→Bool:=fun d=>true
theorem run_sl1Size:RunP true G2 (fun _ _=>none) Try.f38 P_sl1Size pre_sl1Size g_sl1Size:=by
 rintro ⟨a0,⟨a1,_⟩⟩ hp
 refine Eq.trans (b:=(cond (decide ((IntKind.wrap .i64 ((3:Int)+(IntKind.wrap .i64 (Int.tdiv ((a0.length:Nat):Int) (12:Int))))) > a1)) (some (e_sl1Size a1)) (some (e_sl1Size (IntKind.wrap .i64 ((3:Int)+(IntKind.wrap .i64 (Int.tdiv ((a0.length:Nat):Int) (12:Int))))))))) (by kernel_rfl) ?_
 exact (cnd (F:=F_sl1Size) (fun _h=>rfl) (fun _h=>rfl))
theorem c_sl1Size:PContract Try.prog 38 (sumOf P_sl1Size pre_sl1Size g_sl1Size):=PContract.of_data true G2 (by kernel_rfl) (hl0 (by kernel_rfl)) _ _ _ run_sl1Size
noncomputable def S3:Tab:=Tab.add S2 38 (lift (sumOf P_sl1Size pre_sl1Size g_sl1Size))
noncomputable def QF3:FuncId→Bool:=qadd QF2 38
theorem G3:Good Try.prog tt S3 QF3:=G2.addQ c_sl1Size ⟨Try.f38,by kernel_rfl,by kernel_rfl,by kernel_rfl⟩ (fun _=>rfl)

noncomputable abbrev SM_sl1Byte:SS:=⟨[.ptr 0 0 1 0],[.box [.t false t_sy,.t true (.int .i64),.t true (.int .i64)]]⟩
noncomputable def sl1Byte (p0:List Int) (p1:Int) (p2:Int):Int×(List Int)×Int×Int:=(cond (decide (p1<((p0.length:Nat):Int))) (iand .i64 (IntKind.wrap .i64 ((iand .i64 (ixor .i64 (Int.fdiv (IntKind.wrap .i64 ((IntKind.wrap .i64 (p2*(6364136223846793005:Int)))+(1442695040888963407:Int))) (2 ^ (33))) (Int.fdiv (IntKind.wrap .i64 ((IntKind.wrap .i64 (p2*(6364136223846793005:Int)))+(1442695040888963407:Int))) (2 ^ (47)))) (255:Int))+(IntKind.wrap .i64 (p0.getD p1.toNat (0:Int))))) (255:Int),p0,IntKind.wrap .i64 (p1+(1:Int)),IntKind.wrap .i64 ((IntKind.wrap .i64 (p2*(6364136223846793005:Int)))+(1442695040888963407:Int))) (iand .i64 (ixor .i64 (Int.fdiv (IntKind.wrap .i64 ((IntKind.wrap .i64 (p2*(6364136223846793005:Int)))+(1442695040888963407:Int))) (2 ^ (33))) (Int.fdiv (IntKind.wrap .i64 ((IntKind.wrap .i64 (p2*(6364136223846793005:Int)))+(1442695040888963407:Int))) (2 ^ (47)))) (255:Int),p0,p1,IntKind.wrap .i64 ((IntKind.wrap .i64 (p2*(6364136223846793005:Int)))+(1442695040888963407:Int))))
noncomputable abbrev e_sl1Byte (r:Int×(List Int)×Int×Int):AV×List AObj×List Nat:=((.t true (.int .i64) r.1),[(.box [(.t false t_sy r.2.1),(.t true (.int .i64) r.2.2.1),(.t true (.int .i64) r.2.2.2)])],[])
noncomputable abbrev F_sl1Byte (r:Int×(List Int)×Int×Int):=some (e_sl1Byte r)
noncomputable abbrev g_sl1Byte:SM_sl1Byte.den→AV×List AObj×List Nat:=fun d=>e_sl1Byte (sl1Byte d.2.1.1 d.2.1.2.1 d.2.1.2.2.1)
noncomputable def q_sl1Byte (p0:List Int) (p1:Int) (p2:Int):Bool:=cond (decide (p1<((p0.length:Nat):Int))) (decide (0≤p1∧p1<((p0.length:Nat):Int))) true
noncomputable abbrev pre_sl1Byte:SM_sl1Byte.den→Bool:=fun d=>q_sl1Byte d.2.1.1 d.2.1.2.1 d.2.1.2.2.1
theorem run_sl1Byte:RunM G3 (fun _ _=>none) Try.f102 SM_sl1Byte pre_sl1Byte g_sl1Byte:=by
 rintro ⟨⟨_,_⟩,⟨⟨p0,p1,p2,_⟩,_⟩⟩ hp
 change q_sl1Byte p0 p1 p2=true at hp
 unfold q_sl1Byte at hp
 refine Eq.trans (b:=(cond (decide (p1<((p0.length:Nat):Int))) (cond (decide (0≤p1∧p1<((p0.length:Nat):Int))) (some (e_sl1Byte (iand .i64 (IntKind.wrap .i64 ((iand .i64 (ixor .i64 (Int.fdiv (IntKind.wrap .i64 ((IntKind.wrap .i64 (p2*(6364136223846793005:Int)))+(1442695040888963407:Int))) (2 ^ (33))) (Int.fdiv (IntKind.wrap .i64 ((IntKind.wrap .i64 (p2*(6364136223846793005:Int)))+(1442695040888963407:Int))) (2 ^ (47)))) (255:Int))+(IntKind.wrap .i64 (p0.getD p1.toNat (0:Int))))) (255:Int),p0,IntKind.wrap .i64 (p1+(1:Int)),IntKind.wrap .i64 ((IntKind.wrap .i64 (p2*(6364136223846793005:Int)))+(1442695040888963407:Int))))) none) (some (e_sl1Byte (iand .i64 (ixor .i64 (Int.fdiv (IntKind.wrap .i64 ((IntKind.wrap .i64 (p2*(6364136223846793005:Int)))+(1442695040888963407:Int))) (2 ^ (33))) (Int.fdiv (IntKind.wrap .i64 ((IntKind.wrap .i64 (p2*(6364136223846793005:Int)))+(1442695040888963407:Int))) (2 ^ (47)))) (255:Int),p0,p1,IntKind.wrap .i64 ((IntKind.wrap .i64 (p2*(6364136223846793005:Int)))+(1442695040888963407:Int))))))) (by kernel_rfl) ?_
 exact (cndQ (F:=F_sl1Byte) hp (fun hp=>(cndT hp fun _h=>rfl)) (fun hp=>rfl))
noncomputable abbrev m_sl1Byte:=win winIds (msum SM_sl1Byte pre_sl1Byte g_sl1Byte)
theorem c_sl1Byte:MContract Try.prog 102 m_sl1Byte:=(MContract.of_data G3 (by kernel_rfl) (hl0 (by kernel_rfl)) _ _ _ run_sl1Byte).win winIds
noncomputable def S4:Tab:=Tab.add S3 102 (m_sl1Byte)
noncomputable def QF4:FuncId→Bool:=QF3
theorem G4:Good Try.prog tt S4 QF4:=G3.addM c_sl1Byte (win_local _) ⟨Try.f102,by kernel_rfl,by kernel_rfl,by kernel_rfl⟩ (by kernel_rfl)

noncomputable abbrev SM_sl1Below:SS:=⟨[.ptr 0 0 1 0,.t true (.int .i64)],[.box [.t false t_sy,.t true (.int .i64),.t true (.int .i64)]]⟩
noncomputable def k1_sl1Below (p0:List Int) (p1:Int) (p2:Int):=sl1Byte ((sl1Byte p0 p1 p2).2.1) ((sl1Byte p0 p1 p2).2.2.1) ((sl1Byte p0 p1 p2).2.2.2)
noncomputable def k2_sl1Below (p0:List Int) (p1:Int) (p2:Int):=sl1Byte ((k1_sl1Below p0 p1 p2).2.1) ((k1_sl1Below p0 p1 p2).2.2.1) ((k1_sl1Below p0 p1 p2).2.2.2)
noncomputable def sl1Below (x1:Int) (p0:List Int) (p1:Int) (p2:Int):Int×(List Int)×Int×Int:=(cond (decide (x1≤(0:Int))) ((0:Int),p0,p1,p2) (cond (decide (x1≤(256:Int))) (Int.tmod ((sl1Byte p0 p1 p2).1) x1,((sl1Byte p0 p1 p2).2.1),((sl1Byte p0 p1 p2).2.2.1),((sl1Byte p0 p1 p2).2.2.2)) (Int.tmod (IntKind.wrap .i64 ((IntKind.wrap .i64 ((IntKind.wrap .i64 (((sl1Byte p0 p1 p2).1)*(65536:Int)))+(IntKind.wrap .i64 (((k1_sl1Below p0 p1 p2).1)*(256:Int)))))+((k2_sl1Below p0 p1 p2).1))) x1,((k2_sl1Below p0 p1 p2).2.1),((k2_sl1Below p0 p1 p2).2.2.1),((k2_sl1Below p0 p1 p2).2.2.2))))
noncomputable abbrev e_sl1Below (r:Int×(List Int)×Int×Int):AV×List AObj×List Nat:=((.t true (.int .i64) r.1),[(.box [(.t false t_sy r.2.1),(.t true (.int .i64) r.2.2.1),(.t true (.int .i64) r.2.2.2)])],[])
noncomputable abbrev F_sl1Below (r:Int×(List Int)×Int×Int):=some (e_sl1Below r)
noncomputable abbrev g_sl1Below:SM_sl1Below.den→AV×List AObj×List Nat:=fun d=>e_sl1Below (sl1Below d.1.2.1 d.2.1.1 d.2.1.2.1 d.2.1.2.2.1)
noncomputable def q_sl1Below (x1:Int) (p0:List Int) (p1:Int) (p2:Int):Bool:=cond (decide (x1≤(0:Int))) true (cond (decide (x1≤(256:Int))) ((q_sl1Byte p0 p1 p2)&&(decide (x1 ≠ 0))) ((q_sl1Byte p0 p1 p2)&&((q_sl1Byte ((sl1Byte p0 p1 p2).2.1) ((sl1Byte p0 p1 p2).2.2.1) ((sl1Byte p0 p1 p2).2.2.2))&&((q_sl1Byte ((k1_sl1Below p0 p1 p2).2.1) ((k1_sl1Below p0 p1 p2).2.2.1) ((k1_sl1Below p0 p1 p2).2.2.2))&&(decide (x1 ≠ 0))))))
noncomputable abbrev pre_sl1Below:SM_sl1Below.den→Bool:=fun d=>q_sl1Below d.1.2.1 d.2.1.1 d.2.1.2.1 d.2.1.2.2.1
theorem run_sl1Below:RunM G4 (fun _ _=>none) Try.f61 SM_sl1Below pre_sl1Below g_sl1Below:=by
 rintro ⟨⟨_,x1,_⟩,⟨⟨p0,p1,p2,_⟩,_⟩⟩ hp
 change q_sl1Below x1 p0 p1 p2=true at hp
 unfold q_sl1Below at hp
 refine Eq.trans (b:=(cond (decide (x1≤(0:Int))) (some (e_sl1Below ((0:Int),p0,p1,p2))) (cond (decide (x1≤(256:Int))) (cond (q_sl1Byte p0 p1 p2) (cond (decide (x1 ≠ 0)) (some (e_sl1Below (Int.tmod ((sl1Byte p0 p1 p2).1) x1,((sl1Byte p0 p1 p2).2.1),((sl1Byte p0 p1 p2).2.2.1),((sl1Byte p0 p1 p2).2.2.2)))) none) none) (cond (q_sl1Byte p0 p1 p2) (cond (q_sl1Byte ((sl1Byte p0 p1 p2).2.1) ((sl1Byte p0 p1 p2).2.2.1) ((sl1Byte p0 p1 p2).2.2.2)) (cond (q_sl1Byte ((k1_sl1Below p0 p1 p2).2.1) ((k1_sl1Below p0 p1 p2).2.2.1) ((k1_sl1Below p0 p1 p2).2.2.2)) (cond (decide (x1 ≠ 0)) (some (e_sl1Below (Int.tmod (IntKind.wrap .i64 ((IntKind.wrap .i64 ((IntKind.wrap .i64 (((sl1Byte p0 p1 p2).1)*(65536:Int)))+(IntKind.wrap .i64 (((k1_sl1Below p0 p1 p2).1)*(256:Int)))))+((k2_sl1Below p0 p1 p2).1))) x1,((k2_sl1Below p0 p1 p2).2.1),((k2_sl1Below p0 p1 p2).2.2.1),((k2_sl1Below p0 p1 p2).2.2.2)))) none) none) none) none)))) (by kernel_rfl) ?_
 exact (cndQ (F:=F_sl1Below) hp (fun hp=>rfl) (fun hp=>(cndQ (F:=F_sl1Below) hp (fun hp=>(cndA hp fun hp=>(cndT hp fun _h=>rfl))) (fun hp=>(cndA hp fun hp=>(cndA hp fun hp=>(cndA hp fun hp=>(cndT hp fun _h=>rfl))))))))
noncomputable abbrev m_sl1Below:=win winIds (msum SM_sl1Below pre_sl1Below g_sl1Below)
theorem c_sl1Below:MContract Try.prog 61 m_sl1Below:=(MContract.of_data G4 (by kernel_rfl) (hl0 (by kernel_rfl)) _ _ _ run_sl1Below).win winIds
noncomputable def S5:Tab:=Tab.add S4 61 (m_sl1Below)
noncomputable def QF5:FuncId→Bool:=QF4
theorem G5:Good Try.prog tt S5 QF5:=G4.addM c_sl1Below (win_local _) ⟨Try.f61,by kernel_rfl,by kernel_rfl,by kernel_rfl⟩ (by kernel_rfl)

noncomputable abbrev P_sl1In:List PSh:=[.t (.int .i64),.t (.int .i64),.t (.int .i64)]
noncomputable def sl1In (a0:Int) (a1:Int) (a2:Int):Bool:=(cond (decide (a0 ≥ a1)) (decide (a0≤a2)) false)
noncomputable abbrev e_sl1In (r:Bool):AV×List AObj:=((.t true .bool r),[])
noncomputable abbrev F_sl1In (r:Bool):=some (e_sl1In r)
noncomputable abbrev g_sl1In:pshsDen P_sl1In→AV×List AObj:=fun d=>e_sl1In (sl1In d.1 d.2.1 d.2.2.1)
noncomputable abbrev pre_sl1In:pshsDen P_sl1In→Bool:=fun d=>true
theorem run_sl1In:RunP true G5 (fun _ _=>none) Try.f51 P_sl1In pre_sl1In g_sl1In:=by
 rintro ⟨a0,⟨a1,⟨a2,_⟩⟩⟩ hp
 refine Eq.trans (b:=(cond (decide (a0 ≥ a1)) (some (e_sl1In (decide (a0≤a2)))) (some (e_sl1In false)))) (by kernel_rfl) ?_
 exact (cnd (F:=F_sl1In) (fun _h=>rfl) (fun _h=>rfl))
theorem c_sl1In:PContract Try.prog 51 (sumOf P_sl1In pre_sl1In g_sl1In):=PContract.of_data true G5 (by kernel_rfl) (hl0 (by kernel_rfl)) _ _ _ run_sl1In
noncomputable def S6:Tab:=Tab.add S5 51 (lift (sumOf P_sl1In pre_sl1In g_sl1In))
noncomputable def QF6:FuncId→Bool:=qadd QF5 51
theorem G6:Good Try.prog tt S6 QF6:=G5.addQ c_sl1In ⟨Try.f51,by kernel_rfl,by kernel_rfl,by kernel_rfl⟩ (fun _=>rfl)

noncomputable abbrev Lq1:=List (Int×Int×List (Int×ByteArray×ByteArray))
noncomputable abbrev LBBe:=List (ByteArray×ByteArray)
noncomputable abbrev t_ptt:Ty:=.pair .str .str
noncomputable abbrev P_sShardNew:List PSh:=[.t (.int .i64)]
noncomputable def sShardNew (a0:Int):Int×Int×(Lq1)×(LBBe)×Lq1:=(cond (!(sl1In a0 (0:Int) (7:Int))) ((0:Int),(0:Int),([]:Lq1),([]:LBBe),([]:Lq1)) (a0,(0:Int),([]:Lq1),([]:LBBe),([]:Lq1)))
noncomputable abbrev e_sShardNew (r:Int×Int×(Lq1)×(LBBe)×Lq1):AV×List AObj:=((.agg [(.t true (.int .i64) r.1),(.all 0 3),(.t true (.int .i64) r.2.1),(.all 1 2),(.all 2 3)]),[(.rows 32 true tq4 r.2.2.1),(.rows 70 true t_ptt r.2.2.2.1),(.rows 32 true tq4 r.2.2.2.2)])
noncomputable abbrev F_sShardNew (r:Int×Int×(Lq1)×(LBBe)×Lq1):=some (e_sShardNew r)
noncomputable abbrev g_sShardNew:pshsDen P_sShardNew→AV×List AObj:=fun d=>e_sShardNew (sShardNew d.1)
noncomputable abbrev pre_sShardNew:pshsDen P_sShardNew→Bool:=fun d=>true
theorem run_sShardNew:RunP false G6 (fun _ _=>none) Try.f77 P_sShardNew pre_sShardNew g_sShardNew:=by
 rintro ⟨a0,_⟩ hp
 refine Eq.trans (b:=(cond (!(sl1In a0 (0:Int) (7:Int))) (some (e_sShardNew ((0:Int),(0:Int),([]:Lq1),([]:LBBe),([]:Lq1)))) (some (e_sShardNew (a0,(0:Int),([]:Lq1),([]:LBBe),([]:Lq1)))))) (by kernel_rfl) ?_
 exact (cnd (F:=F_sShardNew) (fun _h=>rfl) (fun _h=>rfl))
theorem c_sShardNew:PContract Try.prog 77 (sumOf P_sShardNew pre_sShardNew g_sShardNew):=PContract.of_data false G6 (by kernel_rfl) (hl0 (by kernel_rfl)) _ _ _ run_sShardNew
noncomputable def S7:Tab:=Tab.add S6 77 (lift (sumOf P_sShardNew pre_sShardNew g_sShardNew))
noncomputable def QF7:FuncId→Bool:=QF6
theorem G7:Good Try.prog tt S7 QF7:=G6.add c_sShardNew ⟨Try.f77,by kernel_rfl,by kernel_rfl,by kernel_rfl⟩ (by kernel_rfl)

noncomputable abbrev SM_sl1Int:SS:=⟨[.ptr 0 0 1 0,.all 1 1],[.box [.t false t_sy,.t true (.int .i64),.t true (.int .i64)],.rows 3 true (.int .i64)]⟩
noncomputable def sl1Int (p0:List Int) (p1:Int) (p2:Int) (h1:List Int):Int×(List Int)×Int×Int×List Int:=(h1.getD (((sl1Below ((h1.length:Nat):Int) p0 p1 p2).1).toNat) (0:Int),((sl1Below ((h1.length:Nat):Int) p0 p1 p2).2.1),((sl1Below ((h1.length:Nat):Int) p0 p1 p2).2.2.1),((sl1Below ((h1.length:Nat):Int) p0 p1 p2).2.2.2),h1)
noncomputable abbrev e_sl1Int (r:Int×(List Int)×Int×Int×List Int):AV×List AObj×List Nat:=((.t true (.int .i64) r.1),[(.box [(.t false t_sy r.2.1),(.t true (.int .i64) r.2.2.1),(.t true (.int .i64) r.2.2.2.1)]),(.rows 3 true (.int .i64) r.2.2.2.2)],[])
noncomputable abbrev F_sl1Int (r:Int×(List Int)×Int×Int×List Int):=some (e_sl1Int r)
noncomputable abbrev g_sl1Int:SM_sl1Int.den→AV×List AObj×List Nat:=fun d=>e_sl1Int (sl1Int d.2.1.1 d.2.1.2.1 d.2.1.2.2.1 d.2.2.1)
noncomputable def q_sl1Int (p0:List Int) (p1:Int) (p2:Int) (h1:List Int):Bool:=(q_sl1Below ((h1.length:Nat):Int) p0 p1 p2)&&(decide (0≤((sl1Below ((h1.length:Nat):Int) p0 p1 p2).1)∧((sl1Below ((h1.length:Nat):Int) p0 p1 p2).1)<((h1.length:Nat):Int)))
noncomputable abbrev pre_sl1Int:SM_sl1Int.den→Bool:=fun d=>q_sl1Int d.2.1.1 d.2.1.2.1 d.2.1.2.2.1 d.2.2.1
theorem run_sl1Int:RunM G7 (fun _ _=>none) Try.f50 SM_sl1Int pre_sl1Int g_sl1Int:=by
 rintro ⟨⟨_,_,_⟩,⟨⟨p0,p1,p2,_⟩,h1,_⟩⟩ hp
 change q_sl1Int p0 p1 p2 h1=true at hp
 unfold q_sl1Int at hp
 refine Eq.trans (b:=(cond (q_sl1Below ((h1.length:Nat):Int) p0 p1 p2) (cond (decide (0≤((sl1Below ((h1.length:Nat):Int) p0 p1 p2).1)∧((sl1Below ((h1.length:Nat):Int) p0 p1 p2).1)<((h1.length:Nat):Int))) (some (e_sl1Int (h1.getD (((sl1Below ((h1.length:Nat):Int) p0 p1 p2).1).toNat) (0:Int),((sl1Below ((h1.length:Nat):Int) p0 p1 p2).2.1),((sl1Below ((h1.length:Nat):Int) p0 p1 p2).2.2.1),((sl1Below ((h1.length:Nat):Int) p0 p1 p2).2.2.2),h1))) none) none)) (by kernel_rfl) ?_
 exact (cndA hp fun hp=>(cndT hp fun _h=>rfl))
noncomputable abbrev m_sl1Int:=win winIds (msum SM_sl1Int pre_sl1Int g_sl1Int)
theorem c_sl1Int:MContract Try.prog 50 m_sl1Int:=(MContract.of_data G7 (by kernel_rfl) (hl0 (by kernel_rfl)) _ _ _ run_sl1Int).win winIds
noncomputable def S8:Tab:=Tab.add S7 50 (m_sl1Int)
noncomputable def QF8:FuncId→Bool:=QF7
theorem G8:Good Try.prog tt S8 QF8:=G7.addM c_sl1Int (win_local _) ⟨Try.f50,by kernel_rfl,by kernel_rfl,by kernel_rfl⟩ (by kernel_rfl)

noncomputable abbrev SM_sl1Str:SS:=⟨[.ptr 0 0 1 0,.all 1 1],[.box [.t false t_sy,.t true (.int .i64),.t true (.int .i64)],.rows 9 true .str]⟩
noncomputable def sl1Str (p0:List Int) (p1:Int) (p2:Int) (h1:List ByteArray):ByteArray×(List Int)×Int×Int×List ByteArray:=(h1.getD (((sl1Below ((h1.length:Nat):Int) p0 p1 p2).1).toNat) bE,((sl1Below ((h1.length:Nat):Int) p0 p1 p2).2.1),((sl1Below ((h1.length:Nat):Int) p0 p1 p2).2.2.1),((sl1Below ((h1.length:Nat):Int) p0 p1 p2).2.2.2),h1)
noncomputable abbrev e_sl1Str (r:ByteArray×(List Int)×Int×Int×List ByteArray):AV×List AObj×List Nat:=((.t true .str r.1),[(.box [(.t false t_sy r.2.1),(.t true (.int .i64) r.2.2.1),(.t true (.int .i64) r.2.2.2.1)]),(.rows 9 true .str r.2.2.2.2)],[])
noncomputable abbrev F_sl1Str (r:ByteArray×(List Int)×Int×Int×List ByteArray):=some (e_sl1Str r)
noncomputable abbrev g_sl1Str:SM_sl1Str.den→AV×List AObj×List Nat:=fun d=>e_sl1Str (sl1Str d.2.1.1 d.2.1.2.1 d.2.1.2.2.1 d.2.2.1)
noncomputable def q_sl1Str (p0:List Int) (p1:Int) (p2:Int) (h1:List ByteArray):Bool:=(q_sl1Below ((h1.length:Nat):Int) p0 p1 p2)&&(decide (0≤((sl1Below ((h1.length:Nat):Int) p0 p1 p2).1)∧((sl1Below ((h1.length:Nat):Int) p0 p1 p2).1)<((h1.length:Nat):Int)))
noncomputable abbrev pre_sl1Str:SM_sl1Str.den→Bool:=fun d=>q_sl1Str d.2.1.1 d.2.1.2.1 d.2.1.2.2.1 d.2.2.1
theorem run_sl1Str:RunM G8 (fun _ _=>none) Try.f127 SM_sl1Str pre_sl1Str g_sl1Str:=by
 rintro ⟨⟨_,_,_⟩,⟨⟨p0,p1,p2,_⟩,h1,_⟩⟩ hp
 change q_sl1Str p0 p1 p2 h1=true at hp
 unfold q_sl1Str at hp
 refine Eq.trans (b:=(cond (q_sl1Below ((h1.length:Nat):Int) p0 p1 p2) (cond (decide (0≤((sl1Below ((h1.length:Nat):Int) p0 p1 p2).1)∧((sl1Below ((h1.length:Nat):Int) p0 p1 p2).1)<((h1.length:Nat):Int))) (some (e_sl1Str (h1.getD (((sl1Below ((h1.length:Nat):Int) p0 p1 p2).1).toNat) (⟨#[]⟩:ByteArray),((sl1Below ((h1.length:Nat):Int) p0 p1 p2).2.1),((sl1Below ((h1.length:Nat):Int) p0 p1 p2).2.2.1),((sl1Below ((h1.length:Nat):Int) p0 p1 p2).2.2.2),h1))) none) none)) (by kernel_rfl) ?_
 exact (cndA hp fun hp=>(cndT hp fun _h=>rfl))
noncomputable abbrev m_sl1Str:=win winIds (msum SM_sl1Str pre_sl1Str g_sl1Str)
theorem c_sl1Str:MContract Try.prog 127 m_sl1Str:=(MContract.of_data G8 (by kernel_rfl) (hl0 (by kernel_rfl)) _ _ _ run_sl1Str).win winIds
noncomputable def S9:Tab:=Tab.add S8 127 (m_sl1Str)
noncomputable def QF9:FuncId→Bool:=QF8
theorem G9:Good Try.prog tt S9 QF9:=G8.addM c_sl1Str (win_local _) ⟨Try.f127,by kernel_rfl,by kernel_rfl,by kernel_rfl⟩ (by kernel_rfl)

noncomputable abbrev SM_sl3Key:SS:=⟨[.ptr 0 0 1 0],[.box [.t false t_sy,.t true (.int .i64),.t true (.int .i64)]]⟩
noncomputable def k1_sl3Key (p0:List Int) (p1:Int) (p2:Int):=sl1Str p0 p1 p2 ([(⟨#[97]⟩:ByteArray),(⟨#[98]⟩:ByteArray),(⟨#[99]⟩:ByteArray),(⟨#[107,49]⟩:ByteArray),(⟨#[107,50]⟩:ByteArray),(⟨#[109]⟩:ByteArray),(⟨#[122]⟩:ByteArray)])
noncomputable def sl3Key (p0:List Int) (p1:Int) (p2:Int):ByteArray×(List Int)×Int×Int:=(((k1_sl3Key p0 p1 p2).1),((k1_sl3Key p0 p1 p2).2.1),((k1_sl3Key p0 p1 p2).2.2.1),((k1_sl3Key p0 p1 p2).2.2.2.1))
noncomputable abbrev e_sl3Key (r:ByteArray×(List Int)×Int×Int):AV×List AObj×List Nat:=((.t true .str r.1),[(.box [(.t false t_sy r.2.1),(.t true (.int .i64) r.2.2.1),(.t true (.int .i64) r.2.2.2)])],[])
noncomputable abbrev F_sl3Key (r:ByteArray×(List Int)×Int×Int):=some (e_sl3Key r)
noncomputable abbrev g_sl3Key:SM_sl3Key.den→AV×List AObj×List Nat:=fun d=>e_sl3Key (sl3Key d.2.1.1 d.2.1.2.1 d.2.1.2.2.1)
noncomputable def q_sl3Key (p0:List Int) (p1:Int) (p2:Int):Bool:=q_sl1Str p0 p1 p2 ([(⟨#[97]⟩:ByteArray),(⟨#[98]⟩:ByteArray),(⟨#[99]⟩:ByteArray),(⟨#[107,49]⟩:ByteArray),(⟨#[107,50]⟩:ByteArray),(⟨#[109]⟩:ByteArray),(⟨#[122]⟩:ByteArray)])
noncomputable abbrev pre_sl3Key:SM_sl3Key.den→Bool:=fun d=>q_sl3Key d.2.1.1 d.2.1.2.1 d.2.1.2.2.1
theorem run_sl3Key:RunM G9 (fun _ _=>none) Try.f126 SM_sl3Key pre_sl3Key g_sl3Key:=by
 rintro ⟨⟨_,_⟩,⟨⟨p0,p1,p2,_⟩,_⟩⟩ hp
 change q_sl3Key p0 p1 p2=true at hp
 unfold q_sl3Key at hp
 refine Eq.trans (b:=(cond (q_sl1Str p0 p1 p2 ([(⟨#[97]⟩:ByteArray),(⟨#[98]⟩:ByteArray),(⟨#[99]⟩:ByteArray),(⟨#[107,49]⟩:ByteArray),(⟨#[107,50]⟩:ByteArray),(⟨#[109]⟩:ByteArray),(⟨#[122]⟩:ByteArray)])) (some (e_sl3Key (((k1_sl3Key p0 p1 p2).1),((k1_sl3Key p0 p1 p2).2.1),((k1_sl3Key p0 p1 p2).2.2.1),((k1_sl3Key p0 p1 p2).2.2.2.1)))) none)) (by kernel_rfl) ?_
 exact (cndT hp fun _h=>rfl)
noncomputable abbrev m_sl3Key:=win winIds (msum SM_sl3Key pre_sl3Key g_sl3Key)
theorem c_sl3Key:MContract Try.prog 126 m_sl3Key:=(MContract.of_data G9 (by kernel_rfl) (hl0 (by kernel_rfl)) _ _ _ run_sl3Key).win winIds
noncomputable def S10:Tab:=Tab.add S9 126 (m_sl3Key)
noncomputable def QF10:FuncId→Bool:=QF9
theorem G10:Good Try.prog tt S10 QF10:=G9.addM c_sl3Key (win_local _) ⟨Try.f126,by kernel_rfl,by kernel_rfl,by kernel_rfl⟩ (by kernel_rfl)

noncomputable abbrev SM_sl7Op1:SS:=⟨[.ptr 0 0 1 0],[.box [.t false t_sy,.t true (.int .i64),.t true (.int .i64)]]⟩
noncomputable def k1_sl7Op1 (p0:List Int) (p1:Int) (p2:Int):=sl3Key ((sl1Int p0 p1 p2 [(1:Int),(1:Int),(1:Int),(2:Int),(3:Int)]).2.1) ((sl1Int p0 p1 p2 [(1:Int),(1:Int),(1:Int),(2:Int),(3:Int)]).2.2.1) ((sl1Int p0 p1 p2 [(1:Int),(1:Int),(1:Int),(2:Int),(3:Int)]).2.2.2.1)
noncomputable def k2_sl7Op1 (p0:List Int) (p1:Int) (p2:Int):=sl1Str ((k1_sl7Op1 p0 p1 p2).2.1) ((k1_sl7Op1 p0 p1 p2).2.2.1) ((k1_sl7Op1 p0 p1 p2).2.2.2) ([(⟨#[49]⟩:ByteArray),(⟨#[50]⟩:ByteArray),(⟨#[120]⟩:ByteArray),bE,(⟨#[49]⟩:ByteArray)])
noncomputable def sl7Op1 (p0:List Int) (p1:Int) (p2:Int):Int×ByteArray×ByteArray×(List Int)×Int×Int×Int×ByteArray×ByteArray:=(cond (((sl1Int p0 p1 p2 [(1:Int),(1:Int),(1:Int),(2:Int),(3:Int)]).1) != (2:Int)) (((sl1Int p0 p1 p2 [(1:Int),(1:Int),(1:Int),(2:Int),(3:Int)]).1),((k1_sl7Op1 p0 p1 p2).1),((k2_sl7Op1 p0 p1 p2).1),((k2_sl7Op1 p0 p1 p2).2.1),((k2_sl7Op1 p0 p1 p2).2.2.1),((k2_sl7Op1 p0 p1 p2).2.2.2.1),((sl1Int p0 p1 p2 [(1:Int),(1:Int),(1:Int),(2:Int),(3:Int)]).1),((k1_sl7Op1 p0 p1 p2).1),((k2_sl7Op1 p0 p1 p2).1)) (((sl1Int p0 p1 p2 [(1:Int),(1:Int),(1:Int),(2:Int),(3:Int)]).1),((k1_sl7Op1 p0 p1 p2).1),bE,((k1_sl7Op1 p0 p1 p2).2.1),((k1_sl7Op1 p0 p1 p2).2.2.1),((k1_sl7Op1 p0 p1 p2).2.2.2),((sl1Int p0 p1 p2 [(1:Int),(1:Int),(1:Int),(2:Int),(3:Int)]).1),((k1_sl7Op1 p0 p1 p2).1),bE))
noncomputable abbrev e_sl7Op1 (r:Int×ByteArray×ByteArray×(List Int)×Int×Int×Int×ByteArray×ByteArray):AV×List AObj×List Nat:=((.agg [(.t true (.int .i64) r.1),(.t true .str r.2.1),(.t true .str r.2.2.1)]),[(.box [(.t false t_sy r.2.2.2.1),(.t true (.int .i64) r.2.2.2.2.1),(.t true (.int .i64) r.2.2.2.2.2.1)]),(.box [(.t true (.int .i64) r.2.2.2.2.2.2.1),(.t true .str r.2.2.2.2.2.2.2.1),(.t true .str r.2.2.2.2.2.2.2.2)])],[])
noncomputable abbrev F_sl7Op1 (r:Int×ByteArray×ByteArray×(List Int)×Int×Int×Int×ByteArray×ByteArray):=some (e_sl7Op1 r)
noncomputable abbrev g_sl7Op1:SM_sl7Op1.den→AV×List AObj×List Nat:=fun d=>e_sl7Op1 (sl7Op1 d.2.1.1 d.2.1.2.1 d.2.1.2.2.1)
noncomputable def q_sl7Op1 (p0:List Int) (p1:Int) (p2:Int):Bool:=(q_sl1Int p0 p1 p2 [(1:Int),(1:Int),(1:Int),(2:Int),(3:Int)])&&((q_sl3Key ((sl1Int p0 p1 p2 [(1:Int),(1:Int),(1:Int),(2:Int),(3:Int)]).2.1) ((sl1Int p0 p1 p2 [(1:Int),(1:Int),(1:Int),(2:Int),(3:Int)]).2.2.1) ((sl1Int p0 p1 p2 [(1:Int),(1:Int),(1:Int),(2:Int),(3:Int)]).2.2.2.1))&&(cond (((sl1Int p0 p1 p2 [(1:Int),(1:Int),(1:Int),(2:Int),(3:Int)]).1) != (2:Int)) (q_sl1Str ((k1_sl7Op1 p0 p1 p2).2.1) ((k1_sl7Op1 p0 p1 p2).2.2.1) ((k1_sl7Op1 p0 p1 p2).2.2.2) ([(⟨#[49]⟩:ByteArray),(⟨#[50]⟩:ByteArray),(⟨#[120]⟩:ByteArray),bE,(⟨#[49]⟩:ByteArray)])) true))
noncomputable abbrev pre_sl7Op1:SM_sl7Op1.den→Bool:=fun d=>q_sl7Op1 d.2.1.1 d.2.1.2.1 d.2.1.2.2.1
theorem run_sl7Op1:RunM G10 (fun _ _=>none) Try.f89 SM_sl7Op1 pre_sl7Op1 g_sl7Op1:=by
 rintro ⟨⟨_,_⟩,⟨⟨p0,p1,p2,_⟩,_⟩⟩ hp
 change q_sl7Op1 p0 p1 p2=true at hp
 unfold q_sl7Op1 at hp
 refine Eq.trans (b:=(cond (q_sl1Int p0 p1 p2 [(1:Int),(1:Int),(1:Int),(2:Int),(3:Int)]) (cond (q_sl3Key ((sl1Int p0 p1 p2 [(1:Int),(1:Int),(1:Int),(2:Int),(3:Int)]).2.1) ((sl1Int p0 p1 p2 [(1:Int),(1:Int),(1:Int),(2:Int),(3:Int)]).2.2.1) ((sl1Int p0 p1 p2 [(1:Int),(1:Int),(1:Int),(2:Int),(3:Int)]).2.2.2.1)) (cond (((sl1Int p0 p1 p2 [(1:Int),(1:Int),(1:Int),(2:Int),(3:Int)]).1) != (2:Int)) (cond (q_sl1Str ((k1_sl7Op1 p0 p1 p2).2.1) ((k1_sl7Op1 p0 p1 p2).2.2.1) ((k1_sl7Op1 p0 p1 p2).2.2.2) ([(⟨#[49]⟩:ByteArray),(⟨#[50]⟩:ByteArray),(⟨#[120]⟩:ByteArray),(⟨#[]⟩:ByteArray),(⟨#[49]⟩:ByteArray)])) (some (e_sl7Op1 (((sl1Int p0 p1 p2 [(1:Int),(1:Int),(1:Int),(2:Int),(3:Int)]).1),((k1_sl7Op1 p0 p1 p2).1),((k2_sl7Op1 p0 p1 p2).1),((k2_sl7Op1 p0 p1 p2).2.1),((k2_sl7Op1 p0 p1 p2).2.2.1),((k2_sl7Op1 p0 p1 p2).2.2.2.1),((sl1Int p0 p1 p2 [(1:Int),(1:Int),(1:Int),(2:Int),(3:Int)]).1),((k1_sl7Op1 p0 p1 p2).1),((k2_sl7Op1 p0 p1 p2).1)))) none) (some (e_sl7Op1 (((sl1Int p0 p1 p2 [(1:Int),(1:Int),(1:Int),(2:Int),(3:Int)]).1),((k1_sl7Op1 p0 p1 p2).1),(⟨#[]⟩:ByteArray),((k1_sl7Op1 p0 p1 p2).2.1),((k1_sl7Op1 p0 p1 p2).2.2.1),((k1_sl7Op1 p0 p1 p2).2.2.2),((sl1Int p0 p1 p2 [(1:Int),(1:Int),(1:Int),(2:Int),(3:Int)]).1),((k1_sl7Op1 p0 p1 p2).1),(⟨#[]⟩:ByteArray))))) none) none)) (by kernel_rfl) ?_
 exact (cndA hp fun hp=>(cndA hp fun hp=>(cndQ (F:=F_sl7Op1) hp (fun hp=>(cndT hp fun _h=>rfl)) (fun hp=>rfl))))
noncomputable abbrev m_sl7Op1:=win winIds (msum SM_sl7Op1 pre_sl7Op1 g_sl7Op1)
theorem c_sl7Op1:MContract Try.prog 89 m_sl7Op1:=(MContract.of_data G10 (by kernel_rfl) (hl0 (by kernel_rfl)) _ _ _ run_sl7Op1).win winIds
noncomputable def S11:Tab:=Tab.add S10 89 (m_sl7Op1)
noncomputable def QF11:FuncId→Bool:=QF10
theorem G11:Good Try.prog tt S11 QF11:=G10.addM c_sl7Op1 (win_local _) ⟨Try.f89,by kernel_rfl,by kernel_rfl,by kernel_rfl⟩ (by kernel_rfl)

noncomputable abbrev jS45:List Sh:=.junk::.junk::.junk::.junk::.junk::.junk::.junk::.junk::.junk::.junk::.junk::.junk::.junk::.junk::.junk::.junk::.junk::jS28
noncomputable abbrev tq7:Ty:=.pair (.int .i64) (.pair .str .str)
noncomputable abbrev jS46:List Sh:=.junk::jS45
noncomputable abbrev u46:=((),(),(),(),(),(),(),(),(),(),(),(),(),(),(),(),(),u29)
noncomputable abbrev u47:=((),u46)
noncomputable abbrev jA45:List AV:=.junk::.junk::.junk::.junk::.junk::.junk::.junk::.junk::.junk::.junk::.junk::.junk::.junk::.junk::.junk::.junk::.junk::jA28
noncomputable abbrev jA46:List AV:=.junk::jA45
noncomputable abbrev P_sl7One:List PSh:=[.t tq5,.agg [(.int .i64),.str,.str]]
noncomputable abbrev S_sl7One_0:SS:=⟨(.t false tq5::.junk::.junk::.ptr 0 0 1 0::.junk::.all 1 3::.t true .bool::.t true (.int .i64)::jS45),[.box [.t true (.int .i64),.t true .str,.t true .str],.rows 85 true tq7]⟩
noncomputable abbrev E_sl7One_0_0:SS:=⟨(.junk::.junk::.junk::.ptr 0 0 1 0::.junk::.all 1 3::.t true .bool::jS46),[.box [.t true (.int .i64),.t true .str,.t true .str],.rows 85 true tq7]⟩
noncomputable def st_sl7One_0 (x0:Lq2) (x6:Bool) (x7:Int) (p0:Int) (p1:ByteArray) (p2:ByteArray) (h1:Lq2):RT S_sl7One_0.den:=(.br (decide (x7<((x0.length:Nat):Int))) (.br (!x6) (.br (decide (0≤x7∧x7<((x0.length:Nat):Int))) (.br (!(Op.bytesLess (((x0.getD x7.toNat ((0:Int),(bE,bE))).2).1).toList p1.toList)) (.br (decide ((h1.length+[(p0,(p1,p2))].length)*40≤MAXB)) (.br (decide (0≤x7∧x7<((x0.length:Nat):Int))) (.br (!((((x0.getD x7.toNat ((0:Int),(bE,bE))).2).1).toList==p1.toList)) (.br (decide (0≤x7∧x7<((x0.length:Nat):Int))) (.br (decide (((h1++[(p0,(p1,p2))]).length+([((x0.getD x7.toNat ((0:Int),(bE,bE))).1,(((x0.getD x7.toNat ((0:Int),(bE,bE))).2).1,((x0.getD x7.toNat ((0:Int),(bE,bE))).2).2))]).length)*40≤MAXB)) (.next ((x0,(),(),(),(),(),true,IntKind.wrap .i64 (x7+(1:Int)),u46),((p0,p1,p2,()),(h1++[(p0,(p1,p2))])++([((x0.getD x7.toNat ((0:Int),(bE,bE))).1,(((x0.getD x7.toNat ((0:Int),(bE,bE))).2).1,((x0.getD x7.toNat ((0:Int),(bE,bE))).2).2))]),()))) .fail) .fail) (.next ((x0,(),(),(),(),(),true,IntKind.wrap .i64 (x7+(1:Int)),u46),((p0,p1,p2,()),h1++[(p0,(p1,p2))],())))) .fail) .fail) (.br (decide (0≤x7∧x7<((x0.length:Nat):Int))) (.br (!((((x0.getD x7.toNat ((0:Int),(bE,bE))).2).1).toList==p1.toList)) (.br (decide (0≤x7∧x7<((x0.length:Nat):Int))) (.br (decide ((h1.length+([((x0.getD x7.toNat ((0:Int),(bE,bE))).1,(((x0.getD x7.toNat ((0:Int),(bE,bE))).2).1,((x0.getD x7.toNat ((0:Int),(bE,bE))).2).2))]).length)*40≤MAXB)) (.next ((x0,(),(),(),(),(),x6,IntKind.wrap .i64 (x7+(1:Int)),u46),((p0,p1,p2,()),h1++([((x0.getD x7.toNat ((0:Int),(bE,bE))).1,(((x0.getD x7.toNat ((0:Int),(bE,bE))).2).1,((x0.getD x7.toNat ((0:Int),(bE,bE))).2).2))]),()))) .fail) .fail) (.next ((x0,(),(),(),(),(),x6,IntKind.wrap .i64 (x7+(1:Int)),u46),((p0,p1,p2,()),h1,())))) .fail)) .fail) (.br (decide (0≤x7∧x7<((x0.length:Nat):Int))) (.br (!((((x0.getD x7.toNat ((0:Int),(bE,bE))).2).1).toList==p1.toList)) (.br (decide (0≤x7∧x7<((x0.length:Nat):Int))) (.br (decide ((h1.length+([((x0.getD x7.toNat ((0:Int),(bE,bE))).1,(((x0.getD x7.toNat ((0:Int),(bE,bE))).2).1,((x0.getD x7.toNat ((0:Int),(bE,bE))).2).2))]).length)*40≤MAXB)) (.next ((x0,(),(),(),(),(),x6,IntKind.wrap .i64 (x7+(1:Int)),u46),((p0,p1,p2,()),h1++([((x0.getD x7.toNat ((0:Int),(bE,bE))).1,(((x0.getD x7.toNat ((0:Int),(bE,bE))).2).1,((x0.getD x7.toNat ((0:Int),(bE,bE))).2).2))]),()))) .fail) .fail) (.next ((x0,(),(),(),(),(),x6,IntKind.wrap .i64 (x7+(1:Int)),u46),((p0,p1,p2,()),h1,())))) .fail)) (.done (.exit 0) E_sl7One_0_0 (((),(),(),(),(),(),x6,u47),((p0,p1,p2,()),h1,()))))
noncomputable abbrev V_sl7One_0:=(Lq2)×(Bool)×(Int)×(Lq2)
noncomputable abbrev A_sl7One_0:=Nat×(Bool)×(Lq2)
noncomputable def fl_sl7One_0:A_sl7One_0:=(99,(false:Bool),([]:Lq2))
noncomputable def ss_sl7One_0 (x0:Lq2) (x6:Bool) (x7:Int) (p0:Int) (p1:ByteArray) (p2:ByteArray) (h1:Lq2):V_sl7One_0 ⊕ A_sl7One_0:=(cond (decide (x7<((x0.length:Nat):Int))) (cond (!x6) (cond (decide (0≤x7∧x7<((x0.length:Nat):Int))) (cond (!(Op.bytesLess (((x0.getD x7.toNat ((0:Int),(bE,bE))).2).1).toList p1.toList)) (cond (decide ((h1.length+[(p0,(p1,p2))].length)*40≤MAXB)) (cond (decide (0≤x7∧x7<((x0.length:Nat):Int))) (cond (!((((x0.getD x7.toNat ((0:Int),(bE,bE))).2).1).toList==p1.toList)) (cond (decide (0≤x7∧x7<((x0.length:Nat):Int))) (cond (decide (((h1++[(p0,(p1,p2))]).length+([((x0.getD x7.toNat ((0:Int),(bE,bE))).1,(((x0.getD x7.toNat ((0:Int),(bE,bE))).2).1,((x0.getD x7.toNat ((0:Int),(bE,bE))).2).2))]).length)*40≤MAXB)) (.inl (x0,true,IntKind.wrap .i64 (x7+(1:Int)),(h1++[(p0,(p1,p2))])++([((x0.getD x7.toNat ((0:Int),(bE,bE))).1,(((x0.getD x7.toNat ((0:Int),(bE,bE))).2).1,((x0.getD x7.toNat ((0:Int),(bE,bE))).2).2))]))) (.inr fl_sl7One_0)) (.inr fl_sl7One_0)) (.inl (x0,true,IntKind.wrap .i64 (x7+(1:Int)),h1++[(p0,(p1,p2))]))) (.inr fl_sl7One_0)) (.inr fl_sl7One_0)) (cond (decide (0≤x7∧x7<((x0.length:Nat):Int))) (cond (!((((x0.getD x7.toNat ((0:Int),(bE,bE))).2).1).toList==p1.toList)) (cond (decide (0≤x7∧x7<((x0.length:Nat):Int))) (cond (decide ((h1.length+([((x0.getD x7.toNat ((0:Int),(bE,bE))).1,(((x0.getD x7.toNat ((0:Int),(bE,bE))).2).1,((x0.getD x7.toNat ((0:Int),(bE,bE))).2).2))]).length)*40≤MAXB)) (.inl (x0,x6,IntKind.wrap .i64 (x7+(1:Int)),h1++([((x0.getD x7.toNat ((0:Int),(bE,bE))).1,(((x0.getD x7.toNat ((0:Int),(bE,bE))).2).1,((x0.getD x7.toNat ((0:Int),(bE,bE))).2).2))]))) (.inr fl_sl7One_0)) (.inr fl_sl7One_0)) (.inl (x0,x6,IntKind.wrap .i64 (x7+(1:Int)),h1))) (.inr fl_sl7One_0))) (.inr fl_sl7One_0)) (cond (decide (0≤x7∧x7<((x0.length:Nat):Int))) (cond (!((((x0.getD x7.toNat ((0:Int),(bE,bE))).2).1).toList==p1.toList)) (cond (decide (0≤x7∧x7<((x0.length:Nat):Int))) (cond (decide ((h1.length+([((x0.getD x7.toNat ((0:Int),(bE,bE))).1,(((x0.getD x7.toNat ((0:Int),(bE,bE))).2).1,((x0.getD x7.toNat ((0:Int),(bE,bE))).2).2))]).length)*40≤MAXB)) (.inl (x0,x6,IntKind.wrap .i64 (x7+(1:Int)),h1++([((x0.getD x7.toNat ((0:Int),(bE,bE))).1,(((x0.getD x7.toNat ((0:Int),(bE,bE))).2).1,((x0.getD x7.toNat ((0:Int),(bE,bE))).2).2))]))) (.inr fl_sl7One_0)) (.inr fl_sl7One_0)) (.inl (x0,x6,IntKind.wrap .i64 (x7+(1:Int)),h1))) (.inr fl_sl7One_0))) (.inr (0,x6,h1)))
noncomputable def it_sl7One_0 (x0:Lq2) (x6:Bool) (x7:Int) (p0:Int) (p1:ByteArray) (p2:ByteArray) (h1:Lq2):A_sl7One_0:=itX (fun v:V_sl7One_0=>ss_sl7One_0 v.1 v.2.1 v.2.2.1 p0 p1 p2 v.2.2.2) fl_sl7One_0 (x0,x6,x7,h1)
noncomputable def ct_sl7One_0 (p0:Int) (p1:ByteArray) (p2:ByteArray) (a:A_sl7One_0):CT:=(.br (a.1==0) (.done (.exit 0) E_sl7One_0_0 (((),(),(),(),(),(),a.2.1,u47),((p0,p1,p2,()),a.2.2,()))) .fail)
noncomputable def T_sl7One_0 (x0:Lq2) (x6:Bool) (x7:Int) (p0:Int) (p1:ByteArray) (p2:ByteArray) (h1:Lq2):CT:=(ct_sl7One_0 p0 p1 p2) (it_sl7One_0 x0 x6 x7 p0 p1 p2 h1)
noncomputable abbrev sp_sl7One_0:S_sl7One_0.den→RT S_sl7One_0.den:=fun d=>st_sl7One_0 d.1.1 d.1.2.2.2.2.2.2.1 d.1.2.2.2.2.2.2.2.1 d.2.1.1 d.2.1.2.1 d.2.1.2.2.1 d.2.2.1
noncomputable abbrev pk_sl7One_0 (x0:Lq2) (x6:Bool) (x7:Int) (p0:Int) (p1:ByteArray) (p2:ByteArray) (h1:Lq2):S_sl7One_0.den:=((x0,(),(),(),(),(),x6,x7,u46),((p0,p1,p2,()),h1,()))
noncomputable def body_sl7One_0:Code:=((loopsIn 0 (bodyOf Try.f117)).getD 0 (0,.skip)).2
noncomputable abbrev pv_sl7One_0 (p0:Int) (p1:ByteArray) (p2:ByteArray) (v:V_sl7One_0):S_sl7One_0.den:=pk_sl7One_0 v.1 v.2.1 v.2.2.1 p0 p1 p2 v.2.2.2
noncomputable def ox_sl7One_0 (x0:Lq2) (x6:Bool) (x7:Int) (p0:Int) (p1:ByteArray) (p2:ByteArray) (h1:Lq2):Option (Ex×St):=(cond (decide (x7<((x0.length:Nat):Int))) (cond (!x6) (cond (decide (0≤x7∧x7<((x0.length:Nat):Int))) (cond (!(Op.bytesLess (((x0.getD x7.toNat ((0:Int),(bE,bE))).2).1).toList p1.toList)) (cond (decide ((h1.length+[(p0,(p1,p2))].length)*40≤MAXB)) (cond (decide (0≤x7∧x7<((x0.length:Nat):Int))) (cond (!((((x0.getD x7.toNat ((0:Int),(bE,bE))).2).1).toList==p1.toList)) (cond (decide (0≤x7∧x7<((x0.length:Nat):Int))) (cond (decide (((h1++[(p0,(p1,p2))]).length+([((x0.getD x7.toNat ((0:Int),(bE,bE))).1,(((x0.getD x7.toNat ((0:Int),(bE,bE))).2).1,((x0.getD x7.toNat ((0:Int),(bE,bE))).2).2))]).length)*40≤MAXB)) (some (.normal,(⟨((.t false tq5 x0)::.junk::.junk::(.ptr 0 0 1 0)::.junk::(.all 1 3)::(.t true .bool true)::(.t true (.int .i64) (IntKind.wrap .i64 (x7+(1:Int))))::jA45),[(.box [(.t true (.int .i64) p0),(.t true .str p1),(.t true .str p2)]),(.rows 85 true tq7 ((h1++[(p0,(p1,p2))])++([((x0.getD x7.toNat ((0:Int),(bE,bE))).1,(((x0.getD x7.toNat ((0:Int),(bE,bE))).2).1,((x0.getD x7.toNat ((0:Int),(bE,bE))).2).2))])))],0,[]⟩:St))) none) none) (some (.normal,(⟨((.t false tq5 x0)::.junk::.junk::(.ptr 0 0 1 0)::.junk::(.all 1 3)::(.t true .bool true)::(.t true (.int .i64) (IntKind.wrap .i64 (x7+(1:Int))))::jA45),[(.box [(.t true (.int .i64) p0),(.t true .str p1),(.t true .str p2)]),(.rows 85 true tq7 (h1++[(p0,(p1,p2))]))],0,[]⟩:St)))) none) none) (cond (decide (0≤x7∧x7<((x0.length:Nat):Int))) (cond (!((((x0.getD x7.toNat ((0:Int),(bE,bE))).2).1).toList==p1.toList)) (cond (decide (0≤x7∧x7<((x0.length:Nat):Int))) (cond (decide ((h1.length+([((x0.getD x7.toNat ((0:Int),(bE,bE))).1,(((x0.getD x7.toNat ((0:Int),(bE,bE))).2).1,((x0.getD x7.toNat ((0:Int),(bE,bE))).2).2))]).length)*40≤MAXB)) (some (.normal,(⟨((.t false tq5 x0)::.junk::.junk::(.ptr 0 0 1 0)::.junk::(.all 1 3)::(.t true .bool x6)::(.t true (.int .i64) (IntKind.wrap .i64 (x7+(1:Int))))::jA45),[(.box [(.t true (.int .i64) p0),(.t true .str p1),(.t true .str p2)]),(.rows 85 true tq7 (h1++([((x0.getD x7.toNat ((0:Int),(bE,bE))).1,(((x0.getD x7.toNat ((0:Int),(bE,bE))).2).1,((x0.getD x7.toNat ((0:Int),(bE,bE))).2).2))])))],0,[]⟩:St))) none) none) (some (.normal,(⟨((.t false tq5 x0)::.junk::.junk::(.ptr 0 0 1 0)::.junk::(.all 1 3)::(.t true .bool x6)::(.t true (.int .i64) (IntKind.wrap .i64 (x7+(1:Int))))::jA45),[(.box [(.t true (.int .i64) p0),(.t true .str p1),(.t true .str p2)]),(.rows 85 true tq7 h1)],0,[]⟩:St)))) none)) none) (cond (decide (0≤x7∧x7<((x0.length:Nat):Int))) (cond (!((((x0.getD x7.toNat ((0:Int),(bE,bE))).2).1).toList==p1.toList)) (cond (decide (0≤x7∧x7<((x0.length:Nat):Int))) (cond (decide ((h1.length+([((x0.getD x7.toNat ((0:Int),(bE,bE))).1,(((x0.getD x7.toNat ((0:Int),(bE,bE))).2).1,((x0.getD x7.toNat ((0:Int),(bE,bE))).2).2))]).length)*40≤MAXB)) (some (.normal,(⟨((.t false tq5 x0)::.junk::.junk::(.ptr 0 0 1 0)::.junk::(.all 1 3)::(.t true .bool x6)::(.t true (.int .i64) (IntKind.wrap .i64 (x7+(1:Int))))::jA45),[(.box [(.t true (.int .i64) p0),(.t true .str p1),(.t true .str p2)]),(.rows 85 true tq7 (h1++([((x0.getD x7.toNat ((0:Int),(bE,bE))).1,(((x0.getD x7.toNat ((0:Int),(bE,bE))).2).1,((x0.getD x7.toNat ((0:Int),(bE,bE))).2).2))])))],0,[]⟩:St))) none) none) (some (.normal,(⟨((.t false tq5 x0)::.junk::.junk::(.ptr 0 0 1 0)::.junk::(.all 1 3)::(.t true .bool x6)::(.t true (.int .i64) (IntKind.wrap .i64 (x7+(1:Int))))::jA45),[(.box [(.t true (.int .i64) p0),(.t true .str p1),(.t true .str p2)]),(.rows 85 true tq7 h1)],0,[]⟩:St)))) none)) (some ((.exit 0),(⟨(.junk::.junk::.junk::(.ptr 0 0 1 0)::.junk::(.all 1 3)::(.t true .bool x6)::jA46),[(.box [(.t true (.int .i64) p0),(.t true .str p1),(.t true .str p2)]),(.rows 85 true tq7 h1)],0,[]⟩:St))))
theorem rdA_sl7One_0:RdA G11 (fun _ _=>none) 0 body_sl7One_0 S_sl7One_0 0 [] (kepts [] [(0,[3,5,6])]) (fun d=>ox_sl7One_0 d.1.1 d.1.2.2.2.2.2.2.1 d.1.2.2.2.2.2.2.2.1 d.2.1.1 d.2.1.2.1 d.2.1.2.2.1 d.2.2.1):=by
 intro d
 kernel_rfl
theorem rdB_sl7One_0:∀ d:S_sl7One_0.den,ox_sl7One_0 d.1.1 d.1.2.2.2.2.2.2.1 d.1.2.2.2.2.2.2.2.1 d.2.1.1 d.2.1.2.1 d.2.1.2.2.1 d.2.2.1=(sp_sl7One_0 d).opt 0 []:=by
 intro d
 kernel_rfl
noncomputable abbrev say_sl7One_0:St→Option Tree:=S_sl7One_0.say 0 [] [] (fun d=>T_sl7One_0 d.1.1 d.1.2.2.2.2.2.2.1 d.1.2.2.2.2.2.2.2.1 d.2.1.1 d.2.1.2.1 d.2.1.2.2.1 d.2.2.1)
theorem lw_sl7One_0:LoopWp Try.prog say_sl7One_0 body_sl7One_0:=SS.wp2 (hl0 (by kernel_rfl)) [] sp_sl7One_0 rdA_sl7One_0 rdB_sl7One_0 _ (fun d=>Runs.ofIt (step:=sp_sl7One_0) (pv_sl7One_0 d.2.1.1 d.2.1.2.1 d.2.1.2.2.1) (ct:=(ct_sl7One_0 d.2.1.1 d.2.1.2.1 d.2.1.2.2.1)) rfl (fun v=>((relB (relB (relB (relB (relB (relB (relB (relB (relB rfl rfl) rfl) rfl) rfl) rfl) (relB (relB (relB (relB rfl rfl) rfl) rfl) rfl)) rfl) (relB (relB (relB (relB rfl rfl) rfl) rfl) rfl)) rfl):(st_sl7One_0 v.1 v.2.1 v.2.2.1 d.2.1.1 d.2.1.2.1 d.2.1.2.2.1 v.2.2.2).val=relS (pv_sl7One_0 d.2.1.1 d.2.1.2.1 d.2.1.2.2.1) (ct_sl7One_0 d.2.1.1 d.2.1.2.1 d.2.1.2.2.1) (ss_sl7One_0 v.1 v.2.1 v.2.2.1 d.2.1.1 d.2.1.2.1 d.2.1.2.2.1 v.2.2.2))) (fun a=>((cendB (cendD (by simp)) cendF):CEnd _ ((ct_sl7One_0 d.2.1.1 d.2.1.2.1 d.2.1.2.2.1) a))) (d.1.1,d.1.2.2.2.2.2.2.1,d.1.2.2.2.2.2.2.2.1,d.2.2.1))
noncomputable def sl7One (a0:Lq2) (a1:Int) (a2:ByteArray) (a3:ByteArray):Lq2:=(cond (!((it_sl7One_0 a0 false (0:Int) a1 a2 a3 ([]:Lq2)).2.1)) (((it_sl7One_0 a0 false (0:Int) a1 a2 a3 ([]:Lq2)).2.2)++[(a1,(a2,a3))]) ((it_sl7One_0 a0 false (0:Int) a1 a2 a3 ([]:Lq2)).2.2))
noncomputable abbrev e_sl7One (r:Lq2):AV×List AObj:=((.all 0 3),[(.rows 85 true tq7 r)])
noncomputable abbrev F_sl7One (r:Lq2):=some (e_sl7One r)
noncomputable abbrev g_sl7One:pshsDen P_sl7One→AV×List AObj:=fun d=>e_sl7One (sl7One d.1 d.2.1.1 d.2.1.2.1 d.2.1.2.2.1)
noncomputable def q_sl7One (a0:Lq2) (a1:Int) (a2:ByteArray) (a3:ByteArray):Bool:=((it_sl7One_0 a0 false (0:Int) a1 a2 a3 ([]:Lq2)).1==0)&&(cond (!((it_sl7One_0 a0 false (0:Int) a1 a2 a3 ([]:Lq2)).2.1)) (decide ((((it_sl7One_0 a0 false (0:Int) a1 a2 a3 ([]:Lq2)).2.2).length+[(a1,(a2,a3))].length)*40≤MAXB)) true)
noncomputable abbrev pre_sl7One:pshsDen P_sl7One→Bool:=fun d=>q_sl7One d.1 d.2.1.1 d.2.1.2.1 d.2.1.2.2.1
noncomputable abbrev L_sl7One:Nat→St→Option Tree:=fun b=>match b with | 0=>say_sl7One_0 | _=>fun _=>none
theorem run_sl7One:RunP false G11 (L_sl7One) Try.f117 P_sl7One pre_sl7One g_sl7One:=by
 rintro ⟨a0,⟨⟨a1,⟨a2,⟨a3,_⟩⟩⟩,_⟩⟩ hp
 change q_sl7One a0 a1 a2 a3=true at hp
 unfold q_sl7One at hp
 refine Eq.trans (b:=(cond ((it_sl7One_0 a0 false (0:Int) a1 a2 a3 ([]:Lq2)).1==0) (cond (!((it_sl7One_0 a0 false (0:Int) a1 a2 a3 ([]:Lq2)).2.1)) (cond (decide ((((it_sl7One_0 a0 false (0:Int) a1 a2 a3 ([]:Lq2)).2.2).length+[(a1,(a2,a3))].length)*40≤MAXB)) (some (e_sl7One (((it_sl7One_0 a0 false (0:Int) a1 a2 a3 ([]:Lq2)).2.2)++[(a1,(a2,a3))]))) none) (some (e_sl7One ((it_sl7One_0 a0 false (0:Int) a1 a2 a3 ([]:Lq2)).2.2)))) none)) (by kernel_rfl) ?_
 exact (cndA hp fun hp=>(cndQ (F:=F_sl7One) hp (fun hp=>(cndT hp fun _h=>rfl)) (fun hp=>rfl)))
theorem c_sl7One:PContract Try.prog 117 (sumOf P_sl7One pre_sl7One g_sl7One):=PContract.of_data false G11 (by kernel_rfl) (hl1 (i:=0) (by kernel_rfl) lw_sl7One_0) _ _ _ run_sl7One
noncomputable def S12:Tab:=Tab.add S11 117 (lift (sumOf P_sl7One pre_sl7One g_sl7One))
noncomputable def QF12:FuncId→Bool:=QF11
theorem G12:Good Try.prog tt S12 QF12:=G11.add c_sl7One ⟨Try.f117,by kernel_rfl,by kernel_rfl,by kernel_rfl⟩ (by kernel_rfl)

noncomputable abbrev jS13:List Sh:=.junk::.junk::.junk::.junk::.junk::.junk::.junk::.junk::.junk::.junk::.junk::.junk::.junk::[]
noncomputable abbrev jS14:List Sh:=.junk::jS13
noncomputable abbrev u14:=((),(),(),(),(),(),(),(),(),(),(),(),(),())
noncomputable abbrev u19:=((),(),(),(),(),u14)
noncomputable abbrev SM_sl7Draw:SS:=⟨[.ptr 0 0 1 0],[.box [.t false t_sy,.t true (.int .i64),.t true (.int .i64)]]⟩
noncomputable abbrev S_sl7Draw_0:SS:=⟨(.ptr 0 0 1 0::.junk::.junk::.all 1 3::.t true (.int .i64)::jS13),[.box [.t false t_sy,.t true (.int .i64),.t true (.int .i64)],.rows 85 true tq7]⟩
noncomputable abbrev E_sl7Draw_0_0:SS:=⟨(.junk::.junk::.junk::.all 1 3::jS14),[.box [.t false t_sy,.t true (.int .i64),.t true (.int .i64)],.rows 85 true tq7]⟩
noncomputable def k1_sl7Draw (p0:List Int) (p1:Int) (p2:Int) (h1:Lq2):=sl7One h1 ((sl7Op1 p0 p1 p2).1) ((sl7Op1 p0 p1 p2).2.1) ((sl7Op1 p0 p1 p2).2.2.1)
noncomputable def st_sl7Draw_0 (x4:Int) (p0:List Int) (p1:Int) (p2:Int) (h1:Lq2):RT S_sl7Draw_0.den:=(.br (decide (x4 > (0:Int))) (.br (q_sl7Op1 p0 p1 p2) (.br (q_sl7One h1 ((sl7Op1 p0 p1 p2).1) ((sl7Op1 p0 p1 p2).2.1) ((sl7Op1 p0 p1 p2).2.2.1)) (.next (((),(),(),(),IntKind.wrap .i64 (x4 - (1:Int)),u14),((((sl7Op1 p0 p1 p2).2.2.2.1),((sl7Op1 p0 p1 p2).2.2.2.2.1),((sl7Op1 p0 p1 p2).2.2.2.2.2.1),()),(k1_sl7Draw p0 p1 p2 h1),()))) .fail) .fail) (.done (.exit 0) E_sl7Draw_0_0 ((u19),((p0,p1,p2,()),h1,()))))
noncomputable abbrev V_sl7Draw_0:=(Int)×(List Int)×(Int)×(Int)×(Lq2)
noncomputable abbrev A_sl7Draw_0:=Nat×(List Int)×(Int)×(Int)×(Lq2)
noncomputable def fl_sl7Draw_0:A_sl7Draw_0:=(99,([]:List Int),((0:Int):Int),((0:Int):Int),([]:Lq2))
noncomputable def ss_sl7Draw_0 (x4:Int) (p0:List Int) (p1:Int) (p2:Int) (h1:Lq2):V_sl7Draw_0 ⊕ A_sl7Draw_0:=(cond (decide (x4 > (0:Int))) (cond (q_sl7Op1 p0 p1 p2) (cond (q_sl7One h1 ((sl7Op1 p0 p1 p2).1) ((sl7Op1 p0 p1 p2).2.1) ((sl7Op1 p0 p1 p2).2.2.1)) (.inl (IntKind.wrap .i64 (x4 - (1:Int)),((sl7Op1 p0 p1 p2).2.2.2.1),((sl7Op1 p0 p1 p2).2.2.2.2.1),((sl7Op1 p0 p1 p2).2.2.2.2.2.1),(k1_sl7Draw p0 p1 p2 h1))) (.inr fl_sl7Draw_0)) (.inr fl_sl7Draw_0)) (.inr (0,p0,p1,p2,h1)))
noncomputable def it_sl7Draw_0 (x4:Int) (p0:List Int) (p1:Int) (p2:Int) (h1:Lq2):A_sl7Draw_0:=itX (fun v:V_sl7Draw_0=>ss_sl7Draw_0 v.1 v.2.1 v.2.2.1 v.2.2.2.1 v.2.2.2.2) fl_sl7Draw_0 (x4,p0,p1,p2,h1)
noncomputable def ct_sl7Draw_0 (a:A_sl7Draw_0):CT:=(.br (a.1==0) (.done (.exit 0) E_sl7Draw_0_0 ((u19),((a.2.1,a.2.2.1,a.2.2.2.1,()),a.2.2.2.2,()))) .fail)
noncomputable def T_sl7Draw_0 (x4:Int) (p0:List Int) (p1:Int) (p2:Int) (h1:Lq2):CT:=ct_sl7Draw_0 (it_sl7Draw_0 x4 p0 p1 p2 h1)
noncomputable abbrev sp_sl7Draw_0:S_sl7Draw_0.den→RT S_sl7Draw_0.den:=fun d=>st_sl7Draw_0 d.1.2.2.2.2.1 d.2.1.1 d.2.1.2.1 d.2.1.2.2.1 d.2.2.1
noncomputable abbrev pk_sl7Draw_0 (x4:Int) (p0:List Int) (p1:Int) (p2:Int) (h1:Lq2):S_sl7Draw_0.den:=(((),(),(),(),x4,u14),((p0,p1,p2,()),h1,()))
noncomputable def body_sl7Draw_0:Code:=((loopsIn 0 (bodyOf Try.f78)).getD 0 (0,.skip)).2
noncomputable abbrev pv_sl7Draw_0 (v:V_sl7Draw_0):S_sl7Draw_0.den:=pk_sl7Draw_0 v.1 v.2.1 v.2.2.1 v.2.2.2.1 v.2.2.2.2
theorem rdA_sl7Draw_0:RdA G12 (fun _ _=>none) 0 body_sl7Draw_0 S_sl7Draw_0 1 [] (kepts [] [(0,[3])]) (fun d=>(sp_sl7Draw_0 d).opt 1 []):=by
 intro d
 kernel_rfl
noncomputable abbrev say_sl7Draw_0:St→Option Tree:=S_sl7Draw_0.say 1 [] [] (fun d=>T_sl7Draw_0 d.1.2.2.2.2.1 d.2.1.1 d.2.1.2.1 d.2.1.2.2.1 d.2.2.1)
theorem lw_sl7Draw_0:LoopWp Try.prog say_sl7Draw_0 body_sl7Draw_0:=SS.wp2 (hl0 (by kernel_rfl)) [] sp_sl7Draw_0 rdA_sl7Draw_0 (fun d=>rfl) _ (fun d=>Runs.ofIt (step:=sp_sl7Draw_0) pv_sl7Draw_0 (ct:=ct_sl7Draw_0) rfl (fun v=>((relB (relB (relB rfl rfl) rfl) rfl):(st_sl7Draw_0 v.1 v.2.1 v.2.2.1 v.2.2.2.1 v.2.2.2.2).val=relS pv_sl7Draw_0 ct_sl7Draw_0 (ss_sl7Draw_0 v.1 v.2.1 v.2.2.1 v.2.2.2.1 v.2.2.2.2))) (fun a=>((cendB (cendD (by simp)) cendF):CEnd _ (ct_sl7Draw_0 a))) (d.1.2.2.2.2.1,d.2.1.1,d.2.1.2.1,d.2.1.2.2.1,d.2.2.1))
noncomputable def k2_sl7Draw (p0:List Int) (p1:Int) (p2:Int):=it_sl7Draw_0 (IntKind.wrap .i64 ((1:Int)+((sl1Below (4:Int) p0 p1 p2).1))) ((sl1Below (4:Int) p0 p1 p2).2.1) ((sl1Below (4:Int) p0 p1 p2).2.2.1) ((sl1Below (4:Int) p0 p1 p2).2.2.2) ([]:Lq2)
noncomputable def sl7Draw (p0:List Int) (p1:Int) (p2:Int):(List Int)×Int×Int×Lq2:=(((k2_sl7Draw p0 p1 p2).2.1),((k2_sl7Draw p0 p1 p2).2.2.1),((k2_sl7Draw p0 p1 p2).2.2.2.1),((k2_sl7Draw p0 p1 p2).2.2.2.2))
noncomputable abbrev e_sl7Draw (r:(List Int)×Int×Int×Lq2):AV×List AObj×List Nat:=((.all 1 3),[(.box [(.t false t_sy r.1),(.t true (.int .i64) r.2.1),(.t true (.int .i64) r.2.2.1)]),(.rows 85 true tq7 r.2.2.2)],[])
noncomputable abbrev F_sl7Draw (r:(List Int)×Int×Int×Lq2):=some (e_sl7Draw r)
noncomputable abbrev g_sl7Draw:SM_sl7Draw.den→AV×List AObj×List Nat:=fun d=>e_sl7Draw (sl7Draw d.2.1.1 d.2.1.2.1 d.2.1.2.2.1)
noncomputable def q_sl7Draw (p0:List Int) (p1:Int) (p2:Int):Bool:=(q_sl1Below (4:Int) p0 p1 p2)&&((k2_sl7Draw p0 p1 p2).1==0)
noncomputable abbrev pre_sl7Draw:SM_sl7Draw.den→Bool:=fun d=>q_sl7Draw d.2.1.1 d.2.1.2.1 d.2.1.2.2.1
noncomputable abbrev L_sl7Draw:Nat→St→Option Tree:=fun b=>match b with | 0=>say_sl7Draw_0 | _=>fun _=>none
theorem run_sl7Draw:RunM G12 (L_sl7Draw) Try.f78 SM_sl7Draw pre_sl7Draw g_sl7Draw:=by
 rintro ⟨⟨_,_⟩,⟨⟨p0,p1,p2,_⟩,_⟩⟩ hp
 change q_sl7Draw p0 p1 p2=true at hp
 unfold q_sl7Draw at hp
 refine Eq.trans (b:=(cond (q_sl1Below (4:Int) p0 p1 p2) (cond ((k2_sl7Draw p0 p1 p2).1==0) (some (e_sl7Draw (((k2_sl7Draw p0 p1 p2).2.1),((k2_sl7Draw p0 p1 p2).2.2.1),((k2_sl7Draw p0 p1 p2).2.2.2.1),((k2_sl7Draw p0 p1 p2).2.2.2.2)))) none) none)) (by kernel_rfl) ?_
 exact (cndA hp fun hp=>(cndT hp fun _h=>rfl))
noncomputable abbrev m_sl7Draw:=win winIds (msum SM_sl7Draw pre_sl7Draw g_sl7Draw)
theorem c_sl7Draw:MContract Try.prog 78 m_sl7Draw:=(MContract.of_data G12 (by kernel_rfl) (hl1 (i:=0) (by kernel_rfl) lw_sl7Draw_0) _ _ _ run_sl7Draw).win winIds
noncomputable def S13:Tab:=Tab.add S12 78 (m_sl7Draw)
noncomputable def QF13:FuncId→Bool:=QF12
theorem G13:Good Try.prog tt S13 QF13:=G12.addM c_sl7Draw (win_local _) ⟨Try.f78,by kernel_rfl,by kernel_rfl,by kernel_rfl⟩ (by kernel_rfl)

noncomputable abbrev jS23:List Sh:=.junk::.junk::.junk::.junk::.junk::.junk::.junk::.junk::.junk::jS14
noncomputable abbrev jS24:List Sh:=.junk::jS23
noncomputable abbrev jS26:List Sh:=.junk::.junk::jS24
noncomputable abbrev u25:=((),(),(),(),(),(),u19)
noncomputable abbrev u24:=((),(),(),(),(),u19)
noncomputable abbrev u27:=((),(),u25)
noncomputable def sKeyAt (s:ByteArray) (i:Nat):Bool:=sl1In (IntKind.wrap .i64 (bt s (i:Int))) 97 122||sl1In (IntKind.wrap .i64 (bt s (i:Int))) 48 57
noncomputable abbrev P_sKeyOk:List PSh:=[.t .str]
noncomputable abbrev S_sKeyOk_0:SS:=⟨(.t true .str::.junk::.junk::.t true (.int .i64)::jS23),[]⟩
noncomputable abbrev E_sKeyOk_0_0:SS:=⟨(.junk::.junk::.t true .bool::jS24),[]⟩
noncomputable abbrev E_sKeyOk_0_1:SS:=⟨(.t true .str::jS26),[]⟩
noncomputable def st_sKeyOk_0 (x0:ByteArray) (x3:Int):RT S_sKeyOk_0.den:=(.br (decide (x3<((x0.size:Nat):Int))) (.br (decide (0≤x3∧x3<((x0.size:Nat):Int))) (.br (!(sl1In (IntKind.wrap .i64 (bt x0 x3)) (97:Int) (122:Int))) (.br (decide (0≤x3∧x3<((x0.size:Nat):Int))) (.br (!(sl1In (IntKind.wrap .i64 (bt x0 x3)) (48:Int) (57:Int))) (.done .ret E_sKeyOk_0_0 (((),(),false,u25),())) (.next ((x0,(),(),IntKind.wrap .i64 (x3+(1:Int)),u24),()))) .fail) (.next ((x0,(),(),IntKind.wrap .i64 (x3+(1:Int)),u24),()))) .fail) (.done (.exit 0) E_sKeyOk_0_1 ((x0,u27),())))
noncomputable def T_sKeyOk_0 (x0:ByteArray) (x3:Int):CT:=(.br (decide (0≤x3)&&okS x0) (.br (allF (sKeyAt x0) (x0.size - x3.toNat) x3.toNat) (.done (.exit 0) E_sKeyOk_0_1 ((x0,u27),())) (.done .ret E_sKeyOk_0_0 (((),(),false,u25),()))) .fail)
noncomputable abbrev sp_sKeyOk_0:S_sKeyOk_0.den→RT S_sKeyOk_0.den:=fun d=>st_sKeyOk_0 d.1.1 d.1.2.2.2.1
noncomputable abbrev pk_sKeyOk_0 (x0:ByteArray) (x3:Int):S_sKeyOk_0.den:=((x0,(),(),x3,u24),())
noncomputable def body_sKeyOk_0:Code:=((loopsIn 0 (bodyOf Try.f142)).getD 0 (0,.skip)).2
theorem R_sKeyOk_0 (x0:ByteArray) (x3:Int):(T_sKeyOk_0 x0 x3).val (D:=S_sKeyOk_0.den)=.fail∨Runs sp_sKeyOk_0 (pk_sKeyOk_0 x0 x3) (T_sKeyOk_0 x0 x3).val:=by
 cases hc:(decide (0≤x3)&&okS x0) with
 | false=>left;simp only [T_sKeyOk_0,CT.val,hc,cond_false]
 | true =>
  right
  simp only [T_sKeyOk_0,CT.val,hc,cond_true]
  simp only [Bool.and_eq_true,decide_eq_true_eq] at hc
  obtain ⟨i,rfl⟩:=Int.eq_ofNat_of_zero_le hc.1
  have hs:=okS_le hc.2
  simp only [Int.toNat_natCast]
  refine Runs.scan (fun j=>pk_sKeyOk_0 x0 (j:Int)) (x0.size) (sKeyAt x0) (fun i hi=>?_) (fun i hi=>?_) ⟨_,_,_,rfl,by simp⟩ ⟨_,_,_,rfl,by simp⟩ _ _ rfl
  ·
   have h0a:decide ((i:Int)<((x0.size:Nat):Int))=true:=decide_eq_true (by omega)
   have h0b:decide (0≤(i:Int)∧(i:Int)<((x0.size:Nat):Int))=true:=decide_eq_true (by omega)
   simp only [sp_sKeyOk_0,st_sKeyOk_0,RT.val,h0a,h0b,cond_true,wrapS i (by omega),Int.toNat_natCast]
   simp only [sKeyAt]
   cases sl1In (IntKind.wrap .i64 (bt x0 (i:Int))) 97 122<;>cases sl1In (IntKind.wrap .i64 (bt x0 (i:Int))) 48 57<;>rfl
  ·have h1:decide ((i:Int)<((x0.size:Nat):Int))=false:=decide_eq_false (by omega)
   simp only [sp_sKeyOk_0,st_sKeyOk_0,RT.val,h1,cond_false]
theorem rdA_sKeyOk_0:RdA G13 (fun _ _=>none) 0 body_sKeyOk_0 S_sKeyOk_0 0 [] (kepts [2] [(0,[0])]) (fun d=>(sp_sKeyOk_0 d).opt 0 []):=by
 intro d
 kernel_rfl
noncomputable abbrev say_sKeyOk_0:St→Option Tree:=S_sKeyOk_0.say 0 [] [] (fun d=>T_sKeyOk_0 d.1.1 d.1.2.2.2.1)
theorem lw_sKeyOk_0:LoopWp Try.prog say_sKeyOk_0 body_sKeyOk_0:=SS.wp2 (hl0 (by kernel_rfl)) [] sp_sKeyOk_0 rdA_sKeyOk_0 (fun d=>rfl) _ (fun d=>R_sKeyOk_0 d.1.1 d.1.2.2.2.1)
noncomputable def sKeyOk (a0:ByteArray):Bool:=(cond (allF (sKeyAt a0) (a0.size - (0:Int).toNat) (0:Int).toNat) (sl1In ((a0.size:Nat):Int) (1:Int) (12:Int)) false)
noncomputable abbrev e_sKeyOk (r:Bool):AV×List AObj:=((.t true .bool r),[])
noncomputable abbrev F_sKeyOk (r:Bool):=some (e_sKeyOk r)
noncomputable abbrev g_sKeyOk:pshsDen P_sKeyOk→AV×List AObj:=fun d=>e_sKeyOk (sKeyOk d.1)
noncomputable def q_sKeyOk (a0:ByteArray):Bool:=okS a0
noncomputable abbrev pre_sKeyOk:pshsDen P_sKeyOk→Bool:=fun d=>q_sKeyOk d.1
noncomputable abbrev L_sKeyOk:Nat→St→Option Tree:=fun b=>match b with | 0=>say_sKeyOk_0 | _=>fun _=>none
theorem run_sKeyOk:RunP true G13 (L_sKeyOk) Try.f142 P_sKeyOk pre_sKeyOk g_sKeyOk:=by
 rintro ⟨a0,_⟩ hp
 change q_sKeyOk a0=true at hp
 unfold q_sKeyOk at hp
 refine Eq.trans (b:=(cond (decide (0≤(0:Int))&&okS a0) (cond (allF (sKeyAt a0) (a0.size - (0:Int).toNat) (0:Int).toNat) (some (e_sKeyOk (sl1In ((a0.size:Nat):Int) (1:Int) (12:Int)))) (some (e_sKeyOk false))) none)) (by kernel_rfl) ?_
 exact (cndT (by first | rfl | decide | exact hp | (simp only [Bool.and_eq_true] at hp;simp only [hp];done) | (simp [*];done) | (simp [okL] at hp;simp [okL,MAXB];omega) | (simp_all;done) | (simp at *;omega)) (fun _h=>(cnd (F:=F_sKeyOk) (fun _h=>rfl) (fun _h=>rfl))))
theorem c_sKeyOk:PContract Try.prog 142 (sumOf P_sKeyOk pre_sKeyOk g_sKeyOk):=PContract.of_data true G13 (by kernel_rfl) (hl1 (i:=0) (by kernel_rfl) lw_sKeyOk_0) _ _ _ run_sKeyOk
noncomputable def S14:Tab:=Tab.add S13 142 (lift (sumOf P_sKeyOk pre_sKeyOk g_sKeyOk))
noncomputable def QF14:FuncId→Bool:=qadd QF13 142
theorem G14:Good Try.prog tt S14 QF14:=G13.addQ c_sKeyOk ⟨Try.f142,by kernel_rfl,by kernel_rfl,by kernel_rfl⟩ (fun _=>rfl)

noncomputable abbrev P_sl7Op:List PSh:=[.agg [(.int .i64),.str,.str]]
noncomputable def sl7Op (a0:Int) (a1:ByteArray) (a2:ByteArray):Bool:=(cond (!(sl1In a0 (1:Int) (3:Int))) false (cond (a0==(2:Int)) (cond (!(a2.toList==bE.toList)) false (cond (sKeyOk a1) (decide (((a2.size:Nat):Int)≤(20:Int))) false)) (cond (sKeyOk a1) (decide (((a2.size:Nat):Int)≤(20:Int))) false)))
noncomputable abbrev e_sl7Op (r:Bool):AV×List AObj:=((.t true .bool r),[])
noncomputable abbrev F_sl7Op (r:Bool):=some (e_sl7Op r)
noncomputable abbrev g_sl7Op:pshsDen P_sl7Op→AV×List AObj:=fun d=>e_sl7Op (sl7Op d.1.1 d.1.2.1 d.1.2.2.1)
noncomputable def q_sl7Op (a0:Int) (a1:ByteArray) (a2:ByteArray):Bool:=okS a1
noncomputable abbrev pre_sl7Op:pshsDen P_sl7Op→Bool:=fun d=>q_sl7Op d.1.1 d.1.2.1 d.1.2.2.1
theorem run_sl7Op:RunP true G14 (fun _ _=>none) Try.f129 P_sl7Op pre_sl7Op g_sl7Op:=by
 rintro ⟨⟨a0,⟨a1,⟨a2,_⟩⟩⟩,_⟩ hp
 change q_sl7Op a0 a1 a2=true at hp
 unfold q_sl7Op at hp
 refine Eq.trans (b:=(cond (!(sl1In a0 (1:Int) (3:Int))) (some (e_sl7Op false)) (cond (a0==(2:Int)) (cond (!(a2.toList==(⟨#[]⟩:ByteArray).toList)) (some (e_sl7Op false)) (cond (q_sKeyOk a1) (cond (sKeyOk a1) (some (e_sl7Op (decide (((a2.size:Nat):Int)≤(20:Int))))) (some (e_sl7Op false))) none)) (cond (q_sKeyOk a1) (cond (sKeyOk a1) (some (e_sl7Op (decide (((a2.size:Nat):Int)≤(20:Int))))) (some (e_sl7Op false))) none)))) (by kernel_rfl) ?_
 exact (cnd (F:=F_sl7Op) (fun _h=>rfl) (fun _h=>(cnd (F:=F_sl7Op) (fun _h=>(cnd (F:=F_sl7Op) (fun _h=>rfl) (fun _h=>(cndT (by first | rfl | decide | exact hp | (simp only [Bool.and_eq_true] at hp;simp only [hp];done) | (simp [*];done) | (simp [okL] at hp;simp [okL,MAXB];omega) | (simp_all;done) | (simp at *;omega)) (fun _h=>(cnd (F:=F_sl7Op) (fun _h=>rfl) (fun _h=>rfl))))))) (fun _h=>(cndT (by first | rfl | decide | exact hp | (simp only [Bool.and_eq_true] at hp;simp only [hp];done) | (simp [*];done) | (simp [okL] at hp;simp [okL,MAXB];omega) | (simp_all;done) | (simp at *;omega)) (fun _h=>(cnd (F:=F_sl7Op) (fun _h=>rfl) (fun _h=>rfl))))))))
theorem c_sl7Op:PContract Try.prog 129 (sumOf P_sl7Op pre_sl7Op g_sl7Op):=PContract.of_data true G14 (by kernel_rfl) (hl0 (by kernel_rfl)) _ _ _ run_sl7Op
noncomputable def S15:Tab:=Tab.add S14 129 (lift (sumOf P_sl7Op pre_sl7Op g_sl7Op))
noncomputable def QF15:FuncId→Bool:=qadd QF14 129
theorem G15:Good Try.prog tt S15 QF15:=G14.addQ c_sl7Op ⟨Try.f129,by kernel_rfl,by kernel_rfl,by kernel_rfl⟩ (fun _=>rfl)

noncomputable abbrev jS33:List Sh:=.junk::.junk::.junk::.junk::.junk::jS28
noncomputable abbrev jS34:List Sh:=.junk::jS33
noncomputable abbrev jS36:List Sh:=.junk::.junk::jS34
noncomputable abbrev u35:=((),(),(),(),(),(),u29)
noncomputable abbrev u34:=((),(),(),(),(),u29)
noncomputable abbrev u37:=((),(),u35)
noncomputable abbrev jA34:List AV:=.junk::.junk::.junk::.junk::.junk::.junk::jA28
noncomputable abbrev jA33:List AV:=.junk::.junk::.junk::.junk::.junk::jA28
noncomputable abbrev jA36:List AV:=.junk::.junk::jA34
noncomputable def sOpAt (l:Lq2) (i:Nat):Bool:=sl7Op (l.getD i dOp).1 (l.getD i dOp).2.1 (l.getD i dOp).2.2&&(decide (i=0)||Op.bytesLess (l.getD (i - 1) dOp).2.1.toList (l.getD i dOp).2.1.toList)
noncomputable abbrev P_sOpsOk:List PSh:=[.t tq5]
noncomputable abbrev S_sOpsOk_0:SS:=⟨(.t false tq5::.junk::.junk::.t true (.int .i64)::jS33),[]⟩
noncomputable abbrev E_sOpsOk_0_0:SS:=⟨(.junk::.junk::.t true .bool::jS34),[]⟩
noncomputable abbrev E_sOpsOk_0_1:SS:=⟨(.t false tq5::jS36),[]⟩
noncomputable def st_sOpsOk_0 (x0:Lq2) (x3:Int):RT S_sOpsOk_0.den:=(.br (decide (x3<((x0.length:Nat):Int))) (.br (decide (0≤x3∧x3<((x0.length:Nat):Int))) (.br (q_sl7Op ((x0.getD x3.toNat ((0:Int),(bE,bE))).1) (((x0.getD x3.toNat ((0:Int),(bE,bE))).2).1) (((x0.getD x3.toNat ((0:Int),(bE,bE))).2).2)) (.br (!(sl7Op ((x0.getD x3.toNat ((0:Int),(bE,bE))).1) (((x0.getD x3.toNat ((0:Int),(bE,bE))).2).1) (((x0.getD x3.toNat ((0:Int),(bE,bE))).2).2))) (.done .ret E_sOpsOk_0_0 (((),(),false,u35),())) (.br (decide (x3 > (0:Int))) (.br (decide (0≤(IntKind.wrap .i64 (x3 - (1:Int)))∧(IntKind.wrap .i64 (x3 - (1:Int)))<((x0.length:Nat):Int))) (.br (decide (0≤x3∧x3<((x0.length:Nat):Int))) (.br (!(Op.bytesLess (((x0.getD ((IntKind.wrap .i64 (x3 - (1:Int))).toNat) ((0:Int),(bE,bE))).2).1).toList (((x0.getD x3.toNat ((0:Int),(bE,bE))).2).1).toList)) (.done .ret E_sOpsOk_0_0 (((),(),false,u35),())) (.next ((x0,(),(),IntKind.wrap .i64 (x3+(1:Int)),u34),()))) .fail) .fail) (.next ((x0,(),(),IntKind.wrap .i64 (x3+(1:Int)),u34),())))) .fail) .fail) (.done (.exit 0) E_sOpsOk_0_1 ((x0,u37),())))
noncomputable def T_sOpsOk_0 (x0:Lq2) (x3:Int):CT:=(.br (decide (0≤x3)&&okOps x0) (.br (allF (sOpAt x0) (x0.length - x3.toNat) x3.toNat) (.done (.exit 0) E_sOpsOk_0_1 ((x0,u37),())) (.done .ret E_sOpsOk_0_0 (((),(),false,u35),()))) .fail)
noncomputable abbrev sp_sOpsOk_0:S_sOpsOk_0.den→RT S_sOpsOk_0.den:=fun d=>st_sOpsOk_0 d.1.1 d.1.2.2.2.1
noncomputable abbrev pk_sOpsOk_0 (x0:Lq2) (x3:Int):S_sOpsOk_0.den:=((x0,(),(),x3,u34),())
noncomputable def body_sOpsOk_0:Code:=((loopsIn 0 (bodyOf Try.f95)).getD 0 (0,.skip)).2
theorem R_sOpsOk_0 (x0:Lq2) (x3:Int):(T_sOpsOk_0 x0 x3).val (D:=S_sOpsOk_0.den)=.fail∨Runs sp_sOpsOk_0 (pk_sOpsOk_0 x0 x3) (T_sOpsOk_0 x0 x3).val:=by
 cases hc:(decide (0≤x3)&&okOps x0) with
 | false=>left;simp only [T_sOpsOk_0,CT.val,hc,cond_false]
 | true =>
  right
  simp only [T_sOpsOk_0,CT.val,hc,cond_true]
  simp only [Bool.and_eq_true,decide_eq_true_eq] at hc
  obtain ⟨i,rfl⟩:=Int.eq_ofNat_of_zero_le hc.1
  have hs:=okOps_len hc.2
  simp only [Int.toNat_natCast]
  refine Runs.scan (fun j=>pk_sOpsOk_0 x0 (j:Int)) (x0.length) (sOpAt x0) (fun i hi=>?_) (fun i hi=>?_) ⟨_,_,_,rfl,by simp⟩ ⟨_,_,_,rfl,by simp⟩ _ _ rfl
  ·
   have h0a:decide ((i:Int)<((x0.length:Nat):Int))=true:=decide_eq_true (by omega)
   have h0b:decide (0≤(i:Int)∧(i:Int)<((x0.length:Nat):Int))=true:=decide_eq_true (by omega)
   simp only [sp_sOpsOk_0,st_sOpsOk_0,RT.val,h0a,h0b,cond_true,wrapS i (by omega),Int.toNat_natCast]
   have hq:q_sl7Op (x0.getD i dOp).1 (x0.getD i dOp).2.1 (x0.getD i dOp).2.2=true:=(okOps_at hc.2 i hi).1
   simp only [dOp] at hq
   simp only [hq,cond_true,sOpAt,dOp]
   cases sl7Op (x0.getD i ((0:Int),((⟨#[]⟩:ByteArray),(⟨#[]⟩:ByteArray)))).1 (x0.getD i ((0:Int),((⟨#[]⟩:ByteArray),(⟨#[]⟩:ByteArray)))).2.1 (x0.getD i ((0:Int),((⟨#[]⟩:ByteArray),(⟨#[]⟩:ByteArray)))).2.2 with
   | false=>rfl
   | true =>
    cases i with
    | zero=>rfl
    | succ i =>
     have h3:decide (((i+1:Nat):Int) > 0)=true:=decide_eq_true (by omega)
     have h4:IntKind.wrap .i64 (((i+1:Nat):Int) - 1)=(i:Int):=by have:=wrap64 (n:=((i+1:Nat):Int) - 1) (by omega) (by omega);omega
     have h5:decide (0≤(i:Int)∧(i:Int)<((x0.length:Nat):Int))=true:=decide_eq_true (by omega)
     have h6:decide (i+1=0)=false:=by simp
     simp only [h3,h4,h5,h6,cond_true,Bool.true_and,Bool.false_or,Int.toNat_natCast,Nat.add_sub_cancel,Bool.not_true,cond_false]
     cases Op.bytesLess (x0.getD i ((0:Int),((⟨#[]⟩:ByteArray),(⟨#[]⟩:ByteArray)))).2.1.toList (x0.getD (i+1) ((0:Int),((⟨#[]⟩:ByteArray),(⟨#[]⟩:ByteArray)))).2.1.toList<;>rfl
  ·have h1:decide ((i:Int)<((x0.length:Nat):Int))=false:=decide_eq_false (by omega)
   simp only [sp_sOpsOk_0,st_sOpsOk_0,RT.val,h1,cond_false]
noncomputable def ox_sOpsOk_0 (x0:Lq2) (x3:Int):Option (Ex×St):=(cond (decide (x3<((x0.length:Nat):Int))) (cond (decide (0≤x3∧x3<((x0.length:Nat):Int))) (cond (q_sl7Op ((x0.getD x3.toNat ((0:Int),(bE,bE))).1) (((x0.getD x3.toNat ((0:Int),(bE,bE))).2).1) (((x0.getD x3.toNat ((0:Int),(bE,bE))).2).2)) (cond (!(sl7Op ((x0.getD x3.toNat ((0:Int),(bE,bE))).1) (((x0.getD x3.toNat ((0:Int),(bE,bE))).2).1) (((x0.getD x3.toNat ((0:Int),(bE,bE))).2).2))) (some (.ret,(⟨(.junk::.junk::(.t true .bool false)::jA34),[],0,[]⟩:St))) (cond (decide (x3 > (0:Int))) (cond (decide (0≤(IntKind.wrap .i64 (x3 - (1:Int)))∧(IntKind.wrap .i64 (x3 - (1:Int)))<((x0.length:Nat):Int))) (cond (decide (0≤x3∧x3<((x0.length:Nat):Int))) (cond (!(Op.bytesLess (((x0.getD ((IntKind.wrap .i64 (x3 - (1:Int))).toNat) ((0:Int),(bE,bE))).2).1).toList (((x0.getD x3.toNat ((0:Int),(bE,bE))).2).1).toList)) (some (.ret,(⟨(.junk::.junk::(.t true .bool false)::jA34),[],0,[]⟩:St))) (some (.normal,(⟨((.t false tq5 x0)::.junk::.junk::(.t true (.int .i64) (IntKind.wrap .i64 (x3+(1:Int))))::jA33),[],0,[]⟩:St)))) none) none) (some (.normal,(⟨((.t false tq5 x0)::.junk::.junk::(.t true (.int .i64) (IntKind.wrap .i64 (x3+(1:Int))))::jA33),[],0,[]⟩:St))))) none) none) (some ((.exit 0),(⟨((.t false tq5 x0)::jA36),[],0,[]⟩:St))))
theorem rdA_sOpsOk_0:RdA G15 (fun _ _=>none) 0 body_sOpsOk_0 S_sOpsOk_0 0 [] (kepts [2] [(0,[0])]) (fun d=>ox_sOpsOk_0 d.1.1 d.1.2.2.2.1):=by
 intro d
 kernel_rfl
theorem rdB_sOpsOk_0:∀ d:S_sOpsOk_0.den,ox_sOpsOk_0 d.1.1 d.1.2.2.2.1=(sp_sOpsOk_0 d).opt 0 []:=by
 intro d
 kernel_rfl
noncomputable abbrev say_sOpsOk_0:St→Option Tree:=S_sOpsOk_0.say 0 [] [] (fun d=>T_sOpsOk_0 d.1.1 d.1.2.2.2.1)
theorem lw_sOpsOk_0:LoopWp Try.prog say_sOpsOk_0 body_sOpsOk_0:=SS.wp2 (hl0 (by kernel_rfl)) [] sp_sOpsOk_0 rdA_sOpsOk_0 rdB_sOpsOk_0 _ (fun d=>R_sOpsOk_0 d.1.1 d.1.2.2.2.1)
noncomputable def sOpsOk (a0:Lq2):Bool:=(cond (allF (sOpAt a0) (a0.length - (0:Int).toNat) (0:Int).toNat) (sl1In ((a0.length:Nat):Int) (1:Int) (8:Int)) false)
noncomputable abbrev e_sOpsOk (r:Bool):AV×List AObj:=((.t true .bool r),[])
noncomputable abbrev F_sOpsOk (r:Bool):=some (e_sOpsOk r)
noncomputable abbrev g_sOpsOk:pshsDen P_sOpsOk→AV×List AObj:=fun d=>e_sOpsOk (sOpsOk d.1)
noncomputable def q_sOpsOk (a0:Lq2):Bool:=okOps a0
noncomputable abbrev pre_sOpsOk:pshsDen P_sOpsOk→Bool:=fun d=>q_sOpsOk d.1
noncomputable abbrev L_sOpsOk:Nat→St→Option Tree:=fun b=>match b with | 0=>say_sOpsOk_0 | _=>fun _=>none
theorem run_sOpsOk:RunP true G15 (L_sOpsOk) Try.f95 P_sOpsOk pre_sOpsOk g_sOpsOk:=by
 rintro ⟨a0,_⟩ hp
 change q_sOpsOk a0=true at hp
 unfold q_sOpsOk at hp
 refine Eq.trans (b:=(cond (decide (0≤(0:Int))&&okOps a0) (cond (allF (sOpAt a0) (a0.length - (0:Int).toNat) (0:Int).toNat) (some (e_sOpsOk (sl1In ((a0.length:Nat):Int) (1:Int) (8:Int)))) (some (e_sOpsOk false))) none)) (by kernel_rfl) ?_
 exact (cndT (by first | rfl | decide | exact hp | (simp only [Bool.and_eq_true] at hp;simp only [hp];done) | (simp [*];done) | (simp [okL] at hp;simp [okL,MAXB];omega) | (simp_all;done) | (simp at *;omega)) (fun _h=>(cnd (F:=F_sOpsOk) (fun _h=>rfl) (fun _h=>rfl))))
theorem c_sOpsOk:PContract Try.prog 95 (sumOf P_sOpsOk pre_sOpsOk g_sOpsOk):=PContract.of_data true G15 (by kernel_rfl) (hl1 (i:=0) (by kernel_rfl) lw_sOpsOk_0) _ _ _ run_sOpsOk
noncomputable def S16:Tab:=Tab.add S15 95 (lift (sumOf P_sOpsOk pre_sOpsOk g_sOpsOk))
noncomputable def QF16:FuncId→Bool:=qadd QF15 95
theorem G16:Good Try.prog tt S16 QF16:=G15.addQ c_sOpsOk ⟨Try.f95,by kernel_rfl,by kernel_rfl,by kernel_rfl⟩ (fun _=>rfl)

noncomputable abbrev tq3:Ty:=.sl (.pair (.int .i64) (.pair (.int .i64) (.sl (.pair (.int .i64) (.pair .str .str)))))
noncomputable abbrev jS15:List Sh:=.junk::jS14
noncomputable abbrev jS19:List Sh:=.junk::.junk::.junk::.junk::jS15
noncomputable abbrev u16:=((),(),u14)
noncomputable abbrev u15:=((),u14)
noncomputable abbrev u21:=((),(),u19)
noncomputable abbrev P_sl8At:List PSh:=[.t tq3,.t (.int .i64)]
noncomputable abbrev S_sl8At_0:SS:=⟨(.t false tq3::.t true (.int .i64)::.junk::.junk::.junk::.t true (.int .i64)::jS14),[]⟩
noncomputable abbrev E_sl8At_0_0:SS:=⟨(.junk::.junk::.junk::.junk::.t true (.int .i64)::jS15),[]⟩
noncomputable abbrev E_sl8At_0_1:SS:=⟨(.junk::jS19),[]⟩
noncomputable def st_sl8At_0 (x0:Lq1) (x1:Int) (x5:Int):RT S_sl8At_0.den:=(.br (decide (x5<((x0.length:Nat):Int))) (.br (decide (0≤x5∧x5<((x0.length:Nat):Int))) (.br ((((x0.getD x5.toNat ((0:Int),((0:Int),[]))).2).1)==x1) (.done .ret E_sl8At_0_0 (((),(),(),(),x5,u16),())) (.next ((x0,x1,(),(),(),IntKind.wrap .i64 (x5+(1:Int)),u15),()))) .fail) (.done (.exit 0) E_sl8At_0_1 ((u21),())))
noncomputable abbrev V_sl8At_0:=(Lq1)×(Int)×(Int)
noncomputable abbrev A_sl8At_0:=Nat×(Int)
noncomputable def fl_sl8At_0:A_sl8At_0:=(99,((0:Int):Int))
noncomputable def ss_sl8At_0 (x0:Lq1) (x1:Int) (x5:Int):V_sl8At_0 ⊕ A_sl8At_0:=(cond (decide (x5<((x0.length:Nat):Int))) (cond (decide (0≤x5∧x5<((x0.length:Nat):Int))) (cond ((((x0.getD x5.toNat ((0:Int),((0:Int),[]))).2).1)==x1) (.inr (0,x5)) (.inl (x0,x1,IntKind.wrap .i64 (x5+(1:Int))))) (.inr fl_sl8At_0)) (.inr (1,((0:Int):Int))))
noncomputable def it_sl8At_0 (x0:Lq1) (x1:Int) (x5:Int):A_sl8At_0:=itX (fun v:V_sl8At_0=>ss_sl8At_0 v.1 v.2.1 v.2.2) fl_sl8At_0 (x0,x1,x5)
noncomputable def ct_sl8At_0 (a:A_sl8At_0):CT:=(.br (a.1==0) (.done .ret E_sl8At_0_0 (((),(),(),(),a.2,u16),())) (.br (a.1==1) (.done (.exit 0) E_sl8At_0_1 ((u21),())) .fail))
noncomputable def T_sl8At_0 (x0:Lq1) (x1:Int) (x5:Int):CT:=ct_sl8At_0 (it_sl8At_0 x0 x1 x5)
noncomputable abbrev sp_sl8At_0:S_sl8At_0.den→RT S_sl8At_0.den:=fun d=>st_sl8At_0 d.1.1 d.1.2.1 d.1.2.2.2.2.2.1
noncomputable abbrev pk_sl8At_0 (x0:Lq1) (x1:Int) (x5:Int):S_sl8At_0.den:=((x0,x1,(),(),(),x5,u15),())
noncomputable def body_sl8At_0:Code:=((loopsIn 0 (bodyOf Try.f121)).getD 0 (0,.skip)).2
noncomputable abbrev pv_sl8At_0 (v:V_sl8At_0):S_sl8At_0.den:=pk_sl8At_0 v.1 v.2.1 v.2.2
theorem rdA_sl8At_0:RdA G16 (fun _ _=>none) 0 body_sl8At_0 S_sl8At_0 0 [] (kepts [4] [(0,[])]) (fun d=>(sp_sl8At_0 d).opt 0 []):=by
 intro d
 kernel_rfl
noncomputable abbrev say_sl8At_0:St→Option Tree:=S_sl8At_0.say 0 [] [] (fun d=>T_sl8At_0 d.1.1 d.1.2.1 d.1.2.2.2.2.2.1)
theorem lw_sl8At_0:LoopWp Try.prog say_sl8At_0 body_sl8At_0:=SS.wp2 (hl0 (by kernel_rfl)) [] sp_sl8At_0 rdA_sl8At_0 (fun d=>rfl) _ (fun d=>Runs.ofIt (step:=sp_sl8At_0) pv_sl8At_0 (ct:=ct_sl8At_0) rfl (fun v=>((relB (relB (relB rfl rfl) rfl) rfl):(st_sl8At_0 v.1 v.2.1 v.2.2).val=relS pv_sl8At_0 ct_sl8At_0 (ss_sl8At_0 v.1 v.2.1 v.2.2))) (fun a=>((cendB (cendD (by simp)) (cendB (cendD (by simp)) cendF)):CEnd _ (ct_sl8At_0 a))) (d.1.1,d.1.2.1,d.1.2.2.2.2.2.1))
noncomputable def sl8At (a0:Lq1) (a1:Int):Int:=(cond ((it_sl8At_0 a0 a1 (0:Int)).1==0) ((it_sl8At_0 a0 a1 (0:Int)).2) (-1:Int))
noncomputable abbrev e_sl8At (r:Int):AV×List AObj:=((.t true (.int .i64) r),[])
noncomputable abbrev F_sl8At (r:Int):=some (e_sl8At r)
noncomputable abbrev g_sl8At:pshsDen P_sl8At→AV×List AObj:=fun d=>e_sl8At (sl8At d.1 d.2.1)
noncomputable def q_sl8At (a0:Lq1) (a1:Int):Bool:=cond ((it_sl8At_0 a0 a1 (0:Int)).1==0) true ((it_sl8At_0 a0 a1 (0:Int)).1==1)
noncomputable abbrev pre_sl8At:pshsDen P_sl8At→Bool:=fun d=>q_sl8At d.1 d.2.1
noncomputable abbrev L_sl8At:Nat→St→Option Tree:=fun b=>match b with | 0=>say_sl8At_0 | _=>fun _=>none
theorem run_sl8At:RunP true G16 (L_sl8At) Try.f121 P_sl8At pre_sl8At g_sl8At:=by
 rintro ⟨a0,⟨a1,_⟩⟩ hp
 change q_sl8At a0 a1=true at hp
 unfold q_sl8At at hp
 refine Eq.trans (b:=(cond ((it_sl8At_0 a0 a1 (0:Int)).1==0) (some (e_sl8At ((it_sl8At_0 a0 a1 (0:Int)).2))) (cond ((it_sl8At_0 a0 a1 (0:Int)).1==1) (some (e_sl8At (-1:Int))) none))) (by kernel_rfl) ?_
 exact (cndQ (F:=F_sl8At) hp (fun hp=>rfl) (fun hp=>(cndT hp fun _h=>rfl)))
theorem c_sl8At:PContract Try.prog 121 (sumOf P_sl8At pre_sl8At g_sl8At):=PContract.of_data true G16 (by kernel_rfl) (hl1 (i:=0) (by kernel_rfl) lw_sl8At_0) _ _ _ run_sl8At
noncomputable def S17:Tab:=Tab.add S16 121 (lift (sumOf P_sl8At pre_sl8At g_sl8At))
noncomputable def QF17:FuncId→Bool:=qadd QF16 121
theorem G17:Good Try.prog tt S17 QF17:=G16.addQ c_sl8At ⟨Try.f121,by kernel_rfl,by kernel_rfl,by kernel_rfl⟩ (fun _=>rfl)

noncomputable abbrev tq6:Ty:=.sl (.pair .str .str)
noncomputable abbrev jS47:List Sh:=.junk::jS46
noncomputable abbrev jS48:List Sh:=.junk::jS47
noncomputable abbrev u48:=((),u47)
noncomputable abbrev u49:=((),u48)
noncomputable abbrev jA47:List AV:=.junk::jA46
noncomputable abbrev jA48:List AV:=.junk::jA47
noncomputable abbrev P_sl9Outcome:List PSh:=[.agg [(.int .i64),tq3,(.int .i64),tq6,tq3],.t (.int .i64)]
noncomputable abbrev S_sl9Outcome_0:SS:=⟨(.junk::.t true (.int .i64)::.ptr 0 0 1 0::.junk::.junk::.t true (.int .i64)::.t true (.int .i64)::jS47),[.box [.t true (.int .i64),.t false tq3,.t true (.int .i64),.t false tq6,.t false tq3]]⟩
noncomputable abbrev E_sl9Outcome_0_0:SS:=⟨(.junk::.junk::.junk::.junk::.junk::.t true (.int .i64)::jS48),[]⟩
noncomputable def st_sl9Outcome_0 (x1:Int) (x5:Int) (x6:Int) (p0:Int) (p1:Lq1) (p2:Int) (p3:LBBe) (p4:Lq1):RT S_sl9Outcome_0.den:=(.br (decide (x6<((p1.length:Nat):Int))) (.br (decide (0≤x6∧x6<((p1.length:Nat):Int))) (.br ((((p1.getD x6.toNat ((0:Int),((0:Int),[]))).2).1)==x1) (.br (decide (0≤x6∧x6<((p1.length:Nat):Int))) (.br (((p1.getD x6.toNat ((0:Int),((0:Int),[]))).1)==(2:Int)) (.br (decide (0≤x6∧x6<((p1.length:Nat):Int))) (.br ((((p1.getD x6.toNat ((0:Int),((0:Int),[]))).2).1)==x1) (.br (decide (0≤x6∧x6<((p1.length:Nat):Int))) (.br (((p1.getD x6.toNat ((0:Int),((0:Int),[]))).1)==(3:Int)) (.next (((),x1,(),(),(),(4:Int),IntKind.wrap .i64 (x6+(1:Int)),u48),((p0,p1,p2,p3,p4,()),()))) (.next (((),x1,(),(),(),(3:Int),IntKind.wrap .i64 (x6+(1:Int)),u48),((p0,p1,p2,p3,p4,()),())))) .fail) (.next (((),x1,(),(),(),(3:Int),IntKind.wrap .i64 (x6+(1:Int)),u48),((p0,p1,p2,p3,p4,()),())))) .fail) (.br (decide (0≤x6∧x6<((p1.length:Nat):Int))) (.br ((((p1.getD x6.toNat ((0:Int),((0:Int),[]))).2).1)==x1) (.br (decide (0≤x6∧x6<((p1.length:Nat):Int))) (.br (((p1.getD x6.toNat ((0:Int),((0:Int),[]))).1)==(3:Int)) (.next (((),x1,(),(),(),(4:Int),IntKind.wrap .i64 (x6+(1:Int)),u48),((p0,p1,p2,p3,p4,()),()))) (.next (((),x1,(),(),(),x5,IntKind.wrap .i64 (x6+(1:Int)),u48),((p0,p1,p2,p3,p4,()),())))) .fail) (.next (((),x1,(),(),(),x5,IntKind.wrap .i64 (x6+(1:Int)),u48),((p0,p1,p2,p3,p4,()),())))) .fail)) .fail) (.br (decide (0≤x6∧x6<((p1.length:Nat):Int))) (.br ((((p1.getD x6.toNat ((0:Int),((0:Int),[]))).2).1)==x1) (.br (decide (0≤x6∧x6<((p1.length:Nat):Int))) (.br (((p1.getD x6.toNat ((0:Int),((0:Int),[]))).1)==(3:Int)) (.next (((),x1,(),(),(),(4:Int),IntKind.wrap .i64 (x6+(1:Int)),u48),((p0,p1,p2,p3,p4,()),()))) (.next (((),x1,(),(),(),x5,IntKind.wrap .i64 (x6+(1:Int)),u48),((p0,p1,p2,p3,p4,()),())))) .fail) (.next (((),x1,(),(),(),x5,IntKind.wrap .i64 (x6+(1:Int)),u48),((p0,p1,p2,p3,p4,()),())))) .fail)) .fail) (.done (.exit 0) E_sl9Outcome_0_0 (((),(),(),(),(),x5,u49),())))
noncomputable abbrev V_sl9Outcome_0:=(Int)×(Int)×(Int)
noncomputable abbrev A_sl9Outcome_0:=Nat×(Int)
noncomputable def fl_sl9Outcome_0:A_sl9Outcome_0:=(99,((0:Int):Int))
noncomputable def ss_sl9Outcome_0 (x1:Int) (x5:Int) (x6:Int) (p0:Int) (p1:Lq1) (p2:Int) (p3:LBBe) (p4:Lq1):V_sl9Outcome_0 ⊕ A_sl9Outcome_0:=(cond (decide (x6<((p1.length:Nat):Int))) (cond (decide (0≤x6∧x6<((p1.length:Nat):Int))) (cond ((((p1.getD x6.toNat ((0:Int),((0:Int),[]))).2).1)==x1) (cond (decide (0≤x6∧x6<((p1.length:Nat):Int))) (cond (((p1.getD x6.toNat ((0:Int),((0:Int),[]))).1)==(2:Int)) (cond (decide (0≤x6∧x6<((p1.length:Nat):Int))) (cond ((((p1.getD x6.toNat ((0:Int),((0:Int),[]))).2).1)==x1) (cond (decide (0≤x6∧x6<((p1.length:Nat):Int))) (cond (((p1.getD x6.toNat ((0:Int),((0:Int),[]))).1)==(3:Int)) (.inl (x1,(4:Int),IntKind.wrap .i64 (x6+(1:Int)))) (.inl (x1,(3:Int),IntKind.wrap .i64 (x6+(1:Int))))) (.inr fl_sl9Outcome_0)) (.inl (x1,(3:Int),IntKind.wrap .i64 (x6+(1:Int))))) (.inr fl_sl9Outcome_0)) (cond (decide (0≤x6∧x6<((p1.length:Nat):Int))) (cond ((((p1.getD x6.toNat ((0:Int),((0:Int),[]))).2).1)==x1) (cond (decide (0≤x6∧x6<((p1.length:Nat):Int))) (cond (((p1.getD x6.toNat ((0:Int),((0:Int),[]))).1)==(3:Int)) (.inl (x1,(4:Int),IntKind.wrap .i64 (x6+(1:Int)))) (.inl (x1,x5,IntKind.wrap .i64 (x6+(1:Int))))) (.inr fl_sl9Outcome_0)) (.inl (x1,x5,IntKind.wrap .i64 (x6+(1:Int))))) (.inr fl_sl9Outcome_0))) (.inr fl_sl9Outcome_0)) (cond (decide (0≤x6∧x6<((p1.length:Nat):Int))) (cond ((((p1.getD x6.toNat ((0:Int),((0:Int),[]))).2).1)==x1) (cond (decide (0≤x6∧x6<((p1.length:Nat):Int))) (cond (((p1.getD x6.toNat ((0:Int),((0:Int),[]))).1)==(3:Int)) (.inl (x1,(4:Int),IntKind.wrap .i64 (x6+(1:Int)))) (.inl (x1,x5,IntKind.wrap .i64 (x6+(1:Int))))) (.inr fl_sl9Outcome_0)) (.inl (x1,x5,IntKind.wrap .i64 (x6+(1:Int))))) (.inr fl_sl9Outcome_0))) (.inr fl_sl9Outcome_0)) (.inr (0,x5)))
noncomputable def it_sl9Outcome_0 (x1:Int) (x5:Int) (x6:Int) (p0:Int) (p1:Lq1) (p2:Int) (p3:LBBe) (p4:Lq1):A_sl9Outcome_0:=itX (fun v:V_sl9Outcome_0=>ss_sl9Outcome_0 v.1 v.2.1 v.2.2 p0 p1 p2 p3 p4) fl_sl9Outcome_0 (x1,x5,x6)
noncomputable def ct_sl9Outcome_0 (p0:Int) (p1:Lq1) (p2:Int) (p3:LBBe) (p4:Lq1) (a:A_sl9Outcome_0):CT:=(.br (a.1==0) (.done (.exit 0) E_sl9Outcome_0_0 (((),(),(),(),(),a.2,u49),())) .fail)
noncomputable def T_sl9Outcome_0 (x1:Int) (x5:Int) (x6:Int) (p0:Int) (p1:Lq1) (p2:Int) (p3:LBBe) (p4:Lq1):CT:=(ct_sl9Outcome_0 p0 p1 p2 p3 p4) (it_sl9Outcome_0 x1 x5 x6 p0 p1 p2 p3 p4)
noncomputable abbrev sp_sl9Outcome_0:S_sl9Outcome_0.den→RT S_sl9Outcome_0.den:=fun d=>st_sl9Outcome_0 d.1.2.1 d.1.2.2.2.2.2.1 d.1.2.2.2.2.2.2.1 d.2.1.1 d.2.1.2.1 d.2.1.2.2.1 d.2.1.2.2.2.1 d.2.1.2.2.2.2.1
noncomputable abbrev pk_sl9Outcome_0 (x1:Int) (x5:Int) (x6:Int) (p0:Int) (p1:Lq1) (p2:Int) (p3:LBBe) (p4:Lq1):S_sl9Outcome_0.den:=(((),x1,(),(),(),x5,x6,u48),((p0,p1,p2,p3,p4,()),()))
noncomputable def body_sl9Outcome_0:Code:=((loopsIn 0 (bodyOf Try.f96)).getD 0 (0,.skip)).2
noncomputable abbrev pv_sl9Outcome_0 (p0:Int) (p1:Lq1) (p2:Int) (p3:LBBe) (p4:Lq1) (v:V_sl9Outcome_0):S_sl9Outcome_0.den:=pk_sl9Outcome_0 v.1 v.2.1 v.2.2 p0 p1 p2 p3 p4
noncomputable def ox_sl9Outcome_0 (x1:Int) (x5:Int) (x6:Int) (p0:Int) (p1:Lq1) (p2:Int) (p3:LBBe) (p4:Lq1):Option (Ex×St):=(cond (decide (x6<((p1.length:Nat):Int))) (cond (decide (0≤x6∧x6<((p1.length:Nat):Int))) (cond ((((p1.getD x6.toNat ((0:Int),((0:Int),[]))).2).1)==x1) (cond (decide (0≤x6∧x6<((p1.length:Nat):Int))) (cond (((p1.getD x6.toNat ((0:Int),((0:Int),[]))).1)==(2:Int)) (cond (decide (0≤x6∧x6<((p1.length:Nat):Int))) (cond ((((p1.getD x6.toNat ((0:Int),((0:Int),[]))).2).1)==x1) (cond (decide (0≤x6∧x6<((p1.length:Nat):Int))) (cond (((p1.getD x6.toNat ((0:Int),((0:Int),[]))).1)==(3:Int)) (some (.normal,(⟨(.junk::(.t true (.int .i64) x1)::(.ptr 0 0 1 0)::.junk::.junk::(.t true (.int .i64) (4:Int))::(.t true (.int .i64) (IntKind.wrap .i64 (x6+(1:Int))))::jA47),[(.box [(.t true (.int .i64) p0),(.t false tq3 p1),(.t true (.int .i64) p2),(.t false tq6 p3),(.t false tq3 p4)])],0,[]⟩:St))) (some (.normal,(⟨(.junk::(.t true (.int .i64) x1)::(.ptr 0 0 1 0)::.junk::.junk::(.t true (.int .i64) (3:Int))::(.t true (.int .i64) (IntKind.wrap .i64 (x6+(1:Int))))::jA47),[(.box [(.t true (.int .i64) p0),(.t false tq3 p1),(.t true (.int .i64) p2),(.t false tq6 p3),(.t false tq3 p4)])],0,[]⟩:St)))) none) (some (.normal,(⟨(.junk::(.t true (.int .i64) x1)::(.ptr 0 0 1 0)::.junk::.junk::(.t true (.int .i64) (3:Int))::(.t true (.int .i64) (IntKind.wrap .i64 (x6+(1:Int))))::jA47),[(.box [(.t true (.int .i64) p0),(.t false tq3 p1),(.t true (.int .i64) p2),(.t false tq6 p3),(.t false tq3 p4)])],0,[]⟩:St)))) none) (cond (decide (0≤x6∧x6<((p1.length:Nat):Int))) (cond ((((p1.getD x6.toNat ((0:Int),((0:Int),[]))).2).1)==x1) (cond (decide (0≤x6∧x6<((p1.length:Nat):Int))) (cond (((p1.getD x6.toNat ((0:Int),((0:Int),[]))).1)==(3:Int)) (some (.normal,(⟨(.junk::(.t true (.int .i64) x1)::(.ptr 0 0 1 0)::.junk::.junk::(.t true (.int .i64) (4:Int))::(.t true (.int .i64) (IntKind.wrap .i64 (x6+(1:Int))))::jA47),[(.box [(.t true (.int .i64) p0),(.t false tq3 p1),(.t true (.int .i64) p2),(.t false tq6 p3),(.t false tq3 p4)])],0,[]⟩:St))) (some (.normal,(⟨(.junk::(.t true (.int .i64) x1)::(.ptr 0 0 1 0)::.junk::.junk::(.t true (.int .i64) x5)::(.t true (.int .i64) (IntKind.wrap .i64 (x6+(1:Int))))::jA47),[(.box [(.t true (.int .i64) p0),(.t false tq3 p1),(.t true (.int .i64) p2),(.t false tq6 p3),(.t false tq3 p4)])],0,[]⟩:St)))) none) (some (.normal,(⟨(.junk::(.t true (.int .i64) x1)::(.ptr 0 0 1 0)::.junk::.junk::(.t true (.int .i64) x5)::(.t true (.int .i64) (IntKind.wrap .i64 (x6+(1:Int))))::jA47),[(.box [(.t true (.int .i64) p0),(.t false tq3 p1),(.t true (.int .i64) p2),(.t false tq6 p3),(.t false tq3 p4)])],0,[]⟩:St)))) none)) none) (cond (decide (0≤x6∧x6<((p1.length:Nat):Int))) (cond ((((p1.getD x6.toNat ((0:Int),((0:Int),[]))).2).1)==x1) (cond (decide (0≤x6∧x6<((p1.length:Nat):Int))) (cond (((p1.getD x6.toNat ((0:Int),((0:Int),[]))).1)==(3:Int)) (some (.normal,(⟨(.junk::(.t true (.int .i64) x1)::(.ptr 0 0 1 0)::.junk::.junk::(.t true (.int .i64) (4:Int))::(.t true (.int .i64) (IntKind.wrap .i64 (x6+(1:Int))))::jA47),[(.box [(.t true (.int .i64) p0),(.t false tq3 p1),(.t true (.int .i64) p2),(.t false tq6 p3),(.t false tq3 p4)])],0,[]⟩:St))) (some (.normal,(⟨(.junk::(.t true (.int .i64) x1)::(.ptr 0 0 1 0)::.junk::.junk::(.t true (.int .i64) x5)::(.t true (.int .i64) (IntKind.wrap .i64 (x6+(1:Int))))::jA47),[(.box [(.t true (.int .i64) p0),(.t false tq3 p1),(.t true (.int .i64) p2),(.t false tq6 p3),(.t false tq3 p4)])],0,[]⟩:St)))) none) (some (.normal,(⟨(.junk::(.t true (.int .i64) x1)::(.ptr 0 0 1 0)::.junk::.junk::(.t true (.int .i64) x5)::(.t true (.int .i64) (IntKind.wrap .i64 (x6+(1:Int))))::jA47),[(.box [(.t true (.int .i64) p0),(.t false tq3 p1),(.t true (.int .i64) p2),(.t false tq6 p3),(.t false tq3 p4)])],0,[]⟩:St)))) none)) none) (some ((.exit 0),(⟨(.junk::.junk::.junk::.junk::.junk::(.t true (.int .i64) x5)::jA48),[],0,[]⟩:St))))
theorem rdA_sl9Outcome_0:RdA G17 (fun _ _=>none) 0 body_sl9Outcome_0 S_sl9Outcome_0 0 [] (kepts [] [(0,[5])]) (fun d=>ox_sl9Outcome_0 d.1.2.1 d.1.2.2.2.2.2.1 d.1.2.2.2.2.2.2.1 d.2.1.1 d.2.1.2.1 d.2.1.2.2.1 d.2.1.2.2.2.1 d.2.1.2.2.2.2.1):=by
 intro d
 kernel_rfl
theorem rdB_sl9Outcome_0:∀ d:S_sl9Outcome_0.den,ox_sl9Outcome_0 d.1.2.1 d.1.2.2.2.2.2.1 d.1.2.2.2.2.2.2.1 d.2.1.1 d.2.1.2.1 d.2.1.2.2.1 d.2.1.2.2.2.1 d.2.1.2.2.2.2.1=(sp_sl9Outcome_0 d).opt 0 []:=by
 intro d
 kernel_rfl
noncomputable abbrev say_sl9Outcome_0:St→Option Tree:=S_sl9Outcome_0.say 0 [] [] (fun d=>T_sl9Outcome_0 d.1.2.1 d.1.2.2.2.2.2.1 d.1.2.2.2.2.2.2.1 d.2.1.1 d.2.1.2.1 d.2.1.2.2.1 d.2.1.2.2.2.1 d.2.1.2.2.2.2.1)
theorem lw_sl9Outcome_0:LoopWp Try.prog say_sl9Outcome_0 body_sl9Outcome_0:=SS.wp2 (hl0 (by kernel_rfl)) [] sp_sl9Outcome_0 rdA_sl9Outcome_0 rdB_sl9Outcome_0 _ (fun d=>Runs.ofIt (step:=sp_sl9Outcome_0) (pv_sl9Outcome_0 d.2.1.1 d.2.1.2.1 d.2.1.2.2.1 d.2.1.2.2.2.1 d.2.1.2.2.2.2.1) (ct:=(ct_sl9Outcome_0 d.2.1.1 d.2.1.2.1 d.2.1.2.2.1 d.2.1.2.2.2.1 d.2.1.2.2.2.2.1)) rfl (fun v=>((relB (relB (relB (relB (relB (relB (relB (relB (relB rfl rfl) rfl) rfl) rfl) (relB (relB (relB (relB rfl rfl) rfl) rfl) rfl)) rfl) (relB (relB (relB (relB rfl rfl) rfl) rfl) rfl)) rfl) rfl):(st_sl9Outcome_0 v.1 v.2.1 v.2.2 d.2.1.1 d.2.1.2.1 d.2.1.2.2.1 d.2.1.2.2.2.1 d.2.1.2.2.2.2.1).val=relS (pv_sl9Outcome_0 d.2.1.1 d.2.1.2.1 d.2.1.2.2.1 d.2.1.2.2.2.1 d.2.1.2.2.2.2.1) (ct_sl9Outcome_0 d.2.1.1 d.2.1.2.1 d.2.1.2.2.1 d.2.1.2.2.2.1 d.2.1.2.2.2.2.1) (ss_sl9Outcome_0 v.1 v.2.1 v.2.2 d.2.1.1 d.2.1.2.1 d.2.1.2.2.1 d.2.1.2.2.2.1 d.2.1.2.2.2.2.1))) (fun a=>((cendB (cendD (by simp)) cendF):CEnd _ ((ct_sl9Outcome_0 d.2.1.1 d.2.1.2.1 d.2.1.2.2.1 d.2.1.2.2.2.1 d.2.1.2.2.2.2.1) a))) (d.1.2.1,d.1.2.2.2.2.2.1,d.1.2.2.2.2.2.2.1))
noncomputable def sl9Outcome (a0:Int) (a1:Lq1) (a2:Int) (a3:LBBe) (a4:Lq1) (a5:Int):Int:=(cond (decide ((sl8At a4 a5) ≥ (0:Int))) (1:Int) ((it_sl9Outcome_0 a5 (2:Int) (0:Int) a0 a1 a2 a3 a4).2))
noncomputable abbrev e_sl9Outcome (r:Int):AV×List AObj:=((.t true (.int .i64) r),[])
noncomputable abbrev F_sl9Outcome (r:Int):=some (e_sl9Outcome r)
noncomputable abbrev g_sl9Outcome:pshsDen P_sl9Outcome→AV×List AObj:=fun d=>e_sl9Outcome (sl9Outcome d.1.1 d.1.2.1 d.1.2.2.1 d.1.2.2.2.1 d.1.2.2.2.2.1 d.2.1)
noncomputable def q_sl9Outcome (a0:Int) (a1:Lq1) (a2:Int) (a3:LBBe) (a4:Lq1) (a5:Int):Bool:=(q_sl8At a4 a5)&&(cond (decide ((sl8At a4 a5) ≥ (0:Int))) true ((it_sl9Outcome_0 a5 (2:Int) (0:Int) a0 a1 a2 a3 a4).1==0))
noncomputable abbrev pre_sl9Outcome:pshsDen P_sl9Outcome→Bool:=fun d=>q_sl9Outcome d.1.1 d.1.2.1 d.1.2.2.1 d.1.2.2.2.1 d.1.2.2.2.2.1 d.2.1
noncomputable abbrev L_sl9Outcome:Nat→St→Option Tree:=fun b=>match b with | 0=>say_sl9Outcome_0 | _=>fun _=>none
theorem run_sl9Outcome:RunP true G17 (L_sl9Outcome) Try.f96 P_sl9Outcome pre_sl9Outcome g_sl9Outcome:=by
 rintro ⟨⟨a0,⟨a1,⟨a2,⟨a3,⟨a4,_⟩⟩⟩⟩⟩,⟨a5,_⟩⟩ hp
 change q_sl9Outcome a0 a1 a2 a3 a4 a5=true at hp
 unfold q_sl9Outcome at hp
 refine Eq.trans (b:=(cond (q_sl8At a4 a5) (cond (decide ((sl8At a4 a5) ≥ (0:Int))) (some (e_sl9Outcome (1:Int))) (cond ((it_sl9Outcome_0 a5 (2:Int) (0:Int) a0 a1 a2 a3 a4).1==0) (some (e_sl9Outcome ((it_sl9Outcome_0 a5 (2:Int) (0:Int) a0 a1 a2 a3 a4).2))) none)) none)) (by kernel_rfl) ?_
 exact (cndA hp fun hp=>(cndQ (F:=F_sl9Outcome) hp (fun hp=>rfl) (fun hp=>(cndT hp fun _h=>rfl))))
theorem c_sl9Outcome:PContract Try.prog 96 (sumOf P_sl9Outcome pre_sl9Outcome g_sl9Outcome):=PContract.of_data true G17 (by kernel_rfl) (hl1 (i:=0) (by kernel_rfl) lw_sl9Outcome_0) _ _ _ run_sl9Outcome
noncomputable def S18:Tab:=Tab.add S17 96 (lift (sumOf P_sl9Outcome pre_sl9Outcome g_sl9Outcome))
noncomputable def QF18:FuncId→Bool:=qadd QF17 96
theorem G18:Good Try.prog tt S18 QF18:=G17.addQ c_sl9Outcome ⟨Try.f96,by kernel_rfl,by kernel_rfl,by kernel_rfl⟩ (fun _=>rfl)

noncomputable abbrev jS37:List Sh:=.junk::jS36
noncomputable abbrev jS40:List Sh:=.junk::.junk::.junk::jS37
noncomputable abbrev jS38:List Sh:=.junk::jS37
noncomputable abbrev u41:=((),(),(),(),u37)
noncomputable abbrev u38:=((),u37)
noncomputable abbrev u39:=((),u38)
noncomputable abbrev jA40:List AV:=.junk::.junk::.junk::.junk::jA36
noncomputable abbrev jA37:List AV:=.junk::jA36
noncomputable abbrev jA38:List AV:=.junk::jA37
noncomputable abbrev jS39:List Sh:=.junk::jS38
noncomputable abbrev u40:=((),u39)
noncomputable abbrev jA39:List AV:=.junk::jA38
noncomputable abbrev jS44:List Sh:=.junk::.junk::.junk::.junk::jS40
noncomputable abbrev jA44:List AV:=.junk::.junk::.junk::.junk::jA40
noncomputable abbrev P_sl8Locked:List PSh:=[.t tq3,.t tq5]
noncomputable def body_sl8Locked_0:Code:=((loopsIn 0 (bodyOf Try.f97)).getD 0 (0,.skip)).2
noncomputable def body_sl8Locked_1:Code:=((loopsIn 0 body_sl8Locked_0).getD 0 (0,.skip)).2
noncomputable def body_sl8Locked_2:Code:=((loopsIn 2 body_sl8Locked_1).getD 0 (0,.skip)).2
noncomputable abbrev S_sl8Locked_2:SS:=⟨(.t false tq3::.t false tq5::.junk::.junk::.junk::.t true (.int .i64)::.t true (.int .i64)::.t true (.int .i64)::jS37),[]⟩
noncomputable abbrev E_sl8Locked_2_0:SS:=⟨(.junk::.junk::.junk::.junk::.t true .bool::jS40),[]⟩
noncomputable abbrev E_sl8Locked_2_1:SS:=⟨(.t false tq3::.t false tq5::.junk::.junk::.junk::.t true (.int .i64)::.t true (.int .i64)::jS38),[]⟩
noncomputable def st_sl8Locked_2 (x0:Lq1) (x1:Lq2) (x5:Int) (x6:Int) (x7:Int):RT S_sl8Locked_2.den:=(.br (decide (x7<((x1.length:Nat):Int))) (.br (decide (0≤x5∧x5<((x0.length:Nat):Int))) (.br (decide (0≤x6∧x6<(((((x0.getD x5.toNat ((0:Int),((0:Int),[]))).2).2).length:Nat):Int))) (.br (decide (0≤x7∧x7<((x1.length:Nat):Int))) (.br (((((((x0.getD x5.toNat ((0:Int),((0:Int),[]))).2).2).getD x6.toNat ((0:Int),(bE,bE))).2).1).toList==(((x1.getD x7.toNat ((0:Int),(bE,bE))).2).1).toList) (.done .ret E_sl8Locked_2_0 (((),(),(),(),true,u41),())) (.next ((x0,x1,(),(),(),x5,x6,IntKind.wrap .i64 (x7+(1:Int)),u38),()))) .fail) .fail) .fail) (.done (.exit 4) E_sl8Locked_2_1 ((x0,x1,(),(),(),x5,x6,u39),())))
noncomputable abbrev V_sl8Locked_2:=(Lq1)×(Lq2)×(Int)×(Int)×(Int)
noncomputable abbrev A_sl8Locked_2:=Nat×(Bool)×(Lq1)×(Lq2)×(Int)×(Int)
noncomputable def fl_sl8Locked_2:A_sl8Locked_2:=(99,(false:Bool),([]:Lq1),([]:Lq2),((0:Int):Int),((0:Int):Int))
noncomputable def ss_sl8Locked_2 (x0:Lq1) (x1:Lq2) (x5:Int) (x6:Int) (x7:Int):V_sl8Locked_2 ⊕ A_sl8Locked_2:=(cond (decide (x7<((x1.length:Nat):Int))) (cond (decide (0≤x5∧x5<((x0.length:Nat):Int))) (cond (decide (0≤x6∧x6<(((((x0.getD x5.toNat ((0:Int),((0:Int),[]))).2).2).length:Nat):Int))) (cond (decide (0≤x7∧x7<((x1.length:Nat):Int))) (cond (((((((x0.getD x5.toNat ((0:Int),((0:Int),[]))).2).2).getD x6.toNat ((0:Int),(bE,bE))).2).1).toList==(((x1.getD x7.toNat ((0:Int),(bE,bE))).2).1).toList) (.inr (0,true,([]:Lq1),([]:Lq2),((0:Int):Int),((0:Int):Int))) (.inl (x0,x1,x5,x6,IntKind.wrap .i64 (x7+(1:Int))))) (.inr fl_sl8Locked_2)) (.inr fl_sl8Locked_2)) (.inr fl_sl8Locked_2)) (.inr (1,(false:Bool),x0,x1,x5,x6)))
noncomputable def it_sl8Locked_2 (x0:Lq1) (x1:Lq2) (x5:Int) (x6:Int) (x7:Int):A_sl8Locked_2:=itX (fun v:V_sl8Locked_2=>ss_sl8Locked_2 v.1 v.2.1 v.2.2.1 v.2.2.2.1 v.2.2.2.2) fl_sl8Locked_2 (x0,x1,x5,x6,x7)
noncomputable def ct_sl8Locked_2 (a:A_sl8Locked_2):CT:=(.br (a.1==0) (.done .ret E_sl8Locked_2_0 (((),(),(),(),a.2.1,u41),())) (.br (a.1==1) (.done (.exit 4) E_sl8Locked_2_1 ((a.2.2.1,a.2.2.2.1,(),(),(),a.2.2.2.2.1,a.2.2.2.2.2,u39),())) .fail))
noncomputable def T_sl8Locked_2 (x0:Lq1) (x1:Lq2) (x5:Int) (x6:Int) (x7:Int):CT:=ct_sl8Locked_2 (it_sl8Locked_2 x0 x1 x5 x6 x7)
noncomputable abbrev sp_sl8Locked_2:S_sl8Locked_2.den→RT S_sl8Locked_2.den:=fun d=>st_sl8Locked_2 d.1.1 d.1.2.1 d.1.2.2.2.2.2.1 d.1.2.2.2.2.2.2.1 d.1.2.2.2.2.2.2.2.1
noncomputable abbrev pk_sl8Locked_2 (x0:Lq1) (x1:Lq2) (x5:Int) (x6:Int) (x7:Int):S_sl8Locked_2.den:=((x0,x1,(),(),(),x5,x6,x7,u38),())
noncomputable abbrev pv_sl8Locked_2 (v:V_sl8Locked_2):S_sl8Locked_2.den:=pk_sl8Locked_2 v.1 v.2.1 v.2.2.1 v.2.2.2.1 v.2.2.2.2
noncomputable def ox_sl8Locked_2 (x0:Lq1) (x1:Lq2) (x5:Int) (x6:Int) (x7:Int):Option (Ex×St):=(cond (decide (x7<((x1.length:Nat):Int))) (cond (decide (0≤x5∧x5<((x0.length:Nat):Int))) (cond (decide (0≤x6∧x6<(((((x0.getD x5.toNat ((0:Int),((0:Int),[]))).2).2).length:Nat):Int))) (cond (decide (0≤x7∧x7<((x1.length:Nat):Int))) (cond (((((((x0.getD x5.toNat ((0:Int),((0:Int),[]))).2).2).getD x6.toNat ((0:Int),(bE,bE))).2).1).toList==(((x1.getD x7.toNat ((0:Int),(bE,bE))).2).1).toList) (some (.ret,(⟨(.junk::.junk::.junk::.junk::(.t true .bool true)::jA40),[],0,[]⟩:St))) (some (.normal,(⟨((.t false tq3 x0)::(.t false tq5 x1)::.junk::.junk::.junk::(.t true (.int .i64) x5)::(.t true (.int .i64) x6)::(.t true (.int .i64) (IntKind.wrap .i64 (x7+(1:Int))))::jA37),[],0,[]⟩:St)))) none) none) none) (some ((.exit 4),(⟨((.t false tq3 x0)::(.t false tq5 x1)::.junk::.junk::.junk::(.t true (.int .i64) x5)::(.t true (.int .i64) x6)::jA38),[],0,[]⟩:St))))
theorem rdA_sl8Locked_2:RdA G18 (fun _ _=>none) 4 body_sl8Locked_2 S_sl8Locked_2 0 [] (kepts [4] [(4,[0,1,5,6])]) (fun d=>ox_sl8Locked_2 d.1.1 d.1.2.1 d.1.2.2.2.2.2.1 d.1.2.2.2.2.2.2.1 d.1.2.2.2.2.2.2.2.1):=by
 intro d
 kernel_rfl
theorem rdB_sl8Locked_2:∀ d:S_sl8Locked_2.den,ox_sl8Locked_2 d.1.1 d.1.2.1 d.1.2.2.2.2.2.1 d.1.2.2.2.2.2.2.1 d.1.2.2.2.2.2.2.2.1=(sp_sl8Locked_2 d).opt 0 []:=by
 intro d
 kernel_rfl
noncomputable abbrev say_sl8Locked_2:St→Option Tree:=S_sl8Locked_2.say 0 [] [] (fun d=>T_sl8Locked_2 d.1.1 d.1.2.1 d.1.2.2.2.2.2.1 d.1.2.2.2.2.2.2.1 d.1.2.2.2.2.2.2.2.1)
theorem lw_sl8Locked_2:LoopWp Try.prog say_sl8Locked_2 body_sl8Locked_2:=SS.wp2 (hl0 (by kernel_rfl)) [] sp_sl8Locked_2 rdA_sl8Locked_2 rdB_sl8Locked_2 _ (fun d=>Runs.ofIt (step:=sp_sl8Locked_2) pv_sl8Locked_2 (ct:=ct_sl8Locked_2) rfl (fun v=>((relB (relB (relB (relB (relB rfl rfl) rfl) rfl) rfl) rfl):(st_sl8Locked_2 v.1 v.2.1 v.2.2.1 v.2.2.2.1 v.2.2.2.2).val=relS pv_sl8Locked_2 ct_sl8Locked_2 (ss_sl8Locked_2 v.1 v.2.1 v.2.2.1 v.2.2.2.1 v.2.2.2.2))) (fun a=>((cendB (cendD (by simp)) (cendB (cendD (by simp)) cendF)):CEnd _ (ct_sl8Locked_2 a))) (d.1.1,d.1.2.1,d.1.2.2.2.2.2.1,d.1.2.2.2.2.2.2.1,d.1.2.2.2.2.2.2.2.1))
noncomputable abbrev S_sl8Locked_1:SS:=⟨(.t false tq3::.t false tq5::.junk::.junk::.junk::.t true (.int .i64)::.t true (.int .i64)::jS38),[]⟩
noncomputable abbrev E_sl8Locked_1_0:SS:=⟨(.junk::.junk::.junk::.junk::.t true .bool::jS40),[]⟩
noncomputable abbrev E_sl8Locked_1_1:SS:=⟨(.t false tq3::.t false tq5::.junk::.junk::.junk::.t true (.int .i64)::jS39),[]⟩
noncomputable def st_sl8Locked_1 (x0:Lq1) (x1:Lq2) (x5:Int) (x6:Int):RT S_sl8Locked_1.den:=(.br (decide (0≤x5∧x5<((x0.length:Nat):Int))) (.br (decide (x6<(((((x0.getD x5.toNat ((0:Int),((0:Int),[]))).2).2).length:Nat):Int))) (.br ((it_sl8Locked_2 x0 x1 x5 x6 (0:Int)).1==0) (.done .ret E_sl8Locked_1_0 (((),(),(),(),((it_sl8Locked_2 x0 x1 x5 x6 (0:Int)).2.1),u41),())) (.br ((it_sl8Locked_2 x0 x1 x5 x6 (0:Int)).1==1) (.next ((((it_sl8Locked_2 x0 x1 x5 x6 (0:Int)).2.2.1),((it_sl8Locked_2 x0 x1 x5 x6 (0:Int)).2.2.2.1),(),(),(),((it_sl8Locked_2 x0 x1 x5 x6 (0:Int)).2.2.2.2.1),IntKind.wrap .i64 (((it_sl8Locked_2 x0 x1 x5 x6 (0:Int)).2.2.2.2.2)+(1:Int)),u39),())) .fail)) (.done (.exit 2) E_sl8Locked_1_1 ((x0,x1,(),(),(),x5,u40),()))) .fail)
noncomputable abbrev V_sl8Locked_1:=(Lq1)×(Lq2)×(Int)×(Int)
noncomputable abbrev A_sl8Locked_1:=Nat×(Bool)×(Lq1)×(Lq2)×(Int)
noncomputable def fl_sl8Locked_1:A_sl8Locked_1:=(99,(false:Bool),([]:Lq1),([]:Lq2),((0:Int):Int))
noncomputable def ss_sl8Locked_1 (x0:Lq1) (x1:Lq2) (x5:Int) (x6:Int):V_sl8Locked_1 ⊕ A_sl8Locked_1:=(cond (decide (0≤x5∧x5<((x0.length:Nat):Int))) (cond (decide (x6<(((((x0.getD x5.toNat ((0:Int),((0:Int),[]))).2).2).length:Nat):Int))) (cond ((it_sl8Locked_2 x0 x1 x5 x6 (0:Int)).1==0) (.inr (0,((it_sl8Locked_2 x0 x1 x5 x6 (0:Int)).2.1),([]:Lq1),([]:Lq2),((0:Int):Int))) (cond ((it_sl8Locked_2 x0 x1 x5 x6 (0:Int)).1==1) (.inl (((it_sl8Locked_2 x0 x1 x5 x6 (0:Int)).2.2.1),((it_sl8Locked_2 x0 x1 x5 x6 (0:Int)).2.2.2.1),((it_sl8Locked_2 x0 x1 x5 x6 (0:Int)).2.2.2.2.1),IntKind.wrap .i64 (((it_sl8Locked_2 x0 x1 x5 x6 (0:Int)).2.2.2.2.2)+(1:Int)))) (.inr fl_sl8Locked_1))) (.inr (1,(false:Bool),x0,x1,x5))) (.inr fl_sl8Locked_1))
noncomputable def it_sl8Locked_1 (x0:Lq1) (x1:Lq2) (x5:Int) (x6:Int):A_sl8Locked_1:=itX (fun v:V_sl8Locked_1=>ss_sl8Locked_1 v.1 v.2.1 v.2.2.1 v.2.2.2) fl_sl8Locked_1 (x0,x1,x5,x6)
noncomputable def ct_sl8Locked_1 (a:A_sl8Locked_1):CT:=(.br (a.1==0) (.done .ret E_sl8Locked_1_0 (((),(),(),(),a.2.1,u41),())) (.br (a.1==1) (.done (.exit 2) E_sl8Locked_1_1 ((a.2.2.1,a.2.2.2.1,(),(),(),a.2.2.2.2,u40),())) .fail))
noncomputable def T_sl8Locked_1 (x0:Lq1) (x1:Lq2) (x5:Int) (x6:Int):CT:=ct_sl8Locked_1 (it_sl8Locked_1 x0 x1 x5 x6)
noncomputable abbrev sp_sl8Locked_1:S_sl8Locked_1.den→RT S_sl8Locked_1.den:=fun d=>st_sl8Locked_1 d.1.1 d.1.2.1 d.1.2.2.2.2.2.1 d.1.2.2.2.2.2.2.1
noncomputable abbrev pk_sl8Locked_1 (x0:Lq1) (x1:Lq2) (x5:Int) (x6:Int):S_sl8Locked_1.den:=((x0,x1,(),(),(),x5,x6,u39),())
noncomputable abbrev pv_sl8Locked_1 (v:V_sl8Locked_1):S_sl8Locked_1.den:=pk_sl8Locked_1 v.1 v.2.1 v.2.2.1 v.2.2.2
noncomputable abbrev L_sl8Locked_1:Nat→St→Option Tree:=fun b=>match b with | 4=>say_sl8Locked_2 | _=>fun _=>none
noncomputable def ox_sl8Locked_1 (x0:Lq1) (x1:Lq2) (x5:Int) (x6:Int):Option (Ex×St):=(cond (decide (0≤x5∧x5<((x0.length:Nat):Int))) (cond (decide (x6<(((((x0.getD x5.toNat ((0:Int),((0:Int),[]))).2).2).length:Nat):Int))) (cond ((it_sl8Locked_2 x0 x1 x5 x6 (0:Int)).1==0) (some (.ret,(⟨(.junk::.junk::.junk::.junk::(.t true .bool ((it_sl8Locked_2 x0 x1 x5 x6 (0:Int)).2.1))::jA40),[],0,[]⟩:St))) (cond ((it_sl8Locked_2 x0 x1 x5 x6 (0:Int)).1==1) (some (.normal,(⟨((.t false tq3 ((it_sl8Locked_2 x0 x1 x5 x6 (0:Int)).2.2.1))::(.t false tq5 ((it_sl8Locked_2 x0 x1 x5 x6 (0:Int)).2.2.2.1))::.junk::.junk::.junk::(.t true (.int .i64) ((it_sl8Locked_2 x0 x1 x5 x6 (0:Int)).2.2.2.2.1))::(.t true (.int .i64) (IntKind.wrap .i64 (((it_sl8Locked_2 x0 x1 x5 x6 (0:Int)).2.2.2.2.2)+(1:Int))))::jA38),[],0,[]⟩:St))) none)) (some ((.exit 2),(⟨((.t false tq3 x0)::(.t false tq5 x1)::.junk::.junk::.junk::(.t true (.int .i64) x5)::jA39),[],0,[]⟩:St)))) none)
theorem rdA_sl8Locked_1:RdA G18 (L_sl8Locked_1) 2 body_sl8Locked_1 S_sl8Locked_1 0 [] (kepts [4] [(2,[0,1,5])]) (fun d=>ox_sl8Locked_1 d.1.1 d.1.2.1 d.1.2.2.2.2.2.1 d.1.2.2.2.2.2.2.1):=by
 intro d
 kernel_rfl
theorem rdB_sl8Locked_1:∀ d:S_sl8Locked_1.den,ox_sl8Locked_1 d.1.1 d.1.2.1 d.1.2.2.2.2.2.1 d.1.2.2.2.2.2.2.1=(sp_sl8Locked_1 d).opt 0 []:=by
 intro d
 kernel_rfl
noncomputable abbrev say_sl8Locked_1:St→Option Tree:=S_sl8Locked_1.say 0 [] [] (fun d=>T_sl8Locked_1 d.1.1 d.1.2.1 d.1.2.2.2.2.2.1 d.1.2.2.2.2.2.2.1)
theorem lw_sl8Locked_1:LoopWp Try.prog say_sl8Locked_1 body_sl8Locked_1:=SS.wp2 (hl1 (i:=4) (by kernel_rfl) lw_sl8Locked_2) [] sp_sl8Locked_1 rdA_sl8Locked_1 rdB_sl8Locked_1 _ (fun d=>Runs.ofIt (step:=sp_sl8Locked_1) pv_sl8Locked_1 (ct:=ct_sl8Locked_1) rfl (fun v=>((relB (relB (relB rfl (relB rfl rfl)) rfl) rfl):(st_sl8Locked_1 v.1 v.2.1 v.2.2.1 v.2.2.2).val=relS pv_sl8Locked_1 ct_sl8Locked_1 (ss_sl8Locked_1 v.1 v.2.1 v.2.2.1 v.2.2.2))) (fun a=>((cendB (cendD (by simp)) (cendB (cendD (by simp)) cendF)):CEnd _ (ct_sl8Locked_1 a))) (d.1.1,d.1.2.1,d.1.2.2.2.2.2.1,d.1.2.2.2.2.2.2.1))
noncomputable abbrev S_sl8Locked_0:SS:=⟨(.t false tq3::.t false tq5::.junk::.junk::.junk::.t true (.int .i64)::jS39),[]⟩
noncomputable abbrev E_sl8Locked_0_0:SS:=⟨(.junk::.junk::.junk::.junk::.t true .bool::jS40),[]⟩
noncomputable abbrev E_sl8Locked_0_1:SS:=⟨(.junk::jS44),[]⟩
noncomputable def st_sl8Locked_0 (x0:Lq1) (x1:Lq2) (x5:Int):RT S_sl8Locked_0.den:=(.br (decide (x5<((x0.length:Nat):Int))) (.br ((it_sl8Locked_1 x0 x1 x5 (0:Int)).1==0) (.done .ret E_sl8Locked_0_0 (((),(),(),(),((it_sl8Locked_1 x0 x1 x5 (0:Int)).2.1),u41),())) (.br ((it_sl8Locked_1 x0 x1 x5 (0:Int)).1==1) (.next ((((it_sl8Locked_1 x0 x1 x5 (0:Int)).2.2.1),((it_sl8Locked_1 x0 x1 x5 (0:Int)).2.2.2.1),(),(),(),IntKind.wrap .i64 (((it_sl8Locked_1 x0 x1 x5 (0:Int)).2.2.2.2)+(1:Int)),u40),())) .fail)) (.done (.exit 0) E_sl8Locked_0_1 ((u46),())))
noncomputable abbrev V_sl8Locked_0:=(Lq1)×(Lq2)×(Int)
noncomputable abbrev A_sl8Locked_0:=Nat×(Bool)
noncomputable def fl_sl8Locked_0:A_sl8Locked_0:=(99,(false:Bool))
noncomputable def ss_sl8Locked_0 (x0:Lq1) (x1:Lq2) (x5:Int):V_sl8Locked_0 ⊕ A_sl8Locked_0:=(cond (decide (x5<((x0.length:Nat):Int))) (cond ((it_sl8Locked_1 x0 x1 x5 (0:Int)).1==0) (.inr (0,((it_sl8Locked_1 x0 x1 x5 (0:Int)).2.1))) (cond ((it_sl8Locked_1 x0 x1 x5 (0:Int)).1==1) (.inl (((it_sl8Locked_1 x0 x1 x5 (0:Int)).2.2.1),((it_sl8Locked_1 x0 x1 x5 (0:Int)).2.2.2.1),IntKind.wrap .i64 (((it_sl8Locked_1 x0 x1 x5 (0:Int)).2.2.2.2)+(1:Int)))) (.inr fl_sl8Locked_0))) (.inr (1,(false:Bool))))
noncomputable def it_sl8Locked_0 (x0:Lq1) (x1:Lq2) (x5:Int):A_sl8Locked_0:=itX (fun v:V_sl8Locked_0=>ss_sl8Locked_0 v.1 v.2.1 v.2.2) fl_sl8Locked_0 (x0,x1,x5)
noncomputable def ct_sl8Locked_0 (a:A_sl8Locked_0):CT:=(.br (a.1==0) (.done .ret E_sl8Locked_0_0 (((),(),(),(),a.2,u41),())) (.br (a.1==1) (.done (.exit 0) E_sl8Locked_0_1 ((u46),())) .fail))
noncomputable def T_sl8Locked_0 (x0:Lq1) (x1:Lq2) (x5:Int):CT:=ct_sl8Locked_0 (it_sl8Locked_0 x0 x1 x5)
noncomputable abbrev sp_sl8Locked_0:S_sl8Locked_0.den→RT S_sl8Locked_0.den:=fun d=>st_sl8Locked_0 d.1.1 d.1.2.1 d.1.2.2.2.2.2.1
noncomputable abbrev pk_sl8Locked_0 (x0:Lq1) (x1:Lq2) (x5:Int):S_sl8Locked_0.den:=((x0,x1,(),(),(),x5,u40),())
noncomputable abbrev pv_sl8Locked_0 (v:V_sl8Locked_0):S_sl8Locked_0.den:=pk_sl8Locked_0 v.1 v.2.1 v.2.2
noncomputable abbrev L_sl8Locked_0:Nat→St→Option Tree:=fun b=>match b with | 2=>say_sl8Locked_1 | _=>fun _=>none
noncomputable def ox_sl8Locked_0 (x0:Lq1) (x1:Lq2) (x5:Int):Option (Ex×St):=(cond (decide (x5<((x0.length:Nat):Int))) (cond ((it_sl8Locked_1 x0 x1 x5 (0:Int)).1==0) (some (.ret,(⟨(.junk::.junk::.junk::.junk::(.t true .bool ((it_sl8Locked_1 x0 x1 x5 (0:Int)).2.1))::jA40),[],0,[]⟩:St))) (cond ((it_sl8Locked_1 x0 x1 x5 (0:Int)).1==1) (some (.normal,(⟨((.t false tq3 ((it_sl8Locked_1 x0 x1 x5 (0:Int)).2.2.1))::(.t false tq5 ((it_sl8Locked_1 x0 x1 x5 (0:Int)).2.2.2.1))::.junk::.junk::.junk::(.t true (.int .i64) (IntKind.wrap .i64 (((it_sl8Locked_1 x0 x1 x5 (0:Int)).2.2.2.2)+(1:Int))))::jA39),[],0,[]⟩:St))) none)) (some ((.exit 0),(⟨(.junk::jA44),[],0,[]⟩:St))))
theorem rdA_sl8Locked_0:RdA G18 (L_sl8Locked_0) 0 body_sl8Locked_0 S_sl8Locked_0 0 [] (kepts [4] [(0,[])]) (fun d=>ox_sl8Locked_0 d.1.1 d.1.2.1 d.1.2.2.2.2.2.1):=by
 intro d
 kernel_rfl
theorem rdB_sl8Locked_0:∀ d:S_sl8Locked_0.den,ox_sl8Locked_0 d.1.1 d.1.2.1 d.1.2.2.2.2.2.1=(sp_sl8Locked_0 d).opt 0 []:=by
 intro d
 kernel_rfl
noncomputable abbrev say_sl8Locked_0:St→Option Tree:=S_sl8Locked_0.say 0 [] [] (fun d=>T_sl8Locked_0 d.1.1 d.1.2.1 d.1.2.2.2.2.2.1)
theorem lw_sl8Locked_0:LoopWp Try.prog say_sl8Locked_0 body_sl8Locked_0:=SS.wp2 (hl1 (i:=2) (by kernel_rfl) lw_sl8Locked_1) [] sp_sl8Locked_0 rdA_sl8Locked_0 rdB_sl8Locked_0 _ (fun d=>Runs.ofIt (step:=sp_sl8Locked_0) pv_sl8Locked_0 (ct:=ct_sl8Locked_0) rfl (fun v=>((relB (relB rfl (relB rfl rfl)) rfl):(st_sl8Locked_0 v.1 v.2.1 v.2.2).val=relS pv_sl8Locked_0 ct_sl8Locked_0 (ss_sl8Locked_0 v.1 v.2.1 v.2.2))) (fun a=>((cendB (cendD (by simp)) (cendB (cendD (by simp)) cendF)):CEnd _ (ct_sl8Locked_0 a))) (d.1.1,d.1.2.1,d.1.2.2.2.2.2.1))
noncomputable def sl8Locked (a0:Lq1) (a1:Lq2):Bool:=(cond ((it_sl8Locked_0 a0 a1 (0:Int)).1==0) ((it_sl8Locked_0 a0 a1 (0:Int)).2) false)
noncomputable abbrev e_sl8Locked (r:Bool):AV×List AObj:=((.t true .bool r),[])
noncomputable abbrev F_sl8Locked (r:Bool):=some (e_sl8Locked r)
noncomputable abbrev g_sl8Locked:pshsDen P_sl8Locked→AV×List AObj:=fun d=>e_sl8Locked (sl8Locked d.1 d.2.1)
noncomputable def q_sl8Locked (a0:Lq1) (a1:Lq2):Bool:=cond ((it_sl8Locked_0 a0 a1 (0:Int)).1==0) true ((it_sl8Locked_0 a0 a1 (0:Int)).1==1)
noncomputable abbrev pre_sl8Locked:pshsDen P_sl8Locked→Bool:=fun d=>q_sl8Locked d.1 d.2.1
noncomputable abbrev L_sl8Locked:Nat→St→Option Tree:=fun b=>match b with | 0=>say_sl8Locked_0 | _=>fun _=>none
theorem run_sl8Locked:RunP true G18 (L_sl8Locked) Try.f97 P_sl8Locked pre_sl8Locked g_sl8Locked:=by
 rintro ⟨a0,⟨a1,_⟩⟩ hp
 change q_sl8Locked a0 a1=true at hp
 unfold q_sl8Locked at hp
 refine Eq.trans (b:=(cond ((it_sl8Locked_0 a0 a1 (0:Int)).1==0) (some (e_sl8Locked ((it_sl8Locked_0 a0 a1 (0:Int)).2))) (cond ((it_sl8Locked_0 a0 a1 (0:Int)).1==1) (some (e_sl8Locked false)) none))) (by kernel_rfl) ?_
 exact (cndQ (F:=F_sl8Locked) hp (fun hp=>rfl) (fun hp=>(cndT hp fun _h=>rfl)))
theorem c_sl8Locked:PContract Try.prog 97 (sumOf P_sl8Locked pre_sl8Locked g_sl8Locked):=PContract.of_data true G18 (by kernel_rfl) (hl1 (i:=0) (by kernel_rfl) lw_sl8Locked_0) _ _ _ run_sl8Locked
noncomputable def S19:Tab:=Tab.add S18 97 (lift (sumOf P_sl8Locked pre_sl8Locked g_sl8Locked))
noncomputable def QF19:FuncId→Bool:=qadd QF18 97
theorem G19:Good Try.prog tt S19 QF19:=G18.addQ c_sl8Locked ⟨Try.f97,by kernel_rfl,by kernel_rfl,by kernel_rfl⟩ (fun _=>rfl)

noncomputable abbrev jS18:List Sh:=.junk::.junk::.junk::jS15
noncomputable abbrev u20:=((),u19)
noncomputable abbrev u26:=((),u25)
noncomputable abbrev P_sGetKey:List PSh:=[.t tq6,.t .str]
noncomputable abbrev S_sGetKey_0:SS:=⟨(.t false tq6::.t true .str::.junk::.junk::.junk::.junk::.t true (.int .i64)::jS18),[]⟩
noncomputable abbrev E_sGetKey_0_0:SS:=⟨(.junk::.junk::.junk::.junk::.t true .str::.t true .bool::jS19),[]⟩
noncomputable abbrev E_sGetKey_0_1:SS:=⟨(.junk::jS24),[]⟩
noncomputable def st_sGetKey_0 (x0:LBBe) (x1:ByteArray) (x6:Int):RT S_sGetKey_0.den:=(.br (decide (x6<((x0.length:Nat):Int))) (.br (decide (0≤x6∧x6<((x0.length:Nat):Int))) (.br (((x0.getD x6.toNat (bE,bE)).1).toList==x1.toList) (.br (decide (0≤x6∧x6<((x0.length:Nat):Int))) (.done .ret E_sGetKey_0_0 (((),(),(),(),(x0.getD x6.toNat (bE,bE)).2,true,u20),())) .fail) (.next ((x0,x1,(),(),(),(),IntKind.wrap .i64 (x6+(1:Int)),u19),()))) .fail) (.done (.exit 0) E_sGetKey_0_1 ((u26),())))
noncomputable abbrev V_sGetKey_0:=(LBBe)×(ByteArray)×(Int)
noncomputable abbrev A_sGetKey_0:=Nat×(ByteArray)×(Bool)
noncomputable def fl_sGetKey_0:A_sGetKey_0:=(99,(bE:ByteArray),(false:Bool))
noncomputable def ss_sGetKey_0 (x0:LBBe) (x1:ByteArray) (x6:Int):V_sGetKey_0 ⊕ A_sGetKey_0:=(cond (decide (x6<((x0.length:Nat):Int))) (cond (decide (0≤x6∧x6<((x0.length:Nat):Int))) (cond (((x0.getD x6.toNat (bE,bE)).1).toList==x1.toList) (cond (decide (0≤x6∧x6<((x0.length:Nat):Int))) (.inr (0,(x0.getD x6.toNat (bE,bE)).2,true)) (.inr fl_sGetKey_0)) (.inl (x0,x1,IntKind.wrap .i64 (x6+(1:Int))))) (.inr fl_sGetKey_0)) (.inr (1,(bE:ByteArray),(false:Bool))))
noncomputable def it_sGetKey_0 (x0:LBBe) (x1:ByteArray) (x6:Int):A_sGetKey_0:=itX (fun v:V_sGetKey_0=>ss_sGetKey_0 v.1 v.2.1 v.2.2) fl_sGetKey_0 (x0,x1,x6)
noncomputable def ct_sGetKey_0 (a:A_sGetKey_0):CT:=(.br (a.1==0) (.done .ret E_sGetKey_0_0 (((),(),(),(),a.2.1,a.2.2,u20),())) (.br (a.1==1) (.done (.exit 0) E_sGetKey_0_1 ((u26),())) .fail))
noncomputable def T_sGetKey_0 (x0:LBBe) (x1:ByteArray) (x6:Int):CT:=ct_sGetKey_0 (it_sGetKey_0 x0 x1 x6)
noncomputable abbrev sp_sGetKey_0:S_sGetKey_0.den→RT S_sGetKey_0.den:=fun d=>st_sGetKey_0 d.1.1 d.1.2.1 d.1.2.2.2.2.2.2.1
noncomputable abbrev pk_sGetKey_0 (x0:LBBe) (x1:ByteArray) (x6:Int):S_sGetKey_0.den:=((x0,x1,(),(),(),(),x6,u19),())
noncomputable def body_sGetKey_0:Code:=((loopsIn 0 (bodyOf Try.f130)).getD 0 (0,.skip)).2
noncomputable abbrev pv_sGetKey_0 (v:V_sGetKey_0):S_sGetKey_0.den:=pk_sGetKey_0 v.1 v.2.1 v.2.2
theorem rdA_sGetKey_0:RdA G19 (fun _ _=>none) 0 body_sGetKey_0 S_sGetKey_0 0 [] (kepts [4,5] [(0,[])]) (fun d=>(sp_sGetKey_0 d).opt 0 []):=by
 intro d
 kernel_rfl
noncomputable abbrev say_sGetKey_0:St→Option Tree:=S_sGetKey_0.say 0 [] [] (fun d=>T_sGetKey_0 d.1.1 d.1.2.1 d.1.2.2.2.2.2.2.1)
theorem lw_sGetKey_0:LoopWp Try.prog say_sGetKey_0 body_sGetKey_0:=SS.wp2 (hl0 (by kernel_rfl)) [] sp_sGetKey_0 rdA_sGetKey_0 (fun d=>rfl) _ (fun d=>Runs.ofIt (step:=sp_sGetKey_0) pv_sGetKey_0 (ct:=ct_sGetKey_0) rfl (fun v=>((relB (relB (relB (relB rfl rfl) rfl) rfl) rfl):(st_sGetKey_0 v.1 v.2.1 v.2.2).val=relS pv_sGetKey_0 ct_sGetKey_0 (ss_sGetKey_0 v.1 v.2.1 v.2.2))) (fun a=>((cendB (cendD (by simp)) (cendB (cendD (by simp)) cendF)):CEnd _ (ct_sGetKey_0 a))) (d.1.1,d.1.2.1,d.1.2.2.2.2.2.2.1))
noncomputable def sGetKey (a0:LBBe) (a1:ByteArray):ByteArray×Bool:=(cond ((it_sGetKey_0 a0 a1 (0:Int)).1==0) (((it_sGetKey_0 a0 a1 (0:Int)).2.1),((it_sGetKey_0 a0 a1 (0:Int)).2.2)) (bE,false))
noncomputable abbrev e_sGetKey (r:ByteArray×Bool):AV×List AObj:=((.tup [(.t true .str r.1),(.t true .bool r.2)]),[])
noncomputable abbrev F_sGetKey (r:ByteArray×Bool):=some (e_sGetKey r)
noncomputable abbrev g_sGetKey:pshsDen P_sGetKey→AV×List AObj:=fun d=>e_sGetKey (sGetKey d.1 d.2.1)
noncomputable def q_sGetKey (a0:LBBe) (a1:ByteArray):Bool:=cond ((it_sGetKey_0 a0 a1 (0:Int)).1==0) true ((it_sGetKey_0 a0 a1 (0:Int)).1==1)
noncomputable abbrev pre_sGetKey:pshsDen P_sGetKey→Bool:=fun d=>q_sGetKey d.1 d.2.1
noncomputable abbrev L_sGetKey:Nat→St→Option Tree:=fun b=>match b with | 0=>say_sGetKey_0 | _=>fun _=>none
theorem run_sGetKey:RunP true G19 (L_sGetKey) Try.f130 P_sGetKey pre_sGetKey g_sGetKey:=by
 rintro ⟨a0,⟨a1,_⟩⟩ hp
 change q_sGetKey a0 a1=true at hp
 unfold q_sGetKey at hp
 refine Eq.trans (b:=(cond ((it_sGetKey_0 a0 a1 (0:Int)).1==0) (some (e_sGetKey (((it_sGetKey_0 a0 a1 (0:Int)).2.1),((it_sGetKey_0 a0 a1 (0:Int)).2.2)))) (cond ((it_sGetKey_0 a0 a1 (0:Int)).1==1) (some (e_sGetKey ((⟨#[]⟩:ByteArray),false))) none))) (by kernel_rfl) ?_
 exact (cndQ (F:=F_sGetKey) hp (fun hp=>rfl) (fun hp=>(cndT hp fun _h=>rfl)))
theorem c_sGetKey:PContract Try.prog 130 (sumOf P_sGetKey pre_sGetKey g_sGetKey):=PContract.of_data true G19 (by kernel_rfl) (hl1 (i:=0) (by kernel_rfl) lw_sGetKey_0) _ _ _ run_sGetKey
noncomputable def S20:Tab:=Tab.add S19 130 (lift (sumOf P_sGetKey pre_sGetKey g_sGetKey))
noncomputable def QF20:FuncId→Bool:=qadd QF19 130
theorem G20:Good Try.prog tt S20 QF20:=G19.addQ c_sGetKey ⟨Try.f130,by kernel_rfl,by kernel_rfl,by kernel_rfl⟩ (fun _=>rfl)

noncomputable abbrev jS41:List Sh:=.junk::jS40
noncomputable abbrev jS42:List Sh:=.junk::jS41
noncomputable abbrev u42:=((),u41)
noncomputable abbrev u43:=((),u42)
noncomputable abbrev jA41:List AV:=.junk::jA40
noncomputable abbrev jA42:List AV:=.junk::jA41
noncomputable abbrev P_sMeets:List PSh:=[.t tq6,.t tq5]
noncomputable abbrev S_sMeets_0:SS:=⟨(.t false tq6::.t false tq5::.junk::.junk::.junk::.t true (.int .i64)::jS41),[]⟩
noncomputable abbrev E_sMeets_0_0:SS:=⟨(.junk::.junk::.junk::.junk::.t true .bool::jS42),[]⟩
noncomputable abbrev E_sMeets_0_1:SS:=⟨(.junk::jS46),[]⟩
noncomputable def k1_sMeets (x0:LBBe) (x1:Lq2) (x5:Int):=sGetKey x0 (((x1.getD x5.toNat ((0:Int),(bE,bE))).2).1)
noncomputable def st_sMeets_0 (x0:LBBe) (x1:Lq2) (x5:Int):RT S_sMeets_0.den:=(.br (decide (x5<((x1.length:Nat):Int))) (.br (decide (0≤x5∧x5<((x1.length:Nat):Int))) (.br (((x1.getD x5.toNat ((0:Int),(bE,bE))).1) != (3:Int)) (.next ((x0,x1,(),(),(),IntKind.wrap .i64 (x5+(1:Int)),u42),())) (.br (decide (0≤x5∧x5<((x1.length:Nat):Int))) (.br (q_sGetKey x0 (((x1.getD x5.toNat ((0:Int),(bE,bE))).2).1)) (.br (decide (0≤x5∧x5<((x1.length:Nat):Int))) (.br (!(((k1_sMeets x0 x1 x5).2)==(!((((x1.getD x5.toNat ((0:Int),(bE,bE))).2).2).toList==bE.toList)))) (.done .ret E_sMeets_0_0 (((),(),(),(),false,u43),())) (.br (decide (0≤x5∧x5<((x1.length:Nat):Int))) (.br (!(((k1_sMeets x0 x1 x5).1).toList==(((x1.getD x5.toNat ((0:Int),(bE,bE))).2).2).toList)) (.done .ret E_sMeets_0_0 (((),(),(),(),false,u43),())) (.next ((x0,x1,(),(),(),IntKind.wrap .i64 (x5+(1:Int)),u42),()))) .fail)) .fail) .fail) .fail)) .fail) (.done (.exit 0) E_sMeets_0_1 ((u48),())))
noncomputable abbrev V_sMeets_0:=(LBBe)×(Lq2)×(Int)
noncomputable abbrev A_sMeets_0:=Nat×(Bool)
noncomputable def fl_sMeets_0:A_sMeets_0:=(99,(false:Bool))
noncomputable def ss_sMeets_0 (x0:LBBe) (x1:Lq2) (x5:Int):V_sMeets_0 ⊕ A_sMeets_0:=(cond (decide (x5<((x1.length:Nat):Int))) (cond (decide (0≤x5∧x5<((x1.length:Nat):Int))) (cond (((x1.getD x5.toNat ((0:Int),(bE,bE))).1) != (3:Int)) (.inl (x0,x1,IntKind.wrap .i64 (x5+(1:Int)))) (cond (decide (0≤x5∧x5<((x1.length:Nat):Int))) (cond (q_sGetKey x0 (((x1.getD x5.toNat ((0:Int),(bE,bE))).2).1)) (cond (decide (0≤x5∧x5<((x1.length:Nat):Int))) (cond (!(((k1_sMeets x0 x1 x5).2)==(!((((x1.getD x5.toNat ((0:Int),(bE,bE))).2).2).toList==bE.toList)))) (.inr (0,false)) (cond (decide (0≤x5∧x5<((x1.length:Nat):Int))) (cond (!(((k1_sMeets x0 x1 x5).1).toList==(((x1.getD x5.toNat ((0:Int),(bE,bE))).2).2).toList)) (.inr (0,false)) (.inl (x0,x1,IntKind.wrap .i64 (x5+(1:Int))))) (.inr fl_sMeets_0))) (.inr fl_sMeets_0)) (.inr fl_sMeets_0)) (.inr fl_sMeets_0))) (.inr fl_sMeets_0)) (.inr (1,(false:Bool))))
noncomputable def it_sMeets_0 (x0:LBBe) (x1:Lq2) (x5:Int):A_sMeets_0:=itX (fun v:V_sMeets_0=>ss_sMeets_0 v.1 v.2.1 v.2.2) fl_sMeets_0 (x0,x1,x5)
noncomputable def ct_sMeets_0 (a:A_sMeets_0):CT:=(.br (a.1==0) (.done .ret E_sMeets_0_0 (((),(),(),(),a.2,u43),())) (.br (a.1==1) (.done (.exit 0) E_sMeets_0_1 ((u48),())) .fail))
noncomputable def T_sMeets_0 (x0:LBBe) (x1:Lq2) (x5:Int):CT:=ct_sMeets_0 (it_sMeets_0 x0 x1 x5)
noncomputable abbrev sp_sMeets_0:S_sMeets_0.den→RT S_sMeets_0.den:=fun d=>st_sMeets_0 d.1.1 d.1.2.1 d.1.2.2.2.2.2.1
noncomputable abbrev pk_sMeets_0 (x0:LBBe) (x1:Lq2) (x5:Int):S_sMeets_0.den:=((x0,x1,(),(),(),x5,u42),())
noncomputable def body_sMeets_0:Code:=((loopsIn 0 (bodyOf Try.f98)).getD 0 (0,.skip)).2
noncomputable abbrev pv_sMeets_0 (v:V_sMeets_0):S_sMeets_0.den:=pk_sMeets_0 v.1 v.2.1 v.2.2
noncomputable def ox_sMeets_0 (x0:LBBe) (x1:Lq2) (x5:Int):Option (Ex×St):=(cond (decide (x5<((x1.length:Nat):Int))) (cond (decide (0≤x5∧x5<((x1.length:Nat):Int))) (cond (((x1.getD x5.toNat ((0:Int),(bE,bE))).1) != (3:Int)) (some (.normal,(⟨((.t false tq6 x0)::(.t false tq5 x1)::.junk::.junk::.junk::(.t true (.int .i64) (IntKind.wrap .i64 (x5+(1:Int))))::jA41),[],0,[]⟩:St))) (cond (decide (0≤x5∧x5<((x1.length:Nat):Int))) (cond (q_sGetKey x0 (((x1.getD x5.toNat ((0:Int),(bE,bE))).2).1)) (cond (decide (0≤x5∧x5<((x1.length:Nat):Int))) (cond (!(((k1_sMeets x0 x1 x5).2)==(!((((x1.getD x5.toNat ((0:Int),(bE,bE))).2).2).toList==bE.toList)))) (some (.ret,(⟨(.junk::.junk::.junk::.junk::(.t true .bool false)::jA42),[],0,[]⟩:St))) (cond (decide (0≤x5∧x5<((x1.length:Nat):Int))) (cond (!(((k1_sMeets x0 x1 x5).1).toList==(((x1.getD x5.toNat ((0:Int),(bE,bE))).2).2).toList)) (some (.ret,(⟨(.junk::.junk::.junk::.junk::(.t true .bool false)::jA42),[],0,[]⟩:St))) (some (.normal,(⟨((.t false tq6 x0)::(.t false tq5 x1)::.junk::.junk::.junk::(.t true (.int .i64) (IntKind.wrap .i64 (x5+(1:Int))))::jA41),[],0,[]⟩:St)))) none)) none) none) none)) none) (some ((.exit 0),(⟨(.junk::jA46),[],0,[]⟩:St))))
theorem rdA_sMeets_0:RdA G20 (fun _ _=>none) 0 body_sMeets_0 S_sMeets_0 0 [] (kepts [4] [(0,[])]) (fun d=>ox_sMeets_0 d.1.1 d.1.2.1 d.1.2.2.2.2.2.1):=by
 intro d
 kernel_rfl
theorem rdB_sMeets_0:∀ d:S_sMeets_0.den,ox_sMeets_0 d.1.1 d.1.2.1 d.1.2.2.2.2.2.1=(sp_sMeets_0 d).opt 0 []:=by
 intro d
 kernel_rfl
noncomputable abbrev say_sMeets_0:St→Option Tree:=S_sMeets_0.say 0 [] [] (fun d=>T_sMeets_0 d.1.1 d.1.2.1 d.1.2.2.2.2.2.1)
theorem lw_sMeets_0:LoopWp Try.prog say_sMeets_0 body_sMeets_0:=SS.wp2 (hl0 (by kernel_rfl)) [] sp_sMeets_0 rdA_sMeets_0 rdB_sMeets_0 _ (fun d=>Runs.ofIt (step:=sp_sMeets_0) pv_sMeets_0 (ct:=ct_sMeets_0) rfl (fun v=>((relB (relB (relB rfl (relB (relB (relB (relB rfl (relB (relB rfl rfl) rfl)) rfl) rfl) rfl)) rfl) rfl):(st_sMeets_0 v.1 v.2.1 v.2.2).val=relS pv_sMeets_0 ct_sMeets_0 (ss_sMeets_0 v.1 v.2.1 v.2.2))) (fun a=>((cendB (cendD (by simp)) (cendB (cendD (by simp)) cendF)):CEnd _ (ct_sMeets_0 a))) (d.1.1,d.1.2.1,d.1.2.2.2.2.2.1))
noncomputable def sMeets (a0:LBBe) (a1:Lq2):Bool:=(cond ((it_sMeets_0 a0 a1 (0:Int)).1==0) ((it_sMeets_0 a0 a1 (0:Int)).2) true)
noncomputable abbrev e_sMeets (r:Bool):AV×List AObj:=((.t true .bool r),[])
noncomputable abbrev F_sMeets (r:Bool):=some (e_sMeets r)
noncomputable abbrev g_sMeets:pshsDen P_sMeets→AV×List AObj:=fun d=>e_sMeets (sMeets d.1 d.2.1)
noncomputable def q_sMeets (a0:LBBe) (a1:Lq2):Bool:=cond ((it_sMeets_0 a0 a1 (0:Int)).1==0) true ((it_sMeets_0 a0 a1 (0:Int)).1==1)
noncomputable abbrev pre_sMeets:pshsDen P_sMeets→Bool:=fun d=>q_sMeets d.1 d.2.1
noncomputable abbrev L_sMeets:Nat→St→Option Tree:=fun b=>match b with | 0=>say_sMeets_0 | _=>fun _=>none
theorem run_sMeets:RunP true G20 (L_sMeets) Try.f98 P_sMeets pre_sMeets g_sMeets:=by
 rintro ⟨a0,⟨a1,_⟩⟩ hp
 change q_sMeets a0 a1=true at hp
 unfold q_sMeets at hp
 refine Eq.trans (b:=(cond ((it_sMeets_0 a0 a1 (0:Int)).1==0) (some (e_sMeets ((it_sMeets_0 a0 a1 (0:Int)).2))) (cond ((it_sMeets_0 a0 a1 (0:Int)).1==1) (some (e_sMeets true)) none))) (by kernel_rfl) ?_
 exact (cndQ (F:=F_sMeets) hp (fun hp=>rfl) (fun hp=>(cndT hp fun _h=>rfl)))
theorem c_sMeets:PContract Try.prog 98 (sumOf P_sMeets pre_sMeets g_sMeets):=PContract.of_data true G20 (by kernel_rfl) (hl1 (i:=0) (by kernel_rfl) lw_sMeets_0) _ _ _ run_sMeets
noncomputable def S21:Tab:=Tab.add S20 98 (lift (sumOf P_sMeets pre_sMeets g_sMeets))
noncomputable def QF21:FuncId→Bool:=qadd QF20 98
theorem G21:Good Try.prog tt S21 QF21:=G20.addQ c_sMeets ⟨Try.f98,by kernel_rfl,by kernel_rfl,by kernel_rfl⟩ (fun _=>rfl)

noncomputable abbrev P_sl9Keys:List PSh:=[.agg [(.int .i64),tq3,(.int .i64),tq6,tq3],.t tq5]
noncomputable abbrev S_sl9Keys_0:SS:=⟨(.junk::.junk::.ptr 0 0 1 0::.junk::.junk::.t true (.int .i64)::.t true (.int .i64)::jS23),[.box [.t true (.int .i64),.t false tq3,.t true (.int .i64),.t false tq6,.t false tq3]]⟩
noncomputable abbrev E_sl9Keys_0_0:SS:=⟨(.junk::.junk::.junk::.junk::.junk::.t true (.int .i64)::jS24),[]⟩
noncomputable def st_sl9Keys_0 (x5:Int) (x6:Int) (p0:Int) (p1:Lq1) (p2:Int) (p3:LBBe) (p4:Lq1):RT S_sl9Keys_0.den:=(.br (decide (x6<((p4.length:Nat):Int))) (.br (decide (0≤x6∧x6<((p4.length:Nat):Int))) (.next (((),(),(),(),(),IntKind.wrap .i64 (x5+(((((p4.getD x6.toNat ((0:Int),((0:Int),[]))).2).2).length:Nat):Int)),IntKind.wrap .i64 (x6+(1:Int)),u24),((p0,p1,p2,p3,p4,()),()))) .fail) (.done (.exit 0) E_sl9Keys_0_0 (((),(),(),(),(),x5,u25),())))
noncomputable abbrev V_sl9Keys_0:=(Int)×(Int)
noncomputable abbrev A_sl9Keys_0:=Nat×(Int)
noncomputable def fl_sl9Keys_0:A_sl9Keys_0:=(99,((0:Int):Int))
noncomputable def ss_sl9Keys_0 (x5:Int) (x6:Int) (p0:Int) (p1:Lq1) (p2:Int) (p3:LBBe) (p4:Lq1):V_sl9Keys_0 ⊕ A_sl9Keys_0:=(cond (decide (x6<((p4.length:Nat):Int))) (cond (decide (0≤x6∧x6<((p4.length:Nat):Int))) (.inl (IntKind.wrap .i64 (x5+(((((p4.getD x6.toNat ((0:Int),((0:Int),[]))).2).2).length:Nat):Int)),IntKind.wrap .i64 (x6+(1:Int)))) (.inr fl_sl9Keys_0)) (.inr (0,x5)))
noncomputable def it_sl9Keys_0 (x5:Int) (x6:Int) (p0:Int) (p1:Lq1) (p2:Int) (p3:LBBe) (p4:Lq1):A_sl9Keys_0:=itX (fun v:V_sl9Keys_0=>ss_sl9Keys_0 v.1 v.2 p0 p1 p2 p3 p4) fl_sl9Keys_0 (x5,x6)
noncomputable def ct_sl9Keys_0 (p0:Int) (p1:Lq1) (p2:Int) (p3:LBBe) (p4:Lq1) (a:A_sl9Keys_0):CT:=(.br (a.1==0) (.done (.exit 0) E_sl9Keys_0_0 (((),(),(),(),(),a.2,u25),())) .fail)
noncomputable def T_sl9Keys_0 (x5:Int) (x6:Int) (p0:Int) (p1:Lq1) (p2:Int) (p3:LBBe) (p4:Lq1):CT:=(ct_sl9Keys_0 p0 p1 p2 p3 p4) (it_sl9Keys_0 x5 x6 p0 p1 p2 p3 p4)
noncomputable abbrev sp_sl9Keys_0:S_sl9Keys_0.den→RT S_sl9Keys_0.den:=fun d=>st_sl9Keys_0 d.1.2.2.2.2.2.1 d.1.2.2.2.2.2.2.1 d.2.1.1 d.2.1.2.1 d.2.1.2.2.1 d.2.1.2.2.2.1 d.2.1.2.2.2.2.1
noncomputable abbrev pk_sl9Keys_0 (x5:Int) (x6:Int) (p0:Int) (p1:Lq1) (p2:Int) (p3:LBBe) (p4:Lq1):S_sl9Keys_0.den:=(((),(),(),(),(),x5,x6,u24),((p0,p1,p2,p3,p4,()),()))
noncomputable def body_sl9Keys_0:Code:=((loopsIn 0 (bodyOf Try.f99)).getD 0 (0,.skip)).2
noncomputable abbrev pv_sl9Keys_0 (p0:Int) (p1:Lq1) (p2:Int) (p3:LBBe) (p4:Lq1) (v:V_sl9Keys_0):S_sl9Keys_0.den:=pk_sl9Keys_0 v.1 v.2 p0 p1 p2 p3 p4
theorem rdA_sl9Keys_0:RdA G21 (fun _ _=>none) 0 body_sl9Keys_0 S_sl9Keys_0 0 [] (kepts [] [(0,[5])]) (fun d=>(sp_sl9Keys_0 d).opt 0 []):=by
 intro d
 kernel_rfl
noncomputable abbrev say_sl9Keys_0:St→Option Tree:=S_sl9Keys_0.say 0 [] [] (fun d=>T_sl9Keys_0 d.1.2.2.2.2.2.1 d.1.2.2.2.2.2.2.1 d.2.1.1 d.2.1.2.1 d.2.1.2.2.1 d.2.1.2.2.2.1 d.2.1.2.2.2.2.1)
theorem lw_sl9Keys_0:LoopWp Try.prog say_sl9Keys_0 body_sl9Keys_0:=SS.wp2 (hl0 (by kernel_rfl)) [] sp_sl9Keys_0 rdA_sl9Keys_0 (fun d=>rfl) _ (fun d=>Runs.ofIt (step:=sp_sl9Keys_0) (pv_sl9Keys_0 d.2.1.1 d.2.1.2.1 d.2.1.2.2.1 d.2.1.2.2.2.1 d.2.1.2.2.2.2.1) (ct:=(ct_sl9Keys_0 d.2.1.1 d.2.1.2.1 d.2.1.2.2.1 d.2.1.2.2.2.1 d.2.1.2.2.2.2.1)) rfl (fun v=>((relB (relB rfl rfl) rfl):(st_sl9Keys_0 v.1 v.2 d.2.1.1 d.2.1.2.1 d.2.1.2.2.1 d.2.1.2.2.2.1 d.2.1.2.2.2.2.1).val=relS (pv_sl9Keys_0 d.2.1.1 d.2.1.2.1 d.2.1.2.2.1 d.2.1.2.2.2.1 d.2.1.2.2.2.2.1) (ct_sl9Keys_0 d.2.1.1 d.2.1.2.1 d.2.1.2.2.1 d.2.1.2.2.2.1 d.2.1.2.2.2.2.1) (ss_sl9Keys_0 v.1 v.2 d.2.1.1 d.2.1.2.1 d.2.1.2.2.1 d.2.1.2.2.2.1 d.2.1.2.2.2.2.1))) (fun a=>((cendB (cendD (by simp)) cendF):CEnd _ ((ct_sl9Keys_0 d.2.1.1 d.2.1.2.1 d.2.1.2.2.1 d.2.1.2.2.2.1 d.2.1.2.2.2.2.1) a))) (d.1.2.2.2.2.2.1,d.1.2.2.2.2.2.2.1))
noncomputable def k1_sl9Keys (a0:Int) (a1:Lq1) (a2:Int) (a3:LBBe) (a4:Lq1) (a5:Lq2):=it_sl9Keys_0 (IntKind.wrap .i64 (((a3.length:Nat):Int)+((a5.length:Nat):Int))) (0:Int) a0 a1 a2 a3 a4
noncomputable def sl9Keys (a0:Int) (a1:Lq1) (a2:Int) (a3:LBBe) (a4:Lq1) (a5:Lq2):Int:=((k1_sl9Keys a0 a1 a2 a3 a4 a5).2)
noncomputable abbrev e_sl9Keys (r:Int):AV×List AObj:=((.t true (.int .i64) r),[])
noncomputable abbrev F_sl9Keys (r:Int):=some (e_sl9Keys r)
noncomputable abbrev g_sl9Keys:pshsDen P_sl9Keys→AV×List AObj:=fun d=>e_sl9Keys (sl9Keys d.1.1 d.1.2.1 d.1.2.2.1 d.1.2.2.2.1 d.1.2.2.2.2.1 d.2.1)
noncomputable def q_sl9Keys (a0:Int) (a1:Lq1) (a2:Int) (a3:LBBe) (a4:Lq1) (a5:Lq2):Bool:=((k1_sl9Keys a0 a1 a2 a3 a4 a5).1==0)
noncomputable abbrev pre_sl9Keys:pshsDen P_sl9Keys→Bool:=fun d=>q_sl9Keys d.1.1 d.1.2.1 d.1.2.2.1 d.1.2.2.2.1 d.1.2.2.2.2.1 d.2.1
noncomputable abbrev L_sl9Keys:Nat→St→Option Tree:=fun b=>match b with | 0=>say_sl9Keys_0 | _=>fun _=>none
theorem run_sl9Keys:RunP true G21 (L_sl9Keys) Try.f99 P_sl9Keys pre_sl9Keys g_sl9Keys:=by
 rintro ⟨⟨a0,⟨a1,⟨a2,⟨a3,⟨a4,_⟩⟩⟩⟩⟩,⟨a5,_⟩⟩ hp
 change q_sl9Keys a0 a1 a2 a3 a4 a5=true at hp
 unfold q_sl9Keys at hp
 refine Eq.trans (b:=(cond ((k1_sl9Keys a0 a1 a2 a3 a4 a5).1==0) (some (e_sl9Keys ((k1_sl9Keys a0 a1 a2 a3 a4 a5).2))) none)) (by kernel_rfl) ?_
 exact (cndT hp fun _h=>rfl)
theorem c_sl9Keys:PContract Try.prog 99 (sumOf P_sl9Keys pre_sl9Keys g_sl9Keys):=PContract.of_data true G21 (by kernel_rfl) (hl1 (i:=0) (by kernel_rfl) lw_sl9Keys_0) _ _ _ run_sl9Keys
noncomputable def S22:Tab:=Tab.add S21 99 (lift (sumOf P_sl9Keys pre_sl9Keys g_sl9Keys))
noncomputable def QF22:FuncId→Bool:=qadd QF21 99
theorem G22:Good Try.prog tt S22 QF22:=G21.addQ c_sl9Keys ⟨Try.f99,by kernel_rfl,by kernel_rfl,by kernel_rfl⟩ (fun _=>rfl)

noncomputable abbrev P_sl7CopyOps:List PSh:=[.t tq5]
noncomputable def sl7CopyOps (a0:Lq2):Lq2:=(([]:Lq2)++a0)
noncomputable abbrev e_sl7CopyOps (r:Lq2):AV×List AObj:=((.t true tq5 r),[])
noncomputable abbrev F_sl7CopyOps (r:Lq2):=some (e_sl7CopyOps r)
noncomputable abbrev g_sl7CopyOps:pshsDen P_sl7CopyOps→AV×List AObj:=fun d=>e_sl7CopyOps (sl7CopyOps d.1)
noncomputable def q_sl7CopyOps (a0:Lq2):Bool:=decide ((([]:Lq2).length+a0.length)*40≤MAXB)
noncomputable abbrev pre_sl7CopyOps:pshsDen P_sl7CopyOps→Bool:=fun d=>q_sl7CopyOps d.1
theorem run_sl7CopyOps:RunP true G22 (fun _ _=>none) Try.f101 P_sl7CopyOps pre_sl7CopyOps g_sl7CopyOps:=by
 rintro ⟨a0,_⟩ hp
 change q_sl7CopyOps a0=true at hp
 unfold q_sl7CopyOps at hp
 refine Eq.trans (b:=(cond (decide ((([]:Lq2).length+a0.length)*40≤MAXB)) (some (e_sl7CopyOps (([]:Lq2)++a0))) none)) (by kernel_rfl) ?_
 exact (cndT hp fun _h=>rfl)
theorem c_sl7CopyOps:PContract Try.prog 101 (sumOf P_sl7CopyOps pre_sl7CopyOps g_sl7CopyOps):=PContract.of_data true G22 (by kernel_rfl) (hl0 (by kernel_rfl)) _ _ _ run_sl7CopyOps
noncomputable def S23:Tab:=Tab.add S22 101 (lift (sumOf P_sl7CopyOps pre_sl7CopyOps g_sl7CopyOps))
noncomputable def QF23:FuncId→Bool:=qadd QF22 101
theorem G23:Good Try.prog tt S23 QF23:=G22.addQ c_sl7CopyOps ⟨Try.f101,by kernel_rfl,by kernel_rfl,by kernel_rfl⟩ (fun _=>rfl)

noncomputable abbrev P_sRecOk:List PSh:=[.agg [(.int .i64),(.int .i64),tq5]]
noncomputable def sRecOk (a0:Int) (a1:Int) (a2:Lq2):Bool:=(cond (!(sl1In a1 (1:Int) (1000000:Int))) false (cond (a0==(1:Int)) (sOpsOk a2) (cond (a0==(2:Int)) (((a2.length:Nat):Int)==(0:Int)) (cond (a0==(3:Int)) (((a2.length:Nat):Int)==(0:Int)) false))))
noncomputable abbrev e_sRecOk (r:Bool):AV×List AObj:=((.t true .bool r),[])
noncomputable abbrev F_sRecOk (r:Bool):=some (e_sRecOk r)
noncomputable abbrev g_sRecOk:pshsDen P_sRecOk→AV×List AObj:=fun d=>e_sRecOk (sRecOk d.1.1 d.1.2.1 d.1.2.2.1)
noncomputable def q_sRecOk (a0:Int) (a1:Int) (a2:Lq2):Bool:=okOps a2
noncomputable abbrev pre_sRecOk:pshsDen P_sRecOk→Bool:=fun d=>q_sRecOk d.1.1 d.1.2.1 d.1.2.2.1
theorem run_sRecOk:RunP true G23 (fun _ _=>none) Try.f122 P_sRecOk pre_sRecOk g_sRecOk:=by
 rintro ⟨⟨a0,⟨a1,⟨a2,_⟩⟩⟩,_⟩ hp
 change q_sRecOk a0 a1 a2=true at hp
 unfold q_sRecOk at hp
 refine Eq.trans (b:=(cond (!(sl1In a1 (1:Int) (1000000:Int))) (some (e_sRecOk false)) (cond (a0==(1:Int)) (cond (q_sOpsOk a2) (some (e_sRecOk (sOpsOk a2))) none) (cond (a0==(2:Int)) (some (e_sRecOk (((a2.length:Nat):Int)==(0:Int)))) (cond (a0==(3:Int)) (some (e_sRecOk (((a2.length:Nat):Int)==(0:Int)))) (some (e_sRecOk false))))))) (by kernel_rfl) ?_
 exact (cnd (F:=F_sRecOk) (fun _h=>rfl) (fun _h=>(cnd (F:=F_sRecOk) (fun _h=>(cndT (by first | rfl | decide | exact hp | (simp only [Bool.and_eq_true] at hp;simp only [hp];done) | (simp [*];done) | (simp [okL] at hp;simp [okL,MAXB];omega) | (simp_all;done) | (simp at *;omega)) (fun _h=>rfl))) (fun _h=>(cnd (F:=F_sRecOk) (fun _h=>rfl) (fun _h=>(cnd (F:=F_sRecOk) (fun _h=>rfl) (fun _h=>rfl))))))))
theorem c_sRecOk:PContract Try.prog 122 (sumOf P_sRecOk pre_sRecOk g_sRecOk):=PContract.of_data true G23 (by kernel_rfl) (hl0 (by kernel_rfl)) _ _ _ run_sRecOk
noncomputable def S24:Tab:=Tab.add S23 122 (lift (sumOf P_sRecOk pre_sRecOk g_sRecOk))
noncomputable def QF24:FuncId→Bool:=qadd QF23 122
theorem G24:Good Try.prog tt S24 QF24:=G23.addQ c_sRecOk ⟨Try.f122,by kernel_rfl,by kernel_rfl,by kernel_rfl⟩ (fun _=>rfl)

noncomputable abbrev t_si:Ty:=.sl (.int .i64)
noncomputable abbrev jS12:List Sh:=.junk::.junk::.junk::.junk::.junk::.junk::.junk::.junk::.junk::.junk::.junk::.junk::[]
noncomputable abbrev jS17:List Sh:=.junk::.junk::jS15
noncomputable abbrev u13:=((),(),(),(),(),(),(),(),(),(),(),(),())
noncomputable abbrev P_sl7Has:List PSh:=[.t t_si,.t (.int .i64)]
noncomputable abbrev S_sl7Has_0:SS:=⟨(.t false t_si::.t true (.int .i64)::.junk::.junk::.junk::.t true (.int .i64)::jS12),[]⟩
noncomputable abbrev E_sl7Has_0_0:SS:=⟨(.junk::.junk::.junk::.junk::.t true .bool::jS13),[]⟩
noncomputable abbrev E_sl7Has_0_1:SS:=⟨(.junk::jS17),[]⟩
noncomputable def st_sl7Has_0 (x0:List Int) (x1:Int) (x5:Int):RT S_sl7Has_0.den:=(.br (decide (x5<((x0.length:Nat):Int))) (.br (decide (0≤x5∧x5<((x0.length:Nat):Int))) (.br ((x0.getD x5.toNat (0:Int))==x1) (.done .ret E_sl7Has_0_0 (((),(),(),(),true,u14),())) (.next ((x0,x1,(),(),(),IntKind.wrap .i64 (x5+(1:Int)),u13),()))) .fail) (.done (.exit 0) E_sl7Has_0_1 ((u19),())))
noncomputable abbrev V_sl7Has_0:=(List Int)×(Int)×(Int)
noncomputable abbrev A_sl7Has_0:=Nat×(Bool)
noncomputable def fl_sl7Has_0:A_sl7Has_0:=(99,(false:Bool))
noncomputable def ss_sl7Has_0 (x0:List Int) (x1:Int) (x5:Int):V_sl7Has_0 ⊕ A_sl7Has_0:=(cond (decide (x5<((x0.length:Nat):Int))) (cond (decide (0≤x5∧x5<((x0.length:Nat):Int))) (cond ((x0.getD x5.toNat (0:Int))==x1) (.inr (0,true)) (.inl (x0,x1,IntKind.wrap .i64 (x5+(1:Int))))) (.inr fl_sl7Has_0)) (.inr (1,(false:Bool))))
noncomputable def it_sl7Has_0 (x0:List Int) (x1:Int) (x5:Int):A_sl7Has_0:=itX (fun v:V_sl7Has_0=>ss_sl7Has_0 v.1 v.2.1 v.2.2) fl_sl7Has_0 (x0,x1,x5)
noncomputable def ct_sl7Has_0 (a:A_sl7Has_0):CT:=(.br (a.1==0) (.done .ret E_sl7Has_0_0 (((),(),(),(),a.2,u14),())) (.br (a.1==1) (.done (.exit 0) E_sl7Has_0_1 ((u19),())) .fail))
noncomputable def T_sl7Has_0 (x0:List Int) (x1:Int) (x5:Int):CT:=ct_sl7Has_0 (it_sl7Has_0 x0 x1 x5)
noncomputable abbrev sp_sl7Has_0:S_sl7Has_0.den→RT S_sl7Has_0.den:=fun d=>st_sl7Has_0 d.1.1 d.1.2.1 d.1.2.2.2.2.2.1
noncomputable abbrev pk_sl7Has_0 (x0:List Int) (x1:Int) (x5:Int):S_sl7Has_0.den:=((x0,x1,(),(),(),x5,u13),())
noncomputable def body_sl7Has_0:Code:=((loopsIn 0 (bodyOf Try.f123)).getD 0 (0,.skip)).2
noncomputable abbrev pv_sl7Has_0 (v:V_sl7Has_0):S_sl7Has_0.den:=pk_sl7Has_0 v.1 v.2.1 v.2.2
theorem rdA_sl7Has_0:RdA G24 (fun _ _=>none) 0 body_sl7Has_0 S_sl7Has_0 0 [] (kepts [4] [(0,[])]) (fun d=>(sp_sl7Has_0 d).opt 0 []):=by
 intro d
 kernel_rfl
noncomputable abbrev say_sl7Has_0:St→Option Tree:=S_sl7Has_0.say 0 [] [] (fun d=>T_sl7Has_0 d.1.1 d.1.2.1 d.1.2.2.2.2.2.1)
theorem lw_sl7Has_0:LoopWp Try.prog say_sl7Has_0 body_sl7Has_0:=SS.wp2 (hl0 (by kernel_rfl)) [] sp_sl7Has_0 rdA_sl7Has_0 (fun d=>rfl) _ (fun d=>Runs.ofIt (step:=sp_sl7Has_0) pv_sl7Has_0 (ct:=ct_sl7Has_0) rfl (fun v=>((relB (relB (relB rfl rfl) rfl) rfl):(st_sl7Has_0 v.1 v.2.1 v.2.2).val=relS pv_sl7Has_0 ct_sl7Has_0 (ss_sl7Has_0 v.1 v.2.1 v.2.2))) (fun a=>((cendB (cendD (by simp)) (cendB (cendD (by simp)) cendF)):CEnd _ (ct_sl7Has_0 a))) (d.1.1,d.1.2.1,d.1.2.2.2.2.2.1))
noncomputable def sl7Has (a0:List Int) (a1:Int):Bool:=(cond ((it_sl7Has_0 a0 a1 (0:Int)).1==0) ((it_sl7Has_0 a0 a1 (0:Int)).2) false)
noncomputable abbrev e_sl7Has (r:Bool):AV×List AObj:=((.t true .bool r),[])
noncomputable abbrev F_sl7Has (r:Bool):=some (e_sl7Has r)
noncomputable abbrev g_sl7Has:pshsDen P_sl7Has→AV×List AObj:=fun d=>e_sl7Has (sl7Has d.1 d.2.1)
noncomputable def q_sl7Has (a0:List Int) (a1:Int):Bool:=cond ((it_sl7Has_0 a0 a1 (0:Int)).1==0) true ((it_sl7Has_0 a0 a1 (0:Int)).1==1)
noncomputable abbrev pre_sl7Has:pshsDen P_sl7Has→Bool:=fun d=>q_sl7Has d.1 d.2.1
noncomputable abbrev L_sl7Has:Nat→St→Option Tree:=fun b=>match b with | 0=>say_sl7Has_0 | _=>fun _=>none
theorem run_sl7Has:RunP true G24 (L_sl7Has) Try.f123 P_sl7Has pre_sl7Has g_sl7Has:=by
 rintro ⟨a0,⟨a1,_⟩⟩ hp
 change q_sl7Has a0 a1=true at hp
 unfold q_sl7Has at hp
 refine Eq.trans (b:=(cond ((it_sl7Has_0 a0 a1 (0:Int)).1==0) (some (e_sl7Has ((it_sl7Has_0 a0 a1 (0:Int)).2))) (cond ((it_sl7Has_0 a0 a1 (0:Int)).1==1) (some (e_sl7Has false)) none))) (by kernel_rfl) ?_
 exact (cndQ (F:=F_sl7Has) hp (fun hp=>rfl) (fun hp=>(cndT hp fun _h=>rfl)))
theorem c_sl7Has:PContract Try.prog 123 (sumOf P_sl7Has pre_sl7Has g_sl7Has):=PContract.of_data true G24 (by kernel_rfl) (hl1 (i:=0) (by kernel_rfl) lw_sl7Has_0) _ _ _ run_sl7Has
noncomputable def S25:Tab:=Tab.add S24 123 (lift (sumOf P_sl7Has pre_sl7Has g_sl7Has))
noncomputable def QF25:FuncId→Bool:=qadd QF24 123
theorem G25:Good Try.prog tt S25 QF25:=G24.addQ c_sl7Has ⟨Try.f123,by kernel_rfl,by kernel_rfl,by kernel_rfl⟩ (fun _=>rfl)

noncomputable abbrev P_sl8CopyRec:List PSh:=[.agg [(.int .i64),(.int .i64),tq5]]
noncomputable def sl8CopyRec (a0:Int) (a1:Int) (a2:Lq2):Int×Int×Lq2:=(a0,a1,(sl7CopyOps a2))
noncomputable abbrev e_sl8CopyRec (r:Int×Int×Lq2):AV×List AObj:=((.agg [(.t true (.int .i64) r.1),(.t true (.int .i64) r.2.1),(.t true tq5 r.2.2)]),[])
noncomputable abbrev F_sl8CopyRec (r:Int×Int×Lq2):=some (e_sl8CopyRec r)
noncomputable abbrev g_sl8CopyRec:pshsDen P_sl8CopyRec→AV×List AObj:=fun d=>e_sl8CopyRec (sl8CopyRec d.1.1 d.1.2.1 d.1.2.2.1)
noncomputable def q_sl8CopyRec (a0:Int) (a1:Int) (a2:Lq2):Bool:=q_sl7CopyOps a2
noncomputable abbrev pre_sl8CopyRec:pshsDen P_sl8CopyRec→Bool:=fun d=>q_sl8CopyRec d.1.1 d.1.2.1 d.1.2.2.1
theorem run_sl8CopyRec:RunP true G25 (fun _ _=>none) Try.f124 P_sl8CopyRec pre_sl8CopyRec g_sl8CopyRec:=by
 rintro ⟨⟨a0,⟨a1,⟨a2,_⟩⟩⟩,_⟩ hp
 change q_sl8CopyRec a0 a1 a2=true at hp
 unfold q_sl8CopyRec at hp
 refine Eq.trans (b:=(cond (q_sl7CopyOps a2) (some (e_sl8CopyRec (a0,a1,(sl7CopyOps a2)))) none)) (by kernel_rfl) ?_
 exact (cndT hp fun _h=>rfl)
theorem c_sl8CopyRec:PContract Try.prog 124 (sumOf P_sl8CopyRec pre_sl8CopyRec g_sl8CopyRec):=PContract.of_data true G25 (by kernel_rfl) (hl0 (by kernel_rfl)) _ _ _ run_sl8CopyRec
noncomputable def S26:Tab:=Tab.add S25 124 (lift (sumOf P_sl8CopyRec pre_sl8CopyRec g_sl8CopyRec))
noncomputable def QF26:FuncId→Bool:=qadd QF25 124
theorem G26:Good Try.prog tt S26 QF26:=G25.addQ c_sl8CopyRec ⟨Try.f124,by kernel_rfl,by kernel_rfl,by kernel_rfl⟩ (fun _=>rfl)

noncomputable abbrev jS53:List Sh:=.junk::.junk::.junk::.junk::.junk::jS48
noncomputable abbrev jS55:List Sh:=.junk::.junk::jS53
noncomputable abbrev jS59:List Sh:=.junk::.junk::.junk::.junk::jS55
noncomputable abbrev u63:=((),(),(),(),(),(),(),(),(),(),(),(),(),(),u49)
noncomputable abbrev u54:=((),(),(),(),(),u49)
noncomputable abbrev u60:=((),(),(),(),(),(),u54)
noncomputable abbrev jA55:List AV:=.junk::.junk::.junk::.junk::.junk::.junk::.junk::jA48
noncomputable abbrev jA53:List AV:=.junk::.junk::.junk::.junk::.junk::jA48
noncomputable abbrev jA59:List AV:=.junk::.junk::.junk::.junk::jA55
noncomputable abbrev jS52:List Sh:=.junk::.junk::.junk::.junk::jS48
noncomputable abbrev u53:=((),(),(),(),u49)
noncomputable abbrev jA52:List AV:=.junk::.junk::.junk::.junk::jA48
noncomputable abbrev P_sPutKey:List PSh:=[.t tq6,.t .str,.t .str]
noncomputable def body_sPutKey_0:Code:=((loopsIn 0 (bodyOf Try.f139)).getD 0 (0,.skip)).2
noncomputable def body_sPutKey_1:Code:=((loopsIn 0 (bodyOf Try.f139)).getD 1 (0,.skip)).2
noncomputable abbrev S_sPutKey_0:SS:=⟨(.t false tq6::.t true .str::.t true .str::.junk::.junk::.junk::.junk::.all 0 2::.t true (.int .i64)::jS53),[.rows 70 true t_ptt]⟩
noncomputable abbrev E_sPutKey_0_0:SS:=⟨(.junk::.junk::.junk::.junk::.junk::.junk::.all 0 2::jS55),[.rows 70 true t_ptt]⟩
noncomputable abbrev E_sPutKey_0_1:SS:=⟨(.t false tq6::.t true .str::.t true .str::jS59),[]⟩
noncomputable def st_sPutKey_0 (x0:LBBe) (x1:ByteArray) (x2:ByteArray) (x8:Int) (h0:LBBe):RT S_sPutKey_0.den:=(.br (decide (x8<((h0.length:Nat):Int))) (.br (decide (0≤x8∧x8<((h0.length:Nat):Int))) (.br (((h0.getD x8.toNat (bE,bE)).1).toList==x1.toList) (.br (decide (0≤x8∧x8<((h0.length:Nat):Int))) (.done .ret E_sPutKey_0_0 ((u63),(h0.set x8.toNat ((h0.getD x8.toNat (bE,bE)).1,x2),()))) .fail) (.next ((x0,x1,x2,(),(),(),(),(),IntKind.wrap .i64 (x8+(1:Int)),u54),(h0,())))) .fail) (.done (.exit 0) E_sPutKey_0_1 ((x0,x1,x2,u60),())))
noncomputable abbrev V_sPutKey_0:=(LBBe)×(ByteArray)×(ByteArray)×(Int)×(LBBe)
noncomputable abbrev A_sPutKey_0:=Nat×(LBBe)×(LBBe)×(ByteArray)×(ByteArray)
noncomputable def fl_sPutKey_0:A_sPutKey_0:=(99,([]:LBBe),([]:LBBe),(bE:ByteArray),(bE:ByteArray))
noncomputable def ss_sPutKey_0 (x0:LBBe) (x1:ByteArray) (x2:ByteArray) (x8:Int) (h0:LBBe):V_sPutKey_0 ⊕ A_sPutKey_0:=(cond (decide (x8<((h0.length:Nat):Int))) (cond (decide (0≤x8∧x8<((h0.length:Nat):Int))) (cond (((h0.getD x8.toNat (bE,bE)).1).toList==x1.toList) (cond (decide (0≤x8∧x8<((h0.length:Nat):Int))) (.inr (0,h0.set x8.toNat ((h0.getD x8.toNat (bE,bE)).1,x2),([]:LBBe),(bE:ByteArray),(bE:ByteArray))) (.inr fl_sPutKey_0)) (.inl (x0,x1,x2,IntKind.wrap .i64 (x8+(1:Int)),h0))) (.inr fl_sPutKey_0)) (.inr (1,([]:LBBe),x0,x1,x2)))
noncomputable def it_sPutKey_0 (x0:LBBe) (x1:ByteArray) (x2:ByteArray) (x8:Int) (h0:LBBe):A_sPutKey_0:=itX (fun v:V_sPutKey_0=>ss_sPutKey_0 v.1 v.2.1 v.2.2.1 v.2.2.2.1 v.2.2.2.2) fl_sPutKey_0 (x0,x1,x2,x8,h0)
noncomputable def ct_sPutKey_0 (a:A_sPutKey_0):CT:=(.br (a.1==0) (.done .ret E_sPutKey_0_0 ((u63),(a.2.1,()))) (.br (a.1==1) (.done (.exit 0) E_sPutKey_0_1 ((a.2.2.1,a.2.2.2.1,a.2.2.2.2,u60),())) .fail))
noncomputable def T_sPutKey_0 (x0:LBBe) (x1:ByteArray) (x2:ByteArray) (x8:Int) (h0:LBBe):CT:=ct_sPutKey_0 (it_sPutKey_0 x0 x1 x2 x8 h0)
noncomputable abbrev sp_sPutKey_0:S_sPutKey_0.den→RT S_sPutKey_0.den:=fun d=>st_sPutKey_0 d.1.1 d.1.2.1 d.1.2.2.1 d.1.2.2.2.2.2.2.2.2.1 d.2.1
noncomputable abbrev pk_sPutKey_0 (x0:LBBe) (x1:ByteArray) (x2:ByteArray) (x8:Int) (h0:LBBe):S_sPutKey_0.den:=((x0,x1,x2,(),(),(),(),(),x8,u54),(h0,()))
noncomputable abbrev pv_sPutKey_0 (v:V_sPutKey_0):S_sPutKey_0.den:=pk_sPutKey_0 v.1 v.2.1 v.2.2.1 v.2.2.2.1 v.2.2.2.2
noncomputable def ox_sPutKey_0 (x0:LBBe) (x1:ByteArray) (x2:ByteArray) (x8:Int) (h0:LBBe):Option (Ex×St):=(cond (decide (x8<((h0.length:Nat):Int))) (cond (decide (0≤x8∧x8<((h0.length:Nat):Int))) (cond (((h0.getD x8.toNat (bE,bE)).1).toList==x1.toList) (cond (decide (0≤x8∧x8<((h0.length:Nat):Int))) (some (.ret,(⟨(.junk::.junk::.junk::.junk::.junk::.junk::(.all 0 2)::jA55),[(.rows 70 true t_ptt (h0.set x8.toNat ((h0.getD x8.toNat (bE,bE)).1,x2)))],0,[]⟩:St))) none) (some (.normal,(⟨((.t false tq6 x0)::(.t true .str x1)::(.t true .str x2)::.junk::.junk::.junk::.junk::(.all 0 2)::(.t true (.int .i64) (IntKind.wrap .i64 (x8+(1:Int))))::jA53),[(.rows 70 true t_ptt h0)],0,[]⟩:St)))) none) (some ((.exit 0),(⟨((.t false tq6 x0)::(.t true .str x1)::(.t true .str x2)::jA59),[],0,[]⟩:St))))
theorem rdA_sPutKey_0:RdA G26 (fun _ _=>none) 0 body_sPutKey_0 S_sPutKey_0 0 [] (kepts [6] [(0,[0,1,2])]) (fun d=>ox_sPutKey_0 d.1.1 d.1.2.1 d.1.2.2.1 d.1.2.2.2.2.2.2.2.2.1 d.2.1):=by
 intro d
 kernel_rfl
theorem rdB_sPutKey_0:∀ d:S_sPutKey_0.den,ox_sPutKey_0 d.1.1 d.1.2.1 d.1.2.2.1 d.1.2.2.2.2.2.2.2.2.1 d.2.1=(sp_sPutKey_0 d).opt 0 []:=by
 intro d
 kernel_rfl
noncomputable abbrev say_sPutKey_0:St→Option Tree:=S_sPutKey_0.say 0 [] [] (fun d=>T_sPutKey_0 d.1.1 d.1.2.1 d.1.2.2.1 d.1.2.2.2.2.2.2.2.2.1 d.2.1)
theorem lw_sPutKey_0:LoopWp Try.prog say_sPutKey_0 body_sPutKey_0:=SS.wp2 (hl0 (by kernel_rfl)) [] sp_sPutKey_0 rdA_sPutKey_0 rdB_sPutKey_0 _ (fun d=>Runs.ofIt (step:=sp_sPutKey_0) pv_sPutKey_0 (ct:=ct_sPutKey_0) rfl (fun v=>((relB (relB (relB (relB rfl rfl) rfl) rfl) rfl):(st_sPutKey_0 v.1 v.2.1 v.2.2.1 v.2.2.2.1 v.2.2.2.2).val=relS pv_sPutKey_0 ct_sPutKey_0 (ss_sPutKey_0 v.1 v.2.1 v.2.2.1 v.2.2.2.1 v.2.2.2.2))) (fun a=>((cendB (cendD (by simp)) (cendB (cendD (by simp)) cendF)):CEnd _ (ct_sPutKey_0 a))) (d.1.1,d.1.2.1,d.1.2.2.1,d.1.2.2.2.2.2.2.2.2.1,d.2.1))
noncomputable abbrev S_sPutKey_1:SS:=⟨(.t false tq6::.t true .str::.t true .str::.junk::.junk::.junk::.junk::.junk::.junk::.t true (.int .i64)::jS52),[]⟩
noncomputable abbrev E_sPutKey_1_0:SS:=⟨(.t false tq6::.t true .str::.t true .str::.junk::.junk::.junk::.junk::.junk::.junk::.t true (.int .i64)::jS52),[]⟩
noncomputable def st_sPutKey_1 (x0:LBBe) (x1:ByteArray) (x2:ByteArray) (x9:Int):RT S_sPutKey_1.den:=(.br (decide (x9<((x0.length:Nat):Int))) (.br (decide (0≤x9∧x9<((x0.length:Nat):Int))) (.br (Op.bytesLess ((x0.getD x9.toNat (bE,bE)).1).toList x1.toList||(((x0.getD x9.toNat (bE,bE)).1).toList==x1.toList)) (.next ((x0,x1,x2,(),(),(),(),(),(),IntKind.wrap .i64 (x9+(1:Int)),u53),())) (.done (.exit 2) E_sPutKey_1_0 ((x0,x1,x2,(),(),(),(),(),(),x9,u53),()))) .fail) (.done (.exit 2) E_sPutKey_1_0 ((x0,x1,x2,(),(),(),(),(),(),x9,u53),())))
noncomputable abbrev V_sPutKey_1:=(LBBe)×(ByteArray)×(ByteArray)×(Int)
noncomputable abbrev A_sPutKey_1:=Nat×(LBBe)×(ByteArray)×(ByteArray)×(Int)
noncomputable def fl_sPutKey_1:A_sPutKey_1:=(99,([]:LBBe),(bE:ByteArray),(bE:ByteArray),((0:Int):Int))
noncomputable def ss_sPutKey_1 (x0:LBBe) (x1:ByteArray) (x2:ByteArray) (x9:Int):V_sPutKey_1 ⊕ A_sPutKey_1:=(cond (decide (x9<((x0.length:Nat):Int))) (cond (decide (0≤x9∧x9<((x0.length:Nat):Int))) (cond (Op.bytesLess ((x0.getD x9.toNat (bE,bE)).1).toList x1.toList||(((x0.getD x9.toNat (bE,bE)).1).toList==x1.toList)) (.inl (x0,x1,x2,IntKind.wrap .i64 (x9+(1:Int)))) (.inr (0,x0,x1,x2,x9))) (.inr fl_sPutKey_1)) (.inr (0,x0,x1,x2,x9)))
noncomputable def it_sPutKey_1 (x0:LBBe) (x1:ByteArray) (x2:ByteArray) (x9:Int):A_sPutKey_1:=itX (fun v:V_sPutKey_1=>ss_sPutKey_1 v.1 v.2.1 v.2.2.1 v.2.2.2) fl_sPutKey_1 (x0,x1,x2,x9)
noncomputable def ct_sPutKey_1 (a:A_sPutKey_1):CT:=(.br (a.1==0) (.done (.exit 2) E_sPutKey_1_0 ((a.2.1,a.2.2.1,a.2.2.2.1,(),(),(),(),(),(),a.2.2.2.2,u53),())) .fail)
noncomputable def T_sPutKey_1 (x0:LBBe) (x1:ByteArray) (x2:ByteArray) (x9:Int):CT:=ct_sPutKey_1 (it_sPutKey_1 x0 x1 x2 x9)
noncomputable abbrev sp_sPutKey_1:S_sPutKey_1.den→RT S_sPutKey_1.den:=fun d=>st_sPutKey_1 d.1.1 d.1.2.1 d.1.2.2.1 d.1.2.2.2.2.2.2.2.2.2.1
noncomputable abbrev pk_sPutKey_1 (x0:LBBe) (x1:ByteArray) (x2:ByteArray) (x9:Int):S_sPutKey_1.den:=((x0,x1,x2,(),(),(),(),(),(),x9,u53),())
noncomputable abbrev pv_sPutKey_1 (v:V_sPutKey_1):S_sPutKey_1.den:=pk_sPutKey_1 v.1 v.2.1 v.2.2.1 v.2.2.2
noncomputable def ox_sPutKey_1 (x0:LBBe) (x1:ByteArray) (x2:ByteArray) (x9:Int):Option (Ex×St):=(cond (decide (x9<((x0.length:Nat):Int))) (cond (decide (0≤x9∧x9<((x0.length:Nat):Int))) (cond (Op.bytesLess ((x0.getD x9.toNat (bE,bE)).1).toList x1.toList||(((x0.getD x9.toNat (bE,bE)).1).toList==x1.toList)) (some (.normal,(⟨((.t false tq6 x0)::(.t true .str x1)::(.t true .str x2)::.junk::.junk::.junk::.junk::.junk::.junk::(.t true (.int .i64) (IntKind.wrap .i64 (x9+(1:Int))))::jA52),[],0,[]⟩:St))) (some ((.exit 2),(⟨((.t false tq6 x0)::(.t true .str x1)::(.t true .str x2)::.junk::.junk::.junk::.junk::.junk::.junk::(.t true (.int .i64) x9)::jA52),[],0,[]⟩:St)))) none) (some ((.exit 2),(⟨((.t false tq6 x0)::(.t true .str x1)::(.t true .str x2)::.junk::.junk::.junk::.junk::.junk::.junk::(.t true (.int .i64) x9)::jA52),[],0,[]⟩:St))))
theorem rdA_sPutKey_1:RdA G26 (fun _ _=>none) 2 body_sPutKey_1 S_sPutKey_1 0 [] (kepts [] [(2,[0,1,2,9])]) (fun d=>ox_sPutKey_1 d.1.1 d.1.2.1 d.1.2.2.1 d.1.2.2.2.2.2.2.2.2.2.1):=by
 intro d
 kernel_rfl
theorem rdB_sPutKey_1:∀ d:S_sPutKey_1.den,ox_sPutKey_1 d.1.1 d.1.2.1 d.1.2.2.1 d.1.2.2.2.2.2.2.2.2.2.1=(sp_sPutKey_1 d).opt 0 []:=by
 intro d
 kernel_rfl
noncomputable abbrev say_sPutKey_1:St→Option Tree:=S_sPutKey_1.say 0 [] [] (fun d=>T_sPutKey_1 d.1.1 d.1.2.1 d.1.2.2.1 d.1.2.2.2.2.2.2.2.2.2.1)
theorem lw_sPutKey_1:LoopWp Try.prog say_sPutKey_1 body_sPutKey_1:=SS.wp2 (hl0 (by kernel_rfl)) [] sp_sPutKey_1 rdA_sPutKey_1 rdB_sPutKey_1 _ (fun d=>Runs.ofIt (step:=sp_sPutKey_1) pv_sPutKey_1 (ct:=ct_sPutKey_1) rfl (fun v=>((relB (relB (relB rfl rfl) rfl) rfl):(st_sPutKey_1 v.1 v.2.1 v.2.2.1 v.2.2.2).val=relS pv_sPutKey_1 ct_sPutKey_1 (ss_sPutKey_1 v.1 v.2.1 v.2.2.1 v.2.2.2))) (fun a=>((cendB (cendD (by simp)) cendF):CEnd _ (ct_sPutKey_1 a))) (d.1.1,d.1.2.1,d.1.2.2.1,d.1.2.2.2.2.2.2.2.2.2.1))
noncomputable def k1_sPutKey (a0:LBBe) (a1:ByteArray) (a2:ByteArray):=it_sPutKey_1 ((it_sPutKey_0 a0 a1 a2 (0:Int) (([]:LBBe)++a0)).2.2.1) ((it_sPutKey_0 a0 a1 a2 (0:Int) (([]:LBBe)++a0)).2.2.2.1) ((it_sPutKey_0 a0 a1 a2 (0:Int) (([]:LBBe)++a0)).2.2.2.2) (0:Int)
noncomputable def sPutKey (a0:LBBe) (a1:ByteArray) (a2:ByteArray):LBBe:=(cond ((it_sPutKey_0 a0 a1 a2 (0:Int) (([]:LBBe)++a0)).1==0) ((it_sPutKey_0 a0 a1 a2 (0:Int) (([]:LBBe)++a0)).2.1) (((([]:LBBe)++((((k1_sPutKey a0 a1 a2).2.1).take ((k1_sPutKey a0 a1 a2).2.2.2.2).toNat).drop (0:Int).toNat))++[(((k1_sPutKey a0 a1 a2).2.2.1),((k1_sPutKey a0 a1 a2).2.2.2.1))])++((((k1_sPutKey a0 a1 a2).2.1).take ((((k1_sPutKey a0 a1 a2).2.1).length:Nat):Int).toNat).drop ((k1_sPutKey a0 a1 a2).2.2.2.2).toNat)))
noncomputable abbrev e_sPutKey (r:LBBe):AV×List AObj:=((.all 0 2),[(.rows 70 true t_ptt r)])
noncomputable abbrev F_sPutKey (r:LBBe):=some (e_sPutKey r)
noncomputable abbrev g_sPutKey:pshsDen P_sPutKey→AV×List AObj:=fun d=>e_sPutKey (sPutKey d.1 d.2.1 d.2.2.1)
noncomputable def q_sPutKey (a0:LBBe) (a1:ByteArray) (a2:ByteArray):Bool:=(decide ((([]:LBBe).length+a0.length)*32≤MAXB))&&(cond ((it_sPutKey_0 a0 a1 a2 (0:Int) (([]:LBBe)++a0)).1==0) true (((it_sPutKey_0 a0 a1 a2 (0:Int) (([]:LBBe)++a0)).1==1)&&(((k1_sPutKey a0 a1 a2).1==0)&&((decide (0≤(0:Int)∧(0:Int)≤((k1_sPutKey a0 a1 a2).2.2.2.2)∧((k1_sPutKey a0 a1 a2).2.2.2.2)≤((((k1_sPutKey a0 a1 a2).2.1).length:Nat):Int)))&&((decide ((([]:LBBe).length+((((k1_sPutKey a0 a1 a2).2.1).take ((k1_sPutKey a0 a1 a2).2.2.2.2).toNat).drop (0:Int).toNat).length)*32≤MAXB))&&((decide (((([]:LBBe)++((((k1_sPutKey a0 a1 a2).2.1).take ((k1_sPutKey a0 a1 a2).2.2.2.2).toNat).drop (0:Int).toNat)).length+[(((k1_sPutKey a0 a1 a2).2.2.1),((k1_sPutKey a0 a1 a2).2.2.2.1))].length)*32≤MAXB))&&((decide (0≤((k1_sPutKey a0 a1 a2).2.2.2.2)∧((k1_sPutKey a0 a1 a2).2.2.2.2)≤((((k1_sPutKey a0 a1 a2).2.1).length:Nat):Int)∧((((k1_sPutKey a0 a1 a2).2.1).length:Nat):Int)≤((((k1_sPutKey a0 a1 a2).2.1).length:Nat):Int)))&&(decide ((((([]:LBBe)++((((k1_sPutKey a0 a1 a2).2.1).take ((k1_sPutKey a0 a1 a2).2.2.2.2).toNat).drop (0:Int).toNat))++[(((k1_sPutKey a0 a1 a2).2.2.1),((k1_sPutKey a0 a1 a2).2.2.2.1))]).length+((((k1_sPutKey a0 a1 a2).2.1).take ((((k1_sPutKey a0 a1 a2).2.1).length:Nat):Int).toNat).drop ((k1_sPutKey a0 a1 a2).2.2.2.2).toNat).length)*32≤MAXB)))))))))
noncomputable abbrev pre_sPutKey:pshsDen P_sPutKey→Bool:=fun d=>q_sPutKey d.1 d.2.1 d.2.2.1
noncomputable abbrev L_sPutKey:Nat→St→Option Tree:=fun b=>match b with | 0=>say_sPutKey_0 | 2=>say_sPutKey_1 | _=>fun _=>none
theorem run_sPutKey:RunP false G26 (L_sPutKey) Try.f139 P_sPutKey pre_sPutKey g_sPutKey:=by
 rintro ⟨a0,⟨a1,⟨a2,_⟩⟩⟩ hp
 change q_sPutKey a0 a1 a2=true at hp
 unfold q_sPutKey at hp
 refine Eq.trans (b:=(cond (decide ((([]:LBBe).length+a0.length)*32≤MAXB)) (cond ((it_sPutKey_0 a0 a1 a2 (0:Int) (([]:LBBe)++a0)).1==0) (some (e_sPutKey ((it_sPutKey_0 a0 a1 a2 (0:Int) (([]:LBBe)++a0)).2.1))) (cond ((it_sPutKey_0 a0 a1 a2 (0:Int) (([]:LBBe)++a0)).1==1) (cond ((k1_sPutKey a0 a1 a2).1==0) (cond (decide (0≤(0:Int)∧(0:Int)≤((k1_sPutKey a0 a1 a2).2.2.2.2)∧((k1_sPutKey a0 a1 a2).2.2.2.2)≤((((k1_sPutKey a0 a1 a2).2.1).length:Nat):Int))) (cond (decide ((([]:LBBe).length+((((k1_sPutKey a0 a1 a2).2.1).take ((k1_sPutKey a0 a1 a2).2.2.2.2).toNat).drop (0:Int).toNat).length)*32≤MAXB)) (cond (decide (((([]:LBBe)++((((k1_sPutKey a0 a1 a2).2.1).take ((k1_sPutKey a0 a1 a2).2.2.2.2).toNat).drop (0:Int).toNat)).length+[(((k1_sPutKey a0 a1 a2).2.2.1),((k1_sPutKey a0 a1 a2).2.2.2.1))].length)*32≤MAXB)) (cond (decide (0≤((k1_sPutKey a0 a1 a2).2.2.2.2)∧((k1_sPutKey a0 a1 a2).2.2.2.2)≤((((k1_sPutKey a0 a1 a2).2.1).length:Nat):Int)∧((((k1_sPutKey a0 a1 a2).2.1).length:Nat):Int)≤((((k1_sPutKey a0 a1 a2).2.1).length:Nat):Int))) (cond (decide ((((([]:LBBe)++((((k1_sPutKey a0 a1 a2).2.1).take ((k1_sPutKey a0 a1 a2).2.2.2.2).toNat).drop (0:Int).toNat))++[(((k1_sPutKey a0 a1 a2).2.2.1),((k1_sPutKey a0 a1 a2).2.2.2.1))]).length+((((k1_sPutKey a0 a1 a2).2.1).take ((((k1_sPutKey a0 a1 a2).2.1).length:Nat):Int).toNat).drop ((k1_sPutKey a0 a1 a2).2.2.2.2).toNat).length)*32≤MAXB)) (some (e_sPutKey (((([]:LBBe)++((((k1_sPutKey a0 a1 a2).2.1).take ((k1_sPutKey a0 a1 a2).2.2.2.2).toNat).drop (0:Int).toNat))++[(((k1_sPutKey a0 a1 a2).2.2.1),((k1_sPutKey a0 a1 a2).2.2.2.1))])++((((k1_sPutKey a0 a1 a2).2.1).take ((((k1_sPutKey a0 a1 a2).2.1).length:Nat):Int).toNat).drop ((k1_sPutKey a0 a1 a2).2.2.2.2).toNat)))) none) none) none) none) none) none) none)) none)) (by kernel_rfl) ?_
 exact (cndA hp fun hp=>(cndQ (F:=F_sPutKey) hp (fun hp=>rfl) (fun hp=>(cndA hp fun hp=>(cndA hp fun hp=>(cndA hp fun hp=>(cndA hp fun hp=>(cndA hp fun hp=>(cndA hp fun hp=>(cndT hp fun _h=>rfl))))))))))
theorem c_sPutKey:PContract Try.prog 139 (sumOf P_sPutKey pre_sPutKey g_sPutKey):=PContract.of_data false G26 (by kernel_rfl) (by
  rw [show loopsIn 0 (bodyOf Try.f139)=[(0,body_sPutKey_0),(2,body_sPutKey_1)] by kernel_rfl];intro p hp;simp only [List.mem_cons,List.mem_nil_iff,or_false] at hp
  rcases hp with rfl | rfl
  ·exact lw_sPutKey_0
  ·exact lw_sPutKey_1) _ _ _ run_sPutKey
noncomputable def S27:Tab:=Tab.add S26 139 (lift (sumOf P_sPutKey pre_sPutKey g_sPutKey))
noncomputable def QF27:FuncId→Bool:=QF26
theorem G27:Good Try.prog tt S27 QF27:=G26.add c_sPutKey ⟨Try.f139,by kernel_rfl,by kernel_rfl,by kernel_rfl⟩ (by kernel_rfl)

noncomputable abbrev jS22:List Sh:=.junk::.junk::.junk::jS19
noncomputable abbrev u23:=((),(),u21)
noncomputable abbrev u30:=((),u29)
noncomputable abbrev P_sDelKey:List PSh:=[.t tq6,.t .str]
noncomputable abbrev S_sDelKey_0:SS:=⟨(.t false tq6::.t true .str::.junk::.junk::.junk::.all 0 2::.t true (.int .i64)::jS22),[.rows 70 true t_ptt]⟩
noncomputable abbrev E_sDelKey_0_0:SS:=⟨(.junk::.junk::.junk::.junk::.junk::.all 0 2::jS23),[.rows 70 true t_ptt]⟩
noncomputable def st_sDelKey_0 (x0:LBBe) (x1:ByteArray) (x6:Int) (h0:LBBe):RT S_sDelKey_0.den:=(.br (decide (x6<((x0.length:Nat):Int))) (.br (decide (0≤x6∧x6<((x0.length:Nat):Int))) (.br (!(((x0.getD x6.toNat (bE,bE)).1).toList==x1.toList)) (.br (decide (0≤x6∧x6<((x0.length:Nat):Int))) (.br (decide ((h0.length+([((x0.getD x6.toNat (bE,bE)).1,(x0.getD x6.toNat (bE,bE)).2)]).length)*32≤MAXB)) (.next ((x0,x1,(),(),(),(),IntKind.wrap .i64 (x6+(1:Int)),u23),(h0++([((x0.getD x6.toNat (bE,bE)).1,(x0.getD x6.toNat (bE,bE)).2)]),()))) .fail) .fail) (.next ((x0,x1,(),(),(),(),IntKind.wrap .i64 (x6+(1:Int)),u23),(h0,())))) .fail) (.done (.exit 0) E_sDelKey_0_0 ((u30),(h0,()))))
noncomputable abbrev V_sDelKey_0:=(LBBe)×(ByteArray)×(Int)×(LBBe)
noncomputable abbrev A_sDelKey_0:=Nat×(LBBe)
noncomputable def fl_sDelKey_0:A_sDelKey_0:=(99,([]:LBBe))
noncomputable def ss_sDelKey_0 (x0:LBBe) (x1:ByteArray) (x6:Int) (h0:LBBe):V_sDelKey_0 ⊕ A_sDelKey_0:=(cond (decide (x6<((x0.length:Nat):Int))) (cond (decide (0≤x6∧x6<((x0.length:Nat):Int))) (cond (!(((x0.getD x6.toNat (bE,bE)).1).toList==x1.toList)) (cond (decide (0≤x6∧x6<((x0.length:Nat):Int))) (cond (decide ((h0.length+([((x0.getD x6.toNat (bE,bE)).1,(x0.getD x6.toNat (bE,bE)).2)]).length)*32≤MAXB)) (.inl (x0,x1,IntKind.wrap .i64 (x6+(1:Int)),h0++([((x0.getD x6.toNat (bE,bE)).1,(x0.getD x6.toNat (bE,bE)).2)]))) (.inr fl_sDelKey_0)) (.inr fl_sDelKey_0)) (.inl (x0,x1,IntKind.wrap .i64 (x6+(1:Int)),h0))) (.inr fl_sDelKey_0)) (.inr (0,h0)))
noncomputable def it_sDelKey_0 (x0:LBBe) (x1:ByteArray) (x6:Int) (h0:LBBe):A_sDelKey_0:=itX (fun v:V_sDelKey_0=>ss_sDelKey_0 v.1 v.2.1 v.2.2.1 v.2.2.2) fl_sDelKey_0 (x0,x1,x6,h0)
noncomputable def ct_sDelKey_0 (a:A_sDelKey_0):CT:=(.br (a.1==0) (.done (.exit 0) E_sDelKey_0_0 ((u30),(a.2,()))) .fail)
noncomputable def T_sDelKey_0 (x0:LBBe) (x1:ByteArray) (x6:Int) (h0:LBBe):CT:=ct_sDelKey_0 (it_sDelKey_0 x0 x1 x6 h0)
noncomputable abbrev sp_sDelKey_0:S_sDelKey_0.den→RT S_sDelKey_0.den:=fun d=>st_sDelKey_0 d.1.1 d.1.2.1 d.1.2.2.2.2.2.2.1 d.2.1
noncomputable abbrev pk_sDelKey_0 (x0:LBBe) (x1:ByteArray) (x6:Int) (h0:LBBe):S_sDelKey_0.den:=((x0,x1,(),(),(),(),x6,u23),(h0,()))
noncomputable def body_sDelKey_0:Code:=((loopsIn 0 (bodyOf Try.f140)).getD 0 (0,.skip)).2
noncomputable abbrev pv_sDelKey_0 (v:V_sDelKey_0):S_sDelKey_0.den:=pk_sDelKey_0 v.1 v.2.1 v.2.2.1 v.2.2.2
theorem rdA_sDelKey_0:RdA G27 (fun _ _=>none) 0 body_sDelKey_0 S_sDelKey_0 0 [] (kepts [] [(0,[5])]) (fun d=>(sp_sDelKey_0 d).opt 0 []):=by
 intro d
 kernel_rfl
noncomputable abbrev say_sDelKey_0:St→Option Tree:=S_sDelKey_0.say 0 [] [] (fun d=>T_sDelKey_0 d.1.1 d.1.2.1 d.1.2.2.2.2.2.2.1 d.2.1)
theorem lw_sDelKey_0:LoopWp Try.prog say_sDelKey_0 body_sDelKey_0:=SS.wp2 (hl0 (by kernel_rfl)) [] sp_sDelKey_0 rdA_sDelKey_0 (fun d=>rfl) _ (fun d=>Runs.ofIt (step:=sp_sDelKey_0) pv_sDelKey_0 (ct:=ct_sDelKey_0) rfl (fun v=>((relB (relB (relB (relB (relB rfl rfl) rfl) rfl) rfl) rfl):(st_sDelKey_0 v.1 v.2.1 v.2.2.1 v.2.2.2).val=relS pv_sDelKey_0 ct_sDelKey_0 (ss_sDelKey_0 v.1 v.2.1 v.2.2.1 v.2.2.2))) (fun a=>((cendB (cendD (by simp)) cendF):CEnd _ (ct_sDelKey_0 a))) (d.1.1,d.1.2.1,d.1.2.2.2.2.2.2.1,d.2.1))
noncomputable def sDelKey (a0:LBBe) (a1:ByteArray):LBBe:=((it_sDelKey_0 a0 a1 (0:Int) ([]:LBBe)).2)
noncomputable abbrev e_sDelKey (r:LBBe):AV×List AObj:=((.all 0 2),[(.rows 70 true t_ptt r)])
noncomputable abbrev F_sDelKey (r:LBBe):=some (e_sDelKey r)
noncomputable abbrev g_sDelKey:pshsDen P_sDelKey→AV×List AObj:=fun d=>e_sDelKey (sDelKey d.1 d.2.1)
noncomputable def q_sDelKey (a0:LBBe) (a1:ByteArray):Bool:=((it_sDelKey_0 a0 a1 (0:Int) ([]:LBBe)).1==0)
noncomputable abbrev pre_sDelKey:pshsDen P_sDelKey→Bool:=fun d=>q_sDelKey d.1 d.2.1
noncomputable abbrev L_sDelKey:Nat→St→Option Tree:=fun b=>match b with | 0=>say_sDelKey_0 | _=>fun _=>none
theorem run_sDelKey:RunP false G27 (L_sDelKey) Try.f140 P_sDelKey pre_sDelKey g_sDelKey:=by
 rintro ⟨a0,⟨a1,_⟩⟩ hp
 change q_sDelKey a0 a1=true at hp
 unfold q_sDelKey at hp
 refine Eq.trans (b:=(cond ((it_sDelKey_0 a0 a1 (0:Int) ([]:LBBe)).1==0) (some (e_sDelKey ((it_sDelKey_0 a0 a1 (0:Int) ([]:LBBe)).2))) none)) (by kernel_rfl) ?_
 exact (cndT hp fun _h=>rfl)
theorem c_sDelKey:PContract Try.prog 140 (sumOf P_sDelKey pre_sDelKey g_sDelKey):=PContract.of_data false G27 (by kernel_rfl) (hl1 (i:=0) (by kernel_rfl) lw_sDelKey_0) _ _ _ run_sDelKey
noncomputable def S28:Tab:=Tab.add S27 140 (lift (sumOf P_sDelKey pre_sDelKey g_sDelKey))
noncomputable def QF28:FuncId→Bool:=QF27
theorem G28:Good Try.prog tt S28 QF28:=G27.add c_sDelKey ⟨Try.f140,by kernel_rfl,by kernel_rfl,by kernel_rfl⟩ (by kernel_rfl)

noncomputable abbrev P_sApply:List PSh:=[.t tq6,.t tq5]
noncomputable abbrev S_sApply_0:SS:=⟨(.junk::.t false tq5::.junk::.junk::.junk::.all 0 2::.t true (.int .i64)::jS38),[.rows 70 true t_ptt]⟩
noncomputable abbrev E_sApply_0_0:SS:=⟨(.junk::.junk::.junk::.junk::.junk::.all 0 2::jS39),[.rows 70 true t_ptt]⟩
noncomputable def k1_sApply (x1:Lq2) (x6:Int) (h0:LBBe):=sPutKey h0 (((x1.getD x6.toNat ((0:Int),(bE,bE))).2).1) (((x1.getD x6.toNat ((0:Int),(bE,bE))).2).2)
noncomputable def k2_sApply (x1:Lq2) (x6:Int) (h0:LBBe):=sDelKey h0 (((x1.getD x6.toNat ((0:Int),(bE,bE))).2).1)
noncomputable def st_sApply_0 (x1:Lq2) (x6:Int) (h0:LBBe):RT S_sApply_0.den:=(.br (decide (x6<((x1.length:Nat):Int))) (.br (decide (0≤x6∧x6<((x1.length:Nat):Int))) (.br (((x1.getD x6.toNat ((0:Int),(bE,bE))).1)==(1:Int)) (.br (decide (0≤x6∧x6<((x1.length:Nat):Int))) (.br (decide (0≤x6∧x6<((x1.length:Nat):Int))) (.br (q_sPutKey h0 (((x1.getD x6.toNat ((0:Int),(bE,bE))).2).1) (((x1.getD x6.toNat ((0:Int),(bE,bE))).2).2)) (.next (((),x1,(),(),(),(),IntKind.wrap .i64 (x6+(1:Int)),u39),((k1_sApply x1 x6 h0),()))) .fail) .fail) .fail) (.br (((x1.getD x6.toNat ((0:Int),(bE,bE))).1)==(2:Int)) (.br (decide (0≤x6∧x6<((x1.length:Nat):Int))) (.br (q_sDelKey h0 (((x1.getD x6.toNat ((0:Int),(bE,bE))).2).1)) (.next (((),x1,(),(),(),(),IntKind.wrap .i64 (x6+(1:Int)),u39),((k2_sApply x1 x6 h0),()))) .fail) .fail) (.next (((),x1,(),(),(),(),IntKind.wrap .i64 (x6+(1:Int)),u39),(h0,()))))) .fail) (.done (.exit 0) E_sApply_0_0 ((u46),(h0,()))))
noncomputable abbrev V_sApply_0:=(Lq2)×(Int)×(LBBe)
noncomputable abbrev A_sApply_0:=Nat×(LBBe)
noncomputable def fl_sApply_0:A_sApply_0:=(99,([]:LBBe))
noncomputable def ss_sApply_0 (x1:Lq2) (x6:Int) (h0:LBBe):V_sApply_0 ⊕ A_sApply_0:=(cond (decide (x6<((x1.length:Nat):Int))) (cond (decide (0≤x6∧x6<((x1.length:Nat):Int))) (cond (((x1.getD x6.toNat ((0:Int),(bE,bE))).1)==(1:Int)) (cond (decide (0≤x6∧x6<((x1.length:Nat):Int))) (cond (decide (0≤x6∧x6<((x1.length:Nat):Int))) (cond (q_sPutKey h0 (((x1.getD x6.toNat ((0:Int),(bE,bE))).2).1) (((x1.getD x6.toNat ((0:Int),(bE,bE))).2).2)) (.inl (x1,IntKind.wrap .i64 (x6+(1:Int)),(k1_sApply x1 x6 h0))) (.inr fl_sApply_0)) (.inr fl_sApply_0)) (.inr fl_sApply_0)) (cond (((x1.getD x6.toNat ((0:Int),(bE,bE))).1)==(2:Int)) (cond (decide (0≤x6∧x6<((x1.length:Nat):Int))) (cond (q_sDelKey h0 (((x1.getD x6.toNat ((0:Int),(bE,bE))).2).1)) (.inl (x1,IntKind.wrap .i64 (x6+(1:Int)),(k2_sApply x1 x6 h0))) (.inr fl_sApply_0)) (.inr fl_sApply_0)) (.inl (x1,IntKind.wrap .i64 (x6+(1:Int)),h0)))) (.inr fl_sApply_0)) (.inr (0,h0)))
noncomputable def it_sApply_0 (x1:Lq2) (x6:Int) (h0:LBBe):A_sApply_0:=itX (fun v:V_sApply_0=>ss_sApply_0 v.1 v.2.1 v.2.2) fl_sApply_0 (x1,x6,h0)
noncomputable def ct_sApply_0 (a:A_sApply_0):CT:=(.br (a.1==0) (.done (.exit 0) E_sApply_0_0 ((u46),(a.2,()))) .fail)
noncomputable def T_sApply_0 (x1:Lq2) (x6:Int) (h0:LBBe):CT:=ct_sApply_0 (it_sApply_0 x1 x6 h0)
noncomputable abbrev sp_sApply_0:S_sApply_0.den→RT S_sApply_0.den:=fun d=>st_sApply_0 d.1.2.1 d.1.2.2.2.2.2.2.1 d.2.1
noncomputable abbrev pk_sApply_0 (x1:Lq2) (x6:Int) (h0:LBBe):S_sApply_0.den:=(((),x1,(),(),(),(),x6,u39),(h0,()))
noncomputable def body_sApply_0:Code:=((loopsIn 0 (bodyOf Try.f125)).getD 0 (0,.skip)).2
noncomputable abbrev pv_sApply_0 (v:V_sApply_0):S_sApply_0.den:=pk_sApply_0 v.1 v.2.1 v.2.2
noncomputable def ox_sApply_0 (x1:Lq2) (x6:Int) (h0:LBBe):Option (Ex×St):=(cond (decide (x6<((x1.length:Nat):Int))) (cond (decide (0≤x6∧x6<((x1.length:Nat):Int))) (cond (((x1.getD x6.toNat ((0:Int),(bE,bE))).1)==(1:Int)) (cond (decide (0≤x6∧x6<((x1.length:Nat):Int))) (cond (decide (0≤x6∧x6<((x1.length:Nat):Int))) (cond (q_sPutKey h0 (((x1.getD x6.toNat ((0:Int),(bE,bE))).2).1) (((x1.getD x6.toNat ((0:Int),(bE,bE))).2).2)) (some (.normal,(⟨(.junk::(.t false tq5 x1)::.junk::.junk::.junk::(.all 0 2)::(.t true (.int .i64) (IntKind.wrap .i64 (x6+(1:Int))))::jA38),[(.rows 70 true t_ptt (k1_sApply x1 x6 h0))],0,[]⟩:St))) none) none) none) (cond (((x1.getD x6.toNat ((0:Int),(bE,bE))).1)==(2:Int)) (cond (decide (0≤x6∧x6<((x1.length:Nat):Int))) (cond (q_sDelKey h0 (((x1.getD x6.toNat ((0:Int),(bE,bE))).2).1)) (some (.normal,(⟨(.junk::(.t false tq5 x1)::.junk::.junk::.junk::(.all 0 2)::(.t true (.int .i64) (IntKind.wrap .i64 (x6+(1:Int))))::jA38),[(.rows 70 true t_ptt (k2_sApply x1 x6 h0))],0,[]⟩:St))) none) none) (some (.normal,(⟨(.junk::(.t false tq5 x1)::.junk::.junk::.junk::(.all 0 2)::(.t true (.int .i64) (IntKind.wrap .i64 (x6+(1:Int))))::jA38),[(.rows 70 true t_ptt h0)],0,[]⟩:St))))) none) (some ((.exit 0),(⟨(.junk::.junk::.junk::.junk::.junk::(.all 0 2)::jA39),[(.rows 70 true t_ptt h0)],0,[]⟩:St))))
theorem rdA_sApply_0:RdA G28 (fun _ _=>none) 0 body_sApply_0 S_sApply_0 0 [] (kepts [] [(0,[5])]) (fun d=>ox_sApply_0 d.1.2.1 d.1.2.2.2.2.2.2.1 d.2.1):=by
 intro d
 kernel_rfl
theorem rdB_sApply_0:∀ d:S_sApply_0.den,ox_sApply_0 d.1.2.1 d.1.2.2.2.2.2.2.1 d.2.1=(sp_sApply_0 d).opt 0 []:=by
 intro d
 kernel_rfl
noncomputable abbrev say_sApply_0:St→Option Tree:=S_sApply_0.say 0 [] [] (fun d=>T_sApply_0 d.1.2.1 d.1.2.2.2.2.2.2.1 d.2.1)
theorem lw_sApply_0:LoopWp Try.prog say_sApply_0 body_sApply_0:=SS.wp2 (hl0 (by kernel_rfl)) [] sp_sApply_0 rdA_sApply_0 rdB_sApply_0 _ (fun d=>Runs.ofIt (step:=sp_sApply_0) pv_sApply_0 (ct:=ct_sApply_0) rfl (fun v=>((relB (relB (relB (relB (relB (relB rfl rfl) rfl) rfl) (relB (relB (relB rfl rfl) rfl) rfl)) rfl) rfl):(st_sApply_0 v.1 v.2.1 v.2.2).val=relS pv_sApply_0 ct_sApply_0 (ss_sApply_0 v.1 v.2.1 v.2.2))) (fun a=>((cendB (cendD (by simp)) cendF):CEnd _ (ct_sApply_0 a))) (d.1.2.1,d.1.2.2.2.2.2.2.1,d.2.1))
noncomputable def sApply (a0:LBBe) (a1:Lq2):LBBe:=((it_sApply_0 a1 (0:Int) (([]:LBBe)++a0)).2)
noncomputable abbrev e_sApply (r:LBBe):AV×List AObj:=((.all 0 2),[(.rows 70 true t_ptt r)])
noncomputable abbrev F_sApply (r:LBBe):=some (e_sApply r)
noncomputable abbrev g_sApply:pshsDen P_sApply→AV×List AObj:=fun d=>e_sApply (sApply d.1 d.2.1)
noncomputable def q_sApply (a0:LBBe) (a1:Lq2):Bool:=(decide ((([]:LBBe).length+a0.length)*32≤MAXB))&&((it_sApply_0 a1 (0:Int) (([]:LBBe)++a0)).1==0)
noncomputable abbrev pre_sApply:pshsDen P_sApply→Bool:=fun d=>q_sApply d.1 d.2.1
noncomputable abbrev L_sApply:Nat→St→Option Tree:=fun b=>match b with | 0=>say_sApply_0 | _=>fun _=>none
theorem run_sApply:RunP false G28 (L_sApply) Try.f125 P_sApply pre_sApply g_sApply:=by
 rintro ⟨a0,⟨a1,_⟩⟩ hp
 change q_sApply a0 a1=true at hp
 unfold q_sApply at hp
 refine Eq.trans (b:=(cond (decide ((([]:LBBe).length+a0.length)*32≤MAXB)) (cond ((it_sApply_0 a1 (0:Int) (([]:LBBe)++a0)).1==0) (some (e_sApply ((it_sApply_0 a1 (0:Int) (([]:LBBe)++a0)).2))) none) none)) (by kernel_rfl) ?_
 exact (cndA hp fun hp=>(cndT hp fun _h=>rfl))
theorem c_sApply:PContract Try.prog 125 (sumOf P_sApply pre_sApply g_sApply):=PContract.of_data false G28 (by kernel_rfl) (hl1 (i:=0) (by kernel_rfl) lw_sApply_0) _ _ _ run_sApply
noncomputable def S29:Tab:=Tab.add S28 125 (lift (sumOf P_sApply pre_sApply g_sApply))
noncomputable def QF29:FuncId→Bool:=QF28
theorem G29:Good Try.prog tt S29 QF29:=G28.add c_sApply ⟨Try.f125,by kernel_rfl,by kernel_rfl,by kernel_rfl⟩ (by kernel_rfl)

noncomputable abbrev SM_sl8One:SS:=⟨[.ptr 0 0 1 0,.agg [.t true (.int .i64),.t true (.int .i64),.t false tq5]],[.box [.all 1 2,.all 2 3,.nil],.rows 70 true t_ptt,.rows 32 true tq4]⟩
noncomputable def sl8One (x1_0:Int) (x1_1:Int) (x1_2:Lq2) (h1:LBBe) (h2:Lq1):Bool×(LBBe)×(Lq1)×List Int:=(cond (!(sRecOk x1_0 x1_1 x1_2)) (false,h1,h2,([]:List Int)) (cond (x1_0==(1:Int)) (cond (sl7Has [] x1_1) (false,h1,h2,([]:List Int)) (cond (sl8Locked h2 x1_2) (false,h1,h2,([]:List Int)) (cond (!(sMeets h1 x1_2)) (false,h1,h2,([]:List Int)) (true,h1,h2++[(((sl8CopyRec x1_0 x1_1 x1_2).1),(((sl8CopyRec x1_0 x1_1 x1_2).2.1),((sl8CopyRec x1_0 x1_1 x1_2).2.2)))],[x1_1])))) (cond (decide ((sl8At h2 x1_1)<(0:Int))) (cond (x1_0==(3:Int)) (!(sl7Has [] x1_1),h1,h2,[x1_1]) (false,h1,h2,[x1_1])) (cond (x1_0==(2:Int)) (decide ((((sApply h1 (((h2.getD ((sl8At h2 x1_1).toNat) ((0:Int),((0:Int),[]))).2).2)).length:Nat):Int)≤(60:Int)),(sApply h1 (((h2.getD ((sl8At h2 x1_1).toNat) ((0:Int),((0:Int),[]))).2).2)),(([]:Lq1)++(h2.take ((sl8At h2 x1_1).toNat)))++((h2.drop ((IntKind.wrap .i64 ((sl8At h2 x1_1)+(1:Int))).toNat)).take (((h2.length:Nat):Int).toNat - (IntKind.wrap .i64 ((sl8At h2 x1_1)+(1:Int))).toNat)),([]:List Int)) (decide (((h1.length:Nat):Int)≤(60:Int)),h1,(([]:Lq1)++(h2.take ((sl8At h2 x1_1).toNat)))++((h2.drop ((IntKind.wrap .i64 ((sl8At h2 x1_1)+(1:Int))).toNat)).take (((h2.length:Nat):Int).toNat - (IntKind.wrap .i64 ((sl8At h2 x1_1)+(1:Int))).toNat)),([]:List Int))))))
noncomputable abbrev e_sl8One (r:Bool×(LBBe)×(Lq1)×List Int):AV×List AObj×List Nat:=((.t true .bool r.1),[(.box [(.all 1 2),(.all 2 3),(.all 3 1)]),(.rows 70 true t_ptt r.2.1),(.rows 32 true tq4 r.2.2.1),(.rows 3 true (.int .i64) r.2.2.2)],[1,2])
noncomputable abbrev F_sl8One (r:Bool×(LBBe)×(Lq1)×List Int):=some (e_sl8One r)
noncomputable abbrev g_sl8One:SM_sl8One.den→AV×List AObj×List Nat:=fun d=>e_sl8One (sl8One d.1.2.1.1 d.1.2.1.2.1 d.1.2.1.2.2.1 d.2.2.1 d.2.2.2.1)
noncomputable def q_sl8One (x1_0:Int) (x1_1:Int) (x1_2:Lq2) (h1:LBBe) (h2:Lq1):Bool:=(q_sl8At h2 x1_1)&&((q_sRecOk x1_0 x1_1 x1_2)&&(cond (!(sRecOk x1_0 x1_1 x1_2)) true (cond (x1_0==(1:Int)) ((q_sl7Has [] x1_1)&&(cond (sl7Has [] x1_1) true ((q_sl8Locked h2 x1_2)&&(cond (sl8Locked h2 x1_2) true ((q_sMeets h1 x1_2)&&(cond (!(sMeets h1 x1_2)) true ((q_sl8CopyRec x1_0 x1_1 x1_2)&&((decide ((h2.length+[(((sl8CopyRec x1_0 x1_1 x1_2).1),(((sl8CopyRec x1_0 x1_1 x1_2).2.1),((sl8CopyRec x1_0 x1_1 x1_2).2.2)))].length)*40≤MAXB))&&(decide ([x1_1].length*8≤MAXB)))))))))) (cond (decide ((sl8At h2 x1_1)<(0:Int))) (cond (x1_0==(3:Int)) ((q_sl7Has [] x1_1)&&(decide ([x1_1].length*8≤MAXB))) (decide ([x1_1].length*8≤MAXB))) (cond (x1_0==(2:Int)) ((decide (0≤(sl8At h2 x1_1)∧(sl8At h2 x1_1)<((h2.length:Nat):Int)))&&((q_sApply h1 (((h2.getD ((sl8At h2 x1_1).toNat) ((0:Int),((0:Int),[]))).2).2))&&((decide (0≤(0:Int)∧(0:Int)≤(sl8At h2 x1_1)∧(sl8At h2 x1_1)≤((h2.length:Nat):Int)))&&((decide (0≤(IntKind.wrap .i64 ((sl8At h2 x1_1)+(1:Int)))∧(IntKind.wrap .i64 ((sl8At h2 x1_1)+(1:Int)))≤((h2.length:Nat):Int)∧((h2.length:Nat):Int)≤((h2.length:Nat):Int)))&&((decide ((([]:Lq1).length+(h2.take ((sl8At h2 x1_1).toNat)).length)*40≤MAXB))&&(decide (((([]:Lq1)++(h2.take ((sl8At h2 x1_1).toNat))).length+((h2.drop ((IntKind.wrap .i64 ((sl8At h2 x1_1)+(1:Int))).toNat)).take (((h2.length:Nat):Int).toNat - (IntKind.wrap .i64 ((sl8At h2 x1_1)+(1:Int))).toNat)).length)*40≤MAXB))))))) ((decide (0≤(0:Int)∧(0:Int)≤(sl8At h2 x1_1)∧(sl8At h2 x1_1)≤((h2.length:Nat):Int)))&&((decide (0≤(IntKind.wrap .i64 ((sl8At h2 x1_1)+(1:Int)))∧(IntKind.wrap .i64 ((sl8At h2 x1_1)+(1:Int)))≤((h2.length:Nat):Int)∧((h2.length:Nat):Int)≤((h2.length:Nat):Int)))&&((decide ((([]:Lq1).length+(h2.take ((sl8At h2 x1_1).toNat)).length)*40≤MAXB))&&(decide (((([]:Lq1)++(h2.take ((sl8At h2 x1_1).toNat))).length+((h2.drop ((IntKind.wrap .i64 ((sl8At h2 x1_1)+(1:Int))).toNat)).take (((h2.length:Nat):Int).toNat - (IntKind.wrap .i64 ((sl8At h2 x1_1)+(1:Int))).toNat)).length)*40≤MAXB))))))))))
noncomputable abbrev pre_sl8One:SM_sl8One.den→Bool:=fun d=>q_sl8One d.1.2.1.1 d.1.2.1.2.1 d.1.2.1.2.2.1 d.2.2.1 d.2.2.2.1
theorem run_sl8One:RunE false [] [1,2] [(0,0,1,70,t_ptt),(0,1,2,32,tq4),(0,2,99999,3,(.int .i64))] G29 (fun _ _=>none) Try.f86 SM_sl8One pre_sl8One g_sl8One:=by
 rintro ⟨⟨_,⟨x1_0,x1_1,x1_2,_⟩,_⟩,⟨⟨_,_,_,_⟩,h1,h2,_⟩⟩ hp
 change q_sl8One x1_0 x1_1 x1_2 h1 h2=true at hp
 unfold q_sl8One at hp
 refine Eq.trans (b:=(cond (q_sl8At h2 x1_1) (cond (q_sRecOk x1_0 x1_1 x1_2) (cond (!(sRecOk x1_0 x1_1 x1_2)) (some (e_sl8One (false,h1,h2,([]:List Int)))) (cond (x1_0==(1:Int)) (cond (q_sl7Has [] x1_1) (cond (sl7Has [] x1_1) (some (e_sl8One (false,h1,h2,([]:List Int)))) (cond (q_sl8Locked h2 x1_2) (cond (sl8Locked h2 x1_2) (some (e_sl8One (false,h1,h2,([]:List Int)))) (cond (q_sMeets h1 x1_2) (cond (!(sMeets h1 x1_2)) (some (e_sl8One (false,h1,h2,([]:List Int)))) (cond (q_sl8CopyRec x1_0 x1_1 x1_2) (cond (decide ((h2.length+[(((sl8CopyRec x1_0 x1_1 x1_2).1),(((sl8CopyRec x1_0 x1_1 x1_2).2.1),((sl8CopyRec x1_0 x1_1 x1_2).2.2)))].length)*40≤MAXB)) (cond (decide ([x1_1].length*8≤MAXB)) (some (e_sl8One (true,h1,h2++[(((sl8CopyRec x1_0 x1_1 x1_2).1),(((sl8CopyRec x1_0 x1_1 x1_2).2.1),((sl8CopyRec x1_0 x1_1 x1_2).2.2)))],[x1_1]))) none) none) none)) none)) none)) none) (cond (decide ((sl8At h2 x1_1)<(0:Int))) (cond (x1_0==(3:Int)) (cond (q_sl7Has [] x1_1) (cond (decide ([x1_1].length*8≤MAXB)) (some (e_sl8One (!(sl7Has [] x1_1),h1,h2,[x1_1]))) none) none) (cond (decide ([x1_1].length*8≤MAXB)) (some (e_sl8One (false,h1,h2,[x1_1]))) none)) (cond (x1_0==(2:Int)) (cond (decide (0≤(sl8At h2 x1_1)∧(sl8At h2 x1_1)<((h2.length:Nat):Int))) (cond (q_sApply h1 (((h2.getD ((sl8At h2 x1_1).toNat) ((0:Int),((0:Int),[]))).2).2)) (cond (decide (0≤(0:Int)∧(0:Int)≤(sl8At h2 x1_1)∧(sl8At h2 x1_1)≤((h2.length:Nat):Int))) (cond (decide (0≤(IntKind.wrap .i64 ((sl8At h2 x1_1)+(1:Int)))∧(IntKind.wrap .i64 ((sl8At h2 x1_1)+(1:Int)))≤((h2.length:Nat):Int)∧((h2.length:Nat):Int)≤((h2.length:Nat):Int))) (cond (decide ((([]:Lq1).length+(h2.take ((sl8At h2 x1_1).toNat)).length)*40≤MAXB)) (cond (decide (((([]:Lq1)++(h2.take ((sl8At h2 x1_1).toNat))).length+((h2.drop ((IntKind.wrap .i64 ((sl8At h2 x1_1)+(1:Int))).toNat)).take (((h2.length:Nat):Int).toNat - (IntKind.wrap .i64 ((sl8At h2 x1_1)+(1:Int))).toNat)).length)*40≤MAXB)) (some (e_sl8One (decide ((((sApply h1 (((h2.getD ((sl8At h2 x1_1).toNat) ((0:Int),((0:Int),[]))).2).2)).length:Nat):Int)≤(60:Int)),(sApply h1 (((h2.getD ((sl8At h2 x1_1).toNat) ((0:Int),((0:Int),[]))).2).2)),(([]:Lq1)++(h2.take ((sl8At h2 x1_1).toNat)))++((h2.drop ((IntKind.wrap .i64 ((sl8At h2 x1_1)+(1:Int))).toNat)).take (((h2.length:Nat):Int).toNat - (IntKind.wrap .i64 ((sl8At h2 x1_1)+(1:Int))).toNat)),([]:List Int)))) none) none) none) none) none) none) (cond (decide (0≤(0:Int)∧(0:Int)≤(sl8At h2 x1_1)∧(sl8At h2 x1_1)≤((h2.length:Nat):Int))) (cond (decide (0≤(IntKind.wrap .i64 ((sl8At h2 x1_1)+(1:Int)))∧(IntKind.wrap .i64 ((sl8At h2 x1_1)+(1:Int)))≤((h2.length:Nat):Int)∧((h2.length:Nat):Int)≤((h2.length:Nat):Int))) (cond (decide ((([]:Lq1).length+(h2.take ((sl8At h2 x1_1).toNat)).length)*40≤MAXB)) (cond (decide (((([]:Lq1)++(h2.take ((sl8At h2 x1_1).toNat))).length+((h2.drop ((IntKind.wrap .i64 ((sl8At h2 x1_1)+(1:Int))).toNat)).take (((h2.length:Nat):Int).toNat - (IntKind.wrap .i64 ((sl8At h2 x1_1)+(1:Int))).toNat)).length)*40≤MAXB)) (some (e_sl8One (decide (((h1.length:Nat):Int)≤(60:Int)),h1,(([]:Lq1)++(h2.take ((sl8At h2 x1_1).toNat)))++((h2.drop ((IntKind.wrap .i64 ((sl8At h2 x1_1)+(1:Int))).toNat)).take (((h2.length:Nat):Int).toNat - (IntKind.wrap .i64 ((sl8At h2 x1_1)+(1:Int))).toNat)),([]:List Int)))) none) none) none) none))))) none) none)) (by kernel_rfl) ?_
 exact (cndA hp fun hp=>(cndA hp fun hp=>(cndQ (F:=F_sl8One) hp (fun hp=>rfl) (fun hp=>(cndQ (F:=F_sl8One) hp (fun hp=>(cndA hp fun hp=>(cndQ (F:=F_sl8One) hp (fun hp=>rfl) (fun hp=>(cndA hp fun hp=>(cndQ (F:=F_sl8One) hp (fun hp=>rfl) (fun hp=>(cndA hp fun hp=>(cndQ (F:=F_sl8One) hp (fun hp=>rfl) (fun hp=>(cndA hp fun hp=>(cndA hp fun hp=>(cndT hp fun _h=>rfl))))))))))))) (fun hp=>(cndQ (F:=F_sl8One) hp (fun hp=>(cndQ (F:=F_sl8One) hp (fun hp=>(cndA hp fun hp=>(cndT hp fun _h=>rfl))) (fun hp=>(cndT hp fun _h=>rfl)))) (fun hp=>(cndQ (F:=F_sl8One) hp (fun hp=>(cndA hp fun hp=>(cndA hp fun hp=>(cndA hp fun hp=>(cndA hp fun hp=>(cndA hp fun hp=>(cndT hp fun _h=>rfl))))))) (fun hp=>(cndA hp fun hp=>(cndA hp fun hp=>(cndA hp fun hp=>(cndT hp fun _h=>rfl))))))))))))))
noncomputable abbrev m_sl8One:=win winIds (msum SM_sl8One pre_sl8One g_sl8One)
theorem c_sl8One:MContract Try.prog 86 m_sl8One:=(MContract.of_dataE false [] [1,2] [(0,0,1,70,t_ptt),(0,1,2,32,tq4),(0,2,99999,3,(.int .i64))]  G29 (by kernel_rfl) (hl0 (by kernel_rfl)) _ _ _ run_sl8One).win winIds
noncomputable def S30:Tab:=Tab.add S29 86 (m_sl8One)
noncomputable def QF30:FuncId→Bool:=QF29
theorem G30:Good Try.prog tt S30 QF30:=G29.addM c_sl8One (win_local _) ⟨Try.f86,by kernel_rfl,by kernel_rfl,by kernel_rfl⟩ (by kernel_rfl)

noncomputable abbrev SM_sl9Write:SS:=⟨[.ptr 0 0 1 0,.agg [.t true (.int .i64),.t true (.int .i64),.t false tq5]],[.box [.t true (.int .i64),.all 1 3,.t true (.int .i64),.all 2 2,.all 3 3],.rows 32 true tq4,.rows 70 true t_ptt,.rows 32 true tq4]⟩
noncomputable def sl9Write (x1_0:Int) (x1_1:Int) (x1_2:Lq2) (p0:Int) (p2:Int) (h1:Lq1) (h2:LBBe) (h3:Lq1):Int×Int×(Lq1)×(LBBe)×Lq1:=(p0,p2,h1++[(((sl8CopyRec x1_0 x1_1 x1_2).1),(((sl8CopyRec x1_0 x1_1 x1_2).2.1),((sl8CopyRec x1_0 x1_1 x1_2).2.2)))],((sl8One x1_0 x1_1 x1_2 h2 h3).2.1),((sl8One x1_0 x1_1 x1_2 h2 h3).2.2.1))
noncomputable abbrev e_sl9Write (r:Int×Int×(Lq1)×(LBBe)×Lq1):AV×List AObj×List Nat:=((.tup []),[(.box [(.t true (.int .i64) r.1),(.all 1 3),(.t true (.int .i64) r.2.1),(.all 2 2),(.all 3 3)]),(.rows 32 true tq4 r.2.2.1),(.rows 70 true t_ptt r.2.2.2.1),(.rows 32 true tq4 r.2.2.2.2)],[1,2,3])
noncomputable abbrev F_sl9Write (r:Int×Int×(Lq1)×(LBBe)×Lq1):=some (e_sl9Write r)
noncomputable abbrev g_sl9Write:SM_sl9Write.den→AV×List AObj×List Nat:=fun d=>e_sl9Write (sl9Write d.1.2.1.1 d.1.2.1.2.1 d.1.2.1.2.2.1 d.2.1.1 d.2.1.2.2.1 d.2.2.1 d.2.2.2.1 d.2.2.2.2.1)
noncomputable def q_sl9Write (x1_0:Int) (x1_1:Int) (x1_2:Lq2) (p0:Int) (p2:Int) (h1:Lq1) (h2:LBBe) (h3:Lq1):Bool:=(q_sl8One x1_0 x1_1 x1_2 h2 h3)&&((q_sl8CopyRec x1_0 x1_1 x1_2)&&(decide ((h1.length+[(((sl8CopyRec x1_0 x1_1 x1_2).1),(((sl8CopyRec x1_0 x1_1 x1_2).2.1),((sl8CopyRec x1_0 x1_1 x1_2).2.2)))].length)*40≤MAXB)))
noncomputable abbrev pre_sl9Write:SM_sl9Write.den→Bool:=fun d=>q_sl9Write d.1.2.1.1 d.1.2.1.2.1 d.1.2.1.2.2.1 d.2.1.1 d.2.1.2.2.1 d.2.2.1 d.2.2.2.1 d.2.2.2.2.1
theorem run_sl9Write:RunM G30 (fun _ _=>none) Try.f100 SM_sl9Write pre_sl9Write g_sl9Write:=by
 rintro ⟨⟨_,⟨x1_0,x1_1,x1_2,_⟩,_⟩,⟨⟨p0,_,p2,_,_,_⟩,h1,h2,h3,_⟩⟩ hp
 change q_sl9Write x1_0 x1_1 x1_2 p0 p2 h1 h2 h3=true at hp
 unfold q_sl9Write at hp
 refine Eq.trans (b:=(cond (q_sl8One x1_0 x1_1 x1_2 h2 h3) (cond (q_sl8CopyRec x1_0 x1_1 x1_2) (cond (decide ((h1.length+[(((sl8CopyRec x1_0 x1_1 x1_2).1),(((sl8CopyRec x1_0 x1_1 x1_2).2.1),((sl8CopyRec x1_0 x1_1 x1_2).2.2)))].length)*40≤MAXB)) (some (e_sl9Write (p0,p2,h1++[(((sl8CopyRec x1_0 x1_1 x1_2).1),(((sl8CopyRec x1_0 x1_1 x1_2).2.1),((sl8CopyRec x1_0 x1_1 x1_2).2.2)))],((sl8One x1_0 x1_1 x1_2 h2 h3).2.1),((sl8One x1_0 x1_1 x1_2 h2 h3).2.2.1)))) none) none) none)) (by kernel_rfl) ?_
 exact (cndA hp fun hp=>(cndA hp fun hp=>(cndT hp fun _h=>rfl)))
noncomputable abbrev m_sl9Write:=win winIds (msum SM_sl9Write pre_sl9Write g_sl9Write)
theorem c_sl9Write:MContract Try.prog 100 m_sl9Write:=(MContract.of_data G30 (by kernel_rfl) (hl0 (by kernel_rfl)) _ _ _ run_sl9Write).win winIds
noncomputable def S31:Tab:=Tab.add S30 100 (m_sl9Write)
noncomputable def QF31:FuncId→Bool:=QF30
theorem G31:Good Try.prog tt S31 QF31:=G30.addM c_sl9Write (win_local _) ⟨Try.f100,by kernel_rfl,by kernel_rfl,by kernel_rfl⟩ (by kernel_rfl)

noncomputable abbrev SM_sl9Hold:SS:=⟨[.ptr 0 0 1 0,.t true (.int .i64),.all 1 3],[.box [.t true (.int .i64),.all 2 3,.t true (.int .i64),.all 3 2,.all 4 3],.rows 85 true tq7,.rows 32 true tq4,.rows 70 true t_ptt,.rows 32 true tq4]⟩
noncomputable def sl9Hold (x1:Int) (p0:Int) (p2:Int) (h1:Lq2) (h2:Lq1) (h3:LBBe) (h4:Lq1):Int×Int×Int×(Lq2)×(Lq1)×(LBBe)×Lq1:=(cond (!(sl1In x1 (1:Int) (1000000:Int))) ((5:Int),p0,p2,h1,h2,h3,h4) (cond (!(sOpsOk h1)) ((5:Int),p0,p2,h1,h2,h3,h4) (cond ((sl9Outcome p0 h2 p2 h3 h4 x1) != (2:Int)) ((sl9Outcome p0 h2 p2 h3 h4 x1),p0,p2,h1,h2,h3,h4) (cond (sl8Locked h4 h1) ((2:Int),p0,p2,h1,h2,h3,h4) (cond (!(sMeets h3 h1)) ((2:Int),p0,p2,h1,h2,h3,h4) (cond (decide ((sl9Keys p0 h2 p2 h3 h4 h1) > (60:Int))) ((2:Int),p0,p2,h1,h2,h3,h4) (cond (decide ((IntKind.wrap .i64 ((IntKind.wrap .i64 (((h2.length:Nat):Int)+((h4.length:Nat):Int)))+(2:Int))) > (300:Int))) ((2:Int),p0,p2,h1,h2,h3,h4) ((1:Int),((sl9Write (1:Int) x1 (sl7CopyOps h1) p0 p2 h2 h3 h4).1),((sl9Write (1:Int) x1 (sl7CopyOps h1) p0 p2 h2 h3 h4).2.1),h1,((sl9Write (1:Int) x1 (sl7CopyOps h1) p0 p2 h2 h3 h4).2.2.1),((sl9Write (1:Int) x1 (sl7CopyOps h1) p0 p2 h2 h3 h4).2.2.2.1),((sl9Write (1:Int) x1 (sl7CopyOps h1) p0 p2 h2 h3 h4).2.2.2.2)))))))))
noncomputable abbrev e_sl9Hold (r:Int×Int×Int×(Lq2)×(Lq1)×(LBBe)×Lq1):AV×List AObj×List Nat:=((.t true (.int .i64) r.1),[(.box [(.t true (.int .i64) r.2.1),(.all 2 3),(.t true (.int .i64) r.2.2.1),(.all 3 2),(.all 4 3)]),(.rows 85 true tq7 r.2.2.2.1),(.rows 32 true tq4 r.2.2.2.2.1),(.rows 70 true t_ptt r.2.2.2.2.2.1),(.rows 32 true tq4 r.2.2.2.2.2.2)],[2,3,4])
noncomputable abbrev F_sl9Hold (r:Int×Int×Int×(Lq2)×(Lq1)×(LBBe)×Lq1):=some (e_sl9Hold r)
noncomputable abbrev g_sl9Hold:SM_sl9Hold.den→AV×List AObj×List Nat:=fun d=>e_sl9Hold (sl9Hold d.1.2.1 d.2.1.1 d.2.1.2.2.1 d.2.2.1 d.2.2.2.1 d.2.2.2.2.1 d.2.2.2.2.2.1)
noncomputable def q_sl9Hold (x1:Int) (p0:Int) (p2:Int) (h1:Lq2) (h2:Lq1) (h3:LBBe) (h4:Lq1):Bool:=cond (!(sl1In x1 (1:Int) (1000000:Int))) true ((q_sOpsOk h1)&&(cond (!(sOpsOk h1)) true ((q_sl9Outcome p0 h2 p2 h3 h4 x1)&&(cond ((sl9Outcome p0 h2 p2 h3 h4 x1) != (2:Int)) true ((q_sl8Locked h4 h1)&&(cond (sl8Locked h4 h1) true ((q_sMeets h3 h1)&&(cond (!(sMeets h3 h1)) true ((q_sl9Keys p0 h2 p2 h3 h4 h1)&&(cond (decide ((sl9Keys p0 h2 p2 h3 h4 h1) > (60:Int))) true (cond (decide ((IntKind.wrap .i64 ((IntKind.wrap .i64 (((h2.length:Nat):Int)+((h4.length:Nat):Int)))+(2:Int))) > (300:Int))) true ((q_sl7CopyOps h1)&&(q_sl9Write (1:Int) x1 (sl7CopyOps h1) p0 p2 h2 h3 h4)))))))))))))
noncomputable abbrev pre_sl9Hold:SM_sl9Hold.den→Bool:=fun d=>q_sl9Hold d.1.2.1 d.2.1.1 d.2.1.2.2.1 d.2.2.1 d.2.2.2.1 d.2.2.2.2.1 d.2.2.2.2.2.1
theorem run_sl9Hold:RunE false [] [2,3,4] [] G31 (fun _ _=>none) Try.f59 SM_sl9Hold pre_sl9Hold g_sl9Hold:=by
 rintro ⟨⟨_,x1,_,_⟩,⟨⟨p0,_,p2,_,_,_⟩,h1,h2,h3,h4,_⟩⟩ hp
 change q_sl9Hold x1 p0 p2 h1 h2 h3 h4=true at hp
 unfold q_sl9Hold at hp
 refine Eq.trans (b:=(cond (!(sl1In x1 (1:Int) (1000000:Int))) (some (e_sl9Hold ((5:Int),p0,p2,h1,h2,h3,h4))) (cond (q_sOpsOk h1) (cond (!(sOpsOk h1)) (some (e_sl9Hold ((5:Int),p0,p2,h1,h2,h3,h4))) (cond (q_sl9Outcome p0 h2 p2 h3 h4 x1) (cond ((sl9Outcome p0 h2 p2 h3 h4 x1) != (2:Int)) (some (e_sl9Hold ((sl9Outcome p0 h2 p2 h3 h4 x1),p0,p2,h1,h2,h3,h4))) (cond (q_sl8Locked h4 h1) (cond (sl8Locked h4 h1) (some (e_sl9Hold ((2:Int),p0,p2,h1,h2,h3,h4))) (cond (q_sMeets h3 h1) (cond (!(sMeets h3 h1)) (some (e_sl9Hold ((2:Int),p0,p2,h1,h2,h3,h4))) (cond (q_sl9Keys p0 h2 p2 h3 h4 h1) (cond (decide ((sl9Keys p0 h2 p2 h3 h4 h1) > (60:Int))) (some (e_sl9Hold ((2:Int),p0,p2,h1,h2,h3,h4))) (cond (decide ((IntKind.wrap .i64 ((IntKind.wrap .i64 (((h2.length:Nat):Int)+((h4.length:Nat):Int)))+(2:Int))) > (300:Int))) (some (e_sl9Hold ((2:Int),p0,p2,h1,h2,h3,h4))) (cond (q_sl7CopyOps h1) (cond (q_sl9Write (1:Int) x1 (sl7CopyOps h1) p0 p2 h2 h3 h4) (some (e_sl9Hold ((1:Int),((sl9Write (1:Int) x1 (sl7CopyOps h1) p0 p2 h2 h3 h4).1),((sl9Write (1:Int) x1 (sl7CopyOps h1) p0 p2 h2 h3 h4).2.1),h1,((sl9Write (1:Int) x1 (sl7CopyOps h1) p0 p2 h2 h3 h4).2.2.1),((sl9Write (1:Int) x1 (sl7CopyOps h1) p0 p2 h2 h3 h4).2.2.2.1),((sl9Write (1:Int) x1 (sl7CopyOps h1) p0 p2 h2 h3 h4).2.2.2.2)))) none) none))) none)) none)) none)) none)) none))) (by kernel_rfl) ?_
 exact (cndQ (F:=F_sl9Hold) hp (fun hp=>rfl) (fun hp=>(cndA hp fun hp=>(cndQ (F:=F_sl9Hold) hp (fun hp=>rfl) (fun hp=>(cndA hp fun hp=>(cndQ (F:=F_sl9Hold) hp (fun hp=>rfl) (fun hp=>(cndA hp fun hp=>(cndQ (F:=F_sl9Hold) hp (fun hp=>rfl) (fun hp=>(cndA hp fun hp=>(cndQ (F:=F_sl9Hold) hp (fun hp=>rfl) (fun hp=>(cndA hp fun hp=>(cndQ (F:=F_sl9Hold) hp (fun hp=>rfl) (fun hp=>(cndQ (F:=F_sl9Hold) hp (fun hp=>rfl) (fun hp=>(cndA hp fun hp=>(cndT hp fun _h=>rfl)))))))))))))))))))))
noncomputable abbrev m_sl9Hold:=win winIds (msum SM_sl9Hold pre_sl9Hold g_sl9Hold)
theorem c_sl9Hold:MContract Try.prog 59 m_sl9Hold:=(MContract.of_dataE false [] [2,3,4] []  G31 (by kernel_rfl) (hl0 (by kernel_rfl)) _ _ _ run_sl9Hold).win winIds
noncomputable def S32:Tab:=Tab.add S31 59 (m_sl9Hold)
noncomputable def QF32:FuncId→Bool:=QF31
theorem G32:Good Try.prog tt S32 QF32:=G31.addM c_sl9Hold (win_local _) ⟨Try.f59,by kernel_rfl,by kernel_rfl,by kernel_rfl⟩ (by kernel_rfl)

noncomputable abbrev SM_sl1Once:SS:=⟨[.ptr 0 0 1 0,.t true (.int .i64)],[.box [.t false t_sy,.t true (.int .i64),.t true (.int .i64)]]⟩
noncomputable def sl1Once (x1:Int) (p0:List Int) (p1:Int) (p2:Int):Bool×(List Int)×Int×Int:=((((sl1Below x1 p0 p1 p2).1)==(0:Int)),((sl1Below x1 p0 p1 p2).2.1),((sl1Below x1 p0 p1 p2).2.2.1),((sl1Below x1 p0 p1 p2).2.2.2))
noncomputable abbrev e_sl1Once (r:Bool×(List Int)×Int×Int):AV×List AObj×List Nat:=((.t true .bool r.1),[(.box [(.t false t_sy r.2.1),(.t true (.int .i64) r.2.2.1),(.t true (.int .i64) r.2.2.2)])],[])
noncomputable abbrev F_sl1Once (r:Bool×(List Int)×Int×Int):=some (e_sl1Once r)
noncomputable abbrev g_sl1Once:SM_sl1Once.den→AV×List AObj×List Nat:=fun d=>e_sl1Once (sl1Once d.1.2.1 d.2.1.1 d.2.1.2.1 d.2.1.2.2.1)
noncomputable def q_sl1Once (x1:Int) (p0:List Int) (p1:Int) (p2:Int):Bool:=q_sl1Below x1 p0 p1 p2
noncomputable abbrev pre_sl1Once:SM_sl1Once.den→Bool:=fun d=>q_sl1Once d.1.2.1 d.2.1.1 d.2.1.2.1 d.2.1.2.2.1
theorem run_sl1Once:RunM G32 (fun _ _=>none) Try.f60 SM_sl1Once pre_sl1Once g_sl1Once:=by
 rintro ⟨⟨_,x1,_⟩,⟨⟨p0,p1,p2,_⟩,_⟩⟩ hp
 change q_sl1Once x1 p0 p1 p2=true at hp
 unfold q_sl1Once at hp
 refine Eq.trans (b:=(cond (q_sl1Below x1 p0 p1 p2) (some (e_sl1Once ((((sl1Below x1 p0 p1 p2).1)==(0:Int)),((sl1Below x1 p0 p1 p2).2.1),((sl1Below x1 p0 p1 p2).2.2.1),((sl1Below x1 p0 p1 p2).2.2.2)))) none)) (by kernel_rfl) ?_
 exact (cndT hp fun _h=>rfl)
noncomputable abbrev m_sl1Once:=win winIds (msum SM_sl1Once pre_sl1Once g_sl1Once)
theorem c_sl1Once:MContract Try.prog 60 m_sl1Once:=(MContract.of_data G32 (by kernel_rfl) (hl0 (by kernel_rfl)) _ _ _ run_sl1Once).win winIds
noncomputable def S33:Tab:=Tab.add S32 60 (m_sl1Once)
noncomputable def QF33:FuncId→Bool:=QF32
theorem G33:Good Try.prog tt S33 QF33:=G32.addM c_sl1Once (win_local _) ⟨Try.f60,by kernel_rfl,by kernel_rfl,by kernel_rfl⟩ (by kernel_rfl)

noncomputable abbrev SM_sl9Decide:SS:=⟨[.ptr 0 0 1 0,.t true (.int .i64),.t true .bool],[.box [.t true (.int .i64),.all 1 3,.t true (.int .i64),.all 2 2,.all 3 3],.rows 32 true tq4,.rows 70 true t_ptt,.rows 32 true tq4]⟩
noncomputable def sl9Decide (x1:Int) (x2:Bool) (p0:Int) (p2:Int) (h1:Lq1) (h2:LBBe) (h3:Lq1):Bool×Int×Int×(Lq1)×(LBBe)×Lq1:=(cond (!(sl1In x1 (1:Int) (1000000:Int))) (false,p0,p2,h1,h2,h3) (cond x2 (cond ((sl9Outcome p0 h1 p2 h2 h3 x1)==(1:Int)) (true,((sl9Write (2:Int) x1 [] p0 p2 h1 h2 h3).1),((sl9Write (2:Int) x1 [] p0 p2 h1 h2 h3).2.1),((sl9Write (2:Int) x1 [] p0 p2 h1 h2 h3).2.2.1),((sl9Write (2:Int) x1 [] p0 p2 h1 h2 h3).2.2.2.1),((sl9Write (2:Int) x1 [] p0 p2 h1 h2 h3).2.2.2.2)) (cond ((sl9Outcome p0 h1 p2 h2 h3 x1)==(3:Int)) (x2,p0,p2,h1,h2,h3) (cond ((sl9Outcome p0 h1 p2 h2 h3 x1)==(4:Int)) (!x2,p0,p2,h1,h2,h3) (cond x2 (false,p0,p2,h1,h2,h3) (cond (decide ((IntKind.wrap .i64 (((h1.length:Nat):Int)+((h3.length:Nat):Int))) ≥ (300:Int))) (false,p0,p2,h1,h2,h3) (true,((sl9Write (2:Int) x1 [] p0 p2 h1 h2 h3).1),((sl9Write (2:Int) x1 [] p0 p2 h1 h2 h3).2.1),((sl9Write (2:Int) x1 [] p0 p2 h1 h2 h3).2.2.1),((sl9Write (2:Int) x1 [] p0 p2 h1 h2 h3).2.2.2.1),((sl9Write (2:Int) x1 [] p0 p2 h1 h2 h3).2.2.2.2))))))) (cond ((sl9Outcome p0 h1 p2 h2 h3 x1)==(1:Int)) (true,((sl9Write (3:Int) x1 [] p0 p2 h1 h2 h3).1),((sl9Write (3:Int) x1 [] p0 p2 h1 h2 h3).2.1),((sl9Write (3:Int) x1 [] p0 p2 h1 h2 h3).2.2.1),((sl9Write (3:Int) x1 [] p0 p2 h1 h2 h3).2.2.2.1),((sl9Write (3:Int) x1 [] p0 p2 h1 h2 h3).2.2.2.2)) (cond ((sl9Outcome p0 h1 p2 h2 h3 x1)==(3:Int)) (x2,p0,p2,h1,h2,h3) (cond ((sl9Outcome p0 h1 p2 h2 h3 x1)==(4:Int)) (!x2,p0,p2,h1,h2,h3) (cond x2 (false,p0,p2,h1,h2,h3) (cond (decide ((IntKind.wrap .i64 (((h1.length:Nat):Int)+((h3.length:Nat):Int))) ≥ (300:Int))) (false,p0,p2,h1,h2,h3) (true,((sl9Write (3:Int) x1 [] p0 p2 h1 h2 h3).1),((sl9Write (3:Int) x1 [] p0 p2 h1 h2 h3).2.1),((sl9Write (3:Int) x1 [] p0 p2 h1 h2 h3).2.2.1),((sl9Write (3:Int) x1 [] p0 p2 h1 h2 h3).2.2.2.1),((sl9Write (3:Int) x1 [] p0 p2 h1 h2 h3).2.2.2.2)))))))))
noncomputable abbrev e_sl9Decide (r:Bool×Int×Int×(Lq1)×(LBBe)×Lq1):AV×List AObj×List Nat:=((.t true .bool r.1),[(.box [(.t true (.int .i64) r.2.1),(.all 1 3),(.t true (.int .i64) r.2.2.1),(.all 2 2),(.all 3 3)]),(.rows 32 true tq4 r.2.2.2.1),(.rows 70 true t_ptt r.2.2.2.2.1),(.rows 32 true tq4 r.2.2.2.2.2)],[1,2,3])
noncomputable abbrev F_sl9Decide (r:Bool×Int×Int×(Lq1)×(LBBe)×Lq1):=some (e_sl9Decide r)
noncomputable abbrev g_sl9Decide:SM_sl9Decide.den→AV×List AObj×List Nat:=fun d=>e_sl9Decide (sl9Decide d.1.2.1 d.1.2.2.1 d.2.1.1 d.2.1.2.2.1 d.2.2.1 d.2.2.2.1 d.2.2.2.2.1)
noncomputable def q_sl9Decide (x1:Int) (x2:Bool) (p0:Int) (p2:Int) (h1:Lq1) (h2:LBBe) (h3:Lq1):Bool:=cond (!(sl1In x1 (1:Int) (1000000:Int))) true (cond x2 ((q_sl9Outcome p0 h1 p2 h2 h3 x1)&&(cond ((sl9Outcome p0 h1 p2 h2 h3 x1)==(1:Int)) (q_sl9Write (2:Int) x1 [] p0 p2 h1 h2 h3) (cond ((sl9Outcome p0 h1 p2 h2 h3 x1)==(3:Int)) true (cond ((sl9Outcome p0 h1 p2 h2 h3 x1)==(4:Int)) true (cond x2 true (cond (decide ((IntKind.wrap .i64 (((h1.length:Nat):Int)+((h3.length:Nat):Int))) ≥ (300:Int))) true (q_sl9Write (2:Int) x1 [] p0 p2 h1 h2 h3))))))) ((q_sl9Outcome p0 h1 p2 h2 h3 x1)&&(cond ((sl9Outcome p0 h1 p2 h2 h3 x1)==(1:Int)) (q_sl9Write (3:Int) x1 [] p0 p2 h1 h2 h3) (cond ((sl9Outcome p0 h1 p2 h2 h3 x1)==(3:Int)) true (cond ((sl9Outcome p0 h1 p2 h2 h3 x1)==(4:Int)) true (cond x2 true (cond (decide ((IntKind.wrap .i64 (((h1.length:Nat):Int)+((h3.length:Nat):Int))) ≥ (300:Int))) true (q_sl9Write (3:Int) x1 [] p0 p2 h1 h2 h3))))))))
noncomputable abbrev pre_sl9Decide:SM_sl9Decide.den→Bool:=fun d=>q_sl9Decide d.1.2.1 d.1.2.2.1 d.2.1.1 d.2.1.2.2.1 d.2.2.1 d.2.2.2.1 d.2.2.2.2.1
theorem run_sl9Decide:RunE false [] [1,2,3] [] G33 (fun _ _=>none) Try.f63 SM_sl9Decide pre_sl9Decide g_sl9Decide:=by
 rintro ⟨⟨_,x1,x2,_⟩,⟨⟨p0,_,p2,_,_,_⟩,h1,h2,h3,_⟩⟩ hp
 change q_sl9Decide x1 x2 p0 p2 h1 h2 h3=true at hp
 unfold q_sl9Decide at hp
 refine Eq.trans (b:=(cond (!(sl1In x1 (1:Int) (1000000:Int))) (some (e_sl9Decide (false,p0,p2,h1,h2,h3))) (cond x2 (cond (q_sl9Outcome p0 h1 p2 h2 h3 x1) (cond ((sl9Outcome p0 h1 p2 h2 h3 x1)==(1:Int)) (cond (q_sl9Write (2:Int) x1 [] p0 p2 h1 h2 h3) (some (e_sl9Decide (true,((sl9Write (2:Int) x1 [] p0 p2 h1 h2 h3).1),((sl9Write (2:Int) x1 [] p0 p2 h1 h2 h3).2.1),((sl9Write (2:Int) x1 [] p0 p2 h1 h2 h3).2.2.1),((sl9Write (2:Int) x1 [] p0 p2 h1 h2 h3).2.2.2.1),((sl9Write (2:Int) x1 [] p0 p2 h1 h2 h3).2.2.2.2)))) none) (cond ((sl9Outcome p0 h1 p2 h2 h3 x1)==(3:Int)) (some (e_sl9Decide (x2,p0,p2,h1,h2,h3))) (cond ((sl9Outcome p0 h1 p2 h2 h3 x1)==(4:Int)) (some (e_sl9Decide (!x2,p0,p2,h1,h2,h3))) (cond x2 (some (e_sl9Decide (false,p0,p2,h1,h2,h3))) (cond (decide ((IntKind.wrap .i64 (((h1.length:Nat):Int)+((h3.length:Nat):Int))) ≥ (300:Int))) (some (e_sl9Decide (false,p0,p2,h1,h2,h3))) (cond (q_sl9Write (2:Int) x1 [] p0 p2 h1 h2 h3) (some (e_sl9Decide (true,((sl9Write (2:Int) x1 [] p0 p2 h1 h2 h3).1),((sl9Write (2:Int) x1 [] p0 p2 h1 h2 h3).2.1),((sl9Write (2:Int) x1 [] p0 p2 h1 h2 h3).2.2.1),((sl9Write (2:Int) x1 [] p0 p2 h1 h2 h3).2.2.2.1),((sl9Write (2:Int) x1 [] p0 p2 h1 h2 h3).2.2.2.2)))) none)))))) none) (cond (q_sl9Outcome p0 h1 p2 h2 h3 x1) (cond ((sl9Outcome p0 h1 p2 h2 h3 x1)==(1:Int)) (cond (q_sl9Write (3:Int) x1 [] p0 p2 h1 h2 h3) (some (e_sl9Decide (true,((sl9Write (3:Int) x1 [] p0 p2 h1 h2 h3).1),((sl9Write (3:Int) x1 [] p0 p2 h1 h2 h3).2.1),((sl9Write (3:Int) x1 [] p0 p2 h1 h2 h3).2.2.1),((sl9Write (3:Int) x1 [] p0 p2 h1 h2 h3).2.2.2.1),((sl9Write (3:Int) x1 [] p0 p2 h1 h2 h3).2.2.2.2)))) none) (cond ((sl9Outcome p0 h1 p2 h2 h3 x1)==(3:Int)) (some (e_sl9Decide (x2,p0,p2,h1,h2,h3))) (cond ((sl9Outcome p0 h1 p2 h2 h3 x1)==(4:Int)) (some (e_sl9Decide (!x2,p0,p2,h1,h2,h3))) (cond x2 (some (e_sl9Decide (false,p0,p2,h1,h2,h3))) (cond (decide ((IntKind.wrap .i64 (((h1.length:Nat):Int)+((h3.length:Nat):Int))) ≥ (300:Int))) (some (e_sl9Decide (false,p0,p2,h1,h2,h3))) (cond (q_sl9Write (3:Int) x1 [] p0 p2 h1 h2 h3) (some (e_sl9Decide (true,((sl9Write (3:Int) x1 [] p0 p2 h1 h2 h3).1),((sl9Write (3:Int) x1 [] p0 p2 h1 h2 h3).2.1),((sl9Write (3:Int) x1 [] p0 p2 h1 h2 h3).2.2.1),((sl9Write (3:Int) x1 [] p0 p2 h1 h2 h3).2.2.2.1),((sl9Write (3:Int) x1 [] p0 p2 h1 h2 h3).2.2.2.2)))) none)))))) none)))) (by kernel_rfl) ?_
 exact (cndQ (F:=F_sl9Decide) hp (fun hp=>rfl) (fun hp=>(cndQ (F:=F_sl9Decide) hp (fun hp=>(cndA hp fun hp=>(cndQ (F:=F_sl9Decide) hp (fun hp=>(cndT hp fun _h=>rfl)) (fun hp=>(cndQ (F:=F_sl9Decide) hp (fun hp=>rfl) (fun hp=>(cndQ (F:=F_sl9Decide) hp (fun hp=>rfl) (fun hp=>(cndQ (F:=F_sl9Decide) hp (fun hp=>rfl) (fun hp=>(cndQ (F:=F_sl9Decide) hp (fun hp=>rfl) (fun hp=>(cndT hp fun _h=>rfl))))))))))))) (fun hp=>(cndA hp fun hp=>(cndQ (F:=F_sl9Decide) hp (fun hp=>(cndT hp fun _h=>rfl)) (fun hp=>(cndQ (F:=F_sl9Decide) hp (fun hp=>rfl) (fun hp=>(cndQ (F:=F_sl9Decide) hp (fun hp=>rfl) (fun hp=>(cndQ (F:=F_sl9Decide) hp (fun hp=>rfl) (fun hp=>(cndQ (F:=F_sl9Decide) hp (fun hp=>rfl) (fun hp=>(cndT hp fun _h=>rfl))))))))))))))))
noncomputable abbrev m_sl9Decide:=win winIds (msum SM_sl9Decide pre_sl9Decide g_sl9Decide)
theorem c_sl9Decide:MContract Try.prog 63 m_sl9Decide:=(MContract.of_dataE false [] [1,2,3] []  G33 (by kernel_rfl) (hl0 (by kernel_rfl)) _ _ _ run_sl9Decide).win winIds
noncomputable def S34:Tab:=Tab.add S33 63 (m_sl9Decide)
noncomputable def QF34:FuncId→Bool:=QF33
theorem G34:Good Try.prog tt S34 QF34:=G33.addM c_sl9Decide (win_local _) ⟨Try.f63,by kernel_rfl,by kernel_rfl,by kernel_rfl⟩ (by kernel_rfl)

noncomputable abbrev SM_sl8One_w1:SS:=⟨[.ptr 0 0 1 0,.agg [.t true (.int .i64),.t true (.int .i64),.t false tq5]],[.box [.all 1 2,.all 2 3,.all 3 1],.rows 70 true t_ptt,.rows 32 true tq4,.rows 3 true (.int .i64)]⟩
noncomputable def sl8One_w1 (x1_0:Int) (x1_1:Int) (x1_2:Lq2) (h1:LBBe) (h2:Lq1) (h3:List Int):Bool×(LBBe)×(Lq1)×List Int:=(cond (!(sRecOk x1_0 x1_1 x1_2)) (false,h1,h2,h3) (cond (x1_0==(1:Int)) (cond (sl7Has h3 x1_1) (false,h1,h2,h3) (cond (sl8Locked h2 x1_2) (false,h1,h2,h3) (cond (!(sMeets h1 x1_2)) (false,h1,h2,h3) (true,h1,h2++[(((sl8CopyRec x1_0 x1_1 x1_2).1),(((sl8CopyRec x1_0 x1_1 x1_2).2.1),((sl8CopyRec x1_0 x1_1 x1_2).2.2)))],h3++[x1_1])))) (cond (decide ((sl8At h2 x1_1)<(0:Int))) (cond (x1_0==(3:Int)) (!(sl7Has h3 x1_1),h1,h2,h3++[x1_1]) (false,h1,h2,h3++[x1_1])) (cond (x1_0==(2:Int)) (decide ((((sApply h1 (((h2.getD ((sl8At h2 x1_1).toNat) ((0:Int),((0:Int),[]))).2).2)).length:Nat):Int)≤(60:Int)),(sApply h1 (((h2.getD ((sl8At h2 x1_1).toNat) ((0:Int),((0:Int),[]))).2).2)),(([]:Lq1)++(h2.take ((sl8At h2 x1_1).toNat)))++((h2.drop ((IntKind.wrap .i64 ((sl8At h2 x1_1)+(1:Int))).toNat)).take (((h2.length:Nat):Int).toNat - (IntKind.wrap .i64 ((sl8At h2 x1_1)+(1:Int))).toNat)),h3) (decide (((h1.length:Nat):Int)≤(60:Int)),h1,(([]:Lq1)++(h2.take ((sl8At h2 x1_1).toNat)))++((h2.drop ((IntKind.wrap .i64 ((sl8At h2 x1_1)+(1:Int))).toNat)).take (((h2.length:Nat):Int).toNat - (IntKind.wrap .i64 ((sl8At h2 x1_1)+(1:Int))).toNat)),h3)))))
noncomputable abbrev e_sl8One_w1 (r:Bool×(LBBe)×(Lq1)×List Int):AV×List AObj×List Nat:=((.t true .bool r.1),[(.box [(.all 1 2),(.all 2 3),(.all 3 1)]),(.rows 70 true t_ptt r.2.1),(.rows 32 true tq4 r.2.2.1),(.rows 3 true (.int .i64) r.2.2.2)],[1,2,3])
noncomputable abbrev F_sl8One_w1 (r:Bool×(LBBe)×(Lq1)×List Int):=some (e_sl8One_w1 r)
noncomputable abbrev g_sl8One_w1:SM_sl8One_w1.den→AV×List AObj×List Nat:=fun d=>e_sl8One_w1 (sl8One_w1 d.1.2.1.1 d.1.2.1.2.1 d.1.2.1.2.2.1 d.2.2.1 d.2.2.2.1 d.2.2.2.2.1)
noncomputable def q_sl8One_w1 (x1_0:Int) (x1_1:Int) (x1_2:Lq2) (h1:LBBe) (h2:Lq1) (h3:List Int):Bool:=(q_sl8At h2 x1_1)&&((q_sRecOk x1_0 x1_1 x1_2)&&(cond (!(sRecOk x1_0 x1_1 x1_2)) true (cond (x1_0==(1:Int)) ((q_sl7Has h3 x1_1)&&(cond (sl7Has h3 x1_1) true ((q_sl8Locked h2 x1_2)&&(cond (sl8Locked h2 x1_2) true ((q_sMeets h1 x1_2)&&(cond (!(sMeets h1 x1_2)) true ((q_sl8CopyRec x1_0 x1_1 x1_2)&&((decide ((h2.length+[(((sl8CopyRec x1_0 x1_1 x1_2).1),(((sl8CopyRec x1_0 x1_1 x1_2).2.1),((sl8CopyRec x1_0 x1_1 x1_2).2.2)))].length)*40≤MAXB))&&(decide ((h3.length+[x1_1].length)*8≤MAXB)))))))))) (cond (decide ((sl8At h2 x1_1)<(0:Int))) (cond (x1_0==(3:Int)) ((q_sl7Has h3 x1_1)&&(decide ((h3.length+[x1_1].length)*8≤MAXB))) (decide ((h3.length+[x1_1].length)*8≤MAXB))) (cond (x1_0==(2:Int)) ((decide (0≤(sl8At h2 x1_1)∧(sl8At h2 x1_1)<((h2.length:Nat):Int)))&&((q_sApply h1 (((h2.getD ((sl8At h2 x1_1).toNat) ((0:Int),((0:Int),[]))).2).2))&&((decide (0≤(0:Int)∧(0:Int)≤(sl8At h2 x1_1)∧(sl8At h2 x1_1)≤((h2.length:Nat):Int)))&&((decide (0≤(IntKind.wrap .i64 ((sl8At h2 x1_1)+(1:Int)))∧(IntKind.wrap .i64 ((sl8At h2 x1_1)+(1:Int)))≤((h2.length:Nat):Int)∧((h2.length:Nat):Int)≤((h2.length:Nat):Int)))&&((decide ((([]:Lq1).length+(h2.take ((sl8At h2 x1_1).toNat)).length)*40≤MAXB))&&(decide (((([]:Lq1)++(h2.take ((sl8At h2 x1_1).toNat))).length+((h2.drop ((IntKind.wrap .i64 ((sl8At h2 x1_1)+(1:Int))).toNat)).take (((h2.length:Nat):Int).toNat - (IntKind.wrap .i64 ((sl8At h2 x1_1)+(1:Int))).toNat)).length)*40≤MAXB))))))) ((decide (0≤(0:Int)∧(0:Int)≤(sl8At h2 x1_1)∧(sl8At h2 x1_1)≤((h2.length:Nat):Int)))&&((decide (0≤(IntKind.wrap .i64 ((sl8At h2 x1_1)+(1:Int)))∧(IntKind.wrap .i64 ((sl8At h2 x1_1)+(1:Int)))≤((h2.length:Nat):Int)∧((h2.length:Nat):Int)≤((h2.length:Nat):Int)))&&((decide ((([]:Lq1).length+(h2.take ((sl8At h2 x1_1).toNat)).length)*40≤MAXB))&&(decide (((([]:Lq1)++(h2.take ((sl8At h2 x1_1).toNat))).length+((h2.drop ((IntKind.wrap .i64 ((sl8At h2 x1_1)+(1:Int))).toNat)).take (((h2.length:Nat):Int).toNat - (IntKind.wrap .i64 ((sl8At h2 x1_1)+(1:Int))).toNat)).length)*40≤MAXB))))))))))
noncomputable abbrev pre_sl8One_w1:SM_sl8One_w1.den→Bool:=fun d=>q_sl8One_w1 d.1.2.1.1 d.1.2.1.2.1 d.1.2.1.2.2.1 d.2.2.1 d.2.2.2.1 d.2.2.2.2.1
theorem run_sl8One_w1:RunE false [] [1,2,3] [(0,0,1,70,t_ptt),(0,1,2,32,tq4)] G34 (fun _ _=>none) Try.f86 SM_sl8One_w1 pre_sl8One_w1 g_sl8One_w1:=by
 rintro ⟨⟨_,⟨x1_0,x1_1,x1_2,_⟩,_⟩,⟨⟨_,_,_,_⟩,h1,h2,h3,_⟩⟩ hp
 change q_sl8One_w1 x1_0 x1_1 x1_2 h1 h2 h3=true at hp
 unfold q_sl8One_w1 at hp
 refine Eq.trans (b:=(cond (q_sl8At h2 x1_1) (cond (q_sRecOk x1_0 x1_1 x1_2) (cond (!(sRecOk x1_0 x1_1 x1_2)) (some (e_sl8One_w1 (false,h1,h2,h3))) (cond (x1_0==(1:Int)) (cond (q_sl7Has h3 x1_1) (cond (sl7Has h3 x1_1) (some (e_sl8One_w1 (false,h1,h2,h3))) (cond (q_sl8Locked h2 x1_2) (cond (sl8Locked h2 x1_2) (some (e_sl8One_w1 (false,h1,h2,h3))) (cond (q_sMeets h1 x1_2) (cond (!(sMeets h1 x1_2)) (some (e_sl8One_w1 (false,h1,h2,h3))) (cond (q_sl8CopyRec x1_0 x1_1 x1_2) (cond (decide ((h2.length+[(((sl8CopyRec x1_0 x1_1 x1_2).1),(((sl8CopyRec x1_0 x1_1 x1_2).2.1),((sl8CopyRec x1_0 x1_1 x1_2).2.2)))].length)*40≤MAXB)) (cond (decide ((h3.length+[x1_1].length)*8≤MAXB)) (some (e_sl8One_w1 (true,h1,h2++[(((sl8CopyRec x1_0 x1_1 x1_2).1),(((sl8CopyRec x1_0 x1_1 x1_2).2.1),((sl8CopyRec x1_0 x1_1 x1_2).2.2)))],h3++[x1_1]))) none) none) none)) none)) none)) none) (cond (decide ((sl8At h2 x1_1)<(0:Int))) (cond (x1_0==(3:Int)) (cond (q_sl7Has h3 x1_1) (cond (decide ((h3.length+[x1_1].length)*8≤MAXB)) (some (e_sl8One_w1 (!(sl7Has h3 x1_1),h1,h2,h3++[x1_1]))) none) none) (cond (decide ((h3.length+[x1_1].length)*8≤MAXB)) (some (e_sl8One_w1 (false,h1,h2,h3++[x1_1]))) none)) (cond (x1_0==(2:Int)) (cond (decide (0≤(sl8At h2 x1_1)∧(sl8At h2 x1_1)<((h2.length:Nat):Int))) (cond (q_sApply h1 (((h2.getD ((sl8At h2 x1_1).toNat) ((0:Int),((0:Int),[]))).2).2)) (cond (decide (0≤(0:Int)∧(0:Int)≤(sl8At h2 x1_1)∧(sl8At h2 x1_1)≤((h2.length:Nat):Int))) (cond (decide (0≤(IntKind.wrap .i64 ((sl8At h2 x1_1)+(1:Int)))∧(IntKind.wrap .i64 ((sl8At h2 x1_1)+(1:Int)))≤((h2.length:Nat):Int)∧((h2.length:Nat):Int)≤((h2.length:Nat):Int))) (cond (decide ((([]:Lq1).length+(h2.take ((sl8At h2 x1_1).toNat)).length)*40≤MAXB)) (cond (decide (((([]:Lq1)++(h2.take ((sl8At h2 x1_1).toNat))).length+((h2.drop ((IntKind.wrap .i64 ((sl8At h2 x1_1)+(1:Int))).toNat)).take (((h2.length:Nat):Int).toNat - (IntKind.wrap .i64 ((sl8At h2 x1_1)+(1:Int))).toNat)).length)*40≤MAXB)) (some (e_sl8One_w1 (decide ((((sApply h1 (((h2.getD ((sl8At h2 x1_1).toNat) ((0:Int),((0:Int),[]))).2).2)).length:Nat):Int)≤(60:Int)),(sApply h1 (((h2.getD ((sl8At h2 x1_1).toNat) ((0:Int),((0:Int),[]))).2).2)),(([]:Lq1)++(h2.take ((sl8At h2 x1_1).toNat)))++((h2.drop ((IntKind.wrap .i64 ((sl8At h2 x1_1)+(1:Int))).toNat)).take (((h2.length:Nat):Int).toNat - (IntKind.wrap .i64 ((sl8At h2 x1_1)+(1:Int))).toNat)),h3))) none) none) none) none) none) none) (cond (decide (0≤(0:Int)∧(0:Int)≤(sl8At h2 x1_1)∧(sl8At h2 x1_1)≤((h2.length:Nat):Int))) (cond (decide (0≤(IntKind.wrap .i64 ((sl8At h2 x1_1)+(1:Int)))∧(IntKind.wrap .i64 ((sl8At h2 x1_1)+(1:Int)))≤((h2.length:Nat):Int)∧((h2.length:Nat):Int)≤((h2.length:Nat):Int))) (cond (decide ((([]:Lq1).length+(h2.take ((sl8At h2 x1_1).toNat)).length)*40≤MAXB)) (cond (decide (((([]:Lq1)++(h2.take ((sl8At h2 x1_1).toNat))).length+((h2.drop ((IntKind.wrap .i64 ((sl8At h2 x1_1)+(1:Int))).toNat)).take (((h2.length:Nat):Int).toNat - (IntKind.wrap .i64 ((sl8At h2 x1_1)+(1:Int))).toNat)).length)*40≤MAXB)) (some (e_sl8One_w1 (decide (((h1.length:Nat):Int)≤(60:Int)),h1,(([]:Lq1)++(h2.take ((sl8At h2 x1_1).toNat)))++((h2.drop ((IntKind.wrap .i64 ((sl8At h2 x1_1)+(1:Int))).toNat)).take (((h2.length:Nat):Int).toNat - (IntKind.wrap .i64 ((sl8At h2 x1_1)+(1:Int))).toNat)),h3))) none) none) none) none))))) none) none)) (by kernel_rfl) ?_
 exact (cndA hp fun hp=>(cndA hp fun hp=>(cndQ (F:=F_sl8One_w1) hp (fun hp=>rfl) (fun hp=>(cndQ (F:=F_sl8One_w1) hp (fun hp=>(cndA hp fun hp=>(cndQ (F:=F_sl8One_w1) hp (fun hp=>rfl) (fun hp=>(cndA hp fun hp=>(cndQ (F:=F_sl8One_w1) hp (fun hp=>rfl) (fun hp=>(cndA hp fun hp=>(cndQ (F:=F_sl8One_w1) hp (fun hp=>rfl) (fun hp=>(cndA hp fun hp=>(cndA hp fun hp=>(cndT hp fun _h=>rfl))))))))))))) (fun hp=>(cndQ (F:=F_sl8One_w1) hp (fun hp=>(cndQ (F:=F_sl8One_w1) hp (fun hp=>(cndA hp fun hp=>(cndT hp fun _h=>rfl))) (fun hp=>(cndT hp fun _h=>rfl)))) (fun hp=>(cndQ (F:=F_sl8One_w1) hp (fun hp=>(cndA hp fun hp=>(cndA hp fun hp=>(cndA hp fun hp=>(cndA hp fun hp=>(cndA hp fun hp=>(cndT hp fun _h=>rfl))))))) (fun hp=>(cndA hp fun hp=>(cndA hp fun hp=>(cndA hp fun hp=>(cndT hp fun _h=>rfl))))))))))))))
noncomputable abbrev m_sl8One_w1:=win winIds (msum SM_sl8One_w1 pre_sl8One_w1 g_sl8One_w1)
theorem c_sl8One_w1:MContract Try.prog 86 m_sl8One_w1:=(MContract.of_dataE false [] [1,2,3] [(0,0,1,70,t_ptt),(0,1,2,32,tq4)]  G34 (by kernel_rfl) (hl0 (by kernel_rfl)) _ _ _ run_sl8One_w1).win winIds
noncomputable def S35:Tab:=Tab.add S34 86 (orElseS (m_sl8One) (m_sl8One_w1))
noncomputable def QF35:FuncId→Bool:=QF34
theorem G35:Good Try.prog tt S35 QF35:=G34.addM (MContract.orElse c_sl8One c_sl8One_w1) (orElse_local (win_local _) (win_local _)) ⟨Try.f86,by kernel_rfl,by kernel_rfl,by kernel_rfl⟩ (by kernel_rfl)

noncomputable abbrev jS29:List Sh:=.junk::jS28
noncomputable abbrev jA29:List AV:=.junk::jA28
noncomputable abbrev P_sReplayRecs:List PSh:=[.t tq3]
noncomputable abbrev S_sReplayRecs_0:SS:=⟨(.t false tq3::.junk::.junk::.junk::.junk::.ptr 0 0 1 0::.t true (.int .i64)::jS27),[.box [.all 1 2,.all 2 3,.all 3 1],.rows 70 true t_ptt,.rows 32 true tq4,.rows 3 true (.int .i64)]⟩
noncomputable abbrev E_sReplayRecs_0_0:SS:=⟨(.junk::.junk::.all 0 2::.all 1 3::.t true .bool::jS29),[.rows 70 true t_ptt,.rows 32 true tq4]⟩
noncomputable abbrev E_sReplayRecs_0_1:SS:=⟨(.junk::.junk::.junk::.junk::.junk::.ptr 0 0 1 0::jS28),[.box [.all 1 2,.all 2 3,.all 3 1],.rows 70 true t_ptt,.rows 32 true tq4,.rows 3 true (.int .i64)]⟩
noncomputable def k1_sReplayRecs (x0:Lq1) (x6:Int) (h1:LBBe) (h2:Lq1) (h3:List Int):=sl8One_w1 ((x0.getD x6.toNat ((0:Int),((0:Int),[]))).1) (((x0.getD x6.toNat ((0:Int),((0:Int),[]))).2).1) (((x0.getD x6.toNat ((0:Int),((0:Int),[]))).2).2) h1 h2 h3
noncomputable def st_sReplayRecs_0 (x0:Lq1) (x6:Int) (h1:LBBe) (h2:Lq1) (h3:List Int):RT S_sReplayRecs_0.den:=(.br (decide (x6<((x0.length:Nat):Int))) (.br (decide (0≤x6∧x6<((x0.length:Nat):Int))) (.br (q_sl8One_w1 ((x0.getD x6.toNat ((0:Int),((0:Int),[]))).1) (((x0.getD x6.toNat ((0:Int),((0:Int),[]))).2).1) (((x0.getD x6.toNat ((0:Int),((0:Int),[]))).2).2) h1 h2 h3) (.br (!((k1_sReplayRecs x0 x6 h1 h2 h3).1)) (.done .ret E_sReplayRecs_0_0 (((),(),(),(),false,u30),(([]:LBBe),([]:Lq1),()))) (.next ((x0,(),(),(),(),(),IntKind.wrap .i64 (x6+(1:Int)),u28),(((),(),(),()),((k1_sReplayRecs x0 x6 h1 h2 h3).2.1),((k1_sReplayRecs x0 x6 h1 h2 h3).2.2.1),((k1_sReplayRecs x0 x6 h1 h2 h3).2.2.2),())))) .fail) .fail) (.done (.exit 0) E_sReplayRecs_0_1 ((u35),(((),(),(),()),h1,h2,h3,()))))
noncomputable abbrev V_sReplayRecs_0:=(Lq1)×(Int)×(LBBe)×(Lq1)×(List Int)
noncomputable abbrev A_sReplayRecs_0:=Nat×(Bool)×(LBBe)×(Lq1)×(LBBe)×(Lq1)×(List Int)
noncomputable def fl_sReplayRecs_0:A_sReplayRecs_0:=(99,(false:Bool),([]:LBBe),([]:Lq1),([]:LBBe),([]:Lq1),([]:List Int))
noncomputable def ss_sReplayRecs_0 (x0:Lq1) (x6:Int) (h1:LBBe) (h2:Lq1) (h3:List Int):V_sReplayRecs_0 ⊕ A_sReplayRecs_0:=(cond (decide (x6<((x0.length:Nat):Int))) (cond (decide (0≤x6∧x6<((x0.length:Nat):Int))) (cond (q_sl8One_w1 ((x0.getD x6.toNat ((0:Int),((0:Int),[]))).1) (((x0.getD x6.toNat ((0:Int),((0:Int),[]))).2).1) (((x0.getD x6.toNat ((0:Int),((0:Int),[]))).2).2) h1 h2 h3) (cond (!((k1_sReplayRecs x0 x6 h1 h2 h3).1)) (.inr (0,false,([]:LBBe),([]:Lq1),([]:LBBe),([]:Lq1),([]:List Int))) (.inl (x0,IntKind.wrap .i64 (x6+(1:Int)),((k1_sReplayRecs x0 x6 h1 h2 h3).2.1),((k1_sReplayRecs x0 x6 h1 h2 h3).2.2.1),((k1_sReplayRecs x0 x6 h1 h2 h3).2.2.2)))) (.inr fl_sReplayRecs_0)) (.inr fl_sReplayRecs_0)) (.inr (1,(false:Bool),([]:LBBe),([]:Lq1),h1,h2,h3)))
noncomputable def it_sReplayRecs_0 (x0:Lq1) (x6:Int) (h1:LBBe) (h2:Lq1) (h3:List Int):A_sReplayRecs_0:=itX (fun v:V_sReplayRecs_0=>ss_sReplayRecs_0 v.1 v.2.1 v.2.2.1 v.2.2.2.1 v.2.2.2.2) fl_sReplayRecs_0 (x0,x6,h1,h2,h3)
noncomputable def ct_sReplayRecs_0 (a:A_sReplayRecs_0):CT:=(.br (a.1==0) (.done .ret E_sReplayRecs_0_0 (((),(),(),(),a.2.1,u30),(a.2.2.1,a.2.2.2.1,()))) (.br (a.1==1) (.done (.exit 0) E_sReplayRecs_0_1 ((u35),(((),(),(),()),a.2.2.2.2.1,a.2.2.2.2.2.1,a.2.2.2.2.2.2,()))) .fail))
noncomputable def T_sReplayRecs_0 (x0:Lq1) (x6:Int) (h1:LBBe) (h2:Lq1) (h3:List Int):CT:=ct_sReplayRecs_0 (it_sReplayRecs_0 x0 x6 h1 h2 h3)
noncomputable abbrev sp_sReplayRecs_0:S_sReplayRecs_0.den→RT S_sReplayRecs_0.den:=fun d=>st_sReplayRecs_0 d.1.1 d.1.2.2.2.2.2.2.1 d.2.2.1 d.2.2.2.1 d.2.2.2.2.1
noncomputable abbrev pk_sReplayRecs_0 (x0:Lq1) (x6:Int) (h1:LBBe) (h2:Lq1) (h3:List Int):S_sReplayRecs_0.den:=((x0,(),(),(),(),(),x6,u28),(((),(),(),()),h1,h2,h3,()))
noncomputable def body_sReplayRecs_0:Code:=((loopsIn 0 (bodyOf Try.f52)).getD 0 (0,.skip)).2
noncomputable abbrev pv_sReplayRecs_0 (v:V_sReplayRecs_0):S_sReplayRecs_0.den:=pk_sReplayRecs_0 v.1 v.2.1 v.2.2.1 v.2.2.2.1 v.2.2.2.2
noncomputable def ox_sReplayRecs_0 (x0:Lq1) (x6:Int) (h1:LBBe) (h2:Lq1) (h3:List Int):Option (Ex×St):=(cond (decide (x6<((x0.length:Nat):Int))) (cond (decide (0≤x6∧x6<((x0.length:Nat):Int))) (cond (q_sl8One_w1 ((x0.getD x6.toNat ((0:Int),((0:Int),[]))).1) (((x0.getD x6.toNat ((0:Int),((0:Int),[]))).2).1) (((x0.getD x6.toNat ((0:Int),((0:Int),[]))).2).2) h1 h2 h3) (cond (!((k1_sReplayRecs x0 x6 h1 h2 h3).1)) (some (.ret,(⟨(.junk::.junk::(.all 0 2)::(.all 1 3)::(.t true .bool false)::jA29),[(.rows 70 true t_ptt ([]:LBBe)),(.rows 32 true tq4 ([]:Lq1))],0,[]⟩:St))) (some (.normal,(⟨((.t false tq3 x0)::.junk::.junk::.junk::.junk::(.ptr 0 0 1 0)::(.t true (.int .i64) (IntKind.wrap .i64 (x6+(1:Int))))::jA27),[(.box [(.all 1 2),(.all 2 3),(.all 3 1)]),(.rows 70 true t_ptt ((k1_sReplayRecs x0 x6 h1 h2 h3).2.1)),(.rows 32 true tq4 ((k1_sReplayRecs x0 x6 h1 h2 h3).2.2.1)),(.rows 3 true (.int .i64) ((k1_sReplayRecs x0 x6 h1 h2 h3).2.2.2))],0,[]⟩:St)))) none) none) (some ((.exit 0),(⟨(.junk::.junk::.junk::.junk::.junk::(.ptr 0 0 1 0)::jA28),[(.box [(.all 1 2),(.all 2 3),(.all 3 1)]),(.rows 70 true t_ptt h1),(.rows 32 true tq4 h2),(.rows 3 true (.int .i64) h3)],0,[]⟩:St))))
theorem rdA_sReplayRecs_0:RdA G35 (fun _ _=>none) 0 body_sReplayRecs_0 S_sReplayRecs_0 0 [] (kepts [2,3,4] [(0,[5])]) (fun d=>ox_sReplayRecs_0 d.1.1 d.1.2.2.2.2.2.2.1 d.2.2.1 d.2.2.2.1 d.2.2.2.2.1):=by
 intro d
 kernel_rfl
theorem rdB_sReplayRecs_0:∀ d:S_sReplayRecs_0.den,ox_sReplayRecs_0 d.1.1 d.1.2.2.2.2.2.2.1 d.2.2.1 d.2.2.2.1 d.2.2.2.2.1=(sp_sReplayRecs_0 d).opt 0 []:=by
 intro d
 kernel_rfl
noncomputable abbrev say_sReplayRecs_0:St→Option Tree:=S_sReplayRecs_0.say 0 [] [(2005002,3,(.int .i64))] (fun d=>T_sReplayRecs_0 d.1.1 d.1.2.2.2.2.2.2.1 d.2.2.1 d.2.2.2.1 d.2.2.2.2.1)
theorem lw_sReplayRecs_0:LoopWp Try.prog say_sReplayRecs_0 body_sReplayRecs_0:=SS.wp2 (hl0 (by kernel_rfl)) [(2005002,3,(.int .i64))] sp_sReplayRecs_0 rdA_sReplayRecs_0 rdB_sReplayRecs_0 _ (fun d=>Runs.ofIt (step:=sp_sReplayRecs_0) pv_sReplayRecs_0 (ct:=ct_sReplayRecs_0) rfl (fun v=>((relB (relB (relB (relB rfl rfl) rfl) rfl) rfl):(st_sReplayRecs_0 v.1 v.2.1 v.2.2.1 v.2.2.2.1 v.2.2.2.2).val=relS pv_sReplayRecs_0 ct_sReplayRecs_0 (ss_sReplayRecs_0 v.1 v.2.1 v.2.2.1 v.2.2.2.1 v.2.2.2.2))) (fun a=>((cendB (cendD (by simp)) (cendB (cendD (by simp)) cendF)):CEnd _ (ct_sReplayRecs_0 a))) (d.1.1,d.1.2.2.2.2.2.2.1,d.2.2.1,d.2.2.2.1,d.2.2.2.2.1))
noncomputable def k2_sReplayRecs (a0:Lq1):=it_sReplayRecs_0 a0 (0:Int) ([]:LBBe) ([]:Lq1) ([]:List Int)
noncomputable def sReplayRecs (a0:Lq1):Bool×(LBBe)×Lq1:=(cond ((k2_sReplayRecs a0).1==0) (((k2_sReplayRecs a0).2.1),((k2_sReplayRecs a0).2.2.1),((k2_sReplayRecs a0).2.2.2.1)) (true,((k2_sReplayRecs a0).2.2.2.2.1),((k2_sReplayRecs a0).2.2.2.2.2.1)))
noncomputable abbrev e_sReplayRecs (r:Bool×(LBBe)×Lq1):AV×List AObj:=((.tup [(.all 0 2),(.all 1 3),(.t true .bool r.1)]),[(.rows 70 true t_ptt r.2.1),(.rows 32 true tq4 r.2.2)])
noncomputable abbrev F_sReplayRecs (r:Bool×(LBBe)×Lq1):=some (e_sReplayRecs r)
noncomputable abbrev g_sReplayRecs:pshsDen P_sReplayRecs→AV×List AObj:=fun d=>e_sReplayRecs (sReplayRecs d.1)
noncomputable def q_sReplayRecs (a0:Lq1):Bool:=cond ((k2_sReplayRecs a0).1==0) true ((k2_sReplayRecs a0).1==1)
noncomputable abbrev pre_sReplayRecs:pshsDen P_sReplayRecs→Bool:=fun d=>q_sReplayRecs d.1
noncomputable abbrev L_sReplayRecs:Nat→St→Option Tree:=fun b=>match b with | 0=>say_sReplayRecs_0 | _=>fun _=>none
theorem run_sReplayRecs:RunP false G35 (L_sReplayRecs) Try.f52 P_sReplayRecs pre_sReplayRecs g_sReplayRecs:=by
 rintro ⟨a0,_⟩ hp
 change q_sReplayRecs a0=true at hp
 unfold q_sReplayRecs at hp
 refine Eq.trans (b:=(cond ((k2_sReplayRecs a0).1==0) (some (e_sReplayRecs (((k2_sReplayRecs a0).2.1),((k2_sReplayRecs a0).2.2.1),((k2_sReplayRecs a0).2.2.2.1)))) (cond ((k2_sReplayRecs a0).1==1) (some (e_sReplayRecs (true,((k2_sReplayRecs a0).2.2.2.2.1),((k2_sReplayRecs a0).2.2.2.2.2.1)))) none))) (by kernel_rfl) ?_
 exact (cndQ (F:=F_sReplayRecs) hp (fun hp=>rfl) (fun hp=>(cndT hp fun _h=>rfl)))
theorem c_sReplayRecs:PContract Try.prog 52 (sumOf P_sReplayRecs pre_sReplayRecs g_sReplayRecs):=PContract.of_data false G35 (by kernel_rfl) (hl1 (i:=0) (by kernel_rfl) lw_sReplayRecs_0) _ _ _ run_sReplayRecs
noncomputable def S36:Tab:=Tab.add S35 52 (lift (sumOf P_sReplayRecs pre_sReplayRecs g_sReplayRecs))
noncomputable def QF36:FuncId→Bool:=QF35
theorem G36:Good Try.prog tt S36 QF36:=G35.add c_sReplayRecs ⟨Try.f52,by kernel_rfl,by kernel_rfl,by kernel_rfl⟩ (by kernel_rfl)


end Go.Proofs.Ytgglehejlddghaa.Eng
