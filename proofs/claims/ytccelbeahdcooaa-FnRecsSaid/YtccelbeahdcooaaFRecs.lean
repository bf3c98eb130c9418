/- What the functions that FnRecs reaches compute: further. -/
import Derived.Test.YtccelbeahdcooaaFRecsB
namespace Go.Proofs.Ytccelbeahdcooaa.Eng
open Go Go.RowKit
set_option linter.unusedSimpArgs false
set_option linter.unusedVariables false
set_option maxRecDepth 10000
noncomputable abbrev P_lFnRecs:List PSh:=[.t t_sy]
noncomputable def k1_lFnRecs (a0:List Int):=iGetRec (iPutRec ((sDrawPutRec a0).1) ((sDrawPutRec a0).2.1) ((sDrawPutRec a0).2.2)) (0:Int)
noncomputable def k2_lFnRecs (a0:List Int):=iGetRec (((iPutRec ((sDrawPutRec a0).1) ((sDrawPutRec a0).2.1) ((sDrawPutRec a0).2.2)).take (Int.tmod (lat a0 (2:Int)) (((iPutRec ((sDrawPutRec a0).1) ((sDrawPutRec a0).2.1) ((sDrawPutRec a0).2.2)).length:Nat):Int)).toNat).drop (0:Int).toNat) (0:Int)
noncomputable def k3_lFnRecs (a0:List Int):=lsameRec ((k1_lFnRecs a0).1) ((k1_lFnRecs a0).2.1) ((k1_lFnRecs a0).2.2.2.2) ((sDrawPutRec a0).1) ((sDrawPutRec a0).2.1) ((sDrawPutRec a0).2.2)
noncomputable def lFnRecs (a0:List Int):Bool:=(cond (lbig a0) true (cond (!(sRecOk ((sDrawPutRec a0).1) ((sDrawPutRec a0).2.1) ((sDrawPutRec a0).2.2))) (cond ((((iPutRec ((sDrawPutRec a0).1) ((sDrawPutRec a0).2.1) ((sDrawPutRec a0).2.2)).length:Nat):Int)==(0:Int)) (!(iRecOk ((sDrawPutRec a0).1) ((sDrawPutRec a0).2.1) ((sDrawPutRec a0).2.2))) false) (cond ((k1_lFnRecs a0).2.2.2.1) (cond (k3_lFnRecs a0) (cond (((k1_lFnRecs a0).2.2.1)==(((iPutRec ((sDrawPutRec a0).1) ((sDrawPutRec a0).2.1) ((sDrawPutRec a0).2.2)).length:Nat):Int)) (cond (!((k2_lFnRecs a0).2.2.2.1)) (iRecOk ((sDrawPutRec a0).1) ((sDrawPutRec a0).2.1) ((sDrawPutRec a0).2.2)) false) false) false) false)))
noncomputable abbrev e_lFnRecs (r:Bool):AV×List AObj:=((.t true .bool r),[])
noncomputable abbrev g_lFnRecs:pshsDen P_lFnRecs→AV×List AObj:=fun d=>e_lFnRecs (lFnRecs d.1)
noncomputable def q_lFnRecs (a0:List Int):Bool:=cond (lbig a0) true ((q_sDrawPutRec a0)&&((q_iPutRec ((sDrawPutRec a0).1) ((sDrawPutRec a0).2.1) ((sDrawPutRec a0).2.2))&&((q_sRecOk ((sDrawPutRec a0).1) ((sDrawPutRec a0).2.1) ((sDrawPutRec a0).2.2))&&(cond (!(sRecOk ((sDrawPutRec a0).1) ((sDrawPutRec a0).2.1) ((sDrawPutRec a0).2.2))) (cond ((((iPutRec ((sDrawPutRec a0).1) ((sDrawPutRec a0).2.1) ((sDrawPutRec a0).2.2)).length:Nat):Int)==(0:Int)) (q_iRecOk ((sDrawPutRec a0).1) ((sDrawPutRec a0).2.1) ((sDrawPutRec a0).2.2)) true) ((q_iGetRec (iPutRec ((sDrawPutRec a0).1) ((sDrawPutRec a0).2.1) ((sDrawPutRec a0).2.2)) (0:Int))&&((q_lat a0 (2:Int))&&((decide ((((iPutRec ((sDrawPutRec a0).1) ((sDrawPutRec a0).2.1) ((sDrawPutRec a0).2.2)).length:Nat):Int) ≠ 0))&&((decide (0≤(0:Int)∧(0:Int)≤(Int.tmod (lat a0 (2:Int)) (((iPutRec ((sDrawPutRec a0).1) ((sDrawPutRec a0).2.1) ((sDrawPutRec a0).2.2)).length:Nat):Int))∧(Int.tmod (lat a0 (2:Int)) (((iPutRec ((sDrawPutRec a0).1) ((sDrawPutRec a0).2.1) ((sDrawPutRec a0).2.2)).length:Nat):Int))≤(((iPutRec ((sDrawPutRec a0).1) ((sDrawPutRec a0).2.1) ((sDrawPutRec a0).2.2)).length:Nat):Int)))&&((q_iGetRec (((iPutRec ((sDrawPutRec a0).1) ((sDrawPutRec a0).2.1) ((sDrawPutRec a0).2.2)).take (Int.tmod (lat a0 (2:Int)) (((iPutRec ((sDrawPutRec a0).1) ((sDrawPutRec a0).2.1) ((sDrawPutRec a0).2.2)).length:Nat):Int)).toNat).drop (0:Int).toNat) (0:Int))&&(cond ((k1_lFnRecs a0).2.2.2.1) ((q_lsameRec ((k1_lFnRecs a0).1) ((k1_lFnRecs a0).2.1) ((k1_lFnRecs a0).2.2.2.2) ((sDrawPutRec a0).1) ((sDrawPutRec a0).2.1) ((sDrawPutRec a0).2.2))&&(cond (k3_lFnRecs a0) (cond (((k1_lFnRecs a0).2.2.1)==(((iPutRec ((sDrawPutRec a0).1) ((sDrawPutRec a0).2.1) ((sDrawPutRec a0).2.2)).length:Nat):Int)) (cond (!((k2_lFnRecs a0).2.2.2.1)) (q_iRecOk ((sDrawPutRec a0).1) ((sDrawPutRec a0).2.1) ((sDrawPutRec a0).2.2)) true) true) true)) true))))))))))
noncomputable abbrev pre_lFnRecs:pshsDen P_lFnRecs→Bool:=fun d=>q_lFnRecs d.1
theorem run_lFnRecs:RunP true G53 (fun _ _=>none) Try.f4 P_lFnRecs pre_lFnRecs g_lFnRecs:=by
 rintro ⟨a0,_⟩ hp
 change q_lFnRecs a0=true at hp
 unfold q_lFnRecs at hp
 refine Eq.trans (b:=(cond (lbig a0) (some (e_lFnRecs true)) (cond (q_sDrawPutRec a0) (cond (q_iPutRec ((sDrawPutRec a0).1) ((sDrawPutRec a0).2.1) ((sDrawPutRec a0).2.2)) (cond (q_sRecOk ((sDrawPutRec a0).1) ((sDrawPutRec a0).2.1) ((sDrawPutRec a0).2.2)) (cond (!(sRecOk ((sDrawPutRec a0).1) ((sDrawPutRec a0).2.1) ((sDrawPutRec a0).2.2))) (cond ((((iPutRec ((sDrawPutRec a0).1) ((sDrawPutRec a0).2.1) ((sDrawPutRec a0).2.2)).length:Nat):Int)==(0:Int)) (cond (q_iRecOk ((sDrawPutRec a0).1) ((sDrawPutRec a0).2.1) ((sDrawPutRec a0).2.2)) (some (e_lFnRecs (!(iRecOk ((sDrawPutRec a0).1) ((sDrawPutRec a0).2.1) ((sDrawPutRec a0).2.2))))) none) (some (e_lFnRecs false))) (cond (q_iGetRec (iPutRec ((sDrawPutRec a0).1) ((sDrawPutRec a0).2.1) ((sDrawPutRec a0).2.2)) (0:Int)) (cond (q_lat a0 (2:Int)) (cond (decide ((((iPutRec ((sDrawPutRec a0).1) ((sDrawPutRec a0).2.1) ((sDrawPutRec a0).2.2)).length:Nat):Int) ≠ 0)) (cond (decide (0≤(0:Int)∧(0:Int)≤(Int.tmod (lat a0 (2:Int)) (((iPutRec ((sDrawPutRec a0).1) ((sDrawPutRec a0).2.1) ((sDrawPutRec a0).2.2)).length:Nat):Int))∧(Int.tmod (lat a0 (2:Int)) (((iPutRec ((sDrawPutRec a0).1) ((sDrawPutRec a0).2.1) ((sDrawPutRec a0).2.2)).length:Nat):Int))≤(((iPutRec ((sDrawPutRec a0).1) ((sDrawPutRec a0).2.1) ((sDrawPutRec a0).2.2)).length:Nat):Int))) (cond (q_iGetRec (((iPutRec ((sDrawPutRec a0).1) ((sDrawPutRec a0).2.1) ((sDrawPutRec a0).2.2)).take (Int.tmod (lat a0 (2:Int)) (((iPutRec ((sDrawPutRec a0).1) ((sDrawPutRec a0).2.1) ((sDrawPutRec a0).2.2)).length:Nat):Int)).toNat).drop (0:Int).toNat) (0:Int)) (cond ((k1_lFnRecs a0).2.2.2.1) (cond (q_lsameRec ((k1_lFnRecs a0).1) ((k1_lFnRecs a0).2.1) ((k1_lFnRecs a0).2.2.2.2) ((sDrawPutRec a0).1) ((sDrawPutRec a0).2.1) ((sDrawPutRec a0).2.2)) (cond (k3_lFnRecs a0) (cond (((k1_lFnRecs a0).2.2.1)==(((iPutRec ((sDrawPutRec a0).1) ((sDrawPutRec a0).2.1) ((sDrawPutRec a0).2.2)).length:Nat):Int)) (cond (!((k2_lFnRecs a0).2.2.2.1)) (cond (q_iRecOk ((sDrawPutRec a0).1) ((sDrawPutRec a0).2.1) ((sDrawPutRec a0).2.2)) (some (e_lFnRecs (iRecOk ((sDrawPutRec a0).1) ((sDrawPutRec a0).2.1) ((sDrawPutRec a0).2.2)))) none) (some (e_lFnRecs false))) (some (e_lFnRecs false))) (some (e_lFnRecs false))) none) (some (e_lFnRecs false))) none) none) none) none) none)) none) none) none))) (by kernel_rfl) ?_
 exact (cndE e_lFnRecs hp (fun hp=>rfl) (fun hp=>(cndA hp fun hp=>(cndA hp fun hp=>(cndA hp fun hp=>(cndE e_lFnRecs hp (fun hp=>(cndE e_lFnRecs hp (fun hp=>(cndT hp fun _h=>rfl)) (fun hp=>rfl))) (fun hp=>(cndA hp fun hp=>(cndA hp fun hp=>(cndA hp fun hp=>(cndA hp fun hp=>(cndA hp fun hp=>(cndE e_lFnRecs hp (fun hp=>(cndA hp fun hp=>(cndE e_lFnRecs hp (fun hp=>(cndE e_lFnRecs hp (fun hp=>(cndE e_lFnRecs hp (fun hp=>(cndT hp fun _h=>rfl)) (fun hp=>rfl))) (fun hp=>rfl))) (fun hp=>rfl)))) (fun hp=>rfl))))))))))))))
theorem c_lFnRecs:PContract Try.prog 4 (sumOf P_lFnRecs pre_lFnRecs g_lFnRecs):=pcD true G53 hlz run_lFnRecs
noncomputable def S54:Tab:=Tab.add S53 4 (lift (sumOf P_lFnRecs pre_lFnRecs g_lFnRecs))
noncomputable def QF54:FuncId→Bool:=qadd QF53 4
theorem G54:Good Try.prog tt S54 QF54:=G53.addQ c_lFnRecs (cbl Try.f4) (fun _=>rfl)
/-- Bytes, all of them. -/
noncomputable def okB (b:List Int):Prop:=∀ c∈b,0≤c∧c≤255
theorem bigB_ok {l:List Int} (h:bigT t_sy l=true):okB l:=by
 have hb:(decide (l.length≤maxLen)&&l.all (fun x=>(Lit.int .u8 x).wf))=true:=h
 rw [Bool.and_eq_true,List.all_eq_true] at hb
 intro c hc
 have:=hb.2 c hc
 simp only [Lit.wf,Bool.and_eq_true,decide_eq_true_eq] at this
 exact ⟨this.1,this.2⟩
/-- A draw's cursor that is right. -/
noncomputable def cOk (b:List Int) (i:Int):Prop:=okB b∧0≤i∧i≤b.length∧b.length≤1048576
theorem sl1New_spec {b:List Int} (hb:okB b) (hl:b.length≤1048576):q_sl1New b=true∧(sl1New b).1=b∧cOk b (sl1New b).2.1:=by
 have key:∀ x:Int,(it_sl1New_0 b x 0).1=0∧(it_sl1New_0 b x 0).2.1=b:=by
  intro x
  refine itX_inv (fun v:V_sl1New_0=>v.1=b∧0≤v.2.2∧v.2.2≤b.length) (fun a:A_sl1New_0=>a.1=0∧a.2.1=b) (fun v=>b.length - v.2.2.toNat) ?_ ⟨rfl,Int.le_refl _,by simp⟩ (by simp;omega)
  rintro ⟨y,z,i⟩ ⟨hy,h1,h2⟩
  simp only at hy h1 h2
  subst hy
  by_cases hi:i<(y.length:Int)
  ·have e:decide (i<((y.length:Nat):Int))=true:=decide_eq_true hi
   have e2:decide (0≤i∧i<((y.length:Nat):Int))=true:=decide_eq_true ⟨h1,hi⟩
   have w:IntKind.wrap .i64 (i+1)=i+1:=wrap64 (by omega) (by omega)
   by_cases h4:i<4000
   ·simp only [ss_sl1New_0,e,e2,decide_eq_true h4,cond_true,w]
    exact .inl ⟨_,rfl,⟨rfl,by simp only;omega,by simp only;omega⟩,by simp only;omega⟩
   ·simp only [ss_sl1New_0,e,decide_eq_false h4,cond_true,cond_false]
    exact .inr ⟨_,rfl,rfl,rfl⟩
  ·simp only [ss_sl1New_0,decide_eq_false hi,cond_false]
   exact .inr ⟨_,rfl,rfl,rfl⟩
 simp only [q_sl1New,sl1New,key]
 exact ⟨rfl,trivial,hb,Int.le_refl _,by omega,hl⟩
theorem ofInt_nat (n:Nat) (h:n<18446744073709551616):(BitVec.ofInt 64 (n:Int)).toNat=n:=by
 simp [BitVec.toNat_ofInt];omega
theorem iand_range (x:Int) (m:Nat) (hm:m<9223372036854775808):0≤iand .i64 x (m:Int)∧iand .i64 x (m:Int)≤m:=by
 have e:iand .i64 x (m:Int)=IntKind.wrap .i64 (((BitVec.ofInt 64 x).toNat &&& m:Nat):Int):=by
  show IntKind.wrap .i64 (((BitVec.ofInt 64 x &&& BitVec.ofInt 64 (m:Int)).toNat:Nat):Int)=_
  rw [BitVec.toNat_and,ofInt_nat m (by omega)]
 have h:(BitVec.ofInt 64 x).toNat &&& m≤m:=Nat.and_le_right
 rw [e,wrap64 (by omega) (by omega)]
 omega
theorem sl1Byte_spec {b:List Int} {i:Int} (hc:cOk b i) (h:Int):q_sl1Byte b i h=true∧0≤(sl1Byte b i h).1∧(sl1Byte b i h).1≤255∧(sl1Byte b i h).2.1=b∧cOk b (sl1Byte b i h).2.2.1:=by
 obtain ⟨h0,h1,h2,h3⟩:=hc
 have r:=fun x=>iand_range x 255 (by decide)
 by_cases hi:i<(b.length:Int)
 ·have e:decide (i<((b.length:Nat):Int))=true:=decide_eq_true hi
  have w:IntKind.wrap .i64 (i+1)=i+1:=wrap64 (by omega) (by omega)
  simp only [q_sl1Byte,sl1Byte,e,cond_true,w]
  exact ⟨decide_eq_true ⟨h1,hi⟩,(r _).1,(r _).2,trivial,h0,by omega,by omega,h3⟩
 ·have e:decide (i<((b.length:Nat):Int))=false:=decide_eq_false hi
  simp only [q_sl1Byte,sl1Byte,e,cond_false]
  exact ⟨trivial,(r _).1,(r _).2,trivial,h0,h1,h2,h3⟩
theorem sl1Below_spec {b:List Int} {i:Int} (hc:cOk b i) (n:Int) (h:Int):q_sl1Below n b i h=true∧0≤(sl1Below n b i h).1∧(0<n→(sl1Below n b i h).1<n)∧(sl1Below n b i h).2.1=b∧cOk b (sl1Below n b i h).2.2.1:=by
 obtain ⟨a1,a2,a3,a4,a5⟩:=sl1Byte_spec hc h
 by_cases h0:n≤0
 ·have e:decide (n≤0)=true:=decide_eq_true h0
  simp only [q_sl1Below,sl1Below,e,cond_true]
  exact ⟨trivial,Int.le_refl _,fun h=>by omega,trivial,hc⟩
 ·have e:decide (n≤0)=false:=decide_eq_false h0
  have en:decide (n ≠ 0)=true:=decide_eq_true (by omega)
  by_cases h1:n≤256
  ·have e2:decide (n≤256)=true:=decide_eq_true h1
   simp only [q_sl1Below,sl1Below,e,e2,cond_true,cond_false,a1,en,Bool.and_self]
   exact ⟨trivial,Int.tmod_nonneg _ a2,fun h=>Int.tmod_lt_of_pos _ h,a4,a5⟩
  ·have e2:decide (n≤256)=false:=decide_eq_false h1
   obtain ⟨b1,b2,b3,b4,b5⟩:=sl1Byte_spec a5 (sl1Byte b i h).2.2.2
   obtain ⟨c1,c2,c3,c4,c5⟩:=sl1Byte_spec b5 (sl1Byte b (sl1Byte b i h).2.2.1 (sl1Byte b i h).2.2.2).2.2.2
   simp only [q_sl1Below,sl1Below,e,e2,cond_false,a1,a4,en,k1_sl1Below,k2_sl1Below,b1,b4,c1,Bool.and_self]
   rw [wrap64 (n:=(sl1Byte b i h).1*65536) (by omega) (by omega),wrap64 (n:=(sl1Byte b (sl1Byte b i h).2.2.1 (sl1Byte b i h).2.2.2).1*256) (by omega) (by omega),wrap64 (n:=(sl1Byte b i h).1*65536+(sl1Byte b (sl1Byte b i h).2.2.1 (sl1Byte b i h).2.2.2).1*256) (by omega) (by omega),wrap64 (by omega) (by omega)]
   exact ⟨trivial,Int.tmod_nonneg _ (by omega),fun h=>Int.tmod_lt_of_pos _ h,c4,c5⟩
theorem getD_mem {α:Type} {l:List α} {i:Nat} (h:i<l.length) (d:α):l.getD i d∈l:=by
 simp [List.getD_eq_getElem?_getD,h]
theorem sl1Int_spec {b:List Int} {i:Int} (hc:cOk b i) (h:Int) {l:List Int} (hl:0<l.length):q_sl1Int b i h l=true∧(sl1Int b i h l).1∈l∧(sl1Int b i h l).2.1=b∧cOk b (sl1Int b i h l).2.2.1:=by
 obtain ⟨a1,a2,a3,a4,a5⟩:=sl1Below_spec hc (l.length:Int) h
 have:=a3 (by omega)
 simp only [q_sl1Int,sl1Int,a1,Bool.true_and]
 exact ⟨decide_eq_true ⟨a2,this⟩,getD_mem (by omega) _,a4,a5⟩
/-- One op ahead of another, by its key. -/
noncomputable def ltO (a b:Int×ByteArray×ByteArray):Prop:=Op.bytesLess a.2.1.toList b.2.1.toList=true
/-- The keys that a draw makes. -/
noncomputable def keys7:List ByteArray:=[(⟨#[97]⟩:ByteArray),(⟨#[98]⟩:ByteArray),(⟨#[99]⟩:ByteArray),(⟨#[107,49]⟩:ByteArray),(⟨#[107,50]⟩:ByteArray),(⟨#[109]⟩:ByteArray),(⟨#[122]⟩:ByteArray)]
/-- An op that a draw makes. -/
noncomputable def goodOp (k:Int) (s v:ByteArray):Prop:=s∈keys7∧((k=1∨k=3)∧v.size≤1∨k=2∧v=⟨#[]⟩)
/-- Ops that a draw makes: in order, each of them right. -/
noncomputable def drawnO (l:Lq1):Prop:=l.Pairwise ltO∧∀ o∈l,goodOp o.1 o.2.1 o.2.2∧o.2.1.size≤20∧o.2.2.size≤20
theorem sl1Str_spec {b:List Int} {i:Int} (hc:cOk b i) (h:Int) {l:List ByteArray} (hl:0<l.length):q_sl1Str b i h l=true∧(sl1Str b i h l).1∈l∧(sl1Str b i h l).2.1=b∧cOk b (sl1Str b i h l).2.2.1:=by
 obtain ⟨a1,a2,a3,a4,a5⟩:=sl1Below_spec hc (l.length:Int) h
 have:=a3 (by omega)
 simp only [q_sl1Str,sl1Str,a1,Bool.true_and]
 exact ⟨decide_eq_true ⟨a2,this⟩,getD_mem (by omega) _,a4,a5⟩
theorem keys7_size {s:ByteArray} (h:s∈keys7):s.size≤2:=by
 simp only [keys7,List.mem_cons,List.not_mem_nil,or_false] at h
 rcases h with rfl | rfl | rfl | rfl | rfl | rfl | rfl<;>decide
theorem sl3Key_spec {b:List Int} {i:Int} (hc:cOk b i) (h:Int):q_sl3Key b i h=true∧(sl3Key b i h).1.size≤2∧(sl3Key b i h).1∈keys7∧(sl3Key b i h).2.1=b∧cOk b (sl3Key b i h).2.2.1:=by
 obtain ⟨a1,a2,a3,a4⟩:=sl1Str_spec hc h (l:=keys7) (by decide)
 simp only [keys7] at a1 a2 a3 a4
 simp only [q_sl3Key,sl3Key,k1_sl3Key,a1]
 exact ⟨trivial,keys7_size a2,a2,a3,a4⟩
theorem sl7Op1_spec {b:List Int} {i:Int} (hc:cOk b i) (h:Int):q_sl7Op1 b i h=true∧(sl7Op1 b i h).2.1.size≤20∧(sl7Op1 b i h).2.2.1.size≤20∧goodOp (sl7Op1 b i h).1 (sl7Op1 b i h).2.1 (sl7Op1 b i h).2.2.1∧(sl7Op1 b i h).2.2.2.1=b∧cOk b (sl7Op1 b i h).2.2.2.2.1:=by
 obtain ⟨a1,a2,a3,a4⟩:=sl1Int_spec hc h (l:=[(1:Int),(1:Int),(1:Int),(2:Int),(3:Int)]) (by decide)
 simp only [q_sl7Op1,sl7Op1,k1_sl7Op1,k2_sl7Op1,a1,a3,Bool.true_and]
 generalize sl1Int b i h [(1:Int),(1:Int),(1:Int),(2:Int),(3:Int)]=r at *
 obtain ⟨b1,b2,b3,b4,b5⟩:=sl3Key_spec a4 r.2.2.2.1
 simp only [b1,b4,Bool.true_and]
 generalize sl3Key b r.2.2.1 r.2.2.2.1=t at *
 have hk:r.1=1∨r.1=2∨r.1=3:=by simp only [List.mem_cons,List.not_mem_nil,or_false] at a2;omega
 cases e:(r.1 != 2) with
 | true =>
  obtain ⟨c1,c2,c3,c4⟩:=sl1Str_spec b5 t.2.2.2 (l:=[(⟨#[49]⟩:ByteArray),(⟨#[50]⟩:ByteArray),(⟨#[120]⟩:ByteArray),(⟨#[]⟩:ByteArray),(⟨#[49]⟩:ByteArray)]) (by decide)
  simp only [cond_true,c1]
  generalize sl1Str b t.2.2.1 t.2.2.2 [(⟨#[49]⟩:ByteArray),(⟨#[50]⟩:ByteArray),(⟨#[120]⟩:ByteArray),(⟨#[]⟩:ByteArray),(⟨#[49]⟩:ByteArray)]=u at *
  have hs:u.1.size≤1:=by
   have h0:∀ x∈[(⟨#[49]⟩:ByteArray),(⟨#[50]⟩:ByteArray),(⟨#[120]⟩:ByteArray),(⟨#[]⟩:ByteArray),(⟨#[49]⟩:ByteArray)],x.size≤1:=by
    intro x hx
    simp only [List.mem_cons,List.not_mem_nil,or_false] at hx
    rcases hx with rfl | rfl | rfl | rfl | rfl<;>decide
   exact h0 _ c2
  have hne:r.1 ≠ 2:=by simpa using e
  exact ⟨trivial,by omega,by omega,⟨b3,.inl ⟨by omega,hs⟩⟩,c3,c4⟩
 | false =>
  have he:r.1=2:=by simpa using e
  simp only [cond_false]
  exact ⟨trivial,by omega,by decide,⟨b3,.inr ⟨he,rfl⟩⟩,trivial,b5⟩
/-- What holds on the way of putting an op in order. -/
noncomputable def oneI (l:Lq1) (o:Int×ByteArray×ByteArray) (i:Nat) (p:Bool) (h:Lq1):Prop :=
 h.Pairwise ltO∧(∀ x∈h,x=o∨x∈l)∧h.length≤i+1 ∧
 (p=false→h=l.take i∧∀ x∈h,ltO x o) ∧
 (p=true→h ≠ []∧∀ x∈h,∀ y∈l.drop i,ltO x y)
theorem pw_take {α:Type} {R:α→α→Prop} {l:List α} (h:l.Pairwise R) (i:Nat) (hi:i<l.length) (d:α):∀ x∈l.take i,R x (l.getD i d):=by
 intro x hx
 obtain ⟨j,hj,rfl⟩:=List.getElem_of_mem hx
 rw [List.length_take] at hj
 have:=List.pairwise_iff_getElem.1 h j i (by omega) hi (by omega)
 simpa [List.getD_eq_getElem?_getD,hi] using this
theorem pw_drop {α:Type} {R:α→α→Prop} {l:List α} (h:l.Pairwise R) (i:Nat) (hi:i<l.length) (d:α):∀ y∈l.drop (i+1),R (l.getD i d) y:=by
 intro y hy
 obtain ⟨j,hj,rfl⟩:=List.getElem_of_mem hy
 rw [List.length_drop] at hj
 have:=List.pairwise_iff_getElem.1 h i (i+1+j) hi (by omega) (by omega)
 simpa [List.getD_eq_getElem?_getD,hi] using this
theorem take_succ_getD {α:Type} {l:List α} {i:Nat} (hi:i<l.length) (d:α):l.take (i+1)=l.take i++[l.getD i d]:=by
 rw [List.take_add_one,List.getElem?_eq_getElem hi];simp [List.getD_eq_getElem?_getD,hi]
theorem pw_snoc {α:Type} {R:α→α→Prop} {h:List α} {x:α} (h1:h.Pairwise R) (h2:∀ y∈h,R y x):(h++[x]).Pairwise R:=by
 rw [List.pairwise_append]
 exact ⟨h1,by simp,fun a ha b hb=>by simp at hb;subst hb;exact h2 a ha⟩
theorem bytesLess_trans:∀ a b c:List UInt8,Op.bytesLess a b=true→Op.bytesLess b c=true→Op.bytesLess a c=true:=by
 intro a
 induction a with
 | nil=>intro b c h1 h2;cases c with
  | nil=>cases b<;>simp [Op.bytesLess] at h2
  | cons z c=>rfl
 | cons x a ih =>
  intro b c h1 h2
  cases b with
  | nil=>simp [Op.bytesLess] at h1
  | cons y b=>cases c with
   | nil=>simp [Op.bytesLess] at h2
   | cons z c =>
    simp only [Op.bytesLess,Bool.or_eq_true,Bool.and_eq_true,decide_eq_true_eq,beq_iff_eq] at h1 h2 ⊢
    rcases h1 with h1 | ⟨rfl,h1⟩
    ·rcases h2 with h2 | ⟨rfl,h2⟩
     ·exact .inl (UInt8.lt_trans h1 h2)
     ·exact .inl h1
    ·rcases h2 with h2 | ⟨rfl,h2⟩
     ·exact .inl h2
     ·exact .inr ⟨rfl,ih b c h1 h2⟩
theorem ltO_trans {a b c:Int×ByteArray×ByteArray} (h1:ltO a b) (h2:ltO b c):ltO a c:=bytesLess_trans _ _ _ h1 h2
theorem sl7One_it {l:Lq1} (hs:l.Pairwise ltO) (hl:l.length≤1000) (o:Int×ByteArray×ByteArray) :
  ∃ p h,it_sl7One_0 l false 0 o.1 o.2.1 o.2.2 []=(0,p,h)∧oneI l o l.length p h:=by
 refine itX_inv (fun v:V_sl7One_0=>∃ (i:Nat) (p:Bool) (h:Lq1),v=(l,p,(i:Int),h)∧i≤l.length∧oneI l o i p h) (fun a=>∃ p h,a=(0,p,h)∧oneI l o l.length p h) (fun v=>l.length - v.2.2.1.toNat) ?_ ⟨0,false,[],rfl,Nat.zero_le _,.nil,by simp,by simp,fun _=>⟨rfl,by simp⟩,fun h=>by cases h⟩ (by simp;omega)
 rintro v ⟨i,p,h,rfl,hi,hI⟩
 obtain ⟨i1,i2,i3,i4,i5⟩:=hI
 by_cases hlt:i<l.length
 ·have e1:decide ((i:Int)<((l.length:Nat):Int))=true:=decide_eq_true (by omega)
  have e2:decide (0≤(i:Int)∧(i:Int)<((l.length:Nat):Int))=true:=decide_eq_true (by omega)
  have w:=wrapU i (by omega)
  have m1:∀ x:Int×ByteArray×ByteArray,decide ((h.length+[x].length)*40≤MAXB)=true:=fun x=>decide_eq_true (by simp only [List.length_singleton,MAXB];omega)
  have m2:∀ x y:Int×ByteArray×ByteArray,decide (((h++[x]).length+[y].length)*40≤MAXB)=true:=fun x y=>decide_eq_true (by simp only [List.length_append,List.length_singleton,MAXB];omega)
  have eta:∀ x:Int×ByteArray×ByteArray,(x.1,(x.2.1,x.2.2))=x:=fun _=>rfl
  have hdrop:l.drop i=l.getD i dOp::l.drop (i+1):=by rw [List.drop_eq_getElem_cons hlt];simp [List.getD_eq_getElem?_getD,hlt]
  have htk:=pw_take hs i hlt dOp
  have hdr:=pw_drop hs i hlt dOp
  have hmem:l.getD i dOp∈l:=getD_mem hlt _
  have hts:=take_succ_getD hlt dOp
  have meas:∀ (p':Bool) (h':Lq1),l.length - ((l,p', ((i+1:Nat):Int),h'):V_sl7One_0).2.2.1.toNat<l.length - ((l,p,(i:Int),h):V_sl7One_0).2.2.1.toNat:=fun _ _=>by simp only [Int.toNat_natCast];omega
  simp only [ss_sl7One_0,e1,e2,m1,m2,w,cond_true,Int.toNat_natCast,eta]
  have hd:((0:Int),((⟨#[]⟩:ByteArray),(⟨#[]⟩:ByteArray)))=dOp:=rfl
  simp only [hd]
  generalize hx:l.getD i dOp=x at *
  left
  cases p with
  | false =>
   obtain ⟨j1,j2⟩:=i4 rfl
   simp only [Bool.not_false,cond_true]
   cases hb:Op.bytesLess x.2.1.toList o.2.1.toList with
   | true =>
    -- still ahead of it
    have hxo:ltO x o:=hb
    have hne:(x.2.1.toList==o.2.1.toList)=false:=by
     rw [beq_eq_false_iff_ne];intro e;rw [e] at hb;rw [bytesLess_irrefl] at hb;cases hb
    simp only [Bool.not_true,cond_false,hne,Bool.not_false,cond_true]
    refine ⟨_,rfl,⟨i+1,false,h++[x],rfl,by omega,pw_snoc i1 (fun y hy=>?_),?_,by simp;omega,fun _=>⟨by rw [j1,hts],?_⟩,fun h=>by cases h⟩,meas _ _⟩
    ·rw [j1] at hy;exact htk y hy
    ·intro y hy
     rcases List.mem_append.1 hy with hy | hy
     ·exact i2 y hy
     ·simp at hy;subst hy;exact .inr hmem
    ·intro y hy
     rcases List.mem_append.1 hy with hy | hy
     ·exact j2 y hy
     ·simp at hy;subst hy;exact hxo
   | false =>
    have hge:=bytesLess_ge x.2.1.toList o.2.1.toList
    rw [hb] at hge
    simp only [Bool.not_false] at hge
    simp only [Bool.not_false,cond_true]
    have s1:(h++[o]).Pairwise ltO:=pw_snoc i1 j2
    have s2:∀ y∈h++[o],y=o∨y∈l:=by
     intro y hy
     rcases List.mem_append.1 hy with hy | hy
     ·exact i2 y hy
     ·simp at hy;exact .inl hy
    cases hq:(x.2.1.toList==o.2.1.toList) with
    | true =>
     simp only [Bool.not_true,cond_false]
     have hkey:x.2.1.toList=o.2.1.toList:=by simpa using hq
     have ho:∀ y∈l.drop (i+1),ltO o y:=fun y hy=>by have:=hdr y hy;unfold ltO at this ⊢;rwa [hkey] at this
     refine ⟨_,rfl,⟨i+1,true,h++[o],rfl,by omega,s1,s2,by simp;omega,(fun h=>by cases h),fun _=>⟨by simp,?_⟩⟩,meas _ _⟩
     intro y hy z hz
     rcases List.mem_append.1 hy with hy | hy
     ·exact ltO_trans (j2 y hy) (ho z hz)
     ·simp at hy;subst hy;exact ho z hz
    | false =>
     simp only [Bool.not_false,cond_true]
     have hox:ltO o x:=by
      have h9:Op.bytesLess o.2.1.toList x.2.1.toList=true:=by
       cases h8:Op.bytesLess o.2.1.toList x.2.1.toList with
       | true=>rfl
       | false =>
        rw [h8] at hge
        have h7:(o.2.1.toList==x.2.1.toList)=true:=by simpa using hge.symm
        rw [beq_iff_eq] at h7
        rw [h7] at hq;simp at hq
      exact h9
     refine ⟨_,rfl,⟨i+1,true,(h++[o])++[x],rfl,by omega,pw_snoc s1 (fun y hy=>?_),?_,?_,(fun h=>by cases h),fun _=>⟨by simp,?_⟩⟩,meas _ _⟩
     ·rcases List.mem_append.1 hy with hy | hy
      ·exact ltO_trans (j2 y hy) hox
      ·simp at hy;subst hy;exact hox
     ·intro y hy
      rcases List.mem_append.1 hy with hy | hy
      ·exact s2 y hy
      ·simp at hy;subst hy;exact .inr hmem
     ·have:h.length≤i:=by rw [j1,List.length_take];omega
      simp;omega
     ·intro y hy z hz
      have hxz:=hdr z hz
      rcases List.mem_append.1 hy with hy | hy
      ·rcases List.mem_append.1 hy with hy | hy
       ·exact ltO_trans (ltO_trans (j2 y hy) hox) hxz
       ·simp at hy;subst hy;exact ltO_trans hox hxz
      ·simp at hy;subst hy;exact hxz
  | true =>
   obtain ⟨j1,j2⟩:=i5 rfl
   simp only [Bool.not_true,cond_false]
   have j3:∀ y∈h,∀ z∈l.drop (i+1),ltO y z:=fun y hy z hz=>j2 y hy z (by rw [hdrop];exact List.mem_cons_of_mem _ hz)
   cases hq:(x.2.1.toList==o.2.1.toList) with
   | true =>
    simp only [Bool.not_true,cond_false]
    exact ⟨_,rfl,⟨i+1,true,h,rfl,by omega,i1,i2,by omega,(fun h=>by cases h),fun _=>⟨j1,j3⟩⟩,meas _ _⟩
   | false =>
    simp only [Bool.not_false,cond_true]
    refine ⟨_,rfl,⟨i+1,true,h++[x],rfl,by omega,pw_snoc i1 (fun y hy=>j2 y hy x (by rw [hdrop];simp)),?_,by simp;omega,(fun h=>by cases h),fun _=>⟨by simp,?_⟩⟩,meas _ _⟩
    ·intro y hy
     rcases List.mem_append.1 hy with hy | hy
     ·exact i2 y hy
     ·simp at hy;subst hy;exact .inr hmem
    ·intro y hy z hz
     rcases List.mem_append.1 hy with hy | hy
     ·exact j3 y hy z hz
     ·simp at hy;subst hy;exact hdr z hz
 ·obtain rfl:i=l.length:=by omega
  have e1:decide (((l.length:Nat):Int)<((l.length:Nat):Int))=false:=decide_eq_false (by omega)
  simp only [ss_sl7One_0,e1,cond_false]
  exact .inr ⟨_,rfl,p,h,rfl,i1,i2,i3,i4,i5⟩
theorem sl7One_spec {l:Lq1} (hs:l.Pairwise ltO) (hl:l.length≤1000) (k:Int) (s v:ByteArray) :
  q_sl7One l k s v=true∧(sl7One l k s v).Pairwise ltO∧(∀ x∈sl7One l k s v,x=(k,s,v)∨x∈l)∧sl7One l k s v ≠ []∧(sl7One l k s v).length≤l.length+1:=by
 obtain ⟨p,h,e,i1,i2,i3,i4,i5⟩:=sl7One_it hs hl (k,s,v)
 simp only at e
 have m1:∀ x:Int×ByteArray×ByteArray,decide ((h.length+[x].length)*40≤MAXB)=true:=fun x=>decide_eq_true (by simp only [List.length_singleton,MAXB];omega)
 simp only [q_sl7One,sl7One,e,m1]
 cases p with
 | true =>
  simp only [Bool.not_true,cond_false]
  exact ⟨rfl,i1,i2,(i5 rfl).1,i3⟩
 | false =>
  obtain ⟨j1,j2⟩:=i4 rfl
  simp only [Bool.not_false,cond_true]
  refine ⟨rfl,pw_snoc i1 j2,?_,by simp,?_⟩
  ·intro y hy
   rcases List.mem_append.1 hy with hy | hy
   ·exact i2 y hy
   ·simp at hy;exact .inl hy
  ·rw [j1];simp
theorem sl7Draw_spec {b:List Int} {i:Int} (hc:cOk b i) (h:Int):q_sl7Draw b i h=true∧(sl7Draw b i h).1=b∧cOk b (sl7Draw b i h).2.1∧drawnO (sl7Draw b i h).2.2.2∧1≤(sl7Draw b i h).2.2.2.length∧(sl7Draw b i h).2.2.2.length≤4:=by
 obtain ⟨a1,a2,a3,a4,a5⟩:=sl1Below_spec hc 4 h
 have a3:=a3 (by omega)
 simp only [q_sl7Draw,sl7Draw,k2_sl7Draw,a1,a4,Bool.true_and]
 generalize sl1Below 4 b i h=r at *
 have w:IntKind.wrap .i64 (1+r.1)=1+r.1:=wrap64 (by omega) (by omega)
 rw [w]
 obtain ⟨z1,z2,z3,z4,z5,z6⟩:(it_sl7Draw_0 (1+r.1) b r.2.2.1 r.2.2.2 []).1=0∧(it_sl7Draw_0 (1+r.1) b r.2.2.1 r.2.2.2 []).2.1=b∧cOk b (it_sl7Draw_0 (1+r.1) b r.2.2.1 r.2.2.2 []).2.2.1∧drawnO (it_sl7Draw_0 (1+r.1) b r.2.2.1 r.2.2.2 []).2.2.2.2∧1≤(it_sl7Draw_0 (1+r.1) b r.2.2.1 r.2.2.2 []).2.2.2.2.length∧(it_sl7Draw_0 (1+r.1) b r.2.2.1 r.2.2.2 []).2.2.2.2.length≤4:=by
  refine itX_inv (fun v:V_sl7Draw_0=>v.2.1=b∧cOk b v.2.2.1∧drawnO v.2.2.2.2∧0≤v.1∧v.1≤4∧(v.2.2.2.2.length:Int)≤4 - v.1∧(v.1=0→1≤v.2.2.2.2.length)) (fun a:A_sl7Draw_0=>a.1=0∧a.2.1=b∧cOk b a.2.2.1∧drawnO a.2.2.2.2∧1≤a.2.2.2.2.length∧a.2.2.2.2.length≤4) (fun v=>v.1.toNat) ?_ ⟨rfl,a5,⟨.nil,by simp⟩,by simp only;omega,by simp only;omega,by simp only [List.length_nil];omega,fun h=>by simp only at h;omega⟩ (by simp only;omega)
  rintro ⟨n,b', j,h', l⟩ ⟨e1,e2,e3,e4,e5,e6,e7⟩
  simp only at e1 e2 e3 e4 e5 e6 e7
  subst e1
  by_cases hn:n > 0
  ·obtain ⟨o1,o2,o3,o4,o5,o6⟩:=sl7Op1_spec e2 h'
   obtain ⟨p1,p2,p3,p4,p5⟩:=sl7One_spec e3.1 (by omega) (sl7Op1 b' j h').1 (sl7Op1 b' j h').2.1 (sl7Op1 b' j h').2.2.1
   have w2:IntKind.wrap .i64 (n - 1)=n - 1:=wrap64 (by omega) (by omega)
   simp only [ss_sl7Draw_0,decide_eq_true hn,o1,p1,cond_true,w2,o5,k1_sl7Draw]
   refine .inl ⟨_,rfl,⟨rfl,o6,⟨p2,fun x hx=>?_⟩,by simp only;omega,by simp only;omega,by simp only;omega,fun _=>List.length_pos_iff.2 p4⟩,by simp only;omega⟩
   rcases p3 x hx with rfl | hx
   ·exact ⟨o4,o2,o3⟩
   ·exact e3.2 x hx
  ·simp only [ss_sl7Draw_0,decide_eq_false hn,cond_false]
   exact .inr ⟨_,rfl,rfl,rfl,e2,e3,e7 (by omega),by simp only;omega⟩
 exact ⟨by rw [z1];rfl,z2,z3,z4,z5,z6⟩
theorem okOps_small {l:Lq1} (h1:l.length≤1048576) (h2:∀ o∈l,o.2.1.size≤1048576∧o.2.2.size≤1048576):okOps l=true:=by
 simp only [okOps,okL,Bool.and_eq_true,decide_eq_true_eq,List.all_eq_true]
 refine ⟨h1,fun o ho=>?_⟩
 simp only [okOp,okS,Bool.and_eq_true,decide_eq_true_eq];exact h2 o ho
theorem drawn_okOps {l:Lq1} (h:drawnO l) (h8:l.length≤8):okOps l=true:=okOps_small (by omega) fun o ho=>by have:=h.2 o ho;omega
theorem sl8Rec_spec {b:List Int} {i:Int} (hc:cOk b i) (h:Int):q_sl8Rec b i h=true∧okOps (sl8Rec b i h).2.2.1=true∧(sl8Rec b i h).2.2.2.1=b∧cOk b (sl8Rec b i h).2.2.2.2.1∧(sl8Rec b i h).2.1≤4:=by
 obtain ⟨a1,a2,a3,a4⟩:=sl1Int_spec hc h (l:=[(1:Int),(1:Int),(2:Int),(3:Int)]) (by simp)
 obtain ⟨b1,b2,b3,b4,b5⟩:=sl1Below_spec a4 4 (sl1Int b i h [(1:Int),(1:Int),(2:Int),(3:Int)]).2.2.2.1
 have k1:k1_sl8Rec b i h=sl1Below 4 b (sl1Int b i h [(1:Int),(1:Int),(2:Int),(3:Int)]).2.2.1 (sl1Int b i h [(1:Int),(1:Int),(2:Int),(3:Int)]).2.2.2.1:=by simp only [k1_sl8Rec,a3]
 rw [← k1] at b2 b3 b4 b5
 have b3:=b3 (by omega)
 have ht:IntKind.wrap .i64 ((1:Int)+(k1_sl8Rec b i h).1)≤4:=by rw [wrap64 (by omega) (by omega)];omega
 obtain ⟨c1,c2,c3,c4,c5,c6⟩:=sl7Draw_spec b5 (k1_sl8Rec b i h).2.2.2
 have k2:k2_sl8Rec b i h=sl7Draw b (k1_sl8Rec b i h).2.2.1 (k1_sl8Rec b i h).2.2.2:=by simp only [k2_sl8Rec,b4]
 rw [← k2] at c2 c3 c4 c5 c6
 simp only [q_sl8Rec,sl8Rec,a1,a3,b1,b4,c1,Bool.true_and]
 cases ((sl1Int b i h [(1:Int),(1:Int),(2:Int),(3:Int)]).1==1) with
 | true=>exact ⟨rfl,drawn_okOps c4 (Nat.le_trans c6 (by decide)),c2,c3,ht⟩
 | false=>exact ⟨rfl,rfl,rfl,b5,ht⟩
theorem mem_set_or {α:Type} {l:List α} {i:Nat} {x y:α} (h:y∈l.set i x):y=x∨y∈l:=by
 rcases List.mem_or_eq_of_mem_set h with h | h
 ·exact .inr h
 ·exact .inl h
theorem sl1Once_spec {b:List Int} {i:Int} (hc:cOk b i) (n:Int) (h:Int):q_sl1Once n b i h=true∧(sl1Once n b i h).2.1=b∧cOk b (sl1Once n b i h).2.2.1:=by
 obtain ⟨a1,a2,a3,a4,a5⟩:=sl1Below_spec hc n h
 exact ⟨a1,a4,a5⟩
theorem sl3KeyAny_spec {b:List Int} {i:Int} (hc:cOk b i) (h:Int):q_sl3KeyAny b i h=true∧(sl3KeyAny b i h).1.size≤20∧(sl3KeyAny b i h).2.1=b∧cOk b (sl3KeyAny b i h).2.2.1:=by
 obtain ⟨a1,a2,a3⟩:=sl1Once_spec hc 6 h
 simp only [q_sl3KeyAny,sl3KeyAny,k1_sl3KeyAny,k2_sl3KeyAny,a1,a2,Bool.true_and]
 generalize sl1Once 6 b i h=r at *
 cases r.1 with
 | true =>
  obtain ⟨c1,c2,c3,c4⟩:=sl1Str_spec a3 r.2.2.2 (l:=[(⟨#[]⟩:ByteArray),(⟨#[65]⟩:ByteArray),(⟨#[97,32,98]⟩:ByteArray),(⟨#[116,104,105,114,116,101,101,110,98,121,116,101,115]⟩:ByteArray),(⟨#[116,119,101,108,118,101,98,121,116,101,115,49]⟩:ByteArray)]) (by decide)
  simp only [cond_true]
  refine ⟨c1,?_,c3,c4⟩
  revert c2
  generalize (sl1Str b r.2.2.1 r.2.2.2 [(⟨#[]⟩:ByteArray),(⟨#[65]⟩:ByteArray),(⟨#[97,32,98]⟩:ByteArray),(⟨#[116,104,105,114,116,101,101,110,98,121,116,101,115]⟩:ByteArray),(⟨#[116,119,101,108,118,101,98,121,116,101,115,49]⟩:ByteArray)]).1=s
  intro c2
  simp only [List.mem_cons,List.not_mem_nil,or_false] at c2
  rcases c2 with rfl | rfl | rfl | rfl | rfl<;>decide
 | false =>
  obtain ⟨c1,c2,_,c3,c4⟩:=sl3Key_spec a3 r.2.2.2
  simp only [cond_false]
  exact ⟨c1,by omega,c3,c4⟩
/-- Bytes as a text. -/
noncomputable def strB (l:List Int):ByteArray:=⟨(l.map fun n=>UInt8.ofNat n.toNat).toArray⟩
theorem strB_size (l:List Int):(strB l).size=l.length:=by simp [strB,ByteArray.size]
theorem sl7Any_spec {b:List Int} {i:Int} (hc:cOk b i) (h:Int):q_sl7Any b i h=true∧okOps (sl7Any b i h).1=true∧(sl7Any b i h).2.1=b∧cOk b (sl7Any b i h).2.2.1:=by
 obtain ⟨a1,a2,a3,a4,a5,a6⟩:=sl7Draw_spec hc h
 simp only [q_sl7Any,sl7Any,k1_sl7Any,k2_sl7Any,k3_sl7Any,k4_sl7Any,k5_sl7Any,a1,a2,Bool.true_and]
 generalize sl7Draw b i h=r at *
 obtain ⟨b1,b2,b3,b4,b5⟩:=sl1Below_spec a3 10 r.2.2.1
 simp only [b1,b4,Bool.true_and]
 generalize sl1Below 10 b r.2.1 r.2.2.1=t at *
 have hidx:decide ((0:Int)≤0∧(0:Int)<((r.2.2.2.length:Nat):Int))=true:=decide_eq_true (by omega)
 have hidx2:decide ((0:Int)≤0∧(0:Int)≤0∧(0:Int)≤((r.2.2.2.length:Nat):Int))=true:=decide_eq_true (by omega)
 have hsm:∀ o∈r.2.2.2,o.2.1.size≤1048576∧o.2.2.size≤1048576:=fun o ho=>by have:=a4.2 o ho;omega
 have h0:=hsm _ (getD_mem (l:=r.2.2.2) (i:=0) (by omega) ((0:Int),((⟨#[]⟩:ByteArray),(⟨#[]⟩:ByteArray))))
 have hset:∀ o:Int×ByteArray×ByteArray,o.2.1.size≤1048576→o.2.2.size≤1048576→okOps (r.2.2.2.set 0 o)=true:=fun o h1 h2=>okOps_small (by rw [List.length_set];omega) fun y hy=>by
  rcases mem_set_or hy with rfl | hy
  ·exact ⟨h1,h2⟩
  ·exact hsm y hy
 cases c0:(t.1==0) with
 | true =>
  obtain ⟨o1,o2,o3,o4,o5,o6⟩:=sl7Op1_spec b5 t.2.2.2
  have m1:∀ x:Int×ByteArray×ByteArray,decide ((r.2.2.2.length+[x].length)*40≤MAXB)=true:=fun x=>decide_eq_true (by simp only [List.length_singleton,MAXB];omega)
  simp only [cond_true,o1,m1]
  refine ⟨rfl,okOps_small (by simp;omega) fun y hy=>?_,o5,o6⟩
  rcases List.mem_append.1 hy with hy | hy
  ·exact hsm y hy
  ·simp at hy;subst hy;exact ⟨by simp only;omega,by simp only;omega⟩
 | false =>
 cases c1:(t.1==1) with
 | true =>
  obtain ⟨d1,d2,d3,d4,d5⟩:=sl1Below_spec b5 5 t.2.2.2
  simp only [cond_true,cond_false,d1,hidx]
  exact ⟨rfl,hset _ h0.1 h0.2,d4,d5⟩
 | false =>
 cases c2:(t.1==2) with
 | true =>
  obtain ⟨d1,d2,d3,d4⟩:=sl3KeyAny_spec b5 t.2.2.2
  simp only [cond_true,cond_false,d1,hidx]
  exact ⟨rfl,hset _ (by simp only;omega) h0.2,d3,d4⟩
 | false =>
 cases c3:(t.1==3) with
 | true =>
  obtain ⟨d1,d2,d3,d4,d5⟩:=sl1Below_spec b5 2 t.2.2.2
  have d3:=d3 (by omega)
  have w:IntKind.wrap .i64 (20+(sl1Below 2 b t.2.2.1 t.2.2.2).1)=20+(sl1Below 2 b t.2.2.1 t.2.2.2).1:=wrap64 (by omega) (by omega)
  simp only [cond_true,cond_false,d1,hidx,w,Bool.true_and,Bool.and_true]
  refine ⟨decide_eq_true ⟨by omega,trivial,by simp only [MAXB];omega,by omega⟩,hset _ h0.1 ?_,d4,d5⟩
  have:(strB (List.replicate (20+(sl1Below 2 b t.2.2.1 t.2.2.2).1).toNat (0:Int))).size≤1048576:=by rw [strB_size,List.length_replicate];omega
  exact this
 | false =>
 cases c4:(t.1==4) with
 | true =>
  simp only [cond_true,cond_false,hidx2]
  exact ⟨trivial,okOps_small (by simp) fun y hy=>by simp at hy,trivial,b5⟩
 | false =>
  simp only [cond_false]
  exact ⟨trivial,okOps_small (by omega) hsm,trivial,b5⟩
theorem sl8Any_spec {b:List Int} {i:Int} (hc:cOk b i) (h:Int):q_sl8Any b i h=true∧okOps (sl8Any b i h).2.2.1=true∧(sl8Any b i h).2.2.2.1=b∧cOk b (sl8Any b i h).2.2.2.2.1∧(sl8Any b i h).2.1 ≠ 999999:=by
 obtain ⟨a1,a2,a3,a4,a5⟩:=sl8Rec_spec hc h
 have a6:(sl8Rec b i h).2.1 ≠ 999999:=by omega
 obtain ⟨b1,b2,b3,b4,b5⟩:=sl1Below_spec a4 8 (sl8Rec b i h).2.2.2.2.2
 have k1:k1_sl8Any b i h=sl1Below 8 b (sl8Rec b i h).2.2.2.2.1 (sl8Rec b i h).2.2.2.2.2:=by simp only [k1_sl8Any,a3]
 rw [← k1] at b4 b5
 obtain ⟨c1,c2,c3,c4,c5⟩:=sl1Below_spec b5 5 (k1_sl8Any b i h).2.2.2
 have k2:k2_sl8Any b i h=sl1Below 5 b (k1_sl8Any b i h).2.2.1 (k1_sl8Any b i h).2.2.2:=by simp only [k2_sl8Any,b4]
 rw [← k2] at c4 c5
 obtain ⟨d1,d2,d3,d4⟩:=sl1Int_spec b5 (k1_sl8Any b i h).2.2.2 (l:=[(0:Int),(1000000:Int),(1000001:Int)]) (by simp)
 have k3:k3_sl8Any b i h=sl1Int b (k1_sl8Any b i h).2.2.1 (k1_sl8Any b i h).2.2.2 [(0:Int),(1000000:Int),(1000001:Int)]:=by simp only [k3_sl8Any,b4]
 rw [← k3] at d2 d3 d4
 have d5:(k3_sl8Any b i h).1 ≠ 999999:=by
  simp only [List.mem_cons,List.not_mem_nil,or_false] at d2
  omega
 obtain ⟨e1,e2,e3,e4⟩:=sl7Any_spec b5 (k1_sl8Any b i h).2.2.2
 have k4:k4_sl8Any b i h=sl7Any b (k1_sl8Any b i h).2.2.1 (k1_sl8Any b i h).2.2.2:=by simp only [k4_sl8Any,b4]
 rw [← k4] at e2 e3 e4
 simp only [q_sl8Any,sl8Any,a1,a3,b1,b4,c1,d1,e1,Bool.true_and]
 cases ((k1_sl8Any b i h).1==0) with
 | true=>exact ⟨rfl,a2,c4,c5,a6⟩
 | false =>
  cases ((k1_sl8Any b i h).1==1) with
  | true=>exact ⟨rfl,a2,d3,d4,d5⟩
  | false =>
   cases ((k1_sl8Any b i h).1==2) with
   | true=>exact ⟨rfl,e2,e3,e4,a6⟩
   | false=>exact ⟨rfl,a2,rfl,b5,a6⟩
theorem sDrawPutRec_spec {b:List Int} (hb:okB b) (hl:b.length≤1048576):q_sDrawPutRec b=true∧okOps (sDrawPutRec b).2.2=true:=by
 obtain ⟨a1,a2,a3⟩:=sl1New_spec hb hl
 obtain ⟨b1,b2,_⟩:=sl8Any_spec a3 (sl1New b).2.2
 simp only [q_sDrawPutRec,sDrawPutRec,a1,a2,b1,Bool.true_and]
 exact ⟨trivial,b2⟩
theorem okB.getD {b:List Int} (h:okB b) (i:Nat):0≤b.getD i 0∧b.getD i 0≤255:=by
 rw [List.getD_eq_getElem?_getD]
 cases e:b[i]? with
 | none=>simp
 | some c=>exact h c (List.mem_of_getElem? e)
theorem lat_spec {b:List Int} (hb:okB b) (hl:b.length≤1048576) (i:Nat) (hi:i≤100):q_lat b (i:Int)=true∧0≤lat b (i:Int)∧lat b (i:Int)≤255:=by
 by_cases h:(i:Int)<((b.length:Nat):Int)
 ·have e:decide ((i:Int)<((b.length:Nat):Int))=true:=decide_eq_true h
  have hx:=hb _ (getD_mem (show i<b.length by omega) 0)
  have w:=wrap64 (n:=b.getD i 0) (by omega) (by omega)
  simp only [q_lat,lat,e,cond_true,Int.toNat_natCast,w]
  exact ⟨decide_eq_true (by omega),hx.1,hx.2⟩
 ·have e:decide ((i:Int)<((b.length:Nat):Int))=false:=decide_eq_false h
  have w1:=wrap64 (n:=(i:Int)*31) (by omega) (by omega)
  have w2:=wrap64 (n:=((b.length:Nat):Int)*7) (by omega) (by omega)
  have w3:=wrap64 (n:=(i:Int)*31+((b.length:Nat):Int)*7) (by omega) (by omega)
  simp only [q_lat,lat,e,cond_false,w1,w2,w3]
  have h1:=Int.tmod_nonneg (a:=(i:Int)*31+((b.length:Nat):Int)*7) 256 (by omega)
  have h2:=Int.tmod_lt_of_pos ((i:Int)*31+((b.length:Nat):Int)*7) (show (0:Int)<256 by omega)
  exact ⟨by trivial,h1,by omega⟩
/-- The bytes of ops. -/
noncomputable def opsB (l:Lq1):List Int:=numB (l.length:Int)++(l.map opB).flatten
/-- The body of a record. -/
noncomputable def recBody (k t:Int) (l:Lq1):List Int:=numB k++(numB t++cond (k==1) (opsB l) [])
/-- The sum behind a body. -/
noncomputable def digB4 (b:List Int):List Int:=strInts ((iDigest b).extract 0 4)
/-- The bytes of a record that is right. -/
noncomputable def recB (k t:Int) (l:Lq1):List Int:=numB ((recBody k t l).length:Int)++(recBody k t l++digB4 (recBody k t l))
theorem keyAt_same (s:ByteArray) (i:Nat):sKeyAt s i=iKeyAt s i:=by
 have hb:0≤bt s (i:Int)∧bt s (i:Int)<256:=by
  unfold bt
  split
  ·have:=UInt8.toNat_lt s[(i:Int).toNat];omega
  ·simp
 have e:=wrap64 (n:=bt s (i:Int)) (by omega) (by omega)
 simp only [sKeyAt,iKeyAt,sl1In,iisKeyByte,e]
 generalize bt s (i:Int)=c
 by_cases h1:c ≥ 97<;>by_cases h2:c≤122<;>by_cases h3:c ≥ 48<;>by_cases h4:c≤57<;>simp [h1,h2,h3,h4]
theorem keyOk_same (s:ByteArray):sKeyOk s=iKeyOk s:=by
 have e:allF (sKeyAt s) (s.size - (0:Int).toNat) (0:Int).toNat=allF (iKeyAt s) (s.size - (0:Int).toNat) (0:Int).toNat:=allF_congr _ _ (fun j _ _=>keyAt_same s j)
 simp only [sKeyOk,iKeyOk,iisWord,iinRange,sl1In,e]
 cases allF (iKeyAt s) (s.size - (0:Int).toNat) (0:Int).toNat<;>cases decide (((s.size:Nat):Int) ≥ 1)<;>cases decide (((s.size:Nat):Int)≤12)<;>rfl
theorem opOk_same (k:Int) (s v:ByteArray):sl7Op k s v=iopOk k s v:=by
 simp only [sl7Op,iopOk,keyOk_same,ba_beq,sl1In]
 cases iKeyOk s with
 | false =>
  by_cases h1:k=1<;>by_cases h2:k=2<;>by_cases h3:k=3<;>by_cases h4:v=⟨#[]⟩<;>by_cases h5:k ≥ 1<;>by_cases h6:k≤3<;>simp [h1,h2,h3,h4,h5,h6]<;>omega
 | true =>
  by_cases h2:k=2
  ·subst h2
   by_cases h4:v=⟨#[]⟩
   ·subst h4;simp [ByteArray.size]
   ·simp [h4]
  ·by_cases h1:k=1
   ·subst h1;simp
   ·by_cases h3:k=3
    ·subst h3;simp
    ·by_cases h5:k ≥ 1<;>by_cases h6:k≤3<;>simp [h1,h2,h3,h5,h6]<;>omega
theorem opAt_same (l:Lq1) (i:Nat):sOpAt l i=iOpAt l i:=by
 simp only [sOpAt,iOpAt,opOk_same]
 rw [← bytesLess_ge,Bool.not_not]
theorem opsOk_same (l:Lq1):sOpsOk l=iOpsOk l:=by
 have e:allF (sOpAt l) (l.length - (0:Int).toNat) (0:Int).toNat=allF (iOpAt l) (l.length - (0:Int).toNat) (0:Int).toNat:=allF_congr _ _ (fun j _ _=>opAt_same l j)
 simp only [sOpsOk,iOpsOk,e]
 rfl
theorem recOk_same (k t:Int) (l:Lq1):sRecOk k t l=iRecOk k t l:=by
 simp only [sRecOk,iRecOk,iisTx,opsOk_same]
 rw [show iinRange t 1 1000000=sl1In t 1 1000000 from rfl]
 cases sl1In t 1 1000000<;>simp
theorem opsOk_small {l:Lq1} (h:sOpsOk l=true):l.length≤8∧∀ o∈l,o.2.1.size≤12∧o.2.2.size≤20:=by
 simp only [sOpsOk] at h
 cases h5:allF (sOpAt l) (l.length - (0:Int).toNat) (0:Int).toNat with
 | false=>rw [h5] at h;simp at h
 | true =>
  rw [h5] at h
  simp only [cond_true,sl1In] at h
  constructor
  ·cases h6:decide (((l.length:Nat):Int) ≥ 1) with
   | false=>simp [h6] at h
   | true=>rw [h6] at h;simp only [cond_true,decide_eq_true_eq] at h;omega
  ·intro o ho
   obtain ⟨i,hi,rfl⟩:=List.getElem_of_mem ho
   have h6:=(allF_true _ _).1 h5 i (Nat.zero_le _) (by simpa using hi)
   simp only [sOpAt,Bool.and_eq_true,List.getD_eq_getElem?_getD,List.getElem?_eq_getElem hi,Option.getD_some] at h6
   have h7:=h6.1
   simp only [sl7Op] at h7
   have hk:∀ s:ByteArray,sKeyOk s=true→s.size≤12:=by
    intro s hs
    simp only [sKeyOk] at hs
    cases h8:allF (sKeyAt s) (s.size - (0:Int).toNat) (0:Int).toNat with
    | false=>rw [h8] at hs;simp at hs
    | true =>
     rw [h8] at hs
     simp only [cond_true,sl1In] at hs
     cases h9:decide (((s.size:Nat):Int) ≥ 1) with
     | false=>simp [h9] at hs
     | true=>rw [h9] at hs;simp only [cond_true,decide_eq_true_eq] at hs;omega
   cases h8:sKeyOk (l[i]).2.1 with
   | false=>exfalso;revert h7;simp only [h8,cond_false];cases sl1In (l[i]).1 1 3<;>cases ((l[i]).1==2)<;>simp
   | true =>
    refine ⟨hk _ h8,?_⟩
    revert h7
    simp only [h8,cond_true]
    cases sl1In (l[i]).1 1 3<;>cases ((l[i]).1==2)<;>simp<;>omega
theorem opsOk_okOps {l:Lq1} (h:sOpsOk l=true):okOps l=true:=by
 obtain ⟨a1,a2⟩:=opsOk_small h
 simp only [okOps,okL,Bool.and_eq_true,decide_eq_true_eq,List.all_eq_true]
 refine ⟨by omega,fun o ho=>?_⟩
 have:=a2 o ho
 simp only [okOp,okS,Bool.and_eq_true,decide_eq_true_eq];omega
theorem recOk_is {k t:Int} {l:Lq1} (h:sRecOk k t l=true):1≤k∧k≤3∧1≤t∧t≤1000000∧(k=1→sOpsOk l=true)∧(k ≠ 1→l=[])∧okOps l=true:=by
 simp only [sRecOk,sl1In] at h
 cases h1:decide (t ≥ 1) with
 | false=>simp [h1] at h
 | true=>cases h2:decide (t≤1000000) with
  | false=>simp [h1,h2] at h
  | true =>
   simp only [h1,h2,cond_true,Bool.not_true,cond_false] at h
   have:=of_decide_eq_true h1;have:=of_decide_eq_true h2
   cases k1:(k==1) with
   | true =>
    have:=eq_of_beq k1
    simp only [k1,cond_true] at h
    exact ⟨by omega,by omega,by omega,by omega,fun _=>h,fun hk=>absurd this hk,opsOk_okOps h⟩
   | false =>
    have hk:k ≠ 1:=by rw [beq_eq_false_iff_ne] at k1;exact k1
    simp only [k1,cond_false] at h
    have key:(k=2∨k=3)∧l=[]:=by
     cases k2:(k==2) with
     | true =>
      simp only [k2,cond_true] at h
      have:=eq_of_beq h
      exact ⟨.inl (eq_of_beq k2),List.eq_nil_of_length_eq_zero (by omega)⟩
     | false =>
      cases k3:(k==3) with
      | true =>
       simp only [k2,k3,cond_true,cond_false] at h
       have:=eq_of_beq h
       exact ⟨.inr (eq_of_beq k3),List.eq_nil_of_length_eq_zero (by omega)⟩
      | false=>simp [k2,k3] at h
    exact ⟨by omega,by omega,by omega,by omega,fun e=>absurd e hk,fun _=>key.2,by rw [key.2];rfl⟩
theorem opsB_len {l:Lq1} (h:sOpsOk l=true):(opsB l).length≤400:=by
 obtain ⟨a1,a2⟩:=opsOk_small h
 have h5:=flat_len (M:=47) l (fun o ho'=>by have:=a2 o ho';have:=opB_len o;omega)
 have h6:=numB_len (l.length:Int)
 simp only [opsB,List.length_append];omega
/-- The bytes of a number behind others. -/
noncomputable def hiB (j x:Nat):List Int:=(hiF gNum j (x:Int)).1++[IntKind.wrap .u8 (hiF gNum j (x:Int)).2]
theorem numB_hi (x:Nat):numB (x:Int)=hiB 4 x:=by simp only [numB,hiB,nX_eq]
theorem hiF_stop (j x:Nat) (h:¬ 127<x):hiF gNum j (x:Int)=([],(x:Int)):=by
 cases j with
 | zero=>rfl
 | succ j =>
  have e:decide ((x:Int) > 127)=false:=decide_eq_false (by omega)
  simp only [hiF,e,cond_false]
theorem wrapU8 {n:Int} (h1:0≤n) (h2:n<256):IntKind.wrap .u8 n=n:=by
 show (if (false&&decide (n % (2 ^ 8:Int) ≥ (2 ^ 7:Int)))=true then n % (2 ^ 8:Int) - (2 ^ 8:Int) else n % (2 ^ 8:Int))=n
 simp only [Bool.false_and,Bool.false_eq_true,if_false];omega
theorem hiB_stop (j x:Nat) (h:¬ 127<x):hiB j x=[(x:Int)]:=by
 simp only [hiB,hiF_stop j x h,List.nil_append];rw [wrapU8 (by omega) (by omega)]
theorem fdivN (n:Nat):Int.fdiv (n:Int) (2 ^ 7)=((n / 128:Nat):Int):=by
 rw [Int.fdiv_eq_ediv_of_nonneg _ (by decide)];rfl
/-- The high bytes of a number, and what is left. -/
theorem hiF_step (j x:Nat) (h:127<x):hiF gNum (j+1) (x:Int)=(gNum x::(hiF gNum j ((x / 128:Nat):Int)).1,(hiF gNum j ((x / 128:Nat):Int)).2):=by
 have e:decide ((x:Int) > 127)=true:=decide_eq_true (by omega)
 simp only [hiF,e,cond_true,fdivN]
theorem iand127 (n:Nat) (h:n<9223372036854775808):iand .i64 (n:Int) 127=((n % 128:Nat):Int):=by
 show IntKind.wrap .i64 (((BitVec.ofInt 64 (n:Int) &&& BitVec.ofInt 64 ((127:Nat):Int)).toNat:Nat):Int)=_
 rw [BitVec.toNat_and,ofInt_nat n (by omega),ofInt_nat 127 (by omega),show (127:Nat)=2 ^ 7 - 1 from rfl,Nat.and_two_pow_sub_one_eq_mod]
 exact wrap64 (by omega) (by omega)
theorem iorAdd (n m j:Nat) (hn:n<2 ^ j) (h:n+m*2 ^ j<9223372036854775808):ior .i64 (n:Int) ((m*2 ^ j:Nat):Int)=((n+m*2 ^ j:Nat):Int):=by
 show IntKind.wrap .i64 (((BitVec.ofInt 64 (n:Int) ||| BitVec.ofInt 64 ((m*2 ^ j:Nat):Int)).toNat:Nat):Int)=_
 rw [BitVec.toNat_or,ofInt_nat n (by omega),ofInt_nat _ (by omega),Nat.or_comm,Nat.mul_comm m,← Nat.two_pow_add_eq_or_of_lt hn,Nat.add_comm]
 rw [Nat.mul_comm m] at h
 exact wrap64 (by omega) (by omega)
theorem gNum_val (n:Nat) (h:n<9223372036854775808):gNum (n:Int)=((128+n % 128:Nat):Int):=by
 simp only [gNum]
 rw [iand127 n h]
 have:=iorAdd (n % 128) 1 7 (by omega) (by omega)
 have e:((1*2 ^ 7:Nat):Int)=128:=rfl
 rw [e] at this
 rw [this,wrapU8 (by omega) (by omega)];omega
theorem hiB_step (j x:Nat) (h:127<x) (hx:x<9223372036854775808):hiB (j+1) x=((128+x % 128:Nat):Int)::hiB j (x / 128):=by
 simp only [hiB,hiF_step j x h,gNum_val x hx,List.cons_append]
theorem hiB_ok:∀ (j x:Nat),x<128 ^ (j+1)→x<9223372036854775808→okB (hiB j x):=by
 intro j
 induction j with
 | zero=>intro x h h';rw [hiB_stop 0 x (by simp at h;omega)];intro c hc;simp at hc;simp at h;omega
 | succ j ih =>
  intro x h h'
  by_cases hx:127<x
  ·rw [hiB_step j x hx h']
   rw [Nat.pow_succ] at h
   have hx':x / 128<128 ^ (j+1):=Nat.div_lt_of_lt_mul (by rw [Nat.mul_comm];exact h)
   intro c hc
   rcases List.mem_cons.1 hc with rfl | hc
   ·omega
   ·exact ih (x / 128) hx' (by omega) c hc
  ·rw [hiB_stop _ x hx];intro c hc;simp at hc;omega
theorem numB_ok {x:Int} (h0:0≤x) (h1:x≤1000000000):okB (numB x):=by
 obtain ⟨n,rfl⟩:=Int.eq_ofNat_of_zero_le h0
 rw [numB_hi];exact hiB_ok 4 n (by simp;omega) (by omega)
/-- Ops that can be written. -/
noncomputable def fitO (o:Int×ByteArray×ByteArray):Prop:=0≤o.1∧o.1≤1000000000∧o.2.1.size≤1000000000∧o.2.2.size≤1000000000
theorem strInts_ok (s:ByteArray):okB (strInts s):=by
 intro c hc
 simp only [strInts,List.mem_map] at hc
 obtain ⟨x,_,rfl⟩:=hc
 have:=x.toNat_lt
 omega
theorem okB.app {a b:List Int} (h:okB a) (h':okB b):okB (a++b):=fun c hc=>(List.mem_append.1 hc).elim (h c) (h' c)
theorem textB_ok {s:ByteArray} (h:s.size≤1000000000):okB (textB s):=(numB_ok (by omega) (by omega)).app (strInts_ok s)
theorem opB_ok {o:Int×ByteArray×ByteArray} (h:fitO o):okB (opB o):=by
 obtain ⟨h0,h1,h2,h3⟩:=h
 simp only [opB,clampN_of h0 h1]
 exact (numB_ok h0 h1).app ((textB_ok h2).app (textB_ok h3))
theorem flat_ok:∀ l:Lq1,(∀ o∈l,fitO o)→okB (l.map opB).flatten:=by
 intro l
 induction l with
 | nil=>intro _ c hc;simp at hc
 | cons o l ih=>intro h;simp only [List.map_cons,List.flatten_cons];exact (opB_ok (h o (by simp))).app (ih fun x hx=>h x (by simp [hx]))
theorem opsOk_fit {l:Lq1} (h:sOpsOk l=true):∀ o∈l,fitO o:=by
 intro o ho
 obtain ⟨_,a2⟩:=opsOk_small h
 have a3:=a2 o ho
 simp only [sOpsOk] at h
 cases h5:allF (sOpAt l) (l.length - (0:Int).toNat) (0:Int).toNat with
 | false=>rw [h5] at h;simp at h
 | true =>
  obtain ⟨i,hi,rfl⟩:=List.getElem_of_mem ho
  have h6:=(allF_true _ _).1 h5 i (Nat.zero_le _) (by simpa using hi)
  simp only [sOpAt,Bool.and_eq_true,List.getD_eq_getElem?_getD,List.getElem?_eq_getElem hi,Option.getD_some] at h6
  have h7:=h6.1
  simp only [sl7Op,sl1In] at h7
  cases h8:decide ((l[i]).1 ≥ 1) with
  | false=>simp [h8] at h7
  | true =>
   cases h9:decide ((l[i]).1≤3) with
   | false=>simp [h8,h9] at h7
   | true =>
    have:=of_decide_eq_true h8
    have:=of_decide_eq_true h9
    exact ⟨by omega,by omega,by omega,by omega⟩
theorem opsB_ok {l:Lq1} (h:sOpsOk l=true):okB (opsB l):=by
 obtain ⟨a1,_⟩:=opsOk_small h
 exact (numB_ok (by omega) (by omega)).app (flat_ok l (opsOk_fit h))
theorem recBody_ok {k t:Int} {l:Lq1} (h:sRecOk k t l=true):okB (recBody k t l)∧(recBody k t l).length≤410∧2≤(recBody k t l).length:=by
 obtain ⟨a1,a2,a3,a4,a7,a8,a9⟩:=recOk_is h
 have l1:=numB_len k;have l2:=numB_len t
 have m1:1≤(numB k).length:=by simp [numB]
 have m2:1≤(numB t).length:=by simp [numB]
 cases hk:(k==1) with
 | true =>
  have ho:=a7 (eq_of_beq hk)
  have l5:=opsB_len ho
  refine ⟨?_,by simp only [recBody,hk,cond_true,List.length_append];omega,by simp only [recBody,hk,cond_true,List.length_append];omega⟩
  simp only [recBody,hk,cond_true]
  exact (numB_ok (by omega) (by omega)).app ((numB_ok (by omega) (by omega)).app (opsB_ok ho))
 | false =>
  refine ⟨?_,by simp only [recBody,hk,cond_false,List.length_append,List.length_nil];omega,by simp only [recBody,hk,cond_false,List.length_append,List.length_nil];omega⟩
  simp only [recBody,hk,cond_false]
  exact (numB_ok (by omega) (by omega)).app ((numB_ok (by omega) (by omega)).app (fun c hc=>by simp at hc))
noncomputable def padF (n:Nat):Nat:=(64 - (n+8) % 64) % 64
theorem ipad0 (a:List Int) (ha:a.length≤1000000000000) (h:List Int) (hh:h.length=a.length+1) :
  (it_iPadded_0 a h).1=0∧(it_iPadded_0 a h).2.1=a∧((it_iPadded_0 a h).2.2.length+8) % 64=0∧(it_iPadded_0 a h).2.2.length≤a.length+64:=by
 refine itX_inv (v:=(a,h)) (fun (v:V_iPadded_0)=>v.1=a∧v.2.length+padF v.2.length≤a.length+64)
  (fun (x:A_iPadded_0)=>x.1=0∧x.2.1=a∧(x.2.2.length+8) % 64=0∧x.2.2.length≤a.length+64) (fun v=>padF v.2.length) ?_ ⟨rfl,by simp only [padF];omega⟩ (by simp only [padF];omega)
 rintro ⟨a1,l⟩ ⟨h1,h4⟩
 simp only at h1 h4
 subst h1
 simp only [padF] at h4
 have e1:IntKind.wrap .i64 (((l.length:Nat):Int)+(8:Int))=((l.length+8:Nat):Int):=by rw [w64c _ (by omega) (by omega)];omega
 have t1:Int.tmod ((l.length+8:Nat):Int) 64=(((l.length+8) % 64:Nat):Int):=by rw [Int.tmod_eq_emod_of_nonneg (by omega)];omega
 by_cases hm:(l.length+8) % 64=0
 ·refine .inr ⟨(0,a1,l),?_,rfl,rfl,hm,by simp only;omega⟩
  simp only [ss_iPadded_0,e1,t1,hm];rfl
 ·refine .inl ⟨(a1,l++[0]),?_,⟨rfl,by simp only [padF,List.length_append,List.length_singleton];omega⟩,by simp only [padF,List.length_append,List.length_singleton];omega⟩
  have c1:((((l.length+8) % 64:Nat):Int) != (0:Int))=true:=by simp only [bne_iff_ne,ne_eq];omega
  simp only [ss_iPadded_0,e1,t1,c1,cond_true,List.length_singleton]
  rw [decide_eq_true (by simp only [MAXB];omega)];rfl
theorem ipad1 (n:Int) (h:List Int) (hh:h.length≤1000000000100) :
  (it_iPadded_1 n 7 h).1=0∧(it_iPadded_1 n 7 h).2.length=h.length+8:=by
 refine itX_inv (v:=(n,(7:Int),h)) (fun (v:V_iPadded_1)=>v.1=n∧(-1≤v.2.1∧v.2.1≤7)∧(v.2.2.length:Int)=(h.length:Int)+(7 - v.2.1))
  (fun (x:A_iPadded_1)=>x.1=0∧x.2.length=h.length+8) (fun v=>(v.2.1+1).toNat) ?_ ⟨rfl,⟨by simp only;omega,by simp only;omega⟩,by simp only;omega⟩ (by simp only;decide)
 rintro ⟨n2,i,l⟩ ⟨h1,h4,h6⟩
 simp only at h1 h4 h6
 subst h1
 by_cases hi:0≤i
 ·have e0 : IntKind.wrap .u64 (8 * i) = 8 * i := by
   have:IntKind.wrap .u64 (8*i)=(8*i) % 18446744073709551616:=by simp [IntKind.wrap,IntKind.bits,IntKind.signed]
   rw [this];omega
  refine .inl ⟨(n2,i - 1,l++[IntKind.wrap .u8 (Int.fdiv n2 (2 ^ (min (Int.toNat (8*i)) (IntKind.bits .i64))))]),?_,⟨rfl,by simp only;omega,by simp only [List.length_append,List.length_singleton];omega⟩,by simp only;omega⟩
  simp only [ss_iPadded_1,w64c (8*i) (by omega) (by omega),e0,wrap64 (n:=i - 1) (by omega) (by omega),decide_eq_true (show i ≥ 0 from hi),cond_true,List.length_singleton]
  rw [decide_eq_true (by omega),decide_eq_true (by simp only [MAXB];omega)];rfl
 ·refine .inr ⟨(0,l),?_,rfl,by simp only;omega⟩
  simp only [ss_iPadded_1,decide_eq_false (show ¬ i ≥ 0 from hi),cond_false]
theorem ipadded_ok (a:List Int) (ha:a.length≤1000000000000):q_iPadded a=true∧(iPadded a).length % 64=0∧0<(iPadded a).length∧(iPadded a).length≤a.length+72:=by
 obtain ⟨a1,a3,a6,a7⟩:=ipad0 a ha (a++[128]) (by simp)
 obtain ⟨b1,b4⟩:=ipad1 (IntKind.wrap .i64 ((8:Int)*(a.length:Int))) (it_iPadded_0 a (a++[128])).2.2 (by omega)
 have ei:k1_iPadded a=it_iPadded_1 (IntKind.wrap .i64 ((8:Int)*(a.length:Int))) 7 (it_iPadded_0 a (a++[128])).2.2:=by
  simp only [k1_iPadded,slices_Clone_byte,a3]
 refine ⟨?_,?_,?_,?_⟩
 ·have q1:q_slices_Clone_byte a=true:=decide_eq_true (by simp only [MAXB,List.length_nil];omega)
  simp only [q_iPadded,q1,slices_Clone_byte,a1,ei,b1,List.length_singleton,Bool.true_and,beq_self_eq_true,Bool.and_true]
  exact decide_eq_true (by simp only [MAXB];omega)
 ·simp only [iPadded,ei,b4];omega
 ·simp only [iPadded,ei,b4];omega
 ·simp only [iPadded,ei,b4];omega
theorem digBytesN_len (h:List Int):(digBytes h).length=4*h.length:=by
 induction h with
 | nil=>rfl
 | cons x h ih=>simp only [digBytes,List.flatMap_cons,List.length_append,List.length_cons,List.length_nil] at ih ⊢;omega
theorem digH_len (p:List Int):(digH p).length=8:=by
 have key:∀ n,64*n≤p.length→((List.range n).foldl (fun h i=>(iturnBlock ((p.drop (64*i)).take 64) h irounds).1) hinit).length=8:=by
  intro n
  induction n with
  | zero=>intro _;rfl
  | succ n ih =>
   intro hn
   rw [List.range_succ,List.foldl_append]
   exact (turn_ok _ _ (by simp only [List.length_take,List.length_drop];omega) (ih (by omega))).2.1
 exact key _ (by omega)
theorem idig_ok (b:List Int) (hl:b.length≤1000000000000):q_iDigest b=true∧(iDigest b).size=32∧(digB4 b).length=4∧okB (digB4 b):=by
 obtain ⟨p1,p2,p3,p4⟩:=ipadded_ok b hl
 have hs:(iDigest b).size=32:=by
  have:(iDigest b).size=(digBytes (digH (iPadded b))).length:=by
   show (((digBytes _).map _).toArray).size=_
   simp
  rw [this,digBytesN_len,digH_len]
 refine ⟨?_,hs,?_,strInts_ok _⟩
 ·simp only [q_iDigest,p1,Bool.true_and,Bool.and_eq_true,decide_eq_true_eq];omega
 ·simp only [digB4,strInts_len,ByteArray.size_extract,hs];rfl
theorem sOpsOk_len {l:Lq1} (h:sOpsOk l=true):1≤l.length:=by
 simp only [sOpsOk] at h
 cases h5:allF (sOpAt l) (l.length - (0:Int).toNat) (0:Int).toNat with
 | false=>rw [h5] at h;simp at h
 | true =>
  rw [h5] at h
  simp only [cond_true,sl1In] at h
  cases h6:decide (((l.length:Nat):Int) ≥ 1) with
  | false=>simp [h6] at h
  | true=>have:=of_decide_eq_true h6;omega
theorem dec_t {p:Prop} {i:Decidable p} (h:p):@decide p i=true:=@decide_eq_true p i h
theorem iputRec_eq {k t:Int} {l:Lq1} (h:sRecOk k t l=true):q_iputRec k t l=true∧iputRec k t l=recB k t l:=by
 obtain ⟨a1,a2,a3,a4,a7,a8,ho⟩:=recOk_is h
 obtain ⟨b1,b2,b3⟩:=recBody_ok h
 obtain ⟨d2,d4,d5,d6⟩:=idig_ok (recBody k t l) (by omega)
 have e0:iputNum t (iputNum_nil k)=numB k++numB t:=by
  rw [iputNum_eq,iputNum_nil_eq,clampN_of (by omega) (by omega),clampN_of (by omega) (by omega)]
 have e1:∀ n:Nat,n≤410→iputNum_nil (n:Int)=numB (n:Int):=fun n hn=>by rw [iputNum_nil_eq,clampN_of (by omega) (by omega)]
 have sz:((iDigest (recBody k t l)).extract 0 4).size=4:=by rw [ByteArray.size_extract,d4];rfl
 have lb:=numB_len ((recBody k t l).length:Int)
 have l0:=iputNum_nil_len k
 have lk:=numB_len k
 have lt:=numB_len t
 cases hk:(k==1) with
 | true =>
  have hs:=a7 (eq_of_beq hk)
  have hl:=sOpsOk_len hs
  have hd:decide (((l.length:Nat):Int) > 0)=true:=decide_eq_true (by omega)
  have oe:iputOps l (numB k++numB t)=recBody k t l:=by
   obtain ⟨c1,_⟩:=opsOk_small hs
   rw [iputOps_eq l _ ho,clampN_of (by omega) (by omega)]
   simp only [recBody,hk,cond_true,List.append_assoc,opsB]
  refine ⟨?_,?_⟩
  ·simp only [q_iputRec,q_iputNum,q_iputOps,hd,ho,e0,oe,e1 _ b2,d2,d4,cond_true,Bool.true_and,Int.toNat_zero,List.length_append]
   rw [show ((4:Int).toNat)=4 from rfl,sz]
   simp only [Bool.and_eq_true,Bool.and_true,MAXB,d4]
   repeat' first | exact dec_t (by omega) | exact trivial | refine And.intro ?_ ?_
  ·simp only [iputRec,hd,e0,oe,e1 _ b2,cond_true]
   simp only [recB,digB4,List.append_assoc];rfl
 | false =>
  have hn:=a8 (by rw [beq_eq_false_iff_ne] at hk;exact hk)
  have hd:decide (((l.length:Nat):Int) > 0)=false:=decide_eq_false (by rw [hn];simp)
  have be:numB k++numB t=recBody k t l:=by simp only [recBody,hk,cond_false,List.append_nil]
  refine ⟨?_,?_⟩
  ·simp only [q_iputRec,q_iputNum,hd,e0,be,e1 _ b2,d2,d4,cond_false,Bool.true_and,Int.toNat_zero,List.length_append]
   rw [show ((4:Int).toNat)=4 from rfl,sz]
   simp only [Bool.and_eq_true,MAXB,d4]
   repeat' first | exact dec_t (by omega) | exact trivial | refine And.intro ?_ ?_
  ·simp only [iputRec,hd,e0,be,e1 _ b2,cond_false]
   simp only [recB,digB4,List.append_assoc];rfl
theorem iPutRec_eq {k t:Int} {l:Lq1} (ho:okOps l=true):q_iPutRec k t l=true∧iPutRec k t l=cond (sRecOk k t l) (recB k t l) []:=by
 cases h:sRecOk k t l with
 | false=>simp only [q_iPutRec,iPutRec,q_iRecOk,ho,← recOk_same,h,Bool.not_false,cond_true,cond_false];exact ⟨rfl,trivial⟩
 | true =>
  obtain ⟨c1,c2⟩:=iputRec_eq h
  simp only [q_iPutRec,iPutRec,q_iRecOk,ho,← recOk_same,h,c1,c2,Bool.not_true,cond_true,cond_false];exact ⟨rfl,trivial⟩
theorem recB_ok {k t:Int} {l:Lq1} (h:sRecOk k t l=true):okB (recB k t l)∧(recB k t l).length≤419∧5≤(recB k t l).length:=by
 obtain ⟨a1,a2,a3⟩:=recBody_ok h
 obtain ⟨_,_,b1,b2⟩:=idig_ok (recBody k t l) (by omega)
 have l1:=numB_len ((recBody k t l).length:Int)
 refine ⟨(numB_ok (by omega) (by omega)).app (a1.app b2),?_,?_⟩<;>simp only [recB,List.length_append]<;>omega
theorem sameOps_self {l:Lq1} (h:l.length≤1048576):q_lsameOps l l=true∧lsameOps l l=true:=by
 have hn:(((l.length:Nat):Int) != ((l.length:Nat):Int))=false:=by simp
 have key:(it_lsameOps_0 l l 0).1=1:=by
  refine itX_inv (fun v:V_lsameOps_0=>∃ i:Nat,v=(l,l,(i:Int))∧i≤l.length) (fun a:A_lsameOps_0=>a.1=1) (fun v=>l.length - v.2.2.toNat) ?_ ⟨0,rfl,Nat.zero_le _⟩ (by simp;omega)
  rintro v ⟨i,rfl,hi⟩
  by_cases hlt:i<l.length
  ·have e1:decide ((i:Int)<((l.length:Nat):Int))=true:=decide_eq_true (by omega)
   have e2:decide (0≤(i:Int)∧(i:Int)<((l.length:Nat):Int))=true:=decide_eq_true (by omega)
   have e3:∀ x:Int,(x==x)=true:=fun x=>by simp
   have e4:∀ x:List UInt8,(x==x)=true:=fun x=>by simp
   simp only [ss_lsameOps_0,e1,e2,e3,e4,Int.toNat_natCast,cond_true,cond_false,Bool.true_and,Bool.not_true,wrapU i (by omega)]
   exact .inl ⟨_,rfl,⟨i+1,rfl,by omega⟩,by simp only [Int.toNat_natCast];omega⟩
  ·have e1:decide ((i:Int)<((l.length:Nat):Int))=false:=decide_eq_false (by omega)
   simp only [ss_lsameOps_0,e1,cond_false]
   exact .inr ⟨_,rfl,rfl⟩
 simp only [q_lsameOps,lsameOps,hn,key,cond_false]
 exact ⟨rfl,rfl⟩
/-- A number out of bytes: its value and how many bytes it takes. -/
noncomputable def pN:Nat→Nat→Nat→List Int→Option (Nat×Nat)
 | 0,_,_,_=>none
 | _+1,_,_,[]=>none
 | f+1,k,n,c::r =>
  if c > 127 then pN f (k+1) (n+c.toNat % 128*2 ^ (7*k)) r
  else if (0<k∧c=0)∨n+c.toNat*2 ^ (7*k) > 1000000000 then none else some (n+c.toNat*2 ^ (7*k),k+1)
/-- A number at a place: its value, the place behind, whether there is one. -/
noncomputable def gN (b:List Int) (at':Int):Int×Int×Bool :=
 if 0≤at'∧at'<b.length then (match pN 5 0 0 (b.drop at'.toNat) with
  | some (n,l)=>((n:Int),at'+l,true)
  | none=>(0,0,false)) else (0,0,false)
theorem pN_hiB:∀ (j k n x:Nat) (post:List Int),x<128 ^ (j+1)→(0<k→0<x)→n+x*2 ^ (7*k)≤1000000000→pN (j+1) k n (hiB j x++post)=some (n+x*2 ^ (7*k),k+(hiB j x).length):=by
 intro j
 induction j with
 | zero =>
  intro k n x post h1 h2 h3
  have hx:¬ 127<x:=by simp at h1;omega
  rw [hiB_stop 0 x hx]
  simp only [List.cons_append,List.nil_append,pN,List.length_singleton,Int.toNat_natCast]
  rw [if_neg (by omega),if_neg (by omega)]
 | succ j ih =>
  intro k n x post h1 h2 h3
  by_cases hx:127<x
  ·have hb : x < 9223372036854775808 := by
    have:x*1≤x*2 ^ (7*k):=Nat.mul_le_mul_left _ (Nat.pow_pos (by decide))
    omega
   rw [hiB_step j x hx hb]
   have hx':x / 128<128 ^ (j+1):=Nat.div_lt_of_lt_mul (by rw [Nat.pow_succ] at h1;rw [Nat.mul_comm];exact h1)
   have e:n+x % 128*2 ^ (7*k)+x / 128*2 ^ (7*(k+1))=n+x*2 ^ (7*k):=by
    rw [show 7*(k+1)=7*k+7 by omega,Nat.pow_add]
    have:=Nat.div_add_mod x 128
    have h4:x*2 ^ (7*k)=(128*(x / 128)+x % 128)*2 ^ (7*k):=by rw [this]
    rw [h4,Nat.add_mul,show (2:Nat) ^ 7=128 from rfl,Nat.mul_comm 128 (x / 128),Nat.mul_assoc,Nat.mul_comm 128 (2 ^ (7*k)),← Nat.mul_assoc]
    omega
   have:=ih (k+1) (n+x % 128*2 ^ (7*k)) (x / 128) post hx' (fun _=>by omega) (by rw [e];exact h3)
   simp only [List.cons_append,pN]
   rw [if_pos (by omega)]
   have e2:(((128+x % 128:Nat):Int).toNat % 128)=x % 128:=by omega
   rw [e2,this,e]
   simp only [List.length_cons]
   congr 2;omega
  ·rw [hiB_stop _ x hx]
   simp only [List.cons_append,List.nil_append,pN,List.length_singleton,Int.toNat_natCast]
   rw [if_neg (by omega),if_neg (by omega)]
theorem pN_num {n:Int} (h0:0≤n) (h1:n≤1000000000) (post:List Int):pN 5 0 0 (numB n++post)=some (n.toNat,(numB n).length):=by
 obtain ⟨x,rfl⟩:=Int.eq_ofNat_of_zero_le h0
 rw [numB_hi,pN_hiB 4 0 0 x post (by simp;omega) (by omega) (by simp;omega)]
 simp
theorem gN_num {n:Int} (h0:0≤n) (h1:n≤1000000000) (pre post:List Int):gN (pre++(numB n++post)) (pre.length:Int)=(n,(pre.length:Int)+(numB n).length,true):=by
 have hl:1≤(numB n).length:=by simp [numB]
 simp only [gN]
 rw [if_pos (by simp only [List.length_append];omega),Int.toNat_natCast,List.drop_left,pN_num h0 h1]
 show ((n.toNat:Int),_,_)=_
 rw [Int.toNat_of_nonneg h0]
/-- The frame of a record that is right. -/
theorem recHead {k t:Int} {l:Lq1} (h:sRecOk k t l=true) {b pre post:List Int} (e:b=pre++(recB k t l++post)) :
  gN b (pre.length:Int)=(((recBody k t l).length:Int),(pre.length:Int)+((numB ((recBody k t l).length:Int)).length:Int),true) ∧
  gN (recBody k t l) 0=(k,((numB k).length:Int),true)∧gN (recBody k t l) ((numB k).length:Int)=(t,((numB k++numB t).length:Int),true) ∧
  b.length=pre.length+(numB ((recBody k t l).length:Int)).length+(recBody k t l).length+4+post.length:=by
 obtain ⟨a1,a2,a3,a4,a7,a8,ho⟩:=recOk_is h
 obtain ⟨b1,b2,b3⟩:=recBody_ok h
 obtain ⟨_,_,d5,d6⟩:=idig_ok (recBody k t l) (by omega)
 have h1:=gN_num (n:=((recBody k t l).length:Int)) (by omega) (by omega) pre ((recBody k t l++digB4 (recBody k t l))++post)
 have h2:=gN_num (n:=k) (by omega) (by omega) [] (numB t++cond (k==1) (opsB l) [])
 have h3:=gN_num (n:=t) (by omega) (by omega) (numB k) (cond (k==1) (opsB l) [])
 have e':b=pre++(numB ((recBody k t l).length:Int)++((recBody k t l++digB4 (recBody k t l))++post)):=by rw [e,recB,List.append_assoc]
 rw [← e'] at h1
 refine ⟨h1,?_,?_,?_⟩
 ·simpa [recBody] using h2
 ·rw [List.length_append,Int.natCast_add];exact h3
 ·rw [e'];simp only [List.length_append,d5];omega
theorem cutL {b x y z:List Int} {i j:Int} (e:b=x++(y++z)) (hi:i=(x.length:Int)) (hj:j=(x.length:Int)+(y.length:Int)):(b.take j.toNat).drop i.toNat=y:=by
 rw [e,← List.append_assoc,List.take_left' (by rw [List.length_append];omega),List.drop_left' (by omega)]
theorem recCuts {k t:Int} {l:Lq1} (h:sRecOk k t l=true) {b pre post:List Int} (e:b=pre++(recB k t l++post)) (hl:b.length≤1048576) :
  (b.take ((pre.length:Int)+((numB ((recBody k t l).length:Int)).length:Int)+((recBody k t l).length:Int)).toNat).drop ((pre.length:Int)+((numB ((recBody k t l).length:Int)).length:Int)).toNat=recBody k t l ∧
  (b.take ((pre.length:Int)+((numB ((recBody k t l).length:Int)).length:Int)+((recBody k t l).length:Int)+4).toNat).drop ((pre.length:Int)+((numB ((recBody k t l).length:Int)).length:Int)+((recBody k t l).length:Int)).toNat=digB4 (recBody k t l) ∧
  (b.take ((pre.length:Int)+((numB ((recBody k t l).length:Int)).length:Int)+((recBody k t l).length:Int)+4).toNat).drop (pre.length:Int).toNat=recB k t l:=by
 obtain ⟨b1,b2,b3⟩:=recBody_ok h
 obtain ⟨_,_,d5,d6⟩:=idig_ok (recBody k t l) (by omega)
 refine ⟨cutL (x:=pre++numB ((recBody k t l).length:Int)) (z:=digB4 (recBody k t l)++post) ?_ ?_ ?_,cutL (x:=pre++(numB ((recBody k t l).length:Int)++recBody k t l)) (z:=post) ?_ ?_ ?_,cutL (x:=pre) (z:=post) e rfl ?_⟩
 ·rw [e,recB];simp only [List.append_assoc]
 ·rw [List.length_append,Int.natCast_add]
 ·rw [List.length_append,Int.natCast_add]
 ·rw [e,recB];simp only [List.append_assoc]
 ·simp only [List.length_append,Int.natCast_add];omega
 ·simp only [List.length_append,Int.natCast_add,d5];omega
 ·simp only [recB,List.length_append,Int.natCast_add,d5];omega
theorem wrapU64 {n:Int} (h1:0≤n) (h2:n<18446744073709551616):IntKind.wrap .u64 n=n:=by
 show (if (false&&decide (n % (2 ^ 64:Int) ≥ (2 ^ 63:Int)))=true then n % (2 ^ 64:Int) - (2 ^ 64:Int) else n % (2 ^ 64:Int))=n
 simp only [Bool.false_and,Bool.false_eq_true,if_false];omega
theorem drop_cons {b:List Int} {i:Nat} (h:i<b.length):b.drop i=b.getD i 0::b.drop (i+1):=by
 rw [List.drop_eq_getElem_cons h];simp [List.getD_eq_getElem?_getD,h]
theorem shl7 (c k:Nat) (hc:c≤255) (hk:k<5):IntKind.wrap .i64 ((iand .i64 (IntKind.wrap .i64 (c:Int)) (127:Int))*2 ^ (min (Int.toNat (IntKind.wrap .u64 (IntKind.wrap .i64 ((7:Int)*(k:Int))))) (IntKind.bits .i64)))=((c % 128*2 ^ (7*k):Nat):Int):=by
 rw [wrap64 (n:=(c:Int)) (by omega) (by omega),iand127 c (by omega),wrap64 (n:=(7:Int)*(k:Int)) (by omega) (by omega),wrapU64 (by omega) (by omega)]
 have e:Int.toNat ((7:Int)*(k:Int))=7*k:=by omega
 have e2:min (7*k) (IntKind.bits .i64)=7*k:=Nat.min_eq_left (by show 7*k≤64;omega)
 rw [e,e2]
 have h1:c % 128*2 ^ (7*k)≤128*2 ^ 28:=Nat.mul_le_mul (by omega) (Nat.pow_le_pow_right (by decide) (by omega))
 have h2:(128:Nat)*2 ^ 28=34359738368:=by decide
 have e3:((c % 128:Nat):Int)*2 ^ (7*k)=((c % 128*2 ^ (7*k):Nat):Int):=by simp
 rw [e3]
 exact wrap64 (by omega) (by omega)
theorem acc7 (n c k:Nat) (hc:c≤255) (hk:k<5) (hn:n<2 ^ (7*k)):ior .i64 (n:Int) (IntKind.wrap .i64 ((iand .i64 (IntKind.wrap .i64 (c:Int)) (127:Int))*2 ^ (min (Int.toNat (IntKind.wrap .u64 (IntKind.wrap .i64 ((7:Int)*(k:Int))))) (IntKind.bits .i64))))=((n+c % 128*2 ^ (7*k):Nat):Int)∧n+c % 128*2 ^ (7*k)<2 ^ (7*(k+1))∧n+c % 128*2 ^ (7*k)<9223372036854775808:=by
 have h3:n+c % 128*2 ^ (7*k)<2 ^ (7*(k+1)):=by
  rw [show 7*(k+1)=7*k+7 by omega,Nat.pow_add,show (2:Nat) ^ 7=128 from rfl]
  have:c % 128*2 ^ (7*k)≤127*2 ^ (7*k):=Nat.mul_le_mul_right _ (by omega)
  omega
 have h4:(2:Nat) ^ (7*(k+1))≤2 ^ 35:=Nat.pow_le_pow_right (by decide) (by omega)
 have h5:(2:Nat) ^ 35=34359738368:=by decide
 refine ⟨?_,h3,by omega⟩
 rw [shl7 c k hc hk]
 exact iorAdd n (c % 128) (7*k) hn (by omega)
theorem okB.drop {b:List Int} (h:okB b) (i:Nat):okB (b.drop i):=fun c hc=>h c (List.mem_of_mem_drop hc)
theorem iGetNum_it {b:List Int} (hb:okB b) (hl:b.length≤1099511627776) {i:Nat} (hi:i<b.length) :
    (match pN 5 0 0 (b.drop i) with
      | some (n,l)=>it_iGetNum_0 b (i:Int) 0 0=(0,(n:Int),(i:Int)+l,true)
      | none=>it_iGetNum_0 b (i:Int) 0 0=(0,0,0,false)∨(it_iGetNum_0 b (i:Int) 0 0).1=1):=by
  refine itX_inv (fun v => ∃ k n : Nat, v = (b, ((i + k : Nat) : Int), (n : Int), (k : Int)) ∧ k ≤ 5 ∧ n < 2 ^ (7 * k) ∧ pN (5 - k) k n (b.drop (i + k)) = pN 5 0 0 (b.drop i)) (fun a => match pN 5 0 0 (b.drop i) with
      | some (n,l)=>a=(0,(n:Int),(i:Int)+l,true)
      | none=>a=(0,0,0,false)∨a.1=1) (fun v=>5 - v.2.2.2.toNat) ?_ ⟨0,0,rfl,by omega,by simp,rfl⟩ (by simp)
  rintro v ⟨k,n,rfl,hk,hn,hp⟩
  by_cases h5:k<5
  · have e1:decide ((k:Int)<5)=true:=decide_eq_true (by omega)
    by_cases hik:i+k<b.length
    · have e5:decide (((i+k:Nat):Int)<((b.length:Nat):Int))=true:=decide_eq_true (by omega)
      have e6:decide (0≤((i+k:Nat):Int)∧((i+k:Nat):Int)<((b.length:Nat):Int))=true:=decide_eq_true (by omega)
      have e7:decide (0≤(IntKind.wrap .u64 (IntKind.wrap .i64 ((7:Int)*(k:Int)))))=true:=by
        rw [wrap64 (n:=(7:Int)*(k:Int)) (by omega) (by omega),wrapU64 (by omega) (by omega)];exact decide_eq_true (by omega)
      obtain ⟨hc0,hc1⟩:=hb.getD (i+k)
      have hdc:=drop_cons hik
      obtain ⟨c,hc⟩:=Int.eq_ofNat_of_zero_le hc0
      rw [hc] at hc1 hdc
      have hc255:c≤255:=by omega
      obtain ⟨f1,f2,f3⟩:=acc7 n c k hc255 h5 hn
      have e8:IntKind.wrap .i64 (c:Int)=(c:Int):=wrap64 (by omega) (by omega)
      have e13:IntKind.wrap .i64 (((i+k:Nat):Int)+1)=((i+k+1:Nat):Int):=wrapU (i+k) (by omega)
      rw [hdc,show 5 - k=(4 - k)+1 by omega,pN] at hp
      simp only [Int.toNat_natCast] at hp
      simp only [ss_iGetNum_0,e1,e5,e6,e7,cond_true,Int.toNat_natCast,hc,f1,e13]
      simp only [e8]
      by_cases h127:c > 127
      · rw [if_pos (by omega)] at hp
        have e9:decide ((c:Int)<128)=false:=decide_eq_false (by omega)
        simp only [e9,cond_false]
        refine .inl ⟨_,rfl,⟨k+1,n+c % 128*2 ^ (7*k),?_,by omega,f2,?_⟩,?_⟩
        · rw [wrapU k (by omega)];rfl
        · rw [show 5 - (k+1)=4 - k by omega,← hp];rfl
        · rw [wrapU k (by omega)];simp;omega
      · rw [if_neg (by omega)] at hp
        have e9:decide ((c:Int)<128)=true:=decide_eq_true (by omega)
        have hcm:c % 128=c:=by omega
        rw [hcm] at f3 ⊢
        simp only [e9,cond_true]
        right
        by_cases hz:0<k∧c=0
        · rw [if_pos (by omega)] at hp
          have e10:decide ((k:Int) > 0)=true:=decide_eq_true (by omega)
          have e11:((c:Int)==0)=true:=by rw [beq_iff_eq];omega
          simp only [e10,e11,cond_true]
          exact ⟨_,rfl,by rw [← hp];exact .inl rfl⟩
        · by_cases hg:n+c*2 ^ (7*k) > 1000000000
          · rw [if_pos (.inr hg)] at hp
            have e12:decide (((n+c*2 ^ (7*k):Nat):Int) > 1000000000)=true:=decide_eq_true (by omega)
            simp only [e12,cond_true]
            refine ⟨(0,0,0,false),?_,by rw [← hp];exact .inl rfl⟩
            cases decide ((k:Int) > 0)<;>cases ((c:Int)==0)<;>rfl
          · rw [if_neg (fun h=>h.elim (fun h=>hz ⟨h.1,by omega⟩) hg)] at hp
            have e12:decide (((n+c*2 ^ (7*k):Nat):Int) > 1000000000)=false:=decide_eq_false (by omega)
            simp only [e12,cond_false]
            refine ⟨(0,((n+c*2 ^ (7*k):Nat):Int),((i+k+1:Nat):Int),true),?_,?_⟩
            · by_cases h0:0<k
              · have e10:decide ((k:Int) > 0)=true:=decide_eq_true (by omega)
                have e11:((c:Int)==0)=false:=by rw [beq_eq_false_iff_ne];intro h;exact hz ⟨h0,by omega⟩
                simp only [e10,e11,cond_true,cond_false]
              · have e10:decide ((k:Int) > 0)=false:=decide_eq_false (by omega)
                simp only [e10,cond_false]
                cases ((c:Int)==0)<;>rfl
            · rw [← hp];show _=_
              congr 3
    · have e5:decide (((i+k:Nat):Int)<((b.length:Nat):Int))=false:=decide_eq_false (by omega)
      rw [show 5 - k=(4 - k)+1 by omega,List.drop_eq_nil_of_le (by omega),pN] at hp
      simp only [ss_iGetNum_0,e1,e5,cond_true,cond_false]
      exact .inr ⟨_,rfl,by rw [← hp];exact .inr rfl⟩
  · obtain rfl:k=5:=by omega
    have e1:decide (((5:Nat):Int)<5)=false:=by decide
    simp only [ss_iGetNum_0,e1,cond_false]
    exact .inr ⟨_,rfl,by rw [← hp];exact .inr rfl⟩
theorem iGetNum_spec {b:List Int} (hb:okB b) (hl:b.length≤1099511627776) (a:Int):iGetNum b a=gN b a∧q_iGetNum b a=true:=by
 have hw:IntKind.wrap .i64 (((b.length:Nat):Int) - 1)=((b.length:Nat):Int) - 1:=wrap64 (by omega) (by omega)
 simp only [iGetNum,q_iGetNum,gN,iinRange,hw]
 by_cases h:0≤a∧a<b.length
 ·obtain ⟨i,rfl⟩:=Int.eq_ofNat_of_zero_le h.1
  have hi:i<b.length:=by omega
  have e1:decide ((i:Int) ≥ 0)=true:=decide_eq_true (by omega)
  have e2:decide ((i:Int)≤((b.length:Nat):Int) - 1)=true:=decide_eq_true (by omega)
  rw [if_pos h,Int.toNat_natCast]
  simp only [e1,e2,cond_true,Bool.not_true,cond_false]
  have:=iGetNum_it hb hl hi
  cases hp:pN 5 0 0 (b.drop i) with
  | some x =>
   rw [hp] at this
   simp only at this
   rw [this];exact ⟨rfl,rfl⟩
  | none =>
   rw [hp] at this
   rcases this with h1 | h1
   ·rw [h1];exact ⟨rfl,rfl⟩
   ·rw [h1];exact ⟨rfl,rfl⟩
 ·rw [if_neg h]
  have e:cond (decide (a ≥ 0)) (decide (a≤((b.length:Nat):Int) - 1)) false=false:=by
   by_cases h1:a ≥ 0
   ·rw [decide_eq_true h1,cond_true,decide_eq_false (by omega)]
   ·rw [decide_eq_false h1,cond_false]
  rw [e];exact ⟨rfl,rfl⟩
theorem wraps4 {len p n:Int} (hl:0≤len∧len≤1048576) (hp:0≤p∧p≤len) (hn:0≤n∧n≤1000000000):IntKind.wrap .i64 (len - p)=len - p∧IntKind.wrap .i64 (len - p - 4)=len - p - 4∧IntKind.wrap .i64 (p+n)=p+n∧IntKind.wrap .i64 (p+n+4)=p+n+4 :=
 ⟨wrap64 (by omega) (by omega),wrap64 (by omega) (by omega),wrap64 (by omega) (by omega),wrap64 (by omega) (by omega)⟩
theorem igetter_num_spec {b:List Int} (hb:okB b) (hl:b.length≤1048576) (a:Int) (bad:Bool):q_igetter_num b a bad=true∧igetter_num b a bad=cond bad ((0:Int),b,a,true) (cond (gN b a).2.2 ((gN b a).1,b,(gN b a).2.1,false) ((0:Int),b,a,true)):=by
 obtain ⟨h1,h2⟩:=iGetNum_spec hb (by omega) a
 simp only [igetter_num,q_igetter_num,h1,h2]
 cases bad<;>cases (gN b a).2.2<;>simp
theorem strInts_strB {l:List Int} (h:okB l):strInts (strB l)=l:=by
 simp only [strB,strInts,List.map_map,List.toList_toArray]
 conv=>rhs;rw [← List.map_id l]
 apply List.map_congr_left
 intro n hn
 obtain ⟨h0,h1⟩:=h n hn
 simp only [Function.comp_apply,UInt8.toNat_ofNat', id_eq]
 omega
theorem bytesEqual_ok {a b:List Int} (ha:okB a) (hb:okB b):bytes_Equal a b=true↔a=b:=by
 have e:bytes_Equal a b=((strB a).toList==(strB b).toList):=rfl
 rw [e,beq_iff_eq]
 constructor
 ·intro h
  have h2:strB a=strB b:=by
   have h3:=congrArg (fun l=>(⟨l.toArray⟩:ByteArray)) h
   have k:∀ s:ByteArray,(⟨s.toList.toArray⟩:ByteArray)=s:=fun s=>by rw [ByteArray.toList_eq]
   simpa only [k] using h3
  rw [← strInts_strB ha,← strInts_strB hb,h2]
 ·rintro rfl;rfl
/-- A text at a place. -/
noncomputable def gT (b:List Int) (a:Int):ByteArray×Int×Bool :=
 if (gN b a).2.2=true∧(gN b a).1≤(b.length:Int) - (gN b a).2.1 then (strB ((b.drop (gN b a).2.1.toNat).take (gN b a).1.toNat),(gN b a).2.1+(gN b a).1,true) else (⟨#[]⟩,0,false)
/-- An op at a place. -/
noncomputable def gO (b:List Int) (p:Int):(Int×ByteArray×ByteArray)×Int×Bool :=
 (((gN b p).1,(gT b (gN b p).2.1).1,(gT b (gT b (gN b p).2.1).2.1).1),(gT b (gT b (gN b p).2.1).2.1).2.1,(gN b p).2.2&&((gT b (gN b p).2.1).2.2&&(gT b (gT b (gN b p).2.1).2.1).2.2))
/-- So many ops, one behind the other. -/
noncomputable def pO:Nat→List Int→Int→Lq1→Option (Lq1×Int)
 | 0,_,p,acc=>some (acc,p)
 | k+1,b,p,acc=>cond (gO b p).2.2 (pO k b (gO b p).2.1 (acc++[(gO b p).1])) none
/-- All ops by the getter. -/
noncomputable def gOpsI (b:List Int) (a:Int):Option (Lq1×Int) :=
 cond (gN b a).2.2 (cond (decide ((gN b a).1≤8)) (pO (gN b a).1.toNat b (gN b a).2.1 []) none) none
theorem pN_inv:∀ (j k n:Nat) (l:List Int) (m len:Nat),okB l→k+j≤4→pN (j+1) k n l=some (m,len) →
  ∃ (x:Nat) (post:List Int),l=hiB j x++post∧m=n+x*2 ^ (7*k)∧len=k+(hiB j x).length∧(0<k→0<x)∧x<128 ^ (j+1)∧m≤1000000000:=by
 intro j
 induction j with
 | zero =>
  intro k n l m len hb hk h
  cases l with
  | nil=>simp [pN] at h
  | cons c r =>
   obtain ⟨hc,_⟩:=hb c (by simp)
   obtain ⟨x,rfl⟩:=Int.eq_ofNat_of_zero_le hc
   simp only [pN,Int.toNat_natCast] at h
   split at h
   ·cases h
   ·split at h
    ·cases h
    ·simp only [Option.some.injEq,Prod.mk.injEq] at h
     obtain ⟨rfl,rfl⟩:=h
     exact ⟨x,r,by rw [hiB_stop 0 x (by omega)];rfl,rfl,by rw [hiB_stop 0 x (by omega)];rfl,by omega,by simp;omega,by omega⟩
 | succ j ih =>
  intro k n l m len hb hk h
  cases l with
  | nil=>simp [pN] at h
  | cons c r =>
   obtain ⟨hc,hc'⟩:=hb c (by simp)
   obtain ⟨y,rfl⟩:=Int.eq_ofNat_of_zero_le hc
   rw [pN] at h
   simp only [Int.toNat_natCast] at h
   split at h
   ·rename_i hgt
    obtain ⟨x,post,e1,e2,e3,e4,e5,e6⟩:=ih (k+1) (n+y % 128*2 ^ (7*k)) r m len (fun c hc=>hb c (by simp [hc])) (by omega) h
    have hx0:=e4 (by omega)
    have hxb:y % 128+128*x<128 ^ (j+1+1):=by rw [Nat.pow_succ];omega
    have hxs:y % 128+128*x<9223372036854775808:=by
     have:(128:Nat) ^ (j+1+1)≤128 ^ 5:=Nat.pow_le_pow_right (by decide) (by omega)
     have h5:(128:Nat) ^ 5=34359738368:=by decide
     omega
    have hst:=hiB_step j (y % 128+128*x) (by omega) hxs
    have q1:(y % 128+128*x) / 128=x:=by omega
    have q2:128+(y % 128+128*x) % 128=y:=by omega
    rw [q1,q2] at hst
    refine ⟨y % 128+128*x,post,by rw [hst,e1];rfl,?_,by rw [hst,e3];simp;omega,fun _=>by omega,hxb,e6⟩
    rw [e2,show 7*(k+1)=7*k+7 by omega,Nat.pow_add,show (2:Nat) ^ 7=128 from rfl,Nat.add_mul,Nat.mul_comm (2 ^ (7*k)) 128,← Nat.mul_assoc,Nat.mul_comm x 128]
    omega
   ·rename_i hgt
    split at h
    ·cases h
    ·simp only [Option.some.injEq,Prod.mk.injEq] at h
     obtain ⟨rfl,rfl⟩:=h
     refine ⟨y,r,by rw [hiB_stop _ y (by omega)];rfl,rfl,by rw [hiB_stop _ y (by omega)];rfl,by omega,?_,by omega⟩
     have:(128:Nat) ^ 1≤128 ^ (j+1+1):=Nat.pow_le_pow_right (by decide) (by omega)
     omega
theorem pN_of {l:List Int} (hb:okB l) {m len:Nat} (h:pN 5 0 0 l=some (m,len)):∃ post,l=numB (m:Int)++post∧len=(numB (m:Int)).length∧m≤1000000000:=by
 obtain ⟨x,post,e1,e2,e3,e4,e5,e6⟩:=pN_inv 4 0 0 l m len hb (by omega) h
 have:x=m:=by simp at e2;omega
 subst this
 exact ⟨post,by rw [numB_hi];exact e1,by rw [numB_hi];omega,e6⟩
theorem okB.take {b:List Int} (h:okB b) (i:Nat):okB (b.take i):=fun c hc=>h c (List.mem_of_mem_take hc)
theorem gN_of {b:List Int} (hb:okB b) {a n p:Int} (h:gN b a=(n,p,true)):∃ pre post,b=pre++(numB n++post)∧a=pre.length∧p=a+(numB n).length∧0≤n∧n≤1000000000:=by
 simp only [gN] at h
 split at h
 ·rename_i hc
  split at h
  ·rename_i m l hp
   simp only [Prod.mk.injEq] at h
   obtain ⟨rfl,rfl,_⟩:=h
   obtain ⟨post,e1,e2,e3⟩:=pN_of (hb.drop _) hp
   refine ⟨b.take a.toNat,post,?_,by rw [List.length_take];omega,by rw [e2],by omega,by omega⟩
   rw [← e1,List.take_append_drop]
  ·cases h
 ·cases h
theorem gN_range {b:List Int} (hb:okB b) {a:Int} (h:(gN b a).2.2=true):0≤a∧a<(gN b a).2.1∧(gN b a).2.1≤b.length∧0≤(gN b a).1∧(gN b a).1≤1000000000:=by
 obtain ⟨pre,post,e1,e2,e3,e4,e5⟩:=gN_of hb (a:=a) (n:=(gN b a).1) (p:=(gN b a).2.1) (by rw [← h])
 have hlen:=congrArg List.length e1
 simp only [List.length_append] at hlen
 have:1≤(numB (gN b a).1).length:=by simp [numB]
 omega
/-- The two ways a text is read. -/
theorem gT_eq {b:List Int} (hb:okB b) (hl:b.length≤1099511627776) (a:Int) :
  gT b a=(cond (!((gN b a).2.2)) ((⟨#[]⟩:ByteArray),(0:Int),false) (cond (decide (((gN b a).1) > (IntKind.wrap .i64 (((b.length:Nat):Int) - ((gN b a).2.1))))) ((⟨#[]⟩:ByteArray),(0:Int),false) ((⟨(((b.take (IntKind.wrap .i64 (((gN b a).2.1)+((gN b a).1))).toNat).drop ((gN b a).2.1).toNat).map fun n=>UInt8.ofNat n.toNat).toArray⟩:ByteArray),IntKind.wrap .i64 (((gN b a).2.1)+((gN b a).1)),true))) ∧
  (cond (!((gN b a).2.2)) true (cond (decide (((gN b a).1) > (IntKind.wrap .i64 (((b.length:Nat):Int) - ((gN b a).2.1))))) true (decide (0≤((gN b a).2.1)∧((gN b a).2.1)≤(IntKind.wrap .i64 (((gN b a).2.1)+((gN b a).1)))∧(IntKind.wrap .i64 (((gN b a).2.1)+((gN b a).1)))≤((b.length:Nat):Int)))))=true:=by
 cases h:(gN b a).2.2 with
 | false=>simp only [gT,h,Bool.not_false,cond_true];exact ⟨by rw [if_neg (by simp)],trivial⟩
 | true =>
  obtain ⟨r1,r2,r3,r4,r5⟩:=gN_range hb h
  have w1:IntKind.wrap .i64 (((b.length:Nat):Int) - ((gN b a).2.1))=((b.length:Nat):Int) - (gN b a).2.1:=wrap64 (by omega) (by omega)
  have w2:IntKind.wrap .i64 (((gN b a).2.1)+((gN b a).1))=(gN b a).2.1+(gN b a).1:=wrap64 (by omega) (by omega)
  simp only [gT,h,Bool.not_true,cond_false,w1,w2]
  by_cases hc:(gN b a).1≤(b.length:Int) - (gN b a).2.1
  ·rw [if_pos ⟨trivial,hc⟩,decide_eq_false (by omega),cond_false,cond_false]
   refine ⟨?_,decide_eq_true (by omega)⟩
   simp only [strB]
   congr 4
   have:((gN b a).2.1+(gN b a).1).toNat=(gN b a).2.1.toNat+(gN b a).1.toNat:=by omega
   rw [this,List.take_drop]
  ·rw [if_neg (fun h=>hc h.2),decide_eq_true (by omega),cond_true,cond_true]
   exact ⟨rfl,rfl⟩
theorem iGetText_spec {b:List Int} (hb:okB b) (hl:b.length≤1099511627776) (a:Int):iGetText b a=gT b a∧q_iGetText b a=true:=by
 obtain ⟨h1,h2⟩:=iGetNum_spec hb hl a
 obtain ⟨h3,h4⟩:=gT_eq hb hl a
 rw [h3]
 simp only [iGetText,q_iGetText,h1,h2,Bool.true_and]
 exact ⟨trivial,h4⟩
theorem igetter_text_spec {b:List Int} (hb:okB b) (hl:b.length≤1048576) (a:Int) (bad:Bool):q_igetter_text b a bad=true∧igetter_text b a bad=cond bad ((⟨#[]⟩:ByteArray),b,a,true) (cond (gT b a).2.2 ((gT b a).1,b,(gT b a).2.1,false) ((⟨#[]⟩:ByteArray),b,a,true)):=by
 obtain ⟨h1,h2⟩:=iGetText_spec hb (by omega) a
 simp only [igetter_text,q_igetter_text,h1,h2]
 cases bad<;>cases (gT b a).2.2<;>simp
theorem gT_size {b:List Int} (hb:okB b) (a:Int):(gT b a).1.size≤b.length:=by
 simp only [gT]
 split
 ·rw [strB_size,List.length_take,List.length_drop];omega
 ·exact Nat.zero_le _
/-- One op by the getter. -/
theorem igetter_one {b:List Int} (hb:okB b) (hl:b.length≤1048576) (a:Int) (bad:Bool) :
  q_igetter_num b a bad=true∧q_igetter_text (igetter_num b a bad).2.1 (igetter_num b a bad).2.2.1 (igetter_num b a bad).2.2.2=true ∧
  q_igetter_text (k1_igetter_ops b a bad).2.1 (k1_igetter_ops b a bad).2.2.1 (k1_igetter_ops b a bad).2.2.2=true ∧
  (k2_igetter_ops b a bad).2.1=b∧(k1_igetter_ops b a bad).1.size≤b.length∧(k2_igetter_ops b a bad).1.size≤b.length ∧
  (bad=true→(k2_igetter_ops b a bad).2.2.2=true) ∧
  (bad=false→(k2_igetter_ops b a bad).2.2.2=!(gO b a).2.2) ∧
  (bad=false→(gO b a).2.2=true→(k2_igetter_ops b a bad).2.2.1=(gO b a).2.1∧((igetter_num b a bad).1,(k1_igetter_ops b a bad).1,(k2_igetter_ops b a bad).1)=(gO b a).1):=by
 obtain ⟨n1,n2⟩:=igetter_num_spec hb hl a bad
 have nb:(igetter_num b a bad).2.1=b:=by rw [n2];cases bad<;>cases (gN b a).2.2<;>rfl
 have t:=fun (x:Int) (y:Bool)=>igetter_text_spec hb hl x y
 have tb:∀ x y,(igetter_text b x y).2.1=b:=fun x y=>by rw [(t x y).2];cases y<;>cases (gT b x).2.2<;>rfl
 have ts:∀ x y,(igetter_text b x y).1.size≤b.length:=fun x y=>by
  rw [(t x y).2]
  cases y with
  | true=>exact Nat.zero_le _
  | false=>cases (gT b x).2.2 with
   | true=>exact gT_size hb x
   | false=>exact Nat.zero_le _
 refine ⟨n1,by rw [nb];exact (t _ _).1,?_,?_,?_,?_,?_,?_,?_⟩
 ·simp only [k1_igetter_ops,nb,tb];exact (t _ _).1
 ·simp only [k2_igetter_ops,k1_igetter_ops,nb,tb]
 ·simp only [k1_igetter_ops,nb];exact ts _ _
 ·simp only [k2_igetter_ops,k1_igetter_ops,nb,tb];exact ts _ _
 ·rintro rfl
  simp only [k2_igetter_ops,k1_igetter_ops,nb,tb]
  simp only [n2,t,cond_true]
 ·rintro rfl
  simp only [k2_igetter_ops,k1_igetter_ops,nb,tb]
  simp only [n2,cond_false,gO]
  cases h1:(gN b a).2.2 with
  | false=>simp only [cond_false,t,cond_true];rfl
  | true =>
   simp only [cond_true,t,cond_false]
   cases h2:(gT b (gN b a).2.1).2.2 with
   | false=>simp only [cond_false,cond_true];rfl
   | true =>
    simp only [cond_true,cond_false]
    cases h3:(gT b (gT b (gN b a).2.1).2.1).2.2<;>rfl
 ·rintro rfl hc
  simp only [k2_igetter_ops,k1_igetter_ops,nb,tb]
  simp only [gO,Bool.and_eq_true] at hc ⊢
  obtain ⟨h1,h2,h3⟩:=hc
  simp only [n2,cond_false,h1,cond_true,t,h2,h3]
  exact ⟨trivial,trivial⟩
theorem igetter_ops_it {b:List Int} (hb:okB b) (hl:b.length≤1048576) (n p:Int) (bad:Bool) (hn:n≤8) (h0:0≤n) :
    (it_igetter_ops_0 n 0 b p bad []).1=0∧(it_igetter_ops_0 n 0 b p bad []).2.1=b∧okOps (it_igetter_ops_0 n 0 b p bad []).2.2.2.2=true∧(match cond bad none (pO n.toNat b p []) with
      | some (l,q)=>it_igetter_ops_0 n 0 b p bad []=(0,b,q,false,l)
      | none=>(it_igetter_ops_0 n 0 b p bad []).2.2.2.1=true):=by
  refine itX_inv (fun v : V_igetter_ops_0 => ∃ (i : Nat) (p' : Int) (bd : Bool) (l : Lq1), v = (n, (i : Int), b, p', bd, l) ∧ (i : Int) ≤ n ∧ l.length = i ∧ okOps l = true ∧ cond bd none (pO (n.toNat - i) b p' l) = cond bad none (pO n.toNat b p [])) (fun a : A_igetter_ops_0 => a.1 = 0 ∧ a.2.1 = b ∧ okOps a.2.2.2.2 = true ∧ (match cond bad none (pO n.toNat b p []) with
      | some (l,q)=>a=(0,b,q,false,l)
      | none=>a.2.2.2.1=true)) (fun v=>8 - v.2.1.toNat) ?_ ⟨0,p,bad,[],rfl,h0,rfl,rfl,rfl⟩ (by simp)
  rintro v ⟨i,p', bd,l,rfl,hi,hll,hok,hp⟩
  by_cases h5:(i:Int)<n
  · have e1:decide ((i:Int)<n)=true:=decide_eq_true h5
    obtain ⟨q1,q2,q3,q4,q5,q6,q7,q8,q9⟩:=igetter_one hb hl p' bd
    have e2:∀ o:Int×ByteArray×ByteArray,decide ((l.length+[o].length)*40≤MAXB)=true:=fun o=>decide_eq_true (by simp only [List.length_singleton,MAXB];omega)
    simp only [ss_igetter_ops_0,e1,q1,q2,q3,q4,e2,cond_true]
    refine .inl ⟨_,rfl,⟨i+1,_,_,l++[((igetter_num b p' bd).1,(k1_igetter_ops b p' bd).1,(k2_igetter_ops b p' bd).1)],by rw [wrapU i (by omega)],by omega,by simp [hll],?_,?_⟩,?_⟩
    · simp only [okOps,okL,List.length_append,List.length_singleton,List.all_append,List.all_cons,List.all_nil,Bool.and_true,Bool.and_eq_true,decide_eq_true_eq] at hok ⊢
      exact ⟨by omega,hok.2,by simp only [okOp,okS,Bool.and_eq_true,decide_eq_true_eq];omega⟩
    · rw [← hp]
      cases bd with
      | true=>rw [q7 rfl];rfl
      | false =>
        rw [q8 rfl,show n.toNat - i=(n.toNat - (i+1))+1 by omega,pO]
        cases hc:(gO b p').2.2 with
        | false=>rfl
        | true =>
          obtain ⟨z1,z2⟩:=q9 rfl hc
          rw [z1,z2];rfl
    · rw [wrapU i (by omega)];simp;omega
  · have e1:decide ((i:Int)<n)=false:=decide_eq_false h5
    have e3:n.toNat - i=0:=by omega
    rw [e3,pO] at hp
    simp only [ss_igetter_ops_0,e1,cond_false]
    refine .inr ⟨_,rfl,rfl,rfl,hok,?_⟩
    rw [← hp]
    cases bd<;>rfl
theorem igetter_ops_spec {b:List Int} (hb:okB b) (hl:b.length≤1048576) (a:Int) (bad:Bool):q_igetter_ops b a bad=true∧(igetter_ops b a bad).1=b∧okOps (igetter_ops b a bad).2.2.2=true ∧
  (match cond bad none (gOpsI b a) with
   | some (l,q)=>igetter_ops b a bad=(b,q,false,l)
   | none=>(igetter_ops b a bad).2.2.1=true):=by
 obtain ⟨n1,n2⟩:=igetter_num_spec hb hl a bad
 have nb:(igetter_num b a bad).2.1=b:=by rw [n2];cases bad<;>cases (gN b a).2.2<;>rfl
 have nr:0≤(igetter_num b a bad).1:=by
  rw [n2]
  cases bad with
  | true=>exact Int.le_refl _
  | false=>cases h:(gN b a).2.2 with
   | true=>exact (gN_range hb h).2.2.2.1
   | false=>exact Int.le_refl _
 simp only [igetter_ops,q_igetter_ops,k3_igetter_ops,n1,nb,Bool.true_and]
 by_cases h8:(igetter_num b a bad).1≤8
 ·have e1:decide ((igetter_num b a bad).1 > 8)=false:=decide_eq_false (by omega)
  obtain ⟨i1,i2,i3,i4⟩:=igetter_ops_it hb hl (igetter_num b a bad).1 (igetter_num b a bad).2.2.1 (igetter_num b a bad).2.2.2 h8 nr
  simp only [e1,cond_false,i1,i2,i3]
  refine ⟨rfl,trivial,trivial,?_⟩
  revert i4
  rw [n2]
  cases bad with
  | true=>simp
  | false =>
   simp only [cond_false,gOpsI]
   cases h:(gN b a).2.2 with
   | false=>simp
   | true =>
    have h9:decide ((gN b a).1≤8)=true:=by rw [n2] at h8;simp only [cond_false,h,cond_true] at h8;exact decide_eq_true h8
    simp only [cond_true,h9,cond_false]
    cases pO (gN b a).1.toNat b (gN b a).2.1 [] with
    | none=>exact id
    | some x=>intro i4;simp only at i4 ⊢;rw [i4]
 ·have e1:decide ((igetter_num b a bad).1 > 8)=true:=decide_eq_true (by omega)
  simp only [e1,cond_true]
  refine ⟨trivial,trivial,rfl,?_⟩
  cases bad with
  | true=>simp
  | false =>
   simp only [cond_false,gOpsI]
   rw [n2] at h8
   cases h:(gN b a).2.2 with
   | false=>rw [h] at h8;simp at h8
   | true =>
    simp only [cond_false,h,cond_true] at h8
    simp only [cond_true,decide_eq_false h8,cond_false]
theorem strB_ints (s:ByteArray):strB (strInts s)=s:=by
 cases s with
 | mk a =>
  simp only [strB,strInts,List.map_map]
  congr 1
  apply Array.toList_inj.1
  simp only [List.toList_toArray]
  conv=>rhs;rw [← List.map_id a.toList]
  apply List.map_congr_left
  intro b _
  simp
theorem gT_text {s:ByteArray} (h:s.size≤1000000000) (pre post:List Int):gT (pre++(textB s++post)) (pre.length:Int)=(s,(pre.length:Int)+(textB s).length,true):=by
 have h1:=gN_num (n:=(s.size:Int)) (by omega) (by omega) pre (strInts s++post)
 have e:pre++(textB s++post)=pre++(numB (s.size:Int)++(strInts s++post)):=by simp only [textB,List.append_assoc]
 rw [e]
 simp only [gT,h1]
 have hs:=strInts_len s
 rw [if_pos ⟨trivial,by simp only [List.length_append];omega⟩]
 have e2:((pre.length:Int)+((numB (s.size:Int)).length:Int)).toNat=pre.length+(numB (s.size:Int)).length:=by omega
 rw [e2,Int.toNat_natCast,← List.append_assoc,← List.length_append,List.drop_left,List.take_left' hs,strB_ints]
 congr 2
 simp only [textB,List.length_append];omega
theorem gO_op {o:Int×ByteArray×ByteArray} (h:fitO o) (pre post:List Int):gO (pre++(opB o++post)) (pre.length:Int)=(o,(pre.length:Int)+(opB o).length,true):=by
 obtain ⟨h0,h1,h2,h3⟩:=h
 have e:opB o=numB o.1++(textB o.2.1++textB o.2.2):=by simp only [opB,clampN_of h0 h1]
 have q1:=gN_num h0 h1 pre (textB o.2.1++(textB o.2.2++post))
 have q2:=gT_text h2 (pre++numB o.1) (textB o.2.2++post)
 have q3:=gT_text h3 (pre++numB o.1++textB o.2.1) post
 have e1:pre++(opB o++post)=pre++(numB o.1++(textB o.2.1++(textB o.2.2++post))):=by simp only [e,List.append_assoc]
 have e2:pre++(opB o++post)=pre++numB o.1++(textB o.2.1++(textB o.2.2++post)):=by simp only [e,List.append_assoc]
 have e3:pre++(opB o++post)=pre++numB o.1++textB o.2.1++(textB o.2.2++post):=by simp only [e,List.append_assoc]
 rw [← e1] at q1;rw [← e2] at q2;rw [← e3] at q3
 have l1:((pre++numB o.1).length:Int)=(pre.length:Int)+(numB o.1).length:=by simp
 have l2:((pre++numB o.1++textB o.2.1).length:Int)=((pre++numB o.1).length:Int)+(textB o.2.1).length:=by simp;omega
 rw [l1] at q2;rw [l2,l1] at q3
 simp only [gO,q1,q2,q3,Bool.and_true]
 congr 2
 simp only [e,List.length_append];omega
theorem pO_ops:∀ (l:Lq1) (pre post:List Int) (acc:Lq1),(∀ o∈l,fitO o)→pO l.length (pre++((l.map opB).flatten++post)) (pre.length:Int) acc=some (acc++l,(pre.length:Int)+(l.map opB).flatten.length):=by
 intro l
 induction l with
 | nil=>intro pre post acc _;simp [pO]
 | cons o l ih =>
  intro pre post acc h
  have h1:=gO_op (h o (by simp)) pre ((l.map opB).flatten++post)
  have h2:=ih (pre++opB o) post (acc++[o]) (fun x hx=>h x (by simp [hx]))
  have e:pre++(((o::l).map opB).flatten++post)=pre++(opB o++((l.map opB).flatten++post)):=by simp
  have e2:pre++opB o++((l.map opB).flatten++post)=pre++(opB o++((l.map opB).flatten++post)):=by simp
  rw [e2,List.length_append,Int.natCast_add] at h2
  rw [e]
  simp only [List.length_cons,pO,h1,cond_true,h2]
  simp only [List.append_assoc,List.singleton_append,List.map_cons,List.flatten_cons,List.length_append,Int.natCast_add]
  congr 2;omega
theorem pO_put {l:Lq1} (h:sOpsOk l=true) (pre post:List Int):gN (pre++(opsB l++post)) (pre.length:Int)=((l.length:Int),((pre++numB (l.length:Int)).length:Int),true)∧pO l.length (pre++(opsB l++post)) ((pre++numB (l.length:Int)).length:Int) []=some (l,(((pre++opsB l).length:Nat):Int)):=by
 obtain ⟨a1,_⟩:=opsOk_small h
 have e:pre++(opsB l++post)=pre++(numB (l.length:Int)++((l.map opB).flatten++post)):=by simp only [opsB,List.append_assoc]
 have h1:=gN_num (n:=(l.length:Int)) (by omega) (by omega) pre ((l.map opB).flatten++post)
 have h2:=pO_ops l (pre++numB (l.length:Int)) post [] (opsOk_fit h)
 rw [List.append_assoc] at h2
 rw [e]
 refine ⟨?_,?_⟩
 ·rw [h1,List.length_append,Int.natCast_add]
 ·rw [h2];simp only [List.nil_append,opsB,List.length_append,Int.natCast_add];congr 2;omega
theorem iGetRec_put {k t:Int} {l:Lq1} (h:sRecOk k t l=true) {b pre post:List Int} (e:b=pre++(recB k t l++post)) (hb:okB b) (hl:b.length≤1048576):iGetRec b (pre.length:Int)=(k,t,((pre.length+(recB k t l).length:Nat):Int),true,l):=by
 obtain ⟨a1,a2,a3,a4,a7,a8,ho⟩:=recOk_is h
 obtain ⟨b1,b2,b3⟩:=recBody_ok h
 obtain ⟨_,d4,d5,d6⟩:=idig_ok (recBody k t l) (by omega)
 obtain ⟨n1,n2,n3,hlen⟩:=recHead h e
 obtain ⟨c1,c2,c3⟩:=recCuts h e hl
 have g1:=(iGetNum_spec hb (by omega) (pre.length:Int)).1
 have ln:=numB_len ((recBody k t l).length:Int)
 obtain ⟨w1,w2,w3,w4⟩:=wraps4 (len:=((b.length:Nat):Int)) (p:=(pre.length:Int)+((numB ((recBody k t l).length:Int)).length:Int)) (n:=((recBody k t l).length:Int)) ⟨by omega,by omega⟩ ⟨by omega,by omega⟩ ⟨by omega,by omega⟩
 have hd:decide (((recBody k t l).length:Int) > ((b.length:Nat):Int) - ((pre.length:Int)+((numB ((recBody k t l).length:Int)).length:Int)) - 4)=false:=decide_eq_false (by omega)
 have hend:(pre.length:Int)+((numB ((recBody k t l).length:Int)).length:Int)+((recBody k t l).length:Int)+4=((pre.length+(recB k t l).length:Nat):Int):=by simp only [recB,List.length_append,d5,Int.natCast_add];omega
 have gn:=fun a bad=>(igetter_num_spec b1 (by omega) a bad).2
 have hw:iRecOk k t l=true:=by rw [← recOk_same];exact h
 have he:bytes_Equal (iputRec k t l) (recB k t l)=true:=by rw [(iputRec_eq h).2];exact (bytesEqual_ok (recB_ok h).1 (recB_ok h).1).2 rfl
 simp only [iGetRec,k1_iGetRec,k2_iGetRec,k3_iGetRec,k4_iGetRec,k5_iGetRec,k6_iGetRec,k7_iGetRec,k8_iGetRec,g1,n1,w1,w2,w3,w4,hd,c1,c3,gn,n2,n3,Bool.not_true,cond_false,cond_true]
 cases hk:(k==1) with
 | true =>
  have hO:=a7 (eq_of_beq hk)
  have hlo:=(opsOk_small hO).1
  obtain ⟨_,_,_,o4⟩:=igetter_ops_spec b1 (by omega) ((numB k++numB t).length:Int) false
  have eb:recBody k t l=(numB k++numB t)++(opsB l++[]):=by simp only [recBody,hk,cond_true,List.append_assoc,List.append_nil]
  obtain ⟨p1,p2⟩:=pO_put hO (numB k++numB t) []
  rw [← eb] at p1 p2
  have e8:decide ((l.length:Int)≤8)=true:=decide_eq_true (by omega)
  simp only [cond_false,gOpsI,p1,cond_true,e8,Int.toNat_natCast,p2] at o4
  simp only [cond_true,o4,cond_false,hw,Bool.not_true,he,hend]
 | false =>
  have hl0:l=[]:=a8 (by simpa using hk)
  subst hl0
  simp only [cond_false,hw,Bool.not_true,he,hend]
theorem okB.right {a b:List Int} (h:okB (a++b)):okB b:=fun c hc=>h c (List.mem_append_right _ hc)
/-- A record's frame: a number, so many bytes, four more. -/
theorem getHead {b:List Int} (hb:okB b) (hl:b.length≤1048576) {a n p:Int} (h:gN b a=(n,p,true)) (hn:¬ n > (b.length:Int) - p - 4):∃ pre body s4 rest:List Int,b=pre++(numB n++(body++(s4++rest)))∧a=pre.length∧p=a+(numB n).length∧(body.length:Int)=n∧s4.length=4∧n≤1000000000∧0≤n∧okB body∧okB s4:=by
 obtain ⟨pre,post,e,ea,ep,h0,h1⟩:=gN_of hb h
 have hlen:=congrArg List.length e
 simp only [List.length_append] at hlen
 have hp:okB post:=okB.right (okB.right (by rw [← e];exact hb))
 refine ⟨pre,post.take n.toNat,(post.drop n.toNat).take 4,(post.drop n.toNat).drop 4,by rw [List.take_append_drop,List.take_append_drop];exact e,ea,ep,?_,?_,h1,h0,hp.take _,(hp.drop _).take _⟩
 ·rw [List.length_take];omega
 ·rw [List.length_take,List.length_drop];omega
theorem iGetRec_of {b:List Int} (hb:okB b) (hl:b.length≤1048576) (a:Int):q_iGetRec b a=true∧((∃ k t l pre post,iGetRec b a=(k,t,((pre.length+(recB k t l).length:Nat):Int),true,l)∧sRecOk k t l=true∧b=pre++(recB k t l++post)∧a=(pre.length:Int))∨iGetRec b a=(0,0,a,false,[])):=by
 obtain ⟨g1,g2⟩:=iGetNum_spec hb (by omega) a
 simp only [iGetRec,q_iGetRec,g1,g2,k1_iGetRec,k2_iGetRec,k3_iGetRec,k4_iGetRec,k5_iGetRec,k6_iGetRec,k7_iGetRec,k8_iGetRec,Bool.true_and]
 cases h1:(gN b a).2.2 with
 | false=>exact ⟨rfl,.inr rfl⟩
 | true =>
 obtain ⟨r1,r2,r3,r4,r5⟩:=gN_range hb h1
 generalize eg:gN b a=g at *
 obtain ⟨n,p,o⟩:=g
 simp only at h1 r1 r2 r3 r4 r5 ⊢
 subst h1
 obtain ⟨w1,w2,w3,w4⟩:=wraps4 (len:=((b.length:Nat):Int)) (p:=p) (n:=n) ⟨by omega,by omega⟩ ⟨by omega,by omega⟩ ⟨by omega,by omega⟩
 simp only [w1,w2,w3,w4,Bool.not_true,cond_false]
 by_cases hn:n > ((b.length:Nat):Int) - p - 4
 ·simp only [decide_eq_true hn,cond_true];exact ⟨trivial,.inr trivial⟩
 simp only [decide_eq_false hn,cond_false]
 obtain ⟨pre,body,s4,rest,e,ea,ep,el,e4,n1,n0,hB,h4⟩:=getHead hb hl eg hn
 have hlen:=congrArg List.length e
 simp only [List.length_append] at hlen
 have c1:(b.take (p+n).toNat).drop p.toNat=body:=cutL (x:=pre++numB n) (z:=s4++rest) (by rw [e];simp only [List.append_assoc]) (by rw [List.length_append];omega) (by rw [List.length_append];omega)
 have c3:(b.take (p+n+4).toNat).drop a.toNat=numB n++(body++s4):=cutL (x:=pre) (z:=rest) (by rw [e];simp only [List.append_assoc]) ea (by simp only [List.length_append];omega)
 have hlB:body.length≤1048576:=by omega
 have gn:=fun a bad=>igetter_num_spec hB hlB a bad
 have nb:∀ a bad,(igetter_num body a bad).2.1=body:=fun a bad=>by rw [(gn a bad).2];cases bad<;>cases (gN body a).2.2<;>rfl
 have gq:∀ a bad,q_igetter_num body a bad=true:=fun a bad=>(gn a bad).1
 have go:=fun a bad=>igetter_ops_spec hB hlB a bad
 have m1:decide (0≤p∧p≤p+n∧p+n≤((b.length:Nat):Int))=true:=decide_eq_true (by omega)
 have m2:decide (0≤a∧a≤p+n+4∧p+n+4≤((b.length:Nat):Int))=true:=decide_eq_true (by omega)
 have h3B:okB (numB n++(body++s4)):=(numB_ok n0 n1).app (hB.app h4)
 have fin:∀ k t l,sRecOk k t l=true→bytes_Equal (iputRec k t l) (numB n++(body++s4))=true→∃ k' t' l' pre' post', (k,t,p+n+4,true,l)=(k', t', ((pre'.length+(recB k' t' l').length:Nat):Int),true,l')∧sRecOk k' t' l'=true∧b=pre'++(recB k' t' l'++post')∧a=(pre'.length:Int):=by
  intro k t l hw he
  obtain ⟨_,i2⟩:=iputRec_eq hw
  rw [i2] at he
  have he:=(bytesEqual_ok (recB_ok hw).1 h3B).1 he
  have hE:p+n+4=((pre.length+(recB k t l).length:Nat):Int):=by rw [he];simp only [List.length_append,e4];omega
  refine ⟨k,t,l,pre,rest,by rw [hE],hw,?_,ea⟩
  rw [he,e];simp only [List.append_assoc]
 simp only [c1,c3,m1,m2,nb,gq,Bool.true_and]
 generalize igetter_num body 0 false=x1
 generalize igetter_num body x1.2.2.1 x1.2.2.2=x2
 cases hk:(x1.1==1) with
 | true =>
  obtain ⟨o1,o2,o3,o4⟩:=go x2.2.2.1 x2.2.2.2
  simp only [cond_true,o1,Bool.true_and]
  cases hbad:(igetter_ops body x2.2.2.1 x2.2.2.2).2.2.1 with
  | true=>exact ⟨rfl,.inr rfl⟩
  | false =>
   simp only [cond_false,q_iRecOk,o3,Bool.true_and]
   cases hw:iRecOk x1.1 x2.1 (igetter_ops body x2.2.2.1 x2.2.2.2).2.2.2 with
   | false=>exact ⟨rfl,.inr rfl⟩
   | true =>
    rw [← recOk_same] at hw
    simp only [Bool.not_true,cond_false,(iputRec_eq hw).1,Bool.and_self]
    cases he:bytes_Equal (iputRec x1.1 x2.1 (igetter_ops body x2.2.2.1 x2.2.2.2).2.2.2) (numB n++(body++s4)) with
    | false=>exact ⟨trivial,.inr rfl⟩
    | true=>exact ⟨trivial,.inl (fin _ _ _ hw he)⟩
 | false =>
  simp only [cond_false]
  cases hbad:x2.2.2.2 with
  | true=>exact ⟨rfl,.inr rfl⟩
  | false =>
   have o3:okOps []=true:=rfl
   simp only [cond_false,q_iRecOk,o3,Bool.true_and]
   cases hw:iRecOk x1.1 x2.1 [] with
   | false=>exact ⟨rfl,.inr rfl⟩
   | true =>
    rw [← recOk_same] at hw
    simp only [Bool.not_true,cond_false,(iputRec_eq hw).1,Bool.and_self]
    cases he:bytes_Equal (iputRec x1.1 x2.1 []) (numB n++(body++s4)) with
    | false=>exact ⟨trivial,.inr rfl⟩
    | true=>exact ⟨trivial,.inl (fin _ _ _ hw he)⟩
theorem recs_all {b:List Int} (h:bigT t_sy b=true):q_lFnRecs b=true∧lFnRecs b=true:=by
 have hb:=bigB_ok h
 cases hd:lbig b with
 | true=>simp only [q_lFnRecs,lFnRecs,hd,cond_true];exact ⟨trivial,trivial⟩
 | false =>
  have hl:b.length≤1048576:=by simp only [lbig] at hd;have:=of_decide_eq_false hd;omega
  obtain ⟨a1,a2⟩:=sDrawPutRec_spec hb hl
  obtain ⟨t1,t2,_⟩:=lat_spec hb hl 2 (by decide)
  have t1:q_lat b 2=true:=t1
  have t2:0≤lat b 2:=t2
  simp only [q_lFnRecs,lFnRecs,k1_lFnRecs,k2_lFnRecs,k3_lFnRecs,hd,a1,t1,cond_false,Bool.true_and]
  generalize sDrawPutRec b=r at *
  obtain ⟨i1,i2⟩:=iPutRec_eq (k:=r.1) (t:=r.2.1) a2
  simp only [i1,i2,q_sRecOk,q_iRecOk,a2,← recOk_same,Bool.true_and]
  cases hw:sRecOk r.1 r.2.1 r.2.2 with
  | false=>exact ⟨rfl,rfl⟩
  | true =>
   simp only [Bool.not_true,cond_false,cond_true]
   obtain ⟨w1,w2,w3⟩:=recB_ok hw
   obtain ⟨so1,so2⟩:=sameOps_self (okOps_len a2)
   have g0:=iGetRec_put hw (b:=recB r.1 r.2.1 r.2.2) (pre:=[]) (post:=[]) (by simp) w1 (by omega)
   have g1:iGetRec (recB r.1 r.2.1 r.2.2) 0=(r.1,r.2.1,((recB r.1 r.2.1 r.2.2).length:Int),true,r.2.2):=by simpa using g0
   have q1:=(iGetRec_of w1 (by omega) 0).1
   have m0:(0:Int)<((recB r.1 r.2.1 r.2.2).length:Int):=by omega
   have m1:=Int.tmod_nonneg (a:=lat b 2) ((recB r.1 r.2.1 r.2.2).length:Int) t2
   have m2:=Int.tmod_lt_of_pos (lat b 2) m0
   have d1:decide (((recB r.1 r.2.1 r.2.2).length:Int) ≠ 0)=true:=decide_eq_true (by omega)
   have d2:decide (0≤(0:Int)∧(0:Int)≤Int.tmod (lat b 2) ((recB r.1 r.2.1 r.2.2).length:Int)∧Int.tmod (lat b 2) ((recB r.1 r.2.1 r.2.2).length:Int)≤((recB r.1 r.2.1 r.2.2).length:Int))=true:=decide_eq_true (by omega)
   simp only [d1,d2]
   clear d1 d2
   generalize Int.tmod (lat b 2) ((recB r.1 r.2.1 r.2.2).length:Int)=c at *
   generalize hB:recB r.1 r.2.1 r.2.2=B at *
   have wc:okB ((B.take c.toNat).drop (0:Int).toNat):=(w1.take _).drop _
   have lc:((B.take c.toNat).drop (0:Int).toNat).length≤1048576:=by rw [List.length_drop,List.length_take];omega
   obtain ⟨q2,q3⟩:=iGetRec_of wc lc 0
   have cut:(iGetRec ((B.take c.toNat).drop (0:Int).toNat) 0).2.2.2.1=false:=by
    rcases q3 with ⟨k', t', l', pre,post,e2,e3,e4,e5⟩ | e2
    ·exfalso
     have hp:pre=[]:=List.eq_nil_of_length_eq_zero (by omega)
     subst hp
     have e6:B.take c.toNat=recB k' t' l'++post:=by simpa using e4
     have e7:B=[]++(recB k' t' l'++(post++B.drop c.toNat)):=by
      rw [List.nil_append,← List.append_assoc,← e6,List.take_append_drop]
     have g2:=iGetRec_put e3 e7 w1 (by omega)
     have g3:iGetRec B 0=(k', t', ((recB k' t' l').length:Int),true,l'):=by simpa using g2
     rw [g1] at g3
     simp only [Prod.mk.injEq] at g3
     have hlen:=congrArg List.length e6
     rw [List.length_append,List.length_take] at hlen
     have:=g3.2.2.1
     omega
    ·rw [e2]
   have e0:∀ x:Int,(x==x)=true:=fun x=>by simp
   simp only [Bool.not_true,Bool.not_false,cond_false,cond_true,q1,q2,g1,cut,lsameRec,q_lsameRec,e0,so1,so2,Bool.and_self]
   exact ⟨trivial,trivial⟩
theorem pre_of_lFnRecs (b:List Int) (h:bigT t_sy b=true):pre_lFnRecs (b,())=true:=(recs_all h).1
theorem exact_lFnRecs (b:List Int) (h:bigT t_sy b=true):lFnRecs b=true:=(recs_all h).2

end Go.Proofs.Ytccelbeahdcooaa.Eng
