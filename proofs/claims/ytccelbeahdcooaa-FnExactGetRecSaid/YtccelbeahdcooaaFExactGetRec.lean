/- What the functions that FnExactGetRec reaches compute: further. -/
import Derived.Test.YtccelbeahdcooaaFExactGetRecB
namespace Go.Proofs.Ytccelbeahdcooaa.Eng
open Go Go.RowKit
set_option linter.unusedSimpArgs false
set_option linter.unusedVariables false
set_option maxRecDepth 10000
noncomputable abbrev P_lFnExactGetRec:List PSh:=[.t t_sy,.t (.int .i64)]
noncomputable def k1_lFnExactGetRec (a0:List Int) (a1:Int):=leqRec ((iGetRec (ltoByteS a0) a1).1) ((iGetRec (ltoByteS a0) a1).2.1) ((iGetRec (ltoByteS a0) a1).2.2.2.2) ((sGetRec (ltoByteS a0) a1).1) ((sGetRec (ltoByteS a0) a1).2.1) ((sGetRec (ltoByteS a0) a1).2.2.1)
noncomputable def k2_lFnExactGetRec (a0:List Int) (a1:Int):=lmarkRec ((iGetRec (ltoByteS a0) a1).1) ((iGetRec (ltoByteS a0) a1).2.1) (1:Int) ((iGetRec (ltoByteS a0) a1).2.2.2.2)
noncomputable def k3_lFnExactGetRec (a0:List Int) (a1:Int):=lheldRec ((iGetRec (ltoByteS a0) a1).1) ((iGetRec (ltoByteS a0) a1).2.1) ((k2_lFnExactGetRec a0 a1).2) (1:Int)
noncomputable def lFnExactGetRec (a0:List Int) (a1:Int):Bool:=(cond (decide (((a0.length:Nat):Int) > (1048576:Int))) true (cond (!(k1_lFnExactGetRec a0 a1)) false (cond (((iGetRec (ltoByteS a0) a1).2.2.1) != ((sGetRec (ltoByteS a0) a1).2.2.2.1)) false (cond (!(((iGetRec (ltoByteS a0) a1).2.2.2.1)==((sGetRec (ltoByteS a0) a1).2.2.2.2))) false (cond (!(leqByteS (ltoByteS a0) (ltoByteS a0))) false (cond (decide (((lmarkByteS (1:Int) (ltoByteS a0)).1)<(0:Int))) false (cond (!(k1_lFnExactGetRec a0 a1)) false (cond (((iGetRec (ltoByteS a0) a1).2.2.1) != ((sGetRec (ltoByteS a0) a1).2.2.2.1)) false (cond (!(((iGetRec (ltoByteS a0) a1).2.2.2.1)==((sGetRec (ltoByteS a0) a1).2.2.2.2))) false (cond (decide ((k3_lFnExactGetRec a0 a1)<(0:Int))) false (cond ((k3_lFnExactGetRec a0 a1) != ((k2_lFnExactGetRec a0 a1).1)) false (cond (!(k1_lFnExactGetRec a0 a1)) false (cond (((iGetRec (ltoByteS a0) a1).2.2.1) != ((sGetRec (ltoByteS a0) a1).2.2.2.1)) false (cond (!(((iGetRec (ltoByteS a0) a1).2.2.2.1)==((sGetRec (ltoByteS a0) a1).2.2.2.2))) false (cond (decide ((k3_lFnExactGetRec a0 a1)<(0:Int))) false (cond ((k3_lFnExactGetRec a0 a1) != ((k2_lFnExactGetRec a0 a1).1)) false true))))))))))))))))
noncomputable abbrev e_lFnExactGetRec (r:Bool):AV×List AObj:=((.t true .bool r),[])
noncomputable abbrev g_lFnExactGetRec:pshsDen P_lFnExactGetRec→AV×List AObj:=fun d=>e_lFnExactGetRec (lFnExactGetRec d.1 d.2.1)
noncomputable def q_lFnExactGetRec (a0:List Int) (a1:Int):Bool:=cond (decide (((a0.length:Nat):Int) > (1048576:Int))) true ((q_ltoByteS a0)&&((q_sGetRec (ltoByteS a0) a1)&&((q_ltoByteS a0)&&((q_iGetRec (ltoByteS a0) a1)&&((q_leqRec ((iGetRec (ltoByteS a0) a1).1) ((iGetRec (ltoByteS a0) a1).2.1) ((iGetRec (ltoByteS a0) a1).2.2.2.2) ((sGetRec (ltoByteS a0) a1).1) ((sGetRec (ltoByteS a0) a1).2.1) ((sGetRec (ltoByteS a0) a1).2.2.1))&&(cond (!(k1_lFnExactGetRec a0 a1)) true (cond (((iGetRec (ltoByteS a0) a1).2.2.1) != ((sGetRec (ltoByteS a0) a1).2.2.2.1)) true (cond (!(((iGetRec (ltoByteS a0) a1).2.2.2.1)==((sGetRec (ltoByteS a0) a1).2.2.2.2))) true ((q_ltoByteS a0)&&((q_leqByteS (ltoByteS a0) (ltoByteS a0))&&(cond (!(leqByteS (ltoByteS a0) (ltoByteS a0))) true ((q_lmarkByteS (1:Int) (ltoByteS a0))&&(cond (decide (((lmarkByteS (1:Int) (ltoByteS a0)).1)<(0:Int))) true ((q_leqRec ((iGetRec (ltoByteS a0) a1).1) ((iGetRec (ltoByteS a0) a1).2.1) ((iGetRec (ltoByteS a0) a1).2.2.2.2) ((sGetRec (ltoByteS a0) a1).1) ((sGetRec (ltoByteS a0) a1).2.1) ((sGetRec (ltoByteS a0) a1).2.2.1))&&(cond (!(k1_lFnExactGetRec a0 a1)) true (cond (((iGetRec (ltoByteS a0) a1).2.2.1) != ((sGetRec (ltoByteS a0) a1).2.2.2.1)) true (cond (!(((iGetRec (ltoByteS a0) a1).2.2.2.1)==((sGetRec (ltoByteS a0) a1).2.2.2.2))) true ((q_lmarkRec ((iGetRec (ltoByteS a0) a1).1) ((iGetRec (ltoByteS a0) a1).2.1) (1:Int) ((iGetRec (ltoByteS a0) a1).2.2.2.2))&&((q_lheldRec ((iGetRec (ltoByteS a0) a1).1) ((iGetRec (ltoByteS a0) a1).2.1) ((k2_lFnExactGetRec a0 a1).2) (1:Int))&&(cond (decide ((k3_lFnExactGetRec a0 a1)<(0:Int))) true (cond ((k3_lFnExactGetRec a0 a1) != ((k2_lFnExactGetRec a0 a1).1)) true ((q_ltoByteS a0)&&((q_iGetRec (ltoByteS a0) a1)&&((q_leqRec ((iGetRec (ltoByteS a0) a1).1) ((iGetRec (ltoByteS a0) a1).2.1) ((iGetRec (ltoByteS a0) a1).2.2.2.2) ((sGetRec (ltoByteS a0) a1).1) ((sGetRec (ltoByteS a0) a1).2.1) ((sGetRec (ltoByteS a0) a1).2.2.1))&&(cond (!(k1_lFnExactGetRec a0 a1)) true (cond (((iGetRec (ltoByteS a0) a1).2.2.1) != ((sGetRec (ltoByteS a0) a1).2.2.2.1)) true (cond (!(((iGetRec (ltoByteS a0) a1).2.2.2.1)==((sGetRec (ltoByteS a0) a1).2.2.2.2))) true (q_lheldRec ((iGetRec (ltoByteS a0) a1).1) ((iGetRec (ltoByteS a0) a1).2.1) ((k2_lFnExactGetRec a0 a1).2) (1:Int)))))))))))))))))))))))))))))
noncomputable abbrev pre_lFnExactGetRec:pshsDen P_lFnExactGetRec→Bool:=fun d=>q_lFnExactGetRec d.1 d.2.1
theorem run_lFnExactGetRec:RunP true G54 (fun _ _=>none) Try.f7 P_lFnExactGetRec pre_lFnExactGetRec g_lFnExactGetRec:=by
 rintro ⟨a0,⟨a1,_⟩⟩ hp
 change q_lFnExactGetRec a0 a1=true at hp
 unfold q_lFnExactGetRec at hp
 refine Eq.trans (b:=(cond (decide (((a0.length:Nat):Int) > (1048576:Int))) (some (e_lFnExactGetRec true)) (cond (q_ltoByteS a0) (cond (q_sGetRec (ltoByteS a0) a1) (cond (q_ltoByteS a0) (cond (q_iGetRec (ltoByteS a0) a1) (cond (q_leqRec ((iGetRec (ltoByteS a0) a1).1) ((iGetRec (ltoByteS a0) a1).2.1) ((iGetRec (ltoByteS a0) a1).2.2.2.2) ((sGetRec (ltoByteS a0) a1).1) ((sGetRec (ltoByteS a0) a1).2.1) ((sGetRec (ltoByteS a0) a1).2.2.1)) (cond (!(k1_lFnExactGetRec a0 a1)) (some (e_lFnExactGetRec false)) (cond (((iGetRec (ltoByteS a0) a1).2.2.1) != ((sGetRec (ltoByteS a0) a1).2.2.2.1)) (some (e_lFnExactGetRec false)) (cond (!(((iGetRec (ltoByteS a0) a1).2.2.2.1)==((sGetRec (ltoByteS a0) a1).2.2.2.2))) (some (e_lFnExactGetRec false)) (cond (q_ltoByteS a0) (cond (q_leqByteS (ltoByteS a0) (ltoByteS a0)) (cond (!(leqByteS (ltoByteS a0) (ltoByteS a0))) (some (e_lFnExactGetRec false)) (cond (q_lmarkByteS (1:Int) (ltoByteS a0)) (cond (decide (((lmarkByteS (1:Int) (ltoByteS a0)).1)<(0:Int))) (some (e_lFnExactGetRec false)) (cond (q_leqRec ((iGetRec (ltoByteS a0) a1).1) ((iGetRec (ltoByteS a0) a1).2.1) ((iGetRec (ltoByteS a0) a1).2.2.2.2) ((sGetRec (ltoByteS a0) a1).1) ((sGetRec (ltoByteS a0) a1).2.1) ((sGetRec (ltoByteS a0) a1).2.2.1)) (cond (!(k1_lFnExactGetRec a0 a1)) (some (e_lFnExactGetRec false)) (cond (((iGetRec (ltoByteS a0) a1).2.2.1) != ((sGetRec (ltoByteS a0) a1).2.2.2.1)) (some (e_lFnExactGetRec false)) (cond (!(((iGetRec (ltoByteS a0) a1).2.2.2.1)==((sGetRec (ltoByteS a0) a1).2.2.2.2))) (some (e_lFnExactGetRec false)) (cond (q_lmarkRec ((iGetRec (ltoByteS a0) a1).1) ((iGetRec (ltoByteS a0) a1).2.1) (1:Int) ((iGetRec (ltoByteS a0) a1).2.2.2.2)) (cond (q_lheldRec ((iGetRec (ltoByteS a0) a1).1) ((iGetRec (ltoByteS a0) a1).2.1) ((k2_lFnExactGetRec a0 a1).2) (1:Int)) (cond (decide ((k3_lFnExactGetRec a0 a1)<(0:Int))) (some (e_lFnExactGetRec false)) (cond ((k3_lFnExactGetRec a0 a1) != ((k2_lFnExactGetRec a0 a1).1)) (some (e_lFnExactGetRec false)) (cond (q_ltoByteS a0) (cond (q_iGetRec (ltoByteS a0) a1) (cond (q_leqRec ((iGetRec (ltoByteS a0) a1).1) ((iGetRec (ltoByteS a0) a1).2.1) ((iGetRec (ltoByteS a0) a1).2.2.2.2) ((sGetRec (ltoByteS a0) a1).1) ((sGetRec (ltoByteS a0) a1).2.1) ((sGetRec (ltoByteS a0) a1).2.2.1)) (cond (!(k1_lFnExactGetRec a0 a1)) (some (e_lFnExactGetRec false)) (cond (((iGetRec (ltoByteS a0) a1).2.2.1) != ((sGetRec (ltoByteS a0) a1).2.2.2.1)) (some (e_lFnExactGetRec false)) (cond (!(((iGetRec (ltoByteS a0) a1).2.2.2.1)==((sGetRec (ltoByteS a0) a1).2.2.2.2))) (some (e_lFnExactGetRec false)) (cond (q_lheldRec ((iGetRec (ltoByteS a0) a1).1) ((iGetRec (ltoByteS a0) a1).2.1) ((k2_lFnExactGetRec a0 a1).2) (1:Int)) (cond (decide ((k3_lFnExactGetRec a0 a1)<(0:Int))) (some (e_lFnExactGetRec false)) (cond ((k3_lFnExactGetRec a0 a1) != ((k2_lFnExactGetRec a0 a1).1)) (some (e_lFnExactGetRec false)) (some (e_lFnExactGetRec true)))) none)))) none) none) none))) none) none)))) none)) none)) none) none)))) none) none) none) none) none))) (by kernel_rfl) ?_
 exact (cndE e_lFnExactGetRec hp (fun hp=>rfl) (fun hp=>(cndA hp fun hp=>(cndA hp fun hp=>(cndA hp fun hp=>(cndA hp fun hp=>(cndA hp fun hp=>(cndE e_lFnExactGetRec hp (fun hp=>rfl) (fun hp=>(cndE e_lFnExactGetRec hp (fun hp=>rfl) (fun hp=>(cndE e_lFnExactGetRec hp (fun hp=>rfl) (fun hp=>(cndA hp fun hp=>(cndA hp fun hp=>(cndE e_lFnExactGetRec hp (fun hp=>rfl) (fun hp=>(cndA hp fun hp=>(cndE e_lFnExactGetRec hp (fun hp=>rfl) (fun hp=>(cndA hp fun hp=>(cndE e_lFnExactGetRec hp (fun hp=>rfl) (fun hp=>(cndE e_lFnExactGetRec hp (fun hp=>rfl) (fun hp=>(cndE e_lFnExactGetRec hp (fun hp=>rfl) (fun hp=>(cndA hp fun hp=>(cndA hp fun hp=>(cndE e_lFnExactGetRec hp (fun hp=>rfl) (fun hp=>(cndE e_lFnExactGetRec hp (fun hp=>rfl) (fun hp=>(cndA hp fun hp=>(cndA hp fun hp=>(cndA hp fun hp=>(cndE e_lFnExactGetRec hp (fun hp=>rfl) (fun hp=>(cndE e_lFnExactGetRec hp (fun hp=>rfl) (fun hp=>(cndE e_lFnExactGetRec hp (fun hp=>rfl) (fun hp=>(cndT hp fun _h=>(cndG e_lFnExactGetRec (fun _h=>rfl) (fun _h=>(cndG e_lFnExactGetRec (fun _h=>rfl) (fun _h=>rfl)))))))))))))))))))))))))))))))))))))))))))))))
theorem c_lFnExactGetRec:PContract Try.prog 7 (sumOf P_lFnExactGetRec pre_lFnExactGetRec g_lFnExactGetRec):=pcD true G54 hlz run_lFnExactGetRec
noncomputable def S55:Tab:=Tab.add S54 7 (lift (sumOf P_lFnExactGetRec pre_lFnExactGetRec g_lFnExactGetRec))
noncomputable def QF55:FuncId→Bool:=qadd QF54 7
theorem G55:Good Try.prog tt S55 QF55:=G54.addQ c_lFnExactGetRec (cbl Try.f7) (fun _=>rfl)
/-- Bytes, all of them. -/
noncomputable def okB (b:List Int):Prop:=∀ c∈b,0≤c∧c≤255
theorem bigB_ok {l:List Int} (h:bigT t_sy l=true):okB l:=by
 have hb:(decide (l.length≤maxLen)&&l.all (fun x=>(Lit.int .u8 x).wf))=true:=h
 rw [Bool.and_eq_true,List.all_eq_true] at hb
 intro c hc
 have:=hb.2 c hc
 simp only [Lit.wf,Bool.and_eq_true,decide_eq_true_eq] at this
 exact ⟨this.1,this.2⟩
theorem toByteS_same (l:List Int):ltoByteS l=l:=by
 have e:=mapN (fun o:Int=>o) (0:Int) l l.length 0 (List.replicate l.length (0:Int)) (by simp) (by simp)
 simp only [List.take_zero,List.nil_append,List.drop_zero,List.map_id'] at e
 exact e
/-- The bytes of ops. -/
noncomputable def opsB (l:Lq1):List Int:=numB (l.length:Int)++(l.map opB).flatten
/-- The body of a record. -/
noncomputable def recBody (k t:Int) (l:Lq1):List Int:=numB k++(numB t++cond (k==1) (opsB l) [])
/-- The sum behind a body. -/
noncomputable def digB4 (b:List Int):List Int:=strInts ((iDigest b).extract 0 4)
/-- The bytes of a record that is right. -/
noncomputable def recB (k t:Int) (l:Lq1):List Int:=numB ((recBody k t l).length:Int)++(recBody k t l++digB4 (recBody k t l))
/-- A number out of bytes: its value and how many bytes it takes. -/
noncomputable def pN:Nat→Nat→Nat→List Int→Option (Nat×Nat)
 | 0,_,_,_=>none
 | _+1,_,_,[]=>none
 | f+1,k,n,c::r =>
  if c > 127 then pN f (k+1) (n+c.toNat % 128*2 ^ (7*k)) r
  else if (0<k∧c=0)∨n+c.toNat*2 ^ (7*k) > 1000000000 then none else some (n+c.toNat*2 ^ (7*k),k+1)
/-- A number at a place: its value, the place behind, whether there is one. -/
noncomputable def gN (b:List Int) (at':Int):Int×Int×Bool :=
 if 0≤at'∧at'<b.length then (match pN 5 0 0 (b.drop at'.toNat) with
  | some (n,l)=>((n:Int),at'+l,true)
  | none=>(0,0,false)) else (0,0,false)
theorem wrapU64 {n:Int} (h1:0≤n) (h2:n<18446744073709551616):IntKind.wrap .u64 n=n:=by
 show (if (false&&decide (n % (2 ^ 64:Int) ≥ (2 ^ 63:Int)))=true then n % (2 ^ 64:Int) - (2 ^ 64:Int) else n % (2 ^ 64:Int))=n
 simp only [Bool.false_and,Bool.false_eq_true,if_false];omega
theorem drop_cons {b:List Int} {i:Nat} (h:i<b.length):b.drop i=b.getD i 0::b.drop (i+1):=by
 rw [List.drop_eq_getElem_cons h];simp [List.getD_eq_getElem?_getD,h]
theorem ofInt_nat (n:Nat) (h:n<18446744073709551616):(BitVec.ofInt 64 (n:Int)).toNat=n:=by
 simp [BitVec.toNat_ofInt];omega
theorem iand127 (n:Nat) (h:n<9223372036854775808):iand .i64 (n:Int) 127=((n % 128:Nat):Int):=by
 show IntKind.wrap .i64 (((BitVec.ofInt 64 (n:Int) &&& BitVec.ofInt 64 ((127:Nat):Int)).toNat:Nat):Int)=_
 rw [BitVec.toNat_and,ofInt_nat n (by omega),ofInt_nat 127 (by omega),show (127:Nat)=2 ^ 7 - 1 from rfl,Nat.and_two_pow_sub_one_eq_mod]
 exact wrap64 (by omega) (by omega)
theorem shl7 (c k:Nat) (hc:c≤255) (hk:k<5):IntKind.wrap .i64 ((iand .i64 (IntKind.wrap .i64 (c:Int)) (127:Int))*2 ^ (min (Int.toNat (IntKind.wrap .u64 (IntKind.wrap .i64 ((7:Int)*(k:Int))))) (IntKind.bits .i64)))=((c % 128*2 ^ (7*k):Nat):Int):=by
 rw [wrap64 (n:=(c:Int)) (by omega) (by omega),iand127 c (by omega),wrap64 (n:=(7:Int)*(k:Int)) (by omega) (by omega),wrapU64 (by omega) (by omega)]
 have e:Int.toNat ((7:Int)*(k:Int))=7*k:=by omega
 have e2:min (7*k) (IntKind.bits .i64)=7*k:=Nat.min_eq_left (by show 7*k≤64;omega)
 rw [e,e2]
 have h1:c % 128*2 ^ (7*k)≤128*2 ^ 28:=Nat.mul_le_mul (by omega) (Nat.pow_le_pow_right (by decide) (by omega))
 have h2:(128:Nat)*2 ^ 28=34359738368:=by decide
 have e3:((c % 128:Nat):Int)*2 ^ (7*k)=((c % 128*2 ^ (7*k):Nat):Int):=by simp
 rw [e3]
 exact wrap64 (by omega) (by omega)
theorem iorAdd (n m j:Nat) (hn:n<2 ^ j) (h:n+m*2 ^ j<9223372036854775808):ior .i64 (n:Int) ((m*2 ^ j:Nat):Int)=((n+m*2 ^ j:Nat):Int):=by
 show IntKind.wrap .i64 (((BitVec.ofInt 64 (n:Int) ||| BitVec.ofInt 64 ((m*2 ^ j:Nat):Int)).toNat:Nat):Int)=_
 rw [BitVec.toNat_or,ofInt_nat n (by omega),ofInt_nat _ (by omega),Nat.or_comm,Nat.mul_comm m,← Nat.two_pow_add_eq_or_of_lt hn,Nat.add_comm]
 rw [Nat.mul_comm m] at h
 exact wrap64 (by omega) (by omega)
theorem acc7 (n c k:Nat) (hc:c≤255) (hk:k<5) (hn:n<2 ^ (7*k)):ior .i64 (n:Int) (IntKind.wrap .i64 ((iand .i64 (IntKind.wrap .i64 (c:Int)) (127:Int))*2 ^ (min (Int.toNat (IntKind.wrap .u64 (IntKind.wrap .i64 ((7:Int)*(k:Int))))) (IntKind.bits .i64))))=((n+c % 128*2 ^ (7*k):Nat):Int)∧n+c % 128*2 ^ (7*k)<2 ^ (7*(k+1))∧n+c % 128*2 ^ (7*k)<9223372036854775808:=by
 have h3:n+c % 128*2 ^ (7*k)<2 ^ (7*(k+1)):=by
  rw [show 7*(k+1)=7*k+7 by omega,Nat.pow_add,show (2:Nat) ^ 7=128 from rfl]
  have:c % 128*2 ^ (7*k)≤127*2 ^ (7*k):=Nat.mul_le_mul_right _ (by omega)
  omega
 have h4:(2:Nat) ^ (7*(k+1))≤2 ^ 35:=Nat.pow_le_pow_right (by decide) (by omega)
 have h5:(2:Nat) ^ 35=34359738368:=by decide
 refine ⟨?_,h3,by omega⟩
 rw [shl7 c k hc hk]
 exact iorAdd n (c % 128) (7*k) hn (by omega)
theorem okB.getD {b:List Int} (h:okB b) (i:Nat):0≤b.getD i 0∧b.getD i 0≤255:=by
 rw [List.getD_eq_getElem?_getD]
 cases e:b[i]? with
 | none=>simp
 | some c=>exact h c (List.mem_of_getElem? e)
theorem okB.drop {b:List Int} (h:okB b) (i:Nat):okB (b.drop i):=fun c hc=>h c (List.mem_of_mem_drop hc)
theorem sGetNum_it {b:List Int} (hb:okB b) (hl:b.length≤1099511627776) {i:Nat} (hi:i<b.length) :
    (match pN 5 0 0 (b.drop i) with
      | some (n,l)=>it_sGetNum_0 b (i:Int) 0 0=(0,(n:Int),(i:Int)+l,true)
      | none=>it_sGetNum_0 b (i:Int) 0 0=(0,0,0,false)∨(it_sGetNum_0 b (i:Int) 0 0).1=1):=by
  refine itX_inv (fun v => ∃ k n : Nat, v = (b, (i : Int), (n : Int), (k : Int)) ∧ k ≤ 5 ∧ n < 2 ^ (7 * k) ∧ pN (5 - k) k n (b.drop (i + k)) = pN 5 0 0 (b.drop i)) (fun a => match pN 5 0 0 (b.drop i) with
      | some (n,l)=>a=(0,(n:Int),(i:Int)+l,true)
      | none=>a=(0,0,0,false)∨a.1=1) (fun v=>5 - v.2.2.2.toNat) ?_ ⟨0,0,rfl,by omega,by simp,rfl⟩ (by simp)
  rintro v ⟨k,n,rfl,hk,hn,hp⟩
  by_cases h5:k<5
  · have e1:decide ((k:Int)<5)=true:=decide_eq_true (by omega)
    have e2:decide ((i:Int) ≥ 0)=true:=decide_eq_true (by omega)
    have e3:decide ((i:Int)<((b.length:Nat):Int))=true:=decide_eq_true (by omega)
    have e4:IntKind.wrap .i64 ((i:Int)+(k:Int))=((i+k:Nat):Int):=by rw [wrap64 (by omega) (by omega)];omega
    by_cases hik:i+k<b.length
    · have e5:decide (((i+k:Nat):Int)<((b.length:Nat):Int))=true:=decide_eq_true (by omega)
      have e6:decide (0≤((i+k:Nat):Int)∧((i+k:Nat):Int)<((b.length:Nat):Int))=true:=decide_eq_true (by omega)
      have e7:decide (0≤(IntKind.wrap .u64 (IntKind.wrap .i64 ((7:Int)*(k:Int)))))=true:=by
        rw [wrap64 (n:=(7:Int)*(k:Int)) (by omega) (by omega),wrapU64 (by omega) (by omega)];exact decide_eq_true (by omega)
      obtain ⟨hc0,hc1⟩:=hb.getD (i+k)
      have hdc:=drop_cons hik
      obtain ⟨c,hc⟩:=Int.eq_ofNat_of_zero_le hc0
      rw [hc] at hc1 hdc
      have hc255:c≤255:=by omega
      obtain ⟨f1,f2,f3⟩:=acc7 n c k hc255 h5 hn
      have e8:IntKind.wrap .i64 (c:Int)=(c:Int):=wrap64 (by omega) (by omega)
      rw [hdc,show 5 - k=(4 - k)+1 by omega,pN] at hp
      simp only [Int.toNat_natCast] at hp
      simp only [ss_sGetNum_0,e1,e2,e3,e4,e5,e6,e7,cond_true,Int.toNat_natCast,hc,f1]
      simp only [e8]
      by_cases h127:c > 127
      · rw [if_pos (by omega)] at hp
        have e9:decide ((c:Int) > 127)=true:=decide_eq_true (by omega)
        simp only [e9,cond_true]
        refine .inl ⟨_,rfl,⟨k+1,n+c % 128*2 ^ (7*k),?_,by omega,f2,?_⟩,?_⟩
        · rw [wrapU k (by omega)]
        · rw [show 5 - (k+1)=4 - k by omega,← hp];rfl
        · rw [wrapU k (by omega)];simp;omega
      · rw [if_neg (by omega)] at hp
        have e9:decide ((c:Int) > 127)=false:=decide_eq_false (by omega)
        have hcm:c % 128=c:=by omega
        rw [hcm] at f3 ⊢
        simp only [e9,cond_false]
        right
        by_cases hz:0<k∧c=0
        · rw [if_pos (by omega)] at hp
          have e10:decide ((k:Int) > 0)=true:=decide_eq_true (by omega)
          have e11:((c:Int)==0)=true:=by rw [beq_iff_eq];omega
          simp only [e10,e11,cond_true]
          exact ⟨_,rfl,by rw [← hp];exact .inl rfl⟩
        · by_cases hg:n+c*2 ^ (7*k) > 1000000000
          · rw [if_pos (.inr hg)] at hp
            have e12:decide (((n+c*2 ^ (7*k):Nat):Int) > 1000000000)=true:=decide_eq_true (by omega)
            simp only [e12,cond_true]
            refine ⟨(0,0,0,false),?_,by rw [← hp];exact .inl rfl⟩
            cases decide ((k:Int) > 0)<;>cases ((c:Int)==0)<;>rfl
          · rw [if_neg (fun h=>h.elim (fun h=>hz ⟨h.1,by omega⟩) hg)] at hp
            have e12:decide (((n+c*2 ^ (7*k):Nat):Int) > 1000000000)=false:=decide_eq_false (by omega)
            have e13:IntKind.wrap .i64 (((i+k:Nat):Int)+1)=((i+k+1:Nat):Int):=wrapU (i+k) (by omega)
            simp only [e12,cond_false,e13]
            refine ⟨(0,((n+c*2 ^ (7*k):Nat):Int),((i+k+1:Nat):Int),true),?_,?_⟩
            · by_cases h0:0<k
              · have e10:decide ((k:Int) > 0)=true:=decide_eq_true (by omega)
                have e11:((c:Int)==0)=false:=by rw [beq_eq_false_iff_ne];intro h;exact hz ⟨h0,by omega⟩
                simp only [e10,e11,cond_true,cond_false]
              · have e10:decide ((k:Int) > 0)=false:=decide_eq_false (by omega)
                simp only [e10,cond_false]
            · rw [← hp];show _=_
              congr 3
    · have e5:decide (((i+k:Nat):Int)<((b.length:Nat):Int))=false:=decide_eq_false (by omega)
      rw [show 5 - k=(4 - k)+1 by omega,List.drop_eq_nil_of_le (by omega),pN] at hp
      simp only [ss_sGetNum_0,e1,e2,e3,e4,e5,cond_true,cond_false]
      exact .inr ⟨_,rfl,by rw [← hp];exact .inr rfl⟩
  · obtain rfl:k=5:=by omega
    have e1:decide (((5:Nat):Int)<5)=false:=by decide
    simp only [ss_sGetNum_0,e1,cond_false]
    exact .inr ⟨_,rfl,by rw [← hp];exact .inr rfl⟩
theorem sGetNum_spec {b:List Int} (hb:okB b) (hl:b.length≤1099511627776) (a:Int):sGetNum b a=gN b a∧q_sGetNum b a=true:=by
 simp only [sGetNum,q_sGetNum,gN]
 by_cases h:0≤a∧a<b.length
 ·obtain ⟨i,rfl⟩:=Int.eq_ofNat_of_zero_le h.1
  have hi:i<b.length:=by omega
  rw [if_pos h,Int.toNat_natCast]
  have:=sGetNum_it hb hl hi
  cases hp:pN 5 0 0 (b.drop i) with
  | some x =>
   rw [hp] at this
   simp only at this
   rw [this];exact ⟨rfl,rfl⟩
  | none =>
   rw [hp] at this
   rcases this with h1 | h1
   ·rw [h1];exact ⟨rfl,rfl⟩
   ·rw [h1];exact ⟨rfl,rfl⟩
 ·rw [if_neg h]
  have:(it_sGetNum_0 b a 0 0).1=1:=by
   refine itX_inv (fun v:V_sGetNum_0=>v.1=b∧v.2.1=a) (fun r:A_sGetNum_0=>r.1=1) (fun _=>0) (fun v hv=>?_) ⟨rfl,rfl⟩ (by simp)
   obtain ⟨x,y,n,k⟩:=v
   obtain ⟨rfl,rfl⟩:=hv
   right
   simp only [ss_sGetNum_0]
   cases decide (k<5) with
   | false=>exact ⟨_,rfl,rfl⟩
   | true =>
    by_cases h1:y ≥ 0
    ·have e2:decide (y<((x.length:Nat):Int))=false:=decide_eq_false (fun h2=>h ⟨h1,h2⟩)
     simp only [decide_eq_true h1,e2,cond_true,cond_false]
     exact ⟨_,rfl,rfl⟩
    ·simp only [decide_eq_false h1,cond_true,cond_false]
     exact ⟨_,rfl,rfl⟩
  rw [this];exact ⟨rfl,rfl⟩
/-- The bytes of a number behind others. -/
noncomputable def hiB (j x:Nat):List Int:=(hiF gNum j (x:Int)).1++[IntKind.wrap .u8 (hiF gNum j (x:Int)).2]
theorem hiF_stop (j x:Nat) (h:¬ 127<x):hiF gNum j (x:Int)=([],(x:Int)):=by
 cases j with
 | zero=>rfl
 | succ j =>
  have e:decide ((x:Int) > 127)=false:=decide_eq_false (by omega)
  simp only [hiF,e,cond_false]
theorem wrapU8 {n:Int} (h1:0≤n) (h2:n<256):IntKind.wrap .u8 n=n:=by
 show (if (false&&decide (n % (2 ^ 8:Int) ≥ (2 ^ 7:Int)))=true then n % (2 ^ 8:Int) - (2 ^ 8:Int) else n % (2 ^ 8:Int))=n
 simp only [Bool.false_and,Bool.false_eq_true,if_false];omega
theorem hiB_stop (j x:Nat) (h:¬ 127<x):hiB j x=[(x:Int)]:=by
 simp only [hiB,hiF_stop j x h,List.nil_append];rw [wrapU8 (by omega) (by omega)]
theorem fdivN (n:Nat):Int.fdiv (n:Int) (2 ^ 7)=((n / 128:Nat):Int):=by
 rw [Int.fdiv_eq_ediv_of_nonneg _ (by decide)];rfl
/-- The high bytes of a number, and what is left. -/
theorem hiF_step (j x:Nat) (h:127<x):hiF gNum (j+1) (x:Int)=(gNum x::(hiF gNum j ((x / 128:Nat):Int)).1,(hiF gNum j ((x / 128:Nat):Int)).2):=by
 have e:decide ((x:Int) > 127)=true:=decide_eq_true (by omega)
 simp only [hiF,e,cond_true,fdivN]
theorem gNum_val (n:Nat) (h:n<9223372036854775808):gNum (n:Int)=((128+n % 128:Nat):Int):=by
 simp only [gNum]
 rw [iand127 n h]
 have:=iorAdd (n % 128) 1 7 (by omega) (by omega)
 have e:((1*2 ^ 7:Nat):Int)=128:=rfl
 rw [e] at this
 rw [this,wrapU8 (by omega) (by omega)];omega
theorem hiB_step (j x:Nat) (h:127<x) (hx:x<9223372036854775808):hiB (j+1) x=((128+x % 128:Nat):Int)::hiB j (x / 128):=by
 simp only [hiB,hiF_step j x h,gNum_val x hx,List.cons_append]
theorem pN_inv:∀ (j k n:Nat) (l:List Int) (m len:Nat),okB l→k+j≤4→pN (j+1) k n l=some (m,len) →
  ∃ (x:Nat) (post:List Int),l=hiB j x++post∧m=n+x*2 ^ (7*k)∧len=k+(hiB j x).length∧(0<k→0<x)∧x<128 ^ (j+1)∧m≤1000000000:=by
 intro j
 induction j with
 | zero =>
  intro k n l m len hb hk h
  cases l with
  | nil=>simp [pN] at h
  | cons c r =>
   obtain ⟨hc,_⟩:=hb c (by simp)
   obtain ⟨x,rfl⟩:=Int.eq_ofNat_of_zero_le hc
   simp only [pN,Int.toNat_natCast] at h
   split at h
   ·cases h
   ·split at h
    ·cases h
    ·simp only [Option.some.injEq,Prod.mk.injEq] at h
     obtain ⟨rfl,rfl⟩:=h
     exact ⟨x,r,by rw [hiB_stop 0 x (by omega)];rfl,rfl,by rw [hiB_stop 0 x (by omega)];rfl,by omega,by simp;omega,by omega⟩
 | succ j ih =>
  intro k n l m len hb hk h
  cases l with
  | nil=>simp [pN] at h
  | cons c r =>
   obtain ⟨hc,hc'⟩:=hb c (by simp)
   obtain ⟨y,rfl⟩:=Int.eq_ofNat_of_zero_le hc
   rw [pN] at h
   simp only [Int.toNat_natCast] at h
   split at h
   ·rename_i hgt
    obtain ⟨x,post,e1,e2,e3,e4,e5,e6⟩:=ih (k+1) (n+y % 128*2 ^ (7*k)) r m len (fun c hc=>hb c (by simp [hc])) (by omega) h
    have hx0:=e4 (by omega)
    have hxb:y % 128+128*x<128 ^ (j+1+1):=by rw [Nat.pow_succ];omega
    have hxs:y % 128+128*x<9223372036854775808:=by
     have:(128:Nat) ^ (j+1+1)≤128 ^ 5:=Nat.pow_le_pow_right (by decide) (by omega)
     have h5:(128:Nat) ^ 5=34359738368:=by decide
     omega
    have hst:=hiB_step j (y % 128+128*x) (by omega) hxs
    have q1:(y % 128+128*x) / 128=x:=by omega
    have q2:128+(y % 128+128*x) % 128=y:=by omega
    rw [q1,q2] at hst
    refine ⟨y % 128+128*x,post,by rw [hst,e1];rfl,?_,by rw [hst,e3];simp;omega,fun _=>by omega,hxb,e6⟩
    rw [e2,show 7*(k+1)=7*k+7 by omega,Nat.pow_add,show (2:Nat) ^ 7=128 from rfl,Nat.add_mul,Nat.mul_comm (2 ^ (7*k)) 128,← Nat.mul_assoc,Nat.mul_comm x 128]
    omega
   ·rename_i hgt
    split at h
    ·cases h
    ·simp only [Option.some.injEq,Prod.mk.injEq] at h
     obtain ⟨rfl,rfl⟩:=h
     refine ⟨y,r,by rw [hiB_stop _ y (by omega)];rfl,rfl,by rw [hiB_stop _ y (by omega)];rfl,by omega,?_,by omega⟩
     have:(128:Nat) ^ 1≤128 ^ (j+1+1):=Nat.pow_le_pow_right (by decide) (by omega)
     omega
theorem numB_hi (x:Nat):numB (x:Int)=hiB 4 x:=by simp only [numB,hiB,nX_eq]
theorem pN_of {l:List Int} (hb:okB l) {m len:Nat} (h:pN 5 0 0 l=some (m,len)):∃ post,l=numB (m:Int)++post∧len=(numB (m:Int)).length∧m≤1000000000:=by
 obtain ⟨x,post,e1,e2,e3,e4,e5,e6⟩:=pN_inv 4 0 0 l m len hb (by omega) h
 have:x=m:=by simp at e2;omega
 subst this
 exact ⟨post,by rw [numB_hi];exact e1,by rw [numB_hi];omega,e6⟩
theorem okB.take {b:List Int} (h:okB b) (i:Nat):okB (b.take i):=fun c hc=>h c (List.mem_of_mem_take hc)
theorem gN_of {b:List Int} (hb:okB b) {a n p:Int} (h:gN b a=(n,p,true)):∃ pre post,b=pre++(numB n++post)∧a=pre.length∧p=a+(numB n).length∧0≤n∧n≤1000000000:=by
 simp only [gN] at h
 split at h
 ·rename_i hc
  split at h
  ·rename_i m l hp
   simp only [Prod.mk.injEq] at h
   obtain ⟨rfl,rfl,_⟩:=h
   obtain ⟨post,e1,e2,e3⟩:=pN_of (hb.drop _) hp
   refine ⟨b.take a.toNat,post,?_,by rw [List.length_take];omega,by rw [e2],by omega,by omega⟩
   rw [← e1,List.take_append_drop]
  ·cases h
 ·cases h
theorem gN_range {b:List Int} (hb:okB b) {a:Int} (h:(gN b a).2.2=true):0≤a∧a<(gN b a).2.1∧(gN b a).2.1≤b.length∧0≤(gN b a).1∧(gN b a).1≤1000000000:=by
 obtain ⟨pre,post,e1,e2,e3,e4,e5⟩:=gN_of hb (a:=a) (n:=(gN b a).1) (p:=(gN b a).2.1) (by rw [← h])
 have hlen:=congrArg List.length e1
 simp only [List.length_append] at hlen
 have:1≤(numB (gN b a).1).length:=by simp [numB]
 omega
theorem wraps4 {len p n:Int} (hl:0≤len∧len≤1048576) (hp:0≤p∧p≤len) (hn:0≤n∧n≤1000000000):IntKind.wrap .i64 (len - p)=len - p∧IntKind.wrap .i64 (len - p - 4)=len - p - 4∧IntKind.wrap .i64 (p+n)=p+n∧IntKind.wrap .i64 (p+n+4)=p+n+4 :=
 ⟨wrap64 (by omega) (by omega),wrap64 (by omega) (by omega),wrap64 (by omega) (by omega),wrap64 (by omega) (by omega)⟩
theorem okB.right {a b:List Int} (h:okB (a++b)):okB b:=fun c hc=>h c (List.mem_append_right _ hc)
/-- A record's frame: a number, so many bytes, four more. -/
theorem getHead {b:List Int} (hb:okB b) (hl:b.length≤1048576) {a n p:Int} (h:gN b a=(n,p,true)) (hn:¬ n > (b.length:Int) - p - 4):∃ pre body s4 rest:List Int,b=pre++(numB n++(body++(s4++rest)))∧a=pre.length∧p=a+(numB n).length∧(body.length:Int)=n∧s4.length=4∧n≤1000000000∧0≤n∧okB body∧okB s4:=by
 obtain ⟨pre,post,e,ea,ep,h0,h1⟩:=gN_of hb h
 have hlen:=congrArg List.length e
 simp only [List.length_append] at hlen
 have hp:okB post:=okB.right (okB.right (by rw [← e];exact hb))
 refine ⟨pre,post.take n.toNat,(post.drop n.toNat).take 4,(post.drop n.toNat).drop 4,by rw [List.take_append_drop,List.take_append_drop];exact e,ea,ep,?_,?_,h1,h0,hp.take _,(hp.drop _).take _⟩
 ·rw [List.length_take];omega
 ·rw [List.length_take,List.length_drop];omega
theorem cutL {b x y z:List Int} {i j:Int} (e:b=x++(y++z)) (hi:i=(x.length:Int)) (hj:j=(x.length:Int)+(y.length:Int)):(b.take j.toNat).drop i.toNat=y:=by
 rw [e,← List.append_assoc,List.take_left' (by rw [List.length_append];omega),List.drop_left' (by omega)]
noncomputable def padF (n:Nat):Nat:=(64 - (n+8) % 64) % 64
theorem ipad0 (a:List Int) (ha:a.length≤1000000000000) (h:List Int) (hh:h.length=a.length+1) :
  (it_iPadded_0 a h).1=0∧(it_iPadded_0 a h).2.1=a∧((it_iPadded_0 a h).2.2.length+8) % 64=0∧(it_iPadded_0 a h).2.2.length≤a.length+64:=by
 refine itX_inv (v:=(a,h)) (fun (v:V_iPadded_0)=>v.1=a∧v.2.length+padF v.2.length≤a.length+64)
  (fun (x:A_iPadded_0)=>x.1=0∧x.2.1=a∧(x.2.2.length+8) % 64=0∧x.2.2.length≤a.length+64) (fun v=>padF v.2.length) ?_ ⟨rfl,by simp only [padF];omega⟩ (by simp only [padF];omega)
 rintro ⟨a1,l⟩ ⟨h1,h4⟩
 simp only at h1 h4
 subst h1
 simp only [padF] at h4
 have e1:IntKind.wrap .i64 (((l.length:Nat):Int)+(8:Int))=((l.length+8:Nat):Int):=by rw [w64c _ (by omega) (by omega)];omega
 have t1:Int.tmod ((l.length+8:Nat):Int) 64=(((l.length+8) % 64:Nat):Int):=by rw [Int.tmod_eq_emod_of_nonneg (by omega)];omega
 by_cases hm:(l.length+8) % 64=0
 ·refine .inr ⟨(0,a1,l),?_,rfl,rfl,hm,by simp only;omega⟩
  simp only [ss_iPadded_0,e1,t1,hm];rfl
 ·refine .inl ⟨(a1,l++[0]),?_,⟨rfl,by simp only [padF,List.length_append,List.length_singleton];omega⟩,by simp only [padF,List.length_append,List.length_singleton];omega⟩
  have c1:((((l.length+8) % 64:Nat):Int) != (0:Int))=true:=by simp only [bne_iff_ne,ne_eq];omega
  simp only [ss_iPadded_0,e1,t1,c1,cond_true,List.length_singleton]
  rw [decide_eq_true (by simp only [MAXB];omega)];rfl
theorem ipad1 (n:Int) (h:List Int) (hh:h.length≤1000000000100) :
  (it_iPadded_1 n 7 h).1=0∧(it_iPadded_1 n 7 h).2.length=h.length+8:=by
 refine itX_inv (v:=(n,(7:Int),h)) (fun (v:V_iPadded_1)=>v.1=n∧(-1≤v.2.1∧v.2.1≤7)∧(v.2.2.length:Int)=(h.length:Int)+(7 - v.2.1))
  (fun (x:A_iPadded_1)=>x.1=0∧x.2.length=h.length+8) (fun v=>(v.2.1+1).toNat) ?_ ⟨rfl,⟨by simp only;omega,by simp only;omega⟩,by simp only;omega⟩ (by simp only;decide)
 rintro ⟨n2,i,l⟩ ⟨h1,h4,h6⟩
 simp only at h1 h4 h6
 subst h1
 by_cases hi:0≤i
 ·have e0 : IntKind.wrap .u64 (8 * i) = 8 * i := by
   have:IntKind.wrap .u64 (8*i)=(8*i) % 18446744073709551616:=by simp [IntKind.wrap,IntKind.bits,IntKind.signed]
   rw [this];omega
  refine .inl ⟨(n2,i - 1,l++[IntKind.wrap .u8 (Int.fdiv n2 (2 ^ (min (Int.toNat (8*i)) (IntKind.bits .i64))))]),?_,⟨rfl,by simp only;omega,by simp only [List.length_append,List.length_singleton];omega⟩,by simp only;omega⟩
  simp only [ss_iPadded_1,w64c (8*i) (by omega) (by omega),e0,wrap64 (n:=i - 1) (by omega) (by omega),decide_eq_true (show i ≥ 0 from hi),cond_true,List.length_singleton]
  rw [decide_eq_true (by omega),decide_eq_true (by simp only [MAXB];omega)];rfl
 ·refine .inr ⟨(0,l),?_,rfl,by simp only;omega⟩
  simp only [ss_iPadded_1,decide_eq_false (show ¬ i ≥ 0 from hi),cond_false]
theorem ipadded_ok (a:List Int) (ha:a.length≤1000000000000):q_iPadded a=true∧(iPadded a).length % 64=0∧0<(iPadded a).length∧(iPadded a).length≤a.length+72:=by
 obtain ⟨a1,a3,a6,a7⟩:=ipad0 a ha (a++[128]) (by simp)
 obtain ⟨b1,b4⟩:=ipad1 (IntKind.wrap .i64 ((8:Int)*(a.length:Int))) (it_iPadded_0 a (a++[128])).2.2 (by omega)
 have ei:k1_iPadded a=it_iPadded_1 (IntKind.wrap .i64 ((8:Int)*(a.length:Int))) 7 (it_iPadded_0 a (a++[128])).2.2:=by
  simp only [k1_iPadded,slices_Clone_byte,a3]
 refine ⟨?_,?_,?_,?_⟩
 ·have q1:q_slices_Clone_byte a=true:=decide_eq_true (by simp only [MAXB,List.length_nil];omega)
  simp only [q_iPadded,q1,slices_Clone_byte,a1,ei,b1,List.length_singleton,Bool.true_and,beq_self_eq_true,Bool.and_true]
  exact decide_eq_true (by simp only [MAXB];omega)
 ·simp only [iPadded,ei,b4];omega
 ·simp only [iPadded,ei,b4];omega
 ·simp only [iPadded,ei,b4];omega
theorem digBytesN_len (h:List Int):(digBytes h).length=4*h.length:=by
 induction h with
 | nil=>rfl
 | cons x h ih=>simp only [digBytes,List.flatMap_cons,List.length_append,List.length_cons,List.length_nil] at ih ⊢;omega
theorem digH_len (p:List Int):(digH p).length=8:=by
 have key:∀ n,64*n≤p.length→((List.range n).foldl (fun h i=>(iturnBlock ((p.drop (64*i)).take 64) h irounds).1) hinit).length=8:=by
  intro n
  induction n with
  | zero=>intro _;rfl
  | succ n ih =>
   intro hn
   rw [List.range_succ,List.foldl_append]
   exact (turn_ok _ _ (by simp only [List.length_take,List.length_drop];omega) (ih (by omega))).2.1
 exact key _ (by omega)
theorem strInts_ok (s:ByteArray):okB (strInts s):=by
 intro c hc
 simp only [strInts,List.mem_map] at hc
 obtain ⟨x,_,rfl⟩:=hc
 have:=x.toNat_lt
 omega
theorem idig_ok (b:List Int) (hl:b.length≤1000000000000):q_iDigest b=true∧(iDigest b).size=32∧(digB4 b).length=4∧okB (digB4 b):=by
 obtain ⟨p1,p2,p3,p4⟩:=ipadded_ok b hl
 have hs:(iDigest b).size=32:=by
  have:(iDigest b).size=(digBytes (digH (iPadded b))).length:=by
   show (((digBytes _).map _).toArray).size=_
   simp
  rw [this,digBytesN_len,digH_len]
 refine ⟨?_,hs,?_,strInts_ok _⟩
 ·simp only [q_iDigest,p1,Bool.true_and,Bool.and_eq_true,decide_eq_true_eq];omega
 ·simp only [digB4,strInts_len,ByteArray.size_extract,hs];rfl
noncomputable def AllB (l:List Int):Prop:=∀ x∈l,0≤x∧x<256
theorem AllB.app {l m:List Int} (h:AllB l) (h2:AllB m):AllB (l++m):=fun x hx=>by
 rcases List.mem_append.1 hx with hx | hx
 ·exact h x hx
 ·exact h2 x hx
theorem pad0_same (a:List Int) (ha:a.length≤1000000000000) (hb:AllB a) (h:List Int) (hh:h.length=a.length+1) (hB:AllB h) :
  (it_iPadded_0 a h).1=0∧(it_sPadded_0 a h).1=0∧(it_iPadded_0 a h).2.1=a∧(it_sPadded_0 a h).2.1=a∧(it_iPadded_0 a h).2.2=(it_sPadded_0 a h).2.2∧((it_sPadded_0 a h).2.2.length+8) % 64=0∧(it_sPadded_0 a h).2.2.length≤a.length+64∧AllB (it_sPadded_0 a h).2.2:=by
 refine itX_sim (v:=(a,h)) (w:=(a,h)) (fun (v:V_iPadded_0) (w:V_sPadded_0)=>v.1=a∧w.1=a∧v.2=w.2∧v.2.length+padF v.2.length≤a.length+64∧AllB v.2)
  (fun (x:A_iPadded_0) (y:A_sPadded_0)=>x.1=0∧y.1=0∧x.2.1=a∧y.2.1=a∧x.2.2=y.2.2∧(y.2.2.length+8) % 64=0∧y.2.2.length≤a.length+64∧AllB y.2.2) (fun v=>padF v.2.length) ?_ ⟨rfl,rfl,rfl,by simp only [padF];omega,hB⟩ (by simp only [padF];omega)
 rintro ⟨a1,l⟩ ⟨a2,l2⟩ ⟨h1,h2,h3,h4,h5⟩
 simp only at h1 h2 h3 h4 h5
 subst h1;subst h2;subst h3
 simp only [padF] at h4
 have e1:IntKind.wrap .i64 (((l.length:Nat):Int)+(8:Int))=((l.length+8:Nat):Int):=by rw [w64c _ (by omega) (by omega)];omega
 have t1:Int.tmod ((l.length+8:Nat):Int) 64=(((l.length+8) % 64:Nat):Int):=by rw [Int.tmod_eq_emod_of_nonneg (by omega)];omega
 have t2:Int.tmod ((l.length:Nat):Int) 64=((l.length % 64:Nat):Int):=by rw [Int.tmod_eq_emod_of_nonneg (by omega)];omega
 by_cases hm:(l.length+8) % 64=0
 ·refine .inr ⟨(0,a2,l),(0,a2,l),?_,?_,rfl,rfl,rfl,rfl,rfl,hm,by simp only;omega,h5⟩
  ·simp only [ss_iPadded_0,e1,t1,hm];rfl
  ·simp only [ss_sPadded_0,t2,show l.length % 64=56 by omega];rfl
 ·refine .inl ⟨(a2,l++[0]),(a2,l++[0]),?_,?_,⟨rfl,rfl,rfl,by simp only [padF,List.length_append,List.length_singleton];omega,h5.app (fun x hx=>by rw [List.mem_singleton.1 hx];exact ⟨by decide,by decide⟩)⟩,by simp only [padF,List.length_append,List.length_singleton];omega⟩
  ·have c1:((((l.length+8) % 64:Nat):Int) != (0:Int))=true:=by simp only [bne_iff_ne,ne_eq];omega
   simp only [ss_iPadded_0,e1,t1,c1,cond_true,List.length_singleton]
   rw [decide_eq_true (by simp only [MAXB];omega)];rfl
  ·have c1:(((l.length % 64:Nat):Int) != (56:Int))=true:=by simp only [bne_iff_ne,ne_eq];omega
   simp only [ss_sPadded_0,t2,c1,cond_true,List.length_singleton]
   rw [decide_eq_true (by simp only [MAXB];omega)];rfl
theorem w8B (n:Int):0≤IntKind.wrap .u8 n∧IntKind.wrap .u8 n<256:=by
 have:IntKind.wrap .u8 n=n % 256:=by simp [IntKind.wrap,IntKind.bits,IntKind.signed]
 rw [this];exact ⟨Int.emod_nonneg _ (by decide),Int.emod_lt_of_pos _ (by decide)⟩
theorem pad1_same (n:Int) (h:List Int) (hh:h.length≤1000000000100) (hB:AllB h) :
  (it_iPadded_1 n 7 h).1=0∧(it_sPadded_1 n 56 h).1=0∧(it_iPadded_1 n 7 h).2=(it_sPadded_1 n 56 h).2∧(it_sPadded_1 n 56 h).2.length=h.length+8∧AllB (it_sPadded_1 n 56 h).2:=by
 refine itX_sim (v:=(n,(7:Int),h)) (w:=(n,(56:Int),h)) (fun (v:V_iPadded_1) (w:V_sPadded_1)=>v.1=n∧w.1=n∧v.2.2=w.2.2∧(-1≤v.2.1∧v.2.1≤7)∧w.2.1=8*v.2.1∧(v.2.2.length:Int)=(h.length:Int)+(7 - v.2.1)∧AllB v.2.2)
  (fun (x:A_iPadded_1) (y:A_sPadded_1)=>x.1=0∧y.1=0∧x.2=y.2∧y.2.length=h.length+8∧AllB y.2) (fun v=>(v.2.1+1).toNat) ?_ ⟨rfl,rfl,rfl,⟨by simp only;omega,by simp only;omega⟩,by simp only;omega,by simp only;omega,hB⟩ (by simp only;decide)
 rintro ⟨n1,i,l⟩ ⟨n2,j,l2⟩ ⟨h1,h2,h3,h4,h5,h6,h7⟩
 simp only at h1 h2 h3 h4 h5 h6 h7
 subst h1;subst h2;subst h3;subst h5
 by_cases hi:0≤i
 ·have e0 : IntKind.wrap .u64 (8 * i) = 8 * i := by
   have:IntKind.wrap .u64 (8*i)=(8*i) % 18446744073709551616:=by simp [IntKind.wrap,IntKind.bits,IntKind.signed]
   rw [this];omega
  refine .inl ⟨(n2,i - 1,l++[IntKind.wrap .u8 (Int.fdiv n2 (2 ^ (min (Int.toNat (8*i)) (IntKind.bits .i64))))]),(n2,8*i - 8,l++[IntKind.wrap .u8 (Int.fdiv n2 (2 ^ (min (Int.toNat (8*i)) (IntKind.bits .i64))))]),?_,?_,⟨rfl,rfl,rfl,by simp only;omega,by simp only;omega,by simp only [List.length_append,List.length_singleton];omega,h7.app (fun x hx=>by rw [List.mem_singleton.1 hx];exact w8B _)⟩,by simp only;omega⟩
  ·simp only [ss_iPadded_1,w64c (8*i) (by omega) (by omega),e0,wrap64 (n:=i - 1) (by omega) (by omega),decide_eq_true (show i ≥ 0 from hi),cond_true,List.length_singleton]
   rw [decide_eq_true (by omega),decide_eq_true (by simp only [MAXB];omega)];rfl
  ·simp only [ss_sPadded_1,e0,wrap64 (n:=8*i - 8) (by omega) (by omega),decide_eq_true (show 8*i ≥ 0 by omega),cond_true,List.length_singleton]
   rw [decide_eq_true (show _≤_ from by simp only [MAXB];omega)];rfl
 ·refine .inr ⟨(0,l),(0,l),?_,?_,rfl,rfl,rfl,by simp only;omega,h7⟩
  ·simp only [ss_iPadded_1,decide_eq_false (show ¬ i ≥ 0 from hi),cond_false]
  ·simp only [ss_sPadded_1,decide_eq_false (show ¬ 8*i ≥ 0 by omega),cond_false]
theorem padded_same (a:List Int) (ha:a.length≤1000000000000) (hb:AllB a):q_iPadded a=true∧q_sPadded a=true∧iPadded a=sPadded a∧(sPadded a).length % 64=0∧0<(sPadded a).length∧(sPadded a).length≤a.length+72∧AllB (sPadded a):=by
 have h128:AllB (a++[128]):=hb.app (fun x hx=>by rw [List.mem_singleton.1 hx];exact ⟨by decide,by decide⟩)
 obtain ⟨a1,a2,a3,a4,a5,a6,a7,a8⟩:=pad0_same a ha hb (a++[128]) (by simp) h128
 obtain ⟨b1,b2,b3,b4,b5⟩:=pad1_same (IntKind.wrap .i64 ((8:Int)*(a.length:Int))) (it_sPadded_0 a (a++[128])).2.2 (by omega) a8
 have ei:k1_iPadded a=it_iPadded_1 (IntKind.wrap .i64 ((8:Int)*(a.length:Int))) 7 (it_sPadded_0 a (a++[128])).2.2:=by
  simp only [k1_iPadded,slices_Clone_byte,a3,a5]
 have es:k1_sPadded a=it_sPadded_1 (IntKind.wrap .i64 ((8:Int)*(a.length:Int))) 56 (it_sPadded_0 a (a++[128])).2.2:=by
  simp only [k1_sPadded,List.nil_append,a4,Int.mul_comm]
 have e1:iPadded a=sPadded a:=by simp only [iPadded,sPadded,ei,es,b3]
 refine ⟨?_,?_,e1,?_,?_,?_,?_⟩
 ·have q1:q_slices_Clone_byte a=true:=decide_eq_true (by simp only [MAXB,List.length_nil];omega)
  simp only [q_iPadded,q1,slices_Clone_byte,a1,ei,b1,List.length_singleton,Bool.true_and,beq_self_eq_true,Bool.and_true]
  exact decide_eq_true (by simp only [MAXB];omega)
 ·simp only [q_sPadded,List.nil_append,a2,es,b2,List.length_singleton,List.length_nil,List.length_append,beq_self_eq_true,Bool.and_true,Bool.and_eq_true,decide_eq_true_eq,MAXB]
  exact ⟨decide_eq_true (by omega),decide_eq_true (by omega)⟩
 ·simp only [sPadded,es,b4];omega
 ·simp only [sPadded,es,b4];omega
 ·simp only [sPadded,es,b4];omega
 ·simp only [sPadded,es];exact b5
noncomputable def foldS (p:List Int) (n:Nat):List Int:=(List.range n).foldl (fun h i=>sl2Block h ((p.drop (64*i)).take 64) sl2K) hinit
noncomputable def Wd (x:Int):Prop:=0≤x∧x<4294967296
noncomputable def AllW (l:List Int):Prop:=∀ x∈l,Wd x
theorem hinitW:AllW hinit:=by
 intro x hx
 have:hinit.all (fun x=>decide (0≤x∧x<4294967296))=true:=by decide
 exact of_decide_eq_true (p:=0≤x∧x<4294967296) (List.all_eq_true.1 this x hx)
theorem w32 (n:Int):IntKind.wrap .u32 n=n % 4294967296:=by simp [IntKind.wrap,IntKind.bits,IntKind.signed]
theorem w32n {n:Nat} (h:n<4294967296):IntKind.wrap .u32 (n:Int)=(n:Int):=by rw [w32];omega
theorem w64n {n:Nat} (h:n<9223372036854775808):IntKind.wrap .i64 (n:Int)=(n:Int):=wrap64 (by omega) (by omega)
theorem natW {n:Nat} (h:n<4294967296):Wd (n:Int):=⟨by omega,by omega⟩
theorem byteS {x:Int} (h:0≤x∧x<256) (k:Nat) (hk:k≤24):IntKind.wrap .u32 (IntKind.wrap .u32 x*2 ^ k)=IntKind.wrap .i64 (IntKind.wrap .i64 x*2 ^ k)∧Wd (IntKind.wrap .u32 (IntKind.wrap .u32 x*2 ^ k)):=by
 obtain ⟨a,rfl⟩:∃ a:Nat,x=(a:Int):=⟨x.toNat,by omega⟩
 have hp:2 ^ k≤2 ^ 24:=Nat.pow_le_pow_right (by decide) hk
 have h1:a*2 ^ k<4294967296:=by
  calc a*2 ^ k≤a*2 ^ 24:=Nat.mul_le_mul_left _ hp
   _<4294967296:=by omega
 have e1:(a:Int)*2 ^ k=((a*2 ^ k:Nat):Int):=by push_cast;rfl
 rw [w32n (n:=a) (by omega),w64n (n:=a) (by omega),e1,w32n h1,w64n (by omega)]
 exact ⟨rfl,natW h1⟩
theorem byte0 {x:Int} (h:0≤x∧x<256):IntKind.wrap .u32 x=IntKind.wrap .i64 x∧Wd (IntKind.wrap .u32 x):=by
 obtain ⟨a,rfl⟩:∃ a:Nat,x=(a:Int):=⟨x.toNat,by omega⟩
 rw [w32n (n:=a) (by omega),w64n (n:=a) (by omega)]
 exact ⟨rfl,natW (by omega)⟩
theorem bvn {k x:Nat} (h:x<2 ^ k):(BitVec.ofInt k (x:Int)).toNat=x:=by
 rw [BitVec.ofInt_natCast,BitVec.toNat_ofNat,Nat.mod_eq_of_lt h]
theorem or32 {x y:Nat} (hx:x<4294967296) (hy:y<4294967296):ior .u32 (x:Int) (y:Int)=((x ||| y:Nat):Int):=by
 unfold ior
 rw [BitVec.toNat_or,show IntKind.bits .u32=32 from rfl,bvn (k:=32) hx,bvn (k:=32) hy]
 exact w32n (Nat.or_lt_two_pow (n:=32) hx hy)
theorem or64 {x y:Nat} (hx:x<9223372036854775808) (hy:y<9223372036854775808):ior .i64 (x:Int) (y:Int)=((x ||| y:Nat):Int):=by
 unfold ior
 rw [BitVec.toNat_or,show IntKind.bits .i64=64 from rfl,bvn (k:=64) (by omega),bvn (k:=64) (by omega)]
 exact w64n (Nat.or_lt_two_pow (n:=63) hx hy)
theorem Wd.nat {x:Int} (h:Wd x):∃ n:Nat,x=(n:Int)∧n<4294967296:=⟨x.toNat,by have:=h.1;omega,by have:=h.1;have:=h.2;omega⟩
theorem orS {x y:Int} (hx:Wd x) (hy:Wd y):ior .u32 x y=ior .i64 x y∧Wd (ior .u32 x y):=by
 obtain ⟨a,rfl,ha⟩:=hx.nat
 obtain ⟨b,rfl,hb⟩:=hy.nat
 rw [or32 ha hb,or64 (by omega) (by omega)]
 exact ⟨rfl,natW (Nat.or_lt_two_pow (n:=32) ha hb)⟩
/-- A word of a block. -/
theorem word_in {a b c d:Int} (ha:0≤a∧a<256) (hb:0≤b∧b<256) (hc:0≤c∧c<256) (hd:0≤d∧d<256) :
  ior .u32 (ior .u32 (ior .u32 (IntKind.wrap .u32 (IntKind.wrap .u32 a*2 ^ (24))) (IntKind.wrap .u32 (IntKind.wrap .u32 b*2 ^ (16)))) (IntKind.wrap .u32 (IntKind.wrap .u32 c*2 ^ (8)))) (IntKind.wrap .u32 d) =
  ior .i64 (ior .i64 (ior .i64 (IntKind.wrap .i64 (IntKind.wrap .i64 a*2 ^ (24))) (IntKind.wrap .i64 (IntKind.wrap .i64 b*2 ^ (16)))) (IntKind.wrap .i64 (IntKind.wrap .i64 c*2 ^ (8)))) (IntKind.wrap .i64 d) ∧
  Wd (ior .u32 (ior .u32 (ior .u32 (IntKind.wrap .u32 (IntKind.wrap .u32 a*2 ^ (24))) (IntKind.wrap .u32 (IntKind.wrap .u32 b*2 ^ (16)))) (IntKind.wrap .u32 (IntKind.wrap .u32 c*2 ^ (8)))) (IntKind.wrap .u32 d)):=by
 obtain ⟨a1,a2⟩:=byteS ha 24 (by decide)
 obtain ⟨b1,b2⟩:=byteS hb 16 (by decide)
 obtain ⟨c1,c2⟩:=byteS hc 8 (by decide)
 obtain ⟨d1,d2⟩:=byte0 hd
 rw [← a1,← b1,← c1,← d1]
 obtain ⟨e1,e2⟩:=orS a2 b2
 rw [← e1]
 obtain ⟨f1,f2⟩:=orS e2 c2
 rw [← f1]
 obtain ⟨g1,g2⟩:=orS f2 d2
 exact ⟨g1,g2⟩
theorem set_grow {l:List Int} {k:Nat} (x:Int) (hk:0<k):(l++List.replicate k 0).set l.length x=(l++[x])++List.replicate (k - 1) 0:=by
 obtain ⟨j,rfl⟩:∃ j,k=j+1:=⟨k - 1,by omega⟩
 rw [List.set_append_right _ _ (Nat.le_refl _),Nat.sub_self,List.replicate_succ]
 simp
theorem AllB.at {l:List Int} (h:AllB l) {i:Nat} (hi:i<l.length):0≤l.getD i 0∧l.getD i 0<256:=by
 rw [List.getD_eq_getElem?_getD,List.getElem?_eq_getElem hi];exact h _ (List.getElem_mem hi)
theorem AllW.at {l:List Int} (h:AllW l) (i:Nat):Wd (l.getD i 0):=by
 rcases Nat.lt_or_ge i l.length with hi | hi
 ·rw [List.getD_eq_getElem?_getD,List.getElem?_eq_getElem hi];exact h _ (List.getElem_mem hi)
 ·rw [List.getD_eq_getElem?_getD,List.getElem?_eq_none hi];exact ⟨by decide,by decide⟩
theorem AllW.snoc {l:List Int} (h:AllW l) {x:Int} (hx:Wd x):AllW (l++[x]):=fun y hy=>by
 rcases List.mem_append.1 hy with hy | hy
 ·exact h y hy
 ·rw [List.mem_singleton.1 hy];exact hx
theorem words0_same (c:List Int) (hc:c.length=64) (hb:AllB c):(it_sl2Words_0 c 0 []).1=0∧(it_iwordsOf_0 c 0 (List.replicate 64 0)).2=(it_sl2Words_0 c 0 []).2++List.replicate 48 0∧(it_sl2Words_0 c 0 []).2.length=16∧AllW (it_sl2Words_0 c 0 []).2:=by
 refine itX_sim (v:=(c,(0:Int),List.replicate 64 (0:Int))) (w:=(c,(0:Int),([]:List Int)))
  (fun (v:V_iwordsOf_0) (w:V_sl2Words_0)=>v.1=c∧w.1=c∧v.2.1=w.2.1∧(0≤v.2.1∧v.2.1≤16)∧v.2.1=(w.2.2.length:Int)∧v.2.2=w.2.2++List.replicate (64 - w.2.2.length) 0∧AllW w.2.2)
  (fun (a:A_iwordsOf_0) (b:A_sl2Words_0)=>b.1=0∧a.2=b.2++List.replicate 48 0∧b.2.length=16∧AllW b.2) (fun v=>(16 - v.2.1).toNat) ?_ ⟨rfl,rfl,rfl,⟨by simp only;omega,by simp only;omega⟩,rfl,rfl,fun x hx=>by simp at hx⟩ (by simp only;decide)
 rintro ⟨c1,i,l⟩ ⟨c2,j,ws⟩ ⟨h1,h2,h3,h4,h5,h6,h7⟩
 simp only at h1 h2 h3 h4 h5 h6 h7
 subst h1;subst h2;subst h3
 by_cases hi:i<16
 ·obtain ⟨n,rfl⟩:∃ n:Nat,i=(n:Int):=⟨ws.length,h5⟩
  have hn:n=ws.length:=by omega
  obtain ⟨e,ew⟩:=word_in (hb.at (i:=4*n) (by omega)) (hb.at (i:=4*n+1) (by omega)) (hb.at (i:=4*n+2) (by omega)) (hb.at (i:=4*n+3) (by omega))
  refine .inl ⟨(c2,(n:Int)+1,(ws++[_])++List.replicate (64 - ws.length - 1) 0),(c2,(n:Int)+1,ws++[_]),?_,?_,⟨rfl,rfl,rfl,by simp only;omega,by simp only [List.length_append,List.length_singleton];omega,by simp only [List.length_append,List.length_singleton];rw [Nat.sub_sub],h7.snoc ew⟩,by simp only;omega⟩
  ·simp only [ss_iwordsOf_0,w64c (4*(n:Int)) (by omega) (by omega),w64c (4*(n:Int)+1) (by omega) (by omega),w64c (4*(n:Int)+2) (by omega) (by omega),w64c (4*(n:Int)+3) (by omega) (by omega),w64c ((n:Int)+1) (by omega) (by omega),decide_eq_true hi,cond_true]
   rw [decide_eq_true (by omega),decide_eq_true (by omega),decide_eq_true (by omega),decide_eq_true (by omega),decide_eq_true (by rw [h6];simp only [List.length_append,List.length_replicate];omega)]
   simp only [cond_true]
   rw [h6,show ((n:Int)).toNat=ws.length by omega,set_grow _ (by omega)]
   rw [show (4*(n:Int)).toNat=4*n by omega,show (4*(n:Int)+1).toNat=4*n+1 by omega,show (4*(n:Int)+2).toNat=4*n+2 by omega,show (4*(n:Int)+3).toNat=4*n+3 by omega]
  ·simp only [ss_sl2Words_0,w64c (4*(n:Int)) (by omega) (by omega),w64c (4*(n:Int)+1) (by omega) (by omega),w64c (4*(n:Int)+2) (by omega) (by omega),w64c (4*(n:Int)+3) (by omega) (by omega),w64c ((n:Int)+1) (by omega) (by omega),decide_eq_true hi,cond_true,List.length_singleton]
   rw [decide_eq_true (by omega),decide_eq_true (by omega),decide_eq_true (by omega),decide_eq_true (by omega),decide_eq_true (by simp only [MAXB];omega)]
   simp only [cond_true]
   rw [show (4*(n:Int)).toNat=4*n by omega,show (4*(n:Int)+1).toNat=4*n+1 by omega,show (4*(n:Int)+2).toNat=4*n+2 by omega,show (4*(n:Int)+3).toNat=4*n+3 by omega]
   rw [← e]
 ·have hl:ws.length=16:=by omega
  refine .inr ⟨(0,l),(0,ws),?_,?_,rfl,?_,hl,h7⟩
  ·simp only [ss_iwordsOf_0,decide_eq_false hi,cond_false]
  ·simp only [ss_sl2Words_0,decide_eq_false hi,cond_false]
  ·rw [h6,hl]
theorem and64 {x y:Nat} (hx:x<9223372036854775808) (hy:y<9223372036854775808):iand .i64 (x:Int) (y:Int)=((x &&& y:Nat):Int):=by
 unfold iand
 rw [BitVec.toNat_and,show IntKind.bits .i64=64 from rfl,bvn (k:=64) (by omega),bvn (k:=64) (by omega)]
 exact w64n (Nat.and_lt_two_pow (n:=63) x hy)
theorem mask_eq {n:Int} (h0:0≤n) (h1:n<9223372036854775808):iand .i64 n (4294967295:Int)=n % 4294967296:=by
 obtain ⟨a,rfl⟩:∃ a:Nat,n=(a:Int):=⟨n.toNat,by omega⟩
 have:=and64 (x:=a) (y:=4294967295) (by omega) (by omega)
 rw [show ((4294967295:Nat):Int)=(4294967295:Int) from rfl] at this
 rw [this,show a &&& 4294967295=a % 4294967296 from Nat.and_two_pow_sub_one_eq_mod a 32]
 omega
theorem rot_gen {x:Int} (hx:Wd x) (r s:Nat) (hs:s<32) :
  ior .u32 (IntKind.wrap .u32 (x*2 ^ s)) (Int.fdiv x (2 ^ r))=iand .i64 (ior .i64 (Int.fdiv x (2 ^ r)) (IntKind.wrap .i64 (x*2 ^ s))) (4294967295:Int)∧Wd (ior .u32 (IntKind.wrap .u32 (x*2 ^ s)) (Int.fdiv x (2 ^ r))):=by
 obtain ⟨a,rfl,ha⟩:=hx.nat
 have e1:(a:Int)*2 ^ s=((a*2 ^ s:Nat):Int):=by push_cast;rfl
 have e2:Int.fdiv (a:Int) (2 ^ r)=((a / 2 ^ r:Nat):Int):=by
  have:((2:Int) ^ r)=((2 ^ r:Nat):Int):=by push_cast;rfl
  rw [this];exact (Int.ofNat_fdiv a (2 ^ r)).symm
 have hp:2 ^ s≤2 ^ 31:=Nat.pow_le_pow_right (by decide) (by omega)
 have h1:a*2 ^ s<9223372036854775808:=by
  calc a*2 ^ s≤a*2 ^ 31:=Nat.mul_le_mul_left _ hp
   _<9223372036854775808:=by omega
 have h2:a / 2 ^ r<4294967296:=Nat.lt_of_le_of_lt (Nat.div_le_self _ _) ha
 have h3:(a*2 ^ s) % 4294967296<4294967296:=Nat.mod_lt _ (by decide)
 have e3:((a*2 ^ s:Nat):Int) % 4294967296=(((a*2 ^ s) % 4294967296:Nat):Int):=by omega
 rw [e1,e2,w32,e3,or32 h3 h2,w64n h1,or64 (by omega) h1]
 refine ⟨?_,natW (Nat.or_lt_two_pow (n:=32) h3 h2)⟩
 have h4:(a / 2 ^ r ||| a*2 ^ s)<9223372036854775808:=Nat.or_lt_two_pow (n:=63) (by omega) h1
 rw [mask_eq (by omega) (by omega)]
 have h5:(a / 2 ^ r ||| a*2 ^ s) % 4294967296=(a*2 ^ s) % 4294967296 ||| a / 2 ^ r:=by
  rw [show (4294967296:Nat)=2 ^ 32 from rfl,Nat.or_mod_two_pow,Nat.mod_eq_of_lt (a:=a / 2 ^ r) (b:=2 ^ 32) h2,Nat.or_comm]
 rw [← h5];omega
theorem rot_is {x:Int} (hx:Wd x) (r:Nat) (s:Nat) (hs:s<32) (k:Int) (h1:min (Int.toNat (iand .u64 (IntKind.wrap .u64 k) (31:Int))) (IntKind.bits .u32)=s) (h2:min (Int.toNat (IntKind.wrap .u64 ((32:Int) - (iand .u64 (IntKind.wrap .u64 k) (31:Int))))) (IntKind.bits .u32)=r)
  (h3:min (Int.toNat (IntKind.wrap .u64 (r:Int))) (IntKind.bits .i64)=r) (h4:min (Int.toNat (IntKind.wrap .u64 (IntKind.wrap .i64 ((32:Int) - (r:Int))))) (IntKind.bits .i64)=s) :
  math_bits_RotateLeft32 x k=sl2Turn x (r:Int)∧Wd (math_bits_RotateLeft32 x k):=by
 simp only [math_bits_RotateLeft32,sl2Turn,h1,h2,h3,h4]
 exact rot_gen hx r s hs
theorem rot7 {x:Int} (hx:Wd x):math_bits_RotateLeft32 x (-7)=sl2Turn x 7∧Wd (math_bits_RotateLeft32 x (-7)):=rot_is hx 7 25 (by decide) (-7) (by decide) (by decide) (by decide) (by decide)
theorem rot18 {x:Int} (hx:Wd x):math_bits_RotateLeft32 x (-18)=sl2Turn x 18∧Wd (math_bits_RotateLeft32 x (-18)):=rot_is hx 18 14 (by decide) (-18) (by decide) (by decide) (by decide) (by decide)
theorem rot17 {x:Int} (hx:Wd x):math_bits_RotateLeft32 x (-17)=sl2Turn x 17∧Wd (math_bits_RotateLeft32 x (-17)):=rot_is hx 17 15 (by decide) (-17) (by decide) (by decide) (by decide) (by decide)
theorem rot19 {x:Int} (hx:Wd x):math_bits_RotateLeft32 x (-19)=sl2Turn x 19∧Wd (math_bits_RotateLeft32 x (-19)):=rot_is hx 19 13 (by decide) (-19) (by decide) (by decide) (by decide) (by decide)
theorem xor32 {x y:Nat} (hx:x<4294967296) (hy:y<4294967296):ixor .u32 (x:Int) (y:Int)=((x ^^^ y:Nat):Int):=by
 unfold ixor
 rw [BitVec.toNat_xor,show IntKind.bits .u32=32 from rfl,bvn (k:=32) hx,bvn (k:=32) hy]
 exact w32n (Nat.xor_lt_two_pow (n:=32) hx hy)
theorem xor64 {x y:Nat} (hx:x<9223372036854775808) (hy:y<9223372036854775808):ixor .i64 (x:Int) (y:Int)=((x ^^^ y:Nat):Int):=by
 unfold ixor
 rw [BitVec.toNat_xor,show IntKind.bits .i64=64 from rfl,bvn (k:=64) (by omega),bvn (k:=64) (by omega)]
 exact w64n (Nat.xor_lt_two_pow (n:=63) hx hy)
theorem xorS {x y:Int} (hx:Wd x) (hy:Wd y):ixor .u32 x y=ixor .i64 x y∧Wd (ixor .u32 x y):=by
 obtain ⟨a,rfl,ha⟩:=hx.nat
 obtain ⟨b,rfl,hb⟩:=hy.nat
 rw [xor32 ha hb,xor64 (by omega) (by omega)]
 exact ⟨rfl,natW (Nat.xor_lt_two_pow (n:=32) ha hb)⟩
theorem shrW {x:Int} (hx:Wd x) (k:Nat):Wd (Int.fdiv x (2 ^ k)):=by
 obtain ⟨a,rfl,ha⟩:=hx.nat
 have:((2:Int) ^ k)=((2 ^ k:Nat):Int):=by push_cast;rfl
 rw [this,← Int.ofNat_fdiv a (2 ^ k)]
 exact natW (Nat.lt_of_le_of_lt (Nat.div_le_self _ _) ha)
theorem sum4 {a b c d:Int} (ha:Wd a) (hb:Wd b) (hc:Wd c) (hd:Wd d):IntKind.wrap .u32 (IntKind.wrap .u32 (IntKind.wrap .u32 (a+b)+c)+d)=iand .i64 (IntKind.wrap .i64 (IntKind.wrap .i64 (IntKind.wrap .i64 (a+b)+c)+d)) (4294967295:Int):=by
 obtain ⟨a0,a1⟩:=ha
 obtain ⟨b0,b1⟩:=hb
 obtain ⟨c0,c1⟩:=hc
 obtain ⟨d0,d1⟩:=hd
 rw [wrap64 (n:=a+b) (by omega) (by omega),wrap64 (n:=a+b+c) (by omega) (by omega),wrap64 (n:=a+b+c+d) (by omega) (by omega),mask_eq (by omega) (by omega),w32,w32,w32]
 omega
theorem w32W (n:Int):Wd (IntKind.wrap .u32 n):=by rw [w32];exact ⟨Int.emod_nonneg _ (by decide),Int.emod_lt_of_pos _ (by decide)⟩
theorem getD_left {l m:List Int} {i:Nat} (h:i<l.length):(l++m).getD i 0=l.getD i 0:=by
 rw [List.getD_eq_getElem?_getD,List.getElem?_append_left h,List.getD_eq_getElem?_getD]
theorem qturn (x:Int) (k:Int):q_sl2Turn x k=true:=by
 simp only [q_sl2Turn,Bool.and_eq_true,decide_eq_true_eq]
 exact ⟨wrapU_nonneg _,wrapU_nonneg _⟩
theorem words1_same (ws:List Int) (hl:ws.length=16) (hw:AllW ws):(it_sl2Words_1 16 ws).1=0∧(it_iwordsOf_1 16 (ws++List.replicate 48 0)).2=(it_sl2Words_1 16 ws).2∧(it_sl2Words_1 16 ws).2.length=64∧AllW (it_sl2Words_1 16 ws).2:=by
 refine itX_sim (v:=((16:Int),ws++List.replicate 48 (0:Int))) (w:=((16:Int),ws))
  (fun (v:V_iwordsOf_1) (w:V_sl2Words_1)=>v.1=w.1∧(16≤v.1∧v.1≤64)∧v.1=(w.2.length:Int)∧v.2=w.2++List.replicate (64 - w.2.length) 0∧AllW w.2)
  (fun (a:A_iwordsOf_1) (b:A_sl2Words_1)=>b.1=0∧a.2=b.2∧b.2.length=64∧AllW b.2) (fun v=>(64 - v.1).toNat) ?_ ⟨rfl,⟨by simp only;omega,by simp only;omega⟩,by simp only;omega,by simp only [hl],hw⟩ (by simp only;decide)
 rintro ⟨i,l⟩ ⟨j,ws⟩ ⟨h3,h4,h5,h6,h7⟩
 simp only at h3 h4 h5 h6 h7
 subst h3
 by_cases hi:i<64
 ·obtain ⟨n,rfl⟩:∃ n:Nat,i=(n:Int):=⟨ws.length,h5⟩
  have hn:n=ws.length:=by omega
  have x1:=h7.at (n - 15)
  have x2:=h7.at (n - 2)
  have x3:=h7.at (n - 16)
  have x4:=h7.at (n - 7)
  obtain ⟨r1,r1w⟩:=rot7 x1
  obtain ⟨r2,r2w⟩:=rot18 x1
  obtain ⟨r3,r3w⟩:=rot17 x2
  obtain ⟨r4,r4w⟩:=rot19 x2
  obtain ⟨s1,s1w⟩:=xorS r1w r2w
  obtain ⟨s2,s2w⟩:=xorS s1w (shrW x1 3)
  obtain ⟨t1,t1w⟩:=xorS r3w r4w
  obtain ⟨t2,t2w⟩:=xorS t1w (shrW x2 10)
  have e:=sum4 x3 s2w x4 t2w
  have ew:=w32W (IntKind.wrap .u32 (IntKind.wrap .u32 (ws.getD (n - 16) 0+ixor .u32 (ixor .u32 (math_bits_RotateLeft32 (ws.getD (n - 15) 0) (-7)) (math_bits_RotateLeft32 (ws.getD (n - 15) 0) (-18))) (Int.fdiv (ws.getD (n - 15) 0) (2 ^ 3)))+ws.getD (n - 7) 0)+ixor .u32 (ixor .u32 (math_bits_RotateLeft32 (ws.getD (n - 2) 0) (-17)) (math_bits_RotateLeft32 (ws.getD (n - 2) 0) (-19))) (Int.fdiv (ws.getD (n - 2) 0) (2 ^ 10)))
  refine .inl ⟨((n:Int)+1,(ws++[_])++List.replicate (64 - ws.length - 1) 0),((n:Int)+1,ws++[_]),?_,?_,⟨rfl,by simp only;omega,by simp only [List.length_append,List.length_singleton];omega,by simp only [List.length_append,List.length_singleton];rw [Nat.sub_sub],h7.snoc ew⟩,by simp only;omega⟩
  ·simp only [ss_iwordsOf_1,w64c ((n:Int) - 15) (by omega) (by omega),w64c ((n:Int) - 2) (by omega) (by omega),w64c ((n:Int) - 16) (by omega) (by omega),w64c ((n:Int) - 7) (by omega) (by omega),w64c ((n:Int)+1) (by omega) (by omega),decide_eq_true hi,cond_true,k1_iwordsOf,k2_iwordsOf,k3_iwordsOf,k4_iwordsOf]
   have hll:l.length=64:=by rw [h6];simp only [List.length_append,List.length_replicate];omega
   rw [decide_eq_true (by omega),decide_eq_true (by omega),decide_eq_true (by omega),decide_eq_true (by omega),decide_eq_true (by omega)]
   simp only [cond_true]
   rw [h6,show ((n:Int)).toNat=ws.length by omega,set_grow _ (by omega)]
   rw [show ((n:Int) - 15).toNat=n - 15 by omega,show ((n:Int) - 2).toNat=n - 2 by omega,show ((n:Int) - 16).toNat=n - 16 by omega,show ((n:Int) - 7).toNat=n - 7 by omega]
   rw [getD_left (i:=n - 15) (by omega),getD_left (i:=n - 2) (by omega),getD_left (i:=n - 16) (by omega),getD_left (i:=n - 7) (by omega)]
  ·simp only [ss_sl2Words_1,w64c ((n:Int) - 15) (by omega) (by omega),w64c ((n:Int) - 2) (by omega) (by omega),w64c ((n:Int) - 16) (by omega) (by omega),w64c ((n:Int) - 7) (by omega) (by omega),w64c ((n:Int)+1) (by omega) (by omega),decide_eq_true hi,cond_true,qturn,List.length_singleton]
   rw [decide_eq_true (by omega),decide_eq_true (by omega),decide_eq_true (by omega),decide_eq_true (by omega),decide_eq_true (by simp only [MAXB];omega)]
   simp only [cond_true]
   rw [show ((n:Int) - 15).toNat=n - 15 by omega,show ((n:Int) - 2).toNat=n - 2 by omega,show ((n:Int) - 16).toNat=n - 16 by omega,show ((n:Int) - 7).toNat=n - 7 by omega]
   rw [e,s2,s1,t2,t1,r1,r2,r3,r4]
 ·have hl:ws.length=64:=by omega
  refine .inr ⟨(0,l),(0,ws),?_,?_,rfl,?_,hl,h7⟩
  ·simp only [ss_iwordsOf_1,decide_eq_false hi,cond_false]
  ·simp only [ss_sl2Words_1,decide_eq_false hi,cond_false]
  ·simp only [h6,hl,Nat.sub_self,List.replicate_zero,List.append_nil]
theorem shaWords_same (c:List Int) (hc:c.length=64) (hb:AllB c):iwordsOf c=sl2Words c∧q_sl2Words c=true∧(sl2Words c).length=64∧AllW (sl2Words c):=by
 obtain ⟨a1,a2,a3,a4⟩:=words0_same c hc hb
 obtain ⟨b1,b2,b3,b4⟩:=words1_same _ a3 a4
 refine ⟨?_,?_,b3,b4⟩
 ·simp only [iwordsOf,a2,b2];rfl
 ·simp only [q_sl2Words,a1,b1];rfl
theorem eight {v:List Int} (h:v.length=8):∃ a b c d e f g i,v=[a,b,c,d,e,f,g,i]:=by
 match v,h with
 | [a,b,c,d,e,f,g,i],_=>exact ⟨a,b,c,d,e,f,g,i,rfl⟩
theorem rot6 {x:Int} (hx:Wd x):math_bits_RotateLeft32 x (-6)=sl2Turn x 6∧Wd (math_bits_RotateLeft32 x (-6)):=rot_is hx 6 26 (by decide) (-6) (by decide) (by decide) (by decide) (by decide)
theorem rot11 {x:Int} (hx:Wd x):math_bits_RotateLeft32 x (-11)=sl2Turn x 11∧Wd (math_bits_RotateLeft32 x (-11)):=rot_is hx 11 21 (by decide) (-11) (by decide) (by decide) (by decide) (by decide)
theorem rot25 {x:Int} (hx:Wd x):math_bits_RotateLeft32 x (-25)=sl2Turn x 25∧Wd (math_bits_RotateLeft32 x (-25)):=rot_is hx 25 7 (by decide) (-25) (by decide) (by decide) (by decide) (by decide)
theorem and32 {x y:Nat} (hx:x<4294967296) (hy:y<4294967296):iand .u32 (x:Int) (y:Int)=((x &&& y:Nat):Int):=by
 unfold iand
 rw [BitVec.toNat_and,show IntKind.bits .u32=32 from rfl,bvn (k:=32) hx,bvn (k:=32) hy]
 exact w32n (Nat.and_lt_two_pow (n:=32) x hy)
theorem andS {x y:Int} (hx:Wd x) (hy:Wd y):iand .u32 x y=iand .i64 x y∧Wd (iand .u32 x y):=by
 obtain ⟨a,rfl,ha⟩:=hx.nat
 obtain ⟨b,rfl,hb⟩:=hy.nat
 rw [and32 ha hb,and64 (by omega) (by omega)]
 exact ⟨rfl,natW (Nat.and_lt_two_pow (n:=32) a hb)⟩
theorem rot2 {x:Int} (hx:Wd x):math_bits_RotateLeft32 x (-2)=sl2Turn x 2∧Wd (math_bits_RotateLeft32 x (-2)):=rot_is hx 2 30 (by decide) (-2) (by decide) (by decide) (by decide) (by decide)
theorem rot13 {x:Int} (hx:Wd x):math_bits_RotateLeft32 x (-13)=sl2Turn x 13∧Wd (math_bits_RotateLeft32 x (-13)):=rot_is hx 13 19 (by decide) (-13) (by decide) (by decide) (by decide) (by decide)
theorem rot22 {x:Int} (hx:Wd x):math_bits_RotateLeft32 x (-22)=sl2Turn x 22∧Wd (math_bits_RotateLeft32 x (-22)):=rot_is hx 22 10 (by decide) (-22) (by decide) (by decide) (by decide) (by decide)
/-- The parts of a round. -/
noncomputable def T32 (a b c d e:Int):Int:=IntKind.wrap .u32 (IntKind.wrap .u32 (IntKind.wrap .u32 (IntKind.wrap .u32 (a+b)+c)+d)+e)
noncomputable def T64 (a b c d e:Int):Int:=IntKind.wrap .i64 (IntKind.wrap .i64 (IntKind.wrap .i64 (IntKind.wrap .i64 (a+b)+c)+d)+e)
theorem T_is {a b c d e:Int} (ha:Wd a) (hb:Wd b) (hc:Wd c) (hd:Wd d) (he:Wd e):T64 a b c d e=a+b+c+d+e∧T32 a b c d e=(a+b+c+d+e) % 4294967296:=by
 obtain ⟨a0,a1⟩:=ha
 obtain ⟨b0,b1⟩:=hb
 obtain ⟨c0,c1⟩:=hc
 obtain ⟨d0,d1⟩:=hd
 obtain ⟨e0,e1⟩:=he
 simp only [T64,T32]
 rw [wrap64 (n:=a+b) (by omega) (by omega),wrap64 (n:=a+b+c) (by omega) (by omega),wrap64 (n:=a+b+c+d) (by omega) (by omega),wrap64 (n:=a+b+c+d+e) (by omega) (by omega),w32,w32,w32,w32]
 exact ⟨rfl,by omega⟩
theorem sumA {a b c d e s m:Int} (ha:Wd a) (hb:Wd b) (hc:Wd c) (hd:Wd d) (he:Wd e) (hs:Wd s) (hm:Wd m):IntKind.wrap .u32 (IntKind.wrap .u32 (T32 a b c d e+s)+m)=iand .i64 (IntKind.wrap .i64 (T64 a b c d e+IntKind.wrap .i64 (s+m))) (4294967295:Int):=by
 obtain ⟨t1,t2⟩:=T_is ha hb hc hd he
 rw [t1,t2]
 obtain ⟨a0,a1⟩:=ha
 obtain ⟨b0,b1⟩:=hb
 obtain ⟨c0,c1⟩:=hc
 obtain ⟨d0,d1⟩:=hd
 obtain ⟨e0,e1⟩:=he
 obtain ⟨s0,s1⟩:=hs
 obtain ⟨m0,m1⟩:=hm
 rw [wrap64 (n:=s+m) (by omega) (by omega),wrap64 (by omega) (by omega),mask_eq (by omega) (by omega),w32,w32]
 omega
theorem sumE {a b c d e v:Int} (ha:Wd a) (hb:Wd b) (hc:Wd c) (hd:Wd d) (he:Wd e) (hv:Wd v):IntKind.wrap .u32 (v+T32 a b c d e)=iand .i64 (IntKind.wrap .i64 (v+T64 a b c d e)) (4294967295:Int):=by
 obtain ⟨t1,t2⟩:=T_is ha hb hc hd he
 rw [t1,t2]
 obtain ⟨a0,a1⟩:=ha
 obtain ⟨b0,b1⟩:=hb
 obtain ⟨c0,c1⟩:=hc
 obtain ⟨d0,d1⟩:=hd
 obtain ⟨e0,e1⟩:=he
 obtain ⟨v0,v1⟩:=hv
 rw [wrap64 (by omega) (by omega),mask_eq (by omega) (by omega),w32]
 omega
theorem loop0_same (h k ws v:List Int) (hk:k.length=64) (hkW:AllW k) (hw:ws.length=64) (hwW:AllW ws) (hv:v.length=8) (hvW:AllW v):(it_sl2Block_0 h k ws 0 v).1=0∧(it_sl2Block_0 h k ws 0 v).2.1=h∧(it_iturnBlock_0 0 h k ws v).2.2.2=(it_sl2Block_0 h k ws 0 v).2.2∧(it_sl2Block_0 h k ws 0 v).2.2.length=8∧AllW (it_sl2Block_0 h k ws 0 v).2.2:=by
 refine itX_sim (v:=((0:Int),h,k,ws,v)) (w:=(h,k,ws,(0:Int),v))
  (fun (x:V_iturnBlock_0) (y:V_sl2Block_0)=>x.1=y.2.2.2.1∧(0≤x.1∧x.1≤64)∧x.2.1=h∧x.2.2.1=k∧x.2.2.2.1=ws∧y.1=h∧y.2.1=k∧y.2.2.1=ws∧x.2.2.2.2=y.2.2.2.2∧x.2.2.2.2.length=8∧AllW x.2.2.2.2)
  (fun (a:A_iturnBlock_0) (b:A_sl2Block_0)=>b.1=0∧b.2.1=h∧a.2.2.2=b.2.2∧b.2.2.length=8∧AllW b.2.2) (fun x=>(64 - x.1).toNat) ?_ ⟨rfl,⟨by simp only;omega,by simp only;omega⟩,rfl,rfl,rfl,rfl,rfl,rfl,rfl,hv,hvW⟩ (by simp only;decide)
 rintro ⟨i,h1,k1,w1,v1⟩ ⟨h2,k2,w2,j,v2⟩ ⟨e1,e2,e3,e4,e5,e6,e7,e8,e9,e10,e11⟩
 simp only at e1 e2 e3 e4 e5 e6 e7 e8 e9 e10 e11
 subst e1;subst e3;subst e4;subst e5;subst e6;subst e7;subst e8;subst e9
 by_cases hi:i<64
 ·obtain ⟨v0,va,vb,vc,v4,v5,v6,v7,rfl⟩:=eight e10
  have W0:Wd v0:=e11 _ (by simp)
  have Wa:Wd va:=e11 _ (by simp)
  have Wb:Wd vb:=e11 _ (by simp)
  have Wc:Wd vc:=e11 _ (by simp)
  have W4:Wd v4:=e11 _ (by simp)
  have W5:Wd v5:=e11 _ (by simp)
  have W6:Wd v6:=e11 _ (by simp)
  have W7:Wd v7:=e11 _ (by simp)
  have Wk:=hkW.at i.toNat
  have Ww:=hwW.at i.toNat
  obtain ⟨r1,r1w⟩:=rot6 W4
  obtain ⟨r2,r2w⟩:=rot11 W4
  obtain ⟨r3,r3w⟩:=rot25 W4
  obtain ⟨s1,s1w⟩:=xorS r1w r2w
  obtain ⟨s2,s2w⟩:=xorS s1w r3w
  obtain ⟨c1,c1w⟩:=andS W4 W5
  obtain ⟨c2,c2w⟩:=xorS (show Wd 4294967295 from ⟨by decide,by decide⟩) W4
  obtain ⟨c3,c3w⟩:=andS c2w W6
  obtain ⟨c4,c4w⟩:=xorS c1w c3w
  obtain ⟨q1,q1w⟩:=rot2 W0
  obtain ⟨q2,q2w⟩:=rot13 W0
  obtain ⟨q3,q3w⟩:=rot22 W0
  obtain ⟨p1,p1w⟩:=xorS q1w q2w
  obtain ⟨p2,p2w⟩:=xorS p1w q3w
  obtain ⟨m1,m1w⟩:=andS W0 Wa
  obtain ⟨m2,m2w⟩:=andS W0 Wb
  obtain ⟨m3,m3w⟩:=andS Wa Wb
  obtain ⟨m4,m4w⟩:=xorS m1w m2w
  obtain ⟨m5,m5w⟩:=xorS m4w m3w
  have eA:=sumA W7 s2w c4w Wk Ww p2w m5w
  have eE:=sumE W7 s2w c4w Wk Ww Wc
  have wA:=w32W (IntKind.wrap .u32 (T32 v7 (ixor .u32 (ixor .u32 (math_bits_RotateLeft32 v4 (-6)) (math_bits_RotateLeft32 v4 (-11))) (math_bits_RotateLeft32 v4 (-25))) (ixor .u32 (iand .u32 v4 v5) (iand .u32 (ixor .u32 4294967295 v4) v6)) (k2.getD i.toNat 0) (w2.getD i.toNat 0)+ixor .u32 (ixor .u32 (math_bits_RotateLeft32 v0 (-2)) (math_bits_RotateLeft32 v0 (-13))) (math_bits_RotateLeft32 v0 (-22)))+ixor .u32 (ixor .u32 (iand .u32 v0 va) (iand .u32 v0 vb)) (iand .u32 va vb))
  have wE:=w32W (vc+T32 v7 (ixor .u32 (ixor .u32 (math_bits_RotateLeft32 v4 (-6)) (math_bits_RotateLeft32 v4 (-11))) (math_bits_RotateLeft32 v4 (-25))) (ixor .u32 (iand .u32 v4 v5) (iand .u32 (ixor .u32 4294967295 v4) v6)) (k2.getD i.toNat 0) (w2.getD i.toNat 0))
  obtain ⟨nA,hnA,wA⟩:∃ n,n=_∧Wd n:=⟨_,rfl,wA⟩
  obtain ⟨nE,hnE,wE⟩:∃ n,n=_∧Wd n:=⟨_,rfl,wE⟩
  refine .inl ⟨(i+1,h2,k2,w2,[nA,v0,va,vb,nE,v4,v5,v6]),(h2,k2,w2,i+1,[nA,v0,va,vb,nE,v4,v5,v6]),?_,?_,⟨rfl,by simp only;omega,rfl,rfl,rfl,rfl,rfl,rfl,rfl,rfl,?_⟩,by simp only;omega⟩
  rotate_left 2
  ·intro x hx
   simp only [List.mem_cons,List.not_mem_nil,or_false] at hx
   rcases hx with rfl | rfl | rfl | rfl | rfl | rfl | rfl | rfl
   ·exact wA
   ·exact W0
   ·exact Wa
   ·exact Wb
   ·exact wE
   ·exact W4
   ·exact W5
   ·exact W6
  ·simp only [ss_iturnBlock_0,w64c (i+1) (by omega) (by omega),decide_eq_true hi,cond_true,hk,hw]
   rw [show decide (0≤i∧i<((64:Nat):Int)∧i<((64:Nat):Int))=true from decide_eq_true (by omega)]
   rw [hnA,hnE]
   rfl
  ·simp only [ss_sl2Block_0,w64c (i+1) (by omega) (by omega),decide_eq_true hi,cond_true,qturn,hk,hw]
   rw [show decide (0≤i∧i<((64:Nat):Int))=true from decide_eq_true (by omega)]
   rw [hnA,hnE,eA,eE,s2,s1,r1,r2,r3,c4,c3,c2,c1,p2,p1,q1,q2,q3,m5,m4,m3,m2,m1]
   rfl
 ·refine .inr ⟨(0,h2,k2,v1),(0,h2,v1),?_,?_,rfl,rfl,rfl,e10,e11⟩
  ·simp only [ss_iturnBlock_0,decide_eq_false hi,cond_false]
  ·simp only [ss_sl2Block_0,decide_eq_false hi,cond_false]
theorem roundsW:AllW irounds:=by
 intro x hx
 have:irounds.all (fun x=>decide (0≤x∧x<4294967296))=true:=by decide
 exact of_decide_eq_true (p:=0≤x∧x<4294967296) (List.all_eq_true.1 this x hx)
theorem set_getD2 {l:List Int} {i j:Nat} {x:Int} (hi:i<l.length):(l.set i x).getD j 0=if j=i then x else l.getD j 0:=by
 rw [List.getD_eq_getElem?_getD,List.getElem?_set,List.getD_eq_getElem?_getD]
 by_cases h:i=j
 ·subst h;simp [hi]
 ·rw [if_neg h,if_neg (fun e=>h e.symm)]
theorem loop1_i (h k v:List Int) (hh:h.length=8) (hv:v.length=8):(it_iturnBlock_1 0 h k v).2.1.length=8∧∀ j,j<8→(it_iturnBlock_1 0 h k v).2.1.getD j 0=IntKind.wrap .u32 (h.getD j 0+v.getD j 0):=by
 refine itX_inv (v:=((0:Int),h,k,v)) (fun x:V_iturnBlock_1=>(0≤x.1∧x.1≤8)∧x.2.1.length=8∧x.2.2.2=v∧∀ j:Nat,j<8→x.2.1.getD j 0=if (j:Int)<x.1 then IntKind.wrap .u32 (h.getD j 0+v.getD j 0) else h.getD j 0)
  (fun a:A_iturnBlock_1=>a.2.1.length=8∧∀ j,j<8→a.2.1.getD j 0=IntKind.wrap .u32 (h.getD j 0+v.getD j 0)) (fun x=>(8 - x.1).toNat) ?_ ⟨⟨by simp only;omega,by simp only;omega⟩,hh,rfl,fun j hj=>by rw [if_neg (by simp only;omega)]⟩ (by simp only;decide)
 rintro ⟨i,h', k', v'⟩ ⟨h2,h3,h4,h6⟩
 simp only at h2 h3 h4 h6
 subst h4
 by_cases hi:i<8
 ·refine .inl ⟨(i+1,h'.set i.toNat (IntKind.wrap .u32 (h'.getD i.toNat 0+v'.getD i.toNat 0)),k', v'),?_,⟨by simp only;omega,by simp only [List.length_set];exact h3,rfl,fun j hj=>?_⟩,by simp only;omega⟩
  ·simp only [ss_iturnBlock_1,w64c (i+1) (by omega) (by omega),decide_eq_true hi,cond_true,hv,h3]
   rw [show decide (0≤i∧i<((8:Nat):Int)∧i<((8:Nat):Int))=true from decide_eq_true (by omega)]
   rfl
  ·simp only
   rw [set_getD2 (by omega)]
   by_cases e:j=i.toNat
   ·rw [if_pos e,if_pos (by omega),← e,h6 j hj,if_neg (by omega)]
   ·rw [if_neg e,h6 j hj]
    by_cases e2:(j:Int)<i
    ·rw [if_pos e2,if_pos (by omega)]
    ·rw [if_neg e2,if_neg (by omega)]
 ·refine .inr ⟨(0,h', k'),?_,h3,fun j hj=>?_⟩
  ·simp only [ss_iturnBlock_1,decide_eq_false hi,cond_false]
  ·simp only;rw [h6 j hj,if_pos (by omega)]
theorem loop1_s (h v:List Int) (hh:h.length=8) (hv:v.length=8):(it_sl2Block_1 h 0 v).1=0∧(it_sl2Block_1 h 0 v).2.length=8∧∀ j,j<8→(it_sl2Block_1 h 0 v).2.getD j 0=iand .i64 (IntKind.wrap .i64 (v.getD j 0+h.getD j 0)) (4294967295:Int):=by
 refine itX_inv (v:=(h,(0:Int),v)) (fun x:V_sl2Block_1=>(0≤x.2.1∧x.2.1≤8)∧x.2.2.length=8∧x.1=h∧∀ j:Nat,j<8→x.2.2.getD j 0=if (j:Int)<x.2.1 then iand .i64 (IntKind.wrap .i64 (v.getD j 0+h.getD j 0)) (4294967295:Int) else v.getD j 0)
  (fun a:A_sl2Block_1=>a.1=0∧a.2.length=8∧∀ j,j<8→a.2.getD j 0=iand .i64 (IntKind.wrap .i64 (v.getD j 0+h.getD j 0)) (4294967295:Int)) (fun x=>(8 - x.2.1).toNat) ?_ ⟨⟨by simp only;omega,by simp only;omega⟩,hv,rfl,fun j hj=>by rw [if_neg (by simp only;omega)]⟩ (by simp only;decide)
 rintro ⟨h', i,v'⟩ ⟨h2,h3,h4,h6⟩
 simp only at h2 h3 h4 h6
 subst h4
 by_cases hi:i<8
 ·refine .inl ⟨(h', i+1,v'.set i.toNat (iand .i64 (IntKind.wrap .i64 (v'.getD i.toNat 0+h'.getD i.toNat 0)) (4294967295:Int))),?_,⟨by simp only;omega,by simp only [List.length_set];exact h3,rfl,fun j hj=>?_⟩,by simp only;omega⟩
  ·simp only [ss_sl2Block_1,w64c (i+1) (by omega) (by omega),decide_eq_true hi,cond_true,hh,h3]
   rw [show decide (0≤i∧i<((8:Nat):Int))=true from decide_eq_true (by omega)]
   rfl
  ·simp only
   rw [set_getD2 (by omega)]
   by_cases e:j=i.toNat
   ·rw [if_pos e,if_pos (by omega),← e,h6 j hj,if_neg (by omega)]
   ·rw [if_neg e,h6 j hj]
    by_cases e2:(j:Int)<i
    ·rw [if_pos e2,if_pos (by omega)]
    ·rw [if_neg e2,if_neg (by omega)]
 ·refine .inr ⟨(0,v'),?_,rfl,h3,fun j hj=>?_⟩
  ·simp only [ss_sl2Block_1,decide_eq_false hi,cond_false]
  ·simp only;rw [h6 j hj,if_pos (by omega)]
theorem eight_ext {a b:List Int} (ha:a.length=8) (hb:b.length=8) (h:∀ j,j<8→a.getD j 0=b.getD j 0):a=b:=by
 apply List.ext_getElem (by omega)
 intro i h1 h2
 have:=h i (by omega)
 rwa [List.getD_eq_getElem?_getD,List.getElem?_eq_getElem h1,List.getD_eq_getElem?_getD,List.getElem?_eq_getElem h2] at this
theorem sum2 {a b:Int} (ha:Wd a) (hb:Wd b):IntKind.wrap .u32 (a+b)=iand .i64 (IntKind.wrap .i64 (b+a)) (4294967295:Int):=by
 obtain ⟨a0,a1⟩:=ha
 obtain ⟨b0,b1⟩:=hb
 rw [wrap64 (by omega) (by omega),mask_eq (by omega) (by omega),w32]
 omega
/-- A block's turn, in the program and in the reference. -/
theorem turn_same (c h:List Int) (hc:c.length=64) (hb:AllB c) (hh:h.length=8) (hW:AllW h):q_sl2Block h c sl2K=true∧(iturnBlock c h irounds).1=sl2Block h c sl2K∧AllW (sl2Block h c sl2K):=by
 obtain ⟨w1,w2,w3,w4⟩:=shaWords_same c hc hb
 have ev:[h.getD 0 0,h.getD 1 0,h.getD 2 0,h.getD 3 0,h.getD 4 0,h.getD 5 0,h.getD 6 0,h.getD 7 0]=h:=by
  obtain ⟨a,b,c,d,e,f,g,i,rfl⟩:=eight hh
  rfl
 obtain ⟨l1,l2,l3,l4,l5⟩:=loop0_same h irounds (sl2Words c) h rfl roundsW w3 w4 hh hW
 obtain ⟨t1,t2,t3,t4⟩:=turn0_ok h irounds (sl2Words c) h rfl w3 hh
 have ek:k1_iturnBlock c h irounds=it_iturnBlock_0 0 h irounds (sl2Words c) h:=by simp only [k1_iturnBlock,w1,ev]
 obtain ⟨i1,i2⟩:=loop1_i h (it_iturnBlock_0 0 h irounds (sl2Words c) h).2.2.1 (it_iturnBlock_0 0 h irounds (sl2Words c) h).2.2.2 hh t4
 have hW2:AllW (it_iturnBlock_0 0 h irounds (sl2Words c) h).2.2.2:=by rw [l3];exact l5
 have eks:k1_sl2Block h c sl2K=it_sl2Block_1 h 0 (it_sl2Block_0 h irounds (sl2Words c) 0 h).2.2:=by
  show it_sl2Block_1 ((it_sl2Block_0 h irounds (sl2Words c) (0:Int) (([]:List Int)++h)).2.1) 0 ((it_sl2Block_0 h irounds (sl2Words c) (0:Int) (([]:List Int)++h)).2.2)=_
  rw [List.nil_append,l2]
 obtain ⟨s0,s1,s2⟩:=loop1_s h (it_sl2Block_0 h irounds (sl2Words c) 0 h).2.2 hh l4
 have e1:(iturnBlock c h irounds).1=sl2Block h c sl2K:=by
  show (it_iturnBlock_1 0 (k1_iturnBlock c h irounds).2.1 (k1_iturnBlock c h irounds).2.2.1 (k1_iturnBlock c h irounds).2.2.2).2.1=(k1_sl2Block h c sl2K).2
  rw [ek,eks,t2]
  refine eight_ext i1 s1 (fun j hj=>?_)
  rw [i2 j hj,s2 j hj,← l3]
  exact sum2 (hW.at j) (hW2.at j)
 refine ⟨?_,e1,?_⟩
 ·have q1:(it_sl2Block_0 h sl2K (sl2Words c) 0 (([]:List Int)++h)).1=0:=l1
  have q2:(k1_sl2Block h c sl2K).1=0:=by rw [eks];exact s0
  simp only [q_sl2Block,w2,q1,q2,Bool.true_and,beq_self_eq_true,Bool.and_true]
  exact decide_eq_true (by rw [hh];decide)
 ·rw [← e1]
  show AllW (it_iturnBlock_1 0 (k1_iturnBlock c h irounds).2.1 (k1_iturnBlock c h irounds).2.2.1 (k1_iturnBlock c h irounds).2.2.2).2.1
  rw [ek,t2]
  intro x hx
  obtain ⟨j,hj,rfl⟩:=List.mem_iff_getElem.1 hx
  have:=i2 j (by rw [← i1];exact hj)
  rw [List.getD_eq_getElem?_getD,List.getElem?_eq_getElem hj] at this
  have h9:(it_iturnBlock_1 0 h (it_iturnBlock_0 0 h irounds (sl2Words c) h).2.2.1 (it_iturnBlock_0 0 h irounds (sl2Words c) h).2.2.2).2.1[j]=IntKind.wrap .u32 _:=this
  rw [h9];exact w32W _
theorem foldS_succ (p:List Int) (n:Nat):foldS p (n+1)=sl2Block (foldS p n) ((p.drop (64*n)).take 64) sl2K:=by simp [foldS,List.range_succ]
theorem AllB.cut {l:List Int} (h:AllB l) (i n:Nat):AllB ((l.drop i).take n):=fun x hx=>h x (List.mem_of_mem_drop (List.mem_of_mem_take hx))
theorem foldS_is (p:List Int) (hb:AllB p) (m:Nat) (hm:64*m=p.length):∀ n,n≤m→(foldS p n).length=8∧AllW (foldS p n)∧(List.range n).foldl (fun h i=>(iturnBlock ((p.drop (64*i)).take 64) h irounds).1) hinit=foldS p n:=by
 intro n
 induction n with
 | zero=>intro _;exact ⟨rfl,hinitW,rfl⟩
 | succ n ih =>
  intro hn
  obtain ⟨h1,h2,h3⟩:=ih (by omega)
  have hc:((p.drop (64*n)).take 64).length=64:=by simp only [List.length_take,List.length_drop];omega
  obtain ⟨q,e,w⟩:=turn_same _ (foldS p n) hc (hb.cut _ _) h1 h2
  rw [foldS_succ]
  refine ⟨?_,w,?_⟩
  ·rw [← e];exact (turn_ok _ _ hc h1).2.1
  ·rw [List.range_succ,List.foldl_append,h3];exact e
theorem dig0_same (p:List Int) (hb:AllB p) (m:Nat) (hm:64*m=p.length) (hl:p.length≤1000000000100):(it_sDigest_0 p hinit sl2K 0).1=0∧(it_sDigest_0 p hinit sl2K 0).2=foldS p m:=by
 refine itX_inv (v:=(p,hinit,sl2K,(0:Int))) (fun x:V_sDigest_0=>x.1=p∧x.2.2.1=sl2K∧∃ n:Nat,n≤m∧x.2.2.2=((64*n:Nat):Int)∧x.2.1=foldS p n) (fun a:A_sDigest_0=>a.1=0∧a.2=foldS p m) (fun x=>(p.length - x.2.2.2).toNat) ?_ ⟨rfl,rfl,0,Nat.zero_le _,rfl,rfl⟩ (by simp only;omega)
 rintro ⟨p', h,k,i⟩ ⟨h1,h2,n,hn,h3,h4⟩
 simp only at h1 h2 h3 h4
 subst h1;subst h2;subst h3;subst h4
 by_cases hi:n<m
 ·have hc:((p'.drop (64*n)).take 64).length=64:=by simp only [List.length_take,List.length_drop];omega
  obtain ⟨f1,f2,_⟩:=foldS_is p' hb m hm n hn
  obtain ⟨q,e,w⟩:=turn_same _ (foldS p' n) hc (hb.cut _ _) f1 f2
  have ew:IntKind.wrap .i64 (((64*n:Nat):Int)+64)=((64*(n+1):Nat):Int):=by rw [wrap64 (by omega) (by omega)];omega
  have ec:(p'.take (64*(n+1))).drop (64*n)=(p'.drop (64*n)).take 64:=by
   rw [List.drop_take];congr 1;omega
  refine .inl ⟨(p', foldS p' (n+1),sl2K,((64*(n+1):Nat):Int)),?_,⟨rfl,rfl,n+1,hi,rfl,rfl⟩,by simp only;omega⟩
  simp only [ss_sDigest_0,ew,Int.toNat_natCast,ec,q,cond_true]
  rw [decide_eq_true (by omega),decide_eq_true (by omega),foldS_succ];rfl
 ·obtain rfl:n=m:=by omega
  refine .inr ⟨(0,foldS p' n),?_,rfl,rfl⟩
  simp only [ss_sDigest_0]
  rw [decide_eq_false (by omega)];rfl
theorem digBytes_len (h:List Int):(digBytes h).length=4*h.length:=by
 induction h with
 | nil=>rfl
 | cons x h ih=>simp only [digBytes,List.flatMap_cons,List.length_append,List.length_cons,List.length_nil] at ih ⊢;omega
theorem digBytes_take (h:List Int) (n:Nat) (hn:n<h.length):digBytes (h.take (n+1))=digBytes (h.take n)++digBytes [h.getD n 0]:=by
 rw [List.take_succ_eq_append_getElem hn,digBytes,List.flatMap_append,List.getD_eq_getElem?_getD,List.getElem?_eq_getElem hn]
 rfl
theorem dig1_same (h:List Int) (h8:h.length=8):(it_sDigest_1 h 0 []).1=0∧(it_sDigest_1 h 0 []).2=digBytes h:=by
 refine itX_inv (v:=(h,(0:Int),([]:List Int))) (fun x:V_sDigest_1=>x.1=h∧∃ n:Nat,n≤8∧x.2.1=(n:Int)∧x.2.2=digBytes (h.take n)) (fun a:A_sDigest_1=>a.1=0∧a.2=digBytes h) (fun x=>(8 - x.2.1).toNat) ?_ ⟨rfl,0,Nat.zero_le _,rfl,by simp [digBytes]⟩ (by simp only;decide)
 rintro ⟨h', i,l⟩ ⟨h1,n,hn,h3,h4⟩
 simp only at h1 h3 h4
 subst h1;subst h3;subst h4
 by_cases hi:n<8
 ·refine .inl ⟨(h', ((n+1:Nat):Int),digBytes (h'.take (n+1))),?_,⟨rfl,n+1,hi,rfl,rfl⟩,by simp only;omega⟩
  simp only [ss_sDigest_1,w64c ((n:Int)+1) (by omega) (by omega),h8,Int.toNat_natCast]
  rw [decide_eq_true (by omega),decide_eq_true (by omega),decide_eq_true (by simp only [digBytes_len,List.length_take,List.length_cons,List.length_nil,MAXB];omega),digBytes_take _ _ (by omega)]
  rfl
 ·obtain rfl:n=8:=by omega
  refine .inr ⟨(0,digBytes (h'.take 8)),?_,rfl,?_⟩
  ·simp only [ss_sDigest_1]
   rw [decide_eq_false (by omega)];rfl
  ·show digBytes (h'.take 8)=digBytes h'
   rw [List.take_of_length_le (by omega)]
/-- The digests agree. -/
theorem digest_same (a:List Int) (ha:a.length≤1000000000000) (hb:AllB a):q_iDigest a=true∧q_sDigest a=true∧iDigest a=sDigest a∧(sDigest a).size=32:=by
 obtain ⟨p1,p2,p3,p4,p5,p6,p7⟩:=padded_same a ha hb
 have hm:64*((sPadded a).length / 64)=(sPadded a).length:=by omega
 obtain ⟨f1,f2,f3⟩:=foldS_is (sPadded a) p7 _ hm _ (Nat.le_refl _)
 obtain ⟨d1,d2⟩:=dig0_same (sPadded a) p7 _ hm (by omega)
 have ek:k1_sDigest a=it_sDigest_0 (sPadded a) hinit sl2K 0:=rfl
 obtain ⟨e1,e2⟩:=dig1_same _ f1
 have hI:digH (sPadded a)=foldS (sPadded a) ((sPadded a).length / 64):=f3
 refine ⟨?_,?_,?_,?_⟩
 ·simp only [q_iDigest,p1,p3,Bool.true_and,Bool.and_eq_true,decide_eq_true_eq]
  omega
 ·simp only [q_sDigest,p2,ek,d1,d2,e1];rfl
 ·simp only [iDigest,p3,hI,sDigest,ek,d2,e2];rfl
 ·have : (sDigest a).size = (digBytes (foldS (sPadded a) ((sPadded a).length / 64))).length := by
   simp only [sDigest,ek,d2,e2]
   show (((digBytes _).map _).toArray).size=_
   simp
  rw [this,digBytes_len,f1]
theorem okB_AllB {b:List Int} (h:okB b):AllB b:=fun x hx=>by have:=h x hx;omega
theorem dig_ok {b:List Int} (h:okB b) (hl:b.length≤1000000000000):q_sDigest b=true∧sDigest b=iDigest b:=by
 obtain ⟨d1,d2,d3,d4⟩:=digest_same b hl (okB_AllB h)
 exact ⟨d2,d3.symm⟩
/-- Bytes as a text. -/
noncomputable def strB (l:List Int):ByteArray:=⟨(l.map fun n=>UInt8.ofNat n.toNat).toArray⟩
theorem strInts_strB {l:List Int} (h:okB l):strInts (strB l)=l:=by
 simp only [strB,strInts,List.map_map,List.toList_toArray]
 conv=>rhs;rw [← List.map_id l]
 apply List.map_congr_left
 intro n hn
 obtain ⟨h0,h1⟩:=h n hn
 simp only [Function.comp_apply,UInt8.toNat_ofNat', id_eq]
 omega
theorem strB_ints (s:ByteArray):strB (strInts s)=s:=by
 cases s with
 | mk a =>
  simp only [strB,strInts,List.map_map]
  congr 1
  apply Array.toList_inj.1
  simp only [List.toList_toArray]
  conv=>rhs;rw [← List.map_id a.toList]
  apply List.map_congr_left
  intro b _
  simp
theorem strEq_ok {a:List Int} {s:ByteArray} (ha:okB a):((strB a).toList==s.toList)=true↔a=strInts s:=by
 rw [beq_iff_eq]
 constructor
 ·intro h
  have h2:strB a=s:=by
   have h3:=congrArg (fun l=>(⟨l.toArray⟩:ByteArray)) h
   have k:∀ s:ByteArray,(⟨s.toList.toArray⟩:ByteArray)=s:=fun s=>by rw [ByteArray.toList_eq]
   simpa only [k] using h3
  rw [← strInts_strB ha,h2]
 ·rintro rfl;rw [strB_ints]
theorem okB.app {a b:List Int} (h:okB a) (h':okB b):okB (a++b):=fun c hc=>(List.mem_append.1 hc).elim (h c) (h' c)
theorem gN_at {pre rest:List Int} (hb:okB (pre++rest)) {n p:Int} (h:gN (pre++rest) (pre.length:Int)=(n,p,true)):∃ post,rest=numB n++post∧p=((pre++numB n).length:Int)∧0≤n∧n≤1000000000:=by
 obtain ⟨pre', post,e1,e2,e3,e4,e5⟩:=gN_of hb h
 obtain ⟨_,q2⟩:=List.append_inj e1 (by omega)
 exact ⟨post,q2,by rw [e3,List.length_append];omega,e4,e5⟩
theorem gN_at0 {b:List Int} (hb:okB b) {n p:Int} (h:gN b 0=(n,p,true)):∃ post,b=numB n++post∧p=((numB n).length:Int)∧0≤n∧n≤1000000000:=gN_at (pre:=[]) hb h
/-- A text at a place. -/
noncomputable def gT (b:List Int) (a:Int):ByteArray×Int×Bool :=
 if (gN b a).2.2=true∧(gN b a).1≤(b.length:Int) - (gN b a).2.1 then (strB ((b.drop (gN b a).2.1.toNat).take (gN b a).1.toNat),(gN b a).2.1+(gN b a).1,true) else (⟨#[]⟩,0,false)
/-- An op at a place. -/
noncomputable def gO (b:List Int) (p:Int):(Int×ByteArray×ByteArray)×Int×Bool :=
 (((gN b p).1,(gT b (gN b p).2.1).1,(gT b (gT b (gN b p).2.1).2.1).1),(gT b (gT b (gN b p).2.1).2.1).2.1,(gN b p).2.2&&((gT b (gN b p).2.1).2.2&&(gT b (gT b (gN b p).2.1).2.1).2.2))
/-- So many ops, one behind the other. -/
noncomputable def pO:Nat→List Int→Int→Lq1→Option (Lq1×Int)
 | 0,_,p,acc=>some (acc,p)
 | k+1,b,p,acc=>cond (gO b p).2.2 (pO k b (gO b p).2.1 (acc++[(gO b p).1])) none
/-- Ops out of all bytes. -/
noncomputable def gOps (b:List Int):Lq1×Bool :=
 if (gN b 0).2.2=true∧(gN b 0).1≤8 then (match pO (gN b 0).1.toNat b (gN b 0).2.1 [] with
  | some (l,q)=>if q=(b.length:Int)∧sOpsOk l=true then (l,true) else ([],false)
  | none=>([],false)) else ([],false)
/-- The two ways a text is read. -/
theorem gT_eq {b:List Int} (hb:okB b) (hl:b.length≤1099511627776) (a:Int) :
  gT b a=(cond (!((gN b a).2.2)) ((⟨#[]⟩:ByteArray),(0:Int),false) (cond (decide (((gN b a).1) > (IntKind.wrap .i64 (((b.length:Nat):Int) - ((gN b a).2.1))))) ((⟨#[]⟩:ByteArray),(0:Int),false) ((⟨(((b.take (IntKind.wrap .i64 (((gN b a).2.1)+((gN b a).1))).toNat).drop ((gN b a).2.1).toNat).map fun n=>UInt8.ofNat n.toNat).toArray⟩:ByteArray),IntKind.wrap .i64 (((gN b a).2.1)+((gN b a).1)),true))) ∧
  (cond (!((gN b a).2.2)) true (cond (decide (((gN b a).1) > (IntKind.wrap .i64 (((b.length:Nat):Int) - ((gN b a).2.1))))) true (decide (0≤((gN b a).2.1)∧((gN b a).2.1)≤(IntKind.wrap .i64 (((gN b a).2.1)+((gN b a).1)))∧(IntKind.wrap .i64 (((gN b a).2.1)+((gN b a).1)))≤((b.length:Nat):Int)))))=true:=by
 cases h:(gN b a).2.2 with
 | false=>simp only [gT,h,Bool.not_false,cond_true];exact ⟨by rw [if_neg (by simp)],trivial⟩
 | true =>
  obtain ⟨r1,r2,r3,r4,r5⟩:=gN_range hb h
  have w1:IntKind.wrap .i64 (((b.length:Nat):Int) - ((gN b a).2.1))=((b.length:Nat):Int) - (gN b a).2.1:=wrap64 (by omega) (by omega)
  have w2:IntKind.wrap .i64 (((gN b a).2.1)+((gN b a).1))=(gN b a).2.1+(gN b a).1:=wrap64 (by omega) (by omega)
  simp only [gT,h,Bool.not_true,cond_false,w1,w2]
  by_cases hc:(gN b a).1≤(b.length:Int) - (gN b a).2.1
  ·rw [if_pos ⟨trivial,hc⟩,decide_eq_false (by omega),cond_false,cond_false]
   refine ⟨?_,decide_eq_true (by omega)⟩
   simp only [strB]
   congr 4
   have:((gN b a).2.1+(gN b a).1).toNat=(gN b a).2.1.toNat+(gN b a).1.toNat:=by omega
   rw [this,List.take_drop]
  ·rw [if_neg (fun h=>hc h.2),decide_eq_true (by omega),cond_true,cond_true]
   exact ⟨rfl,rfl⟩
theorem sGetText_spec {b:List Int} (hb:okB b) (hl:b.length≤1099511627776) (a:Int):sGetText b a=gT b a∧q_sGetText b a=true:=by
 obtain ⟨h1,h2⟩:=sGetNum_spec hb hl a
 obtain ⟨h3,h4⟩:=gT_eq hb hl a
 rw [h3]
 simp only [sGetText,q_sGetText,h1,h2,Bool.true_and]
 exact ⟨trivial,h4⟩
theorem strB_size (l:List Int):(strB l).size=l.length:=by simp [strB,ByteArray.size]
theorem gT_size {b:List Int} (hb:okB b) (a:Int):(gT b a).1.size≤b.length:=by
 simp only [gT]
 split
 ·rw [strB_size,List.length_take,List.length_drop];omega
 ·exact Nat.zero_le _
theorem gO_texts {b:List Int} (hb:okB b) (p:Int):(gO b p).1.2.1.size≤b.length∧(gO b p).1.2.2.size≤b.length:=⟨gT_size hb _,gT_size hb _⟩
theorem sGetOps_it {b:List Int} (hb:okB b) (hl:b.length≤1048576) (n p:Int) (hn:n≤8) (h0:0≤n) :
    (match pO n.toNat b p [] with
      | some (l,q)=>it_sGetOps_0 b n p 0 [] []=(1,false,[],b,q,l)∧okOps l=true
      | none=>it_sGetOps_0 b n p 0 [] []=(0,false,[],[],0,[])):=by
  refine itX_inv (fun v : V_sGetOps_0 => ∃ (i : Nat) (p' : Int) (l : Lq1), v = (b, n, p', (i : Int), [], l) ∧ (i : Int) ≤ n ∧ l.length = i ∧ okOps l = true ∧ pO (n.toNat - i) b p' l = pO n.toNat b p []) (fun a => match pO n.toNat b p [] with
      | some (l,q)=>a=(1,false,[],b,q,l)∧okOps l=true
      | none=>a=(0,false,[],[],0,[])) (fun v=>8 - v.2.2.2.1.toNat) ?_ ⟨0,p,[],rfl,h0,rfl,rfl,rfl⟩ (by simp)
  rintro v ⟨i,p', l,rfl,hi,hll,hok,hp⟩
  by_cases h5:(i:Int)<n
  · have e1:decide ((i:Int)<n)=true:=decide_eq_true h5
    obtain ⟨s1,s2⟩:=sGetNum_spec hb (by omega) p'
    obtain ⟨t1,t2⟩:=sGetText_spec hb (by omega) (gN b p').2.1
    obtain ⟨u1,u2⟩:=sGetText_spec hb (by omega) (gT b (gN b p').2.1).2.1
    have e2:∀ o:Int×ByteArray×ByteArray,decide ((l.length+[o].length)*40≤MAXB)=true:=fun o=>decide_eq_true (by simp only [List.length_singleton,MAXB];omega)
    rw [show n.toNat - i=(n.toNat - (i+1))+1 by omega,pO] at hp
    simp only [ss_sGetOps_0,e1,s1,s2,t1,t2,u1,u2,e2,cond_true]
    cases hc:(gO b p').2.2 with
    | true =>
      rw [hc,cond_true] at hp
      have hc':=hc
      simp only [gO,Bool.and_eq_true] at hc'
      simp only [hc'.1,hc'.2.1,hc'.2.2,Bool.not_true,cond_false]
      refine .inl ⟨_,rfl,⟨i+1,(gO b p').2.1,l++[(gO b p').1],?_,by omega,by simp [hll],?_,hp⟩,?_⟩
      · rw [wrapU i (by omega)];rfl
      · obtain ⟨x1,x2⟩:=gO_texts hb p'
        simp only [okOps,okL,List.length_append,List.length_singleton,List.all_append,List.all_cons,List.all_nil,Bool.and_true,Bool.and_eq_true,decide_eq_true_eq] at hok ⊢
        exact ⟨by omega,hok.2,by simp only [okOp,okS,Bool.and_eq_true,decide_eq_true_eq];omega⟩
      · rw [wrapU i (by omega)];simp;omega
    | false =>
      rw [hc,cond_false] at hp
      right
      rw [← hp]
      simp only [gO] at hc
      cases h1:(gN b p').2.2 with
      | false=>exact ⟨_,rfl,rfl⟩
      | true=>cases h2:(gT b (gN b p').2.1).2.2 with
        | false=>exact ⟨_,rfl,rfl⟩
        | true=>cases h3:(gT b (gT b (gN b p').2.1).2.1).2.2 with
          | false=>exact ⟨_,rfl,rfl⟩
          | true=>rw [h1,h2,h3] at hc;cases hc
  · have e1:decide ((i:Int)<n)=false:=decide_eq_false h5
    have:n.toNat - i=0:=by omega
    rw [this,pO] at hp
    simp only [ss_sGetOps_0,e1,cond_false]
    exact .inr ⟨_,rfl,by rw [← hp];exact ⟨rfl,hok⟩⟩
theorem sGetOps_spec {b:List Int} (hb:okB b) (hl:b.length≤1048576):sGetOps b=gOps b∧q_sGetOps b=true:=by
 obtain ⟨s1,s2⟩:=sGetNum_spec hb (by omega) 0
 simp only [sGetOps,q_sGetOps,gOps,s1,s2,Bool.true_and,k1_sGetOps]
 cases h:(gN b 0).2.2 with
 | false=>simp
 | true =>
  obtain ⟨r1,r2,r3,r4,r5⟩:=gN_range hb h
  by_cases h8:(gN b 0).1≤8
  ·have e1:decide ((gN b 0).1 > 8)=false:=decide_eq_false (by omega)
   have:=sGetOps_it hb hl (gN b 0).1 (gN b 0).2.1 h8 r4
   rw [if_pos ⟨rfl,h8⟩]
   simp only [Bool.not_true,cond_false,e1]
   cases hp:pO (gN b 0).1.toNat b (gN b 0).2.1 [] with
   | none=>rw [hp] at this;simp only at this;rw [this];exact ⟨rfl,rfl⟩
   | some x =>
    obtain ⟨l,q⟩:=x
    rw [hp] at this
    obtain ⟨this,hok⟩:=this
    rw [this]
    have h10:((1:Nat)==0)=false:=rfl
    simp only [h10,cond_false,q_sOpsOk,hok,Nat.reduceBEq,beq_self_eq_true,Bool.true_and]
    by_cases hq:q=(b.length:Int)
    ·have e2:(q != ((b.length:Nat):Int))=false:=by rw [hq];simp
     simp only [e2,cond_false]
     cases ho:sOpsOk l with
     | true=>rw [if_pos ⟨hq,rfl⟩];exact ⟨rfl,trivial⟩
     | false=>rw [if_neg (fun h=>by cases h.2)];exact ⟨rfl,trivial⟩
    ·have e2:(q != ((b.length:Nat):Int))=true:=by rw [bne_iff_ne];exact hq
     simp only [e2,cond_true]
     rw [if_neg (fun h=>hq h.1)];exact ⟨rfl,trivial⟩
  ·have e1:decide ((gN b 0).1 > 8)=true:=decide_eq_true (by omega)
   rw [if_neg (fun h=>h8 h.2)]
   simp only [Bool.not_true,cond_false,e1,cond_true]
   exact ⟨trivial,trivial⟩
/-- Ops that can be written. -/
noncomputable def fitO (o:Int×ByteArray×ByteArray):Prop:=0≤o.1∧o.1≤1000000000∧o.2.1.size≤1000000000∧o.2.2.size≤1000000000
theorem gT_of {b:List Int} (hb:okB b) {a p:Int} {s:ByteArray} (h:gT b a=(s,p,true)):∃ pre post,b=pre++(textB s++post)∧a=pre.length∧p=a+(textB s).length∧s.size≤1000000000:=by
 simp only [gT] at h
 split at h
 ·rename_i hc
  obtain ⟨h1,h2⟩:=hc
  obtain ⟨pre,post,e1,e2,e3,e4,e5⟩:=gN_of hb (a:=a) (n:=(gN b a).1) (p:=(gN b a).2.1) (by rw [← h1])
  simp only [Prod.mk.injEq,and_true] at h
  obtain ⟨h3,h4⟩:=h
  have hlen:=congrArg List.length e1
  simp only [List.length_append] at hlen
  have ed:b.drop (gN b a).2.1.toNat=post:=by
   have hd:∀ n,b=pre++(numB n++post)→b.drop (pre.length+(numB n).length)=post:=fun n e=>by rw [e,← List.append_assoc,← List.length_append,List.drop_left]
   have:(gN b a).2.1.toNat=pre.length+(numB (gN b a).1).length:=by omega
   rw [this];exact hd _ e1
  rw [ed] at h3
  have hpl:(gN b a).1.toNat≤post.length:=by omega
  have hz:s.size=(gN b a).1.toNat:=by rw [← h3,strB_size,List.length_take];omega
  have hpo:okB (post.take (gN b a).1.toNat):=(by rw [← ed];exact (hb.drop _).take _)
  have hi:strInts s=post.take (gN b a).1.toNat:=by rw [← h3,strInts_strB hpo]
  have hsz:(s.size:Int)=(gN b a).1:=by omega
  refine ⟨pre,post.drop (gN b a).1.toNat,?_,e2,?_,by omega⟩
  ·rw [textB,hsz,hi,List.append_assoc,List.take_append_drop];exact e1
  ·simp only [textB,List.length_append,strInts_len,hsz];omega
 ·cases h
theorem gO_of {b:List Int} (hb:okB b) {p:Int} (h:(gO b p).2.2=true):∃ pre post,b=pre++(opB (gO b p).1++post)∧p=pre.length∧(gO b p).2.1=p+(opB (gO b p).1).length∧fitO (gO b p).1:=by
 simp only [gO,Bool.and_eq_true] at h
 obtain ⟨h1,h2,h3⟩:=h
 obtain ⟨pre1,post1,a1,a2,a3,a4,a5⟩:=gN_of hb (a:=p) (n:=(gN b p).1) (p:=(gN b p).2.1) (by rw [← h1])
 obtain ⟨pre2,post2,b1,b2,b3,b4⟩:=gT_of hb (a:=(gN b p).2.1) (s:=(gT b (gN b p).2.1).1) (p:=(gT b (gN b p).2.1).2.1) (by rw [← h2])
 obtain ⟨pre3,post3,c1,c2,c3,c4⟩:=gT_of hb (a:=(gT b (gN b p).2.1).2.1) (s:=(gT b (gT b (gN b p).2.1).2.1).1) (p:=(gT b (gT b (gN b p).2.1).2.1).2.1) (by rw [← h3])
 have d1:post1=b.drop (pre1++numB (gN b p).1).length:=by
  have hd:∀ (u v w x:List Int),x=u++(v++w)→w=x.drop (u++v).length:=fun u v w x e=>by rw [e,← List.append_assoc,List.drop_left]
  exact hd _ _ _ _ a1
 have d2:textB (gT b (gN b p).2.1).1++post2=b.drop pre2.length:=by
  have hd:∀ (u v x:List Int),x=u++v→v=x.drop u.length:=fun u v x e=>by rw [e,List.drop_left]
  exact hd _ _ _ b1
 have d3:post2=b.drop (pre2++textB (gT b (gN b p).2.1).1).length:=by
  have hd:∀ (u v w x:List Int),x=u++(v++w)→w=x.drop (u++v).length:=fun u v w x e=>by rw [e,← List.append_assoc,List.drop_left]
  exact hd _ _ _ _ b1
 have d4:textB (gT b (gT b (gN b p).2.1).2.1).1++post3=b.drop pre3.length:=by
  have hd:∀ (u v x:List Int),x=u++v→v=x.drop u.length:=fun u v x e=>by rw [e,List.drop_left]
  exact hd _ _ _ c1
 have f1:post1=textB (gT b (gN b p).2.1).1++post2:=by rw [d1,d2];congr 1;simp only [List.length_append];omega
 have f2:post2=textB (gT b (gT b (gN b p).2.1).2.1).1++post3:=by rw [d3,d4];congr 1;simp only [List.length_append];omega
 have hk:clampN (gN b p).1=(gN b p).1:=clampN_of a4 a5
 refine ⟨pre1,post3,?_,a2,?_,a4,a5,b4,c4⟩
 ·simp only [opB,gO,hk,List.append_assoc]
  rw [← f2,← f1];exact a1
 ·simp only [opB,gO,hk,List.length_append];omega
theorem pO_of {b:List Int} (hb:okB b):∀ (k:Nat) (p:Int) (acc l:Lq1) (q:Int),0≤p→p≤b.length→pO k b p acc=some (l,q) →
  ∃ l' pre post,l=acc++l'∧l'.length=k∧b=pre++((l'.map opB).flatten++post)∧p=pre.length∧q=p+(l'.map opB).flatten.length∧∀ o∈l', fitO o:=by
 intro k
 induction k with
 | zero =>
  intro p acc l q h0 h1 h
  simp only [pO,Option.some.injEq,Prod.mk.injEq] at h
  obtain ⟨rfl,rfl⟩:=h
  exact ⟨[],b.take p.toNat,b.drop p.toNat,by simp,rfl,by simp,by rw [List.length_take];omega,by simp,by simp⟩
 | succ k ih =>
  intro p acc l q h0 h1 h
  simp only [pO] at h
  cases hc:(gO b p).2.2 with
  | false=>rw [hc] at h;cases h
  | true =>
   rw [hc,cond_true] at h
   obtain ⟨pre,post,a1,a2,a3,a4⟩:=gO_of hb hc
   have hlen:=congrArg List.length a1
   simp only [List.length_append] at hlen
   obtain ⟨l', pre', post', b1,b2,b3,b4,b5,b6⟩:=ih (gO b p).2.1 (acc++[(gO b p).1]) l q (by omega) (by omega) h
   have d1:post=b.drop (pre++opB (gO b p).1).length:=by
    have hd:∀ (u v w x:List Int),x=u++(v++w)→w=x.drop (u++v).length:=fun u v w x e=>by rw [e,← List.append_assoc,List.drop_left]
    exact hd _ _ _ _ a1
   have d2:(l'.map opB).flatten++post'=b.drop pre'.length:=by
    have hd:∀ (u v x:List Int),x=u++v→v=x.drop u.length:=fun u v x e=>by rw [e,List.drop_left]
    exact hd _ _ _ b3
   have f1:post=(l'.map opB).flatten++post':=by rw [d1,d2];congr 1;simp only [List.length_append];omega
   refine ⟨(gO b p).1::l', pre,post', by rw [b1];simp,by simp [b2],?_,a2,?_,?_⟩
   ·simp only [List.map_cons,List.flatten_cons,List.append_assoc]
    rw [← f1];exact a1
   ·simp only [List.map_cons,List.flatten_cons,List.length_append];omega
   ·intro o ho
    rcases List.mem_cons.1 ho with rfl | ho
    ·exact a4
    ·exact b6 o ho
theorem gOps_of {b:List Int} (hb:okB b) {l:Lq1} (h:gOps b=(l,true)):sOpsOk l=true∧b=opsB l:=by
 simp only [gOps] at h
 split at h
 ·rename_i hc
  obtain ⟨c1,c2⟩:=hc
  obtain ⟨post,e1,e2,e3,e4⟩:=gN_at0 hb (n:=(gN b 0).1) (p:=(gN b 0).2.1) (by rw [← c1])
  have hlen:=congrArg List.length e1
  rw [List.length_append] at hlen
  split at h
  ·rename_i l' q hp
   split at h
   ·rename_i hq
    simp only [Prod.mk.injEq,and_true] at h
    subst h
    obtain ⟨l2,pre,post2,f1,f2,f3,f4,f5,f6⟩:=pO_of hb _ _ _ _ _ (by omega) (by omega) hp
    simp only [List.nil_append] at f1
    subst f1
    refine ⟨hq.2,?_⟩
    have g1:(l'.length:Int)=(gN b 0).1:=by omega
    have hlen2:=congrArg List.length f3
    simp only [List.length_append] at hlen2
    have hp2:post2=[]:=List.eq_nil_of_length_eq_zero (by have:=hq.1;omega)
    subst hp2
    have key:∀ b':List Int,b'=numB (gN b 0).1++post→b'=pre++((l'.map opB).flatten++[])→pre.length=(numB (gN b 0).1).length→b'=numB (gN b 0).1++(l'.map opB).flatten:=by
     intro b' x1 x2 x3
     obtain ⟨q1,q2⟩:=List.append_inj (x2.symm.trans x1) x3
     rw [x2,q1,List.append_nil]
    rw [opsB,g1]
    exact key b e1 f3 (by omega)
   ·cases h
  ·cases h
 ·cases h
theorem opsOk_small {l:Lq1} (h:sOpsOk l=true):l.length≤8∧∀ o∈l,o.2.1.size≤12∧o.2.2.size≤20:=by
 simp only [sOpsOk] at h
 cases h5:allF (sOpAt l) (l.length - (0:Int).toNat) (0:Int).toNat with
 | false=>rw [h5] at h;simp at h
 | true =>
  rw [h5] at h
  simp only [cond_true,sl1In] at h
  constructor
  ·cases h6:decide (((l.length:Nat):Int) ≥ 1) with
   | false=>simp [h6] at h
   | true=>rw [h6] at h;simp only [cond_true,decide_eq_true_eq] at h;omega
  ·intro o ho
   obtain ⟨i,hi,rfl⟩:=List.getElem_of_mem ho
   have h6:=(allF_true _ _).1 h5 i (Nat.zero_le _) (by simpa using hi)
   simp only [sOpAt,Bool.and_eq_true,List.getD_eq_getElem?_getD,List.getElem?_eq_getElem hi,Option.getD_some] at h6
   have h7:=h6.1
   simp only [sl7Op] at h7
   have hk:∀ s:ByteArray,sKeyOk s=true→s.size≤12:=by
    intro s hs
    simp only [sKeyOk] at hs
    cases h8:allF (sKeyAt s) (s.size - (0:Int).toNat) (0:Int).toNat with
    | false=>rw [h8] at hs;simp at hs
    | true =>
     rw [h8] at hs
     simp only [cond_true,sl1In] at hs
     cases h9:decide (((s.size:Nat):Int) ≥ 1) with
     | false=>simp [h9] at hs
     | true=>rw [h9] at hs;simp only [cond_true,decide_eq_true_eq] at hs;omega
   cases h8:sKeyOk (l[i]).2.1 with
   | false=>exfalso;revert h7;simp only [h8,cond_false];cases sl1In (l[i]).1 1 3<;>cases ((l[i]).1==2)<;>simp
   | true =>
    refine ⟨hk _ h8,?_⟩
    revert h7
    simp only [h8,cond_true]
    cases sl1In (l[i]).1 1 3<;>cases ((l[i]).1==2)<;>simp<;>omega
theorem opsOk_okOps {l:Lq1} (h:sOpsOk l=true):okOps l=true:=by
 obtain ⟨a1,a2⟩:=opsOk_small h
 simp only [okOps,okL,Bool.and_eq_true,decide_eq_true_eq,List.all_eq_true]
 refine ⟨by omega,fun o ho=>?_⟩
 have:=a2 o ho
 simp only [okOp,okS,Bool.and_eq_true,decide_eq_true_eq];omega
theorem recOk_is {k t:Int} {l:Lq1} (h:sRecOk k t l=true):1≤k∧k≤3∧1≤t∧t≤1000000∧(k=1→sOpsOk l=true)∧(k ≠ 1→l=[])∧okOps l=true:=by
 simp only [sRecOk,sl1In] at h
 cases h1:decide (t ≥ 1) with
 | false=>simp [h1] at h
 | true=>cases h2:decide (t≤1000000) with
  | false=>simp [h1,h2] at h
  | true =>
   simp only [h1,h2,cond_true,Bool.not_true,cond_false] at h
   have:=of_decide_eq_true h1;have:=of_decide_eq_true h2
   cases k1:(k==1) with
   | true =>
    have:=eq_of_beq k1
    simp only [k1,cond_true] at h
    exact ⟨by omega,by omega,by omega,by omega,fun _=>h,fun hk=>absurd this hk,opsOk_okOps h⟩
   | false =>
    have hk:k ≠ 1:=by rw [beq_eq_false_iff_ne] at k1;exact k1
    simp only [k1,cond_false] at h
    have key:(k=2∨k=3)∧l=[]:=by
     cases k2:(k==2) with
     | true =>
      simp only [k2,cond_true] at h
      have:=eq_of_beq h
      exact ⟨.inl (eq_of_beq k2),List.eq_nil_of_length_eq_zero (by omega)⟩
     | false =>
      cases k3:(k==3) with
      | true =>
       simp only [k2,k3,cond_true,cond_false] at h
       have:=eq_of_beq h
       exact ⟨.inr (eq_of_beq k3),List.eq_nil_of_length_eq_zero (by omega)⟩
      | false=>simp [k2,k3] at h
    exact ⟨by omega,by omega,by omega,by omega,fun e=>absurd e hk,fun _=>key.2,by rw [key.2];rfl⟩
theorem sOpsOk_len {l:Lq1} (h:sOpsOk l=true):1≤l.length:=by
 simp only [sOpsOk] at h
 cases h5:allF (sOpAt l) (l.length - (0:Int).toNat) (0:Int).toNat with
 | false=>rw [h5] at h;simp at h
 | true =>
  rw [h5] at h
  simp only [cond_true,sl1In] at h
  cases h6:decide (((l.length:Nat):Int) ≥ 1) with
  | false=>simp [h6] at h
  | true=>have:=of_decide_eq_true h6;omega
theorem sGetRec_of {b:List Int} (hb:okB b) (hl:b.length≤1048576) (a:Int):q_sGetRec b a=true∧((∃ k t l pre post,sGetRec b a=(k,t,l,((pre.length+(recB k t l).length:Nat):Int),true)∧sRecOk k t l=true∧b=pre++(recB k t l++post)∧a=(pre.length:Int))∨sGetRec b a=(0,0,[],a,false)):=by
 obtain ⟨g1,g2⟩:=sGetNum_spec hb (by omega) a
 simp only [sGetRec,q_sGetRec,g1,g2,k1_sGetRec,k2_sGetRec,k3_sGetRec,k4_sGetRec,Bool.true_and]
 cases h1:(gN b a).2.2 with
 | false=>exact ⟨rfl,.inr rfl⟩
 | true =>
 obtain ⟨r1,r2,r3,r4,r5⟩:=gN_range hb h1
 generalize eg:gN b a=g at *
 obtain ⟨n,p,o⟩:=g
 simp only at h1 r1 r2 r3 r4 r5 ⊢
 subst h1
 obtain ⟨w1,w2,w3,w4⟩:=wraps4 (len:=((b.length:Nat):Int)) (p:=p) (n:=n) ⟨by omega,by omega⟩ ⟨by omega,by omega⟩ ⟨by omega,by omega⟩
 simp only [w1,w2,w3,w4,Bool.not_true,cond_false]
 by_cases hn:n > ((b.length:Nat):Int) - p - 4
 ·simp only [decide_eq_true hn,cond_true];exact ⟨trivial,.inr trivial⟩
 simp only [decide_eq_false hn,cond_false]
 obtain ⟨pre,body,s4,rest,e,ea,ep,el,e4,n1,n0,hB,h4⟩:=getHead hb hl eg hn
 have hlen:=congrArg List.length e
 simp only [List.length_append] at hlen
 have c1:(b.take (p+n).toNat).drop p.toNat=body:=cutL (x:=pre++numB n) (z:=s4++rest) (by rw [e];simp only [List.append_assoc]) (by rw [List.length_append];omega) (by rw [List.length_append];omega)
 have c2:(b.take (p+n+4).toNat).drop (p+n).toNat=s4:=cutL (x:=pre++(numB n++body)) (z:=rest) (by rw [e];simp only [List.append_assoc]) (by simp only [List.length_append];omega) (by simp only [List.length_append];omega)
 have gb:=fun a=>(sGetNum_spec hB (by omega) a)
 obtain ⟨_,d4,d5,d6⟩:=idig_ok body (by omega)
 obtain ⟨d1,dS⟩:=dig_ok hB (by omega)
 have m1:decide (0≤p∧p≤p+n∧p+n≤((b.length:Nat):Int))=true:=decide_eq_true (by omega)
 have m2:decide (0≤p+n∧p+n≤p+n+4∧p+n+4≤((b.length:Nat):Int))=true:=decide_eq_true (by omega)
 have m3:decide ((([]:List Int).length+body.length)*1≤MAXB)=true:=decide_eq_true (by simp only [List.length_nil,MAXB];omega)
 have m4:decide (0≤(0:Int)∧(0:Int)≤(4:Int)∧(4:Int)≤(((sDigest body).size:Nat):Int))=true:=decide_eq_true (by rw [dS];omega)
 simp only [c1,c2,m1,m2,m3,m4,d1,List.nil_append,gb,Bool.true_and]
 cases h2:(gN body 0).2.2 with
 | false=>exact ⟨rfl,.inr rfl⟩
 | true =>
 cases h3:(gN body (gN body 0).2.1).2.2 with
 | false=>exact ⟨rfl,.inr rfl⟩
 | true =>
 simp only [Bool.not_true,cond_false]
 cases hs:((⟨(s4.map fun n=>UInt8.ofNat n.toNat).toArray⟩:ByteArray).toList==((sDigest body).extract (0:Int).toNat (4:Int).toNat).toList) with
 | false=>exact ⟨rfl,.inr rfl⟩
 | true =>
 have hs4:s4=digB4 body:=by rw [dS] at hs;exact (strEq_ok h4).1 hs
 simp only [Bool.not_true,cond_false]
 generalize e1:gN body 0=x1 at *
 obtain ⟨k,p1,o1⟩:=x1
 simp only at h2 h3 ⊢
 subst h2
 obtain ⟨r1,y1,z1,_,_⟩:=gN_at0 hB e1
 subst z1
 generalize e2:gN body ((numB k).length:Int)=x2 at *
 obtain ⟨t,p2,o2⟩:=x2
 simp only at h3 ⊢
 subst h3
 obtain ⟨r2,y2,z2,_,_⟩:=gN_at (pre:=numB k) (rest:=r1) (by rw [← y1];exact hB) (by rw [← y1];exact e2)
 subst z2
 have y3:body=(numB k++numB t)++r2:=by rw [y1,y2,List.append_assoc]
 have hlb:=congrArg List.length y3
 rw [List.length_append] at hlb
 have hr2:okB r2:=okB.right (by rw [← y3];exact hB)
 have fin:∀ l,sRecOk k t l=true→recBody k t l=body→∃ k' t' l' pre' post', (k,t,l,p+n+4,true)=(k', t', l', ((pre'.length+(recB k' t' l').length:Nat):Int),true)∧sRecOk k' t' l'=true∧b=pre'++(recB k' t' l'++post')∧a=(pre'.length:Int):=by
  intro l hw hbd
  have hE:p+n+4=((pre.length+(recB k t l).length:Nat):Int):=by
   rw [recB,hbd,el];simp only [List.length_append,d5];omega
  refine ⟨k,t,l,pre,rest,by rw [hE],hw,?_,ea⟩
  ·rw [recB,hbd,el,e,hs4];simp only [List.append_assoc]
 have et:(body.drop ((numB k++numB t).length:Int).toNat).take (((body.length:Nat):Int).toNat - ((numB k++numB t).length:Int).toNat)=r2:=by
  rw [Int.toNat_natCast,Int.toNat_natCast]
  rw [show body.drop (numB k++numB t).length=r2 by rw [y3,List.drop_left]]
  exact List.take_of_length_le (by omega)
 by_cases hr:((numB k++numB t).length:Int)<((body.length:Nat):Int)
 ·obtain ⟨so1,so2⟩:=sGetOps_spec hr2 (by omega)
  have m5:decide (0≤((numB k++numB t).length:Int)∧((numB k++numB t).length:Int)≤((body.length:Nat):Int)∧((body.length:Nat):Int)≤((body.length:Nat):Int))=true:=decide_eq_true (by omega)
  simp only [decide_eq_true hr,cond_true,et,so1,so2,m5,Bool.true_and]
  cases ho:(gOps r2).2 with
  | false=>exact ⟨rfl,.inr rfl⟩
  | true =>
   obtain ⟨m1,m2⟩:=gOps_of hr2 (l:=(gOps r2).1) (by rw [← ho])
   simp only [Bool.not_true,cond_false,q_sRecOk,opsOk_okOps m1]
   cases hw:sRecOk k t (gOps r2).1 with
   | false=>exact ⟨trivial,.inr rfl⟩
   | true =>
    refine ⟨trivial,.inl (fin _ hw ?_)⟩
    have hk:(k==1)=true:=by
     cases hk:(k==1) with
     | true=>rfl
     | false =>
      obtain ⟨a1,a2,a3,a4,a7,a8,a9⟩:=recOk_is hw
      have:=sOpsOk_len m1
      rw [a8 (by simpa using hk)] at this;simp at this
    rw [recBody,hk,cond_true,← m2,y3,List.append_assoc]
 ·simp only [decide_eq_false hr,cond_false,q_sRecOk]
  have hr0:r2=[]:=List.eq_nil_of_length_eq_zero (by omega)
  cases hw:sRecOk k t [] with
  | false=>exact ⟨rfl,.inr rfl⟩
  | true =>
   refine ⟨rfl,.inl (fin _ hw ?_)⟩
   have hk:(k==1)=false:=by
    cases hk:(k==1) with
    | false=>rfl
    | true =>
     obtain ⟨a1,a2,a3,a4,a7,a8,a9⟩:=recOk_is hw
     have:=sOpsOk_len (a7 (eq_of_beq hk))
     simp at this
   rw [recBody,hk,cond_false,y3,hr0,List.append_nil,List.append_nil]
theorem iGetNum_it {b:List Int} (hb:okB b) (hl:b.length≤1099511627776) {i:Nat} (hi:i<b.length) :
    (match pN 5 0 0 (b.drop i) with
      | some (n,l)=>it_iGetNum_0 b (i:Int) 0 0=(0,(n:Int),(i:Int)+l,true)
      | none=>it_iGetNum_0 b (i:Int) 0 0=(0,0,0,false)∨(it_iGetNum_0 b (i:Int) 0 0).1=1):=by
  refine itX_inv (fun v => ∃ k n : Nat, v = (b, ((i + k : Nat) : Int), (n : Int), (k : Int)) ∧ k ≤ 5 ∧ n < 2 ^ (7 * k) ∧ pN (5 - k) k n (b.drop (i + k)) = pN 5 0 0 (b.drop i)) (fun a => match pN 5 0 0 (b.drop i) with
      | some (n,l)=>a=(0,(n:Int),(i:Int)+l,true)
      | none=>a=(0,0,0,false)∨a.1=1) (fun v=>5 - v.2.2.2.toNat) ?_ ⟨0,0,rfl,by omega,by simp,rfl⟩ (by simp)
  rintro v ⟨k,n,rfl,hk,hn,hp⟩
  by_cases h5:k<5
  · have e1:decide ((k:Int)<5)=true:=decide_eq_true (by omega)
    by_cases hik:i+k<b.length
    · have e5:decide (((i+k:Nat):Int)<((b.length:Nat):Int))=true:=decide_eq_true (by omega)
      have e6:decide (0≤((i+k:Nat):Int)∧((i+k:Nat):Int)<((b.length:Nat):Int))=true:=decide_eq_true (by omega)
      have e7:decide (0≤(IntKind.wrap .u64 (IntKind.wrap .i64 ((7:Int)*(k:Int)))))=true:=by
        rw [wrap64 (n:=(7:Int)*(k:Int)) (by omega) (by omega),wrapU64 (by omega) (by omega)];exact decide_eq_true (by omega)
      obtain ⟨hc0,hc1⟩:=hb.getD (i+k)
      have hdc:=drop_cons hik
      obtain ⟨c,hc⟩:=Int.eq_ofNat_of_zero_le hc0
      rw [hc] at hc1 hdc
      have hc255:c≤255:=by omega
      obtain ⟨f1,f2,f3⟩:=acc7 n c k hc255 h5 hn
      have e8:IntKind.wrap .i64 (c:Int)=(c:Int):=wrap64 (by omega) (by omega)
      have e13:IntKind.wrap .i64 (((i+k:Nat):Int)+1)=((i+k+1:Nat):Int):=wrapU (i+k) (by omega)
      rw [hdc,show 5 - k=(4 - k)+1 by omega,pN] at hp
      simp only [Int.toNat_natCast] at hp
      simp only [ss_iGetNum_0,e1,e5,e6,e7,cond_true,Int.toNat_natCast,hc,f1,e13]
      simp only [e8]
      by_cases h127:c > 127
      · rw [if_pos (by omega)] at hp
        have e9:decide ((c:Int)<128)=false:=decide_eq_false (by omega)
        simp only [e9,cond_false]
        refine .inl ⟨_,rfl,⟨k+1,n+c % 128*2 ^ (7*k),?_,by omega,f2,?_⟩,?_⟩
        · rw [wrapU k (by omega)];rfl
        · rw [show 5 - (k+1)=4 - k by omega,← hp];rfl
        · rw [wrapU k (by omega)];simp;omega
      · rw [if_neg (by omega)] at hp
        have e9:decide ((c:Int)<128)=true:=decide_eq_true (by omega)
        have hcm:c % 128=c:=by omega
        rw [hcm] at f3 ⊢
        simp only [e9,cond_true]
        right
        by_cases hz:0<k∧c=0
        · rw [if_pos (by omega)] at hp
          have e10:decide ((k:Int) > 0)=true:=decide_eq_true (by omega)
          have e11:((c:Int)==0)=true:=by rw [beq_iff_eq];omega
          simp only [e10,e11,cond_true]
          exact ⟨_,rfl,by rw [← hp];exact .inl rfl⟩
        · by_cases hg:n+c*2 ^ (7*k) > 1000000000
          · rw [if_pos (.inr hg)] at hp
            have e12:decide (((n+c*2 ^ (7*k):Nat):Int) > 1000000000)=true:=decide_eq_true (by omega)
            simp only [e12,cond_true]
            refine ⟨(0,0,0,false),?_,by rw [← hp];exact .inl rfl⟩
            cases decide ((k:Int) > 0)<;>cases ((c:Int)==0)<;>rfl
          · rw [if_neg (fun h=>h.elim (fun h=>hz ⟨h.1,by omega⟩) hg)] at hp
            have e12:decide (((n+c*2 ^ (7*k):Nat):Int) > 1000000000)=false:=decide_eq_false (by omega)
            simp only [e12,cond_false]
            refine ⟨(0,((n+c*2 ^ (7*k):Nat):Int),((i+k+1:Nat):Int),true),?_,?_⟩
            · by_cases h0:0<k
              · have e10:decide ((k:Int) > 0)=true:=decide_eq_true (by omega)
                have e11:((c:Int)==0)=false:=by rw [beq_eq_false_iff_ne];intro h;exact hz ⟨h0,by omega⟩
                simp only [e10,e11,cond_true,cond_false]
              · have e10:decide ((k:Int) > 0)=false:=decide_eq_false (by omega)
                simp only [e10,cond_false]
                cases ((c:Int)==0)<;>rfl
            · rw [← hp];show _=_
              congr 3
    · have e5:decide (((i+k:Nat):Int)<((b.length:Nat):Int))=false:=decide_eq_false (by omega)
      rw [show 5 - k=(4 - k)+1 by omega,List.drop_eq_nil_of_le (by omega),pN] at hp
      simp only [ss_iGetNum_0,e1,e5,cond_true,cond_false]
      exact .inr ⟨_,rfl,by rw [← hp];exact .inr rfl⟩
  · obtain rfl:k=5:=by omega
    have e1:decide (((5:Nat):Int)<5)=false:=by decide
    simp only [ss_iGetNum_0,e1,cond_false]
    exact .inr ⟨_,rfl,by rw [← hp];exact .inr rfl⟩
theorem iGetNum_spec {b:List Int} (hb:okB b) (hl:b.length≤1099511627776) (a:Int):iGetNum b a=gN b a∧q_iGetNum b a=true:=by
 have hw:IntKind.wrap .i64 (((b.length:Nat):Int) - 1)=((b.length:Nat):Int) - 1:=wrap64 (by omega) (by omega)
 simp only [iGetNum,q_iGetNum,gN,iinRange,hw]
 by_cases h:0≤a∧a<b.length
 ·obtain ⟨i,rfl⟩:=Int.eq_ofNat_of_zero_le h.1
  have hi:i<b.length:=by omega
  have e1:decide ((i:Int) ≥ 0)=true:=decide_eq_true (by omega)
  have e2:decide ((i:Int)≤((b.length:Nat):Int) - 1)=true:=decide_eq_true (by omega)
  rw [if_pos h,Int.toNat_natCast]
  simp only [e1,e2,cond_true,Bool.not_true,cond_false]
  have:=iGetNum_it hb hl hi
  cases hp:pN 5 0 0 (b.drop i) with
  | some x =>
   rw [hp] at this
   simp only at this
   rw [this];exact ⟨rfl,rfl⟩
  | none =>
   rw [hp] at this
   rcases this with h1 | h1
   ·rw [h1];exact ⟨rfl,rfl⟩
   ·rw [h1];exact ⟨rfl,rfl⟩
 ·rw [if_neg h]
  have e:cond (decide (a ≥ 0)) (decide (a≤((b.length:Nat):Int) - 1)) false=false:=by
   by_cases h1:a ≥ 0
   ·rw [decide_eq_true h1,cond_true,decide_eq_false (by omega)]
   ·rw [decide_eq_false h1,cond_false]
  rw [e];exact ⟨rfl,rfl⟩
theorem igetter_num_spec {b:List Int} (hb:okB b) (hl:b.length≤1048576) (a:Int) (bad:Bool):q_igetter_num b a bad=true∧igetter_num b a bad=cond bad ((0:Int),b,a,true) (cond (gN b a).2.2 ((gN b a).1,b,(gN b a).2.1,false) ((0:Int),b,a,true)):=by
 obtain ⟨h1,h2⟩:=iGetNum_spec hb (by omega) a
 simp only [igetter_num,q_igetter_num,h1,h2]
 cases bad<;>cases (gN b a).2.2<;>simp
/-- All ops by the getter. -/
noncomputable def gOpsI (b:List Int) (a:Int):Option (Lq1×Int) :=
 cond (gN b a).2.2 (cond (decide ((gN b a).1≤8)) (pO (gN b a).1.toNat b (gN b a).2.1 []) none) none
theorem iGetText_spec {b:List Int} (hb:okB b) (hl:b.length≤1099511627776) (a:Int):iGetText b a=gT b a∧q_iGetText b a=true:=by
 obtain ⟨h1,h2⟩:=iGetNum_spec hb hl a
 obtain ⟨h3,h4⟩:=gT_eq hb hl a
 rw [h3]
 simp only [iGetText,q_iGetText,h1,h2,Bool.true_and]
 exact ⟨trivial,h4⟩
theorem igetter_text_spec {b:List Int} (hb:okB b) (hl:b.length≤1048576) (a:Int) (bad:Bool):q_igetter_text b a bad=true∧igetter_text b a bad=cond bad ((⟨#[]⟩:ByteArray),b,a,true) (cond (gT b a).2.2 ((gT b a).1,b,(gT b a).2.1,false) ((⟨#[]⟩:ByteArray),b,a,true)):=by
 obtain ⟨h1,h2⟩:=iGetText_spec hb (by omega) a
 simp only [igetter_text,q_igetter_text,h1,h2]
 cases bad<;>cases (gT b a).2.2<;>simp
/-- One op by the getter. -/
theorem igetter_one {b:List Int} (hb:okB b) (hl:b.length≤1048576) (a:Int) (bad:Bool) :
  q_igetter_num b a bad=true∧q_igetter_text (igetter_num b a bad).2.1 (igetter_num b a bad).2.2.1 (igetter_num b a bad).2.2.2=true ∧
  q_igetter_text (k1_igetter_ops b a bad).2.1 (k1_igetter_ops b a bad).2.2.1 (k1_igetter_ops b a bad).2.2.2=true ∧
  (k2_igetter_ops b a bad).2.1=b∧(k1_igetter_ops b a bad).1.size≤b.length∧(k2_igetter_ops b a bad).1.size≤b.length ∧
  (bad=true→(k2_igetter_ops b a bad).2.2.2=true) ∧
  (bad=false→(k2_igetter_ops b a bad).2.2.2=!(gO b a).2.2) ∧
  (bad=false→(gO b a).2.2=true→(k2_igetter_ops b a bad).2.2.1=(gO b a).2.1∧((igetter_num b a bad).1,(k1_igetter_ops b a bad).1,(k2_igetter_ops b a bad).1)=(gO b a).1):=by
 obtain ⟨n1,n2⟩:=igetter_num_spec hb hl a bad
 have nb:(igetter_num b a bad).2.1=b:=by rw [n2];cases bad<;>cases (gN b a).2.2<;>rfl
 have t:=fun (x:Int) (y:Bool)=>igetter_text_spec hb hl x y
 have tb:∀ x y,(igetter_text b x y).2.1=b:=fun x y=>by rw [(t x y).2];cases y<;>cases (gT b x).2.2<;>rfl
 have ts:∀ x y,(igetter_text b x y).1.size≤b.length:=fun x y=>by
  rw [(t x y).2]
  cases y with
  | true=>exact Nat.zero_le _
  | false=>cases (gT b x).2.2 with
   | true=>exact gT_size hb x
   | false=>exact Nat.zero_le _
 refine ⟨n1,by rw [nb];exact (t _ _).1,?_,?_,?_,?_,?_,?_,?_⟩
 ·simp only [k1_igetter_ops,nb,tb];exact (t _ _).1
 ·simp only [k2_igetter_ops,k1_igetter_ops,nb,tb]
 ·simp only [k1_igetter_ops,nb];exact ts _ _
 ·simp only [k2_igetter_ops,k1_igetter_ops,nb,tb];exact ts _ _
 ·rintro rfl
  simp only [k2_igetter_ops,k1_igetter_ops,nb,tb]
  simp only [n2,t,cond_true]
 ·rintro rfl
  simp only [k2_igetter_ops,k1_igetter_ops,nb,tb]
  simp only [n2,cond_false,gO]
  cases h1:(gN b a).2.2 with
  | false=>simp only [cond_false,t,cond_true];rfl
  | true =>
   simp only [cond_true,t,cond_false]
   cases h2:(gT b (gN b a).2.1).2.2 with
   | false=>simp only [cond_false,cond_true];rfl
   | true =>
    simp only [cond_true,cond_false]
    cases h3:(gT b (gT b (gN b a).2.1).2.1).2.2<;>rfl
 ·rintro rfl hc
  simp only [k2_igetter_ops,k1_igetter_ops,nb,tb]
  simp only [gO,Bool.and_eq_true] at hc ⊢
  obtain ⟨h1,h2,h3⟩:=hc
  simp only [n2,cond_false,h1,cond_true,t,h2,h3]
  exact ⟨trivial,trivial⟩
theorem igetter_ops_it {b:List Int} (hb:okB b) (hl:b.length≤1048576) (n p:Int) (bad:Bool) (hn:n≤8) (h0:0≤n) :
    (it_igetter_ops_0 n 0 b p bad []).1=0∧(it_igetter_ops_0 n 0 b p bad []).2.1=b∧okOps (it_igetter_ops_0 n 0 b p bad []).2.2.2.2=true∧(match cond bad none (pO n.toNat b p []) with
      | some (l,q)=>it_igetter_ops_0 n 0 b p bad []=(0,b,q,false,l)
      | none=>(it_igetter_ops_0 n 0 b p bad []).2.2.2.1=true):=by
  refine itX_inv (fun v : V_igetter_ops_0 => ∃ (i : Nat) (p' : Int) (bd : Bool) (l : Lq1), v = (n, (i : Int), b, p', bd, l) ∧ (i : Int) ≤ n ∧ l.length = i ∧ okOps l = true ∧ cond bd none (pO (n.toNat - i) b p' l) = cond bad none (pO n.toNat b p [])) (fun a : A_igetter_ops_0 => a.1 = 0 ∧ a.2.1 = b ∧ okOps a.2.2.2.2 = true ∧ (match cond bad none (pO n.toNat b p []) with
      | some (l,q)=>a=(0,b,q,false,l)
      | none=>a.2.2.2.1=true)) (fun v=>8 - v.2.1.toNat) ?_ ⟨0,p,bad,[],rfl,h0,rfl,rfl,rfl⟩ (by simp)
  rintro v ⟨i,p', bd,l,rfl,hi,hll,hok,hp⟩
  by_cases h5:(i:Int)<n
  · have e1:decide ((i:Int)<n)=true:=decide_eq_true h5
    obtain ⟨q1,q2,q3,q4,q5,q6,q7,q8,q9⟩:=igetter_one hb hl p' bd
    have e2:∀ o:Int×ByteArray×ByteArray,decide ((l.length+[o].length)*40≤MAXB)=true:=fun o=>decide_eq_true (by simp only [List.length_singleton,MAXB];omega)
    simp only [ss_igetter_ops_0,e1,q1,q2,q3,q4,e2,cond_true]
    refine .inl ⟨_,rfl,⟨i+1,_,_,l++[((igetter_num b p' bd).1,(k1_igetter_ops b p' bd).1,(k2_igetter_ops b p' bd).1)],by rw [wrapU i (by omega)],by omega,by simp [hll],?_,?_⟩,?_⟩
    · simp only [okOps,okL,List.length_append,List.length_singleton,List.all_append,List.all_cons,List.all_nil,Bool.and_true,Bool.and_eq_true,decide_eq_true_eq] at hok ⊢
      exact ⟨by omega,hok.2,by simp only [okOp,okS,Bool.and_eq_true,decide_eq_true_eq];omega⟩
    · rw [← hp]
      cases bd with
      | true=>rw [q7 rfl];rfl
      | false =>
        rw [q8 rfl,show n.toNat - i=(n.toNat - (i+1))+1 by omega,pO]
        cases hc:(gO b p').2.2 with
        | false=>rfl
        | true =>
          obtain ⟨z1,z2⟩:=q9 rfl hc
          rw [z1,z2];rfl
    · rw [wrapU i (by omega)];simp;omega
  · have e1:decide ((i:Int)<n)=false:=decide_eq_false h5
    have e3:n.toNat - i=0:=by omega
    rw [e3,pO] at hp
    simp only [ss_igetter_ops_0,e1,cond_false]
    refine .inr ⟨_,rfl,rfl,rfl,hok,?_⟩
    rw [← hp]
    cases bd<;>rfl
theorem igetter_ops_spec {b:List Int} (hb:okB b) (hl:b.length≤1048576) (a:Int) (bad:Bool):q_igetter_ops b a bad=true∧(igetter_ops b a bad).1=b∧okOps (igetter_ops b a bad).2.2.2=true ∧
  (match cond bad none (gOpsI b a) with
   | some (l,q)=>igetter_ops b a bad=(b,q,false,l)
   | none=>(igetter_ops b a bad).2.2.1=true):=by
 obtain ⟨n1,n2⟩:=igetter_num_spec hb hl a bad
 have nb:(igetter_num b a bad).2.1=b:=by rw [n2];cases bad<;>cases (gN b a).2.2<;>rfl
 have nr:0≤(igetter_num b a bad).1:=by
  rw [n2]
  cases bad with
  | true=>exact Int.le_refl _
  | false=>cases h:(gN b a).2.2 with
   | true=>exact (gN_range hb h).2.2.2.1
   | false=>exact Int.le_refl _
 simp only [igetter_ops,q_igetter_ops,k3_igetter_ops,n1,nb,Bool.true_and]
 by_cases h8:(igetter_num b a bad).1≤8
 ·have e1:decide ((igetter_num b a bad).1 > 8)=false:=decide_eq_false (by omega)
  obtain ⟨i1,i2,i3,i4⟩:=igetter_ops_it hb hl (igetter_num b a bad).1 (igetter_num b a bad).2.2.1 (igetter_num b a bad).2.2.2 h8 nr
  simp only [e1,cond_false,i1,i2,i3]
  refine ⟨rfl,trivial,trivial,?_⟩
  revert i4
  rw [n2]
  cases bad with
  | true=>simp
  | false =>
   simp only [cond_false,gOpsI]
   cases h:(gN b a).2.2 with
   | false=>simp
   | true =>
    have h9:decide ((gN b a).1≤8)=true:=by rw [n2] at h8;simp only [cond_false,h,cond_true] at h8;exact decide_eq_true h8
    simp only [cond_true,h9,cond_false]
    cases pO (gN b a).1.toNat b (gN b a).2.1 [] with
    | none=>exact id
    | some x=>intro i4;simp only at i4 ⊢;rw [i4]
 ·have e1:decide ((igetter_num b a bad).1 > 8)=true:=decide_eq_true (by omega)
  simp only [e1,cond_true]
  refine ⟨trivial,trivial,rfl,?_⟩
  cases bad with
  | true=>simp
  | false =>
   simp only [cond_false,gOpsI]
   rw [n2] at h8
   cases h:(gN b a).2.2 with
   | false=>rw [h] at h8;simp at h8
   | true =>
    simp only [cond_false,h,cond_true] at h8
    simp only [cond_true,decide_eq_false h8,cond_false]
theorem hiB_ok:∀ (j x:Nat),x<128 ^ (j+1)→x<9223372036854775808→okB (hiB j x):=by
 intro j
 induction j with
 | zero=>intro x h h';rw [hiB_stop 0 x (by simp at h;omega)];intro c hc;simp at hc;simp at h;omega
 | succ j ih =>
  intro x h h'
  by_cases hx:127<x
  ·rw [hiB_step j x hx h']
   rw [Nat.pow_succ] at h
   have hx':x / 128<128 ^ (j+1):=Nat.div_lt_of_lt_mul (by rw [Nat.mul_comm];exact h)
   intro c hc
   rcases List.mem_cons.1 hc with rfl | hc
   ·omega
   ·exact ih (x / 128) hx' (by omega) c hc
  ·rw [hiB_stop _ x hx];intro c hc;simp at hc;omega
theorem numB_ok {x:Int} (h0:0≤x) (h1:x≤1000000000):okB (numB x):=by
 obtain ⟨n,rfl⟩:=Int.eq_ofNat_of_zero_le h0
 rw [numB_hi];exact hiB_ok 4 n (by simp;omega) (by omega)
theorem opsB_len {l:Lq1} (h:sOpsOk l=true):(opsB l).length≤400:=by
 obtain ⟨a1,a2⟩:=opsOk_small h
 have h5:=flat_len (M:=47) l (fun o ho'=>by have:=a2 o ho';have:=opB_len o;omega)
 have h6:=numB_len (l.length:Int)
 simp only [opsB,List.length_append];omega
theorem textB_ok {s:ByteArray} (h:s.size≤1000000000):okB (textB s):=(numB_ok (by omega) (by omega)).app (strInts_ok s)
theorem opB_ok {o:Int×ByteArray×ByteArray} (h:fitO o):okB (opB o):=by
 obtain ⟨h0,h1,h2,h3⟩:=h
 simp only [opB,clampN_of h0 h1]
 exact (numB_ok h0 h1).app ((textB_ok h2).app (textB_ok h3))
theorem flat_ok:∀ l:Lq1,(∀ o∈l,fitO o)→okB (l.map opB).flatten:=by
 intro l
 induction l with
 | nil=>intro _ c hc;simp at hc
 | cons o l ih=>intro h;simp only [List.map_cons,List.flatten_cons];exact (opB_ok (h o (by simp))).app (ih fun x hx=>h x (by simp [hx]))
theorem opsOk_fit {l:Lq1} (h:sOpsOk l=true):∀ o∈l,fitO o:=by
 intro o ho
 obtain ⟨_,a2⟩:=opsOk_small h
 have a3:=a2 o ho
 simp only [sOpsOk] at h
 cases h5:allF (sOpAt l) (l.length - (0:Int).toNat) (0:Int).toNat with
 | false=>rw [h5] at h;simp at h
 | true =>
  obtain ⟨i,hi,rfl⟩:=List.getElem_of_mem ho
  have h6:=(allF_true _ _).1 h5 i (Nat.zero_le _) (by simpa using hi)
  simp only [sOpAt,Bool.and_eq_true,List.getD_eq_getElem?_getD,List.getElem?_eq_getElem hi,Option.getD_some] at h6
  have h7:=h6.1
  simp only [sl7Op,sl1In] at h7
  cases h8:decide ((l[i]).1 ≥ 1) with
  | false=>simp [h8] at h7
  | true =>
   cases h9:decide ((l[i]).1≤3) with
   | false=>simp [h8,h9] at h7
   | true =>
    have:=of_decide_eq_true h8
    have:=of_decide_eq_true h9
    exact ⟨by omega,by omega,by omega,by omega⟩
theorem opsB_ok {l:Lq1} (h:sOpsOk l=true):okB (opsB l):=by
 obtain ⟨a1,_⟩:=opsOk_small h
 exact (numB_ok (by omega) (by omega)).app (flat_ok l (opsOk_fit h))
theorem recBody_ok {k t:Int} {l:Lq1} (h:sRecOk k t l=true):okB (recBody k t l)∧(recBody k t l).length≤410∧2≤(recBody k t l).length:=by
 obtain ⟨a1,a2,a3,a4,a7,a8,a9⟩:=recOk_is h
 have l1:=numB_len k;have l2:=numB_len t
 have m1:1≤(numB k).length:=by simp [numB]
 have m2:1≤(numB t).length:=by simp [numB]
 cases hk:(k==1) with
 | true =>
  have ho:=a7 (eq_of_beq hk)
  have l5:=opsB_len ho
  refine ⟨?_,by simp only [recBody,hk,cond_true,List.length_append];omega,by simp only [recBody,hk,cond_true,List.length_append];omega⟩
  simp only [recBody,hk,cond_true]
  exact (numB_ok (by omega) (by omega)).app ((numB_ok (by omega) (by omega)).app (opsB_ok ho))
 | false =>
  refine ⟨?_,by simp only [recBody,hk,cond_false,List.length_append,List.length_nil];omega,by simp only [recBody,hk,cond_false,List.length_append,List.length_nil];omega⟩
  simp only [recBody,hk,cond_false]
  exact (numB_ok (by omega) (by omega)).app ((numB_ok (by omega) (by omega)).app (fun c hc=>by simp at hc))
theorem dec_t {p:Prop} {i:Decidable p} (h:p):@decide p i=true:=@decide_eq_true p i h
theorem iputRec_eq {k t:Int} {l:Lq1} (h:sRecOk k t l=true):q_iputRec k t l=true∧iputRec k t l=recB k t l:=by
 obtain ⟨a1,a2,a3,a4,a7,a8,ho⟩:=recOk_is h
 obtain ⟨b1,b2,b3⟩:=recBody_ok h
 obtain ⟨d2,d4,d5,d6⟩:=idig_ok (recBody k t l) (by omega)
 have e0:iputNum t (iputNum_nil k)=numB k++numB t:=by
  rw [iputNum_eq,iputNum_nil_eq,clampN_of (by omega) (by omega),clampN_of (by omega) (by omega)]
 have e1:∀ n:Nat,n≤410→iputNum_nil (n:Int)=numB (n:Int):=fun n hn=>by rw [iputNum_nil_eq,clampN_of (by omega) (by omega)]
 have sz:((iDigest (recBody k t l)).extract 0 4).size=4:=by rw [ByteArray.size_extract,d4];rfl
 have lb:=numB_len ((recBody k t l).length:Int)
 have l0:=iputNum_nil_len k
 have lk:=numB_len k
 have lt:=numB_len t
 cases hk:(k==1) with
 | true =>
  have hs:=a7 (eq_of_beq hk)
  have hl:=sOpsOk_len hs
  have hd:decide (((l.length:Nat):Int) > 0)=true:=decide_eq_true (by omega)
  have oe:iputOps l (numB k++numB t)=recBody k t l:=by
   obtain ⟨c1,_⟩:=opsOk_small hs
   rw [iputOps_eq l _ ho,clampN_of (by omega) (by omega)]
   simp only [recBody,hk,cond_true,List.append_assoc,opsB]
  refine ⟨?_,?_⟩
  ·simp only [q_iputRec,q_iputNum,q_iputOps,hd,ho,e0,oe,e1 _ b2,d2,d4,cond_true,Bool.true_and,Int.toNat_zero,List.length_append]
   rw [show ((4:Int).toNat)=4 from rfl,sz]
   simp only [Bool.and_eq_true,Bool.and_true,MAXB,d4]
   repeat' first | exact dec_t (by omega) | exact trivial | refine And.intro ?_ ?_
  ·simp only [iputRec,hd,e0,oe,e1 _ b2,cond_true]
   simp only [recB,digB4,List.append_assoc];rfl
 | false =>
  have hn:=a8 (by rw [beq_eq_false_iff_ne] at hk;exact hk)
  have hd:decide (((l.length:Nat):Int) > 0)=false:=decide_eq_false (by rw [hn];simp)
  have be:numB k++numB t=recBody k t l:=by simp only [recBody,hk,cond_false,List.append_nil]
  refine ⟨?_,?_⟩
  ·simp only [q_iputRec,q_iputNum,hd,e0,be,e1 _ b2,d2,d4,cond_false,Bool.true_and,Int.toNat_zero,List.length_append]
   rw [show ((4:Int).toNat)=4 from rfl,sz]
   simp only [Bool.and_eq_true,MAXB,d4]
   repeat' first | exact dec_t (by omega) | exact trivial | refine And.intro ?_ ?_
  ·simp only [iputRec,hd,e0,be,e1 _ b2,cond_false]
   simp only [recB,digB4,List.append_assoc];rfl
theorem bytesEqual_ok {a b:List Int} (ha:okB a) (hb:okB b):bytes_Equal a b=true↔a=b:=by
 have e:bytes_Equal a b=((strB a).toList==(strB b).toList):=rfl
 rw [e,beq_iff_eq]
 constructor
 ·intro h
  have h2:strB a=strB b:=by
   have h3:=congrArg (fun l=>(⟨l.toArray⟩:ByteArray)) h
   have k:∀ s:ByteArray,(⟨s.toList.toArray⟩:ByteArray)=s:=fun s=>by rw [ByteArray.toList_eq]
   simpa only [k] using h3
  rw [← strInts_strB ha,← strInts_strB hb,h2]
 ·rintro rfl;rfl
theorem recB_ok {k t:Int} {l:Lq1} (h:sRecOk k t l=true):okB (recB k t l)∧(recB k t l).length≤419∧5≤(recB k t l).length:=by
 obtain ⟨a1,a2,a3⟩:=recBody_ok h
 obtain ⟨_,_,b1,b2⟩:=idig_ok (recBody k t l) (by omega)
 have l1:=numB_len ((recBody k t l).length:Int)
 refine ⟨(numB_ok (by omega) (by omega)).app (a1.app b2),?_,?_⟩<;>simp only [recB,List.length_append]<;>omega
theorem keyAt_same (s:ByteArray) (i:Nat):sKeyAt s i=iKeyAt s i:=by
 have hb:0≤bt s (i:Int)∧bt s (i:Int)<256:=by
  unfold bt
  split
  ·have:=UInt8.toNat_lt s[(i:Int).toNat];omega
  ·simp
 have e:=wrap64 (n:=bt s (i:Int)) (by omega) (by omega)
 simp only [sKeyAt,iKeyAt,sl1In,iisKeyByte,e]
 generalize bt s (i:Int)=c
 by_cases h1:c ≥ 97<;>by_cases h2:c≤122<;>by_cases h3:c ≥ 48<;>by_cases h4:c≤57<;>simp [h1,h2,h3,h4]
theorem keyOk_same (s:ByteArray):sKeyOk s=iKeyOk s:=by
 have e:allF (sKeyAt s) (s.size - (0:Int).toNat) (0:Int).toNat=allF (iKeyAt s) (s.size - (0:Int).toNat) (0:Int).toNat:=allF_congr _ _ (fun j _ _=>keyAt_same s j)
 simp only [sKeyOk,iKeyOk,iisWord,iinRange,sl1In,e]
 cases allF (iKeyAt s) (s.size - (0:Int).toNat) (0:Int).toNat<;>cases decide (((s.size:Nat):Int) ≥ 1)<;>cases decide (((s.size:Nat):Int)≤12)<;>rfl
theorem opOk_same (k:Int) (s v:ByteArray):sl7Op k s v=iopOk k s v:=by
 simp only [sl7Op,iopOk,keyOk_same,ba_beq,sl1In]
 cases iKeyOk s with
 | false =>
  by_cases h1:k=1<;>by_cases h2:k=2<;>by_cases h3:k=3<;>by_cases h4:v=⟨#[]⟩<;>by_cases h5:k ≥ 1<;>by_cases h6:k≤3<;>simp [h1,h2,h3,h4,h5,h6]<;>omega
 | true =>
  by_cases h2:k=2
  ·subst h2
   by_cases h4:v=⟨#[]⟩
   ·subst h4;simp [ByteArray.size]
   ·simp [h4]
  ·by_cases h1:k=1
   ·subst h1;simp
   ·by_cases h3:k=3
    ·subst h3;simp
    ·by_cases h5:k ≥ 1<;>by_cases h6:k≤3<;>simp [h1,h2,h3,h5,h6]<;>omega
theorem opAt_same (l:Lq1) (i:Nat):sOpAt l i=iOpAt l i:=by
 simp only [sOpAt,iOpAt,opOk_same]
 rw [← bytesLess_ge,Bool.not_not]
theorem opsOk_same (l:Lq1):sOpsOk l=iOpsOk l:=by
 have e:allF (sOpAt l) (l.length - (0:Int).toNat) (0:Int).toNat=allF (iOpAt l) (l.length - (0:Int).toNat) (0:Int).toNat:=allF_congr _ _ (fun j _ _=>opAt_same l j)
 simp only [sOpsOk,iOpsOk,e]
 rfl
theorem recOk_same (k t:Int) (l:Lq1):sRecOk k t l=iRecOk k t l:=by
 simp only [sRecOk,iRecOk,iisTx,opsOk_same]
 rw [show iinRange t 1 1000000=sl1In t 1 1000000 from rfl]
 cases sl1In t 1 1000000<;>simp
theorem iGetRec_of {b:List Int} (hb:okB b) (hl:b.length≤1048576) (a:Int):q_iGetRec b a=true∧((∃ k t l pre post,iGetRec b a=(k,t,((pre.length+(recB k t l).length:Nat):Int),true,l)∧sRecOk k t l=true∧b=pre++(recB k t l++post)∧a=(pre.length:Int))∨iGetRec b a=(0,0,a,false,[])):=by
 obtain ⟨g1,g2⟩:=iGetNum_spec hb (by omega) a
 simp only [iGetRec,q_iGetRec,g1,g2,k1_iGetRec,k2_iGetRec,k3_iGetRec,k4_iGetRec,k5_iGetRec,k6_iGetRec,k7_iGetRec,k8_iGetRec,Bool.true_and]
 cases h1:(gN b a).2.2 with
 | false=>exact ⟨rfl,.inr rfl⟩
 | true =>
 obtain ⟨r1,r2,r3,r4,r5⟩:=gN_range hb h1
 generalize eg:gN b a=g at *
 obtain ⟨n,p,o⟩:=g
 simp only at h1 r1 r2 r3 r4 r5 ⊢
 subst h1
 obtain ⟨w1,w2,w3,w4⟩:=wraps4 (len:=((b.length:Nat):Int)) (p:=p) (n:=n) ⟨by omega,by omega⟩ ⟨by omega,by omega⟩ ⟨by omega,by omega⟩
 simp only [w1,w2,w3,w4,Bool.not_true,cond_false]
 by_cases hn:n > ((b.length:Nat):Int) - p - 4
 ·simp only [decide_eq_true hn,cond_true];exact ⟨trivial,.inr trivial⟩
 simp only [decide_eq_false hn,cond_false]
 obtain ⟨pre,body,s4,rest,e,ea,ep,el,e4,n1,n0,hB,h4⟩:=getHead hb hl eg hn
 have hlen:=congrArg List.length e
 simp only [List.length_append] at hlen
 have c1:(b.take (p+n).toNat).drop p.toNat=body:=cutL (x:=pre++numB n) (z:=s4++rest) (by rw [e];simp only [List.append_assoc]) (by rw [List.length_append];omega) (by rw [List.length_append];omega)
 have c3:(b.take (p+n+4).toNat).drop a.toNat=numB n++(body++s4):=cutL (x:=pre) (z:=rest) (by rw [e];simp only [List.append_assoc]) ea (by simp only [List.length_append];omega)
 have hlB:body.length≤1048576:=by omega
 have gn:=fun a bad=>igetter_num_spec hB hlB a bad
 have nb:∀ a bad,(igetter_num body a bad).2.1=body:=fun a bad=>by rw [(gn a bad).2];cases bad<;>cases (gN body a).2.2<;>rfl
 have gq:∀ a bad,q_igetter_num body a bad=true:=fun a bad=>(gn a bad).1
 have go:=fun a bad=>igetter_ops_spec hB hlB a bad
 have m1:decide (0≤p∧p≤p+n∧p+n≤((b.length:Nat):Int))=true:=decide_eq_true (by omega)
 have m2:decide (0≤a∧a≤p+n+4∧p+n+4≤((b.length:Nat):Int))=true:=decide_eq_true (by omega)
 have h3B:okB (numB n++(body++s4)):=(numB_ok n0 n1).app (hB.app h4)
 have fin:∀ k t l,sRecOk k t l=true→bytes_Equal (iputRec k t l) (numB n++(body++s4))=true→∃ k' t' l' pre' post', (k,t,p+n+4,true,l)=(k', t', ((pre'.length+(recB k' t' l').length:Nat):Int),true,l')∧sRecOk k' t' l'=true∧b=pre'++(recB k' t' l'++post')∧a=(pre'.length:Int):=by
  intro k t l hw he
  obtain ⟨_,i2⟩:=iputRec_eq hw
  rw [i2] at he
  have he:=(bytesEqual_ok (recB_ok hw).1 h3B).1 he
  have hE:p+n+4=((pre.length+(recB k t l).length:Nat):Int):=by rw [he];simp only [List.length_append,e4];omega
  refine ⟨k,t,l,pre,rest,by rw [hE],hw,?_,ea⟩
  rw [he,e];simp only [List.append_assoc]
 simp only [c1,c3,m1,m2,nb,gq,Bool.true_and]
 generalize igetter_num body 0 false=x1
 generalize igetter_num body x1.2.2.1 x1.2.2.2=x2
 cases hk:(x1.1==1) with
 | true =>
  obtain ⟨o1,o2,o3,o4⟩:=go x2.2.2.1 x2.2.2.2
  simp only [cond_true,o1,Bool.true_and]
  cases hbad:(igetter_ops body x2.2.2.1 x2.2.2.2).2.2.1 with
  | true=>exact ⟨rfl,.inr rfl⟩
  | false =>
   simp only [cond_false,q_iRecOk,o3,Bool.true_and]
   cases hw:iRecOk x1.1 x2.1 (igetter_ops body x2.2.2.1 x2.2.2.2).2.2.2 with
   | false=>exact ⟨rfl,.inr rfl⟩
   | true =>
    rw [← recOk_same] at hw
    simp only [Bool.not_true,cond_false,(iputRec_eq hw).1,Bool.and_self]
    cases he:bytes_Equal (iputRec x1.1 x2.1 (igetter_ops body x2.2.2.1 x2.2.2.2).2.2.2) (numB n++(body++s4)) with
    | false=>exact ⟨trivial,.inr rfl⟩
    | true=>exact ⟨trivial,.inl (fin _ _ _ hw he)⟩
 | false =>
  simp only [cond_false]
  cases hbad:x2.2.2.2 with
  | true=>exact ⟨rfl,.inr rfl⟩
  | false =>
   have o3:okOps []=true:=rfl
   simp only [cond_false,q_iRecOk,o3,Bool.true_and]
   cases hw:iRecOk x1.1 x2.1 [] with
   | false=>exact ⟨rfl,.inr rfl⟩
   | true =>
    rw [← recOk_same] at hw
    simp only [Bool.not_true,cond_false,(iputRec_eq hw).1,Bool.and_self]
    cases he:bytes_Equal (iputRec x1.1 x2.1 []) (numB n++(body++s4)) with
    | false=>exact ⟨trivial,.inr rfl⟩
    | true=>exact ⟨trivial,.inl (fin _ _ _ hw he)⟩
theorem pN_hiB:∀ (j k n x:Nat) (post:List Int),x<128 ^ (j+1)→(0<k→0<x)→n+x*2 ^ (7*k)≤1000000000→pN (j+1) k n (hiB j x++post)=some (n+x*2 ^ (7*k),k+(hiB j x).length):=by
 intro j
 induction j with
 | zero =>
  intro k n x post h1 h2 h3
  have hx:¬ 127<x:=by simp at h1;omega
  rw [hiB_stop 0 x hx]
  simp only [List.cons_append,List.nil_append,pN,List.length_singleton,Int.toNat_natCast]
  rw [if_neg (by omega),if_neg (by omega)]
 | succ j ih =>
  intro k n x post h1 h2 h3
  by_cases hx:127<x
  ·have hb : x < 9223372036854775808 := by
    have:x*1≤x*2 ^ (7*k):=Nat.mul_le_mul_left _ (Nat.pow_pos (by decide))
    omega
   rw [hiB_step j x hx hb]
   have hx':x / 128<128 ^ (j+1):=Nat.div_lt_of_lt_mul (by rw [Nat.pow_succ] at h1;rw [Nat.mul_comm];exact h1)
   have e:n+x % 128*2 ^ (7*k)+x / 128*2 ^ (7*(k+1))=n+x*2 ^ (7*k):=by
    rw [show 7*(k+1)=7*k+7 by omega,Nat.pow_add]
    have:=Nat.div_add_mod x 128
    have h4:x*2 ^ (7*k)=(128*(x / 128)+x % 128)*2 ^ (7*k):=by rw [this]
    rw [h4,Nat.add_mul,show (2:Nat) ^ 7=128 from rfl,Nat.mul_comm 128 (x / 128),Nat.mul_assoc,Nat.mul_comm 128 (2 ^ (7*k)),← Nat.mul_assoc]
    omega
   have:=ih (k+1) (n+x % 128*2 ^ (7*k)) (x / 128) post hx' (fun _=>by omega) (by rw [e];exact h3)
   simp only [List.cons_append,pN]
   rw [if_pos (by omega)]
   have e2:(((128+x % 128:Nat):Int).toNat % 128)=x % 128:=by omega
   rw [e2,this,e]
   simp only [List.length_cons]
   congr 2;omega
  ·rw [hiB_stop _ x hx]
   simp only [List.cons_append,List.nil_append,pN,List.length_singleton,Int.toNat_natCast]
   rw [if_neg (by omega),if_neg (by omega)]
theorem pN_num {n:Int} (h0:0≤n) (h1:n≤1000000000) (post:List Int):pN 5 0 0 (numB n++post)=some (n.toNat,(numB n).length):=by
 obtain ⟨x,rfl⟩:=Int.eq_ofNat_of_zero_le h0
 rw [numB_hi,pN_hiB 4 0 0 x post (by simp;omega) (by omega) (by simp;omega)]
 simp
theorem gN_num {n:Int} (h0:0≤n) (h1:n≤1000000000) (pre post:List Int):gN (pre++(numB n++post)) (pre.length:Int)=(n,(pre.length:Int)+(numB n).length,true):=by
 have hl:1≤(numB n).length:=by simp [numB]
 simp only [gN]
 rw [if_pos (by simp only [List.length_append];omega),Int.toNat_natCast,List.drop_left,pN_num h0 h1]
 show ((n.toNat:Int),_,_)=_
 rw [Int.toNat_of_nonneg h0]
/-- The frame of a record that is right. -/
theorem recHead {k t:Int} {l:Lq1} (h:sRecOk k t l=true) {b pre post:List Int} (e:b=pre++(recB k t l++post)) :
  gN b (pre.length:Int)=(((recBody k t l).length:Int),(pre.length:Int)+((numB ((recBody k t l).length:Int)).length:Int),true) ∧
  gN (recBody k t l) 0=(k,((numB k).length:Int),true)∧gN (recBody k t l) ((numB k).length:Int)=(t,((numB k++numB t).length:Int),true) ∧
  b.length=pre.length+(numB ((recBody k t l).length:Int)).length+(recBody k t l).length+4+post.length:=by
 obtain ⟨a1,a2,a3,a4,a7,a8,ho⟩:=recOk_is h
 obtain ⟨b1,b2,b3⟩:=recBody_ok h
 obtain ⟨_,_,d5,d6⟩:=idig_ok (recBody k t l) (by omega)
 have h1:=gN_num (n:=((recBody k t l).length:Int)) (by omega) (by omega) pre ((recBody k t l++digB4 (recBody k t l))++post)
 have h2:=gN_num (n:=k) (by omega) (by omega) [] (numB t++cond (k==1) (opsB l) [])
 have h3:=gN_num (n:=t) (by omega) (by omega) (numB k) (cond (k==1) (opsB l) [])
 have e':b=pre++(numB ((recBody k t l).length:Int)++((recBody k t l++digB4 (recBody k t l))++post)):=by rw [e,recB,List.append_assoc]
 rw [← e'] at h1
 refine ⟨h1,?_,?_,?_⟩
 ·simpa [recBody] using h2
 ·rw [List.length_append,Int.natCast_add];exact h3
 ·rw [e'];simp only [List.length_append,d5];omega
theorem recCuts {k t:Int} {l:Lq1} (h:sRecOk k t l=true) {b pre post:List Int} (e:b=pre++(recB k t l++post)) (hl:b.length≤1048576) :
  (b.take ((pre.length:Int)+((numB ((recBody k t l).length:Int)).length:Int)+((recBody k t l).length:Int)).toNat).drop ((pre.length:Int)+((numB ((recBody k t l).length:Int)).length:Int)).toNat=recBody k t l ∧
  (b.take ((pre.length:Int)+((numB ((recBody k t l).length:Int)).length:Int)+((recBody k t l).length:Int)+4).toNat).drop ((pre.length:Int)+((numB ((recBody k t l).length:Int)).length:Int)+((recBody k t l).length:Int)).toNat=digB4 (recBody k t l) ∧
  (b.take ((pre.length:Int)+((numB ((recBody k t l).length:Int)).length:Int)+((recBody k t l).length:Int)+4).toNat).drop (pre.length:Int).toNat=recB k t l:=by
 obtain ⟨b1,b2,b3⟩:=recBody_ok h
 obtain ⟨_,_,d5,d6⟩:=idig_ok (recBody k t l) (by omega)
 refine ⟨cutL (x:=pre++numB ((recBody k t l).length:Int)) (z:=digB4 (recBody k t l)++post) ?_ ?_ ?_,cutL (x:=pre++(numB ((recBody k t l).length:Int)++recBody k t l)) (z:=post) ?_ ?_ ?_,cutL (x:=pre) (z:=post) e rfl ?_⟩
 ·rw [e,recB];simp only [List.append_assoc]
 ·rw [List.length_append,Int.natCast_add]
 ·rw [List.length_append,Int.natCast_add]
 ·rw [e,recB];simp only [List.append_assoc]
 ·simp only [List.length_append,Int.natCast_add];omega
 ·simp only [List.length_append,Int.natCast_add,d5];omega
 ·simp only [recB,List.length_append,Int.natCast_add,d5];omega
theorem gT_text {s:ByteArray} (h:s.size≤1000000000) (pre post:List Int):gT (pre++(textB s++post)) (pre.length:Int)=(s,(pre.length:Int)+(textB s).length,true):=by
 have h1:=gN_num (n:=(s.size:Int)) (by omega) (by omega) pre (strInts s++post)
 have e:pre++(textB s++post)=pre++(numB (s.size:Int)++(strInts s++post)):=by simp only [textB,List.append_assoc]
 rw [e]
 simp only [gT,h1]
 have hs:=strInts_len s
 rw [if_pos ⟨trivial,by simp only [List.length_append];omega⟩]
 have e2:((pre.length:Int)+((numB (s.size:Int)).length:Int)).toNat=pre.length+(numB (s.size:Int)).length:=by omega
 rw [e2,Int.toNat_natCast,← List.append_assoc,← List.length_append,List.drop_left,List.take_left' hs,strB_ints]
 congr 2
 simp only [textB,List.length_append];omega
theorem gO_op {o:Int×ByteArray×ByteArray} (h:fitO o) (pre post:List Int):gO (pre++(opB o++post)) (pre.length:Int)=(o,(pre.length:Int)+(opB o).length,true):=by
 obtain ⟨h0,h1,h2,h3⟩:=h
 have e:opB o=numB o.1++(textB o.2.1++textB o.2.2):=by simp only [opB,clampN_of h0 h1]
 have q1:=gN_num h0 h1 pre (textB o.2.1++(textB o.2.2++post))
 have q2:=gT_text h2 (pre++numB o.1) (textB o.2.2++post)
 have q3:=gT_text h3 (pre++numB o.1++textB o.2.1) post
 have e1:pre++(opB o++post)=pre++(numB o.1++(textB o.2.1++(textB o.2.2++post))):=by simp only [e,List.append_assoc]
 have e2:pre++(opB o++post)=pre++numB o.1++(textB o.2.1++(textB o.2.2++post)):=by simp only [e,List.append_assoc]
 have e3:pre++(opB o++post)=pre++numB o.1++textB o.2.1++(textB o.2.2++post):=by simp only [e,List.append_assoc]
 rw [← e1] at q1;rw [← e2] at q2;rw [← e3] at q3
 have l1:((pre++numB o.1).length:Int)=(pre.length:Int)+(numB o.1).length:=by simp
 have l2:((pre++numB o.1++textB o.2.1).length:Int)=((pre++numB o.1).length:Int)+(textB o.2.1).length:=by simp;omega
 rw [l1] at q2;rw [l2,l1] at q3
 simp only [gO,q1,q2,q3,Bool.and_true]
 congr 2
 simp only [e,List.length_append];omega
theorem pO_ops:∀ (l:Lq1) (pre post:List Int) (acc:Lq1),(∀ o∈l,fitO o)→pO l.length (pre++((l.map opB).flatten++post)) (pre.length:Int) acc=some (acc++l,(pre.length:Int)+(l.map opB).flatten.length):=by
 intro l
 induction l with
 | nil=>intro pre post acc _;simp [pO]
 | cons o l ih =>
  intro pre post acc h
  have h1:=gO_op (h o (by simp)) pre ((l.map opB).flatten++post)
  have h2:=ih (pre++opB o) post (acc++[o]) (fun x hx=>h x (by simp [hx]))
  have e:pre++(((o::l).map opB).flatten++post)=pre++(opB o++((l.map opB).flatten++post)):=by simp
  have e2:pre++opB o++((l.map opB).flatten++post)=pre++(opB o++((l.map opB).flatten++post)):=by simp
  rw [e2,List.length_append,Int.natCast_add] at h2
  rw [e]
  simp only [List.length_cons,pO,h1,cond_true,h2]
  simp only [List.append_assoc,List.singleton_append,List.map_cons,List.flatten_cons,List.length_append,Int.natCast_add]
  congr 2;omega
theorem pO_put {l:Lq1} (h:sOpsOk l=true) (pre post:List Int):gN (pre++(opsB l++post)) (pre.length:Int)=((l.length:Int),((pre++numB (l.length:Int)).length:Int),true)∧pO l.length (pre++(opsB l++post)) ((pre++numB (l.length:Int)).length:Int) []=some (l,(((pre++opsB l).length:Nat):Int)):=by
 obtain ⟨a1,_⟩:=opsOk_small h
 have e:pre++(opsB l++post)=pre++(numB (l.length:Int)++((l.map opB).flatten++post)):=by simp only [opsB,List.append_assoc]
 have h1:=gN_num (n:=(l.length:Int)) (by omega) (by omega) pre ((l.map opB).flatten++post)
 have h2:=pO_ops l (pre++numB (l.length:Int)) post [] (opsOk_fit h)
 rw [List.append_assoc] at h2
 rw [e]
 refine ⟨?_,?_⟩
 ·rw [h1,List.length_append,Int.natCast_add]
 ·rw [h2];simp only [List.nil_append,opsB,List.length_append,Int.natCast_add];congr 2;omega
theorem iGetRec_put {k t:Int} {l:Lq1} (h:sRecOk k t l=true) {b pre post:List Int} (e:b=pre++(recB k t l++post)) (hb:okB b) (hl:b.length≤1048576):iGetRec b (pre.length:Int)=(k,t,((pre.length+(recB k t l).length:Nat):Int),true,l):=by
 obtain ⟨a1,a2,a3,a4,a7,a8,ho⟩:=recOk_is h
 obtain ⟨b1,b2,b3⟩:=recBody_ok h
 obtain ⟨_,d4,d5,d6⟩:=idig_ok (recBody k t l) (by omega)
 obtain ⟨n1,n2,n3,hlen⟩:=recHead h e
 obtain ⟨c1,c2,c3⟩:=recCuts h e hl
 have g1:=(iGetNum_spec hb (by omega) (pre.length:Int)).1
 have ln:=numB_len ((recBody k t l).length:Int)
 obtain ⟨w1,w2,w3,w4⟩:=wraps4 (len:=((b.length:Nat):Int)) (p:=(pre.length:Int)+((numB ((recBody k t l).length:Int)).length:Int)) (n:=((recBody k t l).length:Int)) ⟨by omega,by omega⟩ ⟨by omega,by omega⟩ ⟨by omega,by omega⟩
 have hd:decide (((recBody k t l).length:Int) > ((b.length:Nat):Int) - ((pre.length:Int)+((numB ((recBody k t l).length:Int)).length:Int)) - 4)=false:=decide_eq_false (by omega)
 have hend:(pre.length:Int)+((numB ((recBody k t l).length:Int)).length:Int)+((recBody k t l).length:Int)+4=((pre.length+(recB k t l).length:Nat):Int):=by simp only [recB,List.length_append,d5,Int.natCast_add];omega
 have gn:=fun a bad=>(igetter_num_spec b1 (by omega) a bad).2
 have hw:iRecOk k t l=true:=by rw [← recOk_same];exact h
 have he:bytes_Equal (iputRec k t l) (recB k t l)=true:=by rw [(iputRec_eq h).2];exact (bytesEqual_ok (recB_ok h).1 (recB_ok h).1).2 rfl
 simp only [iGetRec,k1_iGetRec,k2_iGetRec,k3_iGetRec,k4_iGetRec,k5_iGetRec,k6_iGetRec,k7_iGetRec,k8_iGetRec,g1,n1,w1,w2,w3,w4,hd,c1,c3,gn,n2,n3,Bool.not_true,cond_false,cond_true]
 cases hk:(k==1) with
 | true =>
  have hO:=a7 (eq_of_beq hk)
  have hlo:=(opsOk_small hO).1
  obtain ⟨_,_,_,o4⟩:=igetter_ops_spec b1 (by omega) ((numB k++numB t).length:Int) false
  have eb:recBody k t l=(numB k++numB t)++(opsB l++[]):=by simp only [recBody,hk,cond_true,List.append_assoc,List.append_nil]
  obtain ⟨p1,p2⟩:=pO_put hO (numB k++numB t) []
  rw [← eb] at p1 p2
  have e8:decide ((l.length:Int)≤8)=true:=decide_eq_true (by omega)
  simp only [cond_false,gOpsI,p1,cond_true,e8,Int.toNat_natCast,p2] at o4
  simp only [cond_true,o4,cond_false,hw,Bool.not_true,he,hend]
 | false =>
  have hl0:l=[]:=a8 (by simpa using hk)
  subst hl0
  simp only [cond_false,hw,Bool.not_true,he,hend]
theorem gOps_put {l:Lq1} (h:sOpsOk l=true):gOps (opsB l)=(l,true):=by
 obtain ⟨a1,_⟩:=opsOk_small h
 obtain ⟨h1,h2⟩:=pO_put h [] []
 simp only [List.nil_append,List.append_nil,List.length_nil] at h1 h2
 have h1':gN (opsB l) 0=((l.length:Int),((numB (l.length:Int)).length:Int),true):=h1
 simp only [gOps,h1']
 rw [if_pos ⟨trivial,by omega⟩,Int.toNat_natCast,h2]
 simp only
 rw [if_pos ⟨trivial,h⟩]
theorem sGetRec_put {k t:Int} {l:Lq1} (h:sRecOk k t l=true) {b pre post:List Int} (e:b=pre++(recB k t l++post)) (hb:okB b) (hl:b.length≤1048576):sGetRec b (pre.length:Int)=(k,t,l,((pre.length+(recB k t l).length:Nat):Int),true):=by
 obtain ⟨a1,a2,a3,a4,a7,a8,ho⟩:=recOk_is h
 obtain ⟨b1,b2,b3⟩:=recBody_ok h
 obtain ⟨_,d4,d5,d6⟩:=idig_ok (recBody k t l) (by omega)
 have dS:=(dig_ok b1 (by omega)).2
 obtain ⟨n1,n2,n3,hlen⟩:=recHead h e
 obtain ⟨c1,c2,c3⟩:=recCuts h e hl
 have g1:=(sGetNum_spec hb (by omega) (pre.length:Int)).1
 have gb:=fun a=>(sGetNum_spec b1 (by omega) a).1
 have ln:=numB_len ((recBody k t l).length:Int)
 obtain ⟨w1,w2,w3,w4⟩:=wraps4 (len:=((b.length:Nat):Int)) (p:=(pre.length:Int)+((numB ((recBody k t l).length:Int)).length:Int)) (n:=((recBody k t l).length:Int)) ⟨by omega,by omega⟩ ⟨by omega,by omega⟩ ⟨by omega,by omega⟩
 have hd:decide (((recBody k t l).length:Int) > ((b.length:Nat):Int) - ((pre.length:Int)+((numB ((recBody k t l).length:Int)).length:Int)) - 4)=false:=decide_eq_false (by omega)
 have hs:((strB (digB4 (recBody k t l))).toList==((sDigest (recBody k t l)).extract (0:Int).toNat (4:Int).toNat).toList)=true:=by rw [dS];exact (strEq_ok d6).2 rfl
 simp only [strB] at hs
 have hend:(pre.length:Int)+((numB ((recBody k t l).length:Int)).length:Int)+((recBody k t l).length:Int)+4=((pre.length+(recB k t l).length:Nat):Int):=by simp only [recB,List.length_append,d5,Int.natCast_add];omega
 simp only [sGetRec,k1_sGetRec,k2_sGetRec,k3_sGetRec,k4_sGetRec,g1,n1,w1,w2,w3,w4,hd,c1,c2,List.nil_append,gb,n2,n3,hs,Bool.not_true,cond_false]
 cases hk:(k==1) with
 | true =>
  have hO:=a7 (eq_of_beq hk)
  have eb:recBody k t l=(numB k++numB t)++opsB l:=by simp only [recBody,hk,cond_true,List.append_assoc]
  have hpos:1≤(opsB l).length:=by simp [opsB,numB];omega
  have lb:=congrArg List.length eb
  rw [List.length_append] at lb
  have e1:decide (((numB k++numB t).length:Int)<(((recBody k t l).length:Nat):Int))=true:=decide_eq_true (by omega)
  have e2:((recBody k t l).drop ((numB k++numB t).length:Int).toNat).take ((((recBody k t l).length:Nat):Int).toNat - ((numB k++numB t).length:Int).toNat)=opsB l:=by
   rw [Int.toNat_natCast,Int.toNat_natCast]
   rw [show (recBody k t l).drop (numB k++numB t).length=opsB l by rw [eb,List.drop_left]]
   exact List.take_of_length_le (by omega)
  have g2:=(sGetOps_spec (opsB_ok hO) (by have:=opsB_len hO;omega)).1
  rw [gOps_put hO] at g2
  simp only [e1,cond_true,e2,g2,Bool.not_true,cond_false,h,hend]
 | false =>
  have hl0:l=[]:=a8 (by simpa using hk)
  have eb:recBody k t l=numB k++numB t:=by simp only [recBody,hk,cond_false,List.append_nil]
  have e1:decide (((numB k++numB t).length:Int)<(((recBody k t l).length:Nat):Int))=false:=decide_eq_false (by rw [eb];omega)
  simp only [e1,cond_false,cond_true]
  subst hl0
  simp only [h,Bool.not_true,cond_false,hend]
theorem getRec_both {b:List Int} (hb:okB b) (hl:b.length≤1048576) (a:Int):q_sGetRec b a=true∧q_iGetRec b a=true∧((∃ k t l pre post,sGetRec b a=(k,t,l,((pre.length+(recB k t l).length:Nat):Int),true)∧iGetRec b a=(k,t,((pre.length+(recB k t l).length:Nat):Int),true,l)∧sRecOk k t l=true∧b=pre++(recB k t l++post)∧a=(pre.length:Int))∨sGetRec b a=(0,0,[],a,false)∧iGetRec b a=(0,0,a,false,[])):=by
 obtain ⟨s1,s2⟩:=sGetRec_of hb hl a
 obtain ⟨i1,i2⟩:=iGetRec_of hb hl a
 refine ⟨s1,i1,?_⟩
 rcases s2 with ⟨k,t,l,pre,post,e1,e2,e3,rfl⟩ | e1
 ·exact .inl ⟨k,t,l,pre,post,e1,iGetRec_put e2 e3 hb hl,e2,e3,rfl⟩
 ·rcases i2 with ⟨k,t,l,pre,post,f1,f2,f3,rfl⟩ | f1
  ·rw [sGetRec_put f2 f3 hb hl] at e1
   simp at e1
  ·exact .inr ⟨e1,f1⟩
theorem markN {α:Type} (el:Int→α) (c:Int) (hc:0≤c∧c≤100000) (d:α) (f:Nat→Int×List α→Int×List α)
  (hf:∀ i k (h:List α),i<h.length→0≤k→k≤100000*((i:Int)+100)→h.length≤1048576→f i (k,h)=(k+c,h.set i (el k))) :
  ∀ n i k (h:List α),i+n=h.length→0≤k→k≤100000*((i:Int)+100)→h.length≤1048576 →
   (foldN f n i (k,h)).1=k+c*(n:Int)∧(foldN f n i (k,h)).2.length=h.length∧(∀ j,i≤j→j<h.length→(foldN f n i (k,h)).2.getD j d=el (k+c*((j - i:Nat):Int)))∧∀ j,j<i→(foldN f n i (k,h)).2.getD j d=h.getD j d:=by
 intro n
 induction n with
 | zero=>intro i k h hi h0 h1 h2;exact ⟨by simp [foldN],rfl,fun j hj hl=>by omega,fun j _=>rfl⟩
 | succ n ih =>
  intro i k h hi h0 h1 h2
  simp only [foldN]
  rw [hf i k h (by omega) h0 h1 h2]
  obtain ⟨q1,q2,q3,q4⟩:=ih (i+1) (k+c) (h.set i (el k)) (by simp;omega) (by omega) (by omega) (by simpa using h2)
  refine ⟨?_,by rw [q2];simp,fun j hj hl=>?_,fun j hj=>?_⟩
  ·rw [q1,Int.natCast_add,Int.mul_add];simp;omega
  ·by_cases e:j=i
   ·subst e
    rw [q4 j (by omega)]
    have:j<h.length:=hl
    simp [List.getD_eq_getElem?_getD,this]
   ·rw [q3 j (by omega) (by simpa using hl)]
    congr 1
    have:((j - i:Nat):Int)=((j - (i+1):Nat):Int)+1:=by omega
    rw [this,Int.mul_add];omega
  ·rw [q4 j (by omega)]
   have:i ≠ j:=by omega
   simp [List.getD_eq_getElem?_getD,List.getElem?_set_ne this]
theorem heldN {α:Type} (el:Int→α) (c:Int) (hc:0≤c∧c≤100000) (d:α) (x:List α) (hx:x.length≤1048576) (g:Nat→Int→Int ⊕ Unit)
  (hg:∀ i k,i<x.length→0≤k→k≤100000*((i:Int)+100)→x.getD i d=el k→g i k=.inl (k+c)) :
  ∀ n i k,i+n=x.length→0≤k→k≤100000*((i:Int)+100)→(∀ j,i≤j→j<x.length→x.getD j d=el (k+c*((j - i:Nat):Int)))→loopN g n i k=.inl (k+c*(n:Int)):=by
 intro n
 induction n with
 | zero=>intro i k hi h0 h1 he;simp [loopN]
 | succ n ih =>
  intro i k hi h0 h1 he
  have h2:=he i (Nat.le_refl _) (by omega)
  rw [Nat.sub_self] at h2
  simp only [loopN]
  rw [hg i k (by omega) h0 h1 (by simpa using h2)]
  simp only
  rw [ih (i+1) (k+c) (by omega) (by omega) (by omega) (fun j hj hl=>by
   rw [he j (by omega) hl]
   congr 1
   have:((j - i:Nat):Int)=((j - (i+1):Nat):Int)+1:=by omega
   rw [this,Int.mul_add];omega)]
  rw [Int.natCast_add,Int.mul_add];congr 1;simp;omega
theorem heldmark {α:Type} (el:Int→α) (c:Int) (hc:0≤c∧c≤100000) (d:α) (f:Nat→Int×List α→Int×List α) (g:List α→Nat→Int→Int ⊕ Unit)
  (hf:∀ i k (h:List α),i<h.length→0≤k→k≤100000*((i:Int)+100)→h.length≤1048576→f i (k,h)=(k+c,h.set i (el k)))
  (hg:∀ (x:List α) i k,x.length≤1048576→i<x.length→0≤k→k≤100000*((i:Int)+100)→x.getD i d=el k→g x i k=.inl (k+c)) (h:List α) (hh:h.length≤1048576) (k:Int) (h0:0≤k) (h1:k≤10000000) :
  (foldN f h.length 0 (k,h)).1=k+c*(h.length:Int)∧(foldN f h.length 0 (k,h)).2.length=h.length∧loopN (g (foldN f h.length 0 (k,h)).2) (foldN f h.length 0 (k,h)).2.length 0 k=.inl (k+c*(h.length:Int)):=by
 obtain ⟨q1,q2,q3,_⟩:=markN el c hc d f hf h.length 0 k h (by omega) h0 (by omega) hh
 refine ⟨q1,q2,?_⟩
 have:=heldN el c hc d (foldN f h.length 0 (k,h)).2 (by rw [q2];exact hh) (g (foldN f h.length 0 (k,h)).2) (fun i k hi=>hg _ i k (by rw [q2];exact hh) hi) (foldN f h.length 0 (k,h)).2.length 0 k (by omega) h0 (by omega) (fun j hj hl=>q3 j hj (by rw [q2] at hl;exact hl))
 rw [this,q2]
theorem getD_set {α:Type} {l:List α} {i:Nat} (hi:i<l.length) (x d:α):(l.set i x).getD i d=x:=by
 simp [List.getD_eq_getElem?_getD,hi]
theorem opsS_held (l:Lq1) (h:l.length≤1048576):0≤(lmarkOpS 1 l).1∧(lmarkOpS 1 l).2.length=l.length∧lheldOpS (lmarkOpS 1 l).2 1=(lmarkOpS 1 l).1:=by
 obtain ⟨q1,q2,q3⟩:=heldmark (fun k=>(k,lmarkText (k+1),lmarkText (k+1+1))) 3 (by omega) dOp f_lmarkOpS_0 f_lheldOpS_0 (fun i k h hi h0 h1 h2=>by
  have w1:IntKind.wrap .i64 (k+(1:Int))=k+1:=wrap64 (by omega) (by omega)
  have w2:IntKind.wrap .i64 (k+1+(1:Int))=k+1+1:=wrap64 (by omega) (by omega)
  have w3:IntKind.wrap .i64 (k+1+1+(1:Int))=k+3:=by rw [wrap64 (by omega) (by omega)];omega
  simp only [f_lmarkOpS_0,w1,w2,w3,List.set_set,getD_set hi]) (fun x i k hx hi h0 h1 he=>by
  have w1:IntKind.wrap .i64 (k+(1:Int))=k+1:=wrap64 (by omega) (by omega)
  have w2:IntKind.wrap .i64 (k+1+(1:Int))=k+1+1:=wrap64 (by omega) (by omega)
  have w3:IntKind.wrap .i64 (k+1+1+(1:Int))=k+3:=by rw [wrap64 (by omega) (by omega)];omega
  simp only [dOp] at he
  have e:(k != k)=false:=by simp
  simp only [f_lheldOpS_0,he,e,cond_false,w1,w2,w3,beq_self_eq_true,Bool.not_true]) l h 1 (by omega) (by omega)
 have e1:lmarkOpS 1 l=foldN f_lmarkOpS_0 l.length 0 (1,l):=rfl
 rw [e1]
 refine ⟨by rw [q1];omega,q2,?_⟩
 have e2:∀ x,lheldOpS x 1=cond (isInl (loopN (f_lheldOpS_0 x) x.length 0 1)) (getInl (-1) (loopN (f_lheldOpS_0 x) x.length 0 1)) (-1:Int):=fun x=>rfl
 rw [e2,q3,q1];rfl
theorem byteS_mark (l:List Int) (h:l.length≤1048576):(lmarkByteS 1 l).1=1+(l.length:Int):=by
 have q:=(markN (fun k=>IntKind.wrap .u8 k) 1 (by omega) (0:Int) f_lmarkByteS_0 (fun i k h hi h0 h1 h2=>by
  have w1:IntKind.wrap .i64 (k+(1:Int))=k+1:=wrap64 (by omega) (by omega)
  simp only [f_lmarkByteS_0,w1]) l.length 0 1 l (by omega) (by omega) (by omega) h).1
 rw [Int.one_mul] at q
 have e1:lmarkByteS 1 l=foldN f_lmarkByteS_0 l.length 0 (1,l):=rfl
 rw [e1,q]
theorem eqOp_same (k:Int) (s v:ByteArray):leqOp k s v k s v=true:=by simp [leqOp]
theorem eqOpS_same (l:Lq1):leqOpS l l=true:=by
 have e:allF (f_leqOpS_0 l l) (l.length - (0:Int).toNat) (0:Int).toNat=true:=allF_same _ _ (fun j _ _=>by simp [f_leqOpS_0,eqOp_same])
 simp only [leqOpS,e,cond_true]
 simp
theorem eqByteS_same (l:List Int):leqByteS l l=true:=by
 have e:(((l.length:Nat):Int) != ((l.length:Nat):Int))=false:=by simp
 simp only [leqByteS,e,cond_false]
 rw [allF_same]
 ·rfl
 ·intro j _ _;simp [f_leqByteS_0]
theorem getRec_all {b:List Int} (a:Int) (h:bigT t_sy b=true):q_lFnExactGetRec b a=true∧lFnExactGetRec b a=true:=by
 have hb:=bigB_ok h
 simp only [lFnExactGetRec,q_lFnExactGetRec,k1_lFnExactGetRec,k2_lFnExactGetRec,k3_lFnExactGetRec,toByteS_same]
 cases hd:decide (((b.length:Nat):Int) > 1048576) with
 | true=>exact ⟨rfl,rfl⟩
 | false =>
  have hl:b.length≤1048576:=by have:=of_decide_eq_false hd;omega
  obtain ⟨q1,q2,k,t,l,p,ok,e1,e2,e3⟩:q_sGetRec b a=true∧q_iGetRec b a=true∧∃ k t l p ok,sGetRec b a=(k,t,l,p,ok)∧iGetRec b a=(k,t,p,ok,l)∧okOps l=true:=by
   obtain ⟨q1,q2,q3⟩:=getRec_both hb hl a
   refine ⟨q1,q2,?_⟩
   rcases q3 with ⟨k,t,l,pre,post,e1,e2,e3,_⟩ | ⟨e1,e2⟩
   ·exact ⟨k,t,l,_,true,e1,e2,(recOk_is e3).2.2.2.2.2.2⟩
   ·exact ⟨0,0,[],a,false,e1,e2,rfl⟩
  have hlo:=okL_le (okOps_okL e3)
  obtain ⟨m1,m2,m3⟩:=opsS_held l hlo
  have b1:=byteS_mark b hl
  have c1:decide ((1+(b.length:Int))<0)=false:=decide_eq_false (by omega)
  have c2:decide ((lmarkOpS 1 l).1<0)=false:=decide_eq_false (by omega)
  have c3:okL b=true:=decide_eq_true hl
  have c4:okL l=true:=okOps_okL e3
  have c5:okL (lmarkOpS 1 l).2=true:=decide_eq_true (by rw [m2];exact hlo)
  have c6:leqOpS l l=true:=eqOpS_same l
  have c7:∀ x:Int,(x != x)=false:=fun x=>by simp
  have c8:∀ x:Bool,(x==x)=true:=fun x=>by simp
  have c9:decide ((0:Int)≤1∧(1:Int)≤100000)=true:=by decide
  have c10:decide ((0:Int)≤1∧(1:Int)≤10000000)=true:=by decide
  simp only [e1,e2,q1,q2,q_ltoByteS,q_leqRec,q_leqByteS,q_lmarkByteS,q_lmarkRec,q_lmarkOpS,q_lheldRec,q_lheldOpS,leqRec,c1,c2,c3,c4,c5,c6,c7,c8,c9,c10,lmarkRec,lheldRec,eqByteS_same,b1,m3,cond_false,cond_true,Bool.not_true,Bool.and_true,Bool.and_self]
  exact ⟨trivial,trivial⟩
theorem pre_of_lFnExactGetRec (b:List Int) (a:Int) (h:bigT t_sy b=true) (_:bigT (.int .i64) a=true):pre_lFnExactGetRec (b,a,())=true:=(getRec_all a h).1
theorem exact_lFnExactGetRec (b:List Int) (a:Int) (h:bigT t_sy b=true) (_:bigT (.int .i64) a=true):lFnExactGetRec b a=true:=(getRec_all a h).2

end Go.Proofs.Ytccelbeahdcooaa.Eng
