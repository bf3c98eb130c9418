/- What the functions that FnExactPutRec reaches compute: further. -/
import Derived.Test.YtccelbeahdcooaaFExactPutRecB
namespace Go.Proofs.Ytccelbeahdcooaa.Eng
open Go Go.RowKit
set_option linter.unusedSimpArgs false
set_option linter.unusedVariables false
set_option maxRecDepth 10000
abbrev Y5:List PSh:=[.agg [(.int .i64),(.int .i64),tq2]]
noncomputable def V8 (a0 a1:Int) (a2:Lq1):=let z1:=B1K a0 a1 a2;B5a (B0o (z1.1) (z1.2.1) (z1.2.2)) (B0v (z1.1) (z1.2.1) (z1.2.2))
noncomputable def V9 (a0 a1:Int) (a2:Lq1):=let z1:=B1K a0 a1 a2;B9e (z1.1) (z1.2.1) (z1.2.2) (z1.1) (z1.2.1) (z1.2.2)
noncomputable def W2 (a0 a1:Int) (a2:Lq1):=let z1:=B1K a0 a1 a2;A0k (1:Int) (B0o (z1.1) (z1.2.1) (z1.2.2))
noncomputable def R1 (a0 a1:Int) (a2:Lq1):Bool:=let z2:=!(V8 a0 a1 a2);let z3:=W2 a0 a1 a2;let z1:=A8v (z3.2) (1:Int);let z4:=B1K a0 a1 a2;let z5:=decide (z1<(0:Int));(cond (decide ((B4u a0 a1 a2 (1048576:Int))<(0:Int))) true (cond z2 false (cond (!(V9 a0 a1 a2)) false (cond (decide (((B2K (z4.1) (z4.2.1) (1:Int) (z4.2.2)).1)<(0:Int))) false (cond z2 false (cond z5 false (cond (z1 != (z3.1)) false (cond z2 false (cond z5 false (cond (z1 != (z3.1)) false true))))))))))
noncomputable abbrev I6 (r:Bool):AV×List AObj:=((.t true .bool r),[])
noncomputable abbrev B1f:E7 Y5→AV×List AObj:=fun d=>I6 (R1 d.1.1 d.1.2.1 d.1.2.2.1)
noncomputable def O0 (a0 a1:Int) (a2:Lq1):Bool:=let z1:=B1K a0 a1 a2;let z3:=W2 a0 a1 a2;let z4:=!(V8 a0 a1 a2);let z5:=B1i a0 a1 a2;let z6:=A0w (z1.1) (z1.2.1) (z1.2.2);let z7:=B0o (z1.1) (z1.2.1) (z1.2.2);let z2:=A8y z7 (B0v (z1.1) (z1.2.1) (z1.2.2));let z8:=Z0 (z3.2) (1:Int);let z9:=A8v (z3.2) (1:Int);(B0d a0 a1 a2 (1048576:Int))&&(cond (decide ((B4u a0 a1 a2 (1048576:Int))<(0:Int))) true (z5&&((Z2 (z1.1) (z1.2.1) (z1.2.2))&&(z5&&(z6&&(z2&&(cond z4 true (z5&&((B1h (z1.1) (z1.2.1) (z1.2.2) (z1.1) (z1.2.1) (z1.2.2))&&(cond (!(V9 a0 a1 a2)) true ((A8A (z1.1) (z1.2.1) (1:Int) (z1.2.2))&&(cond (decide (((B2K (z1.1) (z1.2.1) (1:Int) (z1.2.2)).1)<(0:Int))) true (z2&&(cond z4 true ((Z1 (1:Int) z7)&&(z8&&(cond (decide (z9<(0:Int))) true (cond (z9 != (z3.1)) true (z5&&(z6&&(z2&&(cond z4 true z8))))))))))))))))))))))
noncomputable abbrev O8:E7 Y5→Bool:=fun d=>O0 d.1.1 d.1.2.1 d.1.2.2.1
theorem B4I:A7X true G52 aLn Try.f3 Y5 O8 B1f:=by
 rintro ⟨⟨a0,⟨a1,⟨a2,_⟩⟩⟩,_⟩ hp
 change O0 a0 a1 a2=true at hp
 unfold O0 at hp
 refine Eq.trans (b:=(let z1:=B1K a0 a1 a2;let z2:=W2 a0 a1 a2;let z4:=A8v (z2.2) (1:Int);let z5:=!(V8 a0 a1 a2);let z6:=B1i a0 a1 a2;let z7:=A0w (z1.1) (z1.2.1) (z1.2.2);let z8:=B0o (z1.1) (z1.2.1) (z1.2.2);let z3:=A8y z8 (B0v (z1.1) (z1.2.1) (z1.2.2));let z9:=Z0 (z2.2) (1:Int);let z10:=decide (z4<(0:Int));cond (B0d a0 a1 a2 (1048576:Int)) (cond (decide ((B4u a0 a1 a2 (1048576:Int))<(0:Int))) (some (I6 true)) (cond z6 (cond (Z2 (z1.1) (z1.2.1) (z1.2.2)) (cond z6 (cond z7 (cond z3 (cond z5 (some (I6 false)) (cond z6 (cond (B1h (z1.1) (z1.2.1) (z1.2.2) (z1.1) (z1.2.1) (z1.2.2)) (cond (!(V9 a0 a1 a2)) (some (I6 false)) (cond (A8A (z1.1) (z1.2.1) (1:Int) (z1.2.2)) (cond (decide (((B2K (z1.1) (z1.2.1) (1:Int) (z1.2.2)).1)<(0:Int))) (some (I6 false)) (cond z3 (cond z5 (some (I6 false)) (cond (Z1 (1:Int) z8) (cond z9 (cond z10 (some (I6 false)) (cond (z4 != (z2.1)) (some (I6 false)) (cond z6 (cond z7 (cond z3 (cond z5 (some (I6 false)) (cond z9 (cond z10 (some (I6 false)) (cond (z4 != (z2.1)) (some (I6 false)) (some (I6 true)))) none)) none) none) none))) none) none)) none)) none)) none) none)) none) none) none) none) none)) none)) (by kernel_rfl) ?_
 exact (A7Y hp fun hp=>(B6H I6 hp (fun hp=>rfl) (fun hp=>(A7Y hp fun hp=>(A7Y hp fun hp=>(A7Y hp fun hp=>(A7Y hp fun hp=>(A7Y hp fun hp=>(B6H I6 hp (fun hp=>rfl) (fun hp=>(A7Y hp fun hp=>(A7Y hp fun hp=>(B6H I6 hp (fun hp=>rfl) (fun hp=>(A7Y hp fun hp=>(B6H I6 hp (fun hp=>rfl) (fun hp=>(A7Y hp fun hp=>(B6H I6 hp (fun hp=>rfl) (fun hp=>(A7Y hp fun hp=>(A7Y hp fun hp=>(B6H I6 hp (fun hp=>rfl) (fun hp=>(B6H I6 hp (fun hp=>rfl) (fun hp=>(A7Y hp fun hp=>(A7Y hp fun hp=>(A7Y hp fun hp=>(B6H I6 hp (fun hp=>rfl) (fun hp=>(A70 hp fun _h=>(M2 I6 (fun _h=>rfl) (fun _h=>(M2 I6 (fun _h=>rfl) (fun _h=>rfl))))))))))))))))))))))))))))))))))))
theorem B5W:aPP 3 (A2n Y5 O8 B1f):=pcD true G52 hlz B4I
theorem C2o (k:Int) (s v:ByteArray) (b:Int) (h0:0≤b) (h1:b≤1048576) (hs:B92 s=true) (hv:B92 v=true) (h:0≤B8I k s v b):B8I k s v b≤b∧okS s=true∧okS v=true:=by
 simp only [B92,decide_eq_true_eq] at hs hv
 have e1:=A7v (n:=b - (s.size:Int)) (by omega) (by omega)
 simp only [B8I,e1] at h ⊢
 cases hd:decide (b - (s.size:Int)<0) with
 | true=>rw [hd] at h;simp at h
 | false =>
  rw [hd] at h
  have:=of_decide_eq_false hd
  have e2:=A7v (n:=b - (s.size:Int) - (v.size:Int)) (by omega) (by omega)
  simp only [cond_false,e2] at h ⊢
  cases hd2:decide (b - (s.size:Int) - (v.size:Int)<0) with
  | true=>rw [hd2] at h;simp at h
  | false =>
   have:=of_decide_eq_false hd2
   simp only [cond_false,okS,decide_eq_true_eq]
   omega
theorem C1w (l:Lq1) (b:Int) (h0:0≤b) (h1:b≤1048576) (hb:A9W l=true) (h:0≤B1J l b):B1J l b≤b∧L6 l=true:=by
 have hl:l.length≤9223372036854775807:=by simp only [A9W,Bool.and_eq_true,decide_eq_true_eq] at hb;exact hb.1
 have e1:=A7v (n:=b - (l.length:Int)) (by omega) (by omega)
 simp only [B1J,e1,Int.toNat_zero,Nat.sub_zero] at h ⊢
 cases hd:decide (b - (l.length:Int)<0) with
 | true=>rw [hd] at h;simp at h
 | false =>
  rw [hd] at h
  have:=of_decide_eq_false hd
  simp only [cond_false] at h ⊢
  cases hi:A7U (szN (M8 l) l.length 0 (b - (l.length:Int))) with
  | false=>rw [hi] at h;simp at h
  | true =>
   obtain ⟨r1,r2,r3⟩:=C3O (M:=1048576) (Q:=fun i=>okS (l.getD i dOp).2.1=true∧okS (l.getD i dOp).2.2=true) l.length 0 (b - (l.length:Int)) (fun j b' _ hj q0 q1 hf=>by
    obtain ⟨p1,p2⟩:=C1L hb j (by omega)
    obtain ⟨s1,s2,s3⟩:=C2o _ _ _ b' q0 q1 p1 p2 hf
    exact ⟨⟨s2,s3⟩,s1⟩) (by omega) (by omega) hi
   simp only [cond_true]
   exact ⟨by omega,C27 (by omega) (fun i hi=>r1 i (Nat.zero_le _) (by omega))⟩
theorem C1x (k t:Int) (l:Lq1) (b:Int) (h0:0≤b) (h1:b≤1048576) (hb:A9W l=true) (h:decide (B4u k t l b<0)=false):L6 l=true:=by
 have h:=of_decide_eq_false h
 simp only [B4u] at h
 cases hd:decide (B1J l b<0) with
 | true=>rw [hd] at h;simp at h
 | false =>
  have:=of_decide_eq_false hd
  exact (C1w l b h0 h1 hb (by omega)).2
noncomputable def C0m (l:Lq1):List Int:=U8 (l.length:Int)++(l.map opB).flatten
noncomputable def K7 (k t:Int) (l:Lq1):List Int:=U8 k++(U8 t++cond (k==1) (C0m l) [])
noncomputable def B6q (b:List Int):List Int:=A18 ((M3 b).extract 0 4)
noncomputable def B6N (k t:Int) (l:Lq1):List Int:=U8 ((K7 k t l).length:Int)++(K7 k t l++B6q (K7 k t l))
theorem A0v {l:Lq1} (h:V7 l=true):l.length≤8∧∀ o∈l,o.2.1.size≤12∧o.2.2.size≤20:=by
 simp only [V7] at h
 cases h5:A46 (B1j l) (l.length - (0:Int).toNat) (0:Int).toNat with
 | false=>rw [h5] at h;simp at h
 | true =>
  rw [h5] at h
  simp only [cond_true,R5] at h
  constructor
  ·cases h6:decide ((l.length:Int) ≥ 1) with
   | false=>simp [h6] at h
   | true=>rw [h6] at h;simp only [cond_true,decide_eq_true_eq] at h;omega
  ·intro o ho
   obtain ⟨i,hi,rfl⟩:=List.getElem_of_mem ho
   have h6:=(A7w _ _).1 h5 i (Nat.zero_le _) (by simpa using hi)
   simp only [B1j,Bool.and_eq_true,List.getD_eq_getElem?_getD,List.getElem?_eq_getElem hi,Option.getD_some] at h6
   have h7:=h6.1
   simp only [B5N] at h7
   have hk:∀ s:ByteArray,B0P s=true→s.size≤12:=by
    intro s hs
    simp only [B0P] at hs
    cases h8:A46 (B1T s) (s.size - (0:Int).toNat) (0:Int).toNat with
    | false=>rw [h8] at hs;simp at hs
    | true =>
     rw [h8] at hs
     simp only [cond_true,R5] at hs
     cases h9:decide ((s.size:Int) ≥ 1) with
     | false=>simp [h9] at hs
     | true=>rw [h9] at hs;simp only [cond_true,decide_eq_true_eq] at hs;omega
   cases h8:B0P (l[i]).2.1 with
   | false=>exfalso;revert h7;simp only [h8,cond_false];cases R5 (l[i]).1 1 3<;>cases ((l[i]).1==2)<;>simp
   | true =>
    refine ⟨hk _ h8,?_⟩
    revert h7
    simp only [h8,cond_true]
    cases R5 (l[i]).1 1 3<;>cases ((l[i]).1==2)<;>simp<;>omega
theorem C0n {l:Lq1} (h:V7 l=true):L6 l=true:=by
 obtain ⟨a1,a2⟩:=A0v h
 simp only [L6,okL,Bool.and_eq_true,decide_eq_true_eq,List.all_eq_true]
 refine ⟨by omega,fun o ho=>?_⟩
 have:=a2 o ho
 simp only [C3I,okS,Bool.and_eq_true,decide_eq_true_eq];omega
theorem B7N {k t:Int} {l:Lq1} (h:X8 k t l=true):1≤k∧k≤3∧1≤t∧t≤1000000∧(k=1→V7 l=true)∧(k ≠ 1→l=[])∧L6 l=true:=by
 simp only [X8,R5] at h
 cases h1:decide (t ≥ 1) with
 | false=>simp [h1] at h
 | true=>cases h2:decide (t≤1000000) with
  | false=>simp [h1,h2] at h
  | true =>
   simp only [h1,h2,cond_true,Bool.not_true,cond_false] at h
   have:=of_decide_eq_true h1;have:=of_decide_eq_true h2
   cases k1:(k==1) with
   | true =>
    have:=eq_of_beq k1
    simp only [k1,cond_true] at h
    exact ⟨by omega,by omega,by omega,by omega,fun _=>h,fun hk=>absurd this hk,C0n h⟩
   | false =>
    have hk:k ≠ 1:=by rw [beq_eq_false_iff_ne] at k1;exact k1
    simp only [k1,cond_false] at h
    have key:(k=2∨k=3)∧l=[]:=by
     cases k2:(k==2) with
     | true =>
      simp only [k2,cond_true] at h
      have:=eq_of_beq h
      exact ⟨.inl (eq_of_beq k2),List.eq_nil_of_length_eq_zero (by omega)⟩
     | false =>
      cases k3:(k==3) with
      | true =>
       simp only [k2,k3,cond_true,cond_false] at h
       have:=eq_of_beq h
       exact ⟨.inr (eq_of_beq k3),List.eq_nil_of_length_eq_zero (by omega)⟩
      | false=>simp [k2,k3] at h
    exact ⟨by omega,by omega,by omega,by omega,fun e=>absurd e hk,fun _=>key.2,by rw [key.2];rfl⟩
noncomputable def okB (b:List Int):Prop:=∀ c∈b,0≤c∧c≤255
theorem C28 {l:Lq1} (h:V7 l=true):(C0m l).length≤400:=by
 obtain ⟨a1,a2⟩:=A0v h
 have h5:=C2R (M:=47) l (fun o ho'=>by have:=a2 o ho';have:=C3J o;omega)
 have h6:=R3 (l.length:Int)
 simp only [C0m,List.length_append];omega
noncomputable def hiB (j x:Nat):List Int:=(hiF A9v j (x:Int)).1++[IntKind.wrap .u8 (hiF A9v j (x:Int)).2]
theorem C3H (x:Nat):U8 (x:Int)=hiB 4 x:=by simp only [U8,hiB,C1C]
theorem C2V (j x:Nat) (h:¬ 127<x):hiF A9v j (x:Int)=([],(x:Int)):=by
 cases j with
 | zero=>rfl
 | succ j =>
  have e:decide ((x:Int) > 127)=false:=decide_eq_false (by omega)
  simp only [hiF,e,cond_false]
theorem C3i {n:Int} (h1:0≤n) (h2:n<256):IntKind.wrap .u8 n=n:=by
 show (if (false&&decide (n % (2 ^ 8:Int) ≥ (2 ^ 7:Int)))=true then n % (2 ^ 8:Int) - (2 ^ 8:Int) else n % (2 ^ 8:Int))=n
 simp only [Bool.false_and,Bool.false_eq_true,if_false];omega
theorem C0b (j x:Nat) (h:¬ 127<x):hiB j x=[(x:Int)]:=by
 simp only [hiB,C2V j x h,List.nil_append];rw [C3i (by omega) (by omega)]
theorem C48 (n:Nat):Int.fdiv (n:Int) (2 ^ 7)=((n / 128:Nat):Int):=by
 rw [Int.fdiv_eq_ediv_of_nonneg _ (by decide)];rfl
theorem C2U (j x:Nat) (h:127<x):hiF A9v (j+1) (x:Int)=(A9v x::(hiF A9v j ((x / 128:Nat):Int)).1,(hiF A9v j ((x / 128:Nat):Int)).2):=by
 have e:decide ((x:Int) > 127)=true:=decide_eq_true (by omega)
 simp only [hiF,e,cond_true,C48]
theorem B3q (n:Nat) (h:n<18446744073709551616):(BitVec.ofInt 64 (n:Int)).toNat=n:=by
 simp [BitVec.toNat_ofInt];omega
theorem C3x (n:Nat) (h:n<9223372036854775808):iand .i64 (n:Int) 127=((n % 128:Nat):Int):=by
 show wI (((BitVec.ofInt 64 (n:Int) &&& BitVec.ofInt 64 ((127:Nat):Int)).toNat:Nat):Int)=_
 rw [BitVec.toNat_and,B3q n (by omega),B3q 127 (by omega),show (127:Nat)=2 ^ 7 - 1 from rfl,Nat.and_two_pow_sub_one_eq_mod]
 exact A7v (by omega) (by omega)
theorem C4d (n m j:Nat) (hn:n<2 ^ j) (h:n+m*2 ^ j<9223372036854775808):ior .i64 (n:Int) ((m*2 ^ j:Nat):Int)=((n+m*2 ^ j:Nat):Int):=by
 show wI (((BitVec.ofInt 64 (n:Int) ||| BitVec.ofInt 64 ((m*2 ^ j:Nat):Int)).toNat:Nat):Int)=_
 rw [BitVec.toNat_or,B3q n (by omega),B3q _ (by omega),Nat.or_comm,Nat.mul_comm m,← Nat.two_pow_add_eq_or_of_lt hn,Nat.add_comm]
 rw [Nat.mul_comm m] at h
 exact A7v (by omega) (by omega)
theorem C2S (n:Nat) (h:n<9223372036854775808):A9v (n:Int)=((128+n % 128:Nat):Int):=by
 simp only [A9v]
 rw [C3x n h]
 have:=C4d (n % 128) 1 7 (by omega) (by omega)
 have e:((1*2 ^ 7:Nat):Int)=128:=rfl
 rw [e] at this
 rw [this,C3i (by omega) (by omega)];omega
theorem C2T (j x:Nat) (h:127<x) (hx:x<9223372036854775808):hiB (j+1) x=((128+x % 128:Nat):Int)::hiB j (x / 128):=by
 simp only [hiB,C2U j x h,C2S x hx,List.cons_append]
theorem C4b:∀ (j x:Nat),x<128 ^ (j+1)→x<9223372036854775808→okB (hiB j x):=by
 intro j
 induction j with
 | zero=>intro x h h';rw [C0b 0 x (by simp at h;omega)];intro c hc;simp at hc;simp at h;omega
 | succ j ih =>
  intro x h h'
  by_cases hx:127<x
  ·rw [C2T j x hx h']
   rw [Nat.pow_succ] at h
   have hx':x / 128<128 ^ (j+1):=Nat.div_lt_of_lt_mul (by rw [Nat.mul_comm];exact h)
   intro c hc
   rcases List.mem_cons.1 hc with rfl | hc
   ·omega
   ·exact ih (x / 128) hx' (by omega) c hc
  ·rw [C0b _ x hx];intro c hc;simp at hc;omega
theorem B0t {x:Int} (h0:0≤x) (h1:x≤1000000000):okB (U8 x):=by
 obtain ⟨n,rfl⟩:=Int.eq_ofNat_of_zero_le h0
 rw [C3H];exact C4b 4 n (by simp;omega) (by omega)
noncomputable def C39 (o:Int×ByteArray×ByteArray):Prop:=0≤o.1∧o.1≤1000000000∧o.2.1.size≤1000000000∧o.2.2.size≤1000000000
theorem B7T (s:ByteArray):okB (A18 s):=by
 intro c hc
 simp only [A18,List.mem_map] at hc
 obtain ⟨x,_,rfl⟩:=hc
 have:=x.toNat_lt
 omega
theorem okB.app {a b:List Int} (h:okB a) (h':okB b):okB (a++b):=fun c hc=>(List.mem_append.1 hc).elim (h c) (h' c)
theorem C0D {s:ByteArray} (h:s.size≤1000000000):okB (B5U s):=(B0t (by omega) (by omega)).app (B7T s)
theorem C4k {o:Int×ByteArray×ByteArray} (h:C39 o):okB (opB o):=by
 obtain ⟨h0,h1,h2,h3⟩:=h
 simp only [opB,Q9 h0 h1]
 exact (B0t h0 h1).app ((C0D h2).app (C0D h3))
theorem C3v:∀ l:Lq1,(∀ o∈l,C39 o)→okB (l.map opB).flatten:=by
 intro l
 induction l with
 | nil=>intro _ c hc;simp at hc
 | cons o l ih=>intro h;simp only [List.map_cons,List.flatten_cons];exact (C4k (h o (by simp))).app (ih fun x hx=>h x (by simp [hx]))
theorem C2e {l:Lq1} (h:V7 l=true):∀ o∈l,C39 o:=by
 intro o ho
 obtain ⟨_,a2⟩:=A0v h
 have a3:=a2 o ho
 simp only [V7] at h
 cases h5:A46 (B1j l) (l.length - (0:Int).toNat) (0:Int).toNat with
 | false=>rw [h5] at h;simp at h
 | true =>
  obtain ⟨i,hi,rfl⟩:=List.getElem_of_mem ho
  have h6:=(A7w _ _).1 h5 i (Nat.zero_le _) (by simpa using hi)
  simp only [B1j,Bool.and_eq_true,List.getD_eq_getElem?_getD,List.getElem?_eq_getElem hi,Option.getD_some] at h6
  have h7:=h6.1
  simp only [B5N,R5] at h7
  cases h8:decide ((l[i]).1 ≥ 1) with
  | false=>simp [h8] at h7
  | true =>
   cases h9:decide ((l[i]).1≤3) with
   | false=>simp [h8,h9] at h7
   | true =>
    have:=of_decide_eq_true h8
    have:=of_decide_eq_true h9
    exact ⟨by omega,by omega,by omega,by omega⟩
theorem C3K {l:Lq1} (h:V7 l=true):okB (C0m l):=by
 obtain ⟨a1,_⟩:=A0v h
 exact (B0t (by omega) (by omega)).app (C3v l (C2e h))
theorem B4H {k t:Int} {l:Lq1} (h:X8 k t l=true):okB (K7 k t l)∧(K7 k t l).length≤410∧2≤(K7 k t l).length:=by
 obtain ⟨a1,a2,a3,a4,a7,a8,a9⟩:=B7N h
 have l1:=R3 k;have l2:=R3 t
 have m1:1≤(U8 k).length:=by simp [U8]
 have m2:1≤(U8 t).length:=by simp [U8]
 cases hk:(k==1) with
 | true =>
  have ho:=a7 (eq_of_beq hk)
  have l5:=C28 ho
  refine ⟨?_,by simp only [K7,hk,cond_true,List.length_append];omega,by simp only [K7,hk,cond_true,List.length_append];omega⟩
  simp only [K7,hk,cond_true]
  exact (B0t (by omega) (by omega)).app ((B0t (by omega) (by omega)).app (C3K ho))
 | false =>
  refine ⟨?_,by simp only [K7,hk,cond_false,List.length_append,List.length_nil];omega,by simp only [K7,hk,cond_false,List.length_append,List.length_nil];omega⟩
  simp only [K7,hk,cond_false]
  exact (B0t (by omega) (by omega)).app ((B0t (by omega) (by omega)).app (fun c hc=>by simp at hc))
noncomputable def AllB (l:List Int):Prop:=∀ x∈l,0≤x∧x<256
noncomputable def C1g (n:Nat):Nat:=(64 - (n+8) % 64) % 64
theorem AllB.app {l m:List Int} (h:AllB l) (h2:AllB m):AllB (l++m):=fun x hx=>by
 rcases List.mem_append.1 hx with hx | hx
 ·exact h x hx
 ·exact h2 x hx
theorem C2f (a:List Int) (ha:a.length≤1000000000000) (hb:AllB a) (h:List Int) (hh:h.length=a.length+1) (hB:AllB h) :
  (U0 a h).1=0∧(K4 a h).1=0∧(U0 a h).2.1=a∧(K4 a h).2.1=a∧(U0 a h).2.2=(K4 a h).2.2∧((K4 a h).2.2.length+8) % 64=0∧(K4 a h).2.2.length≤a.length+64∧AllB (K4 a h).2.2:=by
 refine A7J (v:=(a,h)) (w:=(a,h)) (fun (v:A8V) (w:A8Z)=>v.1=a∧w.1=a∧v.2=w.2∧v.2.length+C1g v.2.length≤a.length+64∧AllB v.2)
  (fun (x:A0n) (y:A0r)=>x.1=0∧y.1=0∧x.2.1=a∧y.2.1=a∧x.2.2=y.2.2∧(y.2.2.length+8) % 64=0∧y.2.2.length≤a.length+64∧AllB y.2.2) (fun v=>C1g v.2.length) ?_ ⟨rfl,rfl,rfl,by simp only [C1g];omega,hB⟩ (by simp only [C1g];omega)
 rintro ⟨a1,l⟩ ⟨a2,l2⟩ ⟨h1,h2,h3,h4,h5⟩
 simp only at h1 h2 h3 h4 h5
 subst h1;subst h2;subst h3
 simp only [C1g] at h4
 have e1:wI ((l.length:Int)+(8:Int))=((l.length+8:Nat):Int):=by rw [U5 _ (by omega) (by omega)];omega
 have t1:Int.tmod ((l.length+8:Nat):Int) 64=(((l.length+8) % 64:Nat):Int):=by rw [Int.tmod_eq_emod_of_nonneg (by omega)];omega
 have t2:Int.tmod (l.length:Int) 64=((l.length % 64:Nat):Int):=by rw [Int.tmod_eq_emod_of_nonneg (by omega)];omega
 by_cases hm:(l.length+8) % 64=0
 ·refine .inr ⟨(0,a2,l),(0,a2,l),?_,?_,rfl,rfl,rfl,rfl,rfl,hm,by simp only;omega,h5⟩
  ·simp only [A9x,e1,t1,hm];rfl
  ·simp only [A9B,t2,show l.length % 64=56 by omega];rfl
 ·refine .inl ⟨(a2,l++[0]),(a2,l++[0]),?_,?_,⟨rfl,rfl,rfl,by simp only [C1g,List.length_append,List.length_singleton];omega,h5.app (fun x hx=>by rw [List.mem_singleton.1 hx];exact ⟨by decide,by decide⟩)⟩,by simp only [C1g,List.length_append,List.length_singleton];omega⟩
  ·have c1:((((l.length+8) % 64:Nat):Int) != (0:Int))=true:=by simp only [bne_iff_ne,ne_eq];omega
   simp only [A9x,e1,t1,c1,cond_true,List.length_singleton]
   rw [decide_eq_true (by simp only [MAXB];omega)];rfl
  ·have c1:(((l.length % 64:Nat):Int) != (56:Int))=true:=by simp only [bne_iff_ne,ne_eq];omega
   simp only [A9B,t2,c1,cond_true,List.length_singleton]
   rw [decide_eq_true (by simp only [MAXB];omega)];rfl
theorem w8B (n:Int):0≤IntKind.wrap .u8 n∧IntKind.wrap .u8 n<256:=by
 have:IntKind.wrap .u8 n=n % 256:=by simp [IntKind.wrap,IntKind.bits,IntKind.signed]
 rw [this];exact ⟨Int.emod_nonneg _ (by decide),Int.emod_lt_of_pos _ (by decide)⟩
theorem C2g (n:Int) (h:List Int) (hh:h.length≤1000000000100) (hB:AllB h) :
  (A8i n 7 h).1=0∧(U2 n 56 h).1=0∧(A8i n 7 h).2=(U2 n 56 h).2∧(U2 n 56 h).2.length=h.length+8∧AllB (U2 n 56 h).2:=by
 refine A7J (v:=(n,(7:Int),h)) (w:=(n,(56:Int),h)) (fun (v:A8W) (w:A80)=>v.1=n∧w.1=n∧v.2.2=w.2.2∧(-1≤v.2.1∧v.2.1≤7)∧w.2.1=8*v.2.1∧(v.2.2.length:Int)=(h.length:Int)+(7 - v.2.1)∧AllB v.2.2)
  (fun (x:A0o) (y:A0s)=>x.1=0∧y.1=0∧x.2=y.2∧y.2.length=h.length+8∧AllB y.2) (fun v=>(v.2.1+1).toNat) ?_ ⟨rfl,rfl,rfl,⟨by simp only;omega,by simp only;omega⟩,by simp only;omega,by simp only;omega,hB⟩ (by simp only;decide)
 rintro ⟨n1,i,l⟩ ⟨n2,j,l2⟩ ⟨h1,h2,h3,h4,h5,h6,h7⟩
 simp only at h1 h2 h3 h4 h5 h6 h7
 subst h1;subst h2;subst h3;subst h5
 by_cases hi:0≤i
 ·have e0 : IntKind.wrap .u64 (8 * i) = 8 * i := by
   have:IntKind.wrap .u64 (8*i)=(8*i) % 18446744073709551616:=by simp [IntKind.wrap,IntKind.bits,IntKind.signed]
   rw [this];omega
  refine .inl ⟨(n2,i - 1,l++[IntKind.wrap .u8 (Int.fdiv n2 (2 ^ (min (Int.toNat (8*i)) (IntKind.bits .i64))))]),(n2,8*i - 8,l++[IntKind.wrap .u8 (Int.fdiv n2 (2 ^ (min (Int.toNat (8*i)) (IntKind.bits .i64))))]),?_,?_,⟨rfl,rfl,rfl,by simp only;omega,by simp only;omega,by simp only [List.length_append,List.length_singleton];omega,h7.app (fun x hx=>by rw [List.mem_singleton.1 hx];exact w8B _)⟩,by simp only;omega⟩
  ·simp only [A9y,U5 (8*i) (by omega) (by omega),e0,A7v (n:=i - 1) (by omega) (by omega),decide_eq_true (show i ≥ 0 from hi),cond_true,List.length_singleton]
   rw [decide_eq_true (by omega),decide_eq_true (by simp only [MAXB];omega)];rfl
  ·simp only [A9C,e0,A7v (n:=8*i - 8) (by omega) (by omega),decide_eq_true (show 8*i ≥ 0 by omega),cond_true,List.length_singleton]
   rw [decide_eq_true (show _≤_ from by simp only [MAXB];omega)];rfl
 ·refine .inr ⟨(0,l),(0,l),?_,?_,rfl,rfl,rfl,by simp only;omega,h7⟩
  ·simp only [A9y,decide_eq_false (show ¬ i ≥ 0 from hi),cond_false]
  ·simp only [A9C,decide_eq_false (show ¬ 8*i ≥ 0 by omega),cond_false]
theorem C0o (a:List Int) (ha:a.length≤1000000000000) (hb:AllB a):A8x a=true∧A8B a=true∧A8J a=L7 a∧(L7 a).length % 64=0∧0<(L7 a).length∧(L7 a).length≤a.length+72∧AllB (L7 a):=by
 have h128:AllB (a++[128]):=hb.app (fun x hx=>by rw [List.mem_singleton.1 hx];exact ⟨by decide,by decide⟩)
 obtain ⟨a1,a2,a3,a4,a5,a6,a7,a8⟩:=C2f a ha hb (a++[128]) (by simp) h128
 obtain ⟨b1,b2,b3,b4,b5⟩:=C2g (wI ((8:Int)*(a.length:Int))) (K4 a (a++[128])).2.2 (by omega) a8
 have ei:A8t a=A8i (wI ((8:Int)*(a.length:Int))) 7 (K4 a (a++[128])).2.2:=by
  simp only [A8t,L8,a3,a5]
 have es:A8u a=U2 (wI ((8:Int)*(a.length:Int))) 56 (K4 a (a++[128])).2.2:=by
  simp only [A8u,List.nil_append,a4,Int.mul_comm]
 have e1:A8J a=L7 a:=by simp only [A8J,L7,ei,es,b3]
 refine ⟨?_,?_,e1,?_,?_,?_,?_⟩
 ·have q1:K6 a=true:=decide_eq_true (by simp only [MAXB,List.length_nil];omega)
  simp only [A8x,q1,L8,a1,ei,b1,List.length_singleton,Bool.true_and,beq_self_eq_true,Bool.and_true]
  exact decide_eq_true (by simp only [MAXB];omega)
 ·simp only [A8B,List.nil_append,a2,es,b2,List.length_singleton,List.length_nil,List.length_append,beq_self_eq_true,Bool.and_true,Bool.and_eq_true,decide_eq_true_eq,MAXB]
  exact ⟨decide_eq_true (by omega),decide_eq_true (by omega)⟩
 ·simp only [L7,es,b4];omega
 ·simp only [L7,es,b4];omega
 ·simp only [L7,es,b4];omega
 ·simp only [L7,es];exact b5
noncomputable def A95 (p:List Int) (n:Nat):List Int:=(List.range n).foldl (fun h i=>A8l h ((p.drop (64*i)).take 64) B2h) hinit
noncomputable def Wd (x:Int):Prop:=0≤x∧x<4294967296
noncomputable def AllW (l:List Int):Prop:=∀ x∈l,Wd x
theorem C4c:AllW hinit:=by
 intro x hx
 have:hinit.all (fun x=>decide (0≤x∧x<4294967296))=true:=by decide
 exact of_decide_eq_true (p:=0≤x∧x<4294967296) (List.all_eq_true.1 this x hx)
theorem w32 (n:Int):IntKind.wrap .u32 n=n % 4294967296:=by simp [IntKind.wrap,IntKind.bits,IntKind.signed]
theorem C2p {n:Nat} (h:n<4294967296):IntKind.wrap .u32 (n:Int)=(n:Int):=by rw [w32];omega
theorem C1A {n:Nat} (h:n<9223372036854775808):wI (n:Int)=(n:Int):=A7v (by omega) (by omega)
theorem C1e {n:Nat} (h:n<4294967296):Wd (n:Int):=⟨by omega,by omega⟩
theorem C2z {x:Int} (h:0≤x∧x<256) (k:Nat) (hk:k≤24):IntKind.wrap .u32 (IntKind.wrap .u32 x*2 ^ k)=wI (wI x*2 ^ k)∧Wd (IntKind.wrap .u32 (IntKind.wrap .u32 x*2 ^ k)):=by
 obtain ⟨a,rfl⟩:∃ a:Nat,x=(a:Int):=⟨x.toNat,by omega⟩
 have hp:2 ^ k≤2 ^ 24:=Nat.pow_le_pow_right (by decide) hk
 have h1:a*2 ^ k<4294967296:=by
  calc a*2 ^ k≤a*2 ^ 24:=Nat.mul_le_mul_left _ hp
   _<4294967296:=by omega
 have e1:(a:Int)*2 ^ k=((a*2 ^ k:Nat):Int):=by push_cast;rfl
 rw [C2p (n:=a) (by omega),C1A (n:=a) (by omega),e1,C2p h1,C1A (by omega)]
 exact ⟨rfl,C1e h1⟩
theorem C46 {x:Int} (h:0≤x∧x<256):IntKind.wrap .u32 x=wI x∧Wd (IntKind.wrap .u32 x):=by
 obtain ⟨a,rfl⟩:∃ a:Nat,x=(a:Int):=⟨x.toNat,by omega⟩
 rw [C2p (n:=a) (by omega),C1A (n:=a) (by omega)]
 exact ⟨rfl,C1e (by omega)⟩
theorem bvn {k x:Nat} (h:x<2 ^ k):(BitVec.ofInt k (x:Int)).toNat=x:=by
 rw [BitVec.ofInt_natCast,BitVec.toNat_ofNat,Nat.mod_eq_of_lt h]
theorem C5v {x y:Nat} (hx:x<4294967296) (hy:y<4294967296):ior .u32 (x:Int) (y:Int)=((x ||| y:Nat):Int):=by
 unfold ior
 rw [BitVec.toNat_or,show IntKind.bits .u32=32 from rfl,bvn (k:=32) hx,bvn (k:=32) hy]
 exact C2p (Nat.or_lt_two_pow (n:=32) hx hy)
theorem C5w {x y:Nat} (hx:x<9223372036854775808) (hy:y<9223372036854775808):ior .i64 (x:Int) (y:Int)=((x ||| y:Nat):Int):=by
 unfold ior
 rw [BitVec.toNat_or,show IntKind.bits .i64=64 from rfl,bvn (k:=64) (by omega),bvn (k:=64) (by omega)]
 exact C1A (Nat.or_lt_two_pow (n:=63) hx hy)
theorem Wd.nat {x:Int} (h:Wd x):∃ n:Nat,x=(n:Int)∧n<4294967296:=⟨x.toNat,by have:=h.1;omega,by have:=h.1;have:=h.2;omega⟩
theorem orS {x y:Int} (hx:Wd x) (hy:Wd y):ior .u32 x y=ior .i64 x y∧Wd (ior .u32 x y):=by
 obtain ⟨a,rfl,ha⟩:=hx.nat
 obtain ⟨b,rfl,hb⟩:=hy.nat
 rw [C5v ha hb,C5w (by omega) (by omega)]
 exact ⟨rfl,C1e (Nat.or_lt_two_pow (n:=32) ha hb)⟩
theorem C3S {a b c d:Int} (ha:0≤a∧a<256) (hb:0≤b∧b<256) (hc:0≤c∧c<256) (hd:0≤d∧d<256) :
  ior .u32 (ior .u32 (ior .u32 (IntKind.wrap .u32 (IntKind.wrap .u32 a*2 ^ (24))) (IntKind.wrap .u32 (IntKind.wrap .u32 b*2 ^ (16)))) (IntKind.wrap .u32 (IntKind.wrap .u32 c*2 ^ (8)))) (IntKind.wrap .u32 d) =
  ior .i64 (ior .i64 (ior .i64 (wI (wI a*2 ^ (24))) (wI (wI b*2 ^ (16)))) (wI (wI c*2 ^ (8)))) (wI d) ∧
  Wd (ior .u32 (ior .u32 (ior .u32 (IntKind.wrap .u32 (IntKind.wrap .u32 a*2 ^ (24))) (IntKind.wrap .u32 (IntKind.wrap .u32 b*2 ^ (16)))) (IntKind.wrap .u32 (IntKind.wrap .u32 c*2 ^ (8)))) (IntKind.wrap .u32 d)):=by
 obtain ⟨a1,a2⟩:=C2z ha 24 (by decide)
 obtain ⟨b1,b2⟩:=C2z hb 16 (by decide)
 obtain ⟨c1,c2⟩:=C2z hc 8 (by decide)
 obtain ⟨d1,d2⟩:=C46 hd
 rw [← a1,← b1,← c1,← d1]
 obtain ⟨e1,e2⟩:=orS a2 b2
 rw [← e1]
 obtain ⟨f1,f2⟩:=orS e2 c2
 rw [← f1]
 obtain ⟨g1,g2⟩:=orS f2 d2
 exact ⟨g1,g2⟩
theorem C0C {l:List Int} {k:Nat} (x:Int) (hk:0<k):(l++List.replicate k 0).set l.length x=(l++[x])++List.replicate (k - 1) 0:=by
 obtain ⟨j,rfl⟩:∃ j,k=j+1:=⟨k - 1,by omega⟩
 rw [List.set_append_right _ _ (Nat.le_refl _),Nat.sub_self,List.replicate_succ]
 simp
theorem AllB.at {l:List Int} (h:AllB l) {i:Nat} (hi:i<l.length):0≤l.getD i 0∧l.getD i 0<256:=by
 rw [List.getD_eq_getElem?_getD,List.getElem?_eq_getElem hi];exact h _ (List.getElem_mem hi)
theorem AllW.at {l:List Int} (h:AllW l) (i:Nat):Wd (l.getD i 0):=by
 rcases Nat.lt_or_ge i l.length with hi | hi
 ·rw [List.getD_eq_getElem?_getD,List.getElem?_eq_getElem hi];exact h _ (List.getElem_mem hi)
 ·rw [List.getD_eq_getElem?_getD,List.getElem?_eq_none hi];exact ⟨by decide,by decide⟩
theorem AllW.snoc {l:List Int} (h:AllW l) {x:Int} (hx:Wd x):AllW (l++[x]):=fun y hy=>by
 rcases List.mem_append.1 hy with hy | hy
 ·exact h y hy
 ·rw [List.mem_singleton.1 hy];exact hx
theorem C0F (c:List Int) (hc:c.length=64) (hb:AllB c):(N8 c 0 []).1=0∧(Q2 c 0 (List.replicate 64 0)).2=(N8 c 0 []).2++List.replicate 48 0∧(N8 c 0 []).2.length=16∧AllW (N8 c 0 []).2:=by
 refine A7J (v:=(c,(0:Int),List.replicate 64 (0:Int))) (w:=(c,(0:Int),([]:List Int)))
  (fun (v:T8) (w:A8b)=>v.1=c∧w.1=c∧v.2.1=w.2.1∧(0≤v.2.1∧v.2.1≤16)∧v.2.1=(w.2.2.length:Int)∧v.2.2=w.2.2++List.replicate (64 - w.2.2.length) 0∧AllW w.2.2)
  (fun (a:T4) (b:Y2)=>b.1=0∧a.2=b.2++List.replicate 48 0∧b.2.length=16∧AllW b.2) (fun v=>(16 - v.2.1).toNat) ?_ ⟨rfl,rfl,rfl,⟨by simp only;omega,by simp only;omega⟩,rfl,rfl,fun x hx=>by simp at hx⟩ (by simp only;decide)
 rintro ⟨c1,i,l⟩ ⟨c2,j,ws⟩ ⟨h1,h2,h3,h4,h5,h6,h7⟩
 simp only at h1 h2 h3 h4 h5 h6 h7
 subst h1;subst h2;subst h3
 by_cases hi:i<16
 ·obtain ⟨n,rfl⟩:∃ n:Nat,i=(n:Int):=⟨ws.length,h5⟩
  have hn:n=ws.length:=by omega
  obtain ⟨e,ew⟩:=C3S (hb.at (i:=4*n) (by omega)) (hb.at (i:=4*n+1) (by omega)) (hb.at (i:=4*n+2) (by omega)) (hb.at (i:=4*n+3) (by omega))
  refine .inl ⟨(c2,(n:Int)+1,(ws++[_])++List.replicate (64 - ws.length - 1) 0),(c2,(n:Int)+1,ws++[_]),?_,?_,⟨rfl,rfl,rfl,by simp only;omega,by simp only [List.length_append,List.length_singleton];omega,by simp only [List.length_append,List.length_singleton];rw [Nat.sub_sub],h7.snoc ew⟩,by simp only;omega⟩
  ·simp only [Q5,U5 (4*(n:Int)) (by omega) (by omega),U5 (4*(n:Int)+1) (by omega) (by omega),U5 (4*(n:Int)+2) (by omega) (by omega),U5 (4*(n:Int)+3) (by omega) (by omega),U5 ((n:Int)+1) (by omega) (by omega),decide_eq_true hi,cond_true]
   rw [decide_eq_true (by omega),decide_eq_true (by omega),decide_eq_true (by omega),decide_eq_true (by omega),decide_eq_true (by rw [h6];simp only [List.length_append,List.length_replicate];omega)]
   simp only [cond_true]
   rw [h6,show ((n:Int)).toNat=ws.length by omega,C0C _ (by omega)]
   rw [show (4*(n:Int)).toNat=4*n by omega,show (4*(n:Int)+1).toNat=4*n+1 by omega,show (4*(n:Int)+2).toNat=4*n+2 by omega,show (4*(n:Int)+3).toNat=4*n+3 by omega]
  ·simp only [A8N,U5 (4*(n:Int)) (by omega) (by omega),U5 (4*(n:Int)+1) (by omega) (by omega),U5 (4*(n:Int)+2) (by omega) (by omega),U5 (4*(n:Int)+3) (by omega) (by omega),U5 ((n:Int)+1) (by omega) (by omega),decide_eq_true hi,cond_true,List.length_singleton]
   rw [decide_eq_true (by omega),decide_eq_true (by omega),decide_eq_true (by omega),decide_eq_true (by omega),decide_eq_true (by simp only [MAXB];omega)]
   simp only [cond_true]
   rw [show (4*(n:Int)).toNat=4*n by omega,show (4*(n:Int)+1).toNat=4*n+1 by omega,show (4*(n:Int)+2).toNat=4*n+2 by omega,show (4*(n:Int)+3).toNat=4*n+3 by omega]
   rw [← e]
 ·have hl:ws.length=16:=by omega
  refine .inr ⟨(0,l),(0,ws),?_,?_,rfl,?_,hl,h7⟩
  ·simp only [Q5,decide_eq_false hi,cond_false]
  ·simp only [A8N,decide_eq_false hi,cond_false]
  ·rw [h6,hl]
theorem C3T {x y:Nat} (hx:x<9223372036854775808) (hy:y<9223372036854775808):iand .i64 (x:Int) (y:Int)=((x &&& y:Nat):Int):=by
 unfold iand
 rw [BitVec.toNat_and,show IntKind.bits .i64=64 from rfl,bvn (k:=64) (by omega),bvn (k:=64) (by omega)]
 exact C1A (Nat.and_lt_two_pow (n:=63) x hy)
theorem B5d {n:Int} (h0:0≤n) (h1:n<9223372036854775808):iand .i64 n (4294967295:Int)=n % 4294967296:=by
 obtain ⟨a,rfl⟩:∃ a:Nat,n=(a:Int):=⟨n.toNat,by omega⟩
 have:=C3T (x:=a) (y:=4294967295) (by omega) (by omega)
 rw [show ((4294967295:Nat):Int)=(4294967295:Int) from rfl] at this
 rw [this,show a &&& 4294967295=a % 4294967296 from Nat.and_two_pow_sub_one_eq_mod a 32]
 omega
theorem C3M {x:Int} (hx:Wd x) (r s:Nat) (hs:s<32) :
  ior .u32 (IntKind.wrap .u32 (x*2 ^ s)) (Int.fdiv x (2 ^ r))=iand .i64 (ior .i64 (Int.fdiv x (2 ^ r)) (wI (x*2 ^ s))) (4294967295:Int)∧Wd (ior .u32 (IntKind.wrap .u32 (x*2 ^ s)) (Int.fdiv x (2 ^ r))):=by
 obtain ⟨a,rfl,ha⟩:=hx.nat
 have e1:(a:Int)*2 ^ s=((a*2 ^ s:Nat):Int):=by push_cast;rfl
 have e2:Int.fdiv (a:Int) (2 ^ r)=((a / 2 ^ r:Nat):Int):=by
  have:((2:Int) ^ r)=((2 ^ r:Nat):Int):=by push_cast;rfl
  rw [this];exact (Int.ofNat_fdiv a (2 ^ r)).symm
 have hp:2 ^ s≤2 ^ 31:=Nat.pow_le_pow_right (by decide) (by omega)
 have h1:a*2 ^ s<9223372036854775808:=by
  calc a*2 ^ s≤a*2 ^ 31:=Nat.mul_le_mul_left _ hp
   _<9223372036854775808:=by omega
 have h2:a / 2 ^ r<4294967296:=Nat.lt_of_le_of_lt (Nat.div_le_self _ _) ha
 have h3:(a*2 ^ s) % 4294967296<4294967296:=Nat.mod_lt _ (by decide)
 have e3:((a*2 ^ s:Nat):Int) % 4294967296=(((a*2 ^ s) % 4294967296:Nat):Int):=by omega
 rw [e1,e2,w32,e3,C5v h3 h2,C1A h1,C5w (by omega) h1]
 refine ⟨?_,C1e (Nat.or_lt_two_pow (n:=32) h3 h2)⟩
 have h4:(a / 2 ^ r ||| a*2 ^ s)<9223372036854775808:=Nat.or_lt_two_pow (n:=63) (by omega) h1
 rw [B5d (by omega) (by omega)]
 have h5:(a / 2 ^ r ||| a*2 ^ s) % 4294967296=(a*2 ^ s) % 4294967296 ||| a / 2 ^ r:=by
  rw [show (4294967296:Nat)=2 ^ 32 from rfl,Nat.or_mod_two_pow,Nat.mod_eq_of_lt (a:=a / 2 ^ r) (b:=2 ^ 32) h2,Nat.or_comm]
 rw [← h5];omega
theorem B0O {x:Int} (hx:Wd x) (r:Nat) (s:Nat) (hs:s<32) (k:Int) (h1:min (Int.toNat (iand .u64 (IntKind.wrap .u64 k) (31:Int))) (IntKind.bits .u32)=s) (h2:min (Int.toNat (IntKind.wrap .u64 ((32:Int) - (iand .u64 (IntKind.wrap .u64 k) (31:Int))))) (IntKind.bits .u32)=r)
  (h3:min (Int.toNat (IntKind.wrap .u64 (r:Int))) (IntKind.bits .i64)=r) (h4:min (Int.toNat (IntKind.wrap .u64 (wI ((32:Int) - (r:Int))))) (IntKind.bits .i64)=s) :
  I5 x k=J0 x (r:Int)∧Wd (I5 x k):=by
 simp only [I5,J0,h1,h2,h3,h4]
 exact C3M hx r s hs
theorem C6v {x:Int} (hx:Wd x):I5 x (-7)=J0 x 7∧Wd (I5 x (-7)):=B0O hx 7 25 (by decide) (-7) (by decide) (by decide) (by decide) (by decide)
theorem C5A {x:Int} (hx:Wd x):I5 x (-18)=J0 x 18∧Wd (I5 x (-18)):=B0O hx 18 14 (by decide) (-18) (by decide) (by decide) (by decide) (by decide)
theorem C5z {x:Int} (hx:Wd x):I5 x (-17)=J0 x 17∧Wd (I5 x (-17)):=B0O hx 17 15 (by decide) (-17) (by decide) (by decide) (by decide) (by decide)
theorem C5B {x:Int} (hx:Wd x):I5 x (-19)=J0 x 19∧Wd (I5 x (-19)):=B0O hx 19 13 (by decide) (-19) (by decide) (by decide) (by decide) (by decide)
theorem C6c {x y:Nat} (hx:x<4294967296) (hy:y<4294967296):ixor .u32 (x:Int) (y:Int)=((x ^^^ y:Nat):Int):=by
 unfold ixor
 rw [BitVec.toNat_xor,show IntKind.bits .u32=32 from rfl,bvn (k:=32) hx,bvn (k:=32) hy]
 exact C2p (Nat.xor_lt_two_pow (n:=32) hx hy)
theorem C6d {x y:Nat} (hx:x<9223372036854775808) (hy:y<9223372036854775808):ixor .i64 (x:Int) (y:Int)=((x ^^^ y:Nat):Int):=by
 unfold ixor
 rw [BitVec.toNat_xor,show IntKind.bits .i64=64 from rfl,bvn (k:=64) (by omega),bvn (k:=64) (by omega)]
 exact C1A (Nat.xor_lt_two_pow (n:=63) hx hy)
theorem B6S {x y:Int} (hx:Wd x) (hy:Wd y):ixor .u32 x y=ixor .i64 x y∧Wd (ixor .u32 x y):=by
 obtain ⟨a,rfl,ha⟩:=hx.nat
 obtain ⟨b,rfl,hb⟩:=hy.nat
 rw [C6c ha hb,C6d (by omega) (by omega)]
 exact ⟨rfl,C1e (Nat.xor_lt_two_pow (n:=32) ha hb)⟩
theorem C5E {x:Int} (hx:Wd x) (k:Nat):Wd (Int.fdiv x (2 ^ k)):=by
 obtain ⟨a,rfl,ha⟩:=hx.nat
 have:((2:Int) ^ k)=((2 ^ k:Nat):Int):=by push_cast;rfl
 rw [this,← Int.ofNat_fdiv a (2 ^ k)]
 exact C1e (Nat.lt_of_le_of_lt (Nat.div_le_self _ _) ha)
theorem C6x {a b c d:Int} (ha:Wd a) (hb:Wd b) (hc:Wd c) (hd:Wd d):IntKind.wrap .u32 (IntKind.wrap .u32 (IntKind.wrap .u32 (a+b)+c)+d)=iand .i64 (wI (wI (wI (a+b)+c)+d)) (4294967295:Int):=by
 obtain ⟨a0,a1⟩:=ha
 obtain ⟨b0,b1⟩:=hb
 obtain ⟨c0,c1⟩:=hc
 obtain ⟨d0,d1⟩:=hd
 rw [A7v (n:=a+b) (by omega) (by omega),A7v (n:=a+b+c) (by omega) (by omega),A7v (n:=a+b+c+d) (by omega) (by omega),B5d (by omega) (by omega),w32,w32,w32]
 omega
theorem C3R (n:Int):Wd (IntKind.wrap .u32 n):=by rw [w32];exact ⟨Int.emod_nonneg _ (by decide),Int.emod_lt_of_pos _ (by decide)⟩
theorem B3o {l m:List Int} {i:Nat} (h:i<l.length):(l++m).getD i 0=l.getD i 0:=by
 rw [List.getD_eq_getElem?_getD,List.getElem?_append_left h,List.getD_eq_getElem?_getD]
theorem qturn (x k:Int):I8 x k=true:=by
 simp only [I8,Bool.and_eq_true,decide_eq_true_eq]
 exact ⟨A9F _,A9F _⟩
theorem C0G (ws:List Int) (hl:ws.length=16) (hw:AllW ws):(N9 16 ws).1=0∧(Q3 16 (ws++List.replicate 48 0)).2=(N9 16 ws).2∧(N9 16 ws).2.length=64∧AllW (N9 16 ws).2:=by
 refine A7J (v:=((16:Int),ws++List.replicate 48 (0:Int))) (w:=((16:Int),ws))
  (fun (v:T9) (w:A8c)=>v.1=w.1∧(16≤v.1∧v.1≤64)∧v.1=(w.2.length:Int)∧v.2=w.2++List.replicate (64 - w.2.length) 0∧AllW w.2)
  (fun (a:T5) (b:Y3)=>b.1=0∧a.2=b.2∧b.2.length=64∧AllW b.2) (fun v=>(64 - v.1).toNat) ?_ ⟨rfl,⟨by simp only;omega,by simp only;omega⟩,by simp only;omega,by simp only [hl],hw⟩ (by simp only;decide)
 rintro ⟨i,l⟩ ⟨j,ws⟩ ⟨h3,h4,h5,h6,h7⟩
 simp only at h3 h4 h5 h6 h7
 subst h3
 by_cases hi:i<64
 ·obtain ⟨n,rfl⟩:∃ n:Nat,i=(n:Int):=⟨ws.length,h5⟩
  have hn:n=ws.length:=by omega
  have x1:=h7.at (n - 15)
  have x2:=h7.at (n - 2)
  have x3:=h7.at (n - 16)
  have x4:=h7.at (n - 7)
  obtain ⟨r1,r1w⟩:=C6v x1
  obtain ⟨r2,r2w⟩:=C5A x1
  obtain ⟨r3,r3w⟩:=C5z x2
  obtain ⟨r4,r4w⟩:=C5B x2
  obtain ⟨s1,s1w⟩:=B6S r1w r2w
  obtain ⟨s2,s2w⟩:=B6S s1w (C5E x1 3)
  obtain ⟨t1,t1w⟩:=B6S r3w r4w
  obtain ⟨t2,t2w⟩:=B6S t1w (C5E x2 10)
  have e:=C6x x3 s2w x4 t2w
  have ew:=C3R (IntKind.wrap .u32 (IntKind.wrap .u32 (ws.getD (n - 16) 0+ixor .u32 (ixor .u32 (I5 (ws.getD (n - 15) 0) (-7)) (I5 (ws.getD (n - 15) 0) (-18))) (Int.fdiv (ws.getD (n - 15) 0) (2 ^ 3)))+ws.getD (n - 7) 0)+ixor .u32 (ixor .u32 (I5 (ws.getD (n - 2) 0) (-17)) (I5 (ws.getD (n - 2) 0) (-19))) (Int.fdiv (ws.getD (n - 2) 0) (2 ^ 10)))
  refine .inl ⟨((n:Int)+1,(ws++[_])++List.replicate (64 - ws.length - 1) 0),((n:Int)+1,ws++[_]),?_,?_,⟨rfl,by simp only;omega,by simp only [List.length_append,List.length_singleton];omega,by simp only [List.length_append,List.length_singleton];rw [Nat.sub_sub],h7.snoc ew⟩,by simp only;omega⟩
  ·simp only [Q6,U5 ((n:Int) - 15) (by omega) (by omega),U5 ((n:Int) - 2) (by omega) (by omega),U5 ((n:Int) - 16) (by omega) (by omega),U5 ((n:Int) - 7) (by omega) (by omega),U5 ((n:Int)+1) (by omega) (by omega),decide_eq_true hi,cond_true,B0p,B0q,B0r,B0s]
   have hll:l.length=64:=by rw [h6];simp only [List.length_append,List.length_replicate];omega
   rw [decide_eq_true (by omega),decide_eq_true (by omega),decide_eq_true (by omega),decide_eq_true (by omega),decide_eq_true (by omega)]
   simp only [cond_true]
   rw [h6,show ((n:Int)).toNat=ws.length by omega,C0C _ (by omega)]
   rw [show ((n:Int) - 15).toNat=n - 15 by omega,show ((n:Int) - 2).toNat=n - 2 by omega,show ((n:Int) - 16).toNat=n - 16 by omega,show ((n:Int) - 7).toNat=n - 7 by omega]
   rw [B3o (i:=n - 15) (by omega),B3o (i:=n - 2) (by omega),B3o (i:=n - 16) (by omega),B3o (i:=n - 7) (by omega)]
  ·simp only [A8O,U5 ((n:Int) - 15) (by omega) (by omega),U5 ((n:Int) - 2) (by omega) (by omega),U5 ((n:Int) - 16) (by omega) (by omega),U5 ((n:Int) - 7) (by omega) (by omega),U5 ((n:Int)+1) (by omega) (by omega),decide_eq_true hi,cond_true,qturn,List.length_singleton]
   rw [decide_eq_true (by omega),decide_eq_true (by omega),decide_eq_true (by omega),decide_eq_true (by omega),decide_eq_true (by simp only [MAXB];omega)]
   simp only [cond_true]
   rw [show ((n:Int) - 15).toNat=n - 15 by omega,show ((n:Int) - 2).toNat=n - 2 by omega,show ((n:Int) - 16).toNat=n - 16 by omega,show ((n:Int) - 7).toNat=n - 7 by omega]
   rw [e,s2,s1,t2,t1,r1,r2,r3,r4]
 ·have hl:ws.length=64:=by omega
  refine .inr ⟨(0,l),(0,ws),?_,?_,rfl,?_,hl,h7⟩
  ·simp only [Q6,decide_eq_false hi,cond_false]
  ·simp only [A8O,decide_eq_false hi,cond_false]
  ·simp only [h6,hl,Nat.sub_self,List.replicate_zero,List.append_nil]
theorem B8v (c:List Int) (hc:c.length=64) (hb:AllB c):A98 c=L2 c∧A0m c=true∧(L2 c).length=64∧AllW (L2 c):=by
 obtain ⟨a1,a2,a3,a4⟩:=C0F c hc hb
 obtain ⟨b1,b2,b3,b4⟩:=C0G _ a3 a4
 refine ⟨?_,?_,b3,b4⟩
 ·simp only [A98,a2,b2];rfl
 ·simp only [A0m,a1,b1];rfl
theorem eight {v:List Int} (h:v.length=8):∃ a b c d e f g i,v=[a,b,c,d,e,f,g,i]:=by
 match v,h with
 | [a,b,c,d,e,f,g,i],_=>exact ⟨a,b,c,d,e,f,g,i,rfl⟩
theorem C6u {x:Int} (hx:Wd x):I5 x (-6)=J0 x 6∧Wd (I5 x (-6)):=B0O hx 6 26 (by decide) (-6) (by decide) (by decide) (by decide) (by decide)
theorem C5x {x:Int} (hx:Wd x):I5 x (-11)=J0 x 11∧Wd (I5 x (-11)):=B0O hx 11 21 (by decide) (-11) (by decide) (by decide) (by decide) (by decide)
theorem C5D {x:Int} (hx:Wd x):I5 x (-25)=J0 x 25∧Wd (I5 x (-25)):=B0O hx 25 7 (by decide) (-25) (by decide) (by decide) (by decide) (by decide)
theorem C44 {x y:Nat} (hx:x<4294967296) (hy:y<4294967296):iand .u32 (x:Int) (y:Int)=((x &&& y:Nat):Int):=by
 unfold iand
 rw [BitVec.toNat_and,show IntKind.bits .u32=32 from rfl,bvn (k:=32) hx,bvn (k:=32) hy]
 exact C2p (Nat.and_lt_two_pow (n:=32) x hy)
theorem C2y {x y:Int} (hx:Wd x) (hy:Wd y):iand .u32 x y=iand .i64 x y∧Wd (iand .u32 x y):=by
 obtain ⟨a,rfl,ha⟩:=hx.nat
 obtain ⟨b,rfl,hb⟩:=hy.nat
 rw [C44 ha hb,C3T (by omega) (by omega)]
 exact ⟨rfl,C1e (Nat.and_lt_two_pow (n:=32) a hb)⟩
theorem C6t {x:Int} (hx:Wd x):I5 x (-2)=J0 x 2∧Wd (I5 x (-2)):=B0O hx 2 30 (by decide) (-2) (by decide) (by decide) (by decide) (by decide)
theorem C5y {x:Int} (hx:Wd x):I5 x (-13)=J0 x 13∧Wd (I5 x (-13)):=B0O hx 13 19 (by decide) (-13) (by decide) (by decide) (by decide) (by decide)
theorem C5C {x:Int} (hx:Wd x):I5 x (-22)=J0 x 22∧Wd (I5 x (-22)):=B0O hx 22 10 (by decide) (-22) (by decide) (by decide) (by decide) (by decide)
noncomputable def T32 (a b c d e:Int):Int:=IntKind.wrap .u32 (IntKind.wrap .u32 (IntKind.wrap .u32 (IntKind.wrap .u32 (a+b)+c)+d)+e)
noncomputable def T64 (a b c d e:Int):Int:=wI (wI (wI (wI (a+b)+c)+d)+e)
theorem C43 {a b c d e:Int} (ha:Wd a) (hb:Wd b) (hc:Wd c) (hd:Wd d) (he:Wd e):T64 a b c d e=a+b+c+d+e∧T32 a b c d e=(a+b+c+d+e) % 4294967296:=by
 obtain ⟨a0,a1⟩:=ha
 obtain ⟨b0,b1⟩:=hb
 obtain ⟨c0,c1⟩:=hc
 obtain ⟨d0,d1⟩:=hd
 obtain ⟨e0,e1⟩:=he
 simp only [T64,T32]
 rw [A7v (n:=a+b) (by omega) (by omega),A7v (n:=a+b+c) (by omega) (by omega),A7v (n:=a+b+c+d) (by omega) (by omega),A7v (n:=a+b+c+d+e) (by omega) (by omega),w32,w32,w32,w32]
 exact ⟨rfl,by omega⟩
theorem C6y {a b c d e s m:Int} (ha:Wd a) (hb:Wd b) (hc:Wd c) (hd:Wd d) (he:Wd e) (hs:Wd s) (hm:Wd m):IntKind.wrap .u32 (IntKind.wrap .u32 (T32 a b c d e+s)+m)=iand .i64 (wI (T64 a b c d e+wI (s+m))) (4294967295:Int):=by
 obtain ⟨t1,t2⟩:=C43 ha hb hc hd he
 rw [t1,t2]
 obtain ⟨a0,a1⟩:=ha
 obtain ⟨b0,b1⟩:=hb
 obtain ⟨c0,c1⟩:=hc
 obtain ⟨d0,d1⟩:=hd
 obtain ⟨e0,e1⟩:=he
 obtain ⟨s0,s1⟩:=hs
 obtain ⟨m0,m1⟩:=hm
 rw [A7v (n:=s+m) (by omega) (by omega),A7v (by omega) (by omega),B5d (by omega) (by omega),w32,w32]
 omega
theorem C6z {a b c d e v:Int} (ha:Wd a) (hb:Wd b) (hc:Wd c) (hd:Wd d) (he:Wd e) (hv:Wd v):IntKind.wrap .u32 (v+T32 a b c d e)=iand .i64 (wI (v+T64 a b c d e)) (4294967295:Int):=by
 obtain ⟨t1,t2⟩:=C43 ha hb hc hd he
 rw [t1,t2]
 obtain ⟨a0,a1⟩:=ha
 obtain ⟨b0,b1⟩:=hb
 obtain ⟨c0,c1⟩:=hc
 obtain ⟨d0,d1⟩:=hd
 obtain ⟨e0,e1⟩:=he
 obtain ⟨v0,v1⟩:=hv
 rw [A7v (by omega) (by omega),B5d (by omega) (by omega),w32]
 omega
theorem C1d (h k ws v:List Int) (hk:k.length=64) (hkW:AllW k) (hw:ws.length=64) (hwW:AllW ws) (hv:v.length=8) (hvW:AllW v):(J9 h k ws 0 v).1=0∧(J9 h k ws 0 v).2.1=h∧(J4 0 h k ws v).2.2.2=(J9 h k ws 0 v).2.2∧(J9 h k ws 0 v).2.2.length=8∧AllW (J9 h k ws 0 v).2.2:=by
 refine A7J (v:=((0:Int),h,k,ws,v)) (w:=(h,k,ws,(0:Int),v))
  (fun (x:O6) (y:A79)=>x.1=y.2.2.2.1∧(0≤x.1∧x.1≤64)∧x.2.1=h∧x.2.2.1=k∧x.2.2.2.1=ws∧y.1=h∧y.2.1=k∧y.2.2.1=ws∧x.2.2.2.2=y.2.2.2.2∧x.2.2.2.2.length=8∧AllW x.2.2.2.2)
  (fun (a:O2) (b:Y0)=>b.1=0∧b.2.1=h∧a.2.2.2=b.2.2∧b.2.2.length=8∧AllW b.2.2) (fun x=>(64 - x.1).toNat) ?_ ⟨rfl,⟨by simp only;omega,by simp only;omega⟩,rfl,rfl,rfl,rfl,rfl,rfl,rfl,hv,hvW⟩ (by simp only;decide)
 rintro ⟨i,h1,k1,w1,v1⟩ ⟨h2,k2,w2,j,v2⟩ ⟨e1,e2,e3,e4,e5,e6,e7,e8,e9,e10,e11⟩
 simp only at e1 e2 e3 e4 e5 e6 e7 e8 e9 e10 e11
 subst e1;subst e3;subst e4;subst e5;subst e6;subst e7;subst e8;subst e9
 by_cases hi:i<64
 ·obtain ⟨v0,va,vb,vc,v4,v5,v6,v7,rfl⟩:=eight e10
  have W0:Wd v0:=e11 _ (by simp)
  have Wa:Wd va:=e11 _ (by simp)
  have Wb:Wd vb:=e11 _ (by simp)
  have Wc:Wd vc:=e11 _ (by simp)
  have W4:Wd v4:=e11 _ (by simp)
  have W5:Wd v5:=e11 _ (by simp)
  have W6:Wd v6:=e11 _ (by simp)
  have W7:Wd v7:=e11 _ (by simp)
  have Wk:=hkW.at i.toNat
  have Ww:=hwW.at i.toNat
  obtain ⟨r1,r1w⟩:=C6u W4
  obtain ⟨r2,r2w⟩:=C5x W4
  obtain ⟨r3,r3w⟩:=C5D W4
  obtain ⟨s1,s1w⟩:=B6S r1w r2w
  obtain ⟨s2,s2w⟩:=B6S s1w r3w
  obtain ⟨c1,c1w⟩:=C2y W4 W5
  obtain ⟨c2,c2w⟩:=B6S (show Wd 4294967295 from ⟨by decide,by decide⟩) W4
  obtain ⟨c3,c3w⟩:=C2y c2w W6
  obtain ⟨c4,c4w⟩:=B6S c1w c3w
  obtain ⟨q1,q1w⟩:=C6t W0
  obtain ⟨q2,q2w⟩:=C5y W0
  obtain ⟨q3,q3w⟩:=C5C W0
  obtain ⟨p1,p1w⟩:=B6S q1w q2w
  obtain ⟨p2,p2w⟩:=B6S p1w q3w
  obtain ⟨m1,m1w⟩:=C2y W0 Wa
  obtain ⟨m2,m2w⟩:=C2y W0 Wb
  obtain ⟨m3,m3w⟩:=C2y Wa Wb
  obtain ⟨m4,m4w⟩:=B6S m1w m2w
  obtain ⟨m5,m5w⟩:=B6S m4w m3w
  have eA:=C6y W7 s2w c4w Wk Ww p2w m5w
  have eE:=C6z W7 s2w c4w Wk Ww Wc
  have wA:=C3R (IntKind.wrap .u32 (T32 v7 (ixor .u32 (ixor .u32 (I5 v4 (-6)) (I5 v4 (-11))) (I5 v4 (-25))) (ixor .u32 (iand .u32 v4 v5) (iand .u32 (ixor .u32 4294967295 v4) v6)) (k2.getD i.toNat 0) (w2.getD i.toNat 0)+ixor .u32 (ixor .u32 (I5 v0 (-2)) (I5 v0 (-13))) (I5 v0 (-22)))+ixor .u32 (ixor .u32 (iand .u32 v0 va) (iand .u32 v0 vb)) (iand .u32 va vb))
  have wE:=C3R (vc+T32 v7 (ixor .u32 (ixor .u32 (I5 v4 (-6)) (I5 v4 (-11))) (I5 v4 (-25))) (ixor .u32 (iand .u32 v4 v5) (iand .u32 (ixor .u32 4294967295 v4) v6)) (k2.getD i.toNat 0) (w2.getD i.toNat 0))
  obtain ⟨nA,hnA,wA⟩:∃ n,n=_∧Wd n:=⟨_,rfl,wA⟩
  obtain ⟨nE,hnE,wE⟩:∃ n,n=_∧Wd n:=⟨_,rfl,wE⟩
  refine .inl ⟨(i+1,h2,k2,w2,[nA,v0,va,vb,nE,v4,v5,v6]),(h2,k2,w2,i+1,[nA,v0,va,vb,nE,v4,v5,v6]),?_,?_,⟨rfl,by simp only;omega,rfl,rfl,rfl,rfl,rfl,rfl,rfl,rfl,?_⟩,by simp only;omega⟩
  rotate_left 2
  ·intro x hx
   simp only [List.mem_cons,List.not_mem_nil,or_false] at hx
   rcases hx with rfl | rfl | rfl | rfl | rfl | rfl | rfl | rfl
   ·exact wA
   ·exact W0
   ·exact Wa
   ·exact Wb
   ·exact wE
   ·exact W4
   ·exact W5
   ·exact W6
  ·simp only [N0,U5 (i+1) (by omega) (by omega),decide_eq_true hi,cond_true,hk,hw]
   rw [show decide (0≤i∧i<((64:Nat):Int)∧i<((64:Nat):Int))=true from decide_eq_true (by omega)]
   rw [hnA,hnE]
   rfl
  ·simp only [A8L,U5 (i+1) (by omega) (by omega),decide_eq_true hi,cond_true,qturn,hk,hw]
   rw [show decide (0≤i∧i<((64:Nat):Int))=true from decide_eq_true (by omega)]
   rw [hnA,hnE,eA,eE,s2,s1,r1,r2,r3,c4,c3,c2,c1,p2,p1,q1,q2,q3,m5,m4,m3,m2,m1]
   rfl
 ·refine .inr ⟨(0,h2,k2,v1),(0,h2,v1),?_,?_,rfl,rfl,rfl,e10,e11⟩
  ·simp only [N0,decide_eq_false hi,cond_false]
  ·simp only [A8L,decide_eq_false hi,cond_false]
theorem C3N:AllW irounds:=by
 intro x hx
 have:irounds.all (fun x=>decide (0≤x∧x<4294967296))=true:=by decide
 exact of_decide_eq_true (p:=0≤x∧x<4294967296) (List.all_eq_true.1 this x hx)
theorem B8L {l:List Int} {i j:Nat} {x:Int} (hi:i<l.length):(l.set i x).getD j 0=if j=i then x else l.getD j 0:=by
 rw [List.getD_eq_getElem?_getD,List.getElem?_set,List.getD_eq_getElem?_getD]
 by_cases h:i=j
 ·subst h;simp [hi]
 ·rw [if_neg h,if_neg (fun e=>h e.symm)]
theorem C3F (h k v:List Int) (hh:h.length=8) (hv:v.length=8):(K3 0 h k v).2.1.length=8∧∀ j,j<8→(K3 0 h k v).2.1.getD j 0=IntKind.wrap .u32 (h.getD j 0+v.getD j 0):=by
 refine A7I (v:=((0:Int),h,k,v)) (fun x:O7=>(0≤x.1∧x.1≤8)∧x.2.1.length=8∧x.2.2.2=v∧∀ j:Nat,j<8→x.2.1.getD j 0=if (j:Int)<x.1 then IntKind.wrap .u32 (h.getD j 0+v.getD j 0) else h.getD j 0)
  (fun a:O3=>a.2.1.length=8∧∀ j,j<8→a.2.1.getD j 0=IntKind.wrap .u32 (h.getD j 0+v.getD j 0)) (fun x=>(8 - x.1).toNat) ?_ ⟨⟨by simp only;omega,by simp only;omega⟩,hh,rfl,fun j hj=>by rw [if_neg (by simp only;omega)]⟩ (by simp only;decide)
 rintro ⟨i,h', k', v'⟩ ⟨h2,h3,h4,h6⟩
 simp only at h2 h3 h4 h6
 subst h4
 by_cases hi:i<8
 ·refine .inl ⟨(i+1,h'.set i.toNat (IntKind.wrap .u32 (h'.getD i.toNat 0+v'.getD i.toNat 0)),k', v'),?_,⟨by simp only;omega,by simp only [List.length_set];exact h3,rfl,fun j hj=>?_⟩,by simp only;omega⟩
  ·simp only [N2,U5 (i+1) (by omega) (by omega),decide_eq_true hi,cond_true,hv,h3]
   rw [show decide (0≤i∧i<((8:Nat):Int)∧i<((8:Nat):Int))=true from decide_eq_true (by omega)]
   rfl
  ·simp only
   rw [B8L (by omega)]
   by_cases e:j=i.toNat
   ·rw [if_pos e,if_pos (by omega),← e,h6 j hj,if_neg (by omega)]
   ·rw [if_neg e,h6 j hj]
    by_cases e2:(j:Int)<i
    ·rw [if_pos e2,if_pos (by omega)]
    ·rw [if_neg e2,if_neg (by omega)]
 ·refine .inr ⟨(0,h', k'),?_,h3,fun j hj=>?_⟩
  ·simp only [N2,decide_eq_false hi,cond_false]
  ·simp only;rw [h6 j hj,if_pos (by omega)]
theorem C3G (h v:List Int) (hh:h.length=8) (hv:v.length=8):(Q4 h 0 v).1=0∧(Q4 h 0 v).2.length=8∧∀ j,j<8→(Q4 h 0 v).2.getD j 0=iand .i64 (wI (v.getD j 0+h.getD j 0)) (4294967295:Int):=by
 refine A7I (v:=(h,(0:Int),v)) (fun x:A8a=>(0≤x.2.1∧x.2.1≤8)∧x.2.2.length=8∧x.1=h∧∀ j:Nat,j<8→x.2.2.getD j 0=if (j:Int)<x.2.1 then iand .i64 (wI (v.getD j 0+h.getD j 0)) (4294967295:Int) else v.getD j 0)
  (fun a:Y1=>a.1=0∧a.2.length=8∧∀ j,j<8→a.2.getD j 0=iand .i64 (wI (v.getD j 0+h.getD j 0)) (4294967295:Int)) (fun x=>(8 - x.2.1).toNat) ?_ ⟨⟨by simp only;omega,by simp only;omega⟩,hv,rfl,fun j hj=>by rw [if_neg (by simp only;omega)]⟩ (by simp only;decide)
 rintro ⟨h', i,v'⟩ ⟨h2,h3,h4,h6⟩
 simp only at h2 h3 h4 h6
 subst h4
 by_cases hi:i<8
 ·refine .inl ⟨(h', i+1,v'.set i.toNat (iand .i64 (wI (v'.getD i.toNat 0+h'.getD i.toNat 0)) (4294967295:Int))),?_,⟨by simp only;omega,by simp only [List.length_set];exact h3,rfl,fun j hj=>?_⟩,by simp only;omega⟩
  ·simp only [A8M,U5 (i+1) (by omega) (by omega),decide_eq_true hi,cond_true,hh,h3]
   rw [show decide (0≤i∧i<((8:Nat):Int))=true from decide_eq_true (by omega)]
   rfl
  ·simp only
   rw [B8L (by omega)]
   by_cases e:j=i.toNat
   ·rw [if_pos e,if_pos (by omega),← e,h6 j hj,if_neg (by omega)]
   ·rw [if_neg e,h6 j hj]
    by_cases e2:(j:Int)<i
    ·rw [if_pos e2,if_pos (by omega)]
    ·rw [if_neg e2,if_neg (by omega)]
 ·refine .inr ⟨(0,v'),?_,rfl,h3,fun j hj=>?_⟩
  ·simp only [A8M,decide_eq_false hi,cond_false]
  ·simp only;rw [h6 j hj,if_pos (by omega)]
theorem C16 {a b:List Int} (ha:a.length=8) (hb:b.length=8) (h:∀ j,j<8→a.getD j 0=b.getD j 0):a=b:=by
 apply List.ext_getElem (by omega)
 intro i h1 h2
 have:=h i (by omega)
 rwa [List.getD_eq_getElem?_getD,List.getElem?_eq_getElem h1,List.getD_eq_getElem?_getD,List.getElem?_eq_getElem h2] at this
theorem C6w {a b:Int} (ha:Wd a) (hb:Wd b):IntKind.wrap .u32 (a+b)=iand .i64 (wI (b+a)) (4294967295:Int):=by
 obtain ⟨a0,a1⟩:=ha
 obtain ⟨b0,b1⟩:=hb
 rw [A7v (by omega) (by omega),B5d (by omega) (by omega),w32]
 omega
theorem B8M (c h:List Int) (hc:c.length=64) (hb:AllB c) (hh:h.length=8) (hW:AllW h):X5 h c B2h=true∧(K5 c h irounds).1=A8l h c B2h∧AllW (A8l h c B2h):=by
 obtain ⟨w1,w2,w3,w4⟩:=B8v c hc hb
 have ev:[h.getD 0 0,h.getD 1 0,h.getD 2 0,h.getD 3 0,h.getD 4 0,h.getD 5 0,h.getD 6 0,h.getD 7 0]=h:=by
  obtain ⟨a,b,c,d,e,f,g,i,rfl⟩:=eight hh
  rfl
 obtain ⟨l1,l2,l3,l4,l5⟩:=C1d h irounds (L2 c) h rfl C3N w3 w4 hh hW
 obtain ⟨t1,t2,t3,t4⟩:=C0E h irounds (L2 c) h rfl w3 hh
 have ek:J6 c h irounds=J4 0 h irounds (L2 c) h:=by simp only [J6,w1,ev]
 obtain ⟨i1,i2⟩:=C3F h (J4 0 h irounds (L2 c) h).2.2.1 (J4 0 h irounds (L2 c) h).2.2.2 hh t4
 have hW2:AllW (J4 0 h irounds (L2 c) h).2.2.2:=by rw [l3];exact l5
 have eks:A0u h c B2h=Q4 h 0 (J9 h irounds (L2 c) 0 h).2.2:=by
  show Q4 ((J9 h irounds (L2 c) (0:Int) (([]:List Int)++h)).2.1) 0 ((J9 h irounds (L2 c) (0:Int) (([]:List Int)++h)).2.2)=_
  rw [List.nil_append,l2]
 obtain ⟨s0,s1,s2⟩:=C3G h (J9 h irounds (L2 c) 0 h).2.2 hh l4
 have e1:(K5 c h irounds).1=A8l h c B2h:=by
  show (K3 0 (J6 c h irounds).2.1 (J6 c h irounds).2.2.1 (J6 c h irounds).2.2.2).2.1=(A0u h c B2h).2
  rw [ek,eks,t2]
  refine C16 i1 s1 (fun j hj=>?_)
  rw [i2 j hj,s2 j hj,← l3]
  exact C6w (hW.at j) (hW2.at j)
 refine ⟨?_,e1,?_⟩
 ·have q1:(J9 h B2h (L2 c) 0 (([]:List Int)++h)).1=0:=l1
  have q2:(A0u h c B2h).1=0:=by rw [eks];exact s0
  simp only [X5,w2,q1,q2,Bool.true_and,beq_self_eq_true,Bool.and_true]
  exact decide_eq_true (by rw [hh];decide)
 ·rw [← e1]
  show AllW (K3 0 (J6 c h irounds).2.1 (J6 c h irounds).2.2.1 (J6 c h irounds).2.2.2).2.1
  rw [ek,t2]
  intro x hx
  obtain ⟨j,hj,rfl⟩:=List.mem_iff_getElem.1 hx
  have:=i2 j (by rw [← i1];exact hj)
  rw [List.getD_eq_getElem?_getD,List.getElem?_eq_getElem hj] at this
  have h9:(K3 0 h (J4 0 h irounds (L2 c) h).2.2.1 (J4 0 h irounds (L2 c) h).2.2.2).2.1[j]=IntKind.wrap .u32 _:=this
  rw [h9];exact C3R _
theorem B7a (p:List Int) (n:Nat):A95 p (n+1)=A8l (A95 p n) ((p.drop (64*n)).take 64) B2h:=by simp [A95,List.range_succ]
theorem AllB.cut {l:List Int} (h:AllB l) (i n:Nat):AllB ((l.drop i).take n):=fun x hx=>h x (List.mem_of_mem_drop (List.mem_of_mem_take hx))
theorem C0a (p:List Int) (hb:AllB p) (m:Nat) (hm:64*m=p.length):∀ n,n≤m→(A95 p n).length=8∧AllW (A95 p n)∧(List.range n).foldl (fun h i=>(K5 ((p.drop (64*i)).take 64) h irounds).1) hinit=A95 p n:=by
 intro n
 induction n with
 | zero=>intro _;exact ⟨rfl,C4c,rfl⟩
 | succ n ih =>
  intro hn
  obtain ⟨h1,h2,h3⟩:=ih (by omega)
  have hc:((p.drop (64*n)).take 64).length=64:=by simp only [List.length_take,List.length_drop];omega
  obtain ⟨q,e,w⟩:=B8M _ (A95 p n) hc (hb.cut _ _) h1 h2
  rw [B7a]
  refine ⟨?_,w,?_⟩
  ·rw [← e];exact (B9O _ _ hc h1).2.1
  ·rw [List.range_succ,List.foldl_append,h3];exact e
theorem C11 (p:List Int) (hb:AllB p) (m:Nat) (hm:64*m=p.length) (hl:p.length≤1000000000100):(A8j p hinit B2h 0).1=0∧(A8j p hinit B2h 0).2=A95 p m:=by
 refine A7I (v:=(p,hinit,B2h,(0:Int))) (fun x:A8X=>x.1=p∧x.2.2.1=B2h∧∃ n:Nat,n≤m∧x.2.2.2=((64*n:Nat):Int)∧x.2.1=A95 p n) (fun a:A0p=>a.1=0∧a.2=A95 p m) (fun x=>(p.length - x.2.2.2).toNat) ?_ ⟨rfl,rfl,0,Nat.zero_le _,rfl,rfl⟩ (by simp only;omega)
 rintro ⟨p', h,k,i⟩ ⟨h1,h2,n,hn,h3,h4⟩
 simp only at h1 h2 h3 h4
 subst h1;subst h2;subst h3;subst h4
 by_cases hi:n<m
 ·have hc:((p'.drop (64*n)).take 64).length=64:=by simp only [List.length_take,List.length_drop];omega
  obtain ⟨f1,f2,_⟩:=C0a p' hb m hm n hn
  obtain ⟨q,e,w⟩:=B8M _ (A95 p' n) hc (hb.cut _ _) f1 f2
  have ew:wI (((64*n:Nat):Int)+64)=((64*(n+1):Nat):Int):=by rw [A7v (by omega) (by omega)];omega
  have ec:(p'.take (64*(n+1))).drop (64*n)=(p'.drop (64*n)).take 64:=by
   rw [List.drop_take];congr 1;omega
  refine .inl ⟨(p', A95 p' (n+1),B2h,((64*(n+1):Nat):Int)),?_,⟨rfl,rfl,n+1,hi,rfl,rfl⟩,by simp only;omega⟩
  simp only [A9z,ew,Int.toNat_natCast,ec,q,cond_true]
  rw [decide_eq_true (by omega),decide_eq_true (by omega),B7a];rfl
 ·obtain rfl:n=m:=by omega
  refine .inr ⟨(0,A95 p' n),?_,rfl,rfl⟩
  simp only [A9z]
  rw [decide_eq_false (by omega)];rfl
theorem B4Y (h:List Int):(M4 h).length=4*h.length:=by
 induction h with
 | nil=>rfl
 | cons x h ih=>simp only [M4,List.flatMap_cons,List.length_append,List.length_cons,List.length_nil] at ih ⊢;omega
theorem B7X (h:List Int) (n:Nat) (hn:n<h.length):M4 (h.take (n+1))=M4 (h.take n)++M4 [h.getD n 0]:=by
 rw [List.take_succ_eq_append_getElem hn,M4,List.flatMap_append,List.getD_eq_getElem?_getD,List.getElem?_eq_getElem hn]
 rfl
theorem C12 (h:List Int) (h8:h.length=8):(U1 h 0 []).1=0∧(U1 h 0 []).2=M4 h:=by
 refine A7I (v:=(h,(0:Int),([]:List Int))) (fun x:A8Y=>x.1=h∧∃ n:Nat,n≤8∧x.2.1=(n:Int)∧x.2.2=M4 (h.take n)) (fun a:A0q=>a.1=0∧a.2=M4 h) (fun x=>(8 - x.2.1).toNat) ?_ ⟨rfl,0,Nat.zero_le _,rfl,by simp [M4]⟩ (by simp only;decide)
 rintro ⟨h', i,l⟩ ⟨h1,n,hn,h3,h4⟩
 simp only at h1 h3 h4
 subst h1;subst h3;subst h4
 by_cases hi:n<8
 ·refine .inl ⟨(h', ((n+1:Nat):Int),M4 (h'.take (n+1))),?_,⟨rfl,n+1,hi,rfl,rfl⟩,by simp only;omega⟩
  simp only [A9A,U5 ((n:Int)+1) (by omega) (by omega),h8,Int.toNat_natCast]
  rw [decide_eq_true (by omega),decide_eq_true (by omega),decide_eq_true (by simp only [B4Y,List.length_take,List.length_cons,List.length_nil,MAXB];omega),B7X _ _ (by omega)]
  rfl
 ·obtain rfl:n=8:=by omega
  refine .inr ⟨(0,M4 (h'.take 8)),?_,rfl,?_⟩
  ·simp only [A9A]
   rw [decide_eq_false (by omega)];rfl
  ·show M4 (h'.take 8)=M4 h'
   rw [List.take_of_length_le (by omega)]
theorem B96 (a:List Int) (ha:a.length≤1000000000000) (hb:AllB a):V4 a=true∧V5 a=true∧Q8 a=M3 a∧(M3 a).size=32:=by
 obtain ⟨p1,p2,p3,p4,p5,p6,p7⟩:=C0o a ha hb
 have hm:64*((L7 a).length / 64)=(L7 a).length:=by omega
 obtain ⟨f1,f2,f3⟩:=C0a (L7 a) p7 _ hm _ (Nat.le_refl _)
 obtain ⟨d1,d2⟩:=C11 (L7 a) p7 _ hm (by omega)
 have ek:A0i a=A8j (L7 a) hinit B2h 0:=rfl
 obtain ⟨e1,e2⟩:=C12 _ f1
 have hI:C3r (L7 a)=A95 (L7 a) ((L7 a).length / 64):=f3
 refine ⟨?_,?_,?_,?_⟩
 ·simp only [V4,p1,p3,Bool.true_and,Bool.and_eq_true,decide_eq_true_eq]
  omega
 ·simp only [V5,p2,ek,d1,d2,e1];rfl
 ·simp only [Q8,p3,hI,M3,ek,d2,e2];rfl
 ·have : (M3 a).size = (M4 (A95 (L7 a) ((L7 a).length / 64))).length := by
   simp only [M3,ek,d2,e2]
   show (((M4 _).map _).toArray).size=_
   simp
  rw [this,B4Y,f1]
theorem C26 {b:List Int} (h:okB b):AllB b:=fun x hx=>by have:=h x hx;omega
theorem C04 {b:List Int} (h:okB b) (hl:b.length≤1000000000000):V5 b=true∧V4 b=true∧Q8 b=M3 b∧(M3 b).size=32∧(B6q b).length=4∧okB (B6q b):=by
 obtain ⟨d1,d2,d3,d4⟩:=B96 b hl (C26 h)
 refine ⟨d2,d1,d3,d4,?_,B7T _⟩
 simp only [B6q,B6E,ByteArray.size_extract,d4];rfl
theorem C1B {p:Prop} {i:Decidable p} (h:p):@decide p i=true:=@decide_eq_true p i h
theorem C1v {k t:Int} {l:Lq1} (ho:L6 l=true):Z2 k t l=true∧B0v k t l=cond (X8 k t l) (B6N k t l) []:=by
 cases h:X8 k t l with
 | false=>simp only [Z2,B0v,A85,ho,h,Bool.not_false,cond_true,cond_false];exact ⟨rfl,trivial⟩
 | true =>
  obtain ⟨a1,a2,a3,a4,a7,a8,a9⟩:=B7N h
  obtain ⟨b1,b2,b3⟩:=B4H h
  obtain ⟨d1,d2,d3,d4,d5,d6⟩:=C04 b1 (by omega)
  have e0:J5 (J5 [] k) t=U8 k++U8 t:=by
   rw [X6,X6,Q9 (by omega) (by omega),Q9 (by omega) (by omega),List.nil_append]
  have e1:∀ n:Nat,n≤410→J5 [] (n:Int)=U8 (n:Int):=fun n hn=>by rw [X6,Q9 (by omega) (by omega),List.nil_append]
  have l0:=X7 [] k
  simp only [List.length_nil] at l0
  have sz:((M3 (K7 k t l)).extract 0 4).size=4:=by rw [ByteArray.size_extract,d4];rfl
  have lb:=R3 ((K7 k t l).length:Int)
  cases hk:(k==1) with
  | true =>
   have hs:=a7 (eq_of_beq hk)
   have oe:A8k l=C0m l:=by
    obtain ⟨c1,_⟩:=A0v hs
    rw [C1u l ho,hs,Q9 (by omega) (by omega)];rfl
   have be:(U8 k++U8 t)++C0m l=K7 k t l:=by simp only [K7,hk,cond_true,List.append_assoc]
   have lq:(U8 k).length+(U8 t).length+(C0m l).length=(K7 k t l).length:=by rw [← be];simp only [List.length_append]
   refine ⟨?_,?_⟩
   ·simp only [Z2,A0j,A85,J7,A8C,ho,h,hk,e0,oe,be,e1 _ b2,d1,d4,Bool.not_true,cond_false,cond_true,lq,Bool.true_and,Int.toNat_zero,List.length_nil,List.length_append]
    rw [show ((4:Int).toNat)=4 from rfl,sz]
    simp only [Bool.and_eq_true,MAXB,d4]
    repeat' first | exact C1B (by omega) | exact trivial | refine And.intro ?_ ?_
   ·simp only [B0v,A0j,h,hk,e0,oe,be,e1 _ b2,Bool.not_true,cond_false,cond_true]
    simp only [B6N,B6q,List.append_assoc];rfl
  | false =>
   have be:U8 k++U8 t=K7 k t l:=by simp only [K7,hk,cond_false,List.append_nil]
   refine ⟨?_,?_⟩
   ·simp only [Z2,A0j,A85,J7,A8C,ho,h,hk,e0,be,e1 _ b2,d1,d4,Bool.not_true,cond_false,cond_true,Bool.true_and,Int.toNat_zero,List.length_nil,List.length_append]
    rw [show ((4:Int).toNat)=4 from rfl,sz]
    simp only [Bool.and_eq_true,MAXB,d4]
    repeat' first | exact C1B (by omega) | exact trivial | refine And.intro ?_ ?_
   ·simp only [B0v,A0j,h,hk,e0,be,e1 _ b2,Bool.not_true,cond_false,cond_true]
    simp only [B6N,B6q,List.append_assoc];rfl
theorem C1b (s:ByteArray) (i:Nat):B1T s i=B1H s i:=by
 have hb:0≤bt s (i:Int)∧bt s (i:Int)<256:=by
  unfold bt
  split
  ·have:=UInt8.toNat_lt s[(i:Int).toNat];omega
  ·simp
 have e:=A7v (n:=bt s (i:Int)) (by omega) (by omega)
 simp only [B1T,B1H,R5,A96,e]
 generalize bt s (i:Int)=c
 by_cases h1:c ≥ 97<;>by_cases h2:c≤122<;>by_cases h3:c ≥ 48<;>by_cases h4:c≤57<;>simp [h1,h2,h3,h4]
theorem C1c (s:ByteArray):B0P s=B0J s:=by
 have e:A46 (B1T s) (s.size - (0:Int).toNat) (0:Int).toNat=A46 (B1H s) (s.size - (0:Int).toNat) (0:Int).toNat:=B60 _ _ (fun j _ _=>C1b s j)
 simp only [B0P,B0J,B6U,A82,R5,e]
 cases A46 (B1H s) (s.size - (0:Int).toNat) (0:Int).toNat<;>cases decide ((s.size:Int) ≥ 1)<;>cases decide ((s.size:Int)≤12)<;>rfl
theorem C2d (k:Int) (s v:ByteArray):B5N k s v=B7r k s v:=by
 simp only [B5N,B7r,C1c,C36,R5]
 cases B0J s with
 | false =>
  by_cases h1:k=1<;>by_cases h2:k=2<;>by_cases h3:k=3<;>by_cases h4:v=⟨#[]⟩<;>by_cases h5:k ≥ 1<;>by_cases h6:k≤3<;>simp [h1,h2,h3,h4,h5,h6]<;>omega
 | true =>
  by_cases h2:k=2
  ·subst h2
   by_cases h4:v=⟨#[]⟩
   ·subst h4;simp [ByteArray.size]
   ·simp [h4]
  ·by_cases h1:k=1
   ·subst h1;simp
   ·by_cases h3:k=3
    ·subst h3;simp
    ·by_cases h5:k ≥ 1<;>by_cases h6:k≤3<;>simp [h1,h2,h3,h5,h6]<;>omega
theorem C2c (l:Lq1) (i:Nat):B1j l i=B6r l i:=by
 simp only [B1j,B6r,C2d]
 rw [← B8Z,Bool.not_not]
theorem C1f (l:Lq1):V7 l=B7q l:=by
 have e:A46 (B1j l) (l.length - (0:Int).toNat) (0:Int).toNat=A46 (B6r l) (l.length - (0:Int).toNat) (0:Int).toNat:=B60 _ _ (fun j _ _=>C2c l j)
 simp only [V7,B7q,e]
 rfl
theorem B7O (k t:Int) (l:Lq1):X8 k t l=B6a k t l:=by
 simp only [X8,B6a,B6s,C1f]
 rw [show A82 t 1 1000000=R5 t 1 1000000 from rfl]
 cases R5 t 1 1000000<;>simp
theorem C1t {l:Lq1} (h:V7 l=true):1≤l.length:=by
 simp only [V7] at h
 cases h5:A46 (B1j l) (l.length - (0:Int).toNat) (0:Int).toNat with
 | false=>rw [h5] at h;simp at h
 | true =>
  rw [h5] at h
  simp only [cond_true,R5] at h
  cases h6:decide ((l.length:Int) ≥ 1) with
  | false=>simp [h6] at h
  | true=>have:=of_decide_eq_true h6;omega
theorem C1a {k t:Int} {l:Lq1} (h:X8 k t l=true):A0x k t l=true∧B3p k t l=B6N k t l:=by
 obtain ⟨a1,a2,a3,a4,a7,a8,ho⟩:=B7N h
 obtain ⟨b1,b2,b3⟩:=B4H h
 obtain ⟨d1,d2,d3,d4,d5,d6⟩:=C04 b1 (by omega)
 have e0:L0 t (J8 k)=U8 k++U8 t:=by
  rw [A8s,A97,Q9 (by omega) (by omega),Q9 (by omega) (by omega)]
 have e1:∀ n:Nat,n≤410→J8 (n:Int)=U8 (n:Int):=fun n hn=>by rw [A97,Q9 (by omega) (by omega)]
 have sz:((M3 (K7 k t l)).extract 0 4).size=4:=by rw [ByteArray.size_extract,d4];rfl
 have lb:=R3 ((K7 k t l).length:Int)
 have l0:=B15 k
 have lk:=R3 k
 have lt:=R3 t
 cases hk:(k==1) with
 | true =>
  have hs:=a7 (eq_of_beq hk)
  have hl:=C1t hs
  have hd:decide ((l.length:Int) > 0)=true:=decide_eq_true (by omega)
  have oe:B1I l (U8 k++U8 t)=K7 k t l:=by
   obtain ⟨c1,_⟩:=A0v hs
   rw [C09 l _ ho,Q9 (by omega) (by omega)]
   simp only [K7,hk,cond_true,List.append_assoc,C0m]
  refine ⟨?_,?_⟩
  ·simp only [A0x,K2,A9I,hd,ho,e0,oe,e1 _ b2,d2,d3,d4,cond_true,Bool.true_and,Int.toNat_zero,List.length_append]
   rw [show ((4:Int).toNat)=4 from rfl,sz]
   simp only [Bool.and_eq_true,Bool.and_true,MAXB,d4]
   repeat' first | exact C1B (by omega) | exact trivial | refine And.intro ?_ ?_
  ·simp only [B3p,hd,e0,oe,e1 _ b2,d3,cond_true]
   simp only [B6N,B6q,List.append_assoc];rfl
 | false =>
  have hn:=a8 (by rw [beq_eq_false_iff_ne] at hk;exact hk)
  have hd:decide ((l.length:Int) > 0)=false:=decide_eq_false (by rw [hn];simp)
  have be:U8 k++U8 t=K7 k t l:=by simp only [K7,hk,cond_false,List.append_nil]
  refine ⟨?_,?_⟩
  ·simp only [A0x,K2,hd,e0,be,e1 _ b2,d2,d3,d4,cond_false,Bool.true_and,Int.toNat_zero,List.length_append]
   rw [show ((4:Int).toNat)=4 from rfl,sz]
   simp only [Bool.and_eq_true,MAXB,d4]
   repeat' first | exact C1B (by omega) | exact trivial | refine And.intro ?_ ?_
  ·simp only [B3p,hd,e0,be,e1 _ b2,d3,cond_false]
   simp only [B6N,B6q,List.append_assoc];rfl
theorem C08 {k t:Int} {l:Lq1} (ho:L6 l=true):A0w k t l=true∧B0o k t l=cond (X8 k t l) (B6N k t l) []:=by
 cases h:X8 k t l with
 | false=>simp only [A0w,B0o,B0c,ho,← B7O,h,Bool.not_false,cond_true,cond_false];exact ⟨rfl,trivial⟩
 | true =>
  obtain ⟨c1,c2⟩:=C1a h
  simp only [A0w,B0o,B0c,ho,← B7O,h,c1,c2,Bool.not_true,cond_true,cond_false];exact ⟨rfl,trivial⟩
theorem C3L {k t:Int} {l:Lq1} (h:X8 k t l=true):okB (B6N k t l)∧(B6N k t l).length≤419∧5≤(B6N k t l).length:=by
 obtain ⟨a1,a2,a3⟩:=B4H h
 obtain ⟨_,_,_,_,b1,b2⟩:=C04 a1 (by omega)
 have l1:=R3 ((K7 k t l).length:Int)
 refine ⟨(B0t (by omega) (by omega)).app (a1.app b2),?_,?_⟩<;>simp only [B6N,List.length_append]<;>omega
theorem C5u {α:Type} (el:Int→α) (c:Int) (hc:0≤c∧c≤100000) (d:α) (f:Nat→Int×List α→Int×List α)
  (hf:∀ i k (h:List α),i<h.length→0≤k→k≤100000*((i:Int)+100)→h.length≤1048576→f i (k,h)=(k+c,h.set i (el k))) :
  ∀ n i k (h:List α),i+n=h.length→0≤k→k≤100000*((i:Int)+100)→h.length≤1048576 →
   (foldN f n i (k,h)).1=k+c*(n:Int)∧(foldN f n i (k,h)).2.length=h.length∧(∀ j,i≤j→j<h.length→(foldN f n i (k,h)).2.getD j d=el (k+c*((j - i:Nat):Int)))∧∀ j,j<i→(foldN f n i (k,h)).2.getD j d=h.getD j d:=by
 intro n
 induction n with
 | zero=>intro i k h hi h0 h1 h2;exact ⟨by simp [foldN],rfl,fun j hj hl=>by omega,fun j _=>rfl⟩
 | succ n ih =>
  intro i k h hi h0 h1 h2
  simp only [foldN]
  rw [hf i k h (by omega) h0 h1 h2]
  obtain ⟨q1,q2,q3,q4⟩:=ih (i+1) (k+c) (h.set i (el k)) (by simp;omega) (by omega) (by omega) (by simpa using h2)
  refine ⟨?_,by rw [q2];simp,fun j hj hl=>?_,fun j hj=>?_⟩
  ·rw [q1,Int.natCast_add,Int.mul_add];simp;omega
  ·by_cases e:j=i
   ·subst e
    rw [q4 j (by omega)]
    have:j<h.length:=hl
    simp [List.getD_eq_getElem?_getD,this]
   ·rw [q3 j (by omega) (by simpa using hl)]
    congr 1
    have:((j - i:Nat):Int)=((j - (i+1):Nat):Int)+1:=by omega
    rw [this,Int.mul_add];omega
  ·rw [q4 j (by omega)]
   have:i ≠ j:=by omega
   simp [List.getD_eq_getElem?_getD,List.getElem?_set_ne this]
theorem C49 {α:Type} (el:Int→α) (c:Int) (hc:0≤c∧c≤100000) (d:α) (x:List α) (hx:x.length≤1048576) (g:Nat→Int→Int ⊕ Unit)
  (hg:∀ i k,i<x.length→0≤k→k≤100000*((i:Int)+100)→x.getD i d=el k→g i k=.inl (k+c)) :
  ∀ n i k,i+n=x.length→0≤k→k≤100000*((i:Int)+100)→(∀ j,i≤j→j<x.length→x.getD j d=el (k+c*((j - i:Nat):Int)))→loopN g n i k=.inl (k+c*(n:Int)):=by
 intro n
 induction n with
 | zero=>intro i k hi h0 h1 he;simp [loopN]
 | succ n ih =>
  intro i k hi h0 h1 he
  have h2:=he i (Nat.le_refl _) (by omega)
  rw [Nat.sub_self] at h2
  simp only [loopN]
  rw [hg i k (by omega) h0 h1 (by simpa using h2)]
  simp only
  rw [ih (i+1) (k+c) (by omega) (by omega) (by omega) (fun j hj hl=>by
   rw [he j (by omega) hl]
   congr 1
   have:((j - i:Nat):Int)=((j - (i+1):Nat):Int)+1:=by omega
   rw [this,Int.mul_add];omega)]
  rw [Int.natCast_add,Int.mul_add];congr 1;simp;omega
theorem heldmark {α:Type} (el:Int→α) (c:Int) (hc:0≤c∧c≤100000) (d:α) (f:Nat→Int×List α→Int×List α) (g:List α→Nat→Int→Int ⊕ Unit)
  (hf:∀ i k (h:List α),i<h.length→0≤k→k≤100000*((i:Int)+100)→h.length≤1048576→f i (k,h)=(k+c,h.set i (el k)))
  (hg:∀ (x:List α) i k,x.length≤1048576→i<x.length→0≤k→k≤100000*((i:Int)+100)→x.getD i d=el k→g x i k=.inl (k+c)) (h:List α) (hh:h.length≤1048576) (k:Int) (h0:0≤k) (h1:k≤10000000) :
  (foldN f h.length 0 (k,h)).1=k+c*(h.length:Int)∧(foldN f h.length 0 (k,h)).2.length=h.length∧loopN (g (foldN f h.length 0 (k,h)).2) (foldN f h.length 0 (k,h)).2.length 0 k=.inl (k+c*(h.length:Int)):=by
 obtain ⟨q1,q2,q3,_⟩:=C5u el c hc d f hf h.length 0 k h (by omega) h0 (by omega) hh
 refine ⟨q1,q2,?_⟩
 have:=C49 el c hc d (foldN f h.length 0 (k,h)).2 (by rw [q2];exact hh) (g (foldN f h.length 0 (k,h)).2) (fun i k hi=>hg _ i k (by rw [q2];exact hh) hi) (foldN f h.length 0 (k,h)).2.length 0 k (by omega) h0 (by omega) (fun j hj hl=>q3 j hj (by rw [q2] at hl;exact hl))
 rw [this,q2]
theorem C0T (l:List Int) (h:l.length≤1048576):(A0k 1 l).1=1+(l.length:Int)∧(A0k 1 l).2.length=l.length∧A8v (A0k 1 l).2 1=1+(l.length:Int):=by
 obtain ⟨q1,q2,q3⟩:=heldmark (fun k=>IntKind.wrap .u8 k) 1 (by omega) (0:Int) K1 K0 (fun i k h hi h0 h1 h2=>by
  have w1:wI (k+(1:Int))=k+1:=A7v (by omega) (by omega)
  simp only [K1,w1]) (fun x i k hx hi h0 h1 he=>by
  have w1:wI (k+(1:Int))=k+1:=A7v (by omega) (by omega)
  have e:(x.getD i (0:Int) != IntKind.wrap .u8 k)=false:=by rw [he];simp
  simp only [K0,e,cond_false,w1]) l h 1 (by omega) (by omega)
 rw [Int.one_mul] at q1 q3
 have e1:A0k 1 l=foldN K1 l.length 0 (1,l):=rfl
 rw [e1]
 refine ⟨q1,q2,?_⟩
 have e2:∀ x,A8v x 1=cond (A7U (loopN (K0 x) x.length 0 1)) (A7M (-1) (loopN (K0 x) x.length 0 1)) (-1:Int):=fun x=>rfl
 rw [e2,q3];rfl
theorem C0k (l:Lq1) (h:l.length≤1048576):0≤(A83 1 l).1:=by
 have e:A83 1 l=foldN K9 l.length 0 (1,l):=rfl
 rw [e]
 have:=A7x (g:=K9) (fun i b=>0≤b.1∧b.1≤100000*((i:Int)+100)) l.length 0 (1,l) (by simp) (fun j b hj hl hb=>by
  have w1:wI (b.1+(1:Int))=b.1+1:=A7v (by omega) (by omega)
  have w2:wI (b.1+1+(1:Int))=b.1+1+1:=A7v (by omega) (by omega)
  have w3:wI (b.1+1+1+(1:Int))=b.1+1+1+1:=A7v (by omega) (by omega)
  simp only [K9,w1,w2,w3]
  omega)
 exact this.1
theorem C1y (l:Lq1):B9f l=l:=by
 have e:=A71 (fun o:Int×ByteArray×ByteArray=>(B6t o.1 o.2.1 o.2.2)) dOp l l.length 0 (List.replicate l.length dOp) (by simp) (by simp)
 simp only [List.take_zero,List.nil_append,List.drop_zero] at e
 have e2:l.map (fun o:Int×ByteArray×ByteArray=>(B6t o.1 o.2.1 o.2.2))=l:=by
  rw [show (fun o:Int×ByteArray×ByteArray=>(B6t o.1 o.2.1 o.2.2))=id from funext fun _=>rfl,List.map_id]
 rw [e2] at e
 exact e
theorem C1z (k t:Int) (l:Lq1):B1K k t l=(k,t,l):=by simp only [B1K,C1y]
theorem B86 (l:List Int):B5a l l=true:=by
 have e:((l.length:Int) != (l.length:Int))=false:=by simp
 simp only [B5a,e,cond_false]
 rw [B8w]
 ·rfl
 ·intro j _ _;simp [Y7]
theorem C17 (k:Int) (s v:ByteArray):B8H k s v k s v=true:=by simp [B8H]
theorem C05 (l:Lq1):B7s l l=true:=by
 have e:A46 (A0h l l) (l.length - (0:Int).toNat) (0:Int).toNat=true:=B8w _ _ (fun j _ _=>by simp [A0h,C17])
 simp only [B7s,e,cond_true]
 simp
theorem C06 (k t:Int) (l:Lq1):B9e k t l k t l=true:=by simp [B9e,C05]
theorem B5r {k t:Int} {l:Lq1} (hb:A9W l=true):O0 k t l=true∧R1 k t l=true:=by
 have q0:B0d k t l 1048576=true:=by simp [B0d,C0S hb]
 cases h:decide (B4u k t l 1048576<0) with
 | true=>simp only [O0,R1,q0,h,cond_true];exact ⟨rfl,trivial⟩
 | false =>
  have ho:=C1x k t l 1048576 (by decide) (by decide) hb h
  have hL:=C2b ho
  obtain ⟨s1,s2⟩:=C1v (k:=k) (t:=t) ho
  obtain ⟨i1,i2⟩:=C08 (k:=k) (t:=t) ho
  have hp:∃ p:List Int,cond (X8 k t l) (B6N k t l) []=p∧p.length≤1000:=by
   refine ⟨_,rfl,?_⟩
   cases hr:X8 k t l with
   | true=>have:=(C3L hr).2.1;simp only [cond_true];omega
   | false=>simp
  obtain ⟨p,e,hl⟩:=hp
  rw [e] at s2 i2
  obtain ⟨b1,b2,b3⟩:=C0T p (by omega)
  have b4:=C0k l (A7N hL)
  have e1:decide ((A83 1 l).1<0)=false:=decide_eq_false (by omega)
  have e2:decide ((1+(p.length:Int))<0)=false:=decide_eq_false (by omega)
  have c4:okL p=true:=decide_eq_true (by omega)
  have c5:okL (A0k 1 p).2=true:=decide_eq_true (by rw [b2];omega)
  have c9:decide ((0:Int)≤1∧(1:Int)≤10000000)=true:=by decide
  have c7:∀ x:Int,(x != x)=false:=fun x=>by simp
  simp only [O0,R1,V8,V9,W2,q0,h,B1i,C1z,s1,s2,i1,i2,hL,A8y,B1h,A8A,A8z,Z1,Z0,B86,C06,B2K,b1,b3,e1,e2,c4,c5,c7,c9,cond_false,cond_true,Bool.not_true,Bool.and_true,Bool.and_self]
  exact ⟨trivial,trivial⟩
theorem B2g (k t:Int) (l:Lq1) (h:A3k tq4 (k,(t,l))=true):O8 ((k,t,l,()),())=true:=(B5r (B61 h)).1
theorem B2H (k t:Int) (l:Lq1) (h:A3k tq4 (k,(t,l))=true):R1 k t l=true:=(B5r (B61 h)).2

end Go.Proofs.Ytccelbeahdcooaa.Eng
