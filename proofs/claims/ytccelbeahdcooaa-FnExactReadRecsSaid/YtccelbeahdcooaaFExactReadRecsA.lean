/- What the functions that FnExactReadRecs reaches compute, and that it answers true. -/
import Derived.Test.YtccelbeahdcooaaT
import Derived.Test.YtccelbeahdcooaaRows
import Derived.Test.YtccelbeahdcooaaE50
import Derived.RangeFuncBox
import Derived.Shelf.Abstract
import Derived.WalkKit
import Derived.OwnWalkIn
import Derived.TacticsInMore
import Derived.LoopNIn
import Derived.LoopIn
import Derived.RegionIn
namespace Go.Proofs.Ytccelbeahdcooaa.Eng
open Go Go.RowKit
set_option linter.unusedSimpArgs false
set_option linter.unusedVariables false
set_option maxRecDepth 10000
abbrev bE:ByteArray:=⟨#[]⟩
abbrev Lq1:=List (Int×ByteArray×ByteArray)
abbrev tq3:Ty:=.sl (.pair (.int .i64) (.pair .str .str))
abbrev tq4:Ty:=.pair (.int .i64) (.pair (.int .i64) (.sl (.pair (.int .i64) (.pair .str .str))))
abbrev ti:=@AV.t true (.int .i64)
abbrev tI:Sh:=.t true (.int .i64)
abbrev aPG:=Good Try.prog tt
abbrev aPM:=MContract Try.prog
abbrev aPP:=PContract Try.prog
abbrev aPL:=LoopWp Try.prog
abbrev aLn:Nat→St→Option Tree:=fun _ _=>none
theorem aCD{D:Type}{e:Ex}{s:SS}{x:s.den}(h:e ≠ .normal:=by simp):CEnd D (.done e s x):=cendD h
noncomputable def S0:Tab:=fun _=>none
noncomputable def QF0:FuncId→Bool:=fun _=>false
theorem G0:aPG S0 QF0:=Good.start tt_ok (by kernel_rfl)
theorem Runs.ofI2 {D V A:Type} {step:D→RT D} (pk:V→D) {ss:V→V ⊕ A} {ct:A→CT} {fa:A} (h:(∀ v,(step (pk v)).val=relS pk ct (ss v))∧∀ a,CEnd D (ct a)) (hf:(ct fa).val (D:=D)=.fail) (v:V):(ct (itX ss fa v)).val (D:=D)=.fail∨Runs step (pk v) (ct (itX ss fa v)).val:=Runs.ofIt pk hf h.1 h.2 v
theorem O8 {α β:Type} (e:α→β) {c q r:Bool} {X Y:Option β} {a b:α} (hq:cond c q r=true) (hx:q=true→X=some (e a)) (hy:r=true→Y=some (e b)):cond c X Y=some (e (cond c a b)):=cndQ (F:=fun r=>some (e r)) hq hx hy
theorem F9 {α β:Type} (e:α→β) {c:Bool} {X Y:Option β} {a b:α} (hx:c=true→X=some (e a)) (hy:c=false→Y=some (e b)):cond c X Y=some (e (cond c a b)):=cnd (F:=fun r=>some (e r)) hx hy
theorem hlz {L:Nat→St→Option Tree} {b:Nat} {x:Code} (h:loopsIn b x=[]:=by kernel_rfl):∀ p∈loopsIn b x,aPL (L p.1) p.2:=hl0 h
theorem cbl {f : FuncId} (F : Func) (h1 : Try.prog.funcs[f]? = some F := by kernel_rfl) (h2 : (F.name == "runtime.NumGoroutine") = false := by kernel_rfl) (h3 : F.body.isNone = false := by kernel_rfl) : Callable Try.prog f := ⟨F, h1, h2, h3⟩
theorem pcD (ro:Bool) {TB:TT} {S:Tab} {Q:FuncId→Bool} (G:Good Try.prog TB S Q) {f:FuncId} {fn:Func} {L:Nat→St→Option Tree} (hL:∀ p∈loopsIn 0 (bodyOf fn),aPL (L p.1) p.2) {l:List PSh} {pre:pshsDen l→Bool} {g:pshsDen l→AV×List AObj} (h:RunP ro G L fn l pre g) (hf:Try.prog.funcs[f]? = some fn:=by kernel_rfl):aPP f (sumOf l pre g):=PContract.of_data ro G hf hL l pre g h
theorem mcM {TB:TT} {S:Tab} {Q:FuncId→Bool} (G:Good Try.prog TB S Q) {f:FuncId} {fn:Func} {L:Nat→St→Option Tree} (hL:∀ p∈loopsIn 0 (bodyOf fn),aPL (L p.1) p.2) {s:SS} {pre:s.den→Bool} {g:s.den→AV×List AObj×List Nat} (h:RunM G L fn s pre g) (hf:Try.prog.funcs[f]? = some fn:=by kernel_rfl):aPM f (msum s pre g):=MContract.of_data G hf hL s pre g h
theorem B4F:∀ a b:List UInt8,(!(Op.bytesLess a b))=(Op.bytesLess b a||b==a):=by
 intro a
 induction a with
 | nil=>intro b;cases b<;>simp [Op.bytesLess]
 | cons x a ih =>
  intro b
  cases b with
  | nil=>simp [Op.bytesLess]
  | cons y b =>
   simp only [Op.bytesLess]
   by_cases h1:x<y
   ·have h2:¬ y<x:=fun h=>UInt8.lt_irrefl _ (UInt8.lt_trans h1 h)
    have h3:(y==x)=false:=by rw [beq_eq_false_iff_ne];intro h;subst h;exact h2 h1
    have h4:(y::b==x::a)=false:=by rw [List.cons_beq_cons,h3,Bool.false_and]
    simp [h1,h2,h3,h4]
   ·by_cases h5:x=y
    ·subst h5
     have h6:(x::b==x::a)=(b==a):=by rw [List.cons_beq_cons];simp
     have:=ih b
     simp only [h1,decide_false,Bool.false_or,beq_self_eq_true,Bool.true_and,h6,this]
    ·have h7 : y < x := by
      rcases Nat.lt_trichotomy x.toNat y.toNat with h | h | h
      ·exact absurd (UInt8.lt_iff_toNat_lt.2 h) h1
      ·exact absurd (UInt8.toNat_inj.1 h) h5
      ·exact UInt8.lt_iff_toNat_lt.2 h
     have h8:(x==y)=false:=by rw [beq_eq_false_iff_ne];exact h5
     simp [h1,h7,h8]
theorem B18 {p q:Nat→Bool}:∀ k i,(∀ j,i≤j→j<i+k→p j=q j)→allF p k i=allF q k i:=by
 intro k
 induction k with
 | zero=>intro i h;rfl
 | succ k ih=>intro i h;simp only [allF];rw [h i (Nat.le_refl _) (by omega),ih (i+1) (fun j h1 h2=>h j (by omega) (by omega))]
theorem B37 {p:Nat→Bool} (k i:Nat) (h:∀ j,i≤j→j<i+k→p j=true):allF p k i=true:=(allF_true k i).2 h
noncomputable def dOp:Int×ByteArray×ByteArray:=((0:Int),(bE,bE))
noncomputable def B9e (o:Int×ByteArray×ByteArray):Bool:=okS o.2.1&&okS o.2.2
noncomputable def F5 (l:Lq1):Bool:=okL l&&l.all B9e
theorem A62 {l:Lq1} (h:F5 l=true) (i:Nat) (hi:i<l.length):okS (l.getD i dOp).2.1=true∧okS (l.getD i dOp).2.2=true:=by
 simp only [F5,Bool.and_eq_true,List.all_eq_true] at h
 have:=h.2 (l.getD i dOp) (by simp [List.getD_eq_getElem?_getD,hi])
 simpa [B9e] using this
theorem A0F {l:Lq1} (h:F5 l=true):l.length≤1048576:=by
 simp only [F5,Bool.and_eq_true] at h
 exact okL_le h.1
theorem C0g (a b:ByteArray):(a.toList==b.toList)=decide (a=b):=by
 rw [ByteArray.toList_eq,ByteArray.toList_eq]
 by_cases h:a=b
 ·subst h;simp
 ·rw [decide_eq_false h,beq_eq_false_iff_ne]
  intro e
  exact h (by cases a;cases b;simp at e;rw [e])
theorem B8h {l:Lq1} (h:F5 l=true):okL l=true:=by
 simp only [F5,Bool.and_eq_true] at h;exact h.1
noncomputable def hiF (g:Int→Int):Nat→Int→List Int×Int
 | 0,x=>([],x)
 | k+1,x=>cond (decide (x > 127)) (g x::(hiF g k (Int.fdiv x (2 ^ 7))).1,(hiF g k (Int.fdiv x (2 ^ 7))).2) ([],x)
theorem B1Y (x:Int):Int.fdiv x (2 ^ 7)=x / 128:=by
 rw [show (2:Int) ^ 7=128 from rfl,Int.fdiv_eq_ediv_of_nonneg _ (by decide)]
theorem B9G (g:Int→Int) (k:Nat):∀ x:Int,(hiF g k x).1.length≤k:=by
 induction k with
 | zero=>intro x;simp [hiF]
 | succ k ih =>
  intro x
  simp only [hiF]
  cases decide (x > 127) with
  | true=>simp;exact ih _
  | false=>simp
noncomputable def A9O (x:Int):Int:=IntKind.wrap .u8 (ior .i64 (iand .i64 x (127:Int)) (128:Int))
noncomputable def V8 (x:Int):Int:=IntKind.wrap .u8 (ior .i64 (128:Int) (iand .i64 x (127:Int)))
theorem B8d:V8=A9O:=by
 funext x
 simp only [A9O,V8, ior]
 rw [BitVec.or_comm]
theorem C0c:∃ f:Int→List Int×Int,∀ x,f x=hiF A9O 4 x:=⟨_,fun _=>rfl⟩
noncomputable def nX:Int→List Int×Int:=Classical.choose C0c
theorem B9b (x:Int):nX x=hiF A9O 4 x:=Classical.choose_spec C0c x
theorem B9c (x:Int):nX x=hiF V8 4 x:=by rw [B8d];exact B9b x
theorem B2H (x:Int):(nX x).1.length≤4:=by rw [B9b];exact B9G A9O 4 x
noncomputable def A8 (x:Int):List Int:=(nX x).1++[IntKind.wrap .u8 (nX x).2]
theorem P5 (x:Int):(A8 x).length≤5:=by
 have:=B2H x
 simp [A8];omega
noncomputable def A00 (n:Int):Int:=if n > 1000000000 then 1000000000 else if n<0 then 0 else n
noncomputable def I4 (s:ByteArray):List Int:=A8 (s.size:Int)++strInts s
noncomputable def opB (o:Int×ByteArray×ByteArray):List Int:=A8 (A00 o.1)++(I4 o.2.1++I4 o.2.2)
theorem A0C {n:Int} (h0:0≤n) (h1:n≤1000000000):A00 n=n:=by simp only [A00];split<;>(try split)<;>omega
theorem A33 (s:ByteArray):(strInts s).length=s.size:=by rw [strInts,List.length_map,Array.length_toList];rfl
theorem B1j (s:ByteArray):(I4 s).length≤5+s.size:=by
 have:=P5 (s.size:Int)
 simp [I4,A33];omega

noncomputable def A2o (x:Int):Int:=if (if (1000000000:Int)<x then (1000000000:Int) else x) > (0:Int) then (if (1000000000:Int)<x then (1000000000:Int) else x) else (0:Int)
theorem B0J (x:Int):A2o x=A00 x:=by
 simp only [A2o,A00]
 split<;>split<;>(try split)<;>omega
theorem B4J (x:Int):0≤A00 x∧A00 x≤1000000000:=by
 simp only [A00]
 split<;>(try split)<;>omega
theorem A2D (x:Int):0≤A2o x∧A2o x≤1000000000:=by rw [B0J];exact B4J x

noncomputable def B4K (x:Int):ByteArray:=(⟨([IntKind.wrap .u8 (IntKind.wrap .i64 ((48:Int)+(Int.tmod x (10:Int))))].map fun n=>UInt8.ofNat n.toNat).toArray⟩:ByteArray)
theorem B0K (x:Int):(B4K x).size=1:=rfl
noncomputable def B0I:Nat→Int→ByteArray→ByteArray
 | 0,_,s=>s
 | k+1,x,s=>cond (decide (x > 0)) (B0I k (IntKind.wrap .i64 (Int.tdiv x (10:Int))) (B4K x++s)) s
theorem B9q:∀ (k:Nat) (x:Int) (s:ByteArray),(B0I k x s).size≤k+s.size:=by
 intro k
 induction k with
 | zero=>intro x s;simp [B0I]
 | succ k ih =>
  intro x s
  simp only [B0I]
  cases decide (x > 0) with
  | true =>
   have:=ih (IntKind.wrap .i64 (Int.tdiv x (10:Int))) (B4K x++s)
   rw [ByteArray.size_append,B0K] at this
   simp only [cond_true];omega
  | false=>simp only [cond_false];omega
theorem B8c {α:Type} (f:α→List Int) (d:α) (l:List α) (g:Nat→List Int→List Int) (hg:∀ i h,i<l.length→g i h=h++f (l.getD i d)):∀ k i h,i+k=l.length→foldN g k i h=h++((l.drop i).map f).flatten:=by
 intro k
 induction k with
 | zero =>
  intro i h hi
  have:l.drop i=[]:=List.drop_eq_nil_of_le (by omega)
  simp [foldN,this]
 | succ k ih =>
  intro i h hi
  have hlt:i<l.length:=by omega
  simp only [foldN]
  rw [ih (i+1) (g i h) (by omega),hg i h hlt,List.append_assoc,show l.drop i=l[i]::l.drop (i+1) from List.drop_eq_getElem_cons hlt,List.map_cons,List.flatten_cons,show l.getD i d=l[i] from by simp [List.getD_eq_getElem?_getD,hlt]]
theorem B9Q (o:Int×ByteArray×ByteArray):(opB o).length≤15+o.2.1.size+o.2.2.size:=by
 have h1:=P5 (A00 o.1)
 have h2:=B1j o.2.1
 have h3:=B1j o.2.2
 simp only [opB,List.length_append];omega
theorem B8S {M:Nat}:∀ l:Lq1,(∀ o∈l,(opB o).length≤M)→(l.map opB).flatten.length≤M*l.length:=by
 intro l
 induction l with
 | nil=>intro _;simp
 | cons o l ih =>
  intro h
  have h1:=h o (by simp)
  have h2:=ih fun x hx=>h x (by simp [hx])
  simp only [List.map_cons,List.flatten_cons,List.length_append,List.length_cons]
  rw [Nat.mul_add];omega
abbrev C6:Ty:=.sl (.int .u8)
abbrev C1S:List Sh:=.junk::.junk::.junk::.junk::.junk::.junk::.junk::.junk::.junk::.junk::.junk::.junk::.junk::.junk::.junk::.junk::.junk::[]
abbrev B4V:List Sh:=.junk::C1S
abbrev u18:=((),(),(),(),(),(),(),(),(),(),(),(),(),(),(),(),(),())
abbrev u23:=((),(),(),(),(),u18)
noncomputable def A2E (x0:List Int) (i:Nat):Int:=(x0.getD i (0:Int))
abbrev A25:List PSh:=[.t C6]
abbrev R3:SS:=⟨(.t false C6::.junk::.junk::.all 0 1::tI::C1S),[.rows 5 true (.int .u8)]⟩
abbrev A2Z:SS:=⟨(.junk::.junk::.junk::.all 0 1::B4V),[.rows 5 true (.int .u8)]⟩
noncomputable def A4y (x0:List Int) (x4:Int) (h0:List Int):RT R3.den:=(.br (decide (x4<(x0.length:Int))) (.br (decide (0≤x4∧x4<(x0.length:Int))) (.br (decide (0≤x4∧x4<(h0.length:Int))) (.next ((x0,(),(),(),IntKind.wrap .i64 (x4+(1:Int)),u18),(h0.set x4.toNat (x0.getD x4.toNat (0:Int)),()))) .fail) .fail) (.done (.exit 0) A2Z ((u23),(h0,()))))
noncomputable def A0T (x0:List Int) (x4:Int) (h0:List Int):CT:=(.br (decide (0≤x4)&&(decide (h0.length=x0.length)&&okL x0)) (.done (.exit 0) A2Z ((u23),((foldN (fun i h=>h.set i (A2E x0 i)) (x0.length - x4.toNat) x4.toNat h0),()))) .fail)
noncomputable abbrev U7:R3.den→RT R3.den:=(fun d=>A4y d.1.1 d.1.2.2.2.2.1 d.2.1)
noncomputable abbrev A8C (x0:List Int) (x4:Int) (h0:List Int):R3.den:=((x0,(),(),(),x4,u18),(h0,()))
noncomputable def A58:Code:=((loopsIn 0 (bodyOf Try.f35)).getD 0 (0,.skip)).2
theorem B4y (x0:List Int) (x4:Int) (h0:List Int):(A0T x0 x4 h0).val (D:=R3.den)=.fail∨Runs U7 (A8C x0 x4 h0) (A0T x0 x4 h0).val:=by
 cases hc:(decide (0≤x4)&&(decide (h0.length=x0.length)&&okL x0)) with
 | false=>left;simp only [A0T,CT.val,hc,cond_false]
 | true =>
  right
  simp only [A0T,CT.val,hc,cond_true]
  simp only [Bool.and_eq_true,decide_eq_true_eq] at hc
  obtain ⟨i,rfl⟩:=Int.eq_ofNat_of_zero_le hc.1
  have hs:=okL_le hc.2.2
  simp only [Int.toNat_natCast]
  refine Runs.foldN (step:=U7) (fun j b=>A8C x0 (j:Int) b) (fun _ b=>b.length=x0.length) (x0.length) (fun i h=>h.set i (A2E x0 i))
   (fin:=fun b=>((.done (.exit 0) A2Z ((u23),(b,()))):CT).val) (fun i b hi hb=>⟨by simpa using hb,?_⟩) (fun i b hi hb=>?_) (x0.length - i) i h0 rfl hc.2.1
  ·
   have h0a:decide ((i:Int)<(x0.length:Int))=true:=decide_eq_true (by omega)
   have h0b:decide (0≤(i:Int)∧(i:Int)<(x0.length:Int))=true:=decide_eq_true (by omega)
   have h9:decide (0≤(i:Int)∧(i:Int)<(b.length:Int))=true:=decide_eq_true (by omega)
   simp only [U7,A4y,RT.val,h0a,h0b,h9,cond_true,wrapS i (by omega),Int.toNat_natCast]
   rfl
  ·have h1:decide ((i:Int)<(x0.length:Int))=false:=decide_eq_false (by omega)
   exact ⟨by simp only [U7,A4y,RT.val,h1,cond_false];rfl,_,_,_,rfl,by simp⟩
theorem B2O:RdA G0 aLn 0 A58 R3 0 [] (kepts [] [(0,[3])]) (fun d=>(U7 d).opt 0 []):=by
 intro d
 kernel_rfl
noncomputable abbrev A7A:St→Option Tree:=R3.say 0 [] [] (fun d=>A0T d.1.1 d.1.2.2.2.2.1 d.2.1)
theorem B3t:aPL A7A A58:=SS.wp2 hlz [] U7 B2O (fun d=>rfl) _ (fun d=>B4y d.1.1 d.1.2.2.2.2.1 d.2.1)
noncomputable def A60 (a0:List Int):List Int:=(foldN (fun i h=>h.set i (A2E a0 i)) (a0.length - (0:Int).toNat) (0:Int).toNat (List.replicate (a0.length:Int).toNat (0:Int)))
noncomputable abbrev B2e (r:List Int):AV×List AObj:=((.all 0 1),[(.rows 5 true (.int .u8) r)])
noncomputable abbrev A9c:pshsDen A25→AV×List AObj:=fun d=>B2e (A60 d.1)
noncomputable def A1x (a0:List Int):Bool:=okL a0
noncomputable abbrev A5J:pshsDen A25→Bool:=fun d=>A1x d.1
noncomputable abbrev B6J:Nat→St→Option Tree:=fun b=>match b with | 0=>A7A | _=>fun _=>none
theorem B5w:RunP false G0 (B6J) Try.f35 A25 A5J A9c:=by
 rintro ⟨a0,_⟩ hp
 change A1x a0=true at hp
 unfold A1x at hp
 refine Eq.trans (b:=(cond (decide (0≤(a0.length:Int)∧(a0.length:Int)=(a0.length:Int)∧(a0.length:Int).toNat*1≤MAXB∧(a0.length:Int)≤9223372036854775807)) (cond (decide (0≤(0:Int))&&(decide ((List.replicate (a0.length:Int).toNat (0:Int)).length=a0.length)&&okL a0)) (some (B2e (foldN (fun i h=>h.set i (A2E a0 i)) (a0.length - (0:Int).toNat) (0:Int).toNat (List.replicate (a0.length:Int).toNat (0:Int))))) none) none)) (by kernel_rfl) ?_
 exact (cndT (by first | rfl | decide | exact hp | (simp only [Bool.and_eq_true] at hp;simp only [hp];done) | (simp [*];done) | (simp [okL] at hp;simp [okL,MAXB];omega) | (simp_all;done) | (simp at *;omega)) (fun _h=>(cndT (by first | rfl | decide | exact hp | (simp only [Bool.and_eq_true] at hp;simp only [hp];done) | (simp [*];done) | (simp [okL] at hp;simp [okL,MAXB];omega) | (simp_all;done) | (simp at *;omega)) (fun _h=>rfl))))
theorem B6Y:aPP 35 (sumOf A25 A5J A9c):=pcD false G0 (hl1 (i:=0) (by kernel_rfl) B3t) B5w
noncomputable def S1:Tab:=Tab.add S0 35 (lift (sumOf A25 A5J A9c))
noncomputable def QF1:FuncId→Bool:=QF0
theorem G1:aPG S1 QF1:=G0.add B6Y (cbl Try.f35) (by kernel_rfl)

abbrev C0w:List Sh:=.junk::.junk::.junk::.junk::.junk::.junk::.junk::.junk::.junk::.junk::.junk::.junk::.junk::.junk::.junk::.junk::.junk::.junk::.junk::.junk::.junk::.junk::.junk::.junk::.junk::.junk::.junk::.junk::.junk::.junk::.junk::.junk::.junk::.junk::.junk::.junk::.junk::B4V
abbrev C1W:List Sh:=.junk::.junk::C0w
abbrev B9M:List Sh:=.junk::.junk::.junk::.junk::.junk::.junk::C1W
abbrev u56:=((),(),(),(),(),(),(),(),(),(),(),(),(),(),(),(),(),(),(),(),(),(),(),(),(),(),(),(),(),(),(),(),(),u23)
abbrev u58:=((),(),u56)
abbrev u65:=((),(),(),(),(),(),(),u58)
abbrev C0o:List AV:=.junk::.junk::.junk::.junk::.junk::.junk::.junk::.junk::.junk::.junk::.junk::.junk::.junk::.junk::.junk::.junk::.junk::.junk::.junk::.junk::.junk::.junk::.junk::.junk::.junk::.junk::.junk::.junk::.junk::.junk::.junk::.junk::.junk::.junk::.junk::.junk::.junk::.junk::.junk::.junk::.junk::.junk::.junk::.junk::.junk::.junk::.junk::.junk::.junk::.junk::.junk::.junk::.junk::.junk::.junk::[]
abbrev C0p:List AV:=.junk::.junk::C0o
abbrev B85:List AV:=.junk::.junk::.junk::.junk::.junk::.junk::C0p
abbrev A4J:List PSh:=[.t C6,.t (.int .i64)]
abbrev M4:SS:=⟨(.t false C6::tI::.junk::.junk::.junk::.junk::.junk::tI::tI::C0w),[]⟩
abbrev U0:SS:=⟨(.junk::.junk::.junk::.junk::tI::tI::.t true .bool::C1W),[]⟩
abbrev Z9:SS:=⟨(.junk::B9M),[]⟩
noncomputable def B0E (x0:List Int) (x1 x7 x8:Int):RT M4.den:=let z2:=IntKind.wrap .i64 ((7:Int)*x8);let z3:=IntKind.wrap .i64 (x1+x8);let z1:=IntKind.wrap .i64 (x0.getD (z3.toNat) (0:Int));let z4:=iand .i64 z1 (127:Int);let z5:=IntKind.bits .i64;(.br (decide (x8<(5:Int))) (.br (decide (x1 ≥ (0:Int))) (.br (decide (x1<(x0.length:Int))) (.br (decide (z3<(x0.length:Int))) (.br (decide (0≤z3∧z3<(x0.length:Int))) (.br (decide (0≤(IntKind.wrap .u64 z2))) (.br (decide (z1 > (127:Int))) (.next ((x0,x1,(),(),(),(),(),ior .i64 x7 (IntKind.wrap .i64 (z4*2 ^ (min (Int.toNat (IntKind.wrap .u64 z2)) z5))),IntKind.wrap .i64 (x8+(1:Int)),u56),())) (.br (decide (x8 > (0:Int))) (.br (z1==(0:Int)) (.done .ret U0 (((),(),(),(),(0:Int),(0:Int),false,u58),())) (.br (decide ((ior .i64 x7 (IntKind.wrap .i64 (z4*2 ^ (min (Int.toNat (IntKind.wrap .u64 z2)) z5)))) > (1000000000:Int))) (.done .ret U0 (((),(),(),(),(0:Int),(0:Int),false,u58),())) (.done .ret U0 (((),(),(),(),ior .i64 x7 (IntKind.wrap .i64 (z4*2 ^ (min (Int.toNat (IntKind.wrap .u64 z2)) z5))),IntKind.wrap .i64 (z3+(1:Int)),true,u58),())))) (.br (decide ((ior .i64 x7 (IntKind.wrap .i64 (z4*2 ^ (min (Int.toNat (IntKind.wrap .u64 z2)) z5)))) > (1000000000:Int))) (.done .ret U0 (((),(),(),(),(0:Int),(0:Int),false,u58),())) (.done .ret U0 (((),(),(),(),ior .i64 x7 (IntKind.wrap .i64 (z4*2 ^ (min (Int.toNat (IntKind.wrap .u64 z2)) z5))),IntKind.wrap .i64 (z3+(1:Int)),true,u58),()))))) .fail) .fail) (.done (.exit 0) Z9 ((u65),()))) (.done (.exit 0) Z9 ((u65),()))) (.done (.exit 0) Z9 ((u65),()))) (.done (.exit 0) Z9 ((u65),())))
abbrev A16:=(List Int)×(Int)×(Int)×(Int)
abbrev A0x:=Nat×(Int)×(Int)×(Bool)
def A5t:A0x:=(99,((0:Int):Int),((0:Int):Int),(false:Bool))
noncomputable def Z5 (x0:List Int) (x1 x7 x8:Int):A16 ⊕ A0x:=let z2:=IntKind.wrap .i64 ((7:Int)*x8);let z3:=IntKind.wrap .i64 (x1+x8);let z1:=IntKind.wrap .i64 (x0.getD (z3.toNat) (0:Int));let z4:=iand .i64 z1 (127:Int);let z5:=IntKind.bits .i64;(cond (decide (x8<(5:Int))) (cond (decide (x1 ≥ (0:Int))) (cond (decide (x1<(x0.length:Int))) (cond (decide (z3<(x0.length:Int))) (cond (decide (0≤z3∧z3<(x0.length:Int))) (cond (decide (0≤(IntKind.wrap .u64 z2))) (cond (decide (z1 > (127:Int))) (.inl (x0,x1,ior .i64 x7 (IntKind.wrap .i64 (z4*2 ^ (min (Int.toNat (IntKind.wrap .u64 z2)) z5))),IntKind.wrap .i64 (x8+(1:Int)))) (cond (decide (x8 > (0:Int))) (cond (z1==(0:Int)) (.inr (0,(0:Int),(0:Int),false)) (cond (decide ((ior .i64 x7 (IntKind.wrap .i64 (z4*2 ^ (min (Int.toNat (IntKind.wrap .u64 z2)) z5)))) > (1000000000:Int))) (.inr (0,(0:Int),(0:Int),false)) (.inr (0,ior .i64 x7 (IntKind.wrap .i64 (z4*2 ^ (min (Int.toNat (IntKind.wrap .u64 z2)) z5))),IntKind.wrap .i64 (z3+(1:Int)),true)))) (cond (decide ((ior .i64 x7 (IntKind.wrap .i64 (z4*2 ^ (min (Int.toNat (IntKind.wrap .u64 z2)) z5)))) > (1000000000:Int))) (.inr (0,(0:Int),(0:Int),false)) (.inr (0,ior .i64 x7 (IntKind.wrap .i64 (z4*2 ^ (min (Int.toNat (IntKind.wrap .u64 z2)) z5))),IntKind.wrap .i64 (z3+(1:Int)),true))))) (.inr A5t)) (.inr A5t)) (.inr (1,((0:Int):Int),((0:Int):Int),(false:Bool)))) (.inr (1,((0:Int):Int),((0:Int):Int),(false:Bool)))) (.inr (1,((0:Int):Int),((0:Int):Int),(false:Bool)))) (.inr (1,((0:Int):Int),((0:Int):Int),(false:Bool))))
noncomputable def N3 (x0:List Int) (x1 x7 x8:Int):A0x:=itX (fun v:A16=>Z5 v.1 v.2.1 v.2.2.1 v.2.2.2) A5t (x0,x1,x7,x8)
noncomputable def A5j (a:A0x):CT:=(.br (a.1==0) (.done .ret U0 (((),(),(),(),a.2.1,a.2.2.1,a.2.2.2,u58),())) (.br (a.1==1) (.done (.exit 0) Z9 ((u65),())) .fail))
noncomputable def B5T (x0:List Int) (x1 x7 x8:Int):CT:=A5j (N3 x0 x1 x7 x8)
noncomputable abbrev A2B {α:Sort _} (f:(List Int)→Int→Int→Int→α) (d:M4.den):α:=f d.1.1 d.1.2.1 d.1.2.2.2.2.2.2.2.1 d.1.2.2.2.2.2.2.2.2.1
noncomputable abbrev A5U:M4.den→RT M4.den:=(A2B B0E)
noncomputable def A6P:Code:=((loopsIn 0 (bodyOf Try.f83)).getD 0 (0,.skip)).2
noncomputable abbrev B0f (v:A16):M4.den:=((v.1,v.2.1,(),(),(),(),(),v.2.2.1,v.2.2.2,u56),())
theorem B5l:(∀ v:A16,(B0E v.1 v.2.1 v.2.2.1 v.2.2.2).val=relS B0f A5j (Z5 v.1 v.2.1 v.2.2.1 v.2.2.2))∧∀ a:A0x,CEnd M4.den (A5j a):=⟨fun v=>by repeat' first | apply relB | rfl,fun a=>(cendB aCD (cendB aCD cendF))⟩
noncomputable def A90 (x0:List Int) (x1 x7 x8:Int):Option (Ex×St):=let z3:=(⟨(.junk::.junk::.junk::.junk::(ti (0:Int))::(ti (0:Int))::(.t true .bool false)::C0p),[],0,[]⟩:St);let z4:=IntKind.wrap .i64 ((7:Int)*x8);let z5:=IntKind.wrap .i64 (x1+x8);let z1:=IntKind.wrap .i64 (x0.getD (z5.toNat) (0:Int));let z6:=(⟨(.junk::B85),[],0,[]⟩:St);let z7:=iand .i64 z1 (127:Int);let z8:=IntKind.bits .i64;let z2:=(⟨(.junk::.junk::.junk::.junk::(ti (ior .i64 x7 (IntKind.wrap .i64 (z7*2 ^ (min (Int.toNat (IntKind.wrap .u64 z4)) z8)))))::(ti (IntKind.wrap .i64 (z5+(1:Int))))::(.t true .bool true)::C0p),[],0,[]⟩:St);(cond (decide (x8<(5:Int))) (cond (decide (x1 ≥ (0:Int))) (cond (decide (x1<(x0.length:Int))) (cond (decide (z5<(x0.length:Int))) (cond (decide (0≤z5∧z5<(x0.length:Int))) (cond (decide (0≤(IntKind.wrap .u64 z4))) (cond (decide (z1 > (127:Int))) (some (.normal,(⟨((.t false C6 x0)::(ti x1)::.junk::.junk::.junk::.junk::.junk::(ti (ior .i64 x7 (IntKind.wrap .i64 (z7*2 ^ (min (Int.toNat (IntKind.wrap .u64 z4)) z8)))))::(ti (IntKind.wrap .i64 (x8+(1:Int))))::C0o),[],0,[]⟩:St))) (cond (decide (x8 > (0:Int))) (cond (z1==(0:Int)) (some (.ret,z3)) (cond (decide ((ior .i64 x7 (IntKind.wrap .i64 (z7*2 ^ (min (Int.toNat (IntKind.wrap .u64 z4)) z8)))) > (1000000000:Int))) (some (.ret,z3)) (some (.ret,z2)))) (cond (decide ((ior .i64 x7 (IntKind.wrap .i64 (z7*2 ^ (min (Int.toNat (IntKind.wrap .u64 z4)) z8)))) > (1000000000:Int))) (some (.ret,z3)) (some (.ret,z2))))) none) none) (some ((.exit 0),z6))) (some ((.exit 0),z6))) (some ((.exit 0),z6))) (some ((.exit 0),z6)))
theorem B3I:RdA G1 aLn 0 A6P M4 0 [] (kepts [4,5,6] [(0,[])]) (A2B A90):=by
 intro d
 kernel_rfl
theorem B3R:∀ d:M4.den,(A2B A90) d=(A5U d).opt 0 []:=by
 intro d
 kernel_rfl
noncomputable abbrev A8U:St→Option Tree:=M4.say 0 [] [] (A2B B5T)
theorem B45:aPL A8U A6P:=SS.wp2 hlz [] A5U B3I B3R _ (fun d=>Runs.ofI2 (step:=A5U) B0f B5l rfl (d.1.1,d.1.2.1,d.1.2.2.2.2.2.2.2.1,d.1.2.2.2.2.2.2.2.2.1))
noncomputable def A4 (a0:List Int) (a1:Int):Int×Int×Bool:=let z1:=N3 a0 a1 (0:Int) (0:Int);(cond (z1.1==0) ((z1.2.1),(z1.2.2.1),(z1.2.2.2)) ((0:Int),(0:Int),false))
noncomputable abbrev A7S (r:Int×Int×Bool):AV×List AObj:=((.tup [(ti r.1),(ti r.2.1),(.t true .bool r.2.2)]),[])
noncomputable abbrev B0U:pshsDen A4J→AV×List AObj:=fun d=>A7S (A4 d.1 d.2.1)
noncomputable def E1 (a0:List Int) (a1:Int):Bool:=let z1:=N3 a0 a1 (0:Int) (0:Int);cond (z1.1==0) true (z1.1==1)
noncomputable abbrev A7h:pshsDen A4J→Bool:=fun d=>E1 d.1 d.2.1
noncomputable abbrev B7L:Nat→St→Option Tree:=fun b=>match b with | 0=>A8U | _=>fun _=>none
theorem B6s:RunP true G1 (B7L) Try.f83 A4J A7h B0U:=by
 rintro ⟨a0,⟨a1,_⟩⟩ hp
 change E1 a0 a1=true at hp
 unfold E1 at hp
 refine Eq.trans (b:=(let z1:=N3 a0 a1 (0:Int) (0:Int);cond (z1.1==0) (some (A7S ((z1.2.1),(z1.2.2.1),(z1.2.2.2)))) (cond (z1.1==1) (some (A7S ((0:Int),(0:Int),false))) none))) (by kernel_rfl) ?_
 exact (O8 A7S hp (fun hp=>rfl) (fun hp=>(cndT hp fun _h=>rfl)))
theorem B7Z:aPP 83 (sumOf A4J A7h B0U):=pcD true G1 (hl1 (i:=0) (by kernel_rfl) B45) B6s
noncomputable def S2:Tab:=Tab.add S1 83 (lift (sumOf A4J A7h B0U))
noncomputable def QF2:FuncId→Bool:=qadd QF1 83
theorem G2:aPG S2 QF2:=G1.addQ B7Z (cbl Try.f83) (fun _=>rfl)

abbrev B6a:List Sh:=.junk::.junk::.junk::.junk::.junk::.junk::.junk::.junk::.junk::.junk::.junk::.junk::B4V
abbrev u34:=((),(),(),(),(),(),(),(),(),(),(),u23)
abbrev B4U:List AV:=.junk::.junk::.junk::.junk::.junk::.junk::.junk::.junk::.junk::.junk::.junk::.junk::.junk::.junk::.junk::.junk::.junk::.junk::.junk::.junk::.junk::.junk::.junk::.junk::.junk::.junk::.junk::.junk::.junk::.junk::[]
abbrev B8g:List Sh:=.junk::.junk::.junk::.junk::.junk::.junk::.junk::.junk::.junk::.junk::B4V
abbrev u29:=((),(),(),(),(),(),u23)
abbrev u35:=((),u34)
abbrev B9I:List AV:=.junk::.junk::.junk::.junk::.junk::.junk::.junk::.junk::.junk::.junk::.junk::.junk::.junk::.junk::.junk::.junk::.junk::.junk::.junk::.junk::.junk::.junk::.junk::.junk::.junk::.junk::.junk::.junk::[]
abbrev A4M:List PSh:=[.t C6]
noncomputable def A3k:Code:=((loopsIn 0 (bodyOf Try.f109)).getD 0 (0,.skip)).2
noncomputable def A3l:Code:=((loopsIn 0 (bodyOf Try.f109)).getD 1 (0,.skip)).2
abbrev Q4:SS:=⟨(.t false C6::.junk::.junk::.all 0 1::B6a),[.rows 5 true (.int .u8)]⟩
abbrev A8b:SS:=⟨(.t false C6::.junk::.junk::.all 0 1::B6a),[.rows 5 true (.int .u8)]⟩
noncomputable def B0G (x0 h0:List Int):RT Q4.den:=(.br ((Int.tmod (h0.length:Int) (64:Int)) != (56:Int)) (.br (decide ((h0.length+[(0:Int)].length)*1≤MAXB)) (.next ((x0,u34),(h0++[(0:Int)],()))) .fail) (.done (.exit 0) A8b ((x0,u34),(h0,()))))
abbrev A18:=(List Int)×(List Int)
abbrev A0y:=Nat×(List Int)×(List Int)
def A9N:A0y:=(99,([]:List Int),([]:List Int))
noncomputable def A2O (x0 h0:List Int):A18 ⊕ A0y:=(cond ((Int.tmod (h0.length:Int) (64:Int)) != (56:Int)) (cond (decide ((h0.length+[(0:Int)].length)*1≤MAXB)) (.inl (x0,h0++[(0:Int)])) (.inr A9N)) (.inr (0,x0,h0)))
noncomputable def D9 (x0 h0:List Int):A0y:=itX (fun v:A18=>A2O v.1 v.2) A9N (x0,h0)
noncomputable def A5l (a:A0y):CT:=(.br (a.1==0) (.done (.exit 0) A8b ((a.2.1,u34),(a.2.2,()))) .fail)
noncomputable def B5V (x0 h0:List Int):CT:=A5l (D9 x0 h0)
noncomputable abbrev A5W:Q4.den→RT Q4.den:=(fun d=>B0G d.1.1 d.2.1)
noncomputable abbrev B0h (v:A18):Q4.den:=((v.1,u34),(v.2,()))
theorem B5n:(∀ v:A18,(B0G v.1 v.2).val=relS B0h A5l (A2O v.1 v.2))∧∀ a:A0y,CEnd Q4.den (A5l a):=⟨fun v=>(relB (relB rfl rfl) rfl),fun a=>(cendB aCD cendF)⟩
noncomputable def A92 (x0 h0:List Int):Option (Ex×St):=(cond ((Int.tmod (h0.length:Int) (64:Int)) != (56:Int)) (cond (decide ((h0.length+[(0:Int)].length)*1≤MAXB)) (some (.normal,(⟨((.t false C6 x0)::.junk::.junk::(.all 0 1)::B4U),[(.rows 5 true (.int .u8) (h0++[(0:Int)]))],0,[]⟩:St))) none) (some ((.exit 0),(⟨((.t false C6 x0)::.junk::.junk::(.all 0 1)::B4U),[(.rows 5 true (.int .u8) h0)],0,[]⟩:St))))
theorem B3K:RdA G2 aLn 0 A3k Q4 0 [] (kepts [] [(0,[0,3])]) (fun d=>A92 d.1.1 d.2.1):=by
 intro d
 kernel_rfl
theorem B3T:∀ d:Q4.den,(fun d=>A92 d.1.1 d.2.1) d=(A5W d).opt 0 []:=by
 intro d
 kernel_rfl
noncomputable abbrev A8W:St→Option Tree:=Q4.say 0 [] [] (fun d=>B5V d.1.1 d.2.1)
theorem B47:aPL A8W A3k:=SS.wp2 hlz [] A5W B3K B3T _ (fun d=>Runs.ofI2 (step:=A5W) B0h B5n rfl (d.1.1,d.2.1))
abbrev Q5:SS:=⟨(.junk::.junk::.junk::.all 0 1::tI::tI::B8g),[.rows 5 true (.int .u8)]⟩
abbrev A8c:SS:=⟨(.junk::.junk::.junk::.all 0 1::B6a),[.rows 5 true (.int .u8)]⟩
noncomputable def B0H (x4 x5:Int) (h0:List Int):RT Q5.den:=(.br (decide (x5 ≥ (0:Int))) (.br (decide (0≤(IntKind.wrap .u64 x5))) (.br (decide ((h0.length+[IntKind.wrap .u8 (Int.fdiv x4 (2 ^ (min (Int.toNat (IntKind.wrap .u64 x5)) (IntKind.bits .i64))))].length)*1≤MAXB)) (.next (((),(),(),(),x4,IntKind.wrap .i64 (x5 - (8:Int)),u29),(h0++[IntKind.wrap .u8 (Int.fdiv x4 (2 ^ (min (Int.toNat (IntKind.wrap .u64 x5)) (IntKind.bits .i64))))],()))) .fail) .fail) (.done (.exit 2) A8c ((u35),(h0,()))))
abbrev A19:=(Int)×(Int)×(List Int)
abbrev A0z:=Nat×(List Int)
def A5u:A0z:=(99,([]:List Int))
noncomputable def A2P (x4 x5:Int) (h0:List Int):A19 ⊕ A0z:=(cond (decide (x5 ≥ (0:Int))) (cond (decide (0≤(IntKind.wrap .u64 x5))) (cond (decide ((h0.length+[IntKind.wrap .u8 (Int.fdiv x4 (2 ^ (min (Int.toNat (IntKind.wrap .u64 x5)) (IntKind.bits .i64))))].length)*1≤MAXB)) (.inl (x4,IntKind.wrap .i64 (x5 - (8:Int)),h0++[IntKind.wrap .u8 (Int.fdiv x4 (2 ^ (min (Int.toNat (IntKind.wrap .u64 x5)) (IntKind.bits .i64))))])) (.inr A5u)) (.inr A5u)) (.inr (0,h0)))
noncomputable def R9 (x4 x5:Int) (h0:List Int):A0z:=itX (fun v:A19=>A2P v.1 v.2.1 v.2.2) A5u (x4,x5,h0)
noncomputable def A5m (a:A0z):CT:=(.br (a.1==0) (.done (.exit 2) A8c ((u35),(a.2,()))) .fail)
noncomputable def B5W (x4 x5:Int) (h0:List Int):CT:=A5m (R9 x4 x5 h0)
noncomputable abbrev A5X:Q5.den→RT Q5.den:=(fun d=>B0H d.1.2.2.2.2.1 d.1.2.2.2.2.2.1 d.2.1)
noncomputable abbrev B0i (v:A19):Q5.den:=(((),(),(),(),v.1,v.2.1,u29),(v.2.2,()))
theorem B5o:(∀ v:A19,(B0H v.1 v.2.1 v.2.2).val=relS B0i A5m (A2P v.1 v.2.1 v.2.2))∧∀ a:A0z,CEnd Q5.den (A5m a):=⟨fun v=>(relB (relB (relB rfl rfl) rfl) rfl),fun a=>(cendB aCD cendF)⟩
noncomputable def A93 (x4 x5:Int) (h0:List Int):Option (Ex×St):=(cond (decide (x5 ≥ (0:Int))) (cond (decide (0≤(IntKind.wrap .u64 x5))) (cond (decide ((h0.length+[IntKind.wrap .u8 (Int.fdiv x4 (2 ^ (min (Int.toNat (IntKind.wrap .u64 x5)) (IntKind.bits .i64))))].length)*1≤MAXB)) (some (.normal,(⟨(.junk::.junk::.junk::(.all 0 1)::(ti x4)::(ti (IntKind.wrap .i64 (x5 - (8:Int))))::B9I),[(.rows 5 true (.int .u8) (h0++[IntKind.wrap .u8 (Int.fdiv x4 (2 ^ (min (Int.toNat (IntKind.wrap .u64 x5)) (IntKind.bits .i64))))]))],0,[]⟩:St))) none) none) (some ((.exit 2),(⟨(.junk::.junk::.junk::(.all 0 1)::B4U),[(.rows 5 true (.int .u8) h0)],0,[]⟩:St))))
theorem B3L:RdA G2 aLn 2 A3l Q5 0 [] (kepts [] [(2,[3])]) (fun d=>A93 d.1.2.2.2.2.1 d.1.2.2.2.2.2.1 d.2.1):=by
 intro d
 kernel_rfl
theorem B3U:∀ d:Q5.den,(fun d=>A93 d.1.2.2.2.2.1 d.1.2.2.2.2.2.1 d.2.1) d=(A5X d).opt 0 []:=by
 intro d
 kernel_rfl
noncomputable abbrev A8X:St→Option Tree:=Q5.say 0 [] [] (fun d=>B5W d.1.2.2.2.2.1 d.1.2.2.2.2.2.1 d.2.1)
theorem B48:aPL A8X A3l:=SS.wp2 hlz [] A5X B3L B3U _ (fun d=>Runs.ofI2 (step:=A5X) B0i B5o rfl (d.1.2.2.2.2.1,d.1.2.2.2.2.2.1,d.2.1))
noncomputable def A1s (a0:List Int):=let z1:=D9 a0 ((([]:List Int)++a0)++[(128:Int)]);R9 (IntKind.wrap .i64 ((((z1.2.1).length:Nat):Int)*(8:Int))) (56:Int) (z1.2.2)
noncomputable def F6 (a0:List Int):List Int:=((A1s a0).2)
noncomputable abbrev B4d (r:List Int):AV×List AObj:=((.t true C6 r),[])
noncomputable abbrev B0X:pshsDen A4M→AV×List AObj:=fun d=>B4d (F6 d.1)
noncomputable def A1z (a0:List Int):Bool:=let z1:=([]:List Int);(decide ((z1.length+a0.length)*1≤MAXB))&&((decide (((z1++a0).length+[(128:Int)].length)*1≤MAXB))&&(((D9 a0 ((z1++a0)++[(128:Int)])).1==0)&&((A1s a0).1==0)))
noncomputable abbrev A7k:pshsDen A4M→Bool:=fun d=>A1z d.1
noncomputable abbrev B7N:Nat→St→Option Tree:=fun b=>match b with | 0=>A8W | 2=>A8X | _=>fun _=>none
theorem B6v:RunP true G2 (B7N) Try.f109 A4M A7k B0X:=by
 rintro ⟨a0,_⟩ hp
 change A1z a0=true at hp
 unfold A1z at hp
 refine Eq.trans (b:=(let z1:=([]:List Int);cond (decide ((z1.length+a0.length)*1≤MAXB)) (cond (decide (((z1++a0).length+[(128:Int)].length)*1≤MAXB)) (cond ((D9 a0 ((z1++a0)++[(128:Int)])).1==0) (cond ((A1s a0).1==0) (some (B4d ((A1s a0).2))) none) none) none) none)) (by kernel_rfl) ?_
 exact (cndA hp fun hp=>(cndA hp fun hp=>(cndA hp fun hp=>(cndT hp fun _h=>rfl))))
theorem B72:aPP 109 (sumOf A4M A7k B0X):=pcD true G2 (by
  rw [show loopsIn 0 (bodyOf Try.f109)=[(0,A3k),(2,A3l)] by kernel_rfl];intro p hp;simp only [List.mem_cons,List.mem_nil_iff,or_false] at hp
  rcases hp with rfl | rfl
  ·exact B47
  ·exact B48) B6v
noncomputable def S3:Tab:=Tab.add S2 109 (lift (sumOf A4M A7k B0X))
noncomputable def QF3:FuncId→Bool:=qadd QF2 109
theorem G3:aPG S3 QF3:=G2.addQ B72 (cbl Try.f109) (fun _=>rfl)

abbrev A3J:Ty:=.sl (.int .i64)
abbrev B14:List PSh:=[]
noncomputable def A6t :List Int:=[(1116352408:Int),(1899447441:Int),(3049323471:Int),(3921009573:Int),(961987163:Int),(1508970993:Int),(2453635748:Int),(2870763221:Int),(3624381080:Int),(310598401:Int),(607225278:Int),(1426881987:Int),(1925078388:Int),(2162078206:Int),(2614888103:Int),(3248222580:Int),(3835390401:Int),(4022224774:Int),(264347078:Int),(604807628:Int),(770255983:Int),(1249150122:Int),(1555081692:Int),(1996064986:Int),(2554220882:Int),(2821834349:Int),(2952996808:Int),(3210313671:Int),(3336571891:Int),(3584528711:Int),(113926993:Int),(338241895:Int),(666307205:Int),(773529912:Int),(1294757372:Int),(1396182291:Int),(1695183700:Int),(1986661051:Int),(2177026350:Int),(2456956037:Int),(2730485921:Int),(2820302411:Int),(3259730800:Int),(3345764771:Int),(3516065817:Int),(3600352804:Int),(4094571909:Int),(275423344:Int),(430227734:Int),(506948616:Int),(659060556:Int),(883997877:Int),(958139571:Int),(1322822218:Int),(1537002063:Int),(1747873779:Int),(1955562222:Int),(2024104815:Int),(2227730452:Int),(2361852424:Int),(2428436474:Int),(2756734187:Int),(3204031479:Int),(3329325298:Int)]
noncomputable abbrev C0i (r:List Int):AV×List AObj:=((.t true A3J r),[])
noncomputable abbrev B66:pshsDen B14→AV×List AObj:=fun d=>C0i (A6t )
noncomputable abbrev B2I:pshsDen B14→Bool:=fun d=>true
theorem B9m:RunP true G3 aLn Try.f110 B14 B2I B66:=by
 rintro _ hp
 kernel_rfl
theorem C0h:aPP 110 (sumOf B14 B2I B66):=pcD true G3 hlz B9m
noncomputable def S4:Tab:=Tab.add S3 110 (lift (sumOf B14 B2I B66))
noncomputable def QF4:FuncId→Bool:=qadd QF3 110
theorem G4:aPG S4 QF4:=G3.addQ C0h (cbl Try.f110) (fun _=>rfl)

abbrev A4N:List PSh:=[.t (.int .i64),.t (.int .i64)]
noncomputable def B3 (a0 a1:Int):Int:=(iand .i64 (ior .i64 (Int.fdiv a0 (2 ^ (min (Int.toNat (IntKind.wrap .u64 a1)) (IntKind.bits .i64)))) (IntKind.wrap .i64 (a0*2 ^ (min (Int.toNat (IntKind.wrap .u64 (IntKind.wrap .i64 ((32:Int) - a1)))) (IntKind.bits .i64))))) (4294967295:Int))
noncomputable abbrev B4e (r:Int):AV×List AObj:=((ti r),[])
noncomputable abbrev B0Y:pshsDen A4N→AV×List AObj:=fun d=>B4e (B3 d.1 d.2.1)
noncomputable def B0 (a0 a1:Int):Bool:=(decide (0≤(IntKind.wrap .u64 a1)))&&(decide (0≤(IntKind.wrap .u64 (IntKind.wrap .i64 ((32:Int) - a1)))))
noncomputable abbrev A7l:pshsDen A4N→Bool:=fun d=>B0 d.1 d.2.1
theorem B6w:RunP true G4 aLn Try.f146 A4N A7l B0Y:=by
 rintro ⟨a0,⟨a1,_⟩⟩ hp
 change B0 a0 a1=true at hp
 unfold B0 at hp
 refine Eq.trans (b:=(let z1:=IntKind.wrap .i64 ((32:Int) - a1);cond (decide (0≤(IntKind.wrap .u64 a1))) (cond (decide (0≤(IntKind.wrap .u64 z1))) (some (B4e (iand .i64 (ior .i64 (Int.fdiv a0 (2 ^ (min (Int.toNat (IntKind.wrap .u64 a1)) (IntKind.bits .i64)))) (IntKind.wrap .i64 (a0*2 ^ (min (Int.toNat (IntKind.wrap .u64 z1)) (IntKind.bits .i64))))) (4294967295:Int)))) none) none)) (by kernel_rfl) ?_
 exact (cndA hp fun hp=>(cndT hp fun _h=>rfl))
theorem B73:aPP 146 (sumOf A4N A7l B0Y):=pcD true G4 hlz B6w
noncomputable def S5:Tab:=Tab.add S4 146 (lift (sumOf A4N A7l B0Y))
noncomputable def QF5:FuncId→Bool:=qadd QF4 146
theorem G5:aPG S5 QF5:=G4.addQ B73 (cbl Try.f146) (fun _=>rfl)

abbrev C1Z:List Sh:=.junk::.junk::.junk::.junk::.junk::.junk::.junk::.junk::.junk::.junk::.junk::.junk::.junk::.junk::.junk::.junk::.junk::.junk::.junk::.junk::.junk::.junk::.junk::.junk::.junk::.junk::.junk::.junk::.junk::.junk::.junk::.junk::.junk::B9M
abbrev B89:List Sh:=.junk::C1Z
abbrev u97:=((),(),(),(),(),(),(),(),(),(),(),(),(),(),(),(),(),(),(),(),(),(),(),(),(),(),(),(),(),(),(),(),u65)
abbrev B5C:=((),(),(),(),(),u97)
abbrev C1M:List AV:=.junk::.junk::.junk::.junk::.junk::.junk::.junk::.junk::.junk::.junk::.junk::.junk::.junk::.junk::.junk::.junk::.junk::.junk::.junk::.junk::.junk::.junk::.junk::.junk::.junk::.junk::.junk::.junk::.junk::.junk::.junk::.junk::.junk::B85
abbrev B86:List AV:=.junk::C1M
abbrev C2E:List Sh:=.junk::.junk::.junk::.junk::.junk::.junk::.junk::.junk::.junk::.junk::.junk::.junk::.junk::.junk::.junk::.junk::.junk::.junk::.junk::.junk::.junk::.junk::.junk::.junk::.junk::.junk::.junk::.junk::.junk::.junk::.junk::.junk::B9M
abbrev u96:=((),(),(),(),(),(),(),(),(),(),(),(),(),(),(),(),(),(),(),(),(),(),(),(),(),(),(),(),(),(),(),u65)
abbrev C2t:List AV:=.junk::.junk::.junk::.junk::.junk::.junk::.junk::.junk::.junk::.junk::.junk::.junk::.junk::.junk::.junk::.junk::.junk::.junk::.junk::.junk::.junk::.junk::.junk::.junk::.junk::.junk::.junk::.junk::.junk::.junk::.junk::.junk::B85
abbrev A28:List PSh:=[.t C6]
noncomputable def A2m:Code:=((loopsIn 0 (bodyOf Try.f145)).getD 0 (0,.skip)).2
noncomputable def A2n:Code:=((loopsIn 0 (bodyOf Try.f145)).getD 1 (0,.skip)).2
abbrev M6:SS:=⟨(.t false C6::.junk::.junk::.all 0 1::tI::C1Z),[.rows 3 true (.int .i64)]⟩
abbrev A6A:SS:=⟨(.junk::.junk::.junk::.all 0 1::B89),[.rows 3 true (.int .i64)]⟩
noncomputable def A83 (x0:List Int) (x4:Int) (h0:List Int):RT M6.den:=let z1:=IntKind.wrap .i64 ((4:Int)*x4);let z3:=IntKind.wrap .i64 (z1+(3:Int));let z4:=IntKind.wrap .i64 (z1+(1:Int));let z5:=IntKind.wrap .i64 (z1+(2:Int));let z2:=ior .i64 (ior .i64 (IntKind.wrap .i64 ((IntKind.wrap .i64 (x0.getD (z1.toNat) (0:Int)))*2 ^ (24))) (IntKind.wrap .i64 ((IntKind.wrap .i64 (x0.getD (z4.toNat) (0:Int)))*2 ^ (16)))) (IntKind.wrap .i64 ((IntKind.wrap .i64 (x0.getD (z5.toNat) (0:Int)))*2 ^ (8)));let z6:=IntKind.wrap .i64 (x0.getD (z3.toNat) (0:Int));(.br (decide (x4<(16:Int))) (.br (decide (0≤z1∧z1<(x0.length:Int))) (.br (decide (0≤z4∧z4<(x0.length:Int))) (.br (decide (0≤z5∧z5<(x0.length:Int))) (.br (decide (0≤z3∧z3<(x0.length:Int))) (.br (decide ((h0.length+[ior .i64 z2 z6].length)*8≤MAXB)) (.next ((x0,(),(),(),IntKind.wrap .i64 (x4+(1:Int)),u97),(h0++[ior .i64 z2 z6],()))) .fail) .fail) .fail) .fail) .fail) (.done (.exit 0) A6A ((B5C),(h0,()))))
abbrev A0W:=(List Int)×(Int)×(List Int)
abbrev Y0:=Nat×(List Int)
def U4:Y0:=(99,([]:List Int))
noncomputable def A1T (x0:List Int) (x4:Int) (h0:List Int):A0W ⊕ Y0:=let z1:=IntKind.wrap .i64 ((4:Int)*x4);let z3:=IntKind.wrap .i64 (z1+(3:Int));let z4:=IntKind.wrap .i64 (z1+(1:Int));let z5:=IntKind.wrap .i64 (z1+(2:Int));let z2:=ior .i64 (ior .i64 (IntKind.wrap .i64 ((IntKind.wrap .i64 (x0.getD (z1.toNat) (0:Int)))*2 ^ (24))) (IntKind.wrap .i64 ((IntKind.wrap .i64 (x0.getD (z4.toNat) (0:Int)))*2 ^ (16)))) (IntKind.wrap .i64 ((IntKind.wrap .i64 (x0.getD (z5.toNat) (0:Int)))*2 ^ (8)));let z6:=IntKind.wrap .i64 (x0.getD (z3.toNat) (0:Int));(cond (decide (x4<(16:Int))) (cond (decide (0≤z1∧z1<(x0.length:Int))) (cond (decide (0≤z4∧z4<(x0.length:Int))) (cond (decide (0≤z5∧z5<(x0.length:Int))) (cond (decide (0≤z3∧z3<(x0.length:Int))) (cond (decide ((h0.length+[ior .i64 z2 z6].length)*8≤MAXB)) (.inl (x0,IntKind.wrap .i64 (x4+(1:Int)),h0++[ior .i64 z2 z6])) (.inr U4)) (.inr U4)) (.inr U4)) (.inr U4)) (.inr U4)) (.inr (0,h0)))
noncomputable def K0 (x0:List Int) (x4:Int) (h0:List Int):Y0:=itX (fun v:A0W=>A1T v.1 v.2.1 v.2.2) U4 (x0,x4,h0)
noncomputable def A4c (a:Y0):CT:=(.br (a.1==0) (.done (.exit 0) A6A ((B5C),(a.2,()))) .fail)
noncomputable def B4D (x0:List Int) (x4:Int) (h0:List Int):CT:=A4c (K0 x0 x4 h0)
noncomputable abbrev A4t:M6.den→RT M6.den:=(fun d=>A83 d.1.1 d.1.2.2.2.2.1 d.2.1)
noncomputable abbrev A8I (v:A0W):M6.den:=((v.1,(),(),(),v.2.1,u97),(v.2.2,()))
theorem B3Z:(∀ v:A0W,(A83 v.1 v.2.1 v.2.2).val=relS A8I A4c (A1T v.1 v.2.1 v.2.2))∧∀ a:Y0,CEnd M6.den (A4c a):=⟨fun v=>by repeat' first | apply relB | rfl,fun a=>(cendB aCD cendF)⟩
noncomputable def A8y (x0:List Int) (x4:Int) (h0:List Int):Option (Ex×St):=let z1:=IntKind.wrap .i64 ((4:Int)*x4);let z3:=IntKind.wrap .i64 (z1+(3:Int));let z4:=IntKind.wrap .i64 (z1+(1:Int));let z5:=IntKind.wrap .i64 (z1+(2:Int));let z2:=ior .i64 (ior .i64 (IntKind.wrap .i64 ((IntKind.wrap .i64 (x0.getD (z1.toNat) (0:Int)))*2 ^ (24))) (IntKind.wrap .i64 ((IntKind.wrap .i64 (x0.getD (z4.toNat) (0:Int)))*2 ^ (16)))) (IntKind.wrap .i64 ((IntKind.wrap .i64 (x0.getD (z5.toNat) (0:Int)))*2 ^ (8)));let z6:=IntKind.wrap .i64 (x0.getD (z3.toNat) (0:Int));(cond (decide (x4<(16:Int))) (cond (decide (0≤z1∧z1<(x0.length:Int))) (cond (decide (0≤z4∧z4<(x0.length:Int))) (cond (decide (0≤z5∧z5<(x0.length:Int))) (cond (decide (0≤z3∧z3<(x0.length:Int))) (cond (decide ((h0.length+[ior .i64 z2 z6].length)*8≤MAXB)) (some (.normal,(⟨((.t false C6 x0)::.junk::.junk::(.all 0 1)::(ti (IntKind.wrap .i64 (x4+(1:Int))))::C1M),[(.rows 3 true (.int .i64) (h0++[ior .i64 z2 z6]))],0,[]⟩:St))) none) none) none) none) none) (some ((.exit 0),(⟨(.junk::.junk::.junk::(.all 0 1)::B86),[(.rows 3 true (.int .i64) h0)],0,[]⟩:St))))
theorem B2R:RdA G5 aLn 0 A2m M6 0 [] (kepts [] [(0,[3])]) (fun d=>A8y d.1.1 d.1.2.2.2.2.1 d.2.1):=by
 intro d
 kernel_rfl
theorem B2Z:∀ d:M6.den,(fun d=>A8y d.1.1 d.1.2.2.2.2.1 d.2.1) d=(A4t d).opt 0 []:=by
 intro d
 kernel_rfl
noncomputable abbrev A7D:St→Option Tree:=M6.say 0 [] [] (fun d=>B4D d.1.1 d.1.2.2.2.2.1 d.2.1)
theorem B3w:aPL A7D A2m:=SS.wp2 hlz [] A4t B2R B2Z _ (fun d=>Runs.ofI2 (step:=A4t) A8I B3Z rfl (d.1.1,d.1.2.2.2.2.1,d.2.1))
abbrev M7:SS:=⟨(.junk::.junk::.junk::.all 0 1::.junk::tI::C2E),[.rows 3 true (.int .i64)]⟩
abbrev A6B:SS:=⟨(.junk::.junk::.junk::.all 0 1::B89),[.rows 3 true (.int .i64)]⟩
noncomputable def A84 (x5:Int) (h0:List Int):RT M7.den:=let z4:=IntKind.wrap .i64 (x5 - (15:Int));let z2:=h0.getD (z4.toNat) (0:Int);let z5:=IntKind.wrap .i64 (x5 - (16:Int));let z6:=IntKind.wrap .i64 (x5 - (2:Int));let z3:=h0.getD (z6.toNat) (0:Int);let z7:=IntKind.wrap .i64 (x5 - (7:Int));let z1:=IntKind.wrap .i64 ((IntKind.wrap .i64 ((IntKind.wrap .i64 ((h0.getD (z5.toNat) (0:Int))+(ixor .i64 (ixor .i64 (B3 z2 (7:Int)) (B3 z2 (18:Int))) (Int.fdiv z2 (2 ^ (3))))))+(h0.getD (z7.toNat) (0:Int))))+(ixor .i64 (ixor .i64 (B3 z3 (17:Int)) (B3 z3 (19:Int))) (Int.fdiv z3 (2 ^ (10)))));(.br (decide (x5<(64:Int))) (.br (decide (0≤z4∧z4<(h0.length:Int))) (.br (decide (0≤z6∧z6<(h0.length:Int))) (.br (B0 z2 (7:Int)) (.br (B0 z2 (18:Int)) (.br (B0 z3 (17:Int)) (.br (B0 z3 (19:Int)) (.br (decide (0≤z5∧z5<(h0.length:Int))) (.br (decide (0≤z7∧z7<(h0.length:Int))) (.br (decide ((h0.length+[iand .i64 z1 (4294967295:Int)].length)*8≤MAXB)) (.next (((),(),(),(),(),IntKind.wrap .i64 (x5+(1:Int)),u96),(h0++[iand .i64 z1 (4294967295:Int)],()))) .fail) .fail) .fail) .fail) .fail) .fail) .fail) .fail) .fail) (.done (.exit 2) A6B ((B5C),(h0,()))))
abbrev A0X:=(Int)×(List Int)
abbrev Y1:=Nat×(List Int)
def F2:Y1:=(99,([]:List Int))
noncomputable def A1U (x5:Int) (h0:List Int):A0X ⊕ Y1:=let z4:=IntKind.wrap .i64 (x5 - (15:Int));let z2:=h0.getD (z4.toNat) (0:Int);let z5:=IntKind.wrap .i64 (x5 - (16:Int));let z6:=IntKind.wrap .i64 (x5 - (2:Int));let z3:=h0.getD (z6.toNat) (0:Int);let z7:=IntKind.wrap .i64 (x5 - (7:Int));let z1:=IntKind.wrap .i64 ((IntKind.wrap .i64 ((IntKind.wrap .i64 ((h0.getD (z5.toNat) (0:Int))+(ixor .i64 (ixor .i64 (B3 z2 (7:Int)) (B3 z2 (18:Int))) (Int.fdiv z2 (2 ^ (3))))))+(h0.getD (z7.toNat) (0:Int))))+(ixor .i64 (ixor .i64 (B3 z3 (17:Int)) (B3 z3 (19:Int))) (Int.fdiv z3 (2 ^ (10)))));(cond (decide (x5<(64:Int))) (cond (decide (0≤z4∧z4<(h0.length:Int))) (cond (decide (0≤z6∧z6<(h0.length:Int))) (cond (B0 z2 (7:Int)) (cond (B0 z2 (18:Int)) (cond (B0 z3 (17:Int)) (cond (B0 z3 (19:Int)) (cond (decide (0≤z5∧z5<(h0.length:Int))) (cond (decide (0≤z7∧z7<(h0.length:Int))) (cond (decide ((h0.length+[iand .i64 z1 (4294967295:Int)].length)*8≤MAXB)) (.inl (IntKind.wrap .i64 (x5+(1:Int)),h0++[iand .i64 z1 (4294967295:Int)])) (.inr F2)) (.inr F2)) (.inr F2)) (.inr F2)) (.inr F2)) (.inr F2)) (.inr F2)) (.inr F2)) (.inr F2)) (.inr (0,h0)))
noncomputable def K1 (x5:Int) (h0:List Int):Y1:=itX (fun v:A0X=>A1U v.1 v.2) F2 (x5,h0)
noncomputable def A4d (a:Y1):CT:=(.br (a.1==0) (.done (.exit 2) A6B ((B5C),(a.2,()))) .fail)
noncomputable def B4E (x5:Int) (h0:List Int):CT:=A4d (K1 x5 h0)
noncomputable abbrev A4u:M7.den→RT M7.den:=(fun d=>A84 d.1.2.2.2.2.2.1 d.2.1)
noncomputable abbrev A8J (v:A0X):M7.den:=(((),(),(),(),(),v.1,u96),(v.2,()))
theorem B30:(∀ v:A0X,(A84 v.1 v.2).val=relS A8J A4d (A1U v.1 v.2))∧∀ a:Y1,CEnd M7.den (A4d a):=⟨fun v=>by repeat' first | apply relB | rfl,fun a=>(cendB aCD cendF)⟩
noncomputable def A8z (x5:Int) (h0:List Int):Option (Ex×St):=let z4:=IntKind.wrap .i64 (x5 - (15:Int));let z2:=h0.getD (z4.toNat) (0:Int);let z5:=IntKind.wrap .i64 (x5 - (16:Int));let z6:=IntKind.wrap .i64 (x5 - (2:Int));let z3:=h0.getD (z6.toNat) (0:Int);let z7:=IntKind.wrap .i64 (x5 - (7:Int));let z1:=IntKind.wrap .i64 ((IntKind.wrap .i64 ((IntKind.wrap .i64 ((h0.getD (z5.toNat) (0:Int))+(ixor .i64 (ixor .i64 (B3 z2 (7:Int)) (B3 z2 (18:Int))) (Int.fdiv z2 (2 ^ (3))))))+(h0.getD (z7.toNat) (0:Int))))+(ixor .i64 (ixor .i64 (B3 z3 (17:Int)) (B3 z3 (19:Int))) (Int.fdiv z3 (2 ^ (10)))));(cond (decide (x5<(64:Int))) (cond (decide (0≤z4∧z4<(h0.length:Int))) (cond (decide (0≤z6∧z6<(h0.length:Int))) (cond (B0 z2 (7:Int)) (cond (B0 z2 (18:Int)) (cond (B0 z3 (17:Int)) (cond (B0 z3 (19:Int)) (cond (decide (0≤z5∧z5<(h0.length:Int))) (cond (decide (0≤z7∧z7<(h0.length:Int))) (cond (decide ((h0.length+[iand .i64 z1 (4294967295:Int)].length)*8≤MAXB)) (some (.normal,(⟨(.junk::.junk::.junk::(.all 0 1)::.junk::(ti (IntKind.wrap .i64 (x5+(1:Int))))::C2t),[(.rows 3 true (.int .i64) (h0++[iand .i64 z1 (4294967295:Int)]))],0,[]⟩:St))) none) none) none) none) none) none) none) none) none) (some ((.exit 2),(⟨(.junk::.junk::.junk::(.all 0 1)::B86),[(.rows 3 true (.int .i64) h0)],0,[]⟩:St))))
theorem B2S:RdA G5 aLn 2 A2n M7 0 [] (kepts [] [(2,[3])]) (fun d=>A8z d.1.2.2.2.2.2.1 d.2.1):=by
 intro d
 kernel_rfl
theorem B20:∀ d:M7.den,(fun d=>A8z d.1.2.2.2.2.2.1 d.2.1) d=(A4u d).opt 0 []:=by
 intro d
 kernel_rfl
noncomputable abbrev A7E:St→Option Tree:=M7.say 0 [] [] (fun d=>B4E d.1.2.2.2.2.2.1 d.2.1)
theorem B3x:aPL A7E A2n:=SS.wp2 hlz [] A4u B2S B20 _ (fun d=>Runs.ofI2 (step:=A4u) A8J B30 rfl (d.1.2.2.2.2.2.1,d.2.1))
noncomputable def F1 (a0:List Int):List Int:=((K1 (16:Int) ((K0 a0 (0:Int) ([]:List Int)).2)).2)
noncomputable abbrev B2g (r:List Int):AV×List AObj:=((.t true A3J r),[])
noncomputable abbrev A9f:pshsDen A28→AV×List AObj:=fun d=>B2g (F1 d.1)
noncomputable def A0u (a0:List Int):Bool:=let z1:=K0 a0 (0:Int) ([]:List Int);(z1.1==0)&&((K1 (16:Int) (z1.2)).1==0)
noncomputable abbrev A5M:pshsDen A28→Bool:=fun d=>A0u d.1
noncomputable abbrev B6L:Nat→St→Option Tree:=fun b=>match b with | 0=>A7D | 2=>A7E | _=>fun _=>none
theorem B5z:RunP true G5 (B6L) Try.f145 A28 A5M A9f:=by
 rintro ⟨a0,_⟩ hp
 change A0u a0=true at hp
 unfold A0u at hp
 refine Eq.trans (b:=(let z1:=K0 a0 (0:Int) ([]:List Int);let z2:=K1 (16:Int) (z1.2);cond (z1.1==0) (cond (z2.1==0) (some (B2g (z2.2))) none) none)) (by kernel_rfl) ?_
 exact (cndA hp fun hp=>(cndT hp fun _h=>rfl))
theorem B61:aPP 145 (sumOf A28 A5M A9f):=pcD true G5 (by
  rw [show loopsIn 0 (bodyOf Try.f145)=[(0,A2m),(2,A2n)] by kernel_rfl];intro p hp;simp only [List.mem_cons,List.mem_nil_iff,or_false] at hp
  rcases hp with rfl | rfl
  ·exact B3w
  ·exact B3x) B5z
noncomputable def S6:Tab:=Tab.add S5 145 (lift (sumOf A28 A5M A9f))
noncomputable def QF6:FuncId→Bool:=qadd QF5 145
theorem G6:aPG S6 QF6:=G5.addQ B61 (cbl Try.f145) (fun _=>rfl)

abbrev C0a:List Sh:=.junk::.junk::.junk::.junk::.junk::.junk::.junk::.junk::.junk::.junk::.junk::.junk::.junk::.junk::.junk::.junk::.junk::.junk::.junk::.junk::.junk::.junk::.junk::.junk::.junk::.junk::.junk::.junk::.junk::.junk::.junk::.junk::.junk::.junk::.junk::.junk::.junk::B89
abbrev C0b:List Sh:=.junk::C0a
abbrev C0F:=((),(),(),(),(),(),(),(),(),(),(),(),(),(),(),(),(),(),(),(),(),(),(),(),(),(),(),(),(),(),(),(),(),B5C)
abbrev C0G:=((),(),(),(),(),(),(),(),(),C0F)
abbrev B96:List AV:=.junk::.junk::.junk::.junk::.junk::.junk::.junk::.junk::.junk::.junk::.junk::.junk::.junk::.junk::.junk::.junk::.junk::.junk::.junk::.junk::.junk::.junk::.junk::.junk::.junk::.junk::.junk::.junk::.junk::.junk::.junk::.junk::.junk::.junk::.junk::.junk::.junk::B86
abbrev B97:List AV:=.junk::B96
abbrev C1Q:List Sh:=.junk::.junk::.junk::.junk::.junk::.junk::.junk::.junk::.junk::.junk::.junk::.junk::.junk::.junk::.junk::.junk::.junk::.junk::.junk::.junk::.junk::.junk::.junk::.junk::.junk::.junk::.junk::.junk::B89
abbrev C2e:=((),(),(),(),(),(),(),(),(),(),(),(),(),(),(),(),(),(),(),(),(),(),(),(),B5C)
abbrev C2f:=((),C0G)
abbrev C1E:List AV:=.junk::.junk::.junk::.junk::.junk::.junk::.junk::.junk::.junk::.junk::.junk::.junk::.junk::.junk::.junk::.junk::.junk::.junk::.junk::.junk::.junk::.junk::.junk::.junk::.junk::.junk::.junk::.junk::B86
abbrev A27:List PSh:=[.t A3J,.t C6,.t A3J]
noncomputable def A2k:Code:=((loopsIn 0 (bodyOf Try.f111)).getD 0 (0,.skip)).2
noncomputable def A2l:Code:=((loopsIn 0 (bodyOf Try.f111)).getD 1 (0,.skip)).2
abbrev I9:SS:=⟨(.t false A3J::.junk::.t false A3J::.junk::.junk::.junk::.junk::.t true A3J::.all 0 1::tI::C0a),[.rows 3 true (.int .i64)]⟩
abbrev A6y:SS:=⟨(.t false A3J::.junk::.junk::.junk::.junk::.junk::.junk::.junk::.all 0 1::C0b),[.rows 3 true (.int .i64)]⟩
noncomputable def A81 (x0 x2 x7:List Int) (x9:Int) (h0:List Int):RT I9.den:=let z2:=h0.getD ((4:Int).toNat) (0:Int);let z1:=IntKind.wrap .i64 ((IntKind.wrap .i64 ((IntKind.wrap .i64 ((IntKind.wrap .i64 ((h0.getD ((7:Int).toNat) (0:Int))+(ixor .i64 (ixor .i64 (B3 z2 (6:Int)) (B3 z2 (11:Int))) (B3 z2 (25:Int)))))+(ixor .i64 (iand .i64 z2 (h0.getD ((5:Int).toNat) (0:Int))) (iand .i64 (ixor .i64 (4294967295:Int) z2) (h0.getD ((6:Int).toNat) (0:Int))))))+(x2.getD x9.toNat (0:Int))))+(x7.getD x9.toNat (0:Int)));let z3:=h0.getD ((0:Int).toNat) (0:Int);let z4:=decide (0≤(1:Int)∧(1:Int)<(h0.length:Int));let z5:=decide (0≤(2:Int)∧(2:Int)<(h0.length:Int));let z6:=decide (0≤(5:Int)∧(5:Int)<(h0.length:Int));let z7:=decide (0≤(6:Int)∧(6:Int)<(h0.length:Int));let z8:=h0.getD ((1:Int).toNat) (0:Int);let z9:=h0.getD ((2:Int).toNat) (0:Int);(.br (decide (x9<(64:Int))) (.br (decide (0≤(4:Int)∧(4:Int)<(h0.length:Int))) (.br (B0 z2 (6:Int)) (.br (B0 z2 (11:Int)) (.br (B0 z2 (25:Int)) (.br z6 (.br z7 (.br (decide (0≤(7:Int)∧(7:Int)<(h0.length:Int))) (.br (decide (0≤x9∧x9<(x2.length:Int))) (.br (decide (0≤x9∧x9<(x7.length:Int))) (.br (decide (0≤(0:Int)∧(0:Int)<(h0.length:Int))) (.br (B0 z3 (2:Int)) (.br (B0 z3 (13:Int)) (.br (B0 z3 (22:Int)) (.br z4 (.br z5 (.br z4 (.br z5 (.br z4 (.br z5 (.br (decide (0≤(3:Int)∧(3:Int)<(h0.length:Int))) (.br z6 (.br z7 (.next ((x0,(),x2,(),(),(),(),x7,(),IntKind.wrap .i64 (x9+(1:Int)),C0F),([iand .i64 (IntKind.wrap .i64 (z1+(IntKind.wrap .i64 ((ixor .i64 (ixor .i64 (B3 z3 (2:Int)) (B3 z3 (13:Int))) (B3 z3 (22:Int)))+(ixor .i64 (ixor .i64 (iand .i64 z3 z8) (iand .i64 z3 z9)) (iand .i64 z8 z9)))))) (4294967295:Int),h0.getD ((0:Int).toNat) (0:Int),h0.getD ((1:Int).toNat) (0:Int),h0.getD ((2:Int).toNat) (0:Int),iand .i64 (IntKind.wrap .i64 ((h0.getD ((3:Int).toNat) (0:Int))+z1)) (4294967295:Int),h0.getD ((4:Int).toNat) (0:Int),h0.getD ((5:Int).toNat) (0:Int),h0.getD ((6:Int).toNat) (0:Int)],()))) .fail) .fail) .fail) .fail) .fail) .fail) .fail) .fail) .fail) .fail) .fail) .fail) .fail) .fail) .fail) .fail) .fail) .fail) .fail) .fail) .fail) .fail) (.done (.exit 0) A6y ((x0,C0G),(h0,()))))
abbrev A0U:=(List Int)×(List Int)×(List Int)×(Int)×(List Int)
abbrev X8:=Nat×(List Int)×(List Int)
def A9:X8:=(99,([]:List Int),([]:List Int))
noncomputable def A1R (x0 x2 x7:List Int) (x9:Int) (h0:List Int):A0U ⊕ X8:=let z2:=h0.getD ((4:Int).toNat) (0:Int);let z1:=IntKind.wrap .i64 ((IntKind.wrap .i64 ((IntKind.wrap .i64 ((IntKind.wrap .i64 ((h0.getD ((7:Int).toNat) (0:Int))+(ixor .i64 (ixor .i64 (B3 z2 (6:Int)) (B3 z2 (11:Int))) (B3 z2 (25:Int)))))+(ixor .i64 (iand .i64 z2 (h0.getD ((5:Int).toNat) (0:Int))) (iand .i64 (ixor .i64 (4294967295:Int) z2) (h0.getD ((6:Int).toNat) (0:Int))))))+(x2.getD x9.toNat (0:Int))))+(x7.getD x9.toNat (0:Int)));let z3:=h0.getD ((0:Int).toNat) (0:Int);let z4:=decide (0≤(1:Int)∧(1:Int)<(h0.length:Int));let z5:=decide (0≤(2:Int)∧(2:Int)<(h0.length:Int));let z6:=decide (0≤(5:Int)∧(5:Int)<(h0.length:Int));let z7:=decide (0≤(6:Int)∧(6:Int)<(h0.length:Int));let z8:=h0.getD ((1:Int).toNat) (0:Int);let z9:=h0.getD ((2:Int).toNat) (0:Int);(cond (decide (x9<(64:Int))) (cond (decide (0≤(4:Int)∧(4:Int)<(h0.length:Int))) (cond (B0 z2 (6:Int)) (cond (B0 z2 (11:Int)) (cond (B0 z2 (25:Int)) (cond z6 (cond z7 (cond (decide (0≤(7:Int)∧(7:Int)<(h0.length:Int))) (cond (decide (0≤x9∧x9<(x2.length:Int))) (cond (decide (0≤x9∧x9<(x7.length:Int))) (cond (decide (0≤(0:Int)∧(0:Int)<(h0.length:Int))) (cond (B0 z3 (2:Int)) (cond (B0 z3 (13:Int)) (cond (B0 z3 (22:Int)) (cond z4 (cond z5 (cond z4 (cond z5 (cond z4 (cond z5 (cond (decide (0≤(3:Int)∧(3:Int)<(h0.length:Int))) (cond z6 (cond z7 (.inl (x0,x2,x7,IntKind.wrap .i64 (x9+(1:Int)),[iand .i64 (IntKind.wrap .i64 (z1+(IntKind.wrap .i64 ((ixor .i64 (ixor .i64 (B3 z3 (2:Int)) (B3 z3 (13:Int))) (B3 z3 (22:Int)))+(ixor .i64 (ixor .i64 (iand .i64 z3 z8) (iand .i64 z3 z9)) (iand .i64 z8 z9)))))) (4294967295:Int),h0.getD ((0:Int).toNat) (0:Int),h0.getD ((1:Int).toNat) (0:Int),h0.getD ((2:Int).toNat) (0:Int),iand .i64 (IntKind.wrap .i64 ((h0.getD ((3:Int).toNat) (0:Int))+z1)) (4294967295:Int),h0.getD ((4:Int).toNat) (0:Int),h0.getD ((5:Int).toNat) (0:Int),h0.getD ((6:Int).toNat) (0:Int)])) (.inr A9)) (.inr A9)) (.inr A9)) (.inr A9)) (.inr A9)) (.inr A9)) (.inr A9)) (.inr A9)) (.inr A9)) (.inr A9)) (.inr A9)) (.inr A9)) (.inr A9)) (.inr A9)) (.inr A9)) (.inr A9)) (.inr A9)) (.inr A9)) (.inr A9)) (.inr A9)) (.inr A9)) (.inr A9)) (.inr (0,x0,h0)))
noncomputable def C5 (x0 x2 x7:List Int) (x9:Int) (h0:List Int):X8:=itX (fun v:A0U=>A1R v.1 v.2.1 v.2.2.1 v.2.2.2.1 v.2.2.2.2) A9 (x0,x2,x7,x9,h0)
noncomputable def A4a (a:X8):CT:=(.br (a.1==0) (.done (.exit 0) A6y ((a.2.1,C0G),(a.2.2,()))) .fail)
noncomputable def B4B (x0 x2 x7:List Int) (x9:Int) (h0:List Int):CT:=A4a (C5 x0 x2 x7 x9 h0)
noncomputable abbrev A1K {α:Sort _} (f:(List Int)→(List Int)→(List Int)→Int→(List Int)→α) (d:I9.den):α:=f d.1.1 d.1.2.2.1 d.1.2.2.2.2.2.2.2.1 d.1.2.2.2.2.2.2.2.2.2.1 d.2.1
noncomputable abbrev A4r:I9.den→RT I9.den:=(A1K A81)
noncomputable abbrev A8G (v:A0U):I9.den:=((v.1,(),v.2.1,(),(),(),(),v.2.2.1,(),v.2.2.2.1,C0F),(v.2.2.2.2,()))
theorem B3X:(∀ v:A0U,(A81 v.1 v.2.1 v.2.2.1 v.2.2.2.1 v.2.2.2.2).val=relS A8G A4a (A1R v.1 v.2.1 v.2.2.1 v.2.2.2.1 v.2.2.2.2))∧∀ a:X8,CEnd I9.den (A4a a):=⟨fun v=>by repeat' first | apply relB | rfl,fun a=>(cendB aCD cendF)⟩
noncomputable def A8w (x0 x2 x7:List Int) (x9:Int) (h0:List Int):Option (Ex×St):=let z2:=h0.getD ((4:Int).toNat) (0:Int);let z1:=IntKind.wrap .i64 ((IntKind.wrap .i64 ((IntKind.wrap .i64 ((IntKind.wrap .i64 ((h0.getD ((7:Int).toNat) (0:Int))+(ixor .i64 (ixor .i64 (B3 z2 (6:Int)) (B3 z2 (11:Int))) (B3 z2 (25:Int)))))+(ixor .i64 (iand .i64 z2 (h0.getD ((5:Int).toNat) (0:Int))) (iand .i64 (ixor .i64 (4294967295:Int) z2) (h0.getD ((6:Int).toNat) (0:Int))))))+(x2.getD x9.toNat (0:Int))))+(x7.getD x9.toNat (0:Int)));let z3:=h0.getD ((0:Int).toNat) (0:Int);let z4:=decide (0≤(1:Int)∧(1:Int)<(h0.length:Int));let z5:=decide (0≤(2:Int)∧(2:Int)<(h0.length:Int));let z6:=decide (0≤(5:Int)∧(5:Int)<(h0.length:Int));let z7:=decide (0≤(6:Int)∧(6:Int)<(h0.length:Int));let z8:=h0.getD ((1:Int).toNat) (0:Int);let z9:=h0.getD ((2:Int).toNat) (0:Int);(cond (decide (x9<(64:Int))) (cond (decide (0≤(4:Int)∧(4:Int)<(h0.length:Int))) (cond (B0 z2 (6:Int)) (cond (B0 z2 (11:Int)) (cond (B0 z2 (25:Int)) (cond z6 (cond z7 (cond (decide (0≤(7:Int)∧(7:Int)<(h0.length:Int))) (cond (decide (0≤x9∧x9<(x2.length:Int))) (cond (decide (0≤x9∧x9<(x7.length:Int))) (cond (decide (0≤(0:Int)∧(0:Int)<(h0.length:Int))) (cond (B0 z3 (2:Int)) (cond (B0 z3 (13:Int)) (cond (B0 z3 (22:Int)) (cond z4 (cond z5 (cond z4 (cond z5 (cond z4 (cond z5 (cond (decide (0≤(3:Int)∧(3:Int)<(h0.length:Int))) (cond z6 (cond z7 (some (.normal,(⟨((.t false A3J x0)::.junk::(.t false A3J x2)::.junk::.junk::.junk::.junk::(.t true A3J x7)::(.all 0 1)::(ti (IntKind.wrap .i64 (x9+(1:Int))))::B96),[(.rows 3 true (.int .i64) [iand .i64 (IntKind.wrap .i64 (z1+(IntKind.wrap .i64 ((ixor .i64 (ixor .i64 (B3 z3 (2:Int)) (B3 z3 (13:Int))) (B3 z3 (22:Int)))+(ixor .i64 (ixor .i64 (iand .i64 z3 z8) (iand .i64 z3 z9)) (iand .i64 z8 z9)))))) (4294967295:Int),h0.getD ((0:Int).toNat) (0:Int),h0.getD ((1:Int).toNat) (0:Int),h0.getD ((2:Int).toNat) (0:Int),iand .i64 (IntKind.wrap .i64 ((h0.getD ((3:Int).toNat) (0:Int))+z1)) (4294967295:Int),h0.getD ((4:Int).toNat) (0:Int),h0.getD ((5:Int).toNat) (0:Int),h0.getD ((6:Int).toNat) (0:Int)])],0,[]⟩:St))) none) none) none) none) none) none) none) none) none) none) none) none) none) none) none) none) none) none) none) none) none) none) (some ((.exit 0),(⟨((.t false A3J x0)::.junk::.junk::.junk::.junk::.junk::.junk::.junk::(.all 0 1)::B97),[(.rows 3 true (.int .i64) h0)],0,[]⟩:St))))
theorem B2P:RdA G6 aLn 0 A2k I9 0 [] (kepts [] [(0,[0,8])]) (A1K A8w):=by
 intro d
 kernel_rfl
theorem B2X:∀ d:I9.den,(A1K A8w) d=(A4r d).opt 0 []:=by
 intro d
 kernel_rfl
noncomputable abbrev A7B:St→Option Tree:=I9.say 0 [] [] (A1K B4B)
theorem B3u:aPL A7B A2k:=SS.wp2 hlz [] A4r B2P B2X _ (fun d=>Runs.ofI2 (step:=A4r) A8G B3X rfl (d.1.1,d.1.2.2.1,d.1.2.2.2.2.2.2.2.1,d.1.2.2.2.2.2.2.2.2.2.1,d.2.1))
abbrev J0:SS:=⟨(.t false A3J::.junk::.junk::.junk::.junk::.junk::.junk::.junk::.all 0 1::.junk::.junk::.junk::.junk::.junk::.junk::.junk::.junk::.junk::tI::C1Q),[.rows 3 true (.int .i64)]⟩
abbrev A6z:SS:=⟨(.junk::.junk::.junk::.junk::.junk::.junk::.junk::.junk::.all 0 1::C0b),[.rows 3 true (.int .i64)]⟩
noncomputable def A82 (x0:List Int) (x18:Int) (h0:List Int):RT J0.den:=let z1:=decide (0≤x18∧x18<(h0.length:Int));(.br (decide (x18<(8:Int))) (.br z1 (.br (decide (0≤x18∧x18<(x0.length:Int))) (.br z1 (.next ((x0,(),(),(),(),(),(),(),(),(),(),(),(),(),(),(),(),(),IntKind.wrap .i64 (x18+(1:Int)),C2e),(h0.set x18.toNat (iand .i64 (IntKind.wrap .i64 ((h0.getD x18.toNat (0:Int))+(x0.getD x18.toNat (0:Int)))) (4294967295:Int)),()))) .fail) .fail) .fail) (.done (.exit 2) A6z ((C2f),(h0,()))))
abbrev A0V:=(List Int)×(Int)×(List Int)
abbrev X9:=Nat×(List Int)
def A1N:X9:=(99,([]:List Int))
noncomputable def A1S (x0:List Int) (x18:Int) (h0:List Int):A0V ⊕ X9:=let z1:=decide (0≤x18∧x18<(h0.length:Int));(cond (decide (x18<(8:Int))) (cond z1 (cond (decide (0≤x18∧x18<(x0.length:Int))) (cond z1 (.inl (x0,IntKind.wrap .i64 (x18+(1:Int)),h0.set x18.toNat (iand .i64 (IntKind.wrap .i64 ((h0.getD x18.toNat (0:Int))+(x0.getD x18.toNat (0:Int)))) (4294967295:Int)))) (.inr A1N)) (.inr A1N)) (.inr A1N)) (.inr (0,h0)))
noncomputable def O2 (x0:List Int) (x18:Int) (h0:List Int):X9:=itX (fun v:A0V=>A1S v.1 v.2.1 v.2.2) A1N (x0,x18,h0)
noncomputable def A4b (a:X9):CT:=(.br (a.1==0) (.done (.exit 2) A6z ((C2f),(a.2,()))) .fail)
noncomputable def B4C (x0:List Int) (x18:Int) (h0:List Int):CT:=A4b (O2 x0 x18 h0)
noncomputable abbrev A1L {α:Sort _} (f:(List Int)→Int→(List Int)→α) (d:J0.den):α:=f d.1.1 d.1.2.2.2.2.2.2.2.2.2.2.2.2.2.2.2.2.2.2.1 d.2.1
noncomputable abbrev A4s:J0.den→RT J0.den:=(A1L A82)
noncomputable abbrev A8H (v:A0V):J0.den:=((v.1,(),(),(),(),(),(),(),(),(),(),(),(),(),(),(),(),(),v.2.1,C2e),(v.2.2,()))
theorem B3Y:(∀ v:A0V,(A82 v.1 v.2.1 v.2.2).val=relS A8H A4b (A1S v.1 v.2.1 v.2.2))∧∀ a:X9,CEnd J0.den (A4b a):=⟨fun v=>(relB (relB (relB (relB rfl rfl) rfl) rfl) rfl),fun a=>(cendB aCD cendF)⟩
noncomputable def A8x (x0:List Int) (x18:Int) (h0:List Int):Option (Ex×St):=let z1:=decide (0≤x18∧x18<(h0.length:Int));(cond (decide (x18<(8:Int))) (cond z1 (cond (decide (0≤x18∧x18<(x0.length:Int))) (cond z1 (some (.normal,(⟨((.t false A3J x0)::.junk::.junk::.junk::.junk::.junk::.junk::.junk::(.all 0 1)::.junk::.junk::.junk::.junk::.junk::.junk::.junk::.junk::.junk::(ti (IntKind.wrap .i64 (x18+(1:Int))))::C1E),[(.rows 3 true (.int .i64) (h0.set x18.toNat (iand .i64 (IntKind.wrap .i64 ((h0.getD x18.toNat (0:Int))+(x0.getD x18.toNat (0:Int)))) (4294967295:Int))))],0,[]⟩:St))) none) none) none) (some ((.exit 2),(⟨(.junk::.junk::.junk::.junk::.junk::.junk::.junk::.junk::(.all 0 1)::B97),[(.rows 3 true (.int .i64) h0)],0,[]⟩:St))))
theorem B2Q:RdA G6 aLn 2 A2l J0 0 [] (kepts [] [(2,[8])]) (A1L A8x):=by
 intro d
 kernel_rfl
theorem B2Y:∀ d:J0.den,(A1L A8x) d=(A4s d).opt 0 []:=by
 intro d
 kernel_rfl
noncomputable abbrev A7C:St→Option Tree:=J0.say 0 [] [] (A1L B4C)
theorem B3v:aPL A7C A2l:=SS.wp2 hlz [] A4s B2Q B2Y _ (fun d=>Runs.ofI2 (step:=A4s) A8H B3Y rfl (d.1.1,d.1.2.2.2.2.2.2.2.2.2.2.2.2.2.2.2.2.2.2.1,d.2.1))
noncomputable def A0E (a0 a1 a2:List Int):=let z1:=C5 a0 a2 (F1 a1) (0:Int) (([]:List Int)++a0);O2 (z1.2.1) (0:Int) (z1.2.2)
noncomputable def A1e (a0 a1 a2:List Int):List Int:=((A0E a0 a1 a2).2)
noncomputable abbrev B2f (r:List Int):AV×List AObj:=((.t true A3J r),[])
noncomputable abbrev A9e:pshsDen A27→AV×List AObj:=fun d=>B2f (A1e d.1 d.2.1 d.2.2.1)
noncomputable def X5 (a0 a1 a2:List Int):Bool:=(A0u a1)&&((decide ((([]:List Int).length+a0.length)*8≤MAXB))&&(((C5 a0 a2 (F1 a1) (0:Int) (([]:List Int)++a0)).1==0)&&((A0E a0 a1 a2).1==0)))
noncomputable abbrev A5L:pshsDen A27→Bool:=fun d=>X5 d.1 d.2.1 d.2.2.1
noncomputable abbrev B6K:Nat→St→Option Tree:=fun b=>match b with | 0=>A7B | 2=>A7C | _=>fun _=>none
theorem B5y:RunP true G6 (B6K) Try.f111 A27 A5L A9e:=by
 rintro ⟨a0,⟨a1,⟨a2,_⟩⟩⟩ hp
 change X5 a0 a1 a2=true at hp
 unfold X5 at hp
 refine Eq.trans (b:=(let z1:=A0E a0 a1 a2;cond (A0u a1) (cond (decide ((([]:List Int).length+a0.length)*8≤MAXB)) (cond ((C5 a0 a2 (F1 a1) (0:Int) (([]:List Int)++a0)).1==0) (cond (z1.1==0) (some (B2f (z1.2))) none) none) none) none)) (by kernel_rfl) ?_
 exact (cndA hp fun hp=>(cndA hp fun hp=>(cndA hp fun hp=>(cndT hp fun _h=>rfl))))
theorem B60:aPP 111 (sumOf A27 A5L A9e):=pcD true G6 (by
  rw [show loopsIn 0 (bodyOf Try.f111)=[(0,A2k),(2,A2l)] by kernel_rfl];intro p hp;simp only [List.mem_cons,List.mem_nil_iff,or_false] at hp
  rcases hp with rfl | rfl
  ·exact B3u
  ·exact B3v) B5y
noncomputable def S7:Tab:=Tab.add S6 111 (lift (sumOf A27 A5L A9e))
noncomputable def QF7:FuncId→Bool:=qadd QF6 111
theorem G7:aPG S7 QF7:=G6.addQ B60 (cbl Try.f111) (fun _=>rfl)

abbrev C1V:List Sh:=.junk::.junk::.junk::.junk::.junk::.junk::.junk::.junk::.junk::.junk::.junk::.junk::.junk::.junk::.junk::.junk::.junk::.junk::.junk::.junk::.junk::.junk::.junk::B6a
abbrev u54:=((),(),(),(),(),(),(),(),(),(),(),(),(),(),(),(),(),(),(),u35)
abbrev C1I:List AV:=.junk::.junk::.junk::.junk::.junk::.junk::.junk::.junk::.junk::.junk::.junk::.junk::.junk::.junk::.junk::.junk::.junk::.junk::.junk::.junk::.junk::.junk::.junk::B4U
abbrev C1U:List Sh:=.junk::.junk::.junk::.junk::.junk::.junk::.junk::.junk::.junk::.junk::.junk::.junk::.junk::.junk::.junk::.junk::.junk::.junk::.junk::.junk::.junk::B6a
abbrev C2C:List Sh:=.junk::C1U
abbrev u52:=((),(),(),(),(),(),(),(),(),(),(),(),(),(),(),(),(),u35)
abbrev u61:=((),(),(),u58)
abbrev C1H:List AV:=.junk::.junk::.junk::.junk::.junk::.junk::.junk::.junk::.junk::.junk::.junk::.junk::.junk::.junk::.junk::.junk::.junk::.junk::.junk::.junk::.junk::B4U
abbrev C2r:List AV:=.junk::C1H
abbrev A4I:List PSh:=[.t C6]
noncomputable def A3i:Code:=((loopsIn 0 (bodyOf Try.f65)).getD 0 (0,.skip)).2
noncomputable def A3j:Code:=((loopsIn 0 (bodyOf Try.f65)).getD 1 (0,.skip)).2
abbrev M2:SS:=⟨(.junk::.junk::.junk::.t true C6::.t true A3J::.t true A3J::tI::C1V),[]⟩
abbrev A78:SS:=⟨(.junk::.junk::.junk::.junk::.t true A3J::C0w),[]⟩
noncomputable def B0C (x3 x4 x5:List Int) (x6:Int):RT M2.den:=let z1:=IntKind.wrap .i64 (x6+(64:Int));let z2:=(x3.take z1.toNat).drop x6.toNat;(.br (decide (x6<(x3.length:Int))) (.br (decide (0≤x6∧x6≤z1∧z1≤(x3.length:Int))) (.br (X5 x4 z2 x5) (.next (((),(),(),x3,(A1e x4 z2 x5),x5,IntKind.wrap .i64 (x6+(64:Int)),u54),())) .fail) .fail) (.done (.exit 0) A78 (((),(),(),(),x4,u56),())))
abbrev A14:=(List Int)×(List Int)×(List Int)×(Int)
abbrev A0v:=Nat×(List Int)
def A5s:A0v:=(99,([]:List Int))
noncomputable def A2L (x3 x4 x5:List Int) (x6:Int):A14 ⊕ A0v:=let z1:=IntKind.wrap .i64 (x6+(64:Int));let z2:=(x3.take z1.toNat).drop x6.toNat;(cond (decide (x6<(x3.length:Int))) (cond (decide (0≤x6∧x6≤z1∧z1≤(x3.length:Int))) (cond (X5 x4 z2 x5) (.inl (x3,(A1e x4 z2 x5),x5,IntKind.wrap .i64 (x6+(64:Int)))) (.inr A5s)) (.inr A5s)) (.inr (0,x4)))
noncomputable def A07 (x3 x4 x5:List Int) (x6:Int):A0v:=itX (fun v:A14=>A2L v.1 v.2.1 v.2.2.1 v.2.2.2) A5s (x3,x4,x5,x6)
noncomputable def A5h (a:A0v):CT:=(.br (a.1==0) (.done (.exit 0) A78 (((),(),(),(),a.2,u56),())) .fail)
noncomputable def B5R (x3 x4 x5:List Int) (x6:Int):CT:=A5h (A07 x3 x4 x5 x6)
noncomputable abbrev A2z {α:Sort _} (f:(List Int)→(List Int)→(List Int)→Int→α) (d:M2.den):α:=f d.1.2.2.2.1 d.1.2.2.2.2.1 d.1.2.2.2.2.2.1 d.1.2.2.2.2.2.2.1
noncomputable abbrev A5S:M2.den→RT M2.den:=(A2z B0C)
noncomputable abbrev B0d (v:A14):M2.den:=(((),(),(),v.1,v.2.1,v.2.2.1,v.2.2.2,u54),())
theorem B5j:(∀ v:A14,(B0C v.1 v.2.1 v.2.2.1 v.2.2.2).val=relS B0d A5h (A2L v.1 v.2.1 v.2.2.1 v.2.2.2))∧∀ a:A0v,CEnd M2.den (A5h a):=⟨fun v=>(relB (relB (relB rfl rfl) rfl) rfl),fun a=>(cendB aCD cendF)⟩
noncomputable def A9Y (x3 x4 x5:List Int) (x6:Int):Option (Ex×St):=let z1:=IntKind.wrap .i64 (x6+(64:Int));let z2:=(x3.take z1.toNat).drop x6.toNat;(cond (decide (x6<(x3.length:Int))) (cond (decide (0≤x6∧x6≤z1∧z1≤(x3.length:Int))) (cond (X5 x4 z2 x5) (some (.normal,(⟨(.junk::.junk::.junk::(.t true C6 x3)::(.t true A3J (A1e x4 z2 x5))::(.t true A3J x5)::(ti z1)::C1I),[],0,[]⟩:St))) none) none) (some ((.exit 0),(⟨(.junk::.junk::.junk::.junk::(.t true A3J x4)::C0o),[],0,[]⟩:St))))
theorem B3G:RdA G7 aLn 0 A3i M2 0 [] (kepts [] [(0,[4])]) (A2z A9Y):=by
 intro d
 kernel_rfl
theorem B3P:∀ d:M2.den,(A2z A9Y) d=(A5S d).opt 0 []:=by
 intro d
 kernel_rfl
noncomputable abbrev A8S:St→Option Tree:=M2.say 0 [] [(4,1000000,.bool)] (A2z B5R)
theorem B43:aPL A8S A3i:=SS.wp2 hlz [(4,1000000,.bool)] A5S B3G B3P _ (fun d=>Runs.ofI2 (step:=A5S) B0d B5j rfl (d.1.2.2.2.1,d.1.2.2.2.2.1,d.1.2.2.2.2.2.1,d.1.2.2.2.2.2.2.1))
abbrev M3:SS:=⟨(.junk::.junk::.junk::.junk::.t true A3J::.junk::.junk::.all 0 1::tI::C1U),[.rows 5 true (.int .u8)]⟩
abbrev A79:SS:=⟨(.junk::.junk::.junk::.junk::.junk::.junk::.junk::.all 0 1::C2C),[.rows 5 true (.int .u8)]⟩
noncomputable def B0D (x4:List Int) (x8:Int) (h0:List Int):RT M3.den:=let z1:=x4.getD x8.toNat (0:Int);let z2:=decide (0≤x8∧x8<(x4.length:Int));let z3:=Int.fdiv z1 (2 ^ (24));let z4:=Int.fdiv z1 (2 ^ (16));let z5:=Int.fdiv z1 (2 ^ (8));(.br (decide (x8<(8:Int))) (.br z2 (.br z2 (.br z2 (.br z2 (.br (decide ((h0.length+[IntKind.wrap .u8 z3,IntKind.wrap .u8 z4,IntKind.wrap .u8 z5,IntKind.wrap .u8 z1].length)*1≤MAXB)) (.next (((),(),(),(),x4,(),(),(),IntKind.wrap .i64 (x8+(1:Int)),u52),(h0++[IntKind.wrap .u8 z3,IntKind.wrap .u8 z4,IntKind.wrap .u8 z5,IntKind.wrap .u8 z1],()))) .fail) .fail) .fail) .fail) .fail) (.done (.exit 2) A79 ((u61),(h0,()))))
abbrev A15:=(List Int)×(Int)×(List Int)
abbrev A0w:=Nat×(List Int)
def Y5:A0w:=(99,([]:List Int))
noncomputable def A2M (x4:List Int) (x8:Int) (h0:List Int):A15 ⊕ A0w:=let z1:=x4.getD x8.toNat (0:Int);let z2:=decide (0≤x8∧x8<(x4.length:Int));let z3:=Int.fdiv z1 (2 ^ (24));let z4:=Int.fdiv z1 (2 ^ (16));let z5:=Int.fdiv z1 (2 ^ (8));(cond (decide (x8<(8:Int))) (cond z2 (cond z2 (cond z2 (cond z2 (cond (decide ((h0.length+[IntKind.wrap .u8 z3,IntKind.wrap .u8 z4,IntKind.wrap .u8 z5,IntKind.wrap .u8 z1].length)*1≤MAXB)) (.inl (x4,IntKind.wrap .i64 (x8+(1:Int)),h0++[IntKind.wrap .u8 z3,IntKind.wrap .u8 z4,IntKind.wrap .u8 z5,IntKind.wrap .u8 z1])) (.inr Y5)) (.inr Y5)) (.inr Y5)) (.inr Y5)) (.inr Y5)) (.inr (0,h0)))
noncomputable def R8 (x4:List Int) (x8:Int) (h0:List Int):A0w:=itX (fun v:A15=>A2M v.1 v.2.1 v.2.2) Y5 (x4,x8,h0)
noncomputable def A5i (a:A0w):CT:=(.br (a.1==0) (.done (.exit 2) A79 ((u61),(a.2,()))) .fail)
noncomputable def B5S (x4:List Int) (x8:Int) (h0:List Int):CT:=A5i (R8 x4 x8 h0)
noncomputable abbrev A2A {α:Sort _} (f:(List Int)→Int→(List Int)→α) (d:M3.den):α:=f d.1.2.2.2.2.1 d.1.2.2.2.2.2.2.2.2.1 d.2.1
noncomputable abbrev A5T:M3.den→RT M3.den:=(A2A B0D)
noncomputable abbrev B0e (v:A15):M3.den:=(((),(),(),(),v.1,(),(),(),v.2.1,u52),(v.2.2,()))
theorem B5k:(∀ v:A15,(B0D v.1 v.2.1 v.2.2).val=relS B0e A5i (A2M v.1 v.2.1 v.2.2))∧∀ a:A0w,CEnd M3.den (A5i a):=⟨fun v=>by repeat' first | apply relB | rfl,fun a=>(cendB aCD cendF)⟩
noncomputable def A9Z (x4:List Int) (x8:Int) (h0:List Int):Option (Ex×St):=let z1:=x4.getD x8.toNat (0:Int);let z2:=decide (0≤x8∧x8<(x4.length:Int));let z3:=Int.fdiv z1 (2 ^ (24));let z4:=Int.fdiv z1 (2 ^ (16));let z5:=Int.fdiv z1 (2 ^ (8));(cond (decide (x8<(8:Int))) (cond z2 (cond z2 (cond z2 (cond z2 (cond (decide ((h0.length+[IntKind.wrap .u8 z3,IntKind.wrap .u8 z4,IntKind.wrap .u8 z5,IntKind.wrap .u8 z1].length)*1≤MAXB)) (some (.normal,(⟨(.junk::.junk::.junk::.junk::(.t true A3J x4)::.junk::.junk::(.all 0 1)::(ti (IntKind.wrap .i64 (x8+(1:Int))))::C1H),[(.rows 5 true (.int .u8) (h0++[IntKind.wrap .u8 z3,IntKind.wrap .u8 z4,IntKind.wrap .u8 z5,IntKind.wrap .u8 z1]))],0,[]⟩:St))) none) none) none) none) none) (some ((.exit 2),(⟨(.junk::.junk::.junk::.junk::.junk::.junk::.junk::(.all 0 1)::C2r),[(.rows 5 true (.int .u8) h0)],0,[]⟩:St))))
theorem B3H:RdA G7 aLn 2 A3j M3 0 [] (kepts [] [(2,[7])]) (A2A A9Z):=by
 intro d
 kernel_rfl
theorem B3Q:∀ d:M3.den,(A2A A9Z) d=(A5T d).opt 0 []:=by
 intro d
 kernel_rfl
noncomputable abbrev A8T:St→Option Tree:=M3.say 0 [] [] (A2A B5S)
theorem B44:aPL A8T A3j:=SS.wp2 hlz [] A5T B3H B3Q _ (fun d=>Runs.ofI2 (step:=A5T) B0e B5k rfl (d.1.2.2.2.2.1,d.1.2.2.2.2.2.2.2.2.1,d.2.1))
noncomputable def A0q (a0:List Int):=A07 (F6 a0) [(1779033703:Int),(3144134277:Int),(1013904242:Int),(2773480762:Int),(1359893119:Int),(2600822924:Int),(528734635:Int),(1541459225:Int)] A6t (0:Int)
noncomputable def A1c (a0:List Int):ByteArray:=(⟨(((R8 ((A0q a0).2) (0:Int) ([]:List Int)).2).map fun n=>UInt8.ofNat n.toNat).toArray⟩:ByteArray)
noncomputable abbrev B4c (r:ByteArray):AV×List AObj:=((.t true .str r),[])
noncomputable abbrev B0T:pshsDen A4I→AV×List AObj:=fun d=>B4c (A1c d.1)
noncomputable def A0H (a0:List Int):Bool:=(A1z a0)&&(((A0q a0).1==0)&&((R8 ((A0q a0).2) (0:Int) ([]:List Int)).1==0))
noncomputable abbrev A7g:pshsDen A4I→Bool:=fun d=>A0H d.1
noncomputable abbrev B7K:Nat→St→Option Tree:=fun b=>match b with | 0=>A8S | 2=>A8T | _=>fun _=>none
theorem B6r:RunP true G7 (B7K) Try.f65 A4I A7g B0T:=by
 rintro ⟨a0,_⟩ hp
 change A0H a0=true at hp
 unfold A0H at hp
 refine Eq.trans (b:=(cond (A1z a0) (cond ((A0q a0).1==0) (cond ((R8 ((A0q a0).2) (0:Int) ([]:List Int)).1==0) (some (B4c (⟨(((R8 ((A0q a0).2) (0:Int) ([]:List Int)).2).map fun n=>UInt8.ofNat n.toNat).toArray⟩:ByteArray))) none) none) none)) (by kernel_rfl) ?_
 exact (cndA hp fun hp=>(cndA hp fun hp=>(cndT hp fun _h=>rfl)))
theorem B7Y:aPP 65 (sumOf A4I A7g B0T):=pcD true G7 (by
  rw [show loopsIn 0 (bodyOf Try.f65)=[(0,A3i),(2,A3j)] by kernel_rfl];intro p hp;simp only [List.mem_cons,List.mem_nil_iff,or_false] at hp
  rcases hp with rfl | rfl
  ·exact B43
  ·exact B44) B6r
noncomputable def S8:Tab:=Tab.add S7 65 (lift (sumOf A4I A7g B0T))
noncomputable def QF8:FuncId→Bool:=qadd QF7 65
theorem G8:aPG S8 QF8:=G7.addQ B7Y (cbl Try.f65) (fun _=>rfl)

abbrev A26:List PSh:=[.t C6,.t (.int .i64)]
noncomputable def A1d (a0:List Int) (a1:Int):ByteArray×Int×Bool:=(cond (!((A4 a0 a1).2.2)) (bE,(0:Int),false) (cond (decide (((A4 a0 a1).1) > (IntKind.wrap .i64 ((a0.length:Int) - ((A4 a0 a1).2.1))))) (bE,(0:Int),false) ((⟨(((a0.take (IntKind.wrap .i64 (((A4 a0 a1).2.1)+((A4 a0 a1).1))).toNat).drop ((A4 a0 a1).2.1).toNat).map fun n=>UInt8.ofNat n.toNat).toArray⟩:ByteArray),IntKind.wrap .i64 (((A4 a0 a1).2.1)+((A4 a0 a1).1)),true)))
noncomputable abbrev A1p (r:ByteArray×Int×Bool):AV×List AObj:=((.tup [(.t true .str r.1),(ti r.2.1),(.t true .bool r.2.2)]),[])
noncomputable abbrev A9d:pshsDen A26→AV×List AObj:=fun d=>A1p (A1d d.1 d.2.1)
noncomputable def L2 (a0:List Int) (a1:Int):Bool:=let z1:=A4 a0 a1;let z2:=IntKind.wrap .i64 ((z1.2.1)+(z1.1));(E1 a0 a1)&&(cond (!(z1.2.2)) true (cond (decide ((z1.1) > (IntKind.wrap .i64 ((a0.length:Int) - (z1.2.1))))) true (decide (0≤(z1.2.1)∧(z1.2.1)≤z2∧z2≤(a0.length:Int)))))
noncomputable abbrev A5K:pshsDen A26→Bool:=fun d=>L2 d.1 d.2.1
theorem B5x:RunP true G8 aLn Try.f123 A26 A5K A9d:=by
 rintro ⟨a0,⟨a1,_⟩⟩ hp
 change L2 a0 a1=true at hp
 unfold L2 at hp
 refine Eq.trans (b:=(cond (E1 a0 a1) (cond (!((A4 a0 a1).2.2)) (some (A1p ((⟨#[]⟩:ByteArray),(0:Int),false))) (cond (decide (((A4 a0 a1).1) > (IntKind.wrap .i64 ((a0.length:Int) - ((A4 a0 a1).2.1))))) (some (A1p ((⟨#[]⟩:ByteArray),(0:Int),false))) (cond (decide (0≤((A4 a0 a1).2.1)∧((A4 a0 a1).2.1)≤(IntKind.wrap .i64 (((A4 a0 a1).2.1)+((A4 a0 a1).1)))∧(IntKind.wrap .i64 (((A4 a0 a1).2.1)+((A4 a0 a1).1)))≤(a0.length:Int))) (some (A1p ((⟨(((a0.take (IntKind.wrap .i64 (((A4 a0 a1).2.1)+((A4 a0 a1).1))).toNat).drop ((A4 a0 a1).2.1).toNat).map fun n=>UInt8.ofNat n.toNat).toArray⟩:ByteArray),IntKind.wrap .i64 (((A4 a0 a1).2.1)+((A4 a0 a1).1)),true))) none))) none)) (by kernel_rfl) ?_
 exact (cndA hp fun hp=>(O8 A1p hp (fun hp=>rfl) (fun hp=>(O8 A1p hp (fun hp=>rfl) (fun hp=>(cndT hp fun _h=>rfl))))))
theorem B6Z:aPP 123 (sumOf A26 A5K A9d):=pcD true G8 hlz B5x
noncomputable def S9:Tab:=Tab.add S8 123 (lift (sumOf A26 A5K A9d))
noncomputable def QF9:FuncId→Bool:=qadd QF8 123
theorem G9:aPG S9 QF9:=G8.addQ B6Z (cbl Try.f123) (fun _=>rfl)

abbrev A9C:List PSh:=[.t (.int .i64),.t (.int .i64),.t (.int .i64)]
noncomputable def P8 (a0 a1 a2:Int):Bool:=(cond (decide (a0 ≥ a1)) (decide (a0≤a2)) false)
noncomputable abbrev B1X (r:Bool):AV×List AObj:=((.t true .bool r),[])
noncomputable abbrev B4R:pshsDen A9C→AV×List AObj:=fun d=>B1X (P8 d.1 d.2.1 d.2.2.1)
noncomputable abbrev B09:pshsDen A9C→Bool:=fun d=>true
theorem B8r:RunP true G9 aLn Try.f72 A9C B09 B4R:=by
 rintro ⟨a0,⟨a1,⟨a2,_⟩⟩⟩ hp
 refine Eq.trans (b:=(cond (decide (a0 ≥ a1)) (some (B1X (decide (a0≤a2)))) (some (B1X false)))) (by kernel_rfl) ?_
 exact (F9 B1X (fun _h=>rfl) (fun _h=>rfl))
theorem B9y:aPP 72 (sumOf A9C B09 B4R):=pcD true G9 hlz B8r
noncomputable def S10:Tab:=Tab.add S9 72 (lift (sumOf A9C B09 B4R))
noncomputable def C0H:FuncId→Bool:=qadd QF9 72
theorem G10:aPG S10 C0H:=G9.addQ B9y (cbl Try.f72) (fun _=>rfl)

abbrev B9K:List Sh:=.junk::.junk::.junk::.junk::.junk::B4V
abbrev C0t:List Sh:=.junk::B9K
abbrev B7a:List Sh:=.junk::.junk::C0t
abbrev u25:=((),(),u23)
abbrev u24:=((),u23)
abbrev u27:=((),(),u25)
noncomputable def A5N (s:ByteArray) (i:Nat):Bool:=let z1:=IntKind.wrap .i64 (bt s (i:Int));P8 z1 97 122||P8 z1 48 57
abbrev A6H:List PSh:=[.t .str]
abbrev A0o:SS:=⟨(.t true .str::.junk::.junk::tI::B9K),[]⟩
abbrev A9w:SS:=⟨(.junk::.junk::.t true .bool::C0t),[]⟩
abbrev A9x:SS:=⟨(.t true .str::B7a),[]⟩
noncomputable def A7K (x0:ByteArray) (x3:Int):RT A0o.den:=let z1:=decide (0≤x3∧x3<(x0.size:Int));let z2:=IntKind.wrap .i64 (bt x0 x3);(.br (decide (x3<(x0.size:Int))) (.br z1 (.br (!(P8 z2 (97:Int) (122:Int))) (.br z1 (.br (!(P8 z2 (48:Int) (57:Int))) (.done .ret A9w (((),(),false,u25),())) (.next ((x0,(),(),IntKind.wrap .i64 (x3+(1:Int)),u24),()))) .fail) (.next ((x0,(),(),IntKind.wrap .i64 (x3+(1:Int)),u24),()))) .fail) (.done (.exit 0) A9x ((x0,u27),())))
noncomputable def A3b (x0:ByteArray) (x3:Int):CT:=(.br (decide (0≤x3)&&okS x0) (.br (allF (A5N x0) (x0.size - x3.toNat) x3.toNat) (.done (.exit 0) A9x ((x0,u27),())) (.done .ret A9w (((),(),false,u25),()))) .fail)
noncomputable abbrev A2e:A0o.den→RT A0o.den:=(fun d=>A7K d.1.1 d.1.2.2.2.1)
noncomputable abbrev B1w (x0:ByteArray) (x3:Int):A0o.den:=((x0,(),(),x3,u24),())
noncomputable def A8f:Code:=((loopsIn 0 (bodyOf Try.f154)).getD 0 (0,.skip)).2
theorem B6O (x0:ByteArray) (x3:Int):(A3b x0 x3).val (D:=A0o.den)=.fail∨Runs A2e (B1w x0 x3) (A3b x0 x3).val:=by
 cases hc:(decide (0≤x3)&&okS x0) with
 | false=>left;simp only [A3b,CT.val,hc,cond_false]
 | true =>
  right
  simp only [A3b,CT.val,hc,cond_true]
  simp only [Bool.and_eq_true,decide_eq_true_eq] at hc
  obtain ⟨i,rfl⟩:=Int.eq_ofNat_of_zero_le hc.1
  have hs:=okS_le hc.2
  simp only [Int.toNat_natCast]
  refine Runs.scan (fun j=>B1w x0 (j:Int)) (x0.size) (A5N x0) (fun i hi=>?_) (fun i hi=>?_) ⟨_,_,_,rfl,by simp⟩ ⟨_,_,_,rfl,by simp⟩ _ _ rfl
  ·
   have h0a:decide ((i:Int)<(x0.size:Int))=true:=decide_eq_true (by omega)
   have h0b:decide (0≤(i:Int)∧(i:Int)<(x0.size:Int))=true:=decide_eq_true (by omega)
   simp only [A2e,A7K,RT.val,h0a,h0b,cond_true,wrapS i (by omega),Int.toNat_natCast]
   simp only [A5N]
   cases P8 (IntKind.wrap .i64 (bt x0 (i:Int))) 97 122<;>cases P8 (IntKind.wrap .i64 (bt x0 (i:Int))) 48 57<;>rfl
  ·have h1:decide ((i:Int)<(x0.size:Int))=false:=decide_eq_false (by omega)
   simp only [A2e,A7K,RT.val,h1,cond_false]
theorem B5b:RdA G10 aLn 0 A8f A0o 0 [] (kepts [2] [(0,[0])]) (fun d=>(A2e d).opt 0 []):=by
 intro d
 kernel_rfl
noncomputable abbrev B0t:St→Option Tree:=A0o.say 0 [] [] (fun d=>A3b d.1.1 d.1.2.2.2.1)
theorem B6d:aPL B0t A8f:=SS.wp2 hlz [] A2e B5b (fun d=>rfl) _ (fun d=>B6O d.1.1 d.1.2.2.2.1)
noncomputable def A4o (a0:ByteArray):Bool:=(cond (allF (A5N a0) (a0.size - (0:Int).toNat) (0:Int).toNat) (P8 (a0.size:Int) (1:Int) (12:Int)) false)
noncomputable abbrev A9K (r:Bool):AV×List AObj:=((.t true .bool r),[])
noncomputable abbrev B2p:pshsDen A6H→AV×List AObj:=fun d=>A9K (A4o d.1)
noncomputable def A7r (a0:ByteArray):Bool:=okS a0
noncomputable abbrev A9o:pshsDen A6H→Bool:=fun d=>A7r d.1
noncomputable abbrev B8z:Nat→St→Option Tree:=fun b=>match b with | 0=>B0t | _=>fun _=>none
theorem B7p:RunP true G10 (B8z) Try.f154 A6H A9o B2p:=by
 rintro ⟨a0,_⟩ hp
 change A7r a0=true at hp
 unfold A7r at hp
 refine Eq.trans (b:=(cond (decide (0≤(0:Int))&&okS a0) (cond (allF (A5N a0) (a0.size - (0:Int).toNat) (0:Int).toNat) (some (A9K (P8 (a0.size:Int) (1:Int) (12:Int)))) (some (A9K false))) none)) (by kernel_rfl) ?_
 exact (cndT (by first | rfl | decide | exact hp | (simp only [Bool.and_eq_true] at hp;simp only [hp];done) | (simp [*];done) | (simp [okL] at hp;simp [okL,MAXB];omega) | (simp_all;done) | (simp at *;omega)) (fun _h=>(F9 A9K (fun _h=>rfl) (fun _h=>rfl))))
theorem B8I:aPP 154 (sumOf A6H A9o B2p):=pcD true G10 (hl1 (i:=0) (by kernel_rfl) B6d) B7p
noncomputable def S11:Tab:=Tab.add S10 154 (lift (sumOf A6H A9o B2p))
noncomputable def C0I:FuncId→Bool:=qadd C0H 154
theorem G11:aPG S11 C0I:=G10.addQ B8I (cbl Try.f154) (fun _=>rfl)

abbrev A9D:List PSh:=[.agg [(.int .i64),.str,.str]]
noncomputable def B0x (a0:Int) (a1 a2:ByteArray):Bool:=let z1:=decide ((a2.size:Int)≤(20:Int));(cond (!(P8 a0 (1:Int) (3:Int))) false (cond (a0==(2:Int)) (cond (!(a2.toList==bE.toList)) false (cond (A4o a1) z1 false)) (cond (A4o a1) z1 false)))
noncomputable abbrev A04 (r:Bool):AV×List AObj:=((.t true .bool r),[])
noncomputable abbrev B4S:pshsDen A9D→AV×List AObj:=fun d=>A04 (B0x d.1.1 d.1.2.1 d.1.2.2.1)
noncomputable def A7Y (a0:Int) (a1 a2:ByteArray):Bool:=okS a1
noncomputable abbrev B1a:pshsDen A9D→Bool:=fun d=>A7Y d.1.1 d.1.2.1 d.1.2.2.1
theorem B8s:RunP true G11 aLn Try.f118 A9D B1a B4S:=by
 rintro ⟨⟨a0,⟨a1,⟨a2,_⟩⟩⟩,_⟩ hp
 change A7Y a0 a1 a2=true at hp
 unfold A7Y at hp
 refine Eq.trans (b:=(let z1:=A04 (decide ((a2.size:Int)≤(20:Int)));cond (!(P8 a0 (1:Int) (3:Int))) (some (A04 false)) (cond (a0==(2:Int)) (cond (!(a2.toList==(⟨#[]⟩:ByteArray).toList)) (some (A04 false)) (cond (A7r a1) (cond (A4o a1) (some z1) (some (A04 false))) none)) (cond (A7r a1) (cond (A4o a1) (some z1) (some (A04 false))) none)))) (by kernel_rfl) ?_
 exact (F9 A04 (fun _h=>rfl) (fun _h=>(F9 A04 (fun _h=>(F9 A04 (fun _h=>rfl) (fun _h=>(cndT (by first | rfl | decide | exact hp | (simp only [Bool.and_eq_true] at hp;simp only [hp];done) | (simp [*];done) | (simp [okL] at hp;simp [okL,MAXB];omega) | (simp_all;done) | (simp at *;omega)) (fun _h=>(F9 A04 (fun _h=>rfl) (fun _h=>rfl))))))) (fun _h=>(cndT (by first | rfl | decide | exact hp | (simp only [Bool.and_eq_true] at hp;simp only [hp];done) | (simp [*];done) | (simp [okL] at hp;simp [okL,MAXB];omega) | (simp_all;done) | (simp at *;omega)) (fun _h=>(F9 A04 (fun _h=>rfl) (fun _h=>rfl))))))))
theorem B9z:aPP 118 (sumOf A9D B1a B4S):=pcD true G11 hlz B8s
noncomputable def S12:Tab:=Tab.add S11 118 (lift (sumOf A9D B1a B4S))
noncomputable def C0J:FuncId→Bool:=qadd C0I 118
theorem G12:aPG S12 C0J:=G11.addQ B9z (cbl Try.f118) (fun _=>rfl)

abbrev C0u:List Sh:=.junk::.junk::.junk::B6a
abbrev B88:List Sh:=.junk::C0u
abbrev B9L:List Sh:=.junk::.junk::B88
abbrev u37:=((),(),u35)
abbrev B83:List AV:=.junk::.junk::.junk::.junk::B4U
abbrev C1F:List AV:=.junk::.junk::.junk::B4U
abbrev B84:List AV:=.junk::.junk::B83
noncomputable def A44 (l:Lq1) (i:Nat):Bool:=let z1:=l.getD i dOp;B0x z1.1 z1.2.1 z1.2.2&&(decide (i=0)||Op.bytesLess (l.getD (i - 1) dOp).2.1.toList z1.2.1.toList)
abbrev A6I:List PSh:=[.t tq3]
abbrev V4:SS:=⟨(.t false tq3::.junk::.junk::tI::C0u),[]⟩
abbrev A5a:SS:=⟨(.junk::.junk::.t true .bool::B88),[]⟩
abbrev A9y:SS:=⟨(.t false tq3::B9L),[]⟩
noncomputable def A7L (x0:Lq1) (x3:Int):RT V4.den:=let z1:=x0.getD x3.toNat ((0:Int),(bE,bE));let z2:=IntKind.wrap .i64 (x3 - (1:Int));let z3:=decide (0≤x3∧x3<(x0.length:Int));(.br (decide (x3<(x0.length:Int))) (.br z3 (.br (A7Y (z1.1) ((z1.2).1) ((z1.2).2)) (.br (!(B0x (z1.1) ((z1.2).1) ((z1.2).2))) (.done .ret A5a (((),(),false,u35),())) (.br (decide (x3 > (0:Int))) (.br (decide (0≤z2∧z2<(x0.length:Int))) (.br z3 (.br (!(Op.bytesLess (((x0.getD (z2.toNat) ((0:Int),(bE,bE))).2).1).toList ((z1.2).1).toList)) (.done .ret A5a (((),(),false,u35),())) (.next ((x0,(),(),IntKind.wrap .i64 (x3+(1:Int)),u34),()))) .fail) .fail) (.next ((x0,(),(),IntKind.wrap .i64 (x3+(1:Int)),u34),())))) .fail) .fail) (.done (.exit 0) A9y ((x0,u37),())))
noncomputable def A3c (x0:Lq1) (x3:Int):CT:=(.br (decide (0≤x3)&&F5 x0) (.br (allF (A44 x0) (x0.length - x3.toNat) x3.toNat) (.done (.exit 0) A9y ((x0,u37),())) (.done .ret A5a (((),(),false,u35),()))) .fail)
noncomputable abbrev A2f:V4.den→RT V4.den:=(fun d=>A7L d.1.1 d.1.2.2.2.1)
noncomputable abbrev B1x (x0:Lq1) (x3:Int):V4.den:=((x0,(),(),x3,u34),())
noncomputable def A8g:Code:=((loopsIn 0 (bodyOf Try.f73)).getD 0 (0,.skip)).2
theorem B6P (x0:Lq1) (x3:Int):(A3c x0 x3).val (D:=V4.den)=.fail∨Runs A2f (B1x x0 x3) (A3c x0 x3).val:=by
 cases hc:(decide (0≤x3)&&F5 x0) with
 | false=>left;simp only [A3c,CT.val,hc,cond_false]
 | true =>
  right
  simp only [A3c,CT.val,hc,cond_true]
  simp only [Bool.and_eq_true,decide_eq_true_eq] at hc
  obtain ⟨i,rfl⟩:=Int.eq_ofNat_of_zero_le hc.1
  have hs:=A0F hc.2
  simp only [Int.toNat_natCast]
  refine Runs.scan (fun j=>B1x x0 (j:Int)) (x0.length) (A44 x0) (fun i hi=>?_) (fun i hi=>?_) ⟨_,_,_,rfl,by simp⟩ ⟨_,_,_,rfl,by simp⟩ _ _ rfl
  ·
   have h0a:decide ((i:Int)<(x0.length:Int))=true:=decide_eq_true (by omega)
   have h0b:decide (0≤(i:Int)∧(i:Int)<(x0.length:Int))=true:=decide_eq_true (by omega)
   simp only [A2f,A7L,RT.val,h0a,h0b,cond_true,wrapS i (by omega),Int.toNat_natCast]
   have hq:A7Y (x0.getD i dOp).1 (x0.getD i dOp).2.1 (x0.getD i dOp).2.2=true:=(A62 hc.2 i hi).1
   simp only [dOp] at hq
   simp only [hq,cond_true,A44,dOp]
   cases B0x (x0.getD i ((0:Int),((⟨#[]⟩:ByteArray),(⟨#[]⟩:ByteArray)))).1 (x0.getD i ((0:Int),((⟨#[]⟩:ByteArray),(⟨#[]⟩:ByteArray)))).2.1 (x0.getD i ((0:Int),((⟨#[]⟩:ByteArray),(⟨#[]⟩:ByteArray)))).2.2 with
   | false=>rfl
   | true =>
    cases i with
    | zero=>rfl
    | succ i =>
     have h3:decide (((i+1:Nat):Int) > 0)=true:=decide_eq_true (by omega)
     have h4:IntKind.wrap .i64 (((i+1:Nat):Int) - 1)=(i:Int):=by have:=wrap64 (n:=((i+1:Nat):Int) - 1) (by omega) (by omega);omega
     have h5:decide (0≤(i:Int)∧(i:Int)<(x0.length:Int))=true:=decide_eq_true (by omega)
     have h6:decide (i+1=0)=false:=by simp
     simp only [h3,h4,h5,h6,cond_true,Bool.true_and,Bool.false_or,Int.toNat_natCast,Nat.add_sub_cancel,Bool.not_true,cond_false]
     cases Op.bytesLess (x0.getD i ((0:Int),((⟨#[]⟩:ByteArray),(⟨#[]⟩:ByteArray)))).2.1.toList (x0.getD (i+1) ((0:Int),((⟨#[]⟩:ByteArray),(⟨#[]⟩:ByteArray)))).2.1.toList<;>rfl
  ·have h1:decide ((i:Int)<(x0.length:Int))=false:=decide_eq_false (by omega)
   simp only [A2f,A7L,RT.val,h1,cond_false]
noncomputable def B1t (x0:Lq1) (x3:Int):Option (Ex×St):=let z1:=x0.getD x3.toNat ((0:Int),(bE,bE));let z2:=(⟨((.t false tq3 x0)::.junk::.junk::(ti (IntKind.wrap .i64 (x3+(1:Int))))::C1F),[],0,[]⟩:St);let z3:=IntKind.wrap .i64 (x3 - (1:Int));let z4:=(⟨(.junk::.junk::(.t true .bool false)::B83),[],0,[]⟩:St);let z5:=decide (0≤x3∧x3<(x0.length:Int));(cond (decide (x3<(x0.length:Int))) (cond z5 (cond (A7Y (z1.1) ((z1.2).1) ((z1.2).2)) (cond (!(B0x (z1.1) ((z1.2).1) ((z1.2).2))) (some (.ret,z4)) (cond (decide (x3 > (0:Int))) (cond (decide (0≤z3∧z3<(x0.length:Int))) (cond z5 (cond (!(Op.bytesLess (((x0.getD (z3.toNat) ((0:Int),(bE,bE))).2).1).toList ((z1.2).1).toList)) (some (.ret,z4)) (some (.normal,z2))) none) none) (some (.normal,z2)))) none) none) (some ((.exit 0),(⟨((.t false tq3 x0)::B84),[],0,[]⟩:St))))
theorem B5c:RdA G12 aLn 0 A8g V4 0 [] (kepts [2] [(0,[0])]) (fun d=>B1t d.1.1 d.1.2.2.2.1):=by
 intro d
 kernel_rfl
theorem B5e:∀ d:V4.den,(fun d=>B1t d.1.1 d.1.2.2.2.1) d=(A2f d).opt 0 []:=by
 intro d
 kernel_rfl
noncomputable abbrev B0u:St→Option Tree:=V4.say 0 [] [] (fun d=>A3c d.1.1 d.1.2.2.2.1)
theorem B6e:aPL B0u A8g:=SS.wp2 hlz [] A2f B5c B5e _ (fun d=>B6P d.1.1 d.1.2.2.2.1)
noncomputable def L4 (a0:Lq1):Bool:=(cond (allF (A44 a0) (a0.length - (0:Int).toNat) (0:Int).toNat) (P8 (a0.length:Int) (1:Int) (8:Int)) false)
noncomputable abbrev A9L (r:Bool):AV×List AObj:=((.t true .bool r),[])
noncomputable abbrev B2q:pshsDen A6I→AV×List AObj:=fun d=>A9L (L4 d.1)
noncomputable def A3D (a0:Lq1):Bool:=F5 a0
noncomputable abbrev A9p:pshsDen A6I→Bool:=fun d=>A3D d.1
noncomputable abbrev B8A:Nat→St→Option Tree:=fun b=>match b with | 0=>B0u | _=>fun _=>none
theorem B7q:RunP true G12 (B8A) Try.f73 A6I A9p B2q:=by
 rintro ⟨a0,_⟩ hp
 change A3D a0=true at hp
 unfold A3D at hp
 refine Eq.trans (b:=(cond (decide (0≤(0:Int))&&F5 a0) (cond (allF (A44 a0) (a0.length - (0:Int).toNat) (0:Int).toNat) (some (A9L (P8 (a0.length:Int) (1:Int) (8:Int)))) (some (A9L false))) none)) (by kernel_rfl) ?_
 exact (cndT (by first | rfl | decide | exact hp | (simp only [Bool.and_eq_true] at hp;simp only [hp];done) | (simp [*];done) | (simp [okL] at hp;simp [okL,MAXB];omega) | (simp_all;done) | (simp at *;omega)) (fun _h=>(F9 A9L (fun _h=>rfl) (fun _h=>rfl))))
theorem B8J:aPP 73 (sumOf A6I A9p B2q):=pcD true G12 (hl1 (i:=0) (by kernel_rfl) B6e) B7q
noncomputable def S13:Tab:=Tab.add S12 73 (lift (sumOf A6I A9p B2q))
noncomputable def C0K:FuncId→Bool:=qadd C0J 73
theorem G13:aPG S13 C0K:=G12.addQ B8J (cbl Try.f73) (fun _=>rfl)

abbrev C0x:List Sh:=.junk::.junk::.junk::.junk::.junk::.junk::.junk::.junk::.junk::.junk::.junk::.junk::.junk::.junk::.junk::.junk::.junk::B9M
abbrev tq5:Ty:=.pair (.int .i64) (.pair .str .str)
abbrev C0y:List Sh:=.junk::.junk::.junk::.junk::.junk::.junk::C0x
abbrev C1X:List Sh:=.junk::C0x
abbrev u87:=((),(),(),(),(),(),(),(),(),(),(),(),(),(),(),(),(),(),(),(),(),(),u65)
abbrev u81:=((),(),(),(),(),(),(),(),(),(),(),(),(),(),(),(),u65)
abbrev u84:=((),(),(),u81)
abbrev C0q:List AV:=.junk::.junk::.junk::.junk::.junk::.junk::.junk::.junk::.junk::.junk::.junk::.junk::.junk::.junk::.junk::.junk::.junk::.junk::.junk::.junk::.junk::.junk::.junk::B85
abbrev C1J:List AV:=.junk::.junk::.junk::.junk::.junk::.junk::.junk::.junk::.junk::.junk::.junk::.junk::.junk::.junk::.junk::.junk::.junk::B85
abbrev C1K:List AV:=.junk::C1J
abbrev A4K:List PSh:=[.t C6]
abbrev M5:SS:=⟨(.t false C6::.junk::.junk::.junk::.all 0 3::tI::tI::.junk::.all 1 3::tI::C0x),[.rows 124 true tq5,.rows 124 true tq5]⟩
abbrev A1F:SS:=⟨(.junk::.junk::.all 0 3::.t true .bool::C0y),[.rows 124 true tq5]⟩
abbrev A8a:SS:=⟨(.t false C6::.junk::.junk::.junk::.all 0 3::.junk::tI::.junk::.all 1 3::C1X),[.rows 124 true tq5,.rows 124 true tq5]⟩
noncomputable def B0F (x0:List Int) (x5 x6 x9:Int) (h0 h1:Lq1):RT M5.den:=let z3:=A4 x0 x6;let z1:=A1d x0 (z3.2.1);let z2:=A1d x0 (z1.2.1);(.br (decide (x9<x5)) (.br (E1 x0 x6) (.br (L2 x0 (z3.2.1)) (.br (L2 x0 (z1.2.1)) (.br (!(z3.2.2)) (.done .ret A1F (((),(),(),false,u87),(h0,()))) (.br (!(z1.2.2)) (.done .ret A1F (((),(),(),false,u87),(h0,()))) (.br (!(z2.2.2)) (.done .ret A1F (((),(),(),false,u87),(h0,()))) (.br (decide ((h1.length+[((z3.1),((z1.1),(z2.1)))].length)*40≤MAXB)) (.next ((x0,(),(),(),(),x5,(z2.2.1),(),(),IntKind.wrap .i64 (x9+(1:Int)),u81),(h0,h1++[((z3.1),((z1.1),(z2.1)))],()))) .fail)))) .fail) .fail) .fail) (.done (.exit 0) A8a ((x0,(),(),(),(),(),x6,u84),(h0,h1,()))))
abbrev A17:=(List Int)×(Int)×(Int)×(Int)×Lq1×(Lq1)
abbrev A1W:=Nat×(Bool)×Lq1×(List Int)×(Int)×(Lq1)
def A05:A1W:=(99,(false:Bool),([]:Lq1),([]:List Int),((0:Int):Int),([]:Lq1))
noncomputable def A2N (x0:List Int) (x5 x6 x9:Int) (h0 h1:Lq1):A17 ⊕ A1W:=let z3:=A4 x0 x6;let z1:=A1d x0 (z3.2.1);let z2:=A1d x0 (z1.2.1);let z4:=([]:List Int);(cond (decide (x9<x5)) (cond (E1 x0 x6) (cond (L2 x0 (z3.2.1)) (cond (L2 x0 (z1.2.1)) (cond (!(z3.2.2)) (.inr (0,false,h0,z4,((0:Int):Int),([]:Lq1))) (cond (!(z1.2.2)) (.inr (0,false,h0,z4,((0:Int):Int),([]:Lq1))) (cond (!(z2.2.2)) (.inr (0,false,h0,z4,((0:Int):Int),([]:Lq1))) (cond (decide ((h1.length+[((z3.1),((z1.1),(z2.1)))].length)*40≤MAXB)) (.inl (x0,x5,(z2.2.1),IntKind.wrap .i64 (x9+(1:Int)),h0,h1++[((z3.1),((z1.1),(z2.1)))])) (.inr A05))))) (.inr A05)) (.inr A05)) (.inr A05)) (.inr (1,(false:Bool),h0,x0,x6,h1)))
noncomputable def A2I (x0:List Int) (x5 x6 x9:Int) (h0 h1:Lq1):A1W:=itX (fun v:A17=>A2N v.1 v.2.1 v.2.2.1 v.2.2.2.1 v.2.2.2.2.1 v.2.2.2.2.2) A05 (x0,x5,x6,x9,h0,h1)
noncomputable def A5k (a:A1W):CT:=(.br (a.1==0) (.done .ret A1F (((),(),(),a.2.1,u87),(a.2.2.1,()))) (.br (a.1==1) (.done (.exit 0) A8a ((a.2.2.2.1,(),(),(),(),(),a.2.2.2.2.1,u84),(a.2.2.1,a.2.2.2.2.2,()))) .fail))
noncomputable def B5U (x0:List Int) (x5 x6 x9:Int) (h0 h1:Lq1):CT:=A5k (A2I x0 x5 x6 x9 h0 h1)
noncomputable abbrev A2C {α:Sort _} (f:(List Int)→Int→Int→Int→Lq1→Lq1→α) (d:M5.den):α:=f d.1.1 d.1.2.2.2.2.2.1 d.1.2.2.2.2.2.2.1 d.1.2.2.2.2.2.2.2.2.2.1 d.2.1 d.2.2.1
noncomputable abbrev A5V:M5.den→RT M5.den:=(A2C B0F)
noncomputable def A6Q:Code:=((loopsIn 0 (bodyOf Try.f84)).getD 0 (0,.skip)).2
noncomputable abbrev B0g (v:A17):M5.den:=((v.1,(),(),(),(),v.2.1,v.2.2.1,(),(),v.2.2.2.1,u81),(v.2.2.2.2.1,v.2.2.2.2.2,()))
theorem B5m:(∀ v:A17,(B0F v.1 v.2.1 v.2.2.1 v.2.2.2.1 v.2.2.2.2.1 v.2.2.2.2.2).val=relS B0g A5k (A2N v.1 v.2.1 v.2.2.1 v.2.2.2.1 v.2.2.2.2.1 v.2.2.2.2.2))∧∀ a:A1W,CEnd M5.den (A5k a):=⟨fun v=>by repeat' first | apply relB | rfl,fun a=>(cendB aCD (cendB aCD cendF))⟩
noncomputable def A91 (x0:List Int) (x5 x6 x9:Int) (h0 h1:Lq1):Option (Ex×St):=let z2:=(⟨(.junk::.junk::(.all 0 3)::(.t true .bool false)::C0q),[(.rows 124 true tq5 h0)],0,[]⟩:St);let z4:=A4 x0 x6;let z1:=A1d x0 (z4.2.1);let z3:=A1d x0 (z1.2.1);(cond (decide (x9<x5)) (cond (E1 x0 x6) (cond (L2 x0 (z4.2.1)) (cond (L2 x0 (z1.2.1)) (cond (!(z4.2.2)) (some (.ret,z2)) (cond (!(z1.2.2)) (some (.ret,z2)) (cond (!(z3.2.2)) (some (.ret,z2)) (cond (decide ((h1.length+[((z4.1),((z1.1),(z3.1)))].length)*40≤MAXB)) (some (.normal,(⟨((.t false C6 x0)::.junk::.junk::.junk::(.all 0 3)::(ti x5)::(ti (z3.2.1))::.junk::(.all 1 3)::(ti (IntKind.wrap .i64 (x9+(1:Int))))::C1J),[(.rows 124 true tq5 h0),(.rows 124 true tq5 (h1++[((z4.1),((z1.1),(z3.1)))]))],0,[]⟩:St))) none)))) none) none) none) (some ((.exit 0),(⟨((.t false C6 x0)::.junk::.junk::.junk::(.all 0 3)::.junk::(ti x6)::.junk::(.all 1 3)::C1K),[(.rows 124 true tq5 h0),(.rows 124 true tq5 h1)],0,[]⟩:St))))
theorem B3J:RdA G13 aLn 0 A6Q M5 0 [] (kepts [2,3] [(0,[0,4,6,8])]) (A2C A91):=by
 intro d
 kernel_rfl
theorem B3S:∀ d:M5.den,(A2C A91) d=(A5V d).opt 0 []:=by
 intro d
 kernel_rfl
noncomputable abbrev A8V:St→Option Tree:=M5.say 0 [] [] (A2C B5U)
theorem B46:aPL A8V A6Q:=SS.wp2 hlz [] A5V B3J B3S _ (fun d=>Runs.ofI2 (step:=A5V) B0g B5m rfl (d.1.1,d.1.2.2.2.2.2.1,d.1.2.2.2.2.2.2.1,d.1.2.2.2.2.2.2.2.2.2.1,d.2.1,d.2.2.1))
noncomputable def A5A (a0:List Int):=let z1:=A4 a0 (0:Int);A2I a0 (z1.1) (z1.2.1) (0:Int) ([]:Lq1) ([]:Lq1)
noncomputable def B12 (a0:List Int):Lq1×Bool:=let z1:=A5A a0;let z2:=A4 a0 (0:Int);(cond (!(z2.2.2)) (([]:Lq1),false) (cond (decide ((z2.1) > (8:Int))) (([]:Lq1),false) (cond (z1.1==0) ((z1.2.2.1),(z1.2.1)) (cond ((z1.2.2.2.2.1) != (((z1.2.2.2.1).length:Nat):Int)) ((z1.2.2.1),false) (cond (!(L4 (z1.2.2.2.2.2))) ((z1.2.2.1),false) ((z1.2.2.2.2.2),true))))))
noncomputable abbrev U1 (r:Lq1×Bool):AV×List AObj:=((.tup [(.t true tq3 r.1),(.t true .bool r.2)]),[])
noncomputable abbrev B0V:pshsDen A4K→AV×List AObj:=fun d=>U1 (B12 d.1)
noncomputable def A1y (a0:List Int):Bool:=let z1:=A5A a0;let z2:=A4 a0 (0:Int);(E1 a0 (0:Int))&&(cond (!(z2.2.2)) true (cond (decide ((z2.1) > (8:Int))) true (cond (z1.1==0) true ((z1.1==1)&&(cond ((z1.2.2.2.2.1) != (((z1.2.2.2.1).length:Nat):Int)) true (A3D (z1.2.2.2.2.2)))))))
noncomputable abbrev A7i:pshsDen A4K→Bool:=fun d=>A1y d.1
noncomputable abbrev B7M:Nat→St→Option Tree:=fun b=>match b with | 0=>A8V | _=>fun _=>none
theorem B6t:RunP true G13 (B7M) Try.f84 A4K A7i B0V:=by
 rintro ⟨a0,_⟩ hp
 change A1y a0=true at hp
 unfold A1y at hp
 refine Eq.trans (b:=(let z1:=A5A a0;let z2:=U1 ((z1.2.2.1),false);let z3:=U1 (([]:Lq1),false);let z4:=A4 a0 (0:Int);cond (E1 a0 (0:Int)) (cond (!(z4.2.2)) (some z3) (cond (decide ((z4.1) > (8:Int))) (some z3) (cond (z1.1==0) (some (U1 ((z1.2.2.1),(z1.2.1)))) (cond (z1.1==1) (cond ((z1.2.2.2.2.1) != (((z1.2.2.2.1).length:Nat):Int)) (some z2) (cond (A3D (z1.2.2.2.2.2)) (cond (!(L4 (z1.2.2.2.2.2))) (some z2) (some (U1 ((z1.2.2.2.2.2),true)))) none)) none)))) none)) (by kernel_rfl) ?_
 exact (cndA hp fun hp=>(O8 U1 hp (fun hp=>rfl) (fun hp=>(O8 U1 hp (fun hp=>rfl) (fun hp=>(O8 U1 hp (fun hp=>rfl) (fun hp=>(cndA hp fun hp=>(O8 U1 hp (fun hp=>rfl) (fun hp=>(cndT hp fun _h=>(F9 U1 (fun _h=>rfl) (fun _h=>rfl)))))))))))))
theorem B70:aPP 84 (sumOf A4K A7i B0V):=pcD true G13 (hl1 (i:=0) (by kernel_rfl) B46) B6t
noncomputable def S14:Tab:=Tab.add S13 84 (lift (sumOf A4K A7i B0V))
noncomputable def C0L:FuncId→Bool:=qadd C0K 84
theorem G14:aPG S14 C0L:=G13.addQ B70 (cbl Try.f84) (fun _=>rfl)

abbrev A6J:List PSh:=[.agg [(.int .i64),(.int .i64),tq3]]
noncomputable def F0 (a0 a1:Int) (a2:Lq1):Bool:=(cond (!(P8 a1 (1:Int) (1000000:Int))) false (cond (a0==(1:Int)) (L4 a2) (cond (a0==(2:Int)) ((a2.length:Int)==(0:Int)) (cond (a0==(3:Int)) ((a2.length:Int)==(0:Int)) false))))
noncomputable abbrev A03 (r:Bool):AV×List AObj:=((.t true .bool r),[])
noncomputable abbrev B2r:pshsDen A6J→AV×List AObj:=fun d=>A03 (F0 d.1.1 d.1.2.1 d.1.2.2.1)
noncomputable def A1a (a0 a1:Int) (a2:Lq1):Bool:=F5 a2
noncomputable abbrev A9q:pshsDen A6J→Bool:=fun d=>A1a d.1.1 d.1.2.1 d.1.2.2.1
theorem B7r:RunP true G14 aLn Try.f26 A6J A9q B2r:=by
 rintro ⟨⟨a0,⟨a1,⟨a2,_⟩⟩⟩,_⟩ hp
 change A1a a0 a1 a2=true at hp
 unfold A1a at hp
 refine Eq.trans (b:=(let z1:=A03 ((a2.length:Int)==(0:Int));cond (!(P8 a1 (1:Int) (1000000:Int))) (some (A03 false)) (cond (a0==(1:Int)) (cond (A3D a2) (some (A03 (L4 a2))) none) (cond (a0==(2:Int)) (some z1) (cond (a0==(3:Int)) (some z1) (some (A03 false))))))) (by kernel_rfl) ?_
 exact (F9 A03 (fun _h=>rfl) (fun _h=>(F9 A03 (fun _h=>(cndT (by first | rfl | decide | exact hp | (simp only [Bool.and_eq_true] at hp;simp only [hp];done) | (simp [*];done) | (simp [okL] at hp;simp [okL,MAXB];omega) | (simp_all;done) | (simp at *;omega)) (fun _h=>rfl))) (fun _h=>(F9 A03 (fun _h=>rfl) (fun _h=>(F9 A03 (fun _h=>rfl) (fun _h=>rfl))))))))
theorem B8K:aPP 26 (sumOf A6J A9q B2r):=pcD true G14 hlz B7r
noncomputable def S15:Tab:=Tab.add S14 26 (lift (sumOf A6J A9q B2r))
noncomputable def C0M:FuncId→Bool:=qadd C0L 26
theorem G15:aPG S15 C0M:=G14.addQ B8K (cbl Try.f26) (fun _=>rfl)

abbrev A4L:List PSh:=[.t C6,.t (.int .i64)]
noncomputable def C3 (a0:List Int) (a1:Int):=let z1:=A4 a0 a1;A4 (([]:List Int)++((a0.take (IntKind.wrap .i64 ((z1.2.1)+(z1.1))).toNat).drop (z1.2.1).toNat)) (0:Int)
noncomputable def B2 (a0:List Int) (a1:Int):=let z1:=A4 a0 a1;A4 (([]:List Int)++((a0.take (IntKind.wrap .i64 ((z1.2.1)+(z1.1))).toNat).drop (z1.2.1).toNat)) ((C3 a0 a1).2.1)
noncomputable def A0r (a0:List Int) (a1:Int):=let z1:=A4 a0 a1;A1c (([]:List Int)++((a0.take (IntKind.wrap .i64 ((z1.2.1)+(z1.1))).toNat).drop (z1.2.1).toNat))
noncomputable def K9 (a0:List Int) (a1:Int):=let z2:=A4 a0 a1;let z1:=([]:List Int)++((a0.take (IntKind.wrap .i64 ((z2.2.1)+(z2.1))).toNat).drop (z2.2.1).toNat);let z3:=(B2 a0 a1).2.1;B12 ((z1.drop (z3.toNat)).take (((z1.length:Nat):Int).toNat - z3.toNat))
noncomputable def A0m (a0:List Int) (a1:Int):Int×Int×Lq1×Int×Bool:=(cond (!((A4 a0 a1).2.2)) ((0:Int),(0:Int),[],a1,false) (cond (decide (((A4 a0 a1).1) > (IntKind.wrap .i64 ((IntKind.wrap .i64 ((a0.length:Int) - ((A4 a0 a1).2.1))) - (4:Int))))) ((0:Int),(0:Int),[],a1,false) (cond (!((C3 a0 a1).2.2)) ((0:Int),(0:Int),[],a1,false) (cond (!((B2 a0 a1).2.2)) ((0:Int),(0:Int),[],a1,false) (cond (!((⟨(((a0.take (IntKind.wrap .i64 ((IntKind.wrap .i64 (((A4 a0 a1).2.1)+((A4 a0 a1).1)))+(4:Int))).toNat).drop (IntKind.wrap .i64 (((A4 a0 a1).2.1)+((A4 a0 a1).1))).toNat).map fun n=>UInt8.ofNat n.toNat).toArray⟩:ByteArray).toList==((A0r a0 a1).extract (0:Int).toNat (4:Int).toNat).toList)) ((0:Int),(0:Int),[],a1,false) (cond (decide (((B2 a0 a1).2.1)<(((([]:List Int)++((a0.take (IntKind.wrap .i64 (((A4 a0 a1).2.1)+((A4 a0 a1).1))).toNat).drop ((A4 a0 a1).2.1).toNat)).length:Nat):Int))) (cond (!((K9 a0 a1).2)) ((0:Int),(0:Int),[],a1,false) (cond (!(F0 ((C3 a0 a1).1) ((B2 a0 a1).1) ((K9 a0 a1).1))) ((0:Int),(0:Int),[],a1,false) (((C3 a0 a1).1),((B2 a0 a1).1),((K9 a0 a1).1),IntKind.wrap .i64 ((IntKind.wrap .i64 (((A4 a0 a1).2.1)+((A4 a0 a1).1)))+(4:Int)),true))) (cond (!(F0 ((C3 a0 a1).1) ((B2 a0 a1).1) [])) ((0:Int),(0:Int),[],a1,false) (((C3 a0 a1).1),((B2 a0 a1).1),[],IntKind.wrap .i64 ((IntKind.wrap .i64 (((A4 a0 a1).2.1)+((A4 a0 a1).1)))+(4:Int)),true))))))))
noncomputable abbrev D5 (r:Int×Int×Lq1×Int×Bool):AV×List AObj:=((.tup [(.agg [(ti r.1),(ti r.2.1),(.t true tq3 r.2.2.1)]),(ti r.2.2.2.1),(.t true .bool r.2.2.2.2)]),[])
noncomputable abbrev B0W:pshsDen A4L→AV×List AObj:=fun d=>D5 (A0m d.1 d.2.1)
noncomputable def Z0 (a0:List Int) (a1:Int):Bool:=(E1 a0 a1)&&(cond (!((A4 a0 a1).2.2)) true (cond (decide (((A4 a0 a1).1) > (IntKind.wrap .i64 ((IntKind.wrap .i64 ((a0.length:Int) - ((A4 a0 a1).2.1))) - (4:Int))))) true ((decide (0≤((A4 a0 a1).2.1)∧((A4 a0 a1).2.1)≤(IntKind.wrap .i64 (((A4 a0 a1).2.1)+((A4 a0 a1).1)))∧(IntKind.wrap .i64 (((A4 a0 a1).2.1)+((A4 a0 a1).1)))≤(a0.length:Int)))&&((decide ((([]:List Int).length+((a0.take (IntKind.wrap .i64 (((A4 a0 a1).2.1)+((A4 a0 a1).1))).toNat).drop ((A4 a0 a1).2.1).toNat).length)*1≤MAXB))&&((E1 (([]:List Int)++((a0.take (IntKind.wrap .i64 (((A4 a0 a1).2.1)+((A4 a0 a1).1))).toNat).drop ((A4 a0 a1).2.1).toNat)) (0:Int))&&((E1 (([]:List Int)++((a0.take (IntKind.wrap .i64 (((A4 a0 a1).2.1)+((A4 a0 a1).1))).toNat).drop ((A4 a0 a1).2.1).toNat)) ((C3 a0 a1).2.1))&&(cond (!((C3 a0 a1).2.2)) true (cond (!((B2 a0 a1).2.2)) true ((decide (0≤(IntKind.wrap .i64 (((A4 a0 a1).2.1)+((A4 a0 a1).1)))∧(IntKind.wrap .i64 (((A4 a0 a1).2.1)+((A4 a0 a1).1)))≤(IntKind.wrap .i64 ((IntKind.wrap .i64 (((A4 a0 a1).2.1)+((A4 a0 a1).1)))+(4:Int)))∧(IntKind.wrap .i64 ((IntKind.wrap .i64 (((A4 a0 a1).2.1)+((A4 a0 a1).1)))+(4:Int)))≤(a0.length:Int)))&&((A0H (([]:List Int)++((a0.take (IntKind.wrap .i64 (((A4 a0 a1).2.1)+((A4 a0 a1).1))).toNat).drop ((A4 a0 a1).2.1).toNat)))&&((decide (0≤(0:Int)∧(0:Int)≤(4:Int)∧(4:Int)≤(((A0r a0 a1).size:Nat):Int)))&&(cond (!((⟨(((a0.take (IntKind.wrap .i64 ((IntKind.wrap .i64 (((A4 a0 a1).2.1)+((A4 a0 a1).1)))+(4:Int))).toNat).drop (IntKind.wrap .i64 (((A4 a0 a1).2.1)+((A4 a0 a1).1))).toNat).map fun n=>UInt8.ofNat n.toNat).toArray⟩:ByteArray).toList==((A0r a0 a1).extract (0:Int).toNat (4:Int).toNat).toList)) true (cond (decide (((B2 a0 a1).2.1)<(((([]:List Int)++((a0.take (IntKind.wrap .i64 (((A4 a0 a1).2.1)+((A4 a0 a1).1))).toNat).drop ((A4 a0 a1).2.1).toNat)).length:Nat):Int))) ((decide (0≤((B2 a0 a1).2.1)∧((B2 a0 a1).2.1)≤(((([]:List Int)++((a0.take (IntKind.wrap .i64 (((A4 a0 a1).2.1)+((A4 a0 a1).1))).toNat).drop ((A4 a0 a1).2.1).toNat)).length:Nat):Int)∧(((([]:List Int)++((a0.take (IntKind.wrap .i64 (((A4 a0 a1).2.1)+((A4 a0 a1).1))).toNat).drop ((A4 a0 a1).2.1).toNat)).length:Nat):Int)≤(((([]:List Int)++((a0.take (IntKind.wrap .i64 (((A4 a0 a1).2.1)+((A4 a0 a1).1))).toNat).drop ((A4 a0 a1).2.1).toNat)).length:Nat):Int)))&&((A1y (((([]:List Int)++((a0.take (IntKind.wrap .i64 (((A4 a0 a1).2.1)+((A4 a0 a1).1))).toNat).drop ((A4 a0 a1).2.1).toNat)).drop (((B2 a0 a1).2.1).toNat)).take ((((([]:List Int)++((a0.take (IntKind.wrap .i64 (((A4 a0 a1).2.1)+((A4 a0 a1).1))).toNat).drop ((A4 a0 a1).2.1).toNat)).length:Nat):Int).toNat - ((B2 a0 a1).2.1).toNat)))&&(cond (!((K9 a0 a1).2)) true (A1a ((C3 a0 a1).1) ((B2 a0 a1).1) ((K9 a0 a1).1))))) (A1a ((C3 a0 a1).1) ((B2 a0 a1).1) []))))))))))))))
noncomputable abbrev A7j:pshsDen A4L→Bool:=fun d=>Z0 d.1 d.2.1
theorem B6u:RunP true G15 aLn Try.f34 A4L A7j B0W:=by
 rintro ⟨a0,⟨a1,_⟩⟩ hp
 change Z0 a0 a1=true at hp
 unfold Z0 at hp
 refine Eq.trans (b:=(cond (E1 a0 a1) (cond (!((A4 a0 a1).2.2)) (some (D5 ((0:Int),(0:Int),[],a1,false))) (cond (decide (((A4 a0 a1).1) > (IntKind.wrap .i64 ((IntKind.wrap .i64 ((a0.length:Int) - ((A4 a0 a1).2.1))) - (4:Int))))) (some (D5 ((0:Int),(0:Int),[],a1,false))) (cond (decide (0≤((A4 a0 a1).2.1)∧((A4 a0 a1).2.1)≤(IntKind.wrap .i64 (((A4 a0 a1).2.1)+((A4 a0 a1).1)))∧(IntKind.wrap .i64 (((A4 a0 a1).2.1)+((A4 a0 a1).1)))≤(a0.length:Int))) (cond (decide ((([]:List Int).length+((a0.take (IntKind.wrap .i64 (((A4 a0 a1).2.1)+((A4 a0 a1).1))).toNat).drop ((A4 a0 a1).2.1).toNat).length)*1≤MAXB)) (cond (E1 (([]:List Int)++((a0.take (IntKind.wrap .i64 (((A4 a0 a1).2.1)+((A4 a0 a1).1))).toNat).drop ((A4 a0 a1).2.1).toNat)) (0:Int)) (cond (E1 (([]:List Int)++((a0.take (IntKind.wrap .i64 (((A4 a0 a1).2.1)+((A4 a0 a1).1))).toNat).drop ((A4 a0 a1).2.1).toNat)) ((C3 a0 a1).2.1)) (cond (!((C3 a0 a1).2.2)) (some (D5 ((0:Int),(0:Int),[],a1,false))) (cond (!((B2 a0 a1).2.2)) (some (D5 ((0:Int),(0:Int),[],a1,false))) (cond (decide (0≤(IntKind.wrap .i64 (((A4 a0 a1).2.1)+((A4 a0 a1).1)))∧(IntKind.wrap .i64 (((A4 a0 a1).2.1)+((A4 a0 a1).1)))≤(IntKind.wrap .i64 ((IntKind.wrap .i64 (((A4 a0 a1).2.1)+((A4 a0 a1).1)))+(4:Int)))∧(IntKind.wrap .i64 ((IntKind.wrap .i64 (((A4 a0 a1).2.1)+((A4 a0 a1).1)))+(4:Int)))≤(a0.length:Int))) (cond (A0H (([]:List Int)++((a0.take (IntKind.wrap .i64 (((A4 a0 a1).2.1)+((A4 a0 a1).1))).toNat).drop ((A4 a0 a1).2.1).toNat))) (cond (decide (0≤(0:Int)∧(0:Int)≤(4:Int)∧(4:Int)≤(((A0r a0 a1).size:Nat):Int))) (cond (!((⟨(((a0.take (IntKind.wrap .i64 ((IntKind.wrap .i64 (((A4 a0 a1).2.1)+((A4 a0 a1).1)))+(4:Int))).toNat).drop (IntKind.wrap .i64 (((A4 a0 a1).2.1)+((A4 a0 a1).1))).toNat).map fun n=>UInt8.ofNat n.toNat).toArray⟩:ByteArray).toList==((A0r a0 a1).extract (0:Int).toNat (4:Int).toNat).toList)) (some (D5 ((0:Int),(0:Int),[],a1,false))) (cond (decide (((B2 a0 a1).2.1)<(((([]:List Int)++((a0.take (IntKind.wrap .i64 (((A4 a0 a1).2.1)+((A4 a0 a1).1))).toNat).drop ((A4 a0 a1).2.1).toNat)).length:Nat):Int))) (cond (decide (0≤((B2 a0 a1).2.1)∧((B2 a0 a1).2.1)≤(((([]:List Int)++((a0.take (IntKind.wrap .i64 (((A4 a0 a1).2.1)+((A4 a0 a1).1))).toNat).drop ((A4 a0 a1).2.1).toNat)).length:Nat):Int)∧(((([]:List Int)++((a0.take (IntKind.wrap .i64 (((A4 a0 a1).2.1)+((A4 a0 a1).1))).toNat).drop ((A4 a0 a1).2.1).toNat)).length:Nat):Int)≤(((([]:List Int)++((a0.take (IntKind.wrap .i64 (((A4 a0 a1).2.1)+((A4 a0 a1).1))).toNat).drop ((A4 a0 a1).2.1).toNat)).length:Nat):Int))) (cond (A1y (((([]:List Int)++((a0.take (IntKind.wrap .i64 (((A4 a0 a1).2.1)+((A4 a0 a1).1))).toNat).drop ((A4 a0 a1).2.1).toNat)).drop (((B2 a0 a1).2.1).toNat)).take ((((([]:List Int)++((a0.take (IntKind.wrap .i64 (((A4 a0 a1).2.1)+((A4 a0 a1).1))).toNat).drop ((A4 a0 a1).2.1).toNat)).length:Nat):Int).toNat - ((B2 a0 a1).2.1).toNat))) (cond (!((K9 a0 a1).2)) (some (D5 ((0:Int),(0:Int),[],a1,false))) (cond (A1a ((C3 a0 a1).1) ((B2 a0 a1).1) ((K9 a0 a1).1)) (cond (!(F0 ((C3 a0 a1).1) ((B2 a0 a1).1) ((K9 a0 a1).1))) (some (D5 ((0:Int),(0:Int),[],a1,false))) (some (D5 (((C3 a0 a1).1),((B2 a0 a1).1),((K9 a0 a1).1),IntKind.wrap .i64 ((IntKind.wrap .i64 (((A4 a0 a1).2.1)+((A4 a0 a1).1)))+(4:Int)),true)))) none)) none) none) (cond (A1a ((C3 a0 a1).1) ((B2 a0 a1).1) []) (cond (!(F0 ((C3 a0 a1).1) ((B2 a0 a1).1) [])) (some (D5 ((0:Int),(0:Int),[],a1,false))) (some (D5 (((C3 a0 a1).1),((B2 a0 a1).1),[],IntKind.wrap .i64 ((IntKind.wrap .i64 (((A4 a0 a1).2.1)+((A4 a0 a1).1)))+(4:Int)),true)))) none))) none) none) none))) none) none) none) none))) none)) (by kernel_rfl) ?_
 exact (cndA hp fun hp=>(O8 D5 hp (fun hp=>rfl) (fun hp=>(O8 D5 hp (fun hp=>rfl) (fun hp=>(cndA hp fun hp=>(cndA hp fun hp=>(cndA hp fun hp=>(cndA hp fun hp=>(O8 D5 hp (fun hp=>rfl) (fun hp=>(O8 D5 hp (fun hp=>rfl) (fun hp=>(cndA hp fun hp=>(cndA hp fun hp=>(cndA hp fun hp=>(O8 D5 hp (fun hp=>rfl) (fun hp=>(O8 D5 hp (fun hp=>(cndA hp fun hp=>(cndA hp fun hp=>(O8 D5 hp (fun hp=>rfl) (fun hp=>(cndT hp fun _h=>(F9 D5 (fun _h=>rfl) (fun _h=>rfl)))))))) (fun hp=>(cndT hp fun _h=>(F9 D5 (fun _h=>rfl) (fun _h=>rfl)))))))))))))))))))))))
theorem B71:aPP 34 (sumOf A4L A7j B0W):=pcD true G15 hlz B6u
noncomputable def S16:Tab:=Tab.add S15 34 (lift (sumOf A4L A7j B0W))
noncomputable def C0N:FuncId→Bool:=qadd C0M 34
theorem G16:aPG S16 C0N:=G15.addQ B71 (cbl Try.f34) (fun _=>rfl)

abbrev Lq2:=List (Int×Int×List (Int×ByteArray×ByteArray))
abbrev B9H:List AV:=.junk::.junk::.junk::.junk::.junk::.junk::.junk::.junk::.junk::.junk::.junk::.junk::.junk::.junk::.junk::.junk::.junk::.junk::.junk::.junk::.junk::.junk::.junk::.junk::.junk::.junk::[]
abbrev tq6:Ty:=.sl (.pair (.int .i64) (.pair (.int .i64) (.sl (.pair (.int .i64) (.pair .str .str)))))
abbrev A10:List PSh:=[.t C6]
abbrev J8:SS:=⟨(.t false C6::.junk::.junk::.junk::.all 0 3::tI::B7a),[.rows 30 true tq4]⟩
abbrev A53:SS:=⟨(.junk::.junk::.all 0 3::tI::B8g),[.rows 30 true tq4]⟩
abbrev A54:SS:=⟨(.junk::.junk::.junk::.junk::.all 0 3::tI::B7a),[.rows 30 true tq4]⟩
noncomputable def A7M (x0:List Int) (x5:Int) (h0:Lq2):RT J8.den:=let z1:=A0m x0 x5;(.br (decide (x5<(x0.length:Int))) (.br (Z0 x0 x5) (.br (!(z1.2.2.2.2)) (.done .ret A53 (((),(),(),x5,u29),(h0,()))) (.br (decide ((h0.length+[((z1.1),((z1.2.1),(z1.2.2.1)))].length)*40≤MAXB)) (.next ((x0,(),(),(),(),(z1.2.2.2.1),u27),(h0++[((z1.1),((z1.2.1),(z1.2.2.1)))],()))) .fail)) .fail) (.done (.exit 0) A54 (((),(),(),(),(),x5,u27),(h0,()))))
abbrev A0d:=(List Int)×(Int)×(Lq2)
abbrev T8:=Nat×(Int)×Lq2×(Int)
def A3r:T8:=(99,((0:Int):Int),([]:Lq2),((0:Int):Int))
noncomputable def X7 (x0:List Int) (x5:Int) (h0:Lq2):A0d ⊕ T8:=let z1:=A0m x0 x5;(cond (decide (x5<(x0.length:Int))) (cond (Z0 x0 x5) (cond (!(z1.2.2.2.2)) (.inr (0,x5,h0,((0:Int):Int))) (cond (decide ((h0.length+[((z1.1),((z1.2.1),(z1.2.2.1)))].length)*40≤MAXB)) (.inl (x0,(z1.2.2.2.1),h0++[((z1.1),((z1.2.1),(z1.2.2.1)))])) (.inr A3r))) (.inr A3r)) (.inr (1,((0:Int):Int),h0,x5)))
noncomputable def P3 (x0:List Int) (x5:Int) (h0:Lq2):T8:=itX (fun v:A0d=>X7 v.1 v.2.1 v.2.2) A3r (x0,x5,h0)
noncomputable def A3p (a:T8):CT:=(.br (a.1==0) (.done .ret A53 (((),(),(),a.2.1,u29),(a.2.2.1,()))) (.br (a.1==1) (.done (.exit 0) A54 (((),(),(),(),(),a.2.2.2,u27),(a.2.2.1,()))) .fail))
noncomputable def B3g (x0:List Int) (x5:Int) (h0:Lq2):CT:=A3p (P3 x0 x5 h0)
noncomputable abbrev A3I:J8.den→RT J8.den:=(fun d=>A7M d.1.1 d.1.2.2.2.2.2.1 d.2.1)
noncomputable def A4T:Code:=((loopsIn 0 (bodyOf Try.f39)).getD 0 (0,.skip)).2
noncomputable abbrev A7p (v:A0d):J8.den:=((v.1,(),(),(),(),v.2.1,u27),(v.2.2,()))
theorem B24:(∀ v:A0d,(A7M v.1 v.2.1 v.2.2).val=relS A7p A3p (X7 v.1 v.2.1 v.2.2))∧∀ a:T8,CEnd J8.den (A3p a):=⟨fun v=>(relB (relB (relB rfl (relB rfl rfl)) rfl) rfl),fun a=>(cendB aCD (cendB aCD cendF))⟩
noncomputable def A66 (x0:List Int) (x5:Int) (h0:Lq2):Option (Ex×St):=let z1:=A0m x0 x5;(cond (decide (x5<(x0.length:Int))) (cond (Z0 x0 x5) (cond (!(z1.2.2.2.2)) (some (.ret,(⟨(.junk::.junk::(.all 0 3)::(ti x5)::B9I),[(.rows 30 true tq4 h0)],0,[]⟩:St))) (cond (decide ((h0.length+[((z1.1),((z1.2.1),(z1.2.2.1)))].length)*40≤MAXB)) (some (.normal,(⟨((.t false C6 x0)::.junk::.junk::.junk::(.all 0 3)::(ti (z1.2.2.2.1))::B9H),[(.rows 30 true tq4 (h0++[((z1.1),((z1.2.1),(z1.2.2.1)))]))],0,[]⟩:St))) none)) none) (some ((.exit 0),(⟨(.junk::.junk::.junk::.junk::(.all 0 3)::(ti x5)::B9H),[(.rows 30 true tq4 h0)],0,[]⟩:St))))
theorem B1L:RdA G16 aLn 0 A4T J8 0 [] (kepts [2,3] [(0,[4,5])]) (fun d=>A66 d.1.1 d.1.2.2.2.2.2.1 d.2.1):=by
 intro d
 kernel_rfl
theorem B1O:∀ d:J8.den,(fun d=>A66 d.1.1 d.1.2.2.2.2.2.1 d.2.1) d=(A3I d).opt 0 []:=by
 intro d
 kernel_rfl
noncomputable abbrev A6o:St→Option Tree:=J8.say 0 [] [] (fun d=>B3g d.1.1 d.1.2.2.2.2.2.1 d.2.1)
theorem B2D:aPL A6o A4T:=SS.wp2 hlz [] A3I B1L B1O _ (fun d=>Runs.ofI2 (step:=A3I) A7p B24 rfl (d.1.1,d.1.2.2.2.2.2.1,d.2.1))
noncomputable def A1C (a0:List Int):Lq2×Int:=let z1:=P3 a0 (0:Int) ([]:Lq2);(cond (z1.1==0) ((z1.2.2.1),(z1.2.1)) ((z1.2.2.1),(z1.2.2.2)))
noncomputable abbrev A3U (r:Lq2×Int):AV×List AObj:=((.tup [(.t true tq6 r.1),(ti r.2)]),[])
noncomputable abbrev A6W:pshsDen A10→AV×List AObj:=fun d=>A3U (A1C d.1)
noncomputable def Q6 (a0:List Int):Bool:=let z1:=P3 a0 (0:Int) ([]:Lq2);cond (z1.1==0) true (z1.1==1)
noncomputable abbrev A4l:pshsDen A10→Bool:=fun d=>Q6 d.1
noncomputable abbrev B5J:Nat→St→Option Tree:=fun b=>match b with | 0=>A6o | _=>fun _=>none
theorem B35:RunP true G16 (B5J) Try.f39 A10 A4l A6W:=by
 rintro ⟨a0,_⟩ hp
 change Q6 a0=true at hp
 unfold Q6 at hp
 refine Eq.trans (b:=(let z1:=P3 a0 (0:Int) ([]:Lq2);cond (z1.1==0) (some (A3U ((z1.2.2.1),(z1.2.1)))) (cond (z1.1==1) (some (A3U ((z1.2.2.1),(z1.2.2.2)))) none))) (by kernel_rfl) ?_
 exact (O8 A3U hp (fun hp=>rfl) (fun hp=>(cndT hp fun _h=>rfl)))
theorem B51:aPP 39 (sumOf A10 A4l A6W):=pcD true G16 (hl1 (i:=0) (by kernel_rfl) B2D) B35
noncomputable def S17:Tab:=Tab.add S16 39 (lift (sumOf A10 A4l A6W))
noncomputable def C0O:FuncId→Bool:=qadd C0N 39
theorem G17:aPG S17 C0O:=G16.addQ B51 (cbl Try.f39) (fun _=>rfl)

abbrev A21:List PSh:=[.t (.int .i64),.t (.int .i64),.t (.int .i64)]
noncomputable def T6 (a0 a1 a2:Int):Bool:=(cond (decide (a0 ≥ a1)) (decide (a0≤a2)) false)
noncomputable abbrev A5n (r:Bool):AV×List AObj:=((.t true .bool r),[])
noncomputable abbrev A88:pshsDen A21→AV×List AObj:=fun d=>A5n (T6 d.1 d.2.1 d.2.2.1)
noncomputable abbrev A5F:pshsDen A21→Bool:=fun d=>true
theorem B5q:RunP true G17 aLn Try.f101 A21 A5F A88:=by
 rintro ⟨a0,⟨a1,⟨a2,_⟩⟩⟩ hp
 refine Eq.trans (b:=(cond (decide (a0 ≥ a1)) (some (A5n (decide (a0≤a2)))) (some (A5n false)))) (by kernel_rfl) ?_
 exact (F9 A5n (fun _h=>rfl) (fun _h=>rfl))
theorem B6S:aPP 101 (sumOf A21 A5F A88):=pcD true G17 hlz B5q
noncomputable def S18:Tab:=Tab.add S17 101 (lift (sumOf A21 A5F A88))
noncomputable def C0P:FuncId→Bool:=qadd C0O 101
theorem G18:aPG S18 C0P:=G17.addQ B6S (cbl Try.f101) (fun _=>rfl)

abbrev C1T:List Sh:=.junk::.junk::.junk::.junk::.junk::.junk::.junk::.junk::.junk::.junk::B9L
abbrev C2B:List Sh:=.junk::.junk::C1T
abbrev C2D:List Sh:=.junk::C1V
abbrev u49:=((),(),(),(),(),(),(),(),(),(),(),(),u37)
abbrev u47:=((),(),(),(),(),(),(),(),(),(),u37)
abbrev C1G:List AV:=.junk::.junk::.junk::.junk::.junk::.junk::.junk::.junk::.junk::.junk::.junk::.junk::B84
abbrev C2q:List AV:=.junk::.junk::.junk::.junk::.junk::.junk::.junk::.junk::.junk::.junk::B84
abbrev C2s:List AV:=.junk::C1I
abbrev A4B:List PSh:=[.t C6,.t (.int .i64)]
abbrev L7:SS:=⟨(.t false C6::tI::.junk::.junk::.junk::.junk::.junk::tI::tI::C1T),[]⟩
abbrev T9:SS:=⟨(.junk::.junk::.junk::.junk::tI::tI::.t true .bool::C2B),[]⟩
abbrev A34:SS:=⟨(.junk::C2D),[]⟩
noncomputable def B0y (x0:List Int) (x1 x7 x8:Int):RT L7.den:=let z2:=IntKind.wrap .i64 ((7:Int)*x8);let z3:=IntKind.wrap .i64 (x0.getD x1.toNat (0:Int));let z1:=iand .i64 z3 (127:Int);let z4:=IntKind.bits .i64;(.br (decide (x8<(5:Int))) (.br (decide (x1<(x0.length:Int))) (.br (decide (0≤x1∧x1<(x0.length:Int))) (.br (decide (0≤(IntKind.wrap .u64 z2))) (.br (decide (z3<(128:Int))) (.br (z3==(0:Int)) (.br (decide (x8 > (0:Int))) (.done .ret T9 (((),(),(),(),(0:Int),(0:Int),false,u49),())) (.br (decide ((ior .i64 x7 (IntKind.wrap .i64 (z1*2 ^ (min (Int.toNat (IntKind.wrap .u64 z2)) z4)))) > (1000000000:Int))) (.done .ret T9 (((),(),(),(),(0:Int),(0:Int),false,u49),())) (.done .ret T9 (((),(),(),(),ior .i64 x7 (IntKind.wrap .i64 (z1*2 ^ (min (Int.toNat (IntKind.wrap .u64 z2)) z4))),IntKind.wrap .i64 (x1+(1:Int)),true,u49),())))) (.br (decide ((ior .i64 x7 (IntKind.wrap .i64 (z1*2 ^ (min (Int.toNat (IntKind.wrap .u64 z2)) z4)))) > (1000000000:Int))) (.done .ret T9 (((),(),(),(),(0:Int),(0:Int),false,u49),())) (.done .ret T9 (((),(),(),(),ior .i64 x7 (IntKind.wrap .i64 (z1*2 ^ (min (Int.toNat (IntKind.wrap .u64 z2)) z4))),IntKind.wrap .i64 (x1+(1:Int)),true,u49),())))) (.next ((x0,IntKind.wrap .i64 (x1+(1:Int)),(),(),(),(),(),ior .i64 x7 (IntKind.wrap .i64 (z1*2 ^ (min (Int.toNat (IntKind.wrap .u64 z2)) z4))),IntKind.wrap .i64 (x8+(1:Int)),u47),()))) .fail) .fail) (.done (.exit 0) A34 ((u56),()))) (.done (.exit 0) A34 ((u56),())))
abbrev A3N:=(List Int)×(Int)×(Int)×(Int)
abbrev A1V:=Nat×(Int)×(Int)×(Bool)
def A5q:A1V:=(99,((0:Int):Int),((0:Int):Int),(false:Bool))
noncomputable def A1g (x0:List Int) (x1 x7 x8:Int):A3N ⊕ A1V:=let z2:=IntKind.wrap .i64 ((7:Int)*x8);let z3:=IntKind.wrap .i64 (x0.getD x1.toNat (0:Int));let z1:=iand .i64 z3 (127:Int);let z4:=IntKind.bits .i64;(cond (decide (x8<(5:Int))) (cond (decide (x1<(x0.length:Int))) (cond (decide (0≤x1∧x1<(x0.length:Int))) (cond (decide (0≤(IntKind.wrap .u64 z2))) (cond (decide (z3<(128:Int))) (cond (z3==(0:Int)) (cond (decide (x8 > (0:Int))) (.inr (0,(0:Int),(0:Int),false)) (cond (decide ((ior .i64 x7 (IntKind.wrap .i64 (z1*2 ^ (min (Int.toNat (IntKind.wrap .u64 z2)) z4)))) > (1000000000:Int))) (.inr (0,(0:Int),(0:Int),false)) (.inr (0,ior .i64 x7 (IntKind.wrap .i64 (z1*2 ^ (min (Int.toNat (IntKind.wrap .u64 z2)) z4))),IntKind.wrap .i64 (x1+(1:Int)),true)))) (cond (decide ((ior .i64 x7 (IntKind.wrap .i64 (z1*2 ^ (min (Int.toNat (IntKind.wrap .u64 z2)) z4)))) > (1000000000:Int))) (.inr (0,(0:Int),(0:Int),false)) (.inr (0,ior .i64 x7 (IntKind.wrap .i64 (z1*2 ^ (min (Int.toNat (IntKind.wrap .u64 z2)) z4))),IntKind.wrap .i64 (x1+(1:Int)),true)))) (.inl (x0,IntKind.wrap .i64 (x1+(1:Int)),ior .i64 x7 (IntKind.wrap .i64 (z1*2 ^ (min (Int.toNat (IntKind.wrap .u64 z2)) z4))),IntKind.wrap .i64 (x8+(1:Int))))) (.inr A5q)) (.inr A5q)) (.inr (1,((0:Int):Int),((0:Int):Int),(false:Bool)))) (.inr (1,((0:Int):Int),((0:Int):Int),(false:Bool))))
noncomputable def R7 (x0:List Int) (x1 x7 x8:Int):A1V:=itX (fun v:A3N=>A1g v.1 v.2.1 v.2.2.1 v.2.2.2) A5q (x0,x1,x7,x8)
noncomputable def A5d (a:A1V):CT:=(.br (a.1==0) (.done .ret T9 (((),(),(),(),a.2.1,a.2.2.1,a.2.2.2,u49),())) (.br (a.1==1) (.done (.exit 0) A34 ((u56),())) .fail))
noncomputable def B5N (x0:List Int) (x1 x7 x8:Int):CT:=A5d (R7 x0 x1 x7 x8)
noncomputable abbrev A2y {α:Sort _} (f:(List Int)→Int→Int→Int→α) (d:L7.den):α:=f d.1.1 d.1.2.1 d.1.2.2.2.2.2.2.2.1 d.1.2.2.2.2.2.2.2.2.1
noncomputable abbrev A5O:L7.den→RT L7.den:=(A2y B0y)
noncomputable def A6K:Code:=((loopsIn 0 (bodyOf Try.f76)).getD 0 (0,.skip)).2
noncomputable abbrev A99 (v:A3N):L7.den:=((v.1,v.2.1,(),(),(),(),(),v.2.2.1,v.2.2.2,u47),())
theorem B5f:(∀ v:A3N,(B0y v.1 v.2.1 v.2.2.1 v.2.2.2).val=relS A99 A5d (A1g v.1 v.2.1 v.2.2.1 v.2.2.2))∧∀ a:A1V,CEnd L7.den (A5d a):=⟨fun v=>by repeat' first | apply relB | rfl,fun a=>(cendB aCD (cendB aCD cendF))⟩
noncomputable def A9V (x0:List Int) (x1 x7 x8:Int):Option (Ex×St):=let z2:=IntKind.wrap .i64 (x0.getD x1.toNat (0:Int));let z3:=(⟨(.junk::.junk::.junk::.junk::(ti (0:Int))::(ti (0:Int))::(.t true .bool false)::C1G),[],0,[]⟩:St);let z4:=IntKind.wrap .i64 ((7:Int)*x8);let z5:=iand .i64 z2 (127:Int);let z6:=IntKind.bits .i64;let z7:=ti (IntKind.wrap .i64 (x1+(1:Int)));let z1:=(⟨(.junk::.junk::.junk::.junk::(ti (ior .i64 x7 (IntKind.wrap .i64 (z5*2 ^ (min (Int.toNat (IntKind.wrap .u64 z4)) z6)))))::z7::(.t true .bool true)::C1G),[],0,[]⟩:St);let z8:=(⟨(.junk::C2s),[],0,[]⟩:St);(cond (decide (x8<(5:Int))) (cond (decide (x1<(x0.length:Int))) (cond (decide (0≤x1∧x1<(x0.length:Int))) (cond (decide (0≤(IntKind.wrap .u64 z4))) (cond (decide (z2<(128:Int))) (cond (z2==(0:Int)) (cond (decide (x8 > (0:Int))) (some (.ret,z3)) (cond (decide ((ior .i64 x7 (IntKind.wrap .i64 (z5*2 ^ (min (Int.toNat (IntKind.wrap .u64 z4)) z6)))) > (1000000000:Int))) (some (.ret,z3)) (some (.ret,z1)))) (cond (decide ((ior .i64 x7 (IntKind.wrap .i64 (z5*2 ^ (min (Int.toNat (IntKind.wrap .u64 z4)) z6)))) > (1000000000:Int))) (some (.ret,z3)) (some (.ret,z1)))) (some (.normal,(⟨((.t false C6 x0)::z7::.junk::.junk::.junk::.junk::.junk::(ti (ior .i64 x7 (IntKind.wrap .i64 (z5*2 ^ (min (Int.toNat (IntKind.wrap .u64 z4)) z6)))))::(ti (IntKind.wrap .i64 (x8+(1:Int))))::C2q),[],0,[]⟩:St)))) none) none) (some ((.exit 0),z8))) (some ((.exit 0),z8)))
theorem B3z:RdA G18 aLn 0 A6K L7 0 [] (kepts [4,5,6] [(0,[])]) (A2y A9V):=by
 intro d
 kernel_rfl
theorem B3M:∀ d:L7.den,(A2y A9V) d=(A5O d).opt 0 []:=by
 intro d
 kernel_rfl
noncomputable abbrev A8L:St→Option Tree:=L7.say 0 [] [] (A2y B5N)
theorem B4W:aPL A8L A6K:=SS.wp2 hlz [] A5O B3z B3M _ (fun d=>Runs.ofI2 (step:=A5O) A99 B5f rfl (d.1.1,d.1.2.1,d.1.2.2.2.2.2.2.2.1,d.1.2.2.2.2.2.2.2.2.1))
noncomputable def B8 (a0:List Int) (a1:Int):Int×Int×Bool:=let z1:=R7 a0 a1 (0:Int) (0:Int);(cond (!(T6 a1 (0:Int) (IntKind.wrap .i64 ((a0.length:Int) - (1:Int))))) ((0:Int),(0:Int),false) (cond (z1.1==0) ((z1.2.1),(z1.2.2.1),(z1.2.2.2)) ((0:Int),(0:Int),false)))
noncomputable abbrev A4U (r:Int×Int×Bool):AV×List AObj:=((.tup [(ti r.1),(ti r.2.1),(.t true .bool r.2.2)]),[])
noncomputable abbrev B0M:pshsDen A4B→AV×List AObj:=fun d=>A4U (B8 d.1 d.2.1)
noncomputable def P7 (a0:List Int) (a1:Int):Bool:=let z1:=R7 a0 a1 (0:Int) (0:Int);cond (!(T6 a1 (0:Int) (IntKind.wrap .i64 ((a0.length:Int) - (1:Int))))) true (cond (z1.1==0) true (z1.1==1))
noncomputable abbrev A67:pshsDen A4B→Bool:=fun d=>P7 d.1 d.2.1
noncomputable abbrev B7E:Nat→St→Option Tree:=fun b=>match b with | 0=>A8L | _=>fun _=>none
theorem B6i:RunP true G18 (B7E) Try.f76 A4B A67 B0M:=by
 rintro ⟨a0,⟨a1,_⟩⟩ hp
 change P7 a0 a1=true at hp
 unfold P7 at hp
 refine Eq.trans (b:=(let z1:=R7 a0 a1 (0:Int) (0:Int);let z2:=A4U ((0:Int),(0:Int),false);cond (!(T6 a1 (0:Int) (IntKind.wrap .i64 ((a0.length:Int) - (1:Int))))) (some z2) (cond (z1.1==0) (some (A4U ((z1.2.1),(z1.2.2.1),(z1.2.2.2)))) (cond (z1.1==1) (some z2) none)))) (by kernel_rfl) ?_
 exact (O8 A4U hp (fun hp=>rfl) (fun hp=>(O8 A4U hp (fun hp=>rfl) (fun hp=>(cndT hp fun _h=>rfl)))))
theorem B7P:aPP 76 (sumOf A4B A67 B0M):=pcD true G18 (hl1 (i:=0) (by kernel_rfl) B4W) B6i
noncomputable def S19:Tab:=Tab.add S18 76 (lift (sumOf A4B A67 B0M))
noncomputable def C0Q:FuncId→Bool:=qadd C0P 76
theorem G19:aPG S19 C0Q:=G18.addQ B7P (cbl Try.f76) (fun _=>rfl)

abbrev A0M:SS:=⟨[.ptr 0 0 1 0],[.box [.t false C6,tI,.t true .bool]]⟩
noncomputable def A7 (p0:List Int) (p1:Int) (p2:Bool):Int×(List Int)×Int×Bool:=let z1:=B8 p0 p1;(cond p2 ((0:Int),p0,p1,true) (cond (!(z1.2.2)) ((0:Int),p0,p1,true) ((z1.1),p0,(z1.2.1),p2)))
noncomputable abbrev A0e (r:Int×(List Int)×Int×Bool):AV×List AObj×List Nat:=((ti r.1),[(.box [(.t false C6 r.2.1),(ti r.2.2.1),(.t true .bool r.2.2.2)])],[])
noncomputable abbrev A8m:A0M.den→AV×List AObj×List Nat:=fun d=>A0e (A7 d.2.1.1 d.2.1.2.1 d.2.1.2.2.1)
noncomputable def B7 (p0:List Int) (p1:Int) (p2:Bool):Bool:=P7 p0 p1
noncomputable abbrev A6e:A0M.den→Bool:=fun d=>B7 d.2.1.1 d.2.1.2.1 d.2.1.2.2.1
theorem B1S:RunM G19 aLn Try.f77 A0M A6e A8m:=by
 rintro ⟨⟨_,_⟩,⟨⟨p0,p1,p2,_⟩,_⟩⟩ hp
 change B7 p0 p1 p2=true at hp
 unfold B7 at hp
 refine Eq.trans (b:=(let z1:=A0e ((0:Int),p0,p1,true);let z2:=B8 p0 p1;cond (P7 p0 p1) (cond p2 (some z1) (cond (!(z2.2.2)) (some z1) (some (A0e ((z2.1),p0,(z2.2.1),p2))))) none)) (by kernel_rfl) ?_
 exact (cndT hp fun _h=>(F9 A0e (fun _h=>rfl) (fun _h=>(F9 A0e (fun _h=>rfl) (fun _h=>rfl)))))
noncomputable abbrev A8q:=win winIds (msum A0M A6e A8m)
theorem B3i:aPM 77 A8q:=(mcM G19 hlz B1S).win winIds
noncomputable def S20:Tab:=Tab.add S19 77 (A8q)
noncomputable def C0R:FuncId→Bool:=C0Q
theorem G20:aPG S20 C0R:=G19.addM B3i (win_local _) (cbl Try.f77) (by kernel_rfl)

abbrev A20:List PSh:=[.t C6,.t (.int .i64)]
noncomputable def A6X (a0:List Int) (a1:Int):ByteArray×Int×Bool:=(cond (!((B8 a0 a1).2.2)) (bE,(0:Int),false) (cond (decide (((B8 a0 a1).1) > (IntKind.wrap .i64 ((a0.length:Int) - ((B8 a0 a1).2.1))))) (bE,(0:Int),false) ((⟨(((a0.take (IntKind.wrap .i64 (((B8 a0 a1).2.1)+((B8 a0 a1).1))).toNat).drop ((B8 a0 a1).2.1).toNat).map fun n=>UInt8.ofNat n.toNat).toArray⟩:ByteArray),IntKind.wrap .i64 (((B8 a0 a1).2.1)+((B8 a0 a1).1)),true)))
noncomputable abbrev A1n (r:ByteArray×Int×Bool):AV×List AObj:=((.tup [(.t true .str r.1),(ti r.2.1),(.t true .bool r.2.2)]),[])
noncomputable abbrev A87:pshsDen A20→AV×List AObj:=fun d=>A1n (A6X d.1 d.2.1)
noncomputable def A0s (a0:List Int) (a1:Int):Bool:=let z1:=B8 a0 a1;let z2:=IntKind.wrap .i64 ((z1.2.1)+(z1.1));(P7 a0 a1)&&(cond (!(z1.2.2)) true (cond (decide ((z1.1) > (IntKind.wrap .i64 ((a0.length:Int) - (z1.2.1))))) true (decide (0≤(z1.2.1)∧(z1.2.1)≤z2∧z2≤(a0.length:Int)))))
noncomputable abbrev A5E:pshsDen A20→Bool:=fun d=>A0s d.1 d.2.1
theorem B5p:RunP true G20 aLn Try.f155 A20 A5E A87:=by
 rintro ⟨a0,⟨a1,_⟩⟩ hp
 change A0s a0 a1=true at hp
 unfold A0s at hp
 refine Eq.trans (b:=(cond (P7 a0 a1) (cond (!((B8 a0 a1).2.2)) (some (A1n ((⟨#[]⟩:ByteArray),(0:Int),false))) (cond (decide (((B8 a0 a1).1) > (IntKind.wrap .i64 ((a0.length:Int) - ((B8 a0 a1).2.1))))) (some (A1n ((⟨#[]⟩:ByteArray),(0:Int),false))) (cond (decide (0≤((B8 a0 a1).2.1)∧((B8 a0 a1).2.1)≤(IntKind.wrap .i64 (((B8 a0 a1).2.1)+((B8 a0 a1).1)))∧(IntKind.wrap .i64 (((B8 a0 a1).2.1)+((B8 a0 a1).1)))≤(a0.length:Int))) (some (A1n ((⟨(((a0.take (IntKind.wrap .i64 (((B8 a0 a1).2.1)+((B8 a0 a1).1))).toNat).drop ((B8 a0 a1).2.1).toNat).map fun n=>UInt8.ofNat n.toNat).toArray⟩:ByteArray),IntKind.wrap .i64 (((B8 a0 a1).2.1)+((B8 a0 a1).1)),true))) none))) none)) (by kernel_rfl) ?_
 exact (cndA hp fun hp=>(O8 A1n hp (fun hp=>rfl) (fun hp=>(O8 A1n hp (fun hp=>rfl) (fun hp=>(cndT hp fun _h=>rfl))))))
theorem B6R:aPP 155 (sumOf A20 A5E A87):=pcD true G20 hlz B5p
noncomputable def S21:Tab:=Tab.add S20 155 (lift (sumOf A20 A5E A87))
noncomputable def C0S:FuncId→Bool:=qadd C0R 155
theorem G21:aPG S21 C0S:=G20.addQ B6R (cbl Try.f155) (fun _=>rfl)

abbrev A0i:SS:=⟨[.ptr 0 0 1 0],[.box [.t false C6,tI,.t true .bool]]⟩
noncomputable def R6 (p0:List Int) (p1:Int) (p2:Bool):ByteArray×(List Int)×Int×Bool:=let z1:=A6X p0 p1;(cond p2 (bE,p0,p1,true) (cond (!(z1.2.2)) (bE,p0,p1,true) ((z1.1),p0,(z1.2.1),p2)))
noncomputable abbrev P1 (r:ByteArray×(List Int)×Int×Bool):AV×List AObj×List Nat:=((.t true .str r.1),[(.box [(.t false C6 r.2.1),(ti r.2.2.1),(.t true .bool r.2.2.2)])],[])
noncomputable abbrev A6T:A0i.den→AV×List AObj×List Nat:=fun d=>P1 (R6 d.2.1.1 d.2.1.2.1 d.2.1.2.2.1)
noncomputable def C4 (p0:List Int) (p1:Int) (p2:Bool):Bool:=A0s p0 p1
noncomputable abbrev A41:A0i.den→Bool:=fun d=>C4 d.2.1.1 d.2.1.2.1 d.2.1.2.2.1
theorem B1i:RunM G21 aLn Try.f120 A0i A41 A6T:=by
 rintro ⟨⟨_,_⟩,⟨⟨p0,p1,p2,_⟩,_⟩⟩ hp
 change C4 p0 p1 p2=true at hp
 unfold C4 at hp
 refine Eq.trans (b:=(let z1:=A6X p0 p1;cond (A0s p0 p1) (cond p2 (some (P1 ((⟨#[]⟩:ByteArray),p0,p1,true))) (cond (!(z1.2.2)) (some (P1 ((⟨#[]⟩:ByteArray),p0,p1,true))) (some (P1 ((z1.1),p0,(z1.2.1),p2))))) none)) (by kernel_rfl) ?_
 exact (cndT hp fun _h=>(F9 P1 (fun _h=>rfl) (fun _h=>(F9 P1 (fun _h=>rfl) (fun _h=>rfl)))))
noncomputable abbrev A61:=win winIds (msum A0i A41 A6T)
theorem B19:aPM 120 A61:=(mcM G21 hlz B1i).win winIds
noncomputable def S22:Tab:=Tab.add S21 120 (A61)
noncomputable def C0T:FuncId→Bool:=C0S
theorem G22:aPG S22 C0T:=G21.addM B19 (win_local _) (cbl Try.f120) (by kernel_rfl)

abbrev C0r:List Sh:=.junk::.junk::.junk::.junk::.junk::.junk::.junk::.junk::.junk::.junk::.junk::.junk::.junk::.junk::.junk::.junk::[]
abbrev u17:=((),(),(),(),(),(),(),(),(),(),(),(),(),(),(),(),())
abbrev u32:=((),(),(),u29)
abbrev C2k:List AV:=.junk::.junk::.junk::.junk::.junk::.junk::.junk::.junk::.junk::.junk::.junk::.junk::.junk::.junk::.junk::.junk::[]
abbrev A0N:SS:=⟨[.ptr 0 0 1 0],[.box [.t false C6,tI,.t true .bool]]⟩
abbrev E7:SS:=⟨(.ptr 0 0 1 0::.junk::.junk::.junk::.all 1 3::.junk::.junk::.junk::.junk::.junk::.junk::.junk::.junk::tI::tI::C0r),[.box [.t false C6,tI,.t true .bool],.rows 124 true tq5]⟩
abbrev A3K:SS:=⟨(.junk::.junk::.junk::.junk::.all 1 3::B7a),[.box [.t false C6,tI,.t true .bool],.rows 124 true tq5]⟩
noncomputable def B4 (p0:List Int) (p1:Int) (p2:Bool):=let z1:=A7 p0 p1 p2;R6 (z1.2.1) (z1.2.2.1) (z1.2.2.2)
noncomputable def B6 (p0:List Int) (p1:Int) (p2:Bool):=let z1:=B4 p0 p1 p2;R6 (z1.2.1) (z1.2.2.1) (z1.2.2.2)
noncomputable def A48 (x13 x14:Int) (p0:List Int) (p1:Int) (p2:Bool) (h1:Lq1):RT E7.den:=let z1:=B4 p0 p1 p2;let z2:=B6 p0 p1 p2;let z3:=A7 p0 p1 p2;(.br (decide (x14<x13)) (.br (B7 p0 p1 p2) (.br (C4 (z3.2.1) (z3.2.2.1) (z3.2.2.2)) (.br (C4 (z1.2.1) (z1.2.2.1) (z1.2.2.2)) (.br (decide ((h1.length+[((z3.1),((z1.1),(z2.1)))].length)*40≤MAXB)) (.next (((),(),(),(),(),(),(),(),(),(),(),(),(),x13,IntKind.wrap .i64 (x14+(1:Int)),u17),(((z2.2.1),(z2.2.2.1),(z2.2.2.2),()),h1++[((z3.1),((z1.1),(z2.1)))],()))) .fail) .fail) .fail) .fail) (.done (.exit 0) A3K ((u32),((p0,p1,p2,()),h1,()))))
abbrev T5:=(Int)×(Int)×(List Int)×(Int)×(Bool)×(Lq1)
abbrev L5:=Nat×(List Int)×(Int)×(Bool)×(Lq1)
def P2:L5:=(99,([]:List Int),((0:Int):Int),(false:Bool),([]:Lq1))
noncomputable def Z4 (x13 x14:Int) (p0:List Int) (p1:Int) (p2:Bool) (h1:Lq1):T5 ⊕ L5:=let z1:=B4 p0 p1 p2;let z2:=B6 p0 p1 p2;let z3:=A7 p0 p1 p2;(cond (decide (x14<x13)) (cond (B7 p0 p1 p2) (cond (C4 (z3.2.1) (z3.2.2.1) (z3.2.2.2)) (cond (C4 (z1.2.1) (z1.2.2.1) (z1.2.2.2)) (cond (decide ((h1.length+[((z3.1),((z1.1),(z2.1)))].length)*40≤MAXB)) (.inl (x13,IntKind.wrap .i64 (x14+(1:Int)),(z2.2.1),(z2.2.2.1),(z2.2.2.2),h1++[((z3.1),((z1.1),(z2.1)))])) (.inr P2)) (.inr P2)) (.inr P2)) (.inr P2)) (.inr (0,p0,p1,p2,h1)))
noncomputable def H4 (x13 x14:Int) (p0:List Int) (p1:Int) (p2:Bool) (h1:Lq1):L5:=itX (fun v:T5=>Z4 v.1 v.2.1 v.2.2.1 v.2.2.2.1 v.2.2.2.2.1 v.2.2.2.2.2) P2 (x13,x14,p0,p1,p2,h1)
noncomputable def A1m (a:L5):CT:=(.br (a.1==0) (.done (.exit 0) A3K ((u32),((a.2.1,a.2.2.1,a.2.2.2.1,()),a.2.2.2.2,()))) .fail)
noncomputable def B1D (x13 x14:Int) (p0:List Int) (p1:Int) (p2:Bool) (h1:Lq1):CT:=A1m (H4 x13 x14 p0 p1 p2 h1)
noncomputable abbrev Y2 {α:Sort _} (f:Int→Int→(List Int)→Int→Bool→Lq1→α) (d:E7.den):α:=f d.1.2.2.2.2.2.2.2.2.2.2.2.2.2.1 d.1.2.2.2.2.2.2.2.2.2.2.2.2.2.2.1 d.2.1.1 d.2.1.2.1 d.2.1.2.2.1 d.2.2.1
noncomputable abbrev A1D:E7.den→RT E7.den:=(Y2 A48)
noncomputable def A3f:Code:=((loopsIn 0 (bodyOf Try.f78)).getD 0 (0,.skip)).2
noncomputable abbrev A43 (v:T5):E7.den:=(((),(),(),(),(),(),(),(),(),(),(),(),(),v.1,v.2.1,u17),((v.2.2.1,v.2.2.2.1,v.2.2.2.2.1,()),v.2.2.2.2.2,()))
theorem B1h:(∀ v:T5,(A48 v.1 v.2.1 v.2.2.1 v.2.2.2.1 v.2.2.2.2.1 v.2.2.2.2.2).val=relS A43 A1m (Z4 v.1 v.2.1 v.2.2.1 v.2.2.2.1 v.2.2.2.2.1 v.2.2.2.2.2))∧∀ a:L5,CEnd E7.den (A1m a):=⟨fun v=>(relB (relB (relB (relB (relB rfl rfl) rfl) rfl) rfl) rfl),fun a=>(cendB aCD cendF)⟩
noncomputable def A4Z (x13 x14:Int) (p0:List Int) (p1:Int) (p2:Bool) (h1:Lq1):Option (Ex×St):=let z1:=B4 p0 p1 p2;let z2:=B6 p0 p1 p2;let z3:=A7 p0 p1 p2;(cond (decide (x14<x13)) (cond (B7 p0 p1 p2) (cond (C4 (z3.2.1) (z3.2.2.1) (z3.2.2.2)) (cond (C4 (z1.2.1) (z1.2.2.1) (z1.2.2.2)) (cond (decide ((h1.length+[((z3.1),((z1.1),(z2.1)))].length)*40≤MAXB)) (some (.normal,(⟨((.ptr 0 0 1 0)::.junk::.junk::.junk::(.all 1 3)::.junk::.junk::.junk::.junk::.junk::.junk::.junk::.junk::(ti x13)::(ti (IntKind.wrap .i64 (x14+(1:Int))))::C2k),[(.box [(.t false C6 (z2.2.1)),(ti (z2.2.2.1)),(.t true .bool (z2.2.2.2))]),(.rows 124 true tq5 (h1++[((z3.1),((z1.1),(z2.1)))]))],1,[]⟩:St))) none) none) none) none) (some ((.exit 0),(⟨(.junk::.junk::.junk::.junk::(.all 1 3)::B9H),[(.box [(.t false C6 p0),(ti p1),(.t true .bool p2)]),(.rows 124 true tq5 h1)],1,[]⟩:St))))
theorem B0l:RdA G22 aLn 0 A3f E7 1 [] (kepts [] [(0,[4])]) (Y2 A4Z):=by
 intro d
 kernel_rfl
theorem B0o:∀ d:E7.den,(Y2 A4Z) d=(A1D d).opt 1 []:=by
 intro d
 kernel_rfl
noncomputable abbrev A30:St→Option Tree:=E7.say 1 [] [(4,124,tq5)] (Y2 B1D)
theorem B00:aPL A30 A3f:=SS.wp2 hlz [(4,124,tq5)] A1D B0l B0o _ (fun d=>Runs.ofI2 (step:=A1D) A43 B1h rfl (d.1.2.2.2.2.2.2.2.2.2.2.2.2.2.1,d.1.2.2.2.2.2.2.2.2.2.2.2.2.2.2.1,d.2.1.1,d.2.1.2.1,d.2.1.2.2.1,d.2.2.1))
noncomputable def A08 (p0:List Int) (p1:Int) (p2:Bool):=let z1:=A7 p0 p1 p2;H4 (z1.1) (0:Int) (z1.2.1) (z1.2.2.1) (z1.2.2.2) ([]:Lq1)
noncomputable def J9 (p0:List Int) (p1:Int) (p2:Bool):(List Int)×Int×Bool×Lq1:=let z1:=A08 p0 p1 p2;let z2:=A7 p0 p1 p2;(cond (decide ((z2.1) > (8:Int))) ((z2.2.1),(z2.2.2.1),true,([]:Lq1)) ((z1.2.1),(z1.2.2.1),(z1.2.2.2.1),(z1.2.2.2.2)))
noncomputable abbrev A1M (r:(List Int)×Int×Bool×Lq1):AV×List AObj×List Nat:=((.all 1 3),[(.box [(.t false C6 r.1),(ti r.2.1),(.t true .bool r.2.2.1)]),(.rows 124 true tq5 r.2.2.2)],[])
noncomputable abbrev A8n:A0N.den→AV×List AObj×List Nat:=fun d=>A1M (J9 d.2.1.1 d.2.1.2.1 d.2.1.2.2.1)
noncomputable def O4 (p0:List Int) (p1:Int) (p2:Bool):Bool:=(B7 p0 p1 p2)&&(cond (decide (((A7 p0 p1 p2).1) > (8:Int))) true ((A08 p0 p1 p2).1==0))
noncomputable abbrev A6f:A0N.den→Bool:=fun d=>O4 d.2.1.1 d.2.1.2.1 d.2.1.2.2.1
noncomputable abbrev B29:Nat→St→Option Tree:=fun b=>match b with | 0=>A30 | _=>fun _=>none
theorem B1T:RunM G22 (B29) Try.f78 A0N A6f A8n:=by
 rintro ⟨⟨_,_⟩,⟨⟨p0,p1,p2,_⟩,_⟩⟩ hp
 change O4 p0 p1 p2=true at hp
 unfold O4 at hp
 refine Eq.trans (b:=(let z1:=A08 p0 p1 p2;let z2:=A7 p0 p1 p2;cond (B7 p0 p1 p2) (cond (decide ((z2.1) > (8:Int))) (some (A1M ((z2.2.1),(z2.2.2.1),true,([]:Lq1)))) (cond (z1.1==0) (some (A1M ((z1.2.1),(z1.2.2.1),(z1.2.2.2.1),(z1.2.2.2.2)))) none)) none)) (by kernel_rfl) ?_
 exact (cndA hp fun hp=>(O8 A1M hp (fun hp=>rfl) (fun hp=>(cndT hp fun _h=>rfl))))
noncomputable abbrev A8r:=win winIds (msum A0N A6f A8n)
theorem B3j:aPM 78 A8r:=(mcM G22 (hl1 (i:=0) (by kernel_rfl) B00) B1T).win winIds
noncomputable def S23:Tab:=Tab.add S22 78 (A8r)
noncomputable def C0U:FuncId→Bool:=C0T
theorem G23:aPG S23 C0U:=G22.addM B3j (win_local _) (cbl Try.f78) (by kernel_rfl)

abbrev A9z:List PSh:=[.t (.int .i64)]
noncomputable def B1p (a0:Int):Bool:=(T6 a0 (1:Int) (1000000:Int))
noncomputable abbrev B9B (r:Bool):AV×List AObj:=((.t true .bool r),[])
noncomputable abbrev B4O:pshsDen A9z→AV×List AObj:=fun d=>B9B (B1p d.1)
noncomputable abbrev B06:pshsDen A9z→Bool:=fun d=>true
theorem B8o:RunP true G23 aLn Try.f74 A9z B06 B4O:=by
 rintro ⟨a0,_⟩ hp
 kernel_rfl
theorem B9v:aPP 74 (sumOf A9z B06 B4O):=pcD true G23 hlz B8o
noncomputable def S24:Tab:=Tab.add S23 74 (lift (sumOf A9z B06 B4O))
noncomputable def C0V:FuncId→Bool:=qadd C0U 74
theorem G24:aPG S24 C0V:=G23.addQ B9v (cbl Try.f74) (fun _=>rfl)

abbrev A0L:List PSh:=[.t (.int .u8)]
noncomputable def A3u (a0:Int):Bool:=let z1:=decide (a0 ≥ (48:Int));let z2:=decide (a0≤(57:Int));(cond (decide (a0 ≥ (97:Int))) (cond (decide (a0≤(122:Int))) true (cond z1 z2 false)) (cond z1 z2 false))
noncomputable abbrev J4 (r:Bool):AV×List AObj:=((.t true .bool r),[])
noncomputable abbrev A5v:pshsDen A0L→AV×List AObj:=fun d=>J4 (A3u d.1)
noncomputable abbrev A3B:pshsDen A0L→Bool:=fun d=>true
theorem B25:RunP true G24 aLn Try.f178 A0L A3B A5v:=by
 rintro ⟨a0,_⟩ hp
 refine Eq.trans (b:=(let z1:=J4 (decide (a0≤(57:Int)));let z2:=decide (a0 ≥ (48:Int));cond (decide (a0 ≥ (97:Int))) (cond (decide (a0≤(122:Int))) (some (J4 true)) (cond z2 (some z1) (some (J4 false)))) (cond z2 (some z1) (some (J4 false))))) (by kernel_rfl) ?_
 exact (F9 J4 (fun _h=>(F9 J4 (fun _h=>rfl) (fun _h=>(F9 J4 (fun _h=>rfl) (fun _h=>rfl))))) (fun _h=>(F9 J4 (fun _h=>rfl) (fun _h=>rfl))))
theorem B4G:aPP 178 (sumOf A0L A3B A5v):=pcD true G24 hlz B25
noncomputable def S25:Tab:=Tab.add S24 178 (lift (sumOf A0L A3B A5v))
noncomputable def C0W:FuncId→Bool:=qadd C0V 178
theorem G25:aPG S25 C0W:=G24.addQ B4G (cbl Try.f178) (fun _=>rfl)

abbrev C1N:List Sh:=.junk::.junk::.junk::.junk::.junk::.junk::.junk::.junk::.junk::.junk::.junk::[]
abbrev C1O:List Sh:=.junk::C1N
abbrev B9J:List Sh:=.junk::.junk::C1O
abbrev u13:=((),(),(),(),(),(),(),(),(),(),(),(),())
abbrev u12:=((),(),(),(),(),(),(),(),(),(),(),())
abbrev u16:=((),(),(),u13)
noncomputable def A5w (s:ByteArray) (i:Nat):Bool:=A3u (bt s (i:Int))
abbrev A4E:List PSh:=[.t .str]
abbrev V2:SS:=⟨(.t true .str::.junk::.junk::tI::C1N),[]⟩
abbrev A74:SS:=⟨(.junk::.junk::.t true .bool::C1O),[]⟩
abbrev A75:SS:=⟨(.junk::B9J),[]⟩
noncomputable def A5Y (x0:ByteArray) (x3:Int):RT V2.den:=(.br (decide (x3<(x0.size:Int))) (.br (decide (0≤x3∧x3<(x0.size:Int))) (.br (!(A3u (bt x0 x3))) (.done .ret A74 (((),(),false,u13),())) (.next ((x0,(),(),IntKind.wrap .i64 (x3+(1:Int)),u12),()))) .fail) (.done (.exit 0) A75 ((u16),())))
noncomputable def A11 (x0:ByteArray) (x3:Int):CT:=(.br (decide (0≤x3)&&okS x0) (.br (allF (A5w x0) (x0.size - x3.toNat) x3.toNat) (.done (.exit 0) A75 ((u16),())) (.done .ret A74 (((),(),false,u13),()))) .fail)
noncomputable abbrev A1f:V2.den→RT V2.den:=(fun d=>A5Y d.1.1 d.1.2.2.2.1)
noncomputable abbrev A95 (x0:ByteArray) (x3:Int):V2.den:=((x0,(),(),x3,u12),())
noncomputable def A6L:Code:=((loopsIn 0 (bodyOf Try.f167)).getD 0 (0,.skip)).2
theorem B5K (x0:ByteArray) (x3:Int):(A11 x0 x3).val (D:=V2.den)=.fail∨Runs A1f (A95 x0 x3) (A11 x0 x3).val:=by
 cases hc:(decide (0≤x3)&&okS x0) with
 | false=>left;simp only [A11,CT.val,hc,cond_false]
 | true =>
  right
  simp only [A11,CT.val,hc,cond_true]
  simp only [Bool.and_eq_true,decide_eq_true_eq] at hc
  obtain ⟨i,rfl⟩:=Int.eq_ofNat_of_zero_le hc.1
  have hs:=okS_le hc.2
  simp only [Int.toNat_natCast]
  refine Runs.scan (fun j=>A95 x0 (j:Int)) (x0.size) (A5w x0) (fun i hi=>?_) (fun i hi=>?_) ⟨_,_,_,rfl,by simp⟩ ⟨_,_,_,rfl,by simp⟩ _ _ rfl
  ·
   have h0a:decide ((i:Int)<(x0.size:Int))=true:=decide_eq_true (by omega)
   have h0b:decide (0≤(i:Int)∧(i:Int)<(x0.size:Int))=true:=decide_eq_true (by omega)
   simp only [A1f,A5Y,RT.val,h0a,h0b,cond_true,wrapS i (by omega),Int.toNat_natCast]
   simp only [A5w]
   cases A3u (bt x0 (i:Int))<;>rfl
  ·have h1:decide ((i:Int)<(x0.size:Int))=false:=decide_eq_false (by omega)
   simp only [A1f,A5Y,RT.val,h1,cond_false]
theorem B3C:RdA G25 aLn 0 A6L V2 0 [] (kepts [2] [(0,[])]) (fun d=>(A1f d).opt 0 []):=by
 intro d
 kernel_rfl
noncomputable abbrev A8O:St→Option Tree:=V2.say 0 [] [] (fun d=>A11 d.1.1 d.1.2.2.2.1)
theorem B4Z:aPL A8O A6L:=SS.wp2 hlz [] A1f B3C (fun d=>rfl) _ (fun d=>B5K d.1.1 d.1.2.2.2.1)
noncomputable def B1Z (a0:ByteArray):Bool:=(cond (allF (A5w a0) (a0.size - (0:Int).toNat) (0:Int).toNat) true false)
noncomputable abbrev A7Q (r:Bool):AV×List AObj:=((.t true .bool r),[])
noncomputable abbrev B0P:pshsDen A4E→AV×List AObj:=fun d=>A7Q (B1Z d.1)
noncomputable def A7W (a0:ByteArray):Bool:=okS a0
noncomputable abbrev A7a:pshsDen A4E→Bool:=fun d=>A7W d.1
noncomputable abbrev B7G:Nat→St→Option Tree:=fun b=>match b with | 0=>A8O | _=>fun _=>none
theorem B6l:RunP true G25 (B7G) Try.f167 A4E A7a B0P:=by
 rintro ⟨a0,_⟩ hp
 change A7W a0=true at hp
 unfold A7W at hp
 refine Eq.trans (b:=(cond (decide (0≤(0:Int))&&okS a0) (cond (allF (A5w a0) (a0.size - (0:Int).toNat) (0:Int).toNat) (some (A7Q true)) (some (A7Q false))) none)) (by kernel_rfl) ?_
 exact (cndT (by first | rfl | decide | exact hp | (simp only [Bool.and_eq_true] at hp;simp only [hp];done) | (simp [*];done) | (simp [okL] at hp;simp [okL,MAXB];omega) | (simp_all;done) | (simp at *;omega)) (fun _h=>(F9 A7Q (fun _h=>rfl) (fun _h=>rfl))))
theorem B7S:aPP 167 (sumOf A4E A7a B0P):=pcD true G25 (hl1 (i:=0) (by kernel_rfl) B4Z) B6l
noncomputable def S26:Tab:=Tab.add S25 167 (lift (sumOf A4E A7a B0P))
noncomputable def C0X:FuncId→Bool:=qadd C0W 167
theorem G26:aPG S26 C0X:=G25.addQ B7S (cbl Try.f167) (fun _=>rfl)

abbrev A6C:List PSh:=[.t .str]
noncomputable def A4f (a0:ByteArray):Bool:=(cond (T6 (a0.size:Int) (1:Int) (12:Int)) (B1Z a0) false)
noncomputable abbrev A9G (r:Bool):AV×List AObj:=((.t true .bool r),[])
noncomputable abbrev B2i:pshsDen A6C→AV×List AObj:=fun d=>A9G (A4f d.1)
noncomputable def B0j (a0:ByteArray):Bool:=okS a0
noncomputable abbrev A9j:pshsDen A6C→Bool:=fun d=>B0j d.1
theorem B7k:RunP true G26 aLn Try.f140 A6C A9j B2i:=by
 rintro ⟨a0,_⟩ hp
 change B0j a0=true at hp
 unfold B0j at hp
 refine Eq.trans (b:=(cond (T6 (a0.size:Int) (1:Int) (12:Int)) (cond (A7W a0) (some (A9G (B1Z a0))) none) (some (A9G false)))) (by kernel_rfl) ?_
 exact (F9 A9G (fun _h=>(cndT (by first | rfl | decide | exact hp | (simp only [Bool.and_eq_true] at hp;simp only [hp];done) | (simp [*];done) | (simp [okL] at hp;simp [okL,MAXB];omega) | (simp_all;done) | (simp at *;omega)) (fun _h=>rfl))) (fun _h=>rfl))
theorem B8D:aPP 140 (sumOf A6C A9j B2i):=pcD true G26 hlz B7k
noncomputable def S27:Tab:=Tab.add S26 140 (lift (sumOf A6C A9j B2i))
noncomputable def C0Y:FuncId→Bool:=qadd C0X 140
theorem G27:aPG S27 C0Y:=G26.addQ B8D (cbl Try.f140) (fun _=>rfl)

abbrev A9A:List PSh:=[.agg [(.int .i64),.str,.str]]
noncomputable def B2x (a0:Int) (a1 a2:ByteArray):Bool:=let z1:=decide ((a2.size:Int)≤(20:Int));(cond (a0==(1:Int)) (cond (A4f a1) z1 false) (cond (a0==(3:Int)) (cond (A4f a1) z1 false) (cond (a0==(2:Int)) (cond (A4f a1) (a2.toList==bE.toList) false) false)))
noncomputable abbrev Y3 (r:Bool):AV×List AObj:=((.t true .bool r),[])
noncomputable abbrev B4P:pshsDen A9A→AV×List AObj:=fun d=>Y3 (B2x d.1.1 d.1.2.1 d.1.2.2.1)
noncomputable def A7X (a0:Int) (a1 a2:ByteArray):Bool:=okS a1
noncomputable abbrev B07:pshsDen A9A→Bool:=fun d=>A7X d.1.1 d.1.2.1 d.1.2.2.1
theorem B8p:RunP true G27 aLn Try.f119 A9A B07 B4P:=by
 rintro ⟨⟨a0,⟨a1,⟨a2,_⟩⟩⟩,_⟩ hp
 change A7X a0 a1 a2=true at hp
 unfold A7X at hp
 refine Eq.trans (b:=(let z1:=Y3 (decide ((a2.size:Int)≤(20:Int)));let z2:=B0j a1;cond (a0==(1:Int)) (cond z2 (cond (A4f a1) (some z1) (some (Y3 false))) none) (cond (a0==(3:Int)) (cond z2 (cond (A4f a1) (some z1) (some (Y3 false))) none) (cond (a0==(2:Int)) (cond z2 (cond (A4f a1) (some (Y3 (a2.toList==(⟨#[]⟩:ByteArray).toList))) (some (Y3 false))) none) (some (Y3 false)))))) (by kernel_rfl) ?_
 exact (F9 Y3 (fun _h=>(cndT (by first | rfl | decide | exact hp | (simp only [Bool.and_eq_true] at hp;simp only [hp];done) | (simp [*];done) | (simp [okL] at hp;simp [okL,MAXB];omega) | (simp_all;done) | (simp at *;omega)) (fun _h=>(F9 Y3 (fun _h=>rfl) (fun _h=>rfl))))) (fun _h=>(F9 Y3 (fun _h=>(cndT (by first | rfl | decide | exact hp | (simp only [Bool.and_eq_true] at hp;simp only [hp];done) | (simp [*];done) | (simp [okL] at hp;simp [okL,MAXB];omega) | (simp_all;done) | (simp at *;omega)) (fun _h=>(F9 Y3 (fun _h=>rfl) (fun _h=>rfl))))) (fun _h=>(F9 Y3 (fun _h=>(cndT (by first | rfl | decide | exact hp | (simp only [Bool.and_eq_true] at hp;simp only [hp];done) | (simp [*];done) | (simp [okL] at hp;simp [okL,MAXB];omega) | (simp_all;done) | (simp at *;omega)) (fun _h=>(F9 Y3 (fun _h=>rfl) (fun _h=>rfl))))) (fun _h=>rfl))))))
theorem B9w:aPP 119 (sumOf A9A B07 B4P):=pcD true G27 hlz B8p
noncomputable def S28:Tab:=Tab.add S27 119 (lift (sumOf A9A B07 B4P))
noncomputable def C0Z:FuncId→Bool:=qadd C0Y 119
theorem G28:aPG S28 C0Z:=G27.addQ B9w (cbl Try.f119) (fun _=>rfl)

abbrev B87:List Sh:=.junk::B6a
abbrev B82:List AV:=.junk::B4U
noncomputable def B1o (l:Lq1) (i:Nat):Bool:=let z1:=l.getD i dOp;let z2:=l.getD (i - 1) dOp;B2x z1.1 z1.2.1 z1.2.2&&(decide (i=0)||!(Op.bytesLess z1.2.1.toList z2.2.1.toList||(z1.2.1.toList==z2.2.1.toList)))
abbrev A6D:List PSh:=[.t tq3]
abbrev R0:SS:=⟨(.t false tq3::.junk::.junk::.junk::.junk::.t false tq3::tI::tI::B7a),[]⟩
abbrev A49:SS:=⟨(.junk::.junk::.t true .bool::B87),[]⟩
abbrev A9t:SS:=⟨(.t false tq3::C0u),[]⟩
noncomputable def A7F (x0 x5:Lq1) (x6 x7:Int):RT R0.den:=let z1:=x5.getD x7.toNat ((0:Int),(bE,bE));let z2:=IntKind.wrap .i64 (x7 - (1:Int));let z3:=((x0.getD (z2.toNat) ((0:Int),(bE,bE))).2).1;(.br (decide (x7<x6)) (.br (decide (0≤x7∧x7<(x5.length:Int))) (.br (A7X (z1.1) ((z1.2).1) ((z1.2).2)) (.br (!(B2x (z1.1) ((z1.2).1) ((z1.2).2))) (.done .ret A49 (((),(),false,u32),())) (.br (decide (x7 > (0:Int))) (.br (decide (0≤z2∧z2<(x0.length:Int))) (.br (Op.bytesLess ((z1.2).1).toList z3.toList||(((z1.2).1).toList==z3.toList)) (.done .ret A49 (((),(),false,u32),())) (.next ((x0,(),(),(),(),x5,x6,IntKind.wrap .i64 (x7+(1:Int)),u27),()))) .fail) (.next ((x0,(),(),(),(),x5,x6,IntKind.wrap .i64 (x7+(1:Int)),u27),())))) .fail) .fail) (.done (.exit 0) A9t ((x0,u34),())))
noncomputable def A29 (x0 x5:Lq1) (x6 x7:Int):CT:=(.br (decide (0≤x7)&&(decide (x6=(x5.length:Int))&&(decide (x5=x0)&&F5 x5))) (.br (allF (B1o x5) (x5.length - x7.toNat) x7.toNat) (.done (.exit 0) A9t ((x0,u34),())) (.done .ret A49 (((),(),false,u32),()))) .fail)
noncomputable abbrev A3P {α:Sort _} (f:Lq1→Lq1→Int→Int→α) (d:R0.den):α:=f d.1.1 d.1.2.2.2.2.2.1 d.1.2.2.2.2.2.2.1 d.1.2.2.2.2.2.2.2.1
noncomputable abbrev A2c:R0.den→RT R0.den:=(A3P A7F)
noncomputable abbrev B1u (x0 x5:Lq1) (x6 x7:Int):R0.den:=((x0,(),(),(),(),x5,x6,x7,u27),())
noncomputable def A8d:Code:=((loopsIn 0 (bodyOf Try.f75)).getD 0 (0,.skip)).2
theorem B6M (x0 x5:Lq1) (x6 x7:Int):(A29 x0 x5 x6 x7).val (D:=R0.den)=.fail∨Runs A2c (B1u x0 x5 x6 x7) (A29 x0 x5 x6 x7).val:=by
 cases hc:(decide (0≤x7)&&(decide (x6=(x5.length:Int))&&(decide (x5=x0)&&F5 x5))) with
 | false=>left;simp only [A29,CT.val,hc,cond_false]
 | true =>
  right
  simp only [A29,CT.val,hc,cond_true]
  simp only [Bool.and_eq_true,decide_eq_true_eq] at hc
  obtain ⟨i,rfl⟩:=Int.eq_ofNat_of_zero_le hc.1
  obtain ⟨_,e6,e5,hc⟩:=hc
  subst e5;subst e6
  have hs:=A0F hc
  simp only [Int.toNat_natCast]
  refine Runs.scan (fun j=>B1u x5 x5 (x5.length:Int) (j:Int)) (x5.length) (B1o x5) (fun i hi=>?_) (fun i hi=>?_) ⟨_,_,_,rfl,by simp⟩ ⟨_,_,_,rfl,by simp⟩ _ _ rfl
  ·
   have h0a:decide ((i:Int)<(x5.length:Int))=true:=decide_eq_true (by omega)
   have h0b:decide (0≤(i:Int)∧(i:Int)<(x5.length:Int))=true:=decide_eq_true (by omega)
   simp only [A2c,A7F,RT.val,h0a,h0b,cond_true,wrapS i (by omega),Int.toNat_natCast]
   have hq:A7X (x5.getD i dOp).1 (x5.getD i dOp).2.1 (x5.getD i dOp).2.2=true:=(A62 hc i hi).1
   simp only [dOp] at hq
   simp only [hq,cond_true,B1o,dOp]
   cases B2x (x5.getD i ((0:Int),((⟨#[]⟩:ByteArray),(⟨#[]⟩:ByteArray)))).1 (x5.getD i ((0:Int),((⟨#[]⟩:ByteArray),(⟨#[]⟩:ByteArray)))).2.1 (x5.getD i ((0:Int),((⟨#[]⟩:ByteArray),(⟨#[]⟩:ByteArray)))).2.2 with
   | false=>rfl
   | true =>
    cases i with
    | zero=>rfl
    | succ i =>
     have h3:decide (((i+1:Nat):Int) > 0)=true:=decide_eq_true (by omega)
     have h4:IntKind.wrap .i64 (((i+1:Nat):Int) - 1)=(i:Int):=by have:=wrap64 (n:=((i+1:Nat):Int) - 1) (by omega) (by omega);omega
     have h5:decide (0≤(i:Int)∧(i:Int)<(x5.length:Int))=true:=decide_eq_true (by omega)
     have h6:decide (i+1=0)=false:=by simp
     simp only [h3,h4,h5,h6,cond_true,Bool.true_and,Bool.false_or,Int.toNat_natCast,Nat.add_sub_cancel,Bool.not_true,cond_false]
     cases (Op.bytesLess (x5.getD (i+1) ((0:Int),((⟨#[]⟩:ByteArray),(⟨#[]⟩:ByteArray)))).2.1.toList (x5.getD i ((0:Int),((⟨#[]⟩:ByteArray),(⟨#[]⟩:ByteArray)))).2.1.toList||((x5.getD (i+1) ((0:Int),((⟨#[]⟩:ByteArray),(⟨#[]⟩:ByteArray)))).2.1.toList==(x5.getD i ((0:Int),((⟨#[]⟩:ByteArray),(⟨#[]⟩:ByteArray)))).2.1.toList))<;>rfl
  ·have h1:decide ((i:Int)<(x5.length:Int))=false:=decide_eq_false (by omega)
   simp only [A2c,A7F,RT.val,h1,cond_false]
noncomputable def B1s (x0 x5:Lq1) (x6 x7:Int):Option (Ex×St):=let z1:=x5.getD x7.toNat ((0:Int),(bE,bE));let z2:=(⟨((.t false tq3 x0)::.junk::.junk::.junk::.junk::(.t false tq3 x5)::(ti x6)::(ti (IntKind.wrap .i64 (x7+(1:Int))))::B9H),[],0,[]⟩:St);let z3:=IntKind.wrap .i64 (x7 - (1:Int));let z4:=(⟨(.junk::.junk::(.t true .bool false)::B82),[],0,[]⟩:St);let z5:=((x0.getD (z3.toNat) ((0:Int),(bE,bE))).2).1;(cond (decide (x7<x6)) (cond (decide (0≤x7∧x7<(x5.length:Int))) (cond (A7X (z1.1) ((z1.2).1) ((z1.2).2)) (cond (!(B2x (z1.1) ((z1.2).1) ((z1.2).2))) (some (.ret,z4)) (cond (decide (x7 > (0:Int))) (cond (decide (0≤z3∧z3<(x0.length:Int))) (cond (Op.bytesLess ((z1.2).1).toList z5.toList||(((z1.2).1).toList==z5.toList)) (some (.ret,z4)) (some (.normal,z2))) none) (some (.normal,z2)))) none) none) (some ((.exit 0),(⟨((.t false tq3 x0)::C1F),[],0,[]⟩:St))))
theorem B49:RdA G28 aLn 0 A8d R0 0 [] (kepts [2] [(0,[0])]) (A3P B1s):=by
 intro d
 kernel_rfl
theorem B5d:∀ d:R0.den,(A3P B1s) d=(A2c d).opt 0 []:=by
 intro d
 kernel_rfl
noncomputable abbrev B0r:St→Option Tree:=R0.say 0 [] [] (A3P A29)
theorem B6b:aPL B0r A8d:=SS.wp2 hlz [] A2c B49 B5d _ (fun d=>B6M d.1.1 d.1.2.2.2.2.2.1 d.1.2.2.2.2.2.2.1 d.1.2.2.2.2.2.2.2.1)
noncomputable def B2v (a0:Lq1):Bool:=(cond (allF (B1o a0) (a0.length - (0:Int).toNat) (0:Int).toNat) (T6 (a0.length:Int) (1:Int) (8:Int)) false)
noncomputable abbrev A9H (r:Bool):AV×List AObj:=((.t true .bool r),[])
noncomputable abbrev B2j:pshsDen A6D→AV×List AObj:=fun d=>A9H (B2v d.1)
noncomputable def B0k (a0:Lq1):Bool:=F5 a0
noncomputable abbrev A9k:pshsDen A6D→Bool:=fun d=>B0k d.1
noncomputable abbrev B8x:Nat→St→Option Tree:=fun b=>match b with | 0=>B0r | _=>fun _=>none
theorem B7l:RunP true G28 (B8x) Try.f75 A6D A9k B2j:=by
 rintro ⟨a0,_⟩ hp
 change B0k a0=true at hp
 unfold B0k at hp
 refine Eq.trans (b:=(cond (decide (0≤(0:Int))&&(decide ((a0.length:Int)=(a0.length:Int))&&(decide (a0=a0)&&F5 a0))) (cond (allF (B1o a0) (a0.length - (0:Int).toNat) (0:Int).toNat) (some (A9H (T6 (a0.length:Int) (1:Int) (8:Int)))) (some (A9H false))) none)) (by kernel_rfl) ?_
 exact (cndT (by first | rfl | decide | exact hp | (simp only [Bool.and_eq_true] at hp;simp only [hp];done) | (simp [*];done) | (simp [okL] at hp;simp [okL,MAXB];omega) | (simp_all;done) | (simp at *;omega)) (fun _h=>(F9 A9H (fun _h=>rfl) (fun _h=>rfl))))
theorem B8E:aPP 75 (sumOf A6D A9k B2j):=pcD true G28 (hl1 (i:=0) (by kernel_rfl) B6b) B7l
noncomputable def S29:Tab:=Tab.add S28 75 (lift (sumOf A6D A9k B2j))
noncomputable def C00:FuncId→Bool:=qadd C0Z 75
theorem G29:aPG S29 C00:=G28.addQ B8E (cbl Try.f75) (fun _=>rfl)

abbrev A6E:List PSh:=[.agg [(.int .i64),(.int .i64),tq3]]
noncomputable def A6Y (a0 a1:Int) (a2:Lq1):Bool:=(cond (a0==(1:Int)) (cond (B1p a1) (B2v a2) false) (cond (a0==(2:Int)) (cond (B1p a1) ((a2.length:Int)==(0:Int)) false) (cond (a0==(3:Int)) (cond (B1p a1) ((a2.length:Int)==(0:Int)) false) false)))
noncomputable abbrev P0 (r:Bool):AV×List AObj:=((.t true .bool r),[])
noncomputable abbrev B2k:pshsDen A6E→AV×List AObj:=fun d=>P0 (A6Y d.1.1 d.1.2.1 d.1.2.2.1)
noncomputable def A09 (a0 a1:Int) (a2:Lq1):Bool:=F5 a2
noncomputable abbrev A9l:pshsDen A6E→Bool:=fun d=>A09 d.1.1 d.1.2.1 d.1.2.2.1
theorem B7m:RunP true G29 aLn Try.f27 A6E A9l B2k:=by
 rintro ⟨⟨a0,⟨a1,⟨a2,_⟩⟩⟩,_⟩ hp
 change A09 a0 a1 a2=true at hp
 unfold A09 at hp
 refine Eq.trans (b:=(let z1:=P0 ((a2.length:Int)==(0:Int));cond (a0==(1:Int)) (cond (B1p a1) (cond (B0k a2) (some (P0 (B2v a2))) none) (some (P0 false))) (cond (a0==(2:Int)) (cond (B1p a1) (some z1) (some (P0 false))) (cond (a0==(3:Int)) (cond (B1p a1) (some z1) (some (P0 false))) (some (P0 false)))))) (by kernel_rfl) ?_
 exact (F9 P0 (fun _h=>(F9 P0 (fun _h=>(cndT (by first | rfl | decide | exact hp | (simp only [Bool.and_eq_true] at hp;simp only [hp];done) | (simp [*];done) | (simp [okL] at hp;simp [okL,MAXB];omega) | (simp_all;done) | (simp at *;omega)) (fun _h=>rfl))) (fun _h=>rfl))) (fun _h=>(F9 P0 (fun _h=>(F9 P0 (fun _h=>rfl) (fun _h=>rfl))) (fun _h=>(F9 P0 (fun _h=>(F9 P0 (fun _h=>rfl) (fun _h=>rfl))) (fun _h=>rfl))))))
theorem B8F:aPP 27 (sumOf A6E A9l B2k):=pcD true G29 hlz B7m
noncomputable def S30:Tab:=Tab.add S29 27 (lift (sumOf A6E A9l B2k))
noncomputable def C01:FuncId→Bool:=qadd C00 27
theorem G30:aPG S30 C01:=G29.addQ B8F (cbl Try.f27) (fun _=>rfl)

abbrev B8f:List Sh:=.junk::.junk::.junk::.junk::B4V
abbrev A0O:SS:=⟨[.nil,tI],[]⟩
abbrev F7:SS:=⟨(.all 0 1::tI::B8f),[.rows 5 true (.int .u8)]⟩
abbrev A0J:SS:=⟨(.all 0 1::tI::B8f),[.rows 5 true (.int .u8)]⟩
noncomputable def Z6 (x1:Int) (h0:List Int):RT F7.den:=let z1:=ior .i64 (128:Int) (iand .i64 x1 (127:Int));(.br (decide (x1 > (127:Int))) (.br (decide ((h0.length+[IntKind.wrap .u8 z1].length)*1≤MAXB)) (.next (((),Int.fdiv x1 (2 ^ (7)),u23),(h0++[IntKind.wrap .u8 z1],()))) .fail) (.done (.exit 0) A0J (((),x1,u23),(h0,()))))
noncomputable def T3 (x1:Int) (h0:List Int):CT:=(.br (decide (0≤x1∧x1≤1000000000)&&decide (h0.length≤35184372088832)) (.done (.exit 0) A0J (((),((nX x1).2),u23),((h0++(nX x1).1),()))) .fail)
noncomputable abbrev H5:F7.den→RT F7.den:=(fun d=>Z6 d.1.2.1 d.2.1)
noncomputable abbrev A1u (x1:Int) (h0:List Int):F7.den:=(((),x1,u23),(h0,()))
noncomputable def A3g:Code:=((loopsIn 0 (bodyOf Try.f113)).getD 0 (0,.skip)).2
theorem B1B (x1:Int) (h0:List Int):(T3 x1 h0).val (D:=F7.den)=.fail∨Runs H5 (A1u x1 h0) (T3 x1 h0).val:=by
 cases hc:(decide (0≤x1∧x1≤1000000000)&&decide (h0.length≤35184372088832)) with
 | false=>left;simp only [T3,CT.val,hc,cond_false]
 | true =>
  right
  simp only [T3,CT.val,hc,cond_true]
  simp only [Bool.and_eq_true,decide_eq_true_eq] at hc
  rw [B9c]
  have key:∀ (k:Nat) (x1:Int) (h0:List Int),0≤x1→x1<128 ^ (k+1)→h0.length+k≤70368744177664→Runs H5 (A1u x1 h0) (((.done (.exit 0) A0J (((),((hiF V8 k x1).2),u23),((h0++(hiF V8 k x1).1),()))):CT).val (D:=F7.den)):=by
   intro k
   induction k with
   | zero =>
    intro x h h1 h2 h3
    have e1:decide (x > 127)=false:=decide_eq_false (by simp at h2;omega)
    refine .done (by simp) ?_
    simp only [H5,Z6,RT.val,e1,cond_false,hiF,List.append_nil]
   | succ k ih =>
    intro x h h1 h2 h3
    rw [Int.pow_succ] at h2
    by_cases hx:x > 127
    ·have e1:decide (x > 127)=true:=decide_eq_true hx
     have e2:decide ((h.length+[V8 x].length)*1≤MAXB)=true:=decide_eq_true (by simp [MAXB];omega)
     simp only [V8] at e2
     have:=ih (Int.fdiv x (2 ^ 7)) (h++[V8 x]) (by rw [B1Y];omega) (by rw [B1Y];omega) (by simp;omega)
     refine .next (d':=A1u (Int.fdiv x (2 ^ 7)) (h++[V8 x])) ?_ ?_
     ·simp only [H5,Z6,RT.val,e1,e2,cond_true];rfl
     ·have e3:hiF V8 (k+1) x=(V8 x::(hiF V8 k (Int.fdiv x (2 ^ 7))).1,(hiF V8 k (Int.fdiv x (2 ^ 7))).2):=by simp only [hiF,e1,cond_true]
      rw [e3]
      simpa [List.append_assoc] using this
    ·have e1:decide (x > 127)=false:=decide_eq_false hx
     refine .done (by simp) ?_
     simp only [H5,Z6,RT.val,e1,cond_false,hiF,List.append_nil]
  exact key 4 x1 h0 hc.1.1 (by have:=hc.1.2;simp;omega) (by have:=hc.2;omega)
theorem B0m:RdA G30 aLn 0 A3g F7 0 [] (kepts [] [(0,[0,1])]) (fun d=>(H5 d).opt 0 []):=by
 intro d
 kernel_rfl
noncomputable abbrev A31:St→Option Tree:=F7.say 0 [] [(0,5,(.int .u8))] (fun d=>T3 d.1.2.1 d.2.1)
theorem B01:aPL A31 A3g:=SS.wp2 hlz [(0,5,(.int .u8))] H5 B0m (fun d=>rfl) _ (fun d=>B1B d.1.2.1 d.2.1)
noncomputable def C2 (x1:Int):List Int:=let z1:=if (1000000000:Int)<x1 then (1000000000:Int) else x1;let z2:=nX (if z1 > (0:Int) then z1 else (0:Int));((([]:List Int)++z2.1)++[IntKind.wrap .u8 (z2.2)])
noncomputable abbrev A8k (r:List Int):AV×List AObj×List Nat:=((.all 0 1),[(.rows 5 true (.int .u8) r)],[])
noncomputable abbrev A8o:A0O.den→AV×List AObj×List Nat:=fun d=>A8k (C2 d.1.2.1)
noncomputable abbrev A6g:A0O.den→Bool:=fun d=>true
noncomputable abbrev B3a:Nat→St→Option Tree:=fun b=>match b with | 0=>A31 | _=>fun _=>none
theorem B1U:RunM G30 (B3a) Try.f113 A0O A6g A8o:=by
 rintro ⟨⟨_,(x1:Int),_⟩,_⟩ hp
 refine Eq.trans (b:=(let z2:=if (1000000000:Int)<x1 then (1000000000:Int) else x1;let z1:=if z2 > (0:Int) then z2 else (0:Int);let z3:=([]:List Int)++(nX z1).1;cond (decide (0≤z1∧z1≤1000000000)&&decide (([]:List Int).length≤35184372088832)) (cond (decide ((z3.length+[IntKind.wrap .u8 ((nX z1).2)].length)*1≤MAXB)) (some (A8k (z3++[IntKind.wrap .u8 ((nX z1).2)]))) none) none)) (by kernel_rfl) ?_
 exact (cndT (by have h1:=B2H (A2o x1);have h2:=A2D x1;simp only [A2o] at h1 h2;simp only [decide_eq_true_eq,Bool.and_eq_true] at *;(try simp only [MAXB,List.length_append,List.length_cons,List.length_nil])<;>omega) (fun _h=>(cndT (by have h1:=B2H (A2o x1);have h2:=A2D x1;simp only [A2o] at h1 h2;simp only [decide_eq_true_eq,Bool.and_eq_true] at *;(try simp only [MAXB,List.length_append,List.length_cons,List.length_nil])<;>omega) (fun _h=>rfl))))
noncomputable abbrev A4g:=win winIds (msum A0O A6g A8o)
theorem A8i:aPM 113 A4g:=(mcM G30 (hl1 (i:=0) (by kernel_rfl) B01) B1U).win winIds
noncomputable def S31:Tab:=Tab.add S30 113 (A4g)
noncomputable def C02:FuncId→Bool:=C01
theorem G31:aPG S31 C02:=G30.addM A8i (win_local _) (cbl Try.f113) (by kernel_rfl)
theorem A3v (n:Int):C2 n=A8 (A00 n):=by
 rw [← B0J]
 rfl
theorem A6a (n:Int):(C2 n).length≤5:=by rw [A3v];exact P5 _


end Go.Proofs.Ytccelbeahdcooaa.Eng
