/- What the functions that FnExactWorldNew reaches compute, and that it answers true. -/
import Derived.Test.YtcofibhklbfgoaaT
import Derived.Test.YtcofibhklbfgoaaRows
namespace Go.Proofs.Ytcofibhklbfgoaa.Eng
open Go Go.RowKit
set_option linter.unusedSimpArgs false
set_option linter.unusedVariables false
set_option maxRecDepth 10000
abbrev bE:ByteArray:=⟨#[]⟩
abbrev Lq2:=List (Int×ByteArray×ByteArray)
abbrev B4X:Ty:=.sl (.pair (.int .i64) (.pair .str .str))
abbrev ti:=@AV.t true (.int .i64)
abbrev tI:Sh:=.t true (.int .i64)
abbrev LT1:=List (Int×(List (Int×ByteArray×ByteArray))×Int×List Int)
abbrev LT2:=List (Int×(List (Int×Int×List (Int×ByteArray×ByteArray)))×Int×(List (ByteArray×ByteArray))×(List (Int×Int×List (Int×ByteArray×ByteArray))))
abbrev LT3:=List (Int×Int×Int×(List (Int×ByteArray×ByteArray))×Bool)
abbrev aPG:=Good Try.prog tt
abbrev aPM:=MContract Try.prog
abbrev aPP:=PContract Try.prog
abbrev aPL:=A0G Try.prog
abbrev aLn:Nat→St→Option Tree:=fun _ _=>none
theorem aCD{D:Type}{e:Ex}{s:SS}{x:s.den}(h:e ≠ .normal:=by simp):CEnd D (.done e s x):=A7d h
noncomputable def S0:Tab:=fun _=>none
noncomputable def QF0:FuncId→Bool:=fun _=>false
theorem G0:aPG S0 QF0:=Good.start C01 (by kernel_rfl)
theorem Runs.ofI2 {D V A:Type} {step:D→RT D} (pk:V→D) {ss:V→V ⊕ A} {ct:A→CT} {fa:A} (h:(∀ v,(step (pk v)).val=A6u pk ct (ss v))∧∀ a,CEnd D (ct a)) (hf:(ct fa).val (D:=D)=.fail) (v:V):(ct (itX ss fa v)).val (D:=D)=.fail∨Runs step (pk v) (ct (itX ss fa v)).val:=Runs.ofIt pk hf h.1 h.2 v
theorem Q5 {α β:Type} (e:α→β) {c q r:Bool} {X Y:Option β} {a b:α} (hq:cond c q r=true) (hx:q=true→X=some (e a)) (hy:r=true→Y=some (e b)):cond c X Y=some (e (cond c a b)):=A7l (F:=fun r=>some (e r)) hq hx hy
theorem P1 {α β:Type} (e:α→β) {c:Bool} {X Y:Option β} {a b:α} (hx:c=true→X=some (e a)) (hy:c=false→Y=some (e b)):cond c X Y=some (e (cond c a b)):=cnd (F:=fun r=>some (e r)) hx hy
theorem hlz {L:Nat→St→Option Tree} {b:Nat} {x:Code} (h:D4 b x=[]:=by kernel_rfl):∀ p∈D4 b x,aPL (L p.1) p.2:=hl0 h
theorem cbl {f : FuncId} (F : Func) (h1 : Try.prog.funcs[f]? = some F := by kernel_rfl) (h2 : (F.name == "runtime.NumGoroutine") = false := by kernel_rfl) (h3 : F.body.isNone = false := by kernel_rfl) : Callable Try.prog f := ⟨F, h1, h2, h3⟩
theorem pcD (ro:Bool) {TB:TT} {S:Tab} {Q:FuncId→Bool} (G:Good Try.prog TB S Q) {f:FuncId} {fn:Func} {L:Nat→St→Option Tree} (hL:∀ p∈D4 0 (A1T fn),aPL (L p.1) p.2) {l:List PSh} {pre:E8 l→Bool} {g:E8 l→AV×List AObj} (h:A7j ro G L fn l pre g) (hf:Try.prog.funcs[f]? = some fn:=by kernel_rfl):aPP f (A2d l pre g):=PContract.of_data ro G hf hL l pre g h
theorem mcM {TB:TT} {S:Tab} {Q:FuncId→Bool} (G:Good Try.prog TB S Q) {f:FuncId} {fn:Func} {L:Nat→St→Option Tree} (hL:∀ p∈D4 0 (A1T fn),aPL (L p.1) p.2) {s:SS} {pre:s.den→Bool} {g:s.den→AV×List AObj×List Nat} (h:A7i G L fn s pre g) (hf:Try.prog.funcs[f]? = some fn:=by kernel_rfl):aPM f (msum s pre g):=MContract.of_data G hf hL s pre g h
theorem B8s {p:Nat→Bool} (k i:Nat) (h:∀ j,i≤j→j<i+k→p j=true):A4E p k i=true:=(A6V k i).2 h
noncomputable def C2F (o:Int×ByteArray×ByteArray):Bool:=okS o.2.1&&okS o.2.2
noncomputable def C0I (l:Lq2):Bool:=okL l&&l.all C2F
theorem C0q {l:Lq2} (h:C0I l=true):okL l=true:=by
 simp only [C0I,Bool.and_eq_true] at h;exact h.1
noncomputable def B8M (x:Int):ByteArray:=(⟨([IntKind.wrap .u8 (wI ((48:Int)+(Int.tmod x (10:Int))))].map fun n=>UInt8.ofNat n.toNat).toArray⟩:ByteArray)
theorem B5G (x:Int):(B8M x).size=1:=rfl
noncomputable def B5B:Nat→Int→ByteArray→ByteArray
 | 0,_,s=>s
 | k+1,x,s=>cond (decide (x > 0)) (B5B k (wI (Int.tdiv x (10:Int))) (B8M x++s)) s
theorem C0J:∀ (k:Nat) (x:Int) (s:ByteArray),(B5B k x s).size≤k+s.size:=by
 intro k
 induction k with
 | zero=>intro x s;simp [B5B]
 | succ k ih =>
  intro x s
  simp only [B5B]
  cases decide (x > 0) with
  | true =>
   have:=ih (wI (Int.tdiv x (10:Int))) (B8M x++s)
   rw [ByteArray.size_append,B5G] at this
   simp only [cond_true];omega
  | false=>simp only [cond_false];omega
abbrev B42:List PSh:=[.t (.int .i64),.t (.int .i64),.t (.int .i64)]
noncomputable def A9d (a0 a1 a2:Int):Bool:=(cond (decide (a0 ≥ a1)) (decide (a0≤a2)) false)
noncomputable abbrev B6O (r:Bool):AV×List AObj:=((.t true .bool r),[])
noncomputable abbrev B8P:E8 B42→AV×List AObj:=fun d=>B6O (A9d d.1 d.2.1 d.2.2.1)
noncomputable abbrev B5W:E8 B42→Bool:=fun d=>true
theorem C0t:A7j true G0 aLn Try.f20 B42 B5W B8P:=by
 rintro ⟨a0,⟨a1,⟨a2,_⟩⟩⟩ hp
 refine Eq.trans (b:=(cond (decide (a0 ≥ a1)) (some (B6O (decide (a0≤a2)))) (some (B6O false)))) (by kernel_rfl) ?_
 exact (P1 B6O (fun _h=>rfl) (fun _h=>rfl))
theorem C0M:aPP 20 (A2d B42 B5W B8P):=pcD true G0 hlz C0t
noncomputable def S1:Tab:=Tab.add S0 20 (lift (A2d B42 B5W B8P))
noncomputable def QF1:FuncId→Bool:=qadd QF0 20
theorem G1:aPG S1 QF1:=G0.addQ C0M (cbl Try.f20) (fun _=>rfl)

abbrev LIbe:=List (Int×Bool)
abbrev tq6:Ty:=.sl (.pair (.int .i64) (.pair (.sl (.pair (.int .i64) (.pair .str .str))) (.pair (.int .i64) (.sl (.int .i64)))))
abbrev B4e:Ty:=.sl (.pair (.int .i64) .bool)
abbrev A8R:List PSh:=[.t (.int .i64)]
noncomputable def A9v (a0:Int):Int×Int×Int×LT1×LIbe×Int:=(cond (!(A9d a0 (1:Int) (8:Int))) ((0:Int),(0:Int),(0:Int),[],[],(0:Int)) (a0,(1:Int),(0:Int),[],[],(0:Int)))
noncomputable abbrev B0E (r:Int×Int×Int×LT1×LIbe×Int):AV×List AObj:=((.agg [(ti r.1),(ti r.2.1),(ti r.2.2.1),(.t true tq6 r.2.2.2.1),(.t true B4e r.2.2.2.2.1),(ti r.2.2.2.2.2)]),[])
noncomputable abbrev B3q:E8 A8R→AV×List AObj:=fun d=>B0E (A9v d.1)
noncomputable abbrev B03:E8 A8R→Bool:=fun d=>true
theorem B8o:A7j true G1 aLn Try.f21 A8R B03 B3q:=by
 rintro ⟨a0,_⟩ hp
 refine Eq.trans (b:=(cond (!(A9d a0 (1:Int) (8:Int))) (some (B0E ((0:Int),(0:Int),(0:Int),[],[],(0:Int)))) (some (B0E (a0,(1:Int),(0:Int),[],[],(0:Int)))))) (by kernel_rfl) ?_
 exact (P1 B0E (fun _h=>rfl) (fun _h=>rfl))
theorem B9A:aPP 21 (A2d A8R B03 B3q):=pcD true G1 hlz B8o
noncomputable def S2:Tab:=Tab.add S1 21 (lift (A2d A8R B03 B3q))
noncomputable def QF2:FuncId→Bool:=qadd QF1 21
theorem G2:aPG S2 QF2:=G1.addQ B9A (cbl Try.f21) (fun _=>rfl)

abbrev Lq1:=List (Int×Int×List (Int×ByteArray×ByteArray))
abbrev LBBe:=List (ByteArray×ByteArray)
abbrev tq8:Ty:=.sl (.pair (.int .i64) (.pair (.int .i64) (.sl (.pair (.int .i64) (.pair .str .str)))))
abbrev B8r:Ty:=.sl (.pair .str .str)
abbrev A8S:List PSh:=[.t (.int .i64)]
noncomputable def B1M (a0:Int):Int×Lq1×Int×LBBe×Lq1:=(cond (!(A9d a0 (0:Int) (7:Int))) ((0:Int),[],(0:Int),[],[]) (a0,[],(0:Int),[],[]))
noncomputable abbrev B0F (r:Int×Lq1×Int×LBBe×Lq1):AV×List AObj:=((.agg [(ti r.1),(.t true tq8 r.2.1),(ti r.2.2.1),(.t true B8r r.2.2.2.1),(.t true tq8 r.2.2.2.2)]),[])
noncomputable abbrev B3r:E8 A8S→AV×List AObj:=fun d=>B0F (B1M d.1)
noncomputable abbrev B04:E8 A8S→Bool:=fun d=>true
theorem B8p:A7j true G2 aLn Try.f22 A8S B04 B3r:=by
 rintro ⟨a0,_⟩ hp
 refine Eq.trans (b:=(cond (!(A9d a0 (0:Int) (7:Int))) (some (B0F ((0:Int),[],(0:Int),[],[]))) (some (B0F (a0,[],(0:Int),[],[]))))) (by kernel_rfl) ?_
 exact (P1 B0F (fun _h=>rfl) (fun _h=>rfl))
theorem B9B:aPP 22 (A2d A8S B04 B3r):=pcD true G2 hlz B8p
noncomputable def S3:Tab:=Tab.add S2 22 (lift (A2d A8S B04 B3r))
noncomputable def QF3:FuncId→Bool:=qadd QF2 22
theorem G3:aPG S3 QF3:=G2.addQ B9B (cbl Try.f22) (fun _=>rfl)

abbrev C09:List Sh:=.junk::.junk::.junk::.junk::.junk::.junk::.junk::.junk::.junk::.junk::.junk::.junk::.junk::.junk::.junk::.junk::.junk::.junk::.junk::.junk::[]
abbrev tq3:Ty:=.pair (.int .i64) (.pair (.sl (.pair (.int .i64) (.pair (.int .i64) (.sl (.pair (.int .i64) (.pair .str .str)))))) (.pair (.int .i64) (.pair (.sl (.pair .str .str)) (.sl (.pair (.int .i64) (.pair (.int .i64) (.sl (.pair (.int .i64) (.pair .str .str)))))))))
abbrev B5M:List Sh:=.junk::C09
abbrev u21:=((),(),(),(),(),(),(),(),(),(),(),(),(),(),(),(),(),(),(),(),())
abbrev u5:=((),(),(),(),())
abbrev u26:=((),(),(),(),(),u21)
abbrev Lq5:=List (Int×List (Int×ByteArray×ByteArray))
abbrev tq4:Ty:=.sl (.pair (.int .i64) (.pair (.sl (.pair (.int .i64) (.pair (.int .i64) (.sl (.pair (.int .i64) (.pair .str .str)))))) (.pair (.int .i64) (.pair (.sl (.pair .str .str)) (.sl (.pair (.int .i64) (.pair (.int .i64) (.sl (.pair (.int .i64) (.pair .str .str))))))))))
abbrev tq7:Ty:=.sl (.pair (.int .i64) (.pair (.int .i64) (.pair (.int .i64) (.pair (.sl (.pair (.int .i64) (.pair .str .str))) .bool))))
abbrev B7J:Ty:=.sl (.pair (.int .i64) (.sl (.pair (.int .i64) (.pair .str .str))))
abbrev A8T:List PSh:=[.t (.int .i64)]
abbrev M9:SS:=⟨(tI::.junk::.ptr 0 0 1 0::.ptr 1 0 1 0::tI::C09),[.box [tI,tI,tI,.nil,.nil,tI,.nil,.nil,.nil,.nil],.box [tI,tI,tI,.t true tq6,.t true B4e,tI,.all 2 5,.nil,.nil,.nil],.rows 53 true tq3]⟩
abbrev B2w:SS:=⟨(.junk::.junk::.ptr 0 0 1 0::.ptr 1 0 1 0::B5M),[.box [tI,tI,tI,.nil,.nil,tI,.nil,.nil,.nil,.nil],.box [tI,tI,tI,.t true tq6,.t true B4e,tI,.all 2 5,.nil,.nil,.nil],.rows 53 true tq3]⟩
noncomputable def B4c (x0 x4 p0 p1 p2 p5 q0 q1 q2:Int) (q3:LT1) (q4:LIbe) (q5:Int) (h2:LT2):RT M9.den:=let z1:=B1M x4;(.br (decide (x4<x0)) (.br (decide ((h2.length+[((z1.1),((z1.2.1),((z1.2.2.1),((z1.2.2.2.1),(z1.2.2.2.2)))))].length)*88≤MAXB)) (.next ((x0,(),(),(),wI (x4+(1:Int)),u21),((p0,p1,p2,(),(),p5,u5),(q0,q1,q2,q3,q4,q5,u5),h2++[((z1.1),((z1.2.1),((z1.2.2.1),((z1.2.2.2.1),(z1.2.2.2.2)))))],()))) .fail) (.done (.exit 0) B2w ((u26),((p0,p1,p2,(),(),p5,u5),(q0,q1,q2,q3,q4,q5,u5),h2,()))))
abbrev Z5:=(Int)×(Int)×LT2
abbrev Y8:=Nat×LT2
def B3d:Y8:=(99,([]:LT2))
noncomputable def A7Z (x0 x4 p0 p1 p2 p5 q0 q1 q2:Int) (q3:LT1) (q4:LIbe) (q5:Int) (h2:LT2):Z5 ⊕ Y8:=let z1:=B1M x4;(cond (decide (x4<x0)) (cond (decide ((h2.length+[((z1.1),((z1.2.1),((z1.2.2.1),((z1.2.2.2.1),(z1.2.2.2.2)))))].length)*88≤MAXB)) (.inl (x0,wI (x4+(1:Int)),h2++[((z1.1),((z1.2.1),((z1.2.2.1),((z1.2.2.2.1),(z1.2.2.2.2)))))])) (.inr B3d)) (.inr (0,h2)))
noncomputable def A9Y (x0 x4 p0 p1 p2 p5 q0 q1 q2:Int) (q3:LT1) (q4:LIbe) (q5:Int) (h2:LT2):Y8:=itX (fun v:Z5=>A7Z v.1 v.2.1 p0 p1 p2 p5 q0 q1 q2 q3 q4 q5 v.2.2) B3d (x0,x4,h2)
noncomputable def A9T (p0 p1 p2 p5 q0 q1 q2:Int) (q3:LT1) (q4:LIbe) (q5:Int) (a:Y8):CT:=(.br (a.1==0) (.done (.exit 0) B2w ((u26),((p0,p1,p2,(),(),p5,u5),(q0,q1,q2,q3,q4,q5,u5),a.2,()))) .fail)
noncomputable def B7Y (x0 x4 p0 p1 p2 p5 q0 q1 q2:Int) (q3:LT1) (q4:LIbe) (q5:Int) (h2:LT2):CT:=(A9T p0 p1 p2 p5 q0 q1 q2 q3 q4 q5) (A9Y x0 x4 p0 p1 p2 p5 q0 q1 q2 q3 q4 q5 h2)
noncomputable abbrev B27 {α:Sort _} (f:Int→Int→Int→Int→Int→Int→Int→Int→Int→LT1→LIbe→Int→LT2→α) (d:M9.den):α:=f d.1.1 d.1.2.2.2.2.1 d.2.1.1 d.2.1.2.1 d.2.1.2.2.1 d.2.1.2.2.2.2.2.1 d.2.2.1.1 d.2.2.1.2.1 d.2.2.1.2.2.1 d.2.2.1.2.2.2.1 d.2.2.1.2.2.2.2.1 d.2.2.1.2.2.2.2.2.1 d.2.2.2.1
noncomputable abbrev B0h:M9.den→RT M9.den:=(B27 B4c)
noncomputable def B1t:Code:=((D4 0 (A1T Try.f7)).getD 0 (0,.skip)).2
noncomputable abbrev B3R (p0 p1 p2 p5 q0 q1 q2:Int) (q3:LT1) (q4:LIbe) (q5:Int) (v:Z5):M9.den:=((v.1,(),(),(),v.2.1,u21),((p0,p1,p2,(),(),p5,u5),(q0,q1,q2,q3,q4,q5,u5),v.2.2,()))
theorem B7x (p0 p1 p2 p5 q0 q1 q2:Int) (q3:LT1) (q4:LIbe) (q5:Int):(∀ v:Z5,(B4c v.1 v.2.1 p0 p1 p2 p5 q0 q1 q2 q3 q4 q5 v.2.2).val=A6u (B3R p0 p1 p2 p5 q0 q1 q2 q3 q4 q5) (A9T p0 p1 p2 p5 q0 q1 q2 q3 q4 q5) (A7Z v.1 v.2.1 p0 p1 p2 p5 q0 q1 q2 q3 q4 q5 v.2.2))∧∀ a:Y8,CEnd M9.den ((A9T p0 p1 p2 p5 q0 q1 q2 q3 q4 q5) a):=⟨fun v=>(A7n (A7n rfl rfl) rfl),fun a=>(A7c aCD A7e)⟩
theorem B6D:RdA G3 aLn 0 B1t M9 0 [] (kepts [] [(0,[2,3])]) (fun d=>(B0h d).opt 0 []):=by
 intro d
 kernel_rfl
noncomputable abbrev B2U:St→Option Tree:=M9.say 0 [] [(2003006,53,tq3)] (B27 B7Y)
theorem B7h:aPL B2U B1t:=SS.wp2 hlz [(2003006,53,tq3)] B0h B6D (fun d=>rfl) _ (fun d=>Runs.ofI2 (step:=B0h) (B3R d.2.1.1 d.2.1.2.1 d.2.1.2.2.1 d.2.1.2.2.2.2.2.1 d.2.2.1.1 d.2.2.1.2.1 d.2.2.1.2.2.1 d.2.2.1.2.2.2.1 d.2.2.1.2.2.2.2.1 d.2.2.1.2.2.2.2.2.1) (B7x d.2.1.1 d.2.1.2.1 d.2.1.2.2.1 d.2.1.2.2.2.2.2.1 d.2.2.1.1 d.2.2.1.2.1 d.2.2.1.2.2.1 d.2.2.1.2.2.2.1 d.2.2.1.2.2.2.2.1 d.2.2.1.2.2.2.2.2.1) rfl (d.1.1,d.1.2.2.2.2.1,d.2.2.2.1))
noncomputable def X5 (a0:Int):=let z1:=A9v a0;A9Y a0 (0:Int) (0:Int) (0:Int) (0:Int) (0:Int) (z1.1) (z1.2.1) (z1.2.2.1) (z1.2.2.2.1) (z1.2.2.2.2.1) (z1.2.2.2.2.2) ([]:LT2)
noncomputable def A8l (a0:Int):Int×Int×Int×LT1×LIbe×Int×LT2×LT3×LT3×Lq5:=let z1:=A9v a0;(cond (!(A9d a0 (1:Int) (8:Int))) ((0:Int),(0:Int),(0:Int),[],[],(0:Int),[],[],[],[]) ((z1.1),(z1.2.1),(z1.2.2.1),(z1.2.2.2.1),(z1.2.2.2.2.1),(z1.2.2.2.2.2),((X5 a0).2),[],[],[]))
noncomputable abbrev B0G (r:Int×Int×Int×LT1×LIbe×Int×LT2×LT3×LT3×Lq5):AV×List AObj:=((.agg [(ti r.1),(ti r.2.1),(ti r.2.2.1),(.t true tq6 r.2.2.2.1),(.t true B4e r.2.2.2.2.1),(ti r.2.2.2.2.2.1),(.t true tq4 r.2.2.2.2.2.2.1),(.t true tq7 r.2.2.2.2.2.2.2.1),(.t true tq7 r.2.2.2.2.2.2.2.2.1),(.t true B7J r.2.2.2.2.2.2.2.2.2)]),[])
noncomputable abbrev B3s:E8 A8T→AV×List AObj:=fun d=>B0G (A8l d.1)
noncomputable def R8 (a0:Int):Bool:=cond (!(A9d a0 (1:Int) (8:Int))) true ((X5 a0).1==0)
noncomputable abbrev B05:E8 A8T→Bool:=fun d=>R8 d.1
noncomputable abbrev B9j:Nat→St→Option Tree:=fun b=>match b with | 0=>B2U | _=>fun _=>none
theorem B8q:A7j true G3 (B9j) Try.f7 A8T B05 B3s:=by
 rintro ⟨a0,_⟩ hp
 change R8 a0=true at hp
 unfold R8 at hp
 refine Eq.trans (b:=(let z1:=A9v a0;cond (!(A9d a0 (1:Int) (8:Int))) (some (B0G ((0:Int),(0:Int),(0:Int),[],[],(0:Int),[],[],[],[]))) (cond ((X5 a0).1==0) (some (B0G ((z1.1),(z1.2.1),(z1.2.2.1),(z1.2.2.2.1),(z1.2.2.2.2.1),(z1.2.2.2.2.2),((X5 a0).2),[],[],[]))) none))) (by kernel_rfl) ?_
 exact (Q5 B0G hp (fun hp=>rfl) (fun hp=>(A7m hp fun _h=>rfl)))
theorem B9C:aPP 7 (A2d A8T B05 B3s):=pcD true G3 (hl1 (i:=0) (by kernel_rfl) B7h) B8q
noncomputable def S4:Tab:=Tab.add S3 7 (lift (A2d A8T B05 B3s))
noncomputable def QF4:FuncId→Bool:=qadd QF3 7
theorem G4:aPG S4 QF4:=G3.addQ B9C (cbl Try.f7) (fun _=>rfl)

abbrev A9z:List PSh:=[.t (.int .i64),.t (.int .i64),.t (.int .i64)]
noncomputable def A8X (a0 a1 a2:Int):Bool:=(cond (decide (a0 ≥ a1)) (decide (a0≤a2)) false)
noncomputable abbrev B10 (r:Bool):AV×List AObj:=((.t true .bool r),[])
noncomputable abbrev B4J:E8 A9z→AV×List AObj:=fun d=>B10 (A8X d.1 d.2.1 d.2.2.1)
noncomputable abbrev B2b:E8 A9z→Bool:=fun d=>true
theorem B8Y:A7j true G4 aLn Try.f23 A9z B2b B4J:=by
 rintro ⟨a0,⟨a1,⟨a2,_⟩⟩⟩ hp
 refine Eq.trans (b:=(cond (decide (a0 ≥ a1)) (some (B10 (decide (a0≤a2)))) (some (B10 false)))) (by kernel_rfl) ?_
 exact (P1 B10 (fun _h=>rfl) (fun _h=>rfl))
theorem B9T:aPP 23 (A2d A9z B2b B4J):=pcD true G4 hlz B8Y
noncomputable def S5:Tab:=Tab.add S4 23 (lift (A2d A9z B2b B4J))
noncomputable def QF5:FuncId→Bool:=qadd QF4 23
theorem G5:aPG S5 QF5:=G4.addQ B9T (cbl Try.f23) (fun _=>rfl)

abbrev A8G:List PSh:=[.t (.int .i64)]
noncomputable def A9s (a0:Int):Int×Int×Int×Int:=(cond (!(A8X a0 (1:Int) (8:Int))) ((0:Int),(0:Int),(0:Int),(0:Int)) (a0,(1:Int),(0:Int),(0:Int)))
noncomputable abbrev B0w (r:Int×Int×Int×Int):AV×List AObj:=((.agg [(ti r.1),(ti r.2.1),(ti r.2.2.1),(.raw (.slice none 0 0)),(.raw (.slice none 0 0)),(ti r.2.2.2)]),[])
noncomputable abbrev B3e:E8 A8G→AV×List AObj:=fun d=>B0w (A9s d.1)
noncomputable abbrev B0S:E8 A8G→Bool:=fun d=>true
theorem B8b:A7j false (G5.deep fun _=>[4294967295]) aLn Try.f24 A8G B0S B3e:=by
 rintro ⟨a0,_⟩ hp
 refine Eq.trans (b:=(cond (!(A8X a0 (1:Int) (8:Int))) (some (B0w ((0:Int),(0:Int),(0:Int),(0:Int)))) (some (B0w (a0,(1:Int),(0:Int),(0:Int)))))) (by kernel_rfl) ?_
 exact (P1 B0w (fun _h=>rfl) (fun _h=>rfl))
theorem B9n:aPP 24 (A2d A8G B0S B3e):=pcD false (G5.deep fun _=>[4294967295]) hlz B8b
noncomputable def S6:Tab:=Tab.add S5 24 (lift (A2d A8G B0S B3e))
noncomputable def QF6:FuncId→Bool:=qadd QF5 24
theorem G6:aPG S6 QF6:=G5.addQ B9n (cbl Try.f24) (fun _=>rfl)

abbrev B40:List PSh:=[.t (.int .i64)]
noncomputable def C0c (a0:Int):Bool:=(A8X a0 (0:Int) (7:Int))
noncomputable abbrev C0N (r:Bool):AV×List AObj:=((.t true .bool r),[])
noncomputable abbrev B8N:E8 B40→AV×List AObj:=fun d=>C0N (C0c d.1)
noncomputable abbrev B5U:E8 B40→Bool:=fun d=>true
theorem C0r:A7j true G6 aLn Try.f55 B40 B5U B8N:=by
 rintro ⟨a0,_⟩ hp
 kernel_rfl
theorem C0K:aPP 55 (A2d B40 B5U B8N):=pcD true G6 hlz C0r
noncomputable def S7:Tab:=Tab.add S6 55 (lift (A2d B40 B5U B8N))
noncomputable def QF7:FuncId→Bool:=qadd QF6 55
theorem G7:aPG S7 QF7:=G6.addQ C0K (cbl Try.f55) (fun _=>rfl)

abbrev A8H:List PSh:=[.t (.int .i64)]
noncomputable def B1v (a0:Int):Int×Int:=(cond (!(C0c a0)) ((0:Int),(0:Int)) (a0,(0:Int)))
noncomputable abbrev B0x (r:Int×Int):AV×List AObj:=((.agg [(ti r.1),(.raw (.slice none 0 0)),(ti r.2),(.raw (.slice none 0 0)),(.raw (.slice none 0 0))]),[])
noncomputable abbrev B3f:E8 A8H→AV×List AObj:=fun d=>B0x (B1v d.1)
noncomputable abbrev B0T:E8 A8H→Bool:=fun d=>true
theorem B8c:A7j false (G7.deep fun _=>[4294967295]) aLn Try.f25 A8H B0T B3f:=by
 rintro ⟨a0,_⟩ hp
 refine Eq.trans (b:=(cond (!(C0c a0)) (some (B0x ((0:Int),(0:Int)))) (some (B0x (a0,(0:Int)))))) (by kernel_rfl) ?_
 exact (P1 B0x (fun _h=>rfl) (fun _h=>rfl))
theorem B9o:aPP 25 (A2d A8H B0T B3f):=pcD false (G7.deep fun _=>[4294967295]) hlz B8c
noncomputable def S8:Tab:=Tab.add S7 25 (lift (A2d A8H B0T B3f))
noncomputable def QF8:FuncId→Bool:=qadd QF7 25
theorem G8:aPG S8 QF8:=G7.addQ B9o (cbl Try.f25) (fun _=>rfl)

abbrev C08:List Sh:=.junk::.junk::.junk::.junk::.junk::.junk::.junk::.junk::.junk::.junk::.junk::[]
abbrev u12:=((),(),(),(),(),(),(),u5)
abbrev B7I:Ty:=.pair (.int .i64) (.pair (.sl (.pair (.int .i64) (.pair .str .str))) (.pair (.int .i64) (.sl (.int .i64))))
abbrev B5A:Ty:=.pair (.int .i64) .bool
abbrev tq9:Ty:=.pair (.int .i64) (.pair (.int .i64) (.pair (.int .i64) (.pair (.sl (.pair (.int .i64) (.pair .str .str))) .bool)))
abbrev B99:Ty:=.pair (.int .i64) (.sl (.pair (.int .i64) (.pair .str .str)))
abbrev A8I:List PSh:=[.t (.int .i64)]
abbrev M3:SS:=⟨(.junk::.junk::.ptr 0 0 1 0::.ptr 1 0 1 0::.junk::.junk::.junk::.junk::.junk::.junk::.junk::.junk::tI::tI::C08),[.box [tI,tI,tI,.nil,.nil,tI,.nil,.nil,.nil,.nil],.box [tI,tI,tI,.nil,.nil,tI,.all 2 5,.nil,.nil,.nil],.deep 53 [69,131,69] tq3]⟩
abbrev B2n:SS:=⟨(.junk::.junk::.ptr 0 0 1 0::.ptr 1 0 1 0::B5M),[.box [tI,tI,tI,.nil,.nil,tI,.nil,.nil,.nil,.nil],.box [tI,tI,tI,.nil,.nil,tI,.all 2 5,.nil,.nil,.nil],.deep 53 [69,131,69] tq3]⟩
noncomputable def B34 (x12 x13 p0 p1 p2 p5 q0 q1 q2 q5:Int) (h2:LT2):RT M3.den:=let z1:=B1v x13;(.br (decide (x13<x12)) (.br (decide ((h2.length+([((z1.1),([],((z1.2),([],[]))))]:LT2).length)*88≤MAXB)) (.next (((),(),(),(),(),(),(),(),(),(),(),(),x12,wI (x13+(1:Int)),u12),((p0,p1,p2,(),(),p5,u5),(q0,q1,q2,(),(),q5,u5),h2++([((z1.1),([],((z1.2),([],[]))))]),()))) .fail) (.done (.exit 0) B2n ((u26),((p0,p1,p2,(),(),p5,u5),(q0,q1,q2,(),(),q5,u5),h2,()))))
abbrev Z4:=(Int)×(Int)×LT2
abbrev Y2:=Nat×LT2
def B3c:Y2:=(99,([]:LT2))
noncomputable def A7X (x12 x13 p0 p1 p2 p5 q0 q1 q2 q5:Int) (h2:LT2):Z4 ⊕ Y2:=let z1:=B1v x13;(cond (decide (x13<x12)) (cond (decide ((h2.length+([((z1.1),([],((z1.2),([],[]))))]:LT2).length)*88≤MAXB)) (.inl (x12,wI (x13+(1:Int)),h2++([((z1.1),([],((z1.2),([],[]))))]))) (.inr B3c)) (.inr (0,h2)))
noncomputable def A9X (x12 x13 p0 p1 p2 p5 q0 q1 q2 q5:Int) (h2:LT2):Y2:=itX (fun v:Z4=>A7X v.1 v.2.1 p0 p1 p2 p5 q0 q1 q2 q5 v.2.2) B3c (x12,x13,h2)
noncomputable def A9M (p0 p1 p2 p5 q0 q1 q2 q5:Int) (a:Y2):CT:=(.br (a.1==0) (.done (.exit 0) B2n ((u26),((p0,p1,p2,(),(),p5,u5),(q0,q1,q2,(),(),q5,u5),a.2,()))) .fail)
noncomputable def B7R (x12 x13 p0 p1 p2 p5 q0 q1 q2 q5:Int) (h2:LT2):CT:=(A9M p0 p1 p2 p5 q0 q1 q2 q5) (A9X x12 x13 p0 p1 p2 p5 q0 q1 q2 q5 h2)
noncomputable abbrev B26 {α:Sort _} (f:Int→Int→Int→Int→Int→Int→Int→Int→Int→Int→LT2→α) (d:M3.den):α:=f d.1.2.2.2.2.2.2.2.2.2.2.2.2.1 d.1.2.2.2.2.2.2.2.2.2.2.2.2.2.1 d.2.1.1 d.2.1.2.1 d.2.1.2.2.1 d.2.1.2.2.2.2.2.1 d.2.2.1.1 d.2.2.1.2.1 d.2.2.1.2.2.1 d.2.2.1.2.2.2.2.2.1 d.2.2.2.1
noncomputable abbrev B0a:M3.den→RT M3.den:=(B26 B34)
noncomputable def B1j:Code:=((D4 0 (A1T Try.f8)).getD 0 (0,.skip)).2
noncomputable abbrev B3K (p0 p1 p2 p5 q0 q1 q2 q5:Int) (v:Z4):M3.den:=(((),(),(),(),(),(),(),(),(),(),(),(),v.1,v.2.1,u12),((p0,p1,p2,(),(),p5,u5),(q0,q1,q2,(),(),q5,u5),v.2.2,()))
theorem B7q (p0 p1 p2 p5 q0 q1 q2 q5:Int):(∀ v:Z4,(B34 v.1 v.2.1 p0 p1 p2 p5 q0 q1 q2 q5 v.2.2).val=A6u (B3K p0 p1 p2 p5 q0 q1 q2 q5) (A9M p0 p1 p2 p5 q0 q1 q2 q5) (A7X v.1 v.2.1 p0 p1 p2 p5 q0 q1 q2 q5 v.2.2))∧∀ a:Y2,CEnd M3.den ((A9M p0 p1 p2 p5 q0 q1 q2 q5) a):=⟨fun v=>(A7n (A7n rfl rfl) rfl),fun a=>(A7c aCD A7e)⟩
theorem B6t:RdA (G8.deep ow) aLn 0 B1j M3 0 [] (kepts [] [(0,[2,3])]) (fun d=>(B0a d).opt 0 []):=by
 intro d
 kernel_rfl
noncomputable abbrev B2K:St→Option Tree:=M3.say 0 [] [(2003006,691310690000053,tq3)] (B26 B7R)
theorem B67:aPL B2K B1j:=SS.wp2 hlz [(2003006,691310690000053,tq3)] B0a B6t (fun d=>rfl) _ (fun d=>Runs.ofI2 (step:=B0a) (B3K d.2.1.1 d.2.1.2.1 d.2.1.2.2.1 d.2.1.2.2.2.2.2.1 d.2.2.1.1 d.2.2.1.2.1 d.2.2.1.2.2.1 d.2.2.1.2.2.2.2.2.1) (B7q d.2.1.1 d.2.1.2.1 d.2.1.2.2.1 d.2.1.2.2.2.2.2.1 d.2.2.1.1 d.2.2.1.2.1 d.2.2.1.2.2.1 d.2.2.1.2.2.2.2.2.1) rfl (d.1.2.2.2.2.2.2.2.2.2.2.2.2.1,d.1.2.2.2.2.2.2.2.2.2.2.2.2.2.1,d.2.2.2.1))
noncomputable def X4 (a0:Int):=let z1:=A9s a0;A9X a0 (0:Int) (0:Int) (0:Int) (0:Int) (0:Int) (z1.1) (z1.2.1) (z1.2.2.1) (z1.2.2.2) ([]:LT2)
noncomputable def X2 (a0:Int):Int×Int×Int×Int×LT1×LIbe×LT2×LT3×LT3×Lq5:=let z1:=A9s a0;(cond (!(A8X a0 (1:Int) (8:Int))) ((0:Int),(0:Int),(0:Int),(0:Int),([]:LT1),([]:LIbe),([]:LT2),([]:LT3),([]:LT3),([]:Lq5)) ((z1.1),(z1.2.1),(z1.2.2.1),(z1.2.2.2),([]:LT1),([]:LIbe),((X4 a0).2),([]:LT3),([]:LT3),([]:Lq5)))
noncomputable abbrev B0y (r:Int×Int×Int×Int×LT1×LIbe×LT2×LT3×LT3×Lq5):AV×List AObj:=((.agg [(ti r.1),(ti r.2.1),(ti r.2.2.1),(.all 0 4),(.all 1 2),(ti r.2.2.2.1),(.all 2 5),(.all 3 5),(.all 4 5),(.all 5 2)]),[(.deep 124 [83,3] B7I r.2.2.2.2.1),(.rows 111 true B5A r.2.2.2.2.2.1),(.deep 53 [69,131,69] tq3 r.2.2.2.2.2.2.1),(.deep 89 [83] tq9 r.2.2.2.2.2.2.2.1),(.deep 89 [83] tq9 r.2.2.2.2.2.2.2.2.1),(.deep 80 [83] B99 r.2.2.2.2.2.2.2.2.2)])
noncomputable abbrev B3g:E8 A8I→AV×List AObj:=fun d=>B0y (X2 d.1)
noncomputable def N2 (a0:Int):Bool:=cond (!(A8X a0 (1:Int) (8:Int))) true ((X4 a0).1==0)
noncomputable abbrev B0U:E8 A8I→Bool:=fun d=>N2 d.1
noncomputable abbrev B89:Nat→St→Option Tree:=fun b=>match b with | 0=>B2K | _=>fun _=>none
theorem B8d:A7j false (G8.deep ow) (B89) Try.f8 A8I B0U B3g:=by
 rintro ⟨a0,_⟩ hp
 change N2 a0=true at hp
 unfold N2 at hp
 refine Eq.trans (b:=(let z1:=A9s a0;cond (!(A8X a0 (1:Int) (8:Int))) (some (B0y ((0:Int),(0:Int),(0:Int),(0:Int),([]:LT1),([]:LIbe),([]:LT2),([]:LT3),([]:LT3),([]:Lq5)))) (cond ((X4 a0).1==0) (some (B0y ((z1.1),(z1.2.1),(z1.2.2.1),(z1.2.2.2),([]:LT1),([]:LIbe),((X4 a0).2),([]:LT3),([]:LT3),([]:Lq5)))) none))) (by kernel_rfl) ?_
 exact (Q5 B0y hp (fun hp=>rfl) (fun hp=>(A7m hp fun _h=>rfl)))
theorem B9p:aPP 8 (A2d A8I B0U B3g):=pcD false (G8.deep ow) (hl1 (i:=0) (by kernel_rfl) B67) B8d
noncomputable def S9:Tab:=Tab.add S8 8 (lift (A2d A8I B0U B3g))
noncomputable def QF9:FuncId→Bool:=QF8
theorem G9:aPG S9 QF9:=G8.add B9p (cbl Try.f8) (by kernel_rfl)

abbrev B41:List PSh:=[.agg [(.int .i64),.str,.str],.agg [(.int .i64),.str,.str]]
noncomputable def B8t (a0:Int) (a1 a2:ByteArray) (a3:Int) (a4 a5:ByteArray):Bool:=(cond (a0 != a3) false (cond (!(a1.toList==a4.toList)) false (cond (!(a2.toList==a5.toList)) false true)))
noncomputable abbrev B0z (r:Bool):AV×List AObj:=((.t true .bool r),[])
noncomputable abbrev B8O:E8 B41→AV×List AObj:=fun d=>B0z (B8t d.1.1 d.1.2.1 d.1.2.2.1 d.2.1.1 d.2.1.2.1 d.2.1.2.2.1)
noncomputable abbrev B5V:E8 B41→Bool:=fun d=>true
theorem C0s:A7j true G9 aLn Try.f107 B41 B5V B8O:=by
 rintro ⟨⟨a0,⟨a1,⟨a2,_⟩⟩⟩,⟨⟨a3,⟨a4,⟨a5,_⟩⟩⟩,_⟩⟩ hp
 refine Eq.trans (b:=(cond (a0 != a3) (some (B0z false)) (cond (!(a1.toList==a4.toList)) (some (B0z false)) (cond (!(a2.toList==a5.toList)) (some (B0z false)) (some (B0z true)))))) (by kernel_rfl) ?_
 exact (P1 B0z (fun _h=>rfl) (fun _h=>(P1 B0z (fun _h=>rfl) (fun _h=>(P1 B0z (fun _h=>rfl) (fun _h=>rfl))))))
theorem C0L:aPP 107 (A2d B41 B5V B8O):=pcD true G9 hlz C0s
noncomputable def S10:Tab:=Tab.add S9 107 (lift (A2d B41 B5V B8O))
noncomputable def C1f:FuncId→Bool:=qadd QF9 107
theorem G10:aPG S10 C1f:=G9.addQ C0L (cbl Try.f107) (fun _=>rfl)

abbrev B63:List Sh:=.junk::B5M
abbrev B64:List Sh:=.junk::.junk::.junk::.junk::B63
abbrev u23:=((),(),u21)
abbrev u22:=((),u21)
abbrev u28:=((),(),u26)

noncomputable def A0l (x0 x1:Lq2) (i:Nat):Bool:=!(!(B8t ((x0.getD i ((0:Int),(bE,bE))).1) (((x0.getD i ((0:Int),(bE,bE))).2).1) (((x0.getD i ((0:Int),(bE,bE))).2).2) ((x1.getD i ((0:Int),(bE,bE))).1) (((x1.getD i ((0:Int),(bE,bE))).2).1) (((x1.getD i ((0:Int),(bE,bE))).2).2)))
abbrev B24:List PSh:=[.t B4X,.t B4X]
abbrev A0k:SS:=⟨(.t false B4X::.t false B4X::.junk::.junk::.junk::tI::B5M),[]⟩
abbrev B4Y:SS:=⟨(.junk::.junk::.junk::.junk::.t true .bool::B63),[]⟩
abbrev B4Z:SS:=⟨(.junk::B64),[]⟩
noncomputable def B35 (x0 x1:Lq2) (x5:Int):RT A0k.den:=let z1:=x0.getD x5.toNat ((0:Int),(bE,bE));let z2:=x1.getD x5.toNat ((0:Int),(bE,bE));(.br (decide (x5<(x0.length:Int))) (.br (decide (0≤x5∧x5<(x0.length:Int))) (.br (decide (0≤x5∧x5<(x1.length:Int))) (.br (!(B8t (z1.1) ((z1.2).1) ((z1.2).2) (z2.1) ((z2.2).1) ((z2.2).2))) (.done .ret B4Y (((),(),(),(),false,u23),())) (.next ((x0,x1,(),(),(),wI (x5+(1:Int)),u22),()))) .fail) .fail) (.done (.exit 0) B4Z ((u28),())))
noncomputable def A9H (x0 x1:Lq2) (x5:Int):CT:=(.br (decide (0≤x5)&&(decide (x0.length=x1.length)&&okL x0)) (.br (A4E (A0l x0 x1) (x0.length - x5.toNat) x5.toNat) (.done (.exit 0) B4Z ((u28),())) (.done .ret B4Y (((),(),(),(),false,u23),()))) .fail)
noncomputable abbrev A8Y:A0k.den→RT A0k.den:=(fun d=>B35 d.1.1 d.1.2.1 d.1.2.2.2.2.2.1)
noncomputable abbrev B6i (x0 x1:Lq2) (x5:Int):A0k.den:=((x0,x1,(),(),(),x5,u22),())
noncomputable def B4p:Code:=((D4 0 (A1T Try.f89)).getD 0 (0,.skip)).2
theorem B9S (x0 x1:Lq2) (x5:Int):(A9H x0 x1 x5).val (D:=A0k.den)=.fail∨Runs A8Y (B6i x0 x1 x5) (A9H x0 x1 x5).val:=by
 cases hc:(decide (0≤x5)&&(decide (x0.length=x1.length)&&okL x0)) with
 | false=>left;simp only [A9H,CT.val,hc,cond_false]
 | true =>
  right
  simp only [A9H,CT.val,hc,cond_true]
  simp only [Bool.and_eq_true,decide_eq_true_eq] at hc
  obtain ⟨i,rfl⟩:=Int.eq_ofNat_of_zero_le hc.1
  have hs:=A69 hc.2.2
  simp only [Int.toNat_natCast]
  refine Runs.scan (fun j=>B6i x0 x1 (j:Int)) (x0.length) (A0l x0 x1) (fun i hi=>?_) (fun i hi=>?_) ⟨_,_,_,rfl,by simp⟩ ⟨_,_,_,rfl,by simp⟩ _ _ rfl
  ·
   have h0a:decide ((i:Int)<(x0.length:Int))=true:=decide_eq_true (by omega)
   have h0b:decide (0≤(i:Int)∧(i:Int)<(x0.length:Int))=true:=decide_eq_true (by omega)
   simp only [A8Y,B35,RT.val,h0a,h0b,cond_true,A7g i (by omega),Int.toNat_natCast]
   have h9:decide (0≤(i:Int)∧(i:Int)<(x1.length:Int))=true:=decide_eq_true (by omega)
   simp only [h9,cond_true]
   simp only [A0l]
   generalize (!(B8t ((x0.getD i ((0:Int),((⟨#[]⟩:ByteArray),(⟨#[]⟩:ByteArray)))).1) (((x0.getD i ((0:Int),((⟨#[]⟩:ByteArray),(⟨#[]⟩:ByteArray)))).2).1) (((x0.getD i ((0:Int),((⟨#[]⟩:ByteArray),(⟨#[]⟩:ByteArray)))).2).2) ((x1.getD i ((0:Int),((⟨#[]⟩:ByteArray),(⟨#[]⟩:ByteArray)))).1) (((x1.getD i ((0:Int),((⟨#[]⟩:ByteArray),(⟨#[]⟩:ByteArray)))).2).1) (((x1.getD i ((0:Int),((⟨#[]⟩:ByteArray),(⟨#[]⟩:ByteArray)))).2).2)))=c
   cases c<;>rfl
  ·have h1:decide ((i:Int)<(x0.length:Int))=false:=decide_eq_false (by omega)
   simp only [A8Y,B35,RT.val,h1,cond_false]
theorem B8V:RdA G10 aLn 0 B4p A0k 0 [] (kepts [4] [(0,[])]) (fun d=>(A8Y d).opt 0 []):=by
 intro d
 kernel_rfl
noncomputable abbrev B5v:St→Option Tree:=A0k.say 0 [] [] (fun d=>A9H d.1.1 d.1.2.1 d.1.2.2.2.2.2.1)
theorem B9E:aPL B5v B4p:=SS.wp2 hlz [] A8Y B8V (fun d=>rfl) _ (fun d=>B9S d.1.1 d.1.2.1 d.1.2.2.2.2.2.1)
noncomputable def A8d (a0 a1:Lq2):Bool:=(cond ((a0.length:Int) != (a1.length:Int)) false (cond (A4E (A0l a0 a1) (a0.length - (0:Int).toNat) (0:Int).toNat) true false))
noncomputable abbrev B1u (r:Bool):AV×List AObj:=((.t true .bool r),[])
noncomputable abbrev B60:E8 B24→AV×List AObj:=fun d=>B1u (A8d d.1 d.2.1)
noncomputable def Z8 (a0 a1:Lq2):Bool:=okL a0
noncomputable abbrev B4S:E8 B24→Bool:=fun d=>Z8 d.1 d.2.1
noncomputable abbrev C0x:Nat→St→Option Tree:=fun b=>match b with | 0=>B5v | _=>fun _=>none
theorem B97:A7j true G10 (C0x) Try.f89 B24 B4S B60:=by
 rintro ⟨a0,⟨a1,_⟩⟩ hp
 change Z8 a0 a1=true at hp
 unfold Z8 at hp
 refine Eq.trans (b:=(cond ((a0.length:Int) != (a1.length:Int)) (some (B1u false)) (cond (decide (0≤(0:Int))&&(decide (a0.length=a1.length)&&okL a0)) (cond (A4E (A0l a0 a1) (a0.length - (0:Int).toNat) (0:Int).toNat) (some (B1u true)) (some (B1u false))) none))) (by kernel_rfl) ?_
 exact (P1 B1u (fun _h=>rfl) (fun _h=>(A7m (by simp only [okL,Bool.and_eq_true,decide_eq_true_eq] at hp ⊢;simp at _h;exact ⟨Int.le_refl 0,by omega,hp⟩) (fun _h=>(P1 B1u (fun _h=>rfl) (fun _h=>rfl))))))
theorem C0A:aPP 89 (A2d B24 B4S B60):=pcD true G10 (hl1 (i:=0) (by kernel_rfl) B9E) B97
noncomputable def S11:Tab:=Tab.add S10 89 (lift (A2d B24 B4S B60))
noncomputable def C1g:FuncId→Bool:=qadd C1f 89
theorem G11:aPG S11 C1g:=G10.addQ C0A (cbl Try.f89) (fun _=>rfl)

abbrev B9N:Ty:=.sl (.int .i64)
abbrev C1a:List Sh:=.junk::.junk::.junk::B63
abbrev u27:=((),u26)

noncomputable def A8W (x0 x1:List Int) (i:Nat):Bool:=!((x0.getD i (0:Int)) != (x1.getD i (0:Int)))
abbrev B1e:List PSh:=[.t B9N,.t B9N]
abbrev V2:SS:=⟨(.t false B9N::.t false B9N::.junk::.junk::.junk::tI::C09),[]⟩
abbrev B4j:SS:=⟨(.junk::.junk::.junk::.junk::.t true .bool::B5M),[]⟩
abbrev B4k:SS:=⟨(.junk::C1a),[]⟩
noncomputable def B2l (x0 x1:List Int) (x5:Int):RT V2.den:=(.br (decide (x5<(x0.length:Int))) (.br (decide (0≤x5∧x5<(x0.length:Int))) (.br (decide (0≤x5∧x5<(x1.length:Int))) (.br ((x0.getD x5.toNat (0:Int)) != (x1.getD x5.toNat (0:Int))) (.done .ret B4j (((),(),(),(),false,u22),())) (.next ((x0,x1,(),(),(),wI (x5+(1:Int)),u21),()))) .fail) .fail) (.done (.exit 0) B4k ((u27),())))
noncomputable def A8U (x0 x1:List Int) (x5:Int):CT:=(.br (decide (0≤x5)&&(decide (x0.length=x1.length)&&okL x0)) (.br (A4E (A8W x0 x1) (x0.length - x5.toNat) x5.toNat) (.done (.exit 0) B4k ((u27),())) (.done .ret B4j (((),(),(),(),false,u22),()))) .fail)
noncomputable abbrev A7W:V2.den→RT V2.den:=(fun d=>B2l d.1.1 d.1.2.1 d.1.2.2.2.2.2.1)
noncomputable abbrev B5k (x0 x1:List Int) (x5:Int):V2.den:=((x0,x1,(),(),(),x5,u21),())
noncomputable def B28:Code:=((D4 0 (A1T Try.f104)).getD 0 (0,.skip)).2
theorem B9k (x0 x1:List Int) (x5:Int):(A8U x0 x1 x5).val (D:=V2.den)=.fail∨Runs A7W (B5k x0 x1 x5) (A8U x0 x1 x5).val:=by
 cases hc:(decide (0≤x5)&&(decide (x0.length=x1.length)&&okL x0)) with
 | false=>left;simp only [A8U,CT.val,hc,cond_false]
 | true =>
  right
  simp only [A8U,CT.val,hc,cond_true]
  simp only [Bool.and_eq_true,decide_eq_true_eq] at hc
  obtain ⟨i,rfl⟩:=Int.eq_ofNat_of_zero_le hc.1
  have hs:=A69 hc.2.2
  simp only [Int.toNat_natCast]
  refine Runs.scan (fun j=>B5k x0 x1 (j:Int)) (x0.length) (A8W x0 x1) (fun i hi=>?_) (fun i hi=>?_) ⟨_,_,_,rfl,by simp⟩ ⟨_,_,_,rfl,by simp⟩ _ _ rfl
  ·
   have h0a:decide ((i:Int)<(x0.length:Int))=true:=decide_eq_true (by omega)
   have h0b:decide (0≤(i:Int)∧(i:Int)<(x0.length:Int))=true:=decide_eq_true (by omega)
   simp only [A7W,B2l,RT.val,h0a,h0b,cond_true,A7g i (by omega),Int.toNat_natCast]
   have h9:decide (0≤(i:Int)∧(i:Int)<(x1.length:Int))=true:=decide_eq_true (by omega)
   simp only [h9,cond_true]
   simp only [A8W]
   generalize ((x0.getD i (0:Int)) != (x1.getD i (0:Int)))=c
   cases c<;>rfl
  ·have h1:decide ((i:Int)<(x0.length:Int))=false:=decide_eq_false (by omega)
   simp only [A7W,B2l,RT.val,h1,cond_false]
theorem B77:RdA G11 aLn 0 B28 V2 0 [] (kepts [4] [(0,[])]) (fun d=>(A7W d).opt 0 []):=by
 intro d
 kernel_rfl
noncomputable abbrev B4D:St→Option Tree:=V2.say 0 [] [] (fun d=>A8U d.1.1 d.1.2.1 d.1.2.2.2.2.2.1)
theorem B8S:aPL B4D B28:=SS.wp2 hlz [] A7W B77 (fun d=>rfl) _ (fun d=>B9k d.1.1 d.1.2.1 d.1.2.2.2.2.2.1)
noncomputable def B8Q (a0 a1:List Int):Bool:=(cond ((a0.length:Int) != (a1.length:Int)) false (cond (A4E (A8W a0 a1) (a0.length - (0:Int).toNat) (0:Int).toNat) true false))
noncomputable abbrev A9o (r:Bool):AV×List AObj:=((.t true .bool r),[])
noncomputable abbrev B5H:E8 B1e→AV×List AObj:=fun d=>A9o (B8Q d.1 d.2.1)
noncomputable def B1K (a0 a1:List Int):Bool:=okL a0
noncomputable abbrev B3B:E8 B1e→Bool:=fun d=>B1K d.1 d.2.1
noncomputable abbrev C0g:Nat→St→Option Tree:=fun b=>match b with | 0=>B4D | _=>fun _=>none
theorem B9I:A7j true G11 (C0g) Try.f104 B1e B3B B5H:=by
 rintro ⟨a0,⟨a1,_⟩⟩ hp
 change B1K a0 a1=true at hp
 unfold B1K at hp
 refine Eq.trans (b:=(cond ((a0.length:Int) != (a1.length:Int)) (some (A9o false)) (cond (decide (0≤(0:Int))&&(decide (a0.length=a1.length)&&okL a0)) (cond (A4E (A8W a0 a1) (a0.length - (0:Int).toNat) (0:Int).toNat) (some (A9o true)) (some (A9o false))) none))) (by kernel_rfl) ?_
 exact (P1 A9o (fun _h=>rfl) (fun _h=>(A7m (by simp only [okL,Bool.and_eq_true,decide_eq_true_eq] at hp ⊢;simp at _h;exact ⟨Int.le_refl 0,by omega,hp⟩) (fun _h=>(P1 A9o (fun _h=>rfl) (fun _h=>rfl))))))
theorem C0j:aPP 104 (A2d B1e B3B B5H):=pcD true G11 (hl1 (i:=0) (by kernel_rfl) B8S) B9I
noncomputable def S12:Tab:=Tab.add S11 104 (lift (A2d B1e B3B B5H))
noncomputable def C1h:FuncId→Bool:=qadd C1g 104
theorem G12:aPG S12 C1h:=G11.addQ C0j (cbl Try.f104) (fun _=>rfl)

abbrev B23:List PSh:=[.agg [(.int .i64),B4X,(.int .i64),B9N],.agg [(.int .i64),B4X,(.int .i64),B9N]]
noncomputable def B93 (a0:Int) (a1:Lq2) (a2:Int) (a3:List Int) (a4:Int) (a5:Lq2) (a6:Int) (a7:List Int):Bool:=(cond (a0 != a4) false (cond (!(A8d a1 a5)) false (cond (a2 != a6) false (cond (!(B8Q a3 a7)) false true))))
noncomputable abbrev Z6 (r:Bool):AV×List AObj:=((.t true .bool r),[])
noncomputable abbrev B6Z:E8 B23→AV×List AObj:=fun d=>Z6 (B93 d.1.1 d.1.2.1 d.1.2.2.1 d.1.2.2.2.1 d.2.1.1 d.2.1.2.1 d.2.1.2.2.1 d.2.1.2.2.2.1)
noncomputable def B3S (a0:Int) (a1:Lq2) (a2:Int) (a3:List Int) (a4:Int) (a5:Lq2) (a6:Int) (a7:List Int):Bool:=cond (a0 != a4) true ((Z8 a1 a5)&&(cond (!(A8d a1 a5)) true (cond (a2 != a6) true (B1K a3 a7))))
noncomputable abbrev B4R:E8 B23→Bool:=fun d=>B3S d.1.1 d.1.2.1 d.1.2.2.1 d.1.2.2.2.1 d.2.1.1 d.2.1.2.1 d.2.1.2.2.1 d.2.1.2.2.2.1
theorem B96:A7j true G12 aLn Try.f85 B23 B4R B6Z:=by
 rintro ⟨⟨a0,⟨a1,⟨a2,⟨a3,_⟩⟩⟩⟩,⟨⟨a4,⟨a5,⟨a6,⟨a7,_⟩⟩⟩⟩,_⟩⟩ hp
 change B3S a0 a1 a2 a3 a4 a5 a6 a7=true at hp
 unfold B3S at hp
 refine Eq.trans (b:=(cond (a0 != a4) (some (Z6 false)) (cond (Z8 a1 a5) (cond (!(A8d a1 a5)) (some (Z6 false)) (cond (a2 != a6) (some (Z6 false)) (cond (B1K a3 a7) (cond (!(B8Q a3 a7)) (some (Z6 false)) (some (Z6 true))) none))) none))) (by kernel_rfl) ?_
 exact (Q5 Z6 hp (fun hp=>rfl) (fun hp=>(A7k hp fun hp=>(Q5 Z6 hp (fun hp=>rfl) (fun hp=>(Q5 Z6 hp (fun hp=>rfl) (fun hp=>(A7m hp fun _h=>(P1 Z6 (fun _h=>rfl) (fun _h=>rfl))))))))))
theorem C0z:aPP 85 (A2d B23 B4R B6Z):=pcD true G12 hlz B96
noncomputable def S13:Tab:=Tab.add S12 85 (lift (A2d B23 B4R B6Z))
noncomputable def C1i:FuncId→Bool:=qadd C1h 85
theorem G13:aPG S13 C1i:=G12.addQ C0z (cbl Try.f85) (fun _=>rfl)

abbrev B1f:List PSh:=[.t tq6,.t tq6]
abbrev V3:SS:=⟨(.t false tq6::.t false tq6::.junk::.junk::.junk::tI::B5M),[]⟩
abbrev B4l:SS:=⟨(.junk::.junk::.junk::.junk::.t true .bool::B63),[]⟩
abbrev B4m:SS:=⟨(.junk::B64),[]⟩
noncomputable def B5y (x0 x1:LT1) (x5:Int):RT V3.den:=let z1:=x0.getD x5.toNat ((0:Int),([],((0:Int),[])));let z2:=x1.getD x5.toNat ((0:Int),([],((0:Int),[])));(.br (decide (x5<(x0.length:Int))) (.br (decide (0≤x5∧x5<(x0.length:Int))) (.br (decide (0≤x5∧x5<(x1.length:Int))) (.br (B3S (z1.1) ((z1.2).1) (((z1.2).2).1) (((z1.2).2).2) (z2.1) ((z2.2).1) (((z2.2).2).1) (((z2.2).2).2)) (.br (!(B93 (z1.1) ((z1.2).1) (((z1.2).2).1) (((z1.2).2).2) (z2.1) ((z2.2).1) (((z2.2).2).1) (((z2.2).2).2))) (.done .ret B4l (((),(),(),(),false,u23),())) (.next ((x0,x1,(),(),(),wI (x5+(1:Int)),u22),()))) .fail) .fail) .fail) (.done (.exit 0) B4m ((u28),())))
abbrev B0p:=LT1×LT1×(Int)
abbrev A8F:=Nat×(Bool)
def A9j:A8F:=(99,(false:Bool))
noncomputable def B5x (x0 x1:LT1) (x5:Int):B0p ⊕ A8F:=let z1:=x0.getD x5.toNat ((0:Int),([],((0:Int),[])));let z2:=x1.getD x5.toNat ((0:Int),([],((0:Int),[])));(cond (decide (x5<(x0.length:Int))) (cond (decide (0≤x5∧x5<(x0.length:Int))) (cond (decide (0≤x5∧x5<(x1.length:Int))) (cond (B3S (z1.1) ((z1.2).1) (((z1.2).2).1) (((z1.2).2).2) (z2.1) ((z2.2).1) (((z2.2).2).1) (((z2.2).2).2)) (cond (!(B93 (z1.1) ((z1.2).1) (((z1.2).2).1) (((z1.2).2).2) (z2.1) ((z2.2).1) (((z2.2).2).1) (((z2.2).2).2))) (.inr (0,false)) (.inl (x0,x1,wI (x5+(1:Int))))) (.inr A9j)) (.inr A9j)) (.inr A9j)) (.inr (1,(false:Bool))))
noncomputable def A7S (x0 x1:LT1) (x5:Int):A8F:=itX (fun v:B0p=>B5x v.1 v.2.1 v.2.2) A9j (x0,x1,x5)
noncomputable def B1Y (a:A8F):CT:=(.br (a.1==0) (.done .ret B4l (((),(),(),(),a.2,u23),())) (.br (a.1==1) (.done (.exit 0) B4m ((u28),())) .fail))
noncomputable def B9l (x0 x1:LT1) (x5:Int):CT:=B1Y (A7S x0 x1 x5)
noncomputable abbrev B2j:V3.den→RT V3.den:=(fun d=>B5y d.1.1 d.1.2.1 d.1.2.2.2.2.2.1)
noncomputable def B29:Code:=((D4 0 (A1T Try.f56)).getD 0 (0,.skip)).2
noncomputable abbrev B5m (v:B0p):V3.den:=((v.1,v.2.1,(),(),(),v.2.2,u22),())
theorem B8W:(∀ v:B0p,(B5y v.1 v.2.1 v.2.2).val=A6u B5m B1Y (B5x v.1 v.2.1 v.2.2))∧∀ a:A8F,CEnd V3.den (B1Y a):=⟨fun v=>(A7n (A7n (A7n (A7n (A7n rfl rfl) rfl) rfl) rfl) rfl),fun a=>(A7c aCD (A7c aCD A7e))⟩
theorem B78:RdA G13 aLn 0 B29 V3 0 [] (kepts [4] [(0,[])]) (fun d=>(B2j d).opt 0 []):=by
 intro d
 kernel_rfl
noncomputable abbrev B4E:St→Option Tree:=V3.say 0 [] [] (fun d=>B9l d.1.1 d.1.2.1 d.1.2.2.2.2.2.1)
theorem B8T:aPL B4E B29:=SS.wp2 hlz [] B2j B78 (fun d=>rfl) _ (fun d=>Runs.ofI2 (step:=B2j) B5m B8W rfl (d.1.1,d.1.2.1,d.1.2.2.2.2.2.1))
noncomputable def B4g (a0 a1:LT1):Bool:=let z1:=A7S a0 a1 (0:Int);(cond ((a0.length:Int) != (a1.length:Int)) false (cond (z1.1==0) (z1.2) true))
noncomputable abbrev A9p (r:Bool):AV×List AObj:=((.t true .bool r),[])
noncomputable abbrev B5I:E8 B1f→AV×List AObj:=fun d=>A9p (B4g d.1 d.2.1)
noncomputable def A9u (a0 a1:LT1):Bool:=let z1:=A7S a0 a1 (0:Int);cond ((a0.length:Int) != (a1.length:Int)) true (cond (z1.1==0) true (z1.1==1))
noncomputable abbrev B3C:E8 B1f→Bool:=fun d=>A9u d.1 d.2.1
noncomputable abbrev C0h:Nat→St→Option Tree:=fun b=>match b with | 0=>B4E | _=>fun _=>none
theorem B9J:A7j true G13 (C0h) Try.f56 B1f B3C B5I:=by
 rintro ⟨a0,⟨a1,_⟩⟩ hp
 change A9u a0 a1=true at hp
 unfold A9u at hp
 refine Eq.trans (b:=(let z1:=A7S a0 a1 (0:Int);cond ((a0.length:Int) != (a1.length:Int)) (some (A9p false)) (cond (z1.1==0) (some (A9p (z1.2))) (cond (z1.1==1) (some (A9p true)) none)))) (by kernel_rfl) ?_
 exact (Q5 A9p hp (fun hp=>rfl) (fun hp=>(Q5 A9p hp (fun hp=>rfl) (fun hp=>(A7m hp fun _h=>rfl)))))
theorem C0k:aPP 56 (A2d B1f B3C B5I):=pcD true G13 (hl1 (i:=0) (by kernel_rfl) B8T) B9J
noncomputable def S14:Tab:=Tab.add S13 56 (lift (A2d B1f B3C B5I))
noncomputable def C1j:FuncId→Bool:=qadd C1i 56
theorem G14:aPG S14 C1j:=G13.addQ C0k (cbl Try.f56) (fun _=>rfl)

abbrev A8J:List PSh:=[.agg [(.int .i64),.bool],.agg [(.int .i64),.bool]]
noncomputable def B4f (a0:Int) (a1:Bool) (a2:Int) (a3:Bool):Bool:=(cond (a0 != a2) false (cond (!(a1==a3)) false true))
noncomputable abbrev A0o (r:Bool):AV×List AObj:=((.t true .bool r),[])
noncomputable abbrev B3h:E8 A8J→AV×List AObj:=fun d=>A0o (B4f d.1.1 d.1.2.1 d.2.1.1 d.2.1.2.1)
noncomputable abbrev B0V:E8 A8J→Bool:=fun d=>true
theorem B8e:A7j true G14 aLn Try.f86 A8J B0V B3h:=by
 rintro ⟨⟨a0,⟨a1,_⟩⟩,⟨⟨a2,⟨a3,_⟩⟩,_⟩⟩ hp
 refine Eq.trans (b:=(cond (a0 != a2) (some (A0o false)) (cond (!(a1==a3)) (some (A0o false)) (some (A0o true))))) (by kernel_rfl) ?_
 exact (P1 A0o (fun _h=>rfl) (fun _h=>(P1 A0o (fun _h=>rfl) (fun _h=>rfl))))
theorem B9q:aPP 86 (A2d A8J B0V B3h):=pcD true G14 hlz B8e
noncomputable def S15:Tab:=Tab.add S14 86 (lift (A2d A8J B0V B3h))
noncomputable def C1k:FuncId→Bool:=qadd C1j 86
theorem G15:aPG S15 C1k:=G14.addQ B9q (cbl Try.f86) (fun _=>rfl)


noncomputable def V8 (x0 x1:LIbe) (i:Nat):Bool:=!(!(B4f ((x0.getD i ((0:Int),false)).1) ((x0.getD i ((0:Int),false)).2) ((x1.getD i ((0:Int),false)).1) ((x1.getD i ((0:Int),false)).2)))
abbrev A7B:List PSh:=[.t B4e,.t B4e]
abbrev N7:SS:=⟨(.t false B4e::.t false B4e::.junk::.junk::.junk::tI::B5M),[]⟩
abbrev B1a:SS:=⟨(.junk::.junk::.junk::.junk::.t true .bool::B63),[]⟩
abbrev B1b:SS:=⟨(.junk::B64),[]⟩
noncomputable def A88 (x0 x1:LIbe) (x5:Int):RT N7.den:=let z1:=x0.getD x5.toNat ((0:Int),false);let z2:=x1.getD x5.toNat ((0:Int),false);(.br (decide (x5<(x0.length:Int))) (.br (decide (0≤x5∧x5<(x0.length:Int))) (.br (decide (0≤x5∧x5<(x1.length:Int))) (.br (!(B4f (z1.1) (z1.2) (z2.1) (z2.2))) (.done .ret B1a (((),(),(),(),false,u23),())) (.next ((x0,x1,(),(),(),wI (x5+(1:Int)),u22),()))) .fail) .fail) (.done (.exit 0) B1b ((u28),())))
noncomputable def V5 (x0 x1:LIbe) (x5:Int):CT:=(.br (decide (0≤x5)&&(decide (x0.length=x1.length)&&okL x0)) (.br (A4E (V8 x0 x1) (x0.length - x5.toNat) x5.toNat) (.done (.exit 0) B1b ((u28),())) (.done .ret B1a (((),(),(),(),false,u23),()))) .fail)
noncomputable abbrev U3:N7.den→RT N7.den:=(fun d=>A88 d.1.1 d.1.2.1 d.1.2.2.2.2.2.1)
noncomputable abbrev B2E (x0 x1:LIbe) (x5:Int):N7.den:=((x0,x1,(),(),(),x5,u22),())
noncomputable def B0r:Code:=((D4 0 (A1T Try.f57)).getD 0 (0,.skip)).2
theorem B6R (x0 x1:LIbe) (x5:Int):(V5 x0 x1 x5).val (D:=N7.den)=.fail∨Runs U3 (B2E x0 x1 x5) (V5 x0 x1 x5).val:=by
 cases hc:(decide (0≤x5)&&(decide (x0.length=x1.length)&&okL x0)) with
 | false=>left;simp only [V5,CT.val,hc,cond_false]
 | true =>
  right
  simp only [V5,CT.val,hc,cond_true]
  simp only [Bool.and_eq_true,decide_eq_true_eq] at hc
  obtain ⟨i,rfl⟩:=Int.eq_ofNat_of_zero_le hc.1
  have hs:=A69 hc.2.2
  simp only [Int.toNat_natCast]
  refine Runs.scan (fun j=>B2E x0 x1 (j:Int)) (x0.length) (V8 x0 x1) (fun i hi=>?_) (fun i hi=>?_) ⟨_,_,_,rfl,by simp⟩ ⟨_,_,_,rfl,by simp⟩ _ _ rfl
  ·
   have h0a:decide ((i:Int)<(x0.length:Int))=true:=decide_eq_true (by omega)
   have h0b:decide (0≤(i:Int)∧(i:Int)<(x0.length:Int))=true:=decide_eq_true (by omega)
   simp only [U3,A88,RT.val,h0a,h0b,cond_true,A7g i (by omega),Int.toNat_natCast]
   have h9:decide (0≤(i:Int)∧(i:Int)<(x1.length:Int))=true:=decide_eq_true (by omega)
   simp only [h9,cond_true]
   simp only [V8]
   generalize (!(B4f ((x0.getD i ((0:Int),false)).1) ((x0.getD i ((0:Int),false)).2) ((x1.getD i ((0:Int),false)).1) ((x1.getD i ((0:Int),false)).2)))=c
   cases c<;>rfl
  ·have h1:decide ((i:Int)<(x0.length:Int))=false:=decide_eq_false (by omega)
   simp only [U3,A88,RT.val,h1,cond_false]
theorem B5X:RdA G15 aLn 0 B0r N7 0 [] (kepts [4] [(0,[])]) (fun d=>(U3 d).opt 0 []):=by
 intro d
 kernel_rfl
noncomputable abbrev B1N:St→Option Tree:=N7.say 0 [] [] (fun d=>V5 d.1.1 d.1.2.1 d.1.2.2.2.2.2.1)
theorem B6o:aPL B1N B0r:=SS.wp2 hlz [] U3 B5X (fun d=>rfl) _ (fun d=>B6R d.1.1 d.1.2.1 d.1.2.2.2.2.2.1)
noncomputable def B18 (a0 a1:LIbe):Bool:=(cond ((a0.length:Int) != (a1.length:Int)) false (cond (A4E (V8 a0 a1) (a0.length - (0:Int).toNat) (0:Int).toNat) true false))
noncomputable abbrev W9 (r:Bool):AV×List AObj:=((.t true .bool r),[])
noncomputable abbrev B13:E8 A7B→AV×List AObj:=fun d=>W9 (B18 d.1 d.2.1)
noncomputable def X6 (a0 a1:LIbe):Bool:=okL a0
noncomputable abbrev A91:E8 A7B→Bool:=fun d=>X6 d.1 d.2.1
noncomputable abbrev B8u:Nat→St→Option Tree:=fun b=>match b with | 0=>B1N | _=>fun _=>none
theorem B7y:A7j true G15 (B8u) Try.f57 A7B A91 B13:=by
 rintro ⟨a0,⟨a1,_⟩⟩ hp
 change X6 a0 a1=true at hp
 unfold X6 at hp
 refine Eq.trans (b:=(cond ((a0.length:Int) != (a1.length:Int)) (some (W9 false)) (cond (decide (0≤(0:Int))&&(decide (a0.length=a1.length)&&okL a0)) (cond (A4E (V8 a0 a1) (a0.length - (0:Int).toNat) (0:Int).toNat) (some (W9 true)) (some (W9 false))) none))) (by kernel_rfl) ?_
 exact (P1 W9 (fun _h=>rfl) (fun _h=>(A7m (by simp only [okL,Bool.and_eq_true,decide_eq_true_eq] at hp ⊢;simp at _h;exact ⟨Int.le_refl 0,by omega,hp⟩) (fun _h=>(P1 W9 (fun _h=>rfl) (fun _h=>rfl))))))
theorem B8D:aPP 57 (A2d A7B A91 B13):=pcD true G15 (hl1 (i:=0) (by kernel_rfl) B6o) B7y
noncomputable def S16:Tab:=Tab.add S15 57 (lift (A2d A7B A91 B13))
noncomputable def C1l:FuncId→Bool:=qadd C1k 57
theorem G16:aPG S16 C1l:=G15.addQ B8D (cbl Try.f57) (fun _=>rfl)

abbrev A9A:List PSh:=[.agg [(.int .i64),(.int .i64),(.int .i64),tq6,B4e,(.int .i64)],.agg [(.int .i64),(.int .i64),(.int .i64),tq6,B4e,(.int .i64)]]
noncomputable def B1x (a0 a1 a2:Int) (a3:LT1) (a4:LIbe) (a5 a6 a7 a8:Int) (a9:LT1) (a10:LIbe) (a11:Int):Bool:=(cond (a0 != a6) false (cond (a1 != a7) false (cond (a2 != a8) false (cond (!(B4g a3 a9)) false (cond (!(B18 a4 a10)) false (cond (a5 != a11) false true))))))
noncomputable abbrev J5 (r:Bool):AV×List AObj:=((.t true .bool r),[])
noncomputable abbrev B4K:E8 A9A→AV×List AObj:=fun d=>J5 (B1x d.1.1 d.1.2.1 d.1.2.2.1 d.1.2.2.2.1 d.1.2.2.2.2.1 d.1.2.2.2.2.2.1 d.2.1.1 d.2.1.2.1 d.2.1.2.2.1 d.2.1.2.2.2.1 d.2.1.2.2.2.2.1 d.2.1.2.2.2.2.2.1)
noncomputable def A8j (a0 a1 a2:Int) (a3:LT1) (a4:LIbe) (a5 a6 a7 a8:Int) (a9:LT1) (a10:LIbe) (a11:Int):Bool:=cond (a0 != a6) true (cond (a1 != a7) true (cond (a2 != a8) true ((A9u a3 a9)&&(cond (!(B4g a3 a9)) true (X6 a4 a10)))))
noncomputable abbrev B2c:E8 A9A→Bool:=fun d=>A8j d.1.1 d.1.2.1 d.1.2.2.1 d.1.2.2.2.1 d.1.2.2.2.2.1 d.1.2.2.2.2.2.1 d.2.1.1 d.2.1.2.1 d.2.1.2.2.1 d.2.1.2.2.2.1 d.2.1.2.2.2.2.1 d.2.1.2.2.2.2.2.1
theorem B8Z:A7j true G16 aLn Try.f26 A9A B2c B4K:=by
 rintro ⟨⟨a0,⟨a1,⟨a2,⟨a3,⟨a4,⟨a5,_⟩⟩⟩⟩⟩⟩,⟨⟨a6,⟨a7,⟨a8,⟨a9,⟨a10,⟨a11,_⟩⟩⟩⟩⟩⟩,_⟩⟩ hp
 change A8j a0 a1 a2 a3 a4 a5 a6 a7 a8 a9 a10 a11=true at hp
 unfold A8j at hp
 refine Eq.trans (b:=(cond (a0 != a6) (some (J5 false)) (cond (a1 != a7) (some (J5 false)) (cond (a2 != a8) (some (J5 false)) (cond (A9u a3 a9) (cond (!(B4g a3 a9)) (some (J5 false)) (cond (X6 a4 a10) (cond (!(B18 a4 a10)) (some (J5 false)) (cond (a5 != a11) (some (J5 false)) (some (J5 true)))) none)) none))))) (by kernel_rfl) ?_
 exact (Q5 J5 hp (fun hp=>rfl) (fun hp=>(Q5 J5 hp (fun hp=>rfl) (fun hp=>(Q5 J5 hp (fun hp=>rfl) (fun hp=>(A7k hp fun hp=>(Q5 J5 hp (fun hp=>rfl) (fun hp=>(A7m hp fun _h=>(P1 J5 (fun _h=>rfl) (fun _h=>(P1 J5 (fun _h=>rfl) (fun _h=>rfl))))))))))))))
theorem B9U:aPP 26 (A2d A9A B2c B4K):=pcD true G16 hlz B8Z
noncomputable def S17:Tab:=Tab.add S16 26 (lift (A2d A9A B2c B4K))
noncomputable def C1m:FuncId→Bool:=qadd C1l 26
theorem G17:aPG S17 C1m:=G16.addQ B9U (cbl Try.f26) (fun _=>rfl)

abbrev B25:List PSh:=[.agg [(.int .i64),(.int .i64),B4X],.agg [(.int .i64),(.int .i64),B4X]]
noncomputable def B66 (a0 a1:Int) (a2:Lq2) (a3 a4:Int) (a5:Lq2):Bool:=(cond (a0 != a3) false (cond (a1 != a4) false (cond (!(A8d a2 a5)) false true)))
noncomputable abbrev A8V (r:Bool):AV×List AObj:=((.t true .bool r),[])
noncomputable abbrev B61:E8 B25→AV×List AObj:=fun d=>A8V (B66 d.1.1 d.1.2.1 d.1.2.2.1 d.2.1.1 d.2.1.2.1 d.2.1.2.2.1)
noncomputable def A97 (a0 a1:Int) (a2:Lq2) (a3 a4:Int) (a5:Lq2):Bool:=okL a2
noncomputable abbrev B4T:E8 B25→Bool:=fun d=>A97 d.1.1 d.1.2.1 d.1.2.2.1 d.2.1.1 d.2.1.2.1 d.2.1.2.2.1
theorem B98:A7j true G17 aLn Try.f105 B25 B4T B61:=by
 rintro ⟨⟨a0,⟨a1,⟨a2,_⟩⟩⟩,⟨⟨a3,⟨a4,⟨a5,_⟩⟩⟩,_⟩⟩ hp
 change A97 a0 a1 a2 a3 a4 a5=true at hp
 unfold A97 at hp
 refine Eq.trans (b:=(cond (a0 != a3) (some (A8V false)) (cond (a1 != a4) (some (A8V false)) (cond (Z8 a2 a5) (cond (!(A8d a2 a5)) (some (A8V false)) (some (A8V true))) none)))) (by kernel_rfl) ?_
 exact (P1 A8V (fun _h=>rfl) (fun _h=>(P1 A8V (fun _h=>rfl) (fun _h=>(A7m (by first | rfl | decide | exact hp | (simp only [Bool.and_eq_true] at hp;simp only [hp];done) | (simp [*];done) | (simp [okL] at hp;simp [okL,MAXB];omega) | (simp_all;done) | (simp at *;omega)) (fun _h=>(P1 A8V (fun _h=>rfl) (fun _h=>rfl))))))))
theorem C0B:aPP 105 (A2d B25 B4T B61):=pcD true G17 hlz B98
noncomputable def S18:Tab:=Tab.add S17 105 (lift (A2d B25 B4T B61))
noncomputable def C1n:FuncId→Bool:=qadd C1m 105
theorem G18:aPG S18 C1n:=G17.addQ C0B (cbl Try.f105) (fun _=>rfl)

abbrev B1h:List PSh:=[.t tq8,.t tq8]
abbrev V4:SS:=⟨(.t false tq8::.t false tq8::.junk::.junk::.junk::tI::B5M),[]⟩
abbrev B4n:SS:=⟨(.junk::.junk::.junk::.junk::.t true .bool::B63),[]⟩
abbrev B4o:SS:=⟨(.junk::B64),[]⟩
noncomputable def B5z (x0 x1:Lq1) (x5:Int):RT V4.den:=let z1:=x0.getD x5.toNat ((0:Int),((0:Int),[]));let z2:=x1.getD x5.toNat ((0:Int),((0:Int),[]));(.br (decide (x5<(x0.length:Int))) (.br (decide (0≤x5∧x5<(x0.length:Int))) (.br (decide (0≤x5∧x5<(x1.length:Int))) (.br (A97 (z1.1) ((z1.2).1) ((z1.2).2) (z2.1) ((z2.2).1) ((z2.2).2)) (.br (!(B66 (z1.1) ((z1.2).1) ((z1.2).2) (z2.1) ((z2.2).1) ((z2.2).2))) (.done .ret B4n (((),(),(),(),false,u23),())) (.next ((x0,x1,(),(),(),wI (x5+(1:Int)),u22),()))) .fail) .fail) .fail) (.done (.exit 0) B4o ((u28),())))
abbrev B0q:=(Lq1)×Lq1×(Int)
abbrev U8:=Nat×(Bool)
def A9k:U8:=(99,(false:Bool))
noncomputable def A9n (x0 x1:Lq1) (x5:Int):B0q ⊕ U8:=let z1:=x0.getD x5.toNat ((0:Int),((0:Int),[]));let z2:=x1.getD x5.toNat ((0:Int),((0:Int),[]));(cond (decide (x5<(x0.length:Int))) (cond (decide (0≤x5∧x5<(x0.length:Int))) (cond (decide (0≤x5∧x5<(x1.length:Int))) (cond (A97 (z1.1) ((z1.2).1) ((z1.2).2) (z2.1) ((z2.2).1) ((z2.2).2)) (cond (!(B66 (z1.1) ((z1.2).1) ((z1.2).2) (z2.1) ((z2.2).1) ((z2.2).2))) (.inr (0,false)) (.inl (x0,x1,wI (x5+(1:Int))))) (.inr A9k)) (.inr A9k)) (.inr A9k)) (.inr (1,(false:Bool))))
noncomputable def X3 (x0 x1:Lq1) (x5:Int):U8:=itX (fun v:B0q=>A9n v.1 v.2.1 v.2.2) A9k (x0,x1,x5)
noncomputable def B1Z (a:U8):CT:=(.br (a.1==0) (.done .ret B4n (((),(),(),(),a.2,u23),())) (.br (a.1==1) (.done (.exit 0) B4o ((u28),())) .fail))
noncomputable def B9m (x0 x1:Lq1) (x5:Int):CT:=B1Z (X3 x0 x1 x5)
noncomputable abbrev B2k:V4.den→RT V4.den:=(fun d=>B5z d.1.1 d.1.2.1 d.1.2.2.2.2.2.1)
noncomputable def B3a:Code:=((D4 0 (A1T Try.f87)).getD 0 (0,.skip)).2
noncomputable abbrev B5n (v:B0q):V4.den:=((v.1,v.2.1,(),(),(),v.2.2,u22),())
theorem B8X:(∀ v:B0q,(B5z v.1 v.2.1 v.2.2).val=A6u B5n B1Z (A9n v.1 v.2.1 v.2.2))∧∀ a:U8,CEnd V4.den (B1Z a):=⟨fun v=>(A7n (A7n (A7n (A7n (A7n rfl rfl) rfl) rfl) rfl) rfl),fun a=>(A7c aCD (A7c aCD A7e))⟩
theorem B79:RdA G18 aLn 0 B3a V4 0 [] (kepts [4] [(0,[])]) (fun d=>(B2k d).opt 0 []):=by
 intro d
 kernel_rfl
noncomputable abbrev B4F:St→Option Tree:=V4.say 0 [] [] (fun d=>B9m d.1.1 d.1.2.1 d.1.2.2.2.2.2.1)
theorem B8U:aPL B4F B3a:=SS.wp2 hlz [] B2k B79 (fun d=>rfl) _ (fun d=>Runs.ofI2 (step:=B2k) B5n B8X rfl (d.1.1,d.1.2.1,d.1.2.2.2.2.2.1))
noncomputable def B0H (a0 a1:Lq1):Bool:=let z1:=X3 a0 a1 (0:Int);(cond ((a0.length:Int) != (a1.length:Int)) false (cond (z1.1==0) (z1.2) true))
noncomputable abbrev A9r (r:Bool):AV×List AObj:=((.t true .bool r),[])
noncomputable abbrev B5K:E8 B1h→AV×List AObj:=fun d=>A9r (B0H d.1 d.2.1)
noncomputable def X7 (a0 a1:Lq1):Bool:=let z1:=X3 a0 a1 (0:Int);cond ((a0.length:Int) != (a1.length:Int)) true (cond (z1.1==0) true (z1.1==1))
noncomputable abbrev B3E:E8 B1h→Bool:=fun d=>X7 d.1 d.2.1
noncomputable abbrev C0i:Nat→St→Option Tree:=fun b=>match b with | 0=>B4F | _=>fun _=>none
theorem B9L:A7j true G18 (C0i) Try.f87 B1h B3E B5K:=by
 rintro ⟨a0,⟨a1,_⟩⟩ hp
 change X7 a0 a1=true at hp
 unfold X7 at hp
 refine Eq.trans (b:=(let z1:=X3 a0 a1 (0:Int);cond ((a0.length:Int) != (a1.length:Int)) (some (A9r false)) (cond (z1.1==0) (some (A9r (z1.2))) (cond (z1.1==1) (some (A9r true)) none)))) (by kernel_rfl) ?_
 exact (Q5 A9r hp (fun hp=>rfl) (fun hp=>(Q5 A9r hp (fun hp=>rfl) (fun hp=>(A7m hp fun _h=>rfl)))))
theorem C0m:aPP 87 (A2d B1h B3E B5K):=pcD true G18 (hl1 (i:=0) (by kernel_rfl) B8U) B9L
noncomputable def S19:Tab:=Tab.add S18 87 (lift (A2d B1h B3E B5K))
noncomputable def C1o:FuncId→Bool:=qadd C1n 87
theorem G19:aPG S19 C1o:=G18.addQ C0m (cbl Try.f87) (fun _=>rfl)

abbrev B1g:List PSh:=[.agg [.str,.str],.agg [.str,.str]]
noncomputable def B5d (a0 a1 a2 a3:ByteArray):Bool:=(cond (!(a0.toList==a2.toList)) false (cond (!(a1.toList==a3.toList)) false true))
noncomputable abbrev A9q (r:Bool):AV×List AObj:=((.t true .bool r),[])
noncomputable abbrev B5J:E8 B1g→AV×List AObj:=fun d=>A9q (B5d d.1.1 d.1.2.1 d.2.1.1 d.2.1.2.1)
noncomputable abbrev B3D:E8 B1g→Bool:=fun d=>true
theorem B9K:A7j true G19 aLn Try.f106 B1g B3D B5J:=by
 rintro ⟨⟨a0,⟨a1,_⟩⟩,⟨⟨a2,⟨a3,_⟩⟩,_⟩⟩ hp
 refine Eq.trans (b:=(cond (!(a0.toList==a2.toList)) (some (A9q false)) (cond (!(a1.toList==a3.toList)) (some (A9q false)) (some (A9q true))))) (by kernel_rfl) ?_
 exact (P1 A9q (fun _h=>rfl) (fun _h=>(P1 A9q (fun _h=>rfl) (fun _h=>rfl))))
theorem C0l:aPP 106 (A2d B1g B3D B5J):=pcD true G19 hlz B9K
noncomputable def S20:Tab:=Tab.add S19 106 (lift (A2d B1g B3D B5J))
noncomputable def C1p:FuncId→Bool:=qadd C1o 106
theorem G20:aPG S20 C1p:=G19.addQ C0l (cbl Try.f106) (fun _=>rfl)


noncomputable def T2 (x0 x1:LBBe) (i:Nat):Bool:=!(!(B5d ((x0.getD i (bE,bE)).1) ((x0.getD i (bE,bE)).2) ((x1.getD i (bE,bE)).1) ((x1.getD i (bE,bE)).2)))
abbrev A9C:List PSh:=[.t B8r,.t B8r]
abbrev T0:SS:=⟨(.t false B8r::.t false B8r::.junk::.junk::.junk::tI::B5M),[]⟩
abbrev B2Z:SS:=⟨(.junk::.junk::.junk::.junk::.t true .bool::B63),[]⟩
abbrev B20:SS:=⟨(.junk::B64),[]⟩
noncomputable def B07 (x0 x1:LBBe) (x5:Int):RT T0.den:=let z1:=x0.getD x5.toNat (bE,bE);let z2:=x1.getD x5.toNat (bE,bE);(.br (decide (x5<(x0.length:Int))) (.br (decide (0≤x5∧x5<(x0.length:Int))) (.br (decide (0≤x5∧x5<(x1.length:Int))) (.br (!(B5d (z1.1) (z1.2) (z2.1) (z2.2))) (.done .ret B2Z (((),(),(),(),false,u23),())) (.next ((x0,x1,(),(),(),wI (x5+(1:Int)),u22),()))) .fail) .fail) (.done (.exit 0) B20 ((u28),())))
noncomputable def A7I (x0 x1:LBBe) (x5:Int):CT:=(.br (decide (0≤x5)&&(decide (x0.length=x1.length)&&okL x0)) (.br (A4E (T2 x0 x1) (x0.length - x5.toNat) x5.toNat) (.done (.exit 0) B20 ((u28),())) (.done .ret B2Z (((),(),(),(),false,u23),()))) .fail)
noncomputable abbrev Z9:T0.den→RT T0.den:=(fun d=>B07 d.1.1 d.1.2.1 d.1.2.2.2.2.2.1)
noncomputable abbrev B4y (x0 x1:LBBe) (x5:Int):T0.den:=((x0,x1,(),(),(),x5,u22),())
noncomputable def B2x:Code:=((D4 0 (A1T Try.f88)).getD 0 (0,.skip)).2
theorem B8z (x0 x1:LBBe) (x5:Int):(A7I x0 x1 x5).val (D:=T0.den)=.fail∨Runs Z9 (B4y x0 x1 x5) (A7I x0 x1 x5).val:=by
 cases hc:(decide (0≤x5)&&(decide (x0.length=x1.length)&&okL x0)) with
 | false=>left;simp only [A7I,CT.val,hc,cond_false]
 | true =>
  right
  simp only [A7I,CT.val,hc,cond_true]
  simp only [Bool.and_eq_true,decide_eq_true_eq] at hc
  obtain ⟨i,rfl⟩:=Int.eq_ofNat_of_zero_le hc.1
  have hs:=A69 hc.2.2
  simp only [Int.toNat_natCast]
  refine Runs.scan (fun j=>B4y x0 x1 (j:Int)) (x0.length) (T2 x0 x1) (fun i hi=>?_) (fun i hi=>?_) ⟨_,_,_,rfl,by simp⟩ ⟨_,_,_,rfl,by simp⟩ _ _ rfl
  ·
   have h0a:decide ((i:Int)<(x0.length:Int))=true:=decide_eq_true (by omega)
   have h0b:decide (0≤(i:Int)∧(i:Int)<(x0.length:Int))=true:=decide_eq_true (by omega)
   simp only [Z9,B07,RT.val,h0a,h0b,cond_true,A7g i (by omega),Int.toNat_natCast]
   have h9:decide (0≤(i:Int)∧(i:Int)<(x1.length:Int))=true:=decide_eq_true (by omega)
   simp only [h9,cond_true]
   simp only [T2]
   generalize (!(B5d ((x0.getD i ((⟨#[]⟩:ByteArray),(⟨#[]⟩:ByteArray))).1) ((x0.getD i ((⟨#[]⟩:ByteArray),(⟨#[]⟩:ByteArray))).2) ((x1.getD i ((⟨#[]⟩:ByteArray),(⟨#[]⟩:ByteArray))).1) ((x1.getD i ((⟨#[]⟩:ByteArray),(⟨#[]⟩:ByteArray))).2)))=c
   cases c<;>rfl
  ·have h1:decide ((i:Int)<(x0.length:Int))=false:=decide_eq_false (by omega)
   simp only [Z9,B07,RT.val,h1,cond_false]
theorem B7k:RdA G20 aLn 0 B2x T0 0 [] (kepts [4] [(0,[])]) (fun d=>(Z9 d).opt 0 []):=by
 intro d
 kernel_rfl
noncomputable abbrev B3U:St→Option Tree:=T0.say 0 [] [] (fun d=>A7I d.1.1 d.1.2.1 d.1.2.2.2.2.2.1)
theorem B73:aPL B3U B2x:=SS.wp2 hlz [] Z9 B7k (fun d=>rfl) _ (fun d=>B8z d.1.1 d.1.2.1 d.1.2.2.2.2.2.1)
noncomputable def B1z (a0 a1:LBBe):Bool:=(cond ((a0.length:Int) != (a1.length:Int)) false (cond (A4E (T2 a0 a1) (a0.length - (0:Int).toNat) (0:Int).toNat) true false))
noncomputable abbrev A8b (r:Bool):AV×List AObj:=((.t true .bool r),[])
noncomputable abbrev B4M:E8 A9C→AV×List AObj:=fun d=>A8b (B1z d.1 d.2.1)
noncomputable def A8k (a0 a1:LBBe):Bool:=okL a0
noncomputable abbrev B2e:E8 A9C→Bool:=fun d=>A8k d.1 d.2.1
noncomputable abbrev B9O:Nat→St→Option Tree:=fun b=>match b with | 0=>B3U | _=>fun _=>none
theorem B81:A7j true G20 (B9O) Try.f88 A9C B2e B4M:=by
 rintro ⟨a0,⟨a1,_⟩⟩ hp
 change A8k a0 a1=true at hp
 unfold A8k at hp
 refine Eq.trans (b:=(cond ((a0.length:Int) != (a1.length:Int)) (some (A8b false)) (cond (decide (0≤(0:Int))&&(decide (a0.length=a1.length)&&okL a0)) (cond (A4E (T2 a0 a1) (a0.length - (0:Int).toNat) (0:Int).toNat) (some (A8b true)) (some (A8b false))) none))) (by kernel_rfl) ?_
 exact (P1 A8b (fun _h=>rfl) (fun _h=>(A7m (by simp only [okL,Bool.and_eq_true,decide_eq_true_eq] at hp ⊢;simp at _h;exact ⟨Int.le_refl 0,by omega,hp⟩) (fun _h=>(P1 A8b (fun _h=>rfl) (fun _h=>rfl))))))
theorem B9W:aPP 88 (A2d A9C B2e B4M):=pcD true G20 (hl1 (i:=0) (by kernel_rfl) B73) B81
noncomputable def S21:Tab:=Tab.add S20 88 (lift (A2d A9C B2e B4M))
noncomputable def C1q:FuncId→Bool:=qadd C1p 88
theorem G21:aPG S21 C1q:=G20.addQ B9W (cbl Try.f88) (fun _=>rfl)

abbrev A9D:List PSh:=[.agg [(.int .i64),tq8,(.int .i64),B8r,tq8],.agg [(.int .i64),tq8,(.int .i64),B8r,tq8]]
noncomputable def B3t (a0:Int) (a1:Lq1) (a2:Int) (a3:LBBe) (a4:Lq1) (a5:Int) (a6:Lq1) (a7:Int) (a8:LBBe) (a9:Lq1):Bool:=(cond (a0 != a5) false (cond (!(B0H a1 a6)) false (cond (a2 != a7) false (cond (!(B1z a3 a8)) false (cond (!(B0H a4 a9)) false true)))))
noncomputable abbrev L6 (r:Bool):AV×List AObj:=((.t true .bool r),[])
noncomputable abbrev B4N:E8 A9D→AV×List AObj:=fun d=>L6 (B3t d.1.1 d.1.2.1 d.1.2.2.1 d.1.2.2.2.1 d.1.2.2.2.2.1 d.2.1.1 d.2.1.2.1 d.2.1.2.2.1 d.2.1.2.2.2.1 d.2.1.2.2.2.2.1)
noncomputable def A0m (a0:Int) (a1:Lq1) (a2:Int) (a3:LBBe) (a4:Lq1) (a5:Int) (a6:Lq1) (a7:Int) (a8:LBBe) (a9:Lq1):Bool:=cond (a0 != a5) true ((X7 a1 a6)&&(cond (!(B0H a1 a6)) true (cond (a2 != a7) true ((A8k a3 a8)&&(cond (!(B1z a3 a8)) true (X7 a4 a9))))))
noncomputable abbrev B2f:E8 A9D→Bool:=fun d=>A0m d.1.1 d.1.2.1 d.1.2.2.1 d.1.2.2.2.1 d.1.2.2.2.2.1 d.2.1.1 d.2.1.2.1 d.2.1.2.2.1 d.2.1.2.2.2.1 d.2.1.2.2.2.2.1
theorem B82:A7j true G21 aLn Try.f58 A9D B2f B4N:=by
 rintro ⟨⟨a0,⟨a1,⟨a2,⟨a3,⟨a4,_⟩⟩⟩⟩⟩,⟨⟨a5,⟨a6,⟨a7,⟨a8,⟨a9,_⟩⟩⟩⟩⟩,_⟩⟩ hp
 change A0m a0 a1 a2 a3 a4 a5 a6 a7 a8 a9=true at hp
 unfold A0m at hp
 refine Eq.trans (b:=(cond (a0 != a5) (some (L6 false)) (cond (X7 a1 a6) (cond (!(B0H a1 a6)) (some (L6 false)) (cond (a2 != a7) (some (L6 false)) (cond (A8k a3 a8) (cond (!(B1z a3 a8)) (some (L6 false)) (cond (X7 a4 a9) (cond (!(B0H a4 a9)) (some (L6 false)) (some (L6 true))) none)) none))) none))) (by kernel_rfl) ?_
 exact (Q5 L6 hp (fun hp=>rfl) (fun hp=>(A7k hp fun hp=>(Q5 L6 hp (fun hp=>rfl) (fun hp=>(Q5 L6 hp (fun hp=>rfl) (fun hp=>(A7k hp fun hp=>(Q5 L6 hp (fun hp=>rfl) (fun hp=>(A7m hp fun _h=>(P1 L6 (fun _h=>rfl) (fun _h=>rfl)))))))))))))
theorem B9X:aPP 58 (A2d A9D B2f B4N):=pcD true G21 hlz B82
noncomputable def S22:Tab:=Tab.add S21 58 (lift (A2d A9D B2f B4N))
noncomputable def C1r:FuncId→Bool:=qadd C1q 58
theorem G22:aPG S22 C1r:=G21.addQ B9X (cbl Try.f58) (fun _=>rfl)

abbrev A8L:List PSh:=[.t tq4,.t tq4]
abbrev P9:SS:=⟨(.t false tq4::.t false tq4::.junk::.junk::.junk::tI::B5M),[]⟩
abbrev B2q:SS:=⟨(.junk::.junk::.junk::.junk::.t true .bool::B63),[]⟩
abbrev B2r:SS:=⟨(.junk::B64),[]⟩
noncomputable def B37 (x0 x1:LT2) (x5:Int):RT P9.den:=let z1:=x0.getD x5.toNat ((0:Int),([],((0:Int),([],[]))));let z2:=x1.getD x5.toNat ((0:Int),([],((0:Int),([],[]))));(.br (decide (x5<(x0.length:Int))) (.br (decide (0≤x5∧x5<(x0.length:Int))) (.br (decide (0≤x5∧x5<(x1.length:Int))) (.br (A0m (z1.1) ((z1.2).1) (((z1.2).2).1) ((((z1.2).2).2).1) ((((z1.2).2).2).2) (z2.1) ((z2.2).1) (((z2.2).2).1) ((((z2.2).2).2).1) ((((z2.2).2).2).2)) (.br (!(B3t (z1.1) ((z1.2).1) (((z1.2).2).1) ((((z1.2).2).2).1) ((((z1.2).2).2).2) (z2.1) ((z2.2).1) (((z2.2).2).1) ((((z2.2).2).2).1) ((((z2.2).2).2).2))) (.done .ret B2q (((),(),(),(),false,u23),())) (.next ((x0,x1,(),(),(),wI (x5+(1:Int)),u22),()))) .fail) .fail) .fail) (.done (.exit 0) B2r ((u28),())))
abbrev A8w:=LT2×LT2×(Int)
abbrev P7:=Nat×(Bool)
def A7R:P7:=(99,(false:Bool))
noncomputable def A7Y (x0 x1:LT2) (x5:Int):A8w ⊕ P7:=let z1:=x0.getD x5.toNat ((0:Int),([],((0:Int),([],[]))));let z2:=x1.getD x5.toNat ((0:Int),([],((0:Int),([],[]))));(cond (decide (x5<(x0.length:Int))) (cond (decide (0≤x5∧x5<(x0.length:Int))) (cond (decide (0≤x5∧x5<(x1.length:Int))) (cond (A0m (z1.1) ((z1.2).1) (((z1.2).2).1) ((((z1.2).2).2).1) ((((z1.2).2).2).2) (z2.1) ((z2.2).1) (((z2.2).2).1) ((((z2.2).2).2).1) ((((z2.2).2).2).2)) (cond (!(B3t (z1.1) ((z1.2).1) (((z1.2).2).1) ((((z1.2).2).2).1) ((((z1.2).2).2).2) (z2.1) ((z2.2).1) (((z2.2).2).1) ((((z2.2).2).2).1) ((((z2.2).2).2).2))) (.inr (0,false)) (.inl (x0,x1,wI (x5+(1:Int))))) (.inr A7R)) (.inr A7R)) (.inr A7R)) (.inr (1,(false:Bool))))
noncomputable def W1 (x0 x1:LT2) (x5:Int):P7:=itX (fun v:A8w=>A7Y v.1 v.2.1 v.2.2) A7R (x0,x1,x5)
noncomputable def A9O (a:P7):CT:=(.br (a.1==0) (.done .ret B2q (((),(),(),(),a.2,u23),())) (.br (a.1==1) (.done (.exit 0) B2r ((u28),())) .fail))
noncomputable def B7T (x0 x1:LT2) (x5:Int):CT:=A9O (W1 x0 x1 x5)
noncomputable abbrev B0c:P9.den→RT P9.den:=(fun d=>B37 d.1.1 d.1.2.1 d.1.2.2.2.2.2.1)
noncomputable def B1l:Code:=((D4 0 (A1T Try.f27)).getD 0 (0,.skip)).2
noncomputable abbrev B3M (v:A8w):P9.den:=((v.1,v.2.1,(),(),(),v.2.2,u22),())
theorem B7s:(∀ v:A8w,(B37 v.1 v.2.1 v.2.2).val=A6u B3M A9O (A7Y v.1 v.2.1 v.2.2))∧∀ a:P7,CEnd P9.den (A9O a):=⟨fun v=>(A7n (A7n (A7n (A7n (A7n rfl rfl) rfl) rfl) rfl) rfl),fun a=>(A7c aCD (A7c aCD A7e))⟩
theorem B6v:RdA G22 aLn 0 B1l P9 0 [] (kepts [4] [(0,[])]) (fun d=>(B0c d).opt 0 []):=by
 intro d
 kernel_rfl
noncomputable abbrev B2M:St→Option Tree:=P9.say 0 [] [] (fun d=>B7T d.1.1 d.1.2.1 d.1.2.2.2.2.2.1)
theorem B69:aPL B2M B1l:=SS.wp2 hlz [] B0c B6v (fun d=>rfl) _ (fun d=>Runs.ofI2 (step:=B0c) B3M B7s rfl (d.1.1,d.1.2.1,d.1.2.2.2.2.2.1))
noncomputable def A9t (a0 a1:LT2):Bool:=let z1:=W1 a0 a1 (0:Int);(cond ((a0.length:Int) != (a1.length:Int)) false (cond (z1.1==0) (z1.2) true))
noncomputable abbrev A0q (r:Bool):AV×List AObj:=((.t true .bool r),[])
noncomputable abbrev B3j:E8 A8L→AV×List AObj:=fun d=>A0q (A9t d.1 d.2.1)
noncomputable def W7 (a0 a1:LT2):Bool:=let z1:=W1 a0 a1 (0:Int);cond ((a0.length:Int) != (a1.length:Int)) true (cond (z1.1==0) true (z1.1==1))
noncomputable abbrev B0X:E8 A8L→Bool:=fun d=>W7 d.1 d.2.1
noncomputable abbrev B9b:Nat→St→Option Tree:=fun b=>match b with | 0=>B2M | _=>fun _=>none
theorem B8g:A7j true G22 (B9b) Try.f27 A8L B0X B3j:=by
 rintro ⟨a0,⟨a1,_⟩⟩ hp
 change W7 a0 a1=true at hp
 unfold W7 at hp
 refine Eq.trans (b:=(let z1:=W1 a0 a1 (0:Int);cond ((a0.length:Int) != (a1.length:Int)) (some (A0q false)) (cond (z1.1==0) (some (A0q (z1.2))) (cond (z1.1==1) (some (A0q true)) none)))) (by kernel_rfl) ?_
 exact (Q5 A0q hp (fun hp=>rfl) (fun hp=>(Q5 A0q hp (fun hp=>rfl) (fun hp=>(A7m hp fun _h=>rfl)))))
theorem B9s:aPP 27 (A2d A8L B0X B3j):=pcD true G22 (hl1 (i:=0) (by kernel_rfl) B69) B8g
noncomputable def S23:Tab:=Tab.add S22 27 (lift (A2d A8L B0X B3j))
noncomputable def C1s:FuncId→Bool:=qadd C1r 27
theorem G23:aPG S23 C1s:=G22.addQ B9s (cbl Try.f27) (fun _=>rfl)

abbrev B1i:List PSh:=[.agg [(.int .i64),(.int .i64),(.int .i64),B4X,.bool],.agg [(.int .i64),(.int .i64),(.int .i64),B4X,.bool]]
noncomputable def B8R (a0 a1 a2:Int) (a3:Lq2) (a4:Bool) (a5 a6 a7:Int) (a8:Lq2) (a9:Bool):Bool:=(cond (a0 != a5) false (cond (a1 != a6) false (cond (a2 != a7) false (cond (!(A8d a3 a8)) false (cond (!(a4==a9)) false true)))))
noncomputable abbrev O7 (r:Bool):AV×List AObj:=((.t true .bool r),[])
noncomputable abbrev B5L:E8 B1i→AV×List AObj:=fun d=>O7 (B8R d.1.1 d.1.2.1 d.1.2.2.1 d.1.2.2.2.1 d.1.2.2.2.2.1 d.2.1.1 d.2.1.2.1 d.2.1.2.2.1 d.2.1.2.2.2.1 d.2.1.2.2.2.2.1)
noncomputable def B1L (a0 a1 a2:Int) (a3:Lq2) (a4:Bool) (a5 a6 a7:Int) (a8:Lq2) (a9:Bool):Bool:=okL a3
noncomputable abbrev B3F:E8 B1i→Bool:=fun d=>B1L d.1.1 d.1.2.1 d.1.2.2.1 d.1.2.2.2.1 d.1.2.2.2.2.1 d.2.1.1 d.2.1.2.1 d.2.1.2.2.1 d.2.1.2.2.2.1 d.2.1.2.2.2.2.1
theorem B9M:A7j true G23 aLn Try.f59 B1i B3F B5L:=by
 rintro ⟨⟨a0,⟨a1,⟨a2,⟨a3,⟨a4,_⟩⟩⟩⟩⟩,⟨⟨a5,⟨a6,⟨a7,⟨a8,⟨a9,_⟩⟩⟩⟩⟩,_⟩⟩ hp
 change B1L a0 a1 a2 a3 a4 a5 a6 a7 a8 a9=true at hp
 unfold B1L at hp
 refine Eq.trans (b:=(cond (a0 != a5) (some (O7 false)) (cond (a1 != a6) (some (O7 false)) (cond (a2 != a7) (some (O7 false)) (cond (Z8 a3 a8) (cond (!(A8d a3 a8)) (some (O7 false)) (cond (!(a4==a9)) (some (O7 false)) (some (O7 true)))) none))))) (by kernel_rfl) ?_
 exact (P1 O7 (fun _h=>rfl) (fun _h=>(P1 O7 (fun _h=>rfl) (fun _h=>(P1 O7 (fun _h=>rfl) (fun _h=>(A7m (by first | rfl | decide | exact hp | (simp only [Bool.and_eq_true] at hp;simp only [hp];done) | (simp [*];done) | (simp [okL] at hp;simp [okL,MAXB];omega) | (simp_all;done) | (simp at *;omega)) (fun _h=>(P1 O7 (fun _h=>rfl) (fun _h=>(P1 O7 (fun _h=>rfl) (fun _h=>rfl))))))))))))
theorem C0n:aPP 59 (A2d B1i B3F B5L):=pcD true G23 hlz B9M
noncomputable def S24:Tab:=Tab.add S23 59 (lift (A2d B1i B3F B5L))
noncomputable def C1t:FuncId→Bool:=qadd C1s 59
theorem G24:aPG S24 C1t:=G23.addQ C0n (cbl Try.f59) (fun _=>rfl)

abbrev A9E:List PSh:=[.t tq7,.t tq7]
abbrev T1:SS:=⟨(.t false tq7::.t false tq7::.junk::.junk::.junk::tI::B5M),[]⟩
abbrev B21:SS:=⟨(.junk::.junk::.junk::.junk::.t true .bool::B63),[]⟩
abbrev B22:SS:=⟨(.junk::B64),[]⟩
noncomputable def B4H (x0 x1:LT3) (x5:Int):RT T1.den:=let z1:=x0.getD x5.toNat ((0:Int),((0:Int),((0:Int),([],false))));let z2:=x1.getD x5.toNat ((0:Int),((0:Int),((0:Int),([],false))));(.br (decide (x5<(x0.length:Int))) (.br (decide (0≤x5∧x5<(x0.length:Int))) (.br (decide (0≤x5∧x5<(x1.length:Int))) (.br (B1L (z1.1) ((z1.2).1) (((z1.2).2).1) ((((z1.2).2).2).1) ((((z1.2).2).2).2) (z2.1) ((z2.2).1) (((z2.2).2).1) ((((z2.2).2).2).1) ((((z2.2).2).2).2)) (.br (!(B8R (z1.1) ((z1.2).1) (((z1.2).2).1) ((((z1.2).2).2).1) ((((z1.2).2).2).2) (z2.1) ((z2.2).1) (((z2.2).2).1) ((((z2.2).2).2).1) ((((z2.2).2).2).2))) (.done .ret B21 (((),(),(),(),false,u23),())) (.next ((x0,x1,(),(),(),wI (x5+(1:Int)),u22),()))) .fail) .fail) .fail) (.done (.exit 0) B22 ((u28),())))
abbrev A9g:=LT3×LT3×(Int)
abbrev A7z:=Nat×(Bool)
def A8D:A7z:=(99,(false:Bool))
noncomputable def B4G (x0 x1:LT3) (x5:Int):A9g ⊕ A7z:=let z1:=x0.getD x5.toNat ((0:Int),((0:Int),((0:Int),([],false))));let z2:=x1.getD x5.toNat ((0:Int),((0:Int),((0:Int),([],false))));(cond (decide (x5<(x0.length:Int))) (cond (decide (0≤x5∧x5<(x0.length:Int))) (cond (decide (0≤x5∧x5<(x1.length:Int))) (cond (B1L (z1.1) ((z1.2).1) (((z1.2).2).1) ((((z1.2).2).2).1) ((((z1.2).2).2).2) (z2.1) ((z2.2).1) (((z2.2).2).1) ((((z2.2).2).2).1) ((((z2.2).2).2).2)) (cond (!(B8R (z1.1) ((z1.2).1) (((z1.2).2).1) ((((z1.2).2).2).1) ((((z1.2).2).2).2) (z2.1) ((z2.2).1) (((z2.2).2).1) ((((z2.2).2).2).1) ((((z2.2).2).2).2))) (.inr (0,false)) (.inl (x0,x1,wI (x5+(1:Int))))) (.inr A8D)) (.inr A8D)) (.inr A8D)) (.inr (1,(false:Bool))))
noncomputable def Z7 (x0 x1:LT3) (x5:Int):A7z:=itX (fun v:A9g=>B4G v.1 v.2.1 v.2.2) A8D (x0,x1,x5)
noncomputable def B0P (a:A7z):CT:=(.br (a.1==0) (.done .ret B21 (((),(),(),(),a.2,u23),())) (.br (a.1==1) (.done (.exit 0) B22 ((u28),())) .fail))
noncomputable def B8C (x0 x1:LT3) (x5:Int):CT:=B0P (Z7 x0 x1 x5)
noncomputable abbrev B06:T1.den→RT T1.den:=(fun d=>B4H d.1.1 d.1.2.1 d.1.2.2.2.2.2.1)
noncomputable def B2y:Code:=((D4 0 (A1T Try.f28)).getD 0 (0,.skip)).2
noncomputable abbrev B4C (v:A9g):T1.den:=((v.1,v.2.1,(),(),(),v.2.2,u22),())
theorem B8a:(∀ v:A9g,(B4H v.1 v.2.1 v.2.2).val=A6u B4C B0P (B4G v.1 v.2.1 v.2.2))∧∀ a:A7z,CEnd T1.den (B0P a):=⟨fun v=>(A7n (A7n (A7n (A7n (A7n rfl rfl) rfl) rfl) rfl) rfl),fun a=>(A7c aCD (A7c aCD A7e))⟩
theorem B7l:RdA G24 aLn 0 B2y T1 0 [] (kepts [4] [(0,[])]) (fun d=>(B06 d).opt 0 []):=by
 intro d
 kernel_rfl
noncomputable abbrev B3V:St→Option Tree:=T1.say 0 [] [] (fun d=>B8C d.1.1 d.1.2.1 d.1.2.2.2.2.2.1)
theorem B74:aPL B3V B2y:=SS.wp2 hlz [] B06 B7l (fun d=>rfl) _ (fun d=>Runs.ofI2 (step:=B06) B4C B8a rfl (d.1.1,d.1.2.1,d.1.2.2.2.2.2.1))
noncomputable def A7T (a0 a1:LT3):Bool:=let z1:=Z7 a0 a1 (0:Int);(cond ((a0.length:Int) != (a1.length:Int)) false (cond (z1.1==0) (z1.2) true))
noncomputable abbrev A8c (r:Bool):AV×List AObj:=((.t true .bool r),[])
noncomputable abbrev B4O:E8 A9E→AV×List AObj:=fun d=>A8c (A7T d.1 d.2.1)
noncomputable def W8 (a0 a1:LT3):Bool:=let z1:=Z7 a0 a1 (0:Int);cond ((a0.length:Int) != (a1.length:Int)) true (cond (z1.1==0) true (z1.1==1))
noncomputable abbrev B2g:E8 A9E→Bool:=fun d=>W8 d.1 d.2.1
noncomputable abbrev B9P:Nat→St→Option Tree:=fun b=>match b with | 0=>B3V | _=>fun _=>none
theorem B83:A7j true G24 (B9P) Try.f28 A9E B2g B4O:=by
 rintro ⟨a0,⟨a1,_⟩⟩ hp
 change W8 a0 a1=true at hp
 unfold W8 at hp
 refine Eq.trans (b:=(let z1:=Z7 a0 a1 (0:Int);cond ((a0.length:Int) != (a1.length:Int)) (some (A8c false)) (cond (z1.1==0) (some (A8c (z1.2))) (cond (z1.1==1) (some (A8c true)) none)))) (by kernel_rfl) ?_
 exact (Q5 A8c hp (fun hp=>rfl) (fun hp=>(Q5 A8c hp (fun hp=>rfl) (fun hp=>(A7m hp fun _h=>rfl)))))
theorem B9Y:aPP 28 (A2d A9E B2g B4O):=pcD true G24 (hl1 (i:=0) (by kernel_rfl) B74) B83
noncomputable def S25:Tab:=Tab.add S24 28 (lift (A2d A9E B2g B4O))
noncomputable def C1u:FuncId→Bool:=qadd C1t 28
theorem G25:aPG S25 C1u:=G24.addQ B9Y (cbl Try.f28) (fun _=>rfl)

abbrev A9B:List PSh:=[.agg [(.int .i64),B4X],.agg [(.int .i64),B4X]]
noncomputable def B65 (a0:Int) (a1:Lq2) (a2:Int) (a3:Lq2):Bool:=(cond (a0 != a2) false (cond (!(A8d a1 a3)) false true))
noncomputable abbrev A8a (r:Bool):AV×List AObj:=((.t true .bool r),[])
noncomputable abbrev B4L:E8 A9B→AV×List AObj:=fun d=>A8a (B65 d.1.1 d.1.2.1 d.2.1.1 d.2.1.2.1)
noncomputable def A96 (a0:Int) (a1:Lq2) (a2:Int) (a3:Lq2):Bool:=cond (a0 != a2) true (Z8 a1 a3)
noncomputable abbrev B2d:E8 A9B→Bool:=fun d=>A96 d.1.1 d.1.2.1 d.2.1.1 d.2.1.2.1
theorem B80:A7j true G25 aLn Try.f60 A9B B2d B4L:=by
 rintro ⟨⟨a0,⟨a1,_⟩⟩,⟨⟨a2,⟨a3,_⟩⟩,_⟩⟩ hp
 change A96 a0 a1 a2 a3=true at hp
 unfold A96 at hp
 refine Eq.trans (b:=(cond (a0 != a2) (some (A8a false)) (cond (Z8 a1 a3) (cond (!(A8d a1 a3)) (some (A8a false)) (some (A8a true))) none))) (by kernel_rfl) ?_
 exact (Q5 A8a hp (fun hp=>rfl) (fun hp=>(A7m hp fun _h=>(P1 A8a (fun _h=>rfl) (fun _h=>rfl)))))
theorem B9V:aPP 60 (A2d A9B B2d B4L):=pcD true G25 hlz B80
noncomputable def S26:Tab:=Tab.add S25 60 (lift (A2d A9B B2d B4L))
noncomputable def C1v:FuncId→Bool:=qadd C1u 60
theorem G26:aPG S26 C1v:=G25.addQ B9V (cbl Try.f60) (fun _=>rfl)

abbrev A8K:List PSh:=[.t B7J,.t B7J]
abbrev P8:SS:=⟨(.t false B7J::.t false B7J::.junk::.junk::.junk::tI::B5M),[]⟩
abbrev B2o:SS:=⟨(.junk::.junk::.junk::.junk::.t true .bool::B63),[]⟩
abbrev B2p:SS:=⟨(.junk::B64),[]⟩
noncomputable def B36 (x0 x1:Lq5) (x5:Int):RT P8.den:=let z1:=x0.getD x5.toNat ((0:Int),[]);let z2:=x1.getD x5.toNat ((0:Int),[]);(.br (decide (x5<(x0.length:Int))) (.br (decide (0≤x5∧x5<(x0.length:Int))) (.br (decide (0≤x5∧x5<(x1.length:Int))) (.br (A96 (z1.1) (z1.2) (z2.1) (z2.2)) (.br (!(B65 (z1.1) (z1.2) (z2.1) (z2.2))) (.done .ret B2o (((),(),(),(),false,u23),())) (.next ((x0,x1,(),(),(),wI (x5+(1:Int)),u22),()))) .fail) .fail) .fail) (.done (.exit 0) B2p ((u28),())))
abbrev A8v:=(Lq5)×Lq5×(Int)
abbrev Y3:=Nat×(Bool)
def A7Q:Y3:=(99,(false:Bool))
noncomputable def B3Z (x0 x1:Lq5) (x5:Int):A8v ⊕ Y3:=let z1:=x0.getD x5.toNat ((0:Int),[]);let z2:=x1.getD x5.toNat ((0:Int),[]);(cond (decide (x5<(x0.length:Int))) (cond (decide (0≤x5∧x5<(x0.length:Int))) (cond (decide (0≤x5∧x5<(x1.length:Int))) (cond (A96 (z1.1) (z1.2) (z2.1) (z2.2)) (cond (!(B65 (z1.1) (z1.2) (z2.1) (z2.2))) (.inr (0,false)) (.inl (x0,x1,wI (x5+(1:Int))))) (.inr A7Q)) (.inr A7Q)) (.inr A7Q)) (.inr (1,(false:Bool))))
noncomputable def W0 (x0 x1:Lq5) (x5:Int):Y3:=itX (fun v:A8v=>B3Z v.1 v.2.1 v.2.2) A7Q (x0,x1,x5)
noncomputable def A9N (a:Y3):CT:=(.br (a.1==0) (.done .ret B2o (((),(),(),(),a.2,u23),())) (.br (a.1==1) (.done (.exit 0) B2p ((u28),())) .fail))
noncomputable def B7S (x0 x1:Lq5) (x5:Int):CT:=A9N (W0 x0 x1 x5)
noncomputable abbrev B0b:P8.den→RT P8.den:=(fun d=>B36 d.1.1 d.1.2.1 d.1.2.2.2.2.2.1)
noncomputable def B1k:Code:=((D4 0 (A1T Try.f29)).getD 0 (0,.skip)).2
noncomputable abbrev B3L (v:A8v):P8.den:=((v.1,v.2.1,(),(),(),v.2.2,u22),())
theorem B7r:(∀ v:A8v,(B36 v.1 v.2.1 v.2.2).val=A6u B3L A9N (B3Z v.1 v.2.1 v.2.2))∧∀ a:Y3,CEnd P8.den (A9N a):=⟨fun v=>(A7n (A7n (A7n (A7n (A7n rfl rfl) rfl) rfl) rfl) rfl),fun a=>(A7c aCD (A7c aCD A7e))⟩
theorem B6u:RdA G26 aLn 0 B1k P8 0 [] (kepts [4] [(0,[])]) (fun d=>(B0b d).opt 0 []):=by
 intro d
 kernel_rfl
noncomputable abbrev B2L:St→Option Tree:=P8.say 0 [] [] (fun d=>B7S d.1.1 d.1.2.1 d.1.2.2.2.2.2.1)
theorem B68:aPL B2L B1k:=SS.wp2 hlz [] B0b B6u (fun d=>rfl) _ (fun d=>Runs.ofI2 (step:=B0b) B3L B7r rfl (d.1.1,d.1.2.1,d.1.2.2.2.2.2.1))
noncomputable def B1y (a0 a1:Lq5):Bool:=let z1:=W0 a0 a1 (0:Int);(cond ((a0.length:Int) != (a1.length:Int)) false (cond (z1.1==0) (z1.2) true))
noncomputable abbrev A0p (r:Bool):AV×List AObj:=((.t true .bool r),[])
noncomputable abbrev B3i:E8 A8K→AV×List AObj:=fun d=>A0p (B1y d.1 d.2.1)
noncomputable def A7u (a0 a1:Lq5):Bool:=let z1:=W0 a0 a1 (0:Int);cond ((a0.length:Int) != (a1.length:Int)) true (cond (z1.1==0) true (z1.1==1))
noncomputable abbrev B0W:E8 A8K→Bool:=fun d=>A7u d.1 d.2.1
noncomputable abbrev B9a:Nat→St→Option Tree:=fun b=>match b with | 0=>B2L | _=>fun _=>none
theorem B8f:A7j true G26 (B9a) Try.f29 A8K B0W B3i:=by
 rintro ⟨a0,⟨a1,_⟩⟩ hp
 change A7u a0 a1=true at hp
 unfold A7u at hp
 refine Eq.trans (b:=(let z1:=W0 a0 a1 (0:Int);cond ((a0.length:Int) != (a1.length:Int)) (some (A0p false)) (cond (z1.1==0) (some (A0p (z1.2))) (cond (z1.1==1) (some (A0p true)) none)))) (by kernel_rfl) ?_
 exact (Q5 A0p hp (fun hp=>rfl) (fun hp=>(Q5 A0p hp (fun hp=>rfl) (fun hp=>(A7m hp fun _h=>rfl)))))
theorem B9r:aPP 29 (A2d A8K B0W B3i):=pcD true G26 (hl1 (i:=0) (by kernel_rfl) B68) B8f
noncomputable def S27:Tab:=Tab.add S26 29 (lift (A2d A8K B0W B3i))
noncomputable def C1w:FuncId→Bool:=qadd C1v 29
theorem G27:aPG S27 C1w:=G26.addQ B9r (cbl Try.f29) (fun _=>rfl)

abbrev A9F:List PSh:=[.agg [(.int .i64),(.int .i64),(.int .i64),tq6,B4e,(.int .i64),tq4,tq7,tq7,B7J],.agg [(.int .i64),(.int .i64),(.int .i64),tq6,B4e,(.int .i64),tq4,tq7,tq7,B7J]]
noncomputable def B3u (a0 a1 a2:Int) (a3:LT1) (a4:LIbe) (a5:Int) (a6:LT2) (a7 a8:LT3) (a9:Lq5) (a10 a11 a12:Int) (a13:LT1) (a14:LIbe) (a15:Int) (a16:LT2) (a17 a18:LT3) (a19:Lq5):Bool:=(cond (!(B1x a0 a1 a2 a3 a4 a5 a10 a11 a12 a13 a14 a15)) false (cond (!(A9t a6 a16)) false (cond (!(A7T a7 a17)) false (cond (!(A7T a8 a18)) false (cond (!(B1y a9 a19)) false true)))))
noncomputable abbrev L7 (r:Bool):AV×List AObj:=((.t true .bool r),[])
noncomputable abbrev B4P:E8 A9F→AV×List AObj:=fun d=>L7 (B3u d.1.1 d.1.2.1 d.1.2.2.1 d.1.2.2.2.1 d.1.2.2.2.2.1 d.1.2.2.2.2.2.1 d.1.2.2.2.2.2.2.1 d.1.2.2.2.2.2.2.2.1 d.1.2.2.2.2.2.2.2.2.1 d.1.2.2.2.2.2.2.2.2.2.1 d.2.1.1 d.2.1.2.1 d.2.1.2.2.1 d.2.1.2.2.2.1 d.2.1.2.2.2.2.1 d.2.1.2.2.2.2.2.1 d.2.1.2.2.2.2.2.2.1 d.2.1.2.2.2.2.2.2.2.1 d.2.1.2.2.2.2.2.2.2.2.1 d.2.1.2.2.2.2.2.2.2.2.2.1)
noncomputable def A0n (a0 a1 a2:Int) (a3:LT1) (a4:LIbe) (a5:Int) (a6:LT2) (a7 a8:LT3) (a9:Lq5) (a10 a11 a12:Int) (a13:LT1) (a14:LIbe) (a15:Int) (a16:LT2) (a17 a18:LT3) (a19:Lq5):Bool:=(A8j a0 a1 a2 a3 a4 a5 a10 a11 a12 a13 a14 a15)&&(cond (!(B1x a0 a1 a2 a3 a4 a5 a10 a11 a12 a13 a14 a15)) true ((W7 a6 a16)&&(cond (!(A9t a6 a16)) true ((W8 a7 a17)&&(cond (!(A7T a7 a17)) true ((W8 a8 a18)&&(cond (!(A7T a8 a18)) true (A7u a9 a19))))))))
noncomputable abbrev B2h:E8 A9F→Bool:=fun d=>A0n d.1.1 d.1.2.1 d.1.2.2.1 d.1.2.2.2.1 d.1.2.2.2.2.1 d.1.2.2.2.2.2.1 d.1.2.2.2.2.2.2.1 d.1.2.2.2.2.2.2.2.1 d.1.2.2.2.2.2.2.2.2.1 d.1.2.2.2.2.2.2.2.2.2.1 d.2.1.1 d.2.1.2.1 d.2.1.2.2.1 d.2.1.2.2.2.1 d.2.1.2.2.2.2.1 d.2.1.2.2.2.2.2.1 d.2.1.2.2.2.2.2.2.1 d.2.1.2.2.2.2.2.2.2.1 d.2.1.2.2.2.2.2.2.2.2.1 d.2.1.2.2.2.2.2.2.2.2.2.1
theorem B84:A7j true G27 aLn Try.f9 A9F B2h B4P:=by
 rintro ⟨⟨a0,⟨a1,⟨a2,⟨a3,⟨a4,⟨a5,⟨a6,⟨a7,⟨a8,⟨a9,_⟩⟩⟩⟩⟩⟩⟩⟩⟩⟩,⟨⟨a10,⟨a11,⟨a12,⟨a13,⟨a14,⟨a15,⟨a16,⟨a17,⟨a18,⟨a19,_⟩⟩⟩⟩⟩⟩⟩⟩⟩⟩,_⟩⟩ hp
 change A0n a0 a1 a2 a3 a4 a5 a6 a7 a8 a9 a10 a11 a12 a13 a14 a15 a16 a17 a18 a19=true at hp
 unfold A0n at hp
 refine Eq.trans (b:=(cond (A8j a0 a1 a2 a3 a4 a5 a10 a11 a12 a13 a14 a15) (cond (!(B1x a0 a1 a2 a3 a4 a5 a10 a11 a12 a13 a14 a15)) (some (L7 false)) (cond (W7 a6 a16) (cond (!(A9t a6 a16)) (some (L7 false)) (cond (W8 a7 a17) (cond (!(A7T a7 a17)) (some (L7 false)) (cond (W8 a8 a18) (cond (!(A7T a8 a18)) (some (L7 false)) (cond (A7u a9 a19) (cond (!(B1y a9 a19)) (some (L7 false)) (some (L7 true))) none)) none)) none)) none)) none)) (by kernel_rfl) ?_
 exact (A7k hp fun hp=>(Q5 L7 hp (fun hp=>rfl) (fun hp=>(A7k hp fun hp=>(Q5 L7 hp (fun hp=>rfl) (fun hp=>(A7k hp fun hp=>(Q5 L7 hp (fun hp=>rfl) (fun hp=>(A7k hp fun hp=>(Q5 L7 hp (fun hp=>rfl) (fun hp=>(A7m hp fun _h=>(P1 L7 (fun _h=>rfl) (fun _h=>rfl)))))))))))))))
theorem B9Z:aPP 9 (A2d A9F B2h B4P):=pcD true G27 hlz B84
noncomputable def S28:Tab:=Tab.add S27 9 (lift (A2d A9F B2h B4P))
noncomputable def C1x:FuncId→Bool:=qadd C1w 9
theorem G28:aPG S28 C1x:=G27.addQ B9Z (cbl Try.f9) (fun _=>rfl)

abbrev C0S:List Sh:=.junk::.junk::.junk::.junk::.junk::C08
abbrev u17:=((),(),(),(),(),u12)
abbrev A8Q:List PSh:=[.t (.int .i64)]
abbrev M8:SS:=⟨(tI::.junk::.junk::.t true .str::C0S),[]⟩
abbrev A81:SS:=⟨(.junk::.junk::.junk::.t true .str::C0S),[]⟩
noncomputable def A72 (x0:Int) (x3:ByteArray):RT M8.den:=(.br (decide (x0 > (0:Int))) (.br (decide ((((⟨([IntKind.wrap .u8 (wI ((48:Int)+(Int.tmod x0 (10:Int))))].map fun n=>UInt8.ofNat n.toNat).toArray⟩:ByteArray).size+x3.size:Nat):Int)≤IntKind.i64.max)) (.next ((wI (Int.tdiv x0 (10:Int)),(),(),(⟨([IntKind.wrap .u8 (wI ((48:Int)+(Int.tmod x0 (10:Int))))].map fun n=>UInt8.ofNat n.toNat).toArray⟩:ByteArray)++x3,u17),())) .fail) (.done (.exit 0) A81 (((),(),(),x3,u17),())))
noncomputable def Z3 (x0:Int) (x3:ByteArray):CT:=(.br (decide (x0≤1000000000000)&&decide (x3.size≤1000)) (.done (.exit 0) A81 (((),(),(),(B5B 13 x0 x3),u17),())) .fail)
noncomputable abbrev L1:M8.den→RT M8.den:=(fun d=>A72 d.1.1 d.1.2.2.2.1)
noncomputable abbrev W6 (x0:Int) (x3:ByteArray):M8.den:=((x0,(),(),x3,u17),())
noncomputable def B1s:Code:=((D4 0 (A1T Try.f91)).getD 0 (0,.skip)).2
theorem B7Q (x0:Int) (x3:ByteArray):(Z3 x0 x3).val (D:=M8.den)=.fail∨Runs L1 (W6 x0 x3) (Z3 x0 x3).val:=by
 cases hc:(decide (x0≤1000000000000)&&decide (x3.size≤1000)) with
 | false=>left;simp only [Z3,CT.val,hc,cond_false]
 | true =>
  right
  simp only [Z3,CT.val,hc,cond_true]
  simp only [Bool.and_eq_true,decide_eq_true_eq] at hc
  have key:∀ (k:Nat) (x:Int) (s:ByteArray),x<10 ^ k→x≤1000000000000→s.size+k≤2000→Runs L1 (W6 x s) (((.done (.exit 0) A81 (((),(),(),(B5B k x s),u17),())):CT).val (D:=M8.den)):=by
   intro k
   induction k with
   | zero =>
    intro x s h1 h2 h3
    rw [show (10:Int) ^ 0=1 from rfl] at h1
    have e1:decide (x > (0:Int))=false:=decide_eq_false (by omega)
    refine .done (by simp) ?_
    simp only [L1,A72,RT.val,e1,cond_false,B5B]
   | succ k ih =>
    intro x s h1 h2 h3
    rw [Int.pow_succ] at h1
    by_cases hx:x > 0
    ·have e1:decide (x > (0:Int))=true:=decide_eq_true hx
     have e2:decide ((((B8M x).size+s.size:Nat):Int)≤IntKind.i64.max)=true:=decide_eq_true (by rw [B5G,show IntKind.i64.max=9223372036854775807 from rfl];omega)
     have e4:Int.tdiv x (10:Int)=x / 10:=Int.tdiv_eq_ediv_of_nonneg (by omega)
     have e5:wI (Int.tdiv x (10:Int))=x / 10:=by rw [e4];exact A6z (by omega) (by omega)
     have:=ih (wI (Int.tdiv x (10:Int))) (B8M x++s) (by rw [e5];omega) (by rw [e5];omega) (by rw [ByteArray.size_append,B5G];omega)
     refine .next (d':=W6 (wI (Int.tdiv x (10:Int))) (B8M x++s)) ?_ ?_
     ·have e6 : (L1 (W6 x s)).val = cond (decide ((((B8M x).size + s.size : Nat) : Int) ≤ IntKind.i64.max)) (.next (W6 (wI (Int.tdiv x (10 : Int))) (B8M x ++ s))) .fail := by
       simp only [L1,A72,RT.val,e1,cond_true];rfl
      rw [e6,e2];rfl
     ·have e3:B5B (k+1) x s=B5B k (wI (Int.tdiv x (10:Int))) (B8M x++s):=by simp only [B5B,e1,cond_true]
      rw [e3]
      exact this
    ·have e1:decide (x > (0:Int))=false:=decide_eq_false hx
     refine .done (by simp) ?_
     simp only [L1,A72,RT.val,e1,cond_false,B5B]
  exact key 13 x0 x3 (by have:=hc.1;rw [show (10:Int) ^ 13=10000000000000 from rfl];omega) hc.1 (by have:=hc.2;omega)
theorem B6C:RdA G28 aLn 0 B1s M8 0 [] (kepts [] [(0,[3])]) (fun d=>(L1 d).opt 0 []):=by
 intro d
 kernel_rfl
noncomputable abbrev B2T:St→Option Tree:=M8.say 0 [] [] (fun d=>Z3 d.1.1 d.1.2.2.2.1)
theorem B7g:aPL B2T B1s:=SS.wp2 hlz [] L1 B6C (fun d=>rfl) _ (fun d=>B7Q d.1.1 d.1.2.2.2.1)
noncomputable def H9 (a0:Int):ByteArray:=(cond (decide (a0≤(0:Int))) (⟨#[109,48]⟩:ByteArray) ((⟨#[109]⟩:ByteArray)++(B5B 13 a0 bE)))
noncomputable abbrev B0D (r:ByteArray):AV×List AObj:=((.t true .str r),[])
noncomputable abbrev B3p:E8 A8Q→AV×List AObj:=fun d=>B0D (H9 d.1)
noncomputable def H8 (a0:Int):Bool:=decide (a0≤1000000000000)
noncomputable abbrev B02:E8 A8Q→Bool:=fun d=>H8 d.1
noncomputable abbrev B9i:Nat→St→Option Tree:=fun b=>match b with | 0=>B2T | _=>fun _=>none
theorem B8n:A7j true G28 (B9i) Try.f91 A8Q B02 B3p:=by
 rintro ⟨a0,_⟩ hp
 change H8 a0=true at hp
 unfold H8 at hp
 refine Eq.trans (b:=(cond (decide (a0≤(0:Int))) (some (B0D (⟨#[109,48]⟩:ByteArray))) (cond (decide (a0≤1000000000000)&&decide ((⟨#[]⟩:ByteArray).size≤1000)) (cond (decide ((((⟨#[109]⟩:ByteArray).size+(B5B 13 a0 (⟨#[]⟩:ByteArray)).size:Nat):Int)≤IntKind.i64.max)) (some (B0D ((⟨#[109]⟩:ByteArray)++(B5B 13 a0 (⟨#[]⟩:ByteArray))))) none) none))) (by kernel_rfl) ?_
 exact (P1 B0D (fun _h=>rfl) (fun _h=>(A7m (by rw [hp];rfl) (fun _h=>(A7m (by have h1:=C0J 13 a0 (⟨#[]⟩:ByteArray);rw [decide_eq_true_eq];have h2:((⟨#[]⟩:ByteArray)).size=0:=rfl;have h3:((⟨#[109]⟩:ByteArray)).size=1:=rfl;rw [h2] at h1;rw [h3,show IntKind.i64.max=9223372036854775807 from rfl];omega) (fun _h=>rfl))))))
theorem B9z:aPP 91 (A2d A8Q B02 B3p):=pcD true G28 (hl1 (i:=0) (by kernel_rfl) B7g) B8n
noncomputable def S29:Tab:=Tab.add S28 91 (lift (A2d A8Q B02 B3p))
noncomputable def C1y:FuncId→Bool:=qadd C1x 91
theorem G29:aPG S29 C1y:=G28.addQ B9z (cbl Try.f91) (fun _=>rfl)

abbrev C0v:Ty:=.pair (.int .i64) (.pair .str .str)
abbrev C0U:List Sh:=.junk::.junk::.junk::.junk::B64
abbrev C1b:List Sh:=.junk::.junk::.junk::.junk::C0U
abbrev u31:=((),(),(),u28)
abbrev u35:=((),(),(),(),u31)
abbrev C0P:List AV:=.junk::.junk::.junk::.junk::.junk::.junk::.junk::.junk::.junk::.junk::.junk::.junk::.junk::.junk::.junk::.junk::.junk::.junk::.junk::.junk::.junk::.junk::.junk::.junk::.junk::.junk::.junk::.junk::.junk::.junk::[]
abbrev C04:List AV:=.junk::.junk::.junk::.junk::C0P

noncomputable def M2 (i:Nat) (b:Int×Lq2):Int×Lq2:=(wI ((wI ((wI (b.1+(1:Int)))+(1:Int)))+(1:Int)),((b.2.set i (b.1,(((b.2.getD i ((0:Int),(bE,bE))).2).1,((b.2.getD i ((0:Int),(bE,bE))).2).2))).set i (((b.2.set i (b.1,(((b.2.getD i ((0:Int),(bE,bE))).2).1,((b.2.getD i ((0:Int),(bE,bE))).2).2))).getD i ((0:Int),(bE,bE))).1,((H9 (wI (b.1+(1:Int)))),(((b.2.set i (b.1,(((b.2.getD i ((0:Int),(bE,bE))).2).1,((b.2.getD i ((0:Int),(bE,bE))).2).2))).getD i ((0:Int),(bE,bE))).2).2))).set i ((((b.2.set i (b.1,(((b.2.getD i ((0:Int),(bE,bE))).2).1,((b.2.getD i ((0:Int),(bE,bE))).2).2))).set i (((b.2.set i (b.1,(((b.2.getD i ((0:Int),(bE,bE))).2).1,((b.2.getD i ((0:Int),(bE,bE))).2).2))).getD i ((0:Int),(bE,bE))).1,((H9 (wI (b.1+(1:Int)))),(((b.2.set i (b.1,(((b.2.getD i ((0:Int),(bE,bE))).2).1,((b.2.getD i ((0:Int),(bE,bE))).2).2))).getD i ((0:Int),(bE,bE))).2).2))).getD i ((0:Int),(bE,bE))).1,(((((b.2.set i (b.1,(((b.2.getD i ((0:Int),(bE,bE))).2).1,((b.2.getD i ((0:Int),(bE,bE))).2).2))).set i (((b.2.set i (b.1,(((b.2.getD i ((0:Int),(bE,bE))).2).1,((b.2.getD i ((0:Int),(bE,bE))).2).2))).getD i ((0:Int),(bE,bE))).1,((H9 (wI (b.1+(1:Int)))),(((b.2.set i (b.1,(((b.2.getD i ((0:Int),(bE,bE))).2).1,((b.2.getD i ((0:Int),(bE,bE))).2).2))).getD i ((0:Int),(bE,bE))).2).2))).getD i ((0:Int),(bE,bE))).2).1,(H9 (wI ((wI (b.1+(1:Int)))+(1:Int)))))))
abbrev B0o:SS:=⟨[.all 0 3,tI],[.rows 83 true C0v]⟩
abbrev P0:SS:=⟨(.all 0 3::tI::.junk::.junk::.junk::tI::C0U),[.rows 83 true C0v]⟩
abbrev A9y:SS:=⟨(.junk::tI::C1b),[.rows 83 true C0v]⟩
noncomputable def B09 (x1 x5:Int) (h0:Lq2):RT P0.den:=let z4:=wI (x1+(1:Int));let z3:=wI (z4+(1:Int));let z5:=(h0.getD x5.toNat ((0:Int),(bE,bE))).2;let z2:=h0.set x5.toNat (x1,(z5.1,z5.2));let z7:=z2.getD x5.toNat ((0:Int),(bE,bE));let z1:=z2.set x5.toNat (z7.1,((H9 z4),(z7.2).2));let z6:=z1.getD x5.toNat ((0:Int),(bE,bE));(.br (decide (x5<(h0.length:Int))) (.br (decide (0≤x5∧x5<(h0.length:Int))) (.br (H8 z4) (.br (decide (0≤x5∧x5<((z2.length:Nat):Int))) (.br (H8 z3) (.br (decide (0≤x5∧x5<((z1.length:Nat):Int))) (.next (((),wI (z3+(1:Int)),(),(),(),wI (x5+(1:Int)),u31),(z1.set x5.toNat (z6.1,((z6.2).1,(H9 z3))),()))) .fail) .fail) .fail) .fail) .fail) (.done (.exit 0) A9y (((),x1,u35),(h0,()))))
noncomputable def A7K (x1 x5:Int) (h0:Lq2):CT:=(.br (decide (0≤x5)&&(decide (0≤x1∧x1≤100000*(x5+100))&&okL h0)) (.done (.exit 0) A9y (((),((foldN M2 (h0.length - x5.toNat) x5.toNat (x1,h0)).1),u35),(((foldN M2 (h0.length - x5.toNat) x5.toNat (x1,h0)).2),()))) .fail)
noncomputable abbrev U6:P0.den→RT P0.den:=(fun d=>B09 d.1.2.1 d.1.2.2.2.2.2.1 d.2.1)
noncomputable abbrev B4z (x1 x5:Int) (h0:Lq2):P0.den:=(((),x1,(),(),(),x5,u31),(h0,()))
noncomputable def B2A:Code:=((D4 0 (A1T Try.f65)).getD 0 (0,.skip)).2
theorem B8B (x1 x5:Int) (h0:Lq2):(A7K x1 x5 h0).val (D:=P0.den)=.fail∨Runs U6 (B4z x1 x5 h0) (A7K x1 x5 h0).val:=by
 cases hc:(decide (0≤x5)&&(decide (0≤x1∧x1≤100000*(x5+100))&&okL h0)) with
 | false=>left;simp only [A7K,CT.val,hc,cond_false]
 | true =>
  right
  simp only [A7K,CT.val,hc,cond_true]
  simp only [Bool.and_eq_true,decide_eq_true_eq] at hc
  obtain ⟨i,rfl⟩:=Int.eq_ofNat_of_zero_le hc.1
  have hs:=A69 hc.2.2
  have hk:=hc.2.1
  simp only [Int.toNat_natCast]
  refine Runs.foldN (step:=U6) (fun j b=>B4z b.1 (j:Int) b.2) (fun i b=>(0≤b.1∧b.1≤100000*((i:Int)+100))∧b.2.length=h0.length) (h0.length) M2
   (fin:=fun b=>((.done (.exit 0) A9y (((),b.1,u35),(b.2,()))):CT).val) (fun i b hi hb=>?_) (fun i b hi hb=>?_) (h0.length - i) i (x1,h0) rfl ⟨hk,rfl⟩
  ·obtain ⟨k,h⟩:=b
   obtain ⟨hb1,hb2⟩:=hb
   simp only at hb1 hb2
   have w1:wI (k+(1:Int))=k+(1:Int):=A6z (by omega) (by omega)
   have w2:wI (k+(1:Int)+(1:Int))=k+(1:Int)+(1:Int):=A6z (by omega) (by omega)
   have w3:wI (k+(1:Int)+(1:Int)+(1:Int))=k+(1:Int)+(1:Int)+(1:Int):=A6z (by omega) (by omega)
   have e0:(decide (0≤(i:Int)∧(i:Int)<(h.length:Int)))=true:=decide_eq_true (by (try simp only [List.length_set]);omega)
   have e1:(H8 (wI (k+(1:Int))))=true:=by simp only [H8,w1,w2,w3];exact decide_eq_true (by omega)
   have e2:(decide (0≤(i:Int)∧(i:Int)<(((h.set i (k,(((h.getD i ((0:Int),((⟨#[]⟩:ByteArray),(⟨#[]⟩:ByteArray)))).2).1,((h.getD i ((0:Int),((⟨#[]⟩:ByteArray),(⟨#[]⟩:ByteArray)))).2).2))).length:Nat):Int)))=true:=decide_eq_true (by (try simp only [List.length_set]);omega)
   have e3:(H8 (wI ((wI (k+(1:Int)))+(1:Int))))=true:=by simp only [H8,w1,w2,w3];exact decide_eq_true (by omega)
   have e4:(decide (0≤(i:Int)∧(i:Int)<((((h.set i (k,(((h.getD i ((0:Int),((⟨#[]⟩:ByteArray),(⟨#[]⟩:ByteArray)))).2).1,((h.getD i ((0:Int),((⟨#[]⟩:ByteArray),(⟨#[]⟩:ByteArray)))).2).2))).set i (((h.set i (k,(((h.getD i ((0:Int),((⟨#[]⟩:ByteArray),(⟨#[]⟩:ByteArray)))).2).1,((h.getD i ((0:Int),((⟨#[]⟩:ByteArray),(⟨#[]⟩:ByteArray)))).2).2))).getD i ((0:Int),((⟨#[]⟩:ByteArray),(⟨#[]⟩:ByteArray)))).1,((H9 (wI (k+(1:Int)))),(((h.set i (k,(((h.getD i ((0:Int),((⟨#[]⟩:ByteArray),(⟨#[]⟩:ByteArray)))).2).1,((h.getD i ((0:Int),((⟨#[]⟩:ByteArray),(⟨#[]⟩:ByteArray)))).2).2))).getD i ((0:Int),((⟨#[]⟩:ByteArray),(⟨#[]⟩:ByteArray)))).2).2))).length:Nat):Int)))=true:=decide_eq_true (by (try simp only [List.length_set]);omega)
   have h1:decide ((i:Int)<(h.length:Int))=true:=decide_eq_true (by omega)
   have v1:(M2 i (k,h)).1=k+(1:Int)+(1:Int)+(1:Int):=by simp only [M2,w1,w2,w3]
   have v2:(M2 i (k,h)).2.length=h.length:=by simp only [M2,List.length_set]
   refine ⟨⟨by rw [v1];omega,by rw [v2];exact hb2⟩,?_⟩
   simp only [U6,B09,RT.val,h1,e0,e1,e2,e3,e4,cond_true,A7g i (by omega),Int.toNat_natCast]
   rfl
  ·have h1:decide ((i:Int)<(b.2.length:Int))=false:=decide_eq_false (by omega)
   exact ⟨by simp only [U6,B09,RT.val,h1,cond_false];rfl,_,_,_,rfl,by simp⟩
noncomputable def B4x (x1 x5:Int) (h0:Lq2):Option (Ex×St):=let z4:=wI (x1+(1:Int));let z3:=wI (z4+(1:Int));let z5:=(h0.getD x5.toNat ((0:Int),(bE,bE))).2;let z2:=h0.set x5.toNat (x1,(z5.1,z5.2));let z7:=z2.getD x5.toNat ((0:Int),(bE,bE));let z1:=z2.set x5.toNat (z7.1,((H9 z4),(z7.2).2));let z6:=z1.getD x5.toNat ((0:Int),(bE,bE));(cond (decide (x5<(h0.length:Int))) (cond (decide (0≤x5∧x5<(h0.length:Int))) (cond (H8 z4) (cond (decide (0≤x5∧x5<((z2.length:Nat):Int))) (cond (H8 z3) (cond (decide (0≤x5∧x5<((z1.length:Nat):Int))) (some (.normal,(⟨((.all 0 3)::(ti (wI (z3+(1:Int))))::.junk::.junk::.junk::(ti (wI (x5+(1:Int))))::C0P),[(.rows 83 true C0v (z1.set x5.toNat (z6.1,((z6.2).1,(H9 z3)))))],1,[]⟩:St))) none) none) none) none) none) (some ((.exit 0),(⟨(.junk::(ti x1)::C04),[(.rows 83 true C0v h0)],1,[]⟩:St))))
theorem B7n:RdA G29 aLn 0 B2A P0 1 [] (kepts [] [(0,[1])]) (fun d=>B4x d.1.2.1 d.1.2.2.2.2.2.1 d.2.1):=by
 intro d
 kernel_rfl
theorem B7p:∀ d:P0.den,(fun d=>B4x d.1.2.1 d.1.2.2.2.2.2.1 d.2.1) d=(U6 d).opt 1 []:=by
 intro d
 kernel_rfl
noncomputable abbrev B3X:St→Option Tree:=P0.say 1 [] [] (fun d=>A7K d.1.2.1 d.1.2.2.2.2.2.1 d.2.1)
theorem B76:aPL B3X B2A:=SS.wp2 hlz [] U6 B7n B7p _ (fun d=>B8B d.1.2.1 d.1.2.2.2.2.2.1 d.2.1)
noncomputable def A7U (x1:Int) (h0:Lq2):Int×Lq2:=let z1:=foldN M2 (h0.length - (0:Int).toNat) (0:Int).toNat (x1,h0);((z1.1),(z1.2))
noncomputable abbrev B6Y (r:Int×Lq2):AV×List AObj×List Nat:=((ti r.1),[(.rows 83 true C0v r.2)],[])
noncomputable abbrev B62:B0o.den→AV×List AObj×List Nat:=fun d=>B6Y (A7U d.1.2.1 d.2.1)
noncomputable def O5 (x1:Int) (h0:Lq2):Bool:=okL h0&&decide (0≤x1∧x1≤10000000)
noncomputable abbrev B5l:B0o.den→Bool:=fun d=>O5 d.1.2.1 d.2.1
noncomputable abbrev B9R:Nat→St→Option Tree:=fun b=>match b with | 0=>B3X | _=>fun _=>none
theorem B86:A7i G29 (B9R) Try.f65 B0o B5l B62:=by
 rintro ⟨⟨_,x1,_⟩,⟨h0,_⟩⟩ hp
 change O5 x1 h0=true at hp
 unfold O5 at hp
 refine Eq.trans (b:=(let z1:=foldN M2 (h0.length - (0:Int).toNat) (0:Int).toNat (x1,h0);cond (decide (0≤(0:Int))&&(decide (0≤x1∧x1≤100000*((0:Int)+100))&&okL h0)) (some (B6Y ((z1.1),(z1.2)))) none)) (by kernel_rfl) ?_
 exact (A7m (by first | rfl | decide | exact hp | (simp only [Bool.and_eq_true] at hp;simp only [hp];done) | (simp [*];done) | (simp [okL] at hp;simp [okL,MAXB];omega) | (simp_all;done) | (simp at *;omega)) (fun _h=>rfl))
noncomputable abbrev B7i:=win E7 (msum B0o B5l B62)
theorem B91:aPM 65 B7i:=(mcM G29 (hl1 (i:=0) (by kernel_rfl) B76) B86).win E7
noncomputable def S30:Tab:=Tab.add S29 65 (orLend B7i)
noncomputable def C1z:FuncId→Bool:=C1y
theorem G30:aPG S30 C1z:=G29.addM B91.orLend (A6K (A6W _)) (cbl Try.f65) (by kernel_rfl)

abbrev C1Z:List Sh:=.junk::.junk::C08
abbrev C10:List Sh:=.junk::C0S
abbrev u14:=((),(),u12)
abbrev u18:=((),u17)

noncomputable def K5 (i:Nat) (b:Int×List Int):Int×List Int:=(wI (b.1+(1:Int)),b.2.set i b.1)
abbrev A9e:SS:=⟨[.all 0 1,tI],[.rows 3 true (.int .i64)]⟩
abbrev Q1:SS:=⟨(.all 0 1::tI::.junk::.junk::.junk::tI::C1Z),[.rows 3 true (.int .i64)]⟩
abbrev A80:SS:=⟨(.junk::tI::C10),[.rows 3 true (.int .i64)]⟩
noncomputable def B0j (x1 x5:Int) (h0:List Int):RT Q1.den:=(.br (decide (x5<(h0.length:Int))) (.br (decide (0≤x5∧x5<(h0.length:Int))) (.next (((),wI (x1+(1:Int)),(),(),(),wI (x5+(1:Int)),u14),(h0.set x5.toNat x1,()))) .fail) (.done (.exit 0) A80 (((),x1,u18),(h0,()))))
noncomputable def Z2 (x1 x5:Int) (h0:List Int):CT:=(.br (decide (0≤x5)&&(decide (0≤x1∧x1≤100000*(x5+100))&&okL h0)) (.done (.exit 0) A80 (((),((foldN K5 (h0.length - x5.toNat) x5.toNat (x1,h0)).1),u18),(((foldN K5 (h0.length - x5.toNat) x5.toNat (x1,h0)).2),()))) .fail)
noncomputable abbrev R7:Q1.den→RT Q1.den:=(fun d=>B0j d.1.2.1 d.1.2.2.2.2.2.1 d.2.1)
noncomputable abbrev B3A (x1 x5:Int) (h0:List Int):Q1.den:=(((),x1,(),(),(),x5,u14),(h0,()))
noncomputable def B1p:Code:=((D4 0 (A1T Try.f90)).getD 0 (0,.skip)).2
theorem B7P (x1 x5:Int) (h0:List Int):(Z2 x1 x5 h0).val (D:=Q1.den)=.fail∨Runs R7 (B3A x1 x5 h0) (Z2 x1 x5 h0).val:=by
 cases hc:(decide (0≤x5)&&(decide (0≤x1∧x1≤100000*(x5+100))&&okL h0)) with
 | false=>left;simp only [Z2,CT.val,hc,cond_false]
 | true =>
  right
  simp only [Z2,CT.val,hc,cond_true]
  simp only [Bool.and_eq_true,decide_eq_true_eq] at hc
  obtain ⟨i,rfl⟩:=Int.eq_ofNat_of_zero_le hc.1
  have hs:=A69 hc.2.2
  have hk:=hc.2.1
  simp only [Int.toNat_natCast]
  refine Runs.foldN (step:=R7) (fun j b=>B3A b.1 (j:Int) b.2) (fun i b=>(0≤b.1∧b.1≤100000*((i:Int)+100))∧b.2.length=h0.length) (h0.length) K5
   (fin:=fun b=>((.done (.exit 0) A80 (((),b.1,u18),(b.2,()))):CT).val) (fun i b hi hb=>?_) (fun i b hi hb=>?_) (h0.length - i) i (x1,h0) rfl ⟨hk,rfl⟩
  ·obtain ⟨k,h⟩:=b
   obtain ⟨hb1,hb2⟩:=hb
   simp only at hb1 hb2
   have w1:wI (k+(1:Int))=k+(1:Int):=A6z (by omega) (by omega)
   have e0:(decide (0≤(i:Int)∧(i:Int)<(h.length:Int)))=true:=decide_eq_true (by (try simp only [List.length_set]);omega)
   have h1:decide ((i:Int)<(h.length:Int))=true:=decide_eq_true (by omega)
   have v1:(K5 i (k,h)).1=k+(1:Int):=by simp only [K5,w1]
   have v2:(K5 i (k,h)).2.length=h.length:=by simp only [K5,List.length_set]
   refine ⟨⟨by rw [v1];omega,by rw [v2];exact hb2⟩,?_⟩
   simp only [R7,B0j,RT.val,h1,e0,cond_true,A7g i (by omega),Int.toNat_natCast]
   rfl
  ·have h1:decide ((i:Int)<(b.2.length:Int))=false:=decide_eq_false (by omega)
   exact ⟨by simp only [R7,B0j,RT.val,h1,cond_false];rfl,_,_,_,rfl,by simp⟩
theorem B6z:RdA G30 aLn 0 B1p Q1 1 [] (kepts [] [(0,[1])]) (fun d=>(R7 d).opt 1 []):=by
 intro d
 kernel_rfl
noncomputable abbrev B2Q:St→Option Tree:=Q1.say 1 [] [] (fun d=>Z2 d.1.2.1 d.1.2.2.2.2.2.1 d.2.1)
theorem B7d:aPL B2Q B1p:=SS.wp2 hlz [] R7 B6z (fun d=>rfl) _ (fun d=>B7P d.1.2.1 d.1.2.2.2.2.2.1 d.2.1)
noncomputable def B4i (x1:Int) (h0:List Int):Int×List Int:=let z1:=foldN K5 (h0.length - (0:Int).toNat) (0:Int).toNat (x1,h0);((z1.1),(z1.2))
noncomputable abbrev B6b (r:Int×List Int):AV×List AObj×List Nat:=((ti r.1),[(.rows 3 true (.int .i64) r.2)],[])
noncomputable abbrev B6e:A9e.den→AV×List AObj×List Nat:=fun d=>B6b (B4i d.1.2.1 d.2.1)
noncomputable def A7x (x1:Int) (h0:List Int):Bool:=okL h0&&decide (0≤x1∧x1≤10000000)
noncomputable abbrev B4A:A9e.den→Bool:=fun d=>A7x d.1.2.1 d.2.1
noncomputable abbrev B9f:Nat→St→Option Tree:=fun b=>match b with | 0=>B2Q | _=>fun _=>none
theorem B8k:A7i G30 (B9f) Try.f90 A9e B4A B6e:=by
 rintro ⟨⟨_,x1,_⟩,⟨h0,_⟩⟩ hp
 change A7x x1 h0=true at hp
 unfold A7x at hp
 refine Eq.trans (b:=(let z1:=foldN K5 (h0.length - (0:Int).toNat) (0:Int).toNat (x1,h0);cond (decide (0≤(0:Int))&&(decide (0≤x1∧x1≤100000*((0:Int)+100))&&okL h0)) (some (B6b ((z1.1),(z1.2)))) none)) (by kernel_rfl) ?_
 exact (A7m (by first | rfl | decide | exact hp | (simp only [Bool.and_eq_true] at hp;simp only [hp];done) | (simp [*];done) | (simp [okL] at hp;simp [okL,MAXB];omega) | (simp_all;done) | (simp at *;omega)) (fun _h=>rfl))
noncomputable abbrev B6g:=win E7 (msum A9e B4A B6e)
theorem B9w:aPM 90 B6g:=(mcM G30 (hl1 (i:=0) (by kernel_rfl) B7d) B8k).win E7
noncomputable def S31:Tab:=Tab.add S30 90 (orLend B6g)
noncomputable def C1A:FuncId→Bool:=C1z
theorem G31:aPG S31 C1A:=G30.addM B9w.orLend (A6K (A6W _)) (cbl Try.f90) (by kernel_rfl)


end Go.Proofs.Ytcofibhklbfgoaa.Eng
