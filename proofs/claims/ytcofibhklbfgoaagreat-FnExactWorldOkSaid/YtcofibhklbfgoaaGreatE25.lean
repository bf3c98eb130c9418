/- The engine, part 25: functions' summaries on pure data; tables that grow. -/
import Derived.Test.YtcofibhklbfgoaaGreatE24
namespace Go.Proofs.YtcofibhklbfgoaaGreat.Eng
open Go Go.RowKit
set_option linter.unusedSimpArgs false
set_option linter.unusedVariables false

inductive PSh where
 | t (ty:Ty)
 | agg (l:List Ty)
 | fn (f:FuncId)
@[reducible] def A3d:List Ty→Type
 | []=>Unit
 | s::r=>s.den×A3d r
@[reducible] def PSh.den:PSh→Type
 | .t ty=>ty.den
 | .agg l=>A3d l
 | .fn _=>Unit
def A2A:(l:List Ty)→A3d l→List AV
 | [],_=>[]
 | s::r,x=>.t s.flat s x.1::A2A r x.2
def PSh.mk:(s:PSh)→s.den→AV
 | .t ty,x=>.t ty.flat ty x
 | .agg l,x=>.agg (A2A l x)
 | .fn f,_=>.fn f []
def A3F:(ty:Ty)→Option ty.den
 | .sl e=>some []
 | _=>none
def A3u (ty:Ty):AV→Option ty.den
 | .t _ ty' x=>if h:ty'=ty then some (h ▸ x) else none
 | .raw (.slice none 0 0)=>A3F ty
 | _=>none
def A3N:(l:List Ty)→List AV→Option (A3d l)
 | [],[]=>some ()
 | s::r,a::as=>(A3u s a).bind fun x=>(A3N r as).map fun y=>(x,y)
 | _,_=>none
def PSh.rd:(s:PSh)→AV→Option s.den
 | .t ty,a=>A3u ty a
 | .agg l,.agg as=>A3N l as
 | .fn f,.fn g []=>cond (f==g) (some ()) none
 | _,_=>none
@[reducible] def F5:List PSh→Type
 | []=>Unit
 | s::r=>s.den×F5 r
def A03:(l:List PSh)→F5 l→List AV
 | [],_=>[]
 | s::r,x=>s.mk x.1::A03 r x.2
def A2l:(l:List PSh)→List AV→Option (F5 l)
 | [],[]=>some ()
 | s::r,a::as=>(s.rd a).bind fun x=>(A2l r as).map fun y=>(x,y)
 | _,_=>none
def A2z (l:List PSh) (pre:F5 l→Bool) (f:F5 l→AV×List AObj):PSumm:=fun args=>(A2l l args).map fun d=>((f d).1,(f d).2,pre d)

section
variable {P:Program} {N:Nat→Prop} {w0:World} {η:Env} {w:World} {st:St} {a:Act} {tt:TT} {S:Tab} {QF:FuncId→Bool}

theorem A4y {ty:Ty} {a:AV} {x:ty.den} {v:Value} (h:A3u ty a=some x) (r:AVR (F3 w) 0 w a v):AVR (F3 w) 0 w (.t ty.flat ty x) v:=by
  cases r with
  | @t fr' ty' y _ h1 hl =>
    simp only [A3u] at h
    split at h
    · rename_i e
      subst e
      simp only [Option.some.injEq] at h
      subst h
      refine .t h1 ?_
      cases hf:ty'.flat with
      | true=>exact Lay.of_flat _ _ _ hf hl
      | false => exact Lay.mono (fun b hb => by cases fr' with
          | true=>exact absurd hb.1 (by simp)
          | false=>exact hb) (fun _ _=>rfl) _ _ _ hl
    · cases h
  | raw =>
    cases v with
    | slice A n c =>
      cases A with
      | none=>cases n with
        | zero=>cases c with
          | zero =>
            simp only [A3u] at h
            cases ty with
            | sl e =>
              simp only [A3F,Option.some.injEq] at h
              subst h
              exact .t rfl ⟨none,0,rfl,Nat.le_refl _,.inl rfl⟩
            | _=>simp [A3F] at h
          | succ=>simp [A3u] at h
        | succ=>simp [A3u] at h
      | some=>simp [A3u] at h
    | _=>simp [A3u] at h
  | _=>simp [A3u] at h

theorem A5v:∀ (l:List Ty) (as:List AV) (x:A3d l),A3N l as=some x→(A2A l x).length=as.length ∧
  ∀ (f:Nat→Value),(∀ i c,as[i]? = some c→AVR (F3 w) 0 w c (f i))→∀ i c,(A2A l x)[i]? = some c→AVR (F3 w) 0 w c (f i):=by
 intro l
 induction l with
 | nil=>intro as x h;cases as with
  | nil=>exact ⟨rfl,fun f _ i c hc=>by simp [A2A] at hc⟩
  | cons a as=>simp [A3N] at h
 | cons s r ih=>intro as x h;cases as with
  | nil=>simp [A3N] at h
  | cons a as =>
   simp only [A3N] at h
   obtain ⟨y,h1,h2⟩:=Option.bind_eq_some_iff.1 h
   obtain ⟨z,h3,rfl⟩:=Option.map_eq_some_iff.1 h2
   obtain ⟨q1,q2⟩:=ih as z h3
   refine ⟨by simp [A2A,q1],fun f hf i c hc=>?_⟩
   cases i with
   | zero =>
    obtain rfl:AV.t s.flat s y=c:=by simpa [A2A] using hc
    exact A4y h1 (hf 0 a rfl)
   | succ i=>exact q2 (fun i=>f (i+1)) (fun i d hd=>hf (i+1) d (by simpa using hd)) i c (by simpa [A2A] using hc)

theorem PSh.rd_rel {s:PSh} {a:AV} {x:s.den} {v:Value} (h:s.rd a=some x) (r:AVR (F3 w) 0 w a v):AVR (F3 w) 0 w (s.mk x) v:=by
 cases s with
 | t ty=>exact A4y h r
 | agg l =>
  cases r with
  | @agg as vs hsz hc =>
   simp only [PSh.rd] at h
   obtain ⟨q1,q2⟩:=A5v l as x h
   exact .agg (by rw [hsz,q1]) (q2 (fun i=>vs.getD i undef) hc)
  | _=>simp [PSh.rd] at h
 | fn f =>
  cases a with
  | fn g cs =>
   cases cs with
   | nil =>
    simp only [PSh.rd] at h
    cases hb:(f==g) with
    | true=>obtain rfl:=eq_of_beq hb;exact r
    | false=>rw [hb] at h;cases h
   | cons=>simp [PSh.rd] at h
  | _=>simp [PSh.rd] at h

theorem A2M:∀ (l:List PSh) (as:List AV) (x:F5 l),A2l l as=some x→(A03 l x).length=as.length ∧
  ∀ (f:Nat→Value),(∀ i c,as[i]? = some c→AVR (F3 w) 0 w c (f i))→∀ i c,(A03 l x)[i]? = some c→AVR (F3 w) 0 w c (f i):=by
 intro l
 induction l with
 | nil=>intro as x h;cases as with
  | nil=>exact ⟨rfl,fun f _ i c hc=>by simp [A03] at hc⟩
  | cons a as=>simp [A2l] at h
 | cons s r ih=>intro as x h;cases as with
  | nil=>simp [A2l] at h
  | cons a as =>
   simp only [A2l] at h
   obtain ⟨y,h1,h2⟩:=Option.bind_eq_some_iff.1 h
   obtain ⟨z,h3,rfl⟩:=Option.map_eq_some_iff.1 h2
   obtain ⟨q1,q2⟩:=ih as z h3
   refine ⟨by simp [A03,q1],fun f hf i c hc=>?_⟩
   cases i with
   | zero =>
    obtain rfl:s.mk y=c:=by simpa [A03] using hc
    exact PSh.rd_rel h1 (hf 0 a rfl)
   | succ i=>exact q2 (fun i=>f (i+1)) (fun i d hd=>hf (i+1) d (by simpa using hd)) i c (by simpa [A03] using hc)

theorem PContract.of_data (ro:Bool) (G:Good P tt S QF) {f:FuncId} {fn:Func} (hf:P.funcs[f]? = some fn) {L:Nat→St→Option Tree} (hL:∀ p∈C4 0 (A0y fn),F1 P (L p.1) p.2)
  (l:List PSh) (pre:F5 l→Bool) (g:F5 l→AV×List AObj) (h:∀ d,pre d=true→A5V ro P tt S QF L fn (A03 l d)=some (g d)):PContract P f (A2z l pre g):=by
 intro args r Hn hs h1 h2 w vs hl hr
 obtain ⟨d,hd,hgd⟩:=Option.map_eq_some_iff.1 hs
 simp only [Prod.mk.injEq] at hgd
 obtain ⟨hr1,hr2,hp⟩:=hgd
 have base:PContract P f (fun args'=>open Classical in if args'=A03 l d then some ((g d).1,(g d).2,true) else none):=PContract.of_run ro G hf hL (fun args' r' Hn' h'=>by
  split at h'
  ·rename_i e
   simp only [Option.some.injEq,Prod.mk.injEq] at h'
   obtain ⟨rfl,rfl,_⟩:=h'
   rw [e];exact h d hp
  ·cases h')
 obtain ⟨q1,q2⟩:=A2M (w:=w) l args d hd
 exact base (A03 l d) r Hn (by simp [hr1,hr2]) h1 h2 w vs (by rw [hl,q1]) (q2 (fun i=>vs.getD i undef) hr)

def Tab.add (S:Tab) (f:FuncId) (s:Summ):Tab:=fun g=>cond (g==f) (some s) (S g)
def qadd (QF:FuncId→Bool) (f:FuncId):FuncId→Bool:=fun g=>cond (g==f) true (QF g)

theorem TabOk.add (h:TabOk P S) {f:FuncId} {s:Summ} (hm:MContract P f s) (hc:Callable P f):TabOk P (Tab.add S f s):=by
 intro g s' hg
 simp only [Tab.add] at hg
 cases hb:(g==f) with
 | true =>
  rw [hb] at hg
  simp only [cond_true,Option.some.injEq] at hg
  subst hg
  obtain rfl:=eq_of_beq hb
  exact ⟨hm,hc⟩
 | false=>rw [hb] at hg;exact h g s' hg

theorem LocalTab.add (h:LocalTab S) {f:FuncId} {s:Summ} (hs:A1g s):LocalTab (Tab.add S f s):=by
 intro g s' hg
 simp only [Tab.add] at hg
 cases hb:(g==f) with
 | true =>
  rw [hb] at hg
  simp only [cond_true,Option.some.injEq] at hg
  subst hg;exact hs
 | false=>rw [hb] at hg;exact h g s' hg

theorem Good.add (G:Good P tt S QF) {f:FuncId} {l:List PSh} {pre:F5 l→Bool} {g:F5 l→AV×List AObj} (hm:PContract P f (A2z l pre g)) (hc:Callable P f) (hq:QF f=false):Good P tt (Tab.add S f (lift (A2z l pre g))) QF:=by
 refine ⟨G.types,G.tab.add hm.lift hc,fun k s hk hs=>?_,G.loc.add (A20 _),G.mixed⟩
 simp only [Tab.add] at hs
 cases hb:(k==f) with
 | true=>obtain rfl:=eq_of_beq hb;rw [hq] at hk;cases hk
 | false=>rw [hb] at hs;exact G.quiet k s hk hs

theorem Good.addQ (G:Good P tt S QF) {f:FuncId} {l:List PSh} {pre:F5 l→Bool} {g:F5 l→AV×List AObj} (hm:PContract P f (A2z l pre g)) (hc:Callable P f) (hq:∀ d,(g d).2=[]):Good P tt (Tab.add S f (lift (A2z l pre g))) (qadd QF f):=by
 refine ⟨G.types,G.tab.add hm.lift hc,fun k s hk hs=>?_,G.loc.add (A20 _),G.mixed⟩
 simp only [Tab.add] at hs
 cases hb:(k==f) with
 | true =>
  rw [hb] at hs
  simp only [cond_true,Option.some.injEq] at hs
  subst hs
  intro args H r H' ks b h
  simp only [Eng.lift,A2z] at h
  split at h
  ·rename_i r0 Hn b0 hs
   obtain ⟨d,_,hd⟩:=Option.map_eq_some_iff.1 hs
   have hqd:=hq d
   simp only [Prod.mk.injEq] at hd
   rw [hd.2.1] at hqd
   subst hqd
   split at h
   ·simp only [Option.some.injEq,Prod.mk.injEq] at h
    obtain ⟨_,h2,h3,_⟩:=h
    exact ⟨by rw [← h2,List.append_nil],h3.symm⟩
   ·cases h
  ·cases h
 | false =>
  rw [hb] at hs
  simp only [qadd,hb,cond_false] at hk
  exact G.quiet k s hk hs

theorem Good.start (hT:TTok P tt) (hm:P.follows .mixedOrders=true):Good P tt (fun _=>none) (fun _=>false) :=
 ⟨hT,(fun f s h=>by cases h),(fun g s h=>by cases h),(fun f s h=>by cases h),hm⟩
end
end Go.Proofs.YtcofibhklbfgoaaGreat.Eng
