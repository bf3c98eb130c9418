/- The engine, part 30: contracts of functions that turn what they are handed, on pure data. -/
import Derived.Test.YtccelbeahdcooaaE29
namespace Go.Proofs.Ytccelbeahdcooaa.Eng
open Go Go.RowKit
set_option linter.unusedSimpArgs false
set_option linter.unusedVariables false

def tRdC (fr:Bool) (ty:Ty):AV→Option ty.den
 | .t fr' ty' x=>if h:ty'=ty then (cond (!fr||fr'||ty.flat) (some (h ▸ x)) none) else none
 | .raw (.slice none 0 0)=>nilRd ty
 | _=>none
def Sh1.rdC (h:Nat):(s:Sh1)→AV→Option s.den
 | .t fr ty,a=>tRdC fr ty a
 | .nil,a=>Sh1.rd h .nil a
 | .all id sz,a=>Sh1.rd h (.all id sz) a
def aggRdC (h:Nat):(l:List Sh1)→List AV→Option (aggDen l)
 | [],[]=>some ()
 | s::r,a::as=>(s.rdC h a).bind fun x=>(aggRdC h r as).map fun y=>(x,y)
 | _,_=>none
def Sh.rdC (h:Nat):(s:Sh)→AV→Option s.den
 | .t fr ty,a=>tRdC fr ty a
 | .agg l,.agg as=>aggRdC h l as
 | .junk,_=>none
 | .nil,a=>Sh.rd h .nil a
 | .all id sz,a=>Sh.rd h (.all id sz) a
 | .arr id sz,a=>Sh.rd h (.arr id sz) a
 | .pre id sz,a=>Sh.rd h (.pre id sz) a
 | .ptr id row sz sub,a=>Sh.rd h (.ptr id row sz sub) a
 | .fn f ids,a=>Sh.rd h (.fn f ids) a
 | .rop l,a=>Sh.rd h (.rop l) a
 | .fnr f ls,a=>Sh.rd h (.fnr f ls) a
 | _,_=>none
def shsRdC (h:Nat):(l:List Sh)→List AV→Option (shsDen l)
 | [],[]=>some ()
 | s::r,a::as=>(s.rdC h a).bind fun x=>(shsRdC h r as).map fun y=>(x,y)
 | _,_=>none

section
variable {P:Program} {N:Nat→Prop} {w0:World} {η:Env} {w:World} {tt:TT} {S:Tab} {QF:FuncId→Bool} {H:List AObj}

theorem tRdC_rel (I:Inv N w0 η H w) {h:Nat} {fr:Bool} {ty:Ty} {a:AV} {x:ty.den} {v:Value} (e:tRdC fr ty a=some x) (r:AVR η h w a v):AVR η h w (.t fr ty x) v:=by
 cases r with
 | @t fr' ty' y _ h1 hl =>
  simp only [tRdC] at e
  split at e
  ·rename_i hh
   subst hh
   cases hc:(!fr||fr'||ty'.flat) with
   | false=>rw [hc] at e;cases e
   | true =>
    rw [hc] at e
    simp only [cond_true,Option.some.injEq] at e
    subst e
    refine .t h1 ?_
    cases hf:ty'.flat with
    | true=>exact Lay.of_flat _ _ _ hf hl
    | false =>
     rw [hf,Bool.or_false] at hc
     refine Lay.mono (fun b hb=>?_) (fun _ _=>rfl) _ _ _ hl
     cases fr' with
     | true=>cases fr with
      | true=>exact hb
      | false=>exact I.zsub b hb
     | false=>cases fr with
      | true=>simp at hc
      | false=>exact hb
  ·cases e
 | raw =>
  cases v with
  | slice A n c =>
   cases A with
   | none=>cases n with
    | zero=>cases c with
     | zero =>
      simp only [tRdC] at e
      cases ty with
      | sl e' =>
       simp only [nilRd,Option.some.injEq] at e
       subst e
       exact .t rfl ⟨none,0,rfl,Nat.le_refl _,.inl rfl⟩
      | _=>simp [nilRd] at e
     | succ=>simp [tRdC] at e
    | succ=>simp [tRdC] at e
   | some=>simp [tRdC] at e
  | _=>simp [tRdC] at e
 | _=>simp [tRdC] at e

theorem Sh1.rdC_rel (I:Inv N w0 η H w) {h k:Nat} {s:Sh1} {a:AV} {x:s.den} {v:Value} (e:s.rdC k a=some x) (r:AVR η h w a v):AVR η h w (s.mk x) v:=by
 cases s with
 | t fr ty=>exact tRdC_rel I e r
 | _ =>
  have:=(Sh1.rd_spec (h:=k) (by simpa only [Sh1.rdC] using e)).1
  rw [← this];exact r

theorem aggRdC_rel (I:Inv N w0 η H w) {h k:Nat}:∀ (l:List Sh1) (as:List AV) (x:aggDen l),aggRdC k l as=some x→(aggMk l x).length=as.length ∧
  ∀ (f:Nat→Value),(∀ i c,as[i]? = some c→AVR η h w c (f i))→∀ i c,(aggMk l x)[i]? = some c→AVR η h w c (f i):=by
 intro l
 induction l with
 | nil=>intro as x e;cases as with
  | nil=>exact ⟨rfl,fun f _ i c hc=>by simp [aggMk] at hc⟩
  | cons a as=>simp [aggRdC] at e
 | cons s r ih=>intro as x e;cases as with
  | nil=>simp [aggRdC] at e
  | cons a as =>
   simp only [aggRdC] at e
   obtain ⟨y,h1,h2⟩:=Option.bind_eq_some_iff.1 e
   obtain ⟨z,h3,rfl⟩:=Option.map_eq_some_iff.1 h2
   obtain ⟨q1,q2⟩:=ih as z h3
   refine ⟨by simp [aggMk,q1],fun f hf i c hc=>?_⟩
   cases i with
   | zero =>
    obtain rfl:s.mk y=c:=by simpa [aggMk] using hc
    exact Sh1.rdC_rel I h1 (hf 0 a rfl)
   | succ i=>exact q2 (fun i=>f (i+1)) (fun i d hd=>hf (i+1) d (by simpa using hd)) i c (by simpa [aggMk] using hc)

theorem Sh.rdC_rel (I:Inv N w0 η H w) {h:Nat} {k:Nat} {s:Sh} {a:AV} {x:s.den} {v:Value} (e:s.rdC k a=some x) (r:AVR η h w a v):AVR η h w (s.mk x) v:=by
 cases s with
 | t fr ty=>exact tRdC_rel I e r
 | agg l =>
  cases r with
  | @agg as vs hsz hc =>
   simp only [Sh.rdC] at e
   obtain ⟨q1,q2⟩:=aggRdC_rel I (h:=h) (k:=k) l as x e
   exact .agg (by rw [hsz];exact q1.symm) (q2 (fun i=>vs.getD i undef) hc)
  | _=>simp [Sh.rdC] at e
 | junk=>simp [Sh.rdC] at e
 | _ =>
  have:=(Sh.rd_spec (h:=k) (by simpa only [Sh.rdC] using e) rfl).1
  rw [← this];exact r

theorem shsRdC_rel (I:Inv N w0 η H w) {h k:Nat}:∀ (l:List Sh) (as:List AV) (x:shsDen l),shsRdC k l as=some x→(shsMk l x).length=as.length ∧
  ∀ (f:Nat→Value),(∀ i c,as[i]? = some c→AVR η h w c (f i))→∀ i c,(shsMk l x)[i]? = some c→AVR η h w c (f i):=by
 intro l
 induction l with
 | nil=>intro as x e;cases as with
  | nil=>exact ⟨rfl,fun f _ i c hc=>by simp [shsMk] at hc⟩
  | cons a as=>simp [shsRdC] at e
 | cons s r ih=>intro as x e;cases as with
  | nil=>simp [shsRdC] at e
  | cons a as =>
   simp only [shsRdC] at e
   obtain ⟨y,h1,h2⟩:=Option.bind_eq_some_iff.1 e
   obtain ⟨z,h3,rfl⟩:=Option.map_eq_some_iff.1 h2
   obtain ⟨q1,q2⟩:=ih as z h3
   refine ⟨by simp [shsMk,q1],fun f hf i c hc=>?_⟩
   cases i with
   | zero =>
    obtain rfl:s.mk y=c:=by simpa [shsMk] using hc
    exact Sh.rdC_rel I h1 (hf 0 a rfl)
   | succ i=>exact q2 (fun i=>f (i+1)) (fun i d hd=>hf (i+1) d (by simpa using hd)) i c (by simpa [shsMk] using hc)

def msum (s:SS) (pre:s.den→Bool) (g:s.den→AV×List AObj×List Nat):Summ:=fun args H =>
 match shsRdC H.length s.sl args,ohsRd H.length s.hp H with
 | some x,some y=>some ((g (x,y)).1,(g (x,y)).2.1,(g (x,y)).2.2,pre (x,y))
 | _,_=>none

theorem MContract.of_data (G:Good P tt S QF) {f:FuncId} {fn:Func} (hf:P.funcs[f]? = some fn) {L:Nat→St→Option Tree} (hL:∀ p∈loopsIn 0 (bodyOf fn),LoopWp P (L p.1) p.2)
  (s:SS) (pre:s.den→Bool) (g:s.den→AV×List AObj×List Nat) (h:∀ d,pre d=true→runM P tt S QF L fn (shsMk s.sl d.1) (ohsMk s.hp d.2)=some (g d)):MContract P f (msum s pre g):=by
 intro args H r H' Kf hsm N w0 η w vs I hl hr
 simp only [msum] at hsm
 split at hsm
 ·rename_i x y hx hy
  simp only [Option.some.injEq,Prod.mk.injEq] at hsm
  obtain ⟨h1,h2,h3,hp⟩:=hsm
  obtain rfl:=ohsRd_eq _ _ _ hy
  obtain ⟨q1,q2⟩:=shsRdC_rel I (h:=(ohsMk s.hp y).length) s.sl args x hx
  have hrun:=h (x,y) hp
  have e:g (x,y)=(r,H', Kf):=by rw [← h1,← h2,← h3]
  rw [e] at hrun
  exact runM_sound G hf hL hrun I (by rw [hl];exact q1.symm) (q2 (fun i=>vs.getD i undef) hr)
 ·cases hsm

def orElseS (a b:Summ):Summ:=fun args H=>match a args H with
 | some r=>some r
 | none=>b args H
theorem MContract.orElse {f:FuncId} {a b:Summ} (ha:MContract P f a) (hb:MContract P f b):MContract P f (orElseS a b):=by
 intro args H r H' Kf hsm
 simp only [orElseS] at hsm
 split at hsm
 ·rename_i r0 h0
  simp only [Option.some.injEq] at hsm
  subst hsm
  exact ha args H r H' Kf h0
 ·exact hb args H r H' Kf hsm

theorem orElse_local {a b:Summ} (ha:LocalS a) (hb:LocalS b):LocalS (orElseS a b):=by
 intro args H r H' ks c h
 simp only [orElseS] at h
 split at h
 ·rename_i r0 h0
  simp only [Option.some.injEq] at h
  subst h
  exact ha args H r H' ks c h0
 ·exact hb args H r H' ks c h
theorem Good.addM (G:Good P tt S QF) {f:FuncId} {s:Summ} (hm:MContract P f s) (hl:LocalS s) (hc:Callable P f) (hq:QF f=false):Good P tt (Tab.add S f s) QF:=by
 refine ⟨G.types,G.tab.add hm hc,fun k s' hk hs=>?_,G.loc.add hl,G.mixed⟩
 simp only [Tab.add] at hs
 cases hb:(k==f) with
 | true=>obtain rfl:=eq_of_beq hb;rw [hq] at hk;cases hk
 | false=>rw [hb] at hs;exact G.quiet k s' hk hs
end
end Go.Proofs.Ytccelbeahdcooaa.Eng
