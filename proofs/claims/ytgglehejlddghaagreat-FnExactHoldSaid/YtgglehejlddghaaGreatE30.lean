/- The engine, part 30: contracts of functions that turn what they are handed, on pure data. -/
import Derived.Test.YtgglehejlddghaaGreatE29
namespace Go.Proofs.YtgglehejlddghaaGreat.Eng
open Go Go.RowKit
set_option linter.unusedSimpArgs false
set_option linter.unusedVariables false

def A4a (fr:Bool) (ty:Ty):AV→Option ty.den
 | .t fr' ty' x=>if h:ty'=ty then (cond (!fr||fr'||ty.flat) (some (h ▸ x)) none) else none
 | .raw (.slice none 0 0)=>A4n ty
 | _=>none
def Sh1.rdC (h:Nat):(s:Sh1)→AV→Option s.den
 | .t fr ty,a=>A4a fr ty a
 | .nil,a=>Sh1.rd h .nil a
 | .all id sz,a=>Sh1.rd h (.all id sz) a
def A2U (h:Nat):(l:List Sh1)→List AV→Option (A2p l)
 | [],[]=>some ()
 | s::r,a::as=>(s.rdC h a).bind fun x=>(A2U h r as).map fun y=>(x,y)
 | _,_=>none
def Sh.rdC (h:Nat):(s:Sh)→AV→Option s.den
 | .t fr ty,a=>A4a fr ty a
 | .agg l,.agg as=>A2U h l as
 | .junk,_=>none
 | .nil,a=>Sh.rd h .nil a
 | .all id sz,a=>Sh.rd h (.all id sz) a
 | .arr id sz,a=>Sh.rd h (.arr id sz) a
 | .pre id sz,a=>Sh.rd h (.pre id sz) a
 | .ptr id row sz sub,a=>Sh.rd h (.ptr id row sz sub) a
 | .fn f ids,a=>Sh.rd h (.fn f ids) a
 | .rop l,a=>Sh.rd h (.rop l) a
 | .fnr f ls,a=>Sh.rd h (.fnr f ls) a
 | _,_=>none
def A21 (h:Nat):(l:List Sh)→List AV→Option (A1u l)
 | [],[]=>some ()
 | s::r,a::as=>(s.rdC h a).bind fun x=>(A21 h r as).map fun y=>(x,y)
 | _,_=>none

section
variable {P:Program} {N:Nat→Prop} {w0:World} {η:Env} {w:World} {tt:TT} {S:Tab} {QF:FuncId→Bool} {H:List AObj}

theorem A5x (I:Inv N w0 η H w) {h:Nat} {fr:Bool} {ty:Ty} {a:AV} {x:ty.den} {v:Value} (e:A4a fr ty a=some x) (r:AVR η h w a v):AVR η h w (.t fr ty x) v:=by
 cases r with
 | @t fr' ty' y _ h1 hl =>
  simp only [A4a] at e
  split at e
  ·rename_i hh
   subst hh
   cases hc:(!fr||fr'||ty'.flat) with
   | false=>rw [hc] at e;cases e
   | true =>
    rw [hc] at e
    simp only [cond_true,Option.some.injEq] at e
    subst e
    refine .t h1 ?_
    cases hf:ty'.flat with
    | true=>exact Lay.of_flat _ _ _ hf hl
    | false =>
     rw [hf,Bool.or_false] at hc
     refine Lay.mono (fun b hb=>?_) (fun _ _=>rfl) _ _ _ hl
     cases fr' with
     | true=>cases fr with
      | true=>exact hb
      | false=>exact I.zsub b hb
     | false=>cases fr with
      | true=>simp at hc
      | false=>exact hb
  ·cases e
 | raw =>
  cases v with
  | slice A n c =>
   cases A with
   | none=>cases n with
    | zero=>cases c with
     | zero =>
      simp only [A4a] at e
      cases ty with
      | sl e' =>
       simp only [A4n,Option.some.injEq] at e
       subst e
       exact .t rfl ⟨none,0,rfl,Nat.le_refl _,.inl rfl⟩
      | _=>simp [A4n] at e
     | succ=>simp [A4a] at e
    | succ=>simp [A4a] at e
   | some=>simp [A4a] at e
  | _=>simp [A4a] at e
 | _=>simp [A4a] at e

theorem Sh1.rdC_rel (I:Inv N w0 η H w) {h k:Nat} {s:Sh1} {a:AV} {x:s.den} {v:Value} (e:s.rdC k a=some x) (r:AVR η h w a v):AVR η h w (s.mk x) v:=by
 cases s with
 | t fr ty=>exact A5x I e r
 | _ =>
  have:=(Sh1.rd_spec (h:=k) (by simpa only [Sh1.rdC] using e)).1
  rw [← this];exact r

theorem A5C (I:Inv N w0 η H w) {h k:Nat}:∀ (l:List Sh1) (as:List AV) (x:A2p l),A2U k l as=some x→(A1Y l x).length=as.length ∧
  ∀ (f:Nat→Value),(∀ i c,as[i]? = some c→AVR η h w c (f i))→∀ i c,(A1Y l x)[i]? = some c→AVR η h w c (f i):=by
 intro l
 induction l with
 | nil=>intro as x e;cases as with
  | nil=>exact ⟨rfl,fun f _ i c hc=>by simp [A1Y] at hc⟩
  | cons a as=>simp [A2U] at e
 | cons s r ih=>intro as x e;cases as with
  | nil=>simp [A2U] at e
  | cons a as =>
   simp only [A2U] at e
   obtain ⟨y,h1,h2⟩:=Option.bind_eq_some_iff.1 e
   obtain ⟨z,h3,rfl⟩:=Option.map_eq_some_iff.1 h2
   obtain ⟨q1,q2⟩:=ih as z h3
   refine ⟨by simp [A1Y,q1],fun f hf i c hc=>?_⟩
   cases i with
   | zero =>
    obtain rfl:s.mk y=c:=by simpa [A1Y] using hc
    exact Sh1.rdC_rel I h1 (hf 0 a rfl)
   | succ i=>exact q2 (fun i=>f (i+1)) (fun i d hd=>hf (i+1) d (by simpa using hd)) i c (by simpa [A1Y] using hc)

theorem Sh.rdC_rel (I:Inv N w0 η H w) {h:Nat} {k:Nat} {s:Sh} {a:AV} {x:s.den} {v:Value} (e:s.rdC k a=some x) (r:AVR η h w a v):AVR η h w (s.mk x) v:=by
 cases s with
 | t fr ty=>exact A5x I e r
 | agg l =>
  cases r with
  | @agg as vs hsz hc =>
   simp only [Sh.rdC] at e
   obtain ⟨q1,q2⟩:=A5C I (h:=h) (k:=k) l as x e
   exact .agg (by rw [hsz];exact q1.symm) (q2 (fun i=>vs.getD i undef) hc)
  | _=>simp [Sh.rdC] at e
 | junk=>simp [Sh.rdC] at e
 | _ =>
  have:=(Sh.rd_spec (h:=k) (by simpa only [Sh.rdC] using e) rfl).1
  rw [← this];exact r

theorem A3K (I:Inv N w0 η H w) {h k:Nat}:∀ (l:List Sh) (as:List AV) (x:A1u l),A21 k l as=some x→(A0W l x).length=as.length ∧
  ∀ (f:Nat→Value),(∀ i c,as[i]? = some c→AVR η h w c (f i))→∀ i c,(A0W l x)[i]? = some c→AVR η h w c (f i):=by
 intro l
 induction l with
 | nil=>intro as x e;cases as with
  | nil=>exact ⟨rfl,fun f _ i c hc=>by simp [A0W] at hc⟩
  | cons a as=>simp [A21] at e
 | cons s r ih=>intro as x e;cases as with
  | nil=>simp [A21] at e
  | cons a as =>
   simp only [A21] at e
   obtain ⟨y,h1,h2⟩:=Option.bind_eq_some_iff.1 e
   obtain ⟨z,h3,rfl⟩:=Option.map_eq_some_iff.1 h2
   obtain ⟨q1,q2⟩:=ih as z h3
   refine ⟨by simp [A0W,q1],fun f hf i c hc=>?_⟩
   cases i with
   | zero =>
    obtain rfl:s.mk y=c:=by simpa [A0W] using hc
    exact Sh.rdC_rel I h1 (hf 0 a rfl)
   | succ i=>exact q2 (fun i=>f (i+1)) (fun i d hd=>hf (i+1) d (by simpa using hd)) i c (by simpa [A0W] using hc)

def msum (s:SS) (pre:s.den→Bool) (g:s.den→AV×List AObj×List Nat):Summ:=fun args H =>
 match A21 H.length s.sl args,A3C H.length s.hp H with
 | some x,some y=>some ((g (x,y)).1,(g (x,y)).2.1,(g (x,y)).2.2,pre (x,y))
 | _,_=>none

theorem MContract.of_data (G:Good P tt S QF) {f:FuncId} {fn:Func} (hf:P.funcs[f]? = some fn) {L:Nat→St→Option Tree} (hL:∀ p∈D5 0 (A1o fn),A0A P (L p.1) p.2)
  (s:SS) (pre:s.den→Bool) (g:s.den→AV×List AObj×List Nat) (h:∀ d,pre d=true→A6X P tt S QF L fn (A0W s.sl d.1) (A15 s.hp d.2)=some (g d)):MContract P f (msum s pre g):=by
 intro args H r H' Kf hsm N w0 η w vs I hl hr
 simp only [msum] at hsm
 split at hsm
 ·rename_i x y hx hy
  simp only [Option.some.injEq,Prod.mk.injEq] at hsm
  obtain ⟨h1,h2,h3,hp⟩:=hsm
  obtain rfl:=A2J _ _ _ hy
  obtain ⟨q1,q2⟩:=A3K I (h:=(A15 s.hp y).length) s.sl args x hx
  have hrun:=h (x,y) hp
  have e:g (x,y)=(r,H', Kf):=by rw [← h1,← h2,← h3]
  rw [e] at hrun
  exact A3I G hf hL hrun I (by rw [hl];exact q1.symm) (q2 (fun i=>vs.getD i undef) hr)
 ·cases hsm

def A2g (a b:Summ):Summ:=fun args H=>match a args H with
 | some r=>some r
 | none=>b args H
theorem MContract.orElse {f:FuncId} {a b:Summ} (ha:MContract P f a) (hb:MContract P f b):MContract P f (A2g a b):=by
 intro args H r H' Kf hsm
 simp only [A2g] at hsm
 split at hsm
 ·rename_i r0 h0
  simp only [Option.some.injEq] at hsm
  subst hsm
  exact ha args H r H' Kf h0
 ·exact hb args H r H' Kf hsm

theorem A7f {a b:Summ} (ha:A0K a) (hb:A0K b):A0K (A2g a b):=by
 intro args H r H' ks c h
 simp only [A2g] at h
 split at h
 ·rename_i r0 h0
  simp only [Option.some.injEq] at h
  subst h
  exact ha args H r H' ks c h0
 ·exact hb args H r H' ks c h
theorem Good.addM (G:Good P tt S QF) {f:FuncId} {s:Summ} (hm:MContract P f s) (hl:A0K s) (hc:Callable P f) (hq:QF f=false):Good P tt (Tab.add S f s) QF:=by
 refine ⟨G.types,G.tab.add hm hc,fun k s' hk hs=>?_,G.loc.add hl,G.mixed⟩
 simp only [Tab.add] at hs
 cases hb:(k==f) with
 | true=>obtain rfl:=eq_of_beq hb;rw [hq] at hk;cases hk
 | false=>rw [hb] at hs;exact G.quiet k s' hk hs
end
end Go.Proofs.YtgglehejlddghaaGreat.Eng
