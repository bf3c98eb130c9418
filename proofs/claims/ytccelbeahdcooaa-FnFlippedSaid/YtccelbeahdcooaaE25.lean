/- The engine, part 25: functions' summaries on pure data; tables that grow. -/
import Derived.Test.YtccelbeahdcooaaE24
namespace Go.Proofs.Ytccelbeahdcooaa.Eng
open Go Go.RowKit
set_option linter.unusedSimpArgs false
set_option linter.unusedVariables false

inductive PSh where
 | t (ty:Ty)
 | agg (l:List Ty)
 | fn (f:FuncId)
 | rp (l:List Ty)
 | cl (f:FuncId) (ls:List (List Ty))
@[reducible] def PSh.den:PSh→Type
 | .t ty=>ty.den
 | .agg l=>tysDen l
 | .fn _=>Unit
 | .rp l=>tysDen l
 | .cl _ ls=>capsDen ls
def tysMk:(l:List Ty)→tysDen l→List AV
 | [],_=>[]
 | s::r,x=>.t s.flat s x.1::tysMk r x.2
def PSh.mk:(s:PSh)→s.den→AV
 | .t ty,x=>.t ty.flat ty x
 | .agg l,x=>.agg (tysMk l x)
 | .fn f,_=>.fn f []
 | .rp l,x=>ropMk l x
 | .cl f ls,x=>.fn f (capsMk ls x)
def nilRd:(ty:Ty)→Option ty.den
 | .sl e=>some []
 | _=>none
def tRdA (ty:Ty):AV→Option ty.den
 | .t _ ty' x=>if h:ty'=ty then some (h ▸ x) else none
 | .raw (.slice none 0 0)=>nilRd ty
 | _=>none
def tysRd:(l:List Ty)→List AV→Option (tysDen l)
 | [],[]=>some ()
 | s::r,a::as=>(tRdA s a).bind fun x=>(tysRd r as).map fun y=>(x,y)
 | _,_=>none
def PSh.rd:(s:PSh)→AV→Option s.den
 | .t ty,a=>tRdA ty a
 | .agg l,.agg as=>tysRd l as
 | .fn f,.fn g []=>cond (f==g) (some ()) none
 | .rp l,a=>ropRd l a
 | .cl f ls,.fn g as=>cond (f==g) (capsRd ls as) none
 | _,_=>none
@[reducible] def pshsDen:List PSh→Type
 | []=>Unit
 | s::r=>s.den×pshsDen r
def argsMk:(l:List PSh)→pshsDen l→List AV
 | [],_=>[]
 | s::r,x=>s.mk x.1::argsMk r x.2
def argsRd:(l:List PSh)→List AV→Option (pshsDen l)
 | [],[]=>some ()
 | s::r,a::as=>(s.rd a).bind fun x=>(argsRd r as).map fun y=>(x,y)
 | _,_=>none
def sumOf (l:List PSh) (pre:pshsDen l→Bool) (f:pshsDen l→AV×List AObj):PSumm:=fun args=>(argsRd l args).map fun d=>((f d).1,(f d).2,pre d)

section
variable {P:Program} {N:Nat→Prop} {w0:World} {η:Env} {w:World} {st:St} {a:Act} {tt:TT} {S:Tab} {QF:FuncId→Bool}

theorem tRdA_rel {ty:Ty} {a:AV} {x:ty.den} {v:Value} (h:tRdA ty a=some x) (r:AVR (envOf w) 0 w a v):AVR (envOf w) 0 w (.t ty.flat ty x) v:=by
  cases r with
  | @t fr' ty' y _ h1 hl =>
    simp only [tRdA] at h
    split at h
    · rename_i e
      subst e
      simp only [Option.some.injEq] at h
      subst h
      refine .t h1 ?_
      cases hf:ty'.flat with
      | true=>exact Lay.of_flat _ _ _ hf hl
      | false => exact Lay.mono (fun b hb => by cases fr' with
          | true=>exact absurd hb.1 (by simp)
          | false=>exact hb) (fun _ _=>rfl) _ _ _ hl
    · cases h
  | raw =>
    cases v with
    | slice A n c =>
      cases A with
      | none=>cases n with
        | zero=>cases c with
          | zero =>
            simp only [tRdA] at h
            cases ty with
            | sl e =>
              simp only [nilRd,Option.some.injEq] at h
              subst h
              exact .t rfl ⟨none,0,rfl,Nat.le_refl _,.inl rfl⟩
            | _=>simp [nilRd] at h
          | succ=>simp [tRdA] at h
        | succ=>simp [tRdA] at h
      | some=>simp [tRdA] at h
    | _=>simp [tRdA] at h
  | _=>simp [tRdA] at h

theorem tysRd_rel:∀ (l:List Ty) (as:List AV) (x:tysDen l),tysRd l as=some x→(tysMk l x).length=as.length ∧
  ∀ (f:Nat→Value),(∀ i c,as[i]? = some c→AVR (envOf w) 0 w c (f i))→∀ i c,(tysMk l x)[i]? = some c→AVR (envOf w) 0 w c (f i):=by
 intro l
 induction l with
 | nil=>intro as x h;cases as with
  | nil=>exact ⟨rfl,fun f _ i c hc=>by simp [tysMk] at hc⟩
  | cons a as=>simp [tysRd] at h
 | cons s r ih=>intro as x h;cases as with
  | nil=>simp [tysRd] at h
  | cons a as =>
   simp only [tysRd] at h
   obtain ⟨y,h1,h2⟩:=Option.bind_eq_some_iff.1 h
   obtain ⟨z,h3,rfl⟩:=Option.map_eq_some_iff.1 h2
   obtain ⟨q1,q2⟩:=ih as z h3
   refine ⟨by simp [tysMk,q1],fun f hf i c hc=>?_⟩
   cases i with
   | zero =>
    obtain rfl:AV.t s.flat s y=c:=by simpa [tysMk] using hc
    exact tRdA_rel h1 (hf 0 a rfl)
   | succ i=>exact q2 (fun i=>f (i+1)) (fun i d hd=>hf (i+1) d (by simpa using hd)) i c (by simpa [tysMk] using hc)

theorem PSh.rd_rel {s:PSh} {a:AV} {x:s.den} {v:Value} (h:s.rd a=some x) (r:AVR (envOf w) 0 w a v):AVR (envOf w) 0 w (s.mk x) v:=by
 cases s with
 | t ty=>exact tRdA_rel h r
 | rp l=>have:=ropRd_mk h;subst this;exact r
 | agg l =>
  cases r with
  | @agg as vs hsz hc =>
   simp only [PSh.rd] at h
   obtain ⟨q1,q2⟩:=tysRd_rel l as x h
   exact .agg (by rw [hsz,q1]) (q2 (fun i=>vs.getD i undef) hc)
  | _=>simp [PSh.rd] at h
 | cl f ls =>
  cases a with
  | fn g cs =>
   simp only [PSh.rd] at h
   cases hb:(f==g) with
   | true =>
    rw [hb] at h
    obtain rfl:=eq_of_beq hb
    have:=capsRd_mk ls cs x h
    subst this
    exact r
   | false=>rw [hb] at h;cases h
  | _=>simp [PSh.rd] at h
 | fn f =>
  cases a with
  | fn g cs =>
   cases cs with
   | nil =>
    simp only [PSh.rd] at h
    cases hb:(f==g) with
    | true=>obtain rfl:=eq_of_beq hb;exact r
    | false=>rw [hb] at h;cases h
   | cons=>simp [PSh.rd] at h
  | _=>simp [PSh.rd] at h

theorem argsRd_rel:∀ (l:List PSh) (as:List AV) (x:pshsDen l),argsRd l as=some x→(argsMk l x).length=as.length ∧
  ∀ (f:Nat→Value),(∀ i c,as[i]? = some c→AVR (envOf w) 0 w c (f i))→∀ i c,(argsMk l x)[i]? = some c→AVR (envOf w) 0 w c (f i):=by
 intro l
 induction l with
 | nil=>intro as x h;cases as with
  | nil=>exact ⟨rfl,fun f _ i c hc=>by simp [argsMk] at hc⟩
  | cons a as=>simp [argsRd] at h
 | cons s r ih=>intro as x h;cases as with
  | nil=>simp [argsRd] at h
  | cons a as =>
   simp only [argsRd] at h
   obtain ⟨y,h1,h2⟩:=Option.bind_eq_some_iff.1 h
   obtain ⟨z,h3,rfl⟩:=Option.map_eq_some_iff.1 h2
   obtain ⟨q1,q2⟩:=ih as z h3
   refine ⟨by simp [argsMk,q1],fun f hf i c hc=>?_⟩
   cases i with
   | zero =>
    obtain rfl:s.mk y=c:=by simpa [argsMk] using hc
    exact PSh.rd_rel h1 (hf 0 a rfl)
   | succ i=>exact q2 (fun i=>f (i+1)) (fun i d hd=>hf (i+1) d (by simpa using hd)) i c (by simpa [argsMk] using hc)

theorem PContract.of_data (ro:Bool) (G:Good P tt S QF) {f:FuncId} {fn:Func} (hf:P.funcs[f]? = some fn) {L:Nat→St→Option Tree} (hL:∀ p∈loopsIn 0 (bodyOf fn),LoopWp P (L p.1) p.2)
  (l:List PSh) (pre:pshsDen l→Bool) (g:pshsDen l→AV×List AObj) (h:∀ d,pre d=true→runP ro P tt S QF L fn (argsMk l d)=some (g d)):PContract P f (sumOf l pre g):=by
 intro args r Hn hs h1 h2 w vs hl hr
 obtain ⟨d,hd,hgd⟩:=Option.map_eq_some_iff.1 hs
 simp only [Prod.mk.injEq] at hgd
 obtain ⟨hr1,hr2,hp⟩:=hgd
 have base:PContract P f (fun args'=>open Classical in if args'=argsMk l d then some ((g d).1,(g d).2,true) else none):=PContract.of_run ro G hf hL (fun args' r' Hn' h'=>by
  split at h'
  ·rename_i e
   simp only [Option.some.injEq,Prod.mk.injEq] at h'
   obtain ⟨rfl,rfl,_⟩:=h'
   rw [e];exact h d hp
  ·cases h')
 obtain ⟨q1,q2⟩:=argsRd_rel (w:=w) l args d hd
 exact base (argsMk l d) r Hn (by simp [hr1,hr2]) h1 h2 w vs (by rw [hl,q1]) (q2 (fun i=>vs.getD i undef) hr)

def Tab.add (S:Tab) (f:FuncId) (s:Summ):Tab:=fun g=>cond (g==f) (some s) (S g)
def qadd (QF:FuncId→Bool) (f:FuncId):FuncId→Bool:=fun g=>cond (g==f) true (QF g)

theorem TabOk.add (h:TabOk P S) {f:FuncId} {s:Summ} (hm:MContract P f s) (hc:Callable P f):TabOk P (Tab.add S f s):=by
 intro g s' hg
 simp only [Tab.add] at hg
 cases hb:(g==f) with
 | true =>
  rw [hb] at hg
  simp only [cond_true,Option.some.injEq] at hg
  subst hg
  obtain rfl:=eq_of_beq hb
  exact ⟨hm,hc⟩
 | false=>rw [hb] at hg;exact h g s' hg

theorem LocalTab.add (h:LocalTab S) {f:FuncId} {s:Summ} (hs:LocalS s):LocalTab (Tab.add S f s):=by
 intro g s' hg
 simp only [Tab.add] at hg
 cases hb:(g==f) with
 | true =>
  rw [hb] at hg
  simp only [cond_true,Option.some.injEq] at hg
  subst hg;exact hs
 | false=>rw [hb] at hg;exact h g s' hg

def ropView (H:List AObj) (l:List Ty) (a:AV):AV :=
 if (l.all fun t=>t.cells==1)&&!l.isEmpty then
  match St.read ⟨[],H,0,[]⟩ l.length a with
  | some cs=>match tysRd l (cs.map (pure1 H)) with
   | some x=>ropMk l x
   | none=>.junk
  | none=>.junk
 else .junk
def capsView (H:List AObj):List (List Ty)→List AV→List AV
 | l::ls,a::as=>ropView H l a::capsView H ls as
 | _,as=>as.map fun _=>.junk
def viewP (H:List AObj):PSh→AV→AV
 | .rp l,a=>ropView H l a
 | .cl _ ls,.fn g as=>.fn g (capsView H ls as)
 | _,a=>view H a
def viewsP (H:List AObj):List PSh→List AV→List AV
 | s::l,a::as=>viewP H s a::viewsP H l as
 | _,as=>as.map (view H)
def liftH (l:List PSh) (pre:pshsDen l→Bool) (g:pshsDen l→AV×List AObj):Summ:=fun args H =>
 match sumOf l pre g (viewsP H l args) with
 | some (r,Hn,b)=>if freshAV r&&Hn.all AObj.fresh then some (r.shift H.length,H++Hn,[],b) else none
 | none=>none

theorem lay_tys:∀ (l:List Ty) (x:tysDen l) (c:Nat→Option Value),(l.all fun t=>t.cells==1)=true→l ≠ []→(∀ i a,(tysMk l x)[i]? = some a→∃ u,c i=some u∧AVR (envOf w) 0 w a u)→Lay ((envOf w).Z false) w (tyP l) (valP l x) c:=by
 have one:∀ (s:Ty) (x:s.den) (c:Nat→Option Value) (u:Value),s.cells=1→c 0=some u→AVR (envOf w) 0 w (.t s.flat s x) u→Lay ((envOf w).Z false) w s x c:=by
  intro s x c u hs hc r
  cases r with
  | t h1 hl =>
   refine Lay.congr _ _ _ _ (fun j hj=>?_) (Lay.mono (fun b (hb:(envOf w).Z s.flat b)=>(⟨rfl,hb.2⟩:(envOf w).Z false b)) (fun _ _=>rfl) _ _ _ hl)
   obtain rfl:j=0:=by omega
   simp [hc]
 intro l
 induction l with
 | nil=>intro x c _ h;exact absurd rfl h
 | cons s r ih =>
  intro x c h1 _ hc
  simp only [List.all_cons,Bool.and_eq_true,beq_iff_eq] at h1
  obtain ⟨u,hu,ru⟩:=hc 0 _ (by simp [tysMk];rfl)
  cases r with
  | nil=>exact one s x.1 c u h1.1 hu ru
  | cons t r =>
   refine ⟨one s x.1 c u h1.1 hu ru,ih x.2 _ h1.2 (by simp) (fun i a ha=>?_)⟩
   have:=hc (i+1) a (by simpa [tysMk] using ha)
   rw [h1.1,Nat.add_comm 1 i]
   exact this

theorem ropView_rel {H:List AObj} (I:Inv N w0 η H w) {l:List Ty} {a:AV} {v:Value} (r:AVR η H.length w a v):AVR (envOf w) 0 w (ropView H l a) v:=by
 unfold ropView
 split
 ·rename_i hl
  simp only [Bool.and_eq_true,Bool.not_eq_true', List.isEmpty_eq_false_iff] at hl
  split
  ·rename_i cs hcs
   split
   ·rename_i x hx
    obtain ⟨ad,rfl,hn,hc⟩:=read_rel I hcs r
    obtain ⟨q1,q2⟩:=tysRd_rel l _ x hx
    have q3:=q2 (fun i=>(w.cell? (ad.add i)).getD undef) (fun i c hi=>by
     obtain ⟨y,hy,rfl⟩:=getElem?_map_some hi
     obtain ⟨u,h1,_,h3⟩:=hc i y hy
     rw [h1]
     exact pure1_rel I h3)
    have q4:∀ i c,(tysMk l x)[i]? = some c→∃ u,w.cell? (ad.add i)=some u∧AVR (envOf w) 0 w c u:=by
     intro i c hi
     have hlt:i<cs.length:=by
      have:=(List.getElem?_eq_some_iff.1 hi).1
      rw [q1] at this
      simpa using this
     obtain ⟨u,h1,_,_⟩:=hc i cs[i] (List.getElem?_eq_getElem hlt)
     have:=q3 i c hi
     rw [h1] at this
     exact ⟨u,h1,this⟩
    have hlay:=lay_tys (w:=w) l x (fun j=>w.cell? (ad.add j)) hl.1 hl.2 q4
    have h0:ad.add (0*(tyP l).cells+0)=ad:=by simp [Addr.add]
    have hb:ad.block<w.heap.size:=by
     obtain ⟨t,r', rfl⟩:∃ t r', l=t::r':=by cases l with
      | nil=>exact absurd rfl hl.2
      | cons t r'=>exact ⟨t,r', rfl⟩
     obtain ⟨u,hu,_⟩:=q4 0 _ (by simp [tysMk];rfl)
     have:=World.block_lt_of_cell? w _ hu
     rwa [addr_block] at this
    have k:=AVR.rop (η:=envOf w) (h:=0) (w:=w) (fr:=false) (e:=tyP l) (l:=[valP l x]) (row:=0) (off:=0) (ad:=ad) (by simp) ⟨rfl,hb⟩ (fun i y hy=>by
     cases i with
     | zero =>
      obtain rfl:valP l x=y:=by simpa using hy
      simpa using hlay
     | succ i=>simp at hy)
    rw [h0] at k
    exact k
   ·exact .junk _
  ·exact .junk _
 ·exact .junk _

theorem capsView_rel {H:List AObj} (I:Inv N w0 η H w):∀ (ls:List (List Ty)) (as:List AV),(capsView H ls as).length=as.length∧∀ (f:Nat→Value),(∀ i c,as[i]? = some c→AVR η H.length w c (f i))→∀ i c,(capsView H ls as)[i]? = some c→AVR (envOf w) 0 w c (f i):=by
 have base:∀ as:List AV,(as.map fun _=>AV.junk).length=as.length∧∀ (f:Nat→Value),(∀ i c,as[i]? = some c→AVR η H.length w c (f i))→∀ i c,(as.map fun _=>AV.junk)[i]? = some c→AVR (envOf w) 0 w c (f i):=by
  intro as
  refine ⟨by simp,fun f _ i c hi=>?_⟩
  obtain ⟨y,_,rfl⟩:=getElem?_map_some hi
  exact .junk _
 intro ls
 induction ls with
 | nil=>intro as;exact base as
 | cons l ls ih=>intro as;cases as with
  | nil=>exact base []
  | cons a as =>
   obtain ⟨q1,q2⟩:=ih as
   refine ⟨by simp [capsView,q1],fun f hf i c hi=>?_⟩
   cases i with
   | zero =>
    obtain rfl:ropView H l a=c:=by simpa [capsView] using hi
    exact ropView_rel I (hf 0 a rfl)
   | succ i=>exact q2 (fun i=>f (i+1)) (fun i d hd=>hf (i+1) d (by simpa using hd)) i c (by simpa [capsView] using hi)

theorem viewP_rel {H:List AObj} (I:Inv N w0 η H w) {s:PSh} {a:AV} {v:Value} (r:AVR η H.length w a v):AVR (envOf w) 0 w (viewP H s a) v:=by
 unfold viewP
 split
 ·exact ropView_rel I r
 ·cases r with
  | @fn _ _ vs hsz hc =>
   obtain ⟨q1,q2⟩:=capsView_rel I _ _
   exact .fn (by rw [hsz,q1]) (q2 (fun i=>vs.getD i undef) hc)
 ·exact view_rel I r

theorem viewsP_rel {H:List AObj} (I:Inv N w0 η H w):∀ (l:List PSh) (as:List AV),(viewsP H l as).length=as.length∧∀ (f:Nat→Value),(∀ i c,as[i]? = some c→AVR η H.length w c (f i))→∀ i c,(viewsP H l as)[i]? = some c→AVR (envOf w) 0 w c (f i):=by
 have base:∀ as:List AV,(as.map (view H)).length=as.length∧∀ (f:Nat→Value),(∀ i c,as[i]? = some c→AVR η H.length w c (f i))→∀ i c,(as.map (view H))[i]? = some c→AVR (envOf w) 0 w c (f i):=by
  intro as
  refine ⟨by simp,fun f hf i c hi=>?_⟩
  obtain ⟨y,hy,rfl⟩:=getElem?_map_some hi
  exact view_rel I (hf i y hy)
 intro l
 induction l with
 | nil=>intro as;exact base as
 | cons s l ih=>intro as;cases as with
  | nil=>exact base []
  | cons a as =>
   obtain ⟨q1,q2⟩:=ih as
   refine ⟨by simp [viewsP,q1],fun f hf i c hi=>?_⟩
   cases i with
   | zero =>
    obtain rfl:viewP H s a=c:=by simpa [viewsP] using hi
    exact viewP_rel I (hf 0 a rfl)
   | succ i=>exact q2 (fun i=>f (i+1)) (fun i d hd=>hf (i+1) d (by simpa using hd)) i c (by simpa [viewsP] using hi)

theorem PContract.liftH {f:FuncId} {l:List PSh} {pre:pshsDen l→Bool} {g:pshsDen l→AV×List AObj} (h:PContract P f (sumOf l pre g)):MContract P f (Eng.liftH l pre g):=by
 intro args H r H' Kf hsm N w0 η w vs I hl hr
 simp only [Eng.liftH] at hsm
 split at hsm
 ·rename_i r0 Hn b hs
  split at hsm
  ·rename_i hf
   simp only [Bool.and_eq_true] at hf
   simp only [Option.some.injEq,Prod.mk.injEq] at hsm
   obtain ⟨rfl,rfl,rfl,rfl⟩:=hsm
   obtain ⟨q1,q2⟩:=viewsP_rel I l args
   refine (h _ r0 Hn hs hf.1 hf.2 w vs (by rw [q1];exact hl) (q2 (fun i=>vs.getD i undef) hr)).mono ?_
   rintro e w' ⟨v,η', rfl,J,ra⟩
   obtain ⟨I', x⟩:=I.join J hf.2
   exact ⟨v,_,rfl,I', x,by rw [List.length_append];exact shift_rel hf.1 ra⟩
  ·cases hsm
 ·cases hsm
theorem liftH_local (l:List PSh) (pre:pshsDen l→Bool) (g:pshsDen l→AV×List AObj):LocalS (liftH l pre g):=by
 intro args H r H' ks b h
 simp only [Eng.liftH] at h
 split at h
 ·split at h
  ·simp only [Option.some.injEq,Prod.mk.injEq] at h
   obtain ⟨_,rfl,rfl,_⟩:=h
   exact ⟨fun k hk=>by simp at hk,by simp,fun id o ho _ _ _=>by rw [List.getElem?_append_left (List.getElem?_eq_some_iff.1 ho).1];exact ho⟩
  ·cases h
 ·cases h

theorem Good.add (G:Good P tt S QF) {f:FuncId} {l:List PSh} {pre:pshsDen l→Bool} {g:pshsDen l→AV×List AObj} (hm:PContract P f (sumOf l pre g)) (hc:Callable P f) (hq:QF f=false):Good P tt (Tab.add S f (lift (sumOf l pre g))) QF:=by
 refine ⟨G.types,G.tab.add hm.lift hc,fun k s hk hs=>?_,G.loc.add (lift_local _),G.mixed⟩
 simp only [Tab.add] at hs
 cases hb:(k==f) with
 | true=>obtain rfl:=eq_of_beq hb;rw [hq] at hk;cases hk
 | false=>rw [hb] at hs;exact G.quiet k s hk hs

theorem Good.addQ (G:Good P tt S QF) {f:FuncId} {l:List PSh} {pre:pshsDen l→Bool} {g:pshsDen l→AV×List AObj} (hm:PContract P f (sumOf l pre g)) (hc:Callable P f) (hq:∀ d,(g d).2=[]):Good P tt (Tab.add S f (lift (sumOf l pre g))) (qadd QF f):=by
 refine ⟨G.types,G.tab.add hm.lift hc,fun k s hk hs=>?_,G.loc.add (lift_local _),G.mixed⟩
 simp only [Tab.add] at hs
 cases hb:(k==f) with
 | true =>
  rw [hb] at hs
  simp only [cond_true,Option.some.injEq] at hs
  subst hs
  intro args H r H' ks b h
  simp only [Eng.lift,sumOf] at h
  split at h
  ·rename_i r0 Hn b0 hs
   obtain ⟨d,_,hd⟩:=Option.map_eq_some_iff.1 hs
   have hqd:=hq d
   simp only [Prod.mk.injEq] at hd
   rw [hd.2.1] at hqd
   subst hqd
   split at h
   ·simp only [Option.some.injEq,Prod.mk.injEq] at h
    obtain ⟨_,h2,h3,_⟩:=h
    exact ⟨by rw [← h2,List.append_nil],h3.symm⟩
   ·cases h
  ·cases h
 | false =>
  rw [hb] at hs
  simp only [qadd,hb,cond_false] at hk
  exact G.quiet k s hk hs

theorem Good.start (hT:TTok P tt) (hm:P.follows .mixedOrders=true):Good P tt (fun _=>none) (fun _=>false) :=
 ⟨hT,(fun f s h=>by cases h),(fun g s h=>by cases h),(fun f s h=>by cases h),hm⟩
end
end Go.Proofs.Ytccelbeahdcooaa.Eng
