/- The engine, part 24: shapes of states; loops by their rounds on pure data. -/
import Derived.Test.YtccelbeahdcooaaE18
namespace Go.Proofs.Ytccelbeahdcooaa.Eng
open Go Go.RowKit
set_option linter.unusedSimpArgs false
set_option linter.unusedVariables false

inductive Sh1 where
 | t (fr:Bool) (ty:Ty)
 | nil
 | all (id sz:Nat)
@[reducible] def Sh1.den:Sh1→Type
 | .t _ ty=>ty.den
 | _=>Unit
def Sh1.mk:(s:Sh1)→s.den→AV
 | .t fr ty,x=>.t fr ty x
 | .nil,_=>.raw (.slice none 0 0)
 | .all id sz,_=>.all id sz

@[reducible] def A00:List Ty→Type
 | []=>Unit
 | s::r=>s.den×A00 r
@[reducible] def A1X:List (List Ty)→Type
 | []=>Unit
 | l::r=>A00 l×A1X r
def tyP:List Ty→Ty
 | []=>.bool
 | [t]=>t
 | t::u::r=>.pair t (tyP (u::r))
def A6b:(l:List Ty)→A00 l→(tyP l).den
 | [],_=>false
 | [_],x=>x.1
 | _::u::r,x=>(x.1,A6b (u::r) x.2)
def unP:(l:List Ty)→(tyP l).den→A00 l
 | [],_=>()
 | [_],x=>(x,())
 | _::u::r,x=>(x.1,unP (u::r) x.2)
def A4A (l:List Ty) (x:A00 l):AV:=.rop false (tyP l) [A6b l x] 0 0
def A2C:(ls:List (List Ty))→A1X ls→List AV
 | [],_=>[]
 | l::r,x=>A4A l x.1::A2C r x.2
def A5D (l:List Ty):AV→Option (A00 l)
 | .rop false e [x] 0 0=>if h:e=tyP l then (if l=[] then none else some (unP l (h ▸ x))) else none
 | _=>none
def A2D:(ls:List (List Ty))→List AV→Option (A1X ls)
 | [],[]=>some ()
 | l::r,a::as=>(A5D l a).bind fun x=>(A2D r as).map fun y=>(x,y)
 | _,_=>none
theorem A5L:∀ (l:List Ty) (x:(tyP l).den),l ≠ []→A6b l (unP l x)=x
 | [],_,h=>absurd rfl h
 | [_],_,_=>rfl
 | _::u::r,x,_=>by
  show (x.1,A6b (u::r) (unP (u::r) x.2))=x
  rw [A5L (u::r) x.2 (by simp)]
  rfl
theorem A3N {l:List Ty} {a:AV} {x:A00 l} (h:A5D l a=some x):a=A4A l x:=by
 unfold A5D at h
 split at h
 ·split at h
  ·rename_i y e
   subst e
   split at h
   ·cases h
   ·rename_i hn
    simp only [Option.some.injEq] at h
    subst h
    simp only [A4A,A5L l y hn]
  ·cases h
 ·cases h
theorem A4l:∀ (ls:List (List Ty)) (as:List AV) (x:A1X ls),A2D ls as=some x→as=A2C ls x:=by
 intro ls
 induction ls with
 | nil=>intro as x h;cases as with
  | nil=>rfl
  | cons a as=>simp [A2D] at h
 | cons l r ih=>intro as x h;cases as with
  | nil=>simp [A2D] at h
  | cons a as =>
   simp only [A2D] at h
   obtain ⟨y,h1,h2⟩:=Option.bind_eq_some_iff.1 h
   obtain ⟨z,h3,rfl⟩:=Option.map_eq_some_iff.1 h2
   rw [A3N h1,ih as z h3]
   rfl
theorem A49 (K:Nat→Bool):∀ (ls:List (List Ty)) (x:A1X ls),(A2C ls x).map (AV.kill1 K)=A2C ls x:=by
 intro ls
 induction ls with
 | nil=>intro x;rfl
 | cons l r ih=>intro x;simp only [A2C,List.map_cons,ih];rfl

inductive Sh where
 | t (fr:Bool) (ty:Ty)
 | junk
 | nil
 | all (id sz:Nat)
 | arr (id sz:Nat)
 | pre (id sz:Nat)
 | ptr (id row sz sub:Nat)
 | fn (f:FuncId) (ids:List Nat)
 | agg (l:List Sh1)
 | rop (l:List Ty)
 | fnr (f:FuncId) (ls:List (List Ty))

@[reducible] def A2A:List Sh1→Type
 | []=>Unit
 | s::r=>s.den×A2A r
@[reducible] def Sh.den:Sh→Type
 | .t _ ty=>ty.den
 | .arr _ _=>Nat×Nat
 | .pre _ _=>Nat
 | .agg l=>A2A l
 | .rop l=>A00 l
 | .fnr _ ls=>A1X ls
 | _=>Unit
def A19:(l:List Sh1)→A2A l→List AV
 | [],_=>[]
 | s::r,x=>s.mk x.1::A19 r x.2
def Sh.mk:(s:Sh)→s.den→AV
 | .t fr ty,x=>.t fr ty x
 | .junk,_=>.junk
 | .nil,_=>.raw (.slice none 0 0)
 | .all id sz,_=>.all id sz
 | .arr id sz,x=>.arr id sz x.1 x.2
 | .pre id sz,x=>.pre id sz x
 | .ptr id row sz sub,_=>.ptr id row sz sub
 | .fn f ids,_=>.fn f (ids.map fun id=>.ptr id 0 1 0)
 | .agg l,x=>.agg (A19 l x)
 | .rop l,x=>A4A l x
 | .fnr f ls,x=>.fn f (A2C ls x)

def tRd (fr:Bool) (ty:Ty):AV→Option ty.den
 | .t fr' ty' x=>if h:ty'=ty then (cond (fr==fr') (some (h ▸ x)) none) else none
 | _=>none
theorem A5J {fr:Bool} {ty:Ty} {a:AV} {x:ty.den} (h:tRd fr ty a=some x):a=.t fr ty x:=by
 cases a with
 | t fr' ty' y =>
  simp only [tRd] at h
  split at h
  ·rename_i e
   subst e
   cases hb:(fr==fr') with
   | false=>rw [hb] at h;cases h
   | true =>
    rw [hb] at h
    simp only [cond_true,Option.some.injEq] at h
    subst h
    rw [eq_of_beq hb]
  ·cases h
 | _=>simp [tRd] at h

def Sh1.rd (h:Nat):(s:Sh1)→AV→Option s.den
 | .t fr ty,a=>tRd fr ty a
 | .nil,.raw (.slice none 0 0)=>some ()
 | .all id sz,.all id' sz'=>cond (id==id'&&sz==sz'&&Nat.blt id h) (some ()) none
 | _,_=>none
theorem Sh1.rd_spec {h:Nat} {s:Sh1} {a:AV} {x:s.den} (e:s.rd h a=some x):a=s.mk x∧(s.mk x).kill1 (fun id=>decide (h≤id))=s.mk x:=by
 have hb:∀ {id:Nat},Nat.blt id h=true→decide (h≤id)=false:=fun hlt=>by have:=Nat.le_of_ble_eq_true hlt;simp;omega
 cases s with
 | t fr ty=>exact ⟨A5J e,rfl⟩
 | nil =>
  cases a with
  | raw v =>
   cases v with
   | slice A n c =>
    cases A with
    | none=>cases n with
     | zero=>cases c with
      | zero=>exact ⟨rfl,rfl⟩
      | succ=>simp [Sh1.rd] at e
     | succ=>simp [Sh1.rd] at e
    | some=>simp [Sh1.rd] at e
   | _=>simp [Sh1.rd] at e
  | _=>simp [Sh1.rd] at e
 | all id sz =>
  cases a with
  | all id' sz' =>
   simp only [Sh1.rd] at e
   cases hc:(id==id'&&sz==sz'&&Nat.blt id h) with
   | false=>rw [hc] at e;cases e
   | true =>
    simp only [Bool.and_eq_true,beq_iff_eq] at hc
    obtain ⟨⟨rfl,rfl⟩,hlt⟩:=hc
    exact ⟨rfl,by simp [Sh1.mk,AV.kill1,hb hlt]⟩
  | _=>simp [Sh1.rd] at e

def A4k (h:Nat):(l:List Sh1)→List AV→Option (A2A l)
 | [],[]=>some ()
 | s::r,a::as=>(s.rd h a).bind fun x=>(A4k h r as).map fun y=>(x,y)
 | _,_=>none
theorem A5N {h:Nat}:∀ (l:List Sh1) (as:List AV) (x:A2A l),A4k h l as=some x→as=A19 l x∧(A19 l x).map (AV.kill1 fun id=>decide (h≤id))=A19 l x:=by
 intro l
 induction l with
 | nil=>intro as x h;cases as with
  | nil=>exact ⟨rfl,rfl⟩
  | cons a as=>simp [A4k] at h
 | cons s r ih=>intro as x h;cases as with
  | nil=>simp [A4k] at h
  | cons a as =>
   simp only [A4k] at h
   obtain ⟨y,h1,h2⟩:=Option.bind_eq_some_iff.1 h
   obtain ⟨z,h3,rfl⟩:=Option.map_eq_some_iff.1 h2
   obtain ⟨q1,q2⟩:=Sh1.rd_spec h1
   obtain ⟨r1,r2⟩:=ih _ _ h3
   simp only [A19,List.map_cons]
   exact ⟨by rw [← q1,← r1],by rw [q2,r2]⟩

def A6s (h:Nat):List Nat→List AV→Bool
 | [],[]=>true
 | id::r,.ptr id' 0 1 0::as=>id==id'&&Nat.blt id h&&A6s h r as
 | _,_=>false
theorem A6t {h:Nat}:∀ (ids:List Nat) (as:List AV),A6s h ids as=true→as=ids.map (fun id=>.ptr id 0 1 0)∧(ids.map (fun id=>AV.ptr id 0 1 0)).map (AV.kill1 fun id=>decide (h≤id))=ids.map (fun id=>.ptr id 0 1 0):=by
 intro ids
 induction ids with
 | nil=>intro as e;cases as with
  | nil=>exact ⟨rfl,rfl⟩
  | cons a as=>simp [A6s] at e
 | cons id r ih =>
  intro as e
  unfold A6s at e
  split at e
  ·rename_i h0;cases h0
  ·rename_i id0 r0 id' as' h0
   cases h0
   simp only [Bool.and_eq_true,beq_iff_eq] at e
   obtain ⟨⟨rfl,hlt⟩,e⟩:=e
   obtain ⟨q1,q2⟩:=ih as' e
   have hb:decide (h≤id)=false:=by have:=Nat.le_of_ble_eq_true hlt;simp;omega
   exact ⟨by simp [q1],by simp only [List.map_cons,q2];simp [AV.kill1,hb]⟩
  ·cases e

def Sh.rd (h:Nat):(s:Sh)→AV→Option s.den
 | .t fr ty,a=>tRd fr ty a
 | .junk,_=>some ()
 | .nil,.raw (.slice none 0 0)=>some ()
 | .all id sz,.all id' sz'=>cond (id==id'&&sz==sz'&&Nat.blt id h) (some ()) none
 | .arr id sz,.arr id' sz' lo n=>cond (id==id'&&sz==sz'&&Nat.blt id h) (some (lo,n)) none
 | .pre id sz,.pre id' sz' n=>cond (id==id'&&sz==sz'&&Nat.blt id h) (some n) none
 | .ptr id row sz sub,.ptr id' row' sz' sub'=>cond (id==id'&&row==row'&&sz==sz'&&sub==sub'&&Nat.blt id h) (some ()) none
 | .fn f ids,.fn f' cs=>cond (f==f'&&A6s h ids cs) (some ()) none
 | .agg l,.agg as=>A4k h l as
 | .rop l,a=>A5D l a
 | .fnr f ls,.fn g as=>cond (f==g) (A2D ls as) none
 | _,_=>none

def Sh.isJunk:Sh→Bool
 | .junk=>true
 | _=>false

theorem Sh.rd_spec {h:Nat} {s:Sh} {a:AV} {x:s.den} (e:s.rd h a=some x) (hj:s.isJunk=false):a=s.mk x∧(s.mk x).kill (fun id=>decide (h≤id))=s.mk x:=by
 have hb:∀ {id:Nat},Nat.blt id h=true→decide (h≤id)=false:=fun hlt=>by have:=Nat.le_of_ble_eq_true hlt;simp;omega
 cases s with
 | t fr ty=>exact ⟨A5J e,rfl⟩
 | junk=>simp [Sh.isJunk] at hj
 | nil =>
  cases a with
  | raw v =>
   cases v with
   | slice A n c =>
    cases A with
    | none=>cases n with
     | zero=>cases c with
      | zero=>exact ⟨rfl,rfl⟩
      | succ=>simp [Sh.rd] at e
     | succ=>simp [Sh.rd] at e
    | some=>simp [Sh.rd] at e
   | _=>simp [Sh.rd] at e
  | _=>simp [Sh.rd] at e
 | all id sz =>
  cases a with
  | all id' sz' =>
   simp only [Sh.rd] at e
   cases hc:(id==id'&&sz==sz'&&Nat.blt id h) with
   | false=>rw [hc] at e;cases e
   | true =>
    simp only [Bool.and_eq_true,beq_iff_eq] at hc
    obtain ⟨⟨rfl,rfl⟩,hlt⟩:=hc
    exact ⟨rfl,by simp [Sh.mk,AV.kill,AV.kill1,hb hlt]⟩
  | _=>simp [Sh.rd] at e
 | arr id sz =>
  cases a with
  | arr id' sz' lo n =>
   simp only [Sh.rd] at e
   cases hc:(id==id'&&sz==sz'&&Nat.blt id h) with
   | false=>rw [hc] at e;cases e
   | true =>
    rw [hc] at e
    simp only [cond_true,Option.some.injEq] at e
    subst e
    simp only [Bool.and_eq_true,beq_iff_eq] at hc
    obtain ⟨⟨rfl,rfl⟩,hlt⟩:=hc
    exact ⟨rfl,by simp [Sh.mk,AV.kill,AV.kill1,hb hlt]⟩
  | _=>simp [Sh.rd] at e
 | pre id sz =>
  cases a with
  | pre id' sz' n =>
   simp only [Sh.rd] at e
   cases hc:(id==id'&&sz==sz'&&Nat.blt id h) with
   | false=>rw [hc] at e;cases e
   | true =>
    rw [hc] at e
    simp only [cond_true,Option.some.injEq] at e
    subst e
    simp only [Bool.and_eq_true,beq_iff_eq] at hc
    obtain ⟨⟨rfl,rfl⟩,hlt⟩:=hc
    exact ⟨rfl,by simp [Sh.mk,AV.kill,AV.kill1,hb hlt]⟩
  | _=>simp [Sh.rd] at e
 | ptr id row sz sub =>
  cases a with
  | ptr id' row' sz' sub' =>
   simp only [Sh.rd] at e
   cases hc:(id==id'&&row==row'&&sz==sz'&&sub==sub'&&Nat.blt id h) with
   | false=>rw [hc] at e;cases e
   | true =>
    simp only [Bool.and_eq_true,beq_iff_eq] at hc
    obtain ⟨⟨⟨⟨rfl,rfl⟩,rfl⟩,rfl⟩,hlt⟩:=hc
    exact ⟨rfl,by simp [Sh.mk,AV.kill,AV.kill1,hb hlt]⟩
  | _=>simp [Sh.rd] at e
 | fn f ids =>
  cases a with
  | fn f' cs =>
   simp only [Sh.rd] at e
   cases hc:(f==f'&&A6s h ids cs) with
   | false=>rw [hc] at e;cases e
   | true =>
    simp only [Bool.and_eq_true,beq_iff_eq] at hc
    obtain ⟨rfl,hr⟩:=hc
    obtain ⟨q1,q2⟩:=A6t ids cs hr
    exact ⟨by simp [Sh.mk,q1],by simp only [Sh.mk,AV.kill];rw [q2]⟩
  | _=>simp [Sh.rd] at e
 | agg l =>
  cases a with
  | agg as =>
   simp only [Sh.rd] at e
   obtain ⟨q1,q2⟩:=A5N l as x e
   exact ⟨by simp only [Sh.mk,q1],by simp only [Sh.mk,AV.kill,q2]⟩
  | _=>simp [Sh.rd] at e
 | rop l=>exact ⟨A3N e,rfl⟩
 | fnr f ls =>
  cases a with
  | fn g as =>
   simp only [Sh.rd] at e
   cases hc:(f==g) with
   | false=>rw [hc] at e;cases e
   | true =>
    rw [hc] at e
    obtain rfl:=eq_of_beq hc
    exact ⟨by rw [A4l ls as x e];rfl,by simp only [Sh.mk,AV.kill,A49]⟩
  | _=>simp [Sh.rd] at e

@[reducible] def A1z:List Sh→Type
 | []=>Unit
 | s::r=>s.den×A1z r
def A1e:(l:List Sh)→A1z l→List AV
 | [],_=>[]
 | s::r,x=>s.mk x.1::A1e r x.2
def A4D (h:Nat):(l:List Sh)→List AV→Option (A1z l)
 | [],[]=>some ()
 | s::r,a::as=>(s.rd h a).bind fun x=>(A4D h r as).map fun y=>(x,y)
 | _,_=>none
def A1p:Nat→List Sh→List Nat
 | _,[]=>[]
 | k,s::r=>cond s.isJunk (A1p (k+1) r) (k::A1p (k+1) r)

theorem A57:∀ (l:List Sh) (k i:Nat),i∈A1p k l→k≤i:=by
 intro l
 induction l with
 | nil=>intro k i h;simp [A1p] at h
 | cons s r ih =>
  intro k i h
  simp only [A1p] at h
  cases hs:s.isJunk with
  | true=>rw [hs] at h;have:=ih _ _ h;omega
  | false =>
   rw [hs] at h
   rcases List.mem_cons.1 h with rfl | h
   ·exact Nat.le_refl _
   ·have:=ih _ _ h;omega

inductive Oh where
 | rows (E:TypeId) (fr:Bool) (e:Ty)
 | deep (E:TypeId) (Es:List TypeId) (e:Ty)
 | box (l:List Sh)
 | dead
@[reducible] def Oh.den:Oh→Type
 | .rows _ _ e=>List e.den
 | .deep _ _ e=>List e.den
 | .box l=>A1z l
 | .dead=>Unit
def Oh.mk:(o:Oh)→o.den→AObj
 | .rows E fr e,x=>.rows E fr e x
 | .deep E Es e,x=>.deep E Es e x
 | .box l,x=>.box (A1e l x)
 | .dead,_=>.dead
def Sh.noBox:Sh→Bool
 | .junk=>true
 | .agg _=>true
 | .fn _ _=>true
 | .fnr _ _=>true
 | _=>false
def A37 (h:Nat):(l:List Sh)→List AV→Option (A1z l)
 | [],[]=>some ()
 | s::r,a::as=>cond (s.noBox) none ((s.rd h a).bind fun x=>(A37 h r as).map fun y=>(x,y))
 | _,_=>none
theorem A6p {h:Nat}:∀ (l:List Sh) (as:List AV) (x:A1z l),A37 h l as=some x→as.map (AV.kill1 fun id=>decide (h≤id))=A1e l x:=by
 intro l
 induction l with
 | nil=>intro as x e;cases as with
  | nil=>rfl
  | cons a as=>simp [A37] at e
 | cons s r ih=>intro as x e;cases as with
  | nil=>simp [A37] at e
  | cons a as =>
   simp only [A37] at e
   cases hs:s.noBox with
   | true=>rw [hs] at e;cases e
   | false =>
    rw [hs] at e
    simp only [cond_false] at e
    obtain ⟨y,h1,h2⟩:=Option.bind_eq_some_iff.1 e
    obtain ⟨z,h3,rfl⟩:=Option.map_eq_some_iff.1 h2
    obtain ⟨q1,q2⟩:=Sh.rd_spec h1 (by cases s<;>first | rfl | (simp [Sh.noBox] at hs))
    simp only [List.map_cons,A1e,ih _ _ h3]
    congr 1
    rw [q1]
    cases s with
    | agg l=>simp [Sh.noBox] at hs
    | fn f l=>simp [Sh.noBox] at hs
    | fnr f l=>simp [Sh.noBox] at hs
    | _=>exact q2
def Oh.rd (h:Nat):(o:Oh)→AObj→Option o.den
 | .rows E fr e,.rows E' fr' e' l=>if hh:e'=e then cond (E==E'&&fr==fr') (some (hh ▸ l)) none else none
 | .deep E Es e,.deep E' Es' e' l=>if hh:e'=e then cond (E==E'&&Es==Es') (some (hh ▸ l)) none else none
 | .box l,.box as=>A37 h l as
 | .dead,.dead=>some ()
 | _,_=>none
theorem Oh.rd_spec {h:Nat} {o:Oh} {a:AObj} {x:o.den} (e:o.rd h a=some x):a.kill (fun id=>decide (h≤id))=o.mk x:=by
 cases o with
 | rows E fr ty =>
  cases a with
  | rows E' fr' ty' l =>
   simp only [Oh.rd] at e
   split at e
   ·rename_i hh
    subst hh
    cases hc:(E==E'&&fr==fr') with
    | false=>rw [hc] at e;cases e
    | true =>
     rw [hc] at e
     simp only [cond_true,Option.some.injEq] at e
     subst e
     simp only [Bool.and_eq_true,beq_iff_eq] at hc
     obtain ⟨rfl,rfl⟩:=hc
     rfl
   ·cases e
  | _=>simp [Oh.rd] at e
 | deep E Es ty =>
  cases a with
  | deep E' Es' ty' l =>
   simp only [Oh.rd] at e
   split at e
   ·rename_i hh
    subst hh
    cases hc:(E==E'&&Es==Es') with
    | false=>rw [hc] at e;cases e
    | true =>
     rw [hc] at e
     simp only [cond_true,Option.some.injEq] at e
     subst e
     simp only [Bool.and_eq_true,beq_iff_eq] at hc
     obtain ⟨rfl,rfl⟩:=hc
     rfl
   ·cases e
  | _=>simp [Oh.rd] at e
 | box l =>
  cases a with
  | box as=>simp only [Oh.rd] at e;simp only [AObj.kill,A6p _ _ _ e,Oh.mk]
  | _=>simp [Oh.rd] at e
 | dead =>
  cases a with
  | dead=>rfl
  | _=>simp [Oh.rd] at e

@[reducible] def A3H:List Oh→Type
 | []=>Unit
 | s::r=>s.den×A3H r
def A3I:(l:List Oh)→A3H l→List AObj
 | [],_=>[]
 | s::r,x=>s.mk x.1::A3I r x.2
def A3J (h:Nat):(l:List Oh)→List AObj→Option (A3H l)
 | [],[]=>some ()
 | s::r,a::as=>(s.rd h a).bind fun x=>(A3J h r as).map fun y=>(x,y)
 | _,_=>none
structure SS where
 sl:List Sh
 hp:List Oh
@[reducible] def SS.den (s:SS):Type:=A1z s.sl×A3H s.hp
def SS.st (s:SS) (d:s.den) (base:Nat) (killed:List Nat):St:=⟨A1e s.sl d.1,A3I s.hp d.2,base,killed⟩
theorem A68 {h:Nat}:∀ (l:List Sh) (as:List AV) (x:A1z l),A37 h l as=some x→as=A1e l x:=by
 intro l
 induction l with
 | nil=>intro as x e;cases as with
  | nil=>rfl
  | cons a as=>simp [A37] at e
 | cons s r ih=>intro as x e;cases as with
  | nil=>simp [A37] at e
  | cons a as =>
   simp only [A37] at e
   cases hs:s.noBox with
   | true=>rw [hs] at e;cases e
   | false =>
    rw [hs] at e
    simp only [cond_false] at e
    obtain ⟨y,h1,h2⟩:=Option.bind_eq_some_iff.1 e
    obtain ⟨z,h3,rfl⟩:=Option.map_eq_some_iff.1 h2
    simp only [A1e]
    rw [← (Sh.rd_spec h1 (by cases s<;>first | rfl | (simp [Sh.noBox] at hs))).1,← ih _ _ h3]
theorem Oh.rd_eq {h:Nat} {o:Oh} {a:AObj} {x:o.den} (e:o.rd h a=some x):a=o.mk x:=by
 cases o with
 | rows E fr ty =>
  have:=Oh.rd_spec e
  cases a<;>first | exact this | (simp [Oh.rd] at e)
 | deep E Es ty =>
  have:=Oh.rd_spec e
  cases a<;>first | exact this | (simp [Oh.rd] at e)
 | box l =>
  cases a with
  | box as=>simp only [Oh.rd] at e;simp only [Oh.mk,← A68 _ _ _ e]
  | _=>simp [Oh.rd] at e
 | dead =>
  cases a with
  | dead=>rfl
  | _=>simp [Oh.rd] at e
theorem A5r {h:Nat}:∀ (l:List Oh) (as:List AObj) (x:A3H l),A3J h l as=some x→as=A3I l x:=by
 intro l
 induction l with
 | nil=>intro as x e;cases as with
  | nil=>rfl
  | cons a as=>simp [A3J] at e
 | cons s r ih=>intro as x e;cases as with
  | nil=>simp [A3J] at e
  | cons a as =>
   simp only [A3J] at e
   obtain ⟨y,h1,h2⟩:=Option.bind_eq_some_iff.1 e
   obtain ⟨z,h3,rfl⟩:=Option.map_eq_some_iff.1 h2
   simp only [A3I]
   rw [← Oh.rd_eq h1,← ih _ _ h3]


def SS.cut (s:SS) (st:St):St:=st.compact (A1p 0 s.sl)
def SS.cutE (s:SS) (ke:Ex→List Nat) (e:Ex) (st:St):St :=
 match e with
 | .normal=>s.cut st
 | e=>st.compact (ke e)
def kepts (r:List Nat) (l:List (Nat×List Nat)):Ex→List Nat
 | .ret=>r
 | .exit k=>match l.find? (fun p=>p.1==k) with
  | some p=>p.2
  | none=>[]
 | .normal=>[]
def SS.rd (s:SS) (ms:List (Nat×TypeId×Ty)) (st:St):Option s.den :=
 let st1:=s.cut (ms.foldl matOne st)
 (A4D st1.heap.length s.sl st1.slots).bind fun x=>(A3J st1.heap.length s.hp st1.heap).map fun y=>(x,y)

theorem A65 {h:Nat}:∀ (l:List Sh) (as:List AV) (x:A1z l),A4D h l as=some x→(∀ i,(l.getD i .junk).isJunk=true→as.getD i .junk=.junk)→as=A1e l x:=by
 intro l
 induction l with
 | nil=>intro as x e _;cases as with
  | nil=>rfl
  | cons a as=>simp [A4D] at e
 | cons s r ih=>intro as x e hj;cases as with
  | nil=>simp [A4D] at e
  | cons a as =>
   simp only [A4D] at e
   obtain ⟨y,h1,h2⟩:=Option.bind_eq_some_iff.1 e
   obtain ⟨z,h3,rfl⟩:=Option.map_eq_some_iff.1 h2
   simp only [A1e]
   rw [← ih _ _ h3 (fun i hi=>by simpa using hj (i+1) (by simpa using hi))]
   congr 1
   cases hs:s.isJunk with
   | true =>
    have:=hj 0 (by simpa using hs)
    cases s with
    | junk=>show a=AV.junk;simpa using this
    | _=>simp [Sh.isJunk] at hs
   | false=>exact (Sh.rd_spec h1 hs).1

theorem A4c (K:List Nat):∀ (as:List AV) (k i:Nat),K.contains (k+i)=false→(E5 K k as).getD i .junk=.junk:=by
 intro as
 induction as with
 | nil=>intro k i _;simp [E5]
 | cons a as ih =>
  intro k i h
  simp only [E5]
  cases i with
  | zero=>rw [Nat.add_zero] at h;rw [h];rfl
  | succ i =>
   have:=ih (k+1) i (by rw [show k+1+i=k+(i+1) by omega];exact h)
   simpa using this
theorem A43:∀ (l:List Sh) (k i:Nat),(l.getD i .junk).isJunk=true→(A1p k l).contains (k+i)=false:=by
 intro l
 induction l with
 | nil=>intro k i _;rfl
 | cons s r ih =>
  intro k i h
  simp only [A1p]
  cases i with
  | zero =>
   have hs:s.isJunk=true:=by simpa using h
   rw [hs]
   simp only [cond_true]
   rw [Bool.eq_false_iff]
   intro hm
   have:=A57 r (k+1) (k+0) (by simpa using hm)
   omega
  | succ i =>
   have hr:=ih (k+1) i (by simpa using h)
   rw [show k+1+i=k+(i+1) by omega] at hr
   cases s.isJunk with
   | true=>exact hr
   | false =>
    simp only [cond_false,List.contains_cons,hr,Bool.or_false,beq_eq_false_iff_ne]
    omega

theorem A3x (keep:List Nat) (st:St):(st.compact keep).base=st.base∧(st.compact keep).killed=st.killed:=by
 simp only [St.compact]
 split<;>exact ⟨rfl,rfl⟩
theorem A4Q (keep:List Nat) (st:St) (i:Nat) (h:keep.contains i=false):(st.compact keep).slots.getD i .junk=.junk:=by
 have hk:=A4c keep st.slots 0 i (by simpa using h)
 simp only [St.compact]
 split
 ·simp only [List.getD_eq_getElem?_getD,List.getElem?_map]
  rw [List.getD_eq_getElem?_getD] at hk
  cases hg:(E5 keep 0 st.slots)[i]? with
  | none=>rfl
  | some c=>rw [hg] at hk;simp only [Option.getD_some] at hk;subst hk;rfl
 ·simp only [List.getD_eq_getElem?_getD,List.getElem?_map]
  cases (E5 keep 0 st.slots)[i]?<;>rfl

theorem A5n:∀ (ms:List (Nat×TypeId×Ty)) (st:St),(ms.foldl matOne st).base=st.base∧(ms.foldl matOne st).killed=st.killed:=by
 intro ms
 induction ms with
 | nil=>intro st;exact ⟨rfl,rfl⟩
 | cons m ms ih =>
  intro st
  obtain ⟨h1,h2⟩:=ih (matOne st m)
  simp only [List.foldl_cons]
  rw [h1,h2]
  have hf:∀ id sz,(st.freeze1 (.all id sz)).2.base=st.base∧(st.freeze1 (.all id sz)).2.killed=st.killed:=by
   intro id sz
   simp only [St.freeze1]
   split
   ·split<;>exact ⟨rfl,rfl⟩
   ·exact ⟨rfl,rfl⟩
  simp only [matOne,matSlot,matCell]
  cases Nat.ble 2000000 m.1
  case true =>
   simp only [cond_true]
   split
   ·split
    ·split<;>exact ⟨rfl,rfl⟩
    ·exact ⟨rfl,rfl⟩
   ·exact ⟨rfl,rfl⟩
  simp only [cond_false]
  split
  ·exact ⟨rfl,rfl⟩
  ·cases m.2.1==1000000
   ·exact ⟨rfl,rfl⟩
   ·exact hf _ _
  ·exact ⟨rfl,rfl⟩

theorem SS.rd_spec {s:SS} {ms:List (Nat×TypeId×Ty)} {st:St} {d:s.den} (h:s.rd ms st=some d):s.cut (ms.foldl matOne st)=s.st d st.base st.killed:=by
 simp only [SS.rd] at h
 obtain ⟨x,h1,h2⟩:=Option.bind_eq_some_iff.1 h
 obtain ⟨y,h3,rfl⟩:=Option.map_eq_some_iff.1 h2
 obtain ⟨b1,b2⟩:=A5n ms st
 obtain ⟨c1,c2⟩:=A3x (A1p 0 s.sl) (ms.foldl matOne st)
 have e1:=A65 _ _ _ h1 (fun i hi=>A4Q _ _ i (by have:=A43 s.sl 0 i hi;simpa using this))
 have e2:=A5r _ _ _ h3
 simp only [SS.st]
 rw [← e1,← e2,← b1,← b2,← c1,← c2]
 rfl

inductive RT (D:Type) where
 | next (d:D)
 | done (e:Ex) (s:SS) (d:s.den)
 | br (b:Bool) (x y:RT D)
 | fail
def RT.opt {s:SS} (base:Nat) (killed:List Nat):RT s.den→Option (Ex×St)
 | .next d=>some (.normal,s.st d base killed)
 | .done e s' d=>some (e,s'.st d base killed)
 | .br b x y=>cond b (x.opt base killed) (y.opt base killed)
 | .fail=>none
def RT.val {D:Type}:RT D→RT D
 | .br b x y=>cond b x.val y.val
 | r=>r
inductive CT where
 | done (e:Ex) (s:SS) (d:s.den)
 | br (b:Bool) (x y:CT)
 | fail
def CT.tree (base:Nat) (killed:List Nat):CT→Tree
 | .done e s d=>.leaf e (s.st d base killed)
 | .br b x y=>.br b (x.tree base killed) (y.tree base killed)
 | .fail=>.fail
def CT.val {D:Type}:CT→RT D
 | .done e s d=>.done e s d
 | .br b x y=>cond b x.val y.val
 | .fail=>.fail

inductive Runs {D:Type} (step:D→RT D):D→RT D→Prop where
 | done {d:D} {e:Ex} {s:SS} {x:s.den} (he:e ≠ .normal) (h:(step d).val=.done e s x):Runs step d (.done e s x)
 | next {d d':D} {r:RT D} (h:(step d).val=.next d') (hr:Runs step d' r):Runs step d r

inductive RunsN {D:Type} (step:D→RT D):Nat→D→RT D→Prop where
 | done {n:Nat} {d:D} {e:Ex} {s:SS} {x:s.den} (he:e ≠ .normal) (h:(step d).val=.done e s x):RunsN step (n+1) d (.done e s x)
 | next {n:Nat} {d d':D} {r:RT D} (h:(step d).val=.next d') (hr:RunsN step n d' r):RunsN step (n+1) d r
theorem Runs.num {D:Type} {step:D→RT D} {d:D} {r:RT D} (h:Runs step d r):∃ n,RunsN step n d r:=by
 induction h with
 | done he h=>exact ⟨1,.done he h⟩
 | next h hr ih=>obtain ⟨n,hn⟩:=ih;exact ⟨n+1,.next h hn⟩

def SS.say (s:SS) (B:Nat) (kk:List Nat) (ms:List (Nat×TypeId×Ty)) (T:s.den→CT):St→Option Tree:=fun st =>
 cond (st.base==B&&st.killed.all kk.contains) (match s.rd ms { st with killed:=kk } with
 | some d=>some ((T d).tree B kk)
 | none=>none) none

theorem CT.tree_res {D:Type} {base:Nat} {killed:List Nat} (c:CT) {p:Ex×St} (h:(c.tree base killed).res=some p):∃ e s x,(c.val:RT D)=.done e s x∧p=(e,SS.st s x base killed):=by
 induction c with
 | done e s d=>exact ⟨e,s,d,rfl,(Option.some.inj h).symm⟩
 | br b x y ihx ihy=>cases b with
  | true=>exact ihx h
  | false=>exact ihy h
 | fail=>cases h

theorem RT.opt_val {s:SS} {base:Nat} {killed:List Nat} (r:RT s.den):r.opt base killed=match r.val with
  | .next d=>some (.normal,s.st d base killed)
  | .done e s' d=>some (e,s'.st d base killed)
  | _=>none:=by
 induction r with
 | next d=>rfl
 | done e s d=>rfl
 | br b x y ihx ihy=>cases b<;>assumption
 | fail=>rfl

section
variable {P:Program} {N:Nat→Prop} {w0:World} {η:Env} {w:World} {tt:TT} {S:Tab} {QF:FuncId→Bool}

theorem SR.killMore [DF] {η0:Env} {h0:Nat} {we:World} {st:St} {a:Act} (s:SR N w0 η0 h0 we η st a w) (kk:List Nat) (h:st.killed.all kk.contains=true):SR N w0 η0 h0 we η { st with killed:=kk } a w:=by
 have key:∀ id,kk.contains id=false→st.killed.contains id=false:=fun id hk=>by
  rw [Bool.eq_false_iff] at hk ⊢
  intro hc
  exact hk (List.all_eq_true.1 h id (by simpa using hc))
 exact ⟨s.inv,⟨fun id hid hk=>s.ext.nm id hid (key id hk),s.ext.z,s.ext.same,s.ext.zold,fun id hid hk=>s.ext.nn id hid (key id hk)⟩,s.sl,s.base⟩

theorem SS.wp (G:Good P tt S QF) (L:Nat→St→Option Tree) {b:Nat} {x:Code} (hL:∀ p∈D8 b x,LoopWp P (L p.1) p.2) (s:SS) (B:Nat) (kk:List Nat) (ke:Ex→List Nat) (ms:List (Nat×TypeId×Ty)) (step:s.den→RT s.den)
  (hstep:∀ d,A0C P tt S QF L b x (s.st d B kk) (fun e s'=>some (e,s.cutE ke e s'))=(step d).opt B kk) (T:s.den→CT) (hT:∀ d,(T d).val (D:=s.den)=.fail∨Runs step d (T d).val):LoopWp P (s.say B kk ms T) x:=by
 intro DD st t ht p hp N w0 η0 h0 we η a w Q s0 hq
 simp only [SS.say] at ht
 cases hchk:(st.base==B&&st.killed.all kk.contains) with
 | false=>rw [hchk] at ht;cases ht
 | true =>
 rw [hchk] at ht
 simp only [cond_true] at ht
 simp only [Bool.and_eq_true,beq_iff_eq] at hchk
 obtain ⟨hB,hkk⟩:=hchk
 replace s0:=s0.killMore kk hkk
 have hB':({ st with killed:=kk }:St).base=B:=hB
 have hK':({ st with killed:=kk }:St).killed=kk:=rfl
 generalize ({ st with killed:=kk }:St)=st at ht s0 hB' hK'
 clear hB hkk
 subst hB'
 subst hK'
 split at ht
 ·rename_i d hd
  ·simp only [Option.some.injEq] at ht
   subst ht
   have hcut:=SS.rd_spec hd
   obtain ⟨η1,s1⟩:=SR.matAll ms st η s0
   generalize ms.foldl matOne st=st1 at hcut s1
   obtain ⟨e,s', xd,hv,rfl⟩:=CT.tree_res (D:=s.den) _ hp
   have hrun:Runs step d (.done e s' xd):=by
    rcases hT d with h | h
    ·rw [hv] at h;cases h
    ·rw [hv] at h;exact h
   have hsc:∀ {st':St} {η':Env} {a':Act} {w':World},SR N w0 η0 h0 we η' st' a' w'→∃ η', SR N w0 η0 h0 we η' (s.cut st') a' w':=fun s'=>s'.compact _
   have hscE:∀ {e:Ex} {st':St} {η':Env} {a':Act} {w':World},SR N w0 η0 h0 we η' st' a' w'→∃ η', SR N w0 η0 h0 we η' (s.cutE ke e st') a' w':=fun {e} {st'} {η'} {a'} {w'} s'=>by
    cases e with
    | normal=>exact hsc s'
    | _=>exact s'.compact _
   obtain ⟨η1', s1'⟩:=hsc s1
   rw [hcut] at s1'
   obtain ⟨n,hn⟩:=Runs.num hrun
   let J:Nat→Act→World→Prop:=fun m a w=>∃ d' η', RunsN step m d' (.done e s' xd)∧SR N w0 η0 h0 we η' (s.st d' st.base st.killed) a w
   refine A21 J (fun a w hj=>?_) (fun m a w hj=>?_) n a w ⟨d,η1', hn,s1'⟩
   ·obtain ⟨d', η', h1,_⟩:=hj
    cases h1
   ·obtain ⟨d1,η2,h1,s2⟩:=hj
    have hrun1:=hstep d1
    cases h1 with
    | done he h1 =>
     rw [RT.opt_val,h1] at hrun1
     refine A09 (r:=(e,s'.st xd st.base st.killed)) G L x b _ _ _ η2 a w hL hrun1 ?_ s2
     intro e' st3 η' a' w' hk s3
     simp only [Option.some.injEq,Prod.mk.injEq] at hk
     obtain ⟨rfl,hk⟩:=hk
     obtain ⟨η3,s4⟩:=hscE (e:=e') s3
     have hq':=hq η3 a' w' (by rw [← hk];exact s4)
     cases e' with
     | normal=>exact (he rfl).elim
     | exit id=>exact hq'
     | ret=>exact hq'
    | @next _ _ d2 _ h1 hr =>
     rw [RT.opt_val,h1] at hrun1
     refine A09 (r:=(Ex.normal,s.st d2 st.base st.killed)) G L x b _ _ _ η2 a w hL hrun1 ?_ s2
     intro e' st3 η' a' w' hk s3
     simp only [Option.some.injEq,Prod.mk.injEq] at hk
     obtain ⟨rfl,hk⟩:=hk
     obtain ⟨η3,s4⟩:=hscE (e:=.normal) s3
     exact ⟨d2,η3,hr,by rw [← hk];exact s4⟩
 ·cases ht
end
end Go.Proofs.Ytccelbeahdcooaa.Eng
