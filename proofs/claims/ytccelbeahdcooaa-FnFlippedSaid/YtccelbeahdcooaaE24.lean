/- The engine, part 24: shapes of states; loops by their rounds on pure data. -/
import Derived.Test.YtccelbeahdcooaaE18
namespace Go.Proofs.Ytccelbeahdcooaa.Eng
open Go Go.RowKit
set_option linter.unusedSimpArgs false
set_option linter.unusedVariables false

inductive Sh1 where
 | t (fr:Bool) (ty:Ty)
 | nil
 | all (id sz:Nat)
@[reducible] def Sh1.den:Sh1→Type
 | .t _ ty=>ty.den
 | _=>Unit
def Sh1.mk:(s:Sh1)→s.den→AV
 | .t fr ty,x=>.t fr ty x
 | .nil,_=>.raw (.slice none 0 0)
 | .all id sz,_=>.all id sz

@[reducible] def tysDen:List Ty→Type
 | []=>Unit
 | s::r=>s.den×tysDen r
@[reducible] def capsDen:List (List Ty)→Type
 | []=>Unit
 | l::r=>tysDen l×capsDen r
def tyP:List Ty→Ty
 | []=>.bool
 | [t]=>t
 | t::u::r=>.pair t (tyP (u::r))
def valP:(l:List Ty)→tysDen l→(tyP l).den
 | [],_=>false
 | [_],x=>x.1
 | _::u::r,x=>(x.1,valP (u::r) x.2)
def unP:(l:List Ty)→(tyP l).den→tysDen l
 | [],_=>()
 | [_],x=>(x,())
 | _::u::r,x=>(x.1,unP (u::r) x.2)
def ropMk (l:List Ty) (x:tysDen l):AV:=.rop false (tyP l) [valP l x] 0 0
def capsMk:(ls:List (List Ty))→capsDen ls→List AV
 | [],_=>[]
 | l::r,x=>ropMk l x.1::capsMk r x.2
def ropRd (l:List Ty):AV→Option (tysDen l)
 | .rop false e [x] 0 0=>if h:e=tyP l then (if l=[] then none else some (unP l (h ▸ x))) else none
 | _=>none
def capsRd:(ls:List (List Ty))→List AV→Option (capsDen ls)
 | [],[]=>some ()
 | l::r,a::as=>(ropRd l a).bind fun x=>(capsRd r as).map fun y=>(x,y)
 | _,_=>none
theorem valP_unP:∀ (l:List Ty) (x:(tyP l).den),l ≠ []→valP l (unP l x)=x
 | [],_,h=>absurd rfl h
 | [_],_,_=>rfl
 | _::u::r,x,_=>by
  show (x.1,valP (u::r) (unP (u::r) x.2))=x
  rw [valP_unP (u::r) x.2 (by simp)]
  rfl
theorem ropRd_mk {l:List Ty} {a:AV} {x:tysDen l} (h:ropRd l a=some x):a=ropMk l x:=by
 unfold ropRd at h
 split at h
 ·split at h
  ·rename_i y e
   subst e
   split at h
   ·cases h
   ·rename_i hn
    simp only [Option.some.injEq] at h
    subst h
    simp only [ropMk,valP_unP l y hn]
  ·cases h
 ·cases h
theorem capsRd_mk:∀ (ls:List (List Ty)) (as:List AV) (x:capsDen ls),capsRd ls as=some x→as=capsMk ls x:=by
 intro ls
 induction ls with
 | nil=>intro as x h;cases as with
  | nil=>rfl
  | cons a as=>simp [capsRd] at h
 | cons l r ih=>intro as x h;cases as with
  | nil=>simp [capsRd] at h
  | cons a as =>
   simp only [capsRd] at h
   obtain ⟨y,h1,h2⟩:=Option.bind_eq_some_iff.1 h
   obtain ⟨z,h3,rfl⟩:=Option.map_eq_some_iff.1 h2
   rw [ropRd_mk h1,ih as z h3]
   rfl
theorem capsMk_kill (K:Nat→Bool):∀ (ls:List (List Ty)) (x:capsDen ls),(capsMk ls x).map (AV.kill1 K)=capsMk ls x:=by
 intro ls
 induction ls with
 | nil=>intro x;rfl
 | cons l r ih=>intro x;simp only [capsMk,List.map_cons,ih];rfl

inductive Sh where
 | t (fr:Bool) (ty:Ty)
 | junk
 | nil
 | all (id sz:Nat)
 | arr (id sz:Nat)
 | pre (id sz:Nat)
 | ptr (id row sz sub:Nat)
 | fn (f:FuncId) (ids:List Nat)
 | agg (l:List Sh1)
 | rop (l:List Ty)
 | fnr (f:FuncId) (ls:List (List Ty))

@[reducible] def aggDen:List Sh1→Type
 | []=>Unit
 | s::r=>s.den×aggDen r
@[reducible] def Sh.den:Sh→Type
 | .t _ ty=>ty.den
 | .arr _ _=>Nat×Nat
 | .pre _ _=>Nat
 | .agg l=>aggDen l
 | .rop l=>tysDen l
 | .fnr _ ls=>capsDen ls
 | _=>Unit
def aggMk:(l:List Sh1)→aggDen l→List AV
 | [],_=>[]
 | s::r,x=>s.mk x.1::aggMk r x.2
def Sh.mk:(s:Sh)→s.den→AV
 | .t fr ty,x=>.t fr ty x
 | .junk,_=>.junk
 | .nil,_=>.raw (.slice none 0 0)
 | .all id sz,_=>.all id sz
 | .arr id sz,x=>.arr id sz x.1 x.2
 | .pre id sz,x=>.pre id sz x
 | .ptr id row sz sub,_=>.ptr id row sz sub
 | .fn f ids,_=>.fn f (ids.map fun id=>.ptr id 0 1 0)
 | .agg l,x=>.agg (aggMk l x)
 | .rop l,x=>ropMk l x
 | .fnr f ls,x=>.fn f (capsMk ls x)

def tRd (fr:Bool) (ty:Ty):AV→Option ty.den
 | .t fr' ty' x=>if h:ty'=ty then (cond (fr==fr') (some (h ▸ x)) none) else none
 | _=>none
theorem tRd_spec {fr:Bool} {ty:Ty} {a:AV} {x:ty.den} (h:tRd fr ty a=some x):a=.t fr ty x:=by
 cases a with
 | t fr' ty' y =>
  simp only [tRd] at h
  split at h
  ·rename_i e
   subst e
   cases hb:(fr==fr') with
   | false=>rw [hb] at h;cases h
   | true =>
    rw [hb] at h
    simp only [cond_true,Option.some.injEq] at h
    subst h
    rw [eq_of_beq hb]
  ·cases h
 | _=>simp [tRd] at h

def Sh1.rd (h:Nat):(s:Sh1)→AV→Option s.den
 | .t fr ty,a=>tRd fr ty a
 | .nil,.raw (.slice none 0 0)=>some ()
 | .all id sz,.all id' sz'=>cond (id==id'&&sz==sz'&&Nat.blt id h) (some ()) none
 | _,_=>none
theorem Sh1.rd_spec {h:Nat} {s:Sh1} {a:AV} {x:s.den} (e:s.rd h a=some x):a=s.mk x∧(s.mk x).kill1 (fun id=>decide (h≤id))=s.mk x:=by
 have hb:∀ {id:Nat},Nat.blt id h=true→decide (h≤id)=false:=fun hlt=>by have:=Nat.le_of_ble_eq_true hlt;simp;omega
 cases s with
 | t fr ty=>exact ⟨tRd_spec e,rfl⟩
 | nil =>
  cases a with
  | raw v =>
   cases v with
   | slice A n c =>
    cases A with
    | none=>cases n with
     | zero=>cases c with
      | zero=>exact ⟨rfl,rfl⟩
      | succ=>simp [Sh1.rd] at e
     | succ=>simp [Sh1.rd] at e
    | some=>simp [Sh1.rd] at e
   | _=>simp [Sh1.rd] at e
  | _=>simp [Sh1.rd] at e
 | all id sz =>
  cases a with
  | all id' sz' =>
   simp only [Sh1.rd] at e
   cases hc:(id==id'&&sz==sz'&&Nat.blt id h) with
   | false=>rw [hc] at e;cases e
   | true =>
    simp only [Bool.and_eq_true,beq_iff_eq] at hc
    obtain ⟨⟨rfl,rfl⟩,hlt⟩:=hc
    exact ⟨rfl,by simp [Sh1.mk,AV.kill1,hb hlt]⟩
  | _=>simp [Sh1.rd] at e

def aggRd (h:Nat):(l:List Sh1)→List AV→Option (aggDen l)
 | [],[]=>some ()
 | s::r,a::as=>(s.rd h a).bind fun x=>(aggRd h r as).map fun y=>(x,y)
 | _,_=>none
theorem aggRd_spec {h:Nat}:∀ (l:List Sh1) (as:List AV) (x:aggDen l),aggRd h l as=some x→as=aggMk l x∧(aggMk l x).map (AV.kill1 fun id=>decide (h≤id))=aggMk l x:=by
 intro l
 induction l with
 | nil=>intro as x h;cases as with
  | nil=>exact ⟨rfl,rfl⟩
  | cons a as=>simp [aggRd] at h
 | cons s r ih=>intro as x h;cases as with
  | nil=>simp [aggRd] at h
  | cons a as =>
   simp only [aggRd] at h
   obtain ⟨y,h1,h2⟩:=Option.bind_eq_some_iff.1 h
   obtain ⟨z,h3,rfl⟩:=Option.map_eq_some_iff.1 h2
   obtain ⟨q1,q2⟩:=Sh1.rd_spec h1
   obtain ⟨r1,r2⟩:=ih _ _ h3
   simp only [aggMk,List.map_cons]
   exact ⟨by rw [← q1,← r1],by rw [q2,r2]⟩

def fnRd (h:Nat):List Nat→List AV→Bool
 | [],[]=>true
 | id::r,.ptr id' 0 1 0::as=>id==id'&&Nat.blt id h&&fnRd h r as
 | _,_=>false
theorem fnRd_spec {h:Nat}:∀ (ids:List Nat) (as:List AV),fnRd h ids as=true→as=ids.map (fun id=>.ptr id 0 1 0)∧(ids.map (fun id=>AV.ptr id 0 1 0)).map (AV.kill1 fun id=>decide (h≤id))=ids.map (fun id=>.ptr id 0 1 0):=by
 intro ids
 induction ids with
 | nil=>intro as e;cases as with
  | nil=>exact ⟨rfl,rfl⟩
  | cons a as=>simp [fnRd] at e
 | cons id r ih =>
  intro as e
  unfold fnRd at e
  split at e
  ·rename_i h0;cases h0
  ·rename_i id0 r0 id' as' h0
   cases h0
   simp only [Bool.and_eq_true,beq_iff_eq] at e
   obtain ⟨⟨rfl,hlt⟩,e⟩:=e
   obtain ⟨q1,q2⟩:=ih as' e
   have hb:decide (h≤id)=false:=by have:=Nat.le_of_ble_eq_true hlt;simp;omega
   exact ⟨by simp [q1],by simp only [List.map_cons,q2];simp [AV.kill1,hb]⟩
  ·cases e

def Sh.rd (h:Nat):(s:Sh)→AV→Option s.den
 | .t fr ty,a=>tRd fr ty a
 | .junk,_=>some ()
 | .nil,.raw (.slice none 0 0)=>some ()
 | .all id sz,.all id' sz'=>cond (id==id'&&sz==sz'&&Nat.blt id h) (some ()) none
 | .arr id sz,.arr id' sz' lo n=>cond (id==id'&&sz==sz'&&Nat.blt id h) (some (lo,n)) none
 | .pre id sz,.pre id' sz' n=>cond (id==id'&&sz==sz'&&Nat.blt id h) (some n) none
 | .ptr id row sz sub,.ptr id' row' sz' sub'=>cond (id==id'&&row==row'&&sz==sz'&&sub==sub'&&Nat.blt id h) (some ()) none
 | .fn f ids,.fn f' cs=>cond (f==f'&&fnRd h ids cs) (some ()) none
 | .agg l,.agg as=>aggRd h l as
 | .rop l,a=>ropRd l a
 | .fnr f ls,.fn g as=>cond (f==g) (capsRd ls as) none
 | _,_=>none

def Sh.isJunk:Sh→Bool
 | .junk=>true
 | _=>false

theorem Sh.rd_spec {h:Nat} {s:Sh} {a:AV} {x:s.den} (e:s.rd h a=some x) (hj:s.isJunk=false):a=s.mk x∧(s.mk x).kill (fun id=>decide (h≤id))=s.mk x:=by
 have hb:∀ {id:Nat},Nat.blt id h=true→decide (h≤id)=false:=fun hlt=>by have:=Nat.le_of_ble_eq_true hlt;simp;omega
 cases s with
 | t fr ty=>exact ⟨tRd_spec e,rfl⟩
 | junk=>simp [Sh.isJunk] at hj
 | nil =>
  cases a with
  | raw v =>
   cases v with
   | slice A n c =>
    cases A with
    | none=>cases n with
     | zero=>cases c with
      | zero=>exact ⟨rfl,rfl⟩
      | succ=>simp [Sh.rd] at e
     | succ=>simp [Sh.rd] at e
    | some=>simp [Sh.rd] at e
   | _=>simp [Sh.rd] at e
  | _=>simp [Sh.rd] at e
 | all id sz =>
  cases a with
  | all id' sz' =>
   simp only [Sh.rd] at e
   cases hc:(id==id'&&sz==sz'&&Nat.blt id h) with
   | false=>rw [hc] at e;cases e
   | true =>
    simp only [Bool.and_eq_true,beq_iff_eq] at hc
    obtain ⟨⟨rfl,rfl⟩,hlt⟩:=hc
    exact ⟨rfl,by simp [Sh.mk,AV.kill,AV.kill1,hb hlt]⟩
  | _=>simp [Sh.rd] at e
 | arr id sz =>
  cases a with
  | arr id' sz' lo n =>
   simp only [Sh.rd] at e
   cases hc:(id==id'&&sz==sz'&&Nat.blt id h) with
   | false=>rw [hc] at e;cases e
   | true =>
    rw [hc] at e
    simp only [cond_true,Option.some.injEq] at e
    subst e
    simp only [Bool.and_eq_true,beq_iff_eq] at hc
    obtain ⟨⟨rfl,rfl⟩,hlt⟩:=hc
    exact ⟨rfl,by simp [Sh.mk,AV.kill,AV.kill1,hb hlt]⟩
  | _=>simp [Sh.rd] at e
 | pre id sz =>
  cases a with
  | pre id' sz' n =>
   simp only [Sh.rd] at e
   cases hc:(id==id'&&sz==sz'&&Nat.blt id h) with
   | false=>rw [hc] at e;cases e
   | true =>
    rw [hc] at e
    simp only [cond_true,Option.some.injEq] at e
    subst e
    simp only [Bool.and_eq_true,beq_iff_eq] at hc
    obtain ⟨⟨rfl,rfl⟩,hlt⟩:=hc
    exact ⟨rfl,by simp [Sh.mk,AV.kill,AV.kill1,hb hlt]⟩
  | _=>simp [Sh.rd] at e
 | ptr id row sz sub =>
  cases a with
  | ptr id' row' sz' sub' =>
   simp only [Sh.rd] at e
   cases hc:(id==id'&&row==row'&&sz==sz'&&sub==sub'&&Nat.blt id h) with
   | false=>rw [hc] at e;cases e
   | true =>
    simp only [Bool.and_eq_true,beq_iff_eq] at hc
    obtain ⟨⟨⟨⟨rfl,rfl⟩,rfl⟩,rfl⟩,hlt⟩:=hc
    exact ⟨rfl,by simp [Sh.mk,AV.kill,AV.kill1,hb hlt]⟩
  | _=>simp [Sh.rd] at e
 | fn f ids =>
  cases a with
  | fn f' cs =>
   simp only [Sh.rd] at e
   cases hc:(f==f'&&fnRd h ids cs) with
   | false=>rw [hc] at e;cases e
   | true =>
    simp only [Bool.and_eq_true,beq_iff_eq] at hc
    obtain ⟨rfl,hr⟩:=hc
    obtain ⟨q1,q2⟩:=fnRd_spec ids cs hr
    exact ⟨by simp [Sh.mk,q1],by simp only [Sh.mk,AV.kill];rw [q2]⟩
  | _=>simp [Sh.rd] at e
 | agg l =>
  cases a with
  | agg as =>
   simp only [Sh.rd] at e
   obtain ⟨q1,q2⟩:=aggRd_spec l as x e
   exact ⟨by simp only [Sh.mk,q1],by simp only [Sh.mk,AV.kill,q2]⟩
  | _=>simp [Sh.rd] at e
 | rop l=>exact ⟨ropRd_mk e,rfl⟩
 | fnr f ls =>
  cases a with
  | fn g as =>
   simp only [Sh.rd] at e
   cases hc:(f==g) with
   | false=>rw [hc] at e;cases e
   | true =>
    rw [hc] at e
    obtain rfl:=eq_of_beq hc
    exact ⟨by rw [capsRd_mk ls as x e];rfl,by simp only [Sh.mk,AV.kill,capsMk_kill]⟩
  | _=>simp [Sh.rd] at e

@[reducible] def shsDen:List Sh→Type
 | []=>Unit
 | s::r=>s.den×shsDen r
def shsMk:(l:List Sh)→shsDen l→List AV
 | [],_=>[]
 | s::r,x=>s.mk x.1::shsMk r x.2
def shsRd (h:Nat):(l:List Sh)→List AV→Option (shsDen l)
 | [],[]=>some ()
 | s::r,a::as=>(s.rd h a).bind fun x=>(shsRd h r as).map fun y=>(x,y)
 | _,_=>none
def shsKeep:Nat→List Sh→List Nat
 | _,[]=>[]
 | k,s::r=>cond s.isJunk (shsKeep (k+1) r) (k::shsKeep (k+1) r)

theorem shsKeep_ge:∀ (l:List Sh) (k i:Nat),i∈shsKeep k l→k≤i:=by
 intro l
 induction l with
 | nil=>intro k i h;simp [shsKeep] at h
 | cons s r ih =>
  intro k i h
  simp only [shsKeep] at h
  cases hs:s.isJunk with
  | true=>rw [hs] at h;have:=ih _ _ h;omega
  | false =>
   rw [hs] at h
   rcases List.mem_cons.1 h with rfl | h
   ·exact Nat.le_refl _
   ·have:=ih _ _ h;omega

theorem keepOnly_congr:∀ (as:List AV) (k:Nat) (K K':List Nat),(∀ i,k≤i→K.contains i=K'.contains i)→keepOnly K k as=keepOnly K' k as:=by
 intro as
 induction as with
 | nil=>intro k K K' h;rfl
 | cons a as ih=>intro k K K' h;simp only [keepOnly];rw [h k (Nat.le_refl _),ih (k+1) K K' (fun i hi=>h i (by omega))]

theorem shsRd_spec {h:Nat}:∀ (l:List Sh) (k:Nat) (as:List AV) (x:shsDen l),shsRd h l as=some x→(keepOnly (shsKeep k l) k as).map (AV.kill fun id=>decide (h≤id))=shsMk l x:=by
 intro l
 induction l with
 | nil=>intro k as x e;cases as with
  | nil=>rfl
  | cons a as=>simp [shsRd] at e
 | cons s r ih=>intro k as x e;cases as with
  | nil=>simp [shsRd] at e
  | cons a as =>
   simp only [shsRd] at e
   obtain ⟨y,h1,h2⟩:=Option.bind_eq_some_iff.1 e
   obtain ⟨z,h3,rfl⟩:=Option.map_eq_some_iff.1 h2
   simp only [keepOnly,List.map_cons,shsMk]
   have hr:keepOnly (shsKeep k (s::r)) (k+1) as=keepOnly (shsKeep (k+1) r) (k+1) as:=keepOnly_congr as _ _ _ (fun i hi=>by
    simp only [shsKeep]
    cases s.isJunk with
    | true=>rfl
    | false =>
     simp only [cond_false,List.contains_cons]
     have:(i==k)=false:=by simp;omega
     rw [this,Bool.false_or])
   rw [hr,ih _ _ _ h3]
   congr 1
   cases hs:s.isJunk with
   | true =>
    have hc:(shsKeep k (s::r)).contains k=false:=by
     simp only [shsKeep,hs,cond_true]
     rw [Bool.eq_false_iff]
     intro hm
     have:=shsKeep_ge r (k+1) k (by simpa using hm)
     omega
    cases s with
    | junk=>rw [hc];rfl
    | _=>simp [Sh.isJunk] at hs
   | false =>
    have hc:(shsKeep k (s::r)).contains k=true:=by simp [shsKeep,hs]
    obtain ⟨q1,q2⟩:=Sh.rd_spec h1 hs
    rw [hc,if_pos rfl,q1,q2]

inductive Oh where
 | rows (E:TypeId) (fr:Bool) (e:Ty)
 | deep (E:TypeId) (Es:List TypeId) (e:Ty)
 | box (l:List Sh)
 | dead
@[reducible] def Oh.den:Oh→Type
 | .rows _ _ e=>List e.den
 | .deep _ _ e=>List e.den
 | .box l=>shsDen l
 | .dead=>Unit
def Oh.mk:(o:Oh)→o.den→AObj
 | .rows E fr e,x=>.rows E fr e x
 | .deep E Es e,x=>.deep E Es e x
 | .box l,x=>.box (shsMk l x)
 | .dead,_=>.dead
def Sh.noBox:Sh→Bool
 | .junk=>true
 | .agg _=>true
 | .fn _ _=>true
 | .fnr _ _=>true
 | _=>false
def bxRd (h:Nat):(l:List Sh)→List AV→Option (shsDen l)
 | [],[]=>some ()
 | s::r,a::as=>cond (s.noBox) none ((s.rd h a).bind fun x=>(bxRd h r as).map fun y=>(x,y))
 | _,_=>none
theorem bxRd_spec {h:Nat}:∀ (l:List Sh) (as:List AV) (x:shsDen l),bxRd h l as=some x→as.map (AV.kill1 fun id=>decide (h≤id))=shsMk l x:=by
 intro l
 induction l with
 | nil=>intro as x e;cases as with
  | nil=>rfl
  | cons a as=>simp [bxRd] at e
 | cons s r ih=>intro as x e;cases as with
  | nil=>simp [bxRd] at e
  | cons a as =>
   simp only [bxRd] at e
   cases hs:s.noBox with
   | true=>rw [hs] at e;cases e
   | false =>
    rw [hs] at e
    simp only [cond_false] at e
    obtain ⟨y,h1,h2⟩:=Option.bind_eq_some_iff.1 e
    obtain ⟨z,h3,rfl⟩:=Option.map_eq_some_iff.1 h2
    obtain ⟨q1,q2⟩:=Sh.rd_spec h1 (by cases s<;>first | rfl | (simp [Sh.noBox] at hs))
    simp only [List.map_cons,shsMk,ih _ _ h3]
    congr 1
    rw [q1]
    cases s with
    | agg l=>simp [Sh.noBox] at hs
    | fn f l=>simp [Sh.noBox] at hs
    | fnr f l=>simp [Sh.noBox] at hs
    | _=>exact q2
def Oh.rd (h:Nat):(o:Oh)→AObj→Option o.den
 | .rows E fr e,.rows E' fr' e' l=>if hh:e'=e then cond (E==E'&&fr==fr') (some (hh ▸ l)) none else none
 | .deep E Es e,.deep E' Es' e' l=>if hh:e'=e then cond (E==E'&&Es==Es') (some (hh ▸ l)) none else none
 | .box l,.box as=>bxRd h l as
 | .dead,.dead=>some ()
 | _,_=>none
theorem Oh.rd_spec {h:Nat} {o:Oh} {a:AObj} {x:o.den} (e:o.rd h a=some x):a.kill (fun id=>decide (h≤id))=o.mk x:=by
 cases o with
 | rows E fr ty =>
  cases a with
  | rows E' fr' ty' l =>
   simp only [Oh.rd] at e
   split at e
   ·rename_i hh
    subst hh
    cases hc:(E==E'&&fr==fr') with
    | false=>rw [hc] at e;cases e
    | true =>
     rw [hc] at e
     simp only [cond_true,Option.some.injEq] at e
     subst e
     simp only [Bool.and_eq_true,beq_iff_eq] at hc
     obtain ⟨rfl,rfl⟩:=hc
     rfl
   ·cases e
  | _=>simp [Oh.rd] at e
 | deep E Es ty =>
  cases a with
  | deep E' Es' ty' l =>
   simp only [Oh.rd] at e
   split at e
   ·rename_i hh
    subst hh
    cases hc:(E==E'&&Es==Es') with
    | false=>rw [hc] at e;cases e
    | true =>
     rw [hc] at e
     simp only [cond_true,Option.some.injEq] at e
     subst e
     simp only [Bool.and_eq_true,beq_iff_eq] at hc
     obtain ⟨rfl,rfl⟩:=hc
     rfl
   ·cases e
  | _=>simp [Oh.rd] at e
 | box l =>
  cases a with
  | box as=>simp only [Oh.rd] at e;simp only [AObj.kill,bxRd_spec _ _ _ e,Oh.mk]
  | _=>simp [Oh.rd] at e
 | dead =>
  cases a with
  | dead=>rfl
  | _=>simp [Oh.rd] at e

@[reducible] def ohsDen:List Oh→Type
 | []=>Unit
 | s::r=>s.den×ohsDen r
def ohsMk:(l:List Oh)→ohsDen l→List AObj
 | [],_=>[]
 | s::r,x=>s.mk x.1::ohsMk r x.2
def ohsRd (h:Nat):(l:List Oh)→List AObj→Option (ohsDen l)
 | [],[]=>some ()
 | s::r,a::as=>(s.rd h a).bind fun x=>(ohsRd h r as).map fun y=>(x,y)
 | _,_=>none
theorem ohsRd_spec {h:Nat}:∀ (l:List Oh) (as:List AObj) (x:ohsDen l),ohsRd h l as=some x→as.map (AObj.kill fun id=>decide (h≤id))=ohsMk l x:=by
 intro l
 induction l with
 | nil=>intro as x e;cases as with
  | nil=>rfl
  | cons a as=>simp [ohsRd] at e
 | cons s r ih=>intro as x e;cases as with
  | nil=>simp [ohsRd] at e
  | cons a as =>
   simp only [ohsRd] at e
   obtain ⟨y,h1,h2⟩:=Option.bind_eq_some_iff.1 e
   obtain ⟨z,h3,rfl⟩:=Option.map_eq_some_iff.1 h2
   simp only [List.map_cons,ohsMk,ih _ _ h3,Oh.rd_spec h1]

structure SS where
 sl:List Sh
 hp:List Oh
@[reducible] def SS.den (s:SS):Type:=shsDen s.sl×ohsDen s.hp
def SS.st (s:SS) (d:s.den) (base:Nat) (killed:List Nat):St:=⟨shsMk s.sl d.1,ohsMk s.hp d.2,base,killed⟩
theorem bxRd_eq {h:Nat}:∀ (l:List Sh) (as:List AV) (x:shsDen l),bxRd h l as=some x→as=shsMk l x:=by
 intro l
 induction l with
 | nil=>intro as x e;cases as with
  | nil=>rfl
  | cons a as=>simp [bxRd] at e
 | cons s r ih=>intro as x e;cases as with
  | nil=>simp [bxRd] at e
  | cons a as =>
   simp only [bxRd] at e
   cases hs:s.noBox with
   | true=>rw [hs] at e;cases e
   | false =>
    rw [hs] at e
    simp only [cond_false] at e
    obtain ⟨y,h1,h2⟩:=Option.bind_eq_some_iff.1 e
    obtain ⟨z,h3,rfl⟩:=Option.map_eq_some_iff.1 h2
    simp only [shsMk]
    rw [← (Sh.rd_spec h1 (by cases s<;>first | rfl | (simp [Sh.noBox] at hs))).1,← ih _ _ h3]
theorem Oh.rd_eq {h:Nat} {o:Oh} {a:AObj} {x:o.den} (e:o.rd h a=some x):a=o.mk x:=by
 cases o with
 | rows E fr ty =>
  have:=Oh.rd_spec e
  cases a<;>first | exact this | (simp [Oh.rd] at e)
 | deep E Es ty =>
  have:=Oh.rd_spec e
  cases a<;>first | exact this | (simp [Oh.rd] at e)
 | box l =>
  cases a with
  | box as=>simp only [Oh.rd] at e;simp only [Oh.mk,← bxRd_eq _ _ _ e]
  | _=>simp [Oh.rd] at e
 | dead =>
  cases a with
  | dead=>rfl
  | _=>simp [Oh.rd] at e
theorem ohsRd_eq {h:Nat}:∀ (l:List Oh) (as:List AObj) (x:ohsDen l),ohsRd h l as=some x→as=ohsMk l x:=by
 intro l
 induction l with
 | nil=>intro as x e;cases as with
  | nil=>rfl
  | cons a as=>simp [ohsRd] at e
 | cons s r ih=>intro as x e;cases as with
  | nil=>simp [ohsRd] at e
  | cons a as =>
   simp only [ohsRd] at e
   obtain ⟨y,h1,h2⟩:=Option.bind_eq_some_iff.1 e
   obtain ⟨z,h3,rfl⟩:=Option.map_eq_some_iff.1 h2
   simp only [ohsMk]
   rw [← Oh.rd_eq h1,← ih _ _ h3]


def SS.cut (s:SS) (st:St):St:=st.compact (shsKeep 0 s.sl)
def SS.cutE (s:SS) (ke:Ex→List Nat) (e:Ex) (st:St):St :=
 match e with
 | .normal=>s.cut st
 | e=>st.compact (ke e)
def kepts (r:List Nat) (l:List (Nat×List Nat)):Ex→List Nat
 | .ret=>r
 | .exit k=>match l.find? (fun p=>p.1==k) with
  | some p=>p.2
  | none=>[]
 | .normal=>[]
def SS.rd (s:SS) (ms:List (Nat×TypeId×Ty)) (st:St):Option s.den :=
 let st1:=s.cut (ms.foldl matOne st)
 (shsRd st1.heap.length s.sl st1.slots).bind fun x=>(ohsRd st1.heap.length s.hp st1.heap).map fun y=>(x,y)

theorem shsRd_eq {h:Nat}:∀ (l:List Sh) (as:List AV) (x:shsDen l),shsRd h l as=some x→(∀ i,(l.getD i .junk).isJunk=true→as.getD i .junk=.junk)→as=shsMk l x:=by
 intro l
 induction l with
 | nil=>intro as x e _;cases as with
  | nil=>rfl
  | cons a as=>simp [shsRd] at e
 | cons s r ih=>intro as x e hj;cases as with
  | nil=>simp [shsRd] at e
  | cons a as =>
   simp only [shsRd] at e
   obtain ⟨y,h1,h2⟩:=Option.bind_eq_some_iff.1 e
   obtain ⟨z,h3,rfl⟩:=Option.map_eq_some_iff.1 h2
   simp only [shsMk]
   rw [← ih _ _ h3 (fun i hi=>by simpa using hj (i+1) (by simpa using hi))]
   congr 1
   cases hs:s.isJunk with
   | true =>
    have:=hj 0 (by simpa using hs)
    cases s with
    | junk=>show a=AV.junk;simpa using this
    | _=>simp [Sh.isJunk] at hs
   | false=>exact (Sh.rd_spec h1 hs).1

theorem keepOnly_junk (K:List Nat):∀ (as:List AV) (k i:Nat),K.contains (k+i)=false→(keepOnly K k as).getD i .junk=.junk:=by
 intro as
 induction as with
 | nil=>intro k i _;simp [keepOnly]
 | cons a as ih =>
  intro k i h
  simp only [keepOnly]
  cases i with
  | zero=>rw [Nat.add_zero] at h;rw [h];rfl
  | succ i =>
   have:=ih (k+1) i (by rw [show k+1+i=k+(i+1) by omega];exact h)
   simpa using this
theorem shsKeep_junk:∀ (l:List Sh) (k i:Nat),(l.getD i .junk).isJunk=true→(shsKeep k l).contains (k+i)=false:=by
 intro l
 induction l with
 | nil=>intro k i _;rfl
 | cons s r ih =>
  intro k i h
  simp only [shsKeep]
  cases i with
  | zero =>
   have hs:s.isJunk=true:=by simpa using h
   rw [hs]
   simp only [cond_true]
   rw [Bool.eq_false_iff]
   intro hm
   have:=shsKeep_ge r (k+1) (k+0) (by simpa using hm)
   omega
  | succ i =>
   have hr:=ih (k+1) i (by simpa using h)
   rw [show k+1+i=k+(i+1) by omega] at hr
   cases s.isJunk with
   | true=>exact hr
   | false =>
    simp only [cond_false,List.contains_cons,hr,Bool.or_false,beq_eq_false_iff_ne]
    omega

theorem compact_fields (keep:List Nat) (st:St):(st.compact keep).base=st.base∧(st.compact keep).killed=st.killed:=by
 simp only [St.compact]
 split<;>exact ⟨rfl,rfl⟩
theorem compact_junk (keep:List Nat) (st:St) (i:Nat) (h:keep.contains i=false):(st.compact keep).slots.getD i .junk=.junk:=by
 have hk:=keepOnly_junk keep st.slots 0 i (by simpa using h)
 simp only [St.compact]
 split
 ·simp only [List.getD_eq_getElem?_getD,List.getElem?_map]
  rw [List.getD_eq_getElem?_getD] at hk
  cases hg:(keepOnly keep 0 st.slots)[i]? with
  | none=>rfl
  | some c=>rw [hg] at hk;simp only [Option.getD_some] at hk;subst hk;rfl
 ·simp only [List.getD_eq_getElem?_getD,List.getElem?_map]
  cases (keepOnly keep 0 st.slots)[i]?<;>rfl

theorem matAll_base:∀ (ms:List (Nat×TypeId×Ty)) (st:St),(ms.foldl matOne st).base=st.base∧(ms.foldl matOne st).killed=st.killed:=by
 intro ms
 induction ms with
 | nil=>intro st;exact ⟨rfl,rfl⟩
 | cons m ms ih =>
  intro st
  obtain ⟨h1,h2⟩:=ih (matOne st m)
  simp only [List.foldl_cons]
  rw [h1,h2]
  have hf:∀ id sz,(st.freeze1 (.all id sz)).2.base=st.base∧(st.freeze1 (.all id sz)).2.killed=st.killed:=by
   intro id sz
   simp only [St.freeze1]
   split
   ·split<;>exact ⟨rfl,rfl⟩
   ·exact ⟨rfl,rfl⟩
  simp only [matOne,matSlot,matCell]
  cases Nat.ble 2000000 m.1
  case true =>
   simp only [cond_true]
   split
   ·split
    ·split<;>exact ⟨rfl,rfl⟩
    ·exact ⟨rfl,rfl⟩
   ·exact ⟨rfl,rfl⟩
  simp only [cond_false]
  split
  ·exact ⟨rfl,rfl⟩
  ·cases m.2.1==1000000
   ·exact ⟨rfl,rfl⟩
   ·exact hf _ _
  ·exact ⟨rfl,rfl⟩

theorem SS.rd_spec {s:SS} {ms:List (Nat×TypeId×Ty)} {st:St} {d:s.den} (h:s.rd ms st=some d):s.cut (ms.foldl matOne st)=s.st d st.base st.killed:=by
 simp only [SS.rd] at h
 obtain ⟨x,h1,h2⟩:=Option.bind_eq_some_iff.1 h
 obtain ⟨y,h3,rfl⟩:=Option.map_eq_some_iff.1 h2
 obtain ⟨b1,b2⟩:=matAll_base ms st
 obtain ⟨c1,c2⟩:=compact_fields (shsKeep 0 s.sl) (ms.foldl matOne st)
 have e1:=shsRd_eq _ _ _ h1 (fun i hi=>compact_junk _ _ i (by have:=shsKeep_junk s.sl 0 i hi;simpa using this))
 have e2:=ohsRd_eq _ _ _ h3
 simp only [SS.st]
 rw [← e1,← e2,← b1,← b2,← c1,← c2]
 rfl

inductive RT (D:Type) where
 | next (d:D)
 | done (e:Ex) (s:SS) (d:s.den)
 | br (b:Bool) (x y:RT D)
 | fail
def RT.opt {s:SS} (base:Nat) (killed:List Nat):RT s.den→Option (Ex×St)
 | .next d=>some (.normal,s.st d base killed)
 | .done e s' d=>some (e,s'.st d base killed)
 | .br b x y=>cond b (x.opt base killed) (y.opt base killed)
 | .fail=>none
def RT.val {D:Type}:RT D→RT D
 | .br b x y=>cond b x.val y.val
 | r=>r
inductive CT where
 | done (e:Ex) (s:SS) (d:s.den)
 | br (b:Bool) (x y:CT)
 | fail
def CT.tree (base:Nat) (killed:List Nat):CT→Tree
 | .done e s d=>.leaf e (s.st d base killed)
 | .br b x y=>.br b (x.tree base killed) (y.tree base killed)
 | .fail=>.fail
def CT.val {D:Type}:CT→RT D
 | .done e s d=>.done e s d
 | .br b x y=>cond b x.val y.val
 | .fail=>.fail

inductive Runs {D:Type} (step:D→RT D):D→RT D→Prop where
 | done {d:D} {e:Ex} {s:SS} {x:s.den} (he:e ≠ .normal) (h:(step d).val=.done e s x):Runs step d (.done e s x)
 | next {d d':D} {r:RT D} (h:(step d).val=.next d') (hr:Runs step d' r):Runs step d r

inductive RunsN {D:Type} (step:D→RT D):Nat→D→RT D→Prop where
 | done {n:Nat} {d:D} {e:Ex} {s:SS} {x:s.den} (he:e ≠ .normal) (h:(step d).val=.done e s x):RunsN step (n+1) d (.done e s x)
 | next {n:Nat} {d d':D} {r:RT D} (h:(step d).val=.next d') (hr:RunsN step n d' r):RunsN step (n+1) d r
theorem Runs.num {D:Type} {step:D→RT D} {d:D} {r:RT D} (h:Runs step d r):∃ n,RunsN step n d r:=by
 induction h with
 | done he h=>exact ⟨1,.done he h⟩
 | next h hr ih=>obtain ⟨n,hn⟩:=ih;exact ⟨n+1,.next h hn⟩

def SS.say (s:SS) (B:Nat) (kk:List Nat) (ms:List (Nat×TypeId×Ty)) (T:s.den→CT):St→Option Tree:=fun st =>
 cond (st.base==B&&st.killed.all kk.contains) (match s.rd ms { st with killed:=kk } with
 | some d=>some ((T d).tree B kk)
 | none=>none) none

theorem CT.tree_res {D:Type} {base:Nat} {killed:List Nat} (c:CT) {p:Ex×St} (h:(c.tree base killed).res=some p):∃ e s x,(c.val:RT D)=.done e s x∧p=(e,SS.st s x base killed):=by
 induction c with
 | done e s d=>exact ⟨e,s,d,rfl,(Option.some.inj h).symm⟩
 | br b x y ihx ihy=>cases b with
  | true=>exact ihx h
  | false=>exact ihy h
 | fail=>cases h

theorem RT.opt_val {s:SS} {base:Nat} {killed:List Nat} (r:RT s.den):r.opt base killed=match r.val with
  | .next d=>some (.normal,s.st d base killed)
  | .done e s' d=>some (e,s'.st d base killed)
  | _=>none:=by
 induction r with
 | next d=>rfl
 | done e s d=>rfl
 | br b x y ihx ihy=>cases b<;>assumption
 | fail=>rfl

section
variable {P:Program} {N:Nat→Prop} {w0:World} {η:Env} {w:World} {tt:TT} {S:Tab} {QF:FuncId→Bool}

theorem SR.killMore [DF] {η0:Env} {h0:Nat} {we:World} {st:St} {a:Act} (s:SR N w0 η0 h0 we η st a w) (kk:List Nat) (h:st.killed.all kk.contains=true):SR N w0 η0 h0 we η { st with killed:=kk } a w:=by
 have key:∀ id,kk.contains id=false→st.killed.contains id=false:=fun id hk=>by
  rw [Bool.eq_false_iff] at hk ⊢
  intro hc
  exact hk (List.all_eq_true.1 h id (by simpa using hc))
 exact ⟨s.inv,⟨fun id hid hk=>s.ext.nm id hid (key id hk),s.ext.z,s.ext.same,s.ext.zold,fun id hid hk=>s.ext.nn id hid (key id hk)⟩,s.sl,s.base⟩

theorem SS.wp (G:Good P tt S QF) (L:Nat→St→Option Tree) {b:Nat} {x:Code} (hL:∀ p∈loopsIn b x,LoopWp P (L p.1) p.2) (s:SS) (B:Nat) (kk:List Nat) (ke:Ex→List Nat) (ms:List (Nat×TypeId×Ty)) (step:s.den→RT s.den)
  (hstep:∀ d,execC P tt S QF L b x (s.st d B kk) (fun e s'=>some (e,s.cutE ke e s'))=(step d).opt B kk) (T:s.den→CT) (hT:∀ d,(T d).val (D:=s.den)=.fail∨Runs step d (T d).val):LoopWp P (s.say B kk ms T) x:=by
 intro DD st t ht p hp N w0 η0 h0 we η a w Q s0 hq
 simp only [SS.say] at ht
 cases hchk:(st.base==B&&st.killed.all kk.contains) with
 | false=>rw [hchk] at ht;cases ht
 | true =>
 rw [hchk] at ht
 simp only [cond_true] at ht
 simp only [Bool.and_eq_true,beq_iff_eq] at hchk
 obtain ⟨hB,hkk⟩:=hchk
 replace s0:=s0.killMore kk hkk
 have hB':({ st with killed:=kk }:St).base=B:=hB
 have hK':({ st with killed:=kk }:St).killed=kk:=rfl
 generalize ({ st with killed:=kk }:St)=st at ht s0 hB' hK'
 clear hB hkk
 subst hB'
 subst hK'
 split at ht
 ·rename_i d hd
  ·simp only [Option.some.injEq] at ht
   subst ht
   have hcut:=SS.rd_spec hd
   obtain ⟨η1,s1⟩:=SR.matAll ms st η s0
   generalize ms.foldl matOne st=st1 at hcut s1
   obtain ⟨e,s', xd,hv,rfl⟩:=CT.tree_res (D:=s.den) _ hp
   have hrun:Runs step d (.done e s' xd):=by
    rcases hT d with h | h
    ·rw [hv] at h;cases h
    ·rw [hv] at h;exact h
   have hsc:∀ {st':St} {η':Env} {a':Act} {w':World},SR N w0 η0 h0 we η' st' a' w'→∃ η', SR N w0 η0 h0 we η' (s.cut st') a' w':=fun s'=>s'.compact _
   have hscE:∀ {e:Ex} {st':St} {η':Env} {a':Act} {w':World},SR N w0 η0 h0 we η' st' a' w'→∃ η', SR N w0 η0 h0 we η' (s.cutE ke e st') a' w':=fun {e} {st'} {η'} {a'} {w'} s'=>by
    cases e with
    | normal=>exact hsc s'
    | _=>exact s'.compact _
   obtain ⟨η1', s1'⟩:=hsc s1
   rw [hcut] at s1'
   obtain ⟨n,hn⟩:=Runs.num hrun
   let J:Nat→Act→World→Prop:=fun m a w=>∃ d' η', RunsN step m d' (.done e s' xd)∧SR N w0 η0 h0 we η' (s.st d' st.base st.killed) a w
   refine wp_loop_fuel J (fun a w hj=>?_) (fun m a w hj=>?_) n a w ⟨d,η1', hn,s1'⟩
   ·obtain ⟨d', η', h1,_⟩:=hj
    cases h1
   ·obtain ⟨d1,η2,h1,s2⟩:=hj
    have hrun1:=hstep d1
    cases h1 with
    | done he h1 =>
     rw [RT.opt_val,h1] at hrun1
     refine execC_sound (r:=(e,s'.st xd st.base st.killed)) G L x b _ _ _ η2 a w hL hrun1 ?_ s2
     intro e' st3 η' a' w' hk s3
     simp only [Option.some.injEq,Prod.mk.injEq] at hk
     obtain ⟨rfl,hk⟩:=hk
     obtain ⟨η3,s4⟩:=hscE (e:=e') s3
     have hq':=hq η3 a' w' (by rw [← hk];exact s4)
     cases e' with
     | normal=>exact (he rfl).elim
     | exit id=>exact hq'
     | ret=>exact hq'
    | @next _ _ d2 _ h1 hr =>
     rw [RT.opt_val,h1] at hrun1
     refine execC_sound (r:=(Ex.normal,s.st d2 st.base st.killed)) G L x b _ _ _ η2 a w hL hrun1 ?_ s2
     intro e' st3 η' a' w' hk s3
     simp only [Option.some.injEq,Prod.mk.injEq] at hk
     obtain ⟨rfl,hk⟩:=hk
     obtain ⟨η3,s4⟩:=hscE (e:=.normal) s3
     exact ⟨d2,η3,hr,by rw [← hk];exact s4⟩
 ·cases ht
end
end Go.Proofs.Ytccelbeahdcooaa.Eng
