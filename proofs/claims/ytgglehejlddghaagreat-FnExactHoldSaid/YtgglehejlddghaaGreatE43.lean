/- The engine, part 43: the library's Insert on pairs of strings, as a contract on objects. -/
import Derived.Test.YtgglehejlddghaaGreatE42
namespace Go.Proofs.YtgglehejlddghaaGreat.Eng
open Go Go.RowKit
set_option linter.unusedSimpArgs false
set_option linter.unusedVariables false
abbrev A1l:=ByteArray×ByteArray
def D7 (p:A1l):List Value:=[.string p.1,.string p.2]
theorem A3r:∀ l:List A1l,(l.flatMap D7).length=l.length*2
 | []=>rfl
 | p::l=>by rw [List.flatMap_cons,List.length_append,A3r l];simp [D7];omega
theorem A4h:∀ (l:List A1l) (i:Nat),(l.flatMap D7).take (i*2)=(l.take i).flatMap D7
 | [],i=>by simp
 | p::l,0=>by simp
 | p::l,i+1=>by
  rw [List.take_succ_cons,List.flatMap_cons,List.flatMap_cons,← A4h l i,show (i+1)*2=(D7 p).length+i*2 by simp [D7];omega,List.take_length_add_append]
theorem A4g:∀ (l:List A1l) (i:Nat),(l.flatMap D7).drop (i*2)=(l.drop i).flatMap D7
 | [],i=>by simp
 | p::l,0=>by simp
 | p::l,i+1=>by
  rw [List.drop_succ_cons,List.flatMap_cons,← A4g l i,show (i+1)*2=(D7 p).length+i*2 by simp [D7];omega,List.drop_length_add_append]
theorem A3q:∀ (l:List A1l) (i:Nat) (p:A1l),l[i]? = some p→(l.flatMap D7)[i*2]? = some (.string p.1)∧(l.flatMap D7)[i*2+1]? = some (.string p.2)
 | [],i,p,h=>by simp at h
 | q::l,0,p,h=>by simp at h;subst h;simp [D7]
 | q::l,i+1,p,h=>by
  have ih:=A3q l i p (by simpa using h)
  rw [List.flatMap_cons,show (i+1)*2=i*2+2 by omega,show i*2+2+1=(i*2+1)+2 by omega]
  simp only [D7,List.cons_append,List.nil_append,List.getElem?_cons_succ]
  exact ih
theorem A6E:∀ (l:List A1l),∀ v∈l.flatMap D7,v.oneCell'=true:=by
 intro l v hv
 obtain ⟨p,_,h⟩:=List.mem_flatMap.1 hv
 simp [D7] at h
 rcases h with rfl | rfl<;>rfl
theorem A6D (l:List A1l) (i:Nat) (x:A1l):(l.take i++x::l.drop i).flatMap D7=(l.flatMap D7).take (i*2)++(D7 x++(l.flatMap D7).drop (i*2)):=by
 rw [A4h,A4g,List.flatMap_append,List.flatMap_cons]

def A6K (F:TypeId):Summ:=fun args H=>match args,H with
 | [.all 0 2,.t fi (.int .i64) i,.all 1 2],[.rows E f (.pair .str .str) l,.rows E2 f2 (.pair .str .str) [x]] =>
  some (.all 0 2,[.rows E true (.pair .str .str) (l.take i.toNat++x::l.drop i.toNat),.dead],[0],(decide (E=F)&&decide (0≤i∧i≤((l.length:Nat):Int)))&&decide ((l.length+1)*32≤140737488355328))
 | _,_=>none

section
variable {P:Program} {N:Nat→Prop} {w0:World} {η:Env} {w w':World}
theorem A2B {c:Array Value} {Z:Nat→Prop} {w:World} {l:List A1l} (h:∀ (i:Nat) (x:A1l),l[i]? = some x→Lay Z w (.pair .str .str) x (fun j=>c[i*2+j]?)):∀ (j:Nat) (v:Value),(l.flatMap D7)[j]? = some v→c[j]? = some v:=by
 intro j v hv
 have hj:j<l.length*2:=by rw [← A3r];exact (List.getElem?_eq_some_iff.1 hv).1
 have hlt:j / 2<l.length:=by omega
 obtain ⟨e1,e2⟩:=A3q l (j / 2) l[j / 2] (List.getElem?_eq_getElem hlt)
 have hl:=h (j / 2) l[j / 2] (List.getElem?_eq_getElem hlt)
 simp only [Lay,Ty.cells] at hl
 rcases Nat.mod_two_eq_zero_or_one j with hm | hm
 ·have:j / 2*2=j:=by omega
  rw [this] at e1
  rw [e1] at hv
  rw [← hv]
  have h1:=hl.1
  rw [Nat.add_zero,this] at h1
  exact h1
 ·have:j / 2*2+1=j:=by omega
  rw [this] at e2
  rw [e2] at hv
  rw [← hv]
  have h1:=hl.2
  simp only [Nat.add_zero] at h1
  rw [show j / 2*2+1=j by omega] at h1
  exact h1
theorem A4L {c:Array Value} {Z:Nat→Prop} {w:World} {l:List A1l} (h:∀ (j:Nat) (v:Value),(l.flatMap D7)[j]? = some v→c[j]? = some v):∀ (i:Nat) (x:A1l),l[i]? = some x→Lay Z w (.pair .str .str) x (fun j=>c[i*2+j]?):=by
 intro i x hx
 obtain ⟨e1,e2⟩:=A3q l i x hx
 exact ⟨h _ _ e1,h _ _ e2⟩
end
end Go.Proofs.YtgglehejlddghaaGreat.Eng
