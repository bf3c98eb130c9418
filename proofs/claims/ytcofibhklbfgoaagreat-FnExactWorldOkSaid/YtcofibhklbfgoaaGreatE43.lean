/- The engine, part 43: the library's Insert on pairs of strings, as a contract on objects. -/
import Derived.Test.YtcofibhklbfgoaaGreatE42
namespace Go.Proofs.YtcofibhklbfgoaaGreat.Eng
open Go Go.RowKit
set_option linter.unusedSimpArgs false
set_option linter.unusedVariables false
abbrev A02:=ByteArray×ByteArray
def D0 (p:A02):List Value:=[.string p.1,.string p.2]
theorem A2U:∀ l:List A02,(l.flatMap D0).length=l.length*2
 | []=>rfl
 | p::l=>by rw [List.flatMap_cons,List.length_append,A2U l];simp [D0];omega
theorem A3A:∀ (l:List A02) (i:Nat),(l.flatMap D0).take (i*2)=(l.take i).flatMap D0
 | [],i=>by simp
 | p::l,0=>by simp
 | p::l,i+1=>by
  rw [List.take_succ_cons,List.flatMap_cons,List.flatMap_cons,← A3A l i,show (i+1)*2=(D0 p).length+i*2 by simp [D0];omega,List.take_length_add_append]
theorem A3z:∀ (l:List A02) (i:Nat),(l.flatMap D0).drop (i*2)=(l.drop i).flatMap D0
 | [],i=>by simp
 | p::l,0=>by simp
 | p::l,i+1=>by
  rw [List.drop_succ_cons,List.flatMap_cons,← A3z l i,show (i+1)*2=(D0 p).length+i*2 by simp [D0];omega,List.drop_length_add_append]
theorem A2T:∀ (l:List A02) (i:Nat) (p:A02),l[i]? = some p→(l.flatMap D0)[i*2]? = some (.string p.1)∧(l.flatMap D0)[i*2+1]? = some (.string p.2)
 | [],i,p,h=>by simp at h
 | q::l,0,p,h=>by simp at h;subst h;simp [D0]
 | q::l,i+1,p,h=>by
  have ih:=A2T l i p (by simpa using h)
  rw [List.flatMap_cons,show (i+1)*2=i*2+2 by omega,show i*2+2+1=(i*2+1)+2 by omega]
  simp only [D0,List.cons_append,List.nil_append,List.getElem?_cons_succ]
  exact ih
theorem A5C:∀ (l:List A02),∀ v∈l.flatMap D0,v.oneCell'=true:=by
 intro l v hv
 obtain ⟨p,_,h⟩:=List.mem_flatMap.1 hv
 simp [D0] at h
 rcases h with rfl | rfl<;>rfl
theorem A5B (l:List A02) (i:Nat) (x:A02):(l.take i++x::l.drop i).flatMap D0=(l.flatMap D0).take (i*2)++(D0 x++(l.flatMap D0).drop (i*2)):=by
 rw [A3A,A3z,List.flatMap_append,List.flatMap_cons]

def A5I (F:TypeId):Summ:=fun args H=>match args,H with
 | [.all 0 2,.t fi (.int .i64) i,.all 1 2],[.rows E f (.pair .str .str) l,.rows E2 f2 (.pair .str .str) [x]] =>
  some (.all 0 2,[.rows E true (.pair .str .str) (l.take i.toNat++x::l.drop i.toNat),.dead],[0],(decide (E=F)&&decide (0≤i∧i≤((l.length:Nat):Int)))&&decide ((l.length+1)*32≤140737488355328))
 | _,_=>none

section
variable {P:Program} {N:Nat→Prop} {w0:World} {η:Env} {w w':World}
theorem A13 {c:Array Value} {Z:Nat→Prop} {w:World} {l:List A02} (h:∀ (i:Nat) (x:A02),l[i]? = some x→Lay Z w (.pair .str .str) x (fun j=>c[i*2+j]?)):∀ (j:Nat) (v:Value),(l.flatMap D0)[j]? = some v→c[j]? = some v:=by
 intro j v hv
 have hj:j<l.length*2:=by rw [← A2U];exact (List.getElem?_eq_some_iff.1 hv).1
 have hlt:j / 2<l.length:=by omega
 obtain ⟨e1,e2⟩:=A2T l (j / 2) l[j / 2] (List.getElem?_eq_getElem hlt)
 have hl:=h (j / 2) l[j / 2] (List.getElem?_eq_getElem hlt)
 simp only [Lay,Ty.cells] at hl
 rcases Nat.mod_two_eq_zero_or_one j with hm | hm
 ·have:j / 2*2=j:=by omega
  rw [this] at e1
  rw [e1] at hv
  rw [← hv]
  have h1:=hl.1
  rw [Nat.add_zero,this] at h1
  exact h1
 ·have:j / 2*2+1=j:=by omega
  rw [this] at e2
  rw [e2] at hv
  rw [← hv]
  have h1:=hl.2
  simp only [Nat.add_zero] at h1
  rw [show j / 2*2+1=j by omega] at h1
  exact h1
theorem A30 {c:Array Value} {Z:Nat→Prop} {w:World} {l:List A02} (h:∀ (j:Nat) (v:Value),(l.flatMap D0)[j]? = some v→c[j]? = some v):∀ (i:Nat) (x:A02),l[i]? = some x→Lay Z w (.pair .str .str) x (fun j=>c[i*2+j]?):=by
 intro i x hx
 obtain ⟨e1,e2⟩:=A2T l i x hx
 exact ⟨h _ _ e1,h _ _ e2⟩
end
end Go.Proofs.YtcofibhklbfgoaaGreat.Eng
