/- The engine, part 5: reads and writes. -/
import Derived.Test.YtccelbeahdcooaaE4
namespace Go.Proofs.Ytccelbeahdcooaa.Eng
open Go Go.RowKit
set_option linter.unusedSimpArgs false

section
variable {P:Program} {N:Nat→Prop} {w0:World} {η0:Env} {h0:Nat} {we:World} {η:Env} {st:St} {a:Act} {w:World}

theorem getD_some {c:Array Value} {i:Nat} {u:Value} (h:c[i]? = some u):c.getD i undef=u:=by
 rw [Array.getD_eq_getD_getElem?,h];rfl
theorem getElem?_getD {c:Array Value} {i:Nat} (h:i<c.size):c[i]? = some (c.getD i undef):=by
 rw [Array.getD_eq_getD_getElem?,Array.getElem?_eq_getElem h];rfl

theorem take_drop_get {α:Type} {l:List α} {i n j:Nat} {x:α} (h:((l.drop i).take n)[j]? = some x):j<n∧l[i+j]? = some x:=by
 rw [List.getElem?_take] at h
 split at h
 ·rename_i hj;rw [List.getElem?_drop] at h;exact ⟨hj,h⟩
 ·cases h

theorem getD_get {α:Type} {l:List α} {i:Nat} (d:α) (h:i<l.length):l[i]? = some (l.getD i d):=by
 simp [List.getD_eq_getElem?_getD,List.getElem?_eq_getElem h]

theorem toNests_length (id row sz:Nat):∀ (t:Ty) (off:Nat) (x:t.den),(t.toNests id row sz off x).length=t.cells:=by
 intro t
 induction t with
 | pair a b iha ihb=>intro off x;simp only [Ty.toNests,List.length_append,iha,ihb,Ty.cells]
 | sl e _=>intro off x;simp only [Ty.toNests];split<;>rfl
 | _=>intro off x;rfl
theorem toNests_rel {h:Nat} (hn:∀ id r o,∃ A n c,η.nv id r o=.slice A n c) {id row:Nat} (hid:id<h) (hrw:row<η.ln id) (sz:Nat):∀ (t:Ty) (Es:List TypeId) (off:Nat) (x:t.den) (c:Nat→Option Value),Own η w id row t Es off x c →
    ∀ j a,(t.toNests id row sz off x)[j]? = some a→∃ v,c j=some v∧v.oneCell'=true∧AVR η h w a v:=by
  intro t
  induction t with
  | pair a b iha ihb =>
    intro Es off x c hl j y hj
    simp only [Ty.toNests] at hj
    by_cases hlt:j<(a.toNests id row sz off x.1).length
    · rw [List.getElem?_append_left hlt] at hj
      exact iha _ _ x.1 c hl.1 j y hj
    · rw [List.getElem?_append_right (by omega)] at hj
      obtain ⟨v,hv,h1,h2⟩:=ihb _ _ x.2 _ hl.2 _ y hj
      refine ⟨v,?_,h1,h2⟩
      rw [← hv]
      show c j=c (a.cells+(j - _))
      rw [toNests_length] at hlt ⊢
      congr 1;omega
  | int k =>
    intro Es off x c hl j y hj
    cases j with
    | zero => obtain rfl : _ = y := by simpa [Ty.toNests] using hj
              exact ⟨_,hl,rfl,.t rfl (by simp [Lay])⟩
    | succ j=>simp [Ty.toNests] at hj
  | bool =>
    intro Es off x c hl j y hj
    cases j with
    | zero => obtain rfl : _ = y := by simpa [Ty.toNests] using hj
              exact ⟨_,hl,rfl,.t rfl (by simp [Lay])⟩
    | succ j=>simp [Ty.toNests] at hj
  | str =>
    intro Es off x c hl j y hj
    cases j with
    | zero => obtain rfl : _ = y := by simpa [Ty.toNests] using hj
              exact ⟨_,hl,rfl,.t rfl (by simp [Lay])⟩
    | succ j=>simp [Ty.toNests] at hj
  | sl e _ =>
    intro Es off x c hl j y hj
    simp only [Ty.toNests] at hj
    split at hj
    · cases j with
      | zero => obtain rfl : _ = y := by simpa using hj
                obtain ⟨A,n,k,e⟩:=hn id row off
                exact ⟨_,hl.1,by rw [e];rfl,.nest hid hrw⟩
      | succ j=>simp at hj
    · rename_i hf
      cases j with
      | zero =>
        obtain rfl:_=y:=by simpa using hj
        obtain ⟨h0,h1⟩:=hl
        rcases h1 with ⟨⟨A,h2⟩,rfl⟩ | ⟨h2,_⟩
        · exact ⟨_,h0,by rw [h2];rfl,.t rfl ⟨A,0,by simp [h2],by simp,.inl rfl⟩⟩
        · exact absurd h2 hf
      | succ j=>simp at hj

theorem read_rel {H:List AObj} {S:List AV} {bs:Nat} {kl:List Nat} (I:Inv N w0 η H w) {n:Nat} {p:AV} {v:Value} {cs:List AV} (hr:St.read ⟨S,H,bs,kl⟩ n p=some cs) (r:AVR η H.length w p v) :
  ∃ ad,v=.pointer (some ad)∧cs.length=n∧∀ j c,cs[j]? = some c→∃ u,w.cell? (ad.add j)=some u∧u.oneCell'=true∧AVR η H.length w c u:=by
 cases r with
 | @ptr id row sz sub hid hrow =>
  simp only [St.read] at hr
  cases ho:H[id]? with
  | none=>rw [ho] at hr;cases hr
  | some o =>
   have R:=I.obj id o ho
   rw [ho] at hr
   cases o with
   | dead=>cases hr
   | hole E Es e l row off=>cases hr
   | box cs0 =>
    obtain ⟨hl,c,E,hc,hs,hcs⟩:=R
    obtain rfl:row=0:=by omega
    simp only [if_true] at hr
    split at hr
    ·rename_i hle
     obtain rfl:=Option.some.inj hr
     simp only [decide_eq_true_eq] at hle
     refine ⟨_,rfl,by simp;omega,fun j x hj=>?_⟩
     obtain ⟨hj1,hj2⟩:=take_drop_get hj
     obtain ⟨p1,p2⟩:=hcs _ x hj2
     refine ⟨_,?_,p2,p1⟩
     rw [addr_at,cell_block hc,← getElem?_getD (by omega)]
     congr 1;omega
    ·cases hr
   | rows E fr e l =>
    obtain ⟨hl,R⟩:=R
    simp only at hr
    split at hr
    ·rename_i hle
     obtain rfl:=Option.some.inj hr
     simp only [Bool.and_eq_true,decide_eq_true_eq] at hle
     obtain ⟨hsz,hle⟩:=hle
     rcases R with ⟨_,rfl⟩ | ⟨c,cap,h1,h2,h3,h4,h5,h6⟩
     ·simp at hl;omega
     ·refine ⟨_,rfl,by simp [toAVs_length];omega,fun j x hj=>?_⟩
      obtain ⟨hj1,hj2⟩:=take_drop_get hj
      obtain ⟨u,g1,g2,g3⟩:=toAVs_rel (h:=H.length) fr e _ _ (h6 row _ (getD_get e.dflt (by omega))) _ x hj2
      refine ⟨u,?_,g2,g3⟩
      rw [addr_at,cell_block h2,← g1]
      congr 1;rw [hsz];omega
    ·cases hr
   | deep E Es e l =>
    obtain ⟨hl,R⟩:=R
    simp only at hr
    split at hr
    ·rename_i hle
     obtain rfl:=Option.some.inj hr
     simp only [Bool.and_eq_true,decide_eq_true_eq] at hle
     obtain ⟨hsz,hle⟩:=hle
     rcases R with ⟨_,rfl⟩ | ⟨c,cap,h1,h2,h3,h4,h5,h6⟩
     ·simp at hl;omega
     ·refine ⟨_,rfl,by simp [toNests_length];omega,fun j x hj=>?_⟩
      obtain ⟨hj1,hj2⟩:=take_drop_get hj
      obtain ⟨u,g1,g2,g3⟩:=toNests_rel (h:=H.length) I.nvs hid hrow sz e Es 0 _ _ (h6 row _ (getD_get e.dflt (by omega))) _ x hj2
      refine ⟨u,?_,g2,g3⟩
      rw [addr_at,cell_block h2,← g1]
      congr 1;rw [hsz];omega
    ·cases hr
 | @rop fr e l row off ad hrow hz hl =>
  simp only [St.read] at hr
  split at hr
  ·rename_i hle
   obtain rfl:=Option.some.inj hr
   simp only [decide_eq_true_eq] at hle
   refine ⟨_,rfl,by simp [toAVs_length];omega,fun j x hj=>?_⟩
   obtain ⟨hj1,hj2⟩:=take_drop_get hj
   obtain ⟨u,g1,g2,g3⟩:=toAVs_rel (h:=H.length) fr e _ _ (hl row _ (getD_get e.dflt hrow)) _ x hj2
   refine ⟨u,?_,g2,g3⟩
   rw [addr_add,← g1]
   congr 2;omega
  ·cases hr
 | _=>simp [St.read] at hr

theorem run_isAgg' {t:TypeId} {d:TD} (ht:TDok P t d) (w:World):(isAgg t).run P w=.ok d.agg w:=by
 have hu:=run_underlying ht.und w
 rw [ht.agg]
 simp only [isAgg,Sem.run_bind,hu,Result.andThen_ok]
 cases d.desc<;>simp [aggOf]

theorem run_sizeOf' {t:TypeId} {d:TD} (ht:TDok P t d) (w:World):(sizeOf t).run P w=.ok d.size w:=by
 obtain ⟨i,h1,h2,_⟩:=ht.ex
 simp [sizeOf,typeInfo,h1,h2]

theorem run_zeroValue' {t:TypeId} {d:TD} (ht:TDok P t d) (w:World):∃ z,(zeroValue t).run P w=.ok z w∧z.cells.toList=d.zero:=by
 obtain ⟨i,h1,_,_,z,h2,h3,_⟩:=ht.ex
 exact ⟨z,by simp [zeroValue,typeInfo,h1,h2],h3⟩

theorem run_loadVar' {t:TypeId} {d:TD} (ht:TDok P t d) {ad:Addr} (w:World) (cs:List Value) (hl:cs.length=d.size) (hc:∀ j u,cs[j]? = some u→w.cell? (ad.add j)=some u) (h1:d.agg=false→d.size=1) :
  (loadVar t ad).run P w=.ok (if d.agg then .agg cs.toArray else cs.getD 0 undef) w:=by
 have hL:=run_loadCells_list (P:=P) w ad cs hc
 simp only [loadVar,Sem.run_bind,run_isAgg' ht,Result.andThen_ok]
 cases hd:d.agg with
 | true=>simp [run_sizeOf' ht,← hl,hL]
 | false =>
  have:cs.length=1:=by rw [hl];exact h1 hd
  match cs,this with
  | [u],_ =>
   have:=hc 0 u rfl
   have e:ad.add 0=ad:=by simp [Addr.add]
   rw [e] at this
   simp [run_load,this]

theorem packed_rel {h:Nat} {d:TD} {cs:List AV} {x:AV} {vs:List Value} (hp:packed d cs=some x) (hl:vs.length=cs.length) (hv:∀ j c,cs[j]? = some c→AVR η h w c (vs.getD j undef)) :
  cs.length=d.size∧(d.agg=false→d.size=1)∧AVR η h w x (if d.agg then .agg vs.toArray else vs.getD 0 undef):=by
 simp only [packed] at hp
 split at hp
 ·rename_i hs
  cases hd:d.agg with
  | true =>
   rw [hd] at hp
   simp only [if_true,Option.some.injEq] at hp
   subst hp
   refine ⟨hs,by simp,?_⟩
   simp only [if_true]
   refine .agg (by simpa using hl) (fun i c hc=>?_)
   have:=hv i c hc
   simpa [Array.getD_eq_getD_getElem?,List.getD_eq_getElem?_getD] using this
  | false =>
   rw [hd] at hp
   simp only [Bool.false_eq_true,if_false] at hp
   match cs,hp with
   | [c],hp =>
    obtain rfl:=Option.some.inj hp
    refine ⟨hs,fun _=>by simpa using hs.symm,?_⟩
    simpa using hv 0 c rfl
 ·cases hp

theorem vals_of {h:Nat} {ad:Addr} {cs:List AV} (hc:∀ j c,cs[j]? = some c→∃ u,w.cell? (ad.add j)=some u∧u.oneCell'=true∧AVR η h w c u) :
  ∃ vs:List Value,vs.length=cs.length∧(∀ j u,vs[j]? = some u→w.cell? (ad.add j)=some u)∧∀ j c,cs[j]? = some c→AVR η h w c (vs.getD j undef):=by
 refine ⟨(List.range cs.length).map fun j=>(w.cell? (ad.add j)).getD undef,by simp,fun j u hj=>?_,fun j c hj=>?_⟩
 ·obtain ⟨i,hi,rfl⟩:=getElem?_map_some hj
  have hlt:j<cs.length:=by
   have:=(List.getElem?_eq_some_iff.1 hi).1;simpa using this
  obtain rfl:j=i:=by rw [List.getElem?_range hlt] at hi;simpa using hi
  obtain ⟨u,hu,_⟩:=hc j _ (List.getElem?_eq_getElem hlt)
  simp [hu]
 ·obtain ⟨u,hu,_,ha⟩:=hc j c hj
  have hlt:j<cs.length:=(List.getElem?_eq_some_iff.1 hj).1
  simp [List.getD_eq_getElem?_getD,List.getElem?_map,List.getElem?_range hlt,hu]
  exact ha
end
end Go.Proofs.Ytccelbeahdcooaa.Eng
