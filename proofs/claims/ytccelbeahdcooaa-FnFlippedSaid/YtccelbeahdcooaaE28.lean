/- The engine, part 28: an argument that was there at the call, opened as pure data. -/
import Derived.Test.YtccelbeahdcooaaE27
import Derived.ProofKit
namespace Go.Proofs.Ytccelbeahdcooaa.Eng
open Go Go.RowKit
set_option linter.unusedSimpArgs false
set_option linter.unusedVariables false

def chkF (rec:TypeId→Ty→Bool) (tt:TT):Nat→List Field→Ty→Bool
 | off,[f],ty=>f.offset==off&&((tt f.type).any fun d=>d.size==ty.cells)&&rec f.type ty
 | off,f::g::fs,.pair a b=>f.offset==off&&((tt f.type).any fun d=>d.size==a.cells)&&rec f.type a&&chkF rec tt (off+a.cells) (g::fs) b
 | _,_,_=>false
def chk (tt:TT):Nat→TypeId→Ty→Bool
 | 0,_,_=>false
 | k+1,t,ty =>
  match tt t with
  | none=>false
  | some d=>d.size==ty.cells&&match d.desc,ty with
   | .int ik,.int ik'=>decide (ik=ik')
   | .bool,.bool=>true
   | .string,.str=>true
   | .slice e,.sl ty'=>chk tt k e ty'
   | .struct fs,ty=>chkF (chk tt k) tt 0 fs.toList ty
   | _,_=>false

def bigT:(ty:Ty)→ty.den→Bool
 | .int k,x=>(Lit.int k x).wf
 | .bool,_=>true
 | .str,s=>decide (s.size≤maxLen)
 | .sl e,l=>decide (l.length≤maxLen)&&l.all (bigT e)
 | .pair a b,x=>bigT a x.1&&bigT b x.2

section
variable {P:Program} {w:World} {tt:TT} {H:Type} {enc:TypeId×Value→H} {spare:Nat→Bool} {held:Bool}

theorem list_of {α:Type} {Q:Nat→α→Prop}:∀ n,(∀ i,i<n→∃ x,Q i x)→∃ l:List α,l.length=n∧∀ (i:Nat) x,l[i]? = some x→Q i x:=by
 intro n
 induction n with
 | zero=>intro _;exact ⟨[],rfl,fun i x h=>by simp at h⟩
 | succ n ih =>
  intro h
  obtain ⟨l,h1,h2⟩:=ih (fun i hi=>h i (by omega))
  obtain ⟨x,hx⟩:=h n (by omega)
  refine ⟨l++[x],by simp [h1],fun i y hy=>?_⟩
  by_cases hi:i<n
  ·rw [List.getElem?_append_left (by omega)] at hy;exact h2 i y hy
  ·rw [List.getElem?_append_right (by omega)] at hy
   have:i=n:=by
    have:=(List.getElem?_eq_some_iff.1 hy).1
    simp at this;omega
   subst this
   simp [h1] at hy
   exact hy ▸ hx

theorem addr_add_add {a:Addr} (i j:Nat):(a.add i).add j=a.add (i+j):=by
 unfold Addr.add
 by_cases hi:i=0
 ·subst hi;simp
 ·by_cases hj:j=0
  ·subst hj;simp [hi]
  ·simp [hi,hj,Nat.add_assoc]

theorem open_trod (hT:TTok P tt):∀ (k:Nat) (t:TypeId) (ty:Ty) (fuel:Nat) (cs:List Value) (x:DataW H×List MemPlace),chk tt k t ty=true→DataW.trod enc P w 0 spare held fuel t cs=some x →
    ∃ y:ty.den,Lay (oldZ w false) w ty y (fun j=>cs[j]?)∧bigT ty y=true∧cs.length=ty.cells:=by
  intro k
  induction k with
  | zero=>intro t ty fuel cs x h;simp [chk] at h
  | succ k ih =>
    intro t ty fuel cs x hc h
    simp only [chk] at hc
    split at hc
    · cases hc
    · rename_i d hd
      have D:=hT t d hd
      simp only [Bool.and_eq_true,beq_iff_eq] at hc
      obtain ⟨hsz,hc⟩:=hc
      split at hc
      · rename_i ik ik' hdd
        obtain rfl:=of_decide_eq_true hc
        obtain ⟨n,rfl,rfl,hw⟩:=DataW.trod_int (by rw [D.und,hdd]) h
        exact ⟨n,rfl,hw,rfl⟩
      · rename_i hdd
        obtain ⟨b,rfl,rfl⟩:=DataW.trod_bool (by rw [D.und,hdd]) h
        exact ⟨b,rfl,rfl,rfl⟩
      · rename_i hdd
        obtain ⟨s,rfl,rfl,hs⟩:=DataW.trod_string (by rw [D.und,hdd]) h
        exact ⟨s,rfl,by simp [bigT,hs],rfl⟩
      · rename_i e ty' hdd
        rcases DataW.trod_slice (by rw [D.und,hdd]) h with ⟨rfl,rfl⟩ | ⟨a,len,cap,elems,rest,n,rfl,rfl,rfl,hb,hl,hm,hel,he,_⟩
        · exact ⟨[],⟨none,0,rfl,Nat.le_refl _,.inl rfl⟩,by simp [bigT],rfl⟩
        · have hcell : P.cellsOf e = ty'.cells ∧ ∃ d', tt e = some d' := by
            cases k with
            | zero=>simp [chk] at hc
            | succ k =>
              simp only [chk] at hc
              split at hc
              · cases hc
              · rename_i d' hd'
                simp only [Bool.and_eq_true,beq_iff_eq] at hc
                obtain ⟨i,hi,h1,_⟩:=(hT e d' hd').ex
                exact ⟨by simp [Program.cellsOf,hi,h1,hc.1],d', hd'⟩
          have each:∀ i,i<len→∃ y:ty'.den,(Lay (oldZ w false) w ty' y (fun j=>w.cell? (a.add (i*ty'.cells+j)))∧bigT ty' y=true)∧a.block<w.heap.size:=by
            intro i hi
            have h1:=he i hi
            rw [List.getElem?_eq_getElem (by omega)] at h1
            obtain ⟨cs', h2,h3⟩:=Option.bind_eq_some_iff.1 h1
            obtain ⟨y,q1,q2,q3⟩:=ih e ty' n cs' _ hc h3
            obtain ⟨_,r1,r2⟩:=World.cells?_some h2
            refine ⟨y,⟨Lay.congr ty' y _ _ (fun j hj=>?_) q1,q2⟩,?_⟩
            · rw [← r2 j (by rw [hcell.1];exact hj),addr_add_add,hcell.1]
            · have hb:=World.cells?_block h2 (by rw [hcell.1];exact ty'.cells_pos)
              have e1:(a.add (i*P.cellsOf e)).block=a.block:=by unfold Addr.add;split<;>rfl
              rwa [e1] at hb
          obtain ⟨l,l1,l2⟩:=list_of len each
          refine ⟨l,⟨some a,cap,by simp [l1],by rw [l1];exact hl,?_⟩,?_,rfl⟩
          · cases hl0:l with
            | nil=>exact .inl rfl
            | cons y r =>
              right
              rw [← hl0]
              exact ⟨a,rfl,⟨rfl,(l2 0 y (by rw [hl0];rfl)).2⟩,fun i z hz=>(l2 i z hz).1.1⟩
          · simp only [bigT,Bool.and_eq_true,decide_eq_true_eq,List.all_eq_true]
            refine ⟨by omega,fun y hy=>?_⟩
            obtain ⟨i,hi,rfl⟩:=List.getElem_of_mem hy
            exact (l2 i _ (List.getElem?_eq_getElem hi)).1.2
      · rename_i ty _ _ fs hdd
        obtain ⟨xs,n,rfl,rfl,hlen,hxl,hf⟩:=DataW.trod_struct (by rw [D.und,hdd]) h
        have hcl:cs.length=ty.cells:=by
          obtain ⟨i,hi,h1,_⟩:=D.ex
          rw [hlen];simp [Program.cellsOf,hi,h1,hsz]
        have key : ∀ (l : List Field) (off : Nat) (ty : Ty), chkF (chk tt k) tt off l ty = true → (∀ f ∈ l, ∃ y, DataW.trod enc P w 0 spare held n f.type ((cs.drop f.offset).take (P.cellsOf f.type)) = some y) → off + ty.cells ≤ cs.length →
            ∃ y:ty.den,Lay (oldZ w false) w ty y (fun j=>cs[off+j]?)∧bigT ty y=true:=by
          have cellsOf_eq:∀ (f:Field) (ty:Ty),((tt f.type).any fun d=>d.size==ty.cells)=true→P.cellsOf f.type=ty.cells:=by
            intro f ty hs
            cases hft:tt f.type with
            | none=>rw [hft] at hs;cases hs
            | some d' =>
              rw [hft] at hs
              simp only [Option.any_some,beq_iff_eq] at hs
              obtain ⟨i,hi,h1,_⟩:=(hT _ d' hft).ex
              simp [Program.cellsOf,hi,h1,hs]
          have one : ∀ (f : Field) (off : Nat) (ty : Ty), f.offset = off → P.cellsOf f.type = ty.cells → chk tt k f.type ty = true → (∃ y, DataW.trod enc P w 0 spare held n f.type ((cs.drop f.offset).take (P.cellsOf f.type)) = some y) →
              ∃ y:ty.den,Lay (oldZ w false) w ty y (fun j=>cs[off+j]?)∧bigT ty y=true:=by
            intro f off ty ho hs hck ⟨y,hy⟩
            obtain ⟨z,q1,q2,_⟩:=ih f.type ty n _ y hck hy
            refine ⟨z,Lay.congr ty z _ _ (fun j hj=>?_) q1,q2⟩
            rw [List.getElem?_take_of_lt (by rw [hs];exact hj),List.getElem?_drop,ho]
          intro l
          induction l with
          | nil=>intro off ty hck;simp [chkF] at hck
          | cons f l ihl =>
            intro off ty hck hall hle
            cases l with
            | nil =>
              simp only [chkF,Bool.and_eq_true,beq_iff_eq] at hck
              exact one f off ty hck.1.1 (cellsOf_eq f ty hck.1.2) hck.2 (hall f (by simp))
            | cons g fs' =>
              cases ty with
              | pair a b =>
                simp only [chkF,Bool.and_eq_true,beq_iff_eq] at hck
                obtain ⟨ya,a1,a2⟩:=one f off a hck.1.1.1 (cellsOf_eq f a hck.1.1.2) hck.1.2 (hall f (by simp))
                simp only [Ty.cells] at hle
                obtain ⟨yb,b1,b2⟩:=ihl (off+a.cells) b hck.2 (fun f' hf'=>hall f' (by simp [hf'])) (by omega)
                refine ⟨(ya,yb),⟨a1,Lay.congr b yb _ _ (fun j _=>by show cs[off+a.cells+j]? = cs[off+(a.cells+j)]?;rw [Nat.add_assoc]) b1⟩,by simp [bigT,a2,b2]⟩
              | _=>simp [chkF] at hck
        obtain ⟨y,y1,y2⟩:=key fs.toList 0 ty hc (fun f hf'=>by
          obtain ⟨i,hi,rfl⟩:=List.getElem_of_mem hf'
          have:=hf i fs.toList[i] (by rw [← Array.getElem?_toList];exact List.getElem?_eq_getElem hi)
          rw [this]
          exact ⟨_,List.getElem?_eq_getElem (by simp at hi;omega)⟩) (by omega)
        exact ⟨y,Lay.congr ty y _ _ (fun j _=>by simp) y1,y2,hcl⟩
      · cases hc

theorem lay_avs {Z:Bool→Nat→Prop}:∀ (ty:Ty) (y:ty.den) (off:Nat) (cs:List Value),Lay (Z false) w ty y (fun j=>cs[off+j]?)→(ty.toAVs false y).length=ty.cells ∧
  ∀ (η:Env) (h:Nat),η.Z=Z→∀ i c,(ty.toAVs false y)[i]? = some c→∃ v,cs[off+i]? = some v∧AVR η h w c v:=by
 intro ty
 induction ty with
 | pair a b iha ihb =>
  intro y off cs hl
  simp only [Lay] at hl
  obtain ⟨a1,a2⟩:=iha y.1 off cs hl.1
  obtain ⟨b1,b2⟩:=ihb y.2 (off+a.cells) cs (Lay.congr b y.2 _ _ (fun j _=>by show cs[off+(a.cells+j)]? = cs[off+a.cells+j]?;rw [Nat.add_assoc]) hl.2)
  refine ⟨by simp [Ty.toAVs,a1,b1,Ty.cells],fun η h hz i c hc=>?_⟩
  simp only [Ty.toAVs] at hc
  by_cases hi:i<(a.toAVs false y.1).length
  ·rw [List.getElem?_append_left hi] at hc
   exact a2 η h hz i c hc
  ·rw [List.getElem?_append_right (by omega)] at hc
   obtain ⟨v,v1,v2⟩:=b2 η h hz _ c hc
   exact ⟨v,by rw [← v1];congr 1;rw [a1] at hi ⊢;omega,v2⟩
 | sl e ih =>
  intro y off cs hl
  refine ⟨rfl,fun η h hz i c hc=>?_⟩
  cases i with
  | zero =>
   obtain rfl:AV.t false (.sl e) y=c:=by simpa [Ty.toAVs] using hc
   obtain ⟨A,cap,h0,h1,h2⟩:=hl
   refine ⟨_,h0,.t rfl ?_⟩
   rw [hz]
   exact ⟨A,cap,by simp,h1,h2⟩
  | succ i=>simp [Ty.toAVs] at hc
 | int k =>
  intro y off cs hl
  refine ⟨rfl,fun η h hz i c hc=>?_⟩
  cases i with
  | zero =>
   obtain rfl:AV.t true (.int k) y=c:=by simpa [Ty.toAVs] using hc
   exact ⟨_,hl,.t rfl rfl⟩
  | succ i=>simp [Ty.toAVs] at hc
 | bool =>
  intro y off cs hl
  refine ⟨rfl,fun η h hz i c hc=>?_⟩
  cases i with
  | zero =>
   obtain rfl:AV.t true .bool y=c:=by simpa [Ty.toAVs] using hc
   exact ⟨_,hl,.t rfl rfl⟩
  | succ i=>simp [Ty.toAVs] at hc
 | str =>
  intro y off cs hl
  refine ⟨rfl,fun η h hz i c hc=>?_⟩
  cases i with
  | zero =>
   obtain rfl:AV.t true .str y=c:=by simpa [Ty.toAVs] using hc
   exact ⟨_,hl,.t rfl rfl⟩
  | succ i=>simp [Ty.toAVs] at hc

theorem open_agg (hT:TTok P tt) {k:Nat} {t:TypeId} {ty:Ty} (hc:chk tt k t ty=true) {fs:Array Field} (hu:P.underlying t=some (.struct fs)) {v:Value} {d:DataW H} {ps:List MemPlace} (hv:Value.okWide P w .any 0 t v) (h:DataW.Trod enc P w 0 spare held t v d ps) :
  ∃ y:ty.den,AVR (envOf w) 0 w (.agg (ty.toAVs false y)) v∧bigT ty y=true:=by
 obtain ⟨fuel,hf⟩:=h
 simp only [Value.okWide,hu] at hv
 obtain ⟨cs,rfl,h1,_⟩:=hv
 obtain ⟨y,y1,y2,y3⟩:=open_trod hT k t ty fuel _ _ hc hf
 obtain ⟨q1,q2⟩:=lay_avs (Z:=(envOf w).Z) ty y 0 cs.toList (Lay.congr ty y _ _ (fun j _=>by simp [Value.cells]) y1)
 refine ⟨y,.agg (by rw [q1,← y3];simp [Value.cells]) (fun i c hi=>?_),y2⟩
 obtain ⟨u,u1,u2⟩:=q2 (envOf w) 0 rfl i c hi
 rw [Nat.zero_add,Array.getElem?_toList] at u1
 rw [getD_some u1]
 exact u2

theorem open_one (hT:TTok P tt) {k:Nat} {t:TypeId} {ty:Ty} (hc:chk tt k t ty=true) (h1:ty.cells=1) {v:Value} {d:DataW H} {ps:List MemPlace} (hv:v.cells=#[v]) (h:DataW.Trod enc P w 0 spare held t v d ps) :
    ∃ y:ty.den,AVR (envOf w) 0 w (.t false ty y) v∧bigT ty y=true:=by
  obtain ⟨fuel,hf⟩:=h
  rw [hv] at hf
  obtain ⟨y,y1,y2,y3⟩:=open_trod hT k t ty fuel _ _ hc hf
  exact ⟨y, .t h1 (Lay.congr ty y _ _ (fun j hj => by have : j = 0 := by omega
                                                      subst this;rfl) y1),y2⟩

theorem below_of (Hn:List AObj) {η:Env} {w w':World} (I:Inv (·<w.heap.size) w η Hn w'):Below w.heap.size w w' :=
 ⟨I.fr.os,I.fr.tape,I.fr.output,I.fr.size,fun k hk=>I.fr.block k hk⟩
theorem bool_of {η:Env} {h:Nat} {w:World} {b:Bool} {v:Value} (r:AVR η h w (.t true .bool b) v):v=.bool b:=by
 cases r with
 | t h1 hl=>simpa [Lay] using hl
end
end Go.Proofs.Ytccelbeahdcooaa.Eng
