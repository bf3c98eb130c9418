/- The engine, part 8: one operation, further. -/
import Derived.Test.YtccelbeahdcooaaE7
namespace Go.Proofs.Ytccelbeahdcooaa.Eng
open Go Go.RowKit
set_option linter.unusedSimpArgs false

section
variable {P:Program} {N:Nat→Prop} {w0:World} {η0:Env} {h0:Nat} {we:World} {R:Type}
variable {η:Env} {st:St} {a:Act} {w:World} {o:Oper} {next:Act→World→Prop} {Q:Exit→Act→World→Prop} {K:AV→St→Option R} {r:R} {tt:TT} {S:Tab}

theorem descOf_spec {t:TypeId} {d:TypeDesc} (hT:TTok P tt) (h:descOf tt t=some d):P.underlying t=some d:=by
 simp only [descOf] at h
 obtain ⟨x,h1,h2⟩:=Option.bind_eq_some_iff.1 h
 obtain rfl:=Option.some.inj h2
 exact (hT _ _ h1).und

theorem elemOf_spec {t E:TypeId} {d:TD} (hT:TTok P tt) (h:elemOf' tt t=some (E,d)):P.underlying t=some (.slice E)∧TDok P E d:=by
 simp only [elemOf'] at h
 obtain ⟨x,h1,h⟩:=Option.bind_eq_some_iff.1 h
 have td:=hT _ _ h1
 cases hx:x.desc<;>rw [hx] at h<;>simp only at h<;>try cases h
 obtain ⟨y,h2,h⟩:=Option.map_eq_some_iff.1 h
 simp only [Prod.mk.injEq] at h
 obtain ⟨rfl,rfl⟩:=h
 exact ⟨by rw [td.und,hx],hT _ _ h2⟩

theorem all_rel {H:List AObj} (I:Inv N w0 η H w) {id:Nat} {E:TypeId} {fr:Bool} {e:Ty} {l:List e.den} (ho:H[id]? = some (.rows E fr e l)) :
  η.ln id=l.length∧((nulV (η.hv id)∧l=[])∨∃ cap,η.hv id=.slice (some ⟨η.ι id,0,none⟩) l.length cap∧l.length≤cap):=by
 obtain ⟨h1,h2⟩:=I.obj id _ ho
 refine ⟨h1,h2.imp (fun h=>h) ?_⟩
 rintro ⟨c,cap,g1,g2,g3,_⟩
 exact ⟨cap,g1,g3⟩

theorem all_relD {H:List AObj} (I:Inv N w0 η H w) {id:Nat} {E:TypeId} {Es:List TypeId} {e:Ty} {l:List e.den} (ho:H[id]? = some (.deep E Es e l)) :
  η.ln id=l.length∧((nulV (η.hv id)∧l=[])∨∃ cap,η.hv id=.slice (some ⟨η.ι id,0,none⟩) l.length cap∧l.length≤cap):=by
 obtain ⟨h1,h2⟩:=I.obj id _ ho
 refine ⟨h1,h2.imp (fun h=>h) ?_⟩
 rintro ⟨c,cap,g1,g2,g3,_⟩
 exact ⟨cap,g1,g3⟩
def RowsAt (H:List AObj) (id:Nat) (e:Ty) (l:List e.den):Prop:=(∃ E fr,H[id]? = some (.rows E fr e l))∨∃ E Es,H[id]? = some (.deep E Es e l)
theorem all_rel2 {H:List AObj} (I:Inv N w0 η H w) {id:Nat} {e:Ty} {l:List e.den} (ho:RowsAt H id e l) :
  η.ln id=l.length∧((nulV (η.hv id)∧l=[])∨∃ cap,η.hv id=.slice (some ⟨η.ι id,0,none⟩) l.length cap∧l.length≤cap):=by
 rcases ho with ⟨E,fr,h⟩ | ⟨E,Es,h⟩
 ·exact all_rel I h
 ·exact all_relD I h

theorem Own.len {id row:Nat}:∀ (t:Ty) (Es:List TypeId) (off:Nat) (x:t.den) (c:Nat→Option Value),Own η w id row t Es off x c →
  ∀ j fr e' l', (t.toAVs false x)[j]? = some (.t fr (.sl e') l')→∃ A cap,η.nv id row (off+j)=.slice A l'.length cap∧l'.length≤cap:=by
 intro t
 induction t with
 | int k=>intro Es off x c h j fr e' l' hj;cases j<;>simp [Ty.toAVs] at hj
 | bool=>intro Es off x c h j fr e' l' hj;cases j<;>simp [Ty.toAVs] at hj
 | str=>intro Es off x c h j fr e' l' hj;cases j<;>simp [Ty.toAVs] at hj
 | sl e _ =>
  intro Es off x c h j fr e' l' hj
  cases j with
  | zero =>
   simp only [Ty.toAVs,List.getElem?_cons_zero,Option.some.injEq,AV.t.injEq,Ty.sl.injEq] at hj
   obtain ⟨rfl,rfl,hj⟩:=hj
   obtain rfl:=eq_of_heq hj
   rcases h.2 with ⟨⟨A,h1⟩,rfl⟩ | ⟨_,b,d,cap,q1,_,_,q4,_⟩
   ·exact ⟨A,0,h1,Nat.le_refl _⟩
   ·exact ⟨_,cap,q1,q4⟩
  | succ j=>simp [Ty.toAVs] at hj
 | pair a b iha ihb =>
  intro Es off x c h j fr e' l' hj
  simp only [Ty.toAVs] at hj
  by_cases hlt:j<(a.toAVs false x.1).length
  ·rw [List.getElem?_append_left hlt] at hj
   exact iha _ _ _ _ h.1 j fr e' l' hj
  ·rw [List.getElem?_append_right (by omega)] at hj
   have:=ihb _ _ _ _ h.2 _ fr e' l' hj
   rw [toAVs_length] at hlt this
   rw [show off+a.cells+(j - a.cells)=off+j by omega] at this
   exact this

theorem slOnly_some {o:Option AV} {fr:Bool} {e:Ty} {l:List e.den} (h:slOnly o=.t fr (.sl e) l):∃ f,o=some (.t f (.sl e) l)∧fr=false:=by
 unfold slOnly at h
 split at h
 ·rename_i f e' l'
  simp only [AV.t.injEq,Ty.sl.injEq] at h
  obtain ⟨rfl,rfl,h⟩:=h
  obtain rfl:=eq_of_heq h
  exact ⟨f,rfl,rfl⟩
 ·cases h

theorem len_rel {H:List AObj} (I:Inv N w0 η H w) {x:AV} {v:Value} {n:Nat} (r:AVR η H.length w x v) (hl:x.len H=some n) :
  (∃ s fr,x=.t fr .str s∧v=.string s∧s.size=n)∨((∀ fr s,x ≠ .t fr .str s)∧∃ A c,v=.slice A n c∧n≤c):=by
 cases r with
 | @t fr ty y v h1 hlay =>
  cases ty with
  | str =>
   simp only [AV.len,Option.some.injEq] at hl
   simp only [Lay,if_true,Option.some.injEq] at hlay
   exact .inl ⟨y,fr,rfl,hlay,hl⟩
  | sl e =>
   simp only [AV.len,Option.some.injEq] at hl
   obtain ⟨A,cap,c1,c2,_⟩:=hlay
   simp only [if_true,Option.some.injEq] at c1
   subst hl
   exact .inr ⟨by simp,A,cap,c1,c2⟩
  | _=>simp [AV.len] at hl
 | raw v =>
  have:v=.slice none 0 0∧n=0:=by
   simp only [AV.len] at hl
   split at hl
   ·rename_i he;simp at he;exact ⟨he,by simpa using hl.symm⟩
   all_goals (first | (rename_i he;cases he;done) | cases hl)
  obtain ⟨rfl,rfl⟩:=this
  exact .inr ⟨by simp,_,_,rfl,Nat.le_refl _⟩
 | @all id sz hid =>
  simp only [AV.len] at hl
  split at hl
  ·rename_i E fr e l ho
   split at hl
   ·obtain ⟨_,h2⟩:=all_rel I ho
    simp only [Option.some.injEq] at hl
    subst hl
    rcases h2 with ⟨⟨B,e1⟩,rfl⟩ | ⟨cap,e1,e2⟩
    ·exact .inr ⟨by simp,B,0,e1,Nat.le_refl _⟩
    ·exact .inr ⟨by simp,_,_,e1,e2⟩
   ·cases hl
  ·rename_i E Es e l ho
   split at hl
   ·obtain ⟨_,h2⟩:=all_relD I ho
    simp only [Option.some.injEq] at hl
    subst hl
    rcases h2 with ⟨⟨B,e1⟩,rfl⟩ | ⟨cap,e1,e2⟩
    ·exact .inr ⟨by simp,B,0,e1,Nat.le_refl _⟩
    ·exact .inr ⟨by simp,_,_,e1,e2⟩
   ·cases hl
  ·cases hl
 | arr hid hn hlo hA =>
  simp only [AV.len,Option.some.injEq] at hl
  subst hl
  exact .inr ⟨by simp,_,_,rfl,hn⟩
 | pre hid hv hn hc =>
  simp only [AV.len,Option.some.injEq] at hl
  subst hl
  exact .inr ⟨by simp,_,_,rfl,hc⟩
 | @nest id row sz off hid hr =>
  simp only [AV.len] at hl
  split at hl
  ·rename_i E Es e l ho
   split at hl
   ·split at hl
    ·rename_i fr e' y hy
     simp only [Option.some.injEq] at hl
     subst hl
     obtain ⟨f,hy,_⟩:=slOnly_some hy
     obtain ⟨hln,R⟩:=I.obj id _ ho
     have hrow:row<l.length:=by rw [← hln];exact hr
     rcases R with ⟨_,rfl⟩ | ⟨c,cap,q1,q2,q3,q4,q5,q6⟩
     ·simp at hrow
     ·obtain ⟨A,cp,h1,h2⟩:=Own.len _ _ _ _ _ (q6 row _ (getD_get e.dflt hrow)) off _ _ _ hy
      rw [Nat.zero_add] at h1
      exact .inr ⟨by simp,A,cp,h1,h2⟩
    ·cases hl
   ·cases hl
  ·cases hl
 | _=>simp [AV.len] at hl

theorem lenOk_slice {d:TypeDesc} {x:AV} (h:lenOk d x=true) (hne:∀ fr s,x ≠ .t fr .str s):∃ E,d=.slice E:=by
 unfold lenOk at h
 split at h
 ·exact absurd rfl (hne _ _)
 ·exact ⟨_,rfl⟩
 ·exact ⟨_,rfl⟩
 ·exact ⟨_,rfl⟩
 ·exact ⟨_,rfl⟩
 ·exact ⟨_,rfl⟩
 ·exact ⟨_,rfl⟩
 ·cases h

theorem ofInt_rel {h:Nat} (n:Int):AVR η h w (.t true (.int .i64) n) (.int .i64 n):=.t rfl (by simp [Lay])

theorem op_len [DF] (hT:TTok P tt) (s:SR N w0 η0 h0 we η st a w) {c:Call} (ho:o.op=.call c) (hcal:c.callee=.builtin .len) {x:Operand} {t:TypeId} (hx:c.args.toList=[x]) (ht:c.argTypes.toList=[t])
  {d:TypeDesc} (hd:descOf tt t=some d) {n:Nat} (hl:(st.ev x).len st.heap=some n) (hok:lenOk d (st.ev x)=true) (hk:K (.t true (.int .i64) (n:Int)) st=some r) (hp:Post N w0 η0 h0 we K r o a next):o.wp P a w next Q:=by
 have hu:=descOf_spec hT hd
 have ea:c.args=#[x]:=by rw [← Array.toArray_toList (xs:=c.args),hx]
 have et:c.argTypes=#[t]:=by rw [← Array.toArray_toList (xs:=c.argTypes),ht]
 refine wp_value (w':=w) ?_ (hp _ _ _ _ _ hk s (ofInt_rel _))
 rcases len_rel s.inv (s.ev x) hl with ⟨b,fr,e1,e2,e3⟩ | ⟨hne,A,cap,e2,_⟩
 ·rw [e1] at hok
  cases d<;>simp [lenOk] at hok
  simp [execOp,ho,resolve,hcal,ea,et,invoke,builtin,Builtin.len_,run_underlying hu,e2,goInt,e3]
 ·obtain ⟨E,rfl⟩:=lenOk_slice hok hne
  simp [execOp,ho,resolve,hcal,ea,et,invoke,builtin,Builtin.len_,run_underlying hu,e2,goInt]

theorem binSp_pure {op:BinOp} {t:TypeId} {x y:Operand} {a b v:Value} (h:binSp op a b=some (true,v)):pureSem P (do eqGuard op t x y a b;binOp op t a b)=some v:=by
 unfold binSp at h
 split at h
 ·simp only [Option.some.injEq,Prod.mk.injEq,decide_eq_true_eq] at h
  obtain ⟨h1,rfl⟩:=h
  have e:¬ ((_:Nat):Int) > IntKind.i64.max:=Int.not_lt.2 h1
  show pureSem P (Op.stringOp .add _ _)=_
  simp only [Op.stringOp]
  rw [if_neg e];rfl
 ·split at h
  ·rename_i hk
   subst hk
   simp only [Option.some.injEq,Prod.mk.injEq,decide_eq_true_eq] at h
   obtain ⟨h1,rfl⟩:=h
   show pureSem P (if _ ≠ _ then _ else Op.intDiv .quo _ _ _)=_
   rw [if_neg (by simp)]
   simp only [Op.intDiv]
   rw [if_neg h1];rfl
  ·cases h
 ·split at h
  ·rename_i hk
   subst hk
   simp only [Option.some.injEq,Prod.mk.injEq,decide_eq_true_eq] at h
   obtain ⟨h1,rfl⟩:=h
   show pureSem P (if _ ≠ _ then _ else Op.intDiv .rem _ _ _)=_
   rw [if_neg (by simp)]
   simp only [Op.intDiv]
   rw [if_neg h1];rfl
  ·cases h
 ·rename_i k1 a1 k2 b1
  simp only [Option.some.injEq,Prod.mk.injEq,decide_eq_true_eq] at h
  obtain ⟨h1,rfl⟩:=h
  show pureSem P (Op.shift .shl k1 a1 k2 b1)=_
  simp only [Op.shift]
  rw [if_neg (Int.not_lt.2 h1)];rfl
 ·rename_i k1 a1 k2 b1
  simp only [Option.some.injEq,Prod.mk.injEq,decide_eq_true_eq] at h
  obtain ⟨h1,rfl⟩:=h
  show pureSem P (Op.shift .shr k1 a1 k2 b1)=_
  simp only [Op.shift]
  rw [if_neg (Int.not_lt.2 h1)];rfl
 ·cases h

theorem op_binOp [DF] (s:SR N w0 η0 h0 we η st a w) {op:BinOp} {t t':TypeId} {x y:Operand} (ho:o.op=.binOp op t x y t') {u v z:Value} (hx:(st.ev x).toValue=some u) (hy:(st.ev y).toValue=some v)
  (hz:pureSem P (do eqGuard op t x y u v;binOp op t u v)=some z) (hk:K (.ofValue z) st=some r) (hp:Post N w0 η0 h0 we K r o a next):o.wp P a w next Q:=by
 have e1:=toValue_rel (s.ev x) hx
 have e2:=toValue_rel (s.ev y) hy
 have hrun:=pureSem_run P _ z hz w
 refine wp_value (w':=w) ?_ (hp _ _ _ _ _ hk s (ofValue_rel z))
 simp only [execOp,ho,e1,e2,Sem.run_bind,hrun,Result.andThen_ok,Sem.run_pure] at *

theorem op_unOp [DF] (s:SR N w0 η0 h0 we η st a w) {op:UnOp} {t:TypeId} {x:Operand} (ho:o.op=.unOp op t x) {u z:Value} (hx:(st.ev x).toValue=some u)
  (hz:pureSem P (Op.unary op u)=some z) (hk:K (.ofValue z) st=some r) (hp:Post N w0 η0 h0 we K r o a next):o.wp P a w next Q:=by
 have e1:=toValue_rel (s.ev x) hx
 have hrun:=pureSem_run P _ z hz w
 refine wp_value (w':=w) ?_ (hp _ _ _ _ _ hk s (ofValue_rel z))
 simp [execOp,ho,e1,hrun]

theorem op_convert [DF] (s:SR N w0 η0 h0 we η st a w) {t t':TypeId} {x:Operand} (ho:o.op=.convert t t' x) {u z:Value} (hx:(st.ev x).toValue=some u)
  (hz:pureSem P (convert t t' u)=some z) (hk:K (.ofValue z) st=some r) (hp:Post N w0 η0 h0 we K r o a next):o.wp P a w next Q:=by
 have e1:=toValue_rel (s.ev x) hx
 have hrun:=pureSem_run P _ z hz w
 refine wp_value (w':=w) ?_ (hp _ _ _ _ _ hk s (ofValue_rel z))
 simp [execOp,ho,e1,hrun]

theorem op_extract [DF] (s:SR N w0 η0 h0 we η st a w) {x:Operand} {i:Nat} (ho:o.op=.extract x i) {cs:List AV} (hx:st.ev x=.tup cs) {c:AV} (hc:cs[i]? = some c)
  (hk:K c st=some r) (hp:Post N w0 η0 h0 we K r o a next):o.wp P a w next Q:=by
 have hr:=s.ev x
 rw [hx] at hr
 generalize hu:a.eval x=u at hr
 cases hr with
 | tup hsz hcs =>
  have hlt:=(List.getElem?_eq_some_iff.1 hc).1
  have hcc:=hcs i c hc
  have hg:=getElem?_getD (show i<_ by rw [hsz];exact hlt)
  generalize Array.getD _ i undef=y at hcc hg
  refine wp_value (w':=w) ?_ (hp _ _ _ _ _ hk s hcc)
  simp [execOp,ho,hu,Instr.extract,hg]

theorem op_makeFunc [DF] (s:SR N w0 η0 h0 we η st a w) {f:FuncId} {first captured:Array Operand} (ho:o.op=.makeFunc (.func f) first captured) (hf:first.isEmpty=true)
  (hk:K (.fn f (captured.toList.map st.ev)) st=some r) (hp:Post N w0 η0 h0 we K r o a next):o.wp P a w next Q:=by
 have e:first=#[]:=by simpa using hf
 refine wp_value (w':=w) ?_ (hp _ _ _ _ _ hk s (.fn (vs:=captured.map a.eval) (by simp) (fun i c hc=>?_)))
 ·simp [execOp,ho,e,Instr.makeFunc]
 ·obtain ⟨y,hy,rfl⟩:=getElem?_map_some hc
  have:(captured.map a.eval).getD i undef=a.eval y:=getD_some (by rw [Array.getElem?_map,← Array.getElem?_toList,hy];rfl)
  rw [this];exact s.ev y

theorem op_indexAddr [DF] (hT:TTok P tt) (s:SR N w0 η0 h0 we η st a w) {t:TypeId} {x i:Operand} (ho:o.op=.indexAddr t x i) {E:TypeId} {d:TD} (he:elemOf' tt t=some (E,d)) {n:Int} (hi:(st.ev i).asInt=some n) {v:AV}
  (hv:(∃ fr e l,st.ev x=.t fr (.sl e) l∧e.cells=d.size∧0≤n∧n<(l.length:Int)∧v=.rop fr e l n.toNat 0) ∨
   (∃ id sz e l,st.ev x=.all id sz∧RowsAt st.heap id e l∧e.cells=d.size∧e.cells=sz∧0≤n∧n<(l.length:Int)∧v=.ptr id n.toNat sz 0) ∨
   (∃ id sz lo k,st.ev x=.arr id sz lo k∧sz=d.size∧0≤n∧n<(k:Int)∧v=.ptr id (lo+n.toNat) sz 0) ∨
   (∃ id sz k E' fr e l,st.ev x=.pre id sz k∧st.heap[id]? = some (.rows E' fr e l)∧e.cells=d.size∧e.cells=sz∧0≤n∧n<(k:Int)∧n<(l.length:Int)∧v=.ptr id n.toNat sz 0))
  (hk:K v st=some r) (hp:Post N w0 η0 h0 we K r o a next):o.wp P a w next Q:=by
 obtain ⟨hu,td⟩:=elemOf_spec hT he
 obtain ⟨k,ei⟩:=asInt_rel (s.ev i) hi
 have hx:=s.ev x
 have key:∃ ad m cap,a.eval x=.slice (some ad) m cap∧0≤n∧n<(m:Int)∧AVR η st.heap.length w v (.pointer (some (ad.add (n.toNat*d.size)))):=by
  rcases hv with ⟨fr,e,l,e1,e2,h1,h2,rfl⟩ | ⟨id,sz,e,l,e1,e2,e3,e4,h1,h2,rfl⟩ | ⟨id,sz,lo,m,e1,e2,h1,h2,rfl⟩ | ⟨id,sz,m,E', fr,e,l,e1,e2,e3,e4,h1,h2,h3,rfl⟩
  ·rw [e1] at hx
   generalize a.eval x=u at hx
   cases hx with
   | t hc hl =>
    obtain ⟨A,cap,c1,c2,c3⟩:=hl
    simp only [if_true,Option.some.injEq] at c1
    rcases c3 with rfl | ⟨ad,rfl,hz,c4⟩
    ·simp at h2;omega
    ·refine ⟨ad,l.length,cap,c1,h1,h2,?_⟩
     have:=@AVR.rop η st.heap.length w fr e l n.toNat 0 ad (by omega) hz c4
     rwa [Nat.add_zero,e2] at this
  ·rw [e1] at hx
   generalize a.eval x=u at hx
   cases hx with
   | all hid =>
    obtain ⟨g1,g2⟩:=all_rel2 s.inv e2
    rcases g2 with ⟨_,rfl⟩ | ⟨cap,g2,g3⟩
    ·simp at h2;omega
    ·refine ⟨_,l.length,cap,g2,h1,h2,?_⟩
     rw [addr_at,Nat.zero_add,← e3,e4]
     exact .ptr hid (by omega)
  ·rw [e1] at hx
   generalize a.eval x=u at hx
   cases hx with
   | @arr id sz lo m cap A hid hn hlo hA =>
    obtain rfl:=hA (by omega)
    refine ⟨_,m,cap,rfl,h1,h2,?_⟩
    rw [addr_at,← e2,← Nat.add_mul]
    exact .ptr hid (by omega)
  ·rw [e1] at hx
   generalize a.eval x=u at hx
   cases hx with
   | @pre id sz _ m' cap A hid hv hn hc =>
    obtain ⟨g1,g2⟩:=all_rel s.inv e2
    rcases g2 with ⟨_,rfl⟩ | ⟨cap', g2,g3⟩
    ·simp at h3;omega
    ·rw [g2] at hv
     cases hv
     refine ⟨_,m,cap,rfl,h1,h2,?_⟩
     rw [addr_at,Nat.zero_add,← e3,e4]
     exact .ptr hid (by omega)
 obtain ⟨ad,m,cap,ex,h1,h2,rv⟩:=key
 refine wp_value (w':=w) ?_ (hp _ _ _ _ _ hk s rv)
 simp [execOp,ho,ex,ei,Instr.indexAt,asIntOf,run_underlying hu,run_sizeOf' td,h1,h2]

theorem op_index [DF] (hT:TTok P tt) (s:SR N w0 η0 h0 we η st a w) {t:TypeId} {x i:Operand} (ho:o.op=.index t x i) (hd:descOf tt t=some .string) {fr:Bool} {b:ByteArray} (hx:st.ev x=.t fr .str b) {n:Int} (hi:(st.ev i).asInt=some n)
  (h1:0≤n) (h2:n<(b.size:Int)) (hk:K (.t true (.int .u8) (bt b n)) st=some r) (hp:Post N w0 η0 h0 we K r o a next):o.wp P a w next Q:=by
 have hu:=descOf_spec hT hd
 obtain ⟨k,ei⟩:=asInt_rel (s.ev i) hi
 have hr:=s.ev x
 rw [hx] at hr
 have ex:a.eval x=.string b:=toValue_rel hr rfl
 have hlt:n.toNat<b.size:=by omega
 refine wp_value (w':=w) ?_ (hp _ _ _ _ _ hk s (.t (v:=.int .u8 (bt b n)) rfl (by simp [Lay])))
 have hb:b[n.toNat]? = some (b[n.toNat]'hlt):=by simp [hlt]
 simp [execOp,ho,ex,ei,Instr.index,asIntOf,run_underlying hu,h1,hb,bt,hlt]

theorem run_sizeOf1 {t:TypeId} {d:TD} (td:TDok P t d) (h:d.size=1) (w:World):(sizeOf t).run P w=.ok 1 w:=by rw [run_sizeOf' td,h]
theorem op_addrArr [DF] (hT:TTok P tt) (s:SR N w0 η0 h0 we η st a w) {t:TypeId} {x i:Operand} (ho:o.op=.indexAddr t x i) {n:Int} (hi:(st.ev i).asInt=some n) {b:Bool} {v:AV} (hv:arrAddr tt t st.heap (st.ev x) n=some (b,v))
  (hk:cond b (K v st) none=some r) (hp:Post N w0 η0 h0 we K r o a next):o.wp P a w next Q:=by
 obtain ⟨rfl,hk⟩:=cond_none hk
 obtain ⟨k,ei⟩:=asInt_rel (s.ev i) hi
 unfold arrAddr at hv
 split at hv
 ·rename_i id hx
  split at hv
  ·rename_i d E fr k' l hd hob
   split at hv
   ·rename_i k1 hak
    split at hv
    ·rename_i hkk
     simp only [Option.some.injEq,Prod.mk.injEq,decide_eq_true_eq] at hv
     obtain ⟨⟨b1,b2,b3⟩,rfl⟩:=hv
     have hr:=s.ev x
     rw [hx] at hr
     obtain ⟨hid,e1,hln,h0,_⟩:=arr_rel s.inv hr hob
     obtain ⟨m,t', e,u1,u2,u3,u4,u5,u6,u7,u8,u9,_⟩:=arrK_spec hT (hT t d hd) hak
     have hsz:=run_sizeOf1 u3 u5
     have rv:AVR η st.heap.length w (.ptr id n.toNat 1 0) (.pointer (some ((⟨η.ι id,0,none⟩:Addr).add (n.toNat*1)))):=by
      have:=@AVR.ptr η st.heap.length w id n.toNat 1 0 hid (by omega)
      rw [addr_at,Nat.zero_add];exact this
     refine wp_value (w':=w) ?_ (hp _ _ _ _ _ hk s rv)
     simp [execOp,ho,e1,ei,Instr.indexAt,asIntOf,run_underlying u1,hsz,Instr.sureAddr,b1,show n<(m:Int) by omega]
    ·cases hv
   ·cases hv
  ·cases hv
 ·cases hv
theorem op_idxArr [DF] (hT:TTok P tt) (s:SR N w0 η0 h0 we η st a w) {t:TypeId} {x i:Operand} (ho:o.op=.index t x i) {n:Int} (hi:(st.ev i).asInt=some n) {b:Bool} {v:AV} (hv:arrIdx tt t (st.ev x) n=some (b,v))
  (hk:cond b (K v st) none=some r) (hp:Post N w0 η0 h0 we K r o a next):o.wp P a w next Q:=by
 obtain ⟨rfl,hk⟩:=cond_none hk
 obtain ⟨k,ei⟩:=asInt_rel (s.ev i) hi
 unfold arrIdx at hv
 split at hv
 ·rename_i cs d hx hd
  split at hv
  ·rename_i k' hak
   obtain ⟨l,hl,hv⟩:=Option.bind_eq_some_iff.1 hv
   split at hv
   ·rename_i hlen
    simp only [Option.some.injEq,Prod.mk.injEq,decide_eq_true_eq] at hv
    obtain ⟨⟨b1,b2⟩,rfl⟩:=hv
    have hr:=s.ev x
    rw [hx] at hr
    generalize hu:a.eval x=u at hr
    obtain ⟨m,t', e,u1,u2,u3,u4,u5,u6,u7,u8,u9,u10⟩:=arrK_spec hT (hT t d hd) hak
    have hsz:=run_sizeOf1 u3 u5
    obtain ⟨g1,g2⟩:=intRow_rel cs l hl
    cases hr with
    | @agg _ vs hs hc =>
     have hlt:n.toNat<l.length:=by omega
     obtain ⟨fr,h3⟩:=g2 n.toNat (l.getD n.toNat 0) (getD_get 0 hlt)
     have h4:=int_rel (hc _ _ h3)
     have h5:vs[n.toNat]? = some (.int k' (l.getD n.toNat 0)):=by rw [getElem?_getD (by omega),h4]
     refine wp_value (w':=w) (x:=.int k' (l.getD n.toNat 0)) ?_ (hp _ _ _ _ _ hk s (ofInt_rel' _))
     simp [execOp,ho,hu,ei,Instr.index,asIntOf,run_underlying u1,hsz,b1,show n<(m:Int) by omega,part,run_isAgg' u3,u10,h5]
   ·cases hv
  ·cases hv
 ·cases hv
end
end Go.Proofs.Ytccelbeahdcooaa.Eng
